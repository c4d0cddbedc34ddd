/- Parts of the proof of ScriptCuts: contracts of functions that it reaches, and plain lemmas. No condition of their own. -/
import Derived.Test.YtkghejaimhoboaaGreatDoorPk01
import Derived.Test.YtkghejaimhoboaaGreatDoorProg
import Derived.Laws.Bits128
set_option linter.unusedSimpArgs false
set_option linter.unusedVariables false
set_option maxRecDepth 100000
set_option maxHeartbeats 8000000
namespace Go.Proofs.YtkghejaimhoboaaGreatDoor
open Go.RowKit Go.Shelf
section
def mayL (n : Int) : Bool := decide (0 <= n) && decide (n <= 268435455)
theorem len_may (n : Int) (w : World) :
  Calls Tryz.prog 217 #[.int .i64 n] w fun e w' => e = .returned (.bool (mayL n)) /\ w = w' := by
 unfold mayL
 go_enter Tryz.func217, Tryz.ntmps217
 go_wp2
 all_goals go_ret
 all_goals (refine ⟨?_, rfl⟩; simp_all)
 all_goals omega
theorem len_bounds (w : World) :
  Calls Tryz.prog 219 #[] w fun e w' => e = .returned (.agg #[.int .i64 0, .int .i64 128, .int .i64 16384, .int .i64 2097152, .int .i64 268435456]) /\ Below w.heap.size w w' := by
 go_enter Tryz.func219, Tryz.ntmps219
 go_wp2
 refine wp_loop_rounds 5 ?_
 rw [rounds_succ]; go_wp2
 rw [rounds_succ]; go_wp2
 rw [rounds_succ]; go_wp2
 rw [rounds_succ]; go_wp2
 rw [rounds_succ]; go_wp2
 exact bodyPost_ret (v := .agg #[.int .i64 0, .int .i64 128, .int .i64 16384, .int .i64 2097152, .int .i64 268435456]) (by simp [results, Tryz.results219, go_sem]) rfl
  ⟨rfl, ((Below.refl _ _).alloc (Nat.le_refl _) _).alloc (by simp) _⟩
theorem len_size1 (n x : Int) (b : Nat) (w : World) (hc : w.cell? ⟨b, 0, none⟩ = some (.int .i64 n)) :
  Calls Tryz.prog 221 #[.int .i64 x, .pointer (some ⟨b, 0, none⟩)] w fun e w' => e = .returned (.bool (decide (n < x))) /\ w = w' := by
 go_enter Tryz.func221, Tryz.ntmps221
 go_wp2
 go_ret
 exact ⟨rfl, rfl⟩
theorem len_all1 (x : Int) (w : World) :
  Calls Tryz.prog 216 #[.int .i64 x] w fun e w' => e = .returned (.bool (!mayL x)) /\ w = w' := by
 go_enter Tryz.func216, Tryz.ntmps216
 go_wp2_with (go_at_call 217; refine (len_may _ _).mono ?_; rintro e w' ⟨rfl, rfl⟩)
 go_ret
 exact ⟨rfl, rfl⟩
theorem len_read1 (x : UInt8) (w : World) :
  Calls Tryz.prog 163 #[.int .u8 x.toNat] w fun e w' => e = .returned (.bool (decide (x.toNat < 128))) /\ w = w' := by
 go_enter Tryz.func163, Tryz.ntmps163
 go_wp2
 go_ret
 refine ⟨?_, rfl⟩
 simp
 omega
theorem indexFunc_byte (g : Nat) (lb : Array Value) (p : UInt8 -> Bool) (a : Option Addr) (n cap : Nat) (l : List UInt8) (w : World) (h : RowAt w a n cap (bs l))
 (eg : ∀ args w, (callFunc g args).run Tryz.prog w = .ok (.enter g args) w) (hg : ∀ (x : UInt8), Calls Tryz.prog g (#[.int .u8 x.toNat] ++ lb) w fun e w' => e = .returned (.bool (p x)) /\ w = w') :
  Calls Tryz.prog 162 #[.slice a n cap, .func (.func g) #[] lb] w fun e w' => e = .returned (.int .i64 (idxOf p l)) /\ w = w' := by
 have hle := h.le
 have hmax := h.max
 have hlen : l.length = n := by have := h.len; rwa [bs_len] at this
 have HL := hid hlen; clear hlen
 have HG := hid hg; clear hg
 unfold maxLen at hmax
 go_enter Tryz.func162, Tryz.ntmps162
 go_wp2
 go_loop [4,5,8] (fun _ _ i => ∃ k : Nat, k <= n /\ i = .int .i64 k /\ Hid (∀ j, j < k -> p (l[j]?.getD 0) = false)) (fun _ _ i => n - (intOf i).toNat)
 case atStart => exact ⟨0, Nat.zero_le _, rfl, fun j hj => absurd hj (Nat.not_lt_zero _)⟩
 case round =>
  obtain ⟨k, hk, rfl, hj⟩ := hrel
  by_cases hlt : k < n
  ·obtain ⟨b, off, ha, hcell⟩ := h.byte hlt
   subst ha;clear h;go_wp2_with fail
   refine (HG.out _).mono ?_
   rintro e w' ⟨rfl, rfl⟩
   cases hp : p (l[k]?.getD 0)
   ·go_wp2
    go_round
    case rel =>
     refine ⟨k + 1, by omega, by go_num, fun j hj' => ?_⟩
     by_cases he : j = k
     ·subst he; exact hp
     ·exact hj j (by omega)
    case measure => simp [intOf]; omega
   ·go_wp2
    go_ret
    refine ⟨?_, rfl⟩
    have hl := HL.out
    rw [idxOf_at p l k (by omega) (fun j hj' => by have := hj j hj'; rwa [List.getElem?_eq_getElem (by omega)] at this) (by rwa [List.getElem?_eq_getElem (by omega)] at hp)]
    rfl
  ·go_wp2
   go_ret
   refine ⟨?_, rfl⟩
   have hl := HL.out
   rw [idxOf_none p l (fun x hx => by
    obtain ⟨j, hj', rfl⟩ := List.getElem_of_mem hx
    have := hj j (by omega)
    rwa [List.getElem?_eq_getElem hj'] at this)]
   rfl
theorem indexFunc_i64 (g : Nat) (lb : Array Value) (p : Int -> Bool) (a : Option Addr) (n cap : Nat) (l : List Int) (w : World) (h : RowAt w a n cap (ns .i64 l))
 (eg : ∀ args w, (callFunc g args).run Tryz.prog w = .ok (.enter g args) w) (hg : ∀ (x : Int), Calls Tryz.prog g (#[.int .i64 x] ++ lb) w fun e w' => e = .returned (.bool (p x)) /\ w = w') :
  Calls Tryz.prog 220 #[.slice a n cap, .func (.func g) #[] lb] w fun e w' => e = .returned (.int .i64 (idxOf p l)) /\ w = w' := by
 have hle := h.le
 have hmax := h.max
 have hlen : l.length = n := by have := h.len; rwa [ns_len] at this
 have HL := hid hlen; clear hlen
 have HG := hid hg; clear hg
 unfold maxLen at hmax
 go_enter Tryz.func220, Tryz.ntmps220
 go_wp2
 go_loop [4,5,8] (fun _ _ i => ∃ k : Nat, k <= n /\ i = .int .i64 k /\ Hid (∀ j, j < k -> p (l[j]?.getD 0) = false)) (fun _ _ i => n - (intOf i).toNat)
 case atStart => exact ⟨0, Nat.zero_le _, rfl, fun j hj => absurd hj (Nat.not_lt_zero _)⟩
 case round =>
  obtain ⟨k, hk, rfl, hj⟩ := hrel
  by_cases hlt : k < n
  ·obtain ⟨b, off, ha, hcell⟩ := h.num hlt
   subst ha;clear h;go_wp2_with fail
   refine (HG.out _).mono ?_
   rintro e w' ⟨rfl, rfl⟩
   cases hp : p (l[k]?.getD 0)
   ·go_wp2
    go_round
    case rel =>
     refine ⟨k + 1, by omega, by go_num, fun j hj' => ?_⟩
     by_cases he : j = k
     ·subst he; exact hp
     ·exact hj j (by omega)
    case measure => simp [intOf]; omega
   ·go_wp2
    go_ret
    refine ⟨?_, rfl⟩
    have hl := HL.out
    rw [idxOf_at p l k (by omega) (fun j hj' => by have := hj j hj'; rwa [List.getElem?_eq_getElem (by omega)] at this) (by rwa [List.getElem?_eq_getElem (by omega)] at hp)]
    rfl
  ·go_wp2
   go_ret
   refine ⟨?_, rfl⟩
   have hl := HL.out
   rw [idxOf_none p l (fun x hx => by
    obtain ⟨j, hj', rfl⟩ := List.getElem_of_mem hx
    have := hj j (by omega)
    rwa [List.getElem?_eq_getElem hj'] at this)]
   rfl
end
section
def sizeL (n : Int) : Nat := if mayL n = false then 0 else if n < 128 then 1 else if n < 16384 then 2 else if n < 2097152 then 3 else 4
theorem mayL_iff (n : Int) : mayL n = true ↔ 0 <= n /\ n <= 268435455 := by simp [mayL]
theorem containsFunc_i64 (g : Nat) (lb : Array Value) (p : Int -> Bool) (a : Option Addr) (n cap : Nat) (l : List Int) (w : World) (h : RowAt w a n cap (ns .i64 l))
 (eg : ∀ args w, (callFunc g args).run Tryz.prog w = .ok (.enter g args) w) (hg : ∀ (x : Int), Calls Tryz.prog g (#[.int .i64 x] ++ lb) w fun e w' => e = .returned (.bool (p x)) /\ w = w') :
  Calls Tryz.prog 215 #[.slice a n cap, .func (.func g) #[] lb] w fun e w' => e = .returned (.bool (decide (0 <= idxOf p l))) /\ w = w' := by
 have HG := hid (indexFunc_i64 g lb p a n cap l w h eg hg)
 clear hg eg;go_enter Tryz.func215, Tryz.ntmps215
 go_wp2_with fail
 refine HG.out.mono ?_
 rintro e w' ⟨rfl, rfl⟩
 go_wp2
 go_ret
 exact ⟨rfl, rfl⟩
theorem len_size (n : Int) (w : World) :
  Calls Tryz.prog 165 #[.int .i64 n] w fun e w' => e = .returned (.int .i64 (sizeL n)) /\ Below w.heap.size w w' := by
 cases hm : mayL n
 ·go_enter Tryz.func165, Tryz.ntmps165
  go_wp2_with (go_at_call 217; refine (len_may _ _).mono ?_; rintro e w' ⟨rfl, rfl⟩)
  go_ret
  exact ⟨by simp [sizeL, hm], (Below.refl _ _).alloc (Nat.le_refl _) _⟩
 ·go_enter Tryz.func165, Tryz.ntmps165
  go_wp2_with (go_at_call 217; refine (len_may _ _).mono ?_; rintro e w' ⟨rfl, rfl⟩)
  refine (len_bounds _).mono ?_
  rintro e w1 ⟨rfl, hb⟩
  have hc1 : w1.cell? ⟨w.heap.size, 0, none⟩ = some (.int .i64 n) := by
   rw [hb.cell (p := ⟨w.heap.size, 0, none⟩) (by simp)]; go_simp
  have hz := hb.size
  simp at hz
  go_wp2_with fail
  have hrow : RowAt (w1.alloc (Obj.cells #[.int .i64 0, .int .i64 128, .int .i64 16384, .int .i64 2097152, .int .i64 268435456] 250)) (some ⟨w1.heap.size, 0, none⟩) 5 5 (ns .i64 [0, 128, 16384, 2097152, 268435456]) :=
   RowAt.new w1 _ _ _ (by simp [maxLen])
  have hc2 := cell_alloc hc1 (Obj.cells #[.int .i64 0, .int .i64 128, .int .i64 16384, .int .i64 2097152, .int .i64 268435456] 250)
  refine (indexFunc_i64 221 #[.pointer (some ⟨w.heap.size, 0, none⟩)] (fun x => decide (n < x)) _ 5 5 _ _ hrow (enters_of Tryz.func221 (by kernel_rfl) rfl) (fun x => len_size1 n x _ _ hc2)).mono ?_
  rintro e w' ⟨rfl, rfl⟩
  go_wp2
  go_ret
  refine ⟨?_, ?_⟩
  ·have hm' := (mayL_iff n).1 hm
   congr 2
   simp only [sizeL, hm, idxOf]
   have h0 : ¬ n < 0 := by omega
   have h5 : n < 268435456 := by omega
   by_cases h1 : n < 128 <;> by_cases h2 : n < 16384 <;> by_cases h3 : n < 2097152 <;> simp [h0, h1, h2, h3, h5] <;> omega
  ·exact (((Below.refl _ w).alloc (Nat.le_refl _) _).trans (hb.mono (by simp))).alloc (by omega) _
end
section
theorem len_bytes1 (n b : Nat) (w : World) (hn : n < 268435456) (hc : w.cell? ⟨b, 0, none⟩ = some (.int .i64 n)) (hf : w.frozen? ⟨b, 0, none⟩ = false) :
  Calls Tryz.prog 244 #[.pointer (some ⟨b, 0, none⟩)] w fun e w' => e = .returned (.int .u8 (if n < 128 then n else n % 128 + 128 : Nat)) /\ w.setCell ⟨b, 0, none⟩ (.int .i64 (n / 128 : Nat)) = w' := by
 have e1 : bits .and .i64 (n : Int) 127 = n % 128 := i64_and127 _
 have e2 : bits .or .u8 ((n : Int) % 128) 128 = n % 128 + 128 := u8_or128_right _ (by omega) (by omega)
 by_cases h : n < 128
 ·have e3 : (n : Int) % 128 = n := by omega
  have e4 : (n : Int) / 128 = 0 := by omega
  go_enter Tryz.func244, Tryz.ntmps244
  go_wp2
  go_ret
  exact ⟨by simp [h], by simp [e4]⟩
 ·have e3 : (n : Int) % 128 % 256 = n % 128 := by omega
  have e4 : 0 < (n : Int) / 128 := by omega
  go_enter Tryz.func244, Tryz.ntmps244
  go_wp2
  go_ret
  exact ⟨by simp [h], rfl⟩
theorem len_bytes (n : Int) (w : World) :
  Calls Tryz.prog 218 #[.int .i64 n] w fun e w' => e = .returned (.func (.func 244) #[] #[.pointer (some ⟨w.heap.size, 0, none⟩)]) /\ w.alloc (.cells #[.int .i64 n] 2) = w' := by
 go_enter Tryz.func218, Tryz.ntmps218
 go_wp2
 go_ret
 exact ⟨rfl, rfl⟩
def rawL : Nat -> Nat -> List UInt8
 | 0, _ => []
 | s + 1, n => (if n < 128 then UInt8.ofNat n else UInt8.ofNat (n % 128 + 128)) :: rawL s (n / 128)
def byteL (n : Nat) : UInt8 := if n < 128 then UInt8.ofNat n else UInt8.ofNat (n % 128 + 128)
theorem rawL_len (s n : Nat) : (rawL s n).length = s := by
 induction s generalizing n with
 | zero => rfl
 | succ s ih => simp [rawL, ih]
theorem rawL_snoc (s n : Nat) : rawL (s + 1) n = rawL s n ++ [byteL (n / 128 ^ s)] := by
 induction s generalizing n with
 | zero => simp [rawL, byteL]
 | succ s ih =>
  rw [rawL, ih (n / 128)]
  simp only [rawL, List.cons_append, Nat.div_div_eq_div_mul, Nat.pow_succ', Nat.mul_comm]
def allL (l : List Int) : List UInt8 := l.flatMap fun n => rawL (sizeL n) n.toNat
theorem allL_snoc (l : List Int) (k : Nat) (h : k < l.length) : allL (l.take (k + 1)) = allL (l.take k) ++ rawL (sizeL l[k]) l[k].toNat := by
 rw [List.take_succ_eq_append_getElem h]; simp only [allL, List.flatMap_append, List.flatMap_cons, List.flatMap_nil, List.append_nil]
theorem sizeL_le (n : Int) : sizeL n <= 4 := by unfold sizeL; repeat (split <;> try omega)
theorem allL_le (l : List Int) : (allL l).length <= 4 * l.length := by
 induction l with
 | nil => simp [allL]
 | cons n l ih =>
  have h : allL (n :: l) = rawL (sizeL n) n.toNat ++ allL l := by simp [allL]
  rw [h, List.length_append, rawL_len, List.length_cons]
  have := sizeL_le n
  omega
theorem Tryz.eByte : ElemT Tryz.prog 22 5 (.int .u8 0) 1 1 := ⟨Tryz.underlying22, by kernel_rfl, rfl⟩
theorem Tryz.infoB : (Tryz.prog.info? 5).map (fun i => (i.zero, i.size, i.bytes)) = some (some (.int .u8 0), 1, 1) := by kernel_rfl
theorem bs_snoc (l : List UInt8) (x : UInt8) : bs (l ++ [x]) = bs l ++ [.int .u8 x.toNat] := by simp [bs]
theorem byteL_int (n : Nat) : ((if n < 128 then n else n % 128 + 128 : Nat) : Int) = ((byteL n).toNat : Int) := by
 unfold byteL; split <;> simp <;> omega
def AllOk (l : List Int) (w : World) (e : Ending) (w' : World) : Prop :=
 ∃ v, e = .returned (.tuple #[v, .int .i64 0]) /\ w'.ownsRow w.heap.size 5 1 v (allL l).length (bs (allL l)) /\ Below w.heap.size w w'
theorem len_all (a : Option Addr) (n cap : Nat) (l : List Int) (w : World) (h : RowAt w a n cap (ns .i64 l)) (hn : n <= 1000000) (hl : ∀ x ∈ l, mayL x = true) :
  Calls Tryz.prog 159 #[.slice a n cap] w (AllOk l w) := by
 have hlen : l.length = n := by have := h.len; rwa [ns_len] at this
 have HL := hid hlen; clear hlen
 have HC := hid (containsFunc_i64 216 #[] (fun x => !mayL x) a n cap l w h (enters_of Tryz.func216 (by kernel_rfl) rfl) (fun x => len_all1 x w))
 rw [idxOf_none (fun x => !mayL x) l (fun x hx => by simp [hl x hx])] at HC
 obtain ⟨i0, hi, hz0, hz1, hz2⟩ := info_parts Tryz.infoB
 go_enter Tryz.func159, Tryz.ntmps159
 go_wp2_with fail
 apply wp_scope_fwd 0 rfl
 go_wp2_with fail
 refine HC.out.mono ?_
 rintro e w' ⟨rfl, rfl⟩
 go_wp2_with fail
 go_loopw [2, 11] (fun v i wr => ∃ k : Nat, k <= n /\ i = .int .i64 k /\ wr.ownsRow w.heap.size 5 1 v (allL (l.take k)).length (bs (allL (l.take k))) /\ Below w.heap.size w wr) (fun _ i _ => n - (intOf i).toNat)
 case atStart => exact ⟨0, Nat.zero_le _, rfl, World.ownsRow_nil _ _ _ _, Below.refl _ _⟩
 case round =>
  obtain ⟨k, hk, rfl, hown, hbel⟩ := hrel
  by_cases hlt : k < n
  ·obtain ⟨b, off, ha, hcell⟩ := (h.below hbel).num hlt
   subst ha
   have hx : mayL (l[k]?.getD 0) = true := by
    have := HL.out
    rw [List.getElem?_eq_getElem (by omega)]; exact hl _ (List.getElem_mem _)
   obtain ⟨x, hX⟩ : ∃ x, x = l[k]?.getD 0 := ⟨_, rfl⟩
   rw [<- hX] at hcell hx
   obtain ⟨h0, h5⟩ := (mayL_iff x).1 hx
   obtain ⟨m, rfl⟩ := Int.eq_ofNat_of_zero_le h0
   have HX := hid hX; clear hX hx h0
   have hle4 := sizeL_le m
   go_wp2_with fail
   refine (len_bytes _ _).mono ?_
   rintro e w1 ⟨rfl, rfl⟩
   go_wp2_with fail
   refine (len_size _ _).mono ?_
   rintro e w2 ⟨rfl, hb2⟩
   generalize hS : sizeL m = s at *
   have HS := hid hS; clear hS
   have hbox : Boxed w2 wr.heap.size 2 (.int .i64 m) := boxed_below (Boxed.new _ _ _) (hb2.mono (by simp))
   have hown2 := ownsRow_below (hown.alloc (.cells #[.int .i64 m] 2)) hb2
   have hbel2 : Below w.heap.size w w2 := (hbel.alloc hbel.size _).trans (hb2.mono (by have := hbel.size; simp; omega))
   have hBsz : w.heap.size <= wr.heap.size := hbel.size
   have hpl := allL_le (l.take k)
   have hpl2 : (l.take k).length <= k := List.length_take_le _ _
   generalize hP : allL (l.take k) = pre at *
   have HP := hid hP; clear hP
   generalize hB : wr.heap.size = B at *
   clear hB hbel hown hb2 hcell h;go_wp2_with fail
   go_loopw [2, 19] (fun v i wq => ∃ j : Nat, j <= s /\ i = .int .i64 j /\ Boxed wq B 2 (.int .i64 (m / 128 ^ j : Nat)) /\ wq.ownsRow w.heap.size 5 1 v (pre ++ rawL j m).length (bs (pre ++ rawL j m)) /\ Below w.heap.size w wq) (fun _ i _ => s - (intOf i).toNat)
   case atStart => exact ⟨0, Nat.zero_le _, rfl, by simpa using hbox, by simpa [rawL] using hown2, hbel2⟩
   case round =>
    obtain ⟨j, hj, rfl, hbx, how, hbl⟩ := hrel
    clear hbox hown2 hbel2;by_cases hjs : j < s
    ·obtain ⟨q, hQ⟩ : ∃ q, q = m / 128 ^ j := ⟨_, rfl⟩
     have hqm : q <= m := by rw [hQ]; exact Nat.div_le_self _ _
     rw [<- hQ] at hbx
     have HQ := hid hQ; clear hQ
     have hrl := rawL_len j m
     have hBw := hbl.size
     obtain ⟨y, hy⟩ : ∃ y : UInt8, y = byteL q := ⟨_, rfl⟩
     have HY := hid hy; clear hy
     have hY : ((if q < 128 then q else q % 128 + 128 : Nat) : Int) = (y.toNat : Int) := by rw [HY.out]; exact byteL_int q
     have HC1 := len_bytes1 q B wr (by omega) hbx.cell hbx.frozen
     rw [hY] at HC1
     have HC1' := hid HC1; clear HC1 hY
     generalize hZ : pre ++ rawL j m = z at *
     have hzl : z.length <= 4 * 1000000 + 4 := by rw [<- hZ, List.length_append, hrl]; omega
     have HZ := hid hZ; clear hZ hrl
     have how2 := ownsRow_setCell_other how (a := ⟨B, 0, none⟩) (fun e => hbx.not_row (by decide) how e.symm) (.int .i64 (q / 128 : Nat))
     have hbx2 := hbx.set (.int .i64 (q / 128 : Nat))
     have hbl2 := hbl.setCell (p := ⟨B, 0, none⟩) (by simpa using hBsz) (.int .i64 (q / 128 : Nat))
     go_wp2_with fail
     refine HC1'.out.mono ?_
     rintro e w3 ⟨rfl, hw3⟩
     rw [hw3] at how2 hbx2 hbl2
     clear hw3 HC1';have hs3 := hbl2.size
     go_wp2_with (at_builtin; refine append_one rfl _ _ rfl Tryz.eByte w.heap.size _ _ _ rfl how2 (.int .u8 y.toNat) rfl rfl (by omega) (by omega) (by omega) ?_; intro v' w4 how4 hg4)
     go_roundw
     case rel =>
      refine ⟨j + 1, by omega, by go_num, ?_, ?_, ?_⟩
      ·have h1 := hbx2.kept hg4 (hbx2.not_row (by decide) how2)
       rw [HQ.out, Nat.div_div_eq_div_mul, <- Nat.pow_succ] at h1
       exact h1
      ·have h1 := rawL_snoc j m
       rw [h1, <- HQ.out, <- HY.out, <- List.append_assoc, HZ.out, bs_snoc, List.length_append]
       exact how4
      ·exact hbl2.grown hg4 (by omega) (fun k hk => (how2.lt k hk).1)
     case measure => simp [intOf]; omega
    ·obtain rfl : j = s := by omega
     clear hjs;go_wp2
     go_roundw
     case rel =>
      refine ⟨k + 1, by omega, by go_num, ?_, hbl⟩
      have hl2 := HL.out
      rw [allL_snoc l k (by omega), HP.out]
      have h1 := HX.out
      rw [List.getElem?_eq_getElem (by omega), Option.getD_some] at h1
      rw [<- h1, HS.out, Int.toNat_natCast]
      exact how
     case measure => simp [intOf]; omega
  ·obtain rfl : k = n := by omega
   clear hlt;go_wp2
   rw [exitFwd_ret]
   go_ret2
   have hl2 := HL.out
   rw [List.take_of_length_le (by omega)] at hown
   exact ⟨_, rfl, hown, hbel⟩
end
section
def takenL : List UInt8 -> Nat
 | [] => 0
 | x :: l => x.toNat % 128 + 128 * takenL l
theorem takenL_snoc (l : List UInt8) (x : UInt8) : takenL (l ++ [x]) = takenL l + 128 ^ l.length * (x.toNat % 128) := by
 induction l with
 | nil => simp [takenL]
 | cons y l ih => 
  simp only [List.cons_append, takenL, ih, List.length_cons, Nat.pow_succ', Nat.mul_add, Nat.mul_assoc]
  omega
theorem takenL_lt (l : List UInt8) : takenL l < 128 ^ l.length := by
 induction l with
 | nil => simp [takenL]
 | cons y l ih => 
  simp only [takenL, List.length_cons, Nat.pow_succ']
  have := Nat.mod_lt y.toNat (show 128 > 0 by omega)
  omega
theorem wraps_i64 (n : Int) (h₀ : 0 <= n) (h₁ : n < 2 ^ 62) : IntKind.i64.wrap n = n := by rw [IntKind.wrap_i64]; omega
theorem u8_and127 (x : Int) (h₀ : 0 <= x) (h₁ : x < 256) : bits .and .u8 x 127 = x % 128 := bits_mask .u8 8 (by decide) wraps_u8 7 (by decide) x h₀ h₁
theorem i64_or_low (i t y : Nat) (ht : t < 2 ^ i) (hy : 2 ^ i * y < 2 ^ 62) (hi : i <= 62) : bits .or .i64 (t : Int) ((2 ^ i * y : Nat) : Int) = ((t + 2 ^ i * y : Nat) : Int) := by
 have ht' : t < 2 ^ 62 := Nat.lt_of_lt_of_le ht (Nat.pow_le_pow_right (by decide) hi)
 rw [(bits_nat .i64 62 (by decide) wraps_i64 t _ ht' hy).2, Nat.or_comm, <- Nat.two_pow_add_eq_or_of_lt ht y, Nat.add_comm]
theorem taken_step (t k : Nat) (x : UInt8) (ht : t < 128 ^ k) (hk : k < 4) :
  bits BinOp.or IntKind.i64 (t : Int) (wrap64 (wrap64 (bits BinOp.and IntKind.u8 (x.toNat : Int) 127) * 2 ^ (7 * k))) = ((t + 128 ^ k * (x.toNat % 128) : Nat) : Int) := by
 have hx : x.toNat < 256 := x.toNat_lt
 have h128 : ∀ j, 128 ^ j = 2 ^ (7 * j) := fun j => by rw [Nat.pow_mul]
 rw [u8_and127 _ (by omega) (by omega)]
 have hm : x.toNat % 128 < 128 := Nat.mod_lt _ (by decide)
 have h2 : 2 ^ (7 * k) * (x.toNat % 128) < 2 ^ 28 := by
  have h1 : 2 ^ (7 * k) <= 2 ^ 21 := Nat.pow_le_pow_right (by decide) (by omega)
  have h3 := Nat.mul_lt_mul_of_le_of_lt h1 hm (Nat.two_pow_pos _)
  exact h3
 have e1 : wrap64 ((x.toNat : Int) % 128) = ((x.toNat % 128 : Nat) : Int) := by unfold wrap64; omega
 rw [e1]
 have e2 : (((x.toNat % 128 : Nat) : Int) * 2 ^ (7 * k)) = ((2 ^ (7 * k) * (x.toNat % 128) : Nat) : Int) := by
  rw [Int.natCast_mul, Int.mul_comm]; simp
 rw [e2]
 have e3 : wrap64 ((2 ^ (7 * k) * (x.toNat % 128) : Nat) : Int) = ((2 ^ (7 * k) * (x.toNat % 128) : Nat) : Int) := by unfold wrap64; omega
 rw [e3, h128, i64_or_low (7 * k) t _ (by rw [<- h128]; exact ht) (Nat.lt_of_lt_of_le h2 (by decide)) (by omega)]
theorem len_taken (a : Option Addr) (n cap : Nat) (l : List UInt8) (w : World) (h : RowAt w a n cap (bs l)) (hn : n <= 4) :
  Calls Tryz.prog 164 #[.slice a n cap] w fun e w' => e = .returned (.int .i64 (takenL l)) /\ w = w' := by
 have hlen : l.length = n := by have := h.len; rwa [bs_len] at this
 have HL := hid hlen; clear hlen
 go_enter Tryz.func164, Tryz.ntmps164
 go_wp2
 go_loop [3, 9] (fun t i => ∃ k : Nat, k <= n /\ i = .int .i64 k /\ t = .int .i64 (takenL (l.take k))) (fun _ i => n - (intOf i).toNat)
 case atStart => exact ⟨0, Nat.zero_le _, rfl, rfl⟩
 case round =>
  obtain ⟨k, hk, rfl, rfl⟩ := hrel
  by_cases hlt : k < n
  ·obtain ⟨b, off, ha, hcell⟩ := h.byte hlt
   subst ha;clear h;obtain ⟨x, hX⟩ : ∃ x, x = l[k]?.getD 0 := ⟨_, rfl⟩
   rw [<- hX] at hcell 
   have HX := hid hX; clear hX
   generalize hT : takenL (l.take k) = t at *
   have HT := hid hT; clear hT
   go_wp2
   go_round
   case rel =>
    refine ⟨k + 1, by omega, by go_num, ?_⟩
    have hl := HL.out
    have hlk : (l.take k).length = k := by simp; omega
    have hlt' := takenL_lt (l.take k)
    rw [HT.out, hlk] at hlt'
    rw [taken_step t k x hlt' (by omega), List.take_succ_eq_append_getElem (by omega), takenL_snoc, HT.out, hlk]
    have h1 := HX.out
    rw [List.getElem?_eq_getElem (by omega), Option.getD_some] at h1
    rw [h1]
   case measure => simp [intOf]; omega
  ·obtain rfl : k = n := by omega
   clear hlt;go_wp2
   go_ret
   have hl := HL.out
   rw [List.take_of_length_le (by omega)]
   exact ⟨rfl, rfl⟩
def readL (l : List UInt8) : Int × Int × Int :=
 let e := idxOf (fun x : UInt8 => decide (x.toNat < 128)) (l.take 4)
 if e < 0 then (if 4 <= l.length then (0, 0, 250) else (0, 0, 0))
 else if sizeL (takenL (l.take (e.toNat + 1))) = e.toNat + 1 then (takenL (l.take (e.toNat + 1)), e + 1, 0) else (0, 0, 250)
theorem len_read (a : Option Addr) (n cap : Nat) (l : List UInt8) (w : World) (h : RowAt w a n cap (bs l)) :
  Calls Tryz.prog 96 #[.slice a n cap] w fun e w' => e = .returned (.tuple #[.int .i64 (readL l).1, .int .i64 (readL l).2.1, .int .i64 (readL l).2.2]) /\ Below w.heap.size w w' := by
 have hlen : l.length = n := by have := h.len; rwa [bs_len] at this
 have hle := h.le
 have hmax := h.max
 unfold maxLen at hmax
 have HC := indexFunc_byte 163 #[] (fun x => decide (x.toNat < 128)) a (min n 4) cap (l.take 4) w (by
  have := h.take (min n 4) (Nat.min_le_left _ _)
  rw [bs_take, show l.take (min n 4) = l.take 4 from by
   rcases Nat.le_total n 4 with h1 | h1
   ·rw [Nat.min_eq_left h1, List.take_of_length_le (by omega), List.take_of_length_le (by omega)]
   ·rw [Nat.min_eq_right h1]] at this
  exact this) (enters_of Tryz.func163 (by kernel_rfl) rfl) (fun x => len_read1 x w)
 obtain ⟨E, hE⟩ : ∃ E, E = idxOf (fun x : UInt8 => decide (x.toNat < 128)) (l.take 4) := ⟨_, rfl⟩
 have hr := idxOf_lt (fun x : UInt8 => decide (x.toNat < 128)) (l.take 4)
 rw [<- hE] at HC hr
 have hr1 : E < n := by have h1 := hr.1; simp at h1; omega
 have hr2 : E < 4 := by have h1 := hr.1; simp at h1; omega
 have hr3 := hr.2
 clear hr
 have hR : readL l = if E < 0 then (if 4 <= n then (0, 0, 250) else (0, 0, 0)) else if sizeL (takenL (l.take (E.toNat + 1))) = E.toNat + 1 then (((takenL (l.take (E.toNat + 1)) : Nat) : Int), E + 1, 0) else (0, 0, 250) := by
  rw [hE, <- hlen]; rfl
 have HR := hid hR;have HE := hid hE;have HL := hid hlen;clear hR hE hlen;rcases Int.lt_or_le E 0 with hE0 | hE0
 ·rw [if_pos hE0] at HR
  have h4 : n < 4 \/ n = 4 \/ 4 < n := by omega
  rcases h4 with h4 | rfl | h4
  all_goals
   first | rw [if_pos (show 4 <= 4 from Nat.le_refl _)] at HR | rw [if_pos (show 4 <= n by omega)] at HR | rw [if_neg (show ¬ 4 <= n by omega)] at HR
   first | rw [show min 4 4 = 4 from rfl] at HC | rw [show min n 4 = 4 from by omega] at HC | rw [show min n 4 = n from by omega] at HC
   have HC := hid HC;go_enter Tryz.func96, Tryz.ntmps96
   go_wp2_with fail
   refine HC.out.mono ?_
   rintro e w' ⟨rfl, rfl⟩
   go_wp2
   go_ret3
   rw [HR.out]
   exact ⟨rfl, Below.refl _ _⟩
 ·obtain ⟨q, rfl⟩ := Int.eq_ofNat_of_zero_le hE0
  rw [if_neg (show ¬ (q : Int) < 0 by omega)] at HR
  have HT := hid (len_taken a (q + 1) cap (l.take (q + 1)) w (by rw [<- bs_take]; exact h.take _ (by omega)) (by omega))
  rw [Int.toNat_natCast] at HR
  generalize hz : takenL (l.take (q + 1)) = z at *
  have HZ := hid hz; clear hz
  have h4 : n < 4 \/ n = 4 \/ 4 < n := by omega
  rcases h4 with h4 | rfl | h4
  all_goals
   first | rw [show min 4 4 = 4 from rfl] at HC | rw [show min n 4 = 4 from by omega] at HC | rw [show min n 4 = n from by omega] at HC
   have HC := hid HC;go_enter Tryz.func96, Tryz.ntmps96
   go_wp2_with fail
   refine HC.out.mono ?_
   rintro e w' ⟨rfl, rfl⟩
   go_wp2_with fail
   refine HT.out.mono ?_
   rintro e w' ⟨rfl, rfl⟩
   go_wp2_with fail
   refine (len_size _ _).mono ?_
   rintro e w2 ⟨rfl, hb2⟩
   by_cases hs : sizeL z = q + 1
   ·have hs1 : ((sizeL (z : Int) : Int) == (q : Int) + 1) = true := by simp; omega
    have hs2 : ((sizeL (z : Int) : Int) != (q : Int) + 1) = false := by simp; omega
    rw [if_pos hs] at HR
    go_wp2
    go_ret3
    rw [HR.out]
    exact ⟨rfl, hb2⟩
   ·have hs1 : ((sizeL (z : Int) : Int) == (q : Int) + 1) = false := by simp; omega
    have hs2 : ((sizeL (z : Int) : Int) != (q : Int) + 1) = true := by simp; omega
    rw [if_neg hs] at HR
    go_wp2
    go_ret3
    rw [HR.out]
    exact ⟨rfl, hb2⟩
end
section
theorem sizeL_nat (z : Nat) (h : z < 268435456) : sizeL (z : Int) = if z < 128 then 1 else if z < 16384 then 2 else if z < 2097152 then 3 else 4 := by
 have hm : mayL (z : Int) = true := (mayL_iff _).2 ⟨by omega, by omega⟩
 simp only [sizeL, hm]
 rw [if_neg (by decide)]
 by_cases h1 : z < 128
 ·rw [if_pos (by omega), if_pos h1]
 ·rw [if_neg (by omega), if_neg h1]
  by_cases h2 : z < 16384
  ·rw [if_pos (by omega), if_pos h2]
  ·rw [if_neg (by omega), if_neg h2]
   by_cases h3 : z < 2097152
   ·rw [if_pos (by omega), if_pos h3]
   ·rw [if_neg (by omega), if_neg h3]
theorem sizeL_last (t k x : Nat) (ht : t < 128 ^ k) (hk : k < 4) (hx : x < 128) : (sizeL ((t + 128 ^ k * x : Nat) : Int) = k + 1) ↔ (x ≠ 0 \/ k = 0) := by
 have hk' : k = 0 \/ k = 1 \/ k = 2 \/ k = 3 := by omega
 rcases hk' with rfl | rfl | rfl | rfl
 all_goals
  simp only [Nat.reducePow, Nat.pow_zero] at ht ⊢
  rw [sizeL_nat _ (by omega)]
  repeat' split
  all_goals (constructor <;> intro _)
  all_goals first | omega | exact Or.inr trivial
end
end Go.Proofs.YtkghejaimhoboaaGreatDoor
