/- Contracts of package length: the bytes of a length, All, Raw. -/
import Derived.Test.YtjgflihokbmhiaaLenB
import Derived.Laws.Bits128
namespace Go.Proofs.Ytjgflihokbmhiaa
open Go.RowKit Go.Shelf

set_option maxHeartbeats 400000 in
theorem len_bytes1 (n b : Nat) (w : World) (hn : n < 268435456) (hc : w.cell? ⟨b, 0, none⟩ = some (.int .i64 n)) (hf : w.frozen? ⟨b, 0, none⟩ = false) :
    Calls Try.prog 54 #[.pointer (some ⟨b, 0, none⟩)] w fun e w' => e = .returned (.int .u8 (if n < 128 then n else n % 128 + 128 : Nat)) ∧ w.setCell ⟨b, 0, none⟩ (.int .i64 (n / 128 : Nat)) = w' := by
  have e1 : bits .and .i64 (n : Int) 127 = n % 128 := i64_and127 _
  have e2 : bits .or .u8 ((n : Int) % 128) 128 = n % 128 + 128 := u8_or128_right _ (by omega) (by omega)
  by_cases h : n < 128
  · have e3 : (n : Int) % 128 = n := by omega
    have e4 : (n : Int) / 128 = 0 := by omega
    go_enter Try.func54, Try.ntmps54
    go_wp2
    go_ret
    exact ⟨by simp [h], by simp [e4]⟩
  · have e3 : (n : Int) % 128 % 256 = n % 128 := by omega
    have e4 : 0 < (n : Int) / 128 := by omega
    go_enter Try.func54, Try.ntmps54
    go_wp2
    go_ret
    exact ⟨by simp [h], rfl⟩

set_option maxHeartbeats 400000 in
theorem len_bytes (n : Int) (w : World) :
    Calls Try.prog 41 #[.int .i64 n] w fun e w' => e = .returned (.func (.func 54) #[] #[.pointer (some ⟨w.heap.size, 0, none⟩)]) ∧ w.alloc (.cells #[.int .i64 n] 2) = w' := by
  go_enter Try.func41, Try.ntmps41
  go_wp2
  go_ret
  exact ⟨rfl, rfl⟩

/-- The bytes of the length n, s of them. -/
def rawL : Nat → Nat → List UInt8
  | 0, _ => []
  | s + 1, n => (if n < 128 then UInt8.ofNat n else UInt8.ofNat (n % 128 + 128)) :: rawL s (n / 128)
/-- The byte of the length n at place j. -/
def byteL (n : Nat) : UInt8 := if n < 128 then UInt8.ofNat n else UInt8.ofNat (n % 128 + 128)
theorem rawL_len (s n : Nat) : (rawL s n).length = s := by
  induction s generalizing n with
  | zero => rfl
  | succ s ih => simp [rawL, ih]
theorem rawL_snoc (s n : Nat) : rawL (s + 1) n = rawL s n ++ [byteL (n / 128 ^ s)] := by
  induction s generalizing n with
  | zero => simp [rawL, byteL]
  | succ s ih =>
    rw [rawL, ih (n / 128)]
    simp only [rawL, List.cons_append, Nat.div_div_eq_div_mul, Nat.pow_succ', Nat.mul_comm]
def allL (l : List Int) : List UInt8 := l.flatMap fun n => rawL (sizeL n) n.toNat
theorem allL_snoc (l : List Int) (k : Nat) (h : k < l.length) : allL (l.take (k + 1)) = allL (l.take k) ++ rawL (sizeL l[k]) l[k].toNat := by
  rw [List.take_succ_eq_append_getElem h]; simp only [allL, List.flatMap_append, List.flatMap_cons, List.flatMap_nil, List.append_nil]
theorem sizeL_le (n : Int) : sizeL n ≤ 4 := by unfold sizeL; repeat (split <;> try omega)
theorem allL_le (l : List Int) : (allL l).length ≤ 4 * l.length := by
  induction l with
  | nil => simp [allL]
  | cons n l ih =>
    have h : allL (n :: l) = rawL (sizeL n) n.toNat ++ allL l := by simp [allL]
    rw [h, List.length_append, rawL_len, List.length_cons]
    have := sizeL_le n
    omega
theorem Try.eByte : ElemT Try.prog 22 5 (.int .u8 0) 1 1 := ⟨Try.underlying22, by kernel_rfl, rfl⟩
theorem Try.infoB : (Try.prog.info? 5).map (fun i => (i.zero, i.size, i.bytes)) = some (some (.int .u8 0), 1, 1) := by kernel_rfl
theorem bs_snoc (l : List UInt8) (x : UInt8) : bs (l ++ [x]) = bs l ++ [.int .u8 x.toNat] := by simp [bs]
theorem byteL_int (n : Nat) : ((if n < 128 then n else n % 128 + 128 : Nat) : Int) = ((byteL n).toNat : Int) := by
  unfold byteL; split <;> simp <;> omega

def AllOk (l : List Int) (w : World) (e : Ending) (w' : World) : Prop :=
  ∃ v, e = .returned (.tuple #[v, .int .i64 0]) ∧ w'.ownsRow w.heap.size 5 1 v (allL l).length (bs (allL l)) ∧ Below w.heap.size w w'

set_option maxHeartbeats 1000000 in
theorem len_all (a : Option Addr) (n cap : Nat) (l : List Int) (w : World) (h : RowAt w a n cap (ns .i64 l)) (hn : n ≤ 1000000) (hl : ∀ x ∈ l, mayL x = true) :
    Calls Try.prog 16 #[.slice a n cap] w (AllOk l w) := by
  have hlen : l.length = n := by have := h.len; rwa [ns_len] at this
  have HL := hid hlen; clear hlen
  have HC := hid (containsFunc_i64 40 #[] (fun x => !mayL x) a n cap l w h (enters_of Try.func40 (by kernel_rfl) rfl) (fun x => len_all1 x w))
  rw [idxOf_none (fun x => !mayL x) l (fun x hx => by simp [hl x hx])] at HC
  obtain ⟨i0, hi, hz0, hz1, hz2⟩ := info_parts Try.infoB
  go_enter Try.func16, Try.ntmps16
  go_wp2_with fail
  apply wp_scope_fwd 0 rfl
  go_wp2_with fail
  refine HC.out.mono ?_
  rintro e w' ⟨rfl, rfl⟩
  go_wp2_with fail
  go_loopw [2, 11] (fun v i wr => ∃ k : Nat, k ≤ n ∧ i = .int .i64 k ∧ wr.ownsRow w.heap.size 5 1 v (allL (l.take k)).length (bs (allL (l.take k))) ∧ Below w.heap.size w wr) (fun _ i _ => n - (intOf i).toNat)
  case atStart => exact ⟨0, Nat.zero_le _, rfl, World.ownsRow_nil _ _ _ _, Below.refl _ _⟩
  case round =>
    obtain ⟨k, hk, rfl, hown, hbel⟩ := hrel
    by_cases hlt : k < n
    · obtain ⟨b, off, ha, hcell⟩ := (h.below hbel).num hlt
      subst ha
      have hx : mayL (l[k]?.getD 0) = true := by
        have := HL.out
        rw [List.getElem?_eq_getElem (by omega)]; exact hl _ (List.getElem_mem _)
      obtain ⟨x, hX⟩ : ∃ x, x = l[k]?.getD 0 := ⟨_, rfl⟩
      rw [← hX] at hcell hx
      obtain ⟨h0, h5⟩ := (mayL_iff x).1 hx
      obtain ⟨m, rfl⟩ := Int.eq_ofNat_of_zero_le h0
      have HX := hid hX; clear hX hx h0
      have hle4 := sizeL_le m
      go_wp2_with fail
      refine (len_bytes _ _).mono ?_
      rintro e w1 ⟨rfl, rfl⟩
      go_wp2_with fail
      refine (len_size _ _).mono ?_
      rintro e w2 ⟨rfl, hb2⟩
      generalize hS : sizeL m = s at *
      have HS := hid hS; clear hS
      have hbox : Boxed w2 wr.heap.size 2 (.int .i64 m) := boxed_below (Boxed.new _ _ _) (hb2.mono (by simp))
      have hown2 := ownsRow_below (hown.alloc (.cells #[.int .i64 m] 2)) hb2
      have hbel2 : Below w.heap.size w w2 := (hbel.alloc hbel.size _).trans (hb2.mono (by have := hbel.size; simp; omega))
      have hBsz : w.heap.size ≤ wr.heap.size := hbel.size
      have hpl := allL_le (l.take k)
      have hpl2 : (l.take k).length ≤ k := List.length_take_le _ _
      generalize hP : allL (l.take k) = pre at *
      have HP := hid hP; clear hP
      generalize hB : wr.heap.size = B at *
      clear hB hbel hown hb2 hcell h
      go_wp2_with fail
      go_loopw [2, 19] (fun v i wq => ∃ j : Nat, j ≤ s ∧ i = .int .i64 j ∧ Boxed wq B 2 (.int .i64 (m / 128 ^ j : Nat)) ∧ wq.ownsRow w.heap.size 5 1 v (pre ++ rawL j m).length (bs (pre ++ rawL j m)) ∧ Below w.heap.size w wq) (fun _ i _ => s - (intOf i).toNat)
      case atStart => exact ⟨0, Nat.zero_le _, rfl, by simpa using hbox, by simpa [rawL] using hown2, hbel2⟩
      case round =>
        obtain ⟨j, hj, rfl, hbx, how, hbl⟩ := hrel
        clear hbox hown2 hbel2
        by_cases hjs : j < s
        · obtain ⟨q, hQ⟩ : ∃ q, q = m / 128 ^ j := ⟨_, rfl⟩
          have hqm : q ≤ m := by rw [hQ]; exact Nat.div_le_self _ _
          rw [← hQ] at hbx
          have HQ := hid hQ; clear hQ
          have hrl := rawL_len j m
          have hBw := hbl.size
          obtain ⟨y, hy⟩ : ∃ y : UInt8, y = byteL q := ⟨_, rfl⟩
          have HY := hid hy; clear hy
          have hY : ((if q < 128 then q else q % 128 + 128 : Nat) : Int) = (y.toNat : Int) := by rw [HY.out]; exact byteL_int q
          have HC1 := len_bytes1 q B wr (by omega) hbx.cell hbx.frozen
          rw [hY] at HC1
          have HC1' := hid HC1; clear HC1 hY
          generalize hZ : pre ++ rawL j m = z at *
          have hzl : z.length ≤ 4 * 1000000 + 4 := by rw [← hZ, List.length_append, hrl]; omega
          have HZ := hid hZ; clear hZ hrl
          have how2 := ownsRow_setCell_other how (a := ⟨B, 0, none⟩) (fun e => hbx.not_row (by decide) how e.symm) (.int .i64 (q / 128 : Nat))
          have hbx2 := hbx.set (.int .i64 (q / 128 : Nat))
          have hbl2 := hbl.setCell (p := ⟨B, 0, none⟩) (by simpa using hBsz) (.int .i64 (q / 128 : Nat))
          go_wp2_with fail
          refine HC1'.out.mono ?_
          rintro e w3 ⟨rfl, hw3⟩
          rw [hw3] at how2 hbx2 hbl2
          clear hw3 HC1'
          have hs3 := hbl2.size
          go_wp2_with (at_builtin; refine append_one rfl _ _ rfl Try.eByte w.heap.size _ _ _ rfl how2 (.int .u8 y.toNat) rfl rfl (by omega) (by omega) (by omega) ?_; intro v' w4 how4 hg4)
          go_roundw
          case rel =>
            refine ⟨j + 1, by omega, by go_num, ?_, ?_, ?_⟩
            · have h1 := hbx2.kept hg4 (hbx2.not_row (by decide) how2)
              rw [HQ.out, Nat.div_div_eq_div_mul, ← Nat.pow_succ] at h1
              exact h1
            · have h1 := rawL_snoc j m
              rw [h1, ← HQ.out, ← HY.out, ← List.append_assoc, HZ.out, bs_snoc, List.length_append]
              exact how4
            · exact hbl2.grown hg4 (by omega) (fun k hk => (how2.lt k hk).1)
          case measure => simp [intOf]; omega
        · obtain rfl : j = s := by omega
          clear hjs
          go_wp2
          go_roundw
          case rel =>
            refine ⟨k + 1, by omega, by go_num, ?_, hbl⟩
            have hl2 := HL.out
            rw [allL_snoc l k (by omega), HP.out]
            have h1 := HX.out
            rw [List.getElem?_eq_getElem (by omega), Option.getD_some] at h1
            rw [← h1, HS.out, Int.toNat_natCast]
            exact how
          case measure => simp [intOf]; omega
    · obtain rfl : k = n := by omega
      clear hlt
      go_wp2
      rw [exitFwd_ret]
      go_ret2
      have hl2 := HL.out
      rw [List.take_of_length_le (by omega)] at hown
      exact ⟨_, rfl, hown, hbel⟩

set_option maxHeartbeats 1000000 in
theorem len_all_no (a : Option Addr) (n cap : Nat) (l : List Int) (w : World) (h : RowAt w a n cap (ns .i64 l)) (hl : 0 ≤ idxOf (fun x => !mayL x) l) :
    Calls Try.prog 16 #[.slice a n cap] w fun e w' => e = .returned (.tuple #[.slice none 0 0, .int .i64 2]) ∧ w = w' := by
  have HC := hid (containsFunc_i64 40 #[] (fun x => !mayL x) a n cap l w h (enters_of Try.func40 (by kernel_rfl) rfl) (fun x => len_all1 x w))
  rw [show decide (0 ≤ idxOf (fun x => !mayL x) l) = true from by simpa using hl] at HC
  clear hl
  go_enter Try.func16, Try.ntmps16
  go_wp2_with fail
  apply wp_scope_fwd 0 rfl
  go_wp2_with fail
  refine HC.out.mono ?_
  rintro e w' ⟨rfl, rfl⟩
  go_wp2_with fail
  refine wp_goto ⟨rfl, ?_⟩
  go_wp2
  rw [Exit.noGoto_ret]
  go_ret2
  exact ⟨rfl, rfl⟩
end Go.Proofs.Ytjgflihokbmhiaa
