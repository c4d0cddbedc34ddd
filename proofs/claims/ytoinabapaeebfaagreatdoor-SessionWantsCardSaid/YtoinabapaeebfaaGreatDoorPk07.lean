/- Contracts of package utf: first. -/
import Derived.Test.YtoinabapaeebfaaGreatDoorPk03
import Derived.Test.YtoinabapaeebfaaGreatDoorPk06
import Derived.Deep.RegionWith
set_option linter.unusedSimpArgs false
set_option linter.unusedVariables false
namespace Go.Proofs.YtoinabapaeebfaaGreatDoor
open Go.RowKit Go.Shelf

def leads : List Int := [0, 0, 192, 224, 240]
def CL : Array Value := #[.int .i32 0, .int .u8 0, .int .i32 128, .int .u8 0, .int .i32 2048, .int .u8 192, .int .i32 65536, .int .u8 224, .int .i32 1114112, .int .u8 240]
theorem cls_at (k : Nat) (h : k < 5) (w : World) : (Instr.index 325 (.agg CL) (.int .i64 k)).run Tryz.prog w = .ok (.agg #[.int .i32 (belows[k]?.getD 0), .int .u8 (leads[k]?.getD 0)]) w := by
  rcases (show k = 0 ∨ k = 1 ∨ k = 2 ∨ k = 3 ∨ k = 4 by omega) with rfl | rfl | rfl | rfl | rfl
  · exact cls_0 w
  · exact cls_1 w
  · exact cls_2 w
  · exact cls_3 w
  · exact cls_4 w

theorem str_size (s : List UInt8) : ByteArray.size ⟨s.toArray⟩ = s.length := by simp [ByteArray.size]
theorem str_idx (s : List UInt8) (i : Nat) (h : i < s.length) (W : World) : (Instr.index 9 (.string ⟨s.toArray⟩) (.int .i64 i)).run Tryz.prog W = .ok (.int .u8 (at8 s i)) W := by
  rw [run_index_string _ 9 _ _ _ Tryz.underlying9, dif_pos (by rw [str_size]; omega)]
  simp [at8, h, ByteArray.getElem_eq_getElem_data]
theorem str_extract (s : List UInt8) (i j : Nat) : (ByteArray.mk s.toArray).extract i j = ⟨((s.take j).drop i).toArray⟩ := by
  apply ByteArray.ext
  rw [ByteArray.data_extract]
  simp [List.drop_take]
theorem str_cut (s : List UInt8) (i j : Nat) (hi : i ≤ j) (hj : j ≤ s.length) (W : World) : (Instr.slice 9 (.string ⟨s.toArray⟩) (some (.int .i64 i)) (some (.int .i64 j)) none).run Tryz.prog W = .ok (.string ⟨((s.take j).drop i).toArray⟩) W := by
  rw [run_slice_string _ 9 _ _ _ _ _ Tryz.underlying9 (by omega) (by omega) (by rw [str_size]; omega)]
  simp [str_extract]
theorem str_to (s : List UInt8) (j : Nat) (hj : j ≤ s.length) (W : World) : (Instr.slice 9 (.string ⟨s.toArray⟩) none (some (.int .i64 j)) none).run Tryz.prog W = .ok (.string ⟨(s.take j).toArray⟩) W := by
  rw [run_slice_string_h (ht := Tryz.underlying9) (h0 := by omega) (h2 := by rw [str_size]; omega)]
  simp [str_extract]
theorem str_from (s : List UInt8) (i : Nat) (hi : i ≤ s.length) (W : World) : (Instr.slice 9 (.string ⟨s.toArray⟩) (some (.int .i64 i)) none none).run Tryz.prog W = .ok (.string ⟨(s.drop i).toArray⟩) W := by
  rw [run_slice_string_l (ht := Tryz.underlying9) (h0 := by omega) (h1 := by rw [str_size]; omega)]
  rw [str_size]
  simp [str_extract]

theorem bytesRow_cell (w0 : World) (bd : List UInt8) (cap : Nat) (t : TypeId) (fz : Nat × Nat) (j : Nat) (h : j < bd.length) :
    (w0.alloc (.cells (bytesRow ⟨bd.toArray⟩ cap) t fz)).cell? ⟨w0.heap.size, j, none⟩ = some (.int .u8 (at8 bd j)) := by
  have h1 := World.alloc_heap_new w0 (.cells (bytesRow ⟨bd.toArray⟩ cap) t fz)
  simp only [World.cell?, h1]
  simp [bytesRow, at8, Array.getElem?_append, h]
theorem at8_body (s : List UInt8) (k j : Nat) (h : j < k - 1) : at8 (s.take k).tail j = at8 s (j + 1) := by
  unfold at8
  rw [List.getElem?_tail, List.getElem?_take_of_lt (by omega)]

theorem utf_may_is (r : Nat) (b : Bool) (h : mayR r = b) (w : World) : Calls Tryz.prog 252 #[.int .i32 r] w fun e w' => e = .returned (.bool b) ∧ w = w' := h ▸ utf_may r w

def mdR (k : Nat) : Nat := if k = 1 then 256 else if k = 2 then 64 else if k = 3 then 32 else 16
def accV (k : Nat) (s : List UInt8) : Nat → Nat
  | 0 => at8 s 0 % mdR k
  | j + 1 => accV k s j * 64 + at8 s (j + 1) % 64
theorem accV_lt (k : Nat) (s : List UInt8) (j : Nat) (h : j ≤ 3) : accV k s j < 67108864 := by
  have h0 := at8_lt s 0
  have h1 : at8 s 0 % mdR k ≤ at8 s 0 := Nat.mod_le _ _
  rcases (show j = 0 ∨ j = 1 ∨ j = 2 ∨ j = 3 by omega) with rfl | rfl | rfl | rfl <;> simp only [accV] <;> omega
theorem accV_val (k : Nat) (s : List UInt8) (h1 : 1 ≤ k) (h4 : k ≤ 4) : accV k s (k - 1) = valR k s := by
  have h0 := at8_lt s 0
  rcases (show k = 1 ∨ k = 2 ∨ k = 3 ∨ k = 4 by omega) with rfl | rfl | rfl | rfl <;> simp [accV, valR, mdR] <;> omega
theorem u8_andNot (k : Nat) (h1 : 1 ≤ k) (h4 : k ≤ 4) (x : Nat) (hx : x < 256) : bits .andNot .u8 (x : Int) (leads[k]?.getD 0) = ((x % mdR k : Nat) : Int) := by
  have h : ∀ y : Fin 256, bits .andNot .u8 (y.val : Int) 0 = ((y.val % 256 : Nat) : Int) ∧ bits .andNot .u8 (y.val : Int) 192 = ((y.val % 64 : Nat) : Int) ∧ bits .andNot .u8 (y.val : Int) 224 = ((y.val % 32 : Nat) : Int) ∧ bits .andNot .u8 (y.val : Int) 240 = ((y.val % 16 : Nat) : Int) := by decide +kernel
  obtain ⟨a, b, c, d⟩ := h ⟨x, hx⟩
  rcases (show k = 1 ∨ k = 2 ∨ k = 3 ∨ k = 4 by omega) with rfl | rfl | rfl | rfl
  · exact a
  · exact b
  · exact c
  · exact d
theorem u8_and63 (x : Nat) (hx : x < 256) : bits .and .u8 (x : Int) 63 = ((x % 64 : Nat) : Int) := by
  have h : ∀ y : Fin 256, bits .and .u8 (y.val : Int) 63 = ((y.val % 64 : Nat) : Int) := by decide +kernel
  exact h ⟨x, hx⟩
theorem i32_or64 (q x : Nat) (hq : q < 33554432) (h : x < 64) : bits .or .i32 ((q * 64 : Nat) : Int) (x : Int) = ((q * 64 + x : Nat) : Int) := by
  show IntKind.i32.wrap ((BitVec.ofInt 32 ((q * 64 : Nat) : Int) ||| BitVec.ofInt 32 (x : Int)).toNat : Int) = _
  rw [BitVec.toNat_or, ofInt_i32 x (by omega), ofInt_i32 _ (by omega), IntKind.wrap_i32, Nat.mul_comm q 64, or_pow 6 q x (by omega)]
  omega

set_option maxRecDepth 100000 in
set_option maxHeartbeats 4000000 in
theorem utf_first (s : List UInt8) (w : World) (hs : s.length ≤ 140737488355328) :
    Calls Tryz.prog 239 #[.string ⟨s.toArray⟩] w fun e w' => e = .returned (.tuple #[.int .i32 (firstF s).1, .int .i64 (firstF s).2]) ∧ Below w.heap.size w w' := by
  go_enter Tryz.func239, Tryz.ntmps239
  go_wp2_with fail
  refine (utf_classes _).mono ?_
  rintro e w1 ⟨rfl, rfl⟩
  have hb1 : Below w.heap.size w (w.alloc (.cells CL 325)) := (Below.refl _ _).alloc (Nat.le_refl _) _
  generalize hw1 : (w.alloc (.cells #[.int .i32 0, .int .u8 0, .int .i32 128, .int .u8 0, .int .i32 2048, .int .u8 192, .int .i32 65536, .int .u8 224, .int .i32 1114112, .int .u8 240] 325)) = w1 at *
  have hb1 : Below w.heap.size w w1 := hw1 ▸ hb1
  have hsz : ByteArray.size ⟨s.toArray⟩ = s.length := by simp [ByteArray.size]
  rw [show (#[.int .i32 0, .int .u8 0, .int .i32 128, .int .u8 0, .int .i32 2048, .int .u8 192, .int .i32 65536, .int .u8 224, .int .i32 1114112, .int .u8 240] : Array Value) = CL from rfl]
  go_wp2
  go_loopw [4, 5, 6, 8, 10] (fun _ _ _ _ i wr => ∃ (k : Nat), k ≤ 5 ∧ i = .int .i64 k ∧ Hid (∀ j, j < k → j ≠ 0 → okR j s = false) ∧ Below w.heap.size w wr) (fun _ _ _ _ i _ => 5 - (intOf i).toNat)
  case atStart => exact ⟨0, by omega, rfl, fun j hj => absurd hj (Nat.not_lt_zero _), hb1⟩
  case round =>
    obtain ⟨k, hk, rfl, hj, hbel⟩ := hrel
    rcases Nat.lt_or_ge k 5 with hk5 | hk5
    · have hix := cls_at k hk5
      rcases Nat.eq_zero_or_pos k with rfl | hk0
      · have hix2 : ∀ w, (Instr.index 325 (.agg CL) (.int .i64 0)).run Tryz.prog w = .ok (.agg #[.int .i32 0, .int .u8 0]) w := cls_0
        rw [show ((0 : Nat) : Int) = 0 from rfl]
        go_wp2
        go_roundw
        case rel => exact ⟨1, by omega, rfl, fun j hj h0 => absurd hj (by omega), hbel.alloc hbel.size _⟩
        case measure => simp [intOf]
      rcases Nat.lt_or_ge s.length k with hlen | hlen
      · go_wp2
        go_roundw
        case rel =>
          refine ⟨k + 1, by omega, rfl, fun j hj' h0 => ?_, hbel.alloc hbel.size _⟩
          rcases Nat.lt_or_ge j k with h | h
          · exact hj.out j h h0
          · have : j = k := by omega
            subst this
            simp [okR]; omega
        case measure => simp [intOf]; omega
      · generalize hLd : leads[k]?.getD 0 = ld at *
        generalize hBl : belows[k]?.getD 0 = bl at *
        have hc1 : (wr.alloc (.cells #[.int .i32 bl, .int .u8 ld] 324)).cell? ⟨wr.heap.size, 1, none⟩ = some (.int .u8 ld) := by
          rw [World.cell?_alloc_at _ _ _ _ rfl]; simp
        have hn1 : ¬ (k : Int) = 0 := by omega
        have hn2 : ¬ (s.length : Int) < k := by omega
        have hx0 := fun W => str_idx s 0 (by omega) W
        have hx0' : ∀ W, (Instr.index 9 (.string ⟨s.toArray⟩) (.int .i64 0)).run Tryz.prog W = .ok (.int .u8 (at8 s 0)) W := hx0
        have han := u8_andNot k (by omega) (by omega) (at8 s 0) (at8_lt s 0)
        rw [hLd] at han
        obtain ⟨a0, ha0⟩ : ∃ a0, at8 s 0 % mdR k = a0 := ⟨_, rfl⟩
        rw [ha0] at han
        have hw32 : wrap32 (a0 : Int) = a0 := by
          have h0 := at8_lt s 0
          have h1 : at8 s 0 % mdR k ≤ at8 s 0 := Nat.mod_le _ _
          unfold wrap32; omega
        obtain ⟨bd, hbd⟩ : ∃ bd, (s.take k).tail = bd := ⟨_, rfl⟩
        have hbl : bd.length = k - 1 := by rw [← hbd]; simp; omega
        have hcv := fun W => run_bytes_of_string (P := Tryz.prog) W 9 71 5 ⟨bd.toArray⟩ Tryz.underlying9 Tryz.underlying71 Tryz.underlying5
        have hct : ∀ W, (Instr.slice 9 (.string ⟨s.toArray⟩) (some (.int .i64 1)) (some (.int .i64 k)) none).run Tryz.prog W = .ok (.string ⟨bd.toArray⟩) W := fun W => by rw [← hbd, ← List.drop_one]; exact str_cut s 1 k (by omega) hlen W
        have hat : Hid (∀ j, j < k - 1 → at8 bd j = at8 s (j + 1)) := fun j hj => by rw [← hbd]; exact at8_body s k j hj
        have hac : Hid (a0 = accV k s 0) := ha0.symm
        clear hbd ha0
        go_wp2
        go_region
        rw [hw32]
        go_wp2
        rw [hac]
        go_loopw [6, 8, 33] (fun r _ i wi => ∃ (j : Nat), j ≤ k - 1 ∧ r = .int .i32 (accV k s j) ∧ i = .int .i64 j ∧ Hid (Below w.heap.size w wi ∧ ∀ j, j < k - 1 → wi.cell? ⟨wr.heap.size + 1, j, none⟩ = some (.int .u8 (at8 s (j + 1))))) (fun _ _ i _ => k - (intOf i).toNat)
        case atStart =>
          refine ⟨0, by omega, rfl, rfl, (((hbel.alloc hbel.size _).alloc (by have := hbel.size; simp; omega) _).drew).drew, fun j hj => ?_⟩
          rw [← hat.out j hj]
          have h1 := fun f1 f2 => bytesRow_cell (wr.alloc (.cells #[.int .i32 bl, .int .u8 ld] 324)) bd (grownCap (wr.alloc (Obj.cells #[Value.int IntKind.i32 bl, Value.int IntKind.u8 ld] 324)).drew (k - 1) 0 5) 5 (f1, f2) j (by omega)
          simp only [World.size_alloc] at h1
          exact h1 _ _
        case round =>
          obtain ⟨j, hjk, rfl, rfl, hin⟩ := hrel
          clear hcv hix hx0 hx0' hc1 han hw1
          rcases Nat.lt_or_ge j (k - 1) with hjl | hjl
          · have hc := hin.out.2 j hjl
            have hv := accV_lt k s j (by omega)
            have hv2 := accV_lt k s (j + 1) (by omega)
            have g1 := u8_and63 (at8 s (j + 1)) (at8_lt s (j + 1))
            have g2 := i32_or64 (accV k s j) (at8 s (j + 1) % 64) (by simp only [accV] at hv2; omega) (by omega)
            go_wp2
            go_roundw
            case rel =>
              have e1 : wrap32 ((accV k s j : Int) * 64) = ((accV k s j * 64 : Nat) : Int) := by
                simp only [accV] at hv2
                unfold wrap32; omega
              refine ⟨j + 1, by omega, ?_, rfl, hin⟩
              rw [e1, show ((at8 s (j + 1) : Int) % 64) = ((at8 s (j + 1) % 64 : Nat) : Int) from rfl, g2]
              rfl
            case measure => simp [intOf]; omega
          · obtain rfl : j = k - 1 := by omega
            rw [accV_val k s (by omega) (by omega)]
            have hbel2 := hin.out.1
            clear hin
            have hvl := valR_lt k s
            have hok := okR_iff k s
            generalize hvv : valR k s = v at *
            have HV := hid hvv
            clear hvv
            have hct2 := fun W => str_to s k hlen W
            rcases Nat.eq_zero_or_pos v with rfl | hv0
            · go_wp2
              go_region
              go_wp2
              go_roundw
              case rel =>
                refine ⟨k + 1, by omega, rfl, fun i hi h0 => ?_, hbel2.drew⟩
                rcases Nat.lt_or_ge i k with h | h
                · exact hj.out i h h0
                · have : i = k := by omega
                  subst this
                  exact Bool.eq_false_iff.2 (fun h => (hok.1 h).2.1 rfl)
              case measure => simp [intOf]; omega
            · have hv1 : ¬ v = 0 := by omega
              go_wp2
              have hne : ((v : Int) != 0) = true := by simp; omega
              refine regionQ [] (by kernel_rfl) trivial fun KQ hKQ => ?_
              refine takeQ 0 rfl (by kernel_rfl) rfl (by kernel_rfl) fun K hK => ?_
              simp only [List.getElem_toArray, List.getElem_cons_zero, List.getElem_cons_succ]
              go_big_quiet_op
              refine hK _ ?_
              clear hK K
              refine takeQ 1 rfl (by kernel_rfl) rfl (by kernel_rfl) fun K hK => ?_
              simp only [List.getElem_toArray, List.getElem_cons_zero, List.getElem_cons_succ]
              go_big_quiet_op
              refine hK _ ?_
              clear hK K
              refine takeQ 2 rfl (by kernel_rfl) rfl (by kernel_rfl) fun K hK => ?_
              simp only [List.getElem_toArray, List.getElem_cons_zero, List.getElem_cons_succ]
              go_big_quiet_op
              refine hK _ ?_
              clear hK K
              refine takeQ 3 rfl (by kernel_rfl) rfl (by kernel_rfl) fun K hK => ?_
              simp only [List.getElem_toArray, List.getElem_cons_zero, List.getElem_cons_succ]
              go_big_quiet_op
              refine hK _ ?_
              clear hK K
              refine stepN 4 rfl (by kernel_rfl) (by decide) (by kernel_rfl) fun K hK => ?_
              simp only [List.getElem_toArray, List.getElem_cons_zero, List.getElem_cons_succ]
              go_simp
              cases hmy : mayR v
              · refine (utf_may_is v _ hmy _).mono ?_
                rintro e w5 ⟨rfl, rfl⟩
                refine hK _ _ ?_
                clear hK K
                try simp only [Act.put, List.getElem_toArray, List.getElem_cons_zero, List.getElem_cons_succ, List.setIfInBounds_toArray, List.set_cons_zero, List.set_cons_succ]
                refine takeQ 5 rfl (by kernel_rfl) rfl (by kernel_rfl) fun K hK => ?_
                simp only [List.getElem_toArray, List.getElem_cons_zero, List.getElem_cons_succ]
                go_big_quiet_op
                refine hK _ ?_
                clear hK K
                refine takeQ 6 rfl (by kernel_rfl) rfl (by kernel_rfl) fun K hK => ?_
                simp only [List.getElem_toArray, List.getElem_cons_zero, List.getElem_cons_succ]
                go_big_quiet_op
                refine hK _ ?_
                clear hK K
                refine skipQ 7 rfl (by kernel_rfl) (by kernel_rfl) ?_
                simp only [Act.put, List.getElem_toArray, List.getElem_cons_zero, List.getElem_cons_succ, List.setIfInBounds_toArray, List.set_cons_zero, List.set_cons_succ]
                refine skipQ 8 rfl (by kernel_rfl) (by kernel_rfl) ?_
                simp only [Act.put, List.getElem_toArray, List.getElem_cons_zero, List.getElem_cons_succ, List.setIfInBounds_toArray, List.set_cons_zero, List.set_cons_succ]
                refine skipQ 9 rfl (by kernel_rfl) (by kernel_rfl) ?_
                simp only [Act.put, List.getElem_toArray, List.getElem_cons_zero, List.getElem_cons_succ, List.setIfInBounds_toArray, List.set_cons_zero, List.set_cons_succ]
                refine skipQ 10 rfl (by kernel_rfl) (by kernel_rfl) ?_
                simp only [Act.put, List.getElem_toArray, List.getElem_cons_zero, List.getElem_cons_succ, List.setIfInBounds_toArray, List.set_cons_zero, List.set_cons_succ]
                refine skipQ 11 rfl (by kernel_rfl) (by kernel_rfl) ?_
                simp only [Act.put, List.getElem_toArray, List.getElem_cons_zero, List.getElem_cons_succ, List.setIfInBounds_toArray, List.set_cons_zero, List.set_cons_succ]
                refine skipQ 12 rfl (by kernel_rfl) (by kernel_rfl) ?_
                simp only [Act.put, List.getElem_toArray, List.getElem_cons_zero, List.getElem_cons_succ, List.setIfInBounds_toArray, List.set_cons_zero, List.set_cons_succ]
                refine skipQ 13 rfl (by kernel_rfl) (by kernel_rfl) ?_
                simp only [Act.put, List.getElem_toArray, List.getElem_cons_zero, List.getElem_cons_succ, List.setIfInBounds_toArray, List.set_cons_zero, List.set_cons_succ]
                refine takeQ 14 rfl (by kernel_rfl) rfl (by kernel_rfl) fun K hK => ?_
                simp only [List.getElem_toArray, List.getElem_cons_zero, List.getElem_cons_succ]
                go_big_quiet_op
                refine hK _ ?_
                clear hK K
                refine doneQ (by kernel_rfl) (hKQ.out _ _ ?_)
                clear hKQ KQ
                go_wp2
                go_roundw
                case rel =>
                  refine ⟨k + 1, by omega, rfl, fun i hi h0 => ?_, hbel2.drew⟩
                  rcases Nat.lt_or_ge i k with h | h
                  · exact hj.out i h h0
                  · have : i = k := by omega
                    subst this
                    exact Bool.eq_false_iff.2 (fun h => by have := (hok.1 h).2.2.1; rw [hmy] at this; cases this)
                case measure => simp [intOf]; omega
              · refine (utf_may_is v _ hmy _).mono ?_
                rintro e w5 ⟨rfl, rfl⟩
                refine hK _ _ ?_
                clear hK K
                try simp only [Act.put, List.getElem_toArray, List.getElem_cons_zero, List.getElem_cons_succ, List.setIfInBounds_toArray, List.set_cons_zero, List.set_cons_succ]
                refine takeQ 5 rfl (by kernel_rfl) rfl (by kernel_rfl) fun K hK => ?_
                simp only [List.getElem_toArray, List.getElem_cons_zero, List.getElem_cons_succ]
                go_big_quiet_op
                refine hK _ ?_
                clear hK K
                refine takeQ 6 rfl (by kernel_rfl) rfl (by kernel_rfl) fun K hK => ?_
                simp only [List.getElem_toArray, List.getElem_cons_zero, List.getElem_cons_succ]
                go_big_quiet_op
                refine hK _ ?_
                clear hK K
                refine takeQ 7 rfl (by kernel_rfl) rfl (by kernel_rfl) fun K hK => ?_
                simp only [List.getElem_toArray, List.getElem_cons_zero, List.getElem_cons_succ]
                go_big_quiet_op
                refine hK _ ?_
                clear hK K
                refine takeQ 10 rfl (by kernel_rfl) rfl (by kernel_rfl) fun K hK => ?_
                simp only [List.getElem_toArray, List.getElem_cons_zero, List.getElem_cons_succ]
                go_big_quiet_op
                refine hK _ ?_
                clear hK K
                refine takeQ 11 rfl (by kernel_rfl) rfl (by kernel_rfl) fun K hK => ?_
                simp only [List.getElem_toArray, List.getElem_cons_zero, List.getElem_cons_succ]
                go_big_quiet_op
                refine hK _ ?_
                clear hK K
                refine takeQ 12 rfl (by kernel_rfl) rfl (by kernel_rfl) fun K hK => ?_
                simp only [List.getElem_toArray, List.getElem_cons_zero, List.getElem_cons_succ]
                go_big_quiet_op
                refine hK _ ?_
                clear hK K
                refine stepN 8 rfl (by kernel_rfl) (by decide) (by kernel_rfl) fun K hK => ?_
                simp only [List.getElem_toArray, List.getElem_cons_zero, List.getElem_cons_succ]
                go_simp
                refine (utf_raw v _ (by have := (mayR_iff v).1 hmy; omega)).mono ?_
                rintro e w6 ⟨rv, rfl, how6, hb6⟩
                obtain ⟨ra, rc, rfl, hrow⟩ := RowAt.of_own how6
                have hcv6 := run_str hrow
                have hbel6 := hbel2.drew.trans (hb6.mono hbel2.drew.size)
                refine hK _ _ ?_
                clear hK K
                try simp only [Act.put, List.getElem_toArray, List.getElem_cons_zero, List.getElem_cons_succ, List.setIfInBounds_toArray, List.set_cons_zero, List.set_cons_succ]
                refine stepN 9 rfl (by kernel_rfl) (by decide) (by kernel_rfl) fun K hK => ?_
                simp only [List.getElem_toArray, List.getElem_cons_zero, List.getElem_cons_succ]
                go_simp
                refine hK _ _ ?_
                clear hK K
                try simp only [Act.put, List.getElem_toArray, List.getElem_cons_zero, List.getElem_cons_succ, List.setIfInBounds_toArray, List.set_cons_zero, List.set_cons_succ]
                by_cases hE : encR v = s.take k
                · rw [hE]
                  refine takeQ 13 rfl (by kernel_rfl) rfl (by kernel_rfl) fun K hK => ?_
                  simp only [List.getElem_toArray, List.getElem_cons_zero, List.getElem_cons_succ]
                  go_big_quiet_op
                  refine hK _ ?_
                  clear hK K
                  refine takeQ 14 rfl (by kernel_rfl) rfl (by kernel_rfl) fun K hK => ?_
                  simp only [List.getElem_toArray, List.getElem_cons_zero, List.getElem_cons_succ]
                  go_big_quiet_op
                  refine hK _ ?_
                  clear hK K
                  refine doneQ (by kernel_rfl) (hKQ.out _ _ ?_)
                  clear hKQ KQ
                  go_wp2
                  refine bodyPost_ret (v := .tuple #[.int .i32 v, .int .i64 k]) (by simp [results, Tryz.results239, go_sem]) rfl ⟨?_, hbel6⟩
                  have hokk : okR k s = true := hok.2 ⟨hlen, by omega, hmy, hE⟩
                  have hno : ∀ j, j < k → j ≠ 0 → okR j s = false := hj.out
                  have hfs : firstF s = (v, k) := by
                    rw [← HV.out]
                    unfold firstF
                    rcases (show k = 1 ∨ k = 2 ∨ k = 3 ∨ k = 4 by omega) with rfl | rfl | rfl | rfl
                    · rw [if_pos hokk]
                    · rw [if_neg (by rw [hno 1 (by omega) (by omega)]; exact Bool.false_ne_true), if_pos hokk]
                    · rw [if_neg (by rw [hno 1 (by omega) (by omega)]; exact Bool.false_ne_true), if_neg (by rw [hno 2 (by omega) (by omega)]; exact Bool.false_ne_true), if_pos hokk]
                    · rw [if_neg (by rw [hno 1 (by omega) (by omega)]; exact Bool.false_ne_true), if_neg (by rw [hno 2 (by omega) (by omega)]; exact Bool.false_ne_true), if_neg (by rw [hno 3 (by omega) (by omega)]; exact Bool.false_ne_true), if_pos hokk]
                  rw [hfs]
                · have hE2 : ((⟨(encR v).toArray⟩ : ByteArray).toList == (⟨(s.take k).toArray⟩ : ByteArray).toList) = false := by
                    rw [ByteArray.toList_eq, ByteArray.toList_eq]
                    simpa using hE
                  have hE3 : (encR v == s.take k) = false := by simpa using hE
                  refine takeQ 13 rfl (by kernel_rfl) rfl (by kernel_rfl) fun K hK => ?_
                  simp only [List.getElem_toArray, List.getElem_cons_zero, List.getElem_cons_succ]
                  go_big_quiet_op
                  refine hK _ ?_
                  clear hK K
                  refine takeQ 14 rfl (by kernel_rfl) rfl (by kernel_rfl) fun K hK => ?_
                  simp only [List.getElem_toArray, List.getElem_cons_zero, List.getElem_cons_succ]
                  go_big_quiet_op
                  refine hK _ ?_
                  clear hK K
                  refine doneQ (by kernel_rfl) (hKQ.out _ _ ?_)
                  clear hKQ KQ
                  go_wp2
                  go_roundw
                  case rel =>
                    refine ⟨k + 1, by omega, rfl, fun i hi h0 => ?_, hbel6⟩
                    rcases Nat.lt_or_ge i k with h | h
                    · exact hj.out i h h0
                    · have : i = k := by omega
                      subst this
                      exact Bool.eq_false_iff.2 (fun h => hE (hok.1 h).2.2.2)
                  case measure => simp [intOf]; omega
    · obtain rfl : k = 5 := by omega
      go_wp2
      refine bodyPost_ret (v := .tuple #[.int .i32 0, .int .i64 0]) (by simp [results, Tryz.results239, go_sem]) rfl ⟨?_, hbel⟩
      have g1 := hj.out 1 (by omega) (by omega)
      have g2 := hj.out 2 (by omega) (by omega)
      have g3 := hj.out 3 (by omega) (by omega)
      have g4 := hj.out 4 (by omega) (by omega)
      simp [firstF, g1, g2, g3, g4]
end Go.Proofs.YtoinabapaeebfaaGreatDoor
