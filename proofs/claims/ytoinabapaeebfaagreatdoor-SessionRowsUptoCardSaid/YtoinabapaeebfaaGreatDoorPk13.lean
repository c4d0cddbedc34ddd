/- Parts of the proof of SessionRows: contracts of functions that it reaches, and plain lemmas. No condition of their own. -/
import Derived.Test.YtoinabapaeebfaaGreatDoorPk12
import Derived.Test.YtoinabapaeebfaaGreatDoorPk05
import Derived.Test.YtoinabapaeebfaaGreatDoorPk04
set_option linter.unusedSimpArgs false
set_option linter.unusedVariables false
set_option maxRecDepth 100000
set_option maxHeartbeats 8000000
namespace Go.Proofs.YtoinabapaeebfaaGreatDoor
open Go.RowKit Go.Shelf
section
theorem bits_Len64_0 (w : World) : Calls Tryz.prog 180 #[.int .u64 0] w fun e w' => e = .returned (.int .i64 0) /\ w = w' := by
 go_enter Tryz.func180, Tryz.ntmps180
 go_wp2
 go_ret
 refine ⟨?_, rfl⟩
 kernel_rfl
theorem bits_Len_0 (w : World) : Calls Tryz.prog 115 #[.int .u64 0] w fun e w' => e = .returned (.int .i64 0) /\ w = w' := by
 have C := hid (bits_Len64_0)
 go_enter Tryz.func115, Tryz.ntmps115
 go_wp2_with (go_at_call 180; refine (C.out _).mono ?_; rintro e w1 ⟨rfl, rfl⟩)
 go_ret
 exact ⟨rfl, rfl⟩
theorem insert_nil (f : Value) (w : World) : Calls Tryz.prog 171 #[.slice none 0 0, .int .i64 0, .int .i64 0, f] w fun e w' => e = .returned (.tuple #[]) /\ w = w' := by
 go_enter Tryz.func171, Tryz.ntmps171
 go_wp2
 go_loopw [8] (fun i wr => i = .int .i64 1 /\ w = wr) (fun _ _ => 0)
 case atStart => exact ⟨rfl, rfl⟩
 case round =>
  obtain ⟨rfl, rfl⟩ := hrel
  go_wp2
  go_end0
  exact ⟨rfl, rfl⟩
theorem pdq_nil (f : Value) (w : World) : Calls Tryz.prog 114 #[.slice none 0 0, .int .i64 0, .int .i64 0, .int .i64 0, f] w fun e w' => e = .returned (.tuple #[]) /\ w = w' := by
 have C := hid (insert_nil f)
 go_enter Tryz.func114, Tryz.ntmps114
 go_wp2
 go_loopw [1, 2] (fun a b wr => a = .int .i64 0 /\ b = .int .i64 0 /\ w = wr) (fun _ _ _ => 0)
 case atStart => exact ⟨rfl, rfl, rfl⟩
 case round =>
  obtain ⟨rfl, rfl, rfl⟩ := hrel
  go_wp2_with (go_at_call 171; refine (C.out _).mono ?_; rintro e w1 ⟨rfl, rfl⟩)
  refine bodyPost_ret (results_none rfl _ _ _) rfl ?_
  exact ⟨rfl, rfl⟩
theorem sort_nil (f : Value) (w : World) : Calls Tryz.prog 55 #[.slice none 0 0, f] w fun e w' => e = .returned (.tuple #[]) /\ w = w' := by
 have C1 := hid (bits_Len_0)
 have C2 := hid (pdq_nil f)
 go_enter Tryz.func55, Tryz.ntmps55
 go_wp2_with (first
  | (go_at_call 115; refine (C1.out _).mono ?_; rintro e w1 ⟨rfl, rfl⟩)
  | (go_at_call 114; refine (C2.out _).mono ?_; rintro e w1 ⟨rfl, rfl⟩))
 go_end0
 exact ⟨rfl, rfl⟩
theorem wp_genW {P : Program} {code : Code} {Q : Exit -> Act -> World -> Prop} {a : Act} {W : World} (C : World -> Prop) (hC : C W) (h : ∀ W', C W' -> code.wp P Q a W') : code.wp P Q a W := h W hC
def sessV (client : List UInt8) (seq id : Int) : RowV := ⟨1, client, seq, id, [], [], 0, false, 0⟩
theorem out_Of (window room : Int) (client : List UInt8) (seq id : Int) (w : World) (hT : TzAt w) (hw : 1 <= window /\ window <= 100) (hr : 1 <= room /\ room <= 1000) (hs : 0 <= seq /\ seq <= 4611686018427387904) (hi : 1 <= id /\ id <= 65535) (hc : client.length <= 23) (hmay : sessMay (sessV client seq id) = true) :
  Calls Tryz.prog 13 #[.int .i64 window, .int .i64 room, .agg (sessV client seq id).vals, .slice none 0 0] w fun e w' => ∃ L, e = .returned (.tuple #[.pointer (some ⟨L.p, 0, none⟩), .int .i64 0]) /\
   OB w' w'.heap.size L ⟨client, window, room, seq, id, []⟩ [] [] /\ (L.vp = .slice none 0 0 /\ L.vc = .slice none 0 0) /\ Stp [] L.foot w w' := by
 have CK := hid fun w1 => rec_Check_sess client seq id w1 (by omega)
 rw [show sessMay ⟨1, client, seq, id, [], [], 0, false, 0⟩ = true from hmay] at CK
 have CI := hid fun w1 => in_New 100 w1 (by decide) (by decide)
 have CS := hid (sort_nil (.func (.func 56) #[] #[]))
 clear hmay;unfold sessV RowV.vals at *
 dsimp only at CK ⊢
 have d1 : decide (window < 1) = false := decide_eq_false (by omega)
 have d2 : decide (100 < window) = false := decide_eq_false (by omega)
 have d3 : decide (room < 1) = false := decide_eq_false (by omega)
 have d4 : decide (1000 < room) = false := decide_eq_false (by omega)
 have d5 : decide (room < 0) = false := decide_eq_false (by omega)
 have d6 : decide (id < 1) = false := decide_eq_false (by omega)
 have d7 : decide (65535 < id) = false := decide_eq_false (by omega)
 go_enter Tryz.func13, Tryz.ntmps13
 go_wp2
 refine wp_scope_straight ?_
 go_wp2_with fail
 refine (CI.out _).mono ?_
 rintro e w1 ⟨rfl, hin, hb1⟩
 simp only [World.size_alloc] at hin hb1 ⊢
 have hS1 := (Blk.new w #[.int .i64 1, .string ⟨client.toArray⟩, .int .i64 seq, .int .i64 id, .string ⟨#[]⟩, .string ⟨#[]⟩, .int .i64 0, .bool false, .int .i64 0] 33).below (by simpa using hb1)
 have s0 : w1.cell? ⟨w.heap.size, 0, none⟩ = some (.int .i64 1) := hS1.cell 0
 have s1 : w1.cell? ⟨w.heap.size, 1, none⟩ = some (.string ⟨client.toArray⟩) := hS1.cell 1
 have s2 : w1.cell? ⟨w.heap.size, 2, none⟩ = some (.int .i64 seq) := hS1.cell 2
 have s3 : w1.cell? ⟨w.heap.size, 3, none⟩ = some (.int .i64 id) := hS1.cell 3
 have s4 : w1.cell? ⟨w.heap.size, 4, none⟩ = some (.string ⟨#[]⟩) := hS1.cell 4
 have s5 : w1.cell? ⟨w.heap.size, 5, none⟩ = some (.string ⟨#[]⟩) := hS1.cell 5
 have s6 : w1.cell? ⟨w.heap.size, 6, none⟩ = some (.int .i64 0) := hS1.cell 6
 have s7 : w1.cell? ⟨w.heap.size, 7, none⟩ = some (.bool false) := hS1.cell 7
 have s8 : w1.cell? ⟨w.heap.size, 8, none⟩ = some (.int .i64 0) := hS1.cell 8
 have hin := hid hin;go_wp2_with fail
 refine (CK.out _).mono ?_
 rintro e w2 ⟨rfl, hb2⟩
 clear s0 s1 s2 s3 s4 s5 s6 s7 s8;have hS2 := hS1.below hb2
 have t1 : w2.cell? ⟨w.heap.size, 1, none⟩ = some (.string ⟨client.toArray⟩) := hS2.cell 1
 have t2 : w2.cell? ⟨w.heap.size, 2, none⟩ = some (.int .i64 seq) := hS2.cell 2
 have t3 : w2.cell? ⟨w.heap.size, 3, none⟩ = some (.int .i64 id) := hS2.cell 3
 go_wp2_with fail
 have hin2 := hid (hin.out.below hb2)
 have hB02 := hid (((Below.refl _ w).alloc (Nat.le_refl _) (.cells #[.int .i64 1, .string ⟨client.toArray⟩, .int .i64 seq, .int .i64 id, .string ⟨#[]⟩, .string ⟨#[]⟩, .int .i64 0, .bool false, .int .i64 0] 33)).trans ((hb1.mono (by omega)).trans (hb2.mono (by have := hb1.size; simp at this; omega))))
 have hz2 : w.heap.size + 3 <= w2.heap.size := by have := hin2.out.box.lt; omega
 refine wp_genW (fun W' => Below w2.heap.size w2 W' /\ Blk W' w2.heap.size #[.pointer (some ⟨w.heap.size + 1 + 1, 0, none⟩), .string ⟨client.toArray⟩, .int .i64 window, .int .i64 room, .int .i64 seq, .int .i64 id, .slice none 0 0, .slice none 0 0, .slice none 0 0] 123) ⟨(Below.refl _ w2).alloc (Nat.le_refl _) _, Blk.new w2 _ _⟩ ?_
 rintro w3 ⟨hb3, hbox3⟩
 have k6 : w3.cell? ⟨w2.heap.size, 6, none⟩ = some (.slice none 0 0) := hbox3.cell 6
 go_loopw [73] (fun i wr => i = .int .i64 0 /\ w3 = wr) (fun _ _ => 0)
 case atStart => exact ⟨rfl, rfl⟩
 case round =>
  obtain ⟨rfl, rfl⟩ := hrel
  go_wp2_with (go_at_call 55; refine (CS.out _).mono ?_; rintro e w4 ⟨rfl, rfl⟩)
  go_loopw [17] (fun i wr => i = .int .i64 1 /\ w3 = wr) (fun _ _ => 0)
  case atStart => exact ⟨rfl, rfl⟩
  case round =>
   obtain ⟨rfl, rfl⟩ := hrel
   go_wp2
   simp only [Exit.noGoto_ret]
   go_returns
   have hB03 := hB02.out.trans (hb3.mono hB02.out.size)
   have hg := hT.lt
   refine ⟨⟨w2.heap.size, w.heap.size + 1 + 1, w.heap.size + 1, .slice none 0 0, .slice none 0 0, .slice none 0 0, [], fun _ => 0⟩, rfl, ⟨Nat.le_refl _, hbox3, hin2.out.below hb3, SetIs.nil, World.ownsRow_nil _ _ _ _, rfl, fun i b r h1 h2 => by simp at h1, List.nodup_nil, World.ownsRow_nil _ _ _ _, World.ownsRow_nil _ _ _ _, hT.below hB03, ?_, ?_⟩, ⟨rfl, rfl⟩, Wrote.of_below hB03, ?_⟩
   ·simp only [Lay.foot, blk, Value.ownBlock, Option.toList_none, List.append_nil, List.mem_cons, List.not_mem_nil, or_false, not_or]; omega
   ·exact ⟨hw, ⟨hr.2, by simp; omega⟩, ⟨hs.1, Int.le_trans hs.2 (by decide)⟩, hi, hc, fun r hr => by simp at hr, by simp [idsOf], by simp [idsOf]; omega⟩
   ·intro x hx
    simp [Lay.foot, blk, Value.ownBlock] at hx
    right
    omega
end
section
theorem ref_May (r : Int) (w : World) :
  Calls Tryz.prog 208 #[.int .i32 r] w fun e w' => e = .returned (.bool (mayR r)) /\ w = w' := by
 have fin : ∀ b : Bool, mayR r = b -> Ending.returned (.bool b) = .returned (.bool (mayR r)) := fun b h => by rw [h]
 have HF := hid fin;clear fin;by_cases h1 : 0 <= r
 ·by_cases h3 : r < 55296
  ·go_enter Tryz.func208, Tryz.ntmps208
   go_wp2
   all_goals (go_ret; exact ⟨HF.out _ (by simp [mayR]; omega), rfl⟩)
  ·have d1 : decide (r < 55296) = false := decide_eq_false h3
   by_cases h4 : 57343 < r
   ·by_cases h2 : r <= 1114111
    ·go_enter Tryz.func208, Tryz.ntmps208
     go_wp2
     all_goals (go_ret; exact ⟨HF.out _ (by simp [mayR]; omega), rfl⟩)
    ·have d2 : decide (r <= 1114111) = false := decide_eq_false h2
     go_enter Tryz.func208, Tryz.ntmps208
     go_wp2
     all_goals (go_ret; exact ⟨HF.out _ (by simp [mayR]; omega), rfl⟩)
   ·have d3 : decide (57343 < r) = false := decide_eq_false h4
    go_enter Tryz.func208, Tryz.ntmps208
    go_wp2
    all_goals (go_ret; exact ⟨HF.out _ (by simp [mayR]; omega), rfl⟩)
 ·have d4 : decide (0 <= r) = false := decide_eq_false h1
  have d5 : decide (57343 < r) = false := decide_eq_false (by omega)
  go_enter Tryz.func208, Tryz.ntmps208
  go_wp2
  all_goals (go_ret; exact ⟨HF.out _ (by simp [mayR]; omega), rfl⟩)
theorem ref_six (k : Int) (w : World) (h0 : 0 <= k) (hk : k <= 1114111) :
  Calls Tryz.prog 222 #[.int .i64 k] w fun e w' => e = .returned (.int .u8 (128 + k % 64)) /\ w = w' := by
 go_enter Tryz.func222, Tryz.ntmps222
 go_wp2
 go_ret
 exact ⟨rfl, rfl⟩
theorem conv_cells (l : List UInt8) (cs : List Value) (h : cs = bs l) (n : Nat) (hn : cs.length = n) (W : World) (hl : n <= 1000) : (convert 71 9 (.slice (some ⟨W.heap.size, 0, none⟩) n n)).run Tryz.prog (W.alloc (.cells cs.toArray 5)) = .ok (.string ⟨l.toArray⟩) (W.alloc (.cells cs.toArray 5)) := by
 subst hn h;have h1 := RowAt.new W (bs l).toArray 5 (0, 0) (by unfold maxLen; simp; omega)
 simp only [List.size_toArray, List.toList_toArray] at h1
 exact run_str h1
theorem cells_1 (m : Nat) (h : m < 128) : [Value.int .u8 (m : Int)] = bs (encR m) := by
 have he : encR m = [b8 m] := by unfold encR; rw [if_pos h]
 rw [he]
 simp only [bs, List.map_cons, List.map_nil, b8_nat m (by omega)]
theorem cells_2 (m : Nat) (h : ¬ m < 128) (h2 : m < 2048) : [Value.int .u8 (192 + (m : Int) / 64), .int .u8 (128 + (m : Int) % 64)] = bs (encR m) := by
 have he : encR m = [b8 (192 + m / 64), b8 (128 + m % 64)] := by unfold encR; rw [if_neg h, if_pos h2]
 rw [he]
 simp only [bs, List.map_cons, List.map_nil, b8_nat (192 + m / 64) (by omega), b8_nat (128 + m % 64) (by omega)]
 rfl
theorem cells_3 (m : Nat) (h : ¬ m < 2048) (h2 : m < 65536) : [Value.int .u8 (224 + (m : Int) / 4096), .int .u8 (128 + (m : Int) / 64 % 64), .int .u8 (128 + (m : Int) % 64)] = bs (encR m) := by
 have he : encR m = [b8 (224 + m / 4096), b8 (128 + m / 64 % 64), b8 (128 + m % 64)] := by unfold encR; rw [if_neg (by omega), if_neg h, if_pos h2]
 rw [he]
 simp only [bs, List.map_cons, List.map_nil, b8_nat (224 + m / 4096) (by omega), b8_nat (128 + m / 64 % 64) (by omega), b8_nat (128 + m % 64) (by omega)]
 rfl
theorem cells_4 (m : Nat) (h : ¬ m < 65536) (h2 : m <= 1114111) : [Value.int .u8 (240 + (m : Int) / 262144), .int .u8 (128 + (m : Int) / 4096 % 64), .int .u8 (128 + (m : Int) / 64 % 64), .int .u8 (128 + (m : Int) % 64)] = bs (encR m) := by
 have he : encR m = [b8 (240 + m / 262144), b8 (128 + m / 4096 % 64), b8 (128 + m / 64 % 64), b8 (128 + m % 64)] := by unfold encR; rw [if_neg (by omega), if_neg (by omega), if_neg h]
 rw [he]
 simp only [bs, List.map_cons, List.map_nil, b8_nat (240 + m / 262144) (by omega), b8_nat (128 + m / 4096 % 64) (by omega), b8_nat (128 + m / 64 % 64) (by omega), b8_nat (128 + m % 64) (by omega)]
 rfl
theorem ref_Raw (m : Nat) (w : World) (hm : m <= 1114111) :
  Calls Tryz.prog 209 #[.int .i32 m] w fun e w' => e = .returned (.string ⟨(encR m).toArray⟩) /\ Below w.heap.size w w' := by
 have hb : ∀ o, Below w.heap.size w (w.alloc o) := fun o => (Below.refl _ w).alloc (Nat.le_refl _) o
 have HB := hid hb;clear hb;obtain ⟨z, hz⟩ : ∃ z : Int, z = m := ⟨_, rfl⟩
 rw [<- hz]
 have HZ := hid hz;have z0 : 0 <= z := by omega
 have z1 : z <= 1114111 := by omega
 by_cases h1 : m < 128
 ·have hcv := fun W => conv_cells (encR m) _ (cells_1 m h1) 1 rfl W (by omega)
  rw [<- hz] at hcv
  have y1 : z < 128 := by omega
  clear hz hm h1;go_enter Tryz.func209, Tryz.ntmps209
  go_wp2
  go_ret
  exact ⟨rfl, HB.out _⟩
 by_cases h2 : m < 2048
 ·have hcv := fun W => conv_cells (encR m) _ (cells_2 m h1 h2) 2 rfl W (by omega)
  rw [<- hz] at hcv
  have y1 : 128 <= z := by omega
  have y2 : z < 2048 := by omega
  clear hz hm h1 h2;go_enter Tryz.func209, Tryz.ntmps209
  go_wp2_with (go_at_call 222; refine (ref_six _ _ (by omega) (by omega)).mono ?_; rintro e w' ⟨rfl, rfl⟩)
  go_ret
  exact ⟨rfl, HB.out _⟩
 by_cases h3 : m < 65536
 ·have hcv := fun W => conv_cells (encR m) _ (cells_3 m h2 h3) 3 rfl W (by omega)
  rw [<- hz] at hcv
  have y1 : 2048 <= z := by omega
  have y2 : z < 65536 := by omega
  clear hz hm h1 h2 h3;go_enter Tryz.func209, Tryz.ntmps209
  go_wp2_with (go_at_call 222; refine (ref_six _ _ (by omega) (by omega)).mono ?_; rintro e w' ⟨rfl, rfl⟩)
  go_ret
  exact ⟨rfl, HB.out _⟩
 ·have hcv := fun W => conv_cells (encR m) _ (cells_4 m h3 hm) 4 rfl W (by omega)
  rw [<- hz] at hcv
  have y1 : 65536 <= z := by omega
  clear hz hm h1 h2 h3;go_enter Tryz.func209, Tryz.ntmps209
  go_wp2_with (go_at_call 222; refine (ref_six _ _ (by omega) (by omega)).mono ?_; rintro e w' ⟨rfl, rfl⟩)
  go_ret
  exact ⟨rfl, HB.out _⟩
end
end Go.Proofs.YtoinabapaeebfaaGreatDoor
