/- The walk of OutboxNil. -/
import Derived.Test.YtodbdojjllabmaaGreatDoorOutA
import Derived.Test.YtodbdojjllabmaaGreatDoorOutM
import Derived.Test.YtodbdojjllabmaaGreatDoorMap
import Derived.Handy
import Derived.Test.YtodbdojjllabmaaGreatDoorKnB
namespace Go.Proofs.YtodbdojjllabmaaGreatDoor
open Go.RowKit Go.Shelf

/-- No outbox: nil, or one that was never made. -/
def NoOut (w : World) (v : Value) : Prop := v = .pointer none ∨ ∃ b, v = .pointer (some ⟨b, 0, none⟩) ∧ w.cell? ⟨b, 0, none⟩ = some (.pointer none)
theorem NoOut.below {w w' : World} {v : Value} (h : NoOut w v) (hb : Below w.heap.size w w') : NoOut w' v := h.imp id fun ⟨b, h1, h2⟩ => ⟨b, h1, (hb.cell (p := ⟨b, 0, none⟩) (cell_lt h2)).trans h2⟩

set_option maxRecDepth 100000 in
set_option maxHeartbeats 400000 in
theorem no_none (w : World) (v : Value) (h : NoOut w v) :
    Calls Tryz.prog 31 #[v] w fun e w' => e = .returned (.bool true) ∧ w = w' := by
  rcases h with rfl | ⟨b, rfl, h0⟩
  · go_enter Tryz.func31, Tryz.ntmps31
    go_wp2
    go_ret
    exact ⟨rfl, rfl⟩
  · go_enter Tryz.func31, Tryz.ntmps31
    go_wp2
    go_ret
    exact ⟨rfl, rfl⟩

set_option maxRecDepth 100000 in
set_option maxHeartbeats 400000 in
theorem no_Put (w : World) (v : Value) (h : NoOut w v) (t b:ByteArray) (q:Int) (r:Bool) :
    Calls Tryz.prog 9 #[v,.string t,.string b,.int .i64 q,.bool r] w fun e w' => e = .returned (.tuple #[.agg #[.slice none 0 0,.slice none 0 0],.int .i64 1]) ∧ Below w.heap.size w w' := by
  have CN := hid fun (w1 : World) (hb : Below w.heap.size w w1) => no_none w1 v (h.below hb)
  go_enter Tryz.func9, Tryz.ntmps9
  go_wp2_with (go_at_call 31; refine (CN.out _ ((Below.refl _ w).alloc (Nat.le_refl _) _)).mono ?_; rintro e w1 ⟨rfl, rfl⟩)
  go_returns
  exact ⟨rfl, ((Below.refl _ w).alloc (Nat.le_refl _) _)⟩
set_option maxRecDepth 100000 in
set_option maxHeartbeats 400000 in
theorem no_Send (w : World) (v : Value) (h : NoOut w v)  :
    Calls Tryz.prog 10 #[v] w fun e w' => e = .returned (.tuple #[.agg #[.slice none 0 0,.slice none 0 0],.int .i64 1]) ∧ Below w.heap.size w w' := by
  have CN := hid fun (w1 : World) (hb : Below w.heap.size w w1) => no_none w1 v (h.below hb)
  go_enter Tryz.func10, Tryz.ntmps10
  go_wp2_with (go_at_call 31; refine (CN.out _ ((Below.refl _ w).alloc (Nat.le_refl _) _)).mono ?_; rintro e w1 ⟨rfl, rfl⟩)
  go_returns
  exact ⟨rfl, ((Below.refl _ w).alloc (Nat.le_refl _) _)⟩
set_option maxRecDepth 100000 in
set_option maxHeartbeats 400000 in
theorem no_Anew (w : World) (v : Value) (h : NoOut w v)  :
    Calls Tryz.prog 16 #[v] w fun e w' => e = .returned (.tuple #[.agg #[.slice none 0 0,.slice none 0 0],.int .i64 1]) ∧ Below w.heap.size w w' := by
  have CN := hid fun (w1 : World) (hb : Below w.heap.size w w1) => no_none w1 v (h.below hb)
  go_enter Tryz.func16, Tryz.ntmps16
  go_wp2_with (go_at_call 31; refine (CN.out _ ((Below.refl _ w).alloc (Nat.le_refl _) _)).mono ?_; rintro e w1 ⟨rfl, rfl⟩)
  go_returns
  exact ⟨rfl, ((Below.refl _ w).alloc (Nat.le_refl _) _)⟩
set_option maxRecDepth 100000 in
set_option maxHeartbeats 400000 in
theorem no_Rows (w : World) (v : Value) (h : NoOut w v)  :
    Calls Tryz.prog 19 #[v] w fun e w' => e = .returned (.slice none 0 0) ∧ Below w.heap.size w w' := by
  have CN := hid fun (w1 : World) (hb : Below w.heap.size w w1) => no_none w1 v (h.below hb)
  go_enter Tryz.func19, Tryz.ntmps19
  go_wp2_with (go_at_call 31; refine (CN.out _ (Below.refl _ w)).mono ?_; rintro e w1 ⟨rfl, rfl⟩)
  go_ret
  exact ⟨rfl, (Below.refl _ w)⟩
set_option maxRecDepth 100000 in
set_option maxHeartbeats 400000 in
theorem no_Len (w : World) (v : Value) (h : NoOut w v)  :
    Calls Tryz.prog 12 #[v] w fun e w' => e = .returned (.int .i64 0) ∧ Below w.heap.size w w' := by
  have CN := hid fun (w1 : World) (hb : Below w.heap.size w w1) => no_none w1 v (h.below hb)
  go_enter Tryz.func12, Tryz.ntmps12
  go_wp2_with (go_at_call 31; refine (CN.out _ (Below.refl _ w)).mono ?_; rintro e w1 ⟨rfl, rfl⟩)
  go_ret
  exact ⟨rfl, (Below.refl _ w)⟩
set_option maxRecDepth 100000 in
set_option maxHeartbeats 400000 in
theorem no_Under (w : World) (v : Value) (h : NoOut w v)  :
    Calls Tryz.prog 15 #[v] w fun e w' => e = .returned (.int .i64 0) ∧ Below w.heap.size w w' := by
  have CN := hid fun (w1 : World) (hb : Below w.heap.size w w1) => no_none w1 v (h.below hb)
  go_enter Tryz.func15, Tryz.ntmps15
  go_wp2_with (go_at_call 31; refine (CN.out _ (Below.refl _ w)).mono ?_; rintro e w1 ⟨rfl, rfl⟩)
  go_ret
  exact ⟨rfl, (Below.refl _ w)⟩
set_option maxRecDepth 100000 in
set_option maxHeartbeats 400000 in
theorem no_Copy (w : World) (v : Value) (h : NoOut w v)  :
    Calls Tryz.prog 24 #[v] w fun e w' => e = .returned (.pointer none) ∧ Below w.heap.size w w' := by
  have CN := hid fun (w1 : World) (hb : Below w.heap.size w w1) => no_none w1 v (h.below hb)
  go_enter Tryz.func24, Tryz.ntmps24
  go_wp2_with (go_at_call 31; refine (CN.out _ (Below.refl _ w)).mono ?_; rintro e w1 ⟨rfl, rfl⟩)
  go_ret
  exact ⟨rfl, (Below.refl _ w)⟩
set_option maxRecDepth 100000 in
set_option maxHeartbeats 400000 in
theorem no_Session (w : World) (v : Value) (h : NoOut w v)  :
    Calls Tryz.prog 22 #[v] w fun e w' => e = .returned (.agg #[.int .i64 0,.string ⟨#[]⟩,.int .i64 0,.int .i64 0,.string ⟨#[]⟩,.string ⟨#[]⟩,.int .i64 0,.bool false,.int .i64 0]) ∧ Below w.heap.size w w' := by
  have CN := hid fun (w1 : World) (hb : Below w.heap.size w w1) => no_none w1 v (h.below hb)
  go_enter Tryz.func22, Tryz.ntmps22
  go_wp2_with (go_at_call 31; refine (CN.out _ ((Below.refl _ w).alloc (Nat.le_refl _) _)).mono ?_; rintro e w1 ⟨rfl, rfl⟩)
  go_returns
  exact ⟨rfl, ((Below.refl _ w).alloc (Nat.le_refl _) _)⟩


def noRow : Array Value := #[.int .i64 0, .string ⟨#[]⟩, .int .i64 0, .int .i64 0, .string ⟨#[]⟩, .string ⟨#[]⟩, .int .i64 0, .bool false, .int .i64 0]
/-- Hear, where there is no outbox. -/
theorem no_Hear (w : World) (v : Value) (h : NoOut w v) (z : Int) :
    Calls Tryz.prog 11 #[v, .int .i64 4, .int .i64 z] w fun e w' => e = .returned (.tuple #[.agg #[.slice none 0 0, .slice none 0 0], .int .i64 1]) ∧ Below w.heap.size w w' := by
  have CN := hid fun (w1 : World) (hb : Below w.heap.size w w1) => no_none w1 v (h.below hb)
  have hmm := @run_makeMap Tryz.prog
  have hb0 : ((w.alloc (.cells #[.slice none 0 0, .slice none 0 0] 34)).alloc (.map #[] 0)).heap[w.heap.size + 1]? = some (.map #[] 0) := by simpa using World.alloc_heap_new (w.alloc (.cells #[.slice none 0 0, .slice none 0 0] 34)) (.map #[] 0)
  have B0 : Below w.heap.size w ((w.alloc (.cells #[.slice none 0 0, .slice none 0 0] 34)).alloc (.map #[] 0)) := ((Below.refl _ w).alloc (Nat.le_refl _) _).alloc (by simp) _
  have D0 := (Blk.new w #[.slice none 0 0, .slice none 0 0] 34).alloc (.map #[] 0)
  have Z0 : ((w.alloc (.cells #[.slice none 0 0, .slice none 0 0] 34)).alloc (.map #[] 0)).heap.size ≥ w.heap.size + 2 := by simp
  go_enter Tryz.func11, Tryz.ntmps11
  go_wp2_with (
    refine wpList_insert_new _ rfl _ _ _ 94 rfl 38 92 .i64 Tryz.underlying94 Tryz.underlying38 _ _ _ rfl (by with_reducible assumption) _ _ rfl rfl (by simp [putE]) ?_
    intro w1 hb1 hg1
    replace B0 := B0.grown hg1 B0.size (fun k hk => by cases hk; omega)
    replace D0 := D0.keep (hg1.block _ (by omega) (by simp))
    replace Z0 := Nat.le_trans Z0 hg1.size
    try (have HL := run_lookup_at (P := Tryz.prog) 94 38 92 .i64 Tryz.underlying94 Tryz.underlying38 _ _ _ _ hb1 4 _ 0 rfl false)
    clear hg1)
  refine (CN.out _ B0).mono ?_
  rintro e w2 ⟨rfl, rfl⟩
  have y0 : w1.cell? ⟨w.heap.size, 0, none⟩ = some (.slice none 0 0) := D0.cell 0
  have y1 : w1.cell? ⟨w.heap.size, 1, none⟩ = some (.slice none 0 0) := D0.cell 1
  have z0 := D0.frozen 0
  have z1 := D0.frozen 1
  go_wp2
  refine bodyPost_gen (fun W' => W'.cell? ⟨w.heap.size, 0, none⟩ = some (.slice none 0 0) ∧ W'.cell? ⟨w.heap.size, 1, none⟩ = some (.slice none 0 0) ∧ Wrote [w.heap.size] w1 W') ⟨((D0.set 0 _).set 1 _).cell 0, ((D0.set 0 _).set 1 _).cell 1, (Wrote.setCell (M := [w.heap.size]) w1 ⟨w.heap.size, 0, none⟩ (by simp) _).trans (Wrote.setCell _ ⟨w.heap.size, 1, none⟩ (by simp) _)⟩ ?_
  rintro W' ⟨e0, e1, hW⟩
  refine bodyPost_ret (v := .tuple #[.agg #[.slice none 0 0, .slice none 0 0], .int .i64 1]) (by simp [results, Tryz.results11, go_sem, e0, e1]) rfl ?_
  exact ⟨rfl, B0.trans (hW.below B0.size (by simp))⟩

set_option maxRecDepth 100000 in
set_option maxHeartbeats 2000000 in
theorem walk_OutboxNil (id : Int) (w : World) (hT : TzAt w) : Calls Tryz.prog 7 #[.int .i64 id] w fun e w' => e = .returned (.bool true) ∧ Below w.heap.size w w' := by
  have N0 : ∀ w1 : World, NoOut w1 (.pointer none) := fun _ => .inl rfl
  have hb1 : Below w.heap.size w (w.alloc (.cells #[.pointer none, .string ⟨#[]⟩, .int .i64 0, .int .i64 0, .int .i64 0, .int .i64 0, .slice none 0 0, .slice none 0 0, .slice none 0 0] 77)) := (Below.refl _ w).alloc (Nat.le_refl _) _
  have NZ : NoOut (w.alloc (.cells #[.pointer none, .string ⟨#[]⟩, .int .i64 0, .int .i64 0, .int .i64 0, .int .i64 0, .slice none 0 0, .slice none 0 0, .slice none 0 0] 77)) (.pointer (some ⟨w.heap.size, 0, none⟩)) := .inr ⟨_, rfl, (Blk.new w _ _).cell 0⟩
  go_enter Tryz.func7, Tryz.ntmps7
  go_wp2_with fail
  have KH := hid known_holds
  obtain ⟨W0, hW0⟩ : ∃ W0, w.alloc (.cells #[.pointer none, .string ⟨#[]⟩, .int .i64 0, .int .i64 0, .int .i64 0, .int .i64 0, .slice none 0 0, .slice none 0 0, .slice none 0 0] 77) = W0 := ⟨_, rfl⟩
  rw [hW0] at hb1 NZ
  have NZ := hid fun (W : World) (hb : Below W0.heap.size W0 W) => NZ.below hb
  have HW0 := hid hW0
  rw [hW0]
  refine (no_Put _ _ (N0 _) _ _ _ _).mono ?_
  rintro e w1 ⟨rfl, b1⟩
  clear hW0
  go_wp2_with fail
  have d1 := hid (b1.alloc b1.size (.cells #[.slice none 0 0, .slice none 0 0] 34))
  refine (no_Send _ _ (NZ.out _ d1.out)).mono ?_
  rintro e w2 ⟨rfl, b2⟩
  have c2 := d1.out.trans (b2.mono d1.out.size)
  go_wp2_with fail
  have d2 := hid (c2.alloc c2.size (.cells #[.slice none 0 0, .slice none 0 0] 34))
  clear d1 b2 c2
  refine (no_Hear _ _ (N0 _) _).mono ?_
  rintro e w3 ⟨rfl, b3⟩
  have c3 := d2.out.trans (b3.mono d2.out.size)
  go_wp2_with fail
  have d3 := hid (c3.alloc c3.size (.cells #[.slice none 0 0, .slice none 0 0] 34))
  clear d2 b3 c3
  refine (no_Anew _ _ (NZ.out _ d3.out)).mono ?_
  rintro e w4 ⟨rfl, b4⟩
  have c4 := d3.out.trans (b4.mono d3.out.size)
  have d4 := hid (c4.alloc c4.size (.cells #[.slice none 0 0, .slice none 0 0] 34))
  clear d3 b4 c4
  go_wp2_with fail
  refine (no_Rows _ _ (N0 _)).mono ?_
  rintro e w5 ⟨rfl, b5⟩
  have d5 := hid (d4.out.trans (b5.mono d4.out.size))
  go_wp2_with fail
  refine (no_Session _ _ (NZ.out _ d5.out)).mono ?_
  rintro e w6 ⟨rfl, b6⟩
  have d6 := hid (d5.out.trans (b6.mono d5.out.size))
  go_wp2_with fail
  refine (no_Len _ _ (N0 _)).mono ?_
  rintro e w7 ⟨rfl, b7⟩
  have d7 := hid (d6.out.trans (b7.mono d6.out.size))
  go_wp2_with fail
  refine (no_Under _ _ (NZ.out _ d7.out)).mono ?_
  rintro e w8 ⟨rfl, b8⟩
  have d8 := hid (d7.out.trans (b8.mono d7.out.size))
  go_wp2_with fail
  refine (no_Copy _ _ (NZ.out _ d8.out)).mono ?_
  rintro e w9 ⟨rfl, b9⟩
  have d9 := hid (d8.out.trans (b9.mono d8.out.size))
  have c9 := hid (hb1.trans (d9.out.mono hb1.size))
  go_wp2_with fail
  refine (KH.out _ (hT.below c9.out)).mono ?_
  rintro e w10 ⟨rfl, b10⟩
  go_wp2
  go_ret
  exact ⟨rfl, c9.out.trans (b10.mono c9.out.size)⟩
end Go.Proofs.YtodbdojjllabmaaGreatDoor
