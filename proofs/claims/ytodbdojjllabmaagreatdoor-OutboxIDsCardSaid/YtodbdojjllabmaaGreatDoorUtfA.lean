/- Contracts of package utf: may, classes, long, raw. -/
import Derived.Test.YtodbdojjllabmaaGreatDoorUtfP
import Derived.Test.YtodbdojjllabmaaGreatDoorProg
namespace Go.Proofs.YtodbdojjllabmaaGreatDoor
open Go.RowKit Go.Shelf

set_option maxRecDepth 100000 in
set_option maxHeartbeats 400000 in
theorem utf_may (r : Int) (w : World) :
    Calls Tryz.prog 169 #[.int .i32 r] w fun e w' => e = .returned (.bool (mayR r)) ∧ w = w' := by
  unfold mayR
  by_cases h1 : 0 ≤ r
  · by_cases h2 : r ≤ 1114111
    · by_cases h3 : r < 55296
      · go_enter Tryz.func169, Tryz.ntmps169
        go_wp2
        go_ret
        (simp [h1, h2, h3]; try (intros; omega))
      · go_enter Tryz.func169, Tryz.ntmps169
        go_wp2
        go_ret
        (simp [h1, h2, h3]; try (intros; omega))
    · go_enter Tryz.func169, Tryz.ntmps169
      go_wp2
      go_ret
      (simp [h1, h2]; try (intros; omega))
  · go_enter Tryz.func169, Tryz.ntmps169
    go_wp2
    go_ret
    (simp [h1]; try (intros; omega))

set_option maxRecDepth 100000 in
set_option maxHeartbeats 400000 in
theorem utf_classes (w : World) :
    Calls Tryz.prog 168 #[] w fun e w' => e = .returned (.agg #[.int .i32 0, .int .u8 0, .int .i32 128, .int .u8 0, .int .i32 2048, .int .u8 192, .int .i32 65536, .int .u8 224, .int .i32 1114112, .int .u8 240]) ∧ w.alloc (.cells #[.int .i32 0, .int .u8 0, .int .i32 128, .int .u8 0, .int .i32 2048, .int .u8 192, .int .i32 65536, .int .u8 224, .int .i32 1114112, .int .u8 240] 233) = w' := by
  go_enter Tryz.func168, Tryz.ntmps168
  go_wp2
  exact bodyPost_ret (v := .agg #[.int .i32 0, .int .u8 0, .int .i32 128, .int .u8 0, .int .i32 2048, .int .u8 192, .int .i32 65536, .int .u8 224, .int .i32 1114112, .int .u8 240]) (by simp [results, Tryz.results168, go_sem]) rfl ⟨rfl, rfl⟩

def belows : List Int := [0, 128, 2048, 65536, 1114112]

set_option maxRecDepth 100000 in
set_option maxHeartbeats 1000000 in
theorem indexFunc_class (g : Nat) (lb : Array Value) (p : Int → Bool) (B : Nat) (w : World) (hB : w.heap[B]? = some (.cells #[.int .i32 0, .int .u8 0, .int .i32 128, .int .u8 0, .int .i32 2048, .int .u8 192, .int .i32 65536, .int .u8 224, .int .i32 1114112, .int .u8 240] 233 (0, 0)))
   (eg : ∀ args w, (callFunc g args).run Tryz.prog w = .ok (.enter g args) w) (hg : ∀ (b l : Int) (W : World), Below w.heap.size w W → Calls Tryz.prog g (#[.agg #[.int .i32 b, .int .u8 l]] ++ lb) W fun e w' => e = .returned (.bool (p b)) ∧ Below W.heap.size W w') :
    Calls Tryz.prog 180 #[.slice (some ⟨B, 0, none⟩) 5 5, .func (.func g) #[] lb] w fun e w' => e = .returned (.int .i64 (idxOf p belows)) ∧ Below w.heap.size w w' := by
  have HG := hid hg; clear hg
  have HB := hid hB; clear hB
  go_enter Tryz.func180, Tryz.ntmps180
  go_wp2
  go_loopw [4,5,8] (fun _ _ i wr => ∃ k : Nat, k ≤ 5 ∧ i = .int .i64 k ∧ Hid (∀ j, j < k → p (belows[j]?.getD 0) = false) ∧ Below w.heap.size w wr) (fun _ _ i _ => 5 - (intOf i).toNat)
  case atStart => exact ⟨0, Nat.zero_le _, rfl, fun j hj => absurd hj (Nat.not_lt_zero _), Below.refl _ _⟩
  case round =>
    obtain ⟨k, hk, rfl, hj, hbel⟩ := hrel
    have hBr : wr.heap[B]? = some (.cells #[.int .i32 0, .int .u8 0, .int .i32 128, .int .u8 0, .int .i32 2048, .int .u8 192, .int .i32 65536, .int .u8 224, .int .i32 1114112, .int .u8 240] 233 (0, 0)) := (hbel.block B (Array.getElem?_eq_some_iff.1 HB.out).1).trans HB.out
    have step : ∀ j, wr.cell? ⟨B, j, none⟩ = (#[.int .i32 0, .int .u8 0, .int .i32 128, .int .u8 0, .int .i32 2048, .int .u8 192, .int .i32 65536, .int .u8 224, .int .i32 1114112, .int .u8 240] : Array Value)[j]? := fun j => by simp [World.cell?, hBr]
    have c0 := step 0; have c1 := step 1; have c2 := step 2; have c3 := step 3; have c4 := step 4; have c5 := step 5; have c6 := step 6; have c7 := step 7; have c8 := step 8; have c9 := step 9
    clear step hBr
    simp only [List.getElem?_toArray, List.getElem?_cons_zero, List.getElem?_cons_succ] at c0 c1 c2 c3 c4 c5 c6 c7 c8 c9
    rcases (show k = 0 ∨ k = 1 ∨ k = 2 ∨ k = 3 ∨ k = 4 ∨ k = 5 by omega) with rfl | rfl | rfl | rfl | rfl | rfl
    · go_wp2_with fail
      refine (HG.out _ _ _ hbel).mono ?_
      rintro e w1 ⟨rfl, hb1⟩
      have hb2 := hbel.trans (hb1.mono hbel.size)
      cases hp : p 0
      · go_wp2
        go_roundw
        case rel =>
          refine ⟨1, by omega, by go_num, fun j hj' => ?_, hb2⟩
          by_cases he : j = 0
          · subst he; exact hp
          · exact hj.out j (by omega)
        case measure => simp [intOf]
      · go_wp2
        go_ret
        refine ⟨?_, hb2⟩
        have hi := idxOf_at p belows 0 (by decide) (fun j hj' => by have h1 := hj.out j hj'; rwa [List.getElem?_eq_getElem (by have : belows.length = 5 := rfl; omega)] at h1) hp
        rw [hi]
        rfl
    · go_wp2_with fail
      refine (HG.out _ _ _ hbel).mono ?_
      rintro e w1 ⟨rfl, hb1⟩
      have hb2 := hbel.trans (hb1.mono hbel.size)
      cases hp : p 128
      · go_wp2
        go_roundw
        case rel =>
          refine ⟨2, by omega, by go_num, fun j hj' => ?_, hb2⟩
          by_cases he : j = 1
          · subst he; exact hp
          · exact hj.out j (by omega)
        case measure => simp [intOf]
      · go_wp2
        go_ret
        refine ⟨?_, hb2⟩
        have hi := idxOf_at p belows 1 (by decide) (fun j hj' => by have h1 := hj.out j hj'; rwa [List.getElem?_eq_getElem (by have : belows.length = 5 := rfl; omega)] at h1) hp
        rw [hi]
        rfl
    · go_wp2_with fail
      refine (HG.out _ _ _ hbel).mono ?_
      rintro e w1 ⟨rfl, hb1⟩
      have hb2 := hbel.trans (hb1.mono hbel.size)
      cases hp : p 2048
      · go_wp2
        go_roundw
        case rel =>
          refine ⟨3, by omega, by go_num, fun j hj' => ?_, hb2⟩
          by_cases he : j = 2
          · subst he; exact hp
          · exact hj.out j (by omega)
        case measure => simp [intOf]
      · go_wp2
        go_ret
        refine ⟨?_, hb2⟩
        have hi := idxOf_at p belows 2 (by decide) (fun j hj' => by have h1 := hj.out j hj'; rwa [List.getElem?_eq_getElem (by have : belows.length = 5 := rfl; omega)] at h1) hp
        rw [hi]
        rfl
    · go_wp2_with fail
      refine (HG.out _ _ _ hbel).mono ?_
      rintro e w1 ⟨rfl, hb1⟩
      have hb2 := hbel.trans (hb1.mono hbel.size)
      cases hp : p 65536
      · go_wp2
        go_roundw
        case rel =>
          refine ⟨4, by omega, by go_num, fun j hj' => ?_, hb2⟩
          by_cases he : j = 3
          · subst he; exact hp
          · exact hj.out j (by omega)
        case measure => simp [intOf]
      · go_wp2
        go_ret
        refine ⟨?_, hb2⟩
        have hi := idxOf_at p belows 3 (by decide) (fun j hj' => by have h1 := hj.out j hj'; rwa [List.getElem?_eq_getElem (by have : belows.length = 5 := rfl; omega)] at h1) hp
        rw [hi]
        rfl
    · go_wp2_with fail
      refine (HG.out _ _ _ hbel).mono ?_
      rintro e w1 ⟨rfl, hb1⟩
      have hb2 := hbel.trans (hb1.mono hbel.size)
      cases hp : p 1114112
      · go_wp2
        go_roundw
        case rel =>
          refine ⟨5, by omega, by go_num, fun j hj' => ?_, hb2⟩
          by_cases he : j = 4
          · subst he; exact hp
          · exact hj.out j (by omega)
        case measure => simp [intOf]
      · go_wp2
        go_ret
        refine ⟨?_, hb2⟩
        have hi := idxOf_at p belows 4 (by decide) (fun j hj' => by have h1 := hj.out j hj'; rwa [List.getElem?_eq_getElem (by have : belows.length = 5 := rfl; omega)] at h1) hp
        rw [hi]
        rfl
    · go_wp2
      go_ret
      refine ⟨?_, hbel⟩
      rw [idxOf_none p belows (fun x hx => by
        obtain ⟨j, hj', rfl⟩ := List.getElem_of_mem hx
        have h1 := hj.out j (by have : belows.length = 5 := rfl; omega)
        rwa [List.getElem?_eq_getElem hj'] at h1)]
      rfl

set_option maxRecDepth 100000 in
set_option maxHeartbeats 400000 in
theorem utf_long1 (b l : Int) (m : Int) (B : Nat) (w : World) (hc : w.cell? ⟨B, 0, none⟩ = some (.int .i32 m)) :
    Calls Tryz.prog 181 #[.agg #[.int .i32 b, .int .u8 l], .pointer (some ⟨B, 0, none⟩)] w fun e w' => e = .returned (.bool (decide (m < b))) ∧ Below w.heap.size w w' := by
  have hc2 := cell_alloc hc (.cells #[.int .i32 b, .int .u8 l] 232)
  go_enter Tryz.func181, Tryz.ntmps181
  go_wp2
  go_ret
  exact ⟨rfl, (Below.refl _ _).alloc (Nat.le_refl _) _⟩

set_option maxRecDepth 100000 in
set_option maxHeartbeats 1000000 in
theorem utf_long (m : Nat) (w : World) (hm : m ≤ 1114111) :
    Calls Tryz.prog 176 #[.int .i32 m] w fun e w' => e = .returned (.int .i64 (lenR m)) ∧ Below w.heap.size w w' := by
  have hi : idxOf (fun b => decide ((m : Int) < b)) belows = lenR m := by
    unfold lenR
    split
    ·
      refine idxOf_at _ belows 1 (by decide) (fun j hj => ?_) (decide_eq_true (by show (m : Int) < 128; omega))
      rcases (show j = 0 by omega) with rfl
      · exact decide_eq_false (by show ¬ (m : Int) < 0; omega)
    · split
      ·
        refine idxOf_at _ belows 2 (by decide) (fun j hj => ?_) (decide_eq_true (by show (m : Int) < 2048; omega))
        rcases (show j = 0 ∨ j = 1 by omega) with rfl | rfl
        · exact decide_eq_false (by show ¬ (m : Int) < 0; omega)
        · exact decide_eq_false (by show ¬ (m : Int) < 128; omega)
      · split
        ·
          refine idxOf_at _ belows 3 (by decide) (fun j hj => ?_) (decide_eq_true (by show (m : Int) < 65536; omega))
          rcases (show j = 0 ∨ j = 1 ∨ j = 2 by omega) with rfl | rfl | rfl
          · exact decide_eq_false (by show ¬ (m : Int) < 0; omega)
          · exact decide_eq_false (by show ¬ (m : Int) < 128; omega)
          · exact decide_eq_false (by show ¬ (m : Int) < 2048; omega)
        ·
          refine idxOf_at _ belows 4 (by decide) (fun j hj => ?_) (decide_eq_true (by show (m : Int) < 1114112; omega))
          rcases (show j = 0 ∨ j = 1 ∨ j = 2 ∨ j = 3 by omega) with rfl | rfl | rfl | rfl
          · exact decide_eq_false (by show ¬ (m : Int) < 0; omega)
          · exact decide_eq_false (by show ¬ (m : Int) < 128; omega)
          · exact decide_eq_false (by show ¬ (m : Int) < 2048; omega)
          · exact decide_eq_false (by show ¬ (m : Int) < 65536; omega)
  have HI := hid hi; clear hi
  go_enter Tryz.func176, Tryz.ntmps176
  go_wp2_with fail
  refine (utf_classes _).mono ?_
  rintro e w1 ⟨rfl, rfl⟩
  go_wp2_with fail
  have hb0 := Boxed.new w 21 (.int .i32 m)
  have hb1 := (hb0.alloc (.cells #[.int .i32 0, .int .u8 0, .int .i32 128, .int .u8 0, .int .i32 2048, .int .u8 192, .int .i32 65536, .int .u8 224, .int .i32 1114112, .int .u8 240] 233)).alloc (.cells #[.int .i32 0, .int .u8 0, .int .i32 128, .int .u8 0, .int .i32 2048, .int .u8 192, .int .i32 65536, .int .u8 224, .int .i32 1114112, .int .u8 240] 233)
  have hB := World.alloc_heap_new ((w.alloc (.cells #[.int .i32 m] 21)).alloc (.cells #[.int .i32 0, .int .u8 0, .int .i32 128, .int .u8 0, .int .i32 2048, .int .u8 192, .int .i32 65536, .int .u8 224, .int .i32 1114112, .int .u8 240] 233)) (.cells #[.int .i32 0, .int .u8 0, .int .i32 128, .int .u8 0, .int .i32 2048, .int .u8 192, .int .i32 65536, .int .u8 224, .int .i32 1114112, .int .u8 240] 233)
  simp only [World.size_alloc] at hB
  refine (indexFunc_class 181 #[.pointer (some ⟨w.heap.size, 0, none⟩)] (fun b => decide ((m : Int) < b)) _ _ hB (enters_of Tryz.func181 (by kernel_rfl) rfl) (fun b l W hW => utf_long1 b l m _ W (boxed_below hb1 hW).cell)).mono ?_
  rintro e w' ⟨rfl, hb⟩
  rw [HI.out]
  go_wp2
  go_ret
  exact ⟨rfl, (((((Below.refl _ w).alloc (Nat.le_refl _) _).alloc (by simp) _).alloc (by simp; omega) _).trans (hb.mono (by simp; omega)))⟩
end Go.Proofs.YtodbdojjllabmaaGreatDoor
