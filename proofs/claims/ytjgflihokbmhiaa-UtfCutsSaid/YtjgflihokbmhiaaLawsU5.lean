/- The walk of the law UtfCuts. -/
import Derived.Test.YtjgflihokbmhiaaUtfH
import Derived.Test.YtjgflihokbmhiaaUtfN
namespace Go.Proofs.Ytjgflihokbmhiaa
open Go.RowKit Go.Shelf

theorem right_parts (R : List Nat) (h : ∀ r ∈ R, r ≠ 0 ∧ mayR r = true) (hl : (R.map encR).flatten.length ≤ 65535) (k : Nat) :
    ((R.map encR).flatten.take ((R.take k).map encR).flatten.length = ((R.take k).map encR).flatten) ∧ ((R.map encR).flatten.drop ((R.take k).map encR).flatten.length = ((R.drop k).map encR).flatten) ∧
    wrongU ((R.take k).map encR).flatten = -1 ∧ wrongU ((R.drop k).map encR).flatten = -1 ∧ ((R.take k).map encR).flatten.length ≤ (R.map encR).flatten.length := by
  have h1 : (R.map encR).flatten = ((R.take k).map encR).flatten ++ ((R.drop k).map encR).flatten := by
    rw [← List.flatten_append, ← List.map_append, List.take_append_drop]
  have h2 := congrArg List.length h1
  rw [List.length_append] at h2
  refine ⟨by rw [h1, List.take_left], by rw [h1, List.drop_left], ?_, ?_, by omega⟩
  · rw [wrongU_iff, runesL_encs _ 0 (fun r hr => h r (List.mem_of_mem_take hr)) (by omega)]
  · rw [wrongU_iff, runesL_encs _ 0 (fun r hr => h r (List.mem_of_mem_drop hr)) (by omega)]

theorem ref_RawC (z : Int) (w : World) (h0 : 0 ≤ z) (h1 : z ≤ 1114111) :
    Calls Try.prog 20 #[.int .i32 z] w fun e w' => e = .returned (.string ⟨(encR z.toNat).toArray⟩) ∧ Below w.heap.size w w' := by
  obtain ⟨m, rfl⟩ := Int.eq_ofNat_of_zero_le h0
  rw [Int.toNat_natCast]
  exact ref_Raw m w (by omega)

set_option maxRecDepth 100000 in
set_option maxHeartbeats 2000000 in
theorem cuts_no (s : List UInt8) (most : Int) (w : World) (hs : s.length ≤ 3000) (h : most < 0 ∨ (0 ≤ most ∧ 0 ≤ wrongU s)) :
    Calls Try.prog 5 #[.string ⟨s.toArray⟩, .int .i64 most] w fun e w' => e = .returned (.bool true) ∧ Below w.heap.size w w' := by
  have hsz : ByteArray.size ⟨s.toArray⟩ = s.length := str_size s
  have C2 := hid (fun W => ref_Runes s W (by omega))
  rcases h with h | ⟨h, hx⟩
  · have C1 := hid (fun W => utf_Cut_neg s most W h)
    go_enter Try.func5, Try.ntmps5
    go_wp2_with fail
    refine (C1.out _).mono ?_
    rintro e w1 ⟨rfl, k1⟩
    go_wp2_with fail
    refine (C2.out _).mono ?_
    rintro e w2 ⟨hb2, hc⟩
    have k2 := k1.trans (hb2.mono k1.size)
    obtain ⟨v, m, rfl⟩ : ∃ v m, e = .returned (.tuple #[v, .int .i64 m]) := by
      rcases hc with ⟨_, v, rfl, _⟩ | ⟨_, rfl⟩
      · exact ⟨_, _, rfl⟩
      · exact ⟨_, _, rfl⟩
    clear hc
    go_wp2_with fail
    refine (known12 _).mono ?_
    rintro e w3 ⟨rfl, hb3⟩
    go_wp2
    go_ret
    exact ⟨rfl, k2.trans (hb3.mono k2.size)⟩
  · have C1 := hid (fun W => utf_Cut_no s most W (by omega) hx h)
    have HX := hid hx
    go_enter Try.func5, Try.ntmps5
    go_wp2_with fail
    refine (C1.out _).mono ?_
    rintro e w1 ⟨rfl, k1⟩
    go_wp2_with fail
    refine (C2.out _).mono ?_
    rintro e w2 ⟨hb2, hc⟩
    have k2 := k1.trans (hb2.mono k1.size)
    obtain ⟨m, rfl, hm⟩ : ∃ m, e = .returned (.tuple #[.slice none 0 0, .int .i64 m]) ∧ 0 ≤ m := by
      rcases hc with ⟨h1, _⟩ | ⟨h1, rfl⟩
      · exfalso
        have := HX.out
        omega
      · exact ⟨_, rfl, h1⟩
    clear hc
    go_wp2_with fail
    refine (known12 _).mono ?_
    rintro e w3 ⟨rfl, hb3⟩
    go_wp2
    go_ret
    exact ⟨rfl, k2.trans (hb3.mono k2.size)⟩

set_option maxRecDepth 100000 in
set_option maxHeartbeats 2000000 in
theorem cuts_yes (s : List UInt8) (most : Int) (w : World) (hs : s.length ≤ 3000) (h : 0 ≤ most) (hx : wrongU s = -1) :
    Calls Try.prog 5 #[.string ⟨s.toArray⟩, .int .i64 most] w fun e w' => e = .returned (.bool true) ∧ Below w.heap.size w w' := by
  have hsz : ByteArray.size ⟨s.toArray⟩ = s.length := str_size s
  have C1 := hid (fun W => utf_Cut s most W (by omega) hx h)
  have C2 := hid (fun W => ref_Runes s W (by omega))
  obtain ⟨b1, b2, b3⟩ := runesL_back s 0 ((wrongU_iff s).1 hx)
  have hRl : (runesL s 0).1.length ≤ s.length := runesL_len s 0
  have hcut : cutU s most = cutN most 0 (runesL s 0).1 := rfl
  have hri : runesI s = (runesL s 0).1.map fun (r : Nat) => (r : Int) := rfl
  have HX := hid hx
  clear hx b3
  generalize hR : (runesL s 0).1 = R at *
  have HP := hid (right_parts R b2 (by rw [b1]; omega))
  rw [b1] at HP
  have B1 := hid b1
  have B2 := hid b2
  have HC := hid hcut
  have HRI := hid hri
  clear b1 b2 hcut hri hR
  generalize hq : cutU s most = q at *
  have HQ := hid hq
  clear hq
  go_enter Try.func5, Try.ntmps5
  go_wp2_with fail
  refine (C1.out _).mono ?_
  rintro e w1 ⟨rfl, k1⟩
  go_wp2_with fail
  refine (C2.out _).mono ?_
  rintro e w2 ⟨hb2, hcase⟩
  have hcase2 : ∃ v, e = .returned (.tuple #[v, .int .i64 (-1)]) ∧ w2.ownsRow w1.heap.size 21 1 v (runesI s).length (ns .i32 (runesI s)) := by
    rcases hcase with ⟨-, h⟩ | ⟨h1, -⟩
    · exact h
    · exfalso
      have := HX.out
      omega
  clear hcase
  obtain ⟨v2, rfl, how2⟩ := hcase2
  rw [HRI.out, List.length_map] at how2
  obtain ⟨a2, c2, rfl, hrow2⟩ := RowAt.of_own how2
  clear how2
  have k2 := k1.trans (hb2.mono k1.size)
  have hle2 := hrow2.le
  have hmax2 := hrow2.max
  unfold maxLen at hmax2
  go_wp2_with fail
  go_loopw [9, 10] (fun sum i wr => ∃ (k t : Nat), k ≤ R.length ∧ i = .int .i64 k ∧ sum = .int .i64 t ∧ t ≤ 3000 ∧ Hid (t = ((R.take k).map encR).flatten.length ∧ cutN most 0 R = cutN most t (R.drop k)) ∧ Below w2.heap.size w2 wr)
    (fun _ i _ => R.length - (intOf i).toNat)
  case atStart => exact ⟨0, 0, Nat.zero_le _, rfl, rfl, by omega, ⟨by simp, rfl⟩, Below.refl _ _⟩
  case round =>
    obtain ⟨k, t, hk, rfl, rfl, ht, hH, hbel⟩ := hrel
    have fin : (k = R.length ∨ ∃ r, R[k]? = some r ∧ most < (t : Int) + lenR r) → q = t ∧ s.take t = ((R.take k).map encR).flatten ∧ wrongU (s.take t) = -1 ∧ wrongU (s.drop t) = -1 ∧ t ≤ s.length := fun hor => by
      obtain ⟨g1, g2⟩ := hH.out
      obtain ⟨p1, p2, p3, p4, p5⟩ := HP.out k
      rw [← g1] at p1 p2 p5
      refine ⟨?_, p1, by rw [p1]; exact p3, by rw [p2]; exact p4, p5⟩
      rw [HC.out, g2]
      rcases hor with rfl | ⟨r, hr, hm⟩
      · rw [List.drop_of_length_le (Nat.le_refl _)]; rfl
      · obtain ⟨hlt, rfl⟩ := List.getElem?_eq_some_iff.1 hr
        rw [List.drop_eq_getElem_cons hlt]
        simp only [cutN]
        rw [if_neg (by omega)]
    have FIN := hid fin
    clear fin
    rcases Nat.lt_or_ge k R.length with hlt | hge
    · obtain ⟨g, off, ha, hcell⟩ := (hrow2.below hbel).num hlt
      subst ha
      have hmem := B2.out R[k] (List.getElem_mem _)
      have hmb := (mayR_iff _).1 hmem.2
      have hz : ((R.map fun (r : Nat) => (r : Int))[k]?.getD 0) = ((R[k] : Nat) : Int) := by rw [List.getElem?_map, List.getElem?_eq_getElem hlt]; rfl
      rw [hz] at hcell
      have hstep : ((t : Int) + lenR R[k] ≤ most → (t + lenR R[k] = ((R.take (k + 1)).map encR).flatten.length ∧ cutN most 0 R = cutN most (t + lenR R[k]) (R.drop (k + 1))) ∧ t + lenR R[k] ≤ 3000) := fun hm => by
        obtain ⟨g1, g2⟩ := hH.out
        have p5 := (HP.out (k + 1)).2.2.2.2
        have e1 : ((R.take (k + 1)).map encR).flatten.length = t + lenR R[k] := by
          rw [List.take_succ_eq_append_getElem hlt, List.map_append, List.flatten_append, List.length_append, ← g1]
          simp [encR_len]
        refine ⟨⟨e1.symm, ?_⟩, by omega⟩
        rw [g2, List.drop_eq_getElem_cons hlt]
        simp only [cutN]
        rw [if_pos hm]
      have HST := hid hstep
      have HFI := hid (fun (hm : most < (t : Int) + lenR R[k]) => FIN.out (.inr ⟨R[k], List.getElem?_eq_getElem hlt, hm⟩))
      have hel : ByteArray.size ⟨(encR R[k]).toArray⟩ = lenR R[k] := by rw [str_size, encR_len]
      have hl4 := lenR_bd R[k]
      have CR := hid (fun W => ref_RawC ((R[k] : Nat) : Int) W (by omega) hmb.2.1)
      rw [Int.toNat_natCast] at CR
      clear hstep hmem hmb hz FIN
      generalize hx : ((R[k] : Nat) : Int) = x at *
      have HXX := hid hx
      clear hx
      generalize lenR R[k] = z at *
      generalize encR R[k] = ex at *
      by_cases hm : (t : Int) + z ≤ most
      · have d1 : decide ((t : Int) + (z : Int) ≤ most) = true := decide_eq_true hm
        go_wp2_with fail
        refine (CR.out _).mono ?_
        rintro e w3 ⟨rfl, hb3⟩
        have hbel3 := hbel.trans (hb3.mono hbel.size)
        have hc3 : w3.cell? ⟨g, off + k, none⟩ = some (.int .i32 x) := (hb3.cell (p := ⟨g, off + k, none⟩) (cell_lt hcell)).trans hcell
        go_wp2_with fail
        refine (CR.out _).mono ?_
        rintro e w4 ⟨rfl, hb4⟩
        have hbel4 := hbel3.trans (hb4.mono hbel3.size)
        go_wp2
        go_roundw
        case rel => exact ⟨k + 1, t + z, by omega, by go_num, by go_num, (HST.out hm).2, (HST.out hm).1, hbel4⟩
        case measure => simp [intOf]; omega
      · have d1 : decide ((t : Int) + (z : Int) ≤ most) = false := decide_eq_false hm
        obtain ⟨f1, f2, f3, f4, f5⟩ := HFI.out (by omega)
        subst f1
        have hto := fun W => str_to s q f5 W
        have hfrom := fun W => str_from s q f5 W
        have C3 := hid (fun W => utf_Check (s.take q) W (by simp; omega))
        rw [show checkU (s.take q) = 0 by unfold checkU; rw [f3]; rfl] at C3
        have C4 := hid (fun W => utf_Check (s.drop q) W (by simp; omega))
        rw [show checkU (s.drop q) = 0 by unfold checkU; rw [f4]; rfl] at C4
        clear f2 f3 f4
        generalize s.take q = sa at *
        generalize s.drop q = sb at *
        go_wp2_with fail
        refine (CR.out _).mono ?_
        rintro e w3 ⟨rfl, hb3⟩
        have hbel3 := hbel.trans (hb3.mono hbel.size)
        go_wp2_with fail
        refine (C4.out _).mono ?_
        rintro e w4 ⟨rfl, hb4⟩
        have hbel4 := hbel3.trans (hb4.mono hbel3.size)
        go_wp2_with fail
        refine (C3.out _).mono ?_
        rintro e w5 ⟨rfl, hb5⟩
        have hbel5 := hbel4.trans (hb5.mono hbel4.size)
        go_wp2_with fail
        refine (known12 _).mono ?_
        rintro e w6 ⟨rfl, hb6⟩
        have hbel6 := hbel5.trans (hb6.mono hbel5.size)
        go_wp2
        go_ret
        exact ⟨rfl, k2.trans (hbel6.mono k2.size)⟩
    · obtain rfl : k = R.length := by omega
      obtain ⟨f1, f2, f3, f4, f5⟩ := FIN.out (.inl rfl)
      subst f1
      have hto := fun W => str_to s q f5 W
      have hfrom := fun W => str_from s q f5 W
      have C3 := hid (fun W => utf_Check (s.take q) W (by simp; omega))
      rw [show checkU (s.take q) = 0 by unfold checkU; rw [f3]; rfl] at C3
      have C4 := hid (fun W => utf_Check (s.drop q) W (by simp; omega))
      rw [show checkU (s.drop q) = 0 by unfold checkU; rw [f4]; rfl] at C4
      clear f2 f3 f4
      generalize s.take q = sa at *
      generalize s.drop q = sb at *
      go_wp2_with fail
      refine (C4.out _).mono ?_
      rintro e w4 ⟨rfl, hb4⟩
      have hbel4 := hbel.trans (hb4.mono hbel.size)
      go_wp2_with fail
      refine (C3.out _).mono ?_
      rintro e w5 ⟨rfl, hb5⟩
      have hbel5 := hbel4.trans (hb5.mono hbel4.size)
      go_wp2_with fail
      refine (known12 _).mono ?_
      rintro e w6 ⟨rfl, hb6⟩
      have hbel6 := hbel5.trans (hb6.mono hbel5.size)
      go_wp2
      go_ret
      exact ⟨rfl, k2.trans (hbel6.mono k2.size)⟩

set_option maxRecDepth 100000 in
set_option maxHeartbeats 1000000 in
theorem walk_UtfCuts (a : ByteArray) (wa : a.size ≤ 9223372036854775807) (most : Int) (wm : (Lit.int .i64 most).wf = true) (w : World) :
    Calls Try.prog 5 #[.string a, .int .i64 most] w fun e w' => e = .returned (.bool true) ∧ Below w.heap.size w w' := by
  obtain ⟨⟨s⟩⟩ := a
  have hsz : ByteArray.size ⟨s.toArray⟩ = s.length := str_size s
  by_cases h1 : s.length ≤ 3000
  · have h3 := wrongU_lo s
    by_cases hm : most < 0
    · exact cuts_no s most w h1 (.inl hm)
    · by_cases hx : wrongU s = -1
      · exact cuts_yes s most w h1 (by omega) hx
      · exact cuts_no s most w h1 (.inr ⟨by omega, by omega⟩)
  · have h2 : (3000 : Int) < (s.length : Int) := by omega
    have h3 : s.length ≤ 9223372036854775807 := by rw [← hsz]; exact wa
    clear wa wm
    go_enter Try.func5, Try.ntmps5
    go_wp2_with fail
    refine (known12 _).mono ?_
    rintro e w9 ⟨rfl, hb9⟩
    go_wp2
    go_ret
    exact ⟨rfl, hb9⟩
end Go.Proofs.Ytjgflihokbmhiaa
