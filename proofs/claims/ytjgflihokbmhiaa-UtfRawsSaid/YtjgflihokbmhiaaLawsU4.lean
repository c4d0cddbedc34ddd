/- The walk of the law UtfRaws. -/
import Derived.Test.YtjgflihokbmhiaaUtfH
import Derived.Test.YtjgflihokbmhiaaUtfN
import Derived.Test.YtjgflihokbmhiaaRow
namespace Go.Proofs.Ytjgflihokbmhiaa
open Go.RowKit Go.Shelf

theorem may_nats (l : List Int) (h : ∀ x ∈ l, mayR x = true) : l = (l.map Int.toNat).map (fun (r : Nat) => (r : Int)) ∧ ∀ r ∈ l.map Int.toNat, mayR r = true := by
  refine ⟨?_, fun r hr => ?_⟩
  · rw [List.map_map]
    conv => lhs; rw [← List.map_id l]
    apply List.map_congr_left
    intro x hx
    have := (mayR_iff x).1 (h x hx)
    simp
    omega
  · obtain ⟨x, hx, rfl⟩ := List.mem_map.1 hr
    have h1 := (mayR_iff x).1 (h x hx)
    rw [Int.toNat_of_nonneg h1.1]
    exact h x hx
theorem rawU_not_all (l : List Int) (x : Int) (hx : x ∈ l) (h : mayR x = false) : rawU l = ([], 2) := by
  have h1 : 0 ≤ idxOf (fun x => !mayR x) l := by
    rcases Int.lt_or_le (idxOf (fun x => !mayR x) l) 0 with h2 | h2
    · have h3 := idxOf_neg (fun x => !mayR x) l (by omega) x hx
      simp [h] at h3
    · exact h2
  unfold rawU
  rw [if_pos h1]
theorem rawU_all (l : List Int) (h : ∀ x ∈ l, mayR x = true) : rawU l = if 65535 < (encAll l).length ∨ 0 ≤ wrongU (encAll l) then ([], 220) else (encAll l, 0) := by
  unfold rawU
  rw [idxOf_none _ _ (fun x hx => by rw [h x hx]; rfl), if_neg (by omega)]
theorem rawU_bad (l : List Int) (h : ∀ x ∈ l, mayR x = true) (h2 : 0 ∈ l ∨ 65535 < (encAll l).length) : rawU l = ([], 220) := by
  rw [rawU_all l h]
  rcases h2 with h2 | h2
  · refine if_pos (.inr ?_)
    obtain ⟨h3, h4⟩ := may_nats l h
    have h5 := runesL_nought (l.map Int.toNat) 0 h4 (List.mem_map.2 ⟨0, h2, rfl⟩)
    rw [← encAll_nat, ← h3] at h5
    have h6 := wrongU_lo (encAll l)
    rcases Int.lt_or_le (wrongU (encAll l)) 0 with h7 | h7
    · exact absurd ((wrongU_iff _).1 (by omega)) h5
    · exact h7
  · rw [if_pos (.inl h2)]
theorem rawU_good (l : List Int) (h : ∀ x ∈ l, mayR x = true) (h0 : ¬ 0 ∈ l) (h2 : (encAll l).length ≤ 65535) : rawU l = (encAll l, 0) ∧ wrongU (encAll l) = -1 ∧ runesI (encAll l) = l := by
  obtain ⟨h3, h4⟩ := may_nats l h
  have h5 := runesL_encs (l.map Int.toNat) 0 (fun r hr => ⟨fun hz => by
      obtain ⟨x, hx, hxr⟩ := List.mem_map.1 hr
      have := (mayR_iff x).1 (h x hx)
      have : x = 0 := by omega
      exact h0 (this ▸ hx), h4 r hr⟩) (by rw [← encAll_nat, ← h3]; omega)
  rw [← encAll_nat, ← h3] at h5
  have h6 : wrongU (encAll l) = -1 := (wrongU_iff _).2 (by rw [h5])
  refine ⟨?_, h6, ?_⟩
  · rw [rawU_all l h, h6, if_neg (by omega)]
  · unfold runesI
    rw [h5]
    exact h3.symm

theorem encAll_le (l : List Int) : (encAll l).length ≤ 4 * l.length := by
  induction l with
  | nil => simp [encAll]
  | cons x l ih =>
    have h1 : encAll (x :: l) = encR x.toNat ++ encAll l := by simp [encAll]
    rw [h1, List.length_append, encR_len]
    have := lenR_bd x.toNat
    simp only [List.length_cons]
    omega

theorem ref_RawI (z : Int) (w : World) (h0 : 0 ≤ z) (h1 : z ≤ 1114111) :
    Calls Try.prog 20 #[.int .i32 z] w fun e w' => e = .returned (.string ⟨(encR z.toNat).toArray⟩) ∧ Below w.heap.size w w' := by
  obtain ⟨m, rfl⟩ := Int.eq_ofNat_of_zero_le h0
  rw [Int.toNat_natCast]
  exact ref_Raw m w (by omega)

set_option maxRecDepth 100000 in
set_option maxHeartbeats 2000000 in
theorem raws_walk (a : Option Addr) (n cap : Nat) (l : List Int) (w : World) (h : RowAt w a n cap (ns .i32 l)) :
    Calls Try.prog 10 #[.slice a n cap] w fun e w' => e = .returned (.bool true) ∧ Below w.heap.size w w' := by
  have hlen : l.length = n := by have := h.len; rwa [ns_len] at this
  have hle := h.le
  have hmax := h.max
  unfold maxLen at hmax
  have HL := hid hlen
  clear hlen
  by_cases hn : 30000 < n
  · go_enter Try.func10, Try.ntmps10
    go_wp2_with (go_at_call 17; refine (known12 _).mono ?_; rintro e w1 ⟨rfl, hb⟩)
    go_ret
    exact ⟨rfl, hb⟩
  have C1 := hid (utf_Raw a n cap l w h (by omega))
  generalize hq : rawU l = q at C1
  obtain ⟨S, E⟩ := q
  have HQ := hid hq
  clear hq
  go_enter Try.func10, Try.ntmps10
  go_wp2_with fail
  refine C1.out.mono ?_
  rintro e w1 ⟨rfl, k1⟩
  clear C1
  have h := h.below k1
  go_wp2_with fail
  go_loopw [5, 6, 7, 8] (fun sum fine nou i wr => ∃ (k : Nat) (t : Nat) (b : Bool), k ≤ n ∧ i = .int .i64 k ∧ sum = .int .i64 t ∧ t ≤ 4 * k ∧ fine = .bool true ∧ nou = .bool b ∧ Hid (t = (encAll (l.take k)).length ∧ (b = true ↔ 0 ∈ l.take k) ∧ ∀ x ∈ l.take k, mayR x = true) ∧ Below w1.heap.size w1 wr)
    (fun _ _ _ i _ => n - (intOf i).toNat)
  case atStart => exact ⟨0, 0, false, Nat.zero_le _, rfl, rfl, by omega, rfl, rfl, ⟨by simp [encAll], by simp, by simp⟩, Below.refl _ _⟩
  case round =>
    obtain ⟨k, t, b, hk, rfl, rfl, ht, rfl, rfl, hH, hbel⟩ := hrel
    rcases Nat.lt_or_ge k n with hlt | hge
    · obtain ⟨g, off, ha, hcell⟩ := (h.below hbel).num hlt
      subst ha
      have hkl : k < l.length := by have := HL.out; omega
      have hxe : l[k]?.getD 0 = l[k] := by rw [List.getElem?_eq_getElem hkl]; rfl
      have htk : l.take (k + 1) = l.take k ++ [l[k]] := List.take_succ_eq_append_getElem hkl
      have hmem : l[k] ∈ l := List.getElem_mem _
      rw [hxe] at hcell
      generalize l[k] = x at *
      have HTK := hid htk
      clear htk hxe h
      cases hmx : mayR x
      · have HR := hid (rawU_not_all l x hmem hmx)
        go_wp2_with fail
        refine (ref_May_is x false hmx _).mono ?_
        rintro e w2 ⟨rfl, rfl⟩
        have hSE : (S, E) = (([], 2) : List UInt8 × Int) := HQ.out.symm.trans HR.out
        obtain ⟨rfl, rfl⟩ := Prod.mk.inj hSE
        clear hSE
        go_wp2_with fail
        refine (known12 _).mono ?_
        rintro e w3 ⟨rfl, hb3⟩
        go_wp2
        go_ret
        exact ⟨rfl, (k1.trans (hbel.mono k1.size)).trans (hb3.mono (by have := k1.size; have := hbel.size; omega))⟩
      · have hxb := (mayR_iff x).1 hmx
        have CR := hid (fun W => ref_RawI x W hxb.1 hxb.2.1)
        have hl4 := lenR_bd x.toNat
        have hel : ByteArray.size ⟨(encR x.toNat).toArray⟩ = lenR x.toNat := by rw [str_size, encR_len]
        have HEL := hid (encR_len x.toNat)
        have HN := hid (show ∀ b', (b' = true ↔ (b = true ∨ x = 0)) → t + lenR x.toNat = (encAll (l.take (k + 1))).length ∧ (b' = true ↔ 0 ∈ l.take (k + 1)) ∧ ∀ y ∈ l.take (k + 1), mayR y = true from fun b' hb' => by
          obtain ⟨g1, g2, g3⟩ := hH.out
          rw [HTK.out, encAll_snoc, List.length_append, encR_len, ← g1]
          refine ⟨rfl, ?_, fun y hy => ?_⟩
          · rw [hb', g2, List.mem_append, List.mem_singleton]
            constructor
            · rintro (h | h)
              · exact .inl h
              · exact .inr h.symm
            · rintro (h | h)
              · exact .inl h
              · exact .inr h.symm
          · rcases List.mem_append.1 hy with hy | hy
            · exact g3 y hy
            · rw [List.mem_singleton.1 hy]; exact hmx)
        generalize lenR x.toNat = q at *
        generalize encR x.toNat = ex at *
        clear hxb
        go_wp2_with fail
        refine (ref_May_is x true hmx _).mono ?_
        rintro e w2 ⟨rfl, rfl⟩
        clear hmx
        go_wp2_with fail
        refine (CR.out _).mono ?_
        rintro e w3 ⟨rfl, hb3⟩
        have hbel3 := hbel.trans (hb3.mono hbel.size)
        have hc3 : w3.cell? ⟨g, off + k, none⟩ = some (.int .i32 x) := (hb3.cell (p := ⟨g, off + k, none⟩) (cell_lt hcell)).trans hcell
        cases b
        · by_cases hx0 : x = 0
          · have e0 : (x == 0) = true := by simpa using hx0
            have HX0 := hid hx0
            clear hx0
            go_wp2
            go_roundw
            case rel => exact ⟨k + 1, t + q, true, by omega, by go_num, by go_num, by omega, rfl, rfl, HN.out true (by simp [HX0.out]), hbel3⟩
            case measure => simp [intOf]; omega
          · have e0 : (x == 0) = false := by simpa using hx0
            go_wp2
            go_roundw
            case rel => exact ⟨k + 1, t + q, false, by omega, by go_num, by go_num, by omega, rfl, rfl, HN.out false (by simp [hx0]), hbel3⟩
            case measure => simp [intOf]; omega
        · go_wp2
          go_roundw
          case rel => exact ⟨k + 1, t + q, true, by omega, by go_num, by go_num, by omega, rfl, rfl, HN.out true (by simp), hbel3⟩
          case measure => simp [intOf]; omega
    · obtain rfl : k = n := by omega
      have htk : l.take k = l := List.take_of_length_le (by have := HL.out; omega)
      rw [htk] at hH
      clear htk
      obtain ⟨g1, g2, g3⟩ := hH.out
      clear hH
      by_cases hbad : b = true ∨ 65535 < t
      · have hR := rawU_bad l g3 (by rcases hbad with h | h; exact .inl (g2.1 h); exact .inr (by omega))
        have hSE : (S, E) = (([], 220) : List UInt8 × Int) := HQ.out.symm.trans hR
        obtain ⟨rfl, rfl⟩ := Prod.mk.inj hSE
        clear hSE hR g1 g2 g3
        have hti : (t : Int) ≤ 4 * (k : Int) := by omega
        cases b
        · have hbig : decide (65535 < (t : Int)) = true := by simp at hbad; simp; omega
          clear hbad
          go_wp2_with fail
          refine (known12 _).mono ?_
          rintro e w3 ⟨rfl, hb3⟩
          go_wp2
          go_ret
          exact ⟨rfl, (k1.trans (hbel.mono k1.size)).trans (hb3.mono (by have := k1.size; have := hbel.size; omega))⟩
        · clear hbad
          go_wp2_with fail
          refine (known12 _).mono ?_
          rintro e w3 ⟨rfl, hb3⟩
          go_wp2
          go_ret
          exact ⟨rfl, (k1.trans (hbel.mono k1.size)).trans (hb3.mono (by have := k1.size; have := hbel.size; omega))⟩
      · have hb0 : b = false := by cases b <;> simp at hbad ⊢
        subst hb0
        have ht2 : ¬ 65535 < t := fun h => hbad (.inr h)
        clear hbad
        obtain ⟨r1, r2, r3⟩ := rawU_good l g3 (fun h => by have := g2.2 h; cases this) (by omega)
        have hSE : (S, E) = (encAll l, (0 : Int)) := HQ.out.symm.trans r1
        obtain ⟨rfl, rfl⟩ := Prod.mk.inj hSE
        clear hSE r1
        have C2 := hid (fun W => utf_Runes (encAll l) W (by omega) r2)
        rw [r3] at C2
        have hsz : ByteArray.size ⟨(encAll l).toArray⟩ = t := by rw [str_size, g1]
        have hlen2 : l.length = k := HL.out
        rw [hlen2] at C2
        clear g1 g2 g3 r2 r3 HQ hlen2
        generalize encAll l = ea at *
        have hrw := h.below hbel
        have hti : (t : Int) ≤ 65535 := by omega
        have d1 : decide (65535 < (t : Int)) = false := decide_eq_false (by omega)
        go_wp2_with fail
        refine (C2.out _).mono ?_
        rintro e w3 ⟨v3, rfl, how3, hb3⟩
        obtain ⟨a3, c3, rfl, hrow3⟩ := RowAt.of_own how3
        have hrw3 := hrw.below hb3
        have hbel3 := hbel.trans (hb3.mono hbel.size)
        go_wp2_with fail
        refine (same12 _ _ _ _ _ _ _ _ _ hrow3 hrw3 rfl).mono ?_
        rintro e w4 ⟨rfl, hb4⟩
        have hbel4 := hbel3.trans (hb4.mono hbel3.size)
        go_wp2_with fail
        refine (known12 _).mono ?_
        rintro e w5 ⟨rfl, hb5⟩
        have hbel5 := hbel4.trans (hb5.mono hbel4.size)
        go_wp2
        go_ret
        exact ⟨rfl, k1.trans (hbel5.mono k1.size)⟩
theorem walk_UtfRaws (a : Option Addr) (n cap : Nat) (z : List Int) (w : World) (hr0 : IsRow .i32 w a n cap z) :
    Calls Try.prog 10 #[.slice a n cap] w fun e w' => e = .returned (.bool true) ∧ Below w.heap.size w w' :=
  raws_walk a n cap (z.take n) w hr0.row.1
end Go.Proofs.Ytjgflihokbmhiaa
