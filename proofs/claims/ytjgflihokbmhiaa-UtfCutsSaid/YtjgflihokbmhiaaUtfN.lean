/- Contracts of the reference of layer 12: Runes, Plain; the law package's same. -/
import Derived.Test.YtjgflihokbmhiaaUtfL
import Derived.Test.YtjgflihokbmhiaaUtfM
namespace Go.Proofs.Ytjgflihokbmhiaa
open Go.RowKit Go.Shelf

/-- What the reference's Runes answers. -/
def RunesR (s : List UInt8) (w : World) (e : Ending) (w' : World) : Prop :=
  Below w.heap.size w w' ∧ ((wrongU s = -1 ∧ ∃ v, e = .returned (.tuple #[v, .int .i64 (-1)]) ∧ w'.ownsRow w.heap.size 21 1 v (runesI s).length (ns .i32 (runesI s))) ∨
    (0 ≤ wrongU s ∧ e = .returned (.tuple #[.slice none 0 0, .int .i64 (wrongU s)])))

set_option maxRecDepth 100000 in
set_option maxHeartbeats 2000000 in
theorem ref_Runes (s : List UInt8) (w : World) (hs : s.length ≤ 1000000) :
    Calls Try.prog 19 #[.string ⟨s.toArray⟩] w (RunesR s w) := by
  have hsz : ByteArray.size ⟨s.toArray⟩ = s.length := by simp [ByteArray.size]
  go_enter Try.func19, Try.ntmps19
  go_wp2
  go_loopw [4, 5, 6, 7] (fun v at_ _ _ wr => ∃ (pre : List (Nat × Nat)) (s' : List UInt8) (p' : Nat), at_ = .int .i64 p' ∧ p' ≤ s.length ∧ pre.length ≤ s.length ∧ Below w.heap.size w wr ∧ ChainU s 0 pre s' p' ∧ Hid (s' = s.drop p') ∧ wr.ownsRow w.heap.size 21 1 v pre.length (ns .i32 (pre.map fun x => (x.2 : Int))))
    (fun _ at_ _ _ _ => s.length - (intOf at_).toNat)
  case atStart => exact ⟨[], s, 0, rfl, Nat.zero_le _, Nat.zero_le _, Below.refl _ _, ⟨rfl, rfl⟩, rfl, World.ownsRow_nil _ _ _ _⟩
  case round =>
    obtain ⟨pre, s', p', rfl, hp, hpl, hbel, hch, hs', hown⟩ := hrel
    rcases Nat.lt_or_ge p' s.length with hlt | hge
    · have hcut := fun W => str_from s p' hp W
      have hl' : s'.length = s.length - p' := by rw [hs'.out]; simp
      have HC := hid (ref_First s' wr (by omega))
      rw [← hs'.out] at hcut
      have hle := firstF_le s'
      have hbd : badR s' p' = (decide ((firstF s').2 = 0) || decide (65535 < p' + (firstF s').2)) := rfl
      have hne : s' ≠ [] := by intro h; rw [h] at hl'; simp at hl'; omega
      have HSN := hid (fun h => hch.snoc hne h)
      have HBAD := hid (fun (h : badR s' p' = true) => show wrongU s = (p' : Int) from by unfold wrongU; rw [hch.runes, runesL_bad s' p' hne h])
      generalize hq1 : (firstF s').1 = r at *
      generalize hq2 : (firstF s').2 = n at *
      rcases (show n = 0 ∨ (0 < n ∧ 65535 < p' + n) ∨ (0 < n ∧ p' + n ≤ 65535) by omega) with rfl | ⟨hn, hn2⟩ | ⟨hn, hn2⟩
      · have HW := hid (HBAD.out (by simp [hbd]))
        go_wp2_with fail
        refine HC.out.mono ?_
        rintro e w2 ⟨rfl, hb2⟩
        go_wp2
        go_ret2
        exact ⟨hbel.trans (hb2.mono hbel.size), .inr ⟨by rw [HW.out]; omega, by rw [HW.out]; rfl⟩⟩
      · have e1 : ((n : Int) == 0) = false := by simp; omega
        have HW := hid (HBAD.out (by rw [hbd]; simp; omega))
        go_wp2_with fail
        refine HC.out.mono ?_
        rintro e w2 ⟨rfl, hb2⟩
        go_wp2
        go_ret2
        exact ⟨hbel.trans (hb2.mono hbel.size), .inr ⟨by rw [HW.out]; omega, by rw [HW.out]; rfl⟩⟩
      · have e1 : ((n : Int) == 0) = false := by simp; omega
        have hbt : badR s' p' = false := by rw [hbd]; simp; omega
        go_wp2_with fail
        refine HC.out.mono ?_
        rintro e w2 ⟨rfl, hb2⟩
        have hbel2 := hbel.trans (hb2.mono hbel.size)
        have hown2 := ownsRow_below hown hb2
        have hsz2 := hbel2.size
        have hpl2 : pre.length + 1 ≤ s.length := by have := (HSN.out hbt).len; simpa using this
        clear hown
        obtain ⟨va, vc, rfl, -⟩ := RowAt.of_own hown2
        go_wp2_with (at_builtin; refine append_one rfl _ _ rfl Try.eI32 w.heap.size _ pre.length _ rfl hown2 (.int .i32 r) rfl rfl (by omega) (by omega) (by omega) ?_; intro v' w' how' hg'; obtain ⟨a', c', rfl, -⟩ := RowAt.of_own how')
        go_roundw
        case rel =>
          refine ⟨pre ++ [(p', r)], s'.drop n, p' + n, by go_num, by omega, by simpa using hpl2, hbel2.grown hg' hbel2.size (fun k e => (hown2.lt k e).1), HSN.out hbt, ?_, ?_⟩
          · show s'.drop n = s.drop (p' + n)
            rw [hs'.out, List.drop_drop]
          · rw [List.length_append, List.map_append]
            rw [ns_snoc] at how'
            exact how'
        case measure => simp [intOf]; omega
    · obtain rfl : p' = s.length := by omega
      have hnil : s' = [] := by rw [hs'.out]; simp
      subst hnil
      have hw : wrongU s = -1 ∧ runesI s = pre.map fun x => (x.2 : Int) := by
        unfold wrongU runesI
        rw [hch.runes]
        simp [runesL_nil]
      have HW := hid hw
      clear hw
      obtain ⟨va, vc, rfl, -⟩ := RowAt.of_own hown
      go_wp2
      refine bodyPost_ret (v := .tuple #[.slice va pre.length vc, .int .i64 (-1)]) (by simp [results, Try.results19, go_sem]) rfl ⟨hbel, .inl ⟨HW.out.1, _, rfl, ?_⟩⟩
      rw [HW.out.2, List.length_map]
      exact hown

set_option maxRecDepth 100000 in
set_option maxHeartbeats 2000000 in
theorem ref_Plain (a : Option Addr) (n cap : Nat) (l : List Nat) (w : World) (h : RowAt w a n cap (ns .i32 (l.map fun (r : Nat) => (r : Int)))) (hl : ∀ r ∈ l, r ≤ 1114111) :
    Calls Try.prog 30 #[.slice a n cap] w fun e w' => e = .returned (.bool (l.all fun r => !oddR r)) ∧ w = w' := by
  have hlen : l.length = n := by have := h.len; rw [ns_len] at this; simpa using this
  have hle := h.le
  have hmax := h.max
  unfold maxLen at hmax
  have HL := hid hlen
  have HLE := hid hl
  clear hlen hl
  go_enter Try.func30, Try.ntmps30
  go_wp2
  go_loop [3, 4] (fun i _ => ∃ k : Nat, k ≤ n ∧ i = .int .i64 k ∧ Hid (∀ r ∈ l.take k, oddR r = false)) (fun i _ => n - (intOf i).toNat)
  case atStart => exact ⟨0, Nat.zero_le _, rfl, fun r hr => by simp at hr⟩
  case round =>
    obtain ⟨k, hk, rfl, hj⟩ := hrel
    rcases Nat.lt_or_ge k n with hlt | hge
    · obtain ⟨b, off, ha, hcell⟩ := h.num hlt
      subst ha
      clear h
      obtain ⟨r, hr, hrl⟩ : ∃ r : Nat, l[k]? = some r ∧ r ≤ 1114111 := by
        have := HL.out
        exact ⟨l[k]'(by omega), List.getElem?_eq_getElem _, HLE.out _ (List.getElem_mem _)⟩
      have hz : ((l.map fun (r : Nat) => (r : Int))[k]?.getD 0) = (r : Int) := by rw [List.getElem?_map, hr]; rfl
      rw [hz] at hcell
      clear hz
      have HS := hid (show oddR r = false → ∀ x ∈ l.take (k + 1), oddR x = false from fun h x hx => by
        rw [List.take_add_one, List.mem_append] at hx
        rcases hx with hx | hx
        · exact hj.out x hx
        · rw [hr] at hx; simp at hx; rw [hx]; exact h)
      have HO := hid (show oddR r = true → (l.all fun r => !oddR r) = false from fun h => by
        simp only [List.all_eq_false]
        exact ⟨r, List.mem_of_getElem? hr, by rw [h]; simp⟩)
      have HR := hid hr
      clear hr
      obtain ⟨z, hz⟩ : ∃ z : Int, z = r := ⟨_, rfl⟩
      rw [← hz] at hcell
      have z0 : 0 ≤ z := by omega
      have z1 : z ≤ 1114111 := by omega
      have ho : oddR r = (decide (z < 32) || (decide (127 ≤ z) && decide (z < 160)) || (decide (64976 ≤ z) && decide (z ≤ 65007)) || decide (65534 ≤ z % 65536)) := by
        unfold oddR
        rw [hz]
        congr 1
        · congr 1
          · congr 1
            · exact decide_eq_decide.2 (by omega)
            · congr 1
              · exact decide_eq_decide.2 (by omega)
              · exact decide_eq_decide.2 (by omega)
          · congr 1
            · exact decide_eq_decide.2 (by omega)
            · exact decide_eq_decide.2 (by omega)
        · exact decide_eq_decide.2 (by omega)
      rw [ho] at HS HO
      clear hz ho hrl
      cases c1 : decide (z < 32)
      · skip
        cases c2 : decide (127 ≤ z)
        · skip
          cases c4 : decide (64976 ≤ z)
          · skip
            cases c6 : decide (65534 ≤ z % 65536)
            · skip
              go_wp2
              go_round
              case rel => exact ⟨k + 1, by omega, by go_num, HS.out (by simp [c1, c2, c4, c6])⟩
              case measure => simp [intOf]; omega
            · skip
              go_wp2
              go_ret
              rw [HO.out (by simp [c1, c2, c4, c6])]
              exact ⟨rfl, rfl⟩
          · skip
            cases c5 : decide (z ≤ 65007)
            · skip
              cases c6 : decide (65534 ≤ z % 65536)
              · skip
                go_wp2
                go_round
                case rel => exact ⟨k + 1, by omega, by go_num, HS.out (by simp [c1, c2, c4, c5, c6])⟩
                case measure => simp [intOf]; omega
              · skip
                go_wp2
                go_ret
                rw [HO.out (by simp [c1, c2, c4, c5, c6])]
                exact ⟨rfl, rfl⟩
            · skip
              go_wp2
              go_ret
              rw [HO.out (by simp [c1, c2, c4, c5])]
              exact ⟨rfl, rfl⟩
        · skip
          cases c3 : decide (z < 160)
          · skip
            cases c4 : decide (64976 ≤ z)
            · skip
              cases c6 : decide (65534 ≤ z % 65536)
              · skip
                go_wp2
                go_round
                case rel => exact ⟨k + 1, by omega, by go_num, HS.out (by simp [c1, c2, c3, c4, c6])⟩
                case measure => simp [intOf]; omega
              · skip
                go_wp2
                go_ret
                rw [HO.out (by simp [c1, c2, c3, c4, c6])]
                exact ⟨rfl, rfl⟩
            · skip
              cases c5 : decide (z ≤ 65007)
              · skip
                cases c6 : decide (65534 ≤ z % 65536)
                · skip
                  go_wp2
                  go_round
                  case rel => exact ⟨k + 1, by omega, by go_num, HS.out (by simp [c1, c2, c3, c4, c5, c6])⟩
                  case measure => simp [intOf]; omega
                · skip
                  go_wp2
                  go_ret
                  rw [HO.out (by simp [c1, c2, c3, c4, c5, c6])]
                  exact ⟨rfl, rfl⟩
              · skip
                go_wp2
                go_ret
                rw [HO.out (by simp [c1, c2, c3, c4, c5])]
                exact ⟨rfl, rfl⟩
          · skip
            go_wp2
            go_ret
            rw [HO.out (by simp [c1, c2, c3])]
            exact ⟨rfl, rfl⟩
      · skip
        go_wp2
        go_ret
        rw [HO.out (by simp [c1])]
        exact ⟨rfl, rfl⟩
    · obtain rfl : k = n := by omega
      have hall : (l.all fun r => !oddR r) = true := by
        have h1 := hj.out
        rw [List.take_of_length_le (by have := HL.out; omega)] at h1
        rw [List.all_eq_true]
        intro x hx
        rw [h1 x hx]
        rfl
      have HA := hid hall
      clear hall
      go_wp2
      go_ret
      rw [HA.out]
      exact ⟨rfl, rfl⟩

set_option maxRecDepth 100000 in
set_option maxHeartbeats 2000000 in
theorem same12 (a : Option Addr) (n cap : Nat) (l : List Int) (b : Option Addr) (m cbp : Nat) (l' : List Int) (w : World) (h : RowAt w a n cap (ns .i32 l)) (h' : RowAt w b m cbp (ns .i32 l')) (hll : l = l') :
    Calls Try.prog 28 #[.slice a n cap, .slice b m cbp] w fun e w' => e = .returned (.bool true) ∧ Below w.heap.size w w' := by
  subst hll
  have hlen : l.length = n := by have := h.len; rwa [ns_len] at this
  have hlen' : l.length = m := by have := h'.len; rwa [ns_len] at this
  obtain rfl : n = m := by omega
  have hle := h.le
  have hmax := h.max
  have hle' := h'.le
  have hmax' := h'.max
  unfold maxLen at hmax hmax'
  have HL := hid hlen
  clear hlen hlen'
  go_enter Try.func28, Try.ntmps28
  go_wp2
  go_loopw [5] (fun i wr => ∃ k : Nat, k ≤ n ∧ i = .int .i64 k ∧ Below w.heap.size w wr) (fun i _ => n - (intOf i).toNat)
  case atStart => exact ⟨0, Nat.zero_le _, rfl, Below.refl _ _⟩
  case round =>
    obtain ⟨k, hk, rfl, hbel⟩ := hrel
    rcases Nat.lt_or_ge k n with hlt | hge
    · obtain ⟨g, off, ha, hcell⟩ := (h.below hbel).num hlt
      obtain ⟨g', off', ha', hcell'⟩ := (h'.below hbel).num hlt
      subst ha ha'
      have hi0 : (0 : Int) ≤ (k : Int) := by omega
      have hi1 : (k : Int) < (n : Int) := by omega
      generalize l[k]?.getD 0 = x at *
      clear h h'
      go_wp2
      go_region
      go_wp2
      go_roundw
      case rel => exact ⟨k + 1, by omega, by go_num, hbel.drew⟩
      case measure => simp [intOf]; omega
    · obtain rfl : k = n := by omega
      go_wp2
      go_ret
      exact ⟨rfl, hbel⟩
end Go.Proofs.Ytjgflihokbmhiaa
