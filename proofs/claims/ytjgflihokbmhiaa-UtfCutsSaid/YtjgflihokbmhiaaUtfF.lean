/- Contracts of package utf: Raw. -/
import Derived.Test.YtjgflihokbmhiaaUtfE
import Derived.Test.YtjgflihokbmhiaaLenG
namespace Go.Proofs.Ytjgflihokbmhiaa
open Go.RowKit Go.Shelf

set_option maxHeartbeats 400000 in
theorem indexFunc_i32 (g : Nat) (lb : Array Value) (p : Int → Bool) (a : Option Addr) (n cap : Nat) (l : List Int) (w : World) (h : RowAt w a n cap (ns .i32 l))
   (eg : ∀ args w, (callFunc g args).run Try.prog w = .ok (.enter g args) w) (hg : ∀ (x : Int), Calls Try.prog g (#[.int .i32 x] ++ lb) w fun e w' => e = .returned (.bool (p x)) ∧ w = w') :
    Calls Try.prog 61 #[.slice a n cap, .func (.func g) #[] lb] w fun e w' => e = .returned (.int .i64 (idxOf p l)) ∧ w = w' := by
  have hle := h.le
  have hmax := h.max
  have hlen : l.length = n := by have := h.len; rwa [ns_len] at this
  have HL := hid hlen; clear hlen
  have HG := hid hg; clear hg
  unfold maxLen at hmax
  go_enter Try.func61, Try.ntmps61
  go_wp2
  go_loop [4,5,8] (fun _ _ i => ∃ k : Nat, k ≤ n ∧ i = .int .i64 k ∧ Hid (∀ j, j < k → p (l[j]?.getD 0) = false)) (fun _ _ i => n - (intOf i).toNat)
  case atStart => exact ⟨0, Nat.zero_le _, rfl, fun j hj => absurd hj (Nat.not_lt_zero _)⟩
  case round =>
    obtain ⟨k, hk, rfl, hj⟩ := hrel
    by_cases hlt : k < n
    · obtain ⟨b, off, ha, hcell⟩ := h.num hlt
      subst ha
      clear h
      go_wp2_with fail
      refine (HG.out _).mono ?_
      rintro e w' ⟨rfl, rfl⟩
      cases hp : p (l[k]?.getD 0)
      · go_wp2
        go_round
        case rel =>
          refine ⟨k + 1, by omega, by go_num, fun j hj' => ?_⟩
          by_cases he : j = k
          · subst he; exact hp
          · exact hj j (by omega)
        case measure => simp [intOf]; omega
      · go_wp2
        go_ret
        refine ⟨?_, rfl⟩
        have hl := HL.out
        rw [idxOf_at p l k (by omega) (fun j hj' => by have := hj j hj'; rwa [List.getElem?_eq_getElem (by omega)] at this) (by rwa [List.getElem?_eq_getElem (by omega)] at hp)]
        rfl
    · go_wp2
      go_ret
      refine ⟨?_, rfl⟩
      have hl := HL.out
      rw [idxOf_none p l (fun x hx => by
        obtain ⟨j, hj', rfl⟩ := List.getElem_of_mem hx
        have := hj j (by omega)
        rwa [List.getElem?_eq_getElem hj'] at this)]
      rfl
set_option maxHeartbeats 400000 in
theorem containsFunc_i32 (g : Nat) (lb : Array Value) (p : Int → Bool) (a : Option Addr) (n cap : Nat) (l : List Int) (w : World) (h : RowAt w a n cap (ns .i32 l))
   (eg : ∀ args w, (callFunc g args).run Try.prog w = .ok (.enter g args) w) (hg : ∀ (x : Int), Calls Try.prog g (#[.int .i32 x] ++ lb) w fun e w' => e = .returned (.bool (p x)) ∧ w = w') :
    Calls Try.prog 50 #[.slice a n cap, .func (.func g) #[] lb] w fun e w' => e = .returned (.bool (decide (0 ≤ idxOf p l))) ∧ w = w' := by
  have HG := hid (indexFunc_i32 g lb p a n cap l w h eg hg)
  clear hg eg
  go_enter Try.func50, Try.ntmps50
  go_wp2_with fail
  refine HG.out.mono ?_
  rintro e w' ⟨rfl, rfl⟩
  go_wp2
  go_ret
  exact ⟨rfl, rfl⟩


set_option maxRecDepth 100000 in
set_option maxHeartbeats 400000 in
theorem utf_Raw1 (r : Int) (w : World) :
    Calls Try.prog 51 #[.int .i32 r] w fun e w' => e = .returned (.bool (!mayR r)) ∧ w = w' := by
  go_enter Try.func51, Try.ntmps51
  go_wp2_with fail
  refine (utf_may r _).mono ?_
  rintro e w' ⟨rfl, rfl⟩
  go_wp2
  go_ret
  exact ⟨rfl, rfl⟩

/-- The bytes of runes. -/
def encAll (l : List Int) : List UInt8 := (l.map fun r => encR r.toNat).flatten
theorem encAll_snoc (l : List Int) (x : Int) : encAll (l ++ [x]) = encAll l ++ encR x.toNat := by simp [encAll]
theorem encAll_pre (l : List Int) (k : Nat) : (encAll (l.take k)).length ≤ (encAll l).length := by
  have h : encAll l = encAll (l.take k) ++ encAll (l.drop k) := by
    unfold encAll
    rw [← List.flatten_append, ← List.map_append, List.take_append_drop]
  rw [h, List.length_append]
  omega
/-- What Raw answers. -/
def rawU (l : List Int) : List UInt8 × Int :=
  if 0 ≤ idxOf (fun x => !mayR x) l then ([], 2) else if 65535 < (encAll l).length ∨ 0 ≤ wrongU (encAll l) then ([], 220) else (encAll l, 0)

theorem bs_app (x y : List UInt8) : bs x ++ bs y = bs (x ++ y) := by simp [bs]
theorem idxOf_neg {α : Type} (p : α → Bool) (l : List α) (h : ¬ 0 ≤ idxOf p l) : ∀ x ∈ l, p x = false := by
  induction l with
  | nil => intro x hx; cases hx
  | cons y l ih =>
    intro x hx
    simp only [idxOf] at h
    cases hp : p y with
    | true => rw [hp] at h; simp at h
    | false =>
      rw [hp] at h
      simp only [Bool.false_eq_true, if_false] at h
      have h2 : ¬ 0 ≤ idxOf p l := by
        intro h0
        apply h
        rw [if_neg (by omega)]
        omega
      rcases List.mem_cons.1 hx with rfl | hx
      · exact hp
      · exact ih h2 x hx

set_option maxRecDepth 100000 in
set_option maxHeartbeats 1000000 in
theorem utf_Raw_no (a : Option Addr) (n cap : Nat) (l : List Int) (w : World) (h : RowAt w a n cap (ns .i32 l)) (hl : 0 ≤ idxOf (fun x => !mayR x) l) :
    Calls Try.prog 29 #[.slice a n cap] w fun e w' => e = .returned (.tuple #[.string ⟨#[]⟩, .int .i64 2]) ∧ w = w' := by
  have HC := hid (containsFunc_i32 51 #[] (fun x => !mayR x) a n cap l w h (enters_of Try.func51 (by kernel_rfl) rfl) (fun x => utf_Raw1 x w))
  rw [show decide (0 ≤ idxOf (fun x => !mayR x) l) = true from by simpa using hl] at HC
  clear hl
  go_enter Try.func29, Try.ntmps29
  go_wp2_with fail
  apply wp_scope_fwd 0 rfl
  go_wp2_with fail
  refine HC.out.mono ?_
  rintro e w' ⟨rfl, rfl⟩
  go_wp2_with fail
  refine wp_goto ⟨rfl, ?_⟩
  go_wp2
  rw [Exit.noGoto_ret]
  go_ret2
  exact ⟨rfl, rfl⟩

set_option maxRecDepth 100000 in
set_option maxHeartbeats 1000000 in
theorem utf_Raw (a : Option Addr) (n cap : Nat) (l : List Int) (w : World) (h : RowAt w a n cap (ns .i32 l)) (hn : n ≤ 1000000) :
    Calls Try.prog 29 #[.slice a n cap] w fun e w' => e = .returned (.tuple #[.string ⟨(rawU l).1.toArray⟩, .int .i64 (rawU l).2]) ∧ Below w.heap.size w w' := by
  by_cases hl : 0 ≤ idxOf (fun x => !mayR x) l
  · have hr : rawU l = ([], 2) := by unfold rawU; rw [if_pos hl]
    rw [hr]
    exact (utf_Raw_no a n cap l w h hl).mono fun e w' ⟨h1, h2⟩ => ⟨h1, h2 ▸ Below.refl _ _⟩
  have hmay := idxOf_neg _ _ hl
  have hlen : l.length = n := by have := h.len; rwa [ns_len] at this
  have HL := hid hlen; clear hlen
  have HRW := hid (show rawU l = if 65535 < (encAll l).length ∨ 0 ≤ wrongU (encAll l) then ([], 220) else (encAll l, 0) by unfold rawU; rw [if_neg hl])
  have HC := hid (containsFunc_i32 51 #[] (fun x => !mayR x) a n cap l w h (enters_of Try.func51 (by kernel_rfl) rfl) (fun x => utf_Raw1 x w))
  rw [show decide (0 ≤ idxOf (fun x => !mayR x) l) = false from by simpa using hl] at HC
  clear hl
  have hle := h.le
  have hmax := h.max
  unfold maxLen at hmax
  go_enter Try.func29, Try.ntmps29
  go_wp2_with fail
  apply wp_scope_fwd 0 rfl
  go_wp2_with fail
  refine HC.out.mono ?_
  rintro e w' ⟨rfl, rfl⟩
  go_wp2_with fail
  go_loopw [4, 6, 11] (fun v _ i wr => ∃ k : Nat, k ≤ n ∧ i = .int .i64 k ∧ (encAll (l.take k)).length ≤ 65535 ∧ wr.ownsRow w.heap.size 5 1 v (encAll (l.take k)).length (bs (encAll (l.take k))) ∧ Below w.heap.size w wr) (fun _ _ i _ => n - (intOf i).toNat)
  case atStart => exact ⟨0, Nat.zero_le _, rfl, by simp [encAll], World.ownsRow_nil _ _ _ _, Below.refl _ _⟩
  case round =>
    obtain ⟨k, hk, rfl, hlk, hown, hbel⟩ := hrel
    by_cases hlt : k < n
    · obtain ⟨b, off, ha, hcell⟩ := (h.below hbel).num hlt
      subst ha
      have hx : mayR (l[k]?.getD 0) = true := by
        have := HL.out
        have h1 := hmay (l[k]'(by omega)) (List.getElem_mem _)
        rw [List.getElem?_eq_getElem (by omega)]
        simpa using h1
      have hsn : encAll (l.take (k + 1)) = encAll (l.take k) ++ encR (l[k]?.getD 0).toNat := by
        have := HL.out
        rw [List.take_succ_eq_append_getElem (by omega), encAll_snoc, List.getElem?_eq_getElem (by omega)]
        rfl
      have hpre := encAll_pre l (k + 1)
      obtain ⟨x, hX⟩ : ∃ x, x = l[k]?.getD 0 := ⟨_, rfl⟩
      rw [← hX] at hcell hx hsn
      have hx2 := (mayR_iff x).1 hx
      obtain ⟨m, rfl⟩ := Int.eq_ofNat_of_zero_le hx2.1
      rw [Int.toNat_natCast] at hsn
      have hel := encR_len m
      have hl4 := lenR_bd m
      generalize hB2 : encAll (l.take (k + 1)) = B2 at *
      have HB2 := hid hB2
      clear hB2
      generalize encAll (l.take k) = B1 at *
      have HSN := hid hsn
      have hl2 : B2.length = B1.length + lenR m := by rw [hsn, List.length_append, hel]
      have HL2 := hid hl2
      clear hX hx hsn hl2
      have hBsz := hbel.size
      have hm := hx2.2.1
      clear hx2 hmay
      go_wp2_with fail
      refine (utf_raw m wr (by omega)).mono ?_
      rintro e w2 ⟨v2, rfl, how2, hb2⟩
      have hown2 := ownsRow_below hown hb2
      have hbel2 := hbel.trans (hb2.mono hbel.size)
      obtain ⟨a2, c2, rfl, hrow2⟩ := RowAt.of_own how2
      clear hown how2
      generalize hS : lenR m = q at *
      by_cases hbig : 65535 < B1.length + q
      all_goals go_wp2_with (at_builtin; refine append_any rfl _ _ rfl Try.eByte w.heap.size _ _ _ rfl hown2 a2 q c2 _ (bs_one _) rfl hrow2 (by omega) (by omega) (by have := hb2.size; omega) ?_; intro v3 w3 how3 hg3; obtain ⟨a3, c3, rfl, hrow3⟩ := RowAt.of_own how3)
      · have HR := hid (show rawU l = ([], 220) by rw [HRW.out]; rw [if_pos (.inl (by have := HL2.out; omega))])
        have hbel3 := hbel2.grown hg3 hbel2.size (fun j e => (hown2.lt j e).1)
        refine wp_goto ⟨rfl, ?_⟩
        go_wp2
        rw [Exit.noGoto_ret]
        go_ret2
        rw [HR.out]
        exact ⟨rfl, hbel3⟩
      · go_roundw
        case rel =>
          refine ⟨k + 1, by omega, by go_num, ?_, ?_, hbel2.grown hg3 hbel2.size (fun j e => (hown2.lt j e).1)⟩
          · rw [HB2.out]; have := HL2.out; omega
          · rw [HB2.out, HL2.out, HSN.out, ← bs_app]; exact how3
        case measure => simp [intOf]; omega
    · obtain rfl : k = n := by omega
      have htk : l.take k = l := List.take_of_length_le (by have := HL.out; omega)
      rw [htk] at hlk hown
      obtain ⟨v0, c0, rfl, hrow⟩ := RowAt.of_own hown
      have hcv := run_str hrow
      have HC2 := hid (utf_Check (encAll l) wr (by omega))
      generalize hE : encAll l = E at *
      have HE := hid hE
      clear hE hmay
      have hcu : checkU E = if 0 ≤ wrongU E then 220 else 0 := rfl
      by_cases hwr : 0 ≤ wrongU E
      · rw [if_pos hwr] at hcu
        rw [hcu] at HC2
        have HR := hid (show rawU l = ([], 220) by rw [HRW.out]; rw [if_pos (.inr hwr)])
        clear hcu hwr HRW
        go_wp2_with fail
        refine HC2.out.mono ?_
        rintro e w2 ⟨rfl, hb2⟩
        go_wp2_with fail
        refine wp_goto ⟨rfl, ?_⟩
        go_wp2
        rw [Exit.noGoto_ret]
        go_ret2
        rw [HR.out]
        exact ⟨rfl, hbel.trans (hb2.mono hbel.size)⟩
      · rw [if_neg hwr] at hcu
        rw [hcu] at HC2
        have HR := hid (show rawU l = (E, 0) by rw [HRW.out]; rw [if_neg (by omega)])
        clear hcu hwr HRW
        go_wp2_with fail
        refine HC2.out.mono ?_
        rintro e w2 ⟨rfl, hb2⟩
        have hrow2 := hrow.below hb2
        have hcv2 := run_str hrow2
        go_wp2
        rw [exitFwd_ret]
        go_ret2
        rw [HR.out]
        exact ⟨rfl, hbel.trans (hb2.mono hbel.size)⟩
end Go.Proofs.Ytjgflihokbmhiaa
