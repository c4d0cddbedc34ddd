/- Plain facts on runes' bytes for the law UtfOne. · Plain facts on texts one behind the other, for the law UtfParts. · Contracts of the reference of layer 12: Runes, Plain; the law package's same. · Contracts of package records (part 6): Check of a session's row. -/
import Derived.Test.YtoinabapaeebfaaGreatDoorPk03
import Derived.Test.YtoinabapaeebfaaGreatDoorPk16
import Derived.Test.YtoinabapaeebfaaGreatDoorPk04
import Derived.Test.YtoinabapaeebfaaGreatDoorPk05
set_option linter.unusedSimpArgs false
set_option linter.unusedVariables false
namespace Go.Proofs.YtoinabapaeebfaaGreatDoor
open Go.RowKit Go.Shelf

theorem badR_enc (r p : Nat) (h0 : r ≠ 0) (hm : mayR r = true) (hp : p + 4 ≤ 65535) (t : List UInt8) : badR (encR r ++ t) p = false := by
  have h1 := firstF_enc r h0 hm t
  have h2 := lenR_bd r
  unfold badR
  rw [h1]
  simp
  omega
theorem runesL_enc (r p : Nat) (h0 : r ≠ 0) (hm : mayR r = true) (hp : p + 4 ≤ 65535) (t : List UInt8) : runesL (encR r ++ t) p = (r :: (runesL t (p + lenR r)).1, (runesL t (p + lenR r)).2) := by
  have h1 := firstF_enc r h0 hm t
  have hne : encR r ++ t ≠ [] := by
    intro h
    have h2 := congrArg List.length h
    rw [List.length_append, encR_len] at h2
    have := lenR_bd r
    simp at h2
    omega
  rw [runesL_good _ _ hne (badR_enc r p h0 hm hp t), h1]
  have h3 : (encR r ++ t).drop (lenR r) = t := by rw [← encR_len r, List.drop_left]
  rw [h3]
theorem wrongU_enc (r : Nat) (h0 : r ≠ 0) (hm : mayR r = true) : wrongU (encR r) = -1 := by
  have h := runesL_enc r 0 h0 hm (by omega) []
  rw [List.append_nil] at h
  unfold wrongU
  rw [h]
  rfl
theorem runes_enc (r : Nat) (h0 : r ≠ 0) (hm : mayR r = true) : (runesL (encR r) 0).1 = [r] := by
  have h := runesL_enc r 0 h0 hm (by omega) []
  rw [List.append_nil] at h
  rw [h]
  rfl
theorem firstF_128 : firstF [128] = (0, 0) := by decide +kernel
theorem wrongU_more (r : Nat) (h0 : r ≠ 0) (hm : mayR r = true) : wrongU (encR r ++ [128]) = lenR r := by
  have h := runesL_enc r 0 h0 hm (by omega) [128]
  unfold wrongU
  rw [h, runesL_bad [128] (0 + lenR r) (by simp) (by unfold badR; rw [firstF_128]; simp)]
  simp
theorem wrongU_less (r : Nat) (h0 : r ≠ 0) (hm : mayR r = true) (h1 : lenR r ≠ 1) : wrongU ((encR r).take (lenR r - 1)) = 0 := by
  have hb := lenR_bd r
  have hne : (encR r).take (lenR r - 1) ≠ [] := by
    intro h
    have h2 := congrArg List.length h
    rw [List.length_take, encR_len] at h2
    simp at h2
    omega
  have hf : firstF ((encR r).take (lenR r - 1)) = (0, 0) := by
    rcases firstF_spec ((encR r).take (lenR r - 1)) with h | ⟨v, n, h, h2, h3, h4, h5, h6⟩
    · exact h
    · exfalso
      rw [List.length_take, encR_len] at h5
      have h7 : encR r = encR v ++ (encR r).drop n := by
        rw [h6, List.take_take, Nat.min_eq_left (by omega), List.take_append_drop]
      have h8 := firstF_enc v h2 h3 ((encR r).drop n)
      rw [← h7] at h8
      have h9 := firstF_enc r h0 hm []
      rw [List.append_nil, h8] at h9
      have h10 := congrArg Prod.snd h9
      dsimp only at h10
      omega
  unfold wrongU
  rw [runesL_bad _ 0 hne (by unfold badR; rw [hf]; rfl)]
  rfl
theorem str_app (x y : List UInt8) : (⟨x.toArray⟩ : ByteArray) ++ ⟨y.toArray⟩ = ⟨(x ++ y).toArray⟩ := by
  apply ByteArray.ext
  simp
end Go.Proofs.YtoinabapaeebfaaGreatDoor
namespace Go.Proofs.YtoinabapaeebfaaGreatDoor
open Go.RowKit Go.Shelf

theorem runesL_ge (s : List UInt8) (p m : Nat) (h : (runesL s p).2 = some m) : p ≤ m := by
  generalize hn : s.length = n at *
  induction n using Nat.strongRecOn generalizing s p with
  | _ n ih =>
    by_cases hs : s = []
    · subst hs; simp [runesL_nil] at h
    · cases hb : badR s p with
      | true =>
        rw [runesL_bad s p hs hb] at h
        simp at h
        omega
      | false =>
        rw [runesL_good s p hs hb] at h
        have h1 := firstF_ne s p hb
        have h2 := List.length_pos_iff.2 hs
        have := ih (s.drop (firstF s).2).length (by simp; omega) _ _ h rfl
        omega

theorem firstF_split (s : List UInt8) (p : Nat) (h : badR s p = false) : s = encR (firstF s).1 ++ s.drop (firstF s).2 := by
  have h1 := firstF_ne s p h
  rcases firstF_spec s with h2 | ⟨r, n, h2, h3, h4, h5, h6, h7⟩
  · rw [h2] at h1; exact absurd rfl h1.1
  · rw [h2]
    dsimp only
    rw [h7, List.take_append_drop]

/-- A text behind another one. -/
theorem runesL_app (a b : List UInt8) (p : Nat) (hp : p + a.length + b.length ≤ 65535) :
    ((runesL a p).2 = none → runesL (a ++ b) p = ((runesL a p).1 ++ (runesL b (p + a.length)).1, (runesL b (p + a.length)).2)) ∧
    (∀ n, (runesL a p).2 = some n → ∀ m, (runesL (a ++ b) p).2 = some m → n ≤ m) := by
  generalize hn : a.length = k at *
  induction k using Nat.strongRecOn generalizing a p with
  | _ k ih =>
    by_cases hs : a = []
    · subst hs
      simp at hn
      subst hn
      simp [runesL_nil]
    · have hk : 0 < a.length := List.length_pos_iff.2 hs
      cases hb : badR a p with
      | true =>
        rw [runesL_bad a p hs hb]
        refine ⟨fun h => by simp at h, fun n h m hm => ?_⟩
        simp at h
        subst h
        exact runesL_ge _ _ _ hm
      | false =>
        have h1 := firstF_ne a p hb
        have h2 := firstF_split a p hb
        have h3 : firstF (a ++ b) = firstF a := by
          rw [h2, List.append_assoc, firstF_enc _ h1.1 h1.2.2.2.1, ← h2]
          exact Prod.ext rfl h1.2.2.2.2.2.symm
        have h4 := firstF_le a
        have hb2 : badR (a ++ b) p = false := by unfold badR at hb ⊢; rw [h3]; exact hb
        have h5 : (a ++ b).drop (firstF a).2 = a.drop (firstF a).2 ++ b := by rw [List.drop_append_of_le_length h4]
        have h6 : a ++ b ≠ [] := by simp [hs]
        obtain ⟨g1, g2⟩ := ih (a.drop (firstF a).2).length (by simp; omega) (a.drop (firstF a).2) (p + (firstF a).2) rfl (by simp; omega)
        rw [runesL_good a p hs hb, runesL_good (a ++ b) p h6 hb2, h3, h5]
        have h7 : p + (firstF a).2 + (a.drop (firstF a).2).length = p + k := by simp; omega
        rw [h7] at g1
        refine ⟨fun h => ?_, fun n h m hm => g2 n h m hm⟩
        rw [g1 h]
        simp

theorem runesL_shift (s : List UInt8) (p q : Nat) (hp : p + q + s.length ≤ 65535) : runesL s (q + p) = ((runesL s q).1, (runesL s q).2.map (· + p)) := by
  generalize hn : s.length = k at *
  induction k using Nat.strongRecOn generalizing s q with
  | _ k ih =>
    by_cases hs : s = []
    · subst hs; simp [runesL_nil]
    · have hk : 0 < s.length := List.length_pos_iff.2 hs
      have h4 := firstF_le s
      have hbb : badR s (q + p) = badR s q := by
        unfold badR
        rw [show decide (65535 < q + p + (firstF s).2) = false by simp; omega, show decide (65535 < q + (firstF s).2) = false by simp; omega]
      cases hb : badR s q with
      | true =>
        rw [runesL_bad s q hs hb, runesL_bad s (q + p) hs (by rw [hbb]; exact hb)]
        simp
      | false =>
        have h1 := firstF_ne s q hb
        rw [runesL_good s q hs hb, runesL_good s (q + p) hs (by rw [hbb]; exact hb)]
        have := ih (s.drop (firstF s).2).length (by simp; omega) (s.drop (firstF s).2) (q + (firstF s).2) rfl (by simp; omega)
        rw [show q + p + (firstF s).2 = q + (firstF s).2 + p by omega, this]

theorem wrongU_iff (s : List UInt8) : wrongU s = -1 ↔ (runesL s 0).2 = none := by
  unfold wrongU
  cases (runesL s 0).2 with
  | none => simp
  | some p => simp only [reduceCtorEq, iff_false]
theorem wrongU_some (s : List UInt8) (n : Nat) : wrongU s = n ↔ (runesL s 0).2 = some n := by
  unfold wrongU
  cases (runesL s 0).2 with
  | none => simp only [reduceCtorEq, iff_false]
  | some p => simp only [Option.some.injEq]; omega

theorem parts_wrong (a b : List UInt8) (hl : a.length + b.length ≤ 65535) (h : 0 ≤ wrongU a) : wrongU (a ++ b) = -1 ∨ wrongU a ≤ wrongU (a ++ b) := by
  obtain ⟨n, hn⟩ := Int.eq_ofNat_of_zero_le h
  have h1 := (runesL_app a b 0 (by omega)).2 n ((wrongU_some a n).1 hn)
  cases hm : (runesL (a ++ b) 0).2 with
  | none => exact .inl ((wrongU_iff _).2 hm)
  | some m =>
    have h2 := h1 m hm
    have h3 := (wrongU_some _ m).2 hm
    right; rw [hn, h3]; omega
theorem runesL_le (s : List UInt8) (p m : Nat) (h : (runesL s p).2 = some m) : m ≤ p + s.length := by
  generalize hn : s.length = n at *
  induction n using Nat.strongRecOn generalizing s p with
  | _ n ih =>
    by_cases hs : s = []
    · subst hs; simp [runesL_nil] at h
    · cases hb : badR s p with
      | true =>
        rw [runesL_bad s p hs hb] at h
        simp at h
        omega
      | false =>
        rw [runesL_good s p hs hb] at h
        have h1 := firstF_ne s p hb
        have h2 := List.length_pos_iff.2 hs
        have h4 := firstF_le s
        have := ih (s.drop (firstF s).2).length (by simp; omega) _ _ h rfl
        simp at this
        omega
theorem wrongU_le (s : List UInt8) (n : Nat) (h : wrongU s = n) : n ≤ s.length := by
  have := runesL_le s 0 n ((wrongU_some s n).1 h)
  omega
end Go.Proofs.YtoinabapaeebfaaGreatDoor
namespace Go.Proofs.YtoinabapaeebfaaGreatDoor
open Go.RowKit Go.Shelf

theorem Tryz.eI32 : ElemT Tryz.prog 200 21 (.int .i32 0) 1 4 := ⟨Tryz.underlying200, by kernel_rfl, rfl⟩

/-- The runes of a text, as numbers. -/
def runesI (s : List UInt8) : List Int := (runesL s 0).1.map fun (r : Nat) => (r : Int)
theorem runesL_len (s : List UInt8) (p : Nat) : (runesL s p).1.length ≤ s.length := by
  have key : ∀ f (s : List UInt8) p, (runesF f s p).1.length ≤ f := by
    intro f
    induction f with
    | zero => intros; simp [runesF]
    | succ f ih =>
      intro s p
      unfold runesF
      split
      · simp
      · split
        · simp
        · have := ih (s.drop (firstF s).2) (p + (firstF s).2)
          simp only [List.length_cons]
          omega
  exact key _ _ _
theorem ChainU.len {s : List UInt8} {p : Nat} {pre : List (Nat × Nat)} {s' : List UInt8} {p' : Nat} (h : ChainU s p pre s' p') : pre.length ≤ s.length := by
  have h1 := h.runes
  have h2 := runesL_len s p
  rw [h1] at h2
  simp at h2
  omega
theorem RuneNx.len {s : List UInt8} {pre : List (Nat × Nat)} {x : Nat × Nat} {W : World} (h : RuneNx s pre x W) : pre.length ≤ s.length := by
  obtain ⟨s', p', hch, _⟩ := h
  exact hch.len

def RunesI (w : World) (pre : List (Nat × Nat)) (W : World) : Prop :=
  (∃ v, Boxed W w.heap.size 200 v ∧ W.ownsRow (w.heap.size + 4) 21 1 v pre.length (ns .i32 (pre.map fun x => (x.2 : Int)))) ∧ Below w.heap.size w W

theorem ns_snoc (k : IntKind) (l : List Int) (x : Int) : ns k l ++ [.int k x] = ns k (l ++ [x]) := by simp [ns]

/-- What the reference's Runes answers. -/
def RunesR (s : List UInt8) (w : World) (e : Ending) (w' : World) : Prop :=
  Below w.heap.size w w' ∧ ((wrongU s = -1 ∧ ∃ v, e = .returned (.tuple #[v, .int .i64 (-1)]) ∧ w'.ownsRow w.heap.size 21 1 v (runesI s).length (ns .i32 (runesI s))) ∨
    (0 ≤ wrongU s ∧ e = .returned (.tuple #[.slice none 0 0, .int .i64 (wrongU s)])))

set_option maxRecDepth 100000 in
set_option maxHeartbeats 2000000 in
theorem ref_Runes (s : List UInt8) (w : World) (hs : s.length ≤ 1000000) :
    Calls Tryz.prog 120 #[.string ⟨s.toArray⟩] w (RunesR s w) := by
  have hsz : ByteArray.size ⟨s.toArray⟩ = s.length := by simp [ByteArray.size]
  go_enter Tryz.func120, Tryz.ntmps120
  go_wp2
  go_loopw [4, 5, 6, 7] (fun v at_ _ _ wr => ∃ (pre : List (Nat × Nat)) (s' : List UInt8) (p' : Nat), at_ = .int .i64 p' ∧ p' ≤ s.length ∧ pre.length ≤ s.length ∧ Below w.heap.size w wr ∧ ChainU s 0 pre s' p' ∧ Hid (s' = s.drop p') ∧ wr.ownsRow w.heap.size 21 1 v pre.length (ns .i32 (pre.map fun x => (x.2 : Int))))
    (fun _ at_ _ _ _ => s.length - (intOf at_).toNat)
  case atStart => exact ⟨[], s, 0, rfl, Nat.zero_le _, Nat.zero_le _, Below.refl _ _, ⟨rfl, rfl⟩, rfl, World.ownsRow_nil _ _ _ _⟩
  case round =>
    obtain ⟨pre, s', p', rfl, hp, hpl, hbel, hch, hs', hown⟩ := hrel
    rcases Nat.lt_or_ge p' s.length with hlt | hge
    · have hcut := fun W => str_from s p' hp W
      have hl' : s'.length = s.length - p' := by rw [hs'.out]; simp
      have HC := hid (ref_First s' wr (by omega))
      rw [← hs'.out] at hcut
      have hle := firstF_le s'
      have hbd : badR s' p' = (decide ((firstF s').2 = 0) || decide (65535 < p' + (firstF s').2)) := rfl
      have hne : s' ≠ [] := by intro h; rw [h] at hl'; simp at hl'; omega
      have HSN := hid (fun h => hch.snoc hne h)
      have HBAD := hid (fun (h : badR s' p' = true) => show wrongU s = (p' : Int) from by unfold wrongU; rw [hch.runes, runesL_bad s' p' hne h])
      generalize hq1 : (firstF s').1 = r at *
      generalize hq2 : (firstF s').2 = n at *
      rcases (show n = 0 ∨ (0 < n ∧ 65535 < p' + n) ∨ (0 < n ∧ p' + n ≤ 65535) by omega) with rfl | ⟨hn, hn2⟩ | ⟨hn, hn2⟩
      · have HW := hid (HBAD.out (by simp [hbd]))
        go_wp2_with fail
        refine HC.out.mono ?_
        rintro e w2 ⟨rfl, hb2⟩
        go_wp2
        go_ret2
        exact ⟨hbel.trans (hb2.mono hbel.size), .inr ⟨by rw [HW.out]; omega, by rw [HW.out]; rfl⟩⟩
      · have e1 : ((n : Int) == 0) = false := by simp; omega
        have HW := hid (HBAD.out (by rw [hbd]; simp; omega))
        go_wp2_with fail
        refine HC.out.mono ?_
        rintro e w2 ⟨rfl, hb2⟩
        go_wp2
        go_ret2
        exact ⟨hbel.trans (hb2.mono hbel.size), .inr ⟨by rw [HW.out]; omega, by rw [HW.out]; rfl⟩⟩
      · have e1 : ((n : Int) == 0) = false := by simp; omega
        have hbt : badR s' p' = false := by rw [hbd]; simp; omega
        go_wp2_with fail
        refine HC.out.mono ?_
        rintro e w2 ⟨rfl, hb2⟩
        have hbel2 := hbel.trans (hb2.mono hbel.size)
        have hown2 := ownsRow_below hown hb2
        have hsz2 := hbel2.size
        have hpl2 : pre.length + 1 ≤ s.length := by have := (HSN.out hbt).len; simpa using this
        clear hown
        obtain ⟨va, vc, rfl, -⟩ := RowAt.of_own hown2
        go_wp2_with (at_builtin; refine append_one rfl _ _ rfl Tryz.eI32 w.heap.size _ pre.length _ rfl hown2 (.int .i32 r) rfl rfl (by omega) (by omega) (by omega) ?_; intro v' w' how' hg'; obtain ⟨a', c', rfl, -⟩ := RowAt.of_own how')
        go_roundw
        case rel =>
          refine ⟨pre ++ [(p', r)], s'.drop n, p' + n, by go_num, by omega, by simpa using hpl2, hbel2.grown hg' hbel2.size (fun k e => (hown2.lt k e).1), HSN.out hbt, ?_, ?_⟩
          · show s'.drop n = s.drop (p' + n)
            rw [hs'.out, List.drop_drop]
          · rw [List.length_append, List.map_append]
            rw [ns_snoc] at how'
            exact how'
        case measure => simp [intOf]; omega
    · obtain rfl : p' = s.length := by omega
      have hnil : s' = [] := by rw [hs'.out]; simp
      subst hnil
      have hw : wrongU s = -1 ∧ runesI s = pre.map fun x => (x.2 : Int) := by
        unfold wrongU runesI
        rw [hch.runes]
        simp [runesL_nil]
      have HW := hid hw
      clear hw
      obtain ⟨va, vc, rfl, -⟩ := RowAt.of_own hown
      go_wp2
      refine bodyPost_ret (v := .tuple #[.slice va pre.length vc, .int .i64 (-1)]) (by simp [results, Tryz.results120, go_sem]) rfl ⟨hbel, .inl ⟨HW.out.1, _, rfl, ?_⟩⟩
      rw [HW.out.2, List.length_map]
      exact hown

end Go.Proofs.YtoinabapaeebfaaGreatDoor
namespace Go.Proofs.YtoinabapaeebfaaGreatDoor
open Go.RowKit Go.Shelf

set_option maxRecDepth 100000 in
set_option maxHeartbeats 800000 in
theorem rec_Check_sess (client : List UInt8) (seq id : Int) (w : World) (hc : client.length ≤ 9223372036854775807) :
    Calls Tryz.prog 53 #[.agg (RowV.mk 1 client seq id [] [] 0 false 0).vals] w fun e w' => e = .returned (.int .i64 (if sessMay ⟨1, client, seq, id, [], [], 0, false, 0⟩ then 0 else 2)) ∧ Below w.heap.size w w' := by
  have C7 := hid fun w => kinds1 ⟨1, client, seq, id, [], [], 0, false, 0⟩ w hc
  have C8 := hid fun w => kinds2 ⟨1, client, seq, id, [], [], 0, false, 0⟩ w
  have CK := hid rec_kinds
  clear hc
  obtain ⟨bm, hbm⟩ : ∃ b, sessMay ⟨1, client, seq, id, [], [], 0, false, 0⟩ = b := ⟨_, rfl⟩
  rw [hbm] at C7 ⊢
  clear hbm
  unfold sessHas at C8
  unfold RowV.vals at *
  go_enter Tryz.func53, Tryz.ntmps53
  go_wp2
  refine regionQ [(1000, fun w' => w'.cell? ⟨w.heap.size, 0, none⟩ = some (.int .i64 1))] (by kernel_rfl) ⟨by go_simp, trivial⟩ fun KQ hKQ => ?_
  refine takeQ 1 rfl (by kernel_rfl) rfl (by kernel_rfl) fun K hK => ?_
  simp only [List.getElem_toArray, List.getElem_cons_zero, List.getElem_cons_succ]
  go_big_quiet_op
  refine hK _ ?_
  clear hK K
  refine loadQ 2 rfl (by kernel_rfl) (by kernel_rfl) rfl rfl 0 rfl (by kernel_rfl) _ (fun w' hf => by (go_simp <;> with_reducible rfl)) ?_
  simp only [Act.put, List.getElem_toArray, List.getElem_cons_zero, List.getElem_cons_succ, List.setIfInBounds_toArray, List.set_cons_zero, List.set_cons_succ]
  refine stepQ2 0 7 rfl rfl (by kernel_rfl) (by decide) (by kernel_rfl) (by kernel_rfl) (fun K hK => ?_) (fun K hK => ?_)
  · try simp only [List.getElem_toArray, List.getElem_cons_zero, List.getElem_cons_succ]
    go_simp
    refine (CK.out _).mono ?_
    rintro e w1 ⟨rfl, hm, hb⟩
    replace hb := undrew hb
    replace hm : w1.heap[w.heap.size + 1]? = some (.map kindsE 5) := by simpa using hm
    have hlt : w.heap.size + 1 < w1.heap.size := by
      rcases Nat.lt_or_ge (w.heap.size + 1) w1.heap.size with h | h
      · exact h
      · rw [Array.getElem?_eq_none h] at hm; cases hm
    have hm' : ∀ o, (w1.alloc o).heap[w.heap.size + 1]? = some (.map kindsE 5) := fun o => (Below.heap_alloc _ _ _ hlt).trans hm
    have HL' := fun o => run_lookup_at (P := Tryz.prog) 189 30 187 .i64 Tryz.underlying189 Tryz.underlying30 _ _ kindsE 5 (hm' o) 1 _ 0 rfl true
    have HL := run_lookup_at (P := Tryz.prog) 189 30 187 .i64 Tryz.underlying189 Tryz.underlying30 _ _ kindsE 5 hm 1 _ 0 rfl true
    simp only [kindV] at HL HL'
    refine hK _ _ ⟨⟨fun _ => cellB hb (j := 0) rfl, trivial⟩, ?_⟩
    clear hK K
    refine stepQ2 3 7 rfl rfl (by kernel_rfl) (by decide) (by kernel_rfl) (by kernel_rfl) (fun K hK => ?_) (fun K hK => ?_)
    · try simp only [List.getElem_toArray, List.getElem_cons_zero, List.getElem_cons_succ]
      go_simp
      refine hK _ _ ⟨⟨fun _ => cellB hb (j := 0) rfl, trivial⟩, ?_⟩
      clear hK K
      refine takeQ 4 rfl (by kernel_rfl) rfl (by kernel_rfl) fun K hK => ?_
      simp only [List.getElem_toArray, List.getElem_cons_zero, List.getElem_cons_succ]
      go_big_quiet_op
      refine hK _ ?_
      clear hK K
      refine takeQ 5 rfl (by kernel_rfl) rfl (by kernel_rfl) fun K hK => ?_
      simp only [List.getElem_toArray, List.getElem_cons_zero, List.getElem_cons_succ]
      go_big_quiet_op
      refine hK _ ?_
      clear hK K
      refine takeQ 6 rfl (by kernel_rfl) rfl (by kernel_rfl) fun K hK => ?_
      simp only [List.getElem_toArray, List.getElem_cons_zero, List.getElem_cons_succ]
      go_big_quiet_op
      refine hK _ ?_
      clear hK K
      refine stepQ 7 rfl (by kernel_rfl) (by decide) (by kernel_rfl) fun K hK => ?_
      simp only [List.getElem_toArray, List.getElem_cons_zero, List.getElem_cons_succ]
      go_simp
      refine hK _ _ ⟨⟨fun _ => cellB (hb.alloc hb.size _) (j := 0) rfl, trivial⟩, ?_⟩
      clear hK K
      refine stepQ 8 rfl (by kernel_rfl) (by decide) (by kernel_rfl) fun K hK => ?_
      simp only [List.getElem_toArray, List.getElem_cons_zero, List.getElem_cons_succ]
      go_simp
      refine hK _ _ ⟨⟨fun _ => cellB (hb.alloc hb.size _) (j := 0) rfl, trivial⟩, ?_⟩
      clear hK K
      refine stepQ 9 rfl (by kernel_rfl) (by decide) (by kernel_rfl) fun K hK => ?_
      simp only [List.getElem_toArray, List.getElem_cons_zero, List.getElem_cons_succ]
      go_simp
      refine hK _ _ ⟨⟨fun _ => cellB (hb.alloc hb.size _) (j := 0) rfl, trivial⟩, ?_⟩
      clear hK K
      refine doneQ (by kernel_rfl) (hKQ.out _ _ ?_)
      clear hKQ KQ
      have g0 : ∀ o, (w1.alloc o).cell? ⟨w.heap.size, 0, none⟩ = _ := fun o => cellB (hb.alloc hb.size o) (j := 0) rfl
      have g1 : ∀ o, (w1.alloc o).cell? ⟨w.heap.size, 1, none⟩ = _ := fun o => cellB (hb.alloc hb.size o) (j := 1) rfl
      have g2 : ∀ o, (w1.alloc o).cell? ⟨w.heap.size, 2, none⟩ = _ := fun o => cellB (hb.alloc hb.size o) (j := 2) rfl
      have g3 : ∀ o, (w1.alloc o).cell? ⟨w.heap.size, 3, none⟩ = _ := fun o => cellB (hb.alloc hb.size o) (j := 3) rfl
      have g4 : ∀ o, (w1.alloc o).cell? ⟨w.heap.size, 4, none⟩ = _ := fun o => cellB (hb.alloc hb.size o) (j := 4) rfl
      have g5 : ∀ o, (w1.alloc o).cell? ⟨w.heap.size, 5, none⟩ = _ := fun o => cellB (hb.alloc hb.size o) (j := 5) rfl
      have g6 : ∀ o, (w1.alloc o).cell? ⟨w.heap.size, 6, none⟩ = _ := fun o => cellB (hb.alloc hb.size o) (j := 6) rfl
      have g7 : ∀ o, (w1.alloc o).cell? ⟨w.heap.size, 7, none⟩ = _ := fun o => cellB (hb.alloc hb.size o) (j := 7) rfl
      have g8 : ∀ o, (w1.alloc o).cell? ⟨w.heap.size, 8, none⟩ = _ := fun o => cellB (hb.alloc hb.size o) (j := 8) rfl
      cases bm
      · go_wp2_with (go_at_call 149; refine (C7.out _).mono ?_; rintro e w2 ⟨rfl, hb2⟩; replace hb2 := (hb.alloc hb.size _).trans (hb2.mono (hb.alloc hb.size _).size))
        go_ret
        exact ⟨rfl, ((Below.refl w.heap.size w).alloc (Nat.le_refl _) _).trans (hb2.mono (by simp))⟩
      · go_wp2_with (first
          | (go_at_call 149; refine (C7.out _).mono ?_; rintro e w2 ⟨rfl, hb2⟩; have f2 := cellB (w := w1) hb2 (j := 2) rfl; replace hb2 := (hb.alloc hb.size _).trans (hb2.mono (hb.alloc hb.size _).size)
             have g0 : w2.cell? ⟨w.heap.size, 0, none⟩ = _ := cellB hb2 (j := 0) rfl
             have g1 : w2.cell? ⟨w.heap.size, 1, none⟩ = _ := cellB hb2 (j := 1) rfl
             have g2 : w2.cell? ⟨w.heap.size, 2, none⟩ = _ := cellB hb2 (j := 2) rfl
             have g3 : w2.cell? ⟨w.heap.size, 3, none⟩ = _ := cellB hb2 (j := 3) rfl
             have g4 : w2.cell? ⟨w.heap.size, 4, none⟩ = _ := cellB hb2 (j := 4) rfl
             have g5 : w2.cell? ⟨w.heap.size, 5, none⟩ = _ := cellB hb2 (j := 5) rfl
             have g6 : w2.cell? ⟨w.heap.size, 6, none⟩ = _ := cellB hb2 (j := 6) rfl
             have g7 : w2.cell? ⟨w.heap.size, 7, none⟩ = _ := cellB hb2 (j := 7) rfl
             have g8 : w2.cell? ⟨w.heap.size, 8, none⟩ = _ := cellB hb2 (j := 8) rfl
            )
          | (go_at_call 152; refine (C8.out _).mono ?_; rintro e w3 ⟨rfl, hb3⟩; replace hb3 := hb2.trans (hb3.mono hb2.size)
             have g0 : ∀ o, (w3.alloc o).cell? ⟨w.heap.size, 0, none⟩ = _ := fun o => cellB (hb3.alloc hb3.size o) (j := 0) rfl
             have g1 : ∀ o, (w3.alloc o).cell? ⟨w.heap.size, 1, none⟩ = _ := fun o => cellB (hb3.alloc hb3.size o) (j := 1) rfl
             have g2 : ∀ o, (w3.alloc o).cell? ⟨w.heap.size, 2, none⟩ = _ := fun o => cellB (hb3.alloc hb3.size o) (j := 2) rfl
             have g3 : ∀ o, (w3.alloc o).cell? ⟨w.heap.size, 3, none⟩ = _ := fun o => cellB (hb3.alloc hb3.size o) (j := 3) rfl
             have g4 : ∀ o, (w3.alloc o).cell? ⟨w.heap.size, 4, none⟩ = _ := fun o => cellB (hb3.alloc hb3.size o) (j := 4) rfl
             have g5 : ∀ o, (w3.alloc o).cell? ⟨w.heap.size, 5, none⟩ = _ := fun o => cellB (hb3.alloc hb3.size o) (j := 5) rfl
             have g6 : ∀ o, (w3.alloc o).cell? ⟨w.heap.size, 6, none⟩ = _ := fun o => cellB (hb3.alloc hb3.size o) (j := 6) rfl
             have g7 : ∀ o, (w3.alloc o).cell? ⟨w.heap.size, 7, none⟩ = _ := fun o => cellB (hb3.alloc hb3.size o) (j := 7) rfl
             have g8 : ∀ o, (w3.alloc o).cell? ⟨w.heap.size, 8, none⟩ = _ := fun o => cellB (hb3.alloc hb3.size o) (j := 8) rfl
            ))
        go_ret
        exact ⟨rfl, (((Below.refl w.heap.size w).alloc (Nat.le_refl _) _).trans (hb3.mono (by simp))).alloc (by have := hb3.size; simp at this; omega) _⟩
    · try simp only [List.getElem_toArray, List.getElem_cons_zero, List.getElem_cons_succ]
      go_simp
      refine hK _ _ ⟨⟨fun _ => cellB (hb.alloc hb.size _) (j := 0) rfl, trivial⟩, ?_⟩
      clear hK K
      refine stepQ 3 rfl (by kernel_rfl) (by decide) (by kernel_rfl) fun K hK => ?_
      simp only [List.getElem_toArray, List.getElem_cons_zero, List.getElem_cons_succ]
      go_simp
      refine hK _ _ ⟨⟨fun _ => cellB (hb.alloc hb.size _) (j := 0) rfl, trivial⟩, ?_⟩
      clear hK K
      refine takeQ 4 rfl (by kernel_rfl) rfl (by kernel_rfl) fun K hK => ?_
      simp only [List.getElem_toArray, List.getElem_cons_zero, List.getElem_cons_succ]
      go_big_quiet_op
      refine hK _ ?_
      clear hK K
      refine takeQ 5 rfl (by kernel_rfl) rfl (by kernel_rfl) fun K hK => ?_
      simp only [List.getElem_toArray, List.getElem_cons_zero, List.getElem_cons_succ]
      go_big_quiet_op
      refine hK _ ?_
      clear hK K
      refine takeQ 6 rfl (by kernel_rfl) rfl (by kernel_rfl) fun K hK => ?_
      simp only [List.getElem_toArray, List.getElem_cons_zero, List.getElem_cons_succ]
      go_big_quiet_op
      refine hK _ ?_
      clear hK K
      refine stepQ 8 rfl (by kernel_rfl) (by decide) (by kernel_rfl) fun K hK => ?_
      simp only [List.getElem_toArray, List.getElem_cons_zero, List.getElem_cons_succ]
      go_simp
      refine hK _ _ ⟨⟨fun _ => cellB (hb.alloc hb.size _) (j := 0) rfl, trivial⟩, ?_⟩
      clear hK K
      refine stepQ 9 rfl (by kernel_rfl) (by decide) (by kernel_rfl) fun K hK => ?_
      simp only [List.getElem_toArray, List.getElem_cons_zero, List.getElem_cons_succ]
      go_simp
      refine hK _ _ ⟨⟨fun _ => cellB (hb.alloc hb.size _) (j := 0) rfl, trivial⟩, ?_⟩
      clear hK K
      refine doneQ (by kernel_rfl) (hKQ.out _ _ ?_)
      clear hKQ KQ
      have g0 : ∀ o, (w1.alloc o).cell? ⟨w.heap.size, 0, none⟩ = _ := fun o => cellB (hb.alloc hb.size o) (j := 0) rfl
      have g1 : ∀ o, (w1.alloc o).cell? ⟨w.heap.size, 1, none⟩ = _ := fun o => cellB (hb.alloc hb.size o) (j := 1) rfl
      have g2 : ∀ o, (w1.alloc o).cell? ⟨w.heap.size, 2, none⟩ = _ := fun o => cellB (hb.alloc hb.size o) (j := 2) rfl
      have g3 : ∀ o, (w1.alloc o).cell? ⟨w.heap.size, 3, none⟩ = _ := fun o => cellB (hb.alloc hb.size o) (j := 3) rfl
      have g4 : ∀ o, (w1.alloc o).cell? ⟨w.heap.size, 4, none⟩ = _ := fun o => cellB (hb.alloc hb.size o) (j := 4) rfl
      have g5 : ∀ o, (w1.alloc o).cell? ⟨w.heap.size, 5, none⟩ = _ := fun o => cellB (hb.alloc hb.size o) (j := 5) rfl
      have g6 : ∀ o, (w1.alloc o).cell? ⟨w.heap.size, 6, none⟩ = _ := fun o => cellB (hb.alloc hb.size o) (j := 6) rfl
      have g7 : ∀ o, (w1.alloc o).cell? ⟨w.heap.size, 7, none⟩ = _ := fun o => cellB (hb.alloc hb.size o) (j := 7) rfl
      have g8 : ∀ o, (w1.alloc o).cell? ⟨w.heap.size, 8, none⟩ = _ := fun o => cellB (hb.alloc hb.size o) (j := 8) rfl
      cases bm
      · go_wp2_with (go_at_call 149; refine (C7.out _).mono ?_; rintro e w2 ⟨rfl, hb2⟩; replace hb2 := (hb.alloc hb.size _).trans (hb2.mono (hb.alloc hb.size _).size))
        go_ret
        exact ⟨rfl, ((Below.refl w.heap.size w).alloc (Nat.le_refl _) _).trans (hb2.mono (by simp))⟩
      · go_wp2_with (first
          | (go_at_call 149; refine (C7.out _).mono ?_; rintro e w2 ⟨rfl, hb2⟩; have f2 := cellB (w := w1) hb2 (j := 2) rfl; replace hb2 := (hb.alloc hb.size _).trans (hb2.mono (hb.alloc hb.size _).size)
             have g0 : w2.cell? ⟨w.heap.size, 0, none⟩ = _ := cellB hb2 (j := 0) rfl
             have g1 : w2.cell? ⟨w.heap.size, 1, none⟩ = _ := cellB hb2 (j := 1) rfl
             have g2 : w2.cell? ⟨w.heap.size, 2, none⟩ = _ := cellB hb2 (j := 2) rfl
             have g3 : w2.cell? ⟨w.heap.size, 3, none⟩ = _ := cellB hb2 (j := 3) rfl
             have g4 : w2.cell? ⟨w.heap.size, 4, none⟩ = _ := cellB hb2 (j := 4) rfl
             have g5 : w2.cell? ⟨w.heap.size, 5, none⟩ = _ := cellB hb2 (j := 5) rfl
             have g6 : w2.cell? ⟨w.heap.size, 6, none⟩ = _ := cellB hb2 (j := 6) rfl
             have g7 : w2.cell? ⟨w.heap.size, 7, none⟩ = _ := cellB hb2 (j := 7) rfl
             have g8 : w2.cell? ⟨w.heap.size, 8, none⟩ = _ := cellB hb2 (j := 8) rfl
            )
          | (go_at_call 152; refine (C8.out _).mono ?_; rintro e w3 ⟨rfl, hb3⟩; replace hb3 := hb2.trans (hb3.mono hb2.size)
             have g0 : ∀ o, (w3.alloc o).cell? ⟨w.heap.size, 0, none⟩ = _ := fun o => cellB (hb3.alloc hb3.size o) (j := 0) rfl
             have g1 : ∀ o, (w3.alloc o).cell? ⟨w.heap.size, 1, none⟩ = _ := fun o => cellB (hb3.alloc hb3.size o) (j := 1) rfl
             have g2 : ∀ o, (w3.alloc o).cell? ⟨w.heap.size, 2, none⟩ = _ := fun o => cellB (hb3.alloc hb3.size o) (j := 2) rfl
             have g3 : ∀ o, (w3.alloc o).cell? ⟨w.heap.size, 3, none⟩ = _ := fun o => cellB (hb3.alloc hb3.size o) (j := 3) rfl
             have g4 : ∀ o, (w3.alloc o).cell? ⟨w.heap.size, 4, none⟩ = _ := fun o => cellB (hb3.alloc hb3.size o) (j := 4) rfl
             have g5 : ∀ o, (w3.alloc o).cell? ⟨w.heap.size, 5, none⟩ = _ := fun o => cellB (hb3.alloc hb3.size o) (j := 5) rfl
             have g6 : ∀ o, (w3.alloc o).cell? ⟨w.heap.size, 6, none⟩ = _ := fun o => cellB (hb3.alloc hb3.size o) (j := 6) rfl
             have g7 : ∀ o, (w3.alloc o).cell? ⟨w.heap.size, 7, none⟩ = _ := fun o => cellB (hb3.alloc hb3.size o) (j := 7) rfl
             have g8 : ∀ o, (w3.alloc o).cell? ⟨w.heap.size, 8, none⟩ = _ := fun o => cellB (hb3.alloc hb3.size o) (j := 8) rfl
            ))
        go_ret
        exact ⟨rfl, (((Below.refl w.heap.size w).alloc (Nat.le_refl _) _).trans (hb3.mono (by simp))).alloc (by have := hb3.size; simp at this; omega) _⟩
  · try simp only [List.getElem_toArray, List.getElem_cons_zero, List.getElem_cons_succ]
    go_simp
    refine hK _ _ ⟨⟨fun _ => by go_simp, trivial⟩, ?_⟩
    clear hK K
    refine stepQ 0 rfl (by kernel_rfl) (by decide) (by kernel_rfl) fun K hK => ?_
    simp only [List.getElem_toArray, List.getElem_cons_zero, List.getElem_cons_succ]
    go_simp
    refine (CK.out _).mono ?_
    rintro e w1 ⟨rfl, hm, hb⟩
    replace hb := undrew hb
    have hbr := below_pop hb
    have k0 := cellB hb (j := 0) rfl
    have k1 := cellB hb (j := 1) rfl
    have k2 := cellB hb (j := 2) rfl
    have k3 := cellB hb (j := 3) rfl
    have k4 := cellB hb (j := 4) rfl
    replace hm : w1.heap[w.heap.size + 2]? = some (.map kindsE 5) := by simpa using hm
    have HL := run_lookup_at (P := Tryz.prog) 189 30 187 .i64 Tryz.underlying189 Tryz.underlying30 _ _ kindsE 5 hm 1 _ 0 rfl true
    simp only [kindV] at HL
    refine hK _ _ ⟨⟨fun _ => cellB hbr (j := 0) rfl, trivial⟩, ?_⟩
    clear hK K
    refine stepQ 3 rfl (by kernel_rfl) (by decide) (by kernel_rfl) fun K hK => ?_
    simp only [List.getElem_toArray, List.getElem_cons_zero, List.getElem_cons_succ]
    go_simp
    refine hK _ _ ⟨⟨fun _ => cellB hbr (j := 0) rfl, trivial⟩, ?_⟩
    clear hK K
    refine takeQ 4 rfl (by kernel_rfl) rfl (by kernel_rfl) fun K hK => ?_
    simp only [List.getElem_toArray, List.getElem_cons_zero, List.getElem_cons_succ]
    go_big_quiet_op
    refine hK _ ?_
    clear hK K
    refine takeQ 5 rfl (by kernel_rfl) rfl (by kernel_rfl) fun K hK => ?_
    simp only [List.getElem_toArray, List.getElem_cons_zero, List.getElem_cons_succ]
    go_big_quiet_op
    refine hK _ ?_
    clear hK K
    refine takeQ 6 rfl (by kernel_rfl) rfl (by kernel_rfl) fun K hK => ?_
    simp only [List.getElem_toArray, List.getElem_cons_zero, List.getElem_cons_succ]
    go_big_quiet_op
    refine hK _ ?_
    clear hK K
    refine stepQ 8 rfl (by kernel_rfl) (by decide) (by kernel_rfl) fun K hK => ?_
    simp only [List.getElem_toArray, List.getElem_cons_zero, List.getElem_cons_succ]
    have z0 := frozenB hb 0
    have z1 := frozenB hb 1
    have z2 := frozenB hb 2
    have z3 := frozenB hb 3
    have z4 := frozenB hb 4
    simp only [World.size_alloc] at k0 k1 k2 k3 k4 z0 z1 z2 z3 z4
    go_simp
    have hbs := fun v0 v1 v2 v3 v4 => (((((hbr.setCell (p := ⟨w.heap.size + 1, 0, none⟩) (by simp) v0).setCell (p := ⟨w.heap.size + 1, 1, none⟩) (by simp) v1).setCell (p := ⟨w.heap.size + 1, 2, none⟩) (by simp) v2).setCell (p := ⟨w.heap.size + 1, 3, none⟩) (by simp) v3).setCell (p := ⟨w.heap.size + 1, 4, none⟩) (by simp) v4)
    refine hK _ _ ⟨⟨fun _ => cellB (hbs _ _ _ _ _) (j := 0) rfl, trivial⟩, ?_⟩
    clear hK K
    refine atR_gen (fun w' => Below (w.alloc (.cells #[.int .i64 1, .string ⟨client.toArray⟩, .int .i64 seq, .int .i64 id, .string ⟨#[]⟩, .string ⟨#[]⟩, .int .i64 0, .bool false, .int .i64 0] 33)).heap.size (w.alloc (.cells #[.int .i64 1, .string ⟨client.toArray⟩, .int .i64 seq, .int .i64 id, .string ⟨#[]⟩, .string ⟨#[]⟩, .int .i64 0, .bool false, .int .i64 0] 33)) w' ∧ w'.cell? ⟨w.heap.size + 1, 1, none⟩ = some (.func (.func 149) #[] #[]) ∧ w'.cell? ⟨w.heap.size + 1, 2, none⟩ = some (.func (.func 152) #[] #[]) ∧ w.heap.size + 1 < w'.heap.size) ⟨hbs _ _ _ _ _, by go_simp, by go_simp, by have := hb.size; simp at this ⊢; omega⟩ fun w2 ⟨hb, f1, f2, hlt⟩ => ?_
    refine stepQ 9 rfl (by kernel_rfl) (by decide) (by kernel_rfl) fun K hK => ?_
    simp only [List.getElem_toArray, List.getElem_cons_zero, List.getElem_cons_succ]
    go_simp
    refine hK _ _ ⟨⟨fun _ => cellB hb (j := 0) rfl, trivial⟩, ?_⟩
    clear hK K
    refine doneQ (by kernel_rfl) (hKQ.out _ _ ?_)
    clear hKQ KQ
    have g0 : w2.cell? ⟨w.heap.size, 0, none⟩ = _ := cellB hb (j := 0) rfl
    have g1 : w2.cell? ⟨w.heap.size, 1, none⟩ = _ := cellB hb (j := 1) rfl
    have g2 : w2.cell? ⟨w.heap.size, 2, none⟩ = _ := cellB hb (j := 2) rfl
    have g3 : w2.cell? ⟨w.heap.size, 3, none⟩ = _ := cellB hb (j := 3) rfl
    have g4 : w2.cell? ⟨w.heap.size, 4, none⟩ = _ := cellB hb (j := 4) rfl
    have g5 : w2.cell? ⟨w.heap.size, 5, none⟩ = _ := cellB hb (j := 5) rfl
    have g6 : w2.cell? ⟨w.heap.size, 6, none⟩ = _ := cellB hb (j := 6) rfl
    have g7 : w2.cell? ⟨w.heap.size, 7, none⟩ = _ := cellB hb (j := 7) rfl
    have g8 : w2.cell? ⟨w.heap.size, 8, none⟩ = _ := cellB hb (j := 8) rfl
    cases bm
    · go_wp2_with (go_at_call 149; refine (C7.out _).mono ?_; rintro e w3 ⟨rfl, hb2⟩; replace hb2 := hb.trans (hb2.mono hb.size))
      go_ret
      exact ⟨rfl, below_pop hb2⟩
    · go_wp2_with (first
        | (go_at_call 149; refine (C7.out _).mono ?_; rintro e w3 ⟨rfl, hb3⟩; have f3 := (hb3.cell (p := ⟨w.heap.size + 1, 2, none⟩) hlt).trans f2; replace hb3 := hb.trans (hb3.mono hb.size)
           have g0 : w3.cell? ⟨w.heap.size, 0, none⟩ = _ := cellB hb3 (j := 0) rfl
           have g1 : w3.cell? ⟨w.heap.size, 1, none⟩ = _ := cellB hb3 (j := 1) rfl
           have g2 : w3.cell? ⟨w.heap.size, 2, none⟩ = _ := cellB hb3 (j := 2) rfl
           have g3 : w3.cell? ⟨w.heap.size, 3, none⟩ = _ := cellB hb3 (j := 3) rfl
           have g4 : w3.cell? ⟨w.heap.size, 4, none⟩ = _ := cellB hb3 (j := 4) rfl
           have g5 : w3.cell? ⟨w.heap.size, 5, none⟩ = _ := cellB hb3 (j := 5) rfl
           have g6 : w3.cell? ⟨w.heap.size, 6, none⟩ = _ := cellB hb3 (j := 6) rfl
           have g7 : w3.cell? ⟨w.heap.size, 7, none⟩ = _ := cellB hb3 (j := 7) rfl
           have g8 : w3.cell? ⟨w.heap.size, 8, none⟩ = _ := cellB hb3 (j := 8) rfl
          )
        | (go_at_call 152; refine (C8.out _).mono ?_; rintro e w4 ⟨rfl, hb4⟩; replace hb4 := hb3.trans (hb4.mono hb3.size)
           have g0 : ∀ o, (w4.alloc o).cell? ⟨w.heap.size, 0, none⟩ = _ := fun o => cellB (hb4.alloc hb4.size o) (j := 0) rfl
           have g1 : ∀ o, (w4.alloc o).cell? ⟨w.heap.size, 1, none⟩ = _ := fun o => cellB (hb4.alloc hb4.size o) (j := 1) rfl
           have g2 : ∀ o, (w4.alloc o).cell? ⟨w.heap.size, 2, none⟩ = _ := fun o => cellB (hb4.alloc hb4.size o) (j := 2) rfl
           have g3 : ∀ o, (w4.alloc o).cell? ⟨w.heap.size, 3, none⟩ = _ := fun o => cellB (hb4.alloc hb4.size o) (j := 3) rfl
           have g4 : ∀ o, (w4.alloc o).cell? ⟨w.heap.size, 4, none⟩ = _ := fun o => cellB (hb4.alloc hb4.size o) (j := 4) rfl
           have g5 : ∀ o, (w4.alloc o).cell? ⟨w.heap.size, 5, none⟩ = _ := fun o => cellB (hb4.alloc hb4.size o) (j := 5) rfl
           have g6 : ∀ o, (w4.alloc o).cell? ⟨w.heap.size, 6, none⟩ = _ := fun o => cellB (hb4.alloc hb4.size o) (j := 6) rfl
           have g7 : ∀ o, (w4.alloc o).cell? ⟨w.heap.size, 7, none⟩ = _ := fun o => cellB (hb4.alloc hb4.size o) (j := 7) rfl
           have g8 : ∀ o, (w4.alloc o).cell? ⟨w.heap.size, 8, none⟩ = _ := fun o => cellB (hb4.alloc hb4.size o) (j := 8) rfl
          ))
      go_ret
      exact ⟨rfl, ((below_pop hb4).alloc (by have := (below_pop hb4).size; omega) _)⟩
end Go.Proofs.YtoinabapaeebfaaGreatDoor
