/- The walk of the law LengthBack. -/
import Derived.Test.YtjgflihokbmhiaaLenJ
import Derived.Test.YtjgflihokbmhiaaLenH
import Derived.Test.YtjgflihokbmhiaaAppB
namespace Go.Proofs.Ytjgflihokbmhiaa
open Go.RowKit Go.Shelf

/-- The slice (a, n, cap) of byte slices shows the byte lists B. -/
structure TabAt (w : World) (a : Option Addr) (n cap : Nat) (B : List (List UInt8)) : Prop where
  len : B.length = n
  le : n ≤ cap
  max : cap ≤ maxLen
  rows : ∀ r (h : r < B.length), ∃ b off A m c, a = some ⟨b, off, none⟩ ∧ w.cell? ⟨b, off + r, none⟩ = some (.slice A m c) ∧ RowAt w A m c (bs B[r])
theorem TabAt.below {w w' : World} {a : Option Addr} {n cap : Nat} {B : List (List UInt8)} (h : TabAt w a n cap B) (hb : Below w.heap.size w w') : TabAt w' a n cap B :=
  ⟨h.len, h.le, h.max, fun r hr => by
    obtain ⟨b, off, A, m, c, h1, h2, h3⟩ := h.rows r hr
    exact ⟨b, off, A, m, c, h1, (hb.cell (p := ⟨b, off + r, none⟩) (cell_lt h2)).trans h2, h3.below hb⟩⟩

/-- Where the first parts end. -/
def endsOf (B : List (List UInt8)) (k : Nat) : List Int := (List.range k).map fun j => ((encB (B.take (j + 1))).length : Int)
def sizesOf (B : List (List UInt8)) (k : Nat) : List Int := (B.take k).map fun x => (x.length : Int)
theorem endsOf_snoc (B : List (List UInt8)) (k : Nat) : endsOf B (k + 1) = endsOf B k ++ [((encB (B.take (k + 1))).length : Int)] := by simp [endsOf, List.range_succ]
theorem endsOf_len (B : List (List UInt8)) (k : Nat) : (endsOf B k).length = k := by simp [endsOf]
theorem sizesOf_snoc (B : List (List UInt8)) (k : Nat) (h : k < B.length) : sizesOf B (k + 1) = sizesOf B k ++ [(B[k].length : Int)] := by
  unfold sizesOf
  rw [List.take_succ_eq_append_getElem h, List.map_append]
  rfl
theorem sizesOf_len (B : List (List UInt8)) (k : Nat) (h : k ≤ B.length) : (sizesOf B k).length = k := by simp [sizesOf]; omega
theorem ns_snoc15 (k : IntKind) (l : List Int) (x : Int) : ns k l ++ [.int k x] = ns k (l ++ [x]) := by simp [ns]
theorem Try.eI64 : ElemT Try.prog 51 2 (.int .i64 0) 1 8 := ⟨Try.underlying51, by kernel_rfl, rfl⟩
theorem Try.eInt : ElemT Try.prog 50 3 (.int .i64 0) 1 8 := ⟨Try.underlying50, by kernel_rfl, rfl⟩

theorem back_split (B : List (List UInt8)) (hB : ∀ x ∈ B, x.length ≤ 300) (n cm : Nat) (hn : n ≤ B.length) (hc : (encB (B.take n)).length ≤ cm) (hnext : n = B.length ∧ cm ≤ (encB B).length ∨ n < B.length ∧ cm < (encB (B.take (n + 1))).length)
    (ps : List (List UInt8)) (r : List UInt8) (h : ChainL 300 ((encB B).take cm) ps r) (he : ¬ (errL 300 r = 0 ∧ fullL r = true)) : ps = B.take n ∧ r = ((encB B).take cm).drop (encB (B.take n)).length ∧ errL 300 r = 0 := by
  have h1 := encB_chain B hB n cm hc
  have h2 := encB_stop B hB n cm hn hc hnext
  have h3 := h.split he (ps.length + B.length + 1) (by omega)
  have h4 := h1.split (fun h => by rw [h2.2] at h; cases h.2) (ps.length + B.length + 1) (by simp; omega)
  rw [h3] at h4
  obtain ⟨rfl, rfl⟩ := Prod.mk.inj h4
  exact ⟨rfl, rfl, h2.1⟩
theorem back_count (B : List (List UInt8)) (cm : Nat) (hcm : cm ≤ (encB B).length) : ∃ q, q ≤ B.length ∧ (encB (B.take q)).length ≤ cm ∧ (q = B.length ∧ cm ≤ (encB B).length ∨ q < B.length ∧ cm < (encB (B.take (q + 1))).length) := by
  have key : ∀ d q, q + d = B.length → (encB (B.take q)).length ≤ cm → ∃ q, q ≤ B.length ∧ (encB (B.take q)).length ≤ cm ∧ (q = B.length ∧ cm ≤ (encB B).length ∨ q < B.length ∧ cm < (encB (B.take (q + 1))).length) := by
    intro d
    induction d with
    | zero => intro q hq hc; exact ⟨q, by omega, hc, .inl ⟨by omega, hcm⟩⟩
    | succ d ih =>
      intro q hq hc
      rcases Nat.lt_or_ge cm (encB (B.take (q + 1))).length with h | h
      · exact ⟨q, by omega, hc, .inr ⟨by omega, h⟩⟩
      · exact ih (q + 1) (by omega) h
  exact key B.length 0 (by omega) (by simp [encB])
theorem endsOf_get (B : List (List UInt8)) (k j : Nat) (h : j < k) : (endsOf B k)[j]?.getD 0 = ((encB (B.take (j + 1))).length : Int) := by
  simp [endsOf, List.getElem?_map, List.getElem?_range h]
theorem Owned.get {w : World} {base : Nat} {vs : List Value} {ps : List (List UInt8)} (h : Owned w base vs ps) (i : Nat) (hi : i < ps.length) : ∃ v, vs[i]? = some v ∧ w.ownsRow base 5 1 v ps[i].length (bs ps[i]) := by
  induction vs generalizing ps i with
  | nil => cases ps with
    | nil => simp at hi
    | cons p ps => exact h.elim
  | cons v vs ih => cases ps with
    | nil => exact h.elim
    | cons p ps =>
      cases i with
      | zero => exact ⟨v, rfl, h.1⟩
      | succ i => exact ih h.2 i (by simpa using hi)

set_option maxRecDepth 100000 in
set_option maxHeartbeats 8000000 in
theorem back_walk (a : Option Addr) (n cap : Nat) (B : List (List UInt8)) (come : Int) (w : World) (h : TabAt w a n cap B) :
    Calls Try.prog 8 #[.slice a n cap, .int .i64 come] w fun e w' => e = .returned (.bool true) ∧ Below w.heap.size w w' := by
  have hlen := h.len
  have hle := h.le
  have hmax := h.max
  unfold maxLen at hmax
  have HL := hid hlen
  clear hlen
  by_cases hn : 20 < n
  · go_enter Try.func8, Try.ntmps8
    go_wp2_with (go_at_call 12; refine (known15 _).mono ?_; rintro e w1 ⟨rfl, hb⟩)
    go_ret
    exact ⟨rfl, hb⟩
  go_enter Try.func8, Try.ntmps8
  go_wp2_with fail
  go_loopw [5, 6, 7, 8, 9, 10] (fun vb ve vs i _ _ wr => ∃ (k : Nat), k ≤ n ∧ i = .int .i64 k ∧ Hid (∀ x ∈ B.take k, x.length ≤ 300) ∧ wr.ownsRow w.heap.size 5 1 vb (encB (B.take k)).length (bs (encB (B.take k))) ∧
      wr.ownsRow w.heap.size 3 1 ve k (ns .i64 (endsOf B k)) ∧ wr.ownsRow w.heap.size 2 1 vs k (ns .i64 (sizesOf B k)) ∧ Below w.heap.size w wr)
    (fun _ _ _ i _ _ _ => n - (intOf i).toNat)
  case atStart => exact ⟨0, Nat.zero_le _, rfl, fun x hx => by simp at hx, by simpa [encB, bs] using World.ownsRow_nil _ _ _ _, by simpa [endsOf, ns] using World.ownsRow_nil _ _ _ _, by simpa [sizesOf, ns] using World.ownsRow_nil _ _ _ _, Below.refl _ _⟩
  case round =>
    obtain ⟨k, hk, rfl, hsm, how1, how2, how3, hbel⟩ := hrel
    rcases Nat.lt_or_ge k n with hlt | hge
    · have hkB : k < B.length := by have := HL.out; omega
      obtain ⟨b, off, A, m, c, ha, hcell, hrow⟩ := h.rows k hkB
      subst ha
      have hml : B[k].length = m := by have := hrow.len; rwa [bs_len] at this
      have hcell' : wr.cell? ⟨b, off + k, none⟩ = some (.slice A m c) := (hbel.cell (p := ⟨b, off + k, none⟩) (cell_lt hcell)).trans hcell
      have hmle := hrow.le
      have hmmax := hrow.max
      unfold maxLen at hmmax
      have HML := hid hml
      clear hml
      by_cases h300 : 300 < m
      · go_wp2_with (go_at_call 12; refine (known15 _).mono ?_; rintro e w1 ⟨rfl, hb⟩)
        go_ret
        exact ⟨rfl, hbel.trans (hb.mono hbel.size)⟩
      have hsz := hbel.size
      have CR := hid (fun W => len_raw (m : Int) W (mayL_small m (by omega)))
      rw [Int.toNat_natCast] at CR
      have hEl : (encB (B.take k)).length ≤ 6040 := by
        have h1 := encB_le (B.take k) hsm.out
        have h2 : (B.take k).length ≤ k := List.length_take_le _ _
        have h3 : 302 * (B.take k).length ≤ 302 * 20 := Nat.mul_le_mul_left _ (by omega)
        omega
      have hs4 := sizeL_le (m : Int)
      have htk : B.take (k + 1) = B.take k ++ [B[k]] := List.take_succ_eq_append_getElem hkB
      have hen : encB (B.take (k + 1)) = encB (B.take k) ++ rawL (sizeL m) m ++ B[k] := by rw [htk, encB_snoc, HML.out]
      have hsm2 : ∀ x ∈ B.take (k + 1), x.length ≤ 300 := fun x hx => by
        rw [htk] at hx
        rcases List.mem_append.1 hx with hx | hx
        · exact hsm.out x hx
        · rw [List.mem_singleton.1 hx, HML.out]; omega
      have hes := endsOf_snoc B k
      have hss := sizesOf_snoc B k hkB
      rw [HML.out] at hss
      have hel : (encB (B.take (k + 1))).length = (encB (B.take k)).length + sizeL m + m := by rw [hen, List.length_append, List.length_append, rawL_len, HML.out]
      rw [hel] at hes
      have HEL := hid hel
      have HEN := hid hen
      have HSM2 := hid hsm2
      have HES := hid hes
      have HSS := hid hss
      have HRL := hid (rawL_len (sizeL m) m)
      have hbl : b < w.heap.size := cell_lt hcell
      clear htk hen hsm2 hes hss hel hcell
      generalize hE1 : encB (B.take k) = E1 at *
      generalize hE2 : encB (B.take (k + 1)) = E2 at *
      have X1 := hid hE1
      have X2 := hid hE2
      clear hE1 hE2
      generalize endsOf B k = en1 at *
      generalize sizesOf B k = sz1 at *
      generalize sizeL (m : Int) = sm at *
      generalize rawL sm m = rl at *
      go_wp2_with fail
      refine (CR.out _).mono ?_
      rintro e w1 ⟨v1, rfl, hraw, hb1⟩
      have hbel1 := hbel.trans (hb1.mono hsz)
      have hsz1 := hbel1.size
      have o1 := ownsRow_below how1 hb1
      have o2 := ownsRow_below how2 hb1
      have o3 := ownsRow_below how3 hb1
      have hc1 : w1.cell? ⟨b, off + k, none⟩ = some (.slice A m c) := (hb1.cell (p := ⟨b, off + k, none⟩) (cell_lt hcell')).trans hcell'
      obtain ⟨ra, rc, rfl, hrr⟩ := RowAt.of_own hraw
      clear how1 how2 how3 hcell' hraw hb1 hbel CR
      go_wp2_with fail
      have hi0 : (0 : Int) ≤ (k : Int) := by omega
      have hi1 : (k : Int) < (n : Int) := by omega
      refine regionQ [(7, fun w' => w'.cell? ⟨b, off + k, none⟩ = some (.slice A m c))] (by kernel_rfl) ⟨hc1, trivial⟩ fun KQ hKQ => ?_
      refine takeQ 0 rfl (by kernel_rfl) rfl (by kernel_rfl) fun K hK => ?_
      simp only [List.getElem_toArray, List.getElem_cons_zero, List.getElem_cons_succ]
      go_big_quiet_op
      refine hK _ ?_
      clear hK K
      refine takeQ 1 rfl (by kernel_rfl) rfl (by kernel_rfl) fun K hK => ?_
      simp only [List.getElem_toArray, List.getElem_cons_zero, List.getElem_cons_succ]
      go_big_quiet_op
      refine hK _ ?_
      clear hK K
      refine takeQ 3 rfl (by kernel_rfl) rfl (by kernel_rfl) fun K hK => ?_
      simp only [List.getElem_toArray, List.getElem_cons_zero, List.getElem_cons_succ]
      go_big_quiet_op
      refine hK _ ?_
      clear hK K
      refine takeQ 4 rfl (by kernel_rfl) rfl (by kernel_rfl) fun K hK => ?_
      simp only [List.getElem_toArray, List.getElem_cons_zero, List.getElem_cons_succ]
      go_big_quiet_op
      refine hK _ ?_
      clear hK K
      refine takeQ 5 rfl (by kernel_rfl) rfl (by kernel_rfl) fun K hK => ?_
      simp only [List.getElem_toArray, List.getElem_cons_zero, List.getElem_cons_succ]
      go_big_quiet_op
      refine hK _ ?_
      clear hK K
      refine loadQ 6 rfl (by kernel_rfl) (by kernel_rfl) rfl rfl 0 rfl (by kernel_rfl) _ (fun w' hf => by (go_simp <;> with_reducible rfl)) ?_
      simp only [Act.put, List.getElem_toArray, List.getElem_cons_zero, List.getElem_cons_succ, List.setIfInBounds_toArray, List.set_cons_zero, List.set_cons_succ]
      have hdr : Below w1.heap.size w1 w1.drew := (Below.refl _ _).drew
      have hbel1 := hbel1.drew
      have o1 := ownsRow_below o1 hdr
      have o2 := ownsRow_below o2 hdr
      have o3 := ownsRow_below o3 hdr
      have hrr := hrr.below hdr
      have hc1 : w1.drew.cell? ⟨b, off + k, none⟩ = some (.slice A m c) := hc1
      have hsz1 : w.heap.size ≤ w1.drew.heap.size := hsz1
      generalize w1.drew = w1d at *
      refine stepQ 2 rfl (by kernel_rfl) (by decide) (by kernel_rfl) fun K hK => ?_
      simp only [List.getElem_toArray, List.getElem_cons_zero, List.getElem_cons_succ]
      refine wp_append_any _ _ rfl Try.eByte w.heap.size u5 E1.length _ rfl o1 ra sm rc _ (bs_one rl) rfl hrr (by omega) (by omega) hsz1 ?_
      intro v2 w2 q1 hg2
      have hbel2 := hbel1.grown hg2 hsz1 (fun j e => (o1.lt j e).1)
      have hsz2 := hbel2.size
      have hc2 : w2.cell? ⟨b, off + k, none⟩ = some (.slice A m c) := hg2.cell hc1 (fun e => by have := (o1.lt b e.symm).1; omega)
      have q2 := ownsRow_grown o2 (by decide) o1 hg2
      have q3 := ownsRow_grown o3 (by decide) o1 hg2
      refine hK _ _ ⟨⟨fun _ => hc2, trivial⟩, ?_⟩
      clear hK K o1 o2 o3 hc1 hrr
      simp only [Act.put, List.getElem_toArray, List.getElem_cons_zero, List.getElem_cons_succ, List.setIfInBounds_toArray, List.set_cons_zero, List.set_cons_succ]
      refine stepQ 7 rfl (by kernel_rfl) (by decide) (by kernel_rfl) fun K hK => ?_
      simp only [List.getElem_toArray, List.getElem_cons_zero, List.getElem_cons_succ]
      refine wp_append_any _ _ rfl Try.eByte w.heap.size v2 (E1.length + sm) _ rfl q1 A m c _ (bs_one B[k]) rfl (hrow.below hbel2) (by omega) (by omega) hsz2 ?_
      intro v3 w3 p1 hg3
      have hbel3 := hbel2.grown hg3 hsz2 (fun j e => (q1.lt j e).1)
      have hsz3 := hbel3.size
      have hc3 : w3.cell? ⟨b, off + k, none⟩ = some (.slice A m c) := hg3.cell hc2 (fun e => by have := (q1.lt b e.symm).1; omega)
      have p2 := ownsRow_grown q2 (by decide) q1 hg3
      have p3 := ownsRow_grown q3 (by decide) q1 hg3
      refine hK _ _ ⟨⟨fun hh => by simp at hh, trivial⟩, ?_⟩
      clear hK K q1 q2 q3 hc2
      simp only [Act.put, List.getElem_toArray, List.getElem_cons_zero, List.getElem_cons_succ, List.setIfInBounds_toArray, List.set_cons_zero, List.set_cons_succ]
      refine takeQ 8 rfl (by kernel_rfl) rfl (by kernel_rfl) fun K hK => ?_
      simp only [List.getElem_toArray, List.getElem_cons_zero, List.getElem_cons_succ]
      go_big_quiet_op
      refine hK _ ?_
      clear hK K
      refine doneQ (by kernel_rfl) (hKQ.out _ _ ?_)
      clear hKQ KQ
      obtain ⟨a3, c3, rfl, -⟩ := RowAt.of_own p1
      go_wp2_with (first
        | (at_builtin; refine append_one rfl (.tmp 57) (.tmp 60) rfl Try.eInt w.heap.size u6 k _ rfl p2 _ rfl rfl (by omega) (by omega) hsz3 ?_; intro v4 w4 r2 hg4; have r1 := ownsRow_grown p1 (by decide) p2 hg4; have r3 := ownsRow_grown p3 (by decide) p2 hg4; have hbel4 := hbel3.grown hg4 hsz3 (fun j e => (p2.lt j e).1); have hsz4 := hbel4.size; have hc4 : w4.cell? ⟨b, off + k, none⟩ = some (.slice A m c) := hg4.cell hc3 (fun e => by have := (p2.lt b e.symm).1; omega); obtain ⟨a4, c4, rfl, -⟩ := RowAt.of_own r2)
        | (at_builtin; refine append_one rfl (.tmp 62) (.tmp 68) rfl Try.eI64 w.heap.size u7 k _ rfl r3 _ rfl rfl (by omega) (by omega) hsz4 ?_; intro v5 w5 s3 hg5; have s1 := ownsRow_grown r1 (by decide) r3 hg5; have s2 := ownsRow_grown r2 (by decide) r3 hg5; have hbel5 := hbel4.grown hg5 hsz4 (fun j e => (r3.lt j e).1); obtain ⟨a5, c5, rfl, -⟩ := RowAt.of_own s3))
      go_roundw
      case rel =>
        refine ⟨k + 1, by omega, by go_num, ?_, ?_, ?_, ?_, hbel5⟩
        · exact HSM2.out
        · rw [X2.out, HEL.out, HEN.out, bs_append, bs_append]
          exact s1
        · rw [HES.out, ← ns_snoc15]
          exact s2
        · rw [HSS.out, ← ns_snoc15]
          exact s3
      case measure => simp [intOf]; omega
    · obtain rfl : k = n := by omega
      have htk : B.take k = B := List.take_of_length_le (by have := HL.out; omega)
      rw [htk] at how1
      have hsm2 := hsm.out
      rw [htk] at hsm2
      have HSM := hid hsm2
      have hmay : ∀ x ∈ sizesOf B k, mayL x = true := by
        intro x hx
        obtain ⟨y, hy, rfl⟩ := List.mem_map.1 hx
        exact mayL_small _ (hsm2 y (List.mem_of_mem_take hy))
      have hsl : (sizesOf B k).length = k := sizesOf_len B k (by have := HL.out; omega)
      clear htk hsm2 hsm
      obtain ⟨a1, c1, rfl, -⟩ := RowAt.of_own how1
      obtain ⟨a2, c2, rfl, hr2⟩ := RowAt.of_own how2
      obtain ⟨a3, c3, rfl, hr3⟩ := RowAt.of_own how3
      have CA := hid (len_all a3 k c3 (sizesOf B k) wr hr3 (by omega) hmay)
      go_wp2_with fail
      refine CA.out.mono ?_
      rintro e w1 ⟨va, rfl, hall, hb1⟩
      obtain ⟨a4, c4, rfl, -⟩ := RowAt.of_own hall
      have hr2 := hr2.below hb1
      have hr3 := hr3.below hb1
      have hrb : RowAt w1 a1 (encB B).length c1 (bs (encB B)) := by
        obtain ⟨_, _, he, hr⟩ := RowAt.of_own how1
        cases he
        exact hr.below hb1
      have hbel1 := hbel.trans (hb1.mono hbel.size)
      have hal := allL_le (sizesOf B k)
      rw [hsl] at hal
      clear hall CA hmay how1 how2 how3 hbel hb1
      go_wp2_with fail
      go_loopw [13, 14] (fun sum i wr => ∃ (j t : Nat), j ≤ k ∧ i = .int .i64 j ∧ sum = .int .i64 t ∧ t ≤ 4 * j ∧ Hid (t = (allL ((sizesOf B k).take j)).length) ∧ Below w1.heap.size w1 wr) (fun _ i _ => k - (intOf i).toNat)
      case atStart => exact ⟨0, 0, Nat.zero_le _, rfl, rfl, by omega, rfl, Below.refl _ _⟩
      case round =>
        obtain ⟨j, t, hj, rfl, rfl, ht, hT, hbw⟩ := hrel
        rcases Nat.lt_or_ge j k with hlt | hge
        · obtain ⟨g, off, ha, hcell⟩ := (hr3.below hbw).num hlt
          subst ha
          have hsn := allL_snoc (sizesOf B k) j (by omega)
          have hln := congrArg List.length hsn
          rw [List.length_append, rawL_len] at hln
          have hx : (sizesOf B k)[j]?.getD 0 = (sizesOf B k)[j]'(by omega) := by rw [List.getElem?_eq_getElem (by omega)]; rfl
          rw [hx] at hcell
          have hs4 := sizeL_le ((sizesOf B k)[j]'(by omega))
          generalize (sizesOf B k)[j]'(by omega) = x at *
          have HLN := hid hln
          clear hsn hln hx hr3
          have CS := hid (fun W => len_size x W)
          generalize sizeL x = q at *
          go_wp2_with fail
          refine (CS.out _).mono ?_
          rintro e w2 ⟨rfl, hb2⟩
          go_wp2
          go_roundw
          case rel => exact ⟨j + 1, t + q, by omega, by go_num, by go_num, by omega, hid (by rw [HLN.out, ← hT.out]), hbw.trans (hb2.mono hbw.size)⟩
          case measure => simp [intOf]; omega
        · obtain rfl : k = j := by omega
          have hT' := hT.out
          rw [List.take_of_length_le (by omega)] at hT'
          have hE : (encB B).length ≤ 6040 := by
            have h1 := encB_le B HSM.out
            have := HL.out
            have h3 : 302 * B.length ≤ 302 * 20 := Nat.mul_le_mul_left _ (by omega)
            omega
          have hbelw := hbel1.trans (hbw.mono hbel1.size)
          have hr2 := hr2.below hbw
          have hrb := hrb.below hbw
          have hhw := h.below hbelw
          clear hr3 hT hbw hbel1
          rw [← hT']
          clear hT'
          by_cases hbad : come < 0 ∨ ((encB B).length : Int) < come
          · rcases hbad with hb | hb
            · have d1 : decide (come < 0) = true := decide_eq_true hb
              go_wp2_with (go_at_call 12; refine (known15 _).mono ?_; rintro e w5 ⟨rfl, hb5⟩)
              go_ret
              exact ⟨rfl, hbelw.trans (hb5.mono hbelw.size)⟩
            · have d1 : decide (come < 0) = false := decide_eq_false (by omega)
              have d2 : decide (((encB B).length : Int) < come) = true := decide_eq_true hb
              go_wp2_with (go_at_call 12; refine (known15 _).mono ?_; rintro e w5 ⟨rfl, hb5⟩)
              go_ret
              exact ⟨rfl, hbelw.trans (hb5.mono hbelw.size)⟩
          obtain ⟨cm, rfl⟩ := Int.eq_ofNat_of_zero_le (show 0 ≤ come by omega)
          have hcm : cm ≤ (encB B).length := by omega
          have d1 : decide ((cm : Int) < 0) = false := decide_eq_false (by omega)
          have d2 : decide (((encB B).length : Int) < (cm : Int)) = false := decide_eq_false (by omega)
          have hrt := hrb.take cm hcm
          rw [bs_take] at hrt
          have CP := hid (len_split a1 cm c1 ((encB B).take cm) 300 wr hrt (by omega) (by decide))
          have hcc : cm ≤ c1 := by have := hrb.le; omega
          obtain ⟨q, hqk, hqE, hqx⟩ := back_count B cm hcm
          have HSPL := hid (fun ps r => fun (hc : ChainL 300 ((encB B).take cm) ps r) (hne : ¬ (errL 300 r = 0 ∧ fullL r = true)) => back_split B HSM.out q cm hqk hqE hqx ps r hc hne)
          have HQX := hid hqx
          have HQE := hid hqE
          have hqk : q ≤ k := by have := HL.out; omega
          clear hqx
          go_wp2_with fail
          refine CP.out.mono ?_
          rintro e w3 ⟨hb3, ps, r, hch, hcase⟩
          obtain ⟨rfl, hrr, hr0⟩ := HSPL.out ps r hch (split_ends hcase)
          have HRR := hid hrr
          clear hrr
          rcases hcase with ⟨he, -⟩ | ⟨-, -, ov, lv, vs, rfl, hop, hOw, hol⟩
          · exact absurd hr0 he
          have hbel3 := hbelw.trans (hb3.mono hbelw.size)
          have hr23 := hr2.below hb3
          have hrb3 := hrb.below hb3
          have hhw3 := hhw.below hb3
          have hpl : (B.take q).length = q := by rw [List.length_take]; have := HL.out; omega
          rw [hpl] at hop
          obtain ⟨oa, oc, rfl, hopr⟩ := RowAt.of_own hop
          obtain ⟨la, lc, rfl, hlr⟩ := RowAt.of_own hol
          have hole := hopr.le
          clear hop hol HSPL hch hr0 CP hr2 hrb hhw hbelw hb3 hrt
          go_wp2_with fail
          go_loopw [18] (fun v wx => ∃ p : Nat, p ≤ q ∧ v = .int .i64 p ∧ Below w3.heap.size w3 wx) (fun v _ => q - (intOf v).toNat)
          case atStart => exact ⟨0, Nat.zero_le _, rfl, Below.refl _ _⟩
          case round =>
            obtain ⟨p, hpq, rfl, hbx3⟩ := hrel
            rcases Nat.lt_or_ge p q with hlt | hge
            · obtain ⟨g, off, ha, hcell⟩ := (hr23.below hbx3).num (show p < k by omega)
              subst ha
              rw [endsOf_get B k p (by omega)] at hcell
              have hm := encB_mono B (p + 1) q (by omega)
              have hle2 : ((encB (B.take (p + 1))).length : Int) ≤ (cm : Int) := by omega
              generalize ((encB (B.take (p + 1))).length : Int) = E at *
              have d3 : decide (E ≤ (cm : Int)) = true := decide_eq_true hle2
              have hp0 : (0 : Int) ≤ (p : Int) := by omega
              have hp1 : (p : Int) < (k : Int) := by omega
              go_wp2
              go_roundw
              case rel => exact ⟨p + 1, by omega, by go_num, hbx3⟩
              case measure => simp [intOf]; omega
            · obtain rfl : p = q := by omega
              rcases HQX.out with ⟨hqB, -⟩ | ⟨hqB, hqn⟩
              · have hqk2 : p = k := by have := HL.out; omega
                have hge2 : ¬ ((p : Int) < (k : Int)) := by omega
                clear hqB hqk2
                have hqi : (p : Int) ≤ (k : Int) := by omega
                go_wp2_with fail
                go_loopw [19] (fun i wx => ∃ j : Nat, j ≤ p ∧ i = .int .i64 j ∧ Below w3.heap.size w3 wx) (fun i _ => p - (intOf i).toNat)
                case atStart => exact ⟨0, Nat.zero_le _, rfl, hbx3⟩
                case round =>
                  obtain ⟨j, hjq, rfl, hbx⟩ := hrel
                  rcases Nat.lt_or_ge j p with hlt | hge
                  · have hjB : j < B.length := by have := HL.out; omega
                    have hjp : j < (B.take p).length := by rw [List.length_take]; omega
                    obtain ⟨b, off, A, m, c, hA, hcl, hrow⟩ := (hhw3.below hbx).rows j hjB
                    obtain ⟨v, hv, hvo⟩ := hOw.get j hjp
                    have hpj : (B.take p)[j]'hjp = B[j] := by simp
                    rw [hpj] at hvo
                    obtain ⟨va, vc, rfl, hvr⟩ := RowAt.of_own hvo
                    obtain ⟨g, goff, hga, hgc⟩ := hopr.cells j hlt
                    rw [hv] at hgc
                    have hgc' : wr.cell? ⟨g, goff + j, none⟩ = _ := (hbx.cell (p := ⟨g, goff + j, none⟩) (cell_lt hgc)).trans hgc
                    have hdr : Below wr.heap.size wr wr.drew := (Below.refl _ _).drew
                    have hcv1 := run_str ((hvr.below hbx).below hdr)
                    have hcv2 := run_str (hrow.below hdr)
                    subst hA hga
                    have hj0 : (0 : Int) ≤ (j : Int) := by omega
                    have hj1 : (j : Int) < (p : Int) := by omega
                    have hj2 : (j : Int) < (k : Int) := by omega
                    clear hopr hlr hrow hvr hvo hv hgc hpj
                    generalize B[j] = Bj at *
                    go_wp2_with fail
                    refine regionQ [(1000, fun w' => w'.cell? ⟨g, goff + j, none⟩ = some (.slice va Bj.length vc)), (1000, fun w' => w'.cell? ⟨b, off + j, none⟩ = some (.slice A m c)), (1000, fun w' => w' = wr.drew)] (by kernel_rfl) ⟨hgc', hcl, rfl, trivial⟩ fun KQ hKQ => ?_
                    refine takeQ 0 rfl (by kernel_rfl) rfl (by kernel_rfl) fun K hK => ?_
                    simp only [List.getElem_toArray, List.getElem_cons_zero, List.getElem_cons_succ]
                    go_big_quiet_op
                    refine hK _ ?_
                    clear hK K
                    refine takeQ 1 rfl (by kernel_rfl) rfl (by kernel_rfl) fun K hK => ?_
                    simp only [List.getElem_toArray, List.getElem_cons_zero, List.getElem_cons_succ]
                    go_big_quiet_op
                    refine hK _ ?_
                    clear hK K
                    refine takeQ 2 rfl (by kernel_rfl) rfl (by kernel_rfl) fun K hK => ?_
                    simp only [List.getElem_toArray, List.getElem_cons_zero, List.getElem_cons_succ]
                    go_big_quiet_op
                    refine hK _ ?_
                    clear hK K
                    refine loadQ 3 rfl (by kernel_rfl) (by kernel_rfl) rfl rfl 0 rfl (by kernel_rfl) _ (fun w' hf => by (go_simp <;> with_reducible rfl)) ?_
                    simp only [Act.put, List.getElem_toArray, List.getElem_cons_zero, List.getElem_cons_succ, List.setIfInBounds_toArray, List.set_cons_zero, List.set_cons_succ]
                    refine convQ 4 rfl (by kernel_rfl) (by kernel_rfl) rfl rfl 2 rfl (by kernel_rfl) _ (fun w' hf => by (subst hf; exact hcv1)) ?_
                    simp only [Act.put, List.getElem_toArray, List.getElem_cons_zero, List.getElem_cons_succ, List.setIfInBounds_toArray, List.set_cons_zero, List.set_cons_succ]
                    refine takeQ 5 rfl (by kernel_rfl) rfl (by kernel_rfl) fun K hK => ?_
                    simp only [List.getElem_toArray, List.getElem_cons_zero, List.getElem_cons_succ]
                    go_big_quiet_op
                    refine hK _ ?_
                    clear hK K
                    refine takeQ 6 rfl (by kernel_rfl) rfl (by kernel_rfl) fun K hK => ?_
                    simp only [List.getElem_toArray, List.getElem_cons_zero, List.getElem_cons_succ]
                    go_big_quiet_op
                    refine hK _ ?_
                    clear hK K
                    refine takeQ 7 rfl (by kernel_rfl) rfl (by kernel_rfl) fun K hK => ?_
                    simp only [List.getElem_toArray, List.getElem_cons_zero, List.getElem_cons_succ]
                    go_big_quiet_op
                    refine hK _ ?_
                    clear hK K
                    refine loadQ 8 rfl (by kernel_rfl) (by kernel_rfl) rfl rfl 1 rfl (by kernel_rfl) _ (fun w' hf => by (go_simp <;> with_reducible rfl)) ?_
                    simp only [Act.put, List.getElem_toArray, List.getElem_cons_zero, List.getElem_cons_succ, List.setIfInBounds_toArray, List.set_cons_zero, List.set_cons_succ]
                    refine convQ 9 rfl (by kernel_rfl) (by kernel_rfl) rfl rfl 2 rfl (by kernel_rfl) _ (fun w' hf => by (subst hf; exact hcv2)) ?_
                    simp only [Act.put, List.getElem_toArray, List.getElem_cons_zero, List.getElem_cons_succ, List.setIfInBounds_toArray, List.set_cons_zero, List.set_cons_succ]
                    refine takeQ 10 rfl (by kernel_rfl) rfl (by kernel_rfl) fun K hK => ?_
                    simp only [List.getElem_toArray, List.getElem_cons_zero, List.getElem_cons_succ]
                    go_big_quiet_op
                    refine hK _ ?_
                    clear hK K
                    refine doneQ (by kernel_rfl) (hKQ.out _ _ ?_)
                    clear hKQ KQ
                    go_wp2
                    go_roundw
                    case rel => exact ⟨j + 1, by omega, by go_num, hbx.drew⟩
                    case measure => simp [intOf]; omega
                  · obtain rfl : j = p := by omega
                    have hLc : (encB (B.take j)).length ≤ cm := HQE.out
                    have hrbx := (hrb3.below hbx)
                    have hlrx := hlr.below hbx
                    have hrcut := hrbx.cut (i := (encB (B.take j)).length) (j := cm) hLc hcm
                    rw [bs_sub, ← HRR.out] at hrcut
                    have hdr : Below wr.heap.size wr wr.drew := (Below.refl _ _).drew
                    have hcv1 := run_str (hlrx.below hdr)
                    have hcv2 := run_str (hrcut.below hdr)
                    have hbelF := (hbel3.trans (hbx.mono hbel3.size)).drew
                    have hsl : ∀ W, (Instr.slice 22 (.slice a1 (encB B).length c1) (some (.int .i64 ((encB (B.take j)).length : Int))) (some (.int .i64 (cm : Int))) none).run Try.prog W = .ok (.slice (cutA a1 c1 (encB (B.take j)).length) (cm - (encB (B.take j)).length) (c1 - (encB (B.take j)).length)) W := fun W => run_cut_lh Try.uelB Try.szB a1 _ c1 _ _ (encB (B.take j)).length cm rfl rfl hLc hcc W
                    rcases Nat.eq_zero_or_pos j with hj0 | hj0
                    · subst hj0
                      have hL0 : (encB (B.take 0)).length = 0 := by simp [encB]
                      rw [hL0] at hcv2 hsl
                      replace hsl : ∀ W, (Instr.slice 22 (.slice a1 (encB B).length c1) (some (.int .i64 0)) (some (.int .i64 (cm : Int))) none).run Try.prog W = .ok (.slice (cutA a1 c1 0) cm c1) W := hsl
                      replace hcv2 : (convert 22 9 (.slice (cutA a1 c1 0) cm c1)).run Try.prog wr.drew = .ok (.string ⟨r.toArray⟩) wr.drew := hcv2
                      clear hL0
                      go_wp2_with fail
                      refine regionQ [(9, fun w' => w' = wr.drew)] (by kernel_rfl) ⟨rfl, trivial⟩ fun KQ hKQ => ?_
                      refine takeQ 0 rfl (by kernel_rfl) rfl (by kernel_rfl) fun K hK => ?_
                      simp only [List.getElem_toArray, List.getElem_cons_zero, List.getElem_cons_succ]
                      go_big_quiet_op
                      refine hK _ ?_
                      clear hK K
                      refine convT 1 rfl (by kernel_rfl) (by kernel_rfl) rfl rfl 0 rfl (by kernel_rfl) _ (fun w' hf => by (subst hf; exact hcv1)) ?_
                      simp only [Act.put, List.getElem_toArray, List.getElem_cons_zero, List.getElem_cons_succ, List.setIfInBounds_toArray, List.set_cons_zero, List.set_cons_succ]
                      refine takeQ 2 rfl (by kernel_rfl) rfl (by kernel_rfl) fun K hK => ?_
                      simp only [List.getElem_toArray, List.getElem_cons_zero, List.getElem_cons_succ]
                      go_big_quiet_op
                      refine hK _ ?_
                      clear hK K
                      refine takeQ 3 rfl (by kernel_rfl) rfl (by kernel_rfl) fun K hK => ?_
                      simp only [List.getElem_toArray, List.getElem_cons_zero, List.getElem_cons_succ]
                      go_big_quiet_op
                      refine hK _ ?_
                      clear hK K
                      refine takeQ 4 rfl (by kernel_rfl) rfl (by kernel_rfl) fun K hK => ?_
                      simp only [List.getElem_toArray, List.getElem_cons_zero, List.getElem_cons_succ]
                      go_big_quiet_op
                      refine hK _ ?_
                      clear hK K
                      refine takeQ 5 rfl (by kernel_rfl) rfl (by kernel_rfl) fun K hK => ?_
                      simp only [List.getElem_toArray, List.getElem_cons_zero, List.getElem_cons_succ]
                      go_big_quiet_op
                      refine hK _ ?_
                      clear hK K
                      refine convT 6 rfl (by kernel_rfl) (by kernel_rfl) rfl rfl 0 rfl (by kernel_rfl) _ (fun w' hf => by (subst hf; exact hcv2)) ?_
                      simp only [Act.put, List.getElem_toArray, List.getElem_cons_zero, List.getElem_cons_succ, List.setIfInBounds_toArray, List.set_cons_zero, List.set_cons_succ]
                      refine takeQ 7 rfl (by kernel_rfl) rfl (by kernel_rfl) fun K hK => ?_
                      simp only [List.getElem_toArray, List.getElem_cons_zero, List.getElem_cons_succ]
                      go_big_quiet_op
                      refine hK _ ?_
                      clear hK K
                      refine takeQ 8 rfl (by kernel_rfl) rfl (by kernel_rfl) fun K hK => ?_
                      simp only [List.getElem_toArray, List.getElem_cons_zero, List.getElem_cons_succ]
                      go_big_quiet_op
                      refine hK _ ?_
                      clear hK K
                      refine stepQ 9 rfl (by kernel_rfl) (by decide) (by kernel_rfl) fun K hK => ?_
                      simp only [List.getElem_toArray, List.getElem_cons_zero, List.getElem_cons_succ]
                      go_simp
                      refine (known15 _).mono ?_
                      rintro e w5 ⟨rfl, hb5⟩
                      refine hK _ _ ⟨⟨fun hh => by simp at hh, trivial⟩, ?_⟩
                      clear hK K
                      try simp only [Act.put, List.getElem_toArray, List.getElem_cons_zero, List.getElem_cons_succ, List.setIfInBounds_toArray, List.set_cons_zero, List.set_cons_succ]
                      refine takeQ 10 rfl (by kernel_rfl) rfl (by kernel_rfl) fun K hK => ?_
                      simp only [List.getElem_toArray, List.getElem_cons_zero, List.getElem_cons_succ]
                      go_big_quiet_op
                      refine hK _ ?_
                      clear hK K
                      refine takeQ 11 rfl (by kernel_rfl) rfl (by kernel_rfl) fun K hK => ?_
                      simp only [List.getElem_toArray, List.getElem_cons_zero, List.getElem_cons_succ]
                      go_big_quiet_op
                      refine hK _ ?_
                      clear hK K
                      refine doneQ (by kernel_rfl) (hKQ.out _ _ ?_)
                      clear hKQ KQ
                      go_wp2
                      go_ret
                      exact ⟨rfl, hbelF.trans (hb5.mono hbelF.size)⟩
                    · have hr2x := hr23.below hbx
                      obtain ⟨g, off, ha, hcell⟩ := hr2x.num (i := j - 1) (by omega)
                      rw [endsOf_get B k (j - 1) (by omega), show j - 1 + 1 = j by omega] at hcell
                      generalize (encB (B.take j)).length = L at *
                      obtain ⟨j', rfl⟩ : ∃ j', j = j' + 1 := ⟨j - 1, by omega⟩
                      rw [show j' + 1 - 1 = j' by omega] at hcell
                      cases ha
                      have hja : (0 : Int) ≤ (j' : Int) := by omega
                      have hjb : (j' : Int) < (k : Int) := by omega
                      go_wp2_with fail
                      refine regionQ [(9, fun w' => w' = wr.drew)] (by kernel_rfl) ⟨rfl, trivial⟩ fun KQ hKQ => ?_
                      refine takeQ 0 rfl (by kernel_rfl) rfl (by kernel_rfl) fun K hK => ?_
                      simp only [List.getElem_toArray, List.getElem_cons_zero, List.getElem_cons_succ]
                      go_big_quiet_op
                      refine hK _ ?_
                      clear hK K
                      refine convT 1 rfl (by kernel_rfl) (by kernel_rfl) rfl rfl 0 rfl (by kernel_rfl) _ (fun w' hf => by (subst hf; exact hcv1)) ?_
                      simp only [Act.put, List.getElem_toArray, List.getElem_cons_zero, List.getElem_cons_succ, List.setIfInBounds_toArray, List.set_cons_zero, List.set_cons_succ]
                      refine takeQ 2 rfl (by kernel_rfl) rfl (by kernel_rfl) fun K hK => ?_
                      simp only [List.getElem_toArray, List.getElem_cons_zero, List.getElem_cons_succ]
                      go_big_quiet_op
                      refine hK _ ?_
                      clear hK K
                      refine takeQ 3 rfl (by kernel_rfl) rfl (by kernel_rfl) fun K hK => ?_
                      simp only [List.getElem_toArray, List.getElem_cons_zero, List.getElem_cons_succ]
                      go_big_quiet_op
                      refine hK _ ?_
                      clear hK K
                      refine takeQ 4 rfl (by kernel_rfl) rfl (by kernel_rfl) fun K hK => ?_
                      simp only [List.getElem_toArray, List.getElem_cons_zero, List.getElem_cons_succ]
                      go_big_quiet_op
                      refine hK _ ?_
                      clear hK K
                      refine takeQ 5 rfl (by kernel_rfl) rfl (by kernel_rfl) fun K hK => ?_
                      simp only [List.getElem_toArray, List.getElem_cons_zero, List.getElem_cons_succ]
                      go_big_quiet_op
                      refine hK _ ?_
                      clear hK K
                      refine convT 6 rfl (by kernel_rfl) (by kernel_rfl) rfl rfl 0 rfl (by kernel_rfl) _ (fun w' hf => by (subst hf; exact hcv2)) ?_
                      simp only [Act.put, List.getElem_toArray, List.getElem_cons_zero, List.getElem_cons_succ, List.setIfInBounds_toArray, List.set_cons_zero, List.set_cons_succ]
                      refine takeQ 7 rfl (by kernel_rfl) rfl (by kernel_rfl) fun K hK => ?_
                      simp only [List.getElem_toArray, List.getElem_cons_zero, List.getElem_cons_succ]
                      go_big_quiet_op
                      refine hK _ ?_
                      clear hK K
                      refine takeQ 8 rfl (by kernel_rfl) rfl (by kernel_rfl) fun K hK => ?_
                      simp only [List.getElem_toArray, List.getElem_cons_zero, List.getElem_cons_succ]
                      go_big_quiet_op
                      refine hK _ ?_
                      clear hK K
                      refine stepQ 9 rfl (by kernel_rfl) (by decide) (by kernel_rfl) fun K hK => ?_
                      simp only [List.getElem_toArray, List.getElem_cons_zero, List.getElem_cons_succ]
                      go_simp
                      refine (known15 _).mono ?_
                      rintro e w5 ⟨rfl, hb5⟩
                      refine hK _ _ ⟨⟨fun hh => by simp at hh, trivial⟩, ?_⟩
                      clear hK K
                      try simp only [Act.put, List.getElem_toArray, List.getElem_cons_zero, List.getElem_cons_succ, List.setIfInBounds_toArray, List.set_cons_zero, List.set_cons_succ]
                      refine takeQ 10 rfl (by kernel_rfl) rfl (by kernel_rfl) fun K hK => ?_
                      simp only [List.getElem_toArray, List.getElem_cons_zero, List.getElem_cons_succ]
                      go_big_quiet_op
                      refine hK _ ?_
                      clear hK K
                      refine takeQ 11 rfl (by kernel_rfl) rfl (by kernel_rfl) fun K hK => ?_
                      simp only [List.getElem_toArray, List.getElem_cons_zero, List.getElem_cons_succ]
                      go_big_quiet_op
                      refine hK _ ?_
                      clear hK K
                      refine doneQ (by kernel_rfl) (hKQ.out _ _ ?_)
                      clear hKQ KQ
                      go_wp2
                      go_ret
                      exact ⟨rfl, hbelF.trans (hb5.mono hbelF.size)⟩
              · have hqk2 : p < k := by have := HL.out; omega
                obtain ⟨g, off, ha, hcell⟩ := (hr23.below hbx3).num hqk2
                rw [endsOf_get B k p hqk2] at hcell
                have hle2 : ¬ ((encB (B.take (p + 1))).length : Int) ≤ (cm : Int) := by omega
                generalize ((encB (B.take (p + 1))).length : Int) = E at *
                have d3 : decide (E ≤ (cm : Int)) = false := decide_eq_false hle2
                have hp0 : (0 : Int) ≤ (p : Int) := by omega
                have hp1 : (p : Int) < (k : Int) := by omega
                have ha' := ha
                subst ha
                have hqi : (p : Int) ≤ (k : Int) := by omega
                go_wp2_with fail
                go_loopw [19] (fun i wx => ∃ j : Nat, j ≤ p ∧ i = .int .i64 j ∧ Below w3.heap.size w3 wx) (fun i _ => p - (intOf i).toNat)
                case atStart => exact ⟨0, Nat.zero_le _, rfl, hbx3⟩
                case round =>
                  obtain ⟨j, hjq, rfl, hbx⟩ := hrel
                  rcases Nat.lt_or_ge j p with hlt | hge
                  · have hjB : j < B.length := by have := HL.out; omega
                    have hjp : j < (B.take p).length := by rw [List.length_take]; omega
                    obtain ⟨b, off, A, m, c, hA, hcl, hrow⟩ := (hhw3.below hbx).rows j hjB
                    obtain ⟨v, hv, hvo⟩ := hOw.get j hjp
                    have hpj : (B.take p)[j]'hjp = B[j] := by simp
                    rw [hpj] at hvo
                    obtain ⟨va, vc, rfl, hvr⟩ := RowAt.of_own hvo
                    obtain ⟨g, goff, hga, hgc⟩ := hopr.cells j hlt
                    rw [hv] at hgc
                    have hgc' : wr.cell? ⟨g, goff + j, none⟩ = _ := (hbx.cell (p := ⟨g, goff + j, none⟩) (cell_lt hgc)).trans hgc
                    have hdr : Below wr.heap.size wr wr.drew := (Below.refl _ _).drew
                    have hcv1 := run_str ((hvr.below hbx).below hdr)
                    have hcv2 := run_str (hrow.below hdr)
                    subst hA hga
                    have hj0 : (0 : Int) ≤ (j : Int) := by omega
                    have hj1 : (j : Int) < (p : Int) := by omega
                    have hj2 : (j : Int) < (k : Int) := by omega
                    clear hopr hlr hrow hvr hvo hv hgc hpj
                    generalize B[j] = Bj at *
                    go_wp2_with fail
                    refine regionQ [(1000, fun w' => w'.cell? ⟨g, goff + j, none⟩ = some (.slice va Bj.length vc)), (1000, fun w' => w'.cell? ⟨b, off + j, none⟩ = some (.slice A m c)), (1000, fun w' => w' = wr.drew)] (by kernel_rfl) ⟨hgc', hcl, rfl, trivial⟩ fun KQ hKQ => ?_
                    refine takeQ 0 rfl (by kernel_rfl) rfl (by kernel_rfl) fun K hK => ?_
                    simp only [List.getElem_toArray, List.getElem_cons_zero, List.getElem_cons_succ]
                    go_big_quiet_op
                    refine hK _ ?_
                    clear hK K
                    refine takeQ 1 rfl (by kernel_rfl) rfl (by kernel_rfl) fun K hK => ?_
                    simp only [List.getElem_toArray, List.getElem_cons_zero, List.getElem_cons_succ]
                    go_big_quiet_op
                    refine hK _ ?_
                    clear hK K
                    refine takeQ 2 rfl (by kernel_rfl) rfl (by kernel_rfl) fun K hK => ?_
                    simp only [List.getElem_toArray, List.getElem_cons_zero, List.getElem_cons_succ]
                    go_big_quiet_op
                    refine hK _ ?_
                    clear hK K
                    refine loadQ 3 rfl (by kernel_rfl) (by kernel_rfl) rfl rfl 0 rfl (by kernel_rfl) _ (fun w' hf => by (go_simp <;> with_reducible rfl)) ?_
                    simp only [Act.put, List.getElem_toArray, List.getElem_cons_zero, List.getElem_cons_succ, List.setIfInBounds_toArray, List.set_cons_zero, List.set_cons_succ]
                    refine convQ 4 rfl (by kernel_rfl) (by kernel_rfl) rfl rfl 2 rfl (by kernel_rfl) _ (fun w' hf => by (subst hf; exact hcv1)) ?_
                    simp only [Act.put, List.getElem_toArray, List.getElem_cons_zero, List.getElem_cons_succ, List.setIfInBounds_toArray, List.set_cons_zero, List.set_cons_succ]
                    refine takeQ 5 rfl (by kernel_rfl) rfl (by kernel_rfl) fun K hK => ?_
                    simp only [List.getElem_toArray, List.getElem_cons_zero, List.getElem_cons_succ]
                    go_big_quiet_op
                    refine hK _ ?_
                    clear hK K
                    refine takeQ 6 rfl (by kernel_rfl) rfl (by kernel_rfl) fun K hK => ?_
                    simp only [List.getElem_toArray, List.getElem_cons_zero, List.getElem_cons_succ]
                    go_big_quiet_op
                    refine hK _ ?_
                    clear hK K
                    refine takeQ 7 rfl (by kernel_rfl) rfl (by kernel_rfl) fun K hK => ?_
                    simp only [List.getElem_toArray, List.getElem_cons_zero, List.getElem_cons_succ]
                    go_big_quiet_op
                    refine hK _ ?_
                    clear hK K
                    refine loadQ 8 rfl (by kernel_rfl) (by kernel_rfl) rfl rfl 1 rfl (by kernel_rfl) _ (fun w' hf => by (go_simp <;> with_reducible rfl)) ?_
                    simp only [Act.put, List.getElem_toArray, List.getElem_cons_zero, List.getElem_cons_succ, List.setIfInBounds_toArray, List.set_cons_zero, List.set_cons_succ]
                    refine convQ 9 rfl (by kernel_rfl) (by kernel_rfl) rfl rfl 2 rfl (by kernel_rfl) _ (fun w' hf => by (subst hf; exact hcv2)) ?_
                    simp only [Act.put, List.getElem_toArray, List.getElem_cons_zero, List.getElem_cons_succ, List.setIfInBounds_toArray, List.set_cons_zero, List.set_cons_succ]
                    refine takeQ 10 rfl (by kernel_rfl) rfl (by kernel_rfl) fun K hK => ?_
                    simp only [List.getElem_toArray, List.getElem_cons_zero, List.getElem_cons_succ]
                    go_big_quiet_op
                    refine hK _ ?_
                    clear hK K
                    refine doneQ (by kernel_rfl) (hKQ.out _ _ ?_)
                    clear hKQ KQ
                    go_wp2
                    go_roundw
                    case rel => exact ⟨j + 1, by omega, by go_num, hbx.drew⟩
                    case measure => simp [intOf]; omega
                  · obtain rfl : j = p := by omega
                    have hLc : (encB (B.take j)).length ≤ cm := HQE.out
                    have hrbx := (hrb3.below hbx)
                    have hlrx := hlr.below hbx
                    have hrcut := hrbx.cut (i := (encB (B.take j)).length) (j := cm) hLc hcm
                    rw [bs_sub, ← HRR.out] at hrcut
                    have hdr : Below wr.heap.size wr wr.drew := (Below.refl _ _).drew
                    have hcv1 := run_str (hlrx.below hdr)
                    have hcv2 := run_str (hrcut.below hdr)
                    have hbelF := (hbel3.trans (hbx.mono hbel3.size)).drew
                    have hsl : ∀ W, (Instr.slice 22 (.slice a1 (encB B).length c1) (some (.int .i64 ((encB (B.take j)).length : Int))) (some (.int .i64 (cm : Int))) none).run Try.prog W = .ok (.slice (cutA a1 c1 (encB (B.take j)).length) (cm - (encB (B.take j)).length) (c1 - (encB (B.take j)).length)) W := fun W => run_cut_lh Try.uelB Try.szB a1 _ c1 _ _ (encB (B.take j)).length cm rfl rfl hLc hcc W
                    rcases Nat.eq_zero_or_pos j with hj0 | hj0
                    · subst hj0
                      have hL0 : (encB (B.take 0)).length = 0 := by simp [encB]
                      rw [hL0] at hcv2 hsl
                      replace hsl : ∀ W, (Instr.slice 22 (.slice a1 (encB B).length c1) (some (.int .i64 0)) (some (.int .i64 (cm : Int))) none).run Try.prog W = .ok (.slice (cutA a1 c1 0) cm c1) W := hsl
                      replace hcv2 : (convert 22 9 (.slice (cutA a1 c1 0) cm c1)).run Try.prog wr.drew = .ok (.string ⟨r.toArray⟩) wr.drew := hcv2
                      clear hL0
                      go_wp2_with fail
                      refine regionQ [(9, fun w' => w' = wr.drew)] (by kernel_rfl) ⟨rfl, trivial⟩ fun KQ hKQ => ?_
                      refine takeQ 0 rfl (by kernel_rfl) rfl (by kernel_rfl) fun K hK => ?_
                      simp only [List.getElem_toArray, List.getElem_cons_zero, List.getElem_cons_succ]
                      go_big_quiet_op
                      refine hK _ ?_
                      clear hK K
                      refine convT 1 rfl (by kernel_rfl) (by kernel_rfl) rfl rfl 0 rfl (by kernel_rfl) _ (fun w' hf => by (subst hf; exact hcv1)) ?_
                      simp only [Act.put, List.getElem_toArray, List.getElem_cons_zero, List.getElem_cons_succ, List.setIfInBounds_toArray, List.set_cons_zero, List.set_cons_succ]
                      refine takeQ 2 rfl (by kernel_rfl) rfl (by kernel_rfl) fun K hK => ?_
                      simp only [List.getElem_toArray, List.getElem_cons_zero, List.getElem_cons_succ]
                      go_big_quiet_op
                      refine hK _ ?_
                      clear hK K
                      refine takeQ 3 rfl (by kernel_rfl) rfl (by kernel_rfl) fun K hK => ?_
                      simp only [List.getElem_toArray, List.getElem_cons_zero, List.getElem_cons_succ]
                      go_big_quiet_op
                      refine hK _ ?_
                      clear hK K
                      refine takeQ 4 rfl (by kernel_rfl) rfl (by kernel_rfl) fun K hK => ?_
                      simp only [List.getElem_toArray, List.getElem_cons_zero, List.getElem_cons_succ]
                      go_big_quiet_op
                      refine hK _ ?_
                      clear hK K
                      refine takeQ 5 rfl (by kernel_rfl) rfl (by kernel_rfl) fun K hK => ?_
                      simp only [List.getElem_toArray, List.getElem_cons_zero, List.getElem_cons_succ]
                      go_big_quiet_op
                      refine hK _ ?_
                      clear hK K
                      refine convT 6 rfl (by kernel_rfl) (by kernel_rfl) rfl rfl 0 rfl (by kernel_rfl) _ (fun w' hf => by (subst hf; exact hcv2)) ?_
                      simp only [Act.put, List.getElem_toArray, List.getElem_cons_zero, List.getElem_cons_succ, List.setIfInBounds_toArray, List.set_cons_zero, List.set_cons_succ]
                      refine takeQ 7 rfl (by kernel_rfl) rfl (by kernel_rfl) fun K hK => ?_
                      simp only [List.getElem_toArray, List.getElem_cons_zero, List.getElem_cons_succ]
                      go_big_quiet_op
                      refine hK _ ?_
                      clear hK K
                      refine takeQ 8 rfl (by kernel_rfl) rfl (by kernel_rfl) fun K hK => ?_
                      simp only [List.getElem_toArray, List.getElem_cons_zero, List.getElem_cons_succ]
                      go_big_quiet_op
                      refine hK _ ?_
                      clear hK K
                      refine stepQ 9 rfl (by kernel_rfl) (by decide) (by kernel_rfl) fun K hK => ?_
                      simp only [List.getElem_toArray, List.getElem_cons_zero, List.getElem_cons_succ]
                      go_simp
                      refine (known15 _).mono ?_
                      rintro e w5 ⟨rfl, hb5⟩
                      refine hK _ _ ⟨⟨fun hh => by simp at hh, trivial⟩, ?_⟩
                      clear hK K
                      try simp only [Act.put, List.getElem_toArray, List.getElem_cons_zero, List.getElem_cons_succ, List.setIfInBounds_toArray, List.set_cons_zero, List.set_cons_succ]
                      refine takeQ 10 rfl (by kernel_rfl) rfl (by kernel_rfl) fun K hK => ?_
                      simp only [List.getElem_toArray, List.getElem_cons_zero, List.getElem_cons_succ]
                      go_big_quiet_op
                      refine hK _ ?_
                      clear hK K
                      refine takeQ 11 rfl (by kernel_rfl) rfl (by kernel_rfl) fun K hK => ?_
                      simp only [List.getElem_toArray, List.getElem_cons_zero, List.getElem_cons_succ]
                      go_big_quiet_op
                      refine hK _ ?_
                      clear hK K
                      refine doneQ (by kernel_rfl) (hKQ.out _ _ ?_)
                      clear hKQ KQ
                      go_wp2
                      go_ret
                      exact ⟨rfl, hbelF.trans (hb5.mono hbelF.size)⟩
                    · have hr2x := hr23.below hbx
                      obtain ⟨g, off, ha, hcell⟩ := hr2x.num (i := j - 1) (by omega)
                      rw [endsOf_get B k (j - 1) (by omega), show j - 1 + 1 = j by omega] at hcell
                      generalize (encB (B.take j)).length = L at *
                      obtain ⟨j', rfl⟩ : ∃ j', j = j' + 1 := ⟨j - 1, by omega⟩
                      rw [show j' + 1 - 1 = j' by omega] at hcell
                      cases ha
                      have hja : (0 : Int) ≤ (j' : Int) := by omega
                      have hjb : (j' : Int) < (k : Int) := by omega
                      go_wp2_with fail
                      refine regionQ [(9, fun w' => w' = wr.drew)] (by kernel_rfl) ⟨rfl, trivial⟩ fun KQ hKQ => ?_
                      refine takeQ 0 rfl (by kernel_rfl) rfl (by kernel_rfl) fun K hK => ?_
                      simp only [List.getElem_toArray, List.getElem_cons_zero, List.getElem_cons_succ]
                      go_big_quiet_op
                      refine hK _ ?_
                      clear hK K
                      refine convT 1 rfl (by kernel_rfl) (by kernel_rfl) rfl rfl 0 rfl (by kernel_rfl) _ (fun w' hf => by (subst hf; exact hcv1)) ?_
                      simp only [Act.put, List.getElem_toArray, List.getElem_cons_zero, List.getElem_cons_succ, List.setIfInBounds_toArray, List.set_cons_zero, List.set_cons_succ]
                      refine takeQ 2 rfl (by kernel_rfl) rfl (by kernel_rfl) fun K hK => ?_
                      simp only [List.getElem_toArray, List.getElem_cons_zero, List.getElem_cons_succ]
                      go_big_quiet_op
                      refine hK _ ?_
                      clear hK K
                      refine takeQ 3 rfl (by kernel_rfl) rfl (by kernel_rfl) fun K hK => ?_
                      simp only [List.getElem_toArray, List.getElem_cons_zero, List.getElem_cons_succ]
                      go_big_quiet_op
                      refine hK _ ?_
                      clear hK K
                      refine takeQ 4 rfl (by kernel_rfl) rfl (by kernel_rfl) fun K hK => ?_
                      simp only [List.getElem_toArray, List.getElem_cons_zero, List.getElem_cons_succ]
                      go_big_quiet_op
                      refine hK _ ?_
                      clear hK K
                      refine takeQ 5 rfl (by kernel_rfl) rfl (by kernel_rfl) fun K hK => ?_
                      simp only [List.getElem_toArray, List.getElem_cons_zero, List.getElem_cons_succ]
                      go_big_quiet_op
                      refine hK _ ?_
                      clear hK K
                      refine convT 6 rfl (by kernel_rfl) (by kernel_rfl) rfl rfl 0 rfl (by kernel_rfl) _ (fun w' hf => by (subst hf; exact hcv2)) ?_
                      simp only [Act.put, List.getElem_toArray, List.getElem_cons_zero, List.getElem_cons_succ, List.setIfInBounds_toArray, List.set_cons_zero, List.set_cons_succ]
                      refine takeQ 7 rfl (by kernel_rfl) rfl (by kernel_rfl) fun K hK => ?_
                      simp only [List.getElem_toArray, List.getElem_cons_zero, List.getElem_cons_succ]
                      go_big_quiet_op
                      refine hK _ ?_
                      clear hK K
                      refine takeQ 8 rfl (by kernel_rfl) rfl (by kernel_rfl) fun K hK => ?_
                      simp only [List.getElem_toArray, List.getElem_cons_zero, List.getElem_cons_succ]
                      go_big_quiet_op
                      refine hK _ ?_
                      clear hK K
                      refine stepQ 9 rfl (by kernel_rfl) (by decide) (by kernel_rfl) fun K hK => ?_
                      simp only [List.getElem_toArray, List.getElem_cons_zero, List.getElem_cons_succ]
                      go_simp
                      refine (known15 _).mono ?_
                      rintro e w5 ⟨rfl, hb5⟩
                      refine hK _ _ ⟨⟨fun hh => by simp at hh, trivial⟩, ?_⟩
                      clear hK K
                      try simp only [Act.put, List.getElem_toArray, List.getElem_cons_zero, List.getElem_cons_succ, List.setIfInBounds_toArray, List.set_cons_zero, List.set_cons_succ]
                      refine takeQ 10 rfl (by kernel_rfl) rfl (by kernel_rfl) fun K hK => ?_
                      simp only [List.getElem_toArray, List.getElem_cons_zero, List.getElem_cons_succ]
                      go_big_quiet_op
                      refine hK _ ?_
                      clear hK K
                      refine takeQ 11 rfl (by kernel_rfl) rfl (by kernel_rfl) fun K hK => ?_
                      simp only [List.getElem_toArray, List.getElem_cons_zero, List.getElem_cons_succ]
                      go_big_quiet_op
                      refine hK _ ?_
                      clear hK K
                      refine doneQ (by kernel_rfl) (hKQ.out _ _ ?_)
                      clear hKQ KQ
                      go_wp2
                      go_ret
                      exact ⟨rfl, hbelF.trans (hb5.mono hbelF.size)⟩
end Go.Proofs.Ytjgflihokbmhiaa
