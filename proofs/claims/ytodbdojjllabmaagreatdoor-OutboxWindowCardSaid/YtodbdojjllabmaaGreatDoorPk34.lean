/- The calls of a law, in memory; are they few? · OutboxWindow: maps of IDs; what a round of the check needs. -/
import Derived.Test.YtodbdojjllabmaaGreatDoorPk33
import Derived.Deep.QuietTactic
import Derived.BigQuiet
namespace Go.Proofs.YtodbdojjllabmaaGreatDoor
open Go.RowKit Go.Shelf

/-- Calls in memory. -/
structure ActsAt (w : World) (a : Option Addr) (n cap : Nat) (xs : List ActV) : Prop where
  len : xs.length = n
  le : n ≤ cap
  max : cap ≤ maxLen
  at' : ∀ i x, xs[i]? = some x → ∃ g off, a = some ⟨g, off, none⟩ ∧ g < w.heap.size ∧ w.rangeAt g (off + i * 7) x.cells.toList
theorem range_below {w w' : World} {g o : Nat} {cs : List Value} (h : w.rangeAt g o cs) (hg : g < w.heap.size) (hb : Below w.heap.size w w') : w'.rangeAt g o cs := fun j v hj => by
  have := h j v hj
  rw [← this]
  exact hb.cell (p := ⟨g, o + j, none⟩) hg
theorem ActsAt.below {w w' : World} {a : Option Addr} {n cap : Nat} {xs : List ActV} (h : ActsAt w a n cap xs) (hb : Below w.heap.size w w') : ActsAt w' a n cap xs :=
  ⟨h.len, h.le, h.max, fun i x hx => by
    obtain ⟨g, off, h1, h2, h3⟩ := h.at' i x hx
    exact ⟨g, off, h1, Nat.lt_of_lt_of_le h2 hb.size, range_below h3 h2 hb⟩⟩
def FewOk (x : ActV) : Prop := x.topic.length ≤ 3000 ∧ x.body.length ≤ 3000

def FewPost (w : World) (n : Nat) (most : Int) (xs : List ActV) (e : Ending) (w' : World) : Prop := ∃ b, e = .returned (.bool b) ∧ (b = true → (n : Int) ≤ most ∧ ∀ x ∈ xs, FewOk x) ∧ Below w.heap.size w w'
theorem few_no {w w' : World} {n : Nat} {most : Int} {xs : List ActV} {e : Ending} (he : e = .returned (.bool false)) (hb : Below w.heap.size w w') : FewPost w n most xs e w' := ⟨false, he, fun h => (by cases h), hb⟩
theorem few_yes {w w' : World} {n : Nat} {most : Int} {xs : List ActV} {e : Ending} (he : e = .returned (.bool true)) (h : (n : Int) ≤ most ∧ ∀ x ∈ xs, FewOk x) (hb : Below w.heap.size w w') : FewPost w n most xs e w' := ⟨true, he, fun _ => h, hb⟩
set_option maxRecDepth 100000 in
set_option maxHeartbeats 2000000 in
theorem law_few (most : Int) (a : Option Addr) (n cap : Nat) (xs : List ActV) (w : World) (h : ActsAt w a n cap xs) (hm : 0 ≤ most ∧ most ≤ 1000) :
    Calls Tryz.prog 17 #[.slice a n cap, .int .i64 most] w (FewPost w n most xs) := by
  have H := hid h
  have hmax : n ≤ maxLen := Nat.le_trans h.le h.max
  unfold maxLen at hmax
  clear h
  go_enter Tryz.func17, Tryz.ntmps17
  go_wp2
  go_loopw [5, 6] (fun s i wr => ∃ (k : Nat) (z : Int), s = .int .i64 z ∧ i = .int .i64 k ∧ k ≤ n ∧ 0 ≤ z ∧ z ≤ 12000 ∧ Hid (Below w.heap.size w wr) ∧ Hid (∀ j x, j < k → xs[j]? = some x → FewOk x)) (fun _ i _ => n - (intOf i).toNat)
  case atStart => exact ⟨0, 0, rfl, rfl, Nat.zero_le _, Int.le_refl _, by omega, hid (Below.refl _ _), hid fun j x hj => absurd hj (Nat.not_lt_zero _)⟩
  case round =>
    obtain ⟨k, z, rfl, rfl, hk, hz0, hz1, hb, hok⟩ := hrel
    rcases Nat.lt_or_ge k n with hlt | hge
    · have dk : decide ((k : Int) < (n : Int)) = true := decide_eq_true (by omega)
      by_cases hkm : (k : Int) ≤ most
      · have dm : decide ((k : Int) ≤ most) = true := decide_eq_true hkm
        by_cases hz : z ≤ 5000
        · have dz : decide (z ≤ 5000) = true := decide_eq_true hz
          obtain ⟨x, hx⟩ : ∃ x, xs[k]? = some x := ⟨_, List.getElem?_eq_getElem (by have := H.out.len; omega)⟩
          obtain ⟨g, off, rfl, hg, hr⟩ := (H.out.below hb.out).at' k x hx
          have t2 : wr.cell? ⟨g, off + k * 7 + 2, none⟩ = some (.string ⟨x.topic.toArray⟩) := hr 2 _ rfl
          have t3 : wr.cell? ⟨g, off + k * 7 + 3, none⟩ = some (.string ⟨x.body.toArray⟩) := hr 3 _ rfl
          have hcl := H.out.le
          by_cases l1 : x.topic.length ≤ 3000
          · have e1 : decide ((3000 : Int) < (x.topic.length : Int)) = false := decide_eq_false (by omega)
            by_cases l2 : x.body.length ≤ 3000
            · have e2 : decide ((3000 : Int) < (x.body.length : Int)) = false := decide_eq_false (by omega)
              go_wp2
              go_quiet (fail)
              go_wp2
              have hb2 := hid (hb.out.trans ((below_drewN' wr nq).mono hb.out.size))
              go_roundw
              case rel => exact ⟨k + 1, z + x.topic.length + x.body.length, by go_num, by go_num, by omega, by omega, by omega, hb2, hid fun j y hj hy => by
                rcases Nat.lt_or_ge j k with h1 | h1
                · exact hok.out j y h1 hy
                · obtain rfl : j = k := by omega
                  rw [hx] at hy
                  cases hy
                  exact ⟨l1, l2⟩⟩
              case measure => simp [intOf]; omega
            · have e2 : decide ((3000 : Int) < (x.body.length : Int)) = true := decide_eq_true (by omega)
              go_wp2
              go_ret
              exact few_no rfl hb.out
          · have e1 : decide ((3000 : Int) < (x.topic.length : Int)) = true := decide_eq_true (by omega)
            go_wp2
            go_ret
            exact few_no rfl hb.out
        · have dz : decide (z ≤ 5000) = false := decide_eq_false hz
          go_wp2
          all_goals (go_ret; exact few_no rfl hb.out)
      · have dm : decide ((k : Int) ≤ most) = false := decide_eq_false hkm
        have dn : decide ((n : Int) ≤ most) = false := decide_eq_false (by omega)
        go_wp2
        go_ret
        exact few_no rfl hb.out
    · obtain rfl : k = n := by omega
      have dk : decide ((k : Int) < (k : Int)) = false := by simp
      have hall := hid fun (h : (k : Int) ≤ most) => (⟨h, fun x hx => by
        obtain ⟨j, hj⟩ := List.getElem?_of_mem hx
        have := (List.getElem?_eq_some_iff.1 hj).1
        exact hok.out j x (by have := H.out.len; omega) hj⟩ : (k : Int) ≤ most ∧ ∀ x ∈ xs, FewOk x)
      by_cases hkm : (k : Int) ≤ most
      · have dm : decide ((k : Int) ≤ most) = true := decide_eq_true hkm
        by_cases hz : z ≤ 5000
        · have dz : decide (z ≤ 5000) = true := decide_eq_true hz
          go_wp2
          go_ret
          exact few_yes rfl (hall.out hkm) hb.out
        · have dz : decide (z ≤ 5000) = false := decide_eq_false hz
          go_wp2
          go_ret
          exact few_no rfl hb.out
      · have dm : decide ((k : Int) ≤ most) = false := decide_eq_false hkm
        go_wp2
        go_ret
        exact few_no rfl hb.out
end Go.Proofs.YtodbdojjllabmaaGreatDoor
namespace Go.Proofs.YtodbdojjllabmaaGreatDoor
open Go.RowKit Go.Shelf Go.MapKept Go.ChangeMaps

theorem wpList_update_new {P : Program} (w : World) {ops : Array Oper} {rest : List Oper} {o : Oper} {a : Act} {Q : Exit → Act → World → Prop}
    (hg : o.guard = none) (m x v : Operand) (t : TypeId) (hop : o.op = Op.mapUpdate t m x v)
    (k e : TypeId) (q : IntKind) (ht : P.underlying t = some (.map k e)) (hk : P.underlying k = some (.int q)) (b : Nat) (es : Array MapEntry) (clock : Nat)
    (hm : a.eval m = .map (some b)) (hb : w.heap[b]? = some (.map es clock)) (n : Int) (val : Value) (hx : a.eval x = .int q n) (hv : a.eval v = val)
    (hn : ∀ x : MapEntry, x ∈ es.toList → ∃ a, x.key = .int q a ∧ a ≠ n)
    (hK : ∀ w', w'.heap[b]? = some (.map (putE es (.int q n) val clock) (clock + 1)) → w.grownBy w' (some b) → wpList P ops Q rest (a.put o.dst undef) w') :
    wpList P ops Q (o :: rest) a w := by
  refine wpList_plain hg fun K' hK' => ?_
  have hrun := run_mapUpdate_new t k e q ht hk w b es clock hb n hn val
  unfold Oper.wp
  simp [execOp, hop, hm, hx, hv, hrun, Result.andThen]
  refine hK' _ _ (hK _ ?_ ?_)
  · have : b < w.heap.size := by rcases Nat.lt_or_ge b w.heap.size with h | h; exact h; rw [Array.getElem?_eq_none h] at hb; cases hb
    simp [setBlock, this]
  · exact World.mapTurned.grown ⟨es, clock, _, _, hb, rfl⟩

/-- The keys of a map are IDs that are under way ahead of a place. -/
def KeysOf (es : Array MapEntry) (l : List RowV) : Prop := ∀ x ∈ es.toList, ∃ a, x.key = .int .i64 a ∧ ∃ r ∈ l, r.stage ≠ 1 ∧ r.id = a
theorem KeysOf.nil (l : List RowV) : KeysOf #[] l := fun x hx => by cases hx
theorem KeysOf.push {es : Array MapEntry} {l : List RowV} (h : KeysOf es l) (r : RowV) (hs : r.stage ≠ 1) (v : Value) (c : Nat) : KeysOf (putE es (.int .i64 r.id) v c) (l ++ [r]) := fun x hx => by
  unfold putE at hx
  rw [Array.toList_push] at hx
  rcases List.mem_append.1 hx with hx | hx
  · obtain ⟨a, h1, r', h2, h3⟩ := h x hx
    exact ⟨a, h1, r', by simp [h2], h3⟩
  · simp at hx
    subst hx
    exact ⟨r.id, rfl, r, by simp, hs, rfl⟩
theorem KeysOf.more {es : Array MapEntry} {l : List RowV} (h : KeysOf es l) (r : RowV) : KeysOf es (l ++ [r]) := fun x hx => by
  obtain ⟨a, h1, r', h2, h3⟩ := h x hx
  exact ⟨a, h1, r', by simp [h2], h3⟩
theorem take_snoc {l : List RowV} {j : Nat} {r : RowV} (hr : l[j]? = some r) : l.take (j + 1) = l.take j ++ [r] := by rw [List.take_add_one, hr]; rfl
theorem ids_new {l : List RowV} (hnd : (idsOf l).Nodup) {j : Nat} {r : RowV} (hr : l[j]? = some r) (h1 : r.stage ≠ 1) : ∀ r' ∈ l.take j, r'.stage ≠ 1 → r'.id ≠ r.id := by
  intro r' hr' h2 he
  have hsub : (l.take (j + 1)).Sublist l := List.take_sublist _ _
  have h3 : (idsOf (l.take (j + 1))).Nodup := hnd.sublist ((hsub.filter _).map _)
  rw [take_snoc hr] at h3
  unfold idsOf at h3
  rw [List.filter_append, List.map_append, List.nodup_append] at h3
  have a1 : r'.id.toNat ∈ (List.filter (fun r => decide (r.stage ≠ 1)) (l.take j)).map fun r => r.id.toNat := List.mem_map.2 ⟨r', List.mem_filter.2 ⟨hr', by simpa using h2⟩, rfl⟩
  have a2 : r.id.toNat ∈ (List.filter (fun r => decide (r.stage ≠ 1)) [r]).map fun r => r.id.toNat := List.mem_map.2 ⟨r, List.mem_filter.2 ⟨by simp, by simpa using h1⟩, rfl⟩
  exact h3.2.2 _ a1 _ a2 (by rw [he])
theorem KeysOf.not {es : Array MapEntry} {l : List RowV} {j : Nat} {r : RowV} (h : KeysOf es (l.take j)) (hnd : (idsOf l).Nodup) (hr : l[j]? = some r) (h1 : r.stage ≠ 1) : ∀ x ∈ es.toList, ∃ a, x.key = .int .i64 a ∧ a ≠ r.id := fun x hx => by
  obtain ⟨a, e, r', h2, h3, h4⟩ := h x hx
  exact ⟨a, e, fun he => ids_new hnd hr h1 r' h2 h3 (h4.trans he)⟩
def under (l : List RowV) (j : Nat) : Int := ((idsOf (l.take j)).length : Nat)
theorem under_queued {l : List RowV} {j : Nat} {r : RowV} (hr : l[j]? = some r) (h : r.stage = 1) : under l (j + 1) = under l j := by
  unfold under
  rw [take_snoc hr]
  simp [idsOf, h]
theorem under_more {l : List RowV} {j : Nat} {r : RowV} (hr : l[j]? = some r) (h : r.stage ≠ 1) : under l (j + 1) = under l j + 1 := by
  unfold under
  rw [take_snoc hr]
  simp [idsOf, h]
theorem under_all (l : List RowV) : under l l.length = ((idsOf l).length : Nat) := by unfold under; rw [List.take_length]
theorem under_le (l : List RowV) (j : Nat) : 0 ≤ under l j ∧ under l j ≤ l.length := by
  unfold under
  have h1 : (idsOf (l.take j)).length ≤ (l.take j).length := by unfold idsOf; rw [List.length_map]; exact List.length_filter_le _ _
  have h2 : (l.take j).length ≤ l.length := by rw [List.length_take]; exact Nat.min_le_right _ _
  omega
theorem Rg.rise {l : List RowV} {q : Int} (h : Rg l q) {j : Nat} {r r' : RowV} (hr : l[j]? = some r) (hr' : l[j + 1]? = some r') : r.seq < r'.seq := by
  have h0 := List.pairwise_iff_getElem.1 h.sorted j (j + 1) (by rw [List.length_map]; have := (List.getElem?_eq_some_iff.1 hr).1; exact this) (by rw [List.length_map]; exact (List.getElem?_eq_some_iff.1 hr').1) (Nat.lt_succ_self j)
  rw [List.getElem_map, List.getElem_map] at h0
  obtain ⟨_, e1⟩ := List.getElem?_eq_some_iff.1 hr
  obtain ⟨_, e2⟩ := List.getElem?_eq_some_iff.1 hr'
  rw [e1, e2] at h0
  exact h0
theorem RowV.cllen (r : RowV) : r.cl.length = 9 := rfl
end Go.Proofs.YtodbdojjllabmaaGreatDoor
