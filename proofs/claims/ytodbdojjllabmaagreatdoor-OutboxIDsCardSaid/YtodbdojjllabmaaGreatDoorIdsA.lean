/- OutboxIDs, plainly: IDs go round. -/
import Derived.Test.YtodbdojjllabmaaGreatDoorOutR
namespace Go.Proofs.YtodbdojjllabmaaGreatDoor
open Go.RowKit Go.Shelf

def iRow (j : Nat) : RowV := ⟨3, [99], j, 0, [116], [98], 1, false, 1⟩
def iSent (id : Int) (j : Nat) : RowV := (iRow j).sent (itN j id)
/-- Behind i puts. -/
def iPuts (id : Int) (i : Nat) : OS := ⟨[99], 20, 50, i, id, (List.range i).map iRow⟩
theorem iPuts_succ (id : Int) (i : Nat) : (iPuts id i).put ((iPuts id i).row [116] [98] 1 false) = iPuts id (i + 1) := by
  simp [iPuts, OS.put, OS.row, iRow, List.range_succ]
theorem itN_range (k : Nat) (z : Int) (h : 1 ≤ z ∧ z ≤ 65535) : 1 ≤ itN k z ∧ itN k z ≤ 65535 := by
  rw [itN_eq k z h]
  have q3 : 0 ≤ (z - 1 + k) % 65535 := Int.emod_nonneg _ (by omega)
  have q4 : (z - 1 + k) % 65535 < 65535 := Int.emod_lt_of_pos _ (by omega)
  omega
theorem itN_succ (k : Nat) (z : Int) (h : 1 ≤ z ∧ z ≤ 65535) : itN (k + 1) z = itN k z % 65535 + 1 := by
  rw [itN_eq _ z h, itN_eq _ z h]
  omega
theorem itN_inj (i j : Nat) (z : Int) (h : 1 ≤ z ∧ z ≤ 65535) (hi : i < 65535) (hj : j < 65535) (he : (itN i z).toNat = (itN j z).toNat) : i = j := by
  have h1 := itN_range i z h
  have h2 := itN_range j z h
  have : itN i z = itN j z := by omega
  rw [itN_eq i z h, itN_eq j z h] at this
  omega
/-- The rows, i of them sent. -/
def iRows (id : Int) (n i : Nat) : List RowV := (List.range n).map fun j => if j < i then iSent id j else iRow j
def iMid (id : Int) (n i : Nat) : SS := ⟨⟨[99], 20, 50, n, itN i id, iRows id n i⟩, (List.range i).map fun j => (iSent id j).pub false, (List.range i).map fun j => ⟨false, iSent id j⟩⟩
theorem iRows_get (id : Int) (n i j : Nat) (hj : j < n) : (iRows id n i)[j]? = some (if j < i then iSent id j else iRow j) := by simp [iRows, hj]
theorem iRows_ids (id : Int) (n i : Nat) (hi : i ≤ n) : idsOf (iRows id n i) = (List.range i).map fun j => (itN j id).toNat := by
  have e : List.range n = List.range i ++ (List.range (n - i)).map (i + ·) := by
    have := List.range_add (n := i) (m := n - i)
    rwa [show i + (n - i) = n by omega] at this
  unfold idsOf iRows
  rw [e, List.map_append, List.filter_append, List.map_append]
  have h1 : ((List.range i).map fun j => if j < i then iSent id j else iRow j) = (List.range i).map (iSent id) := by
    apply List.map_congr_left
    intro j hj
    simp at hj
    simp [hj]
  have h2 : (((List.range (n - i)).map (i + ·)).map fun j => if j < i then iSent id j else iRow j) = (List.range (n - i)).map fun j => iRow (i + j) := by
    rw [List.map_map]
    apply List.map_congr_left
    intro j hj
    have hji : ¬ (i + j < i) := by omega
    simp only [Function.comp_def, if_neg hji]
  rw [h1, h2]
  have h3 : ((List.range i).map (iSent id)).filter (fun r => decide (r.stage ≠ 1)) = (List.range i).map (iSent id) := by
    rw [List.filter_eq_self]
    intro r hr
    simp at hr
    obtain ⟨j, _, rfl⟩ := hr
    simp [iSent, RowV.sent]
  have h4 : ((List.range (n - i)).map fun j => iRow (i + j)).filter (fun r => decide (r.stage ≠ 1)) = [] := by
    rw [List.filter_eq_nil_iff]
    intro r hr
    simp at hr
    obtain ⟨j, _, rfl⟩ := hr
    simp [iRow]
  rw [h3, h4]
  simp [iSent, RowV.sent, List.map_map, Function.comp_def]
theorem firstI_self (k : Nat) (z : Int) (ids : List Nat) (h : z.toNat ∉ ids) : firstI k z ids = z := by
  cases k with
  | zero => rfl
  | succ k => unfold firstI; rw [if_neg h]
theorem iMid_step (id : Int) (n i : Nat) (h : 1 ≤ id ∧ id ≤ 65535) (hn : n ≤ 20) (hi : i < n) : (iMid id n i).send i = iMid id n (i + 1) := by
  unfold SS.send
  have hids : idsOf (iMid id n i).s.l = (List.range i).map fun j => (itN j id).toNat := iRows_ids id n i (by omega)
  have hlen : (idsOf (iMid id n i).s.l).length = i := by rw [hids]; simp
  have hnot : (itN i id).toNat ∉ idsOf (iMid id n i).s.l := by
    rw [hids]
    simp
    intro j hj he
    have := itN_inj j i id h (by omega) (by omega) he
    omega
  rw [if_neg (by rw [hlen]; show ¬ ((20 : Int) ≤ i); omega)]
  have hg : (iMid id n i).s.l[i]? = some (iRow i) := by
    have := iRows_get id n i i hi
    simpa [iMid] using this
  rw [hg]
  simp only
  have hf : firstI (idsOf (iMid id n i).s.l).length (iMid id n i).s.id (idsOf (iMid id n i).s.l) = itN i id := firstI_self _ _ _ hnot
  rw [hf]
  have hset : (iMid id n i).s.l.set i ((iRow i).sent (itN i id)) = iRows id n (i + 1) := by
    apply List.ext_getElem?
    intro j
    rcases Nat.lt_or_ge j n with hj | hj
    · rw [iRows_get id n (i + 1) j hj]
      by_cases e : j = i
      · subst e
        rw [List.getElem?_set_self (by simp [iMid, iRows]; exact hj)]
        simp [iSent]
      · rw [List.getElem?_set_ne (Ne.symm e)]
        show (iRows id n i)[j]? = _
        rw [iRows_get id n i j hj]
        have : (j < i) = (j < i + 1) := by apply propext; omega
        simp [this]
    · rw [List.getElem?_eq_none (by simp [iMid, iRows]; exact hj), List.getElem?_eq_none (by simp [iRows]; exact hj)]
  rw [hset]
  simp [iMid, itN_succ i id h, iSent, List.range_succ]
theorem waitQ_all (st : Nat → Int) (n : Nat) (h : ∀ j, j < n → st j = 1) : waitQ st n = List.range n := by
  unfold waitQ
  rw [List.filter_eq_self]
  intro j hj
  simp at hj
  simp [h j hj]
theorem iSends (id : Int) (n : Nat) (h : 1 ≤ id ∧ id ≤ 65535) (hn : n ≤ 20) : (iPuts id n).start.all = iMid id n n := by
  have h0 : (iPuts id n).start = iMid id n 0 := by
    simp [OS.start, iPuts, iMid, itN, iRows]
  have hst : ∀ j, j < n → stOf (iPuts id n).start.s.l j = 1 := by
    intro j hj
    simp [stOf, OS.start, iPuts, hj, iRow]
  unfold SS.all
  rw [waitQ_all _ _ (by simpa [OS.start, iPuts] using hst), h0]
  have hl : (iMid id n 0).s.l.length = n := by simp [iMid, iRows]
  rw [hl]
  have : ∀ i, i ≤ n → (iMid id n 0).sends (List.range i) = iMid id n i := by
    intro i
    induction i with
    | zero => intro _; rfl
    | succ i ih =>
      intro hi
      rw [List.range_succ, SS.sends_snoc, ih (by omega), iMid_step id n i h hn (by omega)]
  exact this n (Nat.le_refl n)

/-- All sent. -/
def iAll (id : Int) (n : Nat) : OS := ⟨[99], 20, 50, n, itN n id, iRows id n n⟩
theorem iAll_get (id : Int) (n j : Nat) (hj : j < n) : (iRows id n n)[j]? = some (iSent id j) := by rw [iRows_get id n n j hj, if_pos hj]
/-- One is answered. -/
def iOne (id : Int) (n k : Nat) : OS := ⟨[99], 20, 50, n, itN n id, (iRows id n n).eraseIdx k⟩
theorem iRows_len (id : Int) (n i : Nat) : (iRows id n i).length = n := by simp [iRows]
theorem iAck (id : Int) (n k : Nat) (h : 1 ≤ id ∧ id ≤ 65535) (hn : n ≤ 20) (hk : k < n) : (iAll id n).start.ack (itN k id) = ⟨iOne id n k, [], [⟨true, iSent id k⟩]⟩ := by
  have hx : idxOf (RowV.has (itN k id)) (iRows id n n) = k := by
    refine idxOf_at _ _ k (by rw [iRows_len]; exact hk) (fun j hj => ?_) ?_
    · have h1 := List.getElem_eq_iff (h := by rw [iRows_len]; omega) |>.2 (iAll_get id n j (by omega))
      rw [h1]
      have : itN j id ≠ itN k id := fun e => by have := itN_inj j k id h (by omega) (by omega) (by rw [e]); omega
      simp [RowV.has, iSent, RowV.sent, this]
    · have h1 := List.getElem_eq_iff (h := by rw [iRows_len]; omega) |>.2 (iAll_get id n k hk)
      rw [h1]
      simp [RowV.has, iSent, RowV.sent]
  unfold SS.ack
  have e : (iAll id n).start.s.l = iRows id n n := rfl
  rw [e, hx]
  have hg : (iAll id n).start.s.l[k]? = some (iSent id k) := iAll_get id n k hk
  unfold SS.goneAt
  rw [if_neg (by omega)]
  simp only [Int.toNat_natCast]
  unfold SS.goneIf SS.gone
  rw [hg]
  simp [iSent, RowV.sent, iRow, OS.start, iAll, iOne]
theorem all_none (x : SS) (h : ∀ r ∈ x.s.l, r.stage ≠ 1) : x.all = x := by
  have : waitQ (stOf x.s.l) x.s.l.length = [] := by
    unfold waitQ
    rw [List.filter_eq_nil_iff]
    intro j hj
    simp at hj
    have hm := h _ (List.getElem_mem hj)
    simp [stOf, hj, hm]
  unfold SS.all
  rw [this]
  rfl
theorem iRows_sent (id : Int) (n : Nat) : ∀ r ∈ iRows id n n, r.stage ≠ 1 ∧ ∃ j, j < n ∧ r = iSent id j := by
  intro r hr
  simp [iRows] at hr
  obtain ⟨j, hj, rfl⟩ := hr
  rw [if_pos hj]
  exact ⟨by simp [iSent, RowV.sent], j, hj, rfl⟩
theorem iOne_all (id : Int) (n k : Nat) (ps : List PackV) (cs : List ChangeV) : (SS.mk (iOne id n k) ps cs).all = SS.mk (iOne id n k) ps cs :=
  all_none _ (fun r hr => (iRows_sent id n r (List.mem_of_mem_eraseIdx hr)).1)
theorem iOne_len (id : Int) (n k : Nat) (hk : k < n) : (iOne id n k).l.length = n - 1 := by simp [iOne, List.length_eraseIdx, iRows_len, hk]
/-- One more is put. -/
def iLast (id : Int) (n k : Nat) : OS := ⟨[99], 20, 50, n + 1, itN n id, (iRows id n n).eraseIdx k ++ [iRow n]⟩
theorem iOne_put (id : Int) (n k : Nat) : (iOne id n k).put ((iOne id n k).row [116] [98] 1 false) = iLast id n k := by
  simp [iOne, OS.put, OS.row, iRow, iLast]
theorem iLast_ps (id : Int) (n k : Nat) (h : 1 ≤ id ∧ id ≤ 65535) (hn : n ≤ 20) (hk : k < n) : (iLast id n k).start.all.ps = [((iRow n).sent (itN n id)).pub false] := by
  have hl : ((iRows id n n).eraseIdx k).length = n - 1 := iOne_len id n k hk
  have hsent : ∀ r ∈ (iRows id n n).eraseIdx k, r.stage ≠ 1 ∧ ∃ j, j < n ∧ r = iSent id j := fun r hr => iRows_sent id n r (List.mem_of_mem_eraseIdx hr)
  have hL : (iLast id n k).start.s.l = (iRows id n n).eraseIdx k ++ [iRow n] := rfl
  have hq : waitQ (stOf (iLast id n k).start.s.l) (iLast id n k).start.s.l.length = [n - 1] := by
    rw [hL]
    have e1 : ((iRows id n n).eraseIdx k ++ [iRow n]).length = (n - 1) + 1 := by simp [hl]
    rw [e1, waitQ_succ]
    have e2 : waitQ (stOf ((iRows id n n).eraseIdx k ++ [iRow n])) (n - 1) = [] := by
      unfold waitQ
      rw [List.filter_eq_nil_iff]
      intro j hj
      simp only [List.mem_range] at hj
      have hj2 : j < ((iRows id n n).eraseIdx k).length := by omega
      have hm := (hsent _ (List.getElem_mem hj2)).1
      have : ((iRows id n n).eraseIdx k ++ [iRow n])[j]? = some (((iRows id n n).eraseIdx k)[j]'hj2) := by rw [List.getElem?_append_left hj2]; exact List.getElem?_eq_getElem hj2
      simp [stOf, this, hm]
    have e3 : stOf ((iRows id n n).eraseIdx k ++ [iRow n]) (n - 1) = 1 := by
      have : ((iRows id n n).eraseIdx k ++ [iRow n])[n - 1]? = some (iRow n) := by rw [List.getElem?_append_right (by omega), hl]; simp
      unfold stOf
      rw [this]
      rfl
    rw [e2, e3]
    simp
  have hids : idsOf (iLast id n k).start.s.l = idsOf ((iRows id n n).eraseIdx k) := by rw [hL]; exact idsOf_push _ _ rfl
  have hidl : (idsOf ((iRows id n n).eraseIdx k)).length ≤ n - 1 := by
    unfold idsOf
    rw [List.length_map]
    have := List.length_filter_le (fun r : RowV => decide (r.stage ≠ 1)) ((iRows id n n).eraseIdx k)
    omega
  have hnot : (itN n id).toNat ∉ idsOf ((iRows id n n).eraseIdx k) := by
    intro hm
    unfold idsOf at hm
    simp only [List.mem_map, List.mem_filter] at hm
    obtain ⟨r, ⟨hr, _⟩, he⟩ := hm
    obtain ⟨_, j, hj, rfl⟩ := hsent r hr
    have he' : (itN j id).toNat = (itN n id).toNat := he
    have := itN_inj j n id h (by omega) (by omega) he'
    omega
  unfold SS.all
  rw [hq]
  show ((iLast id n k).start.send (n - 1)).ps = _
  unfold SS.send
  rw [hids, if_neg (by show ¬ ((20 : Int) ≤ _); omega)]
  have hg : (iLast id n k).start.s.l[n - 1]? = some (iRow n) := by rw [hL, List.getElem?_append_right (by omega), hl]; simp
  rw [hg]
  have hf : firstI (idsOf ((iRows id n n).eraseIdx k)).length (iLast id n k).start.s.id (idsOf ((iRows id n n).eraseIdx k)) = itN n id := firstI_self _ _ _ hnot
  simp only [hf]
  simp [OS.start]
end Go.Proofs.YtodbdojjllabmaaGreatDoor
