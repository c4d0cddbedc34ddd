/- Parts of the proof of ScriptSame: contracts of functions that it reaches, and plain lemmas. No condition of their own. -/
import Derived.Test.YtkghejaimhoboaaGreatDoorPk31
import Derived.Test.YtkghejaimhoboaaGreatDoorPk32
import Derived.Test.YtkghejaimhoboaaGreatDoorPk33
import Derived.Test.YtkghejaimhoboaaGreatDoorPk01
import Derived.Test.YtkghejaimhoboaaGreatDoorProg
import Derived.Test.YtkghejaimhoboaaGreatDoorPk05
import Derived.Test.YtkghejaimhoboaaGreatDoorPk17
import Derived.Test.YtkghejaimhoboaaGreatDoorPk26
import Derived.Deep.CutRange
import Derived.Test.YtkghejaimhoboaaGreatDoorPk24
set_option linter.unusedSimpArgs false
set_option linter.unusedVariables false
set_option maxRecDepth 100000
set_option maxHeartbeats 8000000
namespace Go.Proofs.YtkghejaimhoboaaGreatDoor
open Go.RowKit Go.Shelf
section
attribute [local go_sem] Oper.semAt_some
structure FewP (w : World) (e : Ending) (w' : World) : Prop where
 out : ∃ b : Bool, e = .returned (.bool b) /\ Below w.heap.size w w'
theorem law28_few (s : ScC) (most : Int) (w : World) (hs : s.In w) : Calls Tryz.prog 12 #[.agg s.cells.toArray, .int .i64 most] w (FewP w) := by
 obtain ⟨sv, hsv⟩ : ∃ sv, s.cells.toArray = sv := ⟨_, rfl⟩
 obtain ⟨W0, hW0⟩ : ∃ W0, w.alloc (.cells sv 30) = W0 := ⟨_, rfl⟩
 have hb0 : Hid (Below w.heap.size w W0) := hid (by rw [<- hW0]; exact (Below.refl _ _).alloc (Nat.le_refl _) _)
 have hB : Hid (Blk W0 w.heap.size s.cells.toArray 30) := hid (by rw [<- hW0, <- hsv]; exact Blk.new _ _ _)
 have HL := hs.t.len
 have HS := hid hs;obtain ⟨n, hn⟩ : ∃ n, s.ht.n = n := ⟨_, rfl⟩
 obtain ⟨sa, hsa⟩ : ∃ a, s.ht.a = a := ⟨_, rfl⟩
 obtain ⟨sc, hsc⟩ : ∃ c, s.ht.c = c := ⟨_, rfl⟩
 have HN := hid (show s.ts.length = n by rw [HL, hn])
 have HS1 := hid (HS.out.t)
 rw [hn, hsa, hsc] at HS1
 have hK : Hid (∀ W, Below W0.heap.size W0 W -> W.cell? ⟨w.heap.size, 8, none⟩ = some (.slice sa n sc) /\ ∃ bs : ByteArray, W.cell? ⟨w.heap.size, 6, none⟩ = some (.string bs)) := hid fun W hb => by
  have h := hB.out.below hb
  rw [<- hn, <- hsa, <- hsc]
  exact ⟨h.cell 8, _, h.cell 6⟩
 clear hn hsa hsc HL hs;rw [hsv]
 replace hsv := hid hsv;have hM : n <= 9223372036854775807 := by have := HS1.out.le; have := HS1.out.max; unfold maxLen at this; omega
 go_enter Tryz.func12, Tryz.ntmps12
 go_wp2_with fail
 go_loopw [5, 6] (fun z i wr => ∃ (k : Nat) (y : Int), i = .int .i64 k /\ z = .int .i64 y /\ k <= n /\ Hid (Below W0.heap.size W0 wr)) (fun _ i _ => n - (intOf i).toNat)
 case atStart => exact ⟨0, 0, rfl, rfl, Nat.zero_le _, hid (by rw [<- hW0]; exact Below.refl _ _)⟩
 case round =>
  obtain ⟨k, y, rfl, rfl, hk1, hI⟩ := hrel
  obtain ⟨k8, bs, k6⟩ := hK.out _ hI.out
  have hF := hid (hb0.out.trans (hI.out.mono hb0.out.size))
  rcases Nat.lt_or_ge k n with hlt | hge
  ·obtain ⟨x, hx⟩ : ∃ x, s.ts[k]? = some x := ⟨_, List.getElem?_eq_getElem (by rw [HN.out]; exact hlt)⟩
   obtain ⟨g1, o1, ha1, hr1⟩ := HS1.out.range hx
   have hc1 := hr1 _ hF.out
   subst ha1;have hxin := hid (HS.out.each x (List.mem_of_getElem? hx))
   have ox := hid (Tn.one x.t x.h x.hp)
   obtain ⟨xc, hxc⟩ : ∃ xc, x.cells = xc := ⟨_, rfl⟩
   have sx : xc.toArray.size = 30 := by rw [<- hxc]; rfl
   have ox : Hid (∀ v ∈ xc.toArray.toList, v.oneCell' = true) := hid (by rw [<- hxc]; exact ox.out)
   rw [hxc] at hc1
   replace sx := hid sx
   obtain ⟨a1, n1, c1, a2, n2, c2, a3, n3, c3, a4, n4, c4, b1, b2, b3, b4, kc⟩ : ∃ a1 n1 c1 a2 n2 c2 a3 n3 c3 a4 n4 c4 b1 b2 b3 b4, Hid (∀ W b, Blk W b xc.toArray 55 -> W.cell? ⟨b, 23, none⟩ = some (.slice a1 n1 c1) /\ W.cell? ⟨b, 24, none⟩ = some (.slice a2 n2 c2) /\ W.cell? ⟨b, 25, none⟩ = some (.slice a3 n3 c3) /\ W.cell? ⟨b, 29, none⟩ = some (.slice a4 n4 c4)
     /\ W.cell? ⟨b, 26, none⟩ = some (.string b1) /\ W.cell? ⟨b, 7, none⟩ = some (.string b2) /\ W.cell? ⟨b, 6, none⟩ = some (.string b3) /\ W.cell? ⟨b, 9, none⟩ = some (.string b4)) :=
    ⟨_, _, _, _, _, _, _, _, _, _, _, _, _, _, _, _, hid fun W b hb => by simp only [hb.cell, <- hxc]; exact ⟨rfl, rfl, rfl, rfl, rfl, rfl, rfl, rfl⟩⟩
   have hi := hI.out.size
   go_upto_region 6 with (first
    | (refine wLm 55 rfl rfl hc1 Tryz.underlying55 ?_ rfl rfl (by rw [<- hxc]; kernel_rfl))
    | (refine wS 55 30 rfl _ _ _ rfl rfl (Blk.new _ _ _) sx.out rfl ox.out ?_; intro w5 hw5 hr5))
   have hb5 := hid ((hI.out.alloc hi _).trans (hr5.below (n₀ := W0.heap.size) (by simp; omega) (by simp; omega)))
   have hF5 := hid (hb0.out.trans (hb5.out.mono hb0.out.size))
   obtain ⟨u1, u2, u3, u4, u5, u6, u7, u8⟩ := kc.out _ _ hw5
   clear hw5 hr5 hc1;go_wp2
   all_goals first
    | (go_ret; exact ⟨_, rfl, hF5.out⟩)
    | (go_roundw
       ·exact ⟨k + 1, _, by go_num, rfl, by omega, hb5⟩
       ·simp [intOf]; omega)
  ·obtain rfl : k = n := by omega
   go_wp2
   all_goals (go_ret; exact ⟨_, rfl, hF.out⟩)
end
section
def IsRow (k : IntKind) (w : World) (a : Option Addr) (len cap : Nat) (zs : List Int) : Prop :=
 (a = none /\ len = 0 /\ cap = 0 /\ zs = []) \/
 ∃ x, a = some x /\ len <= cap /\ cap <= maxLen /\ zs.length = cap /\ (∀ i, i < zs.length -> w.cell? (x.add i) = some (.int k (zs.getD i 0))) /\ ∀ n ∈ zs, (Lit.int k n).wf = true
theorem IsRow.row {k : IntKind} {w : World} {a : Option Addr} {len cap : Nat} {zs : List Int} (h : IsRow k w a len cap zs) : RowAt w a len cap (ns k (zs.take len)) /\ ∀ n ∈ zs.take len, (Lit.int k n).wf = true := by
 rcases h with ⟨rfl, rfl, rfl, rfl⟩ | ⟨x, rfl, hl, hm, hz, hc, hwf⟩
 ·exact ⟨RowAt.empty w, by simp⟩
 ·refine ⟨⟨by simp [ns]; omega, hl, hm, (fun e => by cases e), fun i hi => ?_⟩, fun n hn => hwf n (List.mem_of_mem_take hn)⟩
  have h0 := hc i (by omega)
  obtain ⟨b, off, spot⟩ := x
  have hspot : spot = none := by
   have h1 := hc 0 (by omega)
   simpa [Addr.add] using World.cell?_spot h1
  subst hspot;refine ⟨b, off, rfl, ?_⟩
  have e1 : (ns k (zs.take len))[i]? = some (.int k (zs.getD i 0)) := by
   rw [ns_get k _ i (by simp; omega), List.getElem?_take_of_lt hi]
   rfl
  rw [e1, <- h0]
  by_cases h0 : i = 0
  ·subst h0; simp [Addr.add]
  ·simp [Addr.add, h0]
theorem IsRow.bytes {w : World} {a : Option Addr} {len cap : Nat} {zs : List Int} (h : IsRow .u8 w a len cap zs) : ∃ l : List UInt8, RowAt w a len cap (bs l) := by
 obtain ⟨h1, h2⟩ := h.row
 refine ⟨(zs.take len).map fun z => UInt8.ofNat z.toNat, ?_⟩
 have e : bs ((zs.take len).map fun z => UInt8.ofNat z.toNat) = ns .u8 (zs.take len) := by
  simp only [bs, ns, List.map_map]
  refine List.map_congr_left fun z hz => ?_
  have hw := h2 z hz
  simp only [Lit.wf, Bool.and_eq_true, decide_eq_true_eq] at hw
  have hmin : IntKind.u8.min = 0 := rfl
  have hmax : IntKind.u8.max = 255 := rfl
  simp only [Function.comp]
  congr 1
  rw [UInt8.toNat_ofNat']
  omega
 rw [e]; exact h1
end
section
theorem byteL_mod (m : Nat) : (byteL m).toNat % 128 = m % 128 := by
 have := byteL_int m
 split at this <;> omega
theorem byteL_lt (m : Nat) : (byteL m).toNat < 128 ↔ m < 128 := by
 have := byteL_int m
 split at this <;> omega
theorem rawL_cons (s m : Nat) : rawL (s + 1) m = byteL m :: rawL s (m / 128) := rfl
theorem takenL_raw (s m : Nat) (h : m < 128 ^ s) : takenL (rawL s m) = m := by
 induction s generalizing m with
 | zero => simp at h; subst h; rfl
 | succ s ih =>
  rw [rawL_cons, takenL, byteL_mod, ih (m / 128) (by rw [Nat.pow_succ] at h; omega)]
  omega
theorem idxOf_raw (k m : Nat) (t : List UInt8) (h : m < 128 ^ (k + 1)) (h2 : k = 0 \/ 128 ^ k <= m) : idxOf (fun x : UInt8 => decide (x.toNat < 128)) (rawL (k + 1) m ++ t) = k := by
 induction k generalizing m with
 | zero =>
  have h1 := (byteL_lt m).2 (by simpa using h)
  simp [rawL_cons, idxOf, h1]
 | succ k ih =>
  have hp : 128 ^ (k + 1) <= m := h2.resolve_left (by omega)
  rw [Nat.pow_succ] at hp h
  have hpos : 0 < 128 ^ k := Nat.pow_pos (by decide)
  have h128 : ¬ (byteL m).toNat < 128 := fun h1 => by have := (byteL_lt m).1 h1; omega
  have h3 := ih (m / 128) (by omega) (by omega)
  rw [rawL_cons (k + 1) m, List.cons_append, idxOf]
  simp only [h128, decide_false, h3]
  simp
  omega
theorem idxOf_takeL {α : Type} (p : α -> Bool) (l : List α) (k m : Nat) (h : idxOf p l = k) (hm : k < m) : idxOf p (l.take m) = k := by
 induction l generalizing k m with
 | nil => simp [idxOf] at h
 | cons x l ih =>
  cases m with
  | zero => omega
  | succ m =>
   simp only [List.take_succ_cons, idxOf] at h ⊢
   by_cases hp : p x = true
   ·simp only [hp, if_true] at h ⊢; exact h
   ·simp only [hp] at h ⊢
    have h1 := (idxOf_lt p l).2
    by_cases h0 : idxOf p l < 0
    ·simp [h0] at h
    ·simp only [h0] at h
     have h2 := ih (k - 1) m (by simp at h; omega) (by simp at h; omega)
     rw [h2]
     simp at h ⊢
     omega
theorem readL_raw (n : Int) (hm : mayL n = true) (t : List UInt8) : readL (rawL (sizeL n) n.toNat ++ t) = (n, (sizeL n : Int), 0) := by
 obtain ⟨h1, h2⟩ := (mayL_iff n).1 hm
 obtain ⟨m, rfl⟩ := Int.eq_ofNat_of_zero_le h1
 rw [Int.toNat_natCast]
 obtain ⟨k, hk, hk4, hlo, hhi⟩ : ∃ k, sizeL (m : Int) = k + 1 /\ k < 4 /\ (k = 0 \/ 128 ^ k <= m) /\ m < 128 ^ (k + 1) := by
  have h3 := sizeL_nat m (by omega)
  split at h3
  ·exact ⟨0, h3, by omega, .inl rfl, by simpa using by omega⟩
  ·split at h3
   ·exact ⟨1, h3, by omega, .inr (by simp; omega), by simp; omega⟩
   ·split at h3
    ·exact ⟨2, h3, by omega, .inr (by simp; omega), by simp; omega⟩
    ·exact ⟨3, h3, by omega, .inr (by simp; omega), by simp; omega⟩
 rw [hk]
 have e1 := idxOf_takeL _ _ k 4 (idxOf_raw k m t hhi hlo) hk4
 have e2 : (rawL (k + 1) m ++ t).take (k + 1) = rawL (k + 1) m := by
  rw [List.take_append_of_le_length (by rw [rawL_len]; exact Nat.le_refl _), List.take_of_length_le (by rw [rawL_len]; exact Nat.le_refl _)]
 unfold readL
 simp only [e1, Int.toNat_natCast, e2, takenL_raw (k + 1) m hhi, hk]
 rw [if_neg (by omega)]
 simp
end
section
theorem rawL_taken : ∀ (l : List UInt8) (k : Nat), l.length = k + 1 -> (∀ j, j < k -> ∀ x, l[j]? = some x -> 128 <= x.toNat) -> (∀ x, l[k]? = some x -> x.toNat < 128 /\ (k = 0 \/ x.toNat ≠ 0)) ->
  rawL (k + 1) (takenL l) = l /\ (k = 0 \/ takenL l ≠ 0)
 | [], k, h, _, _ => by simp at h
 | x :: l, 0, h, _, h2 => by
  obtain rfl : l = [] := by cases l with | nil => rfl | cons _ _ => simp at h
  obtain ⟨h3, -⟩ := h2 x rfl
  refine ⟨?_, .inl rfl⟩
  unfold rawL takenL takenL rawL
  rw [Nat.mul_zero, Nat.add_zero, Nat.mod_eq_of_lt h3, if_pos h3]
  simp
 | x :: l, k + 1, h, h1, h2 => by
  have hl : l.length = k + 1 := by simpa using h
  obtain ⟨e1, e2⟩ := rawL_taken l k hl (fun j hj y hy => h1 (j + 1) (by omega) y (by simpa using hy)) (fun y hy => by
   obtain ⟨a, b⟩ := h2 y (by simpa using hy)
   exact ⟨a, .inr (b.resolve_left (by omega))⟩)
  have hx : 128 <= x.toNat := h1 0 (by omega) x rfl
  have hx2 := x.toNat_lt
  have ht : takenL l ≠ 0 := by
   rcases e2 with rfl | h4
   ·match l, hl with
    | [y], _ =>
     obtain ⟨a, b⟩ := h2 y rfl
     unfold takenL takenL
     have := b.resolve_left (by omega)
     omega
   ·exact h4
  have h5 : takenL (x :: l) = x.toNat % 128 + 128 * takenL l := rfl
  have h6 : ¬ takenL (x :: l) < 128 := by omega
  have h7 : takenL (x :: l) % 128 + 128 = x.toNat := by omega
  have h8 : takenL (x :: l) / 128 = takenL l := by omega
  refine ⟨?_, .inr (by omega)⟩
  unfold rawL
  rw [if_neg h6, h7, h8, e1]
  simp
theorem idxOf_eq {α : Type} (p : α -> Bool) : ∀ (l : List α) (k : Nat), idxOf p l = (k : Int) -> (∃ x, l[k]? = some x /\ p x = true) /\ ∀ j, j < k -> ∀ x, l[j]? = some x -> p x = false
 | [], k, h => by simp [idxOf] at h
 | x :: l, k, h => by
  unfold idxOf at h
  by_cases hx : p x = true
  ·rw [if_pos hx] at h
   obtain rfl : k = 0 := by omega
   exact ⟨⟨x, rfl, hx⟩, fun j hj => by omega⟩
  ·rw [if_neg hx] at h
   dsimp only at h
   split at h
   ·omega
   ·rename_i hge
    cases k with
    | zero => omega
    | succ k =>
     obtain ⟨⟨y, h1, h2⟩, h3⟩ := idxOf_eq p l k (by omega)
     refine ⟨⟨y, by simpa using h1, h2⟩, fun j hj z hz => ?_⟩
     cases j with
     | zero =>
      simp at hz
      subst hz;simpa using hx
     | succ j => exact h3 j (by omega) z (by simpa using hz)
theorem readL_some {l : List UInt8} (h0 : (readL l).2.2 = 0) (h1 : (readL l).2.1 ≠ 0) :
  ∃ n : Nat, (readL l).1 = (n : Int) /\ mayL n = true /\ (readL l).2.1 = (sizeL n : Int) /\ l.take (sizeL n) = rawL (sizeL n) n /\ sizeL n <= l.length := by
 unfold readL at h0 h1 ⊢
 dsimp only at h0 h1 ⊢
 obtain ⟨e, he⟩ : ∃ e, idxOf (fun x : UInt8 => decide (x.toNat < 128)) (l.take 4) = e := ⟨_, rfl⟩
 rw [he] at h0 h1 ⊢
 split at h1
 ·split at h1 <;> simp at h1
 rename_i hge
 obtain ⟨k, rfl⟩ := Int.eq_ofNat_of_zero_le (show 0 <= e by omega)
 rw [if_neg hge] at h0 ⊢
 simp only [Int.toNat_natCast] at h0 h1 ⊢
 split at h1
 case isFalse => simp at h1
 rename_i hs
 rw [if_pos hs]
 obtain ⟨⟨x, hx, hp⟩, hall⟩ := idxOf_eq _ _ _ he
 rw [List.getElem?_take] at hx
 split at hx
 case isFalse => cases hx
 rename_i hk4
 have hkl : k < l.length := (List.getElem?_eq_some_iff.1 hx).1
 have hp : x.toNat < 128 := by simpa using hp
 have hlk : (l.take k).length = k := List.length_take_of_le (by omega)
 have hsn : l.take (k + 1) = l.take k ++ [x] := by rw [List.take_add_one, hx]; rfl
 have hne : x.toNat ≠ 0 \/ k = 0 := by
  have h2 := takenL_snoc (l.take k) x
  have h3 := takenL_lt (l.take k)
  rw [hlk] at h2 h3
  rw [Nat.mod_eq_of_lt hp] at h2
  refine (sizeL_last (takenL (l.take k)) k x.toNat h3 hk4 hp).1 ?_
  rw [<- h2, <- hsn]
  exact hs
 obtain ⟨e1, -⟩ := rawL_taken (l.take (k + 1)) k (List.length_take_of_le (by omega)) (fun j hj y hy => by
  rw [List.getElem?_take, if_pos (by omega)] at hy
  have h4 := hall j hj y (by rw [List.getElem?_take, if_pos (by omega)]; exact hy)
  have h5 : ¬ y.toNat < 128 := by simpa using h4
  omega) (fun y hy => by
  rw [List.getElem?_take, if_pos (by omega), hx] at hy
  cases hy
  exact ⟨hp, hne.symm⟩)
 refine ⟨takenL (l.take (k + 1)), rfl, ?_, by rw [hs]; simp, by rw [hs]; exact e1.symm, by omega⟩
 unfold sizeL at hs
 split at hs
 ·omega
 ·rename_i h; simpa using h
instance : DecidableEq Pk := fun p q => decidable_of_iff _ (Pk.same_iff p q).symm
instance (p : Pk) : Decidable (rightP p) := inferInstanceAs (Decidable (_ /\ _))
def lenB (n : Nat) : List UInt8 := rawL (sizeL n) n
def rawPk (p : Pk) : List UInt8 := UInt8.ofNat (16 * p.kind.toNat + flagN p) :: (lenB (bodyP p).length ++ bodyP p)
def parsePk (l : List UInt8) : Option Pk := match l with
 | [] => none
 | h :: r =>
  if (readL r).2.2 = 0 /\ (readL r).2.1 ≠ 0 /\ (r.length : Int) - (readL r).2.1 = (readL r).1 then
   (readP ((h.toNat / 16 : Nat) : Int) (h.toNat % 16) (r.drop (readL r).2.1.toNat)).bind fun x =>
    if x.2 = [] /\ flagN x.1 = h.toNat % 16 /\ rightP x.1 then some x.1 else none
  else none
theorem flagN_lt {p : Pk} (h : rightP p) : flagN p < 16 := by
 unfold flagN
 split
 ·rename_i hk
  have h1 := h.1
  unfold mayP at h1
  simp only [hk] at h1
  have h2 : mayPub p = true := by simpa using h1
  unfold mayPub at h2
  have h3 : within p.qos 0 2 = true := by
   simp only [Bool.and_eq_true] at h2
   exact h2.1.2
  have h4 := within_iff.1 h3
  unfold bitN
  split <;> split <;> omega
 ·split <;> decide
theorem flat_le {α : Type} (f : α -> List UInt8) (m : Nat) : ∀ (l : List α), (∀ x ∈ l, (f x).length <= m) -> (l.flatMap f).length <= l.length * m
 | [], _ => by simp
 | x :: l, h => by
  have h1 := flat_le f m l (fun y hy => h y (List.mem_cons_of_mem _ hy))
  have h2 := h x (List.mem_cons_self ..)
  rw [List.flatMap_cons, List.length_append, List.length_cons, Nat.add_mul]
  omega
theorem txtB_len (s : List UInt8) : (txtB s).length = 2 + s.length := by
 unfold txtB
 rw [List.length_append, numB_len]
theorem filterR_len {s : List UInt8} (h : filterR s = true) : s.length <= 200 := by
 unfold filterR at h
 rw [Bool.and_eq_true] at h
 have h1 := h.2
 unfold saidR at h1
 simp only [Bool.and_eq_true, decide_eq_true_eq] at h1
 omega
theorem ite_len (b : Prop) [Decidable b] (x : List UInt8) (m : Nat) (h : b -> x.length <= m) : (if b then x else []).length <= m := by
 split
 ·rename_i hb; exact h hb
 ·simp
theorem bodyP_len {p : Pk} (h : rightP p) : (bodyP p).length <= 5000 := by
 have hm := h.1
 by_cases h1 : p.kind = 1
 ·have hc : mayC p = true := by unfold mayP at hm; simpa [h1] using hm
  obtain ⟨a1, -, a3, a4, a5⟩ := mayC_parts hc
  have b1 := saidN_len a1
  have b3 : (if p.hasWill then txtB p.will.topic ++ txtB p.will.body else []).length <= 2210 := ite_len _ _ _ fun hw => by
   rcases a3 with ⟨e, -⟩ | ⟨-, c1, c2, -⟩
   ·rw [e] at hw; cases hw
   ·have := nameR_len c1
    rw [List.length_append, txtB_len, txtB_len]; omega
  have b4 : (if p.hasUser then txtB p.user else []).length <= 202 := ite_len _ _ _ fun hw => by
   rcases a4 with ⟨-, c1⟩ | ⟨e, -⟩
   ·have := saidN_len c1
    rw [txtB_len]; omega
   ·rw [e] at hw; cases hw
  have b5 : (if p.hasPass then txtB p.pass else []).length <= 202 := ite_len _ _ _ fun hw => by
   rcases a5 with ⟨-, c1⟩ | ⟨e, -⟩
   ·rw [txtB_len]; omega
   ·rw [e] at hw; cases hw
  unfold bodyP
  rw [if_pos h1]
  simp only [List.length_append, txtB_len, numB_len] at b3 b4 b5 ⊢
  have : mqtt.length = 4 := rfl
  omega
 by_cases h2 : p.kind = 2
 ·rw [bodyP_2 h2, List.length_append, numB_len, numB_len]; omega
 by_cases h3 : p.kind = 3
 ·have hc : mayPub p = true := by unfold mayP at hm; simpa [h3] using hm
  unfold mayPub at hc
  simp only [Bool.and_eq_true, decide_eq_true_eq] at hc
  have := nameR_len hc.1.1.1
  have b2 : (if 0 < p.qos then numB 2 p.id.toNat else []).length <= 2 := ite_len _ _ _ fun _ => by rw [numB_len]; omega
  rw [bodyP_3 h3, List.length_append, List.length_append, txtB_len]
  omega
 by_cases h8 : p.kind = 8
 ·have hc : fitL p.wants mayWant = true := by
   unfold mayP at hm
   simp only [h8] at hm
   simp at hm
   exact hm.2
  have hall := fitL_all hc
  have hle : p.wants.length <= 8 := by unfold fitL at hc; simp only [Bool.and_eq_true, decide_eq_true_eq] at hc; omega
  have := flat_le wantB 203 p.wants (fun x hx => by
   have h4 := hall x hx
   unfold mayWant at h4
   rw [Bool.and_eq_true] at h4
   have := filterR_len h4.1
   unfold wantB
   rw [List.length_append, txtB_len, numB_len]
   omega)
  rw [bodyP_8 h8, List.length_append, numB_len]
  omega
 by_cases h9 : p.kind = 9
 ·have hc : fitL p.codes mayCode = true := by
   unfold mayP at hm
   simp only [h9] at hm
   simp at hm
   exact hm.2
  have hle : p.codes.length <= 8 := by unfold fitL at hc; simp only [Bool.and_eq_true, decide_eq_true_eq] at hc; omega
  have := flat_le (fun c : Int => numB 1 c.toNat) 1 p.codes (fun x _ => by rw [numB_len]; omega)
  rw [bodyP_9 h9, List.length_append, numB_len]
  omega
 by_cases h10 : p.kind = 10
 ·have hc : fitL p.filters filterR = true := by
   unfold mayP at hm
   simp only [h10] at hm
   simp at hm
   exact hm.2
  have hall := fitL_all hc
  have hle : p.filters.length <= 8 := by unfold fitL at hc; simp only [Bool.and_eq_true, decide_eq_true_eq] at hc; omega
  have := flat_le txtB 202 p.filters (fun x hx => by
   have := filterR_len (hall x hx)
   rw [txtB_len]
   omega)
  rw [bodyP_10 h10, List.length_append, numB_len]
  omega
 by_cases hi : 4 <= p.kind /\ p.kind <= 11
 ·rw [bodyP_i hi h8 h9 h10, numB_len]; omega
 ·rw [bodyP_0 h1 h2 h3 h8 h9 h10 hi]; simp
theorem sizeL_le4 (n : Int) : sizeL n <= 4 := sizeL_le n
theorem rawPk_len {p : Pk} (h : rightP p) : (rawPk p).length <= 5005 := by
 unfold rawPk lenB
 rw [List.length_cons, List.length_append, rawL_len]
 have := bodyP_len h
 have := sizeL_le4 (bodyP p).length
 omega
theorem parsePk_iff (b : List UInt8) (p : Pk) : parsePk b = some p ↔ rightP p /\ rawPk p = b := by
 constructor
 ·intro h
  unfold parsePk at h
  split at h
  ·cases h
  rename_i hd r
  split at h
  case isFalse => cases h
  rename_i hc
  obtain ⟨c0, c1, c2⟩ := hc
  obtain ⟨n, e1, e2, e3, e4, e5⟩ := readL_some c0 c1
  rw [e3] at c2 h
  rw [e1] at c2
  rw [Int.toNat_natCast] at h
  cases hx : readP ((hd.toNat / 16 : Nat) : Int) (hd.toNat % 16) (r.drop (sizeL n)) with
  | none => rw [hx] at h; cases h
  | some x =>
   rw [hx, Option.bind_some] at h
   split at h
   case isFalse => cases h
   rename_i hr
   obtain ⟨r1, r2, r3⟩ := hr
   cases h
   obtain ⟨q, rest⟩ := x
   dsimp only at r1 r2 r3
   subst r1;obtain ⟨f1, f2, f3, f4⟩ := reads_iff.1 ⟨hx, r2, r3⟩
   refine ⟨f1, ?_⟩
   unfold rawPk lenB
   dsimp only
   have h7 : (bodyP q).length = n := by rw [f4, List.length_drop]; omega
   rw [f2, f3, h7, f4, <- e4, List.take_append_drop]
   have h8 : 16 * ((hd.toNat / 16 : Nat) : Int).toNat + hd.toNat % 16 = hd.toNat := by rw [Int.toNat_natCast]; omega
   rw [h8]
   simp
 ·rintro ⟨h, rfl⟩
  have hk := rightP_kind h
  have hf := flagN_lt h
  have hl := bodyP_len h
  have hm : mayL (bodyP p).length = true := (mayL_iff _).2 (by omega)
  have hr := readL_raw ((bodyP p).length : Int) hm (bodyP p)
  rw [Int.toNat_natCast] at hr
  have hs : sizeL ((bodyP p).length : Int) ≠ 0 := by
   unfold sizeL
   rw [hm]
   simp only [Bool.true_eq_false, if_false]
   repeat' split
   all_goals decide
  have hb : (UInt8.ofNat (16 * p.kind.toNat + flagN p)).toNat = 16 * p.kind.toNat + flagN p := u8_of _ (by omega)
  unfold parsePk rawPk lenB
  dsimp only
  rw [hr]
  dsimp only
  rw [if_pos ⟨rfl, by omega, by rw [List.length_append, rawL_len]; omega⟩, Int.toNat_natCast, List.drop_append_of_le_length (by rw [rawL_len]; omega), List.drop_of_length_le (by rw [rawL_len]; omega), List.nil_append, hb]
  have g1 : (16 * p.kind.toNat + flagN p) / 16 = p.kind.toNat := by omega
  have g2 : (16 * p.kind.toNat + flagN p) % 16 = flagN p := by omega
  rw [g1, g2, Int.toNat_of_nonneg (by omega), readP_body h, Option.bind_some, if_pos ⟨rfl, rfl, h⟩]
def pkC : PkCode := ⟨rawPk, parsePk, parsePk_iff, fun p h => by have := rawPk_len h; omega⟩
end
section
attribute [local go_sem] Oper.semAt_some
def kX : TnC := ⟨zTn 5, h3Z, hdZ⟩
def kS (g : Nat) : ScC := ⟨⟨1, 1, 1, 1, 1, 0, []⟩, 2, ⟨some ⟨g, 0, none⟩, 1, 1⟩, [kX]⟩
def kL : List UInt8 := [0, 1, 0, 1, 0, 1, 0, 1, 0, 1, 0, 0, 0, 2, 0, 0, 5, 0, 0]
theorem kS_in {w : World} {g : Nat} (h : Blk w g kX.cells.toArray 55) : (kS g).In w :=
 ⟨⟨rfl, Nat.le_refl _, by show 1 <= maxLen; decide, fun i x hx => by
   cases i with
   | zero =>
    have hx' : kX = x := by simpa [kS] using hx
    subst hx';refine ⟨g, 0, rfl, h.lt, fun j v hj => ?_⟩
    rw [h.cell]
    simp only [Nat.zero_mul, Nat.zero_add]
    rw [<- Array.getElem?_toList]
    exact hj
   | succ i => simp [kS] at hx⟩, fun x hx => by
   have hx' : x = kX := by simpa [kS] using hx
   subst hx';exact ⟨⟨LsAt.nil w, LsAt.nil w, LsAt.nil w⟩, LsAt.nil w⟩⟩
theorem kS_cf : cfOK ⟨1, 1, 1, 1, 1, 0, []⟩ := by unfold cfOK; decide
theorem kS_new : NewOK ⟨1, 1, 1, 1, 1, 0, []⟩ := fun W hT => (brk_New _ W hT kS_cf).mono fun e w' ⟨p, he, hb⟩ => ⟨_, 0, he, ⟨fun _ => kS_cf, fun _ => rfl⟩, hb⟩
theorem kX_kind : KindDo kX := fun c v hv => by
 have e : v = emptyV := by
  have : kindG c kX.t.kind = some emptyV := rfl
  rw [this] at hv
  cases hv
  rfl
 subst e;refine ⟨_, _, _, _, _, _, _, _, rfl, enters_of Tryz.func45 (by kernel_rfl) rfl, enters_of Tryz.func49 (by kernel_rfl) rfl, fun W hi hb => ?_, fun W => ?_⟩
 ·refine (sc_may1 kX.t kX.h kX.hp W).mono fun e w' ⟨he, hb⟩ => ⟨true, he.trans rfl, ?_, hb⟩
  simp [mayT, kX, zTn]
 ·refine (sc_has5 kX.t kX.h kX.hp W).mono fun e w' ⟨he, hb⟩ => ⟨⟨zTn 0, h3Z, hdZ⟩, he.trans rfl, ?_, fun W' h => ⟨⟨LsAt.nil W', LsAt.nil W', LsAt.nil W'⟩, LsAt.nil W'⟩, hb⟩
  rfl
theorem kX_write (w : World) : WriteDo pkC w kX := fun c v hv => by
 have e : v = emptyV := by
  have : kindG c kX.t.kind = some emptyV := rfl
  rw [this] at hv
  cases hv
  rfl
 subst e;refine ⟨_, _, _, _, _, _, _, _, rfl, enters_of Tryz.func47 (by kernel_rfl) rfl, fun W F p l hb hW hl hF => ?_⟩
 refine (sc_write3 _ _ W).mono fun e w' ⟨he, hb⟩ => ⟨F, Stp.below hb, .inl ⟨?_, he, ?_⟩⟩
 ·have : partB pkC kX.t = [] := rfl
  rw [this]
  unfold fits
  rw [decide_eq_true_eq]
  simpa using hl
 ·have : partB pkC kX.t = [] := rfl
  rw [this, List.append_nil]
  exact hW.below hb
theorem kS_raw (g : Nat) : rawS pkC (kS g).sc = kL := by kernel_rfl
theorem kS_right (g : Nat) : rightS (kS g).sc := ⟨kS_cf, by show (2 : Int) <= 2 /\ (2 : Int) <= 4096; decide, by show 1 <= 2000; decide, fun t ht => by
 have : t = kX.t := by simpa [kS, ScC.sc] using ht
 subst this;exact ⟨by simp [mayT, kX, zTn], rfl⟩⟩
theorem kL_18 : rScript pkC false (kL.take 18) = none := by kernel_rfl
theorem k_nil : rScript pkC false [] = none := by kernel_rfl
theorem known28 (w : World) (hT : TzAt w) : Calls Tryz.prog 7 #[] w fun e w' => e = .returned (.bool true) /\ Below w.heap.size w w' := by
 obtain ⟨w1, hW1⟩ : ∃ w1, (w.alloc (.cells #[.int .i64 5, .int .i64 0, .int .i64 0, .bool false, .bool false, .int .i64 0, .string ⟨#[]⟩, .string ⟨#[]⟩, .int .i64 0, .string ⟨#[]⟩, .bool false, .int .i64 0, .bool false, .string ⟨#[]⟩, .string ⟨#[]⟩, .int .i64 0, .bool false, .bool false, .bool false, .string ⟨#[]⟩, .string ⟨#[]⟩, .bool false, .int .i64 0, .slice none 0 0, .slice none 0 0, .slice none 0 0, .string ⟨#[]⟩, .int .i64 0, .int .i64 0, .slice none 0 0] 55)).alloc (.cells #[.int .i64 1, .int .i64 1, .int .i64 1, .int .i64 1, .int .i64 1, .int .i64 0, .string ⟨#[]⟩, .int .i64 2, .slice (some ⟨w.heap.size, 0, none⟩) 1 1] 30) = w1 := ⟨_, rfl⟩
 have hb1 : Hid (Below w.heap.size w w1) := hid (by rw [<- hW1]; exact ((Below.refl _ _).alloc (Nat.le_refl _) _).alloc (by simp) _)
 have g1 : Blk w1 w.heap.size kX.cells.toArray 55 := by rw [<- hW1]; exact (Blk.new w kX.cells.toArray 55).alloc _
 have hw1 : Blk w1 (w.heap.size + 1) (kS w.heap.size).cells.toArray 30 := by
  rw [<- hW1]
  have h := Blk.new (w.alloc (.cells kX.cells.toArray 55)) (kS w.heap.size).cells.toArray 30
  rw [World.size_alloc] at h
  exact h
 obtain ⟨sv, hsv⟩ : ∃ sv, (kS w.heap.size).cells.toArray = sv := ⟨_, rfl⟩
 rw [hsv] at hw1
 have hss : Hid (sv.size = 9) := hid (by rw [<- hsv]; rfl)
 replace hsv := hid hsv;replace hT := hid hT
 have CR := hid (sc_Raw pkC (kS w.heap.size) w1 (kS_in g1) (hT.out.below hb1.out) kS_new (fun x hx => by
  have hx' : x = kX := by simpa [kS] using hx
  subst hx';exact kX_kind) (fun x hx => by
  have hx' : x = kX := by simpa [kS] using hx
  subst hx';exact kX_write w1))
 rw [hsv.out] at CR
 have is : (Tryz.prog.info? 30).map (·.size) = some sv.size := by rw [hss.out]; exact (by kernel_rfl : (Tryz.prog.info? 30).map (·.size) = some 9)
 clear g1;go_enter Tryz.func7, Tryz.ntmps7
 go_wp2_with (refine wL 30 rfl rfl hw1 Tryz.underlying30 ?_ rfl rfl is)
 refine CR.out.mono ?_
 rintro e w2 ⟨hb2, ho⟩
 have HB2 := hid (hb1.out.trans (hb2.mono hb1.out.size))
 obtain ⟨v, rfl, hv⟩ : ∃ v, e = .returned (.tuple #[v, .int .i64 0]) /\ w2.ownsRow w1.heap.size 5 1 v 19 (bs kL) := by
  rcases ho with ⟨-, -, v, h1, h2⟩ | ⟨-, h, -⟩ | ⟨h, -⟩
  ·rw [kS_raw] at h2
   exact ⟨v, h1, h2⟩
  ·rw [kS_raw] at h
   exact absurd (by decide) h
  ·exact absurd (kS_right _) h
 obtain ⟨av, cv, rfl, hrow⟩ := RowAt.of_own hv
 have hstr := run_str hrow
 have hcv := hrow.le
 have hr18 := hrow.take 18 (by decide)
 rw [show (bs kL).take 18 = bs (kL.take 18) from by unfold bs; rw [List.map_take]] at hr18
 have CP := hid (fun (W : World) (hb : Below w2.heap.size w2 W) => sc_Parse pkC av 18 cv (kL.take 18) W (hr18.below hb) (by decide) (hT.out.below (HB2.out.trans (hb.mono HB2.out.size))) (fun s hs => by rw [kL_18] at hs; cases hs) (fun s hs => by rw [kL_18] at hs; cases hs) (fun h => absurd h (by decide)))
 have CP0 := hid (fun (W : World) (hb : Below w2.heap.size w2 W) => sc_Parse pkC none 0 0 [] W (RowAt.empty W) (by decide) (hT.out.below (HB2.out.trans (hb.mono HB2.out.size))) (fun s hs => by rw [k_nil] at hs; cases hs) (fun s hs => by rw [k_nil] at hs; cases hs) (fun h => absurd h (by decide)))
 have hP : Hid (∀ W e W', ParA pkC (kL.take 18) W e W' -> e = .returned (.tuple #[.agg zSc.cells.toArray, .int .i64 390]) /\ Below W.heap.size W W') := hid fun W e W' ⟨hb, ho⟩ => by
  rcases ho with ⟨h, -⟩ | ⟨-, -, h⟩ | ⟨-, s, h, -⟩
  ·exact absurd h (by decide)
  ·exact ⟨h, hb⟩
  ·rw [kL_18] at h; cases h
 have hP0 : Hid (∀ W e W', ParA pkC [] W e W' -> e = .returned (.tuple #[.agg zSc.cells.toArray, .int .i64 390]) /\ Below W.heap.size W W') := hid fun W e W' ⟨hb, ho⟩ => by
  rcases ho with ⟨h, -⟩ | ⟨-, -, h⟩ | ⟨-, s, h, -⟩
  ·exact absurd h (by decide)
  ·exact ⟨h, hb⟩
  ·rw [k_nil] at h; cases h
 obtain ⟨zc, hzc⟩ : ∃ zc, zSc.cells.toArray = zc := ⟨_, rfl⟩
 rw [hzc] at hP hP0
 have hzs : Hid (zc.size = 9) := hid (by rw [<- hzc]; rfl)
 have hzo : Hid (∀ u ∈ zc.toList, u.oneCell' = true) := hid (by rw [<- hzc]; simp [zSc, ScC.cells, Value.oneCell'])
 replace hzc := hid hzc;have hk : kL.toArray = #[0, 1, 0, 1, 0, 1, 0, 1, 0, 1, 0, 0, 0, 2, 0, 0, 5, 0, 0] := rfl
 rw [hk] at hstr
 clear hb2 ho hv hrow hr18 hk;go_wp2_with fail
 refine (CP.out w2 (Below.refl _ _)).mono ?_
 rintro e w3 hp3
 obtain ⟨rfl, hb3⟩ := hP.out _ _ _ hp3
 have HB3 := hid hb3;have hs3 := hid hb3.size;clear hp3 hb3;go_upto_region 6 with (refine wS 30 9 rfl _ _ zc rfl rfl (Blk.new _ _ _) hzs.out rfl hzo.out ?_; intro w4 hw4 hr4)
 have hb4 := hid ((HB3.out.alloc hs3.out _).trans (hr4.below (n₀ := w2.heap.size) (by have := hs3.out; simp; omega) (by have := hs3.out; simp; omega)))
 clear hw4 hr4;go_wp2_with fail
 refine (CP0.out w4 hb4.out).mono ?_
 rintro e w5 hp5
 obtain ⟨rfl, hb5⟩ := hP0.out _ _ _ hp5
 have HB5 := hid (hb4.out.trans (hb5.mono hb4.out.size))
 clear hp5 hb5;go_wp2_with (refine wS 30 9 rfl _ _ zc rfl rfl (Blk.new _ _ _) hzs.out rfl hzo.out ?_; intro w6 hw6 hr6)
 have hb6 := (HB5.out.alloc HB5.out.size _).trans (hr6.below (n₀ := w2.heap.size) (by have := HB5.out.size; simp; omega) (by have := HB5.out.size; simp; omega))
 go_ret
 exact ⟨rfl, HB2.out.trans (hb6.mono HB2.out.size)⟩
end
section
attribute [local go_sem] Oper.semAt_some
structure YesP (w : World) (e : Ending) (w' : World) : Prop where
 out : e = .returned (.bool true) /\ Below w.heap.size w w'
theorem walk_ScriptSame' (s t : ScC) (w : World) (hs : s.In w) (ht : t.In w) (hT : TzAt w) : Calls Tryz.prog 5 #[.agg s.cells.toArray, .agg t.cells.toArray] w (YesP w) := by
 obtain ⟨sv, hsv⟩ : ∃ sv, s.cells.toArray = sv := ⟨_, rfl⟩
 obtain ⟨tv, htv⟩ : ∃ tv, t.cells.toArray = tv := ⟨_, rfl⟩
 obtain ⟨W0, hW0⟩ : ∃ W0, (w.alloc (.cells sv 30)).alloc (.cells tv 30) = W0 := ⟨_, rfl⟩
 have hb0 : Below w.heap.size w W0 := by rw [<- hW0]; exact ((Below.refl _ _).alloc (Nat.le_refl _) _).alloc (by simp) _
 have hB : SB w.heap.size s t W0 := by
  rw [<- hW0, <- hsv, <- htv]
  refine ⟨(Blk.new _ _ _).alloc _, ?_⟩
  have := Blk.new (w.alloc (.cells s.cells.toArray 30)) t.cells.toArray 30
  simpa using this
 have is : (Tryz.prog.info? 30).map (·.size) = some sv.size := by rw [<- hsv]; exact (by kernel_rfl : (Tryz.prog.info? 30).map (·.size) = some 9)
 have it : (Tryz.prog.info? 30).map (·.size) = some tv.size := by rw [<- htv]; exact (by kernel_rfl : (Tryz.prog.info? 30).map (·.size) = some 9)
 have HS := hid hs;have HT := hid ht;replace hT := hid hT;have KB : Hid (∀ W, Below W0.heap.size W0 W -> Below w.heap.size w W /\ Blk W w.heap.size sv 30 /\ Blk W (w.heap.size + 1) tv 30) := hid fun W h => ⟨hb0.trans (h.mono hb0.size), by rw [<- hsv]; exact hB.one.below h, by rw [<- htv]; exact hB.two.below h⟩
 rw [hsv, htv]
 have F1 := hid (law28_few s 100 W0 (hs.below hb0))
 rw [hsv] at F1
 obtain ⟨-, hx, -⟩ := KB.out W0 (Below.refl _ _)
 replace hsv := hid hsv;replace htv := hid htv;clear hB hs ht hb0;go_enter Tryz.func5, Tryz.ntmps5
 go_wp2_with (refine wL 30 rfl rfl hx Tryz.underlying30 ?_ rfl rfl is)
 refine F1.out.mono ?_
 rintro e w1 ⟨b1, rfl, hb1⟩
 have HW1 := hid hb1;have HB := hid (KB.out w1 hb1).1
 cases b1 with
 | false =>
  clear hb1;go_wp2_with (go_at_call 7; refine (known28 _ (hT.out.below HB.out)).mono ?_; rintro e wk ⟨rfl, hbk⟩)
  go_ret
  exact ⟨rfl, HB.out.trans (hbk.mono HB.out.size)⟩
 | true =>
  have F2 := hid (law28_few t 100 w1 (HT.out.below HB.out))
  rw [htv.out] at F2
  obtain ⟨-, -, hy⟩ := KB.out w1 hb1
  have hym := hy.mid [] tv.toList [] (by simp)
  clear hb1;go_wp2_with (first | (refine wLmG 30 rfl rfl hym Tryz.underlying30 ?_ (by kernel_rfl) rfl (by rw [Array.length_toList]; exact it)) | (refine wL 30 rfl rfl hy Tryz.underlying30 ?_ rfl rfl it))
  refine F2.out.mono ?_
  rintro e w2 ⟨b2, rfl, hb2⟩
  have hb02 := HW1.out.trans (hb2.mono HW1.out.size)
  have HB := hid (KB.out w2 hb02).1
  cases b2 with
  | false =>
   clear hb2 hb02;go_wp2_with (go_at_call 7; refine (known28 _ (hT.out.below HB.out)).mono ?_; rintro e wk ⟨rfl, hbk⟩)
   go_ret
   exact ⟨rfl, HB.out.trans (hbk.mono HB.out.size)⟩
  | true =>
   have HW2 := hid hb02;clear hb2 hb02;go_upto_region 3 with fail
   have xD : Blk w2.drew w.heap.size sv 30 := (KB.out w2 HW2.out).2.1
   have yD : Blk w2.drew (w.heap.size + 1) tv 30 := (KB.out w2 HW2.out).2.2
   have BD : Below w.heap.size w w2.drew := HB.out.drew
   refine regionQ [(1000, fun w' => Blk w' w.heap.size sv 30), (1000, fun w' => Blk w' (w.heap.size + 1) tv 30)] (by kernel_rfl) ⟨xD, yD, trivial⟩ fun KQ hKQ => ?_
   try simp only [PT]
   obtain ⟨WD, hWD⟩ : ∃ W, w2.drew = W := ⟨_, rfl⟩
   rw [hWD] at xD yD BD ⊢
   refine loadQ 0 rfl (by kernel_rfl) (by kernel_rfl) rfl rfl 0 rfl (by kernel_rfl) (.agg sv) (fun w' hf => by (exact run_load_blk hf 30 Tryz.underlying30 rfl is)) ?_
   simp only [PT];refine loadQ 1 rfl (by kernel_rfl) (by kernel_rfl) rfl rfl 1 rfl (by kernel_rfl) (.agg tv) (fun w' hf => by (exact run_load_blk hf 30 Tryz.underlying30 rfl it)) ?_
   simp only [PT];refine loadQ 3 rfl (by kernel_rfl) (by kernel_rfl) rfl rfl 0 rfl (by kernel_rfl) (.agg sv) (fun w' hf => by (exact run_load_blk hf 30 Tryz.underlying30 rfl is)) ?_
   simp only [PT];refine loadQ 4 rfl (by kernel_rfl) (by kernel_rfl) rfl rfl 1 rfl (by kernel_rfl) (.agg tv) (fun w' hf => by (exact run_load_blk hf 30 Tryz.underlying30 rfl it)) ?_
   simp only [PT];have C1 := sc_Same s t WD (HS.out.below BD) (HT.out.below BD)
   rw [hsv.out, htv.out] at C1
   refine sQ 2 fun K hK => ?_;simp only [GO];go_simp;refine C1.mono ?_
   rintro e w3 ⟨c1, rfl, hc1, hb3⟩
   have x3 := xD.below hb3
   have y3 := yD.below hb3
   have B3 := BD.trans (hb3.mono BD.size)
   refine hK _ _ ⟨⟨fun _ => x3, fun _ => y3, trivial⟩, ?_⟩
   clear hK K;try simp only [PT]
   have C2 := r28_Same s t w3 (HS.out.below B3) (HT.out.below B3)
   rw [hsv.out, htv.out] at C2
   refine sQ 5 fun K hK => ?_;simp only [GO];go_simp;refine C2.mono ?_
   rintro e w4 ⟨c2, rfl, hc2, hb4⟩
   have x4 := x3.below hb4
   have y4 := y3.below hb4
   have B4 := B3.trans (hb4.mono B3.size)
   obtain rfl : c1 = c2 := by
    rw [Bool.eq_iff_iff, hc1, hc2]
   refine hK _ _ ⟨⟨fun _ => x4, fun _ => y4, trivial⟩, ?_⟩
   clear hK K;try simp only [PT]
   refine readQ 6 rfl (by kernel_rfl) (.bool true) (by kernel_rfl) (fun w' _ => by cases c1 <;> (go_simp <;> with_reducible rfl)) ?_
   try simp only [PT]
   refine tQ [7] ?_;refine loadQ 8 rfl (by kernel_rfl) (by kernel_rfl) rfl rfl 0 rfl (by kernel_rfl) (.agg sv) (fun w' hf => by (exact run_load_blk hf 30 Tryz.underlying30 rfl is)) ?_
   simp only [PT];refine loadQ 9 rfl (by kernel_rfl) (by kernel_rfl) rfl rfl 0 rfl (by kernel_rfl) (.agg sv) (fun w' hf => by (exact run_load_blk hf 30 Tryz.underlying30 rfl is)) ?_
   simp only [PT];have C3 := sc_Same s s w4 (HS.out.below B4) (HS.out.below B4)
   rw [hsv.out] at C3
   refine sQ 10 fun K hK => ?_;simp only [GO];go_simp;refine C3.mono ?_
   rintro e w5 ⟨c3, rfl, hc3, hb5⟩
   obtain rfl : c3 = true := hc3.2 rfl
   have x5 := x4.below hb5
   have y5 := y4.below hb5
   have B5 := B4.trans (hb5.mono B4.size)
   refine hK _ _ ⟨⟨fun _ => x5, fun _ => y5, trivial⟩, ?_⟩
   clear hK K;try simp only [PT]
   refine tQ [11, 12] ?_;refine sQ 13 fun K hK => ?_;simp only [GO];go_simp;refine (known28 w5 (hT.out.below B5)).mono ?_
   rintro e w6 ⟨rfl, hb6⟩
   have x6 := x5.below hb6
   have y6 := y5.below hb6
   have B6 := hid (B5.trans (hb6.mono B5.size))
   refine hK _ _ ⟨⟨fun _ => x6, fun _ => y6, trivial⟩, ?_⟩
   clear hK K;try simp only [PT]
   refine tQ [14, 15] ?_;refine dQ (hKQ.out _ _ ?_);clear hKQ KQ;clear hc1 hc2 hc3;go_wp2
   go_ret
   exact ⟨rfl, B6.out⟩
theorem walk_ScriptSame (s t : ScC) (w : World) (hs : s.In w) (ht : t.In w) (hT : TzAt w) : Calls Tryz.prog 5 #[.agg s.cells.toArray, .agg t.cells.toArray] w fun e w' => e = .returned (.bool true) /\ Below w.heap.size w w' :=
 (walk_ScriptSame' s t w hs ht hT).mono fun e w' h => h.out
end
end Go.Proofs.YtkghejaimhoboaaGreatDoor
