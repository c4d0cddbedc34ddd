/- Parts of the proof of SessionRows: contracts of functions that it reaches, and plain lemmas. No condition of their own. -/
import Derived.Test.YtoinabapaeebfaaGreatDoorPk31
import Derived.Test.YtoinabapaeebfaaGreatDoorPk19
import Derived.Test.YtoinabapaeebfaaGreatDoorPk20
import Derived.Test.YtoinabapaeebfaaGreatDoorPk16
import Derived.Deep.QuietTactic
import Derived.BigQuiet
import Derived.Test.YtoinabapaeebfaaGreatDoorPk27
import Derived.Maps.Own
import Derived.Sort.KeysCollected
import Derived.StringKeys
import Derived.Test.YtoinabapaeebfaaGreatDoorPk28
set_option linter.unusedSimpArgs false
set_option linter.unusedVariables false
set_option maxRecDepth 100000
set_option maxHeartbeats 8000000
namespace Go.Proofs.YtoinabapaeebfaaGreatDoor
open Go.RowKit Go.Shelf
section
structure AcsAt (w : World) (a : Option Addr) (n cap : Nat) (xs : List AcV) : Prop where
 len : xs.length = n
 le : n <= cap
 max : cap <= maxLen
 at' : ∀ i x, xs[i]? = some x -> ∃ g off, a = some ⟨g, off, none⟩ /\ g < w.heap.size /\ w.rangeAt g (off + i * 13) x.cells.toList
theorem AcsAt.below {w w' : World} {a : Option Addr} {n cap : Nat} {xs : List AcV} (h : AcsAt w a n cap xs) (hb : Below w.heap.size w w') : AcsAt w' a n cap xs :=
 ⟨h.len, h.le, h.max, fun i x hx => by
  obtain ⟨g, off, h1, h2, h3⟩ := h.at' i x hx
  exact ⟨g, off, h1, Nat.lt_of_lt_of_le h2 hb.size, range_below h3 h2 hb⟩⟩
def FewOkX (x : AcV) : Prop := x.topic.length <= 3000 /\ x.body.length <= 3000 /\ x.will.topic.length <= 3000 /\ x.will.body.length <= 3000
def FewPostX (w : World) (n : Nat) (most : Int) (xs : List AcV) (e : Ending) (w' : World) : Prop := ∃ b, e = .returned (.bool b) /\ (b = true -> (n : Int) <= most /\ ∀ x ∈ xs, FewOkX x) /\ Below w.heap.size w w'
theorem fewX_no {w w' : World} {n : Nat} {most : Int} {xs : List AcV} {e : Ending} (he : e = .returned (.bool false)) (hb : Below w.heap.size w w') : FewPostX w n most xs e w' := ⟨false, he, fun h => (by cases h), hb⟩
theorem fewX_yes {w w' : World} {n : Nat} {most : Int} {xs : List AcV} {e : Ending} (he : e = .returned (.bool true)) (h : (n : Int) <= most /\ ∀ x ∈ xs, FewOkX x) (hb : Below w.heap.size w w') : FewPostX w n most xs e w' := ⟨true, he, fun _ => h, hb⟩
theorem eAc : ElemT Tryz.prog 93 101 (.agg (AcV.cells ⟨0, 0, [], [], false, false, noWill, 0, 0, 0⟩)) 13 128 := ⟨Tryz.underlying93, by kernel_rfl, by kernel_rfl⟩
def AcV.cl (x : AcV) : List Value := x.cells.toList
theorem AcV.cllen (x : AcV) : x.cl.length = 13 := rfl
theorem ac_len (l : List AcV) : (l.flatMap AcV.cl).length = l.length * 13 := by
 induction l with
 | nil => rfl
 | cons x l ih => rw [List.flatMap_cons, List.length_append, AcV.cllen, ih, List.length_cons]; omega
theorem ac_one (l : List AcV) : ∀ u ∈ l.flatMap AcV.cl, u.oneCell' = true := fun u hu => by
 obtain ⟨x, _, hx⟩ := List.mem_flatMap.1 hu
 revert hx
 simp [AcV.cl, AcV.cells]
 rintro (rfl | rfl | rfl | rfl | rfl | rfl | rfl | rfl | rfl | rfl | rfl | rfl | rfl) <;> rfl
theorem ac_get (l : List AcV) : ∀ j y, (l.flatMap AcV.cl)[j]? = some y -> ∃ i x k, l[i]? = some x /\ j = i * 13 + k /\ x.cl[k]? = some y := by
 induction l with
 | nil => intro j y h; simp at h
 | cons x l ih =>
  intro j y h
  rw [List.flatMap_cons] at h
  rcases Nat.lt_or_ge j 13 with hj | hj
  ·rw [List.getElem?_append_left (by rw [AcV.cllen]; exact hj)] at h
   exact ⟨0, x, j, rfl, by omega, h⟩
  ·rw [List.getElem?_append_right (by rw [AcV.cllen]; exact hj), AcV.cllen] at h
   obtain ⟨i, z, k, h1, h2, h3⟩ := ih _ _ h
   exact ⟨i + 1, z, k, by simpa using h1, by omega, h3⟩
theorem AcsAt.src {w : World} {a : Option Addr} {n cap : Nat} {xs : List AcV} (h : AcsAt w a n cap xs) : 0 < n -> ∃ b, a = some b /\ ∀ j y, (xs.flatMap AcV.cl)[j]? = some y -> w.cell? (b.add j) = some y := by
 intro hn
 obtain ⟨x0, hx0⟩ : ∃ x, xs[0]? = some x := ⟨_, List.getElem?_eq_getElem (by have := h.len; omega)⟩
 obtain ⟨g, off, ha, hg, -⟩ := h.at' 0 x0 hx0
 refine ⟨_, ha, fun j y hj => ?_⟩
 obtain ⟨i, x, k, h1, h2, h3⟩ := ac_get xs j y hj
 obtain ⟨g', off', ha', -, hr⟩ := h.at' i x h1
 rw [ha] at ha'
 cases ha'
 have := hr k y h3
 rw [<- this]
 rcases Nat.eq_zero_or_pos j with h0 | h0
 ·subst h0
  have : i = 0 /\ k = 0 := by omega
  obtain ⟨rfl, rfl⟩ := this
  simp [Addr.add]
 ·simp [Addr.add, show ¬ j = 0 by omega]
  congr 2
  omega
theorem acs_of_own {w : World} {base n c : Nat} {a : Option Addr} {xs : List AcV} (h : w.ownsRow base 101 13 (.slice a n c) n (xs.flatMap AcV.cl)) (hl : xs.length = n) : AcsAt w a n c xs := by
 have hat := fun i x (hx : xs[i]? = some x) => own_range AcV.cl AcV.cllen hl h (k := i) (x := x) hx
 have hlt := fun k => h.lt k
 obtain ⟨h1, ⟨he, h2⟩ | ⟨g, cap, cur, he, _, hg, hnc, hcm, _⟩⟩ := h
 ·cases he
  have : xs = [] := List.eq_nil_of_length_eq_zero (by omega)
  subst this;exact ⟨rfl, by omega, by simp [maxLen], fun i x hx => by simp at hx⟩
 ·cases he
  refine ⟨hl, hnc, hcm, fun i x hx => ?_⟩
  obtain ⟨g', ha, _, hr⟩ := hat i x hx
  cases ha
  refine ⟨g, 0, rfl, (hlt g rfl).2, ?_⟩
  rw [Nat.zero_add]
  exact hr
end
section
theorem law23_few (most : Int) (a : Option Addr) (n cap : Nat) (xs : List AcV) (w : World) (h : AcsAt w a n cap xs) (hm : 0 <= most /\ most <= 1000) :
  Calls Tryz.prog 33 #[.slice a n cap, .int .i64 most] w (FewPostX w n most xs) := by
 have H := hid h;have hmax : n <= maxLen := Nat.le_trans h.le h.max
 unfold maxLen at hmax
 clear h;go_enter Tryz.func33, Tryz.ntmps33
 go_wp2
 go_loopw [5, 6] (fun s i wr => ∃ (k : Nat) (z : Int), s = .int .i64 z /\ i = .int .i64 k /\ k <= n /\ 0 <= z /\ z <= 17000 /\ Hid (Below w.heap.size w wr) /\ Hid (∀ j x, j < k -> xs[j]? = some x -> FewOkX x)) (fun _ i _ => n - (intOf i).toNat)
 case atStart => exact ⟨0, 0, rfl, rfl, Nat.zero_le _, Int.le_refl _, by omega, hid (Below.refl _ _), hid fun j x hj => absurd hj (Nat.not_lt_zero _)⟩
 case round =>
  obtain ⟨k, z, rfl, rfl, hk, hz0, hz1, hb, hok⟩ := hrel
  rcases Nat.lt_or_ge k n with hlt | hge
  ·have dk : decide ((k : Int) < (n : Int)) = true := decide_eq_true (by omega)
   by_cases hkm : (k : Int) <= most
   ·have dm : decide ((k : Int) <= most) = true := decide_eq_true hkm
    by_cases hz : z <= 5000
    ·have dz : decide (z <= 5000) = true := decide_eq_true hz
     obtain ⟨x, hx⟩ : ∃ x, xs[k]? = some x := ⟨_, List.getElem?_eq_getElem (by have := H.out.len; omega)⟩
     obtain ⟨g, off, rfl, hg, hr⟩ := (H.out.below hb.out).at' k x hx
     have t2 : wr.cell? ⟨g, off + k * 13 + 2, none⟩ = some (.string ⟨x.topic.toArray⟩) := hr 2 _ rfl
     have t3 : wr.cell? ⟨g, off + k * 13 + 3, none⟩ = some (.string ⟨x.body.toArray⟩) := hr 3 _ rfl
     have t6 : wr.cell? ⟨g, off + k * 13 + 6, none⟩ = some (.string ⟨x.will.topic.toArray⟩) := hr 6 _ rfl
     have t7 : wr.cell? ⟨g, off + k * 13 + 7, none⟩ = some (.string ⟨x.will.body.toArray⟩) := hr 7 _ rfl
     have hcl := H.out.le
     by_cases l1 : x.topic.length <= 3000
     ·have e1 : decide ((3000 : Int) < (x.topic.length : Int)) = false := decide_eq_false (by omega)
      by_cases l2 : x.body.length <= 3000
      ·have e2 : decide ((3000 : Int) < (x.body.length : Int)) = false := decide_eq_false (by omega)
       by_cases l3 : x.will.topic.length <= 3000
       ·have e3 : decide ((3000 : Int) < (x.will.topic.length : Int)) = false := decide_eq_false (by omega)
        by_cases l4 : x.will.body.length <= 3000
        ·have e4 : decide ((3000 : Int) < (x.will.body.length : Int)) = false := decide_eq_false (by omega)
         go_wp2
         go_quiet (fail)
         go_wp2
         have hb2 := hid (hb.out.trans ((below_drewN' wr nq).mono hb.out.size))
         go_roundw
         case rel => exact ⟨k + 1, z + x.topic.length + x.body.length + x.will.topic.length + x.will.body.length, by go_num, by go_num, by omega, by omega, by omega, hb2, hid fun j y hj hy => by
          rcases Nat.lt_or_ge j k with h1 | h1
          ·exact hok.out j y h1 hy
          ·obtain rfl : j = k := by omega
           rw [hx] at hy
           cases hy
           exact ⟨l1, l2, l3, l4⟩⟩
         case measure => simp [intOf]; omega
        ·have e4 : decide ((3000 : Int) < (x.will.body.length : Int)) = true := decide_eq_true (by omega)
         go_wp2
         go_ret
         exact fewX_no rfl hb.out
       ·have e3 : decide ((3000 : Int) < (x.will.topic.length : Int)) = true := decide_eq_true (by omega)
        go_wp2
        go_ret
        exact fewX_no rfl hb.out
      ·have e2 : decide ((3000 : Int) < (x.body.length : Int)) = true := decide_eq_true (by omega)
       go_wp2
       go_ret
       exact fewX_no rfl hb.out
     ·have e1 : decide ((3000 : Int) < (x.topic.length : Int)) = true := decide_eq_true (by omega)
      go_wp2
      go_ret
      exact fewX_no rfl hb.out
    ·have dz : decide (z <= 5000) = false := decide_eq_false hz
     go_wp2
     all_goals (go_ret; exact fewX_no rfl hb.out)
   ·have dm : decide ((k : Int) <= most) = false := decide_eq_false hkm
    have dn : decide ((n : Int) <= most) = false := decide_eq_false (by omega)
    go_wp2
    go_ret
    exact fewX_no rfl hb.out
  ·obtain rfl : k = n := by omega
   have dk : decide ((k : Int) < (k : Int)) = false := by simp
   have hall := hid fun (h : (k : Int) <= most) => (⟨h, fun x hx => by
    obtain ⟨j, hj⟩ := List.getElem?_of_mem hx
    have := (List.getElem?_eq_some_iff.1 hj).1
    exact hok.out j x (by have := H.out.len; omega) hj⟩ : (k : Int) <= most /\ ∀ x ∈ xs, FewOkX x)
   by_cases hkm : (k : Int) <= most
   ·have dm : decide ((k : Int) <= most) = true := decide_eq_true hkm
    by_cases hz : z <= 5000
    ·have dz : decide (z <= 5000) = true := decide_eq_true hz
     go_wp2
     go_ret
     exact fewX_yes rfl (hall.out hkm) hb.out
    ·have dz : decide (z <= 5000) = false := decide_eq_false hz
     go_wp2
     go_ret
     exact fewX_no rfl hb.out
   ·have dm : decide ((k : Int) <= most) = false := decide_eq_false hkm
    go_wp2
    go_ret
    exact fewX_no rfl hb.out
end
section
def RowV.key (r : RowV) : Int × List UInt8 × List UInt8 × Int :=
 (r.kind, r.client, if r.kind = 2 then r.topic else [], if r.kind = 1 then 0 else if r.kind = 2 then 0 else if r.kind = 3 then r.seq else r.id)
theorem isR_key (a b : RowV) : isR a b = decide (a.key = b.key) := by
 unfold isR RowV.key
 by_cases h : a.kind = b.kind
 ·rw [if_pos h, <- h]
  by_cases h1 : a.kind = 1
  ·simp [h1]
  ·by_cases h2 : a.kind = 2
   ·simp [h2]
   ·by_cases h3 : a.kind = 3
    ·simp [h3]
    ·simp [h1, h2, h3]
 ·rw [if_neg h]
  simp [h]
def keys (l : List RowV) : List (Int × List UInt8 × List UInt8 × Int) := l.map RowV.key
theorem keys_perm {l l' : List RowV} (h : l.Perm l') : (keys l).Perm (keys l') := h.map _
theorem keys_append (l l' : List RowV) : keys (l ++ l') = keys l ++ keys l' := List.map_append
theorem mem_keys {l : List RowV} {k : Int × List UInt8 × List UInt8 × Int} : k ∈ keys l ↔ ∃ z ∈ l, z.key = k := List.mem_map
def butK (A : List RowV) (k : Int × List UInt8 × List UInt8 × Int) : List RowV := A.filter fun z => decide (z.key ≠ k)
theorem mem_butK {A : List RowV} {k : Int × List UInt8 × List UInt8 × Int} {z : RowV} : z ∈ butK A k ↔ z ∈ A /\ z.key ≠ k := by unfold butK; simp
theorem butK_append (A B : List RowV) (k : Int × List UInt8 × List UInt8 × Int) : butK (A ++ B) k = butK A k ++ butK B k := List.filter_append ..
theorem butK_not {A : List RowV} {k : Int × List UInt8 × List UInt8 × Int} (h : k ∉ keys A) : butK A k = A := by
 unfold butK
 rw [List.filter_eq_self]
 intro z hz
 have : z.key ≠ k := fun e => h (mem_keys.2 ⟨z, hz, e⟩)
 simpa using this
theorem butK_of {A : List RowV} (hn : (keys A).Nodup) {y : RowV} (hy : y ∈ A) : A.Perm (y :: butK A y.key) := by
 induction A with
 | nil => cases hy
 | cons x A ih =>
  have hn' : x.key ∉ keys A /\ (keys A).Nodup := List.nodup_cons.1 hn
  rcases List.mem_cons.1 hy with rfl | hy
  ·have : butK (y :: A) y.key = butK A y.key := by unfold butK; rw [List.filter_cons_of_neg (by simp)]
   rw [this, butK_not hn'.1]
  ·have hne : x.key ≠ y.key := fun e => hn'.1 (mem_keys.2 ⟨y, hy, e.symm⟩)
   have : butK (x :: A) y.key = x :: butK A y.key := by unfold butK; rw [List.filter_cons_of_pos (by simpa using hne)]
   rw [this]
   exact ((ih hn'.2 hy).cons x).trans (List.Perm.swap _ _ _)
theorem nodup_butK {A : List RowV} (hn : (keys A).Nodup) (k : Int × List UInt8 × List UInt8 × Int) : (keys (butK A k)).Nodup := hn.sublist (List.Sublist.map _ List.filter_sublist)
def stK (A : List RowV) (c : ChangeV) : List RowV := butK A c.row.key ++ if c.drop = true then [] else [c.row]
theorem nodup_stK {A : List RowV} (hn : (keys A).Nodup) (c : ChangeV) : (keys (stK A c)).Nodup := by
 unfold stK
 split
 ·rw [List.append_nil]; exact nodup_butK hn _
 ·rw [keys_append, List.nodup_append]
  refine ⟨nodup_butK hn _, by simp [keys], fun a ha b hb => ?_⟩
  simp only [keys, List.map_cons, List.map_nil, List.mem_singleton] at hb
  subst hb;obtain ⟨z, hz, rfl⟩ := mem_keys.1 ha
  exact (mem_butK.1 hz).2
theorem applyR_stK {Q A : List RowV} (hp : Q.Perm A) (hn : (keys A).Nodup) (c : ChangeV) (h : c.drop = false \/ c.row.key ∈ keys A) : ∃ Q', applyR Q c = some Q' /\ Q'.Perm (stK A c) := by
 by_cases hm : c.row.key ∈ keys A
 ·obtain ⟨y, hy, he⟩ := mem_keys.1 hm
  have h1 := butK_of hn hy
  rw [he] at h1
  exact applyR_there (hp.trans h1) (by rw [isR_key, he]; simp) (fun z hz => by rw [isR_key]; simp [(mem_butK.1 hz).2])
 ·have hd := h.resolve_right hm
  obtain ⟨Q', h1, h2⟩ := applyR_new (c := c) hp (fun z hz => by rw [isR_key]; exact decide_eq_false fun e => hm (mem_keys.2 ⟨z, hz, e⟩)) hd
  exact ⟨Q', h1, by unfold stK; rw [butK_not hm, hd]; exact h2⟩
theorem applyR_cond {A A' : List RowV} {c : ChangeV} (h : applyR A c = some A') : c.drop = false \/ c.row.key ∈ keys A := by
 by_cases hm : c.row.key ∈ keys A
 ·exact .inr hm
 ·refine .inl ?_
  have h0 := idxOf_none (fun x => isR x c.row) A (fun z hz => by rw [isR_key]; exact decide_eq_false fun e => hm (mem_keys.2 ⟨z, hz, e⟩))
  unfold applyR at h
  dsimp only at h
  rw [h0] at h
  cases hd : c.drop with
  | false => rfl
  | true => rw [hd, if_pos (by simp)] at h; cases h
theorem applies_frame (E : List RowV) : ∀ (cs : List ChangeV) (A A' Q : List RowV), (keys (A ++ E)).Nodup -> appliesR A cs = some A' -> Q.Perm (A ++ E) -> (∀ c ∈ cs, c.row.key ∉ keys E) ->
  ∃ Q', appliesR Q cs = some Q' /\ Q'.Perm (A' ++ E) /\ (keys (A' ++ E)).Nodup
 | [], A, A', Q, hn, h, hp, _ => by cases h; exact ⟨Q, rfl, hp, hn⟩
 | c :: cs, A, A', Q, hn, h, hp, hc => by
  obtain ⟨A1, h1, h2⟩ : ∃ A1, applyR A c = some A1 /\ appliesR A1 cs = some A' := by
   unfold appliesR at h
   cases ha : applyR A c with
   | none => rw [ha] at h; cases h
   | some A1 => rw [ha] at h; exact ⟨A1, rfl, h⟩
  have hcE := hc c (List.mem_cons_self ..)
  have hnA : (keys A).Nodup := by rw [keys_append, List.nodup_append] at hn; exact hn.1
  have hcond : c.drop = false \/ c.row.key ∈ keys (A ++ E) := (applyR_cond h1).imp id (fun h => by rw [keys_append]; exact List.mem_append_left _ h)
  obtain ⟨A2, e1, p1⟩ := applyR_stK (List.Perm.refl A) hnA c (applyR_cond h1)
  obtain rfl : A1 = A2 := by rw [h1] at e1; exact Option.some.inj e1
  obtain ⟨Q1, e2, p2⟩ := applyR_stK hp hn c hcond
  have hst : (stK (A ++ E) c).Perm (A1 ++ E) := by
   refine List.Perm.trans ?_ (p1.symm.append_right E)
   unfold stK
   rw [butK_append, butK_not hcE, List.append_assoc, List.append_assoc]
   exact List.Perm.append_left _ List.perm_append_comm
  have hn1 : (keys (A1 ++ E)).Nodup := ((keys_perm hst).nodup_iff).1 (nodup_stK hn c)
  obtain ⟨Q', e3, p3, n3⟩ := applies_frame E cs A1 A' Q1 hn1 h2 (p2.trans hst) (fun d hd => hc d (List.mem_cons_of_mem _ hd))
  exact ⟨Q', by show (applyR Q c).bind _ = _; rw [e2]; exact e3, p3, n3⟩
end
section
theorem start_len5 (s : OS) (h : s.l.length <= 1000) : (s.start.all.fin s.seq s.id).ps.length <= 5000 /\ (s.start.all.fin s.seq s.id).cs.length <= 5000 := by
 have h1 := all_len s.start h
 have h2 := fin_len s.start.all s.seq s.id
 have e1 : s.start.ps.length = 0 := rfl
 have e2 : s.start.cs.length = 0 := rfl
 exact ⟨by show s.start.all.ps.length <= _; omega, by omega⟩
theorem again_len5 (s : OS) (h : s.l.length <= 1000) : (s.again.all.fin s.seq s.id).ps.length <= 5000 /\ (s.again.all.fin s.seq s.id).cs.length <= 5000 := by
 have h1 := all_len s.again h
 have h2 := fin_len s.again.all s.seq s.id
 have e1 : s.again.ps.length <= s.l.length := anew_len s.l
 have e2 : s.again.cs.length = 0 := rfl
 exact ⟨by show s.again.all.ps.length <= _; omega, by omega⟩
theorem doHear_len5 (s : OS) (k z : Int) (h : s.l.length <= 1000) : (s.doHear k z).ps.length <= 5000 /\ (s.doHear k z).cs.length <= 5000 := by
 have gen : ∀ Y : SS, Nigh s.start Y -> Y.s.l.length <= 1000 -> (Y.all.fin s.seq s.id).ps.length <= 5000 /\ (Y.all.fin s.seq s.id).cs.length <= 5000 := fun Y hY hl => by
  have h1 := all_len Y hl
  have h2 := fin_len Y.all s.seq s.id
  have h3 := hY.ps
  have h4 := hY.cs
  have e1 : s.start.ps.length = 0 := rfl
  have e2 : s.start.cs.length = 0 := rfl
  exact ⟨by show Y.all.ps.length <= _; omega, by omega⟩
 have hg : ∀ n st q, (s.start.goneAt n st q).s.l.length <= 1000 := fun n st q => by
  unfold SS.goneAt
  split
  ·exact h
  ·unfold SS.goneIf
   split
   ·exact h
   ·split
    ·unfold SS.gone
     split
     ·exact h
     ·show (s.l.eraseIdx _).length <= 1000
      have := List.length_eraseIdx_le (l := s.l) (i := n.toNat)
      omega
    ·exact h
 unfold OS.doHear
 split
 ·split
  ·exact gen _ (gone_nigh _ _ _ _) (hg _ _ _)
  ·split
   ·refine gen _ (pubrec_nigh _ _ _) ?_
    unfold SS.rec' SS.pubrec
    split
    ·exact h
    ·split
     ·exact h
     ·split
      ·unfold SS.recv
       split
       ·exact h
       ·split
        ·show (s.l.set _ _).length <= 1000
         rw [List.length_set]; exact h
        ·exact h
      ·exact h
   ·split
    ·exact gen _ (gone_nigh _ _ _ _) (hg _ _ _)
    ·simp
 ·simp
end
section
open Go.RowKit Go.Shelf Go.MapKept Go.ChangeMaps Go.WideElems Go.Sort
def sortK (l : WL) : List (List UInt8) := (l.map Prod.fst).mergeSort leB
def sortW (l : WL) : WL := (sortK l).map fun k => (k, (look l k).getD 0)
theorem sortK_perm (l : WL) : (sortK l).Perm (l.map Prod.fst) := List.mergeSort_perm _ _
theorem sortW_len (l : WL) : (sortW l).length = l.length := by
 unfold sortW
 rw [List.length_map, (sortK_perm l).length_eq, List.length_map]
theorem sortW_mem {l : WL} (hn : (l.map Prod.fst).Nodup) {p : List UInt8 × Int} : p ∈ sortW l ↔ p ∈ l := by
 unfold sortW
 rw [List.mem_map]
 constructor
 ·rintro ⟨k, hk, rfl⟩
  rw [(sortK_perm l).mem_iff] at hk
  obtain ⟨q, hq, rfl⟩ := List.mem_map.1 hk
  have : look l q.1 = some q.2 := (look_some hn).2 hq
  rw [this]
  exact hq
 ·intro hp
  refine ⟨p.1, (sortK_perm l).mem_iff.2 (List.mem_map_of_mem (f := Prod.fst) hp), ?_⟩
  rw [(look_some hn).2 hp]
  rfl
theorem sortK_pair (l : WL) : (sortK l).Pairwise fun a b => a <= b := by
 have h := List.pairwise_mergeSort (le := leB) (fun a b c h1 h2 => by simp only [leB, decide_eq_true_eq] at *; exact List.le_trans h1 h2) (fun a b => by simp only [leB, Bool.or_eq_true, decide_eq_true_eq]; exact List.le_total a b) (l.map Prod.fst)
 refine h.imp ?_
 intro a b hab
 simpa [leB] using hab
theorem sortK_lt {l : WL} (hn : (l.map Prod.fst).Nodup) : (sortK l).Pairwise fun a b => a < b := by
 have h1 := sortK_pair l
 have h2 : (sortK l).Nodup := (sortK_perm l).nodup_iff.2 hn
 refine (h1.and h2).imp ?_
 rintro a b ⟨h, hne⟩
 rcases List.le_iff_lt_or_eq.1 h with h | h
 ·exact h
 ·exact absurd h hne
theorem WM.own {P : Program} {k : TypeId} {w : World} {b : Nat} {l : WL} (h : WM w b l) (hk : P.underlying k = some .string) (hkl : ∀ p ∈ l, p.1.length <= maxLen) (hl : l.length <= maxLen) :
  ∃ D : DataW Unit, w.ownsMap P k (fun _ => some (.nil, [])) b l.length D /\ (strKeys D).Perm (l.map Prod.fst) /\ Maps.size D = l.length := by
 obtain ⟨⟨es, clock, hb, he⟩, hn, hs⟩ := h
 have hlen : es.toList.length = l.length := by have := congrArg List.length he; simpa using this
 have hrd : ∀ x ∈ es.toList, ∃ p ∈ l, WideElems.rd (H := Unit) P k (fun _ => some (.nil, [])) x = some (.string p.1, .nil) /\ x.key = wkey p.1 := by
  intro x hx
  obtain ⟨p, hp, hk1, _⟩ := entries_mem he hx
  refine ⟨p, hp, ?_, hk1⟩
  unfold WideElems.rd
  have h1 := Go.WideMaps.keyOf_string_mk (P := P) (k := k) hk (s := ⟨p.1.toArray⟩) (by simpa [ByteArray.size] using hkl p hp)
  have h2 : x.key = .string ⟨p.1.toArray⟩ := hk1
  rw [h2, h1]
  rfl
 refine ⟨_, ⟨es, clock, hb, ⟨by rw [<- Array.length_toList, hlen]; exact hl, hs _ _ hb, fun x hx => by obtain ⟨p, _, h1, _⟩ := hrd x hx; exact ⟨_, h1⟩⟩, by rw [<- Array.length_toList, hlen]; exact Nat.le_refl _, rfl⟩, ?_, ?_⟩
 ·unfold strKeys
  refine ((WideShapes.sorted_perm _).map _).trans ?_
  rw [List.map_map]
  have e2 : es.toList.map (fun e => e.key) = l.map (fun p => wkey p.1) := by
   have := congrArg (List.map Prod.fst) he
   simpa [List.map_map, Function.comp_def] using this
  have e3 : es.toList.map ((fun p : Lit × DataW Unit => strOf p.1) ∘ WideElems.rg P k fun _ => some (.nil, [])) = l.map Prod.fst := by
   have e4 : ∀ x ∈ es.toList, ((fun p : Lit × DataW Unit => strOf p.1) ∘ WideElems.rg P k fun _ => some (.nil, [])) x = (match x.key with | .string s => s.data.toList | _ => []) := by
    intro x hx
    obtain ⟨p, _, h1, h2⟩ := hrd x hx
    simp only [Function.comp]
    unfold WideElems.rg
    rw [h1, h2]
    rfl
   rw [List.map_congr_left e4]
   have := congrArg (List.map fun v : Value => match v with | .string s => s.data.toList | _ => []) e2
   rw [List.map_map, List.map_map] at this
   refine this.trans (List.map_congr_left fun p _ => ?_)
   rfl
  rw [e3]
 ·show (List.foldr DataW.insert [] _).length = _
  rw [(WideShapes.sorted_perm _).length_eq, List.length_map, hlen]
end
section
def XS.subs' (x : XS) : List RowV := x.wants.map fun p => x.sub p.1 p.2
def XS.ins' (x : XS) : List RowV := x.ids.map fun i : Nat => x.inr (i : Int)
def XS.side (x : XS) : List RowV := x.subs' ++ x.ins'
def XS.bag (x : XS) : List RowV := (x.o.session :: x.o.l) ++ x.side
def XS.rows (x : XS) : List RowV := x.o.session :: ((sortW x.wants).map (fun p => x.sub p.1 p.2) ++ x.o.l ++ (sortI x.ids).map (fun i : Nat => x.inr (i : Int)))
structure PX (W R : Int) (c : List UInt8) (x : XS) : Prop where
 po : PO W R c x.o
 wn : (x.wants.map Prod.fst).Nodup
 w2 : ∀ p ∈ x.wants, subMay (x.sub p.1 p.2) = true /\ p.1.length <= 1000000
 idn : x.ids.Nodup
 id2 : ∀ i ∈ x.ids, 1 <= i /\ i <= 65535
def CRow2 (c : List UInt8) (r : RowV) : Prop :=
 CRow c r \/ (∃ f q, r = ⟨2, c, 0, 0, f, [], q, false, 0⟩ /\ subMay r = true /\ f.length <= 1000000) \/ ∃ i, r = ⟨4, c, 0, i, [], [], 0, false, 0⟩ /\ 1 <= i /\ i <= 65535
structure PXD (W R : Int) (c : List UInt8) (R0 : List RowV) (r : XR) : Prop where
 px : PX W R c r.x
 ap : ∃ R', appliesR R0 r.cs = some R' /\ R'.Perm r.x.bag
 chg : ∀ ch ∈ r.cs, CRow2 c ch.row
theorem key_sub (x : XS) (f : List UInt8) (q : Int) : (x.sub f q).key = (2, x.o.client, f, 0) := rfl
theorem key_inr (x : XS) (i : Int) : (x.inr i).key = (4, x.o.client, [], i) := rfl
theorem key_3 {r : RowV} (h : r.kind = 3) : r.key = (3, r.client, [], r.seq) := by simp [RowV.key, h]
theorem CRow.k13 {c : List UInt8} {r : RowV} (h : CRow c r) : r.kind = 1 \/ r.kind = 3 := by
 rcases h with h | ⟨q, i, rfl, _⟩
 ·exact .inr h.1
 ·exact .inl rfl
theorem key_kind (r : RowV) : r.key.1 = r.kind := rfl
theorem keys_subs (x : XS) : keys x.subs' = (x.wants.map Prod.fst).map fun f => (2, x.o.client, f, 0) := by
 unfold keys XS.subs'
 rw [List.map_map, List.map_map]
 rfl
theorem keys_inr (x : XS) : keys x.ins' = x.ids.map fun i : Nat => ((4 : Int), x.o.client, ([] : List UInt8), (i : Int)) := by
 unfold keys XS.ins'
 rw [List.map_map]
 rfl
theorem side_kind (x : XS) : ∀ k ∈ keys x.side, k.1 = 2 \/ k.1 = 4 := fun k hk => by
 unfold XS.side at hk
 rw [keys_append, List.mem_append, keys_subs, keys_inr] at hk
 rcases hk with hk | hk
 ·obtain ⟨f, _, rfl⟩ := List.mem_map.1 hk; exact .inl rfl
 ·obtain ⟨f, _, rfl⟩ := List.mem_map.1 hk; exact .inr rfl
theorem main_kind {W R : Int} {c : List UInt8} {s : OS} (h : PO W R c s) : ∀ k ∈ keys (s.session :: s.l), k.1 = 1 \/ k.1 = 3 := fun k hk => by
 obtain ⟨z, hz, rfl⟩ := mem_keys.1 hk
 rcases List.mem_cons.1 hz with rfl | hz
 ·exact .inl rfl
 ·exact .inr (h.row z hz).1
theorem nodup_main {W R : Int} {c : List UInt8} {s : OS} (h : PO W R c s) : (keys (s.session :: s.l)).Nodup := by
 refine List.nodup_cons.2 ⟨fun hm => ?_, ?_⟩
 ·obtain ⟨z, hz, he⟩ := mem_keys.1 hm
  have h1 := (h.row z hz).1
  have : z.key.1 = (OS.session s).key.1 := by rw [he]
  rw [key_kind, key_kind, h1] at this
  cases this
 ·have : keys s.l = s.l.map fun r => (3, c, [], r.seq) := List.map_congr_left fun r hr => by rw [key_3 (h.row r hr).1, (h.row r hr).2.2.2.1]
  show (keys s.l).Nodup
  rw [this]
  have hs := h.wn.rg.nodup
  rw [show s.l.map (fun r => ((3 : Int), c, ([] : List UInt8), r.seq)) = (s.l.map RowV.seq).map fun q => ((3 : Int), c, ([] : List UInt8), q) by rw [List.map_map]; rfl]
  exact List.Pairwise.map _ (fun a b hab e => hab (by simpa using e)) hs
theorem nodup_side {W R : Int} {c : List UInt8} {x : XS} (h : PX W R c x) : (keys x.side).Nodup := by
 unfold XS.side
 rw [keys_append, List.nodup_append, keys_subs, keys_inr]
 refine ⟨List.Pairwise.map _ (fun a b hab e => hab (by simpa using e)) h.wn, List.Pairwise.map _ (fun a b hab e => hab (by simp at e; omega)) h.idn, fun a ha b hb e => ?_⟩
 obtain ⟨f, _, rfl⟩ := List.mem_map.1 ha
 obtain ⟨i, _, rfl⟩ := List.mem_map.1 hb
 simp at e
theorem PX.nodup {W R : Int} {c : List UInt8} {x : XS} (h : PX W R c x) : (keys x.bag).Nodup := by
 unfold XS.bag
 rw [keys_append, List.nodup_append]
 refine ⟨nodup_main h.po, nodup_side h, fun a ha b hb e => ?_⟩
 have h1 := main_kind h.po a ha
 have h2 := side_kind x b hb
 rw [e] at h1
 omega
theorem sortW_perm {l : WL} (hn : (l.map Prod.fst).Nodup) : (sortW l).Perm l := by
 have hk : ((sortW l).map Prod.fst) = sortK l := by unfold sortW; rw [List.map_map]; exact List.map_id' (sortK l)
 have hn2 : (sortW l).Nodup := by
  have : ((sortW l).map Prod.fst).Nodup := by rw [hk]; exact (sortK_perm l).nodup_iff.2 hn
  exact List.Pairwise.imp (fun hab e => hab (by rw [e])) (List.pairwise_map.1 this)
 have hn3 : l.Nodup := List.Pairwise.imp (fun hab e => hab (by rw [e])) (List.pairwise_map.1 hn)
 exact (List.perm_ext_iff_of_nodup hn2 hn3).2 fun p => sortW_mem hn
theorem PX.rows_perm {W R : Int} {c : List UInt8} {x : XS} (h : PX W R c x) : x.rows.Perm x.bag := by
 have h1 : ((sortW x.wants).map (fun p => x.sub p.1 p.2)).Perm x.subs' := List.Perm.map _ (sortW_perm h.wn)
 have h2 : ((sortI x.ids).map (fun i : Nat => x.inr (i : Int))).Perm x.ins' := List.Perm.map _ (sortI_perm h.idn (fun i hi => by have := h.id2 i hi; omega))
 unfold XS.rows XS.bag XS.side
 rw [List.cons_append]
 refine List.Perm.cons _ ?_
 rw [<- List.append_assoc]
 exact (List.Perm.append ((List.Perm.append_right _ h1).trans List.perm_append_comm) h2)
theorem XS.side_o (x : XS) (s : OS) (h : s.client = x.o.client) : XS.side { x with o := s } = x.side := by
 unfold XS.side XS.subs' XS.ins' XS.sub XS.inr
 rw [h]
section
variable {W R : Int} {c : List UInt8} {x : XS} {R0 : List RowV}
theorem PX.same (h : PX W R c x) (hp : R0.Perm x.bag) (ps : List PackV) : PXD W R c R0 ⟨x, ps, []⟩ := ⟨h, ⟨R0, rfl, hp⟩, fun _ hc => by cases hc⟩
theorem PX.reo (h : PX W R c x) {s : OS} (hs : PO W R c s) : PX W R c { x with o := s } := by
 have hc : s.client = x.o.client := hs.cl.trans h.po.cl.symm
 refine ⟨hs, h.wn, fun p hp => ?_, h.idn, h.id2⟩
 have := h.w2 p hp
 unfold XS.sub at this ⊢
 rw [hc]
 exact this
theorem PX.out (h : PX W R c x) (hp : R0.Perm x.bag) {X : SS} (hd : PD W R c (x.o.session :: x.o.l) X) (ps : List PackV) : PXD W R c R0 ⟨{ x with o := X.s }, ps, X.cs⟩ := by
 obtain ⟨A', h1, h2⟩ := hd.ap
 obtain ⟨Q', e1, p1, n1⟩ := applies_frame x.side X.cs _ _ R0 h.nodup h1 hp (fun ch hc hm => by
  have k1 := (hd.chg ch hc).k13
  have k2 := side_kind x _ hm
  rw [key_kind] at k2
  omega)
 refine ⟨h.reo hd.po, ⟨Q', e1, p1.trans ?_⟩, fun ch hc => .inl (hd.chg ch hc)⟩
 unfold XS.bag
 rw [XS.side_o x X.s (hd.po.cl.trans h.po.cl.symm)]
 exact h2.append_right _
theorem PXD.app {r : XR} {r2 : XR} (h : PXD W R c R0 r) (h2 : ∀ R1, R1.Perm r.x.bag -> PXD W R c R1 r2) (ps : List PackV) : PXD W R c R0 ⟨r2.x, ps, r.cs ++ r2.cs⟩ := by
 obtain ⟨R1, e1, p1⟩ := h.ap
 have h3 := h2 R1 p1
 obtain ⟨R2, e2, p2⟩ := h3.ap
 refine ⟨h3.px, ⟨R2, by rw [appliesR_append, e1]; exact e2, p2⟩, fun ch hc => ?_⟩
 rcases List.mem_append.1 hc with hc | hc
 ·exact h.chg ch hc
 ·exact h3.chg ch hc
theorem one_ap {R1 R' : List RowV} {ch : ChangeV} (h : applyR R1 ch = some R') : appliesR R1 [ch] = some R' := by
 show (applyR R1 ch).bind _ = _
 rw [h]
 rfl
theorem main_not (h : PX W R c x) {k : Int × List UInt8 × List UInt8 × Int} (hk : k.1 = 2 \/ k.1 = 4) : k ∉ keys (x.o.session :: x.o.l) := fun hm => by
 have := main_kind h.po k hm
 omega
theorem but_subs (x : XS) (f : List UInt8) : butK x.subs' (2, x.o.client, f, 0) = XS.subs' { x with wants := del x.wants f } := by
 unfold butK XS.subs' del
 rw [List.filter_map]
 congr 1
 refine List.filter_congr fun p _ => ?_
 show decide ((x.sub p.1 p.2).key ≠ (2, x.o.client, f, 0)) = decide (p.1 ≠ f)
 rw [key_sub]
 simp
theorem but_ins2 (x : XS) (f : List UInt8) : butK x.ins' (2, x.o.client, f, 0) = x.ins' := butK_not fun hm => by
 rw [keys_inr] at hm
 obtain ⟨i, _, he⟩ := List.mem_map.1 hm
 simp at he
theorem but_subs4 (x : XS) (i : Int) : butK x.subs' (4, x.o.client, [], i) = x.subs' := butK_not fun hm => by
 rw [keys_subs] at hm
 obtain ⟨f, _, he⟩ := List.mem_map.1 hm
 simp at he
theorem PX.wanted (h : PX W R c x) (f : List UInt8) (q : Int) (hm : subMay (x.sub f q) = true) (hf : f.length <= 1000000) : PX W R c { x with wants := ins x.wants f q } := by
 refine ⟨h.po, nodup_ins h.wn f q, fun p hp => ?_, h.idn, h.id2⟩
 show subMay (x.sub p.1 p.2) = true /\ _
 unfold ins at hp
 dsimp only at hp
 split at hp
 ·obtain ⟨p0, hp0, rfl⟩ := List.mem_map.1 hp
  by_cases he : p0.1 = f
  ·rw [if_pos he]; rw [he]; exact ⟨hm, hf⟩
  ·rw [if_neg he]; exact h.w2 p0 hp0
 ·rcases List.mem_append.1 hp with hp | hp
  ·exact h.w2 p hp
  ·simp at hp; subst hp; exact ⟨hm, hf⟩
theorem ins_perm {l : WL} (hn : (l.map Prod.fst).Nodup) (f : List UInt8) (q : Int) : (ins l f q).Perm (del l f ++ [(f, q)]) := by
 unfold ins
 split
 ·rename_i hs
  induction l with
  | nil => simp [look] at hs
  | cons p l ih =>
   have hn' := List.nodup_cons.1 hn
   by_cases he : p.1 = f
   ·have hnot : ∀ y ∈ l, y.1 ≠ f := fun y hy e => hn'.1 (by rw [he, <- e]; exact List.mem_map_of_mem hy)
    have e1 : l.map (fun p => if p.1 = f then (p.1, q) else p) = l := by
     refine (List.map_congr_left fun y hy => ?_).trans (List.map_id l)
     rw [if_neg (hnot y hy)]; rfl
    have e2 : del (p :: l) f = l := by
     unfold del
     rw [List.filter_cons_of_neg (by simp [he]), List.filter_eq_self]
     intro y hy
     simpa using hnot y hy
    rw [List.map_cons, e1, e2, if_pos he, he]
    exact (List.perm_append_singleton _ _).symm
   ·have e2 : del (p :: l) f = p :: del l f := by unfold del; rw [List.filter_cons_of_pos (by simpa using he)]
    rw [List.map_cons, if_neg he, e2]
    refine (ih hn'.2 ?_).cons p
    unfold look at hs ⊢
    rw [List.find?_cons_of_neg (by simpa using he)] at hs
    exact hs
 ·rename_i hs
  have : look l f = none := by simpa using hs
  rw [del_none this]
theorem sub_eq (h : PX W R c x) (f : List UInt8) (q : Int) : x.sub f q = ⟨2, c, 0, 0, f, [], q, false, 0⟩ := by unfold XS.sub; rw [h.po.cl]
theorem inr_eq (h : PX W R c x) (i : Int) : x.inr i = ⟨4, c, 0, i, [], [], 0, false, 0⟩ := by unfold XS.inr; rw [h.po.cl]
theorem PX.want (h : PX W R c x) (hp : R0.Perm x.bag) (f : List UInt8) (q : Int) (hf : f.length <= 1000000) : PXD W R c R0 ⟨x.want f q, [], x.wantC f q⟩ := by
 unfold XS.want XS.wantC
 by_cases hc : x.wantE f q = 0 /\ look x.wants f ≠ some q
 ·rw [if_pos hc, if_pos hc]
  have hm : subMay (x.sub f q) = true := by
   have h1 := hc.1
   unfold XS.wantE at h1
   by_cases hh : subMay (x.sub f q) = true
   ·exact hh
   ·rw [if_neg hh] at h1; cases h1
  obtain ⟨Q, h1, h2⟩ := applyR_stK hp h.nodup ⟨false, x.sub f q⟩ (.inl rfl)
  refine ⟨h.wanted f q hm hf, ⟨Q, one_ap h1, h2.trans ?_⟩, fun ch hch => ?_⟩
  ·show (butK x.bag (x.sub f q).key ++ [x.sub f q]).Perm _
   unfold XS.bag XS.side
   rw [key_sub, butK_append, butK_append, butK_not (main_not h (.inl rfl)), but_subs, but_ins2, List.append_assoc]
   refine List.Perm.append_left _ ?_
   have hw : (XS.subs' { x with wants := ins x.wants f q }).Perm (XS.subs' { x with wants := del x.wants f } ++ [x.sub f q]) := by
    have := (ins_perm h.wn f q).map (fun p => x.sub p.1 p.2)
    rw [List.map_append] at this
    exact this
   rw [List.append_assoc]
   refine List.Perm.trans ?_ (hw.symm.append_right _)
   rw [List.append_assoc]
   exact List.Perm.append_left _ List.perm_append_comm
  ·simp only [List.mem_singleton] at hch
   subst hch;exact .inr (.inl ⟨f, q, sub_eq h f q, hm, hf⟩)
 ·rw [if_neg hc, if_neg hc]
  exact h.same hp _
theorem PX.unwanted (h : PX W R c x) (f : List UInt8) : PX W R c { x with wants := del x.wants f } :=
 ⟨h.po, nodup_del h.wn f, fun p hp => h.w2 p (List.mem_filter.1 hp |>.1), h.idn, h.id2⟩
theorem PX.unwant (h : PX W R c x) (hp : R0.Perm x.bag) (f : List UInt8) : PXD W R c R0 (x.unwant f) := by
 unfold XS.unwant
 by_cases hm : filterR f = true
 ·rw [if_pos hm]
  cases hl : look x.wants f with
  | none => exact h.same hp _
  | some q =>
   have hin : (f, q) ∈ x.wants := (look_some h.wn).1 hl
   have hk : (x.sub f q).key ∈ keys x.bag := mem_keys.2 ⟨x.sub f q, List.mem_append_right _ (List.mem_append_left _ (List.mem_map.2 ⟨(f, q), hin, rfl⟩)), rfl⟩
   obtain ⟨Q, h1, h2⟩ := applyR_stK hp h.nodup ⟨true, x.sub f q⟩ (.inr hk)
   have hs := h.w2 _ hin
   refine ⟨h.unwanted f, ⟨Q, one_ap h1, h2.trans ?_⟩, fun ch hch => ?_⟩
   ·show (butK x.bag (x.sub f q).key ++ []).Perm _
    unfold XS.bag XS.side
    rw [List.append_nil, key_sub, butK_append, butK_append, butK_not (main_not h (.inl rfl)), but_subs, but_ins2]
    exact List.Perm.refl _
   ·simp only [List.mem_singleton] at hch
    subst hch;exact .inr (.inl ⟨f, q, sub_eq h f q, hs.1, hs.2⟩)
 ·rw [if_neg hm]
  exact h.same hp _
theorem but_ins (x : XS) (z : Int) (hz : 1 <= z) (hn : x.ids.Nodup) : butK x.ins' (4, x.o.client, [], z) = XS.ins' { x with ids := x.ids.erase z.toNat } := by
 unfold butK XS.ins'
 rw [List.filter_map]
 dsimp only
 rw [hn.erase_eq_filter]
 show List.map _ _ = List.map _ _
 congr 1
 refine List.filter_congr fun i _ => ?_
 show decide ((x.inr (i : Nat)).key ≠ (4, x.o.client, [], z)) = _
 rw [key_inr]
 by_cases he : i = z.toNat
 ·subst he
  have : ((z.toNat : Nat) : Int) = z := by omega
  simp [this]
 ·have h2 : (i : Int) ≠ z := by omega
  simp [he, h2]
theorem PX.came (h : PX W R c x) (hp : R0.Perm x.bag) (z : Int) : PXD W R c R0 (x.came z) := by
 unfold XS.came
 split
 ·rename_i hc
  obtain ⟨hz, hnot, hr⟩ := hc
  have hzz : ((z.toNat : Nat) : Int) = z := by omega
  have hnk : (x.inr z).key ∉ keys x.bag := fun hm => by
   unfold XS.bag XS.side at hm
   rw [keys_append, keys_append, List.mem_append, List.mem_append, key_inr, keys_subs, keys_inr] at hm
   rcases hm with hm | hm | hm
   ·exact main_not h (.inr rfl) hm
   ·obtain ⟨f, _, he⟩ := List.mem_map.1 hm; simp at he
   ·obtain ⟨i, hi, he⟩ := List.mem_map.1 hm
    simp at he
    exact hnot (by rw [<- he]; simpa using hi)
  obtain ⟨Q, h1, h2⟩ := applyR_stK hp h.nodup ⟨false, x.inr z⟩ (.inl rfl)
  refine ⟨⟨h.po, h.wn, h.w2, List.nodup_cons.2 ⟨hnot, h.idn⟩, fun i hi => ?_⟩, ⟨Q, one_ap h1, h2.trans ?_⟩, fun ch hch => ?_⟩
  ·rcases List.mem_cons.1 hi with rfl | hi
   ·omega
   ·exact h.id2 i hi
  ·show (butK x.bag (x.inr z).key ++ [x.inr z]).Perm _
   rw [butK_not hnk]
   unfold XS.bag XS.side
   rw [List.append_assoc]
   refine List.Perm.append_left _ ?_
   show (x.subs' ++ x.ins' ++ [x.inr z]).Perm (x.subs' ++ (x.inr ((z.toNat : Nat) : Int) :: x.ins'))
   rw [hzz, List.append_assoc]
   exact List.Perm.append_left _ (List.perm_append_singleton _ _)
  ·simp only [List.mem_singleton] at hch
   subst hch;exact .inr (.inr ⟨z, inr_eq h z, hz⟩)
 ·exact h.same hp _
theorem PX.rel (h : PX W R c x) (hp : R0.Perm x.bag) (z : Int) : PXD W R c R0 (x.rel z) := by
 unfold XS.rel
 split
 ·rename_i hz
  have hzz : ((z.toNat : Nat) : Int) = z := by omega
  split
  ·rename_i hin
   have hk : (x.inr z).key ∈ keys x.bag := mem_keys.2 ⟨x.inr z, List.mem_append_right _ (List.mem_append_right _ (List.mem_map.2 ⟨z.toNat, hin, by rw [hzz]⟩)), rfl⟩
   obtain ⟨Q, h1, h2⟩ := applyR_stK hp h.nodup ⟨true, x.inr z⟩ (.inr hk)
   refine ⟨⟨h.po, h.wn, h.w2, h.idn.erase _, fun i hi => h.id2 i (List.mem_of_mem_erase hi)⟩, ⟨Q, one_ap h1, h2.trans ?_⟩, fun ch hch => ?_⟩
   ·show (butK x.bag (x.inr z).key ++ []).Perm _
    unfold XS.bag XS.side
    rw [List.append_nil, key_inr, butK_append, butK_append, butK_not (main_not h (.inr rfl)), but_subs4, but_ins x z hz.1 h.idn]
    exact List.Perm.refl _
   ·simp only [List.mem_singleton] at hch
    subst hch;exact .inr (.inr ⟨z, inr_eq h z, hz⟩)
  ·exact h.same hp _
 ·exact h.same hp _
theorem PX.hear (h : PX W R c x) (hp : R0.Perm x.bag) (hs : x.o.seq + 1 <= 4611686018427387904) (k z : Int) : PXD W R c R0 (x.hear k z) := by
 unfold XS.hear
 split
 ·exact h.rel hp z
 ·have := h.out hp (h.po.does (List.Perm.refl _) hs ⟨3, 0, [], [], false, k, z⟩ (by simp)) (x.o.doHear k z).ps
  exact this
theorem PX.anew (h : PX W R c x) (hp : R0.Perm x.bag) (hs : x.o.seq + 1 <= 4611686018427387904) : PXD W R c R0 x.anew :=
 h.out hp (h.po.does (List.Perm.refl _) hs ⟨4, 0, [], [], false, 0, 0⟩ (by simp)) _
theorem PX.give (h : PX W R c x) (hp : R0.Perm x.bag) (hs : x.o.seq + 2 <= 4611686018427387904) (topic body : List UInt8) (qos : Int) (retain : Bool) (ht : topic.length <= 1000000) : PXD W R c R0 (x.give topic body qos retain) := by
 unfold XS.give
 split
 ·split
  ·exact h.same hp _
  ·split
   ·rename_i hm
    have hd : PD W R c (x.o.session :: x.o.l) ⟨x.o.put (x.o.row topic body qos retain), [], [⟨false, x.o.row topic body qos retain⟩, ⟨false, (x.o.put (x.o.row topic body qos retain)).session⟩]⟩ := by
     have := h.po.does (List.Perm.refl _) (by omega) ⟨1, qos, topic, body, retain, 0, 0⟩ ht
     unfold OS.does OS.doPut at this
     rw [if_pos rfl, if_pos hm] at this
     exact this
    have h1 := h.out hp hd []
    split
    ·refine h1.app (r2 := ⟨{ x with o := ((x.o.put (x.o.row topic body qos retain)).start.all.fin (x.o.seq + 1) x.o.id).s }, [], ((x.o.put (x.o.row topic body qos retain)).start.all.fin (x.o.seq + 1) x.o.id).cs⟩) (fun R1 hp1 => ?_) _
     exact h1.px.out hp1 (h1.px.po.does (List.Perm.refl _) (by show x.o.seq + 1 + 1 <= _; omega) ⟨2, 0, [], [], false, 0, 0⟩ (by simp)) []
    ·exact h1
   ·exact h.same hp _
 ·exact h.same hp _
theorem PX.comes (h : PX W R c x) (clean : Bool) (keep : Int) (v : Option WillV) (now : Int) : PX W R c (x.comes clean keep v now) := by
 unfold XS.comes
 split
 ·exact ⟨h.po, h.wn, h.w2, h.idn, h.id2⟩
 ·exact h
theorem PX.goes (h : PX W R c x) : PX W R c x.goes := ⟨h.po, h.wn, h.w2, h.idn, h.id2⟩
theorem PX.hears (h : PX W R c x) (now : Int) : PX W R c (x.hears now) := ⟨h.po, h.wn, h.w2, h.idn, h.id2⟩
theorem bag_comes (x : XS) (clean : Bool) (keep : Int) (v : Option WillV) (now : Int) : (x.comes clean keep v now).bag = x.bag := by
 unfold XS.comes
 split <;> rfl
end
end
end Go.Proofs.YtoinabapaeebfaaGreatDoor
