/- Parts of the proof of SessionRows: contracts of functions that it reaches, and plain lemmas. No condition of their own. -/
import Derived.Test.YtoinabapaeebfaaGreatDoorPk19
import Derived.Test.YtoinabapaeebfaaGreatDoorPk16
import Derived.Test.YtoinabapaeebfaaGreatDoorPk13
set_option linter.unusedSimpArgs false
set_option linter.unusedVariables false
set_option maxRecDepth 100000
set_option maxHeartbeats 8000000
namespace Go.Proofs.YtoinabapaeebfaaGreatDoor
open Go.RowKit Go.Shelf
section
def eqRow (x y : RowV) : Bool := decide (x.kind = y.kind /\ x.client = y.client /\ x.seq = y.seq /\ x.id = y.id /\ x.topic = y.topic /\ x.body = y.body /\ x.qos = y.qos /\ x.retain = y.retain /\ x.stage = y.stage)
theorem eqRow_iff (x y : RowV) : eqRow x y = true ↔ x = y := by
 obtain ⟨ak, ac, as_, ai, at_, ab, aq, ar, ag⟩ := x
 obtain ⟨bk, bc, bs_, bi, bt, bb, bq, br, bg⟩ := y
 simp [eqRow]
theorem run_rows_neq (x y : RowV) (w : World) : (binOp .neq 33 (.agg x.vals) (.agg y.vals)).run Tryz.prog w = .ok (.bool (!eqRow x y)) w := by
 obtain ⟨ak, ac, as_, ai, at_, ab, aq, ar, ag⟩ := x
 obtain ⟨bk, bc, bs_, bi, bt, bb, bq, br, bg⟩ := y
 unfold RowV.vals eqRow
 go_simp;by_cases h1 : ak = bk
 ·by_cases h2 : ac = bc
  ·by_cases h3 : as_ = bs_
   ·by_cases h4 : ai = bi
    ·by_cases h5 : at_ = bt
     ·by_cases h6 : ab = bb
      ·by_cases h7 : aq = bq
       ·by_cases h8 : ar = br
        ·by_cases h9 : ag = bg
         ·simp [h1, h2, h3, h4, h5, h6, h7, h8, h9]
         ·simp [h1, h2, h3, h4, h5, h6, h7, h8, h9]
        ·simp [h1, h2, h3, h4, h5, h6, h7, h8]
       ·simp [h1, h2, h3, h4, h5, h6, h7]
      ·simp [h1, h2, h3, h4, h5, h6]
     ·simp [h1, h2, h3, h4, h5]
    ·simp [h1, h2, h3, h4]
   ·simp [h1, h2, h3]
  ·simp [h1, h2]
 ·simp [h1]
theorem run_rows_guard (x y : RowV) (s1 s2 : Operand) (w : World) : (eqGuard .neq 33 s1 s2 (.agg x.vals) (.agg y.vals)).run Tryz.prog w = .ok () w := by
 obtain ⟨ak, ac, as_, ai, at_, ab, aq, ar, ag⟩ := x
 obtain ⟨bk, bc, bs_, bi, bt, bb, bq, br, bg⟩ := y
 unfold RowV.vals
 go_simp
theorem r22_SameRows (l1 l2 : List RowV) (b1 b2 : Nat) (a1 a2 : Option Addr) (n1 n2 c1 c2 : Nat) (w : World) (h1 : w.ownsRow b1 33 9 (.slice a1 n1 c1) n1 (l1.flatMap RowV.cl)) (h2 : w.ownsRow b2 33 9 (.slice a2 n2 c2) n2 (l2.flatMap RowV.cl))
  (hn1 : l1.length = n1) (hn2 : l2.length = n2) (hl : n1 <= 1000000) :
  Calls Tryz.prog 15 #[.slice a1 n1 c1, .slice a2 n2 c2] w fun e w' => ∃ b, e = .returned (.bool b) /\ (b = true ↔ l1 = l2) /\ Below w.heap.size w w' := by
 by_cases hne : n1 = n2
 ·subst hne
  have hV1 := hid h1;have hV2 := hid h2;have hn1 := hid hn1;have hn2 := hid hn2;have dn : ((n1 : Int) == (n1 : Int)) = true := by simp
  clear h1 h2;go_enter Tryz.func15, Tryz.ntmps15
  go_wp2_with fail
  go_loopw [5] (fun i wr => ∃ k : Nat, i = .int .i64 k /\ k <= n1 /\ Hid (Below w.heap.size w wr) /\ Hid (∀ j x y, j < k -> l1[j]? = some x -> l2[j]? = some y -> x = y)) (fun i _ => n1 - (intOf i).toNat)
  case atStart => exact ⟨0, rfl, Nat.zero_le _, hid (Below.refl _ _), hid fun j x y h => absurd h (by omega)⟩
  case round =>
   obtain ⟨k, rfl, hk1, hbr, hall⟩ := hrel
   rcases Nat.lt_or_ge k n1 with hlt | hge
   ·have dk : decide ((k : Int) < (n1 : Int)) = true := decide_eq_true (by omega)
    obtain ⟨x, hx⟩ : ∃ x, l1[k]? = some x := ⟨_, List.getElem?_eq_getElem (by have := hn1.out; omega)⟩
    obtain ⟨y, hy⟩ : ∃ y, l2[k]? = some y := ⟨_, List.getElem?_eq_getElem (by have := hn2.out; omega)⟩
    obtain ⟨g1, hag1, -, hrow1⟩ := own_range RowV.cl RowV.cllen (l := l1) (n := n1) hn1.out (ownsRow_below hV1.out hbr.out) (k := k) (x := x) hx
    obtain ⟨g2, hag2, -, hrow2⟩ := own_range RowV.cl RowV.cllen (l := l2) (n := n1) hn2.out (ownsRow_below hV2.out hbr.out) (k := k) (x := y) hy
    subst hag1;subst hag2;have hrow1' : wr.drew.rangeAt g1 (k * 9) x.cl := hrow1
    have hrow2' : wr.drew.rangeAt g2 (k * 9) y.cl := hrow2
    have hq := run_rows_neq x y
    have hbw := hid hbr.out.drew;obtain ⟨bv, hbv⟩ : ∃ b, eqRow x y = b := ⟨_, rfl⟩
    rw [hbv] at hq
    have hx := hid hx;have hy := hid hy;have hbv := hid hbv;obtain ⟨xv, hxv⟩ : ∃ v, (Value.agg x.cl.toArray) = v := ⟨_, rfl⟩
    obtain ⟨yv, hyv⟩ : ∃ v, (Value.agg y.cl.toArray) = v := ⟨_, rfl⟩
    have hq' : ∀ w, (binOp .neq 33 xv yv).run Tryz.prog w = .ok (.bool (!bv)) w := by rw [<- hxv, <- hyv]; exact hq
    have hgu : ∀ s1 s2 w, (eqGuard .neq 33 s1 s2 xv yv).run Tryz.prog w = .ok () w := by rw [<- hxv, <- hyv]; exact run_rows_guard x y
    clear hq;go_wp2_with fail
    refine regionQ [(1000, fun w' => w'.rangeAt g1 (k * 9) x.cl), (1000, fun w' => w'.rangeAt g2 (k * 9) y.cl)] (by kernel_rfl) ⟨hrow1', hrow2', trivial⟩ fun KQ hKQ => ?_
    refine tQ [0, 1, 2] ?_;refine lR 3 0 rfl rfl rfl rfl (v := .agg (x.cl : List Value).toArray) (fun w' hf => run_loadAt_mid w' _ _ 33 (x.cl : List Value) _ hf Tryz.underlying33 rfl (by kernel_rfl)) ?_
    simp only [PT];refine tQ [4, 5, 6] ?_;refine lR 7 1 rfl rfl rfl rfl (v := .agg (y.cl : List Value).toArray) (fun w' hf => run_loadAt_mid w' _ _ 33 (y.cl : List Value) _ hf Tryz.underlying33 rfl (by kernel_rfl)) ?_
    simp only [PT];rw [hxv, hyv]
    refine tQ [8] ?_;refine dQ (hKQ.out _ _ ?_);clear hKQ KQ;rcases bv with _ | _
    ·go_wp2_with fail
     go_ret
     refine ⟨false, rfl, ?_, hbw.out⟩
     constructor
     ·intro h; cases h
     ·intro h
      subst h;have := hx.out.symm.trans hy.out
      cases this
      have h2 := (eqRow_iff x x).2 rfl
      rw [hbv.out] at h2
      cases h2
    ·go_wp2_with fail
     go_roundw
     case rel =>
      refine ⟨k + 1, by go_num, by omega, hbw, hid fun j x' y' hj h1 h2 => ?_⟩
      by_cases hjk : j = k
      ·subst hjk
       rw [hx.out] at h1
       rw [hy.out] at h2
       cases h1
       cases h2
       exact (eqRow_iff _ _).1 hbv.out
      ·exact hall.out j x' y' (by omega) h1 h2
     case measure => simp [intOf]; omega
   ·obtain rfl : k = n1 := by omega
    have dk : decide ((k : Int) < (k : Int)) = false := by simp
    go_wp2_with fail
    go_ret
    refine ⟨true, rfl, ⟨fun _ => ?_, fun _ => rfl⟩, hbr.out⟩
    apply List.ext_getElem
    ·rw [hn1.out, hn2.out]
    ·intro j h1 h2
     exact hall.out j _ _ (by have := hn1.out; omega) (List.getElem?_eq_getElem h1) (List.getElem?_eq_getElem h2)
 ·have dn : ((n1 : Int) == (n2 : Int)) = false := by simp; omega
  have hne' : l1 ≠ l2 := fun h => hne (by rw [<- hn1, <- hn2, h])
  have hne' := hid hne';clear h1 h2 hne hn1 hn2;go_enter Tryz.func15, Tryz.ntmps15
  go_wp2_with fail
  go_ret
  exact ⟨false, rfl, ⟨fun h => (by cases h), fun h => absurd h hne'.out⟩, Below.refl _ _⟩
end
section
section
variable {P : Program} {w : World} {t e : TypeId} {z : Value} {size bytes : Nat}
theorem run_append_m (ty : TypeId) (E : ElemT P t e z size bytes) (hsz : 0 < size) (base : Nat) (v : Value) (n : Nat) (xs : List Value) (hown : w.ownsRow base e size v n xs)
  (a : Addr) (m c : Nat) (hm1 : 0 < m) (news : List Value) (hl : news.length = m * size) (hnews : ∀ j u, news[j]? = some u -> w.cell? (a.add j) = some u) (h1 : ∀ u ∈ news, u.oneCell' = true)
  (h63 : n + m < 100000000) (hbytes : (n + m) * bytes <= 140737488355328) (hbase : base <= w.heap.size) :
  ∃ v' w', (Builtin.append_ #[t, t] ty #[v, .slice (some a) m c]).run P w = .ok v' w' /\ w'.ownsRow base e size v' (n + m) (xs ++ news) /\ w.grownBy w' v.ownBlock /\ (∀ k, v'.ownBlock = some k -> v.ownBlock = some k \/ w.heap.size <= k) := by
 obtain ⟨i, hi, hz0, hz1, hz2⟩ := info_parts E.info
 have hm : n + m <= maxLen := by unfold maxLen; omega
 obtain ⟨v', w', hr, h2, h3, _⟩ := run_append_own (P := P) w base t ty e i z size bytes E.ht hi hz0 hz1 hz2 E.hzs hsz v n xs hown a m c news hl hnews h1 hm hbytes hbase
 refine ⟨v', w', hr, h2, h3, fun k hk => ?_⟩
 have hl2 : news.length = m * i.size := by rw [hz1]; exact hl
 rcases hown.2 with ⟨rfl, rfl⟩ | ⟨g, cap, cur, rfl, hbg, hg, hnc, hcm, hcs, htake⟩
 ·have hr2 := run_append_nil (P := P) w t ty e i z E.ht hi hz0 a m c news hl2 hnews (by omega) (by omega) (by rw [hz2]; simp at hbytes; omega)
  rw [hr] at hr2
  cases hr2
  simp [Value.ownBlock] at hk
  exact .inr (by omega)
 ·by_cases hroom : n + m <= cap
  ·have hfit : n * i.size + news.length <= cur.size := by rw [hl, hcs, hz1, <- Nat.add_mul]; exact Nat.mul_le_mul_right _ hroom
   have hr2 := run_append_room (P := P) w t ty e i E.ht hi g n cap cur hg a m c news hl2 hnews h1 hroom hfit
   rw [hr] at hr2
   cases hr2
   exact .inl hk
  ·have holds : ∀ j u, xs[j]? = some u -> w.cell? ((⟨g, 0, none⟩ : Addr).add j) = some u := hown.cells (g := g) rfl
   have hr2 := run_append_grow (P := P) w t ty e i z E.ht hi hz0 ⟨g, 0, none⟩ n cap xs (by rw [hz1]; exact hown.1) holds a m c news hl2 hnews (by omega) (by unfold maxLen at hm; omega) (growslice_fits (by omega) (by rw [hz2]; exact hbytes))
   rw [hr] at hr2
   cases hr2
   simp [Value.ownBlock] at hk
   exact .inr (by omega)
theorem run_append_none (ty : TypeId) (E : ElemT P t e z size bytes) (base : Nat) (v : Value) (n : Nat) (xs : List Value) (hown : w.ownsRow base e size v n xs) (c : Nat) (a : Option Addr) (ha : a = none \/ ∃ g, a = some ⟨g, 0, none⟩) :
  (Builtin.append_ #[t, t] ty #[v, .slice a 0 c]).run P w = .ok v w := by
 obtain ⟨i, hi, hz0, hz1, hz2⟩ := info_parts E.info
 have hn : ∃ b cap, v = .slice b n cap /\ n <= cap := by
  rcases hown.2 with ⟨rfl, rfl⟩ | ⟨g, cap, cur, rfl, _, _, hnc, _⟩
  ·exact ⟨none, 0, rfl, Nat.le_refl _⟩
  ·exact ⟨_, _, rfl, hnc⟩
 obtain ⟨b, cap, rfl, hle⟩ := hn
 rcases ha with rfl | ⟨g, rfl⟩
 ·cases b <;> simp [Builtin.append_, run_underlying E.ht, sizeOf, typeInfo, hi, Builtin.lenOf, hle, run_firstCells_none, storeCells]
 ·have hf := run_firstCells_some (P := P) w i.size 0 ⟨g, 0, none⟩ 0 c [] (by simp) (by simp)
  cases b <;> simp [Builtin.append_, run_underlying E.ht, sizeOf, typeInfo, hi, Builtin.lenOf, hle, hf, storeCells]
theorem run_append_rows (ty : TypeId) (E : ElemT P t e z size bytes) (hsz : 0 < size) (base : Nat) (v : Value) (n : Nat) (xs : List Value) (hown : w.ownsRow base e size v n xs)
  (base2 : Nat) (u : Value) (m : Nat) (ys : List Value) (hsrc : w.ownsRow base2 e size u m ys) (h1 : ∀ u ∈ ys, u.oneCell' = true)
  (h63 : n + m < 100000000) (hbytes : (n + m) * bytes <= 140737488355328) (hbase : base <= w.heap.size) :
  ∃ v' w', (Builtin.append_ #[t, t] ty #[v, u]).run P w = .ok v' w' /\ w'.ownsRow base e size v' (n + m) (xs ++ ys) /\ w.grownBy w' v.ownBlock /\ (∀ k, v'.ownBlock = some k -> v.ownBlock = some k \/ w.heap.size <= k) := by
 rcases Nat.eq_zero_or_pos m with rfl | hm
 ·have hy : ys = [] := List.eq_nil_of_length_eq_zero (by simpa using hsrc.1)
  subst hy;obtain ⟨a, c, rfl⟩ := own_slice hsrc
  have ha : a = none \/ ∃ g, a = some ⟨g, 0, none⟩ := by
   rcases hsrc.2 with ⟨he, _⟩ | ⟨g, cap, cur, he, _⟩
   ·cases he; exact .inl rfl
   ·cases he; exact .inr ⟨g, rfl⟩
  refine ⟨v, w, run_append_none ty E base v n xs hown c a ha, by simpa using hown, World.grownBy.refl _ _, fun k hk => .inl hk⟩
 ·have hcells := fun g => hsrc.cells (g := g)
  rcases hsrc.2 with ⟨rfl, rfl⟩ | ⟨g, cap, cur, rfl, _⟩
  ·have := hsrc.1; simp at this
   rcases this with h | h <;> omega
  ·exact run_append_m ty E hsz base v n xs hown ⟨g, 0, none⟩ m cap hm ys hsrc.1 (hcells g rfl) h1 h63 hbytes hbase
theorem wp_append_rows {o : Oper} {a : Act} {K : Act -> World -> Prop} {Q : Exit -> Act -> World -> Prop} (s x : Operand)
  (ho : o.op = .call { callee := .builtin .append, args := #[s, x], argTypes := #[t, t] }) (E : ElemT P t e z size bytes) (hsz : 0 < size)
  (base : Nat) (v : Value) (n : Nat) (xs : List Value) (hs : a.eval s = v) (hown : w.ownsRow base e size v n xs) (base2 : Nat) (u : Value) (m : Nat) (ys : List Value) (hx : a.eval x = u) (hsrc : w.ownsRow base2 e size u m ys) (h1 : ∀ u ∈ ys, u.oneCell' = true)
  (h63 : n + m < 100000000) (hbytes : (n + m) * bytes <= 140737488355328) (hbase : base <= w.heap.size)
  (h : ∀ v' w', w'.ownsRow base e size v' (n + m) (xs ++ ys) -> w.grownBy w' v.ownBlock -> (∀ k, v'.ownBlock = some k -> v.ownBlock = some k \/ w.heap.size <= k) -> K (a.put o.dst v') w') : o.wp P a w K Q := by
 obtain ⟨v', w', hr, h2, h3, h4⟩ := run_append_rows (P := P) (w := w) o.type E hsz base v n xs hown base2 u m ys hsrc h1 h63 hbytes hbase
 unfold Oper.wp execOp
 simp only [ho, resolve, invoke, builtin, Sem.run_bind, Sem.run_pure, Result.andThen_ok, List.map_toArray, List.map_cons, List.map_nil, hs, hx, hr]
 exact h v' w' h2 h3 h4
end
end
section
section
variable {P : Program} {w : World} {t e : TypeId} {z : Value} {size bytes : Nat}
theorem run_append_zero (ty : TypeId) (E : ElemT P t e z size bytes) (base : Nat) (v : Value) (n : Nat) (xs : List Value) (hown : w.ownsRow base e size v n xs) (c : Nat) (a : Option Addr) :
  (Builtin.append_ #[t, t] ty #[v, .slice a 0 c]).run P w = .ok v w := by
 obtain ⟨i, hi, hz0, hz1, hz2⟩ := info_parts E.info
 have hn : ∃ b cap, v = .slice b n cap /\ n <= cap := by
  rcases hown.2 with ⟨rfl, rfl⟩ | ⟨g, cap, cur, rfl, _, _, hnc, _⟩
  ·exact ⟨none, 0, rfl, Nat.le_refl _⟩
  ·exact ⟨_, _, rfl, hnc⟩
 obtain ⟨b, cap, rfl, hle⟩ := hn
 rcases a with _ | g
 ·cases b <;> simp [Builtin.append_, run_underlying E.ht, sizeOf, typeInfo, hi, Builtin.lenOf, hle, run_firstCells_none, storeCells]
 ·have hf := run_firstCells_some (P := P) w i.size 0 g 0 c [] (by simp) (by simp)
  cases b <;> simp [Builtin.append_, run_underlying E.ht, sizeOf, typeInfo, hi, Builtin.lenOf, hle, hf, storeCells]
theorem wp_append_part {o : Oper} {a : Act} {K : Act -> World -> Prop} {Q : Exit -> Act -> World -> Prop} (s x : Operand)
  (ho : o.op = .call { callee := .builtin .append, args := #[s, x], argTypes := #[t, t] }) (E : ElemT P t e z size bytes) (hsz : 0 < size)
  (base : Nat) (v : Value) (n : Nat) (xs : List Value) (hs : a.eval s = v) (hown : w.ownsRow base e size v n xs) (u : Option Addr) (m c : Nat) (ys : List Value) (hx : a.eval x = .slice u m c) (hl : ys.length = m * size)
  (hsrc : 0 < m -> ∃ b, u = some b /\ ∀ j y, ys[j]? = some y -> w.cell? (b.add j) = some y) (h1 : ∀ u ∈ ys, u.oneCell' = true)
  (h63 : n + m < 100000000) (hbytes : (n + m) * bytes <= 140737488355328) (hbase : base <= w.heap.size)
  (h : ∀ v' w', w'.ownsRow base e size v' (n + m) (xs ++ ys) -> w.grownBy w' v.ownBlock -> (∀ k, v'.ownBlock = some k -> v.ownBlock = some k \/ w.heap.size <= k) -> K (a.put o.dst v') w') : o.wp P a w K Q := by
 obtain ⟨v', w', hr, h2, h3, h4⟩ : ∃ v' w', (Builtin.append_ #[t, t] o.type #[v, .slice u m c]).run P w = .ok v' w' /\ w'.ownsRow base e size v' (n + m) (xs ++ ys) /\ w.grownBy w' v.ownBlock /\ (∀ k, v'.ownBlock = some k -> v.ownBlock = some k \/ w.heap.size <= k) := by
  rcases Nat.eq_zero_or_pos m with rfl | hm
  ·have hy : ys = [] := List.eq_nil_of_length_eq_zero (by simpa using hl)
   subst hy;exact ⟨v, w, run_append_zero _ E base v n xs hown c u, by simpa using hown, World.grownBy.refl _ _, fun k hk => .inl hk⟩
  ·obtain ⟨b, rfl, hc⟩ := hsrc hm
   exact run_append_m _ E hsz base v n xs hown b m c hm ys hl hc h1 h63 hbytes hbase
 unfold Oper.wp execOp
 simp only [ho, resolve, invoke, builtin, Sem.run_bind, Sem.run_pure, Result.andThen_ok, List.map_toArray, List.map_cons, List.map_nil, hs, hx, hr]
 exact h v' w' h2 h3 h4
end
def applyR (l : List RowV) (c : ChangeV) : Option (List RowV) :=
 let k := idxOf (fun x => isR x c.row) l
 if c.drop = true /\ k < 0 then none else some ((if 0 <= k then l.eraseIdx k.toNat else l) ++ if c.drop = true then [] else [c.row])
def appliesR : List RowV -> List ChangeV -> Option (List RowV)
 | l, [] => some l
 | l, c :: cs => (applyR l c).bind fun l' => appliesR l' cs
theorem appliesR_append (cs ds : List ChangeV) : ∀ l, appliesR l (cs ++ ds) = (appliesR l cs).bind fun l' => appliesR l' ds := by
 induction cs with
 | nil => intro l; rfl
 | cons c cs ih =>
  intro l
  simp only [List.cons_append, appliesR]
  cases applyR l c with
  | none => rfl
  | some l' => exact ih l'
theorem ChangeV.cllen (c : ChangeV) : c.cells.length = 10 := rfl
theorem cl_erase (l : List RowV) (k : Nat) (hk : k < l.length) : (l.eraseIdx k).flatMap RowV.cl = (l.take k).flatMap RowV.cl ++ (l.drop (k + 1)).flatMap RowV.cl := by
 rw [List.eraseIdx_eq_take_drop_succ, List.flatMap_append]
end
section
structure Rg (l : List RowV) (q : Int) : Prop where
 sorted : (l.map RowV.seq).Pairwise (· < ·)
 lt : ∀ r ∈ l, r.seq < q
 good : ∀ r ∈ l, (r.stage = 1 /\ r.id = 0) \/ r.stage = 2 \/ r.stage = 3
theorem Rg.nil (q : Int) : Rg [] q := ⟨List.Pairwise.nil, by simp, by simp⟩
theorem Rg.push {l : List RowV} {q : Int} (h : Rg l q) (r : RowV) (hs : r.seq = q) (hg : r.stage = 1 /\ r.id = 0) : Rg (l ++ [r]) (q + 1) := by
 refine ⟨?_, fun x hx => ?_, fun x hx => ?_⟩
 ·rw [List.map_append, List.pairwise_append]
  refine ⟨h.sorted, by simp, fun a ha b hb => ?_⟩
  simp only [List.mem_map] at ha
  obtain ⟨x, hx, rfl⟩ := ha
  simp at hb
  subst hb;rw [hs]
  exact h.lt x hx
 ·rcases List.mem_append.1 hx with hx | hx
  ·have := h.lt x hx; omega
  ·simp at hx; subst hx; omega
 ·rcases List.mem_append.1 hx with hx | hx
  ·exact h.good x hx
  ·simp at hx; subst hx; exact .inl hg
theorem Rg.set {l : List RowV} {q : Int} (h : Rg l q) {i : Nat} {r r' : RowV} (hr : l[i]? = some r) (hs : r'.seq = r.seq) (hg : r'.stage = 2 \/ r'.stage = 3) : Rg (l.set i r') q := by
 have hm := List.mem_of_getElem? hr
 refine ⟨?_, fun x hx => ?_, fun x hx => ?_⟩
 ·have : (l.set i r').map RowV.seq = l.map RowV.seq := by
   rw [List.map_set, hs]
   apply List.ext_getElem?
   intro j
   by_cases hj : i = j
   ·subst hj
    rw [List.getElem?_set_self' ]
    simp [hr]
   ·rw [List.getElem?_set_ne hj]
  rw [this]; exact h.sorted
 ·rcases List.mem_or_eq_of_mem_set hx with hx | rfl
  ·exact h.lt x hx
  ·rw [hs]; exact h.lt r hm
 ·rcases List.mem_or_eq_of_mem_set hx with hx | rfl
  ·exact h.good x hx
  ·exact .inr hg
theorem Rg.erase {l : List RowV} {q : Int} (h : Rg l q) (i : Nat) : Rg (l.eraseIdx i) q := by
 have hsub := List.eraseIdx_sublist l i
 exact ⟨(h.sorted.sublist (hsub.map _)), fun r hr => h.lt r (hsub.subset hr), fun r hr => h.good r (hsub.subset hr)⟩
structure Wn (W R : Int) (s : OS) : Prop where
 rg : Rg s.l s.seq
 win : s.window = W
 room : s.room = R
theorem Wn.send {W R : Int} {x : SS} (h : Wn W R x.s) (i : Nat) : Wn W R (x.send i).s := by
 unfold SS.send
 split
 ·exact h
 ·split
  ·exact h
  ·rename_i r hr
   exact ⟨h.rg.set hr rfl (.inl rfl), h.win, h.room⟩
theorem Wn.sends {W R : Int} {x : SS} (h : Wn W R x.s) (q : List Nat) : Wn W R (x.sends q).s := by
 induction q generalizing x with
 | nil => exact h
 | cons i q ih => exact ih (h.send i)
theorem Wn.all {W R : Int} {x : SS} (h : Wn W R x.s) : Wn W R x.all.s := h.sends _
theorem Wn.gone {W R : Int} {x : SS} (h : Wn W R x.s) (n st q : Int) : Wn W R (x.goneAt n st q).s := by
 unfold SS.goneAt
 split
 ·exact h
 ·unfold SS.goneIf
  split
  ·exact h
  ·split
   ·unfold SS.gone
    split
    ·exact h
    ·exact ⟨h.rg.erase _, h.win, h.room⟩
   ·exact h
theorem Wn.recd {W R : Int} {x : SS} (h : Wn W R x.s) (n z : Int) : Wn W R (x.pubrec n z).s := by
 unfold SS.pubrec
 split
 ·exact h
 ·split
  ·exact h
  ·split
   ·unfold SS.recv
    split
    ·exact h
    ·rename_i r hr
     split
     ·exact ⟨h.rg.set hr rfl (.inr rfl), h.win, h.room⟩
     ·exact h
   ·exact h
theorem Wn.does {W R : Int} {s : OS} (h : Wn W R s) (x : ActV) : Wn W R (s.does x).s := by
 unfold OS.does
 split
 ·unfold OS.doPut
  split
  ·exact ⟨h.rg.push _ rfl ⟨rfl, rfl⟩, h.win, h.room⟩
  ·exact h
 ·split
  ·exact Wn.all (x := s.start) h
  ·split
   ·unfold OS.doHear
    split
    ·split
     ·exact Wn.all (Wn.gone (x := s.start) h _ _ _)
     ·split
      ·exact Wn.all (Wn.recd (x := s.start) h _ _)
      ·split
       ·exact Wn.all (Wn.gone (x := s.start) h _ _ _)
       ·exact h
    ·exact h
   ·split
    ·exact Wn.all (x := s.again) h
    ·exact h
theorem does_seq (s : OS) (x : ActV) : (s.does x).s.seq <= s.seq + 1 := by
 have gn : ∀ n st q, (s.start.goneAt n st q).s.seq = s.seq := fun n st q => (gone_nigh s.start n st q).seq
 have pn : ∀ n z, (s.start.pubrec n z).s.seq = s.seq := fun n z => (pubrec_nigh s.start n z).seq
 have al : ∀ Y : SS, Y.s.seq = s.seq -> (Y.all.fin s.seq s.id).s.seq <= s.seq + 1 := fun Y hY => by
  have := (all_same Y).2
  show Y.all.s.seq <= _
  omega
 unfold OS.does
 split
 ·unfold OS.doPut
  split
  ·exact Int.le_refl _
  ·show s.seq <= _; omega
 ·split
  ·exact al s.start rfl
  ·split
   ·unfold OS.doHear
    split
    ·split
     ·exact al _ (gn _ _ _)
     ·split
      ·exact al _ (pn _ _)
      ·split
       ·exact al _ (gn _ _ _)
       ·show s.seq <= _; omega
    ·show s.seq <= _; omega
   ·split
    ·exact al s.again rfl
    ·show s.seq <= _; omega
def Done1 (s : OS) : Prop := s.window <= (idsOf s.l).length \/ ∀ r ∈ s.l, r.stage ≠ 1
theorem Done1.all {s : OS} (h : Done1 s) (ps : List PackV) (cs : List ChangeV) : (SS.mk s ps cs).all = ⟨s, ps, cs⟩ := by
 rcases h with h | h
 ·exact SS.sends_full _ _ h
 ·have : waitQ (stOf s.l) s.l.length = [] := by
   unfold waitQ
   rw [List.filter_eq_nil_iff]
   intro i hi
   simp only [List.mem_range] at hi
   unfold stOf
   rw [List.getElem?_eq_getElem hi]
   simpa using h _ (List.getElem_mem hi)
  unfold SS.all
  show (SS.mk s ps cs).sends (waitQ (stOf s.l) s.l.length) = _
  rw [this]
  rfl
end
section
theorem idxOf_eraseP {α : Type} (p : α -> Bool) (l : List α) (h : 0 <= idxOf p l) : l.eraseIdx (idxOf p l).toNat = l.eraseP p := by
 induction l with
 | nil => rfl
 | cons x l ih =>
  unfold idxOf at h ⊢
  by_cases hx : p x = true
  ·rw [if_pos hx]
   rw [List.eraseP_cons_of_pos hx]
   rfl
  ·rw [if_neg hx] at h ⊢
   dsimp only at h ⊢
   by_cases hr : idxOf p l < 0
   ·rw [if_pos hr] at h; omega
   ·rw [if_neg hr] at h ⊢
    rw [List.eraseP_cons_of_neg hx, <- ih (by omega), show (idxOf p l + 1).toNat = (idxOf p l).toNat + 1 by omega]
    rfl
theorem idxOf_pos {α : Type} (p : α -> Bool) (l : List α) (x : α) (h : x ∈ l) (hx : p x = true) : 0 <= idxOf p l := by
 induction l with
 | nil => cases h
 | cons y l ih =>
  unfold idxOf
  by_cases hy : p y = true
  ·rw [if_pos hy]; omega
  ·rw [if_neg hy]
   dsimp only
   rcases List.mem_cons.1 h with rfl | h
   ·exact absurd hx hy
   ·have := ih h
    rw [if_neg (by omega)]; omega
theorem applyR_there {R M : List RowV} {y : RowV} {c : ChangeV} (hp : R.Perm (y :: M)) (hy : isR y c.row = true) (hM : ∀ z ∈ M, isR z c.row = false) :
  ∃ R', applyR R c = some R' /\ R'.Perm (M ++ if c.drop = true then [] else [c.row]) := by
 have h0 := idxOf_pos (fun x => isR x c.row) R y (hp.mem_iff.2 (List.mem_cons_self ..)) hy
 refine ⟨_, by unfold applyR; dsimp only; rw [if_neg (by omega), if_pos h0], List.Perm.append_right _ ?_⟩
 rw [idxOf_eraseP _ _ h0]
 have := List.Perm.eraseP (fun x => isR x c.row) (l₁ := y :: M) (l₂ := R) (by
  refine List.Pairwise.cons (fun a ha _ h2 => ?_) (List.pairwise_of_forall_mem_list fun a ha b _ h1 _ => ?_)
  ·rw [hM a ha] at h2; cases h2
  ·rw [hM a ha] at h1; cases h1) hp.symm
 rw [List.eraseP_cons_of_pos (p := fun x => isR x c.row) hy] at this
 exact this.symm
theorem applyR_new {R M : List RowV} {c : ChangeV} (hp : R.Perm M) (hM : ∀ z ∈ M, isR z c.row = false) (hd : c.drop = false) :
  ∃ R', applyR R c = some R' /\ R'.Perm (M ++ [c.row]) := by
 have h0 := idxOf_none (fun x => isR x c.row) R (fun x hx => hM x (hp.mem_iff.1 hx))
 refine ⟨R ++ [c.row], by unfold applyR; dsimp only; rw [h0, if_neg (by simp [hd]), if_neg (by omega), hd]; rfl, hp.append_right _⟩
theorem isR_3 (a b : RowV) (ha : a.kind = 3) (hb : b.kind = 3) : isR a b = (decide (a.client = b.client) && decide (a.seq = b.seq)) := by simp [isR, ha, hb]
theorem isR_ne (a b : RowV) (h : a.kind ≠ b.kind) : isR a b = false := by simp [isR, h]
theorem isR_1 (a b : RowV) (ha : a.kind = 1) (hb : b.kind = 1) : isR a b = decide (a.client = b.client) := by simp [isR, ha, hb]
theorem perm_erase {l : List RowV} {i : Nat} {r : RowV} (h : l[i]? = some r) : l.Perm (r :: l.eraseIdx i) := by
 induction l generalizing i with
 | nil => simp at h
 | cons x l ih =>
  cases i with
  | zero => simp at h; subst h; exact List.Perm.refl _
  | succ i => simp at h; exact ((ih h).cons x).trans (List.Perm.swap _ _ _)
theorem perm_set {l : List RowV} {i : Nat} {r : RowV} (r' : RowV) (h : l[i]? = some r) : (l.set i r').Perm (r' :: l.eraseIdx i) := by
 have hlt := (List.getElem?_eq_some_iff.1 h).1
 have h1 : (l.set i r')[i]? = some r' := by rw [List.getElem?_set_self hlt]
 have := perm_erase h1
 rwa [List.eraseIdx_set_eq] at this
theorem seq_other {l : List RowV} (hn : (l.map RowV.seq).Nodup) {i : Nat} {r : RowV} (h : l[i]? = some r) : ∀ z ∈ l.eraseIdx i, z.seq ≠ r.seq := by
 have := ((perm_erase h).map RowV.seq).nodup_iff.1 hn
 rw [List.map_cons, List.nodup_cons] at this
 intro z hz he
 exact this.1 (he ▸ List.mem_map_of_mem hz)
theorem erase_mem {l : List RowV} {i : Nat} {z : RowV} (h : z ∈ l.eraseIdx i) : z ∈ l := (List.eraseIdx_sublist _ _).subset h
theorem ap_at {R l : List RowV} {se : RowV} (hp : R.Perm (se :: l)) (hs : se.kind = 1) (hk : ∀ x ∈ l, x.kind = 3) (hn : (l.map RowV.seq).Nodup) {i : Nat} {r : RowV} (hi : l[i]? = some r) (c : ChangeV) (h3 : c.row.kind = 3) (hc : c.row.client = r.client) (hq : c.row.seq = r.seq) :
  ∃ R', applyR R c = some R' /\ R'.Perm (se :: (if c.drop = true then l.eraseIdx i else l.set i c.row)) := by
 have hr := hk r (List.mem_of_getElem? hi)
 obtain ⟨R', h1, h2⟩ := applyR_there (R := R) (y := r) (M := se :: l.eraseIdx i) (c := c) (hp.trans (((perm_erase hi).cons se).trans (List.Perm.swap _ _ _))) (by rw [isR_3 _ _ hr h3]; simp [hc, hq]) (fun z hz => by
  rcases List.mem_cons.1 hz with rfl | hz
  ·exact isR_ne _ _ (by omega)
  ·rw [isR_3 _ _ (hk z (erase_mem hz)) h3, hq]
   simp [seq_other hn hi z hz])
 refine ⟨R', h1, h2.trans ?_⟩
 cases c.drop with
 | true => simp
 | false =>
  show (se :: l.eraseIdx i ++ [c.row]).Perm (se :: l.set i c.row)
  exact (List.Perm.cons se ((List.perm_append_singleton _ _).trans (perm_set _ hi).symm))
theorem ap_new {R l : List RowV} {se : RowV} (hp : R.Perm (se :: l)) (hs : se.kind = 1) (hk : ∀ x ∈ l, x.kind = 3) (r : RowV) (h3 : r.kind = 3) (hq : ∀ x ∈ l, x.seq ≠ r.seq) :
  ∃ R', applyR R ⟨false, r⟩ = some R' /\ R'.Perm (se :: (l ++ [r])) :=
 applyR_new (c := ⟨false, r⟩) hp (fun z hz => by
  rcases List.mem_cons.1 hz with rfl | hz
  ·exact isR_ne _ _ (by show z.kind ≠ r.kind; omega)
  ·rw [isR_3 _ _ (hk z hz) h3]
   simp [hq z hz]) rfl
theorem ap_sess {R l : List RowV} {se : RowV} (hp : R.Perm (se :: l)) (hs : se.kind = 1) (hk : ∀ x ∈ l, x.kind = 3) (r : RowV) (h1 : r.kind = 1) (hc : r.client = se.client) :
  ∃ R', applyR R ⟨false, r⟩ = some R' /\ R'.Perm (r :: l) := by
 obtain ⟨R', h2, h3⟩ := applyR_there (R := R) (y := se) (M := l) (c := ⟨false, r⟩) hp (by rw [isR_1 _ _ hs h1]; simp [hc]) (fun z hz => isR_ne _ _ (by have := hk z hz; show z.kind ≠ r.kind; omega))
 exact ⟨R', h2, h3.trans (List.perm_append_singleton _ _)⟩
def GRow (c : List UInt8) (r : RowV) : Prop := r.kind = 3 /\ putMay r = true /\ stageOK r /\ r.client = c /\ r.topic.length <= 1000000
structure PI (W R : Int) (c : List UInt8) (R0 : List RowV) (q0 i0 : Int) (x : SS) : Prop where
 wn : Wn W R x.s
 cl : x.s.client = c
 id : 1 <= x.s.id /\ x.s.id <= 65535
 row : ∀ r ∈ x.s.l, GRow c r
 ap : ∃ R', appliesR R0 x.cs = some R' /\ R'.Perm (sessV c q0 i0 :: x.s.l)
 chg : ∀ ch ∈ x.cs, GRow c ch.row
theorem appliesR_snoc {R0 R1 R2 : List RowV} {cs : List ChangeV} {c : ChangeV} (h1 : appliesR R0 cs = some R1) (h2 : applyR R1 c = some R2) : appliesR R0 (cs ++ [c]) = some R2 := by
 rw [appliesR_append, h1]
 show (applyR R1 c).bind _ = _
 rw [h2]
 rfl
theorem Rg.nodup {l : List RowV} {q : Int} (h : Rg l q) : (l.map RowV.seq).Nodup := h.sorted.imp fun h => by omega
section
variable {W R : Int} {c : List UInt8} {R0 : List RowV} {q0 i0 : Int} {x : SS}
theorem PI.kind (h : PI W R c R0 q0 i0 x) : ∀ r ∈ x.s.l, r.kind = 3 := fun r hr => (h.row r hr).1
theorem PI.step (h : PI W R c R0 q0 i0 x) {i : Nat} {r : RowV} (hi : x.s.l[i]? = some r) (ch : ChangeV) (hg : GRow c ch.row) (hq : ch.row.seq = r.seq) :
  ∃ R', appliesR R0 (x.cs ++ [ch]) = some R' /\ R'.Perm (sessV c q0 i0 :: (if ch.drop = true then x.s.l.eraseIdx i else x.s.l.set i ch.row)) := by
 obtain ⟨R', h1, h2⟩ := h.ap
 obtain ⟨R2, h3, h4⟩ := ap_at h2 rfl h.kind h.wn.rg.nodup hi ch hg.1 (by rw [hg.2.2.2.1, (h.row r (List.mem_of_getElem? hi)).2.2.2.1]) hq
 exact ⟨R2, appliesR_snoc h1 h3, h4⟩
theorem chg_snoc {cs : List ChangeV} (h : ∀ ch ∈ cs, GRow c ch.row) (d : ChangeV) (hd : GRow c d.row) : ∀ ch ∈ cs ++ [d], GRow c ch.row := fun ch hc => by
 rcases List.mem_append.1 hc with hc | hc
 ·exact h ch hc
 ·simp at hc; subst hc; exact hd
theorem PI.set (h : PI W R c R0 q0 i0 x) {i : Nat} {r : RowV} (hi : x.s.l[i]? = some r) (r' : RowV) (hg : GRow c r') (hq : r'.seq = r.seq) (id' : Int) (hid : 1 <= id' /\ id' <= 65535) (ps : List PackV) (hw : Wn W R { x.s with l := x.s.l.set i r', id := id' }) :
  PI W R c R0 q0 i0 ⟨{ x.s with l := x.s.l.set i r', id := id' }, ps, x.cs ++ [⟨false, r'⟩]⟩ :=
 ⟨hw, h.cl, hid, fun z hz => (List.mem_or_eq_of_mem_set hz).elim (h.row z) (fun e => e ▸ hg), by simpa using h.step hi ⟨false, r'⟩ hg hq, chg_snoc h.chg _ hg⟩
theorem PI.send (h : PI W R c R0 q0 i0 x) (i : Nat) : PI W R c R0 q0 i0 (x.send i) := by
 have hw := h.wn.send i
 unfold SS.send at hw ⊢
 split
 ·exact h
 ·rename_i hn
  rw [if_neg hn] at hw
  split
  ·exact h
  ·rename_i r hr
   have hy := firstI_range (idsOf x.s.l).length x.s.id (idsOf x.s.l) h.id
   obtain ⟨g1, g2, g3, g4, g5⟩ := h.row r (List.mem_of_getElem? hr)
   rw [hr] at hw
   exact h.set hr _ (show GRow c (r.sent (firstI (idsOf x.s.l).length x.s.id (idsOf x.s.l))) from ⟨g1, g2, .inr ⟨hy, .inl rfl⟩, g4, g5⟩) rfl _ (by omega) _ hw
theorem PI.sends (h : PI W R c R0 q0 i0 x) (q : List Nat) : PI W R c R0 q0 i0 (x.sends q) := by
 induction q generalizing x with
 | nil => exact h
 | cons i q ih => exact ih (h.send i)
theorem PI.all (h : PI W R c R0 q0 i0 x) : PI W R c R0 q0 i0 x.all := h.sends _
theorem PI.gone (h : PI W R c R0 q0 i0 x) (n st q : Int) : PI W R c R0 q0 i0 (x.goneAt n st q) := by
 have hw := h.wn.gone n st q
 unfold SS.goneAt at hw ⊢
 split
 ·exact h
 ·rename_i hn
  rw [if_neg hn] at hw
  unfold SS.goneIf at hw ⊢
  split
  ·exact h
  ·rename_i r hr
   rw [hr] at hw
   dsimp only at hw
   split
   ·rename_i hs
    rw [if_pos hs] at hw
    unfold SS.gone at hw ⊢
    rw [hr] at hw ⊢
    have hg := h.row r (List.mem_of_getElem? hr)
    exact ⟨hw, h.cl, h.id, fun z hz => h.row z (erase_mem hz), by simpa using h.step hr ⟨true, r⟩ hg rfl, chg_snoc h.chg _ hg⟩
   ·exact h
theorem PI.recd (h : PI W R c R0 q0 i0 x) (n z : Int) : PI W R c R0 q0 i0 (x.pubrec n z) := by
 have hw := h.wn.recd n z
 unfold SS.pubrec at hw ⊢
 split
 ·exact ⟨h.wn, h.cl, h.id, h.row, h.ap, h.chg⟩
 ·rename_i hn
  rw [if_neg hn] at hw
  split
  ·exact h
  ·rename_i r hr
   rw [hr] at hw
   dsimp only at hw
   split
   ·rename_i hs
    rw [if_pos hs] at hw
    unfold SS.recv at hw ⊢
    rw [hr] at hw ⊢
    dsimp only at hw ⊢
    split
    ·rename_i h2
     rw [if_pos h2] at hw
     obtain ⟨g1, g2, g3, g4, g5⟩ := h.row r (List.mem_of_getElem? hr)
     have hid : 1 <= r.id /\ r.id <= 65535 := by
      rcases g3 with g3 | g3
      ·omega
      ·exact g3.1
     exact h.set hr { r with stage := 3 } ⟨g1, g2, .inr ⟨hid, .inr ⟨rfl, hs⟩⟩, g4, g5⟩ rfl _ h.id _ hw
    ·rename_i h2
     rw [if_neg h2] at hw
     exact ⟨h.wn, h.cl, h.id, h.row, h.ap, h.chg⟩
   ·exact h
end
def CRow (c : List UInt8) (r : RowV) : Prop := GRow c r \/ ∃ q i, r = sessV c q i /\ sessMay (sessV c q i) = true /\ 1 <= i /\ i <= 65535
structure PO (W R : Int) (c : List UInt8) (s : OS) : Prop where
 wn : Wn W R s
 cl : s.client = c
 id : 1 <= s.id /\ s.id <= 65535
 row : ∀ r ∈ s.l, GRow c r
 may : clientR c = true
 pos : 0 <= s.seq
structure PD (W R : Int) (c : List UInt8) (R0 : List RowV) (X : SS) : Prop where
 po : PO W R c X.s
 ap : ∃ R', appliesR R0 X.cs = some R' /\ R'.Perm (X.s.session :: X.s.l)
 chg : ∀ ch ∈ X.cs, CRow c ch.row
theorem sess_may {c : List UInt8} (hm : clientR c = true) {q i : Int} (hq : 0 <= q /\ q <= 4611686018427387904) (hi : 1 <= i /\ i <= 65535) : sessMay (sessV c q i) = true := by
 unfold sessMay sessV
 simp only [hm, Bool.true_and, Bool.and_eq_true, decide_eq_true_eq]
 omega
theorem OS.session_eq {s : OS} {c : List UInt8} (h : s.client = c) : s.session = sessV c s.seq s.id := by rw [<- h]; rfl
section
variable {W R : Int} {c : List UInt8} {R0 : List RowV} {s : OS}
theorem PO.begin (h : PO W R c s) (hp : R0.Perm (s.session :: s.l)) (ps : List PackV) : PI W R c R0 s.seq s.id ⟨s, ps, []⟩ :=
 ⟨h.wn, h.cl, h.id, h.row, ⟨R0, rfl, by rw [<- OS.session_eq h.cl]; exact hp⟩, fun _ hc => by cases hc⟩
theorem PI.fin {q0 i0 : Int} {x : SS} (h : PI W R c R0 q0 i0 x) (hm : clientR c = true) (hs : 0 <= x.s.seq /\ x.s.seq <= 4611686018427387904) : PD W R c R0 (x.fin q0 i0) := by
 obtain ⟨R', h1, h2⟩ := h.ap
 refine ⟨⟨h.wn, h.cl, h.id, h.row, hm, hs.1⟩, ?_, ?_⟩
 ·unfold SS.fin
  dsimp only
  rw [OS.session_eq h.cl]
  split
  ·rename_i he
   rw [List.append_nil, he.1, he.2]
   exact ⟨R', h1, h2⟩
  ·obtain ⟨R2, h3, h4⟩ := ap_sess h2 rfl h.kind (sessV c x.s.seq x.s.id) rfl rfl
   exact ⟨R2, appliesR_snoc h1 h3, h4⟩
 ·unfold SS.fin
  dsimp only
  rw [OS.session_eq h.cl]
  intro ch hc
  rcases List.mem_append.1 hc with hc | hc
  ·exact .inl (h.chg ch hc)
  ·split at hc
   ·cases hc
   ·simp at hc
    subst hc;exact .inr ⟨_, _, rfl, sess_may hm hs h.id, h.id⟩
theorem PO.same (h : PO W R c s) (hp : R0.Perm (s.session :: s.l)) : PD W R c R0 ⟨s, [], []⟩ := ⟨h, ⟨R0, rfl, hp⟩, fun _ hc => by cases hc⟩
theorem all_seq (x : SS) : x.all.s.seq = x.s.seq := (all_same x).2
theorem PO.does (h : PO W R c s) (hp : R0.Perm (s.session :: s.l)) (hs : s.seq + 1 <= 4611686018427387904) (x : ActV) (ht : x.topic.length <= 1000000) : PD W R c R0 (s.does x) := by
 have hpos := h.pos
 have fin : ∀ Y : SS, PI W R c R0 s.seq s.id Y -> Y.s.seq = s.seq -> PD W R c R0 (Y.all.fin s.seq s.id) := fun Y hY he => hY.all.fin h.may (by rw [all_seq, he]; omega)
 have gn : ∀ n st q, (s.start.goneAt n st q).s.seq = s.seq := fun n st q => (gone_nigh s.start n st q).seq
 have pn : ∀ n z, (s.start.pubrec n z).s.seq = s.seq := fun n z => (pubrec_nigh s.start n z).seq
 have b0 : PI W R c R0 s.seq s.id s.start := h.begin hp []
 unfold OS.does
 split
 ·unfold OS.doPut
  split
  ·rename_i hm
   have hg : GRow c (s.row x.topic x.body x.qos x.retain) := ⟨rfl, hm.1, .inl ⟨rfl, rfl⟩, h.cl, ht⟩
   obtain ⟨R1, h1, h2⟩ := ap_new hp rfl (fun r hr => (h.row r hr).1) _ hg.1 (fun z hz => by have := h.wn.rg.lt z hz; show z.seq ≠ s.seq; omega)
   have hall : ∀ z ∈ s.l ++ [s.row x.topic x.body x.qos x.retain], GRow c z := fun z hz => by
    rcases List.mem_append.1 hz with hz | hz
    ·exact h.row z hz
    ·simp at hz; subst hz; exact hg
   obtain ⟨R2, h3, h4⟩ := ap_sess h2 rfl (fun r hr => (hall r hr).1) (s.put (s.row x.topic x.body x.qos x.retain)).session rfl rfl
   refine ⟨⟨⟨h.wn.rg.push _ rfl ⟨rfl, rfl⟩, h.wn.win, h.wn.room⟩, h.cl, h.id, hall, h.may, by show 0 <= s.seq + 1; omega⟩, ⟨R2, ?_, h4⟩, fun ch hc => ?_⟩
   ·exact appliesR_snoc (cs := [_]) (by show (applyR R0 _).bind _ = _; rw [h1]; rfl) h3
   ·simp only [List.mem_cons, List.not_mem_nil, or_false] at hc
    rcases hc with rfl | rfl
    ·exact .inl hg
    ·refine .inr ⟨s.seq + 1, s.id, OS.session_eq (s := s.put _) h.cl, sess_may h.may (by omega) h.id, h.id⟩
  ·exact h.same hp
 ·split
  ·exact fin _ b0 rfl
  ·split
   ·unfold OS.doHear
    split
    ·split
     ·exact fin _ (b0.gone _ _ _) (gn _ _ _)
     ·split
      ·exact fin _ (b0.recd _ _) (pn _ _)
      ·split
       ·exact fin _ (b0.gone _ _ _) (gn _ _ _)
       ·exact h.same hp
    ·exact h.same hp
   ·split
    ·exact fin _ (h.begin hp _) rfl
    ·exact h.same hp
end
end
end Go.Proofs.YtoinabapaeebfaaGreatDoor
