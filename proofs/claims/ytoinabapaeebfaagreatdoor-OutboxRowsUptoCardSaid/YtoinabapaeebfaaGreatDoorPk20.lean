/- The reference of layer 20: Apply. · Laid by the kit's shelf tools (lay-plain) at this seat's dump. · Contracts of package outbox (part 20): sorting rows by their numbers. · Contracts of package outbox (part 21): a row that is under way is taken in. -/
import Derived.Test.YtoinabapaeebfaaGreatDoorPk19
import Derived.Shelf.SlSortCmp.Whole1
import Derived.Test.YtoinabapaeebfaaGreatDoorProg
import Derived.Test.YtoinabapaeebfaaGreatDoorPk12
import Derived.Lib.OwnBridge
import Derived.Test.YtoinabapaeebfaaGreatDoorPk09
import Derived.Test.YtoinabapaeebfaaGreatDoorPk18
set_option linter.unusedSimpArgs false
set_option linter.unusedVariables false
namespace Go.Proofs.YtoinabapaeebfaaGreatDoor
open Go.RowKit Go.Shelf

theorem range_tail {w : World} {g o : Nat} {x : Value} {cs : List Value} (h : w.rangeAt g o (x :: cs)) : w.rangeAt g (o + 1) cs := fun j v hj => by
  have := h (j + 1) v (by simpa using hj)
  rw [← this]
  congr 2
  omega
theorem rows_cut {w : World} {base n c : Nat} {a : Option Addr} {xs : List Value} (h : w.ownsRow base 33 9 (.slice a n c) n xs) (k : Nat) (hk : k < n) :
    ∃ u, (∀ W : World, (Instr.slice 34 (.slice a n c) none (some (.int .i64 k)) none).run Tryz.prog W = .ok (.slice a k c) W) ∧
      (∀ W : World, (Instr.slice 34 (.slice a n c) (some (.int .i64 ((k : Int) + 1))) none none).run Tryz.prog W = .ok (.slice u (n - (k + 1)) (c - (k + 1))) W) ∧
      (0 < k → ∃ b, a = some b ∧ ∀ j y, (xs.take (k * 9))[j]? = some y → w.cell? (b.add j) = some y) ∧
      (0 < n - (k + 1) → ∃ b, u = some b ∧ ∀ j y, (xs.drop ((k + 1) * 9))[j]? = some y → w.cell? (b.add j) = some y) := by
  have hs : ∀ W, (sizeOf (Tryz.prog.elem 34)).run Tryz.prog W = .ok 9 W := fun W => by kernel_rfl
  have hu : Tryz.prog.underlying 34 = some (.slice (Tryz.prog.elem 34)) := by kernel_rfl
  have hcl := fun g => h.cells (g := g)
  obtain ⟨h1, ⟨he, h2⟩ | ⟨g, cap, cur, he, _, _, hnc, _⟩⟩ := h
  · omega
  · cases he
    have r1 := fun W => run_slice_h W 34 (some ⟨g, 0, none⟩) n c hu .i64 k (by omega) (by omega)
    have r2 := fun W => run_slice_l W 34 (some ⟨g, 0, none⟩) n c hu .i64 ((k : Int) + 1) (by omega) (by omega)
    have e1 : ((k : Int) + 1).toNat = k + 1 := by omega
    refine ⟨if c = k + 1 then some ⟨g, 0, none⟩ else some ⟨g, (k + 1) * 9, none⟩, fun W => ?_, fun W => ?_, fun _ => ⟨_, rfl, fun j y hj => ?_⟩, fun hm => ?_⟩
    · rw [r1 W, hs W]
      simp [sliced, Result.andThen, Addr.add]
    · rw [r2 W, hs W, e1]
      simp [sliced, Result.andThen, Addr.add]
    · refine hcl g rfl j y ?_
      rw [List.getElem?_take] at hj
      split at hj
      · exact hj
      · cases hj
    · have hne : ¬ c = k + 1 := by omega
      rw [if_neg hne]
      refine ⟨_, rfl, fun j y hj => ?_⟩
      rw [List.getElem?_drop] at hj
      have := hcl g rfl _ y hj
      rw [← this]
      rcases Nat.eq_zero_or_pos j with rfl | hj0
      · simp [Addr.add]
      · simp [Addr.add, show ¬ j = 0 by omega]
structure ApI (w W : World) (l' : List RowV) (cs : List ChangeV) (n k : Nat) (lk : List RowV) (ao : Option Addr) (no co : Nat) : Prop where
  row : W.ownsRow w.heap.size 33 9 (.slice ao no co) no (lk.flatMap RowV.cl)
  len : lk.length = no
  le : no ≤ n + k
  rest : appliesR lk (cs.drop k) = some l'
  kind : ∀ x ∈ lk, kindOK x
  bel : Below w.heap.size w W
theorem ApI.put {w W' W1 : World} {l' l2 lk : List RowV} {cs : List ChangeV} {n k no co c5 : Nat} {ao a5 : Option Addr} {r : RowV} {v : Obj} (hlen : lk.length = no) (hle : no ≤ n + k) (hkind : ∀ x ∈ lk, kindOK x) (hb : Below w.heap.size w W') (ho : W'.ownsRow w.heap.size 33 9 (.slice ao no co) no (lk.flatMap RowV.cl))
    (hr : appliesR l2 (cs.drop (k + 1)) = some l') (he : l2 = lk ++ [r]) (hk : kindOK r) (h5 : W1.ownsRow w.heap.size 33 9 (.slice a5 (no + 1) c5) (no + 1) (lk.flatMap RowV.cl ++ r.cl)) (hg : (W'.alloc v).grownBy W1 (Value.slice ao no co).ownBlock) : ApI w W1 l' cs n (k + 1) l2 a5 (no + 1) c5 := by
  subst he
  refine ⟨by rw [List.flatMap_append, List.flatMap_singleton]; exact h5, by rw [List.length_append, hlen]; rfl, by omega, hr, fun x hx => ?_, (hb.alloc hb.size _).grown hg (by have := hb.size; simp; omega) (fun x hx => (ho.lt x hx).1)⟩
  rcases List.mem_append.1 hx with hx | hx
  · exact hkind x hx
  · simp at hx; subst hx; exact hk
theorem erase_kind {lk : List RowV} (h : ∀ x ∈ lk, kindOK x) (k : Nat) : ∀ x ∈ lk.eraseIdx k, kindOK x := fun x hx => h x ((List.eraseIdx_sublist _ _).subset hx)
theorem erase_len {lk : List RowV} {no kx no1 : Nat} (h : lk.length = no) (hk : kx < no) (hn : 0 + kx + (no - (kx + 1)) = no1) : (lk.eraseIdx kx).length = no1 := by
  rw [List.length_eraseIdx_of_lt (by omega)]; omega
theorem appliesR_drop {l l' : List RowV} {cs : List ChangeV} {k : Nat} {x : ChangeV} (hx : cs[k]? = some x) (h : appliesR l (cs.drop k) = some l') : ∃ l2, applyR l x = some l2 ∧ appliesR l2 (cs.drop (k + 1)) = some l' := by
  have hk := (List.getElem?_eq_some_iff.1 hx)
  rw [List.drop_eq_getElem_cons hk.1, hk.2] at h
  simp only [appliesR] at h
  cases he : applyR l x with
  | none => rw [he] at h; cases h
  | some l2 => exact ⟨l2, rfl, by rw [he] at h; exact h⟩
theorem cl_len (l : List RowV) : (l.flatMap RowV.cl).length = l.length * 9 := by
  induction l with
  | nil => rfl
  | cons x l ih => rw [List.flatMap_cons, List.length_append, RowV.cllen, ih, List.length_cons]; omega
theorem cl_one (l : List RowV) : ∀ u ∈ l.flatMap RowV.cl, u.oneCell' = true := fun u hu => by
  obtain ⟨x, _, hx⟩ := List.mem_flatMap.1 hu
  exact x.one u hx
theorem cl_take (l : List RowV) : ∀ k, (l.flatMap RowV.cl).take (k * 9) = (l.take k).flatMap RowV.cl := by
  induction l with
  | nil => intro k; simp
  | cons x l ih =>
    intro k
    cases k with
    | zero => simp
    | succ k => rw [List.flatMap_cons, List.take_succ_cons, List.flatMap_cons, List.take_append, RowV.cllen, List.take_of_length_le (by rw [RowV.cllen]; omega), ← ih k]; congr 2; omega
theorem cl_drop (l : List RowV) : ∀ k, (l.flatMap RowV.cl).drop (k * 9) = (l.drop k).flatMap RowV.cl := by
  induction l with
  | nil => intro k; simp
  | cons x l ih =>
    intro k
    cases k with
    | zero => simp
    | succ k => rw [List.flatMap_cons, List.drop_succ_cons, List.drop_append, RowV.cllen, List.drop_eq_nil_of_le (by rw [RowV.cllen]; omega), ← ih k]; simp; congr 1; omega
theorem range_back {w w' : World} {g o : Nat} {cs : List Value} (h : w'.rangeAt g o cs) (hg : g < w.heap.size) (hb : Below w.heap.size w w') : w.rangeAt g o cs := fun j v hj => (hb.cell (p := ⟨g, o + j, none⟩) hg).symm.trans (h j v hj)
set_option maxRecDepth 100000 in
set_option maxHeartbeats 8000000 in
theorem r20_Apply (l l' : List RowV) (cs : List ChangeV) (b1 b2 : Nat) (a ac : Option Addr) (n c m cc : Nat) (w : World) (hv : w.ownsRow b1 33 9 (.slice a n c) n (l.flatMap RowV.cl)) (hn : l.length = n) (hcv : w.ownsRow b2 115 10 (.slice ac m cc) m (cs.flatMap ChangeV.cells)) (hm : cs.length = m)
    (hn5 : n ≤ 100000) (hm5 : m ≤ 10000) (hR : ∀ x ∈ cs, ∀ W, Calls Tryz.prog 50 #[.agg x.row.vals] W fun e w' => e = .returned (.bool true) ∧ Below W.heap.size W w') (hkl : ∀ x ∈ l, kindOK x) (hkc : ∀ x ∈ cs, kindOK x.row) (hap : appliesR l cs = some l') :
    Calls Tryz.prog 12 #[.slice a n c, .slice ac m cc] w fun e w' => ∃ v, e = .returned (.tuple #[v, .int .i64 0]) ∧ w'.ownsRow w.heap.size 33 9 v l'.length (l'.flatMap RowV.cl) ∧ Below w.heap.size w w' := by
  have hV := hid hv
  have hC := hid hcv
  have hn := hid hn
  have hm := hid hm
  have hR := hid hR
  have hkl := hid hkl
  have hkc := hid hkc
  have hap := hid hap
  have dm : decide ((10000 : Int) < (m : Int)) = false := decide_eq_false (by omega)
  clear hv hcv
  go_enter Tryz.func12, Tryz.ntmps12
  go_wp2_with fail
  go_loopw [6] (fun i wr => ∃ k : Nat, i = .int .i64 k ∧ k ≤ m ∧ Hid (Below w.heap.size w wr)) (fun i _ => m - (intOf i).toNat)
  case atStart => exact ⟨0, rfl, Nat.zero_le _, hid (Below.refl _ _)⟩
  case round =>
    obtain ⟨k, rfl, hk1, hb⟩ := hrel
    rcases Nat.lt_or_ge k m with hlt | hge
    · have dk : decide ((k : Int) < (m : Int)) = true := decide_eq_true (by omega)
      obtain ⟨x, hx⟩ : ∃ x, cs[k]? = some x := ⟨_, List.getElem?_eq_getElem (by have := hm.out; omega)⟩
      obtain ⟨gc, hga, -, hrow⟩ := own_range ChangeV.cells ChangeV.cllen (l := cs) (n := m) hm.out (ownsRow_below hC.out hb.out) (k := k) (x := x) hx
      subst hga
      have hrow := hid (range_tail (x := .bool x.drop) (cs := x.row.cl) hrow)
      have CR := hid (hR.out x (List.mem_of_getElem? hx) wr)
      obtain ⟨xd, xr⟩ := x
      obtain ⟨rk, rc, rs, ri, rt, rb, rq, rr, rg⟩ := xr
      unfold RowV.vals at CR
      dsimp only at CR hrow
      clear hx
      go_wp2_with (first
        | (refine wpList_load_mid rfl 33 _ rfl gc (k * 10 + 1) rfl (RowV.cl ⟨rk, rc, rs, ri, rt, rb, rq, rr, rg⟩) _ hrow.out Tryz.underlying33 rfl (by kernel_rfl) ?_)
        | (go_at_call 50; refine CR.out.mono ?_; rintro e w2 ⟨rfl, hb2⟩))
      go_roundw
      case rel => exact ⟨k + 1, by go_num, by omega, hid (hb.out.trans (hb2.mono hb.out.size))⟩
      case measure => simp [intOf]; omega
    · obtain rfl : k = m := by omega
      have dk : decide ((k : Int) < (k : Int)) = false := by simp
      go_wp2_with (at_builtin; refine wpList_plain rfl fun _ hK => ?_; refine wp_append_rows _ _ rfl eRow (by decide) w.heap.size (.slice none 0 0) 0 [] rfl (World.ownsRow_nil _ _ _ _) b1 (.slice a n c) n (l.flatMap RowV.cl) rfl (ownsRow_below hV.out hb.out) (fun u hu => by obtain ⟨x, _, hx⟩ := List.mem_flatMap.1 hu; exact x.one u hx) (by omega) (by omega) (by have := hb.out.size; omega) fun v2 w2 r2 g2 n2 => hK _ _ ?_)
      have r2 := hid r2
      have g2 := hid g2
      obtain ⟨a2, c2, hv2⟩ : ∃ a2 c2, v2 = .slice a2 n c2 := by have := own_slice r2.out; simpa using this
      subst hv2
      have hI0 : Hid (ApI w w2 l' cs n 0 l a2 n c2) := hid ⟨by simpa using r2.out, hn.out, by omega, by simpa using hap.out, hkl.out, hb.out.grown g2.out hb.out.size (fun j e => by cases e)⟩
      have hk0 : Hid (k ≤ 10000) := hid hm5
      obtain ⟨m, hmk⟩ : ∃ m, m = k := ⟨_, rfl⟩
      subst hmk
      clear r2 g2 hap dm dk n2 hR hkl hb
      go_wp2_with fail
      go_loopw [7, 8, 9] (fun o i _ wr => ∃ (k : Nat) (lk : List RowV) (ao : Option Addr) (no co : Nat), o = .slice ao no co ∧ i = .int .i64 k ∧ k ≤ m ∧ Hid (ApI w wr l' cs n k lk ao no co)) (fun _ i _ _ => m - (intOf i).toNat)
      case atStart => exact ⟨0, l, a2, n, c2, rfl, rfl, Nat.zero_le _, hI0⟩
      case round =>
        obtain ⟨k, lk, ao, no, co, rfl, rfl, hk1, hI⟩ := hrel
        rcases Nat.lt_or_ge k m with hlt | hge
        · have dk : decide ((k : Int) < (m : Int)) = true := decide_eq_true (by omega)
          obtain ⟨x, hx⟩ : ∃ x, cs[k]? = some x := ⟨_, List.getElem?_eq_getElem (by have := hm.out; omega)⟩
          obtain ⟨gc, hga, -, hrow⟩ := own_range ChangeV.cells ChangeV.cllen (l := cs) (n := m) hm.out (ownsRow_below hC.out hI.out.bel) (k := k) (x := x) hx
          subst hga
          have hgc := hid (hC.out.lt gc rfl).2
          have cd : wr.cell? ⟨gc, k * 10, none⟩ = some (.bool x.drop) := hrow 0 _ rfl
          replace hrow : Hid (wr.rangeAt gc (k * 10 + 1) x.row.cl) := hid (range_tail (x := .bool x.drop) (cs := x.row.cl) hrow)
          have hkx := hid (hkc.out x (List.mem_of_getElem? hx))
          obtain ⟨l2, hl2, hrest⟩ := appliesR_drop hx hI.out.rest
          replace hl2 := hid hl2
          replace hrest := hid hrest
          have hno : Hid (no ≤ 110000) := hid (by have := hI.out.le; have := hk0.out; omega)
          have CFi := hid (r20_Find lk x.row w.heap.size ao no co wr hI.out.row hI.out.len (by have := hno.out; omega) hI.out.kind)
          have hix := hid (idxOf_lt (fun y => isR y x.row) lk)
          obtain ⟨ix, hixe⟩ : ∃ ix, idxOf (fun y => isR y x.row) lk = ix := ⟨_, rfl⟩
          replace hixe := hid hixe
          rw [hixe.out] at CFi hix
          obtain ⟨xd, xr⟩ := x
          obtain ⟨rk, rc, rs, ri, rt, rb, rq, rr, rg⟩ := xr
          dsimp only at CFi hrow cd
          replace CFi : Hid (Calls Tryz.prog 51 #[.slice ao no co, .agg (RowV.cl ⟨rk, rc, rs, ri, rt, rb, rq, rr, rg⟩).toArray] wr fun e w' => e = .returned (.int .i64 ix) ∧ Below wr.heap.size wr w') := hid CFi
          replace hx := hid hx
          rcases Int.lt_or_le ix 0 with hneg | hpos
          · have d0 : decide (ix < 0) = true := decide_eq_true hneg
            have d1 : decide (0 ≤ ix) = false := decide_eq_false (by omega)
            cases xd with
            | true =>
              exfalso
              have := hl2.out
              unfold applyR at this
              dsimp only at this
              rw [hixe.out, if_pos ⟨rfl, hneg⟩] at this
              cases this
            | false =>
              replace hl2 : Hid (l2 = lk ++ [⟨rk, rc, rs, ri, rt, rb, rq, rr, rg⟩]) := hid (by
                have := hl2.out
                unfold applyR at this
                dsimp only at this
                rw [hixe.out, if_neg (by simp), if_neg (by omega)] at this
                cases this
                rfl)
              go_wp2_with (first
                | (refine wpList_load_mid rfl 33 _ rfl gc (k * 10 + 1) rfl (RowV.cl ⟨rk, rc, rs, ri, rt, rb, rq, rr, rg⟩) _ hrow3.out Tryz.underlying33 rfl (by kernel_rfl) ?_)
                | (refine wpList_plain rfl fun _ hK => wp_slice_one _ rfl eRow (by decide) (by decide) (.agg (RowV.cl ⟨rk, rc, rs, ri, rt, rb, rq, rr, rg⟩).toArray) rfl rfl (hK _ _ ?_))
                | (at_builtin; refine append_grp rfl _ _ rfl eRow (by decide) w.heap.size _ _ _ rfl (hown3.out.alloc _) w3.heap.size (RowV.cl ⟨rk, rc, rs, ri, rt, rb, rq, rr, rg⟩) 33 rfl (Blk.new _ _ _) rfl (RowV.one _) (by have := hno.out; omega) (by have := hno.out; omega) (by have := hbb3.out.size; simp; omega) ?_; intro v6 w6 r6 g6 n6; obtain ⟨a6, c6, hv6⟩ := own_slice r6; subst hv6; replace r6 := hid r6; replace g6 := hid g6)
                | (refine wpList_load_mid rfl 33 _ rfl gc (k * 10 + 1) rfl (RowV.cl ⟨rk, rc, rs, ri, rt, rb, rq, rr, rg⟩) _ hrow.out Tryz.underlying33 rfl (by kernel_rfl) ?_)
                | (go_at_call 51; refine CFi.out.mono ?_; rintro e w3 ⟨rfl, hb3⟩; replace hb3 := hid hb3; have cd3 := (hb3.out.cell (p := ⟨gc, k * 10, none⟩) (Nat.lt_of_lt_of_le hgc.out hI.out.bel.size)).trans cd; have hrow3 := hid (range_below hrow.out (Nat.lt_of_lt_of_le hgc.out hI.out.bel.size) hb3.out); have hown3 := hid (ownsRow_below hI.out.row hb3.out); have hbb3 := hid (hI.out.bel.trans (hb3.out.mono hI.out.bel.size))))
              exact ⟨⟨k + 1, _, a6, _, c6, rfl, by go_num, by omega, hid (ApI.put hI.out.len hI.out.le hI.out.kind hbb3.out hown3.out hrest.out hl2.out hkx.out (by simpa using r6.out) g6.out)⟩, by simp [intOf]; omega⟩
          · obtain ⟨kx, rfl⟩ : ∃ kx : Nat, ix = (kx : Int) := ⟨ix.toNat, by omega⟩
            have d0 : decide ((kx : Int) < 0) = false := decide_eq_false (by omega)
            have d1 : decide (0 ≤ (kx : Int)) = true := decide_eq_true (by omega)
            have hkn : Hid (kx < no) := hid (by have := hix.out.1; have := hI.out.len; omega)
            have hkb : kx ≤ 110000 := by have := hkn.out; have := hno.out; omega
            have hl2 : Hid (l2 = lk.eraseIdx kx ++ if xd = true then [] else [⟨rk, rc, rs, ri, rt, rb, rq, rr, rg⟩]) := hid (by
              have := hl2.out
              unfold applyR at this
              dsimp only at this
              rw [hixe.out, if_neg (by omega), if_pos (by omega)] at this
              cases this
              rfl)
            cases xd with
            | true =>
              go_wp2_with (first
                | (refine wpList_load_mid rfl 33 _ rfl gc (k * 10 + 1) rfl (RowV.cl ⟨rk, rc, rs, ri, rt, rb, rq, rr, rg⟩) _ hrow.out Tryz.underlying33 rfl (by kernel_rfl) ?_)
                | (go_at_call 51; refine CFi.out.mono ?_; rintro e w3 ⟨rfl, hb3⟩; have hb3 := hid hb3; have cd3 := (hb3.out.cell (p := ⟨gc, k * 10, none⟩) (Nat.lt_of_lt_of_le hgc.out hI.out.bel.size)).trans cd; have hrow3 := hid (range_below hrow.out (Nat.lt_of_lt_of_le hgc.out hI.out.bel.size) hb3.out); have hown3 := hid (ownsRow_below hI.out.row hb3.out); have hbb3 := hid (hI.out.bel.trans (hb3.out.mono hI.out.bel.size))))
              obtain ⟨u, hs1, hs2, hsrc1, hsrc2⟩ := rows_cut hown3.out kx hkn.out
              replace hsrc1 := hid hsrc1
              replace hsrc2 := hid hsrc2
              refine regionQ [] (by kernel_rfl) trivial fun KQ hKQ => ?_
              refine takeQ 0 rfl (by kernel_rfl) rfl (by kernel_rfl) fun K hK => ?_
              simp only [List.getElem_toArray, List.getElem_cons_zero, List.getElem_cons_succ]
              go_big_quiet_op
              refine hK _ ?_
              clear hK K
              refine takeQ 1 rfl (by kernel_rfl) rfl (by kernel_rfl) fun K hK => ?_
              simp only [List.getElem_toArray, List.getElem_cons_zero, List.getElem_cons_succ]
              go_big_quiet_op
              refine hK _ ?_
              clear hK K
              refine takeQ 2 rfl (by kernel_rfl) rfl (by kernel_rfl) fun K hK => ?_
              simp only [List.getElem_toArray, List.getElem_cons_zero, List.getElem_cons_succ]
              go_big_quiet_op
              refine hK _ ?_
              clear hK K
              refine takeQ 4 rfl (by kernel_rfl) rfl (by kernel_rfl) fun K hK => ?_
              simp only [List.getElem_toArray, List.getElem_cons_zero, List.getElem_cons_succ]
              go_big_quiet_op
              refine hK _ ?_
              clear hK K
              refine takeQ 5 rfl (by kernel_rfl) rfl (by kernel_rfl) fun K hK => ?_
              simp only [List.getElem_toArray, List.getElem_cons_zero, List.getElem_cons_succ]
              go_big_quiet_op
              refine hK _ ?_
              clear hK K
              refine takeQ 6 rfl (by kernel_rfl) rfl (by kernel_rfl) fun K hK => ?_
              simp only [List.getElem_toArray, List.getElem_cons_zero, List.getElem_cons_succ]
              go_big_quiet_op
              refine hK _ ?_
              clear hK K
              refine takeQ 7 rfl (by kernel_rfl) rfl (by kernel_rfl) fun K hK => ?_
              simp only [List.getElem_toArray, List.getElem_cons_zero, List.getElem_cons_succ]
              go_big_quiet_op
              refine hK _ ?_
              clear hK K
              refine stepN 3 rfl (by kernel_rfl) (by decide) (by kernel_rfl) fun K hK => ?_
              simp only [List.getElem_toArray, List.getElem_cons_zero, List.getElem_cons_succ]
              refine wp_append_part _ _ rfl eRow (by decide) w.heap.size (.slice none 0 0) 0 [] rfl (World.ownsRow_nil _ _ _ _) _ kx co ((lk.take kx).flatMap RowV.cl) rfl (by rw [cl_len, List.length_take]; have := hkn.out; have := hI.out.len; omega) (fun h => by rw [← cl_take]; exact hsrc1.out h) (cl_one _) (by omega) (by omega) (hbb3.out.size) fun v4 w4 r4 g4 n4 => ?_
              refine hK _ _ ?_
              clear hK K
              try simp only [Act.put, List.getElem_toArray, List.getElem_cons_zero, List.getElem_cons_succ, List.setIfInBounds_toArray, List.set_cons_zero, List.set_cons_succ]
              obtain ⟨a4, c4, hv4⟩ := own_slice r4
              subst hv4
              have hb4 := hid (hbb3.out.drew.grown g4 hbb3.out.drew.size (fun j e => by cases e))
              have hsrc4 := hid fun h => (hsrc2.out h).imp fun b hb => (⟨hb.1, fun j y hj => (g4.cell (hb.2 j y hj) (fun e => by cases e))⟩ : _ ∧ _)
              refine stepN 8 rfl (by kernel_rfl) (by decide) (by kernel_rfl) fun K hK => ?_
              simp only [List.getElem_toArray, List.getElem_cons_zero, List.getElem_cons_succ]
              refine wp_append_part _ _ rfl eRow (by decide) w.heap.size (.slice a4 (0 + kx) c4) (0 + kx) _ rfl r4 _ (no - (kx + 1)) (co - (kx + 1)) ((lk.drop (kx + 1)).flatMap RowV.cl) rfl (by rw [cl_len, List.length_drop]; have := hI.out.len; omega) (fun h => by rw [← cl_drop]; exact hsrc4.out h) (cl_one _) (by have := hno.out; omega) (by have := hno.out; omega) (hb4.out.size) fun v5 w5 r5 g5 n5 => ?_
              refine hK _ _ ?_
              clear hK K
              try simp only [Act.put, List.getElem_toArray, List.getElem_cons_zero, List.getElem_cons_succ, List.setIfInBounds_toArray, List.set_cons_zero, List.set_cons_succ]
              obtain ⟨no1, hn1⟩ : ∃ x, 0 + kx + (no - (kx + 1)) = x := ⟨_, rfl⟩
              rw [hn1] at r5
              obtain ⟨a5, c5, hv5⟩ := own_slice r5
              subst hv5
              refine takeQ 9 rfl (by kernel_rfl) rfl (by kernel_rfl) fun K hK => ?_
              simp only [List.getElem_toArray, List.getElem_cons_zero, List.getElem_cons_succ]
              go_big_quiet_op
              refine hK _ ?_
              clear hK K
              refine doneQ (by kernel_rfl) (hKQ.out _ _ ?_)
              clear hKQ KQ
              have hbb5 := hid (hb4.out.grown g5 hb4.out.size (fun x hx => (r4.lt x hx).1))
              have hrow5 := hid (range_below (range_back hrow.out hgc.out hI.out.bel) hgc.out hbb5.out)
              have cd5 := (hbb5.out.cell (p := ⟨gc, k * 10, none⟩) hgc.out).trans ((hI.out.bel.cell (p := ⟨gc, k * 10, none⟩) hgc.out).symm.trans cd)
              have hown5 : Hid (w5.ownsRow w.heap.size 33 9 (.slice a5 no1 c5) no1 ((lk.eraseIdx kx).flatMap RowV.cl)) := hid (by rw [cl_erase _ _ (by have := hkn.out; have := hI.out.len; omega)]; simpa using r5)
              have hn1 := hid hn1
              clear r5 g5 r4 g4 n4 n5 hs1 hs2 cd3
              go_wp2_with fail
              have hl3 : l2 = lk.eraseIdx kx := by simpa using hl2.out
              exact ⟨⟨k + 1, _, a5, _, c5, rfl, by go_num, by omega, hid ⟨hown5.out, erase_len hI.out.len hkn.out hn1.out, by have := hI.out.le; have := hkn.out; have := hn1.out; omega, by rw [← hl3]; exact hrest.out, erase_kind hI.out.kind kx, hbb5.out⟩⟩, by simp [intOf]; omega⟩
            | false =>
              go_wp2_with (first
                | (refine wpList_load_mid rfl 33 _ rfl gc (k * 10 + 1) rfl (RowV.cl ⟨rk, rc, rs, ri, rt, rb, rq, rr, rg⟩) _ hrow.out Tryz.underlying33 rfl (by kernel_rfl) ?_)
                | (go_at_call 51; refine CFi.out.mono ?_; rintro e w3 ⟨rfl, hb3⟩; have hb3 := hid hb3; have cd3 := (hb3.out.cell (p := ⟨gc, k * 10, none⟩) (Nat.lt_of_lt_of_le hgc.out hI.out.bel.size)).trans cd; have hrow3 := hid (range_below hrow.out (Nat.lt_of_lt_of_le hgc.out hI.out.bel.size) hb3.out); have hown3 := hid (ownsRow_below hI.out.row hb3.out); have hbb3 := hid (hI.out.bel.trans (hb3.out.mono hI.out.bel.size))))
              obtain ⟨u, hs1, hs2, hsrc1, hsrc2⟩ := rows_cut hown3.out kx hkn.out
              replace hsrc1 := hid hsrc1
              replace hsrc2 := hid hsrc2
              refine regionQ [] (by kernel_rfl) trivial fun KQ hKQ => ?_
              refine takeQ 0 rfl (by kernel_rfl) rfl (by kernel_rfl) fun K hK => ?_
              simp only [List.getElem_toArray, List.getElem_cons_zero, List.getElem_cons_succ]
              go_big_quiet_op
              refine hK _ ?_
              clear hK K
              refine takeQ 1 rfl (by kernel_rfl) rfl (by kernel_rfl) fun K hK => ?_
              simp only [List.getElem_toArray, List.getElem_cons_zero, List.getElem_cons_succ]
              go_big_quiet_op
              refine hK _ ?_
              clear hK K
              refine takeQ 2 rfl (by kernel_rfl) rfl (by kernel_rfl) fun K hK => ?_
              simp only [List.getElem_toArray, List.getElem_cons_zero, List.getElem_cons_succ]
              go_big_quiet_op
              refine hK _ ?_
              clear hK K
              refine takeQ 4 rfl (by kernel_rfl) rfl (by kernel_rfl) fun K hK => ?_
              simp only [List.getElem_toArray, List.getElem_cons_zero, List.getElem_cons_succ]
              go_big_quiet_op
              refine hK _ ?_
              clear hK K
              refine takeQ 5 rfl (by kernel_rfl) rfl (by kernel_rfl) fun K hK => ?_
              simp only [List.getElem_toArray, List.getElem_cons_zero, List.getElem_cons_succ]
              go_big_quiet_op
              refine hK _ ?_
              clear hK K
              refine takeQ 6 rfl (by kernel_rfl) rfl (by kernel_rfl) fun K hK => ?_
              simp only [List.getElem_toArray, List.getElem_cons_zero, List.getElem_cons_succ]
              go_big_quiet_op
              refine hK _ ?_
              clear hK K
              refine takeQ 7 rfl (by kernel_rfl) rfl (by kernel_rfl) fun K hK => ?_
              simp only [List.getElem_toArray, List.getElem_cons_zero, List.getElem_cons_succ]
              go_big_quiet_op
              refine hK _ ?_
              clear hK K
              refine stepN 3 rfl (by kernel_rfl) (by decide) (by kernel_rfl) fun K hK => ?_
              simp only [List.getElem_toArray, List.getElem_cons_zero, List.getElem_cons_succ]
              refine wp_append_part _ _ rfl eRow (by decide) w.heap.size (.slice none 0 0) 0 [] rfl (World.ownsRow_nil _ _ _ _) _ kx co ((lk.take kx).flatMap RowV.cl) rfl (by rw [cl_len, List.length_take]; have := hkn.out; have := hI.out.len; omega) (fun h => by rw [← cl_take]; exact hsrc1.out h) (cl_one _) (by omega) (by omega) (hbb3.out.size) fun v4 w4 r4 g4 n4 => ?_
              refine hK _ _ ?_
              clear hK K
              try simp only [Act.put, List.getElem_toArray, List.getElem_cons_zero, List.getElem_cons_succ, List.setIfInBounds_toArray, List.set_cons_zero, List.set_cons_succ]
              obtain ⟨a4, c4, hv4⟩ := own_slice r4
              subst hv4
              have hb4 := hid (hbb3.out.drew.grown g4 hbb3.out.drew.size (fun j e => by cases e))
              have hsrc4 := hid fun h => (hsrc2.out h).imp fun b hb => (⟨hb.1, fun j y hj => (g4.cell (hb.2 j y hj) (fun e => by cases e))⟩ : _ ∧ _)
              refine stepN 8 rfl (by kernel_rfl) (by decide) (by kernel_rfl) fun K hK => ?_
              simp only [List.getElem_toArray, List.getElem_cons_zero, List.getElem_cons_succ]
              refine wp_append_part _ _ rfl eRow (by decide) w.heap.size (.slice a4 (0 + kx) c4) (0 + kx) _ rfl r4 _ (no - (kx + 1)) (co - (kx + 1)) ((lk.drop (kx + 1)).flatMap RowV.cl) rfl (by rw [cl_len, List.length_drop]; have := hI.out.len; omega) (fun h => by rw [← cl_drop]; exact hsrc4.out h) (cl_one _) (by have := hno.out; omega) (by have := hno.out; omega) (hb4.out.size) fun v5 w5 r5 g5 n5 => ?_
              refine hK _ _ ?_
              clear hK K
              try simp only [Act.put, List.getElem_toArray, List.getElem_cons_zero, List.getElem_cons_succ, List.setIfInBounds_toArray, List.set_cons_zero, List.set_cons_succ]
              obtain ⟨no1, hn1⟩ : ∃ x, 0 + kx + (no - (kx + 1)) = x := ⟨_, rfl⟩
              rw [hn1] at r5
              obtain ⟨a5, c5, hv5⟩ := own_slice r5
              subst hv5
              refine takeQ 9 rfl (by kernel_rfl) rfl (by kernel_rfl) fun K hK => ?_
              simp only [List.getElem_toArray, List.getElem_cons_zero, List.getElem_cons_succ]
              go_big_quiet_op
              refine hK _ ?_
              clear hK K
              refine doneQ (by kernel_rfl) (hKQ.out _ _ ?_)
              clear hKQ KQ
              have hbb5 := hid (hb4.out.grown g5 hb4.out.size (fun x hx => (r4.lt x hx).1))
              have hrow5 := hid (range_below (range_back hrow.out hgc.out hI.out.bel) hgc.out hbb5.out)
              have cd5 := (hbb5.out.cell (p := ⟨gc, k * 10, none⟩) hgc.out).trans ((hI.out.bel.cell (p := ⟨gc, k * 10, none⟩) hgc.out).symm.trans cd)
              have hown5 : Hid (w5.ownsRow w.heap.size 33 9 (.slice a5 no1 c5) no1 ((lk.eraseIdx kx).flatMap RowV.cl)) := hid (by rw [cl_erase _ _ (by have := hkn.out; have := hI.out.len; omega)]; simpa using r5)
              have hn1 := hid hn1
              clear r5 g5 r4 g4 n4 n5 hs1 hs2 cd3
              have hno5 : Hid (no1 ≤ 110000) := hid (by have := hn1.out; have := hkn.out; have := hno.out; omega)
              go_wp2_with (first
                | (refine wpList_load_mid rfl 33 _ rfl gc (k * 10 + 1) rfl (RowV.cl ⟨rk, rc, rs, ri, rt, rb, rq, rr, rg⟩) _ hrow5.out Tryz.underlying33 rfl (by kernel_rfl) ?_)
                | (refine wpList_plain rfl fun _ hK => wp_slice_one _ rfl eRow (by decide) (by decide) (.agg (RowV.cl ⟨rk, rc, rs, ri, rt, rb, rq, rr, rg⟩).toArray) rfl rfl (hK _ _ ?_))
                | (at_builtin; refine append_grp rfl _ _ rfl eRow (by decide) w.heap.size _ _ _ rfl (hown5.out.alloc _) w5.heap.size (RowV.cl ⟨rk, rc, rs, ri, rt, rb, rq, rr, rg⟩) 33 rfl (Blk.new _ _ _) rfl (RowV.one _) (by have := hno5.out; omega) (by have := hno5.out; omega) (by have := hbb5.out.size; simp; omega) ?_; intro v6 w6 r6 g6 n6; obtain ⟨a6, c6, hv6⟩ := own_slice r6; subst hv6; replace r6 := hid r6; replace g6 := hid g6)
                | (refine wpList_load_mid rfl 33 _ rfl gc (k * 10 + 1) rfl (RowV.cl ⟨rk, rc, rs, ri, rt, rb, rq, rr, rg⟩) _ hrow.out Tryz.underlying33 rfl (by kernel_rfl) ?_)
                | (go_at_call 51; refine CFi.out.mono ?_; rintro e w3 ⟨rfl, hb3⟩; replace hb3 := hid hb3; have cd3 := (hb3.out.cell (p := ⟨gc, k * 10, none⟩) (Nat.lt_of_lt_of_le hgc.out hI.out.bel.size)).trans cd; have hrow3 := hid (range_below hrow.out (Nat.lt_of_lt_of_le hgc.out hI.out.bel.size) hb3.out); have hown3 := hid (ownsRow_below hI.out.row hb3.out); have hbb3 := hid (hI.out.bel.trans (hb3.out.mono hI.out.bel.size))))
              exact ⟨⟨k + 1, _, a6, _, c6, rfl, by go_num, by omega, hid (ApI.put (erase_len hI.out.len hkn.out hn1.out) (by have := hI.out.le; have := hkn.out; have := hn1.out; omega) (erase_kind hI.out.kind kx) hbb5.out hown5.out hrest.out (by simpa using hl2.out) hkx.out (by simpa using r6.out) g6.out)⟩, by simp [intOf]; omega⟩
        · obtain rfl : k = m := by omega
          have dk : decide ((k : Int) < (k : Int)) = false := by simp
          have hfin := hI.out.rest
          rw [List.drop_eq_nil_of_le (by have := hm.out; omega)] at hfin
          have hfin := hid hfin
          go_wp2_with fail
          go_returns
          obtain h := hfin.out
          cases h
          exact ⟨_, rfl, by have := hI.out.row; rw [← hI.out.len] at this ⊢; exact this, hI.out.bel⟩
end Go.Proofs.YtoinabapaeebfaaGreatDoor
namespace Go.Proofs
open Go.Shelf
def Tryz.sortF_ren : Go.Shelf.Ren := ⟨fun | 6 => 55 | 15 => 115 | 14 => 114 | 28 => 179 | 29 => 180 | 20 => 171 | 21 => 172 | 22 => 173 | 23 => 174 | 24 => 175 | 25 => 176 | 26 => 177 | 27 => 178 | 46 => 198 | 47 => 199 | 48 => 200 | 49 => 201 | 50 => 202 | 57 => 216 | n => n, fun | 22 => 121 | 24 => 126 | 25 => 129 | 3 => 3 | 39 => 194 | 0 => 0 | 53 => 255 | 55 => 179 | 4 => 4 | 46 => 249 | 45 => 248 | 50 => 84 | 5 => 5 | 9 => 9 | 66 => 269 | 70 => 273 | 76 => 293 | 77 => 294 | n => n, fun | n => n⟩
theorem Tryz.sortF : Go.Proofs.SlLaysF.n6 Tryz.prog Tryz.sortF_ren := {
  mixed := by kernel_rfl
  f6 := ⟨Tryz.f55.name, by decide, Tryz.func55.trans (congrArg some (by kernel_rfl))⟩
  f14 := ⟨Tryz.f114.name, by decide, Tryz.func114.trans (congrArg some (by kernel_rfl))⟩
  f15 := Tryz.func115.trans (congrArg some (by kernel_rfl))
  f20 := ⟨Tryz.f171.name, by decide, Tryz.func171.trans (congrArg some (by kernel_rfl))⟩
  f21 := ⟨Tryz.f172.name, by decide, Tryz.func172.trans (congrArg some (by kernel_rfl))⟩
  f22 := ⟨Tryz.f173.name, by decide, Tryz.func173.trans (congrArg some (by kernel_rfl))⟩
  f23 := ⟨Tryz.f174.name, by decide, Tryz.func174.trans (congrArg some (by kernel_rfl))⟩
  f24 := ⟨Tryz.f175.name, by decide, Tryz.func175.trans (congrArg some (by kernel_rfl))⟩
  f25 := ⟨Tryz.f176.name, by decide, Tryz.func176.trans (congrArg some (by kernel_rfl))⟩
  f26 := ⟨Tryz.f177.name, by decide, Tryz.func177.trans (congrArg some (by kernel_rfl))⟩
  f27 := ⟨Tryz.f178.name, by decide, Tryz.func178.trans (congrArg some (by kernel_rfl))⟩
  f28 := Tryz.func179.trans (congrArg some (by kernel_rfl))
  f29 := Tryz.func180.trans (congrArg some (by kernel_rfl))
  f46 := ⟨Tryz.f198.name, by decide, Tryz.func198.trans (congrArg some (by kernel_rfl))⟩
  f47 := Tryz.func199.trans (congrArg some (by kernel_rfl))
  f48 := Tryz.func200.trans (congrArg some (by kernel_rfl))
  f49 := ⟨Tryz.f201.name, by decide, Tryz.func201.trans (congrArg some (by kernel_rfl))⟩
  f50 := ⟨Tryz.f202.name, by decide, Tryz.func202.trans (congrArg some (by kernel_rfl))⟩
  f57 := ⟨Tryz.f216.name, by decide, Tryz.func216.trans (congrArg some (by kernel_rfl))⟩
  t0 := Tryz.underlying0
  a0 := Tryz.isAgg0
  z0 := Tryz.sizeOf0
  v0 := Tryz.zeroValue0
  t3 := Tryz.underlying3
  a3 := Tryz.isAgg3
  z3 := Tryz.sizeOf3
  v3 := Tryz.zeroValue3
  t4 := Tryz.underlying4
  a4 := Tryz.isAgg4
  z4 := Tryz.sizeOf4
  v4 := Tryz.zeroValue4
  t5 := Tryz.underlying5
  a5 := Tryz.isAgg5
  z5 := Tryz.sizeOf5
  v5 := Tryz.zeroValue5
  t9 := Tryz.underlying9
  a9 := Tryz.isAgg9
  z9 := Tryz.sizeOf9
  v9 := Tryz.zeroValue9
  t22 := Tryz.underlying121
  a22 := Tryz.isAgg121
  z22 := Tryz.sizeOf121
  v22 := Tryz.zeroValue121
  a24 := Tryz.isAgg126
  z24 := Tryz.sizeOf126
  t25 := Tryz.underlying129
  a25 := Tryz.isAgg129
  z25 := Tryz.sizeOf129
  v25 := Tryz.zeroValue129
  t39 := Tryz.underlying194
  a39 := Tryz.isAgg194
  z39 := Tryz.sizeOf194
  v39 := Tryz.zeroValue194
  t45 := Tryz.underlying248
  a45 := Tryz.isAgg248
  z45 := Tryz.sizeOf248
  v45 := Tryz.zeroValue248
  t46 := Tryz.underlying249
  a46 := Tryz.isAgg249
  z46 := Tryz.sizeOf249
  v46 := Tryz.zeroValue249
  t50 := Tryz.underlying84
  a50 := Tryz.isAgg84
  z50 := Tryz.sizeOf84
  v50 := Tryz.zeroValue84
  t53 := Tryz.underlying255
  a53 := Tryz.isAgg255
  z53 := Tryz.sizeOf255
  v53 := Tryz.zeroValue255
  t55 := Tryz.underlying179
  a55 := Tryz.isAgg179
  z55 := Tryz.sizeOf179
  v55 := Tryz.zeroValue179
  t66 := Tryz.underlying269
  a66 := Tryz.isAgg269
  z66 := Tryz.sizeOf269
  v66 := Tryz.zeroValue269
  t70 := Tryz.underlying273
  a70 := Tryz.isAgg273
  z70 := Tryz.sizeOf273
  v70 := Tryz.zeroValue273
  t76 := Tryz.underlying293
  a76 := Tryz.isAgg293
  z76 := Tryz.sizeOf293
  v76 := Tryz.zeroValue293
  t77 := Tryz.underlying294
  a77 := Tryz.isAgg294
  z77 := Tryz.sizeOf294
  v77 := Tryz.zeroValue294 }
end Go.Proofs
namespace Go.Proofs.YtoinabapaeebfaaGreatDoor
open Go.RowKit Go.Shelf Go.Sort

def cmpI (x y : Int) : Int := if x < y then -1 else if y < x then 1 else 0
set_option maxRecDepth 100000 in
set_option maxHeartbeats 400000 in
theorem cmp_isNaN (x : Int) (w : World) : Calls Tryz.prog 116 #[.int .i64 x] w fun e w' => e = .returned (.bool false) ∧ w = w' := by
  go_enter Tryz.func116, Tryz.ntmps116
  go_wp2
  go_ret
  exact ⟨by simp, rfl⟩
set_option maxRecDepth 100000 in
set_option maxHeartbeats 800000 in
theorem cmp_Compare (x y : Int) (w : World) : Calls Tryz.prog 57 #[.int .i64 x, .int .i64 y] w fun e w' => e = .returned (.int .i64 (cmpI x y)) ∧ w = w' := by
  have C := hid fun x => cmp_isNaN x w
  by_cases h1 : x < y
  · have d1 : decide (x < y) = true := decide_eq_true h1
    have hc := hid (show cmpI x y = -1 by unfold cmpI; rw [if_pos h1])
    clear h1
    go_enter Tryz.func57, Tryz.ntmps57
    go_wp2_with (go_at_call 116; refine (C.out _).mono ?_; rintro e w1 ⟨rfl, rfl⟩)
    go_ret
    exact ⟨by rw [hc.out]; rfl, rfl⟩
  · have d1 : decide (x < y) = false := decide_eq_false h1
    by_cases h2 : y < x
    · have d2 : decide (y < x) = true := decide_eq_true h2
      have hc := hid (show cmpI x y = 1 by unfold cmpI; rw [if_neg h1, if_pos h2])
      clear h1 h2
      go_enter Tryz.func57, Tryz.ntmps57
      go_wp2_with (go_at_call 116; refine (C.out _).mono ?_; rintro e w1 ⟨rfl, rfl⟩)
      go_ret
      exact ⟨by rw [hc.out]; rfl, rfl⟩
    · have d2 : decide (y < x) = false := decide_eq_false h2
      have hc := hid (show cmpI x y = 0 by unfold cmpI; rw [if_neg h1, if_neg h2])
      clear h1 h2
      go_enter Tryz.func57, Tryz.ntmps57
      go_wp2_with (go_at_call 116; refine (C.out _).mono ?_; rintro e w1 ⟨rfl, rfl⟩)
      go_ret
      exact ⟨by rw [hc.out]; rfl, rfl⟩
set_option maxRecDepth 100000 in
set_option maxHeartbeats 800000 in
theorem out_Of1 (a b : Nat) (x y : Int) (w : World) (ha : w.cell? ⟨a, 2, none⟩ = some (.int .i64 x)) (hb : w.cell? ⟨b, 2, none⟩ = some (.int .i64 y)) :
    Calls Tryz.prog 56 #[.pointer (some ⟨a, 0, none⟩), .pointer (some ⟨b, 0, none⟩)] w fun e w' => e = .returned (.int .i64 (cmpI x y)) ∧ ∃ q, w' = w.drewN q := by
  have C := hid fun W => cmp_Compare x y W
  generalize cmpI x y = z at *
  go_enter Tryz.func56, Tryz.ntmps56
  go_wp2
  have ha' : w.drew.cell? ⟨a, 2, none⟩ = some (.int .i64 x) := ha
  have hb' : w.drew.cell? ⟨b, 2, none⟩ = some (.int .i64 y) := hb
  refine regionQ [(1000, fun w' => w'.cell? ⟨a, 2, none⟩ = some (.int .i64 x)), (1000, fun w' => w'.cell? ⟨b, 2, none⟩ = some (.int .i64 y))] (by kernel_rfl) ⟨ha', hb', trivial⟩ fun KQ hKQ => ?_
  refine takeQ 0 rfl (by kernel_rfl) rfl (by kernel_rfl) fun K hK => ?_
  simp only [List.getElem_toArray, List.getElem_cons_zero, List.getElem_cons_succ]
  go_big_quiet_op
  refine hK _ ?_
  clear hK K
  refine nilQ 1 rfl (by kernel_rfl) (by kernel_rfl) rfl rfl ?_
  simp only [Act.put, List.getElem_toArray, List.getElem_cons_zero, List.getElem_cons_succ, List.setIfInBounds_toArray, List.set_cons_zero, List.set_cons_succ]
  refine takeQ 2 rfl (by kernel_rfl) rfl (by kernel_rfl) fun K hK => ?_
  simp only [List.getElem_toArray, List.getElem_cons_zero, List.getElem_cons_succ]
  go_big_quiet_op
  refine hK _ ?_
  clear hK K
  refine loadQ 3 rfl (by kernel_rfl) (by kernel_rfl) rfl rfl 0 rfl (by kernel_rfl) (.int .i64 x) (fun w' hf => by (go_simp <;> with_reducible rfl)) ?_
  simp only [Act.put, List.getElem_toArray, List.getElem_cons_zero, List.getElem_cons_succ, List.setIfInBounds_toArray, List.set_cons_zero, List.set_cons_succ]
  refine takeQ 4 rfl (by kernel_rfl) rfl (by kernel_rfl) fun K hK => ?_
  simp only [List.getElem_toArray, List.getElem_cons_zero, List.getElem_cons_succ]
  go_big_quiet_op
  refine hK _ ?_
  clear hK K
  refine nilQ 5 rfl (by kernel_rfl) (by kernel_rfl) rfl rfl ?_
  simp only [Act.put, List.getElem_toArray, List.getElem_cons_zero, List.getElem_cons_succ, List.setIfInBounds_toArray, List.set_cons_zero, List.set_cons_succ]
  refine takeQ 6 rfl (by kernel_rfl) rfl (by kernel_rfl) fun K hK => ?_
  simp only [List.getElem_toArray, List.getElem_cons_zero, List.getElem_cons_succ]
  go_big_quiet_op
  refine hK _ ?_
  clear hK K
  refine loadQ 7 rfl (by kernel_rfl) (by kernel_rfl) rfl rfl 1 rfl (by kernel_rfl) (.int .i64 y) (fun w' hf => by (go_simp <;> with_reducible rfl)) ?_
  simp only [Act.put, List.getElem_toArray, List.getElem_cons_zero, List.getElem_cons_succ, List.setIfInBounds_toArray, List.set_cons_zero, List.set_cons_succ]
  refine stepQ 8 rfl (by kernel_rfl) (by decide) (by kernel_rfl) fun K hK => ?_
  simp only [List.getElem_toArray, List.getElem_cons_zero, List.getElem_cons_succ]
  go_simp
  refine (C.out _).mono ?_
  rintro e w1 ⟨rfl, rfl⟩
  refine hK _ _ ⟨⟨fun _ => ha', fun _ => hb', trivial⟩, ?_⟩
  clear hK K
  refine takeQ 9 rfl (by kernel_rfl) rfl (by kernel_rfl) fun K hK => ?_
  simp only [List.getElem_toArray, List.getElem_cons_zero, List.getElem_cons_succ]
  go_big_quiet_op
  refine hK _ ?_
  clear hK K
  refine doneQ (by kernel_rfl) (hKQ.out _ _ ?_)
  clear hKQ KQ
  go_wp2
  go_ret
  exact ⟨rfl, 1, rfl⟩

theorem cmpI_lt (x y : Int) : decide (cmpI x y < 0) = decide (x < y) := by
  unfold cmpI
  by_cases h1 : x < y
  · simp [h1]
  · by_cases h2 : y < x <;> simp [h1, h2]

theorem sortWorld_block {α : Type} [Inhabited α] (enc : α → Value) (w : World) (g q : Nat) (d : Array α) (os : Array Obj) (k : Nat) (h1 : k ≠ g) (h2 : k < w.heap.size) : (sortWorld enc w g 0 q d os).heap[k]? = w.heap[k]? := by
  unfold sortWorld
  rw [heap_grow_old _ _ (by simpa [putRow, mapBlock, Sort.ahead] using h2)]
  simp [putRow, mapBlock, Sort.ahead, Array.getElem?_modify, Ne.symm h1]
theorem sortWorld_cell {α : Type} [Inhabited α] (enc : α → Value) (w : World) (g q : Nat) (d : Array α) (os : Array Obj) (a : Addr) (h1 : a.block ≠ g) (h2 : a.block < w.heap.size) : (sortWorld enc w g 0 q d os).cell? a = w.cell? a := by
  simp only [World.cell?, sortWorld_block enc w g q d os a.block h1 h2]
theorem sortWorld_wrote {α : Type} [Inhabited α] (enc : α → Value) (w : World) (g q : Nat) (d : Array α) (os : Array Obj) : Wrote [g] w (sortWorld enc w g 0 q d os) :=
  ⟨rfl, rfl, rfl, by simp [sortWorld, grow, putRow, mapBlock, Sort.ahead], fun k hk hg => sortWorld_block enc w g q d os k (by simpa using hg) hk⟩
theorem below_grow (w : World) (os : Array Obj) : Below w.heap.size w (grow w os) := ⟨rfl, rfl, rfl, by simp [grow], fun k hk => heap_grow_old w os hk⟩

/-- Rows by their numbers, at whatever length. -/
theorem sort_rows (w : World) (g cap : Nat) (rb : List Nat) (rows : List RowV) (n : Nat) (hn : 0 < n) (h63 : n ≤ 1000000) (hl : rb.length = n) (hr : rows.length = n) (hrow : w.ownsRow 0 126 1 (.slice (some ⟨g, 0, none⟩) n cap) n (ptrs rb))
    (hc : ∀ (i b : Nat) (r : RowV), rb[i]? = some b → rows[i]? = some r → Blk w b r.vals 33) :
    Calls Tryz.prog 55 #[.slice (some ⟨g, 0, none⟩) n cap, .func (.func 56) #[] #[]] w fun e w' => e = .returned (.tuple #[]) ∧
      ∃ zs : List (Nat × RowV), zs.Perm (rb.zip rows) ∧ zs.Pairwise (fun a b => a.2.seq ≤ b.2.seq) ∧ w'.ownsRow 0 126 1 (.slice (some ⟨g, 0, none⟩) n cap) n (ptrs (zs.map Prod.fst)) ∧ Wrote [g] w w' := by
  haveI : Inhabited (Fin n) := ⟨⟨0, hn⟩⟩
  let enc : Fin n → Value := fun i => .pointer (some ⟨rb[i.1]'(by omega), 0, none⟩)
  let cf : Fin n → Fin n → Int := fun i j => cmpI (rows[i.1]'(by omega)).seq (rows[j.1]'(by omega)).seq
  have henc : ∀ i : Fin n, enc i = .pointer (some ⟨rb[i.1]'(by omega), 0, none⟩) := fun _ => rfl
  have hidr : (List.finRange n).map enc = ptrs rb := by
    unfold ptrs
    apply List.ext_getElem
    · simp [hl]
    · intro i h1 h2
      simp [henc]
  have hrow' : w.ownsRow 0 126 1 (.slice (some ⟨g, 0, none⟩) n cap) n ((List.finRange n).map enc) := by rw [hidr]; exact hrow
  obtain ⟨g', cap', he, _, hgl, _, _, _, hH⟩ := Lib.holds_of_ownsRow hrow' (by simp)
  obtain ⟨rfl, rfl⟩ : g = g' ∧ cap = cap' := by simpa using he
  have hlt : ∀ x y, ltOf cf x y = decide ((rows[x.1]'(by omega)).seq < (rows[y.1]'(by omega)).seq) := fun x y => cmpI_lt _ _
  have hO : SWO (ltOf cf) := ⟨fun x => by rw [hlt]; simp, fun x y z h1 h2 => by rw [hlt] at *; simp at *; omega, fun x y z h1 h2 => by rw [hlt] at *; simp at *; omega⟩
  have hcell : ∀ i : Fin n, w.cell? ⟨rb[i.1]'(by omega), 2, none⟩ = some (.int .i64 (rows[i.1]'(by omega)).seq) ∧ rb[i.1]'(by omega) < w.heap.size ∧ rb[i.1]'(by omega) ≠ g := fun i => by
    have hb := hc i.1 _ _ (List.getElem?_eq_getElem (by omega)) (List.getElem?_eq_getElem (by omega))
    exact ⟨hb.cell 2, hb.lt, fun h => block_not_row hb (by decide) hrow (by rw [h]; rfl)⟩
  have hcmp : CmpReads Tryz.prog 56 #[] enc cf g 0 n w := fun m os dk hs x y => by
    obtain ⟨x1, x2, x3⟩ := hcell x
    obtain ⟨y1, y2, y3⟩ := hcell y
    exact out_Of1 _ _ _ _ _ ((sortWorld_cell enc w g m dk os ⟨_, 2, none⟩ x3 x2).trans x1) ((sortWorld_cell enc w g m dk os ⟨_, 2, none⟩ y3 y2).trans y1)
  have hsz : (List.finRange n).toArray.size = n := by simp
  have hcon := Any.slices_SortFunc Tryz.sortF enc (fun _ => rfl) cf hO 56 #[] g 0 cap (List.finRange n).toArray w (enters_of Tryz.func56 (by kernel_rfl) rfl) (by rw [hsz]; exact hcmp.lays) hH hgl (by rw [hsz]; omega)
  rw [hsz] at hcon
  change Calls Tryz.prog 55 _ _ _ at hcon
  refine hcon.mono ?_
  rintro e w' ⟨he, d', q, os, hp, hs, rfl⟩
  refine ⟨he, ?_⟩
  obtain ⟨p1, -, p3⟩ := hp
  rw [hsz] at p1
  have hd : d'.toList.Perm (List.finRange n) := by
    have e1 : (d'.extract 0 n).toList = d'.toList := by
      rw [Array.toList_extract]
      simp [List.extract, List.take_of_length_le (show d'.toList.length ≤ n by simp [p1])]
    have e2 : ((List.finRange n).toArray.extract 0 n).toList = List.finRange n := by
      rw [Array.toList_extract]
      simp [List.extract, List.take_of_length_le]
    rw [e1, e2] at p3
    exact p3
  refine ⟨d'.toList.map fun i => (rb[i.1]'(by omega), rows[i.1]'(by omega)), ?_, ?_, ?_, sortWorld_wrote enc w g q d' os⟩
  · refine (hd.map _).trans ?_
    rw [show (List.finRange n).map (fun i => (rb[i.1]'(by omega), rows[i.1]'(by omega))) = rb.zip rows by
      apply List.ext_getElem
      · simp [hl, hr]
      · intro i h1 h2
        simp]
  · rw [List.pairwise_map, List.pairwise_iff_getElem]
    intro i j hi hj hij
    have := hs i j (Nat.zero_le _) hij (by simp [p1] at hj ⊢; omega)
    rw [hlt] at this
    simp only [decide_eq_false_iff_not, Int.not_lt] at this
    simp only [Array.length_toList] at hi hj
    simpa [getElem!_pos, hi, hj] using this
  · have e3 : ptrs ((d'.toList.map fun i => (rb[i.1]'(by omega), rows[i.1]'(by omega))).map Prod.fst) = d'.toList.map enc := by
      unfold ptrs
      rw [List.map_map, List.map_map]
      rfl
    rw [e3]
    have h1 := Lib.ownsRow_putRow (q := q) (k := n) hrow' (ys := d'.toList) (by simp [p1]) (Nat.le_refl _)
    rw [List.take_of_length_le (by simp [p1])] at h1
    exact ownsRow_below h1 (below_grow _ _)
end Go.Proofs.YtoinabapaeebfaaGreatDoor
namespace Go.Proofs.YtoinabapaeebfaaGreatDoor
open Go.RowKit Go.Shelf

theorem idsOf_pushS (l : List RowV) (r : RowV) (h : r.stage ≠ 1) : (r.id.toNat :: idsOf l).Perm (idsOf (l ++ [r])) := by
  unfold idsOf
  rw [List.filter_append, List.map_append]
  simp only [List.filter_cons, h, ne_eq, not_false_eq_true, decide_true, if_true, List.filter_nil, List.map_cons, List.map_nil]
  exact (List.perm_append_singleton _ _).symm
theorem OB.pushS {w0 w w1 : World} {B : Nat} {L : Lay} {s : OS} {ps : List PackV} {cs : List ChangeV} (h : OB w0 B L s ps cs) (r : RowV) (b : Nat) (hb : Blk w b r.vals 33) (hnb : b ∉ L.foot) (hgb : b ≠ 1) (hst : r.stage ≠ 1) (hy : 1 ≤ r.id ∧ r.id ≤ 65535)
    (hw0 : Wrote [L.sb] w0 w) (hin : Inb w L.ib L.sb 100 (tog L.W r.id.toNat)) (hnot : r.id.toNat ∉ idsOf s.l) (v' : Value)
    (r1 : w1.ownsRow 0 126 1 v' (s.l.length + 1) (ptrs L.rb ++ [.pointer (some ⟨b, 0, none⟩)])) (g1 : w.grownBy w1 L.vl.ownBlock) (n1 : ∀ k, v'.ownBlock = some k → L.vl.ownBlock = some k ∨ w.heap.size ≤ k)
    (hok : OS.OK { s with l := s.l ++ [r] }) :
    OB (w1.setCell ⟨L.p, 6, none⟩ v') B { L with vl := v', rb := L.rb ++ [b], W := tog L.W r.id.toNat } { s with l := s.l ++ [r] } ps cs ∧ Wrote L.foot w0 (w1.setCell ⟨L.p, 6, none⟩ v') ∧ (∀ x ∈ ({ L with vl := v', rb := L.rb ++ [b], W := tog L.W r.id.toNat } : Lay).foot, x ∈ L.foot ∨ x = b ∨ w.heap.size ≤ x) := by
  obtain ⟨p, ib, sb, vl, vp, vc, rb, W⟩ := L
  dsimp only at *
  have hbx0 : Blk w p (boxCells ⟨p, ib, sb, vl, vp, vc, rb, W⟩ s) 123 := h.box.wrote hw0 (by simp only [List.mem_singleton]; exact h.box.ne h.inb.set (by decide))
  have hrw : ∀ {base : Nat} {e : TypeId} {size : Nat} {v : Value} {n : Nat} {xs : List Value}, w0.ownsRow base e size v n xs → e ≠ 181 → w.ownsRow base e size v n xs := fun hx h2 => not_own hx hw0 fun x hm hbk => by
    simp only [List.mem_singleton] at hm
    subst hm
    exact block_not_row h.inb.set (Ne.symm h2) hx (mem_blk.1 hbk).symm
  have hrows := hrw h.rows (by decide)
  have hw1 : WT 126 w w1 := WT.row hrows g1
  have b1 := hbx0.wt hw1 (by decide)
  have hw2 : WT 123 w1 (w1.setCell ⟨p, 6, none⟩ v') := WT.set b1 6 _
  have hst' : Wrote (Lay.foot ⟨p, ib, sb, vl, vp, vc, rb, W⟩) w0 (w1.setCell ⟨p, 6, none⟩ v') := by
    refine ((hw0.sub (by simp [Lay.foot])).trans (Wrote.of_grown g1 (fun k hk => ?_))).trans (Wrote.setCell w1 _ (by simp [Lay.foot]) _)
    simp [Lay.foot, mem_blk, hk]
  have hsub : ∀ x ∈ Lay.foot ⟨p, ib, sb, v', vp, vc, rb ++ [b], tog W r.id.toNat⟩, x ∈ Lay.foot ⟨p, ib, sb, vl, vp, vc, rb, W⟩ ∨ x = b ∨ w.heap.size ≤ x := by
    intro x hx
    simp only [Lay.foot, List.mem_cons, List.mem_append, mem_blk, List.mem_singleton, List.not_mem_nil, or_false] at hx ⊢
    have := n1 x
    rcases hx with hx | hx | hx | ((hx | hx) | hx) | hx | hx
    all_goals first | (simp [hx]; done) | (rcases this hx with h1 | h1 <;> simp [h1])
  refine ⟨⟨Nat.le_trans h.base hst'.size, b1.set 6 _, ⟨(hin.box.wt hw1 (by decide)).wt hw2 (by decide), (hin.set.wt hw1 (by decide)).wt hw2 (by decide)⟩, ?_, ?_, ?_, ?_, ?_, row_wt (row_wt (hrw h.packs (by decide)) hw1 (by decide)) hw2 (by decide), row_wt (row_wt (hrw h.chgs (by decide)) hw1 (by decide)) hw2 (by decide), h.tz.wrote hst' h.gg, ?_, hok⟩, hst', hsub⟩
  · exact (h.set.come (by omega) hnot).perm (idsOf_pushS s.l r hst)
  · have := row_wt r1 hw2 (by decide)
    simpa [ptrs] using this
  · simp [h.len]
  · intro i b' r' h1 h2
    have hl := h.len
    dsimp only at hl h1 h2
    rcases Nat.lt_or_ge i s.l.length with hi | hi
    · rw [List.getElem?_append_left (by omega)] at h1 h2
      have hc := h.cells i b' r' h1 h2
      exact ((hc.wrote hw0 (by simp only [List.mem_singleton]; exact hc.ne h.inb.set (by decide))).wt hw1 (by decide)).wt hw2 (by decide)
    · rw [List.getElem?_append_right (by omega)] at h1 h2
      have e1 : i - s.l.length = 0 := by
        rcases Nat.eq_zero_or_pos (i - s.l.length) with h | h
        · exact h
        · rw [List.getElem?_eq_none (by simp; omega)] at h2; cases h2
      rw [e1] at h2
      rw [hl, e1] at h1
      simp at h1 h2
      subst h1 h2
      exact (hb.wt hw1 (by decide)).wt hw2 (by decide)
  · have hn : b ∉ rb := fun hm => hnb (by simp [Lay.foot, hm])
    show (rb ++ [b]).Nodup
    rw [List.nodup_append]
    refine ⟨h.nodup, by simp, fun a ha c hc => ?_⟩
    simp at hc
    subst hc
    exact fun e => hn (e ▸ ha)
  · intro hx
    rcases hsub _ hx with h1 | h1 | h1
    · exact h.gg h1
    · exact hgb h1.symm
    · have := h.tz.lt; have := hw0.size; omega

/-- Rows of which an outbox may be made. -/
structure GoodRows (s : OS) : Prop where
  row : ∀ r ∈ s.l, r.kind = 3 ∧ putMay r = true ∧ stageOK r ∧ r.client = s.client ∧ r.seq < s.seq ∧ r.topic.length ≤ 1000000
  ok : s.OK
  seqs : (s.l.map RowV.seq).Nodup
theorem idsOf_take (l : List RowV) (k : Nat) : (idsOf (l.take k)).Sublist (idsOf l) := ((List.take_sublist k l).filter _).map _
theorem OK_take {s : OS} (h : s.OK) (k : Nat) : OS.OK { s with l := s.l.take k } := by
  have h1 := (idsOf_take s.l k).length_le
  have h2 := h.under
  have h3 := h.room.2
  exact ⟨h.win, ⟨h.room.1, by simp; omega⟩, h.seq, h.id, h.cl, fun r hr => h.ids r (List.mem_of_mem_take hr), h.nodup.sublist (idsOf_take s.l k), by show ((idsOf (s.l.take k)).length : Int) ≤ s.window; omega⟩
theorem take_snocR {l : List RowV} {k : Nat} {r : RowV} (h : l[k]? = some r) : l.take (k + 1) = l.take k ++ [r] := by rw [List.take_add_one, h]; rfl
theorem idsOf_snoc (l : List RowV) (r : RowV) (h : r.stage ≠ 1) : (idsOf (l ++ [r])).length = (idsOf l).length + 1 := by
  have := (idsOf_pushS l r h).length_eq
  simpa using this.symm
end Go.Proofs.YtoinabapaeebfaaGreatDoor
