/- Parts of the proof of SessionRows: contracts of functions that it reaches, and plain lemmas. No condition of their own. -/
import Derived.Test.YtoinabapaeebfaaGreatDoorPk20
import Derived.Test.YtoinabapaeebfaaGreatDoorPk19
import Derived.Test.YtoinabapaeebfaaGreatDoorPk32
import Derived.Shelf.SlIter.Nil
import Derived.Shelf.SortM.Plain
import Derived.Shelf.SortM.SortNone
import Derived.Test.YtoinabapaeebfaaGreatDoorProg
set_option linter.unusedSimpArgs false
set_option linter.unusedVariables false
set_option maxRecDepth 100000
set_option maxHeartbeats 8000000
namespace Go.Proofs.YtoinabapaeebfaaGreatDoor
open Go.RowKit Go.Shelf
section
theorem range_tail {w : World} {g o : Nat} {x : Value} {cs : List Value} (h : w.rangeAt g o (x :: cs)) : w.rangeAt g (o + 1) cs := fun j v hj => by
 have := h (j + 1) v (by simpa using hj)
 rw [<- this]
 congr 2
 omega
theorem rows_cut {w : World} {base n c : Nat} {a : Option Addr} {xs : List Value} (h : w.ownsRow base 33 9 (.slice a n c) n xs) (k : Nat) (hk : k < n) :
  ∃ u, (∀ W : World, (Instr.slice 34 (.slice a n c) none (some (.int .i64 k)) none).run Tryz.prog W = .ok (.slice a k c) W) /\
   (∀ W : World, (Instr.slice 34 (.slice a n c) (some (.int .i64 ((k : Int) + 1))) none none).run Tryz.prog W = .ok (.slice u (n - (k + 1)) (c - (k + 1))) W) /\
   (0 < k -> ∃ b, a = some b /\ ∀ j y, (xs.take (k * 9))[j]? = some y -> w.cell? (b.add j) = some y) /\
   (0 < n - (k + 1) -> ∃ b, u = some b /\ ∀ j y, (xs.drop ((k + 1) * 9))[j]? = some y -> w.cell? (b.add j) = some y) := by
 have hs : ∀ W, (sizeOf (Tryz.prog.elem 34)).run Tryz.prog W = .ok 9 W := fun W => by kernel_rfl
 have hu : Tryz.prog.underlying 34 = some (.slice (Tryz.prog.elem 34)) := by kernel_rfl
 have hcl := fun g => h.cells (g := g)
 obtain ⟨h1, ⟨he, h2⟩ | ⟨g, cap, cur, he, _, _, hnc, _⟩⟩ := h
 ·omega
 ·cases he
  have r1 := fun W => run_slice_h W 34 (some ⟨g, 0, none⟩) n c hu .i64 k (by omega) (by omega)
  have r2 := fun W => run_slice_l W 34 (some ⟨g, 0, none⟩) n c hu .i64 ((k : Int) + 1) (by omega) (by omega)
  have e1 : ((k : Int) + 1).toNat = k + 1 := by omega
  refine ⟨if c = k + 1 then some ⟨g, 0, none⟩ else some ⟨g, (k + 1) * 9, none⟩, fun W => ?_, fun W => ?_, fun _ => ⟨_, rfl, fun j y hj => ?_⟩, fun hm => ?_⟩
  ·rw [r1 W, hs W]
   simp [sliced, Result.andThen, Addr.add]
  ·rw [r2 W, hs W, e1]
   simp [sliced, Result.andThen, Addr.add]
  ·refine hcl g rfl j y ?_
   rw [List.getElem?_take] at hj
   split at hj
   ·exact hj
   ·cases hj
  ·have hne : ¬ c = k + 1 := by omega
   rw [if_neg hne]
   refine ⟨_, rfl, fun j y hj => ?_⟩
   rw [List.getElem?_drop] at hj
   have := hcl g rfl _ y hj
   rw [<- this]
   rcases Nat.eq_zero_or_pos j with rfl | hj0
   ·simp [Addr.add]
   ·simp [Addr.add, show ¬ j = 0 by omega]
structure ApI (w W : World) (l' : List RowV) (cs : List ChangeV) (n k : Nat) (lk : List RowV) (ao : Option Addr) (no co : Nat) : Prop where
 row : W.ownsRow w.heap.size 33 9 (.slice ao no co) no (lk.flatMap RowV.cl)
 len : lk.length = no
 le : no <= n + k
 rest : appliesR lk (cs.drop k) = some l'
 kind : ∀ x ∈ lk, kindOK x
 bel : Below w.heap.size w W
theorem ApI.put {w W' W1 : World} {l' l2 lk : List RowV} {cs : List ChangeV} {n k no co c5 : Nat} {ao a5 : Option Addr} {r : RowV} {v : Obj} (hlen : lk.length = no) (hle : no <= n + k) (hkind : ∀ x ∈ lk, kindOK x) (hb : Below w.heap.size w W') (ho : W'.ownsRow w.heap.size 33 9 (.slice ao no co) no (lk.flatMap RowV.cl))
  (hr : appliesR l2 (cs.drop (k + 1)) = some l') (he : l2 = lk ++ [r]) (hk : kindOK r) (h5 : W1.ownsRow w.heap.size 33 9 (.slice a5 (no + 1) c5) (no + 1) (lk.flatMap RowV.cl ++ r.cl)) (hg : (W'.alloc v).grownBy W1 (Value.slice ao no co).ownBlock) : ApI w W1 l' cs n (k + 1) l2 a5 (no + 1) c5 := by
 subst he;refine ⟨by rw [List.flatMap_append, List.flatMap_singleton]; exact h5, by rw [List.length_append, hlen]; rfl, by omega, hr, fun x hx => ?_, (hb.alloc hb.size _).grown hg (by have := hb.size; simp; omega) (fun x hx => (ho.lt x hx).1)⟩
 rcases List.mem_append.1 hx with hx | hx
 ·exact hkind x hx
 ·simp at hx; subst hx; exact hk
theorem erase_kind {lk : List RowV} (h : ∀ x ∈ lk, kindOK x) (k : Nat) : ∀ x ∈ lk.eraseIdx k, kindOK x := fun x hx => h x ((List.eraseIdx_sublist _ _).subset hx)
theorem erase_len {lk : List RowV} {no kx no1 : Nat} (h : lk.length = no) (hk : kx < no) (hn : 0 + kx + (no - (kx + 1)) = no1) : (lk.eraseIdx kx).length = no1 := by
 rw [List.length_eraseIdx_of_lt (by omega)]; omega
theorem appliesR_drop {l l' : List RowV} {cs : List ChangeV} {k : Nat} {x : ChangeV} (hx : cs[k]? = some x) (h : appliesR l (cs.drop k) = some l') : ∃ l2, applyR l x = some l2 /\ appliesR l2 (cs.drop (k + 1)) = some l' := by
 have hk := (List.getElem?_eq_some_iff.1 hx)
 rw [List.drop_eq_getElem_cons hk.1, hk.2] at h
 simp only [appliesR] at h
 cases he : applyR l x with
 | none => rw [he] at h; cases h
 | some l2 => exact ⟨l2, rfl, by rw [he] at h; exact h⟩
theorem cl_len (l : List RowV) : (l.flatMap RowV.cl).length = l.length * 9 := by
 induction l with
 | nil => rfl
 | cons x l ih => rw [List.flatMap_cons, List.length_append, RowV.cllen, ih, List.length_cons]; omega
theorem cl_one (l : List RowV) : ∀ u ∈ l.flatMap RowV.cl, u.oneCell' = true := fun u hu => by
 obtain ⟨x, _, hx⟩ := List.mem_flatMap.1 hu
 exact x.one u hx
theorem cl_take (l : List RowV) : ∀ k, (l.flatMap RowV.cl).take (k * 9) = (l.take k).flatMap RowV.cl := by
 induction l with
 | nil => intro k; simp
 | cons x l ih =>
  intro k
  cases k with
  | zero => simp
  | succ k => rw [List.flatMap_cons, List.take_succ_cons, List.flatMap_cons, List.take_append, RowV.cllen, List.take_of_length_le (by rw [RowV.cllen]; omega), <- ih k]; congr 2; omega
theorem cl_drop (l : List RowV) : ∀ k, (l.flatMap RowV.cl).drop (k * 9) = (l.drop k).flatMap RowV.cl := by
 induction l with
 | nil => intro k; simp
 | cons x l ih =>
  intro k
  cases k with
  | zero => simp
  | succ k => rw [List.flatMap_cons, List.drop_succ_cons, List.drop_append, RowV.cllen, List.drop_eq_nil_of_le (by rw [RowV.cllen]; omega), <- ih k]; simp; congr 1; omega
theorem range_back {w w' : World} {g o : Nat} {cs : List Value} (h : w'.rangeAt g o cs) (hg : g < w.heap.size) (hb : Below w.heap.size w w') : w.rangeAt g o cs := fun j v hj => (hb.cell (p := ⟨g, o + j, none⟩) hg).symm.trans (h j v hj)
theorem r20_Apply (l l' : List RowV) (cs : List ChangeV) (b1 b2 : Nat) (a ac : Option Addr) (n c m cc : Nat) (w : World) (hv : w.ownsRow b1 33 9 (.slice a n c) n (l.flatMap RowV.cl)) (hn : l.length = n) (hcv : w.ownsRow b2 115 10 (.slice ac m cc) m (cs.flatMap ChangeV.cells)) (hm : cs.length = m)
  (hn5 : n <= 100000) (hm5 : m <= 10000) (hR : ∀ x ∈ cs, ∀ W, Calls Tryz.prog 50 #[.agg x.row.vals] W fun e w' => e = .returned (.bool true) /\ Below W.heap.size W w') (hkl : ∀ x ∈ l, kindOK x) (hkc : ∀ x ∈ cs, kindOK x.row) (hap : appliesR l cs = some l') :
  Calls Tryz.prog 12 #[.slice a n c, .slice ac m cc] w fun e w' => ∃ v, e = .returned (.tuple #[v, .int .i64 0]) /\ w'.ownsRow w.heap.size 33 9 v l'.length (l'.flatMap RowV.cl) /\ Below w.heap.size w w' := by
 have hV := hid hv;have hC := hid hcv;have hn := hid hn;have hm := hid hm;have hR := hid hR;have hkl := hid hkl;have hkc := hid hkc;have hap := hid hap;have dm : decide ((10000 : Int) < (m : Int)) = false := decide_eq_false (by omega)
 clear hv hcv;go_enter Tryz.func12, Tryz.ntmps12
 go_wp2_with fail
 go_loopw [6] (fun i wr => ∃ k : Nat, i = .int .i64 k /\ k <= m /\ Hid (Below w.heap.size w wr)) (fun i _ => m - (intOf i).toNat)
 case atStart => exact ⟨0, rfl, Nat.zero_le _, hid (Below.refl _ _)⟩
 case round =>
  obtain ⟨k, rfl, hk1, hb⟩ := hrel
  rcases Nat.lt_or_ge k m with hlt | hge
  ·have dk : decide ((k : Int) < (m : Int)) = true := decide_eq_true (by omega)
   obtain ⟨x, hx⟩ : ∃ x, cs[k]? = some x := ⟨_, List.getElem?_eq_getElem (by have := hm.out; omega)⟩
   obtain ⟨gc, hga, -, hrow⟩ := own_range ChangeV.cells ChangeV.cllen (l := cs) (n := m) hm.out (ownsRow_below hC.out hb.out) (k := k) (x := x) hx
   subst hga;have hrow := hid (range_tail (x := .bool x.drop) (cs := x.row.cl) hrow)
   have CR := hid (hR.out x (List.mem_of_getElem? hx) wr)
   obtain ⟨xd, xr⟩ := x
   obtain ⟨rk, rc, rs, ri, rt, rb, rq, rr, rg⟩ := xr
   unfold RowV.vals at CR
   dsimp only at CR hrow
   clear hx
   go_wp2_with (first
    | (refine wpList_load_mid rfl 33 _ rfl gc (k * 10 + 1) rfl (RowV.cl ⟨rk, rc, rs, ri, rt, rb, rq, rr, rg⟩) _ hrow.out Tryz.underlying33 rfl (by kernel_rfl) ?_)
    | (go_at_call 50; refine CR.out.mono ?_; rintro e w2 ⟨rfl, hb2⟩))
   go_roundw
   case rel => exact ⟨k + 1, by go_num, by omega, hid (hb.out.trans (hb2.mono hb.out.size))⟩
   case measure => simp [intOf]; omega
  ·obtain rfl : k = m := by omega
   have dk : decide ((k : Int) < (k : Int)) = false := by simp
   go_wp2_with (at_builtin; refine wpList_plain rfl fun _ hK => ?_; refine wp_append_rows _ _ rfl eRow (by decide) w.heap.size (.slice none 0 0) 0 [] rfl (World.ownsRow_nil _ _ _ _) b1 (.slice a n c) n (l.flatMap RowV.cl) rfl (ownsRow_below hV.out hb.out) (fun u hu => by obtain ⟨x, _, hx⟩ := List.mem_flatMap.1 hu; exact x.one u hx) (by omega) (by omega) (by have := hb.out.size; omega) fun v2 w2 r2 g2 n2 => hK _ _ ?_)
   have r2 := hid r2;have g2 := hid g2;obtain ⟨a2, c2, hv2⟩ : ∃ a2 c2, v2 = .slice a2 n c2 := by have := own_slice r2.out; simpa using this
   subst hv2;have hI0 : Hid (ApI w w2 l' cs n 0 l a2 n c2) := hid ⟨by simpa using r2.out, hn.out, by omega, by simpa using hap.out, hkl.out, hb.out.grown g2.out hb.out.size (fun j e => by cases e)⟩
   have hk0 : Hid (k <= 10000) := hid hm5
   obtain ⟨m, hmk⟩ : ∃ m, m = k := ⟨_, rfl⟩
   subst hmk;clear r2 g2 hap dm dk n2 hR hkl hb;go_wp2_with fail
   go_loopw [7, 8, 9] (fun o i _ wr => ∃ (k : Nat) (lk : List RowV) (ao : Option Addr) (no co : Nat), o = .slice ao no co /\ i = .int .i64 k /\ k <= m /\ Hid (ApI w wr l' cs n k lk ao no co)) (fun _ i _ _ => m - (intOf i).toNat)
   case atStart => exact ⟨0, l, a2, n, c2, rfl, rfl, Nat.zero_le _, hI0⟩
   case round =>
    obtain ⟨k, lk, ao, no, co, rfl, rfl, hk1, hI⟩ := hrel
    rcases Nat.lt_or_ge k m with hlt | hge
    ·have dk : decide ((k : Int) < (m : Int)) = true := decide_eq_true (by omega)
     obtain ⟨x, hx⟩ : ∃ x, cs[k]? = some x := ⟨_, List.getElem?_eq_getElem (by have := hm.out; omega)⟩
     obtain ⟨gc, hga, -, hrow⟩ := own_range ChangeV.cells ChangeV.cllen (l := cs) (n := m) hm.out (ownsRow_below hC.out hI.out.bel) (k := k) (x := x) hx
     subst hga;have hgc := hid (hC.out.lt gc rfl).2
     have cd : wr.cell? ⟨gc, k * 10, none⟩ = some (.bool x.drop) := hrow 0 _ rfl
     replace hrow : Hid (wr.rangeAt gc (k * 10 + 1) x.row.cl) := hid (range_tail (x := .bool x.drop) (cs := x.row.cl) hrow)
     have hkx := hid (hkc.out x (List.mem_of_getElem? hx))
     obtain ⟨l2, hl2, hrest⟩ := appliesR_drop hx hI.out.rest
     replace hl2 := hid hl2;replace hrest := hid hrest;have hno : Hid (no <= 110000) := hid (by have := hI.out.le; have := hk0.out; omega)
     have CFi := hid (r20_Find lk x.row w.heap.size ao no co wr hI.out.row hI.out.len (by have := hno.out; omega) hI.out.kind)
     have hix := hid (idxOf_lt (fun y => isR y x.row) lk)
     obtain ⟨ix, hixe⟩ : ∃ ix, idxOf (fun y => isR y x.row) lk = ix := ⟨_, rfl⟩
     replace hixe := hid hixe;rw [hixe.out] at CFi hix
     obtain ⟨xd, xr⟩ := x
     obtain ⟨rk, rc, rs, ri, rt, rb, rq, rr, rg⟩ := xr
     dsimp only at CFi hrow cd
     replace CFi : Hid (Calls Tryz.prog 51 #[.slice ao no co, .agg (RowV.cl ⟨rk, rc, rs, ri, rt, rb, rq, rr, rg⟩).toArray] wr fun e w' => e = .returned (.int .i64 ix) /\ Below wr.heap.size wr w') := hid CFi
     replace hx := hid hx;rcases Int.lt_or_le ix 0 with hneg | hpos
     ·have d0 : decide (ix < 0) = true := decide_eq_true hneg
      have d1 : decide (0 <= ix) = false := decide_eq_false (by omega)
      cases xd with
      | true =>
       exfalso
       have := hl2.out
       unfold applyR at this
       dsimp only at this
       rw [hixe.out, if_pos ⟨rfl, hneg⟩] at this
       cases this
      | false =>
       replace hl2 : Hid (l2 = lk ++ [⟨rk, rc, rs, ri, rt, rb, rq, rr, rg⟩]) := hid (by
        have := hl2.out
        unfold applyR at this
        dsimp only at this
        rw [hixe.out, if_neg (by simp), if_neg (by omega)] at this
        cases this
        rfl)
       go_wp2_with (first
        | (refine wpList_load_mid rfl 33 _ rfl gc (k * 10 + 1) rfl (RowV.cl ⟨rk, rc, rs, ri, rt, rb, rq, rr, rg⟩) _ hrow3.out Tryz.underlying33 rfl (by kernel_rfl) ?_)
        | (refine wpList_plain rfl fun _ hK => wp_slice_one _ rfl eRow (by decide) (by decide) (.agg (RowV.cl ⟨rk, rc, rs, ri, rt, rb, rq, rr, rg⟩).toArray) rfl rfl (hK _ _ ?_))
        | (at_builtin; refine append_grp rfl _ _ rfl eRow (by decide) w.heap.size _ _ _ rfl (hown3.out.alloc _) w3.heap.size (RowV.cl ⟨rk, rc, rs, ri, rt, rb, rq, rr, rg⟩) 33 rfl (Blk.new _ _ _) rfl (RowV.one _) (by have := hno.out; omega) (by have := hno.out; omega) (by have := hbb3.out.size; simp; omega) ?_; intro v6 w6 r6 g6 n6; obtain ⟨a6, c6, hv6⟩ := own_slice r6; subst hv6; replace r6 := hid r6; replace g6 := hid g6)
        | (refine wpList_load_mid rfl 33 _ rfl gc (k * 10 + 1) rfl (RowV.cl ⟨rk, rc, rs, ri, rt, rb, rq, rr, rg⟩) _ hrow.out Tryz.underlying33 rfl (by kernel_rfl) ?_)
        | (go_at_call 51; refine CFi.out.mono ?_; rintro e w3 ⟨rfl, hb3⟩; replace hb3 := hid hb3; have cd3 := (hb3.out.cell (p := ⟨gc, k * 10, none⟩) (Nat.lt_of_lt_of_le hgc.out hI.out.bel.size)).trans cd; have hrow3 := hid (range_below hrow.out (Nat.lt_of_lt_of_le hgc.out hI.out.bel.size) hb3.out); have hown3 := hid (ownsRow_below hI.out.row hb3.out); have hbb3 := hid (hI.out.bel.trans (hb3.out.mono hI.out.bel.size))))
       exact ⟨⟨k + 1, _, a6, _, c6, rfl, by go_num, by omega, hid (ApI.put hI.out.len hI.out.le hI.out.kind hbb3.out hown3.out hrest.out hl2.out hkx.out (by simpa using r6.out) g6.out)⟩, by simp [intOf]; omega⟩
     ·obtain ⟨kx, rfl⟩ : ∃ kx : Nat, ix = (kx : Int) := ⟨ix.toNat, by omega⟩
      have d0 : decide ((kx : Int) < 0) = false := decide_eq_false (by omega)
      have d1 : decide (0 <= (kx : Int)) = true := decide_eq_true (by omega)
      have hkn : Hid (kx < no) := hid (by have := hix.out.1; have := hI.out.len; omega)
      have hkb : kx <= 110000 := by have := hkn.out; have := hno.out; omega
      have hl2 : Hid (l2 = lk.eraseIdx kx ++ if xd = true then [] else [⟨rk, rc, rs, ri, rt, rb, rq, rr, rg⟩]) := hid (by
       have := hl2.out
       unfold applyR at this
       dsimp only at this
       rw [hixe.out, if_neg (by omega), if_pos (by omega)] at this
       cases this
       rfl)
      cases xd with
      | true =>
       go_wp2_with (first
        | (refine wpList_load_mid rfl 33 _ rfl gc (k * 10 + 1) rfl (RowV.cl ⟨rk, rc, rs, ri, rt, rb, rq, rr, rg⟩) _ hrow.out Tryz.underlying33 rfl (by kernel_rfl) ?_)
        | (go_at_call 51; refine CFi.out.mono ?_; rintro e w3 ⟨rfl, hb3⟩; have hb3 := hid hb3; have cd3 := (hb3.out.cell (p := ⟨gc, k * 10, none⟩) (Nat.lt_of_lt_of_le hgc.out hI.out.bel.size)).trans cd; have hrow3 := hid (range_below hrow.out (Nat.lt_of_lt_of_le hgc.out hI.out.bel.size) hb3.out); have hown3 := hid (ownsRow_below hI.out.row hb3.out); have hbb3 := hid (hI.out.bel.trans (hb3.out.mono hI.out.bel.size))))
       obtain ⟨u, hs1, hs2, hsrc1, hsrc2⟩ := rows_cut hown3.out kx hkn.out
       replace hsrc1 := hid hsrc1;replace hsrc2 := hid hsrc2;refine regionQ [] (by kernel_rfl) trivial fun KQ hKQ => ?_
       refine tQ [0, 1, 2, 4, 5, 6, 7] ?_;refine sN 3 fun K hK => ?_;simp only [GO];refine wp_append_part _ _ rfl eRow (by decide) w.heap.size (.slice none 0 0) 0 [] rfl (World.ownsRow_nil _ _ _ _) _ kx co ((lk.take kx).flatMap RowV.cl) rfl (by rw [cl_len, List.length_take]; have := hkn.out; have := hI.out.len; omega) (fun h => by rw [<- cl_take]; exact hsrc1.out h) (cl_one _) (by omega) (by omega) (hbb3.out.size) fun v4 w4 r4 g4 n4 => ?_
       refine hK _ _ ?_;clear hK K;try simp only [PT]
       obtain ⟨a4, c4, hv4⟩ := own_slice r4
       subst hv4;have hb4 := hid (hbb3.out.drew.grown g4 hbb3.out.drew.size (fun j e => by cases e))
       have hsrc4 := hid fun h => (hsrc2.out h).imp fun b hb => (⟨hb.1, fun j y hj => (g4.cell (hb.2 j y hj) (fun e => by cases e))⟩ : _ /\ _)
       refine sN 8 fun K hK => ?_;simp only [GO];refine wp_append_part _ _ rfl eRow (by decide) w.heap.size (.slice a4 (0 + kx) c4) (0 + kx) _ rfl r4 _ (no - (kx + 1)) (co - (kx + 1)) ((lk.drop (kx + 1)).flatMap RowV.cl) rfl (by rw [cl_len, List.length_drop]; have := hI.out.len; omega) (fun h => by rw [<- cl_drop]; exact hsrc4.out h) (cl_one _) (by have := hno.out; omega) (by have := hno.out; omega) (hb4.out.size) fun v5 w5 r5 g5 n5 => ?_
       refine hK _ _ ?_;clear hK K;try simp only [PT]
       obtain ⟨no1, hn1⟩ : ∃ x, 0 + kx + (no - (kx + 1)) = x := ⟨_, rfl⟩
       rw [hn1] at r5
       obtain ⟨a5, c5, hv5⟩ := own_slice r5
       subst hv5;refine tQ [9] ?_;refine dQ (hKQ.out _ _ ?_);clear hKQ KQ;have hbb5 := hid (hb4.out.grown g5 hb4.out.size (fun x hx => (r4.lt x hx).1))
       have hrow5 := hid (range_below (range_back hrow.out hgc.out hI.out.bel) hgc.out hbb5.out)
       have cd5 := (hbb5.out.cell (p := ⟨gc, k * 10, none⟩) hgc.out).trans ((hI.out.bel.cell (p := ⟨gc, k * 10, none⟩) hgc.out).symm.trans cd)
       have hown5 : Hid (w5.ownsRow w.heap.size 33 9 (.slice a5 no1 c5) no1 ((lk.eraseIdx kx).flatMap RowV.cl)) := hid (by rw [cl_erase _ _ (by have := hkn.out; have := hI.out.len; omega)]; simpa using r5)
       have hn1 := hid hn1;clear r5 g5 r4 g4 n4 n5 hs1 hs2 cd3;go_wp2_with fail
       have hl3 : l2 = lk.eraseIdx kx := by simpa using hl2.out
       exact ⟨⟨k + 1, _, a5, _, c5, rfl, by go_num, by omega, hid ⟨hown5.out, erase_len hI.out.len hkn.out hn1.out, by have := hI.out.le; have := hkn.out; have := hn1.out; omega, by rw [<- hl3]; exact hrest.out, erase_kind hI.out.kind kx, hbb5.out⟩⟩, by simp [intOf]; omega⟩
      | false =>
       go_wp2_with (first
        | (refine wpList_load_mid rfl 33 _ rfl gc (k * 10 + 1) rfl (RowV.cl ⟨rk, rc, rs, ri, rt, rb, rq, rr, rg⟩) _ hrow.out Tryz.underlying33 rfl (by kernel_rfl) ?_)
        | (go_at_call 51; refine CFi.out.mono ?_; rintro e w3 ⟨rfl, hb3⟩; have hb3 := hid hb3; have cd3 := (hb3.out.cell (p := ⟨gc, k * 10, none⟩) (Nat.lt_of_lt_of_le hgc.out hI.out.bel.size)).trans cd; have hrow3 := hid (range_below hrow.out (Nat.lt_of_lt_of_le hgc.out hI.out.bel.size) hb3.out); have hown3 := hid (ownsRow_below hI.out.row hb3.out); have hbb3 := hid (hI.out.bel.trans (hb3.out.mono hI.out.bel.size))))
       obtain ⟨u, hs1, hs2, hsrc1, hsrc2⟩ := rows_cut hown3.out kx hkn.out
       replace hsrc1 := hid hsrc1;replace hsrc2 := hid hsrc2;refine regionQ [] (by kernel_rfl) trivial fun KQ hKQ => ?_
       refine tQ [0, 1, 2, 4, 5, 6, 7] ?_;refine sN 3 fun K hK => ?_;simp only [GO];refine wp_append_part _ _ rfl eRow (by decide) w.heap.size (.slice none 0 0) 0 [] rfl (World.ownsRow_nil _ _ _ _) _ kx co ((lk.take kx).flatMap RowV.cl) rfl (by rw [cl_len, List.length_take]; have := hkn.out; have := hI.out.len; omega) (fun h => by rw [<- cl_take]; exact hsrc1.out h) (cl_one _) (by omega) (by omega) (hbb3.out.size) fun v4 w4 r4 g4 n4 => ?_
       refine hK _ _ ?_;clear hK K;try simp only [PT]
       obtain ⟨a4, c4, hv4⟩ := own_slice r4
       subst hv4;have hb4 := hid (hbb3.out.drew.grown g4 hbb3.out.drew.size (fun j e => by cases e))
       have hsrc4 := hid fun h => (hsrc2.out h).imp fun b hb => (⟨hb.1, fun j y hj => (g4.cell (hb.2 j y hj) (fun e => by cases e))⟩ : _ /\ _)
       refine sN 8 fun K hK => ?_;simp only [GO];refine wp_append_part _ _ rfl eRow (by decide) w.heap.size (.slice a4 (0 + kx) c4) (0 + kx) _ rfl r4 _ (no - (kx + 1)) (co - (kx + 1)) ((lk.drop (kx + 1)).flatMap RowV.cl) rfl (by rw [cl_len, List.length_drop]; have := hI.out.len; omega) (fun h => by rw [<- cl_drop]; exact hsrc4.out h) (cl_one _) (by have := hno.out; omega) (by have := hno.out; omega) (hb4.out.size) fun v5 w5 r5 g5 n5 => ?_
       refine hK _ _ ?_;clear hK K;try simp only [PT]
       obtain ⟨no1, hn1⟩ : ∃ x, 0 + kx + (no - (kx + 1)) = x := ⟨_, rfl⟩
       rw [hn1] at r5
       obtain ⟨a5, c5, hv5⟩ := own_slice r5
       subst hv5;refine tQ [9] ?_;refine dQ (hKQ.out _ _ ?_);clear hKQ KQ;have hbb5 := hid (hb4.out.grown g5 hb4.out.size (fun x hx => (r4.lt x hx).1))
       have hrow5 := hid (range_below (range_back hrow.out hgc.out hI.out.bel) hgc.out hbb5.out)
       have cd5 := (hbb5.out.cell (p := ⟨gc, k * 10, none⟩) hgc.out).trans ((hI.out.bel.cell (p := ⟨gc, k * 10, none⟩) hgc.out).symm.trans cd)
       have hown5 : Hid (w5.ownsRow w.heap.size 33 9 (.slice a5 no1 c5) no1 ((lk.eraseIdx kx).flatMap RowV.cl)) := hid (by rw [cl_erase _ _ (by have := hkn.out; have := hI.out.len; omega)]; simpa using r5)
       have hn1 := hid hn1;clear r5 g5 r4 g4 n4 n5 hs1 hs2 cd3;have hno5 : Hid (no1 <= 110000) := hid (by have := hn1.out; have := hkn.out; have := hno.out; omega)
       go_wp2_with (first
        | (refine wpList_load_mid rfl 33 _ rfl gc (k * 10 + 1) rfl (RowV.cl ⟨rk, rc, rs, ri, rt, rb, rq, rr, rg⟩) _ hrow5.out Tryz.underlying33 rfl (by kernel_rfl) ?_)
        | (refine wpList_plain rfl fun _ hK => wp_slice_one _ rfl eRow (by decide) (by decide) (.agg (RowV.cl ⟨rk, rc, rs, ri, rt, rb, rq, rr, rg⟩).toArray) rfl rfl (hK _ _ ?_))
        | (at_builtin; refine append_grp rfl _ _ rfl eRow (by decide) w.heap.size _ _ _ rfl (hown5.out.alloc _) w5.heap.size (RowV.cl ⟨rk, rc, rs, ri, rt, rb, rq, rr, rg⟩) 33 rfl (Blk.new _ _ _) rfl (RowV.one _) (by have := hno5.out; omega) (by have := hno5.out; omega) (by have := hbb5.out.size; simp; omega) ?_; intro v6 w6 r6 g6 n6; obtain ⟨a6, c6, hv6⟩ := own_slice r6; subst hv6; replace r6 := hid r6; replace g6 := hid g6)
        | (refine wpList_load_mid rfl 33 _ rfl gc (k * 10 + 1) rfl (RowV.cl ⟨rk, rc, rs, ri, rt, rb, rq, rr, rg⟩) _ hrow.out Tryz.underlying33 rfl (by kernel_rfl) ?_)
        | (go_at_call 51; refine CFi.out.mono ?_; rintro e w3 ⟨rfl, hb3⟩; replace hb3 := hid hb3; have cd3 := (hb3.out.cell (p := ⟨gc, k * 10, none⟩) (Nat.lt_of_lt_of_le hgc.out hI.out.bel.size)).trans cd; have hrow3 := hid (range_below hrow.out (Nat.lt_of_lt_of_le hgc.out hI.out.bel.size) hb3.out); have hown3 := hid (ownsRow_below hI.out.row hb3.out); have hbb3 := hid (hI.out.bel.trans (hb3.out.mono hI.out.bel.size))))
       exact ⟨⟨k + 1, _, a6, _, c6, rfl, by go_num, by omega, hid (ApI.put (erase_len hI.out.len hkn.out hn1.out) (by have := hI.out.le; have := hkn.out; have := hn1.out; omega) (erase_kind hI.out.kind kx) hbb5.out hown5.out hrest.out (by simpa using hl2.out) hkx.out (by simpa using r6.out) g6.out)⟩, by simp [intOf]; omega⟩
    ·obtain rfl : k = m := by omega
     have dk : decide ((k : Int) < (k : Int)) = false := by simp
     have hfin := hI.out.rest
     rw [List.drop_eq_nil_of_le (by have := hm.out; omega)] at hfin
     have hfin := hid hfin;go_wp2_with fail
     go_returns
     obtain h := hfin.out
     cases h
     exact ⟨_, rfl, by have := hI.out.row; rw [<- hI.out.len] at this ⊢; exact this, hI.out.bel⟩
end
section
theorem idxOf_key {l : List RowV} (hn : (keys l).Nodup) {r : RowV} (hr : r ∈ l) : ∃ k : Nat, idxOf (fun x => isR x r) l = (k : Int) /\ l[k]? = some r := by
 induction l with
 | nil => cases hr
 | cons x l ih =>
  have hn' := List.nodup_cons.1 (show (x.key :: keys l).Nodup from hn)
  unfold idxOf
  by_cases hx : isR x r = true
  ·rw [if_pos hx]
   refine ⟨0, rfl, ?_⟩
   rcases List.mem_cons.1 hr with rfl | hm
   ·rfl
   ·rw [isR_key, decide_eq_true_eq] at hx
    exact absurd (List.mem_map.2 ⟨r, hm, hx.symm⟩) hn'.1
  ·rw [if_neg hx]
   dsimp only
   rcases List.mem_cons.1 hr with rfl | hm
   ·rw [isR_key] at hx; simp at hx
   ·obtain ⟨k, h1, h2⟩ := ih hn'.2 hm
    rw [h1, if_neg (by omega)]
    exact ⟨k + 1, by simp, h2⟩
theorem r20_Same (l1 l2 : List RowV) (b1 b2 : Nat) (a1 a2 : Option Addr) (n c1 c2 : Nat) (w : World) (h1 : w.ownsRow b1 33 9 (.slice a1 n c1) n (l1.flatMap RowV.cl)) (h2 : w.ownsRow b2 33 9 (.slice a2 n c2) n (l2.flatMap RowV.cl))
  (hn1 : l1.length = n) (hl : n <= 1000000) (hp : l1.Perm l2) (hk : (keys l2).Nodup) (hkd : ∀ x ∈ l2, kindOK x) :
  Calls Tryz.prog 36 #[.slice a1 n c1, .slice a2 n c2] w fun e w' => e = .returned (.bool true) /\ Below w.heap.size w w' := by
 have hV1 := hid h1;have hV2 := hid h2;have hn2 : Hid (l2.length = n) := hid (hp.length_eq ▸ hn1)
 have hn1 := hid hn1;have dn : ((n : Int) == (n : Int)) = true := by simp
 have hp := hid hp;have hk := hid hk;have hkd := hid hkd;clear h1 h2;go_enter Tryz.func36, Tryz.ntmps36
 go_wp2_with fail
 go_loopw [5] (fun i wr => ∃ k : Nat, i = .int .i64 k /\ k <= n /\ Hid (Below w.heap.size w wr)) (fun i _ => n - (intOf i).toNat)
 case atStart => exact ⟨0, rfl, Nat.zero_le _, hid (Below.refl _ _)⟩
 case round =>
  obtain ⟨k, rfl, hk1, hbr⟩ := hrel
  rcases Nat.lt_or_ge k n with hlt | hge
  ·have dk : decide ((k : Int) < (n : Int)) = true := decide_eq_true (by omega)
   obtain ⟨x, hx⟩ : ∃ x, l1[k]? = some x := ⟨_, List.getElem?_eq_getElem (by have := hn1.out; omega)⟩
   obtain ⟨j, hj1, hj2⟩ := idxOf_key hk.out (hp.out.mem_iff.1 (List.mem_of_getElem? hx))
   have hjn : j < n := by have := (List.getElem?_eq_some_iff.1 hj2).1; have := hn2.out; omega
   obtain ⟨g1, hag1, -, hrow1⟩ := own_range RowV.cl RowV.cllen (l := l1) (n := n) hn1.out hV1.out (k := k) (x := x) hx
   obtain ⟨g2, hag2, -, hrow2⟩ := own_range RowV.cl RowV.cllen (l := l2) (n := n) hn2.out hV2.out (k := j) (x := x) hj2
   subst hag1;subst hag2;have hg1l := (hV1.out.lt g1 rfl).2
   have hg2l := (hV2.out.lt g2 rfl).2
   have hrow1 := hid fun (W : World) (hb : Below w.heap.size w W) => range_below hrow1 hg1l hb
   have hrow2 := hid fun (W : World) (hb : Below w.heap.size w W) => range_below hrow2 hg2l hb
   have CF := hid fun (W : World) (hb : Below w.heap.size w W) => r20_Find l2 x _ _ _ _ W (ownsRow_below hV2.out hb) hn2.out hl hkd.out
   rw [hj1] at CF
   have CF := hid CF;have dj : decide ((j : Int) < 0) = false := decide_eq_false (by omega)
   have hq := run_rows_neq x x
   rw [(eqRow_iff x x).2 rfl] at hq
   have r1 := hid (hrow1.out wr hbr.out)
   go_wp2_with (first
    | (refine wpList_load_mid rfl 33 _ rfl g1 (k * 9) rfl x.cl _ r1.out Tryz.underlying33 rfl (by kernel_rfl) ?_)
    | (go_at_call 51; refine (CF.out _ hbr.out).mono ?_; rintro e w2 ⟨rfl, hb2⟩; have hb2 := hid (hbr.out.trans (hb2.mono hbr.out.size))))
   trace_state
   have q1 := hid (hrow1.out w2.drew hb2.out.drew)
   have q2 := hid (hrow2.out w2.drew hb2.out.drew)
   obtain ⟨xv, hxv⟩ : ∃ v, (Value.agg x.cl.toArray) = v := ⟨_, rfl⟩
   have hq' : ∀ w, (binOp .neq 33 xv xv).run Tryz.prog w = .ok (.bool false) w := by rw [<- hxv]; exact hq
   have hgu : ∀ s1 s2 w, (eqGuard .neq 33 s1 s2 xv xv).run Tryz.prog w = .ok () w := by rw [<- hxv]; exact run_rows_guard x x
   clear hq;refine regionQ [(1000, fun w' => w'.rangeAt g2 (j * 9) x.cl), (1000, fun w' => w'.rangeAt g1 (k * 9) x.cl)] (by kernel_rfl) ⟨q2.out, q1.out, trivial⟩ fun KQ hKQ => ?_
   refine tQ [0, 1, 2, 3, 4, 5] ?_;refine lR 6 0 rfl rfl rfl rfl (v := .agg (x.cl : List Value).toArray) (fun w' hf => run_loadAt_mid w' _ _ 33 (x.cl : List Value) _ hf Tryz.underlying33 rfl (by kernel_rfl)) ?_
   simp only [PT];refine tQ [7, 8, 9] ?_;refine lR 10 1 rfl rfl rfl rfl (v := .agg (x.cl : List Value).toArray) (fun w' hf => run_loadAt_mid w' _ _ 33 (x.cl : List Value) _ hf Tryz.underlying33 rfl (by kernel_rfl)) ?_
   simp only [PT];rw [hxv]
   refine tQ [11, 12] ?_;refine dQ (hKQ.out _ _ ?_);clear hKQ KQ;go_wp2_with fail
   go_roundw
   case rel => exact ⟨k + 1, by go_num, by omega, hid hb2.out.drew⟩
   case measure => simp [intOf]; omega
  ·obtain rfl : k = n := by omega
   have dk : decide ((k : Int) < (k : Int)) = false := by simp
   go_wp2_with fail
   go_ret
   exact ⟨rfl, hbr.out⟩
end
section
open Go.Shelf
def Tryz.keys123_ren : Go.Shelf.Ren := ⟨fun | 7 => 123 | 10 => 186 | n => n, fun | 23 => 83 | 26 => 9 | 3 => 3 | 28 => 206 | 0 => 0 | 27 => 205 | 33 => 86 | 4 => 4 | n => n, fun | n => n⟩
theorem Tryz.keys123 : Go.Proofs.SlLaysZ.n7 Tryz.prog Tryz.keys123_ren := {
 mixed := by kernel_rfl
 f7 := ⟨Tryz.f123.name, by decide, Tryz.func123.trans (congrArg some (by kernel_rfl))⟩
 f10 := ⟨Tryz.f186.name, by decide, Tryz.func186.trans (congrArg some (by kernel_rfl))⟩
 t0 := Tryz.underlying0
 a0 := Tryz.isAgg0
 z0 := Tryz.sizeOf0
 v0 := Tryz.zeroValue0
 t4 := Tryz.underlying4
 a4 := Tryz.isAgg4
 z4 := Tryz.sizeOf4
 v4 := Tryz.zeroValue4
 t23 := Tryz.underlying83
 a23 := Tryz.isAgg83
 z23 := Tryz.sizeOf83
 v23 := Tryz.zeroValue83
 t26 := Tryz.underlying9
 a26 := Tryz.isAgg9
 z26 := Tryz.sizeOf9
 v26 := Tryz.zeroValue9
 t27 := Tryz.underlying205
 a27 := Tryz.isAgg205
 z27 := Tryz.sizeOf205
 v27 := Tryz.zeroValue205
 t28 := Tryz.underlying206
 a28 := Tryz.isAgg206
 z28 := Tryz.sizeOf206
 v28 := Tryz.zeroValue206
 t33 := Tryz.underlying86
 a33 := Tryz.isAgg86
 z33 := Tryz.sizeOf86
 v33 := Tryz.zeroValue86 }
def Tryz.sorted122_ren : Go.Shelf.Ren := ⟨fun | 6 => 122 | 8 => 184 | 9 => 185 | 11 => 210 | 13 => 115 | 12 => 211 | 23 => 179 | 24 => 180 | 14 => 223 | 15 => 224 | 16 => 225 | 17 => 226 | 18 => 227 | 19 => 228 | 20 => 229 | 21 => 230 | 22 => 231 | 25 => 241 | 26 => 199 | 27 => 200 | 28 => 242 | 29 => 243 | 30 => 244 | 31 => 255 | n => n, fun | 26 => 9 | 28 => 206 | 24 => 73 | 0 => 0 | 3 => 3 | 37 => 194 | 48 => 255 | 50 => 179 | 4 => 4 | 40 => 249 | 39 => 248 | 45 => 84 | 5 => 5 | 9 => 9 | 51 => 269 | 55 => 273 | 57 => 293 | 58 => 294 | 33 => 86 | n => n, fun | n => n⟩
theorem Tryz.sorted122 : Go.Proofs.SlLaysZ.n6 Tryz.prog Tryz.sorted122_ren := {
 mixed := by kernel_rfl
 f6 := ⟨Tryz.f122.name, by decide, Tryz.func122.trans (congrArg some (by kernel_rfl))⟩
 f8 := ⟨Tryz.f184.name, by decide, Tryz.func184.trans (congrArg some (by kernel_rfl))⟩
 f11 := ⟨Tryz.f210.name, by decide, Tryz.func210.trans (congrArg some (by kernel_rfl))⟩
 t0 := Tryz.underlying0
 a0 := Tryz.isAgg0
 z0 := Tryz.sizeOf0
 v0 := Tryz.zeroValue0
 t24 := Tryz.underlying73
 a24 := Tryz.isAgg73
 z24 := Tryz.sizeOf73
 v24 := Tryz.zeroValue73
 t26 := Tryz.underlying9
 a26 := Tryz.isAgg9
 z26 := Tryz.sizeOf9
 v26 := Tryz.zeroValue9
 t28 := Tryz.underlying206
 a28 := Tryz.isAgg206
 z28 := Tryz.sizeOf206
 v28 := Tryz.zeroValue206
 i26 := by kernel_rfl }
def Tryz.sort185_ren : Go.Shelf.Ren := ⟨fun | 6 => 185 | 8 => 115 | 9 => 211 | 19 => 179 | 20 => 180 | 21 => 223 | 22 => 224 | 23 => 225 | 24 => 226 | 25 => 227 | 26 => 228 | 27 => 229 | 28 => 230 | 29 => 231 | 36 => 241 | 31 => 199 | 32 => 200 | 37 => 242 | 38 => 243 | 39 => 244 | 41 => 255 | n => n, fun | 27 => 73 | 29 => 9 | 3 => 3 | 32 => 194 | 26 => 73 | 0 => 0 | 44 => 255 | 46 => 179 | 4 => 4 | 36 => 249 | 35 => 248 | 41 => 84 | 5 => 5 | 9 => 9 | 53 => 269 | 57 => 273 | 63 => 293 | 64 => 294 | n => n, fun | n => n⟩
theorem Tryz.sort185 : Go.Proofs.SlLaysM.n6 Tryz.prog Tryz.sort185_ren := {
 mixed := by kernel_rfl
 f6 := ⟨Tryz.f185.name, by decide, Tryz.func185.trans (congrArg some (by kernel_rfl))⟩
 f8 := Tryz.func115.trans (congrArg some (by kernel_rfl))
 f9 := ⟨Tryz.f211.name, by decide, Tryz.func211.trans (congrArg some (by kernel_rfl))⟩
 f19 := Tryz.func179.trans (congrArg some (by kernel_rfl))
 f20 := Tryz.func180.trans (congrArg some (by kernel_rfl))
 f21 := ⟨Tryz.f223.name, by decide, Tryz.func223.trans (congrArg some (by kernel_rfl))⟩
 f22 := ⟨Tryz.f224.name, by decide, Tryz.func224.trans (congrArg some (by kernel_rfl))⟩
 f23 := ⟨Tryz.f225.name, by decide, Tryz.func225.trans (congrArg some (by kernel_rfl))⟩
 f24 := ⟨Tryz.f226.name, by decide, Tryz.func226.trans (congrArg some (by kernel_rfl))⟩
 f25 := ⟨Tryz.f227.name, by decide, Tryz.func227.trans (congrArg some (by kernel_rfl))⟩
 f26 := ⟨Tryz.f228.name, by decide, Tryz.func228.trans (congrArg some (by kernel_rfl))⟩
 f27 := ⟨Tryz.f229.name, by decide, Tryz.func229.trans (congrArg some (by kernel_rfl))⟩
 f28 := ⟨Tryz.f230.name, by decide, Tryz.func230.trans (congrArg some (by kernel_rfl))⟩
 f29 := ⟨Tryz.f231.name, by decide, Tryz.func231.trans (congrArg some (by kernel_rfl))⟩
 f31 := Tryz.func199.trans (congrArg some (by kernel_rfl))
 f32 := Tryz.func200.trans (congrArg some (by kernel_rfl))
 f36 := ⟨Tryz.f241.name, by decide, Tryz.func241.trans (congrArg some (by kernel_rfl))⟩
 f37 := ⟨Tryz.f242.name, by decide, Tryz.func242.trans (congrArg some (by kernel_rfl))⟩
 f38 := ⟨Tryz.f243.name, by decide, Tryz.func243.trans (congrArg some (by kernel_rfl))⟩
 f39 := ⟨Tryz.f244.name, by decide, Tryz.func244.trans (congrArg some (by kernel_rfl))⟩
 f41 := ⟨Tryz.f255.name, by decide, Tryz.func255.trans (congrArg some (by kernel_rfl))⟩
 t0 := Tryz.underlying0
 a0 := Tryz.isAgg0
 z0 := Tryz.sizeOf0
 v0 := Tryz.zeroValue0
 t3 := Tryz.underlying3
 a3 := Tryz.isAgg3
 z3 := Tryz.sizeOf3
 v3 := Tryz.zeroValue3
 t4 := Tryz.underlying4
 a4 := Tryz.isAgg4
 z4 := Tryz.sizeOf4
 v4 := Tryz.zeroValue4
 t5 := Tryz.underlying5
 a5 := Tryz.isAgg5
 z5 := Tryz.sizeOf5
 v5 := Tryz.zeroValue5
 t9 := Tryz.underlying9
 a9 := Tryz.isAgg9
 z9 := Tryz.sizeOf9
 v9 := Tryz.zeroValue9
 t26 := Tryz.underlying73
 a26 := Tryz.isAgg73
 z26 := Tryz.sizeOf73
 v26 := Tryz.zeroValue73
 t27 := Tryz.underlying73
 a27 := Tryz.isAgg73
 z27 := Tryz.sizeOf73
 v27 := Tryz.zeroValue73
 t29 := Tryz.underlying9
 a29 := Tryz.isAgg9
 z29 := Tryz.sizeOf9
 v29 := Tryz.zeroValue9
 t32 := Tryz.underlying194
 a32 := Tryz.isAgg194
 z32 := Tryz.sizeOf194
 v32 := Tryz.zeroValue194
 t35 := Tryz.underlying248
 a35 := Tryz.isAgg248
 z35 := Tryz.sizeOf248
 v35 := Tryz.zeroValue248
 t36 := Tryz.underlying249
 a36 := Tryz.isAgg249
 z36 := Tryz.sizeOf249
 v36 := Tryz.zeroValue249
 t41 := Tryz.underlying84
 a41 := Tryz.isAgg84
 z41 := Tryz.sizeOf84
 v41 := Tryz.zeroValue84
 t44 := Tryz.underlying255
 a44 := Tryz.isAgg255
 z44 := Tryz.sizeOf255
 v44 := Tryz.zeroValue255
 t46 := Tryz.underlying179
 a46 := Tryz.isAgg179
 z46 := Tryz.sizeOf179
 v46 := Tryz.zeroValue179
 t53 := Tryz.underlying269
 a53 := Tryz.isAgg269
 z53 := Tryz.sizeOf269
 v53 := Tryz.zeroValue269
 t57 := Tryz.underlying273
 a57 := Tryz.isAgg273
 z57 := Tryz.sizeOf273
 v57 := Tryz.zeroValue273
 t63 := Tryz.underlying293
 a63 := Tryz.isAgg293
 z63 := Tryz.sizeOf293
 v63 := Tryz.zeroValue293
 t64 := Tryz.underlying294
 a64 := Tryz.isAgg294
 z64 := Tryz.sizeOf294
 v64 := Tryz.zeroValue294 }
open Go.RowKit Go.Maps Go.Sort in
theorem Tryz.sorts122 (m : Nat) : AnyZ.SortsIn Tryz.prog Tryz.sorted122_ren Fence.wide m :=
 ⟨fun blk off cap ss W hH hblk hsz => callsIn_wide.2 (AnyM.slices_Sort_string Tryz.sort185 blk off cap ss W hH hblk hsz),
  fun p cap W => callsIn_wide.2 (AnyM.slices_Sort_string_none Tryz.sort185 p cap W)⟩
open Go.RowKit Go.Maps Go.Sort in
theorem Tryz.maps_KeysS (mb : Option Nat) (W : World) : CallsIn Fence.wide 5 Tryz.prog 123 #[.map mb] W fun e w' => e = .returned (.func (.func 186) #[] #[.pointer (some ⟨W.heap.size, 0, none⟩)]) /\ w' = W.alloc (.cells #[.map mb] 83) :=
 AnyZ.keys_in Tryz.keys123 Fence.wide 5 trivial rfl mb W
open Go.RowKit Go.Maps Go.Sort in
theorem Tryz.slices_Sorted_keysS {H : Type} (b nn : Nat) (D0 : DataW H) (R : Value -> Option (DataW H × List MemPlace)) (w : World) (hown : w.ownsMap Tryz.prog 9 R b nn D0) (hmax : Maps.size D0 <= maxLen) (hbytes : Maps.size D0 * 16 <= 140737488355328) :
  CallsIn Fence.wide 5 Tryz.prog 122 #[.func (.func 186) #[] #[.pointer (some ⟨w.heap.size, 0, none⟩)]] (w.alloc (.cells #[.map (some b)] 83)) fun e w' => ∃ (v : Value) (ss : List (List UInt8)), e = .returned v /\ ss.Perm (strKeys D0) /\
   w'.ownsRow (w.alloc (.cells #[.map (some b)] 83)).heap.size 9 1 v ss.length ((ss.mergeSort (fun x y => decide (x <= y))).map encStr) /\ (v = .slice none 0 0 ↔ ss = []) /\ Below (w.alloc (.cells #[.map (some b)] 83)).heap.size (w.alloc (.cells #[.map (some b)] 83)) w' := by
 have hbl := hown.lt
 have hseq : SeqGives Fence.wide 2 Tryz.prog 186 #[.pointer (some ⟨w.heap.size, 0, none⟩)] encStr (fun ss => ss.Perm (strKeys D0)) (Maps.size D0) (w.alloc (.cells #[.map (some b)] 83)) :=
  AnyZ.keys_gives (ρ := Tryz.keys123_ren) { Tryz.keys123 with } Fence.wide _ trivial rfl (by omega) w.heap.size b nn D0 _ (by simp) (by simp) (by
   obtain ⟨es, clock, hb, Ft, hs, hD⟩ := hown
   exact ⟨es, clock, (Below.heap_alloc _ _ b hbl).trans hb, Ft, hs, hD⟩)
 exact AnyZ.sorted_in Tryz.sorted122 Fence.wide 5 trivial trivial trivial trivial rfl (by omega) (Tryz.sorts122 _) (enters_of Tryz.func185 (by kernel_rfl) rfl) 186 #[.pointer (some ⟨w.heap.size, 0, none⟩)] trivial (enters_of Tryz.func186 (by kernel_rfl) rfl) _ _ hmax hbytes _ hseq
end
end Go.Proofs.YtoinabapaeebfaaGreatDoor
