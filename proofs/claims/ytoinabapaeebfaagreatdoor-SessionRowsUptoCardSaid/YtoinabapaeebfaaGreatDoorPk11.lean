/- Parts of the proof of SessionRows: contracts of functions that it reaches, and plain lemmas. No condition of their own. -/
import Derived.Test.YtoinabapaeebfaaGreatDoorPk10
import Derived.Lib.SliceRun
set_option linter.unusedSimpArgs false
set_option linter.unusedVariables false
set_option maxRecDepth 100000
set_option maxHeartbeats 8000000
namespace Go.Proofs.YtoinabapaeebfaaGreatDoor
open Go.RowKit Go.Shelf
section
def RowV.has (z : Int) (r : RowV) : Bool := decide (r.stage ≠ 1) && decide (r.id = z)
theorem out_find1 (b : Nat) (r : RowV) (z : Int) (c : Nat) (w : World) (h : Blk w b r.vals 33) (hc : Boxed w c 2 (.int .i64 z)) :
  Calls Tryz.prog 145 #[.pointer (some ⟨b, 0, none⟩), .pointer (some ⟨c, 0, none⟩)] w fun e w' => e = .returned (.bool (r.has z)) /\ Below w.heap.size w w' := by
 have hh : r.has z = (decide (r.stage ≠ 1) && decide (r.id = z)) := rfl
 obtain ⟨st, hst⟩ : ∃ st, r.stage = st := ⟨_, rfl⟩
 obtain ⟨id, hid'⟩ : ∃ st, r.id = st := ⟨_, rfl⟩
 have c8 : w.cell? ⟨b, 8, none⟩ = some (.int .i64 st) := (h.cell 8).trans (by rw [<- hst]; rfl)
 have c3 : w.cell? ⟨b, 3, none⟩ = some (.int .i64 id) := (h.cell 3).trans (by rw [<- hid']; rfl)
 have k := hc.cell
 rw [hst, hid'] at hh
 by_cases h1 : st = 1
 ·subst h1
  rw [hh]
  clear hh hst hid' h hc;go_enter Tryz.func145, Tryz.ntmps145
  go_wp2
  refine regionQ [(1000, fun w' => w'.cell? ⟨b, 8, none⟩ = some (.int .i64 1))] (by kernel_rfl) ⟨c8, trivial⟩ fun KQ hKQ => ?_
  refine tQ [0] ?_;refine nQ 1 ?_;refine tQ [2] ?_;refine lQ 3 0 ?_;refine tQ [4, 5] ?_;refine uQ 6 ?_;refine uQ 7 ?_;refine uQ 8 ?_;refine uQ 9 ?_;refine uQ 10 ?_;refine uQ 11 ?_;refine tQ [12, 13] ?_;refine dQ (hKQ.out _ _ ?_);clear hKQ KQ;go_wp2
  go_ret
  exact ⟨by simp, (Below.refl _ w).drew⟩
 ·have e1 : (st != 1) = true := by simpa using h1
  have hh2 : r.has z = (id == z) := by
   rw [hh]
   by_cases e : id = z <;> simp [h1, e]
  rw [hh2]
  clear hh hh2 hst hid' h hc;go_enter Tryz.func145, Tryz.ntmps145
  go_wp2
  refine regionQ [(1000, fun w' => w'.cell? ⟨b, 8, none⟩ = some (.int .i64 st)), (1000, fun w' => w'.cell? ⟨b, 3, none⟩ = some (.int .i64 id)), (1000, fun w' => w'.cell? ⟨c, 0, none⟩ = some (.int .i64 z))] (by kernel_rfl) ⟨c8, c3, k, trivial⟩ fun KQ hKQ => ?_
  refine tQ [0] ?_;refine nQ 1 ?_;refine tQ [2] ?_;refine lQ 3 0 ?_;refine tQ [4, 5] ?_;refine tQ [6] ?_;refine nQ 7 ?_;refine tQ [8] ?_;refine lQ 9 1 ?_;refine lQ 10 2 ?_;refine tQ [11, 12, 13] ?_;refine dQ (hKQ.out _ _ ?_);clear hKQ KQ;go_wp2
  go_ret
  exact ⟨by simp, (Below.refl _ w).drew⟩
theorem idx_step {α : Type} (p : α -> Bool) (l : List α) (k : Nat) (hk : k <= l.length) (h : ∀ j (hj : j < k), p (l[j]'(by omega)) = false) : (k = l.length -> idxOf p l = -1) /\ (∀ hlt : k < l.length, p l[k] = true -> idxOf p l = k) :=
 ⟨fun e => idxOf_none p l (fun x hx => by
  obtain ⟨i, hi, rfl⟩ := List.getElem_of_mem hx
  exact h i (by omega)), fun hlt hp => idxOf_at p l k hlt h hp⟩
theorem out_IndexFunc {w : World} {B : Nat} {L : Lay} {s : OS} {ps : List PackV} {cs : List ChangeV} (h : OB w B L s ps cs) (c : Nat) (z : Int) (hc : Boxed w c 2 (.int .i64 z)) :
  Calls Tryz.prog 144 #[L.vl, .func (.func 145) #[] #[.pointer (some ⟨c, 0, none⟩)]] w fun e w' => e = .returned (.int .i64 (idxOf (RowV.has z) s.l)) /\ Below w.heap.size w w' := by
 obtain ⟨al, cl, hvl, -⟩ := own_cell h.rows
 rw [hvl]
 obtain ⟨n, hn⟩ : ∃ n : Int, (s.l.length : Int) = n := ⟨_, rfl⟩
 have hlen := h.len
 have hroom : s.l.length <= 1000 := by have := h.ok.room; omega
 obtain ⟨Y, hY⟩ : ∃ Y, idxOf (RowV.has z) s.l = Y := ⟨_, rfl⟩
 rw [hY]
 go_enter Tryz.func144, Tryz.ntmps144
 go_wp2
 go_loopw [5, 8] (fun _ i wr => ∃ (k : Nat), i = .int .i64 k /\ k <= s.l.length /\ Hid (∀ (j : Nat) (r : RowV), j < k -> s.l[j]? = some r -> r.has z = false) /\ Below w.heap.size w wr)
  (fun _ i _ => s.l.length - (intOf i).toNat)
 case atStart => exact ⟨0, rfl, Nat.zero_le _, hid (fun j r hj => absurd hj (Nat.not_lt_zero _)), Below.refl _ _⟩
 case round =>
  obtain ⟨k, rfl, hk, hf, hb⟩ := hrel
  have hx := idx_step (RowV.has z) s.l k hk (fun j hj => hf.out j _ hj (List.getElem?_eq_getElem _))
  rcases Nat.lt_or_ge k s.l.length with hlt | hge
  ·have dk : decide ((k : Int) < (s.l.length : Int)) = true := decide_eq_true (by omega)
   have hO := h.below hb
   obtain ⟨a', c', he, hal'⟩ := own_cell hO.rows
   rw [hvl] at he
   cases he
   obtain ⟨b, hbk⟩ : ∃ b, L.rb[k]? = some b := ⟨_, List.getElem?_eq_getElem (by omega)⟩
   obtain ⟨g, rfl, hg⟩ := hal' k (.pointer (some ⟨b, 0, none⟩)) (by simp [ptrs, hbk])
   have hrk : s.l[k]? = some s.l[k] := List.getElem?_eq_getElem hlt
   have CF := hid (out_find1 b s.l[k] z c _ (hO.cells k b _ hbk hrk) (boxed_below hc hb))
   obtain ⟨r, hr⟩ : ∃ r, s.l[k] = r := ⟨_, rfl⟩
   rw [hr] at CF hrk
   have hx2 := hid (hx.2 hlt)
   rw [hr] at hx2
   clear hr hx;cases hrh : r.has z
   ·rw [hrh] at CF
    go_wp2_with (go_at_call 145; refine CF.out.mono ?_; rintro e w1 ⟨rfl, hb1⟩)
    go_roundw
    case rel => exact ⟨k + 1, by go_num, by omega, hid (fun j r' hj hr' => by
     rcases Nat.lt_or_ge j k with h1 | h1
     ·exact hf.out j r' h1 hr'
     ·obtain rfl : j = k := by omega
      rw [hrk] at hr'; cases hr'; exact hrh), hb.trans (hb1.mono hb.size)⟩
    case measure => simp [intOf]; omega
   ·rw [hrh] at CF
    have hYk := hx2.out hrh
    go_wp2_with (go_at_call 145; refine CF.out.mono ?_; rintro e w1 ⟨rfl, hb1⟩)
    go_ret
    exact ⟨by rw [<- hY, hYk]; rfl, hb.trans (hb1.mono hb.size)⟩
  ·have hk2 : k = s.l.length := by omega
   have hYk := hx.1 hk2
   have dk : decide ((k : Int) < (s.l.length : Int)) = false := decide_eq_false (by omega)
   go_wp2
   go_ret
   exact ⟨by rw [<- hY, hYk]; rfl, hb⟩
theorem out_find {w : World} {B : Nat} {L : Lay} {s : OS} {ps : List PackV} {cs : List ChangeV} (h : OB w B L s ps cs) (z : Int) :
  Calls Tryz.prog 92 #[.pointer (some ⟨L.p, 0, none⟩), .int .i64 z] w fun e w' => e = .returned (.int .i64 (idxOf (RowV.has z) s.l)) /\ Below w.heap.size w w' := by
 obtain ⟨al, cl, hvl, -⟩ := own_cell h.rows
 have CI := hid (out_IndexFunc (h.alloc (.cells #[.int .i64 z] 2)) w.heap.size z (Boxed.new w 2 (.int .i64 z)))
 have k6 : ∀ o, (w.alloc o).cell? ⟨L.p, 6, none⟩ = some L.vl := fun o => (h.alloc o).box.cell 6
 rw [hvl] at k6 CI
 go_enter Tryz.func92, Tryz.ntmps92
 go_wp2_with (go_at_call 144; refine CI.out.mono ?_; rintro e w1 ⟨rfl, hb1⟩)
 go_ret
 exact ⟨rfl, ((Below.refl _ w).alloc (Nat.le_refl _) _).trans (hb1.mono (by simp))⟩
end
section
section
variable {P : Program} {ops : Array Oper} {KQ : Act -> World -> Prop} {facts : List Fact} {taken : List Nat} {a : Act} {w : World}
theorem sliceQ (i : Nat) {oi : Oper} (hi : ops[i]? = some oi) (hB : takeB ops (facts.map (·.1)) taken i = true) (hw : Region.wanted oi (yielded ops a.tmps) = true) {t : TypeId} {x : Operand} {lo hi' mx : Option Operand} (hop : oi.op = .slice t x lo hi' mx) (hu : P.underlying t = some (.slice (P.elem t)))
  (v : Value) (hr : ∀ w', (Instr.slice t (a.eval x) (lo.map a.eval) (hi'.map a.eval) (mx.map a.eval)).run P w' = .ok v w')
  (h : atR P ops KQ facts (i :: taken) (a.put oi.dst v) w) : atR P ops KQ facts taken a w := by
 refine readQ i hi hB v hw (fun w' _ => ?_) h
 have hr2 : ∀ w', (Instr.sliceAt t (a.eval x) (lo.map a.eval) (hi'.map a.eval) (mx.map a.eval)).run P w' = .ok v w' := fun w' => (run_sliceAt_slice (h := hu) ..).trans (hr w')
 simp only [execOp, hop, Sem.run_bind, hr2, Result.andThen_ok, Sem.run_pure]
theorem wp_append_room {o : Oper} {K : Act -> World -> Prop} {Q : Exit -> Act -> World -> Prop} {t e : TypeId} {z : Value} {bytes : Nat} (s x : Operand)
  (ho : o.op = .call { callee := .builtin .append, args := #[s, x], argTypes := #[t, t] }) (E : ElemT P t e z 1 bytes) (g sLen sCap : Nat) (cur : Array Value) (hs : a.eval s = .slice (some ⟨g, 0, none⟩) sLen sCap) (hg : w.heap[g]? = some (.cells cur e (0, 0)))
  (ad : Addr) (m c : Nat) (news : List Value) (hx : a.eval x = .slice (some ad) m c) (hl : news.length = m) (hnews : ∀ j u, news[j]? = some u -> w.cell? (ad.add j) = some u) (h1 : ∀ u ∈ news, u.oneCell' = true)
  (hroom : sLen + m <= sCap) (hfit : sLen + news.length <= cur.size)
  (h : K (a.put o.dst (.slice (some ⟨g, 0, none⟩) (sLen + m) sCap)) (w.setRow g (cur.toList.take sLen ++ news ++ cur.toList.drop (sLen + news.length)).toArray)) : o.wp P a w K Q := by
 obtain ⟨i, hi, hz0, hz1, hz2⟩ := info_parts E.info
 have hr := run_append_room (P := P) w t o.type e i E.ht hi g sLen sCap cur hg ad m c news (by rw [hz1]; omega) hnews h1 hroom (by rw [hz1]; omega)
 rw [hz1, Nat.mul_one] at hr
 unfold Oper.wp execOp
 simp only [ho, resolve, invoke, builtin, Sem.run_bind, Sem.run_pure, Result.andThen_ok, List.map_toArray, List.map_cons, List.map_nil, hs, hx, hr]
 exact h
end
theorem Tryz.szR (W : World) : (sizeOf (Tryz.prog.elem 121)).run Tryz.prog W = .ok 1 W := by kernel_rfl
theorem Tryz.uelR : Tryz.prog.underlying 121 = some (.slice (Tryz.prog.elem 121)) := by kernel_rfl
theorem sl_Delete {w : World} {v : Value} {n : Nat} {xs : List Value} (h : w.ownsRow 0 126 1 v n xs) (hone : ∀ u ∈ xs, u.oneCell' = true) (i : Nat) (hi : i < n) (hn : n <= 1000000) :
  Calls Tryz.prog 196 #[v, .int .i64 i, .int .i64 ((i : Int) + 1)] w fun e w' => ∃ v', e = .returned v' /\ w'.ownsRow 0 126 1 v' (n - 1) (xs.eraseIdx i) /\ v'.ownBlock = v.ownBlock /\ Wrote (blk v) w w' := by
 obtain ⟨hl, ⟨rfl, rfl⟩ | ⟨g, cap, cur, rfl, _, hg, hnc, hcm, hcs, ht⟩⟩ := h
 ·omega
 obtain ⟨m, rfl⟩ : ∃ m, n = m + 1 := ⟨n - 1, by omega⟩
 have d1 : decide ((i : Int) < 0) = false := decide_eq_false (by omega)
 have hni : (m : Int) + 1 <= cap := by omega
 have hii : (i : Int) <= m := by omega
 have hii2 : i <= m := by omega
 go_enter Tryz.func196, Tryz.ntmps196
 go_wp2
 have hcut := fun W => run_cut_l Tryz.uelR Tryz.szR (some ⟨g, 0, none⟩) (m + 1) cap ((i : Int) + 1) (i + 1) (by omega) (by omega) W
 refine regionQ [] (by kernel_rfl) trivial fun KQ hKQ => ?_
 refine tQ [0, 1, 2, 3, 4] ?_;refine sliceQ 5 rfl (by kernel_rfl) (by kernel_rfl) rfl Tryz.uelR _ hcut ?_
 simp only [Act.put, List.getElem_toArray, List.getElem_cons_zero, List.getElem_cons_succ, List.setIfInBounds_toArray, List.set_cons_zero, List.set_cons_succ]
 have hcutA : ∃ o, cutA (some (⟨g, 0, none⟩ : Addr)) cap (i + 1) = some ⟨g, o, none⟩ /\ (i + 1 < m + 1 -> o = i + 1) := by
  unfold cutA
  split
  ·exact ⟨0, rfl, fun _ => by omega⟩
  ·exact ⟨i + 1, by simp [Addr.add], fun _ => rfl⟩
 obtain ⟨of, hof, hof2⟩ := hcutA
 rw [hof]
 have hxl : xs.length = m + 1 := by simpa using hl
 have hcs' : cur.size = cap := by simpa using hcs
 refine sQ 6 fun K hK => ?_;simp only [GO];refine wp_append_room _ _ rfl eRowP g i cap cur rfl hg ⟨g, of, none⟩ (m + 1 - (i + 1)) (cap - (i + 1)) (xs.drop (i + 1)) rfl (by simp [hxl]) ?_ ?_ (by omega) (by simp; omega) ?_
 ·intro j u hj
  have hlt := (List.getElem?_eq_some_iff.1 hj).1
  simp at hlt
  rw [List.getElem?_drop] at hj
  rw [hof2 (by omega)]
  have h1 : w.drew.cell? ⟨g, i + 1 + j, none⟩ = cur[i + 1 + j]? := by
   have := Blk.cell (w := w.drew) (b := g) (cs := cur) (T := 126) hg (i + 1 + j)
   exact this
  have h2 : cur[i + 1 + j]? = some u := by
   rw [<- ht, List.getElem?_take_of_lt (by omega)] at hj
   simpa using hj
  rw [<- h2, <- h1]
  by_cases h0 : j = 0
  ·subst h0; simp [Addr.add]
  ·simp [Addr.add, h0]
 ·exact fun u hu => hone u (List.mem_of_mem_drop hu)
 rw [show i + (m + 1 - (i + 1)) = m by omega]
 obtain ⟨ROW, hROW⟩ : ∃ ROW : Array Value, (List.take i cur.toList ++ List.drop (i + 1) xs ++ List.drop (i + (List.drop (i + 1) xs).length) cur.toList).toArray = ROW := ⟨_, rfl⟩
 rw [hROW]
 have hB1 : Blk (w.drew.setRow g ROW) g ROW 126 := setRow_heap w.drew g cur ROW 126 (0, 0) hg
 have hW1 : Wrote [g] w (w.drew.setRow g ROW) := ⟨rfl, rfl, rfl, by simp [World.setRow], (setRow_wrote (w := w.drew) g ROW).block⟩
 refine hK _ _ ⟨trivial, ?_⟩
 clear hK K;simp only [Act.put, List.getElem_toArray, List.getElem_cons_zero, List.getElem_cons_succ, List.setIfInBounds_toArray, List.set_cons_zero, List.set_cons_succ]
 refine tQ [7] ?_;refine dQ (hKQ.out _ _ ?_);clear hKQ KQ;have hrs : ROW.size = cap := by rw [<- hROW]; simp; omega
 have hrt : ROW.toList.take m = xs.eraseIdx i := by
  rw [<- hROW, List.eraseIdx_eq_take_drop_succ]
  have e1 : List.take i cur.toList = List.take i xs := by rw [<- ht, List.take_take]; congr 1; omega
  rw [e1]
  simp only [List.toList_toArray]
  rw [List.take_append_of_le_length (by simp; omega), List.take_of_length_le (by simp; omega)]
 obtain ⟨w1, hw1⟩ : ∃ w1, w.drew.setRow g ROW = w1 := ⟨_, rfl⟩
 rw [hw1] at hB1 hW1 ⊢
 clear hw1 hROW hcut
 have hcl : ∀ ty, (Builtin.clear_ #[121] ty #[.slice (some ⟨g, m, none⟩) 1 (cap - m)]).run Tryz.prog w1 = .ok (.tuple #[]) (w1.setCells g m (List.replicate 1 (.pointer none))) :=
  fun ty => Lib.run_clear_slice w1 121 126 ty (.pointer none) Tryz.underlying121 Tryz.zeroValue126 rfl rfl g m 1 (cap - m) (by decide) (fun j hj => by
   obtain rfl : j = 0 := by omega
   rw [hB1.cell]; simp [hrs]; omega) (fun j hj => hB1.frozen _)
 go_wp2
 go_ret
 have hB2 := hB1.set m (.pointer none)
 refine ⟨_, rfl, ⟨?_, .inr ⟨g, cap, _, rfl, Nat.zero_le _, hB2, by omega, hcm, by simp [hrs], ?_⟩⟩, rfl, (hW1.trans (Wrote.setCell (M := [g]) w1 ⟨g, m, none⟩ (by simp) _)).sub (by simp [blk, Value.ownBlock])⟩
 ·rw [List.length_eraseIdx]; simp [hxl]; omega
 ·rw [<- hrt]
  simp only [Nat.add_sub_cancel, Nat.mul_one, Array.toList_setIfInBounds]
  rw [List.take_set_of_le (by omega)]
end
section
def SS.gone (x : SS) (k : Nat) : SS := match x.s.l[k]? with
 | none => x
 | some r => ⟨{ x.s with l := x.s.l.eraseIdx k }, x.ps, x.cs ++ [⟨true, r⟩]⟩
theorem ids_erase (l : List RowV) (k : Nat) (r : RowV) (h : l[k]? = some r) (h1 : r.stage ≠ 1) : (idsOf l).Perm (r.id.toNat :: idsOf (l.eraseIdx k)) := by
 induction l generalizing k with
 | nil => simp at h
 | cons x l ih =>
  cases k with
  | zero =>
   simp at h
   subst h;simp [idsOf, h1]
  | succ k =>
   simp at h
   have := ih k h
   by_cases hx : x.stage = 1
   ·simpa [idsOf, hx] using this
   ·have e1 : idsOf (x :: l) = x.id.toNat :: idsOf l := by simp [idsOf, hx]
    have e2 : idsOf ((x :: l).eraseIdx (k + 1)) = x.id.toNat :: idsOf (l.eraseIdx k) := by simp [idsOf, hx]
    rw [e1, e2]
    exact (this.cons _).trans (List.Perm.swap _ _ _)
theorem erase_map {α β : Type} (f : α -> β) (l : List α) (k : Nat) : (l.eraseIdx k).map f = (l.map f).eraseIdx k := by
 induction l generalizing k with
 | nil => rfl
 | cons x l ih => cases k <;> simp [ih]
theorem eraseIdx_get {α : Type} (l : List α) (k i : Nat) : (l.eraseIdx k)[i]? = if i < k then l[i]? else l[i + 1]? := by
 rw [List.getElem?_eraseIdx]
theorem OB.erased {w w1 w2 : World} {B : Nat} {L : Lay} {s : OS} {ps : List PackV} {cs : List ChangeV} (h : OB w B L s ps cs) (k : Nat) (r : RowV) (hr : s.l[k]? = some r) (hs : r.stage ≠ 1)
  (hw : Wrote [L.sb] w w1) (hin : Inb w1 L.ib L.sb 100 (tog L.W r.id.toNat)) (v' : Value) (hw2 : Wrote (blk L.vl) w1 w2) (hv : w2.ownsRow 0 126 1 v' (s.l.length - 1) ((ptrs L.rb).eraseIdx k)) (hb : v'.ownBlock = L.vl.ownBlock) :
  OB (w2.setCell ⟨L.p, 6, none⟩ v') B { L with vl := v', rb := L.rb.eraseIdx k, W := tog L.W r.id.toNat } { s with l := s.l.eraseIdx k } ps cs /\ Stp L.foot { L with vl := v', rb := L.rb.eraseIdx k, W := tog L.W r.id.toNat : Lay }.foot w (w2.setCell ⟨L.p, 6, none⟩ v') := by
 have hlt := (List.getElem?_eq_some_iff.1 hr).1
 have hok := h.ok
 have hid := hok.ids r (List.mem_of_getElem? hr) hs
 have hperm := ids_erase s.l k r hr hs
 have hrow1 := not_own h.rows hw (fun x hx hbk => by
  simp at hx
  subst hx;exact block_not_row h.inb.set (by decide) h.rows (mem_blk.1 hbk).symm)
 have e1 : ∀ {T : TypeId} {x : Nat} {c : Array Value}, Blk w x c T -> T ≠ 181 -> Blk w1 x c T := fun hx ht => hx.wrote hw (by
  intro hm; simp at hm; exact (hx.ne h.inb.set ht) hm)
 have e2 : ∀ {T : TypeId} {x : Nat} {c : Array Value}, Blk w1 x c T -> T ≠ 126 -> Blk w2 x c T := fun hx ht => hx.wrote hw2 (fun hm => block_not_row hx ht hrow1 (mem_blk.1 hm).symm)
 have hbox2 := e2 (e1 h.box (by decide)) (by decide)
 have t3 : WT 123 w2 (w2.setCell ⟨L.p, 6, none⟩ v') := WT.set hbox2 6 v'
 have o12 : ∀ {base : Nat} {e : TypeId} {size : Nat} {v : Value} {n : Nat} {xs : List Value}, w.ownsRow base e size v n xs -> e ≠ 181 -> e ≠ 126 -> w2.ownsRow base e size v n xs := fun hx h1 h2 => by
  have hx1 := not_own hx hw (fun x hm hbk => by
   simp at hm; subst hm
   exact block_not_row h.inb.set (Ne.symm h1) hx (mem_blk.1 hbk).symm)
  refine not_own hx1 hw2 (fun x hm hbk => ?_)
  obtain ⟨_, ⟨he, _⟩ | ⟨g, cap, cur, he, _, hg, _⟩⟩ := hrow1
  ·rw [he] at hm; simp [blk, Value.ownBlock] at hm
  ·rw [he] at hm
   have hxg : x = g := by simpa [blk, Value.ownBlock] using hm
   subst hxg;exact block_not_row (show w1.heap[x]? = _ from hg) (Ne.symm h2) hx1 (mem_blk.1 hbk).symm
 have hsubf : ∀ x ∈ blk L.vl, x ∈ L.foot := fun x hx => by simp [Lay.foot, hx]
 have hstp : Wrote L.foot w (w2.setCell ⟨L.p, 6, none⟩ v') := ((hw.sub (by simp [Lay.foot])).trans (hw2.sub hsubf)).trans (Wrote.setCell w2 _ (by simp [Lay.foot]) _)
 have hsub : ∀ x ∈ ({ L with vl := v', rb := L.rb.eraseIdx k, W := tog L.W r.id.toNat } : Lay).foot, x ∈ L.foot := by
  intro x hx
  have h3 : x ∈ blk v' -> x ∈ blk L.vl := fun hm => by rw [mem_blk] at hm ⊢; rw [<- hb]; exact hm
  simp only [Lay.foot, List.mem_cons, List.mem_append] at hx ⊢
  rcases hx with hx | hx | hx | ((hx | hx) | hx) | hx
  ·simp [hx]
  ·simp [hx]
  ·simp [hx]
  ·simp [h3 hx]
  ·simp [hx]
  ·simp [hx]
  ·simp [List.mem_of_mem_eraseIdx hx]
 refine ⟨⟨Nat.le_trans h.base hstp.size, hbox2.set 6 _, ⟨(e2 hin.box (by decide)).wt t3 (by decide), (e2 hin.set (by decide)).wt t3 (by decide)⟩, ?_, ?_, ?_, ?_, ?_, row_wt (o12 h.packs (by decide) (by decide)) t3 (by decide), row_wt (o12 h.chgs (by decide) (by decide)) t3 (by decide), h.tz.wrote hstp h.gg, fun hx => h.gg (hsub _ hx), ?_⟩, hstp, fun x hx => .inl (hsub x hx)⟩
 ·have h1 := h.set.go (n := r.id.toNat) (by omega) (hperm.mem_iff.2 (by simp)) hok.nodup
  refine h1.perm ?_
  have h2 := hperm.erase r.id.toNat
  simpa using h2
 ·have := row_wt hv t3 (by decide)
  simpa [List.length_eraseIdx, hlt, ptrs, erase_map] using this
 ·have := h.len
  simp [List.length_eraseIdx, hlt, this]
 ·intro i b r' h1 h2
  dsimp only at h1 h2
  rw [eraseIdx_get] at h1 h2
  have hc : ∃ j : Nat, L.rb[j]? = some b /\ s.l[j]? = some r' := by
   by_cases hi : i < k
   ·rw [if_pos hi] at h1 h2; exact ⟨i, h1, h2⟩
   ·rw [if_neg hi] at h1 h2; exact ⟨i + 1, h1, h2⟩
  obtain ⟨j, hj1, hj2⟩ := hc
  exact (e2 (e1 (h.cells j b r' hj1 hj2) (by decide)) (by decide)).wt t3 (by decide)
 ·exact h.nodup.sublist (List.eraseIdx_sublist ..)
 ·have hl : (s.l.eraseIdx k).length = s.l.length - 1 := by simp [List.length_eraseIdx, hlt]
  have hpl := hperm.length_eq
  simp only [List.length_cons] at hpl
  refine ⟨hok.win, ⟨hok.room.1, by have := hok.room.2; show ((s.l.eraseIdx k).length : Int) <= s.room; omega⟩, hok.seq, hok.id, hok.cl, fun x hx => hok.ids x (List.mem_of_mem_eraseIdx hx), (List.nodup_cons.1 (hperm.nodup_iff.1 hok.nodup)).2, by have := hok.under; show ((idsOf (s.l.eraseIdx k)).length : Int) <= s.window; omega⟩
end
section
def SS.goneIf (x : SS) (k : Nat) (st q : Int) : SS := match x.s.l[k]? with
 | none => x
 | some r => if r.stage = st /\ r.qos = q then x.gone k else x
structure AtRow (w : World) (L : Lay) (k b : Nat) (r : RowV) (g n cap : Nat) : Prop where
 vl : L.vl = .slice (some ⟨g, 0, none⟩) n cap
 box : w.cell? ⟨L.p, 6, none⟩ = some (.slice (some ⟨g, 0, none⟩) n cap)
 arr : w.cell? ⟨g, k, none⟩ = some (.pointer (some ⟨b, 0, none⟩))
 row : Blk w b r.vals 33
 lt : k < n
 le : n <= cap
theorem OB.atRow {w : World} {B : Nat} {L : Lay} {s : OS} {ps : List PackV} {cs : List ChangeV} (h : OB w B L s ps cs) (k : Nat) (r : RowV) (hr : s.l[k]? = some r) : ∃ b g cap, L.rb[k]? = some b /\ AtRow w L k b r g s.l.length cap := by
 have hlt := (List.getElem?_eq_some_iff.1 hr).1
 have hlen := h.len
 obtain ⟨b, hb⟩ : ∃ b, L.rb[k]? = some b := ⟨_, List.getElem?_eq_getElem (by omega)⟩
 obtain ⟨a, cap, hv, hc⟩ := own_cell h.rows
 obtain ⟨g, rfl, hg⟩ := hc k (.pointer (some ⟨b, 0, none⟩)) (by simp [ptrs, hb])
 refine ⟨b, g, cap, hb, hv, (h.box.cell 6).trans (by simp [boxCells, hv]), hg, h.cells k b r hb hr, hlt, ?_⟩
 have hr := h.rows
 rw [hv] at hr
 obtain ⟨_, ⟨he, _⟩ | ⟨g', cap', cur, he, _, _, hn, _⟩⟩ := hr
 ·cases he
 ·cases he; exact hn
def SS.goneAt (x : SS) (n st q : Int) : SS := if n < 0 then x else x.goneIf n.toNat st q
theorem out_gone {w : World} {B : Nat} {L : Lay} {s : OS} {ps : List PackV} {cs : List ChangeV} (h : OB w B L s ps cs) (n : Int) (st q : Int) (hst : st ≠ 1) (hn : n < s.l.length) (hcs : cs.length <= 10000) :
  Calls Tryz.prog 143 #[.pointer (some ⟨L.p, 0, none⟩), .int .i64 n, .int .i64 st, .int .i64 q] w fun e w' => e = .returned (.tuple #[]) /\
   ∃ L', L'.p = L.p /\ L'.vp = L.vp /\ OB w' B L' (SS.goneAt ⟨s, ps, cs⟩ n st q).s (SS.goneAt ⟨s, ps, cs⟩ n st q).ps (SS.goneAt ⟨s, ps, cs⟩ n st q).cs /\ Stp L.foot L'.foot w w' := by
 obtain ⟨X, hX⟩ : ∃ X, SS.goneAt ⟨s, ps, cs⟩ n st q = X := ⟨_, rfl⟩
 rw [hX]
 by_cases hneg : n < 0
 ·have d1 : decide (n < 0) = true := decide_eq_true hneg
  have hX2 : X = ⟨s, ps, cs⟩ := by rw [<- hX]; simp [SS.goneAt, hneg]
  clear hX;replace hX2 := hid hX2;go_enter Tryz.func143, Tryz.ntmps143
  go_wp2
  refine bodyPost_ret (results_none rfl _ _ _) rfl ?_
  rw [hX2.out]
  exact ⟨rfl, L, rfl, rfl, h, Stp.refl _ _⟩
 ·obtain ⟨k, rfl⟩ : ∃ k : Nat, n = k := ⟨n.toNat, by omega⟩
  have hk : k < s.l.length := by omega
  obtain ⟨r, hr⟩ : ∃ r, s.l[k]? = some r := ⟨_, List.getElem?_eq_getElem hk⟩
  obtain ⟨b, g, cap, hb, A⟩ := h.atRow k r hr
  have hgi : X = if r.stage = st /\ r.qos = q then SS.gone ⟨s, ps, cs⟩ k else ⟨s, ps, cs⟩ := by rw [<- hX]; simp [SS.goneAt, hneg, SS.goneIf, hr]
  clear hX;have k6 := A.box
  have ka := A.arr
  have kl := A.lt
  have kc := A.le
  obtain ⟨kd, cl, sq, id, tp, bd, qs, rt, stg⟩ := r
  have c8 : w.cell? ⟨b, 8, none⟩ = some (.int .i64 stg) := A.row.cell 8
  have c6 : w.cell? ⟨b, 6, none⟩ = some (.int .i64 qs) := A.row.cell 6
  dsimp only at hgi
  by_cases h1 : stg = st
  ·subst h1
   by_cases h2 : qs = q
   ·subst h2
    rw [if_pos ⟨rfl, rfl⟩] at hgi
    replace hgi := hid hgi;have c0 : w.cell? ⟨b, 0, none⟩ = some (.int .i64 kd) := A.row.cell 0
    have c1 : w.cell? ⟨b, 1, none⟩ = some (.string ⟨cl.toArray⟩) := A.row.cell 1
    have c2 : w.cell? ⟨b, 2, none⟩ = some (.int .i64 sq) := A.row.cell 2
    have c3 : w.cell? ⟨b, 3, none⟩ = some (.int .i64 id) := A.row.cell 3
    have c4 : w.cell? ⟨b, 4, none⟩ = some (.string ⟨tp.toArray⟩) := A.row.cell 4
    have c5 : w.cell? ⟨b, 5, none⟩ = some (.string ⟨bd.toArray⟩) := A.row.cell 5
    have c7 : w.cell? ⟨b, 7, none⟩ = some (.bool rt) := A.row.cell 7
    go_enter Tryz.func143, Tryz.ntmps143
    go_wp2_with fail
    refine (out_changes (h.alloc _) ⟨true, ⟨kd, cl, sq, id, tp, bd, qs, rt, stg⟩⟩ w.heap.size (Blk.new_at _ _ _ _ rfl) (by omega)).mono ?_
    rintro e w1 ⟨rfl, v1, hO1, hst1⟩
    have hO1 := hid hO1;have hrow1 : Blk w1 b _ 33 := hO1.out.cells k b _ hb hr
    have hbox1 := hid hO1.out.box;clear c0 c1 c2 c3 c4 c5 c6 c7 c8 k6 ka;go_wp2_with fail
    have CG := hid (in_Go L.ib L.sb 100 L.W (idsOf s.l) id w1.drew ⟨hO1.out.inb.box, hO1.out.inb.set⟩ hO1.out.set (hO1.out.ok.ids _ (List.mem_of_getElem? hr) hst).1 (hO1.out.ok.ids _ (List.mem_of_getElem? hr) hst).2 ((ids_erase s.l k _ hr hst).mem_iff.2 (by simp)))
    refine regionQ [(1000, fun w' => w'.cell? ⟨L.p, 0, none⟩ = some (.pointer (some ⟨L.ib, 0, none⟩))), (1000, fun w' => w'.cell? ⟨b, 3, none⟩ = some (.int .i64 id))] (by kernel_rfl) ⟨hbox1.out.cell 0, hrow1.cell 3, trivial⟩ fun KQ hKQ => ?_
    refine tQ [0] ?_;refine nQ 1 ?_;refine tQ [2] ?_;refine lQ 3 0 ?_;refine tQ [4] ?_;refine nQ 5 ?_;refine tQ [6] ?_;refine lQ 7 1 ?_;refine sQ 8 fun K hK => ?_;simp only [GO];go_simp;refine CG.out.mono ?_
    rintro e w2 ⟨rfl, hi2, hw2'⟩
    have hw2 : Wrote [L.sb] w1 w2 := ⟨hw2'.os, hw2'.tape, hw2'.output, hw2'.size, hw2'.block⟩
    clear hw2' CG;have nps : L.p ≠ L.sb := hbox1.out.ne hO1.out.inb.set (by decide)
    have nbs : b ≠ L.sb := hrow1.ne hO1.out.inb.set (by decide)
    have hbox2 := hbox1.out.wrote hw2 (by simpa using nps)
    refine hK _ _ ⟨⟨fun _ => hbox2.cell 0, fun _ => (hrow1.wrote hw2 (by simpa using nbs)).cell 3, trivial⟩, ?_⟩
    clear hK K;refine dQ (hKQ.out _ _ ?_);clear hKQ KQ;have k6 : w2.cell? ⟨L.p, 6, none⟩ = some (.slice (some ⟨g, 0, none⟩) s.l.length cap) := (hbox2.cell 6).trans (by simp [boxCells, A.vl])
    have hrows2 := not_own hO1.out.rows hw2 (fun x hx hbk => by
     simp at hx; subst hx
     exact block_not_row hO1.out.inb.set (by decide) hO1.out.rows (mem_blk.1 hbk).symm)
    have hroom : s.l.length <= 1000 := by have := hO1.out.ok.room; omega
    have CD := hid (sl_Delete hrows2 (by simp [ptrs, Value.oneCell']) k hk (by omega))
    dsimp only at CD
    rw [A.vl] at CD
    go_wp2_with fail
    refine CD.out.mono ?_
    rintro e w3 ⟨v', rfl, hr3, hb3, hw3⟩
    obtain ⟨a3, c3, rfl⟩ := own_slice hr3
    have hbox3 := hbox2.wrote hw3 (fun hm => block_not_row hbox2 (by decide) hrows2 (by rw [<- A.vl] at hm; exact (mem_blk.1 hm).symm))
    have k6' : w3.cell? ⟨L.p, 6, none⟩ = some (.slice (some ⟨g, 0, none⟩) s.l.length cap) := (hbox3.cell 6).trans (by simp [boxCells, A.vl])
    have z6 : w3.frozen? ⟨L.p, 6, none⟩ = false := hbox3.frozen 6
    have HR3 := hid hr3;have HB3 := hid hb3;clear hr3 hb3 k6 CD;go_wp2
    go_end0
    rw [hgi.out]
    have hfin := hO1.out.erased k ⟨kd, cl, sq, id, tp, bd, qs, rt, stg⟩ hr hst hw2 hi2 (.slice a3 (s.l.length - 1) c3) (by rw [<- A.vl] at hw3; exact hw3) HR3.out (by rw [HB3.out]; exact congrArg Value.ownBlock A.vl.symm)
    have hsg : SS.gone ⟨s, ps, cs⟩ k = ⟨{ s with l := s.l.eraseIdx k }, ps, cs ++ [⟨true, ⟨kd, cl, sq, id, tp, bd, qs, rt, stg⟩⟩]⟩ := by simp [SS.gone, hr]
    rw [hsg]
    exact ⟨rfl, { L with vc := v1, vl := .slice a3 (s.l.length - 1) c3, rb := L.rb.eraseIdx k, W := tog L.W id.toNat }, rfl, rfl, hfin.1, ((Stp.below ((Below.refl _ w).alloc (Nat.le_refl _) _)).trans hst1).trans hfin.2⟩
   ·have e2 : (qs != q) = true := by simpa using h2
    rw [if_neg (fun hh => h2 hh.2)] at hgi
    replace hgi := hid hgi;go_enter Tryz.func143, Tryz.ntmps143
    go_wp2
    refine bodyPost_ret (results_none rfl _ _ _) rfl ?_
    rw [hgi.out]
    exact ⟨rfl, L, rfl, rfl, h, Stp.refl _ _⟩
  ·have e1 : (stg != st) = true := by simpa using h1
   rw [if_neg (fun hh => h1 hh.1)] at hgi
   replace hgi := hid hgi;go_enter Tryz.func143, Tryz.ntmps143
   go_wp2
   refine bodyPost_ret (results_none rfl _ _ _) rfl ?_
   rw [hgi.out]
   exact ⟨rfl, L, rfl, rfl, h, Stp.refl _ _⟩
end
section
theorem ids_same (l : List RowV) (k : Nat) (r r' : RowV) (h : l[k]? = some r) (h1 : r.stage ≠ 1) (h2 : r'.stage ≠ 1) (h3 : r'.id = r.id) : idsOf (l.set k r') = idsOf l := by
 induction l generalizing k with
 | nil => rfl
 | cons x l ih =>
  cases k with
  | zero =>
   simp at h
   subst h;simp [idsOf, h1, h2, h3]
  | succ k =>
   simp at h
   have := ih k h
   by_cases hx : x.stage = 1
   ·simpa [idsOf, hx] using this
   ·simpa [idsOf, hx] using this
theorem OB.setStage {w : World} {B : Nat} {L : Lay} {s : OS} {ps : List PackV} {cs : List ChangeV} (h : OB w B L s ps cs) (k b : Nat) (r : RowV) (hb : L.rb[k]? = some b) (hr : s.l[k]? = some r) (hs : r.stage ≠ 1) :
  OB (w.setCell ⟨b, 8, none⟩ (.int .i64 3)) B L { s with l := s.l.set k { r with stage := 3 } } ps cs /\ Stp L.foot L.foot w (w.setCell ⟨b, 8, none⟩ (.int .i64 3)) := by
 have hrow := h.cells k b r hb hr
 have t := WT.set hrow 8 (.int .i64 3)
 have hbf : b ∈ L.foot := by simp [Lay.foot, List.mem_of_getElem? hb]
 have hst : Wrote L.foot w (w.setCell ⟨b, 8, none⟩ (.int .i64 3)) := Wrote.setCell w _ hbf _
 have hids := ids_same s.l k r { r with stage := 3 } hr hs (by simp) rfl
 refine ⟨⟨Nat.le_trans h.base hst.size, h.box.wt t (by decide), ⟨h.inb.box.wt t (by decide), h.inb.set.wt t (by decide)⟩, ?_, ?_, ?_, ?_, h.nodup, row_wt h.packs t (by decide), row_wt h.chgs t (by decide), h.tz.wrote hst h.gg, h.gg, ?_⟩, hst, fun x hx => .inl hx⟩
 ·show SetIs L.W (idsOf (s.l.set k _))
  rw [hids]; exact h.set
 ·have := row_wt h.rows t (by decide)
  simpa using this
 ·simpa using h.len
 ·intro j b' r' h1 h2
  dsimp only at h1 h2
  by_cases e : j = k
  ·subst e
   rw [hb] at h1
   cases h1
   rw [List.getElem?_set_self (List.getElem?_eq_some_iff.1 hr).1] at h2
   cases h2
   exact hrow.set 8 _
  ·rw [List.getElem?_set_ne (Ne.symm e)] at h2
   refine (h.cells j b' r' h1 h2).set_ne ⟨b, 8, none⟩ (fun hm => ?_) _
   dsimp only at hm
   subst hm;exact e ((List.getElem?_inj (List.getElem?_eq_some_iff.1 h1).1 h.nodup).1 (h1.trans hb.symm))
 ·have hok := h.ok
  refine ⟨hok.win, by simpa using hok.room, hok.seq, hok.id, hok.cl, fun x hx hx1 => ?_, by show (idsOf (s.l.set k _)).Nodup; rw [hids]; exact hok.nodup, by show ((idsOf (s.l.set k _)).length : Int) <= _; rw [hids]; exact hok.under⟩
  rcases List.mem_or_eq_of_mem_set hx with hx | hx
  ·exact hok.ids x hx hx1
  ·subst hx; exact hok.ids r (List.mem_of_getElem? hr) hs
def pubrel (z : Int) : PackV := ⟨6, false, false, 0, [], [], z⟩
def SS.rel (x : SS) (z : Int) : SS := ⟨x.s, x.ps ++ [pubrel z], x.cs⟩
def SS.recv (x : SS) (k : Nat) : SS := match x.s.l[k]? with
 | none => x
 | some r => if r.stage = 2 then ⟨{ x.s with l := x.s.l.set k { r with stage := 3 } }, x.ps, x.cs ++ [⟨false, { r with stage := 3 }⟩]⟩ else x
def SS.pubrec (x : SS) (n z : Int) : SS := if n < 0 then x.rel z else match x.s.l[n.toNat]? with
 | none => x
 | some r => if r.qos = 2 then (x.recv n.toNat).rel z else x
def Told (w : World) (B : Nat) (L : Lay) (X : SS) (e : Ending) (w' : World) : Prop := e = .returned (.tuple #[]) /\ ∃ L', L'.p = L.p /\ OB w' B L' X.s X.ps X.cs /\ Stp L.foot L'.foot w w'
theorem out_puback {w : World} {B : Nat} {L : Lay} {s : OS} {ps : List PackV} {cs : List ChangeV} (h : OB w B L s ps cs) (n z : Int) (hn : n < s.l.length) (hcs : cs.length <= 10000) :
  Calls Tryz.prog 89 #[.pointer (some ⟨L.p, 0, none⟩), .int .i64 n, .int .i64 z] w (Told w B L (SS.goneAt ⟨s, ps, cs⟩ n 2 1)) := by
 have CG := hid (out_gone h n 2 1 (by decide) hn hcs)
 obtain ⟨X, hX⟩ : ∃ X, SS.goneAt ⟨s, ps, cs⟩ n 2 1 = X := ⟨_, rfl⟩
 rw [hX] at CG ⊢
 go_enter Tryz.func89, Tryz.ntmps89
 go_wp2_with (go_at_call 143; refine CG.out.mono ?_; rintro e w1 ⟨rfl, L', hp, -, hO, hS⟩)
 go_end0
 exact ⟨rfl, L', hp, hO, hS⟩
theorem out_pubcomp {w : World} {B : Nat} {L : Lay} {s : OS} {ps : List PackV} {cs : List ChangeV} (h : OB w B L s ps cs) (n z : Int) (hn : n < s.l.length) (hcs : cs.length <= 10000) :
  Calls Tryz.prog 91 #[.pointer (some ⟨L.p, 0, none⟩), .int .i64 n, .int .i64 z] w (Told w B L (SS.goneAt ⟨s, ps, cs⟩ n 3 2)) := by
 have CG := hid (out_gone h n 3 2 (by decide) hn hcs)
 obtain ⟨X, hX⟩ : ∃ X, SS.goneAt ⟨s, ps, cs⟩ n 3 2 = X := ⟨_, rfl⟩
 rw [hX] at CG ⊢
 go_enter Tryz.func91, Tryz.ntmps91
 go_wp2_with (go_at_call 143; refine CG.out.mono ?_; rintro e w1 ⟨rfl, L', hp, -, hO, hS⟩)
 go_end0
 exact ⟨rfl, L', hp, hO, hS⟩
theorem out_pubrec {w : World} {B : Nat} {L : Lay} {s : OS} {ps : List PackV} {cs : List ChangeV} (h : OB w B L s ps cs) (n z : Int) (hn : n < s.l.length) (hcs : cs.length <= 10000) (hps : ps.length <= 10000) (hst : 0 <= n -> ∀ r, s.l[n.toNat]? = some r -> r.stage ≠ 1) :
  Calls Tryz.prog 90 #[.pointer (some ⟨L.p, 0, none⟩), .int .i64 n, .int .i64 z] w (Told w B L (SS.pubrec ⟨s, ps, cs⟩ n z)) := by
 obtain ⟨X, hX⟩ : ∃ X, SS.pubrec ⟨s, ps, cs⟩ n z = X := ⟨_, rfl⟩
 rw [hX]
 by_cases hneg : n < 0
 ·have d1 : decide (0 <= n) = false := decide_eq_false (by omega)
  have hX2 : X = ⟨s, ps ++ [pubrel z], cs⟩ := by rw [<- hX]; simp [SS.pubrec, hneg, SS.rel]
  clear hX;replace hX2 := hid hX2;go_enter Tryz.func90, Tryz.ntmps90
  go_wp2_with fail
  refine (out_says (h.alloc _) (pubrel z) w.heap.size (Blk.new_at _ _ _ _ rfl) (by omega)).mono ?_
  rintro e w1 ⟨rfl, v1, hO1, hst1⟩
  go_wp2
  go_end0
  rw [hX2.out]
  exact ⟨rfl, { L with vp := v1 }, rfl, hO1, (Stp.below ((Below.refl _ w).alloc (Nat.le_refl _) _)).trans hst1⟩
 ·obtain ⟨k, rfl⟩ : ∃ k : Nat, n = k := ⟨n.toNat, by omega⟩
  have hk : k < s.l.length := by omega
  obtain ⟨r, hr⟩ : ∃ r, s.l[k]? = some r := ⟨_, List.getElem?_eq_getElem hk⟩
  obtain ⟨b, g, cap, hb, A⟩ := h.atRow k r hr
  have hgi : X = if r.qos = 2 then (SS.recv ⟨s, ps, cs⟩ k).rel z else ⟨s, ps, cs⟩ := by rw [<- hX]; simp [SS.pubrec, hneg, hr]
  clear hX;have k6 := A.box
  have ka := A.arr
  have kl := A.lt
  have kc := A.le
  have hrs := hst (by omega) r (by simpa using hr)
  obtain ⟨kd, cl, sq, id, tp, bd, qs, rt, stg⟩ := r
  have c8 : w.cell? ⟨b, 8, none⟩ = some (.int .i64 stg) := A.row.cell 8
  have c6 : w.cell? ⟨b, 6, none⟩ = some (.int .i64 qs) := A.row.cell 6
  dsimp only at hgi hrs
  by_cases h1 : qs = 2
  ·subst h1
   rw [if_pos rfl] at hgi
   by_cases h2 : stg = 2
   ·subst h2
    have hX2 : X = ⟨{ s with l := s.l.set k ⟨kd, cl, sq, id, tp, bd, 2, rt, 3⟩ }, ps ++ [pubrel z], cs ++ [⟨false, ⟨kd, cl, sq, id, tp, bd, 2, rt, 3⟩⟩]⟩ := by rw [hgi]; simp [SS.recv, hr, SS.rel]
    clear hgi;replace hX2 := hid hX2;have c0 : w.cell? ⟨b, 0, none⟩ = some (.int .i64 kd) := A.row.cell 0
    have c1 : w.cell? ⟨b, 1, none⟩ = some (.string ⟨cl.toArray⟩) := A.row.cell 1
    have c2 : w.cell? ⟨b, 2, none⟩ = some (.int .i64 sq) := A.row.cell 2
    have c3 : w.cell? ⟨b, 3, none⟩ = some (.int .i64 id) := A.row.cell 3
    have c4 : w.cell? ⟨b, 4, none⟩ = some (.string ⟨tp.toArray⟩) := A.row.cell 4
    have c5 : w.cell? ⟨b, 5, none⟩ = some (.string ⟨bd.toArray⟩) := A.row.cell 5
    have c7 : w.cell? ⟨b, 7, none⟩ = some (.bool rt) := A.row.cell 7
    have z8 : w.frozen? ⟨b, 8, none⟩ = false := A.row.frozen 8
    have npb : L.p ≠ b := h.box.ne A.row (by decide)
    have ngb : g ≠ b := by
     have hr0 := h.rows
     rw [A.vl] at hr0
     intro e
     exact block_not_row A.row (by decide) hr0 (by simp [Value.ownBlock, e])
    obtain ⟨hO1, hS1⟩ := h.setStage k b _ hb hr (by simp)
    dsimp only at hO1
    have HO1 := hid hO1;have HS1 := hid hS1;clear hO1 hS1;go_enter Tryz.func90, Tryz.ntmps90
    go_wp2_with fail
    refine (out_changes (HO1.out.alloc _) ⟨false, ⟨kd, cl, sq, id, tp, bd, 2, rt, 3⟩⟩ w.heap.size (Blk.new_at _ _ _ _ (by simp)) (by omega)).mono ?_
    rintro e w1 ⟨rfl, v1, hO2, hst2⟩
    go_wp2_with fail
    refine (out_says (hO2.alloc _) (pubrel z) w1.heap.size (Blk.new_at _ _ _ _ rfl) (by omega)).mono ?_
    rintro e w2 ⟨rfl, v2, hO3, hst3⟩
    go_wp2
    go_end0
    rw [hX2.out]
    exact ⟨rfl, { L with vc := v1, vp := v2 }, rfl, hO3, ((HS1.out.trans (Stp.below ((Below.refl _ _).alloc (Nat.le_refl _) _))).trans hst2).trans ((Stp.below ((Below.refl _ w1).alloc (Nat.le_refl _) _)).trans hst3)⟩
   ·have e2 : (stg == 2) = false := by simpa using h2
    have hX2 : X = ⟨s, ps ++ [pubrel z], cs⟩ := by rw [hgi]; simp [SS.recv, hr, h2, SS.rel]
    clear hgi;replace hX2 := hid hX2;go_enter Tryz.func90, Tryz.ntmps90
    go_wp2_with fail
    refine (out_says (h.alloc _) (pubrel z) w.heap.size (Blk.new_at _ _ _ _ rfl) (by omega)).mono ?_
    rintro e w1 ⟨rfl, v1, hO1, hst1⟩
    go_wp2
    go_end0
    rw [hX2.out]
    exact ⟨rfl, { L with vp := v1 }, rfl, hO1, (Stp.below ((Below.refl _ w).alloc (Nat.le_refl _) _)).trans hst1⟩
  ·have e1 : (qs != 2) = true := by simpa using h1
   rw [if_neg h1] at hgi
   replace hgi := hid hgi;go_enter Tryz.func90, Tryz.ntmps90
   go_wp2
   refine bodyPost_ret (results_none rfl _ _ _) rfl ?_
   rw [hgi.out]
   exact ⟨rfl, L, rfl, h, Stp.refl _ _⟩
end
end Go.Proofs.YtoinabapaeebfaaGreatDoor
