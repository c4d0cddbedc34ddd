/- Parts of the proof of ScriptCuts: contracts of functions that it reaches, and plain lemmas. No condition of their own. -/
import Derived.Test.YtkghejaimhoboaaGreatDoorPk08
import Derived.Test.YtkghejaimhoboaaGreatDoorPk07
import Derived.Handy
import Derived.BigRegion
import Derived.Great.BuildSlice
import Derived.Deep.LoopGhost
import Derived.Test.YtkghejaimhoboaaGreatDoorPk03
set_option linter.unusedSimpArgs false
set_option linter.unusedVariables false
set_option maxRecDepth 100000
set_option maxHeartbeats 8000000
namespace Go.Proofs.YtkghejaimhoboaaGreatDoor
open Go.RowKit Go.Shelf
section
/-! ### Words on memory, no program in sight -/
structure WT (T : TypeId) (w w' : World) : Prop where
 size : w.heap.size <= w'.heap.size
 block : ∀ k, k < w.heap.size -> (∀ cs f, w.heap[k]? ≠ some (.cells cs T f)) -> w'.heap[k]? = w.heap[k]?
theorem WT.of_below {T : TypeId} {w w' : World} (h : Below w.heap.size w w') : WT T w w' := ⟨h.size, fun k hk _ => h.block k hk⟩
theorem WT.set {T : TypeId} {w : World} {b : Nat} {cs : Array Value} (h : Blk w b cs T) (j : Nat) (v : Value) : WT T w (w.setCell ⟨b, j, none⟩ v) :=
 ⟨by simp [World.setCell], fun k _ hn => Below.heap_setCell _ _ _ _ (fun e => hn cs (0, 0) (by rw [e]; exact h))⟩
theorem WT.row {base : Nat} {e : TypeId} {size : Nat} {v : Value} {n : Nat} {xs : List Value} {w w' : World} (h : w.ownsRow base e size v n xs) (hg : w.grownBy w' v.ownBlock) : WT e w w' :=
 ⟨hg.size, fun k hk hn => hg.block k hk (fun he => by
  obtain ⟨_, ⟨rfl, _⟩ | ⟨g, cap, cur, rfl, _, hh, _⟩⟩ := h
  ·simp [Value.ownBlock] at he
  ·simp only [Value.ownBlock, Option.some.injEq] at he
   exact hn cur (0, 0) (by rw [he]; exact hh))⟩
theorem Blk.wt {T T' : TypeId} {w w' : World} {b : Nat} {cs : Array Value} (h : Blk w b cs T') (hw : WT T w w') (ht : T' ≠ T) : Blk w' b cs T' :=
 h.keep (hw.block b h.lt (fun cs' f he => by unfold Blk at h; rw [h] at he; cases he; exact ht rfl))
theorem row_wt {T e : TypeId} {w w' : World} {base : Nat} {size : Nat} {v : Value} {n : Nat} {xs : List Value} (h : w.ownsRow base e size v n xs) (hw : WT T w w') (ht : e ≠ T) : w'.ownsRow base e size v n xs := by
 obtain ⟨hl, hx | ⟨g, cap, cur, rfl, hb, hh, hx⟩⟩ := h
 ·exact ⟨hl, .inl hx⟩
 ·exact ⟨hl, .inr ⟨g, cap, cur, rfl, hb, (Blk.wt (b := g) hh hw ht), hx⟩⟩
def blk (v : Value) : List Nat := v.ownBlock.toList
theorem mem_blk {v : Value} {k : Nat} : k ∈ blk v ↔ v.ownBlock = some k := by simp [blk]
structure Stp (F F' : List Nat) (w w' : World) : Prop where
 wrote : Wrote F w w'
 sub : ∀ x ∈ F', x ∈ F \/ w.heap.size <= x
theorem Stp.refl (F : List Nat) (w : World) : Stp F F w w := ⟨Wrote.refl _ _, fun _ h => .inl h⟩
theorem Stp.trans {F F' F'' : List Nat} {a b c : World} (h : Stp F F' a b) (k : Stp F' F'' b c) : Stp F F'' a c :=
 ⟨⟨k.wrote.os.trans h.wrote.os, k.wrote.tape.trans h.wrote.tape, k.wrote.output.trans h.wrote.output, Nat.le_trans h.wrote.size k.wrote.size, fun i hi hm =>
   (k.wrote.block i (Nat.lt_of_lt_of_le hi h.wrote.size) (fun hx => (h.sub i hx).elim hm (fun hg => by omega))).trans (h.wrote.block i hi hm)⟩,
 fun x hx => (k.sub x hx).elim (h.sub x) (fun hg => .inr (Nat.le_trans h.wrote.size hg))⟩
theorem Stp.below {F : List Nat} {a b : World} (h : Below a.heap.size a b) : Stp F F a b := ⟨Wrote.of_below h, fun _ h => .inl h⟩
theorem Stp.size {F F' : List Nat} {a b : World} (h : Stp F F' a b) : a.heap.size <= b.heap.size := h.wrote.size
theorem Stp.not {F F' : List Nat} {a b : World} (h : Stp F F' a b) {x : Nat} (hx : x ∉ F) (hl : x < a.heap.size) : x ∉ F' := fun hm => (h.sub x hm).elim hx (fun hg => by omega)
section
variable {P : Program} {w : World} {t e : TypeId} {z : Value} {size bytes : Nat}
theorem run_append2 (ty : TypeId) (E : ElemT P t e z size bytes) (hsz : 0 < size) (base : Nat) (v : Value) (n : Nat) (xs : List Value) (hown : w.ownsRow base e size v n xs)
  (a : Addr) (news : List Value) (hl : news.length = size) (hnews : ∀ j u, news[j]? = some u -> w.cell? (a.add j) = some u) (h1 : ∀ u ∈ news, u.oneCell' = true)
  (h63 : n < 100000000) (hbytes : (n + 1) * bytes <= 140737488355328) (hbase : base <= w.heap.size) :
  ∃ v' w', (Builtin.append_ #[t, t] ty #[v, .slice (some a) 1 1]).run P w = .ok v' w' /\ w'.ownsRow base e size v' (n + 1) (xs ++ news) /\ w.grownBy w' v.ownBlock /\ (∀ k, v'.ownBlock = some k -> v.ownBlock = some k \/ w.heap.size <= k) := by
 obtain ⟨i, hi, hz0, hz1, hz2⟩ := info_parts E.info
 have hl' : news.length = 1 * size := by omega
 have hm : n + 1 <= maxLen := by unfold maxLen; omega
 obtain ⟨v', w', hr, h2, h3, _⟩ := run_append_own (P := P) w base t ty e i z size bytes E.ht hi hz0 hz1 hz2 E.hzs hsz v n xs hown a 1 1 news hl' hnews h1 hm hbytes hbase
 refine ⟨v', w', hr, h2, h3, fun k hk => ?_⟩
 have hl2 : news.length = 1 * i.size := by rw [hz1]; exact hl'
 rcases hown.2 with ⟨rfl, rfl⟩ | ⟨g, cap, cur, rfl, hbg, hg, hnc, hcm, hcs, htake⟩
 ·have hr2 := run_append_nil (P := P) w t ty e i z E.ht hi hz0 a 1 1 news hl2 hnews (by omega) (by omega) (by rw [hz2]; simp at hbytes; omega)
  rw [hr] at hr2
  cases hr2
  simp [Value.ownBlock] at hk
  exact .inr (by omega)
 ·by_cases hroom : n + 1 <= cap
  ·have hfit : n * i.size + news.length <= cur.size := by rw [hl', hcs, hz1, <- Nat.add_mul]; exact Nat.mul_le_mul_right _ hroom
   have hr2 := run_append_room (P := P) w t ty e i E.ht hi g n cap cur hg a 1 1 news hl2 hnews h1 hroom hfit
   rw [hr] at hr2
   cases hr2
   exact .inl hk
  ·have holds : ∀ j u, xs[j]? = some u -> w.cell? ((⟨g, 0, none⟩ : Addr).add j) = some u := hown.cells (g := g) rfl
   have hr2 := run_append_grow (P := P) w t ty e i z E.ht hi hz0 ⟨g, 0, none⟩ n cap xs (by rw [hz1]; exact hown.1) holds a 1 1 news hl2 hnews (by omega) (by unfold maxLen at hm; omega) (growslice_fits (by omega) (by rw [hz2]; exact hbytes))
   rw [hr] at hr2
   cases hr2
   simp [Value.ownBlock] at hk
   exact .inr (by omega)
theorem append_grp {ops : Array Oper} {rest : List Oper} {o : Oper} {a : Act} {Q : Exit -> Act -> World -> Prop} (hgd : o.guard = none) (s x : Operand)
  (ho : o.op = .call { callee := .builtin .append, args := #[s, x], argTypes := #[t, t] }) (E : ElemT P t e z size bytes) (hsz : 0 < size)
  (base : Nat) (v : Value) (n : Nat) (xs : List Value) (hs : a.eval s = v) (hown : w.ownsRow base e size v n xs) (g : Nat) (news : List Value) (T : TypeId) (hx : a.eval x = .slice (some ⟨g, 0, none⟩) 1 1) (hg : Blk w g news.toArray T) (hl : news.length = size) (h1 : ∀ u ∈ news, u.oneCell' = true)
  (h63 : n < 100000000) (hbytes : (n + 1) * bytes <= 140737488355328) (hbase : base <= w.heap.size)
  (h : ∀ v' w', w'.ownsRow base e size v' (n + 1) (xs ++ news) -> w.grownBy w' v.ownBlock -> (∀ k, v'.ownBlock = some k -> v.ownBlock = some k \/ w.heap.size <= k) -> wpList P ops Q rest (a.put o.dst v') w') : wpList P ops Q (o :: rest) a w := by
 refine wpList_plain hgd fun K hK => ?_
 obtain ⟨v', w', hr, h2, h3, h4⟩ := run_append2 (P := P) (w := w) o.type E hsz base v n xs hown ⟨g, 0, none⟩ news hl (fun j u hj => by
  have := hg.cell j
  simp only [List.getElem?_toArray] at this
  rw [hj] at this
  by_cases h0 : j = 0
  ·subst h0; simpa [Addr.add] using this
  ·simpa [Addr.add, h0] using this) h1 h63 hbytes hbase
 unfold Oper.wp execOp
 simp only [ho, resolve, invoke, builtin, Sem.run_bind, Sem.run_pure, Result.andThen_ok, List.map_toArray, List.map_cons, List.map_nil, hs, hx, hr]
 exact hK _ _ (h v' w' h2 h3 h4)
end
/-! ### An outbox -/
structure PackV where
 kind : Int
 dup : Bool
 retain : Bool
 qos : Int
 topic : List UInt8
 body : List UInt8
 id : Int
def PackV.cells (p : PackV) : List Value := [.int .i64 p.kind, .bool p.dup, .bool p.retain, .int .i64 p.qos, .string ⟨p.topic.toArray⟩, .string ⟨p.body.toArray⟩, .int .i64 p.id, .string ⟨#[]⟩, .bool false, .int .i64 0, .bool false,
 .string ⟨#[]⟩, .string ⟨#[]⟩, .int .i64 0, .bool false, .bool false, .bool false, .string ⟨#[]⟩, .string ⟨#[]⟩, .bool false, .int .i64 0, .slice none 0 0, .slice none 0 0, .slice none 0 0]
structure ChangeV where
 drop : Bool
 row : RowV
def ChangeV.cells (c : ChangeV) : List Value := .bool c.drop :: c.row.vals.toList
structure OS where
 client : List UInt8
 window : Int
 room : Int
 seq : Int
 id : Int
 l : List RowV
def idsOf (l : List RowV) : List Nat := (l.filter fun r => decide (r.stage ≠ 1)).map fun r => r.id.toNat
structure OS.OK (s : OS) : Prop where
 win : 1 <= s.window /\ s.window <= 100
 room : s.room <= 1000 /\ (s.l.length : Int) <= s.room
 seq : 0 <= s.seq /\ s.seq <= 4611686018427387905
 id : 1 <= s.id /\ s.id <= 65535
 cl : s.client.length <= 23
 ids : ∀ r ∈ s.l, r.stage ≠ 1 -> 1 <= r.id /\ r.id <= 65535
 nodup : (idsOf s.l).Nodup
 under : ((idsOf s.l).length : Int) <= s.window
structure Lay where
 p : Nat
 ib : Nat
 sb : Nat
 vl : Value
 vp : Value
 vc : Value
 rb : List Nat
 W : Nat -> Nat
def Lay.foot (L : Lay) : List Nat := L.p :: L.ib :: L.sb :: (blk L.vl ++ blk L.vp ++ blk L.vc ++ L.rb)
def ptrs (rb : List Nat) : List Value := rb.map fun b => .pointer (some ⟨b, 0, none⟩)
def boxCells (L : Lay) (s : OS) : Array Value := #[.pointer (some ⟨L.ib, 0, none⟩), .string ⟨s.client.toArray⟩, .int .i64 s.window, .int .i64 s.room, .int .i64 s.seq, .int .i64 s.id, L.vl, L.vp, L.vc]
structure OB (w : World) (B : Nat) (L : Lay) (s : OS) (ps : List PackV) (cs : List ChangeV) : Prop where
 base : B <= w.heap.size
 box : Blk w L.p (boxCells L s) 313
 inb : Inb w L.ib L.sb 100 L.W
 set : SetIs L.W (idsOf s.l)
 rows : w.ownsRow 0 314 1 L.vl s.l.length (ptrs L.rb)
 len : L.rb.length = s.l.length
 cells : ∀ (i b : Nat) (r : RowV), L.rb[i]? = some b -> s.l[i]? = some r -> Blk w b r.vals 136
 nodup : L.rb.Nodup
 packs : w.ownsRow B 52 24 L.vp ps.length (ps.flatMap PackV.cells)
 chgs : w.ownsRow B 430 10 L.vc cs.length (cs.flatMap ChangeV.cells)
 tz : TzAt w
 gg : 1 ∉ L.foot
 ok : s.OK
theorem OB.below {w w' : World} {B : Nat} {L : Lay} {s : OS} {ps : List PackV} {cs : List ChangeV} (h : OB w B L s ps cs) (hb : Below w.heap.size w w') : OB w' B L s ps cs :=
 ⟨Nat.le_trans h.base hb.size, h.box.below hb, h.inb.below hb, h.set, ownsRow_below h.rows hb, h.len, fun i b r h1 h2 => (h.cells i b r h1 h2).below hb, h.nodup, ownsRow_below h.packs hb, ownsRow_below h.chgs hb, h.tz.below hb, h.gg, h.ok⟩
theorem OB.alloc {w : World} {B : Nat} {L : Lay} {s : OS} {ps : List PackV} {cs : List ChangeV} (h : OB w B L s ps cs) (o : Obj) : OB (w.alloc o) B L s ps cs := h.below ((Below.refl _ _).alloc (Nat.le_refl _) o)
theorem OB.drew {w : World} {B : Nat} {L : Lay} {s : OS} {ps : List PackV} {cs : List ChangeV} (h : OB w B L s ps cs) : OB w.drew B L s ps cs := h.below (Below.refl _ w).drew
theorem blk_lt {w : World} {base : Nat} {e : TypeId} {size : Nat} {v : Value} {n : Nat} {xs : List Value} (h : w.ownsRow base e size v n xs) {x : Nat} (hx : x ∈ blk v) : x < w.heap.size := (h.lt x (mem_blk.1 hx)).2
theorem OB.lt {w : World} {B : Nat} {L : Lay} {s : OS} {ps : List PackV} {cs : List ChangeV} (h : OB w B L s ps cs) : ∀ x ∈ L.foot, x < w.heap.size := by
 intro x hx
 simp only [Lay.foot, List.mem_cons, List.mem_append] at hx
 rcases hx with rfl | rfl | rfl | ((hx | hx) | hx) | hx
 ·exact h.box.lt
 ·exact h.inb.box.lt
 ·exact h.inb.set.lt
 ·exact blk_lt h.rows hx
 ·exact blk_lt h.packs hx
 ·exact blk_lt h.chgs hx
 ·obtain ⟨i, hi⟩ := List.getElem?_of_mem hx
  have hlt := (List.getElem?_eq_some_iff.1 hi).1
  rw [h.len] at hlt
  exact (h.cells i x _ hi (List.getElem?_eq_getElem hlt)).lt
end
section
theorem own_slice {w : World} {base : Nat} {e : TypeId} {size : Nat} {v : Value} {n : Nat} {xs : List Value} (h : w.ownsRow base e size v n xs) : ∃ a cap, v = .slice a n cap := by
 obtain ⟨_, ⟨rfl, rfl⟩ | ⟨g, cap, cur, rfl, _⟩⟩ := h
 ·exact ⟨_, _, rfl⟩
 ·exact ⟨_, _, rfl⟩
theorem ChangeV.one (c : ChangeV) : ∀ u ∈ c.cells, u.oneCell' = true := by simp [ChangeV.cells, RowV.vals, Value.oneCell']
theorem PackV.one (c : PackV) : ∀ u ∈ c.cells, u.oneCell' = true := by simp [PackV.cells, Value.oneCell']
end
section
def OS.session (s : OS) : RowV := ⟨1, s.client, s.seq, s.id, [], [], 0, false, 0⟩
def Lay.nil (L : Lay) : Lay := { L with vp := .slice none 0 0, vc := .slice none 0 0 }
theorem not_own {w : World} {base : Nat} {e : TypeId} {size : Nat} {v : Value} {n : Nat} {xs : List Value} (h : w.ownsRow base e size v n xs) {M : List Nat} {w' : World} (hw : Wrote M w w') (hM : ∀ x ∈ M, x ∉ blk v) : w'.ownsRow base e size v n xs := by
 obtain ⟨hl, hx | ⟨g, cap, cur, rfl, hg, hh, hx⟩⟩ := h
 ·exact ⟨hl, .inl hx⟩
 ·exact ⟨hl, .inr ⟨g, cap, cur, rfl, hg, (hw.block g (Array.getElem?_eq_some_iff.1 hh).1 (fun hm => hM g hm (by simp [blk, Value.ownBlock]))).trans hh, hx⟩⟩
theorem OB.out {w w' : World} {B : Nat} {L : Lay} {s : OS} {ps : List PackV} {cs : List ChangeV} (h : OB w B L s ps cs) {M : List Nat} (hw : Wrote M w w') (hM : ∀ x ∈ M, x ∉ L.foot) (hg : 1 ∉ M) : OB w' B L s ps cs := by
 have hm : ∀ x, x ∈ L.foot -> x ∉ M := fun x hx hm => hM x hm hx
 refine ⟨Nat.le_trans h.base hw.size, h.box.wrote hw (hm _ (by simp [Lay.foot])), h.inb.wrote hw (hm _ (by simp [Lay.foot])) (hm _ (by simp [Lay.foot])), h.set, not_own h.rows hw (fun x hx hb => hM x hx (by simp [Lay.foot, hb])), h.len, fun i b r h1 h2 => (h.cells i b r h1 h2).wrote hw (hm _ ?_), h.nodup,
  not_own h.packs hw (fun x hx hb => hM x hx (by simp [Lay.foot, hb])), not_own h.chgs hw (fun x hx hb => hM x hx (by simp [Lay.foot, hb])), h.tz.wrote hw hg, h.gg, h.ok⟩
 have := List.mem_of_getElem? h1
 simp [Lay.foot, this]
theorem OB.clear {w : World} {B : Nat} {L : Lay} {s : OS} {ps : List PackV} {cs : List ChangeV} (h : OB w B L s ps cs) :
  (∀ B', B' <= w.heap.size -> OB ((w.setCell ⟨L.p, 7, none⟩ (.slice none 0 0)).setCell ⟨L.p, 8, none⟩ (.slice none 0 0)) B' L.nil s [] []) /\
  Stp L.foot L.nil.foot w ((w.setCell ⟨L.p, 7, none⟩ (.slice none 0 0)).setCell ⟨L.p, 8, none⟩ (.slice none 0 0)) /\
  ((w.setCell ⟨L.p, 7, none⟩ (.slice none 0 0)).setCell ⟨L.p, 8, none⟩ (.slice none 0 0)).ownsRow B 52 24 L.vp ps.length (ps.flatMap PackV.cells) /\
  ((w.setCell ⟨L.p, 7, none⟩ (.slice none 0 0)).setCell ⟨L.p, 8, none⟩ (.slice none 0 0)).ownsRow B 430 10 L.vc cs.length (cs.flatMap ChangeV.cells) := by
 obtain ⟨p, ib, sb, vl, vp, vc, rb, W⟩ := L
 dsimp only
 have b1 := h.box.set 7 (.slice none 0 0)
 have b2 := b1.set 8 (.slice none 0 0)
 have t1 := WT.set h.box 7 (.slice none 0 0)
 have t2 := WT.set b1 8 (.slice none 0 0)
 dsimp only at b1 b2 t1 t2
 have hp : p ∈ (Lay.foot ⟨p, ib, sb, vl, vp, vc, rb, W⟩) := by simp [Lay.foot]
 have hst : Wrote (Lay.foot ⟨p, ib, sb, vl, vp, vc, rb, W⟩) w ((w.setCell ⟨p, 7, none⟩ (.slice none 0 0)).setCell ⟨p, 8, none⟩ (.slice none 0 0)) := (Wrote.setCell w ⟨p, 7, none⟩ hp _).trans (Wrote.setCell _ ⟨p, 8, none⟩ hp _)
 have hsub : ∀ x ∈ (Lay.nil ⟨p, ib, sb, vl, vp, vc, rb, W⟩).foot, x ∈ (Lay.foot ⟨p, ib, sb, vl, vp, vc, rb, W⟩) := by
  intro x hx
  simp [Lay.nil, Lay.foot, blk, Value.ownBlock] at hx ⊢
  rcases hx with hx | hx | hx | hx | hx <;> simp [hx]
 refine ⟨fun B' hB' => ⟨Nat.le_trans hB' hst.size, b2, ⟨(h.inb.box.wt t1 (by decide)).wt t2 (by decide), (h.inb.set.wt t1 (by decide)).wt t2 (by decide)⟩, h.set, row_wt (row_wt h.rows t1 (by decide)) t2 (by decide), h.len, fun i b r h1 h2 => ((h.cells i b r h1 h2).wt t1 (by decide)).wt t2 (by decide), h.nodup, World.ownsRow_nil _ _ _ _, World.ownsRow_nil _ _ _ _, h.tz.wrote hst h.gg, fun hx => h.gg (hsub _ hx), h.ok⟩,
  ⟨hst, fun x hx => .inl (hsub x hx)⟩, row_wt (row_wt h.packs t1 (by decide)) t2 (by decide), row_wt (row_wt h.chgs t1 (by decide)) t2 (by decide)⟩
theorem OB.rebase {w : World} {B : Nat} {L : Lay} {s : OS} (h : OB w B L.nil s [] []) {B' : Nat} (hB : B' <= w.heap.size) : OB w B' L.nil s [] [] :=
 ⟨hB, h.box, h.inb, h.set, h.rows, h.len, h.cells, h.nodup, World.ownsRow_nil _ _ _ _, World.ownsRow_nil _ _ _ _, h.tz, h.gg, h.ok⟩
end
section
structure DidAt (w w' : World) (L L' : Lay) (s' : OS) (vp vc : Value) (ps : List PackV) (cs : List ChangeV) : Prop where
 ob : OB w' w'.heap.size L' s' [] []
 nil : L'.vp = .slice none 0 0 /\ L'.vc = .slice none 0 0
 p : L'.p = L.p
 stp : Stp L.foot L'.foot w w'
 packs : w'.ownsRow w.heap.size 52 24 vp ps.length (ps.flatMap PackV.cells)
 chgs : w'.ownsRow w.heap.size 430 10 vc cs.length (cs.flatMap ChangeV.cells)
theorem idsOf_push (l : List RowV) (r : RowV) (h : r.stage = 1) : idsOf (l ++ [r]) = idsOf l := by simp [idsOf, h]
theorem OB.push {w w1 : World} {B : Nat} {L : Lay} {s : OS} {ps : List PackV} {cs : List ChangeV} (h : OB w B L s ps cs) (r : RowV) (b : Nat) (hb : Blk w b r.vals 136) (hnb : b ∉ L.foot) (hgb : b ≠ 1) (hst : r.stage = 1) (v' : Value)
  (r1 : w1.ownsRow 0 314 1 v' (s.l.length + 1) (ptrs L.rb ++ [.pointer (some ⟨b, 0, none⟩)])) (g1 : w.grownBy w1 L.vl.ownBlock) (n1 : ∀ k, v'.ownBlock = some k -> L.vl.ownBlock = some k \/ w.heap.size <= k)
  (hok : OS.OK { s with l := s.l ++ [r] }) :
  OB (w1.setCell ⟨L.p, 6, none⟩ v') B { L with vl := v', rb := L.rb ++ [b] } { s with l := s.l ++ [r] } ps cs /\ Wrote L.foot w (w1.setCell ⟨L.p, 6, none⟩ v') /\ (∀ x ∈ ({ L with vl := v', rb := L.rb ++ [b] } : Lay).foot, x ∈ L.foot \/ x = b \/ w.heap.size <= x) := by
 obtain ⟨p, ib, sb, vl, vp, vc, rb, W⟩ := L
 dsimp only at *
 have hw1 : WT 314 w w1 := WT.row h.rows g1
 have b1 := h.box.wt hw1 (by decide)
 have hw2 : WT 313 w1 (w1.setCell ⟨p, 6, none⟩ v') := WT.set b1 6 _
 have hst' : Wrote (Lay.foot ⟨p, ib, sb, vl, vp, vc, rb, W⟩) w (w1.setCell ⟨p, 6, none⟩ v') := by
  refine (Wrote.of_grown g1 (fun k hk => ?_)).trans (Wrote.setCell w1 _ (by simp [Lay.foot]) _)
  simp [Lay.foot, mem_blk, hk]
 have hsub : ∀ x ∈ Lay.foot ⟨p, ib, sb, v', vp, vc, rb ++ [b], W⟩, x ∈ Lay.foot ⟨p, ib, sb, vl, vp, vc, rb, W⟩ \/ x = b \/ w.heap.size <= x := by
  intro x hx
  simp only [Lay.foot, List.mem_cons, List.mem_append, mem_blk, List.mem_singleton, List.not_mem_nil, or_false] at hx ⊢
  have := n1 x
  rcases hx with hx | hx | hx | ((hx | hx) | hx) | hx | hx
  all_goals first | (simp [hx]; done) | (rcases this hx with h1 | h1 <;> simp [h1])
 refine ⟨⟨Nat.le_trans h.base hst'.size, b1.set 6 _, ⟨(h.inb.box.wt hw1 (by decide)).wt hw2 (by decide), (h.inb.set.wt hw1 (by decide)).wt hw2 (by decide)⟩, ?_, ?_, ?_, ?_, ?_, row_wt (row_wt h.packs hw1 (by decide)) hw2 (by decide), row_wt (row_wt h.chgs hw1 (by decide)) hw2 (by decide), h.tz.wrote hst' h.gg, ?_, hok⟩, hst', hsub⟩
 ·show SetIs W (idsOf (s.l ++ [r]))
  rw [idsOf_push _ _ hst]; exact h.set
 ·have := row_wt r1 hw2 (by decide)
  simpa [ptrs] using this
 ·simp [h.len]
 ·intro i b' r' h1 h2
  have hl := h.len
  dsimp only at hl h1 h2
  rcases Nat.lt_or_ge i s.l.length with hi | hi
  ·rw [List.getElem?_append_left (by omega)] at h1 h2
   exact ((h.cells i b' r' h1 h2).wt hw1 (by decide)).wt hw2 (by decide)
  ·rw [List.getElem?_append_right (by omega)] at h1 h2
   have e1 : i - s.l.length = 0 := by
    rcases Nat.eq_zero_or_pos (i - s.l.length) with h | h
    ·exact h
    ·rw [List.getElem?_eq_none (by simp; omega)] at h2; cases h2
   rw [e1] at h2
   rw [hl, e1] at h1
   simp at h1 h2
   subst h1 h2;exact (hb.wt hw1 (by decide)).wt hw2 (by decide)
 ·have hn : b ∉ rb := fun hm => hnb (by simp [Lay.foot, hm])
  show (rb ++ [b]).Nodup
  rw [List.nodup_append]
  refine ⟨h.nodup, by simp, fun a ha c hc => ?_⟩
  simp at hc
  subst hc;exact fun e => hn (e ▸ ha)
 ·intro hx
  rcases hsub _ hx with h1 | h1 | h1
  ·exact h.gg h1
  ·exact hgb h1.symm
  ·have := h.tz.lt; omega
end
section
def OS.row (s : OS) (topic body : List UInt8) (qos : Int) (retain : Bool) : RowV := ⟨3, s.client, s.seq, 0, topic, body, qos, retain, 1⟩
def OS.put (s : OS) (r : RowV) : OS := { s with l := s.l ++ [r], seq := s.seq + 1 }
theorem Blk.new_at (w : World) (cs : Array Value) (T : TypeId) (n : Nat) (h : w.heap.size = n) : Blk (w.alloc (.cells cs T)) n cs T := by subst h; exact Blk.new w cs T
end
section
section
variable {P : Program} {w : World}
theorem setRow_wrote (b : Nat) (cs : Array Value) : Wrote [b] w (w.setRow b cs) := ⟨rfl, rfl, rfl, by simp [World.setRow], fun k _ hk => setRow_other w b k cs (fun e => hk (by simp [e]))⟩
theorem run_store_whole (t T : TypeId) (n : Nat) (hs : ∀ w, (sizeOf t).run P w = .ok n w) {b : Nat} {cur cs : Array Value} (hb : Blk w b cur T) (h1 : cs.size = n) (h2 : cur.size = n) (ho1 : ∀ v ∈ cs.toList, v.oneCell' = true) :
  (Instr.storeAt t (.pointer (some ⟨b, 0, none⟩)) (.agg cs)).run P w = .ok () (w.setRow b cs) := by
 have hr := run_storeCells_at P b 0 T cs.toList 0 cur w hb (by simp; omega) ho1
 have e1 : (cur.toList.take (0 + 0) ++ cs.toList ++ cur.toList.drop (0 + 0 + cs.toList.length)).toArray = cs := by
  rw [List.drop_eq_nil_of_le (by simp; omega)]
  simp
 rw [e1] at hr
 have hc : (Value.agg cs).cells = cs := rfl
 simp [Instr.storeAt, Instr.sureAddr, storeVar, hs, hc, h1, hr]
theorem wp_store_whole {o : Oper} {a : Act} {K : Act -> World -> Prop} {Q : Exit -> Act -> World -> Prop} (t T : TypeId) (x y : Operand) (ho : o.op = .store t x y) (n : Nat) (hs : ∀ w, (sizeOf t).run P w = .ok n w) (b : Nat) (cur cs : Array Value)
  (hx : a.eval x = .pointer (some ⟨b, 0, none⟩)) (hy : a.eval y = .agg cs) (hb : Blk w b cur T) (h1 : cs.size = n) (h2 : cur.size = n) (ho1 : ∀ v ∈ cs.toList, v.oneCell' = true)
  (h : ∀ w', Blk w' b cs T -> Wrote [b] w w' -> K (a.put o.dst undef) w') : o.wp P a w K Q := by
 have hr := run_store_whole (P := P) t T n hs hb h1 h2 ho1
 unfold Oper.wp execOp
 simp only [ho, hx, hy, Sem.run_bind, hr, Result.andThen_ok, Sem.run_pure]
 simp only [Oper.upon]
 exact h _ (setRow_heap w b cur cs T (0, 0) hb) (setRow_wrote b cs)
theorem wW {o : Oper} {a : Act} {K : Act -> World -> Prop} {Q : Exit -> Act -> World -> Prop} (T : TypeId) (n : Nat) {x y : Operand} (ho : o.op = .store T x y) (b : Nat) (cur cs : Array Value)
  (hx : a.eval x = .pointer (some ⟨b, 0, none⟩)) (hy : a.eval y = .agg cs) (hb : Blk w b cur T) (h1 : cs.size = n) (h2 : cur.size = n) (ho1 : ∀ v ∈ cs.toList, v.oneCell' = true)
  (h : ∀ w', Blk w' b cs T -> Wrote [b] w w' -> K (a.put o.dst undef) w') (hs : ∀ w, (sizeOf T).run P w = .ok n w := by (intro w; kernel_rfl)) : o.wp P a w K Q := wp_store_whole T T x y ho n hs b cur cs hx hy hb h1 h2 ho1 h
theorem results_cell1 {fn : Func} {a : Tmp} {t : TypeId} (h : fn.results = #[.cell a t]) {tmps : Array Value} {p : Addr} (hp : tmps.getD a undef = .pointer (some p)) {v : Value} (hl : (loadVar t p).run P w = .ok v w) : (results fn tmps).run P w = .ok v w := by
 rw [Array.getD_eq_getD_getElem?] at hp
 simp [results, h, hp, asAddr, hl]
end
def RowV.pub (r : RowV) (dup : Bool) : PackV := ⟨3, dup, r.retain, r.qos, r.topic, r.body, r.id⟩
theorem wp_slice_one {P : Program} {o : Oper} {a : Act} {w : World} {K : Act -> World -> Prop} {Q : Exit -> Act -> World -> Prop} {t e : TypeId} {z : Value} {size bytes : Nat} (x : Operand) (ho : o.op = .buildSlice t 1 #[(0, x)]) (E : ElemT P t e z size bytes) (hs : 0 < size) (hs2 : size <= 100)
  (v : Value) (hx : a.eval x = v) (hv : v.cells.size = size) (h : K (a.put o.dst (.slice (some ⟨w.heap.size, 0, none⟩) 1 1)) (w.alloc (.cells v.cells e))) : o.wp P a w K Q := by
 obtain ⟨i, hi, hz0, hz1, hz2⟩ := info_parts E.info
 refine wp_buildSlice t e 1 #[(0, x)] ho v.cells i z E.ht hi hz0 (by rw [hz1]; omega) (by rw [hz1]; omega) ?_ h
 have hz3 := E.hzs
 have := Go.Great.fill_whole (s := size) hs [v] ((Array.range (1 * size)).map (z.cells[· % z.cells.size]!)) (by simp [hv]) (by simp)
 rw [hz1]
 simpa [hx] using this
end
end Go.Proofs.YtkghejaimhoboaaGreatDoor
