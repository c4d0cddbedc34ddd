/- Parts of the proof of SessionRows: contracts of functions that it reaches, and plain lemmas. No condition of their own. -/
import Derived.Test.YtoinabapaeebfaaGreatDoorPk38
import Derived.Test.YtoinabapaeebfaaGreatDoorPk10
import Derived.Test.YtoinabapaeebfaaGreatDoorPk16
import Derived.Test.YtoinabapaeebfaaGreatDoorPk15
import Derived.Test.YtoinabapaeebfaaGreatDoorPk20
import Derived.Deep.QuietTactic
import Derived.BigQuiet
set_option linter.unusedSimpArgs false
set_option linter.unusedVariables false
set_option maxRecDepth 100000
set_option maxHeartbeats 8000000
namespace Go.Proofs.YtoinabapaeebfaaGreatDoor
open Go.RowKit Go.Shelf
section
theorem idsOf_pushS (l : List RowV) (r : RowV) (h : r.stage ≠ 1) : (r.id.toNat :: idsOf l).Perm (idsOf (l ++ [r])) := by
 unfold idsOf
 rw [List.filter_append, List.map_append]
 simp only [List.filter_cons, h, ne_eq, not_false_eq_true, decide_true, if_true, List.filter_nil, List.map_cons, List.map_nil]
 exact (List.perm_append_singleton _ _).symm
theorem OB.pushS {w0 w w1 : World} {B : Nat} {L : Lay} {s : OS} {ps : List PackV} {cs : List ChangeV} (h : OB w0 B L s ps cs) (r : RowV) (b : Nat) (hb : Blk w b r.vals 33) (hnb : b ∉ L.foot) (hgb : b ≠ 1) (hst : r.stage ≠ 1) (hy : 1 <= r.id /\ r.id <= 65535)
  (hw0 : Wrote [L.sb] w0 w) (hin : Inb w L.ib L.sb 100 (tog L.W r.id.toNat)) (hnot : r.id.toNat ∉ idsOf s.l) (v' : Value)
  (r1 : w1.ownsRow 0 126 1 v' (s.l.length + 1) (ptrs L.rb ++ [.pointer (some ⟨b, 0, none⟩)])) (g1 : w.grownBy w1 L.vl.ownBlock) (n1 : ∀ k, v'.ownBlock = some k -> L.vl.ownBlock = some k \/ w.heap.size <= k)
  (hok : OS.OK { s with l := s.l ++ [r] }) :
  OB (w1.setCell ⟨L.p, 6, none⟩ v') B { L with vl := v', rb := L.rb ++ [b], W := tog L.W r.id.toNat } { s with l := s.l ++ [r] } ps cs /\ Wrote L.foot w0 (w1.setCell ⟨L.p, 6, none⟩ v') /\ (∀ x ∈ ({ L with vl := v', rb := L.rb ++ [b], W := tog L.W r.id.toNat } : Lay).foot, x ∈ L.foot \/ x = b \/ w.heap.size <= x) := by
 obtain ⟨p, ib, sb, vl, vp, vc, rb, W⟩ := L
 dsimp only at *
 have hbx0 : Blk w p (boxCells ⟨p, ib, sb, vl, vp, vc, rb, W⟩ s) 123 := h.box.wrote hw0 (by simp only [List.mem_singleton]; exact h.box.ne h.inb.set (by decide))
 have hrw : ∀ {base : Nat} {e : TypeId} {size : Nat} {v : Value} {n : Nat} {xs : List Value}, w0.ownsRow base e size v n xs -> e ≠ 181 -> w.ownsRow base e size v n xs := fun hx h2 => not_own hx hw0 fun x hm hbk => by
  simp only [List.mem_singleton] at hm
  subst hm;exact block_not_row h.inb.set (Ne.symm h2) hx (mem_blk.1 hbk).symm
 have hrows := hrw h.rows (by decide)
 have hw1 : WT 126 w w1 := WT.row hrows g1
 have b1 := hbx0.wt hw1 (by decide)
 have hw2 : WT 123 w1 (w1.setCell ⟨p, 6, none⟩ v') := WT.set b1 6 _
 have hst' : Wrote (Lay.foot ⟨p, ib, sb, vl, vp, vc, rb, W⟩) w0 (w1.setCell ⟨p, 6, none⟩ v') := by
  refine ((hw0.sub (by simp [Lay.foot])).trans (Wrote.of_grown g1 (fun k hk => ?_))).trans (Wrote.setCell w1 _ (by simp [Lay.foot]) _)
  simp [Lay.foot, mem_blk, hk]
 have hsub : ∀ x ∈ Lay.foot ⟨p, ib, sb, v', vp, vc, rb ++ [b], tog W r.id.toNat⟩, x ∈ Lay.foot ⟨p, ib, sb, vl, vp, vc, rb, W⟩ \/ x = b \/ w.heap.size <= x := by
  intro x hx
  simp only [Lay.foot, List.mem_cons, List.mem_append, mem_blk, List.mem_singleton, List.not_mem_nil, or_false] at hx ⊢
  have := n1 x
  rcases hx with hx | hx | hx | ((hx | hx) | hx) | hx | hx
  all_goals first | (simp [hx]; done) | (rcases this hx with h1 | h1 <;> simp [h1])
 refine ⟨⟨Nat.le_trans h.base hst'.size, b1.set 6 _, ⟨(hin.box.wt hw1 (by decide)).wt hw2 (by decide), (hin.set.wt hw1 (by decide)).wt hw2 (by decide)⟩, ?_, ?_, ?_, ?_, ?_, row_wt (row_wt (hrw h.packs (by decide)) hw1 (by decide)) hw2 (by decide), row_wt (row_wt (hrw h.chgs (by decide)) hw1 (by decide)) hw2 (by decide), h.tz.wrote hst' h.gg, ?_, hok⟩, hst', hsub⟩
 ·exact (h.set.come (by omega) hnot).perm (idsOf_pushS s.l r hst)
 ·have := row_wt r1 hw2 (by decide)
  simpa [ptrs] using this
 ·simp [h.len]
 ·intro i b' r' h1 h2
  have hl := h.len
  dsimp only at hl h1 h2
  rcases Nat.lt_or_ge i s.l.length with hi | hi
  ·rw [List.getElem?_append_left (by omega)] at h1 h2
   have hc := h.cells i b' r' h1 h2
   exact ((hc.wrote hw0 (by simp only [List.mem_singleton]; exact hc.ne h.inb.set (by decide))).wt hw1 (by decide)).wt hw2 (by decide)
  ·rw [List.getElem?_append_right (by omega)] at h1 h2
   have e1 : i - s.l.length = 0 := by
    rcases Nat.eq_zero_or_pos (i - s.l.length) with h | h
    ·exact h
    ·rw [List.getElem?_eq_none (by simp; omega)] at h2; cases h2
   rw [e1] at h2
   rw [hl, e1] at h1
   simp at h1 h2
   subst h1 h2;exact (hb.wt hw1 (by decide)).wt hw2 (by decide)
 ·have hn : b ∉ rb := fun hm => hnb (by simp [Lay.foot, hm])
  show (rb ++ [b]).Nodup
  rw [List.nodup_append]
  refine ⟨h.nodup, by simp, fun a ha c hc => ?_⟩
  simp at hc
  subst hc;exact fun e => hn (e ▸ ha)
 ·intro hx
  rcases hsub _ hx with h1 | h1 | h1
  ·exact h.gg h1
  ·exact hgb h1.symm
  ·have := h.tz.lt; have := hw0.size; omega
structure GoodRows (s : OS) : Prop where
 row : ∀ r ∈ s.l, r.kind = 3 /\ putMay r = true /\ stageOK r /\ r.client = s.client /\ r.seq < s.seq /\ r.topic.length <= 1000000
 ok : s.OK
 seqs : (s.l.map RowV.seq).Nodup
theorem idsOf_take (l : List RowV) (k : Nat) : (idsOf (l.take k)).Sublist (idsOf l) := ((List.take_sublist k l).filter _).map _
theorem OK_take {s : OS} (h : s.OK) (k : Nat) : OS.OK { s with l := s.l.take k } := by
 have h1 := (idsOf_take s.l k).length_le
 have h2 := h.under
 have h3 := h.room.2
 exact ⟨h.win, ⟨h.room.1, by simp; omega⟩, h.seq, h.id, h.cl, fun r hr => h.ids r (List.mem_of_mem_take hr), h.nodup.sublist (idsOf_take s.l k), by show ((idsOf (s.l.take k)).length : Int) <= s.window; omega⟩
theorem take_snocR {l : List RowV} {k : Nat} {r : RowV} (h : l[k]? = some r) : l.take (k + 1) = l.take k ++ [r] := by rw [List.take_add_one, h]; rfl
theorem idsOf_snoc (l : List RowV) (r : RowV) (h : r.stage ≠ 1) : (idsOf (l ++ [r])).length = (idsOf l).length + 1 := by
 have := (idsOf_pushS l r h).length_eq
 simpa using this.symm
end
section
structure OfI (w : World) (p : Nat) (s : OS) (sv : RowV) (k : Nat) (L : Lay) (W : World) : Prop where
 lp : L.p = p
 ob : OB W W.heap.size L { s with l := s.l.take k } [] []
 nil : L.vp = .slice none 0 0 /\ L.vc = .slice none 0 0
 stp : Stp [] L.foot w W
 sb : Blk W w.heap.size sv.vals 33
 sn : w.heap.size ∉ L.foot
 nl : k = 0 -> L.vl = .slice none 0 0
 pl : p < W.heap.size
theorem OfI.bel {w W : World} {p : Nat} {s : OS} {sv : RowV} {k : Nat} {L : Lay} (h : OfI w p s sv k L W) : Below w.heap.size w W := h.stp.wrote.below (Nat.le_refl _) (by simp)
theorem OfI.next {w W W' W'' : World} {p : Nat} {s : OS} {sv : RowV} {k b : Nat} {L L' : Lay} (h : OfI w p s sv k L W) (hb : Below W.heap.size W W') (hL : L'.p = L.p /\ L'.vp = L.vp /\ L'.vc = L.vc) (ho : OB W'' W.heap.size L' { s with l := s.l.take (k + 1) } [] []) (hw : Wrote L.foot W' W'')
  (hs : ∀ x ∈ L'.foot, x ∈ L.foot \/ x = b \/ W.heap.size <= x) (hbn : W.heap.size <= b) : OfI w p s sv (k + 1) L' W'' := by
 have hn : L'.vp = .slice none 0 0 /\ L'.vc = .slice none 0 0 := ⟨hL.2.1.trans h.nil.1, hL.2.2.trans h.nil.2⟩
 have hst : Stp L.foot L'.foot W W'' := ⟨(Wrote.of_below hb).trans hw, fun x hx => (hs x hx).imp id fun h1 => h1.elim (fun e => e ▸ hbn) id⟩
 exact ⟨hL.1.trans h.lp, ob_rebase2 ho hn, hn, h.stp.trans hst, h.sb.wrote hst.wrote h.sn, hst.not h.sn h.sb.lt, fun e => by omega, Nat.lt_of_lt_of_le h.pl hst.size⟩
theorem row_cellsO {W : World} {base e size n : Nat} {v : Value} {xs : List Value} (hr : W.ownsRow base e size v n xs) {b : Nat} (hb : b ∈ blk v) : ∃ cur, W.heap[b]? = some (.cells cur e (0, 0)) := by
 obtain ⟨_, ⟨rfl, _⟩ | ⟨g, cap, cur, rfl, _, hg, _⟩⟩ := hr
 ·simp [blk, Value.ownBlock] at hb
 ·simp [blk, Value.ownBlock] at hb
  subst hb;exact ⟨cur, hg⟩
theorem idsOf_perm {l l' : List RowV} (h : l.Perm l') : (idsOf l).Perm (idsOf l') := (h.filter _).map _
theorem zip_fst {rb : List Nat} {l : List RowV} (h : rb.length = l.length) : (rb.zip l).map Prod.fst = rb := by rw [List.map_fst_zip]; omega
theorem zip_snd {rb : List Nat} {l : List RowV} (h : rb.length = l.length) : (rb.zip l).map Prod.snd = l := by rw [List.map_snd_zip]; omega
theorem OB.resort {w w' : World} {B : Nat} {L : Lay} {s : OS} {ps : List PackV} {cs : List ChangeV} (h : OB w B L s ps cs) (g c : Nat) (hv : L.vl = .slice (some ⟨g, 0, none⟩) s.l.length c) (zs : List (Nat × RowV)) (hp : zs.Perm (L.rb.zip s.l)) (hw : Wrote [g] w w')
  (hr : w'.ownsRow 0 126 1 L.vl s.l.length (ptrs (zs.map Prod.fst))) : OB w' B { L with rb := zs.map Prod.fst } { s with l := zs.map Prod.snd } ps cs := by
 have hl := h.len
 have hgb : g ∈ blk L.vl := by rw [hv]; simp [blk, Value.ownBlock]
 have hgf : g ∈ L.foot := by simp [Lay.foot, hgb]
 have hgG : 1 ∉ [g] := by simp only [List.mem_singleton]; rintro h1; exact h.gg (h1 ▸ hgf)
 have p1 : (zs.map Prod.fst).Perm L.rb := by have := hp.map Prod.fst; rwa [zip_fst hl] at this
 have p2 : (zs.map Prod.snd).Perm s.l := by have := hp.map Prod.snd; rwa [zip_snd hl] at this
 have hlen : zs.length = s.l.length := by have := p2.length_eq; simpa using this
 have hn : ∀ {T : TypeId} {x : Nat} {c : Array Value}, Blk w x c T -> T ≠ 126 -> x ∉ [g] := fun hx h1 hm => by
  simp only [List.mem_singleton] at hm
  subst hm;exact block_not_row hx h1 h.rows (mem_blk.1 hgb).symm
 have hrw : ∀ {base : Nat} {e : TypeId} {size : Nat} {v : Value} {n : Nat} {xs : List Value}, w.ownsRow base e size v n xs -> e ≠ 126 -> w'.ownsRow base e size v n xs := fun hx h1 => not_own hx hw fun x hm hbk => by
  simp only [List.mem_singleton] at hm
  subst hm;obtain ⟨cur, hc⟩ := row_cellsO h.rows hgb
  exact block_not_row (f := (0, 0)) hc (Ne.symm h1) hx (mem_blk.1 hbk).symm
 refine ⟨Nat.le_trans h.base hw.size, h.box.wrote hw (hn h.box (by decide)), ⟨h.inb.box.wrote hw (hn h.inb.box (by decide)), h.inb.set.wrote hw (hn h.inb.set (by decide))⟩, h.set.perm (idsOf_perm p2.symm), ?_, by simp, ?_, p1.nodup_iff.2 h.nodup, hrw h.packs (by decide), hrw h.chgs (by decide), h.tz.wrote hw hgG, ?_, ?_⟩
 ·simpa [hlen] using hr
 ·intro i b r h1 h2
  dsimp only at h1 h2
  rw [List.getElem?_map] at h1 h2
  cases hz : zs[i]? with
  | none => rw [hz] at h1; cases h1
  | some z =>
   rw [hz] at h1 h2
   cases h1
   cases h2
   have hm := hp.mem_iff.1 (List.mem_of_getElem? hz)
   obtain ⟨j, hj⟩ := List.getElem?_of_mem hm
   rw [List.getElem?_zip_eq_some] at hj
   have hc := h.cells j z.1 z.2 hj.1 hj.2
   exact hc.wrote hw (hn hc (by decide))
 ·intro hx
  refine h.gg ?_
  simp only [Lay.foot, List.mem_cons, List.mem_append] at hx ⊢
  rcases hx with hx | hx | hx | hx | hx
  ·exact .inl hx
  ·exact .inr (.inl hx)
  ·exact .inr (.inr (.inl hx))
  ·exact .inr (.inr (.inr (.inl hx)))
  ·exact .inr (.inr (.inr (.inr (p1.mem_iff.1 hx))))
 ·have hok := h.ok
  exact ⟨hok.win, ⟨hok.room.1, by simp only [List.length_map, hlen]; exact hok.room.2⟩, hok.seq, hok.id, hok.cl, fun r hr => hok.ids r (p2.mem_iff.1 hr), (idsOf_perm p2).nodup_iff.2 hok.nodup, by have := (idsOf_perm p2).length_eq; show ((idsOf (zs.map Prod.snd)).length : Int) <= s.window; have := hok.under; omega⟩
theorem of_sort {w : World} {B : Nat} {L : Lay} {s : OS} (h : OB w B L s [] []) {n : Nat} (hn : s.l.length = n) {al : Option Addr} {c : Nat} (hv : L.vl = .slice al n c) (hz : n = 0 -> L.vl = .slice none 0 0) :
  Calls Tryz.prog 55 #[.slice al n c, .func (.func 56) #[] #[]] w fun e w' => e = .returned (.tuple #[]) /\ ∃ L' l',
   (L'.p = L.p /\ L'.vl = L.vl /\ L'.vp = L.vp /\ L'.vc = L.vc) /\ l'.Perm s.l /\ l'.Pairwise (fun a b => a.seq <= b.seq) /\ OB w' B L' { s with l := l' } [] [] /\ Wrote L.foot w w' /\ ∀ x ∈ L'.foot, x ∈ L.foot := by
 rcases Nat.eq_zero_or_pos n with h0 | h0
 ·subst h0
  have h1 := hz rfl
  rw [hv] at h1
  cases h1
  have hl0 : s.l = [] := List.eq_nil_of_length_eq_zero hn
  refine (sort_nil _ w).mono ?_
  rintro e w' ⟨he, rfl⟩
  exact ⟨he, L, s.l, ⟨rfl, rfl, rfl, rfl⟩, List.Perm.refl _, by rw [hl0]; exact List.Pairwise.nil, h, Wrote.refl _ _, fun x hx => hx⟩
 ·have hrows := h.rows
  rw [hv, hn] at hrows
  obtain ⟨_, _, he, hc⟩ := own_cell hrows
  have hlr := h.len
  obtain ⟨g, hg, -⟩ := hc 0 _ (List.getElem?_eq_getElem (by simp [ptrs]; omega))
  obtain ⟨rfl, rfl⟩ : al = _ /\ c = _ := by simpa using he
  subst hg;have hroom := h.ok.room
  refine (sort_rows w g c L.rb s.l n h0 (by omega) (by omega) hn hrows h.cells).mono ?_
  rintro e w' ⟨he, zs, hp, hs, hr, hw⟩
  have hv' : L.vl = .slice (some ⟨g, 0, none⟩) s.l.length c := by rw [hv, hn]
  have hgf : g ∈ L.foot := by rw [Lay.foot, hv]; simp [blk, Value.ownBlock]
  have p1 : (zs.map Prod.fst).Perm L.rb := by have := hp.map Prod.fst; rwa [zip_fst hlr] at this
  refine ⟨he, { L with rb := zs.map Prod.fst }, zs.map Prod.snd, ⟨rfl, rfl, rfl, rfl⟩, by have := hp.map Prod.snd; rwa [zip_snd hlr] at this, by rw [List.pairwise_map]; exact hs, h.resort g c hv' zs hp hw (by rw [hv, hn]; exact hr), hw.sub (by simpa using hgf), fun x hx => ?_⟩
  simp only [Lay.foot, List.mem_cons, List.mem_append] at hx ⊢
  rcases hx with hx | hx | hx | hx | hx
  ·exact .inl hx
  ·exact .inr (.inl hx)
  ·exact .inr (.inr (.inl hx))
  ·exact .inr (.inr (.inr (.inl hx)))
  ·exact .inr (.inr (.inr (.inr (p1.mem_iff.1 hx))))
theorem out_Of_rows (s : OS) (base : Nat) (va : Option Addr) (vc : Nat) (n : Nat) (w : World) (hT : TzAt w) (hG : GoodRows s) (hn : s.l.length = n) (hv : w.ownsRow base 33 9 (.slice va n vc) n (s.l.flatMap RowV.cl)) (hroom : 1 <= s.room) (hseq : s.seq <= 4611686018427387904) (hmay : sessMay (sessV s.client s.seq s.id) = true) :
  Calls Tryz.prog 13 #[.int .i64 s.window, .int .i64 s.room, .agg (sessV s.client s.seq s.id).vals, .slice va n vc] w fun e w' => ∃ L l', e = .returned (.tuple #[.pointer (some ⟨L.p, 0, none⟩), .int .i64 0]) /\
   l'.Perm s.l /\ l'.Pairwise (fun a b => a.seq <= b.seq) /\ OB w' w'.heap.size L { s with l := l' } [] [] /\ (L.vp = .slice none 0 0 /\ L.vc = .slice none 0 0) /\ Stp [] L.foot w w' := by
 obtain ⟨client, window, room, seq, id, rows⟩ := s
 dsimp only at *
 have hok := hG.ok
 have hw := hok.win
 have hr := hok.room
 have hi := hok.id
 have hcl := hok.cl
 have hs0 := hok.seq.1
 dsimp only at hw hr hi hcl hs0
 rw [hn] at hr
 have CK := hid fun w1 => rec_Check_sess client seq id w1 (by omega)
 rw [show sessMay ⟨1, client, seq, id, [], [], 0, false, 0⟩ = true from hmay] at CK
 have CI := hid fun w1 => in_New 100 w1 (by decide) (by decide)
 have hG := hid hG;have hV := hid hv;have hok := hid hok;clear hmay hv;unfold sessV RowV.vals at *
 dsimp only at CK ⊢
 have d1 : decide (window < 1) = false := decide_eq_false (by omega)
 have d2 : decide (100 < window) = false := decide_eq_false (by omega)
 have d3 : decide (room < 1) = false := decide_eq_false (by omega)
 have d4 : decide (1000 < room) = false := decide_eq_false (by omega)
 have d5 : decide (room < (n : Int)) = false := decide_eq_false (by omega)
 have d6 : decide (id < 1) = false := decide_eq_false (by omega)
 have d7 : decide (65535 < id) = false := decide_eq_false (by omega)
 have hn1000 : n <= 1000 := by omega
 have hn := hid hn;go_enter Tryz.func13, Tryz.ntmps13
 go_wp2
 refine wp_scope_straight ?_
 go_wp2_with fail
 refine (CI.out _).mono ?_
 rintro e w1 ⟨rfl, hin, hb1⟩
 simp only [World.size_alloc] at hin hb1 ⊢
 have hS1 := (Blk.new w #[.int .i64 1, .string ⟨client.toArray⟩, .int .i64 seq, .int .i64 id, .string ⟨#[]⟩, .string ⟨#[]⟩, .int .i64 0, .bool false, .int .i64 0] 33).below (by simpa using hb1)
 have s0 : w1.cell? ⟨w.heap.size, 0, none⟩ = some (.int .i64 1) := hS1.cell 0
 have s1 : w1.cell? ⟨w.heap.size, 1, none⟩ = some (.string ⟨client.toArray⟩) := hS1.cell 1
 have s2 : w1.cell? ⟨w.heap.size, 2, none⟩ = some (.int .i64 seq) := hS1.cell 2
 have s3 : w1.cell? ⟨w.heap.size, 3, none⟩ = some (.int .i64 id) := hS1.cell 3
 have s4 : w1.cell? ⟨w.heap.size, 4, none⟩ = some (.string ⟨#[]⟩) := hS1.cell 4
 have s5 : w1.cell? ⟨w.heap.size, 5, none⟩ = some (.string ⟨#[]⟩) := hS1.cell 5
 have s6 : w1.cell? ⟨w.heap.size, 6, none⟩ = some (.int .i64 0) := hS1.cell 6
 have s7 : w1.cell? ⟨w.heap.size, 7, none⟩ = some (.bool false) := hS1.cell 7
 have s8 : w1.cell? ⟨w.heap.size, 8, none⟩ = some (.int .i64 0) := hS1.cell 8
 have hin := hid hin;go_wp2_with fail
 refine (CK.out _).mono ?_
 rintro e w2 ⟨rfl, hb2⟩
 clear s0 s1 s2 s3 s4 s5 s6 s7 s8;have hS2 := hS1.below hb2
 have t1 : w2.cell? ⟨w.heap.size, 1, none⟩ = some (.string ⟨client.toArray⟩) := hS2.cell 1
 have t2 : w2.cell? ⟨w.heap.size, 2, none⟩ = some (.int .i64 seq) := hS2.cell 2
 have t3 : w2.cell? ⟨w.heap.size, 3, none⟩ = some (.int .i64 id) := hS2.cell 3
 go_wp2_with fail
 have hin2 := hid (hin.out.below hb2)
 have hB02 := hid (((Below.refl _ w).alloc (Nat.le_refl _) (.cells #[.int .i64 1, .string ⟨client.toArray⟩, .int .i64 seq, .int .i64 id, .string ⟨#[]⟩, .string ⟨#[]⟩, .int .i64 0, .bool false, .int .i64 0] 33)).trans ((hb1.mono (by omega)).trans (hb2.mono (by have := hb1.size; simp at this; omega))))
 have hz2 : w.heap.size + 3 <= w2.heap.size := by have := hin2.out.box.lt; omega
 refine wp_genW (fun W' => Below w2.heap.size w2 W' /\ Blk W' w2.heap.size #[.pointer (some ⟨w.heap.size + 1 + 1, 0, none⟩), .string ⟨client.toArray⟩, .int .i64 window, .int .i64 room, .int .i64 seq, .int .i64 id, .slice none 0 0, .slice none 0 0, .slice none 0 0] 123) ⟨(Below.refl _ w2).alloc (Nat.le_refl _) _, Blk.new w2 _ _⟩ ?_
 rintro w3 ⟨hb3, hbox3⟩
 have hB03 := hB02.out.trans (hb3.mono hB02.out.size)
 have hg := hT.lt
 have hI0 : Hid (OfI w w2.heap.size ⟨client, window, room, seq, id, rows⟩ ⟨1, client, seq, id, [], [], 0, false, 0⟩ 0 ⟨w2.heap.size, w.heap.size + 1 + 1, w.heap.size + 1, .slice none 0 0, .slice none 0 0, .slice none 0 0, [], fun _ => 0⟩ w3) := hid
  ⟨rfl, ⟨Nat.le_refl _, hbox3, hin2.out.below hb3, SetIs.nil, World.ownsRow_nil _ _ _ _, rfl, fun i b r h1 h2 => by simp at h1, List.nodup_nil, World.ownsRow_nil _ _ _ _, World.ownsRow_nil _ _ _ _, hT.below hB03, by
    simp only [Lay.foot, blk, Value.ownBlock, Option.toList_none, List.append_nil, List.mem_cons, List.not_mem_nil, or_false, not_or]; omega, OK_take hok.out 0⟩, ⟨rfl, rfl⟩, ⟨Wrote.of_below hB03, by
    intro x hx
    simp [Lay.foot, blk, Value.ownBlock] at hx
    right
    omega⟩, hS2.below hb3, by
    simp only [Lay.foot, blk, Value.ownBlock, Option.toList_none, List.append_nil, List.mem_cons, List.not_mem_nil, or_false, not_or]; omega, fun _ => rfl, hbox3.lt⟩
 obtain ⟨p, hp⟩ : ∃ p, w2.heap.size = p := ⟨_, rfl⟩
 have hi0 : Hid (((idsOf (rows.take 0)).length : Int) = 0) := hid rfl
 rw [hp] at hI0 ⊢
 have hp := hid hp;clear t1 t2 t3 hbox3 hb3 hS1 hS2 hin hin2;go_loopw [10, 73] (fun u i wr => ∃ (k : Nat) (L : Lay) (un : Int), u = .int .i64 un /\ i = .int .i64 k /\ k <= n /\ Hid (((idsOf (rows.take k)).length : Int) = un) /\ Hid (OfI w p ⟨client, window, room, seq, id, rows⟩ ⟨1, client, seq, id, [], [], 0, false, 0⟩ k L wr)) (fun _ i _ => n - (intOf i).toNat)
 case atStart => exact ⟨0, _, 0, rfl, rfl, Nat.zero_le _, hi0, hI0⟩
 case round =>
  obtain ⟨k, L, un, rfl, rfl, hk1, hun, hI⟩ := hrel
  rcases Nat.lt_or_ge k n with hlt | hge
  ·have dk : decide ((k : Int) < (n : Int)) = true := decide_eq_true (by omega)
   obtain ⟨r, hr'⟩ : ∃ r, rows[k]? = some r := ⟨_, List.getElem?_eq_getElem (by have := hn.out; omega)⟩
   obtain ⟨hkd, hpm, hso, hrc, hrs, hrt⟩ := hG.out.row r (List.mem_of_getElem? hr')
   dsimp only at hrc hrs
   obtain ⟨gv, hva, -, hrow⟩ := own_range RowV.cl RowV.cllen (l := rows) (n := n) hn.out (ownsRow_below hV.out hI.out.bel) (k := k) (x := r) hr'
   subst hva;have hsnoc := take_snocR hr'
   have CC := hid fun W => rec_Check_good r W hkd hpm hso (by rw [hrc]; omega) hrt
   obtain ⟨kind, rcl, rsq, rid, rtp, rbd, rqo, rrt, rst⟩ := r
   dsimp only at hkd hrc hrs hrow CC
   subst hkd hrc;unfold RowV.vals at CC
   have hrow := hid hrow;have hsnoc := hid hsnoc;have hso := hid hso;clear hpm hrt;have dge : decide (seq <= rsq) = false := decide_eq_false (by omega)
   have hSb := hI.out.sb
   have u1 : ∀ o, (wr.alloc o).cell? ⟨w.heap.size, 1, none⟩ = some (.string ⟨rcl.toArray⟩) := fun o => (hSb.alloc o).cell 1
   have hbA := hid ((Below.refl wr.heap.size wr).alloc (Nat.le_refl _) (.cells #[.int .i64 3, .string ⟨rcl.toArray⟩, .int .i64 rsq, .int .i64 rid, .string ⟨rtp.toArray⟩, .string ⟨rbd.toArray⟩, .int .i64 rqo, .bool rrt, .int .i64 rst] 33))
   have hSb := hid hSb;go_wp2_with (refine wpList_load_mid rfl 33 _ rfl gv (k * 9) rfl [.int .i64 3, .string ⟨rcl.toArray⟩, .int .i64 rsq, .int .i64 rid, .string ⟨rtp.toArray⟩, .string ⟨rbd.toArray⟩, .int .i64 rqo, .bool rrt, .int .i64 rst] _ hrow.out Tryz.underlying33 rfl (by kernel_rfl) ?_)
   refine (CC.out _).mono ?_
   rintro e w4 ⟨rfl, hb4⟩
   have hR4 := (Blk.new wr #[.int .i64 3, .string ⟨rcl.toArray⟩, .int .i64 rsq, .int .i64 rid, .string ⟨rtp.toArray⟩, .string ⟨rbd.toArray⟩, .int .i64 rqo, .bool rrt, .int .i64 rst] 33).below hb4
   have hB4 := hid (hbA.out.trans (hb4.mono hbA.out.size))
   have x1 : w4.cell? ⟨wr.heap.size, 1, none⟩ = some (.string ⟨rcl.toArray⟩) := hR4.cell 1
   have x2 : w4.cell? ⟨wr.heap.size, 2, none⟩ = some (.int .i64 rsq) := hR4.cell 2
   have x3 : w4.cell? ⟨wr.heap.size, 3, none⟩ = some (.int .i64 rid) := hR4.cell 3
   have x8 : w4.cell? ⟨wr.heap.size, 8, none⟩ = some (.int .i64 rst) := hR4.cell 8
   have hS4 := hSb.out.below hB4.out
   have y1 : w4.cell? ⟨w.heap.size, 1, none⟩ = some (.string ⟨rcl.toArray⟩) := hS4.cell 1
   have y2 : w4.cell? ⟨w.heap.size, 2, none⟩ = some (.int .i64 seq) := hS4.cell 2
   have HO4 := hid (hI.out.ob.below hB4.out)
   have hkl : (rows.take k).length = k := by rw [List.length_take]; have := hn.out; omega
   obtain ⟨al, cl2, hvl⟩ : ∃ a c, L.vl = .slice a k c := by
    obtain ⟨a, c, h⟩ := own_slice hI.out.ob.rows
    exact ⟨a, c, by rw [h]; simp only [hkl]⟩
   have HR4 : Hid (w4.ownsRow 0 126 1 (.slice al k cl2) k (ptrs L.rb)) := hid (by have := HO4.out.rows; rw [hvl] at this; simpa only [hkl] using this)
   have HB4 : Hid (Blk w4 p #[.pointer (some ⟨L.ib, 0, none⟩), .string ⟨rcl.toArray⟩, .int .i64 window, .int .i64 room, .int .i64 seq, .int .i64 id, .slice al k cl2, .slice none 0 0, .slice none 0 0] 123) := hid (by
    have := HO4.out.box
    unfold boxCells at this
    rw [hI.out.lp, hvl, hI.out.nil.1, hI.out.nil.2] at this
    exact this)
   have q0 : w4.cell? ⟨p, 0, none⟩ = some (.pointer (some ⟨L.ib, 0, none⟩)) := HB4.out.cell 0
   have q6 : w4.cell? ⟨p, 6, none⟩ = some (.slice al k cl2) := HB4.out.cell 6
   have hR4 := hid hR4;have hvl := hid hvl;have hkl := hid hkl;have hokn := hid (OK_take hok.out (k + 1))
   dsimp only at hokn
   rw [hsnoc.out] at hokn
   have hun1 := hun.out
   have hunb : 0 <= un /\ un <= 100 := by have h1 := (OK_take hok.out k).under; dsimp only at h1; omega
   clear hr' hSb hb4 hS4 u1;by_cases h1 : rst = 1
   ·subst h1
    have hun2 : Hid (((idsOf (rows.take (k + 1))).length : Int) = un) := hid (by rw [hsnoc.out, idsOf_push _ _ rfl]; exact hun.out)
    clear hun1;have HRx := hid (ownsRow_below HR4.out ((Below.refl w4.heap.size w4).alloc (Nat.le_refl _) (.cells #[.pointer (some ⟨wr.heap.size, 0, none⟩)] 126)))
    have HBx := hid (HB4.out.alloc (.cells #[.pointer (some ⟨wr.heap.size, 0, none⟩)] 126))
    go_wp2_with (
     at_builtin
     refine append_grp rfl _ _ rfl eRowP (by decide) 0 (.slice al k cl2) k (ptrs L.rb) rfl HRx.out (w4.heap.size) [.pointer (some ⟨wr.heap.size, 0, none⟩)] 126 rfl (Blk.new _ _ _) rfl (by simp [Value.oneCell']) (by omega) (by omega) (Nat.zero_le _) ?_
     intro v' w5 r5 g5 n5
     obtain ⟨a5, c5, rfl⟩ := own_slice r5
     have hwt : WT 126 _ w5 := WT.row HRx.out g5
     have hbx5 := HBx.out.wt hwt (by decide)
     have k6 : w5.cell? ⟨p, 6, none⟩ = some (.slice al k cl2) := hbx5.cell 6
     have z6 : w5.frozen? ⟨p, 6, none⟩ = false := hbx5.frozen 6
     have r5 := hid r5;have g5 := hid g5;have n5 := hid n5;have hbx5 := hid hbx5)
    go_roundw
    case rel =>
     have hbw := (Below.refl w4.heap.size w4).alloc (Nat.le_refl _) (.cells #[.pointer (some ⟨wr.heap.size, 0, none⟩)] 126)
     have h5 := r5.out
     have g5' := g5.out
     have n5' := n5.out
     rw [<- hvl.out] at g5' n5'
     have hrk := hkl.out
     obtain ⟨hP, hPw, hPs⟩ := (HO4.out.below hbw).push ⟨3, rcl, rsq, rid, rtp, rbd, rqo, rrt, 1⟩ wr.heap.size (hR4.out.below hbw) (fun hx => by have := hI.out.ob.lt _ hx; omega) (by have := hI.out.ob.tz.lt; omega) rfl (.slice a5 (k + 1) c5) (by dsimp only; rw [hrk]; exact h5) g5' n5' hokn.out
     rw [show (⟨L.p, 6, none⟩ : Addr) = ⟨p, 6, none⟩ by rw [hI.out.lp]] at hP hPw
     dsimp only at hP
     rw [<- hsnoc.out] at hP
     exact ⟨k + 1, { L with vl := .slice a5 (k + 1) c5, rb := L.rb ++ [wr.heap.size] }, un, rfl, by go_num, by omega, hun2, hid (hI.out.next (b := wr.heap.size) (hB4.out.trans (hbw.mono hB4.out.size)) ⟨rfl, rfl, rfl⟩ hP hPw (fun x hx => (hPs x hx).imp (fun h => h) fun h => h.imp (fun h => h) fun h2 => by have := hB4.out.size; simp at h2; omega) (Nat.le_refl _))⟩
    case measure => simp [intOf]; omega
   ·have d8 : (rst == 1) = false := by simpa using h1
    have hrid : 1 <= rid /\ rid <= 65535 := by
     rcases hso.out with h | h
     ·exact absurd h.1 h1
     ·exact h.1
    have hlen1 := idsOf_snoc (rows.take k) ⟨3, rcl, rsq, rid, rtp, rbd, rqo, rrt, rst⟩ h1
    have hperm := idsOf_pushS (rows.take k) ⟨3, rcl, rsq, rid, rtp, rbd, rqo, rrt, rst⟩ h1
    have hnot : Hid (rid.toNat ∉ idsOf (rows.take k)) := hid (List.nodup_cons.1 (hperm.nodup_iff.2 hokn.out.nodup)).1
    have hun3 : un + 1 <= window := by have := hokn.out.under; dsimp only at this; omega
    have hun2 : Hid (((idsOf (rows.take (k + 1))).length : Int) = un + 1) := hid (by rw [hsnoc.out]; omega)
    have dw : decide (window < un + 1) = false := decide_eq_false (by omega)
    have hHO5 : OB w4.drew wr.heap.size L _ [] [] := HO4.out.drew
    have hHO5 := hid hHO5;have CC2 := hid (in_Come L.ib L.sb 100 L.W (idsOf (rows.take k)) rid w4.drew hHO5.out.inb hHO5.out.set hHO5.out.tz hrid.1 hrid.2 (fun h => hHO5.out.gg (by simp [Lay.foot, <- h])) hnot.out (by omega))
    have q0' : w4.drew.cell? ⟨p, 0, none⟩ = some (.pointer (some ⟨L.ib, 0, none⟩)) := q0
    have x3' : w4.drew.cell? ⟨wr.heap.size, 3, none⟩ = some (.int .i64 rid) := x3
    have hRsb : Hid (L.sb ≠ wr.heap.size) := hid fun h => by have := hI.out.ob.inb.set.lt; omega
    have hpsb : Hid (L.sb ≠ p) := hid fun h => (hHO5.out.inb.set.ne hHO5.out.box (by decide)) (h.trans hI.out.lp.symm)
    clear hlen1 hperm hun1;go_wp2_with fail
    refine regionQ [(1000, fun w' => w'.cell? ⟨p, 0, none⟩ = some (.pointer (some ⟨L.ib, 0, none⟩))), (1000, fun w' => w'.cell? ⟨wr.heap.size, 3, none⟩ = some (.int .i64 rid))] (by kernel_rfl) ⟨q0', x3', trivial⟩ fun KQ hKQ => ?_
    refine tQ [0] ?_;refine nQ 1 ?_;refine tQ [2] ?_;refine loadQ 3 rfl (by kernel_rfl) (by kernel_rfl) rfl rfl 0 rfl (by kernel_rfl) (.pointer (some ⟨L.ib, 0, none⟩)) (fun w' hf => by (go_simp <;> with_reducible rfl)) ?_
    simp only [PT];refine tQ [4] ?_;refine loadQ 5 rfl (by kernel_rfl) (by kernel_rfl) rfl rfl 1 rfl (by kernel_rfl) (.int .i64 rid) (fun w' hf => by (go_simp <;> with_reducible rfl)) ?_
    simp only [PT];refine sQ 6 fun K hK => ?_;simp only [GO];go_simp;refine CC2.out.mono ?_
    rintro e w6 ⟨rfl, hi6, hw6⟩
    have hR6 : Blk w6 wr.heap.size #[.int .i64 3, .string ⟨rcl.toArray⟩, .int .i64 rsq, .int .i64 rid, .string ⟨rtp.toArray⟩, .string ⟨rbd.toArray⟩, .int .i64 rqo, .bool rrt, .int .i64 rst] 33 := Blk.wrote (show Blk w4.drew _ _ _ from hR4.out) hw6 (by have := hRsb.out; simp only [List.mem_singleton]; omega)
    have hB6 : Blk w6 p #[.pointer (some ⟨L.ib, 0, none⟩), .string ⟨rcl.toArray⟩, .int .i64 window, .int .i64 room, .int .i64 seq, .int .i64 id, .slice al k cl2, .slice none 0 0, .slice none 0 0] 123 := Blk.wrote (show Blk w4.drew _ _ _ from HB4.out) hw6 (by have := hpsb.out; simp only [List.mem_singleton]; omega)
    refine hK _ _ ⟨⟨fun _ => hB6.cell 0, fun _ => hR6.cell 3, trivial⟩, ?_⟩
    clear hK K;refine tQ [7, 8, 9, 10, 11] ?_;refine dQ (hKQ.out _ _ ?_);clear hKQ KQ;have q6 : w6.cell? ⟨p, 6, none⟩ = some (.slice al k cl2) := hB6.cell 6
    have hr6 := not_own (show w4.drew.ownsRow 0 126 1 (.slice al k cl2) k (ptrs L.rb) from HR4.out) hw6 (fun x hx hb => by
     simp only [List.mem_singleton] at hx
     subst hx;exact block_not_row hHO5.out.inb.set (by decide) HR4.out (mem_blk.1 hb).symm)
    have HRx := hid (ownsRow_below hr6 ((Below.refl w6.heap.size w6).alloc (Nat.le_refl _) (.cells #[.pointer (some ⟨wr.heap.size, 0, none⟩)] 126)))
    have HBx := hid (hB6.alloc (.cells #[.pointer (some ⟨wr.heap.size, 0, none⟩)] 126))
    have hi6 := hid hi6;have hw6 := hid hw6;have hR6 := hid hR6;have hd8 := hid h1;clear hr6 hB6 q0 q0' x1 x2 x3 x3' x8 y1 y2 h1
    go_wp2_with (
     at_builtin
     refine append_grp rfl _ _ rfl eRowP (by decide) 0 (.slice al k cl2) k (ptrs L.rb) rfl HRx.out (w6.heap.size) [.pointer (some ⟨wr.heap.size, 0, none⟩)] 126 rfl (Blk.new _ _ _) rfl (by simp [Value.oneCell']) (by omega) (by omega) (Nat.zero_le _) ?_
     intro v' w5 r5 g5 n5
     obtain ⟨a5, c5, rfl⟩ := own_slice r5
     have hwt : WT 126 _ w5 := WT.row HRx.out g5
     have hbx5 := HBx.out.wt hwt (by decide)
     have k6 : w5.cell? ⟨p, 6, none⟩ = some (.slice al k cl2) := hbx5.cell 6
     have z6 : w5.frozen? ⟨p, 6, none⟩ = false := hbx5.frozen 6
     have r5 := hid r5;have g5 := hid g5;have n5 := hid n5;have hbx5 := hid hbx5)
    go_roundw
    case rel =>
     have hbw := (Below.refl w6.heap.size w6).alloc (Nat.le_refl _) (.cells #[.pointer (some ⟨wr.heap.size, 0, none⟩)] 126)
     have h5 := r5.out
     have g5' := g5.out
     have n5' := n5.out
     rw [<- hvl.out] at g5' n5'
     have hrk := hkl.out
     obtain ⟨hP, hPw, hPs⟩ := hHO5.out.pushS ⟨3, rcl, rsq, rid, rtp, rbd, rqo, rrt, rst⟩ wr.heap.size (hR6.out.below hbw) (fun hx => by have := hI.out.ob.lt _ hx; omega) (by have := hI.out.ob.tz.lt; omega) hd8.out hrid (hw6.out.trans (Wrote.alloc _ _ _)) ⟨hi6.out.box.below hbw, hi6.out.set.below hbw⟩ hnot.out (.slice a5 (k + 1) c5) (by dsimp only; rw [hrk]; exact h5) g5' n5' hokn.out
     rw [show (⟨L.p, 6, none⟩ : Addr) = ⟨p, 6, none⟩ by rw [hI.out.lp]] at hP hPw
     dsimp only at hP
     rw [<- hsnoc.out] at hP
     exact ⟨k + 1, { L with vl := .slice a5 (k + 1) c5, rb := L.rb ++ [wr.heap.size], W := tog L.W rid.toNat }, un + 1, rfl, by go_num, by omega, hun2, hid (hI.out.next (b := wr.heap.size) (hB4.out.drew) ⟨rfl, rfl, rfl⟩ hP hPw (fun x hx => (hPs x hx).imp (fun h => h) fun h => h.imp (fun h => h) fun h2 => by have h3 := hB4.out.size; have h4 := hw6.out.size; simp at h2 h4; omega) (Nat.le_refl _))⟩
    case measure => simp [intOf]; omega
  ·obtain rfl : k = n := by omega
   have dk : decide ((k : Int) < (k : Int)) = false := by simp
   have htk : rows.take k = rows := List.take_of_length_le (by have := hn.out; omega)
   have hnl := hI.out.nl
   have HO : OB wr wr.heap.size L ⟨client, window, room, seq, id, rows⟩ [] [] := by have := hI.out.ob; dsimp only at this; rwa [htk] at this
   obtain ⟨al, cl2, hvl⟩ : ∃ a c, L.vl = .slice a k c := by
    obtain ⟨a, c, h⟩ := own_slice HO.rows
    exact ⟨a, c, by rw [h]; simp only [hn.out]⟩
   have CSort := hid (of_sort HO hn.out hvl hnl)
   have k6 : wr.cell? ⟨p, 6, none⟩ = some (.slice al k cl2) := by rw [<- hI.out.lp, <- hvl]; exact HO.box.cell 6
   have HO := hid HO;have hvl := hid hvl;clear hnl htk hun;go_wp2_with fail
   refine CSort.out.mono ?_
   rintro e w6 ⟨rfl, L', l', hpv, hpm, hpw, hob, hwr, hsub⟩
   have hnd : (l'.map RowV.seq).Nodup := (hpm.map RowV.seq).nodup_iff.2 hG.out.seqs
   have hll : l'.length = k := by rw [hpm.length_eq]; exact hn.out
   have k6' : w6.cell? ⟨p, 6, none⟩ = some (.slice al k cl2) := by
    rw [<- hI.out.lp, <- hpv.1, <- hvl.out, <- hpv.2.1]
    exact hob.box.cell 6
   have hstp := hid (hI.out.stp.trans ⟨hwr, fun x hx => .inl (hsub x hx)⟩)
   have hob := hid hob;have hpv := hid hpv;have hpm := hid hpm;have hpw := hid hpw;have hnd := hid hnd;have hll := hid hll;have hp6 : p < w6.heap.size := Nat.lt_of_lt_of_le hI.out.pl hwr.size
   clear k6 hwr hsub;go_wp2_with fail
   go_loopw [17] (fun i wr => ∃ (j : Nat), i = .int .i64 j /\ 1 <= j /\ j <= k + 1 /\ Hid (Below w6.heap.size w6 wr)) (fun i _ => k - (intOf i).toNat)
   case atStart => exact ⟨1, rfl, Nat.le_refl _, by omega, hid (Below.refl _ _)⟩
   case round =>
    obtain ⟨j, rfl, hj1, hj2, hbr⟩ := hrel
    have k6 : wr.cell? ⟨p, 6, none⟩ = some (.slice al k cl2) := (hbr.out.cell (p := ⟨p, 6, none⟩) hp6).trans k6'
    rcases Nat.lt_or_ge j k with hlt | hge
    ·have dj : decide ((j : Int) < (k : Int)) = true := decide_eq_true (by omega)
     obtain ⟨i, hi'⟩ : ∃ i, j = i + 1 := ⟨j - 1, by omega⟩
     have hji : (j : Int) - 1 = (i : Int) := by omega
     have din : i < k := by omega
     have hobr := hob.out.below hbr.out
     have hrows := hobr.rows
     rw [hpv.out.2.1, hvl.out] at hrows
     simp only [hll.out] at hrows
     obtain ⟨_, _, hve, hvc⟩ := own_cell hrows
     obtain ⟨rfl, rfl⟩ : al = _ /\ cl2 = _ := by simpa using hve
     have hrl : L'.rb.length = k := hobr.len.trans hll.out
     obtain ⟨b1, hb1⟩ : ∃ b, L'.rb[i]? = some b := ⟨_, List.getElem?_eq_getElem (by omega)⟩
     obtain ⟨b2, hb2⟩ : ∃ b, L'.rb[j]? = some b := ⟨_, List.getElem?_eq_getElem (by omega)⟩
     obtain ⟨r1, hr1⟩ : ∃ r, l'[i]? = some r := ⟨_, List.getElem?_eq_getElem (by have := hll.out; omega)⟩
     obtain ⟨r2, hr2⟩ : ∃ r, l'[j]? = some r := ⟨_, List.getElem?_eq_getElem (by have := hll.out; omega)⟩
     obtain ⟨g, hag, g1⟩ := hvc i (.pointer (some ⟨b1, 0, none⟩)) (by simp [ptrs, hb1])
     obtain ⟨g', hag', g2⟩ := hvc j (.pointer (some ⟨b2, 0, none⟩)) (by simp [ptrs, hb2])
     subst hag;simp only [Option.some.injEq, Addr.mk.injEq, and_true] at hag'
     obtain rfl := hag'
     have z1 : wr.cell? ⟨b1, 2, none⟩ = some (.int .i64 r1.seq) := (hobr.cells i b1 r1 hb1 hr1).cell 2
     have z2 : wr.cell? ⟨b2, 2, none⟩ = some (.int .i64 r2.seq) := (hobr.cells j b2 r2 hb2 hr2).cell 2
     have hne : (r1.seq == r2.seq) = false := by
      rw [beq_eq_false_iff_ne]
      intro he
      have e1 : (l'.map RowV.seq)[i]? = some r1.seq := by simp [hr1]
      have e2 : (l'.map RowV.seq)[j]? = some r2.seq := by simp [hr2]
      have := (List.getElem?_inj (List.getElem?_eq_some_iff.1 e1).1 hnd.out).1 (e1.trans (he ▸ e2.symm))
      omega
     obtain ⟨q1, hq1⟩ : ∃ q, r1.seq = q := ⟨_, rfl⟩
     obtain ⟨q2, hq2⟩ : ∃ q, r2.seq = q := ⟨_, rfl⟩
     rw [hq1] at z1 hne
     rw [hq2] at z2 hne
     clear hobr hrows hve hvc hrl hb1 hb2 hr1 hr2 hq1 hq2 hi';go_wp2_with fail
     go_quiet (fail)
     go_wp2_with fail
     go_roundw
     case rel => exact ⟨j + 1, by go_num, by omega, by omega, hid (hbr.out.trans ((below_drewN' wr nq).mono hbr.out.size))⟩
     case measure => simp [intOf]; omega
    ·have dj : decide ((j : Int) < (k : Int)) = false := decide_eq_false (by omega)
     go_wp2_with fail
     simp only [Exit.noGoto_ret]
     go_returns
     have hnl : L'.vp = .slice none 0 0 /\ L'.vc = .slice none 0 0 := ⟨hpv.out.2.2.1.trans hI.out.nil.1, hpv.out.2.2.2.trans hI.out.nil.2⟩
     refine ⟨L', l', ?_, hpm.out, hpw.out, ob_rebase2 (hob.out.below hbr.out) hnl, hnl, hstp.out.trans (Stp.below hbr.out)⟩
     rw [show L'.p = p from hpv.out.1.trans hI.out.lp]
     rfl
end
section
theorem sorted_eq : ∀ (l' l : List RowV), l'.Perm l -> l'.Pairwise (fun a b => a.seq <= b.seq) -> (l.map RowV.seq).Pairwise (· < ·) -> l' = l := by
 intro l'
 induction l' with
 | nil => intro l h _ _; exact h.nil_eq
 | cons x l' ih =>
  intro l h h1 h2
  cases l with
  | nil => have := h.length_eq; simp at this
  | cons y l =>
   rw [List.pairwise_cons] at h1
   rw [List.map_cons, List.pairwise_cons] at h2
   have hxy : x = y := by
    have hx : x ∈ y :: l := h.mem_iff.1 (List.mem_cons_self ..)
    rcases List.mem_cons.1 hx with he | hx
    ·exact he
    have hy : y ∈ x :: l' := h.mem_iff.2 (List.mem_cons_self ..)
    rcases List.mem_cons.1 hy with he | hy
    ·exact he.symm
    have e1 := h1.1 y hy
    have e2 := h2.1 x.seq (List.mem_map_of_mem hx)
    omega
   subst hxy;rw [ih l h.cons_inv h1.2 h2.2]
theorem out_Copy {w : World} {B : Nat} {L : Lay} {s : OS} (h : OB w B L s [] []) (hG : GoodRows s) (hs : (s.l.map RowV.seq).Pairwise (· < ·)) (hroom : 1 <= s.room) (hseq : s.seq <= 4611686018427387904) (hmay : sessMay (sessV s.client s.seq s.id) = true) :
  Calls Tryz.prog 17 #[.pointer (some ⟨L.p, 0, none⟩)] w fun e w' => ∃ L', e = .returned (.pointer (some ⟨L'.p, 0, none⟩)) /\
   OB w' w'.heap.size L' s [] [] /\ (L'.vp = .slice none 0 0 /\ L'.vc = .slice none 0 0) /\ Stp [] L'.foot w w' := by
 have CN := hid (out_none h)
 have k2 : w.cell? ⟨L.p, 2, none⟩ = some (.int .i64 s.window) := h.box.cell 2
 have k3 : w.cell? ⟨L.p, 3, none⟩ = some (.int .i64 s.room) := h.box.cell 3
 have H := hid h;go_enter Tryz.func17, Tryz.ntmps17
 go_wp2_with (go_at_call 58; refine CN.out.mono ?_; rintro e w1 ⟨rfl, rfl⟩)
 refine regionQ [(1000, fun w' => w'.cell? ⟨L.p, 2, none⟩ = some (.int .i64 s.window)), (1000, fun w' => w'.cell? ⟨L.p, 3, none⟩ = some (.int .i64 s.room))] (by kernel_rfl) ⟨k2, k3, trivial⟩ fun KQ hKQ => ?_
 refine tQ [0] ?_;refine nQ 1 ?_;refine tQ [2] ?_;refine lQ 3 0 ?_;refine tQ [4] ?_;refine nQ 5 ?_;refine tQ [6] ?_;refine lQ 7 1 ?_;refine tQ [8, 10] ?_;refine sQ 9 fun K hK => ?_;simp only [GO];go_simp;refine (out_Session H.out.drew).mono ?_
 rintro e w1 ⟨rfl, hb1⟩
 have H1 := hid (H.out.drew.below hb1)
 refine hK _ _ ⟨⟨fun _ => H1.out.box.cell 2, fun _ => H1.out.box.cell 3, trivial⟩, ?_⟩
 clear hK K;try simp only [PT]
 refine sQ 11 fun K hK => ?_;simp only [GO];go_simp;refine (out_Rows H1.out).mono ?_
 rintro e w2 ⟨v, rfl, hr, hb2⟩
 have H2 := hid (H1.out.below hb2)
 refine hK _ _ ⟨⟨fun _ => H2.out.box.cell 2, fun _ => H2.out.box.cell 3, trivial⟩, ?_⟩
 clear hK K;try simp only [PT]
 obtain ⟨va, vc, hva⟩ := own_slice hr
 subst hva;refine sQ 12 fun K hK => ?_;simp only [GO];go_simp;refine (out_Of_rows s w1.heap.size va vc s.l.length w2 H2.out.tz hG rfl hr hroom hseq hmay).mono ?_
 rintro e w3 ⟨L', l', rfl, hp, hso, ho, hnil, hst⟩
 obtain rfl := sorted_eq l' s.l hp hso hs
 have hb12 : Below w.heap.size w w2 := (((Below.refl _ w).drew).trans hb1).trans (hb2.mono (by have := hb1.size; simpa using this))
 have hS : Stp [] L'.foot w w3 := (Stp.below hb12).trans hst
 have H3 := hid (H2.out.below (hst.wrote.below (Nat.le_refl _) (by simp)))
 refine hK _ _ ⟨⟨fun _ => H3.out.box.cell 2, fun _ => H3.out.box.cell 3, trivial⟩, ?_⟩
 clear hK K;try simp only [PT]
 refine tQ [13, 14, 15, 16, 17] ?_;refine dQ (hKQ.out _ _ ?_);clear hKQ KQ;go_wp2
 go_ret
 exact ⟨L', rfl, ho, hnil, hS⟩
end
section
theorem PO.good {x0 x1 : Int} {c : List UInt8} {s : OS} (h : PO x0 x1 c s) (hok : s.OK) {l : List RowV} (hp : l.Perm s.l) : GoodRows { s with l := l } := by
 refine ⟨fun r hr => ?_, ⟨hok.win, ⟨hok.room.1, by have := hok.room.2; have := hp.length_eq; show (l.length : Int) <= s.room; omega⟩, hok.seq, hok.id, hok.cl, fun r hr => hok.ids r (hp.mem_iff.1 hr), (idsOf_perm hp).nodup_iff.2 hok.nodup, by have := (idsOf_perm hp).length_eq; have := hok.under; show ((idsOf l).length : Int) <= s.window; omega⟩, (hp.map RowV.seq).nodup_iff.2 h.wn.rg.nodup⟩
 have hm := hp.mem_iff.1 hr
 obtain ⟨g1, g2, g3, g4, g5⟩ := h.row r hm
 exact ⟨g1, g2, g3, g4.trans h.cl.symm, h.wn.rg.lt r hm, g5⟩
theorem out_Of_parted {x0 x1 : Int} {c : List UInt8} {s : OS} (h : PO x0 x1 c s) (hok : s.OK) (hx1 : 1 <= x1) (hq : s.seq <= 4611686018427387904) {l : List RowV} (hp : l.Perm s.l) (base : Nat) (va : Option Addr) (vc n : Nat) (w : World) (hT : TzAt w) (hn : l.length = n) (hv : w.ownsRow base 33 9 (.slice va n vc) n (l.flatMap RowV.cl)) :
  Calls Tryz.prog 13 #[.int .i64 x0, .int .i64 x1, .agg s.session.cl.toArray, .slice va n vc] w fun e w' => ∃ L, e = .returned (.tuple #[.pointer (some ⟨L.p, 0, none⟩), .int .i64 0]) /\
   OB w' w'.heap.size L s [] [] /\ (L.vp = .slice none 0 0 /\ L.vc = .slice none 0 0) /\ Stp [] L.foot w w' := by
 have hG := h.good hok hp
 have hw : s.window = x0 := h.wn.win
 have hr : s.room = x1 := h.wn.room
 have hm : sessMay (sessV s.client s.seq s.id) = true := by rw [h.cl]; exact sess_may h.may ⟨h.pos, hq⟩ h.id
 have := out_Of_rows { s with l := l } base va vc n w hT hG hn hv (by show 1 <= s.room; omega) hq hm
 dsimp only at this
 rw [hw, hr] at this
 refine Calls.mono (show Calls Tryz.prog 13 #[.int .i64 x0, .int .i64 x1, .agg s.session.cl.toArray, .slice va n vc] w _ from this) ?_
 rintro e w' ⟨L, l', he, hp2, hs, ho, hn2, hst⟩
 obtain rfl := sorted_eq l' s.l (hp2.trans hp) hs h.wn.rg.sorted
 exact ⟨L, he, by rw [<- hw, <- hr] at ho; exact ho, hn2, hst⟩
end
end Go.Proofs.YtoinabapaeebfaaGreatDoor
