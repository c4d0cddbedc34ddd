/- Is what was done the same? -/
import Derived.Test.YtodbdojjllabmaaGreatDoorPk31
namespace Go.Proofs.YtodbdojjllabmaaGreatDoor
open Go.RowKit Go.Shelf

theorem flat_get {α : Type} (f : α → List Value) (size : Nat) (hf : ∀ x, (f x).length = size) : ∀ (l : List α) (k j : Nat) (x : α), l[k]? = some x → j < size → (l.flatMap f)[k * size + j]? = (f x)[j]?
  | [], k, j, x, h, _ => by simp at h
  | y :: l, 0, j, x, h, hj => by
    simp only [List.getElem?_cons_zero, Option.some.injEq] at h
    subst h
    rw [List.flatMap_cons, Nat.zero_mul, Nat.zero_add, List.getElem?_append_left (by rw [hf]; exact hj)]
  | y :: l, k + 1, j, x, h, hj => by
    rw [List.getElem?_cons_succ] at h
    rw [List.flatMap_cons, List.getElem?_append_right (by rw [hf, Nat.add_mul]; omega), hf, show (k + 1) * size + j - size = k * size + j by rw [Nat.add_mul]; omega]
    exact flat_get f size hf l k j x h hj
theorem own_range {α : Type} (f : α → List Value) {size : Nat} (hf : ∀ x, (f x).length = size) {w : World} {base : Nat} {e : TypeId} {a : Option Addr} {cap : Nat} {l : List α} {n : Nat} (hn : l.length = n) (h : w.ownsRow base e size (.slice a n cap) n (l.flatMap f)) {k : Nat} {x : α} (hx : l[k]? = some x) :
    ∃ g, a = some ⟨g, 0, none⟩ ∧ n ≤ cap ∧ w.rangeAt g (k * size) (f x) := by
  have hk := (List.getElem?_eq_some_iff.1 hx).1
  have hc := fun g => h.cells (g := g)
  obtain ⟨_, ⟨he, h0⟩ | ⟨g, cap', cur, he, _, _, hn, _⟩⟩ := h
  · omega
  · cases he
    refine ⟨g, rfl, hn, fun j v hj => ?_⟩
    have hjs : j < size := by have := (List.getElem?_eq_some_iff.1 hj).1; rw [hf] at this; exact this
    have := hc g rfl (k * size + j) v (by rw [flat_get f size hf l k j x hx hjs]; exact hj)
    rw [Addr.add_mid, Nat.zero_add] at this
    exact this
theorem PackV.len (p : PackV) : p.cells.length = 24 := rfl
theorem ChangeV.len (c : ChangeV) : c.cells.length = 10 := rfl

theorem wp_world {P : Program} {c : Code} {Q : Exit → Act → World → Prop} {a : Act} {X W : World} (h : X = W) (hw : c.wp P Q a W) : c.wp P Q a X := h ▸ hw
set_option maxRecDepth 100000 in
set_option maxHeartbeats 2000000 in
theorem r_SameDid (ps qs : List PackV) (cs ds : List ChangeV) (a1 a2 a3 a4 : Option Addr) (k1 k2 k3 k4 : Nat) (w : World)
    (h1 : w.ownsRow 0 45 24 (.slice a1 ps.length k1) ps.length (ps.flatMap PackV.cells)) (h2 : w.ownsRow 0 90 10 (.slice a2 cs.length k2) cs.length (cs.flatMap ChangeV.cells))
    (h3 : w.ownsRow 0 45 24 (.slice a3 qs.length k3) qs.length (qs.flatMap PackV.cells)) (h4 : w.ownsRow 0 90 10 (.slice a4 ds.length k4) ds.length (ds.flatMap ChangeV.cells))
    (hc : cs.length = ds.length → cs = ds) (hps : ps.length ≤ 100000) (hcs : cs.length ≤ 100000) :
    Calls Tryz.prog 20 #[.agg #[.slice a1 ps.length k1, .slice a2 cs.length k2], .agg #[.slice a3 qs.length k3, .slice a4 ds.length k4]] w fun e w' => (∃ b, e = .returned (.bool b) ∧ (ps = qs → cs = ds → b = true)) ∧ Below w.heap.size w w' := by
  have bel : Below w.heap.size w ((w.alloc (.cells #[.slice a1 ps.length k1, .slice a2 cs.length k2] 34)).alloc (.cells #[.slice a3 qs.length k3, .slice a4 ds.length k4] 34)) := by
    repeat (first | exact Below.refl _ _ | (refine Below.setCell ?_ (by simp <;> omega) _) | (refine Below.alloc ?_ (by simp <;> omega) _) | refine Below.drew ?_)
  by_cases e1 : ps.length = qs.length
  · by_cases e2 : cs.length = ds.length
    · obtain rfl := hc e2
      rw [← e1] at h3 bel ⊢
      have H1 := hid h1; have H2 := hid h2; have H3 := hid h3; have H4 := hid h4
      have SA := hid r_Same_any
      have SR := hid r_Same_refl
      clear h1 h2 h3 h4 hc
      replace e1 := hid e1
      clear e2
      have z1 : ((ps.length : Int) != (ps.length : Int)) = false := by simp
      have z2 : ((cs.length : Int) != (cs.length : Int)) = false := by simp
      obtain ⟨W, hW⟩ : ∃ W, W = ((w.alloc (.cells #[.slice a1 ps.length k1, .slice a2 cs.length k2] 34)).alloc (.cells #[.slice a3 ps.length k3, .slice a4 cs.length k4] 34)) := ⟨_, rfl⟩
      rw [← hW] at bel
      have B1 : Blk W w.heap.size #[.slice a1 ps.length k1, .slice a2 cs.length k2] 34 := by rw [hW]; exact (Blk.new w _ _).alloc _
      have B2 : Blk W (w.heap.size + 1) #[.slice a3 ps.length k3, .slice a4 cs.length k4] 34 := by rw [hW]; exact Blk.new_at _ _ _ _ (by simp)
      have bel := hid bel
      have f0 : W.cell? ⟨w.heap.size, 0, none⟩ = some (.slice a1 ps.length k1) := B1.cell 0
      have f1 : W.cell? ⟨w.heap.size, 1, none⟩ = some (.slice a2 cs.length k2) := B1.cell 1
      have f2 : W.cell? ⟨w.heap.size + 1, 0, none⟩ = some (.slice a3 ps.length k3) := B2.cell 0
      have f3 : W.cell? ⟨w.heap.size + 1, 1, none⟩ = some (.slice a4 cs.length k4) := B2.cell 1
      have B1 := hid B1; have B2 := hid B2
      go_enter Tryz.func20, Tryz.ntmps20
      go_upto_region 1 with (fail)
      refine wp_world hW.symm ?_
      clear hW
      go_wp2
      go_loopw [5] (fun i wr => ∃ k : Nat, i = .int .i64 k ∧ k ≤ ps.length ∧ Hid (Below W.heap.size W wr)) (fun i _ => ps.length - (intOf i).toNat)
      case atStart => exact ⟨0, rfl, Nat.zero_le _, hid (Below.refl _ _)⟩
      case round =>
        obtain ⟨k, rfl, hk, hb⟩ := hrel
        have g0 : wr.cell? ⟨w.heap.size, 0, none⟩ = some (.slice a1 ps.length k1) := (B1.out.below hb.out).cell 0
        have g2 : wr.cell? ⟨w.heap.size + 1, 0, none⟩ = some (.slice a3 ps.length k3) := (B2.out.below hb.out).cell 0
        rcases Nat.lt_or_ge k ps.length with hlt | hge
        · have dk : decide ((k : Int) < (ps.length : Int)) = true := decide_eq_true (by omega)
          obtain ⟨p, hp⟩ : ∃ p, ps[k]? = some p := ⟨_, List.getElem?_eq_getElem hlt⟩
          obtain ⟨q, hq⟩ : ∃ q, qs[k]? = some q := ⟨_, List.getElem?_eq_getElem (by have := e1.out; omega)⟩
          have hbw := hid (bel.out.trans (hb.out.mono bel.out.size))
          obtain ⟨ga, rfl, la, ra⟩ := own_range PackV.cells PackV.len rfl (ownsRow_below H1.out hbw.out) hp
          obtain ⟨gb, rfl, lb, rb⟩ := own_range PackV.cells PackV.len e1.out.symm (ownsRow_below H3.out hbw.out) hq
          by_cases hpq : p = q
          · subst hpq
            have CALL := hid fun w => (r_Same_refl p w)
            have hp := hid hp; have hq := hid hq
            have ra := hid ra; have rb := hid rb
            go_wp2_with fail
            have g0 := hid g0; have g2 := hid g2
            refine regionQ [(10, fun w' => w'.cell? ⟨w.heap.size, 0, none⟩ = some (.slice (some ⟨ga, 0, none⟩) ps.length k1)), (10, fun w' => w'.cell? ⟨w.heap.size + 1, 0, none⟩ = some (.slice (some ⟨gb, 0, none⟩) ps.length k3)), (10, fun w' => w'.rangeAt ga (k * 24) p.cells), (10, fun w' => w'.rangeAt gb (k * 24) p.cells)] (by kernel_rfl) ⟨g0.out, g2.out, ra.out, rb.out, trivial⟩ fun KQ hKQ => ?_
            refine takeQ 0 rfl (by kernel_rfl) rfl (by kernel_rfl) fun K hK => ?_
            simp only [List.getElem_toArray, List.getElem_cons_zero, List.getElem_cons_succ]
            go_big_quiet_op
            refine hK _ ?_
            clear hK K
            refine loadT 1 rfl (by kernel_rfl) (by kernel_rfl) rfl rfl 0 rfl (by kernel_rfl) _ (fun w' hf => by (go_simp <;> with_reducible rfl)) ?_
            simp only [Act.put, List.getElem_toArray, List.getElem_cons_zero, List.getElem_cons_succ, List.setIfInBounds_toArray, List.set_cons_zero, List.set_cons_succ]
            refine takeQ 2 rfl (by kernel_rfl) rfl (by kernel_rfl) fun K hK => ?_
            simp only [List.getElem_toArray, List.getElem_cons_zero, List.getElem_cons_succ]
            go_big_quiet_op
            refine hK _ ?_
            clear hK K
            refine takeQ 3 rfl (by kernel_rfl) rfl (by kernel_rfl) fun K hK => ?_
            simp only [List.getElem_toArray, List.getElem_cons_zero, List.getElem_cons_succ]
            go_big_quiet_op
            refine hK _ ?_
            clear hK K
            refine loadQ 4 rfl (by kernel_rfl) (by kernel_rfl) rfl rfl 2 rfl (by kernel_rfl) (.agg (p.cells : List Value).toArray) (fun w' hf => run_loadAt_mid w' _ _ 45 (p.cells : List Value) _ hf Tryz.underlying45 rfl (by kernel_rfl)) ?_
            simp only [Act.put, List.getElem_toArray, List.getElem_cons_zero, List.getElem_cons_succ, List.setIfInBounds_toArray, List.set_cons_zero, List.set_cons_succ]
            refine takeQ 5 rfl (by kernel_rfl) rfl (by kernel_rfl) fun K hK => ?_
            simp only [List.getElem_toArray, List.getElem_cons_zero, List.getElem_cons_succ]
            go_big_quiet_op
            refine hK _ ?_
            clear hK K
            refine loadT 6 rfl (by kernel_rfl) (by kernel_rfl) rfl rfl 1 rfl (by kernel_rfl) _ (fun w' hf => by (go_simp <;> with_reducible rfl)) ?_
            simp only [Act.put, List.getElem_toArray, List.getElem_cons_zero, List.getElem_cons_succ, List.setIfInBounds_toArray, List.set_cons_zero, List.set_cons_succ]
            refine takeQ 7 rfl (by kernel_rfl) rfl (by kernel_rfl) fun K hK => ?_
            simp only [List.getElem_toArray, List.getElem_cons_zero, List.getElem_cons_succ]
            go_big_quiet_op
            refine hK _ ?_
            clear hK K
            refine takeQ 8 rfl (by kernel_rfl) rfl (by kernel_rfl) fun K hK => ?_
            simp only [List.getElem_toArray, List.getElem_cons_zero, List.getElem_cons_succ]
            go_big_quiet_op
            refine hK _ ?_
            clear hK K
            refine loadQ 9 rfl (by kernel_rfl) (by kernel_rfl) rfl rfl 3 rfl (by kernel_rfl) (.agg (p.cells : List Value).toArray) (fun w' hf => run_loadAt_mid w' _ _ 45 (p.cells : List Value) _ hf Tryz.underlying45 rfl (by kernel_rfl)) ?_
            simp only [Act.put, List.getElem_toArray, List.getElem_cons_zero, List.getElem_cons_succ, List.setIfInBounds_toArray, List.set_cons_zero, List.set_cons_succ]
            have hp := hp.out; have hq := hq.out
            refine stepQ 10 rfl (by kernel_rfl) (by decide) (by kernel_rfl) fun K hK => ?_
            simp only [List.getElem_toArray, List.getElem_cons_zero, List.getElem_cons_succ]
            go_simp
            refine (CALL.out _).mono ?_
            rintro e w1 ⟨rfl, hb1⟩
            have hb2 := hid (hb.out.drew.trans (hb1.mono hb.out.drew.size))
            refine hK _ _ ⟨⟨fun h => (by simp at h), fun h => (by simp at h), fun h => (by simp at h), fun h => (by simp at h), trivial⟩, ?_⟩
            clear hK K
            refine takeQ 11 rfl (by kernel_rfl) rfl (by kernel_rfl) fun K hK => ?_
            simp only [List.getElem_toArray, List.getElem_cons_zero, List.getElem_cons_succ]
            go_big_quiet_op
            refine hK _ ?_
            clear hK K
            refine doneQ (by kernel_rfl) (hKQ.out _ _ ?_)
            clear hKQ KQ
            go_wp2
            go_roundw
            case rel => exact ⟨k + 1, by go_num, by omega, hb2⟩
            case measure => simp [intOf]; omega
          · have hpq := hid hpq
            have CALL := hid fun w => (r_Same_any p q w)
            have hp := hid hp; have hq := hid hq
            have ra := hid ra; have rb := hid rb
            go_wp2_with fail
            have g0 := hid g0; have g2 := hid g2
            refine regionQ [(10, fun w' => w'.cell? ⟨w.heap.size, 0, none⟩ = some (.slice (some ⟨ga, 0, none⟩) ps.length k1)), (10, fun w' => w'.cell? ⟨w.heap.size + 1, 0, none⟩ = some (.slice (some ⟨gb, 0, none⟩) ps.length k3)), (10, fun w' => w'.rangeAt ga (k * 24) p.cells), (10, fun w' => w'.rangeAt gb (k * 24) q.cells)] (by kernel_rfl) ⟨g0.out, g2.out, ra.out, rb.out, trivial⟩ fun KQ hKQ => ?_
            refine takeQ 0 rfl (by kernel_rfl) rfl (by kernel_rfl) fun K hK => ?_
            simp only [List.getElem_toArray, List.getElem_cons_zero, List.getElem_cons_succ]
            go_big_quiet_op
            refine hK _ ?_
            clear hK K
            refine loadT 1 rfl (by kernel_rfl) (by kernel_rfl) rfl rfl 0 rfl (by kernel_rfl) _ (fun w' hf => by (go_simp <;> with_reducible rfl)) ?_
            simp only [Act.put, List.getElem_toArray, List.getElem_cons_zero, List.getElem_cons_succ, List.setIfInBounds_toArray, List.set_cons_zero, List.set_cons_succ]
            refine takeQ 2 rfl (by kernel_rfl) rfl (by kernel_rfl) fun K hK => ?_
            simp only [List.getElem_toArray, List.getElem_cons_zero, List.getElem_cons_succ]
            go_big_quiet_op
            refine hK _ ?_
            clear hK K
            refine takeQ 3 rfl (by kernel_rfl) rfl (by kernel_rfl) fun K hK => ?_
            simp only [List.getElem_toArray, List.getElem_cons_zero, List.getElem_cons_succ]
            go_big_quiet_op
            refine hK _ ?_
            clear hK K
            refine loadQ 4 rfl (by kernel_rfl) (by kernel_rfl) rfl rfl 2 rfl (by kernel_rfl) (.agg (p.cells : List Value).toArray) (fun w' hf => run_loadAt_mid w' _ _ 45 (p.cells : List Value) _ hf Tryz.underlying45 rfl (by kernel_rfl)) ?_
            simp only [Act.put, List.getElem_toArray, List.getElem_cons_zero, List.getElem_cons_succ, List.setIfInBounds_toArray, List.set_cons_zero, List.set_cons_succ]
            refine takeQ 5 rfl (by kernel_rfl) rfl (by kernel_rfl) fun K hK => ?_
            simp only [List.getElem_toArray, List.getElem_cons_zero, List.getElem_cons_succ]
            go_big_quiet_op
            refine hK _ ?_
            clear hK K
            refine loadT 6 rfl (by kernel_rfl) (by kernel_rfl) rfl rfl 1 rfl (by kernel_rfl) _ (fun w' hf => by (go_simp <;> with_reducible rfl)) ?_
            simp only [Act.put, List.getElem_toArray, List.getElem_cons_zero, List.getElem_cons_succ, List.setIfInBounds_toArray, List.set_cons_zero, List.set_cons_succ]
            refine takeQ 7 rfl (by kernel_rfl) rfl (by kernel_rfl) fun K hK => ?_
            simp only [List.getElem_toArray, List.getElem_cons_zero, List.getElem_cons_succ]
            go_big_quiet_op
            refine hK _ ?_
            clear hK K
            refine takeQ 8 rfl (by kernel_rfl) rfl (by kernel_rfl) fun K hK => ?_
            simp only [List.getElem_toArray, List.getElem_cons_zero, List.getElem_cons_succ]
            go_big_quiet_op
            refine hK _ ?_
            clear hK K
            refine loadQ 9 rfl (by kernel_rfl) (by kernel_rfl) rfl rfl 3 rfl (by kernel_rfl) (.agg (q.cells : List Value).toArray) (fun w' hf => run_loadAt_mid w' _ _ 45 (q.cells : List Value) _ hf Tryz.underlying45 rfl (by kernel_rfl)) ?_
            simp only [Act.put, List.getElem_toArray, List.getElem_cons_zero, List.getElem_cons_succ, List.setIfInBounds_toArray, List.set_cons_zero, List.set_cons_succ]
            have hp := hp.out; have hq := hq.out
            refine stepQ 10 rfl (by kernel_rfl) (by decide) (by kernel_rfl) fun K hK => ?_
            simp only [List.getElem_toArray, List.getElem_cons_zero, List.getElem_cons_succ]
            go_simp
            refine (CALL.out _).mono ?_
            rintro e w1 ⟨⟨b, rfl⟩, hb1⟩
            have hb2 := hid (hb.out.drew.trans (hb1.mono hb.out.drew.size))
            refine hK _ _ ⟨⟨fun h => (by simp at h), fun h => (by simp at h), fun h => (by simp at h), fun h => (by simp at h), trivial⟩, ?_⟩
            clear hK K
            cases b with
            | true =>
              refine takeQ 11 rfl (by kernel_rfl) rfl (by kernel_rfl) fun K hK => ?_
              simp only [List.getElem_toArray, List.getElem_cons_zero, List.getElem_cons_succ]
              go_big_quiet_op
              refine hK _ ?_
              clear hK K
              refine doneQ (by kernel_rfl) (hKQ.out _ _ ?_)
              clear hKQ KQ
              go_wp2
              go_roundw
              case rel => exact ⟨k + 1, by go_num, by omega, hb2⟩
              case measure => simp [intOf]; omega
            | false =>
              refine takeQ 11 rfl (by kernel_rfl) rfl (by kernel_rfl) fun K hK => ?_
              simp only [List.getElem_toArray, List.getElem_cons_zero, List.getElem_cons_succ]
              go_big_quiet_op
              refine hK _ ?_
              clear hK K
              refine doneQ (by kernel_rfl) (hKQ.out _ _ ?_)
              clear hKQ KQ
              go_wp2
              go_ret
              refine ⟨⟨false, rfl, fun h _ => ?_⟩, bel.out.trans (hb2.out.mono bel.out.size)⟩
              subst h
              rw [hp] at hq
              exact absurd (Option.some.inj hq) hpq.out
        · obtain rfl : k = ps.length := by omega
          have dk : decide ((ps.length : Int) < (ps.length : Int)) = false := by simp
          have hb0 := hid (bel.out.trans (hb.out.mono bel.out.size))
          have B1 := hid (B1.out.below hb.out); have B2 := hid (B2.out.below hb.out)
          clear hb f0 f1 f2 f3 hk
          go_wp2_with fail
          clear g0 g2
          go_loopw [6] (fun i w1 => ∃ k : Nat, i = .int .i64 k ∧ k ≤ cs.length ∧ Hid (Below w.heap.size w w1) ∧ Hid (Blk w1 w.heap.size #[.slice a1 ps.length k1, .slice a2 cs.length k2] 34) ∧ Hid (Blk w1 (w.heap.size + 1) #[.slice a3 ps.length k3, .slice a4 cs.length k4] 34)) (fun i _ => cs.length - (intOf i).toNat)
          case atStart => exact ⟨0, rfl, Nat.zero_le _, hb0, B1, B2⟩
          case round =>
            clear hb0 B1 B2
            obtain ⟨k, rfl, hk, hb0, B1, B2⟩ := hrel
            have g1 : wr.cell? ⟨w.heap.size, 1, none⟩ = some (.slice a2 cs.length k2) := B1.out.cell 1
            have g3 : wr.cell? ⟨w.heap.size + 1, 1, none⟩ = some (.slice a4 cs.length k4) := B2.out.cell 1
            rcases Nat.lt_or_ge k cs.length with hlt | hge
            · have dk : decide ((k : Int) < (cs.length : Int)) = true := decide_eq_true (by omega)
              obtain ⟨p, hp⟩ : ∃ p, cs[k]? = some p := ⟨_, List.getElem?_eq_getElem hlt⟩
              obtain ⟨ga, rfl, la, ra⟩ := own_range ChangeV.cells ChangeV.len rfl (ownsRow_below H2.out hb0.out) hp
              obtain ⟨gb, rfl, lb, rb⟩ := own_range ChangeV.cells ChangeV.len rfl (ownsRow_below H4.out hb0.out) hp
              obtain ⟨dr, ⟨kd, cl, sq, ii, tp, bd, qo, rt, st⟩⟩ := p
              unfold ChangeV.cells RowV.vals at ra rb
              dsimp only at ra rb
              clear hp
              have ra := hid ra; have rb := hid rb
              go_wp2_with fail
              have g1 := hid g1; have g3 := hid g3
              refine regionQ [(1000, fun w' => w'.cell? ⟨w.heap.size, 1, none⟩ = some (.slice (some ⟨ga, 0, none⟩) cs.length k2)), (1000, fun w' => w'.cell? ⟨w.heap.size + 1, 1, none⟩ = some (.slice (some ⟨gb, 0, none⟩) cs.length k4)), (1000, fun w' => w'.rangeAt ga (k * 10) [.bool dr, .int .i64 kd, .string ⟨cl.toArray⟩, .int .i64 sq, .int .i64 ii, .string ⟨tp.toArray⟩, .string ⟨bd.toArray⟩, .int .i64 qo, .bool rt, .int .i64 st]), (1000, fun w' => w'.rangeAt gb (k * 10) [.bool dr, .int .i64 kd, .string ⟨cl.toArray⟩, .int .i64 sq, .int .i64 ii, .string ⟨tp.toArray⟩, .string ⟨bd.toArray⟩, .int .i64 qo, .bool rt, .int .i64 st])] (by kernel_rfl) ⟨g1.out, g3.out, ra.out, rb.out, trivial⟩ fun KQ hKQ => ?_
              refine takeQ 0 rfl (by kernel_rfl) rfl (by kernel_rfl) fun K hK => ?_
              simp only [List.getElem_toArray, List.getElem_cons_zero, List.getElem_cons_succ]
              go_big_quiet_op
              refine hK _ ?_
              clear hK K
              refine loadQ 1 rfl (by kernel_rfl) (by kernel_rfl) rfl rfl 0 rfl (by kernel_rfl) _ (fun w' hf => by (go_simp <;> with_reducible rfl)) ?_
              simp only [Act.put, List.getElem_toArray, List.getElem_cons_zero, List.getElem_cons_succ, List.setIfInBounds_toArray, List.set_cons_zero, List.set_cons_succ]
              refine takeQ 2 rfl (by kernel_rfl) rfl (by kernel_rfl) fun K hK => ?_
              simp only [List.getElem_toArray, List.getElem_cons_zero, List.getElem_cons_succ]
              go_big_quiet_op
              refine hK _ ?_
              clear hK K
              refine takeQ 3 rfl (by kernel_rfl) rfl (by kernel_rfl) fun K hK => ?_
              simp only [List.getElem_toArray, List.getElem_cons_zero, List.getElem_cons_succ]
              go_big_quiet_op
              refine hK _ ?_
              clear hK K
              refine loadQ 4 rfl (by kernel_rfl) (by kernel_rfl) rfl rfl 2 rfl (by kernel_rfl) (.agg ([.bool dr, .int .i64 kd, .string ⟨cl.toArray⟩, .int .i64 sq, .int .i64 ii, .string ⟨tp.toArray⟩, .string ⟨bd.toArray⟩, .int .i64 qo, .bool rt, .int .i64 st] : List Value).toArray) (fun w' hf => run_loadAt_mid w' _ _ 90 ([.bool dr, .int .i64 kd, .string ⟨cl.toArray⟩, .int .i64 sq, .int .i64 ii, .string ⟨tp.toArray⟩, .string ⟨bd.toArray⟩, .int .i64 qo, .bool rt, .int .i64 st] : List Value) _ hf Tryz.underlying90 rfl (by kernel_rfl)) ?_
              simp only [Act.put, List.getElem_toArray, List.getElem_cons_zero, List.getElem_cons_succ, List.setIfInBounds_toArray, List.set_cons_zero, List.set_cons_succ]
              refine takeQ 5 rfl (by kernel_rfl) rfl (by kernel_rfl) fun K hK => ?_
              simp only [List.getElem_toArray, List.getElem_cons_zero, List.getElem_cons_succ]
              go_big_quiet_op
              refine hK _ ?_
              clear hK K
              refine loadQ 6 rfl (by kernel_rfl) (by kernel_rfl) rfl rfl 1 rfl (by kernel_rfl) _ (fun w' hf => by (go_simp <;> with_reducible rfl)) ?_
              simp only [Act.put, List.getElem_toArray, List.getElem_cons_zero, List.getElem_cons_succ, List.setIfInBounds_toArray, List.set_cons_zero, List.set_cons_succ]
              refine takeQ 7 rfl (by kernel_rfl) rfl (by kernel_rfl) fun K hK => ?_
              simp only [List.getElem_toArray, List.getElem_cons_zero, List.getElem_cons_succ]
              go_big_quiet_op
              refine hK _ ?_
              clear hK K
              refine takeQ 8 rfl (by kernel_rfl) rfl (by kernel_rfl) fun K hK => ?_
              simp only [List.getElem_toArray, List.getElem_cons_zero, List.getElem_cons_succ]
              go_big_quiet_op
              refine hK _ ?_
              clear hK K
              refine loadQ 9 rfl (by kernel_rfl) (by kernel_rfl) rfl rfl 3 rfl (by kernel_rfl) (.agg ([.bool dr, .int .i64 kd, .string ⟨cl.toArray⟩, .int .i64 sq, .int .i64 ii, .string ⟨tp.toArray⟩, .string ⟨bd.toArray⟩, .int .i64 qo, .bool rt, .int .i64 st] : List Value).toArray) (fun w' hf => run_loadAt_mid w' _ _ 90 ([.bool dr, .int .i64 kd, .string ⟨cl.toArray⟩, .int .i64 sq, .int .i64 ii, .string ⟨tp.toArray⟩, .string ⟨bd.toArray⟩, .int .i64 qo, .bool rt, .int .i64 st] : List Value) _ hf Tryz.underlying90 rfl (by kernel_rfl)) ?_
              simp only [Act.put, List.getElem_toArray, List.getElem_cons_zero, List.getElem_cons_succ, List.setIfInBounds_toArray, List.set_cons_zero, List.set_cons_succ]
              refine takeQ 10 rfl (by kernel_rfl) rfl (by kernel_rfl) fun K hK => ?_
              simp only [List.getElem_toArray, List.getElem_cons_zero, List.getElem_cons_succ]
              go_big_quiet_op
              refine hK _ ?_
              clear hK K
              refine doneQ (by kernel_rfl) (hKQ.out _ _ ?_)
              clear hKQ KQ
              go_wp2
              go_roundw
              case rel => exact ⟨k + 1, by go_num, by omega, hid hb0.out.drew, hid B1.out.drew, hid B2.out.drew⟩
              case measure => simp [intOf]; omega
            · obtain rfl : k = cs.length := by omega
              have dk : decide ((cs.length : Int) < (cs.length : Int)) = false := by simp
              go_wp2
              go_ret
              exact ⟨⟨true, rfl, fun _ _ => rfl⟩, hb0.out⟩
    · have d2 : (cs.length != ds.length) = true := by simpa using e2
      have n1 : ((ps.length : Int) != (qs.length : Int)) = false := by simp; omega
      have n2 : ((cs.length : Int) != (ds.length : Int)) = true := by simp; omega
      go_enter Tryz.func20, Tryz.ntmps20
      go_wp2
      go_ret
      refine ⟨⟨false, rfl, fun _ h => absurd (congrArg List.length h) e2⟩, ?_⟩
      repeat (first | exact Below.refl _ _ | (refine Below.setCell ?_ (by simp <;> omega) _) | (refine Below.alloc ?_ (by simp <;> omega) _) | refine Below.drew ?_)
  · have n1 : ((ps.length : Int) != (qs.length : Int)) = true := by simp; omega
    go_enter Tryz.func20, Tryz.ntmps20
    go_wp2
    go_ret
    refine ⟨⟨false, rfl, fun h _ => absurd (congrArg List.length h) e1⟩, ?_⟩
    repeat (first | exact Below.refl _ _ | (refine Below.setCell ?_ (by simp <;> omega) _) | (refine Below.alloc ?_ (by simp <;> omega) _) | refine Below.drew ?_)
end Go.Proofs.YtodbdojjllabmaaGreatDoor
