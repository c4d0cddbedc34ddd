/- Parts of the proof of ScriptCuts: contracts of functions that it reaches, and plain lemmas. No condition of their own. -/
import Derived.Test.YtkghejaimhoboaaGreatDoorPk29
import Derived.Deep.CutRange
set_option linter.unusedSimpArgs false
set_option linter.unusedVariables false
set_option maxRecDepth 100000
set_option maxHeartbeats 8000000
namespace Go.Proofs.YtkghejaimhoboaaGreatDoor
open Go.RowKit Go.Shelf
section
attribute [local go_sem] Oper.semAt_some
def zSc : ScC := ⟨⟨0, 0, 0, 0, 0, 0, []⟩, 0, hdZ, []⟩
structure PaR (C : PkCode) (l : List UInt8) (w : World) (b B : Nat) (o : Option Int) (W : World) : Prop where
 err : Boxed W B 31 (.int .i64 0)
 below : Below w.heap.size w W
 out : (65536 < l.length /\ o = some 3 /\ Blk W b zSc.cells.toArray 30) \/ (l.length <= 65536 /\ (∀ s, rScript C false l = some s -> ¬ rightS s) /\ o = some 390 /\ Blk W b zSc.cells.toArray 30) \/
  (l.length <= 65536 /\ ∃ s : ScC, rScript C false l = some s.sc /\ rightS s.sc /\ o = none /\ Blk W b s.cells.toArray 30 /\ ∀ W', Wrote [b, B] W W' -> s.In W')
structure PaK (w0 : World) (b B : Nat) (W : World) : Prop where
 below : Below w0.heap.size w0 W
 out : Blk W b zSc.cells.toArray 30
 err : Boxed W B 31 (.int .i64 0)
theorem PaK.wrote {w0 W W' : World} {b B : Nat} {M : List Nat} (h : PaK w0 b B W) (hw : Wrote M W W') (hM : ∀ y ∈ M, w0.heap.size <= y) (h1 : b ∉ M) (h2 : B ∉ M) : PaK w0 b B W' := ⟨h.below.trans (hw.below h.below.size hM), h.out.keepW hw h1, hw.boxed h2 h.err⟩
theorem PaK.bad {C : PkCode} {l : List UInt8} {w0 W : World} {b B : Nat} (h : PaK w0 b B W) (hl : l.length <= 65536) (hn : ∀ s, rScript C false l = some s -> ¬ rightS s) : PaR C l w0 b B (some 390) W := ⟨h.err, h.below, .inr (.inl ⟨hl, hn, rfl, h.out⟩)⟩
def scA (c : CfV) (pages : Int) (v : Value) : Array Value := #[.int .i64 c.window, .int .i64 c.room, .int .i64 c.inbox, .int .i64 c.subs, .int .i64 c.sessions, .int .i64 c.retained, .string ⟨c.secret.toArray⟩, .int .i64 pages, v]
theorem rScript_head {C : PkCode} {l l1 l0 sec : List UInt8} {z0 z1 z2 z3 z4 z5 z6 : Int} (h : rMany rTwoI 7 l = some ([z0, z1, z2, z3, z4, z5, z6], l1)) (ht : rTxt l1 = some (sec, l0)) :
  rScript C false l = (rAll (rTurn C false) l0.length l0).bind fun ts => some ⟨⟨z0, z1, z2, z3, z4, z5, sec⟩, z6, ts⟩ := by
 unfold rScript
 rw [h, Option.bind_some]
 dsimp only
 rw [ht, Option.bind_some]
theorem rTxt_len {l r s : List UInt8} (h : rTxt l = some (s, r)) : r.length + 2 <= l.length := by
 rw [(rTxt_some h).1, List.length_append]
 unfold txtB
 rw [List.length_append, numB_len]
 omega
theorem cell_keep {M : List Nat} {w w' : World} (hw : Wrote M w w') {g k : Nat} (hg : g < w.heap.size) (hM : g ∉ M) : w'.cell? ⟨g, k, none⟩ = w.cell? ⟨g, k, none⟩ := by
 unfold World.cell?
 rw [hw.block g hg hM]
def rdLen : Option Value -> Nat
 | some (.slice _ n _) => n
 | _ => 0
theorem Rd.rdLen {W : World} {B p : Nat} {l : List UInt8} (h : Rd W B p l) : rdLen (W.cell? ⟨p, 0, none⟩) = l.length := by
 obtain ⟨a, n, c, hb, hr, -⟩ := h.out
 rw [hb.cell]
 have := hr.len
 rw [bs_len] at this
 exact this.symm
structure PaI (C : PkCode) (l0 : List UInt8) (w0 : World) (b B q p ob : Nat) (cf : CfV) (pages : Int) (ts : List TnC) (l' : List UInt8) (v : Value) (W : World) : Prop where
 read : rMany (rTurn C false) ts.length l0 = some (ts.map TnC.t, l')
 rd : Rd W q p l'
 rdr : Blk W q #[.pointer (some ⟨p, 0, none⟩)] 61
 out : Blk W ob (scA cf pages v) 30
 row : W.ownsRow q 55 30 v ts.length (ts.flatMap TnC.cells)
 each : ∀ x ∈ ts, InN W x (b :: B :: p :: ob :: blk v)
 keep : Below w0.heap.size w0 W
 len : 3 * ts.length + l'.length <= l0.length
 new : q <= ob /\ w0.heap.size <= p /\ w0.heap.size <= q
theorem blk_ne {w : World} {a b : Nat} {cs ds : Array Value} {S T : TypeId} (h : Blk w a cs S) (k : Blk w b ds T) (ht : S ≠ T) : a ≠ b := by
 rintro rfl
 have e : w.heap[a]? = _ := h
 rw [show w.heap[a]? = _ from k] at e
 cases e
 exact ht rfl
def zT : Array Value := ((tn0 0 0).cells h3Z hdZ).toArray
theorem eTurn : ElemT Tryz.prog 28 55 (.agg zT) 30 352 := ⟨Tryz.underlying28, by kernel_rfl, by kernel_rfl⟩
theorem PaI.kept {C : PkCode} {l0 l' : List UInt8} {w wr W : World} {b B q p ob tb : Nat} {cf : CfV} {pages : Int} {ts : List TnC} {v : Value} (h : PaI C l0 w b B q p ob cf pages ts l' v wr) (hw : Wrote [p, tb] wr W) (ht : wr.heap.size <= tb) :
  Blk W ob (scA cf pages v) 30 /\ Blk W q #[.pointer (some ⟨p, 0, none⟩)] 61 /\ W.ownsRow q 55 30 v ts.length (ts.flatMap TnC.cells) /\ (∀ x ∈ ts, InN W x (b :: B :: p :: ob :: blk v)) /\ (ob ≠ p /\ q ≠ p /\ q ≠ ob /\ p ∉ blk v /\ ob ∉ blk v /\ q ∉ blk v) := by
 obtain ⟨a, n, c, hp, -⟩ := h.rd.out
 have n1 : ob ≠ p := blk_ne h.out hp (by decide)
 have n2 : q ≠ p := blk_ne h.rdr hp (by decide)
 have n3 : q ≠ ob := blk_ne h.rdr h.out (by decide)
 have m1 : p ∉ blk v := fun hm => block_not_row (show wr.heap[p]? = _ from hp) (by decide) h.row (mem_blk.1 hm).symm
 have m2 : ob ∉ blk v := fun hm => block_not_row (show wr.heap[ob]? = _ from h.out) (by decide) h.row (mem_blk.1 hm).symm
 have m3 : q ∉ blk v := fun hm => block_not_row (show wr.heap[q]? = _ from h.rdr) (by decide) h.row (mem_blk.1 hm).symm
 have lo := h.out.lt
 have lq := h.rdr.lt
 refine ⟨h.out.keepW hw (by simp; omega), h.rdr.keepW hw (by simp; omega), not_own h.row hw (fun x hx hm => ?_), fun x hx => (h.each x hx).step hw (fun k hb => ?_) (fun k hb => .inl hb), n1, n2, n3, m1, m2, m3⟩
 ·rcases List.mem_cons.1 hx with rfl | hx
  ·exact m1 hm
  ·have := (h.row.lt x (mem_blk.1 hm)).2
   simp at hx; omega
 ·rcases List.mem_cons.1 hb with rfl | hb
  ·exact .inl (by simp)
  ·simp at hb; subst hb; exact .inr ht
theorem PaI.next {C : PkCode} {l0 l' l3 : List UInt8} {w wr W W1 W2 : World} {b B q p ob tb : Nat} {cf : CfV} {pages : Int} {ts : List TnC} {v v' : Value} {y : TnC} (h : PaI C l0 w b B q p ob cf pages ts l' v wr) (hw : Wrote [p, tb] wr W) (ht : wr.heap.size <= tb)
  (hr : rTurn C false l' = some (y.t, l3)) (hR : Rd W q p l3) (hy : InN W y (b :: B :: p :: ob :: blk v)) (hrow : W1.ownsRow q 55 30 v' (ts.length + 1) (ts.flatMap TnC.cells ++ y.cells)) (hg : Wrote (blk v) W W1) (hn : ∀ k, v'.ownBlock = some k -> v.ownBlock = some k \/ W.heap.size <= k)
  (hs : Wrote [ob] W1 W2) (ho : Blk W2 ob (scA cf pages v') 30) : PaI C l0 w b B q p ob cf pages (ts ++ [y]) l3 v' W2 := by
 obtain ⟨k1, k2, k3, k4, n1, n2, n3, m1, m2, m3⟩ := h.kept hw ht
 have lo := k1.lt
 have hlt := h.rd.lt
 have hob : ob ∉ blk v' := fun hm => by
  rcases hn ob (mem_blk.1 hm) with e | e
  ·exact m2 (mem_blk.2 e)
  ·omega
 have hsz : W.heap.size <= W1.heap.size := hg.size
 have hv : ∀ b ∈ blk v, q <= b := fun b hb => (h.row.lt b (mem_blk.1 hb)).1
 have hA : ∀ x, InN W x (b :: B :: p :: ob :: blk v) -> InN W2 x (b :: B :: p :: ob :: blk v') := fun x hx => by
  have h1 : InN W1 x (b :: B :: p :: ob :: (blk v ++ blk v')) := hx.step hg (fun b hb => .inl (by simp [hb])) (fun k hb => by
   simp only [List.mem_cons, List.mem_append] at hb
   rcases hb with rfl | rfl | rfl | rfl | hb | hb
   ·exact .inl (by simp)
   ·exact .inl (by simp)
   ·exact .inl (by simp)
   ·exact .inl (by simp)
   ·exact .inl (by simp [hb])
   ·rcases hn k (mem_blk.1 hb) with e | e
    ·exact .inl (by simp [mem_blk.2 e])
    ·exact .inr e)
  exact h1.step hs (fun b hb => .inl (by simp at hb; simp [hb])) (fun b hb => .inl (by
   simp only [List.mem_cons, List.mem_append] at hb ⊢
   rcases hb with h | h | h | h | h
   ·exact .inl h
   ·exact .inr (.inl h)
   ·exact .inr (.inr (.inl h))
   ·exact .inr (.inr (.inr (.inl h)))
   ·exact .inr (.inr (.inr (.inr (.inr h))))))
 refine ⟨?_, ?_, ?_, ho, ?_, ?_, ?_, ?_, h.new⟩
 ·rw [List.length_append, List.length_singleton, rMany_snoc, h.read, Option.bind_some]
  dsimp only
  rw [hr]
  simp
 ·exact (hR.wrote hg hv).wrote hs (by simp; exact h.new.1)
 ·exact (k2.keepW hg m3).keepW hs (by simpa using n3)
 ·rw [List.length_append, List.length_singleton, List.flatMap_append]
  have e : [y].flatMap TnC.cells = y.cells := by simp
  rw [e]
  exact not_own hrow hs (fun x hx => by simp at hx; subst hx; exact hob)
 ·intro x hx
  rcases List.mem_append.1 hx with hx | hx
  ·exact hA x (k4 x hx)
  ·rw [List.mem_singleton.1 hx]; exact hA y hy
 ·have hb : Below w.heap.size w W := h.keep.trans (hw.below h.keep.size (by have := h.new.2.1; have := h.keep.size; simp; omega))
  exact (hb.trans (hg.below hb.size (fun x hx => Nat.le_trans h.new.2.2 (hv x hx)))).trans (hs.below (by have := hb.size; omega) (by have := h.new; simp; omega))
 ·have := rTurn_len hr
  have := h.len
  rw [List.length_append, List.length_singleton]
  omega
theorem rPart_no {C : PkCode} {t : Tn} (h : ¬ (1 <= t.kind /\ t.kind <= 8)) (l : List UInt8) : rPart C false t l = none := by
 unfold rPart
 rw [if_neg (by omega), if_neg (by omega), if_neg (by omega), if_neg (by omega), if_neg (by simp; omega)]
theorem build_tn0 (k c : Int) (W : World) : (Instr.build 55 #[(0, .int .i64 k), (1, .int .i64 c)]).run Tryz.prog W = .ok (.agg ((tn0 k c).cells h3Z hdZ).toArray) W := by kernel_rfl
structure TuI (q p : Nat) (l' : List UInt8) (tb : Nat) (k c : Nat) (l2 : List UInt8) (wr W : World) : Prop where
 wrote : Wrote [p] wr W
 rd : Rd W q p l2
 turn : Blk W tb ((tn0 k c).cells h3Z hdZ).toArray 55
 new : wr.heap.size <= tb
 nums : ∃ r1, rNum 1 l' = some (k, r1) /\ rNum 2 r1 = some (c, l2)
theorem TuI.mk' {q p tb k c : Nat} {l' l2 r1 : List UInt8} {wr W W' : World} (h1 : rNum 1 l' = some (k, r1)) (h2 : rNum 2 r1 = some (c, l2)) (hw : Wrote [p] wr W) (hr : Rd W q p l2) (hs : Wrote [tb] W W') (ht : Blk W' tb ((tn0 k c).cells h3Z hdZ).toArray 55) (hn : wr.heap.size <= tb) (hq : q <= wr.heap.size) : TuI q p l' tb k c l2 wr W' :=
 ⟨hw.andNew hs (by simpa using hn), hr.wrote hs (by simp; omega), ht, hn, r1, h1, h2⟩
theorem sc_Parse1 (C : PkCode) (a : Option Addr) (n c : Nat) (l : List UInt8) (w0 w : World) (g b B : Nat) (hrow : RowAt w a n c (bs l)) (hg : Boxed w g 22 (.slice a n c)) (hK0 : PaK w0 b B w) (hn : n <= 70368744177664) (hT : TzAt w) (hb0 : w0.heap.size <= b) (hBb : B ≠ b)
  (hN : ∀ s, rScript C false l = some s -> NewOK s.cf) (hK : ∀ s, rScript C false l = some s -> ∀ x : TnC, x.t ∈ s.ts -> KindDo x) (hD : 19 <= l.length -> ∀ k, ReadDo C k) :
  Calls Tryz.prog 18 #[.pointer (some ⟨g, 0, none⟩), .pointer (some ⟨b, 0, none⟩)] w fun e w' => ∃ o, e = ends o (.tuple #[]) /\ PaR C l w0 b B o w' /\ Boxed w' B 31 (.int .i64 0) := by
 have hmf : ∀ (fn : Fn) (first cap : Array Value) (w : World), (Instr.makeFunc fn first cap).run Tryz.prog w = .ok (.func fn first cap) w := fun _ _ _ _ => rfl
 have CM := hid sc_must;have hll : l.length = n := by have := hrow.len; rwa [bs_len] at this
 have fin : Hid (∀ o W, PaR C l w0 b B o W -> ∃ o', ends o (.tuple #[]) = ends o' (.tuple #[]) /\ PaR C l w0 b B o' W /\ Boxed W B 31 (.int .i64 0)) := hid fun o W h => ⟨o, rfl, h, h.err⟩
 have k0 := hg.cell
 by_cases h1 : (n : Int) <= 65536
 case neg =>
  have d1 : decide ((n : Int) <= 65536) = false := decide_eq_false h1
  have H := hid (show PaR C l w0 b B (some 3) w from ⟨hK0.err, hK0.below, .inl ⟨by omega, rfl, hK0.out⟩⟩)
  clear h1 hll;go_enter Tryz.func18, Tryz.ntmps18
  refine wp_scope_straight ?_
  go_wp2_with (go_at_call 19; refine (CM.out _ _ _).mono ?_; rintro e w9 ⟨rfl, rfl⟩)
  exact ⟨rfl, some 3, rfl, H.out, H.out.err⟩
 have d1 : decide ((n : Int) <= 65536) = true := decide_eq_true h1
 have hl6 := hid (show l.length <= 65536 by omega)
 have CR := hid (wire_NewReader a n c l w hrow hn)
 have KW : Hid (∀ W, Below w.heap.size w W -> PaK w0 b B W /\ TzAt W) := hid fun W h => ⟨hK0.wrote (Wrote.of_below (M := []) h) (by simp) (by simp) (by simp), hT.below h⟩
 have hsw := hK0.below.size
 have hbw := hid (show b < w.heap.size from hK0.out.lt)
 have hBw := hid (show B < w.heap.size from hK0.err.lt)
 replace hN := hid hN;replace hK := hid hK;replace hD := hid hD;have HG := hid hg;clear h1 hll hrow hT hK0 hg;go_enter Tryz.func18, Tryz.ntmps18
 refine wp_scope_straight ?_
 go_upto_region 2 with (first
  | (go_at_call 19; refine (CM.out _ _ _).mono ?_; rintro e w9 ⟨rfl, rfl⟩)
  | (go_at_call 20; refine CR.out.mono ?_; rintro e w1 ⟨p, rfl, hp, hR, hb1⟩))
 have hpB := hR.lt
 obtain ⟨w2, hw2⟩ : ∃ w2, w1.alloc (.cells #[.pointer (some ⟨p, 0, none⟩)] 61) = w2 := ⟨_, rfl⟩
 obtain ⟨q, hq⟩ : ∃ q, w1.heap.size = q := ⟨_, rfl⟩
 have hx2 : Blk w2 q #[.pointer (some ⟨p, 0, none⟩)] 61 := by rw [<- hw2, <- hq]; exact Blk.new _ _ _
 have hb2 : Below w.heap.size w w2 := by rw [<- hw2]; exact hb1.alloc (by omega) _
 have hR2 : Rd w2 q p l := by rw [<- hw2, <- hq]; exact hR.below ((Below.refl _ _).alloc (Nat.le_refl _) _)
 have HB2 := hid hb2;rw [hw2, hq]
 rw [hq] at hpB
 have hf := enters_of Tryz.func22 (by kernel_rfl) rfl
 have CT := hid (sc_taken 22 #[.pointer (some ⟨q, 0, none⟩)] 2 7 q p q l w2 hf hR2 hx2 (by omega) hx2.lt (by decide) (fun W l1 h1 h2 => sc_P11 W q p q l1 h1 h2))
 have s2 := hb2.size
 replace hx2 := hid hx2;clear hb1 hR hw2 hq hR2 hb2;go_wp2_with fail
 refine CT.out.mono ?_
 rintro e w3 ⟨hw3, hx3⟩
 have HB3 := hid (HB2.out.trans (hw3.below (n₀ := w.heap.size) HB2.out.size (by simp; omega)))
 have hs3 := HB3.out.size
 rcases hx3 with ⟨hno, rfl⟩ | ⟨xs, l1, v, hm, rfl, hR3, ho3⟩
 ·have H := hid ((KW.out _ HB3.out).1.bad (C := C) hl6.out (fun s hs => by
   unfold rScript at hs
   have e : rMany rTwoI 7 l = none := hno
   rw [e] at hs
   cases hs))
  exact ⟨rfl, some 390, rfl, H.out, H.out.err⟩
 obtain ⟨hxl, hx7⟩ := rMany_some rTwoI (fun z => numB 2 z.toNat) (fun l x r h => rTwoI_some h) 7 l xs l1 hm
 obtain ⟨z0, z1, z2, z3, z4, z5, z6, rfl⟩ : ∃ z0 z1 z2 z3 z4 z5 z6, xs = [z0, z1, z2, z3, z4, z5, z6] := by
  match xs, hx7 with
  | [z0, z1, z2, z3, z4, z5, z6], _ => exact ⟨z0, z1, z2, z3, z4, z5, z6, rfl⟩
 have hl1 : Hid (l.length = 14 + l1.length) := hid (by
  rw [hxl, List.length_append, flat_numB]
  simp)
 obtain ⟨av, cv, rfl⟩ := own_slice ho3
 have hfl : ∀ zs : List Int, ivs zs = zs.flatMap iCl := fun zs => by
  unfold ivs iCl
  induction zs with
  | nil => rfl
  | cons z zs ih => rw [List.map_cons, List.flatMap_cons, ih]; rfl
 rw [hfl] at ho3
 obtain ⟨g3, rfl, -, hr0⟩ := own_range iCl (fun _ => rfl) (l := [z0, z1, z2, z3, z4, z5, z6]) rfl ho3 (k := 0) rfl
 have hcells : ∀ (k : Nat) (z : Int), [z0, z1, z2, z3, z4, z5, z6][k]? = some z -> w3.cell? ⟨g3, k, none⟩ = some (.int .i64 z) := fun k z hz => by
  obtain ⟨g, e, -, hr⟩ := own_range iCl (fun _ => rfl) (l := [z0, z1, z2, z3, z4, z5, z6]) rfl ho3 hz
  cases e
  have := hr 0 (.int .i64 z) rfl
  simpa using this
 have hg3 : g3 < w3.heap.size := cell_lt (hcells 0 z0 rfl)
 have hg3p : g3 ≠ p := by
  have h1 := (ho3.lt g3 rfl).1
  have h2 := hx2.out.lt
  omega
 have hx3 := hx2.out.keepW hw3 (by simp; omega)
 replace hm := hid (show rMany rTwoI 7 l = some ([z0, z1, z2, z3, z4, z5, z6], l1) from hm)
 clear hfl ho3 hxl hx7 hr0 hw3;go_upto_region 3 with fail
 have CX := hid (sc_rtext (hR3.below ((Below.refl _ w3).drew)))
 go_cut [4] from 17 (fun s4 wx => ∃ (ob : Nat) (sec l0 : List UInt8), s4 = .pointer (some ⟨ob, 0, none⟩) /\ Hid (rTxt l1 = some (sec, l0)) /\ Hid (PaI C l0 w b B q p ob ⟨z0, z1, z2, z3, z4, z5, sec⟩ z6 [] l0 (.slice none 0 0) wx))
 case first =>
  --BEG
  have rowD : ∀ (k : Nat) (z : Int), [z0, z1, z2, z3, z4, z5, z6][k]? = some z -> w3.drew.cell? ⟨g3, k, none⟩ = some (.int .i64 z) := hcells
  have xD : Blk w3.drew q #[.pointer (some ⟨p, 0, none⟩)] 61 := hx3
  refine regionP [(1000, fun w' => ∀ (k : Nat) (z : Int), [z0, z1, z2, z3, z4, z5, z6][k]? = some z -> w'.cell? ⟨g3, k, none⟩ = some (.int .i64 z)), (1000, fun w' => Blk w' q #[.pointer (some ⟨p, 0, none⟩)] 61)] ?_ (by kernel_rfl) ⟨rowD, xD, trivial⟩ fun KQ hKQ => ?_
  ·intro c a d v w h
   cases d <;> exact h
  try simp only [PT]
  refine tQ [0, 1] ?_;refine loadQ 2 rfl (by kernel_rfl) (by kernel_rfl) rfl rfl 0 rfl (by kernel_rfl) (.int .i64 z0) (fun w' hf => by (have k0 := hf 0 z0 rfl; go_simp <;> with_reducible rfl)) ?_
  simp only [PT];refine tQ [3, 4] ?_;refine loadQ 5 rfl (by kernel_rfl) (by kernel_rfl) rfl rfl 0 rfl (by kernel_rfl) (.int .i64 z1) (fun w' hf => by (have k0 := hf 1 z1 rfl; go_simp <;> with_reducible rfl)) ?_
  simp only [PT];refine tQ [6, 7] ?_;refine loadQ 8 rfl (by kernel_rfl) (by kernel_rfl) rfl rfl 0 rfl (by kernel_rfl) (.int .i64 z2) (fun w' hf => by (have k0 := hf 2 z2 rfl; go_simp <;> with_reducible rfl)) ?_
  simp only [PT];refine tQ [9, 10] ?_;refine loadQ 11 rfl (by kernel_rfl) (by kernel_rfl) rfl rfl 0 rfl (by kernel_rfl) (.int .i64 z3) (fun w' hf => by (have k0 := hf 3 z3 rfl; go_simp <;> with_reducible rfl)) ?_
  simp only [PT];refine tQ [12, 13, 14] ?_;refine loadQ 15 rfl (by kernel_rfl) (by kernel_rfl) rfl rfl 0 rfl (by kernel_rfl) (.int .i64 z4) (fun w' hf => by (have k0 := hf 4 z4 rfl; go_simp <;> with_reducible rfl)) ?_
  simp only [PT];refine tQ [16, 17] ?_;refine loadQ 18 rfl (by kernel_rfl) (by kernel_rfl) rfl rfl 0 rfl (by kernel_rfl) (.int .i64 z5) (fun w' hf => by (have k0 := hf 5 z5 rfl; go_simp <;> with_reducible rfl)) ?_
  simp only [PT];refine loadQ 19 rfl (by kernel_rfl) (by kernel_rfl) rfl rfl 1 rfl (by kernel_rfl) (.agg #[.pointer (some ⟨p, 0, none⟩)]) (fun w' hf => by (exact run_load_blk hf 61 Tryz.underlying61 rfl (by kernel_rfl))) ?_
  simp only [PT];refine tQ [22, 23] ?_;refine loadQ 24 rfl (by kernel_rfl) (by kernel_rfl) rfl rfl 0 rfl (by kernel_rfl) (.int .i64 z6) (fun w' hf => by (have k0 := hf 6 z6 rfl; go_simp <;> with_reducible rfl)) ?_
  simp only [PT];have BD : Below w.heap.size w w3.drew := HB3.out.drew
  have RD : Hid (Rd w3.drew q p l1) := hid (hR3.below ((Below.refl _ w3).drew))
  obtain ⟨WD, hWD⟩ : ∃ W, w3.drew = W := ⟨_, rfl⟩
  rw [hWD] at rowD xD BD RD CX ⊢
  have hsD := BD.size
  refine stepM [20, 26] (fun j hj => ?_)
  have hj : j = 20 \/ j = 26 := by simpa using hj
  rcases hj with rfl | rfl
  ·refine ⟨⟨_, rfl, by kernel_rfl, fun K hK => ?_⟩⟩
   go_simp;refine CX.out.mono ?_
   rintro e w4 (⟨hno, rfl, hw4⟩ | ⟨⟨sec, l0⟩, ht, rfl, hR4, hw4⟩)
   ·refine hKQ.out _ _ _ ?_
    have HB4 := BD.trans (hw4.below (n₀ := w.heap.size) hsD (by simp; omega))
    have H := (KW.out _ HB4).1.bad (C := C) hl6.out (fun s hs => by
     unfold rScript at hs
     rw [hm.out, Option.bind_some] at hs
     dsimp only at hs
     rw [hno] at hs
     cases hs)
    exact ⟨rfl, some 390, rfl, H, H.err⟩
   have HB4 := BD.trans (hw4.below (n₀ := w.heap.size) hsD (by simp; omega))
   have hs4 := HB4.size
   have rw4 : ∀ (k : Nat) (z : Int), [z0, z1, z2, z3, z4, z5, z6][k]? = some z -> w4.cell? ⟨g3, k, none⟩ = some (.int .i64 z) := fun k z hz => (cell_keep hw4 (cell_lt (rowD k z hz)) (by simpa using hg3p)).trans (rowD k z hz)
   have xw4 := xD.keepW hw4 (by simp; omega)
   refine hK _ _ ⟨⟨fun _ => rw4, fun _ => xw4, trivial⟩, ?_⟩
   clear hK K;try simp only [PT]
   refine tQ [21, 25] ?_;refine sQ 26 fun K hK => ?_;simp only [GO];go_simp;refine hK _ _ ⟨⟨fun _ k z hz => cell_alloc (rw4 k z hz) _, fun _ => xw4.alloc _, trivial⟩, ?_⟩
   clear hK K;try simp only [PT]
   refine sQ 27 fun K hK => ?_;simp only [GO];refine wW 30 9 rfl w4.heap.size zSc.cells.toArray (scA ⟨z0, z1, z2, z3, z4, z5, sec⟩ z6 (.slice none 0 0)) rfl rfl (Blk.new _ _ _) rfl rfl (by simp [scA, Value.oneCell']) fun w5 hw5 hr5 => ?_
   replace hr5 : Wrote [w4.heap.size] (w4.alloc (.cells zSc.cells.toArray 30)) w5 := hr5
   have hz4 : (w4.alloc (.cells zSc.cells.toArray 30)).heap.size = w4.heap.size + 1 := by simp
   have HB5 := (HB4.alloc hs4 (.cells zSc.cells.toArray 30)).trans (hr5.below (n₀ := w.heap.size) (by omega) (by simp; omega))
   have rw5 : ∀ (k : Nat) (z : Int), [z0, z1, z2, z3, z4, z5, z6][k]? = some z -> w5.cell? ⟨g3, k, none⟩ = some (.int .i64 z) := fun k z hz => (cell_keep hr5 (by have := cell_lt (rw4 k z hz); simp at this; omega) (by have := cell_lt (rw4 k z hz); simp at this; simp; omega)).trans (cell_alloc (rw4 k z hz) _)
   have xw5 := (xw4.alloc (.cells zSc.cells.toArray 30)).keepW hr5 (by have := xw4.lt; simp; omega)
   have R5 := (hR4.below ((Below.refl _ w4).alloc (Nat.le_refl _) (.cells zSc.cells.toArray 30))).wrote hr5 (by have := hR4.base; simp; omega)
   refine hK _ _ ⟨⟨fun _ => rw5, fun _ => xw5, trivial⟩, ?_⟩
   clear hK K;try simp only [PT]
   refine dQ (hKQ.out _ _ _ ?_)
   have H : Hid (PaI C l0 w b B q p w4.heap.size ⟨z0, z1, z2, z3, z4, z5, sec⟩ z6 [] l0 (.slice none 0 0) w5) := hid ⟨rfl, R5, xw5, hw5, World.ownsRow_nil _ _ _ _, fun x h => (by cases h), HB5, by simp, by have := xw4.lt; omega, by omega, by omega⟩
   have HTX := hid ht;clear hKQ KQ rw5 rw4 rowD;go_wp2
   go_meet
   case rel => exact ⟨_, sec, l0, rfl, HTX, H⟩
  ·refine ⟨⟨_, rfl, by kernel_rfl, fun K hK => ?_⟩⟩
   go_simp;have rwA : ∀ (k : Nat) (z : Int), [z0, z1, z2, z3, z4, z5, z6][k]? = some z -> (WD.alloc (.cells zSc.cells.toArray 30)).cell? ⟨g3, k, none⟩ = some (.int .i64 z) := fun k z hz => cell_alloc (rowD k z hz) _
   have xwA := xD.alloc (.cells zSc.cells.toArray 30)
   have BA := BD.alloc hsD (.cells zSc.cells.toArray 30)
   have RA := RD.out.below ((Below.refl _ WD).alloc (Nat.le_refl _) (.cells zSc.cells.toArray 30))
   have oA : Blk (WD.alloc (.cells zSc.cells.toArray 30)) WD.heap.size zSc.cells.toArray 30 := Blk.new _ _ _
   have hzA : (WD.alloc (.cells zSc.cells.toArray 30)).heap.size = WD.heap.size + 1 := by simp
   refine hK _ _ ⟨⟨fun _ => rwA, fun _ => xwA, trivial⟩, ?_⟩
   clear hK K;try simp only [PT]
   refine sQ 20 fun K hK => ?_;simp only [GO];go_simp;refine (sc_rtext RA).mono ?_
   rintro e w4 (⟨hno, rfl, hw4⟩ | ⟨⟨sec, l0⟩, ht, rfl, hR4, hw4⟩)
   ·refine hKQ.out _ _ _ ?_
    have HB4 := BA.trans (hw4.below (n₀ := w.heap.size) BA.size (by simp; omega))
    have H := (KW.out _ HB4).1.bad (C := C) hl6.out (fun s hs => by
     unfold rScript at hs
     rw [hm.out, Option.bind_some] at hs
     dsimp only at hs
     rw [hno] at hs
     cases hs)
    exact ⟨rfl, some 390, rfl, H, H.err⟩
   have HB4 := BA.trans (hw4.below (n₀ := w.heap.size) BA.size (by simp; omega))
   have rw4 : ∀ (k : Nat) (z : Int), [z0, z1, z2, z3, z4, z5, z6][k]? = some z -> w4.cell? ⟨g3, k, none⟩ = some (.int .i64 z) := fun k z hz => (cell_keep hw4 (cell_lt (rwA k z hz)) (by simpa using hg3p)).trans (rwA k z hz)
   have xw4 := xwA.keepW hw4 (by simp; omega)
   have o4 := oA.keepW hw4 (by have := RD.out.lt; have := xD.lt; simp; omega)
   refine hK _ _ ⟨⟨fun _ => rw4, fun _ => xw4, trivial⟩, ?_⟩
   clear hK K;try simp only [PT]
   refine tQ [21, 25] ?_;refine sQ 27 fun K hK => ?_;simp only [GO];refine wW 30 9 rfl WD.heap.size zSc.cells.toArray (scA ⟨z0, z1, z2, z3, z4, z5, sec⟩ z6 (.slice none 0 0)) rfl rfl o4 rfl rfl (by simp [scA, Value.oneCell']) fun w5 hw5 hr5 => ?_
   have HB5 := HB4.trans (hr5.below (n₀ := w.heap.size) HB4.size (by simp; omega))
   have rw5 : ∀ (k : Nat) (z : Int), [z0, z1, z2, z3, z4, z5, z6][k]? = some z -> w5.cell? ⟨g3, k, none⟩ = some (.int .i64 z) := fun k z hz => (cell_keep hr5 (cell_lt (rw4 k z hz)) (by have := cell_lt (rowD k z hz); simp at this; simp; omega)).trans (rw4 k z hz)
   have xw5 := xw4.keepW hr5 (by have := xD.lt; simp; omega)
   have R5 := hR4.wrote hr5 (by have := RD.out.base; simp; omega)
   refine hK _ _ ⟨⟨fun _ => rw5, fun _ => xw5, trivial⟩, ?_⟩
   clear hK K;try simp only [PT]
   refine dQ (hKQ.out _ _ _ ?_)
   have H : Hid (PaI C l0 w b B q p WD.heap.size ⟨z0, z1, z2, z3, z4, z5, sec⟩ z6 [] l0 (.slice none 0 0) w5) := hid ⟨rfl, R5, xw5, hw5, World.ownsRow_nil _ _ _ _, fun x h => (by cases h), HB5, by simp, by have := xD.lt; omega, by omega, by omega⟩
   have HTX := hid ht;clear hKQ KQ rw5 rw4 rowD rwA;go_wp2
   go_meet
   case rel => exact ⟨_, sec, l0, rfl, HTX, H⟩
  --END
 case rest =>
  obtain ⟨ob, sec, l0, rfl, ht, hI⟩ := hcut
  have HH := hid (rScript_head (C := C) hm.out ht.out)
  have hl0 : Hid (16 + l0.length <= l.length) := hid (by have := rTxt_len ht.out; have := hl1.out; omega)
  obtain ⟨cf, hcf⟩ : ∃ cf : CfV, (⟨z0, z1, z2, z3, z4, z5, sec⟩ : CfV) = cf := ⟨_, rfl⟩
  rw [hcf] at HH hI
  have CL := hid (fun (W : World) (l' : List UInt8) (h : Rd W q p l') => wire_Left h)
  clear hcf hcells hx3 CX;clear hR3 HB3 hs3;go_wp2_with fail
  refine wp_label ?_
  go_wp2_with fail
  go_loopw [43] (fun _ wr => ∃ (ts : List TnC) (l' : List UInt8) (v : Value), Hid (PaI C l0 w b B q p ob cf z6 ts l' v wr)) (fun _ wr => rdLen (wr.cell? ⟨p, 0, none⟩))
  case atStart => exact ⟨[], l0, _, hI⟩
  case round =>
   obtain ⟨ts, l', v, hJ⟩ := hrel
   have kq : wr.cell? ⟨q, 0, none⟩ = some (.pointer (some ⟨p, 0, none⟩)) := hJ.out.rdr.cell 0
   have CLJ := hid (CL.out wr l' hJ.out.rd)
   rcases Nat.eq_zero_or_pos l'.length with hz | hpos
   ·have d0 : ((l'.length : Int) == 0) = true := by simp [hz]
    have hnil : l' = [] := List.length_eq_zero_iff.1 hz
    have hall := (rAll_rMany (rTurn C false) (fun l x r h => by have := rTurn_len h; omega) ts.length l0.length l0 l' _ hJ.out.read (Nat.le_refl _)).1 hnil
    obtain ⟨av, cv, rfl⟩ := own_slice hJ.out.row
    obtain ⟨s, hs⟩ : ∃ s : ScC, (⟨cf, z6, ⟨av, ts.length, cv⟩, ts⟩ : ScC) = s := ⟨_, rfl⟩
    have hsc : Hid (rScript C false l = some s.sc) := hid (by rw [HH.out, hall, <- hs]; rfl)
    have hsA : Hid (scA cf z6 (.slice av ts.length cv) = s.cells.toArray) := hid (by rw [<- hs]; rfl)
    have hin : Hid (s.In wr) := hid (by
     rw [<- hs]
     exact ⟨ls_of_own (f := TnC.cells) (size := 30) (fun x => rfl) hJ.out.row rfl, fun x hx => (hJ.out.each x hx).inn⟩)
    have hbq : b < q := by have := hJ.out.new; have := hbw.out; omega
    have hBq : B < q := by have := hJ.out.new; have := hBw.out; omega
    have hin6 : Hid (∀ w5 w6, Below wr.heap.size wr w5 -> Wrote [b, B] w5 w6 -> s.In w6) := hid fun w5 w6 h5 h6 => by
     rw [<- hs]
     refine ⟨ls_of_own (f := TnC.cells) (size := 30) (fun x => rfl) (not_own (ownsRow_below hJ.out.row h5) h6 (fun y hy hm => ?_)) rfl, fun x hx => (((hJ.out.each x hx).step (Wrote.of_below (M := []) h5) (fun k hk => by cases hk) (fun k hk => .inl hk)).step h6 (fun k hk => .inl (by simp at hk; rcases hk with rfl | rfl <;> simp)) (fun k hk => .inl hk)).inn⟩
     have := (hJ.out.row.lt y (mem_blk.1 hm)).1
     simp at hy
     omega
    clear hBq;clear hbq;have hso := hJ.out.out
    rw [hsA.out] at hso
    have CR := hid (sc_right s 390 wr hin.out (KW.out _ hJ.out.keep).2 (hN.out _ hsc.out) (fun x hx => hK.out _ hsc.out x (List.mem_map_of_mem hx)))
    obtain ⟨sv, hsv⟩ : ∃ sv, s.cells.toArray = sv := ⟨_, rfl⟩
    have is : (Tryz.prog.info? 30).map (·.size) = some sv.size := by rw [<- hsv]; exact (by kernel_rfl : (Tryz.prog.info? 30).map (·.size) = some 9)
    have HSO := hid hso;rw [hsv] at hso CR HSO
    have hsz : sv.size = 9 := by rw [<- hsv]; rfl
    have hone : Hid (∀ u ∈ sv.toList, u.oneCell' = true) := hid (by rw [<- hsv]; simp [ScC.cells, Value.oneCell'])
    replace hsv := hid hsv;replace hsz := hid hsz;clear hs hnil hz hall
    go_wp2_with (first
     | (go_at_call 25; refine CLJ.out.mono ?_; rintro e w4 ⟨rfl, rfl⟩)
     | (refine wL 30 rfl rfl hso Tryz.underlying30 ?_ rfl rfl is))
    refine CR.out.mono ?_
    rintro e w5 ⟨r, hr, rfl, hb5⟩
    have HB5 := hid (hJ.out.keep.trans (hb5.mono hJ.out.keep.size))
    have KW5 := (KW.out _ HB5.out).1
    have hso5 := HSO.out.below hb5
    have hin5 := hid (hin.out.below hb5)
    cases r with
    | false =>
     have H := hid (KW5.bad (C := C) hl6.out (fun s' hs' h => by
      rw [hsc.out] at hs'
      cases hs'
      have := hr.2 h
      simp at this))
     exact ⟨rfl, some 390, rfl, H.out, H.out.err⟩
    | true =>
     have HB50 := hid hb5;have hr' : Hid (rightS s.sc) := hid (by simpa using hr)
     have hob5 := KW5.out
     have hbl := hid (show w0.heap.size <= b from hb0)
     have hBb' := hid hBb;have HE5 := hid KW5.err;have HK5 := hid KW5.below;clear hr hb5 KW5 hso
     go_wp2_with (first
      | (refine wL 30 rfl rfl hso5 Tryz.underlying30 ?_ rfl rfl is)
      | (refine wS 30 9 rfl b zSc.cells.toArray sv rfl rfl hob5 hsz.out rfl hone.out ?_; intro w6 hw6 hr6))
     have H : PaR C l w0 b B none w6 := ⟨hr6.boxed (by simpa using hBb'.out) HE5.out, HK5.out.trans (hr6.below (n₀ := w0.heap.size) HK5.out.size (by simp; exact hbl.out)), .inr (.inr ⟨hl6.out, s, hsc.out, hr'.out, rfl, by rw [hsv.out]; exact hw6, fun W' hW' => hin6.out _ _ HB50.out ((hr6.sub (by simp)).trans hW')⟩)⟩
     go_end0
     exact ⟨none, rfl, H, H.err⟩
   ·have d0 : ((l'.length : Int) == 0) = false := by simp; intro h; simp [h] at hpos
    have hbad : Hid (rTurn C false l' = none -> ∀ s, rScript C false l = some s -> ¬ rightS s) := hid fun h s hs => by
     have h1 := (rAll_rMany (rTurn C false) (fun l x r h => by have := rTurn_len h; omega) ts.length l0.length l0 l' _ hJ.out.read (Nat.le_refl _)).2 (by intro e; subst e; simp at hpos) h
     rw [HH.out, h1] at hs
     cases hs
    go_upto_region 5 with (go_at_call 25; refine CLJ.out.mono ?_; rintro e w4 ⟨rfl, rfl⟩)
    have hqp : p < q := hJ.out.rd.lt
    have hqw : q < wr.heap.size := hJ.out.rdr.lt
    go_cut [5] from 47 to 70 (fun s5 wx => ∃ (tb k c : Nat) (l2 : List UInt8), s5 = .pointer (some ⟨tb, 0, none⟩) /\ Hid (TuI q p l' tb k c l2 wr wx))
    case first =>
     --BEG
     have xD : Blk wr.drew q #[.pointer (some ⟨p, 0, none⟩)] 61 := hJ.out.rdr
     have BD : Below w.heap.size w wr.drew := hJ.out.keep.drew
     have RD : Rd wr.drew q p l' := hJ.out.rd.below ((Below.refl _ wr).drew)
     have wD : Wrote [p] wr wr.drew := Wrote.of_below ((Below.refl _ wr).drew)
     have hpw := hJ.out.new.2.1
     refine regionP [(1000, fun w' => Blk w' q #[.pointer (some ⟨p, 0, none⟩)] 61)] ?_ (by kernel_rfl) ⟨xD, trivial⟩ fun KQ hKQ => ?_
     ·intro c a d v w h
      cases d <;> exact h
     try simp only [PT]
     refine loadQ 0 rfl (by kernel_rfl) (by kernel_rfl) rfl rfl 0 rfl (by kernel_rfl) (.agg #[.pointer (some ⟨p, 0, none⟩)]) (fun w' hf => by (exact run_load_blk hf 61 Tryz.underlying61 rfl (by kernel_rfl))) ?_
     simp only [PT];refine loadQ 2 rfl (by kernel_rfl) (by kernel_rfl) rfl rfl 0 rfl (by kernel_rfl) (.agg #[.pointer (some ⟨p, 0, none⟩)]) (fun w' hf => by (exact run_load_blk hf 61 Tryz.underlying61 rfl (by kernel_rfl))) ?_
     simp only [PT];obtain ⟨WD, hWD⟩ : ∃ W, wr.drew = W := ⟨_, rfl⟩
     have hsD : wr.heap.size = WD.heap.size := by rw [<- hWD]; rfl
     rw [hWD] at xD BD RD wD ⊢
     refine stepM [1, 5] (fun j hj => ?_)
     have hj : j = 1 \/ j = 5 := by simpa using hj
     rcases hj with rfl | rfl
     ·refine ⟨⟨_, rfl, by kernel_rfl, fun K hK => ?_⟩⟩
      go_simp;refine (sc_number RD 1 (by decide) (by decide)).mono ?_
      rintro e wa (⟨hno, rfl, hwa⟩ | ⟨⟨k1, r1⟩, hx1, rfl, Ra, hwa⟩)
      ·refine hKQ.out _ _ _ ?_
       have hb := BD.trans (hwa.below (n₀ := w.heap.size) BD.size (by simp; omega))
       have H := (KW.out _ hb).1.bad (C := C) hl6.out (hbad.out (by
        unfold rTurn
        rw [hno]; rfl))
       exact ⟨rfl, some 390, rfl, H, H.err⟩
      dsimp only at Ra ⊢
      have Ba := BD.trans (hwa.below (n₀ := w.heap.size) BD.size (by simp; omega))
      have xa := xD.keepW hwa (by simp; omega)
      have fa := wD.trans hwa
      refine hK _ _ ⟨⟨fun _ => xa, trivial⟩, ?_⟩
      clear hK K;try simp only [PT]
      refine stepM [3, 5] (fun j hj => ?_)
      have hj : j = 3 \/ j = 5 := by simpa using hj
      rcases hj with rfl | rfl
      ·refine ⟨⟨_, rfl, by kernel_rfl, fun K hK => ?_⟩⟩
       go_simp;refine (sc_number Ra 2 (by decide) (by decide)).mono ?_
       rintro e wb (⟨hno, rfl, hwb⟩ | ⟨⟨k2, r2⟩, hx2, rfl, Rb, hwb⟩)
       ·refine hKQ.out _ _ _ ?_
        have hb := Ba.trans (hwb.below (n₀ := w.heap.size) Ba.size (by simp; omega))
        have H := (KW.out _ hb).1.bad (C := C) hl6.out (hbad.out (by
         unfold rTurn
         rw [hx1, Option.bind_some]; dsimp only; rw [hno]; rfl))
        exact ⟨rfl, some 390, rfl, H, H.err⟩
       dsimp only at Rb ⊢
       have Bb := Ba.trans (hwb.below (n₀ := w.heap.size) Ba.size (by simp; omega))
       have xb := xa.keepW hwb (by simp; omega)
       have fb := fa.trans hwb
       refine hK _ _ ⟨⟨fun _ => xb, trivial⟩, ?_⟩
       clear hK K;try simp only [PT]
       refine buildQ 4 #[(0, .int .i64 (k1 : Int)), (1, .int .i64 (k2 : Int))] _ rfl rfl rfl (build_tn0 _ _) ?_
       try simp only [PT]
       refine sQ 5 fun K hK => ?_;simp only [GO];go_simp;have xc := xb.alloc (.cells zT 55)
       have Bc := Bb.alloc Bb.size (.cells zT 55)
       have Rc := Rb.below ((Below.refl _ wb).alloc (Nat.le_refl _) (.cells zT 55))
       have fc := fb.trans (Wrote.alloc [p] wb (.cells zT 55))
       have oc : Blk (wb.alloc (.cells zT 55)) wb.heap.size zT 55 := Blk.new _ _ _
       have sc : wr.heap.size <= wb.heap.size := fb.size
       refine hK _ _ ⟨⟨fun _ => xc, trivial⟩, ?_⟩
       clear hK K;try simp only [PT]
       refine sQ 6 fun K hK => ?_;simp only [GO];refine wW 55 30 rfl wb.heap.size zT ((tn0 k1 k2).cells h3Z hdZ).toArray rfl rfl oc rfl rfl (by simp [Tn.cells, Value.oneCell']) fun wz hwz hrz => ?_
       have hxz := xc.keepW hrz (by simp; omega)
       refine hK _ _ ⟨⟨fun _ => hxz, trivial⟩, ?_⟩
       clear hK K;try simp only [PT]
       refine dQ (hKQ.out _ _ _ ?_)
       have HT : Hid (TuI q p l' wb.heap.size k1 k2 r2 wr wz) := hid (TuI.mk' hx1 hx2 fc Rc hrz hwz sc (by omega))
       clear hKQ KQ;go_wp2
       go_meet
       case rel => exact ⟨_, _, _, _, rfl, HT⟩
      ·refine ⟨⟨_, rfl, by kernel_rfl, fun K hK => ?_⟩⟩
       go_simp;have xb := xa.alloc (.cells zT 55)
       have Bb := Ba.alloc Ba.size (.cells zT 55)
       have Rb := Ra.below ((Below.refl _ wa).alloc (Nat.le_refl _) (.cells zT 55))
       have fb := fa.trans (Wrote.alloc [p] wa (.cells zT 55))
       have o2 : Blk (wa.alloc (.cells zT 55)) wa.heap.size zT 55 := Blk.new _ _ _
       have sb : wr.heap.size <= wa.heap.size := fa.size
       refine hK _ _ ⟨⟨fun _ => xb, trivial⟩, ?_⟩
       clear hK K;try simp only [PT]
       refine sQ 3 fun K hK => ?_;simp only [GO];go_simp;refine (sc_number Rb 2 (by decide) (by decide)).mono ?_
       rintro e wc (⟨hno, rfl, hwc⟩ | ⟨⟨k2, r2⟩, hx2, rfl, Rc, hwc⟩)
       ·refine hKQ.out _ _ _ ?_
        have hb := Bb.trans (hwc.below (n₀ := w.heap.size) Bb.size (by simp; omega))
        have H := (KW.out _ hb).1.bad (C := C) hl6.out (hbad.out (by
         unfold rTurn
         rw [hx1, Option.bind_some]; dsimp only; rw [hno]; rfl))
        exact ⟨rfl, some 390, rfl, H, H.err⟩
       dsimp only at Rc ⊢
       have Bc := Bb.trans (hwc.below (n₀ := w.heap.size) Bb.size (by simp; omega))
       have xc := xb.keepW hwc (by simp; omega)
       have fc := fb.trans hwc
       have oc := o2.keepW hwc (by have := Ra.lt; have := Ra.base; simp; omega)
       refine hK _ _ ⟨⟨fun _ => xc, trivial⟩, ?_⟩
       clear hK K;try simp only [PT]
       refine buildQ 4 #[(0, .int .i64 (k1 : Int)), (1, .int .i64 (k2 : Int))] _ rfl rfl rfl (build_tn0 _ _) ?_
       try simp only [PT]
       refine sQ 6 fun K hK => ?_;simp only [GO];refine wW 55 30 rfl wa.heap.size zT ((tn0 k1 k2).cells h3Z hdZ).toArray rfl rfl oc rfl rfl (by simp [Tn.cells, Value.oneCell']) fun wz hwz hrz => ?_
       have hxz := xc.keepW hrz (by simp; omega)
       refine hK _ _ ⟨⟨fun _ => hxz, trivial⟩, ?_⟩
       clear hK K;try simp only [PT]
       refine dQ (hKQ.out _ _ _ ?_)
       have HT : Hid (TuI q p l' wa.heap.size k1 k2 r2 wr wz) := hid (TuI.mk' hx1 hx2 fc Rc hrz hwz sb (by omega))
       clear hKQ KQ;go_wp2
       go_meet
       case rel => exact ⟨_, _, _, _, rfl, HT⟩
     ·refine ⟨⟨_, rfl, by kernel_rfl, fun K hK => ?_⟩⟩
      go_simp;have xa := xD.alloc (.cells zT 55)
      have Ba := BD.alloc BD.size (.cells zT 55)
      have Ra := RD.below ((Below.refl _ WD).alloc (Nat.le_refl _) (.cells zT 55))
      have fa := wD.trans (Wrote.alloc [p] WD (.cells zT 55))
      have oa : Blk (WD.alloc (.cells zT 55)) WD.heap.size zT 55 := Blk.new _ _ _
      have sa : wr.heap.size <= WD.heap.size := wD.size
      refine hK _ _ ⟨⟨fun _ => xa, trivial⟩, ?_⟩
      clear hK K;try simp only [PT]
      refine sQ 1 fun K hK => ?_;simp only [GO];go_simp;refine (sc_number Ra 1 (by decide) (by decide)).mono ?_
      rintro e wb (⟨hno, rfl, hwb⟩ | ⟨⟨k1, r1⟩, hx1, rfl, Rb, hwb⟩)
      ·refine hKQ.out _ _ _ ?_
       have hb := Ba.trans (hwb.below (n₀ := w.heap.size) Ba.size (by simp; omega))
       have H := (KW.out _ hb).1.bad (C := C) hl6.out (hbad.out (by
        unfold rTurn
        rw [hno]; rfl))
       exact ⟨rfl, some 390, rfl, H, H.err⟩
      dsimp only at Rb ⊢
      have Bb := Ba.trans (hwb.below (n₀ := w.heap.size) Ba.size (by simp; omega))
      have xb := xa.keepW hwb (by simp; omega)
      have fb := fa.trans hwb
      have o2 := oa.keepW hwb (by have := RD.lt; have := RD.base; simp; omega)
      refine hK _ _ ⟨⟨fun _ => xb, trivial⟩, ?_⟩
      clear hK K;try simp only [PT]
      refine sQ 3 fun K hK => ?_;simp only [GO];go_simp;refine (sc_number Rb 2 (by decide) (by decide)).mono ?_
      rintro e wc (⟨hno, rfl, hwc⟩ | ⟨⟨k2, r2⟩, hx2, rfl, Rc, hwc⟩)
      ·refine hKQ.out _ _ _ ?_
       have hb := Bb.trans (hwc.below (n₀ := w.heap.size) Bb.size (by simp; omega))
       have H := (KW.out _ hb).1.bad (C := C) hl6.out (hbad.out (by
        unfold rTurn
        rw [hx1, Option.bind_some]; dsimp only; rw [hno]; rfl))
       exact ⟨rfl, some 390, rfl, H, H.err⟩
      dsimp only at Rc ⊢
      have Bc := Bb.trans (hwc.below (n₀ := w.heap.size) Bb.size (by simp; omega))
      have xc := xb.keepW hwc (by simp; omega)
      have fc := fb.trans hwc
      have o3 := o2.keepW hwc (by have := RD.lt; have := RD.base; simp; omega)
      refine hK _ _ ⟨⟨fun _ => xc, trivial⟩, ?_⟩
      clear hK K;try simp only [PT]
      refine buildQ 4 #[(0, .int .i64 (k1 : Int)), (1, .int .i64 (k2 : Int))] _ rfl rfl rfl (build_tn0 _ _) ?_
      try simp only [PT]
      refine sQ 6 fun K hK => ?_;simp only [GO];refine wW 55 30 rfl WD.heap.size zT ((tn0 k1 k2).cells h3Z hdZ).toArray rfl rfl o3 rfl rfl (by simp [Tn.cells, Value.oneCell']) fun wz hwz hrz => ?_
      have hxz := xc.keepW hrz (by simp; omega)
      refine hK _ _ ⟨⟨fun _ => hxz, trivial⟩, ?_⟩
      clear hK K;try simp only [PT]
      refine dQ (hKQ.out _ _ _ ?_)
      have HT : Hid (TuI q p l' WD.heap.size k1 k2 r2 wr wz) := hid (TuI.mk' hx1 hx2 fc Rc hrz hwz sa (by omega))
      clear hKQ KQ;go_wp2
      go_meet
      case rel => exact ⟨_, _, _, _, rfl, HT⟩
     --END
    case rest =>
     obtain ⟨tb, k, c, l2, rfl, hT⟩ := hcut
     obtain ⟨wd, hwd⟩ : ∃ W, W = wc := ⟨_, rfl⟩
     subst hwd;have hb50 := hid (hJ.out.keep.trans (hT.out.wrote.below (n₀ := w.heap.size) hJ.out.keep.size (by have := hJ.out.new.2.1; simp; omega)))
     have hb5 := hid (Below.refl wd.heap.size wd)
     obtain ⟨x, hx⟩ : ∃ x : TnC, (⟨tn0 k c, h3Z, hdZ⟩ : TnC) = x := ⟨_, rfl⟩
     obtain ⟨xc, hxc⟩ : ∃ xc, x.cells = xc := ⟨_, rfl⟩
     obtain ⟨kd, hkd⟩ : ∃ z : Int, x.t.kind = z := ⟨_, rfl⟩
     have hwd' : Hid (Blk wd tb xc.toArray 55) := hid (by rw [<- hxc, <- hx]; exact hT.out.turn)
     have kc : Hid (∀ W, Blk W tb xc.toArray 55 -> W.cell? ⟨tb, 0, none⟩ = some (.int .i64 kd)) := hid fun W hb => by rw [hb.cell, <- hxc, <- hkd]; rfl
     have hxt : Hid (x.t = tn0 k c) := hid (by rw [<- hx])
     replace hkd := hid hkd;replace hxc := hid hxc;replace hx := hid hx;clear CLJ;go_upto_region 6 with fail
     go_cut [6, 7] from 52 to 70 (fun s6 s7 wx => ∃ (kb : Nat) (g1 g2 g3 g4 : Value) (is : Bool), s6 = .pointer (some ⟨kb, 0, none⟩) /\ s7 = .bool is /\ Hid (KAt wd tb xc.toArray x kb g1 g2 g3 g4 is wx))
     case first =>
      have BW5 : Below wd.heap.size wd wd.drew := hb5.out.drew
      have tW5 : Blk wd.drew tb xc.toArray 55 := hwd'.out
      refine regionQ [(1000, fun w' => Blk w' tb xc.toArray 55)] (by kernel_rfl) ⟨tW5, trivial⟩ fun KQ hKQ => ?_
      try simp only [PT]
      obtain ⟨W5, hW5⟩ : ∃ W, wd.drew = W := ⟨_, rfl⟩
      rw [hW5] at BW5 tW5 ⊢
      refine tQ [1] ?_;refine loadQ 2 rfl (by kernel_rfl) (by kernel_rfl) rfl rfl 0 rfl (by kernel_rfl) (.int .i64 kd) (fun w' hf => by (have k0 := kc.out _ hf; go_simp <;> with_reducible rfl)) ?_
      simp only [PT];refine stepM [0, 7] (fun j hj => ?_)
      have hj : j = 0 \/ j = 7 := by simpa using hj
      rcases hj with rfl | rfl
      ·refine ⟨⟨_, rfl, by kernel_rfl, fun K hK => ?_⟩⟩
       go_simp;refine (sc_kinds _).mono ?_
       rintro e w6 ⟨m, c, rfl, hm, hc, hb6⟩
       have ht6 := tW5.below hb6
       obtain ⟨g1, g2, g3, g4, hg, hone, hsome⟩ := kindG_agg c kd
       have hB6 := BW5.trans (hb6.mono BW5.size)
       refine hK _ _ ⟨⟨fun _ => ht6, trivial⟩, ?_⟩
       clear hK K;try simp only [PT]
       refine atR_more [(1000, fun w' => Blk w' tb xc.toArray 55), (1000, fun w' => IM .i64 w' m (kindG c))] (by simp) ⟨fun _ => ht6, fun _ => hm, trivial⟩ ?_
       refine lookQ 3 rfl (by kernel_rfl) (by kernel_rfl) rfl rfl rfl 1 rfl (by kernel_rfl) (.tuple #[.agg #[g1, g2, g3, g4], .bool (kindG c kd).isSome]) (fun w' hf => (look_kd hf kd).trans (by rw [hg])) ?_
       try simp only [PT]
       refine tQ [4, 5, 6] ?_;obtain ⟨is, his⟩ : ∃ b, (kindG c kd).isSome = b := ⟨_, rfl⟩
       rw [his]
       refine sQ 7 fun K hK => ?_;simp only [GO];go_simp;refine hK _ _ ⟨⟨fun _ => ht6.alloc _, fun _ => hm.alloc _, trivial⟩, ?_⟩
       clear hK K;try simp only [PT]
       refine sQ 8 fun K hK => ?_;simp only [GO];refine wW 71 4 rfl w6.heap.size zKd #[g1, g2, g3, g4] rfl rfl (Blk.new _ _ _) rfl rfl hone fun w7 hw7 hr7 => ?_
       replace hr7 : Wrote [w6.heap.size] (w6.alloc (.cells zKd 71)) w7 := hr7
       have hs6 := hB6.size
       have hz6 : (w6.alloc (.cells zKd 71)).heap.size = w6.heap.size + 1 := by simp
       have hb7 := (hB6.alloc hB6.size (.cells zKd 71)).trans (hr7.below (by omega) (by simp; omega))
       have ht7 := (ht6.alloc (.cells zKd 71)).keepW hr7 (by have := ht6.lt; simp; omega)
       have hc7 := hr7.boxed (by have := hc.lt; simp; omega) (hc.alloc (.cells zKd 71))
       have hm7 := (hm.alloc (.cells zKd 71)).wrote hr7 (by have := hm.lt; simp; omega)
       refine hK _ _ ⟨⟨fun _ => ht7, fun _ => hm7, trivial⟩, ?_⟩
       clear hK K;try simp only [PT]
       refine tQ [9] ?_;refine dQ (hKQ.out _ _ ?_);clear hKQ KQ;have hR := hid (show KAt wd tb xc.toArray x w6.heap.size g1 g2 g3 g4 is w7 from ⟨hb7, ht7, hw7, fun h => kindG_none (by rw [hkd.out]; rw [<- his] at h; exact Option.isSome_eq_false_iff.1 h |> Option.isNone_iff_eq_none.1), fun h => ⟨c, by rw [hkd.out]; exact hsome (by rw [his, h]), hc7⟩⟩)
       go_wp2
       go_meet
       case rel => exact ⟨_, _, _, _, _, _, rfl, rfl, hR⟩
      ·refine ⟨⟨_, rfl, by kernel_rfl, fun K hK => ?_⟩⟩
       go_simp;refine hK _ _ ⟨⟨fun _ => tW5.alloc _, trivial⟩, ?_⟩
       clear hK K;try simp only [PT]
       refine sQ 0 fun K hK => ?_;simp only [GO];go_simp;refine (sc_kinds _).mono ?_
       rintro e w6 ⟨m, c, rfl, hm, hc, hb6⟩
       have ht6 := (tW5.alloc (.cells zKd 71)).below hb6
       have hk6 := (Blk.new W5 zKd 71).below hb6
       obtain ⟨g1, g2, g3, g4, hg, hone, hsome⟩ := kindG_agg c kd
       have hs5 := BW5.size
       have hz5 : (W5.alloc (.cells zKd 71)).heap.size = W5.heap.size + 1 := by simp
       have hB6 := (BW5.alloc hs5 (.cells zKd 71)).trans (hb6.mono (by simp; omega))
       have hb6s : W5.heap.size + 1 <= w6.heap.size := by have := hb6.size; simpa using this
       refine hK _ _ ⟨⟨fun _ => ht6, trivial⟩, ?_⟩
       clear hK K;try simp only [PT]
       refine atR_more [(1000, fun w' => Blk w' tb xc.toArray 55), (1000, fun w' => IM .i64 w' m (kindG c))] (by simp) ⟨fun _ => ht6, fun _ => hm, trivial⟩ ?_
       refine lookQ 3 rfl (by kernel_rfl) (by kernel_rfl) rfl rfl rfl 1 rfl (by kernel_rfl) (.tuple #[.agg #[g1, g2, g3, g4], .bool (kindG c kd).isSome]) (fun w' hf => (look_kd hf kd).trans (by rw [hg])) ?_
       try simp only [PT]
       refine tQ [4, 5, 6] ?_;obtain ⟨is, his⟩ : ∃ b, (kindG c kd).isSome = b := ⟨_, rfl⟩
       rw [his]
       refine sQ 8 fun K hK => ?_;simp only [GO]
       have hne : m ≠ W5.heap.size := fun h => by
        obtain ⟨es, cl, h1, -⟩ := hm
        have h2 : w6.heap[W5.heap.size]? = _ := hk6
        rw [h, h2] at h1
        cases h1
       have hnc : c ≠ W5.heap.size := fun h => by
        have h1 : w6.heap[c]? = _ := hc
        have h2 : w6.heap[W5.heap.size]? = _ := hk6
        rw [h, h2] at h1
        cases h1
       refine wW 71 4 rfl W5.heap.size zKd #[g1, g2, g3, g4] rfl rfl hk6 rfl rfl hone fun w7 hw7 hr7 => ?_
       have hb7 := hB6.trans (hr7.below (by have := hB6.size; omega) (by simp; omega))
       have ht7 := ht6.keepW hr7 (by have := tW5.lt; simp; omega)
       have hc7 := hr7.boxed (by simpa using hnc) hc
       have hm7 := hm.wrote hr7 (by simpa using hne)
       refine hK _ _ ⟨⟨fun _ => ht7, fun _ => hm7, trivial⟩, ?_⟩
       clear hK K;try simp only [PT]
       refine tQ [9] ?_;refine dQ (hKQ.out _ _ ?_);clear hKQ KQ;have hR := hid (show KAt wd tb xc.toArray x W5.heap.size g1 g2 g3 g4 is w7 from ⟨hb7, ht7, hw7, fun h => kindG_none (by rw [hkd.out]; rw [<- his] at h; exact Option.isSome_eq_false_iff.1 h |> Option.isNone_iff_eq_none.1), fun h => ⟨c, by rw [hkd.out]; exact hsome (by rw [his, h]), hc7⟩⟩)
       go_wp2
       go_meet
       case rel => exact ⟨_, _, _, _, _, _, rfl, rfl, hR⟩
     case rest =>
      obtain ⟨kb, g1, g2, g3', g4, is, rfl, rfl, hK⟩ := hcut
      obtain ⟨we, hwe⟩ : ∃ W, W = wc := ⟨_, rfl⟩
      subst hwe;have HB6 := hid (hb50.out.trans (hK.out.below.mono hb50.out.size))
      have hxk : Hid (x.t.kind = k) := hid (by rw [hxt.out]; rfl)
      cases is with
      | false =>
       have hno : Hid (∀ s, rScript C false l = some s -> ¬ rightS s) := hid (hbad.out (by
        obtain ⟨r1, h1, h2⟩ := hT.out.nums
        unfold rTurn
        rw [h1, Option.bind_some]
        dsimp only
        rw [h2, Option.bind_some]
        exact rPart_no (by
         have h3 := hK.out.none rfl
         rw [hxk.out] at h3
         exact h3) _))
       have H := hid ((KW.out _ HB6.out).1.bad (C := C) hl6.out hno.out)
       clear hb5;go_wp2_with (go_at_call 19; refine (CM.out _ _ _).mono ?_; rintro e w9 ⟨rfl, rfl⟩)
       exact ⟨rfl, some 390, rfl, H.out, H.out.err⟩
      | true =>
       obtain ⟨c', hkg, hbx⟩ := hK.out.some rfl
       rw [hxk.out] at hkg
       obtain ⟨r1, hn1, hn2⟩ := hT.out.nums
       have h19 : 19 <= l.length := by
        have e1 := rNum_len hn1
        have e2 := rNum_len hn2
        have e3 := hJ.out.len
        have e4 := hl0.out
        omega
       obtain ⟨f1, c1, f2, c2, f3, c3, f4, c4, hv, hf4, hrd⟩ := hD.out h19 k c' _ hkg
       simp only [Value.agg.injEq, Array.mk.injEq, List.cons.injEq, and_true] at hv
       obtain ⟨rfl, rfl, rfl, rfl⟩ := hv
       have k3 : we.cell? ⟨kb, 3, none⟩ = some (fnV f4 c4) := hK.out.kind.cell 3
       have xqE := (hJ.out.rdr.keepW hT.out.wrote (by simp; omega)).below hK.out.below
       have tE : Blk we tb ((tn0 k c).cells h3Z hdZ).toArray 55 := by
        have := hK.out.turn
        rw [<- hxc.out, <- hx.out] at this
        exact this
       have CR4 := hid (hrd we q p l2 tb c (hT.out.rd.below hK.out.below) tE (by have := hT.out.new; omega))
       have hrt := hid (show rTurn C false l' = rPart C false (tn0 k c) l2 by
        unfold rTurn
        rw [hn1, Option.bind_some]
        dsimp only
        rw [hn2, Option.bind_some]
        rfl)
       unfold fnC at hf4
       unfold fnV at k3
       have hl2 := hid (show l2.length < l'.length by
        have e1 := rNum_len hn1
        have e2 := rNum_len hn2
        omega)
       have htn := hT.out.new
       clear hb5 hrd hn1 hn2 h19 hbx hkg tE
       go_wp2_with (first
        | (go_at_call 19; refine (CM.out _ _ _).mono ?_; rintro e w9 ⟨rfl, rfl⟩)
        | (refine wL 61 rfl rfl xqE Tryz.underlying61 ?_))
       refine CR4.out.mono ?_
       rintro e w7 ⟨hw7, hx7⟩
       have HB7 := hid (HB6.out.trans (hw7.below (n₀ := w.heap.size) HB6.out.size (by have := hJ.out.new.2.1; have := hJ.out.keep.size; simp; omega)))
       rcases hx7 with ⟨hno, rfl⟩ | ⟨y, l3, hyr, rfl, hR7, hy7, hyn⟩
       ·have H := hid ((KW.out _ HB7.out).1.bad (C := C) hl6.out (hbad.out (by rw [hrt.out, hno])))
        exact ⟨rfl, some 390, rfl, H.out, H.out.err⟩
       ·have hWt : Hid (Wrote [p, tb] wr w7) := hid (((hT.out.wrote.sub (by simp)).trans (Wrote.of_below hK.out.below)).trans hw7)
        obtain ⟨j1, j2, j3, j4, n1, n2, n3, m1, m2, m3⟩ := hJ.out.kept hWt.out htn
        obtain ⟨av, cv, rfl⟩ := own_slice hJ.out.row
        have hyM : Hid (InN w7 y (b :: B :: p :: ob :: blk (.slice av ts.length cv))) := hid (hyn _ (fun k hb => by
         have z1 : wr.heap.size <= we.heap.size := Nat.le_trans hT.out.wrote.size hK.out.below.size
         simp only [List.mem_cons] at hb
         rcases hb with rfl | rfl | rfl | rfl | hb
         ·have := (KW.out _ hJ.out.keep).1.out.lt; omega
         ·have := (KW.out _ hJ.out.keep).1.err.lt; omega
         ·omega
         ·have := hJ.out.out.lt; omega
         ·have := (hJ.out.row.lt k (mem_blk.1 hb)).2; omega))
        have kv : w7.cell? ⟨ob, 8, none⟩ = some (.slice av ts.length cv) := j1.cell 8
        have hm6 : Hid (ts.length <= 65536) := hid (by have := hJ.out.len; have := hl0.out; have := hl6.out; omega)
        have oy := hid (Tn.one y.t y.h y.hp)
        have hB7 := HB7.out.size
        have hq7 : q <= w7.heap.size := by have := hWt.out.size; omega
        obtain ⟨yc, hyc⟩ : ∃ yc, y.cells = yc := ⟨_, rfl⟩
        have sy : yc.length = 30 := by rw [<- hyc]; rfl
        have oy : Hid (∀ u ∈ yc, u.oneCell' = true) := hid (by rw [<- hyc]; exact fun u hu => oy.out u (by simpa [TnC.cells] using hu))
        rw [hyc] at hy7
        have iy : (Tryz.prog.info? 55).map (·.size) = some yc.toArray.size := by rw [List.size_toArray, sy]; exact (by kernel_rfl : (Tryz.prog.info? 55).map (·.size) = some 30)
        have j1' := hid (j1.alloc (.cells yc.toArray 55))
        have j3' := hid (ownsRow_below j3 ((Below.refl _ w7).alloc (Nat.le_refl _) (.cells yc.toArray 55)))
        have g7 := hid (Blk.new w7 yc.toArray 55)
        have sy' := hid sy;replace hm6 := hid hm6.out;have HQ7 := hid hq7;have hm2 := hid m2;clear j1 j2 j3 j4 m1 m2 m3 n1 n2 n3 hyn hw7 sy
        go_wp2_with (first
         | (refine wL 55 rfl rfl hy7 Tryz.underlying55 ?_ rfl rfl iy)
         | (refine wpList_plain rfl fun _ hK => wp_slice_one _ rfl eTurn (by decide) (by decide) (.agg yc.toArray) rfl (by rw [show (Value.agg yc.toArray).cells = yc.toArray from rfl, List.size_toArray, sy'.out]) (hK _ _ ?_))
         | (at_builtin; refine append_grp rfl _ _ rfl eTurn (by decide) q (.slice av ts.length cv) ts.length (ts.flatMap TnC.cells) rfl j3'.out w7.heap.size yc 55 rfl g7.out sy'.out oy.out (by have := hm6.out; omega) (by have := hm6.out; omega) (by have := HQ7.out; simp; omega) ?_; intro v' w9 how9 hg9 hn9; obtain ⟨a9, c9, rfl⟩ := own_slice how9; have hw9 : Wrote (blk (.slice av ts.length cv)) (w7.alloc (.cells yc.toArray 55)) w9 := Wrote.of_grown hg9 (fun u hu => mem_blk.2 hu); have j9 := j1'.out.keepW hw9 hm2.out; replace how9 := hid how9; replace hg9 := hid hg9; replace hn9 := hid hn9; replace hw9 := hid hw9)
         | (refine wpList_store_cell rfl 28 30 _ _ rfl (fun w => by kernel_rfl) ob 8 (scA cf z6 (.slice av ts.length cv)) (.slice a9 (ts.length + 1) c9) rfl rfl j9 (by simp [scA]) rfl rfl ?_; intro w10 hw10 hr10))
        have hgg : Wrote (blk (.slice av ts.length cv)) w7 w9 := (Wrote.alloc _ w7 (.cells yc.toArray 55)).trans hw9.out
        have HN := hid (hJ.out.next (tb := tb) (y := y) (l3 := l3) hWt.out htn (by rw [hrt.out]; exact hyr) hR7 hyM.out (by rw [hyc]; exact how9.out) hgg (fun k hk => by
         rcases hn9.out k hk with h | h
         ·exact .inl h
         ·right; simp at h; omega) hr10 hw10)
        have hl3 := hid (show l3.length < l'.length by have h1 := rTurn_len (C := C) (u := false) (l := l') (r := l3) (t := y.t) (by rw [hrt.out]; exact hyr); omega)
        clear hgg j9 hw10 hr10;try simp only [PT]
        go_roundw
        case rel => exact ⟨ts ++ [y], l3, _, HN⟩
        case measure =>
         rw [HN.out.rd.rdLen, hJ.out.rd.rdLen]
         exact hl3.out
end
end Go.Proofs.YtkghejaimhoboaaGreatDoor
