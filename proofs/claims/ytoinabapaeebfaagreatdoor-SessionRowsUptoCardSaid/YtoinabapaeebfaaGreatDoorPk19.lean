/- Parts of the proof of SessionRows: contracts of functions that it reaches, and plain lemmas. No condition of their own. -/
import Derived.Test.YtoinabapaeebfaaGreatDoorPk18
import Derived.Test.YtoinabapaeebfaaGreatDoorPk16
import Derived.Test.YtoinabapaeebfaaGreatDoorPk17
import Derived.Deep.QuietTactic
import Derived.BigQuiet
import Derived.Test.YtoinabapaeebfaaGreatDoorPk15
set_option linter.unusedSimpArgs false
set_option linter.unusedVariables false
set_option maxRecDepth 100000
set_option maxHeartbeats 8000000
namespace Go.Proofs.YtoinabapaeebfaaGreatDoor
open Go.RowKit Go.Shelf
section
theorem wp_world {P : Program} {c : Code} {Q : Exit -> Act -> World -> Prop} {a : Act} {X W : World} (h : X = W) (hw : c.wp P Q a W) : c.wp P Q a X := h ▸ hw
theorem r_SameDid (ps qs : List PackV) (cs ds : List ChangeV) (a1 a2 a3 a4 : Option Addr) (k1 k2 k3 k4 : Nat) (w : World)
  (h1 : w.ownsRow 0 81 24 (.slice a1 ps.length k1) ps.length (ps.flatMap PackV.cells)) (h2 : w.ownsRow 0 115 10 (.slice a2 cs.length k2) cs.length (cs.flatMap ChangeV.cells))
  (h3 : w.ownsRow 0 81 24 (.slice a3 qs.length k3) qs.length (qs.flatMap PackV.cells)) (h4 : w.ownsRow 0 115 10 (.slice a4 ds.length k4) ds.length (ds.flatMap ChangeV.cells))
  (hc : cs.length = ds.length -> cs = ds) (hps : ps.length <= 100000) (hcs : cs.length <= 100000) :
  Calls Tryz.prog 18 #[.agg #[.slice a1 ps.length k1, .slice a2 cs.length k2], .agg #[.slice a3 qs.length k3, .slice a4 ds.length k4]] w fun e w' => (∃ b, e = .returned (.bool b) /\ (ps = qs -> cs = ds -> b = true)) /\ Below w.heap.size w w' := by
 have bel : Below w.heap.size w ((w.alloc (.cells #[.slice a1 ps.length k1, .slice a2 cs.length k2] 53)).alloc (.cells #[.slice a3 qs.length k3, .slice a4 ds.length k4] 53)) := by
  exact belw
 by_cases e1 : ps.length = qs.length
 ·by_cases e2 : cs.length = ds.length
  ·obtain rfl := hc e2
   rw [<- e1] at h3 bel ⊢
   have H1 := hid h1; have H2 := hid h2; have H3 := hid h3; have H4 := hid h4
   have SA := hid r_Same_any;have SR := hid r_Same_refl;clear h1 h2 h3 h4 hc;replace e1 := hid e1;clear e2;have z1 : ((ps.length : Int) != (ps.length : Int)) = false := by simp
   have z2 : ((cs.length : Int) != (cs.length : Int)) = false := by simp
   obtain ⟨W, hW⟩ : ∃ W, W = ((w.alloc (.cells #[.slice a1 ps.length k1, .slice a2 cs.length k2] 53)).alloc (.cells #[.slice a3 ps.length k3, .slice a4 cs.length k4] 53)) := ⟨_, rfl⟩
   rw [<- hW] at bel
   have B1 : Blk W w.heap.size #[.slice a1 ps.length k1, .slice a2 cs.length k2] 53 := by rw [hW]; exact (Blk.new w _ _).alloc _
   have B2 : Blk W (w.heap.size + 1) #[.slice a3 ps.length k3, .slice a4 cs.length k4] 53 := by rw [hW]; exact Blk.new_at _ _ _ _ (by simp)
   have bel := hid bel;have f0 : W.cell? ⟨w.heap.size, 0, none⟩ = some (.slice a1 ps.length k1) := B1.cell 0
   have f1 : W.cell? ⟨w.heap.size, 1, none⟩ = some (.slice a2 cs.length k2) := B1.cell 1
   have f2 : W.cell? ⟨w.heap.size + 1, 0, none⟩ = some (.slice a3 ps.length k3) := B2.cell 0
   have f3 : W.cell? ⟨w.heap.size + 1, 1, none⟩ = some (.slice a4 cs.length k4) := B2.cell 1
   have B1 := hid B1; have B2 := hid B2
   go_enter Tryz.func18, Tryz.ntmps18
   go_upto_region 1 with (fail)
   refine wp_world hW.symm ?_
   clear hW;go_wp2
   go_loopw [5] (fun i wr => ∃ k : Nat, i = .int .i64 k /\ k <= ps.length /\ Hid (Below W.heap.size W wr)) (fun i _ => ps.length - (intOf i).toNat)
   case atStart => exact ⟨0, rfl, Nat.zero_le _, hid (Below.refl _ _)⟩
   case round =>
    obtain ⟨k, rfl, hk, hb⟩ := hrel
    have g0 : wr.cell? ⟨w.heap.size, 0, none⟩ = some (.slice a1 ps.length k1) := (B1.out.below hb.out).cell 0
    have g2 : wr.cell? ⟨w.heap.size + 1, 0, none⟩ = some (.slice a3 ps.length k3) := (B2.out.below hb.out).cell 0
    rcases Nat.lt_or_ge k ps.length with hlt | hge
    ·have dk : decide ((k : Int) < (ps.length : Int)) = true := decide_eq_true (by omega)
     obtain ⟨p, hp⟩ : ∃ p, ps[k]? = some p := ⟨_, List.getElem?_eq_getElem hlt⟩
     obtain ⟨q, hq⟩ : ∃ q, qs[k]? = some q := ⟨_, List.getElem?_eq_getElem (by have := e1.out; omega)⟩
     have hbw := hid (bel.out.trans (hb.out.mono bel.out.size))
     obtain ⟨ga, rfl, la, ra⟩ := own_range PackV.cells PackV.len rfl (ownsRow_below H1.out hbw.out) hp
     obtain ⟨gb, rfl, lb, rb⟩ := own_range PackV.cells PackV.len e1.out.symm (ownsRow_below H3.out hbw.out) hq
     by_cases hpq : p = q
     ·subst hpq
      have CALL := hid fun w => (r_Same_refl p w)
      have hp := hid hp; have hq := hid hq
      have ra := hid ra; have rb := hid rb
      go_wp2_with fail
      have g0 := hid g0; have g2 := hid g2
      refine regionQ [(10, fun w' => w'.cell? ⟨w.heap.size, 0, none⟩ = some (.slice (some ⟨ga, 0, none⟩) ps.length k1)), (10, fun w' => w'.cell? ⟨w.heap.size + 1, 0, none⟩ = some (.slice (some ⟨gb, 0, none⟩) ps.length k3)), (10, fun w' => w'.rangeAt ga (k * 24) p.cells), (10, fun w' => w'.rangeAt gb (k * 24) p.cells)] (by kernel_rfl) ⟨g0.out, g2.out, ra.out, rb.out, trivial⟩ fun KQ hKQ => ?_
      refine tQ [0] ?_;refine loadT 1 rfl (by kernel_rfl) (by kernel_rfl) rfl rfl 0 rfl (by kernel_rfl) _ (fun w' hf => by (go_simp <;> with_reducible rfl)) ?_
      simp only [PT];refine tQ [2, 3] ?_;refine lR 4 2 rfl rfl rfl rfl (v := .agg (p.cells : List Value).toArray) (fun w' hf => run_loadAt_mid w' _ _ 81 (p.cells : List Value) _ hf Tryz.underlying81 rfl (by kernel_rfl)) ?_
      simp only [PT];refine tQ [5] ?_;refine loadT 6 rfl (by kernel_rfl) (by kernel_rfl) rfl rfl 1 rfl (by kernel_rfl) _ (fun w' hf => by (go_simp <;> with_reducible rfl)) ?_
      simp only [PT];refine tQ [7, 8] ?_;refine lR 9 3 rfl rfl rfl rfl (v := .agg (p.cells : List Value).toArray) (fun w' hf => run_loadAt_mid w' _ _ 81 (p.cells : List Value) _ hf Tryz.underlying81 rfl (by kernel_rfl)) ?_
      simp only [PT];have hp := hp.out; have hq := hq.out
      refine sQ 10 fun K hK => ?_;simp only [GO];go_simp;refine (CALL.out _).mono ?_
      rintro e w1 ⟨rfl, hb1⟩
      have hb2 := hid (hb.out.drew.trans (hb1.mono hb.out.drew.size))
      refine hK _ _ ⟨⟨fun h => (by simp at h), fun h => (by simp at h), fun h => (by simp at h), fun h => (by simp at h), trivial⟩, ?_⟩
      clear hK K;refine tQ [11] ?_;refine dQ (hKQ.out _ _ ?_);clear hKQ KQ;go_wp2
      go_roundw
      case rel => exact ⟨k + 1, by go_num, by omega, hb2⟩
      case measure => simp [intOf]; omega
     ·have hpq := hid hpq
      have CALL := hid fun w => (r_Same_any p q w)
      have hp := hid hp; have hq := hid hq
      have ra := hid ra; have rb := hid rb
      go_wp2_with fail
      have g0 := hid g0; have g2 := hid g2
      refine regionQ [(10, fun w' => w'.cell? ⟨w.heap.size, 0, none⟩ = some (.slice (some ⟨ga, 0, none⟩) ps.length k1)), (10, fun w' => w'.cell? ⟨w.heap.size + 1, 0, none⟩ = some (.slice (some ⟨gb, 0, none⟩) ps.length k3)), (10, fun w' => w'.rangeAt ga (k * 24) p.cells), (10, fun w' => w'.rangeAt gb (k * 24) q.cells)] (by kernel_rfl) ⟨g0.out, g2.out, ra.out, rb.out, trivial⟩ fun KQ hKQ => ?_
      refine tQ [0] ?_;refine loadT 1 rfl (by kernel_rfl) (by kernel_rfl) rfl rfl 0 rfl (by kernel_rfl) _ (fun w' hf => by (go_simp <;> with_reducible rfl)) ?_
      simp only [PT];refine tQ [2, 3] ?_;refine lR 4 2 rfl rfl rfl rfl (v := .agg (p.cells : List Value).toArray) (fun w' hf => run_loadAt_mid w' _ _ 81 (p.cells : List Value) _ hf Tryz.underlying81 rfl (by kernel_rfl)) ?_
      simp only [PT];refine tQ [5] ?_;refine loadT 6 rfl (by kernel_rfl) (by kernel_rfl) rfl rfl 1 rfl (by kernel_rfl) _ (fun w' hf => by (go_simp <;> with_reducible rfl)) ?_
      simp only [PT];refine tQ [7, 8] ?_;refine lR 9 3 rfl rfl rfl rfl (v := .agg (q.cells : List Value).toArray) (fun w' hf => run_loadAt_mid w' _ _ 81 (q.cells : List Value) _ hf Tryz.underlying81 rfl (by kernel_rfl)) ?_
      simp only [PT];have hp := hp.out; have hq := hq.out
      refine sQ 10 fun K hK => ?_;simp only [GO];go_simp;refine (CALL.out _).mono ?_
      rintro e w1 ⟨⟨b, rfl⟩, hb1⟩
      have hb2 := hid (hb.out.drew.trans (hb1.mono hb.out.drew.size))
      refine hK _ _ ⟨⟨fun h => (by simp at h), fun h => (by simp at h), fun h => (by simp at h), fun h => (by simp at h), trivial⟩, ?_⟩
      clear hK K;cases b with
      | true =>
       refine tQ [11] ?_;refine dQ (hKQ.out _ _ ?_);clear hKQ KQ;go_wp2
       go_roundw
       case rel => exact ⟨k + 1, by go_num, by omega, hb2⟩
       case measure => simp [intOf]; omega
      | false =>
       refine tQ [11] ?_;refine dQ (hKQ.out _ _ ?_);clear hKQ KQ;go_wp2
       go_ret
       refine ⟨⟨false, rfl, fun h _ => ?_⟩, bel.out.trans (hb2.out.mono bel.out.size)⟩
       subst h;rw [hp] at hq
       exact absurd (Option.some.inj hq) hpq.out
    ·obtain rfl : k = ps.length := by omega
     have dk : decide ((ps.length : Int) < (ps.length : Int)) = false := by simp
     have hb0 := hid (bel.out.trans (hb.out.mono bel.out.size))
     have B1 := hid (B1.out.below hb.out); have B2 := hid (B2.out.below hb.out)
     clear hb f0 f1 f2 f3 hk;go_wp2_with fail
     clear g0 g2;go_loopw [6] (fun i w1 => ∃ k : Nat, i = .int .i64 k /\ k <= cs.length /\ Hid (Below w.heap.size w w1) /\ Hid (Blk w1 w.heap.size #[.slice a1 ps.length k1, .slice a2 cs.length k2] 53) /\ Hid (Blk w1 (w.heap.size + 1) #[.slice a3 ps.length k3, .slice a4 cs.length k4] 53)) (fun i _ => cs.length - (intOf i).toNat)
     case atStart => exact ⟨0, rfl, Nat.zero_le _, hb0, B1, B2⟩
     case round =>
      clear hb0 B1 B2;obtain ⟨k, rfl, hk, hb0, B1, B2⟩ := hrel
      have g1 : wr.cell? ⟨w.heap.size, 1, none⟩ = some (.slice a2 cs.length k2) := B1.out.cell 1
      have g3 : wr.cell? ⟨w.heap.size + 1, 1, none⟩ = some (.slice a4 cs.length k4) := B2.out.cell 1
      rcases Nat.lt_or_ge k cs.length with hlt | hge
      ·have dk : decide ((k : Int) < (cs.length : Int)) = true := decide_eq_true (by omega)
       obtain ⟨p, hp⟩ : ∃ p, cs[k]? = some p := ⟨_, List.getElem?_eq_getElem hlt⟩
       obtain ⟨ga, rfl, la, ra⟩ := own_range ChangeV.cells ChangeV.len rfl (ownsRow_below H2.out hb0.out) hp
       obtain ⟨gb, rfl, lb, rb⟩ := own_range ChangeV.cells ChangeV.len rfl (ownsRow_below H4.out hb0.out) hp
       obtain ⟨dr, ⟨kd, cl, sq, ii, tp, bd, qo, rt, st⟩⟩ := p
       unfold ChangeV.cells RowV.vals at ra rb
       dsimp only at ra rb
       clear hp;have ra := hid ra; have rb := hid rb
       go_wp2_with fail
       have g1 := hid g1; have g3 := hid g3
       refine regionQ [(1000, fun w' => w'.cell? ⟨w.heap.size, 1, none⟩ = some (.slice (some ⟨ga, 0, none⟩) cs.length k2)), (1000, fun w' => w'.cell? ⟨w.heap.size + 1, 1, none⟩ = some (.slice (some ⟨gb, 0, none⟩) cs.length k4)), (1000, fun w' => w'.rangeAt ga (k * 10) [.bool dr, .int .i64 kd, .string ⟨cl.toArray⟩, .int .i64 sq, .int .i64 ii, .string ⟨tp.toArray⟩, .string ⟨bd.toArray⟩, .int .i64 qo, .bool rt, .int .i64 st]), (1000, fun w' => w'.rangeAt gb (k * 10) [.bool dr, .int .i64 kd, .string ⟨cl.toArray⟩, .int .i64 sq, .int .i64 ii, .string ⟨tp.toArray⟩, .string ⟨bd.toArray⟩, .int .i64 qo, .bool rt, .int .i64 st])] (by kernel_rfl) ⟨g1.out, g3.out, ra.out, rb.out, trivial⟩ fun KQ hKQ => ?_
       refine tQ [0] ?_;refine lQ 1 0 ?_;refine tQ [2, 3] ?_;refine lR 4 2 rfl rfl rfl rfl (v := .agg ([.bool dr, .int .i64 kd, .string ⟨cl.toArray⟩, .int .i64 sq, .int .i64 ii, .string ⟨tp.toArray⟩, .string ⟨bd.toArray⟩, .int .i64 qo, .bool rt, .int .i64 st] : List Value).toArray) (fun w' hf => run_loadAt_mid w' _ _ 115 ([.bool dr, .int .i64 kd, .string ⟨cl.toArray⟩, .int .i64 sq, .int .i64 ii, .string ⟨tp.toArray⟩, .string ⟨bd.toArray⟩, .int .i64 qo, .bool rt, .int .i64 st] : List Value) _ hf Tryz.underlying115 rfl (by kernel_rfl)) ?_
       simp only [PT];refine tQ [5] ?_;refine lQ 6 1 ?_;refine tQ [7, 8] ?_;refine lR 9 3 rfl rfl rfl rfl (v := .agg ([.bool dr, .int .i64 kd, .string ⟨cl.toArray⟩, .int .i64 sq, .int .i64 ii, .string ⟨tp.toArray⟩, .string ⟨bd.toArray⟩, .int .i64 qo, .bool rt, .int .i64 st] : List Value).toArray) (fun w' hf => run_loadAt_mid w' _ _ 115 ([.bool dr, .int .i64 kd, .string ⟨cl.toArray⟩, .int .i64 sq, .int .i64 ii, .string ⟨tp.toArray⟩, .string ⟨bd.toArray⟩, .int .i64 qo, .bool rt, .int .i64 st] : List Value) _ hf Tryz.underlying115 rfl (by kernel_rfl)) ?_
       simp only [PT];refine tQ [10] ?_;refine dQ (hKQ.out _ _ ?_);clear hKQ KQ;go_wp2
       go_roundw
       case rel => exact ⟨k + 1, by go_num, by omega, hid hb0.out.drew, hid B1.out.drew, hid B2.out.drew⟩
       case measure => simp [intOf]; omega
      ·obtain rfl : k = cs.length := by omega
       have dk : decide ((cs.length : Int) < (cs.length : Int)) = false := by simp
       go_wp2
       go_ret
       exact ⟨⟨true, rfl, fun _ _ => rfl⟩, hb0.out⟩
  ·have d2 : (cs.length != ds.length) = true := by simpa using e2
   have n1 : ((ps.length : Int) != (qs.length : Int)) = false := by simp; omega
   have n2 : ((cs.length : Int) != (ds.length : Int)) = true := by simp; omega
   go_enter Tryz.func18, Tryz.ntmps18
   go_wp2
   go_ret
   refine ⟨⟨false, rfl, fun _ h => absurd (congrArg List.length h) e2⟩, ?_⟩
   exact belw
 ·have n1 : ((ps.length : Int) != (qs.length : Int)) = true := by simp; omega
  go_enter Tryz.func18, Tryz.ntmps18
  go_wp2
  go_ret
  refine ⟨⟨false, rfl, fun h _ => absurd (congrArg List.length h) e1⟩, ?_⟩
  exact belw
end
section
structure ActV where
 kind : Int
 qos : Int
 topic : List UInt8
 body : List UInt8
 retain : Bool
 pack : Int
 id : Int
def ActV.cells (x : ActV) : Array Value := #[.int .i64 x.kind, .int .i64 x.qos, .string ⟨x.topic.toArray⟩, .string ⟨x.body.toArray⟩, .bool x.retain, .int .i64 x.pack, .int .i64 x.id]
def OS.doPut (s : OS) (x : ActV) : SS :=
 if putMay (s.row x.topic x.body x.qos x.retain) = true /\ (s.l.length : Int) < s.room then ⟨s.put (s.row x.topic x.body x.qos x.retain), [], [⟨false, s.row x.topic x.body x.qos x.retain⟩, ⟨false, (s.put (s.row x.topic x.body x.qos x.retain)).session⟩]⟩ else ⟨s, [], []⟩
def OS.doHear (s : OS) (k z : Int) : SS :=
 if 1 <= z /\ z <= 65535 then
  if k = 4 then (s.start.ack z).all.fin s.seq s.id else if k = 5 then (s.start.rec' z).all.fin s.seq s.id else if k = 7 then (s.start.comp z).all.fin s.seq s.id else ⟨s, [], []⟩
 else ⟨s, [], []⟩
def OS.does (s : OS) (x : ActV) : SS :=
 if x.kind = 1 then s.doPut x else if x.kind = 2 then s.start.all.fin s.seq s.id else if x.kind = 3 then s.doHear x.pack x.id else if x.kind = 4 then s.again.all.fin s.seq s.id else ⟨s, [], []⟩
theorem act_Hear {w : World} {B : Nat} {L : Lay} {s : OS} (h : OB w B L s [] []) (hn : L.vp = .slice none 0 0 /\ L.vc = .slice none 0 0) (k z : Int) :
  Calls Tryz.prog 43 #[.pointer (some ⟨L.p, 0, none⟩), .int .i64 k, .int .i64 z] w fun e w' => ∃ vp vc no L', e = .returned (.tuple #[.agg #[vp, vc], .int .i64 no]) /\ DidAt w w' L L' (s.doHear k z).s vp vc (s.doHear k z).ps (s.doHear k z).cs := by
 have bad : ¬ ((k = 4 \/ k = 5 \/ k = 7) /\ 1 <= z /\ z <= 65535) -> s.doHear k z = ⟨s, [], []⟩ -> Calls Tryz.prog 43 #[.pointer (some ⟨L.p, 0, none⟩), .int .i64 k, .int .i64 z] w fun e w' => ∃ vp vc no L', e = .returned (.tuple #[.agg #[vp, vc], .int .i64 no]) /\ DidAt w w' L L' (s.doHear k z).s vp vc (s.doHear k z).ps (s.doHear k z).cs := fun hb he => by
  refine (out_Hear_bad h k z hb).mono ?_
  rintro e w' ⟨rfl, hb⟩
  refine ⟨_, _, 2, L, rfl, ?_⟩
  rw [he]
  exact did_none h hn hb
 by_cases hz : 1 <= z /\ z <= 65535
 ·by_cases h4 : k = 4
  ·subst h4
   refine (out_Hear4 h hn z hz).mono ?_
   rintro e w' ⟨vp, vc, L', rfl, d⟩
   refine ⟨vp, vc, 0, L', rfl, ?_⟩
   unfold OS.doHear
   rw [if_pos hz, if_pos rfl]
   exact d
  by_cases h5 : k = 5
  ·subst h5
   refine (out_Hear5 h hn z hz).mono ?_
   rintro e w' ⟨vp, vc, L', rfl, d⟩
   refine ⟨vp, vc, 0, L', rfl, ?_⟩
   unfold OS.doHear
   rw [if_pos hz, if_neg (by decide), if_pos rfl]
   exact d
  by_cases h7 : k = 7
  ·subst h7
   refine (out_Hear7 h hn z hz).mono ?_
   rintro e w' ⟨vp, vc, L', rfl, d⟩
   refine ⟨vp, vc, 0, L', rfl, ?_⟩
   unfold OS.doHear
   rw [if_pos hz, if_neg (by decide), if_neg (by decide), if_pos rfl]
   exact d
  exact bad (fun hh => by omega) (by unfold OS.doHear; rw [if_pos hz, if_neg h4, if_neg h5, if_neg h7])
 ·exact bad (fun hh => hz hh.2) (by unfold OS.doHear; rw [if_neg hz])
def RefDid (w : World) (e : Ending) (w' : World) : Prop := ∃ (a : Option Addr) (n c : Nat) (no : Int) (qs : List PackV), e = .returned (.tuple #[.agg (refA (.slice none 0 0)), didA (.slice a n c), .int .i64 no]) /\ n = qs.length /\ w'.ownsRow w.heap.size 81 24 (.slice a n c) n (qs.flatMap PackV.cells) /\ Below w.heap.size w w'
theorem ref_Hear (k z : Int) (w : World) :
  Calls Tryz.prog 47 #[.agg (refA (.slice none 0 0)), .int .i64 k, .int .i64 z] w (RefDid w) := by
 by_cases hk : (k = 4 \/ k = 5 \/ k = 7) /\ 1 <= z /\ z <= 65535
 ·obtain ⟨rfl | rfl | rfl, hz⟩ := hk
  ·exact (r_Hear4 z hz w).mono fun _ _ ⟨h1, h2⟩ => ⟨_, _, _, _, [], h1, rfl, World.ownsRow_nil _ _ _ _, h2⟩
  ·refine (r_Hear5 z hz w).mono ?_
   rintro e w' ⟨a, n, c, rfl, ho, hb⟩
   obtain ⟨a', c', he⟩ := own_slice ho
   cases he
   exact ⟨a, 1, c, 0, [pubrel z], rfl, rfl, by simpa using ho, hb⟩
  ·exact (r_Hear7 z hz w).mono fun _ _ ⟨h1, h2⟩ => ⟨_, _, _, _, [], h1, rfl, World.ownsRow_nil _ _ _ _, h2⟩
 ·exact (r_Hear_bad k z hk w).mono fun _ _ ⟨h1, h2⟩ => ⟨_, _, _, _, [], h1, rfl, World.ownsRow_nil _ _ _ _, h2⟩
def RefDid2 (w : World) (e : Ending) (w' : World) : Prop := ∃ (a : Option Addr) (n c : Nat) (qs : List PackV), e = .returned (.tuple #[.agg (refA (.slice none 0 0)), didA (.slice a n c)]) /\ n = qs.length /\ w'.ownsRow w.heap.size 81 24 (.slice a n c) n (qs.flatMap PackV.cells) /\ Below w.heap.size w w'
theorem ref_Anew (w : World) : Calls Tryz.prog 49 #[.agg (refA (.slice none 0 0))] w (RefDid2 w) := (r_Anew w).mono fun _ _ ⟨h1, h2⟩ => ⟨_, _, _, [], h1, rfl, World.ownsRow_nil _ _ _ _, h2⟩
theorem fin_len (X : SS) (q i : Int) : (X.fin q i).cs.length <= X.cs.length + 1 := by
 unfold SS.fin
 dsimp only
 rw [List.length_append]
 split <;> simp
end
section
structure ActsAt (w : World) (a : Option Addr) (n cap : Nat) (xs : List ActV) : Prop where
 len : xs.length = n
 le : n <= cap
 max : cap <= maxLen
 at' : ∀ i x, xs[i]? = some x -> ∃ g off, a = some ⟨g, off, none⟩ /\ g < w.heap.size /\ w.rangeAt g (off + i * 7) x.cells.toList
theorem range_below {w w' : World} {g o : Nat} {cs : List Value} (h : w.rangeAt g o cs) (hg : g < w.heap.size) (hb : Below w.heap.size w w') : w'.rangeAt g o cs := fun j v hj => by
 have := h j v hj
 rw [<- this]
 exact hb.cell (p := ⟨g, o + j, none⟩) hg
theorem ActsAt.below {w w' : World} {a : Option Addr} {n cap : Nat} {xs : List ActV} (h : ActsAt w a n cap xs) (hb : Below w.heap.size w w') : ActsAt w' a n cap xs :=
 ⟨h.len, h.le, h.max, fun i x hx => by
  obtain ⟨g, off, h1, h2, h3⟩ := h.at' i x hx
  exact ⟨g, off, h1, Nat.lt_of_lt_of_le h2 hb.size, range_below h3 h2 hb⟩⟩
end
section
def isR (a b : RowV) : Bool :=
 if a.kind = b.kind then
  if a.kind = 1 then decide (a.client = b.client) else if a.kind = 2 then decide (a.client = b.client) && decide (a.topic = b.topic) else if a.kind = 3 then decide (a.client = b.client) && decide (a.seq = b.seq) else decide (a.client = b.client) && decide (a.id = b.id)
 else false
def kindOK (r : RowV) : Prop := r.kind = 1 \/ r.kind = 2 \/ r.kind = 3 \/ r.kind = 4
theorem r19_Is (a b : RowV) (w : World) (ha : kindOK a) :
  Calls Tryz.prog 107 #[.agg a.vals, .agg b.vals] w fun e w' => e = .returned (.bool (isR a b)) /\ Below w.heap.size w w' := by
 have hbel := hid ((((Below.refl w.heap.size w).alloc (Nat.le_refl _) (.cells a.vals 33)).alloc (by simp) (.cells b.vals 33)))
 obtain ⟨ak, ac, as_, ai, at_, ab, aq, ar, ag⟩ := a
 obtain ⟨bk, bc, bs_, bi, bt, bb, bq, br, bg⟩ := b
 unfold kindOK at ha
 unfold RowV.vals at *
 dsimp only at *
 have hres : ∀ v : Bool, isR ⟨ak, ac, as_, ai, at_, ab, aq, ar, ag⟩ ⟨bk, bc, bs_, bi, bt, bb, bq, br, bg⟩ = v -> Ending.returned (.bool v) = .returned (.bool (isR ⟨ak, ac, as_, ai, at_, ab, aq, ar, ag⟩ ⟨bk, bc, bs_, bi, bt, bb, bq, br, bg⟩)) := fun v h => by rw [h]
 have hres := hid hres;by_cases hk : ak = bk
 ·subst hk
  have dk : (ak == ak) = true := by simp
  obtain ⟨c1, hc1⟩ : ∃ c, decide (ac = bc) = c := ⟨_, rfl⟩
  obtain ⟨c2, hc2⟩ : ∃ c, decide (at_ = bt) = c := ⟨_, rfl⟩
  obtain ⟨c3, hc3⟩ : ∃ c, decide (as_ = bs_) = c := ⟨_, rfl⟩
  obtain ⟨c4, hc4⟩ : ∃ c, decide (ai = bi) = c := ⟨_, rfl⟩
  have e1 : (ac == bc) = c1 := by rw [<- hc1, Bool.eq_iff_iff]; simp
  have e2 : (at_ == bt) = c2 := by rw [<- hc2, Bool.eq_iff_iff]; simp
  have e3 : (as_ == bs_) = c3 := by rw [<- hc3, Bool.eq_iff_iff]; simp
  have e4 : (ai == bi) = c4 := by rw [<- hc4, Bool.eq_iff_iff]; simp
  have hv : Hid (isR ⟨ak, ac, as_, ai, at_, ab, aq, ar, ag⟩ ⟨ak, bc, bs_, bi, bt, bb, bq, br, bg⟩ = (if ak = 1 then c1 else if ak = 2 then c1 && c2 else if ak = 3 then c1 && c3 else c1 && c4)) := hid (by unfold isR; simp only [if_true, hc1, hc2, hc3, hc4])
  clear hc1 hc2 hc3 hc4;rcases ha with rfl | rfl | rfl | rfl
  ·go_enter Tryz.func107, Tryz.ntmps107
   go_wp2_with fail
   go_ret
   exact ⟨hres.out _ (by rw [hv.out]; rfl), hbel.out⟩
  all_goals
   cases c1 <;>
   ·go_enter Tryz.func107, Tryz.ntmps107
    go_wp2_with fail
    go_ret
    exact ⟨hres.out _ (by rw [hv.out]; rfl), hbel.out⟩
 ·have dk : (ak == bk) = false := by simpa using hk
  have hv : Hid (isR ⟨ak, ac, as_, ai, at_, ab, aq, ar, ag⟩ ⟨bk, bc, bs_, bi, bt, bb, bq, br, bg⟩ = false) := hid (by unfold isR; simp only [hk, if_false])
  clear ha hk;go_enter Tryz.func107, Tryz.ntmps107
  go_wp2_with fail
  go_ret
  exact ⟨hres.out _ hv.out, hbel.out⟩
theorem r20_Find (l : List RowV) (r : RowV) (base : Nat) (a : Option Addr) (n c : Nat) (w : World) (hv : w.ownsRow base 33 9 (.slice a n c) n (l.flatMap RowV.cl)) (hn : l.length = n) (hl : n <= 1000000) (hk : ∀ x ∈ l, kindOK x) :
  Calls Tryz.prog 51 #[.slice a n c, .agg r.vals] w fun e w' => e = .returned (.int .i64 (idxOf (fun x => isR x r) l)) /\ Below w.heap.size w w' := by
 have hV := hid hv;have hb0 := hid ((Below.refl w.heap.size w).alloc (Nat.le_refl _) (.cells r.vals 33))
 have hB0 := hid (Blk.new w r.vals 33)
 have hk := hid hk;have hn := hid hn;have CI := hid fun x W hx => r19_Is x r W hx
 clear hv;obtain ⟨ak, ac, as_, ai, at_, ab, aq, ar, ag⟩ := r
 unfold RowV.vals at *
 dsimp only at *
 go_enter Tryz.func51, Tryz.ntmps51
 go_wp2_with fail
 go_loopw [5] (fun i wr => ∃ k : Nat, i = .int .i64 k /\ k <= n /\ Hid (Below w.heap.size w wr) /\ Hid (Blk wr w.heap.size #[.int .i64 ak, .string ⟨ac.toArray⟩, .int .i64 as_, .int .i64 ai, .string ⟨at_.toArray⟩, .string ⟨ab.toArray⟩, .int .i64 aq, .bool ar, .int .i64 ag] 33) /\ Hid (∀ j x, j < k -> l[j]? = some x -> isR x ⟨ak, ac, as_, ai, at_, ab, aq, ar, ag⟩ = false)) (fun i _ => n - (intOf i).toNat)
 case atStart => exact ⟨0, rfl, Nat.zero_le _, hb0, hB0, hid fun j x h => absurd h (by omega)⟩
 case round =>
  obtain ⟨k, rfl, hk1, hbr, hBr, hno⟩ := hrel
  rcases Nat.lt_or_ge k n with hlt | hge
  ·have dk : decide ((k : Int) < (n : Int)) = true := decide_eq_true (by omega)
   obtain ⟨x, hx⟩ : ∃ x, l[k]? = some x := ⟨_, List.getElem?_eq_getElem (by have := hn.out; omega)⟩
   have hkx := hk.out x (List.mem_of_getElem? hx)
   obtain ⟨g, hag, -, hrow⟩ := own_range RowV.cl RowV.cllen (l := l) (n := n) hn.out (ownsRow_below hV.out hbr.out) (k := k) (x := x) hx
   subst hag;have hgl := (hV.out.lt g rfl).2
   have hrow' : wr.drew.rangeAt g (k * 9) x.cl := hrow
   have hBr' : Blk wr.drew w.heap.size #[.int .i64 ak, .string ⟨ac.toArray⟩, .int .i64 as_, .int .i64 ai, .string ⟨at_.toArray⟩, .string ⟨ab.toArray⟩, .int .i64 aq, .bool ar, .int .i64 ag] 33 := hBr.out
   have CX := hid (CI.out x wr.drew hkx)
   obtain ⟨bv, hbv⟩ : ∃ b, isR x ⟨ak, ac, as_, ai, at_, ab, aq, ar, ag⟩ = b := ⟨_, rfl⟩
   rw [hbv] at CX
   have hbv := hid hbv;have hx := hid hx;clear hkx;go_wp2_with fail
   refine regionQ [(1000, fun w' => w'.rangeAt g (k * 9) x.cl), (1000, fun w' => Blk w' w.heap.size #[.int .i64 ak, .string ⟨ac.toArray⟩, .int .i64 as_, .int .i64 ai, .string ⟨at_.toArray⟩, .string ⟨ab.toArray⟩, .int .i64 aq, .bool ar, .int .i64 ag] 33)] (by kernel_rfl) ⟨hrow', hBr', trivial⟩ fun KQ hKQ => ?_
   refine tQ [0, 1, 2] ?_;refine lR 3 0 rfl rfl rfl rfl (v := .agg (x.cl : List Value).toArray) (fun w' hf => run_loadAt_mid w' _ _ 33 (x.cl : List Value) _ hf Tryz.underlying33 rfl (by kernel_rfl)) ?_
   simp only [PT];refine lR 4 1 rfl rfl rfl rfl (fun w' hf => run_load_blk hf 33 Tryz.underlying33 rfl (by kernel_rfl)) ?_
   simp only [PT];refine sQ 5 fun K hK => ?_;simp only [GO];go_simp;refine CX.out.mono ?_
   rintro e w2 ⟨rfl, hb2⟩
   have hbw := hid (hbr.out.trans ((undrew hb2).mono hbr.out.size))
   refine hK _ _ ⟨⟨fun _ => range_below hrow' (by have := hbr.out.size; simp; omega) hb2, fun _ => hBr'.below hb2, trivial⟩, ?_⟩
   clear hK K;refine dQ (hKQ.out _ _ ?_);clear hKQ KQ;rcases bv with _ | _
   ·go_wp2_with fail
    go_roundw
    case rel =>
     refine ⟨k + 1, by go_num, by omega, hbw, hid (hBr'.below hb2), hid fun j y hj hy => ?_⟩
     by_cases hjk : j = k
     ·subst hjk
      rw [hx.out] at hy
      cases hy
      exact hbv.out
     ·exact hno.out j y (by omega) hy
    case measure => simp [intOf]; omega
   ·go_wp2_with fail
    go_ret
    refine ⟨?_, hbw.out⟩
    have hkl := (List.getElem?_eq_some_iff.1 hx.out)
    obtain ⟨h1, h2⟩ := hkl
    rw [idxOf_at _ l k h1 (fun j hj => hno.out j _ hj (List.getElem?_eq_getElem (by omega))) (by rw [h2]; exact hbv.out)]
    rfl
  ·obtain rfl : k = n := by omega
   have dk : decide ((k : Int) < (k : Int)) = false := by simp
   go_wp2_with fail
   go_ret
   refine ⟨?_, hbr.out⟩
   rw [idxOf_none _ l (fun y hy => by
    obtain ⟨j, hj⟩ := List.getElem?_of_mem hy
    exact hno.out j y (by have := (List.getElem?_eq_some_iff.1 hj).1; have := hn.out; omega) hj)]
   rfl
end
end Go.Proofs.YtoinabapaeebfaaGreatDoor
