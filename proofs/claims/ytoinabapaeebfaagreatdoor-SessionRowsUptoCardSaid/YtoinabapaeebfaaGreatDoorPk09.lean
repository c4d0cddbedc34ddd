/- Parts of the proof of SessionRows: contracts of functions that it reaches, and plain lemmas. No condition of their own. -/
import Derived.Test.YtoinabapaeebfaaGreatDoorPk08
import Derived.Great.BuildSlice
import Derived.Test.YtoinabapaeebfaaGreatDoorPk06
import Derived.Deep.LoopGhost
import Derived.Test.YtoinabapaeebfaaGreatDoorPk03
import Derived.Test.YtoinabapaeebfaaGreatDoorPk07
set_option linter.unusedSimpArgs false
set_option linter.unusedVariables false
set_option maxRecDepth 100000
set_option maxHeartbeats 8000000
namespace Go.Proofs.YtoinabapaeebfaaGreatDoor
open Go.RowKit Go.Shelf
section
def OS.row (s : OS) (topic body : List UInt8) (qos : Int) (retain : Bool) : RowV := ⟨3, s.client, s.seq, 0, topic, body, qos, retain, 1⟩
def OS.put (s : OS) (r : RowV) : OS := { s with l := s.l ++ [r], seq := s.seq + 1 }
theorem Blk.new_at (w : World) (cs : Array Value) (T : TypeId) (n : Nat) (h : w.heap.size = n) : Blk (w.alloc (.cells cs T)) n cs T := by subst h; exact Blk.new w cs T
theorem out_Put {w : World} {B : Nat} {L : Lay} {s : OS} (h : OB w B L s [] []) (hn : L.vp = .slice none 0 0 /\ L.vc = .slice none 0 0) (topic body : List UInt8) (qos : Int) (retain : Bool)
  (ht : topic.length <= 9223372036854775807) (hA : AnyOK topic) (hmay : putMay (s.row topic body qos retain) = true) (hroom : (s.l.length : Int) < s.room) (hseq : s.seq <= 4611686018427387904) :
  Calls Tryz.prog 41 #[.pointer (some ⟨L.p, 0, none⟩), .string ⟨topic.toArray⟩, .string ⟨body.toArray⟩, .int .i64 qos, .bool retain] w fun e w' => ∃ vp vc L', e = .returned (.tuple #[.agg #[vp, vc], .int .i64 0]) /\
   DidAt w w' L L' (s.put (s.row topic body qos retain)) vp vc [] [⟨false, s.row topic body qos retain⟩, ⟨false, (s.put (s.row topic body qos retain)).session⟩] := by
 have CK := hid fun w1 => rec_Check_put (s.row topic body qos retain) w1 rfl rfl rfl (by have := h.ok.cl; show s.client.length <= _; omega) ht hA
 rw [if_pos hmay] at CK
 obtain ⟨r, hr⟩ : ∃ r, s.row topic body qos retain = r := ⟨_, rfl⟩
 have hrs : r.stage = 1 := by rw [<- hr]; rfl
 have hrv : r.vals = #[.int .i64 3, .string ⟨s.client.toArray⟩, .int .i64 s.seq, .int .i64 0, .string ⟨topic.toArray⟩, .string ⟨body.toArray⟩, .int .i64 qos, .bool retain, .int .i64 1] := by rw [<- hr]; rfl
 rw [hr] at CK ⊢
 have HRV := hid hrv;rw [hrv] at CK
 have hok := h.ok
 obtain ⟨client, window, room, seq, id, l⟩ := s
 obtain ⟨p, ib, sb, vl, vp, vc, rb, W⟩ := L
 dsimp only at hn hok hroom hseq CK ⊢
 obtain ⟨rfl, rfl⟩ := hn
 replace h := OB.rebase (L := ⟨p, ib, sb, vl, .slice none 0 0, .slice none 0 0, rb, W⟩) h (Nat.le_refl _)
 have hvl := h.rows
 try dsimp only at hvl
 obtain ⟨al, cl, rfl⟩ := own_slice hvl
 replace hvl := hid hvl
 have hok2 : OS.OK ⟨client, window, room, seq, id, l ++ [r]⟩ := ⟨hok.win, ⟨hok.room.1, by simp; omega⟩, hok.seq, hok.id, hok.cl, fun x hx hs => by
  rcases List.mem_append.1 hx with hx | hx
  ·exact hok.ids x hx hs
  ·simp at hx; subst hx; exact absurd hrs hs, by rw [show idsOf (OS.l ⟨client, window, room, seq, id, l ++ [r]⟩) = idsOf l from idsOf_push _ _ hrs]; exact hok.nodup, by rw [show idsOf (OS.l ⟨client, window, room, seq, id, l ++ [r]⟩) = idsOf l from idsOf_push _ _ hrs]; exact hok.under⟩
 have HOK := hid hok2;have hseq0 := hok.seq.1
 have hlen := hok.room
 clear hok2 hok hr hmay;have CN := hid fun (w1 : World) (hb : Below w.heap.size w w1) => out_none (h.below hb)
 try dsimp only at CN
 have c1 : ∀ o, (w.alloc o).cell? ⟨p, 1, none⟩ = some (.string ⟨client.toArray⟩) := fun o => (h.box.alloc o).cell 1
 have c4 : ∀ o, (w.alloc o).cell? ⟨p, 4, none⟩ = some (.int .i64 seq) := fun o => (h.box.alloc o).cell 4
 have hp : p < w.heap.size := h.box.lt
 try dsimp only at hp
 have d1 : decide (room <= (l.length : Int)) = false := decide_eq_false (by omega)
 go_enter Tryz.func41, Tryz.ntmps41
 go_wp2_with (go_at_call 58; refine (CN.out _ ((Below.refl _ w).alloc (Nat.le_refl _) _)).mono ?_; rintro e w1 ⟨rfl, rfl⟩)
 go_region
 go_wp2_with fail
 refine (CK.out _).mono ?_
 clear CK;rintro e w2 ⟨rfl, hb2⟩
 have hB2 : Below w.heap.size w w2 := ((((Below.refl _ w).alloc (Nat.le_refl _) _).alloc (by simp) _).drew).trans (hb2.mono (by simp; omega))
 have hDid2 := hid (((Blk.new w #[.slice none 0 0, .slice none 0 0] 53).alloc (.cells #[.int .i64 3, .string ⟨client.toArray⟩, .int .i64 seq, .int .i64 0, .string ⟨topic.toArray⟩, .string ⟨body.toArray⟩, .int .i64 qos, .bool retain, .int .i64 1] 33)).drew.below hb2)
 have hRow2 := (Blk.new (w.alloc (.cells #[.slice none 0 0, .slice none 0 0] 53)) #[.int .i64 3, .string ⟨client.toArray⟩, .int .i64 seq, .int .i64 0, .string ⟨topic.toArray⟩, .string ⟨body.toArray⟩, .int .i64 qos, .bool retain, .int .i64 1] 33).drew.below hb2
 rw [World.size_alloc, <- HRV.out] at hRow2
 replace hRow2 := hid hRow2;have hz2 : w.heap.size + 2 <= w2.heap.size := by have := hb2.size; simp at this; omega
 clear hb2 c1 c4 CN;have HO2 := hid (h.below hB2)
 have k6 : w2.cell? ⟨p, 6, none⟩ = some (.slice al l.length cl) := HO2.out.box.cell 6
 have k3 : w2.cell? ⟨p, 3, none⟩ = some (.int .i64 room) := HO2.out.box.cell 3
 go_wp2_with fail
 go_region
 clear k6 k3;go_wp2_with fail
 refine (out_Session HO2.out.drew).mono ?_
 rintro e w3 ⟨rfl, hb3⟩
 replace hb3 := undrew hb3
 have hB3 := hB2.trans (hb3.mono hB2.size)
 have hDid3 := hid (hDid2.out.below hb3)
 have hRow3 := hid (hRow2.out.below hb3)
 have HO3 := hid (h.below hB3)
 clear hDid2 hRow2 HO2;have m6 : ∀ o, (w3.alloc o).cell? ⟨p, 6, none⟩ = some (.slice al l.length cl) := fun o => (HO3.out.alloc o).box.cell 6
 simp only [OS.session, RowV.vals]
 have hBx := hid ((hB3.alloc hB3.size (.cells #[.int .i64 1, .string ⟨client.toArray⟩, .int .i64 seq, .int .i64 id, .string ⟨#[]⟩, .string ⟨#[]⟩, .int .i64 0, .bool false, .int .i64 0] 33)).alloc (by have := hB3.size; simp; omega) (.cells #[.pointer (some ⟨w.heap.size + 1, 0, none⟩)] 126))
 have HOx := hid (h.below hBx.out)
 have hDidx := hid ((hDid3.out.alloc (.cells #[.int .i64 1, .string ⟨client.toArray⟩, .int .i64 seq, .int .i64 id, .string ⟨#[]⟩, .string ⟨#[]⟩, .int .i64 0, .bool false, .int .i64 0] 33)).alloc (.cells #[.pointer (some ⟨w.heap.size + 1, 0, none⟩)] 126))
 have hRowx := hid ((hRow3.out.alloc (.cells #[.int .i64 1, .string ⟨client.toArray⟩, .int .i64 seq, .int .i64 id, .string ⟨#[]⟩, .string ⟨#[]⟩, .int .i64 0, .bool false, .int .i64 0] 33)).alloc (.cells #[.pointer (some ⟨w.heap.size + 1, 0, none⟩)] 126))
 have hWasx := hid ((Blk.new w3 #[.int .i64 1, .string ⟨client.toArray⟩, .int .i64 seq, .int .i64 id, .string ⟨#[]⟩, .string ⟨#[]⟩, .int .i64 0, .bool false, .int .i64 0] 33).alloc (.cells #[.pointer (some ⟨w.heap.size + 1, 0, none⟩)] 126))
 have hne : p ≠ w.heap.size + 1 := by omega
 have hne2 : p ≠ w3.heap.size := by have := hB3.size; omega
 clear hDid3 hRow3 HO3
 go_wp2_with (
  at_builtin
  refine append_grp rfl _ _ rfl eRowP (by decide) 0 (.slice al l.length cl) l.length (ptrs rb) rfl HOx.out.rows (w3.heap.size + 1) [.pointer (some ⟨w.heap.size + 1, 0, none⟩)] 126 (by simp [go_sem]) (by simpa using Blk.new (w3.alloc _) _ _) rfl (by simp [Value.oneCell']) (by omega) (by omega) (Nat.zero_le _) ?_
  intro v' w5 r5 g5 n5
  obtain ⟨a5, c5, rfl⟩ := own_slice r5
  have hwt : WT 126 _ w5 := WT.row HOx.out.rows g5
  have hbx5 := HOx.out.box.wt hwt (by decide)
  have k4 : w5.cell? ⟨p, 4, none⟩ = some (.int .i64 seq) := hbx5.cell 4
  have k6 : w5.cell? ⟨p, 6, none⟩ = some (.slice al l.length cl) := hbx5.cell 6
  have z4 : w5.frozen? ⟨p, 4, none⟩ = false := hbx5.frozen 4
  have z6 : w5.frozen? ⟨p, 6, none⟩ = false := hbx5.frozen 6
  have hRow5 := hRowx.out.wt hwt (by decide)
  rw [HRV.out] at hRow5
  have x0 : w5.cell? ⟨w.heap.size + 1, 0, none⟩ = some (.int .i64 3) := hRow5.cell 0
  have x1 : w5.cell? ⟨w.heap.size + 1, 1, none⟩ = some (.string ⟨client.toArray⟩) := hRow5.cell 1
  have x2 : w5.cell? ⟨w.heap.size + 1, 2, none⟩ = some (.int .i64 seq) := hRow5.cell 2
  have x3 : w5.cell? ⟨w.heap.size + 1, 3, none⟩ = some (.int .i64 0) := hRow5.cell 3
  have x4 : w5.cell? ⟨w.heap.size + 1, 4, none⟩ = some (.string ⟨topic.toArray⟩) := hRow5.cell 4
  have x5 : w5.cell? ⟨w.heap.size + 1, 5, none⟩ = some (.string ⟨body.toArray⟩) := hRow5.cell 5
  have x6 : w5.cell? ⟨w.heap.size + 1, 6, none⟩ = some (.int .i64 qos) := hRow5.cell 6
  have x7 : w5.cell? ⟨w.heap.size + 1, 7, none⟩ = some (.bool retain) := hRow5.cell 7
  have x8 : w5.cell? ⟨w.heap.size + 1, 8, none⟩ = some (.int .i64 1) := hRow5.cell 8)
 have hz3 : w.heap.size + 2 <= w3.heap.size := by have := hb3.size; omega
 have hcc : (ChangeV.cells ⟨false, r⟩).toArray = #[.bool false, .int .i64 3, .string ⟨client.toArray⟩, .int .i64 seq, .int .i64 0, .string ⟨topic.toArray⟩, .string ⟨body.toArray⟩, .int .i64 qos, .bool retain, .int .i64 1] := by simp [ChangeV.cells, HRV.out]
 have hfo : ∀ x ∈ (Lay.foot ⟨p, ib, sb, .slice al l.length cl, .slice none 0 0, .slice none 0 0, rb, W⟩), x < w.heap.size := h.lt
 obtain ⟨hP, hPw, hPs⟩ := HOx.out.push r (w.heap.size + 1) hRowx.out (fun hx => by have := hfo _ hx; omega) (by have := h.tz.lt; omega) hrs (.slice a5 (l.length + 1) c5) r5 g5 n5 HOK.out
 try dsimp only at hP hPw hPs
 obtain ⟨hQ, hQs⟩ := hP.setSeq (seq + 1) ⟨by omega, by omega⟩
 try dsimp only at hQ hQs
 have hPs2 : ∀ x ∈ Lay.foot ⟨p, ib, sb, .slice a5 (l.length + 1) c5, .slice none 0 0, .slice none 0 0, rb ++ [w.heap.size + 1], W⟩, x < w.heap.size \/ x = w.heap.size + 1 \/ w3.heap.size + 2 <= x := fun x hx => (hPs x hx).elim (fun h1 => .inl (hfo x h1)) (fun h1 => .inr (h1.elim .inl (fun h2 => .inr (by simpa using h2))))
 rw [<- hcc]
 refine (out_changes (hQ.alloc _) ⟨false, r⟩ w5.heap.size (Blk.new_at _ _ _ _ (by simp)) (by simp)).mono ?_
 rintro e w6 ⟨rfl, v6, hO6, hst6⟩
 obtain ⟨a6, c6, rfl⟩ := own_slice hO6.chgs
 have hWas6 := ((((hWasx.out.wt hwt (by decide)).set_ne ⟨p, 6, none⟩ hne2 (.slice a5 (l.length + 1) c5)).set_ne ⟨p, 4, none⟩ hne2 (.int .i64 (seq + 1))).alloc (.cells (ChangeV.cells ⟨false, r⟩).toArray 115)).wrote hst6.wrote (fun hx => by rcases hPs2 _ hx with h1 | h1 | h1 <;> omega)
 have hDid6 := hid (((((hDidx.out.wt hwt (by decide)).set_ne ⟨p, 6, none⟩ (by dsimp only; omega) (.slice a5 (l.length + 1) c5)).set_ne ⟨p, 4, none⟩ (by dsimp only; omega) (.int .i64 (seq + 1))).alloc (.cells (ChangeV.cells ⟨false, r⟩).toArray 115)).wrote hst6.wrote (fun hx => by rcases hPs2 _ hx with h1 | h1 | h1 <;> omega))
 have s0 : w6.cell? ⟨w3.heap.size, 0, none⟩ = some (.int .i64 1) := hWas6.cell 0
 have s1 : w6.cell? ⟨w3.heap.size, 1, none⟩ = some (.string ⟨client.toArray⟩) := hWas6.cell 1
 have s2 : w6.cell? ⟨w3.heap.size, 2, none⟩ = some (.int .i64 seq) := hWas6.cell 2
 have s3 : w6.cell? ⟨w3.heap.size, 3, none⟩ = some (.int .i64 id) := hWas6.cell 3
 have s4 : w6.cell? ⟨w3.heap.size, 4, none⟩ = some (.string ⟨#[]⟩) := hWas6.cell 4
 have s5 : w6.cell? ⟨w3.heap.size, 5, none⟩ = some (.string ⟨#[]⟩) := hWas6.cell 5
 have s6 : w6.cell? ⟨w3.heap.size, 6, none⟩ = some (.int .i64 0) := hWas6.cell 6
 have s7 : w6.cell? ⟨w3.heap.size, 7, none⟩ = some (.bool false) := hWas6.cell 7
 have s8 : w6.cell? ⟨w3.heap.size, 8, none⟩ = some (.int .i64 0) := hWas6.cell 8
 clear x0 x1 x2 x3 x4 x5 x6 x7 x8 k4 k6 z4 z6 hWas6;have HO6 := hid hO6;have HST6 := hid hst6;clear hO6 hst6;go_wp2_with fail
 refine (out_done HO6.out seq id (by simp)).mono ?_
 rintro e w7 ⟨vp, vc, cs', rfl, hcs, hob, hpk, hch, hst7⟩
 rw [if_neg (by dsimp only; omega)] at hcs
 subst hcs;obtain ⟨ap, cp, rfl⟩ := own_slice hpk
 obtain ⟨ac, cc, rfl⟩ := own_slice hch
 have hst67 := HST6.out.trans hst7
 have hsz6 := hst67.size
 have hDid7 := hDid6.out.wrote hst7.wrote (HST6.out.not (fun hx => by rcases hPs2 _ hx with h1 | h1 | h1 <;> omega) (by have := hBx.out.size; have := hwt.size; simp at *; omega))
 have y0 : w7.cell? ⟨w.heap.size, 0, none⟩ = some (.slice none 0 0) := hDid7.cell 0
 have y1 : w7.cell? ⟨w.heap.size, 1, none⟩ = some (.slice none 0 0) := hDid7.cell 1
 have z0 := hDid7.frozen 0
 have z1 := hDid7.frozen 1
 simp only [List.length_nil, List.nil_append, List.singleton_append, List.length_cons] at hpk hch
 have HPK := hid hpk;have HCH := hid hch;clear hpk hch;go_wp2
 refine bodyPost_gen (fun W' => W'.cell? ⟨w.heap.size, 0, none⟩ = some (.slice ap 0 cp) /\ W'.cell? ⟨w.heap.size, 1, none⟩ = some (.slice ac 2 cc) /\ Wrote [w.heap.size] w7 W') ⟨((hDid7.set 0 _).set 1 _).cell 0, ((hDid7.set 0 _).set 1 _).cell 1, (Wrote.setCell (M := [w.heap.size]) w7 ⟨w.heap.size, 0, none⟩ (by simp) _).trans (Wrote.setCell _ ⟨w.heap.size, 1, none⟩ (by simp) _)⟩ ?_
 rintro W' ⟨e0, e1, hW⟩
 refine bodyPost_ret (v := .tuple #[.agg #[.slice ap 0 cp, .slice ac 2 cc], .int .i64 0]) (by simp [results, Tryz.results41, go_sem, e0, e1]) rfl ?_
 have hF : Stp (Lay.foot ⟨p, ib, sb, .slice al l.length cl, .slice none 0 0, .slice none 0 0, rb, W⟩) (Lay.foot ⟨p, ib, sb, .slice a5 (l.length + 1) c5, .slice none 0 0, .slice none 0 0, rb ++ [w.heap.size + 1], W⟩) w (w5.setCell ⟨p, 6, none⟩ (.slice a5 (l.length + 1) c5)) :=
  ⟨(Wrote.of_below hBx.out).trans hPw, fun x hx => (hPs x hx).elim .inl (fun h1 => .inr (h1.elim (fun h2 => by omega) (fun h2 => Nat.le_trans hBx.out.size h2)))⟩
 have hS := ((((hF.trans hQs).trans (Stp.below ((Below.refl _ _).alloc (Nat.le_refl _) _))).trans HST6.out).trans hst7).fresh hW (by simp)
 have hnf : w.heap.size ∉ Lay.foot ⟨p, ib, sb, .slice a5 (l.length + 1) c5, .slice none 0 0, .slice none 0 0, rb ++ [w.heap.size + 1], W⟩ := fun hx => by rcases hPs2 _ hx with h1 | h1 | h1 <;> omega
 have hnf6 := HST6.out.not hnf (by have := hBx.out.size; have := hwt.size; simp at *; omega)
 have hnf7 := hst7.not hnf6 (by have := hDid6.out.lt; omega)
 have hg1 : 1 ∉ [w.heap.size] := by have := h.tz.lt; simp only [List.mem_singleton]; omega
 refine ⟨_, _, _, rfl, ((hob 0 (Nat.zero_le _)).out hW (by simpa using hnf7) hg1).rebase (Nat.le_refl _), ⟨rfl, rfl⟩, rfl, hS, not_own HPK.out hW (fun x hx hb => ?_), not_own HCH.out hW (fun x hx hb => ?_)⟩
 ·simp at hx; subst hx
  exact block_not_row hDid7 (by decide) HPK.out (mem_blk.1 hb).symm
 ·simp at hx; subst hx
  exact block_not_row hDid7 (by decide) HCH.out (mem_blk.1 hb).symm
end
section
section
variable {P : Program} {w : World}
theorem setRow_wrote (b : Nat) (cs : Array Value) : Wrote [b] w (w.setRow b cs) := ⟨rfl, rfl, rfl, by simp [World.setRow], fun k _ hk => setRow_other w b k cs (fun e => hk (by simp [e]))⟩
theorem run_store_whole (t T : TypeId) (n : Nat) (hs : ∀ w, (sizeOf t).run P w = .ok n w) {b : Nat} {cur cs : Array Value} (hb : Blk w b cur T) (h1 : cs.size = n) (h2 : cur.size = n) (ho1 : ∀ v ∈ cs.toList, v.oneCell' = true) :
  (Instr.storeAt t (.pointer (some ⟨b, 0, none⟩)) (.agg cs)).run P w = .ok () (w.setRow b cs) := by
 have hr := run_storeCells_at P b 0 T cs.toList 0 cur w hb (by simp; omega) ho1
 have e1 : (cur.toList.take (0 + 0) ++ cs.toList ++ cur.toList.drop (0 + 0 + cs.toList.length)).toArray = cs := by
  rw [List.drop_eq_nil_of_le (by simp; omega)]
  simp
 rw [e1] at hr
 have hc : (Value.agg cs).cells = cs := rfl
 simp [Instr.storeAt, Instr.sureAddr, storeVar, hs, hc, h1, hr]
theorem wp_store_whole {o : Oper} {a : Act} {K : Act -> World -> Prop} {Q : Exit -> Act -> World -> Prop} (t T : TypeId) (x y : Operand) (ho : o.op = .store t x y) (n : Nat) (hs : ∀ w, (sizeOf t).run P w = .ok n w) (b : Nat) (cur cs : Array Value)
  (hx : a.eval x = .pointer (some ⟨b, 0, none⟩)) (hy : a.eval y = .agg cs) (hb : Blk w b cur T) (h1 : cs.size = n) (h2 : cur.size = n) (ho1 : ∀ v ∈ cs.toList, v.oneCell' = true)
  (h : ∀ w', Blk w' b cs T -> Wrote [b] w w' -> K (a.put o.dst undef) w') : o.wp P a w K Q := by
 have hr := run_store_whole (P := P) t T n hs hb h1 h2 ho1
 unfold Oper.wp execOp
 simp only [ho, hx, hy, Sem.run_bind, hr, Result.andThen_ok, Sem.run_pure]
 simp only [Oper.upon]
 exact h _ (setRow_heap w b cur cs T (0, 0) hb) (setRow_wrote b cs)
theorem wW {o : Oper} {a : Act} {K : Act -> World -> Prop} {Q : Exit -> Act -> World -> Prop} (T : TypeId) (n : Nat) {x y : Operand} (ho : o.op = .store T x y) (b : Nat) (cur cs : Array Value)
  (hx : a.eval x = .pointer (some ⟨b, 0, none⟩)) (hy : a.eval y = .agg cs) (hb : Blk w b cur T) (h1 : cs.size = n) (h2 : cur.size = n) (ho1 : ∀ v ∈ cs.toList, v.oneCell' = true)
  (h : ∀ w', Blk w' b cs T -> Wrote [b] w w' -> K (a.put o.dst undef) w') (hs : ∀ w, (sizeOf T).run P w = .ok n w := by (intro w; kernel_rfl)) : o.wp P a w K Q := wp_store_whole T T x y ho n hs b cur cs hx hy hb h1 h2 ho1 h
theorem results_cell1 {fn : Func} {a : Tmp} {t : TypeId} (h : fn.results = #[.cell a t]) {tmps : Array Value} {p : Addr} (hp : tmps.getD a undef = .pointer (some p)) {v : Value} (hl : (loadVar t p).run P w = .ok v w) : (results fn tmps).run P w = .ok v w := by
 rw [Array.getD_eq_getD_getElem?] at hp
 simp [results, h, hp, asAddr, hl]
end
def RowV.pub (r : RowV) (dup : Bool) : PackV := ⟨3, dup, r.retain, r.qos, r.topic, r.body, r.id⟩
theorem out_publish (b : Nat) (r : RowV) (dup : Bool) (w : World) (h : Blk w b r.vals 33) :
  Calls Tryz.prog 102 #[.pointer (some ⟨b, 0, none⟩), .bool dup] w fun e w' => e = .returned (.agg (r.pub dup).cells.toArray) /\ Below w.heap.size w w' := by
 have hb : b < w.heap.size := h.lt
 go_enter Tryz.func102, Tryz.ntmps102
 go_wp2
 refine regionQ [(1000, fun w' => w'.cell? ⟨b, 4, none⟩ = some (.string ⟨r.topic.toArray⟩)), (1000, fun w' => w'.cell? ⟨b, 5, none⟩ = some (.string ⟨r.body.toArray⟩)), (1000, fun w' => w'.cell? ⟨b, 6, none⟩ = some (.int .i64 r.qos)), (1000, fun w' => w'.cell? ⟨b, 7, none⟩ = some (.bool r.retain)), (1000, fun w' => w'.cell? ⟨b, 3, none⟩ = some (.int .i64 r.id))] (by kernel_rfl) ⟨(h.alloc _).cell 4, (h.alloc _).cell 5, (h.alloc _).cell 6, (h.alloc _).cell 7, (h.alloc _).cell 3, trivial⟩ fun KQ hKQ => ?_
 refine tQ [0] ?_;refine nQ 1 ?_;refine tQ [2] ?_;refine lQ 3 0 ?_;refine tQ [4] ?_;refine nQ 5 ?_;refine tQ [6] ?_;refine lQ 7 1 ?_;refine tQ [8] ?_;refine nQ 9 ?_;refine tQ [10] ?_;refine lQ 11 2 ?_;refine tQ [12] ?_;refine nQ 13 ?_;refine tQ [14] ?_;refine lQ 15 3 ?_;refine tQ [16] ?_;refine nQ 17 ?_;refine tQ [18] ?_;refine lQ 19 4 ?_;refine tQ [20, 21] ?_;refine sQ 22 fun K hK => ?_;simp only [GO];refine wp_store_whole 81 81 _ _ rfl 24 Tryz.sizeOf81 w.heap.size _ _ rfl rfl (Blk.new w _ _).drew rfl rfl (by simp [Value.oneCell']) ?_
 intro w1 hb1 hw1
 have hh := ((h.alloc _).drew).wrote hw1 (by simp; omega)
 refine hK _ _ ⟨⟨fun _ => hh.cell 4, fun _ => hh.cell 5, fun _ => hh.cell 6, fun _ => hh.cell 7, fun _ => hh.cell 3, trivial⟩, ?_⟩
 clear hK K;refine dQ (hKQ.out _ _ ?_);clear hKQ KQ;go_wp2
 refine bodyPost_ret (v := .agg (r.pub dup).cells.toArray) (results_cell1 Tryz.results102 (p := ⟨w.heap.size, 0, none⟩) rfl (run_loadVar_row (P := Tryz.prog) w1 w.heap.size 81 81 _ (0, 0) _ hb1 Tryz.underlying81 rfl (by kernel_rfl))) rfl ?_
 ·refine ⟨rfl, ⟨hw1.os, hw1.tape, hw1.output, Nat.le_trans (by simp) hw1.size, fun k hk => (hw1.block k (by simp; omega) (by simp; omega)).trans (Below.heap_alloc _ _ _ hk)⟩⟩
theorem out_behind (n : Int) (w : World) (h0 : 0 <= n) (h1 : n <= 65535) :
  Calls Tryz.prog 142 #[.int .i64 n, .int .i64 65535] w fun e w' => e = .returned (.int .i64 (n % 65535 + 1)) /\ w = w' := by
 have q2 : n.tmod 65535 = n % 65535 := by rw [Int.tmod_eq_emod_of_nonneg (by omega)]
 have q3 : 0 <= n % 65535 := Int.emod_nonneg _ (by omega)
 have q4 : n % 65535 < 65535 := Int.emod_lt_of_pos _ (by omega)
 go_enter Tryz.func142, Tryz.ntmps142
 go_wp2
 go_ret
 simp
theorem out_waits (p : Nat) (w : World) :
  Calls Tryz.prog 139 #[.pointer (some ⟨p, 0, none⟩)] w fun e w' => e = .returned (.func (.func 195) #[] #[.pointer (some ⟨w.heap.size, 0, none⟩)]) /\ w.alloc (.cells #[.pointer (some ⟨p, 0, none⟩)] 26) = w' := by
 go_enter Tryz.func139, Tryz.ntmps139
 go_wp2
 go_ret
 exact ⟨rfl, rfl⟩
theorem out_send1 {w : World} {B : Nat} {L : Lay} {s : OS} {ps : List PackV} {cs : List ChangeV} (h : OB w B L s ps cs) (c : Nat) (hc : Boxed w c 26 (.pointer (some ⟨L.p, 0, none⟩))) (z : Int) (h0 : 1 <= z) (h1 : z <= 65535) :
  Calls Tryz.prog 141 #[.int .i64 z, .pointer (some ⟨c, 0, none⟩)] w fun e w' => e = .returned (.bool (!decide (z.toNat ∈ idsOf s.l))) /\ Below w.heap.size w w' := by
 have k0 : w.cell? ⟨L.p, 0, none⟩ = some (.pointer (some ⟨L.ib, 0, none⟩)) := h.box.cell 0
 have k1 := hc.cell
 have CH := in_Has L.ib L.sb 100 L.W (idsOf s.l) z w h.inb h.set h0 h1
 go_enter Tryz.func141, Tryz.ntmps141
 go_wp2_with (go_at_call 111; refine CH.mono ?_; rintro e w1 ⟨rfl, hb⟩)
 go_ret
 exact ⟨rfl, hb⟩
theorem wp_slice_one {P : Program} {o : Oper} {a : Act} {w : World} {K : Act -> World -> Prop} {Q : Exit -> Act -> World -> Prop} {t e : TypeId} {z : Value} {size bytes : Nat} (x : Operand) (ho : o.op = .buildSlice t 1 #[(0, x)]) (E : ElemT P t e z size bytes) (hs : 0 < size) (hs2 : size <= 100)
  (v : Value) (hx : a.eval x = v) (hv : v.cells.size = size) (h : K (a.put o.dst (.slice (some ⟨w.heap.size, 0, none⟩) 1 1)) (w.alloc (.cells v.cells e))) : o.wp P a w K Q := by
 obtain ⟨i, hi, hz0, hz1, hz2⟩ := info_parts E.info
 refine wp_buildSlice t e 1 #[(0, x)] ho v.cells i z E.ht hi hz0 (by rw [hz1]; omega) (by rw [hz1]; omega) ?_ h
 have hz3 := E.hzs
 have := Go.Great.fill_whole (s := size) hs [v] ((Array.range (1 * size)).map (z.cells[· % z.cells.size]!)) (by simp [hv]) (by simp)
 rw [hz1]
 simpa [hx] using this
end
section
theorem out_first {w : World} {B : Nat} {L : Lay} {s : OS} {ps : List PackV} {cs : List ChangeV} (h : OB w B L s ps cs) (c : Nat) (hc : Boxed w c 26 (.pointer (some ⟨L.p, 0, none⟩))) (z : Int) (hz : 1 <= z /\ z <= 65535) :
  Calls Tryz.prog 140 #[.int .i64 z, .int .i64 65535, .func (.func 141) #[] #[.pointer (some ⟨c, 0, none⟩)]] w fun e w' => e = .returned (.int .i64 (firstI (idsOf s.l).length z (idsOf s.l))) /\ Below w.heap.size w w' := by
 obtain ⟨ids, hids⟩ : ∃ ids, idsOf s.l = ids := ⟨_, rfl⟩
 have hlen : ids.length < 65535 := by have h1 := h.ok.under; have h2 := h.ok.win; rw [hids] at h1; omega
 have CS := hid fun (w1 : World) (hb : Below w.heap.size w w1) (y : Int) (h0 : 1 <= y) (h1 : y <= 65535) => out_send1 (h.below hb) c (boxed_below hc hb) y h0 h1
 rw [hids] at CS ⊢
 obtain ⟨Y, hY⟩ : ∃ Y, firstI ids.length z ids = Y := ⟨_, rfl⟩
 have hfree : Y.toNat ∉ ids := by rw [<- hY]; exact firstI_free z ids hz hlen
 rw [hY]
 go_enter Tryz.func140, Tryz.ntmps140
 go_wp2
 go_loopg [0] ids.length (fun g v wr => ∃ (y : Int), v = .int .i64 y /\ (1 <= y /\ y <= 65535) /\ Hid (firstI g y ids = Y) /\ Below w.heap.size w wr)
 case atStart => exact ⟨z, rfl, hz, hid hY, Below.refl _ _⟩
 case round =>
  obtain ⟨y, rfl, ⟨hy1, hy2⟩, hf, hb⟩ := hrel
  have CB := hid fun (w1 : World) => out_behind y w1 (by omega) hy2
  have CS1 := hid (CS.out _ hb y hy1 hy2)
  by_cases hin : y.toNat ∈ ids
  ·have hd : decide (y.toNat ∈ ids) = true := decide_eq_true hin
   rw [hd] at CS1
   cases gk with
   | zero => exact absurd hin (by have := hf.out; unfold firstI at this; rw [this]; exact hfree)
   | succ g =>
    have hf2 : firstI g (nxt y) ids = Y := by have := hf.out; unfold firstI at this; rwa [if_pos hin] at this
    have hr := nxt_range y
    unfold nxt at hf2 hr
    go_wp2_with (first
     | (go_at_call 141; refine CS1.out.mono ?_; rintro e w1 ⟨rfl, hb1⟩)
     | (go_at_call 142; refine (CB.out _).mono ?_; rintro e w2 ⟨rfl, rfl⟩))
    go_roundg g
    case rel => exact ⟨_, rfl, hr, hid hf2, hb.trans (hb1.mono hb.size)⟩
    case measure => omega
  ·have hd : decide (y.toNat ∈ ids) = false := decide_eq_false hin
   rw [hd] at CS1
   go_wp2_with (first
     | (go_at_call 141; refine CS1.out.mono ?_; rintro e w1 ⟨rfl, hb1⟩)
     | (go_at_call 142; refine (CB.out _).mono ?_; rintro e w2 ⟨rfl, rfl⟩))
   have hyy : y = Y := by
    have := hf.out
    cases gk with
    | zero => exact this
    | succ g => unfold firstI at this; rwa [if_neg hin] at this
   go_ret
   exact ⟨by rw [<- hyy]; rfl, hb.trans (hb1.mono hb.size)⟩
end
section
def SeqJ {α : Type} (P : Program) (g : Nat) (lb : Array Value) (encs : α -> Array Value) (Inv : List α -> World -> Prop) (Ab : World -> World -> Prop) (Nx : List α -> α -> World -> Prop) (S Sp : List α -> Prop) (w : World) : Prop :=
 ∀ (l : Nat) (J Jx : List α -> World -> Prop) (W : World), Below w.heap.size w W -> w.heap.size <= l ->
  (∀ s A A', J s A -> Ab A A' -> J s A') -> (∀ s A A', Jx s A -> Ab A A' -> Jx s A') -> (∀ s A, J s A -> Inv s A) ->
  (∀ pre x W1, J pre W1 -> Nx pre x W1 -> YieldAt Fence.wide 0 P l (encs x) W1 fun e W' =>
   (e = .returned (.bool true) /\ J (pre ++ [x]) W') \/ (e = .returned (.bool false) /\ Jx (pre ++ [x]) W')) ->
  J [] W ->
  CallsIn Fence.wide 0 P g (#[.func (.yield l) #[] #[]] ++ lb) W fun e W' => (∃ v, e = .returned v) /\ ((∃ xs, S xs /\ J xs W') \/ (∃ pre, Sp pre /\ Jx pre W'))
def roundJ {α : Type} (B : Nat) (I : List α -> World -> Prop) (Ix : Code -> List α -> World -> Prop) (xs : List α) (W : World) : Exit -> Act -> World -> Prop
 | .normal, _, W' => Keep 0 [B, B + 1] W W' /\ I xs W'
 | .ret, _, W' => Keep 0 [B, B + 1] W W' /\ Ix .ret xs W'
 | .exit id, _, W' => Keep 0 [B, B + 1] W W' /\ Ix (.exit id) xs W'
 | .goto t, _, W' => Keep 0 [B, B + 1] W W' /\ Ix (.goto t) xs W'
 | .panic _, _, _ => False
 | .outgrown, _, _ => False
theorem wp_rangeJ {P : Program} {α : Type} {g : Operand} {ps : Array Tmp} {assign body : Code} {Q : Exit -> Act -> World -> Prop} {a : Act} {w : World}
  {gf : Nat} {lb : Array Value} (hg : a.eval g = .func (.func gf) #[] lb) (eg : ∀ args w, (callFunc gf args).run P w = .ok (.enter gf args) w)
  {encs : α -> Array Value} {Inv : List α -> World -> Prop} {Ab : World -> World -> Prop} {Nx : List α -> α -> World -> Prop} {S Sp : List α -> Prop} (hseq : SeqJ P gf lb encs Inv Ab Nx S Sp w)
  (hAb : ∀ A B, Ab A B -> w.heap.size + 1 < A.heap.size -> A.heap.size <= B.heap.size /\ B.heap[w.heap.size]? = A.heap[w.heap.size]? /\ B.heap[w.heap.size + 1]? = A.heap[w.heap.size + 1]?)
  (hps : ∀ x, (encs x).size = ps.size)
  (I : List α -> World -> Prop) (Ix : Code -> List α -> World -> Prop)
  (hInv : ∀ s A, I s A -> Inv s A) (hI : ∀ s A A', I s A -> Ab A A' -> I s A') (hIx : ∀ c s A A', Ix c s A -> Ab A A' -> Ix c s A')
  (hIo : ∀ s A o, I s A -> w.heap.size + 1 < A.heap.size -> I s (A.putObj (w.heap.size + 1) o)) (hIxo : ∀ c s A o, Ix c s A -> w.heap.size + 1 < A.heap.size -> Ix c s (A.putObj (w.heap.size + 1) o))
  (h0 : ∀ r, I [] ((w.alloc (.deferred (some []))).alloc (.loop r)))
  (Ax : List α -> α -> Act -> World -> Prop) (hAx : ∀ pre x a' A o, Ax pre x a' A -> w.heap.size + 1 < A.heap.size -> Ax pre x a' (A.putObj (w.heap.size + 1) o))
  (hassign : ∀ (pre : List α) (x : α) (W : World) (K : Act -> World -> Prop), w.heap.size + 1 < W.heap.size -> I pre W -> Nx pre x W -> (∀ a' W', Keep 0 [w.heap.size, w.heap.size + 1] W W' -> I pre W' -> Ax pre x a' W' -> K a' W') ->
   assign.wpIn (Fence.wide.inRound (w.heap.size + 1)) 0 P (Exit.then K (fun _ _ _ => False)) { tmps := (ps.zip (encs x)).foldl (fun t (p, v) => t.setIfInBounds p v) a.tmps, defers := [] } W)
  (hbody : ∀ (pre : List α) (x : α) (a' : Act) (W : World), w.heap.size + 1 < W.heap.size -> I pre W -> Ax pre x a' W -> body.wpIn (Fence.wide.inRound (w.heap.size + 1)) 0 P (roundJ w.heap.size I Ix (pre ++ [x]) W) a' W)
  (hdone : ∀ (xs : List α) (W : World), S xs -> I xs W -> w.heap.size < W.heap.size -> W.heap[w.heap.size]? = some (.deferred (some [])) -> Q .normal { a with defers := { target := .collected w.heap.size, args := #[] } :: a.defers } W)
  (hstop : ∀ (c : Code) (pre : List α) (W : World), Sp pre -> Ix c pre W -> w.heap.size < W.heap.size -> W.heap[w.heap.size]? = some (.deferred (some [])) -> c.wp P Q { a with defers := { target := .collected w.heap.size, args := #[] } :: a.defers } W) :
  (Code.rangeFunc g ps assign body).wp P Q a w := by
 refine (wpIn_wide (n := 0)).1 (wpIn_rangeFunc ?_)
 intro fn hfn
 obtain ⟨rec, hrec⟩ : ∃ rec : LoopState -> Option Code -> Loop, rec = fun st pe => { state := st, pending := pe, fn, tmps := a.tmps, params := ps, assign, body, defers := w.heap.size } := ⟨_, rfl⟩
 obtain ⟨W1, hW1⟩ : ∃ W1, (w.alloc (.deferred (some []))).alloc (.loop (rec .ready none)) = W1 := ⟨_, rfl⟩
 have hL1 : W1.heap[w.heap.size + 1]? = some (.loop (rec .ready none)) := by
  rw [<- hW1]; have := World.alloc_heap_new (w.alloc (.deferred (some []))) (.loop (rec .ready none)); rwa [World.size_alloc] at this
 have hK1 : W1.heap[w.heap.size]? = some (.deferred (some [])) := by
  rw [<- hW1]; exact (Below.heap_alloc _ _ _ (by simp)).trans (World.alloc_heap_new w _)
 have hI1 : I [] W1 := by rw [<- hW1]; exact h0 _
 have hb1 : Below w.heap.size w W1 := by
  rw [<- hW1]; exact ((Below.refl _ w).alloc (Nat.le_refl _) _).alloc (by simp) _
 refine ⟨w.heap.size + 1, [{ target := .collected w.heap.size, args := #[] }], W1, { target := .fn (.func gf) lb, args := #[.func (.yield (w.heap.size + 1)) #[] #[]] }, W1, gf,
  #[.func (.yield (w.heap.size + 1)) #[] #[]] ++ lb, W1, ?_, ?_, fun _ _ => trivial, ?_, fun h => by simp [Fence.wide] at h, ?_⟩
 ·rw [<- hW1, hrec]; exact run_enterLoop_outer _ _ _ _ _
 ·simp only [resolve, hg]
  simp [go_sem]
 ·simp [invoke, go_sem, eg]
 ·refine (hseq (w.heap.size + 1)
   (fun pre W => I pre W /\ W.heap[w.heap.size + 1]? = some (.loop (rec .ready none)) /\ W.heap[w.heap.size]? = some (.deferred (some [])))
   (fun pre W => ∃ c, Ix c pre W /\ W.heap[w.heap.size + 1]? = some (.loop (rec .done (some c))) /\ W.heap[w.heap.size]? = some (.deferred (some [])))
   W1 hb1 (Nat.le_succ _)
   (fun s A B hs hab => by
    have hlt := (Array.getElem?_eq_some_iff.1 hs.2.1).1
    obtain ⟨_, h1, h2⟩ := hAb A B hab hlt
    exact ⟨hI s A B hs.1 hab, h2.trans hs.2.1, h1.trans hs.2.2⟩)
   (fun s A B hs hab => by
    obtain ⟨c, hc, hl, hk⟩ := hs
    have hlt := (Array.getElem?_eq_some_iff.1 hl).1
    obtain ⟨_, h1, h2⟩ := hAb A B hab hlt
    exact ⟨c, hIx c s A B hc hab, h2.trans hl, h1.trans hk⟩)
   (fun s A hs => hInv s A hs.1)
   ?_ ⟨hI1, hL1, hK1⟩).mono ?_
  ·rintro pre x W ⟨hi, hl, hk⟩ hnx
   have hlt : w.heap.size + 1 < W.heap.size := (Array.getElem?_eq_some_iff.1 hl).1
   have hy := run_yield (P := P) (args := encs x) hl (by rw [hrec]; exact hps x)
   rw [hrec] at hy
   refine ⟨fn, _, assign, body, hy, roundIn_of_wpIn hfn (hassign pre x W _ hlt hi hnx ?_)⟩
   clear hy;intro a' Wa hka hia hax
   have hla := (hka.keep _ (by simp : w.heap.size + 1 ∈ _)).trans hl
   have hda := (hka.keep _ (by simp : w.heap.size ∈ _)).trans hk
   have hlta : w.heap.size + 1 < Wa.heap.size := (Array.getElem?_eq_some_iff.1 hla).1
   refine ⟨_, run_beginRound hla (by rw [hrec]), ?_⟩
   have hl2 : (Wa.putObj (w.heap.size + 1) (.loop { rec .ready none with state := .busy })).heap[w.heap.size + 1]? = some (.loop { rec .ready none with state := .busy }) := World.putObj_heap_same hlta
   have hk2 : (Wa.putObj (w.heap.size + 1) (.loop { rec .ready none with state := .busy })).heap[w.heap.size]? = some (.deferred (some [])) := (World.putObj_heap_other (by omega)).trans hda
   refine wpIn_mono (hbody pre x a' _ (by simpa using hlta) (hIo _ _ _ hia hlta) (hAx _ _ _ _ _ hax hlta)) ?_
   have fin : ∀ (jump : Option Code) (W3 : World), Keep 0 [w.heap.size, w.heap.size + 1] (Wa.putObj (w.heap.size + 1) (.loop { rec .ready none with state := .busy })) W3 ->
     (Instr.endRound (w.heap.size + 1) jump).run P W3 = .ok (.bool jump.isNone) (W3.putObj (w.heap.size + 1) (.loop (rec (if jump.isNone then .ready else .done) jump))) /\
     w.heap.size + 1 < W3.heap.size /\
     (W3.putObj (w.heap.size + 1) (.loop (rec (if jump.isNone then .ready else .done) jump))).heap[w.heap.size + 1]? = some (.loop (rec (if jump.isNone then .ready else .done) jump)) /\
     (W3.putObj (w.heap.size + 1) (.loop (rec (if jump.isNone then .ready else .done) jump))).heap[w.heap.size]? = some (.deferred (some [])) := fun jump W3 hk3 => by
    have hl3 := (hk3.keep _ (by simp : w.heap.size + 1 ∈ _)).trans hl2
    have := run_endRound (P := P) jump hl3
    rw [hrec] at this ⊢
    have h4 := (Array.getElem?_eq_some_iff.1 hl3).1
    exact ⟨this, h4, World.putObj_heap_same h4, (World.putObj_heap_other (by omega)).trans ((hk3.keep _ (by simp : w.heap.size ∈ _)).trans hk2)⟩
   rintro e a3 W3 hp
   cases e with
   | normal =>
    obtain ⟨hk3, hi3⟩ := hp
    obtain ⟨hr, hl3, hl4, hk4⟩ := fin none W3 hk3
    exact ⟨_, _, hr, .inl ⟨rfl, hIo _ _ _ hi3 hl3, hl4, hk4⟩⟩
   | ret =>
    obtain ⟨hk3, hi3⟩ := hp
    obtain ⟨hr, hl3, hl4, hk4⟩ := fin (some .ret) W3 hk3
    exact ⟨_, _, hr, .inr ⟨rfl, .ret, hIxo _ _ _ _ hi3 hl3, hl4, hk4⟩⟩
   | exit id =>
    obtain ⟨hk3, hi3⟩ := hp
    obtain ⟨hr, hl3, hl4, hk4⟩ := fin (some (.exit id)) W3 hk3
    exact ⟨_, _, hr, .inr ⟨rfl, .exit id, hIxo _ _ _ _ hi3 hl3, hl4, hk4⟩⟩
   | goto t =>
    obtain ⟨hk3, hi3⟩ := hp
    obtain ⟨hr, hl3, hl4, hk4⟩ := fin (some (.goto t)) W3 hk3
    exact ⟨_, _, hr, .inr ⟨rfl, .goto t, hIxo _ _ _ _ hi3 hl3, hl4, hk4⟩⟩
   | panic ch => exact hp.elim
   | outgrown => exact hp.elim
  ·rintro e W2 ⟨⟨v, rfl⟩, (⟨xs, hS, hi, hl, hk⟩ | ⟨pre, hSp, c, hi, hl, hk⟩)⟩
   ·have h4 := (Array.getElem?_eq_some_iff.1 hl).1
    exact ⟨none, _, by have := run_endLoop (P := P) hl (by rw [hrec]; simp); rw [hrec] at this; exact this, hdone xs _ hS (hIo _ _ _ hi h4) (by simp; omega) ((World.putObj_heap_other (by omega)).trans hk)⟩
   ·have h4 := (Array.getElem?_eq_some_iff.1 hl).1
    exact ⟨some c, _, by have := run_endLoop (P := P) hl (by rw [hrec]; simp); rw [hrec] at this; exact this, wpIn_wide.2 (hstop c pre _ hSp (hIxo _ _ _ _ hi h4) (by simp; omega) ((World.putObj_heap_other (by omega)).trans hk))⟩
end
section
attribute [local go_sem] Oper.semAt_some
def waitQ (st : Nat -> Int) (k : Nat) : List Nat := (List.range k).filter fun i => decide (st i = 1)
theorem waitQ_succ (st : Nat -> Int) (k : Nat) : waitQ st (k + 1) = waitQ st k ++ (if st k = 1 then [k] else []) := by
 simp only [waitQ, List.range_succ, List.filter_append]
 congr 1
 by_cases h : st k = 1 <;> simp [h]
theorem waitQ_rest (st : Nat -> Int) (k n : Nat) (h : k <= n) : ∃ rest, waitQ st n = waitQ st k ++ rest := by
 induction n with
 | zero => obtain rfl : k = 0 := by omega
           exact ⟨[], by simp⟩
 | succ n ih =>
  rcases Nat.lt_or_ge k (n + 1) with h1 | h1
  ·obtain ⟨rest, hr⟩ := ih (by omega)
   exact ⟨rest ++ (if st n = 1 then [n] else []), by rw [waitQ_succ, hr, List.append_assoc]⟩
  ·obtain rfl : k = n + 1 := by omega
   exact ⟨[], by simp⟩
theorem waitQ_lt (st : Nat -> Int) (k : Nat) : ∀ j ∈ waitQ st k, j < k := by
 intro j hj
 simp [waitQ] at hj
 exact hj.1
structure WInv (p c : Nat) (vl : Value) (rb : List Nat) (st : Nat -> Int) (pre : List Nat) (W : World) : Prop where
 box : Boxed W c 26 (.pointer (some ⟨p, 0, none⟩))
 l : W.cell? ⟨p, 6, none⟩ = some vl
 rows : W.ownsRow 0 126 1 vl rb.length (ptrs rb)
 stage : ∀ i b, rb[i]? = some b -> (∀ j ∈ pre, j < i) -> W.cell? ⟨b, 8, none⟩ = some (.int .i64 (st i))
def encW (rb : List Nat) (i : Nat) : Array Value := #[.pointer (some ⟨rb[i]?.getD 0, 0, none⟩)]
theorem own_cell {w : World} {base : Nat} {e : TypeId} {v : Value} {n : Nat} {xs : List Value} (h : w.ownsRow base e 1 v n xs) : ∃ a cap, v = .slice a n cap /\ ∀ i x, xs[i]? = some x -> ∃ g, a = some ⟨g, 0, none⟩ /\ w.cell? ⟨g, i, none⟩ = some x := by
 obtain ⟨hl, ⟨rfl, rfl⟩ | ⟨g, cap, cur, rfl, _, hg, hn, _, hc, ht⟩⟩ := h
 ·refine ⟨none, 0, rfl, fun i x hx => ?_⟩
  have : xs = [] := List.eq_nil_of_length_eq_zero (by simpa using hl)
  subst this; simp at hx
 ·refine ⟨_, _, rfl, fun i x hx => ⟨g, rfl, ?_⟩⟩
  have hlt := (List.getElem?_eq_some_iff.1 hx).1
  rw [<- ht] at hx
  have h1 : i < n * 1 := by omega
  rw [List.getElem?_take_of_lt h1] at hx
  simp [World.cell?, hg]
  simpa using hx
theorem out_waits1 (p c : Nat) (vl : Value) (rb : List Nat) (st : Nat -> Int) (w : World) (hn : rb.length <= 1000000) :
  SeqJ Tryz.prog 195 #[.pointer (some ⟨c, 0, none⟩)] (encW rb) (WInv p c vl rb st) (Wrote []) (fun pre x _ => ∃ rest, waitQ st rb.length = pre ++ x :: rest) (fun xs => xs = waitQ st rb.length) (fun pre => ∃ rest, waitQ st rb.length = pre ++ rest) w := by
 intro lb J Jx W hW hlb hJ hJx hI hY h0
 have hi0 := hI _ _ h0
 have hb := hi0.box.cell
 have hl := hi0.l
 obtain ⟨al, cl, rfl, hal⟩ := own_cell hi0.rows
 refine callsIn_of_wp Tryz.func195 rfl trivial ?_ rfl
 simp only [Tryz.ntmps195, List.size_toArray, List.length_cons, List.length_nil, Nat.reduceAdd, Nat.reduceSub, Array.replicate_succ, Array.replicate_zero, List.push_toArray, List.append_toArray, List.nil_append, List.cons_append]
 gi_wp2
 gi_loopw [4, 10] (fun _ i wr => ∃ (k : Nat), i = .int .i64 k /\ k <= rb.length /\ J (waitQ st k) wr)
  (fun _ i _ => rb.length - (intOf i).toNat)
 case atStart => exact ⟨0, rfl, Nat.zero_le _, h0⟩
 case round =>
  obtain ⟨k, rfl, hk, hj⟩ := hrel
  rcases Nat.lt_or_ge k rb.length with hlt | hge
  ·have dk : decide ((k : Int) < (rb.length : Int)) = true := decide_eq_true (by omega)
   have hi := hI _ _ hj
   obtain ⟨a', c', he, hal'⟩ := own_cell hi.rows
   cases he
   obtain ⟨b, hbk⟩ : ∃ b, rb[k]? = some b := ⟨_, List.getElem?_eq_getElem hlt⟩
   obtain ⟨g, rfl, hg⟩ := hal' k (.pointer (some ⟨b, 0, none⟩)) (by simp [ptrs, hbk])
   have hst := hi.stage k b hbk (waitQ_lt st k)
   have hq := hid (waitQ_succ st k)
   obtain ⟨v, hv⟩ : ∃ v, st k = v := ⟨_, rfl⟩
   rw [hv] at hst hq
   by_cases h1 : v = 1
   ·subst h1
    have hq' : waitQ st (k + 1) = waitQ st k ++ [k] := by rw [hq.out]; rfl
    obtain ⟨rest, hrest⟩ := waitQ_rest st (k + 1) rb.length (by omega)
    have hrest' : waitQ st rb.length = waitQ st k ++ k :: rest := by rw [hrest, hq']; simp
    obtain ⟨fn, tmps, assign, body, hy2, hR⟩ := hY (waitQ st k) k wr hj ⟨rest, hrest'⟩
    replace hy2 : (Instr.yield lb #[.pointer (some ⟨rb[k]?.getD 0, 0, none⟩)]).run Tryz.prog wr = _ := hy2
    rw [hbk] at hy2
    simp only [Option.getD_some] at hy2
    have HR := hid hR;clear hR;gi_wp2_with fail
    refine ⟨rfl, HR.out.mono ?_⟩
    rintro e W3 (⟨rfl, hJ3⟩ | ⟨rfl, hJx3⟩)
    ·gi_wp2
     go_roundw
     case rel => exact ⟨k + 1, by go_num, by omega, by rw [hq']; exact hJ3⟩
     case measure => simp [intOf]; omega
    ·gi_wp2
     refine bodyPost_ret (results_none rfl _ _ _) rfl ?_
     exact ⟨⟨_, rfl⟩, .inr ⟨_, ⟨rest, by rw [hrest', List.append_assoc]; rfl⟩, hJx3⟩⟩
   ·have e1 : (v == 1) = false := by simpa using h1
    have hq' : waitQ st (k + 1) = waitQ st k := by rw [hq.out, if_neg h1]; simp
    gi_wp2
    refine ⟨fun f hf => (by cases hf), ?_⟩
    gi_wp2
    go_roundw
    case rel => exact ⟨k + 1, by go_num, by omega, by rw [hq']; exact hj⟩
    case measure => simp [intOf]; omega
  ·obtain rfl : k = rb.length := by omega
   gi_wp2
   refine bodyPost_end (results_none rfl _ _ _) rfl ?_
   exact ⟨⟨_, rfl⟩, .inl ⟨_, rfl, hj⟩⟩
end
end Go.Proofs.YtoinabapaeebfaaGreatDoor
