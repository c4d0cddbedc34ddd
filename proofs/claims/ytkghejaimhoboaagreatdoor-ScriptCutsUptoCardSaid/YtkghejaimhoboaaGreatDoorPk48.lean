/- Parts of the proof of ScriptCuts: contracts of functions that it reaches, and plain lemmas. No condition of their own. -/
import Derived.Test.YtkghejaimhoboaaGreatDoorPk26
import Derived.Test.YtkghejaimhoboaaGreatDoorPk47
import Derived.Test.YtkghejaimhoboaaGreatDoorPk17
import Derived.Test.YtkghejaimhoboaaGreatDoorPk25
import Derived.Deep.Cut
set_option linter.unusedSimpArgs false
set_option linter.unusedVariables false
set_option maxRecDepth 100000
set_option maxHeartbeats 8000000
namespace Go.Proofs.YtkghejaimhoboaaGreatDoor
open Go.RowKit Go.Shelf
section
attribute [local go_sem] Oper.semAt_some
theorem heap_lt {w : World} {m : Nat} {o : Obj} (h : w.heap[m]? = some o) : m < w.heap.size := (Array.getElem?_eq_some_iff.1 h).1
theorem heap_old (w : World) (o : Obj) (m : Nat) (h : m < w.heap.size) : (w.alloc o).heap[m]? = w.heap[m]? := ((Below.refl w.heap.size w).alloc (Nat.le_refl _) o).block m h
def brkC (c : CfV) (bk m2 m3 m4 : Nat) : Array Value := #[.pointer (some ⟨bk, 0, none⟩), .int .i64 c.window, .int .i64 c.room, .int .i64 c.inbox, .int .i64 c.subs, .int .i64 c.sessions, .int .i64 c.retained, .string ⟨c.secret.toArray⟩, .int .i64 0, .map (some m2), .map (some m3), .map (some m4), .int .i64 0, .slice none 0 0, .slice none 0 0]
theorem build_brk (c : CfV) (bk m2 m3 m4 : Nat) (W : World) : (Instr.build 217 #[(0, .pointer (some ⟨bk, 0, none⟩)), (1, .agg c.cl.toArray), (3, .map (some m2)), (4, .map (some m3)), (5, .map (some m4))]).run Tryz.prog W = .ok (.agg (brkC c bk m2 m3 m4)) W := by kernel_rfl
structure BrI (w : World) (c : CfV) (p : Nat) (wx : World) : Prop where
 below : Below w.heap.size w wx
 box : Blk wx w.heap.size c.cl.toArray 27
 out : ∃ bk m2 m3 m4, Blk wx p (brkC c bk m2 m3 m4) 217 /\ wx.heap[m3]? = some (.map #[] 0) /\ wx.heap[m4]? = some (.map #[] 0)
theorem ses_New_bad (win room most subs : Int) (client : List UInt8) (w : World) (hT : TzAt w) (hbad : ¬ ((1 <= win /\ win <= 100) /\ (1 <= room /\ room <= 1000) /\ (1 <= most /\ most <= 1000) /\ (1 <= subs /\ subs <= 100))) :
  Calls Tryz.prog 167 #[.agg #[.int .i64 win, .int .i64 room, .int .i64 most, .int .i64 subs], .string ⟨client.toArray⟩] w (NoP w) := by
 have hB : Below w.heap.size w ((w.alloc (.cells #[.int .i64 win, .int .i64 room, .int .i64 most, .int .i64 subs] 25)).alloc (.cells (sessV client 0 1).vals 136)) := by
  exact belw
 have hRow : RowsAt ((w.alloc (.cells #[.int .i64 win, .int .i64 room, .int .i64 most, .int .i64 subs] 25)).alloc (.cells (sessV client 0 1).vals 136)) w.heap.size (.slice (some ⟨w.heap.size + 1, 0, none⟩) 1 1) [sessV client 0 1] :=
  ⟨by simp [RowV.cllen], .inr ⟨w.heap.size + 1, 1, (sessV client 0 1).vals, rfl, by omega, Blk.new_at _ _ _ _ (by simp), by simp, by decide, by simp [RowV.vals], by simp [RowV.cl, RowV.vals]⟩⟩
 have CO := hid (ses_Of_bad win room most subs client w.heap.size (w.heap.size + 1) _ (hT.below hB) hRow hbad)
 replace hB := hid hB;clear hRow hbad;unfold sessV RowV.vals at *
 go_enter Tryz.func167, Tryz.ntmps167
 go_wp2_with (go_at_call 170; refine CO.out.mono ?_; rintro e w1 ⟨x, rfl, hb1⟩)
 go_returns
 exact ⟨x, rfl, hB.out.trans (hb1.mono hB.out.size)⟩
theorem brk_Of (c : CfV) (w : World) (hT : TzAt w) :
  Calls Tryz.prog 99 #[.agg c.cl.toArray, .slice none 0 0] w fun e w' => ∃ x z, e = .returned (.tuple #[x, .int .i64 z]) /\ (z = 0 ↔ cfOK c) /\ Below w.heap.size w w' := by
 have hmm := @run_makeMap Tryz.prog
 obtain ⟨cv, hcv⟩ : ∃ cv, c.cl.toArray = cv := ⟨_, rfl⟩
 have bX : Blk (w.alloc (.cells c.cl.toArray 27)) w.heap.size c.cl.toArray 27 := Blk.new _ _ _
 have BX : Below w.heap.size w (w.alloc (.cells c.cl.toArray 27)) := (Below.refl _ _).alloc (Nat.le_refl _) _
 have hbd : Hid (∀ bk m2 m3 m4 W, (Instr.build 217 #[(0, .pointer (some ⟨bk, 0, none⟩)), (1, .agg cv), (3, .map (some m2)), (4, .map (some m3)), (5, .map (some m4))]).run Tryz.prog W = .ok (.agg (brkC c bk m2 m3 m4)) W) := hid fun bk m2 m3 m4 W => by rw [<- hcv]; exact build_brk c bk m2 m3 m4 W
 rw [hcv]
 go_enter Tryz.func99, Tryz.ntmps99
 go_upto_region 1 with fail
 go_cut [6] from 20 (fun s6 wx => ∃ p, s6 = .pointer (some ⟨p, 0, none⟩) /\ Hid (BrI w c p wx))
 case first =>
  --BEG
  obtain ⟨W0, hW0⟩ : ∃ W0, w.alloc (.cells c.cl.toArray 27) = W0 := ⟨_, rfl⟩
  rw [hW0] at bX BX
  rw [hcv] at hW0
  rw [hW0]
  clear hW0;obtain ⟨W, hW⟩ : ∃ W, W0.drew = W := ⟨_, rfl⟩
  have BW : Below w.heap.size w W := by rw [<- hW]; exact BX.drew
  have bW : Blk W w.heap.size c.cl.toArray 27 := by rw [<- hW]; exact bX
  refine regionQ [(1000, fun w' => Blk w' w.heap.size c.cl.toArray 27)] (by kernel_rfl) ⟨bX, trivial⟩ fun KQ hKQ => ?_
  refine lR 1 0 rfl rfl rfl rfl (fun w' hf => run_load_blk hf 27 Tryz.underlying27 rfl (by kernel_rfl)) ?_
  try simp only [PT]
  rw [hW]
  clear hW BX bX;refine stepM [0, 2, 3, 4] (fun j hj => ?_)
  have hj : j = 0 \/ j = 2 \/ j = 3 \/ j = 4 := by simpa using hj
  rcases hj with rfl | rfl | rfl | rfl
  ·refine ⟨⟨_, rfl, by kernel_rfl, fun K hK => ?_⟩⟩
   go_simp;refine (match_New W).mono ?_
   rintro e W0 ⟨bk, rfl, hb⟩
   have BW0 := BW.trans (hb.mono BW.size)
   have bW0 := bW.below hb
   refine hK _ _ ⟨⟨fun _ => bW0, trivial⟩, ?_⟩
   clear hK K;try simp only [PT]
   refine stepM [2, 3, 4] (fun j hj => ?_)
   have hj : j = 2 \/ j = 3 \/ j = 4 := by simpa using hj
   rcases hj with rfl | rfl | rfl
   ·refine ⟨⟨_, rfl, by kernel_rfl, fun K hK => ?_⟩⟩
    go_simp;obtain ⟨m2, hm2⟩ : ∃ m, W0.heap.size = m := ⟨_, rfl⟩
    have h2W02 := World.alloc_heap_new W0 (.map #[] 0)
    rw [hm2] at h2W02
    have BW02 := BW0.alloc BW0.size (.map #[] 0)
    have bW02 := bW0.alloc (.map #[] 0)
    rw [hm2]
    refine hK _ _ ⟨⟨fun _ => bW02, trivial⟩, ?_⟩
    obtain ⟨W02, hWW02⟩ : ∃ X, W0.alloc (.map #[] 0) = X := ⟨_, rfl⟩
    rw [hWW02] at BW02 bW02 h2W02 ⊢
    clear hWW02 hm2;clear hK K;try simp only [PT]
    refine stepM [3, 4] (fun j hj => ?_)
    have hj : j = 3 \/ j = 4 := by simpa using hj
    rcases hj with rfl | rfl
    ·refine ⟨⟨_, rfl, by kernel_rfl, fun K hK => ?_⟩⟩
     go_simp;obtain ⟨m3, hm3⟩ : ∃ m, W02.heap.size = m := ⟨_, rfl⟩
     have h3W023 := World.alloc_heap_new W02 (.map #[] 0)
     rw [hm3] at h3W023
     have BW023 := BW02.alloc BW02.size (.map #[] 0)
     have bW023 := bW02.alloc (.map #[] 0)
     have h2W023 := (heap_old W02 (.map #[] 0) m2 (heap_lt h2W02)).trans h2W02
     rw [hm3]
     refine hK _ _ ⟨⟨fun _ => bW023, trivial⟩, ?_⟩
     obtain ⟨W023, hWW023⟩ : ∃ X, W02.alloc (.map #[] 0) = X := ⟨_, rfl⟩
     rw [hWW023] at BW023 bW023 h2W023 h3W023 ⊢
     clear hWW023 hm3;clear hK K;try simp only [PT]
     refine stepM [4] (fun j hj => ?_)
     have hj : j = 4 := by simpa using hj
     subst hj
     ·refine ⟨⟨_, rfl, by kernel_rfl, fun K hK => ?_⟩⟩
      go_simp;obtain ⟨m4, hm4⟩ : ∃ m, W023.heap.size = m := ⟨_, rfl⟩
      have h4W0234 := World.alloc_heap_new W023 (.map #[] 0)
      rw [hm4] at h4W0234
      have BW0234 := BW023.alloc BW023.size (.map #[] 0)
      have bW0234 := bW023.alloc (.map #[] 0)
      have h2W0234 := (heap_old W023 (.map #[] 0) m2 (heap_lt h2W023)).trans h2W023
      have h3W0234 := (heap_old W023 (.map #[] 0) m3 (heap_lt h3W023)).trans h3W023
      rw [hm4]
      refine hK _ _ ⟨⟨fun _ => bW0234, trivial⟩, ?_⟩
      obtain ⟨W0234, hWW0234⟩ : ∃ X, W023.alloc (.map #[] 0) = X := ⟨_, rfl⟩
      rw [hWW0234] at BW0234 bW0234 h2W0234 h3W0234 h4W0234 ⊢
      clear hWW0234 hm4;clear hK K;try simp only [PT]
      refine buildQ 5 #[(0, .pointer (some ⟨bk, 0, none⟩)), (1, .agg cv), (3, .map (some m2)), (4, .map (some m3)), (5, .map (some m4))] _ rfl rfl rfl (hbd.out bk m2 m3 m4) ?_
      try simp only [PT]
      refine sQ 6 fun K hK => ?_;simp only [GO];go_simp;refine hK _ _ ⟨⟨fun _ => bW0234.alloc _, trivial⟩, ?_⟩
      clear hK K;try simp only [PT]
      refine tQ [7] ?_;refine dQ (hKQ.out _ _ ?_);clear hKQ KQ;have hR : BrI w c W0234.heap.size (W0234.alloc (.cells (brkC c bk m2 m3 m4) 217)) := ⟨BW0234.alloc BW0234.size _, bW0234.alloc _, bk, m2, m3, m4, Blk.new _ _ _, (heap_old _ _ _ (heap_lt h3W0234)).trans h3W0234, (heap_old _ _ _ (heap_lt h4W0234)).trans h4W0234⟩
      replace hR := hid hR;go_wp2
      go_meet
      case rel => exact ⟨_, rfl, hR⟩
    ·refine ⟨⟨_, rfl, by kernel_rfl, fun K hK => ?_⟩⟩
     go_simp;obtain ⟨m4, hm4⟩ : ∃ m, W02.heap.size = m := ⟨_, rfl⟩
     have h4W024 := World.alloc_heap_new W02 (.map #[] 0)
     rw [hm4] at h4W024
     have BW024 := BW02.alloc BW02.size (.map #[] 0)
     have bW024 := bW02.alloc (.map #[] 0)
     have h2W024 := (heap_old W02 (.map #[] 0) m2 (heap_lt h2W02)).trans h2W02
     rw [hm4]
     refine hK _ _ ⟨⟨fun _ => bW024, trivial⟩, ?_⟩
     obtain ⟨W024, hWW024⟩ : ∃ X, W02.alloc (.map #[] 0) = X := ⟨_, rfl⟩
     rw [hWW024] at BW024 bW024 h2W024 h4W024 ⊢
     clear hWW024 hm4;clear hK K;try simp only [PT]
     refine stepM [3] (fun j hj => ?_)
     have hj : j = 3 := by simpa using hj
     subst hj
     ·refine ⟨⟨_, rfl, by kernel_rfl, fun K hK => ?_⟩⟩
      go_simp;obtain ⟨m3, hm3⟩ : ∃ m, W024.heap.size = m := ⟨_, rfl⟩
      have h3W0243 := World.alloc_heap_new W024 (.map #[] 0)
      rw [hm3] at h3W0243
      have BW0243 := BW024.alloc BW024.size (.map #[] 0)
      have bW0243 := bW024.alloc (.map #[] 0)
      have h2W0243 := (heap_old W024 (.map #[] 0) m2 (heap_lt h2W024)).trans h2W024
      have h4W0243 := (heap_old W024 (.map #[] 0) m4 (heap_lt h4W024)).trans h4W024
      rw [hm3]
      refine hK _ _ ⟨⟨fun _ => bW0243, trivial⟩, ?_⟩
      obtain ⟨W0243, hWW0243⟩ : ∃ X, W024.alloc (.map #[] 0) = X := ⟨_, rfl⟩
      rw [hWW0243] at BW0243 bW0243 h2W0243 h3W0243 h4W0243 ⊢
      clear hWW0243 hm3;clear hK K;try simp only [PT]
      refine buildQ 5 #[(0, .pointer (some ⟨bk, 0, none⟩)), (1, .agg cv), (3, .map (some m2)), (4, .map (some m3)), (5, .map (some m4))] _ rfl rfl rfl (hbd.out bk m2 m3 m4) ?_
      try simp only [PT]
      refine sQ 6 fun K hK => ?_;simp only [GO];go_simp;refine hK _ _ ⟨⟨fun _ => bW0243.alloc _, trivial⟩, ?_⟩
      clear hK K;try simp only [PT]
      refine tQ [7] ?_;refine dQ (hKQ.out _ _ ?_);clear hKQ KQ;have hR : BrI w c W0243.heap.size (W0243.alloc (.cells (brkC c bk m2 m3 m4) 217)) := ⟨BW0243.alloc BW0243.size _, bW0243.alloc _, bk, m2, m3, m4, Blk.new _ _ _, (heap_old _ _ _ (heap_lt h3W0243)).trans h3W0243, (heap_old _ _ _ (heap_lt h4W0243)).trans h4W0243⟩
      replace hR := hid hR;go_wp2
      go_meet
      case rel => exact ⟨_, rfl, hR⟩
   ·refine ⟨⟨_, rfl, by kernel_rfl, fun K hK => ?_⟩⟩
    go_simp;obtain ⟨m3, hm3⟩ : ∃ m, W0.heap.size = m := ⟨_, rfl⟩
    have h3W03 := World.alloc_heap_new W0 (.map #[] 0)
    rw [hm3] at h3W03
    have BW03 := BW0.alloc BW0.size (.map #[] 0)
    have bW03 := bW0.alloc (.map #[] 0)
    rw [hm3]
    refine hK _ _ ⟨⟨fun _ => bW03, trivial⟩, ?_⟩
    obtain ⟨W03, hWW03⟩ : ∃ X, W0.alloc (.map #[] 0) = X := ⟨_, rfl⟩
    rw [hWW03] at BW03 bW03 h3W03 ⊢
    clear hWW03 hm3;clear hK K;try simp only [PT]
    refine stepM [2, 4] (fun j hj => ?_)
    have hj : j = 2 \/ j = 4 := by simpa using hj
    rcases hj with rfl | rfl
    ·refine ⟨⟨_, rfl, by kernel_rfl, fun K hK => ?_⟩⟩
     go_simp;obtain ⟨m2, hm2⟩ : ∃ m, W03.heap.size = m := ⟨_, rfl⟩
     have h2W032 := World.alloc_heap_new W03 (.map #[] 0)
     rw [hm2] at h2W032
     have BW032 := BW03.alloc BW03.size (.map #[] 0)
     have bW032 := bW03.alloc (.map #[] 0)
     have h3W032 := (heap_old W03 (.map #[] 0) m3 (heap_lt h3W03)).trans h3W03
     rw [hm2]
     refine hK _ _ ⟨⟨fun _ => bW032, trivial⟩, ?_⟩
     obtain ⟨W032, hWW032⟩ : ∃ X, W03.alloc (.map #[] 0) = X := ⟨_, rfl⟩
     rw [hWW032] at BW032 bW032 h2W032 h3W032 ⊢
     clear hWW032 hm2;clear hK K;try simp only [PT]
     refine stepM [4] (fun j hj => ?_)
     have hj : j = 4 := by simpa using hj
     subst hj
     ·refine ⟨⟨_, rfl, by kernel_rfl, fun K hK => ?_⟩⟩
      go_simp;obtain ⟨m4, hm4⟩ : ∃ m, W032.heap.size = m := ⟨_, rfl⟩
      have h4W0324 := World.alloc_heap_new W032 (.map #[] 0)
      rw [hm4] at h4W0324
      have BW0324 := BW032.alloc BW032.size (.map #[] 0)
      have bW0324 := bW032.alloc (.map #[] 0)
      have h2W0324 := (heap_old W032 (.map #[] 0) m2 (heap_lt h2W032)).trans h2W032
      have h3W0324 := (heap_old W032 (.map #[] 0) m3 (heap_lt h3W032)).trans h3W032
      rw [hm4]
      refine hK _ _ ⟨⟨fun _ => bW0324, trivial⟩, ?_⟩
      obtain ⟨W0324, hWW0324⟩ : ∃ X, W032.alloc (.map #[] 0) = X := ⟨_, rfl⟩
      rw [hWW0324] at BW0324 bW0324 h2W0324 h3W0324 h4W0324 ⊢
      clear hWW0324 hm4;clear hK K;try simp only [PT]
      refine buildQ 5 #[(0, .pointer (some ⟨bk, 0, none⟩)), (1, .agg cv), (3, .map (some m2)), (4, .map (some m3)), (5, .map (some m4))] _ rfl rfl rfl (hbd.out bk m2 m3 m4) ?_
      try simp only [PT]
      refine sQ 6 fun K hK => ?_;simp only [GO];go_simp;refine hK _ _ ⟨⟨fun _ => bW0324.alloc _, trivial⟩, ?_⟩
      clear hK K;try simp only [PT]
      refine tQ [7] ?_;refine dQ (hKQ.out _ _ ?_);clear hKQ KQ;have hR : BrI w c W0324.heap.size (W0324.alloc (.cells (brkC c bk m2 m3 m4) 217)) := ⟨BW0324.alloc BW0324.size _, bW0324.alloc _, bk, m2, m3, m4, Blk.new _ _ _, (heap_old _ _ _ (heap_lt h3W0324)).trans h3W0324, (heap_old _ _ _ (heap_lt h4W0324)).trans h4W0324⟩
      replace hR := hid hR;go_wp2
      go_meet
      case rel => exact ⟨_, rfl, hR⟩
    ·refine ⟨⟨_, rfl, by kernel_rfl, fun K hK => ?_⟩⟩
     go_simp;obtain ⟨m4, hm4⟩ : ∃ m, W03.heap.size = m := ⟨_, rfl⟩
     have h4W034 := World.alloc_heap_new W03 (.map #[] 0)
     rw [hm4] at h4W034
     have BW034 := BW03.alloc BW03.size (.map #[] 0)
     have bW034 := bW03.alloc (.map #[] 0)
     have h3W034 := (heap_old W03 (.map #[] 0) m3 (heap_lt h3W03)).trans h3W03
     rw [hm4]
     refine hK _ _ ⟨⟨fun _ => bW034, trivial⟩, ?_⟩
     obtain ⟨W034, hWW034⟩ : ∃ X, W03.alloc (.map #[] 0) = X := ⟨_, rfl⟩
     rw [hWW034] at BW034 bW034 h3W034 h4W034 ⊢
     clear hWW034 hm4;clear hK K;try simp only [PT]
     refine stepM [2] (fun j hj => ?_)
     have hj : j = 2 := by simpa using hj
     subst hj
     ·refine ⟨⟨_, rfl, by kernel_rfl, fun K hK => ?_⟩⟩
      go_simp;obtain ⟨m2, hm2⟩ : ∃ m, W034.heap.size = m := ⟨_, rfl⟩
      have h2W0342 := World.alloc_heap_new W034 (.map #[] 0)
      rw [hm2] at h2W0342
      have BW0342 := BW034.alloc BW034.size (.map #[] 0)
      have bW0342 := bW034.alloc (.map #[] 0)
      have h3W0342 := (heap_old W034 (.map #[] 0) m3 (heap_lt h3W034)).trans h3W034
      have h4W0342 := (heap_old W034 (.map #[] 0) m4 (heap_lt h4W034)).trans h4W034
      rw [hm2]
      refine hK _ _ ⟨⟨fun _ => bW0342, trivial⟩, ?_⟩
      obtain ⟨W0342, hWW0342⟩ : ∃ X, W034.alloc (.map #[] 0) = X := ⟨_, rfl⟩
      rw [hWW0342] at BW0342 bW0342 h2W0342 h3W0342 h4W0342 ⊢
      clear hWW0342 hm2;clear hK K;try simp only [PT]
      refine buildQ 5 #[(0, .pointer (some ⟨bk, 0, none⟩)), (1, .agg cv), (3, .map (some m2)), (4, .map (some m3)), (5, .map (some m4))] _ rfl rfl rfl (hbd.out bk m2 m3 m4) ?_
      try simp only [PT]
      refine sQ 6 fun K hK => ?_;simp only [GO];go_simp;refine hK _ _ ⟨⟨fun _ => bW0342.alloc _, trivial⟩, ?_⟩
      clear hK K;try simp only [PT]
      refine tQ [7] ?_;refine dQ (hKQ.out _ _ ?_);clear hKQ KQ;have hR : BrI w c W0342.heap.size (W0342.alloc (.cells (brkC c bk m2 m3 m4) 217)) := ⟨BW0342.alloc BW0342.size _, bW0342.alloc _, bk, m2, m3, m4, Blk.new _ _ _, (heap_old _ _ _ (heap_lt h3W0342)).trans h3W0342, (heap_old _ _ _ (heap_lt h4W0342)).trans h4W0342⟩
      replace hR := hid hR;go_wp2
      go_meet
      case rel => exact ⟨_, rfl, hR⟩
   ·refine ⟨⟨_, rfl, by kernel_rfl, fun K hK => ?_⟩⟩
    go_simp;obtain ⟨m4, hm4⟩ : ∃ m, W0.heap.size = m := ⟨_, rfl⟩
    have h4W04 := World.alloc_heap_new W0 (.map #[] 0)
    rw [hm4] at h4W04
    have BW04 := BW0.alloc BW0.size (.map #[] 0)
    have bW04 := bW0.alloc (.map #[] 0)
    rw [hm4]
    refine hK _ _ ⟨⟨fun _ => bW04, trivial⟩, ?_⟩
    obtain ⟨W04, hWW04⟩ : ∃ X, W0.alloc (.map #[] 0) = X := ⟨_, rfl⟩
    rw [hWW04] at BW04 bW04 h4W04 ⊢
    clear hWW04 hm4;clear hK K;try simp only [PT]
    refine stepM [2, 3] (fun j hj => ?_)
    have hj : j = 2 \/ j = 3 := by simpa using hj
    rcases hj with rfl | rfl
    ·refine ⟨⟨_, rfl, by kernel_rfl, fun K hK => ?_⟩⟩
     go_simp;obtain ⟨m2, hm2⟩ : ∃ m, W04.heap.size = m := ⟨_, rfl⟩
     have h2W042 := World.alloc_heap_new W04 (.map #[] 0)
     rw [hm2] at h2W042
     have BW042 := BW04.alloc BW04.size (.map #[] 0)
     have bW042 := bW04.alloc (.map #[] 0)
     have h4W042 := (heap_old W04 (.map #[] 0) m4 (heap_lt h4W04)).trans h4W04
     rw [hm2]
     refine hK _ _ ⟨⟨fun _ => bW042, trivial⟩, ?_⟩
     obtain ⟨W042, hWW042⟩ : ∃ X, W04.alloc (.map #[] 0) = X := ⟨_, rfl⟩
     rw [hWW042] at BW042 bW042 h2W042 h4W042 ⊢
     clear hWW042 hm2;clear hK K;try simp only [PT]
     refine stepM [3] (fun j hj => ?_)
     have hj : j = 3 := by simpa using hj
     subst hj
     ·refine ⟨⟨_, rfl, by kernel_rfl, fun K hK => ?_⟩⟩
      go_simp;obtain ⟨m3, hm3⟩ : ∃ m, W042.heap.size = m := ⟨_, rfl⟩
      have h3W0423 := World.alloc_heap_new W042 (.map #[] 0)
      rw [hm3] at h3W0423
      have BW0423 := BW042.alloc BW042.size (.map #[] 0)
      have bW0423 := bW042.alloc (.map #[] 0)
      have h2W0423 := (heap_old W042 (.map #[] 0) m2 (heap_lt h2W042)).trans h2W042
      have h4W0423 := (heap_old W042 (.map #[] 0) m4 (heap_lt h4W042)).trans h4W042
      rw [hm3]
      refine hK _ _ ⟨⟨fun _ => bW0423, trivial⟩, ?_⟩
      obtain ⟨W0423, hWW0423⟩ : ∃ X, W042.alloc (.map #[] 0) = X := ⟨_, rfl⟩
      rw [hWW0423] at BW0423 bW0423 h2W0423 h3W0423 h4W0423 ⊢
      clear hWW0423 hm3;clear hK K;try simp only [PT]
      refine buildQ 5 #[(0, .pointer (some ⟨bk, 0, none⟩)), (1, .agg cv), (3, .map (some m2)), (4, .map (some m3)), (5, .map (some m4))] _ rfl rfl rfl (hbd.out bk m2 m3 m4) ?_
      try simp only [PT]
      refine sQ 6 fun K hK => ?_;simp only [GO];go_simp;refine hK _ _ ⟨⟨fun _ => bW0423.alloc _, trivial⟩, ?_⟩
      clear hK K;try simp only [PT]
      refine tQ [7] ?_;refine dQ (hKQ.out _ _ ?_);clear hKQ KQ;have hR : BrI w c W0423.heap.size (W0423.alloc (.cells (brkC c bk m2 m3 m4) 217)) := ⟨BW0423.alloc BW0423.size _, bW0423.alloc _, bk, m2, m3, m4, Blk.new _ _ _, (heap_old _ _ _ (heap_lt h3W0423)).trans h3W0423, (heap_old _ _ _ (heap_lt h4W0423)).trans h4W0423⟩
      replace hR := hid hR;go_wp2
      go_meet
      case rel => exact ⟨_, rfl, hR⟩
    ·refine ⟨⟨_, rfl, by kernel_rfl, fun K hK => ?_⟩⟩
     go_simp;obtain ⟨m3, hm3⟩ : ∃ m, W04.heap.size = m := ⟨_, rfl⟩
     have h3W043 := World.alloc_heap_new W04 (.map #[] 0)
     rw [hm3] at h3W043
     have BW043 := BW04.alloc BW04.size (.map #[] 0)
     have bW043 := bW04.alloc (.map #[] 0)
     have h4W043 := (heap_old W04 (.map #[] 0) m4 (heap_lt h4W04)).trans h4W04
     rw [hm3]
     refine hK _ _ ⟨⟨fun _ => bW043, trivial⟩, ?_⟩
     obtain ⟨W043, hWW043⟩ : ∃ X, W04.alloc (.map #[] 0) = X := ⟨_, rfl⟩
     rw [hWW043] at BW043 bW043 h3W043 h4W043 ⊢
     clear hWW043 hm3;clear hK K;try simp only [PT]
     refine stepM [2] (fun j hj => ?_)
     have hj : j = 2 := by simpa using hj
     subst hj
     ·refine ⟨⟨_, rfl, by kernel_rfl, fun K hK => ?_⟩⟩
      go_simp;obtain ⟨m2, hm2⟩ : ∃ m, W043.heap.size = m := ⟨_, rfl⟩
      have h2W0432 := World.alloc_heap_new W043 (.map #[] 0)
      rw [hm2] at h2W0432
      have BW0432 := BW043.alloc BW043.size (.map #[] 0)
      have bW0432 := bW043.alloc (.map #[] 0)
      have h3W0432 := (heap_old W043 (.map #[] 0) m3 (heap_lt h3W043)).trans h3W043
      have h4W0432 := (heap_old W043 (.map #[] 0) m4 (heap_lt h4W043)).trans h4W043
      rw [hm2]
      refine hK _ _ ⟨⟨fun _ => bW0432, trivial⟩, ?_⟩
      obtain ⟨W0432, hWW0432⟩ : ∃ X, W043.alloc (.map #[] 0) = X := ⟨_, rfl⟩
      rw [hWW0432] at BW0432 bW0432 h2W0432 h3W0432 h4W0432 ⊢
      clear hWW0432 hm2;clear hK K;try simp only [PT]
      refine buildQ 5 #[(0, .pointer (some ⟨bk, 0, none⟩)), (1, .agg cv), (3, .map (some m2)), (4, .map (some m3)), (5, .map (some m4))] _ rfl rfl rfl (hbd.out bk m2 m3 m4) ?_
      try simp only [PT]
      refine sQ 6 fun K hK => ?_;simp only [GO];go_simp;refine hK _ _ ⟨⟨fun _ => bW0432.alloc _, trivial⟩, ?_⟩
      clear hK K;try simp only [PT]
      refine tQ [7] ?_;refine dQ (hKQ.out _ _ ?_);clear hKQ KQ;have hR : BrI w c W0432.heap.size (W0432.alloc (.cells (brkC c bk m2 m3 m4) 217)) := ⟨BW0432.alloc BW0432.size _, bW0432.alloc _, bk, m2, m3, m4, Blk.new _ _ _, (heap_old _ _ _ (heap_lt h3W0432)).trans h3W0432, (heap_old _ _ _ (heap_lt h4W0432)).trans h4W0432⟩
      replace hR := hid hR;go_wp2
      go_meet
      case rel => exact ⟨_, rfl, hR⟩
  ·refine ⟨⟨_, rfl, by kernel_rfl, fun K hK => ?_⟩⟩
   go_simp;obtain ⟨m2, hm2⟩ : ∃ m, W.heap.size = m := ⟨_, rfl⟩
   have h2W2 := World.alloc_heap_new W (.map #[] 0)
   rw [hm2] at h2W2
   have BW2 := BW.alloc BW.size (.map #[] 0)
   have bW2 := bW.alloc (.map #[] 0)
   rw [hm2]
   refine hK _ _ ⟨⟨fun _ => bW2, trivial⟩, ?_⟩
   obtain ⟨W2, hWW2⟩ : ∃ X, W.alloc (.map #[] 0) = X := ⟨_, rfl⟩
   rw [hWW2] at BW2 bW2 h2W2 ⊢
   clear hWW2 hm2;clear hK K;try simp only [PT]
   refine stepM [0, 3, 4] (fun j hj => ?_)
   have hj : j = 0 \/ j = 3 \/ j = 4 := by simpa using hj
   rcases hj with rfl | rfl | rfl
   ·refine ⟨⟨_, rfl, by kernel_rfl, fun K hK => ?_⟩⟩
    go_simp;refine (match_New W2).mono ?_
    rintro e W20 ⟨bk, rfl, hb⟩
    have BW20 := BW2.trans (hb.mono BW2.size)
    have bW20 := bW2.below hb
    have h2W20 := (hb.block m2 (heap_lt h2W2)).trans h2W2
    refine hK _ _ ⟨⟨fun _ => bW20, trivial⟩, ?_⟩
    clear hK K;try simp only [PT]
    refine stepM [3, 4] (fun j hj => ?_)
    have hj : j = 3 \/ j = 4 := by simpa using hj
    rcases hj with rfl | rfl
    ·refine ⟨⟨_, rfl, by kernel_rfl, fun K hK => ?_⟩⟩
     go_simp;obtain ⟨m3, hm3⟩ : ∃ m, W20.heap.size = m := ⟨_, rfl⟩
     have h3W203 := World.alloc_heap_new W20 (.map #[] 0)
     rw [hm3] at h3W203
     have BW203 := BW20.alloc BW20.size (.map #[] 0)
     have bW203 := bW20.alloc (.map #[] 0)
     have h2W203 := (heap_old W20 (.map #[] 0) m2 (heap_lt h2W20)).trans h2W20
     rw [hm3]
     refine hK _ _ ⟨⟨fun _ => bW203, trivial⟩, ?_⟩
     obtain ⟨W203, hWW203⟩ : ∃ X, W20.alloc (.map #[] 0) = X := ⟨_, rfl⟩
     rw [hWW203] at BW203 bW203 h2W203 h3W203 ⊢
     clear hWW203 hm3;clear hK K;try simp only [PT]
     refine stepM [4] (fun j hj => ?_)
     have hj : j = 4 := by simpa using hj
     subst hj
     ·refine ⟨⟨_, rfl, by kernel_rfl, fun K hK => ?_⟩⟩
      go_simp;obtain ⟨m4, hm4⟩ : ∃ m, W203.heap.size = m := ⟨_, rfl⟩
      have h4W2034 := World.alloc_heap_new W203 (.map #[] 0)
      rw [hm4] at h4W2034
      have BW2034 := BW203.alloc BW203.size (.map #[] 0)
      have bW2034 := bW203.alloc (.map #[] 0)
      have h2W2034 := (heap_old W203 (.map #[] 0) m2 (heap_lt h2W203)).trans h2W203
      have h3W2034 := (heap_old W203 (.map #[] 0) m3 (heap_lt h3W203)).trans h3W203
      rw [hm4]
      refine hK _ _ ⟨⟨fun _ => bW2034, trivial⟩, ?_⟩
      obtain ⟨W2034, hWW2034⟩ : ∃ X, W203.alloc (.map #[] 0) = X := ⟨_, rfl⟩
      rw [hWW2034] at BW2034 bW2034 h2W2034 h3W2034 h4W2034 ⊢
      clear hWW2034 hm4;clear hK K;try simp only [PT]
      refine buildQ 5 #[(0, .pointer (some ⟨bk, 0, none⟩)), (1, .agg cv), (3, .map (some m2)), (4, .map (some m3)), (5, .map (some m4))] _ rfl rfl rfl (hbd.out bk m2 m3 m4) ?_
      try simp only [PT]
      refine sQ 6 fun K hK => ?_;simp only [GO];go_simp;refine hK _ _ ⟨⟨fun _ => bW2034.alloc _, trivial⟩, ?_⟩
      clear hK K;try simp only [PT]
      refine tQ [7] ?_;refine dQ (hKQ.out _ _ ?_);clear hKQ KQ;have hR : BrI w c W2034.heap.size (W2034.alloc (.cells (brkC c bk m2 m3 m4) 217)) := ⟨BW2034.alloc BW2034.size _, bW2034.alloc _, bk, m2, m3, m4, Blk.new _ _ _, (heap_old _ _ _ (heap_lt h3W2034)).trans h3W2034, (heap_old _ _ _ (heap_lt h4W2034)).trans h4W2034⟩
      replace hR := hid hR;go_wp2
      go_meet
      case rel => exact ⟨_, rfl, hR⟩
    ·refine ⟨⟨_, rfl, by kernel_rfl, fun K hK => ?_⟩⟩
     go_simp;obtain ⟨m4, hm4⟩ : ∃ m, W20.heap.size = m := ⟨_, rfl⟩
     have h4W204 := World.alloc_heap_new W20 (.map #[] 0)
     rw [hm4] at h4W204
     have BW204 := BW20.alloc BW20.size (.map #[] 0)
     have bW204 := bW20.alloc (.map #[] 0)
     have h2W204 := (heap_old W20 (.map #[] 0) m2 (heap_lt h2W20)).trans h2W20
     rw [hm4]
     refine hK _ _ ⟨⟨fun _ => bW204, trivial⟩, ?_⟩
     obtain ⟨W204, hWW204⟩ : ∃ X, W20.alloc (.map #[] 0) = X := ⟨_, rfl⟩
     rw [hWW204] at BW204 bW204 h2W204 h4W204 ⊢
     clear hWW204 hm4;clear hK K;try simp only [PT]
     refine stepM [3] (fun j hj => ?_)
     have hj : j = 3 := by simpa using hj
     subst hj
     ·refine ⟨⟨_, rfl, by kernel_rfl, fun K hK => ?_⟩⟩
      go_simp;obtain ⟨m3, hm3⟩ : ∃ m, W204.heap.size = m := ⟨_, rfl⟩
      have h3W2043 := World.alloc_heap_new W204 (.map #[] 0)
      rw [hm3] at h3W2043
      have BW2043 := BW204.alloc BW204.size (.map #[] 0)
      have bW2043 := bW204.alloc (.map #[] 0)
      have h2W2043 := (heap_old W204 (.map #[] 0) m2 (heap_lt h2W204)).trans h2W204
      have h4W2043 := (heap_old W204 (.map #[] 0) m4 (heap_lt h4W204)).trans h4W204
      rw [hm3]
      refine hK _ _ ⟨⟨fun _ => bW2043, trivial⟩, ?_⟩
      obtain ⟨W2043, hWW2043⟩ : ∃ X, W204.alloc (.map #[] 0) = X := ⟨_, rfl⟩
      rw [hWW2043] at BW2043 bW2043 h2W2043 h3W2043 h4W2043 ⊢
      clear hWW2043 hm3;clear hK K;try simp only [PT]
      refine buildQ 5 #[(0, .pointer (some ⟨bk, 0, none⟩)), (1, .agg cv), (3, .map (some m2)), (4, .map (some m3)), (5, .map (some m4))] _ rfl rfl rfl (hbd.out bk m2 m3 m4) ?_
      try simp only [PT]
      refine sQ 6 fun K hK => ?_;simp only [GO];go_simp;refine hK _ _ ⟨⟨fun _ => bW2043.alloc _, trivial⟩, ?_⟩
      clear hK K;try simp only [PT]
      refine tQ [7] ?_;refine dQ (hKQ.out _ _ ?_);clear hKQ KQ;have hR : BrI w c W2043.heap.size (W2043.alloc (.cells (brkC c bk m2 m3 m4) 217)) := ⟨BW2043.alloc BW2043.size _, bW2043.alloc _, bk, m2, m3, m4, Blk.new _ _ _, (heap_old _ _ _ (heap_lt h3W2043)).trans h3W2043, (heap_old _ _ _ (heap_lt h4W2043)).trans h4W2043⟩
      replace hR := hid hR;go_wp2
      go_meet
      case rel => exact ⟨_, rfl, hR⟩
   ·refine ⟨⟨_, rfl, by kernel_rfl, fun K hK => ?_⟩⟩
    go_simp;obtain ⟨m3, hm3⟩ : ∃ m, W2.heap.size = m := ⟨_, rfl⟩
    have h3W23 := World.alloc_heap_new W2 (.map #[] 0)
    rw [hm3] at h3W23
    have BW23 := BW2.alloc BW2.size (.map #[] 0)
    have bW23 := bW2.alloc (.map #[] 0)
    have h2W23 := (heap_old W2 (.map #[] 0) m2 (heap_lt h2W2)).trans h2W2
    rw [hm3]
    refine hK _ _ ⟨⟨fun _ => bW23, trivial⟩, ?_⟩
    obtain ⟨W23, hWW23⟩ : ∃ X, W2.alloc (.map #[] 0) = X := ⟨_, rfl⟩
    rw [hWW23] at BW23 bW23 h2W23 h3W23 ⊢
    clear hWW23 hm3;clear hK K;try simp only [PT]
    refine stepM [0, 4] (fun j hj => ?_)
    have hj : j = 0 \/ j = 4 := by simpa using hj
    rcases hj with rfl | rfl
    ·refine ⟨⟨_, rfl, by kernel_rfl, fun K hK => ?_⟩⟩
     go_simp;refine (match_New W23).mono ?_
     rintro e W230 ⟨bk, rfl, hb⟩
     have BW230 := BW23.trans (hb.mono BW23.size)
     have bW230 := bW23.below hb
     have h2W230 := (hb.block m2 (heap_lt h2W23)).trans h2W23
     have h3W230 := (hb.block m3 (heap_lt h3W23)).trans h3W23
     refine hK _ _ ⟨⟨fun _ => bW230, trivial⟩, ?_⟩
     clear hK K;try simp only [PT]
     refine stepM [4] (fun j hj => ?_)
     have hj : j = 4 := by simpa using hj
     subst hj
     ·refine ⟨⟨_, rfl, by kernel_rfl, fun K hK => ?_⟩⟩
      go_simp;obtain ⟨m4, hm4⟩ : ∃ m, W230.heap.size = m := ⟨_, rfl⟩
      have h4W2304 := World.alloc_heap_new W230 (.map #[] 0)
      rw [hm4] at h4W2304
      have BW2304 := BW230.alloc BW230.size (.map #[] 0)
      have bW2304 := bW230.alloc (.map #[] 0)
      have h2W2304 := (heap_old W230 (.map #[] 0) m2 (heap_lt h2W230)).trans h2W230
      have h3W2304 := (heap_old W230 (.map #[] 0) m3 (heap_lt h3W230)).trans h3W230
      rw [hm4]
      refine hK _ _ ⟨⟨fun _ => bW2304, trivial⟩, ?_⟩
      obtain ⟨W2304, hWW2304⟩ : ∃ X, W230.alloc (.map #[] 0) = X := ⟨_, rfl⟩
      rw [hWW2304] at BW2304 bW2304 h2W2304 h3W2304 h4W2304 ⊢
      clear hWW2304 hm4;clear hK K;try simp only [PT]
      refine buildQ 5 #[(0, .pointer (some ⟨bk, 0, none⟩)), (1, .agg cv), (3, .map (some m2)), (4, .map (some m3)), (5, .map (some m4))] _ rfl rfl rfl (hbd.out bk m2 m3 m4) ?_
      try simp only [PT]
      refine sQ 6 fun K hK => ?_;simp only [GO];go_simp;refine hK _ _ ⟨⟨fun _ => bW2304.alloc _, trivial⟩, ?_⟩
      clear hK K;try simp only [PT]
      refine tQ [7] ?_;refine dQ (hKQ.out _ _ ?_);clear hKQ KQ;have hR : BrI w c W2304.heap.size (W2304.alloc (.cells (brkC c bk m2 m3 m4) 217)) := ⟨BW2304.alloc BW2304.size _, bW2304.alloc _, bk, m2, m3, m4, Blk.new _ _ _, (heap_old _ _ _ (heap_lt h3W2304)).trans h3W2304, (heap_old _ _ _ (heap_lt h4W2304)).trans h4W2304⟩
      replace hR := hid hR;go_wp2
      go_meet
      case rel => exact ⟨_, rfl, hR⟩
    ·refine ⟨⟨_, rfl, by kernel_rfl, fun K hK => ?_⟩⟩
     go_simp;obtain ⟨m4, hm4⟩ : ∃ m, W23.heap.size = m := ⟨_, rfl⟩
     have h4W234 := World.alloc_heap_new W23 (.map #[] 0)
     rw [hm4] at h4W234
     have BW234 := BW23.alloc BW23.size (.map #[] 0)
     have bW234 := bW23.alloc (.map #[] 0)
     have h2W234 := (heap_old W23 (.map #[] 0) m2 (heap_lt h2W23)).trans h2W23
     have h3W234 := (heap_old W23 (.map #[] 0) m3 (heap_lt h3W23)).trans h3W23
     rw [hm4]
     refine hK _ _ ⟨⟨fun _ => bW234, trivial⟩, ?_⟩
     obtain ⟨W234, hWW234⟩ : ∃ X, W23.alloc (.map #[] 0) = X := ⟨_, rfl⟩
     rw [hWW234] at BW234 bW234 h2W234 h3W234 h4W234 ⊢
     clear hWW234 hm4;clear hK K;try simp only [PT]
     refine stepM [0] (fun j hj => ?_)
     have hj : j = 0 := by simpa using hj
     subst hj
     ·refine ⟨⟨_, rfl, by kernel_rfl, fun K hK => ?_⟩⟩
      go_simp;refine (match_New W234).mono ?_
      rintro e W2340 ⟨bk, rfl, hb⟩
      have BW2340 := BW234.trans (hb.mono BW234.size)
      have bW2340 := bW234.below hb
      have h2W2340 := (hb.block m2 (heap_lt h2W234)).trans h2W234
      have h3W2340 := (hb.block m3 (heap_lt h3W234)).trans h3W234
      have h4W2340 := (hb.block m4 (heap_lt h4W234)).trans h4W234
      refine hK _ _ ⟨⟨fun _ => bW2340, trivial⟩, ?_⟩
      clear hK K;try simp only [PT]
      refine buildQ 5 #[(0, .pointer (some ⟨bk, 0, none⟩)), (1, .agg cv), (3, .map (some m2)), (4, .map (some m3)), (5, .map (some m4))] _ rfl rfl rfl (hbd.out bk m2 m3 m4) ?_
      try simp only [PT]
      refine sQ 6 fun K hK => ?_;simp only [GO];go_simp;refine hK _ _ ⟨⟨fun _ => bW2340.alloc _, trivial⟩, ?_⟩
      clear hK K;try simp only [PT]
      refine tQ [7] ?_;refine dQ (hKQ.out _ _ ?_);clear hKQ KQ;have hR : BrI w c W2340.heap.size (W2340.alloc (.cells (brkC c bk m2 m3 m4) 217)) := ⟨BW2340.alloc BW2340.size _, bW2340.alloc _, bk, m2, m3, m4, Blk.new _ _ _, (heap_old _ _ _ (heap_lt h3W2340)).trans h3W2340, (heap_old _ _ _ (heap_lt h4W2340)).trans h4W2340⟩
      replace hR := hid hR;go_wp2
      go_meet
      case rel => exact ⟨_, rfl, hR⟩
   ·refine ⟨⟨_, rfl, by kernel_rfl, fun K hK => ?_⟩⟩
    go_simp;obtain ⟨m4, hm4⟩ : ∃ m, W2.heap.size = m := ⟨_, rfl⟩
    have h4W24 := World.alloc_heap_new W2 (.map #[] 0)
    rw [hm4] at h4W24
    have BW24 := BW2.alloc BW2.size (.map #[] 0)
    have bW24 := bW2.alloc (.map #[] 0)
    have h2W24 := (heap_old W2 (.map #[] 0) m2 (heap_lt h2W2)).trans h2W2
    rw [hm4]
    refine hK _ _ ⟨⟨fun _ => bW24, trivial⟩, ?_⟩
    obtain ⟨W24, hWW24⟩ : ∃ X, W2.alloc (.map #[] 0) = X := ⟨_, rfl⟩
    rw [hWW24] at BW24 bW24 h2W24 h4W24 ⊢
    clear hWW24 hm4;clear hK K;try simp only [PT]
    refine stepM [0, 3] (fun j hj => ?_)
    have hj : j = 0 \/ j = 3 := by simpa using hj
    rcases hj with rfl | rfl
    ·refine ⟨⟨_, rfl, by kernel_rfl, fun K hK => ?_⟩⟩
     go_simp;refine (match_New W24).mono ?_
     rintro e W240 ⟨bk, rfl, hb⟩
     have BW240 := BW24.trans (hb.mono BW24.size)
     have bW240 := bW24.below hb
     have h2W240 := (hb.block m2 (heap_lt h2W24)).trans h2W24
     have h4W240 := (hb.block m4 (heap_lt h4W24)).trans h4W24
     refine hK _ _ ⟨⟨fun _ => bW240, trivial⟩, ?_⟩
     clear hK K;try simp only [PT]
     refine stepM [3] (fun j hj => ?_)
     have hj : j = 3 := by simpa using hj
     subst hj
     ·refine ⟨⟨_, rfl, by kernel_rfl, fun K hK => ?_⟩⟩
      go_simp;obtain ⟨m3, hm3⟩ : ∃ m, W240.heap.size = m := ⟨_, rfl⟩
      have h3W2403 := World.alloc_heap_new W240 (.map #[] 0)
      rw [hm3] at h3W2403
      have BW2403 := BW240.alloc BW240.size (.map #[] 0)
      have bW2403 := bW240.alloc (.map #[] 0)
      have h2W2403 := (heap_old W240 (.map #[] 0) m2 (heap_lt h2W240)).trans h2W240
      have h4W2403 := (heap_old W240 (.map #[] 0) m4 (heap_lt h4W240)).trans h4W240
      rw [hm3]
      refine hK _ _ ⟨⟨fun _ => bW2403, trivial⟩, ?_⟩
      obtain ⟨W2403, hWW2403⟩ : ∃ X, W240.alloc (.map #[] 0) = X := ⟨_, rfl⟩
      rw [hWW2403] at BW2403 bW2403 h2W2403 h3W2403 h4W2403 ⊢
      clear hWW2403 hm3;clear hK K;try simp only [PT]
      refine buildQ 5 #[(0, .pointer (some ⟨bk, 0, none⟩)), (1, .agg cv), (3, .map (some m2)), (4, .map (some m3)), (5, .map (some m4))] _ rfl rfl rfl (hbd.out bk m2 m3 m4) ?_
      try simp only [PT]
      refine sQ 6 fun K hK => ?_;simp only [GO];go_simp;refine hK _ _ ⟨⟨fun _ => bW2403.alloc _, trivial⟩, ?_⟩
      clear hK K;try simp only [PT]
      refine tQ [7] ?_;refine dQ (hKQ.out _ _ ?_);clear hKQ KQ;have hR : BrI w c W2403.heap.size (W2403.alloc (.cells (brkC c bk m2 m3 m4) 217)) := ⟨BW2403.alloc BW2403.size _, bW2403.alloc _, bk, m2, m3, m4, Blk.new _ _ _, (heap_old _ _ _ (heap_lt h3W2403)).trans h3W2403, (heap_old _ _ _ (heap_lt h4W2403)).trans h4W2403⟩
      replace hR := hid hR;go_wp2
      go_meet
      case rel => exact ⟨_, rfl, hR⟩
    ·refine ⟨⟨_, rfl, by kernel_rfl, fun K hK => ?_⟩⟩
     go_simp;obtain ⟨m3, hm3⟩ : ∃ m, W24.heap.size = m := ⟨_, rfl⟩
     have h3W243 := World.alloc_heap_new W24 (.map #[] 0)
     rw [hm3] at h3W243
     have BW243 := BW24.alloc BW24.size (.map #[] 0)
     have bW243 := bW24.alloc (.map #[] 0)
     have h2W243 := (heap_old W24 (.map #[] 0) m2 (heap_lt h2W24)).trans h2W24
     have h4W243 := (heap_old W24 (.map #[] 0) m4 (heap_lt h4W24)).trans h4W24
     rw [hm3]
     refine hK _ _ ⟨⟨fun _ => bW243, trivial⟩, ?_⟩
     obtain ⟨W243, hWW243⟩ : ∃ X, W24.alloc (.map #[] 0) = X := ⟨_, rfl⟩
     rw [hWW243] at BW243 bW243 h2W243 h3W243 h4W243 ⊢
     clear hWW243 hm3;clear hK K;try simp only [PT]
     refine stepM [0] (fun j hj => ?_)
     have hj : j = 0 := by simpa using hj
     subst hj
     ·refine ⟨⟨_, rfl, by kernel_rfl, fun K hK => ?_⟩⟩
      go_simp;refine (match_New W243).mono ?_
      rintro e W2430 ⟨bk, rfl, hb⟩
      have BW2430 := BW243.trans (hb.mono BW243.size)
      have bW2430 := bW243.below hb
      have h2W2430 := (hb.block m2 (heap_lt h2W243)).trans h2W243
      have h3W2430 := (hb.block m3 (heap_lt h3W243)).trans h3W243
      have h4W2430 := (hb.block m4 (heap_lt h4W243)).trans h4W243
      refine hK _ _ ⟨⟨fun _ => bW2430, trivial⟩, ?_⟩
      clear hK K;try simp only [PT]
      refine buildQ 5 #[(0, .pointer (some ⟨bk, 0, none⟩)), (1, .agg cv), (3, .map (some m2)), (4, .map (some m3)), (5, .map (some m4))] _ rfl rfl rfl (hbd.out bk m2 m3 m4) ?_
      try simp only [PT]
      refine sQ 6 fun K hK => ?_;simp only [GO];go_simp;refine hK _ _ ⟨⟨fun _ => bW2430.alloc _, trivial⟩, ?_⟩
      clear hK K;try simp only [PT]
      refine tQ [7] ?_;refine dQ (hKQ.out _ _ ?_);clear hKQ KQ;have hR : BrI w c W2430.heap.size (W2430.alloc (.cells (brkC c bk m2 m3 m4) 217)) := ⟨BW2430.alloc BW2430.size _, bW2430.alloc _, bk, m2, m3, m4, Blk.new _ _ _, (heap_old _ _ _ (heap_lt h3W2430)).trans h3W2430, (heap_old _ _ _ (heap_lt h4W2430)).trans h4W2430⟩
      replace hR := hid hR;go_wp2
      go_meet
      case rel => exact ⟨_, rfl, hR⟩
  ·refine ⟨⟨_, rfl, by kernel_rfl, fun K hK => ?_⟩⟩
   go_simp;obtain ⟨m3, hm3⟩ : ∃ m, W.heap.size = m := ⟨_, rfl⟩
   have h3W3 := World.alloc_heap_new W (.map #[] 0)
   rw [hm3] at h3W3
   have BW3 := BW.alloc BW.size (.map #[] 0)
   have bW3 := bW.alloc (.map #[] 0)
   rw [hm3]
   refine hK _ _ ⟨⟨fun _ => bW3, trivial⟩, ?_⟩
   obtain ⟨W3, hWW3⟩ : ∃ X, W.alloc (.map #[] 0) = X := ⟨_, rfl⟩
   rw [hWW3] at BW3 bW3 h3W3 ⊢
   clear hWW3 hm3;clear hK K;try simp only [PT]
   refine stepM [0, 2, 4] (fun j hj => ?_)
   have hj : j = 0 \/ j = 2 \/ j = 4 := by simpa using hj
   rcases hj with rfl | rfl | rfl
   ·refine ⟨⟨_, rfl, by kernel_rfl, fun K hK => ?_⟩⟩
    go_simp;refine (match_New W3).mono ?_
    rintro e W30 ⟨bk, rfl, hb⟩
    have BW30 := BW3.trans (hb.mono BW3.size)
    have bW30 := bW3.below hb
    have h3W30 := (hb.block m3 (heap_lt h3W3)).trans h3W3
    refine hK _ _ ⟨⟨fun _ => bW30, trivial⟩, ?_⟩
    clear hK K;try simp only [PT]
    refine stepM [2, 4] (fun j hj => ?_)
    have hj : j = 2 \/ j = 4 := by simpa using hj
    rcases hj with rfl | rfl
    ·refine ⟨⟨_, rfl, by kernel_rfl, fun K hK => ?_⟩⟩
     go_simp;obtain ⟨m2, hm2⟩ : ∃ m, W30.heap.size = m := ⟨_, rfl⟩
     have h2W302 := World.alloc_heap_new W30 (.map #[] 0)
     rw [hm2] at h2W302
     have BW302 := BW30.alloc BW30.size (.map #[] 0)
     have bW302 := bW30.alloc (.map #[] 0)
     have h3W302 := (heap_old W30 (.map #[] 0) m3 (heap_lt h3W30)).trans h3W30
     rw [hm2]
     refine hK _ _ ⟨⟨fun _ => bW302, trivial⟩, ?_⟩
     obtain ⟨W302, hWW302⟩ : ∃ X, W30.alloc (.map #[] 0) = X := ⟨_, rfl⟩
     rw [hWW302] at BW302 bW302 h2W302 h3W302 ⊢
     clear hWW302 hm2;clear hK K;try simp only [PT]
     refine stepM [4] (fun j hj => ?_)
     have hj : j = 4 := by simpa using hj
     subst hj
     ·refine ⟨⟨_, rfl, by kernel_rfl, fun K hK => ?_⟩⟩
      go_simp;obtain ⟨m4, hm4⟩ : ∃ m, W302.heap.size = m := ⟨_, rfl⟩
      have h4W3024 := World.alloc_heap_new W302 (.map #[] 0)
      rw [hm4] at h4W3024
      have BW3024 := BW302.alloc BW302.size (.map #[] 0)
      have bW3024 := bW302.alloc (.map #[] 0)
      have h2W3024 := (heap_old W302 (.map #[] 0) m2 (heap_lt h2W302)).trans h2W302
      have h3W3024 := (heap_old W302 (.map #[] 0) m3 (heap_lt h3W302)).trans h3W302
      rw [hm4]
      refine hK _ _ ⟨⟨fun _ => bW3024, trivial⟩, ?_⟩
      obtain ⟨W3024, hWW3024⟩ : ∃ X, W302.alloc (.map #[] 0) = X := ⟨_, rfl⟩
      rw [hWW3024] at BW3024 bW3024 h2W3024 h3W3024 h4W3024 ⊢
      clear hWW3024 hm4;clear hK K;try simp only [PT]
      refine buildQ 5 #[(0, .pointer (some ⟨bk, 0, none⟩)), (1, .agg cv), (3, .map (some m2)), (4, .map (some m3)), (5, .map (some m4))] _ rfl rfl rfl (hbd.out bk m2 m3 m4) ?_
      try simp only [PT]
      refine sQ 6 fun K hK => ?_;simp only [GO];go_simp;refine hK _ _ ⟨⟨fun _ => bW3024.alloc _, trivial⟩, ?_⟩
      clear hK K;try simp only [PT]
      refine tQ [7] ?_;refine dQ (hKQ.out _ _ ?_);clear hKQ KQ;have hR : BrI w c W3024.heap.size (W3024.alloc (.cells (brkC c bk m2 m3 m4) 217)) := ⟨BW3024.alloc BW3024.size _, bW3024.alloc _, bk, m2, m3, m4, Blk.new _ _ _, (heap_old _ _ _ (heap_lt h3W3024)).trans h3W3024, (heap_old _ _ _ (heap_lt h4W3024)).trans h4W3024⟩
      replace hR := hid hR;go_wp2
      go_meet
      case rel => exact ⟨_, rfl, hR⟩
    ·refine ⟨⟨_, rfl, by kernel_rfl, fun K hK => ?_⟩⟩
     go_simp;obtain ⟨m4, hm4⟩ : ∃ m, W30.heap.size = m := ⟨_, rfl⟩
     have h4W304 := World.alloc_heap_new W30 (.map #[] 0)
     rw [hm4] at h4W304
     have BW304 := BW30.alloc BW30.size (.map #[] 0)
     have bW304 := bW30.alloc (.map #[] 0)
     have h3W304 := (heap_old W30 (.map #[] 0) m3 (heap_lt h3W30)).trans h3W30
     rw [hm4]
     refine hK _ _ ⟨⟨fun _ => bW304, trivial⟩, ?_⟩
     obtain ⟨W304, hWW304⟩ : ∃ X, W30.alloc (.map #[] 0) = X := ⟨_, rfl⟩
     rw [hWW304] at BW304 bW304 h3W304 h4W304 ⊢
     clear hWW304 hm4;clear hK K;try simp only [PT]
     refine stepM [2] (fun j hj => ?_)
     have hj : j = 2 := by simpa using hj
     subst hj
     ·refine ⟨⟨_, rfl, by kernel_rfl, fun K hK => ?_⟩⟩
      go_simp;obtain ⟨m2, hm2⟩ : ∃ m, W304.heap.size = m := ⟨_, rfl⟩
      have h2W3042 := World.alloc_heap_new W304 (.map #[] 0)
      rw [hm2] at h2W3042
      have BW3042 := BW304.alloc BW304.size (.map #[] 0)
      have bW3042 := bW304.alloc (.map #[] 0)
      have h3W3042 := (heap_old W304 (.map #[] 0) m3 (heap_lt h3W304)).trans h3W304
      have h4W3042 := (heap_old W304 (.map #[] 0) m4 (heap_lt h4W304)).trans h4W304
      rw [hm2]
      refine hK _ _ ⟨⟨fun _ => bW3042, trivial⟩, ?_⟩
      obtain ⟨W3042, hWW3042⟩ : ∃ X, W304.alloc (.map #[] 0) = X := ⟨_, rfl⟩
      rw [hWW3042] at BW3042 bW3042 h2W3042 h3W3042 h4W3042 ⊢
      clear hWW3042 hm2;clear hK K;try simp only [PT]
      refine buildQ 5 #[(0, .pointer (some ⟨bk, 0, none⟩)), (1, .agg cv), (3, .map (some m2)), (4, .map (some m3)), (5, .map (some m4))] _ rfl rfl rfl (hbd.out bk m2 m3 m4) ?_
      try simp only [PT]
      refine sQ 6 fun K hK => ?_;simp only [GO];go_simp;refine hK _ _ ⟨⟨fun _ => bW3042.alloc _, trivial⟩, ?_⟩
      clear hK K;try simp only [PT]
      refine tQ [7] ?_;refine dQ (hKQ.out _ _ ?_);clear hKQ KQ;have hR : BrI w c W3042.heap.size (W3042.alloc (.cells (brkC c bk m2 m3 m4) 217)) := ⟨BW3042.alloc BW3042.size _, bW3042.alloc _, bk, m2, m3, m4, Blk.new _ _ _, (heap_old _ _ _ (heap_lt h3W3042)).trans h3W3042, (heap_old _ _ _ (heap_lt h4W3042)).trans h4W3042⟩
      replace hR := hid hR;go_wp2
      go_meet
      case rel => exact ⟨_, rfl, hR⟩
   ·refine ⟨⟨_, rfl, by kernel_rfl, fun K hK => ?_⟩⟩
    go_simp;obtain ⟨m2, hm2⟩ : ∃ m, W3.heap.size = m := ⟨_, rfl⟩
    have h2W32 := World.alloc_heap_new W3 (.map #[] 0)
    rw [hm2] at h2W32
    have BW32 := BW3.alloc BW3.size (.map #[] 0)
    have bW32 := bW3.alloc (.map #[] 0)
    have h3W32 := (heap_old W3 (.map #[] 0) m3 (heap_lt h3W3)).trans h3W3
    rw [hm2]
    refine hK _ _ ⟨⟨fun _ => bW32, trivial⟩, ?_⟩
    obtain ⟨W32, hWW32⟩ : ∃ X, W3.alloc (.map #[] 0) = X := ⟨_, rfl⟩
    rw [hWW32] at BW32 bW32 h2W32 h3W32 ⊢
    clear hWW32 hm2;clear hK K;try simp only [PT]
    refine stepM [0, 4] (fun j hj => ?_)
    have hj : j = 0 \/ j = 4 := by simpa using hj
    rcases hj with rfl | rfl
    ·refine ⟨⟨_, rfl, by kernel_rfl, fun K hK => ?_⟩⟩
     go_simp;refine (match_New W32).mono ?_
     rintro e W320 ⟨bk, rfl, hb⟩
     have BW320 := BW32.trans (hb.mono BW32.size)
     have bW320 := bW32.below hb
     have h2W320 := (hb.block m2 (heap_lt h2W32)).trans h2W32
     have h3W320 := (hb.block m3 (heap_lt h3W32)).trans h3W32
     refine hK _ _ ⟨⟨fun _ => bW320, trivial⟩, ?_⟩
     clear hK K;try simp only [PT]
     refine stepM [4] (fun j hj => ?_)
     have hj : j = 4 := by simpa using hj
     subst hj
     ·refine ⟨⟨_, rfl, by kernel_rfl, fun K hK => ?_⟩⟩
      go_simp;obtain ⟨m4, hm4⟩ : ∃ m, W320.heap.size = m := ⟨_, rfl⟩
      have h4W3204 := World.alloc_heap_new W320 (.map #[] 0)
      rw [hm4] at h4W3204
      have BW3204 := BW320.alloc BW320.size (.map #[] 0)
      have bW3204 := bW320.alloc (.map #[] 0)
      have h2W3204 := (heap_old W320 (.map #[] 0) m2 (heap_lt h2W320)).trans h2W320
      have h3W3204 := (heap_old W320 (.map #[] 0) m3 (heap_lt h3W320)).trans h3W320
      rw [hm4]
      refine hK _ _ ⟨⟨fun _ => bW3204, trivial⟩, ?_⟩
      obtain ⟨W3204, hWW3204⟩ : ∃ X, W320.alloc (.map #[] 0) = X := ⟨_, rfl⟩
      rw [hWW3204] at BW3204 bW3204 h2W3204 h3W3204 h4W3204 ⊢
      clear hWW3204 hm4;clear hK K;try simp only [PT]
      refine buildQ 5 #[(0, .pointer (some ⟨bk, 0, none⟩)), (1, .agg cv), (3, .map (some m2)), (4, .map (some m3)), (5, .map (some m4))] _ rfl rfl rfl (hbd.out bk m2 m3 m4) ?_
      try simp only [PT]
      refine sQ 6 fun K hK => ?_;simp only [GO];go_simp;refine hK _ _ ⟨⟨fun _ => bW3204.alloc _, trivial⟩, ?_⟩
      clear hK K;try simp only [PT]
      refine tQ [7] ?_;refine dQ (hKQ.out _ _ ?_);clear hKQ KQ;have hR : BrI w c W3204.heap.size (W3204.alloc (.cells (brkC c bk m2 m3 m4) 217)) := ⟨BW3204.alloc BW3204.size _, bW3204.alloc _, bk, m2, m3, m4, Blk.new _ _ _, (heap_old _ _ _ (heap_lt h3W3204)).trans h3W3204, (heap_old _ _ _ (heap_lt h4W3204)).trans h4W3204⟩
      replace hR := hid hR;go_wp2
      go_meet
      case rel => exact ⟨_, rfl, hR⟩
    ·refine ⟨⟨_, rfl, by kernel_rfl, fun K hK => ?_⟩⟩
     go_simp;obtain ⟨m4, hm4⟩ : ∃ m, W32.heap.size = m := ⟨_, rfl⟩
     have h4W324 := World.alloc_heap_new W32 (.map #[] 0)
     rw [hm4] at h4W324
     have BW324 := BW32.alloc BW32.size (.map #[] 0)
     have bW324 := bW32.alloc (.map #[] 0)
     have h2W324 := (heap_old W32 (.map #[] 0) m2 (heap_lt h2W32)).trans h2W32
     have h3W324 := (heap_old W32 (.map #[] 0) m3 (heap_lt h3W32)).trans h3W32
     rw [hm4]
     refine hK _ _ ⟨⟨fun _ => bW324, trivial⟩, ?_⟩
     obtain ⟨W324, hWW324⟩ : ∃ X, W32.alloc (.map #[] 0) = X := ⟨_, rfl⟩
     rw [hWW324] at BW324 bW324 h2W324 h3W324 h4W324 ⊢
     clear hWW324 hm4;clear hK K;try simp only [PT]
     refine stepM [0] (fun j hj => ?_)
     have hj : j = 0 := by simpa using hj
     subst hj
     ·refine ⟨⟨_, rfl, by kernel_rfl, fun K hK => ?_⟩⟩
      go_simp;refine (match_New W324).mono ?_
      rintro e W3240 ⟨bk, rfl, hb⟩
      have BW3240 := BW324.trans (hb.mono BW324.size)
      have bW3240 := bW324.below hb
      have h2W3240 := (hb.block m2 (heap_lt h2W324)).trans h2W324
      have h3W3240 := (hb.block m3 (heap_lt h3W324)).trans h3W324
      have h4W3240 := (hb.block m4 (heap_lt h4W324)).trans h4W324
      refine hK _ _ ⟨⟨fun _ => bW3240, trivial⟩, ?_⟩
      clear hK K;try simp only [PT]
      refine buildQ 5 #[(0, .pointer (some ⟨bk, 0, none⟩)), (1, .agg cv), (3, .map (some m2)), (4, .map (some m3)), (5, .map (some m4))] _ rfl rfl rfl (hbd.out bk m2 m3 m4) ?_
      try simp only [PT]
      refine sQ 6 fun K hK => ?_;simp only [GO];go_simp;refine hK _ _ ⟨⟨fun _ => bW3240.alloc _, trivial⟩, ?_⟩
      clear hK K;try simp only [PT]
      refine tQ [7] ?_;refine dQ (hKQ.out _ _ ?_);clear hKQ KQ;have hR : BrI w c W3240.heap.size (W3240.alloc (.cells (brkC c bk m2 m3 m4) 217)) := ⟨BW3240.alloc BW3240.size _, bW3240.alloc _, bk, m2, m3, m4, Blk.new _ _ _, (heap_old _ _ _ (heap_lt h3W3240)).trans h3W3240, (heap_old _ _ _ (heap_lt h4W3240)).trans h4W3240⟩
      replace hR := hid hR;go_wp2
      go_meet
      case rel => exact ⟨_, rfl, hR⟩
   ·refine ⟨⟨_, rfl, by kernel_rfl, fun K hK => ?_⟩⟩
    go_simp;obtain ⟨m4, hm4⟩ : ∃ m, W3.heap.size = m := ⟨_, rfl⟩
    have h4W34 := World.alloc_heap_new W3 (.map #[] 0)
    rw [hm4] at h4W34
    have BW34 := BW3.alloc BW3.size (.map #[] 0)
    have bW34 := bW3.alloc (.map #[] 0)
    have h3W34 := (heap_old W3 (.map #[] 0) m3 (heap_lt h3W3)).trans h3W3
    rw [hm4]
    refine hK _ _ ⟨⟨fun _ => bW34, trivial⟩, ?_⟩
    obtain ⟨W34, hWW34⟩ : ∃ X, W3.alloc (.map #[] 0) = X := ⟨_, rfl⟩
    rw [hWW34] at BW34 bW34 h3W34 h4W34 ⊢
    clear hWW34 hm4;clear hK K;try simp only [PT]
    refine stepM [0, 2] (fun j hj => ?_)
    have hj : j = 0 \/ j = 2 := by simpa using hj
    rcases hj with rfl | rfl
    ·refine ⟨⟨_, rfl, by kernel_rfl, fun K hK => ?_⟩⟩
     go_simp;refine (match_New W34).mono ?_
     rintro e W340 ⟨bk, rfl, hb⟩
     have BW340 := BW34.trans (hb.mono BW34.size)
     have bW340 := bW34.below hb
     have h3W340 := (hb.block m3 (heap_lt h3W34)).trans h3W34
     have h4W340 := (hb.block m4 (heap_lt h4W34)).trans h4W34
     refine hK _ _ ⟨⟨fun _ => bW340, trivial⟩, ?_⟩
     clear hK K;try simp only [PT]
     refine stepM [2] (fun j hj => ?_)
     have hj : j = 2 := by simpa using hj
     subst hj
     ·refine ⟨⟨_, rfl, by kernel_rfl, fun K hK => ?_⟩⟩
      go_simp;obtain ⟨m2, hm2⟩ : ∃ m, W340.heap.size = m := ⟨_, rfl⟩
      have h2W3402 := World.alloc_heap_new W340 (.map #[] 0)
      rw [hm2] at h2W3402
      have BW3402 := BW340.alloc BW340.size (.map #[] 0)
      have bW3402 := bW340.alloc (.map #[] 0)
      have h3W3402 := (heap_old W340 (.map #[] 0) m3 (heap_lt h3W340)).trans h3W340
      have h4W3402 := (heap_old W340 (.map #[] 0) m4 (heap_lt h4W340)).trans h4W340
      rw [hm2]
      refine hK _ _ ⟨⟨fun _ => bW3402, trivial⟩, ?_⟩
      obtain ⟨W3402, hWW3402⟩ : ∃ X, W340.alloc (.map #[] 0) = X := ⟨_, rfl⟩
      rw [hWW3402] at BW3402 bW3402 h2W3402 h3W3402 h4W3402 ⊢
      clear hWW3402 hm2;clear hK K;try simp only [PT]
      refine buildQ 5 #[(0, .pointer (some ⟨bk, 0, none⟩)), (1, .agg cv), (3, .map (some m2)), (4, .map (some m3)), (5, .map (some m4))] _ rfl rfl rfl (hbd.out bk m2 m3 m4) ?_
      try simp only [PT]
      refine sQ 6 fun K hK => ?_;simp only [GO];go_simp;refine hK _ _ ⟨⟨fun _ => bW3402.alloc _, trivial⟩, ?_⟩
      clear hK K;try simp only [PT]
      refine tQ [7] ?_;refine dQ (hKQ.out _ _ ?_);clear hKQ KQ;have hR : BrI w c W3402.heap.size (W3402.alloc (.cells (brkC c bk m2 m3 m4) 217)) := ⟨BW3402.alloc BW3402.size _, bW3402.alloc _, bk, m2, m3, m4, Blk.new _ _ _, (heap_old _ _ _ (heap_lt h3W3402)).trans h3W3402, (heap_old _ _ _ (heap_lt h4W3402)).trans h4W3402⟩
      replace hR := hid hR;go_wp2
      go_meet
      case rel => exact ⟨_, rfl, hR⟩
    ·refine ⟨⟨_, rfl, by kernel_rfl, fun K hK => ?_⟩⟩
     go_simp;obtain ⟨m2, hm2⟩ : ∃ m, W34.heap.size = m := ⟨_, rfl⟩
     have h2W342 := World.alloc_heap_new W34 (.map #[] 0)
     rw [hm2] at h2W342
     have BW342 := BW34.alloc BW34.size (.map #[] 0)
     have bW342 := bW34.alloc (.map #[] 0)
     have h3W342 := (heap_old W34 (.map #[] 0) m3 (heap_lt h3W34)).trans h3W34
     have h4W342 := (heap_old W34 (.map #[] 0) m4 (heap_lt h4W34)).trans h4W34
     rw [hm2]
     refine hK _ _ ⟨⟨fun _ => bW342, trivial⟩, ?_⟩
     obtain ⟨W342, hWW342⟩ : ∃ X, W34.alloc (.map #[] 0) = X := ⟨_, rfl⟩
     rw [hWW342] at BW342 bW342 h2W342 h3W342 h4W342 ⊢
     clear hWW342 hm2;clear hK K;try simp only [PT]
     refine stepM [0] (fun j hj => ?_)
     have hj : j = 0 := by simpa using hj
     subst hj
     ·refine ⟨⟨_, rfl, by kernel_rfl, fun K hK => ?_⟩⟩
      go_simp;refine (match_New W342).mono ?_
      rintro e W3420 ⟨bk, rfl, hb⟩
      have BW3420 := BW342.trans (hb.mono BW342.size)
      have bW3420 := bW342.below hb
      have h2W3420 := (hb.block m2 (heap_lt h2W342)).trans h2W342
      have h3W3420 := (hb.block m3 (heap_lt h3W342)).trans h3W342
      have h4W3420 := (hb.block m4 (heap_lt h4W342)).trans h4W342
      refine hK _ _ ⟨⟨fun _ => bW3420, trivial⟩, ?_⟩
      clear hK K;try simp only [PT]
      refine buildQ 5 #[(0, .pointer (some ⟨bk, 0, none⟩)), (1, .agg cv), (3, .map (some m2)), (4, .map (some m3)), (5, .map (some m4))] _ rfl rfl rfl (hbd.out bk m2 m3 m4) ?_
      try simp only [PT]
      refine sQ 6 fun K hK => ?_;simp only [GO];go_simp;refine hK _ _ ⟨⟨fun _ => bW3420.alloc _, trivial⟩, ?_⟩
      clear hK K;try simp only [PT]
      refine tQ [7] ?_;refine dQ (hKQ.out _ _ ?_);clear hKQ KQ;have hR : BrI w c W3420.heap.size (W3420.alloc (.cells (brkC c bk m2 m3 m4) 217)) := ⟨BW3420.alloc BW3420.size _, bW3420.alloc _, bk, m2, m3, m4, Blk.new _ _ _, (heap_old _ _ _ (heap_lt h3W3420)).trans h3W3420, (heap_old _ _ _ (heap_lt h4W3420)).trans h4W3420⟩
      replace hR := hid hR;go_wp2
      go_meet
      case rel => exact ⟨_, rfl, hR⟩
  ·refine ⟨⟨_, rfl, by kernel_rfl, fun K hK => ?_⟩⟩
   go_simp;obtain ⟨m4, hm4⟩ : ∃ m, W.heap.size = m := ⟨_, rfl⟩
   have h4W4 := World.alloc_heap_new W (.map #[] 0)
   rw [hm4] at h4W4
   have BW4 := BW.alloc BW.size (.map #[] 0)
   have bW4 := bW.alloc (.map #[] 0)
   rw [hm4]
   refine hK _ _ ⟨⟨fun _ => bW4, trivial⟩, ?_⟩
   obtain ⟨W4, hWW4⟩ : ∃ X, W.alloc (.map #[] 0) = X := ⟨_, rfl⟩
   rw [hWW4] at BW4 bW4 h4W4 ⊢
   clear hWW4 hm4;clear hK K;try simp only [PT]
   refine stepM [0, 2, 3] (fun j hj => ?_)
   have hj : j = 0 \/ j = 2 \/ j = 3 := by simpa using hj
   rcases hj with rfl | rfl | rfl
   ·refine ⟨⟨_, rfl, by kernel_rfl, fun K hK => ?_⟩⟩
    go_simp;refine (match_New W4).mono ?_
    rintro e W40 ⟨bk, rfl, hb⟩
    have BW40 := BW4.trans (hb.mono BW4.size)
    have bW40 := bW4.below hb
    have h4W40 := (hb.block m4 (heap_lt h4W4)).trans h4W4
    refine hK _ _ ⟨⟨fun _ => bW40, trivial⟩, ?_⟩
    clear hK K;try simp only [PT]
    refine stepM [2, 3] (fun j hj => ?_)
    have hj : j = 2 \/ j = 3 := by simpa using hj
    rcases hj with rfl | rfl
    ·refine ⟨⟨_, rfl, by kernel_rfl, fun K hK => ?_⟩⟩
     go_simp;obtain ⟨m2, hm2⟩ : ∃ m, W40.heap.size = m := ⟨_, rfl⟩
     have h2W402 := World.alloc_heap_new W40 (.map #[] 0)
     rw [hm2] at h2W402
     have BW402 := BW40.alloc BW40.size (.map #[] 0)
     have bW402 := bW40.alloc (.map #[] 0)
     have h4W402 := (heap_old W40 (.map #[] 0) m4 (heap_lt h4W40)).trans h4W40
     rw [hm2]
     refine hK _ _ ⟨⟨fun _ => bW402, trivial⟩, ?_⟩
     obtain ⟨W402, hWW402⟩ : ∃ X, W40.alloc (.map #[] 0) = X := ⟨_, rfl⟩
     rw [hWW402] at BW402 bW402 h2W402 h4W402 ⊢
     clear hWW402 hm2;clear hK K;try simp only [PT]
     refine stepM [3] (fun j hj => ?_)
     have hj : j = 3 := by simpa using hj
     subst hj
     ·refine ⟨⟨_, rfl, by kernel_rfl, fun K hK => ?_⟩⟩
      go_simp;obtain ⟨m3, hm3⟩ : ∃ m, W402.heap.size = m := ⟨_, rfl⟩
      have h3W4023 := World.alloc_heap_new W402 (.map #[] 0)
      rw [hm3] at h3W4023
      have BW4023 := BW402.alloc BW402.size (.map #[] 0)
      have bW4023 := bW402.alloc (.map #[] 0)
      have h2W4023 := (heap_old W402 (.map #[] 0) m2 (heap_lt h2W402)).trans h2W402
      have h4W4023 := (heap_old W402 (.map #[] 0) m4 (heap_lt h4W402)).trans h4W402
      rw [hm3]
      refine hK _ _ ⟨⟨fun _ => bW4023, trivial⟩, ?_⟩
      obtain ⟨W4023, hWW4023⟩ : ∃ X, W402.alloc (.map #[] 0) = X := ⟨_, rfl⟩
      rw [hWW4023] at BW4023 bW4023 h2W4023 h3W4023 h4W4023 ⊢
      clear hWW4023 hm3;clear hK K;try simp only [PT]
      refine buildQ 5 #[(0, .pointer (some ⟨bk, 0, none⟩)), (1, .agg cv), (3, .map (some m2)), (4, .map (some m3)), (5, .map (some m4))] _ rfl rfl rfl (hbd.out bk m2 m3 m4) ?_
      try simp only [PT]
      refine sQ 6 fun K hK => ?_;simp only [GO];go_simp;refine hK _ _ ⟨⟨fun _ => bW4023.alloc _, trivial⟩, ?_⟩
      clear hK K;try simp only [PT]
      refine tQ [7] ?_;refine dQ (hKQ.out _ _ ?_);clear hKQ KQ;have hR : BrI w c W4023.heap.size (W4023.alloc (.cells (brkC c bk m2 m3 m4) 217)) := ⟨BW4023.alloc BW4023.size _, bW4023.alloc _, bk, m2, m3, m4, Blk.new _ _ _, (heap_old _ _ _ (heap_lt h3W4023)).trans h3W4023, (heap_old _ _ _ (heap_lt h4W4023)).trans h4W4023⟩
      replace hR := hid hR;go_wp2
      go_meet
      case rel => exact ⟨_, rfl, hR⟩
    ·refine ⟨⟨_, rfl, by kernel_rfl, fun K hK => ?_⟩⟩
     go_simp;obtain ⟨m3, hm3⟩ : ∃ m, W40.heap.size = m := ⟨_, rfl⟩
     have h3W403 := World.alloc_heap_new W40 (.map #[] 0)
     rw [hm3] at h3W403
     have BW403 := BW40.alloc BW40.size (.map #[] 0)
     have bW403 := bW40.alloc (.map #[] 0)
     have h4W403 := (heap_old W40 (.map #[] 0) m4 (heap_lt h4W40)).trans h4W40
     rw [hm3]
     refine hK _ _ ⟨⟨fun _ => bW403, trivial⟩, ?_⟩
     obtain ⟨W403, hWW403⟩ : ∃ X, W40.alloc (.map #[] 0) = X := ⟨_, rfl⟩
     rw [hWW403] at BW403 bW403 h3W403 h4W403 ⊢
     clear hWW403 hm3;clear hK K;try simp only [PT]
     refine stepM [2] (fun j hj => ?_)
     have hj : j = 2 := by simpa using hj
     subst hj
     ·refine ⟨⟨_, rfl, by kernel_rfl, fun K hK => ?_⟩⟩
      go_simp;obtain ⟨m2, hm2⟩ : ∃ m, W403.heap.size = m := ⟨_, rfl⟩
      have h2W4032 := World.alloc_heap_new W403 (.map #[] 0)
      rw [hm2] at h2W4032
      have BW4032 := BW403.alloc BW403.size (.map #[] 0)
      have bW4032 := bW403.alloc (.map #[] 0)
      have h3W4032 := (heap_old W403 (.map #[] 0) m3 (heap_lt h3W403)).trans h3W403
      have h4W4032 := (heap_old W403 (.map #[] 0) m4 (heap_lt h4W403)).trans h4W403
      rw [hm2]
      refine hK _ _ ⟨⟨fun _ => bW4032, trivial⟩, ?_⟩
      obtain ⟨W4032, hWW4032⟩ : ∃ X, W403.alloc (.map #[] 0) = X := ⟨_, rfl⟩
      rw [hWW4032] at BW4032 bW4032 h2W4032 h3W4032 h4W4032 ⊢
      clear hWW4032 hm2;clear hK K;try simp only [PT]
      refine buildQ 5 #[(0, .pointer (some ⟨bk, 0, none⟩)), (1, .agg cv), (3, .map (some m2)), (4, .map (some m3)), (5, .map (some m4))] _ rfl rfl rfl (hbd.out bk m2 m3 m4) ?_
      try simp only [PT]
      refine sQ 6 fun K hK => ?_;simp only [GO];go_simp;refine hK _ _ ⟨⟨fun _ => bW4032.alloc _, trivial⟩, ?_⟩
      clear hK K;try simp only [PT]
      refine tQ [7] ?_;refine dQ (hKQ.out _ _ ?_);clear hKQ KQ;have hR : BrI w c W4032.heap.size (W4032.alloc (.cells (brkC c bk m2 m3 m4) 217)) := ⟨BW4032.alloc BW4032.size _, bW4032.alloc _, bk, m2, m3, m4, Blk.new _ _ _, (heap_old _ _ _ (heap_lt h3W4032)).trans h3W4032, (heap_old _ _ _ (heap_lt h4W4032)).trans h4W4032⟩
      replace hR := hid hR;go_wp2
      go_meet
      case rel => exact ⟨_, rfl, hR⟩
   ·refine ⟨⟨_, rfl, by kernel_rfl, fun K hK => ?_⟩⟩
    go_simp;obtain ⟨m2, hm2⟩ : ∃ m, W4.heap.size = m := ⟨_, rfl⟩
    have h2W42 := World.alloc_heap_new W4 (.map #[] 0)
    rw [hm2] at h2W42
    have BW42 := BW4.alloc BW4.size (.map #[] 0)
    have bW42 := bW4.alloc (.map #[] 0)
    have h4W42 := (heap_old W4 (.map #[] 0) m4 (heap_lt h4W4)).trans h4W4
    rw [hm2]
    refine hK _ _ ⟨⟨fun _ => bW42, trivial⟩, ?_⟩
    obtain ⟨W42, hWW42⟩ : ∃ X, W4.alloc (.map #[] 0) = X := ⟨_, rfl⟩
    rw [hWW42] at BW42 bW42 h2W42 h4W42 ⊢
    clear hWW42 hm2;clear hK K;try simp only [PT]
    refine stepM [0, 3] (fun j hj => ?_)
    have hj : j = 0 \/ j = 3 := by simpa using hj
    rcases hj with rfl | rfl
    ·refine ⟨⟨_, rfl, by kernel_rfl, fun K hK => ?_⟩⟩
     go_simp;refine (match_New W42).mono ?_
     rintro e W420 ⟨bk, rfl, hb⟩
     have BW420 := BW42.trans (hb.mono BW42.size)
     have bW420 := bW42.below hb
     have h2W420 := (hb.block m2 (heap_lt h2W42)).trans h2W42
     have h4W420 := (hb.block m4 (heap_lt h4W42)).trans h4W42
     refine hK _ _ ⟨⟨fun _ => bW420, trivial⟩, ?_⟩
     clear hK K;try simp only [PT]
     refine stepM [3] (fun j hj => ?_)
     have hj : j = 3 := by simpa using hj
     subst hj
     ·refine ⟨⟨_, rfl, by kernel_rfl, fun K hK => ?_⟩⟩
      go_simp;obtain ⟨m3, hm3⟩ : ∃ m, W420.heap.size = m := ⟨_, rfl⟩
      have h3W4203 := World.alloc_heap_new W420 (.map #[] 0)
      rw [hm3] at h3W4203
      have BW4203 := BW420.alloc BW420.size (.map #[] 0)
      have bW4203 := bW420.alloc (.map #[] 0)
      have h2W4203 := (heap_old W420 (.map #[] 0) m2 (heap_lt h2W420)).trans h2W420
      have h4W4203 := (heap_old W420 (.map #[] 0) m4 (heap_lt h4W420)).trans h4W420
      rw [hm3]
      refine hK _ _ ⟨⟨fun _ => bW4203, trivial⟩, ?_⟩
      obtain ⟨W4203, hWW4203⟩ : ∃ X, W420.alloc (.map #[] 0) = X := ⟨_, rfl⟩
      rw [hWW4203] at BW4203 bW4203 h2W4203 h3W4203 h4W4203 ⊢
      clear hWW4203 hm3;clear hK K;try simp only [PT]
      refine buildQ 5 #[(0, .pointer (some ⟨bk, 0, none⟩)), (1, .agg cv), (3, .map (some m2)), (4, .map (some m3)), (5, .map (some m4))] _ rfl rfl rfl (hbd.out bk m2 m3 m4) ?_
      try simp only [PT]
      refine sQ 6 fun K hK => ?_;simp only [GO];go_simp;refine hK _ _ ⟨⟨fun _ => bW4203.alloc _, trivial⟩, ?_⟩
      clear hK K;try simp only [PT]
      refine tQ [7] ?_;refine dQ (hKQ.out _ _ ?_);clear hKQ KQ;have hR : BrI w c W4203.heap.size (W4203.alloc (.cells (brkC c bk m2 m3 m4) 217)) := ⟨BW4203.alloc BW4203.size _, bW4203.alloc _, bk, m2, m3, m4, Blk.new _ _ _, (heap_old _ _ _ (heap_lt h3W4203)).trans h3W4203, (heap_old _ _ _ (heap_lt h4W4203)).trans h4W4203⟩
      replace hR := hid hR;go_wp2
      go_meet
      case rel => exact ⟨_, rfl, hR⟩
    ·refine ⟨⟨_, rfl, by kernel_rfl, fun K hK => ?_⟩⟩
     go_simp;obtain ⟨m3, hm3⟩ : ∃ m, W42.heap.size = m := ⟨_, rfl⟩
     have h3W423 := World.alloc_heap_new W42 (.map #[] 0)
     rw [hm3] at h3W423
     have BW423 := BW42.alloc BW42.size (.map #[] 0)
     have bW423 := bW42.alloc (.map #[] 0)
     have h2W423 := (heap_old W42 (.map #[] 0) m2 (heap_lt h2W42)).trans h2W42
     have h4W423 := (heap_old W42 (.map #[] 0) m4 (heap_lt h4W42)).trans h4W42
     rw [hm3]
     refine hK _ _ ⟨⟨fun _ => bW423, trivial⟩, ?_⟩
     obtain ⟨W423, hWW423⟩ : ∃ X, W42.alloc (.map #[] 0) = X := ⟨_, rfl⟩
     rw [hWW423] at BW423 bW423 h2W423 h3W423 h4W423 ⊢
     clear hWW423 hm3;clear hK K;try simp only [PT]
     refine stepM [0] (fun j hj => ?_)
     have hj : j = 0 := by simpa using hj
     subst hj
     ·refine ⟨⟨_, rfl, by kernel_rfl, fun K hK => ?_⟩⟩
      go_simp;refine (match_New W423).mono ?_
      rintro e W4230 ⟨bk, rfl, hb⟩
      have BW4230 := BW423.trans (hb.mono BW423.size)
      have bW4230 := bW423.below hb
      have h2W4230 := (hb.block m2 (heap_lt h2W423)).trans h2W423
      have h3W4230 := (hb.block m3 (heap_lt h3W423)).trans h3W423
      have h4W4230 := (hb.block m4 (heap_lt h4W423)).trans h4W423
      refine hK _ _ ⟨⟨fun _ => bW4230, trivial⟩, ?_⟩
      clear hK K;try simp only [PT]
      refine buildQ 5 #[(0, .pointer (some ⟨bk, 0, none⟩)), (1, .agg cv), (3, .map (some m2)), (4, .map (some m3)), (5, .map (some m4))] _ rfl rfl rfl (hbd.out bk m2 m3 m4) ?_
      try simp only [PT]
      refine sQ 6 fun K hK => ?_;simp only [GO];go_simp;refine hK _ _ ⟨⟨fun _ => bW4230.alloc _, trivial⟩, ?_⟩
      clear hK K;try simp only [PT]
      refine tQ [7] ?_;refine dQ (hKQ.out _ _ ?_);clear hKQ KQ;have hR : BrI w c W4230.heap.size (W4230.alloc (.cells (brkC c bk m2 m3 m4) 217)) := ⟨BW4230.alloc BW4230.size _, bW4230.alloc _, bk, m2, m3, m4, Blk.new _ _ _, (heap_old _ _ _ (heap_lt h3W4230)).trans h3W4230, (heap_old _ _ _ (heap_lt h4W4230)).trans h4W4230⟩
      replace hR := hid hR;go_wp2
      go_meet
      case rel => exact ⟨_, rfl, hR⟩
   ·refine ⟨⟨_, rfl, by kernel_rfl, fun K hK => ?_⟩⟩
    go_simp;obtain ⟨m3, hm3⟩ : ∃ m, W4.heap.size = m := ⟨_, rfl⟩
    have h3W43 := World.alloc_heap_new W4 (.map #[] 0)
    rw [hm3] at h3W43
    have BW43 := BW4.alloc BW4.size (.map #[] 0)
    have bW43 := bW4.alloc (.map #[] 0)
    have h4W43 := (heap_old W4 (.map #[] 0) m4 (heap_lt h4W4)).trans h4W4
    rw [hm3]
    refine hK _ _ ⟨⟨fun _ => bW43, trivial⟩, ?_⟩
    obtain ⟨W43, hWW43⟩ : ∃ X, W4.alloc (.map #[] 0) = X := ⟨_, rfl⟩
    rw [hWW43] at BW43 bW43 h3W43 h4W43 ⊢
    clear hWW43 hm3;clear hK K;try simp only [PT]
    refine stepM [0, 2] (fun j hj => ?_)
    have hj : j = 0 \/ j = 2 := by simpa using hj
    rcases hj with rfl | rfl
    ·refine ⟨⟨_, rfl, by kernel_rfl, fun K hK => ?_⟩⟩
     go_simp;refine (match_New W43).mono ?_
     rintro e W430 ⟨bk, rfl, hb⟩
     have BW430 := BW43.trans (hb.mono BW43.size)
     have bW430 := bW43.below hb
     have h3W430 := (hb.block m3 (heap_lt h3W43)).trans h3W43
     have h4W430 := (hb.block m4 (heap_lt h4W43)).trans h4W43
     refine hK _ _ ⟨⟨fun _ => bW430, trivial⟩, ?_⟩
     clear hK K;try simp only [PT]
     refine stepM [2] (fun j hj => ?_)
     have hj : j = 2 := by simpa using hj
     subst hj
     ·refine ⟨⟨_, rfl, by kernel_rfl, fun K hK => ?_⟩⟩
      go_simp;obtain ⟨m2, hm2⟩ : ∃ m, W430.heap.size = m := ⟨_, rfl⟩
      have h2W4302 := World.alloc_heap_new W430 (.map #[] 0)
      rw [hm2] at h2W4302
      have BW4302 := BW430.alloc BW430.size (.map #[] 0)
      have bW4302 := bW430.alloc (.map #[] 0)
      have h3W4302 := (heap_old W430 (.map #[] 0) m3 (heap_lt h3W430)).trans h3W430
      have h4W4302 := (heap_old W430 (.map #[] 0) m4 (heap_lt h4W430)).trans h4W430
      rw [hm2]
      refine hK _ _ ⟨⟨fun _ => bW4302, trivial⟩, ?_⟩
      obtain ⟨W4302, hWW4302⟩ : ∃ X, W430.alloc (.map #[] 0) = X := ⟨_, rfl⟩
      rw [hWW4302] at BW4302 bW4302 h2W4302 h3W4302 h4W4302 ⊢
      clear hWW4302 hm2;clear hK K;try simp only [PT]
      refine buildQ 5 #[(0, .pointer (some ⟨bk, 0, none⟩)), (1, .agg cv), (3, .map (some m2)), (4, .map (some m3)), (5, .map (some m4))] _ rfl rfl rfl (hbd.out bk m2 m3 m4) ?_
      try simp only [PT]
      refine sQ 6 fun K hK => ?_;simp only [GO];go_simp;refine hK _ _ ⟨⟨fun _ => bW4302.alloc _, trivial⟩, ?_⟩
      clear hK K;try simp only [PT]
      refine tQ [7] ?_;refine dQ (hKQ.out _ _ ?_);clear hKQ KQ;have hR : BrI w c W4302.heap.size (W4302.alloc (.cells (brkC c bk m2 m3 m4) 217)) := ⟨BW4302.alloc BW4302.size _, bW4302.alloc _, bk, m2, m3, m4, Blk.new _ _ _, (heap_old _ _ _ (heap_lt h3W4302)).trans h3W4302, (heap_old _ _ _ (heap_lt h4W4302)).trans h4W4302⟩
      replace hR := hid hR;go_wp2
      go_meet
      case rel => exact ⟨_, rfl, hR⟩
    ·refine ⟨⟨_, rfl, by kernel_rfl, fun K hK => ?_⟩⟩
     go_simp;obtain ⟨m2, hm2⟩ : ∃ m, W43.heap.size = m := ⟨_, rfl⟩
     have h2W432 := World.alloc_heap_new W43 (.map #[] 0)
     rw [hm2] at h2W432
     have BW432 := BW43.alloc BW43.size (.map #[] 0)
     have bW432 := bW43.alloc (.map #[] 0)
     have h3W432 := (heap_old W43 (.map #[] 0) m3 (heap_lt h3W43)).trans h3W43
     have h4W432 := (heap_old W43 (.map #[] 0) m4 (heap_lt h4W43)).trans h4W43
     rw [hm2]
     refine hK _ _ ⟨⟨fun _ => bW432, trivial⟩, ?_⟩
     obtain ⟨W432, hWW432⟩ : ∃ X, W43.alloc (.map #[] 0) = X := ⟨_, rfl⟩
     rw [hWW432] at BW432 bW432 h2W432 h3W432 h4W432 ⊢
     clear hWW432 hm2;clear hK K;try simp only [PT]
     refine stepM [0] (fun j hj => ?_)
     have hj : j = 0 := by simpa using hj
     subst hj
     ·refine ⟨⟨_, rfl, by kernel_rfl, fun K hK => ?_⟩⟩
      go_simp;refine (match_New W432).mono ?_
      rintro e W4320 ⟨bk, rfl, hb⟩
      have BW4320 := BW432.trans (hb.mono BW432.size)
      have bW4320 := bW432.below hb
      have h2W4320 := (hb.block m2 (heap_lt h2W432)).trans h2W432
      have h3W4320 := (hb.block m3 (heap_lt h3W432)).trans h3W432
      have h4W4320 := (hb.block m4 (heap_lt h4W432)).trans h4W432
      refine hK _ _ ⟨⟨fun _ => bW4320, trivial⟩, ?_⟩
      clear hK K;try simp only [PT]
      refine buildQ 5 #[(0, .pointer (some ⟨bk, 0, none⟩)), (1, .agg cv), (3, .map (some m2)), (4, .map (some m3)), (5, .map (some m4))] _ rfl rfl rfl (hbd.out bk m2 m3 m4) ?_
      try simp only [PT]
      refine sQ 6 fun K hK => ?_;simp only [GO];go_simp;refine hK _ _ ⟨⟨fun _ => bW4320.alloc _, trivial⟩, ?_⟩
      clear hK K;try simp only [PT]
      refine tQ [7] ?_;refine dQ (hKQ.out _ _ ?_);clear hKQ KQ;have hR : BrI w c W4320.heap.size (W4320.alloc (.cells (brkC c bk m2 m3 m4) 217)) := ⟨BW4320.alloc BW4320.size _, bW4320.alloc _, bk, m2, m3, m4, Blk.new _ _ _, (heap_old _ _ _ (heap_lt h3W4320)).trans h3W4320, (heap_old _ _ _ (heap_lt h4W4320)).trans h4W4320⟩
      replace hR := hid hR;go_wp2
      go_meet
      case rel => exact ⟨_, rfl, hR⟩
  --END
 case rest =>
  obtain ⟨p, rfl, hI⟩ := hcut
  obtain ⟨bk, m2, m3, m4, hP, h3, h4⟩ := hI.out.out
  have hm := hI.out.box.mid [] [.int .i64 c.window, .int .i64 c.room, .int .i64 c.inbox, .int .i64 c.subs] [.int .i64 c.sessions, .int .i64 c.retained, .string ⟨c.secret.toArray⟩] rfl
  by_cases hset : (1 <= c.window /\ c.window <= 100) /\ (1 <= c.room /\ c.room <= 1000) /\ (1 <= c.inbox /\ c.inbox <= 1000) /\ (1 <= c.subs /\ c.subs <= 100)
  case neg =>
   have CS := hid (ses_New_bad c.window c.room c.inbox c.subs [120] wc (hT.below hI.out.below) hset)
   have HBI := hid hI.out.below;replace hset := hid hset;clear hI hP h3 h4;go_wp2_with (refine wLm 25 rfl rfl hm Tryz.underlying25 ?_)
   refine CS.out.mono ?_
   rintro e w1 ⟨x, rfl, hb1⟩
   have HB1 := hid (HBI.out.trans (hb1.mono HBI.out.size))
   clear hb1 hm;go_wp2_with fail
   go_returns
   exact ⟨_, 2, rfl, ⟨fun h => (by cases h), fun h => absurd ⟨h.1, h.2.1, h.2.2.1, h.2.2.2.1⟩ hset.out⟩, HB1.out⟩
  obtain ⟨hc1, hc2, hc3, hc4⟩ := hset
  have CS := hid (ses_New c.window c.room c.inbox c.subs [120] wc (hT.below hI.out.below) hc1 hc2 hc3 hc4 (by decide) (by kernel_rfl))
  go_wp2_with (refine wLm 25 rfl rfl hm Tryz.underlying25 ?_)
  refine CS.out.mono ?_
  rintro e w1 ⟨S, rfl, -, hst⟩
  have hb1 : Below wc.heap.size wc w1 := hst.wrote.below (Nat.le_refl _) (fun x hx => by cases hx)
  have HB1 := hid (hI.out.below.trans (hb1.mono hI.out.below.size))
  have HP1 := hid (hP.below hb1)
  have H3 := hid ((hb1.block m3 (heap_lt h3)).trans h3)
  have H4 := hid ((hb1.block m4 (heap_lt h4)).trans h4)
  have hbx := hI.out.box.below hb1
  have k4 : w1.cell? ⟨w.heap.size, 4, none⟩ = some (.int .i64 c.sessions) := hbx.cell 4
  have k5 : w1.cell? ⟨w.heap.size, 5, none⟩ = some (.int .i64 c.retained) := hbx.cell 5
  have k6 : w1.cell? ⟨w.heap.size, 6, none⟩ = some (.string ⟨c.secret.toArray⟩) := hbx.cell 6
  have HX := hid hbx;have CW := hid brk_within;have hcf : Hid (1 <= c.sessions /\ c.sessions <= 40 -> 0 <= c.retained /\ c.retained <= 1000 -> c.secret.length <= 200 -> cfOK c) := hid fun a b d => ⟨hc1, hc2, hc3, hc4, a, b, d⟩
  clear hm hP h3 h4 hst hb1 hbx CS hc1 hc2 hc3 hc4;by_cases hs1 : 1 <= c.sessions
  case neg =>
   clear hcf;go_wp2_with (go_at_call 168; refine (CW.out _ _ _ _).mono ?_; rintro e w' ⟨rfl, rfl⟩)
   go_returns
   exact ⟨_, 2, rfl, ⟨fun h => (by cases h), fun h => (by have h9 := h.2.2.2.2.1.1; omega)⟩, HB1.out⟩
  by_cases hs2 : c.sessions <= 40
  case neg =>
   clear hcf;go_wp2_with (go_at_call 168; refine (CW.out _ _ _ _).mono ?_; rintro e w' ⟨rfl, rfl⟩)
   go_returns
   exact ⟨_, 2, rfl, ⟨fun h => (by cases h), fun h => (by have h9 := h.2.2.2.2.1.2; omega)⟩, HB1.out⟩
  by_cases hr1 : 0 <= c.retained
  case neg =>
   clear hcf;go_wp2_with (go_at_call 168; refine (CW.out _ _ _ _).mono ?_; rintro e w' ⟨rfl, rfl⟩)
   go_returns
   exact ⟨_, 2, rfl, ⟨fun h => (by cases h), fun h => (by have h9 := h.2.2.2.2.2.1.1; omega)⟩, HB1.out⟩
  by_cases hr2 : c.retained <= 1000
  case neg =>
   clear hcf;go_wp2_with (go_at_call 168; refine (CW.out _ _ _ _).mono ?_; rintro e w' ⟨rfl, rfl⟩)
   go_returns
   exact ⟨_, 2, rfl, ⟨fun h => (by cases h), fun h => (by have h9 := h.2.2.2.2.2.1.2; omega)⟩, HB1.out⟩
  by_cases hc7 : c.secret.length <= 200
  case neg =>
   have d7 : decide (200 < (c.secret.length : Int)) = true := decide_eq_true (by omega)
   clear hcf;go_wp2_with (go_at_call 168; refine (CW.out _ _ _ _).mono ?_; rintro e w' ⟨rfl, rfl⟩)
   go_returns
   exact ⟨_, 2, rfl, ⟨fun h => (by cases h), fun h => (by have h9 := h.2.2.2.2.2.2; omega)⟩, HB1.out⟩
  have hcf := hid (hcf.out ⟨hs1, hs2⟩ ⟨hr1, hr2⟩ hc7)
  go_wp2_with (go_at_call 168; refine (CW.out _ _ _ _).mono ?_; rintro e w' ⟨rfl, rfl⟩)
  obtain ⟨m5, hm5⟩ : ∃ m, w1.heap.size = m := ⟨_, rfl⟩
  have h5 := World.alloc_heap_new w1 (.map #[] 0)
  have B2 := HB1.out.alloc HB1.out.size (.map #[] 0)
  have P2 := HP1.out.alloc (.map #[] 0)
  have X2 := HX.out.alloc (.map #[] 0)
  have h3 := (heap_old w1 (.map #[] 0) m3 (heap_lt H3.out)).trans H3.out
  have h4 := (heap_old w1 (.map #[] 0) m4 (heap_lt H4.out)).trans H4.out
  rw [hm5] at h5
  rw [hm5]
  obtain ⟨w2, hw2⟩ : ∃ X, w1.alloc (.map #[] 0) = X := ⟨_, rfl⟩
  rw [hw2] at h5 B2 P2 X2 h3 h4 ⊢
  clear hw2 hm5 k4 k5 k6 HX HP1 H3 H4;replace B2 := hid B2;replace P2 := hid P2;replace X2 := hid X2;replace h3 := hid h3;replace h4 := hid h4;go_loopw [56] (fun i wr => i = .int .i64 0 /\ w2 = wr) (fun _ _ => 0)
  case atStart => exact ⟨rfl, rfl⟩
  case round =>
   obtain ⟨rfl, rfl⟩ := hrel
   have hrg := run_range_none (P := Tryz.prog) Tryz.underlying222 h5
   obtain ⟨r, hr⟩ : ∃ r, w2.heap.size = r := ⟨_, rfl⟩
   have hit := World.alloc_heap_new w2 (.mapIter (some m5) 0 #[] 0)
   have h53 := (heap_old w2 (.mapIter (some m5) 0 #[] 0) m5 (heap_lt h5)).trans h5
   have B3 := B2.out.alloc B2.out.size (.mapIter (some m5) 0 #[] 0)
   have P3 := P2.out.alloc (.mapIter (some m5) 0 #[] 0)
   have X3 := X2.out.alloc (.mapIter (some m5) 0 #[] 0)
   have h33 := (heap_old w2 (.mapIter (some m5) 0 #[] 0) m3 (heap_lt h3.out)).trans h3.out
   have h43 := (heap_old w2 (.mapIter (some m5) 0 #[] 0) m4 (heap_lt h4.out)).trans h4.out
   rw [hr] at hrg hit
   obtain ⟨w3, hw3⟩ : ∃ X, w2.alloc (.mapIter (some m5) 0 #[] 0) = X := ⟨_, rfl⟩
   rw [hw3] at hrg hit h53 B3 P3 X3 h33 h43
   have hnx := fun ty => run_next_none (P := Tryz.prog) (ty := ty) hit h53
   clear hw3 hr;replace B3 := hid B3;replace P3 := hid P3;replace X3 := hid X3;replace h33 := hid h33;replace h43 := hid h43;clear h3 h4;go_wp2_with fail
   go_loopw [14] (fun _ wr => w3 = wr) (fun _ _ => 0)
   case atStart => rfl
   case round =>
    subst hrel;go_wp2_with fail
    have d1 : decide (c.sessions < 0) = false := decide_eq_false (by omega)
    have d2 : decide (c.retained < 0) = false := decide_eq_false (by omega)
    refine regionQ [(1000, fun w' => Blk w' p (brkC c bk m2 m3 m4) 217), (1000, fun w' => Blk w' w.heap.size c.cl.toArray 27), (1000, fun w' => w'.heap[m3]? = some (.map #[] 0)), (1000, fun w' => w'.heap[m4]? = some (.map #[] 0))] (by kernel_rfl) ⟨P3.out, X3.out, h33.out, h43.out, trivial⟩ fun KQ hKQ => ?_
    refine tQ [0] ?_;refine nQ 1 ?_;refine tQ [2] ?_;refine lR 3 0 rfl rfl rfl rfl (fun w' hf => by (have k0 : w'.cell? ⟨p, 10, none⟩ = some (.map (some m3)) := hf.cell 10; go_simp <;> with_reducible rfl)) ?_
    simp only [PT];refine lenQ 4 2 rfl rfl rfl rfl (fun w' hf => run_len_none Tryz.underlying211 hf _) ?_
    try simp only [PT]
    refine tQ [5] ?_;refine lR 6 1 rfl rfl rfl rfl (fun w' hf => by (have k0 : w'.cell? ⟨w.heap.size, 4, none⟩ = some (.int .i64 c.sessions) := hf.cell 4; go_simp <;> with_reducible rfl)) ?_
    simp only [PT];refine tQ [7, 8, 9] ?_;refine nQ 10 ?_;refine tQ [11] ?_;refine lR 12 0 rfl rfl rfl rfl (fun w' hf => by (have k0 : w'.cell? ⟨p, 11, none⟩ = some (.map (some m4)) := hf.cell 11; go_simp <;> with_reducible rfl)) ?_
    simp only [PT];refine lenQ 13 3 rfl rfl rfl rfl (fun w' hf => run_len_none Tryz.underlying212 hf _) ?_
    try simp only [PT]
    refine tQ [14] ?_;refine lR 15 1 rfl rfl rfl rfl (fun w' hf => by (have k0 : w'.cell? ⟨w.heap.size, 5, none⟩ = some (.int .i64 c.retained) := hf.cell 5; go_simp <;> with_reducible rfl)) ?_
    simp only [PT];refine tQ [16, 17] ?_;refine dQ (hKQ.out _ _ ?_);clear hKQ KQ;go_wp2_with fail
    go_ret2
    exact ⟨_, 0, rfl, ⟨fun _ => hcf.out, fun _ => rfl⟩, B3.out.drew⟩
theorem brk_New (c : CfV) (w : World) (hT : TzAt w) :
  Calls Tryz.prog 74 #[.agg c.cl.toArray] w fun e w' => ∃ x z, e = .returned (.tuple #[x, .int .i64 z]) /\ (z = 0 ↔ cfOK c) /\ Below w.heap.size w w' := by
 have bX : Blk (w.alloc (.cells c.cl.toArray 27)) w.heap.size c.cl.toArray 27 := Blk.new _ _ _
 have BX : Below w.heap.size w (w.alloc (.cells c.cl.toArray 27)) := (Below.refl _ _).alloc (Nat.le_refl _) _
 have CO := hid (brk_Of c _ (hT.below BX))
 have hs := BX.size
 have BX := hid BX;go_enter Tryz.func74, Tryz.ntmps74
 go_wp2_with (refine wL 27 rfl rfl bX Tryz.underlying27 ?_)
 refine CO.out.mono ?_
 rintro e w1 ⟨x, z, rfl, hz, hb⟩
 have HB := hid (BX.out.trans (hb.mono hs))
 replace hz := hid hz;clear hb;go_wp2_with fail
 go_ret2
 exact ⟨x, z, rfl, hz.out, HB.out⟩
end
end Go.Proofs.YtkghejaimhoboaaGreatDoor
