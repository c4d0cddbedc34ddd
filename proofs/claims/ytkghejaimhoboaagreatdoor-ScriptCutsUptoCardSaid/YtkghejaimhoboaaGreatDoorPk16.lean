/- Parts of the proof of ScriptCuts: contracts of functions that it reaches, and plain lemmas. No condition of their own. -/
import Derived.Test.YtkghejaimhoboaaGreatDoorPk15
import Derived.Test.YtkghejaimhoboaaGreatDoorPk11
import Derived.Test.YtkghejaimhoboaaGreatDoorPk07
import Derived.Test.YtkghejaimhoboaaGreatDoorPk08
import Derived.Test.YtkghejaimhoboaaGreatDoorPk13
set_option linter.unusedSimpArgs false
set_option linter.unusedVariables false
set_option maxRecDepth 100000
set_option maxHeartbeats 8000000
namespace Go.Proofs.YtkghejaimhoboaaGreatDoor
open Go.RowKit Go.Shelf
section
attribute [local go_sem] Oper.semAt_some
def levelsB (s : List UInt8) : List ByteArray := Lib.splitB ⟨#[47]⟩ 0 (Lib.countB ⟨s.toArray⟩ ⟨#[47]⟩) ⟨s.toArray⟩
theorem str_Split (s : List UInt8) (w : World) (hs : s.length < 4294967281) :
  Calls Tryz.prog 239 #[.string ⟨s.toArray⟩, .string ⟨#[47]⟩] w fun e w' =>
   e = .returned (.slice (some ⟨w.heap.size, 0, none⟩) (levelsB s).length (levelsB s).length) /\ w' = w.alloc (.cells ((levelsB s).map Value.string).toArray 9) := by
 have hs' : ByteArray.size ⟨s.toArray⟩ < 4294967281 := by simpa [ByteArray.size] using hs
 have hone : 1 <= ByteArray.size ⟨#[47]⟩ := by decide
 have hle := Lib.countB_le ⟨#[47]⟩ hone _ ⟨s.toArray⟩ (Nat.le_refl _)
 have hlen := Lib.splitB_all ⟨#[47]⟩ hone 0 _ ⟨s.toArray⟩ rfl
 have c := Any.strings_genSplit_core Tryz.lays221 (by kernel_rfl) ⟨s.toArray⟩ ⟨#[47]⟩ 0 (-1) (Lib.countB ⟨s.toArray⟩ ⟨#[47]⟩ + 1) w hs' hone (Nat.zero_le _)
  (fun x cs hx => (Tryz.strings_Index_one x 47 _).mono fun e w' ⟨he, hw⟩ => ⟨by rw [he]; show _ = Ending.returned (Value.int .i64 (Lib.index x.data.toList [47])); rw [Lib.index_one], hw⟩)
  ((Tryz.strings_Count_one ⟨s.toArray⟩ 47 w).mono fun e w' ⟨he, hw⟩ => ⟨by
    rw [he]
    show _ = Ending.returned (Value.int .i64 ((Lib.count s.toArray.toList [47] : Nat) : Int))
    rw [Lib.count_one]
    rfl, hw⟩) (by decide) (by decide) (by rw [if_pos (by decide)]; omega)
 rw [Nat.add_sub_cancel, hlen] at c
 have e2 : Lib.cellsOf (levelsB s) (Lib.countB ⟨s.toArray⟩ ⟨#[47]⟩ + 1) = ((levelsB s).map Value.string).toArray := by unfold levelsB; rw [<- hlen]; exact Lib.cellsOf_full _
 unfold levelsB at e2 ⊢
 rw [e2] at c
 rw [hlen]
 have C := hid c;clear c e2 hle hs';go_enter Tryz.func239, Tryz.ntmps239
 go_wp2_with (go_at_call 279; refine C.out.mono ?_; rintro e w' ⟨rfl, hw⟩; rw [hw])
 go_ret
 exact ⟨rfl, rfl⟩
theorem top_Levels (s : List UInt8) (w : World) (hs : s.length < 4294967281) :
  Calls Tryz.prog 191 #[.string ⟨s.toArray⟩] w fun e w' =>
   e = .returned (.slice (some ⟨w.heap.size, 0, none⟩) (levelsB s).length (levelsB s).length) /\ w' = w.alloc (.cells ((levelsB s).map Value.string).toArray 9) := by
 have C := hid (str_Split s w hs)
 go_enter Tryz.func191, Tryz.ntmps191
 go_wp2_with (go_at_call 239; refine C.out.mono ?_; rintro e w1 ⟨rfl, rfl⟩)
 go_ret
 exact ⟨rfl, rfl⟩
theorem top_levels (a : Option Addr) (n c : Nat) (w : World) :
  Calls Tryz.prog 190 #[.slice a n c] w fun e w' => e = .returned (.func (.func 238) #[] #[.pointer (some ⟨w.heap.size, 0, none⟩)]) /\ w.alloc (.cells #[.slice a n c] 50) = w' := by
 go_enter Tryz.func190, Tryz.ntmps190
 go_wp2
 go_ret
 exact ⟨rfl, rfl⟩
def lvl (ps : List ByteArray) (i : Nat) : ByteArray := ps[i]?.getD ⟨#[]⟩
def encL (ps : List ByteArray) (i : Nat) : Array Value := #[.string (lvl ps i), .bool (decide (i + 1 = ps.length))]
theorem top_levels1 (ps : List ByteArray) (w : World) (B V : Nat) (hV : Blk w V (ps.map Value.string).toArray 9) (hb : Boxed w B 50 (.slice (some ⟨V, 0, none⟩) ps.length ps.length)) (hn : ps.length <= 4294967296) :
  SeqG Tryz.prog 238 #[.pointer (some ⟨B, 0, none⟩)] (encL ps) (Keep 0 [B, V]) (Wrote []) (fun pre i _ => pre = List.range i /\ i < ps.length) (fun xs => xs = List.range ps.length) (fun pre => ∃ i, pre = List.range (i + 1) /\ i < ps.length) w := by
 intro lb J Jx W hW hlb hJ hJx hY h0
 have hb := boxed_below hb hW
 have hV := hV.below hW
 refine callsIn_of_wp Tryz.func238 rfl trivial ?_ rfl
 simp only [Tryz.ntmps238, List.size_toArray, List.length_cons, List.length_nil, Nat.reduceAdd, Nat.reduceSub, Array.replicate_succ, Array.replicate_zero, List.push_toArray, List.append_toArray, List.nil_append, List.cons_append]
 have hc1 := hb.cell
 gi_wp2
 gi_loopw [3, 4, 7] (fun _ _ i wr => ∃ (k : Nat), i = .int .i64 k /\ k <= ps.length /\ Boxed wr B 50 (.slice (some ⟨V, 0, none⟩) ps.length ps.length) /\ Blk wr V (ps.map Value.string).toArray 9 /\ J (List.range k) wr)
  (fun _ _ i _ => ps.length - (intOf i).toNat)
 case atStart => exact ⟨0, rfl, Nat.zero_le _, hb, hV, h0⟩
 case round =>
  obtain ⟨k, rfl, hk, hb, hV, hj⟩ := hrel
  rcases Nat.lt_or_ge k ps.length with hlt | hge
  ·have dk : decide ((k : Int) < (ps.length : Int)) = true := decide_eq_true (by omega)
   have hcb := hb.cell
   obtain ⟨x, hx⟩ : ∃ x, ps[k]? = some x := ⟨_, List.getElem?_eq_getElem hlt⟩
   have hcv : wr.cell? ⟨V, k, none⟩ = some (.string x) := (hV.cell k).trans (by simp [hx])
   have hsucc := hid (List.range_succ (n := k))
   obtain ⟨n, hn'⟩ : ∃ n : Int, (ps.length : Int) = n := ⟨_, rfl⟩
   obtain ⟨b, hbd⟩ : ∃ b, decide (k + 1 = ps.length) = b := ⟨_, rfl⟩
   have he : ((k : Int) == n - 1) = b := by
    rw [<- hbd, Bool.eq_iff_iff]; simp; omega
   obtain ⟨fn, tmps, assign, body, hy2, hR⟩ := hY (List.range k) k wr hj ⟨rfl, hlt⟩
   replace hy2 : (Instr.yield lb #[.string (ps[k]?.getD ⟨#[]⟩), .bool (decide (k + 1 = ps.length))]).run Tryz.prog wr = _ := hy2
   rw [hx] at hy2
   simp only [Option.getD_some, hbd] at hy2
   have HR := hid hR;clear hR;gi_wp2_with fail
   refine ⟨rfl, HR.out.mono ?_⟩
   rintro e W3 (⟨rfl, hJ3, hk3⟩ | ⟨rfl, hJx3⟩)
   ·gi_wp2
    subst hn';go_roundw
    case rel => exact ⟨k + 1, by go_num, by omega, (hk3.keep B (by simp)).trans hb, hV.keep (hk3.keep V (by simp)), by rw [hsucc.out]; exact hJ3⟩
    case measure => simp [intOf]; omega
   ·gi_wp2
    refine bodyPost_ret (results_none rfl _ _ _) rfl ?_
    exact ⟨⟨_, rfl⟩, .inr ⟨_, ⟨k, hsucc.out.symm, hlt⟩, hJx3⟩⟩
  ·obtain rfl : k = ps.length := by omega
   gi_wp2
   refine bodyPost_end (results_none rfl _ _ _) rfl ?_
   exact ⟨⟨_, rfl⟩, .inl ⟨_, rfl, hj⟩⟩
end
section
attribute [local go_sem] Oper.semAt_some
theorem toList_inj {a b : ByteArray} (h : a.toList = b.toList) : a = b := by
 have e : ∀ c : ByteArray, c.toList = c.data.toList := fun c => ByteArray.toList_eq c
 rw [e, e] at h
 obtain ⟨⟨l⟩⟩ := a
 obtain ⟨⟨m⟩⟩ := b
 simp at h
 rw [h]
theorem blk_at (w : World) (cs : Array Value) (T : TypeId) (n : Nat) (h : w.heap.size = n) : Blk (w.alloc (.cells cs T)) n cs T := by subst h; exact Blk.new w cs T
theorem splitB_size (sep : ByteArray) : ∀ (k : Nat) (s : ByteArray), ∀ x ∈ Lib.splitB sep 0 k s, x.size <= s.size := by
 intro k
 induction k with
 | zero => intro s x hx; rw [Lib.splitB_zero] at hx; simp at hx; subst hx; exact Nat.le_refl _
 | succ k ih =>
  intro s x hx
  unfold Lib.splitB at hx
  split at hx
  ·simp at hx; subst hx; exact Nat.le_refl _
  ·rcases List.mem_cons.1 hx with rfl | hx
   ·simp [ByteArray.size_extract]; omega
   ·have := ih _ x hx
    simp [ByteArray.size_extract] at this
    omega
theorem levelsB_size (s : List UInt8) : ∀ x ∈ levelsB s, x.data.toList.length <= s.length := by
 intro x hx
 have h1 := splitB_size ⟨#[47]⟩ _ ⟨s.toArray⟩ x hx
 have e : ByteArray.size ⟨s.toArray⟩ = s.length := by simp [ByteArray.size]
 have e2 : x.data.toList.length = x.size := by rw [Array.length_toList]; rfl
 omega
theorem levelsB_len (s : List UInt8) : (levelsB s).length <= s.length + 1 := by
 unfold levelsB
 have h1 := Lib.splitB_length_le ⟨#[47]⟩ 0 (Lib.countB ⟨s.toArray⟩ ⟨#[47]⟩) ⟨s.toArray⟩
 have h2 := Lib.countB_le ⟨#[47]⟩ (by decide) _ ⟨s.toArray⟩ (Nat.le_refl _)
 have e : ByteArray.size ⟨s.toArray⟩ = s.length := by simp [ByteArray.size]
 rw [e] at h2
 have h3 : Lib.countB ⟨s.toArray⟩ ⟨#[47]⟩ <= s.length := by first | exact h2 | (simp at h2; omega)
 omega
def lvlOK (x : List UInt8) (last : Bool) : Bool := decide (x = [43]) || (decide (x = [35]) && last) || !anyR x
def filterL (ps : List ByteArray) (k : Nat) : Bool := (List.range k).all fun i => lvlOK (lvl ps i).data.toList (decide (i + 1 = ps.length))
def filterR (s : List UInt8) : Bool := filterL (levelsB s) (levelsB s).length && saidR s
theorem filterL_succ (ps : List ByteArray) (k : Nat) : filterL ps (k + 1) = (filterL ps k && lvlOK (lvl ps k).data.toList (decide (k + 1 = ps.length))) := by
 unfold filterL
 rw [List.range_succ, List.all_append]
 simp
theorem filterL_bad (ps : List ByteArray) (k n : Nat) (h : k < n) (hb : lvlOK (lvl ps k).data.toList (decide (k + 1 = ps.length)) = false) : filterL ps n = false := by
 unfold filterL
 rw [List.all_eq_false]
 exact ⟨k, by simp [h], by simp [hb]⟩
def FilI (w : World) (ps : List ByteArray) (pre : List Nat) (W : World) : Prop := (∃ k, pre = List.range k /\ filterL ps k = true) /\ Boxed W w.heap.size 4 (.bool false) /\ Below w.heap.size w W
def FilX (w : World) (ps : List ByteArray) (c : Code) (_pre : List Nat) (W : World) : Prop := c = .ret /\ filterL ps ps.length = false /\ Boxed W w.heap.size 4 (.bool false) /\ Below w.heap.size w W
theorem topic_Filter2 (s : List UInt8) (w : World) (hs : s.length <= 2000000) :
  Calls Tryz.prog 135 #[.string ⟨s.toArray⟩] w fun e w' => e = .returned (.bool (filterR s)) /\ Below w.heap.size w w' := by
 have hlen := levelsB_len s
 have hsize := levelsB_size s
 unfold filterR
 have CL := hid fun W => top_Levels s W (by omega)
 have CT := hid fun W => topic_said s W (by omega)
 generalize hps : levelsB s = ps at *
 have hps := hid hps;refine calls_marks Tryz.func135 rfl ?_
 simp only [Tryz.ntmps135, List.size_toArray, List.length_cons, List.length_nil, Nat.reduceAdd, Nat.reduceSub, Array.replicate_succ, Array.replicate_zero, List.push_toArray, List.append_toArray, List.nil_append, List.cons_append]
 go_wp2_with fail
 refine (CL.out _).mono ?_
 rintro e w1 ⟨rfl, rfl⟩
 go_wp2_with fail
 refine (top_levels _ _ _ _).mono ?_
 rintro e w2 ⟨rfl, rfl⟩
 go_wp2_with fail
 try simp only [World.size_alloc]
 generalize hW0 : ((w.alloc (Obj.cells #[Value.bool false] 4)).alloc (Obj.cells (ps.map Value.string).toArray 9)).alloc (Obj.cells #[Value.slice (some ⟨w.heap.size + 1, 0, none⟩) ps.length ps.length] 50) = W0
 have hsz : W0.heap.size = w.heap.size + 3 := by rw [<- hW0]; simp
 have hb0 : Below w.heap.size w W0 := by
  rw [<- hW0]
  exact belw
 have b1 : Boxed W0 w.heap.size 4 (.bool false) := by
  have e1 := Boxed.new w 4 (.bool false)
  rw [<- hW0]; exact (e1.alloc _).alloc _
 have b2 : Boxed W0 (w.heap.size + 2) 50 (.slice (some ⟨w.heap.size + 1, 0, none⟩) ps.length ps.length) := by
  rw [<- hW0]; exact blk_at _ _ _ _ (by simp)
 have b3 : Blk W0 (w.heap.size + 1) (ps.map Value.string).toArray 9 := by
  rw [<- hW0]; exact (blk_at _ _ _ _ (by simp)).alloc _
 have HW0 := hid hW0; clear hW0
 refine wp_range (α := Nat) (gf := 238) (lb := #[.pointer (some ⟨w.heap.size + 2, 0, none⟩)]) rfl (enters_of Tryz.func238 (by kernel_rfl) rfl)
  (n₀ := 0) (L := [w.heap.size + 2, w.heap.size + 1]) (M := []) (top_levels1 ps W0 (w.heap.size + 2) (w.heap.size + 1) b3 b2 (by omega))
  (Nat.zero_le _) (by simp; omega) (by simp) (fun _ => rfl) (FilI w ps) (FilX w ps) ?hI ?hIx ?h0
  (fun pre i a' W => (pre = List.range i /\ i < ps.length) /\ a' = { tmps := #[.string ⟨s.toArray⟩, undef, .pointer (some ⟨w.heap.size, 0, none⟩), .string (lvl ps i), .bool (decide (i + 1 = ps.length)), undef, .string ⟨s.toArray⟩, .slice (some ⟨w.heap.size + 1, 0, none⟩) ps.length ps.length, .func (.func 238) #[] #[.pointer (some ⟨w.heap.size + 2, 0, none⟩)], .string (lvl ps i), .bool (decide (i + 1 = ps.length)), undef, undef, undef, undef, undef, undef, undef, undef, undef, undef, undef, undef, undef, undef, undef, undef, undef], defers := [] }) ?hAx ?assign ?body ?done ?stop
 case hI =>
  rintro s A A' ⟨g1, g2, g3⟩ hw
  rw [hsz] at hw
  exact ⟨g1, hw.boxed (by simp <;> omega) g2, g3.trans (hw.below g3.size (by simp <;> omega))⟩
 case hIx =>
  rintro c s A A' ⟨rfl, g0, g1, g2⟩ hw
  rw [hsz] at hw
  exact ⟨rfl, g0, hw.boxed (by simp <;> omega) g1, g2.trans (hw.below g2.size (by simp <;> omega))⟩
 case h0 => exact ⟨⟨0, rfl, rfl⟩, b1, hb0⟩
 case hAx =>
  rintro pre x a' A A' ⟨hx, rfl⟩ hl hw
  exact ⟨hx, rfl⟩
 case assign =>
  intro pre x W K hl hi hx hK
  simp only [encL]
  gi_wp2
  refine hK _ _ (Below.refl _ _) hi ⟨hx, rfl⟩
 case body =>
  rintro pre i a' W hl ⟨⟨k, hk1, hk2⟩, g2, g3⟩ ⟨⟨hx1, hx2⟩, rfl⟩
  have hki : k = i := by have := congrArg List.length (hk1.symm.trans hx1); simpa using this
  subst hki;subst hx1
  have hmem : lvl ps k ∈ ps := by
   unfold lvl
   rw [List.getElem?_eq_getElem hx2]
   exact List.getElem_mem hx2
  have hxs := hsize _ hmem
  have hsucc := filterL_succ ps k
  have hrange := hid (List.range_succ (n := k))
  have hbad := filterL_bad ps k ps.length hx2
  obtain ⟨x, hl2⟩ : ∃ x, lvl ps k = x := ⟨_, rfl⟩
  rw [hl2] at hxs hsucc hbad ⊢
  obtain ⟨l, hlx⟩ : ∃ l, x.data.toList = l := ⟨_, rfl⟩
  rw [hlx] at hxs hsucc hbad
  have hx : (⟨l.toArray⟩ : ByteArray) = x := by rw [<- hlx]
  have CA := anyOK l (by omega)
  obtain ⟨bl, hbl⟩ : ∃ b, decide (k + 1 = ps.length) = b := ⟨_, rfl⟩
  obtain ⟨ba, hba⟩ : ∃ b, anyR l = b := ⟨_, rfl⟩
  obtain ⟨b1', hb1⟩ : ∃ b, decide (l = [43]) = b := ⟨_, rfl⟩
  obtain ⟨b2', hb2⟩ : ∃ b, decide (l = [35]) = b := ⟨_, rfl⟩
  have e1 : b1' = true ↔ x = ⟨#[43]⟩ := by rw [<- hb1, <- hx]; simp
  have e2 : b2' = true ↔ x = ⟨#[35]⟩ := by rw [<- hb2, <- hx]; simp
  unfold AnyOK at CA
  rw [hba, hx] at CA
  unfold lvlOK at hsucc hbad
  simp only [hbl, hba, hb1, hb2, hk2] at hsucc hbad
  rw [hbl]
  replace CA := hid CA;have c1 := g2.cell
  have f1 := g2.frozen
  rw [hsz] at hl
  have hcase : b1' = true \/ (b1' = false /\ b2' = true /\ bl = true) \/ (b1' = false /\ b2' = false /\ ba = false) \/ (b1' = false /\ b2' = false /\ ba = true) \/ (b1' = false /\ b2' = true /\ bl = false /\ ba = false) \/ (b1' = false /\ b2' = true /\ bl = false /\ ba = true) := by
   cases b1' <;> cases b2' <;> cases bl <;> cases ba <;> simp
  clear hb1 hb2 hba hbl hmem hl2 hxs hlx hx;rcases hcase with rfl | ⟨rfl, rfl, rfl⟩ | ⟨rfl, rfl, rfl⟩ | ⟨rfl, rfl, rfl⟩ | ⟨rfl, rfl, rfl, rfl⟩ | ⟨rfl, rfl, rfl, rfl⟩
  ·have h1 := e1.1 rfl
   clear e1 e2;subst h1;replace hsucc := hid hsucc;clear hbad;gi_wp2
   refine ⟨trivial, ?_⟩
   gi_wp2
   exact ⟨Keep.refl _ _ _, ⟨k + 1, hrange.out.symm, by rw [hsucc.out]; rfl⟩, g2, g3⟩
  ·have h1 : ¬ x = ⟨#[43]⟩ := fun h => by have := e1.2 h; cases this
   have h2 := e2.1 rfl
   clear e1 e2 h1;subst h2;replace hsucc := hid hsucc;clear hbad;gi_wp2
   refine ⟨trivial, ?_⟩
   gi_wp2
   exact ⟨Keep.refl _ _ _, ⟨k + 1, hrange.out.symm, by rw [hsucc.out]; rfl⟩, g2, g3⟩
  ·have h1 : ¬ x = ⟨#[43]⟩ := fun h => by have := e1.2 h; cases this
   have h2 : ¬ x = ⟨#[35]⟩ := fun h => by have := e2.2 h; cases this
   have i1 : ¬ x.toList = [43] := fun h => h1 (toList_inj (by rw [h]; exact (ByteArray.toList_mk [43]).symm))
   have i2 : ¬ x.toList = [35] := fun h => h2 (toList_inj (by rw [h]; exact (ByteArray.toList_mk [35]).symm))
   have g1' : (x.toList == [43]) = false := by simpa using i1
   have g2' : (x.toList == [35]) = false := by simpa using i2
   clear e1 e2;replace hsucc := hid hsucc;clear hbad;gi_wp2_with fail
   refine inW (CA.out _) ?_
   rintro e w5 ⟨rfl, hb5⟩
   gi_wp2
   refine ⟨Keep.of_below hb5 (Nat.zero_le _) (by simp; omega), ⟨k + 1, hrange.out.symm, by rw [hsucc.out]; rfl⟩, boxed_below g2 hb5, g3.trans (hb5.mono g3.size)⟩
  ·have h1 : ¬ x = ⟨#[43]⟩ := fun h => by have := e1.2 h; cases this
   have h2 : ¬ x = ⟨#[35]⟩ := fun h => by have := e2.2 h; cases this
   have i1 : ¬ x.toList = [43] := fun h => h1 (toList_inj (by rw [h]; exact (ByteArray.toList_mk [43]).symm))
   have i2 : ¬ x.toList = [35] := fun h => h2 (toList_inj (by rw [h]; exact (ByteArray.toList_mk [35]).symm))
   have g1' : (x.toList == [43]) = false := by simpa using i1
   have g2' : (x.toList == [35]) = false := by simpa using i2
   clear e1 e2;replace hbad := hid hbad;clear hsucc;gi_wp2_with fail
   refine inW (CA.out _) ?_
   rintro e w5 ⟨rfl, hb5⟩
   have g5 := boxed_below g2 hb5
   have c5 := g5.cell
   have f5 := g5.frozen
   gi_wp2
   have hb53 := g3.trans (hb5.mono g3.size)
   refine ⟨(Keep.of_below hb5 (Nat.zero_le _) (by simp; omega)).trans (Keep.setCell _ _ (by simp) (by simp; omega) _), rfl, hbad.out rfl, g5.set _, hb53.setCell (p := ⟨w.heap.size, 0, none⟩) (by simp) _⟩
  ·have h1 : ¬ x = ⟨#[43]⟩ := fun h => by have := e1.2 h; cases this
   have h2 := e2.1 rfl
   clear e1 e2 h1;subst h2;replace hsucc := hid hsucc;clear hbad;gi_wp2_with fail
   refine inW (CA.out _) ?_
   rintro e w5 ⟨rfl, hb5⟩
   gi_wp2
   refine ⟨Keep.of_below hb5 (Nat.zero_le _) (by simp; omega), ⟨k + 1, hrange.out.symm, by rw [hsucc.out]; rfl⟩, boxed_below g2 hb5, g3.trans (hb5.mono g3.size)⟩
  ·have h1 : ¬ x = ⟨#[43]⟩ := fun h => by have := e1.2 h; cases this
   have h2 := e2.1 rfl
   clear e1 e2 h1;subst h2;replace hbad := hid hbad;clear hsucc;gi_wp2_with fail
   refine inW (CA.out _) ?_
   rintro e w5 ⟨rfl, hb5⟩
   have g5 := boxed_below g2 hb5
   have c5 := g5.cell
   have f5 := g5.frozen
   gi_wp2
   have hb53 := g3.trans (hb5.mono g3.size)
   refine ⟨(Keep.of_below hb5 (Nat.zero_le _) (by simp; omega)).trans (Keep.setCell _ _ (by simp) (by simp; omega) _), rfl, hbad.out rfl, g5.set _, hb53.setCell (p := ⟨w.heap.size, 0, none⟩) (by simp) _⟩
 case done =>
  rintro xs W hS ⟨⟨k, hk1, hk2⟩, g2, g3⟩ hl hD
  rw [hsz] at hl
  have hke : k = ps.length := by have := congrArg List.length (hk1.symm.trans hS); simpa using this
  subst hke;have HF := hid hk2;clear hS hk1 hk2;have c1 := g2.cell
  have f1 := g2.frozen
  go_wp2_with fail
  refine (CT.out _).mono ?_
  rintro e W5 ⟨rfl, hb5⟩
  have g5 := boxed_below g2 hb5
  have c5 := g5.cell
  have f5 := g5.frozen
  go_wp2
  have d1 : Boxed (W5.setCell ⟨w.heap.size, 0, none⟩ (.bool (saidR s))) w.heap.size 4 (.bool (saidR s)) := g5.set _
  have hD5 := (hb5.block _ (by omega)).trans hD
  rw [hsz] at hD5
  refine ret_mark (v := .bool (saidR s)) (D := w.heap.size + 3) ((Below.heap_setCell _ _ _ _ (by simp)).trans hD5) (fun w' hw' => ?_)
  have wp : Wrote [w.heap.size + 3] (W5.setCell ⟨w.heap.size, 0, none⟩ (.bool (saidR s))) w' := by rw [hw']; exact Wrote.putObj _ _ (by simp) _
  have d4 := (wp.boxed (by simp) d1).cell
  have hb : Below w.heap.size w (W5.setCell ⟨w.heap.size, 0, none⟩ (.bool (saidR s))) := (g3.trans (hb5.mono g3.size)).setCell (p := ⟨w.heap.size, 0, none⟩) (by simp) _
  exact ⟨by simp [results, Tryz.results135, go_sem, d4], by rw [HF.out, Bool.true_and], hb.trans (wp.below hb.size (by simp))⟩
 case stop =>
  rintro c pre W _ ⟨rfl, g0, g1, g2⟩ hl hD
  rw [hsz] at hl
  have HF := hid g0;clear g0;have c1 := g1.cell
  have f1 := g1.frozen
  go_wp2
  have d1 : Boxed W w.heap.size 4 (.bool false) := g1
  refine ret_mark (v := .bool false) hD (fun w' hw' => ?_)
  have wp : Wrote [W0.heap.size] W w' := by rw [hw']; exact Wrote.putObj _ _ (by simp) _
  have d4 := (wp.boxed (by simp; omega) d1).cell
  have hb : Below w.heap.size w W := g2
  exact ⟨by simp [results, Tryz.results135, go_sem, d4], by rw [HF.out, Bool.false_and], hb.trans (wp.below hb.size (by simp; omega))⟩
end
section
def saidN (s : List UInt8) (most : Nat) : Bool := decide (s.length <= most) && decide (wrongU s = -1)
def within (n lo hi : Int) : Bool := decide (lo <= n) && decide (n <= hi)
def eqWill2 (v : WillV) : Bool := decide (v.topic = []) && (decide (v.body = []) && (decide (v.qos = 0) && !v.retain))
def mayC (p : Pk) : Bool :=
 saidN p.client 23 && (p.clean || !p.client.isEmpty) && within p.keep 0 65535
  && ((!p.hasWill && eqWill2 p.will) || (p.hasWill && nameR p.will.topic && decide (p.will.body.length <= 2000) && within p.will.qos 0 2))
  && ((p.hasUser && saidN p.user 200) || (!p.hasUser && p.user.isEmpty && !p.hasPass))
  && ((p.hasPass && decide (p.pass.length <= 200)) || (!p.hasPass && p.pass.isEmpty))
def mayA (p : Pk) : Bool := within p.code 0 5 && (decide (p.code = 0) || !p.present)
def mayPub (p : Pk) : Bool := nameR p.topic && decide (p.body.length <= 2000) && within p.qos 0 2 && ((decide (p.qos = 0) && decide (p.id = 0) && !p.dup) || (decide (0 < p.qos) && within p.id 1 65535))
def fitL {α : Type} (l : List α) (is : α -> Bool) : Bool := decide (1 <= l.length) && decide (l.length <= 8) && l.all is
def mayWant (x : WantV) : Bool := filterR x.filter && within x.qos 0 2
def mayCode (c : Int) : Bool := within c 0 2 || decide (c = 128)
def mayP (p : Pk) : Bool :=
 if p.kind = 1 then mayC p else if p.kind = 2 then mayA p else if p.kind = 3 then mayPub p
 else if p.kind = 8 then within p.id 1 65535 && fitL p.wants mayWant else if p.kind = 9 then within p.id 1 65535 && fitL p.codes mayCode else if p.kind = 10 then within p.id 1 65535 && fitL p.filters filterR
 else if 4 <= p.kind /\ p.kind <= 11 then within p.id 1 65535 else decide (12 <= p.kind /\ p.kind <= 14)
def zPk (k : Int) : Pk := ⟨k, false, false, 0, [], [], 0, [], false, 0, false, noWill, false, false, [], [], false, 0, [], [], []⟩
def aloneP (p : Pk) : Pk :=
 if p.kind = 1 then { zPk 1 with client := p.client, clean := p.clean, keep := p.keep, hasWill := p.hasWill, will := p.will, hasUser := p.hasUser, hasPass := p.hasPass, user := p.user, pass := p.pass }
 else if p.kind = 2 then { zPk 2 with present := p.present, code := p.code }
 else if p.kind = 3 then { zPk 3 with topic := p.topic, body := p.body, qos := p.qos, retain := p.retain, dup := p.dup, id := p.id }
 else if p.kind = 8 then { zPk 8 with id := p.id, wants := p.wants } else if p.kind = 9 then { zPk 9 with id := p.id, codes := p.codes } else if p.kind = 10 then { zPk 10 with id := p.id, filters := p.filters }
 else if 4 <= p.kind /\ p.kind <= 11 then { zPk p.kind with id := p.id } else zPk p.kind
def rightP (p : Pk) : Prop := mayP p = true /\ aloneP p = p
def bitN (b : Bool) (n : Nat) : Nat := if b then n else 0
def connN (p : Pk) : Nat := bitN p.hasUser 128 + bitN p.hasPass 64 + bitN p.will.retain 32 + bitN p.hasWill 4 + bitN p.clean 2 + 8 * p.will.qos.toNat
def flagN (p : Pk) : Nat := if p.kind = 3 then bitN p.dup 8 + bitN p.retain 1 + 2 * p.qos.toNat else if p.kind = 6 \/ p.kind = 8 \/ p.kind = 10 then 2 else 0
def wantB (x : WantV) : List UInt8 := txtB x.filter ++ numB 1 x.qos.toNat
def mqtt : List UInt8 := [77, 81, 84, 84]
def bodyP (p : Pk) : List UInt8 :=
 if p.kind = 1 then txtB mqtt ++ (numB 1 4 ++ (numB 1 (connN p) ++ (numB 2 p.keep.toNat ++ (txtB p.client ++ ((if p.hasWill then txtB p.will.topic ++ txtB p.will.body else []) ++ ((if p.hasUser then txtB p.user else []) ++ (if p.hasPass then txtB p.pass else [])))))))
 else if p.kind = 2 then numB 1 (bitN p.present 1) ++ numB 1 p.code.toNat
 else if p.kind = 3 then txtB p.topic ++ ((if 0 < p.qos then numB 2 p.id.toNat else []) ++ p.body)
 else if p.kind = 8 then numB 2 p.id.toNat ++ p.wants.flatMap wantB else if p.kind = 9 then numB 2 p.id.toNat ++ p.codes.flatMap (fun c => numB 1 c.toNat) else if p.kind = 10 then numB 2 p.id.toNat ++ p.filters.flatMap txtB
 else if 4 <= p.kind /\ p.kind <= 11 then numB 2 p.id.toNat else []
def rOpt {α : Type} (is : Bool) (z : α) (r : List UInt8 -> Option (α × List UInt8)) (l : List UInt8) : Option (α × List UInt8) := if is then r l else some (z, l)
def rTwo (l : List UInt8) : Option ((List UInt8 × List UInt8) × List UInt8) := (rTxt l).bind fun a => (rTxt a.2).bind fun b => some ((a.1, b.1), b.2)
def has (f n : Nat) : Bool := decide (f / n % 2 = 1)
def readC (l : List UInt8) : Option (Pk × List UInt8) :=
 (rTxt l).bind fun a => if a.1 ≠ mqtt then none else (rNum 1 a.2).bind fun v => if v.1 ≠ 4 then none else (rNum 1 v.2).bind fun f => (rNum 2 f.2).bind fun k => (rTxt k.2).bind fun c =>
  (rOpt (has f.1 4) ([], []) rTwo c.2).bind fun wl => (rOpt (has f.1 128) [] rTxt wl.2).bind fun u => (rOpt (has f.1 64) [] rTxt u.2).bind fun s =>
   let p : Pk := { zPk 1 with hasUser := has f.1 128, hasPass := has f.1 64, hasWill := has f.1 4, clean := has f.1 2, keep := (k.1 : Int), client := c.1, will := ⟨wl.1.1, wl.1.2, ((f.1 / 8 % 4 : Nat) : Int), has f.1 32⟩, user := u.1, pass := s.1 }
   if f.1 = connN p then some (p, s.2) else none
theorem has_bits (u s r w c : Bool) (q : Nat) (hq : q < 4) : has (bitN u 128 + bitN s 64 + bitN r 32 + bitN w 4 + bitN c 2 + 8 * q) 128 = u /\ has (bitN u 128 + bitN s 64 + bitN r 32 + bitN w 4 + bitN c 2 + 8 * q) 64 = s /\ has (bitN u 128 + bitN s 64 + bitN r 32 + bitN w 4 + bitN c 2 + 8 * q) 32 = r
  /\ has (bitN u 128 + bitN s 64 + bitN r 32 + bitN w 4 + bitN c 2 + 8 * q) 4 = w /\ has (bitN u 128 + bitN s 64 + bitN r 32 + bitN w 4 + bitN c 2 + 8 * q) 2 = c /\ (bitN u 128 + bitN s 64 + bitN r 32 + bitN w 4 + bitN c 2 + 8 * q) / 8 % 4 = q /\ bitN u 128 + bitN s 64 + bitN r 32 + bitN w 4 + bitN c 2 + 8 * q < 256 := by
 have h : q = 0 \/ q = 1 \/ q = 2 \/ q = 3 := by omega
 rcases h with rfl | rfl | rfl | rfl <;> cases u <;> cases s <;> cases r <;> cases w <;> cases c <;> decide
end
section
theorem rTwo_txt {a b : List UInt8} (ha : a.length < 65536) (hb : b.length < 65536) (r : List UInt8) : rTwo (txtB a ++ (txtB b ++ r)) = some ((a, b), r) := by
 unfold rTwo
 rw [rTxt_txtB a ha, Option.bind_some, rTxt_txtB b hb, Option.bind_some]
theorem rTwo_some {l r : List UInt8} {a b : List UInt8} (h : rTwo l = some ((a, b), r)) : l = txtB a ++ (txtB b ++ r) := by
 unfold rTwo at h
 cases h1 : rTxt l with
 | none => rw [h1] at h; cases h
 | some x =>
  rw [h1, Option.bind_some] at h
  cases h2 : rTxt x.2 with
  | none => rw [h2] at h; cases h
  | some y =>
   rw [h2, Option.bind_some] at h
   cases h
   rw [(rTxt_some h1).1, (rTxt_some h2).1]
theorem nameR_len {s : List UInt8} (h : nameR s = true) : s.length <= 200 := by
 unfold nameR saidR at h
 simp only [Bool.and_eq_true, decide_eq_true_eq] at h
 exact h.1.1.2
theorem saidN_len {s : List UInt8} {m : Nat} (h : saidN s m = true) : s.length <= m := by
 unfold saidN at h
 simp only [Bool.and_eq_true, decide_eq_true_eq] at h
 exact h.1
theorem within_iff {n lo hi : Int} : within n lo hi = true ↔ lo <= n /\ n <= hi := by simp [within]
theorem mayC_parts {p : Pk} (h : mayC p = true) : saidN p.client 23 = true /\ (0 <= p.keep /\ p.keep <= 65535)
  /\ ((p.hasWill = false /\ p.will = noWill) \/ (p.hasWill = true /\ nameR p.will.topic = true /\ p.will.body.length <= 2000 /\ 0 <= p.will.qos /\ p.will.qos <= 2))
  /\ ((p.hasUser = true /\ saidN p.user 200 = true) \/ (p.hasUser = false /\ p.user = []))
  /\ ((p.hasPass = true /\ p.pass.length <= 200) \/ (p.hasPass = false /\ p.pass = [])) := by
 unfold mayC at h
 simp only [Bool.and_eq_true, Bool.or_eq_true, Bool.not_eq_true', decide_eq_true_eq, within_iff, List.isEmpty_iff] at h
 obtain ⟨⟨⟨⟨⟨h1, -⟩, h2⟩, h3⟩, h4⟩, h5⟩ := h
 refine ⟨h1, h2, ?_, ?_, h5⟩
 ·rcases h3 with ⟨a, b⟩ | ⟨⟨⟨a, b⟩, c⟩, d⟩
  ·refine .inl ⟨a, ?_⟩
   unfold eqWill2 at b
   simp only [Bool.and_eq_true, decide_eq_true_eq, Bool.not_eq_true'] at b
   obtain ⟨b1, b2, b3, b4⟩ := b
   cases hw : p.will
   rw [hw] at b1 b2 b3 b4
   dsimp only at b1 b2 b3 b4
   subst b1 b2 b3 b4;rfl
  ·exact .inr ⟨a, b, c, d⟩
 ·rcases h4 with ⟨a, b⟩ | ⟨⟨a, b⟩, -⟩
  ·exact .inl ⟨a, b⟩
  ·exact .inr ⟨a, b⟩
theorem readC_body {p : Pk} (h : rightP p) (hk : p.kind = 1) (r : List UInt8) : readC (bodyP p ++ r) = some (p, r) := by
 obtain ⟨hm, ha⟩ := h
 have hm : mayC p = true := by unfold mayP at hm; rwa [if_pos hk] at hm
 obtain ⟨h1, h2, h3, h4, h5⟩ := mayC_parts hm
 have hc := saidN_len h1
 have hq : p.will.qos.toNat < 4 := by
  rcases h3 with ⟨-, e⟩ | ⟨-, -, -, e1, e2⟩
  ·rw [e]; decide
  ·omega
 have hq0 : 0 <= p.will.qos := by
  rcases h3 with ⟨-, e⟩ | ⟨-, -, -, e1, e2⟩
  ·rw [e]; decide
  ·omega
 obtain ⟨b1, b2, b3, b4, b5, b6, b7⟩ := has_bits p.hasUser p.hasPass p.will.retain p.hasWill p.clean p.will.qos.toNat hq
 have hN : connN p = bitN p.hasUser 128 + bitN p.hasPass 64 + bitN p.will.retain 32 + bitN p.hasWill 4 + bitN p.clean 2 + 8 * p.will.qos.toNat := rfl
 rw [<- hN] at b1 b2 b3 b4 b5 b6 b7
 have e1 : ∀ r, rOpt (has (connN p) 4) ([], []) rTwo ((if p.hasWill then txtB p.will.topic ++ txtB p.will.body else []) ++ r) = some ((p.will.topic, p.will.body), r) := by
  intro r
  rw [b4]
  rcases h3 with ⟨e, f⟩ | ⟨e, f, g, -⟩
  ·rw [e, f]; rfl
  ·rw [e]
   have := nameR_len f
   simp only [rOpt, if_true, List.append_assoc]
   exact rTwo_txt (by omega) (by omega) r
 have e2 : ∀ r, rOpt (has (connN p) 128) [] rTxt ((if p.hasUser then txtB p.user else []) ++ r) = some (p.user, r) := by
  intro r
  rw [b1]
  rcases h4 with ⟨e, f⟩ | ⟨e, f⟩
  ·rw [e]
   have := saidN_len f
   simp only [rOpt, if_true]
   exact rTxt_txtB _ (by omega) r
  ·rw [e, f]; rfl
 have e3 : ∀ r, rOpt (has (connN p) 64) [] rTxt ((if p.hasPass then txtB p.pass else []) ++ r) = some (p.pass, r) := by
  intro r
  rw [b2]
  rcases h5 with ⟨e, f⟩ | ⟨e, f⟩
  ·rw [e]
   simp only [rOpt, if_true]
   exact rTxt_txtB _ (by omega) r
  ·rw [e, f]; rfl
 have hal : aloneP p = { zPk 1 with client := p.client, clean := p.clean, keep := p.keep, hasWill := p.hasWill, will := p.will, hasUser := p.hasUser, hasPass := p.hasPass, user := p.user, pass := p.pass } := by unfold aloneP; rw [if_pos hk]
 unfold bodyP readC
 rw [if_pos hk]
 simp only [List.append_assoc]
 rw [rTxt_txtB mqtt (by decide), Option.bind_some]
 dsimp only
 rw [if_neg (by simp), rNum_numB 1 4 (by decide), Option.bind_some]
 dsimp only
 rw [if_neg (by simp), rNum_numB 1 _ (by simpa using b7), Option.bind_some]
 dsimp only
 rw [rNum_numB 2 _ (by have := h2; omega), Option.bind_some]
 dsimp only
 rw [rTxt_txtB _ (by omega), Option.bind_some]
 dsimp only
 rw [e1, Option.bind_some]
 dsimp only
 rw [e2, Option.bind_some]
 dsimp only
 rw [e3, Option.bind_some]
 dsimp only
 have hp : ({ zPk 1 with hasUser := has (connN p) 128, hasPass := has (connN p) 64, hasWill := has (connN p) 4, clean := has (connN p) 2, keep := (p.keep.toNat : Int), client := p.client, will := ⟨p.will.topic, p.will.body, ((connN p / 8 % 4 : Nat) : Int), has (connN p) 32⟩, user := p.user, pass := p.pass } : Pk) = p := by
  rw [b1, b2, b3, b4, b5, b6, Int.toNat_of_nonneg h2.1, Int.toNat_of_nonneg hq0]
  exact hal.symm.trans ha
 rw [hp, if_pos rfl]
theorem readC_some {l r : List UInt8} {p : Pk} (h : readC l = some (p, r)) : l = bodyP p ++ r /\ p.kind = 1 := by
 unfold readC at h
 cases h1 : rTxt l with
 | none => rw [h1] at h; cases h
 | some a =>
 rw [h1, Option.bind_some] at h
 split at h
 ·cases h
 rename_i ha
 simp only [ne_eq, Decidable.not_not] at ha
 cases h2 : rNum 1 a.2 with
 | none => rw [h2] at h; cases h
 | some v =>
 rw [h2, Option.bind_some] at h
 split at h
 ·cases h
 rename_i hv
 simp only [ne_eq, Decidable.not_not] at hv
 cases h3 : rNum 1 v.2 with
 | none => rw [h3] at h; cases h
 | some f =>
 rw [h3, Option.bind_some] at h
 cases h4 : rNum 2 f.2 with
 | none => rw [h4] at h; cases h
 | some k =>
 rw [h4, Option.bind_some] at h
 cases h5 : rTxt k.2 with
 | none => rw [h5] at h; cases h
 | some c =>
 rw [h5, Option.bind_some] at h
 cases h6 : rOpt (has f.1 4) ([], []) rTwo c.2 with
 | none => rw [h6] at h; cases h
 | some wl =>
 rw [h6, Option.bind_some] at h
 cases h7 : rOpt (has f.1 128) [] rTxt wl.2 with
 | none => rw [h7] at h; cases h
 | some u =>
 rw [h7, Option.bind_some] at h
 cases h8 : rOpt (has f.1 64) [] rTxt u.2 with
 | none => rw [h8] at h; cases h
 | some s =>
 rw [h8, Option.bind_some] at h
 dsimp only at h
 split at h
 ·rename_i hf
  simp only [Option.some.injEq, Prod.mk.injEq] at h
  obtain ⟨hp, hs⟩ := h
  refine ⟨?_, by rw [<- hp]; rfl⟩
  rw [hp] at hf
  have g1 := (rTxt_some h1).1
  have g2 := (rNum_some h2).1
  have g3 := (rNum_some h3).1
  have g4 := (rNum_some h4).1
  have g5 := (rTxt_some h5).1
  have g6 : c.2 = (if has f.1 4 then txtB wl.1.1 ++ txtB wl.1.2 else []) ++ wl.2 := by
   unfold rOpt at h6
   cases hb : has f.1 4 with
   | false => rw [hb] at h6; simp at h6; rw [<- h6]; simp
   | true => rw [hb] at h6; simp at h6; rw [rTwo_some (a := wl.1.1) (b := wl.1.2) (r := wl.2) h6]; simp [List.append_assoc]
  have g7 : wl.2 = (if has f.1 128 then txtB u.1 else []) ++ u.2 := by
   unfold rOpt at h7
   cases hb : has f.1 128 with
   | false => rw [hb] at h7; simp at h7; rw [<- h7]; simp
   | true => rw [hb] at h7; simp at h7; simpa using (rTxt_some (s := u.1) (r := u.2) h7).1
  have g8 : u.2 = (if has f.1 64 then txtB s.1 else []) ++ s.2 := by
   unfold rOpt at h8
   cases hb : has f.1 64 with
   | false => rw [hb] at h8; simp at h8; rw [<- h8]; simp
   | true => rw [hb] at h8; simp at h8; simpa using (rTxt_some (s := s.1) (r := s.2) h8).1
  have kk : p.kind = 1 := by rw [<- hp]; rfl
  have e1 : p.hasWill = has f.1 4 := by rw [<- hp]
  have e2 : p.hasUser = has f.1 128 := by rw [<- hp]
  have e3 : p.hasPass = has f.1 64 := by rw [<- hp]
  have e4 : p.will.topic = wl.1.1 /\ p.will.body = wl.1.2 := by rw [<- hp]; exact ⟨rfl, rfl⟩
  have e5 : p.user = u.1 /\ p.pass = s.1 /\ p.client = c.1 /\ p.keep.toNat = k.1 := by rw [<- hp]; exact ⟨rfl, rfl, rfl, by simp⟩
  unfold bodyP
  rw [if_pos kk, e1, e2, e3, e4.1, e4.2, e5.1, e5.2.1, e5.2.2.1, e5.2.2.2, <- hf, <- hs, g1, g2, g3, g4, g5, g6, g7, g8, ha, hv]
  simp only [List.append_assoc]
 ·cases h
end
section
def readA (l : List UInt8) : Option (Pk × List UInt8) :=
 (rNum 1 l).bind fun a => if 1 < a.1 then none else (rNum 1 a.2).bind fun c => some ({ zPk 2 with present := decide (a.1 = 1), code := (c.1 : Int) }, c.2)
def readPub (f : Nat) (l : List UInt8) : Option (Pk × List UInt8) :=
 (rTxt l).bind fun t => (rOpt (decide (0 < f / 2 % 4)) 0 (rNum 2) t.2).bind fun i => some ({ zPk 3 with dup := has f 8, retain := has f 1, qos := ((f / 2 % 4 : Nat) : Int), topic := t.1, id := (i.1 : Int), body := i.2 }, [])
def rAll {α : Type} (take : List UInt8 -> Option (α × List UInt8)) : Nat -> List UInt8 -> Option (List α)
 | 0, l => if l = [] then some [] else none
 | n + 1, l => if l = [] then some [] else (take l).bind fun x => (rAll take n x.2).bind fun r => some (x.1 :: r)
def rWant (l : List UInt8) : Option (WantV × List UInt8) := (rTxt l).bind fun t => (rNum 1 t.2).bind fun q => some (⟨t.1, (q.1 : Int)⟩, q.2)
def rCode (l : List UInt8) : Option (Int × List UInt8) := (rNum 1 l).bind fun c => some ((c.1 : Int), c.2)
def readL8 (l : List UInt8) : Option (Pk × List UInt8) := (rNum 2 l).bind fun i => (rAll rWant i.2.length i.2).bind fun w => some ({ zPk 8 with id := (i.1 : Int), wants := w }, [])
def readL9 (l : List UInt8) : Option (Pk × List UInt8) := (rNum 2 l).bind fun i => (rAll rCode i.2.length i.2).bind fun w => some ({ zPk 9 with id := (i.1 : Int), codes := w }, [])
def readL10 (l : List UInt8) : Option (Pk × List UInt8) := (rNum 2 l).bind fun i => (rAll rTxt i.2.length i.2).bind fun w => some ({ zPk 10 with id := (i.1 : Int), filters := w }, [])
def readI (k : Int) (l : List UInt8) : Option (Pk × List UInt8) := (rNum 2 l).bind fun i => some ({ zPk k with id := (i.1 : Int) }, i.2)
def readP (k : Int) (f : Nat) (l : List UInt8) : Option (Pk × List UInt8) :=
 if k = 1 then readC l else if k = 2 then readA l else if k = 3 then readPub f l else if k = 8 then readL8 l else if k = 9 then readL9 l else if k = 10 then readL10 l
 else if 4 <= k /\ k <= 11 then readI k l else some (zPk k, l)
theorem rAll_flat {α : Type} (take : List UInt8 -> Option (α × List UInt8)) (enc : α -> List UInt8) (may : α -> Prop) (h : ∀ x r, may x -> take (enc x ++ r) = some (x, r)) (hne : ∀ x, enc x ≠ []) : ∀ (xs : List α) (n : Nat), (∀ x ∈ xs, may x) -> (xs.flatMap enc).length <= n -> rAll take n (xs.flatMap enc) = some xs
 | [], n, _, _ => by cases n <;> simp [rAll]
 | x :: xs, n, hm, hn => by
  have h0 := List.length_pos_iff.2 (hne x)
  rw [List.flatMap_cons, List.length_append] at hn
  obtain ⟨m, rfl⟩ : ∃ m, n = m + 1 := ⟨n - 1, by omega⟩
  rw [List.flatMap_cons, rAll, if_neg (by simp [hne x]), h x _ (hm x (List.mem_cons_self ..)), Option.bind_some]
  dsimp only
  rw [rAll_flat take enc may h hne xs m (fun y hy => hm y (List.mem_cons_of_mem _ hy)) (by omega), Option.bind_some]
theorem rAll_some {α : Type} (take : List UInt8 -> Option (α × List UInt8)) (enc : α -> List UInt8) (h : ∀ l x r, take l = some (x, r) -> l = enc x ++ r) : ∀ (n : Nat) (l : List UInt8) (xs : List α), rAll take n l = some xs -> l = xs.flatMap enc
 | 0, l, xs, e => by
  unfold rAll at e
  split at e
  ·cases e; assumption
  ·cases e
 | n + 1, l, xs, e => by
  unfold rAll at e
  split at e
  ·cases e; assumption
  ·cases h1 : take l with
   | none => rw [h1] at e; cases e
   | some x =>
    rw [h1, Option.bind_some] at e
    cases h2 : rAll take n x.2 with
    | none => rw [h2] at e; cases e
    | some r =>
     rw [h2, Option.bind_some] at e
     cases e
     rw [List.flatMap_cons, <- rAll_some take enc h n x.2 r h2, <- h l x.1 x.2 h1]
theorem txtB_ne (s : List UInt8) : txtB s ≠ [] := by
 intro h
 have := congrArg List.length h
 rw [txtB, List.length_append, numB_len] at this
 simp at this
theorem numB1_ne (n : Nat) : numB 1 n ≠ [] := by
 intro h
 have := congrArg List.length h
 rw [numB_len] at this
 simp at this
theorem rWant_B {x : WantV} (h : mayWant x = true) (r : List UInt8) : rWant (wantB x ++ r) = some (x, r) := by
 unfold mayWant at h
 simp only [Bool.and_eq_true, within_iff] at h
 have hl : x.filter.length <= 200 := by
  have := h.1
  unfold filterR saidR at this
  simp only [Bool.and_eq_true, decide_eq_true_eq] at this
  exact this.2.1.2
 unfold rWant wantB
 rw [List.append_assoc, rTxt_txtB _ (by omega), Option.bind_some]
 dsimp only
 rw [rNum_numB 1 _ (by have := h.2; omega), Option.bind_some]
 dsimp only
 rw [Int.toNat_of_nonneg h.2.1]
theorem rWant_some {l r : List UInt8} {x : WantV} (h : rWant l = some (x, r)) : l = wantB x ++ r := by
 unfold rWant at h
 cases h1 : rTxt l with
 | none => rw [h1] at h; cases h
 | some t =>
  rw [h1, Option.bind_some] at h
  cases h2 : rNum 1 t.2 with
  | none => rw [h2] at h; cases h
  | some q =>
   rw [h2, Option.bind_some] at h
   cases h
   unfold wantB
   rw [(rTxt_some h1).1, (rNum_some h2).1, List.append_assoc]
   simp
theorem rCode_B {c : Int} (h : mayCode c = true) (r : List UInt8) : rCode (numB 1 c.toNat ++ r) = some (c, r) := by
 unfold mayCode at h
 simp only [Bool.or_eq_true, within_iff, decide_eq_true_eq] at h
 unfold rCode
 rw [rNum_numB 1 _ (by omega), Option.bind_some]
 dsimp only
 rw [Int.toNat_of_nonneg (by omega)]
theorem rCode_some {l r : List UInt8} {c : Int} (h : rCode l = some (c, r)) : l = numB 1 c.toNat ++ r := by
 unfold rCode at h
 cases h1 : rNum 1 l with
 | none => rw [h1] at h; cases h
 | some t =>
  rw [h1, Option.bind_some] at h
  cases h
  rw [(rNum_some h1).1]
  simp
theorem fitL_all {α : Type} {l : List α} {is : α -> Bool} (h : fitL l is = true) : ∀ x ∈ l, is x = true := by
 unfold fitL at h
 simp only [Bool.and_eq_true] at h
 exact List.all_eq_true.1 h.2
end
end Go.Proofs.YtkghejaimhoboaaGreatDoor
