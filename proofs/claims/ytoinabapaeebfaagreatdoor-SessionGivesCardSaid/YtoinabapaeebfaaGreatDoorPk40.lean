/- Contracts of package session (part 11): Give of nothing that lasts while off; Anew. · The law's session: setup, known. · SessionGives: the plain law: what was given is said when it begins anew. · Rows of texts. -/
import Derived.Test.YtoinabapaeebfaaGreatDoorPk39
import Derived.Test.YtoinabapaeebfaaGreatDoorPk28
import Derived.Test.YtoinabapaeebfaaGreatDoorPk38
import Derived.Test.YtoinabapaeebfaaGreatDoorPk14
set_option linter.unusedSimpArgs false
set_option linter.unusedVariables false
namespace Go.Proofs.YtoinabapaeebfaaGreatDoor
open Go.RowKit Go.Shelf

set_option maxRecDepth 100000 in
set_option maxHeartbeats 1000000 in
theorem ses_Give_zero {w : World} {B : Nat} {S : XLay} {x : XS} (h : XB w B S x) (topic body : List UInt8) (retain : Bool) (ht : topic.length ≤ 1000000) (hn : nameR topic = true) (hb : (body.length : Int) ≤ 2000) (hoff : x.on = false) :
    Calls Tryz.prog 27 #[.pointer (some ⟨S.p, 0, none⟩), .string ⟨topic.toArray⟩, .string ⟨body.toArray⟩, .int .i64 0, .bool retain] w fun e w' => e = .returned (.tuple #[.agg didZ, .bool false, .int .i64 0]) ∧ Below w.heap.size w w' := by
  have CN := hid fun o => ses_none (h.alloc o)
  have CT := hid fun W => topic_Name topic W (by omega) (anyOK topic (by omega))
  rw [hn] at CT
  have hsz : ByteArray.size ⟨body.toArray⟩ = body.length := by simp [ByteArray.size]
  have e1 : decide (2000 < (body.length : Int)) = false := decide_eq_false (by omega)
  have H := hid h
  have HB0 := hid ((Below.refl w.heap.size w).alloc (Nat.le_refl _) (.cells didZ 53))
  clear h hn hb ht
  go_enter Tryz.func27, Tryz.ntmps27
  go_wp2_with (first
    | (go_at_call 60; refine (CN.out _).mono ?_; rintro e w0 ⟨rfl, rfl⟩)
    | (go_at_call 63; refine (CT.out _).mono ?_; rintro e w1 ⟨rfl, hb1⟩; have hB1 := hid (HB0.out.trans (hb1.mono (by simp))); have hx1 := hid (H.out.below hB1.out).top; have hZ1 := hid ((Blk.new w didZ 53).below hb1); have k8 : w1.cell? ⟨S.p, 8, none⟩ = some (.bool x.on) := hx1.out.box.cell 8; rw [hoff] at k8)
    | (refine wpList_store_blk rfl 53 53 _ _ rfl 2 (fun w => by kernel_rfl) w.heap.size _ didZ rfl rfl hZ1.out rfl rfl (by simp [didZ, Value.oneCell']) ?_; intro w4 hb4 hw4))
  refine bodyPost_ret (results_ctt Tryz.results27 rfl (run_loadVar_blk hb4 53 Tryz.underlying53 rfl (by kernel_rfl)) rfl rfl) rfl ?_
  exact ⟨rfl, hB1.out.trans (hw4.below hB1.out.size (by simp))⟩

set_option maxRecDepth 100000 in
set_option maxHeartbeats 1000000 in
theorem ses_Anew {w : World} {B : Nat} {S : XLay} {x : XS} (h : XB w B S x) :
    Calls Tryz.prog 28 #[.pointer (some ⟨S.p, 0, none⟩)] w fun e w' => ∃ vp vc L', e = .returned (.tuple #[.agg #[vp, vc], .int .i64 0]) ∧
      SDid w w' S { S with o := L' } { x with o := (x.o.again.all.fin x.o.seq x.o.id).s } vp vc (x.o.again.all.fin x.o.seq x.o.id).ps (x.o.again.all.fin x.o.seq x.o.id).cs := by
  have hB := (Below.refl w.heap.size w).alloc (Nat.le_refl _) (.cells didZ 53)
  have hX := hid (h.below hB).top
  have CN := hid (ses_none hX.out)
  have HA := hid (out_Anew hX.out.ob hX.out.nil)
  have k0 : (w.alloc (.cells didZ 53)).cell? ⟨S.p, 0, none⟩ = some (.pointer (some ⟨S.o.p, 0, none⟩)) := hX.out.box.cell 0
  have f1 : w.heap.size ∉ S.foot := h.foot_lt (Nat.le_refl _)
  have hZ := hid (Blk.new w didZ 53)
  have hgl := h.ob.tz.lt
  have hw3 : (x.o.again.all.fin x.o.seq x.o.id).s.window = x.o.window ∧ (x.o.again.all.fin x.o.seq x.o.id).s.room = x.o.room := ⟨(sends_same x.o.again _).2.2.1, (sends_same x.o.again _).2.2.2⟩
  obtain ⟨X2, hX2⟩ : ∃ X2, x.o.again.all.fin x.o.seq x.o.id = X2 := ⟨_, rfl⟩
  rw [hX2] at HA hw3 ⊢
  replace hB := hid hB
  unfold didZ at *
  go_enter Tryz.func28, Tryz.ntmps28
  go_wp2_with (go_at_call 60; refine CN.out.mono ?_; rintro e w0 ⟨rfl, rfl⟩)
  refine HA.out.mono ?_
  rintro e w2 ⟨vp, vc, L', rfl, d⟩
  have D := hX.out.reout d hw3.1 hw3.2
  have hs2 : w.heap.size + 1 ≤ w2.heap.size := by have := d.stp.size; simpa using this
  have f2 : w.heap.size ∉ XLay.foot { S with o := L' } := D.stp.not f1 (by simp)
  have hZ2 := hid (hZ.out.wrote D.stp.wrote f1)
  have o1 := own_one D.packs
  have o2 := own_one D.chgs
  have b1 : ∀ y, (y ∈ blk vp ∨ y ∈ blk vc) → w.heap.size + 1 ≤ y := fun y hy => by
    rcases hy with hy | hy
    · have := (D.packs.lt y (mem_blk.1 hy)).1; simpa using this
    · have := (D.chgs.lt y (mem_blk.1 hy)).1; simpa using this
  replace D := hid D
  clear d
  go_wp2_with (refine wpList_store_blk rfl 53 53 _ _ rfl 2 (fun w => by kernel_rfl) w.heap.size _ #[vp, vc] rfl rfl hZ2.out rfl rfl (by simp [o1, o2]) ?_; intro w4 hb4 hw4)
  refine bodyPost_ret (results_ct1 Tryz.results28 rfl (run_loadVar_blk hb4 53 Tryz.underlying53 rfl (by kernel_rfl)) rfl) rfl ?_
  exact ⟨vp, vc, L', rfl, (D.out.from hB.out).step hw4 (by intro y hy; simp only [List.mem_singleton] at hy; subst hy; exact ⟨f2, fun hh => by have := b1 _ (.inl hh); omega, fun hh => by have := b1 _ (.inr hh); omega⟩) (by simp only [List.mem_singleton]; omega) (by simp)⟩
end Go.Proofs.YtoinabapaeebfaaGreatDoor
namespace Go.Proofs.YtoinabapaeebfaaGreatDoor
open Go.RowKit Go.Shelf

theorem val_20 : Val 4626322717216342016 80 := ⟨2 ^ 52 + 2 ^ 50, -48, by decide, by decide, by
  obtain ⟨E, hE⟩ : ∃ E : Nat, 1026 = E := ⟨_, rfl⟩
  rw [show ((-48 : Int) + 1074).toNat = 1026 from rfl, show (1072 : Nat) = 46 + 1026 from rfl, Nat.pow_add 2 46 1026, hE]
  generalize (2 : Nat) ^ E = p
  show _ = 80 * (2 ^ 46 * p)
  rw [← Nat.mul_assoc]⟩

set_option maxRecDepth 100000 in
set_option maxHeartbeats 400000 in
theorem law_setup (w : World) : Calls Tryz.prog 20 #[] w fun e w' => e = .returned (.agg #[.int .i64 2, .int .i64 5, .int .i64 3, .int .i64 3]) ∧ Below w.heap.size w w' := by
  go_enter Tryz.func20, Tryz.ntmps20
  go_wp2
  go_returns
  exact ⟨rfl, (Below.refl _ w).alloc (Nat.le_refl _) _⟩

def lX0 : XS := XS.new 2 5 3 3 [99]
def lX1 : XS := { lX0 with clean := true, on := true, keep := 10, heard := 5, will := none }
def lX2 : XS := { lX1 with wants := ins lX1.wants [97] 1 }
def lS2 : SS := (lX2.o.put (lX2.o.row [97] [120] 1 false)).start.all.fin (lX2.o.seq + 1) lX2.o.id
def lX3 : XS := { lX2 with o := lS2.s }
theorem lM0 : sessMay (sessV [99] 0 1) = true := by kernel_rfl
theorem lM1 : subMay (lX1.sub [97] 1) = true := by kernel_rfl
theorem lM2 : subMay (lX2.sub [97] 1) = true := by kernel_rfl
theorem lM3 : putMay (lX2.o.row [97] [120] 1 false) = true := by kernel_rfl
theorem lN : nameR [97] = true := by kernel_rfl
theorem lP : lS2.ps = [⟨3, false, false, 1, [97], [120], 1⟩] := by kernel_rfl
theorem lL2 : look lX2.wants [97] = some 1 := by decide

set_option maxRecDepth 100000 in
set_option maxHeartbeats 4000000 in
theorem known23 (w : World) (hT : TzAt w) : Calls Tryz.prog 22 #[] w fun e w' => e = .returned (.bool true) ∧ Below w.heap.size w w' := by
  have CU := hid law_setup
  go_enter Tryz.func22, Tryz.ntmps22
  go_wp2_with fail
  refine (CU.out _).mono ?_
  rintro e wa ⟨rfl, hba⟩
  go_wp2_with fail
  refine (ses_New 2 5 3 3 [99] wa (hT.below hba) (by decide) (by decide) (by decide) (by decide) (by decide) lM0).mono ?_
  rintro e w0 ⟨S0, rfl, hx0, hst0⟩
  have hx0 : Hid (XB w0 w0.heap.size S0 lX0) := hid hx0
  have hst0 : Hid (Stp [] S0.foot w w0) := hid ((Stp.below hba).trans hst0)
  go_wp2_with fail
  refine (ses_On_nil hx0.out true 10 5 (by decide)).mono ?_
  rintro e w1 ⟨rfl, hx1, hst1⟩
  have hst1 := hid (hst0.out.trans hst1)
  obtain ⟨S1, hS1⟩ : ∃ S1, ({ S0 with wv := none } : XLay) = S1 := ⟨_, rfl⟩
  have hp1 : S0.p = S1.p := by rw [← hS1]
  rw [hS1] at hx1 hst1
  rw [hp1]
  have hx1 : Hid (XB w1 w0.heap.size S1 lX1) := hid hx1
  clear hS1 hp1 hst0 hx0
  go_wp2_with fail
  refine (ses_Want_put hx1.out [97] 1 (by decide) lM1 none rfl (.inl ⟨rfl, by decide⟩)).mono ?_
  rintro e w2 ⟨g2, rfl, d2⟩
  have d2 : Hid (SDid w1 w2 S1 S1 lX2 _ _ _ _) := hid d2
  go_wp2_with fail
  have hA : Hid (Blk (w2.alloc (.cells #[.slice none 0 0, .slice (some ⟨g2, 0, none⟩) 1 1] 53)) w2.heap.size #[.slice none 0 0, .slice (some ⟨g2, 0, none⟩) 1 1] 53) := hid (Blk.new w2 _ _)
  have hAn : w2.heap.size ∉ S1.foot := d2.out.xb.foot_lt (Nat.le_refl _)
  have hxA := hid (d2.out.xb.alloc (.cells #[.slice none 0 0, .slice (some ⟨g2, 0, none⟩) 1 1] 53)).top
  have hstA := hid ((hst1.out.trans d2.out.stp).trans (Stp.below ((Below.refl _ w2).alloc (Nat.le_refl _) (.cells #[.slice none 0 0, .slice (some ⟨g2, 0, none⟩) 1 1] 53))))
  refine (ses_Want_same hxA.out [97] 1 (by decide) lM2 lL2).mono ?_
  rintro e w3 ⟨rfl, hb3⟩
  have hA3 := hid (hA.out.below hb3)
  have hx3 := hid ((hxA.out.below hb3).alloc (.cells didZ 53)).top
  have hst3 := hid ((hstA.out.trans (Stp.below hb3)).trans (Stp.below ((Below.refl _ w3).alloc (Nat.le_refl _) (.cells didZ 53))))
  have hBn : w3.heap.size ∉ S1.foot := (hxA.out.below hb3).foot_lt (Nat.le_refl _)
  have hBB : Hid (Blk (w3.alloc (.cells didZ 53)) w3.heap.size didZ 53) := hid (Blk.new w3 _ _)
  have hA3' := hid (hA3.out.alloc (.cells didZ 53))
  clear hA hxA hstA hx1 hst1
  unfold didZ at *
  go_wp2_with fail
  refine (ses_Give_on hx3.out [97] [120] 1 false (by decide) lN (by decide) (by decide) lM3 (by decide) (by decide) rfl).mono ?_
  rintro e w4 ⟨vp, vc, L4, rfl, d4⟩
  have d4 : SDid _ w4 S1 { S1 with o := L4 } lX3 vp vc lS2.ps _ := d4
  rw [lP] at d4
  have hA4 := hid (hA3'.out.wrote d4.stp.wrote hAn)
  have hB4 := hid (hBB.out.wrote d4.stp.wrote hBn)
  have hst4 := hid (hst3.out.trans d4.stp)
  obtain ⟨ac, nc, cc, rfl⟩ : ∃ a n c, vc = .slice a n c := by obtain ⟨a, c, h⟩ := own_slice d4.chgs; exact ⟨_, _, _, h⟩
  obtain ⟨av, cv, rfl⟩ := own_slice d4.packs
  obtain ⟨g4, rfl, hcap4, hrow4⟩ := own_range PackV.cells PackV.len (l := [⟨3, false, false, 1, [97], [120], 1⟩]) (n := [(⟨3, false, false, 1, [97], [120], 1⟩ : PackV)].length) rfl d4.packs (k := 0) rfl
  have hg4 := (d4.packs.lt g4 rfl).2
  have hbody : w4.cell? ⟨g4, 5, none⟩ = some (.string ⟨#[120]⟩) := hrow4 5 _ rfl
  have hx4 := hid d4.xb
  clear hA3 hA3' hBB hx3 hst3 hrow4 d4
  have hx5 := hid ((hx4.out.alloc (.cells #[.slice (some ⟨g4, 0, none⟩) 1 cv, .slice ac nc cc] 53)).top)
  have hC5 : Hid (Blk (w4.alloc (.cells #[.slice (some ⟨g4, 0, none⟩) 1 cv, .slice ac nc cc] 53)) w4.heap.size #[.slice (some ⟨g4, 0, none⟩) 1 cv, .slice ac nc cc] 53) := hid (Blk.new w4 _ _)
  have hA5 := hid (hA4.out.alloc (.cells #[.slice (some ⟨g4, 0, none⟩) 1 cv, .slice ac nc cc] 53))
  have hB5 := hid (hB4.out.alloc (.cells #[.slice (some ⟨g4, 0, none⟩) 1 cv, .slice ac nc cc] 53))
  have hbody5 := cell_alloc hbody (.cells #[.slice (some ⟨g4, 0, none⟩) 1 cv, .slice ac nc cc] 53)
  have hst5 := hid (hst4.out.trans (Stp.below ((Below.refl _ w4).alloc (Nat.le_refl _) (.cells #[.slice (some ⟨g4, 0, none⟩) 1 cv, .slice ac nc cc] 53))))
  go_wp2_with fail
  replace hbody5 := hid hbody5
  refine (ses_Due hx5.out (by decide) (by decide)).mono ?_
  rintro e w6 ⟨b, rfl, hd, hb6⟩
  have hv : Val b 80 := by
    unfold DueB at hd
    rw [if_pos (show lX3.runs = true from rfl)] at hd
    exact hd
  have hord : FloatKind.f64.format.order b 4626322717216342016 = some .eq := (val_order hv val_20).trans rfl
  have hx6 := hid (hx5.out.below hb6)
  clear hd
  go_wp2_with fail
  refine (ses_Late hx6.out (by decide) (by decide) 20 (by decide) (by decide)).mono ?_
  rintro e w7 ⟨rfl, hb7⟩
  have hx7 := hid (hx6.out.below hb7)
  have e20 : (lX3.runs && decide (lX3.due < 4 * (20 : Int).toNat)) = false := by kernel_rfl
  rw [e20]
  go_wp2_with fail
  refine (ses_Late hx7.out (by decide) (by decide) 21 (by decide) (by decide)).mono ?_
  rintro e w8 ⟨rfl, hb8⟩
  have hx8 := hid (hx7.out.below hb8)
  have e21 : (lX3.runs && decide (lX3.due < 4 * (21 : Int).toNat)) = true := by kernel_rfl
  rw [e21]
  have hb58 : Below (w4.alloc (.cells #[.slice (some ⟨g4, 0, none⟩) 1 cv, .slice ac nc cc] 53)).heap.size (w4.alloc (.cells #[.slice (some ⟨g4, 0, none⟩) 1 cv, .slice ac nc cc] 53)) w8 := (hb6.trans (hb7.mono hb6.size)).trans (hb8.mono (Nat.le_trans hb6.size hb7.size))
  have a1 : w8.cell? ⟨w2.heap.size, 1, none⟩ = some (.slice (some ⟨g2, 0, none⟩) 1 1) := (hA5.out.below hb58).cell 1
  have a2 : w8.cell? ⟨w3.heap.size, 1, none⟩ = some (.slice none 0 0) := (hB5.out.below hb58).cell 1
  have a3 : w8.cell? ⟨w4.heap.size, 0, none⟩ = some (.slice (some ⟨g4, 0, none⟩) 1 cv) := (hC5.out.below hb58).cell 0
  have a4 : w8.cell? ⟨g4, 5, none⟩ = some (.string ⟨#[120]⟩) := (hb58.cell (p := ⟨g4, 5, none⟩) (by simp; omega)).trans hbody5.out
  have CC := hid (ses_Client hx8.out)
  have CL := hid (fun W (hb : Below w8.heap.size w8 W) => ses_Clean (hx8.out.below hb))
  have CI := hid (fun W (hb : Below w8.heap.size w8 W) => ses_IsOn (hx8.out.below hb))
  go_wp2_with (first
    | (go_at_call 62; refine CC.out.mono ?_; rintro e w9 ⟨rfl, hb9⟩)
    | (go_at_call 39; refine (CL.out _ hb9).mono ?_; rintro e w10 ⟨rfl, rfl⟩)
    | (go_at_call 38; refine (CI.out _ hb9).mono ?_; rintro e w11 ⟨rfl, rfl⟩))
  go_ret
  have hbw := hst5.out.wrote.below (Nat.le_refl _) (by simp)
  have hbl := hb58.trans (hb9.mono hb58.size)
  exact ⟨rfl, hbw.trans (hbl.mono hbw.size)⟩
end Go.Proofs.YtoinabapaeebfaaGreatDoor
namespace Go.Proofs.YtoinabapaeebfaaGreatDoor
open Go.RowKit Go.Shelf

def gBody (i : Nat) : List UInt8 := [UInt8.ofNat (48 + i)]
def gStep (s : OS × Nat) (q : Int) : OS × Nat := (if 0 < q then s.1.put (s.1.row [116] (gBody s.2) q false) else s.1, s.2 + 1)
def gAll (qs : List Int) : OS × Nat := qs.foldl gStep (⟨[99], 10, 5, 0, 1, []⟩, 0)
def gOS (qs : List Int) : OS := (gAll qs).1
def gWantS (s : List (List UInt8) × Nat) (q : Int) : List (List UInt8) × Nat := (if 0 < q then s.1 ++ [gBody s.2] else s.1, s.2 + 1)
def gWant (qs : List Int) : List (List UInt8) := (qs.foldl gWantS ([], 0)).1
theorem gAll_snoc (qs : List Int) (q : Int) : gAll (qs ++ [q]) = gStep (gAll qs) q := by simp [gAll, List.foldl_append]
theorem gAll_len (qs : List Int) : (gAll qs).2 = qs.length := by
  suffices h : ∀ (qs : List Int) (s : OS × Nat), (qs.foldl gStep s).2 = s.2 + qs.length by simpa [gAll] using h qs (⟨[99], 10, 5, 0, 1, []⟩, 0)
  intro qs
  induction qs with
  | nil => intro s; rfl
  | cons q qs ih => intro s; rw [List.foldl_cons, ih]; simp [gStep]; omega
theorem gWant_len (qs : List Int) : (qs.foldl gWantS ([], 0)).2 = qs.length := by
  suffices h : ∀ (qs : List Int) (s : List (List UInt8) × Nat), (qs.foldl gWantS s).2 = s.2 + qs.length by simpa using h qs ([], 0)
  intro qs
  induction qs with
  | nil => intro s; rfl
  | cons q qs ih => intro s; rw [List.foldl_cons, ih]; simp [gWantS]; omega
theorem gOS_snoc (qs : List Int) (q : Int) : gOS (qs ++ [q]) = if 0 < q then (gOS qs).put ((gOS qs).row [116] (gBody qs.length) q false) else gOS qs := by
  unfold gOS
  rw [gAll_snoc]
  unfold gStep
  rw [gAll_len]
theorem gWant_snoc (qs : List Int) (q : Int) : gWant (qs ++ [q]) = if 0 < q then gWant qs ++ [gBody qs.length] else gWant qs := by
  unfold gWant
  rw [List.foldl_append]
  simp only [List.foldl_cons, List.foldl_nil]
  rw [gWantS, gWant_len]

/-- The packets said, as the law looks at them. -/
def gPacks (qs : List Int) : List PackV := ((gOS qs).again.all.fin (gOS qs).seq (gOS qs).id).ps
def gOK (qs : List Int) : Bool := decide ((gPacks qs).map (fun p => (p.body, p.dup, p.id)) = (gWant qs).mapIdx fun i b => (b, false, (i : Int) + 1))
def gLists : Nat → List (List Int)
  | 0 => [[]]
  | n + 1 => (gLists n).flatMap fun l => [l ++ [0], l ++ [1], l ++ [2]]
theorem gLists_mem : ∀ (n : Nat) (qs : List Int), qs.length = n → (∀ q ∈ qs, q = 0 ∨ q = 1 ∨ q = 2) → qs ∈ gLists n := by
  intro n
  induction n with
  | zero => intro qs h _; simp [gLists, List.eq_nil_of_length_eq_zero h]
  | succ n ih =>
    intro qs h hq
    have hne : qs ≠ [] := by rintro rfl; simp at h
    obtain ⟨l, q, rfl⟩ : ∃ l q, qs = l ++ [q] := ⟨qs.dropLast, qs.getLast hne, (List.dropLast_concat_getLast hne).symm⟩
    simp only [gLists, List.mem_flatMap]
    refine ⟨l, ih l (by simpa using h) (fun x hx => hq x (by simp [hx])), ?_⟩
    rcases hq q (by simp) with rfl | rfl | rfl <;> simp
theorem gOK0 : (gLists 0).all gOK = true := by kernel_rfl
theorem gOK1 : (gLists 1).all gOK = true := by kernel_rfl
theorem gOK2 : (gLists 2).all gOK = true := by kernel_rfl
theorem gOK3 : (gLists 3).all gOK = true := by kernel_rfl
theorem gOK4 : (gLists 4).all gOK = true := by kernel_rfl
theorem gOK5 : (gLists 5).all gOK = true := by kernel_rfl
theorem gives (qs : List Int) (h5 : qs.length ≤ 5) (hq : ∀ q ∈ qs, q = 0 ∨ q = 1 ∨ q = 2) : (gPacks qs).map (fun p => (p.body, p.dup, p.id)) = (gWant qs).mapIdx fun i b => (b, false, (i : Int) + 1) := by
  have hm := gLists_mem qs.length qs rfl hq
  have : gOK qs = true := by
    rcases (by omega : qs.length = 0 ∨ qs.length = 1 ∨ qs.length = 2 ∨ qs.length = 3 ∨ qs.length = 4 ∨ qs.length = 5) with h | h | h | h | h | h <;> rw [h] at hm
    · exact List.all_eq_true.1 gOK0 _ hm
    · exact List.all_eq_true.1 gOK1 _ hm
    · exact List.all_eq_true.1 gOK2 _ hm
    · exact List.all_eq_true.1 gOK3 _ hm
    · exact List.all_eq_true.1 gOK4 _ hm
    · exact List.all_eq_true.1 gOK5 _ hm
  simpa [gOK] using this
theorem gOS_facts (qs : List Int) : (gOS qs).client = [99] ∧ (gOS qs).window = 10 ∧ (gOS qs).room = 5 ∧ (gOS qs).id = 1 ∧ (gOS qs).seq = ((gOS qs).l.length : Int) ∧ (gOS qs).l.length ≤ qs.length := by
  suffices h : ∀ (qs : List Int) (s : OS × Nat), s.1.client = [99] ∧ s.1.window = 10 ∧ s.1.room = 5 ∧ s.1.id = 1 ∧ s.1.seq = (s.1.l.length : Int) →
      (qs.foldl gStep s).1.client = [99] ∧ (qs.foldl gStep s).1.window = 10 ∧ (qs.foldl gStep s).1.room = 5 ∧ (qs.foldl gStep s).1.id = 1 ∧ (qs.foldl gStep s).1.seq = ((qs.foldl gStep s).1.l.length : Int) ∧ (qs.foldl gStep s).1.l.length ≤ s.1.l.length + qs.length by
    have := h qs (⟨[99], 10, 5, 0, 1, []⟩, 0) ⟨rfl, rfl, rfl, rfl, rfl⟩
    simpa [gOS, gAll] using this
  intro qs
  induction qs with
  | nil => intro s h; obtain ⟨h1, h2, h3, h4, h5⟩ := h; exact ⟨h1, h2, h3, h4, h5, by simp⟩
  | cons q qs ih =>
    intro s h
    rw [List.foldl_cons]
    obtain ⟨h1, h2, h3, h4, h5⟩ := h
    have := ih (gStep s q) (by
      unfold gStep
      dsimp only
      split
      · exact ⟨h1, h2, h3, h4, by simp [OS.put, h5]⟩
      · exact ⟨h1, h2, h3, h4, h5⟩)
    refine ⟨this.1, this.2.1, this.2.2.1, this.2.2.2.1, this.2.2.2.2.1, Nat.le_trans this.2.2.2.2.2 ?_⟩
    unfold gStep
    dsimp only
    split <;> simp [OS.put] <;> omega
end Go.Proofs.YtoinabapaeebfaaGreatDoor
namespace Go.Proofs.YtoinabapaeebfaaGreatDoor
open Go.RowKit Go.Shelf

theorem eStr : ElemT Tryz.prog 73 9 (.string ⟨#[]⟩) 1 16 := ⟨Tryz.underlying73, by kernel_rfl, by kernel_rfl⟩
def wStr (b : List UInt8) : Value := .string ⟨b.toArray⟩
end Go.Proofs.YtoinabapaeebfaaGreatDoor
