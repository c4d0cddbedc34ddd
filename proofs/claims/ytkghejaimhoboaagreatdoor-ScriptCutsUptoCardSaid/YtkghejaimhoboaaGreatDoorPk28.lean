/- Parts of the proof of ScriptCuts: contracts of functions that it reaches, and plain lemmas. No condition of their own. -/
import Derived.Test.YtkghejaimhoboaaGreatDoorPk27
set_option linter.unusedSimpArgs false
set_option linter.unusedVariables false
set_option maxRecDepth 100000
set_option maxHeartbeats 8000000
namespace Go.Proofs.YtkghejaimhoboaaGreatDoor
open Go.RowKit Go.Shelf
section
attribute [local go_sem] Oper.semAt_some
def WriteDo (C : PkCode) (w0 : World) (x : TnC) : Prop := ∀ c v, kindG c x.t.kind = some v -> ∃ f1 c1 f2 c2 f3 c3 f4 c4, v = .agg #[fnV f1 c1, fnV f2 c2, fnV f3 c3, fnV f4 c4] /\ fnC f3 /\
 ∀ W F p l, Below w0.heap.size w0 W -> Wr W F p l -> l.length <= 65536 -> (∀ b ∈ F, w0.heap.size <= b) -> Calls Tryz.prog f3 (#[.agg #[.pointer (some ⟨p, 0, none⟩)], .agg x.cells.toArray] ++ c3) W (Puts F p l (partB C x.t) W)
theorem LsAt.ints (w : World) (zs : List Int) (T : TypeId) (h : zs.length <= 1000) : LsAt iCl 1 (w.alloc (.cells (zs.map fun z => Value.int .i64 z).toArray T)) (some ⟨w.heap.size, 0, none⟩) zs.length zs.length zs :=
 ⟨rfl, Nat.le_refl _, by unfold maxLen; omega, fun i x hx => ⟨w.heap.size, 0, rfl, by simp, fun j v hj => by
  have hb : Blk (w.alloc (.cells (zs.map fun z => Value.int .i64 z).toArray T)) w.heap.size (zs.map fun z => Value.int .i64 z).toArray T := Blk.new _ _ _
  rw [hb.cell]
  cases j with
  | zero =>
   have : v = .int .i64 x := by simp [iCl] at hj; exact hj.symm
   subst this;simp [hx]
  | succ j => simp [iCl] at hj⟩⟩
def headB (s : Sc) : List UInt8 := (headL s.cf s.pages).flatMap (fun z => numB 2 z.toNat) ++ txtB s.cf.secret
def preB (C : PkCode) (s : Sc) (k : Nat) : List UInt8 := headB s ++ (s.ts.take k).flatMap (turnB C)
theorem preB_all (C : PkCode) (s : Sc) : preB C s s.ts.length = rawS C s := by
 unfold preB headB rawS
 rw [List.take_length, List.append_assoc]
theorem preB_succ (C : PkCode) (s : Sc) (k : Nat) (t : Tn) (h : s.ts[k]? = some t) : preB C s (k + 1) = preB C s k ++ turnB C t := by
 unfold preB
 rw [List.take_add_one, h, List.flatMap_append, List.append_assoc]
 simp
theorem preB_le (C : PkCode) (s : Sc) (k : Nat) : (preB C s k).length <= (rawS C s).length := by
 rw [<- preB_all]
 unfold preB
 rw [List.length_append, List.length_append, List.take_length]
 have : (s.ts.take k).flatMap (turnB C) ++ (s.ts.drop k).flatMap (turnB C) = s.ts.flatMap (turnB C) := by rw [<- List.flatMap_append, List.take_append_drop]
 rw [<- this, List.length_append]
 omega
structure RawE (C : PkCode) (s : Sc) (B : Nat) (w : World) (e : Ending) (w' : World) : Prop where
 below : Below B w w'
 out : ((rawS C s).length <= 65536 /\ ∃ v, e = .returned v /\ w'.ownsRow B 5 1 v (rawS C s).length (bs (rawS C s))) \/ (¬ (rawS C s).length <= 65536 /\ e = .panicked (given 3))
structure RwI (C : PkCode) (s : Sc) (w : World) (p q k : Nat) (W : World) : Prop where
 out : ∃ F, Wr W F p (preB C s k) /\ (∀ b ∈ F, w.heap.size <= b) /\ q ∉ F
 fit : (preB C s k).length <= 65536
 below : Below w.heap.size w W
 box : Blk W q #[.pointer (some ⟨p, 0, none⟩)] 102
theorem look_kd1 {w : World} {m c : Nat} (h : IM .i64 w m (kindG c)) (k : Int) {v : Value} (hv : kindG c k = some v) : (Instr.lookup 73 (.map (some m)) (.int .i64 k) false).run Tryz.prog w = .ok v w := by
 have h1 := run_lookup_im 73 44 71 Tryz.underlying73 Tryz.underlying44 h (.agg zKd) (by kernel_rfl) k false
 rw [hv] at h1
 exact h1
theorem field_kd (f1 f2 f3 f4 : FuncId) (c1 c2 c3 c4 : Array Value) (W : World) : (Instr.field 71 (.agg #[fnV f1 c1, fnV f2 c2, fnV f3 c3, fnV f4 c4]) 2).run Tryz.prog W = .ok (fnV f3 c3) W := by kernel_rfl
theorem kindG_some {c : Nat} {k : Int} (h : 1 <= k /\ k <= 8) : ∃ v, kindG c k = some v := by
 cases e : kindG c k with
 | none => exact absurd h (kindG_none e)
 | some v => exact ⟨v, rfl⟩
theorem sc_raw (C : PkCode) (s : ScC) (w : World) (hs : s.In w) (hr : rightS s.sc) (hk : ∀ x ∈ s.ts, WriteDo C w x) :
  Calls Tryz.prog 32 #[.agg s.cells.toArray] w (RawE C s.sc w.heap.size w) := by
 obtain ⟨sv, hsv⟩ : ∃ sv, s.cells.toArray = sv := ⟨_, rfl⟩
 obtain ⟨W0, hW0⟩ : ∃ W0, w.alloc (.cells sv 30) = W0 := ⟨_, rfl⟩
 have hb0 : Below w.heap.size w W0 := by rw [<- hW0]; exact (Below.refl _ _).alloc (Nat.le_refl _) _
 have b1 : Blk W0 w.heap.size s.cells.toArray 30 := by rw [<- hW0, <- hsv]; exact Blk.new _ _ _
 have hw0 : W0.heap.size = w.heap.size + 1 := by rw [<- hW0]; simp
 have HL := hs.t.len
 have HS := hid hs;have HRt := hid hr;have HB0 := hid hb0;replace hk := hid hk;clear hs hr;rw [hsv]
 replace hsv := hid hsv;go_enter Tryz.func32, Tryz.ntmps32
 replace hw0 := hid hw0;go_upto_region 2 with (go_at_call 79; refine (wire_NewWriter W0).mono ?_; rintro e w1 ⟨rfl, hWr, hb1⟩)
 have hb01 := hb0.trans (hb1.mono hb0.size)
 have hs1 := hb01.size
 have hz1 : W0.heap.size < w1.heap.size := hWr.lt _ (List.mem_singleton.2 rfl)
 have hz0 : w.heap.size < W0.heap.size := by have := hw0.out; omega
 obtain ⟨w2, hw2⟩ : ∃ w2, w1.alloc (.cells #[.pointer (some ⟨W0.heap.size, 0, none⟩)] 102) = w2 := ⟨_, rfl⟩
 have hx2 : Blk w2 w1.heap.size #[.pointer (some ⟨W0.heap.size, 0, none⟩)] 102 := by rw [<- hw2]; exact Blk.new _ _ _
 have hz2 : w2.heap.size = w1.heap.size + 1 := by rw [<- hw2]; simp
 have hb2 : Hid (Below w.heap.size w w2) := hid (by rw [<- hw2]; exact hb01.alloc hs1 _)
 have hWr2 : Hid (Wr w2 [W0.heap.size] W0.heap.size []) := hid (by rw [<- hw2]; exact hWr.alloc _)
 have bx2 : Blk w2 w.heap.size s.cells.toArray 30 := by rw [<- hw2]; exact (b1.below hb1).alloc _
 rw [hw2]
 have m2 := bx2.mid [] s.cf.cl [.int .i64 s.pages, .slice s.ht.a s.ht.n s.ht.c] rfl
 have hF0 : Hid (∀ b ∈ [W0.heap.size], w.heap.size <= b) := hid (fun b hb => by simp at hb; omega)
 obtain ⟨p, hp⟩ : ∃ p, W0.heap.size = p := ⟨_, rfl⟩
 obtain ⟨q, hq⟩ : ∃ q, w1.heap.size = q := ⟨_, rfl⟩
 rw [hp] at hWr2 hx2 hF0 hz1 hz0 ⊢
 rw [hq] at hx2 hz2 hz1 ⊢
 replace hx2 := hid hx2;replace hz2 := hid hz2;clear hb1 hWr hb01 b1 hp hq hs1 hw0 hW0 hw2 hb0
 go_upto_region 3 with (first
  | (refine wLm 27 rfl rfl m2 Tryz.underlying27 ?_)
  | (refine wS 27 7 rfl _ _ s.cf.cl.toArray rfl rfl (Blk.new _ _ _) rfl rfl (by simp [CfV.cl, Value.oneCell']) ?_; intro w3 hw3 hr3))
 have hz3 : w2.heap.size + 1 <= w3.heap.size := by have := hr3.size; simp at this; omega
 have s2 := hb2.out.size
 have hb3 := hid ((hb2.out.alloc s2 _).trans (hr3.below (n₀ := w.heap.size) (by simp; omega) (by simp; omega)))
 have hWr3 := hid ((hWr2.out.alloc _).wrote hr3 (by have := hz2.out; simp; omega))
 have hx3 := (hx2.out.alloc _).keepW hr3 (by have := hz2.out; simp; omega)
 have bx3 := (bx2.alloc _).keepW hr3 (by have := hz2.out; simp; omega)
 have k0 : w3.cell? ⟨w2.heap.size, 0, none⟩ = some (.int .i64 s.cf.window) := hw3.cell 0
 have k1 : w3.cell? ⟨w2.heap.size, 1, none⟩ = some (.int .i64 s.cf.room) := hw3.cell 1
 have k2 : w3.cell? ⟨w2.heap.size, 2, none⟩ = some (.int .i64 s.cf.inbox) := hw3.cell 2
 have k3 : w3.cell? ⟨w2.heap.size, 3, none⟩ = some (.int .i64 s.cf.subs) := hw3.cell 3
 have k4 : w3.cell? ⟨w2.heap.size, 4, none⟩ = some (.int .i64 s.cf.sessions) := hw3.cell 4
 have k5 : w3.cell? ⟨w2.heap.size, 5, none⟩ = some (.int .i64 s.cf.retained) := hw3.cell 5
 have k7 : w3.cell? ⟨w.heap.size, 7, none⟩ = some (.int .i64 s.pages) := bx3.cell 7
 obtain ⟨w4, hw4⟩ : ∃ w4, w3.alloc (.cells #[.int .i64 s.cf.window, .int .i64 s.cf.room, .int .i64 s.cf.inbox, .int .i64 s.cf.subs, .int .i64 s.cf.sessions, .int .i64 s.cf.retained, .int .i64 s.pages] 3) = w4 := ⟨_, rfl⟩
 have hfr : ∀ z ∈ headL s.cf s.pages, 0 <= z /\ z < ((256 ^ 2 : Nat) : Int) := by
  obtain ⟨⟨a1, a2, a3, a4, a5, a6, a7⟩, a8, -, -⟩ := HRt.out
  have e1 : s.sc.cf = s.cf := rfl
  have e2 : s.sc.pages = s.pages := rfl
  rw [e1] at a1 a2 a3 a4 a5 a6 a7
  rw [e2] at a8
  intro z hz
  simp only [headL, List.mem_cons, List.not_mem_nil, or_false] at hz
  have : ((256 ^ 2 : Nat) : Int) = 65536 := rfl
  rw [this]
  rcases hz with rfl | rfl | rfl | rfl | rfl | rfl | rfl <;> omega
 have hb4 : Hid (Below w.heap.size w w4) := hid (by rw [<- hw4]; exact hb3.out.alloc hb3.out.size _)
 have hWr4 : Wr w4 [p] p [] := by rw [<- hw4]; exact hWr3.out.alloc _
 have hx4 : Hid (Blk w4 q #[.pointer (some ⟨p, 0, none⟩)] 102) := hid (by rw [<- hw4]; exact hx3.alloc _)
 have bx4 : Hid (Blk w4 w.heap.size s.cells.toArray 30) := hid (by rw [<- hw4]; exact bx3.alloc _)
 have bc4 : Hid (Blk w4 w2.heap.size s.cf.cl.toArray 27) := hid (by rw [<- hw4]; exact hw3.alloc _)
 have hls : LsAt iCl 1 w4 (some ⟨w3.heap.size, 0, none⟩) 7 7 (headL s.cf s.pages) := by rw [<- hw4]; exact LsAt.ints w3 (headL s.cf s.pages) 3 (by simp [headL])
 have CN := hid (sc_numbers hWr4 (by simp) 2 (by decide) (by decide) (headL s.cf s.pages) hfr (some ⟨w3.heap.size, 0, none⟩) 7 7 hls (fun _ x hx hm => by cases hx; simp at hm; have := hz2.out; omega) (by decide))
 replace hz3 := hid hz3;clear hr3 hls hfr hWr4 bx3 hw3 m2 bx2 s2;go_wp2_with (refine wL 102 rfl rfl hx3 Tryz.underlying102 ?_)
 refine CN.out.mono ?_
 have hhl : Hid (((headL s.cf s.pages).flatMap fun z => numB 2 z.toNat).length <= (rawS C s.sc).length) := hid (by
  have h1 := preB_le C s.sc 0
  unfold preB headB at h1
  rw [List.length_append, List.length_append] at h1
  have e1 : s.sc.cf = s.cf := rfl
  have e2 : s.sc.pages = s.pages := rfl
  rw [e1, e2] at h1
  omega)
 rintro e w5 ⟨F5, hs5, ⟨hf5, rfl, hw5⟩ | ⟨hf5, rfl⟩⟩
 case inr =>
  refine ⟨rfl, hb4.out.trans (hs5.wrote.below (n₀ := w.heap.size) hb4.out.size (by simp; omega)), .inr ⟨fun h => ?_, rfl⟩⟩
  unfold fits at hf5
  rw [decide_eq_false_iff_not, List.length_nil, Nat.zero_add] at hf5
  have := hhl.out
  omega
 have hf5' : ((headL s.cf s.pages).flatMap fun z => numB 2 z.toNat).length <= 65536 := by
  unfold fits at hf5
  rw [decide_eq_true_eq, List.length_nil, Nat.zero_add] at hf5
  exact hf5
 rw [List.nil_append] at hw5
 have hF5 : Hid (∀ b ∈ F5, w.heap.size < b) := hid (fun b hb => by
  have := hb4.out.size
  have := bx4.out.lt
  rcases hs5.sub b hb with h | h
  ·simp at h; omega
  ·omega)
 have hq4 := hx4.out.lt
 have hx5 := hx4.out.keepW hs5.wrote (by have := hz2.out; simp; omega)
 have bx5 := bx4.out.keepW hs5.wrote (by simp; omega)
 have bc5 := bc4.out.keepW hs5.wrote (by have := hz2.out; simp; omega)
 have hb5 := hid (hb4.out.trans (hs5.wrote.below (n₀ := w.heap.size) hb4.out.size (by simp; omega)))
 have hsl : s.cf.secret.length <= 200 := HRt.out.1.2.2.2.2.2.2
 have CT := hid (sc_wtext hw5 hf5' s.cf.secret (by omega))
 have k6 : w5.cell? ⟨w2.heap.size, 6, none⟩ = some (.string ⟨s.cf.secret.toArray⟩) := bc5.cell 6
 have k8 : w5.cell? ⟨w.heap.size, 8, none⟩ = some (.slice s.ht.a s.ht.n s.ht.c) := bx5.cell 8
 have hq5 : Hid (q ∉ F5) := hid (hs5.not (by have := hz2.out; simp; omega) hq4)
 replace hsl := hid hsl;clear hs5 hw5 hf5 hf5' hq4;go_wp2_with (refine wL 102 rfl rfl hx5 Tryz.underlying102 ?_)
 refine CT.out.mono ?_
 have hhl2 : Hid ((headB s.sc).length <= (rawS C s.sc).length) := hid (by
  have h1 := preB_le C s.sc 0
  unfold preB at h1
  rw [List.length_append] at h1
  omega)
 have e1 : Hid (((headL s.cf s.pages).flatMap fun z => numB 2 z.toNat) ++ txtB s.cf.secret = headB s.sc) := hid rfl
 rintro e w6 ⟨F6, hs6, ⟨⟨_, hf6⟩, rfl, hw6⟩ | ⟨hf6, rfl⟩⟩
 case inr =>
  refine ⟨rfl, hb5.out.trans (hs6.wrote.below (n₀ := w.heap.size) hb5.out.size (fun b hb => Nat.le_of_lt (hF5.out b hb))), .inr ⟨fun h => hf6 ⟨by have := hsl.out; omega, ?_⟩, rfl⟩⟩
  unfold fits
  rw [decide_eq_true_eq, <- List.length_append, e1.out]
  have := hhl2.out
  omega
 have hfit0 : Hid ((headB s.sc).length <= 65536) := hid (by
  unfold fits at hf6
  rw [decide_eq_true_eq, <- List.length_append, e1.out] at hf6
  exact hf6)
 rw [e1.out] at hw6
 have hF6 : Hid (∀ b ∈ F6, w.heap.size < b) := hid (fun b hb => by
  have := hb5.out.size
  have := bx5.lt
  rcases hs6.sub b hb with h | h
  ·exact hF5.out b h
  ·omega)
 have hx6 := hx5.keepW hs6.wrote hq5.out
 have hq6 : Hid (q ∉ F6) := hid (hs6.not hq5.out hx5.lt)
 have hb6 := hid (hb5.out.trans (hs6.wrote.below (n₀ := w.heap.size) hb5.out.size (fun b hb => Nat.le_of_lt (hF5.out b hb))))
 have e0 : preB C s.sc 0 = headB s.sc := by
  unfold preB
  simp
 rw [<- e0] at hw6 hfit0
 have hR0 : Hid (RwI C s.sc w p q 0 w6) := hid ⟨⟨F6, hw6, fun b hb => Nat.le_of_lt (hF6.out b hb), hq6.out⟩, hfit0.out, hb6.out, hx6⟩
 have bx6 := bx5.keepW hs6.wrote (fun h => by have := hF5.out _ h; omega)
 have k8' : w6.cell? ⟨w.heap.size, 8, none⟩ = some (.slice s.ht.a s.ht.n s.ht.c) := bx6.cell 8
 obtain ⟨n, hn⟩ : ∃ n, s.ht.n = n := ⟨_, rfl⟩
 obtain ⟨sa, hsa⟩ : ∃ a, s.ht.a = a := ⟨_, rfl⟩
 obtain ⟨sc, hsc⟩ : ∃ c, s.ht.c = c := ⟨_, rfl⟩
 rw [hn, hsa, hsc] at k8'
 have HN := hid (show s.ts.length = n by rw [HL, hn])
 have HS1 := hid (HS.out.t)
 rw [hn, hsa, hsc] at HS1
 have hn2 : n <= 2000 := by have := HRt.out.2.2.1; have e : s.sc.ts.length = s.ts.length := (by unfold ScC.sc; simp); rw [e, HN.out] at this; exact this
 clear hsa hsc hn HL hs6 hw6 hf6 hx6 bx6 hx5 bx5 bc5 k8 k6 e0;go_wp2_with fail
 go_loopw [39] (fun i wr => ∃ k : Nat, i = .int .i64 k /\ k <= n /\ Hid (RwI C s.sc w p q k wr)) (fun i _ => n - (intOf i).toNat)
 case atStart => exact ⟨0, rfl, Nat.zero_le _, hR0⟩
 case round =>
  obtain ⟨k, rfl, hk1, hI⟩ := hrel
  rcases Nat.lt_or_ge k n with hlt | hge
  ·obtain ⟨x, hx⟩ : ∃ x, s.ts[k]? = some x := ⟨_, List.getElem?_eq_getElem (by rw [HN.out]; exact hlt)⟩
   obtain ⟨g1, o1, ha1, hr1⟩ := HS1.out.range hx
   have hc1 := hr1 _ hI.out.below
   subst ha1;have hxm := List.mem_of_getElem? hx
   have hrt : rightT x.t := HRt.out.2.2.2 _ (show x.t ∈ s.ts.map TnC.t from List.mem_map_of_mem hxm)
   have hdo := hid (hk.out x hxm)
   have hst : s.sc.ts[k]? = some x.t := by (show (s.ts.map TnC.t)[k]? = _); rw [List.getElem?_map, hx]; rfl
   have hpre := hid (preB_succ C s.sc k x.t hst)
   have hple := hid (preB_le C s.sc (k + 1))
   have ox := hid (Tn.one x.t x.h x.hp)
   obtain ⟨kd, hkd⟩ : ∃ k, x.t.kind = k := ⟨_, rfl⟩
   obtain ⟨cn, hcn⟩ : ∃ k, x.t.conn = k := ⟨_, rfl⟩
   have hkb := rightT_kind hrt
   have hcb := rightT_conn hrt
   rw [hkd] at hkb
   rw [hcn] at hcb
   have htb : Hid (turnB C x.t = numB 1 kd.toNat ++ (numB 2 cn.toNat ++ partB C x.t)) := hid (by unfold turnB; rw [hkd, hcn])
   obtain ⟨xc, hxc⟩ : ∃ xc, x.cells = xc := ⟨_, rfl⟩
   have sx : xc.toArray.size = 30 := by rw [<- hxc]; rfl
   have ox : Hid (∀ v ∈ xc.toArray.toList, v.oneCell' = true) := hid (by rw [<- hxc]; exact ox.out)
   rw [hxc] at hc1
   replace sx := hid sx;have kc : Hid (∀ W b, Blk W b xc.toArray 55 -> W.cell? ⟨b, 0, none⟩ = some (.int .i64 kd) /\ W.cell? ⟨b, 1, none⟩ = some (.int .i64 cn)) := hid fun W b hb => by rw [hb.cell, hb.cell, <- hxc, <- hkd, <- hcn]; exact ⟨rfl, rfl⟩
   have ix : (Tryz.prog.info? 55).map (·.size) = some xc.toArray.size := by rw [sx.out]; exact (by kernel_rfl : (Tryz.prog.info? 55).map (·.size) = some 30)
   replace hkd := hid hkd;replace hxc := hid hxc;replace hkb := hid hkb;replace hcb := hid hcb;clear hr1 hrt hst hxm hx hcn;have hb0 := hI.out.below.size
   go_upto_region 8 with (first
    | (refine wLm 55 rfl rfl hc1 Tryz.underlying55 ?_ rfl rfl (by rw [<- hxc.out]; kernel_rfl))
    | (refine wS 55 30 rfl _ _ _ rfl rfl (Blk.new _ _ _) sx.out rfl ox.out ?_; intro w7 hw7 hr7))
   obtain ⟨F, hW, hF, hqF⟩ := hI.out.out
   have hF2 : ∀ b ∈ F, b < wr.heap.size := hW.lt
   have hb7 := hid ((hI.out.below.alloc hb0 _).trans (hr7.below (by simp; omega) (by simp; omega)))
   have hW7 := (hW.alloc _).wrote hr7 (fun b hb => by have := hF2 b hb; simp; omega)
   have hx7 := (hI.out.box.alloc _).keepW hr7 (by have := hI.out.box.lt; simp; omega)
   obtain ⟨kk0, -⟩ := kc.out _ _ hw7
   have hs7 := hb7.out.size
   have hlt7 : wr.heap.size < w7.heap.size := hw7.lt
   have hF7 : ∀ b ∈ F, b < w7.heap.size := fun b hb => by have := hF2 b hb; omega
   have C1 := hid (sc_numbers (h := hW7.alloc (.cells #[.int .i64 kd] 3)) hI.out.fit 1 (by decide) (by decide) [kd] (by intro z hz; simp at hz; subst hz; simp; have := hkb.out; omega) (some ⟨w7.heap.size, 0, none⟩) 1 1 (LsAt.one w7 kd 3) (fun _ x hx hm => by cases hx; have := hF7 _ hm; simp at this) (by decide))
   have ht8 := hid (hw7.alloc (.cells #[.int .i64 kd] 3))
   have hx8 := hid (hx7.alloc (.cells #[.int .i64 kd] 3))
   have hb8 := hid (hb7.out.alloc hs7 (.cells #[.int .i64 kd] 3))
   have hqF := hid hqF;have hF := hid hF;have hF2 := hid hF2;clear hW hW7 hr7 hc1 hb7 hw7;go_wp2_with (refine wL 102 rfl rfl hx7 Tryz.underlying102 ?_)
   refine C1.out.mono ?_
   clear C1;rintro e w9 ⟨F9, hs9, hw9⟩
   rw [List.flatMap_cons, List.flatMap_nil, List.append_nil] at hw9
   have hb9 := hid (hb8.out.trans (hs9.wrote.below (n₀ := w.heap.size) hb8.out.size hF.out))
   have hno : Hid (∀ m r, fits (preB C s.sc k) m = false -> turnB C x.t = m ++ r -> ¬ (rawS C s.sc).length <= 65536) := hid (fun m r h1 h2 h3 => by
    have h4 := hple.out
    rw [hpre.out, h2, List.length_append, List.length_append] at h4
    unfold fits at h1
    rw [decide_eq_false_iff_not] at h1
    omega)
   rcases hw9 with ⟨hf9, rfl, hw9⟩ | ⟨hf9, rfl⟩
   case inr => exact ⟨rfl, hb9.out, .inr ⟨hno.out _ _ hf9 htb.out, rfl⟩⟩
   have hF9 : Hid (∀ b ∈ F9, w.heap.size <= b) := hid (fun b hb => by
    rcases hs9.sub b hb with h | h
    ·exact hF.out b h
    ·have := hb8.out.size; omega)
   have ht9 := ht8.out.keepW hs9.wrote (fun h => by have := hF2.out _ h; omega)
   have hx9 := hx8.out.keepW hs9.wrote hqF.out
   have hq9 : Hid (q ∉ F9) := hid (hs9.not hqF.out hx8.out.lt)
   have ht9n : Hid (wr.heap.size ∉ F9) := hid (hs9.not (fun h => by have := hF2.out _ h; omega) ht8.out.lt)
   obtain ⟨-, kk1⟩ := kc.out _ _ ht9
   have hf9' : (preB C s.sc k ++ numB 1 kd.toNat).length <= 65536 := by
    unfold fits at hf9
    rw [decide_eq_true_eq] at hf9
    rw [List.length_append]
    exact hf9
   have hF9l := hw9.lt
   have C2 := hid (sc_numbers (h := hw9.alloc (.cells #[.int .i64 cn] 3)) hf9' 2 (by decide) (by decide) [cn] (by intro z hz; simp at hz; subst hz; have := hcb.out; simp; omega) (some ⟨w9.heap.size, 0, none⟩) 1 1 (LsAt.one w9 cn 3) (fun _ x hx hm => by cases hx; have := hF9l _ hm; simp at this) (by decide))
   have ht10 := hid (ht9.alloc (.cells #[.int .i64 cn] 3))
   have hx10 := hid (hx9.alloc (.cells #[.int .i64 cn] 3))
   have hb10 := hid (hb9.out.alloc hb9.out.size (.cells #[.int .i64 cn] 3))
   replace hf9 := hid hf9;replace hf9' := hid hf9';replace ht9 := hid ht9;clear hw9 hs9 hF9l kk0 hx7;go_wp2_with (refine wL 102 rfl rfl hx9 Tryz.underlying102 ?_)
   refine C2.out.mono ?_
   clear C2;rintro e w11 ⟨F11, hs11, hw11⟩
   rw [List.flatMap_cons, List.flatMap_nil, List.append_nil] at hw11
   have hb11 := hid (hb10.out.trans (hs11.wrote.below (n₀ := w.heap.size) hb10.out.size hF9.out))
   have hfa : Hid (fits (preB C s.sc k) (numB 1 kd.toNat ++ numB 2 cn.toNat) = fits (preB C s.sc k ++ numB 1 kd.toNat) (numB 2 cn.toNat)) := hid (by rw [fits_app, hf9.out, Bool.true_and])
   rcases hw11 with ⟨hf11, rfl, hw11⟩ | ⟨hf11, rfl⟩
   case inr => exact ⟨rfl, hb11.out, .inr ⟨hno.out (numB 1 kd.toNat ++ numB 2 cn.toNat) (partB C x.t) (by rw [hfa.out]; exact hf11) (by rw [htb.out, List.append_assoc]), rfl⟩⟩
   rw [List.append_assoc] at hw11
   have hF11 : Hid (∀ b ∈ F11, w.heap.size <= b) := hid (fun b hb => by
    rcases hs11.sub b hb with h | h
    ·exact hF9.out b h
    ·have := hb10.out.size; omega)
   have ht11 := ht10.out.keepW hs11.wrote ht9n.out
   have hx11 := hx10.out.keepW hs11.wrote hq9.out
   have hq11 : Hid (q ∉ F11) := hid (hs11.not hq9.out hx10.out.lt)
   have hs11n : Hid (wr.heap.size ∉ F11) := hid (hs11.not ht9n.out ht10.out.lt)
   have hfit11 : Hid ((preB C s.sc k ++ (numB 1 kd.toNat ++ numB 2 cn.toNat)).length <= 65536) := hid (by
    rw [<- hfa.out] at hf11
    unfold fits at hf11
    rw [decide_eq_true_eq] at hf11
    rw [List.length_append]
    exact hf11)
   replace hf11 := hid hf11;replace hw11 := hid hw11;clear hs11 kk1 hx9;go_wp2_with fail
   refine regionP [(1000, fun w' => Blk w' wr.heap.size xc.toArray 55), (1000, fun w' => Blk w' q #[.pointer (some ⟨p, 0, none⟩)] 102)] ?_ (by kernel_rfl) ⟨ht11, hx11, trivial⟩ fun KQ hKQ => ?_
   ·intro c a d v w h
    cases d <;> exact h
   try simp only [PT]
   have tD : Blk w11.drew wr.heap.size xc.toArray 55 := ht11
   have xD : Blk w11.drew q #[.pointer (some ⟨p, 0, none⟩)] 102 := hx11
   have bD := hb11.out.drew
   have wD : Hid (Wr w11.drew F11 p _) := hid (hw11.out.below ((Below.refl _ w11).drew))
   have zD : w11.drew.heap.size = w11.heap.size := rfl
   obtain ⟨WD, hWD⟩ : ∃ W, w11.drew = W := ⟨_, rfl⟩
   rw [hWD] at tD xD bD wD ⊢
   refine tQ [1] ?_;refine loadQ 2 rfl (by kernel_rfl) (by kernel_rfl) rfl rfl 0 rfl (by kernel_rfl) (.int .i64 kd) (fun w' hf => by (have k0 := (kc.out _ _ hf).1; go_simp <;> with_reducible rfl)) ?_
   simp only [PT];refine loadQ 5 rfl (by kernel_rfl) (by kernel_rfl) rfl rfl 1 rfl (by kernel_rfl) (.agg #[.pointer (some ⟨p, 0, none⟩)]) (fun w' hf => by (exact run_load_blk hf 102 Tryz.underlying102 rfl (by kernel_rfl))) ?_
   simp only [PT];refine loadQ 6 rfl (by kernel_rfl) (by kernel_rfl) rfl rfl 0 rfl (by kernel_rfl) (.agg xc.toArray) (fun w' hf => by (exact run_load_blk hf 55 Tryz.underlying55 rfl ix)) ?_
   simp only [PT];refine sQ 0 fun K hK => ?_;simp only [GO];go_simp;refine (sc_kinds _).mono ?_
   rintro e w12 ⟨m, c, rfl, hm, hc, hb12⟩
   have ht12 := tD.below hb12
   have hx12 := xD.below hb12
   refine hK _ _ ⟨⟨fun _ => ht12, fun _ => hx12, trivial⟩, ?_⟩
   clear hK K;try simp only [PT]
   refine atR_more [(1000, fun w' => Blk w' wr.heap.size xc.toArray 55), (1000, fun w' => Blk w' q #[.pointer (some ⟨p, 0, none⟩)] 102), (7, fun w' => IM .i64 w' m (kindG c))] (by simp) ⟨fun _ => ht12, fun _ => hx12, fun _ => hm, trivial⟩ ?_
   obtain ⟨v, hv⟩ := kindG_some (c := c) hkb.out
   obtain ⟨f1, c1, f2, c2, f3, c3, f4, c4, hvv, hf3, hwr⟩ := hdo.out c v (by rw [hkd.out]; exact hv)
   refine lookT 3 rfl (by kernel_rfl) (by kernel_rfl) rfl rfl rfl 2 rfl (by kernel_rfl) v (fun w' hf => look_kd1 hf kd hv) ?_
   subst hvv;try simp only [PT]
   refine readQ 4 rfl (by kernel_rfl) (fnV f3 c3) (by kernel_rfl) (fun w' _ => by (have hfl := field_kd f1 f2 f3 f4 c1 c2 c3 c4; go_simp)) ?_
   try simp only [PT]
   have hl12 := hid (bD.trans (hb12.mono bD.size))
   have CW := hwr w12 F11 p _ hl12.out (wD.out.below hb12) hfit11.out hF11.out
   rw [hxc.out] at CW
   unfold fnC at hf3
   clear hwr;refine sQ 7 fun K hK => ?_;simp only [GO];simp only [fnV]
   go_simp;refine CW.mono ?_
   rintro e w13 ⟨F13, hs13, hw13⟩
   have hb13 := hid (hl12.out.trans (hs13.wrote.below (n₀ := w.heap.size) hl12.out.size hF11.out))
   have hfa13 : Hid (fits (preB C s.sc k) (turnB C x.t) = fits (preB C s.sc k ++ (numB 1 kd.toNat ++ numB 2 cn.toNat)) (partB C x.t)) := hid (by rw [htb.out, <- List.append_assoc, fits_app, hfa.out, hf11.out, Bool.true_and])
   rcases hw13 with ⟨hf13, rfl, hw13⟩ | ⟨hf13, rfl⟩
   case inr =>
    refine hKQ.out _ _ _ ?_
    exact ⟨rfl, hb13.out, .inr ⟨hno.out _ [] (by rw [hfa13.out]; exact hf13) (by rw [List.append_nil]), rfl⟩⟩
   have hx13 := hx12.keepW hs13.wrote hq11.out
   have hF13 : ∀ b ∈ F13, w.heap.size <= b := fun b hb => by
    rcases hs13.sub b hb with h | h
    ·exact hF11.out b h
    ·have := hl12.out.size; omega
   have hq13 : q ∉ F13 := hs13.not hq11.out hx12.lt
   rw [List.append_assoc, List.append_assoc, <- htb.out, <- hpre.out] at hw13
   have hfit13 : (preB C s.sc (k + 1)).length <= 65536 := by
    rw [<- hfa13.out] at hf13
    unfold fits at hf13
    rw [decide_eq_true_eq] at hf13
    rw [hpre.out, List.length_append]
    exact hf13
   have HR := hid (show RwI C s.sc w p q (k + 1) w13 from ⟨⟨F13, hw13, hF13, hq13⟩, hfit13, hb13.out, hx13⟩)
   have ht13 := ht12.keepW hs13.wrote (hs11n.out)
   refine hK _ _ ⟨⟨fun _ => ht13, fun _ => hx13, fun h => by simp at h, trivial⟩, ?_⟩
   clear hK K;try simp only [PT]
   refine dQ (hKQ.out _ _ _ ?_)
   clear hKQ KQ;go_wp2_with fail
   go_roundw
   case rel => exact ⟨k + 1, by go_num, by omega, HR⟩
   case measure => simp [intOf]; omega
  ·obtain rfl : k = n := by omega
   obtain ⟨F, hW, hF, hqF⟩ := hI.out.out
   have kq : wr.cell? ⟨q, 0, none⟩ = some (.pointer (some ⟨p, 0, none⟩)) := hI.out.box.cell 0
   have hall : preB C s.sc k = rawS C s.sc := by rw [<- preB_all, show s.sc.ts.length = k by (show (s.ts.map TnC.t).length = k); rw [List.length_map, HN.out]]
   have hfit := hI.out.fit
   rw [hall] at hW hfit
   have CB := hid (wire_Bytes hW hfit)
   replace hfit := hid hfit;replace hF := hid hF;clear hW hall;go_wp2_with fail
   refine CB.out.mono ?_
   rintro e w9 ⟨v, rfl, hv, hb9⟩
   have hs9 := hI.out.below.size
   have H := hid (show RawE C s.sc w.heap.size w (.returned v) w9 from ⟨hI.out.below.trans (hb9.mono hs9), .inl ⟨hfit.out, v, rfl, ownsRow_mono hv hs9⟩⟩)
   clear hv hb9;go_wp2_with fail
   go_ret
   exact H.out
end
section
attribute [local go_sem] Oper.semAt_some
theorem WriteDo.below {C : PkCode} {w0 w1 : World} {x : TnC} (h : WriteDo C w0 x) (hb : Below w0.heap.size w0 w1) : WriteDo C w1 x := fun c v hv => by
 obtain ⟨f1, c1, f2, c2, f3, c3, f4, c4, e, hf, hw⟩ := h c v hv
 refine ⟨f1, c1, f2, c2, f3, c3, f4, c4, e, hf, fun W F p l hB hW hl hF => hw W F p l ?_ hW hl fun b hb' => ?_⟩
 ·exact hb.trans (hB.mono hb.size)
 ·have := hF b hb'; have := hb.size; omega
structure RawR (C : PkCode) (s : Sc) (w : World) (b B : Nat) (o : Option Int) (W : World) : Prop where
 err : Boxed W B 31 (.int .i64 0)
 below : Below w.heap.size w W
 out : (rightS s /\ (rawS C s).length <= 65536 /\ o = none /\ ∃ v, Boxed W b 22 v /\ W.ownsRow w.heap.size 5 1 v (rawS C s).length (bs (rawS C s))) \/
  (rightS s /\ ¬ (rawS C s).length <= 65536 /\ o = some 3 /\ Boxed W b 22 (.slice none 0 0)) \/ (¬ rightS s /\ o = some 2 /\ Boxed W b 22 (.slice none 0 0))
structure RawA (C : PkCode) (s : Sc) (w : World) (e : Ending) (w' : World) : Prop where
 below : Below w.heap.size w w'
 out : (rightS s /\ (rawS C s).length <= 65536 /\ ∃ v, e = .returned (.tuple #[v, .int .i64 0]) /\ w'.ownsRow w.heap.size 5 1 v (rawS C s).length (bs (rawS C s))) \/
  (rightS s /\ ¬ (rawS C s).length <= 65536 /\ e = .returned (.tuple #[.slice none 0 0, .int .i64 3])) \/ (¬ rightS s /\ e = .returned (.tuple #[.slice none 0 0, .int .i64 2]))
theorem ScC.size (s : ScC) : s.cells.toArray.size = 9 := rfl
theorem sc_Raw1 (C : PkCode) (s : ScC) (w0 w : World) (g b : Nat) (hg : Blk w g s.cells.toArray 30) (hb : Boxed w b 22 (.slice none 0 0)) (hw0 : Below w0.heap.size w0 w) (hb0 : w0.heap.size <= b) (hgb : g ≠ b) (B : Nat) (hB : Boxed w B 31 (.int .i64 0)) (hBb : B ≠ b)
  (hs : s.In w) (hT : TzAt w) (hN : NewOK s.cf) (hk : ∀ x ∈ s.ts, KindDo x) (hk2 : rightS s.sc -> ∀ x ∈ s.ts, WriteDo C w x) :
  Calls Tryz.prog 31 #[.pointer (some ⟨g, 0, none⟩), .pointer (some ⟨b, 0, none⟩)] w fun e w' => ∃ o, e = ends o (.tuple #[]) /\ RawR C s.sc w0 b B o w' /\ Boxed w' B 31 (.int .i64 0) := by
 have C1 := hid (sc_right s 2 w hs hT hN hk)
 obtain ⟨sv, hsv⟩ : ∃ sv, s.cells.toArray = sv := ⟨_, rfl⟩
 have is : (Tryz.prog.info? 30).map (·.size) = some sv.size := by rw [<- hsv]; exact (by kernel_rfl : (Tryz.prog.info? 30).map (·.size) = some 9)
 rw [hsv] at hg C1
 replace hsv := hid hsv;have hb' := hid hb;have HG := hid hg;clear hb;go_enter Tryz.func31, Tryz.ntmps31
 go_wp2_with (refine wL 30 rfl rfl hg Tryz.underlying30 ?_ rfl rfl is)
 refine C1.out.mono ?_
 rintro e w1 ⟨r, hr, rfl, hb1⟩
 have hbx1 := boxed_below hb'.out hb1
 have hB1 := hid (boxed_below hB hb1)
 have hg1 := HG.out.below hb1
 have hb01 := hid (hw0.trans (hb1.mono hw0.size))
 cases r with
 | false =>
  have H := hid (show RawR C s.sc w0 b B (some 2) w1 from ⟨hB1.out, hb01.out, .inr (.inr ⟨fun h => by have := hr.2 h; simp at this, rfl, hbx1⟩)⟩)
  exact ⟨rfl, some 2, rfl, H.out, hB1.out⟩
 | true =>
  have hr' : rightS s.sc := by simpa using hr
  have C2 := hid (sc_raw C s w1 (hs.below hb1) hr' (fun x hx => (hk2 hr' x hx).below hb1))
  rw [hsv.out] at C2
  replace hr' := hid hr';replace hbx1 := hid hbx1;clear hb1 hr hg;go_wp2_with (refine wL 30 rfl rfl hg1 Tryz.underlying30 ?_ rfl rfl is)
  refine C2.out.mono ?_
  rintro e w2 ⟨hb2, ho⟩
  have hbx2 := boxed_below hbx1.out hb2
  have hB2 := hid (boxed_below hB1.out hb2)
  have hb02 := hid (hb01.out.trans (hb2.mono hb01.out.size))
  rcases ho with ⟨hl, v, rfl, hv⟩ | ⟨hl, rfl⟩
  ·obtain ⟨av, cv, rfl⟩ := own_slice hv
   have hB3 := hid (show Boxed (w2.setCell ⟨b, 0, none⟩ (.slice av (rawS C s.sc).length cv)) B 31 (.int .i64 0) from hB2.out.other hBb _)
   have H : Hid (RawR C s.sc w0 b B none (w2.setCell ⟨b, 0, none⟩ (.slice av (rawS C s.sc).length cv))) := hid ⟨hB3.out, hb02.out.setCell hb0 _, .inl ⟨hr'.out, hl, rfl, _, hbx2.set _, ownsRow_mono (ownsRow_setCell_below (a := ⟨b, 0, none⟩) hv hbx1.out.lt _) hb01.out.size⟩⟩
   have kf := hbx2.frozen
   have kc := hbx2.cell
   clear hb2 hv;go_wp2
   go_end0
   exact ⟨none, rfl, H.out, hB3.out⟩
  ·have H := hid (show RawR C s.sc w0 b B (some 3) w2 from ⟨hB2.out, hb02.out, .inr (.inl ⟨hr'.out, hl, rfl, hbx2⟩)⟩)
   exact ⟨rfl, some 3, rfl, H.out, hB2.out⟩
theorem sc_Raw (C : PkCode) (s : ScC) (w : World) (hs : s.In w) (hT : TzAt w) (hN : NewOK s.cf) (hk : ∀ x ∈ s.ts, KindDo x) (hk2 : rightS s.sc -> ∀ x ∈ s.ts, WriteDo C w x) :
  Calls Tryz.prog 11 #[.agg s.cells.toArray] w (RawA C s.sc w) := by
 have hmf : ∀ (fn : Fn) (first cap : Array Value) (w : World), (Instr.makeFunc fn first cap).run Tryz.prog w = .ok (.func fn first cap) w := fun _ _ _ _ => rfl
 obtain ⟨sv, hsv⟩ : ∃ sv, s.cells.toArray = sv := ⟨_, rfl⟩
 obtain ⟨W0, hW0⟩ : ∃ W0, w.alloc (.cells sv 30) = W0 := ⟨_, rfl⟩
 have hb0 : Below w.heap.size w W0 := by rw [<- hW0]; exact (Below.refl _ _).alloc (Nat.le_refl _) _
 have hg0 : Blk W0 w.heap.size s.cells.toArray 30 := by rw [<- hW0, <- hsv]; exact Blk.new _ _ _
 have hb1 : Below w.heap.size w (W0.alloc (.cells #[.slice none 0 0] 22)) := hb0.alloc hb0.size _
 have hx1 : Boxed (W0.alloc (.cells #[.slice none 0 0] 22)) W0.heap.size 22 (.slice none 0 0) := Boxed.new _ _ _
 have hg1 : Blk (W0.alloc (.cells #[.slice none 0 0] 22)) w.heap.size s.cells.toArray 30 := hg0.alloc _
 have hw0 := hg0.lt
 have hw1 : (W0.alloc (.cells #[.slice none 0 0] 22)).heap.size = W0.heap.size + 1 := by simp
 obtain ⟨W1, hW1⟩ : ∃ W1, W0.alloc (.cells #[.slice none 0 0] 22) = W1 := ⟨_, rfl⟩
 rw [hW1] at hb1 hx1 hg1 hw1
 obtain ⟨b, hbb⟩ : ∃ b, W0.heap.size = b := ⟨_, rfl⟩
 rw [hbb] at hx1 hw1 hw0
 have he := enters_of Tryz.func31 (by kernel_rfl) rfl
 have C1 := hid (sc_guard 31 #[.pointer (some ⟨w.heap.size, 0, none⟩), .pointer (some ⟨b, 0, none⟩)] (RawR C s.sc w b W1.heap.size) W1 he
  (sc_Raw1 C s w (W1.alloc (.cells #[.int .i64 0] 31)) w.heap.size b (hg1.alloc _) (hx1.alloc _) (hb1.alloc hb1.size _) (by omega) (by omega) W1.heap.size (Boxed.new _ _ _) (by omega)
   (hs.below (hb1.alloc hb1.size _)) (hT.below (hb1.alloc hb1.size _)) hN hk (fun hr x hx => (hk2 hr x hx).below (hb1.alloc hb1.size _))))
 rw [hsv]
 have hb := hid (show w.heap.size <= b by omega)
 replace hw1 := hid hw1;replace hb1 := hid hb1;clear hsv hs hT hN hk hk2 hg0 hg1 hb0 hx1;go_enter Tryz.func11, Tryz.ntmps11
 go_wp2_with fail
 refine C1.out.mono ?_
 rintro e w2 ⟨o, w1, rfl, hR, hb2, hl⟩
 have hsz : (w1.setCell ⟨W1.heap.size, 0, none⟩ (.int .i64 (o.getD 0))).heap.size = w1.heap.size := by simp
 have hBe0 : Below w.heap.size w (w1.setCell ⟨W1.heap.size, 0, none⟩ (.int .i64 (o.getD 0))) := hR.below.setCell (by have := hw1.out; simp; omega) _
 have hBel : Below w.heap.size w w2 := hBe0.trans (hb2.mono hR.below.size)
 have hkeep : ∀ v, Boxed w1 b 22 v -> Boxed w2 b 22 v := fun v h => boxed_below (h.other (show b ≠ W1.heap.size by have := hw1.out; omega) _) (by rw [hsz]; exact hb2)
 obtain ⟨av, nv, cv, hv, hA⟩ : ∃ av nv cv, Boxed w2 b 22 (.slice av nv cv) /\ ∀ w3, Below w.heap.size w w3 -> (∀ n xs, w2.ownsRow w.heap.size 5 1 (.slice av nv cv) n xs -> w3.ownsRow w.heap.size 5 1 (.slice av nv cv) n xs) -> RawA C s.sc w (.returned (.tuple #[.slice av nv cv, .int .i64 (o.getD 0)])) w3 := by
  rcases hR.out with ⟨h1, h2, rfl, v, h3, h4⟩ | ⟨h1, h2, rfl, h3⟩ | ⟨h1, rfl, h3⟩
  ·obtain ⟨av, cv, rfl⟩ := own_slice h4
   refine ⟨_, _, _, hkeep _ h3, fun w3 hb hr => ⟨hb, .inl ⟨h1, h2, _, rfl, hr _ _ ?_⟩⟩⟩
   refine ownsRow_below (ownsRow_setCell_other (a := ⟨W1.heap.size, 0, none⟩) h4 (fun e => ?_) _) (by rw [hsz]; exact hb2)
   exact hR.err.not_row (by decide) h4 e.symm
  ·exact ⟨_, _, _, hkeep _ h3, fun w3 hb hr => ⟨hb, .inr (.inl ⟨h1, h2, rfl⟩)⟩⟩
  ·exact ⟨_, _, _, hkeep _ h3, fun w3 hb hr => ⟨hb, .inr (.inr ⟨h1, rfl⟩)⟩⟩
 obtain ⟨z, hz⟩ : ∃ z, o.getD 0 = z := ⟨_, rfl⟩
 rw [hz] at hA ⊢
 replace hA := hid hA;replace hBel := hid hBel;have kc := hv.cell
 have kf := hv.frozen
 have HV := hid hv;clear hb2 hR hl hsz hkeep hz;go_wp2
 refine bodyPost_ret (results_ct1 Tryz.results11 rfl (v := .slice av nv cv) (x := .int .i64 z) ?_ rfl) rfl ?_
 ·have k2 := (HV.out.set (.slice av nv cv)).cell
  simp [go_sem, k2, loadVar]
 ·refine hA.out _ (hBel.out.setCell hb.out _) fun n xs hr => ownsRow_setCell_other hr (fun e => ?_) _
  exact HV.out.not_row (by decide) hr e.symm
end
section
attribute [local go_sem] Oper.semAt_some
theorem Tryz.eIn : ElemT Tryz.prog 49 3 (.int .i64 0) 1 8 := ⟨Tryz.underlying49, by kernel_rfl, rfl⟩
def rI (k : Nat) (l : List UInt8) : Option (Int × List UInt8) := (rNum k l).bind fun c => some ((c.1 : Int), c.2)
theorem rMany_snoc {α : Type} (take : List UInt8 -> Option (α × List UInt8)) : ∀ (n : Nat) (l : List UInt8), rMany take (n + 1) l = (rMany take n l).bind fun r => (take r.2).bind fun x => some (r.1 ++ [x.1], x.2)
 | 0, l => by simp [rMany]
 | n + 1, l => by
  rw [rMany]
  cases h : take l with
  | none => simp [rMany, h]
  | some x =>
   rw [Option.bind_some, rMany_snoc take n x.2]
   conv => rhs; rw [rMany, h, Option.bind_some]
   cases rMany take n x.2 with
   | none => rfl
   | some r =>
    simp only [Option.bind_some]
    cases take r.2 with
    | none => rfl
    | some y => rfl
theorem rMany_none {α : Type} (take : List UInt8 -> Option (α × List UInt8)) (l : List UInt8) (j : Nat) (h : rMany take j l = none) : ∀ n, j <= n -> rMany take n l = none
 | 0, hn => by obtain rfl : j = 0 := by omega
               exact h
 | n + 1, hn => by
  rcases Nat.lt_or_ge n j with hj | hj
  ·obtain rfl : j = n + 1 := by omega
   exact h
  ·rw [rMany_snoc, rMany_none take l j h n hj]
   rfl
def ivs (xs : List Int) : List Value := xs.map fun z => .int .i64 z
def NumP (k B p : Nat) (l : List UInt8) (w : World) (e : Ending) (w' : World) : Prop :=
 (rNum k l = none /\ e = .panicked (given 390) /\ Wrote [p] w w') \/ ∃ x, rNum k l = some x /\ e = .returned (.int .i64 x.1) /\ Rd w' B p x.2 /\ Wrote [p] w w'
structure TkI (k n B p rb : Nat) (l : List UInt8) (w : World) (j : Nat) (v : Value) (W : World) : Prop where
 out : ∃ xs l', rMany (rI k) j l = some (xs, l') /\ Rd W B p l' /\ W.ownsRow w.heap.size 3 1 v j (ivs xs)
 wrote : Wrote [p] w W
 box : Blk W rb #[.pointer (some ⟨p, 0, none⟩)] 61
structure TkP (k n B p : Nat) (l : List UInt8) (w : World) (e : Ending) (w' : World) : Prop where
 wrote : Wrote [p] w w'
 out : (rMany (rI k) n l = none /\ e = .panicked (given 390)) \/ ∃ xs l' v, rMany (rI k) n l = some (xs, l') /\ e = .returned v /\ Rd w' B p l' /\ w'.ownsRow w.heap.size 3 1 v n (ivs xs)
theorem sc_taken (f : FuncId) (cap : Array Value) (k n B p rb : Nat) (l : List UInt8) (w : World) (hf : fnC f) (hR : Rd w B p l) (hb : Blk w rb #[.pointer (some ⟨p, 0, none⟩)] 61) (hpb : rb ≠ p) (hrb : rb < w.heap.size) (hn : n <= 65536)
  (hc : ∀ W l1, Rd W B p l1 -> Blk W rb #[.pointer (some ⟨p, 0, none⟩)] 61 -> Calls Tryz.prog f cap W (NumP k B p l1 W)) :
  Calls Tryz.prog 21 #[.int .i64 n, .func (.func f) #[] cap] w (TkP k n B p l w) := by
 have H0 := hid (show TkI k n B p rb l w 0 (.slice none 0 0) w from ⟨⟨[], l, rfl, hR, World.ownsRow_nil _ _ _ _⟩, Wrote.refl _ _, hb⟩)
 have hbw := hR.base
 have hpw : p < w.heap.size := by have := hR.lt; omega
 have hc := hid hc;unfold fnC at hf
 clear hR hb;go_enter Tryz.func21, Tryz.ntmps21
 go_wp2_with fail
 go_loopw [5, 7] (fun v i wr => ∃ (j : Nat) (av : Option Addr) (cv : Nat), i = .int .i64 j /\ v = .slice av j cv /\ j <= n /\ Hid (TkI k n B p rb l w j (.slice av j cv) wr)) (fun _ i _ => n - (intOf i).toNat)
 case atStart => exact ⟨0, none, 0, by go_num, rfl, Nat.zero_le _, H0⟩
 case round =>
  obtain ⟨j, av, cv, rfl, rfl, hj, hI⟩ := hrel
  by_cases hlt : j < n
  ·obtain ⟨xs, l', hm, hR, ho⟩ := hI.out.out
   have CC := hid (hc.out wr l' hR hI.out.box)
   have hsn := hid (rMany_snoc (rI k) j l)
   rw [hm] at hsn
   replace ho := hid ho;clear hR hm;have hsz := hI.out.wrote.size
   go_wp2_with fail
   refine CC.out.mono ?_
   rintro e w1 (⟨hx, rfl, hw1⟩ | ⟨x, hx, rfl, hR1, hw1⟩)
   ·have hno : rMany (rI k) n l = none := rMany_none _ _ (j + 1) (by rw [hsn.out, Option.bind_some]; unfold rI; rw [hx]; rfl) n (by omega)
    exact ⟨rfl, hI.out.wrote.trans hw1, .inl ⟨hno, rfl⟩⟩
   ·obtain ⟨z, hz⟩ : ∃ z : Int, z = (x.1 : Int) := ⟨_, rfl⟩
    rw [<- hz]
    have hw : Hid (Wrote [p] w w1) := hid (hI.out.wrote.trans hw1)
    have ho1 : w1.ownsRow w.heap.size 3 1 (.slice av j cv) j (ivs xs) := hw1.row (by simp; have := hpw; omega) ho.out
    have hsz1 := hw.out.size
    have hnx : Hid (rMany (rI k) (j + 1) l = some (xs ++ [z], x.2)) := hid (by rw [hsn.out, Option.bind_some]; unfold rI; rw [hx, hz]; rfl)
    have hb1 := hI.out.box.keepW hw1 (by simpa using hpb)
    have HO := hid ho1;have HR1 := hid hR1;have HB1 := hid hb1;clear hw1 hx hR1 hb1 hz ho;go_wp2_with (at_builtin; refine append_one rfl _ _ rfl Tryz.eIn w.heap.size _ _ _ rfl ho1 (.int .i64 z) rfl rfl (by omega) (by omega) (by omega) ?_; intro v' w4 how4 hg4)
    go_roundw
    case rel =>
     obtain ⟨a4, c4, rfl⟩ := own_slice how4
     have hv : ∀ y ∈ blk (.slice av j cv), w.heap.size <= y := fun y hy => (HO.out.lt y (mem_blk.1 hy)).1
     have hw4 : Wrote (blk (.slice av j cv)) w1 w4 := Wrote.of_grown hg4 (fun q hq => mem_blk.2 hq)
     refine ⟨j + 1, a4, c4, by go_num, rfl, by omega, hid ⟨⟨_, _, hnx.out, ?_, ?_⟩, ?_, ?_⟩⟩
     ·exact HR1.out.wrote hw4 (fun y hy => Nat.le_trans hbw (hv y hy))
     ·have e : ivs (xs ++ [z]) = ivs xs ++ [.int .i64 z] := by simp [ivs]
      rw [e]
      exact how4
     ·exact hw.out.andNew hw4 hv
     ·exact HB1.out.keepW hw4 (fun h => by have := hv _ h; have := hrb; omega)
    case measure => simp [intOf]; omega
  ·obtain rfl : j = n := by omega
   obtain ⟨xs, l', hm, hR, ho⟩ := hI.out.out
   have H := hid (show TkP k j B p l w (.returned (.slice av j cv)) wr from ⟨hI.out.wrote, .inr ⟨xs, l', _, hm, rfl, hR, ho⟩⟩)
   clear hR ho hm;go_wp2
   go_ret
   exact H.out
end
end Go.Proofs.YtkghejaimhoboaaGreatDoor
