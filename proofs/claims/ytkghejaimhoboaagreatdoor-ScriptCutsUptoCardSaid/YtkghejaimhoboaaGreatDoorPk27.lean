/- Parts of the proof of ScriptCuts: contracts of functions that it reaches, and plain lemmas. No condition of their own. -/
import Derived.Test.YtkghejaimhoboaaGreatDoorPk25
import Derived.Test.YtkghejaimhoboaaGreatDoorPk26
import Derived.Test.YtkghejaimhoboaaGreatDoorPk14
set_option linter.unusedSimpArgs false
set_option linter.unusedVariables false
set_option maxRecDepth 100000
set_option maxHeartbeats 8000000
namespace Go.Proofs.YtkghejaimhoboaaGreatDoor
open Go.RowKit Go.Shelf
section
attribute [local go_sem] Oper.semAt_some
def fnC (f : FuncId) : Prop := ∀ args W, (callFunc f args).run Tryz.prog W = .ok (.enter f args) W
structure MayHas (c : Nat) (x : TnC) (f1 : FuncId) (c1 : Array Value) (f2 : FuncId) (c2 : Array Value) : Prop where
 e1 : fnC f1
 e2 : fnC f2
 may : ∀ W, x.t.In W x.h x.hp -> Boxed W c 66 (fnV 45 #[]) -> Calls Tryz.prog f1 (#[.agg x.cells.toArray] ++ c1) W (Tells (mayT x.t) W)
 has : ∀ W, Calls Tryz.prog f2 (#[.agg x.cells.toArray] ++ c2) W fun e w' => ∃ y : TnC, e = .returned (.agg y.cells.toArray) /\ { y.t with kind := x.t.kind } = aloneT x.t /\ (∀ W', x.t.In W' x.h x.hp -> y.t.In W' y.h y.hp) /\ Below W.heap.size W w'
def KindDo (x : TnC) : Prop := ∀ c v, kindG c x.t.kind = some v -> ∃ f1 c1 f2 c2 f3 c3 f4 c4, v = .agg #[fnV f1 c1, fnV f2 c2, fnV f3 c3, fnV f4 c4] /\ MayHas c x f1 c1 f2 c2
theorem kindG_none {c : Nat} {k : Int} (h : kindG c k = none) : ¬ (1 <= k /\ k <= 8) := by
 intro ⟨h1, h2⟩
 unfold kindG at h
 have : k = 1 \/ k = 2 \/ k = 3 \/ k = 4 \/ k = 5 \/ k = 6 \/ k = 7 \/ k = 8 := by omega
 rcases this with rfl | rfl | rfl | rfl | rfl | rfl | rfl | rfl <;> simp at h
def NewOK (c : CfV) : Prop := ∀ W, TzAt W -> Calls Tryz.prog 74 #[.agg c.cl.toArray] W fun e w' => ∃ x z, e = .returned (.tuple #[x, .int .i64 z]) /\ (z = 0 ↔ cfOK c) /\ Below W.heap.size W w'
structure Rights (P : Prop) (why : Int) (w : World) (e : Ending) (w' : World) : Prop where
 out : ∃ b : Bool, (b = true ↔ P) /\ e = (if b then .returned (.tuple #[]) else .panicked (given why)) /\ Below w.heap.size w w'
theorem Rights.yes {P : Prop} {why : Int} {w w' : World} (h : P) (hb : Below w.heap.size w w') : Rights P why w (.returned (.tuple #[])) w' := ⟨true, by simpa using h, rfl, hb⟩
theorem Rights.no {P : Prop} {why : Int} {w w' : World} (h : ¬ P) (hb : Below w.heap.size w w') : Rights P why w (.panicked (given why)) w' := ⟨false, by simpa using h, rfl, hb⟩
structure RiI (w : World) (n k : Nat) (s : ScC) (W : World) : Prop where
 below : Below w.heap.size w W
 all : ∀ (j : Nat) x, s.ts[j]? = some x -> j < k -> rightT x.t
 head : cfOK s.cf /\ (2 <= s.pages /\ s.pages <= 4096) /\ n <= 2000
theorem atR_more {P : Program} {ops : Array Oper} {KQ : Exit -> Act -> World -> Prop} {facts : List Fact} {taken : List Nat} {a : Act} {w : World} (more : List Fact) (hs : ∀ f ∈ facts, f ∈ more) (h0 : HoldR taken more w) (h : atR P ops KQ more taken a w) : atR P ops KQ facts taken a w := by
 intro hlt hc hf hp
 have hm : ∀ (fuel : Nat) (listed : Array Bool) (a : Act) (w : World), wpAnyR P .any ops KQ more fuel listed a w -> wpAnyR P .any ops KQ facts fuel listed a w := by
  intro fuel
  induction fuel with
  | zero => intro listed a w h; exact h
  | succ n ih =>
   intro listed a w h
   exact ⟨h.1, fun i hi => wpOp_mono (fun a' w' h' => ⟨fun f hf => h'.1 f (hs f hf), ih _ _ _ h'.2⟩) (h.2 i hi)⟩
 refine hm _ _ _ _ (h hlt hc (fun f hf hl => ?_) hp)
 rw [listedOf_get taken f.1 hlt] at hl
 exact h0.mem f hf hl
structure KAt (w : World) (tb : Nat) (xc : Array Value) (x : TnC) (kb : Nat) (g1 g2 g3 g4 : Value) (is : Bool) (W : World) : Prop where
 below : Below w.heap.size w W
 turn : Blk W tb xc 55
 kind : Blk W kb #[g1, g2, g3, g4] 71
 none : is = false -> ¬ (1 <= x.t.kind /\ x.t.kind <= 8)
 some : is = true -> ∃ c, kindG c x.t.kind = some (.agg #[g1, g2, g3, g4]) /\ Boxed W c 66 (fnV 45 #[])
theorem TnC.setKind (y : TnC) (k : Int) : y.cells.toArray.setIfInBounds 0 (.int .i64 k) = ({ y with t := { y.t with kind := k } } : TnC).cells.toArray := rfl
def zKd : Array Value := #[.nilFunc, .nilFunc, .nilFunc, .nilFunc]
theorem look_kd {w : World} {m c : Nat} (h : IM .i64 w m (kindG c)) (k : Int) : (Instr.lookup 73 (.map (some m)) (.int .i64 k) true).run Tryz.prog w = .ok (.tuple #[(kindG c k).getD (.agg zKd), .bool (kindG c k).isSome]) w :=
 run_lookup_im 73 44 71 Tryz.underlying73 Tryz.underlying44 h (.agg zKd) (by kernel_rfl) k true
theorem kindG_agg (c : Nat) (k : Int) : ∃ g1 g2 g3 g4, (kindG c k).getD (.agg zKd) = .agg #[g1, g2, g3, g4] /\ (∀ v ∈ #[g1, g2, g3, g4].toList, v.oneCell' = true) /\ ((kindG c k).isSome = true -> kindG c k = some (.agg #[g1, g2, g3, g4])) := by
 unfold kindG
 repeat' split
 all_goals exact ⟨_, _, _, _, rfl, by simp [fnV, Value.oneCell'], by simp; try rfl⟩
theorem sc_right (s : ScC) (why : Int) (w : World) (hs : s.In w) (hT : TzAt w) (hN : NewOK s.cf) (hk : ∀ x ∈ s.ts, KindDo x) :
  Calls Tryz.prog 27 #[.agg s.cells.toArray, .int .i64 why] w (Rights (rightS s.sc) why w) := by
 have CM := hid sc_must;obtain ⟨sv, hsv⟩ : ∃ sv, s.cells.toArray = sv := ⟨_, rfl⟩
 obtain ⟨W0, hW0⟩ : ∃ W0, w.alloc (.cells sv 30) = W0 := ⟨_, rfl⟩
 have hb0 : Below w.heap.size w W0 := by rw [<- hW0]; exact (Below.refl _ _).alloc (Nat.le_refl _) _
 have b1 : Blk W0 w.heap.size s.cells.toArray 30 := by rw [<- hW0, <- hsv]; exact Blk.new _ _ _
 have m1 := b1.mid [] s.cf.cl [.int .i64 s.pages, .slice s.ht.a s.ht.n s.ht.c] rfl
 have C1 := hid (hN W0 (hT.below hb0))
 have HL := hs.t.len
 have HS := hid hs;have hb0 := hid hb0;replace hk := hid hk;have HB1 := hid b1;clear hs hN b1
 have HR : Hid (∀ (n : Nat), s.ts.length = n -> ∀ w1, RiI w n n s w1 -> rightS s.sc) := hid fun n hn w1 h => by
  refine ⟨h.head.1, h.head.2.1, ?_, ?_⟩
  ·have := h.head.2.2
   show (s.ts.map TnC.t).length <= 2000
   rw [List.length_map]; omega
  ·intro t ht
   obtain ⟨x, hx, rfl⟩ := List.mem_map.1 (show t ∈ s.ts.map TnC.t from ht)
   obtain ⟨j, hj, e⟩ := List.getElem_of_mem hx
   exact h.all j x (by rw [<- e]; exact List.getElem?_eq_getElem hj) (by omega)
 have HNo : Hid (rightS s.sc -> cfOK s.cf /\ 2 <= s.pages /\ s.pages <= 4096 /\ s.ts.length <= 2000 /\ ∀ x ∈ s.ts, rightT x.t) := hid fun h => ⟨h.1, h.2.1.1, h.2.1.2, by have := h.2.2.1; unfold ScC.sc at this; simpa using this, fun x hx => h.2.2.2 _ (List.mem_map_of_mem hx)⟩
 obtain ⟨Q, hQ⟩ : ∃ Q : Prop, rightS s.sc = Q := ⟨_, rfl⟩
 rw [hQ] at HR HNo ⊢
 clear hQ;rw [hsv]
 replace hsv := hid hsv;go_enter Tryz.func27, Tryz.ntmps27
 go_wp2_with (refine wLm 27 rfl rfl m1 Tryz.underlying27 ?_)
 refine C1.out.mono ?_
 rintro e w1 ⟨x, z, rfl, hz, hb1⟩
 have hB1 := hid (hb0.out.trans (hb1.mono hb0.out.size))
 have bx := HB1.out.below hb1
 have k7 : w1.cell? ⟨w.heap.size, 1 + 6, none⟩ = some (.int .i64 s.pages) := bx.cell 7
 have k8 : w1.cell? ⟨w.heap.size, 8, none⟩ = some (.slice s.ht.a s.ht.n s.ht.c) := bx.cell 8
 have hb1' := hid hb1;clear hb1 m1 bx;have HBX := hid (HB1.out.below hb1'.out)
 have W1 := hB1.out.size
 obtain ⟨p, hp⟩ : ∃ p, s.pages = p := ⟨_, rfl⟩
 obtain ⟨n, hn⟩ : ∃ n, s.ht.n = n := ⟨_, rfl⟩
 rw [hp] at k7
 rw [hn] at k8
 obtain ⟨sa, hsa⟩ : ∃ a, s.ht.a = a := ⟨_, rfl⟩
 obtain ⟨sc, hsc⟩ : ∃ c, s.ht.c = c := ⟨_, rfl⟩
 rw [hsa, hsc] at k8
 have HP := hid hp;have HN := hid (show s.ts.length = n by rw [HL, hn])
 have HS1 := hid (HS.out.t)
 rw [hn, hsa, hsc] at HS1
 clear hsa hsc;clear hp HL;by_cases h0 : z = 0
 ·subst h0
  by_cases h1 : 2 <= p
  ·by_cases h2 : p <= 4096
   ·by_cases h3 : (n : Int) <= 2000
    ·have h3' : n <= 2000 := by omega
     have d3 : decide ((n : Int) <= 2000) = true := decide_eq_true h3
     have hh := hid (show cfOK s.cf /\ (2 <= s.pages /\ s.pages <= 4096) /\ n <= 2000 from ⟨hz.1 rfl, by rw [HP.out]; exact ⟨h1, h2⟩, h3'⟩)
     clear hz hn;go_wp2_with (go_at_call 19; refine (CM.out _ _ _).mono ?_; rintro e w9 ⟨rfl, rfl⟩)
     go_loopw [40] (fun i wr => ∃ k : Nat, i = .int .i64 k /\ k <= n /\ Hid (RiI w n k s wr)) (fun i _ => n - (intOf i).toNat)
     case atStart => exact ⟨0, rfl, Nat.zero_le _, hid ⟨hB1.out, fun j x _ h => absurd h (by omega), hh.out⟩⟩
     case round =>
      obtain ⟨k, rfl, hk1, hI⟩ := hrel
      rcases Nat.lt_or_ge k n with hlt | hge
      ·obtain ⟨x, hx⟩ : ∃ x, s.ts[k]? = some x := ⟨_, List.getElem?_eq_getElem (by rw [HN.out]; exact hlt)⟩
       obtain ⟨g1, o1, ha1, hr1⟩ := HS1.out.range hx
       have hc1 := hr1 _ hI.out.below
       subst ha1;have hxin := hid (HS.out.each x (List.mem_of_getElem? hx))
       have hdo := hid (hk.out x (List.mem_of_getElem? hx))
       have ox := hid (Tn.one x.t x.h x.hp)
       replace hx := hid hx;obtain ⟨xc, hxc⟩ : ∃ xc, x.cells = xc := ⟨_, rfl⟩
       have sx : xc.toArray.size = 30 := by rw [<- hxc]; rfl
       have ox : Hid (∀ v ∈ xc.toArray.toList, v.oneCell' = true) := hid (by rw [<- hxc]; exact ox.out)
       rw [hxc] at hc1
       replace sx := hid sx;clear hr1;have hb0 := hI.out.below.size
       go_upto_region 6 with (first
        | (refine wLm 55 rfl rfl hc1 Tryz.underlying55 ?_ rfl rfl (by rw [<- hxc]; kernel_rfl))
        | (refine wS 55 30 rfl _ _ _ rfl rfl (Blk.new _ _ _) sx.out rfl ox.out ?_; intro w5 hw5 hr5))
       have hb5 := hid ((hI.out.below.alloc hb0 _).trans (hr5.below (by simp; omega) (by simp; omega)))
       have hw5' := hid hw5;clear hr5 hc1;obtain ⟨kd, hkd⟩ : ∃ k, x.t.kind = k := ⟨_, rfl⟩
       have kc : Hid (∀ W, Blk W wr.heap.size xc.toArray 55 -> W.cell? ⟨wr.heap.size, 0, none⟩ = some (.int .i64 kd)) := hid fun W hb => by rw [hb.cell, <- hxc, <- hkd]; rfl
       replace hkd := hid hkd;replace hxc := hid hxc;clear hw5;try simp only [PT]
       go_cut [8, 9] from 44 (fun s8 s9 wx => ∃ (kb : Nat) (g1 g2 g3 g4 : Value) (is : Bool), s8 = .pointer (some ⟨kb, 0, none⟩) /\ s9 = .bool is /\ Hid (KAt w wr.heap.size xc.toArray x kb g1 g2 g3 g4 is wx))
       case first =>
        have BW5 : Below w.heap.size w w5.drew := hb5.out.drew
        have tW5 : Blk w5.drew wr.heap.size xc.toArray 55 := hw5'.out
        refine regionQ [(1000, fun w' => Blk w' wr.heap.size xc.toArray 55)] (by kernel_rfl) ⟨tW5, trivial⟩ fun KQ hKQ => ?_
        try simp only [PT]
        obtain ⟨W5, hW5⟩ : ∃ W, w5.drew = W := ⟨_, rfl⟩
        rw [hW5] at BW5 tW5 ⊢
        refine tQ [1] ?_;refine loadQ 2 rfl (by kernel_rfl) (by kernel_rfl) rfl rfl 0 rfl (by kernel_rfl) (.int .i64 kd) (fun w' hf => by (have k0 := kc.out _ hf; go_simp <;> with_reducible rfl)) ?_
        simp only [PT];refine stepM [0, 7] (fun j hj => ?_)
        have hj : j = 0 \/ j = 7 := by simpa using hj
        rcases hj with rfl | rfl
        ·refine ⟨⟨_, rfl, by kernel_rfl, fun K hK => ?_⟩⟩
         go_simp;refine (sc_kinds _).mono ?_
         rintro e w6 ⟨m, c, rfl, hm, hc, hb6⟩
         have ht6 := tW5.below hb6
         obtain ⟨g1, g2, g3, g4, hg, hone, hsome⟩ := kindG_agg c kd
         have hB6 := BW5.trans (hb6.mono BW5.size)
         refine hK _ _ ⟨⟨fun _ => ht6, trivial⟩, ?_⟩
         clear hK K;try simp only [PT]
         refine atR_more [(1000, fun w' => Blk w' wr.heap.size xc.toArray 55), (1000, fun w' => IM .i64 w' m (kindG c))] (by simp) ⟨fun _ => ht6, fun _ => hm, trivial⟩ ?_
         refine lookQ 3 rfl (by kernel_rfl) (by kernel_rfl) rfl rfl rfl 1 rfl (by kernel_rfl) (.tuple #[.agg #[g1, g2, g3, g4], .bool (kindG c kd).isSome]) (fun w' hf => (look_kd hf kd).trans (by rw [hg])) ?_
         try simp only [PT]
         refine tQ [4, 5, 6] ?_;obtain ⟨is, his⟩ : ∃ b, (kindG c kd).isSome = b := ⟨_, rfl⟩
         rw [his]
         refine sQ 7 fun K hK => ?_;simp only [GO];go_simp;refine hK _ _ ⟨⟨fun _ => ht6.alloc _, fun _ => hm.alloc _, trivial⟩, ?_⟩
         clear hK K;try simp only [PT]
         refine sQ 8 fun K hK => ?_;simp only [GO];refine wW 71 4 rfl w6.heap.size zKd #[g1, g2, g3, g4] rfl rfl (Blk.new _ _ _) rfl rfl hone fun w7 hw7 hr7 => ?_
         replace hr7 : Wrote [w6.heap.size] (w6.alloc (.cells zKd 71)) w7 := hr7
         have hs6 := hB6.size
         have hz6 : (w6.alloc (.cells zKd 71)).heap.size = w6.heap.size + 1 := by simp
         have hb7 := (hB6.alloc hB6.size (.cells zKd 71)).trans (hr7.below (by omega) (by simp; omega))
         have ht7 := (ht6.alloc (.cells zKd 71)).keepW hr7 (by have := ht6.lt; simp; omega)
         have hc7 := hr7.boxed (by have := hc.lt; simp; omega) (hc.alloc (.cells zKd 71))
         have hm7 := (hm.alloc (.cells zKd 71)).wrote hr7 (by have := hm.lt; simp; omega)
         refine hK _ _ ⟨⟨fun _ => ht7, fun _ => hm7, trivial⟩, ?_⟩
         clear hK K;try simp only [PT]
         refine tQ [9] ?_;refine dQ (hKQ.out _ _ ?_);clear hKQ KQ;have hR := hid (show KAt w wr.heap.size xc.toArray x w6.heap.size g1 g2 g3 g4 is w7 from ⟨hb7, ht7, hw7, fun h => kindG_none (by rw [hkd.out]; rw [<- his] at h; exact Option.isSome_eq_false_iff.1 h |> Option.isNone_iff_eq_none.1), fun h => ⟨c, by rw [hkd.out]; exact hsome (by rw [his, h]), hc7⟩⟩)
         go_wp2
         go_meet
         case rel => exact ⟨_, _, _, _, _, _, rfl, rfl, hR⟩
        ·refine ⟨⟨_, rfl, by kernel_rfl, fun K hK => ?_⟩⟩
         go_simp;refine hK _ _ ⟨⟨fun _ => tW5.alloc _, trivial⟩, ?_⟩
         clear hK K;try simp only [PT]
         refine sQ 0 fun K hK => ?_;simp only [GO];go_simp;refine (sc_kinds _).mono ?_
         rintro e w6 ⟨m, c, rfl, hm, hc, hb6⟩
         have ht6 := (tW5.alloc (.cells zKd 71)).below hb6
         have hk6 := (Blk.new W5 zKd 71).below hb6
         obtain ⟨g1, g2, g3, g4, hg, hone, hsome⟩ := kindG_agg c kd
         have hs5 := BW5.size
         have hz5 : (W5.alloc (.cells zKd 71)).heap.size = W5.heap.size + 1 := by simp
         have hB6 := (BW5.alloc hs5 (.cells zKd 71)).trans (hb6.mono (by simp; omega))
         have hb6s : W5.heap.size + 1 <= w6.heap.size := by have := hb6.size; simpa using this
         refine hK _ _ ⟨⟨fun _ => ht6, trivial⟩, ?_⟩
         clear hK K;try simp only [PT]
         refine atR_more [(1000, fun w' => Blk w' wr.heap.size xc.toArray 55), (1000, fun w' => IM .i64 w' m (kindG c))] (by simp) ⟨fun _ => ht6, fun _ => hm, trivial⟩ ?_
         refine lookQ 3 rfl (by kernel_rfl) (by kernel_rfl) rfl rfl rfl 1 rfl (by kernel_rfl) (.tuple #[.agg #[g1, g2, g3, g4], .bool (kindG c kd).isSome]) (fun w' hf => (look_kd hf kd).trans (by rw [hg])) ?_
         try simp only [PT]
         refine tQ [4, 5, 6] ?_;obtain ⟨is, his⟩ : ∃ b, (kindG c kd).isSome = b := ⟨_, rfl⟩
         rw [his]
         refine sQ 8 fun K hK => ?_;simp only [GO]
         have hne : m ≠ W5.heap.size := fun h => by
          obtain ⟨es, cl, h1, -⟩ := hm
          have h2 : w6.heap[W5.heap.size]? = _ := hk6
          rw [h, h2] at h1
          cases h1
         have hnc : c ≠ W5.heap.size := fun h => by
          have h1 : w6.heap[c]? = _ := hc
          have h2 : w6.heap[W5.heap.size]? = _ := hk6
          rw [h, h2] at h1
          cases h1
         refine wW 71 4 rfl W5.heap.size zKd #[g1, g2, g3, g4] rfl rfl hk6 rfl rfl hone fun w7 hw7 hr7 => ?_
         have hb7 := hB6.trans (hr7.below (by have := hB6.size; omega) (by simp; omega))
         have ht7 := ht6.keepW hr7 (by have := tW5.lt; simp; omega)
         have hc7 := hr7.boxed (by simpa using hnc) hc
         have hm7 := hm.wrote hr7 (by simpa using hne)
         refine hK _ _ ⟨⟨fun _ => ht7, fun _ => hm7, trivial⟩, ?_⟩
         clear hK K;try simp only [PT]
         refine tQ [9] ?_;refine dQ (hKQ.out _ _ ?_);clear hKQ KQ;have hR := hid (show KAt w wr.heap.size xc.toArray x W5.heap.size g1 g2 g3 g4 is w7 from ⟨hb7, ht7, hw7, fun h => kindG_none (by rw [hkd.out]; rw [<- his] at h; exact Option.isSome_eq_false_iff.1 h |> Option.isNone_iff_eq_none.1), fun h => ⟨c, by rw [hkd.out]; exact hsome (by rw [his, h]), hc7⟩⟩)
         go_wp2
         go_meet
         case rel => exact ⟨_, _, _, _, _, _, rfl, rfl, hR⟩
       case rest =>
        obtain ⟨kb, g1, g2, g3, g4, is, rfl, rfl, hK⟩ := hcut
        have hnr : Hid (¬ mayT x.t -> ¬ Q) := hid fun h hq => h ((HNo.out hq).2.2.2.2 x (List.mem_of_getElem? hx.out)).1
        have hkr : Hid (¬ (1 <= x.t.kind /\ x.t.kind <= 8) -> ¬ Q) := hid fun h hq => h (rightT_kind ((HNo.out hq).2.2.2.2 x (List.mem_of_getElem? hx.out)))
        have har : Hid (aloneT x.t ≠ x.t -> ¬ Q) := hid fun h hq => h ((HNo.out hq).2.2.2.2 x (List.mem_of_getElem? hx.out)).2
        cases is with
        | false =>
         have hno : Hid (¬ Q) := hid (hkr.out (hK.out.none rfl))
         clear hb5;go_wp2_with (go_at_call 19; refine (CM.out _ _ _).mono ?_; rintro e w9 ⟨rfl, rfl⟩)
         exact ⟨rfl, Rights.no hno.out hK.out.below⟩
        | true =>
         obtain ⟨c, hkg, hbx⟩ := hK.out.some rfl
         obtain ⟨f1, c1, f2, c2, f3, c3, f4, c4, hv, hmh⟩ := hdo.out c _ hkg
         simp only [Value.agg.injEq, Array.mk.injEq, List.cons.injEq, and_true] at hv
         obtain ⟨rfl, rfl, rfl, rfl⟩ := hv
         have k0 : wc.cell? ⟨kb, 0, none⟩ = some (fnV f1 c1) := hK.out.kind.cell 0
         have e1 := hmh.e1
         have e2 := hmh.e2
         unfold fnC at e1 e2
         have tm := hK.out.turn.mid [] xc [] (by simp)
         have ix : (Tryz.prog.info? 55).map (·.size) = some xc.length := by rw [show xc.length = 30 from by simpa using sx.out]; exact (by kernel_rfl : (Tryz.prog.info? 55).map (·.size) = some 30)
         have CY := hid (hmh.may wc (hxin.out.below hK.out.below) hbx)
         rw [hxc.out] at CY
         unfold fnV at k0
         clear hb5
         go_wp2_with (first
          | (refine wLmG 55 rfl rfl tm Tryz.underlying55 ?_ (by kernel_rfl) rfl ix))
         refine CY.out.mono ?_
         rintro e w8 ⟨b, rfl, hb, hb8⟩
         have HB8 := hid (hK.out.below.trans (hb8.mono hK.out.below.size))
         have ht8 := hK.out.turn.below hb8
         have hk8 := hK.out.kind.below hb8
         replace hb := hid hb;clear hb8 tm k0;cases b with
         | false =>
          have hno : Hid (¬ Q) := hid (hnr.out (fun h => by have := hb.out.2 h; cases this))
          go_wp2_with (go_at_call 19; refine (CM.out _ _ _).mono ?_; rintro e w9 ⟨rfl, rfl⟩)
          exact ⟨rfl, Rights.no hno.out HB8.out⟩
         | true =>
          have k1 : w8.cell? ⟨kb, 1, none⟩ = some (fnV f2 c2) := hk8.cell 1
          have CZ := hid (hmh.has w8)
          rw [hxc.out] at CZ
          unfold fnV at k1
          have ix2 : (Tryz.prog.info? 55).map (·.size) = some xc.toArray.size := by rw [sx.out]; exact (by kernel_rfl : (Tryz.prog.info? 55).map (·.size) = some 30)
          clear hK hmh hk8
          go_wp2_with (first
           | (go_at_call 19; refine (CM.out _ _ _).mono ?_; rintro e w9 ⟨rfl, rfl⟩)
           | (refine wL 55 rfl rfl ht8 Tryz.underlying55 ?_ rfl rfl ix2))
          refine CZ.out.mono ?_
          rintro e w9 ⟨y, rfl, hy, hyi, hb9⟩
          have HB9 := hid (HB8.out.trans (hb9.mono HB8.out.size))
          have ht9 := ht8.below hb9
          have oy := hid (Tn.one y.t y.h y.hp)
          have hyk := hid (TnC.setKind y kd)
          obtain ⟨yc, hyc⟩ : ∃ yc, y.cells.toArray = yc := ⟨_, rfl⟩
          have sy : Hid (yc.size = 30) := hid (by rw [<- hyc]; rfl)
          have oy : Hid (∀ v ∈ yc.toList, v.oneCell' = true) := hid (by rw [<- hyc]; exact oy.out)
          rw [hyc] at hyk ⊢
          replace hy := hid hy;replace hyi := hid hyi;replace hyc := hid hyc;have s9 := HB9.out.size
          have HT9 := hid (ht9)
          clear hb9 ht8 k1 ht9;go_upto_region 9 with (refine wS 55 30 rfl _ _ _ rfl rfl (Blk.new _ _ _) sy.out rfl oy.out ?_; intro w10 hw10 hr10)
          have hz10 : w9.heap.size + 1 <= w10.heap.size := by have := hr10.size; simp at this; omega
          have HB10 := hid ((HB9.out.alloc s9 _).trans (hr10.below (by simp; omega) (by simp; omega)))
          have ht10 := (HT9.out.alloc _).keepW hr10 (by have := HT9.out.lt; simp; omega)
          have HT10 := hid ht10;have kk := kc.out _ ht10
          replace hr10 := hid hr10;go_upto_region 10 with (refine wpList_store_cell rfl 44 55 _ _ rfl (fun w => by kernel_rfl) w9.heap.size 0 yc (.int .i64 kd) rfl rfl hw10 (by rw [sy.out]; decide) rfl rfl ?_; intro w11 hw11 hr11)
          rw [hyk.out] at hw11
          obtain ⟨y', hy'⟩ : ∃ y', ({ y with t := { y.t with kind := kd } } : TnC) = y' := ⟨_, rfl⟩
          have et : y'.t = aloneT x.t := by rw [<- hy', <- hkd.out]; exact hy.out
          have ei : ∀ W', x.t.In W' x.h x.hp -> y'.t.In W' y'.h y'.hp := fun W' h => by
           rw [<- hy']
           exact ⟨⟨(hyi.out W' h).pk.lw, (hyi.out W' h).pk.lc, (hyi.out W' h).pk.lf⟩, (hyi.out W' h).p⟩
          rw [hy'] at hw11
          have HB11 := hid (HB10.out.trans (hr11.below (by have := HB10.out.size; omega) (by simp; omega)))
          have ht11 := HT10.out.keepW hr11 (by have := HT9.out.lt; simp; omega)
          have CS := hid (sc_same y' x w11 (ei _ (hxin.out.below HB11.out)) (hxin.out.below HB11.out))
          rw [hxc.out] at CS
          rw [et] at CS
          obtain ⟨yd, hyd⟩ : ∃ yd, y'.cells.toArray = yd := ⟨_, rfl⟩
          have iy : (Tryz.prog.info? 55).map (·.size) = some yd.size := by rw [<- hyd]; exact (by kernel_rfl : (Tryz.prog.info? 55).map (·.size) = some 30)
          rw [hyd] at hw11 CS
          clear hr11 hw10 kk HT10 HB10 hr10 ei et hy' hyd
          go_wp2_with (first
           | (refine wL 55 rfl rfl hw11 Tryz.underlying55 ?_ rfl rfl iy)
           | (refine wL 55 rfl rfl ht11 Tryz.underlying55 ?_ rfl rfl ix2))
          refine CS.out.mono ?_
          rintro e w12 ⟨b, rfl, hb', hb12⟩
          have HB12 := hid (HB11.out.trans (hb12.mono HB11.out.size))
          replace hb' := hid hb';clear hb12 ht11 hw11;cases b with
          | false =>
           have hno : Hid (¬ Q) := hid (har.out (fun h => by have := hb'.out.2 h; cases this))
           go_wp2_with (go_at_call 19; refine (CM.out _ _ _).mono ?_; rintro e w13 ⟨rfl, rfl⟩)
           exact ⟨rfl, Rights.no hno.out HB12.out⟩
          | true =>
           have hr : Hid (rightT x.t) := hid ⟨hb.out.1 (by trivial), hb'.out.1 (by trivial)⟩
           go_wp2_with (go_at_call 19; refine (CM.out _ _ _).mono ?_; rintro e w13 ⟨rfl, rfl⟩)
           go_roundw
           case rel =>
            refine ⟨k + 1, by go_num, by omega, hid ⟨HB12.out, fun j z hz hj => ?_, hI.out.head⟩⟩
            ·by_cases hjk : j = k
             ·subst hjk
              rw [hx.out] at hz
              cases hz
              exact hr.out
             ·exact hI.out.all j z hz (by omega)
           case measure => simp [intOf]; omega
      ·obtain rfl : k = n := by omega
       go_wp2_with fail
       go_end0
       exact Rights.yes (HR.out _ HN.out _ hI.out) hI.out.below
    ·have hno : Hid (¬ Q) := hid fun h => by have := (HNo.out h).2.2.2.1; have := HN.out; omega
     have d3 : decide ((n : Int) <= 2000) = false := decide_eq_false h3
     have d4 : ¬ n <= 2000 := by omega
     clear hz hn;go_wp2_with (go_at_call 19; refine (CM.out _ _ _).mono ?_; rintro e w9 ⟨rfl, rfl⟩)
     exact ⟨rfl, Rights.no hno.out hB1.out⟩
   ·have hno : Hid (¬ Q) := hid fun h => by have := (HNo.out h).2.2.1; rw [HP.out] at this; exact h2 this
    clear hz hn;go_wp2_with (go_at_call 19; refine (CM.out _ _ _).mono ?_; rintro e w9 ⟨rfl, rfl⟩)
    exact ⟨rfl, Rights.no hno.out hB1.out⟩
  ·have hno : Hid (¬ Q) := hid fun h => by have := (HNo.out h).2.1; rw [HP.out] at this; exact h1 this
   clear hz hn;go_wp2_with (go_at_call 19; refine (CM.out _ _ _).mono ?_; rintro e w9 ⟨rfl, rfl⟩)
   exact ⟨rfl, Rights.no hno.out hB1.out⟩
 ·have hno : Hid (¬ Q) := hid fun h => h0 (hz.2 (HNo.out h).1)
  have d0 : (z == 0) = false := by simpa using h0
  clear hz hn;go_wp2_with (go_at_call 19; refine (CM.out _ _ _).mono ?_; rintro e w9 ⟨rfl, rfl⟩)
  exact ⟨rfl, Rights.no hno.out hB1.out⟩
end
section
attribute [local go_sem] Oper.semAt_some
structure Puts (F : List Nat) (p : Nat) (l m : List UInt8) (w : World) (e : Ending) (w' : World) : Prop where
 out : ∃ F', Stp F F' w w' /\ ((fits l m = true /\ e = .returned (.tuple #[]) /\ Wr w' F' p (l ++ m)) \/ (fits l m = false /\ e = .panicked (given 3)))
theorem sc_write12 {w : World} {F : List Nat} {p : Nat} {l : List UInt8} (h : Wr w F p l) (hl : l.length <= 65536) (t : Tn) (h3 : H3) (hp : Hd) (hs : t.bytes.length <= 65535) :
  Calls Tryz.prog 60 #[.agg #[.pointer (some ⟨p, 0, none⟩)], .agg (t.cells h3 hp).toArray] w (Puts F p l (txtB t.bytes) w) := by
 obtain ⟨cs, hcs⟩ : ∃ cs, (t.cells h3 hp).toArray = cs := ⟨_, rfl⟩
 obtain ⟨W0, hW0⟩ : ∃ W0, (w.alloc (.cells #[.pointer (some ⟨p, 0, none⟩)] 102)).alloc (.cells cs 55) = W0 := ⟨_, rfl⟩
 have b1 : Blk W0 w.heap.size #[.pointer (some ⟨p, 0, none⟩)] 102 := by rw [<- hW0]; exact (Blk.new _ _ _).alloc _
 have b2 : Blk W0 (w.heap.size + 1) cs 55 := by
  rw [<- hW0]
  have := Blk.new (w.alloc (.cells #[.pointer (some ⟨p, 0, none⟩)] 102)) cs 55
  simpa using this
 have B0 : Below w.heap.size w W0 := by rw [<- hW0]; exact ((Below.refl _ _).alloc (Nat.le_refl _) _).alloc (by simp) _
 have k26 : W0.cell? ⟨w.heap.size + 1, 26, none⟩ = some (.string ⟨t.bytes.toArray⟩) := by rw [b2.cell, <- hcs]; rfl
 have CT := hid (sc_wtext (h.below B0) hl t.bytes (by omega))
 have S0 := hid (Stp.below (F := F) B0)
 have hs' := hid hs;rw [hcs]
 clear hcs b2 hs B0;replace hl := hid hl;go_enter Tryz.func60, Tryz.ntmps60
 go_wp2_with (refine wL 102 rfl rfl b1 Tryz.underlying102 ?_)
 refine CT.out.mono ?_
 rintro e w1 ⟨F1, hs1, ⟨⟨_, hf⟩, rfl, hw1⟩ | ⟨hf, rfl⟩⟩
 ·have H := hid (show Puts F p l (txtB t.bytes) w (.returned (.tuple #[])) w1 from ⟨F1, S0.out.trans hs1, .inl ⟨hf, rfl, hw1⟩⟩)
  clear hs1 hf hw1;go_wp2_with fail
  go_end0
  exact H.out
 ·refine ⟨rfl, ⟨F1, S0.out.trans hs1, .inr ⟨?_, rfl⟩⟩⟩
  cases hx : fits l (txtB t.bytes) with
  | false => rfl
  | true => exact absurd ⟨hs'.out, hx⟩ hf
theorem fits_app (l a b : List UInt8) : fits l (a ++ b) = (fits l a && fits (l ++ a) b) := by
 unfold fits
 rw [Bool.eq_iff_iff]
 simp only [decide_eq_true_eq, Bool.and_eq_true, List.length_append]
 omega
theorem sc_write16 {w : World} {F : List Nat} {p : Nat} {l : List UInt8} (h : Wr w F p l) (hl : l.length <= 65536) (t : Tn) (h3 : H3) (hp : Hd) (ha : 0 <= t.arm /\ t.arm <= 2) (hn : -1 <= t.n /\ t.n < 65535) :
  Calls Tryz.prog 64 #[.agg #[.pointer (some ⟨p, 0, none⟩)], .agg (t.cells h3 hp).toArray] w (Puts F p l (numB 1 t.arm.toNat ++ numB 2 (t.n + 1).toNat) w) := by
 obtain ⟨cs, hcs⟩ : ∃ cs, (t.cells h3 hp).toArray = cs := ⟨_, rfl⟩
 obtain ⟨W0, hW0⟩ : ∃ W0, (w.alloc (.cells #[.pointer (some ⟨p, 0, none⟩)] 102)).alloc (.cells cs 55) = W0 := ⟨_, rfl⟩
 have b1 : Blk W0 w.heap.size #[.pointer (some ⟨p, 0, none⟩)] 102 := by rw [<- hW0]; exact (Blk.new _ _ _).alloc _
 have b2 : Blk W0 (w.heap.size + 1) cs 55 := by
  rw [<- hW0]
  have := Blk.new (w.alloc (.cells #[.pointer (some ⟨p, 0, none⟩)] 102)) cs 55
  simpa using this
 have B0 : Below w.heap.size w W0 := by rw [<- hW0]; exact ((Below.refl _ _).alloc (Nat.le_refl _) _).alloc (by simp) _
 have k27 : W0.cell? ⟨w.heap.size + 1, 27, none⟩ = some (.int .i64 t.arm) := by rw [b2.cell, <- hcs]; rfl
 have hF := h.lt
 have hs0 := B0.size
 obtain ⟨za, hza⟩ : ∃ z, t.arm = z := ⟨_, rfl⟩
 obtain ⟨zn, hzn⟩ : ∃ z, t.n = z := ⟨_, rfl⟩
 have kn : Hid (∀ W, Blk W (w.heap.size + 1) cs 55 -> W.cell? ⟨w.heap.size + 1, 28, none⟩ = some (.int .i64 zn)) := hid fun W hb => by rw [hb.cell, <- hcs, <- hzn]; rfl
 rw [hza] at k27 ha ⊢
 rw [hzn] at hn ⊢
 have C1 := hid (sc_numbers (h := (h.below B0).alloc (.cells #[.int .i64 za] 3)) hl 1 (by decide) (by decide) [za] (by intro z hz; simp at hz; subst hz; simp; omega) (some ⟨W0.heap.size, 0, none⟩) 1 1 (LsAt.one W0 za 3) (fun _ x hx hm => by cases hx; have := hF _ hm; simp at this; omega) (by decide))
 have S0 := hid (Stp.below (F := F) (B0.alloc hs0 (.cells #[.int .i64 za] 3)))
 have HB1 := hid (b1.alloc (.cells #[.int .i64 za] 3))
 have HB2 := hid (b2.alloc (.cells #[.int .i64 za] 3))
 have hF := hid hF;rw [hcs]
 clear hcs hza hzn;have ha := hid ha;replace hl := hid hl;go_enter Tryz.func64, Tryz.ntmps64
 go_wp2_with (refine wL 102 rfl rfl b1 Tryz.underlying102 ?_)
 refine C1.out.mono ?_
 rintro e w1 ⟨F1, hs1, ⟨hf1, rfl, hw1⟩ | ⟨hf1, rfl⟩⟩
 ·have hf1' : fits l (numB 1 za.toNat) = true := by simpa using hf1
  have hw1' : Wr w1 F1 p (l ++ numB 1 za.toNat) := by simpa using hw1
  have hl1 : (l ++ numB 1 za.toNat).length <= 65536 := by
   unfold fits at hf1'
   rw [decide_eq_true_eq] at hf1'
   rw [List.length_append]
   exact hf1'
  have b11 := HB1.out.keepW hs1.wrote (fun hx => by have := hF.out _ hx; omega)
  have b21 := HB2.out.keepW hs1.wrote (fun hx => by have := hF.out _ hx; omega)
  have k28 := kn.out w1 b21
  have C2 := hid (sc_numbers (h := hw1'.alloc (.cells #[.int .i64 (zn + 1)] 3)) hl1 2 (by decide) (by decide) [zn + 1] (by intro z hz; simp at hz; subst hz; simp; omega) (some ⟨w1.heap.size, 0, none⟩) 1 1 (LsAt.one w1 (zn + 1) 3) (fun _ x hx hm => by cases hx; have := hw1'.lt _ hm; simp at this) (by decide))
  have S1 := hid (S0.out.trans (hs1.trans (Stp.below (F := F1) ((Below.refl w1.heap.size w1).alloc (Nat.le_refl _) (.cells #[.int .i64 (zn + 1)] 3)))))
  have HF1 := hid hf1';have hz1 : -9223372036854775808 <= zn + 1 := by omega
  have hz2 : zn + 1 <= 9223372036854775807 := by omega
  clear hf1 hw1 hf1' hw1' hl1 b1 b2 b21 hs1 hn k27;go_wp2_with (refine wL 102 rfl rfl b11 Tryz.underlying102 ?_)
  refine C2.out.mono ?_
  rintro e w2 ⟨F2, hs2, ⟨hf2, rfl, hw2⟩ | ⟨hf2, rfl⟩⟩
  ·have H := hid (show Puts F p l (numB 1 za.toNat ++ numB 2 (zn + 1).toNat) w (.returned (.tuple #[])) w2 from ⟨F2, S1.out.trans hs2, .inl ⟨by
    rw [fits_app, HF1.out, Bool.true_and]
    simpa using hf2, rfl, by simpa using hw2⟩⟩)
   clear hs2 hf2 hw2;go_wp2_with fail
   go_end0
   exact H.out
  ·refine ⟨rfl, ⟨F2, S1.out.trans hs2, .inr ⟨?_, rfl⟩⟩⟩
   rw [fits_app, HF1.out, Bool.true_and]
   simpa using hf2
 ·refine ⟨rfl, ⟨F1, S0.out.trans hs1, .inr ⟨?_, rfl⟩⟩⟩
  rw [fits_app]
  have h7 : fits l (numB 1 za.toNat) = false := by simpa using hf1
  rw [h7, Bool.false_and]
theorem LsAt.wrote {α : Type} {f : α -> List Value} {size : Nat} {w w' : World} {a : Option Addr} {n cap : Nat} {xs : List α} (h : LsAt f size w a n cap xs) {M : List Nat} (hw : Wrote M w w') (hM : xs ≠ [] -> ∀ x, a = some x -> x.block ∉ M) : LsAt f size w' a n cap xs :=
 ⟨h.len, h.le, h.max, fun i x hx => by
  obtain ⟨g, off, ha, hg, hr⟩ := h.at' i x hx
  refine ⟨g, off, ha, Nat.lt_of_lt_of_le hg hw.size, fun j v hj => ?_⟩
  rw [<- hr j v hj]
  unfold World.cell?
  rw [hw.block g hg (hM (by rintro rfl; simp at hx) _ ha)]⟩
theorem sc_write20 {w : World} {F : List Nat} {p : Nat} {l : List UInt8} (h : Wr w F p l) (hl : l.length <= 65536) (t : Tn) (h3 : H3) (hp : Hd) (hi : LsAt iCl 1 w hp.a hp.n hp.c t.picks) (hif : t.picks ≠ [] -> ∀ x, hp.a = some x -> x.block ∉ F) (ha : t.picks.length <= 255) (hn : ∀ z ∈ t.picks, 0 <= z /\ z <= 255) :
  Calls Tryz.prog 71 #[.agg #[.pointer (some ⟨p, 0, none⟩)], .agg (t.cells h3 hp).toArray] w (Puts F p l (numB 1 t.picks.length ++ t.picks.flatMap fun z => numB 1 z.toNat) w) := by
 obtain ⟨cs, hcs⟩ : ∃ cs, (t.cells h3 hp).toArray = cs := ⟨_, rfl⟩
 obtain ⟨W0, hW0⟩ : ∃ W0, (w.alloc (.cells #[.pointer (some ⟨p, 0, none⟩)] 102)).alloc (.cells cs 55) = W0 := ⟨_, rfl⟩
 have b1 : Blk W0 w.heap.size #[.pointer (some ⟨p, 0, none⟩)] 102 := by rw [<- hW0]; exact (Blk.new _ _ _).alloc _
 have b2 : Blk W0 (w.heap.size + 1) cs 55 := by
  rw [<- hW0]
  have := Blk.new (w.alloc (.cells #[.pointer (some ⟨p, 0, none⟩)] 102)) cs 55
  simpa using this
 have B0 : Below w.heap.size w W0 := by rw [<- hW0]; exact ((Below.refl _ _).alloc (Nat.le_refl _) _).alloc (by simp) _
 have k29 : W0.cell? ⟨w.heap.size + 1, 29, none⟩ = some (.slice hp.a hp.n hp.c) := by rw [b2.cell, <- hcs]; rfl
 have kn : Hid (∀ W, Blk W (w.heap.size + 1) cs 55 -> W.cell? ⟨w.heap.size + 1, 29, none⟩ = some (.slice hp.a hp.n hp.c)) := hid fun W hb => by rw [hb.cell, <- hcs]; rfl
 have hF := h.lt
 have hs0 := B0.size
 have hln := hi.len
 rw [hln] at ha ⊢
 obtain ⟨za, hza⟩ : ∃ z : Int, z = (hp.n : Int) := ⟨_, rfl⟩
 have C1 := sc_numbers (h := (h.below B0).alloc (.cells #[.int .i64 za] 3)) hl 1 (by decide) (by decide) [za] (by intro z hz; simp at hz; subst hz; simp; omega) (some ⟨W0.heap.size, 0, none⟩) 1 1 (LsAt.one W0 za 3) (fun _ x hx hm => by cases hx; have := hF _ hm; simp at this; omega) (by decide)
 rw [hza] at C1
 replace C1 := hid C1;have S0 := hid (Stp.below (F := F) (B0.alloc hs0 (.cells #[.int .i64 (hp.n : Int)] 3)))
 have HB1 := hid (b1.alloc (.cells #[.int .i64 (hp.n : Int)] 3))
 have HB2 := hid (b2.alloc (.cells #[.int .i64 (hp.n : Int)] 3))
 have HI := hid ((hi.below B0).below ((Below.refl _ _).alloc (Nat.le_refl _) (.cells #[.int .i64 (hp.n : Int)] 3)))
 have hF := hid hF;have hif := hid hif;rw [hcs]
 clear hcs hza;replace ha := hid ha;replace hl := hid hl;replace hn := hid hn;go_enter Tryz.func71, Tryz.ntmps71
 go_wp2_with (refine wL 102 rfl rfl b1 Tryz.underlying102 ?_)
 refine C1.out.mono ?_
 rintro e w1 ⟨F1, hs1, ⟨hf1, rfl, hw1⟩ | ⟨hf1, rfl⟩⟩
 ·have hf1' : fits l (numB 1 hp.n) = true := by simpa using hf1
  have hw1' : Wr w1 F1 p (l ++ numB 1 hp.n) := by simpa using hw1
  have hl1 : (l ++ numB 1 hp.n).length <= 65536 := by
   unfold fits at hf1'
   rw [decide_eq_true_eq] at hf1'
   rw [List.length_append]
   exact hf1'
  have b11 := HB1.out.keepW hs1.wrote (fun hx => by have := hF.out _ hx; omega)
  have b21 := HB2.out.keepW hs1.wrote (fun hx => by have := hF.out _ hx; omega)
  have k29' := kn.out w1 b21
  have hif1 : t.picks ≠ [] -> ∀ x, hp.a = some x -> x.block ∉ F1 := fun hne x hx => by
   obtain ⟨y, hy⟩ : ∃ y, t.picks[0]? = some y := ⟨_, List.getElem?_eq_getElem (List.length_pos_iff.2 hne)⟩
   obtain ⟨g, off, e, hg, -⟩ := HI.out.at' 0 y hy
   rw [hx] at e
   cases e
   exact hs1.not (hif.out hne _ hx) hg
  have C2 := hid (sc_numbers (h := hw1') hl1 1 (by decide) (by decide) t.picks (fun z hz => by have := hn.out z hz; simp; omega) hp.a hp.n hp.c (HI.out.wrote hs1.wrote hif.out) hif1 (by have := ha.out; omega))
  have S1 := hid (S0.out.trans hs1)
  have HF1 := hid hf1';clear hf1 hw1 hf1' hw1' hl1 b1 b2 b21 hs1 k29;go_wp2_with (refine wL 102 rfl rfl b11 Tryz.underlying102 ?_)
  refine C2.out.mono ?_
  rintro e w2 ⟨F2, hs2, ⟨hf2, rfl, hw2⟩ | ⟨hf2, rfl⟩⟩
  ·have H := hid (show Puts F p l (numB 1 hp.n ++ t.picks.flatMap fun z => numB 1 z.toNat) w (.returned (.tuple #[])) w2 from ⟨F2, S1.out.trans hs2, .inl ⟨by
    rw [fits_app, HF1.out, Bool.true_and]
    exact hf2, rfl, by rw [<- List.append_assoc]; exact hw2⟩⟩)
   clear hs2 hf2 hw2;go_wp2_with fail
   go_end0
   exact H.out
  ·refine ⟨rfl, ⟨F2, S1.out.trans hs2, .inr ⟨?_, rfl⟩⟩⟩
   rw [fits_app, HF1.out, Bool.true_and]
   exact hf2
 ·refine ⟨rfl, ⟨F1, S0.out.trans hs1, .inr ⟨?_, rfl⟩⟩⟩
  rw [fits_app]
  have h7 : fits l (numB 1 hp.n) = false := by simpa using hf1
  rw [h7, Bool.false_and]
end
end Go.Proofs.YtkghejaimhoboaaGreatDoor
