/- Parts of the proof of ScriptCuts: contracts of functions that it reaches, and plain lemmas. No condition of their own. -/
import Derived.Test.YtkghejaimhoboaaGreatDoorPk42
import Derived.Test.YtkghejaimhoboaaGreatDoorPk05
import Derived.Test.YtkghejaimhoboaaGreatDoorPk29
set_option linter.unusedSimpArgs false
set_option linter.unusedVariables false
set_option maxRecDepth 100000
set_option maxHeartbeats 8000000
namespace Go.Proofs.YtkghejaimhoboaaGreatDoor
open Go.RowKit Go.Shelf
section
attribute [local go_sem] Oper.semAt_some
theorem nil_fl (W : World) : (binOp .neq 146 .nilFunc .nilFunc).run Tryz.prog W = .ok (.bool false) W := by
 have h : (Op.equal 146 .nilFunc .nilFunc).run Tryz.prog W = .ok true W := by
  unfold Op.equal
  rw [show Op.maxDepth = (Op.maxDepth - 1) + 1 from rfl]
  unfold Op.equalIn
  simp [run_underlying Tryz.underlying146]
 simp [binOp, h]
theorem func_fl (f : FuncId) (c : Array Value) (W : World) : (binOp .neq 146 (.func (.func f) #[] c) .nilFunc).run Tryz.prog W = .ok (.bool true) W := by
 have h : (Op.equal 146 (.func (.func f) #[] c) .nilFunc).run Tryz.prog W = .ok false W := by
  unfold Op.equal
  rw [show Op.maxDepth = (Op.maxDepth - 1) + 1 from rfl]
  unfold Op.equalIn
  simp [run_underlying Tryz.underlying146]
 simp [binOp, h]
theorem gnil_fl (s1 s2 : Operand) (W : World) : (eqGuard .neq 146 s1 s2 .nilFunc .nilFunc).run Tryz.prog W = .ok () W := by go_simp
theorem gfunc_fl (f : FuncId) (c : Array Value) (s1 s2 : Operand) (W : World) : (eqGuard .neq 146 s1 s2 (.func (.func f) #[] c) .nilFunc).run Tryz.prog W = .ok () W := by go_simp
theorem nil_wr (W : World) : (binOp .neq 147 .nilFunc .nilFunc).run Tryz.prog W = .ok (.bool false) W := by
 have h : (Op.equal 147 .nilFunc .nilFunc).run Tryz.prog W = .ok true W := by
  unfold Op.equal
  rw [show Op.maxDepth = (Op.maxDepth - 1) + 1 from rfl]
  unfold Op.equalIn
  simp [run_underlying Tryz.underlying147]
 simp [binOp, h]
theorem func_wr (f : FuncId) (c : Array Value) (W : World) : (binOp .neq 147 (.func (.func f) #[] c) .nilFunc).run Tryz.prog W = .ok (.bool true) W := by
 have h : (Op.equal 147 (.func (.func f) #[] c) .nilFunc).run Tryz.prog W = .ok false W := by
  unfold Op.equal
  rw [show Op.maxDepth = (Op.maxDepth - 1) + 1 from rfl]
  unfold Op.equalIn
  simp [run_underlying Tryz.underlying147]
 simp [binOp, h]
theorem gnil_wr (s1 s2 : Operand) (W : World) : (eqGuard .neq 147 s1 s2 .nilFunc .nilFunc).run Tryz.prog W = .ok () W := by go_simp
theorem gfunc_wr (f : FuncId) (c : Array Value) (s1 s2 : Operand) (W : World) : (eqGuard .neq 147 s1 s2 (.func (.func f) #[] c) .nilFunc).run Tryz.prog W = .ok () W := by go_simp
structure RbI (w : World) (pc : Array Value) (kb : Nat) (cs : Array Value) (b : Nat -> Nat) (W : World) : Prop where
 below : Below w.heap.size w W
 pack : Blk W w.heap.size pc 52
 kind : Blk W kb cs 150
 box : ∀ k, 4 <= k -> k <= 11 -> LiAt b k W
theorem RbI.step {w : World} {pc : Array Value} {kb : Nat} {cs : Array Value} {b : Nat -> Nat} {W W' : World} (h : RbI w pc kb cs b W) (hb : Below W.heap.size W W') : RbI w pc kb cs b W' := ⟨h.below.trans (hb.mono h.below.size), h.pack.below hb, h.kind.below hb, fun k h4 h11 => LiB.below (h.box k h4 h11) hb⟩
theorem wp_append_str {P : Program} {w : World} {o : Oper} {a : Act} {K : Act -> World -> Prop} {Q : Exit -> Act -> World -> Prop} (sl x : Operand) (t u : TypeId)
  (ho : o.op = .call { callee := .builtin .append, args := #[sl, x], argTypes := #[t, u] })
  (base : Nat) (e : TypeId) (i : TypeInfo) (ht : P.underlying t = some (.slice e)) (hu : P.underlying u = some .string) (hi : P.info? e = some i) (hz : i.zero = some (.int .u8 0))
  (hsize : i.size = 1) (hby : i.bytes = 1)
  (v : Value) (n : Nat) (xs : List Value) (hs : a.eval sl = v) (hown : w.ownsRow base e 1 v n xs) (s : ByteArray) (hx : a.eval x = .string s)
  (h63 : n + s.size <= maxLen) (hbytes : n + s.size <= 140737488355328) (hbase : base <= w.heap.size)
  (h : ∀ v' w', w'.ownsRow base e 1 v' (n + s.size) (xs ++ Go.Lib.strCells s) -> w.grownBy w' v.ownBlock -> K (a.put o.dst v') w') : o.wp P a w K Q := by
 obtain ⟨v', w', hr, h2, h3, h4⟩ := Go.Lib.run_append_own_string (P := P) w base t u o.type e i ht hu hi hz hsize hby v n xs hown s h63 hbytes hbase
 unfold Oper.wp execOp
 simp only [ho, resolve, invoke, builtin, Sem.run_bind, Sem.run_pure, Result.andThen_ok, List.map_toArray, List.map_cons, List.map_nil, hs, hx, hr]
 exact h v' w' h2 h3
theorem lit1 (x : Int) (w : World) : (w.alloc (.cells #[.int .u8 x] 5)).ownsRow w.heap.size 5 1 (.slice (some ⟨w.heap.size, 0, none⟩) 1 1) 1 [.int .u8 x] := World.ownsRow_lit w #[.int .u8 x] 1 (Nat.le_refl _) (by decide) rfl
theorem or_first (k f : Nat) (hk : k < 16) (hf : f < 16) : bits .or .u8 ((k : Int) * 16) (f : Int) = (k : Int) * 16 + f := by
 have : ∀ k f : Fin 16, bits .or .u8 (((k : Nat) : Int) * 16) ((f : Nat) : Int) = ((k : Nat) : Int) * 16 + ((f : Nat) : Int) := by decide +kernel
 exact this ⟨k, hk⟩ ⟨f, hf⟩
theorem In.toN {w W : World} {p : Pk} {h : H3} {F : List Nat} (hin : p.In w h) (hb : Below w.heap.size w W) (hF : ∀ x ∈ F, w.heap.size <= x) : PkN W p h F := by
 have go : ∀ {α : Type} {f : α -> List Value} {sz : Nat} {hd : Hd} {xs : List α}, LsAt f sz w hd.a hd.n hd.c xs -> LsN f sz W hd xs F := fun k => ⟨k.below hb, fun hne y hy hm => by
  obtain ⟨g, off, e, hg, -⟩ := k.at' 0 _ (List.getElem?_eq_getElem (List.length_pos_iff.2 hne))
  rw [hy] at e
  cases e
  have := hF _ hm
  dsimp only at this
  omega⟩
 exact ⟨go hin.lw, go hin.lc, go hin.lf⟩
theorem pk_Raw (p : Pk) (h : H3) (hs : PkS p) (hfw : (∀ x ∈ p.wants, x.filter.length <= 2000000) /\ ∀ x ∈ p.filters, x.length <= 2000000) (w : World) (hin : p.In w h) (hr : rightP p) :
  Calls Tryz.prog 54 #[.agg (p.cells h).toArray] w fun e w' => ∃ v, e = .returned (.tuple #[v, .int .i64 0]) /\ w'.ownsRow w.heap.size 5 1 v (rawPk p).length (bs (rawPk p)) /\ Below w.heap.size w w' := by
 have CK := pk_Check p h hs hfw
 unfold CheckOK at CK
 obtain ⟨pc, hpc⟩ : ∃ pc, (p.cells h).toArray = pc := ⟨_, rfl⟩
 obtain ⟨W0, hW0⟩ : ∃ W0, w.alloc (.cells pc 52) = W0 := ⟨_, rfl⟩
 have b0 : Below w.heap.size w W0 := by rw [<- hW0]; exact (Below.refl _ _).alloc (Nat.le_refl _) _
 have C1 := hid (CK W0 (hin.below b0))
 rw [hpc] at C1
 have hb0 := hid b0;have P0 : Blk W0 w.heap.size pc 52 := by rw [<- hW0]; exact Blk.new _ _ _
 have ic : Hid ((Tryz.prog.info? 52).map (·.size) = some pc.size) := hid (by rw [<- hpc]; exact (by kernel_rfl : (Tryz.prog.info? 52).map (·.size) = some 24))
 obtain ⟨kd, hkd⟩ : ∃ k, p.kind = k := ⟨_, rfl⟩
 have kc : Hid (∀ W, Blk W w.heap.size pc 52 -> W.cell? ⟨w.heap.size, 0, none⟩ = some (.int .i64 kd)) := hid fun W hb => by rw [hb.cell, <- hpc, <- hkd]; rfl
 have kb5 : Hid (∀ W, Blk W w.heap.size pc 52 -> W.cell? ⟨w.heap.size, 5, none⟩ = some (.string ⟨p.body.toArray⟩)) := hid fun W hb => by rw [hb.cell, <- hpc]; rfl
 have hkr : Hid (1 <= kd /\ kd <= 14) := hid (by rw [<- hkd]; exact rightP_kind hr)
 have hkd := hid hkd;rw [hpc]
 have hpc := hid hpc;have HI := hid hin;have FW := hid (fun b k hk hk1 => pk_fw b p h hr k hk hk1)
 have hr := hid hr;clear hin hs hfw CK b0;go_enter Tryz.func54, Tryz.ntmps54
 have tok := hid trivial;go_wp2_with (clear tok; refine wL 52 rfl rfl P0 Tryz.underlying52 ?_ rfl rfl ic.out)
 refine C1.out.mono ?_
 rintro e w1 ⟨z, rfl, hz, hb1⟩
 obtain rfl : z = 0 := hz.2 hr.out
 have P1 := hid (P0.below hb1)
 have HB1 := hid (hb0.out.trans (hb1.mono hb0.out.size))
 clear hz hb1 P0 hW0 C1;go_upto_region 4 with fail
 try simp only [PT]
 go_cut [5] from 16 (fun s5 wx => ∃ (kb : Nat) (g1 g2 g3 g4 g5 : Value), s5 = .pointer (some ⟨kb, 0, none⟩) /\ Hid (ShAt w pc p kb g1 g2 g3 g4 g5 true wx))
 case first =>
  have BW5 : Below w.heap.size w w1.drew := HB1.out.drew
  have tW5 : Blk w1.drew w.heap.size pc 52 := P1.out
  refine regionQ [(1000, fun w' => Blk w' w.heap.size pc 52)] (by kernel_rfl) ⟨tW5, trivial⟩ fun KQ hKQ => ?_
  try simp only [PT]
  obtain ⟨W5, hW5⟩ : ∃ W, w1.drew = W := ⟨_, rfl⟩
  rw [hW5] at BW5 tW5 ⊢
  refine tQ [1] ?_;refine loadQ 2 rfl (by kernel_rfl) (by kernel_rfl) rfl rfl 0 rfl (by kernel_rfl) (.int .i64 kd) (fun w' hf => by (have k0 := kc.out _ hf; go_simp <;> with_reducible rfl)) ?_
  simp only [PT];refine stepM [0, 4] (fun j hj => ?_)
  have hj : j = 0 \/ j = 4 := by simpa using hj
  rcases hj with rfl | rfl
  ·refine ⟨⟨_, rfl, by kernel_rfl, fun K hK => ?_⟩⟩
   go_simp;refine (pk_shapes _).mono ?_
   rintro e w6 ⟨m, b, rfl, ⟨hm, hc⟩, hb6⟩
   have ht6 := tW5.below hb6
   obtain ⟨g1, g2, g3, g4, g5, hg, hone, hsome⟩ := shapeG_agg b kd
   have hB6 := BW5.trans (hb6.mono BW5.size)
   refine hK _ _ ⟨⟨fun _ => ht6, trivial⟩, ?_⟩
   clear hK K;try simp only [PT]
   refine atR_more [(1000, fun w' => Blk w' w.heap.size pc 52), (1000, fun w' => IM .i64 w' m (shapeG b))] (by simp) ⟨fun _ => ht6, fun _ => hm, trivial⟩ ?_
   refine lookQ 3 rfl (by kernel_rfl) (by kernel_rfl) rfl rfl rfl 1 rfl (by kernel_rfl) (.agg #[g1, g2, g3, g4, g5]) (fun w' hf => (look_sh hf kd false).trans (by rw [hg]; rfl)) ?_
   try simp only [PT]
   have his : (shapeG b kd).isSome = true := by unfold shapeG; rw [if_pos hkr.out]; rfl
   refine sQ 4 fun K hK => ?_;simp only [GO];go_simp;refine hK _ _ ⟨⟨fun _ => ht6.alloc _, fun _ => hm.alloc _, trivial⟩, ?_⟩
   clear hK K;try simp only [PT]
   refine sQ 5 fun K hK => ?_;simp only [GO];refine wW 150 5 rfl w6.heap.size zSh #[g1, g2, g3, g4, g5] rfl rfl (Blk.new _ _ _) rfl rfl hone fun w7 hw7 hr7 => ?_
   replace hr7 : Wrote [w6.heap.size] (w6.alloc (.cells zSh 150)) w7 := hr7
   have hs6 := hB6.size
   have hz6 : (w6.alloc (.cells zSh 150)).heap.size = w6.heap.size + 1 := by simp
   have b67 : Below w6.heap.size w6 w7 := ((Below.refl _ _).alloc (Nat.le_refl _) _).trans (hr7.below (by simp) (by simp))
   have hb7 := hB6.trans (b67.mono hB6.size)
   have ht7 := ht6.below b67
   have hm7 := hm.below b67
   refine hK _ _ ⟨⟨fun _ => ht7, fun _ => hm7, trivial⟩, ?_⟩
   clear hK K;try simp only [PT]
   refine dQ (hKQ.out _ _ ?_);clear hKQ KQ;have hR := hid (show ShAt w pc p w6.heap.size g1 g2 g3 g4 g5 true w7 from ⟨hb7, ht7, hw7, (fun h => by cases h), fun h => ⟨b, by rw [hkd.out]; exact hsome his, fun k h4 h11 => LiB.below (hc k h4 h11) b67⟩⟩)
   go_wp2
   go_meet
   case rel => exact ⟨_, _, _, _, _, _, rfl, hR⟩
  ·refine ⟨⟨_, rfl, by kernel_rfl, fun K hK => ?_⟩⟩
   go_simp;refine hK _ _ ⟨⟨fun _ => tW5.alloc _, trivial⟩, ?_⟩
   clear hK K;try simp only [PT]
   refine sQ 0 fun K hK => ?_;simp only [GO];go_simp;refine (pk_shapes _).mono ?_
   rintro e w6 ⟨m, b, rfl, ⟨hm, hc⟩, hb6⟩
   have ht6 := (tW5.alloc (.cells zSh 150)).below hb6
   have hk6 := (Blk.new W5 zSh 150).below hb6
   obtain ⟨g1, g2, g3, g4, g5, hg, hone, hsome⟩ := shapeG_agg b kd
   have hs5 := BW5.size
   have hz5 : (W5.alloc (.cells zSh 150)).heap.size = W5.heap.size + 1 := by simp
   have hB6 := (BW5.alloc hs5 (.cells zSh 150)).trans (hb6.mono (by simp; omega))
   have hb6s : W5.heap.size + 1 <= w6.heap.size := by have := hb6.size; simpa using this
   refine hK _ _ ⟨⟨fun _ => ht6, trivial⟩, ?_⟩
   clear hK K;try simp only [PT]
   refine atR_more [(1000, fun w' => Blk w' w.heap.size pc 52), (1000, fun w' => IM .i64 w' m (shapeG b))] (by simp) ⟨fun _ => ht6, fun _ => hm, trivial⟩ ?_
   refine lookQ 3 rfl (by kernel_rfl) (by kernel_rfl) rfl rfl rfl 1 rfl (by kernel_rfl) (.agg #[g1, g2, g3, g4, g5]) (fun w' hf => (look_sh hf kd false).trans (by rw [hg]; rfl)) ?_
   try simp only [PT]
   have his : (shapeG b kd).isSome = true := by unfold shapeG; rw [if_pos hkr.out]; rfl
   refine sQ 5 fun K hK => ?_;simp only [GO]
   have hne : m ≠ W5.heap.size := fun h => by
    obtain ⟨es, cl, h1, -⟩ := hm
    have h2 : w6.heap[W5.heap.size]? = _ := hk6
    rw [h, h2] at h1
    cases h1
   have hnb : ∀ (T : TypeId) (v : Value) (x : Nat), Boxed w6 x T v -> x ≠ W5.heap.size := fun T v x hx h => by
    have h1 : w6.heap[x]? = _ := hx
    have h2 : w6.heap[W5.heap.size]? = _ := hk6
    rw [h, h2] at h1
    cases h1
   refine wW 150 5 rfl W5.heap.size zSh #[g1, g2, g3, g4, g5] rfl rfl hk6 rfl rfl hone fun w7 hw7 hr7 => ?_
   have hb7 := hB6.trans (hr7.below (by have := hB6.size; omega) (by simp; omega))
   have ht7 := ht6.keepW hr7 (by have := tW5.lt; simp; omega)
   have hm7 := hm.wrote hr7 (by simpa using hne)
   refine hK _ _ ⟨⟨fun _ => ht7, fun _ => hm7, trivial⟩, ?_⟩
   clear hK K;try simp only [PT]
   refine dQ (hKQ.out _ _ ?_);clear hKQ KQ
   have hR := hid (show ShAt w pc p W5.heap.size g1 g2 g3 g4 g5 true w7 from ⟨hb7, ht7, hw7, (fun h => by cases h), fun h => ⟨b, by rw [hkd.out]; exact hsome his, fun k h4 h11 => by
    have x := hc k h4 h11
    exact LiB.wrote x hr7 (by simpa using hnb _ _ _ x.fl) (by simpa using hnb _ _ _ x.has) (by simpa using hnb _ _ _ x.may) (by simpa using hnb _ _ _ x.wr) (by simpa using hnb _ _ _ x.rd)⟩⟩)
   go_wp2
   go_meet
   case rel => exact ⟨_, _, _, _, _, _, rfl, hR⟩
 case rest =>
  obtain ⟨kb, g1, g2, g3, g4, g5, rfl, hK⟩ := hcut
  obtain ⟨wa, hwa⟩ : ∃ W, wc = W := ⟨_, rfl⟩
  rw [hwa] at hK ⊢
  clear hwa;obtain ⟨b, hkg, hL⟩ := hK.out.some rfl
  obtain ⟨n, hn, hn1, hv⟩ := shapeG_some hkg
  obtain ⟨g1', g2', g3', g4', g5', m, hv', hfl, hwr, hbd⟩ := FW.out b n hn hn1
  rw [hv] at hv'
  simp only [Value.agg.injEq, Array.mk.injEq, List.cons.injEq, and_true] at hv'
  obtain ⟨rfl, rfl, rfl, rfl, rfl⟩ := hv'
  have k0 := kc.out _ hK.out.pack
  have k2 : wa.cell? ⟨kb, 2, none⟩ = some g3 := hK.out.kind.cell 2
  have hkr0 : 1 <= kd := hkr.out.1
  have hkr1 : kd <= 14 := hkr.out.2
  have HL := hid hL;have hfl := hid hfl;have hwr := hid hwr;have hbd := hid hbd;clear hkg hv hL hn hn1;have HR := hid (show RbI w pc kb #[g1, g2, g3, g4, g5] b wa from ⟨hK.out.below, hK.out.pack, hK.out.kind, HL.out⟩)
  have hfl16 := hid (flagN_lt hr.out)
  obtain ⟨fl, hfln⟩ : ∃ f, flagN p = f := ⟨_, rfl⟩
  rw [hfln] at hfl16
  have hfln := hid hfln;obtain ⟨kn, hknn⟩ := Int.eq_ofNat_of_zero_le (show 0 <= kd by omega)
  have hOR := hid (or_first kn fl (by omega) hfl16.out)
  rw [<- hknn] at hOR
  replace hknn := hid hknn;obtain ⟨fz, hfz⟩ : ∃ z : Int, (fl : Int) = z := ⟨_, rfl⟩
  have hfz0 : 0 <= fz := by omega
  have hfz1 : fz < 16 := by have := hfl16.out; omega
  rw [hfz] at hOR
  have hfz := hid hfz
  obtain ⟨nb, hnb, hgnb, hfl2⟩ : ∃ nb : Bool, (∀ W, (binOp .neq 146 g3 .nilFunc).run Tryz.prog W = .ok (.bool nb) W) /\ (∀ s1 s2 W, (eqGuard .neq 146 s1 s2 g3 .nilFunc).run Tryz.prog W = .ok () W) /\ ((nb = false /\ fz = 0) \/ (nb = true /\ ∃ f c, g3 = fnV f c /\ fnC f /\ ∀ W, ShK b p.kind.toNat W -> Calls Tryz.prog f (#[.agg pc] ++ c) W fun e w' => e = .returned (.int .i64 fz) /\ Below W.heap.size W w')) := by
   rcases hfl.out with ⟨rfl, hf0⟩ | ⟨ff, fc, rfl, hff, hfc⟩
   ·exact ⟨false, nil_fl, gnil_fl, .inl ⟨rfl, by rw [<- hfz.out, <- hfln.out, hf0]; rfl⟩⟩
   ·refine ⟨true, fun W => func_fl ff fc W, fun s1 s2 W => gfunc_fl ff fc s1 s2 W, .inr ⟨rfl, ff, fc, rfl, hff, fun W hsh => ?_⟩⟩
    have := hfc W hsh
    rw [hpc.out, hfln.out, hfz.out] at this
    exact this
  obtain ⟨nw, hnw, hgnw, hwr2⟩ : ∃ nw : Bool, (∀ W, (binOp .neq 147 g4 .nilFunc).run Tryz.prog W = .ok (.bool nw) W) /\ (∀ s1 s2 W, (eqGuard .neq 147 s1 s2 g4 .nilFunc).run Tryz.prog W = .ok () W) /\ ((nw = false /\ m = []) \/ (nw = true /\ ∃ f c, g4 = fnV f c /\ fnC f /\ ∀ W F q, ShK b p.kind.toNat W -> p.In W h -> Wr W F q [] -> (∀ k : Nat, 4 <= k -> k <= 11 -> b k + 3 ∉ F) -> PkN W p h F -> Calls Tryz.prog f (#[.pointer (some ⟨q, 0, none⟩), .agg pc] ++ c) W (PutR F q [] m W))) := by
   rcases hwr.out with ⟨rfl, hf0⟩ | ⟨ff, fc, rfl, hff, hfc⟩
   ·exact ⟨false, nil_wr, gnil_wr, .inl ⟨rfl, hf0⟩⟩
   ·refine ⟨true, fun W => func_wr ff fc W, fun s1 s2 W => gfunc_wr ff fc s1 s2 W, .inr ⟨rfl, ff, fc, rfl, hff, fun W F q h1 h2 h3 h4 h5 => ?_⟩⟩
    have := hfc W F q h1 h2 h3 h4 h5
    rw [hpc.out] at this
    exact this
  have hfl2 := hid hfl2;have hwr2 := hid hwr2;have hnw := hid hnw;have hgnw := hid hgnw;clear hK hfl hwr;go_upto_if 26 with fail
  try simp only [PT]
  go_cut [6] from 27 (fun s6 wx => s6 = .int .u8 (kd * 16 + fz) /\ Hid (RbI w pc kb #[g1, g2, g3, g4, g5] b wx))
  case first =>
   rcases hfl2.out with ⟨rfl, hf0⟩ | ⟨rfl, ff, fc, rfl, hff, hfc⟩
   ·subst hf0
    go_wp2_with fail
    go_meet
    case rel => exact ⟨by simp, HR⟩
   ·unfold fnV at k2
    unfold fnC at hff
    have CF := hid (hfc wa (fun h4 h11 => HR.out.box _ h4 h11))
    have ta := HR.out.pack
    have hOR := hOR.out
    have tok := hid trivial;clear hfl2 hfc hnb hgnb;go_wp2_with (clear tok; refine wL 52 rfl rfl ta Tryz.underlying52 ?_ rfl rfl ic.out)
    refine CF.out.mono ?_
    rintro e w8 ⟨rfl, hb8⟩
    have HR8 := hid (HR.out.step hb8)
    clear hb8 ta k0 k2;go_wp2_with fail
    go_meet
    case rel => exact ⟨rfl, HR8⟩
  case rest =>
   obtain ⟨rfl, HB⟩ := hcut
   obtain ⟨wb, hwb⟩ : ∃ W, wc = W := ⟨_, rfl⟩
   rw [hwb] at HB ⊢
   clear hwb hnb hgnb hfl2 k0 k2 HR hOR;have k3 : Hid (∀ W, Below wb.heap.size wb W -> W.cell? ⟨kb, 3, none⟩ = some g4) := hid (fun W hb => (HB.out.step hb).kind.cell 3)
   have CNW := hid (wire_NewWriter wb)
   have hnw := hnw.out
   have hgnw := hgnw.out
   go_upto_region 8 with fail
   go_wp2_with fail
   refine CNW.out.mono ?_
   rintro e w9 ⟨rfl, hW9, hb9⟩
   have k3 := k3.out _ hb9
   have H9 := hid hW9;have B9 := hid hb9;have hz9 := hb9.size
   have hlt9 := hid (H9.out.lt _ (List.mem_singleton.2 rfl))
   obtain ⟨q, hq⟩ : ∃ q, wb.heap.size = q := ⟨_, rfl⟩
   rw [hq] at H9 hlt9 ⊢
   have hq := hid hq;clear hW9 hb9 hz9;go_upto_if 37 with fail
   try simp only [PT]
   go_cut [] from 38 (fun wx => ∃ F1, Hid (Wr wx F1 q m) /\ Hid (Below wb.heap.size wb wx))
   case first =>
    rcases hwr2.out with ⟨rfl, hm0⟩ | ⟨rfl, ff, fc, rfl, hff, hfc⟩
    ·go_wp2_with fail
     go_meet
     case rel => exact ⟨[q], by rw [hm0]; exact H9, B9⟩
    ·unfold fnV at k3
     unfold fnC at hff
     have HR9 := HB.out.step B9.out
     have CF := hid (hfc w9 [q] q (fun h4 h11 => HR9.box _ h4 h11) (HI.out.below HR9.below) H9.out (fun k h4 h11 hm => by
      have h1 := (HB.out.box k h4 h11).wr.lt
      have h2 := hq.out
      simp at hm
      omega) (In.toN HI.out HR9.below (fun x hx => by
      have h2 := hq.out
      have h3 := HB.out.below.size
      simp at hx
      omega)))
     have ta := HR9.pack
     have tok := hid trivial;clear hwr2 hfc hnw hgnw HR9;go_wp2_with (clear tok; refine wL 52 rfl rfl ta Tryz.underlying52 ?_ rfl rfl ic.out)
     refine CF.out.mono ?_
     rintro e w10 ⟨F1, rfl, hw10, hs10⟩
     have B10 := hid (B9.out.trans (hs10.wrote.below B9.out.size (by have h2 := hq.out; simp; omega)))
     have H10 : Hid (Wr w10 F1 q m) := hid (by simpa using hw10)
     clear hw10 hs10 ta k3;go_wp2_with fail
     go_meet
     case rel => exact ⟨F1, H10, B10⟩
   case rest =>
    obtain ⟨F1, H11, B11⟩ := hcut
    obtain ⟨wd, hwd⟩ : ∃ W, wc = W := ⟨_, rfl⟩
    rw [hwd] at H11 B11 ⊢
    clear hwd k3 hnw hgnw hwr2 H9 B9 hlt9 CNW;have HR11 := hid (HB.out.step B11.out)
    go_upto_region 11 with fail
    obtain ⟨i0, hi, hz0, hz1, hz2⟩ := info_parts Tryz.infoB
    have hml : Hid (m.length + p.body.length <= 5000) := hid (by have h9 := bodyP_len hr.out; rw [hbd.out, List.length_append] at h9; exact h9)
    have bD : Below wd.heap.size wd wd.drew := (Below.refl _ _).drew
    have PD : Blk wd.drew w.heap.size pc 52 := HR11.out.pack.below bD
    have BD : Below w.heap.size w wd.drew := HR11.out.below.drew
    have HD : Wr wd.drew F1 q m := H11.out.below bD
    refine regionQ [(1000, fun w' => Blk w' w.heap.size pc 52)] (by kernel_rfl) ⟨PD, trivial⟩ fun KQ hKQ => ?_
    obtain ⟨WD, hWD⟩ : ∃ W, wd.drew = W := ⟨_, rfl⟩
    rw [hWD] at PD BD HD ⊢
    clear hWD bD H11 HR11 B11;try simp only [PT]
    refine tQ [0, 2] ?_;refine loadQ 3 rfl (by kernel_rfl) (by kernel_rfl) rfl rfl 0 rfl (by kernel_rfl) (.string ⟨p.body.toArray⟩) (fun w' hf => by (have k0 := kb5.out _ hf; go_simp <;> with_reducible rfl)) ?_
    simp only [PT];refine sQ 1 fun K hK => ?_;simp only [GO];go_simp;refine (wire_Bytes HD (by have := hml.out; omega)).mono ?_
    rintro e w11 ⟨v, rfl, ho, hb⟩
    have P11 := PD.below hb
    have B11 := BD.trans (hb.mono BD.size)
    have hs11 := hb.size
    refine hK _ _ ⟨⟨fun _ => P11, trivial⟩, ?_⟩
    clear hK K;try simp only [PT]
    refine sQ 4 fun K hK => ?_;simp only [GO];have hsz : (⟨p.body.toArray⟩ : ByteArray).size = p.body.length := by simp [ByteArray.size]
    refine wp_append_str _ _ 22 9 rfl WD.heap.size 5 i0 Tryz.underlying22 Tryz.underlying9 hi hz0 hz1 hz2 v m.length (bs m) rfl ho ⟨p.body.toArray⟩ rfl (by rw [hsz]; have := hml.out; unfold maxLen; omega) (by rw [hsz]; have := hml.out; omega) hs11 fun v12 w12 how hg => ?_
    rw [hsz, strCells_bs, <- bs_app, <- hbd.out, <- List.length_append, <- hbd.out] at how
    have b12 : Below WD.heap.size w11 w12 := (Below.refl w11.heap.size w11).mono hs11 |>.grown hg hs11 (fun y hy => (ho.lt y hy).1)
    have P12 : Blk w12 w.heap.size pc 52 := PD.below (hb.trans b12)
    have B12 := hid (BD.trans ((hb.trans b12).mono BD.size))
    refine hK _ _ ⟨⟨fun _ => P12, trivial⟩, ?_⟩
    clear hK K;try simp only [PT]
    refine tQ [5] ?_;refine dQ (hKQ.out _ _ ?_);clear hKQ KQ;obtain ⟨a12, c12, rfl⟩ := own_slice how
    have HOW := hid (ownsRow_mono how (base' := w.heap.size) BD.size)
    obtain ⟨bl, hbl⟩ : ∃ n, (bodyP p).length = n := ⟨_, rfl⟩
    have hbl5 : bl <= 5000 := by rw [<- hbl]; exact bodyP_len hr.out
    rw [hbl] at HOW ⊢
    have hbl := hid hbl;have CL := hid (len_raw (bl : Int) w12 (by unfold mayL; simp; omega))
    clear how P12 P11 B11 hb ho hg b12 PD BD HD hsz;go_wp2_with fail
    refine CL.out.mono ?_
    rintro e w13 ⟨v13, rfl, ho13, hb13⟩
    have hs4 := sizeL_le4 (bl : Int)
    have hraw : Hid (bs (rawPk p) = [.int .u8 (kd * 16 + fz)] ++ bs (rawL (sizeL (bl : Int)) bl) ++ bs (bodyP p)) := hid (by
     unfold rawPk lenB
     rw [hbl.out, show (UInt8.ofNat (16 * p.kind.toNat + flagN p) :: (rawL (sizeL (bl : Int)) bl ++ bodyP p)) = [UInt8.ofNat (16 * p.kind.toNat + flagN p)] ++ (rawL (sizeL (bl : Int)) bl ++ bodyP p) from rfl, bs_app, bs_app, <- List.append_assoc]
     congr 2
     unfold bs
     simp only [List.map_cons, List.map_nil]
     rw [u8_of _ (by have := hfl16.out; have := hfln.out; have := hkd.out; omega)]
     have h1 := hfz.out
     have h2 := hfln.out
     have h3 := hkd.out
     congr 2
     omega)
    have hrl : Hid ((rawPk p).length = 1 + sizeL (bl : Int) + bl) := hid (by
     unfold rawPk lenB
     rw [List.length_cons, List.length_append, rawL_len, hbl.out]
     omega)
    obtain ⟨sl, hsl⟩ : ∃ n, sizeL (bl : Int) = n := ⟨_, rfl⟩
    rw [hsl] at ho13 hraw hs4 hrl
    rw [show ((bl : Nat) : Int).toNat = bl from rfl] at ho13
    obtain ⟨a13, c13, rfl⟩ := own_slice ho13
    obtain ⟨fb, hfb⟩ : ∃ z, kd * 16 + fz = z := ⟨_, rfl⟩
    rw [hfb] at hraw ⊢
    have hlit := lit1 fb w13
    have HO13 := hid ho13;have HW13 := hid (ownsRow_below HOW.out hb13)
    have B13 := hid (B12.out.trans (hb13.mono B12.out.size))
    have hz13 := hb13.size
    have hL := hid hlit;have hsl := hid hsl;have hfb := hid hfb;clear ho13 hb13 CL hlit;have t1 := hid trivial;have t2 := hid trivial
    go_wp2_with (first
     | (clear t1; at_builtin; refine wpList_plain rfl fun _ hK => wp_append_rows _ _ rfl Tryz.eB8 (by decide) w13.heap.size _ 1 _ rfl hL.out w12.heap.size _ sl _ rfl (HO13.out.alloc _) (bs_one _) (by omega) (by omega) (by simp) fun v14 w14 how14 hg14 hn14 => hK _ _ ?_)
     | (clear t2; at_builtin; refine wpList_plain rfl fun _ hK => wp_append_rows _ _ rfl Tryz.eB8 (by decide) w13.heap.size _ (1 + sl) _ rfl how14 w.heap.size _ bl _ rfl (ownsRow_below HW13.out (((Below.refl w13.heap.size w13).alloc (Nat.le_refl _) _).grown hg14 (by simp) (fun y hy => (hL.out.lt y hy).1))) (bs_one _) (by omega) (by omega) (by have := hg14.size; simp at this; omega) fun v15 w15 how15 hg15 hn15 => hK _ _ ?_))
    have b14 : Below w13.heap.size w13 w14 := ((Below.refl w13.heap.size w13).alloc (Nat.le_refl _) _).grown hg14 (by simp) (fun y hy => (hL.out.lt y hy).1)
    have b15 : Below w13.heap.size w13 w15 := b14.grown hg15 b14.size (fun y hy => (how14.lt y hy).1)
    have HF := hid (show w15.ownsRow w.heap.size 5 1 v15 (rawPk p).length (bs (rawPk p)) from by
     rw [hrl.out, hraw.out]
     exact ownsRow_mono how15 B13.out.size)
    have HB15 := hid (B13.out.trans (b15.mono B13.out.size))
    clear how14 how15 hg14 hg15 hn14 hn15 b14 b15;go_ret2
    exact ⟨v15, rfl, HF.out, HB15.out⟩
end
section
theorem rTxt_lt {l s r : List UInt8} (h : rTxt l = some (s, r)) : s.length <= 2000000 := by have := (rTxt_some h).2; omega
theorem rAll_all {α : Type} {take : List UInt8 -> Option (α × List UInt8)} {P : α -> Prop} (h : ∀ l x r, take l = some (x, r) -> P x) : ∀ (n : Nat) (l : List UInt8) (xs : List α), rAll take n l = some xs -> ∀ x ∈ xs, P x
 | 0, l, xs, e => by
  unfold rAll at e
  split at e
  ·cases e; simp
  ·cases e
 | n + 1, l, xs, e => by
  unfold rAll at e
  split at e
  ·cases e; simp
  ·obtain ⟨x, h1, e⟩ := Option.bind_eq_some_iff.1 e
   obtain ⟨r, h2, e⟩ := Option.bind_eq_some_iff.1 e
   cases e
   intro y hy
   rcases List.mem_cons.1 hy with rfl | hy
   ·exact h l x.1 x.2 h1
   ·exact rAll_all h n x.2 r h2 y hy
theorem rOpt_txt {b : Bool} {l s r : List UInt8} (h : rOpt b [] rTxt l = some (s, r)) : s.length <= 2000000 := by
 unfold rOpt at h
 cases b with
 | true => exact rTxt_lt h
 | false => cases h; simp
theorem rOpt_two {b : Bool} {l : List UInt8} {s : List UInt8 × List UInt8} {r : List UInt8} (h : rOpt b ([], []) rTwo l = some (s, r)) : s.1.length <= 2000000 /\ s.2.length <= 2000000 := by
 unfold rOpt at h
 cases b with
 | true =>
  unfold rTwo at h
  simp only [if_true] at h
  obtain ⟨x, h1, h⟩ := Option.bind_eq_some_iff.1 h
  obtain ⟨y, h2, h⟩ := Option.bind_eq_some_iff.1 h
  cases h
  exact ⟨rTxt_lt h1, rTxt_lt h2⟩
 | false => cases h; simp
theorem PkS.zero (k : Int) : PkS (zPk k) := ⟨by simp [zPk], by simp [zPk], by simp [zPk], by simp [zPk, noWill], by simp [zPk, noWill], by simp [zPk], by simp [zPk], by simp [zPk], by simp [zPk]⟩
theorem readC_small {l r : List UInt8} {p : Pk} (h : readC l = some (p, r)) : PkS p := by
 unfold readC at h
 obtain ⟨a, ha, h⟩ := Option.bind_eq_some_iff.1 h
 split at h
 ·cases h
 obtain ⟨v, hv, h⟩ := Option.bind_eq_some_iff.1 h
 split at h
 ·cases h
 obtain ⟨f, hf, h⟩ := Option.bind_eq_some_iff.1 h
 obtain ⟨k, hk, h⟩ := Option.bind_eq_some_iff.1 h
 obtain ⟨c, hc, h⟩ := Option.bind_eq_some_iff.1 h
 obtain ⟨wl, hw, h⟩ := Option.bind_eq_some_iff.1 h
 obtain ⟨u, hu, h⟩ := Option.bind_eq_some_iff.1 h
 obtain ⟨s, hs, h⟩ := Option.bind_eq_some_iff.1 h
 dsimp only at h
 split at h
 ·cases h
  have h2 := rOpt_two (s := wl.1) (r := wl.2) hw
  exact ⟨by simp [zPk], by simp [zPk], rTxt_lt (s := c.1) (r := c.2) hc, h2.1, h2.2, rOpt_txt (s := u.1) (r := u.2) hu, rOpt_txt (s := s.1) (r := s.2) hs, by simp [zPk], by simp [zPk]⟩
 ·cases h
theorem readP_small {k : Int} {f : Nat} {l r : List UInt8} {p : Pk} (h : readP k f l = some (p, r)) (hl : l.length <= 65536) : PkS p /\ (k = 3 -> 0 <= p.qos /\ p.qos <= 3) := by
 unfold readP at h
 split at h
 ·exact ⟨readC_small h, fun e => by omega⟩
 split at h
 ·unfold readA at h
  obtain ⟨a, ha, h⟩ := Option.bind_eq_some_iff.1 h
  split at h
  ·cases h
  obtain ⟨c, hc, h⟩ := Option.bind_eq_some_iff.1 h
  cases h
  exact ⟨⟨by simp [zPk], by simp [zPk], by simp [zPk], by simp [zPk, noWill], by simp [zPk, noWill], by simp [zPk], by simp [zPk], by simp [zPk], by simp [zPk]⟩, fun e => by omega⟩
 split at h
 ·unfold readPub at h
  obtain ⟨t, ht, h⟩ := Option.bind_eq_some_iff.1 h
  obtain ⟨i, hi, h⟩ := Option.bind_eq_some_iff.1 h
  cases h
  have h1 := (rTxt_some (s := t.1) (r := t.2) ht).1
  have h2 : t.2.length <= l.length := by rw [h1, List.length_append]; omega
  have h3 : i.2.length <= t.2.length := by
   unfold rOpt at hi
   split at hi
   ·have := (rNum_some (n := i.1) (r := i.2) hi).1
    rw [this, List.length_append]; omega
   ·cases hi; simp
  exact ⟨⟨rTxt_lt (s := t.1) (r := t.2) ht, by show i.2.length <= _; omega, by simp [zPk], by simp [zPk, noWill], by simp [zPk, noWill], by simp [zPk], by simp [zPk], by simp [zPk], by simp [zPk]⟩, fun _ => by dsimp only; omega⟩
 split at h
 ·unfold readL8 at h
  obtain ⟨i, hi, h⟩ := Option.bind_eq_some_iff.1 h
  obtain ⟨w, hw, h⟩ := Option.bind_eq_some_iff.1 h
  cases h
  have := rAll_all (P := fun x : WantV => x.filter.length <= 2000000) (fun l x r h => by
   unfold rWant at h
   obtain ⟨t, ht, h⟩ := Option.bind_eq_some_iff.1 h
   obtain ⟨q, hq, h⟩ := Option.bind_eq_some_iff.1 h
   cases h
   exact rTxt_lt (s := t.1) (r := t.2) ht) _ _ _ hw
  exact ⟨⟨by simp [zPk], by simp [zPk], by simp [zPk], by simp [zPk, noWill], by simp [zPk, noWill], by simp [zPk], by simp [zPk], this, by simp [zPk]⟩, fun e => by omega⟩
 split at h
 ·unfold readL9 at h
  obtain ⟨i, hi, h⟩ := Option.bind_eq_some_iff.1 h
  obtain ⟨w, hw, h⟩ := Option.bind_eq_some_iff.1 h
  cases h
  exact ⟨⟨by simp [zPk], by simp [zPk], by simp [zPk], by simp [zPk, noWill], by simp [zPk, noWill], by simp [zPk], by simp [zPk], by simp [zPk], by simp [zPk]⟩, fun e => by omega⟩
 split at h
 ·unfold readL10 at h
  obtain ⟨i, hi, h⟩ := Option.bind_eq_some_iff.1 h
  obtain ⟨w, hw, h⟩ := Option.bind_eq_some_iff.1 h
  cases h
  have := rAll_all (P := fun x : List UInt8 => x.length <= 2000000) (fun l x r h => rTxt_lt h) _ _ _ hw
  exact ⟨⟨by simp [zPk], by simp [zPk], by simp [zPk], by simp [zPk, noWill], by simp [zPk, noWill], by simp [zPk], by simp [zPk], by simp [zPk], this⟩, fun e => by omega⟩
 split at h
 ·unfold readI at h
  obtain ⟨i, hi, h⟩ := Option.bind_eq_some_iff.1 h
  cases h
  exact ⟨⟨by simp [zPk], by simp [zPk], by simp [zPk], by simp [zPk, noWill], by simp [zPk, noWill], by simp [zPk], by simp [zPk], by simp [zPk], by simp [zPk]⟩, fun e => by omega⟩
 ·cases h
  exact ⟨PkS.zero k, fun e => by omega⟩
theorem and_low15 (f : Nat) (hf : f < 256) : bits .and .u8 ((f : Nat) : Int) 15 = ((f % 16 : Nat) : Int) := by
 have : ∀ f : Fin 256, bits .and .u8 ((f : Nat) : Int) 15 = ((f.1 % 16 : Nat) : Int) := by decide +kernel
 exact this ⟨f, hf⟩
end
section
attribute [local go_sem] Oper.semAt_some
def FlagRd (b : Nat -> Nat) (k : Nat) (g : Value) : Prop := (g = .nilFunc /\ ∀ y : Pk, y.kind = (k : Int) -> flagN y = 0) \/ ∃ f c, g = fnV f c /\ fnC f /\ ∀ W (y : Pk) (h : H3), y.kind = (k : Int) -> ((k : Int) = 3 -> 0 <= y.qos /\ y.qos <= 3) -> ShK b k W -> Calls Tryz.prog f (#[.agg (y.cells h).toArray] ++ c) W fun e w' => e = .returned (.int .i64 (flagN y)) /\ Below W.heap.size W w'
theorem pk_fl (b : Nat -> Nat) (k : Nat) (hk1 : 1 <= k /\ k <= 14) : ∃ g1 g2 g3 g4 g5, shpV b k = .agg #[g1, g2, g3, g4, g5] /\ FlagRd b k g3 := by
 have : k = 1 \/ k = 2 \/ k = 3 \/ k = 4 \/ k = 5 \/ k = 6 \/ k = 7 \/ k = 8 \/ k = 9 \/ k = 10 \/ k = 11 \/ k = 12 \/ k = 13 \/ k = 14 := by omega
 rcases this with rfl | rfl | rfl | rfl | rfl | rfl | rfl | rfl | rfl | rfl | rfl | rfl | rfl | rfl
 ·exact ⟨_, _, _, _, _, rfl, .inl ⟨rfl, fun y hy => flag0 (by omega) (by omega)⟩⟩
 ·exact ⟨_, _, _, _, _, rfl, .inl ⟨rfl, fun y hy => flag0 (by omega) (by omega)⟩⟩
 ·exact ⟨_, _, _, _, _, rfl, .inr ⟨206, #[], rfl, enters_of Tryz.func206 (by kernel_rfl) rfl, fun W y h hk hq _ => pk_pubFlags y h W hk (hq rfl)⟩⟩
 ·skip
  exact ⟨_, _, _, _, _, rfl, .inr ⟨185, #[.pointer (some ⟨b 4, 0, none⟩)], rfl, enters_of Tryz.func185 (by kernel_rfl) rfl, fun W y h hk _ hs => (pk_flList 0 (b 4) _ W (hs (by decide) (by decide)).fl).mono fun e w' ⟨he, hb⟩ => ⟨by rw [he, flag0 (by omega) (by omega)]; rfl, hb⟩⟩⟩
 ·skip
  exact ⟨_, _, _, _, _, rfl, .inr ⟨185, #[.pointer (some ⟨b 5, 0, none⟩)], rfl, enters_of Tryz.func185 (by kernel_rfl) rfl, fun W y h hk _ hs => (pk_flList 0 (b 5) _ W (hs (by decide) (by decide)).fl).mono fun e w' ⟨he, hb⟩ => ⟨by rw [he, flag0 (by omega) (by omega)]; rfl, hb⟩⟩⟩
 ·skip
  exact ⟨_, _, _, _, _, rfl, .inr ⟨185, #[.pointer (some ⟨b 6, 0, none⟩)], rfl, enters_of Tryz.func185 (by kernel_rfl) rfl, fun W y h hk _ hs => (pk_flList 2 (b 6) _ W (hs (by decide) (by decide)).fl).mono fun e w' ⟨he, hb⟩ => ⟨by rw [he, flag2 (by omega)]; rfl, hb⟩⟩⟩
 ·skip
  exact ⟨_, _, _, _, _, rfl, .inr ⟨185, #[.pointer (some ⟨b 7, 0, none⟩)], rfl, enters_of Tryz.func185 (by kernel_rfl) rfl, fun W y h hk _ hs => (pk_flList 0 (b 7) _ W (hs (by decide) (by decide)).fl).mono fun e w' ⟨he, hb⟩ => ⟨by rw [he, flag0 (by omega) (by omega)]; rfl, hb⟩⟩⟩
 ·skip
  exact ⟨_, _, _, _, _, rfl, .inr ⟨185, #[.pointer (some ⟨b 8, 0, none⟩)], rfl, enters_of Tryz.func185 (by kernel_rfl) rfl, fun W y h hk _ hs => (pk_flList 2 (b 8) _ W (hs (by decide) (by decide)).fl).mono fun e w' ⟨he, hb⟩ => ⟨by rw [he, flag2 (by omega)]; rfl, hb⟩⟩⟩
 ·skip
  exact ⟨_, _, _, _, _, rfl, .inr ⟨185, #[.pointer (some ⟨b 9, 0, none⟩)], rfl, enters_of Tryz.func185 (by kernel_rfl) rfl, fun W y h hk _ hs => (pk_flList 0 (b 9) _ W (hs (by decide) (by decide)).fl).mono fun e w' ⟨he, hb⟩ => ⟨by rw [he, flag0 (by omega) (by omega)]; rfl, hb⟩⟩⟩
 ·skip
  exact ⟨_, _, _, _, _, rfl, .inr ⟨185, #[.pointer (some ⟨b 10, 0, none⟩)], rfl, enters_of Tryz.func185 (by kernel_rfl) rfl, fun W y h hk _ hs => (pk_flList 2 (b 10) _ W (hs (by decide) (by decide)).fl).mono fun e w' ⟨he, hb⟩ => ⟨by rw [he, flag2 (by omega)]; rfl, hb⟩⟩⟩
 ·skip
  exact ⟨_, _, _, _, _, rfl, .inr ⟨185, #[.pointer (some ⟨b 11, 0, none⟩)], rfl, enters_of Tryz.func185 (by kernel_rfl) rfl, fun W y h hk _ hs => (pk_flList 0 (b 11) _ W (hs (by decide) (by decide)).fl).mono fun e w' ⟨he, hb⟩ => ⟨by rw [he, flag0 (by omega) (by omega)]; rfl, hb⟩⟩⟩
 ·exact ⟨_, _, _, _, _, rfl, .inl ⟨rfl, fun y hy => flag0 (by omega) (by omega)⟩⟩
 ·exact ⟨_, _, _, _, _, rfl, .inl ⟨rfl, fun y hy => flag0 (by omega) (by omega)⟩⟩
 ·exact ⟨_, _, _, _, _, rfl, .inl ⟨rfl, fun y hy => flag0 (by omega) (by omega)⟩⟩
end
end Go.Proofs.YtkghejaimhoboaaGreatDoor
