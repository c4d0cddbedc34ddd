/- Parts of the proof of ScriptCuts: contracts of functions that it reaches, and plain lemmas. No condition of their own. -/
import Derived.Test.YtkghejaimhoboaaGreatDoorPk36
import Derived.Test.YtkghejaimhoboaaGreatDoorPk32
import Derived.Test.YtkghejaimhoboaaGreatDoorPk35
import Derived.Test.YtkghejaimhoboaaGreatDoorPk29
set_option linter.unusedSimpArgs false
set_option linter.unusedVariables false
set_option maxRecDepth 100000
set_option maxHeartbeats 8000000
namespace Go.Proofs.YtkghejaimhoboaaGreatDoor
open Go.RowKit Go.Shelf
section
attribute [local go_sem] Oper.semAt_some
structure LRd (rd : Int -> List UInt8 -> Option (Pk × List UInt8)) (id : Int) (B p tb : Nat) (l : List UInt8) (w : World) (e : Ending) (w' : World) : Prop where
 wrote : Wrote [p, tb] w w'
 out : (rd id l = none /\ e = .panicked givenP) \/ ∃ (y : Pk) (h : H3) (r : List UInt8), rd id l = some (y, r) /\ e = .returned (.tuple #[]) /\ Rd w' B p r /\ Blk w' tb (y.cells h).toArray 52 /\ ∀ M, (∀ b ∈ M, b < w.heap.size) -> PkN w' y h M
theorem PkN.step {w w' : World} {p : Pk} {h : H3} {M M' M2 : List Nat} (k : PkN w p h M) (hw : Wrote M' w w') (h1 : ∀ b ∈ M', b ∈ M \/ w.heap.size <= b) (h2 : ∀ b ∈ M2, b ∈ M \/ w.heap.size <= b) : PkN w' p h M2 := ⟨k.lw.step hw h1 h2, k.lc.step hw h1 h2, k.lf.step hw h1 h2⟩
theorem Wrote.cut {M N : List Nat} {a c : World} (h : Wrote M a c) (hs : ∀ x ∈ M, x ∈ N \/ a.heap.size <= x) : Wrote N a c := ⟨h.os, h.tape, h.output, h.size, fun i hi hm => h.block i hi (fun hx => (hs i hx).elim hm (fun h => by omega))⟩
theorem pk_readList (fr : FuncId) (b : Nat) (rd : Int -> List UInt8 -> Option (Pk × List UInt8)) (k : Int) (f : Nat) (hfr : fnC fr) {w : World} {B p : Nat} {l : List UInt8} (h : Rd w B p l) (hb : Boxed w (b + 4) 195 (fnV fr #[])) (hbp : b + 4 ≠ p)
  (hrd : readP k f l = (rNum 2 l).bind fun i => (rd (i.1 : Int) i.2).bind fun y => some ({ y.1 with kind := k }, y.2))
  (hc : ∀ W tb id l1, Rd W B p l1 -> l1.length <= l.length -> Blk W tb (({ zPk 0 with id := id } : Pk).cells h3Z).toArray 52 -> B <= tb -> Calls Tryz.prog fr #[.agg #[.pointer (some ⟨p, 0, none⟩)], .pointer (some ⟨tb, 0, none⟩)] W (LRd rd id B p tb l1 W)) :
  Calls Tryz.prog 187 #[.agg #[.pointer (some ⟨p, 0, none⟩)], .int .i64 f, .pointer (some ⟨b + 4, 0, none⟩)] w (PRd k f B p l w) := by
 obtain ⟨W0, hW0⟩ : ∃ W0, w.alloc (.cells #[.pointer (some ⟨p, 0, none⟩)] 161) = W0 := ⟨_, rfl⟩
 have s0 : W0.heap.size = w.heap.size + 1 := by rw [<- hW0]; simp
 obtain ⟨W1, hW1⟩ : ∃ W1, W0.alloc (.cells #[.int .i64 0, .bool false, .bool false, .int .i64 0, .string ⟨#[]⟩, .string ⟨#[]⟩, .int .i64 0, .string ⟨#[]⟩, .bool false, .int .i64 0, .bool false, .string ⟨#[]⟩, .string ⟨#[]⟩, .int .i64 0, .bool false, .bool false, .bool false, .string ⟨#[]⟩, .string ⟨#[]⟩, .bool false, .int .i64 0, .slice none 0 0, .slice none 0 0, .slice none 0 0] 52) = W1 := ⟨_, rfl⟩
 have s1 : W1.heap.size = w.heap.size + 2 := by rw [<- hW1]; simp; omega
 have b0 : Below w.heap.size w W0 := by rw [<- hW0]; exact (Below.refl _ _).alloc (Nat.le_refl _) _
 have b1 : Below w.heap.size w W1 := by rw [<- hW1]; exact b0.alloc b0.size _
 have x1 : Blk W1 w.heap.size #[.pointer (some ⟨p, 0, none⟩)] 161 := by rw [<- hW1, <- hW0]; exact (Blk.new _ _ _).alloc _
 have z1 : Blk W1 (w.heap.size + 1) zPc 52 := by
  have := Blk.new W0 zPc 52
  rw [show W0.alloc (.cells zPc 52) = W1 from hW1, s0] at this
  exact this
 have R1 := h.below b1
 have K1 : Wrote [p] w W1 := Wrote.of_below b1
 have hpb := h.lt
 have hbs := h.base
 clear h b0;have CX := hid (pk_number R1 2 (by decide) (by decide))
 have hbl := hid hb.lt;have BX1 := hid (boxed_below hb b1)
 have Z1 := hid z1;have B1 := hid b1;replace K1 := hid K1;replace hrd := hid hrd;replace hc := hid hc;unfold fnC at hfr
 clear z1 R1 b1 hb;go_enter Tryz.func187, Tryz.ntmps187
 go_wp2_with (refine wL 161 rfl rfl x1 Tryz.underlying161 ?_)
 refine CX.out.mono ?_
 rintro e w2 (⟨hno, rfl, hw2⟩ | ⟨⟨i, r⟩, hx, rfl, R2, hw2⟩)
 ·refine ⟨rfl, K1.out.trans hw2, .inl ⟨?_, rfl⟩⟩
  rw [hrd.out, hno]
  rfl
 ·dsimp only at R2 ⊢
  have X2 := hid (x1.keepW hw2 (by simp; omega))
  have Z2 := hid (Z1.out.keepW hw2 (by simp; omega))
  have BX2 := hid (hw2.boxed (by simpa using hbp) BX1.out)
  have K2 := hid (K1.out.trans hw2)
  have R2 := hid R2;have hx := hid hx;have hs2 : w.heap.size + 2 <= w2.heap.size := by have := hw2.size; omega
  obtain ⟨ii, hii⟩ : ∃ z : Int, (i : Int) = z := ⟨_, rfl⟩
  rw [hii]
  replace hii := hid hii;clear hw2 x1;have hone : Hid (∀ v ∈ (({ zPk 0 with id := ii } : Pk).cells h3Z).toArray.toList, v.oneCell' = true) := hid (Pk.one _ h3Z)
  obtain ⟨pc, hpc⟩ : ∃ pc, (({ zPk 0 with id := ii } : Pk).cells h3Z).toArray = pc := ⟨_, rfl⟩
  have hps : Hid (pc.size = 24) := hid (by rw [<- hpc]; rfl)
  have hpl : (.agg #[.int .i64 0, .bool false, .bool false, .int .i64 0, .string ⟨#[]⟩, .string ⟨#[]⟩, .int .i64 ii, .string ⟨#[]⟩, .bool false, .int .i64 0, .bool false, .string ⟨#[]⟩, .string ⟨#[]⟩, .int .i64 0, .bool false, .bool false, .bool false, .string ⟨#[]⟩, .string ⟨#[]⟩, .bool false, .int .i64 0, .slice none 0 0, .slice none 0 0, .slice none 0 0] : Value) = .agg pc := by rw [<- hpc]; rfl
  rw [hpc] at hone
  replace hpl := hid hpl;replace hpc := hid hpc;go_upto_region 2 with (rw [hpl.out]; refine wS 52 24 rfl _ _ pc rfl rfl (Blk.new _ _ _) hps.out (by rfl) hone.out ?_; intro w3 hw3 hr3)
  have b3 : Below w2.heap.size w2 w3 := ((Below.refl _ _).alloc (Nat.le_refl _) _).trans (hr3.below (by simp) (by simp))
  have hs3 : w2.heap.size + 1 <= w3.heap.size := by have := hr3.size; simp at this; omega
  have R3 := hid (R2.out.below b3)
  have x3 := X2.out.below b3
  have Z3 := hid (Z2.out.below b3)
  have K3 := hid (K2.out.trans (Wrote.of_below b3))
  have k4 : w3.cell? ⟨b + 4, 0, none⟩ = some (fnV fr #[]) := (boxed_below BX2.out b3).cell
  have hrl : r.length <= l.length := by
   have h1 := rNum_len (k := 2) (l := l) (r := r) (n := i) hx.out
   omega
  have CC := hid (hc.out w3 w2.heap.size ii r R3.out hrl (by rw [hpc.out]; exact hw3) (by omega))
  unfold fnV at k4
  clear hr3 b3 hw3 X2 Z2 K2 R2 BX2 hrl;try simp only [PT]
  go_wp2_with (refine wL 161 rfl rfl x3 Tryz.underlying161 ?_)
  refine CC.out.mono ?_
  rintro e w4 ⟨hw4, hout⟩
  have Kx : Wrote [p] w w4 := by
   have h1 := (K3.out.sub (M' := [p, w2.heap.size]) (by simp)).trans hw4
   exact h1.cut (by simp; omega)
  rcases hout with ⟨hno, rfl⟩ | ⟨y, hy, r2, hyr, rfl, R4, Y4, hN⟩
  ·refine ⟨rfl, Kx, .inl ⟨?_, rfl⟩⟩
   rw [hrd.out, hx.out, Option.bind_some]
   dsimp only
   rw [hii.out, hno]
   rfl
  ·have Z4 := hid (Z3.out.keepW hw4 (by simp; omega))
   obtain ⟨yc, hyc⟩ : ∃ yc, (y.cells hy).toArray = yc := ⟨_, rfl⟩
   have hyo : Hid (∀ v ∈ yc.toList, v.oneCell' = true) := hid (by rw [<- hyc]; exact Pk.one y hy)
   have hyz : Hid (yc.size = 24) := hid (by rw [<- hyc]; rfl)
   have iy : Hid ((Tryz.prog.info? 52).map (·.size) = some yc.size) := hid (by rw [hyz.out]; exact (by kernel_rfl : (Tryz.prog.info? 52).map (·.size) = some 24))
   rw [hyc] at Y4
   have hyc := hid hyc;have hN := hid hN;have R4 := hid R4;have Kx := hid Kx;have hyr := hid hyr;clear hw4 k4 x3
   go_wp2_with (first
    | (refine wL 52 rfl rfl Y4 Tryz.underlying52 ?_ rfl rfl iy.out)
    | (refine wS 52 24 rfl (w.heap.size + 1) _ yc rfl rfl Z4.out hyz.out rfl hyo.out ?_; intro w5 hw5 hr5))
   refine bodyPost_ret (results_cell1 Tryz.results187 rfl (run_loadVar_blk hw5 52 Tryz.underlying52 rfl iy.out)) rfl ?_
   refine ⟨Kx.out.andNew hr5 (by simp), .inr ⟨y, hy, r2, ?_, by rw [hyc.out], R4.out.wrote hr5 (by simp; omega), fun M hM => ?_⟩⟩
   ·rw [hrd.out, hx.out, Option.bind_some]
    dsimp only
    rw [hii.out, hyr.out]
    rfl
   ·refine (hN.out ((w.heap.size + 1) :: M) (fun c hc => ?_)).step hr5 (fun c hc => .inl (by simp at hc; simp [hc])) (fun c hc => .inl (List.mem_cons_of_mem _ hc))
    rcases List.mem_cons.1 hc with rfl | hc
    ·omega
    ·have := hM c hc; omega
end
section
attribute [local go_sem] Oper.semAt_some
theorem pk_maySub (p : Pk) (h : H3) (W : World) (hin : LsAt WantV.cl 2 W h.w.a h.w.n h.w.c p.wants) (hs : ∀ x ∈ p.wants, x.filter.length <= 2000000) : Calls Tryz.prog 132 #[.agg (p.cells h).toArray] W (AnyP (fitL p.wants (mayWant)) W) := by
 have hmf : ∀ (fn : Fn) (first cap : Array Value) (w : World), (Instr.makeFunc fn first cap).run Tryz.prog w = .ok (.func fn first cap) w := fun _ _ _ _ => rfl
 obtain ⟨xc, hxc⟩ : ∃ xc, (p.cells h).toArray = xc := ⟨_, rfl⟩
 have hB : Blk (W.alloc (.cells xc 52)) W.heap.size xc 52 := Blk.new _ _ _
 have hb : Below W.heap.size W (W.alloc (.cells xc 52)) := (Below.refl _ _).alloc (Nat.le_refl _) _
 have ix : (Tryz.prog.info? 52).map (·.size) = some xc.size := by rw [<- hxc]; exact (by kernel_rfl : (Tryz.prog.info? 52).map (·.size) = some 24)
 replace hb := hid hb;have k7 : (W.alloc (.cells xc 52)).cell? ⟨W.heap.size, 21, none⟩ = some (.slice h.w.a h.w.n h.w.c) := by rw [hB.cell, <- hxc]; rfl
 have CF := hid (pk_fit_want 134 #[] (mayWant) (hin.below hb.out) (enters_of Tryz.func134 (by kernel_rfl) rfl) (fun W' x hx _ => pk_want x W' (hs x hx)))
 obtain ⟨b, hbb⟩ : ∃ b, fitL p.wants (mayWant) = b := ⟨_, rfl⟩
 rw [hbb] at CF ⊢
 rw [hxc]
 clear hbb hxc hB ix hin hs;go_enter Tryz.func132, Tryz.ntmps132
 go_wp2_with fail
 refine CF.out.mono ?_
 rintro e w1 ⟨rfl, hb1⟩
 have HB := hid (hb.out.trans (hb1.mono hb.out.size))
 clear hb1;go_wp2_with fail
 go_ret
 exact ⟨rfl, HB.out⟩
theorem pk_maySua (p : Pk) (h : H3) (W : World) (hin : LsAt iCl 1 W h.c.a h.c.n h.c.c p.codes) (hs : ∀ x ∈ p.codes, True) : Calls Tryz.prog 143 #[.agg (p.cells h).toArray] W (AnyP (fitL p.codes (mayCode)) W) := by
 have hmf : ∀ (fn : Fn) (first cap : Array Value) (w : World), (Instr.makeFunc fn first cap).run Tryz.prog w = .ok (.func fn first cap) w := fun _ _ _ _ => rfl
 obtain ⟨xc, hxc⟩ : ∃ xc, (p.cells h).toArray = xc := ⟨_, rfl⟩
 have hB : Blk (W.alloc (.cells xc 52)) W.heap.size xc 52 := Blk.new _ _ _
 have hb : Below W.heap.size W (W.alloc (.cells xc 52)) := (Below.refl _ _).alloc (Nat.le_refl _) _
 have ix : (Tryz.prog.info? 52).map (·.size) = some xc.size := by rw [<- hxc]; exact (by kernel_rfl : (Tryz.prog.info? 52).map (·.size) = some 24)
 replace hb := hid hb;have k7 : (W.alloc (.cells xc 52)).cell? ⟨W.heap.size, 22, none⟩ = some (.slice h.c.a h.c.n h.c.c) := by rw [hB.cell, <- hxc]; rfl
 have CF := hid (pk_fit_int 145 #[] (mayCode) (hin.below hb.out) (enters_of Tryz.func145 (by kernel_rfl) rfl) (fun W' x hx _ => pk_code x W'))
 obtain ⟨b, hbb⟩ : ∃ b, fitL p.codes (mayCode) = b := ⟨_, rfl⟩
 rw [hbb] at CF ⊢
 rw [hxc]
 clear hbb hxc hB ix hin hs;go_enter Tryz.func143, Tryz.ntmps143
 go_wp2_with fail
 refine CF.out.mono ?_
 rintro e w1 ⟨rfl, hb1⟩
 have HB := hid (hb.out.trans (hb1.mono hb.out.size))
 clear hb1;go_wp2_with fail
 go_ret
 exact ⟨rfl, HB.out⟩
theorem pk_mayUns (p : Pk) (h : H3) (W : World) (hin : LsAt sCl 1 W h.f.a h.f.n h.f.c p.filters) (hs : ∀ x ∈ p.filters, x.length <= 2000000) : Calls Tryz.prog 151 #[.agg (p.cells h).toArray] W (AnyP (fitL p.filters (filterR)) W) := by
 have hmf : ∀ (fn : Fn) (first cap : Array Value) (w : World), (Instr.makeFunc fn first cap).run Tryz.prog w = .ok (.func fn first cap) w := fun _ _ _ _ => rfl
 obtain ⟨xc, hxc⟩ : ∃ xc, (p.cells h).toArray = xc := ⟨_, rfl⟩
 have hB : Blk (W.alloc (.cells xc 52)) W.heap.size xc 52 := Blk.new _ _ _
 have hb : Below W.heap.size W (W.alloc (.cells xc 52)) := (Below.refl _ _).alloc (Nat.le_refl _) _
 have ix : (Tryz.prog.info? 52).map (·.size) = some xc.size := by rw [<- hxc]; exact (by kernel_rfl : (Tryz.prog.info? 52).map (·.size) = some 24)
 replace hb := hid hb;have k7 : (W.alloc (.cells xc 52)).cell? ⟨W.heap.size, 23, none⟩ = some (.slice h.f.a h.f.n h.f.c) := by rw [hB.cell, <- hxc]; rfl
 have CF := hid (pk_fit_str 135 #[] (filterR) (hin.below hb.out) (enters_of Tryz.func135 (by kernel_rfl) rfl) (fun W' x hx _ => (topic_Filter2 x W' (hs x hx)).mono fun e w' h => ⟨h⟩))
 obtain ⟨b, hbb⟩ : ∃ b, fitL p.filters (filterR) = b := ⟨_, rfl⟩
 rw [hbb] at CF ⊢
 rw [hxc]
 clear hbb hxc hB ix hin hs;go_enter Tryz.func151, Tryz.ntmps151
 go_wp2_with fail
 refine CF.out.mono ?_
 rintro e w1 ⟨rfl, hb1⟩
 have HB := hid (hb.out.trans (hb1.mono hb.out.size))
 clear hb1;go_wp2_with fail
 go_ret
 exact ⟨rfl, HB.out⟩
theorem pk_mayList (f : FuncId) (b : Nat) (q : Bool) (p : Pk) (h : H3) (W : World) (ef : fnC f) (hbx : Boxed W (b + 2) 137 (fnV f #[])) (hf : ∀ W', Below W.heap.size W W' -> Calls Tryz.prog f #[.agg (p.cells h).toArray] W' (AnyP q W')) :
  Calls Tryz.prog 183 #[.agg (p.cells h).toArray, .pointer (some ⟨b + 2, 0, none⟩)] W (AnyP (within p.id 1 65535 && q) W) := by
 have CW := hid (pk_within p.id 1 65535)
 obtain ⟨xc, hxc⟩ : ∃ xc, (p.cells h).toArray = xc := ⟨_, rfl⟩
 have hB : Blk (W.alloc (.cells xc 52)) W.heap.size xc 52 := Blk.new _ _ _
 have hb : Below W.heap.size W (W.alloc (.cells xc 52)) := (Below.refl _ _).alloc (Nat.le_refl _) _
 have ix : (Tryz.prog.info? 52).map (·.size) = some xc.size := by rw [<- hxc]; exact (by kernel_rfl : (Tryz.prog.info? 52).map (·.size) = some 24)
 replace hb := hid hb;rw [hxc] at hf
 have k6 : (W.alloc (.cells xc 52)).cell? ⟨W.heap.size, 6, none⟩ = some (.int .i64 p.id) := by rw [hB.cell, <- hxc]; rfl
 have k2 : (W.alloc (.cells xc 52)).cell? ⟨b + 2, 0, none⟩ = some (fnV f #[]) := (boxed_below hbx hb.out).cell
 have CF := hid (hf _ hb.out)
 obtain ⟨i, hi⟩ : ∃ i, p.id = i := ⟨_, rfl⟩
 rw [hi] at k6 CW ⊢
 obtain ⟨v, hv⟩ : ∃ v, within i 1 65535 = v := ⟨_, rfl⟩
 rw [hv] at CW ⊢
 rw [hxc]
 unfold fnV at k2
 unfold fnC at ef
 replace ix := hid ix;clear hxc hi hv hf hbx;go_enter Tryz.func183, Tryz.ntmps183
 go_wp2_with fail
 refine (CW.out _).mono ?_
 rintro e w1 ⟨rfl, rfl⟩
 cases v with
 | false =>
  go_wp2_with fail
  go_ret
  exact ⟨rfl, hb.out⟩
 | true =>
  have tok := hid trivial;go_wp2_with (clear tok; refine wLG 52 rfl rfl hB Tryz.underlying52 rfl ?_ ix.out)
  refine CF.out.mono ?_
  rintro e w2 ⟨rfl, hb2⟩
  have HB := hid (hb.out.trans (hb2.mono hb.out.size))
  clear hb2;cases q <;>
  ·go_wp2_with fail
   go_ret
   exact ⟨rfl, HB.out⟩
end
section
attribute [local go_sem] Oper.semAt_some
def ShK (b : Nat -> Nat) (k : Nat) (W : World) : Prop := 4 <= k -> k <= 11 -> LiAt b k W
structure MayHasP (b : Nat -> Nat) (p : Pk) (h : H3) (f1 : FuncId) (c1 : Array Value) (f2 : FuncId) (c2 : Array Value) : Prop where
 e1 : fnC f1
 e2 : fnC f2
 may : ∀ W, p.In W h -> ShK b p.kind.toNat W -> Calls Tryz.prog f1 (#[.agg (p.cells h).toArray] ++ c1) W (AnyP (mayP p) W)
 has : ∀ W, ShK b p.kind.toNat W -> Calls Tryz.prog f2 (#[.agg (p.cells h).toArray] ++ c2) W fun e w' => ∃ (y : Pk) (hy : H3), e = .returned (.agg (y.cells hy).toArray) /\ { y with kind := p.kind } = aloneP p /\ (∀ W', p.In W' h -> y.In W' hy) /\ Below W.heap.size W w'
theorem ShK.at' {b : Nat -> Nat} {p : Pk} {k : Nat} {W : World} (h : ShK b p.kind.toNat W) (hk : p.kind = (k : Int)) (h4 : 4 <= k) (h11 : k <= 11) : LiAt b k W := by
 have e : p.kind.toNat = k := by rw [hk]; rfl
 rw [e] at h
 exact h h4 h11
theorem In.z (W : World) (y : Pk) (h : y.wants = [] /\ y.codes = [] /\ y.filters = []) : y.In W h3Z := by
 obtain ⟨a, b, c⟩ := h
 refine ⟨?_, ?_, ?_⟩
 ·rw [a]; exact LsAt.nil W
 ·rw [b]; exact LsAt.nil W
 ·rw [c]; exact LsAt.nil W
theorem pk_do (b : Nat -> Nat) (p : Pk) (h : H3) (hs : PkS p) (hfw : (∀ x ∈ p.wants, x.filter.length <= 2000000) /\ ∀ x ∈ p.filters, x.length <= 2000000) (k : Nat) (hk : p.kind = (k : Int)) (hk1 : 1 <= k /\ k <= 14) : ∃ f1 c1 f2 c2 g3 g4 g5, shpV b k = .agg #[fnV f1 c1, fnV f2 c2, g3, g4, g5] /\ MayHasP b p h f1 c1 f2 c2 := by
 have : k = 1 \/ k = 2 \/ k = 3 \/ k = 4 \/ k = 5 \/ k = 6 \/ k = 7 \/ k = 8 \/ k = 9 \/ k = 10 \/ k = 11 \/ k = 12 \/ k = 13 \/ k = 14 := by omega
 rcases this with rfl | rfl | rfl | rfl | rfl | rfl | rfl | rfl | rfl | rfl | rfl | rfl | rfl | rfl
 ·skip
  refine ⟨197, #[], 200, #[], _, _, _, rfl, enters_of Tryz.func197 (by kernel_rfl) rfl, enters_of Tryz.func200 (by kernel_rfl) rfl, fun W hin hsh => ?_, fun W hsh => ?_⟩
  ·have e : mayP p = mayC p := by unfold mayP; simp [hk]
   rw [e]
   exact pk_mayCon p h W hs
  ·have e : aloneP p = { zPk 1 with client := p.client, clean := p.clean, keep := p.keep, hasWill := p.hasWill, will := p.will, hasUser := p.hasUser, hasPass := p.hasPass, user := p.user, pass := p.pass } := by unfold aloneP; simp [hk]
   rw [e]
   exact (pk_hasCon p h W).mono fun e w' ⟨he, hb⟩ => ⟨_, _, he, by rw [hk]; rfl, fun W' hW => In.z W' _ ⟨rfl, rfl, rfl⟩, hb⟩
 ·skip
  refine ⟨123, #[], 125, #[], _, _, _, rfl, enters_of Tryz.func123 (by kernel_rfl) rfl, enters_of Tryz.func125 (by kernel_rfl) rfl, fun W hin hsh => ?_, fun W hsh => ?_⟩
  ·have e : mayP p = mayA p := by unfold mayP; simp [hk]
   rw [e]
   exact pk_mayAck p h W
  ·have e : aloneP p = { zPk 2 with present := p.present, code := p.code } := by unfold aloneP; simp [hk]
   rw [e]
   exact (pk_hasAck p h W).mono fun e w' ⟨he, hb⟩ => ⟨_, _, he, by rw [hk]; rfl, fun W' hW => In.z W' _ ⟨rfl, rfl, rfl⟩, hb⟩
 ·skip
  refine ⟨204, #[], 205, #[], _, _, _, rfl, enters_of Tryz.func204 (by kernel_rfl) rfl, enters_of Tryz.func205 (by kernel_rfl) rfl, fun W hin hsh => ?_, fun W hsh => ?_⟩
  ·have e : mayP p = mayPub p := by unfold mayP; simp [hk]
   rw [e]
   exact pk_mayPub p h W hs
  ·have e : aloneP p = { zPk 3 with topic := p.topic, body := p.body, qos := p.qos, retain := p.retain, dup := p.dup, id := p.id } := by unfold aloneP; simp [hk]
   rw [e]
   exact (pk_hasPub p h W).mono fun e w' ⟨he, hb⟩ => ⟨_, _, he, by rw [hk]; rfl, fun W' hW => In.z W' _ ⟨rfl, rfl, rfl⟩, hb⟩
 ·skip
  refine ⟨183, #[.pointer (some ⟨b 4 + 2, 0, none⟩)], 184, #[.pointer (some ⟨b 4 + 1, 0, none⟩)], _, _, _, rfl, enters_of Tryz.func183 (by kernel_rfl) rfl, enters_of Tryz.func184 (by kernel_rfl) rfl, fun W hin hsh => ?_, fun W hsh => ?_⟩
  ·have e : mayP p = (within p.id 1 65535 && true) := by unfold mayP; simp [hk]
   rw [e]
   exact pk_mayList 212 (b 4) (true) p h W (enters_of Tryz.func212 (by kernel_rfl) rfl) (ShK.at' hsh hk (by decide) (by decide)).may (fun W1 _ => pk_mayAns _ W1)
  ·have e : aloneP p = { zPk 4 with id := p.id } := by unfold aloneP; simp [hk]
   rw [e]
   exact (pk_hasList 211 (b 4) p h ((zPk 0)) h3Z W (enters_of Tryz.func211 (by kernel_rfl) rfl) (ShK.at' hsh hk (by decide) (by decide)).has (fun W1 => pk_hasAns p h W1)).mono fun e w' ⟨he, hb⟩ => ⟨_, _, he, by rw [hk]; rfl, fun W' hW => In.z W' _ ⟨rfl, rfl, rfl⟩, hb⟩
 ·skip
  refine ⟨183, #[.pointer (some ⟨b 5 + 2, 0, none⟩)], 184, #[.pointer (some ⟨b 5 + 1, 0, none⟩)], _, _, _, rfl, enters_of Tryz.func183 (by kernel_rfl) rfl, enters_of Tryz.func184 (by kernel_rfl) rfl, fun W hin hsh => ?_, fun W hsh => ?_⟩
  ·have e : mayP p = (within p.id 1 65535 && true) := by unfold mayP; simp [hk]
   rw [e]
   exact pk_mayList 212 (b 5) (true) p h W (enters_of Tryz.func212 (by kernel_rfl) rfl) (ShK.at' hsh hk (by decide) (by decide)).may (fun W1 _ => pk_mayAns _ W1)
  ·have e : aloneP p = { zPk 5 with id := p.id } := by unfold aloneP; simp [hk]
   rw [e]
   exact (pk_hasList 211 (b 5) p h ((zPk 0)) h3Z W (enters_of Tryz.func211 (by kernel_rfl) rfl) (ShK.at' hsh hk (by decide) (by decide)).has (fun W1 => pk_hasAns p h W1)).mono fun e w' ⟨he, hb⟩ => ⟨_, _, he, by rw [hk]; rfl, fun W' hW => In.z W' _ ⟨rfl, rfl, rfl⟩, hb⟩
 ·skip
  refine ⟨183, #[.pointer (some ⟨b 6 + 2, 0, none⟩)], 184, #[.pointer (some ⟨b 6 + 1, 0, none⟩)], _, _, _, rfl, enters_of Tryz.func183 (by kernel_rfl) rfl, enters_of Tryz.func184 (by kernel_rfl) rfl, fun W hin hsh => ?_, fun W hsh => ?_⟩
  ·have e : mayP p = (within p.id 1 65535 && true) := by unfold mayP; simp [hk]
   rw [e]
   exact pk_mayList 212 (b 6) (true) p h W (enters_of Tryz.func212 (by kernel_rfl) rfl) (ShK.at' hsh hk (by decide) (by decide)).may (fun W1 _ => pk_mayAns _ W1)
  ·have e : aloneP p = { zPk 6 with id := p.id } := by unfold aloneP; simp [hk]
   rw [e]
   exact (pk_hasList 211 (b 6) p h ((zPk 0)) h3Z W (enters_of Tryz.func211 (by kernel_rfl) rfl) (ShK.at' hsh hk (by decide) (by decide)).has (fun W1 => pk_hasAns p h W1)).mono fun e w' ⟨he, hb⟩ => ⟨_, _, he, by rw [hk]; rfl, fun W' hW => In.z W' _ ⟨rfl, rfl, rfl⟩, hb⟩
 ·skip
  refine ⟨183, #[.pointer (some ⟨b 7 + 2, 0, none⟩)], 184, #[.pointer (some ⟨b 7 + 1, 0, none⟩)], _, _, _, rfl, enters_of Tryz.func183 (by kernel_rfl) rfl, enters_of Tryz.func184 (by kernel_rfl) rfl, fun W hin hsh => ?_, fun W hsh => ?_⟩
  ·have e : mayP p = (within p.id 1 65535 && true) := by unfold mayP; simp [hk]
   rw [e]
   exact pk_mayList 212 (b 7) (true) p h W (enters_of Tryz.func212 (by kernel_rfl) rfl) (ShK.at' hsh hk (by decide) (by decide)).may (fun W1 _ => pk_mayAns _ W1)
  ·have e : aloneP p = { zPk 7 with id := p.id } := by unfold aloneP; simp [hk]
   rw [e]
   exact (pk_hasList 211 (b 7) p h ((zPk 0)) h3Z W (enters_of Tryz.func211 (by kernel_rfl) rfl) (ShK.at' hsh hk (by decide) (by decide)).has (fun W1 => pk_hasAns p h W1)).mono fun e w' ⟨he, hb⟩ => ⟨_, _, he, by rw [hk]; rfl, fun W' hW => In.z W' _ ⟨rfl, rfl, rfl⟩, hb⟩
 ·skip
  refine ⟨183, #[.pointer (some ⟨b 8 + 2, 0, none⟩)], 184, #[.pointer (some ⟨b 8 + 1, 0, none⟩)], _, _, _, rfl, enters_of Tryz.func183 (by kernel_rfl) rfl, enters_of Tryz.func184 (by kernel_rfl) rfl, fun W hin hsh => ?_, fun W hsh => ?_⟩
  ·have e : mayP p = (within p.id 1 65535 && fitL p.wants mayWant) := by unfold mayP; simp [hk]
   rw [e]
   exact pk_mayList 132 (b 8) (fitL p.wants mayWant) p h W (enters_of Tryz.func132 (by kernel_rfl) rfl) (ShK.at' hsh hk (by decide) (by decide)).may (fun W1 hb1 => pk_maySub p h W1 (hin.below hb1).lw hfw.1)
  ·have e : aloneP p = { zPk 8 with id := p.id, wants := p.wants } := by unfold aloneP; simp [hk]
   rw [e]
   exact (pk_hasList 131 (b 8) p h ({ zPk 0 with wants := p.wants }) ⟨h.w, hdZ, hdZ⟩ W (enters_of Tryz.func131 (by kernel_rfl) rfl) (ShK.at' hsh hk (by decide) (by decide)).has (fun W1 => pk_hasSub p h W1)).mono fun e w' ⟨he, hb⟩ => ⟨_, _, he, by rw [hk]; rfl, fun W' hW => ⟨hW.lw, LsAt.nil W', LsAt.nil W'⟩, hb⟩
 ·skip
  refine ⟨183, #[.pointer (some ⟨b 9 + 2, 0, none⟩)], 184, #[.pointer (some ⟨b 9 + 1, 0, none⟩)], _, _, _, rfl, enters_of Tryz.func183 (by kernel_rfl) rfl, enters_of Tryz.func184 (by kernel_rfl) rfl, fun W hin hsh => ?_, fun W hsh => ?_⟩
  ·have e : mayP p = (within p.id 1 65535 && fitL p.codes mayCode) := by unfold mayP; simp [hk]
   rw [e]
   exact pk_mayList 143 (b 9) (fitL p.codes mayCode) p h W (enters_of Tryz.func143 (by kernel_rfl) rfl) (ShK.at' hsh hk (by decide) (by decide)).may (fun W1 hb1 => pk_maySua p h W1 (hin.below hb1).lc (fun _ _ => trivial))
  ·have e : aloneP p = { zPk 9 with id := p.id, codes := p.codes } := by unfold aloneP; simp [hk]
   rw [e]
   exact (pk_hasList 142 (b 9) p h ({ zPk 0 with codes := p.codes }) ⟨hdZ, h.c, hdZ⟩ W (enters_of Tryz.func142 (by kernel_rfl) rfl) (ShK.at' hsh hk (by decide) (by decide)).has (fun W1 => pk_hasSua p h W1)).mono fun e w' ⟨he, hb⟩ => ⟨_, _, he, by rw [hk]; rfl, fun W' hW => ⟨LsAt.nil W', hW.lc, LsAt.nil W'⟩, hb⟩
 ·skip
  refine ⟨183, #[.pointer (some ⟨b 10 + 2, 0, none⟩)], 184, #[.pointer (some ⟨b 10 + 1, 0, none⟩)], _, _, _, rfl, enters_of Tryz.func183 (by kernel_rfl) rfl, enters_of Tryz.func184 (by kernel_rfl) rfl, fun W hin hsh => ?_, fun W hsh => ?_⟩
  ·have e : mayP p = (within p.id 1 65535 && fitL p.filters filterR) := by unfold mayP; simp [hk]
   rw [e]
   exact pk_mayList 151 (b 10) (fitL p.filters filterR) p h W (enters_of Tryz.func151 (by kernel_rfl) rfl) (ShK.at' hsh hk (by decide) (by decide)).may (fun W1 hb1 => pk_mayUns p h W1 (hin.below hb1).lf hfw.2)
  ·have e : aloneP p = { zPk 10 with id := p.id, filters := p.filters } := by unfold aloneP; simp [hk]
   rw [e]
   exact (pk_hasList 150 (b 10) p h ({ zPk 0 with filters := p.filters }) ⟨hdZ, hdZ, h.f⟩ W (enters_of Tryz.func150 (by kernel_rfl) rfl) (ShK.at' hsh hk (by decide) (by decide)).has (fun W1 => pk_hasUns p h W1)).mono fun e w' ⟨he, hb⟩ => ⟨_, _, he, by rw [hk]; rfl, fun W' hW => ⟨LsAt.nil W', LsAt.nil W', hW.lf⟩, hb⟩
 ·skip
  refine ⟨183, #[.pointer (some ⟨b 11 + 2, 0, none⟩)], 184, #[.pointer (some ⟨b 11 + 1, 0, none⟩)], _, _, _, rfl, enters_of Tryz.func183 (by kernel_rfl) rfl, enters_of Tryz.func184 (by kernel_rfl) rfl, fun W hin hsh => ?_, fun W hsh => ?_⟩
  ·have e : mayP p = (within p.id 1 65535 && true) := by unfold mayP; simp [hk]
   rw [e]
   exact pk_mayList 212 (b 11) (true) p h W (enters_of Tryz.func212 (by kernel_rfl) rfl) (ShK.at' hsh hk (by decide) (by decide)).may (fun W1 _ => pk_mayAns _ W1)
  ·have e : aloneP p = { zPk 11 with id := p.id } := by unfold aloneP; simp [hk]
   rw [e]
   exact (pk_hasList 211 (b 11) p h ((zPk 0)) h3Z W (enters_of Tryz.func211 (by kernel_rfl) rfl) (ShK.at' hsh hk (by decide) (by decide)).has (fun W1 => pk_hasAns p h W1)).mono fun e w' ⟨he, hb⟩ => ⟨_, _, he, by rw [hk]; rfl, fun W' hW => In.z W' _ ⟨rfl, rfl, rfl⟩, hb⟩
 ·skip
  refine ⟨120, #[], 121, #[], _, _, _, rfl, enters_of Tryz.func120 (by kernel_rfl) rfl, enters_of Tryz.func121 (by kernel_rfl) rfl, fun W hin hsh => ?_, fun W hsh => ?_⟩
  ·have e : mayP p = true := by unfold mayP; simp [hk]
   rw [e]
   exact pk_mayEmp _ W
  ·have e : aloneP p = zPk 12 := by unfold aloneP; simp [hk]
   rw [e]
   exact (pk_hasEmp p h W).mono fun e w' ⟨he, hb⟩ => ⟨_, _, he, by rw [hk]; rfl, fun W' hW => In.z W' _ ⟨rfl, rfl, rfl⟩, hb⟩
 ·skip
  refine ⟨120, #[], 121, #[], _, _, _, rfl, enters_of Tryz.func120 (by kernel_rfl) rfl, enters_of Tryz.func121 (by kernel_rfl) rfl, fun W hin hsh => ?_, fun W hsh => ?_⟩
  ·have e : mayP p = true := by unfold mayP; simp [hk]
   rw [e]
   exact pk_mayEmp _ W
  ·have e : aloneP p = zPk 13 := by unfold aloneP; simp [hk]
   rw [e]
   exact (pk_hasEmp p h W).mono fun e w' ⟨he, hb⟩ => ⟨_, _, he, by rw [hk]; rfl, fun W' hW => In.z W' _ ⟨rfl, rfl, rfl⟩, hb⟩
 ·skip
  refine ⟨120, #[], 121, #[], _, _, _, rfl, enters_of Tryz.func120 (by kernel_rfl) rfl, enters_of Tryz.func121 (by kernel_rfl) rfl, fun W hin hsh => ?_, fun W hsh => ?_⟩
  ·have e : mayP p = true := by unfold mayP; simp [hk]
   rw [e]
   exact pk_mayEmp _ W
  ·have e : aloneP p = zPk 14 := by unfold aloneP; simp [hk]
   rw [e]
   exact (pk_hasEmp p h W).mono fun e w' ⟨he, hb⟩ => ⟨_, _, he, by rw [hk]; rfl, fun W' hW => In.z W' _ ⟨rfl, rfl, rfl⟩, hb⟩
end
section
attribute [local go_sem] Oper.semAt_some
def bCl (b : Bool) : List Value := [.bool b]
def sumT : List Bool -> List Int -> Int
 | b :: bs, x :: xs => (if b then x else 0) + sumT bs xs
 | _, _ => 0
theorem sumT_snoc : ∀ (ts : List Bool) (ls : List Int) (j : Nat) (b : Bool) (x : Int), ts[j]? = some b -> ls[j]? = some x -> sumT (ts.take (j + 1)) ls = sumT (ts.take j) ls + (if b then x else 0)
 | [], ls, j, b, x, h, _ => by simp at h
 | t :: ts, [], j, b, x, _, h => by simp at h
 | t :: ts, l :: ls, 0, b, x, h, h2 => by
  simp at h h2
  subst h h2;simp [sumT]
 | t :: ts, l :: ls, j + 1, b, x, h, h2 => by
  have := sumT_snoc ts ls j b x (by simpa using h) (by simpa using h2)
  simp only [List.take_succ_cons, sumT, this]
  omega
theorem sumT_lim : ∀ (ts : List Bool) (ls : List Int), (∀ z ∈ ls, 0 <= z /\ z <= 1000) -> 0 <= sumT ts ls /\ sumT ts ls <= 1000 * ts.length
 | [], ls, _ => by simp [sumT]
 | t :: ts, [], _ => by simp [sumT]; omega
 | t :: ts, l :: ls, h => by
  have h1 := h l (List.mem_cons_self ..)
  have h2 := sumT_lim ts ls fun z hz => h z (List.mem_cons_of_mem _ hz)
  simp only [sumT, List.length_cons]
  split <;> omega
theorem pk_bits1 (ls : List Int) (ts : List Bool) (la : Option Addr) (ln lc : Nat) (ta : Option Addr) (tn tc b : Nat) (w : World) (hb : Boxed w b 49 (.slice la ln lc)) (hl : LsAt iCl 1 w la ln lc ls) (ht : LsAt bCl 1 w ta tn tc ts) (hn : tn <= ln) (hm : tn <= 100) (hz : ∀ z ∈ ls, 0 <= z /\ z <= 1000) :
  Calls Tryz.prog 243 #[.slice ta tn tc, .pointer (some ⟨b, 0, none⟩)] w fun e w' => e = .returned (.int .i64 (sumT ts ls)) /\ w = w' := by
 have k0 := hb.cell
 have HL := hid hl;have HT := hid ht;have HZ := hid hz;have hll := hid hl.len;have htl := hid ht.len;have hlm : ln <= 9223372036854775807 := by have := hl.le; have := hl.max; unfold maxLen at this; omega
 clear hl ht hz hb;go_enter Tryz.func243, Tryz.ntmps243
 go_wp2_with fail
 go_loopw [4, 9] (fun v i wr => ∃ j : Nat, i = .int .i64 j /\ v = .int .i64 (sumT (ts.take j) ls) /\ j <= tn /\ w = wr) (fun _ i _ => tn - (intOf i).toNat)
 case atStart => exact ⟨0, by go_num, by simp [sumT], Nat.zero_le _, rfl⟩
 case round =>
  obtain ⟨j, rfl, rfl, hj, rfl⟩ := hrel
  by_cases hlt : j < tn
  ·obtain ⟨x, hx⟩ : ∃ x, ls[j]? = some x := ⟨_, List.getElem?_eq_getElem (by rw [hll.out]; omega)⟩
   obtain ⟨t, ht⟩ : ∃ x, ts[j]? = some x := ⟨_, List.getElem?_eq_getElem (by rw [htl.out]; exact hlt)⟩
   obtain ⟨g1, o1, ha1, hr1⟩ := HL.out.range hx
   obtain ⟨g2, o2, ha2, hr2⟩ := HT.out.range ht
   have c1 := hr1 _ (Below.refl _ _) 0 (.int .i64 x) rfl
   have c2 := hr2 _ (Below.refl _ _) 0 (.bool t) rfl
   simp only [Nat.mul_one, Nat.add_zero] at c1 c2
   subst ha1 ha2;have hsn := hid (sumT_snoc ts ls j t x ht hx)
   have h1 := HZ.out x (List.mem_of_getElem? hx)
   have h2 := sumT_lim (ts.take j) ls HZ.out
   have h3 : (ts.take j).length <= 100 := by simp; omega
   obtain ⟨s, hs⟩ : ∃ s, sumT (ts.take j) ls = s := ⟨_, rfl⟩
   rw [hs] at h2 hsn ⊢
   have hs0 : 0 <= s := h2.1
   have hs1 : s <= 100000 := by omega
   have hx0 := h1.1
   have hx1 := h1.2
   clear hr1 hr2 hs h1 h2 h3 ht hx;cases t with
   | true =>
    have hsn2 : Hid (sumT (ts.take (j + 1)) ls = s + x) := hid (by rw [hsn.out]; simp)
    go_wp2_with fail
    go_roundw
    case rel => exact ⟨j + 1, by go_num, by rw [hsn2.out], by omega, trivial⟩
    case measure => simp [intOf]; omega
   | false =>
    have hsn2 : Hid (sumT (ts.take (j + 1)) ls = s) := hid (by rw [hsn.out]; simp)
    go_wp2_with fail
    go_roundw
    case rel => exact ⟨j + 1, by go_num, by rw [hsn2.out], by omega, trivial⟩
    case measure => simp [intOf]; omega
  ·obtain rfl : j = tn := by omega
   rw [List.take_of_length_le (by rw [htl.out]; exact Nat.le_refl _)]
   go_wp2_with fail
   go_ret
   exact ⟨rfl, rfl⟩
theorem pk_bits (a : Option Addr) (n c : Nat) (w : World) : Calls Tryz.prog 207 #[.slice a n c] w fun e w' => e = .returned (.func (.func 243) #[] #[.pointer (some ⟨w.heap.size, 0, none⟩)]) /\ w.alloc (.cells #[.slice a n c] 49) = w' := by
 have hmf : ∀ (fn : Fn) (first cap : Array Value) (w : World), (Instr.makeFunc fn first cap).run Tryz.prog w = .ok (.func fn first cap) w := fun _ _ _ _ => rfl
 go_enter Tryz.func207, Tryz.ntmps207
 go_wp2_with fail
 go_ret
 exact ⟨rfl, rfl⟩
end
end Go.Proofs.YtkghejaimhoboaaGreatDoor
