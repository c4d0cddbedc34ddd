/- Parts of the proof of ScriptCuts: contracts of functions that it reaches, and plain lemmas. No condition of their own. -/
import Derived.Test.YtkghejaimhoboaaGreatDoorPk25
import Derived.Test.YtkghejaimhoboaaGreatDoorPk22
import Derived.Test.YtkghejaimhoboaaGreatDoorPk07
set_option linter.unusedSimpArgs false
set_option linter.unusedVariables false
set_option maxRecDepth 100000
set_option maxHeartbeats 8000000
namespace Go.Proofs.YtkghejaimhoboaaGreatDoor
open Go.RowKit Go.Shelf
section
attribute [local go_sem] Oper.semAt_some
def plainV (p : Pk) : Array Value := #[.int .i64 p.kind, .bool p.dup, .bool p.retain, .bool p.clean, .bool p.hasWill, .bool p.hasUser, .bool p.hasPass, .bool p.present, .int .i64 p.qos, .int .i64 p.code, .int .i64 p.id, .int .i64 p.keep, .string ⟨(p.topic).toArray⟩, .string ⟨(p.body).toArray⟩, .string ⟨(p.client).toArray⟩, .string ⟨(p.user).toArray⟩, .string ⟨(p.pass).toArray⟩, .string ⟨(p.will.topic).toArray⟩, .string ⟨(p.will.body).toArray⟩, .int .i64 p.will.qos, .bool p.will.retain]
theorem plain_eql (a0 b0 : Int) (a1 b1 : Bool) (a2 b2 : Bool) (a3 b3 : Bool) (a4 b4 : Bool) (a5 b5 : Bool) (a6 b6 : Bool) (a7 b7 : Bool) (a8 b8 : Int) (a9 b9 : Int) (a10 b10 : Int) (a11 b11 : Int) (a12 b12 : List UInt8) (a13 b13 : List UInt8) (a14 b14 : List UInt8) (a15 b15 : List UInt8) (a16 b16 : List UInt8) (a17 b17 : List UInt8) (a18 b18 : List UInt8) (a19 b19 : Int) (a20 b20 : Bool) (W : World) : (binOp .eql 174 (.agg #[.int .i64 a0, .bool a1, .bool a2, .bool a3, .bool a4, .bool a5, .bool a6, .bool a7, .int .i64 a8, .int .i64 a9, .int .i64 a10, .int .i64 a11, .string ⟨(a12).toArray⟩, .string ⟨(a13).toArray⟩, .string ⟨(a14).toArray⟩, .string ⟨(a15).toArray⟩, .string ⟨(a16).toArray⟩, .string ⟨(a17).toArray⟩, .string ⟨(a18).toArray⟩, .int .i64 a19, .bool a20]) (.agg #[.int .i64 b0, .bool b1, .bool b2, .bool b3, .bool b4, .bool b5, .bool b6, .bool b7, .int .i64 b8, .int .i64 b9, .int .i64 b10, .int .i64 b11, .string ⟨(b12).toArray⟩, .string ⟨(b13).toArray⟩, .string ⟨(b14).toArray⟩, .string ⟨(b15).toArray⟩, .string ⟨(b16).toArray⟩, .string ⟨(b17).toArray⟩, .string ⟨(b18).toArray⟩, .int .i64 b19, .bool b20])).run Tryz.prog W = .ok (.bool (decide (a0 = b0) && decide (a1 = b1) && decide (a2 = b2) && decide (a3 = b3) && decide (a4 = b4) && decide (a5 = b5) && decide (a6 = b6) && decide (a7 = b7) && decide (a8 = b8) && decide (a9 = b9) && decide (a10 = b10) && decide (a11 = b11) && decide (a12 = b12) && decide (a13 = b13) && decide (a14 = b14) && decide (a15 = b15) && decide (a16 = b16) && decide (a17 = b17) && decide (a18 = b18) && decide (a19 = b19) && decide (a20 = b20))) W := by
 go_simp;by_cases h0 : a0 = b0
 ·subst h0
  by_cases h1 : a1 = b1
  ·subst h1
   by_cases h2 : a2 = b2
   ·subst h2
    by_cases h3 : a3 = b3
    ·subst h3
     by_cases h4 : a4 = b4
     ·subst h4
      by_cases h5 : a5 = b5
      ·subst h5
       by_cases h6 : a6 = b6
       ·subst h6
        by_cases h7 : a7 = b7
        ·subst h7
         by_cases h8 : a8 = b8
         ·subst h8
          by_cases h9 : a9 = b9
          ·subst h9
           by_cases h10 : a10 = b10
           ·subst h10
            by_cases h11 : a11 = b11
            ·subst h11
             by_cases h12 : a12 = b12
             ·subst h12
              by_cases h13 : a13 = b13
              ·subst h13
               by_cases h14 : a14 = b14
               ·subst h14
                by_cases h15 : a15 = b15
                ·subst h15
                 by_cases h16 : a16 = b16
                 ·subst h16
                  by_cases h17 : a17 = b17
                  ·subst h17
                   by_cases h18 : a18 = b18
                   ·subst h18
                    by_cases h19 : a19 = b19
                    ·subst h19
                     by_cases h20 : a20 = b20
                     ·subst h20
                      simp
                     ·simp [h20]
                    ·simp [h19]
                   ·simp [h18]
                  ·simp [h17]
                 ·simp [h16]
                ·simp [h15]
               ·simp [h14]
              ·simp [h13]
             ·simp [h12]
            ·simp [h11]
           ·simp [h10]
          ·simp [h9]
         ·simp [h8]
        ·simp [h7]
       ·simp [h6]
      ·simp [h5]
     ·simp [h4]
    ·simp [h3]
   ·simp [h2]
  ·simp [h1]
 ·simp [h0]
theorem plain_one (p : Pk) : ∀ v ∈ (plainV p).toList, v.oneCell' = true := by
 intro v hv
 simp only [plainV, List.mem_cons, List.not_mem_nil, or_false] at hv
 rcases hv with h | h | h | h | h | h | h | h | h | h | h | h | h | h | h | h | h | h | h | h | h <;> (subst h; rfl)
theorem build_plain (p : Pk) (W : World) : (Instr.build 174 #[(0, .int .i64 p.kind), (1, .bool p.dup), (2, .bool p.retain), (3, .bool p.clean), (4, .bool p.hasWill), (5, .bool p.hasUser), (6, .bool p.hasPass), (7, .bool p.present), (8, .int .i64 p.qos), (9, .int .i64 p.code), (10, .int .i64 p.id), (11, .int .i64 p.keep), (12, .string ⟨p.topic.toArray⟩), (13, .string ⟨p.body.toArray⟩), (14, .string ⟨p.client.toArray⟩), (15, .string ⟨p.user.toArray⟩), (16, .string ⟨p.pass.toArray⟩), (17, .agg #[.string ⟨p.will.topic.toArray⟩, .string ⟨p.will.body.toArray⟩, .int .i64 p.will.qos, .bool p.will.retain])]).run Tryz.prog W = .ok (.agg (plainV p)) W := by kernel_rfl
def zPl : Array Value := plainV (zPk 0)
theorem pk_flat (p : Pk) (h : H3) (w : World) : Calls Tryz.prog 107 #[.agg (p.cells h).toArray] w fun e w' => e = .returned (.agg (plainV p)) /\ Below w.heap.size w w' := by
 obtain ⟨cs, hcs⟩ : ∃ cs, (p.cells h).toArray = cs := ⟨_, rfl⟩
 have hB : Blk (w.alloc (.cells cs 52)) w.heap.size cs 52 := Blk.new _ _ _
 have hB2 : Blk ((w.alloc (.cells cs 52)).alloc (.cells zPl 174)) w.heap.size cs 52 := hB.alloc _
 have hZ : Blk ((w.alloc (.cells cs 52)).alloc (.cells zPl 174)) (w.heap.size + 1) zPl 174 := by
  have := Blk.new (w.alloc (.cells cs 52)) zPl 174
  simpa using this
 have hb2 : Below w.heap.size w ((w.alloc (.cells cs 52)).alloc (.cells zPl 174)) := ((Below.refl _ _).alloc (Nat.le_refl _) _).alloc (by simp) _
 have k0 : ∀ o, ((w.alloc (.cells cs 52)).alloc o).cell? ⟨w.heap.size, 0, none⟩ = some (.int .i64 p.kind) := fun o => by rw [(hB.alloc o).cell, <- hcs]; rfl
 have k1 : ∀ o, ((w.alloc (.cells cs 52)).alloc o).cell? ⟨w.heap.size, 1, none⟩ = some (.bool p.dup) := fun o => by rw [(hB.alloc o).cell, <- hcs]; rfl
 have k2 : ∀ o, ((w.alloc (.cells cs 52)).alloc o).cell? ⟨w.heap.size, 2, none⟩ = some (.bool p.retain) := fun o => by rw [(hB.alloc o).cell, <- hcs]; rfl
 have k8 : ∀ o, ((w.alloc (.cells cs 52)).alloc o).cell? ⟨w.heap.size, 8, none⟩ = some (.bool p.clean) := fun o => by rw [(hB.alloc o).cell, <- hcs]; rfl
 have k10 : ∀ o, ((w.alloc (.cells cs 52)).alloc o).cell? ⟨w.heap.size, 10, none⟩ = some (.bool p.hasWill) := fun o => by rw [(hB.alloc o).cell, <- hcs]; rfl
 have k15 : ∀ o, ((w.alloc (.cells cs 52)).alloc o).cell? ⟨w.heap.size, 15, none⟩ = some (.bool p.hasUser) := fun o => by rw [(hB.alloc o).cell, <- hcs]; rfl
 have k16 : ∀ o, ((w.alloc (.cells cs 52)).alloc o).cell? ⟨w.heap.size, 16, none⟩ = some (.bool p.hasPass) := fun o => by rw [(hB.alloc o).cell, <- hcs]; rfl
 have k19 : ∀ o, ((w.alloc (.cells cs 52)).alloc o).cell? ⟨w.heap.size, 19, none⟩ = some (.bool p.present) := fun o => by rw [(hB.alloc o).cell, <- hcs]; rfl
 have k3 : ∀ o, ((w.alloc (.cells cs 52)).alloc o).cell? ⟨w.heap.size, 3, none⟩ = some (.int .i64 p.qos) := fun o => by rw [(hB.alloc o).cell, <- hcs]; rfl
 have k20 : ∀ o, ((w.alloc (.cells cs 52)).alloc o).cell? ⟨w.heap.size, 20, none⟩ = some (.int .i64 p.code) := fun o => by rw [(hB.alloc o).cell, <- hcs]; rfl
 have k6 : ∀ o, ((w.alloc (.cells cs 52)).alloc o).cell? ⟨w.heap.size, 6, none⟩ = some (.int .i64 p.id) := fun o => by rw [(hB.alloc o).cell, <- hcs]; rfl
 have k9 : ∀ o, ((w.alloc (.cells cs 52)).alloc o).cell? ⟨w.heap.size, 9, none⟩ = some (.int .i64 p.keep) := fun o => by rw [(hB.alloc o).cell, <- hcs]; rfl
 have k4 : ∀ o, ((w.alloc (.cells cs 52)).alloc o).cell? ⟨w.heap.size, 4, none⟩ = some (.string ⟨p.topic.toArray⟩) := fun o => by rw [(hB.alloc o).cell, <- hcs]; rfl
 have k5 : ∀ o, ((w.alloc (.cells cs 52)).alloc o).cell? ⟨w.heap.size, 5, none⟩ = some (.string ⟨p.body.toArray⟩) := fun o => by rw [(hB.alloc o).cell, <- hcs]; rfl
 have k7 : ∀ o, ((w.alloc (.cells cs 52)).alloc o).cell? ⟨w.heap.size, 7, none⟩ = some (.string ⟨p.client.toArray⟩) := fun o => by rw [(hB.alloc o).cell, <- hcs]; rfl
 have k17 : ∀ o, ((w.alloc (.cells cs 52)).alloc o).cell? ⟨w.heap.size, 17, none⟩ = some (.string ⟨p.user.toArray⟩) := fun o => by rw [(hB.alloc o).cell, <- hcs]; rfl
 have k18 : ∀ o, ((w.alloc (.cells cs 52)).alloc o).cell? ⟨w.heap.size, 18, none⟩ = some (.string ⟨p.pass.toArray⟩) := fun o => by rw [(hB.alloc o).cell, <- hcs]; rfl
 have hwl := hB2.mid [.int .i64 p.kind, .bool p.dup, .bool p.retain, .int .i64 p.qos, .string ⟨p.topic.toArray⟩, .string ⟨p.body.toArray⟩, .int .i64 p.id, .string ⟨p.client.toArray⟩, .bool p.clean, .int .i64 p.keep, .bool p.hasWill] [.string ⟨p.will.topic.toArray⟩, .string ⟨p.will.body.toArray⟩, .int .i64 p.will.qos, .bool p.will.retain] ((p.cells h).drop 15) (by rw [<- hcs]; rfl)
 have hone := hid (plain_one p)
 rw [hcs]
 clear hcs hB hB2;replace hb2 := hid hb2;unfold zPl at *
 go_enter Tryz.func107, Tryz.ntmps107
 go_wp2_with (first
  | (refine wS 174 21 rfl (w.heap.size + 1) _ _ rfl rfl hZ rfl rfl hone.out ?_; intro w2 hw2 hr2)
  | (refine wLm 47 rfl rfl hwl Tryz.underlying47 ?_)
  | (refine wBuild 174 rfl #[(0, .int .i64 p.kind), (1, .bool p.dup), (2, .bool p.retain), (3, .bool p.clean), (4, .bool p.hasWill), (5, .bool p.hasUser), (6, .bool p.hasPass), (7, .bool p.present), (8, .int .i64 p.qos), (9, .int .i64 p.code), (10, .int .i64 p.id), (11, .int .i64 p.keep), (12, .string ⟨p.topic.toArray⟩), (13, .string ⟨p.body.toArray⟩), (14, .string ⟨p.client.toArray⟩), (15, .string ⟨p.user.toArray⟩), (16, .string ⟨p.pass.toArray⟩), (17, .agg #[.string ⟨p.will.topic.toArray⟩, .string ⟨p.will.body.toArray⟩, .int .i64 p.will.qos, .bool p.will.retain])] rfl _ (build_plain p) ?_))
 refine bodyPost_ret (results_cell1 Tryz.results107 rfl (run_loadVar_blk hw2 174 Tryz.underlying174 rfl (by kernel_rfl))) rfl ⟨rfl, hb2.out.trans (hr2.below (by simp; omega) (by simp))⟩
end
section
attribute [local go_sem] Oper.semAt_some
structure Tells (P : Prop) (w : World) (e : Ending) (w' : World) : Prop where
 out : ∃ b : Bool, e = .returned (.bool b) /\ (b = true ↔ P) /\ Below w.heap.size w w'
theorem Tells.yes {P : Prop} {w w' : World} (h : P) (hb : Below w.heap.size w w') : Tells P w (.returned (.bool true)) w' := ⟨true, rfl, ⟨fun _ => h, fun _ => rfl⟩, hb⟩
theorem Tells.no {P : Prop} {w w' : World} (h : ¬ P) (hb : Below w.heap.size w w') : Tells P w (.returned (.bool false)) w' := ⟨false, rfl, ⟨fun e => (by cases e), fun e => absurd e h⟩, hb⟩
structure PB (b : Nat) (p : Pk) (h : H3) (q : Pk) (k : H3) (w : World) : Prop where
 one : Blk w b (p.cells h).toArray 52
 two : Blk w (b + 1) (q.cells k).toArray 52
theorem PB.below {b : Nat} {p : Pk} {h : H3} {q : Pk} {k : H3} {w w' : World} (x : PB b p h q k w) (hb : Below w.heap.size w w') : PB b p h q k w' := ⟨x.one.below hb, x.two.below hb⟩
def flatB (p q : Pk) : Bool := decide (p.kind = q.kind) && decide (p.dup = q.dup) && decide (p.retain = q.retain) && decide (p.clean = q.clean) && decide (p.hasWill = q.hasWill) && decide (p.hasUser = q.hasUser) && decide (p.hasPass = q.hasPass) && decide (p.present = q.present) && decide (p.qos = q.qos) && decide (p.code = q.code) && decide (p.id = q.id) && decide (p.keep = q.keep) && decide (p.topic = q.topic) && decide (p.body = q.body) && decide (p.client = q.client) && decide (p.user = q.user) && decide (p.pass = q.pass) && decide (p.will.topic = q.will.topic) && decide (p.will.body = q.will.body) && decide (p.will.qos = q.will.qos) && decide (p.will.retain = q.will.retain)
theorem flat_eql (p q : Pk) (W : World) : (binOp .eql 174 (.agg (plainV p)) (.agg (plainV q))).run Tryz.prog W = .ok (.bool (flatB p q)) W := by
 unfold plainV flatB
 exact plain_eql _ _ _ _ _ _ _ _ _ _ _ _ _ _ _ _ _ _ _ _ _ _ _ _ _ _ _ _ _ _ _ _ _ _ _ _ _ _ _ _ _ _ W
theorem Pk.same_iff (p q : Pk) : p = q ↔ p.wants = q.wants /\ p.codes = q.codes /\ p.filters = q.filters /\ flatB p q = true := by
 obtain ⟨a1, a2, a3, a4, a5, a6, a7, a8, a9, a10, a11, ⟨a12, a13, a14, a15⟩, a16, a17, a18, a19, a20, a21, a22, a23, a24⟩ := p
 obtain ⟨b1, b2, b3, b4, b5, b6, b7, b8, b9, b10, b11, ⟨b12, b13, b14, b15⟩, b16, b17, b18, b19, b20, b21, b22, b23, b24⟩ := q
 unfold flatB
 simp only [Bool.and_eq_true, decide_eq_true_eq, Pk.mk.injEq, WillV.mk.injEq]
 constructor
 ·rintro ⟨rfl, rfl, rfl, rfl, rfl, rfl, rfl, rfl, rfl, rfl, rfl, ⟨rfl, rfl, rfl, rfl⟩, rfl, rfl, rfl, rfl, rfl, rfl, rfl, rfl, rfl⟩
  simp
 ·rintro ⟨rfl, rfl, rfl, ⟨⟨⟨⟨⟨⟨⟨⟨⟨⟨⟨⟨⟨⟨⟨⟨⟨⟨⟨⟨rfl, rfl⟩, rfl⟩, rfl⟩, rfl⟩, rfl⟩, rfl⟩, rfl⟩, rfl⟩, rfl⟩, rfl⟩, rfl⟩, rfl⟩, rfl⟩, rfl⟩, rfl⟩, rfl⟩, rfl⟩, rfl⟩, rfl⟩, rfl⟩⟩
  simp
theorem eqg_plain (p q : Pk) (s1 s2 : Operand) (W : World) : (eqGuard .eql 174 s1 s2 (.agg (plainV p)) (.agg (plainV q))).run Tryz.prog W = .ok () W := by
 unfold plainV
 go_simp
theorem pk_Same (p : Pk) (h : H3) (q : Pk) (k : H3) (w : World) (hp : p.In w h) (hq : q.In w k) :
  Calls Tryz.prog 81 #[.agg (p.cells h).toArray, .agg (q.cells k).toArray] w (Tells (p = q) w) := by
 obtain ⟨W0, hW0⟩ : ∃ W0, (w.alloc (.cells (p.cells h).toArray 52)).alloc (.cells (q.cells k).toArray 52) = W0 := ⟨_, rfl⟩
 have hb0 : Below w.heap.size w W0 := by rw [<- hW0]; exact ((Below.refl _ _).alloc (Nat.le_refl _) _).alloc (by simp) _
 have hP0 : PB w.heap.size p h q k W0 := by
  rw [<- hW0]
  refine ⟨(Blk.new _ _ _).alloc _, ?_⟩
  have := Blk.new (w.alloc (.cells (p.cells h).toArray 52)) (q.cells k).toArray 52
  simpa using this
 have HP := hid hp;have HQ := hid hq;have hb0 := hid hb0;have hP0 := hid hP0;obtain ⟨pv, hpv⟩ : ∃ pv, (p.cells h).toArray = pv := ⟨_, rfl⟩
 obtain ⟨qv, hqv⟩ : ∃ qv, (q.cells k).toArray = qv := ⟨_, rfl⟩
 rw [hpv, hqv]
 rw [hpv, hqv] at hW0
 replace hpv := hid hpv;replace hqv := hid hqv;go_enter Tryz.func81, Tryz.ntmps81
 go_wp2_with fail
 have hPd : PB w.heap.size p h q k W0.drew := ⟨hP0.out.one, hP0.out.two⟩
 have hLd : Below w.heap.size w W0.drew := hb0.out.drew
 replace hLd := hid hLd;clear hW0;refine regionQ [(1000, fun w' => PB w.heap.size p h q k w')] (by kernel_rfl) ⟨hPd, trivial⟩ fun KQ hKQ => ?_
 refine tQ [0] ?_;refine lR 1 0 rfl rfl rfl rfl (fun w' hf => by (have k0 : w'.cell? ⟨w.heap.size, 21, none⟩ = some (.slice h.w.a h.w.n h.w.c) := hf.one.cell 21; go_simp <;> with_reducible rfl)) ?_
 simp only [PT];refine tQ [2] ?_;refine lR 3 0 rfl rfl rfl rfl (fun w' hf => by (have k0 : w'.cell? ⟨w.heap.size + 1, 21, none⟩ = some (.slice k.w.a k.w.n k.w.c) := hf.two.cell 21; go_simp <;> with_reducible rfl)) ?_
 simp only [PT];refine sQ 4 fun K hK => ?_;simp only [GO];go_simp;refine (sl_EqualW (HP.out.lw.below hLd.out) (HQ.out.lw.below hLd.out)).mono ?_
 rintro e w1 ⟨c1, rfl, hc1, hb1⟩
 have hP1 := hPd.below hb1
 have hL1 := hid (hLd.out.trans (hb1.mono hLd.out.size))
 replace hc1 := hid hc1;refine hK _ _ ⟨⟨fun _ => hP1, trivial⟩, ?_⟩
 clear hK K;try simp only [PT]
 refine tQ [5] ?_;cases c1 with
 | false =>
  have hno : Hid (¬ p = q) := hid fun e => by have := hc1.out.2 (by rw [e]); cases this
  refine uQ 6 ?_;refine uQ 7 ?_;refine uQ 8 ?_;refine uQ 9 ?_;refine uQ 10 ?_;refine tQ [11, 12] ?_;refine uQ 13 ?_;refine uQ 14 ?_;refine uQ 15 ?_;refine uQ 16 ?_;refine uQ 17 ?_;refine tQ [18, 19] ?_;refine uQ 20 ?_;refine uQ 21 ?_;refine uQ 22 ?_;refine uQ 23 ?_;refine uQ 24 ?_;refine tQ [25, 26] ?_;refine dQ (hKQ.out _ _ ?_);clear hKQ KQ;go_wp2
  go_ret
  exact Tells.no hno.out hL1.out
 | true =>
  refine tQ [6] ?_;refine lR 7 0 rfl rfl rfl rfl (fun w' hf => by (have k0 : w'.cell? ⟨w.heap.size, 22, none⟩ = some (.slice h.c.a h.c.n h.c.c) := hf.one.cell 22; go_simp <;> with_reducible rfl)) ?_
  simp only [PT];refine tQ [8] ?_;refine lR 9 0 rfl rfl rfl rfl (fun w' hf => by (have k0 : w'.cell? ⟨w.heap.size + 1, 22, none⟩ = some (.slice k.c.a k.c.n k.c.c) := hf.two.cell 22; go_simp <;> with_reducible rfl)) ?_
  simp only [PT];refine sQ 10 fun K hK => ?_;simp only [GO];go_simp;refine (sl_EqualI (HP.out.lc.below hL1.out) (HQ.out.lc.below hL1.out)).mono ?_
  rintro e w2 ⟨c2, rfl, hc2, hb2⟩
  have hP2 := hP1.below hb2
  have hL2 := hid (hL1.out.trans (hb2.mono hL1.out.size))
  replace hc2 := hid hc2;refine hK _ _ ⟨⟨fun _ => hP2, trivial⟩, ?_⟩
  clear hK K;try simp only [PT]
  refine tQ [11, 12] ?_;cases c2 with
  | false =>
   have hno : Hid (¬ p = q) := hid fun e => by have := hc2.out.2 (by rw [e]); cases this
   refine uQ 13 ?_;refine uQ 14 ?_;refine uQ 15 ?_;refine uQ 16 ?_;refine uQ 17 ?_;refine tQ [18, 19] ?_;refine uQ 20 ?_;refine uQ 21 ?_;refine uQ 22 ?_;refine uQ 23 ?_;refine uQ 24 ?_;refine tQ [25, 26] ?_;refine dQ (hKQ.out _ _ ?_);clear hKQ KQ;go_wp2
   go_ret
   exact Tells.no hno.out hL2.out
  | true =>
   refine tQ [13] ?_;refine lR 14 0 rfl rfl rfl rfl (fun w' hf => by (have k0 : w'.cell? ⟨w.heap.size, 23, none⟩ = some (.slice h.f.a h.f.n h.f.c) := hf.one.cell 23; go_simp <;> with_reducible rfl)) ?_
   simp only [PT];refine tQ [15] ?_;refine lR 16 0 rfl rfl rfl rfl (fun w' hf => by (have k0 : w'.cell? ⟨w.heap.size + 1, 23, none⟩ = some (.slice k.f.a k.f.n k.f.c) := hf.two.cell 23; go_simp <;> with_reducible rfl)) ?_
   simp only [PT];refine sQ 17 fun K hK => ?_;simp only [GO];go_simp;refine (sl_EqualS (HP.out.lf.below hL2.out) (HQ.out.lf.below hL2.out)).mono ?_
   rintro e w3 ⟨c3, rfl, hc3, hb3⟩
   have hP3 := hP2.below hb3
   have hL3 := hid (hL2.out.trans (hb3.mono hL2.out.size))
   replace hc3 := hid hc3;refine hK _ _ ⟨⟨fun _ => hP3, trivial⟩, ?_⟩
   clear hK K;try simp only [PT]
   refine tQ [18, 19] ?_;cases c3 with
   | false =>
    have hno : Hid (¬ p = q) := hid fun e => by have := hc3.out.2 (by rw [e]); cases this
    refine uQ 20 ?_;refine uQ 21 ?_;refine uQ 22 ?_;refine uQ 23 ?_;refine uQ 24 ?_;refine tQ [25, 26] ?_;refine dQ (hKQ.out _ _ ?_);clear hKQ KQ;go_wp2
    go_ret
    exact Tells.no hno.out hL3.out
   | true =>
    refine lR 20 0 rfl rfl rfl rfl (fun w' hf => run_load_blk hf.one 52 Tryz.underlying52 rfl (by kernel_rfl)) ?_
    try simp only [PT]
    refine lR 22 0 rfl rfl rfl rfl (fun w' hf => run_load_blk hf.two 52 Tryz.underlying52 rfl (by kernel_rfl)) ?_
    try simp only [PT]
    refine sQ 21 fun K hK => ?_;simp only [GO];go_simp;refine (pk_flat p h w3).mono ?_
    rintro e w4 ⟨rfl, hb4⟩
    have hP4 := hP3.below hb4
    have hL4 := hid (hL3.out.trans (hb4.mono hL3.out.size))
    refine hK _ _ ⟨⟨fun _ => hP4, trivial⟩, ?_⟩
    clear hK K;try simp only [PT]
    refine sQ 23 fun K hK => ?_;simp only [GO];go_simp;refine (pk_flat q k w4).mono ?_
    rintro e w5 ⟨rfl, hb5⟩
    have hP5 := hP4.below hb5
    have hL5 := hid (hL4.out.trans (hb5.mono hL4.out.size))
    refine hK _ _ ⟨⟨fun _ => hP5, trivial⟩, ?_⟩
    clear hK K;have hq := flat_eql p q
    have hg := eqg_plain p q
    have hiff := hid (Pk.same_iff p q)
    obtain ⟨v1, hv1⟩ : ∃ v, Value.agg (plainV p) = v := ⟨_, rfl⟩
    obtain ⟨v2, hv2⟩ : ∃ v, Value.agg (plainV q) = v := ⟨_, rfl⟩
    obtain ⟨c4, hc4⟩ : ∃ c, flatB p q = c := ⟨_, rfl⟩
    rw [hv1, hv2] at hq hg
    rw [hc4] at hq hiff
    rw [hv1, hv2]
    clear hv1 hv2 hc4;try simp only [PT]
    refine tQ [24, 25, 26] ?_;refine dQ (hKQ.out _ _ ?_);clear hKQ KQ;go_wp2
    go_ret
    refine ⟨c4, rfl, ?_, hL5.out⟩
    rw [hiff.out]
    constructor
    ·intro h4
     exact ⟨by simpa using hc1.out, by simpa using hc2.out, by simpa using hc3.out, h4⟩
    ·exact fun h4 => h4.2.2.2
end
section
attribute [local go_sem] Oper.semAt_some
theorem wLmG {P : Program} {w : World} {ops : Array Oper} {rest : List Oper} {op : Oper} {a : Act} {Q : Exit -> Act -> World -> Prop} (ty : TypeId) {x : Operand} (ho : op.op = .load ty x) {b j : Nat} {cs : List Value} (hx : a.eval x = .pointer (some ⟨b, j, none⟩)) (hr : w.rangeAt b j cs) {d : TypeDesc} (hu : P.underlying ty = some d)
  (h : wpList P ops Q rest (a.put op.dst (.agg cs.toArray)) w) (hw : Region.wanted op (yielded ops a.tmps) = true := by kernel_rfl) (hd : d.isRow = true := by rfl) (hi : (P.info? ty).map (·.size) = some cs.length := by kernel_rfl) : wpList P ops Q (op :: rest) a w := by
 have hl := run_loadAt_mid (P := P) w b j ty cs d hr hu hd hi
 unfold wpList
 rw [if_pos hw]
 refine .inl ?_
 unfold Oper.wp execOp
 simp only [ho, hx, Sem.run_bind, hl, Result.andThen_ok, Sem.run_pure]
 exact h
structure TB (b : Nat) (x : TnC) (y : TnC) (w : World) : Prop where
 one : Blk w b x.cells.toArray 55
 two : Blk w (b + 1) y.cells.toArray 55
theorem TB.below {b : Nat} {x y : TnC} {w w' : World} (h : TB b x y w) (hb : Below w.heap.size w w') : TB b x y w' := ⟨h.one.below hb, h.two.below hb⟩
theorem Tn.same_iff (t u : Tn) : t = u ↔ t.kind = u.kind /\ t.conn = u.conn /\ t.pk = u.pk /\ t.bytes = u.bytes /\ t.arm = u.arm /\ t.n = u.n /\ t.picks = u.picks := by
 obtain ⟨a1, a2, a3, a4, a5, a6, a7⟩ := t
 obtain ⟨b1, b2, b3, b4, b5, b6, b7⟩ := u
 simp
theorem sc_same (x y : TnC) (w : World) (hx : x.t.In w x.h x.hp) (hy : y.t.In w y.h y.hp) :
  Calls Tryz.prog 34 #[.agg x.cells.toArray, .agg y.cells.toArray] w (Tells (x.t = y.t) w) := by
 have hiff := Tn.same_iff x.t y.t
 obtain ⟨P, hP⟩ : ∃ P : Prop, (x.t = y.t) = P := ⟨_, rfl⟩
 rw [hP] at hiff ⊢
 clear hP;replace hiff := hid hiff;obtain ⟨⟨tk, tc, tp, tb, ta, tn, ti⟩, th, thp⟩ := x
 obtain ⟨⟨uk, uc, up, ub, ua, un, ui⟩, uh, uhp⟩ := y
 dsimp only at *
 have HX := hid hx;have HY := hid hy;obtain ⟨xv, hxv⟩ : ∃ xv, (TnC.cells ⟨⟨tk, tc, tp, tb, ta, tn, ti⟩, th, thp⟩).toArray = xv := ⟨_, rfl⟩
 obtain ⟨yv, hyv⟩ : ∃ yv, (TnC.cells ⟨⟨uk, uc, up, ub, ua, un, ui⟩, uh, uhp⟩).toArray = yv := ⟨_, rfl⟩
 obtain ⟨W0, hW0⟩ : ∃ W0, (w.alloc (.cells xv 55)).alloc (.cells yv 55) = W0 := ⟨_, rfl⟩
 have hb0 : Below w.heap.size w W0 := by rw [<- hW0]; exact ((Below.refl _ _).alloc (Nat.le_refl _) _).alloc (by simp) _
 have hT0 : TB w.heap.size ⟨⟨tk, tc, tp, tb, ta, tn, ti⟩, th, thp⟩ ⟨⟨uk, uc, up, ub, ua, un, ui⟩, uh, uhp⟩ W0 := by
  rw [<- hW0, <- hxv, <- hyv]
  refine ⟨(Blk.new _ _ _).alloc _, ?_⟩
  have := Blk.new (w.alloc (.cells (TnC.cells ⟨⟨tk, tc, tp, tb, ta, tn, ti⟩, th, thp⟩).toArray 55)) (TnC.cells ⟨⟨uk, uc, up, ub, ua, un, ui⟩, uh, uhp⟩).toArray 55
  simpa using this
 have k0 : W0.cell? ⟨w.heap.size, 0, none⟩ = some (.int .i64 tk) := hT0.one.cell 0
 have j0 : W0.cell? ⟨w.heap.size + 1, 0, none⟩ = some (.int .i64 uk) := hT0.two.cell 0
 have k1 : W0.cell? ⟨w.heap.size, 1, none⟩ = some (.int .i64 tc) := hT0.one.cell 1
 have j1 : W0.cell? ⟨w.heap.size + 1, 1, none⟩ = some (.int .i64 uc) := hT0.two.cell 1
 have hm1 := hT0.one.mid [.int .i64 tk, .int .i64 tc] (tp.cells th) [.string ⟨tb.toArray⟩, .int .i64 ta, .int .i64 tn, .slice thp.a thp.n thp.c] rfl
 have hm2 := hT0.two.mid [.int .i64 uk, .int .i64 uc] (up.cells uh) [.string ⟨ub.toArray⟩, .int .i64 ua, .int .i64 un, .slice uhp.a uhp.n uhp.c] rfl
 have hb0 := hid hb0;have hT0 := hid hT0;rw [hxv, hyv]
 replace hxv := hid hxv;replace hyv := hid hyv;by_cases h0 : tk = uk
 ·subst h0
  by_cases h1 : tc = uc
  ·subst h1
   go_enter Tryz.func34, Tryz.ntmps34
   go_wp2_with (first
    | (refine wLmG 52 rfl rfl hm1 Tryz.underlying52 ?_)
    | (refine wLmG 52 rfl rfl hm2 Tryz.underlying52 ?_))
   refine (pk_Same tp th up uh W0 (HX.out.pk.below hb0.out) (HY.out.pk.below hb0.out)).mono ?_
   rintro e w1 ⟨b1, rfl, hb1, hbel1⟩
   have hT1 := hT0.out.below hbel1
   have hL1 := hid (hb0.out.trans (hbel1.mono hb0.out.size))
   replace hb1 := hid hb1;clear k0 k1 j0 j1 hm1 hm2 hbel1;have k26 : w1.cell? ⟨w.heap.size, 26, none⟩ = some (.string ⟨tb.toArray⟩) := hT1.one.cell 26
   have j26 : w1.cell? ⟨w.heap.size + 1, 26, none⟩ = some (.string ⟨ub.toArray⟩) := hT1.two.cell 26
   have k27 : w1.cell? ⟨w.heap.size, 27, none⟩ = some (.int .i64 ta) := hT1.one.cell 27
   have j27 : w1.cell? ⟨w.heap.size + 1, 27, none⟩ = some (.int .i64 ua) := hT1.two.cell 27
   have k28 : w1.cell? ⟨w.heap.size, 28, none⟩ = some (.int .i64 tn) := hT1.one.cell 28
   have j28 : w1.cell? ⟨w.heap.size + 1, 28, none⟩ = some (.int .i64 un) := hT1.two.cell 28
   have k29 : w1.cell? ⟨w.heap.size, 29, none⟩ = some (.slice thp.a thp.n thp.c) := hT1.one.cell 29
   have j29 : w1.cell? ⟨w.heap.size + 1, 29, none⟩ = some (.slice uhp.a uhp.n uhp.c) := hT1.two.cell 29
   replace hT1 := hid hT1;cases b1 with
   | false =>
    have hno : Hid (¬ P) := hid fun e => by have := hb1.out.2 (hiff.out.1 e).2.2.1; cases this
    go_wp2
    go_ret
    exact Tells.no hno.out hL1.out
   | true =>
    by_cases h2 : tb = ub
    ·subst h2
     by_cases h3 : ta = ua
     ·subst h3
      by_cases h4 : tn = un
      ·subst h4
       go_wp2_with fail
       refine (sl_EqualI (HX.out.p.below hL1.out) (HY.out.p.below hL1.out)).mono ?_
       rintro e w2 ⟨b2, rfl, hb2, hbel2⟩
       have hL2 := hid (hL1.out.trans (hbel2.mono hL1.out.size))
       replace hb2 := hid hb2;clear hbel2;go_wp2_with fail
       go_ret
       refine ⟨b2, rfl, ?_, hL2.out⟩
       rw [hb2.out, hiff.out]
       constructor
       ·intro h5
        exact ⟨by trivial, by trivial, by simpa using hb1.out, by trivial, by trivial, by trivial, h5⟩
       ·exact fun h5 => h5.2.2.2.2.2.2
      ·have dn : (tn == un) = false := by simpa using h4
       have hno : Hid (¬ P) := hid fun e => h4 (hiff.out.1 e).2.2.2.2.2.1
       replace h4 := hid h4;go_wp2
       go_ret
       exact Tells.no hno.out hL1.out
     ·have dn : (ta == ua) = false := by simpa using h3
      have hno : Hid (¬ P) := hid fun e => h3 (hiff.out.1 e).2.2.2.2.1
      replace h3 := hid h3;go_wp2
      go_ret
      exact Tells.no hno.out hL1.out
    ·have dn : (tb == ub) = false := by simpa using h2
     have hno : Hid (¬ P) := hid fun e => h2 (hiff.out.1 e).2.2.2.1
     replace h2 := hid h2;go_wp2
     go_ret
     exact Tells.no hno.out hL1.out
  ·have dn : (tc == uc) = false := by simpa using h1
   have hno : Hid (¬ P) := hid fun e => h1 (hiff.out.1 e).2.1
   replace h1 := hid h1;go_enter Tryz.func34, Tryz.ntmps34
   go_wp2
   go_ret
   exact Tells.no hno.out hb0.out
 ·have dn : (tk == uk) = false := by simpa using h0
  have hno : Hid (¬ P) := hid fun e => h0 (hiff.out.1 e).1
  replace h0 := hid h0;go_enter Tryz.func34, Tryz.ntmps34
  go_wp2
  go_ret
  exact Tells.no hno.out hb0.out
end
section
attribute [local go_sem] Oper.semAt_some
section
variable {P : Program} {ops : Array Oper} {KQ : Exit -> Act -> World -> Prop} {facts : List Fact} {taken : List Nat} {a : Act} {w : World}
structure StepAt (P : Program) (ops : Array Oper) (KQ : Exit -> Act -> World -> Prop) (facts : List Fact) (taken : List Nat) (a : Act) (w : World) (j : Nat) : Prop where
 out : ∃ oj, ops[j]? = some oj /\ Region.wanted oj (yielded ops a.tmps) = true /\ ∀ K : Act -> World -> Prop, (∀ a' w', Both (HoldR (j :: taken) facts w') (atR P ops KQ facts (j :: taken) a' w') -> K a' w') -> oj.wp P a w K KQ
theorem stepM (L : List Nat) (h : ∀ j ∈ L, StepAt P ops KQ facts taken a w j) (hr : Region.ready .any ops (listedOf ops taken) = L := by kernel_rfl) (hlt : taken.length < ops.size := by decide) (hne : L ≠ [] := by simp) : atR P ops KQ facts taken a w := by
 intro ht hcl hfr hpf
 have e1 : ops.size - taken.length = (ops.size - (0 :: taken).length) + 1 := by simp only [List.length_cons]; omega
 rw [e1]
 refine ⟨fun h0 => absurd (hr.symm.trans h0) hne, fun i hi => ?_⟩
 rw [hr] at hi
 obtain ⟨oj, hj, hw, hk⟩ := (h i hi).out
 have hlj : i < ops.size := (Array.getElem?_eq_some_iff.1 hj).1
 have hrj : i ∈ Region.ready .any ops (listedOf ops taken) := by rw [hr]; exact hi
 have ht' : ∀ k ∈ i :: taken, k < ops.size := fun k hk' => by exact (List.mem_cons.1 hk').elim (fun e => e ▸ hlj) (ht k)
 unfold wpOp
 rw [hj]
 dsimp only
 rw [if_pos hw]
 refine .inl (hk _ fun a' w' hb => ?_)
 have hf : FR facts (listedOf ops (i :: taken)) w' := fun f hf hl => hb.one.mem f hf (by rw [listedOf_get _ _ ht'] at hl; exact hl)
 exact ⟨hf, hb.two ht' (hcl.step hrj) hf hpf⟩
theorem buildQ (i : Nat) {oi : Oper} {ty : TypeId} {parts : Array (Nat × Operand)} (vs : Array (Nat × Value)) (v : Value) (hi : ops[i]? = some oi) (hop : oi.op = .build ty parts) (hv : parts.toList.map (fun p => (p.1, a.eval p.2)) = vs.toList) (hr : ∀ W, (Instr.build ty vs).run P W = .ok v W)
  (h : atR P ops KQ facts (i :: taken) (a.put oi.dst v) w) (hB : takeB ops (facts.map (·.1)) taken i = true := by kernel_rfl) (hw : Region.wanted oi (yielded ops a.tmps) = true := by kernel_rfl) : atR P ops KQ facts taken a w := by
 have hv : parts.map (fun p => (p.1, a.eval p.2)) = vs := by
  apply Array.ext'
  rw [Array.toList_map]
  exact hv
 refine readQ i hi hB v hw (fun w' _ => ?_) h
 simp only [execOp, hop, hv, Sem.run_bind, hr, Result.andThen_ok, Sem.run_pure]
end
theorem match_fresh (w : World) : Calls Tryz.prog 222 #[] w fun e w' => ∃ p, e = .returned (.pointer (some ⟨p, 0, none⟩)) /\ Below w.heap.size w w' := by
 have hmm := @run_makeMap Tryz.prog
 have hb : Below w.heap.size w (((w.alloc (.map #[] 0)).alloc (.map #[] 0)).alloc (.cells #[.map (some w.heap.size), .map (some (w.heap.size + 1))] 286)) := (((Below.refl _ _).alloc (Nat.le_refl _) _).alloc (by simp) _).alloc (by simp; omega) _
 go_enter Tryz.func222, Tryz.ntmps222
 go_wp2
 go_ret
 exact ⟨_, rfl, hb⟩
theorem match_New (w : World) : Calls Tryz.prog 166 #[] w fun e w' => ∃ p, e = .returned (.pointer (some ⟨p, 0, none⟩)) /\ Below w.heap.size w w' := by
 have CF := hid (match_fresh w)
 go_enter Tryz.func166, Tryz.ntmps166
 go_wp2_with fail
 refine CF.out.mono ?_
 rintro e w1 ⟨p, rfl, hb⟩
 have hs := hb.size
 have HB := hid hb;clear hb;go_wp2_with fail
 go_ret
 exact ⟨_, rfl, HB.out.alloc hs _⟩
theorem brk_within (n a b : Int) (w : World) : Calls Tryz.prog 168 #[.int .i64 n, .int .i64 a, .int .i64 b] w fun e w' => e = .returned (.bool (decide (a <= n) && decide (n <= b))) /\ w = w' := by
 by_cases h1 : a <= n <;> by_cases h2 : n <= b <;>
 ·go_enter Tryz.func168, Tryz.ntmps168
  go_wp2
  go_ret
  simp [h1, h2]
end
end Go.Proofs.YtkghejaimhoboaaGreatDoor
