/- Parts of the proof of ScriptCuts: contracts of functions that it reaches, and plain lemmas. No condition of their own. -/
import Derived.Test.YtkghejaimhoboaaGreatDoorPk06
import Derived.Shelf.Strings.Runes
import Derived.Shelf.Strings.IndexAnyAll
import Derived.Ground.SlgmProg
import Derived.Test.YtkghejaimhoboaaGreatDoorProg
import Derived.Handy
import Derived.Test.YtkghejaimhoboaaGreatDoorPk05
import Derived.Laws.EntriesVeiled
set_option linter.unusedSimpArgs false
set_option linter.unusedVariables false
set_option maxRecDepth 100000
set_option maxHeartbeats 8000000
namespace Go.Proofs.YtkghejaimhoboaaGreatDoor
open Go.RowKit Go.Shelf
section
structure RowV where
 kind : Int
 client : List UInt8
 seq : Int
 id : Int
 topic : List UInt8
 body : List UInt8
 qos : Int
 retain : Bool
 stage : Int
def RowV.vals (r : RowV) : Array Value := #[.int .i64 r.kind, .string ⟨r.client.toArray⟩, .int .i64 r.seq, .int .i64 r.id, .string ⟨r.topic.toArray⟩, .string ⟨r.body.toArray⟩, .int .i64 r.qos, .bool r.retain, .int .i64 r.stage]
theorem rec_within (n a b : Int) (w : World) :
  Calls Tryz.prog 247 #[.int .i64 n, .int .i64 a, .int .i64 b] w fun e w' => e = .returned (.bool (decide (a <= n) && decide (n <= b))) /\ w = w' := by
 by_cases h : a <= n
 ·go_enter Tryz.func247, Tryz.ntmps247
  go_wp2
  go_ret
  simp [h]
 ·have d : decide (a <= n) = false := decide_eq_false h
  go_enter Tryz.func247, Tryz.ntmps247
  go_wp2
  go_ret
  simp [d]
def clientR (s : List UInt8) : Bool := !s.isEmpty && decide (s.length <= 23) && decide (wrongU s = -1)
theorem rec_client (s : List UInt8) (w : World) (hs : s.length <= 9223372036854775807) :
  Calls Tryz.prog 246 #[.string ⟨s.toArray⟩] w fun e w' => e = .returned (.bool (clientR s)) /\ Below w.heap.size w w' := by
 have hsz : ByteArray.size ⟨s.toArray⟩ = s.length := by simp [ByteArray.size]
 have fin : ∀ b : Bool, clientR s = b -> Ending.returned (.bool b) = .returned (.bool (clientR s)) := fun b h => by rw [h]
 have HF := hid fin;clear fin;by_cases h0 : s = []
 ·subst h0
  go_enter Tryz.func246, Tryz.ntmps246
  go_wp2
  go_ret
  exact ⟨HF.out _ rfl, Below.refl _ _⟩
 have e0 : ((⟨s.toArray⟩ : ByteArray).toList == (⟨#[]⟩ : ByteArray).toList) = false := by
  rw [ByteArray.toList_eq, ByteArray.toList_eq]
  simpa using h0
 have e1 : s.isEmpty = false := by cases s <;> simp at h0 ⊢
 have HS0 := hid h0;clear h0;by_cases h1 : s.length <= 23
 ·have CC := hid (utf_Check s w (by omega))
  by_cases hw : wrongU s = -1
  ·rw [show checkU s = 0 by unfold checkU; rw [hw]; rfl] at CC
   have HB := hid (show clientR s = true by unfold clientR; rw [e1, hw]; simp [h1])
   clear hw;go_enter Tryz.func246, Tryz.ntmps246
   go_wp2_with (go_at_call 241; refine CC.out.mono ?_; rintro e w1 ⟨rfl, hb⟩)
   go_ret
   exact ⟨HF.out _ HB.out, hb⟩
  ·rw [show checkU s = 220 by unfold checkU; rw [if_pos (by have := wrongU_lo s; omega)]] at CC
   have HB := hid (show clientR s = false by unfold clientR; rw [e1]; simp [hw])
   clear hw;go_enter Tryz.func246, Tryz.ntmps246
   go_wp2_with (go_at_call 241; refine CC.out.mono ?_; rintro e w1 ⟨rfl, hb⟩)
   go_ret
   exact ⟨HF.out _ HB.out, hb⟩
 ·have d1 : decide ((s.length : Int) <= 23) = false := decide_eq_false (by omega)
  have HB := hid (show clientR s = false by unfold clientR; rw [e1]; simp [h1])
  clear h1;go_enter Tryz.func246, Tryz.ntmps246
  go_wp2
  go_ret
  exact ⟨HF.out _ HB.out, Below.refl _ _⟩
def kindV (s : List UInt8) (a b c : Nat) (p : Bool) : Value := .agg #[.string ⟨s.toArray⟩, .func (.func a) #[] #[], .func (.func b) #[] #[], .func (.func c) #[] #[], .bool p]
def kindsE : Array MapEntry := #[
 { key := .int .i64 1, val := kindV [115, 101, 115, 115, 105, 111, 110] 245 248 249 false, born := 0 },
 { key := .int .i64 2, val := kindV [115, 117, 98] 251 252 253 true, born := 1 },
 { key := .int .i64 3, val := kindV [111, 117, 116] 255 256 257 false, born := 2 },
 { key := .int .i64 4, val := kindV [105, 110] 259 260 261 false, born := 3 },
 { key := .int .i64 5, val := kindV [114, 101, 116, 97, 105, 110] 262 263 264 true, born := 4 }]
theorem rec_kinds (w : World) :
  Calls Tryz.prog 223 #[] w fun e w' => e = .returned (.map (some w.heap.size)) /\ w'.heap[w.heap.size]? = some (.map kindsE 5) /\ Below w.heap.size w w' := by
 have hmm := @run_makeMap Tryz.prog
 have hb0 : (w.alloc (.map #[] 0)).heap[w.heap.size]? = some (.map #[] 0) := by show (w.heap.push _)[w.heap.size]? = _; simp
 have B0 : Below w.heap.size w (w.alloc (.map #[] 0)) := (Below.refl _ w).alloc (Nat.le_refl _) _
 go_enter Tryz.func223, Tryz.ntmps223
 go_wp2_with (refine wpList_insert_new _ rfl _ _ _ 262 rfl 133 260 .i64 Tryz.underlying262 Tryz.underlying133 _ _ _ rfl (by with_reducible assumption) _ _ rfl rfl (by simp [putE]) ?_; intro w1 hb1 hg1; replace B0 := B0.grown hg1 B0.size (fun k hk => by cases hk; exact Nat.le_refl _); clear hg1)
 go_ret
 refine ⟨rfl, ?_, B0⟩
 rw [hb1]
 rfl
end
section
open Go.Shelf
def Tryz.lays152_ren : Go.Shelf.Ren := ⟨fun | 152 => 280 | 137 => 301 | 119 => 302 | 224 => 303 | 225 => 304 | 217 => 328 | 266 => 350 | n => n, fun | 9 => 9 | 21 => 21 | 3 => 3 | 4 => 4 | 5 => 5 | 0 => 0 | 46 => 144 | n => n, fun | n => n⟩
theorem Tryz.lays152 : Go.Proofs.Lays.n152 Tryz.prog Tryz.lays152_ren := {
 mixed := by kernel_rfl
 f119 := Tryz.func302.trans (congrArg some (by kernel_rfl))
 f137 := Tryz.func301.trans (congrArg some (by kernel_rfl))
 f152 := Tryz.func280.trans (congrArg some (by kernel_rfl))
 f217 := Tryz.func328.trans (congrArg some (by kernel_rfl))
 f224 := Tryz.func303.trans (congrArg some (by kernel_rfl))
 f225 := Tryz.func304.trans (congrArg some (by kernel_rfl))
 f266 := Tryz.func350.trans (congrArg some (by kernel_rfl))
 t0 := Tryz.underlying0
 a0 := Tryz.isAgg0
 z0 := Tryz.sizeOf0
 v0 := Tryz.zeroValue0
 t3 := Tryz.underlying3
 a3 := Tryz.isAgg3
 z3 := Tryz.sizeOf3
 v3 := Tryz.zeroValue3
 t4 := Tryz.underlying4
 a4 := Tryz.isAgg4
 z4 := Tryz.sizeOf4
 v4 := Tryz.zeroValue4
 t5 := Tryz.underlying5
 a5 := Tryz.isAgg5
 z5 := Tryz.sizeOf5
 v5 := Tryz.zeroValue5
 t9 := Tryz.underlying9
 a9 := Tryz.isAgg9
 z9 := Tryz.sizeOf9
 v9 := Tryz.zeroValue9
 t21 := Tryz.underlying21
 a21 := Tryz.isAgg21
 z21 := Tryz.sizeOf21
 v21 := Tryz.zeroValue21
 t46 := Tryz.underlying144
 a46 := Tryz.isAgg144
 z46 := Tryz.sizeOf144
 v46 := Tryz.zeroValue144 }
open Go.RowKit Go.Lib in
theorem Tryz.strings_IndexRune_ascii (s : ByteArray) (r : Int) (w : World) (h0 : 0 <= r) (h1 : r < 128) :
  Calls Tryz.prog 280 #[.string s, .int .i32 r] w fun e w' => e = .returned (.int .i64 (Lib.indexByte s.data.toList r.toNat.toUInt8)) /\ w' = w := Any.strings_IndexRune_ascii Tryz.lays152 s r w h0 h1
def Tryz.lays153_ren : Go.Shelf.Ren := ⟨fun | 153 => 240 | 152 => 280 | 226 => 281 | 227 => 282 | 228 => 283 | 137 => 301 | 119 => 302 | 224 => 303 | 225 => 304 | 217 => 328 | 266 => 350 | n => n, fun | 9 => 9 | 3 => 3 | 4 => 4 | 5 => 5 | 21 => 21 | 117 => 332 | 116 => 331 | 0 => 0 | 46 => 144 | 124 => 350 | n => n, fun | n => n⟩
theorem Tryz.lays153 : Go.Proofs.Lays.n153 Tryz.prog Tryz.lays153_ren := {
 mixed := by kernel_rfl
 f119 := Tryz.func302.trans (congrArg some (by kernel_rfl))
 f137 := Tryz.func301.trans (congrArg some (by kernel_rfl))
 f152 := Tryz.func280.trans (congrArg some (by kernel_rfl))
 f153 := Tryz.func240.trans (congrArg some (by kernel_rfl))
 f217 := Tryz.func328.trans (congrArg some (by kernel_rfl))
 f224 := Tryz.func303.trans (congrArg some (by kernel_rfl))
 f225 := Tryz.func304.trans (congrArg some (by kernel_rfl))
 f226 := Tryz.func281.trans (congrArg some (by kernel_rfl))
 f227 := Tryz.func282.trans (congrArg some (by kernel_rfl))
 f228 := Tryz.func283.trans (congrArg some (by kernel_rfl))
 f266 := Tryz.func350.trans (congrArg some (by kernel_rfl))
 t0 := Tryz.underlying0
 a0 := Tryz.isAgg0
 z0 := Tryz.sizeOf0
 v0 := Tryz.zeroValue0
 t3 := Tryz.underlying3
 a3 := Tryz.isAgg3
 z3 := Tryz.sizeOf3
 v3 := Tryz.zeroValue3
 t4 := Tryz.underlying4
 a4 := Tryz.isAgg4
 z4 := Tryz.sizeOf4
 v4 := Tryz.zeroValue4
 t5 := Tryz.underlying5
 a5 := Tryz.isAgg5
 z5 := Tryz.sizeOf5
 v5 := Tryz.zeroValue5
 t9 := Tryz.underlying9
 a9 := Tryz.isAgg9
 z9 := Tryz.sizeOf9
 v9 := Tryz.zeroValue9
 t21 := Tryz.underlying21
 a21 := Tryz.isAgg21
 z21 := Tryz.sizeOf21
 v21 := Tryz.zeroValue21
 t46 := Tryz.underlying144
 a46 := Tryz.isAgg144
 z46 := Tryz.sizeOf144
 v46 := Tryz.zeroValue144
 t116 := Tryz.underlying331
 a116 := Tryz.isAgg331
 z116 := Tryz.sizeOf331
 t117 := Tryz.underlying332
 a117 := Tryz.isAgg332
 z117 := Tryz.sizeOf332
 v117 := Tryz.zeroValue332
 t124 := Tryz.underlying350
 a124 := Tryz.isAgg350
 z124 := Tryz.sizeOf350
 v124 := Tryz.zeroValue350 }
open Go.RowKit Go.Lib in
theorem Tryz.strings_IndexAny_long (hv116 : ∀ w, (zeroValue 331).run Tryz.prog w = .ok (.agg (Array.replicate 256 (.bool false))) w) (s chars : ByteArray) (w : World) (h2 : 2 <= chars.size) (h8 : 8 < s.size) (hs : s.size < 4294967281) (hcs : chars.size < 4294967281) (hascii : ∀ (j : Nat) b, chars.data.toList[j]? = some b -> b.toNat < 128) :
  Calls Tryz.prog 240 #[.string s, .string chars] w fun e w' => e = .returned (.int .i64 (Lib.indexAny s.data.toList chars.data.toList)) /\ w' = ((w.alloc (.cells (Lib.setCells chars.data.toList) 331)).alloc (.cells (Lib.setCells chars.data.toList) 331)) := Any.strings_IndexAny_long Tryz.lays153 hv116 (by kernel_rfl) s chars w h2 h8 hs hcs hascii
end
section
def anyR (s : List UInt8) : Bool := Go.Lib.containsAny s [43, 35]
def AnyOK (s : List UInt8) : Prop := ∀ w, Calls Tryz.prog 192 #[.string ⟨s.toArray⟩, .string ⟨#[43, 35]⟩] w fun e w' => e = .returned (.bool (anyR s)) /\ Below w.heap.size w w'
def saidR (s : List UInt8) : Bool := !s.isEmpty && decide (s.length <= 200) && decide (wrongU s = -1)
def nameR (s : List UInt8) : Bool := saidR s && !anyR s
theorem topic_said (s : List UInt8) (w : World) (hs : s.length <= 9223372036854775807) :
  Calls Tryz.prog 193 #[.string ⟨s.toArray⟩] w fun e w' => e = .returned (.bool (saidR s)) /\ Below w.heap.size w w' := by
 have hsz : ByteArray.size ⟨s.toArray⟩ = s.length := by simp [ByteArray.size]
 have fin : ∀ b : Bool, saidR s = b -> Ending.returned (.bool b) = .returned (.bool (saidR s)) := fun b h => by rw [h]
 have HF := hid fin;clear fin;by_cases h0 : s = []
 ·subst h0
  go_enter Tryz.func193, Tryz.ntmps193
  go_wp2
  go_ret
  exact ⟨HF.out _ rfl, Below.refl _ _⟩
 have e0 : ((⟨s.toArray⟩ : ByteArray).toList == (⟨#[]⟩ : ByteArray).toList) = false := by
  rw [ByteArray.toList_eq, ByteArray.toList_eq]
  simpa using h0
 have e1 : s.isEmpty = false := by cases s <;> simp at h0 ⊢
 have HS0 := hid h0;clear h0;by_cases h1 : s.length <= 200
 ·have CC := hid (utf_Check s w (by omega))
  by_cases hw : wrongU s = -1
  ·rw [show checkU s = 0 by unfold checkU; rw [hw]; rfl] at CC
   have HB := hid (show saidR s = true by unfold saidR; rw [e1, hw]; simp [h1])
   clear hw;go_enter Tryz.func193, Tryz.ntmps193
   go_wp2_with (go_at_call 241; refine CC.out.mono ?_; rintro e w1 ⟨rfl, hb⟩)
   go_ret
   exact ⟨HF.out _ HB.out, hb⟩
  ·rw [show checkU s = 220 by unfold checkU; rw [if_pos (by have := wrongU_lo s; omega)]] at CC
   have HB := hid (show saidR s = false by unfold saidR; rw [e1]; simp [hw])
   clear hw;go_enter Tryz.func193, Tryz.ntmps193
   go_wp2_with (go_at_call 241; refine CC.out.mono ?_; rintro e w1 ⟨rfl, hb⟩)
   go_ret
   exact ⟨HF.out _ HB.out, hb⟩
 ·have d1 : decide ((s.length : Int) <= 200) = false := decide_eq_false (by omega)
  have HB := hid (show saidR s = false by unfold saidR; rw [e1]; simp [h1])
  clear h1;go_enter Tryz.func193, Tryz.ntmps193
  go_wp2
  go_ret
  exact ⟨HF.out _ HB.out, Below.refl _ _⟩
theorem topic_Name (s : List UInt8) (w : World) (hs : s.length <= 9223372036854775807) (hA : AnyOK s) :
  Calls Tryz.prog 198 #[.string ⟨s.toArray⟩] w fun e w' => e = .returned (.bool (nameR s)) /\ Below w.heap.size w w' := by
 have fin : ∀ b : Bool, nameR s = b -> Ending.returned (.bool b) = .returned (.bool (nameR s)) := fun b h => by rw [h]
 have HF := hid fin;clear fin;have CS := hid (topic_said s w hs)
 have HA := hid hA;clear hA;have HN := hid (show nameR s = (saidR s && !anyR s) from rfl)
 cases hq : saidR s
 ·rw [hq] at CS HN
  clear hq;go_enter Tryz.func198, Tryz.ntmps198
  go_wp2_with (go_at_call 193; refine CS.out.mono ?_; rintro e w1 ⟨rfl, hb⟩)
  go_ret
  exact ⟨HF.out _ HN.out, hb⟩
 ·rw [hq] at CS HN
  clear hq;have HM := hid (show nameR s = !anyR s by rw [HN.out]; rfl)
  go_enter Tryz.func198, Tryz.ntmps198
  go_wp2_with (first | (go_at_call 193; refine CS.out.mono ?_; rintro e w1 ⟨rfl, hb⟩) | (go_at_call 192; refine (HA.out _).mono ?_; rintro e w2 ⟨rfl, hb2⟩))
  go_ret
  refine ⟨HF.out _ ?_, hb.trans (hb2.mono hb.size)⟩
  rw [HM.out]
end
section
theorem rec_within_b (n a b : Int) (v : Bool) (h : (decide (a <= n) && decide (n <= b)) = v) (w : World) :
  Calls Tryz.prog 247 #[.int .i64 n, .int .i64 a, .int .i64 b] w fun e w' => e = .returned (.bool v) /\ w = w' := by
 have := rec_within n a b w
 rwa [h] at this
theorem cellB {w w1 : World} {cs : Array Value} {T : Nat} (hb : Below (w.alloc (.cells cs T)).heap.size (w.alloc (.cells cs T)) w1) {j : Nat} {v : Value} (hv : cs[j]? = some v) :
  w1.cell? ⟨w.heap.size, j, none⟩ = some v := by
 rw [hb.cell (by simp [World.size_alloc])]
 exact (World.cell?_alloc_at _ _ _ _ rfl).trans hv
theorem cB {w w1 : World} {cs : Array Value} {T : Nat} (hb : Below (w.alloc (.cells cs T)).heap.size (w.alloc (.cells cs T)) w1) (j : Nat) {v : Value} (hv : cs[j]? = some v) : ∀ o, (w1.alloc o).cell? ⟨w.heap.size, j, none⟩ = some v :=
 fun o => cellB (hb.alloc hb.size o) hv
def putMay (r : RowV) : Bool := clientR r.client && (decide (0 <= r.seq) && decide (r.seq <= 4611686018427387904)) && nameR r.topic && decide ((r.body.length : Int) <= 2000) && (decide (1 <= r.qos) && decide (r.qos <= 2))
end
section
def sessMay (r : RowV) : Bool := clientR r.client && (decide (0 <= r.seq) && decide (r.seq <= 4611686018427387904)) && (decide (0 <= r.id) && decide (r.id <= 4611686018427387904))
def sessHas (r : RowV) : RowV := ⟨0, r.client, r.seq, r.id, [], [], 0, false, 0⟩
theorem kinds1 (r : RowV) (w : World) (hc : r.client.length <= 9223372036854775807) :
  Calls Tryz.prog 245 #[.agg r.vals] w fun e w' => e = .returned (.bool (sessMay r)) /\ Below w.heap.size w w' := by
 obtain ⟨kind, client, seq, id, topic, body, qos, retain, stage⟩ := r
 simp only at hc
 obtain ⟨bc, hbc⟩ : ∃ b, clientR client = b := ⟨_, rfl⟩
 obtain ⟨bs, hbs⟩ : ∃ b, (decide (0 <= seq) && decide (seq <= 4611686018427387904)) = b := ⟨_, rfl⟩
 obtain ⟨bi, hbi⟩ : ∃ b, (decide (0 <= id) && decide (id <= 4611686018427387904)) = b := ⟨_, rfl⟩
 have HP := hid (show sessMay ⟨kind, client, seq, id, topic, body, qos, retain, stage⟩ = (bc && bs && bi) by unfold sessMay; simp only; rw [hbc, hbs, hbi])
 have CC := fun w => rec_client client w hc
 rw [hbc] at CC
 have HCC := hid CC;have HCS := hid (rec_within_b _ _ _ _ hbs)
 have HCI := hid (rec_within_b _ _ _ _ hbi)
 clear CC hbc hbs hbi hc;unfold RowV.vals
 have K : bc = false \/ (bc = true /\ bs = false) \/ (bc = true /\ bs = true /\ bi = false) \/ (bc = true /\ bs = true /\ bi = true) := by
  cases bc <;> cases bs <;> cases bi <;> simp
 rcases K with rfl | ⟨rfl, rfl⟩ | ⟨rfl, rfl, rfl⟩ | ⟨rfl, rfl, rfl⟩
 all_goals
  go_enter Tryz.func245, Tryz.ntmps245
  go_wp2_with (first
   | (go_at_call 246; refine (HCC.out _).mono ?_; rintro e w1 ⟨rfl, hb⟩; have c2 := cellB hb (j := 2) rfl; have c3 := cellB hb (j := 3) rfl)
   | (go_at_call 247; refine (HCS.out _).mono ?_; rintro e w3 ⟨rfl, rfl⟩; clear HCS)
   | (go_at_call 247; refine (HCI.out _).mono ?_; rintro e w3 ⟨rfl, rfl⟩))
  go_ret
  refine ⟨by rw [HP.out]; rfl, ?_⟩
  exact ((Below.refl w.heap.size w).alloc (Nat.le_refl _) _).trans (hb.mono (by simp))
theorem kinds2 (r : RowV) (w : World) :
  Calls Tryz.prog 248 #[.agg r.vals] w fun e w' => e = .returned (.agg (sessHas r).vals) /\ Below w.heap.size w w' := by
 unfold RowV.vals sessHas
 go_enter Tryz.func248, Tryz.ntmps248
 go_wp2
 go_returns
 exact ⟨rfl, ((Below.refl w.heap.size w).alloc (Nat.le_refl _) _).alloc (by simp) _⟩
end
section
section
variable {P : Program} {ops : Array Oper} {KQ : Exit -> Act -> World -> Prop} {facts : List Fact} {taken : List Nat} {a : Act} {w : World}
theorem stepQ2 (j1 j2 : Nat) {o1 o2 : Oper} (hj1 : ops[j1]? = some o1) (hj2 : ops[j2]? = some o2) (hr : Region.ready .any ops (listedOf ops taken) = [j1, j2]) (hlt : taken.length < ops.size)
  (hw1 : Region.wanted o1 (yielded ops a.tmps) = true) (hw2 : Region.wanted o2 (yielded ops a.tmps) = true)
  (h1 : ∀ K : Act -> World -> Prop, (∀ a' w', Both (HoldR (j1 :: taken) facts w') (atR P ops KQ facts (j1 :: taken) a' w') -> K a' w') -> o1.wp P a w K KQ)
  (h2 : ∀ K : Act -> World -> Prop, (∀ a' w', Both (HoldR (j2 :: taken) facts w') (atR P ops KQ facts (j2 :: taken) a' w') -> K a' w') -> o2.wp P a w K KQ) : atR P ops KQ facts taken a w := by
 intro ht hcl hfr hpf
 have hl1 : j1 < ops.size := (Array.getElem?_eq_some_iff.1 hj1).1
 have hl2 : j2 < ops.size := (Array.getElem?_eq_some_iff.1 hj2).1
 have go : ∀ (j : Nat) (oj : Oper), ops[j]? = some oj -> j < ops.size -> j ∈ Region.ready .any ops (listedOf ops taken) -> Region.wanted oj (yielded ops a.tmps) = true ->
   (∀ K : Act -> World -> Prop, (∀ a' w', Both (HoldR (j :: taken) facts w') (atR P ops KQ facts (j :: taken) a' w') -> K a' w') -> oj.wp P a w K KQ) ->
   wpOp P ops KQ j (fun a' w' => FR facts ((listedOf ops taken).setIfInBounds j true) w' /\ wpAnyR P .any ops KQ facts (ops.size - (j :: taken).length) ((listedOf ops taken).setIfInBounds j true) a' w') a w := by
  intro j oj hj hlj hrj hw h
  have ht' : ∀ i ∈ j :: taken, i < ops.size := fun i hi => by exact (List.mem_cons.1 hi).elim (fun e => e ▸ hlj) (ht i)
  unfold wpOp
  rw [hj]
  dsimp only
  rw [if_pos hw]
  refine .inl (h _ fun a' w' hb => ?_)
  have hf : FR facts (listedOf ops (j :: taken)) w' := fun f hf hl => hb.one.mem f hf (by rw [listedOf_get _ _ ht'] at hl; exact hl)
  exact ⟨hf, hb.two ht' (hcl.step hrj) hf hpf⟩
 have e1 : ops.size - taken.length = (ops.size - (j1 :: taken).length) + 1 := by simp only [List.length_cons]; omega
 rw [e1]
 refine ⟨fun h0 => absurd (hr.symm.trans h0) (by simp), fun i hi => ?_⟩
 rw [hr] at hi
 have hi' : i = j1 \/ i = j2 := by simpa using hi
 rcases hi' with rfl | rfl
 ·exact go _ _ hj1 hl1 (by rw [hr]; simp) hw1 h1
 ·exact go _ _ hj2 hl2 (by rw [hr]; simp) hw2 h2
end
section
variable {P : Program} {ops : Array Oper} {KQ : Exit -> Act -> World -> Prop} {facts : List Fact} {taken : List Nat} {a : Act} {w : World}
theorem nilQ (i : Nat) {oi : Oper} (hi : ops[i]? = some oi) (hB : takeB ops (facts.map (·.1)) taken i = true) (hw : Region.wanted oi (yielded ops a.tmps) = true) {x : Operand} (hop : oi.op = .nilCheck x) {p : Addr} (hx : a.eval x = .pointer (some p))
  (h : atR P ops KQ facts (i :: taken) (a.put oi.dst (.pointer (some p))) w) : atR P ops KQ facts taken a w := by
 refine readQ i hi hB _ hw (fun w' _ => ?_) h
 simp [execOp, hop, hx]
theorem TL.niln {i : Nat} {oi : Oper} (hi : ops[i]? = some oi) (hB : takeB ops (facts.map (·.1)) taken i = true) (hw : Region.wanted oi (yielded ops a.tmps) = true) {x : Operand} (hop : oi.op = .nilCheck x) {p : Addr} (hx : a.eval x = .pointer (some p))
  (h : atR P ops KQ facts (i :: taken) (a.put oi.dst (.pointer (some p))) w) : TL [i] (atR P ops KQ facts taken a w) := ⟨nilQ i hi hB hw hop hx h⟩
theorem nQ (i : Nat) {X Q : Prop} (q : Q) (h : Q -> TL [i] X := by (intro hq; refine TL.niln rfl (by kernel_rfl) (by kernel_rfl) rfl rfl ?_; simp only [PT]; exact hq)) : X := (h q).out
end
end
section
theorem below_pop {w w1 : World} {o : Obj} (h : Below (w.alloc o).heap.size (w.alloc o) w1) : Below w.heap.size w w1 := ((Below.refl _ w).alloc (Nat.le_refl _) o).trans (h.mono (by simp))
theorem atR_gen {P : Program} {ops : Array Oper} {KQ : Exit -> Act -> World -> Prop} {facts : List Fact} {taken : List Nat} {a : Act} {w : World} (C : World -> Prop) (hC : C w) (h : ∀ w', C w' -> atR P ops KQ facts taken a w') : atR P ops KQ facts taken a w := h w hC
theorem frozenB {w w1 : World} {cs : Array Value} {T : Nat} (hb : Below (w.alloc (.cells cs T)).heap.size (w.alloc (.cells cs T)) w1) (j : Nat) : w1.frozen? ⟨w.heap.size, j, none⟩ = false := by
 rw [hb.frozen (by simp)]
 simp
theorem undrew {w w1 : World} (h : Below w.drew.heap.size w.drew w1) : Below w.heap.size w w1 := ⟨h.os, h.tape, h.output, h.size, h.block⟩
end
end Go.Proofs.YtkghejaimhoboaaGreatDoor
