/- Parts of the proof of ScriptCuts: contracts of functions that it reaches, and plain lemmas. No condition of their own. -/
import Derived.Test.YtkghejaimhoboaaGreatDoorPk37
import Derived.Test.YtkghejaimhoboaaGreatDoorPk39
import Derived.Defers
import Derived.Recover
import Derived.Test.YtkghejaimhoboaaGreatDoorPk01
import Derived.Test.YtkghejaimhoboaaGreatDoorProg
import Derived.Test.YtkghejaimhoboaaGreatDoorPk05
import Derived.Test.YtkghejaimhoboaaGreatDoorPk17
import Derived.Test.YtkghejaimhoboaaGreatDoorPk26
set_option linter.unusedSimpArgs false
set_option linter.unusedVariables false
set_option maxRecDepth 100000
set_option maxHeartbeats 8000000
namespace Go.Proofs.YtkghejaimhoboaaGreatDoor
open Go.RowKit Go.Shelf
section
attribute [local go_sem] Oper.semAt_some
def RdDo (b : Nat -> Nat) (k : Nat) (g : Value) : Prop := ∃ f c, g = fnV f c /\ fnC f /\ ∀ W B p l fl, fl < 16 -> ShK b k W -> (4 <= k -> k <= 11 -> b k + 4 ≠ p) -> Rd W B p l -> l.length <= 65536 -> Calls Tryz.prog f (#[.agg #[.pointer (some ⟨p, 0, none⟩)], .int .i64 ((fl : Nat) : Int)] ++ c) W (PRd k fl B p l W)
theorem readP_8 (f : Nat) (l : List UInt8) : readP 8 f l = readL8 l := by unfold readP; rw [if_neg (by decide), if_neg (by decide), if_neg (by decide), if_pos rfl]
theorem readP_9 (f : Nat) (l : List UInt8) : readP 9 f l = readL9 l := by unfold readP; rw [if_neg (by decide), if_neg (by decide), if_neg (by decide), if_neg (by decide), if_pos rfl]
theorem readP_10 (f : Nat) (l : List UInt8) : readP 10 f l = readL10 l := by unfold readP; rw [if_neg (by decide), if_neg (by decide), if_neg (by decide), if_neg (by decide), if_neg (by decide), if_pos rfl]
theorem readP_i {k : Int} (h : 4 <= k /\ k <= 11) (h8 : k ≠ 8) (h9 : k ≠ 9) (h10 : k ≠ 10) (f : Nat) (l : List UInt8) : readP k f l = readI k l := by
 unfold readP
 rw [if_neg (by omega), if_neg (by omega), if_neg (by omega), if_neg h8, if_neg h9, if_neg h10, if_pos h]
theorem pk_rd (b : Nat -> Nat) (k : Nat) (hk1 : 1 <= k /\ k <= 14) : ∃ g1 g2 g3 g4 g5, shpV b k = .agg #[g1, g2, g3, g4, g5] /\ RdDo b k g5 := by
 have : k = 1 \/ k = 2 \/ k = 3 \/ k = 4 \/ k = 5 \/ k = 6 \/ k = 7 \/ k = 8 \/ k = 9 \/ k = 10 \/ k = 11 \/ k = 12 \/ k = 13 \/ k = 14 := by omega
 rcases this with rfl | rfl | rfl | rfl | rfl | rfl | rfl | rfl | rfl | rfl | rfl | rfl | rfl | rfl
 ·exact ⟨_, _, _, _, _, rfl, 203, #[], rfl, enters_of Tryz.func203 (by kernel_rfl) rfl, fun W B p l fl hf hs ho hR hl => pk_readCon fl hR⟩
 ·exact ⟨_, _, _, _, _, rfl, 128, #[], rfl, enters_of Tryz.func128 (by kernel_rfl) rfl, fun W B p l fl hf hs ho hR hl => pk_readAck fl hR⟩
 ·exact ⟨_, _, _, _, _, rfl, 209, #[], rfl, enters_of Tryz.func209 (by kernel_rfl) rfl, fun W B p l fl hf hs ho hR hl => pk_readPub fl hf hR⟩
 ·refine ⟨_, _, _, _, _, rfl, 187, #[.pointer (some ⟨b 4 + 4, 0, none⟩)], rfl, enters_of Tryz.func187 (by kernel_rfl) rfl, fun W B p l fl hf hs ho hR hl => ?_⟩
  have hrd : readP ((4 : Nat) : Int) fl l = (rNum 2 l).bind fun i => ((fun id l => some ({ zPk 0 with id := id }, l)) (i.1 : Int) i.2).bind fun y => some ({ y.1 with kind := ((4 : Nat) : Int) }, y.2) := by
   rw [show ((4 : Nat) : Int) = 4 from rfl, readP_i (by decide) (by decide) (by decide) (by decide)]
   unfold readI
   cases rNum 2 l <;> rfl
  exact pk_readList 214 (b 4) (fun id l => some ({ zPk 0 with id := id }, l)) _ fl (enters_of Tryz.func214 (by kernel_rfl) rfl) hR (hs (by decide) (by decide)).rd (ho (by decide) (by decide)) hrd (fun W1 tb id l1 h1 h2 h3 h4 => pk_lread_ans W1 B p tb id l1 h1 h3)
 ·refine ⟨_, _, _, _, _, rfl, 187, #[.pointer (some ⟨b 5 + 4, 0, none⟩)], rfl, enters_of Tryz.func187 (by kernel_rfl) rfl, fun W B p l fl hf hs ho hR hl => ?_⟩
  have hrd : readP ((5 : Nat) : Int) fl l = (rNum 2 l).bind fun i => ((fun id l => some ({ zPk 0 with id := id }, l)) (i.1 : Int) i.2).bind fun y => some ({ y.1 with kind := ((5 : Nat) : Int) }, y.2) := by
   rw [show ((5 : Nat) : Int) = 5 from rfl, readP_i (by decide) (by decide) (by decide) (by decide)]
   unfold readI
   cases rNum 2 l <;> rfl
  exact pk_readList 214 (b 5) (fun id l => some ({ zPk 0 with id := id }, l)) _ fl (enters_of Tryz.func214 (by kernel_rfl) rfl) hR (hs (by decide) (by decide)).rd (ho (by decide) (by decide)) hrd (fun W1 tb id l1 h1 h2 h3 h4 => pk_lread_ans W1 B p tb id l1 h1 h3)
 ·refine ⟨_, _, _, _, _, rfl, 187, #[.pointer (some ⟨b 6 + 4, 0, none⟩)], rfl, enters_of Tryz.func187 (by kernel_rfl) rfl, fun W B p l fl hf hs ho hR hl => ?_⟩
  have hrd : readP ((6 : Nat) : Int) fl l = (rNum 2 l).bind fun i => ((fun id l => some ({ zPk 0 with id := id }, l)) (i.1 : Int) i.2).bind fun y => some ({ y.1 with kind := ((6 : Nat) : Int) }, y.2) := by
   rw [show ((6 : Nat) : Int) = 6 from rfl, readP_i (by decide) (by decide) (by decide) (by decide)]
   unfold readI
   cases rNum 2 l <;> rfl
  exact pk_readList 214 (b 6) (fun id l => some ({ zPk 0 with id := id }, l)) _ fl (enters_of Tryz.func214 (by kernel_rfl) rfl) hR (hs (by decide) (by decide)).rd (ho (by decide) (by decide)) hrd (fun W1 tb id l1 h1 h2 h3 h4 => pk_lread_ans W1 B p tb id l1 h1 h3)
 ·refine ⟨_, _, _, _, _, rfl, 187, #[.pointer (some ⟨b 7 + 4, 0, none⟩)], rfl, enters_of Tryz.func187 (by kernel_rfl) rfl, fun W B p l fl hf hs ho hR hl => ?_⟩
  have hrd : readP ((7 : Nat) : Int) fl l = (rNum 2 l).bind fun i => ((fun id l => some ({ zPk 0 with id := id }, l)) (i.1 : Int) i.2).bind fun y => some ({ y.1 with kind := ((7 : Nat) : Int) }, y.2) := by
   rw [show ((7 : Nat) : Int) = 7 from rfl, readP_i (by decide) (by decide) (by decide) (by decide)]
   unfold readI
   cases rNum 2 l <;> rfl
  exact pk_readList 214 (b 7) (fun id l => some ({ zPk 0 with id := id }, l)) _ fl (enters_of Tryz.func214 (by kernel_rfl) rfl) hR (hs (by decide) (by decide)).rd (ho (by decide) (by decide)) hrd (fun W1 tb id l1 h1 h2 h3 h4 => pk_lread_ans W1 B p tb id l1 h1 h3)
 ·refine ⟨_, _, _, _, _, rfl, 187, #[.pointer (some ⟨b 8 + 4, 0, none⟩)], rfl, enters_of Tryz.func187 (by kernel_rfl) rfl, fun W B p l fl hf hs ho hR hl => ?_⟩
  have hrd : readP ((8 : Nat) : Int) fl l = (rNum 2 l).bind fun i => ((fun id l => (rAll rWant l.length l).bind fun ws => some ({ zPk 0 with id := id, wants := ws }, [])) (i.1 : Int) i.2).bind fun y => some ({ y.1 with kind := ((8 : Nat) : Int) }, y.2) := by
   rw [show ((8 : Nat) : Int) = 8 from rfl, readP_8]
   unfold readL8
   cases rNum 2 l with
   | none => rfl
   | some x =>
    simp only [Option.bind_some]
    cases rAll rWant x.2.length x.2 <;> rfl
  exact pk_readList 138 (b 8) (fun id l => (rAll rWant l.length l).bind fun ws => some ({ zPk 0 with id := id, wants := ws }, [])) _ fl (enters_of Tryz.func138 (by kernel_rfl) rfl) hR (hs (by decide) (by decide)).rd (ho (by decide) (by decide)) hrd (fun W1 tb id l1 h1 h2 h3 h4 => pk_lread_want W1 B p tb id l1 h1 (by omega) h3 h4)
 ·refine ⟨_, _, _, _, _, rfl, 187, #[.pointer (some ⟨b 9 + 4, 0, none⟩)], rfl, enters_of Tryz.func187 (by kernel_rfl) rfl, fun W B p l fl hf hs ho hR hl => ?_⟩
  have hrd : readP ((9 : Nat) : Int) fl l = (rNum 2 l).bind fun i => ((fun id l => (rAll rCode l.length l).bind fun ws => some ({ zPk 0 with id := id, codes := ws }, [])) (i.1 : Int) i.2).bind fun y => some ({ y.1 with kind := ((9 : Nat) : Int) }, y.2) := by
   rw [show ((9 : Nat) : Int) = 9 from rfl, readP_9]
   unfold readL9
   cases rNum 2 l with
   | none => rfl
   | some x =>
    simp only [Option.bind_some]
    cases rAll rCode x.2.length x.2 <;> rfl
  exact pk_readList 147 (b 9) (fun id l => (rAll rCode l.length l).bind fun ws => some ({ zPk 0 with id := id, codes := ws }, [])) _ fl (enters_of Tryz.func147 (by kernel_rfl) rfl) hR (hs (by decide) (by decide)).rd (ho (by decide) (by decide)) hrd (fun W1 tb id l1 h1 h2 h3 h4 => pk_lread_int W1 B p tb id l1 h1 (by omega) h3 h4)
 ·refine ⟨_, _, _, _, _, rfl, 187, #[.pointer (some ⟨b 10 + 4, 0, none⟩)], rfl, enters_of Tryz.func187 (by kernel_rfl) rfl, fun W B p l fl hf hs ho hR hl => ?_⟩
  have hrd : readP ((10 : Nat) : Int) fl l = (rNum 2 l).bind fun i => ((fun id l => (rAll rTxt l.length l).bind fun ws => some ({ zPk 0 with id := id, filters := ws }, [])) (i.1 : Int) i.2).bind fun y => some ({ y.1 with kind := ((10 : Nat) : Int) }, y.2) := by
   rw [show ((10 : Nat) : Int) = 10 from rfl, readP_10]
   unfold readL10
   cases rNum 2 l with
   | none => rfl
   | some x =>
    simp only [Option.bind_some]
    cases rAll rTxt x.2.length x.2 <;> rfl
  exact pk_readList 154 (b 10) (fun id l => (rAll rTxt l.length l).bind fun ws => some ({ zPk 0 with id := id, filters := ws }, [])) _ fl (enters_of Tryz.func154 (by kernel_rfl) rfl) hR (hs (by decide) (by decide)).rd (ho (by decide) (by decide)) hrd (fun W1 tb id l1 h1 h2 h3 h4 => pk_lread_str W1 B p tb id l1 h1 (by omega) h3 h4)
 ·refine ⟨_, _, _, _, _, rfl, 187, #[.pointer (some ⟨b 11 + 4, 0, none⟩)], rfl, enters_of Tryz.func187 (by kernel_rfl) rfl, fun W B p l fl hf hs ho hR hl => ?_⟩
  have hrd : readP ((11 : Nat) : Int) fl l = (rNum 2 l).bind fun i => ((fun id l => some ({ zPk 0 with id := id }, l)) (i.1 : Int) i.2).bind fun y => some ({ y.1 with kind := ((11 : Nat) : Int) }, y.2) := by
   rw [show ((11 : Nat) : Int) = 11 from rfl, readP_i (by decide) (by decide) (by decide) (by decide)]
   unfold readI
   cases rNum 2 l <;> rfl
  exact pk_readList 214 (b 11) (fun id l => some ({ zPk 0 with id := id }, l)) _ fl (enters_of Tryz.func214 (by kernel_rfl) rfl) hR (hs (by decide) (by decide)).rd (ho (by decide) (by decide)) hrd (fun W1 tb id l1 h1 h2 h3 h4 => pk_lread_ans W1 B p tb id l1 h1 h3)
 ·exact ⟨_, _, _, _, _, rfl, 122, #[], rfl, enters_of Tryz.func122 (by kernel_rfl) rfl, fun W B p l fl hf hs ho hR hl => pk_readEmp _ (by decide) fl hR⟩
 ·exact ⟨_, _, _, _, _, rfl, 122, #[], rfl, enters_of Tryz.func122 (by kernel_rfl) rfl, fun W B p l fl hf hs ho hR hl => pk_readEmp _ (by decide) fl hR⟩
 ·exact ⟨_, _, _, _, _, rfl, 122, #[], rfl, enters_of Tryz.func122 (by kernel_rfl) rfl, fun W B p l fl hf hs ho hR hl => pk_readEmp _ (by decide) fl hR⟩
end
section
attribute [local go_sem] Oper.semAt_some
theorem stopP_is (W : World) : (Instr.typeAssert (Value.iface 157 (Value.agg #[])) 20 157 true).run Tryz.prog W = .ok (.tuple #[.agg #[], .bool true]) W := by kernel_rfl
theorem pk_quiet (a b : Value) (w : World) :
  CallsD Tryz.prog 94 #[a, b] .returning w fun e u' w' => e = .returned (.tuple #[]) /\ u' = .returning /\ w = w' := by
 refine callsD_of_wpS Tryz.func94 rfl fun c₀ cs hu => ?_
 simp only [Tryz.ntmps94, List.size_toArray, List.length_cons, List.length_nil, Nat.reduceAdd, Nat.reduceSub, Array.replicate_succ, Array.replicate_zero, List.push_toArray, List.append_toArray, List.nil_append, List.cons_append]
 apply wpS_seq
 apply wpS_region
 simp [wpOpsS, go_sem, recoverD, hu, Tryz.ntmps94, Exit.thenS]
 refine wpS_of_wp ?_
 go_wp2
 refine ⟨rfl, .returning, by cases c₀; simp_all, .tuple #[], results_none rfl _ _ _, rfl, rfl, rfl⟩
theorem pk_catch (pb eb : Nat) (cs : Array Value) (z : Int) (w : World) (hs : cs.size = 24) (h : Blk w pb cs 52) (he : Boxed w eb 31 (.int .i64 z)) (hne : pb ≠ eb) :
  CallsD Tryz.prog 94 #[.pointer (some ⟨pb, 0, none⟩), .pointer (some ⟨eb, 0, none⟩)] (.panicking givenP) w fun e u' w' =>
   e = .returned (.tuple #[]) /\ u' = .panicking [{ v := stopP, recovered := true }] /\ Blk w' pb zPc 52 /\ Boxed w' eb 31 (.int .i64 260) /\ Wrote [pb, eb] w w' := by
 refine callsD_of_wpS Tryz.func94 rfl fun c₀ cs' hu => ?_
 simp only [Tryz.ntmps94, List.size_toArray, List.length_cons, List.length_nil, Nat.reduceAdd, Nat.reduceSub, Array.replicate_succ, Array.replicate_zero, List.push_toArray, List.append_toArray, List.nil_append, List.cons_append]
 apply wpS_seq
 apply wpS_region
 simp [wpOpsS, go_sem, recoverD, hu, givenP, Tryz.ntmps94, Exit.thenS]
 refine wpS_of_wp ?_
 have hb := Blk.alloc h (.cells #[] 157)
 have hx := he.alloc (.cells #[] 157)
 have hone : Hid (∀ v ∈ zPc.toList, v.oneCell' = true) := hid (Pk.one (zPk 0) h3Z)
 unfold stopP
 have hta := stopP_is
 have hl := h.lt
 have hl2 := he.lt
 replace h := hid h;replace he := hid he;replace hs := hid hs;replace hu := hid hu;go_wp2_with (refine wS 52 24 rfl pb cs zPc rfl rfl hb rfl hs.out hone.out ?_; intro w2 hw2 hr2; have k2 := (hr2.boxed (by simpa using fun e => hne e.symm) hx); have k2c := k2.cell; have k2f := k2.frozen)
 have hset : Wrote [eb] w2 (w2.setCell ⟨eb, 0, none⟩ (.int .i64 260)) := Wrote.setCell w2 _ (by simp) _
 have H : Blk (w2.setCell ⟨eb, 0, none⟩ (.int .i64 260)) pb zPc 52 /\ Boxed (w2.setCell ⟨eb, 0, none⟩ (.int .i64 260)) eb 31 (.int .i64 260) /\ Wrote [pb, eb] w (w2.setCell ⟨eb, 0, none⟩ (.int .i64 260)) :=
  ⟨hw2.keepW hset (by simpa using hne), k2.set _, ((Wrote.alloc [pb, eb] w _).trans (hr2.sub (by simp))).trans (hset.sub (by simp))⟩
 exact ⟨rfl, _, rfl, .tuple #[], results_none rfl _ _ _, rfl, rfl, H⟩
structure PsI (w : World) (pb eb : Nat) (W : World) : Prop where
 below : Below w.heap.size w W
 pk : ∃ cs : Array Value, cs.size = 24 /\ Blk W pb cs 52
 er : ∃ z : Int, Boxed W eb 31 (.int .i64 z)
end
section
def IsRow (k : IntKind) (w : World) (a : Option Addr) (len cap : Nat) (zs : List Int) : Prop :=
 (a = none /\ len = 0 /\ cap = 0 /\ zs = []) \/
 ∃ x, a = some x /\ len <= cap /\ cap <= maxLen /\ zs.length = cap /\ (∀ i, i < zs.length -> w.cell? (x.add i) = some (.int k (zs.getD i 0))) /\ ∀ n ∈ zs, (Lit.int k n).wf = true
theorem IsRow.row {k : IntKind} {w : World} {a : Option Addr} {len cap : Nat} {zs : List Int} (h : IsRow k w a len cap zs) : RowAt w a len cap (ns k (zs.take len)) /\ ∀ n ∈ zs.take len, (Lit.int k n).wf = true := by
 rcases h with ⟨rfl, rfl, rfl, rfl⟩ | ⟨x, rfl, hl, hm, hz, hc, hwf⟩
 ·exact ⟨RowAt.empty w, by simp⟩
 ·refine ⟨⟨by simp [ns]; omega, hl, hm, (fun e => by cases e), fun i hi => ?_⟩, fun n hn => hwf n (List.mem_of_mem_take hn)⟩
  have h0 := hc i (by omega)
  obtain ⟨b, off, spot⟩ := x
  have hspot : spot = none := by
   have h1 := hc 0 (by omega)
   simpa [Addr.add] using World.cell?_spot h1
  subst hspot;refine ⟨b, off, rfl, ?_⟩
  have e1 : (ns k (zs.take len))[i]? = some (.int k (zs.getD i 0)) := by
   rw [ns_get k _ i (by simp; omega), List.getElem?_take_of_lt hi]
   rfl
  rw [e1, <- h0]
  by_cases h0 : i = 0
  ·subst h0; simp [Addr.add]
  ·simp [Addr.add, h0]
theorem IsRow.bytes {w : World} {a : Option Addr} {len cap : Nat} {zs : List Int} (h : IsRow .u8 w a len cap zs) : ∃ l : List UInt8, RowAt w a len cap (bs l) := by
 obtain ⟨h1, h2⟩ := h.row
 refine ⟨(zs.take len).map fun z => UInt8.ofNat z.toNat, ?_⟩
 have e : bs ((zs.take len).map fun z => UInt8.ofNat z.toNat) = ns .u8 (zs.take len) := by
  simp only [bs, ns, List.map_map]
  refine List.map_congr_left fun z hz => ?_
  have hw := h2 z hz
  simp only [Lit.wf, Bool.and_eq_true, decide_eq_true_eq] at hw
  have hmin : IntKind.u8.min = 0 := rfl
  have hmax : IntKind.u8.max = 255 := rfl
  simp only [Function.comp]
  congr 1
  rw [UInt8.toNat_ofNat']
  omega
 rw [e]; exact h1
end
section
theorem byteL_mod (m : Nat) : (byteL m).toNat % 128 = m % 128 := by
 have := byteL_int m
 split at this <;> omega
theorem byteL_lt (m : Nat) : (byteL m).toNat < 128 ↔ m < 128 := by
 have := byteL_int m
 split at this <;> omega
theorem rawL_cons (s m : Nat) : rawL (s + 1) m = byteL m :: rawL s (m / 128) := rfl
theorem takenL_raw (s m : Nat) (h : m < 128 ^ s) : takenL (rawL s m) = m := by
 induction s generalizing m with
 | zero => simp at h; subst h; rfl
 | succ s ih =>
  rw [rawL_cons, takenL, byteL_mod, ih (m / 128) (by rw [Nat.pow_succ] at h; omega)]
  omega
theorem idxOf_raw (k m : Nat) (t : List UInt8) (h : m < 128 ^ (k + 1)) (h2 : k = 0 \/ 128 ^ k <= m) : idxOf (fun x : UInt8 => decide (x.toNat < 128)) (rawL (k + 1) m ++ t) = k := by
 induction k generalizing m with
 | zero =>
  have h1 := (byteL_lt m).2 (by simpa using h)
  simp [rawL_cons, idxOf, h1]
 | succ k ih =>
  have hp : 128 ^ (k + 1) <= m := h2.resolve_left (by omega)
  rw [Nat.pow_succ] at hp h
  have hpos : 0 < 128 ^ k := Nat.pow_pos (by decide)
  have h128 : ¬ (byteL m).toNat < 128 := fun h1 => by have := (byteL_lt m).1 h1; omega
  have h3 := ih (m / 128) (by omega) (by omega)
  rw [rawL_cons (k + 1) m, List.cons_append, idxOf]
  simp only [h128, decide_false, h3]
  simp
  omega
theorem idxOf_takeL {α : Type} (p : α -> Bool) (l : List α) (k m : Nat) (h : idxOf p l = k) (hm : k < m) : idxOf p (l.take m) = k := by
 induction l generalizing k m with
 | nil => simp [idxOf] at h
 | cons x l ih =>
  cases m with
  | zero => omega
  | succ m =>
   simp only [List.take_succ_cons, idxOf] at h ⊢
   by_cases hp : p x = true
   ·simp only [hp, if_true] at h ⊢; exact h
   ·simp only [hp] at h ⊢
    have h1 := (idxOf_lt p l).2
    by_cases h0 : idxOf p l < 0
    ·simp [h0] at h
    ·simp only [h0] at h
     have h2 := ih (k - 1) m (by simp at h; omega) (by simp at h; omega)
     rw [h2]
     simp at h ⊢
     omega
theorem readL_raw (n : Int) (hm : mayL n = true) (t : List UInt8) : readL (rawL (sizeL n) n.toNat ++ t) = (n, (sizeL n : Int), 0) := by
 obtain ⟨h1, h2⟩ := (mayL_iff n).1 hm
 obtain ⟨m, rfl⟩ := Int.eq_ofNat_of_zero_le h1
 rw [Int.toNat_natCast]
 obtain ⟨k, hk, hk4, hlo, hhi⟩ : ∃ k, sizeL (m : Int) = k + 1 /\ k < 4 /\ (k = 0 \/ 128 ^ k <= m) /\ m < 128 ^ (k + 1) := by
  have h3 := sizeL_nat m (by omega)
  split at h3
  ·exact ⟨0, h3, by omega, .inl rfl, by simpa using by omega⟩
  ·split at h3
   ·exact ⟨1, h3, by omega, .inr (by simp; omega), by simp; omega⟩
   ·split at h3
    ·exact ⟨2, h3, by omega, .inr (by simp; omega), by simp; omega⟩
    ·exact ⟨3, h3, by omega, .inr (by simp; omega), by simp; omega⟩
 rw [hk]
 have e1 := idxOf_takeL _ _ k 4 (idxOf_raw k m t hhi hlo) hk4
 have e2 : (rawL (k + 1) m ++ t).take (k + 1) = rawL (k + 1) m := by
  rw [List.take_append_of_le_length (by rw [rawL_len]; exact Nat.le_refl _), List.take_of_length_le (by rw [rawL_len]; exact Nat.le_refl _)]
 unfold readL
 simp only [e1, Int.toNat_natCast, e2, takenL_raw (k + 1) m hhi, hk]
 rw [if_neg (by omega)]
 simp
end
section
theorem rawL_taken : ∀ (l : List UInt8) (k : Nat), l.length = k + 1 -> (∀ j, j < k -> ∀ x, l[j]? = some x -> 128 <= x.toNat) -> (∀ x, l[k]? = some x -> x.toNat < 128 /\ (k = 0 \/ x.toNat ≠ 0)) ->
  rawL (k + 1) (takenL l) = l /\ (k = 0 \/ takenL l ≠ 0)
 | [], k, h, _, _ => by simp at h
 | x :: l, 0, h, _, h2 => by
  obtain rfl : l = [] := by cases l with | nil => rfl | cons _ _ => simp at h
  obtain ⟨h3, -⟩ := h2 x rfl
  refine ⟨?_, .inl rfl⟩
  unfold rawL takenL takenL rawL
  rw [Nat.mul_zero, Nat.add_zero, Nat.mod_eq_of_lt h3, if_pos h3]
  simp
 | x :: l, k + 1, h, h1, h2 => by
  have hl : l.length = k + 1 := by simpa using h
  obtain ⟨e1, e2⟩ := rawL_taken l k hl (fun j hj y hy => h1 (j + 1) (by omega) y (by simpa using hy)) (fun y hy => by
   obtain ⟨a, b⟩ := h2 y (by simpa using hy)
   exact ⟨a, .inr (b.resolve_left (by omega))⟩)
  have hx : 128 <= x.toNat := h1 0 (by omega) x rfl
  have hx2 := x.toNat_lt
  have ht : takenL l ≠ 0 := by
   rcases e2 with rfl | h4
   ·match l, hl with
    | [y], _ =>
     obtain ⟨a, b⟩ := h2 y rfl
     unfold takenL takenL
     have := b.resolve_left (by omega)
     omega
   ·exact h4
  have h5 : takenL (x :: l) = x.toNat % 128 + 128 * takenL l := rfl
  have h6 : ¬ takenL (x :: l) < 128 := by omega
  have h7 : takenL (x :: l) % 128 + 128 = x.toNat := by omega
  have h8 : takenL (x :: l) / 128 = takenL l := by omega
  refine ⟨?_, .inr (by omega)⟩
  unfold rawL
  rw [if_neg h6, h7, h8, e1]
  simp
theorem idxOf_eq {α : Type} (p : α -> Bool) : ∀ (l : List α) (k : Nat), idxOf p l = (k : Int) -> (∃ x, l[k]? = some x /\ p x = true) /\ ∀ j, j < k -> ∀ x, l[j]? = some x -> p x = false
 | [], k, h => by simp [idxOf] at h
 | x :: l, k, h => by
  unfold idxOf at h
  by_cases hx : p x = true
  ·rw [if_pos hx] at h
   obtain rfl : k = 0 := by omega
   exact ⟨⟨x, rfl, hx⟩, fun j hj => by omega⟩
  ·rw [if_neg hx] at h
   dsimp only at h
   split at h
   ·omega
   ·rename_i hge
    cases k with
    | zero => omega
    | succ k =>
     obtain ⟨⟨y, h1, h2⟩, h3⟩ := idxOf_eq p l k (by omega)
     refine ⟨⟨y, by simpa using h1, h2⟩, fun j hj z hz => ?_⟩
     cases j with
     | zero =>
      simp at hz
      subst hz;simpa using hx
     | succ j => exact h3 j (by omega) z (by simpa using hz)
theorem readL_some {l : List UInt8} (h0 : (readL l).2.2 = 0) (h1 : (readL l).2.1 ≠ 0) :
  ∃ n : Nat, (readL l).1 = (n : Int) /\ mayL n = true /\ (readL l).2.1 = (sizeL n : Int) /\ l.take (sizeL n) = rawL (sizeL n) n /\ sizeL n <= l.length := by
 unfold readL at h0 h1 ⊢
 dsimp only at h0 h1 ⊢
 obtain ⟨e, he⟩ : ∃ e, idxOf (fun x : UInt8 => decide (x.toNat < 128)) (l.take 4) = e := ⟨_, rfl⟩
 rw [he] at h0 h1 ⊢
 split at h1
 ·split at h1 <;> simp at h1
 rename_i hge
 obtain ⟨k, rfl⟩ := Int.eq_ofNat_of_zero_le (show 0 <= e by omega)
 rw [if_neg hge] at h0 ⊢
 simp only [Int.toNat_natCast] at h0 h1 ⊢
 split at h1
 case isFalse => simp at h1
 rename_i hs
 rw [if_pos hs]
 obtain ⟨⟨x, hx, hp⟩, hall⟩ := idxOf_eq _ _ _ he
 rw [List.getElem?_take] at hx
 split at hx
 case isFalse => cases hx
 rename_i hk4
 have hkl : k < l.length := (List.getElem?_eq_some_iff.1 hx).1
 have hp : x.toNat < 128 := by simpa using hp
 have hlk : (l.take k).length = k := List.length_take_of_le (by omega)
 have hsn : l.take (k + 1) = l.take k ++ [x] := by rw [List.take_add_one, hx]; rfl
 have hne : x.toNat ≠ 0 \/ k = 0 := by
  have h2 := takenL_snoc (l.take k) x
  have h3 := takenL_lt (l.take k)
  rw [hlk] at h2 h3
  rw [Nat.mod_eq_of_lt hp] at h2
  refine (sizeL_last (takenL (l.take k)) k x.toNat h3 hk4 hp).1 ?_
  rw [<- h2, <- hsn]
  exact hs
 obtain ⟨e1, -⟩ := rawL_taken (l.take (k + 1)) k (List.length_take_of_le (by omega)) (fun j hj y hy => by
  rw [List.getElem?_take, if_pos (by omega)] at hy
  have h4 := hall j hj y (by rw [List.getElem?_take, if_pos (by omega)]; exact hy)
  have h5 : ¬ y.toNat < 128 := by simpa using h4
  omega) (fun y hy => by
  rw [List.getElem?_take, if_pos (by omega), hx] at hy
  cases hy
  exact ⟨hp, hne.symm⟩)
 refine ⟨takenL (l.take (k + 1)), rfl, ?_, by rw [hs]; simp, by rw [hs]; exact e1.symm, by omega⟩
 unfold sizeL at hs
 split at hs
 ·omega
 ·rename_i h; simpa using h
instance : DecidableEq Pk := fun p q => decidable_of_iff _ (Pk.same_iff p q).symm
instance (p : Pk) : Decidable (rightP p) := inferInstanceAs (Decidable (_ /\ _))
def lenB (n : Nat) : List UInt8 := rawL (sizeL n) n
def rawPk (p : Pk) : List UInt8 := UInt8.ofNat (16 * p.kind.toNat + flagN p) :: (lenB (bodyP p).length ++ bodyP p)
def parsePk (l : List UInt8) : Option Pk := match l with
 | [] => none
 | h :: r =>
  if (readL r).2.2 = 0 /\ (readL r).2.1 ≠ 0 /\ (r.length : Int) - (readL r).2.1 = (readL r).1 then
   (readP ((h.toNat / 16 : Nat) : Int) (h.toNat % 16) (r.drop (readL r).2.1.toNat)).bind fun x =>
    if x.2 = [] /\ flagN x.1 = h.toNat % 16 /\ rightP x.1 then some x.1 else none
  else none
theorem flagN_lt {p : Pk} (h : rightP p) : flagN p < 16 := by
 unfold flagN
 split
 ·rename_i hk
  have h1 := h.1
  unfold mayP at h1
  simp only [hk] at h1
  have h2 : mayPub p = true := by simpa using h1
  unfold mayPub at h2
  have h3 : within p.qos 0 2 = true := by
   simp only [Bool.and_eq_true] at h2
   exact h2.1.2
  have h4 := within_iff.1 h3
  unfold bitN
  split <;> split <;> omega
 ·split <;> decide
theorem flat_le {α : Type} (f : α -> List UInt8) (m : Nat) : ∀ (l : List α), (∀ x ∈ l, (f x).length <= m) -> (l.flatMap f).length <= l.length * m
 | [], _ => by simp
 | x :: l, h => by
  have h1 := flat_le f m l (fun y hy => h y (List.mem_cons_of_mem _ hy))
  have h2 := h x (List.mem_cons_self ..)
  rw [List.flatMap_cons, List.length_append, List.length_cons, Nat.add_mul]
  omega
theorem txtB_len (s : List UInt8) : (txtB s).length = 2 + s.length := by
 unfold txtB
 rw [List.length_append, numB_len]
theorem filterR_len {s : List UInt8} (h : filterR s = true) : s.length <= 200 := by
 unfold filterR at h
 rw [Bool.and_eq_true] at h
 have h1 := h.2
 unfold saidR at h1
 simp only [Bool.and_eq_true, decide_eq_true_eq] at h1
 omega
theorem ite_len (b : Prop) [Decidable b] (x : List UInt8) (m : Nat) (h : b -> x.length <= m) : (if b then x else []).length <= m := by
 split
 ·rename_i hb; exact h hb
 ·simp
theorem bodyP_len {p : Pk} (h : rightP p) : (bodyP p).length <= 5000 := by
 have hm := h.1
 by_cases h1 : p.kind = 1
 ·have hc : mayC p = true := by unfold mayP at hm; simpa [h1] using hm
  obtain ⟨a1, -, a3, a4, a5⟩ := mayC_parts hc
  have b1 := saidN_len a1
  have b3 : (if p.hasWill then txtB p.will.topic ++ txtB p.will.body else []).length <= 2210 := ite_len _ _ _ fun hw => by
   rcases a3 with ⟨e, -⟩ | ⟨-, c1, c2, -⟩
   ·rw [e] at hw; cases hw
   ·have := nameR_len c1
    rw [List.length_append, txtB_len, txtB_len]; omega
  have b4 : (if p.hasUser then txtB p.user else []).length <= 202 := ite_len _ _ _ fun hw => by
   rcases a4 with ⟨-, c1⟩ | ⟨e, -⟩
   ·have := saidN_len c1
    rw [txtB_len]; omega
   ·rw [e] at hw; cases hw
  have b5 : (if p.hasPass then txtB p.pass else []).length <= 202 := ite_len _ _ _ fun hw => by
   rcases a5 with ⟨-, c1⟩ | ⟨e, -⟩
   ·rw [txtB_len]; omega
   ·rw [e] at hw; cases hw
  unfold bodyP
  rw [if_pos h1]
  simp only [List.length_append, txtB_len, numB_len] at b3 b4 b5 ⊢
  have : mqtt.length = 4 := rfl
  omega
 by_cases h2 : p.kind = 2
 ·rw [bodyP_2 h2, List.length_append, numB_len, numB_len]; omega
 by_cases h3 : p.kind = 3
 ·have hc : mayPub p = true := by unfold mayP at hm; simpa [h3] using hm
  unfold mayPub at hc
  simp only [Bool.and_eq_true, decide_eq_true_eq] at hc
  have := nameR_len hc.1.1.1
  have b2 : (if 0 < p.qos then numB 2 p.id.toNat else []).length <= 2 := ite_len _ _ _ fun _ => by rw [numB_len]; omega
  rw [bodyP_3 h3, List.length_append, List.length_append, txtB_len]
  omega
 by_cases h8 : p.kind = 8
 ·have hc : fitL p.wants mayWant = true := by
   unfold mayP at hm
   simp only [h8] at hm
   simp at hm
   exact hm.2
  have hall := fitL_all hc
  have hle : p.wants.length <= 8 := by unfold fitL at hc; simp only [Bool.and_eq_true, decide_eq_true_eq] at hc; omega
  have := flat_le wantB 203 p.wants (fun x hx => by
   have h4 := hall x hx
   unfold mayWant at h4
   rw [Bool.and_eq_true] at h4
   have := filterR_len h4.1
   unfold wantB
   rw [List.length_append, txtB_len, numB_len]
   omega)
  rw [bodyP_8 h8, List.length_append, numB_len]
  omega
 by_cases h9 : p.kind = 9
 ·have hc : fitL p.codes mayCode = true := by
   unfold mayP at hm
   simp only [h9] at hm
   simp at hm
   exact hm.2
  have hle : p.codes.length <= 8 := by unfold fitL at hc; simp only [Bool.and_eq_true, decide_eq_true_eq] at hc; omega
  have := flat_le (fun c : Int => numB 1 c.toNat) 1 p.codes (fun x _ => by rw [numB_len]; omega)
  rw [bodyP_9 h9, List.length_append, numB_len]
  omega
 by_cases h10 : p.kind = 10
 ·have hc : fitL p.filters filterR = true := by
   unfold mayP at hm
   simp only [h10] at hm
   simp at hm
   exact hm.2
  have hall := fitL_all hc
  have hle : p.filters.length <= 8 := by unfold fitL at hc; simp only [Bool.and_eq_true, decide_eq_true_eq] at hc; omega
  have := flat_le txtB 202 p.filters (fun x hx => by
   have := filterR_len (hall x hx)
   rw [txtB_len]
   omega)
  rw [bodyP_10 h10, List.length_append, numB_len]
  omega
 by_cases hi : 4 <= p.kind /\ p.kind <= 11
 ·rw [bodyP_i hi h8 h9 h10, numB_len]; omega
 ·rw [bodyP_0 h1 h2 h3 h8 h9 h10 hi]; simp
theorem sizeL_le4 (n : Int) : sizeL n <= 4 := sizeL_le n
theorem rawPk_len {p : Pk} (h : rightP p) : (rawPk p).length <= 5005 := by
 unfold rawPk lenB
 rw [List.length_cons, List.length_append, rawL_len]
 have := bodyP_len h
 have := sizeL_le4 (bodyP p).length
 omega
theorem parsePk_iff (b : List UInt8) (p : Pk) : parsePk b = some p ↔ rightP p /\ rawPk p = b := by
 constructor
 ·intro h
  unfold parsePk at h
  split at h
  ·cases h
  rename_i hd r
  split at h
  case isFalse => cases h
  rename_i hc
  obtain ⟨c0, c1, c2⟩ := hc
  obtain ⟨n, e1, e2, e3, e4, e5⟩ := readL_some c0 c1
  rw [e3] at c2 h
  rw [e1] at c2
  rw [Int.toNat_natCast] at h
  cases hx : readP ((hd.toNat / 16 : Nat) : Int) (hd.toNat % 16) (r.drop (sizeL n)) with
  | none => rw [hx] at h; cases h
  | some x =>
   rw [hx, Option.bind_some] at h
   split at h
   case isFalse => cases h
   rename_i hr
   obtain ⟨r1, r2, r3⟩ := hr
   cases h
   obtain ⟨q, rest⟩ := x
   dsimp only at r1 r2 r3
   subst r1;obtain ⟨f1, f2, f3, f4⟩ := reads_iff.1 ⟨hx, r2, r3⟩
   refine ⟨f1, ?_⟩
   unfold rawPk lenB
   dsimp only
   have h7 : (bodyP q).length = n := by rw [f4, List.length_drop]; omega
   rw [f2, f3, h7, f4, <- e4, List.take_append_drop]
   have h8 : 16 * ((hd.toNat / 16 : Nat) : Int).toNat + hd.toNat % 16 = hd.toNat := by rw [Int.toNat_natCast]; omega
   rw [h8]
   simp
 ·rintro ⟨h, rfl⟩
  have hk := rightP_kind h
  have hf := flagN_lt h
  have hl := bodyP_len h
  have hm : mayL (bodyP p).length = true := (mayL_iff _).2 (by omega)
  have hr := readL_raw ((bodyP p).length : Int) hm (bodyP p)
  rw [Int.toNat_natCast] at hr
  have hs : sizeL ((bodyP p).length : Int) ≠ 0 := by
   unfold sizeL
   rw [hm]
   simp only [Bool.true_eq_false, if_false]
   repeat' split
   all_goals decide
  have hb : (UInt8.ofNat (16 * p.kind.toNat + flagN p)).toNat = 16 * p.kind.toNat + flagN p := u8_of _ (by omega)
  unfold parsePk rawPk lenB
  dsimp only
  rw [hr]
  dsimp only
  rw [if_pos ⟨rfl, by omega, by rw [List.length_append, rawL_len]; omega⟩, Int.toNat_natCast, List.drop_append_of_le_length (by rw [rawL_len]; omega), List.drop_of_length_le (by rw [rawL_len]; omega), List.nil_append, hb]
  have g1 : (16 * p.kind.toNat + flagN p) / 16 = p.kind.toNat := by omega
  have g2 : (16 * p.kind.toNat + flagN p) % 16 = flagN p := by omega
  rw [g1, g2, Int.toNat_of_nonneg (by omega), readP_body h, Option.bind_some, if_pos ⟨rfl, rfl, h⟩]
def pkC : PkCode := ⟨rawPk, parsePk, parsePk_iff, fun p h => by have := rawPk_len h; omega⟩
end
end Go.Proofs.YtkghejaimhoboaaGreatDoor
