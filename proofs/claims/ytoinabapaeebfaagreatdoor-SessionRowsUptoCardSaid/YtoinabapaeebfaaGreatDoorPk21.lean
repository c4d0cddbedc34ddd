/- Parts of the proof of SessionRows: contracts of functions that it reaches, and plain lemmas. No condition of their own. -/
import Derived.Test.YtoinabapaeebfaaGreatDoorPk16
import Derived.Test.YtoinabapaeebfaaGreatDoorPk20
import Derived.Shelf.Strings.Search1
import Derived.Shelf.Strings.Search2
import Derived.Shelf.Strings.Search3
import Derived.Shelf.Strings.Count
import Derived.Shelf.Strings.Split
import Derived.Test.YtoinabapaeebfaaGreatDoorProg
import Derived.Test.YtoinabapaeebfaaGreatDoorPk15
import Derived.Test.YtoinabapaeebfaaGreatDoorPk06
import Derived.Test.YtoinabapaeebfaaGreatDoorPk07
set_option linter.unusedSimpArgs false
set_option linter.unusedVariables false
set_option maxRecDepth 100000
set_option maxHeartbeats 8000000
namespace Go.Proofs.YtoinabapaeebfaaGreatDoor
open Go.RowKit Go.Shelf
section
theorem r19_Right_sess (c : List UInt8) (seq id : Int) (w : World) (hm : sessMay (sessV c seq id) = true) (hc : c.length <= 1000000) (hid1 : 1 <= id /\ id <= 65535) :
  Calls Tryz.prog 50 #[.agg (sessV c seq id).vals] w fun e w' => e = .returned (.bool true) /\ Below w.heap.size w w' := by
 unfold sessMay sessV at hm
 simp only [Bool.and_eq_true, decide_eq_true_eq] at hm
 obtain ⟨⟨hbc, hbs⟩, hbi⟩ := hm
 have CC := hid fun w => r19_client c w hc
 rw [hbc] at CC
 have CS := hid (r19_number seq)
 rw [show (decide (0 <= seq) && decide (seq <= 4611686018427387904)) = true by simp [hbs]] at CS
 have CI := hid (r19_number id)
 rw [show (decide (0 <= id) && decide (id <= 4611686018427387904)) = true by simp [hbi]] at CI
 unfold sessV RowV.vals
 have i1 : decide (1 <= id) = true := decide_eq_true (by omega)
 have i2 : decide (id <= 65535) = true := decide_eq_true (by omega)
 clear hbc hbs hbi hc hid1;go_enter Tryz.func50, Tryz.ntmps50
 go_wp2_with (first
  | (go_at_call 104; refine (CC.out _).mono ?_; rintro e w1 ⟨rfl, hb⟩; have c2 := cellB hb (j := 2) rfl; have c3 := cellB hb (j := 3) rfl)
  | (go_at_call 105; refine (CS.out _).mono ?_; rintro e w3 ⟨rfl, rfl⟩)
  | (go_at_call 105; refine (CI.out _).mono ?_; rintro e w3 ⟨rfl, rfl⟩))
 go_ret
 exact ⟨rfl, ((Below.refl w.heap.size w).alloc (Nat.le_refl _) _).trans (hb.mono (by simp))⟩
theorem r19_Right_any {c : List UInt8} {r : RowV} (h : CRow c r) (hc : c.length <= 1000000) (w : World) :
  Calls Tryz.prog 50 #[.agg r.vals] w fun e w' => e = .returned (.bool true) /\ Below w.heap.size w w' := by
 rcases h with ⟨h1, h2, h3, h4, h5⟩ | ⟨q, i, rfl, hm, hi⟩
 ·exact r19_Right_out r w h1 h2 h3 (by rw [h4]; exact hc) h5
 ·exact r19_Right_sess c q i w hm hc hi
theorem CRow.kind {c : List UInt8} {r : RowV} (h : CRow c r) : kindOK r := by
 rcases h with h | ⟨q, i, rfl, _⟩
 ·exact .inr (.inr (.inl h.1))
 ·exact .inl rfl
end
section
open Go.Shelf
def Tryz.lays143_ren : Go.Shelf.Ren := ⟨fun | 143 => 234 | 219 => 248 | 217 => 240 | 225 => 221 | 224 => 220 | 267 => 257 | 266 => 254 | 314 => 259 | n => n, fun | 9 => 9 | 3 => 3 | 4 => 4 | 5 => 5 | 46 => 194 | 146 => 334 | 51 => 255 | n => n, fun | 1 => 2 | n => n⟩
theorem Tryz.lays143 : Go.Proofs.Lays.n143 Tryz.prog Tryz.lays143_ren := {
 mixed := by kernel_rfl
 f143 := Tryz.func234.trans (congrArg some (by kernel_rfl))
 f217 := Tryz.func240.trans (congrArg some (by kernel_rfl))
 f219 := Tryz.func248.trans (congrArg some (by kernel_rfl))
 f224 := Tryz.func220.trans (congrArg some (by kernel_rfl))
 f225 := Tryz.func221.trans (congrArg some (by kernel_rfl))
 f266 := Tryz.func254.trans (congrArg some (by kernel_rfl))
 f267 := Tryz.func257.trans (congrArg some (by kernel_rfl))
 f314 := Tryz.func259.trans (congrArg some (by kernel_rfl))
 t3 := Tryz.underlying3
 a3 := Tryz.isAgg3
 z3 := Tryz.sizeOf3
 v3 := Tryz.zeroValue3
 t4 := Tryz.underlying4
 a4 := Tryz.isAgg4
 z4 := Tryz.sizeOf4
 v4 := Tryz.zeroValue4
 t5 := Tryz.underlying5
 a5 := Tryz.isAgg5
 z5 := Tryz.sizeOf5
 v5 := Tryz.zeroValue5
 t9 := Tryz.underlying9
 a9 := Tryz.isAgg9
 z9 := Tryz.sizeOf9
 v9 := Tryz.zeroValue9
 t46 := Tryz.underlying194
 a46 := Tryz.isAgg194
 z46 := Tryz.sizeOf194
 v46 := Tryz.zeroValue194
 t51 := Tryz.underlying255
 a51 := Tryz.isAgg255
 z51 := Tryz.sizeOf255
 v51 := Tryz.zeroValue255
 t146 := Tryz.underlying334
 a146 := Tryz.isAgg334
 z146 := Tryz.sizeOf334
 v146 := Tryz.zeroValue334
 g1 := by kernel_rfl }
open Go.RowKit Go.Lib in
theorem Tryz.strings_Index_one (s : ByteArray) (c : UInt8) (w : World) :
  Calls Tryz.prog 234 #[.string s, .string ⟨#[c]⟩] w fun e w' => e = .returned (.int .i64 (Lib.indexByte s.data.toList c)) /\ w' = w := Any.strings_Index_one Tryz.lays143 s c w
def Tryz.lays138_ren : Go.Shelf.Ren := ⟨fun | 138 => 233 | 195 => 245 | 218 => 247 | 143 => 234 | 219 => 248 | 217 => 240 | 225 => 221 | 224 => 220 | 267 => 257 | 266 => 254 | 314 => 259 | n => n, fun | 9 => 9 | 3 => 3 | 4 => 4 | 5 => 5 | 0 => 0 | 46 => 194 | 146 => 334 | 51 => 255 | n => n, fun | 1 => 2 | n => n⟩
theorem Tryz.lays138 : Go.Proofs.Lays.n138 Tryz.prog Tryz.lays138_ren := {
 mixed := by kernel_rfl
 f138 := Tryz.func233.trans (congrArg some (by kernel_rfl))
 f143 := Tryz.func234.trans (congrArg some (by kernel_rfl))
 f195 := Tryz.func245.trans (congrArg some (by kernel_rfl))
 f217 := Tryz.func240.trans (congrArg some (by kernel_rfl))
 f218 := Tryz.func247.trans (congrArg some (by kernel_rfl))
 f219 := Tryz.func248.trans (congrArg some (by kernel_rfl))
 f224 := Tryz.func220.trans (congrArg some (by kernel_rfl))
 f225 := Tryz.func221.trans (congrArg some (by kernel_rfl))
 f266 := Tryz.func254.trans (congrArg some (by kernel_rfl))
 f267 := Tryz.func257.trans (congrArg some (by kernel_rfl))
 f314 := Tryz.func259.trans (congrArg some (by kernel_rfl))
 t0 := Tryz.underlying0
 a0 := Tryz.isAgg0
 z0 := Tryz.sizeOf0
 v0 := Tryz.zeroValue0
 t3 := Tryz.underlying3
 a3 := Tryz.isAgg3
 z3 := Tryz.sizeOf3
 v3 := Tryz.zeroValue3
 t4 := Tryz.underlying4
 a4 := Tryz.isAgg4
 z4 := Tryz.sizeOf4
 v4 := Tryz.zeroValue4
 t5 := Tryz.underlying5
 a5 := Tryz.isAgg5
 z5 := Tryz.sizeOf5
 v5 := Tryz.zeroValue5
 t9 := Tryz.underlying9
 a9 := Tryz.isAgg9
 z9 := Tryz.sizeOf9
 v9 := Tryz.zeroValue9
 t46 := Tryz.underlying194
 a46 := Tryz.isAgg194
 z46 := Tryz.sizeOf194
 v46 := Tryz.zeroValue194
 t51 := Tryz.underlying255
 a51 := Tryz.isAgg255
 z51 := Tryz.sizeOf255
 v51 := Tryz.zeroValue255
 t146 := Tryz.underlying334
 a146 := Tryz.isAgg334
 z146 := Tryz.sizeOf334
 v146 := Tryz.zeroValue334
 g1 := by kernel_rfl }
open Go.RowKit Go.Lib in
theorem Tryz.strings_Count_one (s : ByteArray) (c : UInt8) (w : World) :
  Calls Tryz.prog 233 #[.string s, .string ⟨#[c]⟩] w fun e w' => e = .returned (.int .i64 (Lib.countByte s.data.toList c)) /\ w' = w := Any.strings_Count_one Tryz.lays138 s c w
def Tryz.lays221_ren : Go.Shelf.Ren := ⟨fun | 221 => 212 | 268 => 232 | 138 => 233 | 143 => 234 | 195 => 245 | 197 => 246 | 218 => 247 | 219 => 248 | 260 => 256 | 217 => 240 | 225 => 221 | 224 => 220 | 267 => 257 | 266 => 254 | 314 => 259 | n => n, fun | 9 => 9 | 3 => 3 | 31 => 73 | 4 => 4 | 0 => 0 | 105 => 259 | 21 => 21 | 5 => 5 | 46 => 194 | 119 => 330 | 139 => 333 | 138 => 332 | 146 => 334 | 51 => 255 | n => n, fun | 1 => 2 | 3 => 3 | 4 => 4 | n => n⟩
theorem Tryz.lays221 : Go.Proofs.Lays.n221 Tryz.prog Tryz.lays221_ren := {
 mixed := by kernel_rfl
 f138 := Tryz.func233.trans (congrArg some (by kernel_rfl))
 f143 := Tryz.func234.trans (congrArg some (by kernel_rfl))
 f195 := Tryz.func245.trans (congrArg some (by kernel_rfl))
 f197 := Tryz.func246.trans (congrArg some (by kernel_rfl))
 f217 := Tryz.func240.trans (congrArg some (by kernel_rfl))
 f218 := Tryz.func247.trans (congrArg some (by kernel_rfl))
 f219 := Tryz.func248.trans (congrArg some (by kernel_rfl))
 f221 := Tryz.func212.trans (congrArg some (by kernel_rfl))
 f224 := Tryz.func220.trans (congrArg some (by kernel_rfl))
 f225 := Tryz.func221.trans (congrArg some (by kernel_rfl))
 f260 := Tryz.func256.trans (congrArg some (by kernel_rfl))
 f266 := Tryz.func254.trans (congrArg some (by kernel_rfl))
 f267 := Tryz.func257.trans (congrArg some (by kernel_rfl))
 f268 := Tryz.func232.trans (congrArg some (by kernel_rfl))
 f314 := Tryz.func259.trans (congrArg some (by kernel_rfl))
 t0 := Tryz.underlying0
 a0 := Tryz.isAgg0
 z0 := Tryz.sizeOf0
 v0 := Tryz.zeroValue0
 t3 := Tryz.underlying3
 a3 := Tryz.isAgg3
 z3 := Tryz.sizeOf3
 v3 := Tryz.zeroValue3
 t4 := Tryz.underlying4
 a4 := Tryz.isAgg4
 z4 := Tryz.sizeOf4
 v4 := Tryz.zeroValue4
 t5 := Tryz.underlying5
 a5 := Tryz.isAgg5
 z5 := Tryz.sizeOf5
 v5 := Tryz.zeroValue5
 t9 := Tryz.underlying9
 a9 := Tryz.isAgg9
 z9 := Tryz.sizeOf9
 v9 := Tryz.zeroValue9
 t21 := Tryz.underlying21
 a21 := Tryz.isAgg21
 z21 := Tryz.sizeOf21
 v21 := Tryz.zeroValue21
 t31 := Tryz.underlying73
 a31 := Tryz.isAgg73
 z31 := Tryz.sizeOf73
 v31 := Tryz.zeroValue73
 t46 := Tryz.underlying194
 a46 := Tryz.isAgg194
 z46 := Tryz.sizeOf194
 v46 := Tryz.zeroValue194
 t51 := Tryz.underlying255
 a51 := Tryz.isAgg255
 z51 := Tryz.sizeOf255
 v51 := Tryz.zeroValue255
 t105 := Tryz.underlying259
 a105 := Tryz.isAgg259
 z105 := Tryz.sizeOf259
 v105 := Tryz.zeroValue259
 t119 := Tryz.underlying330
 a119 := Tryz.isAgg330
 z119 := Tryz.sizeOf330
 t138 := Tryz.underlying332
 a138 := Tryz.isAgg332
 z138 := Tryz.sizeOf332
 v138 := Tryz.zeroValue332
 t139 := Tryz.underlying333
 a139 := Tryz.isAgg333
 z139 := Tryz.sizeOf333
 v139 := Tryz.zeroValue333
 t146 := Tryz.underlying334
 a146 := Tryz.isAgg334
 z146 := Tryz.sizeOf334
 v146 := Tryz.zeroValue334
 g1 := by kernel_rfl
 g3 := by kernel_rfl
 g4 := by kernel_rfl }
end
section
attribute [local go_sem] Oper.semAt_some
def levelsB (s : List UInt8) : List ByteArray := Lib.splitB ⟨#[47]⟩ 0 (Lib.countB ⟨s.toArray⟩ ⟨#[47]⟩) ⟨s.toArray⟩
theorem str_Split (s : List UInt8) (w : World) (hs : s.length < 4294967281) :
  Calls Tryz.prog 188 #[.string ⟨s.toArray⟩, .string ⟨#[47]⟩] w fun e w' =>
   e = .returned (.slice (some ⟨w.heap.size, 0, none⟩) (levelsB s).length (levelsB s).length) /\ w' = w.alloc (.cells ((levelsB s).map Value.string).toArray 9) := by
 have hs' : ByteArray.size ⟨s.toArray⟩ < 4294967281 := by simpa [ByteArray.size] using hs
 have hone : 1 <= ByteArray.size ⟨#[47]⟩ := by decide
 have hle := Lib.countB_le ⟨#[47]⟩ hone _ ⟨s.toArray⟩ (Nat.le_refl _)
 have hlen := Lib.splitB_all ⟨#[47]⟩ hone 0 _ ⟨s.toArray⟩ rfl
 have c := Any.strings_genSplit_core Tryz.lays221 (by kernel_rfl) ⟨s.toArray⟩ ⟨#[47]⟩ 0 (-1) (Lib.countB ⟨s.toArray⟩ ⟨#[47]⟩ + 1) w hs' hone (Nat.zero_le _)
  (fun x cs hx => (Tryz.strings_Index_one x 47 _).mono fun e w' ⟨he, hw⟩ => ⟨by rw [he]; show _ = Ending.returned (Value.int .i64 (Lib.index x.data.toList [47])); rw [Lib.index_one], hw⟩)
  ((Tryz.strings_Count_one ⟨s.toArray⟩ 47 w).mono fun e w' ⟨he, hw⟩ => ⟨by
    rw [he]
    show _ = Ending.returned (Value.int .i64 ((Lib.count s.toArray.toList [47] : Nat) : Int))
    rw [Lib.count_one]
    rfl, hw⟩) (by decide) (by decide) (by rw [if_pos (by decide)]; omega)
 rw [Nat.add_sub_cancel, hlen] at c
 have e2 : Lib.cellsOf (levelsB s) (Lib.countB ⟨s.toArray⟩ ⟨#[47]⟩ + 1) = ((levelsB s).map Value.string).toArray := by unfold levelsB; rw [<- hlen]; exact Lib.cellsOf_full _
 unfold levelsB at e2 ⊢
 rw [e2] at c
 rw [hlen]
 have C := hid c;clear c e2 hle hs';go_enter Tryz.func188, Tryz.ntmps188
 go_wp2_with (go_at_call 212; refine C.out.mono ?_; rintro e w' ⟨rfl, hw⟩; rw [hw])
 go_ret
 exact ⟨rfl, rfl⟩
theorem top_Levels (s : List UInt8) (w : World) (hs : s.length < 4294967281) :
  Calls Tryz.prog 125 #[.string ⟨s.toArray⟩] w fun e w' =>
   e = .returned (.slice (some ⟨w.heap.size, 0, none⟩) (levelsB s).length (levelsB s).length) /\ w' = w.alloc (.cells ((levelsB s).map Value.string).toArray 9) := by
 have C := hid (str_Split s w hs)
 go_enter Tryz.func125, Tryz.ntmps125
 go_wp2_with (go_at_call 188; refine C.out.mono ?_; rintro e w1 ⟨rfl, rfl⟩)
 go_ret
 exact ⟨rfl, rfl⟩
theorem top_levels (a : Option Addr) (n c : Nat) (w : World) :
  Calls Tryz.prog 124 #[.slice a n c] w fun e w' => e = .returned (.func (.func 187) #[] #[.pointer (some ⟨w.heap.size, 0, none⟩)]) /\ w.alloc (.cells #[.slice a n c] 73) = w' := by
 go_enter Tryz.func124, Tryz.ntmps124
 go_wp2
 go_ret
 exact ⟨rfl, rfl⟩
def lvl (ps : List ByteArray) (i : Nat) : ByteArray := ps[i]?.getD ⟨#[]⟩
def encL (ps : List ByteArray) (i : Nat) : Array Value := #[.string (lvl ps i), .bool (decide (i + 1 = ps.length))]
theorem top_levels1 (ps : List ByteArray) (w : World) (B V : Nat) (hV : Blk w V (ps.map Value.string).toArray 9) (hb : Boxed w B 73 (.slice (some ⟨V, 0, none⟩) ps.length ps.length)) (hn : ps.length <= 4294967296) :
  SeqG Tryz.prog 187 #[.pointer (some ⟨B, 0, none⟩)] (encL ps) (Keep 0 [B, V]) (Wrote []) (fun pre i _ => pre = List.range i /\ i < ps.length) (fun xs => xs = List.range ps.length) (fun pre => ∃ i, pre = List.range (i + 1) /\ i < ps.length) w := by
 intro lb J Jx W hW hlb hJ hJx hY h0
 have hb := boxed_below hb hW
 have hV := hV.below hW
 refine callsIn_of_wp Tryz.func187 rfl trivial ?_ rfl
 simp only [Tryz.ntmps187, List.size_toArray, List.length_cons, List.length_nil, Nat.reduceAdd, Nat.reduceSub, Array.replicate_succ, Array.replicate_zero, List.push_toArray, List.append_toArray, List.nil_append, List.cons_append]
 have hc1 := hb.cell
 gi_wp2
 gi_loopw [3, 4, 7] (fun _ _ i wr => ∃ (k : Nat), i = .int .i64 k /\ k <= ps.length /\ Boxed wr B 73 (.slice (some ⟨V, 0, none⟩) ps.length ps.length) /\ Blk wr V (ps.map Value.string).toArray 9 /\ J (List.range k) wr)
  (fun _ _ i _ => ps.length - (intOf i).toNat)
 case atStart => exact ⟨0, rfl, Nat.zero_le _, hb, hV, h0⟩
 case round =>
  obtain ⟨k, rfl, hk, hb, hV, hj⟩ := hrel
  rcases Nat.lt_or_ge k ps.length with hlt | hge
  ·have dk : decide ((k : Int) < (ps.length : Int)) = true := decide_eq_true (by omega)
   have hcb := hb.cell
   obtain ⟨x, hx⟩ : ∃ x, ps[k]? = some x := ⟨_, List.getElem?_eq_getElem hlt⟩
   have hcv : wr.cell? ⟨V, k, none⟩ = some (.string x) := (hV.cell k).trans (by simp [hx])
   have hsucc := hid (List.range_succ (n := k))
   obtain ⟨n, hn'⟩ : ∃ n : Int, (ps.length : Int) = n := ⟨_, rfl⟩
   obtain ⟨b, hbd⟩ : ∃ b, decide (k + 1 = ps.length) = b := ⟨_, rfl⟩
   have he : ((k : Int) == n - 1) = b := by
    rw [<- hbd, Bool.eq_iff_iff]; simp; omega
   obtain ⟨fn, tmps, assign, body, hy2, hR⟩ := hY (List.range k) k wr hj ⟨rfl, hlt⟩
   replace hy2 : (Instr.yield lb #[.string (ps[k]?.getD ⟨#[]⟩), .bool (decide (k + 1 = ps.length))]).run Tryz.prog wr = _ := hy2
   rw [hx] at hy2
   simp only [Option.getD_some, hbd] at hy2
   have HR := hid hR;clear hR;gi_wp2_with fail
   refine ⟨rfl, HR.out.mono ?_⟩
   rintro e W3 (⟨rfl, hJ3, hk3⟩ | ⟨rfl, hJx3⟩)
   ·gi_wp2
    subst hn';go_roundw
    case rel => exact ⟨k + 1, by go_num, by omega, (hk3.keep B (by simp)).trans hb, hV.keep (hk3.keep V (by simp)), by rw [hsucc.out]; exact hJ3⟩
    case measure => simp [intOf]; omega
   ·gi_wp2
    refine bodyPost_ret (results_none rfl _ _ _) rfl ?_
    exact ⟨⟨_, rfl⟩, .inr ⟨_, ⟨k, hsucc.out.symm, hlt⟩, hJx3⟩⟩
  ·obtain rfl : k = ps.length := by omega
   gi_wp2
   refine bodyPost_end (results_none rfl _ _ _) rfl ?_
   exact ⟨⟨_, rfl⟩, .inl ⟨_, rfl, hj⟩⟩
end
section
attribute [local go_sem] Oper.semAt_some
theorem toList_inj {a b : ByteArray} (h : a.toList = b.toList) : a = b := by
 have e : ∀ c : ByteArray, c.toList = c.data.toList := fun c => ByteArray.toList_eq c
 rw [e, e] at h
 obtain ⟨⟨l⟩⟩ := a
 obtain ⟨⟨m⟩⟩ := b
 simp at h
 rw [h]
theorem blk_at (w : World) (cs : Array Value) (T : TypeId) (n : Nat) (h : w.heap.size = n) : Blk (w.alloc (.cells cs T)) n cs T := by subst h; exact Blk.new w cs T
theorem splitB_size (sep : ByteArray) : ∀ (k : Nat) (s : ByteArray), ∀ x ∈ Lib.splitB sep 0 k s, x.size <= s.size := by
 intro k
 induction k with
 | zero => intro s x hx; rw [Lib.splitB_zero] at hx; simp at hx; subst hx; exact Nat.le_refl _
 | succ k ih =>
  intro s x hx
  unfold Lib.splitB at hx
  split at hx
  ·simp at hx; subst hx; exact Nat.le_refl _
  ·rcases List.mem_cons.1 hx with rfl | hx
   ·simp [ByteArray.size_extract]; omega
   ·have := ih _ x hx
    simp [ByteArray.size_extract] at this
    omega
theorem levelsB_size (s : List UInt8) : ∀ x ∈ levelsB s, x.data.toList.length <= s.length := by
 intro x hx
 have h1 := splitB_size ⟨#[47]⟩ _ ⟨s.toArray⟩ x hx
 have e : ByteArray.size ⟨s.toArray⟩ = s.length := by simp [ByteArray.size]
 have e2 : x.data.toList.length = x.size := by rw [Array.length_toList]; rfl
 omega
theorem levelsB_len (s : List UInt8) : (levelsB s).length <= s.length + 1 := by
 unfold levelsB
 have h1 := Lib.splitB_length_le ⟨#[47]⟩ 0 (Lib.countB ⟨s.toArray⟩ ⟨#[47]⟩) ⟨s.toArray⟩
 have h2 := Lib.countB_le ⟨#[47]⟩ (by decide) _ ⟨s.toArray⟩ (Nat.le_refl _)
 have e : ByteArray.size ⟨s.toArray⟩ = s.length := by simp [ByteArray.size]
 rw [e] at h2
 have h3 : Lib.countB ⟨s.toArray⟩ ⟨#[47]⟩ <= s.length := by first | exact h2 | (simp at h2; omega)
 omega
def lvlOK (x : List UInt8) (last : Bool) : Bool := decide (x = [43]) || (decide (x = [35]) && last) || !anyR x
def filterL (ps : List ByteArray) (k : Nat) : Bool := (List.range k).all fun i => lvlOK (lvl ps i).data.toList (decide (i + 1 = ps.length))
def filterR (s : List UInt8) : Bool := filterL (levelsB s) (levelsB s).length && saidR s
theorem filterL_succ (ps : List ByteArray) (k : Nat) : filterL ps (k + 1) = (filterL ps k && lvlOK (lvl ps k).data.toList (decide (k + 1 = ps.length))) := by
 unfold filterL
 rw [List.range_succ, List.all_append]
 simp
theorem filterL_bad (ps : List ByteArray) (k n : Nat) (h : k < n) (hb : lvlOK (lvl ps k).data.toList (decide (k + 1 = ps.length)) = false) : filterL ps n = false := by
 unfold filterL
 rw [List.all_eq_false]
 exact ⟨k, by simp [h], by simp [hb]⟩
def FilI (w : World) (ps : List ByteArray) (pre : List Nat) (W : World) : Prop := (∃ k, pre = List.range k /\ filterL ps k = true) /\ Boxed W w.heap.size 4 (.bool false) /\ Below w.heap.size w W
def FilX (w : World) (ps : List ByteArray) (c : Code) (_pre : List Nat) (W : World) : Prop := c = .ret /\ filterL ps ps.length = false /\ Boxed W w.heap.size 4 (.bool false) /\ Below w.heap.size w W
theorem topic_Filter (s : List UInt8) (w : World) (hs : s.length <= 1000000) :
  Calls Tryz.prog 70 #[.string ⟨s.toArray⟩] w fun e w' => e = .returned (.bool (filterR s)) /\ Below w.heap.size w w' := by
 have hlen := levelsB_len s
 have hsize := levelsB_size s
 unfold filterR
 have CL := hid fun W => top_Levels s W (by omega)
 have CT := hid fun W => topic_said s W (by omega)
 generalize hps : levelsB s = ps at *
 have hps := hid hps;refine calls_marks Tryz.func70 rfl ?_
 simp only [Tryz.ntmps70, List.size_toArray, List.length_cons, List.length_nil, Nat.reduceAdd, Nat.reduceSub, Array.replicate_succ, Array.replicate_zero, List.push_toArray, List.append_toArray, List.nil_append, List.cons_append]
 go_wp2_with fail
 refine (CL.out _).mono ?_
 rintro e w1 ⟨rfl, rfl⟩
 go_wp2_with fail
 refine (top_levels _ _ _ _).mono ?_
 rintro e w2 ⟨rfl, rfl⟩
 go_wp2_with fail
 try simp only [World.size_alloc]
 generalize hW0 : ((w.alloc (Obj.cells #[Value.bool false] 4)).alloc (Obj.cells (ps.map Value.string).toArray 9)).alloc (Obj.cells #[Value.slice (some ⟨w.heap.size + 1, 0, none⟩) ps.length ps.length] 73) = W0
 have hsz : W0.heap.size = w.heap.size + 3 := by rw [<- hW0]; simp
 have hb0 : Below w.heap.size w W0 := by
  rw [<- hW0]
  exact belw
 have b1 : Boxed W0 w.heap.size 4 (.bool false) := by
  have e1 := Boxed.new w 4 (.bool false)
  rw [<- hW0]; exact (e1.alloc _).alloc _
 have b2 : Boxed W0 (w.heap.size + 2) 73 (.slice (some ⟨w.heap.size + 1, 0, none⟩) ps.length ps.length) := by
  rw [<- hW0]; exact blk_at _ _ _ _ (by simp)
 have b3 : Blk W0 (w.heap.size + 1) (ps.map Value.string).toArray 9 := by
  rw [<- hW0]; exact (blk_at _ _ _ _ (by simp)).alloc _
 have HW0 := hid hW0; clear hW0
 refine wp_range (α := Nat) (gf := 187) (lb := #[.pointer (some ⟨w.heap.size + 2, 0, none⟩)]) rfl (enters_of Tryz.func187 (by kernel_rfl) rfl)
  (n₀ := 0) (L := [w.heap.size + 2, w.heap.size + 1]) (M := []) (top_levels1 ps W0 (w.heap.size + 2) (w.heap.size + 1) b3 b2 (by omega))
  (Nat.zero_le _) (by simp; omega) (by simp) (fun _ => rfl) (FilI w ps) (FilX w ps) ?hI ?hIx ?h0
  (fun pre i a' W => (pre = List.range i /\ i < ps.length) /\ a' = { tmps := #[.string ⟨s.toArray⟩, undef, .pointer (some ⟨w.heap.size, 0, none⟩), .string (lvl ps i), .bool (decide (i + 1 = ps.length)), undef, .string ⟨s.toArray⟩, .slice (some ⟨w.heap.size + 1, 0, none⟩) ps.length ps.length, .func (.func 187) #[] #[.pointer (some ⟨w.heap.size + 2, 0, none⟩)], .string (lvl ps i), .bool (decide (i + 1 = ps.length)), undef, undef, undef, undef, undef, undef, undef, undef, undef, undef, undef, undef, undef, undef, undef, undef, undef], defers := [] }) ?hAx ?assign ?body ?done ?stop
 case hI =>
  rintro s A A' ⟨g1, g2, g3⟩ hw
  rw [hsz] at hw
  exact ⟨g1, hw.boxed (by simp <;> omega) g2, g3.trans (hw.below g3.size (by simp <;> omega))⟩
 case hIx =>
  rintro c s A A' ⟨rfl, g0, g1, g2⟩ hw
  rw [hsz] at hw
  exact ⟨rfl, g0, hw.boxed (by simp <;> omega) g1, g2.trans (hw.below g2.size (by simp <;> omega))⟩
 case h0 => exact ⟨⟨0, rfl, rfl⟩, b1, hb0⟩
 case hAx =>
  rintro pre x a' A A' ⟨hx, rfl⟩ hl hw
  exact ⟨hx, rfl⟩
 case assign =>
  intro pre x W K hl hi hx hK
  simp only [encL]
  gi_wp2
  refine hK _ _ (Below.refl _ _) hi ⟨hx, rfl⟩
 case body =>
  rintro pre i a' W hl ⟨⟨k, hk1, hk2⟩, g2, g3⟩ ⟨⟨hx1, hx2⟩, rfl⟩
  have hki : k = i := by have := congrArg List.length (hk1.symm.trans hx1); simpa using this
  subst hki;subst hx1
  have hmem : lvl ps k ∈ ps := by
   unfold lvl
   rw [List.getElem?_eq_getElem hx2]
   exact List.getElem_mem hx2
  have hxs := hsize _ hmem
  have hsucc := filterL_succ ps k
  have hrange := hid (List.range_succ (n := k))
  have hbad := filterL_bad ps k ps.length hx2
  obtain ⟨x, hl2⟩ : ∃ x, lvl ps k = x := ⟨_, rfl⟩
  rw [hl2] at hxs hsucc hbad ⊢
  obtain ⟨l, hlx⟩ : ∃ l, x.data.toList = l := ⟨_, rfl⟩
  rw [hlx] at hxs hsucc hbad
  have hx : (⟨l.toArray⟩ : ByteArray) = x := by rw [<- hlx]
  have CA := anyOK l (by omega)
  obtain ⟨bl, hbl⟩ : ∃ b, decide (k + 1 = ps.length) = b := ⟨_, rfl⟩
  obtain ⟨ba, hba⟩ : ∃ b, anyR l = b := ⟨_, rfl⟩
  obtain ⟨b1', hb1⟩ : ∃ b, decide (l = [43]) = b := ⟨_, rfl⟩
  obtain ⟨b2', hb2⟩ : ∃ b, decide (l = [35]) = b := ⟨_, rfl⟩
  have e1 : b1' = true ↔ x = ⟨#[43]⟩ := by rw [<- hb1, <- hx]; simp
  have e2 : b2' = true ↔ x = ⟨#[35]⟩ := by rw [<- hb2, <- hx]; simp
  unfold AnyOK at CA
  rw [hba, hx] at CA
  unfold lvlOK at hsucc hbad
  simp only [hbl, hba, hb1, hb2, hk2] at hsucc hbad
  rw [hbl]
  replace CA := hid CA;have c1 := g2.cell
  have f1 := g2.frozen
  rw [hsz] at hl
  have hcase : b1' = true \/ (b1' = false /\ b2' = true /\ bl = true) \/ (b1' = false /\ b2' = false /\ ba = false) \/ (b1' = false /\ b2' = false /\ ba = true) \/ (b1' = false /\ b2' = true /\ bl = false /\ ba = false) \/ (b1' = false /\ b2' = true /\ bl = false /\ ba = true) := by
   cases b1' <;> cases b2' <;> cases bl <;> cases ba <;> simp
  clear hb1 hb2 hba hbl hmem hl2 hxs hlx hx;rcases hcase with rfl | ⟨rfl, rfl, rfl⟩ | ⟨rfl, rfl, rfl⟩ | ⟨rfl, rfl, rfl⟩ | ⟨rfl, rfl, rfl, rfl⟩ | ⟨rfl, rfl, rfl, rfl⟩
  ·have h1 := e1.1 rfl
   clear e1 e2;subst h1;replace hsucc := hid hsucc;clear hbad;gi_wp2
   refine ⟨trivial, ?_⟩
   gi_wp2
   exact ⟨Keep.refl _ _ _, ⟨k + 1, hrange.out.symm, by rw [hsucc.out]; rfl⟩, g2, g3⟩
  ·have h1 : ¬ x = ⟨#[43]⟩ := fun h => by have := e1.2 h; cases this
   have h2 := e2.1 rfl
   clear e1 e2 h1;subst h2;replace hsucc := hid hsucc;clear hbad;gi_wp2
   refine ⟨trivial, ?_⟩
   gi_wp2
   exact ⟨Keep.refl _ _ _, ⟨k + 1, hrange.out.symm, by rw [hsucc.out]; rfl⟩, g2, g3⟩
  ·have h1 : ¬ x = ⟨#[43]⟩ := fun h => by have := e1.2 h; cases this
   have h2 : ¬ x = ⟨#[35]⟩ := fun h => by have := e2.2 h; cases this
   have i1 : ¬ x.toList = [43] := fun h => h1 (toList_inj (by rw [h]; exact (ByteArray.toList_mk [43]).symm))
   have i2 : ¬ x.toList = [35] := fun h => h2 (toList_inj (by rw [h]; exact (ByteArray.toList_mk [35]).symm))
   have g1' : (x.toList == [43]) = false := by simpa using i1
   have g2' : (x.toList == [35]) = false := by simpa using i2
   clear e1 e2;replace hsucc := hid hsucc;clear hbad;gi_wp2_with fail
   refine inW (CA.out _) ?_
   rintro e w5 ⟨rfl, hb5⟩
   gi_wp2
   refine ⟨Keep.of_below hb5 (Nat.zero_le _) (by simp; omega), ⟨k + 1, hrange.out.symm, by rw [hsucc.out]; rfl⟩, boxed_below g2 hb5, g3.trans (hb5.mono g3.size)⟩
  ·have h1 : ¬ x = ⟨#[43]⟩ := fun h => by have := e1.2 h; cases this
   have h2 : ¬ x = ⟨#[35]⟩ := fun h => by have := e2.2 h; cases this
   have i1 : ¬ x.toList = [43] := fun h => h1 (toList_inj (by rw [h]; exact (ByteArray.toList_mk [43]).symm))
   have i2 : ¬ x.toList = [35] := fun h => h2 (toList_inj (by rw [h]; exact (ByteArray.toList_mk [35]).symm))
   have g1' : (x.toList == [43]) = false := by simpa using i1
   have g2' : (x.toList == [35]) = false := by simpa using i2
   clear e1 e2;replace hbad := hid hbad;clear hsucc;gi_wp2_with fail
   refine inW (CA.out _) ?_
   rintro e w5 ⟨rfl, hb5⟩
   have g5 := boxed_below g2 hb5
   have c5 := g5.cell
   have f5 := g5.frozen
   gi_wp2
   have hb53 := g3.trans (hb5.mono g3.size)
   refine ⟨(Keep.of_below hb5 (Nat.zero_le _) (by simp; omega)).trans (Keep.setCell _ _ (by simp) (by simp; omega) _), rfl, hbad.out rfl, g5.set _, hb53.setCell (p := ⟨w.heap.size, 0, none⟩) (by simp) _⟩
  ·have h1 : ¬ x = ⟨#[43]⟩ := fun h => by have := e1.2 h; cases this
   have h2 := e2.1 rfl
   clear e1 e2 h1;subst h2;replace hsucc := hid hsucc;clear hbad;gi_wp2_with fail
   refine inW (CA.out _) ?_
   rintro e w5 ⟨rfl, hb5⟩
   gi_wp2
   refine ⟨Keep.of_below hb5 (Nat.zero_le _) (by simp; omega), ⟨k + 1, hrange.out.symm, by rw [hsucc.out]; rfl⟩, boxed_below g2 hb5, g3.trans (hb5.mono g3.size)⟩
  ·have h1 : ¬ x = ⟨#[43]⟩ := fun h => by have := e1.2 h; cases this
   have h2 := e2.1 rfl
   clear e1 e2 h1;subst h2;replace hbad := hid hbad;clear hsucc;gi_wp2_with fail
   refine inW (CA.out _) ?_
   rintro e w5 ⟨rfl, hb5⟩
   have g5 := boxed_below g2 hb5
   have c5 := g5.cell
   have f5 := g5.frozen
   gi_wp2
   have hb53 := g3.trans (hb5.mono g3.size)
   refine ⟨(Keep.of_below hb5 (Nat.zero_le _) (by simp; omega)).trans (Keep.setCell _ _ (by simp) (by simp; omega) _), rfl, hbad.out rfl, g5.set _, hb53.setCell (p := ⟨w.heap.size, 0, none⟩) (by simp) _⟩
 case done =>
  rintro xs W hS ⟨⟨k, hk1, hk2⟩, g2, g3⟩ hl hD
  rw [hsz] at hl
  have hke : k = ps.length := by have := congrArg List.length (hk1.symm.trans hS); simpa using this
  subst hke;have HF := hid hk2;clear hS hk1 hk2;have c1 := g2.cell
  have f1 := g2.frozen
  go_wp2_with fail
  refine (CT.out _).mono ?_
  rintro e W5 ⟨rfl, hb5⟩
  have g5 := boxed_below g2 hb5
  have c5 := g5.cell
  have f5 := g5.frozen
  go_wp2
  have d1 : Boxed (W5.setCell ⟨w.heap.size, 0, none⟩ (.bool (saidR s))) w.heap.size 4 (.bool (saidR s)) := g5.set _
  have hD5 := (hb5.block _ (by omega)).trans hD
  rw [hsz] at hD5
  refine ret_mark (v := .bool (saidR s)) (D := w.heap.size + 3) ((Below.heap_setCell _ _ _ _ (by simp)).trans hD5) (fun w' hw' => ?_)
  have wp : Wrote [w.heap.size + 3] (W5.setCell ⟨w.heap.size, 0, none⟩ (.bool (saidR s))) w' := by rw [hw']; exact Wrote.putObj _ _ (by simp) _
  have d4 := (wp.boxed (by simp) d1).cell
  have hb : Below w.heap.size w (W5.setCell ⟨w.heap.size, 0, none⟩ (.bool (saidR s))) := (g3.trans (hb5.mono g3.size)).setCell (p := ⟨w.heap.size, 0, none⟩) (by simp) _
  exact ⟨by simp [results, Tryz.results70, go_sem, d4], by rw [HF.out, Bool.true_and], hb.trans (wp.below hb.size (by simp))⟩
 case stop =>
  rintro c pre W _ ⟨rfl, g0, g1, g2⟩ hl hD
  rw [hsz] at hl
  have HF := hid g0;clear g0;have c1 := g1.cell
  have f1 := g1.frozen
  go_wp2
  have d1 : Boxed W w.heap.size 4 (.bool false) := g1
  refine ret_mark (v := .bool false) hD (fun w' hw' => ?_)
  have wp : Wrote [W0.heap.size] W w' := by rw [hw']; exact Wrote.putObj _ _ (by simp) _
  have d4 := (wp.boxed (by simp; omega) d1).cell
  have hb : Below w.heap.size w W := g2
  exact ⟨by simp [results, Tryz.results70, go_sem, d4], by rw [HF.out, Bool.false_and], hb.trans (wp.below hb.size (by simp; omega))⟩
end
end Go.Proofs.YtoinabapaeebfaaGreatDoor
