/- Laid by the kit's shelf tools (lay-iter, lay-plain) at this seat's dump. · Rows of texts. · Contracts of package session (part 13): filters. -/
import Derived.Shelf.SlIter.Nil
import Derived.Shelf.SortM.Plain
import Derived.Shelf.SortM.SortNone
import Derived.Test.YtoinabapaeebfaaGreatDoorProg
import Derived.Test.YtoinabapaeebfaaGreatDoorPk38
import Derived.Test.YtoinabapaeebfaaGreatDoorPk14
import Derived.Test.YtoinabapaeebfaaGreatDoorPk40
set_option linter.unusedSimpArgs false
set_option linter.unusedVariables false
namespace Go.Proofs
open Go.Shelf
def Tryz.keys123_ren : Go.Shelf.Ren := ⟨fun | 7 => 123 | 10 => 186 | n => n, fun | 23 => 83 | 26 => 9 | 3 => 3 | 28 => 206 | 0 => 0 | 27 => 205 | 33 => 86 | 4 => 4 | n => n, fun | n => n⟩
theorem Tryz.keys123 : Go.Proofs.SlLaysZ.n7 Tryz.prog Tryz.keys123_ren := {
  mixed := by kernel_rfl
  f7 := ⟨Tryz.f123.name, by decide, Tryz.func123.trans (congrArg some (by kernel_rfl))⟩
  f10 := ⟨Tryz.f186.name, by decide, Tryz.func186.trans (congrArg some (by kernel_rfl))⟩
  t0 := Tryz.underlying0
  a0 := Tryz.isAgg0
  z0 := Tryz.sizeOf0
  v0 := Tryz.zeroValue0
  t4 := Tryz.underlying4
  a4 := Tryz.isAgg4
  z4 := Tryz.sizeOf4
  v4 := Tryz.zeroValue4
  t23 := Tryz.underlying83
  a23 := Tryz.isAgg83
  z23 := Tryz.sizeOf83
  v23 := Tryz.zeroValue83
  t26 := Tryz.underlying9
  a26 := Tryz.isAgg9
  z26 := Tryz.sizeOf9
  v26 := Tryz.zeroValue9
  t27 := Tryz.underlying205
  a27 := Tryz.isAgg205
  z27 := Tryz.sizeOf205
  v27 := Tryz.zeroValue205
  t28 := Tryz.underlying206
  a28 := Tryz.isAgg206
  z28 := Tryz.sizeOf206
  v28 := Tryz.zeroValue206
  t33 := Tryz.underlying86
  a33 := Tryz.isAgg86
  z33 := Tryz.sizeOf86
  v33 := Tryz.zeroValue86 }
def Tryz.sorted122_ren : Go.Shelf.Ren := ⟨fun | 6 => 122 | 8 => 184 | 9 => 185 | 11 => 210 | 13 => 115 | 12 => 211 | 23 => 179 | 24 => 180 | 14 => 223 | 15 => 224 | 16 => 225 | 17 => 226 | 18 => 227 | 19 => 228 | 20 => 229 | 21 => 230 | 22 => 231 | 25 => 241 | 26 => 199 | 27 => 200 | 28 => 242 | 29 => 243 | 30 => 244 | 31 => 255 | n => n, fun | 26 => 9 | 28 => 206 | 24 => 73 | 0 => 0 | 3 => 3 | 37 => 194 | 48 => 255 | 50 => 179 | 4 => 4 | 40 => 249 | 39 => 248 | 45 => 84 | 5 => 5 | 9 => 9 | 51 => 269 | 55 => 273 | 57 => 293 | 58 => 294 | 33 => 86 | n => n, fun | n => n⟩
theorem Tryz.sorted122 : Go.Proofs.SlLaysZ.n6 Tryz.prog Tryz.sorted122_ren := {
  mixed := by kernel_rfl
  f6 := ⟨Tryz.f122.name, by decide, Tryz.func122.trans (congrArg some (by kernel_rfl))⟩
  f8 := ⟨Tryz.f184.name, by decide, Tryz.func184.trans (congrArg some (by kernel_rfl))⟩
  f11 := ⟨Tryz.f210.name, by decide, Tryz.func210.trans (congrArg some (by kernel_rfl))⟩
  t0 := Tryz.underlying0
  a0 := Tryz.isAgg0
  z0 := Tryz.sizeOf0
  v0 := Tryz.zeroValue0
  t24 := Tryz.underlying73
  a24 := Tryz.isAgg73
  z24 := Tryz.sizeOf73
  v24 := Tryz.zeroValue73
  t26 := Tryz.underlying9
  a26 := Tryz.isAgg9
  z26 := Tryz.sizeOf9
  v26 := Tryz.zeroValue9
  t28 := Tryz.underlying206
  a28 := Tryz.isAgg206
  z28 := Tryz.sizeOf206
  v28 := Tryz.zeroValue206
  i26 := by kernel_rfl }
def Tryz.sort185_ren : Go.Shelf.Ren := ⟨fun | 6 => 185 | 8 => 115 | 9 => 211 | 19 => 179 | 20 => 180 | 21 => 223 | 22 => 224 | 23 => 225 | 24 => 226 | 25 => 227 | 26 => 228 | 27 => 229 | 28 => 230 | 29 => 231 | 36 => 241 | 31 => 199 | 32 => 200 | 37 => 242 | 38 => 243 | 39 => 244 | 41 => 255 | n => n, fun | 27 => 73 | 29 => 9 | 3 => 3 | 32 => 194 | 26 => 73 | 0 => 0 | 44 => 255 | 46 => 179 | 4 => 4 | 36 => 249 | 35 => 248 | 41 => 84 | 5 => 5 | 9 => 9 | 53 => 269 | 57 => 273 | 63 => 293 | 64 => 294 | n => n, fun | n => n⟩
theorem Tryz.sort185 : Go.Proofs.SlLaysM.n6 Tryz.prog Tryz.sort185_ren := {
  mixed := by kernel_rfl
  f6 := ⟨Tryz.f185.name, by decide, Tryz.func185.trans (congrArg some (by kernel_rfl))⟩
  f8 := Tryz.func115.trans (congrArg some (by kernel_rfl))
  f9 := ⟨Tryz.f211.name, by decide, Tryz.func211.trans (congrArg some (by kernel_rfl))⟩
  f19 := Tryz.func179.trans (congrArg some (by kernel_rfl))
  f20 := Tryz.func180.trans (congrArg some (by kernel_rfl))
  f21 := ⟨Tryz.f223.name, by decide, Tryz.func223.trans (congrArg some (by kernel_rfl))⟩
  f22 := ⟨Tryz.f224.name, by decide, Tryz.func224.trans (congrArg some (by kernel_rfl))⟩
  f23 := ⟨Tryz.f225.name, by decide, Tryz.func225.trans (congrArg some (by kernel_rfl))⟩
  f24 := ⟨Tryz.f226.name, by decide, Tryz.func226.trans (congrArg some (by kernel_rfl))⟩
  f25 := ⟨Tryz.f227.name, by decide, Tryz.func227.trans (congrArg some (by kernel_rfl))⟩
  f26 := ⟨Tryz.f228.name, by decide, Tryz.func228.trans (congrArg some (by kernel_rfl))⟩
  f27 := ⟨Tryz.f229.name, by decide, Tryz.func229.trans (congrArg some (by kernel_rfl))⟩
  f28 := ⟨Tryz.f230.name, by decide, Tryz.func230.trans (congrArg some (by kernel_rfl))⟩
  f29 := ⟨Tryz.f231.name, by decide, Tryz.func231.trans (congrArg some (by kernel_rfl))⟩
  f31 := Tryz.func199.trans (congrArg some (by kernel_rfl))
  f32 := Tryz.func200.trans (congrArg some (by kernel_rfl))
  f36 := ⟨Tryz.f241.name, by decide, Tryz.func241.trans (congrArg some (by kernel_rfl))⟩
  f37 := ⟨Tryz.f242.name, by decide, Tryz.func242.trans (congrArg some (by kernel_rfl))⟩
  f38 := ⟨Tryz.f243.name, by decide, Tryz.func243.trans (congrArg some (by kernel_rfl))⟩
  f39 := ⟨Tryz.f244.name, by decide, Tryz.func244.trans (congrArg some (by kernel_rfl))⟩
  f41 := ⟨Tryz.f255.name, by decide, Tryz.func255.trans (congrArg some (by kernel_rfl))⟩
  t0 := Tryz.underlying0
  a0 := Tryz.isAgg0
  z0 := Tryz.sizeOf0
  v0 := Tryz.zeroValue0
  t3 := Tryz.underlying3
  a3 := Tryz.isAgg3
  z3 := Tryz.sizeOf3
  v3 := Tryz.zeroValue3
  t4 := Tryz.underlying4
  a4 := Tryz.isAgg4
  z4 := Tryz.sizeOf4
  v4 := Tryz.zeroValue4
  t5 := Tryz.underlying5
  a5 := Tryz.isAgg5
  z5 := Tryz.sizeOf5
  v5 := Tryz.zeroValue5
  t9 := Tryz.underlying9
  a9 := Tryz.isAgg9
  z9 := Tryz.sizeOf9
  v9 := Tryz.zeroValue9
  t26 := Tryz.underlying73
  a26 := Tryz.isAgg73
  z26 := Tryz.sizeOf73
  v26 := Tryz.zeroValue73
  t27 := Tryz.underlying73
  a27 := Tryz.isAgg73
  z27 := Tryz.sizeOf73
  v27 := Tryz.zeroValue73
  t29 := Tryz.underlying9
  a29 := Tryz.isAgg9
  z29 := Tryz.sizeOf9
  v29 := Tryz.zeroValue9
  t32 := Tryz.underlying194
  a32 := Tryz.isAgg194
  z32 := Tryz.sizeOf194
  v32 := Tryz.zeroValue194
  t35 := Tryz.underlying248
  a35 := Tryz.isAgg248
  z35 := Tryz.sizeOf248
  v35 := Tryz.zeroValue248
  t36 := Tryz.underlying249
  a36 := Tryz.isAgg249
  z36 := Tryz.sizeOf249
  v36 := Tryz.zeroValue249
  t41 := Tryz.underlying84
  a41 := Tryz.isAgg84
  z41 := Tryz.sizeOf84
  v41 := Tryz.zeroValue84
  t44 := Tryz.underlying255
  a44 := Tryz.isAgg255
  z44 := Tryz.sizeOf255
  v44 := Tryz.zeroValue255
  t46 := Tryz.underlying179
  a46 := Tryz.isAgg179
  z46 := Tryz.sizeOf179
  v46 := Tryz.zeroValue179
  t53 := Tryz.underlying269
  a53 := Tryz.isAgg269
  z53 := Tryz.sizeOf269
  v53 := Tryz.zeroValue269
  t57 := Tryz.underlying273
  a57 := Tryz.isAgg273
  z57 := Tryz.sizeOf273
  v57 := Tryz.zeroValue273
  t63 := Tryz.underlying293
  a63 := Tryz.isAgg293
  z63 := Tryz.sizeOf293
  v63 := Tryz.zeroValue293
  t64 := Tryz.underlying294
  a64 := Tryz.isAgg294
  z64 := Tryz.sizeOf294
  v64 := Tryz.zeroValue294 }
set_option maxHeartbeats 1000000 in
open Go.RowKit Go.Maps Go.Sort in
/-- slices.Sort's two contracts at this dump, at the fence that asks nothing. -/
theorem Tryz.sorts122 (m : Nat) : AnyZ.SortsIn Tryz.prog Tryz.sorted122_ren Fence.wide m :=
  ⟨fun blk off cap ss W hH hblk hsz => callsIn_wide.2 (AnyM.slices_Sort_string Tryz.sort185 blk off cap ss W hH hblk hsz),
   fun p cap W => callsIn_wide.2 (AnyM.slices_Sort_string_none Tryz.sort185 p cap W)⟩
set_option maxHeartbeats 1000000 in
open Go.RowKit Go.Maps Go.Sort in
/-- **maps.Keys[map[string]int,string,int], at whatever map, the nil one too:** a function value over ONE NEW BLOCK, which holds the map. -/
theorem Tryz.maps_KeysS (mb : Option Nat) (W : World) : CallsIn Fence.wide 5 Tryz.prog 123 #[.map mb] W fun e w' => e = .returned (.func (.func 186) #[] #[.pointer (some ⟨W.heap.size, 0, none⟩)]) ∧ w' = W.alloc (.cells #[.map mb] 83) :=
  AnyZ.keys_in Tryz.keys123 Fence.wide 5 trivial rfl mb W
set_option maxHeartbeats 1000000 in
open Go.RowKit Go.Maps Go.Sort in
/-- **slices.Sorted[string] AT WHAT maps.Keys[map[string]int,string,int] HANDED BACK FOR A MAP THAT IS NOT nil** ('w': the world AHEAD of maps.Keys' call): A NEW SLICE THAT HOLDS THE MAP's KEYS, SORTED; nil just where it has none; nothing that lay before has turned. -/
theorem Tryz.slices_Sorted_keysS {H : Type} (b nn : Nat) (D0 : DataW H) (R : Value → Option (DataW H × List MemPlace)) (w : World) (hown : w.ownsMap Tryz.prog 9 R b nn D0) (hmax : Maps.size D0 ≤ maxLen) (hbytes : Maps.size D0 * 16 ≤ 140737488355328) :
    CallsIn Fence.wide 5 Tryz.prog 122 #[.func (.func 186) #[] #[.pointer (some ⟨w.heap.size, 0, none⟩)]] (w.alloc (.cells #[.map (some b)] 83)) fun e w' => ∃ (v : Value) (ss : List (List UInt8)), e = .returned v ∧ ss.Perm (strKeys D0) ∧
      w'.ownsRow (w.alloc (.cells #[.map (some b)] 83)).heap.size 9 1 v ss.length ((ss.mergeSort (fun x y => decide (x ≤ y))).map encStr) ∧ (v = .slice none 0 0 ↔ ss = []) ∧ Below (w.alloc (.cells #[.map (some b)] 83)).heap.size (w.alloc (.cells #[.map (some b)] 83)) w' := by
  have hbl := hown.lt
  have hseq : SeqGives Fence.wide 2 Tryz.prog 186 #[.pointer (some ⟨w.heap.size, 0, none⟩)] encStr (fun ss => ss.Perm (strKeys D0)) (Maps.size D0) (w.alloc (.cells #[.map (some b)] 83)) :=
    AnyZ.keys_gives (ρ := Tryz.keys123_ren) { Tryz.keys123 with } Fence.wide _ trivial rfl (by omega) w.heap.size b nn D0 _ (by simp) (by simp) (by
      obtain ⟨es, clock, hb, Ft, hs, hD⟩ := hown
      exact ⟨es, clock, (Below.heap_alloc _ _ b hbl).trans hb, Ft, hs, hD⟩)
  exact AnyZ.sorted_in Tryz.sorted122 Fence.wide 5 trivial trivial trivial trivial rfl (by omega) (Tryz.sorts122 _) (enters_of Tryz.func185 (by kernel_rfl) rfl) 186 #[.pointer (some ⟨w.heap.size, 0, none⟩)] trivial (enters_of Tryz.func186 (by kernel_rfl) rfl) _ _ hmax hbytes _ hseq
set_option maxHeartbeats 1000000 in
open Go.RowKit Go.Maps Go.Sort in
/-- **.. AND FOR THE nil MAP: nil.** -/
theorem Tryz.slices_Sorted_keys_nilS (w : World) :
    CallsIn Fence.wide 5 Tryz.prog 122 #[.func (.func 186) #[] #[.pointer (some ⟨w.heap.size, 0, none⟩)]] (w.alloc (.cells #[.map none] 83)) fun e w' => ∃ (v : Value) (ss : List (List UInt8)), e = .returned v ∧ ss = [] ∧
      w'.ownsRow (w.alloc (.cells #[.map none] 83)).heap.size 9 1 v ss.length ((ss.mergeSort (fun x y => decide (x ≤ y))).map encStr) ∧ (v = .slice none 0 0 ↔ ss = []) ∧ Below (w.alloc (.cells #[.map none] 83)).heap.size (w.alloc (.cells #[.map none] 83)) w' := by
  have hseq : SeqGives Fence.wide 2 Tryz.prog 186 #[.pointer (some ⟨w.heap.size, 0, none⟩)] encStr (fun ss : List (List UInt8) => ss = []) 0 (w.alloc (.cells #[.map none] 83)) :=
    AnyZ.keys_gives_nil (ρ := Tryz.keys123_ren) { Tryz.keys123 with } Fence.wide _ trivial rfl w.heap.size _ (by simp) (by simp)
  exact AnyZ.sorted_in Tryz.sorted122 Fence.wide 5 trivial trivial trivial trivial rfl (by omega) (Tryz.sorts122 _) (enters_of Tryz.func185 (by kernel_rfl) rfl) 186 #[.pointer (some ⟨w.heap.size, 0, none⟩)] trivial (enters_of Tryz.func186 (by kernel_rfl) rfl) _ 0 (Nat.zero_le _) (by omega) _ hseq
end Go.Proofs
namespace Go.Proofs.YtoinabapaeebfaaGreatDoor
open Go.RowKit Go.Shelf

theorem eStr : ElemT Tryz.prog 73 9 (.string ⟨#[]⟩) 1 16 := ⟨Tryz.underlying73, by kernel_rfl, by kernel_rfl⟩
def wStr (b : List UInt8) : Value := .string ⟨b.toArray⟩
end Go.Proofs.YtoinabapaeebfaaGreatDoor
namespace Go.Proofs.YtoinabapaeebfaaGreatDoor
open Go.RowKit Go.Shelf Go.Sort

theorem ses_keys (b : Nat) (w : World) : Calls Tryz.prog 123 #[.map (some b)] w fun e w' => e = .returned (.func (.func 186) #[] #[.pointer (some ⟨w.heap.size, 0, none⟩)]) ∧ w.alloc (.cells #[.map (some b)] 83) = w' :=
  (callsIn_wide.1 (Tryz.maps_KeysS (some b) w)).mono fun e w' ⟨h1, h2⟩ => ⟨h1, h2.symm⟩
theorem ses_sorted {w : World} {b : Nat} {l : WL} (h : WM w b l) (hkl : ∀ p ∈ l, p.1.length ≤ 1000000) (hl : l.length ≤ 1000000) :
    Calls Tryz.prog 122 #[.func (.func 186) #[] #[.pointer (some ⟨w.heap.size, 0, none⟩)]] (w.alloc (.cells #[.map (some b)] 83)) fun e w' => ∃ v, e = .returned v ∧
      w'.ownsRow (w.heap.size + 1) 9 1 v l.length ((sortK l).map wStr) ∧ Below (w.alloc (.cells #[.map (some b)] 83)).heap.size (w.alloc (.cells #[.map (some b)] 83)) w' := by
  obtain ⟨D, h1, h2, h3⟩ := h.own (P := Tryz.prog) (k := 9) Tryz.underlying9 (fun p hp => by have := hkl p hp; unfold maxLen; omega) (by unfold maxLen; omega)
  refine (callsIn_wide.1 (Tryz.slices_Sorted_keysS b _ D _ w h1 (by rw [h3]; unfold maxLen; omega) (by rw [h3]; omega))).mono ?_
  rintro e w' ⟨v, ss, he, hp, hr, -, hb⟩
  have hpp := hp.trans h2
  refine ⟨v, he, ?_, hb⟩
  have e1 : ss.mergeSort (fun x y => decide (x ≤ y)) = sortK l := mergeSort_of_perm hpp
  have e2 : ss.length = l.length := by rw [hpp.length_eq, List.length_map]
  rw [e1, e2, show (encStr : List UInt8 → Value) = wStr from rfl] at hr
  simpa using hr

/-- What a caller's rounds must leave alone. -/
structure KpS (L : List Nat) (w w' : World) : Prop where
  size : w.heap.size ≤ w'.heap.size
  keep : ∀ k ∈ L, w'.heap[k]? = w.heap[k]?
  str : ∀ (k : Nat) cs f, w.heap[k]? = some (.cells cs 9 f) → w'.heap[k]? = some (.cells cs 9 f)
theorem KpS.trans {L : List Nat} {a b c : World} (h : KpS L a b) (k : KpS L b c) : KpS L a c := ⟨Nat.le_trans h.size k.size, fun x hx => (k.keep x hx).trans (h.keep x hx), fun x cs f hx => k.str x cs f (h.str x cs f hx)⟩
theorem KpS.row {L : List Nat} {w w' : World} (h : KpS L w w') {base : Nat} {size : Nat} {v : Value} {n : Nat} {xs : List Value} (hr : w.ownsRow base 9 size v n xs) : w'.ownsRow base 9 size v n xs := by
  obtain ⟨h1, h2⟩ := hr
  refine ⟨h1, h2.imp id ?_⟩
  rintro ⟨g, cap, cur, a1, a2, a3, a4⟩
  exact ⟨g, cap, cur, a1, a2, h.str _ _ _ a3, a4⟩
def encF (p : List UInt8 × Int) : Array Value := #[wStr p.1, .int .i64 p.2]

set_option maxRecDepth 100000 in
set_option maxHeartbeats 400000 in
theorem ses_filters {w : World} (p : Nat) :
    Calls Tryz.prog 69 #[.pointer (some ⟨p, 0, none⟩)] w fun e w' => e = .returned (.func (.func 121) #[] #[.pointer (some ⟨w.heap.size, 0, none⟩)]) ∧ w.alloc (.cells #[.pointer (some ⟨p, 0, none⟩)] 55) = w' := by
  go_enter Tryz.func69, Tryz.ntmps69
  go_wp2
  go_ret
  exact ⟨rfl, rfl⟩

set_option maxRecDepth 100000 in
set_option maxHeartbeats 2000000 in
theorem ses_filters1 (c p m : Nat) (cs : Array Value) (l : WL) (w : World) (hp : Blk w p cs 132) (hcs : cs[6]? = some (.map (some m))) (hm : WM w m l) (hc : Boxed w c 55 (.pointer (some ⟨p, 0, none⟩)))
    (hkl : ∀ q ∈ l, q.1.length ≤ 1000000) (hl : l.length ≤ 1000000) :
    SeqG Tryz.prog 121 #[.pointer (some ⟨c, 0, none⟩)] encF (KpS [c, p, m]) (Wrote []) (fun pre q _ => ∃ i, pre = (sortW l).take i ∧ (sortW l)[i]? = some q) (fun xs => xs = sortW l) (fun pre => ∃ i, pre = (sortW l).take (i + 1) ∧ i < l.length) w := by
  intro lb J Jx W hW hlb hJ hJx hY h0
  have hc := boxed_below hc hW
  have hp := hp.below hW
  have hm := hm.below hW
  have k6 : W.cell? ⟨p, 6, none⟩ = some (.map (some m)) := (hp.cell 6).trans hcs
  have hc1 := hc.cell
  have CK := hid (ses_keys m W)
  have CS := hid (ses_sorted hm hkl hl)
  refine callsIn_of_wp Tryz.func121 rfl trivial ?_ rfl
  simp only [Tryz.ntmps121, List.size_toArray, List.length_cons, List.length_nil, Nat.reduceAdd, Nat.reduceSub, Array.replicate_succ, Array.replicate_zero, List.push_toArray, List.append_toArray, List.nil_append, List.cons_append]
  gi_wp2_with fail
  refine inW CK.out ?_
  rintro e w1 ⟨rfl, rfl⟩
  gi_wp2_with fail
  refine inW CS.out ?_
  rintro e w2 ⟨v, rfl, hr2, hb2⟩
  obtain ⟨a, cv, rfl⟩ := own_slice hr2
  have hB2 : Below W.heap.size W w2 := ((Below.refl _ W).alloc (Nat.le_refl _) (.cells #[.map (some m)] 83)).trans (hb2.mono (by simp))
  gi_wp2_with fail
  have hkp := (hb2.mono (Nat.le_refl _))
  have hJ2 : J ((sortW l).take 0) w2 := hJ _ _ _ h0 (Wrote.of_below hB2)
  have hc2 := boxed_below hc hB2
  have hp2 := hp.below hB2
  have hm2 := hm.below hB2
  have hsl := sortW_len l
  have hJ2 := hid hJ2
  have hr2 := hid hr2
  have hc2 := hid hc2
  have hp2 := hid hp2
  have hm2 := hid hm2
  clear hb2 hB2 hkp k6 hc1 CK CS hc hp hm
  gi_loopw [4, 12] (fun _ i wr => ∃ (k : Nat), i = .int .i64 k ∧ k ≤ l.length ∧ Hid (J ((sortW l).take k) wr) ∧ Hid (Boxed wr c 55 (.pointer (some ⟨p, 0, none⟩))) ∧ Hid (Blk wr p cs 132) ∧ Hid (WM wr m l) ∧ Hid (wr.ownsRow (W.heap.size + 1) 9 1 (.slice a l.length cv) l.length ((sortK l).map wStr)))
    (fun _ i _ => l.length - (intOf i).toNat)
  case atStart => exact ⟨0, rfl, Nat.zero_le _, hJ2, hc2, hp2, hm2, hr2⟩
  case round =>
    obtain ⟨k, rfl, hk, hj, hc3, hp3, hm3, hr3⟩ := hrel
    rcases Nat.lt_or_ge k l.length with hlt | hge
    · have dk : decide ((k : Int) < (l.length : Int)) = true := decide_eq_true (by omega)
      obtain ⟨q, hq⟩ : ∃ q, (sortW l)[k]? = some q := ⟨_, List.getElem?_eq_getElem (by omega)⟩
      obtain ⟨_, _, hve, hvc⟩ := own_cell hr3.out
      obtain ⟨rfl, rfl⟩ : a = _ ∧ cv = _ := by simpa using hve
      have hqk : (sortK l)[k]? = some q.1 ∧ q.2 = (look l q.1).getD 0 := by
        unfold sortW at hq
        rw [List.getElem?_map] at hq
        cases hs : (sortK l)[k]? with
        | none => rw [hs] at hq; cases hq
        | some x => rw [hs] at hq; cases hq; exact ⟨rfl, rfl⟩
      obtain ⟨g, hag, hcg⟩ := hvc k (wStr q.1) (by rw [List.getElem?_map, hqk.1]; rfl)
      subst hag
      replace hcg : wr.cell? ⟨g, k, none⟩ = some (.string ⟨q.1.toArray⟩) := hcg
      have hc4 := hc3.out.cell
      have k6 : wr.cell? ⟨p, 6, none⟩ = some (.map (some m)) := (hp3.out.cell 6).trans hcs
      have HL := run_lookup_text (P := Tryz.prog) 83 9 3 Tryz.underlying83 Tryz.underlying9 hm3.out (by kernel_rfl) q.1 false
      rw [← hqk.2] at HL
      simp only [Bool.false_eq_true, if_false] at HL
      obtain ⟨fn, tmps, assign, body, hy2, hR⟩ := hY ((sortW l).take k) q wr hj.out ⟨k, rfl, hq⟩
      replace hy2 : (Instr.yield lb #[.string ⟨q.1.toArray⟩, .int .i64 q.2]).run Tryz.prog wr = _ := hy2
      have hR := hid hR
      have hsucc : Hid ((sortW l).take k ++ [q] = (sortW l).take (k + 1)) := hid (by rw [List.take_add_one, hq]; rfl)
      clear hve hvc hqk hq
      gi_wp2_with fail
      refine ⟨rfl, hR.out.mono ?_⟩
      rintro e W3 (⟨rfl, hJ3, hk3⟩ | ⟨rfl, hJx3⟩)
      · have hJ3 := hid hJ3
        have hk3 := hid hk3
        gi_wp2
        go_roundw
        case rel => exact ⟨k + 1, by go_num, by omega, hid (by rw [← hsucc.out]; exact hJ3.out), hid ((hk3.out.keep c (by simp)).trans hc3.out), hid (Blk.keep hp3.out (hk3.out.keep p (by simp))), hid (hm3.out.keep (hk3.out.keep m (by simp))), hid (hk3.out.row hr3.out)⟩
        case measure => simp [intOf]; omega
      · gi_wp2
        refine bodyPost_ret (results_none rfl _ _ _) rfl ?_
        exact ⟨⟨_, rfl⟩, .inr ⟨_, ⟨k, hsucc.out, hlt⟩, hJx3⟩⟩
    · obtain rfl : k = l.length := by omega
      have dk : decide ((l.length : Int) < (l.length : Int)) = false := by simp
      gi_wp2
      refine bodyPost_end (results_none rfl _ _ _) rfl ?_
      exact ⟨⟨_, rfl⟩, .inl ⟨_, rfl, by have := hj.out; rwa [List.take_of_length_le (by omega)] at this⟩⟩
end Go.Proofs.YtoinabapaeebfaaGreatDoor
