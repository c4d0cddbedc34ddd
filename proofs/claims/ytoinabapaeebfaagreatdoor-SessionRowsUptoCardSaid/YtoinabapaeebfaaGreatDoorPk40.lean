/- Parts of the proof of SessionRows: contracts of functions that it reaches, and plain lemmas. No condition of their own. -/
import Derived.Test.YtoinabapaeebfaaGreatDoorPk32
import Derived.Test.YtoinabapaeebfaaGreatDoorPk24
import Derived.Test.YtoinabapaeebfaaGreatDoorPk38
import Derived.Test.YtoinabapaeebfaaGreatDoorPk39
import Derived.Shelf.SlMaps.Clone
import Derived.Test.YtoinabapaeebfaaGreatDoorPk15
import Derived.Test.YtoinabapaeebfaaGreatDoorPk20
import Derived.Test.YtoinabapaeebfaaGreatDoorPk07
import Derived.Lib.AppendZeros
set_option linter.unusedSimpArgs false
set_option linter.unusedVariables false
set_option maxRecDepth 100000
set_option maxHeartbeats 8000000
namespace Go.Proofs.YtoinabapaeebfaaGreatDoor
open Go.RowKit Go.Shelf
section
theorem ofKind_perm {l l' : List RowV} (h : l.Perm l') (k : Int) : (ofKind l k).Perm (ofKind l' k) := h.filter _
theorem ofKind_app (l l' : List RowV) (k : Int) : ofKind (l ++ l') k = ofKind l k ++ ofKind l' k := List.filter_append ..
theorem ofKind_all {l : List RowV} {k : Int} (h : ∀ r ∈ l, r.kind = k) : ofKind l k = l := List.filter_eq_self.2 fun r hr => by simp [h r hr]
theorem ofKind_none {l : List RowV} {k : Int} (h : ∀ r ∈ l, r.kind ≠ k) : ofKind l k = [] := List.filter_eq_nil_iff.2 fun r hr => by simp [h r hr]
theorem subs_kind (x : XS) : ∀ r ∈ x.subs', r.kind = 2 := by
 intro r hr
 obtain ⟨p, -, rfl⟩ := List.mem_map.1 hr
 rfl
theorem ins_kind (x : XS) : ∀ r ∈ x.ins', r.kind = 4 := by
 intro r hr
 obtain ⟨p, -, rfl⟩ := List.mem_map.1 hr
 rfl
section
variable {W R : Int} {c : List UInt8} {x : XS}
theorem bag_split (x : XS) : x.bag = [x.o.session] ++ x.o.l ++ (x.subs' ++ x.ins') := rfl
theorem PX.kind3 (h : PX W R c x) : ∀ r ∈ x.o.l, r.kind = 3 := fun r hr => (h.po.row r hr).1
theorem PX.of1 (h : PX W R c x) : ofKind x.bag 1 = [x.o.session] := by
 rw [bag_split, ofKind_app, ofKind_app, ofKind_app, ofKind_none (l := x.o.l) (fun r hr => by rw [h.kind3 r hr]; decide), ofKind_none (l := x.subs') (fun r hr => by rw [subs_kind x r hr]; decide), ofKind_none (l := x.ins') (fun r hr => by rw [ins_kind x r hr]; decide)]
 rfl
theorem PX.of2 (h : PX W R c x) : ofKind x.bag 2 = x.subs' := by
 rw [bag_split, ofKind_app, ofKind_app, ofKind_app, ofKind_none (l := x.o.l) (fun r hr => by rw [h.kind3 r hr]; decide), ofKind_all (subs_kind x), ofKind_none (l := x.ins') (fun r hr => by rw [ins_kind x r hr]; decide)]
 rw [show ofKind [x.o.session] 2 = [] from rfl]
 simp
theorem PX.of3 (h : PX W R c x) : ofKind x.bag 3 = x.o.l := by
 rw [bag_split, ofKind_app, ofKind_app, ofKind_app, ofKind_all h.kind3, ofKind_none (l := x.subs') (fun r hr => by rw [subs_kind x r hr]; decide), ofKind_none (l := x.ins') (fun r hr => by rw [ins_kind x r hr]; decide)]
 rw [show ofKind [x.o.session] 3 = [] from rfl]
 simp
theorem PX.of4 (h : PX W R c x) : ofKind x.bag 4 = x.ins' := by
 rw [bag_split, ofKind_app, ofKind_app, ofKind_app, ofKind_none (l := x.o.l) (fun r hr => by rw [h.kind3 r hr]; decide), ofKind_none (l := x.subs') (fun r hr => by rw [subs_kind x r hr]; decide), ofKind_all (ins_kind x)]
 rw [show ofKind [x.o.session] 4 = [] from rfl]
 simp
end
theorem subs_order {x : XS} {l : List RowV} (h : l.Perm x.subs') : ∃ wl : WL, wl.Perm x.wants /\ l = wl.map fun p => x.sub p.1 p.2 := by
 refine ⟨l.map fun r => (r.topic, r.qos), ?_, ?_⟩
 ·have := h.map fun r => (r.topic, r.qos)
  rw [XS.subs', List.map_map] at this
  simpa [Function.comp_def, XS.sub] using this
 ·rw [List.map_map]
  refine (List.map_id l).symm.trans (List.map_congr_left fun r hr => ?_)
  obtain ⟨p, -, rfl⟩ := List.mem_map.1 (h.mem_iff.1 hr)
  rfl
theorem ins_order {x : XS} {l : List RowV} (h : l.Perm x.ins') : ∃ il : List Nat, il.Perm x.ids /\ l = il.map fun i : Nat => x.inr (i : Int) := by
 refine ⟨l.map fun r => r.id.toNat, ?_, ?_⟩
 ·have := h.map fun r => r.id.toNat
  rw [XS.ins', List.map_map] at this
  simpa [Function.comp_def, XS.inr] using this
 ·rw [List.map_map]
  refine (List.map_id l).symm.trans (List.map_congr_left fun r hr => ?_)
  obtain ⟨p, -, rfl⟩ := List.mem_map.1 (h.mem_iff.1 hr)
  simp [XS.inr]
theorem rising_ext {α : Type} {lt : α -> α -> Prop} (irr : ∀ a, ¬ lt a a) (tr : ∀ a b c, lt a b -> lt b c -> lt a c) : ∀ (l l' : List α), l.Pairwise lt -> l'.Pairwise lt -> l.Perm l' -> l = l'
 | [], l', _, _, h => (List.nil_perm.1 h).symm
 | a :: l, [], _, _, h => by simp at h
 | a :: l, b :: l', h1, h2, h => by
  have hab : a = b := by
   rcases List.mem_cons.1 (h.mem_iff.1 (List.mem_cons_self ..)) with e | e
   ·exact e
   rcases List.mem_cons.1 (h.mem_iff.2 (List.mem_cons_self ..)) with e' | e'
   ·exact e'.symm
   ·exact absurd (tr _ _ _ ((List.pairwise_cons.1 h1).1 b e') ((List.pairwise_cons.1 h2).1 a e)) (irr a)
  subst hab;rw [rising_ext irr tr l l' (List.pairwise_cons.1 h1).2 (List.pairwise_cons.1 h2).2 (List.perm_cons a |>.1 h)]
theorem look_perm {l l' : WL} (hn : (l.map Prod.fst).Nodup) (h : l.Perm l') (k : List UInt8) : look l k = look l' k := by
 have hn' : (l'.map Prod.fst).Nodup := (h.map _).nodup_iff.1 hn
 cases e : look l k with
 | none =>
  symm
  rw [look_none] at e ⊢
  exact fun p hp => e p (h.mem_iff.2 hp)
 | some v => exact ((look_some hn').2 (h.mem_iff.1 ((look_some hn).1 e))).symm
theorem sortW_ext {l l' : WL} (hn : (l.map Prod.fst).Nodup) (h : l.Perm l') : sortW l = sortW l' := by
 have hn' : (l'.map Prod.fst).Nodup := (h.map _).nodup_iff.1 hn
 have hk : sortK l = sortK l' := rising_ext (lt := fun a b : List UInt8 => a < b) (fun a => List.lt_irrefl a) (fun a b c => List.lt_trans) _ _ (sortK_lt hn) (sortK_lt hn') ((sortK_perm l).trans ((h.map _).trans (sortK_perm l').symm))
 unfold sortW
 rw [hk]
 exact List.map_congr_left fun k _ => by rw [look_perm hn h]
theorem ins_new {l : WL} {k : List UInt8} (h : ∀ p ∈ l, p.1 ≠ k) (v : Int) : ins l k v = l ++ [(k, v)] := by
 unfold ins
 rw [look_none.2 h]
 rfl
def XS.fresh (x : XS) (wl : WL) (il : List Nat) : XS := { x with wants := wl, ids := il, clean := false, on := false, keep := 0, heard := 0, will := none }
theorem fresh_rows {W R : Int} {c : List UInt8} {x : XS} (h : PX W R c x) {wl : WL} {il : List Nat} (hw : wl.Perm x.wants) (hi : il.Perm x.ids) : (x.fresh wl il).rows = x.rows := by
 have h1 : sortW wl = sortW x.wants := (sortW_ext h.wn hw.symm).symm
 have h2 : sortI il = sortI x.ids := sortI_ext fun n => hi.mem_iff
 unfold XS.rows XS.fresh
 simp only [h1, h2]
 rfl
end
section
theorem ses_Clone {w : World} {b : Nat} {l : WL} (h : WM w b l) :
  Calls Tryz.prog 85 #[.map (some b)] w fun e w' => e = .returned (.map (some w.heap.size)) /\ WM w' w.heap.size l /\ Below w.heap.size w w' := by
 obtain ⟨⟨es, clock, hb, he⟩, hn, hs⟩ := h
 have hq := fun w => run_eql_map_nil_sl (P := Tryz.prog) w 83 9 3 (some b) Tryz.underlying83
 have hst := hid (hs es clock hb)
 have he := hid he;have hn := hid hn;clear hs;go_enter Tryz.func85, Tryz.ntmps85
 go_wp2
 rw [run_callFunc_extern Tryz.func138 (by kernel_rfl) (by kernel_rfl) (by kernel_rfl) (e := Extern.MapsClone.clone) (by kernel_rfl), run_maps_clone_sl w 83 hb]
 simp only [Result.andThen]
 rw [Oper.upon_value]
 go_wp2
 rw [run_typeAssert_map_sl _ 83 20 9 3 _ Tryz.underlying83]
 simp only [Result.andThen]
 rw [Oper.upon_value]
 go_wp2
 go_ret
 refine ⟨rfl, ⟨⟨es, clock, World.alloc_heap_new w _, he.out⟩, hn.out, fun es' clock' h => ?_⟩, (Below.refl _ w).alloc (Nat.le_refl _) _⟩
 rw [World.alloc_heap_new] at h
 cases h
 exact hst.out
theorem cells_one {S : XLay} {x : XS} : ∀ v ∈ (S.cells x).toList, v.oneCell' = true := by
 intro v hv
 simp only [XLay.cells, List.mem_cons, List.not_mem_nil, or_false] at hv
 rcases hv with rfl | rfl | rfl | rfl | rfl | rfl | rfl | rfl | rfl | rfl | rfl | rfl <;> first | rfl | (unfold ptrO; cases S.wv <;> rfl)
theorem ses_Copy {w : World} {B : Nat} {S : XLay} {x : XS} {W R : Int} {c : List UInt8} (h : XB w B S x) (hx : PX W R c x) (hroom : 1 <= x.o.room) (hseq : x.o.seq <= 4611686018427387904) :
  Calls Tryz.prog 40 #[.pointer (some ⟨S.p, 0, none⟩)] w fun e w' => ∃ S', e = .returned (.pointer (some ⟨S'.p, 0, none⟩)) /\ XT w' w'.heap.size S' x /\ (∀ b ∈ S'.seen, w.heap.size <= b) /\ Below w.heap.size w w' := by
 have CN := hid (ses_none h)
 have H := hid h;have hsm : sessMay (sessV x.o.client x.o.seq x.o.id) = true := by rw [hx.po.cl]; exact sess_may hx.po.may ⟨hx.po.pos, hseq⟩ hx.po.id
 have CO := hid fun (W1 : World) (hb : Below w.heap.size w W1) => out_Copy (h.ob.below hb) (hx.po.good h.ob.ok (List.Perm.refl _)) hx.po.wn.rg.sorted hroom hseq hsm
 have CI := hid fun (W1 : World) (hb : Below w.heap.size w W1) => in_Copy S.ib S.sb x.most S.W W1 (h.inb.below hb)
 have CM := hid fun (W1 : World) (hb : Below w.heap.size w W1) => ses_Clone (h.wm.below hb)
 clear hsm;go_enter Tryz.func40, Tryz.ntmps40
 go_wp2_with (first
  | (go_at_call 60; refine CN.out.mono ?_; rintro e w1 ⟨rfl, rfl⟩)
  | (refine wpList_load_blk rfl 132 _ rfl S.p (S.cells x) rfl H.out.box Tryz.underlying132 rfl (by rfl) ?_)
  | (refine wS 132 12 rfl w.heap.size _ (S.cells x) rfl rfl (Blk.new w _ _) rfl rfl cells_one ?_; intro w2 hb2 hw2))
 have hB2 := hid (((Below.refl w.heap.size w).alloc (Nat.le_refl _) _).trans (hw2.below (by simp) (by simp)))
 have H2 := hid (H.out.below hB2.out)
 have hb2 := hid hb2;have kk := hid fun (W1 : World) (hb : Below w.heap.size w W1) (j : Nat) => ((H.out.below hb).box.cell j)
 refine regionQ [(1000, fun w' => w'.cell? ⟨S.p, 0, none⟩ = some (.pointer (some ⟨S.o.p, 0, none⟩))), (1000, fun w' => w'.cell? ⟨S.p, 5, none⟩ = some (.pointer (some ⟨S.ib, 0, none⟩))), (1000, fun w' => w'.cell? ⟨S.p, 6, none⟩ = some (.map (some S.m)))] (by kernel_rfl) ⟨H2.out.box.cell 0, H2.out.box.cell 5, H2.out.box.cell 6, trivial⟩ fun KQ hKQ => ?_
 try simp only [PT]
 refine tQ [0] ?_;refine nQ 1 ?_;refine tQ [2] ?_;refine lQ 3 0 ?_;refine tQ [5] ?_;refine nQ 6 ?_;refine tQ [7] ?_;refine lQ 8 1 ?_;refine tQ [10] ?_;refine nQ 11 ?_;refine tQ [12] ?_;refine lQ 13 2 ?_;refine sQ 4 fun K hK => ?_;simp only [GO];go_simp;refine (CO.out _ hB2.out.drew).mono ?_
 rintro e w3 ⟨L', rfl, hO3, hN3, hS3⟩
 have hB23 : Below w2.drew.heap.size w2.drew w3 := hS3.wrote.below (Nat.le_refl _) (by simp)
 have hB3 := hid (hB2.out.drew.trans (hB23.mono hB2.out.size))
 refine hK _ _ ⟨⟨fun _ => kk.out _ hB3.out 0, fun _ => kk.out _ hB3.out 5, fun _ => kk.out _ hB3.out 6, trivial⟩, ?_⟩
 clear hK K;try simp only [PT]
 refine sQ 9 fun K hK => ?_;simp only [GO];go_simp;refine (CI.out _ hB3.out).mono ?_
 rintro e w4 ⟨b', s', rfl, hI4, hne4, hb4, hs4, hB34⟩
 have hB4 := hid (hB3.out.trans (hB34.mono hB3.out.size))
 refine hK _ _ ⟨⟨fun _ => kk.out _ hB4.out 0, fun _ => kk.out _ hB4.out 5, fun _ => kk.out _ hB4.out 6, trivial⟩, ?_⟩
 clear hK K;try simp only [PT]
 refine sQ 14 fun K hK => ?_;simp only [GO];go_simp;refine (CM.out _ hB4.out).mono ?_
 rintro e w5 ⟨rfl, hm5, hB45⟩
 have hB5 := hid (hB4.out.trans (hB45.mono hB4.out.size))
 have hb5 := hid (((hb2.out.below (undrew hB23)).below hB34).below hB45)
 refine hK _ _ ⟨⟨fun _ => kk.out _ hB5.out 0, fun _ => kk.out _ hB5.out 5, fun _ => kk.out _ hB5.out 6, trivial⟩, ?_⟩
 clear hK K;try simp only [PT]
 have hsz45 := hB45.size
 refine tQ [15] ?_;refine sQ 16 fun K hK => ?_;simp only [GO];refine wp_store_cell 26 132 _ _ rfl (fun w => by kernel_rfl) w.heap.size 0 _ (.pointer (some ⟨L'.p, 0, none⟩)) rfl rfl hb5.out (by simp [XLay.cells]) rfl rfl fun w6 hb6 hw6 => ?_
 have hB6 := hid (hB5.out.trans (hw6.below hB5.out.size (by simp)))
 refine hK _ _ ⟨⟨fun _ => kk.out _ hB6.out 0, fun _ => kk.out _ hB6.out 5, fun _ => kk.out _ hB6.out 6, trivial⟩, ?_⟩
 clear hK K;try simp only [PT]
 refine tQ [17] ?_;refine sQ 18 fun K hK => ?_;simp only [GO];refine wp_store_cell 117 132 _ _ rfl (fun w => by kernel_rfl) w.heap.size 5 _ (.pointer (some ⟨b', 0, none⟩)) rfl rfl hb6 (by simp [XLay.cells]) rfl rfl fun w7 hb7 hw7 => ?_
 have hB7 := hid (hB6.out.trans (hw7.below hB6.out.size (by simp)))
 refine hK _ _ ⟨⟨fun _ => kk.out _ hB7.out 0, fun _ => kk.out _ hB7.out 5, fun _ => kk.out _ hB7.out 6, trivial⟩, ?_⟩
 clear hK K;try simp only [PT]
 refine tQ [19] ?_;refine sQ 20 fun K hK => ?_;simp only [GO];refine wp_store_cell 83 132 _ _ rfl (fun w => by kernel_rfl) w.heap.size 6 _ (.map (some w4.heap.size)) rfl rfl hb7 (by simp [XLay.cells]) rfl rfl fun w8 hb8 hw8 => ?_
 have hB8 := hid (hB7.out.trans (hw8.below hB7.out.size (by simp)))
 refine hK _ _ ⟨⟨fun _ => kk.out _ hB8.out 0, fun _ => kk.out _ hB8.out 5, fun _ => kk.out _ hB8.out 6, trivial⟩, ?_⟩
 clear hK K;try simp only [PT]
 refine dQ (hKQ.out _ _ ?_);clear hKQ KQ;have hw58 := hid ((hw6.trans hw7).trans hw8)
 go_wp2
 go_ret
 have hg := H.out.ob.tz.lt
 have hl2 := hb2.out.lt
 have hL' : ∀ y ∈ L'.foot, w2.heap.size <= y := fun y hy => by have := (hS3.sub y hy).resolve_left (by simp); simpa using this
 have s34 := hB34.size
 have s23 := hB23.size
 simp only [World.size_drew] at s23
 have hO := ob_rebase2 (((hO3.below hB34).below hB45).out hw58.out (fun y hy hf => by have := hL' y hf; simp at hy; omega) (by simp; omega)) hN3
 have hI5 := hI4.below hB45
 have hib := hI5.box.lt
 have hb3 := hB3.out.size
 refine ⟨⟨w.heap.size, L', b', s', w4.heap.size, S.wv, S.W⟩, rfl, ⟨by simpa [XLay.cells] using hb8, hO, ⟨hI5.box.wrote hw58.out (by simp; omega), hI5.set.wrote hw58.out (by simp; omega)⟩, H.out.set, hm5.wrote hw58.out (by simp; omega), H.out.ok⟩, ?_, hB8.out⟩
 intro y hy
 simp only [XLay.seen, List.mem_cons] at hy
 rcases hy with rfl | rfl | rfl | rfl | hy
 ·exact Nat.le_refl _
 ·omega
 ·omega
 ·omega
 ·have := hL' y hy; omega
end
section
theorem grow_nil0 (w : World) : Calls Tryz.prog 137 #[.slice none 0 0, .int .i64 (0 : Nat)] w fun e w' => ∃ a c, e = .returned (.slice a 0 c) /\ w'.ownsRow w.heap.size 33 9 (.slice a 0 c) 0 [] /\ Below w.heap.size w w' := by
 go_enter Tryz.func137, Tryz.ntmps137
 go_wp2
 go_ret
 exact ⟨none, 0, rfl, World.ownsRow_nil _ _ _ _, Below.refl _ _⟩
theorem grow_some (n : Nat) (h0 : 0 < n) (hn : n <= 2000000) (w : World) :
  Calls Tryz.prog 137 #[.slice none 0 0, .int .i64 n] w fun e w' => ∃ a c, e = .returned (.slice a 0 c) /\ w'.ownsRow w.heap.size 33 9 (.slice a 0 c) 0 [] /\ Below w.heap.size w w' := by
 have d1 : decide ((n : Int) > 0) = true := decide_eq_true (by omega)
 have d0 : decide ((n : Int) < 0) = false := decide_eq_false (by omega)
 obtain ⟨i, hi, hz, hsz, hby⟩ : ∃ i : TypeInfo, Tryz.prog.info? 33 = some i /\ i.zero = some (.agg (RowV.vals ⟨0, [], 0, 0, [], [], 0, false, 0⟩)) /\ i.size = 9 /\ i.bytes = 96 := by
  exact info_parts eRow.info
 have HA := Lib.run_append_nil_zeros (P := Tryz.prog) w 34 3 34 33 i _ .i64 .i64 Tryz.underlying34 Tryz.underlying3 hi hz n h0 (by omega) (by omega) (by rw [hby]; omega)
 obtain ⟨Z, hZ⟩ : ∃ Z, Builtin.zeroCells (Value.agg (RowV.vals ⟨0, [], 0, 0, [], [], 0, false, 0⟩)).cells n ++ Builtin.zeroCells (Value.agg (RowV.vals ⟨0, [], 0, 0, [], [], 0, false, 0⟩)).cells (grownCap w n 0 33 - n) = Z := ⟨_, rfl⟩
 rw [hZ] at HA
 have hge := grownCap_ge w n 0 33
 have hle := grownCap_le_maxLen w n 0 33 (by unfold maxLen; omega)
 obtain ⟨cp, hcp⟩ : ∃ c, grownCap w n 0 33 = c := ⟨_, rfl⟩
 rw [hcp] at HA hge hle hZ
 have hzs : Z.size = cp * 9 := by
  rw [<- hZ, Array.size_append, size_zeroCells, size_zeroCells]
  show n * 9 + (cp - n) * 9 = cp * 9
  omega
 clear hZ hcp hz hi;go_enter Tryz.func137, Tryz.ntmps137
 go_wp2_with (at_builtin; refine Lib.wpList_append_run w rfl _ _ _ _ rfl _ _ rfl rfl _ _ HA ?_)
 go_ret
 exact ⟨_, _, rfl, ⟨rfl, .inr ⟨w.heap.size, cp, Z, rfl, Nat.le_refl _, World.alloc_heap_new w _, by omega, hle, hzs, by simp⟩⟩, ((Below.refl _ w).drew).alloc (by simp) _⟩
def CcI (w W : World) (l1 l2 : List RowV) (k : Nat) (a : Option Addr) (n c : Nat) : Prop :=
 Below w.heap.size w W /\ ∃ l, (k = 0 /\ l = [] \/ k = 1 /\ l = l1 \/ k = 2 /\ l = l1 ++ l2) /\ l.length = n /\ W.ownsRow w.heap.size 33 9 (.slice a n c) n (l.flatMap RowV.cl)
theorem concat_two (l1 l2 : List RowV) (b1 b2 : Nat) (a1 a2 : Option Addr) (n1 n2 c1 c2 : Nat) (g : Nat) (w : World) (h : Blk w g #[.slice a1 n1 c1, .slice a2 n2 c2] 34)
  (h1 : w.ownsRow b1 33 9 (.slice a1 n1 c1) n1 (l1.flatMap RowV.cl)) (h2 : w.ownsRow b2 33 9 (.slice a2 n2 c2) n2 (l2.flatMap RowV.cl)) (e1 : l1.length = n1) (e2 : l2.length = n2) (hl : n1 + n2 <= 1000000) :
  Calls Tryz.prog 83 #[.slice (some ⟨g, 0, none⟩) 2 2] w fun e w' => ∃ a c, e = .returned (.slice a (n1 + n2) c) /\ w'.ownsRow w.heap.size 33 9 (.slice a (n1 + n2) c) (n1 + n2) ((l1 ++ l2).flatMap RowV.cl) /\ Below w.heap.size w w' := by
 have CG := hid fun n (h0 : 0 < n) (hn : n <= 2000000) (W : World) => grow_some n h0 hn W
 have CG0 := hid (grow_nil0)
 have H := hid h;have h1 := hid h1;have h2 := hid h2;have e1 := hid e1;have e2 := hid e2;clear h;go_enter Tryz.func83, Tryz.ntmps83
 go_wp2
 go_loopw [3, 5, 11] (fun s _ i wr => ∃ (k m : Nat), s = .int .i64 m /\ i = .int .i64 k /\ k <= 2 /\ (k = 0 /\ 0 = m \/ k = 1 /\ n1 = m \/ k = 2 /\ n1 + n2 = m) /\ w = wr) (fun _ _ i _ => 2 - (intOf i).toNat)
 case atStart => exact ⟨0, 0, rfl, rfl, by omega, by simp, rfl⟩
 case round =>
  obtain ⟨k, m, rfl, rfl, hk, hm, rfl⟩ := hrel
  rcases hm with ⟨rfl, rfl⟩ | ⟨rfl, rfl⟩ | ⟨rfl, rfl⟩
  ·have c0 : w.cell? ⟨g, 0, none⟩ = some (.slice a1 n1 c1) := H.out.cell 0
   go_wp2
   go_roundw
   case rel => exact ⟨1, n1, by go_num, rfl, by omega, .inr (.inl ⟨rfl, rfl⟩), trivial⟩
   case measure => simp [intOf]
  ·have c0 : w.cell? ⟨g, 1, none⟩ = some (.slice a2 n2 c2) := H.out.cell 1
   go_wp2
   go_roundw
   case rel => exact ⟨2, n1 + n2, by go_num, rfl, by omega, .inr (.inr ⟨rfl, rfl⟩), trivial⟩
   case measure => simp [intOf]
  ·obtain ⟨s, hs⟩ : ∃ s, n1 + n2 = s := ⟨_, rfl⟩
   rw [hs]
   have hG : Hid (Calls Tryz.prog 137 #[.slice none 0 0, .int .i64 s] w fun e w' => ∃ a c, e = .returned (.slice a 0 c) /\ w'.ownsRow w.heap.size 33 9 (.slice a 0 c) 0 [] /\ Below w.heap.size w w') := by
    rcases Nat.eq_zero_or_pos s with h0 | h0
    ·rw [h0]
     exact hid (CG0.out w)
    ·exact hid (CG.out s h0 (by omega) w)
   clear CG CG0;go_wp2_with (go_at_call 137; refine hG.out.mono ?_; rintro e w1 ⟨a, c, rfl, hr, hb⟩; have hI0 : Hid (CcI w w1 l1 l2 0 a 0 c) := hid ⟨hb, [], .inl ⟨rfl, rfl⟩, rfl, hr⟩; clear hr hb)
   go_loopw [6, 8, 27] (fun s _ i wr => ∃ (k : Nat) (a : Option Addr) (n c : Nat), s = .slice a n c /\ i = .int .i64 k /\ k <= 2 /\ Hid (CcI w wr l1 l2 k a n c)) (fun _ _ i _ => 2 - (intOf i).toNat)
   case atStart => exact ⟨0, a, 0, c, rfl, rfl, by omega, hI0⟩
   case round =>
    obtain ⟨k, a, n, c, rfl, rfl, hk, hI⟩ := hrel
    obtain ⟨hb, l, hl, hln, hr⟩ := hI.out
    have hr := hid hr;have hb := hid hb;have hbl := hid (H.out.below hb.out)
    rcases hl with ⟨rfl, rfl⟩ | ⟨rfl, rfl⟩ | ⟨rfl, rfl⟩
    ·have c0 : wr.cell? ⟨g, 0, none⟩ = some (.slice a1 n1 c1) := hbl.out.cell 0
     have hnb : n <= 1000000 := by rw [<- hln]; simp
     go_wp2_with (at_builtin; refine wpList_plain rfl fun _ hK => ?_; refine wp_append_rows _ _ rfl eRow (by decide) w.heap.size _ n _ rfl hr.out b1 _ n1 _ rfl (ownsRow_below h1.out hb.out) (by intro y hy; obtain ⟨p, -, hp⟩ := List.mem_flatMap.1 hy; exact p.one y hp) (by omega) (by omega) hb.out.size fun v' w5 r5 g5 n5 => ?_; obtain ⟨a5, c5, hv5⟩ := own_slice r5; subst hv5; refine hK _ _ ?_)
     exact ⟨⟨1, a5, n + n1, c5, rfl, by go_num, by omega, hid ⟨hb.out.grown g5 hb.out.size (fun y hy => (hr.out.lt y hy).1), _, .inr <| .inl ⟨rfl, rfl⟩, by simp at hln ⊢; have := e1.out; have := e2.out; omega, by simpa [List.flatMap_append] using r5⟩⟩, by simp [intOf]⟩
    ·have c0 : wr.cell? ⟨g, 1, none⟩ = some (.slice a2 n2 c2) := hbl.out.cell 1
     have hnb : n + n2 <= 1000000 := by rw [<- hln, e1.out]; exact hl
     go_wp2_with (at_builtin; refine wpList_plain rfl fun _ hK => ?_; refine wp_append_rows _ _ rfl eRow (by decide) w.heap.size _ n _ rfl hr.out b2 _ n2 _ rfl (ownsRow_below h2.out hb.out) (by intro y hy; obtain ⟨p, -, hp⟩ := List.mem_flatMap.1 hy; exact p.one y hp) (by omega) (by omega) hb.out.size fun v' w5 r5 g5 n5 => ?_; obtain ⟨a5, c5, hv5⟩ := own_slice r5; subst hv5; refine hK _ _ ?_)
     exact ⟨⟨2, a5, n + n2, c5, rfl, by go_num, by omega, hid ⟨hb.out.grown g5 hb.out.size (fun y hy => (hr.out.lt y hy).1), _, .inr <| .inr ⟨rfl, rfl⟩, by simp at hln ⊢; have := e1.out; have := e2.out; omega, by simpa [List.flatMap_append] using r5⟩⟩, by simp [intOf]⟩
    ·go_wp2
     go_ret
     obtain rfl : n = n1 + n2 := by rw [<- hln, List.length_append, e1.out, e2.out]
     exact ⟨a, c, rfl, hr.out, hb.out⟩
end
end Go.Proofs.YtoinabapaeebfaaGreatDoor
