/- Maps from texts to integers: an entry is dropped. No program in sight. · Contracts of package session (part 12): Unwant. · Maps from texts to integers, as the library's contracts on sorted keys see them. No program in sight. -/
import Derived.Test.YtoinabapaeebfaaGreatDoorPk25
import Derived.Test.YtoinabapaeebfaaGreatDoorPk39
import Derived.Test.YtoinabapaeebfaaGreatDoorPk35
import Derived.Maps.Own
import Derived.Sort.KeysCollected
import Derived.StringKeys
set_option linter.unusedSimpArgs false
set_option linter.unusedVariables false
namespace Go.Proofs.YtoinabapaeebfaaGreatDoor
open Go.RowKit Go.Shelf Go.MapKept Go.ChangeMaps

theorem erase_mapD {α β : Type} (f : α → β) : ∀ (l : List α) (j : Nat), (l.eraseIdx j).map f = (l.map f).eraseIdx j
  | [], _ => rfl
  | _ :: _, 0 => rfl
  | x :: l, j + 1 => by simp [erase_mapD f l j]
theorem del_none {l : WL} {k : List UInt8} (h : look l k = none) : del l k = l := by
  unfold del
  rw [List.filter_eq_self]
  intro p hp
  simpa using look_none.1 h p hp
theorem del_at {l : WL} {k : List UInt8} {j : Nat} {p : List UInt8 × Int} (hn : (l.map Prod.fst).Nodup) (hj : l[j]? = some p) (hp : p.1 = k) : del l k = l.eraseIdx j := by
  induction l generalizing j with
  | nil => simp at hj
  | cons q l ih =>
    simp only [List.map_cons, List.nodup_cons] at hn
    cases j with
    | zero =>
      simp only [List.getElem?_cons_zero, Option.some.injEq] at hj
      subst hj
      have : del l k = l := del_none (look_none.2 fun x hx hk => hn.1 (by rw [hp, ← hk]; exact List.mem_map_of_mem (f := Prod.fst) hx))
      simpa [del, hp] using this
    | succ j =>
      rw [List.getElem?_cons_succ] at hj
      have hq : q.1 ≠ k := fun h => hn.1 (by rw [h, ← hp]; exact List.mem_map_of_mem (f := Prod.fst) (List.mem_of_getElem? hj))
      have := ih hn.2 hj
      rw [List.eraseIdx_cons_succ, ← this]
      simp [del, hq]
theorem nodup_del {l : WL} (hn : (l.map Prod.fst).Nodup) (k : List UInt8) : ((del l k).map Prod.fst).Nodup := hn.sublist (List.Sublist.map _ List.filter_sublist)
theorem del_len_le (l : WL) (k : List UInt8) : (del l k).length ≤ l.length := List.length_filter_le _ _
theorem look_del (l : WL) (k : List UInt8) : look (del l k) k = none := by
  rw [look_none]
  intro p hp
  unfold del at hp
  simpa using (List.mem_filter.1 hp).2

/-- An entry is dropped. -/
theorem run_delete_text {P : Program} (t k e : TypeId) (ht : P.underlying t = some (.map k e)) (hk : P.underlying k = some .string) {w : World} {b : Nat} {l : WL} (h : WM w b l) (s : List UInt8) (ty : TypeId) :
    ∃ w', (Builtin.delete_ #[t, k] ty #[.map (some b), .string ⟨s.toArray⟩]).run P w = .ok (.tuple #[]) w' ∧ WM w' b (del l s) ∧ w.grownBy w' (some b) := by
  obtain ⟨⟨es, clock, hb, he⟩, hn, hs⟩ := h
  have h2 := run_checkKey (w := w) hk (k := wkey s) (by simp [wkey, IsKey]) es.isEmpty 9999
  have hlt : b < w.heap.size := (Array.getElem?_eq_some_iff.1 hb).1
  rcases find_entry he hn s with ⟨hl, hf⟩ | ⟨j, u, hl, hf, e1, hj, hkey⟩
  · have h1 := run_findKey (w := w) hk hf
    refine ⟨setBlock w b (.map es clock), ?_, ⟨⟨es, clock, by simp [setBlock, hlt], by rw [del_none hl]; exact he⟩, nodup_del hn s, fun es' clock' h' => by
      rw [show (setBlock w b (.map es clock)).heap[b]? = some (.map es clock) by simp [setBlock, hlt]] at h'
      cases h'
      exact hs _ _ hb⟩, World.mapTurned.grown ⟨es, clock, _, _, hb, rfl⟩⟩
    unfold wkey at h1 h2
    simp [Builtin.delete_, run_underlying ht, MapKept.run_getObj_map hb, h2, h1, MapKept.run_setObj_map _ hb, Result.andThen, setBlock]
  · have h1 := run_findKey (w := w) hk hf
    have hjl : j < es.size := by have := (List.getElem?_eq_some_iff.1 hj).1; simpa using this
    obtain ⟨p, hp, hk3, _⟩ := entries_get he hj
    have hps : p.1 = s := wkey_inj (hk3.symm.trans hkey)
    refine ⟨setBlock w b (.map (es.eraseIdxIfInBounds j) clock), ?_, ⟨⟨es.eraseIdxIfInBounds j, clock, by simp [setBlock, hlt], ?_⟩, nodup_del hn s, fun es' clock' h' => by
      rw [show (setBlock w b (.map (es.eraseIdxIfInBounds j) clock)).heap[b]? = some (.map (es.eraseIdxIfInBounds j) clock) by simp [setBlock, hlt]] at h'
      cases h'
      exact stamped_erase (hs _ _ hb) j⟩, World.mapTurned.grown ⟨es, clock, _, _, hb, rfl⟩⟩
    · unfold wkey at h1 h2
      simp [Builtin.delete_, run_underlying ht, MapKept.run_getObj_map hb, h2, h1, MapKept.run_setObj_map _ hb, Result.andThen, setBlock]
    · rw [del_at hn hp hps]
      have : (es.eraseIdxIfInBounds j).toList = es.toList.eraseIdx j := by
        unfold Array.eraseIdxIfInBounds
        rw [dif_pos hjl, Array.toList_eraseIdx]
      rw [this, erase_mapD, he, erase_mapD]

/-- At the operation. -/
theorem wpList_delete_text {P : Program} {w : World} {ops : Array Oper} {rest : List Oper} {o : Oper} {a : Act} {Q : Exit → Act → World → Prop}
    (hg : o.guard = none) (m x : Operand) (t k : TypeId) (hop : o.op = Op.call { callee := Callee.builtin Builtin.delete, args := #[m, x], argTypes := #[t, k] }) (e : TypeId) (ht : P.underlying t = some (.map k e)) (hk : P.underlying k = some .string) {b : Nat} {l : WL} (h : WM w b l)
    (hm : a.eval m = .map (some b)) (s : List UInt8) (hx : a.eval x = .string ⟨s.toArray⟩)
    (hK : ∀ w', WM w' b (del l s) → w.grownBy w' (some b) → wpList P ops Q rest (a.put o.dst (.tuple #[])) w') :
    wpList P ops Q (o :: rest) a w := by
  refine wpList_plain hg fun K' hK' => ?_
  obtain ⟨w', hrun, h1, h2⟩ := run_delete_text t k e ht hk h s o.type
  unfold Oper.wp
  simp [execOp, hop, resolve, invoke, builtin, hm, hx, hrun, Result.andThen]
  exact hK' _ _ (hK _ h1 h2)
end Go.Proofs.YtoinabapaeebfaaGreatDoor
namespace Go.Proofs.YtoinabapaeebfaaGreatDoor
open Go.RowKit Go.Shelf

set_option maxRecDepth 100000 in
set_option maxHeartbeats 1000000 in
theorem ses_Unwant_bad {w : World} {B : Nat} {S : XLay} {x : XS} (h : XB w B S x) (f : List UInt8) (hf : f.length ≤ 1000000) (hm : filterR f = false) :
    Calls Tryz.prog 32 #[.pointer (some ⟨S.p, 0, none⟩), .string ⟨f.toArray⟩] w fun e w' => e = .returned (.tuple #[.agg didZ, .bool false, .int .i64 2]) ∧ Below w.heap.size w w' := by
  have CN := hid fun o => ses_none (h.alloc o)
  have CF := fun W => topic_Filter f W hf
  rw [hm] at CF
  replace CF := hid CF
  have H := hid h
  have HB0 := hid ((Below.refl w.heap.size w).alloc (Nat.le_refl _) (.cells didZ 53))
  obtain ⟨ol, hlk0⟩ : ∃ ol, look x.wants f = ol := ⟨_, rfl⟩
  have hlk := hid hlk0
  clear h hm hlk0 hf
  go_enter Tryz.func32, Tryz.ntmps32
  go_wp2_with (first
    | (go_at_call 60; refine (CN.out _).mono ?_; rintro e w0 ⟨rfl, rfl⟩)
    | (go_at_call 70; refine (CF.out _).mono ?_; rintro e w1 ⟨rfl, hb1⟩; have hB1 := hid (HB0.out.trans (hb1.mono (by simp))); have hx1 := hid (H.out.below hB1.out); have hZ1 := hid ((Blk.new w didZ 53).below hb1); have k6 : w1.cell? ⟨S.p, 6, none⟩ = some (.map (some S.m)) := hx1.out.box.cell 6; have HL := run_lookup_text (P := Tryz.prog) 83 9 3 Tryz.underlying83 Tryz.underlying9 hx1.out.wm (by kernel_rfl) f true; simp only [hlk.out, if_true] at HL)
    | (refine wpList_store_blk rfl 53 53 _ _ rfl 2 (fun w => by kernel_rfl) w.heap.size _ didZ rfl rfl hZ1.out rfl rfl (by simp [didZ,Value.oneCell']) ?_; intro w5 hb5 hw5))
  refine bodyPost_ret (results_ctt Tryz.results32 rfl (run_loadVar_blk hb5 53 Tryz.underlying53 rfl (by kernel_rfl)) rfl rfl) rfl ?_
  exact ⟨rfl, hB1.out.trans (hw5.below hB1.out.size (by simp))⟩

set_option maxRecDepth 100000 in
set_option maxHeartbeats 1000000 in
theorem ses_Unwant_none {w : World} {B : Nat} {S : XLay} {x : XS} (h : XB w B S x) (f : List UInt8) (hf : f.length ≤ 1000000) (hm : filterR f = true) (hlk0 : look x.wants f = none) :
    Calls Tryz.prog 32 #[.pointer (some ⟨S.p, 0, none⟩), .string ⟨f.toArray⟩] w fun e w' => e = .returned (.tuple #[.agg didZ, .bool false, .int .i64 0]) ∧ Below w.heap.size w w' := by
  have CN := hid fun o => ses_none (h.alloc o)
  have CF := fun W => topic_Filter f W hf
  rw [hm] at CF
  replace CF := hid CF
  have H := hid h
  have HB0 := hid ((Below.refl w.heap.size w).alloc (Nat.le_refl _) (.cells didZ 53))
  have hlk := hid hlk0
  clear h hm hlk0 hf
  go_enter Tryz.func32, Tryz.ntmps32
  go_wp2_with (first
    | (go_at_call 60; refine (CN.out _).mono ?_; rintro e w0 ⟨rfl, rfl⟩)
    | (go_at_call 70; refine (CF.out _).mono ?_; rintro e w1 ⟨rfl, hb1⟩; have hB1 := hid (HB0.out.trans (hb1.mono (by simp))); have hx1 := hid (H.out.below hB1.out); have hZ1 := hid ((Blk.new w didZ 53).below hb1); have k6 : w1.cell? ⟨S.p, 6, none⟩ = some (.map (some S.m)) := hx1.out.box.cell 6; have HL := run_lookup_text (P := Tryz.prog) 83 9 3 Tryz.underlying83 Tryz.underlying9 hx1.out.wm (by kernel_rfl) f true; simp only [hlk.out, if_true] at HL)
    | (refine wpList_store_blk rfl 53 53 _ _ rfl 2 (fun w => by kernel_rfl) w.heap.size _ didZ rfl rfl hZ1.out rfl rfl (by simp [didZ,Value.oneCell']) ?_; intro w5 hb5 hw5))
  refine bodyPost_ret (results_ctt Tryz.results32 rfl (run_loadVar_blk hb5 53 Tryz.underlying53 rfl (by kernel_rfl)) rfl rfl) rfl ?_
  exact ⟨rfl, hB1.out.trans (hw5.below hB1.out.size (by simp))⟩

set_option maxRecDepth 100000 in
set_option maxHeartbeats 2000000 in
theorem ses_Unwant_out {w : World} {B : Nat} {S : XLay} {x : XS} (h : XB w B S x) (f : List UInt8) (q : Int) (hf : f.length ≤ 1000000) (hm : filterR f = true) (hlk0 : look x.wants f = some q) :
    Calls Tryz.prog 32 #[.pointer (some ⟨S.p, 0, none⟩), .string ⟨f.toArray⟩] w fun e w' => ∃ g, e = .returned (.tuple #[.agg #[.slice none 0 0, .slice (some ⟨g, 0, none⟩) 1 1], .bool true, .int .i64 0]) ∧
      SDid w w' S S { x with wants := del x.wants f } (.slice none 0 0) (.slice (some ⟨g, 0, none⟩) 1 1) [] [⟨true, x.sub f q⟩] := by
  have CN := hid fun o => ses_none (h.alloc o)
  have CF := fun W => topic_Filter f W hf
  rw [hm] at CF
  replace CF := hid CF
  have H := hid h
  have HB0 := hid ((Below.refl w.heap.size w).alloc (Nat.le_refl _) (.cells didZ 53))
  have hlk := hid hlk0
  have hil : ((del x.wants f).length : Int) ≤ x.subs := by
    have h1 := h.ok.wants
    have h2 := del_len_le x.wants f
    omega
  have hil := hid hil
  clear h hm hlk0 hf
  have hml := H.out.wm.lt
  have hpl := H.out.box.lt
  go_enter Tryz.func32, Tryz.ntmps32
  go_wp2_with (first
      | (go_at_call 60; refine (CN.out _).mono ?_; rintro e w0 ⟨rfl, rfl⟩)
      | (go_at_call 70; refine (CF.out _).mono ?_; rintro e w1 ⟨rfl, hb1⟩; have hB1 := hid (HB0.out.trans (hb1.mono (by simp))); have hx1 := hid (H.out.below hB1.out); have hZ1 := hid ((Blk.new w didZ 53).below hb1); have k6 : w1.cell? ⟨S.p, 6, none⟩ = some (.map (some S.m)) := hx1.out.box.cell 6; have HL := run_lookup_text (P := Tryz.prog) 83 9 3 Tryz.underlying83 Tryz.underlying9 hx1.out.wm (by kernel_rfl) f true; simp only [hlk.out, if_true] at HL)
      | (refine wpList_delete_text rfl _ _ 83 9 rfl 3 Tryz.underlying83 Tryz.underlying9 hx1.out.wm rfl f rfl ?_; intro w6 hwm6 hg6; have hw6 : Hid (Wrote [S.m] w1 w6) := hid (Wrote.of_grown hg6 (fun k hk => by cases hk; simp)); have hx6 := hid (hx1.out.rewant (del x.wants f) hw6.out hwm6 hil.out); have hZ6 := hid (hZ1.out.wrote hw6.out (by simp only [List.mem_singleton]; omega)); have CS := ses_sub hx6.out f q; unfold XS.sub RowV.vals at CS; dsimp only at CS; have CS := hid CS)
      | (go_at_call 65; refine CS.out.mono ?_; rintro e w7 ⟨rfl, hb7⟩; have hx7 := hid (hx6.out.below hb7); have hZ7 := hid (hZ6.out.below hb7))
      | (refine wpList_store_blk rfl 53 53 _ _ rfl 2 (fun w => by kernel_rfl) w.heap.size _ #[.slice none 0 0, .slice (some ⟨w7.heap.size, 0, none⟩) 1 1] rfl rfl (hZ7.out.alloc _) rfl rfl (by simp [Value.oneCell']) ?_; intro w8 hb8 hw8))
  have hs1 : w.heap.size < w1.heap.size := hZ1.out.lt
  have hs6 : w1.heap.size ≤ w6.heap.size := hw6.out.size
  have hs7 : w6.heap.size ≤ w7.heap.size := hb7.size
  refine bodyPost_ret (results_ctt Tryz.results32 rfl (run_loadVar_blk hb8 53 Tryz.underlying53 rfl (by kernel_rfl)) rfl rfl) rfl ?_
  have hnf : w.heap.size ∉ S.foot := H.out.foot_lt (Nat.le_refl _)
  have hx8 := (hx7.out.alloc (.cells #[.bool true, .int .i64 2, .string ⟨x.o.client.toArray⟩, .int .i64 0, .int .i64 0, .string ⟨f.toArray⟩, .string ⟨#[]⟩, .int .i64 q, .bool false, .int .i64 0] 115)).out hw8 (by simpa using hnf) (by have := H.out.ob.tz.lt; simp only [List.mem_singleton]; omega)
  have hne8 : w7.heap.size ∉ [w.heap.size] := by simp only [List.mem_singleton]; omega
  have hC8 := (Blk.new w7 #[.bool true, .int .i64 2, .string ⟨x.o.client.toArray⟩, .int .i64 0, .int .i64 0, .string ⟨f.toArray⟩, .string ⟨#[]⟩, .int .i64 q, .bool false, .int .i64 0] 115).wrote hw8 hne8
  refine ⟨w7.heap.size, rfl, ⟨hx8.top, rfl, ⟨?_, fun b hb => .inl hb⟩, World.ownsRow_nil _ _ _ _, ?_, ?_⟩⟩
  · have hall : Wrote [S.m] w w7 := ((Wrote.of_below hB1.out).trans hw6.out).trans (Wrote.of_below hb7)
    exact ((hall.trans (Wrote.alloc _ _ _)).andNew hw8 (by simp)).sub (by simp [XLay.foot, XLay.own])
  · exact ⟨by simp [ChangeV.len], .inr ⟨w7.heap.size, 1, _, rfl, by omega, hC8, by simp, by decide, by simp, by simp [ChangeV.cells, RowV.vals, XS.sub]⟩⟩
  · intro b hb
    simp [blk, Value.ownBlock] at hb
    subst hb
    exact H.out.foot_lt (by omega)
end Go.Proofs.YtoinabapaeebfaaGreatDoor
namespace Go.Proofs.YtoinabapaeebfaaGreatDoor
open Go.RowKit Go.Shelf Go.MapKept Go.ChangeMaps Go.WideElems Go.Sort

def sortK (l : WL) : List (List UInt8) := (l.map Prod.fst).mergeSort leB
/-- The entries by their keys. -/
def sortW (l : WL) : WL := (sortK l).map fun k => (k, (look l k).getD 0)
theorem sortK_perm (l : WL) : (sortK l).Perm (l.map Prod.fst) := List.mergeSort_perm _ _
theorem sortW_len (l : WL) : (sortW l).length = l.length := by
  unfold sortW
  rw [List.length_map, (sortK_perm l).length_eq, List.length_map]
theorem sortW_mem {l : WL} (hn : (l.map Prod.fst).Nodup) {p : List UInt8 × Int} : p ∈ sortW l ↔ p ∈ l := by
  unfold sortW
  rw [List.mem_map]
  constructor
  · rintro ⟨k, hk, rfl⟩
    rw [(sortK_perm l).mem_iff] at hk
    obtain ⟨q, hq, rfl⟩ := List.mem_map.1 hk
    have : look l q.1 = some q.2 := (look_some hn).2 hq
    rw [this]
    exact hq
  · intro hp
    refine ⟨p.1, (sortK_perm l).mem_iff.2 (List.mem_map_of_mem (f := Prod.fst) hp), ?_⟩
    rw [(look_some hn).2 hp]
    rfl
theorem sortK_pair (l : WL) : (sortK l).Pairwise fun a b => a ≤ b := by
  have h := List.pairwise_mergeSort (le := leB) (fun a b c h1 h2 => by simp only [leB, decide_eq_true_eq] at *; exact List.le_trans h1 h2) (fun a b => by simp only [leB, Bool.or_eq_true, decide_eq_true_eq]; exact List.le_total a b) (l.map Prod.fst)
  refine h.imp ?_
  intro a b hab
  simpa [leB] using hab
theorem sortK_lt {l : WL} (hn : (l.map Prod.fst).Nodup) : (sortK l).Pairwise fun a b => a < b := by
  have h1 := sortK_pair l
  have h2 : (sortK l).Nodup := (sortK_perm l).nodup_iff.2 hn
  refine (h1.and h2).imp ?_
  rintro a b ⟨h, hne⟩
  rcases List.le_iff_lt_or_eq.1 h with h | h
  · exact h
  · exact absurd h hne

theorem WM.own {P : Program} {k : TypeId} {w : World} {b : Nat} {l : WL} (h : WM w b l) (hk : P.underlying k = some .string) (hkl : ∀ p ∈ l, p.1.length ≤ maxLen) (hl : l.length ≤ maxLen) :
    ∃ D : DataW Unit, w.ownsMap P k (fun _ => some (.nil, [])) b l.length D ∧ (strKeys D).Perm (l.map Prod.fst) ∧ Maps.size D = l.length := by
  obtain ⟨⟨es, clock, hb, he⟩, hn, hs⟩ := h
  have hlen : es.toList.length = l.length := by have := congrArg List.length he; simpa using this
  have hrd : ∀ x ∈ es.toList, ∃ p ∈ l, WideElems.rd (H := Unit) P k (fun _ => some (.nil, [])) x = some (.string p.1, .nil) ∧ x.key = wkey p.1 := by
    intro x hx
    obtain ⟨p, hp, hk1, _⟩ := entries_mem he hx
    refine ⟨p, hp, ?_, hk1⟩
    unfold WideElems.rd
    have h1 := Go.WideMaps.keyOf_string_mk (P := P) (k := k) hk (s := ⟨p.1.toArray⟩) (by simpa [ByteArray.size] using hkl p hp)
    have h2 : x.key = .string ⟨p.1.toArray⟩ := hk1
    rw [h2, h1]
    rfl
  refine ⟨_, ⟨es, clock, hb, ⟨by rw [← Array.length_toList, hlen]; exact hl, hs _ _ hb, fun x hx => by obtain ⟨p, _, h1, _⟩ := hrd x hx; exact ⟨_, h1⟩⟩, by rw [← Array.length_toList, hlen]; exact Nat.le_refl _, rfl⟩, ?_, ?_⟩
  · unfold strKeys
    refine ((WideShapes.sorted_perm _).map _).trans ?_
    rw [List.map_map]
    have e2 : es.toList.map (fun e => e.key) = l.map (fun p => wkey p.1) := by
      have := congrArg (List.map Prod.fst) he
      simpa [List.map_map, Function.comp_def] using this
    have e3 : es.toList.map ((fun p : Lit × DataW Unit => strOf p.1) ∘ WideElems.rg P k fun _ => some (.nil, [])) = l.map Prod.fst := by
      have e4 : ∀ x ∈ es.toList, ((fun p : Lit × DataW Unit => strOf p.1) ∘ WideElems.rg P k fun _ => some (.nil, [])) x = (match x.key with | .string s => s.data.toList | _ => []) := by
        intro x hx
        obtain ⟨p, _, h1, h2⟩ := hrd x hx
        simp only [Function.comp]
        unfold WideElems.rg
        rw [h1, h2]
        rfl
      rw [List.map_congr_left e4]
      have := congrArg (List.map fun v : Value => match v with | .string s => s.data.toList | _ => []) e2
      rw [List.map_map, List.map_map] at this
      refine this.trans (List.map_congr_left fun p _ => ?_)
      rfl
    rw [e3]
  · show (List.foldr DataW.insert [] _).length = _
    rw [(WideShapes.sorted_perm _).length_eq, List.length_map, hlen]
end Go.Proofs.YtoinabapaeebfaaGreatDoor
