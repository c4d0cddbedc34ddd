/- Contracts of package outbox (part 18): Of without rows, New, Len. · Maps from texts to integers whose entries are known: looked up, set, dropped, counted. No program in sight. -/
import Derived.Test.YtoinabapaeebfaaGreatDoorPk23
import Derived.Test.YtoinabapaeebfaaGreatDoorPk24
import Derived.Test.YtoinabapaeebfaaGreatDoorPk09
import Derived.Maps.OwnSet
set_option linter.unusedSimpArgs false
set_option linter.unusedVariables false
namespace Go.Proofs.YtoinabapaeebfaaGreatDoor
open Go.RowKit Go.Shelf

set_option maxRecDepth 100000 in
set_option maxHeartbeats 400000 in
theorem bits_Len64_0 (w : World) : Calls Tryz.prog 180 #[.int .u64 0] w fun e w' => e = .returned (.int .i64 0) ∧ w = w' := by
  go_enter Tryz.func180, Tryz.ntmps180
  go_wp2
  go_ret
  refine ⟨?_, rfl⟩
  kernel_rfl
set_option maxRecDepth 100000 in
set_option maxHeartbeats 400000 in
theorem bits_Len_0 (w : World) : Calls Tryz.prog 115 #[.int .u64 0] w fun e w' => e = .returned (.int .i64 0) ∧ w = w' := by
  have C := hid (bits_Len64_0)
  go_enter Tryz.func115, Tryz.ntmps115
  go_wp2_with (go_at_call 180; refine (C.out _).mono ?_; rintro e w1 ⟨rfl, rfl⟩)
  go_ret
  exact ⟨rfl, rfl⟩
set_option maxRecDepth 100000 in
set_option maxHeartbeats 400000 in
theorem insert_nil (f : Value) (w : World) : Calls Tryz.prog 171 #[.slice none 0 0, .int .i64 0, .int .i64 0, f] w fun e w' => e = .returned (.tuple #[]) ∧ w = w' := by
  go_enter Tryz.func171, Tryz.ntmps171
  go_wp2
  go_loopw [8] (fun i wr => i = .int .i64 1 ∧ w = wr) (fun _ _ => 0)
  case atStart => exact ⟨rfl, rfl⟩
  case round =>
    obtain ⟨rfl, rfl⟩ := hrel
    go_wp2
    go_end0
    exact ⟨rfl, rfl⟩
set_option maxRecDepth 100000 in
set_option maxHeartbeats 1000000 in
theorem pdq_nil (f : Value) (w : World) : Calls Tryz.prog 114 #[.slice none 0 0, .int .i64 0, .int .i64 0, .int .i64 0, f] w fun e w' => e = .returned (.tuple #[]) ∧ w = w' := by
  have C := hid (insert_nil f)
  go_enter Tryz.func114, Tryz.ntmps114
  go_wp2
  go_loopw [1, 2] (fun a b wr => a = .int .i64 0 ∧ b = .int .i64 0 ∧ w = wr) (fun _ _ _ => 0)
  case atStart => exact ⟨rfl, rfl, rfl⟩
  case round =>
    obtain ⟨rfl, rfl, rfl⟩ := hrel
    go_wp2_with (go_at_call 171; refine (C.out _).mono ?_; rintro e w1 ⟨rfl, rfl⟩)
    refine bodyPost_ret (results_none rfl _ _ _) rfl ?_
    exact ⟨rfl, rfl⟩
set_option maxRecDepth 100000 in
set_option maxHeartbeats 400000 in
theorem sort_nil (f : Value) (w : World) : Calls Tryz.prog 55 #[.slice none 0 0, f] w fun e w' => e = .returned (.tuple #[]) ∧ w = w' := by
  have C1 := hid (bits_Len_0)
  have C2 := hid (pdq_nil f)
  go_enter Tryz.func55, Tryz.ntmps55
  go_wp2_with (first
    | (go_at_call 115; refine (C1.out _).mono ?_; rintro e w1 ⟨rfl, rfl⟩)
    | (go_at_call 114; refine (C2.out _).mono ?_; rintro e w1 ⟨rfl, rfl⟩))
  go_end0
  exact ⟨rfl, rfl⟩

theorem wp_genW {P : Program} {code : Code} {Q : Exit → Act → World → Prop} {a : Act} {W : World} (C : World → Prop) (hC : C W) (h : ∀ W', C W' → code.wp P Q a W') : code.wp P Q a W := h W hC

def sessV (client : List UInt8) (seq id : Int) : RowV := ⟨1, client, seq, id, [], [], 0, false, 0⟩

set_option maxRecDepth 100000 in
set_option maxHeartbeats 2000000 in
theorem out_Of (window room : Int) (client : List UInt8) (seq id : Int) (w : World) (hT : TzAt w) (hw : 1 ≤ window ∧ window ≤ 100) (hr : 1 ≤ room ∧ room ≤ 1000) (hs : 0 ≤ seq ∧ seq ≤ 4611686018427387904) (hi : 1 ≤ id ∧ id ≤ 65535) (hc : client.length ≤ 23) (hmay : sessMay (sessV client seq id) = true) :
    Calls Tryz.prog 13 #[.int .i64 window, .int .i64 room, .agg (sessV client seq id).vals, .slice none 0 0] w fun e w' => ∃ L, e = .returned (.tuple #[.pointer (some ⟨L.p, 0, none⟩), .int .i64 0]) ∧
      OB w' w'.heap.size L ⟨client, window, room, seq, id, []⟩ [] [] ∧ (L.vp = .slice none 0 0 ∧ L.vc = .slice none 0 0) ∧ Stp [] L.foot w w' := by
  have CK := hid fun w1 => rec_Check_sess client seq id w1 (by omega)
  rw [show sessMay ⟨1, client, seq, id, [], [], 0, false, 0⟩ = true from hmay] at CK
  have CI := hid fun w1 => in_New 100 w1 (by decide) (by decide)
  have CS := hid (sort_nil (.func (.func 56) #[] #[]))
  clear hmay
  unfold sessV RowV.vals at *
  dsimp only at CK ⊢
  have d1 : decide (window < 1) = false := decide_eq_false (by omega)
  have d2 : decide (100 < window) = false := decide_eq_false (by omega)
  have d3 : decide (room < 1) = false := decide_eq_false (by omega)
  have d4 : decide (1000 < room) = false := decide_eq_false (by omega)
  have d5 : decide (room < 0) = false := decide_eq_false (by omega)
  have d6 : decide (id < 1) = false := decide_eq_false (by omega)
  have d7 : decide (65535 < id) = false := decide_eq_false (by omega)
  go_enter Tryz.func13, Tryz.ntmps13
  go_wp2
  refine wp_scope_straight ?_
  go_wp2_with fail
  refine (CI.out _).mono ?_
  rintro e w1 ⟨rfl, hin, hb1⟩
  simp only [World.size_alloc] at hin hb1 ⊢
  have hS1 := (Blk.new w #[.int .i64 1, .string ⟨client.toArray⟩, .int .i64 seq, .int .i64 id, .string ⟨#[]⟩, .string ⟨#[]⟩, .int .i64 0, .bool false, .int .i64 0] 33).below (by simpa using hb1)
  have s0 : w1.cell? ⟨w.heap.size, 0, none⟩ = some (.int .i64 1) := hS1.cell 0
  have s1 : w1.cell? ⟨w.heap.size, 1, none⟩ = some (.string ⟨client.toArray⟩) := hS1.cell 1
  have s2 : w1.cell? ⟨w.heap.size, 2, none⟩ = some (.int .i64 seq) := hS1.cell 2
  have s3 : w1.cell? ⟨w.heap.size, 3, none⟩ = some (.int .i64 id) := hS1.cell 3
  have s4 : w1.cell? ⟨w.heap.size, 4, none⟩ = some (.string ⟨#[]⟩) := hS1.cell 4
  have s5 : w1.cell? ⟨w.heap.size, 5, none⟩ = some (.string ⟨#[]⟩) := hS1.cell 5
  have s6 : w1.cell? ⟨w.heap.size, 6, none⟩ = some (.int .i64 0) := hS1.cell 6
  have s7 : w1.cell? ⟨w.heap.size, 7, none⟩ = some (.bool false) := hS1.cell 7
  have s8 : w1.cell? ⟨w.heap.size, 8, none⟩ = some (.int .i64 0) := hS1.cell 8
  have hin := hid hin
  go_wp2_with fail
  refine (CK.out _).mono ?_
  rintro e w2 ⟨rfl, hb2⟩
  clear s0 s1 s2 s3 s4 s5 s6 s7 s8
  have hS2 := hS1.below hb2
  have t1 : w2.cell? ⟨w.heap.size, 1, none⟩ = some (.string ⟨client.toArray⟩) := hS2.cell 1
  have t2 : w2.cell? ⟨w.heap.size, 2, none⟩ = some (.int .i64 seq) := hS2.cell 2
  have t3 : w2.cell? ⟨w.heap.size, 3, none⟩ = some (.int .i64 id) := hS2.cell 3
  go_wp2_with fail
  have hin2 := hid (hin.out.below hb2)
  have hB02 := hid (((Below.refl _ w).alloc (Nat.le_refl _) (.cells #[.int .i64 1, .string ⟨client.toArray⟩, .int .i64 seq, .int .i64 id, .string ⟨#[]⟩, .string ⟨#[]⟩, .int .i64 0, .bool false, .int .i64 0] 33)).trans ((hb1.mono (by omega)).trans (hb2.mono (by have := hb1.size; simp at this; omega))))
  have hz2 : w.heap.size + 3 ≤ w2.heap.size := by have := hin2.out.box.lt; omega
  refine wp_genW (fun W' => Below w2.heap.size w2 W' ∧ Blk W' w2.heap.size #[.pointer (some ⟨w.heap.size + 1 + 1, 0, none⟩), .string ⟨client.toArray⟩, .int .i64 window, .int .i64 room, .int .i64 seq, .int .i64 id, .slice none 0 0, .slice none 0 0, .slice none 0 0] 123) ⟨(Below.refl _ w2).alloc (Nat.le_refl _) _, Blk.new w2 _ _⟩ ?_
  rintro w3 ⟨hb3, hbox3⟩
  have k6 : w3.cell? ⟨w2.heap.size, 6, none⟩ = some (.slice none 0 0) := hbox3.cell 6
  go_loopw [73] (fun i wr => i = .int .i64 0 ∧ w3 = wr) (fun _ _ => 0)
  case atStart => exact ⟨rfl, rfl⟩
  case round =>
    obtain ⟨rfl, rfl⟩ := hrel
    go_wp2_with (go_at_call 55; refine (CS.out _).mono ?_; rintro e w4 ⟨rfl, rfl⟩)
    go_loopw [17] (fun i wr => i = .int .i64 1 ∧ w3 = wr) (fun _ _ => 0)
    case atStart => exact ⟨rfl, rfl⟩
    case round =>
      obtain ⟨rfl, rfl⟩ := hrel
      go_wp2
      simp only [Exit.noGoto_ret]
      go_returns
      have hB03 := hB02.out.trans (hb3.mono hB02.out.size)
      have hg := hT.lt
      refine ⟨⟨w2.heap.size, w.heap.size + 1 + 1, w.heap.size + 1, .slice none 0 0, .slice none 0 0, .slice none 0 0, [], fun _ => 0⟩, rfl, ⟨Nat.le_refl _, hbox3, hin2.out.below hb3, SetIs.nil, World.ownsRow_nil _ _ _ _, rfl, fun i b r h1 h2 => by simp at h1, List.nodup_nil, World.ownsRow_nil _ _ _ _, World.ownsRow_nil _ _ _ _, hT.below hB03, ?_, ?_⟩, ⟨rfl, rfl⟩, Wrote.of_below hB03, ?_⟩
      · simp only [Lay.foot, blk, Value.ownBlock, Option.toList_none, List.append_nil, List.mem_cons, List.not_mem_nil, or_false, not_or]; omega
      · exact ⟨hw, ⟨hr.2, by simp; omega⟩, ⟨hs.1, Int.le_trans hs.2 (by decide)⟩, hi, hc, fun r hr => by simp at hr, by simp [idsOf], by simp [idsOf]; omega⟩
      · intro x hx
        simp [Lay.foot, blk, Value.ownBlock] at hx
        right
        omega

set_option maxRecDepth 100000 in
set_option maxHeartbeats 400000 in
theorem out_New (window room : Int) (client : List UInt8) (w : World) (hT : TzAt w) (hw : 1 ≤ window ∧ window ≤ 100) (hr : 1 ≤ room ∧ room ≤ 1000) (hc : client.length ≤ 23) (hmay : sessMay (sessV client 0 1) = true) :
    Calls Tryz.prog 10 #[.string ⟨client.toArray⟩, .int .i64 window, .int .i64 room] w fun e w' => ∃ L, e = .returned (.tuple #[.pointer (some ⟨L.p, 0, none⟩), .int .i64 0]) ∧
      OB w' w'.heap.size L ⟨client, window, room, 0, 1, []⟩ [] [] ∧ (L.vp = .slice none 0 0 ∧ L.vc = .slice none 0 0) ∧ Stp [] L.foot w w' := by
  have CO := hid (out_Of window room client 0 1 w hT hw hr (by omega) (by omega) hc hmay)
  clear hmay
  unfold sessV RowV.vals at CO
  go_enter Tryz.func10, Tryz.ntmps10
  go_wp2_with (go_at_call 13; refine CO.out.mono ?_; rintro e w1 ⟨L, rfl, hO, hn, hS⟩)
  go_returns
  exact ⟨L, rfl, hO, hn, hS⟩

set_option maxRecDepth 100000 in
set_option maxHeartbeats 400000 in
theorem out_Len {w : World} {B : Nat} {L : Lay} {s : OS} {ps : List PackV} {cs : List ChangeV} (h : OB w B L s ps cs) :
    Calls Tryz.prog 44 #[.pointer (some ⟨L.p, 0, none⟩)] w fun e w' => e = .returned (.int .i64 s.l.length) ∧ w = w' := by
  have CN := hid (out_none h)
  obtain ⟨a, cap, hv, -⟩ := own_cell h.rows
  have k6 : w.cell? ⟨L.p, 6, none⟩ = some (.slice a s.l.length cap) := (h.box.cell 6).trans (by simp [boxCells, hv])
  go_enter Tryz.func44, Tryz.ntmps44
  go_wp2_with (go_at_call 58; refine CN.out.mono ?_; rintro e w1 ⟨rfl, rfl⟩)
  go_ret
  exact ⟨rfl, rfl⟩
end Go.Proofs.YtoinabapaeebfaaGreatDoor
namespace Go.Proofs.YtoinabapaeebfaaGreatDoor
open Go.RowKit Go.Shelf Go.MapKept Go.ChangeMaps

def wkey (s : List UInt8) : Value := .string ⟨s.toArray⟩
theorem wkey_inj {a b : List UInt8} (h : wkey a = wkey b) : a = b := by simpa [wkey] using h
abbrev WL := List (List UInt8 × Int)
/-- Block b is a map with just these entries. -/
structure WM (w : World) (b : Nat) (l : WL) : Prop where
  out : ∃ es clock, w.heap[b]? = some (.map es clock) ∧ es.toList.map (fun e => (e.key, e.val)) = l.map (fun p => (wkey p.1, Value.int .i64 p.2))
  nodup : (l.map Prod.fst).Nodup
  st : ∀ es clock, w.heap[b]? = some (.map es clock) → Stamped es clock

def look (l : WL) (k : List UInt8) : Option Int := (l.find? fun p => decide (p.1 = k)).map Prod.snd
def ins (l : WL) (k : List UInt8) (v : Int) : WL := if (look l k).isSome then l.map (fun p => if p.1 = k then (p.1, v) else p) else l ++ [(k, v)]
def del (l : WL) (k : List UInt8) : WL := l.filter fun p => decide (p.1 ≠ k)

theorem look_none {l : WL} {k : List UInt8} : look l k = none ↔ ∀ p ∈ l, p.1 ≠ k := by
  simp [look]
theorem look_some {l : WL} {k : List UInt8} {v : Int} (hn : (l.map Prod.fst).Nodup) : look l k = some v ↔ (k, v) ∈ l := by
  induction l with
  | nil => simp [look]
  | cons p l ih =>
    simp only [List.map_cons, List.nodup_cons] at hn
    by_cases h : p.1 = k
    · subst h
      simp only [look, List.find?_cons, decide_true, Option.map_some, Option.some.injEq, List.mem_cons]
      constructor
      · rintro rfl; exact .inl rfl
      · rintro (h | h)
        · rw [← h]
        · exact absurd (List.mem_map_of_mem (f := Prod.fst) h) hn.1
    · have e : look (p :: l) k = look l k := by simp [look, List.find?_cons, h]
      rw [e, ih hn.2]
      simp only [List.mem_cons]
      constructor
      · exact .inr
      · rintro (h' | h')
        · subst h'; exact absurd rfl h
        · exact h'

theorem WM.lt {w : World} {b : Nat} {l : WL} (h : WM w b l) : b < w.heap.size := by
  obtain ⟨⟨es, clock, hb, _⟩, _, _⟩ := h
  exact (Array.getElem?_eq_some_iff.1 hb).1
theorem WM.keep {w w' : World} {b : Nat} {l : WL} (h : WM w b l) (hk : w'.heap[b]? = w.heap[b]?) : WM w' b l := by
  obtain ⟨⟨es, clock, hb, he⟩, hn, hs⟩ := h
  exact ⟨⟨es, clock, hk.trans hb, he⟩, hn, fun es clock h => hs es clock (hk.symm.trans h)⟩
theorem WM.below {w w' : World} {b : Nat} {l : WL} (h : WM w b l) (hb : Below w.heap.size w w') : WM w' b l := h.keep (hb.block _ h.lt)
theorem WM.wrote {w w' : World} {M : List Nat} {b : Nat} {l : WL} (h : WM w b l) (hb : Wrote M w w') (hM : b ∉ M) : WM w' b l := h.keep (hb.block _ h.lt hM)
theorem WM.alloc {w : World} {b : Nat} {l : WL} (h : WM w b l) (o : Obj) : WM (w.alloc o) b l := h.below ((Below.refl _ w).alloc (Nat.le_refl _) o)
theorem WM.new (w : World) : WM (w.alloc (.map #[] 0)) w.heap.size [] := ⟨⟨#[], 0, World.alloc_heap_new w _, rfl⟩, List.nodup_nil, fun es clock h => by rw [World.alloc_heap_new] at h; cases h; exact stamped_empty 0⟩

theorem entries_get {es : List MapEntry} {l : WL} (he : es.map (fun e => (e.key, e.val)) = l.map (fun p => (wkey p.1, Value.int .i64 p.2))) {j : Nat} {e : MapEntry} (hj : es[j]? = some e) :
    ∃ p, l[j]? = some p ∧ e.key = wkey p.1 ∧ e.val = .int .i64 p.2 := by
  have h1 : (es.map (fun e => (e.key, e.val)))[j]? = some (e.key, e.val) := by simp [hj]
  rw [he] at h1
  simp only [List.getElem?_map, Option.map_eq_some_iff, Prod.mk.injEq] at h1
  obtain ⟨p, hp, h2, h3⟩ := h1
  exact ⟨p, hp, h2.symm, h3.symm⟩
theorem entries_mem {es : List MapEntry} {l : WL} (he : es.map (fun e => (e.key, e.val)) = l.map (fun p => (wkey p.1, Value.int .i64 p.2))) {e : MapEntry} (hj : e ∈ es) :
    ∃ p ∈ l, e.key = wkey p.1 ∧ e.val = .int .i64 p.2 := by
  obtain ⟨j, hj⟩ := List.getElem?_of_mem hj
  obtain ⟨p, hp, h⟩ := entries_get he hj
  exact ⟨p, List.mem_of_getElem? hp, h⟩
theorem entries_key {es : List MapEntry} {l : WL} (he : es.map (fun e => (e.key, e.val)) = l.map (fun p => (wkey p.1, Value.int .i64 p.2))) : ∀ x ∈ es, IsKey .string x.key := by
  intro x hx
  obtain ⟨p, _, h, _⟩ := entries_mem he hx
  rw [h]; simp [wkey, IsKey]

theorem find_entry {es : List MapEntry} {l : WL} (he : es.map (fun e => (e.key, e.val)) = l.map (fun p => (wkey p.1, Value.int .i64 p.2))) (hn : (l.map Prod.fst).Nodup) (k : List UInt8) :
    (look l k = none ∧ Instr.findNow .string (wkey k) es 0 = some none) ∨
    ∃ j v, look l k = some v ∧ Instr.findNow .string (wkey k) es 0 = some (some (j, .int .i64 v)) ∧ ∃ e, es[j]? = some e ∧ e.key = wkey k := by
  rcases findNow_spec (d := .string) (k := wkey k) (by simp [wkey, IsKey]) es 0 (entries_key he) with ⟨h1, h2⟩ | ⟨j, e, h1, h2, h3⟩
  · refine .inl ⟨look_none.2 fun p hp hk => ?_, h1⟩
    obtain ⟨i, hi⟩ := List.getElem?_of_mem hp
    have : (es.map (fun e => (e.key, e.val)))[i]? = some (wkey p.1, Value.int .i64 p.2) := by rw [he]; simp [hi]
    simp only [List.getElem?_map, Option.map_eq_some_iff, Prod.mk.injEq] at this
    obtain ⟨e, he2, hk2, _⟩ := this
    exact h2 e (List.mem_of_getElem? he2) (by rw [hk2, hk])
  · obtain ⟨p, hp, hk, hv⟩ := entries_get he h2
    have hpk : p.1 = k := wkey_inj (hk.symm.trans h3)
    refine .inr ⟨j, p.2, (look_some hn).2 ?_, by rw [h1, hv]; simp, e, h2, h3⟩
    have := List.mem_of_getElem? hp
    rwa [← hpk]

theorem run_lookup_text {P : Program} (t k e : TypeId) (ht : P.underlying t = some (.map k e)) (hk : P.underlying k = some .string) {w : World} {b : Nat} {l : WL} (h : WM w b l) (hz : (zeroValue e).run P w = .ok (.int .i64 0) w) (s : List UInt8) (c : Bool) :
    (Instr.lookup t (.map (some b)) (.string ⟨s.toArray⟩) c).run P w = .ok (if c then .tuple #[.int .i64 ((look l s).getD 0), .bool (look l s).isSome] else .int .i64 ((look l s).getD 0)) w := by
  obtain ⟨⟨es, clock, hb, he⟩, hn, hs⟩ := h
  have h2 := fun z => run_checkKey (w := w) hk (k := wkey s) (by simp [wkey, IsKey]) z 9999
  rcases find_entry he hn s with ⟨hl, hf⟩ | ⟨j, v, hl, hf, _⟩
  · have h1 := run_findKey (w := w) hk hf
    unfold wkey at h1 h2
    simp [Instr.lookup, run_underlying ht, MapKept.run_getObj_map hb, h2, h1, hz, Result.andThen, hl]
  · have h1 := run_findKey (w := w) hk hf
    unfold wkey at h1 h2
    simp [Instr.lookup, run_underlying ht, MapKept.run_getObj_map hb, h2, h1, Result.andThen, hl]

theorem run_len_text {P : Program} (t k e : TypeId) (ht : P.underlying t = some (.map k e)) {w : World} {b : Nat} {l : WL} (h : WM w b l) (ty : TypeId) :
    (Builtin.len_ #[t] ty #[.map (some b)]).run P w = .ok (.int .i64 l.length) w := by
  obtain ⟨⟨es, clock, hb, he⟩, hn, hs⟩ := h
  have hl : es.size = l.length := by have := congrArg List.length he; simpa using this
  simp [Builtin.len_, run_underlying ht, MapKept.run_getObj_map hb, goInt, Result.andThen, hl]

theorem keys_ins (l : WL) (k : List UInt8) (v : Int) : (ins l k v).map Prod.fst = if (look l k).isSome then l.map Prod.fst else l.map Prod.fst ++ [k] := by
  unfold ins
  split
  · rw [List.map_map]
    refine List.map_congr_left fun p _ => ?_
    simp only [Function.comp_apply]
    split <;> rfl
  · simp

theorem nodup_ins {l : WL} (hn : (l.map Prod.fst).Nodup) (k : List UInt8) (v : Int) : ((ins l k v).map Prod.fst).Nodup := by
  rw [keys_ins]
  split
  · exact hn
  · rename_i h
    have : look l k = none := by simpa using h
    rw [List.nodup_append]
    refine ⟨hn, by simp, fun a ha c hc => ?_⟩
    simp at hc
    subst hc
    simp only [List.mem_map] at ha
    obtain ⟨p, hp, rfl⟩ := ha
    exact look_none.1 this p hp

/-- An entry is set. -/
theorem run_insert_text {P : Program} (t k e : TypeId) (ht : P.underlying t = some (.map k e)) (hk : P.underlying k = some .string) {w : World} {b : Nat} {l : WL} (h : WM w b l) (s : List UInt8) (v : Int) :
    ∃ w', (Instr.mapUpdate t (.map (some b)) (.string ⟨s.toArray⟩) (.int .i64 v)).run P w = .ok () w' ∧ WM w' b (ins l s v) ∧ w.grownBy w' (some b) := by
  obtain ⟨⟨es, clock, hb, he⟩, hn, hs⟩ := h
  have h2 := run_checkKey (w := w) hk (k := wkey s) (by simp [wkey, IsKey]) false 9999
  have hlt : b < w.heap.size := (Array.getElem?_eq_some_iff.1 hb).1
  rcases find_entry he hn s with ⟨hl, hf⟩ | ⟨j, u, hl, hf, e1, hj, hkey⟩
  · have h1 := run_findKey (w := w) hk hf
    refine ⟨setBlock w b (.map (es.push { key := wkey s, val := .int .i64 v, born := clock }) (clock + 1)), ?_, ⟨⟨es.push { key := wkey s, val := .int .i64 v, born := clock }, clock + 1, by simp [setBlock, hlt], ?_⟩, nodup_ins hn s v, fun es' clock' h' => by
      rw [show (setBlock w b (.map (es.push { key := wkey s, val := .int .i64 v, born := clock }) (clock + 1))).heap[b]? = some (.map (es.push { key := wkey s, val := .int .i64 v, born := clock }) (clock + 1)) by simp [setBlock, hlt]] at h'
      cases h'
      refine stamped_push (hs _ _ hb) fun x hx hk => ?_
      obtain ⟨p, hp, hk2⟩ := entries_mem he hx
      exact look_none.1 hl p hp (wkey_inj (hk2.1.symm.trans hk))⟩, World.mapTurned.grown ⟨es, clock, _, _, hb, rfl⟩⟩
    · unfold wkey at h1 h2
      simp [Instr.mapUpdate, run_underlying ht, MapKept.run_getObj_map hb, h2, h1, MapKept.run_setObj_map _ hb, Result.andThen, setBlock, wkey]
    · simp [ins, hl, he]
  · have h1 := run_findKey (w := w) hk hf
    have hj' : es[j]? = some e1 := by simpa using hj
    refine ⟨setBlock w b (.map (es.modify j fun e => { e with key := wkey s, val := .int .i64 v }) clock), ?_, ⟨⟨es.modify j fun e => { e with key := wkey s, val := .int .i64 v }, clock, by simp [setBlock, hlt], ?_⟩, nodup_ins hn s v, fun es' clock' h' => by
      rw [show (setBlock w b (.map (es.modify j fun e => { e with key := wkey s, val := .int .i64 v }) clock)).heap[b]? = some (.map (es.modify j fun e => { e with key := wkey s, val := .int .i64 v }) clock) by simp [setBlock, hlt]] at h'
      cases h'
      refine stamped_modify (hs _ _ hb) j _ (fun _ _ => rfl) fun x hx hxj => ?_
      rw [hj'] at hxj
      cases hxj
      exact hkey.symm⟩, World.mapTurned.grown ⟨es, clock, _, _, hb, rfl⟩⟩
    · have hsb : Instr.sameBits 10000 (.string ⟨s.toArray⟩) (.string ⟨s.toArray⟩) = true := by
        simp only [Instr.sameBits]
        exact (bytes_beq _ _).2 rfl
      unfold wkey at h1 h2 hkey
      simp [Instr.mapUpdate, run_underlying ht, MapKept.run_getObj_map hb, h2, h1, MapKept.run_setObj_map _ hb, Result.andThen, setBlock, wkey, hj', hkey, Instr.keyThatStays, hsb]
    · have hlen : es.toList.length = l.length := by have := congrArg List.length he; simpa using this
      have hins : ins l s v = l.map (fun p => if p.1 = s then (p.1, v) else p) := by simp [ins, hl]
      rw [hins, List.map_map]
      apply List.ext_getElem?
      intro i
      simp only [Array.toList_modify, List.getElem?_map, List.getElem?_modify]
      cases hi : es.toList[i]? with
      | none =>
        have : l[i]? = none := by rw [List.getElem?_eq_none_iff] at hi ⊢; omega
        simp [this]
      | some e =>
        obtain ⟨p, hp, hk3, hv3⟩ := entries_get he hi
        rw [hp]
        by_cases hij : j = i
        · subst hij
          rw [hj] at hi
          cases hi
          have hpk : p.1 = s := wkey_inj (hk3.symm.trans hkey)
          simp [hpk]
        · have hpk : p.1 ≠ s := fun hps => by
            obtain ⟨p1, hp1, hk4, _⟩ := entries_get he hj
            have : p1.1 = s := wkey_inj (hk4.symm.trans hkey)
            have h4 : (l.map Prod.fst)[j]? = some s := by simp [hp1, this]
            have h5 : (l.map Prod.fst)[i]? = some s := by simp [hp, hps]
            exact hij ((List.getElem?_inj (List.getElem?_eq_some_iff.1 h4).1 hn).1 (h4.trans h5.symm))
          simp [hij, hpk, hk3, hv3]

/-- At the operation. -/
theorem wpList_insert_text {P : Program} {w : World} {ops : Array Oper} {rest : List Oper} {o : Oper} {a : Act} {Q : Exit → Act → World → Prop}
    (hg : o.guard = none) (m x v : Operand) (t : TypeId) (hop : o.op = Op.insert t m x v) (k e : TypeId) (ht : P.underlying t = some (.map k e)) (hk : P.underlying k = some .string) {b : Nat} {l : WL} (h : WM w b l)
    (hm : a.eval m = .map (some b)) (s : List UInt8) (val : Int) (hx : a.eval x = .string ⟨s.toArray⟩) (hv : a.eval v = .int .i64 val)
    (hK : ∀ w', WM w' b (ins l s val) → w.grownBy w' (some b) → wpList P ops Q rest (a.put o.dst undef) w') :
    wpList P ops Q (o :: rest) a w := by
  refine wpList_plain hg fun K' hK' => ?_
  obtain ⟨w', hrun, h1, h2⟩ := run_insert_text t k e ht hk h s val
  unfold Oper.wp
  simp [execOp, hop, hm, hx, hv, hrun, Result.andThen]
  exact hK' _ _ (hK _ h1 h2)
end Go.Proofs.YtoinabapaeebfaaGreatDoor
