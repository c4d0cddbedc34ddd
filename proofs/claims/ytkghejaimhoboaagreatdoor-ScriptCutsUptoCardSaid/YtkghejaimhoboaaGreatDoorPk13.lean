/- Parts of the proof of ScriptCuts: contracts of functions that it reaches, and plain lemmas. No condition of their own. -/
import Derived.Test.YtkghejaimhoboaaGreatDoorPk10
import Derived.Test.YtkghejaimhoboaaGreatDoorPk12
import Derived.Test.YtkghejaimhoboaaGreatDoorPk06
import Derived.Maps.OwnSet
import Derived.Test.YtkghejaimhoboaaGreatDoorPk11
import Derived.Test.YtkghejaimhoboaaGreatDoorPk09
set_option linter.unusedSimpArgs false
set_option linter.unusedVariables false
set_option maxRecDepth 100000
set_option maxHeartbeats 8000000
namespace Go.Proofs.YtkghejaimhoboaaGreatDoor
open Go.RowKit Go.Shelf
section
theorem bits_Len64_0 (w : World) : Calls Tryz.prog 318 #[.int .u64 0] w fun e w' => e = .returned (.int .i64 0) /\ w = w' := by
 go_enter Tryz.func318, Tryz.ntmps318
 go_wp2
 go_ret
 refine ⟨?_, rfl⟩
 kernel_rfl
theorem bits_Len_0 (w : World) : Calls Tryz.prog 287 #[.int .u64 0] w fun e w' => e = .returned (.int .i64 0) /\ w = w' := by
 have C := hid (bits_Len64_0)
 go_enter Tryz.func287, Tryz.ntmps287
 go_wp2_with (go_at_call 318; refine (C.out _).mono ?_; rintro e w1 ⟨rfl, rfl⟩)
 go_ret
 exact ⟨rfl, rfl⟩
theorem insert_nil (f : Value) (w : World) : Calls Tryz.prog 309 #[.slice none 0 0, .int .i64 0, .int .i64 0, f] w fun e w' => e = .returned (.tuple #[]) /\ w = w' := by
 go_enter Tryz.func309, Tryz.ntmps309
 go_wp2
 go_loopw [8] (fun i wr => i = .int .i64 1 /\ w = wr) (fun _ _ => 0)
 case atStart => exact ⟨rfl, rfl⟩
 case round =>
  obtain ⟨rfl, rfl⟩ := hrel
  go_wp2
  go_end0
  exact ⟨rfl, rfl⟩
theorem pdq_nil (f : Value) (w : World) : Calls Tryz.prog 286 #[.slice none 0 0, .int .i64 0, .int .i64 0, .int .i64 0, f] w fun e w' => e = .returned (.tuple #[]) /\ w = w' := by
 have C := hid (insert_nil f)
 go_enter Tryz.func286, Tryz.ntmps286
 go_wp2
 go_loopw [1, 2] (fun a b wr => a = .int .i64 0 /\ b = .int .i64 0 /\ w = wr) (fun _ _ _ => 0)
 case atStart => exact ⟨rfl, rfl, rfl⟩
 case round =>
  obtain ⟨rfl, rfl, rfl⟩ := hrel
  go_wp2_with (go_at_call 309; refine (C.out _).mono ?_; rintro e w1 ⟨rfl, rfl⟩)
  refine bodyPost_ret (results_none rfl _ _ _) rfl ?_
  exact ⟨rfl, rfl⟩
theorem sort_nil (f : Value) (w : World) : Calls Tryz.prog 265 #[.slice none 0 0, f] w fun e w' => e = .returned (.tuple #[]) /\ w = w' := by
 have C1 := hid (bits_Len_0)
 have C2 := hid (pdq_nil f)
 go_enter Tryz.func265, Tryz.ntmps265
 go_wp2_with (first
  | (go_at_call 287; refine (C1.out _).mono ?_; rintro e w1 ⟨rfl, rfl⟩)
  | (go_at_call 286; refine (C2.out _).mono ?_; rintro e w1 ⟨rfl, rfl⟩))
 go_end0
 exact ⟨rfl, rfl⟩
theorem wp_genW {P : Program} {code : Code} {Q : Exit -> Act -> World -> Prop} {a : Act} {W : World} (C : World -> Prop) (hC : C W) (h : ∀ W', C W' -> code.wp P Q a W') : code.wp P Q a W := h W hC
def sessV (client : List UInt8) (seq id : Int) : RowV := ⟨1, client, seq, id, [], [], 0, false, 0⟩
theorem out_Of (window room : Int) (client : List UInt8) (seq id : Int) (w : World) (hT : TzAt w) (hw : 1 <= window /\ window <= 100) (hr : 1 <= room /\ room <= 1000) (hs : 0 <= seq /\ seq <= 4611686018427387904) (hi : 1 <= id /\ id <= 65535) (hc : client.length <= 23) (hmay : sessMay (sessV client seq id) = true) :
  Calls Tryz.prog 227 #[.int .i64 window, .int .i64 room, .agg (sessV client seq id).vals, .slice none 0 0] w fun e w' => ∃ L, e = .returned (.tuple #[.pointer (some ⟨L.p, 0, none⟩), .int .i64 0]) /\
   OB w' w'.heap.size L ⟨client, window, room, seq, id, []⟩ [] [] /\ (L.vp = .slice none 0 0 /\ L.vc = .slice none 0 0) /\ Stp [] L.foot w w' := by
 have CK := hid fun w1 => rec_Check_sess client seq id w1 (by omega)
 rw [show sessMay ⟨1, client, seq, id, [], [], 0, false, 0⟩ = true from hmay] at CK
 have CI := hid fun w1 => in_New 100 w1 (by decide) (by decide)
 have CS := hid (sort_nil (.func (.func 266) #[] #[]))
 clear hmay;unfold sessV RowV.vals at *
 dsimp only at CK ⊢
 have d1 : decide (window < 1) = false := decide_eq_false (by omega)
 have d2 : decide (100 < window) = false := decide_eq_false (by omega)
 have d3 : decide (room < 1) = false := decide_eq_false (by omega)
 have d4 : decide (1000 < room) = false := decide_eq_false (by omega)
 have d5 : decide (room < 0) = false := decide_eq_false (by omega)
 have d6 : decide (id < 1) = false := decide_eq_false (by omega)
 have d7 : decide (65535 < id) = false := decide_eq_false (by omega)
 go_enter Tryz.func227, Tryz.ntmps227
 go_wp2
 refine wp_scope_straight ?_
 go_wp2_with fail
 refine (CI.out _).mono ?_
 rintro e w1 ⟨rfl, hin, hb1⟩
 simp only [World.size_alloc] at hin hb1 ⊢
 have hS1 := (Blk.new w #[.int .i64 1, .string ⟨client.toArray⟩, .int .i64 seq, .int .i64 id, .string ⟨#[]⟩, .string ⟨#[]⟩, .int .i64 0, .bool false, .int .i64 0] 136).below (by simpa using hb1)
 have s0 : w1.cell? ⟨w.heap.size, 0, none⟩ = some (.int .i64 1) := hS1.cell 0
 have s1 : w1.cell? ⟨w.heap.size, 1, none⟩ = some (.string ⟨client.toArray⟩) := hS1.cell 1
 have s2 : w1.cell? ⟨w.heap.size, 2, none⟩ = some (.int .i64 seq) := hS1.cell 2
 have s3 : w1.cell? ⟨w.heap.size, 3, none⟩ = some (.int .i64 id) := hS1.cell 3
 have s4 : w1.cell? ⟨w.heap.size, 4, none⟩ = some (.string ⟨#[]⟩) := hS1.cell 4
 have s5 : w1.cell? ⟨w.heap.size, 5, none⟩ = some (.string ⟨#[]⟩) := hS1.cell 5
 have s6 : w1.cell? ⟨w.heap.size, 6, none⟩ = some (.int .i64 0) := hS1.cell 6
 have s7 : w1.cell? ⟨w.heap.size, 7, none⟩ = some (.bool false) := hS1.cell 7
 have s8 : w1.cell? ⟨w.heap.size, 8, none⟩ = some (.int .i64 0) := hS1.cell 8
 have hin := hid hin;go_wp2_with fail
 refine (CK.out _).mono ?_
 rintro e w2 ⟨rfl, hb2⟩
 clear s0 s1 s2 s3 s4 s5 s6 s7 s8;have hS2 := hS1.below hb2
 have t1 : w2.cell? ⟨w.heap.size, 1, none⟩ = some (.string ⟨client.toArray⟩) := hS2.cell 1
 have t2 : w2.cell? ⟨w.heap.size, 2, none⟩ = some (.int .i64 seq) := hS2.cell 2
 have t3 : w2.cell? ⟨w.heap.size, 3, none⟩ = some (.int .i64 id) := hS2.cell 3
 go_wp2_with fail
 have hin2 := hid (hin.out.below hb2)
 have hB02 := hid (((Below.refl _ w).alloc (Nat.le_refl _) (.cells #[.int .i64 1, .string ⟨client.toArray⟩, .int .i64 seq, .int .i64 id, .string ⟨#[]⟩, .string ⟨#[]⟩, .int .i64 0, .bool false, .int .i64 0] 136)).trans ((hb1.mono (by omega)).trans (hb2.mono (by have := hb1.size; simp at this; omega))))
 have hz2 : w.heap.size + 3 <= w2.heap.size := by have := hin2.out.box.lt; omega
 refine wp_genW (fun W' => Below w2.heap.size w2 W' /\ Blk W' w2.heap.size #[.pointer (some ⟨w.heap.size + 1 + 1, 0, none⟩), .string ⟨client.toArray⟩, .int .i64 window, .int .i64 room, .int .i64 seq, .int .i64 id, .slice none 0 0, .slice none 0 0, .slice none 0 0] 313) ⟨(Below.refl _ w2).alloc (Nat.le_refl _) _, Blk.new w2 _ _⟩ ?_
 rintro w3 ⟨hb3, hbox3⟩
 have k6 : w3.cell? ⟨w2.heap.size, 6, none⟩ = some (.slice none 0 0) := hbox3.cell 6
 go_loopw [73] (fun i wr => i = .int .i64 0 /\ w3 = wr) (fun _ _ => 0)
 case atStart => exact ⟨rfl, rfl⟩
 case round =>
  obtain ⟨rfl, rfl⟩ := hrel
  go_wp2_with (go_at_call 265; refine (CS.out _).mono ?_; rintro e w4 ⟨rfl, rfl⟩)
  go_loopw [17] (fun i wr => i = .int .i64 1 /\ w3 = wr) (fun _ _ => 0)
  case atStart => exact ⟨rfl, rfl⟩
  case round =>
   obtain ⟨rfl, rfl⟩ := hrel
   go_wp2
   simp only [Exit.noGoto_ret]
   go_returns
   have hB03 := hB02.out.trans (hb3.mono hB02.out.size)
   have hg := hT.lt
   refine ⟨⟨w2.heap.size, w.heap.size + 1 + 1, w.heap.size + 1, .slice none 0 0, .slice none 0 0, .slice none 0 0, [], fun _ => 0⟩, rfl, ⟨Nat.le_refl _, hbox3, hin2.out.below hb3, SetIs.nil, World.ownsRow_nil _ _ _ _, rfl, fun i b r h1 h2 => by simp at h1, List.nodup_nil, World.ownsRow_nil _ _ _ _, World.ownsRow_nil _ _ _ _, hT.below hB03, ?_, ?_⟩, ⟨rfl, rfl⟩, Wrote.of_below hB03, ?_⟩
   ·simp only [Lay.foot, blk, Value.ownBlock, Option.toList_none, List.append_nil, List.mem_cons, List.not_mem_nil, or_false, not_or]; omega
   ·exact ⟨hw, ⟨hr.2, by simp; omega⟩, ⟨hs.1, Int.le_trans hs.2 (by decide)⟩, hi, hc, fun r hr => by simp at hr, by simp [idsOf], by simp [idsOf]; omega⟩
   ·intro x hx
    simp [Lay.foot, blk, Value.ownBlock] at hx
    right
    omega
end
section
open Go.RowKit Go.Shelf Go.MapKept Go.ChangeMaps
def wkey (s : List UInt8) : Value := .string ⟨s.toArray⟩
abbrev WL := List (List UInt8 × Int)
structure WM (w : World) (b : Nat) (l : WL) : Prop where
 out : ∃ es clock, w.heap[b]? = some (.map es clock) /\ es.toList.map (fun e => (e.key, e.val)) = l.map (fun p => (wkey p.1, Value.int .i64 p.2))
 nodup : (l.map Prod.fst).Nodup
 st : ∀ es clock, w.heap[b]? = some (.map es clock) -> Stamped es clock
def look (l : WL) (k : List UInt8) : Option Int := (l.find? fun p => decide (p.1 = k)).map Prod.snd
def ins (l : WL) (k : List UInt8) (v : Int) : WL := if (look l k).isSome then l.map (fun p => if p.1 = k then (p.1, v) else p) else l ++ [(k, v)]
theorem WM.lt {w : World} {b : Nat} {l : WL} (h : WM w b l) : b < w.heap.size := by
 obtain ⟨⟨es, clock, hb, _⟩, _, _⟩ := h
 exact (Array.getElem?_eq_some_iff.1 hb).1
theorem WM.keep {w w' : World} {b : Nat} {l : WL} (h : WM w b l) (hk : w'.heap[b]? = w.heap[b]?) : WM w' b l := by
 obtain ⟨⟨es, clock, hb, he⟩, hn, hs⟩ := h
 exact ⟨⟨es, clock, hk.trans hb, he⟩, hn, fun es clock h => hs es clock (hk.symm.trans h)⟩
theorem WM.below {w w' : World} {b : Nat} {l : WL} (h : WM w b l) (hb : Below w.heap.size w w') : WM w' b l := h.keep (hb.block _ h.lt)
theorem WM.wrote {w w' : World} {M : List Nat} {b : Nat} {l : WL} (h : WM w b l) (hb : Wrote M w w') (hM : b ∉ M) : WM w' b l := h.keep (hb.block _ h.lt hM)
theorem WM.alloc {w : World} {b : Nat} {l : WL} (h : WM w b l) (o : Obj) : WM (w.alloc o) b l := h.below ((Below.refl _ w).alloc (Nat.le_refl _) o)
theorem WM.new (w : World) : WM (w.alloc (.map #[] 0)) w.heap.size [] := ⟨⟨#[], 0, World.alloc_heap_new w _, rfl⟩, List.nodup_nil, fun es clock h => by rw [World.alloc_heap_new] at h; cases h; exact stamped_empty 0⟩
theorem run_len_text {P : Program} (t k e : TypeId) (ht : P.underlying t = some (.map k e)) {w : World} {b : Nat} {l : WL} (h : WM w b l) (ty : TypeId) :
  (Builtin.len_ #[t] ty #[.map (some b)]).run P w = .ok (.int .i64 l.length) w := by
 obtain ⟨⟨es, clock, hb, he⟩, hn, hs⟩ := h
 have hl : es.size = l.length := by have := congrArg List.length he; simpa using this
 simp [Builtin.len_, run_underlying ht, MapKept.run_getObj_map hb, goInt, Result.andThen, hl]
end
section
structure WillV where
 topic : List UInt8
 body : List UInt8
 qos : Int
 retain : Bool
def WillV.vals (v : WillV) : Array Value := #[.string ⟨v.topic.toArray⟩, .string ⟨v.body.toArray⟩, .int .i64 v.qos, .bool v.retain]
def noWill : WillV := ⟨[], [], 0, false⟩
structure XS where
 most : Int
 subs : Int
 o : OS
 ids : List Nat
 wants : WL
 clean : Bool
 on : Bool
 keep : Int
 heard : Int
 will : Option WillV
structure XLay where
 p : Nat
 o : Lay
 ib : Nat
 sb : Nat
 m : Nat
 wv : Option Nat
 W : Nat -> Nat
def XLay.own (S : XLay) : List Nat := S.p :: S.ib :: S.sb :: S.m :: S.wv.toList
def XLay.foot (S : XLay) : List Nat := S.own ++ S.o.foot
def ptrO (b : Option Nat) : Value := .pointer (b.map fun b => ⟨b, 0, none⟩)
def XLay.cells (S : XLay) (x : XS) : Array Value := #[.pointer (some ⟨S.o.p, 0, none⟩), .int .i64 x.o.window, .int .i64 x.o.room, .int .i64 x.most, .int .i64 x.subs, .pointer (some ⟨S.ib, 0, none⟩), .map (some S.m), .bool x.clean, .bool x.on, .int .i64 x.keep, .int .i64 x.heard, ptrO S.wv]
def WillAt (w : World) : Option Nat -> Option WillV -> Prop
 | none, none => True
 | some b, some v => Blk w b v.vals 47
 | _, _ => False
theorem WillAt.keep {w w' : World} {b : Option Nat} {v : Option WillV} (h : WillAt w b v) (hk : ∀ x ∈ b.toList, w'.heap[x]? = w.heap[x]?) : WillAt w' b v := by
 cases b <;> cases v <;> simp only [WillAt] at h ⊢
 exact Blk.keep h (hk _ (by simp))
theorem WillAt.lt {w : World} {b : Option Nat} {v : Option WillV} (h : WillAt w b v) : ∀ x ∈ b.toList, x < w.heap.size := by
 cases b <;> cases v <;> simp only [WillAt] at h <;> simp
 exact Blk.lt h
structure XS.OK (x : XS) : Prop where
 most : 1 <= x.most /\ x.most <= 1000
 subs : 1 <= x.subs /\ x.subs <= 100
 ids : ∀ i ∈ x.ids, 1 <= i /\ i <= 65535
 under : (x.ids.length : Int) <= x.most
 wants : (x.wants.length : Int) <= x.subs
 keep : 0 <= x.keep /\ x.keep <= 65535
structure XB (w : World) (B : Nat) (S : XLay) (x : XS) : Prop where
 box : Blk w S.p (S.cells x) 276
 ob : OB w B S.o x.o [] []
 nil : S.o.vp = .slice none 0 0 /\ S.o.vc = .slice none 0 0
 inb : Inb w S.ib S.sb x.most S.W
 set : SetIs S.W x.ids
 wm : WM w S.m x.wants
 will : WillAt w S.wv x.will
 apart : ∀ b ∈ S.own, b ∉ S.o.foot
 nodup : S.own.Nodup
 gg : 1 ∉ S.own
 ok : x.OK
theorem XB.lt {w : World} {B : Nat} {S : XLay} {x : XS} (h : XB w B S x) : ∀ b ∈ S.foot, b < w.heap.size := by
 intro b hb
 simp only [XLay.foot, XLay.own, List.cons_append, List.mem_cons, List.mem_append] at hb
 rcases hb with rfl | rfl | rfl | rfl | hb | hb
 ·exact h.box.lt
 ·exact h.inb.box.lt
 ·exact h.inb.set.lt
 ·exact h.wm.lt
 ·exact h.will.lt b hb
 ·exact h.ob.lt b hb
theorem XB.out {w w' : World} {B : Nat} {S : XLay} {x : XS} (h : XB w B S x) {M : List Nat} (hw : Wrote M w w') (hM : ∀ b ∈ M, b ∉ S.foot) (hg : 1 ∉ M) : XB w' B S x := by
 have k : ∀ b ∈ S.own, w'.heap[b]? = w.heap[b]? := fun b hb => hw.block b (h.lt b (List.mem_append_left _ hb)) (fun hm => hM b hm (List.mem_append_left _ hb))
 refine ⟨h.box.keep (k _ (by simp [XLay.own])), h.ob.out hw (fun b hb hf => hM b hb (List.mem_append_right _ hf)) hg, h.nil, ⟨h.inb.box.keep (k _ (by simp [XLay.own])), h.inb.set.keep (k _ (by simp [XLay.own]))⟩, h.set, h.wm.keep (k _ (by simp [XLay.own])), h.will.keep (fun b hb => k b ?_), h.apart, h.nodup, h.gg, h.ok⟩
 simp only [XLay.own, List.mem_cons]
 exact .inr (.inr (.inr (.inr hb)))
theorem XB.below {w w' : World} {B : Nat} {S : XLay} {x : XS} (h : XB w B S x) (hb : Below w.heap.size w w') : XB w' B S x := h.out (Wrote.of_below (M := []) hb) (by simp) (by simp)
theorem XB.alloc {w : World} {B : Nat} {S : XLay} {x : XS} (h : XB w B S x) (o : Obj) : XB (w.alloc o) B S x := h.below ((Below.refl _ _).alloc (Nat.le_refl _) o)
theorem XB.drew {w : World} {B : Nat} {S : XLay} {x : XS} (h : XB w B S x) : XB w.drew B S x := h.below (Below.refl _ w).drew
end
section
structure WantV where
 filter : List UInt8
 qos : Int
def WantV.cl (x : WantV) : List Value := [.string ⟨x.filter.toArray⟩, .int .i64 x.qos]
def iCl (z : Int) : List Value := [.int .i64 z]
def sCl (s : List UInt8) : List Value := [.string ⟨s.toArray⟩]
structure Pk where
 kind : Int
 dup : Bool
 retain : Bool
 qos : Int
 topic : List UInt8
 body : List UInt8
 id : Int
 client : List UInt8
 clean : Bool
 keep : Int
 hasWill : Bool
 will : WillV
 hasUser : Bool
 hasPass : Bool
 user : List UInt8
 pass : List UInt8
 present : Bool
 code : Int
 wants : List WantV
 codes : List Int
 filters : List (List UInt8)
structure Hd where
 a : Option Addr
 n : Nat
 c : Nat
structure H3 where
 w : Hd
 c : Hd
 f : Hd
def Pk.cells (p : Pk) (h : H3) : List Value := [.int .i64 p.kind, .bool p.dup, .bool p.retain, .int .i64 p.qos, .string ⟨p.topic.toArray⟩, .string ⟨p.body.toArray⟩, .int .i64 p.id, .string ⟨p.client.toArray⟩, .bool p.clean, .int .i64 p.keep, .bool p.hasWill,
 .string ⟨p.will.topic.toArray⟩, .string ⟨p.will.body.toArray⟩, .int .i64 p.will.qos, .bool p.will.retain, .bool p.hasUser, .bool p.hasPass, .string ⟨p.user.toArray⟩, .string ⟨p.pass.toArray⟩, .bool p.present, .int .i64 p.code,
 .slice h.w.a h.w.n h.w.c, .slice h.c.a h.c.n h.c.c, .slice h.f.a h.f.n h.f.c]
structure Pk.In (w : World) (p : Pk) (h : H3) : Prop where
 lw : LsAt WantV.cl 2 w h.w.a h.w.n h.w.c p.wants
 lc : LsAt iCl 1 w h.c.a h.c.n h.c.c p.codes
 lf : LsAt sCl 1 w h.f.a h.f.n h.f.c p.filters
theorem Pk.In.below {w w' : World} {p : Pk} {h : H3} (k : p.In w h) (hb : Below w.heap.size w w') : p.In w' h := ⟨k.lw.below hb, k.lc.below hb, k.lf.below hb⟩
structure Tn where
 kind : Int
 conn : Int
 pk : Pk
 bytes : List UInt8
 arm : Int
 n : Int
 picks : List Int
structure TnC where
 t : Tn
 h : H3
 hp : Hd
def Tn.cells (t : Tn) (h : H3) (hp : Hd) : List Value := [.int .i64 t.kind, .int .i64 t.conn, .int .i64 t.pk.kind, .bool t.pk.dup, .bool t.pk.retain, .int .i64 t.pk.qos, .string ⟨t.pk.topic.toArray⟩, .string ⟨t.pk.body.toArray⟩, .int .i64 t.pk.id, .string ⟨t.pk.client.toArray⟩, .bool t.pk.clean, .int .i64 t.pk.keep, .bool t.pk.hasWill,
 .string ⟨t.pk.will.topic.toArray⟩, .string ⟨t.pk.will.body.toArray⟩, .int .i64 t.pk.will.qos, .bool t.pk.will.retain, .bool t.pk.hasUser, .bool t.pk.hasPass, .string ⟨t.pk.user.toArray⟩, .string ⟨t.pk.pass.toArray⟩, .bool t.pk.present, .int .i64 t.pk.code,
 .slice h.w.a h.w.n h.w.c, .slice h.c.a h.c.n h.c.c, .slice h.f.a h.f.n h.f.c, .string ⟨t.bytes.toArray⟩, .int .i64 t.arm, .int .i64 t.n, .slice hp.a hp.n hp.c]
def TnC.cells (x : TnC) : List Value := x.t.cells x.h x.hp
theorem Tn.cells_eq (t : Tn) (h : H3) (hp : Hd) : t.cells h hp = [.int .i64 t.kind, .int .i64 t.conn] ++ t.pk.cells h ++ [.string ⟨t.bytes.toArray⟩, .int .i64 t.arm, .int .i64 t.n, .slice hp.a hp.n hp.c] := rfl
structure Tn.In (w : World) (t : Tn) (h : H3) (hp : Hd) : Prop where
 pk : t.pk.In w h
 p : LsAt iCl 1 w hp.a hp.n hp.c t.picks
theorem Tn.In.below {w w' : World} {t : Tn} {h : H3} {hp : Hd} (k : t.In w h hp) (hb : Below w.heap.size w w') : t.In w' h hp := ⟨k.pk.below hb, k.p.below hb⟩
structure CfV where
 window : Int
 room : Int
 inbox : Int
 subs : Int
 sessions : Int
 retained : Int
 secret : List UInt8
def CfV.cl (c : CfV) : List Value := [.int .i64 c.window, .int .i64 c.room, .int .i64 c.inbox, .int .i64 c.subs, .int .i64 c.sessions, .int .i64 c.retained, .string ⟨c.secret.toArray⟩]
structure Sc where
 cf : CfV
 pages : Int
 ts : List Tn
structure ScC where
 cf : CfV
 pages : Int
 ht : Hd
 ts : List TnC
def ScC.sc (s : ScC) : Sc := ⟨s.cf, s.pages, s.ts.map TnC.t⟩
def ScC.cells (s : ScC) : List Value := [.int .i64 s.cf.window, .int .i64 s.cf.room, .int .i64 s.cf.inbox, .int .i64 s.cf.subs, .int .i64 s.cf.sessions, .int .i64 s.cf.retained, .string ⟨s.cf.secret.toArray⟩, .int .i64 s.pages, .slice s.ht.a s.ht.n s.ht.c]
structure ScC.In (w : World) (s : ScC) : Prop where
 t : LsAt TnC.cells 30 w s.ht.a s.ht.n s.ht.c s.ts
 each : ∀ x ∈ s.ts, x.t.In w x.h x.hp
theorem ScC.In.below {w w' : World} {p : ScC} (h : p.In w) (hb : Below w.heap.size w w') : p.In w' := ⟨h.t.below hb, fun t ht => (h.each t ht).below hb⟩
end
section
theorem rev_ind {α : Type} {P : List α -> Prop} (h0 : P []) (hs : ∀ l a, P l -> P (l ++ [a])) (l : List α) : P l := by
 have h : ∀ m : List α, P m.reverse := fun m => by
  induction m with
  | nil => exact h0
  | cons a m ih => rw [List.reverse_cons]; exact hs _ _ ih
 rw [<- List.reverse_reverse l]
 exact h _
def beN (l : List UInt8) : Nat := l.foldl (fun n b => n * 256 + b.toNat) 0
def numB (k : Nat) (n : Nat) : List UInt8 := match k with
 | 0 => []
 | k + 1 => numB k (n / 256) ++ [UInt8.ofNat (n % 256)]
def txtB (s : List UInt8) : List UInt8 := numB 2 s.length ++ s
def rNum (k : Nat) (l : List UInt8) : Option (Nat × List UInt8) := if l.length < k then none else some (beN (l.take k), l.drop k)
def rTxt (l : List UInt8) : Option (List UInt8 × List UInt8) := (rNum 2 l).bind fun x => if x.2.length < x.1 then none else some (x.2.take x.1, x.2.drop x.1)
theorem beN_snoc (l : List UInt8) (b : UInt8) : beN (l ++ [b]) = beN l * 256 + b.toNat := by simp [beN]
theorem numB_len (k n : Nat) : (numB k n).length = k := by
 induction k generalizing n with
 | zero => rfl
 | succ k ih => simp [numB, ih]
theorem u8_of (n : Nat) (h : n < 256) : (UInt8.ofNat n).toNat = n := by simp [UInt8.toNat_ofNat']; omega
theorem beN_numB (k n : Nat) (h : n < 256 ^ k) : beN (numB k n) = n := by
 induction k generalizing n with
 | zero => simp at h; subst h; rfl
 | succ k ih =>
  rw [numB, beN_snoc, ih (n / 256) (by rw [Nat.pow_succ] at h; omega), u8_of _ (Nat.mod_lt _ (by decide))]
  omega
theorem beN_lt (l : List UInt8) : beN l < 256 ^ l.length := by
 refine rev_ind (P := fun l => beN l < 256 ^ l.length) (by simp [beN]) (fun l b ih => ?_) l
 rw [beN_snoc, List.length_append, List.length_singleton, Nat.pow_succ]
 have := b.toNat_lt
 omega
theorem numB_beN (l : List UInt8) : numB l.length (beN l) = l := by
 refine rev_ind (P := fun l => numB l.length (beN l) = l) rfl (fun l b ih => ?_) l
 have hb := b.toNat_lt
 rw [beN_snoc, List.length_append, List.length_singleton, numB, show (beN l * 256 + b.toNat) / 256 = beN l by omega, ih, show (beN l * 256 + b.toNat) % 256 = b.toNat by omega]
 simp
theorem rNum_numB (k n : Nat) (h : n < 256 ^ k) (r : List UInt8) : rNum k (numB k n ++ r) = some (n, r) := by
 have hl := numB_len k n
 unfold rNum
 rw [if_neg (by rw [List.length_append]; omega), List.take_left' hl, List.drop_left' hl, beN_numB k n h]
theorem rNum_some {k : Nat} {l : List UInt8} {n : Nat} {r : List UInt8} (h : rNum k l = some (n, r)) : l = numB k n ++ r /\ n < 256 ^ k := by
 unfold rNum at h
 split at h
 ·cases h
 ·rename_i hl
  simp only [Option.some.injEq, Prod.mk.injEq] at h
  obtain ⟨rfl, rfl⟩ := h
  have ht : (l.take k).length = k := by rw [List.length_take]; omega
  have h1 := numB_beN (l.take k)
  have h2 := beN_lt (l.take k)
  rw [ht] at h1 h2
  exact ⟨by rw [h1, List.take_append_drop], h2⟩
theorem rTxt_txtB (s : List UInt8) (h : s.length < 65536) (r : List UInt8) : rTxt (txtB s ++ r) = some (s, r) := by
 unfold rTxt txtB
 rw [List.append_assoc, rNum_numB 2 s.length (by simpa using h), Option.bind_some]
 dsimp only
 rw [if_neg (by rw [List.length_append]; omega), List.take_left' rfl, List.drop_left' rfl]
theorem rTxt_some {l s r : List UInt8} (h : rTxt l = some (s, r)) : l = txtB s ++ r /\ s.length < 65536 := by
 unfold rTxt at h
 cases hn : rNum 2 l with
 | none => rw [hn] at h; cases h
 | some x =>
  obtain ⟨n, t⟩ := x
  rw [hn, Option.bind_some] at h
  dsimp only at h
  split at h
  ·cases h
  ·rename_i hl
   simp only [Option.some.injEq, Prod.mk.injEq] at h
   obtain ⟨rfl, rfl⟩ := h
   obtain ⟨h1, h2⟩ := rNum_some hn
   have ht : (t.take n).length = n := by rw [List.length_take]; omega
   refine ⟨?_, by rw [ht]; simpa using h2⟩
   rw [h1]
   unfold txtB
   rw [ht, List.append_assoc, List.take_append_drop]
end
end Go.Proofs.YtkghejaimhoboaaGreatDoor
