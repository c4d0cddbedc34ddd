/- Rows of an outbox, told. · Blocks as wholes: loads, stores, results. -/
import Derived.Test.YtodbdojjllabmaaGreatDoorPk24
import Derived.Deep.MidRow
namespace Go.Proofs.YtodbdojjllabmaaGreatDoor
open Go.RowKit Go.Shelf

def RowV.cl (r : RowV) : List Value := r.vals.toList
theorem eRow : ElemT Tryz.prog 57 30 (.agg (RowV.vals ⟨0, [], 0, 0, [], [], 0, false, 0⟩)) 9 96 := ⟨Tryz.underlying57, by kernel_rfl, by kernel_rfl⟩
theorem RowV.one (r : RowV) : ∀ u ∈ r.cl, u.oneCell' = true := by simp [RowV.cl, RowV.vals, Value.oneCell']
/-- Rows in a row of one's own. -/
def RowsAt (w : World) (base : Nat) (v : Value) (l : List RowV) : Prop := w.ownsRow base 30 9 v l.length (l.flatMap RowV.cl)
theorem Blk.range {w : World} {b : Nat} {cs : Array Value} {T : TypeId} (h : Blk w b cs T) : w.rangeAt b 0 cs.toList := fun j v hj => by
  rw [Nat.zero_add, h.cell j]
  simpa using hj

set_option maxRecDepth 100000 in
set_option maxHeartbeats 1000000 in
theorem out_Rows {w : World} {B : Nat} {L : Lay} {s : OS} {ps : List PackV} {cs : List ChangeV} (h : OB w B L s ps cs) :
    Calls Tryz.prog 19 #[.pointer (some ⟨L.p, 0, none⟩)] w fun e w' => ∃ v, e = .returned v ∧ RowsAt w' w.heap.size v s.l ∧ Below w.heap.size w w' := by
  have CN := hid (out_none h)
  obtain ⟨al, cl, hvl, -⟩ := own_cell h.rows
  have k6 : w.cell? ⟨L.p, 6, none⟩ = some (.slice al s.l.length cl) := (h.box.cell 6).trans (by simp [boxCells, hvl])
  have hroom : s.l.length ≤ 1000 := by have := h.ok.room; omega
  have H := hid h
  go_enter Tryz.func19, Tryz.ntmps19
  go_wp2_with (go_at_call 31; refine CN.out.mono ?_; rintro e w1 ⟨rfl, rfl⟩)
  go_loopw [3, 13] (fun v' i wr => ∃ (k : Nat) (v : Value), v = v' ∧ i = .int .i64 k ∧ k ≤ s.l.length ∧ Hid (wr.ownsRow w.heap.size 30 9 v k ((s.l.take k).flatMap RowV.cl)) ∧ Hid (Below w.heap.size w wr)) (fun _ i _ => s.l.length - (intOf i).toNat)
  case atStart => exact ⟨0, _, rfl, rfl, Nat.zero_le _, hid (World.ownsRow_nil _ _ _ _), hid (Below.refl _ _)⟩
  case round =>
    obtain ⟨k, v, rfl, rfl, hk, hown, hbr⟩ := hrel
    rcases Nat.lt_or_ge k s.l.length with hlt | hge
    · have dk : decide ((k : Int) < (s.l.length : Int)) = true := decide_eq_true (by omega)
      obtain ⟨r, hr⟩ : ∃ r, s.l[k]? = some r := ⟨_, List.getElem?_eq_getElem hlt⟩
      obtain ⟨b, g, cap, hb, A⟩ := (H.out.below hbr.out).atRow k r hr
      have hvA := A.vl
      rw [hvl] at hvA
      cases hvA
      have ka := A.arr
      have kl := A.le
      have hrow := hid A.row
      have hnk := hid (show (s.l.take (k + 1)).flatMap RowV.cl = (s.l.take k).flatMap RowV.cl ++ r.cl by rw [List.take_add_one, hr]; simp)
      clear A hr
      go_wp2_with (first
        | (refine wpList_load_mid rfl 30 _ rfl b 0 rfl r.cl _ hrow.out.range Tryz.underlying30 rfl (by kernel_rfl) ?_)
        | (refine wpList_plain rfl fun _ hK => wp_slice_one _ rfl eRow (by decide) (by decide) (.agg r.cl.toArray) rfl rfl (hK _ _ ?_))
        | (at_builtin; (refine append_grp rfl _ _ rfl eRow (by decide) w.heap.size v k _ rfl (hown.out.alloc _) wr.heap.size r.cl 30 rfl (Blk.new _ _ _) rfl r.one (by omega) (by omega) (by have := hbr.out.size; simp; omega) ?_); intro v' w1 r1 g1 n1))
      have r1 := hid r1
      have g1 := hid g1
      go_roundw
      case rel =>
        exact ⟨k + 1, _, rfl, by go_num, by omega, by rw [hnk.out]; exact r1, hid ((hbr.out.alloc hbr.out.size _).grown g1.out (by have := hbr.out.size; simp; omega) (fun x hx => (hown.out.lt x hx).1))⟩
      case measure => simp [intOf]; omega
    · obtain rfl : k = s.l.length := by omega
      have dk : decide ((s.l.length : Int) < (s.l.length : Int)) = false := by simp
      rw [List.take_length] at hown
      go_wp2
      go_ret
      exact ⟨_, rfl, hown.out, hbr.out⟩
end Go.Proofs.YtodbdojjllabmaaGreatDoor
namespace Go.Proofs.YtodbdojjllabmaaGreatDoor
open Go.RowKit Go.Shelf

section
variable {P : Program} {w : World} {b : Nat} {cs : Array Value} {T : TypeId}
theorem run_load_blk (h : Blk w b cs T) (ty : TypeId) {d : TypeDesc} (hu : P.underlying ty = some d) (hd : d.isRow = true) (hi : (P.info? ty).map (·.size) = some cs.size) : (Instr.loadAt ty (.pointer (some ⟨b, 0, none⟩))).run P w = .ok (.agg cs) w := by
  have := run_loadAt_mid (P := P) w b 0 ty cs.toList d h.range hu hd (by simpa using hi)
  simpa using this
theorem run_loadVar_blk (h : Blk w b cs T) (ty : TypeId) {d : TypeDesc} (hu : P.underlying ty = some d) (hd : d.isRow = true) (hi : (P.info? ty).map (·.size) = some cs.size) : (loadVar ty ⟨b, 0, none⟩).run P w = .ok (.agg cs) w := by
  have := run_loadVar_mid (P := P) w b 0 ty cs.toList d h.range hu hd (by simpa using hi)
  simpa using this
theorem wpList_load_blk {ops : Array Oper} {rest : List Oper} {op : Oper} {a : Act} {Q : Exit → Act → World → Prop} (hgd : op.guard = none) (ty : TypeId) (x : Operand) (ho : op.op = .load ty x)
    (b : Nat) (cs : Array Value) (hx : a.eval x = .pointer (some ⟨b, 0, none⟩)) (hb : Blk w b cs T) {d : TypeDesc} (hu : P.underlying ty = some d) (hd : d.isRow = true) (hi : (P.info? ty).map (·.size) = some cs.size)
    (h : wpList P ops Q rest (a.put op.dst (.agg cs)) w) : wpList P ops Q (op :: rest) a w :=
  wpList_load_mid hgd ty x ho b 0 hx cs.toList d hb.range hu hd (by simpa using hi) (by simpa using h)
theorem wpList_store_blk {ops : Array Oper} {rest : List Oper} {op : Oper} {a : Act} {Q : Exit → Act → World → Prop} (hgd : op.guard = none) (ty T : TypeId) (x y : Operand) (ho : op.op = .store ty x y) (n : Nat) (hs : ∀ w, (sizeOf ty).run P w = .ok n w)
    (b : Nat) (cur cs : Array Value) (hx : a.eval x = .pointer (some ⟨b, 0, none⟩)) (hy : a.eval y = .agg cs) (hb : Blk w b cur T) (h1 : cs.size = n) (h2 : cur.size = n) (ho1 : ∀ v ∈ cs.toList, v.oneCell' = true)
    (h : ∀ w', Blk w' b cs T → Wrote [b] w w' → wpList P ops Q rest (a.put op.dst undef) w') : wpList P ops Q (op :: rest) a w :=
  wpList_plain hgd fun _ hK => wp_store_whole ty T x y ho n hs b cur cs hx hy hb h1 h2 ho1 fun w' hb' hw' => hK _ _ (h w' hb' hw')
theorem wp_append_grp {o : Oper} {a : Act} {K : Act → World → Prop} {Q : Exit → Act → World → Prop} {t e : TypeId} {z : Value} {size bytes : Nat} (s x : Operand)
    (ho : o.op = .call { callee := .builtin .append, args := #[s, x], argTypes := #[t, t] }) (E : ElemT P t e z size bytes) (hsz : 0 < size)
    (base : Nat) (v : Value) (n : Nat) (xs : List Value) (hs : a.eval s = v) (hown : w.ownsRow base e size v n xs) (g : Nat) (news : List Value) (T : TypeId) (hx : a.eval x = .slice (some ⟨g, 0, none⟩) 1 1) (hg : Blk w g news.toArray T) (hl : news.length = size) (h1 : ∀ u ∈ news, u.oneCell' = true)
    (h63 : n < 100000000) (hbytes : (n + 1) * bytes ≤ 140737488355328) (hbase : base ≤ w.heap.size)
    (h : ∀ v' w', w'.ownsRow base e size v' (n + 1) (xs ++ news) → w.grownBy w' v.ownBlock → (∀ k, v'.ownBlock = some k → v.ownBlock = some k ∨ w.heap.size ≤ k) → K (a.put o.dst v') w') : o.wp P a w K Q := by
  obtain ⟨v', w', hr, h2, h3, h4⟩ := run_append2 (P := P) (w := w) o.type E hsz base v n xs hown ⟨g, 0, none⟩ news hl (fun j u hj => by
    have := hg.cell j
    simp only [List.getElem?_toArray] at this
    rw [hj] at this
    by_cases h0 : j = 0
    · subst h0; simpa [Addr.add] using this
    · simpa [Addr.add, h0] using this) h1 h63 hbytes hbase
  unfold Oper.wp execOp
  simp only [ho, resolve, invoke, builtin, Sem.run_bind, Sem.run_pure, Result.andThen_ok, List.map_toArray, List.map_cons, List.map_nil, hs, hx, hr]
  exact h v' w' h2 h3 h4
theorem results_cc {fn : Func} {a b : Tmp} {t u : TypeId} (h : fn.results = #[.cell a t, .cell b u]) {tmps : Array Value} {p q : Addr} (hp : tmps.getD a undef = .pointer (some p)) (hq : tmps.getD b undef = .pointer (some q)) {v x : Value} (hl : (loadVar t p).run P w = .ok v w) (hu : (loadVar u q).run P w = .ok x w) : (results fn tmps).run P w = .ok (.tuple #[v, x]) w := by
  rw [Array.getD_eq_getD_getElem?] at hp hq
  simp [results, h, hp, hq, asAddr, hl, hu]
theorem results_cct {fn : Func} {a b c : Tmp} {t u : TypeId} (h : fn.results = #[.cell a t, .cell b u, .tmp c]) {tmps : Array Value} {p q : Addr} (hp : tmps.getD a undef = .pointer (some p)) (hq : tmps.getD b undef = .pointer (some q)) {v x y : Value} (hl : (loadVar t p).run P w = .ok v w) (hu : (loadVar u q).run P w = .ok x w) (hy : tmps.getD c undef = y) : (results fn tmps).run P w = .ok (.tuple #[v, x, y]) w := by
  rw [Array.getD_eq_getD_getElem?] at hp hq hy
  simp [results, h, hp, hq, hy, asAddr, hl, hu]
theorem results_ctt {fn : Func} {a b c : Tmp} {t : TypeId} (h : fn.results = #[.cell a t, .tmp b, .tmp c]) {tmps : Array Value} {p : Addr} (hp : tmps.getD a undef = .pointer (some p)) {v x y : Value} (hl : (loadVar t p).run P w = .ok v w) (hx : tmps.getD b undef = x) (hy : tmps.getD c undef = y) : (results fn tmps).run P w = .ok (.tuple #[v, x, y]) w := by
  rw [Array.getD_eq_getD_getElem?] at hp hx hy
  simp [results, h, hp, hx, hy, asAddr, hl]
end
theorem Blk.keepW {w w' : World} {b : Nat} {cs : Array Value} {T : TypeId} (h : Blk w b cs T) {M : List Nat} (hw : Wrote M w w') (hn : b ∉ M) : Blk w' b cs T := h.wrote hw hn
theorem below_wrote {a w w' : World} (h : Below a.heap.size a w) {M : List Nat} (hw : Wrote M w w') (hM : ∀ x ∈ M, a.heap.size ≤ x) : Below a.heap.size a w' :=
  h.trans (hw.below h.size hM)
section
variable {P : Program} {ops : Array Oper} {KQ : Act → World → Prop} {facts : List Fact} {taken : List Nat} {a : Act} {w : World}
/-- 'append(a, b...)' that touches no memory. -/
theorem appQ (i : Nat) {oi : Oper} (hi : ops[i]? = some oi) (hB : takeB ops (facts.map (·.1)) taken i = true) (hw : Region.wanted oi (yielded ops a.tmps) = true) {s x : Operand} {tys : Array TypeId}
    (hop : oi.op = .call { callee := .builtin .append, args := #[s, x], argTypes := tys }) {u y : Value} (hs : a.eval s = u) (hx : a.eval x = y) (v : Value) (hr : ∀ w', (Builtin.append_ tys oi.type #[u, y]).run P w' = .ok v w')
    (h : atR P ops KQ facts (i :: taken) (a.put oi.dst v) w) : atR P ops KQ facts taken a w := by
  refine readyR i hi hB v (.inl ⟨hw, fun w' hu => ?_⟩) h
  simp only [execOp, hop, resolve, invoke, builtin, Sem.run_bind, Sem.run_pure, Result.andThen_ok, List.map_toArray, List.map_cons, List.map_nil, hs, hx, hr]
end
end Go.Proofs.YtodbdojjllabmaaGreatDoor
