/- A call of an outbox, whatever it is; and of the reference's empty one. · OutboxWindow, plainly: what holds behind any calls. -/
import Derived.Test.YtodbdojjllabmaaGreatDoorPk26
import Derived.Test.YtodbdojjllabmaaGreatDoorPk32
namespace Go.Proofs.YtodbdojjllabmaaGreatDoor
open Go.RowKit Go.Shelf

structure ActV where
  kind : Int
  qos : Int
  topic : List UInt8
  body : List UInt8
  retain : Bool
  pack : Int
  id : Int
def ActV.cells (x : ActV) : Array Value := #[.int .i64 x.kind, .int .i64 x.qos, .string ⟨x.topic.toArray⟩, .string ⟨x.body.toArray⟩, .bool x.retain, .int .i64 x.pack, .int .i64 x.id]
def OS.doPut (s : OS) (x : ActV) : SS :=
  if putMay (s.row x.topic x.body x.qos x.retain) = true ∧ (s.l.length : Int) < s.room then ⟨s.put (s.row x.topic x.body x.qos x.retain), [], [⟨false, s.row x.topic x.body x.qos x.retain⟩, ⟨false, (s.put (s.row x.topic x.body x.qos x.retain)).session⟩]⟩ else ⟨s, [], []⟩
def OS.doHear (s : OS) (k z : Int) : SS :=
  if 1 ≤ z ∧ z ≤ 65535 then
    if k = 4 then (s.start.ack z).all.fin s.seq s.id else if k = 5 then (s.start.rec' z).all.fin s.seq s.id else if k = 7 then (s.start.comp z).all.fin s.seq s.id else ⟨s, [], []⟩
  else ⟨s, [], []⟩
def OS.does (s : OS) (x : ActV) : SS :=
  if x.kind = 1 then s.doPut x else if x.kind = 2 then s.start.all.fin s.seq s.id else if x.kind = 3 then s.doHear x.pack x.id else if x.kind = 4 then s.again.all.fin s.seq s.id else ⟨s, [], []⟩

theorem ob_rebase2 {w : World} {B : Nat} {L : Lay} {s : OS} (h : OB w B L s [] []) (hn : L.vp = .slice none 0 0 ∧ L.vc = .slice none 0 0) : OB w w.heap.size L s [] [] := by
  obtain ⟨p, ib, sb, vl, vp, vc, rb, W⟩ := L
  dsimp only at hn
  obtain ⟨rfl, rfl⟩ := hn
  exact OB.rebase (L := ⟨p, ib, sb, vl, .slice none 0 0, .slice none 0 0, rb, W⟩) h (Nat.le_refl _)
theorem did_none {w w' : World} {B : Nat} {L : Lay} {s : OS} (h : OB w B L s [] []) (hn : L.vp = .slice none 0 0 ∧ L.vc = .slice none 0 0) (hb : Below w.heap.size w w') : DidAt w w' L L s (.slice none 0 0) (.slice none 0 0) [] [] := by
  refine ⟨?_, hn, rfl, Stp.below hb, World.ownsRow_nil _ _ _ _, World.ownsRow_nil _ _ _ _⟩
  obtain ⟨p, ib, sb, vl, vp, vc, rb, W⟩ := L
  dsimp only at hn
  obtain ⟨rfl, rfl⟩ := hn
  exact OB.rebase (L := ⟨p, ib, sb, vl, .slice none 0 0, .slice none 0 0, rb, W⟩) (h.below hb) (Nat.le_refl _)

theorem act_Put {w : World} {B : Nat} {L : Lay} {s : OS} (h : OB w B L s [] []) (hn : L.vp = .slice none 0 0 ∧ L.vc = .slice none 0 0) (x : ActV) (ht : x.topic.length ≤ 4000000) (hseq : s.seq ≤ 4611686018427387904) :
    Calls Tryz.prog 9 #[.pointer (some ⟨L.p, 0, none⟩), .string ⟨x.topic.toArray⟩, .string ⟨x.body.toArray⟩, .int .i64 x.qos, .bool x.retain] w fun e w' => ∃ vp vc no L', e = .returned (.tuple #[.agg #[vp, vc], .int .i64 no]) ∧ DidAt w w' L L' (s.doPut x).s vp vc (s.doPut x).ps (s.doPut x).cs := by
  have hA := anyOK x.topic (by omega)
  by_cases hm : putMay (s.row x.topic x.body x.qos x.retain) = true
  · by_cases hr : (s.l.length : Int) < s.room
    · refine (out_Put h hn x.topic x.body x.qos x.retain (by omega) hA hm hr hseq).mono ?_
      rintro e w' ⟨vp, vc, L', rfl, d⟩
      refine ⟨vp, vc, 0, L', rfl, ?_⟩
      unfold OS.doPut
      rw [if_pos ⟨hm, hr⟩]
      exact d
    · refine (out_Put_full h x.topic x.body x.qos x.retain (by omega) hA hm (by omega)).mono ?_
      rintro e w' ⟨rfl, hb⟩
      refine ⟨_, _, 150, L, rfl, ?_⟩
      unfold OS.doPut
      rw [if_neg (fun hh => hr hh.2)]
      exact did_none h hn hb
  · refine (out_Put_arg h x.topic x.body x.qos x.retain (by omega) hA (by simpa using hm)).mono ?_
    rintro e w' ⟨rfl, hb⟩
    refine ⟨_, _, 2, L, rfl, ?_⟩
    unfold OS.doPut
    rw [if_neg (fun hh => hm hh.1)]
    exact did_none h hn hb
theorem act_Hear {w : World} {B : Nat} {L : Lay} {s : OS} (h : OB w B L s [] []) (hn : L.vp = .slice none 0 0 ∧ L.vc = .slice none 0 0) (k z : Int) :
    Calls Tryz.prog 11 #[.pointer (some ⟨L.p, 0, none⟩), .int .i64 k, .int .i64 z] w fun e w' => ∃ vp vc no L', e = .returned (.tuple #[.agg #[vp, vc], .int .i64 no]) ∧ DidAt w w' L L' (s.doHear k z).s vp vc (s.doHear k z).ps (s.doHear k z).cs := by
  have bad : ¬ ((k = 4 ∨ k = 5 ∨ k = 7) ∧ 1 ≤ z ∧ z ≤ 65535) → s.doHear k z = ⟨s, [], []⟩ → Calls Tryz.prog 11 #[.pointer (some ⟨L.p, 0, none⟩), .int .i64 k, .int .i64 z] w fun e w' => ∃ vp vc no L', e = .returned (.tuple #[.agg #[vp, vc], .int .i64 no]) ∧ DidAt w w' L L' (s.doHear k z).s vp vc (s.doHear k z).ps (s.doHear k z).cs := fun hb he => by
    refine (out_Hear_bad h k z hb).mono ?_
    rintro e w' ⟨rfl, hb⟩
    refine ⟨_, _, 2, L, rfl, ?_⟩
    rw [he]
    exact did_none h hn hb
  by_cases hz : 1 ≤ z ∧ z ≤ 65535
  · by_cases h4 : k = 4
    · subst h4
      refine (out_Hear4 h hn z hz).mono ?_
      rintro e w' ⟨vp, vc, L', rfl, d⟩
      refine ⟨vp, vc, 0, L', rfl, ?_⟩
      unfold OS.doHear
      rw [if_pos hz, if_pos rfl]
      exact d
    by_cases h5 : k = 5
    · subst h5
      refine (out_Hear5 h hn z hz).mono ?_
      rintro e w' ⟨vp, vc, L', rfl, d⟩
      refine ⟨vp, vc, 0, L', rfl, ?_⟩
      unfold OS.doHear
      rw [if_pos hz, if_neg (by decide), if_pos rfl]
      exact d
    by_cases h7 : k = 7
    · subst h7
      refine (out_Hear7 h hn z hz).mono ?_
      rintro e w' ⟨vp, vc, L', rfl, d⟩
      refine ⟨vp, vc, 0, L', rfl, ?_⟩
      unfold OS.doHear
      rw [if_pos hz, if_neg (by decide), if_neg (by decide), if_pos rfl]
      exact d
    exact bad (fun hh => by omega) (by unfold OS.doHear; rw [if_pos hz, if_neg h4, if_neg h5, if_neg h7])
  · exact bad (fun hh => hz hh.2) (by unfold OS.doHear; rw [if_neg hz])

/-- What the reference's empty outbox answers. -/
def RefDid (w : World) (e : Ending) (w' : World) : Prop := ∃ (a : Option Addr) (n c : Nat) (no : Int) (qs : List PackV), e = .returned (.tuple #[.agg (refA (.slice none 0 0)), didA (.slice a n c), .int .i64 no]) ∧ n = qs.length ∧ w'.ownsRow w.heap.size 45 24 (.slice a n c) n (qs.flatMap PackV.cells) ∧ Below w.heap.size w w'
theorem ref_Put (topic body : List UInt8) (qos : Int) (retain : Bool) (w : World) :
    Calls Tryz.prog 42 #[.agg (refA (.slice none 0 0)), .string ⟨topic.toArray⟩, .string ⟨body.toArray⟩, .int .i64 qos, .bool retain] w (RefDid w) := (r_Put topic body qos retain w).mono fun _ _ ⟨h1, h2⟩ => ⟨_, _, _, _, [], h1, rfl, World.ownsRow_nil _ _ _ _, h2⟩
theorem ref_Hear (k z : Int) (w : World) :
    Calls Tryz.prog 44 #[.agg (refA (.slice none 0 0)), .int .i64 k, .int .i64 z] w (RefDid w) := by
  by_cases hk : (k = 4 ∨ k = 5 ∨ k = 7) ∧ 1 ≤ z ∧ z ≤ 65535
  · obtain ⟨rfl | rfl | rfl, hz⟩ := hk
    · exact (r_Hear4 z hz w).mono fun _ _ ⟨h1, h2⟩ => ⟨_, _, _, _, [], h1, rfl, World.ownsRow_nil _ _ _ _, h2⟩
    · refine (r_Hear5 z hz w).mono ?_
      rintro e w' ⟨a, n, c, rfl, ho, hb⟩
      obtain ⟨a', c', he⟩ := own_slice ho
      cases he
      exact ⟨a, 1, c, 0, [pubrel z], rfl, rfl, by simpa using ho, hb⟩
    · exact (r_Hear7 z hz w).mono fun _ _ ⟨h1, h2⟩ => ⟨_, _, _, _, [], h1, rfl, World.ownsRow_nil _ _ _ _, h2⟩
  · exact (r_Hear_bad k z hk w).mono fun _ _ ⟨h1, h2⟩ => ⟨_, _, _, _, [], h1, rfl, World.ownsRow_nil _ _ _ _, h2⟩

def RefDid2 (w : World) (e : Ending) (w' : World) : Prop := ∃ (a : Option Addr) (n c : Nat) (qs : List PackV), e = .returned (.tuple #[.agg (refA (.slice none 0 0)), didA (.slice a n c)]) ∧ n = qs.length ∧ w'.ownsRow w.heap.size 45 24 (.slice a n c) n (qs.flatMap PackV.cells) ∧ Below w.heap.size w w'
theorem ref_Send (w : World) : Calls Tryz.prog 43 #[.agg (refA (.slice none 0 0))] w (RefDid2 w) := (r_Send w).mono fun _ _ ⟨h1, h2⟩ => ⟨_, _, _, [], h1, rfl, World.ownsRow_nil _ _ _ _, h2⟩
theorem ref_Anew (w : World) : Calls Tryz.prog 45 #[.agg (refA (.slice none 0 0))] w (RefDid2 w) := (r_Anew w).mono fun _ _ ⟨h1, h2⟩ => ⟨_, _, _, [], h1, rfl, World.ownsRow_nil _ _ _ _, h2⟩

theorem fin_len (X : SS) (q i : Int) : (X.fin q i).cs.length ≤ X.cs.length + 1 := by
  unfold SS.fin
  dsimp only
  rw [List.length_append]
  split <;> simp
theorem start_len (s : OS) (h : s.l.length ≤ 1000) : (s.start.all.fin s.seq s.id).ps.length ≤ 100000 ∧ (s.start.all.fin s.seq s.id).cs.length ≤ 100000 := by
  have h1 := all_len s.start h
  have h2 := fin_len s.start.all s.seq s.id
  have e1 : s.start.ps.length = 0 := rfl
  have e2 : s.start.cs.length = 0 := rfl
  exact ⟨by show s.start.all.ps.length ≤ _; omega, by omega⟩
theorem again_len (s : OS) (h : s.l.length ≤ 1000) : (s.again.all.fin s.seq s.id).ps.length ≤ 100000 ∧ (s.again.all.fin s.seq s.id).cs.length ≤ 100000 := by
  have h1 := all_len s.again h
  have h2 := fin_len s.again.all s.seq s.id
  have e1 : s.again.ps.length ≤ s.l.length := anew_len s.l
  have e2 : s.again.cs.length = 0 := rfl
  exact ⟨by show s.again.all.ps.length ≤ _; omega, by omega⟩
theorem doHear_len (s : OS) (k z : Int) (h : s.l.length ≤ 1000) : (s.doHear k z).ps.length ≤ 100000 ∧ (s.doHear k z).cs.length ≤ 100000 := by
  have gen : ∀ Y : SS, Nigh s.start Y → Y.s.l.length ≤ 1000 → (Y.all.fin s.seq s.id).ps.length ≤ 100000 ∧ (Y.all.fin s.seq s.id).cs.length ≤ 100000 := fun Y hY hl => by
    have h1 := all_len Y hl
    have h2 := fin_len Y.all s.seq s.id
    have h3 := hY.ps
    have h4 := hY.cs
    have e1 : s.start.ps.length = 0 := rfl
    have e2 : s.start.cs.length = 0 := rfl
    exact ⟨by show Y.all.ps.length ≤ _; omega, by omega⟩
  have hg : ∀ n st q, (s.start.goneAt n st q).s.l.length ≤ 1000 := fun n st q => by
    unfold SS.goneAt
    split
    · exact h
    · unfold SS.goneIf
      split
      · exact h
      · split
        · unfold SS.gone
          split
          · exact h
          · show (s.l.eraseIdx _).length ≤ 1000
            have := List.length_eraseIdx_le (l := s.l) (i := n.toNat)
            omega
        · exact h
  unfold OS.doHear
  split
  · split
    · exact gen _ (gone_nigh _ _ _ _) (hg _ _ _)
    · split
      · refine gen _ (pubrec_nigh _ _ _) ?_
        unfold SS.rec' SS.pubrec
        split
        · exact h
        · split
          · exact h
          · split
            · unfold SS.recv
              split
              · exact h
              · split
                · show (s.l.set _ _).length ≤ 1000
                  rw [List.length_set]; exact h
                · exact h
            · exact h
      · split
        · exact gen _ (gone_nigh _ _ _ _) (hg _ _ _)
        · simp
  · simp
end Go.Proofs.YtodbdojjllabmaaGreatDoor
namespace Go.Proofs.YtodbdojjllabmaaGreatDoor
open Go.RowKit Go.Shelf

structure Rg (l : List RowV) (q : Int) : Prop where
  sorted : (l.map RowV.seq).Pairwise (· < ·)
  lt : ∀ r ∈ l, r.seq < q
  good : ∀ r ∈ l, (r.stage = 1 ∧ r.id = 0) ∨ r.stage = 2 ∨ r.stage = 3
theorem Rg.nil (q : Int) : Rg [] q := ⟨List.Pairwise.nil, by simp, by simp⟩
theorem Rg.push {l : List RowV} {q : Int} (h : Rg l q) (r : RowV) (hs : r.seq = q) (hg : r.stage = 1 ∧ r.id = 0) : Rg (l ++ [r]) (q + 1) := by
  refine ⟨?_, fun x hx => ?_, fun x hx => ?_⟩
  · rw [List.map_append, List.pairwise_append]
    refine ⟨h.sorted, by simp, fun a ha b hb => ?_⟩
    simp only [List.mem_map] at ha
    obtain ⟨x, hx, rfl⟩ := ha
    simp at hb
    subst hb
    rw [hs]
    exact h.lt x hx
  · rcases List.mem_append.1 hx with hx | hx
    · have := h.lt x hx; omega
    · simp at hx; subst hx; omega
  · rcases List.mem_append.1 hx with hx | hx
    · exact h.good x hx
    · simp at hx; subst hx; exact .inl hg
theorem Rg.set {l : List RowV} {q : Int} (h : Rg l q) {i : Nat} {r r' : RowV} (hr : l[i]? = some r) (hs : r'.seq = r.seq) (hg : r'.stage = 2 ∨ r'.stage = 3) : Rg (l.set i r') q := by
  have hm := List.mem_of_getElem? hr
  refine ⟨?_, fun x hx => ?_, fun x hx => ?_⟩
  · have : (l.set i r').map RowV.seq = l.map RowV.seq := by
      rw [List.map_set, hs]
      apply List.ext_getElem?
      intro j
      by_cases hj : i = j
      · subst hj
        rw [List.getElem?_set_self' ]
        simp [hr]
      · rw [List.getElem?_set_ne hj]
    rw [this]; exact h.sorted
  · rcases List.mem_or_eq_of_mem_set hx with hx | rfl
    · exact h.lt x hx
    · rw [hs]; exact h.lt r hm
  · rcases List.mem_or_eq_of_mem_set hx with hx | rfl
    · exact h.good x hx
    · exact .inr hg
theorem Rg.erase {l : List RowV} {q : Int} (h : Rg l q) (i : Nat) : Rg (l.eraseIdx i) q := by
  have hsub := List.eraseIdx_sublist l i
  exact ⟨(h.sorted.sublist (hsub.map _)), fun r hr => h.lt r (hsub.subset hr), fun r hr => h.good r (hsub.subset hr)⟩

/-- What holds of an outbox of that window, that room. -/
structure Wn (W R : Int) (s : OS) : Prop where
  rg : Rg s.l s.seq
  win : s.window = W
  room : s.room = R
theorem Wn.send {W R : Int} {x : SS} (h : Wn W R x.s) (i : Nat) : Wn W R (x.send i).s := by
  unfold SS.send
  split
  · exact h
  · split
    · exact h
    · rename_i r hr
      exact ⟨h.rg.set hr rfl (.inl rfl), h.win, h.room⟩
theorem Wn.sends {W R : Int} {x : SS} (h : Wn W R x.s) (q : List Nat) : Wn W R (x.sends q).s := by
  induction q generalizing x with
  | nil => exact h
  | cons i q ih => exact ih (h.send i)
theorem Wn.all {W R : Int} {x : SS} (h : Wn W R x.s) : Wn W R x.all.s := h.sends _
theorem Wn.gone {W R : Int} {x : SS} (h : Wn W R x.s) (n st q : Int) : Wn W R (x.goneAt n st q).s := by
  unfold SS.goneAt
  split
  · exact h
  · unfold SS.goneIf
    split
    · exact h
    · split
      · unfold SS.gone
        split
        · exact h
        · exact ⟨h.rg.erase _, h.win, h.room⟩
      · exact h
theorem Wn.recd {W R : Int} {x : SS} (h : Wn W R x.s) (n z : Int) : Wn W R (x.pubrec n z).s := by
  unfold SS.pubrec
  split
  · exact h
  · split
    · exact h
    · split
      · unfold SS.recv
        split
        · exact h
        · rename_i r hr
          split
          · exact ⟨h.rg.set hr rfl (.inr rfl), h.win, h.room⟩
          · exact h
      · exact h
theorem Wn.does {W R : Int} {s : OS} (h : Wn W R s) (x : ActV) : Wn W R (s.does x).s := by
  unfold OS.does
  split
  · unfold OS.doPut
    split
    · exact ⟨h.rg.push _ rfl ⟨rfl, rfl⟩, h.win, h.room⟩
    · exact h
  · split
    · exact Wn.all (x := s.start) h
    · split
      · unfold OS.doHear
        split
        · split
          · exact Wn.all (Wn.gone (x := s.start) h _ _ _)
          · split
            · exact Wn.all (Wn.recd (x := s.start) h _ _)
            · split
              · exact Wn.all (Wn.gone (x := s.start) h _ _ _)
              · exact h
        · exact h
      · split
        · exact Wn.all (x := s.again) h
        · exact h
/-- Only a put gives a number more. -/
theorem does_seq (s : OS) (x : ActV) : (s.does x).s.seq ≤ s.seq + 1 := by
  have gn : ∀ n st q, (s.start.goneAt n st q).s.seq = s.seq := fun n st q => (gone_nigh s.start n st q).seq
  have pn : ∀ n z, (s.start.pubrec n z).s.seq = s.seq := fun n z => (pubrec_nigh s.start n z).seq
  have al : ∀ Y : SS, Y.s.seq = s.seq → (Y.all.fin s.seq s.id).s.seq ≤ s.seq + 1 := fun Y hY => by
    have := (all_same Y).2
    show Y.all.s.seq ≤ _
    omega
  unfold OS.does
  split
  · unfold OS.doPut
    split
    · exact Int.le_refl _
    · show s.seq ≤ _; omega
  · split
    · exact al s.start rfl
    · split
      · unfold OS.doHear
        split
        · split
          · exact al _ (gn _ _ _)
          · split
            · exact al _ (pn _ _)
            · split
              · exact al _ (gn _ _ _)
              · show s.seq ≤ _; omega
        · show s.seq ≤ _; omega
      · split
        · exact al s.again rfl
        · show s.seq ≤ _; omega

/-- Nothing waits, or the window is full. -/
def Done1 (s : OS) : Prop := s.window ≤ (idsOf s.l).length ∨ ∀ r ∈ s.l, r.stage ≠ 1
theorem Done1.all {s : OS} (h : Done1 s) (ps : List PackV) (cs : List ChangeV) : (SS.mk s ps cs).all = ⟨s, ps, cs⟩ := by
  rcases h with h | h
  · exact SS.sends_full _ _ h
  · have : waitQ (stOf s.l) s.l.length = [] := by
      unfold waitQ
      rw [List.filter_eq_nil_iff]
      intro i hi
      simp only [List.mem_range] at hi
      unfold stOf
      rw [List.getElem?_eq_getElem hi]
      simpa using h _ (List.getElem_mem hi)
    unfold SS.all
    show (SS.mk s ps cs).sends (waitQ (stOf s.l) s.l.length) = _
    rw [this]
    rfl
theorem send_len_l (x : SS) (i : Nat) : (x.send i).s.l.length = x.s.l.length := (SS.send_alike x i).len
theorem sends_len_l (x : SS) (q : List Nat) : (x.sends q).s.l.length = x.s.l.length := by
  induction q generalizing x with
  | nil => rfl
  | cons i q ih => exact (ih (x.send i)).trans (send_len_l x i)
theorem sends_window (x : SS) (q : List Nat) : (x.sends q).s.window = x.s.window := (sends_same x q).2.2.1
theorem sends_done (q : List Nat) : ∀ (x : SS), (∀ i, i < x.s.l.length → stOf x.s.l i = 1 → i ∈ q) → Done1 (x.sends q).s := by
  induction q with
  | nil =>
    intro x h
    refine .inr fun r hr h1 => ?_
    obtain ⟨i, hi⟩ := List.getElem?_of_mem hr
    have hlt := (List.getElem?_eq_some_iff.1 hi).1
    have : i ∈ ([] : List Nat) := h i hlt (by
      unfold stOf
      show ((x.s.l[i]?).map (·.stage)).getD 0 = 1
      have hi' : x.s.l[i]? = some r := hi
      rw [hi']
      simpa using h1)
    cases this
  | cons i q ih =>
    intro x h
    by_cases hf : x.s.window ≤ (idsOf x.s.l).length
    · rw [SS.sends_full x _ hf]
      exact .inl hf
    · show Done1 ((x.send i).sends q).s
      refine ih (x.send i) fun j hj hs => ?_
      rw [send_len_l] at hj
      by_cases hji : j = i
      · subst hji
        exfalso
        unfold SS.send at hs
        rw [if_neg hf, List.getElem?_eq_getElem hj] at hs
        dsimp only at hs
        unfold stOf at hs
        rw [List.getElem?_set_self hj] at hs
        simp [RowV.sent] at hs
      · have hst : stOf x.s.l j = 1 := by
          unfold stOf at hs ⊢
          rw [SS.send_other x i j hji] at hs
          exact hs
        have := h j hj hst
        rcases List.mem_cons.1 this with h1 | h1
        · exact absurd h1 hji
        · exact h1
theorem all_done (x : SS) : Done1 x.all.s := sends_done _ x fun i hi hs => by
  unfold waitQ
  rw [List.mem_filter]
  exact ⟨List.mem_range.2 hi, by simpa using hs⟩
theorem again_count (s : OS) (h : ∀ r ∈ s.l, (r.stage = 1 ∧ r.id = 0) ∨ r.stage = 2 ∨ r.stage = 3) : (s.l.flatMap anewP).length = (idsOf s.l).length := by
  obtain ⟨cl, wi, ro, sq, ii, l⟩ := s
  dsimp only at h ⊢
  induction l with
  | nil => rfl
  | cons r l ih =>
    have h1 := ih fun x hx => h x (by simp [hx])
    rw [List.flatMap_cons, List.length_append, h1]
    rcases h r (by simp) with ⟨hr, _⟩ | hr | hr
    · simp [anewP, idsOf, hr]
    · simp [anewP, idsOf, hr]; omega
    · simp [anewP, idsOf, hr]; omega
/-- To begin anew, when all is said, says it again and changes nothing. -/
theorem again_done {s : OS} (h : Done1 s) : s.again.all.fin s.seq s.id = ⟨s, s.l.flatMap anewP, []⟩ := by
  unfold OS.again
  rw [h.all]
  unfold SS.fin
  simp
end Go.Proofs.YtodbdojjllabmaaGreatDoor
