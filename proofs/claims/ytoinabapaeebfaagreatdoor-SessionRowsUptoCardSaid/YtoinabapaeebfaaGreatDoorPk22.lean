/- Parts of the proof of SessionRows: contracts of functions that it reaches, and plain lemmas. No condition of their own. -/
import Derived.Test.YtoinabapaeebfaaGreatDoorPk21
import Derived.Test.YtoinabapaeebfaaGreatDoorPk16
import Derived.Test.YtoinabapaeebfaaGreatDoorPk20
import Derived.Test.YtoinabapaeebfaaGreatDoorPk07
import Derived.Test.YtoinabapaeebfaaGreatDoorPk05
import Derived.Maps.OwnSet
import Derived.Test.YtoinabapaeebfaaGreatDoorPk13
set_option linter.unusedSimpArgs false
set_option linter.unusedVariables false
set_option maxRecDepth 100000
set_option maxHeartbeats 8000000
namespace Go.Proofs.YtoinabapaeebfaaGreatDoor
open Go.RowKit Go.Shelf
section
def lvlStep (out : List (List UInt8)) (b : UInt8) : List (List UInt8) := if b = 47 then out ++ [[]] else out.dropLast ++ [out.getLast?.getD [] ++ [b]]
def levelsL (s : List UInt8) : List (List UInt8) := s.foldl lvlStep [[]]
def splitR : List UInt8 -> List (List UInt8)
 | [] => [[]]
 | b :: l => if b = 47 then [] :: splitR l else (b :: (splitR l).head?.getD []) :: (splitR l).tail
theorem splitR_ne (s : List UInt8) : splitR s ≠ [] := by
 cases s with
 | nil => simp [splitR]
 | cons b l => unfold splitR; split <;> simp
theorem splitK_R : ∀ (s : List UInt8), Lib.splitK [47] 0 (Lib.count s [47]) s = splitR s := by
 intro s
 rw [Lib.count_one]
 induction s with
 | nil => rfl
 | cons b l ih =>
  by_cases hb : b = 47
  ·subst hb
   rw [List.count_cons_self]
   unfold Lib.splitK splitR
   have hi : Lib.index ((47 : UInt8) :: l) [47] = 0 := by rw [Lib.index_one]; simp [Lib.indexByte]
   rw [if_pos rfl, hi, if_neg (by decide)]
   simp only [Int.toNat_zero, Nat.zero_add, List.length_cons, List.length_nil, List.take_zero, List.drop_succ_cons, List.drop_zero]
   rw [ih]
  ·rw [List.count_cons_of_ne (by simpa using hb)]
   have hR : splitR (b :: l) = (b :: (splitR l).head?.getD []) :: (splitR l).tail := by rw [splitR, if_neg hb]
   rw [hR, <- ih]
   generalize l.count 47 = k
   have hi : Lib.index (b :: l) [47] = if Lib.index l [47] == -1 then -1 else Lib.index l [47] + 1 := by
    rw [Lib.index_one, Lib.index_one, Lib.indexByte]
    simp only [hb, beq_iff_eq, if_false]
   cases k with
   | zero => rfl
   | succ k =>
    unfold Lib.splitK
    rw [hi]
    by_cases h1 : Lib.index l [47] = -1
    ·simp [h1]
    ·have hge : 0 <= Lib.index l [47] := by
      rw [Lib.index_one] at h1 ⊢
      have := Lib.indexByte_ge l 47
      omega
     have e1 : (Lib.index l [47] == -1) = false := by simpa using h1
     have e2 : (Lib.index l [47] + 1 == -1) = false := by simp; omega
     have e3 : (Lib.index l [47] + 1).toNat = (Lib.index l [47]).toNat + 1 := by omega
     simp only [e1, e2, e3, Bool.false_eq_true, if_false, List.head?_cons, Option.getD_some, List.tail_cons, Nat.add_zero, List.take_succ_cons, List.length_cons, List.length_nil]
     rw [show (Lib.index l [47]).toNat + 1 + (0 + 1) = ((Lib.index l [47]).toNat + (0 + 1)) + 1 by omega, List.drop_succ_cons]
theorem fold_R : ∀ (s : List UInt8) (pre : List (List UInt8)) (x : List UInt8), s.foldl lvlStep (pre ++ [x]) = pre ++ (x ++ (splitR s).head?.getD []) :: (splitR s).tail := by
 intro s
 induction s with
 | nil => intro pre x; simp [splitR]
 | cons b l ih =>
  intro pre x
  rw [List.foldl_cons]
  by_cases hb : b = 47
  ·rw [show lvlStep (pre ++ [x]) b = (pre ++ [x]) ++ [[]] by unfold lvlStep; rw [if_pos hb], ih, splitR, if_pos hb]
   obtain ⟨y, ys, hy⟩ := List.exists_cons_of_ne_nil (splitR_ne l)
   simp [hy]
  ·rw [show lvlStep (pre ++ [x]) b = pre ++ [x ++ [b]] by unfold lvlStep; rw [if_neg hb, List.dropLast_concat, List.getLast?_concat]; rfl, ih, splitR, if_neg hb]
   simp
theorem levelsL_eq (s : List UInt8) : (levelsB s).map (·.data.toList) = levelsL s := by
 unfold levelsB levelsL
 have h := Lib.splitB_data ⟨#[47]⟩ 0 (Lib.countB ⟨s.toArray⟩ ⟨#[47]⟩) ⟨s.toArray⟩
 rw [h]
 show Lib.splitK [47] 0 (Lib.count s [47]) s = _
 rw [splitK_R]
 have := fold_R s [] []
 rw [List.nil_append] at this
 rw [this]
 obtain ⟨y, ys, hy⟩ := List.exists_cons_of_ne_nil (splitR_ne s)
 simp [hy]
theorem levelsL_take (s : List UInt8) (k : Nat) (b : UInt8) (h : s[k]? = some b) : levelsL (s.take (k + 1)) = lvlStep (levelsL (s.take k)) b := by
 unfold levelsL
 rw [List.take_add_one, h, Option.toList_some, List.foldl_append]
 rfl
theorem levelsL_ne (s : List UInt8) : levelsL s ≠ [] := by
 rw [<- levelsL_eq]
 have := fold_R s [] []
 intro h
 rw [levelsL_eq] at h
 unfold levelsL at h
 rw [List.nil_append] at this
 rw [this] at h
 simp at h
theorem levelsL_bound (s : List UInt8) : (levelsL s).length <= s.length + 1 /\ ∀ x ∈ levelsL s, x.length <= s.length := by
 rw [<- levelsL_eq]
 refine ⟨by simpa using levelsB_len s, fun x hx => ?_⟩
 obtain ⟨y, hy, rfl⟩ := List.mem_map.1 hx
 exact levelsB_size s y hy
theorem lvl_L (s : List UInt8) (k : Nat) (hk : k < (levelsB s).length) : (levelsL s)[k]? = some (lvl (levelsB s) k).data.toList := by
 rw [<- levelsL_eq, List.getElem?_map]
 unfold lvl
 rw [List.getElem?_eq_getElem hk]
 rfl
end
section
theorem eStr : ElemT Tryz.prog 73 9 (.string ⟨#[]⟩) 1 16 := ⟨Tryz.underlying73, by kernel_rfl, by kernel_rfl⟩
def wStr (b : List UInt8) : Value := .string ⟨b.toArray⟩
end
section
theorem r13_Levels (s : List UInt8) (w : World) (hs : s.length <= 1000000) :
  Calls Tryz.prog 67 #[.string ⟨s.toArray⟩] w fun e w' => ∃ v, e = .returned v /\ w'.ownsRow w.heap.size 9 1 v (levelsL s).length ((levelsL s).map wStr) /\ Below w.heap.size w w' := by
 have hsz : ByteArray.size ⟨s.toArray⟩ = s.length := by simp [ByteArray.size]
 have h0 : Hid ((w.alloc (.cells #[.string ⟨#[]⟩] 9)).ownsRow w.heap.size 9 1 (.slice (some ⟨w.heap.size, 0, none⟩) 1 1) (levelsL (s.take 0)).length ((levelsL (s.take 0)).map wStr)) := hid (World.ownsRow_lit w #[.string ⟨#[]⟩] 1 (Nat.le_refl _) (by decide) rfl)
 have hb0 := hid ((Below.refl w.heap.size w).alloc (Nat.le_refl _) (.cells #[.string ⟨#[]⟩] 9))
 go_enter Tryz.func67, Tryz.ntmps67
 go_wp2
 go_loopw [3, 4] (fun v i wr => ∃ k : Nat, i = .int .i64 k /\ k <= s.length /\ Hid (wr.ownsRow w.heap.size 9 1 v (levelsL (s.take k)).length ((levelsL (s.take k)).map wStr)) /\ Hid (Below w.heap.size w wr)) (fun _ i _ => s.length - (intOf i).toNat)
 case atStart => exact ⟨0, rfl, Nat.zero_le _, h0, hb0⟩
 case round =>
  obtain ⟨k, rfl, hk, hr, hb⟩ := hrel
  rcases Nat.lt_or_ge k s.length with hlt | hge
  ·have dk : decide ((k : Int) < (s.length : Int)) = true := decide_eq_true (by omega)
   obtain ⟨b, hsb⟩ : ∃ b, s[k]? = some b := ⟨_, List.getElem?_eq_getElem hlt⟩
   have hstep := levelsL_take s k b hsb
   have hbd := levelsL_bound (s.take k)
   have hne := levelsL_ne (s.take k)
   obtain ⟨a, c, hv⟩ := own_slice hr.out
   subst hv
   have hix : ∀ h, (⟨s.toArray⟩ : ByteArray)[k]'h = b := fun h => by
    have : s[k]'hlt = b := (List.getElem?_eq_some_iff.1 hsb).2
    exact this
   have hbl := hbd.1
   rw [List.length_take] at hbl
   have hstep := hid hstep;have hne := hid hne;have hbx := hid hbd.2;have hsz := hid hsz;clear hbd;obtain ⟨ls, hls⟩ : ∃ ls, levelsL (s.take k) = ls := ⟨_, rfl⟩
   rw [hls] at hr hbl hstep hne hbx ⊢
   have hls := hid hls;by_cases h47 : b = 47
   ·have e1 : (((b.toNat : Nat) : Int) == 47) = true := by rw [h47]; rfl
    go_wp2_with (at_builtin; refine append_grp rfl _ _ rfl eStr (by decide) w.heap.size _ _ _ rfl (ownsRow_below hr.out ((Below.refl wr.heap.size wr).alloc (Nat.le_refl _) (.cells #[.string ⟨#[]⟩] 9))) wr.heap.size [.string ⟨#[]⟩] 9 rfl (Blk.new wr _ _) rfl (by simp [Value.oneCell']) (by omega) (by omega) (by have := hb.out.size; simp; omega) ?_; intro v4 w4 r4 g4 n4; have r4 := hid r4; have hb4 := hid ((hb.out.alloc hb.out.size (.cells #[.string ⟨#[]⟩] 9)).grown g4 (by have := hb.out.size; simp; omega) (fun j e => (hr.out.lt j e).1)))
    go_roundw
    case rel =>
     refine ⟨k + 1, by go_num, by omega, ?_, hb4⟩
     rw [hstep.out]
     unfold lvlStep
     rw [if_pos h47]
     exact hid (by simpa [wStr] using r4.out)
    case measure => simp [intOf]; omega
   ·have e1 : (((b.toNat : Nat) : Int) == 47) = false := by
     rw [beq_eq_false_iff_ne]
     intro h
     exact h47 (UInt8.toNat_inj.1 (show b.toNat = 47 by omega))
    obtain ⟨pre, x, hpx⟩ : ∃ pre x, ls = pre ++ [x] := ⟨ls.dropLast, ls.getLast hne.out, (List.dropLast_concat_getLast hne.out).symm⟩
    subst hpx;obtain ⟨m, hm⟩ : ∃ m, pre.length = m := ⟨_, rfl⟩
    have hlen : (pre ++ [x]).length = m + 1 := by simp [hm]
    rw [hlen] at hr hbl ⊢
    obtain ⟨_, _, hve, hvc⟩ := own_cell hr.out
    obtain ⟨rfl, rfl⟩ : a = _ /\ c = _ := by simpa using hve
    obtain ⟨g, hag, hcg⟩ := hvc m (wStr x) (by simp [hm])
    subst hag;have hxl : x.length <= 1000000 := by have := hbx.out x (by simp); rw [List.length_take] at this; omega
    have hov : ¬ 9223372036854775807 < x.length + (min (k + 1) s.length - k) := by omega
    have hcat : (⟨x.toArray⟩ : ByteArray) ++ (⟨s.toArray⟩ : ByteArray).extract k (k + 1) = ⟨(x ++ [b]).toArray⟩ := by
     have he : (⟨s.toArray⟩ : ByteArray).extract k (k + 1) = ⟨[b].toArray⟩ := by
      have h1 : s.extract k (k + 1) = [b] := by
       rw [List.extract_eq_take_drop]
       have h2 := (List.getElem?_eq_some_iff.1 hsb).2
       rw [show k + 1 - k = 1 by omega, List.drop_eq_getElem_cons hlt, h2]
       rfl
      apply ByteArray.ext
      simp [ByteArray.data_extract, h1]
     rw [he, str_app]
    have hst1 := hid (hr.out.stored m (.string ⟨(x ++ [b]).toArray⟩))
    have hfz : wr.frozen? ⟨g, m, none⟩ = false := hr.out.frozenAt m
    replace hcg : wr.cell? ⟨g, m, none⟩ = some (.string ⟨x.toArray⟩) := hcg
    have hgl : w.heap.size <= g := (hr.out.lt g rfl).1
    clear hve hvc hlen;go_wp2_with fail
    refine regionQ [(17, fun w' => w'.cell? ⟨g, m, none⟩ = some (.string ⟨x.toArray⟩))] (by kernel_rfl) ⟨by go_simp, trivial⟩ fun KQ hKQ => ?_
    refine tQ [0, 1, 2, 3, 4, 5, 6, 7, 8] ?_;refine loadQ 9 rfl (by kernel_rfl) (by kernel_rfl) rfl rfl 0 rfl (by kernel_rfl) (.string ⟨x.toArray⟩) (fun w' hf => by (go_simp <;> with_reducible rfl)) ?_
    simp only [PT];refine tQ [10, 11, 12, 13, 14, 15] ?_;refine tQ [16] ?_;refine sQ 17 fun K hK => ?_;simp only [GO];go_simp;refine hK _ _ ⟨⟨(fun h => by cases h), trivial⟩, ?_⟩
    clear hK K;refine dQ (hKQ.out _ _ ?_);clear hKQ KQ;go_wp2_with fail
    go_roundw
    case rel =>
     have hB1 := Below.setCell hb.out (p := ⟨g, m, none⟩) hgl (.string ⟨(x ++ [b]).toArray⟩)
     refine ⟨k + 1, by go_num, by omega, ?_, hid hB1.drew⟩
     rw [hstep.out]
     unfold lvlStep
     rw [if_neg h47, List.dropLast_concat, List.getLast?_concat]
     have h2 := ownsRow_below hst1.out.1 ((Below.refl _ _).drew)
     have e2 : (List.map wStr (pre ++ [x])).set m (.string ⟨(x ++ [b]).toArray⟩) = List.map wStr (pre ++ [x ++ [b]]) := by
      rw [<- hm]
      simp [wStr]
     rw [e2] at h2
     have e3 : (pre ++ [(some x).getD [] ++ [b]]).length = m + 1 := by simp [hm]
     rw [e3]
     exact hid h2
    case measure => simp [intOf]; omega
  ·obtain rfl : k = s.length := by omega
   have dk : decide ((s.length : Int) < (s.length : Int)) = false := by simp
   rw [List.take_length] at hr
   go_wp2
   go_ret
   exact ⟨_, rfl, hr.out, hb.out⟩
theorem r13_Filter (s : List UInt8) (w : World) (hs : s.length <= 1000000) :
  Calls Tryz.prog 30 #[.string ⟨s.toArray⟩] w fun e w' => e = .returned (.bool (filterR s)) /\ Below w.heap.size w w' := by
 have CD := hid fun W => r13_said s W hs
 have CL := hid fun W => r13_Levels s W hs
 rcases hsd : saidR s with _ | _
 ·rw [hsd] at CD
  have hF : filterR s = false := by unfold filterR; rw [hsd, Bool.and_false]
  have hF := hid hF;go_enter Tryz.func30, Tryz.ntmps30
  go_wp2_with (go_at_call 66; refine (CD.out _).mono ?_; rintro e w1 ⟨rfl, hb1⟩)
  go_ret
  exact ⟨by rw [hF.out]; rfl, hb1⟩
 rw [hsd] at CD
 have hF : filterR s = filterL (levelsB s) (levelsB s).length := by unfold filterR; rw [hsd, Bool.and_true]
 rw [hF]
 have hlb := levelsB_len s
 have hleq := congrArg List.length (levelsL_eq s)
 rw [List.length_map] at hleq
 have hget := lvl_L s
 have hbd := levelsL_bound s
 obtain ⟨ps, hps⟩ : ∃ ps, levelsB s = ps := ⟨_, rfl⟩
 rw [hps] at hleq hget hlb ⊢
 obtain ⟨n, hn⟩ : ∃ n, ps.length = n := ⟨_, rfl⟩
 rw [hn] at hleq hget hlb ⊢
 obtain ⟨ls, hls⟩ : ∃ ls, levelsL s = ls := ⟨_, rfl⟩
 rw [hls] at hleq hget hbd CL
 have hget := hid hget;have hbd := hid hbd.2;have hn0 := hid hn;replace hleq := hid hleq.symm;clear hF hsd hps hls hn;go_enter Tryz.func30, Tryz.ntmps30
 go_wp2_with (first
  | (go_at_call 66; refine (CD.out _).mono ?_; rintro e w1 ⟨rfl, hb1⟩)
  | (go_at_call 67; refine (CL.out _).mono ?_; rintro e w2 ⟨v, rfl, hr2, hb2⟩))
 rw [hleq.out] at hr2
 have hr0 := hid (ownsRow_mono (base' := w.heap.size) hr2 hb1.size)
 have hb0 := hid (hb1.trans (hb2.mono hb1.size))
 obtain ⟨a, c, rfl⟩ := own_slice hr2
 clear hb1 hb2 hr2;go_loopw [4] (fun i wr => ∃ k : Nat, i = .int .i64 k /\ k <= n /\ filterL ps k = true /\ Hid (wr.ownsRow w.heap.size 9 1 (.slice a n c) n (ls.map wStr)) /\ Hid (Below w.heap.size w wr)) (fun i _ => n - (intOf i).toNat)
 case atStart => exact ⟨0, rfl, Nat.zero_le _, rfl, hr0, hb0⟩
 case round =>
  obtain ⟨k, rfl, hk, hfk, hr, hb⟩ := hrel
  rcases Nat.lt_or_ge k n with hlt | hge
  ·have dk : decide ((k : Int) < (n : Int)) = true := decide_eq_true (by omega)
   have hg := hget.out k hlt
   obtain ⟨l, hl⟩ : ∃ l, (lvl ps k).data.toList = l := ⟨_, rfl⟩
   have hll := hbd.out l (by rw [<- hl]; exact List.mem_of_getElem? hg)
   have hsucc := filterL_succ ps k
   have hbad := filterL_bad ps k n hlt
   rw [hl] at hg hsucc hbad
   rw [hn0.out, hfk, Bool.true_and] at hsucc
   rw [hn0.out] at hbad
   have hsg := signs_any l
   have CS := hid fun W => r13_signs l W (by omega)
   obtain ⟨_, _, hve, hvc⟩ := own_cell hr.out
   obtain ⟨rfl, rfl⟩ : a = _ /\ c = _ := by simpa using hve
   obtain ⟨g, hag, hcg⟩ := hvc k (wStr l) (by rw [List.getElem?_map, hg]; rfl)
   subst hag;unfold wStr at hcg
   obtain ⟨x, hx⟩ : ∃ x : ByteArray, (⟨l.toArray⟩ : ByteArray) = x := ⟨_, rfl⟩
   rw [hx] at hcg CS
   obtain ⟨bl, hbl⟩ : ∃ b, decide (k + 1 = n) = b := ⟨_, rfl⟩
   obtain ⟨ba, hba⟩ : ∃ b, anyR l = b := ⟨_, rfl⟩
   obtain ⟨b1', hb1⟩ : ∃ b, decide (l = [43]) = b := ⟨_, rfl⟩
   obtain ⟨b2', hb2⟩ : ∃ b, decide (l = [35]) = b := ⟨_, rfl⟩
   have e1 : b1' = true ↔ x = ⟨#[43]⟩ := by rw [<- hb1, <- hx]; simp
   have e2 : b2' = true ↔ x = ⟨#[35]⟩ := by rw [<- hb2, <- hx]; simp
   unfold lvlOK at hsucc hbad
   simp only [hbl, hba, hb1, hb2] at hsucc hbad hsg
   obtain ⟨sg, hsgv⟩ : ∃ sg, signsR l = sg := ⟨_, rfl⟩
   rw [hsgv] at hsg CS
   obtain ⟨sz, hsz⟩ : ∃ sz : Int, ((sg : Nat) : Int) = sz := ⟨_, rfl⟩
   have hsz0 : 0 <= sz := by omega
   have hsg : (sz = 0) ↔ (ba = false) := by rw [<- hsz]; cases ba <;> simp at hsg ⊢ <;> omega
   rw [hsz] at CS
   clear hsz hsgv
   have hlast : ((k : Int) == (n : Int) - 1) = bl := by
    rw [<- hbl, Bool.eq_iff_iff]; simp; omega
   clear hb1 hb2 hba hbl hve hvc hx hg hl hll;have hsucc := hid hsucc;have hbad := hid hbad;rcases ba with _ | _
   ·have dsg : decide (0 < sz) = false := decide_eq_false (by have := hsg.2 rfl; omega)
    clear hsg e1 e2;go_wp2_with (go_at_call 68; refine (CS.out _).mono ?_; rintro e w3 ⟨rfl, rfl⟩)
    go_roundw
    case rel => exact ⟨k + 1, by go_num, by omega, by rw [hsucc.out]; simp, hr, hb⟩
    case measure => simp [intOf]; omega
   ·have dsg : decide (0 < sz) = true := decide_eq_true (by have h0 : sz ≠ 0 := fun h => Bool.noConfusion (hsg.1 h); omega)
    clear hsg;rcases b1' with _ | _
    ·have h1 : ¬ x = ⟨#[43]⟩ := fun h => by have := e1.2 h; cases this
     have i1 : ¬ x.toList = [43] := fun h => h1 (toList_inj (by rw [h]; exact (ByteArray.toList_mk [43]).symm))
     have g1' : (x.toList == [43]) = false := by simpa using i1
     rcases b2' with _ | _
     ·have h2 : ¬ x = ⟨#[35]⟩ := fun h => by have := e2.2 h; cases this
      have i2 : ¬ x.toList = [35] := fun h => h2 (toList_inj (by rw [h]; exact (ByteArray.toList_mk [35]).symm))
      have g2' : (x.toList == [35]) = false := by simpa using i2
      clear e1 e2;go_wp2_with (go_at_call 68; refine (CS.out _).mono ?_; rintro e w3 ⟨rfl, rfl⟩)
      go_ret
      exact ⟨by rw [hbad.out rfl]; rfl, hb.out⟩
     ·have h2 := e2.1 rfl
      clear e1 e2 h1 i1 g1';subst h2;rcases bl with _ | _
      ·skip
       go_wp2_with (go_at_call 68; refine (CS.out _).mono ?_; rintro e w3 ⟨rfl, rfl⟩)
       go_ret
       exact ⟨by rw [hbad.out rfl]; rfl, hb.out⟩
      ·skip
       go_wp2_with (go_at_call 68; refine (CS.out _).mono ?_; rintro e w3 ⟨rfl, rfl⟩)
       go_roundw
       case rel => exact ⟨k + 1, by go_num, by omega, by rw [hsucc.out]; simp, hr, hb⟩
       case measure => simp [intOf]; omega
    ·have h1 := e1.1 rfl
     clear e1 e2;subst h1;go_wp2_with (go_at_call 68; refine (CS.out _).mono ?_; rintro e w3 ⟨rfl, rfl⟩)
     go_roundw
     case rel => exact ⟨k + 1, by go_num, by omega, by rw [hsucc.out]; simp, hr, hb⟩
     case measure => simp [intOf]; omega
  ·obtain rfl : k = n := by omega
   have dk : decide ((k : Int) < (k : Int)) = false := by simp
   go_wp2
   go_ret
   exact ⟨by rw [hfk]; rfl, hb.out⟩
end
section
open Go.RowKit Go.Shelf Go.MapKept Go.ChangeMaps
def wkey (s : List UInt8) : Value := .string ⟨s.toArray⟩
theorem wkey_inj {a b : List UInt8} (h : wkey a = wkey b) : a = b := by simpa [wkey] using h
abbrev WL := List (List UInt8 × Int)
structure WM (w : World) (b : Nat) (l : WL) : Prop where
 out : ∃ es clock, w.heap[b]? = some (.map es clock) /\ es.toList.map (fun e => (e.key, e.val)) = l.map (fun p => (wkey p.1, Value.int .i64 p.2))
 nodup : (l.map Prod.fst).Nodup
 st : ∀ es clock, w.heap[b]? = some (.map es clock) -> Stamped es clock
def look (l : WL) (k : List UInt8) : Option Int := (l.find? fun p => decide (p.1 = k)).map Prod.snd
def ins (l : WL) (k : List UInt8) (v : Int) : WL := if (look l k).isSome then l.map (fun p => if p.1 = k then (p.1, v) else p) else l ++ [(k, v)]
def del (l : WL) (k : List UInt8) : WL := l.filter fun p => decide (p.1 ≠ k)
theorem look_none {l : WL} {k : List UInt8} : look l k = none ↔ ∀ p ∈ l, p.1 ≠ k := by
 simp [look]
theorem look_some {l : WL} {k : List UInt8} {v : Int} (hn : (l.map Prod.fst).Nodup) : look l k = some v ↔ (k, v) ∈ l := by
 induction l with
 | nil => simp [look]
 | cons p l ih =>
  simp only [List.map_cons, List.nodup_cons] at hn
  by_cases h : p.1 = k
  ·subst h
   simp only [look, List.find?_cons, decide_true, Option.map_some, Option.some.injEq, List.mem_cons]
   constructor
   ·rintro rfl; exact .inl rfl
   ·rintro (h | h)
    ·rw [<- h]
    ·exact absurd (List.mem_map_of_mem (f := Prod.fst) h) hn.1
  ·have e : look (p :: l) k = look l k := by simp [look, List.find?_cons, h]
   rw [e, ih hn.2]
   simp only [List.mem_cons]
   constructor
   ·exact .inr
   ·rintro (h' | h')
    ·subst h'; exact absurd rfl h
    ·exact h'
theorem WM.lt {w : World} {b : Nat} {l : WL} (h : WM w b l) : b < w.heap.size := by
 obtain ⟨⟨es, clock, hb, _⟩, _, _⟩ := h
 exact (Array.getElem?_eq_some_iff.1 hb).1
theorem WM.keep {w w' : World} {b : Nat} {l : WL} (h : WM w b l) (hk : w'.heap[b]? = w.heap[b]?) : WM w' b l := by
 obtain ⟨⟨es, clock, hb, he⟩, hn, hs⟩ := h
 exact ⟨⟨es, clock, hk.trans hb, he⟩, hn, fun es clock h => hs es clock (hk.symm.trans h)⟩
theorem WM.below {w w' : World} {b : Nat} {l : WL} (h : WM w b l) (hb : Below w.heap.size w w') : WM w' b l := h.keep (hb.block _ h.lt)
theorem WM.wrote {w w' : World} {M : List Nat} {b : Nat} {l : WL} (h : WM w b l) (hb : Wrote M w w') (hM : b ∉ M) : WM w' b l := h.keep (hb.block _ h.lt hM)
theorem WM.alloc {w : World} {b : Nat} {l : WL} (h : WM w b l) (o : Obj) : WM (w.alloc o) b l := h.below ((Below.refl _ w).alloc (Nat.le_refl _) o)
theorem WM.new (w : World) : WM (w.alloc (.map #[] 0)) w.heap.size [] := ⟨⟨#[], 0, World.alloc_heap_new w _, rfl⟩, List.nodup_nil, fun es clock h => by rw [World.alloc_heap_new] at h; cases h; exact stamped_empty 0⟩
theorem entries_get {es : List MapEntry} {l : WL} (he : es.map (fun e => (e.key, e.val)) = l.map (fun p => (wkey p.1, Value.int .i64 p.2))) {j : Nat} {e : MapEntry} (hj : es[j]? = some e) :
  ∃ p, l[j]? = some p /\ e.key = wkey p.1 /\ e.val = .int .i64 p.2 := by
 have h1 : (es.map (fun e => (e.key, e.val)))[j]? = some (e.key, e.val) := by simp [hj]
 rw [he] at h1
 simp only [List.getElem?_map, Option.map_eq_some_iff, Prod.mk.injEq] at h1
 obtain ⟨p, hp, h2, h3⟩ := h1
 exact ⟨p, hp, h2.symm, h3.symm⟩
theorem entries_mem {es : List MapEntry} {l : WL} (he : es.map (fun e => (e.key, e.val)) = l.map (fun p => (wkey p.1, Value.int .i64 p.2))) {e : MapEntry} (hj : e ∈ es) :
  ∃ p ∈ l, e.key = wkey p.1 /\ e.val = .int .i64 p.2 := by
 obtain ⟨j, hj⟩ := List.getElem?_of_mem hj
 obtain ⟨p, hp, h⟩ := entries_get he hj
 exact ⟨p, List.mem_of_getElem? hp, h⟩
theorem entries_key {es : List MapEntry} {l : WL} (he : es.map (fun e => (e.key, e.val)) = l.map (fun p => (wkey p.1, Value.int .i64 p.2))) : ∀ x ∈ es, IsKey .string x.key := by
 intro x hx
 obtain ⟨p, _, h, _⟩ := entries_mem he hx
 rw [h]; simp [wkey, IsKey]
theorem find_entry {es : List MapEntry} {l : WL} (he : es.map (fun e => (e.key, e.val)) = l.map (fun p => (wkey p.1, Value.int .i64 p.2))) (hn : (l.map Prod.fst).Nodup) (k : List UInt8) :
  (look l k = none /\ Instr.findNow .string (wkey k) es 0 = some none) \/
  ∃ j v, look l k = some v /\ Instr.findNow .string (wkey k) es 0 = some (some (j, .int .i64 v)) /\ ∃ e, es[j]? = some e /\ e.key = wkey k := by
 rcases findNow_spec (d := .string) (k := wkey k) (by simp [wkey, IsKey]) es 0 (entries_key he) with ⟨h1, h2⟩ | ⟨j, e, h1, h2, h3⟩
 ·refine .inl ⟨look_none.2 fun p hp hk => ?_, h1⟩
  obtain ⟨i, hi⟩ := List.getElem?_of_mem hp
  have : (es.map (fun e => (e.key, e.val)))[i]? = some (wkey p.1, Value.int .i64 p.2) := by rw [he]; simp [hi]
  simp only [List.getElem?_map, Option.map_eq_some_iff, Prod.mk.injEq] at this
  obtain ⟨e, he2, hk2, _⟩ := this
  exact h2 e (List.mem_of_getElem? he2) (by rw [hk2, hk])
 ·obtain ⟨p, hp, hk, hv⟩ := entries_get he h2
  have hpk : p.1 = k := wkey_inj (hk.symm.trans h3)
  refine .inr ⟨j, p.2, (look_some hn).2 ?_, by rw [h1, hv]; simp, e, h2, h3⟩
  have := List.mem_of_getElem? hp
  rwa [<- hpk]
theorem run_lookup_text {P : Program} (t k e : TypeId) (ht : P.underlying t = some (.map k e)) (hk : P.underlying k = some .string) {w : World} {b : Nat} {l : WL} (h : WM w b l) (hz : (zeroValue e).run P w = .ok (.int .i64 0) w) (s : List UInt8) (c : Bool) :
  (Instr.lookup t (.map (some b)) (.string ⟨s.toArray⟩) c).run P w = .ok (if c then .tuple #[.int .i64 ((look l s).getD 0), .bool (look l s).isSome] else .int .i64 ((look l s).getD 0)) w := by
 obtain ⟨⟨es, clock, hb, he⟩, hn, hs⟩ := h
 have h2 := fun z => run_checkKey (w := w) hk (k := wkey s) (by simp [wkey, IsKey]) z 9999
 rcases find_entry he hn s with ⟨hl, hf⟩ | ⟨j, v, hl, hf, _⟩
 ·have h1 := run_findKey (w := w) hk hf
  unfold wkey at h1 h2
  simp [Instr.lookup, run_underlying ht, MapKept.run_getObj_map hb, h2, h1, hz, Result.andThen, hl]
 ·have h1 := run_findKey (w := w) hk hf
  unfold wkey at h1 h2
  simp [Instr.lookup, run_underlying ht, MapKept.run_getObj_map hb, h2, h1, Result.andThen, hl]
theorem run_len_text {P : Program} (t k e : TypeId) (ht : P.underlying t = some (.map k e)) {w : World} {b : Nat} {l : WL} (h : WM w b l) (ty : TypeId) :
  (Builtin.len_ #[t] ty #[.map (some b)]).run P w = .ok (.int .i64 l.length) w := by
 obtain ⟨⟨es, clock, hb, he⟩, hn, hs⟩ := h
 have hl : es.size = l.length := by have := congrArg List.length he; simpa using this
 simp [Builtin.len_, run_underlying ht, MapKept.run_getObj_map hb, goInt, Result.andThen, hl]
theorem keys_ins (l : WL) (k : List UInt8) (v : Int) : (ins l k v).map Prod.fst = if (look l k).isSome then l.map Prod.fst else l.map Prod.fst ++ [k] := by
 unfold ins
 split
 ·rw [List.map_map]
  refine List.map_congr_left fun p _ => ?_
  simp only [Function.comp_apply]
  split <;> rfl
 ·simp
theorem nodup_ins {l : WL} (hn : (l.map Prod.fst).Nodup) (k : List UInt8) (v : Int) : ((ins l k v).map Prod.fst).Nodup := by
 rw [keys_ins]
 split
 ·exact hn
 ·rename_i h
  have : look l k = none := by simpa using h
  rw [List.nodup_append]
  refine ⟨hn, by simp, fun a ha c hc => ?_⟩
  simp at hc
  subst hc;simp only [List.mem_map] at ha
  obtain ⟨p, hp, rfl⟩ := ha
  exact look_none.1 this p hp
theorem run_insert_text {P : Program} (t k e : TypeId) (ht : P.underlying t = some (.map k e)) (hk : P.underlying k = some .string) {w : World} {b : Nat} {l : WL} (h : WM w b l) (s : List UInt8) (v : Int) :
  ∃ w', (Instr.mapUpdate t (.map (some b)) (.string ⟨s.toArray⟩) (.int .i64 v)).run P w = .ok () w' /\ WM w' b (ins l s v) /\ w.grownBy w' (some b) := by
 obtain ⟨⟨es, clock, hb, he⟩, hn, hs⟩ := h
 have h2 := run_checkKey (w := w) hk (k := wkey s) (by simp [wkey, IsKey]) false 9999
 have hlt : b < w.heap.size := (Array.getElem?_eq_some_iff.1 hb).1
 rcases find_entry he hn s with ⟨hl, hf⟩ | ⟨j, u, hl, hf, e1, hj, hkey⟩
 ·have h1 := run_findKey (w := w) hk hf
  refine ⟨setBlock w b (.map (es.push { key := wkey s, val := .int .i64 v, born := clock }) (clock + 1)), ?_, ⟨⟨es.push { key := wkey s, val := .int .i64 v, born := clock }, clock + 1, by simp [setBlock, hlt], ?_⟩, nodup_ins hn s v, fun es' clock' h' => by
   rw [show (setBlock w b (.map (es.push { key := wkey s, val := .int .i64 v, born := clock }) (clock + 1))).heap[b]? = some (.map (es.push { key := wkey s, val := .int .i64 v, born := clock }) (clock + 1)) by simp [setBlock, hlt]] at h'
   cases h'
   refine stamped_push (hs _ _ hb) fun x hx hk => ?_
   obtain ⟨p, hp, hk2⟩ := entries_mem he hx
   exact look_none.1 hl p hp (wkey_inj (hk2.1.symm.trans hk))⟩, World.mapTurned.grown ⟨es, clock, _, _, hb, rfl⟩⟩
  ·unfold wkey at h1 h2
   simp [Instr.mapUpdate, run_underlying ht, MapKept.run_getObj_map hb, h2, h1, MapKept.run_setObj_map _ hb, Result.andThen, setBlock, wkey]
  ·simp [ins, hl, he]
 ·have h1 := run_findKey (w := w) hk hf
  have hj' : es[j]? = some e1 := by simpa using hj
  refine ⟨setBlock w b (.map (es.modify j fun e => { e with key := wkey s, val := .int .i64 v }) clock), ?_, ⟨⟨es.modify j fun e => { e with key := wkey s, val := .int .i64 v }, clock, by simp [setBlock, hlt], ?_⟩, nodup_ins hn s v, fun es' clock' h' => by
   rw [show (setBlock w b (.map (es.modify j fun e => { e with key := wkey s, val := .int .i64 v }) clock)).heap[b]? = some (.map (es.modify j fun e => { e with key := wkey s, val := .int .i64 v }) clock) by simp [setBlock, hlt]] at h'
   cases h'
   refine stamped_modify (hs _ _ hb) j _ (fun _ _ => rfl) fun x hx hxj => ?_
   rw [hj'] at hxj
   cases hxj
   exact hkey.symm⟩, World.mapTurned.grown ⟨es, clock, _, _, hb, rfl⟩⟩
  ·have hsb : Instr.sameBits 10000 (.string ⟨s.toArray⟩) (.string ⟨s.toArray⟩) = true := by
    simp only [Instr.sameBits]
    exact (bytes_beq _ _).2 rfl
   unfold wkey at h1 h2 hkey
   simp [Instr.mapUpdate, run_underlying ht, MapKept.run_getObj_map hb, h2, h1, MapKept.run_setObj_map _ hb, Result.andThen, setBlock, wkey, hj', hkey, Instr.keyThatStays, hsb]
  ·have hlen : es.toList.length = l.length := by have := congrArg List.length he; simpa using this
   have hins : ins l s v = l.map (fun p => if p.1 = s then (p.1, v) else p) := by simp [ins, hl]
   rw [hins, List.map_map]
   apply List.ext_getElem?
   intro i
   simp only [Array.toList_modify, List.getElem?_map, List.getElem?_modify]
   cases hi : es.toList[i]? with
   | none =>
    have : l[i]? = none := by rw [List.getElem?_eq_none_iff] at hi ⊢; omega
    simp [this]
   | some e =>
    obtain ⟨p, hp, hk3, hv3⟩ := entries_get he hi
    rw [hp]
    by_cases hij : j = i
    ·subst hij
     rw [hj] at hi
     cases hi
     have hpk : p.1 = s := wkey_inj (hk3.symm.trans hkey)
     simp [hpk]
    ·have hpk : p.1 ≠ s := fun hps => by
      obtain ⟨p1, hp1, hk4, _⟩ := entries_get he hj
      have : p1.1 = s := wkey_inj (hk4.symm.trans hkey)
      have h4 : (l.map Prod.fst)[j]? = some s := by simp [hp1, this]
      have h5 : (l.map Prod.fst)[i]? = some s := by simp [hp, hps]
      exact hij ((List.getElem?_inj (List.getElem?_eq_some_iff.1 h4).1 hn).1 (h4.trans h5.symm))
     simp [hij, hpk, hk3, hv3]
end
section
theorem wrote_more {M M' : List Nat} {w w' : World} (h : Wrote M w w') (hs : ∀ x, x ∈ M -> x ∈ M') : Wrote M' w w' := ⟨h.os, h.tape, h.output, h.size, fun i hi hm => h.block i hi (fun hx => hm (hs i hx))⟩
structure WillV where
 topic : List UInt8
 body : List UInt8
 qos : Int
 retain : Bool
def WillV.vals (v : WillV) : Array Value := #[.string ⟨v.topic.toArray⟩, .string ⟨v.body.toArray⟩, .int .i64 v.qos, .bool v.retain]
def noWill : WillV := ⟨[], [], 0, false⟩
structure XS where
 most : Int
 subs : Int
 o : OS
 ids : List Nat
 wants : WL
 clean : Bool
 on : Bool
 keep : Int
 heard : Int
 will : Option WillV
structure XLay where
 p : Nat
 o : Lay
 ib : Nat
 sb : Nat
 m : Nat
 wv : Option Nat
 W : Nat -> Nat
def XLay.own (S : XLay) : List Nat := S.p :: S.ib :: S.sb :: S.m :: S.wv.toList
def XLay.foot (S : XLay) : List Nat := S.own ++ S.o.foot
def ptrO (b : Option Nat) : Value := .pointer (b.map fun b => ⟨b, 0, none⟩)
def XLay.cells (S : XLay) (x : XS) : Array Value := #[.pointer (some ⟨S.o.p, 0, none⟩), .int .i64 x.o.window, .int .i64 x.o.room, .int .i64 x.most, .int .i64 x.subs, .pointer (some ⟨S.ib, 0, none⟩), .map (some S.m), .bool x.clean, .bool x.on, .int .i64 x.keep, .int .i64 x.heard, ptrO S.wv]
def WillAt (w : World) : Option Nat -> Option WillV -> Prop
 | none, none => True
 | some b, some v => Blk w b v.vals 67
 | _, _ => False
theorem WillAt.keep {w w' : World} {b : Option Nat} {v : Option WillV} (h : WillAt w b v) (hk : ∀ x ∈ b.toList, w'.heap[x]? = w.heap[x]?) : WillAt w' b v := by
 cases b <;> cases v <;> simp only [WillAt] at h ⊢
 exact Blk.keep h (hk _ (by simp))
theorem WillAt.lt {w : World} {b : Option Nat} {v : Option WillV} (h : WillAt w b v) : ∀ x ∈ b.toList, x < w.heap.size := by
 cases b <;> cases v <;> simp only [WillAt] at h <;> simp
 exact Blk.lt h
structure XS.OK (x : XS) : Prop where
 most : 1 <= x.most /\ x.most <= 1000
 subs : 1 <= x.subs /\ x.subs <= 100
 ids : ∀ i ∈ x.ids, 1 <= i /\ i <= 65535
 under : (x.ids.length : Int) <= x.most
 wants : (x.wants.length : Int) <= x.subs
 keep : 0 <= x.keep /\ x.keep <= 65535
structure XB (w : World) (B : Nat) (S : XLay) (x : XS) : Prop where
 box : Blk w S.p (S.cells x) 132
 ob : OB w B S.o x.o [] []
 nil : S.o.vp = .slice none 0 0 /\ S.o.vc = .slice none 0 0
 inb : Inb w S.ib S.sb x.most S.W
 set : SetIs S.W x.ids
 wm : WM w S.m x.wants
 will : WillAt w S.wv x.will
 apart : ∀ b ∈ S.own, b ∉ S.o.foot
 nodup : S.own.Nodup
 gg : 1 ∉ S.own
 ok : x.OK
theorem XB.lt {w : World} {B : Nat} {S : XLay} {x : XS} (h : XB w B S x) : ∀ b ∈ S.foot, b < w.heap.size := by
 intro b hb
 simp only [XLay.foot, XLay.own, List.cons_append, List.mem_cons, List.mem_append] at hb
 rcases hb with rfl | rfl | rfl | rfl | hb | hb
 ·exact h.box.lt
 ·exact h.inb.box.lt
 ·exact h.inb.set.lt
 ·exact h.wm.lt
 ·exact h.will.lt b hb
 ·exact h.ob.lt b hb
theorem XB.out {w w' : World} {B : Nat} {S : XLay} {x : XS} (h : XB w B S x) {M : List Nat} (hw : Wrote M w w') (hM : ∀ b ∈ M, b ∉ S.foot) (hg : 1 ∉ M) : XB w' B S x := by
 have k : ∀ b ∈ S.own, w'.heap[b]? = w.heap[b]? := fun b hb => hw.block b (h.lt b (List.mem_append_left _ hb)) (fun hm => hM b hm (List.mem_append_left _ hb))
 refine ⟨h.box.keep (k _ (by simp [XLay.own])), h.ob.out hw (fun b hb hf => hM b hb (List.mem_append_right _ hf)) hg, h.nil, ⟨h.inb.box.keep (k _ (by simp [XLay.own])), h.inb.set.keep (k _ (by simp [XLay.own]))⟩, h.set, h.wm.keep (k _ (by simp [XLay.own])), h.will.keep (fun b hb => k b ?_), h.apart, h.nodup, h.gg, h.ok⟩
 simp only [XLay.own, List.mem_cons]
 exact .inr (.inr (.inr (.inr hb)))
theorem XB.below {w w' : World} {B : Nat} {S : XLay} {x : XS} (h : XB w B S x) (hb : Below w.heap.size w w') : XB w' B S x := h.out (Wrote.of_below (M := []) hb) (by simp) (by simp)
theorem XB.alloc {w : World} {B : Nat} {S : XLay} {x : XS} (h : XB w B S x) (o : Obj) : XB (w.alloc o) B S x := h.below ((Below.refl _ _).alloc (Nat.le_refl _) o)
theorem XB.drew {w : World} {B : Nat} {S : XLay} {x : XS} (h : XB w B S x) : XB w.drew B S x := h.below (Below.refl _ w).drew
end
section
theorem ses_none {w : World} {B : Nat} {S : XLay} {x : XS} (h : XB w B S x) :
  Calls Tryz.prog 60 #[.pointer (some ⟨S.p, 0, none⟩)] w fun e w' => e = .returned (.bool false) /\ w = w' := by
 have k0 : w.cell? ⟨S.p, 0, none⟩ = some (.pointer (some ⟨S.o.p, 0, none⟩)) := h.box.cell 0
 go_enter Tryz.func60, Tryz.ntmps60
 go_wp2
 go_ret
 exact ⟨rfl, rfl⟩
theorem ses_IsOn {w : World} {B : Nat} {S : XLay} {x : XS} (h : XB w B S x) :
  Calls Tryz.prog 38 #[.pointer (some ⟨S.p, 0, none⟩)] w fun e w' => e = .returned (.bool x.on) /\ w = w' := by
 have k0 : w.cell? ⟨S.p, 8, none⟩ = some (.bool x.on) := h.box.cell 8
 have CN := hid (ses_none h)
 go_enter Tryz.func38, Tryz.ntmps38
 go_wp2_with (go_at_call 60; refine CN.out.mono ?_; rintro e w1 ⟨rfl, rfl⟩)
 go_ret
 exact ⟨rfl, rfl⟩
theorem ses_Clean {w : World} {B : Nat} {S : XLay} {x : XS} (h : XB w B S x) :
  Calls Tryz.prog 39 #[.pointer (some ⟨S.p, 0, none⟩)] w fun e w' => e = .returned (.bool x.clean) /\ w = w' := by
 have k0 : w.cell? ⟨S.p, 7, none⟩ = some (.bool x.clean) := h.box.cell 7
 have CN := hid (ses_none h)
 go_enter Tryz.func39, Tryz.ntmps39
 go_wp2_with (go_at_call 60; refine CN.out.mono ?_; rintro e w1 ⟨rfl, rfl⟩)
 go_ret
 exact ⟨rfl, rfl⟩
theorem XB.rebox {w w' : World} {B : Nat} {S : XLay} {x : XS} (h : XB w B S x) (wv : Option Nat) (clean on : Bool) (keep heard : Int) (will : Option WillV) (hk : 0 <= keep /\ keep <= 65535)
  (hw : Wrote [S.p] w w') (hbox : Blk w' S.p (XLay.cells { S with wv := wv } { x with clean := clean, on := on, keep := keep, heard := heard, will := will }) 132)
  (hwill : WillAt w' wv will) (hwv : ∀ b ∈ wv.toList, b ∈ S.wv.toList \/ w.heap.size <= b) :
  XB w' B { S with wv := wv } { x with clean := clean, on := on, keep := keep, heard := heard, will := will } := by
 have hgl := h.ob.tz.lt
 have hgg := h.gg
 have nd := h.nodup
 have hlt := h.lt
 have hap := h.apart
 have hol := h.ob.lt
 simp only [XLay.own, List.mem_cons, not_or, List.nodup_cons] at hgg nd hap
 have l1 := h.box.lt; have l2 := h.inb.box.lt; have l3 := h.inb.set.lt; have l4 := h.wm.lt
 have m1 := nd.1; have m2 := nd.2.1; have m3 := nd.2.2.1; have m4 := nd.2.2.2.1
 have ho : S.p ∉ S.o.foot := hap _ (.inl rfl)
 refine ⟨hbox, h.ob.out hw (by simpa using ho) (by simpa using hgg.1), h.nil, ⟨h.inb.box.wrote hw (by simp; exact fun e => m1.1 e.symm), h.inb.set.wrote hw (by simp; exact fun e => m1.2.1 e.symm)⟩, h.set, h.wm.wrote hw (by simp; exact fun e => m1.2.2.1 e.symm), hwill, ?_, ?_, ?_, ?_⟩
 ·intro b hb hf
  simp only [XLay.own, List.mem_cons] at hb
  rcases hb with hb | hb | hb | hb | hb
  ·exact hap b (.inl hb) hf
  ·exact hap b (.inr (.inl hb)) hf
  ·exact hap b (.inr (.inr (.inl hb))) hf
  ·exact hap b (.inr (.inr (.inr (.inl hb)))) hf
  ·rcases hwv b hb with h1 | h1
   ·exact hap b (.inr (.inr (.inr (.inr h1)))) hf
   ·have := hol b hf; omega
 ·simp only [XLay.own, List.nodup_cons, List.mem_cons, not_or]
  have n : ∀ c, c < w.heap.size -> c ∉ S.wv.toList -> c ∉ wv.toList := fun c hc hn hm => (hwv c hm).elim hn (fun hg => by omega)
  exact ⟨⟨m1.1, m1.2.1, m1.2.2.1, n _ l1 m1.2.2.2⟩, ⟨m2.1, m2.2.1, n _ l2 m2.2.2⟩, ⟨m3.1, n _ l3 m3.2⟩, n _ l4 m4, by cases wv <;> simp⟩
 ·simp only [XLay.own, List.mem_cons, not_or]
  exact ⟨hgg.1, hgg.2.1, hgg.2.2.1, hgg.2.2.2.1, fun hm => (hwv _ hm).elim hgg.2.2.2.2 (fun hg => by omega)⟩
 ·exact ⟨h.ok.most, h.ok.subs, h.ok.ids, h.ok.under, h.ok.wants, hk⟩
theorem ses_Heard {w : World} {B : Nat} {S : XLay} {x : XS} (h : XB w B S x) (now : Int) :
  Calls Tryz.prog 25 #[.pointer (some ⟨S.p, 0, none⟩), .int .i64 now] w fun e w' => e = .returned (.int .i64 (if now < 0 then 2 else 0)) /\
   XB w' B S { x with heard := if 0 <= now /\ x.on = true then now else x.heard } /\ Stp S.foot S.foot w w' := by
 obtain ⟨most, subs, o, ids, wants, clean, on, keep, heard, will⟩ := x
 have k0 : w.cell? ⟨S.p, 8, none⟩ = some (.bool on) := h.box.cell 8
 have CN := hid (ses_none h)
 have H := hid h;have hfz := h.box.frozen 10
 have k10 : w.cell? ⟨S.p, 10, none⟩ = some (.int .i64 heard) := h.box.cell 10
 rcases Int.lt_or_le now 0 with hn | hn
 ·have d1 : decide (now < 0) = true := decide_eq_true hn
  go_enter Tryz.func25, Tryz.ntmps25
  go_wp2_with (go_at_call 60; refine CN.out.mono ?_; rintro e w1 ⟨rfl, rfl⟩)
  go_ret
  exact ⟨rfl, H.out, Stp.refl _ _⟩
 ·have d1 : decide (now < 0) = false := decide_eq_false (by omega)
  cases on with
  | false =>
   go_enter Tryz.func25, Tryz.ntmps25
   go_wp2_with (go_at_call 60; refine CN.out.mono ?_; rintro e w1 ⟨rfl, rfl⟩)
   go_ret
   exact ⟨rfl, H.out, Stp.refl _ _⟩
  | true =>
   go_enter Tryz.func25, Tryz.ntmps25
   go_wp2_with (go_at_call 60; refine CN.out.mono ?_; rintro e w1 ⟨rfl, rfl⟩)
   go_ret
   have hw : Wrote [S.p] w (w.setCell ⟨S.p, 10, none⟩ (.int .i64 now)) := Wrote.setCell _ _ (by simp) _
   refine ⟨rfl, ?_, ⟨wrote_more hw (by simp [XLay.foot, XLay.own]), fun _ h => .inl h⟩⟩
   exact H.out.rebox S.wv clean true keep now will H.out.ok.keep hw (H.out.box.set 10 _) (H.out.will.keep fun b hb => hw.block b (H.out.will.lt b hb) (by
    have := H.out.nodup
    simp only [XLay.own, List.nodup_cons, List.mem_cons, not_or] at this
    simp only [List.mem_singleton]
    rintro rfl
    exact this.1.2.2.2 hb)) (fun b hb => .inl hb)
end
end Go.Proofs.YtoinabapaeebfaaGreatDoor
