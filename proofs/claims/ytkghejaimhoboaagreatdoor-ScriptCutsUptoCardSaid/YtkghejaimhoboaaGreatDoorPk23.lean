/- Parts of the proof of ScriptCuts: contracts of functions that it reaches, and plain lemmas. No condition of their own. -/
import Derived.Test.YtkghejaimhoboaaGreatDoorPk12
import Derived.Test.YtkghejaimhoboaaGreatDoorPk16
import Derived.Test.YtkghejaimhoboaaGreatDoorPk22
import Derived.Test.YtkghejaimhoboaaGreatDoorPk11
import Derived.Test.YtkghejaimhoboaaGreatDoorPk10
import Derived.Test.YtkghejaimhoboaaGreatDoorPk13
set_option linter.unusedSimpArgs false
set_option linter.unusedVariables false
set_option maxRecDepth 100000
set_option maxHeartbeats 8000000
namespace Go.Proofs.YtkghejaimhoboaaGreatDoor
open Go.RowKit Go.Shelf
section
structure SDid (w w' : World) (S S' : XLay) (x' : XS) (vp vc : Value) (ps : List PackV) (cs : List ChangeV) : Prop where
 xb : XB w' w'.heap.size S' x'
 p : S'.p = S.p
 stp : Stp S.foot S'.foot w w'
 packs : w'.ownsRow w.heap.size 52 24 vp ps.length (ps.flatMap PackV.cells)
 chgs : w'.ownsRow w.heap.size 430 10 vc cs.length (cs.flatMap ChangeV.cells)
 free : ∀ b ∈ blk vp ++ blk vc, b ∉ S'.foot
theorem XB.top {w : World} {B : Nat} {S : XLay} {x : XS} (h : XB w B S x) : XB w w.heap.size S x :=
 ⟨h.box, ob_rebase2 h.ob h.nil, h.nil, h.inb, h.set, h.wm, h.will, h.apart, h.nodup, h.gg, h.ok⟩
end
section
structure DV where
 vp : Value
 vc : Value
 ps : List PackV
 cs : List ChangeV
def DV.cl (d : DV) : List Value := [d.vp, d.vc]
structure DidsAt (w : World) (base g : Nat) (ds : List DV) : Prop where
 blk : Blk w g (ds.flatMap DV.cl).toArray 311
 packs : ∀ d ∈ ds, w.ownsRow base 52 24 d.vp d.ps.length (d.ps.flatMap PackV.cells)
 chgs : ∀ d ∈ ds, w.ownsRow base 430 10 d.vc d.cs.length (d.cs.flatMap ChangeV.cells)
 len : ∀ d ∈ ds, d.ps.length <= 1000000 /\ d.cs.length <= 1000000
theorem DidsAt.below {w w' : World} {base g : Nat} {ds : List DV} (h : DidsAt w base g ds) (hb : Below w.heap.size w w') : DidsAt w' base g ds :=
 ⟨h.blk.below hb, fun d hd => ownsRow_below (h.packs d hd) hb, fun d hd => ownsRow_below (h.chgs d hd) hb, h.len⟩
structure TSt (n : Nat) (w W : World) (vp vc : Value) (ps : List PackV) (cs : List ChangeV) : Prop where
 below : Below n w W
 out : Blk W (n + 1) #[vp, vc] 311
 res : Blk W n #[.slice none 0 0, .slice none 0 0] 311
 packs : W.ownsRow n 52 24 vp ps.length (ps.flatMap PackV.cells)
 chgs : W.ownsRow n 430 10 vc cs.length (cs.flatMap ChangeV.cells)
theorem DV.cllen (d : DV) : d.cl.length = 2 := rfl
end
section
theorem SDid.step {w w' w2 : World} {S S' : XLay} {x' : XS} {vp vc : Value} {ps : List PackV} {cs : List ChangeV} (d : SDid w w' S S' x' vp vc ps cs) {M : List Nat} (hw : Wrote M w' w2) (hM : ∀ b ∈ M, b ∉ S'.foot /\ b ∉ blk vp /\ b ∉ blk vc) (hg : 1 ∉ M) (hn : ∀ b ∈ M, w.heap.size <= b) :
  SDid w w2 S S' x' vp vc ps cs :=
 ⟨(d.xb.out hw (fun b hb => (hM b hb).1) hg).top, d.p, ⟨d.stp.wrote.andNew hw hn, d.stp.sub⟩, not_own d.packs hw (fun b hb => (hM b hb).2.1), not_own d.chgs hw (fun b hb => (hM b hb).2.2), d.free⟩
theorem SDid.from {w0 w w' : World} {S S' : XLay} {x' : XS} {vp vc : Value} {ps : List PackV} {cs : List ChangeV} (d : SDid w w' S S' x' vp vc ps cs) (hb : Below w0.heap.size w0 w) : SDid w0 w' S S' x' vp vc ps cs :=
 ⟨d.xb, d.p, (Stp.below hb).trans d.stp, ownsRow_mono d.packs hb.size, ownsRow_mono d.chgs hb.size, d.free⟩
end
section
open Go.RowKit Go.Shelf Go.MapKept Go.ChangeMaps
end
end Go.Proofs.YtkghejaimhoboaaGreatDoor
