/- math/bits.TrailingZeros64 by the shelf's theorem. -/
import Derived.Test.YtodbdojjllabmaaGreatDoorInB
import Derived.Shelf.Spec.TrailingZeros
namespace Go.Proofs.YtodbdojjllabmaaGreatDoor
open Go.RowKit Go.Shelf
def tzRen : Go.Shelf.Ren := ⟨fun | 29 => 117 | n => n, fun | 0 => 0 | 3 => 3 | 4 => 4 | 5 => 5 | 22 => 107 | 25 => 122 | 54 => 187 | n => n, fun | 1 => 0 | n => n⟩
theorem tzLays : Go.Proofs.Lays7.n29 Tryz.prog tzRen := {
  mixed := by kernel_rfl
  f29 := Tryz.func117.trans (congrArg some (by kernel_rfl))
  t0 := Tryz.underlying0
  a0 := Tryz.isAgg0
  z0 := Tryz.sizeOf0
  v0 := Tryz.zeroValue0
  i0 := by kernel_rfl
  t3 := Tryz.underlying3
  a3 := Tryz.isAgg3
  z3 := Tryz.sizeOf3
  v3 := Tryz.zeroValue3
  i3 := by kernel_rfl
  t4 := Tryz.underlying4
  a4 := Tryz.isAgg4
  z4 := Tryz.sizeOf4
  v4 := Tryz.zeroValue4
  i4 := by kernel_rfl
  t5 := Tryz.underlying5
  a5 := Tryz.isAgg5
  z5 := Tryz.sizeOf5
  v5 := Tryz.zeroValue5
  i5 := by kernel_rfl
  t22 := Tryz.underlying107
  a22 := Tryz.isAgg107
  z22 := Tryz.sizeOf107
  v22 := Tryz.zeroValue107
  i22 := by kernel_rfl
  t25 := Tryz.underlying122
  a25 := Tryz.isAgg122
  z25 := Tryz.sizeOf122
  v25 := Tryz.zeroValue122
  i25 := by kernel_rfl
  t54 := Tryz.underlying187
  a54 := Tryz.isAgg187
  z54 := Tryz.sizeOf187
  g1 := by kernel_rfl }
/-- The table lies in its variable. -/
def TzAt (w : World) : Prop := TabAt 0 Lib.deBruijn64tab w
theorem TzAt.keep {w w' : World} (h : TzAt w) (hk : ∀ p v, p.block = 0 → w.cell? p = some v → w'.cell? p = some v) : TzAt w' := fun j hj => hk _ _ rfl (h j hj)
theorem tz64 (x : Nat) (hx : x < 18446744073709551616) (w : World) (hT : TzAt w) :
    Calls Tryz.prog 117 #[.int .u64 x] w fun e w' => e = .returned (.int .i64 (Lib.ctz 64 x)) ∧ w' = w :=
  Any7.bits_TrailingZeros64 tzLays x hx w (fun _ => hT)
end Go.Proofs.YtodbdojjllabmaaGreatDoor
