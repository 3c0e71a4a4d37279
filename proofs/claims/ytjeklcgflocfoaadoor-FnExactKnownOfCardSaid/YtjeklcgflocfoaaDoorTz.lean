/- math/bits.TrailingZeros: the shelf's contract at this program, in plain words. -/
import Derived.Shelf.Spec.TrailingZeros
import Derived.Test.YtjeklcgflocfoaaDoorProg
namespace Go.Proofs
open Go.Shelf
def Tryd.lays27_ren : Go.Shelf.Ren := ⟨fun | 27 => 126 | 28 => 149 | 29 => 150 | n => n, fun | 25 => 139 | 3 => 3 | 27 => 156 | 22 => 158 | 4 => 4 | 53 => 172 | 0 => 0 | 5 => 5 | 54 => 173 | n => n, fun | 0 => 0 | 1 => 1 | n => n⟩
theorem Tryd.lays27 : Lays7.n27 Tryd.prog Tryd.lays27_ren := {
  mixed := by kernel_rfl
  f27 := Tryd.func126.trans (congrArg some (by kernel_rfl))
  f28 := Tryd.func149.trans (congrArg some (by kernel_rfl))
  f29 := Tryd.func150.trans (congrArg some (by kernel_rfl))
  t0 := Tryd.underlying0
  a0 := Tryd.isAgg0
  z0 := Tryd.sizeOf0
  v0 := Tryd.zeroValue0
  i0 := by kernel_rfl
  t3 := Tryd.underlying3
  a3 := Tryd.isAgg3
  z3 := Tryd.sizeOf3
  v3 := Tryd.zeroValue3
  i3 := by kernel_rfl
  t4 := Tryd.underlying4
  a4 := Tryd.isAgg4
  z4 := Tryd.sizeOf4
  v4 := Tryd.zeroValue4
  i4 := by kernel_rfl
  t5 := Tryd.underlying5
  a5 := Tryd.isAgg5
  z5 := Tryd.sizeOf5
  v5 := Tryd.zeroValue5
  i5 := by kernel_rfl
  t22 := Tryd.underlying158
  a22 := Tryd.isAgg158
  z22 := Tryd.sizeOf158
  v22 := Tryd.zeroValue158
  i22 := by kernel_rfl
  t25 := Tryd.underlying139
  a25 := Tryd.isAgg139
  z25 := Tryd.sizeOf139
  v25 := Tryd.zeroValue139
  i25 := by kernel_rfl
  t27 := Tryd.underlying156
  a27 := Tryd.isAgg156
  z27 := Tryd.sizeOf156
  v27 := Tryd.zeroValue156
  i27 := by kernel_rfl
  t53 := Tryd.underlying172
  a53 := Tryd.isAgg172
  z53 := Tryd.sizeOf172
  v53 := Tryd.zeroValue172
  i53 := by kernel_rfl
  t54 := Tryd.underlying173
  a54 := Tryd.isAgg173
  z54 := Tryd.sizeOf173
  g0 := by kernel_rfl
  g1 := by kernel_rfl }
/-- math/bits.TrailingZeros under the library's table. -/
theorem Tryd.bits_TrailingZeros (x : Nat) (hx : x < 18446744073709551616) (w : World) (hT : TabAt 1 Lib.deBruijn64tab w) :
    Calls Tryd.prog 126 #[.int .u64 x] w fun e w' => e = .returned (.int .i64 (Lib.ctz 64 x)) ∧ w' = w := Any7.bits_TrailingZeros Tryd.lays27 x hx w (fun _ => hT)
end Go.Proofs
