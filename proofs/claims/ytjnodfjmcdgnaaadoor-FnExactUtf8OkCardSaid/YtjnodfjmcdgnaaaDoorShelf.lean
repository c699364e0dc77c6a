/- The library's utf8.ValidString at this program: its contract's numbers, field by field. Conditions: none. -/
import Derived.Shelf.Unicode.ValidAny
import Derived.Test.YtjnodfjmcdgnaaaDoorProg
namespace Go.Proofs.YtjnodfjmcdgnaaaDoor
open Go.Shelf
def Tryd.laysValid_ren : Go.Shelf.Ren := ⟨fun | 196 => 6 | 259 => 7 | n => n, fun | 9 => 9 | 4 => 4 | 3 => 3 | 5 => 5 | 12 => 12 | 119 => 24 | 0 => 0 | 46 => 28 | 139 => 27 | 138 => 26 | 53 => 29 | n => n, fun | 3 => 0 | 4 => 1 | n => n⟩
theorem Tryd.laysValid : Go.Proofs.Lays.n196 Tryd.prog Tryd.laysValid_ren := {
  mixed := by kernel_rfl
  f196 := Tryd.func6.trans (congrArg some (by kernel_rfl))
  f259 := Tryd.func7.trans (congrArg some (by kernel_rfl))
  t0 := Tryd.underlying0
  a0 := Tryd.isAgg0
  z0 := Tryd.sizeOf0
  v0 := Tryd.zeroValue0
  t3 := Tryd.underlying3
  a3 := Tryd.isAgg3
  z3 := Tryd.sizeOf3
  v3 := Tryd.zeroValue3
  t4 := Tryd.underlying4
  a4 := Tryd.isAgg4
  z4 := Tryd.sizeOf4
  v4 := Tryd.zeroValue4
  t5 := Tryd.underlying5
  a5 := Tryd.isAgg5
  z5 := Tryd.sizeOf5
  v5 := Tryd.zeroValue5
  t9 := Tryd.underlying9
  a9 := Tryd.isAgg9
  z9 := Tryd.sizeOf9
  v9 := Tryd.zeroValue9
  t12 := Tryd.underlying12
  a12 := Tryd.isAgg12
  z12 := Tryd.sizeOf12
  v12 := Tryd.zeroValue12
  t46 := Tryd.underlying28
  a46 := Tryd.isAgg28
  z46 := Tryd.sizeOf28
  v46 := Tryd.zeroValue28
  t53 := Tryd.underlying29
  a53 := Tryd.isAgg29
  z53 := Tryd.sizeOf29
  v53 := Tryd.zeroValue29
  t119 := Tryd.underlying24
  a119 := Tryd.isAgg24
  z119 := Tryd.sizeOf24
  t138 := Tryd.underlying26
  a138 := Tryd.isAgg26
  z138 := Tryd.sizeOf26
  v138 := Tryd.zeroValue26
  t139 := Tryd.underlying27
  a139 := Tryd.isAgg27
  z139 := Tryd.sizeOf27
  v139 := Tryd.zeroValue27
  g3 := by kernel_rfl
  g4 := by kernel_rfl }
end Go.Proofs.YtjnodfjmcdgnaaaDoor
