/-
  The library's contracts at this dump, laid by the kit's shelf in plain words: laysM251, laysM179, laysM180, laysSlK4.
-/
import Derived.Shelf.LaysM
import Derived.Shelf.Bytes.GrowSliceCatch
import Derived.Shelf.Bytes.GrowSlice
import Derived.Shelf.Bytes.LenAt
import Derived.Shelf.Bytes.TryGrowAt
import Derived.Shelf.Bytes.GrowRow0At
import Derived.Shelf.Bytes.GrowRowAt
import Derived.Shelf.Bytes.GrowNilAt
import Derived.Shelf.Bytes.GrowAt
import Derived.Shelf.Bytes.WriteByteAt
import Derived.Shelf.Bytes.WriteAt
import Derived.Ground.SlbCloneProg
import Derived.Shelf.Bytes.SlClone
import Derived.Test.YtohajofkflibjaaGreatDoorProg
namespace Go.Proofs
open Go.Shelf
def Tryz.laysM251_ren : Go.Shelf.Ren := ⟨fun | 251 => 71 | n => n, fun | 130 => 124 | 3 => 3 | 4 => 4 | 0 => 0 | 93 => 63 | 37 => 23 | 91 => 61 | 5 => 5 | n => n, fun | n => n⟩
theorem Tryz.laysM251 : Go.Proofs.LaysM.n251 Tryz.prog Tryz.laysM251_ren := {
  mixed := by kernel_rfl
  f251 := Tryz.func71.trans (congrArg some (by kernel_rfl))
  t0 := Tryz.underlying0
  a0 := Tryz.isAgg0
  z0 := Tryz.sizeOf0
  v0 := Tryz.zeroValue0
  t3 := Tryz.underlying3
  a3 := Tryz.isAgg3
  z3 := Tryz.sizeOf3
  v3 := Tryz.zeroValue3
  t4 := Tryz.underlying4
  a4 := Tryz.isAgg4
  z4 := Tryz.sizeOf4
  v4 := Tryz.zeroValue4
  t37 := Tryz.underlying23
  a37 := Tryz.isAgg23
  z37 := Tryz.sizeOf23
  v37 := Tryz.zeroValue23
  t93 := Tryz.underlying63
  a93 := Tryz.isAgg63
  z93 := Tryz.sizeOf63
  v93 := Tryz.zeroValue63
  t130 := Tryz.underlying124
  a130 := Tryz.isAgg124
  z130 := Tryz.sizeOf124
  v130 := Tryz.zeroValue124
  t5 := Tryz.underlying5
  a5 := Tryz.isAgg5
  z5 := Tryz.sizeOf5
  v5 := Tryz.zeroValue5
  t91 := Tryz.underlying61
  a91 := Tryz.isAgg61
  z91 := Tryz.sizeOf61
  v91 := Tryz.zeroValue61
  i0 := by kernel_rfl
  i3 := by kernel_rfl
  i4 := by kernel_rfl
  i5 := by kernel_rfl
  i37 := by kernel_rfl
  i91 := by kernel_rfl
  i93 := by kernel_rfl
  i130 := by kernel_rfl }
def Tryz.laysM179_ren : Go.Shelf.Ren := ⟨fun | 179 => 73 | 251 => 71 | 252 => 72 | 181 => 103 | 184 => 104 | 290 => 105 | 324 => 133 | n => n, fun | 130 => 124 | 5 => 5 | 75 => 67 | 0 => 0 | 93 => 63 | 91 => 61 | 3 => 3 | 131 => 125 | 4 => 4 | 37 => 23 | 20 => 20 | 80 => 241 | 9 => 9 | n => n, fun | 14 => 0 | n => n⟩
theorem Tryz.laysM179 : Go.Proofs.LaysM.n179 Tryz.prog Tryz.laysM179_ren := {
  mixed := by kernel_rfl
  f179 := Tryz.func73.trans (congrArg some (by kernel_rfl))
  f181 := Tryz.func103.trans (congrArg some (by kernel_rfl))
  f184 := Tryz.func104.trans (congrArg some (by kernel_rfl))
  f251 := Tryz.func71.trans (congrArg some (by kernel_rfl))
  f252 := Tryz.func72.trans (congrArg some (by kernel_rfl))
  f290 := Tryz.func105.trans (congrArg some (by kernel_rfl))
  f324 := Tryz.func133.trans (congrArg some (by kernel_rfl))
  t0 := Tryz.underlying0
  a0 := Tryz.isAgg0
  z0 := Tryz.sizeOf0
  v0 := Tryz.zeroValue0
  t3 := Tryz.underlying3
  a3 := Tryz.isAgg3
  z3 := Tryz.sizeOf3
  v3 := Tryz.zeroValue3
  t4 := Tryz.underlying4
  a4 := Tryz.isAgg4
  z4 := Tryz.sizeOf4
  v4 := Tryz.zeroValue4
  t5 := Tryz.underlying5
  a5 := Tryz.isAgg5
  z5 := Tryz.sizeOf5
  v5 := Tryz.zeroValue5
  t20 := Tryz.underlying20
  a20 := Tryz.isAgg20
  z20 := Tryz.sizeOf20
  v20 := Tryz.zeroValue20
  t37 := Tryz.underlying23
  a37 := Tryz.isAgg23
  z37 := Tryz.sizeOf23
  v37 := Tryz.zeroValue23
  t75 := Tryz.underlying67
  a75 := Tryz.isAgg67
  z75 := Tryz.sizeOf67
  v75 := Tryz.zeroValue67
  t91 := Tryz.underlying61
  a91 := Tryz.isAgg61
  z91 := Tryz.sizeOf61
  v91 := Tryz.zeroValue61
  t93 := Tryz.underlying63
  a93 := Tryz.isAgg63
  z93 := Tryz.sizeOf63
  v93 := Tryz.zeroValue63
  t130 := Tryz.underlying124
  a130 := Tryz.isAgg124
  z130 := Tryz.sizeOf124
  v130 := Tryz.zeroValue124
  t131 := Tryz.underlying125
  a131 := Tryz.isAgg125
  z131 := Tryz.sizeOf125
  v131 := Tryz.zeroValue125
  g14 := by kernel_rfl
  t9 := Tryz.underlying9
  a9 := Tryz.isAgg9
  z9 := Tryz.sizeOf9
  v9 := Tryz.zeroValue9
  t80 := Tryz.underlying241
  a80 := Tryz.isAgg241
  z80 := Tryz.sizeOf241
  v80 := Tryz.zeroValue241
  i0 := by kernel_rfl
  i3 := by kernel_rfl
  i4 := by kernel_rfl
  i5 := by kernel_rfl
  i9 := by kernel_rfl
  i20 := by kernel_rfl
  i37 := by kernel_rfl
  i75 := by kernel_rfl
  i80 := by kernel_rfl
  i91 := by kernel_rfl
  i93 := by kernel_rfl
  i130 := by kernel_rfl
  i131 := by kernel_rfl
  m14 := by kernel_rfl }
def Tryz.laysM180_ren : Go.Shelf.Ren := ⟨fun | 180 => 31 | 251 => 71 | 252 => 72 | 181 => 103 | 184 => 104 | 290 => 105 | 324 => 133 | n => n, fun | 130 => 124 | 37 => 23 | 3 => 3 | 75 => 67 | 0 => 0 | 93 => 63 | 91 => 61 | 131 => 125 | 4 => 4 | 20 => 20 | 5 => 5 | 80 => 241 | 9 => 9 | n => n, fun | 14 => 0 | n => n⟩
theorem Tryz.laysM180 : Go.Proofs.LaysM.n180 Tryz.prog Tryz.laysM180_ren := {
  mixed := by kernel_rfl
  f180 := Tryz.func31.trans (congrArg some (by kernel_rfl))
  f181 := Tryz.func103.trans (congrArg some (by kernel_rfl))
  f184 := Tryz.func104.trans (congrArg some (by kernel_rfl))
  f251 := Tryz.func71.trans (congrArg some (by kernel_rfl))
  f252 := Tryz.func72.trans (congrArg some (by kernel_rfl))
  f290 := Tryz.func105.trans (congrArg some (by kernel_rfl))
  f324 := Tryz.func133.trans (congrArg some (by kernel_rfl))
  t0 := Tryz.underlying0
  a0 := Tryz.isAgg0
  z0 := Tryz.sizeOf0
  v0 := Tryz.zeroValue0
  t3 := Tryz.underlying3
  a3 := Tryz.isAgg3
  z3 := Tryz.sizeOf3
  v3 := Tryz.zeroValue3
  t4 := Tryz.underlying4
  a4 := Tryz.isAgg4
  z4 := Tryz.sizeOf4
  v4 := Tryz.zeroValue4
  t20 := Tryz.underlying20
  a20 := Tryz.isAgg20
  z20 := Tryz.sizeOf20
  v20 := Tryz.zeroValue20
  t37 := Tryz.underlying23
  a37 := Tryz.isAgg23
  z37 := Tryz.sizeOf23
  v37 := Tryz.zeroValue23
  t75 := Tryz.underlying67
  a75 := Tryz.isAgg67
  z75 := Tryz.sizeOf67
  v75 := Tryz.zeroValue67
  t91 := Tryz.underlying61
  a91 := Tryz.isAgg61
  z91 := Tryz.sizeOf61
  v91 := Tryz.zeroValue61
  t93 := Tryz.underlying63
  a93 := Tryz.isAgg63
  z93 := Tryz.sizeOf63
  v93 := Tryz.zeroValue63
  t130 := Tryz.underlying124
  a130 := Tryz.isAgg124
  z130 := Tryz.sizeOf124
  v130 := Tryz.zeroValue124
  t131 := Tryz.underlying125
  a131 := Tryz.isAgg125
  z131 := Tryz.sizeOf125
  v131 := Tryz.zeroValue125
  g14 := by kernel_rfl
  t5 := Tryz.underlying5
  a5 := Tryz.isAgg5
  z5 := Tryz.sizeOf5
  v5 := Tryz.zeroValue5
  t9 := Tryz.underlying9
  a9 := Tryz.isAgg9
  z9 := Tryz.sizeOf9
  v9 := Tryz.zeroValue9
  t80 := Tryz.underlying241
  a80 := Tryz.isAgg241
  z80 := Tryz.sizeOf241
  v80 := Tryz.zeroValue241
  i0 := by kernel_rfl
  i3 := by kernel_rfl
  i4 := by kernel_rfl
  i5 := by kernel_rfl
  i9 := by kernel_rfl
  i20 := by kernel_rfl
  i37 := by kernel_rfl
  i75 := by kernel_rfl
  i80 := by kernel_rfl
  i91 := by kernel_rfl
  i93 := by kernel_rfl
  i130 := by kernel_rfl
  i131 := by kernel_rfl
  m14 := by kernel_rfl }
def Tryz.laysSlK4_ren : Go.Shelf.Ren := ⟨fun | 4 => 35 | n => n, fun | 22 => 23 | 4 => 4 | 5 => 5 | n => n, fun | n => n⟩
theorem Tryz.laysSlK4 : Go.Proofs.SlLaysK.n4 Tryz.prog Tryz.laysSlK4_ren := {
  mixed := by kernel_rfl
  f4 := Tryz.func35.trans (congrArg some (by kernel_rfl))
  t4 := Tryz.underlying4
  a4 := Tryz.isAgg4
  z4 := Tryz.sizeOf4
  v4 := Tryz.zeroValue4
  t22 := Tryz.underlying23
  a22 := Tryz.isAgg23
  z22 := Tryz.sizeOf23
  v22 := Tryz.zeroValue23
  t5 := Tryz.underlying5
  i5 := by kernel_rfl }
end Go.Proofs




