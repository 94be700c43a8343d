/- Contracts of library functions at this dump, laid by the kit's shelf tools (lay-shelf.mjs, lay-plain.mjs); of them those that this claim uses (trimshelf.py). -/
import Derived.Ground.GgsProg
import Derived.Shelf.GgSortFunc.Insertion
import Derived.Shelf.GgSortFunc.InsertionK
import Derived.Shelf.GgSortFunc.Tiny
import Derived.Shelf.GgSortFunc.Compose
import Derived.Ground.GgtProg
import Derived.Shelf.GgSortMore.Stable
import Derived.Test.YtfimodphnfejdaaProg
namespace Go.Proofs
open Go.Shelf
def Try.laysGt8_ren : Go.Shelf.Ren := ⟨fun | 8 => 54 | 13 => 67 | 14 => 68 | 16 => 70 | 15 => 69 | 29 => 82 | 30 => 83 | 42 => 84 | 49 => 85 | n => n, fun | 20 => 20 | 26 => 50 | 36 => 72 | 0 => 0 | 38 => 74 | 42 => 78 | 3 => 3 | 4 => 4 | 47 => 88 | 17 => 17 | 33 => 69 | 34 => 70 | 89 => 103 | 12 => 12 | 56 => 95 | 82 => 96 | 5 => 5 | 83 => 97 | 84 => 98 | 85 => 99 | 86 => 100 | 87 => 101 | n => n, fun | n => n⟩
theorem Try.laysGt8 : Go.Proofs.LaysGt.n8 Try.prog Try.laysGt8_ren := {
  mixed := by kernel_rfl
  f8 := Try.func54.trans (congrArg some (by kernel_rfl))
  f13 := Try.func67.trans (congrArg some (by kernel_rfl))
  f14 := Try.func68.trans (congrArg some (by kernel_rfl))
  f15 := Try.func69.trans (congrArg some (by kernel_rfl))
  f16 := Try.func70.trans (congrArg some (by kernel_rfl))
  f29 := Try.func82.trans (congrArg some (by kernel_rfl))
  f30 := Try.func83.trans (congrArg some (by kernel_rfl))
  f42 := Try.func84.trans (congrArg some (by kernel_rfl))
  f49 := Try.func85.trans (congrArg some (by kernel_rfl))
  t0 := Try.underlying0
  a0 := Try.isAgg0
  z0 := Try.sizeOf0
  v0 := Try.zeroValue0
  i0 := by kernel_rfl
  t3 := Try.underlying3
  a3 := Try.isAgg3
  z3 := Try.sizeOf3
  v3 := Try.zeroValue3
  i3 := by kernel_rfl
  t4 := Try.underlying4
  a4 := Try.isAgg4
  z4 := Try.sizeOf4
  v4 := Try.zeroValue4
  i4 := by kernel_rfl
  t5 := Try.underlying5
  a5 := Try.isAgg5
  z5 := Try.sizeOf5
  v5 := Try.zeroValue5
  i5 := by kernel_rfl
  t12 := Try.underlying12
  a12 := Try.isAgg12
  z12 := Try.sizeOf12
  v12 := Try.zeroValue12
  i12 := by kernel_rfl
  t17 := Try.underlying17
  a17 := Try.isAgg17
  z17 := Try.sizeOf17
  v17 := Try.zeroValue17
  i17 := by kernel_rfl
  t20 := Try.underlying20
  a20 := Try.isAgg20
  z20 := Try.sizeOf20
  v20 := Try.zeroValue20
  i20 := by kernel_rfl
  t26 := Try.underlying50
  a26 := Try.isAgg50
  z26 := Try.sizeOf50
  v26 := Try.zeroValue50
  i26 := by kernel_rfl
  t33 := Try.underlying69
  a33 := Try.isAgg69
  z33 := Try.sizeOf69
  v33 := Try.zeroValue69
  i33 := by kernel_rfl
  t34 := Try.underlying70
  a34 := Try.isAgg70
  z34 := Try.sizeOf70
  v34 := Try.zeroValue70
  i34 := by kernel_rfl
  t36 := Try.underlying72
  a36 := Try.isAgg72
  z36 := Try.sizeOf72
  v36 := Try.zeroValue72
  i36 := by kernel_rfl
  t38 := Try.underlying74
  a38 := Try.isAgg74
  z38 := Try.sizeOf74
  v38 := Try.zeroValue74
  i38 := by kernel_rfl
  t42 := Try.underlying78
  a42 := Try.isAgg78
  z42 := Try.sizeOf78
  v42 := Try.zeroValue78
  i42 := by kernel_rfl
  t47 := Try.underlying88
  a47 := Try.isAgg88
  z47 := Try.sizeOf88
  v47 := Try.zeroValue88
  i47 := by kernel_rfl
  t56 := Try.underlying95
  a56 := Try.isAgg95
  z56 := Try.sizeOf95
  v56 := Try.zeroValue95
  i56 := by kernel_rfl
  t82 := Try.underlying96
  a82 := Try.isAgg96
  z82 := Try.sizeOf96
  v82 := Try.zeroValue96
  i82 := by kernel_rfl
  t83 := Try.underlying97
  a83 := Try.isAgg97
  z83 := Try.sizeOf97
  v83 := Try.zeroValue97
  i83 := by kernel_rfl
  t84 := Try.underlying98
  a84 := Try.isAgg98
  z84 := Try.sizeOf98
  v84 := Try.zeroValue98
  i84 := by kernel_rfl
  t85 := Try.underlying99
  a85 := Try.isAgg99
  z85 := Try.sizeOf99
  v85 := Try.zeroValue99
  i85 := by kernel_rfl
  t86 := Try.underlying100
  a86 := Try.isAgg100
  z86 := Try.sizeOf100
  v86 := Try.zeroValue100
  i86 := by kernel_rfl
  t87 := Try.underlying101
  a87 := Try.isAgg101
  z87 := Try.sizeOf101
  v87 := Try.zeroValue101
  i87 := by kernel_rfl
  t89 := Try.underlying103
  a89 := Try.isAgg103
  z89 := Try.sizeOf103
  v89 := Try.zeroValue103
  i89 := by kernel_rfl }

end Go.Proofs
