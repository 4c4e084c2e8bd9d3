/-
  The library's sort at this program: the shelf's contract laid, in plain words (by the kit's lay-plain).
-/
import Derived.Test.YtepdnmaofbeeaaaDoorMb
import Derived.Shelf.SlGeneric
import Derived.Shelf.SortG.Plain
import Derived.Shelf.SortG.SortNone
import Derived.Test.YtepdnmaofbeeaaaDoorProg
/- The library's sort at this program: the shelf's contract laid, in plain words (by the kit's lay-plain). -/
namespace Go.Proofs
open Go.Shelf
def Tryd.sortLays_ren : Go.Shelf.Ren := ⟨fun | 54 => 71 | 64 => 78 | 65 => 77 | 78 => 91 | 79 => 92 | 80 => 82 | 81 => 83 | 82 => 84 | 83 => 85 | 84 => 86 | 85 => 87 | 61 => 88 | 86 => 89 | 87 => 90 | 93 => 94 | 89 => 95 | 90 => 96 | 94 => 97 | 95 => 98 | 69 => 99 | 97 => 101 | n => n, fun | 25 => 100 | 26 => 9 | 3 => 3 | 51 => 123 | 0 => 0 | 67 => 84 | 69 => 32 | 4 => 4 | 61 => 131 | 60 => 130 | 44 => 136 | 5 => 5 | 9 => 9 | 75 => 141 | 79 => 145 | 83 => 147 | 84 => 89 | n => n, fun | n => n⟩
theorem Tryd.sortLays : Go.Proofs.SlLaysN.n54 Tryd.prog Tryd.sortLays_ren := {
  mixed := by kernel_rfl
  f54 := ⟨Tryd.f71.name, by decide, Tryd.func71.trans (congrArg some (by kernel_rfl))⟩
  f61 := ⟨Tryd.f88.name, by decide, Tryd.func88.trans (congrArg some (by kernel_rfl))⟩
  f64 := Tryd.func78.trans (congrArg some (by kernel_rfl))
  f65 := ⟨Tryd.f77.name, by decide, Tryd.func77.trans (congrArg some (by kernel_rfl))⟩
  f69 := ⟨Tryd.f99.name, by decide, Tryd.func99.trans (congrArg some (by kernel_rfl))⟩
  f78 := Tryd.func91.trans (congrArg some (by kernel_rfl))
  f79 := Tryd.func92.trans (congrArg some (by kernel_rfl))
  f80 := ⟨Tryd.f82.name, by decide, Tryd.func82.trans (congrArg some (by kernel_rfl))⟩
  f81 := ⟨Tryd.f83.name, by decide, Tryd.func83.trans (congrArg some (by kernel_rfl))⟩
  f82 := ⟨Tryd.f84.name, by decide, Tryd.func84.trans (congrArg some (by kernel_rfl))⟩
  f83 := ⟨Tryd.f85.name, by decide, Tryd.func85.trans (congrArg some (by kernel_rfl))⟩
  f84 := ⟨Tryd.f86.name, by decide, Tryd.func86.trans (congrArg some (by kernel_rfl))⟩
  f85 := ⟨Tryd.f87.name, by decide, Tryd.func87.trans (congrArg some (by kernel_rfl))⟩
  f86 := ⟨Tryd.f89.name, by decide, Tryd.func89.trans (congrArg some (by kernel_rfl))⟩
  f87 := ⟨Tryd.f90.name, by decide, Tryd.func90.trans (congrArg some (by kernel_rfl))⟩
  f89 := Tryd.func95.trans (congrArg some (by kernel_rfl))
  f90 := Tryd.func96.trans (congrArg some (by kernel_rfl))
  f93 := ⟨Tryd.f94.name, by decide, Tryd.func94.trans (congrArg some (by kernel_rfl))⟩
  f94 := ⟨Tryd.f97.name, by decide, Tryd.func97.trans (congrArg some (by kernel_rfl))⟩
  f95 := ⟨Tryd.f98.name, by decide, Tryd.func98.trans (congrArg some (by kernel_rfl))⟩
  f97 := ⟨Tryd.f101.name, by decide, Tryd.func101.trans (congrArg some (by kernel_rfl))⟩
  t0 := Tryd.underlying0
  a0 := Tryd.isAgg0
  z0 := Tryd.sizeOf0
  v0 := Tryd.zeroValue0
  t3 := Tryd.underlying3
  a3 := Tryd.isAgg3
  z3 := Tryd.sizeOf3
  v3 := Tryd.zeroValue3
  t4 := Tryd.underlying4
  a4 := Tryd.isAgg4
  z4 := Tryd.sizeOf4
  v4 := Tryd.zeroValue4
  t5 := Tryd.underlying5
  a5 := Tryd.isAgg5
  z5 := Tryd.sizeOf5
  v5 := Tryd.zeroValue5
  t9 := Tryd.underlying9
  a9 := Tryd.isAgg9
  z9 := Tryd.sizeOf9
  v9 := Tryd.zeroValue9
  t25 := Tryd.underlying100
  a25 := Tryd.isAgg100
  z25 := Tryd.sizeOf100
  v25 := Tryd.zeroValue100
  t26 := Tryd.underlying9
  a26 := Tryd.isAgg9
  z26 := Tryd.sizeOf9
  v26 := Tryd.zeroValue9
  t44 := Tryd.underlying136
  a44 := Tryd.isAgg136
  z44 := Tryd.sizeOf136
  v44 := Tryd.zeroValue136
  t51 := Tryd.underlying123
  a51 := Tryd.isAgg123
  z51 := Tryd.sizeOf123
  v51 := Tryd.zeroValue123
  t60 := Tryd.underlying130
  a60 := Tryd.isAgg130
  z60 := Tryd.sizeOf130
  v60 := Tryd.zeroValue130
  t61 := Tryd.underlying131
  a61 := Tryd.isAgg131
  z61 := Tryd.sizeOf131
  v61 := Tryd.zeroValue131
  t67 := Tryd.underlying84
  a67 := Tryd.isAgg84
  z67 := Tryd.sizeOf84
  v67 := Tryd.zeroValue84
  t69 := Tryd.underlying32
  a69 := Tryd.isAgg32
  z69 := Tryd.sizeOf32
  v69 := Tryd.zeroValue32
  t75 := Tryd.underlying141
  a75 := Tryd.isAgg141
  z75 := Tryd.sizeOf141
  v75 := Tryd.zeroValue141
  t79 := Tryd.underlying145
  a79 := Tryd.isAgg145
  z79 := Tryd.sizeOf145
  v79 := Tryd.zeroValue145
  t83 := Tryd.underlying147
  a83 := Tryd.isAgg147
  z83 := Tryd.sizeOf147
  v83 := Tryd.zeroValue147
  t84 := Tryd.underlying89
  a84 := Tryd.isAgg89
  z84 := Tryd.sizeOf89
  v84 := Tryd.zeroValue89 }
end Go.Proofs
namespace Go.AM
open Go Go.Proofs
theorem sort_ok : SortOK Tryd.prog 71 :=
  ⟨fun blk off cap ss w hH hb hs => AnyG.slices_Sort_string Tryd.sortLays blk off cap ss w hH hb hs, fun p cap w => AnyG.slices_Sort_string_none Tryd.sortLays p cap w⟩
end Go.AM
