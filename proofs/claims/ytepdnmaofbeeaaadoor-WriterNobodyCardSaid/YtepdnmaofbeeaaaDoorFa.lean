/-
  What the functions compute, part 1: types; word, crc, span, frag, name, disk, cut.
-/
import Derived.Test.YtepdnmaofbeeaaaDoorMa
import Derived.Test.YtepdnmaofbeeaaaDoorProg
import Derived.Test.YtepdnmaofbeeaaaDoorMb
import Derived.IntWalk
import Derived.Sort.KeysCollected
namespace Go.AM
open Go Go.Proofs
set_option autoImplicit false
@[go_sem] theorem ti1 : tiOf Tryd.prog 1 = some ⟨.func, 1, 8, [.v (.nilFunc)]⟩ := by kernel_rfl
@[go_sem] theorem ti2 : tiOf Tryd.prog 2 = some ⟨.int .i64, 1, 8, [.v (.int .i64 (0))]⟩ := by kernel_rfl
@[go_sem] theorem ti3 : tiOf Tryd.prog 3 = some ⟨.int .i64, 1, 8, [.v (.int .i64 (0))]⟩ := by kernel_rfl
@[go_sem] theorem ti4 : tiOf Tryd.prog 4 = some ⟨.bool, 1, 1, [.v (.bool false)]⟩ := by kernel_rfl
@[go_sem] theorem ti5 : tiOf Tryd.prog 5 = some ⟨.int .u8, 1, 1, [.v (.int .u8 (0))]⟩ := by kernel_rfl
@[go_sem] theorem ti6 : tiOf Tryd.prog 6 = some ⟨.int .u8, 1, 1, [.v (.int .u8 (0))]⟩ := by kernel_rfl
@[go_sem] theorem ti7 : tiOf Tryd.prog 7 = some ⟨.struct [(0, (1, false)), (1, (1, false)), (2, (1, false)), (3, (1, false))], 4, 24, [.v (.int .i64 (0)), .v (.int .i64 (0))] ++ [.v (.bool false)] ++ [.v (.int .u8 (0))]⟩ := by kernel_rfl
@[go_sem] theorem ti8 : tiOf Tryd.prog 8 = some ⟨.struct [(0, (1, false)), (1, (1, false)), (2, (1, false)), (3, (1, false))], 4, 24, [.v (.int .i64 (0)), .v (.int .i64 (0))] ++ [.v (.bool false)] ++ [.v (.int .u8 (0))]⟩ := by kernel_rfl
@[go_sem] theorem ti9 : tiOf Tryd.prog 9 = some ⟨.str, 1, 16, [.v (.string ⟨#[]⟩)]⟩ := by kernel_rfl
@[go_sem] theorem ti10 : tiOf Tryd.prog 10 = some ⟨.str, 1, 16, [.v (.string ⟨#[]⟩)]⟩ := by kernel_rfl
@[go_sem] theorem ti11 : tiOf Tryd.prog 11 = some ⟨.str, 1, 16, [.v (.string ⟨#[]⟩)]⟩ := by kernel_rfl
@[go_sem] theorem ti12 : tiOf Tryd.prog 12 = some ⟨.int .u64, 1, 8, [.v (.int .u64 (0))]⟩ := by kernel_rfl
@[go_sem] theorem ti13 : tiOf Tryd.prog 13 = some ⟨.struct [(0, (1, false)), (1, (1, false))], 2, 24, [.v (.string ⟨#[]⟩)] ++ [.v (.int .u64 (0))]⟩ := by kernel_rfl
@[go_sem] theorem ti14 : tiOf Tryd.prog 14 = some ⟨.struct [(0, (1, false)), (1, (1, false))], 2, 24, [.v (.string ⟨#[]⟩)] ++ [.v (.int .u64 (0))]⟩ := by kernel_rfl
@[go_sem] theorem ti15 : tiOf Tryd.prog 15 = some ⟨.ptr 151, 1, 8, [.v (.pointer none)]⟩ := by kernel_rfl
@[go_sem] theorem ti16 : tiOf Tryd.prog 16 = some ⟨.ptr 154, 1, 8, [.v (.pointer none)]⟩ := by kernel_rfl
@[go_sem] theorem ti17 : tiOf Tryd.prog 17 = some ⟨.ptr 162, 1, 8, [.v (.pointer none)]⟩ := by kernel_rfl
@[go_sem] theorem ti18 : tiOf Tryd.prog 18 = some ⟨.struct [(0, (1, false))], 1, 8, [.v (.pointer none)]⟩ := by kernel_rfl
@[go_sem] theorem ti19 : tiOf Tryd.prog 19 = some ⟨.struct [(0, (1, false))], 1, 8, [.v (.pointer none)]⟩ := by kernel_rfl
@[go_sem] theorem ti20 : tiOf Tryd.prog 20 = some ⟨.other, 1, 16, [.v (.nilIface)]⟩ := by kernel_rfl
@[go_sem] theorem ti21 : tiOf Tryd.prog 21 = some ⟨.int .i32, 1, 4, [.v (.int .i32 (0))]⟩ := by kernel_rfl
@[go_sem] theorem ti22 : tiOf Tryd.prog 22 = some ⟨.slice 5, 1, 24, [.v (.slice none 0 0)]⟩ := by kernel_rfl
@[go_sem] theorem ti23 : tiOf Tryd.prog 23 = some ⟨.func, 1, 8, [.v (.nilFunc)]⟩ := by kernel_rfl
@[go_sem] theorem ti24 : tiOf Tryd.prog 24 = some ⟨.ptr 50, 1, 8, [.v (.pointer none)]⟩ := by kernel_rfl
@[go_sem] theorem ti25 : tiOf Tryd.prog 25 = some ⟨.int .i64, 1, 8, [.v (.int .i64 (0))]⟩ := by kernel_rfl
@[go_sem] theorem ti27 : tiOf Tryd.prog 27 = some ⟨.func, 1, 8, [.v (.nilFunc)]⟩ := by kernel_rfl
@[go_sem] theorem ti28 : tiOf Tryd.prog 28 = some ⟨.func, 1, 8, [.v (.nilFunc)]⟩ := by kernel_rfl
@[go_sem] theorem ti29 : tiOf Tryd.prog 29 = some ⟨.func, 1, 8, [.v (.nilFunc)]⟩ := by kernel_rfl
@[go_sem] theorem ti30 : tiOf Tryd.prog 30 = some ⟨.func, 1, 8, [.v (.nilFunc)]⟩ := by kernel_rfl
@[go_sem] theorem ti31 : tiOf Tryd.prog 31 = some ⟨.func, 1, 8, [.v (.nilFunc)]⟩ := by kernel_rfl
@[go_sem] theorem ti32 : tiOf Tryd.prog 32 = some ⟨.int .u64, 1, 8, [.v (.int .u64 (0))]⟩ := by kernel_rfl
@[go_sem] theorem ti33 : tiOf Tryd.prog 33 = some ⟨.arr 4 3, 4, 32, List.replicate 4 (.v (.int .i64 (0)))⟩ := by kernel_rfl
@[go_sem] theorem ti34 : tiOf Tryd.prog 34 = some ⟨.struct [(0, (1, false)), (1, (1, false)), (2, (1, false)), (3, (4, true))], 7, 56, [.v (.int .u64 (0))] ++ List.replicate 6 (.v (.int .i64 (0)))⟩ := by kernel_rfl
@[go_sem] theorem ti35 : tiOf Tryd.prog 35 = some ⟨.struct [(0, (1, false)), (1, (1, false)), (2, (1, false)), (3, (4, true))], 7, 56, [.v (.int .u64 (0))] ++ List.replicate 6 (.v (.int .i64 (0)))⟩ := by kernel_rfl
@[go_sem] theorem ti36 : tiOf Tryd.prog 36 = some ⟨.func, 1, 8, [.v (.nilFunc)]⟩ := by kernel_rfl
@[go_sem] theorem ti37 : tiOf Tryd.prog 37 = some ⟨.ptr 61, 1, 8, [.v (.pointer none)]⟩ := by kernel_rfl
@[go_sem] theorem ti38 : tiOf Tryd.prog 38 = some ⟨.func, 1, 8, [.v (.nilFunc)]⟩ := by kernel_rfl
@[go_sem] theorem ti39 : tiOf Tryd.prog 39 = some ⟨.func, 1, 8, [.v (.nilFunc)]⟩ := by kernel_rfl
@[go_sem] theorem ti40 : tiOf Tryd.prog 40 = some ⟨.slice 69, 1, 24, [.v (.slice none 0 0)]⟩ := by kernel_rfl
@[go_sem] theorem ti42 : tiOf Tryd.prog 42 = some ⟨.func, 1, 8, [.v (.nilFunc)]⟩ := by kernel_rfl
@[go_sem] theorem ti43 : tiOf Tryd.prog 43 = some ⟨.func, 1, 8, [.v (.nilFunc)]⟩ := by kernel_rfl
@[go_sem] theorem ti44 : tiOf Tryd.prog 44 = some ⟨.func, 1, 8, [.v (.nilFunc)]⟩ := by kernel_rfl
@[go_sem] theorem ti46 : tiOf Tryd.prog 46 = some ⟨.func, 1, 8, [.v (.nilFunc)]⟩ := by kernel_rfl
@[go_sem] theorem ti47 : tiOf Tryd.prog 47 = some ⟨.struct [(0, (1, false)), (1, (1, false))], 2, 24, [.v (.pointer none)] ++ [.v (.string ⟨#[]⟩)]⟩ := by kernel_rfl
@[go_sem] theorem ti48 : tiOf Tryd.prog 48 = some ⟨.struct [(0, (1, false)), (1, (1, false))], 2, 24, [.v (.pointer none)] ++ [.v (.string ⟨#[]⟩)]⟩ := by kernel_rfl
@[go_sem] theorem ti49 : tiOf Tryd.prog 49 = some ⟨.struct [(0, (2, true)), (2, (1, false)), (3, (1, false)), (4, (1, false))], 5, 64, [.v (.pointer none)] ++ [.v (.string ⟨#[]⟩)] ++ [.v (.int .u64 (0))] ++ [.v (.slice none 0 0)] ++ [.v (.int .i64 (0))]⟩ := by kernel_rfl
@[go_sem] theorem ti50 : tiOf Tryd.prog 50 = some ⟨.struct [(0, (2, true)), (2, (1, false)), (3, (1, false)), (4, (1, false))], 5, 64, [.v (.pointer none)] ++ [.v (.string ⟨#[]⟩)] ++ [.v (.int .u64 (0))] ++ [.v (.slice none 0 0)] ++ [.v (.int .i64 (0))]⟩ := by kernel_rfl
@[go_sem] theorem ti51 : tiOf Tryd.prog 51 = some ⟨.slice 92, 1, 24, [.v (.slice none 0 0)]⟩ := by kernel_rfl
@[go_sem] theorem ti53 : tiOf Tryd.prog 53 = some ⟨.func, 1, 8, [.v (.nilFunc)]⟩ := by kernel_rfl
@[go_sem] theorem ti54 : tiOf Tryd.prog 54 = some ⟨.func, 1, 8, [.v (.nilFunc)]⟩ := by kernel_rfl
@[go_sem] theorem ti55 : tiOf Tryd.prog 55 = some ⟨.func, 1, 8, [.v (.nilFunc)]⟩ := by kernel_rfl
@[go_sem] theorem ti56 : tiOf Tryd.prog 56 = some ⟨.func, 1, 8, [.v (.nilFunc)]⟩ := by kernel_rfl
@[go_sem] theorem ti57 : tiOf Tryd.prog 57 = some ⟨.func, 1, 8, [.v (.nilFunc)]⟩ := by kernel_rfl
@[go_sem] theorem ti58 : tiOf Tryd.prog 58 = some ⟨.func, 1, 8, [.v (.nilFunc)]⟩ := by kernel_rfl
@[go_sem] theorem ti59 : tiOf Tryd.prog 59 = some ⟨.map 9 63, 1, 8, [.v (.map none)]⟩ := by kernel_rfl
@[go_sem] theorem ti60 : tiOf Tryd.prog 60 = some ⟨.struct [(0, (1, false)), (1, (1, false)), (2, (1, false)), (3, (1, false)), (4, (1, false)), (5, (1, false))], 6, 40, [.v (.map none)] ++ [.v (.int .i64 (0)), .v (.int .i64 (0))] ++ [.v (.bool false), .v (.bool false)] ++ [.v (.int .i64 (0))]⟩ := by kernel_rfl
@[go_sem] theorem ti61 : tiOf Tryd.prog 61 = some ⟨.struct [(0, (1, false)), (1, (1, false)), (2, (1, false)), (3, (1, false)), (4, (1, false)), (5, (1, false))], 6, 40, [.v (.map none)] ++ [.v (.int .i64 (0)), .v (.int .i64 (0))] ++ [.v (.bool false), .v (.bool false)] ++ [.v (.int .i64 (0))]⟩ := by kernel_rfl
@[go_sem] theorem ti62 : tiOf Tryd.prog 62 = some ⟨.func, 1, 8, [.v (.nilFunc)]⟩ := by kernel_rfl
@[go_sem] theorem ti63 : tiOf Tryd.prog 63 = some ⟨.ptr 67, 1, 8, [.v (.pointer none)]⟩ := by kernel_rfl
@[go_sem] theorem ti64 : tiOf Tryd.prog 64 = some ⟨.func, 1, 8, [.v (.nilFunc)]⟩ := by kernel_rfl
@[go_sem] theorem ti65 : tiOf Tryd.prog 65 = some ⟨.slice 4, 1, 24, [.v (.slice none 0 0)]⟩ := by kernel_rfl
@[go_sem] theorem ti66 : tiOf Tryd.prog 66 = some ⟨.struct [(0, (1, false)), (1, (1, false)), (2, (1, false))], 3, 72, [.v (.slice none 0 0), .v (.slice none 0 0), .v (.slice none 0 0)]⟩ := by kernel_rfl
@[go_sem] theorem ti67 : tiOf Tryd.prog 67 = some ⟨.struct [(0, (1, false)), (1, (1, false)), (2, (1, false))], 3, 72, [.v (.slice none 0 0), .v (.slice none 0 0), .v (.slice none 0 0)]⟩ := by kernel_rfl
@[go_sem] theorem ti68 : tiOf Tryd.prog 68 = some ⟨.struct [(0, (1, false)), (1, (1, false)), (2, (1, false)), (3, (1, false))], 4, 32, List.replicate 4 (.v (.int .i64 (0)))⟩ := by kernel_rfl
@[go_sem] theorem ti69 : tiOf Tryd.prog 69 = some ⟨.struct [(0, (1, false)), (1, (1, false)), (2, (1, false)), (3, (1, false))], 4, 32, List.replicate 4 (.v (.int .i64 (0)))⟩ := by kernel_rfl
@[go_sem] theorem ti70 : tiOf Tryd.prog 70 = some ⟨.func, 1, 8, [.v (.nilFunc)]⟩ := by kernel_rfl
@[go_sem] theorem ti71 : tiOf Tryd.prog 71 = some ⟨.func, 1, 8, [.v (.nilFunc)]⟩ := by kernel_rfl
@[go_sem] theorem ti72 : tiOf Tryd.prog 72 = some ⟨.func, 1, 8, [.v (.nilFunc)]⟩ := by kernel_rfl
@[go_sem] theorem ti73 : tiOf Tryd.prog 73 = some ⟨.ptr 75, 1, 8, [.v (.pointer none)]⟩ := by kernel_rfl
@[go_sem] theorem ti74 : tiOf Tryd.prog 74 = some ⟨.struct [(0, (1, false))], 1, 8, [.v (.int .i64 (0))]⟩ := by kernel_rfl
@[go_sem] theorem ti75 : tiOf Tryd.prog 75 = some ⟨.struct [(0, (1, false))], 1, 8, [.v (.int .i64 (0))]⟩ := by kernel_rfl
@[go_sem] theorem ti76 : tiOf Tryd.prog 76 = some ⟨.func, 1, 8, [.v (.nilFunc)]⟩ := by kernel_rfl
@[go_sem] theorem ti78 : tiOf Tryd.prog 78 = some ⟨.func, 1, 8, [.v (.nilFunc)]⟩ := by kernel_rfl
@[go_sem] theorem ti79 : tiOf Tryd.prog 79 = some ⟨.func, 1, 8, [.v (.nilFunc)]⟩ := by kernel_rfl
@[go_sem] theorem ti80 : tiOf Tryd.prog 80 = some ⟨.func, 1, 8, [.v (.nilFunc)]⟩ := by kernel_rfl
@[go_sem] theorem ti81 : tiOf Tryd.prog 81 = some ⟨.slice 86, 1, 24, [.v (.slice none 0 0)]⟩ := by kernel_rfl
@[go_sem] theorem ti83 : tiOf Tryd.prog 83 = some ⟨.func, 1, 8, [.v (.nilFunc)]⟩ := by kernel_rfl
@[go_sem] theorem ti84 : tiOf Tryd.prog 84 = some ⟨.int .u32, 1, 4, [.v (.int .u32 (0))]⟩ := by kernel_rfl
@[go_sem] theorem ti85 : tiOf Tryd.prog 85 = some ⟨.struct [(0, (1, false)), (1, (1, false)), (2, (1, false))], 3, 40, [.v (.int .i64 (0))] ++ [.v (.int .u32 (0))] ++ [.v (.slice none 0 0)]⟩ := by kernel_rfl
@[go_sem] theorem ti86 : tiOf Tryd.prog 86 = some ⟨.struct [(0, (1, false)), (1, (1, false)), (2, (1, false))], 3, 40, [.v (.int .i64 (0))] ++ [.v (.int .u32 (0))] ++ [.v (.slice none 0 0)]⟩ := by kernel_rfl
@[go_sem] theorem ti88 : tiOf Tryd.prog 88 = some ⟨.func, 1, 8, [.v (.nilFunc)]⟩ := by kernel_rfl
@[go_sem] theorem ti90 : tiOf Tryd.prog 90 = some ⟨.func, 1, 8, [.v (.nilFunc)]⟩ := by kernel_rfl
@[go_sem] theorem ti91 : tiOf Tryd.prog 91 = some ⟨.arr 64 5, 64, 64, List.replicate 64 (.v (.int .u8 (0)))⟩ := by kernel_rfl
@[go_sem] theorem ti92 : tiOf Tryd.prog 92 = some ⟨.arr 64 5, 64, 64, List.replicate 64 (.v (.int .u8 (0)))⟩ := by kernel_rfl
@[go_sem] theorem ti93 : tiOf Tryd.prog 93 = some ⟨.func, 1, 8, [.v (.nilFunc)]⟩ := by kernel_rfl
@[go_sem] theorem ti95 : tiOf Tryd.prog 95 = some ⟨.func, 1, 8, [.v (.nilFunc)]⟩ := by kernel_rfl
@[go_sem] theorem ti96 : tiOf Tryd.prog 96 = some ⟨.func, 1, 8, [.v (.nilFunc)]⟩ := by kernel_rfl
@[go_sem] theorem ti97 : tiOf Tryd.prog 97 = some ⟨.struct [(0, (1, false)), (1, (1, false))], 2, 16, [.v (.int .i64 (0)), .v (.int .i64 (0))]⟩ := by kernel_rfl
@[go_sem] theorem ti98 : tiOf Tryd.prog 98 = some ⟨.struct [(0, (1, false)), (1, (1, false))], 2, 16, [.v (.int .i64 (0)), .v (.int .i64 (0))]⟩ := by kernel_rfl
@[go_sem] theorem ti99 : tiOf Tryd.prog 99 = some ⟨.func, 1, 8, [.v (.nilFunc)]⟩ := by kernel_rfl
@[go_sem] theorem ti100 : tiOf Tryd.prog 100 = some ⟨.slice 9, 1, 24, [.v (.slice none 0 0)]⟩ := by kernel_rfl
@[go_sem] theorem ti101 : tiOf Tryd.prog 101 = some ⟨.func, 1, 8, [.v (.nilFunc)]⟩ := by kernel_rfl
@[go_sem] theorem ti102 : tiOf Tryd.prog 102 = some ⟨.func, 1, 8, [.v (.nilFunc)]⟩ := by kernel_rfl
@[go_sem] theorem ti103 : tiOf Tryd.prog 103 = some ⟨.func, 1, 8, [.v (.nilFunc)]⟩ := by kernel_rfl
@[go_sem] theorem ti104 : tiOf Tryd.prog 104 = some ⟨.func, 1, 8, [.v (.nilFunc)]⟩ := by kernel_rfl
@[go_sem] theorem ti106 : tiOf Tryd.prog 106 = some ⟨.func, 1, 8, [.v (.nilFunc)]⟩ := by kernel_rfl
@[go_sem] theorem ti107 : tiOf Tryd.prog 107 = some ⟨.func, 1, 8, [.v (.nilFunc)]⟩ := by kernel_rfl
@[go_sem] theorem ti108 : tiOf Tryd.prog 108 = some ⟨.func, 1, 8, [.v (.nilFunc)]⟩ := by kernel_rfl
@[go_sem] theorem ti109 : tiOf Tryd.prog 109 = some ⟨.arr 11 5, 11, 11, List.replicate 11 (.v (.int .u8 (0)))⟩ := by kernel_rfl
@[go_sem] theorem ti110 : tiOf Tryd.prog 110 = some ⟨.func, 1, 8, [.v (.nilFunc)]⟩ := by kernel_rfl
@[go_sem] theorem ti111 : tiOf Tryd.prog 111 = some ⟨.func, 1, 8, [.v (.nilFunc)]⟩ := by kernel_rfl
@[go_sem] theorem ti112 : tiOf Tryd.prog 112 = some ⟨.func, 1, 8, [.v (.nilFunc)]⟩ := by kernel_rfl
@[go_sem] theorem ti113 : tiOf Tryd.prog 113 = some ⟨.func, 1, 8, [.v (.nilFunc)]⟩ := by kernel_rfl
@[go_sem] theorem ti115 : tiOf Tryd.prog 115 = some ⟨.arr 20 5, 20, 20, List.replicate 20 (.v (.int .u8 (0)))⟩ := by kernel_rfl
@[go_sem] theorem ti116 : tiOf Tryd.prog 116 = some ⟨.func, 1, 8, [.v (.nilFunc)]⟩ := by kernel_rfl
@[go_sem] theorem ti117 : tiOf Tryd.prog 117 = some ⟨.func, 1, 8, [.v (.nilFunc)]⟩ := by kernel_rfl
@[go_sem] theorem ti118 : tiOf Tryd.prog 118 = some ⟨.func, 1, 8, [.v (.nilFunc)]⟩ := by kernel_rfl
@[go_sem] theorem ti119 : tiOf Tryd.prog 119 = some ⟨.ptr 92, 1, 8, [.v (.pointer none)]⟩ := by kernel_rfl
@[go_sem] theorem ti120 : tiOf Tryd.prog 120 = some ⟨.slice 3, 1, 24, [.v (.slice none 0 0)]⟩ := by kernel_rfl
@[go_sem] theorem ti121 : tiOf Tryd.prog 121 = some ⟨.func, 1, 8, [.v (.nilFunc)]⟩ := by kernel_rfl
@[go_sem] theorem ti122 : tiOf Tryd.prog 122 = some ⟨.func, 1, 8, [.v (.nilFunc)]⟩ := by kernel_rfl
@[go_sem] theorem ti123 : tiOf Tryd.prog 123 = some ⟨.int .u64, 1, 8, [.v (.int .u64 (0))]⟩ := by kernel_rfl
@[go_sem] theorem ti124 : tiOf Tryd.prog 124 = some ⟨.func, 1, 8, [.v (.nilFunc)]⟩ := by kernel_rfl
@[go_sem] theorem ti125 : tiOf Tryd.prog 125 = some ⟨.func, 1, 8, [.v (.nilFunc)]⟩ := by kernel_rfl
@[go_sem] theorem ti126 : tiOf Tryd.prog 126 = some ⟨.func, 1, 8, [.v (.nilFunc)]⟩ := by kernel_rfl
@[go_sem] theorem ti128 : tiOf Tryd.prog 128 = some ⟨.func, 1, 8, [.v (.nilFunc)]⟩ := by kernel_rfl
@[go_sem] theorem ti129 : tiOf Tryd.prog 129 = some ⟨.func, 1, 8, [.v (.nilFunc)]⟩ := by kernel_rfl
@[go_sem] theorem ti130 : tiOf Tryd.prog 130 = some ⟨.int .i64, 1, 8, [.v (.int .i64 (0))]⟩ := by kernel_rfl
@[go_sem] theorem ti132 : tiOf Tryd.prog 132 = some ⟨.func, 1, 8, [.v (.nilFunc)]⟩ := by kernel_rfl
@[go_sem] theorem ti133 : tiOf Tryd.prog 133 = some ⟨.func, 1, 8, [.v (.nilFunc)]⟩ := by kernel_rfl
@[go_sem] theorem ti134 : tiOf Tryd.prog 134 = some ⟨.func, 1, 8, [.v (.nilFunc)]⟩ := by kernel_rfl
@[go_sem] theorem ti135 : tiOf Tryd.prog 135 = some ⟨.func, 1, 8, [.v (.nilFunc)]⟩ := by kernel_rfl
@[go_sem] theorem ti137 : tiOf Tryd.prog 137 = some ⟨.func, 1, 8, [.v (.nilFunc)]⟩ := by kernel_rfl
@[go_sem] theorem ti138 : tiOf Tryd.prog 138 = some ⟨.func, 1, 8, [.v (.nilFunc)]⟩ := by kernel_rfl
@[go_sem] theorem ti139 : tiOf Tryd.prog 139 = some ⟨.func, 1, 8, [.v (.nilFunc)]⟩ := by kernel_rfl
@[go_sem] theorem ti140 : tiOf Tryd.prog 140 = some ⟨.arr 16 84, 16, 64, List.replicate 16 (.v (.int .u32 (0)))⟩ := by kernel_rfl
@[go_sem] theorem ti141 : tiOf Tryd.prog 141 = some ⟨.int .u64, 1, 8, [.v (.int .u64 (0))]⟩ := by kernel_rfl
@[go_sem] theorem ti142 : tiOf Tryd.prog 142 = some ⟨.func, 1, 8, [.v (.nilFunc)]⟩ := by kernel_rfl
@[go_sem] theorem ti143 : tiOf Tryd.prog 143 = some ⟨.func, 1, 8, [.v (.nilFunc)]⟩ := by kernel_rfl
@[go_sem] theorem ti144 : tiOf Tryd.prog 144 = some ⟨.func, 1, 8, [.v (.nilFunc)]⟩ := by kernel_rfl
@[go_sem] theorem ti145 : tiOf Tryd.prog 145 = some ⟨.ptr 3, 1, 8, [.v (.pointer none)]⟩ := by kernel_rfl
@[go_sem] theorem ti146 : tiOf Tryd.prog 146 = some ⟨.func, 1, 8, [.v (.nilFunc)]⟩ := by kernel_rfl
@[go_sem] theorem ti147 : tiOf Tryd.prog 147 = some ⟨.ptr 141, 1, 8, [.v (.pointer none)]⟩ := by kernel_rfl
@[go_sem] theorem ti148 : tiOf Tryd.prog 148 = some ⟨.func, 1, 8, [.v (.nilFunc)]⟩ := by kernel_rfl
@[go_sem] theorem ti149 : tiOf Tryd.prog 149 = some ⟨.func, 1, 8, [.v (.nilFunc)]⟩ := by kernel_rfl
@[go_sem] theorem ti150 : tiOf Tryd.prog 150 = some ⟨.struct [(0, (1, false)), (1, (1, false)), (2, (1, false)), (3, (1, false))], 4, 40, [.v (.pointer none), .v (.pointer none), .v (.pointer none)] ++ [.v (.string ⟨#[]⟩)]⟩ := by kernel_rfl
@[go_sem] theorem ti151 : tiOf Tryd.prog 151 = some ⟨.struct [(0, (1, false)), (1, (1, false)), (2, (1, false)), (3, (1, false))], 4, 40, [.v (.pointer none), .v (.pointer none), .v (.pointer none)] ++ [.v (.string ⟨#[]⟩)]⟩ := by kernel_rfl
@[go_sem] theorem ti152 : tiOf Tryd.prog 152 = some ⟨.arr 0 16, 0, 0, []⟩ := by kernel_rfl
@[go_sem] theorem ti153 : tiOf Tryd.prog 153 = some ⟨.struct [(0, (0, true))], 0, 0, []⟩ := by kernel_rfl
@[go_sem] theorem ti154 : tiOf Tryd.prog 154 = some ⟨.struct [(0, (0, true))], 0, 0, []⟩ := by kernel_rfl
@[go_sem] theorem ti155 : tiOf Tryd.prog 155 = some ⟨.int .u8, 1, 1, [.v (.int .u8 (0))]⟩ := by kernel_rfl
@[go_sem] theorem ti156 : tiOf Tryd.prog 156 = some ⟨.int .u8, 1, 1, [.v (.int .u8 (0))]⟩ := by kernel_rfl
@[go_sem] theorem ti157 : tiOf Tryd.prog 157 = some ⟨.func, 1, 8, [.v (.nilFunc)]⟩ := by kernel_rfl
@[go_sem] theorem ti158 : tiOf Tryd.prog 158 = some ⟨.ptr 5, 1, 8, [.v (.pointer none)]⟩ := by kernel_rfl
@[go_sem] theorem ti159 : tiOf Tryd.prog 159 = some ⟨.int .i32, 1, 4, [.v (.int .i32 (0))]⟩ := by kernel_rfl
@[go_sem] theorem ti160 : tiOf Tryd.prog 160 = some ⟨.int .i32, 1, 4, [.v (.int .i32 (0))]⟩ := by kernel_rfl
@[go_sem] theorem ti161 : tiOf Tryd.prog 161 = some ⟨.struct [(0, (1, false)), (1, (1, false)), (2, (1, false)), (3, (1, false)), (4, (1, false)), (5, (1, false)), (6, (1, false)), (7, (1, false)), (8, (1, false)), (9, (1, false)), (10, (1, false))], 11, 48, [.v (.int .u64 (0)), .v (.int .u64 (0))] ++ [.v (.int .u32 (0))] ++ List.replicate 4 (.v (.int .u8 (0))) ++ [.v (.nilFunc)] ++ [.v (.pointer none)] ++ [.v (.int .i32 (0)), .v (.int .i32 (0))]⟩ := by kernel_rfl
@[go_sem] theorem ti162 : tiOf Tryd.prog 162 = some ⟨.struct [(0, (1, false)), (1, (1, false)), (2, (1, false)), (3, (1, false)), (4, (1, false)), (5, (1, false)), (6, (1, false)), (7, (1, false)), (8, (1, false)), (9, (1, false)), (10, (1, false))], 11, 48, [.v (.int .u64 (0)), .v (.int .u64 (0))] ++ [.v (.int .u32 (0))] ++ List.replicate 4 (.v (.int .u8 (0))) ++ [.v (.nilFunc)] ++ [.v (.pointer none)] ++ [.v (.int .i32 (0)), .v (.int .i32 (0))]⟩ := by kernel_rfl
@[go_sem] theorem ti163 : tiOf Tryd.prog 163 = some ⟨.other, 1, 8, [.v (.pointer none)]⟩ := by kernel_rfl
end Go.AM
namespace Go.AM
open Go Go.Proofs Go.IntWalk
set_option autoImplicit false

def w32 (x : BitVec 32) : SV := .v (.int .u32 x.toNat)
def w64 (x : BitVec 64) : SV := .v (.int .u64 x.toNat)
@[go_sem] theorem ren_w32 (π : Nat → Nat) (x : BitVec 32) : ren π (w32 x) = w32 x := rfl
@[go_sem] theorem cells_w32 (x : BitVec 32) : (w32 x).cells? = some [w32 x] := rfl
@[go_sem] theorem ren_w64 (π : Nat → Nat) (x : BitVec 64) : ren π (w64 x) = w64 x := rfl
@[go_sem] theorem cells_w64 (x : BitVec 64) : (w64 x).cells? = some [w64 x] := rfl
/-- The one package-level variable. -/
def half : List (BitVec 32) := [0x00000000, 0x105ec76f, 0x20bd8ede, 0x30e349b1, 0x417b1dbc, 0x5125dad3, 0x61c69362, 0x7198540d, 0x82f63b78, 0x92a8fc17, 0xa24bb5a6, 0xb21572c9, 0xc38d26c4, 0xd3d3e1ab, 0xe330a81a, 0xf36e6f75]
def GH : Nat → Option (List SV) := fun g => if g = 0 then some (half.map w32) else none

def near (x lo hi : Int) : Int := max lo (min x hi)
theorem near_fun (x lo hi : Int) : Fun Tryd.prog GH 75 [i64 x, i64 lo, i64 hi] [] (fun sv own' => sv = i64 (near x lo hi) ∧ own' = []) := by
  refine fun_of_vc (D := fun _ => none) Tryd.func75 (rfl : Tryd.f75.body = some _) (by kernel_rfl) (by kernel_rfl) (by simp [Tryd.f75]) (by kernel_rfl) ?_
  simp only [go_sem, seval, Tryd.results75]
  exact ⟨_, _, Red.refl, rfl, rfl⟩

def b8 (b : UInt8) : SV := .v (.int .u8 b.toNat)
@[go_sem] theorem ren_b8 (π : Nat → Nat) (b : UInt8) : ren π (b8 b) = b8 b := rfl
@[go_sem] theorem cells_b8 (b : UInt8) : (b8 b).cells? = some [b8 b] := rfl
def bytes (l : List UInt8) : List (List SV) := l.map fun b => [b8 b]
def putB (n : BitVec 64) (i : Nat) : UInt8 := UInt8.ofNat (n.toNat / 2 ^ (8 * i))
def put (n : BitVec 64) (w : Int) : List UInt8 := (List.range (near w 0 8).toNat).map (putB n)
theorem putB_eq (n : BitVec 64) (i : Nat) : SV.v (.int .u8 (IntKind.u8.wrap ((n.toNat : Int) / 2 ^ (8 * i)))) = b8 (putB n i) := by
  unfold b8 putB
  rw [IntKind.wrap_u8]
  congr 2
theorem put_fun (n : BitVec 64) (w : Int) : Fun Tryd.prog GH 67 [.v (.int .u64 n.toNat), i64 w] []
    (fun sv own' => sv = .fsl 1 (bytes (put n w)) false ∧ own' = []) := by
  refine fun_of_vc (D := fun _ => none) Tryd.func67 (rfl : Tryd.f67.body = some _) (by kernel_rfl) (by kernel_rfl) (by simp [Tryd.f67]) (by kernel_rfl) ?_
  simp only [go_sem, seval]
  refine cg_frame (near_fun w 0 8) [] rfl trivial rfl ?_
  rintro sv own' ⟨rfl, rfl⟩
  refine ⟨Nat.le_refl _, ?_⟩
  simp only [go_sem, seval]
  unfold put
  have hm0 : 0 ≤ near w 0 8 := by unfold near; omega
  have hm8 : near w 0 8 ≤ 8 := by unfold near; omega
  generalize near w 0 8 = m at hm0 hm8 ⊢
  refine loop_rule (A := { k : Nat // (k : Int) ≤ m })
    (fun k => [(0, .v (.int .u64 n.toNat)), (5, .gs 0), (8, i64 m), (9, i64 (k.1 : Int))])
    (fun k => [.grow 5 1 (bytes ((List.range k.1).map (putB n)))])
    (fun k => (m - (k.1 : Int)).toNat) ⟨0, hm0⟩ ?_ ?_
  · refine Red.trans (Red.nil 5 5 1 (Nat.zero_le _) rfl) (Red.sub ?_)
    simp only [go_sem, seval]
  · rintro ⟨k, hk⟩
    simp only [go_sem, seval, Tryd.results67]
    have e8 : IntKind.i64.wrap (8 * (k : Int)) = ((8 * k : Nat) : Int) := by rw [i64_in] <;> omega
    have e1 : IntKind.i64.wrap ((k : Int) + 1) = ((k + 1 : Nat) : Int) := by rw [i64_in] <;> omega
    refine ⟨fun hlt => ?_, fun hge => ?_⟩
    · have hmin : min ((8 * k : Nat) : Int).toNat 64 = 8 * k := by omega
      simp only [e8, e1, hmin, mx64_eq, putB_eq]
      refine ⟨by omega, by simp [bytes]; omega, ⟨k + 1, by omega⟩, by simp only; omega, ?_⟩
      refine Red.pick (idx := [2]) rfl rfl ?_ ?_
      · simp only [go_sem, seval, List.range_succ, List.map_append, bytes]
      · simp only [go_sem, seval]
    · have : m.toNat = k := by omega
      rw [this]
      exact ⟨_, _, RedV.slice rfl, rfl, rfl⟩

/-! ### crc -/
theorem of32 (x : BitVec 32) : BitVec.ofInt 32 (x.toNat : Int) = x := by rw [BitVec.ofInt_natCast, BitVec.ofNat_toNat, BitVec.setWidth_eq]
theorem wrap32 (x : BitVec 32) : IntKind.u32.wrap (x.toNat : Int) = x.toNat := u32_in _ (by have := x.isLt; omega)
theorem add32 (x : BitVec 32) (c : Nat) : IntKind.u32.wrap ((x.toNat : Int) + (c : Int)) = ((x + BitVec.ofNat 32 c).toNat : Int) := by
  rw [IntKind.wrap_u32, BitVec.toNat_add, BitVec.toNat_ofNat]; omega
theorem shr32 (x : BitVec 32) (k : Nat) : (x.toNat : Int) / 2 ^ k = ((x >>> k).toNat : Int) := by
  rw [BitVec.toNat_ushiftRight, Nat.shiftRight_eq_div_pow]; simp
theorem shl32 (x : BitVec 32) (k : Nat) : IntKind.u32.wrap ((x.toNat : Int) * 2 ^ k) = ((x <<< k).toNat : Int) := by
  rw [IntKind.wrap_u32, BitVec.toNat_shiftLeft, Nat.shiftLeft_eq]; simp

def four (x : BitVec 32) : BitVec 32 := half.getD (x &&& 15#32).toNat 0#32 ^^^ (x >>> 4)
theorem half_len : (half.map w32).length = 16 := rfl
theorem drop_half (k : Nat) (hk : k < 16) : (half.map w32).drop k = w32 (half.getD k 0#32) :: (half.map w32).drop (k + 1) := by
  rcases k with _ | _ | _ | _ | _ | _ | _ | _ | _ | _ | _ | _ | _ | _ | _ | _ | k <;> first | rfl | omega
theorem and15 (x : BitVec 32) : (x &&& 15#32).toNat < 16 := by
  rw [BitVec.toNat_and]
  exact Nat.lt_of_le_of_lt Nat.and_le_right (by decide)
theorem four_fun (x : BitVec 32) : Fun Tryd.prog GH 81 [w32 x] [] (fun sv own' => sv = w32 (four x) ∧ own' = []) := by
  refine fun_of_vc (D := fun _ => none) Tryd.func81 (rfl : Tryd.f81.body = some _) (by kernel_rfl) (by kernel_rfl) (by simp [Tryd.f81]) (by kernel_rfl) ?_
  simp only [go_sem, seval, Tryd.results81, w32, GH, of32, wrap32, Int.toNat_natCast, Nat.mul_one]
  have h16 := and15 x
  refine ⟨by omega, ?_⟩
  rw [drop_half _ h16]
  simp only [go_sem, seval, w32, shr32, of32, wrap32]
  exact ⟨_, _, Red.refl, rfl, rfl⟩

theorem bytes_length (l : List UInt8) : (bytes l).length = l.length := by simp [bytes]
theorem bytes_getD (l : List UInt8) (k : Nat) (h : k < l.length) : (bytes l).getD k [] = [b8 (l.getD k 0)] := by
  simp [bytes, List.getD_eq_getElem?_getD, h]
def crcStep (x : BitVec 32) (c : UInt8) : BitVec 32 := four (four (x ^^^ BitVec.ofNat 32 c.toNat))
def crcMore (s : BitVec 32) (l : List UInt8) : BitVec 32 := ~~~ (l.foldl crcStep (~~~ s))
theorem not32 (s : BitVec 32) : 4294967295#32 ^^^ s = ~~~ s := by
  rw [show (4294967295#32) = BitVec.allOnes 32 from rfl, BitVec.allOnes_xor]
theorem conv32 (c : UInt8) : BitVec.ofInt 32 (IntKind.u32.wrap (c.toNat : Int)) = BitVec.ofNat 32 c.toNat := by
  rw [u32_in _ (by have := c.toNat_lt; omega), BitVec.ofInt_natCast]
theorem take_fold {A : Type} (f : A → UInt8 → A) (a : A) (l : List UInt8) (k : Nat) (h : k < l.length) : (l.take (k + 1)).foldl f a = f ((l.take k).foldl f a) (l.getD k 0) := by
  rw [List.take_add_one, List.foldl_append]
  simp [List.getD_eq_getElem?_getD, h]
theorem more_fun (s : BitVec 32) (l : List UInt8) (full : Bool) (hl : l.length < 2 ^ 62) : Fun Tryd.prog GH 76 [w32 s, .fsl 1 (bytes l) full] [] (fun sv own' => sv = w32 (crcMore s l) ∧ own' = []) := by
  refine fun_of_vc (D := fun _ => none) Tryd.func76 (rfl : Tryd.f76.body = some _) (by kernel_rfl) (by kernel_rfl) (by simp [Tryd.f76]) (by kernel_rfl) ?_
  simp only [go_sem, seval, w32, of32, wrap32, not32, bytes_length]
  refine loop_rule (A := { k : Nat // k ≤ l.length })
    (fun k => [(5, w32 ((l.take k.1).foldl crcStep (~~~ s))), (10, .fsl 1 (bytes l) full), (11, i64 (l.length : Int)), (12, i64 (k.1 : Int))])
    (fun _ => []) (fun k => l.length - k.1) ⟨0, Nat.zero_le _⟩ ?_ ?_
  · refine Red.sub ?_
    simp only [go_sem, seval, w32, List.foldl_nil]
  · rintro ⟨k, hk⟩
    have e1 : IntKind.i64.wrap ((k : Int) + 1) = ((k + 1 : Nat) : Int) := by rw [i64_in] <;> omega
    by_cases hlt : k < l.length
    · have hlt' : (k : Int) < (l.length : Int) := by omega
      have hk0 : (0 : Int) ≤ (k : Int) := by omega
      simp (disch := omega) only [go_sem, seval, w32, of32, wrap32, not32, bytes_length, hlt', hk0, bytes_getD, Int.toNat_natCast, b8, conv32]
      refine cg_frame (four_fun _) [] rfl trivial rfl ?_
      rintro sv own' ⟨rfl, rfl⟩
      refine ⟨Nat.le_refl _, ?_⟩
      simp only [go_sem, seval, w32]
      refine cg_frame (four_fun _) [] rfl trivial rfl ?_
      rintro sv own' ⟨rfl, rfl⟩
      refine ⟨Nat.le_refl _, ?_⟩
      simp only [go_sem, seval, w32, e1]
      refine ⟨⟨k + 1, by omega⟩, by simp only; omega, Red.sub ?_⟩
      simp only [go_sem, seval, take_fold _ _ _ _ hlt, crcStep]
    · have hge : ¬ (k : Int) < (l.length : Int) := by omega
      have : k = l.length := by omega
      simp only [go_sem, seval, Tryd.results76, w32, of32, wrap32, not32, hge]
      subst this
      exact ⟨_, _, Red.refl, by simp [crcMore], rfl⟩
end Go.AM
namespace Go.AM
open Go Go.Proofs Go.IntWalk
set_option autoImplicit false

def crcOf (l : List UInt8) : BitVec 32 := crcMore 0#32 l
theorem of_fun (l : List UInt8) (full : Bool) (hl : l.length < 2 ^ 62) : Fun Tryd.prog GH 69 [.fsl 1 (bytes l) full] [] (fun sv own' => sv = w32 (crcOf l) ∧ own' = []) := by
  refine fun_of_vc (D := fun _ => none) Tryd.func69 (rfl : Tryd.f69.body = some _) (by kernel_rfl) (by kernel_rfl) (by simp [Tryd.f69]) (by kernel_rfl) ?_
  simp only [go_sem, seval]
  refine cg_frame (more_fun 0#32 l full hl) [] rfl trivial rfl ?_
  rintro sv own' ⟨rfl, rfl⟩
  refine ⟨Nat.le_refl _, ?_⟩
  simp only [go_sem, seval, Tryd.results69]
  exact ⟨_, _, Red.refl, rfl, rfl⟩

def crcMask (s : BitVec 32) : BitVec 32 := ((s >>> 15) ||| (s <<< 17)) + 0xa282ead8#32
theorem mask_fun (s : BitVec 32) : Fun Tryd.prog GH 68 [w32 s] [] (fun sv own' => sv = w32 (crcMask s) ∧ own' = []) := by
  refine fun_of_vc (D := fun _ => none) Tryd.func68 (rfl : Tryd.f68.body = some _) (by kernel_rfl) (by kernel_rfl) (by simp [Tryd.f68]) (by kernel_rfl) ?_
  simp only [go_sem, seval, Tryd.results68, w32, shr32, shl32, of32, wrap32]
  have m1 : min 15 32 = 15 := by decide
  have m2 : min 17 32 = 17 := by decide
  have ha : IntKind.u32.wrap (((s >>> 15 ||| s <<< 17).toNat : Int) + 2726488792) = _ := add32 (s >>> 15 ||| s <<< 17) 2726488792
  rw [m1, m2, ha]
  exact ⟨_, _, Red.refl, by rw [crcMask], rfl⟩

/-! ### span -/
theorem spanNear_fun (n most : Int) : Fun Tryd.prog GH 48 [i64 n, i64 most] [] (fun sv own' => sv = i64 (max 0 (min n most)) ∧ own' = []) := by
  refine fun_of_vc (D := fun _ => none) Tryd.func48 (rfl : Tryd.f48.body = some _) (by kernel_rfl) (by kernel_rfl) (by simp [Tryd.f48]) (by kernel_rfl) ?_
  simp only [go_sem, seval, Tryd.results48]
  exact ⟨_, _, Red.refl, rfl, rfl⟩
def clampAt (at_ : Int) : Int := max 0 (min at_ 832)
theorem where_fun (x : Int) : Fun Tryd.prog GH 49 [i64 x] [] (fun sv own' => sv = .agg [i64 (clampAt x / 52), i64 (clampAt x % 52)] ∧ own' = []) := by
  refine fun_of_vc (D := fun _ => none) Tryd.func49 (rfl : Tryd.f49.body = some _) (by kernel_rfl) (by kernel_rfl) (by simp [Tryd.f49]) (by kernel_rfl) ?_
  simp only [go_sem, seval]
  refine cg_frame (spanNear_fun x 832) [] rfl trivial rfl ?_
  rintro sv own' ⟨rfl, rfl⟩
  refine ⟨Nat.le_refl _, ?_⟩
  simp only [go_sem, seval, Tryd.results49]
  have h0 : 0 ≤ max 0 (min x 832) := by omega
  have h1 : max 0 (min x 832) ≤ 832 := by omega
  rw [i64_quo _ _ ⟨h0, by omega, by omega⟩, Int.tmod_eq_emod_of_nonneg h0]
  exact ⟨_, _, RedV.drop rfl, rfl, rfl⟩
end Go.AM
namespace Go.AM
open Go Go.Proofs Go.IntWalk
set_option autoImplicit false

theorem clamp_clamp (x : Int) : clampAt (clampAt x) = clampAt x := by unfold clampAt; omega
def spanBegin (x : Int) : Int := if 52 - clampAt x % 52 < 11 then clampAt x + (52 - clampAt x % 52) else clampAt x
theorem begin_fun (x : Int) : Fun Tryd.prog GH 18 [i64 x] [] (fun sv own' => sv = i64 (spanBegin x) ∧ own' = []) := by
  refine fun_of_vc (D := fun _ => none) Tryd.func18 (rfl : Tryd.f18.body = some _) (by kernel_rfl) (by kernel_rfl) (by simp [Tryd.f18]) (by kernel_rfl) ?_
  simp only [go_sem, seval]
  refine cg_frame (spanNear_fun x 832) [] rfl trivial rfl ?_
  rintro sv own' ⟨rfl, rfl⟩
  refine ⟨Nat.le_refl _, ?_⟩
  simp only [go_sem, seval]
  refine cg_frame (where_fun (max 0 (min x 832))) [] rfl trivial rfl ?_
  rintro sv own' ⟨rfl, rfl⟩
  refine ⟨Nat.le_refl _, ?_⟩
  have hc := clamp_clamp x
  have hm : max 0 (min x 832) = clampAt x := rfl
  have h0 : 0 ≤ clampAt x := by unfold clampAt; omega
  have h1 : clampAt x ≤ 832 := by unfold clampAt; omega
  simp only [go_sem, seval, Tryd.results18, hc, hm]
  rw [i64_in (52 - clampAt x % 52) (by omega)]
  refine ⟨fun h => ?_, fun h => ?_⟩
  · rw [i64_in _ (by omega)]
    exact ⟨_, _, Red.refl, by rw [spanBegin, if_pos h], rfl⟩
  · exact ⟨_, _, Red.refl, by rw [spanBegin, if_neg h], rfl⟩

def spanTouch (f t : Int) : Int × Int := if clampAt t ≤ clampAt f then (0, 0) else (clampAt f / 52, (clampAt t - 1) / 52 + 1)
theorem touch_fun (f t : Int) : Fun Tryd.prog GH 43 [i64 f, i64 t] [] (fun sv own' => sv = .tup [i64 (spanTouch f t).1, i64 (spanTouch f t).2] ∧ own' = []) := by
  refine fun_of_vc (D := fun _ => none) Tryd.func43 (rfl : Tryd.f43.body = some _) (by kernel_rfl) (by kernel_rfl) (by simp [Tryd.f43]) (by kernel_rfl) ?_
  simp only [go_sem, seval]
  refine cg_frame (spanNear_fun f 832) [] rfl trivial rfl ?_
  rintro sv own' ⟨rfl, rfl⟩
  refine ⟨Nat.le_refl _, ?_⟩
  simp only [go_sem, seval]
  refine cg_frame (spanNear_fun t 832) [] rfl trivial rfl ?_
  rintro sv own' ⟨rfl, rfl⟩
  refine ⟨Nat.le_refl _, ?_⟩
  have hf : max 0 (min f 832) = clampAt f := rfl
  have ht : max 0 (min t 832) = clampAt t := rfl
  have f0 : 0 ≤ clampAt f ∧ clampAt f ≤ 832 := by unfold clampAt; omega
  have t0 : 0 ≤ clampAt t ∧ clampAt t ≤ 832 := by unfold clampAt; omega
  simp only [go_sem, seval, Tryd.results43, hf, ht]
  refine ⟨fun h => ?_, fun h => ?_⟩
  · exact ⟨_, _, Red.refl, by rw [spanTouch, if_pos h], rfl⟩
  · refine cg_frame (where_fun (clampAt f)) [] rfl trivial rfl ?_
    rintro sv own' ⟨rfl, rfl⟩
    refine ⟨Nat.le_refl _, ?_⟩
    have e1 : IntKind.i64.wrap (clampAt t - 1) = clampAt t - 1 := i64_in _ (by omega)
    have e2 : clampAt (clampAt t - 1) = clampAt t - 1 := by unfold clampAt at *; omega
    have e3 : IntKind.i64.wrap ((clampAt t - 1) / 52 + 1) = (clampAt t - 1) / 52 + 1 := i64_in _ (by omega)
    simp only [go_sem, seval, e1]
    refine cg_frame (where_fun (clampAt t - 1)) [] rfl trivial rfl ?_
    rintro sv own' ⟨rfl, rfl⟩
    refine ⟨Nat.le_refl _, ?_⟩
    simp only [go_sem, seval, e2, e3, clamp_clamp]
    exact ⟨_, _, Red.refl, by rw [spanTouch, if_neg h], rfl⟩
end Go.AM
namespace Go.AM
open Go Go.Proofs Go.IntWalk
set_option autoImplicit false

def bl (b : Bool) : SV := .v (.bool b)
@[go_sem] theorem ren_bl (π : Nat → Nat) (b : Bool) : ren π (bl b) = bl b := rfl
@[go_sem] theorem cells_bl (b : Bool) : (bl b).cells? = some [bl b] := rfl
def cutKind (a b : Bool) : Int := if a && b then 1 else if a then 2 else if b then 4 else 3
theorem kind_fun (a b : Bool) : Fun Tryd.prog GH 65 [bl a, bl b] [] (fun sv own' => sv = i64 (cutKind a b) ∧ own' = []) := by
  refine fun_of_vc (D := fun _ => none) Tryd.func65 (rfl : Tryd.f65.body = some _) (by kernel_rfl) (by kernel_rfl) (by simp [Tryd.f65]) (by kernel_rfl) ?_
  cases a <;> cases b <;> simp only [go_sem, seval, Tryd.results65, bl]
  all_goals exact ⟨_, _, Red.refl, rfl, rfl⟩

def fragRight (k : Int) (n : Nat) : Bool := decide (1 ≤ k) && decide (k ≤ 4) && decide (n ≤ 197)
theorem fragRight_fun (k : Int) (e : BitVec 32) (l : List UInt8) (full : Bool) : Fun Tryd.prog GH 66 [.agg [i64 k, w32 e, .fsl 1 (bytes l) full]] [] (fun sv own' => sv = bl (fragRight k l.length) ∧ own' = []) := by
  refine fun_of_vc (D := fun _ => none) Tryd.func66 (rfl : Tryd.f66.body = some _) (by kernel_rfl) (by kernel_rfl) (by simp [Tryd.f66]) (by kernel_rfl) ?_
  by_cases h1 : 1 ≤ k <;> by_cases h2 : k ≤ 4 <;> by_cases h3 : (l.length : Int) ≤ 197 <;>
    simp only [go_sem, seval, Tryd.results66, bytes_length, h1, h2, h3]
  all_goals exact ⟨_, _, RedV.drop rfl, by simp [bl, fragRight, h1, h2] <;> omega, rfl⟩
end Go.AM
namespace Go.AM
open Go Go.Proofs Go.IntWalk
set_option autoImplicit false

/-! ### name: digits, letters -/
def okByte (c : UInt8) : Bool := decide (c.toNat = 45 ∨ (48 ≤ c.toNat ∧ c.toNat ≤ 57) ∨ (97 ≤ c.toNat ∧ c.toNat ≤ 122))
def str (l : List UInt8) : SV := .v (.string ⟨l.toArray⟩)
@[go_sem] theorem ren_str (π : Nat → Nat) (l : List UInt8) : ren π (str l) = str l := rfl
@[go_sem] theorem cells_str (l : List UInt8) : (str l).cells? = some [str l] := rfl
def nameRight (l : List UInt8) : Bool := l.all okByte && decide (1 ≤ l.length) && decide (l.length ≤ 24)
theorem str_toList (l : List UInt8) : (⟨l.toArray⟩ : ByteArray).toList = l := by rw [ByteArray.toList_eq]
theorem str_size (l : List UInt8) : (⟨l.toArray⟩ : ByteArray).size = l.length := by simp [ByteArray.size]
theorem all_take (p : UInt8 → Bool) (l : List UInt8) (k : Nat) (h : k < l.length) : (l.take (k + 1)).all p = ((l.take k).all p && p (l.getD k 0)) := by
  rw [List.take_add_one, List.all_append]; simp [List.getD_eq_getElem?_getD, h]
theorem all_of_take (p : UInt8 → Bool) (l : List UInt8) (k : Nat) (h : k < l.length) (hp : p (l.getD k 0) = false) : l.all p = false := by
  have : l.getD k 0 ∈ l := by rw [List.getD_eq_getElem?_getD, List.getElem?_eq_getElem h]; exact List.getElem_mem h
  rw [List.all_eq_false]; exact ⟨_, this, by rw [hp]; decide⟩
theorem right_fun (l : List UInt8) (hl : l.length < 2 ^ 62) : Fun Tryd.prog GH 23 [str l] [] (fun sv own' => sv = bl (nameRight l) ∧ own' = []) := by
  refine fun_of_vc (D := fun _ => none) Tryd.func23 (rfl : Tryd.f23.body = some _) (by kernel_rfl) (by kernel_rfl) (by simp [Tryd.f23]) (by kernel_rfl) ?_
  simp only [go_sem, seval, str, str_size]
  refine loop_rule (A := { k : Nat // k ≤ l.length ∧ (l.take k).all okByte = true })
    (fun k => [(0, str l), (6, i64 (l.length : Int)), (7, i64 (k.1 : Int))])
    (fun _ => []) (fun k => l.length - k.1) ⟨0, Nat.zero_le _, rfl⟩ ?_ ?_
  · refine Red.sub ?_
    simp only [go_sem, seval, str]
  · rintro ⟨k, hk, hall⟩
    have e1 : IntKind.i64.wrap ((k : Int) + 1) = ((k + 1 : Nat) : Int) := by rw [i64_in] <;> omega
    by_cases hlt : k < l.length
    · have hlt' : (k : Int) < (l.length : Int) := by omega
      have hk0 : (0 : Int) ≤ (k : Int) := by omega
      have hat := all_take okByte l k hlt
      have hno := all_of_take okByte l k hlt
      generalize hc : l.getD k 0 = c at hat hno
      simp only [go_sem, seval, str, str_size, str_toList, hlt', hk0, Int.toNat_natCast, hc, e1, Tryd.results23]
      simp +contextual only [true_imp_iff, not_true_eq_false, not_false_eq_true, false_imp_iff, and_true, true_and]
      have yes : okByte c = true → (l.take (k + 1)).all okByte = true := fun h => by rw [hat, hall, h]; rfl
      have nob : okByte c = false → nameRight l = false := fun h => by rw [nameRight, hno h]; rfl
      repeat' first | intro _ | apply And.intro
      all_goals first
        | (refine ⟨⟨k + 1, by omega, yes (by rw [okByte, decide_eq_true_eq]; omega)⟩, by simp only; omega, Red.sub ?_⟩
           simp only [go_sem, seval])
        | (refine ⟨_, _, Red.refl, ?_, rfl⟩
           rw [nob (by rw [okByte, decide_eq_false_iff_not]; omega)]; rfl)
    · have hge : ¬ (k : Int) < (l.length : Int) := by omega
      have hkl : k = l.length := by omega
      have hall' : l.all okByte = true := by rw [hkl, List.take_length] at hall; exact hall
      simp only [go_sem, seval, str, str_size, hge, Tryd.results23]
      simp +contextual only [true_imp_iff, not_true_eq_false, not_false_eq_true, false_imp_iff, and_true, true_and]
      repeat' first | intro _ | apply And.intro
      all_goals (refine ⟨_, _, Red.refl, ?_, rfl⟩; simp only [bl, nameRight, hall', Bool.true_and, ← Bool.decide_and]; congr 2; first | (exact decide_eq_decide.2 (by omega)) | (symm; exact decide_eq_false (by omega)))
end Go.AM
namespace Go.AM
open Go Go.Proofs Go.IntWalk
set_option autoImplicit false
set_option maxRecDepth 100000

/-! ### name: digits -/
def digB (n : Nat) : UInt8 := UInt8.ofNat (48 + n % 10)
def digits (n : Nat) : List UInt8 := if h : n < 10 then [digB n] else digits (n / 10) ++ [digB n]
termination_by n
decreasing_by omega
theorem digits_lt {n : Nat} (h : n < 10) : digits n = [digB n] := by rw [digits, dif_pos h]
theorem digits_ge {n : Nat} (h : ¬ n < 10) : digits n = digits (n / 10) ++ [digB n] := by rw [digits, dif_neg h]
theorem digB_v (n : Nat) : b8 (digB n) = .v (.int .u8 (IntKind.u8.wrap (IntKind.u64.wrap (48 + (n : Int).tmod 10)))) := by
  have e : (n : Int).tmod 10 = ((n % 10 : Nat) : Int) := by rw [Int.tmod_eq_emod_of_nonneg (by omega)]; omega
  rw [e, u64_in _ (by omega), IntKind.wrap_u8]
  have : (digB n).toNat = 48 + n % 10 := by simp [digB]; omega
  rw [b8, this]
  congr 2; omega
def zcs (m : Nat) (ds : List UInt8) : List SV := List.replicate m (.v (.int .u8 0)) ++ ds.map b8
theorem zcs_set (m : Nat) (ds : List UInt8) (b : UInt8) : (zcs (m + 1) ds).set m (b8 b) = zcs m (b :: ds) := by
  unfold zcs
  rw [List.set_append_left _ _ (by simp), List.replicate_succ', List.set_append_right _ _ (by simp)]
  simp
theorem zcs_length (m : Nat) (ds : List UInt8) : (zcs m ds).length = m + ds.length := by simp [zcs]
theorem zcs_clean (m : Nat) (ds : List UInt8) : (zcs m ds).all SV.clean = true := by
  simp [zcs, List.all_eq_true, SV.clean, b8]
theorem zcs_drop (m : Nat) (ds : List UInt8) : (zcs m ds).drop m = ds.map b8 := by simp [zcs]
theorem byteRows (ds : List UInt8) : ((ds.map b8).map fun c => [c]) = bytes ds := by simp [bytes, Function.comp_def]
theorem bytes_row (ds : List UInt8) : ∀ r ∈ bytes ds, isByteRow r = true := by
  intro r hr; obtain ⟨b, _, rfl⟩ := List.mem_map.1 hr; rfl
theorem bytes_str (ds : List UInt8) : (bytes ds).map byteOf = ds := by
  simp only [bytes, List.map_map]
  conv => rhs; rw [← List.map_id ds]
  refine List.map_congr_left fun b _ => ?_
  simp [byteOf, b8]

theorem digits_fun (n : Nat) (hn : n < 2 ^ 63) : Fun Tryd.prog GH 51 [i64 n] [] (fun sv own' => sv = str (digits n) ∧ own' = []) := by
  refine fun_of_vcQ (D := fun _ => none) Tryd.func51 (rfl : Tryd.f51.body = some _) (by kernel_rfl) (by kernel_rfl) (by simp [Tryd.f51]) (by kernel_rfl) ?_; intro Q hE hQ
  have hn0 : ¬ ((n : Int) < 0) := by omega
  simp only [go_sem, seval, hn0]
  have eu : IntKind.u64.wrap (n : Int) = (n : Int) := u64_in _ (by omega)
  rw [eu]
  refine loop_rule (A := { x : Nat × List UInt8 // x.2.length ≤ 19 ∧ x.1 * 10 ^ x.2.length ≤ n ∧ digits n = (digits x.1 ++ x.2) ∧ (x.2 = [] ∨ x.1 ≠ 0) })
    (fun x => [(0, i64 n), (3, .v (.int .u64 (x.1.1 : Int))), (4, .ptr 0 0), (5, i64 ((20 - x.1.2.length : Nat) : Int))])
    (fun x => [.cells 115 (zcs (20 - x.1.2.length) x.1.2)]) (fun x => x.1.1) ⟨(n, []), by simp, by simp, by simp, .inl rfl⟩ ?_ ?_
  · refine Red.sub ?_
    simp only [go_sem, seval]
    try rfl
  · rintro ⟨⟨u, ds⟩, h1, h2, h3, h4⟩
    simp only at h1 h2 h3 h4
    have hun : u ≤ n := Nat.le_trans (Nat.le_mul_of_pos_right u (Nat.pow_pos (by decide))) h2
    obtain ⟨m, hm⟩ : ∃ m, 20 - ds.length = m + 1 := ⟨19 - ds.length, by omega⟩
    have e1 : IntKind.i64.wrap (((m + 1 : Nat) : Int) - 1) = (m : Int) := by rw [i64_in] <;> omega
    have c1 : (0 : Int) ≤ (m : Int) ∧ (m : Int) < ((20 : Nat) : Int) := by omega
    have c2 : m + 1 ≤ (zcs (m + 1) ds).length := by rw [zcs_length]; omega
    have eq1 : IntKind.u64.wrap (((u : Int)).tdiv 10) = ((u / 10 : Nat) : Int) := by
      rw [Int.tdiv_eq_ediv_of_nonneg (by omega), u64_in _ (by omega)]; omega
    simp only [go_sem, seval, hm, e1, c1.1, c1.2, Int.toNat_natCast, Nat.mul_one, Nat.zero_add, c2, eq1, ← digB_v, zcs_set, hn0, Tryd.results51]
    have hd3 : ∀ (h : u / 10 = 0), digits n = digB u :: ds := fun h => by rw [h3, digits_lt (by omega)]; rfl
    have hms : m + ds.length = 19 := by omega
    refine ⟨by omega, fun h => ⟨by omega, ?_⟩, fun h => ?_⟩
    · have h0 : u / 10 = 0 := by omega
      have q1 : m + (20 - m) ≤ (zcs m (digB u :: ds)).length := by rw [zcs_length]; simp; omega
      have q2 : (((zcs m (digB u :: ds)).drop m).take (20 - m)).map (fun c => [c]) = bytes (digB u :: ds) := by
        rw [zcs_drop, List.take_of_length_le (by simp; omega), byteRows]
      simp only [go_sem, seval, q1, zcs_clean, q2, bytes_str]
      refine ⟨bytes_row _, ?_⟩
      refine hQ _ _ (str (digits n)) [] ?_ ⟨rfl, rfl⟩
      rw [hd3 h0]
      exact RedV.drop rfl
    · have h0 : u / 10 ≠ 0 := by omega
      refine ⟨⟨(u / 10, digB u :: ds), ?_, ?_, ?_, .inr h0⟩, ?_, ?_⟩
      · have : 10 ^ (ds.length + 1) ≤ n := by
          have : 1 ≤ u / 10 := by omega
          calc 10 ^ (ds.length + 1) = 10 * 10 ^ ds.length := by rw [Nat.pow_succ, Nat.mul_comm]
            _ ≤ u * 10 ^ ds.length := Nat.mul_le_mul_right _ (by omega)
            _ ≤ n := h2
        simp only [List.length_cons]
        by_cases hl : ds.length + 1 ≤ 19
        · exact hl
        · exfalso
          have : 10 ^ 19 ≤ 10 ^ (ds.length + 1) := Nat.pow_le_pow_right (by decide) (by omega)
          omega
      · simp only [List.length_cons, Nat.pow_succ]
        calc u / 10 * (10 ^ ds.length * 10) = (u / 10 * 10) * 10 ^ ds.length := by rw [Nat.mul_comm (10 ^ ds.length), Nat.mul_assoc]
          _ ≤ u * 10 ^ ds.length := Nat.mul_le_mul_right _ (by omega)
          _ ≤ n := h2
      · rw [h3, digits_ge (n := u) (by omega)]; simp
      · simp only; omega
      · have q : 20 - (ds.length + 1) = m := by omega
        simp only [List.length_cons, q]
        refine Red.sub ?_
        simp only [go_sem, seval]

/-! ### Strings -/
theorem str_append (a b : List UInt8) : (⟨a.toArray⟩ : ByteArray) ++ ⟨b.toArray⟩ = ⟨(a ++ b).toArray⟩ := by
  apply ByteArray.ext
  simp
theorem str_extract (l : List UInt8) (a b : Nat) : (⟨l.toArray⟩ : ByteArray).extract a b = ⟨((l.drop a).take (b - a)).toArray⟩ := by
  apply ByteArray.ext
  simp [List.extract_eq_take_drop]
theorem digits_len (n : Nat) : 1 ≤ (digits n).length := by
  by_cases h : n < 10
  · simp [digits_lt h]
  · simp [digits_ge h]
theorem digits_len_le : ∀ (k n : Nat), n < 10 ^ (k + 1) → (digits n).length ≤ k + 1
  | 0, n, h => by simp [digits_lt (show n < 10 by simpa using h)]
  | k + 1, n, h => by
    by_cases h10 : n < 10
    · simp [digits_lt h10]
    · rw [digits_ge h10]
      have := digits_len_le k (n / 10) (by rw [Nat.div_lt_iff_lt_mul (by decide)]; rw [Nat.pow_succ] at h; exact h)
      simp; omega
def walP : List UInt8 := [119, 97, 108, 45]
def freeP : List UInt8 := [102, 114, 101, 101, 45]
def walD (n : Int) : List UInt8 := if n < 1 ∨ 2147483647 < n then [] else walP ++ digits n.toNat
def poolD (n : Int) : List UInt8 := if n < 0 ∨ 2 < n then [] else freeP ++ digits n.toNat
theorem wal_fun (n : Int) : Fun Tryd.prog GH 21 [i64 n] [] (fun sv own' => sv = str (walD n) ∧ own' = []) := by
  refine fun_of_vcQ (D := fun _ => none) Tryd.func21 (rfl : Tryd.f21.body = some _) (by kernel_rfl) (by kernel_rfl) (by simp [Tryd.f21]) (by kernel_rfl) ?_; intro Q hE hQ
  by_cases h1 : n < 1
  · simp only [go_sem, seval, h1, Tryd.results21]
    exact hE _ _ ⟨by simp [walD, h1]; rfl, rfl⟩
  · by_cases h2 : 2147483647 < n
    · simp only [go_sem, seval, h1, h2, Tryd.results21]
      exact hE _ _ ⟨by simp [walD, h2]; rfl, rfl⟩
    · obtain ⟨m, rfl⟩ := Int.eq_ofNat_of_zero_le (show 0 ≤ n by omega)
      simp only [go_sem, seval, h1, h2]
      refine cg_frame (digits_fun m (by omega)) [] rfl trivial rfl ?_
      rintro sv own' ⟨rfl, rfl⟩
      refine ⟨Nat.le_refl _, ?_⟩
      have hl := digits_len_le 9 m (by omega)
      simp only [go_sem, seval, str, str_append, str_size, Tryd.results21]
      refine ⟨by simp [ByteArray.size]; omega, ?_⟩
      refine hE _ _ ⟨?_, rfl⟩
      simp only [walD, h1, h2, or_self, if_false, Int.toNat_natCast]; rfl
theorem pool_fun (n : Int) : Fun Tryd.prog GH 58 [i64 n] [] (fun sv own' => sv = str (poolD n) ∧ own' = []) := by
  refine fun_of_vcQ (D := fun _ => none) Tryd.func58 (rfl : Tryd.f58.body = some _) (by kernel_rfl) (by kernel_rfl) (by simp [Tryd.f58]) (by kernel_rfl) ?_; intro Q hE hQ
  by_cases h1 : n < 0
  · simp only [go_sem, seval, h1, Tryd.results58]
    exact hE _ _ ⟨by simp [poolD, h1]; rfl, rfl⟩
  · by_cases h2 : 2 < n
    · simp only [go_sem, seval, h1, h2, Tryd.results58]
      exact hE _ _ ⟨by simp [poolD, h2]; rfl, rfl⟩
    · obtain ⟨m, rfl⟩ := Int.eq_ofNat_of_zero_le (show 0 ≤ n by omega)
      simp only [go_sem, seval, h1, h2]
      refine cg_frame (digits_fun m (by omega)) [] rfl trivial rfl ?_
      rintro sv own' ⟨rfl, rfl⟩
      refine ⟨Nat.le_refl _, ?_⟩
      have hl := digits_len_le 9 m (by omega)
      simp only [go_sem, seval, str, str_append, str_size, Tryd.results58]
      refine ⟨by simp [ByteArray.size]; omega, ?_⟩
      refine hE _ _ ⟨?_, rfl⟩
      simp only [poolD, h1, h2, or_self, if_false, Int.toNat_natCast]; rfl

/-! ### Prefixes -/
theorem hasPrefix_fun (s p : List UInt8) (hs : s.length < 2 ^ 62) : Fun Tryd.prog GH 100 [str s, str p] [] (fun sv own' => sv = bl (decide (p.length ≤ s.length ∧ s.take p.length = p)) ∧ own' = []) := by
  refine fun_of_vcQ (D := fun _ => none) Tryd.func100 (rfl : Tryd.f100.body = some _) (by kernel_rfl) (by kernel_rfl) (by simp [Tryd.f100]) (by kernel_rfl) ?_; intro Q hE hQ
  by_cases h1 : p.length ≤ s.length
  · have h1' : (p.length : Int) ≤ (s.length : Int) := by omega
    have h0 : (0 : Int) ≤ (p.length : Int) := by omega
    simp only [go_sem, seval, str, str_size, h1', h1, Int.toNat_natCast, h0, Nat.zero_le, str_extract, str_toList, Tryd.results100]
    refine hE _ _ ⟨?_, rfl⟩
    simp only [bl, h1, true_and, List.drop_zero, Nat.sub_zero]
    congr 2
    rw [Bool.eq_iff_iff]; simp
  · have h1' : ¬ (p.length : Int) ≤ (s.length : Int) := by omega
    simp only [go_sem, seval, str, str_size, h1', Tryd.results100]
    exact hE _ _ ⟨by simp [bl, h1], rfl⟩
def cutP (s p : List UInt8) : Option (List UInt8) := if p.length ≤ s.length ∧ s.take p.length = p then some (s.drop p.length) else none
def cutV (s p : List UInt8) : SV := match cutP s p with | some r => .tup [str r, bl true] | none => .tup [str s, bl false]
theorem cutPrefix0_fun (s p : List UInt8) (hs : s.length < 2 ^ 62) : Fun Tryd.prog GH 93 [str s, str p] [] (fun sv own' => sv = cutV s p ∧ own' = []) := by
  refine fun_of_vcQ (D := fun _ => none) Tryd.func93 (rfl : Tryd.f93.body = some _) (by kernel_rfl) (by kernel_rfl) (by simp [Tryd.f93]) (by kernel_rfl) ?_; intro Q hE hQ
  simp only [go_sem, seval]
  refine cg_frame (hasPrefix_fun s p hs) [] rfl trivial rfl ?_
  rintro sv own' ⟨rfl, rfl⟩
  refine ⟨Nat.le_refl _, ?_⟩
  by_cases h : p.length ≤ s.length ∧ s.take p.length = p
  · have h0 : (0 : Int) ≤ (p.length : Int) := by omega
    simp only [go_sem, seval, h, bl, str, str_size, h0, h.1, Int.toNat_natCast, Nat.le_refl, str_extract, Tryd.results93]
    refine hE _ _ ⟨?_, rfl⟩
    have : (s.drop p.length).take (s.length - p.length) = s.drop p.length := List.take_of_length_le (by simp)
    simp only [cutV, cutP, if_pos h, this, str, bl]
  · simp only [go_sem, seval, h, bl, Tryd.results93]
    refine hE _ _ ⟨?_, rfl⟩
    simp only [cutV, cutP, if_neg h, bl]
theorem cutPrefix_fun (s p : List UInt8) (hs : s.length < 2 ^ 62) : Fun Tryd.prog GH 79 [str s, str p] [] (fun sv own' => sv = cutV s p ∧ own' = []) := by
  refine fun_of_vcQ (D := fun _ => none) Tryd.func79 (rfl : Tryd.f79.body = some _) (by kernel_rfl) (by kernel_rfl) (by simp [Tryd.f79]) (by kernel_rfl) ?_; intro Q hE hQ
  simp only [go_sem, seval]
  refine cg_frame (cutPrefix0_fun s p hs) [] rfl trivial rfl ?_
  rintro sv own' ⟨rfl, rfl⟩
  refine ⟨Nat.le_refl _, ?_⟩
  cases h : cutP s p <;> simp only [go_sem, seval, cutV, h, Tryd.results79] <;> exact hE _ _ ⟨by simp [cutV, h], rfl⟩
end Go.AM
namespace Go.AM
open Go Go.Proofs Go.IntWalk
set_option autoImplicit false
set_option maxRecDepth 100000

/-! ### name: numbers -/
def isDig (c : UInt8) : Bool := decide (48 ≤ c.toNat ∧ c.toNat ≤ 57)
def valD (l : List UInt8) : Nat := l.foldl (fun a c => 10 * a + (c.toNat - 48)) 0
def numD (l : List UInt8) : Int := if l.all isDig = true ∧ l.length ≤ 10 ∧ l ≠ [] ∧ digits (valD l) = l then (valD l : Int) else -1
theorem valD_take (l : List UInt8) (k : Nat) (h : k < l.length) : valD (l.take (k + 1)) = 10 * valD (l.take k) + ((l.getD k 0).toNat - 48) := by
  have e : l[k]? = some l[k] := List.getElem?_eq_getElem h
  unfold valD
  rw [List.take_add_one, List.foldl_append, List.getD_eq_getElem?_getD, e]
  rfl
theorem valD_lt : ∀ (k : Nat) (l : List UInt8), l.length ≤ k → l.all isDig = true → valD l < 10 ^ k := by
  intro k
  induction k with
  | zero => intro l h _; have : l = [] := by simpa using h
            subst this; simp [valD]
  | succ k ih =>
    intro l h hd
    rcases List.eq_nil_or_concat l with rfl | ⟨l', c, rfl⟩
    · exact Nat.pow_pos (by decide)
    · simp only [List.concat_eq_append] at h hd ⊢
      rw [List.all_append, Bool.and_eq_true] at hd
      have h1 := ih l' (by simp at h; omega) hd.1
      have hc : isDig c = true := by simpa using hd.2
      simp only [isDig, decide_eq_true_eq] at hc
      have : valD (l' ++ [c]) = 10 * valD l' + (c.toNat - 48) := by simp [valD]
      rw [this, Nat.pow_succ]
      omega
theorem number_fun (l : List UInt8) (hl : l.length < 2 ^ 62) : Fun Tryd.prog GH 80 [str l] [] (fun sv own' => sv = i64 (numD l) ∧ own' = []) := by
  refine fun_of_vcQ (D := fun _ => none) Tryd.func80 (rfl : Tryd.f80.body = some _) (by kernel_rfl) (by kernel_rfl) (by simp [Tryd.f80]) (by kernel_rfl) ?_; intro Q hE hQ
  simp only [go_sem, seval, str, str_size]
  refine loop_rule (A := { k : Nat // k ≤ l.length ∧ k ≤ 10 ∧ (l.take k).all isDig = true })
    (fun k => [(0, str l), (3, i64 ((valD (l.take k.1) : Nat) : Int)), (7, i64 (l.length : Int)), (8, i64 (k.1 : Int))])
    (fun _ => []) (fun k => l.length - k.1) ⟨0, Nat.zero_le _, Nat.zero_le _, rfl⟩ ?_ ?_
  · refine Red.sub ?_
    simp only [go_sem, seval, str]
    rfl
  · rintro ⟨k, hk, hk10, hall⟩
    have e1 : IntKind.i64.wrap ((k : Int) + 1) = ((k + 1 : Nat) : Int) := by rw [i64_in] <;> omega
    have hv := valD_lt 10 (l.take k) (by simp; omega) hall
    by_cases hlt : k < l.length
    · have hlt' : (k : Int) < (l.length : Int) := by omega
      have hk0 : (0 : Int) ≤ (k : Int) := by omega
      have hat := all_take isDig l k hlt
      have hno := all_of_take isDig l k hlt
      have hvt := valD_take l k hlt
      generalize hc : l.getD k 0 = c at hat hno hvt
      have hcl := c.toNat_lt
      have e2 : IntKind.i64.wrap (c.toNat : Int) = (c.toNat : Int) := by rw [i64_in] <;> omega
      have e3 : IntKind.i64.wrap ((c.toNat : Int) - 48) = (c.toNat : Int) - 48 := by rw [i64_in] <;> omega
      have bad : isDig c = false → numD l = -1 := fun h => by
        unfold numD; rw [if_neg]; rintro ⟨h1, _⟩; rw [hno h] at h1; cases h1
      by_cases d1 : (c.toNat : Int) - 48 < 0
      · simp only [go_sem, seval, str, str_size, str_toList, hlt', hk0, Int.toNat_natCast, hc, e2, e3, d1, Tryd.results80]
        exact hE _ _ ⟨by rw [bad (by rw [isDig, decide_eq_false_iff_not]; omega)]; rfl, rfl⟩
      · by_cases d2 : 9 < (c.toNat : Int) - 48
        · simp only [go_sem, seval, str, str_size, str_toList, hlt', hk0, Int.toNat_natCast, hc, e2, e3, d1, d2, Tryd.results80]
          exact hE _ _ ⟨by rw [bad (by rw [isDig, decide_eq_false_iff_not]; omega)]; rfl, rfl⟩
        · by_cases d3 : 9 < (k : Int)
          · simp only [go_sem, seval, str, str_size, str_toList, hlt', hk0, Int.toNat_natCast, hc, e2, e3, d1, d2, d3, Tryd.results80]
            refine hE _ _ ⟨?_, rfl⟩
            have : numD l = -1 := by unfold numD; rw [if_neg]; rintro ⟨_, h2, _⟩; omega
            rw [this]; rfl
          · have hok : isDig c = true := by rw [isDig, decide_eq_true_eq]; omega
            have e4 : IntKind.i64.wrap (10 * ((valD (l.take k) : Nat) : Int)) = 10 * ((valD (l.take k) : Nat) : Int) := by rw [i64_in]; omega
            have e5 : IntKind.i64.wrap (10 * ((valD (l.take k) : Nat) : Int) + ((c.toNat : Int) - 48)) = ((valD (l.take (k + 1)) : Nat) : Int) := by rw [hvt, i64_in] <;> omega
            simp only [go_sem, seval, str, str_size, str_toList, hlt', hk0, Int.toNat_natCast, hc, e1, e2, e3, d1, d2, d3, e4, e5]
            refine ⟨⟨k + 1, by omega, by omega, by rw [hat, hall, hok]; rfl⟩, by simp only; omega, Red.sub ?_⟩
            simp only [go_sem, seval]
    · have hge : ¬ (k : Int) < (l.length : Int) := by omega
      have hkl : k = l.length := by omega
      have hall' : l.all isDig = true := by rw [hkl, List.take_length] at hall; exact hall
      have htk : l.take k = l := by rw [hkl, List.take_length]
      rw [htk] at hv
      have et : (⟨l.toArray⟩ : ByteArray).toList = l := str_toList l
      cases hb : (l == ([] : List UInt8))
      · have hne : l ≠ [] := by simpa using hb
        have eb : (l == (⟨#[]⟩ : ByteArray).toList) = false := by rw [show (⟨#[]⟩ : ByteArray).toList = [] from str_toList []]; exact hb
        simp only [go_sem, seval, str, htk, hge, et, eb]
        refine cg_frame (digits_fun (valD l) (by omega)) [] rfl trivial rfl ?_
        rintro sv own' ⟨rfl, rfl⟩
        refine ⟨Nat.le_refl _, ?_⟩
        have hl1 : l.length ≤ 10 := by omega
        cases hd : (digits (valD l) == l)
        · have hd' : digits (valD l) ≠ l := by simpa using hd
          simp only [go_sem, seval, str, et, str_toList, hd, Tryd.results80]
          refine hE _ _ ⟨?_, rfl⟩
          have : numD l = -1 := by unfold numD; rw [if_neg]; rintro ⟨_, _, _, h⟩; exact hd' h
          rw [this]; rfl
        · have hd' : digits (valD l) = l := by simpa using hd
          simp only [go_sem, seval, str, et, str_toList, hd, Tryd.results80]
          refine hE _ _ ⟨?_, rfl⟩
          have : numD l = (valD l : Int) := by unfold numD; rw [if_pos ⟨hall', hl1, hne, hd'⟩]
          rw [this]; rfl
      · have hne : l = [] := by simpa using hb
        have eb : (l == (⟨#[]⟩ : ByteArray).toList) = true := by rw [show (⟨#[]⟩ : ByteArray).toList = [] from str_toList []]; exact hb
        simp only [go_sem, seval, str, htk, hge, et, eb, Tryd.results80]
        refine hE _ _ ⟨?_, rfl⟩
        have : numD l = -1 := by unfold numD; rw [if_neg]; rintro ⟨_, _, h, _⟩; exact h hne
        rw [this]; rfl

theorem cutP_length {s p r : List UInt8} (h : cutP s p = some r) : r.length ≤ s.length := by
  unfold cutP at h
  split at h
  · injection h with h; subst h; simp
  · cases h
theorem beq_str (a b : List UInt8) : (a == b) = decide (a = b) := by rw [Bool.eq_iff_iff]; simp
def walL (l : List UInt8) : Option Int := match cutP l walP with | some s => (if 0 < numD s ∧ walD (numD s) = l then some (numD s) else none) | none => none
def freeL (l : List UInt8) : Option Int := match cutP l freeP with | some s => (if 0 ≤ numD s ∧ poolD (numD s) = l then some (numD s) else none) | none => none
def parseD (l : List UInt8) : Int × Int := match walL l with
  | some n => (1, n)
  | none => match freeL l with
    | some n => (2, n)
    | none => (0, 0)
theorem parse_fun (l : List UInt8) (hl : l.length < 2 ^ 62) : Fun Tryd.prog GH 72 [str l] [] (fun sv own' => sv = .tup [i64 (parseD l).1, i64 (parseD l).2] ∧ own' = []) := by
  refine fun_of_vcQ (D := fun _ => none) Tryd.func72 (rfl : Tryd.f72.body = some _) (by kernel_rfl) (by kernel_rfl) (by simp [Tryd.f72]) (by kernel_rfl) ?_; intro Q hE hQ
  simp only [go_sem, seval]
  refine cg_frame (cutPrefix_fun l walP hl) [] rfl trivial rfl ?_
  rintro sv own' ⟨rfl, rfl⟩
  refine ⟨Nat.le_refl _, ?_⟩
  have et : (⟨l.toArray⟩ : ByteArray).toList = l := str_toList l
  obtain ⟨w, hw⟩ : ∃ w, w = cutP l walP := ⟨_, rfl⟩
  rcases w with _ | s
  case' none =>
    have hwal : walL l = none := by simp [walL, ← hw]
    simp only [go_sem, seval, cutV, ← hw, bl]
  case' some =>
    have hsl := cutP_length hw.symm
    simp only [go_sem, seval, cutV, ← hw, bl]
    refine cg_frame (number_fun s (by omega)) [] rfl trivial rfl ?_
    rintro sv own' ⟨rfl, rfl⟩
    refine ⟨Nat.le_refl _, ?_⟩
    rcases Classical.em (0 < numD s) with h1 | h1
    case' inl =>
      simp only [go_sem, seval, h1]
      refine cg_frame (wal_fun (numD s)) [] rfl trivial rfl ?_
      rintro sv own' ⟨rfl, rfl⟩
      refine ⟨Nat.le_refl _, ?_⟩
      rcases h2 : (walD (numD s) == l) with _ | _
      case true =>
        simp only [go_sem, seval, str, et, str_toList, h2, Tryd.results72]
        refine hE _ _ ⟨?_, rfl⟩
        have h2' : walD (numD s) = l := by simpa using h2
        have : walL l = some (numD s) := by simp [walL, ← hw, h1, h2']
        simp [parseD, this, i64]
      case' false =>
        simp only [go_sem, seval, str, et, str_toList, h2]
        have h2' : walD (numD s) ≠ l := by simpa using h2
        have hwal : walL l = none := by simp [walL, ← hw, h2']
    case' inr =>
      have hwal : walL l = none := by simp [walL, ← hw, h1]
      simp only [go_sem, seval, h1]
  all_goals
    refine cg_frame (cutPrefix_fun l freeP hl) [] rfl trivial rfl ?_
    rintro sv own' ⟨rfl, rfl⟩
    refine ⟨Nat.le_refl _, ?_⟩
    obtain ⟨f, hf⟩ : ∃ f, f = cutP l freeP := ⟨_, rfl⟩
    rcases f with _ | s'
    · simp only [go_sem, seval, cutV, ← hf, bl, Tryd.results72]
      refine hE _ _ ⟨?_, rfl⟩
      have : freeL l = none := by simp [freeL, ← hf]
      simp [parseD, hwal, this, i64]
    · have hsl' := cutP_length hf.symm
      simp only [go_sem, seval, cutV, ← hf, bl]
      refine cg_frame (number_fun s' (by omega)) [] rfl trivial rfl ?_
      rintro sv own' ⟨rfl, rfl⟩
      refine ⟨Nat.le_refl _, ?_⟩
      by_cases h3 : 0 ≤ numD s'
      · simp only [go_sem, seval, h3]
        refine cg_frame (pool_fun (numD s')) [] rfl trivial rfl ?_
        rintro sv own' ⟨rfl, rfl⟩
        refine ⟨Nat.le_refl _, ?_⟩
        rcases h4 : (poolD (numD s') == l) with _ | _
        · simp only [go_sem, seval, str, et, str_toList, h4, Tryd.results72]
          refine hE _ _ ⟨?_, rfl⟩
          have h4' : poolD (numD s') ≠ l := by simpa using h4
          have : freeL l = none := by simp [freeL, ← hf, h4']
          simp [parseD, hwal, this, i64]
        · simp only [go_sem, seval, str, et, str_toList, h4, Tryd.results72]
          refine hE _ _ ⟨?_, rfl⟩
          have h4' : poolD (numD s') = l := by simpa using h4
          have : freeL l = some (numD s') := by simp [freeL, ← hf, h3, h4']
          simp [parseD, hwal, this, i64]
      · simp only [go_sem, seval, h3, Tryd.results72]
        refine hE _ _ ⟨?_, rfl⟩
        have : freeL l = none := by simp [freeL, ← hf, h3]
        simp [parseD, hwal, this, i64]
end Go.AM
namespace Go.AM
open Go Go.Proofs Go.IntWalk
set_option autoImplicit false
set_option maxRecDepth 100000

/-! ### The disk -/
structure FileD where
  lasting : List (List UInt8)
  seen : List (List UInt8)
  waits : List Bool
structure DiskD where
  files : List (List UInt8 × FileD)
  cap : Int
  ops : Int
  down : Bool
  told : Bool
  after : Int
def secRow (s : List UInt8) : List SV := s.map b8
@[go_sem] theorem renL_secRow (π : Nat → Nat) (s : List UInt8) : renL π (secRow s) = secRow s := by
  induction s with
  | nil => rfl
  | cons a s ih => simp only [secRow, List.map_cons, renL] at ih ⊢; rw [ih]; rfl
theorem secRow_length (s : List UInt8) : (secRow s).length = s.length := by simp [secRow]
theorem secRow_clean (s : List UInt8) : (secRow s).all SV.clean = true := by simp [secRow, List.all_eq_true, SV.clean, b8]
@[go_sem] theorem frz1_secRow (own : List SO) (s : List UInt8) : (secRow s).map (frz1 own) = secRow s := by
  simp only [secRow, List.map_map]
  exact List.map_congr_left fun _ _ => rfl
@[go_sem] theorem gsL_secRow (own : List SO) (s : List UInt8) : gsL own (secRow s) = [] := by
  induction s with
  | nil => rfl
  | cons a s ih => simp only [secRow, List.map_cons, gsL] at ih ⊢; rw [ih]; rfl
def secs (l : List (List UInt8)) : List (List SV) := l.map secRow
def wts (l : List Bool) : List (List SV) := l.map fun b => [bl b]
def grpF (f : FileD) : List SO := [.cells 67 [.gs 1, .gs 2, .gs 3], .grow 92 64 (secs f.lasting), .grow 92 64 (secs f.seen), .grow 4 1 (wts f.waits)]
def fent (fs : List (List UInt8 × FileD)) : List (List UInt8 × List SO) := fs.map fun p => (p.1, grpF p.2)
def fmap (fs : List (List UInt8 × FileD)) : SO := .rep (gmap (fent fs) none none)
def dCells (m : Nat) (d : DiskD) : SO := .cells 61 [.mp m, i64 d.cap, i64 d.ops, bl d.down, bl d.told, i64 d.after]
def dOwn (d : DiskD) : List SO := [dCells 1 d, fmap d.files]
@[go_sem] theorem renO_fmap (π : Nat → Nat) (fs : List (List UInt8 × FileD)) : renO π (fmap fs) = fmap fs := by
  rw [fmap, renO_gmap]; rfl
@[go_sem] theorem renO_dCells (π : Nat → Nat) (m : Nat) (d : DiskD) : renO π (dCells m d) = dCells (π m) d := rfl
theorem fmap_gmap (fs : List (List UInt8 × FileD)) : fmap fs = .rep (gmap (fent fs) none none) := rfl

def mayE (d : DiskD) : Int := if d.down then 9 else 0
theorem may_fun (d : DiskD) : Fun Tryd.prog GH 22 [.ptr 0 0] (dOwn d) (fun sv own' => sv = i64 (mayE d) ∧ own' = dOwn d) := by
  refine fun_of_vcQ (D := fun _ => none) Tryd.func22 (rfl : Tryd.f22.body = some _) (by kernel_rfl) (by kernel_rfl) (by simp [Tryd.f22]) (by kernel_rfl) ?_; intro Q hE hQ
  simp only [go_sem, seval, dOwn, dCells, bl, Tryd.results22]
  refine ⟨fun hd => ?_, fun hd => ?_⟩ <;> exact hE _ _ ⟨by simp [mayE, hd, i64], rfl⟩

def w64i (x : Int) : Int := IntKind.i64.wrap x
def opStops (d : DiskD) : Bool := d.told && decide (d.after = 0)
def opD (d : DiskD) : DiskD := if opStops d then { d with told := false, down := true } else { d with after := w64i (d.after - 1), ops := w64i (d.ops + 1) }
def opE (d : DiskD) : Int := if opStops d then 9 else 0
theorem op_fun (m : Nat) (d : DiskD) (rest : List SO) : Fun Tryd.prog GH 53 [.ptr 0 0] (dCells m d :: rest) (fun sv own' => sv = i64 (opE d) ∧ own' = dCells m (opD d) :: rest) := by
  refine fun_of_vcQ (D := fun _ => none) Tryd.func53 (rfl : Tryd.f53.body = some _) (by kernel_rfl) (by kernel_rfl) (by simp [Tryd.f53]) (by kernel_rfl) ?_; intro Q hE hQ
  cases hd : d.told <;> by_cases ha : d.after = 0 <;> simp only [go_sem, seval, dCells, bl, hd, ha, Tryd.results53]
  all_goals exact hE _ _ ⟨by simp [opE, opStops, hd, ha, i64], by simp [opD, opStops, hd, ha, w64i, dCells, i64, bl]⟩

theorem then_fun (m : Nat) (d : DiskD) (rest : List SO) (f : FuncId) (caps : List SV) (PostF : List SO → Prop) (hf : opE d = 0 → Fun Tryd.prog GH f caps (dCells m (opD d) :: rest) (fun _ own' => PostF own')) :
    Fun Tryd.prog GH 25 [.ptr 0 0, .fn f [] caps] (dCells m d :: rest) (fun sv own' => (opE d ≠ 0 ∧ sv = i64 9 ∧ own' = dCells m (opD d) :: rest) ∨ (opE d = 0 ∧ sv = i64 0 ∧ PostF own')) := by
  refine fun_of_vcQ (D := fun _ => none) Tryd.func25 (rfl : Tryd.f25.body = some _) (by kernel_rfl) (by kernel_rfl) (by simp [Tryd.f25]) (by kernel_rfl) ?_; intro Q hE hQ
  simp only [go_sem, seval]
  refine cg_all (op_fun m d rest) ?_
  rintro sv own' ⟨rfl, rfl⟩
  cases hs : opStops d
  · have h0 : opE d = 0 := by simp [opE, hs]
    simp only [go_sem, seval, h0]
    refine cg_all (by simpa using hf h0) ?_
    rintro sv own' hp
    simp only [go_sem, seval, Tryd.results25]
    exact hE _ _ (.inr ⟨h0, rfl, hp⟩)
  · have h9 : opE d = 9 := by simp [opE, hs]
    simp only [go_sem, seval, h9, Tryd.results25]
    exact hE _ _ (.inl ⟨by rw [h9]; nofun, rfl, rfl⟩)

/-- A file's struct and its slices, as own objects. -/
def grpAt (n : Nat) (f : FileD) : List SO := [.cells 67 [.gs (n + 1), .gs (n + 2), .gs (n + 3)], .grow 92 64 (secs f.lasting), .grow 92 64 (secs f.seen), .grow 4 1 (wts f.waits)]
theorem grp_ren (n : Nat) (f : FileD) : (grpF f).map (renO (n + ·)) = grpAt n f := by simp [grpF, grpAt, go_sem]
def fmapH (fs : List (List UInt8 × FileD)) (s : List UInt8) (n : Nat) : SO := .rep (gmap (fent fs) (some (s, n)) none)
@[go_sem] theorem renO_fmapH (π : Nat → Nat) (fs : List (List UInt8 × FileD)) (s : List UInt8) (n : Nat) : renO π (fmapH fs s n) = fmapH fs s (π n) := by
  rw [fmapH, renO_gmap]; rfl
theorem fent_get (fs : List (List UInt8 × FileD)) (s : List UInt8) : mget (fent fs) s = (mget fs s).map grpF := mget_map grpF fs s
theorem str_key (l : List UInt8) : str l = .v (keyV l) := rfl

section
variable {C : Cx} {own own2 : List SO} {env : Env} {o : Oper} {K : Env → List SO → Prop}
theorem look_disk {m x : Operand} {c : Bool} {j : Nat} {fs : List (List UInt8 × FileD)} {s : List UInt8} (hP : C.P = Tryd.prog) (hop : o.op = .lookup 59 m x c) (hm : ev C env m = .mp j) (hx : ev C env x = str s) (hj : own[j]? = some (fmap fs))
    (h0 : mget fs s = none → K (env.put o.dst (lkr c (.v (.pointer none)) false)) own)
    (h1 : ∀ f, mget fs s = some f → K (env.put o.dst (lkr c (.ptr own.length 0) true)) (own.set j (fmapH fs s own.length) ++ grpAt own.length f)) : OpGoal C o K env own := by
  refine op_lookup (es := fent fs) (b := none) (k := s) hop (kt := 9) (et := 63) (by rw [hP]; kernel_rfl) (by rw [hP]; kernel_rfl) (fun w => by rw [hP]; exact zero_run ti63 rfl w) hm hx hj ?_ ?_ ?_
  · intro os h
    rw [fent_get] at h
    obtain ⟨f, _, rfl⟩ := Option.map_eq_some_iff.1 h
    exact ⟨_, _, rfl⟩
  · intro h
    rw [fent_get] at h
    exact h0 (by simpa using h)
  · intro os h
    rw [fent_get] at h
    obtain ⟨f, hf, rfl⟩ := Option.map_eq_some_iff.1 h
    have := h1 f hf
    rw [grp_ren]
    exact this
theorem look_same {m x : Operand} {c : Bool} {j n : Nat} {fs : List (List UInt8 × FileD)} {s : List UInt8} {T : TypeId} {cs : List SV} (hP : C.P = Tryd.prog) (hop : o.op = .lookup 59 m x c) (hm : ev C env m = .mp j) (hx : ev C env x = str s) (hj : own[j]? = some (fmapH fs s n))
    (hn : own[n]? = some (.cells T cs)) (h1 : K (env.put o.dst (lkr c (.ptr n 0) true)) own) : OpGoal C o K env own :=
  op_lookup_same (es := fent fs) (b := none) (k := s) hop (kt := 9) (et := 63) (by rw [hP]; kernel_rfl) (by rw [hP]; kernel_rfl) hm hx hj hn h1
end

theorem find_fun (d : DiskD) (s : List UInt8) : Fun Tryd.prog GH 45 [.ptr 0 0, str s] (dOwn d) (fun sv own' =>
    (mayE d ≠ 0 ∧ sv = .tup [.v (.pointer none), i64 9] ∧ own' = dOwn d) ∨ (mayE d = 0 ∧ mget d.files s = none ∧ sv = .tup [.v (.pointer none), i64 7] ∧ own' = dOwn d) ∨
    (mayE d = 0 ∧ ∃ f, mget d.files s = some f ∧ sv = .tup [.ptr 2 0, i64 0] ∧ own' = [dCells 1 d, fmapH d.files s 2] ++ grpAt 2 f)) := by
  refine fun_of_vcQ (D := fun _ => none) Tryd.func45 (rfl : Tryd.f45.body = some _) (by kernel_rfl) (by kernel_rfl) (by simp [Tryd.f45]) (by kernel_rfl) ?_; intro Q hE hQ
  simp only [go_sem, seval]
  refine cg_all (may_fun d) ?_
  rintro sv own' ⟨rfl, rfl⟩
  cases hd : d.down
  · have h0 : mayE d = 0 := by simp [mayE, hd]
    simp only [go_sem, seval, h0, dOwn, dCells]
    refine look_disk (fs := d.files) (s := s) (j := 1) rfl rfl rfl rfl rfl ?_ ?_
    · intro hn
      simp only [go_sem, seval, Tryd.results45]
      exact hE _ _ (.inr (.inl ⟨h0, hn, rfl, rfl⟩))
    · intro f hf
      simp only [go_sem, seval, grpAt, Tryd.results45]
      exact hE _ _ (.inr (.inr ⟨h0, f, hf, rfl, rfl⟩))
  · have h9 : mayE d = 9 := by simp [mayE, hd]
    simp only [go_sem, seval, h9, Tryd.results45]
    exact hE _ _ (.inl ⟨by rw [h9]; nofun, rfl, rfl⟩)
end Go.AM
namespace Go.AM
open Go Go.Proofs Go.IntWalk
set_option autoImplicit false
set_option maxRecDepth 100000

theorem fent_keys (fs : List (List UInt8 × FileD)) : (fent fs).map (·.1) = fs.map (·.1) := by simp [fent, Function.comp_def]
theorem fent_set (fs : List (List UInt8 × FileD)) (s : List UInt8) (f : FileD) : mset (fent fs) s (grpF f) = fent (mset fs s f) := mset_map grpF fs s f

section
variable {own : List SO}
theorem pack_disk {j n : Nat} {fs : List (List UInt8 × FileD)} {s : List UInt8} (f : FileD) (hj : own[j]? = some (fmapH fs s n)) (h0 : own[n]? = some (.cells 67 [.gs (n + 1), .gs (n + 2), .gs (n + 3)]))
    (h1 : own[n + 1]? = some (.grow 92 64 (secs f.lasting))) (h2 : own[n + 2]? = some (.grow 92 64 (secs f.seen))) (h3 : own[n + 3]? = some (.grow 4 1 (wts f.waits))) (hjn : j < n) :
    RedS GH own (goneAll (own.set j (fmap (mset fs s f))) [n, n + 1, n + 2, n + 3]) := by
  have := pack_rule (G := GH) (os := grpF f) (idx := [n, n + 1, n + 2, n + 3]) hj rfl (by simp [noDup]) (by simp; omega) ⟨h0, h1, h2, h3, trivial⟩
  rw [fent_set] at this
  exact this
end

theorem red_disk {sv : SV} {d : DiskD} {s : List UInt8} (f : FileD) (extra : List SO) (hsv : ren (pick [0, 1] ([dCells 1 d, fmapH d.files s 2] ++ grpAt 2 f ++ extra).length) sv = sv) :
    RedV GH 2 sv ([dCells 1 d, fmapH d.files s 2] ++ grpAt 2 f ++ extra) sv (dOwn { d with files := mset d.files s f }) := by
  refine Red.trans (Red.ofS (pack_disk (j := 1) (n := 2) f rfl rfl rfl rfl rfl (by decide))) ?_
  refine Red.pick (idx := [0, 1]) rfl rfl ⟨rfl, ?_, trivial⟩ ⟨?_, trivial⟩
  · rw [renO_fmap]; rfl
  · have : (goneAll (([dCells 1 d, fmapH d.files s 2] ++ grpAt 2 f ++ extra).set 1 (fmap (mset d.files s f))) [2, 2 + 1, 2 + 2, 2 + 3]).length = ([dCells 1 d, fmapH d.files s 2] ++ grpAt 2 f ++ extra).length := by simp [goneAll_length]
    rw [this, hsv]; rfl

def sizeD (d : DiskD) (s : List UInt8) : Int := match mget d.files s with | some f => f.seen.length | none => 0
theorem secs_length (l : List (List UInt8)) : (secs l).length = l.length := by simp [secs]
theorem wts_length (l : List Bool) : (wts l).length = l.length := by simp [wts]
theorem size_fun (d : DiskD) (s : List UInt8) : Fun Tryd.prog GH 31 [.ptr 0 0, str s] (dOwn d) (fun sv own' => sv = i64 (sizeD d s) ∧ own' = dOwn d) := by
  refine fun_keys (j := 1) (es := fent d.files) rfl (by kernel_rfl) fun hkeys => ?_
  rw [fent_keys] at hkeys
  refine fun_of_vcQ (D := fun _ => none) Tryd.func31 (rfl : Tryd.f31.body = some _) (by kernel_rfl) (by kernel_rfl) (by simp [Tryd.f31]) (by kernel_rfl) ?_; intro Q hE hQ
  simp only [go_sem, seval, dOwn, dCells]
  refine look_disk (fs := d.files) (s := s) (j := 1) rfl rfl rfl rfl rfl ?_ ?_
  · intro hn
    simp only [go_sem, seval, Tryd.results31]
    exact hE _ _ ⟨by simp [sizeD, hn, i64], rfl⟩
  · intro f hf
    simp only [go_sem, seval, grpAt]
    refine look_same (fs := d.files) (s := s) (j := 1) (n := 2) rfl rfl rfl rfl rfl rfl ?_
    simp only [go_sem, seval, secs_length, Tryd.results31]
    refine hQ _ _ (i64 (sizeD d s)) (dOwn d) ?_ ⟨rfl, rfl⟩
    have := red_disk (sv := i64 (sizeD d s)) (d := d) (s := s) f [] rfl
    rw [mset_same hkeys hf] at this
    have e : i64 (sizeD d s) = .v (.int .i64 (f.seen.length : Int)) := by simp [sizeD, hf, i64]
    rw [e] at this ⊢
    exact this

def holdsF (f : FileD) (at_ n : Int) : Bool := decide (0 ≤ at_) && decide (0 ≤ n) && decide (at_ ≤ f.seen.length) && decide (n ≤ w64i (f.seen.length - at_))
theorem holds_fun (f : FileD) (at_ n : Int) : Fun Tryd.prog GH 46 [.ptr 0 0, i64 at_, i64 n] (grpAt 0 f) (fun sv own' => sv = bl (holdsF f at_ n) ∧ own' = grpAt 0 f) := by
  refine fun_of_vcQ (D := fun _ => none) Tryd.func46 (rfl : Tryd.f46.body = some _) (by kernel_rfl) (by kernel_rfl) (by simp [Tryd.f46]) (by kernel_rfl) ?_; intro Q hE hQ
  by_cases h1 : 0 ≤ at_ <;> by_cases h2 : 0 ≤ n <;> by_cases h3 : at_ ≤ (f.seen.length : Int) <;> by_cases h4 : n ≤ IntKind.i64.wrap ((f.seen.length : Int) - at_) <;>
    simp only [go_sem, seval, grpAt, secs_length, h1, h2, h3, h4, Tryd.results46]
  all_goals exact hE _ _ ⟨by simp [holdsF, w64i, bl, h1, h2, h3, h4], rfl⟩

theorem down_fun (d : DiskD) : Fun Tryd.prog GH 56 [.ptr 0 0] (dOwn d) (fun sv own' => sv = bl d.down ∧ own' = dOwn d) := by
  refine fun_of_vcQ (D := fun _ => none) Tryd.func56 (rfl : Tryd.f56.body = some _) (by kernel_rfl) (by kernel_rfl) (by simp [Tryd.f56]) (by kernel_rfl) ?_; intro Q hE hQ
  simp only [go_sem, seval, dOwn, dCells, bl, Tryd.results56]
  exact hE _ _ ⟨rfl, rfl⟩
end Go.AM
namespace Go.AM
open Go Go.Proofs Go.IntWalk
set_option autoImplicit false
set_option maxRecDepth 100000

/-! ### Write -/
def over {α : Type} (l : List α) (at_ : Nat) (new : List α) : List α := l.take at_ ++ new ++ l.drop (at_ + new.length)
def writeF (f : FileD) (at_ : Nat) (l : List (List UInt8)) : FileD := { f with seen := over f.seen at_ l, waits := over f.waits at_ (List.replicate l.length true) }
theorem over_secs (l : List (List UInt8)) (k : Nat) (new : List (List UInt8)) : (secs l).take k ++ secs new ++ (secs l).drop (k + new.length) = secs (over l k new) := by simp [secs, over]
def waitsAt (w : List Bool) (at_ k : Nat) : List Bool := w.take at_ ++ List.replicate k true ++ w.drop (at_ + k)
theorem waits_set (w : List Bool) (at_ k : Nat) (h : at_ + k < w.length) : (waitsAt w at_ k).set (at_ + k) true = waitsAt w at_ (k + 1) := by
  have e1 : (w.take at_ ++ List.replicate k true).length = at_ + k := by simp; omega
  have e2 : w.drop (at_ + k) = w.getD (at_ + k) false :: w.drop (at_ + (k + 1)) := by
    rw [List.drop_eq_getElem_cons h, List.getD_eq_getElem?_getD, List.getElem?_eq_getElem h]; rfl
  unfold waitsAt
  rw [List.set_append_right _ _ (by rw [e1]; exact Nat.le_refl _), e1, Nat.sub_self, e2, List.set_cons_zero, List.replicate_succ', ← List.append_assoc]
  simp
theorem waitsAt_length (w : List Bool) (at_ k : Nat) (h : at_ + k ≤ w.length) : (waitsAt w at_ k).length = w.length := by simp [waitsAt]; omega
theorem waitsAt_zero (w : List Bool) (at_ : Nat) : waitsAt w at_ 0 = w := by simp [waitsAt]
theorem wts_set (w : List Bool) (k : Nat) (b : Bool) : (wts w).set k [.v (.bool b)] = wts (w.set k b) := by simp [wts, bl]
theorem wts_get (w : List Bool) (k : Nat) (h : k < w.length) : (wts w)[k]? = some [bl (w.getD k false)] := by simp [wts, h]
theorem secs_flat {l : List (List UInt8)} : (secs l).map id = secs l := List.map_id _

theorem write1_fun (f : FileD) (at_ : Nat) (l : List (List UInt8)) (full : Bool) (hs : at_ + l.length ≤ f.seen.length) (hw : f.waits.length = f.seen.length) (hb : f.seen.length < 2 ^ 62) :
    Fun Tryd.prog GH 47 [.ptr 4 0, .ptr 5 0, .ptr 6 0] (grpAt 0 f ++ [.cells 63 [.ptr 0 0], .cells 3 [i64 at_], .cells 51 [.fsl 64 (secs l) full]])
      (fun _ own' => own' = grpAt 0 (writeF f at_ l) ++ [.cells 63 [.ptr 0 0], .cells 3 [i64 at_], .cells 51 [.fsl 64 (secs l) full]]) := by
  refine fun_of_vcQ (D := fun n => match n with | 0 => some (.fl 0 (.fl 1 (.fl 2 (.fl 3 (.fl 4 (.fl 5 (.fl 6 (.mv 7 [] (.done) .no)))))))) | 4 => some (.fl 0 (.fl 1 (.fl 2 (.fl 3 (.fl 4 (.fl 5 (.fl 6 (.fl 7 (.mv 8 [] (.done) .no))))))))) | _ => none) Tryd.func47 (rfl : Tryd.f47.body = some _) (by kernel_rfl) (by kernel_rfl) (by simp [Tryd.f47]) (by kernel_rfl) ?_; intro Q hE hQ
  have hle : at_ + (f.seen.length - at_) ≤ f.seen.length := by omega
  have hat : (0 : Int) ≤ (at_ : Int) := by omega
  have hat2 : at_ ≤ f.seen.length := by omega
  simp only [go_sem, seval, grpAt, secs_length, Int.toNat_natCast, hle, hat, hat2, Nat.le_refl]
  have hseen : (secs f.seen).take at_ ++ (secs l).take (f.seen.length - at_) ++ (secs f.seen).drop (at_ + min (f.seen.length - at_) l.length) = secs (over f.seen at_ l) := by
    have t1 : (secs l).take (f.seen.length - at_) = secs l := List.take_of_length_le (by rw [secs_length]; omega)
    rw [t1, show min (f.seen.length - at_) l.length = l.length by omega, over_secs]
  rw [hseen]
  refine loop_rule (A := { k : Nat // k ≤ l.length })
    (fun k => [(0, .ptr 4 0), (1, .ptr 5 0), (2, .ptr 6 0), (13, i64 (l.length : Int)), (14, i64 (k.1 : Int))])
    (fun k => [.cells 67 [.gs 1, .gs 2, .gs 3], .grow 92 64 (secs f.lasting), .grow 92 64 (secs (over f.seen at_ l)), .grow 4 1 (wts (waitsAt f.waits at_ k.1)), .cells 63 [.ptr 0 0], .cells 3 [i64 at_], .cells 51 [.fsl 64 (secs l) full]])
    (fun k => l.length - k.1) ⟨0, Nat.zero_le _⟩ ?_ ?_
  · rw [waitsAt_zero]
    refine Red.sub ?_
    simp only [go_sem, seval]
  · rintro ⟨k, hk⟩
    have e1 : IntKind.i64.wrap ((k : Int) + 1) = ((k + 1 : Nat) : Int) := by rw [i64_in] <;> omega
    by_cases hlt : k < l.length
    · have hlt' : (k : Int) < (l.length : Int) := by omega
      have e2 : IntKind.i64.wrap ((at_ : Int) + (k : Int)) = ((at_ + k : Nat) : Int) := by rw [i64_in] <;> omega
      have h0 : (0 : Int) ≤ ((at_ + k : Nat) : Int) := by omega
      have hlen : (waitsAt f.waits at_ k).length = f.waits.length := waitsAt_length _ _ _ (by omega)
      have hl2 : ((at_ + k : Nat) : Int) < (f.waits.length : Int) := by omega
      have hg : (wts (waitsAt f.waits at_ k))[at_ + k]? = some [bl ((waitsAt f.waits at_ k).getD (at_ + k) false)] := wts_get _ _ (by omega)
      simp only [go_sem, seval, hlt', e1, e2, h0, wts_length, hlen, hl2, Int.toNat_natCast, hg, Nat.le_refl, wts_set, waits_set f.waits at_ k (by omega)]
      refine ⟨⟨k + 1, by omega⟩, by simp only; omega, Red.sub ?_⟩
      simp only [go_sem, seval]
    · have hge : ¬ (k : Int) < (l.length : Int) := by omega
      have hkl : k = l.length := by omega
      simp only [go_sem, seval, hge, Tryd.results47]
      refine hE _ _ ?_
      subst hkl
      simp [grpAt, writeF, over, waitsAt, i64]

/-! ### Sync -/
def syncF (f : FileD) : FileD := { f with lasting := f.seen, waits := List.replicate f.waits.length false }
theorem sync1_fun (f : FileD) (hl : f.lasting.length = f.seen.length) :
    Fun Tryd.prog GH 50 [.ptr 4 0] (grpAt 0 f ++ [.cells 63 [.ptr 0 0]]) (fun _ own' => own' = grpAt 0 (syncF f) ++ [.cells 63 [.ptr 0 0]]) := by
  refine fun_of_vcQ (D := fun n => match n with | 0 => some (.fl 0 (.fl 1 (.fl 2 (.fl 3 (.fl 4 (.fl 5 (.fl 6 (.fl 7 (.mv 8 [] (.done) .no))))))))) | _ => none) Tryd.func50 (rfl : Tryd.f50.body = some _) (by kernel_rfl) (by kernel_rfl) (by simp [Tryd.f50]) (by kernel_rfl) ?_; intro Q hE hQ
  simp only [go_sem, seval, grpAt, secs_length, wts_length, hl, Tryd.results50]
  refine hE _ _ ?_
  have t1 : (secs f.seen).take f.seen.length = secs f.seen := List.take_of_length_le (by rw [secs_length]; omega)
  have t2 : (secs f.lasting).drop f.seen.length = [] := List.drop_of_length_le (by rw [secs_length]; omega)
  simp [t1, t2, grpAt, syncF, wts, bl]

/-! ### Rename -/
section
variable {C : Cx} {own own2 : List SO} {env : Env} {o : Oper} {K : Env → List SO → Prop}
theorem fent_del (fs : List (List UInt8 × FileD)) (s : List UInt8) : mdel (fent fs) s = fent (mdel fs s) := mdel_map grpF fs s
theorem fent_put (fs : List (List UInt8 × FileD)) (s : List UInt8) (f : FileD) : mput (fent fs) s (grpF f) = fent (mput fs s f) := mput_map grpF fs s f
def fmapN (fs : List (List UInt8 × FileD)) (s : List UInt8) (n : Nat) : SO := .rep (gmap (mput (fent fs) s []) (some (s, n)) none)
@[go_sem] theorem renO_fmapN (π : Nat → Nat) (fs : List (List UInt8 × FileD)) (s : List UInt8) (n : Nat) : renO π (fmapN fs s n) = fmapN fs s (π n) := by
  rw [fmapN, renO_gmap]; rfl
theorem upd_disk {m x y : Operand} {j n : Nat} {fs : List (List UInt8 × FileD)} {s : List UInt8} {T : TypeId} {cs : List SV} (hP : C.P = Tryd.prog) (hop : o.op = .mapUpdate 59 m x y) (hm : ev C env m = .mp j) (hx : ev C env x = str s) (hy : ev C env y = .ptr n 0)
    (hj : own[j]? = some (fmap fs)) (hn : own[n]? = some (.cells T cs)) (h1 : K (env.put o.dst .any) (own.set j (fmapN fs s n))) : OpGoal C o K env own :=
  op_mapUpdate (es := fent fs) (k := s) hop (kt := 9) (et := 63) (by rw [hP]; kernel_rfl) (by rw [hP]; kernel_rfl) hm hx hy hj hn h1
theorem del_disk {m x : Operand} {t' : TypeId} {j n : Nat} {fs : List (List UInt8 × FileD)} {s : List UInt8} (hP : C.P = Tryd.prog) (hop : o.op = .call ⟨.builtin .delete, #[m, x], #[59, t']⟩) (hm : ev C env m = .mp j) (hx : ev C env x = str s)
    (hj : own[j]? = some (fmapH fs s n)) (h1 : K (env.put o.dst .any) (own.set j (fmap (mdel fs s)))) : OpGoal C o K env own := by
  refine op_delete (es := fent fs) (b := none) (k := s) hop (kt := 9) (et := 63) (by rw [hP]; kernel_rfl) (by rw [hP]; kernel_rfl) hm hx hj ?_
  rw [outDel_same, fent_del]; exact h1
/-- A new file is put into the map. -/
theorem pack_new {j n a b c : Nat} {fs : List (List UInt8 × FileD)} {s : List UInt8} (f : FileD) (hj : own[j]? = some (fmapN fs s n)) (h0 : own[n]? = some (.cells 67 [.gs a, .gs b, .gs c]))
    (h1 : own[a]? = some (.grow 92 64 (secs f.lasting))) (h2 : own[b]? = some (.grow 92 64 (secs f.seen))) (h3 : own[c]? = some (.grow 4 1 (wts f.waits))) (hnd : noDup [n, a, b, c] = true) (hjn : [n, a, b, c].contains j = false) :
    RedS GH own (goneAll (own.set j (fmap (mput fs s f))) [n, a, b, c]) := by
  have := pack_rule (G := GH) (os := grpF f) (idx := [n, a, b, c]) hj rfl hnd hjn ⟨h0, h1, h2, h3, trivial⟩
  rw [mset_mput, fent_put] at this
  exact this
end

def renD (d : DiskD) (a b : List UInt8) (f : FileD) : DiskD := { d with files := mput (mdel d.files a) b f }
theorem rename1_fun (d : DiskD) (a b : List UInt8) (f : FileD) :
    Fun Tryd.prog GH 62 [.ptr 6 0, .ptr 7 0, .ptr 8 0, .ptr 9 0] ([dCells 1 d, fmapH d.files a 2] ++ grpAt 2 f ++ [.cells 37 [.ptr 0 0], .cells 9 [str a], .cells 63 [.ptr 2 0], .cells 9 [str b]])
      (fun _ own' => own' = [dCells 1 (renD d a b f), fmap (renD d a b f).files, .gone, .gone, .gone, .gone, .cells 37 [.ptr 0 0], .cells 9 [str a], .cells 63 [.ptr 2 0], .cells 9 [str b]]) := by
  refine fun_of_vcQ (D := fun n => match n with | 0 => some (.fl 0 (.fl 1 (.fl 2 (.fl 3 (.fl 4 (.mv 5 [] (.done) .no)))))) | 1 => some (.fl 0 (.fl 1 (.fl 2 (.fl 3 (.fl 4 (.fl 5 (.mv 6 [] (.done) .no))))))) | _ => none) Tryd.func62 (rfl : Tryd.f62.body = some _) (by kernel_rfl) (by kernel_rfl) (by simp [Tryd.f62]) (by kernel_rfl) ?_; intro Q hE hQ
  simp only [go_sem, seval, grpAt, dCells]
  refine del_disk (fs := d.files) (s := a) (j := 1) (n := 2) rfl rfl rfl rfl rfl ?_
  simp only [go_sem, seval]
  refine upd_disk (fs := mdel d.files a) (s := b) (j := 1) (n := 2) rfl rfl rfl rfl rfl rfl rfl ?_
  simp only [go_sem, seval, Tryd.results62]
  refine hQ _ _ _ _ (Red.ofS (pack_new (j := 1) (n := 2) (a := 3) (b := 4) (c := 5) f rfl rfl rfl rfl rfl rfl rfl)) ?_
  simp [goneAll, renD, dCells, i64, bl]

/-! ### Make -/
def zSec : List UInt8 := List.replicate 64 0
def newF (n : Nat) : FileD := ⟨List.replicate n zSec, List.replicate n zSec, List.replicate n false⟩
def makeD (d : DiskD) (s : List UInt8) (n : Nat) : DiskD := { d with files := mput d.files s (newF n) }
def zRows (n : Nat) : List (List SV) := List.replicate n (List.replicate 64 (.v (.int .u8 0)))
theorem make_end (d : DiskD) (s : List UInt8) (n : Nat) (o5 o6 o7 : SO) (a b c : Nat)
    (h1 : [SO.gone, .gone, .gone, .gone, .gone, o5, o6, o7][a]? = some (.grow 92 64 (zRows n))) (h2 : [SO.gone, .gone, .gone, .gone, .gone, o5, o6, o7][b]? = some (.grow 92 64 (zRows n))) (h3 : [SO.gone, .gone, .gone, .gone, .gone, o5, o6, o7][c]? = some (.grow 4 1 (List.replicate n [.v (.bool false)])))
    (hnd : noDup [8, a, b, c] = true) (hjn : [8, a, b, c].contains 1 = false) :
    RedV GH 5 (.tup []) [dCells 1 d, fmapN d.files s 8, .cells 37 [.ptr 0 0], .cells 9 [str s], .cells 3 [i64 n], o5, o6, o7, .cells 67 [.gs a, .gs b, .gs c]] (.tup [])
      [dCells 1 (makeD d s n), fmap (makeD d s n).files, .cells 37 [.ptr 0 0], .cells 9 [str s], .cells 3 [i64 n]] := by
  have hz : secs (List.replicate n zSec) = zRows n := by simp [zRows, secs, secRow, zSec, b8]
  have hw : wts (List.replicate n false) = List.replicate n [.v (.bool false)] := by simp [wts, bl]
  have key : ∀ (k : Nat) (x : SO), x ≠ .gone → [SO.gone, .gone, .gone, .gone, .gone, o5, o6, o7][k]? = some x →
      [dCells 1 d, fmapN d.files s 8, .cells 37 [.ptr 0 0], .cells 9 [str s], .cells 3 [i64 n], o5, o6, o7, .cells 67 [.gs a, .gs b, .gs c]][k]? = some x ∧ 4 < k ∧ k < 8 := by
    intro k x hx h
    rcases k with _ | _ | _ | _ | _ | _ | _ | _ | k <;> simp at h ⊢ <;> first | exact (hx h.symm).elim | exact h
  obtain ⟨a1, a2, a3⟩ := key a (.grow 92 64 (zRows n)) (fun e => by cases e) h1
  obtain ⟨b1, b2, b3⟩ := key b (.grow 92 64 (zRows n)) (fun e => by cases e) h2
  obtain ⟨c1, c2, c3⟩ := key c (.grow 4 1 (List.replicate n [.v (.bool false)])) (fun e => by cases e) h3
  refine Red.trans (Red.ofS (pack_new (j := 1) (n := 8) (a := a) (b := b) (c := c) (newF n) rfl rfl (by simp only [newF, hz]; exact a1) (by simp only [newF, hz]; exact b1) (by simp only [newF, hw]; exact c1) hnd hjn)) ?_
  refine Red.pick (idx := [0, 1, 2, 3, 4]) rfl rfl ?_ ⟨rfl, trivial⟩
  have hg : ∀ k, k < 5 → ∀ l : List SO, (goneAll l [8, a, b, c])[k]? = l[k]? := fun k hk l => by
    rw [goneAll_get]
    have : k ∉ [8, a, b, c] := by simp; omega
    rw [if_neg this]
  refine ⟨?_, ?_, ?_, ?_, ?_, trivial⟩ <;> rw [hg _ (by decide)]
  · rfl
  · exact congrArg some (renO_fmap _ _).symm
  · rfl
  · rfl
  · rfl
theorem make1_fun (d : DiskD) (s : List UInt8) (n : Nat) (hn : n ≤ 64) :
    Fun Tryd.prog GH 26 [.ptr 4 0, .ptr 2 0, .ptr 3 0] [dCells 1 d, fmap d.files, .cells 37 [.ptr 0 0], .cells 9 [str s], .cells 3 [i64 n]]
      (fun _ own' => own' = [dCells 1 (makeD d s n), fmap (makeD d s n).files, .cells 37 [.ptr 0 0], .cells 9 [str s], .cells 3 [i64 n]]) := by
  refine fun_of_vcQ (D := fun n => match n with | 0 => some (.fl 0 (.fl 1 (.fl 2 (.fl 3 (.fl 4 (.fl 5 (.fl 7 (.fl 9 (.mv 6 [0, 3, 4, 7, 9] (.mv 8 [0, 3, 4, 5, 9] (.mv 10 [0, 3, 4, 5, 7] (.fl 11 (.mv 12 [0, 3, 4] (.mv 13 [] (.done) .no) .no)) .no) (.mv 10 [0, 3, 4, 5, 7] (.mv 8 [0, 3, 4, 5, 9] (.fl 11 (.mv 12 [0, 3, 4] (.mv 13 [] (.done) .no) .no)) .no) .no)) (.mv 8 [0, 3, 4, 5, 9] (.mv 6 [0, 3, 4, 7, 9] (.mv 10 [0, 3, 4, 5, 7] (.fl 11 (.mv 12 [0, 3, 4] (.mv 13 [] (.done) .no) .no)) .no) (.mv 10 [0, 3, 4, 5, 7] (.mv 6 [0, 3, 4, 7, 9] (.fl 11 (.mv 12 [0, 3, 4] (.mv 13 [] (.done) .no) .no)) .no) .no)) (.mv 10 [0, 3, 4, 5, 7] (.mv 6 [0, 3, 4, 7, 9] (.mv 8 [0, 3, 4, 5, 9] (.fl 11 (.mv 12 [0, 3, 4] (.mv 13 [] (.done) .no) .no)) .no) (.mv 8 [0, 3, 4, 5, 9] (.mv 6 [0, 3, 4, 7, 9] (.fl 11 (.mv 12 [0, 3, 4] (.mv 13 [] (.done) .no) .no)) .no) .no)) .no))))))))))) | _ => none) Tryd.func26 (rfl : Tryd.f26.body = some _) (by kernel_rfl) (by kernel_rfl) (by simp [Tryd.f26]) (by kernel_rfl) ?_; intro Q hE hQ
  have h0 : (0 : Int) ≤ (n : Int) := by omega
  simp only [go_sem, seval, dCells, h0, mx64_eq, Int.le_refl, Int.toNat_natCast]
  repeat' apply And.intro
  all_goals first
    | omega
    | (refine upd_disk (fs := d.files) (s := s) (j := 1) (n := 8) rfl rfl rfl rfl rfl rfl rfl ?_
       simp only [go_sem, seval, Tryd.results26]
       refine hQ _ _ (.tup []) _ ?_ rfl
       first
         | exact make_end d s n _ _ _ 5 6 7 rfl rfl rfl rfl rfl
         | exact make_end d s n _ _ _ 5 7 6 rfl rfl rfl rfl rfl
         | exact make_end d s n _ _ _ 6 5 7 rfl rfl rfl rfl rfl
         | exact make_end d s n _ _ _ 6 7 5 rfl rfl rfl rfl rfl
         | exact make_end d s n _ _ _ 7 5 6 rfl rfl rfl rfl rfl
         | exact make_end d s n _ _ _ 7 6 5 rfl rfl rfl rfl rfl)
end Go.AM
namespace Go.AM
open Go Go.Proofs Go.IntWalk
set_option autoImplicit false
set_option maxRecDepth 100000

/-! ### New -/
def newD (cap : Int) : DiskD := ⟨[], max 0 (min cap 1048576), 0, false, false, 0⟩
theorem fmap_nil : fmap [] = .rep (gmap [] none none) := rfl
theorem dnew_fun (cap : Int) : Fun Tryd.prog GH 11 [i64 cap] [] (fun sv own' => sv = .ptr 1 0 ∧ own' = [fmap [], dCells 0 (newD cap)]) := by
  refine fun_of_vcQ (D := fun _ => none) Tryd.func11 (rfl : Tryd.f11.body = some _) (by kernel_rfl) (by kernel_rfl) (by simp [Tryd.f11]) (by kernel_rfl) ?_; intro Q hE hQ
  simp only [go_sem, seval]
  refine op_makeMap rfl ?_
  simp only [go_sem, seval, Tryd.results11]
  exact hE _ _ ⟨rfl, rfl⟩

/-! ### Write -/
def WFF (f : FileD) : Prop := f.lasting.length = f.seen.length ∧ f.waits.length = f.seen.length ∧ f.seen.length ≤ 64
theorem opStops_E (d : DiskD) : opE d = 0 ↔ opStops d = false := by cases h : opStops d <;> simp [opE, h]
def thenD (d : DiskD) (k : DiskD → DiskD) : DiskD × Int := if opStops d then (opD d, 9) else (k (opD d), 0)
def writeD (d : DiskD) (s : List UInt8) (at_ : Int) (l : List (List UInt8)) : DiskD × Int :=
  if mayE d ≠ 0 then (d, 9) else match mget d.files s with
  | none => (d, 7)
  | some f => if holdsF f at_ l.length then thenD d fun d => { d with files := mset d.files s (writeF f at_.toNat l) } else (d, 4)
theorem opD_files (d : DiskD) : (opD d).files = d.files := by unfold opD; split <;> rfl
theorem grpAt_len (n : Nat) (f : FileD) : (grpAt n f).length = 4 := rfl

section
variable {own : List SO}
theorem red_at {sv : SV} {d d' : DiskD} {s : List UInt8} {n : Nat} (f : FileD) (h0 : own[0]? = some (dCells 1 d')) (hj : own[1]? = some (fmapH d.files s n)) (hf : own[n]? = some (.cells 67 [.gs (n + 1), .gs (n + 2), .gs (n + 3)]))
    (h1 : own[n + 1]? = some (.grow 92 64 (secs f.lasting))) (h2 : own[n + 2]? = some (.grow 92 64 (secs f.seen))) (h3 : own[n + 3]? = some (.grow 4 1 (wts f.waits))) (hn : 1 < n)
    (hd : d'.files = mset d.files s f) (hsv : ren (pick [0, 1] own.length) sv = sv) : RedV GH 2 sv own sv (dOwn d') := by
  refine Red.trans (Red.ofS (pack_disk (j := 1) (n := n) f hj hf h1 h2 h3 hn)) ?_
  have hlen : 1 < own.length := (List.getElem?_eq_some_iff.1 hj).1
  refine Red.pick (idx := [0, 1]) rfl rfl ⟨?_, ?_, trivial⟩ ⟨?_, trivial⟩
  · rw [goneAll_get, if_neg (by simp; omega), List.getElem?_set_ne (by decide), h0]; rfl
  · rw [goneAll_get, if_neg (by simp; omega), List.getElem?_set_self hlen, renO_fmap, hd]
  · have : (goneAll (own.set 1 (fmap (mset d.files s f))) [n, n + 1, n + 2, n + 3]).length = own.length := by simp [goneAll_length]
    rw [this, hsv]; rfl
theorem red_two {sv : SV} {d : DiskD} (h0 : own[0]? = some (dCells 1 d)) (h1 : own[1]? = some (fmap d.files)) (hsv : ren (pick [0, 1] own.length) sv = sv) : RedV GH 2 sv own sv (dOwn d) := by
  refine Red.pick (idx := [0, 1]) rfl rfl ⟨?_, ?_, trivial⟩ ⟨?_, trivial⟩
  · rw [h0]; rfl
  · rw [h1, renO_fmap]
  · rw [hsv]; rfl
end

noncomputable def cx0 : Cx := ⟨Tryd.prog, 0, default, 0, GH, fun _ => none, fun _ => false, none, false⟩
theorem writeF_waits (f : FileD) (a : Nat) (l : List (List UInt8)) : (writeF f a l).lasting = f.lasting := rfl
theorem holds_true {f : FileD} {at_ : Int} {n : Nat} (h : holdsF f at_ n = true) (hb : f.seen.length ≤ 64) : ∃ a : Nat, at_ = a ∧ a + n ≤ f.seen.length := by
  simp only [holdsF, Bool.and_eq_true, decide_eq_true_eq] at h
  obtain ⟨⟨⟨h1, h2⟩, h3⟩, h4⟩ := h
  obtain ⟨a, rfl⟩ := Int.eq_ofNat_of_zero_le h1
  refine ⟨a, rfl, ?_⟩
  rw [w64i, i64_in _ (by omega)] at h4
  omega

theorem write_fun (d : DiskD) (s : List UInt8) (at_ : Int) (l : List (List UInt8)) (full : Bool) (hw : ∀ f, mget d.files s = some f → WFF f) (hl : l.length < 2 ^ 62) :
    Fun Tryd.prog GH 17 [.ptr 0 0, str s, i64 at_, .fsl 64 (secs l) full] (dOwn d) (fun sv own' => sv = i64 (writeD d s at_ l).2 ∧ own' = dOwn (writeD d s at_ l).1) := by
  refine fun_keys (j := 1) (es := fent d.files) rfl (by kernel_rfl) fun hkeys => ?_
  rw [fent_keys] at hkeys
  refine fun_of_vcQ (D := fun _ => none) Tryd.func17 (rfl : Tryd.f17.body = some _) (by kernel_rfl) (by kernel_rfl) (by simp [Tryd.f17]) (by kernel_rfl) ?_; intro Q hE hQ
  simp only [go_sem, seval, dOwn]
  refine cg_frame (find_fun d s) [0, 1] rfl ?_ rfl ?_
  · simp only [go_sem, seval, dOwn]; try trivial
  rintro sv own' (⟨h9, rfl, rfl⟩ | ⟨h0, hn, rfl, rfl⟩ | ⟨h0, f, hf, rfl, rfl⟩) <;> refine ⟨by simp [dOwn, grpAt], ?_⟩
  · simp only [go_sem, seval, dOwn, Tryd.results17]
    refine hQ _ _ (i64 9) (dOwn d) (red_two rfl rfl rfl) ⟨?_, ?_⟩ <;> simp [writeD, h9]
  · simp only [go_sem, seval, dOwn, Tryd.results17]
    refine hQ _ _ (i64 7) (dOwn d) (red_two rfl rfl rfl) ⟨?_, ?_⟩ <;> simp [writeD, h0, hn]
  · simp only [go_sem, seval, dOwn, grpAt, secs_length]
    refine cg_frame (holds_fun f at_ l.length) [4, 5, 6, 7] rfl ?_ rfl ?_
    · simp only [go_sem, seval, grpAt]; try trivial
    rintro sv own' ⟨rfl, rfl⟩
    refine ⟨Nat.le_refl _, ?_⟩
    cases hh : holdsF f at_ l.length
    · simp only [go_sem, seval, grpAt, bl, Tryd.results17]
      refine hQ _ _ (i64 4) (dOwn d) ?_ ⟨?_, ?_⟩
      · exact red_at (d := d) (s := s) (n := 4) f rfl rfl rfl rfl rfl rfl (by decide) (by rw [mset_same hkeys hf]) rfl
      · simp [writeD, h0, hf, hh]
      · simp [writeD, h0, hf, hh]
    · obtain ⟨hw1, hw2, hw3⟩ := hw f hf
      obtain ⟨a, rfl, ha⟩ := holds_true hh hw3
      simp only [go_sem, seval, grpAt, bl]
      refine cg_all (then_fun 1 d _ _ _ (fun own' => own' = [dCells 1 (opD d), fmapH d.files s 4, .cells 3 [i64 a], .cells 51 [.fsl 64 (secs l) full]] ++ grpAt 4 (writeF f a l) ++ [.cells 63 [.ptr 4 0]]) (fun hop => ?_)) ?_
      · refine fun_of_cg (C := cx0) (cg_frame (write1_fun f a l full ha hw2 (by omega)) [4, 5, 6, 7, 8, 2, 3] rfl ?_ rfl ?_)
        · simp only [go_sem, seval, grpAt]; try trivial
        rintro sv own' rfl
        refine ⟨by simp [grpAt], ?_⟩
        simp only [go_sem, seval, grpAt]
      · rintro sv own' (⟨h9, rfl, rfl⟩ | ⟨h0', rfl, rfl⟩)
        · have hst : opStops d = true := by
            cases h : opStops d
            · exact absurd ((opStops_E d).2 h) h9
            · rfl
          simp only [go_sem, seval, Tryd.results17]
          refine hQ _ _ (i64 9) (dOwn (opD d)) ?_ ⟨?_, ?_⟩
          · exact red_at (d := d) (s := s) (n := 4) f rfl rfl rfl rfl rfl rfl (by decide) (by rw [opD_files, mset_same hkeys hf]) rfl
          · simp [writeD, h0, hf, hh, thenD, hst]
          · simp [writeD, h0, hf, hh, thenD, hst]
        · have hst := (opStops_E d).1 h0'
          simp only [go_sem, seval, grpAt, Tryd.results17]
          refine hQ _ _ (i64 0) (dOwn { opD d with files := mset d.files s (writeF f a l) }) ?_ ⟨?_, ?_⟩
          · exact red_at (d := d) (s := s) (n := 4) (writeF f a l) rfl rfl rfl rfl rfl rfl (by decide) rfl rfl
          · simp [writeD, h0, hf, hh, thenD, hst]
          · simp [writeD, h0, hf, hh, thenD, hst, opD_files]
end Go.AM
namespace Go.AM
open Go Go.Proofs Go.IntWalk
set_option autoImplicit false
set_option maxRecDepth 100000

theorem stops_of {d : DiskD} (h : opE d ≠ 0) : opStops d = true := by
  cases hs : opStops d
  · exact absurd ((opStops_E d).2 hs) h
  · rfl
def syncD (d : DiskD) (s : List UInt8) : DiskD × Int :=
  if mayE d ≠ 0 then (d, 9) else match mget d.files s with
  | none => (d, 7)
  | some f => thenD d fun d => { d with files := mset d.files s (syncF f) }
theorem sync_fun (d : DiskD) (s : List UInt8) (hw : ∀ f, mget d.files s = some f → WFF f) :
    Fun Tryd.prog GH 19 [.ptr 0 0, str s] (dOwn d) (fun sv own' => sv = i64 (syncD d s).2 ∧ own' = dOwn (syncD d s).1) := by
  refine fun_keys (j := 1) (es := fent d.files) rfl (by kernel_rfl) fun hkeys => ?_
  rw [fent_keys] at hkeys
  refine fun_of_vcQ (D := fun _ => none) Tryd.func19 (rfl : Tryd.f19.body = some _) (by kernel_rfl) (by kernel_rfl) (by simp [Tryd.f19]) (by kernel_rfl) ?_; intro Q hE hQ
  simp only [go_sem, seval, dOwn]
  refine cg_frame (find_fun d s) [0, 1] rfl ?_ rfl ?_
  · simp only [go_sem, seval, dOwn]; try trivial
  rintro sv own' (⟨h9, rfl, rfl⟩ | ⟨h0, hn, rfl, rfl⟩ | ⟨h0, f, hf, rfl, rfl⟩) <;> refine ⟨by simp [dOwn, grpAt], ?_⟩
  · simp only [go_sem, seval, dOwn, Tryd.results19]
    refine hQ _ _ (i64 9) (dOwn d) (red_two rfl rfl rfl) ⟨?_, ?_⟩ <;> simp [syncD, h9]
  · simp only [go_sem, seval, dOwn, Tryd.results19]
    refine hQ _ _ (i64 7) (dOwn d) (red_two rfl rfl rfl) ⟨?_, ?_⟩ <;> simp [syncD, h0, hn]
  · obtain ⟨hw1, hw2, hw3⟩ := hw f hf
    simp only [go_sem, seval, dOwn, grpAt]
    refine cg_all (then_fun 1 d _ _ _ (fun own' => own' = [dCells 1 (opD d), fmapH d.files s 2] ++ grpAt 2 (syncF f) ++ [.cells 63 [.ptr 2 0]]) (fun hop => ?_)) ?_
    · refine fun_of_cg (C := cx0) (cg_frame (sync1_fun f hw1) [2, 3, 4, 5, 6] rfl ?_ rfl ?_)
      · simp only [go_sem, seval, grpAt]; try trivial
      rintro sv own' rfl
      refine ⟨by simp [grpAt], ?_⟩
      simp only [go_sem, seval, grpAt]
    · rintro sv own' (⟨h9, rfl, rfl⟩ | ⟨h0', rfl, rfl⟩)
      · have hst := stops_of h9
        simp only [go_sem, seval, Tryd.results19]
        refine hQ _ _ (i64 9) (dOwn (opD d)) ?_ ⟨?_, ?_⟩
        · exact red_at (d := d) (s := s) (n := 2) f rfl rfl rfl rfl rfl rfl (by decide) (by rw [opD_files, mset_same hkeys hf]) rfl
        · simp [syncD, h0, hf, thenD, hst]
        · simp [syncD, h0, hf, thenD, hst]
      · have hst := (opStops_E d).1 h0'
        simp only [go_sem, seval, grpAt, Tryd.results19]
        refine hQ _ _ (i64 0) (dOwn { opD d with files := mset d.files s (syncF f) }) ?_ ⟨?_, ?_⟩
        · exact red_at (d := d) (s := s) (n := 2) (syncF f) rfl rfl rfl rfl rfl rfl (by decide) rfl rfl
        · simp [syncD, h0, hf, thenD, hst]
        · simp [syncD, h0, hf, thenD, hst, opD_files]

def renameD (d : DiskD) (a b : List UInt8) : DiskD × Int :=
  if mayE d ≠ 0 then (d, 9) else match mget d.files a with
  | none => (d, 7)
  | some f => if nameRight b then (if a == b then (d, 0) else thenD d fun d => renD d a b f) else (d, 10)
theorem rename_fun (d : DiskD) (a b : List UInt8) (hb : b.length < 2 ^ 62) :
    Fun Tryd.prog GH 39 [.ptr 0 0, str a, str b] (dOwn d) (fun sv own' => sv = i64 (renameD d a b).2 ∧ own' = dOwn (renameD d a b).1) := by
  refine fun_keys (j := 1) (es := fent d.files) rfl (by kernel_rfl) fun hkeys => ?_
  rw [fent_keys] at hkeys
  refine fun_of_vcQ (D := fun _ => none) Tryd.func39 (rfl : Tryd.f39.body = some _) (by kernel_rfl) (by kernel_rfl) (by simp [Tryd.f39]) (by kernel_rfl) ?_; intro Q hE hQ
  simp only [go_sem, seval, dOwn, str]
  refine cg_frame (find_fun d a) [0, 1] rfl ?_ rfl ?_
  · simp only [go_sem, seval, dOwn]; try trivial
  rintro sv own' (⟨h9, rfl, rfl⟩ | ⟨h0, hn, rfl, rfl⟩ | ⟨h0, f, hf, rfl, rfl⟩) <;> refine ⟨by simp [dOwn, grpAt], ?_⟩
  · simp only [go_sem, seval, dOwn, Tryd.results39]
    refine hQ _ _ (i64 9) (dOwn d) (red_two rfl rfl rfl) ⟨?_, ?_⟩ <;> simp [renameD, h9]
  · simp only [go_sem, seval, dOwn, Tryd.results39]
    refine hQ _ _ (i64 7) (dOwn d) (red_two rfl rfl rfl) ⟨?_, ?_⟩ <;> simp [renameD, h0, hn]
  · simp only [go_sem, seval, dOwn, grpAt]
    refine cg_frame (right_fun b hb) [] rfl trivial rfl ?_
    rintro sv own' ⟨rfl, rfl⟩
    refine ⟨Nat.le_refl _, ?_⟩
    cases hr : nameRight b
    · simp only [go_sem, seval, bl, hr, Tryd.results39]
      refine hQ _ _ (i64 10) (dOwn d) ?_ ⟨?_, ?_⟩
      · exact red_at (d := d) (s := a) (n := 5) f rfl rfl rfl rfl rfl rfl (by decide) (by rw [mset_same hkeys hf]) rfl
      · simp [renameD, h0, hf, hr]
      · simp [renameD, h0, hf, hr]
    · cases hab : a == b
      · simp only [go_sem, seval, bl, hr, str_toList, hab]
        refine cg_all (then_fun 1 d _ _ _ (fun own' => own' = [dCells 1 (renD (opD d) a b f), fmap (renD (opD d) a b f).files, .cells 37 [.ptr 0 0], .cells 9 [str a], .cells 9 [str b], .gone, .gone, .gone, .gone, .cells 63 [.ptr 5 0]]) (fun hop => ?_)) ?_
        · refine fun_of_cg (C := cx0) (cg_frame (rename1_fun (opD d) a b f) [0, 1, 5, 6, 7, 8, 2, 3, 9, 4] rfl ?_ rfl ?_)
          · simp only [go_sem, seval, grpAt, opD_files]; try trivial
          rintro sv own' rfl
          refine ⟨by simp [grpAt], ?_⟩
          simp only [go_sem, seval, grpAt]
        · rintro sv own' (⟨h9, rfl, rfl⟩ | ⟨h0', rfl, rfl⟩)
          · have hst := stops_of h9
            simp only [go_sem, seval, Tryd.results39]
            refine hQ _ _ (i64 9) (dOwn (opD d)) ?_ ⟨?_, ?_⟩
            · exact red_at (d := d) (s := a) (n := 5) f rfl rfl rfl rfl rfl rfl (by decide) (by rw [opD_files, mset_same hkeys hf]) rfl
            · simp [renameD, h0, hf, hr, hab, thenD, hst]
            · simp [renameD, h0, hf, hr, hab, thenD, hst]
          · have hst := (opStops_E d).1 h0'
            simp only [go_sem, seval, grpAt, Tryd.results39]
            refine hQ _ _ (i64 0) (dOwn (renD (opD d) a b f)) (red_two rfl rfl rfl) ⟨?_, ?_⟩
            · simp [renameD, h0, hf, hr, hab, thenD, hst]
            · simp [renameD, h0, hf, hr, hab, thenD, hst]
      · simp only [go_sem, seval, bl, hr, str_toList, hab, Tryd.results39]
        refine hQ _ _ (i64 0) (dOwn d) ?_ ⟨?_, ?_⟩
        · exact red_at (d := d) (s := a) (n := 5) f rfl rfl rfl rfl rfl rfl (by decide) (by rw [mset_same hkeys hf]) rfl
        · simp [renameD, h0, hf, hr, hab]
        · simp [renameD, h0, hf, hr, hab]
end Go.AM
namespace Go.AM
open Go Go.Proofs Go.IntWalk
set_option autoImplicit false
set_option maxRecDepth 100000

/-! ### List -/
def fmapB (fs : List (List UInt8 × FileD)) (bs : List Nat) (since : Nat) : SO := .rep (gmap (fent fs) none (some (bs, since)))
@[go_sem] theorem renO_fmapB (π : Nat → Nat) (fs : List (List UInt8 × FileD)) (bs : List Nat) (since : Nat) : renO π (fmapB fs bs since) = fmapB fs bs since := by
  rw [fmapB, renO_gmap]; rfl
def nameAt (fs : List (List UInt8 × FileD)) (p : Nat) : List UInt8 := (fs.map (·.1)).getD p []
def listD (d : DiskD) : List (List UInt8) := msort (d.files.map (·.1))
def bornAt (bs : List Nat) (p : Nat) : Nat := bs.getD p 0

theorem perm_range {ps : List Nat} {n : Nat} (hn : ps.Nodup) (h1 : ∀ p ∈ ps, p < n) (h2 : ∀ p, p < n → p ∈ ps) : ps.Perm (List.range n) :=
  (List.perm_ext_iff_of_nodup hn List.nodup_range).2 fun p => ⟨fun h => by simpa using h1 p h, fun h => h2 p (by simpa using h)⟩
theorem map_nameAt (fs : List (List UInt8 × FileD)) : (List.range fs.length).map (nameAt fs) = fs.map (·.1) := by
  apply List.ext_getElem (by simp)
  intro i h1 h2
  simp at h1
  simp [nameAt, h1]
theorem msort_perm {l l' : List (List UInt8)} (h : l.Perm l') : msort l = msort l' := mergeSort_of_perm h
theorem strs_append (l : List (List UInt8)) (k : List UInt8) : strs l ++ [[SV.v (keyV k)]] = strs (l ++ [k]) := by simp [strs]

theorem list_fun (hS : SortOK Tryd.prog 71) (d : DiskD) (hd : d.files.length ≤ 1000000) :
    Fun Tryd.prog GH 52 [.ptr 0 0] (dOwn d) (fun sv own' => sv = .fsl 1 (strs (listD d)) false ∧ own' = dOwn d) := by
  refine fun_of_vcQ (D := fun _ => none) Tryd.func52 (rfl : Tryd.f52.body = some _) (by kernel_rfl) (by kernel_rfl) (by simp [Tryd.f52]) (by kernel_rfl) ?_; intro Q hE hQ
  simp only [go_sem, seval, dOwn, dCells]
  refine op_range (es := fent d.files) (j := 1) (kt := 9) (et := 63) rfl (by kernel_rfl) rfl rfl ?_
  intro bs since hbn hbl _
  have hbl : bs.length = d.files.length := by rw [hbl]; simp [fent]
  simp only [go_sem, seval]
  refine loop_rule (A := { ps : List Nat // ps.Nodup ∧ ∀ p ∈ ps, p < d.files.length })
    (fun ps => [(0, .ptr 0 0), (3, .gs 3), (11, .ptr 2 0)])
    (fun ps => [dCells 1 d, fmapB d.files bs since, .rep (iterR 1 since (ps.1.map (bornAt bs))), .grow 9 1 (strs (ps.1.map (nameAt d.files)))])
    (fun ps => d.files.length - ps.1.length) ⟨[], List.nodup_nil, nofun⟩ ?_ ?_
  · refine Red.trans (Red.nil 3 9 1 (by simp [dOwn]) rfl) (Red.sub ?_)
    simp only [go_sem, seval]
  · rintro ⟨ps, hps, hpl⟩
    have hlen : ps.length ≤ d.files.length := by
      have := List.Nodup.length_le_of_subset hps (l₂ := List.range d.files.length) (fun p hp => by simpa using hpl p hp)
      simpa using this
    simp only [go_sem, seval]
    refine op_next (n := 2) (j := 1) (since := since) (seen := ps.map (bornAt bs)) (bs := bs) (es := fent d.files) rfl rfl rfl rfl ?_ ?_
    · intro hall
      have hperm : ps.Perm (List.range d.files.length) := perm_range hps hpl fun p hp => by
        have hb : bornAt bs p ∈ bs := by
          have : p < bs.length := by omega
          simp only [bornAt, List.getD_eq_getElem?_getD, List.getElem?_eq_getElem this]
          exact List.getElem_mem this
        obtain ⟨q, hq, e⟩ := List.mem_map.1 (hall _ hb)
        have : q = p := by
          have h1 : q < bs.length := by have := hpl q hq; omega
          have h2 : p < bs.length := by omega
          simp only [bornAt, List.getD_eq_getElem?_getD, List.getElem?_eq_getElem h1, List.getElem?_eq_getElem h2] at e
          exact (List.getElem_inj hbn).1 e
        rw [← this]; exact hq
      have hs : msort (ps.map (nameAt d.files)) = listD d := by
        rw [listD, ← map_nameAt]; exact msort_perm (hperm.map _)
      simp only [go_sem, seval]
      refine cg_frame (sort_fun (G := GH) hS (by kernel_rfl) 9 (ps.map (nameAt d.files)) (by simp; omega)) [3] rfl ?_ rfl ?_
      · simp only [go_sem, seval]; try trivial
      rintro sv own' rfl
      refine ⟨by simp, ?_⟩
      simp only [go_sem, seval, hs, Tryd.results52]
      refine hQ _ _ (.fsl 1 (strs (listD d)) false) (dOwn d) ?_ ⟨rfl, rfl⟩
      refine Red.trans (Red.freeze (i := 3) rfl) (Red.trans (Red.ofS (gmap_forget (j := 1) rfl)) ?_)
      refine Red.pick (idx := [0, 1]) rfl rfl ⟨rfl, ?_, trivial⟩ ⟨rfl, trivial⟩
      rw [renO_fmap]; rfl
    · intro i p b hp hb hnb
      have hil : i < d.files.length := by
        have := (List.getElem?_eq_some_iff.1 hb).1; omega
      have hbi : bornAt bs i = b := by simp [bornAt, List.getD_eq_getElem?_getD, hb]
      have hpi : p.1 = nameAt d.files i := by
        have h1 : d.files[i]? = some d.files[i] := List.getElem?_eq_getElem hil
        simp only [fent, List.getElem?_map, h1, Option.map_some, Option.some.injEq] at hp
        subst hp
        simp [nameAt, hil]
      have hni : i ∉ ps := fun h => hnb (by rw [← hbi]; exact List.mem_map.2 ⟨i, h, rfl⟩)
      simp only [go_sem, seval]
      refine op_entry (n := 2) (j := 1) (i := i) (b := b) (since := since) (seen := ps.map (bornAt bs)) (bs := bs) (es := fent d.files) (p := p) rfl rfl rfl rfl hp hb ?_
      simp only [go_sem, seval, hpi, mx64_eq]
      refine ⟨by simp, by simp [strs, mx64_eq]; omega, ⟨ps ++ [i], ?_, ?_⟩, ?_, ?_⟩
      · rw [List.nodup_append]
        exact ⟨hps, by simp, fun a ha b hb => by simp at hb; subst hb; rintro rfl; exact hni ha⟩
      · intro q hq
        rcases List.mem_append.1 hq with hq | hq
        · exact hpl q hq
        · simp at hq; subst hq; exact hil
      · have : ps.length < d.files.length := by
          have h := List.Nodup.length_le_of_subset (l₁ := ps ++ [i]) (l₂ := List.range d.files.length) (by
            rw [List.nodup_append]
            exact ⟨hps, by simp, fun a ha b hb => by simp at hb; subst hb; rintro rfl; exact hni ha⟩) (fun q hq => by
            rcases List.mem_append.1 hq with hq | hq
            · simpa using hpl q hq
            · simp at hq; subst hq; simpa using hil)
          simp at h; omega
        simp only [List.length_append, List.length_cons, List.length_nil]; omega
      · refine Red.pick (idx := [0, 1, 2, 5]) rfl rfl ?_ ?_
        · refine ⟨rfl, ?_, ?_, ?_, trivial⟩
          · rw [renO_fmapB]; rfl
          · rw [renO_iter]
            simp only [List.map_append, List.map_cons, List.map_nil, hbi]; rfl
          · simp only [List.map_append, List.map_cons, List.map_nil, ← strs_append]; rfl
        · simp only [go_sem, seval]
end Go.AM
namespace Go.AM
open Go Go.Proofs Go.IntWalk
set_option autoImplicit false
set_option maxRecDepth 100000

/-! ### Used, Make -/
def WFD (d : DiskD) : Prop := d.files.length ≤ 64 ∧ ∀ s f, mget d.files s = some f → WFF f
def sumI (l : List Int) : Int := l.foldl (· + ·) 0
def usedD (d : DiskD) : Int := sumI ((listD d).map (sizeD d))
theorem sumI_take (l : List Int) (k : Nat) (h : k < l.length) : sumI (l.take (k + 1)) = sumI (l.take k) + l.getD k 0 := by
  have e : l[k]? = some l[k] := List.getElem?_eq_getElem h
  unfold sumI
  rw [List.take_add_one, List.foldl_append, List.getD_eq_getElem?_getD, e]
  rfl
theorem size_bound {d : DiskD} (hw : WFD d) (s : List UInt8) : 0 ≤ sizeD d s ∧ sizeD d s ≤ 64 := by
  unfold sizeD
  split
  · rename_i f hf
    have := (hw.2 s f hf).2.2
    omega
  · omega
theorem sumI_bound (l : List Int) (c : Int) (h : ∀ x ∈ l, 0 ≤ x ∧ x ≤ c) : 0 ≤ sumI l ∧ sumI l ≤ l.length * c := by
  have key : ∀ (l : List Int) (a : Int), (∀ x ∈ l, 0 ≤ x ∧ x ≤ c) → a ≤ l.foldl (· + ·) a ∧ l.foldl (· + ·) a ≤ a + l.length * c := by
    intro l
    induction l with
    | nil => intro a _; simp
    | cons x l ih =>
      intro a h
      have hx := h x (by simp)
      have := ih (a + x) (fun y hy => h y (by simp [hy]))
      simp only [List.foldl_cons, List.length_cons]
      have e : ((l.length + 1 : Nat) : Int) * c = l.length * c + c := by rw [Int.natCast_add, Int.add_mul]; simp
      omega
  have := key l 0 h
  unfold sumI
  omega
theorem strs_length (l : List (List UInt8)) : (strs l).length = l.length := by simp [strs]
theorem strs_getD (l : List (List UInt8)) (k : Nat) (h : k < l.length) : (strs l).getD k [] = [str (l.getD k [])] := by
  simp [strs, List.getD_eq_getElem?_getD, h]; rfl
theorem listD_length (d : DiskD) : (listD d).length = d.files.length := by simp [listD, msort]

theorem used_fun (hS : SortOK Tryd.prog 71) (d : DiskD) (hw : WFD d) :
    Fun Tryd.prog GH 24 [.ptr 0 0] (dOwn d) (fun sv own' => sv = i64 (usedD d) ∧ own' = dOwn d) := by
  refine fun_of_vcQ (D := fun _ => none) Tryd.func24 (rfl : Tryd.f24.body = some _) (by kernel_rfl) (by kernel_rfl) (by simp [Tryd.f24]) (by kernel_rfl) ?_; intro Q hE hQ
  simp only [go_sem, seval]
  refine cg_all (list_fun hS d (by have := hw.1; omega)) ?_
  rintro sv own' ⟨rfl, rfl⟩
  simp only [go_sem, seval, strs_length]
  have hn := hw.1
  refine loop_rule (A := { k : Nat // k ≤ (listD d).length })
    (fun k => [(0, .ptr 0 0), (3, i64 (sumI (((listD d).map (sizeD d)).take k.1))), (7, .fsl 1 (strs (listD d)) false), (8, i64 ((listD d).length : Int)), (9, i64 (k.1 : Int))])
    (fun _ => dOwn d) (fun k => (listD d).length - k.1) ⟨0, Nat.zero_le _⟩ ?_ ?_
  · refine Red.sub ?_
    simp only [go_sem, seval]
    rfl
  · rintro ⟨k, hk⟩
    have hlen := listD_length d
    have e1 : IntKind.i64.wrap ((k : Int) + 1) = ((k + 1 : Nat) : Int) := by rw [i64_in] <;> omega
    by_cases hlt : k < (listD d).length
    · have hlt' : (k : Int) < ((listD d).length : Int) := by omega
      have hk0 : (0 : Int) ≤ (k : Int) := by omega
      simp only [go_sem, seval, hlt', hk0, strs_length, Int.toNat_natCast, strs_getD _ _ hlt]
      refine cg_all (size_fun d _) ?_
      rintro sv own' ⟨rfl, rfl⟩
      have hsz := size_bound hw ((listD d).getD k [])
      have hb := sumI_bound (((listD d).map (sizeD d)).take k) 64 (fun x hx => by
        obtain ⟨s, _, rfl⟩ := List.mem_map.1 (List.mem_of_mem_take hx); exact size_bound hw s)
      have hbl : ((((listD d).map (sizeD d)).take k).length : Int) ≤ 64 := by
        have : (((listD d).map (sizeD d)).take k).length ≤ k := by simp; omega
        omega
      have hst := sumI_take ((listD d).map (sizeD d)) k (by simpa using hlt)
      have hg : ((listD d).map (sizeD d)).getD k 0 = sizeD d ((listD d).getD k []) := by simp [List.getD_eq_getElem?_getD, hlt]
      rw [hg] at hst
      have e2 : IntKind.i64.wrap (sumI (((listD d).map (sizeD d)).take k) + sizeD d ((listD d).getD k [])) = sumI (((listD d).map (sizeD d)).take (k + 1)) := by
        rw [hst, i64_in]
        have : ((((listD d).map (sizeD d)).take k).length : Int) * 64 ≤ 64 * 64 := by omega
        omega
      simp only [go_sem, seval, e1, e2]
      refine ⟨⟨k + 1, by omega⟩, by simp only; omega, Red.sub ?_⟩
      simp only [go_sem, seval]
    · have hge : ¬ (k : Int) < ((listD d).length : Int) := by omega
      have hkl : k = (listD d).length := by omega
      simp only [go_sem, seval, hge, Tryd.results24]
      refine hE _ _ ⟨?_, rfl⟩
      subst hkl
      have : ((listD d).map (sizeD d)).take (listD d).length = (listD d).map (sizeD d) := List.take_of_length_le (by simp)
      rw [this]; rfl

def makeO (d : DiskD) (s : List UInt8) (n : Int) : DiskD × Int :=
  if mayE d ≠ 0 then (d, 9) else if nameRight s = false then (d, 10) else if (mget d.files s).isSome then (d, 8) else if n < 1 ∨ 64 < n then (d, 4)
  else if w64i (d.cap - usedD d) < n ∨ 64 ≤ d.files.length then (d, 6) else thenD d fun d => makeD d s n.toNat
theorem fent_length (fs : List (List UInt8 × FileD)) : (fent fs).length = fs.length := by simp [fent]
@[go_sem] theorem lenM_fmap (fs : List (List UInt8 × FileD)) : lenM (some (fmap fs)) = some (i64 (fs.length : Int)) := by
  rw [fmap, lenM_gmap, fent_length]
theorem make_fun (hS : SortOK Tryd.prog 71) (d : DiskD) (hw : WFD d) (s : List UInt8) (n : Int) (hs : s.length < 2 ^ 62) :
    Fun Tryd.prog GH 12 [.ptr 0 0, str s, i64 n] (dOwn d) (fun sv own' => sv = i64 (makeO d s n).2 ∧ own' = dOwn (makeO d s n).1) := by
  refine fun_keys (j := 1) (es := fent d.files) rfl (by kernel_rfl) fun hkeys => ?_
  rw [fent_keys] at hkeys
  refine fun_of_vcQ (D := fun n => match n with | 6 => some (.fl 0 (.fl 1 (.fl 2 (.fl 3 (.fl 4 (.mv 5 [] (.fl 6 (.mv 7 [] (.done) .no)) .no)))))) | 10 => some (.fl 0 (.fl 1 (.fl 2 (.fl 3 (.fl 4 (.fl 5 (.mv 6 [0, 1, 4] (.fl 7 (.fl 8 (.fl 9 (.fl 10 (.fl 11 (.fl 12 (.fl 13 (.fl 14 (.fl 15 (.fl 16 (.mv 17 [] (.done) .no))))))))))) .no))))))) | _ => none) Tryd.func12 (rfl : Tryd.f12.body = some _) (by kernel_rfl) (by kernel_rfl) (by simp [Tryd.f12]) (by kernel_rfl) ?_; intro Q hE hQ
  simp only [go_sem, seval, dOwn]
  refine cg_frame (may_fun d) [0, 1] rfl ?_ rfl ?_
  · simp only [go_sem, seval, dOwn]; try trivial
  rintro sv own' ⟨rfl, rfl⟩
  refine ⟨Nat.le_refl _, ?_⟩
  simp only [go_sem, seval, dOwn]
  refine ⟨fun h9 => ?_, fun h0 => ?_⟩
  · have h9 : ¬ mayE d = 0 := by simpa using h9
    simp only [go_sem, seval, Tryd.results12]
    refine hQ _ _ (i64 (mayE d)) (dOwn d) (red_two rfl rfl rfl) ⟨?_, ?_⟩
    · have : mayE d = 9 := by unfold mayE at h9 ⊢; split at h9 <;> simp_all
      simp [makeO, this]
    · simp [makeO, h9]
  · have h0 : mayE d = 0 := by simpa using h0
    refine cg_frame (right_fun s hs) [] rfl trivial rfl ?_
    rintro sv own' ⟨rfl, rfl⟩
    refine ⟨Nat.le_refl _, ?_⟩
    cases hr : nameRight s
    · simp only [go_sem, seval, bl, Tryd.results12]
      refine hQ _ _ (i64 10) (dOwn d) (red_two rfl rfl rfl) ⟨?_, ?_⟩ <;> simp [makeO, h0, hr]
    · simp only [go_sem, seval, bl, dCells]
      refine look_disk (fs := d.files) (s := s) (j := 1) rfl rfl rfl rfl rfl ?_ ?_
      · intro hn
        by_cases h1 : n < 1
        · simp only [go_sem, seval, h1, Tryd.results12]
          refine hQ _ _ (i64 4) (dOwn d) (red_two rfl rfl rfl) ⟨?_, ?_⟩ <;> simp [makeO, h0, hr, hn, h1]
        · by_cases h2 : 64 < n
          · simp only [go_sem, seval, h1, h2, Tryd.results12]
            refine hQ _ _ (i64 4) (dOwn d) (red_two rfl rfl rfl) ⟨?_, ?_⟩ <;> simp [makeO, h0, hr, hn, h2]
          · simp only [go_sem, seval, h1, h2]
            refine cg_frame (used_fun hS d hw) [0, 1] rfl ?_ rfl ?_
            · simp only [go_sem, seval, dOwn, dCells, bl]; try trivial
            rintro sv own' ⟨rfl, rfl⟩
            refine ⟨Nat.le_refl _, ?_⟩
            by_cases h3 : IntKind.i64.wrap (d.cap - usedD d) < n
            · simp only [go_sem, seval, dOwn, dCells, bl, h3, Tryd.results12]
              refine hQ _ _ (i64 6) (dOwn d) (red_two rfl rfl rfl) ⟨?_, ?_⟩ <;> simp [makeO, h0, hr, hn, h1, h2, w64i, h3]
            · by_cases h4 : 64 ≤ d.files.length
              · have h4' : (64 : Int) ≤ (d.files.length : Int) := by omega
                simp only [go_sem, seval, dOwn, dCells, bl, h3, h4', Tryd.results12]
                refine hQ _ _ (i64 6) (dOwn d) (red_two rfl rfl rfl) ⟨?_, ?_⟩ <;> simp [makeO, h0, hr, hn, h1, h2, h4]
              · have h4' : ¬ (64 : Int) ≤ (d.files.length : Int) := by omega
                obtain ⟨m, rfl⟩ := Int.eq_ofNat_of_zero_le (show 0 ≤ n by omega)
                simp only [go_sem, seval, dOwn, dCells, bl, h3, h4', lenM_fmap]
                refine cg_all (then_fun 1 d _ _ _ (fun own' => own' = [dCells 1 (makeD (opD d) s m), fmap (makeD (opD d) s m).files, .cells 37 [.ptr 0 0], .cells 9 [str s], .cells 3 [i64 m]]) (fun hop => ?_)) ?_
                · have := make1_fun (opD d) s m (by omega)
                  rw [opD_files] at this
                  exact this
                · rintro sv own' (⟨h9, rfl, rfl⟩ | ⟨h0', rfl, rfl⟩)
                  · have hst := stops_of h9
                    simp only [go_sem, seval, Tryd.results12]
                    refine hQ _ _ (i64 9) (dOwn (opD d)) (red_two rfl (by rw [opD_files]; rfl) rfl) ⟨?_, ?_⟩ <;> simp [makeO, h0, hr, hn, h1, h2, w64i, h3, h4, thenD, hst]
                  · have hst := (opStops_E d).1 h0'
                    simp only [go_sem, seval, Tryd.results12]
                    refine hQ _ _ (i64 0) (dOwn (makeD (opD d) s m)) (red_two rfl rfl rfl) ⟨?_, ?_⟩ <;> simp [makeO, h0, hr, hn, h1, h2, w64i, h3, h4, thenD, hst]
      · intro f hf
        simp only [go_sem, seval, grpAt, Tryd.results12]
        refine hQ _ _ (i64 8) (dOwn d) ?_ ⟨?_, ?_⟩
        · exact red_at (d := d) (s := s) (n := 5) f rfl rfl rfl rfl rfl rfl (by decide) (by rw [mset_same hkeys hf]) rfl
        · simp [makeO, h0, hr, hf]
        · simp [makeO, h0, hr, hf]
end Go.AM
namespace Go.AM
open Go Go.Proofs Go.IntWalk
set_option autoImplicit false
set_option maxRecDepth 100000

/-! ### span.Left -/
theorem keyLits_int (P : Program) (t : TypeId) (k : IntKind) (d : Nat) (n : Int) (h : P.underlying t = some (.int k)) (hw : (Lit.int k n).wf = true) : P.keyLits (d + 1) t [.int k n] = some [.int k n] := by
  unfold Program.keyLits; rw [h]; simp [hw]
theorem keyLits_spot (a b : Int) (ha : (Lit.int .i64 a).wf = true) (hb : (Lit.int .i64 b).wf = true) : Tryd.prog.keyLits 50 98 [.int .i64 a, .int .i64 b] = some [.int .i64 a, .int .i64 b] := by
  unfold Program.keyLits
  rw [Tryd.underlying98]
  have c1 : Tryd.prog.cellsOf 98 = 2 := by kernel_rfl
  have c2 : Tryd.prog.cellsOf 3 = 1 := by kernel_rfl
  simp only [List.length_cons, List.length_nil, c1, c2, Array.toList, List.mapM_cons, List.mapM_nil, List.drop_zero, List.take_succ_cons, List.take_zero, List.drop_succ_cons, keyLits_int Tryd.prog 3 .i64 48 _ Tryd.underlying3 ha, keyLits_int Tryd.prog 3 .i64 48 _ Tryd.underlying3 hb]
  rw [if_pos ⟨trivial, by kernel_rfl⟩]
  rfl
theorem eqOk_spot : eqOk Tryd.prog 98 = true := by kernel_rfl
theorem i64_wf {a : Int} (h : -9223372036854775808 ≤ a ∧ a ≤ 9223372036854775807) : (Lit.int .i64 a).wf = true := by
  simp only [Lit.wf, IntKind.min, IntKind.max, IntKind.signed, IntKind.bits, Bool.and_eq_true, decide_eq_true_eq]
  constructor <;> first | (have := h.1; simpa using this) | (have := h.2; simpa using this)
theorem eqA_spot (a b c d : Int) (ha : -9223372036854775808 ≤ a ∧ a ≤ 9223372036854775807) (hb : -9223372036854775808 ≤ b ∧ b ≤ 9223372036854775807) (hc : -9223372036854775808 ≤ c ∧ c ≤ 9223372036854775807) (hd : -9223372036854775808 ≤ d ∧ d ≤ 9223372036854775807) :
    eqA Tryd.prog 98 .eql (.agg [.v (.int .i64 a), .v (.int .i64 b)]) (.agg [.v (.int .i64 c), .v (.int .i64 d)]) = some (True, .v (.bool (decide (a = c ∧ b = d)))) := by
  simp only [eqA, eqOk_spot, if_true, plainVs, eqLs, keyLits_spot a b (i64_wf ha) (i64_wf hb), keyLits_spot c d (i64_wf hc) (i64_wf hd), eqR]
  simp
def spanLeft (x : Int) : Int := if clampAt x = 832 then 0 else 208 - clampAt x % 208
theorem left_fun (x : Int) : Fun Tryd.prog GH 64 [i64 x] [] (fun sv own' => sv = i64 (spanLeft x) ∧ own' = []) := by
  refine fun_of_vcQ (D := fun _ => none) Tryd.func64 (rfl : Tryd.f64.body = some _) (by kernel_rfl) (by kernel_rfl) (by simp [Tryd.f64]) (by kernel_rfl) ?_; intro Q hE hQ
  simp only [go_sem, seval]
  refine cg_frame (spanNear_fun x 832) [] rfl trivial rfl ?_
  rintro sv own' ⟨rfl, rfl⟩
  refine ⟨Nat.le_refl _, ?_⟩
  simp only [go_sem, seval]
  refine cg_frame (where_fun (max 0 (min x 832))) [] rfl trivial rfl ?_
  rintro sv own' ⟨rfl, rfl⟩
  refine ⟨Nat.le_refl _, ?_⟩
  have hc := clamp_clamp x
  have hm : max 0 (min x 832) = clampAt x := rfl
  have h0 : 0 ≤ clampAt x := by unfold clampAt; omega
  have h1 : clampAt x ≤ 832 := by unfold clampAt; omega
  have e1 : (clampAt x).tmod 208 = clampAt x % 208 := Int.tmod_eq_emod_of_nonneg h0
  have e2 : IntKind.i64.wrap (208 - clampAt x % 208) = 208 - clampAt x % 208 := i64_in _ (by omega)
  have e3 : eqA Tryd.prog 98 .eql (.agg [.v (.int .i64 (clampAt x / 52)), .v (.int .i64 (clampAt x % 52))]) (.agg [.v (.int .i64 16), .v (.int .i64 0)]) = _ := eqA_spot _ _ _ _ (by omega) (by omega) (by omega) (by omega)
  simp only [go_sem, seval, hc, hm, e1, e2, e3, Tryd.results64]
  refine ⟨fun h => hE _ _ ⟨?_, rfl⟩, fun h => hE _ _ ⟨?_, rfl⟩⟩
  · rw [spanLeft, if_pos (by omega)]; rfl
  · rw [spanLeft, if_neg (by omega)]; rfl

/-! ### cut -/
structure PieceD where
  at_ : Int
  kind : Int
  from_ : Int
  to_ : Int
def pieceRow (p : PieceD) : List SV := [i64 p.at_, i64 p.kind, i64 p.from_, i64 p.to_]
def pieces (l : List PieceD) : List (List SV) := l.map pieceRow
theorem pieces_length (l : List PieceD) : (pieces l).length = l.length := by simp [pieces]
theorem pieces_append (l : List PieceD) (p : PieceD) : pieces l ++ [pieceRow p] = pieces (l ++ [p]) := by simp [pieces]
def cutStep (n at_ from_ : Int) (first : Bool) : Option (PieceD × Int × Int) :=
  if spanLeft (spanBegin at_) - 11 < 0 then none
  else some (⟨spanBegin at_, cutKind first (decide (min n (from_ + (spanLeft (spanBegin at_) - 11)) = n)), from_, min n (from_ + (spanLeft (spanBegin at_) - 11))⟩,
    spanBegin at_ + 11 + min n (from_ + (spanLeft (spanBegin at_) - 11)) - from_, min n (from_ + (spanLeft (spanBegin at_) - 11)))
theorem spanBegin_bound (x : Int) : 0 ≤ spanBegin x ∧ spanBegin x ≤ 832 ∧ clampAt x ≤ spanBegin x := by
  unfold spanBegin
  have h0 : 0 ≤ clampAt x := by unfold clampAt; omega
  have h1 : clampAt x ≤ 832 := by unfold clampAt; omega
  split <;> omega
theorem spanLeft_bound (x : Int) : 0 ≤ spanLeft x ∧ spanLeft x ≤ 208 := by
  unfold spanLeft
  have h0 : 0 ≤ clampAt x := by unfold clampAt; omega
  split <;> omega
theorem spanLeft_end {x : Int} (h : 0 ≤ x ∧ x ≤ 832) : x + spanLeft x ≤ 832 := by
  have : clampAt x = x := by unfold clampAt; omega
  unfold spanLeft
  rw [this]
  split <;> omega
def cutOwn (at_ n from_ : Int) (out : List PieceD) : List SO := [.cells 3 [i64 at_], .cells 3 [i64 n], .cells 40 [.gs 4], .cells 3 [i64 from_], .grow 69 4 (pieces out)]
theorem cut1_fun (at_ n from_ : Int) (out : List PieceD) (hf : 0 ≤ from_ ∧ from_ ≤ n ∧ n ≤ 832) (ho : out.length < 1000) :
    Fun Tryd.prog GH 63 [.ptr 0 0, .ptr 1 0, .ptr 3 0, .ptr 2 0] (cutOwn at_ n from_ out)
      (fun sv own' => (cutStep n at_ from_ out.isEmpty = none ∧ sv = bl false ∧ own' = cutOwn (spanBegin at_) n from_ out) ∨
        (∃ p at' from', cutStep n at_ from_ out.isEmpty = some (p, at', from') ∧ sv = bl true ∧
          own' = [.cells 3 [i64 at'], .cells 3 [i64 n], .cells 40 [.gs 5], .cells 3 [i64 from'], .gone, .grow 69 4 (pieces (out ++ [p]))])) := by
  refine fun_of_vcQ (D := fun n => match n with | 6 => some (.fl 0 (.fl 1 (.fl 2 (.fl 3 (.fl 4 (.fl 5 (.fl 6 (.fl 7 (.fl 9 (.fl 10 (.mv 8 [0, 1, 9] (.fl 11 (.mv 12 [0] (.mv 13 [] (.mv 14 [] (.done) .no) .no) .no)) .no))))))))))) | _ => none) Tryd.func63 (rfl : Tryd.f63.body = some _) (by kernel_rfl) (by kernel_rfl) (by simp [Tryd.f63]) (by kernel_rfl) ?_; intro Q hE hQ
  simp only [go_sem, seval, cutOwn]
  refine cg_frame (begin_fun at_) [] rfl trivial rfl ?_
  rintro sv own' ⟨rfl, rfl⟩
  refine ⟨Nat.le_refl _, ?_⟩
  simp only [go_sem, seval]
  refine cg_frame (left_fun (spanBegin at_)) [] rfl trivial rfl ?_
  rintro sv own' ⟨rfl, rfl⟩
  refine ⟨Nat.le_refl _, ?_⟩
  have hb := spanBegin_bound at_
  have hl := spanLeft_bound (spanBegin at_)
  have e1 : IntKind.i64.wrap (spanLeft (spanBegin at_) - 11) = spanLeft (spanBegin at_) - 11 := i64_in _ (by omega)
  by_cases hr : spanLeft (spanBegin at_) - 11 < 0
  · simp only [go_sem, seval, e1, hr, Tryd.results63]
    exact hE _ _ (.inl ⟨by simp [cutStep, hr], rfl, rfl⟩)
  · have e2 : IntKind.i64.wrap (from_ + (spanLeft (spanBegin at_) - 11)) = from_ + (spanLeft (spanBegin at_) - 11) := i64_in _ (by omega)
    have he := spanLeft_end (x := spanBegin at_) (by omega)
    obtain ⟨to, hto⟩ : ∃ to, to = min n (from_ + (spanLeft (spanBegin at_) - 11)) := ⟨_, rfl⟩
    have e3 : IntKind.i64.wrap (spanBegin at_ + 11) = spanBegin at_ + 11 := i64_in _ (by omega)
    have e4 : IntKind.i64.wrap (spanBegin at_ + 11 + to) = spanBegin at_ + 11 + to := i64_in _ (by omega)
    have e5 : IntKind.i64.wrap (spanBegin at_ + 11 + to - from_) = spanBegin at_ + 11 + to - from_ := i64_in _ (by omega)
    simp only [go_sem, seval, e1, e2, hr, pieces_length, ← hto, e3, e4, e5]
    refine cg_frame (kind_fun (decide ((out.length : Int) = 0)) (decide (to = n))) [] rfl trivial rfl ?_
    rintro sv own' ⟨rfl, rfl⟩
    refine ⟨Nat.le_refl _, ?_⟩
    have hem : decide ((out.length : Int) = 0) = out.isEmpty := by cases out <;> simp; omega
    simp only [go_sem, seval, hem, hto, e3, e4, e5, pieces_length, Tryd.results63]
    simp only [go_sem, seval, ← hto, e3, e4, e5, pieces_length, mx64_eq]
    refine ⟨by omega, ?_⟩
    refine hQ _ _ (bl true) _ ?_ (.inr ⟨⟨spanBegin at_, cutKind out.isEmpty (decide (to = n)), from_, to⟩, spanBegin at_ + 11 + to - from_, to, by rw [cutStep, if_neg hr, ← hto], rfl, rfl⟩)
    refine Red.pick (idx := [0, 1, 2, 3, 4, 6]) rfl rfl ⟨rfl, rfl, rfl, rfl, rfl, ?_, trivial⟩ ⟨rfl, trivial⟩
    rw [← pieces_append]; rfl

theorem clamp_le (x : Int) : 0 ≤ clampAt x ∧ clampAt x ≤ 832 := by unfold clampAt; omega
def cutRun (n at_ from_ : Int) (out : List PieceD) : Option (List PieceD × Int) :=
  if out.isEmpty = false ∧ ¬ from_ < n then some (out, at_)
  else match cutStep n at_ from_ out.isEmpty with
    | none => none
    | some (p, a, f) => if h : clampAt at_ < clampAt a then cutRun n a f (out ++ [p]) else none
termination_by (832 - clampAt at_).toNat
decreasing_by have := clamp_le a; have := clamp_le at_; omega
def cutD (at_ n : Int) : Option (List PieceD × Int) := if n < 0 ∨ 832 < n then none else cutRun n at_ 0 []
def cutSV : Option (List PieceD × Int) → SV
  | none => .tup [.v (.slice none 0 0), i64 0, bl false]
  | some (l, a) => .tup [.fsl 4 (pieces l) false, i64 a, bl true]
theorem cutStep_grows {n at_ from_ : Int} {b : Bool} {p : PieceD} {a f : Int} (hf : 0 ≤ from_ ∧ from_ ≤ n) (h : cutStep n at_ from_ b = some (p, a, f)) : clampAt at_ + 11 ≤ clampAt a ∧ 0 ≤ f ∧ f ≤ n ∧ from_ ≤ f ∧ a = spanBegin at_ + 11 + f - from_ ∧ a ≤ 832 := by
  unfold cutStep at h
  split at h
  · cases h
  · rename_i hr
    injection h with h; injection h with h1 h; injection h with h2 h3
    have hb := spanBegin_bound at_
    have hl := spanLeft_bound (spanBegin at_)
    have he := spanLeft_end (x := spanBegin at_) (by omega)
    have : clampAt a = a := by unfold clampAt; omega
    omega

theorem cut_fun (at_ n : Int) : Fun Tryd.prog GH 40 [i64 at_, i64 n] [] (fun sv own' => sv = cutSV (cutD at_ n) ∧ own' = []) := by
  refine fun_of_vcQ (D := fun n => match n with | 9 => some (.fl 0 (.fl 1 (.mv 2 [1] (.mv 3 [] (.mv 4 [] (.done) .no) .no) .no))) | _ => none) Tryd.func40 (rfl : Tryd.f40.body = some _) (by kernel_rfl) (by kernel_rfl) (by simp [Tryd.f40]) (by kernel_rfl) ?_; intro Q hE hQ
  by_cases h1 : n < 0
  · simp only [go_sem, seval, h1, Tryd.results40]
    exact hQ _ _ _ _ (RedV.drop rfl) ⟨by simp [cutD, h1, cutSV, i64, bl], rfl⟩
  · by_cases h2 : 832 < n
    · simp only [go_sem, seval, h1, h2, Tryd.results40]
      exact hQ _ _ _ _ (RedV.drop rfl) ⟨by simp [cutD, h2, cutSV, i64, bl], rfl⟩
    · have hD : cutD at_ n = cutRun n at_ 0 [] := by rw [cutD, if_neg (by omega)]
      simp only [go_sem, seval, h1, h2]
      refine loop_rule (A := { x : List PieceD × Int × Int // (0 ≤ x.2.2 ∧ x.2.2 ≤ n) ∧ 11 * (x.1.length : Int) ≤ clampAt x.2.1 ∧ cutRun n at_ 0 [] = cutRun n x.2.1 x.2.2 x.1 })
        (fun _ => [(9, .fn 63 [] [.ptr 0 0, .ptr 1 0, .ptr 3 0, .ptr 2 0]), (2, .ptr 0 0), (3, .ptr 1 0), (7, .ptr 2 0), (8, .ptr 3 0)])
        (fun x => cutOwn x.1.2.1 n x.1.2.2 x.1.1) (fun x => (832 - clampAt x.1.2.1).toNat) ⟨([], at_, 0), ⟨by simp, by simp; omega⟩, by have := clamp_le at_; simpa using this.1, rfl⟩ ?_ ?_
      · refine Red.trans (Red.nilC (j := 2) (k := 0) 69 4 (Nat.zero_le _) rfl rfl) (Red.sub ?_)
        simp only [go_sem, seval]
      · rintro ⟨⟨out, a, f⟩, hf, hl, hrun⟩
        simp only at hf hl hrun
        have hca := clamp_le a
        have hout : out.length < 1000 := by omega
        have hcall : ∀ {K : Env → List SO → Prop} {env : Env} {d : Option Tmp} {C : Cx}, C.P = Tryd.prog → C.G = GH → (out.isEmpty = true ∨ f < n) →
            (∀ p a' f', cutStep n a f out.isEmpty = some (p, a', f') → K (env.put d (bl true)) [.cells 3 [i64 a'], .cells 3 [i64 n], .cells 40 [.gs 5], .cells 3 [i64 f'], .gone, .grow 69 4 (pieces (out ++ [p]))]) →
            (cutStep n a f out.isEmpty = none → K (env.put d (bl false)) (cutOwn (spanBegin a) n f out)) → CG C 63 [.ptr 0 0, .ptr 1 0, .ptr 3 0, .ptr 2 0] (cutOwn a n f out) d K env := by
          intro K env d C hP hG hc k1 k2
          have hF := cut1_fun a n f out ⟨hf.1, hf.2, by omega⟩ hout
          rw [← hP, ← hG] at hF
          refine cg_all hF ?_
          rintro sv own' (⟨h, rfl, rfl⟩ | ⟨p, a', f', h, rfl, rfl⟩)
          · exact k2 h
          · exact k1 p a' f' h
        have hpos : ∀ {p a' f'}, (out.isEmpty = true ∨ f < n) → cutStep n a f out.isEmpty = some (p, a', f') → cutRun n at_ 0 [] = cutRun n a' f' (out ++ [p]) ∧ 11 * ((out ++ [p]).length : Int) ≤ clampAt a' ∧ (0 ≤ f' ∧ f' ≤ n) ∧ clampAt a < clampAt a' := by
          intro p a' f' hc hs
          have hg := cutStep_grows hf hs
          refine ⟨?_, ?_, by omega, by omega⟩
          · rw [hrun, cutRun, if_neg (by rintro ⟨h3, h4⟩; rcases hc with h | h; · rw [h] at h3; cases h3
                                         · exact h4 h), hs]
            simp only
            rw [dif_pos (by omega)]
          · simp only [List.length_append, List.length_cons, List.length_nil]; omega
        have hnone : (out.isEmpty = true ∨ f < n) → cutStep n a f out.isEmpty = none → cutRun n at_ 0 [] = none := by
          intro hc hs
          rw [hrun, cutRun, if_neg (by rintro ⟨h3, h4⟩; rcases hc with h | h; · rw [h] at h3; cases h3
                                       · exact h4 h), hs]
        have back : ∀ {p a' f'} {env' : Env}, (out.isEmpty = true ∨ f < n) → cutStep n a f out.isEmpty = some (p, a', f') → subE env' [(9, .fn 63 [] [.ptr 0 0, .ptr 1 0, .ptr 3 0, .ptr 2 0]), (2, .ptr 0 0), (3, .ptr 1 0), (7, .ptr 2 0), (8, .ptr 3 0)] →
            ∃ y : { x : List PieceD × Int × Int // (0 ≤ x.2.2 ∧ x.2.2 ≤ n) ∧ 11 * (x.1.length : Int) ≤ clampAt x.2.1 ∧ cutRun n at_ 0 [] = cutRun n x.2.1 x.2.2 x.1 }, (832 - clampAt y.1.2.1).toNat < (832 - clampAt a).toNat ∧
              Red GH 0 env' [.cells 3 [i64 a'], .cells 3 [i64 n], .cells 40 [.gs 5], .cells 3 [i64 f'], .gone, .grow 69 4 (pieces (out ++ [p]))] [(9, .fn 63 [] [.ptr 0 0, .ptr 1 0, .ptr 3 0, .ptr 2 0]), (2, .ptr 0 0), (3, .ptr 1 0), (7, .ptr 2 0), (8, .ptr 3 0)] (cutOwn y.1.2.1 n y.1.2.2 y.1.1) := by
          intro p a' f' env' hc hs hsub
          have hp := hpos hc hs
          have := clamp_le a'
          refine ⟨⟨(out ++ [p], a', f'), hp.2.2.1, hp.2.1, hp.1⟩, by simp only; omega, ?_⟩
          refine Red.trans (Red.sub hsub) (Red.pick (idx := [0, 1, 2, 3, 5]) rfl rfl ⟨rfl, rfl, rfl, rfl, rfl, trivial⟩ ?_)
          simp only [go_sem, seval]
        by_cases hl0 : (out.length : Int) = 0
        · have hemp : out.isEmpty = true := by cases out <;> simp at hl0 ⊢; omega
          simp only [go_sem, seval, cutOwn, pieces_length, hl0]
          refine hcall rfl rfl (.inl hemp) ?_ ?_
          · intro p a' f' hs
            simp only [go_sem, seval, bl]
            refine back (.inl hemp) hs ?_
            simp only [go_sem, seval]
          · intro hs
            simp only [go_sem, seval, bl, Tryd.results40]
            refine hQ _ _ _ _ (RedV.drop rfl) ⟨?_, rfl⟩
            rw [hD, hnone (.inl hemp) hs]; rfl
        · have hemp : out.isEmpty = false := by cases out <;> simp at hl0 ⊢
          by_cases hfn : f < n
          · simp only [go_sem, seval, cutOwn, pieces_length, hl0, hfn]
            refine hcall rfl rfl (.inr hfn) ?_ ?_
            · intro p a' f' hs
              simp only [go_sem, seval, bl]
              refine back (.inr hfn) hs ?_
              simp only [go_sem, seval]
            · intro hs
              simp only [go_sem, seval, bl, Tryd.results40]
              refine hQ _ _ _ _ (RedV.drop rfl) ⟨?_, rfl⟩
              rw [hD, hnone (.inr hfn) hs]; rfl
          · simp only [go_sem, seval, cutOwn, pieces_length, hl0, hfn, Tryd.results40]
            have hres : cutD at_ n = some (out, a) := by rw [hD, hrun, cutRun, if_pos ⟨hemp, hfn⟩]
            refine hQ _ _ (cutSV (some (out, a))) [] ?_ ⟨by rw [hres], rfl⟩
            exact Red.trans (RedV.freeze (i := 4) rfl) (RedV.drop rfl)

theorem fits_fun (at_ n : Int) : Fun Tryd.prog GH 20 [i64 at_, i64 n] [] (fun sv own' => sv = bl (cutD at_ n).isSome ∧ own' = []) := by
  refine fun_of_vcQ (D := fun _ => none) Tryd.func20 (rfl : Tryd.f20.body = some _) (by kernel_rfl) (by kernel_rfl) (by simp [Tryd.f20]) (by kernel_rfl) ?_; intro Q hE hQ
  simp only [go_sem, seval]
  refine cg_frame (cut_fun at_ n) [] rfl trivial rfl ?_
  rintro sv own' ⟨rfl, rfl⟩
  refine ⟨Nat.le_refl _, ?_⟩
  rcases h : cutD at_ n with _ | ⟨l, a⟩ <;> simp only [go_sem, seval, cutSV, bl, Tryd.results20] <;> exact hE _ _ ⟨by rw [h]; rfl, rfl⟩

def PieceOk (n : Int) (p : PieceD) : Prop := 0 ≤ p.from_ ∧ p.from_ ≤ p.to_ ∧ p.to_ ≤ n ∧ 0 ≤ p.at_ ∧ p.at_ + 11 + (p.to_ - p.from_) ≤ 832 ∧ 1 ≤ p.kind ∧ p.kind ≤ 4 ∧ p.to_ - p.from_ ≤ 197
theorem cutKind_bound (a b : Bool) : 1 ≤ cutKind a b ∧ cutKind a b ≤ 4 := by cases a <;> cases b <;> simp [cutKind]
theorem cutStep_piece {n at_ from_ : Int} {b : Bool} {p : PieceD} {a f : Int} (hf : 0 ≤ from_ ∧ from_ ≤ n) (h : cutStep n at_ from_ b = some (p, a, f)) : PieceOk n p := by
  unfold cutStep at h
  split at h
  · cases h
  · rename_i hr
    injection h with h; injection h with h1 h; injection h with h2 h3
    have hb := spanBegin_bound at_
    have hl := spanLeft_bound (spanBegin at_)
    have he := spanLeft_end (x := spanBegin at_) (by omega)
    have hk := cutKind_bound b (decide (min n (from_ + (spanLeft (spanBegin at_) - 11)) = n))
    subst h1
    unfold PieceOk
    simp only
    omega
theorem cutRun_pieces (n at_ from_ : Int) (out : List PieceD) (hf : 0 ≤ from_ ∧ from_ ≤ n) (ho : ∀ p ∈ out, PieceOk n p) : ∀ l a, cutRun n at_ from_ out = some (l, a) → ∀ p ∈ l, PieceOk n p := by
  intro l a h
  fun_induction cutRun n at_ from_ out with
  | case1 at_ from_ out hc =>
    injection h with h; injection h with h1 h2; subst h1; exact ho
  | case2 => cases h
  | case3 at_ from_ out hc p a' f' hs hlt ih =>
    have hg := cutStep_grows hf hs
    refine ih (by omega) (fun q hq => ?_) h
    rcases List.mem_append.1 hq with hq | hq
    · exact ho q hq
    · simp at hq; subst hq; exact cutStep_piece hf hs
  | case4 => cases h
theorem cutD_pieces {at_ n a : Int} {l : List PieceD} (h : cutD at_ n = some (l, a)) : ∀ p ∈ l, PieceOk n p := by
  unfold cutD at h
  split at h
  · cases h
  · exact cutRun_pieces n at_ 0 [] (by omega) nofun l a h

/-! ### Frags -/
def partD (data : List UInt8) (p : PieceD) : List UInt8 := (data.drop p.from_.toNat).take (p.to_.toNat - p.from_.toNat)
def fragRow (e : BitVec 32) (data : List UInt8) (p : PieceD) : List SV := [i64 p.kind, w32 e, .fsl 1 (bytes (partD data p)) false]
def fragRows (e : BitVec 32) (data : List UInt8) (l : List PieceD) : List (List SV) := l.map (fragRow e data)
def fragsSV (e : BitVec 32) (data : List UInt8) : Option (List PieceD × Int) → SV
  | none => .tup [.v (.slice none 0 0), bl false]
  | some (l, _) => .tup [.fsl 3 (fragRows e data l) false, bl true]
theorem pieces_getD (l : List PieceD) (k : Nat) (d : PieceD) (h : k < l.length) : (pieces l).getD k [] = pieceRow (l.getD k d) := by simp [pieces, List.getD_eq_getElem?_getD, h]
theorem bytes_drop (l : List UInt8) (k : Nat) : (bytes l).drop k = bytes (l.drop k) := by simp [bytes]
theorem bytes_take (l : List UInt8) (k : Nat) : (bytes l).take k = bytes (l.take k) := by simp [bytes]
theorem cutD_len {at_ n a : Int} {l : List PieceD} (h : cutD at_ n = some (l, a)) : l.length < 1000 := by
  have key : ∀ (at_ from_ : Int) (out : List PieceD), (0 ≤ from_ ∧ from_ ≤ n) → 11 * (out.length : Int) ≤ clampAt at_ → ∀ l a, cutRun n at_ from_ out = some (l, a) → 11 * (l.length : Int) ≤ 832 := by
    intro at_ from_ out hf ho l a h
    fun_induction cutRun n at_ from_ out with
    | case1 at_ from_ out hc =>
      injection h with h; injection h with h1 h2; subst h1
      have := clamp_le at_; omega
    | case2 => cases h
    | case3 at_ from_ out hc p a' f' hs hlt ih =>
      have hg := cutStep_grows hf hs
      refine ih (by omega) ?_ h
      simp only [List.length_append, List.length_cons, List.length_nil]; omega
    | case4 => cases h
  unfold cutD at h
  split at h
  · cases h
  · have := key at_ 0 [] (by omega) (by have := clamp_le at_; simp; omega) l a h; omega

theorem frags_fun (e : BitVec 32) (at_ : Int) (data : List UInt8) (full : Bool) (hd : data.length < 2 ^ 40) : Fun Tryd.prog GH 41 [w32 e, i64 at_, .fsl 1 (bytes data) full] [] (fun sv own' => sv = fragsSV e data (cutD at_ data.length) ∧ own' = []) := by
  refine fun_of_vcQ (D := fun n => match n with | 8 => some (.fl 0 (.fl 1 (.fl 2 (.fl 3 (.fl 5 (.fl 6 (.fl 7 (.fl 8 (.fl 9 (.fl 10 (.mv 4 [2, 7, 9, 10] (.mv 11 [2] (.fl 12 (.mv 13 [] (.mv 14 [] (.mv 15 [] (.done) .no) .no) .no)) .no) .no))))))))))) | _ => none) Tryd.func41 (rfl : Tryd.f41.body = some _) (by kernel_rfl) (by kernel_rfl) (by simp [Tryd.f41]) (by kernel_rfl) ?_; intro Q hE hQ
  simp only [go_sem, seval, bytes_length]
  refine cg_frame (cut_fun at_ data.length) [] rfl trivial rfl ?_
  rintro sv own' ⟨rfl, rfl⟩
  refine ⟨Nat.le_refl _, ?_⟩
  rcases h : cutD at_ data.length with _ | ⟨l, a⟩
  · simp only [go_sem, seval, cutSV, bl, Tryd.results41]
    exact hE _ _ ⟨by rw [h]; rfl, rfl⟩
  · have hp := cutD_pieces h
    have hlen := cutD_len h
    simp only [go_sem, seval, cutSV, bl, pieces_length]
    refine loop_rule (A := { k : Nat // k ≤ l.length })
      (fun k => [(0, w32 e), (2, .fsl 1 (bytes data) full), (11, .gs 0), (24, .fsl 4 (pieces l) false), (25, i64 (l.length : Int)), (26, i64 (k.1 : Int))])
      (fun k => [.grow 86 3 (fragRows e data (l.take k.1))]) (fun k => l.length - k.1) ⟨0, Nat.zero_le _⟩ ?_ ?_
    · refine Red.trans (Red.nil 11 86 3 (Nat.zero_le _) rfl) (Red.sub ?_)
      simp only [go_sem, seval]
    · rintro ⟨k, hk⟩
      have e1 : IntKind.i64.wrap ((k : Int) + 1) = ((k + 1 : Nat) : Int) := by rw [i64_in] <;> omega
      by_cases hlt : k < l.length
      · have hlt' : (k : Int) < (l.length : Int) := by omega
        have hk0 : (0 : Int) ≤ (k : Int) := by omega
        have hpk : PieceOk data.length l[k] := hp _ (List.getElem_mem hlt)
        have hg := pieces_getD l k l[k] hlt
        have hgl : l.getD k l[k] = l[k] := by simp [List.getD_eq_getElem?_getD, hlt]
        rw [hgl] at hg
        obtain ⟨p1, p2, p3, p4, p5, p6, p7, p8⟩ := hpk
        have q1 : l[k].from_.toNat ≤ l[k].to_.toNat := by omega
        have q2 : l[k].to_.toNat ≤ data.length := by omega
        have q3 : 0 ≤ l[k].to_ := by omega
        simp only [go_sem, seval, hlt', hk0, pieces_length, Int.toNat_natCast, hg, pieceRow, p1, q1, q2, q3, e1, bytes_length, mx64_eq, w32, bytes_drop, bytes_take]
        have hrow : fragRows e data (l.take k) ++ [fragRow e data l[k]] = fragRows e data (l.take (k + 1)) := by
          rw [List.take_add_one, fragRows, fragRows, List.map_append]; simp [hlt]
        refine ⟨?_, ?_, ⟨k + 1, by omega⟩, by simp only; omega, ?_⟩
        · simp only [List.length_take, List.length_drop]; omega
        · simp only [fragRows, List.length_map, List.length_take]; omega
        · refine Red.pick (idx := [5]) rfl rfl ⟨?_, trivial⟩ ?_
          · simp only [← hrow]; rfl
          · simp only [go_sem, seval]
      · have hge : ¬ (k : Int) < (l.length : Int) := by omega
        have hkl : l.take k = l := List.take_of_length_le (by omega)
        simp only [go_sem, seval, hge, hkl, Tryd.results41]
        exact hQ _ _ (fragsSV e data (some (l, a))) [] (Red.trans (RedV.freeze (i := 0) rfl) (RedV.drop rfl)) ⟨by rw [h], rfl⟩
end Go.AM
