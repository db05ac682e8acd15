/- strconv.Quote's contract at this dump, as the kit's tools lay it (lay-shelf, lay-plain). The numbers in it are this seat's. -/
import Derived.Shelf.Strconv.Quote
import Derived.Test.YtmpgamnpmgedkaaDoorProg
namespace Go.Proofs
open Go.Shelf
def Tryd.lays177_ren : Go.Shelf.Ren := ⟨fun | 177 => 122 | 250 => 196 | 289 => 236 | 197 => 226 | 323 => 265 | 260 => 255 | 339 => 280 | 340 => 281 | 242 => 282 | 119 => 276 | 345 => 285 | 346 => 286 | 278 => 287 | n => n, fun | 9 => 9 | 5 => 5 | 4 => 4 | 3 => 3 | 37 => 129 | 21 => 21 | 105 => 260 | 46 => 132 | 119 => 237 | 0 => 0 | 139 => 324 | 138 => 323 | 49 => 306 | 234 => 341 | 131 => 73 | 51 => 138 | 236 => 146 | n => n, fun | 3 => 12 | 4 => 13 | 20 => 14 | 21 => 15 | 22 => 16 | 23 => 17 | 24 => 18 | n => n⟩
theorem Tryd.lays177 : Go.Proofs.Lays.n177 Tryd.prog Tryd.lays177_ren := {
  mixed := by kernel_rfl
  f119 := Tryd.func276.trans (congrArg some (by kernel_rfl))
  f177 := Tryd.func122.trans (congrArg some (by kernel_rfl))
  f197 := Tryd.func226.trans (congrArg some (by kernel_rfl))
  f242 := Tryd.func282.trans (congrArg some (by kernel_rfl))
  f250 := Tryd.func196.trans (congrArg some (by kernel_rfl))
  f260 := Tryd.func255.trans (congrArg some (by kernel_rfl))
  f278 := Tryd.func287.trans (congrArg some (by kernel_rfl))
  f289 := Tryd.func236.trans (congrArg some (by kernel_rfl))
  f323 := Tryd.func265.trans (congrArg some (by kernel_rfl))
  f339 := Tryd.func280.trans (congrArg some (by kernel_rfl))
  f340 := Tryd.func281.trans (congrArg some (by kernel_rfl))
  f345 := Tryd.func285.trans (congrArg some (by kernel_rfl))
  f346 := Tryd.func286.trans (congrArg some (by kernel_rfl))
  t0 := Tryd.underlying0
  a0 := Tryd.isAgg0
  z0 := Tryd.sizeOf0
  v0 := Tryd.zeroValue0
  t3 := Tryd.underlying3
  a3 := Tryd.isAgg3
  z3 := Tryd.sizeOf3
  v3 := Tryd.zeroValue3
  t4 := Tryd.underlying4
  a4 := Tryd.isAgg4
  z4 := Tryd.sizeOf4
  v4 := Tryd.zeroValue4
  t5 := Tryd.underlying5
  a5 := Tryd.isAgg5
  z5 := Tryd.sizeOf5
  v5 := Tryd.zeroValue5
  t9 := Tryd.underlying9
  a9 := Tryd.isAgg9
  z9 := Tryd.sizeOf9
  v9 := Tryd.zeroValue9
  t21 := Tryd.underlying21
  a21 := Tryd.isAgg21
  z21 := Tryd.sizeOf21
  v21 := Tryd.zeroValue21
  t37 := Tryd.underlying129
  a37 := Tryd.isAgg129
  z37 := Tryd.sizeOf129
  v37 := Tryd.zeroValue129
  t46 := Tryd.underlying132
  a46 := Tryd.isAgg132
  z46 := Tryd.sizeOf132
  v46 := Tryd.zeroValue132
  t49 := Tryd.underlying306
  a49 := Tryd.isAgg306
  z49 := Tryd.sizeOf306
  v49 := Tryd.zeroValue306
  t51 := Tryd.underlying138
  a51 := Tryd.isAgg138
  z51 := Tryd.sizeOf138
  v51 := Tryd.zeroValue138
  t105 := Tryd.underlying260
  a105 := Tryd.isAgg260
  z105 := Tryd.sizeOf260
  v105 := Tryd.zeroValue260
  t119 := Tryd.underlying237
  a119 := Tryd.isAgg237
  z119 := Tryd.sizeOf237
  t131 := Tryd.underlying73
  a131 := Tryd.isAgg73
  z131 := Tryd.sizeOf73
  v131 := Tryd.zeroValue73
  t138 := Tryd.underlying323
  a138 := Tryd.isAgg323
  z138 := Tryd.sizeOf323
  v138 := Tryd.zeroValue323
  t139 := Tryd.underlying324
  a139 := Tryd.isAgg324
  z139 := Tryd.sizeOf324
  v139 := Tryd.zeroValue324
  t234 := Tryd.underlying341
  a234 := Tryd.isAgg341
  z234 := Tryd.sizeOf341
  v234 := Tryd.zeroValue341
  t236 := Tryd.underlying146
  a236 := Tryd.isAgg146
  z236 := Tryd.sizeOf146
  v236 := Tryd.zeroValue146
  g3 := by kernel_rfl
  g4 := by kernel_rfl
  g20 := by kernel_rfl
  g21 := by kernel_rfl
  g22 := by kernel_rfl
  g23 := by kernel_rfl
  g24 := by kernel_rfl }
open Go.RowKit in
theorem Tryd.strconv_Quote (T : Lib.PrintTabs) (s : ByteArray) (w : World) (hlen : 10 * s.size + 12 ≤ 140737488355328) (hT : Lib.PrintTabsAt 14 15 16 17 T w) (hU : Lib.Utf8Tabs 12 13 w) :
    Calls Tryd.prog 122 #[.string s] w fun e w' => e = .returned (.string (strOfNums (Lib.quoteZ T s))) ∧ Below w.heap.size w w' := Any.strconv_Quote Tryd.lays177 (by kernel_rfl) T s w hlen hT hU
end Go.Proofs
