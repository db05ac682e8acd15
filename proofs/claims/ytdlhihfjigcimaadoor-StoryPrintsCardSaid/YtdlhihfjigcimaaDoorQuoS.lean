/- strconv.Quote's contract at this dump, as the kit's tools lay it (lay-shelf, lay-plain). The numbers in it are this seat's. -/
import Derived.Shelf.Strconv.Quote
import Derived.Test.YtdlhihfjigcimaaDoorProg
namespace Go.Proofs
open Go.Shelf
def Tryd.lays177_ren : Go.Shelf.Ren := ⟨fun | 177 => 111 | 250 => 141 | 289 => 178 | 197 => 145 | 323 => 193 | 260 => 180 | 339 => 198 | 340 => 199 | 242 => 200 | 119 => 188 | 345 => 201 | 346 => 202 | 278 => 203 | n => n, fun | 9 => 9 | 5 => 5 | 4 => 4 | 3 => 3 | 37 => 99 | 21 => 21 | 105 => 164 | 46 => 103 | 119 => 175 | 0 => 0 | 139 => 263 | 138 => 262 | 49 => 254 | 234 => 270 | 131 => 271 | 51 => 202 | 236 => 214 | n => n, fun | 3 => 12 | 4 => 13 | 20 => 16 | 21 => 17 | 22 => 18 | 23 => 19 | 24 => 20 | n => n⟩
theorem Tryd.lays177 : Go.Proofs.Lays.n177 Tryd.prog Tryd.lays177_ren := {
  mixed := by kernel_rfl
  f119 := Tryd.func188.trans (congrArg some (by kernel_rfl))
  f177 := Tryd.func111.trans (congrArg some (by kernel_rfl))
  f197 := Tryd.func145.trans (congrArg some (by kernel_rfl))
  f242 := Tryd.func200.trans (congrArg some (by kernel_rfl))
  f250 := Tryd.func141.trans (congrArg some (by kernel_rfl))
  f260 := Tryd.func180.trans (congrArg some (by kernel_rfl))
  f278 := Tryd.func203.trans (congrArg some (by kernel_rfl))
  f289 := Tryd.func178.trans (congrArg some (by kernel_rfl))
  f323 := Tryd.func193.trans (congrArg some (by kernel_rfl))
  f339 := Tryd.func198.trans (congrArg some (by kernel_rfl))
  f340 := Tryd.func199.trans (congrArg some (by kernel_rfl))
  f345 := Tryd.func201.trans (congrArg some (by kernel_rfl))
  f346 := Tryd.func202.trans (congrArg some (by kernel_rfl))
  t0 := Tryd.underlying0
  a0 := Tryd.isAgg0
  z0 := Tryd.sizeOf0
  v0 := Tryd.zeroValue0
  t3 := Tryd.underlying3
  a3 := Tryd.isAgg3
  z3 := Tryd.sizeOf3
  v3 := Tryd.zeroValue3
  t4 := Tryd.underlying4
  a4 := Tryd.isAgg4
  z4 := Tryd.sizeOf4
  v4 := Tryd.zeroValue4
  t5 := Tryd.underlying5
  a5 := Tryd.isAgg5
  z5 := Tryd.sizeOf5
  v5 := Tryd.zeroValue5
  t9 := Tryd.underlying9
  a9 := Tryd.isAgg9
  z9 := Tryd.sizeOf9
  v9 := Tryd.zeroValue9
  t21 := Tryd.underlying21
  a21 := Tryd.isAgg21
  z21 := Tryd.sizeOf21
  v21 := Tryd.zeroValue21
  t37 := Tryd.underlying99
  a37 := Tryd.isAgg99
  z37 := Tryd.sizeOf99
  v37 := Tryd.zeroValue99
  t46 := Tryd.underlying103
  a46 := Tryd.isAgg103
  z46 := Tryd.sizeOf103
  v46 := Tryd.zeroValue103
  t49 := Tryd.underlying254
  a49 := Tryd.isAgg254
  z49 := Tryd.sizeOf254
  v49 := Tryd.zeroValue254
  t51 := Tryd.underlying202
  a51 := Tryd.isAgg202
  z51 := Tryd.sizeOf202
  v51 := Tryd.zeroValue202
  t105 := Tryd.underlying164
  a105 := Tryd.isAgg164
  z105 := Tryd.sizeOf164
  v105 := Tryd.zeroValue164
  t119 := Tryd.underlying175
  a119 := Tryd.isAgg175
  z119 := Tryd.sizeOf175
  t131 := Tryd.underlying271
  a131 := Tryd.isAgg271
  z131 := Tryd.sizeOf271
  v131 := Tryd.zeroValue271
  t138 := Tryd.underlying262
  a138 := Tryd.isAgg262
  z138 := Tryd.sizeOf262
  v138 := Tryd.zeroValue262
  t139 := Tryd.underlying263
  a139 := Tryd.isAgg263
  z139 := Tryd.sizeOf263
  v139 := Tryd.zeroValue263
  t234 := Tryd.underlying270
  a234 := Tryd.isAgg270
  z234 := Tryd.sizeOf270
  v234 := Tryd.zeroValue270
  t236 := Tryd.underlying214
  a236 := Tryd.isAgg214
  z236 := Tryd.sizeOf214
  v236 := Tryd.zeroValue214
  g3 := by kernel_rfl
  g4 := by kernel_rfl
  g20 := by kernel_rfl
  g21 := by kernel_rfl
  g22 := by kernel_rfl
  g23 := by kernel_rfl
  g24 := by kernel_rfl }
open Go.RowKit in
theorem Tryd.strconv_Quote (T : Lib.PrintTabs) (s : ByteArray) (w : World) (hlen : 10 * s.size + 12 ≤ 140737488355328) (hT : Lib.PrintTabsAt 16 17 18 19 T w) (hU : Lib.Utf8Tabs 12 13 w) :
    Calls Tryd.prog 111 #[.string s] w fun e w' => e = .returned (.string (strOfNums (Lib.quoteZ T s))) ∧ Below w.heap.size w w' := Any.strconv_Quote Tryd.lays177 (by kernel_rfl) T s w hlen hT hU
end Go.Proofs
