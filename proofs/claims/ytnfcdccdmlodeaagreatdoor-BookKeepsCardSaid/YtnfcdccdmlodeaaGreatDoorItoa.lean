/- strconv.Itoa: a number's decimal numeral, in a world that holds the table of tens. -/
import Derived.Test.YtnfcdccdmlodeaaGreatDoorFound
import Derived.Test.YtnfcdccdmlodeaaGreatDoorShelf
import Derived.Test.YtnfcdccdmlodeaaGreatDoorRows
import Derived.Lib.LaidTab
import Derived.LaidLaws
import Derived.WalkSmall
import Derived.Stop.Joined
import Derived.BigQuiet
namespace Go.Proofs.YtnfcdccdmlodeaaGreatDoor
open Go.RowKit

def Pow (w : World) : Prop := Lib.TabIs Tryz.prog w "internal/strconv.uint64pow10" .u64 Lib.pow10Tab
theorem powAt : Tryz.prog.globalNamed "internal/strconv.uint64pow10" = some 10 := by kernel_rfl
theorem Pow.later {w w' : World} (h : Pow w) (hb : Below w.heap.size w w') : Pow w' :=
  var?_below hb powAt (World.block_lt_of_cell? w _ (Lib.TabIs.cell h powAt 0 (by decide))) h

theorem below_grow (w : World) (os : Array Obj) : Below w.heap.size w (Go.Sort.grow w os) :=
  ⟨rfl, rfl, rfl, by simp [Go.Sort.grow], fun k hk => by simp only [Go.Sort.grow]; rw [Array.getElem?_append_left hk]⟩
theorem itoaInner (n : Int) (h0 : -9223372036854775808 ≤ n) (h1 : n ≤ 9223372036854775807) (w : World) (hp : Pow w) :
    Calls Tryz.prog 289 #[.int .i64 n, .int .i64 10] w fun e w' => e = .returned (.string ⟨(Lib.itoa n).toArray⟩) ∧ Below w.heap.size w w' := by
  refine (Tryz.internal_strconv_FormatInt_10 n h0 h1 w hp).mono ?_
  rintro e w' ⟨he, k, os, rfl⟩
  exact ⟨he, (below_drewN (Below.refl _ _) k).trans (show Below w.heap.size (w.drewN k) _ from below_grow (w.drewN k) os)⟩
theorem itoa_is (n : Int) (h0 : -9223372036854775808 ≤ n) (h1 : n ≤ 9223372036854775807) (w : World) (hp : Pow w) :
    Calls Tryz.prog 300 #[.int .i64 n] w fun e w' => e = .returned (.string ⟨(Lib.itoa n).toArray⟩) ∧ Below w.heap.size w w' := by
  have c := itoaInner n h0 h1 w hp
  have d : Calls Tryz.prog 344 #[.int .i64 n] w fun e w' => e = .returned (.string ⟨(Lib.itoa n).toArray⟩) ∧ Below w.heap.size w w' := by
    go_enter Tryz.func344, Tryz.ntmps344
    go_wp2_with fail
    refine c.mono ?_
    rintro e w' ⟨rfl, hB⟩
    go_wp2
    go_ret
    exact ⟨rfl, hB⟩
  go_enter Tryz.func300, Tryz.ntmps300
  go_wp2_with fail
  refine d.mono ?_
  rintro e w' ⟨rfl, hB⟩
  go_wp2
  go_ret
  exact ⟨rfl, hB⟩
end Go.Proofs.YtnfcdccdmlodeaaGreatDoor
