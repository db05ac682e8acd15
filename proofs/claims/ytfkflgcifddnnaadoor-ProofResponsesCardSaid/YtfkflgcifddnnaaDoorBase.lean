/- Small functions of the reference (within, char), and the two Lowers. -/
import Derived.Test.YtfkflgcifddnnaaDoorRows
import Derived.WalkKit
import Derived.ProofKit
import Derived.OpenShut
import Derived.Handy
import Derived.WalkLawsBesides
import Derived.WalkSpells
import Derived.Lib.Hide
import Derived.Lib.Strings
import Derived.Laws.IdiomStrings
import Derived.Deep.LoopGhost
namespace Go.Proofs.YtfkflgcifddnnaaDoor
open Go.RowKit

theorem ret_str {a b : ByteArray} (h : a = b) : Ending.returned (.string a) = .returned (.string b) := by rw [h]
theorem ret_int {k : IntKind} {a b : Int} (h : a = b) : Ending.returned (.int k a) = .returned (.int k b) := by rw [h]
theorem ret_bool {a b : Bool} (h : a = b) : Ending.returned (.bool a) = .returned (.bool b) := by rw [h]

theorem _root_.Go.RowKit.Below.then {B : Nat} {w w1 w2 : World} (h : Below B w w1) (hB : B ≤ w.heap.size) (h2 : Below w1.heap.size w1 w2) : Below B w w2 :=
  h.trans (h2.mono (Nat.le_trans hB h.size))
theorem box_cell {w wr : World} {c : Array Value} {T : TypeId} {B : Nat} (h : Below (B + 1) (w.alloc (.cells c T)) wr) (i : Nat) {v : Value} (hv : c[i]? = some v) (hB : B = w.heap.size := by rfl) : wr.cell? ⟨B, i, none⟩ = some v := by
  subst hB
  rw [h.cell (p := ⟨w.heap.size, i, none⟩) (Nat.lt_succ_self _), World.cell?_alloc_mark]; exact hv
theorem below_box {w wr : World} {o : Obj} (h : Below (w.heap.size + 1) (w.alloc o) wr) : Below w.heap.size w wr :=
  ((Below.refl _ _).alloc (Nat.le_refl _) _).trans (h.mono (Nat.le_succ _))

/-- (own name: a module of the shelf has one of this name in the namespace above, of another form) -/
theorem below_drewN {B : Nat} {a w : World} (h : Below B a w) (n : Nat) : Below B a (w.drewN n) := h.trans ⟨rfl, rfl, rfl, Nat.le_refl _, fun _ _ => rfl⟩

theorem within_any (n lo hi : Int) (w : World) :
    Calls Tryd.prog 133 #[.int .i64 n, .int .i64 lo, .int .i64 hi] w fun e w' => e = .returned (.bool (decide (lo ≤ n) && decide (n ≤ hi))) ∧ w = w' := by
  go_enter Tryd.func133, Tryd.ntmps133
  go_wp2
  all_goals go_ret
  · exact ⟨by simp [*], rfl⟩
  · exact ⟨by simp [*]; omega, rfl⟩

/-- byte(n) -/
def chr (n : Int) : UInt8 := UInt8.ofNat (n % 256).toNat

set_option maxRecDepth 100000 in
theorem char_any (n : Int) (w : World) :
    Calls Tryd.prog 161 #[.int .i64 n] w fun e w' => e = .returned (.string ⟨#[chr n]⟩) ∧ Below w.heap.size w w' := by
  have hcv := run_convert_bytes_arg (P := Tryd.prog) (w.alloc (Obj.cells #[Value.int IntKind.u8 (n % 256)] 5)) 134 5 Tryd.underlying134 Tryd.underlying5 w.heap.size 0 1 1 [n % 256] rfl (by
    intro i hi
    obtain rfl : i = 0 := by omega
    simp [World.cell?_alloc_mark])
    9 Tryd.underlying9
  go_enter Tryd.func161, Tryd.ntmps161
  go_wp2
  go_ret
  exact ⟨rfl, (Below.refl _ _).alloc (Nat.le_refl _) _⟩

end Go.Proofs.YtfkflgcifddnnaaDoor
