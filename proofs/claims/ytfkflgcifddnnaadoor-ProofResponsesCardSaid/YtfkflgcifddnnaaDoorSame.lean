/- token.Same and the reference's Same: whether two texts are one in small letters. -/
import Derived.Test.YtfkflgcifddnnaaDoorLower
namespace Go.Proofs.YtfkflgcifddnnaaDoor
open Go.RowKit

def same (a b : ByteArray) : Bool := lower a.data.toList == lower b.data.toList

theorem tokenSame (a b : ByteArray) (w : World) (ha : a.size ≤ maxLen) (hb : b.size ≤ maxLen) :
    Calls Tryd.prog 98 #[.string a, .string b] w fun e w' => e = .returned (.bool (same a b)) ∧ Below w.heap.size w w' := by
  go_enter Tryd.func98, Tryd.ntmps98
  go_wp2_with fail
  refine (codingLower _ _ ha).mono ?_
  rintro e w1 ⟨rfl, hB1⟩
  go_wp2_with fail
  refine (codingLower _ _ hb).mono ?_
  rintro e w2 ⟨rfl, hB2⟩
  go_wp2
  go_ret
  exact ⟨rfl, hB1.trans (hB2.mono hB1.size)⟩

theorem refSame (a b : ByteArray) (w : World) (ha : a.size ≤ maxLen) (hb : b.size ≤ maxLen) :
    Calls Tryd.prog 160 #[.string a, .string b] w fun e w' => e = .returned (.bool (same a b)) ∧ Below w.heap.size w w' := by
  go_enter Tryd.func160, Tryd.ntmps160
  go_wp2_with fail
  refine (refLower _ _ ha).mono ?_
  rintro e w1 ⟨rfl, hB1⟩
  go_wp2_with fail
  refine (refLower _ _ hb).mono ?_
  rintro e w2 ⟨rfl, hB2⟩
  go_wp2
  go_ret
  exact ⟨rfl, hB1.trans (hB2.mono hB1.size)⟩

end Go.Proofs.YtfkflgcifddnnaaDoor
