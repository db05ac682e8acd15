/- SHA-256, both sides. -/
import Derived.Test.YtfkflgcifddnnaaDoorSumSR
import Derived.Test.YtfkflgcifddnnaaDoorSumX
namespace Go.Proofs.YtfkflgcifddnnaaDoor
open Go.RowKit
theorem eight_lt {v : W8} (h : v.ok) : ∀ x ∈ eightL v, x < 4294967296 := by
  intro x hx
  obtain ⟨h1, h2, h3, h4, h5, h6, h7, h8⟩ := h
  simp only [eightL, List.mem_cons, List.not_mem_nil, or_false] at hx
  rcases hx with rfl | rfl | rfl | rfl | rfl | rfl | rfl | rfl <;> assumption
/-- SHA-256 as digits -/
def shaL (l : List UInt8) : List UInt8 := (eightL (shaH l)).flatMap (digitsN false)
theorem digits_eight (v : W8) (h : v.ok) : ((eightL v).flatMap (digitsN false)).length = 64 := by
  obtain ⟨h1, h2, h3, h4, h5, h6, h7, h8⟩ := h
  simp [eightL, digitsN_len false _ h1, digitsN_len false _ h2, digitsN_len false _ h3, digitsN_len false _ h4, digitsN_len false _ h5, digitsN_len false _ h6, digitsN_len false _ h7, digitsN_len false _ h8]
theorem shaL_len (l : List UInt8) : (shaL l).length = 64 := digits_eight _ (shaAt_ok _ _ sha0_ok _ _)
theorem sumSHA_is (s : ByteArray) (hs : s.size ≤ 1000000) (w : World) (hT : ShaT w) :
    Calls Tryd.prog 15 #[.string s] w fun e w' => e = .returned (.string ⟨(shaL s.data.toList).toArray⟩) ∧ Below w.heap.size w w' := by
  refine sumSHA s hs w hT (fun v => ⟨((eightL v).flatMap (digitsN false)).toArray⟩) (fun w' => sumPadB s hs w') ?_
  intro v B w' hv hB
  have h := sumTextB B 0 8 (eightL v) (eight_lt hv) (by simp [eightL]) (by simp [eightL]) w' hB.lt (fun i hi => by
    rw [Nat.zero_add]
    match i, hi with
    | 0, _ => exact hB.cell 0 rfl
    | 1, _ => exact hB.cell 1 rfl
    | 2, _ => exact hB.cell 2 rfl
    | 3, _ => exact hB.cell 3 rfl
    | 4, _ => exact hB.cell 4 rfl
    | 5, _ => exact hB.cell 5 rfl
    | 6, _ => exact hB.cell 6 rfl
    | 7, _ => exact hB.cell 7 rfl)
  rw [hex_words false _ (eight_lt hv)] at h
  exact h
end Go.Proofs.YtfkflgcifddnnaaDoor
