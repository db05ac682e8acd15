/- MD5, both sides. -/
import Derived.Test.YtfkflgcifddnnaaDoorSumMR
import Derived.Test.YtfkflgcifddnnaaDoorSumPad
import Derived.Test.YtfkflgcifddnnaaDoorSumT
namespace Go.Proofs.YtfkflgcifddnnaaDoor
open Go.RowKit


theorem hex_words (little : Bool) : ∀ ws : List Nat, (∀ x ∈ ws, x < 4294967296) → hexL (ws.flatMap (bytes4 little)) = ws.flatMap (digitsN little)
  | [], _ => rfl
  | w :: r, h => by
    rw [List.flatMap_cons, List.flatMap_cons, hexL_append, hex_bytes4 little w (h w (by simp)), hex_words little r (fun x hx => h x (by simp [hx]))]
theorem four_lt {v : W4} (h : v.ok) : ∀ x ∈ four v, x < 4294967296 := by
  intro x hx
  obtain ⟨h1, h2, h3, h4⟩ := h
  simp only [four, List.mem_cons, List.not_mem_nil, or_false] at hx
  rcases hx with rfl | rfl | rfl | rfl <;> assumption
/-- MD5 as digits -/
def md5L (l : List UInt8) : List UInt8 := (four (md5H l)).flatMap (digitsN true)
theorem digits_four (v : W4) (h : v.ok) : ((four v).flatMap (digitsN true)).length = 32 := by
  obtain ⟨h1, h2, h3, h4⟩ := h
  simp [four, digitsN_len true _ h1, digitsN_len true _ h2, digitsN_len true _ h3, digitsN_len true _ h4]
theorem md5L_len (l : List UInt8) : (md5L l).length = 32 := digits_four _ (md5At_ok _ _ _)
theorem sumMD5_is (s : ByteArray) (hs : s.size ≤ 1000000) (w : World) (hT : MdT w) :
    Calls Tryd.prog 13 #[.string s] w fun e w' => e = .returned (.string ⟨(md5L s.data.toList).toArray⟩) ∧ Below w.heap.size w w' := by
  refine sumMD5 s hs w hT (fun v => ⟨((four v).flatMap (digitsN true)).toArray⟩) (fun w' => sumPadL s hs w') ?_
  intro v B w' hv hB
  have h := sumTextL B 0 4 (four v) (four_lt hv) (by simp [four]) (by simp [four]) w' hB.lt (fun i hi => by
    obtain ⟨h1, h2, h3, h4⟩ := hv
    rw [Nat.zero_add]
    match i, hi with
    | 0, _ => exact hB.cell 0 rfl
    | 1, _ => exact hB.cell 1 rfl
    | 2, _ => exact hB.cell 2 rfl
    | 3, _ => exact hB.cell 3 rfl)
  rw [hex_words true _ (four_lt hv)] at h
  exact h
end Go.Proofs.YtfkflgcifddnnaaDoor
