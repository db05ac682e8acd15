/- Bytes that may stand between marks. Plain; no program. -/
import Derived.Test.YtfkflgcifddnnaaDoorBase
namespace Go.Proofs.YtfkflgcifddnnaaDoor
/-- a byte that may stand between marks -/
def textB (c : UInt8) : Bool := decide (c.toNat = 9 ∨ 32 ≤ c.toNat ∧ c.toNat ≠ 127)
end Go.Proofs.YtfkflgcifddnnaaDoor
