/- Texts as lists of bytes: small laws. -/
import Derived.Test.YtfkflgcifddnnaaDoorBase
namespace Go.Proofs.YtfkflgcifddnnaaDoor
theorem ba_eq {s : ByteArray} {L : List UInt8} (h : s.data.toList = L) : s = ⟨L.toArray⟩ := by subst h; rfl
theorem mk_toList (L : List UInt8) : (⟨L.toArray⟩ : ByteArray).data.toList = L := by simp
theorem mk_len (L : List UInt8) : (⟨L.toArray⟩ : ByteArray).size = L.length := by rw [Lib.size_eq]
theorem add_toList (a b : ByteArray) : (a ++ b).data.toList = a.data.toList ++ b.data.toList := by simp
theorem add_size (a b : ByteArray) : (a ++ b).size = a.size + b.size := ByteArray.size_append
theorem sz_len (s : ByteArray) : s.size = s.data.toList.length := Lib.size_eq s
theorem at_list (s : ByteArray) (k : Nat) (_h : k < s.size) (h' : k < s.data.toList.length) : s.data.toList[k] = s[k] := by simp; rfl
theorem ba_ext {s t : ByteArray} (h : s.data.toList = t.data.toList) : s = t := by
  have := ba_eq h; rw [this]
end Go.Proofs.YtfkflgcifddnnaaDoor
