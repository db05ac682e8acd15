/- url.host: whether a text is a host (a range over strings.SplitSeq). -/
import Derived.Test.YtinlahahbhpppaaSeqLaw
import Derived.Test.YtinlahahbhpppaaHostP
import Derived.Test.YtinlahahbhpppaaFoun2
namespace Go.Proofs.Ytinlahahbhpppaa
open Go.RowKit Go.Shelf
attribute [local go_sem] Oper.semAt_some

theorem box_free' {w wr : World} {c : Array Value} {T : TypeId} {B : Nat} (h : Below (B + 1) (w.alloc (.cells c T)) wr) (i : Nat) (hB : B = w.heap.size := by rfl) : wr.frozen? ⟨B, i, none⟩ = false := by
  subst hB
  rw [h.frozen (p := ⟨w.heap.size, i, none⟩) (Nat.lt_succ_self _)]
  simp [World.frozen?_alloc_mark]
  try omega

def hostCut : List UInt8 := [97, 98, 99, 100, 101, 102, 103, 104, 105, 106, 107, 108, 109, 110, 111, 112, 113, 114, 115, 116, 117, 118, 119, 120, 121, 122, 48, 49, 50, 51, 52, 53, 54, 55, 56, 57, 45]
theorem hostCut_is (c : UInt8) : hostCut.contains c = hostByte c := by
  have h : ∀ n : Fin 256, hostCut.contains (UInt8.ofNat n) = hostByte (UInt8.ofNat n) := by decide +kernel
  have := h ⟨c.toNat, c.toNat_lt⟩
  simpa using this
theorem hostCut_ascii (j : Nat) (b : UInt8) (h : (⟨hostCut.toArray⟩ : ByteArray).data.toList[j]? = some b) : b.toNat < 128 :=
  (by decide : ∀ b ∈ hostCut, b.toNat < 128) b (List.mem_of_getElem? h)

theorem grownBy_below' {w w' : World} {row : Option Nat} (h : Below w.heap.size w w') : w.grownBy w' row := ⟨h.os, h.tape, h.output, h.size, fun k hk _ => h.block k hk⟩
theorem keeps_below {W W' : World} (h : Below W.heap.size W W') : KeepsOthers W W' := KeepsOthers.of_grownBy (row := none) (grownBy_below' h) (fun j o e => by cases e)
end Go.Proofs.Ytinlahahbhpppaa
