/- url.Text and the reference's OriginText: an origin as text. -/
import Derived.Test.YtinlahahbhpppaaItoa
import Derived.Test.YtinlahahbhpppaaPortMap
import Derived.Test.YtinlahahbhpppaaFoun2
import Derived.Lib.ItoaLen
import Derived.Deep.QuietTactic
import Derived.BigQuiet
import Derived.Deep.RegionHeld3
namespace Go.Proofs.Ytinlahahbhpppaa
open Go.RowKit

theorem ba_to {s : ByteArray} {L : List UInt8} (h : s.data.toList = L) : s = ⟨L.toArray⟩ := by
  subst h; rfl
/-- the origin's own box keeps what it holds -/
theorem mkO {w : World} {sec : Bool} {host : ByteArray} {port : Int} (w' : World) (h : Below (w.heap.size + 1) (w.alloc (Obj.cells #[.bool sec, .string host, .int .i64 port] 27)) w') :
    Below (w.heap.size + 1) (w.alloc (Obj.cells #[.bool sec, .string host, .int .i64 port] 27)) w' ∧ w'.cell? ⟨w.heap.size, 0, none⟩ = some (.bool sec) ∧ w'.cell? ⟨w.heap.size, 1, none⟩ = some (.string host) ∧ w'.cell? ⟨w.heap.size, 2, none⟩ = some (.int .i64 port) :=
  ⟨h, box_cell h 0 rfl, box_cell h 1 rfl, box_cell h 2 rfl⟩

/-- an origin as text -/
def originL (sec : Bool) (host : ByteArray) (port : Int) : List UInt8 :=
  [104, 116, 116, 112] ++ (if sec then [115] else []) ++ [58, 47, 47] ++ host.data.toList ++ (if port == portOf sec then [] else [58] ++ Lib.itoa port)
theorem originL_len (sec : Bool) (host : ByteArray) (port : Int) (h0 : -9223372036854775808 ≤ port) (h1 : port ≤ 9223372036854775807) : (originL sec host port).length ≤ host.size + 40 := by
  have := Lib.itoa_length_le port h0 h1
  unfold originL
  rw [Lib.size_eq host]
  cases sec <;> cases (port == portOf _) <;> simp <;> omega

end Go.Proofs.Ytinlahahbhpppaa
