/- url.Right: whether an origin may be one. -/
import Derived.Test.YthmkilglidfdiaaGreatDoorHost
import Derived.Test.YthmkilglidfdiaaGreatDoorOrigin
namespace Go.Proofs.YthmkilglidfdiaaGreatDoor
open Go.RowKit
set_option maxRecDepth 100000 in
set_option linter.unusedSimpArgs false in
theorem urlHost_long (s : ByteArray) (w : World) (hl : 60 < s.size) :
    Calls Tryz.prog 61 #[.string s] w fun e w' => e = .returned (.bool (hostOk s.data.toList)) ∧ Below w.heap.size w w' := by
  have hk : Hid (hostOk s.data.toList = false) := Lib.hid (by unfold hostOk; rw [← sz_len]; simp; omega)
  go_enter Tryz.func61, Tryz.ntmps61
  go_wp2
  go_returns
  exact ⟨by rw [hk.out], by go_grown⟩
theorem urlHost_any (s : ByteArray) (w : World) : Calls Tryz.prog 61 #[.string s] w fun e w' => e = .returned (.bool (hostOk s.data.toList)) ∧ Below w.heap.size w w' := by
  by_cases h : s.size ≤ 60
  · exact urlHost s w h
  · exact urlHost_long s w (by omega)
set_option maxRecDepth 100000 in
theorem urlRight (sec : Bool) (host : ByteArray) (port : Int) (w : World) :
    Calls Tryz.prog 39 #[.agg #[.bool sec, .string host, .int .i64 port]] w fun e w' => e = .returned (.bool (hostOk host.data.toList && portOk port)) ∧ Below w.heap.size w w' := by
  unfold portOk
  have hB := (Below.refl w.heap.size w).alloc (Nat.le_refl _) (Obj.cells #[.bool sec, .string host, .int .i64 port] 23)
  go_enter Tryz.func39, Tryz.ntmps39
  go_wp2_with fail
  refine (urlHost_any host _).mono ?_
  rintro e w1 ⟨rfl, hB1⟩
  have c2 := box_cell (c := #[.bool sec, .string host, .int .i64 port]) (by simpa using hB1) 2 rfl
  have hB2 := hB.then (Nat.le_refl _) hB1
  cases e1 : hostOk host.data.toList
  · go_wp2
    go_ret
    exact ⟨ret_bool (by rw [e1]; rfl), hB2⟩
  · cases h1 : decide (1 ≤ port)
    · go_wp2
      go_ret
      exact ⟨ret_bool (by rw [e1, h1]; rfl), hB2⟩
    · cases h2 : decide (port ≤ 65535)
      all_goals
        go_wp2
        go_ret
        exact ⟨ret_bool (by rw [e1, h1, h2]; rfl), hB2⟩
end Go.Proofs.YthmkilglidfdiaaGreatDoor
