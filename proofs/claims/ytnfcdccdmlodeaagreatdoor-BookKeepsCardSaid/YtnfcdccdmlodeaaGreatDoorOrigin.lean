/- url.Text and the reference's OriginText: an origin as text. -/
import Derived.Test.YtnfcdccdmlodeaaGreatDoorItoa
import Derived.Test.YtnfcdccdmlodeaaGreatDoorPortMap
import Derived.Test.YtnfcdccdmlodeaaGreatDoorFoun2
import Derived.Lib.ItoaLen
import Derived.Deep.QuietTactic
import Derived.BigQuiet
import Derived.Deep.RegionHeld3
namespace Go.Proofs.YtnfcdccdmlodeaaGreatDoor
open Go.RowKit

theorem urlPort (sec : Bool) (w : World) : Calls Tryz.prog 311 #[.bool sec] w fun e w' => e = .returned (.int .i64 (portOf sec)) ∧ w = w' := by
  go_enter Tryz.func311, Tryz.ntmps311
  cases sec
  all_goals go_wp2
  all_goals go_ret
  all_goals exact ⟨rfl, rfl⟩
theorem ba_to {s : ByteArray} {L : List UInt8} (h : s.data.toList = L) : s = ⟨L.toArray⟩ := by
  subst h; rfl
/-- the origin's own box keeps what it holds -/
theorem mkO {w : World} {sec : Bool} {host : ByteArray} {port : Int} (w' : World) (h : Below (w.heap.size + 1) (w.alloc (Obj.cells #[.bool sec, .string host, .int .i64 port] 29)) w') :
    Below (w.heap.size + 1) (w.alloc (Obj.cells #[.bool sec, .string host, .int .i64 port] 29)) w' ∧ w'.cell? ⟨w.heap.size, 0, none⟩ = some (.bool sec) ∧ w'.cell? ⟨w.heap.size, 1, none⟩ = some (.string host) ∧ w'.cell? ⟨w.heap.size, 2, none⟩ = some (.int .i64 port) :=
  ⟨h, box_cell h 0 rfl, box_cell h 1 rfl, box_cell h 2 rfl⟩

/-- an origin as text -/
def originL (sec : Bool) (host : ByteArray) (port : Int) : List UInt8 :=
  [104, 116, 116, 112] ++ (if sec then [115] else []) ++ [58, 47, 47] ++ host.data.toList ++ (if port == portOf sec then [] else [58] ++ Lib.itoa port)
theorem originL_len (sec : Bool) (host : ByteArray) (port : Int) (h0 : -9223372036854775808 ≤ port) (h1 : port ≤ 9223372036854775807) : (originL sec host port).length ≤ host.size + 40 := by
  have := Lib.itoa_length_le port h0 h1
  unfold originL
  rw [Lib.size_eq host]
  cases sec <;> cases (port == portOf _) <;> simp <;> omega

set_option maxRecDepth 100000 in
theorem urlText_false (host : ByteArray) (port : Int) (h0 : -9223372036854775808 ≤ port) (h1 : port ≤ 9223372036854775807) (hh : host.size ≤ 1099511627776) (w : World) (hp : Pow w) :
    Calls Tryz.prog 261 #[.agg #[.bool false, .string host, .int .i64 port]] w fun e w' => e = .returned (.string ⟨(originL false host port).toArray⟩) ∧ Below w.heap.size w w' := by
  have hB := (Below.refl w.heap.size w).alloc (Nat.le_refl _) (Obj.cells #[.bool false, .string host, .int .i64 port] 29)
  have hil := Lib.itoa_length_le port h0 h1
  have hsz : (⟨(Lib.itoa port).toArray⟩ : ByteArray).size = (Lib.itoa port).length := by rw [Lib.size_eq]
  generalize hT : (⟨(Lib.itoa port).toArray⟩ : ByteArray) = T at hsz
  have hT' := Lib.hid hT
  have it := itoa_is port h0 h1
  rw [hT] at it
  clear hT
  have hsT : T.size ≤ 21 := by omega
  clear hsz hil
  cases hq : (port == portOf false)
  all_goals
    have hq' := Lib.hid hq
    go_enter Tryz.func261, Tryz.ntmps261
    go_wp2_with fail
    go_region_held3 (fun w' => Below (w.heap.size + 1) (w.alloc (Obj.cells #[.bool false, .string host, .int .i64 port] 29)) w' ∧ w'.cell? ⟨w.heap.size, 0, none⟩ = some (.bool false) ∧ w'.cell? ⟨w.heap.size, 1, none⟩ = some (.string host) ∧ w'.cell? ⟨w.heap.size, 2, none⟩ = some (.int .i64 port))
      (first | (exact mkO _ (Below.refl _ _).drew) | (go_split_ands; exact mkO _ ((by assumption : Below (w.heap.size + 1) _ _).then (by simp) (by assumption))))
      (first | (go_at_call 311; go_split_ands; refine (urlPort _ _).mono ?_; rintro e w2 ⟨rfl, rfl⟩))
  · go_wp2_with fail
    refine (it _ (hp.later hB.drew)).mono ?_
    rintro e w2 ⟨rfl, hB2⟩
    have hB3 := hB.drew.then (Nat.le_refl _) hB2
    go_wp2
    go_ret
    have hTd : T.data.toList = Lib.itoa port := by rw [← hT'.out]
    exact ⟨ret_str (ba_to (by simp [ByteArray.data_append, originL, hq'.out, hTd])), hB3⟩
  · go_wp2
    go_ret
    exact ⟨ret_str (ba_to (by simp [ByteArray.data_append, originL, hq'.out])), hB.drew⟩

set_option maxRecDepth 100000 in
theorem urlText_true (host : ByteArray) (port : Int) (h0 : -9223372036854775808 ≤ port) (h1 : port ≤ 9223372036854775807) (hh : host.size ≤ 1099511627776) (w : World) (hp : Pow w) :
    Calls Tryz.prog 261 #[.agg #[.bool true, .string host, .int .i64 port]] w fun e w' => e = .returned (.string ⟨(originL true host port).toArray⟩) ∧ Below w.heap.size w w' := by
  have hB := (Below.refl w.heap.size w).alloc (Nat.le_refl _) (Obj.cells #[.bool true, .string host, .int .i64 port] 29)
  have hil := Lib.itoa_length_le port h0 h1
  have hsz : (⟨(Lib.itoa port).toArray⟩ : ByteArray).size = (Lib.itoa port).length := by rw [Lib.size_eq]
  generalize hT : (⟨(Lib.itoa port).toArray⟩ : ByteArray) = T at hsz
  have hT' := Lib.hid hT
  have it := itoa_is port h0 h1
  rw [hT] at it
  clear hT
  have hsT : T.size ≤ 21 := by omega
  clear hsz hil
  cases hq : (port == portOf true)
  all_goals
    have hq' := Lib.hid hq
    go_enter Tryz.func261, Tryz.ntmps261
    go_wp2_with fail
    go_region_held3 (fun w' => Below (w.heap.size + 1) (w.alloc (Obj.cells #[.bool true, .string host, .int .i64 port] 29)) w' ∧ w'.cell? ⟨w.heap.size, 0, none⟩ = some (.bool true) ∧ w'.cell? ⟨w.heap.size, 1, none⟩ = some (.string host) ∧ w'.cell? ⟨w.heap.size, 2, none⟩ = some (.int .i64 port))
      (first | (exact mkO _ (Below.refl _ _).drew) | (go_split_ands; exact mkO _ ((by assumption : Below (w.heap.size + 1) _ _).then (by simp) (by assumption))))
      (first | (go_at_call 311; go_split_ands; refine (urlPort _ _).mono ?_; rintro e w2 ⟨rfl, rfl⟩))
  · go_wp2_with fail
    refine (it _ (hp.later hB.drew)).mono ?_
    rintro e w2 ⟨rfl, hB2⟩
    have hB3 := hB.drew.then (Nat.le_refl _) hB2
    go_wp2
    go_ret
    have hTd : T.data.toList = Lib.itoa port := by rw [← hT'.out]
    exact ⟨ret_str (ba_to (by simp [ByteArray.data_append, originL, hq'.out, hTd])), hB3⟩
  · go_wp2
    go_ret
    exact ⟨ret_str (ba_to (by simp [ByteArray.data_append, originL, hq'.out])), hB.drew⟩

set_option maxRecDepth 100000 in
theorem refText_false (host : ByteArray) (port : Int) (h0 : -9223372036854775808 ≤ port) (h1 : port ≤ 9223372036854775807) (hh : host.size ≤ 1099511627776) (w : World) (hp : Pow w) :
    Calls Tryz.prog 232 #[.agg #[.bool false, .string host, .int .i64 port]] w fun e w' => e = .returned (.string ⟨(originL false host port).toArray⟩) ∧ Below w.heap.size w w' := by
  have hB := (Below.refl w.heap.size w).alloc (Nat.le_refl _) (Obj.cells #[.bool false, .string host, .int .i64 port] 29)
  have hil := Lib.itoa_length_le port h0 h1
  have hsz : (⟨(Lib.itoa port).toArray⟩ : ByteArray).size = (Lib.itoa port).length := by rw [Lib.size_eq]
  generalize hT : (⟨(Lib.itoa port).toArray⟩ : ByteArray) = T at hsz
  have hT' := Lib.hid hT
  have it := itoa_is port h0 h1
  rw [hT] at it
  clear hT
  have hsT : T.size ≤ 21 := by omega
  clear hsz hil
  cases hq : (port == portOf false)
  all_goals
    have hq' := Lib.hid hq
    go_enter Tryz.func232, Tryz.ntmps232
    go_wp2_with fail
    go_region_held3 (fun w' => Below (w.heap.size + 1) (w.alloc (Obj.cells #[.bool false, .string host, .int .i64 port] 29)) w' ∧ w'.cell? ⟨w.heap.size, 0, none⟩ = some (.bool false) ∧ w'.cell? ⟨w.heap.size, 1, none⟩ = some (.string host) ∧ w'.cell? ⟨w.heap.size, 2, none⟩ = some (.int .i64 port))
      (first | (exact mkO _ (Below.refl _ _).drew) | (go_split_ands; exact mkO _ ((by assumption : Below (w.heap.size + 1) _ _).then (by simp) (by assumption))))
      (first | (go_at_call 299; go_split_ands; refine (refPort _ _).mono ?_; rintro e w2 ⟨rfl, hB2⟩))
  · go_split_ands
    have hBx : Below w.heap.size w w2 := below_box (by assumption)
    go_wp2_with fail
    refine (it _ (hp.later hBx)).mono ?_
    rintro e w3 ⟨rfl, hB3⟩
    have hB4 := hBx.then (Nat.le_refl _) hB3
    go_wp2
    go_ret
    have hTd : T.data.toList = Lib.itoa port := by rw [← hT'.out]
    exact ⟨ret_str (ba_to (by simp [ByteArray.data_append, originL, hq'.out, hTd])), hB4⟩
  · go_split_ands
    have hBx : Below w.heap.size w w2 := below_box (by assumption)
    go_wp2
    go_ret
    exact ⟨ret_str (ba_to (by simp [ByteArray.data_append, originL, hq'.out])), hBx⟩

set_option maxRecDepth 100000 in
theorem refText_true (host : ByteArray) (port : Int) (h0 : -9223372036854775808 ≤ port) (h1 : port ≤ 9223372036854775807) (hh : host.size ≤ 1099511627776) (w : World) (hp : Pow w) :
    Calls Tryz.prog 232 #[.agg #[.bool true, .string host, .int .i64 port]] w fun e w' => e = .returned (.string ⟨(originL true host port).toArray⟩) ∧ Below w.heap.size w w' := by
  have hB := (Below.refl w.heap.size w).alloc (Nat.le_refl _) (Obj.cells #[.bool true, .string host, .int .i64 port] 29)
  have hil := Lib.itoa_length_le port h0 h1
  have hsz : (⟨(Lib.itoa port).toArray⟩ : ByteArray).size = (Lib.itoa port).length := by rw [Lib.size_eq]
  generalize hT : (⟨(Lib.itoa port).toArray⟩ : ByteArray) = T at hsz
  have hT' := Lib.hid hT
  have it := itoa_is port h0 h1
  rw [hT] at it
  clear hT
  have hsT : T.size ≤ 21 := by omega
  clear hsz hil
  cases hq : (port == portOf true)
  all_goals
    have hq' := Lib.hid hq
    go_enter Tryz.func232, Tryz.ntmps232
    go_wp2_with fail
    go_region_held3 (fun w' => Below (w.heap.size + 1) (w.alloc (Obj.cells #[.bool true, .string host, .int .i64 port] 29)) w' ∧ w'.cell? ⟨w.heap.size, 0, none⟩ = some (.bool true) ∧ w'.cell? ⟨w.heap.size, 1, none⟩ = some (.string host) ∧ w'.cell? ⟨w.heap.size, 2, none⟩ = some (.int .i64 port))
      (first | (exact mkO _ (Below.refl _ _).drew) | (go_split_ands; exact mkO _ ((by assumption : Below (w.heap.size + 1) _ _).then (by simp) (by assumption))))
      (first | (go_at_call 299; go_split_ands; refine (refPort _ _).mono ?_; rintro e w2 ⟨rfl, hB2⟩))
  · go_split_ands
    have hBx : Below w.heap.size w w2 := below_box (by assumption)
    go_wp2_with fail
    refine (it _ (hp.later hBx)).mono ?_
    rintro e w3 ⟨rfl, hB3⟩
    have hB4 := hBx.then (Nat.le_refl _) hB3
    go_wp2
    go_ret
    have hTd : T.data.toList = Lib.itoa port := by rw [← hT'.out]
    exact ⟨ret_str (ba_to (by simp [ByteArray.data_append, originL, hq'.out, hTd])), hB4⟩
  · go_split_ands
    have hBx : Below w.heap.size w w2 := below_box (by assumption)
    go_wp2
    go_ret
    exact ⟨ret_str (ba_to (by simp [ByteArray.data_append, originL, hq'.out])), hBx⟩

theorem urlText (sec : Bool) (host : ByteArray) (port : Int) (h0 : -9223372036854775808 ≤ port) (h1 : port ≤ 9223372036854775807) (hh : host.size ≤ 1099511627776) (w : World) (hp : Pow w) :
    Calls Tryz.prog 261 #[.agg #[.bool sec, .string host, .int .i64 port]] w fun e w' => e = .returned (.string ⟨(originL sec host port).toArray⟩) ∧ Below w.heap.size w w' := by
  cases sec
  · exact urlText_false host port h0 h1 hh w hp
  · exact urlText_true host port h0 h1 hh w hp
theorem refText (sec : Bool) (host : ByteArray) (port : Int) (h0 : -9223372036854775808 ≤ port) (h1 : port ≤ 9223372036854775807) (hh : host.size ≤ 1099511627776) (w : World) (hp : Pow w) :
    Calls Tryz.prog 232 #[.agg #[.bool sec, .string host, .int .i64 port]] w fun e w' => e = .returned (.string ⟨(originL sec host port).toArray⟩) ∧ Below w.heap.size w w' := by
  cases sec
  · exact refText_false host port h0 h1 hh w hp
  · exact refText_true host port h0 h1 hh w hp
end Go.Proofs.YtnfcdccdmlodeaaGreatDoor
