/- ask.Get and the reference's AskGet: the value of the first parameter of a name. -/
import Derived.Test.YtfkflgcifddnnaaDoorSame
import Derived.Deep.QuietTactic
import Derived.BigQuiet
namespace Go.Proofs.YtfkflgcifddnnaaDoor
open Go.RowKit

/-- The slice at a holds these pairs of texts. -/
def ParAt (w : World) (a : Option Addr) (ps : List (ByteArray × ByteArray)) : Prop :=
  ∀ i (h : i < ps.length), ∃ b off, a = some ⟨b, off, none⟩ ∧ w.cell? ⟨b, off + i * 2, none⟩ = some (.string ps[i].1) ∧ w.cell? ⟨b, off + i * 2 + 1, none⟩ = some (.string ps[i].2)
def ParSz (ps : List (ByteArray × ByteArray)) : Prop := ∀ p ∈ ps, p.1.size ≤ maxLen ∧ p.2.size ≤ maxLen

theorem ParAt.later {w w' : World} {a : Option Addr} {ps : List (ByteArray × ByteArray)} (h : ParAt w a ps) (hb : Below w.heap.size w w') : ParAt w' a ps := by
  intro i hi
  obtain ⟨b, off, ha, h1, h2⟩ := h i hi
  exact ⟨b, off, ha, (hb.cell (World.block_lt_of_cell? w _ h1)).trans h1, (hb.cell (World.block_lt_of_cell? w _ h2)).trans h2⟩

/-- the value of the first parameter of a name -/
def getOf (ps : List (ByteArray × ByteArray)) (name : ByteArray) : ByteArray × Bool :=
  match ps.find? (fun p => same p.1 name) with
  | some p => (p.2, true)
  | none => (⟨#[]⟩, false)

def noneTo (ps : List (ByteArray × ByteArray)) (name : ByteArray) (k : Nat) : Prop := ∀ p ∈ ps.take k, same p.1 name = false
theorem noneTo_zero (ps : List (ByteArray × ByteArray)) (name : ByteArray) : noneTo ps name 0 := by intro p hp; simp at hp
theorem noneTo_succ {ps : List (ByteArray × ByteArray)} {name : ByteArray} {k : Nat} (h : noneTo ps name k) (hk : k < ps.length) (hs : same ps[k].1 name = false) : noneTo ps name (k + 1) := by
  intro p hp
  rw [List.take_succ_eq_append_getElem hk] at hp
  rcases List.mem_append.1 hp with h1 | h1
  · exact h p h1
  · simp at h1; subst h1; exact hs
theorem getOf_hit {ps : List (ByteArray × ByteArray)} {name : ByteArray} {k : Nat} (h : noneTo ps name k) (hk : k < ps.length) (hs : same ps[k].1 name = true) : getOf ps name = (ps[k].2, true) := by
  have : ps.find? (fun p => same p.1 name) = some ps[k] := by
    rw [List.find?_eq_some_iff_getElem]
    refine ⟨hs, k, hk, rfl, fun j hj => ?_⟩
    have := h ps[j] (by rw [List.mem_take_iff_getElem]; exact ⟨j, by omega, rfl⟩)
    simp [this]
  unfold getOf
  rw [this]
theorem getOf_miss {ps : List (ByteArray × ByteArray)} {name : ByteArray} (h : noneTo ps name ps.length) : getOf ps name = (⟨#[]⟩, false) := by
  unfold getOf
  rw [List.find?_eq_none.2 (fun p hp => by simp [h p (by simpa using hp)])]

set_option maxRecDepth 100000 in
set_option maxHeartbeats 400000 in
theorem refAskGet (sc tk : ByteArray) (a : Option Addr) (cap : Nat) (ps : List (ByteArray × ByteArray)) (name : ByteArray) (w : World) (hP : ParAt w a ps) (hz : ParSz ps) (hl : ps.length ≤ maxLen) (hn : name.size ≤ maxLen) :
    Calls Tryd.prog 91 #[.agg #[.string sc, .string tk, .slice a ps.length cap], .string name] w fun e w' => e = .returned (.tuple #[.string (getOf ps name).1, .bool (getOf ps name).2]) ∧ Below w.heap.size w w' := by
  unfold maxLen at hl
  go_enter Tryd.func91, Tryd.ntmps91
  go_wp2
  go_loopw [6] (fun i wr => ∃ k : Nat, k ≤ ps.length ∧ i = .int .i64 k ∧ Below (w.heap.size + 1) (w.alloc (Obj.cells #[Value.string sc, Value.string tk, Value.slice a ps.length cap] 45)) wr ∧ Hid (noneTo ps name k)) (fun i _ => ps.length - (intOf i).toNat)
  case atStart => exact ⟨0, Nat.zero_le _, rfl, Below.refl _ _, Lib.hid (noneTo_zero _ _)⟩
  case round =>
    obtain ⟨k, hk, rfl, hB, hN⟩ := hrel
    have hc2 := box_cell hB 2 rfl
    have hB0 : Below w.heap.size w wr := below_box hB
    by_cases hlt : k < ps.length
    · obtain ⟨b, off, rfl, h1, h2⟩ := (hP.later hB0) k hlt
      have hs1 := (hz _ (List.getElem_mem hlt)).1
      cases hb : same ps[k].1 name
      · have hn' := Lib.hid (noneTo_succ hN.out hlt hb)
        go_wp2_with fail
        refine (refSame _ _ _ hs1 hn).mono ?_
        rintro e w2 ⟨rfl, hB2⟩
        go_wp2_with fail
        go_roundw
        case rel => exact ⟨k + 1, by omega, by go_num, hB.then (by simp) hB2, hn'⟩
        case measure => simp [intOf]; omega
      · have hn' := Lib.hid (getOf_hit hN.out hlt hb)
        go_wp2_with fail
        refine (refSame _ _ _ hs1 hn).mono ?_
        rintro e w2 ⟨rfl, hB2⟩
        have hc2' := (hB2.cell (p := ⟨w.heap.size, 2, none⟩) (World.block_lt_of_cell? wr _ hc2)).trans hc2
        have h2' := (hB2.cell (p := ⟨b, off + k * 2 + 1, none⟩) (World.block_lt_of_cell? wr _ h2)).trans h2
        go_wp2_with fail
        go_ret2
        exact ⟨by rw [hn'.out]; rfl, hB0.then (Nat.le_refl _) hB2⟩
    · obtain rfl : k = ps.length := by omega
      have hn' := Lib.hid (getOf_miss hN.out)
      go_wp2_with fail
      go_ret2
      exact ⟨by rw [hn'.out]; rfl, hB0⟩
set_option maxRecDepth 100000 in
set_option maxHeartbeats 400000 in
theorem askGet (sc tk : ByteArray) (a : Option Addr) (cap : Nat) (ps : List (ByteArray × ByteArray)) (name : ByteArray) (w : World) (hP : ParAt w a ps) (hz : ParSz ps) (hl : ps.length ≤ maxLen) (hn : name.size ≤ maxLen) :
    Calls Tryd.prog 97 #[.agg #[.string sc, .string tk, .slice a ps.length cap], .string name] w fun e w' => e = .returned (.tuple #[.string (getOf ps name).1, .bool (getOf ps name).2]) ∧ Below w.heap.size w w' := by
  unfold maxLen at hl
  go_enter Tryd.func97, Tryd.ntmps97
  go_wp2
  go_loopw [11] (fun i wr => ∃ k : Nat, k ≤ ps.length ∧ i = .int .i64 k ∧ Below (w.heap.size + 1) (w.alloc (Obj.cells #[Value.string sc, Value.string tk, Value.slice a ps.length cap] 45)) wr ∧ Hid (noneTo ps name k)) (fun i _ => ps.length - (intOf i).toNat)
  case atStart => exact ⟨0, Nat.zero_le _, rfl, Below.refl _ _, Lib.hid (noneTo_zero _ _)⟩
  case round =>
    obtain ⟨k, hk, rfl, hB, hN⟩ := hrel
    have hB0 : Below w.heap.size w wr := below_box hB
    by_cases hlt : k < ps.length
    · obtain ⟨b, off, rfl, h1, h2⟩ := (hP.later hB0) k hlt
      have hs1 := (hz _ (List.getElem_mem hlt)).1
      cases hb : same ps[k].1 name
      · have hn' := Lib.hid (noneTo_succ hN.out hlt hb)
        go_wp2_with fail
        refine (tokenSame _ _ _ hs1 hn).mono ?_
        rintro e w2 ⟨rfl, hB2⟩
        go_wp2_with fail
        go_roundw
        case rel => exact ⟨k + 1, by omega, by go_num, (hB.alloc (by simpa using hB.size) _).then (by simp) hB2, hn'⟩
        case measure => simp [intOf]; omega
      · have hn' := Lib.hid (getOf_hit hN.out hlt hb)
        go_wp2_with fail
        refine (tokenSame _ _ _ hs1 hn).mono ?_
        rintro e w2 ⟨rfl, hB2⟩
        have h2' := box_cell (by simpa using hB2) 1 rfl
        go_wp2_with fail
        go_ret2
        exact ⟨by rw [hn'.out]; rfl, (hB0.alloc hB0.size _).then (Nat.le_refl _) hB2⟩
    · obtain rfl : k = ps.length := by omega
      have hn' := Lib.hid (getOf_miss hN.out)
      go_wp2_with fail
      go_ret2
      exact ⟨by rw [hn'.out]; rfl, hB0⟩
end Go.Proofs.YtfkflgcifddnnaaDoor
