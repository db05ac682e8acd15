/- url.scheme: which scheme a text begins with. -/
import Derived.Test.YtinlahahbhpppaaUrlP
import Derived.Test.YtinlahahbhpppaaFound
import Derived.Deep.RegionHeld3
import Derived.BigQuiet
import Derived.BigRegion
import Derived.Deep.RegionWith
namespace Go.Proofs.Ytinlahahbhpppaa
open Go.RowKit
/-- the schemes, and whether they are secure -/
def schNames : List (ByteArray × Bool) := [((⟨#[104, 116, 116, 112, 58, 47, 47]⟩ : ByteArray), false), ((⟨#[104, 116, 116, 112, 115, 58, 47, 47]⟩ : ByteArray), true)]
abbrev schArr : Value := .agg #[.string (⟨#[104, 116, 116, 112, 58, 47, 47]⟩ : ByteArray), .bool false, .string (⟨#[104, 116, 116, 112, 115, 58, 47, 47]⟩ : ByteArray), .bool true]
def hitB (l : List UInt8) (nm : ByteArray) : Bool := decide (nm.size ≤ l.length) && (lower (l.take nm.size) == nm.data.toList)
def schTo (l : List UInt8) (k : Nat) : Option (Bool × List UInt8) := ((schNames.take k).find? (fun x => hitB l x.1)).map fun x => (x.2, l.drop x.1.size)
theorem schTo_succ (l : List UInt8) (k : Nat) (h : k < schNames.length) {nm : ByteArray} {sc : Bool} (e : schNames[k] = (nm, sc)) (h0 : schTo l k = none) :
    schTo l (k + 1) = if hitB l nm then some (sc, l.drop nm.size) else none := by
  unfold schTo at h0 ⊢
  rw [List.take_succ_eq_append_getElem h, List.find?_append, e]
  rw [Option.map_eq_none_iff] at h0
  rw [h0]
  simp only [Option.none_or, List.find?_cons, List.find?_nil]
  cases hitB l nm <;> rfl
theorem schTo_more (l : List UInt8) : ∀ (k : Nat) (x : Bool × List UInt8), schTo l (k + 1) = some x → k < 2 → schTo l 2 = some x
  | 1, x, h, _ => h
  | 0, x, h, _ => by
    have h0 : schTo l 1 = some x := h
    unfold schTo schNames at h0 ⊢
    simp only [List.take_succ_cons, List.take_zero, List.find?_cons, List.find?_nil] at h0 ⊢
    cases hh : hitB l (⟨#[104, 116, 116, 112, 58, 47, 47]⟩ : ByteArray)
    · rw [hh] at h0; cases h0
    · rw [hh] at h0; exact h0
theorem sch_all (l : List UInt8) : schTo l 2 = schemeL l := by
  have e7 : hitB l (⟨#[104, 116, 116, 112, 58, 47, 47]⟩ : ByteArray) = decide (lower (l.take 7) = [104, 116, 116, 112, 58, 47, 47]) := by
    unfold hitB
    rw [show ((⟨#[104, 116, 116, 112, 58, 47, 47]⟩ : ByteArray) : ByteArray).size = 7 from rfl, show ((⟨#[104, 116, 116, 112, 58, 47, 47]⟩ : ByteArray) : ByteArray).data.toList = [104, 116, 116, 112, 58, 47, 47] from rfl]
    by_cases h : lower (l.take 7) = [104, 116, 116, 112, 58, 47, 47]
    · obtain ⟨a, b, c, d, r, rfl, _⟩ := take7 h
      simp
      exact Bool.beq_eq_decide_eq _ _
    · simp [h]
  have e8 : hitB l (⟨#[104, 116, 116, 112, 115, 58, 47, 47]⟩ : ByteArray) = decide (lower (l.take 8) = [104, 116, 116, 112, 115, 58, 47, 47]) := by
    unfold hitB
    rw [show ((⟨#[104, 116, 116, 112, 115, 58, 47, 47]⟩ : ByteArray) : ByteArray).size = 8 from rfl, show ((⟨#[104, 116, 116, 112, 115, 58, 47, 47]⟩ : ByteArray) : ByteArray).data.toList = [104, 116, 116, 112, 115, 58, 47, 47] from rfl]
    by_cases h : lower (l.take 8) = [104, 116, 116, 112, 115, 58, 47, 47]
    · obtain ⟨a, b, c, d, e, r, rfl, _⟩ := take8 h
      simp
      exact Bool.beq_eq_decide_eq _ _
    · simp [h]
  unfold schTo schNames schemeL
  simp only [List.take_succ_cons, List.take_zero, List.find?_cons, List.find?_nil, e7, e8]
  by_cases h7 : lower (l.take 7) = [104, 116, 116, 112, 58, 47, 47]
  · rw [if_pos h7]; simp [h7]; rfl
  · rw [if_neg h7]
    by_cases h8 : lower (l.take 8) = [104, 116, 116, 112, 115, 58, 47, 47]
    · rw [if_pos h8]; simp [h7, h8]; rfl
    · rw [if_neg h8]; simp [h7, h8]
def schV (l : List UInt8) : Value := match schemeL l with
  | some (sec, r) => .tuple #[.bool sec, .string ⟨r.toArray⟩, .bool true]
  | none => .tuple #[.bool false, .string ⟨#[]⟩, .bool false]
theorem schV_some {l r : List UInt8} {sec : Bool} (h : schemeL l = some (sec, r)) : schV l = .tuple #[.bool sec, .string ⟨r.toArray⟩, .bool true] := by unfold schV; rw [h]
theorem schV_none {l : List UInt8} (h : schemeL l = none) : schV l = .tuple #[.bool false, .string ⟨#[]⟩, .bool false] := by unfold schV; rw [h]
end Go.Proofs.Ytinlahahbhpppaa
