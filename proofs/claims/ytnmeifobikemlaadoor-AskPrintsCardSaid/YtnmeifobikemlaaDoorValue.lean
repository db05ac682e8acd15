/- token.Value and the reference's: a text as it is, if it is a word, else between marks. -/
import Derived.Test.YtnmeifobikemlaaDoorQuote
namespace Go.Proofs.YtnmeifobikemlaaDoor
open Go.RowKit

def valueRes (s : ByteArray) (bad good : Value) : Value := if tokW s.data.toList then .tuple #[.string s, good] else quoteRes s.data.toList bad good

set_option maxRecDepth 100000 in
theorem refValue (s : ByteArray) (w : World) (hs : s.size ≤ 1099511627776) :
    Calls Tryd.prog 18 #[.string s] w fun e w' => e = .returned (valueRes s (.int .i64 3) (.int .i64 0)) ∧ w = w' := by
  have r1 := refQuote s w hs
  have r0 := refToken s w (by unfold maxLen; omega)
  unfold valueRes
  unfold quoteRes at r1 ⊢
  cases ht : tokW s.data.toList <;> cases hq : quotable s.data.toList
  all_goals
    rw [ht] at r0
    rw [hq] at r1
    clear ht hq
    go_enter Tryd.func18, Tryd.ntmps18
    go_wp2_with (go_at_call 61; refine r0.mono ?_; rintro e w' ⟨rfl, rfl⟩)
    try
      go_at_call 15
      refine r1.mono ?_
      rintro e w' ⟨rfl, rfl⟩
      go_wp2
    go_ret2
    exact ⟨rfl, rfl⟩

set_option maxRecDepth 100000 in
theorem tokenValue (s : ByteArray) (w : World) (hs : s.size ≤ 1099511627776) :
    Calls Tryd.prog 19 #[.string s] w fun e w' => e = .returned (valueRes s (.iface 22 (.int .i64 3)) .nilIface) ∧ Below w.heap.size w w' := by
  have r1 := tokenQuote s w hs
  have r0 := tokenIs s w (by unfold maxLen; omega)
  unfold valueRes
  unfold quoteRes at r1 ⊢
  cases ht : tokW s.data.toList <;> cases hq : quotable s.data.toList
  all_goals
    rw [ht] at r0
    rw [hq] at r1
    clear ht hq
    go_enter Tryd.func19, Tryd.ntmps19
    go_wp2_with (go_at_call 62; refine r0.mono ?_; rintro e w' ⟨rfl, rfl⟩)
    first
      | (go_at_call 16
         refine r1.mono ?_
         rintro e w1 ⟨rfl, hB⟩
         go_wp2
         go_ret2
         exact ⟨rfl, hB⟩)
      | (go_ret2
         exact ⟨rfl, Below.refl _ _⟩)

theorem escs_len' (l : List UInt8) : (quoted l).length ≤ 2 * l.length + 2 := by
  have := escs_len l
  unfold quoted
  simp only [List.length_cons, List.length_append, List.length_nil]
  omega
/-- what a value is: a text (not much longer), or no value. -/
theorem valueRes_cases (s : ByteArray) : (∃ x : ByteArray, x.size ≤ 2 * s.size + 2 ∧ ∀ bad good, valueRes s bad good = .tuple #[.string x, good]) ∨ (∀ bad good, valueRes s bad good = .tuple #[.string ⟨#[]⟩, bad]) := by
  unfold valueRes quoteRes
  cases tokW s.data.toList
  · cases quotable s.data.toList
    · exact .inr fun _ _ => rfl
    · refine .inl ⟨_, ?_, fun _ _ => rfl⟩
      have := escs_len' s.data.toList
      rw [Lib.size_eq, Lib.size_eq]
      exact this
  · exact .inl ⟨s, by omega, fun _ _ => rfl⟩

set_option maxRecDepth 100000 in
/-- the law: any text as a value is the document's. -/
theorem values_walk (s : ByteArray) (w : World) (hg : ErrType w) :
    Calls Tryd.prog 4 #[.string s] w fun e w' => e = .returned (.bool true) ∧ Below w.heap.size w w' := by
  by_cases hs : s.size ≤ 300
  · have r1 := refValue s w (by omega)
    have r2 := tokenValue s w (by omega)
    rcases valueRes_cases s with ⟨x, _, hx⟩ | hx
    · rw [hx] at r1 r2
      clear hx
      go_enter Tryd.func4, Tryd.ntmps4
      go_wp2_with fail
      refine r1.mono ?_
      rintro e w' ⟨rfl, rfl⟩
      go_wp2_with fail
      refine r2.mono ?_
      rintro e w1 ⟨rfl, hB⟩
      go_wp2_with fail
      refine (bare_is 0 (hg.later hB) (ErrIs.none _)).mono ?_
      rintro e w2 ⟨rfl, hB2⟩
      have hB3 := hB.then (Nat.le_refl _) hB2
      go_wp2
      go_ret
      exact ⟨rfl, hB3⟩
    · rw [hx] at r1 r2
      clear hx
      go_enter Tryd.func4, Tryd.ntmps4
      go_wp2_with fail
      refine r1.mono ?_
      rintro e w' ⟨rfl, rfl⟩
      go_wp2_with fail
      refine r2.mono ?_
      rintro e w1 ⟨rfl, hB⟩
      go_wp2_with fail
      refine (bare_is 3 (hg.later hB) (ErrIs.num _ 3)).mono ?_
      rintro e w2 ⟨rfl, hB2⟩
      have hB3 := hB.then (Nat.le_refl _) hB2
      go_wp2
      go_ret
      exact ⟨rfl, hB3⟩
  · go_enter Tryd.func4, Tryd.ntmps4
    go_wp2
    all_goals go_ret
    exact ⟨rfl, Below.refl _ _⟩
end Go.Proofs.YtnmeifobikemlaaDoor
