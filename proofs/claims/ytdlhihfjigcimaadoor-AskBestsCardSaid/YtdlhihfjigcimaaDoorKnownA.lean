/- ask.algorithm, and what Known's function value tells. -/
import Derived.Test.YtdlhihfjigcimaaDoorKnownP
import Derived.Test.YtdlhihfjigcimaaDoorAnyS
namespace Go.Proofs.YtdlhihfjigcimaaDoor
open Go.RowKit
def algV (s : ByteArray) : Value := match algoOf s with
  | some (k, b) => .tuple #[.int .i64 k, .bool b, .bool true]
  | none => .tuple #[.int .i64 0, .bool false, .bool false]
theorem algV_some {s : ByteArray} {k : Int} {b : Bool} (h : algoOf s = some (k, b)) : algV s = .tuple #[.int .i64 k, .bool b, .bool true] := by unfold algV; rw [h]
theorem algV_none {s : ByteArray} (h : algoOf s = none) : algV s = .tuple #[.int .i64 0, .bool false, .bool false] := by unfold algV; rw [h]
theorem algGo_cons (s n : ByteArray) (r : List ByteArray) (k : Int) : algGo s (n :: r) k = if same s n then some (k, false) else if same s (n ++ (⟨#[45, 115, 101, 115, 115]⟩ : ByteArray)) then some (k, true) else algGo s r (k + 1) := rfl
theorem algName_size : ∀ n ∈ algNames, n.size ≤ 10 := by decide +kernel
set_option maxRecDepth 100000 in
theorem askAlgorithm (s : ByteArray) (w : World) (hs : s.size ≤ maxLen) :
    Calls Tryd.prog 40 #[.string s] w fun e w' => e = .returned (algV s) ∧ Below w.heap.size w w' := by
  have hA := pieces_at w algNames
  go_enter Tryd.func40, Tryd.ntmps40
  go_wp2
  have hS : StrAt (w.alloc (.cells #[.string (⟨#[77, 68, 53]⟩ : ByteArray), .string (⟨#[83, 72, 65, 45, 50, 53, 54]⟩ : ByteArray)] 9)) (some ⟨w.heap.size, 0, none⟩) algNames := hA
  clear hA
  have hB0 := Lib.hid ((Below.refl w.heap.size w).alloc (Nat.le_refl _) (.cells #[.string (⟨#[77, 68, 53]⟩ : ByteArray), .string (⟨#[83, 72, 65, 45, 50, 53, 54]⟩ : ByteArray)] 9))
  generalize w.alloc (.cells #[.string (⟨#[77, 68, 53]⟩ : ByteArray), .string (⟨#[83, 72, 65, 45, 50, 53, 54]⟩ : ByteArray)] 9) = w0 at hS hB0 ⊢
  go_loopw [9] (fun i wr => ∃ k : Nat, k ≤ algNames.length ∧ i = .int .i64 k ∧ Hid (Below w0.heap.size w0 wr) ∧ Hid (algoOf s = algGo s (algNames.drop k) (2 + k))) (fun i _ => algNames.length - (intOf i).toNat)
  case atStart => exact ⟨0, Nat.zero_le _, rfl, Lib.hid (Below.refl _ _), Lib.hid rfl⟩
  case round =>
    obtain ⟨k, hk, rfl, hB, hN⟩ := hrel
    have hl2 : algNames.length = 2 := rfl
    by_cases hlt : k < algNames.length
    · have hk2 : k < 2 := by omega
      obtain ⟨b, off, hbo, hc⟩ := (hS.later hB.out) k hlt
      cases hbo
      rw [Nat.zero_add] at hc
      have hsz := algName_size _ (List.getElem_mem hlt)
      have hg := Lib.hid (show algoOf s = algGo s (algNames[k] :: algNames.drop (k + 1)) (2 + k) by rw [hN.out, List.drop_eq_getElem_cons hlt]; rfl)
      generalize algNames[k] = n at hc hsz hg
      have t1 := fun w' => tokenSame s n w' hs (by unfold maxLen; omega)
      have hns : (n ++ (⟨#[45, 115, 101, 115, 115]⟩ : ByteArray)).size = n.size + 5 := by rw [add_size]; rfl
      have t2 := fun w' => tokenSame s (n ++ (⟨#[45, 115, 101, 115, 115]⟩ : ByteArray)) w' hs (by unfold maxLen; omega)
      clear hns hN
      have hBw := Lib.hid (hB0.out.then (Nat.le_refl _) hB.out)
      cases h1 : same s n
      · rw [h1] at t1
        cases h2 : same s (n ++ (⟨#[45, 115, 101, 115, 115]⟩ : ByteArray))
        · rw [h2] at t2
          have hn := Lib.hid (show algoOf s = algGo s (algNames.drop (k + 1)) (2 + ((k + 1 : Nat) : Int)) by
            rw [hg.out, algGo_cons, h1, h2, show (2 : Int) + ((k + 1 : Nat) : Int) = 2 + k + 1 by omega]; rfl)
          clear h1 h2
          go_wp2_with fail
          refine (t1 _).mono ?_
          rintro e w2 ⟨rfl, hB2⟩
          have hB3 := Lib.hid (hB.out.then (Nat.le_refl _) hB2)
          go_wp2_with fail
          refine (t2 _).mono ?_
          rintro e w3 ⟨rfl, hB4⟩
          have hB5 := Lib.hid (hB3.out.then (Nat.le_refl _) hB4)
          go_wp2
          go_roundw
          case rel => exact ⟨k + 1, by omega, by go_num, hB5, hn⟩
          case measure => simp [intOf]; omega
        · rw [h2] at t2
          have hn := Lib.hid (show algoOf s = some (2 + (k : Int), true) by rw [hg.out, algGo_cons, h1, h2]; rfl)
          clear h1 h2
          go_wp2_with fail
          refine (t1 _).mono ?_
          rintro e w2 ⟨rfl, hB2⟩
          have hB3 := Lib.hid (hBw.out.then (Nat.le_refl _) hB2)
          go_wp2_with fail
          refine (t2 _).mono ?_
          rintro e w3 ⟨rfl, hB4⟩
          have hB5 := Lib.hid (hB3.out.then (Nat.le_refl _) hB4)
          go_wp2
          go_ret3
          exact ⟨by rw [algV_some hn.out]; rfl, hB5.out⟩
      · rw [h1] at t1
        have hn := Lib.hid (show algoOf s = some (2 + (k : Int), false) by rw [hg.out, algGo_cons, h1]; rfl)
        clear h1
        go_wp2_with fail
        refine (t1 _).mono ?_
        rintro e w2 ⟨rfl, hB2⟩
        have hB3 := Lib.hid (hBw.out.then (Nat.le_refl _) hB2)
        go_wp2
        go_ret3
        exact ⟨by rw [algV_some hn.out]; rfl, hB3.out⟩
    · have hn := Lib.hid (show algoOf s = none by rw [hN.out, List.drop_eq_nil_of_le (by omega)]; rfl)
      have hBw := Lib.hid (hB0.out.then (Nat.le_refl _) hB.out)
      go_wp2
      go_ret3
      exact ⟨by rw [algV_none hn.out]; rfl, hBw.out⟩
/-- the function value: whether a word is that of the captured text -/
theorem known1 (x n : ByteArray) (q : Nat) (w : World) (hq : w.cell? ⟨q, 0, none⟩ = some (.string n)) (hx : x.size ≤ maxLen) (hn : n.size ≤ maxLen) :
    Calls Tryd.prog 43 #[.string x, .pointer (some ⟨q, 0, none⟩)] w fun e w' => e = .returned (.bool (same x n)) ∧ Below w.heap.size w w' := by
  go_enter Tryd.func43, Tryd.ntmps43
  go_wp2_with fail
  refine (tokenSame x n _ hx hn).mono ?_
  rintro e w2 ⟨rfl, hB2⟩
  go_wp2
  go_ret
  exact ⟨rfl, hB2⟩
end Go.Proofs.YtdlhihfjigcimaaDoor
