/- story.Answer and the reference's. -/
import Derived.Test.YtdlhihfjigcimaaDoorStory
import Derived.Test.YtdlhihfjigcimaaDoorShelf
namespace Go.Proofs.YtdlhihfjigcimaaDoor
open Go.RowKit Go.Deep

/-- the text behind a kind's name -/
def ansR (b q i : ByteArray) (t0 c0 : Bool) : ByteArray := (b ++ (if t0 then ⟨#[]⟩ else ⟨#[32]⟩ ++ q)) ++ (if c0 then ⟨#[]⟩ else ⟨#[32, 99, 101, 114, 116, 32]⟩ ++ i)
def ansV (k c : Int) (t q : ByteArray) : ByteArray := if 1 ≤ k ∧ k ≤ 7 then ansR (baseT k) q ⟨(Lib.itoa c).toArray⟩ t.toList.isEmpty (c == 0) else ⟨#[63]⟩
theorem ba_nil (a : ByteArray) : a ++ (⟨#[]⟩ : ByteArray) = a := by
  apply ByteArray.ext
  simp
set_option maxRecDepth 100000 in
set_option maxHeartbeats 1600000 in
theorem storyAnswer (k c : Int) (t q : ByteArray) (w : World) (hq : ∀ w', Below w.heap.size w w' → Calls Tryd.prog 111 #[.string t] w' fun e w'' => e = .returned (.string q) ∧ Below w'.heap.size w' w'')
    (hi : ∀ w', Below w.heap.size w w' → Calls Tryd.prog 69 #[.int .i64 c] w' fun e w'' => e = .returned (.string ⟨(Lib.itoa c).toArray⟩) ∧ Below w'.heap.size w' w'')
    (hqs : q.size ≤ 1000000) (hil : (⟨(Lib.itoa c).toArray⟩ : ByteArray).size ≤ 100) :
    Calls Tryd.prog 72 #[.agg #[.int .i64 k, .string t, .int .i64 c]] w fun e w' => e = .returned (.string (ansV k c t q)) ∧ Below w.heap.size w w' := by
  unfold ansV
  generalize (⟨(Lib.itoa c).toArray⟩ : ByteArray) = i at hi hil ⊢
  have hB0 := (Below.refl w.heap.size w).alloc (Nat.le_refl _) (Obj.cells #[.int .i64 k, .string t, .int .i64 c] 62)
  by_cases h1 : 1 ≤ k
  · by_cases h2 : k ≤ 7
    · have hx := fun w' => baseIdx h1 h2 w'
      have hbs := baseT_size h1 h2
      rw [if_pos ⟨h1, h2⟩]
      generalize baseT k = b at hx hbs ⊢
      unfold ansR
      cases ht : t.toList.isEmpty
      · cases hc : (c == 0)
        · have hc' : (c != 0) = true := by simp [bne, hc]
          go_enter Tryd.func72, Tryd.ntmps72
          go_wp2_with fail
          refine (hq _ hB0).mono ?_
          rintro e w1 ⟨rfl, hB1⟩
          have c2 := box_cell (c := #[.int .i64 k, .string t, .int .i64 c]) (by simpa using hB1) 2 rfl
          have hB2 := hB0.then (Nat.le_refl _) hB1
          go_wp2_with fail
          refine (hi _ hB2).mono ?_
          rintro e w2 ⟨rfl, hB3⟩
          go_wp2
          go_ret
          exact ⟨by simp, hB2.then (Nat.le_refl _) hB3⟩
        · have hc' : (c != 0) = false := by simp [bne, hc]
          go_enter Tryd.func72, Tryd.ntmps72
          go_wp2_with fail
          refine (hq _ hB0).mono ?_
          rintro e w1 ⟨rfl, hB1⟩
          have c2 := box_cell (c := #[.int .i64 k, .string t, .int .i64 c]) (by simpa using hB1) 2 rfl
          have hB2 := hB0.then (Nat.le_refl _) hB1
          go_wp2
          go_ret
          exact ⟨by simp [ba_nil], hB2⟩
      · cases hc : (c == 0)
        · have hc' : (c != 0) = true := by simp [bne, hc]
          go_enter Tryd.func72, Tryd.ntmps72
          go_wp2_with fail
          refine (hi _ hB0).mono ?_
          rintro e w2 ⟨rfl, hB3⟩
          go_wp2
          go_ret
          exact ⟨by simp [ba_nil], hB0.then (Nat.le_refl _) hB3⟩
        · have hc' : (c != 0) = false := by simp [bne, hc]
          go_enter Tryd.func72, Tryd.ntmps72
          go_wp2
          go_ret
          exact ⟨by simp [ba_nil], hB0⟩
    · rw [if_neg (by omega)]
      have g1 : ¬ k < 1 := by omega
      have g2 : 7 < k := by omega
      go_enter Tryd.func72, Tryd.ntmps72
      go_wp2
      go_ret
      exact ⟨rfl, hB0⟩
  · rw [if_neg (by omega)]
    have g1 : k < 1 := by omega
    go_enter Tryd.func72, Tryd.ntmps72
    go_wp2
    go_ret
    exact ⟨rfl, hB0⟩
end Go.Proofs.YtdlhihfjigcimaaDoor
