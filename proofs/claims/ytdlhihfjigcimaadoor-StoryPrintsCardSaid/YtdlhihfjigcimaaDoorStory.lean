/- story.Name and story.Answer, and the reference's. -/
import Derived.Test.YtdlhihfjigcimaaDoorItoa
import Derived.Test.YtdlhihfjigcimaaDoorFound
import Derived.Deep.RegionHeld3
import Derived.BigQuiet
import Derived.Lib.ItoaLen
namespace Go.Proofs.YtdlhihfjigcimaaDoor
open Go.RowKit Go.Deep

def nameT (n : Int) : ByteArray := if n = 1 then ⟨#[97, 116, 116, 97, 99, 104]⟩ else if n = 2 then ⟨#[114, 101, 102, 117, 115, 101, 100]⟩ else if n = 3 then ⟨#[97, 110, 115, 119, 101, 114, 101, 100]⟩ else if n = 4 then ⟨#[99, 104, 101, 99, 107]⟩ else if n = 5 then ⟨#[97, 108, 108, 111, 119, 101, 100]⟩ else if n = 6 then ⟨#[112, 105, 99, 107]⟩ else if n = 7 then ⟨#[99, 104, 111, 111, 115, 101]⟩ else if n = 8 then ⟨#[108, 111, 103, 111, 117, 116]⟩ else if n = 9 then ⟨#[99, 108, 101, 97, 114]⟩ else ⟨#[116, 105, 99, 107]⟩
def baseT (n : Int) : ByteArray := if n = 1 then ⟨#[100, 111, 110, 101]⟩ else if n = 2 then ⟨#[110, 111, 110, 101]⟩ else if n = 3 then ⟨#[112, 114, 111, 109, 112, 116]⟩ else if n = 4 then ⟨#[121, 101, 115]⟩ else if n = 5 then ⟨#[110, 111]⟩ else if n = 6 then ⟨#[98, 117, 115, 121]⟩ else ⟨#[111, 100, 100]⟩
def nameR (n : Int) : ByteArray := if 1 ≤ n ∧ n ≤ 10 then nameT n else ⟨#[63]⟩
theorem nameT_one {n : Int} (h1 : 1 ≤ n) (h2 : n ≤ 10) : n = 1 ∨ n = 2 ∨ n = 3 ∨ n = 4 ∨ n = 5 ∨ n = 6 ∨ n = 7 ∨ n = 8 ∨ n = 9 ∨ n = 10 := by omega
theorem baseT_one {n : Int} (h1 : 1 ≤ n) (h2 : n ≤ 7) : n = 1 ∨ n = 2 ∨ n = 3 ∨ n = 4 ∨ n = 5 ∨ n = 6 ∨ n = 7 := by omega
theorem nameIdx {n : Int} (h1 : 1 ≤ n) (h2 : n ≤ 10) (w : World) : (Instr.index 151 (.agg #[.string ⟨#[97, 116, 116, 97, 99, 104]⟩, .string ⟨#[114, 101, 102, 117, 115, 101, 100]⟩, .string ⟨#[97, 110, 115, 119, 101, 114, 101, 100]⟩, .string ⟨#[99, 104, 101, 99, 107]⟩, .string ⟨#[97, 108, 108, 111, 119, 101, 100]⟩, .string ⟨#[112, 105, 99, 107]⟩, .string ⟨#[99, 104, 111, 111, 115, 101]⟩, .string ⟨#[108, 111, 103, 111, 117, 116]⟩, .string ⟨#[99, 108, 101, 97, 114]⟩, .string ⟨#[116, 105, 99, 107]⟩]) (.int .i64 (n - 1))).run Tryd.prog w = .ok (.string (nameT n)) w := by
  rcases nameT_one h1 h2 with rfl | rfl | rfl | rfl | rfl | rfl | rfl | rfl | rfl | rfl <;> kernel_rfl
theorem baseIdx {n : Int} (h1 : 1 ≤ n) (h2 : n ≤ 7) (w : World) : (Instr.index 153 (.agg #[.string ⟨#[100, 111, 110, 101]⟩, .string ⟨#[110, 111, 110, 101]⟩, .string ⟨#[112, 114, 111, 109, 112, 116]⟩, .string ⟨#[121, 101, 115]⟩, .string ⟨#[110, 111]⟩, .string ⟨#[98, 117, 115, 121]⟩, .string ⟨#[111, 100, 100]⟩]) (.int .i64 (n - 1))).run Tryd.prog w = .ok (.string (baseT n)) w := by
  rcases baseT_one h1 h2 with rfl | rfl | rfl | rfl | rfl | rfl | rfl <;> kernel_rfl
theorem baseT_size {n : Int} (h1 : 1 ≤ n) (h2 : n ≤ 7) : (baseT n).size ≤ 6 := by
  rcases baseT_one h1 h2 with rfl | rfl | rfl | rfl | rfl | rfl | rfl <;> decide
/-- the reference's table of names -/
structure Nam (w : World) : Prop where
  at_ : ∀ n : Int, 1 ≤ n → n ≤ 10 → w.cell? ⟨0, (n - 1).toNat, none⟩ = some (.string (nameT n))
theorem Nam.later {w w' : World} (h : Nam w) (hb : Below w.heap.size w w') : Nam w' :=
  ⟨fun n h1 h2 => (hb.cell (World.block_lt_of_cell? w _ (h.at_ n h1 h2))).trans (h.at_ n h1 h2)⟩
set_option maxRecDepth 100000 in
theorem storyName (n : Int) (w : World) : Calls Tryd.prog 70 #[.int .i64 n] w fun e w' => e = .returned (.string (nameR n)) ∧ w = w' := by
  unfold nameR
  by_cases h1 : 1 ≤ n
  · by_cases h2 : n ≤ 10
    · have hi := fun w' => nameIdx h1 h2 w'
      rw [if_pos ⟨h1, h2⟩]
      generalize nameT n = s at hi ⊢
      go_enter Tryd.func70, Tryd.ntmps70
      go_wp2
      go_ret
      exact ⟨rfl, rfl⟩
    · rw [if_neg (by omega)]
      go_enter Tryd.func70, Tryd.ntmps70
      go_wp2
      all_goals
        go_ret
        exact ⟨rfl, rfl⟩
  · rw [if_neg (by omega)]
    go_enter Tryd.func70, Tryd.ntmps70
    go_wp2
    go_ret
    exact ⟨rfl, rfl⟩
set_option maxRecDepth 100000 in
theorem refName (n : Int) (w : World) (hN : Nam w) : Calls Tryd.prog 73 #[.int .i64 n] w fun e w' => e = .returned (.string (nameR n)) ∧ w = w' := by
  unfold nameR
  have hw := fun w' => within_any n 1 10 w'
  by_cases h : 1 ≤ n ∧ n ≤ 10
  · have hc := hN.at_ n h.1 h.2
    rw [show (n - 1).toNat = n.toNat - 1 from by omega] at hc
    obtain ⟨h1, h2⟩ := h
    rw [if_pos ⟨h1, h2⟩]
    have hb : (decide (1 ≤ n) && decide (n ≤ 10)) = true := by simp [h1, h2]
    rw [hb] at hw
    generalize nameT n = s at hc ⊢
    clear hb hN
    go_enter Tryd.func73, Tryd.ntmps73
    go_wp2_with (go_at_call 57; refine (hw _).mono ?_; rintro e w' ⟨rfl, rfl⟩)
    go_ret
    exact ⟨rfl, rfl⟩
  · rw [if_neg h]
    have hb : (decide (1 ≤ n) && decide (n ≤ 10)) = false := by rw [Bool.eq_false_iff]; intro e; simp at e; exact h e
    rw [hb] at hw
    clear hb
    go_enter Tryd.func73, Tryd.ntmps73
    go_wp2_with (go_at_call 57; refine (hw _).mono ?_; rintro e w' ⟨rfl, rfl⟩)
    go_ret
    exact ⟨rfl, rfl⟩
end Go.Proofs.YtdlhihfjigcimaaDoor
