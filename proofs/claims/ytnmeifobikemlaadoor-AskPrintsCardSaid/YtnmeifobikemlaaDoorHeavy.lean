/- What the statements' 'heavy' says of challenges: if it says no, they are few and short. -/
import Derived.Test.YtnmeifobikemlaaDoorPar
namespace Go.Proofs.YtnmeifobikemlaaDoor
open Go.RowKit

/-- The slice at a holds these challenges. -/
def ChalAt (w : World) (a : Option Addr) (cs : List Chal) : Prop :=
  ∀ i (h : i < cs.length), ∃ b off, a = some ⟨b, off, none⟩ ∧ w.cell? ⟨b, off + i * 3, none⟩ = some (.string cs[i].scheme) ∧ w.cell? ⟨b, off + i * 3 + 1, none⟩ = some (.string cs[i].token) ∧
    w.cell? ⟨b, off + i * 3 + 2, none⟩ = some (.slice cs[i].addr cs[i].params.length cs[i].cap)
theorem ChalAt.later {w w' : World} {a : Option Addr} {cs : List Chal} (h : ChalAt w a cs) (hb : Below w.heap.size w w') : ChalAt w' a cs := by
  intro i hi
  obtain ⟨b, off, ha, h1, h2, h3⟩ := h i hi
  exact ⟨b, off, ha, (hb.cell (World.block_lt_of_cell? w _ h1)).trans h1, (hb.cell (World.block_lt_of_cell? w _ h2)).trans h2, (hb.cell (World.block_lt_of_cell? w _ h3)).trans h3⟩

def wTo (c : Chal) (k : Nat) : Nat := c.scheme.size + c.token.size + ((c.params.take k).map (fun p => p.1.size + p.2.size)).sum
theorem wTo_zero (c : Chal) : wTo c 0 = c.scheme.size + c.token.size := by simp [wTo]
theorem wTo_succ (c : Chal) (k : Nat) (h : k < c.params.length) : wTo c (k + 1) = wTo c k + (c.params[k].1.size + c.params[k].2.size) := by
  unfold wTo; rw [List.take_succ_eq_append_getElem h, List.map_append, List.sum_append]; simp only [List.map_cons, List.map_nil, List.sum_cons, List.sum_nil]; omega
theorem wTo_le {w : World} {c : Chal} (h : c.Ok w) : ∀ k, k ≤ c.params.length → wTo c k ≤ (k + 1) * 281474976702464 := by
  have z1 := h.s1; have z2 := h.s2
  simp only [reachBytes] at z1 z2
  intro k
  induction k with
  | zero => intro _; rw [wTo_zero]; omega
  | succ k ih =>
    intro hk
    have := ih (by omega)
    have z := h.re _ (List.getElem_mem (show k < c.params.length by omega))
    simp only [reachBytes] at z
    rw [wTo_succ c k (by omega)]
    omega

structure Light (c : Chal) : Prop where
  few : c.params.length ≤ 20
  short : wTo c c.params.length ≤ 600
def HeavySays (cs : List Chal) (e : Ending) : Prop := ∃ b, e = .returned (.bool b) ∧ (b = false → cs.length ≤ 10 ∧ ∀ c ∈ cs, Light c)

set_option maxRecDepth 100000 in
set_option maxHeartbeats 800000 in
theorem heavy_says (a : Option Addr) (cap : Nat) (cs : List Chal) (w : World) (hC : ChalAt w a cs) (hO : ∀ c ∈ cs, c.Ok w) (hl : cs.length ≤ maxLen) :
    Calls Tryd.prog 41 #[.slice a cs.length cap] w fun e w' => HeavySays cs e ∧ Below w.heap.size w w' := by
  unfold maxLen at hl
  by_cases h10 : 10 < cs.length
  · go_enter Tryd.func41, Tryd.ntmps41
    go_wp2
    go_ret
    exact ⟨⟨true, rfl, by simp⟩, Below.refl _ _⟩
  go_enter Tryd.func41, Tryd.ntmps41
  go_wp2
  go_loopw [3] (fun i wr => ∃ k : Nat, k ≤ cs.length ∧ i = .int .i64 k ∧ Below w.heap.size w wr ∧ Hid (∀ c ∈ cs.take k, Light c)) (fun i _ => cs.length - (intOf i).toNat)
  case atStart => exact ⟨0, Nat.zero_le _, rfl, Below.refl _ _, Lib.hid (by simp)⟩
  case round =>
    obtain ⟨k, hk, rfl, hB, hL⟩ := hrel
    by_cases hlt : k < cs.length
    · obtain ⟨b, off, rfl, h1, h2, h3⟩ := (hC.later hB) k hlt
      have hOk := (hO _ (List.getElem_mem hlt)).later hB
      have z1 := hOk.s1
      have z2 := hOk.s2
      simp only [reachBytes] at z1 z2
      by_cases h20 : 20 < cs[k].params.length
      · go_wp2
        go_quiet (fail)
        go_wp2
        go_ret
        exact ⟨⟨true, rfl, by simp⟩, below_drewN hB _⟩
      go_wp2
      go_quiet (fail)
      go_wp2
      have hB1 := fun nq => below_drewN hB nq
      have h0 : (cs[k].scheme.size : Int) + cs[k].token.size = ((wTo cs[k] 0 : Nat) : Int) := by rw [wTo_zero]; omega
      rw [h0]
      clear h0
      go_loopw [4, 5] (fun n i w2 => ∃ j : Nat, j ≤ cs[k].params.length ∧ i = .int .i64 j ∧ n = .int .i64 ((wTo cs[k] j : Nat) : Int) ∧ Below w.heap.size w w2) (fun _ i _ => cs[k].params.length - (intOf i).toNat)
      case atStart => exact ⟨0, Nat.zero_le _, rfl, rfl, hB1 _⟩
      case round =>
        obtain ⟨j, hj, rfl, rfl, hB2⟩ := hrel
        rename_i w2
        obtain ⟨b', off', hba, h1, h2, h3⟩ := (hC.later hB2) k hlt
        simp at hba
        obtain ⟨rfl, rfl⟩ := hba
        have hOk2 := (hO _ (List.getElem_mem hlt)).later hB2
        by_cases hjl : j < cs[k].params.length
        · obtain ⟨b3, off3, hpa, p1, p2⟩ := hOk2.at_ j hjl
          rw [hpa] at h3
          have z := hOk2.re _ (List.getElem_mem hjl)
          have hw1 := wTo_le hOk2 j (by omega)
          have hs := Lib.hid (wTo_succ cs[k] j hjl)
          simp only [reachBytes] at z
          obtain ⟨z3, z4⟩ := z
          have hw2 : wTo cs[k] j ≤ 5910974510751744 := by
            refine Nat.le_trans hw1 (Nat.le_trans (Nat.mul_le_mul_right _ (show j + 1 ≤ 21 from ?_)) (by decide))
            omega
          clear hw1
          go_wp2
          go_quiet (fail)
          go_wp2
          go_roundw
          case rel => exact ⟨j + 1, by omega, by go_num, by rw [hs.out]; exact congrArg (Value.int IntKind.i64) (by omega), below_drewN hB2 _⟩
          case measure => simp [intOf]; omega
        · obtain rfl : j = cs[k].params.length := by omega
          have hw1 := wTo_le hOk2 _ (Nat.le_refl _)
          go_wp2
          · go_ret
            exact ⟨⟨true, rfl, by simp⟩, hB2⟩
          · have h6 : (wTo cs[k] cs[k].params.length : Int) ≤ 600 := by assumption
            go_roundw
            case rel =>
              refine ⟨k + 1, by omega, by go_num, hB2, Lib.hid ?_⟩
              intro c hc
              rw [List.take_succ_eq_append_getElem hlt] at hc
              rcases List.mem_append.1 hc with hc | hc
              · exact hL.out c hc
              · simp at hc; subst hc; exact ⟨by omega, by omega⟩
            case measure => simp [intOf]; omega
    · obtain rfl : k = cs.length := by omega
      go_wp2
      go_ret
      exact ⟨⟨false, rfl, fun _ => ⟨by omega, by have := hL.out; simpa using this⟩⟩, hB⟩

end Go.Proofs.YtnmeifobikemlaaDoor
