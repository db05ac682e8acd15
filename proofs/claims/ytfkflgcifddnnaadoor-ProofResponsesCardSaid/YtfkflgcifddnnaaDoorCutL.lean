/- Texts cut at one byte. Plain lists; no program. -/
import Derived.Test.YtfkflgcifddnnaaDoorStr
import Derived.Lib.SplitLaws
namespace Go.Proofs.YtfkflgcifddnnaaDoor

/-- cut at each c -/
def cutL (c : UInt8) : List UInt8 → List (List UInt8)
  | [] => [[]]
  | x :: l => if x = c then [] :: cutL c l else match cutL c l with
    | [] => [[x]]
    | h :: t => (x :: h) :: t
theorem cutL_ne (c : UInt8) : ∀ l, cutL c l ≠ []
  | [] => by simp [cutL]
  | x :: l => by
    unfold cutL
    split
    · simp
    · split <;> simp
theorem cutL_hit (c : UInt8) (l : List UInt8) : cutL c (c :: l) = [] :: cutL c l := by simp [cutL]
theorem cutL_skip {c x : UInt8} (h : x ≠ c) (l : List UInt8) : ∃ p r, cutL c l = p :: r ∧ cutL c (x :: l) = (x :: p) :: r := by
  cases hc : cutL c l with
  | nil => exact absurd hc (cutL_ne c l)
  | cons p r => exact ⟨p, r, rfl, by simp [cutL, h, hc]⟩
theorem index_one_hit (c : UInt8) (l : List UInt8) : Lib.index (c :: l) [c] = 0 :=
  Lib.index_first (i := 0) (Nat.zero_le _) (by simp [Lib.occAt]) (fun _ h => absurd h (Nat.not_lt_zero _))
theorem index_one_skip {c x : UInt8} (h : x ≠ c) (l : List UInt8) : Lib.index (x :: l) [c] = if Lib.index l [c] == -1 then -1 else Lib.index l [c] + 1 := by
  conv => lhs; unfold Lib.index
  have hx : (c == x) = false := by rw [beq_eq_false_iff_ne]; exact fun e => h e.symm
  simp [hx, List.isPrefixOf]
theorem count_one_hit (c : UInt8) (l : List UInt8) : Lib.count (c :: l) [c] = Lib.count l [c] + 1 := by rw [Lib.count_cons_eq]; omega
theorem count_one_skip {c x : UInt8} (h : x ≠ c) (l : List UInt8) : Lib.count (x :: l) [c] = Lib.count l [c] := Lib.count_cons_ne x c l h
theorem splitK_cut (c : UInt8) : ∀ l : List UInt8, Lib.splitK [c] 0 (Lib.count l [c]) l = cutL c l
  | [] => by
    have : Lib.count [] [c] = 0 := by rw [Lib.count_one]; rfl
    rw [this]; rfl
  | x :: l => by
    have ih := splitK_cut c l
    by_cases h : x = c
    · subst h
      rw [count_one_hit, cutL_hit, Lib.splitK, index_one_hit, if_neg (by decide)]
      simp only [Int.toNat_zero, Nat.add_zero, List.take_zero, List.length_cons, List.length_nil, Nat.zero_add, List.drop_succ_cons, List.drop_zero]
      rw [ih]
    · rw [count_one_skip h]
      obtain ⟨p, r, h1, h2⟩ := cutL_skip h l
      rw [h2]
      rw [h1] at ih
      cases hk : Lib.count l [c] with
      | zero =>
        rw [hk] at ih
        simp only [Lib.splitK, List.cons.injEq] at ih ⊢
        exact ⟨⟨trivial, ih.1⟩, ih.2⟩
      | succ k =>
        rw [hk] at ih
        have hne : Lib.index l [c] ≠ -1 := by
          intro e
          have := Lib.count_miss e
          omega
        have hge := Lib.index_ge l [c]
        unfold Lib.splitK at ih ⊢
        rw [if_neg (by simpa using hne)] at ih
        have hix : Lib.index (x :: l) [c] = Lib.index l [c] + 1 := by rw [index_one_skip h, if_neg (by simpa using hne)]
        rw [hix, if_neg (by rw [beq_iff_eq]; omega)]
        have e1 : (Lib.index l [c] + 1).toNat = (Lib.index l [c]).toNat + 1 := by omega
        rw [e1]
        simp only [List.cons.injEq, List.length_cons, List.length_nil] at ih ⊢
        refine ⟨?_, ?_⟩
        · rw [show (Lib.index l [c]).toNat + 1 + 0 = ((Lib.index l [c]).toNat + 0) + 1 by omega, List.take_succ_cons]
          exact congrArg (x :: ·) ih.1
        · rw [show (Lib.index l [c]).toNat + 1 + (0 + 1) = ((Lib.index l [c]).toNat + (0 + 1)) + 1 by omega, List.drop_succ_cons, ih.2]
/-- the pieces as texts -/
theorem splitB_cut (c : UInt8) (s : ByteArray) : (Lib.splitB ⟨#[c]⟩ 0 (Lib.countB s ⟨#[c]⟩) s).map (·.data.toList) = cutL c s.data.toList := by
  rw [Lib.splitB_data]
  exact splitK_cut c _
theorem cutL_len (c : UInt8) : ∀ l : List UInt8, (cutL c l).length ≤ l.length + 1
  | [] => by simp [cutL]
  | x :: l => by
    have ih := cutL_len c l
    by_cases h : x = c
    · subst h; rw [cutL_hit]; simp; omega
    · obtain ⟨p, r, h1, h2⟩ := cutL_skip h l
      rw [h2]; rw [h1] at ih; simp at ih ⊢; omega
theorem cutL_piece (c : UInt8) : ∀ (l p : List UInt8), p ∈ cutL c l → p.length ≤ l.length ∧ c ∉ p
  | [], p, h => by simp [cutL] at h; subst h; simp
  | x :: l, p, h => by
    by_cases hx : x = c
    · subst hx
      rw [cutL_hit] at h
      rcases List.mem_cons.1 h with rfl | h
      · simp
      · have := cutL_piece x l p h; simp; exact ⟨by omega, this.2⟩
    · obtain ⟨q, r, h1, h2⟩ := cutL_skip hx l
      rw [h2] at h
      have ih := cutL_piece c l
      rw [h1] at ih
      rcases List.mem_cons.1 h with rfl | h
      · have := ih q (by simp)
        simp; exact ⟨this.1, fun e => hx e.symm, this.2⟩
      · have := ih p (by simp [h])
        simp; exact ⟨by omega, this.2⟩
end Go.Proofs.YtfkflgcifddnnaaDoor
