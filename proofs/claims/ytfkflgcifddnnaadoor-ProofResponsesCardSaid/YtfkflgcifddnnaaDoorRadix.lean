/- Numerals of a base: the last digits of a number, how many it has. Plain lists and numbers; no program. -/
import Derived.Test.YtfkflgcifddnnaaDoorBase
namespace Go.Proofs.YtfkflgcifddnnaaDoor

/-- the sign of a digit -/
def sig (d : Nat) : UInt8 := if d < 10 then UInt8.ofNat (48 + d) else UInt8.ofNat (87 + d)
/-- the last m digits of n -/
def tailD (b n : Nat) : Nat → List UInt8
  | 0 => []
  | m + 1 => sig (n / b ^ m % b) :: tailD b n m
theorem tailD_length (b n : Nat) : ∀ m, (tailD b n m).length = m
  | 0 => rfl
  | m + 1 => by simp [tailD, tailD_length b n m]
theorem div_pow_succ (n b k : Nat) : n / b ^ (k + 1) = n / b ^ k / b := by rw [Nat.pow_succ, Nat.div_div_eq_div_mul]
/-- so many digits has n, at least one -/
def nlenF (b : Nat) : Nat → Nat → Nat
  | 0, _ => 1
  | f + 1, n => if n < b then 1 else nlenF b f (n / b) + 1
def nlen (b n : Nat) : Nat := nlenF b 64 n
theorem nlenF_of (b : Nat) : ∀ (f n k : Nat), k < f → n / b ^ k < b → (∀ j, j < k → b ≤ n / b ^ j) → nlenF b f n = k + 1
  | 0, _, _, h, _, _ => by omega
  | f + 1, n, 0, _, h, _ => by simp only [Nat.pow_zero, Nat.div_one] at h; simp [nlenF, h]
  | f + 1, n, k + 1, hk, h, hj => by
    have h0 := hj 0 (by omega)
    simp only [Nat.pow_zero, Nat.div_one] at h0
    unfold nlenF
    rw [if_neg (by omega)]
    congr 1
    refine nlenF_of b f (n / b) k (by omega) ?_ ?_
    · rw [Nat.div_div_eq_div_mul, Nat.mul_comm, ← Nat.pow_succ]; exact h
    · intro j hjk
      have := hj (j + 1) (by omega)
      rw [Nat.div_div_eq_div_mul, Nat.mul_comm, ← Nat.pow_succ]; exact this
theorem nlen_of (b n k : Nat) (hk : k < 64) (h : n / b ^ k < b) (hj : ∀ j, j < k → b ≤ n / b ^ j) : nlen b n = k + 1 := nlenF_of b 64 n k hk h hj
theorem nlenF_le (b : Nat) : ∀ (f n : Nat), nlenF b f n ≤ f + 1
  | 0, _ => Nat.le_refl _
  | f + 1, n => by
    have := nlenF_le b f (n / b)
    unfold nlenF; split <;> omega
theorem nlen_pos (b n : Nat) : 1 ≤ nlen b n := by unfold nlen nlenF; split <;> omega
theorem nlenF_small (b : Nat) (hb : 2 ≤ b) : ∀ (f n m : Nat), 1 ≤ m → n < b ^ m → nlenF b f n ≤ m
  | 0, _, _, hm, _ => hm
  | f + 1, n, m, hm, h => by
    unfold nlenF; split
    · exact hm
    · rename_i hn
      match m, hm with
      | 1, _ => simp at h; omega
      | m + 2, _ =>
        have := nlenF_small b hb f (n / b) (m + 1) (by omega) ((Nat.div_lt_iff_lt_mul (by omega)).2 (by rw [← Nat.pow_succ]; exact h))
        omega
theorem nlen_small {b n m : Nat} (hb : 2 ≤ b) (hm : 1 ≤ m) (h : n < b ^ m) : nlen b n ≤ m := nlenF_small b hb 64 n m hm h
theorem nlenF_lt (b : Nat) (hb : 2 ≤ b) : ∀ (f n : Nat), n < b ^ (f + 1) → n < b ^ nlenF b f n
  | 0, n, h => h
  | f + 1, n, h => by
    unfold nlenF; split
    · simpa
    · have := nlenF_lt b hb f (n / b) ((Nat.div_lt_iff_lt_mul (by omega)).2 (by rw [← Nat.pow_succ]; exact h))
      rw [Nat.pow_succ]
      exact (Nat.div_lt_iff_lt_mul (by omega)).1 this
theorem nlen_lt {b n : Nat} (hb : 2 ≤ b) (h : n < b ^ 65) : n < b ^ nlen b n := nlenF_lt b hb 64 n h
theorem sig0 : sig 0 = 48 := rfl
/-- one zero more ahead of a numeral that is long enough -/
theorem tailD_pad {b n m : Nat} (h : n < b ^ m) : tailD b n (m + 1) = 48 :: tailD b n m := by
  have e : sig (n / b ^ m % b) = 48 := by rw [Nat.div_eq_of_lt h, Nat.zero_mod]; rfl
  simp only [tailD]
  rw [e]
theorem tailD_pads {b n m : Nat} (hb : 2 ≤ b) (h : n < b ^ m) : ∀ j, tailD b n (m + j) = List.replicate j 48 ++ tailD b n m
  | 0 => rfl
  | j + 1 => by
    have : n < b ^ (m + j) := Nat.lt_of_lt_of_le h (Nat.pow_le_pow_right (by omega) (by omega))
    rw [← Nat.add_assoc, tailD_pad this, tailD_pads hb h j]; rfl
/-- a number's numeral -/
def radix (b n : Nat) : List UInt8 := tailD b n (nlen b n)
/-- the same, filled up with zeros to so many digits at least -/
def fillD (b n least : Nat) : List UInt8 := tailD b n (max (nlen b n) least)
theorem fillD_small {b n m : Nat} (hb : 2 ≤ b) (hm : 1 ≤ m) (h : n < b ^ m) : fillD b n m = tailD b n m := by
  unfold fillD; rw [Nat.max_eq_right (nlen_small hb hm h)]

/-- digits laid into a row of 65, from its end on -/
def rowD (b n k : Nat) : List UInt8 := List.replicate (65 - k) 0 ++ tailD b n k
theorem rowD_length (b n k : Nat) (h : k ≤ 65) : (rowD b n k).length = 65 := by simp [rowD, tailD_length]; omega
theorem rowD_zero (b n : Nat) : rowD b n 0 = List.replicate 65 0 := by simp [rowD, tailD]
theorem rowD_succ (b n k : Nat) (h : k < 65) : rowD b n (k + 1) = (rowD b n k).set (64 - k) (sig (n / b ^ k % b)) := by
  unfold rowD
  rw [List.set_append_left _ _ (by simp; omega)]
  obtain ⟨j, hj, rfl⟩ : ∃ j, j ≤ 64 ∧ k = 64 - j := ⟨64 - k, by omega, by omega⟩
  have e : (List.replicate (65 - (64 - j)) (0 : UInt8)).set (64 - (64 - j)) (sig (n / b ^ (64 - j) % b)) = List.replicate (65 - (64 - j + 1)) 0 ++ [sig (n / b ^ (64 - j) % b)] := by
    have e1 : 65 - (64 - j) = j + 1 := by omega
    have e2 : 64 - (64 - j) = j := by omega
    have e3 : 65 - (64 - j + 1) = j := by omega
    rw [e1, e2, e3, List.replicate_succ', List.set_append_right _ _ (by simp)]
    simp
  rw [e]
  simp [tailD]
theorem rowD_drop (b n k : Nat) : (rowD b n k).drop (65 - k) = tailD b n k := by unfold rowD; rw [List.drop_append_of_le_length (by simp)]; simp
end Go.Proofs.YtfkflgcifddnnaaDoor
