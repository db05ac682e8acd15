/- strings.IndexRune and IndexAny with bytes that are no ASCII. -/
import Derived.Test.YthmkilglidfdiaaGreatDoorUrlYP
import Derived.Laws.RangeAny
namespace Go.Proofs.YthmkilglidfdiaaGreatDoor
open Go.RowKit
def HighTo (s : ByteArray) (pos n : Nat) : Prop := ∀ k, k < n → ∃ h : pos + k < s.size, 128 ≤ (s[pos + k]'h).toNat
theorem decode_bytes (s : ByteArray) (pos : Nat) (h : pos < s.size) (ha : 128 ≤ (s[pos]'h).toNat) : HighTo s pos (Utf8.decode s pos).2 := by
  have hg : ∀ k (hk : pos + k < s.size), s.get! (pos + k) = s[pos + k]'hk := fun k hk => get_at s (pos + k) hk
  have hc : ∀ k, (decide (pos + k < s.size) && ((s.get! (pos + k)).toNat / 64 == 2)) = true → ∃ h : pos + k < s.size, 128 ≤ (s[pos + k]'h).toNat := by
    intro k hk
    rw [Bool.and_eq_true, decide_eq_true_eq, beq_iff_eq] at hk
    refine ⟨hk.1, ?_⟩
    rw [← hg k hk.1]
    omega
  have h0 : ∃ h : pos + 0 < s.size, 128 ≤ (s[pos + 0]'h).toNat := ⟨h, ha⟩
  have one : HighTo s pos 1 := by
    intro k hk
    obtain rfl : k = 0 := by omega
    exact h0
  have hn : ¬ (s[pos]'h).toNat < 128 := by omega
  simp only [Utf8.decode, get_at s pos h, hn, if_false]
  split
  · rename_i h1
    rw [Bool.and_eq_true] at h1
    split
    · intro k hk
      match k, hk with
      | 0, _ => exact h0
      | 1, _ => exact hc 1 h1.2
    · exact one
  · split
    · rename_i h1
      rw [Bool.and_eq_true, Bool.and_eq_true] at h1
      split
      · intro k hk
        match k, hk with
        | 0, _ => exact h0
        | 1, _ => exact hc 1 h1.1.2
        | 2, _ => exact hc 2 h1.2
      · exact one
    · split
      · rename_i h1
        rw [Bool.and_eq_true, Bool.and_eq_true, Bool.and_eq_true] at h1
        split
        · intro k hk
          match k, hk with
          | 0, _ => exact h0
          | 1, _ => exact hc 1 h1.1.1.2
          | 2, _ => exact hc 2 h1.1.2
          | 3, _ => exact hc 3 h1.2
        · exact one
      · exact one
def AllHigh (e : ByteArray) : Prop := 2 ≤ e.size ∧ e.size ≤ 4 ∧ ∀ j (hj : j < e.size), 128 ≤ (e[j]'hj).toNat
theorem ofNat_high {n : Nat} (h : 128 ≤ n) (h2 : n < 256) : 128 ≤ (UInt8.ofNat n).toNat := by
  rw [UInt8.toNat_ofNat']; omega
theorem high2 {a b : UInt8} (ha : 128 ≤ a.toNat) (hb : 128 ≤ b.toNat) : AllHigh ⟨#[a, b]⟩ := ⟨by show 2 ≤ 2; omega, by show 2 ≤ 4; omega, fun j hj => by
  match j, hj with
  | 0, _ => exact ha
  | 1, _ => exact hb
  | j + 2, hj => exact absurd hj (by show ¬ j + 2 < 2; omega)⟩
theorem high3 {a b c : UInt8} (ha : 128 ≤ a.toNat) (hb : 128 ≤ b.toNat) (hc : 128 ≤ c.toNat) : AllHigh ⟨#[a, b, c]⟩ := ⟨by show 2 ≤ 3; omega, by show 3 ≤ 4; omega, fun j hj => by
  match j, hj with
  | 0, _ => exact ha
  | 1, _ => exact hb
  | 2, _ => exact hc
  | j + 3, hj => exact absurd hj (by show ¬ j + 3 < 3; omega)⟩
theorem high4 {a b c d : UInt8} (ha : 128 ≤ a.toNat) (hb : 128 ≤ b.toNat) (hc : 128 ≤ c.toNat) (hd : 128 ≤ d.toNat) : AllHigh ⟨#[a, b, c, d]⟩ := ⟨by show 2 ≤ 4; omega, by show 4 ≤ 4; omega, fun j hj => by
  match j, hj with
  | 0, _ => exact ha
  | 1, _ => exact hb
  | 2, _ => exact hc
  | 3, _ => exact hd
  | j + 4, hj => exact absurd hj (by show ¬ j + 4 < 4; omega)⟩
/-- what a rune's text is made of -/
theorem encode_high (r : Int) (h : 128 ≤ r) : AllHigh (Utf8.encode r) := by
  obtain ⟨c, hc, h1, h2⟩ : ∃ c, (if Utf8.valid r then r.toNat else Utf8.runeError) = c ∧ 128 ≤ c ∧ c ≤ 1114111 := by
    refine ⟨_, rfl, ?_⟩
    split
    · rename_i hv
      unfold Utf8.valid at hv
      simp at hv
      omega
    · decide
  unfold Utf8.encode
  rw [hc]
  simp only []
  rw [if_neg (by omega)]
  split
  · exact high2 (ofNat_high (by omega) (by omega)) (ofNat_high (by omega) (by omega))
  · split
    · exact high3 (ofNat_high (by omega) (by omega)) (ofNat_high (by omega) (by omega)) (ofNat_high (by omega) (by omega))
    · exact high4 (ofNat_high (by omega) (by omega)) (ofNat_high (by omega) (by omega)) (ofNat_high (by omega) (by omega)) (ofNat_high (by omega) (by omega))
end Go.Proofs.YthmkilglidfdiaaGreatDoor
