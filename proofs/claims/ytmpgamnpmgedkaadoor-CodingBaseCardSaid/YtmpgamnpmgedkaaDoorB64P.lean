/- Base64: three bytes by three, and bit by bit, are one. Plain lists; no program. -/
import Derived.Test.YtmpgamnpmgedkaaDoorRadix
namespace Go.Proofs.YtmpgamnpmgedkaaDoor

def lettersL : List UInt8 := [65, 66, 67, 68, 69, 70, 71, 72, 73, 74, 75, 76, 77, 78, 79, 80, 81, 82, 83, 84, 85, 86, 87, 88, 89, 90, 97, 98, 99, 100, 101, 102, 103, 104, 105, 106, 107, 108, 109, 110, 111, 112, 113, 114, 115, 116, 117, 118, 119, 120, 121, 122, 48, 49, 50, 51, 52, 53, 54, 55, 56, 57, 43, 47]
def let6 (n : Nat) : UInt8 := lettersL.getD n 0
/-- the program's way: three bytes, four letters -/
def b64 : List UInt8 → List UInt8
  | [] => []
  | [a] => let v := a.toNat * 65536; [let6 (v / 262144 % 64), let6 (v / 4096 % 64), 61, 61]
  | [a, b] => let v := a.toNat * 65536 + b.toNat * 256; [let6 (v / 262144 % 64), let6 (v / 4096 % 64), let6 (v / 64 % 64), 61]
  | a :: b :: c :: r => let v := a.toNat * 65536 + b.toNat * 256 + c.toNat; let6 (v / 262144 % 64) :: let6 (v / 4096 % 64) :: let6 (v / 64 % 64) :: let6 (v % 64) :: b64 r
/-- bits as a number -/
def val (l : List UInt8) : Nat := l.foldl (fun n c => n * 2 + (c.toNat - 48)) 0
def bitsOf (l : List UInt8) : List UInt8 := l.flatMap fun c => tailD 2 c.toNat 8
def pad6 (l : List UInt8) : List UInt8 := l ++ List.replicate ((6 - l.length % 6) % 6) 48
def groups : List UInt8 → List UInt8
  | a :: b :: c :: d :: e :: f :: r => let6 (val [a, b, c, d, e, f]) :: groups r
  | _ => []
def pad4 (l : List UInt8) : List UInt8 := l ++ List.replicate ((4 - l.length % 4) % 4) 61
theorem sig_bit (n : Nat) : (sig (n % 2)).toNat - 48 = n % 2 := by
  rcases Nat.mod_two_eq_zero_or_one n with h | h <;> rw [h] <;> rfl
theorem bits8 (c : UInt8) : tailD 2 c.toNat 8 = [sig (c.toNat / 128 % 2), sig (c.toNat / 64 % 2), sig (c.toNat / 32 % 2), sig (c.toNat / 16 % 2), sig (c.toNat / 8 % 2), sig (c.toNat / 4 % 2), sig (c.toNat / 2 % 2), sig (c.toNat % 2)] := by
  simp [tailD]
theorem bitsOf_cons (c : UInt8) (l : List UInt8) : bitsOf (c :: l) = tailD 2 c.toNat 8 ++ bitsOf l := by simp [bitsOf]
theorem bitsOf_len (l : List UInt8) : (bitsOf l).length = 8 * l.length := by
  induction l with
  | nil => rfl
  | cons c l ih => rw [bitsOf_cons, List.length_append, tailD_length, ih, List.length_cons]; omega
theorem pad6_far (x y : List UInt8) (h : x.length = 24) : pad6 (x ++ y) = x ++ pad6 y := by
  unfold pad6
  rw [List.length_append, h, show (24 + y.length) % 6 = y.length % 6 by omega, List.append_assoc]
theorem pad4_far (a b c d : UInt8) (y : List UInt8) : pad4 (a :: b :: c :: d :: y) = a :: b :: c :: d :: pad4 y := by
  unfold pad4
  simp only [List.length_cons]
  rw [show (y.length + 1 + 1 + 1 + 1) % 4 = y.length % 4 by omega]
  rfl
theorem val6 (a b c d e f : Nat) : val [sig (a % 2), sig (b % 2), sig (c % 2), sig (d % 2), sig (e % 2), sig (f % 2)] = 32 * (a % 2) + 16 * (b % 2) + 8 * (c % 2) + 4 * (d % 2) + 2 * (e % 2) + f % 2 := by
  simp only [val, List.foldl_cons, List.foldl_nil, sig_bit]
  omega
theorem sig0' : (48 : UInt8) = sig (0 % 2) := rfl
/-- the document's way is the program's -/
theorem b64_bits : ∀ l : List UInt8, pad4 (groups (pad6 (bitsOf l))) = b64 l
  | [] => rfl
  | [a] => by
    have ha := a.toNat_lt
    have e : pad6 (bitsOf [a]) = [sig (a.toNat / 128 % 2), sig (a.toNat / 64 % 2), sig (a.toNat / 32 % 2), sig (a.toNat / 16 % 2), sig (a.toNat / 8 % 2), sig (a.toNat / 4 % 2), sig (a.toNat / 2 % 2), sig (a.toNat % 2), sig (0 % 2), sig (0 % 2), sig (0 % 2), sig (0 % 2)] := by
      unfold pad6
      rw [bitsOf_len, bitsOf_cons, bits8, show (6 - 8 * [a].length % 6) % 6 = 4 by simp]
      simp [bitsOf, List.replicate, sig0']
    rw [e]
    simp only [groups, val6, b64]
    rw [show 32 * (a.toNat / 128 % 2) + 16 * (a.toNat / 64 % 2) + 8 * (a.toNat / 32 % 2) + 4 * (a.toNat / 16 % 2) + 2 * (a.toNat / 8 % 2) + a.toNat / 4 % 2 = a.toNat * 65536 / 262144 % 64 by omega,
      show 32 * (a.toNat / 2 % 2) + 16 * (a.toNat % 2) + 8 * (0 % 2) + 4 * (0 % 2) + 2 * (0 % 2) + 0 % 2 = a.toNat * 65536 / 4096 % 64 by omega]
    rfl
  | [a, b] => by
    have ha := a.toNat_lt
    have hb := b.toNat_lt
    have e : pad6 (bitsOf [a, b]) = [sig (a.toNat / 128 % 2), sig (a.toNat / 64 % 2), sig (a.toNat / 32 % 2), sig (a.toNat / 16 % 2), sig (a.toNat / 8 % 2), sig (a.toNat / 4 % 2), sig (a.toNat / 2 % 2), sig (a.toNat % 2),
        sig (b.toNat / 128 % 2), sig (b.toNat / 64 % 2), sig (b.toNat / 32 % 2), sig (b.toNat / 16 % 2), sig (b.toNat / 8 % 2), sig (b.toNat / 4 % 2), sig (b.toNat / 2 % 2), sig (b.toNat % 2), sig (0 % 2), sig (0 % 2)] := by
      unfold pad6
      rw [bitsOf_len, bitsOf_cons, bitsOf_cons, bits8, bits8, show (6 - 8 * [a, b].length % 6) % 6 = 2 by simp]
      simp [bitsOf, List.replicate, sig0']
    rw [e]
    simp only [groups, val6, b64]
    rw [show 32 * (a.toNat / 128 % 2) + 16 * (a.toNat / 64 % 2) + 8 * (a.toNat / 32 % 2) + 4 * (a.toNat / 16 % 2) + 2 * (a.toNat / 8 % 2) + a.toNat / 4 % 2 = (a.toNat * 65536 + b.toNat * 256) / 262144 % 64 by omega,
      show 32 * (a.toNat / 2 % 2) + 16 * (a.toNat % 2) + 8 * (b.toNat / 128 % 2) + 4 * (b.toNat / 64 % 2) + 2 * (b.toNat / 32 % 2) + b.toNat / 16 % 2 = (a.toNat * 65536 + b.toNat * 256) / 4096 % 64 by omega,
      show 32 * (b.toNat / 8 % 2) + 16 * (b.toNat / 4 % 2) + 8 * (b.toNat / 2 % 2) + 4 * (b.toNat % 2) + 2 * (0 % 2) + 0 % 2 = (a.toNat * 65536 + b.toNat * 256) / 64 % 64 by omega]
    rfl
  | a :: b :: c :: r => by
    have ha := a.toNat_lt
    have hb := b.toNat_lt
    have hc := c.toNat_lt
    have ih := b64_bits r
    rw [bitsOf_cons, bitsOf_cons, bitsOf_cons, ← List.append_assoc, ← List.append_assoc, pad6_far _ _ (by simp [tailD_length]), bits8, bits8, bits8]
    simp only [List.cons_append, List.nil_append, groups, val6, b64]
    rw [pad4_far, ih,
      show 32 * (a.toNat / 128 % 2) + 16 * (a.toNat / 64 % 2) + 8 * (a.toNat / 32 % 2) + 4 * (a.toNat / 16 % 2) + 2 * (a.toNat / 8 % 2) + a.toNat / 4 % 2 = (a.toNat * 65536 + b.toNat * 256 + c.toNat) / 262144 % 64 by omega,
      show 32 * (a.toNat / 2 % 2) + 16 * (a.toNat % 2) + 8 * (b.toNat / 128 % 2) + 4 * (b.toNat / 64 % 2) + 2 * (b.toNat / 32 % 2) + b.toNat / 16 % 2 = (a.toNat * 65536 + b.toNat * 256 + c.toNat) / 4096 % 64 by omega,
      show 32 * (b.toNat / 8 % 2) + 16 * (b.toNat / 4 % 2) + 8 * (b.toNat / 2 % 2) + 4 * (b.toNat % 2) + 2 * (c.toNat / 128 % 2) + c.toNat / 64 % 2 = (a.toNat * 65536 + b.toNat * 256 + c.toNat) / 64 % 64 by omega,
      show 32 * (c.toNat / 32 % 2) + 16 * (c.toNat / 16 % 2) + 8 * (c.toNat / 8 % 2) + 4 * (c.toNat / 4 % 2) + 2 * (c.toNat / 2 % 2) + c.toNat % 2 = (a.toNat * 65536 + b.toNat * 256 + c.toNat) % 64 by omega]
end Go.Proofs.YtmpgamnpmgedkaaDoor
