/- A word of 32 bits as digits: by bytes, and by eight digits at once. No program. -/
import Derived.Test.YtfkflgcifddnnaaDoorSumP
import Derived.Test.YtfkflgcifddnnaaDoorHex
namespace Go.Proofs.YtfkflgcifddnnaaDoor

/-- a word's bytes -/
def bytes4 (little : Bool) (n : Nat) : List UInt8 :=
  if little then [UInt8.ofNat (n % 256), UInt8.ofNat (n / 256 % 256), UInt8.ofNat (n / 65536 % 256), UInt8.ofNat (n / 16777216 % 256)]
  else [UInt8.ofNat (n / 16777216 % 256), UInt8.ofNat (n / 65536 % 256), UInt8.ofNat (n / 256 % 256), UInt8.ofNat (n % 256)]
theorem bytes4_length (little : Bool) (n : Nat) : (bytes4 little n).length = 4 := by cases little <;> rfl
theorem ofNat_mod (n : Nat) : (UInt8.ofNat (n % 256)).toNat = n % 256 := by simp
/-- the document's digits of a word -/
def digitsN (little : Bool) (n : Nat) : List UInt8 :=
  let s := tailD 16 n 8
  if little then s.drop 6 ++ (s.drop 4).take 2 ++ (s.drop 2).take 2 ++ s.take 2 else s
theorem tail8 (n : Nat) (h : n < 4294967296) : tailD 16 n 8 = [sig (n / 16777216 % 256 / 16), sig (n / 16777216 % 256 % 16), sig (n / 65536 % 256 / 16), sig (n / 65536 % 256 % 16), sig (n / 256 % 256 / 16), sig (n / 256 % 256 % 16), sig (n % 256 / 16), sig (n % 256 % 16)] := by
  simp only [tailD]
  rw [show n / 16 ^ 7 % 16 = n / 16777216 % 256 / 16 by omega, show n / 16 ^ 6 % 16 = n / 16777216 % 256 % 16 by omega, show n / 16 ^ 5 % 16 = n / 65536 % 256 / 16 by omega, show n / 16 ^ 4 % 16 = n / 65536 % 256 % 16 by omega,
    show n / 16 ^ 3 % 16 = n / 256 % 256 / 16 by omega, show n / 16 ^ 2 % 16 = n / 256 % 256 % 16 by omega, show n / 16 ^ 1 % 16 = n % 256 / 16 by omega, show n / 16 ^ 0 % 16 = n % 256 % 16 by omega]
theorem hex_bytes4 (little : Bool) (n : Nat) (h : n < 4294967296) : hexL (bytes4 little n) = digitsN little n := by
  unfold digitsN
  rw [tail8 n h]
  cases little <;> simp [bytes4, hexL, hex2]
theorem fill8 (n : Nat) (h : n < 4294967296) : fillD 16 n 8 = tailD 16 n 8 := fillD_small (by decide) (by decide) (by omega)
theorem hexL_append (a b : List UInt8) : hexL (a ++ b) = hexL a ++ hexL b := by simp [hexL]
end Go.Proofs.YtfkflgcifddnnaaDoor
