/- The reference's filled, Hex; coding.Hex: bytes as two small digits each. -/
import Derived.Test.YtfkflgcifddnnaaDoorRadixF
import Derived.Test.YtfkflgcifddnnaaDoorStr
import Derived.Test.YtfkflgcifddnnaaDoorBuilder
namespace Go.Proofs.YtfkflgcifddnnaaDoor
open Go.RowKit

set_option maxRecDepth 100000 in
theorem filled_16 (n L : Nat) (hn : n < 9223372036854775808) (hL : L ≤ 1000) (w : World) (hd : Deb w) :
    Calls Tryd.prog 141 #[.int .i64 n, .int .i64 16, .int .i64 L] w fun e w' => e = .returned (.string ⟨(fillD 16 n L).toArray⟩) ∧ Below w.heap.size w w' := by
  have hlt := nlen_lt (b := 16) (n := n) (by decide) (Nat.lt_of_lt_of_le hn (by decide))
  have h65 : nlen 16 n ≤ 65 := nlenF_le 16 64 n
  go_enter Tryd.func141, Tryd.ntmps141
  go_wp2_with fail
  refine (formatInt_16 n hn w hd).mono ?_
  rintro e w1 ⟨rfl, hB1⟩
  unfold radix
  obtain ⟨S0, hS0⟩ : ∃ S0 : ByteArray, S0 = ⟨(tailD 16 n (nlen 16 n)).toArray⟩ := ⟨_, rfl⟩
  rw [← hS0]
  have hS0l : Hid (S0.data.toList = tailD 16 n (nlen 16 n)) := by rw [hS0]; exact Lib.hid (mk_toList _)
  clear hS0
  have hd' := Lib.hid hlt; clear hlt
  go_wp2
  go_loopg [7] (L - nlen 16 n) (fun g s wr => ∃ (S : ByteArray) (m : Nat), g = L - m ∧ s = .string S ∧ Hid (S.data.toList = tailD 16 n m) ∧ nlen 16 n ≤ m ∧ (m ≤ nlen 16 n ∨ m ≤ L) ∧ Below w.heap.size w wr)
  case atStart => exact ⟨S0, nlen 16 n, rfl, rfl, hS0l, Nat.le_refl _, .inl (Nat.le_refl _), hB1⟩
  case round =>
    obtain ⟨S, m, rfl, rfl, hS, hm, hm', hB⟩ := hrel
    have hsz : S.size = m := by rw [sz_len, hS.out, tailD_length]
    have hs1 : S.size ≤ m := by omega
    have hs2 : m ≤ S.size := by omega
    clear hsz
    by_cases h : S.size < L
    · have hadd := run_string_add_sum (P := Tryd.prog) wr ⟨#[48]⟩ S (by rw [show (⟨#[48]⟩ : ByteArray).size = 1 from rfl]; omega)
      go_wp2
      go_roundg (L - (m + 1))
      case rel => exact ⟨_, m + 1, rfl, rfl, Lib.hid (by rw [add_toList, hS.out, tailD_pad (Nat.lt_of_lt_of_le hd'.out (Nat.pow_le_pow_right (by decide) hm))]; rfl), by omega, .inr (by omega), hB⟩
      case measure => omega
    · go_wp2
      go_ret
      exact ⟨ret_str (ba_eq (by rw [hS.out]; unfold fillD; rw [show max (nlen 16 n) L = m by omega])), hB⟩

set_option maxRecDepth 100000 in
theorem filled_2 (n L : Nat) (hn : n < 9223372036854775808) (hL : L ≤ 1000) (w : World) (hd : Deb w) :
    Calls Tryd.prog 141 #[.int .i64 n, .int .i64 2, .int .i64 L] w fun e w' => e = .returned (.string ⟨(fillD 2 n L).toArray⟩) ∧ Below w.heap.size w w' := by
  have hlt := nlen_lt (b := 2) (n := n) (by decide) (Nat.lt_of_lt_of_le hn (by decide))
  have h65 : nlen 2 n ≤ 65 := nlenF_le 2 64 n
  go_enter Tryd.func141, Tryd.ntmps141
  go_wp2_with fail
  refine (formatInt_2 n hn w hd).mono ?_
  rintro e w1 ⟨rfl, hB1⟩
  unfold radix
  obtain ⟨S0, hS0⟩ : ∃ S0 : ByteArray, S0 = ⟨(tailD 2 n (nlen 2 n)).toArray⟩ := ⟨_, rfl⟩
  rw [← hS0]
  have hS0l : Hid (S0.data.toList = tailD 2 n (nlen 2 n)) := by rw [hS0]; exact Lib.hid (mk_toList _)
  clear hS0
  have hd' := Lib.hid hlt; clear hlt
  go_wp2
  go_loopg [7] (L - nlen 2 n) (fun g s wr => ∃ (S : ByteArray) (m : Nat), g = L - m ∧ s = .string S ∧ Hid (S.data.toList = tailD 2 n m) ∧ nlen 2 n ≤ m ∧ (m ≤ nlen 2 n ∨ m ≤ L) ∧ Below w.heap.size w wr)
  case atStart => exact ⟨S0, nlen 2 n, rfl, rfl, hS0l, Nat.le_refl _, .inl (Nat.le_refl _), hB1⟩
  case round =>
    obtain ⟨S, m, rfl, rfl, hS, hm, hm', hB⟩ := hrel
    have hsz : S.size = m := by rw [sz_len, hS.out, tailD_length]
    have hs1 : S.size ≤ m := by omega
    have hs2 : m ≤ S.size := by omega
    clear hsz
    by_cases h : S.size < L
    · have hadd := run_string_add_sum (P := Tryd.prog) wr ⟨#[48]⟩ S (by rw [show (⟨#[48]⟩ : ByteArray).size = 1 from rfl]; omega)
      go_wp2
      go_roundg (L - (m + 1))
      case rel => exact ⟨_, m + 1, rfl, rfl, Lib.hid (by rw [add_toList, hS.out, tailD_pad (Nat.lt_of_lt_of_le hd'.out (Nat.pow_le_pow_right (by decide) hm))]; rfl), by omega, .inr (by omega), hB⟩
      case measure => omega
    · go_wp2
      go_ret
      exact ⟨ret_str (ba_eq (by rw [hS.out]; unfold fillD; rw [show max (nlen 2 n) L = m by omega])), hB⟩

theorem sig_hi (c : UInt8) : sig (c.toNat / 16 ^ 1 % 16) = sig (c.toNat / 16) := by
  have := c.toNat_lt; rw [Nat.pow_one, Nat.mod_eq_of_lt (by omega)]
/-- a byte as two digits -/
def hex2 (c : UInt8) : List UInt8 := [sig (c.toNat / 16), sig (c.toNat % 16)]
theorem hex2_fill (c : UInt8) : fillD 16 c.toNat 2 = hex2 c := by
  have := c.toNat_lt
  rw [fillD_small (by decide) (by decide) (by omega)]
  simp only [tailD, hex2, Nat.pow_zero, Nat.div_one]
  rw [sig_hi]
def hexL (l : List UInt8) : List UInt8 := l.flatMap hex2
theorem hexL_length (l : List UInt8) : (hexL l).length = 2 * l.length := by
  induction l with
  | nil => rfl
  | cons c l ih => simp only [hexL, List.flatMap_cons, List.length_append, List.length_cons] at *; rw [ih]; simp [hex2]; omega
theorem hexL_succ (l : List UInt8) (k : Nat) (h : k < l.length) : hexL (l.take (k + 1)) = hexL (l.take k) ++ hex2 l[k] := by
  unfold hexL; rw [List.take_succ_eq_append_getElem h, List.flatMap_append]; simp

theorem u8_and_15 (c : UInt8) : bits .and .u8 (c.toNat : Int) 15 = ((c.toNat % 16 : Nat) : Int) := by
  have h : ∀ n : Fin 256, bits .and .u8 (n.val : Int) 15 = ((n.val % 16 : Nat) : Int) := by decide +kernel
  exact h ⟨c.toNat, c.toNat_lt⟩
theorem dig16 (d : Nat) (h : d < 16) : (⟨#[48, 49, 50, 51, 52, 53, 54, 55, 56, 57, 97, 98, 99, 100, 101, 102]⟩ : ByteArray)[d]'h = sig d := by
  have : ∀ x : Fin 16, (⟨#[48, 49, 50, 51, 52, 53, 54, 55, 56, 57, 97, 98, 99, 100, 101, 102]⟩ : ByteArray)[x.val]'x.isLt = sig x.val := by decide +kernel
  exact this ⟨d, h⟩
theorem byteCells_snoc (l : List UInt8) (c : UInt8) : Lib.byteCells (l ++ [c]) = Lib.byteCells l ++ [.int .u8 (c.toNat : Int)] := by simp [Lib.byteCells]
theorem byteCells_len (l : List UInt8) : (Lib.byteCells l).length = l.length := by simp [Lib.byteCells]

set_option maxRecDepth 100000 in
theorem codingHex (s : ByteArray) (w : World) (hs : s.size ≤ 1099511627776) :
    Calls Tryd.prog 140 #[.string s] w fun e w' => e = .returned (.string ⟨(hexL s.data.toList).toArray⟩) ∧ Below w.heap.size w w' := by
  have hnew := IsB.new w w.heap.size (Nat.le_refl _)
  have hB0 := (Below.refl w.heap.size w).alloc (Nat.le_refl _) (.cells #[.pointer none, .slice none 0 0] 184)
  go_enter Tryd.func140, Tryd.ntmps140
  go_wp2
  go_loopw [7] (fun i wr => ∃ (k : Nat), k ≤ s.size ∧ i = .int .i64 k ∧ IsB w.heap.size w.heap.size (Lib.byteCells (hexL (s.data.toList.take k))) wr ∧ Below w.heap.size w wr) (fun i _ => s.size - (intOf i).toNat)
  case atStart => exact ⟨0, Nat.zero_le _, rfl, hnew, hB0⟩
  case round =>
    obtain ⟨k, hk, rfl, hI, hB⟩ := hrel
    clear hnew hB0
    by_cases hlt : k < s.size
    · have hl : k < s.data.toList.length := by rw [← sz_len]; exact hlt
      have hsz : (Lib.byteCells (hexL (s.data.toList.take k))).length ≤ 2 * k := by rw [byteCells_len, hexL_length]; simp; omega
      have hnext := Lib.hid (hexL_succ s.data.toList k hl)
      rw [at_list s k hlt hl] at hnext
      have hc256 : (s[k].toNat : Int) < 256 := by have := s[k].toNat_lt; omega
      have hand := u8_and_15 s[k]
      have hsize := hB.size
      have hm16 : s[k].toNat % 16 < 16 := Nat.mod_lt _ (by decide)
      go_wp2_with fail
      refine (writeByte _ _ _ _ _ hI (by omega) hsize).mono ?_
      rintro e w1 ⟨rfl, hA1, hB1⟩
      have hBw1 : Below w.heap.size w w1 := hB.trans hB1
      have hs1 := hBw1.size
      go_wp2_with fail
      refine (writeByte _ _ _ _ _ (.inr hA1) (by simp; omega) hs1).mono ?_
      rintro e w2 ⟨rfl, hA2, hB2⟩
      have hBw2 : Below w.heap.size w w2 := hBw1.trans hB2
      go_wp2
      go_roundw
      case rel =>
        refine ⟨k + 1, by omega, by go_num, ?_, hBw2⟩
        refine .inr ?_
        rw [hnext.out, hex2, show hexL (s.data.toList.take k) ++ [sig (s[k].toNat / 16), sig (s[k].toNat % 16)] = (hexL (s.data.toList.take k) ++ [sig (s[k].toNat / 16)]) ++ [sig (s[k].toNat % 16)] by simp, byteCells_snoc, byteCells_snoc, ← dig16 (s[k].toNat / 16) (by omega), ← dig16 (s[k].toNat % 16) hm16]
        exact hA2
      case measure => simp [intOf]; omega
    · obtain rfl : s.size = k := by omega
      rw [show s.data.toList.take s.size = s.data.toList by rw [sz_len, List.take_length]] at hI
      go_wp2_with fail
      refine (Tryd.Builder_String_any _ _ _ _ hI hB.size).mono ?_
      rintro e w1 ⟨rfl, hB1⟩
      have hB2 := hB.trans hB1
      go_wp2
      go_ret
      exact ⟨rfl, hB2⟩

end Go.Proofs.YtfkflgcifddnnaaDoor
