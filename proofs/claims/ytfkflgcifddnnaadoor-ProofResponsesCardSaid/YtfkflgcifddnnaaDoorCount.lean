/- proof.Count and the reference's Count: a number as eight small digits, or more. -/
import Derived.Test.YtfkflgcifddnnaaDoorRadixF
import Derived.Test.YtfkflgcifddnnaaDoorStr
import Derived.Test.YtfkflgcifddnnaaDoorShelf
namespace Go.Proofs.YtfkflgcifddnnaaDoor
open Go.RowKit

set_option maxRecDepth 100000 in
theorem refCount (n : Nat) (hn : n < 9223372036854775808) (w : World) (hd : Deb w) :
    Calls Tryd.prog 76 #[.int .i64 n] w fun e w' => e = .returned (.string ⟨(fillD 16 n 8).toArray⟩) ∧ Below w.heap.size w w' := by
  have hlt := nlen_lt (b := 16) (n := n) (by decide) (Nat.lt_of_lt_of_le hn (by decide))
  have h65 : nlen 16 n ≤ 65 := nlenF_le 16 64 n
  go_enter Tryd.func76, Tryd.ntmps76
  go_wp2_with fail
  refine (formatInt_16 n hn w hd).mono ?_
  rintro e w1 ⟨rfl, hB1⟩
  unfold radix
  obtain ⟨S0, hS0⟩ : ∃ S0 : ByteArray, S0 = ⟨(tailD 16 n (nlen 16 n)).toArray⟩ := ⟨_, rfl⟩
  rw [← hS0]
  have hS0l : Hid (S0.data.toList = tailD 16 n (nlen 16 n)) := by rw [hS0]; exact Lib.hid (mk_toList _)
  clear hS0
  have hd' := Lib.hid hlt; clear hlt
  go_wp2
  go_loopg [3] (8 - nlen 16 n) (fun g s wr => ∃ (S : ByteArray) (m : Nat), g = 8 - m ∧ s = .string S ∧ Hid (S.data.toList = tailD 16 n m) ∧ nlen 16 n ≤ m ∧ (m ≤ nlen 16 n ∨ m ≤ 8) ∧ Below w.heap.size w wr)
  case atStart => exact ⟨S0, nlen 16 n, rfl, rfl, hS0l, Nat.le_refl _, .inl (Nat.le_refl _), hB1⟩
  case round =>
    obtain ⟨S, m, rfl, rfl, hS, hm, hm', hB⟩ := hrel
    have hsz : S.size = m := by rw [sz_len, hS.out, tailD_length]
    have hs1 : S.size ≤ m := by omega
    have hs2 : m ≤ S.size := by omega
    clear hsz
    by_cases h : S.size < 8
    · have hadd := run_string_add_sum (P := Tryd.prog) wr ⟨#[48]⟩ S (by rw [show (⟨#[48]⟩ : ByteArray).size = 1 from rfl]; omega)
      go_wp2
      go_roundg (8 - (m + 1))
      case rel => exact ⟨_, m + 1, rfl, rfl, Lib.hid (by rw [add_toList, hS.out, tailD_pad (Nat.lt_of_lt_of_le hd'.out (Nat.pow_le_pow_right (by decide) hm))]; rfl), by omega, .inr (by omega), hB⟩
      case measure => omega
    · go_wp2
      go_ret
      exact ⟨ret_str (ba_eq (by rw [hS.out]; unfold fillD; rw [show max (nlen 16 n) 8 = m by omega])), hB⟩

theorem repeat_zeroC (c : Nat) : Lib.repeatL [48] c = List.replicate c 48 := by
  induction c with
  | zero => rfl
  | succ c ih => simp [Lib.repeatL, List.replicate_succ] at ih ⊢; try exact ih

set_option maxRecDepth 100000 in
theorem proofCount (n : Nat) (hn : n < 9223372036854775808) (w : World) (hd : Deb w) :
    Calls Tryd.prog 74 #[.int .i64 n] w fun e w' => e = .returned (.string ⟨(fillD 16 n 8).toArray⟩) ∧ Below w.heap.size w w' := by
  have hlt := nlen_lt (b := 16) (n := n) (by decide) (Nat.lt_of_lt_of_le hn (by decide))
  have h65 : nlen 16 n ≤ 65 := nlenF_le 16 64 n
  have hf := formatInt_16 n hn w hd
  unfold radix at hf
  obtain ⟨S, hS0⟩ : ∃ S : ByteArray, S = ⟨(tailD 16 n (nlen 16 n)).toArray⟩ := ⟨_, rfl⟩
  rw [← hS0] at hf
  have hS : Hid (S.data.toList = tailD 16 n (nlen 16 n)) := by rw [hS0]; exact Lib.hid (mk_toList _)
  clear hS0
  have hd' := Lib.hid hlt; clear hlt
  have hsz : Hid (S.size = nlen 16 n) := Lib.hid (by rw [sz_len, hS.out, tailD_length])
  have hs1 : S.size ≤ 65 := by rw [hsz.out]; exact h65
  by_cases h8 : S.size < 8
  · obtain ⟨c, hc⟩ : ∃ c, c + S.size = 8 := ⟨8 - S.size, by omega⟩
    have hsub : (8 : Int) - (S.size : Int) = (c : Int) := by omega
    have hc8 : Hid (c + S.size = 8) := Lib.hid hc
    have hcb : c ≤ 8 := by omega
    clear hc
    go_enter Tryd.func74, Tryd.ntmps74
    go_wp2_with fail
    refine hf.mono ?_
    rintro e w1 ⟨rfl, hB1⟩
    go_wp2_with fail
    refine (Tryd.strings_Repeat ⟨#[48]⟩ c w1 (by omega) (by rw [show (⟨#[48]⟩ : ByteArray).size = 1 from rfl]; omega)).mono ?_
    rintro e w2 ⟨rfl, hB2⟩
    have hB3 := hB1.then (Nat.le_refl _) hB2
    have hadd := run_string_add_sum (P := Tryd.prog) w2 ⟨(Lib.repeatL (⟨#[48]⟩ : ByteArray).data.toList c).toArray⟩ S (by rw [mk_len, show (⟨#[48]⟩ : ByteArray).data.toList = [48] from rfl, repeat_zeroC, List.length_replicate]; omega)
    go_wp2
    go_ret
    refine ⟨ret_str (ba_eq ?_), hB3⟩
    rw [add_toList, mk_toList, hS.out, repeat_zeroC]
    have := hc8.out
    rw [hsz.out] at this
    unfold fillD
    rw [show max (nlen 16 n) 8 = nlen 16 n + c by omega, tailD_pads (by decide) hd'.out]
  · have hmax : max (0 : Int) (8 - (S.size : Int)) = 0 := by omega
    go_enter Tryd.func74, Tryd.ntmps74
    go_wp2_with fail
    refine hf.mono ?_
    rintro e w1 ⟨rfl, hB1⟩
    go_wp2_with fail
    refine (Tryd.strings_Repeat_zero ⟨#[48]⟩ w1).mono ?_
    rintro e w2 ⟨rfl, rfl⟩
    go_wp2
    go_ret
    refine ⟨ret_str (ba_eq ?_), hB1⟩
    have := hsz.out
    simp [hS.out, fillD, show max (nlen 16 n) 8 = nlen 16 n by omega]
end Go.Proofs.YtfkflgcifddnnaaDoor
