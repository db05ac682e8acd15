/- TokenJoins: token.Join returns the texts with a comma and a blank between, for any few short texts: the walk of the statement. -/
import Derived.Test.YteflbehlgnfkfaaJoin
namespace Go.Proofs.Yteflbehlgnfkfaa.lawTokenJoins
open Go.ChangeShapes Go.WideShapes Go.ChangeAt Go.RowKit Go.WideElems

theorem str_app (l : List UInt8) (s : ByteArray) : (⟨l.toArray⟩ : ByteArray) ++ s = ⟨(l ++ s.data.toList).toArray⟩ := by
  obtain ⟨⟨m⟩⟩ := s
  exact mk_append l m

set_option maxRecDepth 100000 in
set_option maxHeartbeats 800000 in
theorem walk (W : World) (_hsh : W.ShapedOpen Try.prog) (a : Option Addr) (len cap : Nat) (hR : Rd Try.prog W 42 [.slice a len cap]) :
    Calls Try.prog 9 #[.slice a len cap] W fun e w' => e = .returned (.bool true) ∧ Below W.heap.size W w' := by
  obtain ⟨ss, rfl, hS, hz, hb, hc, hm, _⟩ := strs_open hR
  clear hR _hsh
  simp only [reachBytes] at hb
  unfold maxLen at hm
  by_cases h60 : 60 < ss.length
  · go_enter Try.func9, Try.ntmps9
    go_wp2
    go_ret
    exact ⟨rfl, Below.refl _ _⟩
  go_enter Try.func9, Try.ntmps9
  go_wp2
  go_loop [3, 4] (fun j i => ∃ k : Nat, k ≤ ss.length ∧ i = .int .i64 k ∧ j = .string ⟨(commas (ss.take k)).toArray⟩ ∧ Hid (∀ s ∈ ss.take k, s.size ≤ 60)) (fun _ i => ss.length - (intOf i).toNat)
  case atStart => exact ⟨0, Nat.zero_le _, rfl, rfl, Lib.hid (by simp)⟩
  case round =>
    obtain ⟨k, hk, rfl, rfl, hs⟩ := hrel
    have hcl := commas_len 60 _ hs.out
    rw [List.length_take, Nat.min_eq_left hk] at hcl
    by_cases hlt : k < ss.length
    · obtain ⟨b, off, rfl, h1⟩ := hS k hlt
      by_cases hbig : 60 < ss[k].size
      · go_wp2
        go_ret
        exact ⟨rfl, Below.refl _ _⟩
      · have hs' : Hid (∀ s ∈ ss.take (k + 1), s.size ≤ 60) := Lib.hid (by
          intro p hp
          rw [List.take_succ_eq_append_getElem hlt] at hp
          rcases List.mem_append.1 hp with hp | hp
          · exact hs.out p hp
          · simp at hp; subst hp; omega)
        have hadd1 := run_string_add_sum (P := Try.prog) W ⟨(commas (ss.take k)).toArray⟩ ⟨#[44, 32]⟩ (by rw [mk_size]; have : (⟨#[44, 32]⟩ : ByteArray).size = 2 := rfl; rw [this]; omega)
        have hadd2 := run_string_add_sum (P := Try.prog) W (⟨(commas (ss.take k)).toArray⟩ ++ ⟨#[44, 32]⟩) ss[k] (by rw [ByteArray.size_append, mk_size]; have : (⟨#[44, 32]⟩ : ByteArray).size = 2 := rfl; rw [this]; omega)
        have hadd3 := run_string_add_sum (P := Try.prog) W ⟨(commas (ss.take k)).toArray⟩ ss[k] (by rw [mk_size]; omega)
        by_cases h0 : 0 < k
        · have e : Hid (commas (ss.take (k + 1)) = commas (ss.take k) ++ [44, 32] ++ ss[k].data.toList) := Lib.hid (by rw [List.take_succ_eq_append_getElem hlt]; exact commas_snoc _ _ (List.ne_nil_of_length_pos (by rw [List.length_take]; omega)))
          clear hadd3
          go_wp2
          go_round
          case rel => exact ⟨k + 1, by omega, by go_num, by rw [e.out]; exact congrArg Value.string ((congrArg (· ++ ss[k]) (str_app _ _)).trans (str_app _ _)), hs'⟩
          case measure => simp [intOf]; omega
        · have h00 : k ≤ 0 := by omega
          have e : Hid (commas (ss.take (k + 1)) = commas (ss.take k) ++ ss[k].data.toList) := Lib.hid (by
            obtain rfl : k = 0 := by omega
            rw [List.take_succ_eq_append_getElem hlt]; exact commas_one ss[0])
          clear hadd1 hadd2
          go_wp2
          go_round
          case rel => exact ⟨k + 1, by omega, by go_num, by rw [e.out]; exact congrArg Value.string (str_app _ _), hs'⟩
          case measure => simp [intOf]; omega
    · obtain rfl : k = ss.length := by omega
      rw [List.take_length] at *
      have hj := tokenJoin a cap ss W hS hc (by omega) (by omega)
      go_wp2_with fail
      refine hj.mono ?_
      rintro e w1 ⟨rfl, hB⟩
      go_wp2
      go_ret
      exact ⟨ret_bool (by simp), hB⟩
end Go.Proofs.Yteflbehlgnfkfaa.lawTokenJoins
