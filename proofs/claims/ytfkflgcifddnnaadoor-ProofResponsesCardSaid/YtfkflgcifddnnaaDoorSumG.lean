/- The reference's digits of a word. -/
import Derived.Test.YtfkflgcifddnnaaDoorSumD
import Derived.Test.YtfkflgcifddnnaaDoorSumR
import Derived.Test.YtfkflgcifddnnaaDoorStr
import Derived.BigRegion
namespace Go.Proofs.YtfkflgcifddnnaaDoor
open Go.RowKit

set_option maxRecDepth 100000 in
theorem refDigits (little : Bool) (n : Nat) (hn : n < 4294967296) (w : World) (hd : Deb w) :
    Calls Tryd.prog 71 #[.int .i64 n, .bool little] w fun e w' => e = .returned (.string ⟨(digitsN little n).toArray⟩) ∧ Below w.heap.size w w' := by
  have hf := filled_16 n 8 (by omega) (by decide) w hd
  rw [fill8 n hn, show ((8 : Nat) : Int) = 8 from rfl] at hf
  have hD := Lib.hid (show digitsN little n = (if little then (tailD 16 n 8).drop 6 ++ ((tailD 16 n 8).drop 4).take 2 ++ ((tailD 16 n 8).drop 2).take 2 ++ (tailD 16 n 8).take 2 else tailD 16 n 8) from rfl)
  have hl : (tailD 16 n 8).length = 8 := by rw [tail8 n hn]; rfl
  generalize tailD 16 n 8 = T at hf hD hl
  generalize digitsN little n = D at hD ⊢
  obtain ⟨S, hS⟩ : ∃ S : ByteArray, S = ⟨T.toArray⟩ := ⟨_, rfl⟩
  have hsz : S.size = 8 := by rw [hS]; show T.toArray.size = 8; simpa using hl
  have hST : Hid (S.data.toList = T) := Lib.hid (by rw [hS])
  rw [← hS] at hf
  clear hS hl hd hn
  have g1 : (6 : Int) ≤ 8 := by decide
  have g2 : (8 : Int) ≤ (S.size : Int) := by omega
  have g3 : (6 : Int) ≤ (S.size : Int) := by omega
  have g4 : (4 : Int) ≤ (S.size : Int) := by omega
  have g5 : (2 : Int) ≤ (S.size : Int) := by omega
  cases little
  · go_enter Tryd.func71, Tryd.ntmps71
    go_wp2_with fail
    refine hf.mono ?_
    rintro e w1 ⟨rfl, hB⟩
    go_wp2
    go_ret
    exact ⟨ret_str (by apply ByteArray.ext; rw [hD.out, ← hST.out]; simp), hB⟩
  · go_enter Tryd.func71, Tryd.ntmps71
    go_wp2_with fail
    refine hf.mono ?_
    rintro e w1 ⟨rfl, hB⟩
    have x1 : (S.extract 6 8).size = 2 := by rw [ByteArray.size_extract]; omega
    have x2 : (S.extract 4 6).size = 2 := by rw [ByteArray.size_extract]; omega
    have x3 : (S.extract 2 4).size = 2 := by rw [ByteArray.size_extract]; omega
    have x4 : (S.extract 0 2).size = 2 := by rw [ByteArray.size_extract]; omega
    have a1 := fun w' => run_string_add_sum (P := Tryd.prog) w' (S.extract 6 8) (S.extract 4 6) (by omega)
    have a2 := fun w' => run_string_add_sum (P := Tryd.prog) w' (S.extract 6 8 ++ S.extract 4 6) (S.extract 2 4) (by rw [ByteArray.size_append]; omega)
    have a3 := fun w' => run_string_add_sum (P := Tryd.prog) w' (S.extract 6 8 ++ S.extract 4 6 ++ S.extract 2 4) (S.extract 0 2) (by rw [ByteArray.size_append, ByteArray.size_append]; omega)
    go_wp2
    go_region
    go_wp2
    go_ret
    refine ⟨ret_str ?_, hB.drew⟩
    apply ByteArray.ext
    rw [hD.out, ← hST.out]
    simp [List.extract]
    exact List.take_of_length_le (by rw [List.length_drop, ← sz_len]; omega)
end Go.Proofs.YtfkflgcifddnnaaDoor
