/- url.Dir, url.Within and the reference's Dir. -/
import Derived.Test.YtchgpdgigpaloaaDoorFound
import Derived.Test.YtchgpdgigpaloaaDoorShelf
import Derived.Lib.LastIndexByte
namespace Go.Proofs.YtchgpdgigpaloaaDoor
open Go.RowKit

/-- up to the last slash -/
def dirOf (s : ByteArray) : ByteArray := s.extract 0 (Lib.lastIndexByte s 47 + 1).toNat

theorem urlDir (s : ByteArray) (w : World) (hs : s.size ≤ reachBytes) :
    Calls Tryd.prog 49 #[.string s] w fun e w' => e = .returned (.string (dirOf s)) ∧ w = w' := by
  simp only [reachBytes] at hs
  have hb : -1 ≤ Lib.lastIndexByte s 47 ∧ Lib.lastIndexByte s 47 < s.size := by
    rcases Lib.lastIndexByte_spec s 47 with ⟨h, _⟩ | ⟨i, h, h2, _⟩ <;> omega
  obtain ⟨h1, h2⟩ := hb
  go_enter Tryd.func49, Tryd.ntmps49
  go_wp2_with fail
  refine (Tryd.strings_LastIndexByte s 47 (by omega) _).mono ?_
  rintro e w' ⟨rfl, rfl⟩
  go_wp2
  go_ret
  exact ⟨rfl, rfl⟩

def strLen : Value → Nat
  | .string s => s.size
  | _ => 0
theorem ext_size (s : ByteArray) (n : Nat) (h : n ≤ s.size) : (s.extract 0 n).size = n := by simp; omega
theorem ext_at (s p : ByteArray) (n : Nat) (hp : p = s.extract 0 p.size) (h : n < p.size) (hs : p.size ≤ s.size) : p[n] = s.data[n]! := by
  have h1 : p.data[n]'(by simpa using h) = (s.extract 0 p.size).data[n]'(by rw [← hp]; simpa using h) := by congr 2
  show p.data[n]'(by simpa using h) = _
  rw [h1]
  have h3 : n < s.data.size := by have : s.data.size = s.size := rfl; omega
  simp [ByteArray.data_extract]
  rw [getElem!_pos s.data n h3]
theorem ext_ext (s p : ByteArray) (n : Nat) (hp : p = s.extract 0 p.size) (h : n ≤ p.size) : p.extract 0 n = s.extract 0 n := by
  rw [hp]; simp [ByteArray.extract_extract, Nat.min_eq_left h]

theorem refDir (s : ByteArray) (w : World) (hs : s.size ≤ reachBytes) :
    Calls Tryd.prog 50 #[.string s] w fun e w' => e = .returned (.string (dirOf s)) ∧ w = w' := by
  simp only [reachBytes] at hs
  go_enter Tryd.func50, Tryd.ntmps50
  go_wp2
  go_loop [0] (fun v => ∃ p : ByteArray, v = .string p ∧ p.size ≤ s.size ∧ Hid (p = s.extract 0 p.size ∧ Lib.lastIdx s 47 p.size = Lib.lastIndexByte s 47)) (fun v => strLen v)
  case atStart => exact ⟨s, rfl, Nat.le_refl _, Lib.hid ⟨by simp, rfl⟩⟩
  case round =>
    obtain ⟨p, rfl, hp, hh⟩ := hrel
    by_cases h0 : p.size = 0
    · have he : p.toList.isEmpty = true := by
        rw [Lib.toList_data]; rw [Lib.size_eq] at h0; rw [List.length_eq_zero_iff.1 h0]; rfl
      have h1 := Lib.hid h0
      clear h0
      go_wp2
      go_ret
      refine ⟨ret_str ?_, rfl⟩
      unfold dirOf
      rw [← hh.out.2, h1.out]
      exact hh.out.1.trans (by rw [h1.out]; rfl)
    · have hpos : p.size - 1 < p.size := by omega
      obtain ⟨n, hn⟩ : ∃ n, p.size = n + 1 := ⟨p.size - 1, by omega⟩
      have he : p.toList.isEmpty = false := by
        rw [Lib.toList_data]; rw [Lib.size_eq] at h0
        cases hl : p.data.toList with
        | nil => rw [hl] at h0; simp at h0
        | cons a l => rfl
      have h2 : (p[p.size - 1]'hpos) = s.data[p.size - 1]! := ext_at s p _ hh.out.1 (by omega) hp
      by_cases h47 : (p[p.size - 1]'hpos).toNat = 47
      · have h3 : ((p[p.size - 1]'hpos).toNat : Int) = 47 := by omega
        have hx : Lib.lastIndexByte s 47 = n := by
          rw [← hh.out.2, hn]
          exact Lib.lastIdx_hit s 47 n (by rw [show n = p.size - 1 by omega, ← h2]; exact h3)
        have h4 := Lib.hid hx
        have h5 := Lib.hid hn
        clear hx h2 hn h47
        go_wp2
        go_ret
        refine ⟨ret_str ?_, rfl⟩
        unfold dirOf
        rw [h4.out]
        exact hh.out.1.trans (by rw [h5.out]; rfl)
      · have h3 : (((p[p.size - 1]'hpos).toNat : Int) == 47) = false := by simp only [beq_eq_false_iff_ne, ne_eq]; omega
        have h3' : (((p[p.size - 1]'hpos).toNat : Int) != 47) = true := by simp only [bne_iff_ne, ne_eq]; omega
        have hx : Lib.lastIdx s 47 n = Lib.lastIndexByte s 47 := by
          rw [← hh.out.2, hn]
          exact (Lib.lastIdx_miss s 47 n (by rw [show n = p.size - 1 by omega, ← h2]; omega)).symm
        have h4 := Lib.hid hx
        have h5 := Lib.hid hn
        clear hx h2 hn h47
        go_wp2
        go_round
        case rel =>
          have h6 := h5.out
          have e : p.size - 1 = n := by omega
          rw [e]
          have e2 : (p.extract 0 n).size = n := ext_size p n (by omega)
          exact ⟨_, rfl, by omega, Lib.hid (by rw [e2]; exact ⟨ext_ext s p n hh.out.1 (by omega), h4.out⟩)⟩
        case measure =>
          have h6 := h5.out
          show (p.extract 0 (p.size - 1)).size < p.size
          rw [ext_size _ _ (by omega)]; omega

theorem urlWithin (s p : ByteArray) (w : World) :
    Calls Tryd.prog 57 #[.string s, .string p] w fun e w' => e = .returned (.bool (Lib.hasPrefix s.data.toList p.data.toList)) ∧ w = w' := by
  go_enter Tryd.func57, Tryd.ntmps57
  go_wp2_with fail
  refine (Tryd.strings_HasPrefix _ _ _).mono ?_
  rintro e w' ⟨rfl, rfl⟩
  go_wp2
  go_ret
  exact ⟨rfl, rfl⟩

end Go.Proofs.YtchgpdgigpaloaaDoor
