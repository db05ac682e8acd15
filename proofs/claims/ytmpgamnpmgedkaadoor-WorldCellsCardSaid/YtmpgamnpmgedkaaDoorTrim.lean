/- strings.Trim and TrimLeft at a cutset of plain bytes; when nothing is left. -/
import Derived.Test.YtmpgamnpmgedkaaDoorStr
import Derived.Test.YtmpgamnpmgedkaaDoorShelf
import Derived.Shelf.Strings.SlTrimAscii
namespace Go.Proofs.YtmpgamnpmgedkaaDoor
open Go.RowKit Go.Shelf

theorem stringsTrim (s cut : ByteArray) (w : World) (hs : s.size ≤ 9223372036854775807) (hc : cut.size < 4294967281) (ha : ∀ (j : Nat) b, cut.data.toList[j]? = some b → b.toNat < 128) :
    Calls Tryd.prog 98 #[.string s, .string cut] w fun e w' => e = .returned (.string ⟨(Lib.trimS s.data.toList cut.data.toList).toArray⟩) ∧ Below w.heap.size w w' :=
  Any.strings_Trim_laid Tryd.lays160 (by kernel_rfl) s cut w hs hc ha
theorem stringsTrimLeft (s cut : ByteArray) (w : World) (hc : cut.size < 4294967281) (ha : ∀ (j : Nat) b, cut.data.toList[j]? = some b → b.toNat < 128) :
    Calls Tryd.prog 185 #[.string s, .string cut] w fun e w' => e = .returned (.string ⟨(Lib.trimLeftS s.data.toList cut.data.toList).toArray⟩) ∧ Below w.heap.size w w' :=
  Any.strings_TrimLeft_laid Tryd.lays161 (by kernel_rfl) s cut w hc ha

theorem dropWhile_nil {p : UInt8 → Bool} : ∀ {l : List UInt8}, l.dropWhile p = [] ↔ l.all p = true
  | [] => by simp
  | a :: l => by
    rw [List.dropWhile_cons]
    cases h : p a
    · simp [h]
    · simp [h, dropWhile_nil (l := l)]
theorem dropWhile_head {p : UInt8 → Bool} {a : UInt8} : ∀ {l r : List UInt8}, l.dropWhile p = a :: r → p a = false
  | [], _, h => by simp at h
  | b :: l, r, h => by
    rw [List.dropWhile_cons] at h
    cases hb : p b
    · rw [if_neg (by simp [hb])] at h; cases h; exact hb
    · rw [if_pos hb] at h; exact dropWhile_head h
theorem trimS_nil (l cs : List UInt8) : Lib.trimS l cs = [] ↔ l.all (cs.contains ·) = true := by
  unfold Lib.trimS Lib.trimLeftS Lib.trimRightS
  rw [dropWhile_nil, List.all_reverse]
  constructor
  · intro h
    cases hr : l.reverse.dropWhile (cs.contains ·) with
    | nil =>
      have := dropWhile_nil.1 hr
      rwa [List.all_reverse] at this
    | cons a r =>
      have ha := dropWhile_head hr
      rw [hr] at h
      simp only [List.all_cons, Bool.and_eq_true] at h
      rw [ha] at h
      cases h.1
  · intro h
    have : l.reverse.dropWhile (cs.contains ·) = [] := dropWhile_nil.2 (by rwa [List.all_reverse])
    rw [this]; rfl
theorem trimS_all (l cs : List UInt8) (p : UInt8 → Bool) (hp : ∀ c, cs.contains c = p c) : Lib.trimS l cs = [] ↔ l.all p = true := by
  rw [trimS_nil, show (fun c => cs.contains c) = p from funext hp]
theorem trimS_len (l cs : List UInt8) : (Lib.trimS l cs).length ≤ l.length := by
  unfold Lib.trimS Lib.trimLeftS Lib.trimRightS
  refine Nat.le_trans (List.dropWhile_sublist _).length_le ?_
  rw [List.length_reverse]
  refine Nat.le_trans (List.dropWhile_sublist _).length_le ?_
  rw [List.length_reverse]; exact Nat.le_refl _
end Go.Proofs.YtmpgamnpmgedkaaDoor
