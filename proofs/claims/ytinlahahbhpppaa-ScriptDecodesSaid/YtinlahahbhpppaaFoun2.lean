/- Merged out of Token Join CurP Trim Idx Builder BuiO. -/
import Derived.Test.YtinlahahbhpppaaFound
import Derived.Test.YtinlahahbhpppaaShelf
import Derived.Lib.Join
import Derived.Shelf.Strings.SlTrimAscii
import Derived.Lib.IndexMore
import Derived.Lib.IndexBytes
import Derived.Lib.Builder
import Derived.Lib.AppendStr
import Derived.Lib.UnsafeStr
import Derived.Laws.Externs
/- Bytes and words of headers: token.Byte, token.Is, and the reference's TokenByte, Token. -/
namespace Go.Proofs.Ytinlahahbhpppaa
open Go.RowKit

theorem bd8 (c : UInt8) : (0 : Int) ≤ c.toNat ∧ (c.toNat : Int) < 256 := ⟨by omega, by have := c.toNat_lt; omega⟩
theorem u8_back (c : UInt8) : ((c.toNat : Int).toNat).toUInt8 = c := by simp

def marks1 : List UInt8 := [33, 35, 36, 37, 38, 39, 42, 43, 45, 46, 94, 95, 124, 126, 96]
def marks2 : List UInt8 := [34, 40, 41, 44, 47, 58, 59, 60, 61, 62, 63, 64, 91, 92, 93, 123, 125]
/-- a byte of a word, as the program asks -/
def tokB (c : UInt8) : Bool := decide (48 ≤ c.toNat ∧ c.toNat ≤ 57 ∨ 97 ≤ c.toNat ∧ c.toNat ≤ 122 ∨ 65 ≤ c.toNat ∧ c.toNat ≤ 90 ∨ 0 ≤ Lib.indexByte marks1 c)
theorem tokB_ref (c : UInt8) : (decide (33 ≤ c.toNat ∧ c.toNat ≤ 126 ∧ Lib.indexByte marks2 c < 0)) = tokB c := by
  have h : ∀ n : Fin 256, (decide (33 ≤ (UInt8.ofNat n).toNat ∧ (UInt8.ofNat n).toNat ≤ 126 ∧ Lib.indexByte marks2 (UInt8.ofNat n) < 0)) = tokB (UInt8.ofNat n) := by decide +kernel
  simpa using h ⟨c.toNat, c.toNat_lt⟩

/-- a word: one byte at least, each one of a word's -/
def tokW (l : List UInt8) : Bool := l != [] && l.all tokB

theorem data_getElem (s : ByteArray) (k : Nat) (_h : k < s.size) (h' : k < s.data.toList.length) : s.data.toList[k] = s[k] := by simp; rfl
theorem all_take_succ (p : UInt8 → Bool) (s : ByteArray) (k : Nat) (h : k < s.size) (ha : (s.data.toList.take k).all p = true) (hb : p s[k] = true) : (s.data.toList.take (k + 1)).all p = true := by
  have h' : k < s.data.toList.length := by rw [← size_data]; exact h
  rw [List.take_succ_eq_append_getElem h', List.all_append, ha, data_getElem s k h h']; simp [hb]
theorem not_all (p : UInt8 → Bool) (s : ByteArray) (k : Nat) (h : k < s.size) (hb : p s[k] = false) : s.data.toList.all p = false := by
  have h' : k < s.data.toList.length := by rw [← size_data]; exact h
  rw [List.all_eq_false]
  exact ⟨s[k], by rw [← data_getElem s k h h']; exact List.getElem_mem _, by simp [hb]⟩
theorem all_take_all (p : UInt8 → Bool) (s : ByteArray) (ha : (s.data.toList.take s.size).all p = true) : s.data.toList.all p = true := by
  rwa [size_data, List.take_length] at ha

theorem tokW_false (s : ByteArray) (k : Nat) (h : k < s.size) (hb : tokB s[k] = false) : tokW s.data.toList = false := by
  unfold tokW; rw [not_all tokB s k h hb]; simp
theorem tokW_true (s : ByteArray) (h : 0 < s.size) (ha : (s.data.toList.take s.size).all tokB = true) : tokW s.data.toList = true := by
  unfold tokW; rw [all_take_all tokB s ha]
  rw [size_data] at h
  cases hl : s.data.toList with
  | nil => rw [hl] at h; simp at h
  | cons a l => rfl

end Go.Proofs.Ytinlahahbhpppaa
/- token.Join: texts with a comma and a blank between. -/
namespace Go.Proofs.Ytinlahahbhpppaa
open Go.ChangeShapes Go.WideShapes Go.ChangeAt Go.RowKit Go.WideElems Go.Deep

set_option maxRecDepth 100000 in
theorem strs_open {w : World} {a : Option Addr} {len cap : Nat} (h : Rd Try.prog w 44 [.slice a len cap]) :
    ∃ ss : List ByteArray, ss.length = len ∧ StrAt w a ss ∧ (∀ s ∈ ss, s.size ≤ reachBytes) ∧ len * 16 ≤ reachBytes ∧ len ≤ cap ∧ cap ≤ maxLen ∧ (a = none → len = 0 ∧ cap = 0) := by
  obtain ⟨a', len', cap', e, hb, _, hl, hc, hn, hi⟩ := h.slice Try.underlying44 (by rw [cellsString]; decide)
  simp at e
  obtain ⟨rfl, rfl, rfl⟩ := e
  rw [show Try.prog.bytesOf 9 = 16 by kernel_rfl] at hb
  rw [cellsString] at hi
  obtain ⟨ss, hps, hp⟩ := exists_list (fun i (s : ByteArray) => (∃ b off, a = some ⟨b, off, none⟩ ∧ w.cell? ⟨b, off + i, none⟩ = some (.string s)) ∧ s.size ≤ reachBytes) len (by
    intro i hil
    obtain ⟨b, off, cs', ha, hl', hR, hcell⟩ := hi i hil
    obtain ⟨s, rfl, z⟩ := hR.string Try.underlying9
    exact ⟨s, ⟨b, off, ha, by simpa using hcell 0 (by decide)⟩, z⟩)
  refine ⟨ss, hps, fun i hil => (hp i hil).1, ?_, hb, hl, hc, hn⟩
  intro p hpm
  obtain ⟨i, hil, rfl⟩ := List.getElem_of_mem hpm
  exact (hp i hil).2

theorem str_app (l : List UInt8) (s : ByteArray) : (⟨l.toArray⟩ : ByteArray) ++ s = ⟨(l ++ s.data.toList).toArray⟩ := by
  obtain ⟨⟨m⟩⟩ := s
  exact mk_append l m

def commas (ss : List ByteArray) : List UInt8 := Lib.join (datas ss) [44, 32]
theorem commas_nil : commas [] = [] := rfl
theorem commas_snoc (ss : List ByteArray) (s : ByteArray) (h : ss ≠ []) : commas (ss ++ [s]) = commas ss ++ [44, 32] ++ s.data.toList := by
  cases ss with
  | nil => exact absurd rfl h
  | cons x r => simp [commas, datas, Lib.join_cons, Lib.joinTail]
theorem commas_one (s : ByteArray) : commas [s] = s.data.toList := by simp [commas, datas, Lib.join_one]
theorem commas_len (m : Nat) : ∀ (ss : List ByteArray), (∀ s ∈ ss, s.size ≤ m) → (commas ss).length ≤ ss.length * (m + 2)
  | [], _ => by simp [commas_nil]
  | x :: r, h => by
    have h1 := commas_len m r (fun s hs => h s (by simp [hs]))
    have hx := h x (by simp)
    rw [Lib.size_eq] at hx
    cases r with
    | nil => rw [commas_one]; simp only [List.length_cons, List.length_nil, Nat.zero_add, Nat.one_mul]; omega
    | cons y r =>
      have e : commas (x :: y :: r) = x.data.toList ++ [44, 32] ++ commas (y :: r) := by simp [commas, datas, Lib.join_cons, Lib.joinTail]
      rw [e]
      simp only [List.length_append, List.length_cons, List.length_nil] at *
      rw [Nat.succ_mul]
      omega

end Go.Proofs.Ytinlahahbhpppaa
/- What a cursor finds in a text: blanks, marks, words, texts between marks. Plain lists; no program. -/
namespace Go.Proofs.Ytinlahahbhpppaa

def isBl (c : UInt8) : Bool := decide (c.toNat = 32 ∨ c.toNat = 9)
/-- so many bytes of a kind stand from k on -/
def spanAt (p : UInt8 → Bool) (l : List UInt8) (k : Nat) : List UInt8 := (l.drop k).takeWhile p
theorem spanAt_stop {p : UInt8 → Bool} {l : List UInt8} {k : Nat} (h : k < l.length) (hp : p l[k] = false) : spanAt p l k = [] := by
  unfold spanAt; rw [List.drop_eq_getElem_cons h, List.takeWhile_cons, if_neg (by simp [hp])]
theorem spanAt_end {p : UInt8 → Bool} {l : List UInt8} {k : Nat} (h : l.length ≤ k) : spanAt p l k = [] := by
  unfold spanAt; rw [List.drop_eq_nil_of_le h]; rfl
theorem spanAt_go {p : UInt8 → Bool} {l : List UInt8} {k : Nat} (h : k < l.length) (hp : p l[k] = true) : spanAt p l k = l[k] :: spanAt p l (k + 1) := by
  unfold spanAt; rw [List.drop_eq_getElem_cons h, List.takeWhile_cons, if_pos hp]
theorem takeWhile_take (p : UInt8 → Bool) (l : List UInt8) : l.takeWhile p = l.take (l.takeWhile p).length := by
  induction l with
  | nil => rfl
  | cons a l ih =>
    rw [List.takeWhile_cons]
    split
    · simp only [List.length_cons, List.take_succ_cons]; rw [← ih]
    · rfl
theorem spanAt_len (p : UInt8 → Bool) (l : List UInt8) (k : Nat) : (spanAt p l k).length ≤ l.length - k := by
  unfold spanAt; have := (List.takeWhile_sublist p (l := l.drop k)).length_le; simpa using this
theorem spanAt_take (p : UInt8 → Bool) (l : List UInt8) (k : Nat) : (l.drop k).take (spanAt p l k).length = spanAt p l k := (takeWhile_take p _).symm
/-- a loop's count: from i on j bytes were of the kind -/
theorem spanAt_done {p : UInt8 → Bool} {l : List UInt8} {i j : Nat} (h : (spanAt p l i).length = (j - i) + (spanAt p l j).length) (hij : i ≤ j) (he : spanAt p l j = []) : i + (spanAt p l i).length = j := by
  rw [h, he]; simp; omega

/-- behind a mark: the text up to the next one, and how much is left behind that -/
def qgo : List UInt8 → List UInt8 → Option (List UInt8 × Nat)
  | [], _ => none
  | [c], acc => if c.toNat = 34 then some (acc, 0) else none
  | c :: x :: r, acc => if c.toNat = 34 then some (acc, r.length + 1) else if c.toNat = 92 then (if textB x then qgo r (acc ++ [x]) else none) else if textB c then qgo (x :: r) (acc ++ [c]) else none
theorem qgo_mark {c : UInt8} (r acc : List UInt8) (h : c.toNat = 34) : qgo (c :: r) acc = some (acc, r.length) := by
  cases r <;> simp [qgo, h]
theorem qgo_back {c : UInt8} (acc : List UInt8) (h : c.toNat = 92) : qgo [c] acc = none := by simp [qgo, h]
theorem qgo_esc {c x : UInt8} (r acc : List UInt8) (h : c.toNat = 92) (hx : textB x = true) : qgo (c :: x :: r) acc = qgo r (acc ++ [x]) := by simp [qgo, h, hx]
theorem qgo_esc_no {c x : UInt8} (r acc : List UInt8) (h : c.toNat = 92) (hx : textB x = false) : qgo (c :: x :: r) acc = none := by simp [qgo, h, hx]
theorem qgo_text {c : UInt8} (r acc : List UInt8) (h : c.toNat ≠ 34) (h' : c.toNat ≠ 92) (hx : textB c = true) : qgo (c :: r) acc = qgo r (acc ++ [c]) := by
  cases r <;> simp [qgo, h, h', hx]
theorem qgo_no {c : UInt8} (r acc : List UInt8) (h : c.toNat ≠ 34) (h' : c.toNat ≠ 92) (hx : textB c = false) : qgo (c :: r) acc = none := by
  cases r <;> simp [qgo, h, h', hx]
theorem qgo_len : ∀ (n : Nat) (l acc : List UInt8) (x : List UInt8 × Nat), l.length ≤ n → qgo l acc = some x → x.1.length ≤ acc.length + l.length ∧ x.2 < l.length
  | 0, [], _, _, _, h => by simp [qgo] at h
  | 0, _ :: _, _, _, hn, _ => by simp at hn
  | n + 1, [], _, _, _, h => by simp [qgo] at h
  | n + 1, [c], acc, x, _, h => by
    unfold qgo at h; split at h
    · cases h; simp
    · cases h
  | n + 1, c :: y :: r, acc, x, hn, h => by
    unfold qgo at h
    simp only [List.length_cons] at hn
    split at h
    · cases h; simp
    · split at h
      · split at h
        · have := qgo_len n r (acc ++ [y]) x (by omega) h; simp at this ⊢; omega
        · cases h
      · split at h
        · have := qgo_len n (y :: r) (acc ++ [c]) x (by simp; omega) h; simp at this ⊢; omega
        · cases h
/-- the text between marks that begins at k, and the place behind it -/
def quotedAt (l : List UInt8) (k : Nat) : Option (List UInt8 × Nat) :=
  match l.drop k with
  | c :: r => if c.toNat = 34 then (qgo r []).map (fun x => (x.1, l.length - x.2)) else none
  | [] => none
theorem quotedAt_end {l : List UInt8} {k : Nat} (h : l.length ≤ k) : quotedAt l k = none := by unfold quotedAt; rw [List.drop_eq_nil_of_le h]
theorem quotedAt_no {l : List UInt8} {k : Nat} (h : k < l.length) (hc : l[k].toNat ≠ 34) : quotedAt l k = none := by unfold quotedAt; rw [List.drop_eq_getElem_cons h]; simp [hc]
theorem quotedAt_go {l : List UInt8} {k : Nat} (h : k < l.length) (hc : l[k].toNat = 34) : quotedAt l k = (qgo (l.drop (k + 1)) []).map (fun x => (x.1, l.length - x.2)) := by unfold quotedAt; rw [List.drop_eq_getElem_cons h]; simp [hc]
theorem quotedAt_bd {l : List UInt8} {k : Nat} {x : List UInt8 × Nat} (h : quotedAt l k = some x) : x.1.length ≤ l.length ∧ k < x.2 ∧ x.2 ≤ l.length := by
  by_cases hk : k < l.length
  · by_cases hc : l[k].toNat = 34
    · rw [quotedAt_go hk hc] at h
      obtain ⟨y, hy, rfl⟩ := Option.map_eq_some_iff.1 h
      have := qgo_len _ _ _ _ (Nat.le_refl _) hy
      simp at this
      simp; omega
    · rw [quotedAt_no hk hc] at h; cases h
  · rw [quotedAt_end (by omega)] at h; cases h
end Go.Proofs.Ytinlahahbhpppaa
/- strings.Trim and TrimLeft at a cutset of plain bytes; when nothing is left. -/
namespace Go.Proofs.Ytinlahahbhpppaa
open Go.RowKit Go.Shelf

theorem dropWhile_nil {p : UInt8 → Bool} : ∀ {l : List UInt8}, l.dropWhile p = [] ↔ l.all p = true
  | [] => by simp
  | a :: l => by
    rw [List.dropWhile_cons]
    cases h : p a
    · simp [h]
    · simp [h, dropWhile_nil (l := l)]
theorem dropWhile_head {p : UInt8 → Bool} {a : UInt8} : ∀ {l r : List UInt8}, l.dropWhile p = a :: r → p a = false
  | [], _, h => by simp at h
  | b :: l, r, h => by
    rw [List.dropWhile_cons] at h
    cases hb : p b
    · rw [if_neg (by simp [hb])] at h; cases h; exact hb
    · rw [if_pos hb] at h; exact dropWhile_head h
theorem trimS_nil (l cs : List UInt8) : Lib.trimS l cs = [] ↔ l.all (cs.contains ·) = true := by
  unfold Lib.trimS Lib.trimLeftS Lib.trimRightS
  rw [dropWhile_nil, List.all_reverse]
  constructor
  · intro h
    cases hr : l.reverse.dropWhile (cs.contains ·) with
    | nil =>
      have := dropWhile_nil.1 hr
      rwa [List.all_reverse] at this
    | cons a r =>
      have ha := dropWhile_head hr
      rw [hr] at h
      simp only [List.all_cons, Bool.and_eq_true] at h
      rw [ha] at h
      cases h.1
  · intro h
    have : l.reverse.dropWhile (cs.contains ·) = [] := dropWhile_nil.2 (by rwa [List.all_reverse])
    rw [this]; rfl
theorem trimS_all (l cs : List UInt8) (p : UInt8 → Bool) (hp : ∀ c, cs.contains c = p c) : Lib.trimS l cs = [] ↔ l.all p = true := by
  rw [trimS_nil, show (fun c => cs.contains c) = p from funext hp]
theorem trimS_len (l cs : List UInt8) : (Lib.trimS l cs).length ≤ l.length := by
  unfold Lib.trimS Lib.trimLeftS Lib.trimRightS
  refine Nat.le_trans (List.dropWhile_sublist _).length_le ?_
  rw [List.length_reverse]
  refine Nat.le_trans (List.dropWhile_sublist _).length_le ?_
  rw [List.length_reverse]; exact Nat.le_refl _
end Go.Proofs.Ytinlahahbhpppaa
/- The place of a byte in a text, and a text cut there. Plain lists; no program. -/
namespace Go.Proofs.Ytinlahahbhpppaa
/-- ahead of the first c -/
def befL (c : UInt8) (l : List UInt8) : List UInt8 := l.takeWhile (fun x => x != c)
theorem befL_nil (c : UInt8) : befL c [] = [] := rfl
theorem befL_hit (c : UInt8) (l : List UInt8) : befL c (c :: l) = [] := by simp [befL]
theorem befL_skip {a c : UInt8} (h : a ≠ c) (l : List UInt8) : befL c (a :: l) = a :: befL c l := by unfold befL; rw [List.takeWhile_cons, if_pos (by simpa using h)]
theorem befL_len (c : UInt8) (l : List UInt8) : (befL c l).length ≤ l.length := (List.takeWhile_sublist _).length_le
theorem has_skip {a c : UInt8} (h : a ≠ c) (l : List UInt8) : (a :: l).contains c = l.contains c := by
  rw [List.contains_cons, show (c == a) = false by rw [beq_eq_false_iff_ne]; exact fun e => h e.symm, Bool.false_or]
theorem idx_has (c : UInt8) : ∀ l : List UInt8, l.contains c = true → Lib.indexByte l c = ((befL c l).length : Int)
  | [], h => by simp at h
  | a :: l, h => by
    by_cases ha : a = c
    · subst ha
      rw [befL_hit]; simp [Lib.indexByte]
    · rw [has_skip ha] at h
      have ih := idx_has c l h
      rw [befL_skip ha, Lib.indexByte, ih]
      simp only [beq_iff_eq, ha, if_false, List.length_cons]
      rw [if_neg (by omega)]
      omega
theorem idx_no (c : UInt8) : ∀ l : List UInt8, l.contains c = false → Lib.indexByte l c = -1
  | [], _ => rfl
  | a :: l, h => by
    have ha : a ≠ c := by rintro rfl; simp at h
    rw [has_skip ha] at h
    have ih := idx_no c l h
    rw [Lib.indexByte, ih]
    simp [ha]
theorem bef_lt (c : UInt8) : ∀ l : List UInt8, l.contains c = true → (befL c l).length < l.length
  | [], h => by simp at h
  | a :: l, h => by
    by_cases ha : a = c
    · subst ha
      rw [befL_hit]; simp
    · rw [has_skip ha] at h
      have ih := bef_lt c l h
      rw [befL_skip ha, List.length_cons, List.length_cons]; omega
theorem bef_take (c : UInt8) (l : List UInt8) : l.take (befL c l).length = befL c l := by
  unfold befL
  induction l with
  | nil => rfl
  | cons a l ih =>
    rw [List.takeWhile_cons]
    split
    · rw [List.length_cons, List.take_succ_cons, ih]
    · rfl
theorem bef_no (c : UInt8) : ∀ l : List UInt8, l.contains c = false → befL c l = l
  | [], _ => rfl
  | a :: l, h => by
    have ha : a ≠ c := by rintro rfl; simp at h
    rw [has_skip ha] at h
    rw [befL_skip ha, bef_no c l h]
theorem cut_has {c : UInt8} {l : List UInt8} (h : l.contains c = true) : Lib.cut l [c] = (befL c l, l.drop ((befL c l).length + 1), true) := by
  unfold Lib.cut
  rw [Lib.index_one, idx_has c l h, if_pos (by omega), Int.toNat_natCast, bef_take]
  rfl
theorem cut_no {c : UInt8} {l : List UInt8} (h : l.contains c = false) : Lib.cut l [c] = (l, [], false) := by
  unfold Lib.cut
  rw [Lib.index_one, idx_no c l h, if_neg (by decide)]
end Go.Proofs.Ytinlahahbhpppaa
/- strings.Builder as this program's translation has it: copyCheck, WriteByte, WriteString of a builder that the call itself has made. -/
namespace Go.Proofs.Ytinlahahbhpppaa
open Go.RowKit

end Go.Proofs.Ytinlahahbhpppaa
/- strings.Builder beside other boxes: a write turns the Builder's own block and its row of bytes, no other. -/
namespace Go.Proofs.Ytinlahahbhpppaa
open Go.RowKit
/-- whatever is no row of bytes, and not b, is as it was -/
def KeepB (b : Nat) (w w' : World) : Prop := ∀ p cs T, T ≠ 5 → p ≠ b → Blk w p cs T → Blk w' p cs T
theorem KeepB.refl (b : Nat) (w : World) : KeepB b w w := fun _ _ _ _ _ h => h
theorem KeepB.trans {b : Nat} {w w1 w2 : World} (h : KeepB b w w1) (k : KeepB b w1 w2) : KeepB b w w2 := fun p cs T hT hp hb => k p cs T hT hp (h p cs T hT hp hb)
theorem KeepB.below {b : Nat} {w w' : World} (h : Below w.heap.size w w') : KeepB b w w' := fun _ _ _ _ _ hb => hb.later h
theorem KeepB.set {b : Nat} {w w' : World} (h : KeepB b w w') (i : Nat) (x : Value) : KeepB b w (w'.setCell ⟨b, i, none⟩ x) := fun p cs T hT hp hb => (h p cs T hT hp hb).far _ _ (fun e => hp e.symm)
theorem KeepB.grown {b B n : Nat} {w w1 w2 : World} {v : Value} {xs : List Value} (h : KeepB b w w1) (ho : w1.ownsRow B 5 1 v n xs) (hg : w1.grownBy w2 v.ownBlock) : KeepB b w w2 := fun p cs T hT hp hb => by
  have h1 := h p cs T hT hp hb
  refine h1.grown hg (fun e => ?_)
  rcases ho.2 with ⟨hv, _⟩ | ⟨g, cap, cur, hv, _, hk, _⟩
  · rw [hv] at e; cases e
  · rw [hv] at e
    cases e
    unfold Blk at h1
    rw [h1] at hk
    cases hk
    exact hT rfl
end Go.Proofs.Ytinlahahbhpppaa
