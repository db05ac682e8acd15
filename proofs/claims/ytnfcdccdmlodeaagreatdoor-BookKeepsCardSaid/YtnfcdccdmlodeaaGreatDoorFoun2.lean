/- Merged out of Token Join CurP Trim Idx Builder BuiO. -/
import Derived.Test.YtnfcdccdmlodeaaGreatDoorFound
import Derived.Test.YtnfcdccdmlodeaaGreatDoorShelf
import Derived.Lib.Join
import Derived.Shelf.Strings.SlTrimAscii
import Derived.Lib.IndexMore
import Derived.Lib.IndexBytes
import Derived.Lib.Builder
import Derived.Lib.AppendStr
import Derived.Lib.UnsafeStr
import Derived.Laws.Externs
/- Bytes and words of headers: token.Byte, token.Is, and the reference's TokenByte, Token. -/
namespace Go.Proofs.YtnfcdccdmlodeaaGreatDoor
open Go.RowKit

theorem bd8 (c : UInt8) : (0 : Int) ≤ c.toNat ∧ (c.toNat : Int) < 256 := ⟨by omega, by have := c.toNat_lt; omega⟩
theorem u8_back (c : UInt8) : ((c.toNat : Int).toNat).toUInt8 = c := by simp

def marks1 : List UInt8 := [33, 35, 36, 37, 38, 39, 42, 43, 45, 46, 94, 95, 124, 126, 96]
def marks2 : List UInt8 := [34, 40, 41, 44, 47, 58, 59, 60, 61, 62, 63, 64, 91, 92, 93, 123, 125]
/-- a byte of a word, as the program asks -/
def tokB (c : UInt8) : Bool := decide (48 ≤ c.toNat ∧ c.toNat ≤ 57 ∨ 97 ≤ c.toNat ∧ c.toNat ≤ 122 ∨ 65 ≤ c.toNat ∧ c.toNat ≤ 90 ∨ 0 ≤ Lib.indexByte marks1 c)
theorem tokB_ref (c : UInt8) : (decide (33 ≤ c.toNat ∧ c.toNat ≤ 126 ∧ Lib.indexByte marks2 c < 0)) = tokB c := by
  have h : ∀ n : Fin 256, (decide (33 ≤ (UInt8.ofNat n).toNat ∧ (UInt8.ofNat n).toNat ≤ 126 ∧ Lib.indexByte marks2 (UInt8.ofNat n) < 0)) = tokB (UInt8.ofNat n) := by decide +kernel
  simpa using h ⟨c.toNat, c.toNat_lt⟩

theorem tokenByte (c : UInt8) (w : World) :
    Calls Tryz.prog 234 #[.int .u8 c.toNat] w fun e w' => e = .returned (.bool (tokB c)) ∧ w = w' := by
  have hb := bd8 c
  go_enter Tryz.func234, Tryz.ntmps234
  go_wp2_with (go_at_call 130; refine (Tryz.strings_IndexByte _ _ _).mono ?_; rintro e w' ⟨rfl, rfl⟩)
  all_goals go_ret
  all_goals
    refine ⟨ret_bool ?_, rfl⟩
    unfold tokB marks1
    rw [Bool.eq_iff_iff]
    simp
    try omega

theorem refTokenByte (c : UInt8) (w : World) :
    Calls Tryz.prog 208 #[.int .u8 c.toNat] w fun e w' => e = .returned (.bool (tokB c)) ∧ w = w' := by
  have hb := bd8 c
  go_enter Tryz.func208, Tryz.ntmps208
  go_wp2_with fail
  refine (within_any _ _ _ _).mono ?_
  rintro e w' ⟨rfl, rfl⟩
  go_wp2_with (go_at_call 130; refine (Tryz.strings_IndexByte _ _ _).mono ?_; rintro e w' ⟨rfl, rfl⟩)
  all_goals go_ret
  all_goals
    refine ⟨ret_bool ?_, rfl⟩
    rw [← tokB_ref]
    unfold marks2
    rw [Bool.eq_iff_iff]
    simp
    try omega

/-- a word: one byte at least, each one of a word's -/
def tokW (l : List UInt8) : Bool := l != [] && l.all tokB

theorem data_getElem (s : ByteArray) (k : Nat) (_h : k < s.size) (h' : k < s.data.toList.length) : s.data.toList[k] = s[k] := by simp; rfl
theorem all_take_succ (p : UInt8 → Bool) (s : ByteArray) (k : Nat) (h : k < s.size) (ha : (s.data.toList.take k).all p = true) (hb : p s[k] = true) : (s.data.toList.take (k + 1)).all p = true := by
  have h' : k < s.data.toList.length := by rw [← size_data]; exact h
  rw [List.take_succ_eq_append_getElem h', List.all_append, ha, data_getElem s k h h']; simp [hb]
theorem not_all (p : UInt8 → Bool) (s : ByteArray) (k : Nat) (h : k < s.size) (hb : p s[k] = false) : s.data.toList.all p = false := by
  have h' : k < s.data.toList.length := by rw [← size_data]; exact h
  rw [List.all_eq_false]
  exact ⟨s[k], by rw [← data_getElem s k h h']; exact List.getElem_mem _, by simp [hb]⟩
theorem all_take_all (p : UInt8 → Bool) (s : ByteArray) (ha : (s.data.toList.take s.size).all p = true) : s.data.toList.all p = true := by
  rwa [size_data, List.take_length] at ha

theorem tokenIs (s : ByteArray) (w : World) (hs : s.size ≤ maxLen) :
    Calls Tryz.prog 156 #[.string s] w fun e w' => e = .returned (.bool (tokW s.data.toList)) ∧ w = w' := by
  unfold maxLen at hs
  go_enter Tryz.func156, Tryz.ntmps156
  go_wp2
  go_loop [6] (fun i => ∃ k : Nat, k ≤ s.size ∧ i = .int .i64 k ∧ Hid ((s.data.toList.take k).all tokB = true)) (fun i => s.size - (intOf i).toNat)
  case atStart => exact ⟨0, Nat.zero_le _, rfl, Lib.hid (by simp)⟩
  case round =>
    obtain ⟨k, hk, rfl, ha⟩ := hrel
    by_cases hlt : k < s.size
    · cases hb : tokB s[k]
      · have hn := Lib.hid (not_all tokB s k hlt hb)
        go_wp2_with (go_at_call 234; refine (tokenByte _ _).mono ?_; rintro e w' ⟨rfl, rfl⟩)
        go_ret
        exact ⟨ret_bool (by unfold tokW; rw [hn.out]; simp), rfl⟩
      · have hn := Lib.hid (all_take_succ tokB s k hlt ha.out hb)
        go_wp2_with (go_at_call 234; refine (tokenByte _ _).mono ?_; rintro e w' ⟨rfl, rfl⟩)
        go_round
        case rel => exact ⟨k + 1, by omega, by go_num, hn⟩
        case measure => simp [intOf]; omega
    · obtain rfl : s.size = k := by omega
      have ha' := Lib.hid (all_take_all tokB s ha.out)
      go_wp2
      go_ret
      exact ⟨ret_bool (by unfold tokW; rw [ha'.out, Lib.toList_data]; cases s.data.toList <;> rfl), rfl⟩

theorem tokW_false (s : ByteArray) (k : Nat) (h : k < s.size) (hb : tokB s[k] = false) : tokW s.data.toList = false := by
  unfold tokW; rw [not_all tokB s k h hb]; simp
theorem tokW_true (s : ByteArray) (h : 0 < s.size) (ha : (s.data.toList.take s.size).all tokB = true) : tokW s.data.toList = true := by
  unfold tokW; rw [all_take_all tokB s ha]
  rw [size_data] at h
  cases hl : s.data.toList with
  | nil => rw [hl] at h; simp at h
  | cons a l => rfl

set_option maxHeartbeats 400000 in
theorem refToken (s : ByteArray) (w : World) (hs : s.size ≤ maxLen) :
    Calls Tryz.prog 127 #[.string s] w fun e w' => e = .returned (.bool (tokW s.data.toList)) ∧ w = w' := by
  unfold maxLen at hs
  go_enter Tryz.func127, Tryz.ntmps127
  go_wp2
  go_loop [3] (fun i => ∃ k : Nat, k ≤ s.size ∧ i = .int .i64 k ∧ Hid ((s.data.toList.take k).all tokB = true)) (fun i => s.size - (intOf i).toNat)
  case atStart => exact ⟨0, Nat.zero_le _, rfl, Lib.hid (by simp)⟩
  case round =>
    obtain ⟨k, hk, rfl, ha⟩ := hrel
    by_cases hlt : k < s.size
    · cases hb : tokB s[k]
      · have hn := Lib.hid (tokW_false s k hlt hb)
        by_cases h0 : 0 < k
        all_goals
          go_wp2_with (go_at_call 208; refine (refTokenByte _ _).mono ?_; rintro e w' ⟨rfl, rfl⟩)
          go_ret
          exact ⟨ret_bool (by (rw [hn.out]) <;> (first | rfl | (simp; omega))), rfl⟩
      · have hn := Lib.hid (all_take_succ tokB s k hlt ha.out hb)
        go_wp2_with (go_at_call 208; refine (refTokenByte _ _).mono ?_; rintro e w' ⟨rfl, rfl⟩)
        go_round
        case rel => exact ⟨k + 1, by omega, by go_num, hn⟩
        case measure => simp [intOf]; omega
    · obtain rfl : s.size = k := by omega
      by_cases h0 : 0 < s.size
      · have ha' := Lib.hid (tokW_true s h0 ha.out)
        go_wp2
        go_ret
        exact ⟨ret_bool (by (rw [ha'.out]) <;> (first | rfl | (simp; done) | (simp; omega))), rfl⟩
      · have ha' : Hid (tokW s.data.toList = false) := Lib.hid (by
          have : s.data.toList = [] := by rw [size_data] at h0; cases hl : s.data.toList with
            | nil => rfl
            | cons a l => rw [hl] at h0; simp at h0
          rw [this]; rfl)
        go_wp2
        go_ret
        exact ⟨ret_bool (by (rw [ha'.out]) <;> (first | rfl | (simp; done) | (simp; omega))), rfl⟩

end Go.Proofs.YtnfcdccdmlodeaaGreatDoor
/- token.Join: texts with a comma and a blank between. -/
namespace Go.Proofs.YtnfcdccdmlodeaaGreatDoor
open Go.ChangeShapes Go.WideShapes Go.ChangeAt Go.RowKit Go.WideElems Go.Deep

set_option maxRecDepth 100000 in
theorem strs_open {w : World} {a : Option Addr} {len cap : Nat} (h : Rd Tryz.prog w 119 [.slice a len cap]) :
    ∃ ss : List ByteArray, ss.length = len ∧ StrAt w a ss ∧ (∀ s ∈ ss, s.size ≤ reachBytes) ∧ len * 16 ≤ reachBytes ∧ len ≤ cap ∧ cap ≤ maxLen ∧ (a = none → len = 0 ∧ cap = 0) := by
  obtain ⟨a', len', cap', e, hb, _, hl, hc, hn, hi⟩ := h.slice Tryz.underlying119 (by rw [cellsString]; decide)
  simp at e
  obtain ⟨rfl, rfl, rfl⟩ := e
  rw [show Tryz.prog.bytesOf 9 = 16 by kernel_rfl] at hb
  rw [cellsString] at hi
  obtain ⟨ss, hps, hp⟩ := exists_list (fun i (s : ByteArray) => (∃ b off, a = some ⟨b, off, none⟩ ∧ w.cell? ⟨b, off + i, none⟩ = some (.string s)) ∧ s.size ≤ reachBytes) len (by
    intro i hil
    obtain ⟨b, off, cs', ha, hl', hR, hcell⟩ := hi i hil
    obtain ⟨s, rfl, z⟩ := hR.string Tryz.underlying9
    exact ⟨s, ⟨b, off, ha, by simpa using hcell 0 (by decide)⟩, z⟩)
  refine ⟨ss, hps, fun i hil => (hp i hil).1, ?_, hb, hl, hc, hn⟩
  intro p hpm
  obtain ⟨i, hil, rfl⟩ := List.getElem_of_mem hpm
  exact (hp i hil).2

theorem str_app (l : List UInt8) (s : ByteArray) : (⟨l.toArray⟩ : ByteArray) ++ s = ⟨(l ++ s.data.toList).toArray⟩ := by
  obtain ⟨⟨m⟩⟩ := s
  exact mk_append l m

def commas (ss : List ByteArray) : List UInt8 := Lib.join (datas ss) [44, 32]
theorem commas_nil : commas [] = [] := rfl
theorem commas_snoc (ss : List ByteArray) (s : ByteArray) (h : ss ≠ []) : commas (ss ++ [s]) = commas ss ++ [44, 32] ++ s.data.toList := by
  cases ss with
  | nil => exact absurd rfl h
  | cons x r => simp [commas, datas, Lib.join_cons, Lib.joinTail]
theorem commas_one (s : ByteArray) : commas [s] = s.data.toList := by simp [commas, datas, Lib.join_one]
theorem commas_len (m : Nat) : ∀ (ss : List ByteArray), (∀ s ∈ ss, s.size ≤ m) → (commas ss).length ≤ ss.length * (m + 2)
  | [], _ => by simp [commas_nil]
  | x :: r, h => by
    have h1 := commas_len m r (fun s hs => h s (by simp [hs]))
    have hx := h x (by simp)
    rw [Lib.size_eq] at hx
    cases r with
    | nil => rw [commas_one]; simp only [List.length_cons, List.length_nil, Nat.zero_add, Nat.one_mul]; omega
    | cons y r =>
      have e : commas (x :: y :: r) = x.data.toList ++ [44, 32] ++ commas (y :: r) := by simp [commas, datas, Lib.join_cons, Lib.joinTail]
      rw [e]
      simp only [List.length_append, List.length_cons, List.length_nil] at *
      rw [Nat.succ_mul]
      omega

theorem stringsJoin (a : Option Addr) (cap : Nat) (ss : List ByteArray) (sep : ByteArray) (w : World) (hS : StrAt w a ss) (hc : ss.length ≤ cap) (hn : ss.length ≤ 140737488355328) (hl : (Lib.join (datas ss) sep.data.toList).length ≤ 140737488355328) :
    Calls Tryz.prog 292 #[.slice a ss.length cap, .string sep] w fun e w' => e = .returned (.string ⟨(Lib.join (datas ss) sep.data.toList).toArray⟩) ∧ Below w.heap.size w w' := by
  cases ss with
  | nil => exact (Tryz.strings_Join_none a cap sep w).mono fun e w' ⟨he, hw⟩ => ⟨he, hw ▸ Below.refl _ _⟩
  | cons x r =>
    obtain ⟨b, off, rfl, h1⟩ := hS 0 (by simp)
    refine Tryz.strings_Join b off cap (x :: r) sep w ?_ (World.block_lt_of_cell? w _ h1) hn hc hl
    intro j y hj
    have hjl : j < (x :: r).length := by
      rcases Nat.lt_or_ge j (x :: r).length with h | h
      · exact h
      · rw [List.getElem?_eq_none h] at hj; cases hj
    obtain ⟨b', off', e, h2⟩ := hS j hjl
    simp at e
    obtain ⟨rfl, rfl⟩ := e
    rw [List.getElem?_eq_getElem hjl] at hj
    cases hj
    exact h2

end Go.Proofs.YtnfcdccdmlodeaaGreatDoor
/- What a cursor finds in a text: blanks, marks, words, texts between marks. Plain lists; no program. -/
namespace Go.Proofs.YtnfcdccdmlodeaaGreatDoor

def isBl (c : UInt8) : Bool := decide (c.toNat = 32 ∨ c.toNat = 9)
/-- so many bytes of a kind stand from k on -/
def spanAt (p : UInt8 → Bool) (l : List UInt8) (k : Nat) : List UInt8 := (l.drop k).takeWhile p
theorem spanAt_stop {p : UInt8 → Bool} {l : List UInt8} {k : Nat} (h : k < l.length) (hp : p l[k] = false) : spanAt p l k = [] := by
  unfold spanAt; rw [List.drop_eq_getElem_cons h, List.takeWhile_cons, if_neg (by simp [hp])]
theorem spanAt_end {p : UInt8 → Bool} {l : List UInt8} {k : Nat} (h : l.length ≤ k) : spanAt p l k = [] := by
  unfold spanAt; rw [List.drop_eq_nil_of_le h]; rfl
theorem spanAt_go {p : UInt8 → Bool} {l : List UInt8} {k : Nat} (h : k < l.length) (hp : p l[k] = true) : spanAt p l k = l[k] :: spanAt p l (k + 1) := by
  unfold spanAt; rw [List.drop_eq_getElem_cons h, List.takeWhile_cons, if_pos hp]
theorem takeWhile_take (p : UInt8 → Bool) (l : List UInt8) : l.takeWhile p = l.take (l.takeWhile p).length := by
  induction l with
  | nil => rfl
  | cons a l ih =>
    rw [List.takeWhile_cons]
    split
    · simp only [List.length_cons, List.take_succ_cons]; rw [← ih]
    · rfl
theorem spanAt_len (p : UInt8 → Bool) (l : List UInt8) (k : Nat) : (spanAt p l k).length ≤ l.length - k := by
  unfold spanAt; have := (List.takeWhile_sublist p (l := l.drop k)).length_le; simpa using this
theorem spanAt_take (p : UInt8 → Bool) (l : List UInt8) (k : Nat) : (l.drop k).take (spanAt p l k).length = spanAt p l k := (takeWhile_take p _).symm
/-- a loop's count: from i on j bytes were of the kind -/
theorem spanAt_done {p : UInt8 → Bool} {l : List UInt8} {i j : Nat} (h : (spanAt p l i).length = (j - i) + (spanAt p l j).length) (hij : i ≤ j) (he : spanAt p l j = []) : i + (spanAt p l i).length = j := by
  rw [h, he]; simp; omega

/-- behind a mark: the text up to the next one, and how much is left behind that -/
def qgo : List UInt8 → List UInt8 → Option (List UInt8 × Nat)
  | [], _ => none
  | [c], acc => if c.toNat = 34 then some (acc, 0) else none
  | c :: x :: r, acc => if c.toNat = 34 then some (acc, r.length + 1) else if c.toNat = 92 then (if textB x then qgo r (acc ++ [x]) else none) else if textB c then qgo (x :: r) (acc ++ [c]) else none
theorem qgo_mark {c : UInt8} (r acc : List UInt8) (h : c.toNat = 34) : qgo (c :: r) acc = some (acc, r.length) := by
  cases r <;> simp [qgo, h]
theorem qgo_back {c : UInt8} (acc : List UInt8) (h : c.toNat = 92) : qgo [c] acc = none := by simp [qgo, h]
theorem qgo_esc {c x : UInt8} (r acc : List UInt8) (h : c.toNat = 92) (hx : textB x = true) : qgo (c :: x :: r) acc = qgo r (acc ++ [x]) := by simp [qgo, h, hx]
theorem qgo_esc_no {c x : UInt8} (r acc : List UInt8) (h : c.toNat = 92) (hx : textB x = false) : qgo (c :: x :: r) acc = none := by simp [qgo, h, hx]
theorem qgo_text {c : UInt8} (r acc : List UInt8) (h : c.toNat ≠ 34) (h' : c.toNat ≠ 92) (hx : textB c = true) : qgo (c :: r) acc = qgo r (acc ++ [c]) := by
  cases r <;> simp [qgo, h, h', hx]
theorem qgo_no {c : UInt8} (r acc : List UInt8) (h : c.toNat ≠ 34) (h' : c.toNat ≠ 92) (hx : textB c = false) : qgo (c :: r) acc = none := by
  cases r <;> simp [qgo, h, h', hx]
theorem qgo_len : ∀ (n : Nat) (l acc : List UInt8) (x : List UInt8 × Nat), l.length ≤ n → qgo l acc = some x → x.1.length ≤ acc.length + l.length ∧ x.2 < l.length
  | 0, [], _, _, _, h => by simp [qgo] at h
  | 0, _ :: _, _, _, hn, _ => by simp at hn
  | n + 1, [], _, _, _, h => by simp [qgo] at h
  | n + 1, [c], acc, x, _, h => by
    unfold qgo at h; split at h
    · cases h; simp
    · cases h
  | n + 1, c :: y :: r, acc, x, hn, h => by
    unfold qgo at h
    simp only [List.length_cons] at hn
    split at h
    · cases h; simp
    · split at h
      · split at h
        · have := qgo_len n r (acc ++ [y]) x (by omega) h; simp at this ⊢; omega
        · cases h
      · split at h
        · have := qgo_len n (y :: r) (acc ++ [c]) x (by simp; omega) h; simp at this ⊢; omega
        · cases h
/-- the text between marks that begins at k, and the place behind it -/
def quotedAt (l : List UInt8) (k : Nat) : Option (List UInt8 × Nat) :=
  match l.drop k with
  | c :: r => if c.toNat = 34 then (qgo r []).map (fun x => (x.1, l.length - x.2)) else none
  | [] => none
theorem quotedAt_end {l : List UInt8} {k : Nat} (h : l.length ≤ k) : quotedAt l k = none := by unfold quotedAt; rw [List.drop_eq_nil_of_le h]
theorem quotedAt_no {l : List UInt8} {k : Nat} (h : k < l.length) (hc : l[k].toNat ≠ 34) : quotedAt l k = none := by unfold quotedAt; rw [List.drop_eq_getElem_cons h]; simp [hc]
theorem quotedAt_go {l : List UInt8} {k : Nat} (h : k < l.length) (hc : l[k].toNat = 34) : quotedAt l k = (qgo (l.drop (k + 1)) []).map (fun x => (x.1, l.length - x.2)) := by unfold quotedAt; rw [List.drop_eq_getElem_cons h]; simp [hc]
theorem quotedAt_bd {l : List UInt8} {k : Nat} {x : List UInt8 × Nat} (h : quotedAt l k = some x) : x.1.length ≤ l.length ∧ k < x.2 ∧ x.2 ≤ l.length := by
  by_cases hk : k < l.length
  · by_cases hc : l[k].toNat = 34
    · rw [quotedAt_go hk hc] at h
      obtain ⟨y, hy, rfl⟩ := Option.map_eq_some_iff.1 h
      have := qgo_len _ _ _ _ (Nat.le_refl _) hy
      simp at this
      simp; omega
    · rw [quotedAt_no hk hc] at h; cases h
  · rw [quotedAt_end (by omega)] at h; cases h
end Go.Proofs.YtnfcdccdmlodeaaGreatDoor
/- strings.Trim and TrimLeft at a cutset of plain bytes; when nothing is left. -/
namespace Go.Proofs.YtnfcdccdmlodeaaGreatDoor
open Go.RowKit Go.Shelf

theorem stringsTrim (s cut : ByteArray) (w : World) (hs : s.size ≤ 9223372036854775807) (hc : cut.size < 4294967281) (ha : ∀ (j : Nat) b, cut.data.toList[j]? = some b → b.toNat < 128) :
    Calls Tryz.prog 149 #[.string s, .string cut] w fun e w' => e = .returned (.string ⟨(Lib.trimS s.data.toList cut.data.toList).toArray⟩) ∧ Below w.heap.size w w' :=
  Any.strings_Trim_laid Tryz.lays160 (by kernel_rfl) s cut w hs hc ha
theorem stringsTrimLeft (s cut : ByteArray) (w : World) (hc : cut.size < 4294967281) (ha : ∀ (j : Nat) b, cut.data.toList[j]? = some b → b.toNat < 128) :
    Calls Tryz.prog 214 #[.string s, .string cut] w fun e w' => e = .returned (.string ⟨(Lib.trimLeftS s.data.toList cut.data.toList).toArray⟩) ∧ Below w.heap.size w w' :=
  Any.strings_TrimLeft_laid Tryz.lays161 (by kernel_rfl) s cut w hc ha

theorem dropWhile_nil {p : UInt8 → Bool} : ∀ {l : List UInt8}, l.dropWhile p = [] ↔ l.all p = true
  | [] => by simp
  | a :: l => by
    rw [List.dropWhile_cons]
    cases h : p a
    · simp [h]
    · simp [h, dropWhile_nil (l := l)]
theorem dropWhile_head {p : UInt8 → Bool} {a : UInt8} : ∀ {l r : List UInt8}, l.dropWhile p = a :: r → p a = false
  | [], _, h => by simp at h
  | b :: l, r, h => by
    rw [List.dropWhile_cons] at h
    cases hb : p b
    · rw [if_neg (by simp [hb])] at h; cases h; exact hb
    · rw [if_pos hb] at h; exact dropWhile_head h
theorem trimS_nil (l cs : List UInt8) : Lib.trimS l cs = [] ↔ l.all (cs.contains ·) = true := by
  unfold Lib.trimS Lib.trimLeftS Lib.trimRightS
  rw [dropWhile_nil, List.all_reverse]
  constructor
  · intro h
    cases hr : l.reverse.dropWhile (cs.contains ·) with
    | nil =>
      have := dropWhile_nil.1 hr
      rwa [List.all_reverse] at this
    | cons a r =>
      have ha := dropWhile_head hr
      rw [hr] at h
      simp only [List.all_cons, Bool.and_eq_true] at h
      rw [ha] at h
      cases h.1
  · intro h
    have : l.reverse.dropWhile (cs.contains ·) = [] := dropWhile_nil.2 (by rwa [List.all_reverse])
    rw [this]; rfl
theorem trimS_all (l cs : List UInt8) (p : UInt8 → Bool) (hp : ∀ c, cs.contains c = p c) : Lib.trimS l cs = [] ↔ l.all p = true := by
  rw [trimS_nil, show (fun c => cs.contains c) = p from funext hp]
theorem trimS_len (l cs : List UInt8) : (Lib.trimS l cs).length ≤ l.length := by
  unfold Lib.trimS Lib.trimLeftS Lib.trimRightS
  refine Nat.le_trans (List.dropWhile_sublist _).length_le ?_
  rw [List.length_reverse]
  refine Nat.le_trans (List.dropWhile_sublist _).length_le ?_
  rw [List.length_reverse]; exact Nat.le_refl _
end Go.Proofs.YtnfcdccdmlodeaaGreatDoor
/- The place of a byte in a text, and a text cut there. Plain lists; no program. -/
namespace Go.Proofs.YtnfcdccdmlodeaaGreatDoor
/-- ahead of the first c -/
def befL (c : UInt8) (l : List UInt8) : List UInt8 := l.takeWhile (fun x => x != c)
theorem befL_nil (c : UInt8) : befL c [] = [] := rfl
theorem befL_hit (c : UInt8) (l : List UInt8) : befL c (c :: l) = [] := by simp [befL]
theorem befL_skip {a c : UInt8} (h : a ≠ c) (l : List UInt8) : befL c (a :: l) = a :: befL c l := by unfold befL; rw [List.takeWhile_cons, if_pos (by simpa using h)]
theorem befL_len (c : UInt8) (l : List UInt8) : (befL c l).length ≤ l.length := (List.takeWhile_sublist _).length_le
theorem has_skip {a c : UInt8} (h : a ≠ c) (l : List UInt8) : (a :: l).contains c = l.contains c := by
  rw [List.contains_cons, show (c == a) = false by rw [beq_eq_false_iff_ne]; exact fun e => h e.symm, Bool.false_or]
theorem idx_has (c : UInt8) : ∀ l : List UInt8, l.contains c = true → Lib.indexByte l c = ((befL c l).length : Int)
  | [], h => by simp at h
  | a :: l, h => by
    by_cases ha : a = c
    · subst ha
      rw [befL_hit]; simp [Lib.indexByte]
    · rw [has_skip ha] at h
      have ih := idx_has c l h
      rw [befL_skip ha, Lib.indexByte, ih]
      simp only [beq_iff_eq, ha, if_false, List.length_cons]
      rw [if_neg (by omega)]
      omega
theorem idx_no (c : UInt8) : ∀ l : List UInt8, l.contains c = false → Lib.indexByte l c = -1
  | [], _ => rfl
  | a :: l, h => by
    have ha : a ≠ c := by rintro rfl; simp at h
    rw [has_skip ha] at h
    have ih := idx_no c l h
    rw [Lib.indexByte, ih]
    simp [ha]
theorem bef_lt (c : UInt8) : ∀ l : List UInt8, l.contains c = true → (befL c l).length < l.length
  | [], h => by simp at h
  | a :: l, h => by
    by_cases ha : a = c
    · subst ha
      rw [befL_hit]; simp
    · rw [has_skip ha] at h
      have ih := bef_lt c l h
      rw [befL_skip ha, List.length_cons, List.length_cons]; omega
theorem bef_take (c : UInt8) (l : List UInt8) : l.take (befL c l).length = befL c l := by
  unfold befL
  induction l with
  | nil => rfl
  | cons a l ih =>
    rw [List.takeWhile_cons]
    split
    · rw [List.length_cons, List.take_succ_cons, ih]
    · rfl
theorem bef_no (c : UInt8) : ∀ l : List UInt8, l.contains c = false → befL c l = l
  | [], _ => rfl
  | a :: l, h => by
    have ha : a ≠ c := by rintro rfl; simp at h
    rw [has_skip ha] at h
    rw [befL_skip ha, bef_no c l h]
theorem cut_has {c : UInt8} {l : List UInt8} (h : l.contains c = true) : Lib.cut l [c] = (befL c l, l.drop ((befL c l).length + 1), true) := by
  unfold Lib.cut
  rw [Lib.index_one, idx_has c l h, if_pos (by omega), Int.toNat_natCast, bef_take]
  rfl
theorem cut_no {c : UInt8} {l : List UInt8} (h : l.contains c = false) : Lib.cut l [c] = (l, [], false) := by
  unfold Lib.cut
  rw [Lib.index_one, idx_no c l h, if_neg (by decide)]
end Go.Proofs.YtnfcdccdmlodeaaGreatDoor
/- strings.Builder as this program's translation has it: copyCheck, WriteByte, WriteString of a builder that the call itself has made. -/
namespace Go.Proofs.YtnfcdccdmlodeaaGreatDoor
open Go.RowKit

theorem sizeBuilder : (Tryz.prog.info? 228).map (·.size) = some 2 := by kernel_rfl
theorem liesBuilder : liesAt Tryz.prog Tryz.prog.depth 228 (2 / Tryz.prog.cellsOf 228) 0 228 1 = true := by kernel_rfl

abbrev IsB (B b : Nat) (bs : List Value) (w : World) : Prop := Lib.IsBuilder 228 5 B b bs w
abbrev AtB (B b : Nat) (bs : List Value) (w : World) : Prop := Lib.BuilderAt 228 5 B b (.pointer (some ⟨b, 0, none⟩)) bs w

theorem IsB.later {B b : Nat} {bs : List Value} {w w' : World} (h : IsB B b bs w) (hb : Below w.heap.size w w') : IsB B b bs w' := by
  have go : ∀ p, Lib.BuilderAt 228 5 B b p bs w → Lib.BuilderAt 228 5 B b p bs w' := by
    intro p h
    obtain ⟨hB, v, hbk, hown, hne⟩ := h
    exact ⟨hB, v, (hb.block b (Array.getElem?_eq_some_iff.1 hbk).1).trans hbk, own_later hown hb, hne⟩
  exact h.elim (fun x => .inl (go _ x)) (fun x => .inr (go _ x))
/-- A builder just laid. -/
theorem IsB.new (w : World) (B : Nat) (hB : B ≤ w.heap.size) : IsB B w.heap.size [] (w.alloc (.cells #[.pointer none, .slice none 0 0] 228)) :=
  .inl ⟨hB, _, heap_alloc_new w _, World.ownsRow_nil _ _ _ _, by simp [Value.ownBlock]⟩

set_option maxHeartbeats 1000000 in
set_option maxRecDepth 100000 in
theorem copyCheck (B b : Nat) (bs : List Value) (w : World) (h : IsB B b bs w) :
    Calls Tryz.prog 237 #[.pointer (some ⟨b, 0, none⟩)] w fun e w' => e = .returned (.tuple #[]) ∧ (AtB B b bs w' ∧ Below B w w') := by
  obtain ⟨j, hj, hjs⟩ := Option.map_eq_some_iff.1 sizeBuilder
  rcases h with h | h
  · have h0 := h.cell0
    have hsh := h.shape
    have hfz := h.frozen0
    go_enter Tryz.func237, Tryz.ntmps237
    go_wp2
    rw [Lib.run_to_unsafe w ⟨b, 0, none⟩ Tryz.underlying226 Tryz.underlying329 hj (by rw [hjs]; decide) hsh (Nat.zero_lt_succ 1)]
    simp only [Result.andThen]
    rw [Oper.upon_value]
    go_wp2
    rw [run_callFunc_extern Tryz.func303 (by kernel_rfl) (by kernel_rfl) (by kernel_rfl) (e := Extern.AbiNoEscape.same) (by kernel_rfl)]
    rw [Lib.run_noEscape]
    simp only [Result.andThen]
    rw [Oper.upon_value]
    go_wp2
    rw [Lib.run_from_unsafe w ⟨b, 0, none⟩ Tryz.underlying329 Tryz.underlying226 hj hsh liesBuilder]
    simp only [Result.andThen]
    rw [Oper.upon_value]
    go_wp2
    go_end0
    exact ⟨rfl, h.used _, (Below.refl B w).setCell (p := ⟨b, 0, none⟩) h.1 _⟩
  · have h0 := h.cell0
    go_enter Tryz.func237, Tryz.ntmps237
    go_wp2
    rw [Lib.run_neq_ptr_same w _ Tryz.underlying226 hj]
    go_wp2
    go_end0
    exact ⟨rfl, h, Below.refl B _⟩

set_option maxHeartbeats 2000000 in
set_option maxRecDepth 100000 in
theorem writeByte (B b : Nat) (bs : List Value) (c : Int) (w : World) (h : IsB B b bs w) (hlen : bs.length + 1 ≤ 140737488355328) (hBw : B ≤ w.heap.size) :
    Calls Tryz.prog 203 #[.pointer (some ⟨b, 0, none⟩), .int .u8 c] w fun e w' => e = .returned .nilIface ∧ (AtB B b (bs ++ [.int .u8 c]) w' ∧ Below B w w') := by
  obtain ⟨i0, hi, hz0, hz1, hz2⟩ := info_parts infoByte
  go_enter Tryz.func203, Tryz.ntmps203
  go_wp2_with fail
  refine (copyCheck B b bs _ h).mono ?_
  rintro e w1 ⟨rfl, h1, hb1⟩
  obtain ⟨hB, v, hbk, hown, hne⟩ := h1
  have c0 : w1.cell? ⟨b, 0, none⟩ = some (.pointer (some ⟨b, 0, none⟩)) := by rw [Lib.cell_of_heap hbk]; rfl
  have c1 : w1.cell? ⟨b, 1, none⟩ = some v := by rw [Lib.cell_of_heap hbk]; rfl
  go_wp2_with (at_builtin; refine wpList_append_own _ rfl _ _ 193 rfl B 5 i0 (.int .u8 0) 1 1 Tryz.underlying193 hi hz0 hz1 hz2 rfl (by decide) _ _ _ rfl (hown.alloc _) ⟨w1.heap.size, 0, none⟩ 1 1 [.int .u8 c] rfl rfl ?c1 ?c2 ?c3 ?c4 ?c5 ?_)
  case c1 => exact cell_one_new _ _ _
  case c2 => intro u hu; simp at hu; subst hu; rfl
  case c3 => unfold maxLen; omega
  case c4 => omega
  case c5 => have := hb1.size; simp; omega
  intro v' w2 hown' hgrow _
  have hlt : b < w1.heap.size := (Array.getElem?_eq_some_iff.1 hbk).1
  have hb2 : w2.heap[b]? = some (.cells #[.pointer (some ⟨b, 0, none⟩), v] 228 (0, 0)) := by
    rw [hgrow.block b (by simp; omega) (fun e => hne e.symm), Lib.alloc_old w1 _ b hlt]
    exact hbk
  have d0 : w2.cell? ⟨b, 0, none⟩ = some (.pointer (some ⟨b, 0, none⟩)) := by rw [Lib.cell_of_heap hb2]; rfl
  have d1 : w2.cell? ⟨b, 1, none⟩ = some v := by rw [Lib.cell_of_heap hb2]; rfl
  have f1 : w2.frozen? ⟨b, 1, none⟩ = false := Lib.frozen_of_heap hb2 1
  obtain ⟨g, cap, rfl⟩ : ∃ g cap, v' = .slice (some ⟨g, 0, none⟩) (bs.length + 1) cap := by
    rcases hown'.2 with ⟨_, h0⟩ | ⟨g, cap, cur, hv, _⟩
    · omega
    · exact ⟨g, cap, hv⟩
  go_wp2
  go_ret
  refine ⟨rfl, ?_, ?_⟩
  · exact Lib.BuilderAt.put (T := 228) (e := 5) hB hb2 (bs' := bs ++ [.int .u8 c]) (by simpa using hown') (by decide)
  · exact ((hb1.alloc (by have := hb1.size; omega) _).grown hgrow (by have := hb1.size; simp; omega) (fun k hk => (hown.lt k hk).1)).setCell (p := ⟨b, 1, none⟩) hB _

set_option maxHeartbeats 2000000 in
set_option maxRecDepth 100000 in
theorem writeString (B b : Nat) (bs : List Value) (s : ByteArray) (w : World) (h : IsB B b bs w) (hlen : bs.length + s.size ≤ 140737488355328) (hBw : B ≤ w.heap.size) :
    Calls Tryz.prog 163 #[.pointer (some ⟨b, 0, none⟩), .string s] w fun e w' => e = .returned (.tuple #[.int .i64 s.size, .nilIface]) ∧ (AtB B b (bs ++ Lib.strCells s) w' ∧ Below B w w') := by
  obtain ⟨i0, hi, hz0, hz1, hz2⟩ := info_parts infoByte
  go_enter Tryz.func163, Tryz.ntmps163
  go_wp2_with fail
  refine (copyCheck B b bs _ h).mono ?_
  rintro e w1 ⟨rfl, h1, hb1⟩
  obtain ⟨hB, v, hbk, hown, hne⟩ := h1
  have c0 : w1.cell? ⟨b, 0, none⟩ = some (.pointer (some ⟨b, 0, none⟩)) := by rw [Lib.cell_of_heap hbk]; rfl
  have c1 : w1.cell? ⟨b, 1, none⟩ = some v := by rw [Lib.cell_of_heap hbk]; rfl
  go_wp2_with (at_builtin; refine Lib.wpList_append_own_string _ rfl _ _ 193 9 rfl B 5 i0 Tryz.underlying193 Tryz.underlying9 hi hz0 hz1 hz2 _ _ _ rfl hown s rfl ?c3 ?c4 ?c5 ?_)
  case c3 => unfold maxLen; omega
  case c4 => omega
  case c5 => have := hb1.size; omega
  intro v' w2 hown' hgrow _
  have hlt : b < w1.heap.size := (Array.getElem?_eq_some_iff.1 hbk).1
  have hb2 : w2.heap[b]? = some (.cells #[.pointer (some ⟨b, 0, none⟩), v] 228 (0, 0)) := by
    rw [hgrow.block b hlt (fun e => hne e.symm)]
    exact hbk
  have d0 : w2.cell? ⟨b, 0, none⟩ = some (.pointer (some ⟨b, 0, none⟩)) := by rw [Lib.cell_of_heap hb2]; rfl
  have d1 : w2.cell? ⟨b, 1, none⟩ = some v := by rw [Lib.cell_of_heap hb2]; rfl
  have f1 : w2.frozen? ⟨b, 1, none⟩ = false := Lib.frozen_of_heap hb2 1
  obtain ⟨ao, n', cap, rfl⟩ : ∃ ao n' cap, v' = .slice ao n' cap := by
    rcases hown'.2 with ⟨hv, _⟩ | ⟨g, cap, cur, hv, _⟩
    · exact ⟨_, _, _, hv⟩
    · exact ⟨_, _, _, hv⟩
  go_wp2
  go_ret2
  refine ⟨rfl, ?_, ?_⟩
  · exact Lib.BuilderAt.put (T := 228) (e := 5) hB hb2 (bs' := bs ++ Lib.strCells s) (by simpa [Lib.strCells_length] using hown') (by decide)
  · exact (hb1.grown hgrow (by have := hb1.size; omega) (fun k hk => (hown.lt k hk).1)).setCell (p := ⟨b, 1, none⟩) hB _

end Go.Proofs.YtnfcdccdmlodeaaGreatDoor
/- strings.Builder beside other boxes: a write turns the Builder's own block and its row of bytes, no other. -/
namespace Go.Proofs.YtnfcdccdmlodeaaGreatDoor
open Go.RowKit
/-- whatever is no row of bytes, and not b, is as it was -/
def KeepB (b : Nat) (w w' : World) : Prop := ∀ p cs T, T ≠ 5 → p ≠ b → Blk w p cs T → Blk w' p cs T
theorem KeepB.refl (b : Nat) (w : World) : KeepB b w w := fun _ _ _ _ _ h => h
theorem KeepB.trans {b : Nat} {w w1 w2 : World} (h : KeepB b w w1) (k : KeepB b w1 w2) : KeepB b w w2 := fun p cs T hT hp hb => k p cs T hT hp (h p cs T hT hp hb)
theorem KeepB.below {b : Nat} {w w' : World} (h : Below w.heap.size w w') : KeepB b w w' := fun _ _ _ _ _ hb => hb.later h
theorem KeepB.set {b : Nat} {w w' : World} (h : KeepB b w w') (i : Nat) (x : Value) : KeepB b w (w'.setCell ⟨b, i, none⟩ x) := fun p cs T hT hp hb => (h p cs T hT hp hb).far _ _ (fun e => hp e.symm)
theorem KeepB.grown {b B n : Nat} {w w1 w2 : World} {v : Value} {xs : List Value} (h : KeepB b w w1) (ho : w1.ownsRow B 5 1 v n xs) (hg : w1.grownBy w2 v.ownBlock) : KeepB b w w2 := fun p cs T hT hp hb => by
  have h1 := h p cs T hT hp hb
  refine h1.grown hg (fun e => ?_)
  rcases ho.2 with ⟨hv, _⟩ | ⟨g, cap, cur, hv, _, hk, _⟩
  · rw [hv] at e; cases e
  · rw [hv] at e
    cases e
    unfold Blk at h1
    rw [h1] at hk
    cases hk
    exact hT rfl
set_option maxHeartbeats 1000000 in
set_option maxRecDepth 100000 in
theorem copyCheckK (B b : Nat) (bs : List Value) (w : World) (h : IsB B b bs w) :
    Calls Tryz.prog 237 #[.pointer (some ⟨b, 0, none⟩)] w fun e w' => e = .returned (.tuple #[]) ∧ (AtB B b bs w' ∧ Below B w w' ∧ KeepB b w w') := by
  obtain ⟨j, hj, hjs⟩ := Option.map_eq_some_iff.1 sizeBuilder
  rcases h with h | h
  · have h0 := h.cell0
    have hsh := h.shape
    have hfz := h.frozen0
    go_enter Tryz.func237, Tryz.ntmps237
    go_wp2
    rw [Lib.run_to_unsafe w ⟨b, 0, none⟩ Tryz.underlying226 Tryz.underlying329 hj (by rw [hjs]; decide) hsh (Nat.zero_lt_succ 1)]
    simp only [Result.andThen]
    rw [Oper.upon_value]
    go_wp2
    rw [run_callFunc_extern Tryz.func303 (by kernel_rfl) (by kernel_rfl) (by kernel_rfl) (e := Extern.AbiNoEscape.same) (by kernel_rfl)]
    rw [Lib.run_noEscape]
    simp only [Result.andThen]
    rw [Oper.upon_value]
    go_wp2
    rw [Lib.run_from_unsafe w ⟨b, 0, none⟩ Tryz.underlying329 Tryz.underlying226 hj hsh liesBuilder]
    simp only [Result.andThen]
    rw [Oper.upon_value]
    go_wp2
    go_end0
    exact ⟨rfl, h.used _, (Below.refl B w).setCell (p := ⟨b, 0, none⟩) h.1 _, (KeepB.refl b w).set _ _⟩
  · have h0 := h.cell0
    go_enter Tryz.func237, Tryz.ntmps237
    go_wp2
    rw [Lib.run_neq_ptr_same w _ Tryz.underlying226 hj]
    go_wp2
    go_end0
    exact ⟨rfl, h, Below.refl B _, KeepB.refl _ _⟩
set_option maxHeartbeats 2000000 in
set_option maxRecDepth 100000 in
theorem writeStringK (B b : Nat) (bs : List Value) (s : ByteArray) (w : World) (h : IsB B b bs w) (hlen : bs.length + s.size ≤ 140737488355328) (hBw : B ≤ w.heap.size) :
    Calls Tryz.prog 163 #[.pointer (some ⟨b, 0, none⟩), .string s] w fun e w' => e = .returned (.tuple #[.int .i64 s.size, .nilIface]) ∧ (IsB B b (bs ++ Lib.strCells s) w' ∧ Below B w w' ∧ KeepB b w w') := by
  obtain ⟨i0, hi, hz0, hz1, hz2⟩ := info_parts infoByte
  go_enter Tryz.func163, Tryz.ntmps163
  go_wp2_with fail
  refine (copyCheckK B b bs _ h).mono ?_
  rintro e w1 ⟨rfl, h1, hb1, hk1⟩
  obtain ⟨hB, v, hbk, hown, hne⟩ := h1
  have c0 : w1.cell? ⟨b, 0, none⟩ = some (.pointer (some ⟨b, 0, none⟩)) := by rw [Lib.cell_of_heap hbk]; rfl
  have c1 : w1.cell? ⟨b, 1, none⟩ = some v := by rw [Lib.cell_of_heap hbk]; rfl
  go_wp2_with (at_builtin; refine Lib.wpList_append_own_string _ rfl _ _ 193 9 rfl B 5 i0 Tryz.underlying193 Tryz.underlying9 hi hz0 hz1 hz2 _ _ _ rfl hown s rfl ?c3 ?c4 ?c5 ?_)
  case c3 => unfold maxLen; omega
  case c4 => omega
  case c5 => have := hb1.size; omega
  intro v' w2 hown' hgrow _
  have hlt : b < w1.heap.size := (Array.getElem?_eq_some_iff.1 hbk).1
  have hb2 : w2.heap[b]? = some (.cells #[.pointer (some ⟨b, 0, none⟩), v] 228 (0, 0)) := by
    rw [hgrow.block b hlt (fun e => hne e.symm)]
    exact hbk
  have d0 : w2.cell? ⟨b, 0, none⟩ = some (.pointer (some ⟨b, 0, none⟩)) := by rw [Lib.cell_of_heap hb2]; rfl
  have d1 : w2.cell? ⟨b, 1, none⟩ = some v := by rw [Lib.cell_of_heap hb2]; rfl
  have f1 : w2.frozen? ⟨b, 1, none⟩ = false := Lib.frozen_of_heap hb2 1
  obtain ⟨ao, n', cap, rfl⟩ : ∃ ao n' cap, v' = .slice ao n' cap := by
    rcases hown'.2 with ⟨hv, _⟩ | ⟨g, cap, cur, hv, _⟩
    · exact ⟨_, _, _, hv⟩
    · exact ⟨_, _, _, hv⟩
  have hk2 := KeepB.grown hk1 hown hgrow
  go_wp2
  go_ret2
  refine ⟨rfl, .inr ?_, ?_, hk2.set _ _⟩
  · exact Lib.BuilderAt.put (T := 228) (e := 5) hB hb2 (bs' := bs ++ Lib.strCells s) (by simpa [Lib.strCells_length] using hown') (by decide)
  · exact (hb1.grown hgrow (by have := hb1.size; omega) (fun k hk => (hown.lt k hk).1)).setCell (p := ⟨b, 1, none⟩) hB _
theorem IsB.far {B b p i : Nat} {bs : List Value} {w : World} {cs : Array Value} {T : TypeId} (h : IsB B b bs w) (hp : p ≠ b) (hT : T ≠ 5) (hb : Blk w p cs T) (x : Value) : IsB B b bs (w.setCell ⟨p, i, none⟩ x) := by
  have go : ∀ q, Lib.BuilderAt 228 5 B b q bs w → Lib.BuilderAt 228 5 B b q bs (w.setCell ⟨p, i, none⟩ x) := by
    intro q h
    obtain ⟨hB, v, hbk, hown, hne⟩ := h
    refine ⟨hB, v, Blk.far hbk _ _ (fun e => hp e), ?_, hne⟩
    refine (Only.set (Only.refl (fun i => i = p) w) (.inl rfl) x).own hown (fun g hg e => ?_)
    subst e
    rcases hown.2 with ⟨hv, _⟩ | ⟨g', cap, cur, hv, _, hk, _⟩
    · rw [hv] at hg; cases hg
    · rw [hv] at hg
      cases hg
      unfold Blk at hb
      rw [hb] at hk
      cases hk
      exact hT rfl
  exact h.elim (fun h => .inl (go _ h)) (fun h => .inr (go _ h))
set_option maxRecDepth 100000 in
theorem builderLen (B b : Nat) (bs : List Value) (w : World) (h : IsB B b bs w) :
    Calls Tryz.prog 166 #[.pointer (some ⟨b, 0, none⟩)] w fun e w' => e = .returned (.int .i64 bs.length) ∧ w = w' := by
  obtain ⟨p, v, hk, ho⟩ : ∃ p v, Blk w b #[p, v] 228 ∧ w.ownsRow B 5 1 v bs.length bs := by
    rcases h with ⟨_, v, h1, h2, _⟩ | ⟨_, v, h1, h2, _⟩
    · exact ⟨_, v, h1, h2⟩
    · exact ⟨_, v, h1, h2⟩
  obtain ⟨ao, cap, rfl⟩ : ∃ ao cap, v = .slice ao bs.length cap := by
    rcases ho.2 with ⟨hv, h0⟩ | ⟨g, cap, cur, hv, _⟩
    · exact ⟨none, 0, by rw [hv, h0]⟩
    · exact ⟨_, _, hv⟩
  have c1 : w.cell? ⟨b, 1, none⟩ = some (.slice ao bs.length cap) := hk.cell 1 rfl
  go_enter Tryz.func166, Tryz.ntmps166
  go_wp2
  go_ret
  exact ⟨rfl, rfl⟩
end Go.Proofs.YtnfcdccdmlodeaaGreatDoor
