/- Merged out of Quote Value Cursor CurQ CurR CurRQ. -/
import Derived.Test.YtnggicpmncokdaaGreatDoorFound
import Derived.Test.YtnggicpmncokdaaGreatDoorFoun2
import Derived.Test.YtnggicpmncokdaaGreatDoorErrs
import Derived.Deep.QuietTactic
import Derived.BigQuiet
import Derived.Deep.RegionHeld3
import Derived.Deep.RegionWith
/- token.Quote and the reference's Quote: a text between marks. -/
namespace Go.Proofs.YtnggicpmncokdaaGreatDoor
open Go.RowKit

theorem refTextByte (c : UInt8) (w : World) : Calls Tryz.prog 134 #[.int .u8 c.toNat] w fun e w' => e = .returned (.bool (textB c)) ∧ w = w' := by
  have hb := bd8 c
  go_enter Tryz.func134, Tryz.ntmps134
  go_wp2
  all_goals go_ret
  all_goals
    refine ⟨ret_bool ?_, rfl⟩
    unfold textB
    rw [Bool.eq_iff_iff]
    simp
    try omega

/-- a byte as it stands between marks -/
def esc (c : UInt8) : List UInt8 := if c.toNat = 34 ∨ c.toNat = 92 then [92, c] else [c]
def escs (l : List UInt8) : List UInt8 := l.flatMap esc
theorem escs_succ (l : List UInt8) (k : Nat) (h : k < l.length) : escs (l.take (k + 1)) = escs (l.take k) ++ esc l[k] := by
  unfold escs; rw [List.take_succ_eq_append_getElem h, List.flatMap_append]; simp
theorem escs_len (l : List UInt8) : (escs l).length ≤ 2 * l.length := by
  induction l with
  | nil => simp [escs]
  | cons c l ih =>
    have : (esc c).length ≤ 2 := by unfold esc; split <;> simp
    simp only [escs, List.flatMap_cons, List.length_append, List.length_cons] at *
    omega
theorem escs_take_len (l : List UInt8) (k : Nat) (h : k ≤ l.length) : (escs (l.take k)).length ≤ 2 * k := by
  have := escs_len (l.take k); rw [List.length_take, Nat.min_eq_left h] at this; exact this
/-- between marks -/
def quoted (l : List UInt8) : List UInt8 := 34 :: (escs l ++ [34])
def quotable (l : List UInt8) : Bool := l.all textB

theorem ret2 {a a' b b' : Value} (h : a = a') (h' : b = b') : Ending.returned (.tuple #[a, b]) = .returned (.tuple #[a', b']) := by rw [h, h']

def quoteRes (l : List UInt8) (bad good : Value) : Value := if quotable l then .tuple #[.string ⟨(quoted l).toArray⟩, good] else .tuple #[.string ⟨#[]⟩, bad]

theorem ext_one (s : ByteArray) (k : Nat) (h : k < s.size) : s.extract k (k + 1) = ⟨#[s[k]]⟩ := by
  have h' : k < s.data.toList.length := by rw [← size_data]; exact h
  rw [Lib.extract_eq]
  congr 1
  rw [show k + 1 - k = 1 by omega, List.drop_eq_getElem_cons h', data_getElem s k h h']
  rfl

end Go.Proofs.YtnggicpmncokdaaGreatDoor
/- token.Value and the reference's: a text as it is, if it is a word, else between marks. -/
namespace Go.Proofs.YtnggicpmncokdaaGreatDoor
open Go.RowKit

def valueRes (s : ByteArray) (bad good : Value) : Value := if tokW s.data.toList then .tuple #[.string s, good] else quoteRes s.data.toList bad good

theorem escs_len' (l : List UInt8) : (quoted l).length ≤ 2 * l.length + 2 := by
  have := escs_len l
  unfold quoted
  simp only [List.length_cons, List.length_append, List.length_nil]
  omega
/-- what a value is: a text (not much longer), or no value. -/
theorem valueRes_cases (s : ByteArray) : (∃ x : ByteArray, x.size ≤ 2 * s.size + 2 ∧ ∀ bad good, valueRes s bad good = .tuple #[.string x, good]) ∨ (∀ bad good, valueRes s bad good = .tuple #[.string ⟨#[]⟩, bad]) := by
  unfold valueRes quoteRes
  cases tokW s.data.toList
  · cases quotable s.data.toList
    · exact .inr fun _ _ => rfl
    · refine .inl ⟨_, ?_, fun _ _ => rfl⟩
      have := escs_len' s.data.toList
      rw [Lib.size_eq, Lib.size_eq]
      exact this
  · exact .inl ⟨s, by omega, fun _ _ => rfl⟩

end Go.Proofs.YtnggicpmncokdaaGreatDoor
/- token.Cursor's methods: At, End, Go, Blanks, Mark, Word. -/
namespace Go.Proofs.YtnggicpmncokdaaGreatDoor
open Go.RowKit

theorem quiet_left' {P : Program} {f : FuncId} {args : Array Value} {w : World} {n : Nat} {v : Value}
    (h : Calls P f args (w.drewN n) fun e w' => e = .returned v ∧ w.drewN n = w') : Calls P f args (w.drewN n) fun e w'' => e = .returned v ∧ ∃ m, w'' = w.drewN m :=
  h.mono fun _ _ ⟨he, hm⟩ => ⟨he, n, hm.symm⟩
/-- A cursor's block: its text and its place. -/
def CurAt (T : TypeId) (w : World) (p : Nat) (s : ByteArray) (k : Nat) : Prop := Blk w p #[.string s, .int .i64 (k : Int)] T
section
variable {T : TypeId} {w w' : World} {p : Nat} {s : ByteArray} {k : Nat}
theorem CurAt.c0 (h : CurAt T w p s k) : w.cell? ⟨p, 0, none⟩ = some (.string s) := Blk.cell h 0 rfl
theorem CurAt.c1 (h : CurAt T w p s k) : w.cell? ⟨p, 1, none⟩ = some (.int .i64 (k : Int)) := Blk.cell h 1 rfl
theorem CurAt.f1 (h : CurAt T w p s k) : w.frozen? ⟨p, 1, none⟩ = false := Blk.free h 1
theorem CurAt.put (h : CurAt T w p s k) (j : Nat) : CurAt T (w.setCell ⟨p, 1, none⟩ (.int .i64 (j : Int))) p s j := Blk.set h 1 _
theorem CurAt.drewN (h : CurAt T w p s k) (n : Nat) : CurAt T (w.drewN n) p s k := h
theorem CurAt.later (h : CurAt T w p s k) (hb : Below w.heap.size w w') : CurAt T w' p s k := Blk.later h hb
theorem CurAt.grown (h : CurAt T w p s k) {q : Nat} (hg : w.grownBy w' (some q)) (hne : q ≠ p) : CurAt T w' p s k := Blk.grown h hg (by simpa using hne)
theorem CurAt.lt (h : CurAt T w p s k) : p < w.heap.size := Blk.lt h
end
/-- what a method of a cursor leaves: its result, its place, and nothing else turned -/
def CurPost (T : TypeId) (w : World) (p : Nat) (s : ByteArray) (v : Value) (k : Nat) (e : Ending) (w' : World) : Prop := e = .returned v ∧ CurAt T w' p s k ∧ w.grownBy w' (some p)

/-- where Go goes to -/
def clampAt (s : ByteArray) (n : Int) : Nat := (max 0 (min n (s.size : Int))).toNat
theorem clampAt_le (s : ByteArray) (n : Int) : clampAt s n ≤ s.size := by unfold clampAt; omega

abbrev tC : TypeId := 145

set_option maxRecDepth 100000 in
theorem tokenEnd (w : World) (p : Nat) (s : ByteArray) (k : Nat) (h : CurAt tC w p s k) :
    Calls Tryz.prog 110 #[.pointer (some ⟨p, 0, none⟩)] w fun e w' => e = .returned (.bool (decide (s.size ≤ k))) ∧ ∃ n, w' = w.drewN n := by
  have c0 := h.c0
  have c1 := h.c1
  go_enter Tryz.func110, Tryz.ntmps110
  go_wp2
  go_quiet (fail)
  go_wp2
  go_ret
  exact ⟨ret_bool (by simp), ⟨_, rfl⟩⟩
set_option maxRecDepth 100000 in
theorem tokenMark (w : World) (p : Nat) (s : ByteArray) (k : Nat) (c : UInt8) (h : CurAt tC w p s k) (hs : s.size ≤ 1099511627776) :
    Calls Tryz.prog 111 #[.pointer (some ⟨p, 0, none⟩), .int .u8 c.toNat] w fun e w' => if hk : k < s.size then (if s[k] = c then CurPost tC w p s (.bool true) (k + 1) e w' else CurPost tC w p s (.bool false) k e w') else CurPost tC w p s (.bool false) k e w' := by
  have c0 := h.c0
  have c1 := h.c1
  have f1 := h.f1
  by_cases hk : k < s.size
  · have hd : decide (k < s.size) = true := by simpa using hk
    simp only [hk, dif_pos]
    have hc1 := bd8 s[k]
    by_cases hc : s[k] = c
    · have hb : (((s[k].toNat : Int)) == (c.toNat : Int)) = true := by rw [hc]; simp
      simp only [hc, if_true]
      have hh := Lib.hid hc
      clear hc
      go_enter Tryz.func111, Tryz.ntmps111
      go_wp2
      go_quiet (fail)
      go_wp2
      go_ret
      exact ⟨rfl, (h.drewN _).put (k + 1), only_setCell (only_drewN (only_refl _ _) _) (.inl rfl) _⟩
    · have hb : (((s[k].toNat : Int)) == (c.toNat : Int)) = false := by
        rw [beq_eq_false_iff_ne]; intro e; exact hc (UInt8.toNat.inj (by omega))
      simp only [hc, if_false]
      have hh := Lib.hid hc
      clear hc
      go_enter Tryz.func111, Tryz.ntmps111
      go_wp2
      go_quiet (fail)
      go_wp2
      go_ret
      exact ⟨rfl, h.drewN _, only_drewN (only_refl _ _) _⟩
  · have hd : decide (k < s.size) = false := by simpa using hk
    simp only [hk, dif_neg, not_false_eq_true]
    go_enter Tryz.func111, Tryz.ntmps111
    go_wp2
    go_quiet (fail)
    go_wp2
    go_ret
    exact ⟨rfl, h.drewN _, only_drewN (only_refl _ _) _⟩

theorem isBl_iff (c : UInt8) : isBl c = ((c.toNat : Int) == 32 || (c.toNat : Int) == 9) := by
  unfold isBl; rw [Bool.eq_iff_iff]; simp; omega
/-- so many blanks stand at k -/
def blanksN (s : ByteArray) (k : Nat) : Nat := (spanAt isBl s.data.toList k).length
theorem blanksN_le (s : ByteArray) (k : Nat) (h : k ≤ s.size) : k + blanksN s k ≤ s.size := by
  have := spanAt_len isBl s.data.toList k; rw [← sz_len] at this; unfold blanksN; omega
set_option maxRecDepth 100000 in
theorem tokenBlanks (w : World) (p : Nat) (s : ByteArray) (k : Nat) (h : CurAt tC w p s k) (hs : s.size ≤ 1099511627776) (hk : k ≤ s.size) :
    Calls Tryz.prog 108 #[.pointer (some ⟨p, 0, none⟩)] w (CurPost tC w p s (.bool (decide (0 < blanksN s k))) (k + blanksN s k)) := by
  have c1 := h.c1
  go_enter Tryz.func108, Tryz.ntmps108
  go_wp2
  clear c1
  go_loopg [] (s.size - k) (fun g wr => ∃ j, k ≤ j ∧ j ≤ s.size ∧ Hid (g = s.size - j) ∧ Hid (CurAt tC wr p s j) ∧ Hid (w.grownBy wr (some p)) ∧ Hid ((spanAt isBl s.data.toList k).length = (j - k) + (spanAt isBl s.data.toList j).length))
  case atStart => exact ⟨k, Nat.le_refl _, hk, Lib.hid rfl, Lib.hid h, Lib.hid (only_refl _ _), Lib.hid (by omega)⟩
  case round =>
    obtain ⟨j, hkj, hj, hg, hC, hG, hspan⟩ := hrel
    have c0 := hC.out.c0
    have c1 := hC.out.c1
    have f1 := hC.out.f1
    by_cases hlt : j < s.size
    · have hl : j < s.data.toList.length := by rw [← sz_len]; exact hlt
      have hd : decide (j < s.size) = true := by simpa using hlt
      have hbd := bd8 s[j]
      by_cases hb : isBl s[j] = true
      · have hgo := spanAt_go hl (by rw [at_list s j hlt hl]; exact hb)
        have hgo' := Lib.hid hgo
        clear hgo
        have hj1 : Hid ((spanAt isBl s.data.toList k).length = (j + 1 - k) + (spanAt isBl s.data.toList (j + 1)).length) := Lib.hid (by rw [hspan.out, hgo'.out, List.length_cons]; omega)
        rw [isBl_iff] at hb
        cases hb1 : ((s[j].toNat : Int) == 32)
        · have hb2 : ((s[j].toNat : Int) == 9) = true := by rw [hb1] at hb; simpa using hb
          clear hb
          go_wp2
          go_quiet (fail)
          go_wp2
          go_roundg (s.size - (j + 1))
          case rel => exact ⟨j + 1, by omega, by omega, Lib.hid rfl, Lib.hid ((hC.out.drewN _).put (j + 1)), Lib.hid (only_setCell (only_drewN hG.out _) (.inl rfl) _), hj1⟩
          case measure => have := hg.out; omega
        · clear hb
          go_wp2
          go_quiet (fail)
          go_wp2
          go_roundg (s.size - (j + 1))
          case rel => exact ⟨j + 1, by omega, by omega, Lib.hid rfl, Lib.hid ((hC.out.drewN _).put (j + 1)), Lib.hid (only_setCell (only_drewN hG.out _) (.inl rfl) _), hj1⟩
          case measure => have := hg.out; omega
      · have hb' : isBl s[j] = false := by simpa using hb
        have hst : Hid (spanAt isBl s.data.toList j = []) := Lib.hid (spanAt_stop hl (by rw [at_list s j hlt hl]; exact hb'))
        rw [isBl_iff] at hb'
        have hb1 : ((s[j].toNat : Int) == 32) = false := by revert hb'; cases ((s[j].toNat : Int) == 32) <;> simp
        have hb2 : ((s[j].toNat : Int) == 9) = false := by revert hb'; cases ((s[j].toNat : Int) == 9) <;> simp
        clear hb hb'
        have hn : Hid (blanksN s k = j - k) := Lib.hid (by unfold blanksN; rw [hspan.out, hst.out]; simp)
        go_wp2
        go_quiet (fail)
        go_wp2
        go_ret
        exact ⟨ret_bool (by rw [hn.out]; simp; omega), by rw [hn.out, show k + (j - k) = j by omega]; exact hC.out.drewN _, only_drewN hG.out _⟩
    · have hd : decide (j < s.size) = false := by simpa using hlt
      have hst : Hid (spanAt isBl s.data.toList j = []) := Lib.hid (spanAt_end (by rw [← sz_len]; omega))
      have hn : Hid (blanksN s k = j - k) := Lib.hid (by unfold blanksN; rw [hspan.out, hst.out]; simp)
      go_wp2
      go_quiet (fail)
      go_wp2
      go_ret
      exact ⟨ret_bool (by rw [hn.out]; simp; omega), by rw [hn.out, show k + (j - k) = j by omega]; exact hC.out.drewN _, only_drewN hG.out _⟩

/-- the word at k -/
def wordAt (s : ByteArray) (k : Nat) : List UInt8 := spanAt tokB s.data.toList k
theorem wordAt_le (s : ByteArray) (k : Nat) (h : k ≤ s.size) : k + (wordAt s k).length ≤ s.size := by
  have := spanAt_len tokB s.data.toList k; rw [← sz_len] at this; unfold wordAt; omega
theorem extract_word (s : ByteArray) (k j : Nat) (h : k + (wordAt s k).length = j) : s.extract k j = ⟨(wordAt s k).toArray⟩ := by
  apply ba_eq
  rw [Lib.extract_data, ← h, show k + (wordAt s k).length - k = (wordAt s k).length by omega]
  exact spanAt_take _ _ _
set_option maxRecDepth 100000 in
theorem tokenWord (w : World) (p : Nat) (s : ByteArray) (k : Nat) (h : CurAt tC w p s k) (hs : s.size ≤ 1099511627776) (hk : k ≤ s.size) :
    Calls Tryz.prog 109 #[.pointer (some ⟨p, 0, none⟩)] w (CurPost tC w p s (.string ⟨(wordAt s k).toArray⟩) (k + (wordAt s k).length)) := by
  have c1 := h.c1
  go_enter Tryz.func109, Tryz.ntmps109
  go_wp2
  clear c1
  go_loopg [] (s.size - k) (fun g wr => ∃ j, k ≤ j ∧ j ≤ s.size ∧ Hid (g = s.size - j) ∧ Hid (CurAt tC wr p s j) ∧ Hid (w.grownBy wr (some p)) ∧ Hid ((spanAt tokB s.data.toList k).length = (j - k) + (spanAt tokB s.data.toList j).length))
  case atStart => exact ⟨k, Nat.le_refl _, hk, Lib.hid rfl, Lib.hid h, Lib.hid (only_refl _ _), Lib.hid (by omega)⟩
  case round =>
    obtain ⟨j, hkj, hj, hg, hC, hG, hspan⟩ := hrel
    have c0 := hC.out.c0
    have c1 := hC.out.c1
    have f1 := hC.out.f1
    by_cases hlt : j < s.size
    · have hl : j < s.data.toList.length := by rw [← sz_len]; exact hlt
      have hd : decide (j < s.size) = true := by simpa using hlt
      cases hb : tokB s[j]
      · have hst : Hid (spanAt tokB s.data.toList j = []) := Lib.hid (spanAt_stop hl (by rw [at_list s j hlt hl]; exact hb))
        have hn : Hid (k + (wordAt s k).length = j) := Lib.hid (by unfold wordAt; rw [hspan.out, hst.out]; simp; omega)
        have hx := Lib.hid (extract_word s k j hn.out)
        have hsl : (k : Int) ≤ (j : Int) := by omega
        go_wp2
        go_quiet ((go_at_call 136; exact quiet_left' (tokenByte _ _)))
        go_wp2
        go_quiet (fail)
        go_wp2
        go_ret
        exact ⟨by rw [← hx.out]; rfl, by rw [hn.out]; exact (hC.out.drewN _).drewN _, only_drewN (only_drewN hG.out _) _⟩
      · have hgo := spanAt_go hl (by rw [at_list s j hlt hl]; exact hb)
        have hgo' := Lib.hid hgo
        clear hgo
        have hj1 : Hid ((spanAt tokB s.data.toList k).length = (j + 1 - k) + (spanAt tokB s.data.toList (j + 1)).length) := Lib.hid (by rw [hspan.out, hgo'.out, List.length_cons]; omega)
        go_wp2
        go_quiet ((go_at_call 136; exact quiet_left' (tokenByte _ _)))
        go_wp2
        go_roundg (s.size - (j + 1))
        case rel => exact ⟨j + 1, by omega, by omega, Lib.hid rfl, Lib.hid ((hC.out.drewN _).put (j + 1)), Lib.hid (only_setCell (only_drewN hG.out _) (.inl rfl) _), hj1⟩
        case measure => have := hg.out; omega
    · have hd : decide (j < s.size) = false := by simpa using hlt
      have hst : Hid (spanAt tokB s.data.toList j = []) := Lib.hid (spanAt_end (by rw [← sz_len]; omega))
      have hn : Hid (k + (wordAt s k).length = j) := Lib.hid (by unfold wordAt; rw [hspan.out, hst.out]; simp; omega)
      have hx := Lib.hid (extract_word s k j hn.out)
      have hsl : (k : Int) ≤ (j : Int) := by omega
      go_wp2
      go_quiet (fail)
      go_wp2
      go_quiet (fail)
      go_wp2
      go_ret
      exact ⟨by rw [← hx.out]; rfl, by rw [hn.out]; exact (hC.out.drewN _).drewN _, only_drewN (only_drewN hG.out _) _⟩
end Go.Proofs.YtnggicpmncokdaaGreatDoor
/- token.Cursor's Quoted: the text between marks. -/
namespace Go.Proofs.YtnggicpmncokdaaGreatDoor
open Go.RowKit

theorem tokenMark_yes (w : World) (p : Nat) (s : ByteArray) (k : Nat) (c : UInt8) (h : CurAt tC w p s k) (hs : s.size ≤ 1099511627776) (hk : k < s.size) (hc : s[k] = c) :
    Calls Tryz.prog 111 #[.pointer (some ⟨p, 0, none⟩), .int .u8 c.toNat] w (CurPost tC w p s (.bool true) (k + 1)) := by
  refine (tokenMark w p s k c h hs).mono fun e w' hh => ?_
  rw [dif_pos hk, if_pos hc] at hh
  exact hh
theorem tokenMark_no (w : World) (p : Nat) (s : ByteArray) (k : Nat) (c : UInt8) (h : CurAt tC w p s k) (hs : s.size ≤ 1099511627776) (hn : ∀ hk : k < s.size, s[k] ≠ c) :
    Calls Tryz.prog 111 #[.pointer (some ⟨p, 0, none⟩), .int .u8 c.toNat] w (CurPost tC w p s (.bool false) k) := by
  refine (tokenMark w p s k c h hs).mono fun e w' hh => ?_
  by_cases hk : k < s.size
  · rw [dif_pos hk, if_neg (hn hk)] at hh
    exact hh
  · rw [dif_neg hk] at hh
    exact hh
/-- a row of bytes as a text -/
theorem own_text {w : World} {base : Nat} {v : Value} {l : List UInt8} (h : OwnB w base v l) : (convert 106 9 v).run Tryz.prog w = .ok (.string ⟨l.toArray⟩) w := by
  by_cases h0 : l = []
  · subst h0
    obtain ⟨h1, h2⟩ := h
    rcases h2 with ⟨rfl, _⟩ | ⟨g, cap, cur, rfl, _⟩
    · rw [run_convert_bytes_string (P := Tryz.prog) w 106 9 5 none 0 0 Tryz.underlying106 Tryz.underlying5 Tryz.underlying9]
      rfl
    · exact run_convert_bytes_back (P := Tryz.prog) w 106 9 5 ⟨g, 0, none⟩ cap [] Tryz.underlying106 Tryz.underlying5 Tryz.underlying9 (fun j hj => by simp at hj)
  · obtain ⟨g, cap, rfl, hc⟩ := h.shape h0
    exact run_convert_bytes_back (P := Tryz.prog) w 106 9 5 ⟨g, 0, none⟩ cap l Tryz.underlying106 Tryz.underlying5 Tryz.underlying9 hc
theorem OwnB.drewN {w : World} {base : Nat} {v : Value} {l : List UInt8} (h : OwnB w base v l) (n : Nat) : OwnB (w.drewN n) base v l := h.later (below_drewN (Below.refl _ _) n)
/-- a store into an old block leaves a row of the call's own alone -/
theorem OwnB.far {w : World} {base : Nat} {v : Value} {l : List UInt8} (h : OwnB w base v l) (p : Nat) (hp : p < base) (i : Nat) (u : Value) : OwnB (w.setCell ⟨p, i, none⟩ u) base v l := by
  refine World.ownsRow.kept h (only_setCell (only_refl w (some p)) (.inl rfl) u) ?_
  cases hv : v.ownBlock with
  | none => exact .inl rfl
  | some g =>
    right
    intro e
    have := (World.ownsRow.lt h g hv).1
    have e' : g = p := by injection e
    omega

/-- what Quoted leaves -/
def QPost (T : TypeId) (w : World) (p : Nat) (s : ByteArray) (k : Nat) (e : Ending) (w' : World) : Prop :=
  match quotedAt s.data.toList k with
  | some x => CurPost T w p s (.tuple #[.string ⟨x.1.toArray⟩, .bool true]) x.2 e w'
  | none => CurPost T w p s (.tuple #[.string ⟨#[]⟩, .bool false]) k e w'
theorem QPost.some {T : TypeId} {w w' : World} {p : Nat} {s : ByteArray} {k : Nat} {e : Ending} {x : List UInt8 × Nat} (h : quotedAt s.data.toList k = .some x) (hp : CurPost T w p s (.tuple #[.string ⟨x.1.toArray⟩, .bool true]) x.2 e w') : QPost T w p s k e w' := by
  unfold QPost; rw [h]; exact hp
theorem QPost.none {T : TypeId} {w w' : World} {p : Nat} {s : ByteArray} {k : Nat} {e : Ending} (h : quotedAt s.data.toList k = .none) (hp : CurPost T w p s (.tuple #[.string ⟨#[]⟩, .bool false]) k e w') : QPost T w p s k e w' := by
  unfold QPost; rw [h]; exact hp

theorem OwnB.text {w : World} {base : Nat} {v : Value} {l : List UInt8} (h : OwnB w base v l) (j n : Nat) (p : Nat) (hp : p < base) (u : Value) : (convert 106 9 v).run Tryz.prog ((w.drewN n).setCell ⟨p, j, none⟩ u) = .ok (.string ⟨l.toArray⟩) ((w.drewN n).setCell ⟨p, j, none⟩ u) :=
  own_text ((h.drewN n).far p hp j u)
theorem wpList_append_byte' {ops : Array Oper} {rest : List Oper} {o : Oper} {a : Act} {Q : Exit → Act → World → Prop} (hgd : o.guard = none) (s x : Operand)
    (ho : o.op = .call { callee := .builtin .append, args := #[s, x], argTypes := #[106, 106] })
    (w : World) (base : Nat) (v : Value) (l : List UInt8) (hs : a.eval s = v) (hown : OwnB w base v l) (c : UInt8) (n : Int) (hn : n = (c.toNat : Int))
    (b : Nat) (hx : a.eval x = .slice (some ⟨b, 0, none⟩) 1 1) (hb : b = w.heap.size) (hl : l.length + 1 ≤ 140737488355328) (hbase : base ≤ w.heap.size)
    (h : ∀ v' w', OwnB w' base v' (l ++ [c]) → (w.alloc (.cells #[.int .u8 n] 5)).grownBy w' v.ownBlock → wpList Tryz.prog ops Q rest (a.put o.dst v') w') :
    wpList Tryz.prog ops Q (o :: rest) a (w.alloc (.cells #[.int .u8 n] 5)) := by
  subst hb
  exact wpList_append_byte hgd s x ho w base v l hs hown c n hn hx hl hbase h
theorem quoted_step {w w' w2 : World} {p : Nat} {s : ByteArray} {j : Nat} {acc : List UInt8} {v : Value} {o : Obj} (hC : CurAt tC w' p s j) (hG : w.grownBy w' (some p)) (hO : OwnB w' w.heap.size v acc) (hpw : p < w.heap.size) (hg1 : (w'.alloc o).grownBy w2 v.ownBlock) :
    CurAt tC w2 p s j ∧ w.grownBy w2 (some p) := by
  have hlt : ∀ g, v.ownBlock = some g → w.heap.size ≤ g := fun g hg => (World.ownsRow.lt hO g hg).1
  refine ⟨Blk.grown (Blk.alloc hC o) hg1 (fun e => ?_), only_grown (only_alloc hG o) hg1 (fun g hg => .inr (hlt g hg))⟩
  have := hlt p e
  omega
theorem drop_cons (s : ByteArray) (j : Nat) (h : j < s.size) : s.data.toList.drop j = s[j] :: s.data.toList.drop (j + 1) := by
  have hl : j < s.data.toList.length := by rw [← sz_len]; exact h
  rw [List.drop_eq_getElem_cons hl, at_list s j h hl]
end Go.Proofs.YtnggicpmncokdaaGreatDoor
/- The reference's cursor: Go, Blanks, Mark, Word. -/
namespace Go.Proofs.YtnggicpmncokdaaGreatDoor
open Go.RowKit

theorem blank_cut (c : UInt8) : ([32, 9] : List UInt8).contains c = isBl c := by
  have h : ∀ n : Fin 256, ([32, 9] : List UInt8).contains (UInt8.ofNat n.val) = isBl (UInt8.ofNat n.val) := by decide +kernel
  simpa using h ⟨c.toNat, c.toNat_lt⟩
theorem trim_blanks (s : ByteArray) (k : Nat) : (Lib.trimLeftS (s.extract k s.size).data.toList [32, 9]).length + blanksN s k = s.size - k := by
  unfold Lib.trimLeftS blanksN spanAt
  rw [show (fun c : UInt8 => ([32, 9] : List UInt8).contains c) = isBl from funext blank_cut, Lib.extract_to_end]
  have := congrArg List.length (List.takeWhile_append_dropWhile (p := isBl) (l := s.data.toList.drop k))
  rw [List.length_append, List.length_drop, ← sz_len] at this
  omega
theorem mkC {w : World} {T : TypeId} {p : Nat} {s : ByteArray} {k : Nat} (h : CurAt T w p s k) (w' : World) (hB : Below w.heap.size w w') : Below w.heap.size w w' ∧ w'.cell? ⟨p, 0, none⟩ = some (.string s) ∧ w'.cell? ⟨p, 1, none⟩ = some (.int .i64 (k : Int)) :=
  ⟨hB, (h.later hB).c0, (h.later hB).c1⟩
/-- what Mark leaves -/
def MarkPost (T : TypeId) (w : World) (p : Nat) (s : ByteArray) (k : Nat) (c : UInt8) (e : Ending) (w' : World) : Prop :=
  if hk : k < s.size then (if s[k] = c then CurPost T w p s (.bool true) (k + 1) e w' else CurPost T w p s (.bool false) k e w') else CurPost T w p s (.bool false) k e w'
end Go.Proofs.YtnggicpmncokdaaGreatDoor
/- The reference's quoted, and its cursor's Quoted. -/
namespace Go.Proofs.YtnggicpmncokdaaGreatDoor
open Go.RowKit

/-- what quoted returns -/
def quotedRes (l : List UInt8) : Value := match quotedAt l 0 with
  | some x => .tuple #[.string ⟨x.1.toArray⟩, .int .i64 (x.2 : Int)]
  | none => .tuple #[.string ⟨#[]⟩, .int .i64 0]
theorem quotedRes_some {l : List UInt8} {x : List UInt8 × Nat} (h : quotedAt l 0 = some x) : quotedRes l = .tuple #[.string ⟨x.1.toArray⟩, .int .i64 (x.2 : Int)] := by unfold quotedRes; rw [h]
theorem quotedRes_none {l : List UInt8} (h : quotedAt l 0 = none) : quotedRes l = .tuple #[.string ⟨#[]⟩, .int .i64 0] := by unfold quotedRes; rw [h]
theorem ret2i {a b : ByteArray} {m n : Int} (h : a = b) (h' : m = n) : Ending.returned (.tuple #[.string a, .int .i64 m]) = .returned (.tuple #[.string b, .int .i64 n]) := by rw [h, h']

theorem quotedAt_shift (l : List UInt8) (k : Nat) (hk : k ≤ l.length) : quotedAt l k = (quotedAt (l.drop k) 0).map (fun x => (x.1, k + x.2)) := by
  unfold quotedAt
  rw [List.drop_zero]
  cases hd : l.drop k with
  | nil => rfl
  | cons c r =>
    have hlen := congrArg List.length hd
    rw [List.length_drop, List.length_cons] at hlen
    simp only
    split
    · cases hg : qgo r [] with
      | none => rfl
      | some x =>
        have := qgo_len _ _ _ _ (Nat.le_refl _) hg
        simp only [Option.map_some, List.length_cons]
        congr 2
        omega
    · rfl
end Go.Proofs.YtnggicpmncokdaaGreatDoor
