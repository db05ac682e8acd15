/- token.Cursor's methods: At, End, Go, Blanks, Mark, Word. -/
import Derived.Test.YtfkflgcifddnnaaDoorBlk
import Derived.Test.YtfkflgcifddnnaaDoorCurP
import Derived.Test.YtfkflgcifddnnaaDoorStr
import Derived.Deep.QuietTactic
import Derived.BigQuiet
namespace Go.Proofs.YtfkflgcifddnnaaDoor
open Go.RowKit

theorem quiet_left' {P : Program} {f : FuncId} {args : Array Value} {w : World} {n : Nat} {v : Value}
    (h : Calls P f args (w.drewN n) fun e w' => e = .returned v ∧ w.drewN n = w') : Calls P f args (w.drewN n) fun e w'' => e = .returned v ∧ ∃ m, w'' = w.drewN m :=
  h.mono fun _ _ ⟨he, hm⟩ => ⟨he, n, hm.symm⟩
/-- A cursor's block: its text and its place. -/
def CurAt (T : TypeId) (w : World) (p : Nat) (s : ByteArray) (k : Nat) : Prop := Blk w p #[.string s, .int .i64 (k : Int)] T
section
variable {T : TypeId} {w w' : World} {p : Nat} {s : ByteArray} {k : Nat}
theorem CurAt.c0 (h : CurAt T w p s k) : w.cell? ⟨p, 0, none⟩ = some (.string s) := Blk.cell h 0 rfl
theorem CurAt.c1 (h : CurAt T w p s k) : w.cell? ⟨p, 1, none⟩ = some (.int .i64 (k : Int)) := Blk.cell h 1 rfl
theorem CurAt.f1 (h : CurAt T w p s k) : w.frozen? ⟨p, 1, none⟩ = false := Blk.free h 1
theorem CurAt.put (h : CurAt T w p s k) (j : Nat) : CurAt T (w.setCell ⟨p, 1, none⟩ (.int .i64 (j : Int))) p s j := Blk.set h 1 _
theorem CurAt.drewN (h : CurAt T w p s k) (n : Nat) : CurAt T (w.drewN n) p s k := h
theorem CurAt.later (h : CurAt T w p s k) (hb : Below w.heap.size w w') : CurAt T w' p s k := Blk.later h hb
theorem CurAt.grown (h : CurAt T w p s k) {q : Nat} (hg : w.grownBy w' (some q)) (hne : q ≠ p) : CurAt T w' p s k := Blk.grown h hg (by simpa using hne)
theorem CurAt.lt (h : CurAt T w p s k) : p < w.heap.size := Blk.lt h
end
/-- what a method of a cursor leaves: its result, its place, and nothing else turned -/
def CurPost (T : TypeId) (w : World) (p : Nat) (s : ByteArray) (v : Value) (k : Nat) (e : Ending) (w' : World) : Prop := e = .returned v ∧ CurAt T w' p s k ∧ w.grownBy w' (some p)

/-- where Go goes to -/
def clampAt (s : ByteArray) (n : Int) : Nat := (max 0 (min n (s.size : Int))).toNat
theorem clampAt_le (s : ByteArray) (n : Int) : clampAt s n ≤ s.size := by unfold clampAt; omega

abbrev tC : TypeId := 215

set_option maxRecDepth 100000 in
theorem tokenAt (w : World) (p : Nat) (s : ByteArray) (k : Nat) (h : CurAt tC w p s k) :
    Calls Tryd.prog 152 #[.pointer (some ⟨p, 0, none⟩)] w fun e w' => e = .returned (.int .i64 (k : Int)) ∧ w' = w := by
  have c1 := h.c1
  go_enter Tryd.func152, Tryd.ntmps152
  go_wp2
  go_ret
  exact ⟨rfl, rfl⟩
set_option maxRecDepth 100000 in
theorem tokenEnd (w : World) (p : Nat) (s : ByteArray) (k : Nat) (h : CurAt tC w p s k) :
    Calls Tryd.prog 87 #[.pointer (some ⟨p, 0, none⟩)] w fun e w' => e = .returned (.bool (decide (s.size ≤ k))) ∧ ∃ n, w' = w.drewN n := by
  have c0 := h.c0
  have c1 := h.c1
  go_enter Tryd.func87, Tryd.ntmps87
  go_wp2
  go_quiet (fail)
  go_wp2
  go_ret
  exact ⟨ret_bool (by simp), ⟨_, rfl⟩⟩
set_option maxRecDepth 100000 in
theorem tokenGo (w : World) (p : Nat) (s : ByteArray) (k : Nat) (n : Int) (h : CurAt tC w p s k) (hs : s.size ≤ 1099511627776) :
    Calls Tryd.prog 197 #[.pointer (some ⟨p, 0, none⟩), .int .i64 n] w (CurPost tC w p s (.tuple #[]) (clampAt s n)) := by
  have c0 := h.c0
  have c1 := h.c1
  have f1 := h.f1
  go_enter Tryd.func197, Tryd.ntmps197
  go_wp2
  go_end0
  refine ⟨rfl, ?_, only_setCell (only_refl _ _) (.inl rfl) _⟩
  have := h.put (clampAt s n)
  rw [show ((clampAt s n : Nat) : Int) = max 0 (min n (s.size : Int)) by unfold clampAt; omega] at this
  exact this
set_option maxRecDepth 100000 in
theorem tokenMark (w : World) (p : Nat) (s : ByteArray) (k : Nat) (c : UInt8) (h : CurAt tC w p s k) (hs : s.size ≤ 1099511627776) :
    Calls Tryd.prog 151 #[.pointer (some ⟨p, 0, none⟩), .int .u8 c.toNat] w fun e w' => if hk : k < s.size then (if s[k] = c then CurPost tC w p s (.bool true) (k + 1) e w' else CurPost tC w p s (.bool false) k e w') else CurPost tC w p s (.bool false) k e w' := by
  have c0 := h.c0
  have c1 := h.c1
  have f1 := h.f1
  by_cases hk : k < s.size
  · have hd : decide (k < s.size) = true := by simpa using hk
    simp only [hk, dif_pos]
    have hc1 := bd8 s[k]
    by_cases hc : s[k] = c
    · have hb : (((s[k].toNat : Int)) == (c.toNat : Int)) = true := by rw [hc]; simp
      simp only [hc, if_true]
      have hh := Lib.hid hc
      clear hc
      go_enter Tryd.func151, Tryd.ntmps151
      go_wp2
      go_quiet (fail)
      go_wp2
      go_ret
      exact ⟨rfl, (h.drewN _).put (k + 1), only_setCell (only_drewN (only_refl _ _) _) (.inl rfl) _⟩
    · have hb : (((s[k].toNat : Int)) == (c.toNat : Int)) = false := by
        rw [beq_eq_false_iff_ne]; intro e; exact hc (UInt8.toNat.inj (by omega))
      simp only [hc, if_false]
      have hh := Lib.hid hc
      clear hc
      go_enter Tryd.func151, Tryd.ntmps151
      go_wp2
      go_quiet (fail)
      go_wp2
      go_ret
      exact ⟨rfl, h.drewN _, only_drewN (only_refl _ _) _⟩
  · have hd : decide (k < s.size) = false := by simpa using hk
    simp only [hk, dif_neg, not_false_eq_true]
    go_enter Tryd.func151, Tryd.ntmps151
    go_wp2
    go_quiet (fail)
    go_wp2
    go_ret
    exact ⟨rfl, h.drewN _, only_drewN (only_refl _ _) _⟩

theorem isBl_iff (c : UInt8) : isBl c = ((c.toNat : Int) == 32 || (c.toNat : Int) == 9) := by
  unfold isBl; rw [Bool.eq_iff_iff]; simp; omega
/-- so many blanks stand at k -/
def blanksN (s : ByteArray) (k : Nat) : Nat := (spanAt isBl s.data.toList k).length
theorem blanksN_le (s : ByteArray) (k : Nat) (h : k ≤ s.size) : k + blanksN s k ≤ s.size := by
  have := spanAt_len isBl s.data.toList k; rw [← sz_len] at this; unfold blanksN; omega
set_option maxRecDepth 100000 in
theorem tokenBlanks (w : World) (p : Nat) (s : ByteArray) (k : Nat) (h : CurAt tC w p s k) (hs : s.size ≤ 1099511627776) (hk : k ≤ s.size) :
    Calls Tryd.prog 150 #[.pointer (some ⟨p, 0, none⟩)] w (CurPost tC w p s (.bool (decide (0 < blanksN s k))) (k + blanksN s k)) := by
  have c1 := h.c1
  go_enter Tryd.func150, Tryd.ntmps150
  go_wp2
  clear c1
  go_loopg [] (s.size - k) (fun g wr => ∃ j, k ≤ j ∧ j ≤ s.size ∧ Hid (g = s.size - j) ∧ Hid (CurAt tC wr p s j) ∧ Hid (w.grownBy wr (some p)) ∧ Hid ((spanAt isBl s.data.toList k).length = (j - k) + (spanAt isBl s.data.toList j).length))
  case atStart => exact ⟨k, Nat.le_refl _, hk, Lib.hid rfl, Lib.hid h, Lib.hid (only_refl _ _), Lib.hid (by omega)⟩
  case round =>
    obtain ⟨j, hkj, hj, hg, hC, hG, hspan⟩ := hrel
    have c0 := hC.out.c0
    have c1 := hC.out.c1
    have f1 := hC.out.f1
    by_cases hlt : j < s.size
    · have hl : j < s.data.toList.length := by rw [← sz_len]; exact hlt
      have hd : decide (j < s.size) = true := by simpa using hlt
      have hbd := bd8 s[j]
      by_cases hb : isBl s[j] = true
      · have hgo := spanAt_go hl (by rw [at_list s j hlt hl]; exact hb)
        have hgo' := Lib.hid hgo
        clear hgo
        have hj1 : Hid ((spanAt isBl s.data.toList k).length = (j + 1 - k) + (spanAt isBl s.data.toList (j + 1)).length) := Lib.hid (by rw [hspan.out, hgo'.out, List.length_cons]; omega)
        rw [isBl_iff] at hb
        cases hb1 : ((s[j].toNat : Int) == 32)
        · have hb2 : ((s[j].toNat : Int) == 9) = true := by rw [hb1] at hb; simpa using hb
          clear hb
          go_wp2
          go_quiet (fail)
          go_wp2
          go_roundg (s.size - (j + 1))
          case rel => exact ⟨j + 1, by omega, by omega, Lib.hid rfl, Lib.hid ((hC.out.drewN _).put (j + 1)), Lib.hid (only_setCell (only_drewN hG.out _) (.inl rfl) _), hj1⟩
          case measure => have := hg.out; omega
        · clear hb
          go_wp2
          go_quiet (fail)
          go_wp2
          go_roundg (s.size - (j + 1))
          case rel => exact ⟨j + 1, by omega, by omega, Lib.hid rfl, Lib.hid ((hC.out.drewN _).put (j + 1)), Lib.hid (only_setCell (only_drewN hG.out _) (.inl rfl) _), hj1⟩
          case measure => have := hg.out; omega
      · have hb' : isBl s[j] = false := by simpa using hb
        have hst : Hid (spanAt isBl s.data.toList j = []) := Lib.hid (spanAt_stop hl (by rw [at_list s j hlt hl]; exact hb'))
        rw [isBl_iff] at hb'
        have hb1 : ((s[j].toNat : Int) == 32) = false := by revert hb'; cases ((s[j].toNat : Int) == 32) <;> simp
        have hb2 : ((s[j].toNat : Int) == 9) = false := by revert hb'; cases ((s[j].toNat : Int) == 9) <;> simp
        clear hb hb'
        have hn : Hid (blanksN s k = j - k) := Lib.hid (by unfold blanksN; rw [hspan.out, hst.out]; simp)
        go_wp2
        go_quiet (fail)
        go_wp2
        go_ret
        exact ⟨ret_bool (by rw [hn.out]; simp; omega), by rw [hn.out, show k + (j - k) = j by omega]; exact hC.out.drewN _, only_drewN hG.out _⟩
    · have hd : decide (j < s.size) = false := by simpa using hlt
      have hst : Hid (spanAt isBl s.data.toList j = []) := Lib.hid (spanAt_end (by rw [← sz_len]; omega))
      have hn : Hid (blanksN s k = j - k) := Lib.hid (by unfold blanksN; rw [hspan.out, hst.out]; simp)
      go_wp2
      go_quiet (fail)
      go_wp2
      go_ret
      exact ⟨ret_bool (by rw [hn.out]; simp; omega), by rw [hn.out, show k + (j - k) = j by omega]; exact hC.out.drewN _, only_drewN hG.out _⟩

/-- the word at k -/
def wordAt (s : ByteArray) (k : Nat) : List UInt8 := spanAt tokB s.data.toList k
theorem wordAt_le (s : ByteArray) (k : Nat) (h : k ≤ s.size) : k + (wordAt s k).length ≤ s.size := by
  have := spanAt_len tokB s.data.toList k; rw [← sz_len] at this; unfold wordAt; omega
theorem extract_word (s : ByteArray) (k j : Nat) (h : k + (wordAt s k).length = j) : s.extract k j = ⟨(wordAt s k).toArray⟩ := by
  apply ba_eq
  rw [Lib.extract_data, ← h, show k + (wordAt s k).length - k = (wordAt s k).length by omega]
  exact spanAt_take _ _ _
set_option maxRecDepth 100000 in
theorem tokenWord (w : World) (p : Nat) (s : ByteArray) (k : Nat) (h : CurAt tC w p s k) (hs : s.size ≤ 1099511627776) (hk : k ≤ s.size) :
    Calls Tryd.prog 153 #[.pointer (some ⟨p, 0, none⟩)] w (CurPost tC w p s (.string ⟨(wordAt s k).toArray⟩) (k + (wordAt s k).length)) := by
  have c1 := h.c1
  go_enter Tryd.func153, Tryd.ntmps153
  go_wp2
  clear c1
  go_loopg [] (s.size - k) (fun g wr => ∃ j, k ≤ j ∧ j ≤ s.size ∧ Hid (g = s.size - j) ∧ Hid (CurAt tC wr p s j) ∧ Hid (w.grownBy wr (some p)) ∧ Hid ((spanAt tokB s.data.toList k).length = (j - k) + (spanAt tokB s.data.toList j).length))
  case atStart => exact ⟨k, Nat.le_refl _, hk, Lib.hid rfl, Lib.hid h, Lib.hid (only_refl _ _), Lib.hid (by omega)⟩
  case round =>
    obtain ⟨j, hkj, hj, hg, hC, hG, hspan⟩ := hrel
    have c0 := hC.out.c0
    have c1 := hC.out.c1
    have f1 := hC.out.f1
    by_cases hlt : j < s.size
    · have hl : j < s.data.toList.length := by rw [← sz_len]; exact hlt
      have hd : decide (j < s.size) = true := by simpa using hlt
      cases hb : tokB s[j]
      · have hst : Hid (spanAt tokB s.data.toList j = []) := Lib.hid (spanAt_stop hl (by rw [at_list s j hlt hl]; exact hb))
        have hn : Hid (k + (wordAt s k).length = j) := Lib.hid (by unfold wordAt; rw [hspan.out, hst.out]; simp; omega)
        have hx := Lib.hid (extract_word s k j hn.out)
        have hsl : (k : Int) ≤ (j : Int) := by omega
        go_wp2
        go_quiet ((go_at_call 196; exact quiet_left' (tokenByte _ _)))
        go_wp2
        go_quiet (fail)
        go_wp2
        go_ret
        exact ⟨by rw [← hx.out]; rfl, by rw [hn.out]; exact (hC.out.drewN _).drewN _, only_drewN (only_drewN hG.out _) _⟩
      · have hgo := spanAt_go hl (by rw [at_list s j hlt hl]; exact hb)
        have hgo' := Lib.hid hgo
        clear hgo
        have hj1 : Hid ((spanAt tokB s.data.toList k).length = (j + 1 - k) + (spanAt tokB s.data.toList (j + 1)).length) := Lib.hid (by rw [hspan.out, hgo'.out, List.length_cons]; omega)
        go_wp2
        go_quiet ((go_at_call 196; exact quiet_left' (tokenByte _ _)))
        go_wp2
        go_roundg (s.size - (j + 1))
        case rel => exact ⟨j + 1, by omega, by omega, Lib.hid rfl, Lib.hid ((hC.out.drewN _).put (j + 1)), Lib.hid (only_setCell (only_drewN hG.out _) (.inl rfl) _), hj1⟩
        case measure => have := hg.out; omega
    · have hd : decide (j < s.size) = false := by simpa using hlt
      have hst : Hid (spanAt tokB s.data.toList j = []) := Lib.hid (spanAt_end (by rw [← sz_len]; omega))
      have hn : Hid (k + (wordAt s k).length = j) := Lib.hid (by unfold wordAt; rw [hspan.out, hst.out]; simp; omega)
      have hx := Lib.hid (extract_word s k j hn.out)
      have hsl : (k : Int) ≤ (j : Int) := by omega
      go_wp2
      go_quiet (fail)
      go_wp2
      go_quiet (fail)
      go_wp2
      go_ret
      exact ⟨by rw [← hx.out]; rfl, by rw [hn.out]; exact (hC.out.drewN _).drewN _, only_drewN (only_drewN hG.out _) _⟩
end Go.Proofs.YtfkflgcifddnnaaDoor
