/- Merged out of Quote Value Cursor CurQ CurR CurRQ. -/
import Derived.Test.YtnfcdccdmlodeaaGreatDoorFound
import Derived.Test.YtnfcdccdmlodeaaGreatDoorFoun2
import Derived.Test.YtnfcdccdmlodeaaGreatDoorErrs
import Derived.Deep.QuietTactic
import Derived.BigQuiet
import Derived.Deep.RegionHeld3
import Derived.Deep.RegionWith
/- token.Quote and the reference's Quote: a text between marks. -/
namespace Go.Proofs.YtnfcdccdmlodeaaGreatDoor
open Go.RowKit

theorem tokenText (c : UInt8) (w : World) : Calls Tryz.prog 238 #[.int .u8 c.toNat] w fun e w' => e = .returned (.bool (textB c)) ∧ w = w' := by
  have hb := bd8 c
  go_enter Tryz.func238, Tryz.ntmps238
  go_wp2
  all_goals go_ret
  all_goals
    refine ⟨ret_bool ?_, rfl⟩
    unfold textB
    rw [Bool.eq_iff_iff]
    simp
    try omega
theorem refTextByte (c : UInt8) (w : World) : Calls Tryz.prog 206 #[.int .u8 c.toNat] w fun e w' => e = .returned (.bool (textB c)) ∧ w = w' := by
  have hb := bd8 c
  go_enter Tryz.func206, Tryz.ntmps206
  go_wp2
  all_goals go_ret
  all_goals
    refine ⟨ret_bool ?_, rfl⟩
    unfold textB
    rw [Bool.eq_iff_iff]
    simp
    try omega

/-- a byte as it stands between marks -/
def esc (c : UInt8) : List UInt8 := if c.toNat = 34 ∨ c.toNat = 92 then [92, c] else [c]
def escs (l : List UInt8) : List UInt8 := l.flatMap esc
theorem escs_succ (l : List UInt8) (k : Nat) (h : k < l.length) : escs (l.take (k + 1)) = escs (l.take k) ++ esc l[k] := by
  unfold escs; rw [List.take_succ_eq_append_getElem h, List.flatMap_append]; simp
theorem escs_len (l : List UInt8) : (escs l).length ≤ 2 * l.length := by
  induction l with
  | nil => simp [escs]
  | cons c l ih =>
    have : (esc c).length ≤ 2 := by unfold esc; split <;> simp
    simp only [escs, List.flatMap_cons, List.length_append, List.length_cons] at *
    omega
theorem escs_take_len (l : List UInt8) (k : Nat) (h : k ≤ l.length) : (escs (l.take k)).length ≤ 2 * k := by
  have := escs_len (l.take k); rw [List.length_take, Nat.min_eq_left h] at this; exact this
/-- between marks -/
def quoted (l : List UInt8) : List UInt8 := 34 :: (escs l ++ [34])
def quotable (l : List UInt8) : Bool := l.all textB

theorem ret2 {a a' b b' : Value} (h : a = a') (h' : b = b') : Ending.returned (.tuple #[a, b]) = .returned (.tuple #[a', b']) := by rw [h, h']

def quoteRes (l : List UInt8) (bad good : Value) : Value := if quotable l then .tuple #[.string ⟨(quoted l).toArray⟩, good] else .tuple #[.string ⟨#[]⟩, bad]

theorem ext_one (s : ByteArray) (k : Nat) (h : k < s.size) : s.extract k (k + 1) = ⟨#[s[k]]⟩ := by
  have h' : k < s.data.toList.length := by rw [← size_data]; exact h
  rw [Lib.extract_eq]
  congr 1
  rw [show k + 1 - k = 1 by omega, List.drop_eq_getElem_cons h', data_getElem s k h h']
  rfl

set_option maxRecDepth 100000 in
set_option maxHeartbeats 1000000 in
theorem refQuote (s : ByteArray) (w : World) (hs : s.size ≤ 1099511627776) :
    Calls Tryz.prog 133 #[.string s] w fun e w' => e = .returned (quoteRes s.data.toList (.int .i64 3) (.int .i64 0)) ∧ w = w' := by
  go_enter Tryz.func133, Tryz.ntmps133
  go_wp2
  go_loop [4, 8] (fun o i => ∃ k : Nat, k ≤ s.size ∧ i = .int .i64 k ∧ o = .string ⟨(escs (s.data.toList.take k)).toArray⟩ ∧ Hid ((s.data.toList.take k).all textB = true)) (fun _ i => s.size - (intOf i).toNat)
  case atStart => exact ⟨0, Nat.zero_le _, rfl, rfl, Lib.hid (by simp)⟩
  case round =>
    obtain ⟨k, hk, rfl, rfl, ha⟩ := hrel
    have hle := escs_take_len s.data.toList k (by rw [← size_data]; exact hk)
    by_cases hlt : k < s.size
    · have hl : k < s.data.toList.length := by rw [← size_data]; exact hlt
      cases hb : textB s[k]
      · have hn := Lib.hid (not_all textB s k hlt hb)
        go_wp2_with (go_at_call 206; refine (refTextByte _ _).mono ?_; rintro e w' ⟨rfl, rfl⟩)
        go_ret2
        exact ⟨by unfold quoteRes quotable; rw [hn.out]; rfl, rfl⟩
      · have hn := Lib.hid (all_take_succ textB s k hlt ha.out hb)
        have he := escs_succ s.data.toList k hl
        rw [data_getElem s k hlt hl] at he
        have he' := Lib.hid he
        clear he
        have hx := Lib.hid (ext_one s k hlt)
        have hadd1 := run_string_add_sum (P := Tryz.prog) w ⟨(escs (s.data.toList.take k)).toArray⟩ ⟨#[92]⟩ (by rw [Lib.size_eq, Lib.size_eq]; simp; omega)
        have hsz : (s.extract k (k + 1)).size = 1 := by rw [hx.out]; rfl
        have hadd2 := run_string_add_sum (P := Tryz.prog) w (⟨(escs (s.data.toList.take k)).toArray⟩ ++ ⟨#[92]⟩) (s.extract k (k + 1)) (by rw [hsz, ByteArray.size_append, Lib.size_eq, Lib.size_eq]; simp; omega)
        have hadd3 := run_string_add_sum (P := Tryz.prog) w ⟨(escs (s.data.toList.take k)).toArray⟩ (s.extract k (k + 1)) (by rw [hsz, Lib.size_eq]; simp; omega)
        clear hsz
        by_cases hq : s[k].toNat = 34 ∨ s[k].toNat = 92
        · have hesc : Hid (esc s[k] = [92, s[k]]) := Lib.hid (if_pos hq)
          clear hadd3
          have fin : Hid ((⟨(escs (s.data.toList.take k)).toArray⟩ : ByteArray) ++ ⟨#[92]⟩ ++ s.extract k (k + 1) = ⟨(escs (s.data.toList.take (k + 1))).toArray⟩) := Lib.hid (by
            rw [he'.out, hesc.out, hx.out]
            refine (congrArg (· ++ (⟨#[s[k]]⟩ : ByteArray)) (str_app _ _)).trans ((str_app _ _).trans ?_)
            simp)
          rcases hq with hq | hq
          · have h1 : 34 ≤ (s[k].toNat : Int) := by omega
            have h2 : (s[k].toNat : Int) ≤ 34 := by omega
            clear hq
            go_wp2_with (go_at_call 206; refine (refTextByte _ _).mono ?_; rintro e w' ⟨rfl, rfl⟩)
            go_round
            case rel => exact ⟨k + 1, by omega, by go_num, by rw [← fin.out], hn⟩
            case measure => simp [intOf]; omega
          · have h1 : (((s[k].toNat : Int)) == 34) = false := by simp only [beq_eq_false_iff_ne, ne_eq]; omega
            have h2 : (((s[k].toNat : Int)) == 92) = true := by simp only [beq_iff_eq]; omega
            clear hq
            go_wp2_with (go_at_call 206; refine (refTextByte _ _).mono ?_; rintro e w' ⟨rfl, rfl⟩)
            go_round
            case rel => exact ⟨k + 1, by omega, by go_num, by rw [← fin.out], hn⟩
            case measure => simp [intOf]; omega
        · have hesc : Hid (esc s[k] = [s[k]]) := Lib.hid (if_neg hq)
          clear hadd1 hadd2
          have fin : Hid ((⟨(escs (s.data.toList.take k)).toArray⟩ : ByteArray) ++ s.extract k (k + 1) = ⟨(escs (s.data.toList.take (k + 1))).toArray⟩) := Lib.hid (by
            rw [he'.out, hesc.out, hx.out]
            exact str_app _ _)
          have h1 : (((s[k].toNat : Int)) == 34) = false := by simp only [beq_eq_false_iff_ne, ne_eq]; omega
          have h2 : (((s[k].toNat : Int)) == 92) = false := by simp only [beq_eq_false_iff_ne, ne_eq]; omega
          clear hq
          go_wp2_with (go_at_call 206; refine (refTextByte _ _).mono ?_; rintro e w' ⟨rfl, rfl⟩)
          go_round
          case rel => exact ⟨k + 1, by omega, by go_num, by rw [← fin.out], hn⟩
          case measure => simp [intOf]; omega
    · obtain rfl : s.size = k := by omega
      have hq : Hid (quotable s.data.toList = true) := Lib.hid (all_take_all textB s ha.out)
      have e0 : s.data.toList.take s.size = s.data.toList := by rw [size_data, List.take_length]
      rw [e0] at hle
      have e0' := Lib.hid e0
      clear e0
      have hadd1 := run_string_add_sum (P := Tryz.prog) w ⟨#[34]⟩ ⟨(escs s.data.toList).toArray⟩ (by rw [Lib.size_eq, Lib.size_eq]; simp; omega)
      have hadd2 := run_string_add_sum (P := Tryz.prog) w (⟨#[34]⟩ ++ ⟨(escs s.data.toList).toArray⟩) ⟨#[34]⟩ (by rw [ByteArray.size_append, Lib.size_eq, Lib.size_eq]; simp; omega)
      rw [e0'.out]
      go_wp2
      go_ret2
      refine ⟨?_, rfl⟩
      unfold quoteRes
      rw [if_pos hq.out]
      exact ret2 (congrArg Value.string ((congrArg (· ++ (⟨#[34]⟩ : ByteArray)) (mk_append [34] (escs s.data.toList))).trans ((mk_append _ [34]).trans (by unfold quoted; simp)))) rfl

set_option maxRecDepth 100000 in
set_option maxHeartbeats 1000000 in
theorem tokenQuote (s : ByteArray) (w : World) (hs : s.size ≤ 1099511627776) :
    Calls Tryz.prog 165 #[.string s] w fun e w' => e = .returned (quoteRes s.data.toList (.iface 130 (.int .i64 3)) .nilIface) ∧ Below w.heap.size w w' := by
  go_enter Tryz.func165, Tryz.ntmps165
  go_wp2
  go_loopw [4, 9] (fun v i wr => ∃ k : Nat, k ≤ s.size ∧ i = .int .i64 k ∧ OwnB wr w.heap.size v (34 :: escs (s.data.toList.take k)) ∧ Below w.heap.size w wr ∧ Hid ((s.data.toList.take k).all textB = true)) (fun _ i _ => s.size - (intOf i).toNat)
  case atStart => exact ⟨0, Nat.zero_le _, rfl, OwnB.one w _ 34 34 rfl (Nat.le_refl _), (Below.refl _ _).alloc (Nat.le_refl _) _, Lib.hid (by simp)⟩
  case round =>
    obtain ⟨k, hk, rfl, hO, hB, ha⟩ := hrel
    have hle := escs_take_len s.data.toList k (by rw [← size_data]; exact hk)
    have hbs := hB.size
    by_cases hlt : k < s.size
    · have hl : k < s.data.toList.length := by rw [← size_data]; exact hlt
      cases hb : textB s[k]
      · have hn := Lib.hid (not_all textB s k hlt hb)
        go_wp2_with (go_at_call 238; refine (tokenText _ _).mono ?_; rintro e w' ⟨rfl, rfl⟩)
        go_ret2
        exact ⟨by unfold quoteRes quotable; rw [hn.out]; rfl, hB⟩
      · have hn := Lib.hid (all_take_succ textB s k hlt ha.out hb)
        have he := escs_succ s.data.toList k hl
        rw [data_getElem s k hlt hl] at he
        have he' := Lib.hid he
        clear he
        by_cases hq : s[k].toNat = 34 ∨ s[k].toNat = 92
        · have hesc : Hid (esc s[k] = [92, s[k]]) := Lib.hid (if_pos hq)
          have fin : Hid (34 :: escs (s.data.toList.take (k + 1)) = ((34 :: escs (s.data.toList.take k)) ++ [92]) ++ [s[k]]) := Lib.hid (by rw [he'.out, hesc.out]; simp)
          have htest : (((s[k].toNat : Int)) == 34) = true ∨ ((((s[k].toNat : Int)) == 34) = false ∧ (((s[k].toNat : Int)) == 92) = true) := by
            simp only [beq_eq_false_iff_ne, ne_eq, beq_iff_eq]; omega
          clear hq
          have htest' := Lib.hid htest
          clear htest
          rcases htest'.out with h1 | ⟨h1, h2⟩
          all_goals
            go_wp2_with (first | (go_at_call 238; refine (tokenText _ _).mono ?_; rintro e w' ⟨rfl, rfl⟩) | (at_builtin; refine wpList_append_byte rfl (.tmp 28) (.tmp 29) rfl _ _ _ _ rfl hO 92 _ rfl rfl (by simp; omega) hbs ?_; intro v1 w1 hO1 hg1; have hB1 := below_append hB hO hg1 hbs; have hbs1 := hB1.size) | (at_builtin; refine wpList_append_byte rfl (.tmp 31) (.tmp 35) rfl _ _ _ _ rfl hO1 s[k] _ rfl rfl (by simp; omega) hbs1 ?_; intro v2 w2 hO2 hg2))
            go_roundw
            case rel => exact ⟨k + 1, by omega, by go_num, by rw [fin.out]; exact hO2, below_append hB1 hO1 hg2 hbs1, hn⟩
            case measure => simp [intOf]; omega
        · have hesc : Hid (esc s[k] = [s[k]]) := Lib.hid (if_neg hq)
          have fin : Hid (34 :: escs (s.data.toList.take (k + 1)) = (34 :: escs (s.data.toList.take k)) ++ [s[k]]) := Lib.hid (by rw [he'.out, hesc.out]; simp)
          have h1 : (((s[k].toNat : Int)) == 34) = false := by simp only [beq_eq_false_iff_ne, ne_eq]; omega
          have h2 : (((s[k].toNat : Int)) == 92) = false := by simp only [beq_eq_false_iff_ne, ne_eq]; omega
          clear hq
          go_wp2_with (first | (go_at_call 238; refine (tokenText _ _).mono ?_; rintro e w' ⟨rfl, rfl⟩) | (at_builtin; refine wpList_append_byte rfl _ _ rfl _ _ _ _ rfl hO s[k] _ rfl rfl (by simp; omega) hbs ?_; intro v1 w1 hO1 hg1))
          go_roundw
          case rel => exact ⟨k + 1, by omega, by go_num, by rw [fin.out]; exact hO1, below_append hB hO hg1 hbs, hn⟩
          case measure => simp [intOf]; omega
    · obtain rfl : s.size = k := by omega
      have hq : Hid (quotable s.data.toList = true) := Lib.hid (all_take_all textB s ha.out)
      rw [show s.data.toList.take s.size = s.data.toList by rw [size_data, List.take_length]] at hle hO
      go_wp2_with (at_builtin; refine wpList_append_byte rfl _ _ rfl _ _ _ _ rfl hO 34 _ rfl rfl (by simp; omega) hbs ?_; intro v1 w1 hO1 hg1; generalize hL : (34 :: escs s.data.toList ++ [34]) = L at hO1; obtain ⟨g, cap, rfl, hcell⟩ := hO1.shape (by rw [← hL]; simp); have hLh := Lib.hid hL; clear hL; have hB1 := below_append hB hO hg1 hbs; have hcv := run_convert_bytes_back (P := Tryz.prog) w1 193 9 5 ⟨g, 0, none⟩ cap _ Tryz.underlying193 Tryz.underlying5 Tryz.underlying9 hcell; clear hcell hO1 hO hg1)
      go_ret2
      refine ⟨?_, hB1⟩
      unfold quoteRes
      rw [if_pos hq.out]
      exact ret2 (congrArg Value.string (by rw [← hLh.out]; unfold quoted; rfl)) rfl

end Go.Proofs.YtnfcdccdmlodeaaGreatDoor
/- token.Value and the reference's: a text as it is, if it is a word, else between marks. -/
namespace Go.Proofs.YtnfcdccdmlodeaaGreatDoor
open Go.RowKit

def valueRes (s : ByteArray) (bad good : Value) : Value := if tokW s.data.toList then .tuple #[.string s, good] else quoteRes s.data.toList bad good

theorem escs_len' (l : List UInt8) : (quoted l).length ≤ 2 * l.length + 2 := by
  have := escs_len l
  unfold quoted
  simp only [List.length_cons, List.length_append, List.length_nil]
  omega
/-- what a value is: a text (not much longer), or no value. -/
theorem valueRes_cases (s : ByteArray) : (∃ x : ByteArray, x.size ≤ 2 * s.size + 2 ∧ ∀ bad good, valueRes s bad good = .tuple #[.string x, good]) ∨ (∀ bad good, valueRes s bad good = .tuple #[.string ⟨#[]⟩, bad]) := by
  unfold valueRes quoteRes
  cases tokW s.data.toList
  · cases quotable s.data.toList
    · exact .inr fun _ _ => rfl
    · refine .inl ⟨_, ?_, fun _ _ => rfl⟩
      have := escs_len' s.data.toList
      rw [Lib.size_eq, Lib.size_eq]
      exact this
  · exact .inl ⟨s, by omega, fun _ _ => rfl⟩

end Go.Proofs.YtnfcdccdmlodeaaGreatDoor
/- token.Cursor's methods: At, End, Go, Blanks, Mark, Word. -/
namespace Go.Proofs.YtnfcdccdmlodeaaGreatDoor
open Go.RowKit

theorem quiet_left' {P : Program} {f : FuncId} {args : Array Value} {w : World} {n : Nat} {v : Value}
    (h : Calls P f args (w.drewN n) fun e w' => e = .returned v ∧ w.drewN n = w') : Calls P f args (w.drewN n) fun e w'' => e = .returned v ∧ ∃ m, w'' = w.drewN m :=
  h.mono fun _ _ ⟨he, hm⟩ => ⟨he, n, hm.symm⟩
/-- A cursor's block: its text and its place. -/
def CurAt (T : TypeId) (w : World) (p : Nat) (s : ByteArray) (k : Nat) : Prop := Blk w p #[.string s, .int .i64 (k : Int)] T
section
variable {T : TypeId} {w w' : World} {p : Nat} {s : ByteArray} {k : Nat}
theorem CurAt.c0 (h : CurAt T w p s k) : w.cell? ⟨p, 0, none⟩ = some (.string s) := Blk.cell h 0 rfl
theorem CurAt.c1 (h : CurAt T w p s k) : w.cell? ⟨p, 1, none⟩ = some (.int .i64 (k : Int)) := Blk.cell h 1 rfl
theorem CurAt.f1 (h : CurAt T w p s k) : w.frozen? ⟨p, 1, none⟩ = false := Blk.free h 1
theorem CurAt.put (h : CurAt T w p s k) (j : Nat) : CurAt T (w.setCell ⟨p, 1, none⟩ (.int .i64 (j : Int))) p s j := Blk.set h 1 _
theorem CurAt.drewN (h : CurAt T w p s k) (n : Nat) : CurAt T (w.drewN n) p s k := h
theorem CurAt.later (h : CurAt T w p s k) (hb : Below w.heap.size w w') : CurAt T w' p s k := Blk.later h hb
theorem CurAt.grown (h : CurAt T w p s k) {q : Nat} (hg : w.grownBy w' (some q)) (hne : q ≠ p) : CurAt T w' p s k := Blk.grown h hg (by simpa using hne)
theorem CurAt.lt (h : CurAt T w p s k) : p < w.heap.size := Blk.lt h
end
/-- what a method of a cursor leaves: its result, its place, and nothing else turned -/
def CurPost (T : TypeId) (w : World) (p : Nat) (s : ByteArray) (v : Value) (k : Nat) (e : Ending) (w' : World) : Prop := e = .returned v ∧ CurAt T w' p s k ∧ w.grownBy w' (some p)

/-- where Go goes to -/
def clampAt (s : ByteArray) (n : Int) : Nat := (max 0 (min n (s.size : Int))).toNat
theorem clampAt_le (s : ByteArray) (n : Int) : clampAt s n ≤ s.size := by unfold clampAt; omega

abbrev tC : TypeId := 293

set_option maxRecDepth 100000 in
theorem tokenAt (w : World) (p : Nat) (s : ByteArray) (k : Nat) (h : CurAt tC w p s k) :
    Calls Tryz.prog 244 #[.pointer (some ⟨p, 0, none⟩)] w fun e w' => e = .returned (.int .i64 (k : Int)) ∧ w' = w := by
  have c1 := h.c1
  go_enter Tryz.func244, Tryz.ntmps244
  go_wp2
  go_ret
  exact ⟨rfl, rfl⟩
set_option maxRecDepth 100000 in
theorem tokenEnd (w : World) (p : Nat) (s : ByteArray) (k : Nat) (h : CurAt tC w p s k) :
    Calls Tryz.prog 176 #[.pointer (some ⟨p, 0, none⟩)] w fun e w' => e = .returned (.bool (decide (s.size ≤ k))) ∧ ∃ n, w' = w.drewN n := by
  have c0 := h.c0
  have c1 := h.c1
  go_enter Tryz.func176, Tryz.ntmps176
  go_wp2
  go_quiet (fail)
  go_wp2
  go_ret
  exact ⟨ret_bool (by simp), ⟨_, rfl⟩⟩
set_option maxRecDepth 100000 in
theorem tokenGo (w : World) (p : Nat) (s : ByteArray) (k : Nat) (n : Int) (h : CurAt tC w p s k) (hs : s.size ≤ 1099511627776) :
    Calls Tryz.prog 307 #[.pointer (some ⟨p, 0, none⟩), .int .i64 n] w (CurPost tC w p s (.tuple #[]) (clampAt s n)) := by
  have c0 := h.c0
  have c1 := h.c1
  have f1 := h.f1
  go_enter Tryz.func307, Tryz.ntmps307
  go_wp2
  go_end0
  refine ⟨rfl, ?_, only_setCell (only_refl _ _) (.inl rfl) _⟩
  have := h.put (clampAt s n)
  rw [show ((clampAt s n : Nat) : Int) = max 0 (min n (s.size : Int)) by unfold clampAt; omega] at this
  exact this
set_option maxRecDepth 100000 in
theorem tokenMark (w : World) (p : Nat) (s : ByteArray) (k : Nat) (c : UInt8) (h : CurAt tC w p s k) (hs : s.size ≤ 1099511627776) :
    Calls Tryz.prog 243 #[.pointer (some ⟨p, 0, none⟩), .int .u8 c.toNat] w fun e w' => if hk : k < s.size then (if s[k] = c then CurPost tC w p s (.bool true) (k + 1) e w' else CurPost tC w p s (.bool false) k e w') else CurPost tC w p s (.bool false) k e w' := by
  have c0 := h.c0
  have c1 := h.c1
  have f1 := h.f1
  by_cases hk : k < s.size
  · have hd : decide (k < s.size) = true := by simpa using hk
    simp only [hk, dif_pos]
    have hc1 := bd8 s[k]
    by_cases hc : s[k] = c
    · have hb : (((s[k].toNat : Int)) == (c.toNat : Int)) = true := by rw [hc]; simp
      simp only [hc, if_true]
      have hh := Lib.hid hc
      clear hc
      go_enter Tryz.func243, Tryz.ntmps243
      go_wp2
      go_quiet (fail)
      go_wp2
      go_ret
      exact ⟨rfl, (h.drewN _).put (k + 1), only_setCell (only_drewN (only_refl _ _) _) (.inl rfl) _⟩
    · have hb : (((s[k].toNat : Int)) == (c.toNat : Int)) = false := by
        rw [beq_eq_false_iff_ne]; intro e; exact hc (UInt8.toNat.inj (by omega))
      simp only [hc, if_false]
      have hh := Lib.hid hc
      clear hc
      go_enter Tryz.func243, Tryz.ntmps243
      go_wp2
      go_quiet (fail)
      go_wp2
      go_ret
      exact ⟨rfl, h.drewN _, only_drewN (only_refl _ _) _⟩
  · have hd : decide (k < s.size) = false := by simpa using hk
    simp only [hk, dif_neg, not_false_eq_true]
    go_enter Tryz.func243, Tryz.ntmps243
    go_wp2
    go_quiet (fail)
    go_wp2
    go_ret
    exact ⟨rfl, h.drewN _, only_drewN (only_refl _ _) _⟩

theorem isBl_iff (c : UInt8) : isBl c = ((c.toNat : Int) == 32 || (c.toNat : Int) == 9) := by
  unfold isBl; rw [Bool.eq_iff_iff]; simp; omega
/-- so many blanks stand at k -/
def blanksN (s : ByteArray) (k : Nat) : Nat := (spanAt isBl s.data.toList k).length
theorem blanksN_le (s : ByteArray) (k : Nat) (h : k ≤ s.size) : k + blanksN s k ≤ s.size := by
  have := spanAt_len isBl s.data.toList k; rw [← sz_len] at this; unfold blanksN; omega
set_option maxRecDepth 100000 in
theorem tokenBlanks (w : World) (p : Nat) (s : ByteArray) (k : Nat) (h : CurAt tC w p s k) (hs : s.size ≤ 1099511627776) (hk : k ≤ s.size) :
    Calls Tryz.prog 242 #[.pointer (some ⟨p, 0, none⟩)] w (CurPost tC w p s (.bool (decide (0 < blanksN s k))) (k + blanksN s k)) := by
  have c1 := h.c1
  go_enter Tryz.func242, Tryz.ntmps242
  go_wp2
  clear c1
  go_loopg [] (s.size - k) (fun g wr => ∃ j, k ≤ j ∧ j ≤ s.size ∧ Hid (g = s.size - j) ∧ Hid (CurAt tC wr p s j) ∧ Hid (w.grownBy wr (some p)) ∧ Hid ((spanAt isBl s.data.toList k).length = (j - k) + (spanAt isBl s.data.toList j).length))
  case atStart => exact ⟨k, Nat.le_refl _, hk, Lib.hid rfl, Lib.hid h, Lib.hid (only_refl _ _), Lib.hid (by omega)⟩
  case round =>
    obtain ⟨j, hkj, hj, hg, hC, hG, hspan⟩ := hrel
    have c0 := hC.out.c0
    have c1 := hC.out.c1
    have f1 := hC.out.f1
    by_cases hlt : j < s.size
    · have hl : j < s.data.toList.length := by rw [← sz_len]; exact hlt
      have hd : decide (j < s.size) = true := by simpa using hlt
      have hbd := bd8 s[j]
      by_cases hb : isBl s[j] = true
      · have hgo := spanAt_go hl (by rw [at_list s j hlt hl]; exact hb)
        have hgo' := Lib.hid hgo
        clear hgo
        have hj1 : Hid ((spanAt isBl s.data.toList k).length = (j + 1 - k) + (spanAt isBl s.data.toList (j + 1)).length) := Lib.hid (by rw [hspan.out, hgo'.out, List.length_cons]; omega)
        rw [isBl_iff] at hb
        cases hb1 : ((s[j].toNat : Int) == 32)
        · have hb2 : ((s[j].toNat : Int) == 9) = true := by rw [hb1] at hb; simpa using hb
          clear hb
          go_wp2
          go_quiet (fail)
          go_wp2
          go_roundg (s.size - (j + 1))
          case rel => exact ⟨j + 1, by omega, by omega, Lib.hid rfl, Lib.hid ((hC.out.drewN _).put (j + 1)), Lib.hid (only_setCell (only_drewN hG.out _) (.inl rfl) _), hj1⟩
          case measure => have := hg.out; omega
        · clear hb
          go_wp2
          go_quiet (fail)
          go_wp2
          go_roundg (s.size - (j + 1))
          case rel => exact ⟨j + 1, by omega, by omega, Lib.hid rfl, Lib.hid ((hC.out.drewN _).put (j + 1)), Lib.hid (only_setCell (only_drewN hG.out _) (.inl rfl) _), hj1⟩
          case measure => have := hg.out; omega
      · have hb' : isBl s[j] = false := by simpa using hb
        have hst : Hid (spanAt isBl s.data.toList j = []) := Lib.hid (spanAt_stop hl (by rw [at_list s j hlt hl]; exact hb'))
        rw [isBl_iff] at hb'
        have hb1 : ((s[j].toNat : Int) == 32) = false := by revert hb'; cases ((s[j].toNat : Int) == 32) <;> simp
        have hb2 : ((s[j].toNat : Int) == 9) = false := by revert hb'; cases ((s[j].toNat : Int) == 9) <;> simp
        clear hb hb'
        have hn : Hid (blanksN s k = j - k) := Lib.hid (by unfold blanksN; rw [hspan.out, hst.out]; simp)
        go_wp2
        go_quiet (fail)
        go_wp2
        go_ret
        exact ⟨ret_bool (by rw [hn.out]; simp; omega), by rw [hn.out, show k + (j - k) = j by omega]; exact hC.out.drewN _, only_drewN hG.out _⟩
    · have hd : decide (j < s.size) = false := by simpa using hlt
      have hst : Hid (spanAt isBl s.data.toList j = []) := Lib.hid (spanAt_end (by rw [← sz_len]; omega))
      have hn : Hid (blanksN s k = j - k) := Lib.hid (by unfold blanksN; rw [hspan.out, hst.out]; simp)
      go_wp2
      go_quiet (fail)
      go_wp2
      go_ret
      exact ⟨ret_bool (by rw [hn.out]; simp; omega), by rw [hn.out, show k + (j - k) = j by omega]; exact hC.out.drewN _, only_drewN hG.out _⟩

/-- the word at k -/
def wordAt (s : ByteArray) (k : Nat) : List UInt8 := spanAt tokB s.data.toList k
theorem wordAt_le (s : ByteArray) (k : Nat) (h : k ≤ s.size) : k + (wordAt s k).length ≤ s.size := by
  have := spanAt_len tokB s.data.toList k; rw [← sz_len] at this; unfold wordAt; omega
theorem extract_word (s : ByteArray) (k j : Nat) (h : k + (wordAt s k).length = j) : s.extract k j = ⟨(wordAt s k).toArray⟩ := by
  apply ba_eq
  rw [Lib.extract_data, ← h, show k + (wordAt s k).length - k = (wordAt s k).length by omega]
  exact spanAt_take _ _ _
set_option maxRecDepth 100000 in
theorem tokenWord (w : World) (p : Nat) (s : ByteArray) (k : Nat) (h : CurAt tC w p s k) (hs : s.size ≤ 1099511627776) (hk : k ≤ s.size) :
    Calls Tryz.prog 245 #[.pointer (some ⟨p, 0, none⟩)] w (CurPost tC w p s (.string ⟨(wordAt s k).toArray⟩) (k + (wordAt s k).length)) := by
  have c1 := h.c1
  go_enter Tryz.func245, Tryz.ntmps245
  go_wp2
  clear c1
  go_loopg [] (s.size - k) (fun g wr => ∃ j, k ≤ j ∧ j ≤ s.size ∧ Hid (g = s.size - j) ∧ Hid (CurAt tC wr p s j) ∧ Hid (w.grownBy wr (some p)) ∧ Hid ((spanAt tokB s.data.toList k).length = (j - k) + (spanAt tokB s.data.toList j).length))
  case atStart => exact ⟨k, Nat.le_refl _, hk, Lib.hid rfl, Lib.hid h, Lib.hid (only_refl _ _), Lib.hid (by omega)⟩
  case round =>
    obtain ⟨j, hkj, hj, hg, hC, hG, hspan⟩ := hrel
    have c0 := hC.out.c0
    have c1 := hC.out.c1
    have f1 := hC.out.f1
    by_cases hlt : j < s.size
    · have hl : j < s.data.toList.length := by rw [← sz_len]; exact hlt
      have hd : decide (j < s.size) = true := by simpa using hlt
      cases hb : tokB s[j]
      · have hst : Hid (spanAt tokB s.data.toList j = []) := Lib.hid (spanAt_stop hl (by rw [at_list s j hlt hl]; exact hb))
        have hn : Hid (k + (wordAt s k).length = j) := Lib.hid (by unfold wordAt; rw [hspan.out, hst.out]; simp; omega)
        have hx := Lib.hid (extract_word s k j hn.out)
        have hsl : (k : Int) ≤ (j : Int) := by omega
        go_wp2
        go_quiet ((go_at_call 234; exact quiet_left' (tokenByte _ _)))
        go_wp2
        go_quiet (fail)
        go_wp2
        go_ret
        exact ⟨by rw [← hx.out]; rfl, by rw [hn.out]; exact (hC.out.drewN _).drewN _, only_drewN (only_drewN hG.out _) _⟩
      · have hgo := spanAt_go hl (by rw [at_list s j hlt hl]; exact hb)
        have hgo' := Lib.hid hgo
        clear hgo
        have hj1 : Hid ((spanAt tokB s.data.toList k).length = (j + 1 - k) + (spanAt tokB s.data.toList (j + 1)).length) := Lib.hid (by rw [hspan.out, hgo'.out, List.length_cons]; omega)
        go_wp2
        go_quiet ((go_at_call 234; exact quiet_left' (tokenByte _ _)))
        go_wp2
        go_roundg (s.size - (j + 1))
        case rel => exact ⟨j + 1, by omega, by omega, Lib.hid rfl, Lib.hid ((hC.out.drewN _).put (j + 1)), Lib.hid (only_setCell (only_drewN hG.out _) (.inl rfl) _), hj1⟩
        case measure => have := hg.out; omega
    · have hd : decide (j < s.size) = false := by simpa using hlt
      have hst : Hid (spanAt tokB s.data.toList j = []) := Lib.hid (spanAt_end (by rw [← sz_len]; omega))
      have hn : Hid (k + (wordAt s k).length = j) := Lib.hid (by unfold wordAt; rw [hspan.out, hst.out]; simp; omega)
      have hx := Lib.hid (extract_word s k j hn.out)
      have hsl : (k : Int) ≤ (j : Int) := by omega
      go_wp2
      go_quiet (fail)
      go_wp2
      go_quiet (fail)
      go_wp2
      go_ret
      exact ⟨by rw [← hx.out]; rfl, by rw [hn.out]; exact (hC.out.drewN _).drewN _, only_drewN (only_drewN hG.out _) _⟩
end Go.Proofs.YtnfcdccdmlodeaaGreatDoor
/- token.Cursor's Quoted: the text between marks. -/
namespace Go.Proofs.YtnfcdccdmlodeaaGreatDoor
open Go.RowKit

theorem tokenMark_yes (w : World) (p : Nat) (s : ByteArray) (k : Nat) (c : UInt8) (h : CurAt tC w p s k) (hs : s.size ≤ 1099511627776) (hk : k < s.size) (hc : s[k] = c) :
    Calls Tryz.prog 243 #[.pointer (some ⟨p, 0, none⟩), .int .u8 c.toNat] w (CurPost tC w p s (.bool true) (k + 1)) := by
  refine (tokenMark w p s k c h hs).mono fun e w' hh => ?_
  rw [dif_pos hk, if_pos hc] at hh
  exact hh
theorem tokenMark_no (w : World) (p : Nat) (s : ByteArray) (k : Nat) (c : UInt8) (h : CurAt tC w p s k) (hs : s.size ≤ 1099511627776) (hn : ∀ hk : k < s.size, s[k] ≠ c) :
    Calls Tryz.prog 243 #[.pointer (some ⟨p, 0, none⟩), .int .u8 c.toNat] w (CurPost tC w p s (.bool false) k) := by
  refine (tokenMark w p s k c h hs).mono fun e w' hh => ?_
  by_cases hk : k < s.size
  · rw [dif_pos hk, if_neg (hn hk)] at hh
    exact hh
  · rw [dif_neg hk] at hh
    exact hh
/-- a row of bytes as a text -/
theorem own_text {w : World} {base : Nat} {v : Value} {l : List UInt8} (h : OwnB w base v l) : (convert 193 9 v).run Tryz.prog w = .ok (.string ⟨l.toArray⟩) w := by
  by_cases h0 : l = []
  · subst h0
    obtain ⟨h1, h2⟩ := h
    rcases h2 with ⟨rfl, _⟩ | ⟨g, cap, cur, rfl, _⟩
    · rw [run_convert_bytes_string (P := Tryz.prog) w 193 9 5 none 0 0 Tryz.underlying193 Tryz.underlying5 Tryz.underlying9]
      rfl
    · exact run_convert_bytes_back (P := Tryz.prog) w 193 9 5 ⟨g, 0, none⟩ cap [] Tryz.underlying193 Tryz.underlying5 Tryz.underlying9 (fun j hj => by simp at hj)
  · obtain ⟨g, cap, rfl, hc⟩ := h.shape h0
    exact run_convert_bytes_back (P := Tryz.prog) w 193 9 5 ⟨g, 0, none⟩ cap l Tryz.underlying193 Tryz.underlying5 Tryz.underlying9 hc
theorem OwnB.drewN {w : World} {base : Nat} {v : Value} {l : List UInt8} (h : OwnB w base v l) (n : Nat) : OwnB (w.drewN n) base v l := h.later (below_drewN (Below.refl _ _) n)
/-- a store into an old block leaves a row of the call's own alone -/
theorem OwnB.far {w : World} {base : Nat} {v : Value} {l : List UInt8} (h : OwnB w base v l) (p : Nat) (hp : p < base) (i : Nat) (u : Value) : OwnB (w.setCell ⟨p, i, none⟩ u) base v l := by
  refine World.ownsRow.kept h (only_setCell (only_refl w (some p)) (.inl rfl) u) ?_
  cases hv : v.ownBlock with
  | none => exact .inl rfl
  | some g =>
    right
    intro e
    have := (World.ownsRow.lt h g hv).1
    have e' : g = p := by injection e
    omega

/-- what Quoted leaves -/
def QPost (T : TypeId) (w : World) (p : Nat) (s : ByteArray) (k : Nat) (e : Ending) (w' : World) : Prop :=
  match quotedAt s.data.toList k with
  | some x => CurPost T w p s (.tuple #[.string ⟨x.1.toArray⟩, .bool true]) x.2 e w'
  | none => CurPost T w p s (.tuple #[.string ⟨#[]⟩, .bool false]) k e w'
theorem QPost.some {T : TypeId} {w w' : World} {p : Nat} {s : ByteArray} {k : Nat} {e : Ending} {x : List UInt8 × Nat} (h : quotedAt s.data.toList k = .some x) (hp : CurPost T w p s (.tuple #[.string ⟨x.1.toArray⟩, .bool true]) x.2 e w') : QPost T w p s k e w' := by
  unfold QPost; rw [h]; exact hp
theorem QPost.none {T : TypeId} {w w' : World} {p : Nat} {s : ByteArray} {k : Nat} {e : Ending} (h : quotedAt s.data.toList k = .none) (hp : CurPost T w p s (.tuple #[.string ⟨#[]⟩, .bool false]) k e w') : QPost T w p s k e w' := by
  unfold QPost; rw [h]; exact hp

set_option maxRecDepth 100000 in
theorem tokenQuoted_no (w : World) (p : Nat) (s : ByteArray) (k : Nat) (h : CurAt tC w p s k) (hs : s.size ≤ 1099511627776) (hk : k ≤ s.size) (hn : ∀ hk : k < s.size, s[k] ≠ 34) :
    Calls Tryz.prog 308 #[.pointer (some ⟨p, 0, none⟩)] w (QPost tC w p s k) := by
  have hq : Hid (quotedAt s.data.toList k = none) := Lib.hid (by
    by_cases hlt : k < s.size
    · have hl : k < s.data.toList.length := by rw [← sz_len]; exact hlt
      refine quotedAt_no hl ?_
      rw [at_list s k hlt hl]
      intro e
      exact hn hlt (UInt8.toNat.inj e)
    · exact quotedAt_end (by rw [← sz_len]; omega))
  have c1 := h.c1
  have hm := tokenMark_no w p s k 34 h hs hn
  clear hn
  go_enter Tryz.func308, Tryz.ntmps308
  go_wp2_with fail
  refine hm.mono ?_
  rintro e w1 ⟨rfl, hC, hG⟩
  clear c1
  have c1 := hC.c1
  have f1 := hC.f1
  have hC' := Lib.hid hC
  have hG' := Lib.hid hG
  clear hC hG
  go_wp2
  go_loopg [] 0 (fun g wr => wr = w1)
  case atStart => rfl
  case round =>
    subst hrel
    go_wp2
    go_quiet (fail)
    go_wp2
    go_ret2
    exact QPost.none hq.out ⟨rfl, (hC'.out.drewN _).put k, only_setCell (only_drewN hG'.out _) (.inl rfl) _⟩

theorem OwnB.text {w : World} {base : Nat} {v : Value} {l : List UInt8} (h : OwnB w base v l) (j n : Nat) (p : Nat) (hp : p < base) (u : Value) : (convert 193 9 v).run Tryz.prog ((w.drewN n).setCell ⟨p, j, none⟩ u) = .ok (.string ⟨l.toArray⟩) ((w.drewN n).setCell ⟨p, j, none⟩ u) :=
  own_text ((h.drewN n).far p hp j u)
theorem wpList_append_byte' {ops : Array Oper} {rest : List Oper} {o : Oper} {a : Act} {Q : Exit → Act → World → Prop} (hgd : o.guard = none) (s x : Operand)
    (ho : o.op = .call { callee := .builtin .append, args := #[s, x], argTypes := #[193, 193] })
    (w : World) (base : Nat) (v : Value) (l : List UInt8) (hs : a.eval s = v) (hown : OwnB w base v l) (c : UInt8) (n : Int) (hn : n = (c.toNat : Int))
    (b : Nat) (hx : a.eval x = .slice (some ⟨b, 0, none⟩) 1 1) (hb : b = w.heap.size) (hl : l.length + 1 ≤ 140737488355328) (hbase : base ≤ w.heap.size)
    (h : ∀ v' w', OwnB w' base v' (l ++ [c]) → (w.alloc (.cells #[.int .u8 n] 5)).grownBy w' v.ownBlock → wpList Tryz.prog ops Q rest (a.put o.dst v') w') :
    wpList Tryz.prog ops Q (o :: rest) a (w.alloc (.cells #[.int .u8 n] 5)) := by
  subst hb
  exact wpList_append_byte hgd s x ho w base v l hs hown c n hn hx hl hbase h
theorem quoted_step {w w' w2 : World} {p : Nat} {s : ByteArray} {j : Nat} {acc : List UInt8} {v : Value} {o : Obj} (hC : CurAt tC w' p s j) (hG : w.grownBy w' (some p)) (hO : OwnB w' w.heap.size v acc) (hpw : p < w.heap.size) (hg1 : (w'.alloc o).grownBy w2 v.ownBlock) :
    CurAt tC w2 p s j ∧ w.grownBy w2 (some p) := by
  have hlt : ∀ g, v.ownBlock = some g → w.heap.size ≤ g := fun g hg => (World.ownsRow.lt hO g hg).1
  refine ⟨Blk.grown (Blk.alloc hC o) hg1 (fun e => ?_), only_grown (only_alloc hG o) hg1 (fun g hg => .inr (hlt g hg))⟩
  have := hlt p e
  omega
theorem drop_cons (s : ByteArray) (j : Nat) (h : j < s.size) : s.data.toList.drop j = s[j] :: s.data.toList.drop (j + 1) := by
  have hl : j < s.data.toList.length := by rw [← sz_len]; exact h
  rw [List.drop_eq_getElem_cons hl, at_list s j h hl]
set_option maxRecDepth 100000 in
set_option maxHeartbeats 1000000 in
theorem tokenQuoted_yes (w : World) (p : Nat) (s : ByteArray) (k : Nat) (h : CurAt tC w p s k) (hs : s.size ≤ 1099511627776) (hk : k < s.size) (hc : s[k] = 34) :
    Calls Tryz.prog 308 #[.pointer (some ⟨p, 0, none⟩)] w (QPost tC w p s k) := by
  have hq : Hid (quotedAt s.data.toList k = (qgo (s.data.toList.drop (k + 1)) []).map (fun x => (x.1, s.data.toList.length - x.2))) := Lib.hid (by
    have hl : k < s.data.toList.length := by rw [← sz_len]; exact hk
    exact quotedAt_go hl (by rw [at_list s k hk hl, hc]; rfl))
  have c1 := h.c1
  have hpw := h.lt
  have hm := tokenMark_yes w p s k 34 h hs hk hc
  clear hc
  go_enter Tryz.func308, Tryz.ntmps308
  go_wp2_with fail
  refine hm.mono ?_
  rintro e w1 ⟨rfl, hC, hG⟩
  clear c1
  have hC' := Lib.hid hC
  have hG' := Lib.hid hG
  clear hC hG
  go_wp2
  go_loopg [5] (s.size - (k + 1)) (fun g v wr => ∃ (j : Nat) (acc : List UInt8), Hid (g = s.size - j) ∧ k + 1 ≤ j ∧ j ≤ s.size ∧ acc.length ≤ j ∧ Hid (CurAt tC wr p s j) ∧ Hid (w.grownBy wr (some p)) ∧ OwnB wr w.heap.size v acc ∧ Hid (qgo (s.data.toList.drop (k + 1)) [] = qgo (s.data.toList.drop j) acc))
  case atStart => exact ⟨k + 1, [], Lib.hid rfl, Nat.le_refl _, hk, Nat.zero_le _, hC', hG', OwnB.nil _ _, Lib.hid rfl⟩
  case round =>
    obtain ⟨j, acc, hg, hkj, hj, hal, hC, hG, hO, hinv⟩ := hrel
    clear hC' hG'
    have hal1 : acc.length + 1 ≤ 140737488355328 := by omega
    have c0 := hC.out.c0
    have c1 := hC.out.c1
    have f1 := hC.out.f1
    by_cases hlt : j < s.size
    · have hd : decide (j < s.size) = true := by simpa using hlt
      have hdrop := Lib.hid (drop_cons s j hlt)
      have hbd := bd8 s[j]
      by_cases h34 : s[j].toNat = 34
      · have b34 : (((s[j].toNat : Int)) == 34) = true := by rw [h34]; rfl
        have hfin : Hid (quotedAt s.data.toList k = some (acc, j + 1)) := Lib.hid (by
          rw [hq.out, hinv.out, hdrop.out, qgo_mark _ _ h34]; simp only [Option.map_some, List.length_drop, ← sz_len]; congr 2; omega)
        clear h34
        have htx := fun n => OwnB.text hO 1 n p hpw (.int .i64 ((j + 1 : Nat) : Int))
        have htx' : ∀ n, (convert 193 9 u5).run Tryz.prog ((wr.drewN n).setCell ⟨p, 1, none⟩ (.int .i64 ((j : Int) + 1))) = .ok (.string ⟨acc.toArray⟩) ((wr.drewN n).setCell ⟨p, 1, none⟩ (.int .i64 ((j : Int) + 1))) := htx
        clear htx
        go_wp2
        go_quiet (fail)
        go_wp2
        go_quiet (fail)
        go_wp2
        go_ret2
        exact QPost.some hfin.out ⟨rfl, (hC.out.drewN _).put (j + 1), only_setCell (only_drewN hG.out _) (.inl rfl) _⟩
      · have b34 : (((s[j].toNat : Int)) == 34) = false := by rw [beq_eq_false_iff_ne]; omega
        have h34' := Lib.hid h34
        clear h34
        have hbs := hG.out.size
        by_cases h92 : s[j].toNat = 92
        · have b92 : (((s[j].toNat : Int)) == 92) = true := by rw [h92]; rfl
          have h92' := Lib.hid h92
          clear h92
          by_cases hlt1 : j + 1 < s.size
          · have hd1 : decide (j + 1 < s.size) = true := by simpa using hlt1
            have hd1' : decide ((j : Int) + 1 < (s.size : Int)) = true := by simp; omega
            have hdrop1 := Lib.hid (drop_cons s (j + 1) hlt1)
            have hi0 : (0 : Int) ≤ (j : Int) + 1 := by omega
            have hi1 : ((j : Int) + 1).toNat = j + 1 := by omega
            have hi2 : (j : Int) + 1 < (s.size : Int) := by omega
            have hbd1 := bd8 s[j + 1]
            cases hx : textB s[j + 1]
            · have hfin : Hid (quotedAt s.data.toList k = none) := Lib.hid (by rw [hq.out, hinv.out, hdrop.out, hdrop1.out, qgo_esc_no _ _ h92'.out hx]; rfl)
              go_wp2
              go_quiet (fail)
              go_wp2
              go_quiet (fail)
              go_wp2
              go_quiet (fail)
              go_wp2
              go_quiet (fail)
              go_wp2_with (go_at_call 238; refine (tokenText _ _).mono ?_; rintro e w' ⟨rfl, rfl⟩)
              go_ret2
              exact QPost.none hfin.out ⟨rfl, ((((hC.out.drewN _).put (j + 1)).drewN _).put (j + 2)).put k, only_setCell (only_setCell (only_drewN (only_setCell (only_drewN hG.out _) (.inl rfl) _) _) (.inl rfl) _) (.inl rfl) _⟩
            · go_wp2
              go_quiet (fail)
              go_wp2
              go_quiet (fail)
              go_wp2
              go_quiet (fail)
              go_wp2
              go_quiet (fail)
              go_wp2_with (first | (go_at_call 238; refine (tokenText _ _).mono ?_; rintro e w' ⟨rfl, rfl⟩) | (at_builtin; refine wpList_append_byte' rfl _ _ rfl _ w.heap.size _ acc rfl ?_ s[j + 1] _ rfl _ rfl ?_ hal1 ?_ ?_; exact (((hO.drewN _).far p hpw 1 _).drewN _).far p hpw 1 _; simp; (simpa using hbs); intro v1 w2 hO1 hg1))
              obtain ⟨hC2, hG2⟩ := quoted_step ((((hC.out.drewN _).put (j + 1)).drewN _).put (j + 2)) (only_setCell (only_drewN (only_setCell (only_drewN hG.out _) (.inl rfl) _) _) (.inl rfl) _) ((((hO.drewN _).far p hpw 1 _).drewN _).far p hpw 1 _) hpw hg1
              go_roundg (s.size - (j + 2))
              case rel => exact ⟨j + 2, acc ++ [s[j + 1]], Lib.hid rfl, by omega, by omega, by simp; omega, Lib.hid hC2, Lib.hid hG2, hO1, Lib.hid (by rw [hinv.out, hdrop.out, hdrop1.out, qgo_esc _ _ h92'.out hx])⟩
              case measure => have := hg.out; omega
          · have hd1' : decide ((j : Int) + 1 < (s.size : Int)) = false := by simp; omega
            have hfin : Hid (quotedAt s.data.toList k = none) := Lib.hid (by
              rw [hq.out, hinv.out, hdrop.out, List.drop_eq_nil_of_le (by rw [← sz_len]; omega), qgo_back _ h92'.out]; rfl)
            go_wp2
            go_quiet (fail)
            go_wp2
            go_quiet (fail)
            go_wp2
            go_quiet (fail)
            go_wp2
            go_ret2
            exact QPost.none hfin.out ⟨rfl, (((hC.out.drewN _).put (j + 1)).drewN _).put k, only_setCell (only_drewN (only_setCell (only_drewN hG.out _) (.inl rfl) _) _) (.inl rfl) _⟩
        · have b92 : (((s[j].toNat : Int)) == 92) = false := by rw [beq_eq_false_iff_ne]; omega
          have h92' := Lib.hid h92
          clear h92
          cases hx : textB s[j]
          · have hfin : Hid (quotedAt s.data.toList k = none) := Lib.hid (by rw [hq.out, hinv.out, hdrop.out, qgo_no _ _ h34'.out h92'.out hx]; rfl)
            go_wp2
            go_quiet (fail)
            go_wp2
            go_quiet (fail)
            go_wp2
            go_quiet (fail)
            go_wp2_with (go_at_call 238; refine (tokenText _ _).mono ?_; rintro e w' ⟨rfl, rfl⟩)
            go_ret2
            exact QPost.none hfin.out ⟨rfl, (((hC.out.drewN _).put (j + 1)).drewN _).put k, only_setCell (only_drewN (only_setCell (only_drewN hG.out _) (.inl rfl) _) _) (.inl rfl) _⟩
          · go_wp2
            go_quiet (fail)
            go_wp2
            go_quiet (fail)
            go_wp2
            go_quiet (fail)
            go_wp2_with (first | (go_at_call 238; refine (tokenText _ _).mono ?_; rintro e w' ⟨rfl, rfl⟩) | (at_builtin; refine wpList_append_byte' rfl _ _ rfl _ w.heap.size _ acc rfl ?_ s[j] _ rfl _ rfl ?_ hal1 ?_ ?_; exact ((hO.drewN _).far p hpw 1 _).drewN _; simp; (simpa using hbs); intro v1 w2 hO1 hg1))
            obtain ⟨hC2, hG2⟩ := quoted_step (((hC.out.drewN _).put (j + 1)).drewN _) (only_drewN (only_setCell (only_drewN hG.out _) (.inl rfl) _) _) (((hO.drewN _).far p hpw 1 _).drewN _) hpw hg1
            go_roundg (s.size - (j + 1))
            case rel => exact ⟨j + 1, acc ++ [s[j]], Lib.hid rfl, by omega, by omega, by simp; omega, Lib.hid hC2, Lib.hid hG2, hO1, Lib.hid (by rw [hinv.out, hdrop.out, qgo_text _ _ h34'.out h92'.out hx])⟩
            case measure => have := hg.out; omega
    · have hd : decide (j < s.size) = false := by simpa using hlt
      have hfin : Hid (quotedAt s.data.toList k = none) := Lib.hid (by rw [hq.out, hinv.out, List.drop_eq_nil_of_le (by rw [← sz_len]; omega)]; rfl)
      go_wp2
      go_quiet (fail)
      go_wp2
      go_ret2
      exact QPost.none hfin.out ⟨rfl, (hC.out.drewN _).put k, only_setCell (only_drewN hG.out _) (.inl rfl) _⟩

theorem tokenQuoted (w : World) (p : Nat) (s : ByteArray) (k : Nat) (h : CurAt tC w p s k) (hs : s.size ≤ 1099511627776) (hk : k ≤ s.size) :
    Calls Tryz.prog 308 #[.pointer (some ⟨p, 0, none⟩)] w (QPost tC w p s k) := by
  by_cases hlt : k < s.size
  · by_cases hc : s[k] = 34
    · exact tokenQuoted_yes w p s k h hs hlt hc
    · exact tokenQuoted_no w p s k h hs hk (fun _ => hc)
  · exact tokenQuoted_no w p s k h hs hk (fun h' => absurd h' hlt)
end Go.Proofs.YtnfcdccdmlodeaaGreatDoor
/- The reference's cursor: Go, Blanks, Mark, Word. -/
namespace Go.Proofs.YtnfcdccdmlodeaaGreatDoor
open Go.RowKit

abbrev tR : TypeId := 203
theorem blank_cut (c : UInt8) : ([32, 9] : List UInt8).contains c = isBl c := by
  have h : ∀ n : Fin 256, ([32, 9] : List UInt8).contains (UInt8.ofNat n.val) = isBl (UInt8.ofNat n.val) := by decide +kernel
  simpa using h ⟨c.toNat, c.toNat_lt⟩
theorem trim_blanks (s : ByteArray) (k : Nat) : (Lib.trimLeftS (s.extract k s.size).data.toList [32, 9]).length + blanksN s k = s.size - k := by
  unfold Lib.trimLeftS blanksN spanAt
  rw [show (fun c : UInt8 => ([32, 9] : List UInt8).contains c) = isBl from funext blank_cut, Lib.extract_to_end]
  have := congrArg List.length (List.takeWhile_append_dropWhile (p := isBl) (l := s.data.toList.drop k))
  rw [List.length_append, List.length_drop, ← sz_len] at this
  omega
theorem mkC {w : World} {T : TypeId} {p : Nat} {s : ByteArray} {k : Nat} (h : CurAt T w p s k) (w' : World) (hB : Below w.heap.size w w') : Below w.heap.size w w' ∧ w'.cell? ⟨p, 0, none⟩ = some (.string s) ∧ w'.cell? ⟨p, 1, none⟩ = some (.int .i64 (k : Int)) :=
  ⟨hB, (h.later hB).c0, (h.later hB).c1⟩
set_option maxRecDepth 100000 in
theorem refBlanks (w : World) (p : Nat) (s : ByteArray) (k : Nat) (h : CurAt tR w p s k) (hs : s.size ≤ 1099511627776) (hk : k ≤ s.size) :
    Calls Tryz.prog 141 #[.pointer (some ⟨p, 0, none⟩)] w (CurPost tR w p s (.bool (decide (0 < blanksN s k))) (k + blanksN s k)) := by
  have c0 := h.c0
  have c1 := h.c1
  have ht := fun w' => stringsTrimLeft (s.extract k s.size) ⟨#[32, 9]⟩ w' (by decide) (Go.Proofs.ascii_of_all (by decide))
  obtain ⟨T, hT⟩ : ∃ T : ByteArray, T = ⟨(Lib.trimLeftS (s.extract k s.size).data.toList (⟨#[32, 9]⟩ : ByteArray).data.toList).toArray⟩ := ⟨_, rfl⟩
  rw [← hT] at ht
  have hTs : T.size + blanksN s k = s.size - k := by rw [hT, mk_len]; exact trim_blanks s k
  clear hT
  have hsub : ((s.size - k : Nat) : Int) - (T.size : Int) = (blanksN s k : Int) := by omega
  have hle := blanksN_le s k hk
  have hkk : (k : Int) ≤ (s.size : Int) := by omega
  have hTs' := Lib.hid hTs
  clear hTs
  have H := Lib.hid h
  have hmk := fun w' hB => mkC h w' hB
  clear h
  go_enter Tryz.func141, Tryz.ntmps141
  go_wp2_with fail
  clear c0 c1
  go_region_held3 (fun w' => Below w.heap.size w w' ∧ w'.cell? ⟨p, 0, none⟩ = some (.string s) ∧ w'.cell? ⟨p, 1, none⟩ = some (.int .i64 (k : Int)))
    (first | (exact hmk _ (Below.refl _ _).drew) | (go_split_ands; exact hmk _ ((by assumption : Below w.heap.size w _).then (Nat.le_refl _) (by assumption))))
    (first | (go_at_call 214; go_split_ands; refine (ht _).mono ?_; rintro e w2 ⟨rfl, hB2⟩))
  go_split_ands
  have hBw : Below w.heap.size w w2 := by assumption
  have hC2 := H.out.later hBw
  have f1 := hC2.f1
  have hG := Lib.hid (only_of_below hBw (some p))
  have hC2' := Lib.hid hC2
  clear hC2
  go_wp2
  go_ret
  exact ⟨ret_bool (by simp), hC2'.out.put (k + blanksN s k), only_setCell hG.out (.inl rfl) _⟩
/-- what Mark leaves -/
def MarkPost (T : TypeId) (w : World) (p : Nat) (s : ByteArray) (k : Nat) (c : UInt8) (e : Ending) (w' : World) : Prop :=
  if hk : k < s.size then (if s[k] = c then CurPost T w p s (.bool true) (k + 1) e w' else CurPost T w p s (.bool false) k e w') else CurPost T w p s (.bool false) k e w'
set_option maxRecDepth 100000 in
theorem refMark (w : World) (p : Nat) (s : ByteArray) (k : Nat) (c : UInt8) (h : CurAt tR w p s k) (hs : s.size ≤ 1099511627776) (hk : k ≤ s.size) :
    Calls Tryz.prog 216 #[.pointer (some ⟨p, 0, none⟩), .int .u8 c.toNat] w (MarkPost tR w p s k c) := by
  have c0 := h.c0
  have c1 := h.c1
  have hcc : chr (c.toNat : Int) = c := by unfold chr; have := c.toNat_lt; rw [show ((c.toNat : Int) % 256).toNat = c.toNat by omega]; simp
  have hval : Lib.hasPrefix (s.extract k s.size).data.toList (⟨#[chr (c.toNat : Int)]⟩ : ByteArray).data.toList = (s.data.toList[k]? == some c) := by
    rw [Lib.extract_to_end, hcc]
    by_cases hlt : k < s.size
    · have hl : k < s.data.toList.length := by rw [← sz_len]; exact hlt
      rw [List.drop_eq_getElem_cons hl, List.getElem?_eq_getElem hl, Bool.eq_iff_iff]
      simp [Lib.hasPrefix, List.isPrefixOf]
      exact eq_comm
    · rw [List.drop_eq_nil_of_le (by rw [← sz_len]; omega), List.getElem?_eq_none (by rw [← sz_len]; omega)]
      rfl
  have hpx : ∀ w' : World, Calls Tryz.prog 75 #[.string (s.extract k s.size), .string ⟨#[chr (c.toNat : Int)]⟩] w' fun e w'' => e = .returned (.bool (s.data.toList[k]? == some c)) ∧ w' = w'' := by
    intro w'
    refine (Tryz.strings_HasPrefix (s.extract k s.size) ⟨#[chr (c.toNat : Int)]⟩ w').mono ?_
    rintro e w'' ⟨rfl, rfl⟩
    exact ⟨by rw [hval], rfl⟩
  clear hcc hval
  have hkk : (k : Int) ≤ (s.size : Int) := by omega
  have hwr : IntKind.i64.wrap (c.toNat : Int) = (c.toNat : Int) := IntWalk.i64_in _ (by have := c.toNat_lt; omega)
  have H := Lib.hid h
  have hmk := fun w' hB => mkC h w' hB
  have hif : Hid (∀ (hlt : k < s.size), s[k] = c ↔ (s.data.toList[k]? == some c) = true) := Lib.hid (by
    intro hlt
    have hl : k < s.data.toList.length := by rw [← sz_len]; exact hlt
    rw [List.getElem?_eq_getElem hl, at_list s k hlt hl]; simp)
  have hno : Hid (¬ k < s.size → (s.data.toList[k]? == some c) = false) := Lib.hid (by
    intro hlt
    rw [List.getElem?_eq_none (by rw [← sz_len]; omega)]; rfl)
  clear h
  cases hb : (s.data.toList[k]? == some c)
  all_goals
    rw [hb] at hpx hif hno
    clear hb
    go_enter Tryz.func216, Tryz.ntmps216
    go_wp2_with fail
    clear c0 c1
    go_region_held3 (fun w' => Below w.heap.size w w' ∧ w'.cell? ⟨p, 0, none⟩ = some (.string s) ∧ w'.cell? ⟨p, 1, none⟩ = some (.int .i64 (k : Int)))
      (first | (exact hmk _ (Below.refl _ _).drew) | (go_split_ands; refine hmk _ ?_; assumption) | (go_split_ands; exact hmk _ ((by assumption : Below w.heap.size w _).then (Nat.le_refl _) (by assumption))))
      (first | (go_at_call 201; go_split_ands; refine (char_any _ _).mono ?_; rintro e w2 ⟨rfl, hB2⟩) | (go_at_call 75; go_split_ands; refine (hpx _).mono ?_; rintro e w3 ⟨rfl, rfl⟩))
    go_split_ands
    have hBw : Below w.heap.size w w2 := by assumption
    have hC2 := H.out.later hBw
    have f1 := hC2.f1
    have hG := Lib.hid (only_of_below hBw (some p))
    have hC2' := Lib.hid hC2
    clear hC2
    go_wp2
    go_ret
    unfold MarkPost
  · by_cases hlt : k < s.size
    · rw [dif_pos hlt, if_neg (fun e => by have := (hif.out hlt).1 e; cases this)]
      exact ⟨rfl, hC2'.out, hG.out⟩
    · rw [dif_neg hlt]
      exact ⟨rfl, hC2'.out, hG.out⟩
  · by_cases hlt : k < s.size
    · rw [dif_pos hlt, if_pos ((hif.out hlt).2 trivial)]
      exact ⟨rfl, hC2'.out.put (k + 1), only_setCell hG.out (.inl rfl) _⟩
    · have := hno.out hlt
      cases this

set_option maxRecDepth 100000 in
theorem refWord (w : World) (p : Nat) (s : ByteArray) (k : Nat) (h : CurAt tR w p s k) (hs : s.size ≤ 1099511627776) (hk : k ≤ s.size) :
    Calls Tryz.prog 140 #[.pointer (some ⟨p, 0, none⟩)] w (CurPost tR w p s (.string ⟨(wordAt s k).toArray⟩) (k + (wordAt s k).length)) := by
  go_enter Tryz.func140, Tryz.ntmps140
  go_wp2
  go_loopg [3] (s.size - k) (fun g o wr => ∃ (j : Nat) (S : ByteArray), k ≤ j ∧ j ≤ s.size ∧ o = .string S ∧ S.size ≤ j ∧ Hid (g = s.size - j) ∧ Hid (CurAt tR wr p s j) ∧ Hid (w.grownBy wr (some p)) ∧ Hid (S.data.toList ++ spanAt tokB s.data.toList j = spanAt tokB s.data.toList k) ∧ Hid (S.data.toList.length = j - k))
  case atStart => exact ⟨k, ⟨#[]⟩, Nat.le_refl _, hk, rfl, Nat.zero_le _, Lib.hid rfl, Lib.hid h, Lib.hid (only_refl _ _), Lib.hid (by simp), Lib.hid (by simp)⟩
  case round =>
    obtain ⟨j, S, hkj, hj, rfl, hSj, hg, hC, hG, hspan, hlen⟩ := hrel
    have c0 := hC.out.c0
    have c1 := hC.out.c1
    have f1 := hC.out.f1
    by_cases hlt : j < s.size
    · have hl : j < s.data.toList.length := by rw [← sz_len]; exact hlt
      have hd : decide (j < s.size) = true := by simpa using hlt
      cases hb : tokB s[j]
      · have hst : Hid (spanAt tokB s.data.toList j = []) := Lib.hid (spanAt_stop hl (by rw [at_list s j hlt hl]; exact hb))
        have hfin : Hid (S = ⟨(wordAt s k).toArray⟩ ∧ k + (wordAt s k).length = j) := Lib.hid (by
          have h1 := hspan.out; rw [hst.out, List.append_nil] at h1
          exact ⟨ba_eq h1, by unfold wordAt; rw [← h1, hlen.out]; omega⟩)
        go_wp2
        go_quiet ((go_at_call 208; exact quiet_left' (refTokenByte _ _)))
        go_wp2
        go_ret
        exact ⟨by rw [← hfin.out.1]; rfl, by rw [hfin.out.2]; exact hC.out.drewN _, only_drewN hG.out _⟩
      · have hgo := spanAt_go hl (by rw [at_list s j hlt hl]; exact hb)
        rw [at_list s j hlt hl] at hgo
        have hgo' := Lib.hid hgo
        clear hgo
        have hx : Hid ((s.extract j (j + 1)).data.toList = [s[j]]) := Lib.hid (by
          rw [Lib.extract_data, List.drop_eq_getElem_cons hl, at_list s j hlt hl, show j + 1 - j = 1 by omega]; rfl)
        have hxs : (s.extract j (j + 1)).size ≤ 1 := by rw [sz_len, hx.out]; exact Nat.le_refl _
        have hadd := fun w' => run_string_add_sum (P := Tryz.prog) w' S (s.extract j (j + 1)) (by omega)
        have hsum : IntKind.i64.wrap ((j : Int) + 1) = (j : Int) + 1 := IntWalk.i64_in _ (by omega)
        have hsum0 : (0 : Int) ≤ (j : Int) + 1 := by omega
        have hsum1 : ((j : Int) + 1).toNat = j + 1 := by omega
        have hsum2 : (j : Int) + 1 ≤ (s.size : Int) := by omega
        have hsum3 : (j : Int) ≤ (j : Int) + 1 := by omega
        go_wp2
        go_quiet ((go_at_call 208; exact quiet_left' (refTokenByte _ _)))
        go_wp2
        go_quiet (fail)
        clear hsum
        go_wp2
        go_roundg (s.size - (j + 1))
        case rel => exact ⟨j + 1, S ++ s.extract j (j + 1), by omega, by omega, rfl, by rw [add_size]; omega, Lib.hid rfl, Lib.hid ((hC.out.drewN _).put (j + 1)), Lib.hid (only_setCell (only_drewN hG.out _) (.inl rfl) _), Lib.hid (by rw [add_toList, hx.out, ← hspan.out, hgo'.out]; simp), Lib.hid (by rw [add_toList, List.length_append, hlen.out, hx.out]; simp; omega)⟩
        case measure => have := hg.out; omega
    · have hd : decide (j < s.size) = false := by simpa using hlt
      have hst : Hid (spanAt tokB s.data.toList j = []) := Lib.hid (spanAt_end (by rw [← sz_len]; omega))
      have hfin : Hid (S = ⟨(wordAt s k).toArray⟩ ∧ k + (wordAt s k).length = j) := Lib.hid (by
        have h1 := hspan.out; rw [hst.out, List.append_nil] at h1
        exact ⟨ba_eq h1, by unfold wordAt; rw [← h1, hlen.out]; omega⟩)
      go_wp2
      go_quiet (fail)
      go_wp2
      go_ret
      exact ⟨by rw [← hfin.out.1]; rfl, by rw [hfin.out.2]; exact hC.out.drewN _, only_drewN hG.out _⟩
end Go.Proofs.YtnfcdccdmlodeaaGreatDoor
/- The reference's quoted, and its cursor's Quoted. -/
namespace Go.Proofs.YtnfcdccdmlodeaaGreatDoor
open Go.RowKit

/-- what quoted returns -/
def quotedRes (l : List UInt8) : Value := match quotedAt l 0 with
  | some x => .tuple #[.string ⟨x.1.toArray⟩, .int .i64 (x.2 : Int)]
  | none => .tuple #[.string ⟨#[]⟩, .int .i64 0]
theorem quotedRes_some {l : List UInt8} {x : List UInt8 × Nat} (h : quotedAt l 0 = some x) : quotedRes l = .tuple #[.string ⟨x.1.toArray⟩, .int .i64 (x.2 : Int)] := by unfold quotedRes; rw [h]
theorem quotedRes_none {l : List UInt8} (h : quotedAt l 0 = none) : quotedRes l = .tuple #[.string ⟨#[]⟩, .int .i64 0] := by unfold quotedRes; rw [h]
theorem ret2i {a b : ByteArray} {m n : Int} (h : a = b) (h' : m = n) : Ending.returned (.tuple #[.string a, .int .i64 m]) = .returned (.tuple #[.string b, .int .i64 n]) := by rw [h, h']

set_option maxRecDepth 100000 in
set_option maxHeartbeats 1000000 in
theorem refQuotedFn (s : ByteArray) (w : World) (hs : s.size ≤ 1099511627776) :
    Calls Tryz.prog 290 #[.string s] w fun e w' => e = .returned (quotedRes s.data.toList) ∧ w = w' := by
  by_cases h0 : s.size = 0
  · have hTl : s.data.toList = [] := List.length_eq_zero_iff.1 (by rw [← sz_len]; exact h0)
    have hTe : s.toList.isEmpty = true := by rw [Lib.toList_data, hTl]; rfl
    have hTl' := Lib.hid hTl
    clear h0 hTl
    go_enter Tryz.func290, Tryz.ntmps290
    go_wp2
    go_ret2
    exact ⟨by rw [quotedRes_none (by rw [hTl'.out]; rfl)]; rfl, rfl⟩
  have h0' : 0 < s.size := by omega
  have hTe : s.toList.isEmpty = false := by
    rw [Lib.toList_data]
    cases hl : s.data.toList with
    | nil => rw [sz_len, hl] at h0; exact absurd rfl h0
    | cons a l => rfl
  have hl0 : 0 < s.data.toList.length := by rw [← sz_len]; exact h0'
  have hbd0 := bd8 s[0]
  by_cases hq34 : s[0].toNat = 34
  · have b34 : (((s[0].toNat : Int)) == 34) = true := by rw [hq34]; rfl
    have b34' : (((s[0].toNat : Int)) != 34) = false := by simp [hq34]
    have hq : Hid (quotedAt s.data.toList 0 = (qgo (s.data.toList.drop 1) []).map (fun x => (x.1, s.data.toList.length - x.2))) := Lib.hid (quotedAt_go hl0 (by rw [at_list s 0 h0' hl0]; exact hq34))
    clear hq34 h0
    go_enter Tryz.func290, Tryz.ntmps290
    go_wp2
    go_loop [4, 5] (fun o i => ∃ (j : Nat) (S : ByteArray), j ≤ s.size ∧ i = .int .i64 j ∧ o = .string S ∧ S.size ≤ j ∧ Hid (qgo (s.data.toList.drop 1) [] = qgo (s.data.toList.drop j) S.data.toList)) (fun _ i => s.size - (intOf i).toNat)
    case atStart => exact ⟨1, ⟨#[]⟩, h0', rfl, rfl, Nat.zero_le _, Lib.hid rfl⟩
    case round =>
      obtain ⟨j, S, hj, rfl, rfl, hSj, hinv⟩ := hrel
      by_cases hlt : j < s.size
      · have hl : j < s.data.toList.length := by rw [← sz_len]; exact hlt
        have hdrop := Lib.hid (drop_cons s j hlt)
        have hbd := bd8 s[j]
        by_cases h34 : s[j].toNat = 34
        · have c34 : (((s[j].toNat : Int)) == 34) = true := by rw [h34]; rfl
          have hfin : Hid (quotedAt s.data.toList 0 = some (S.data.toList, j + 1)) := Lib.hid (by
            rw [hq.out, hinv.out, hdrop.out, qgo_mark _ _ h34]; simp only [Option.map_some, List.length_drop, ← sz_len]; congr 2; omega)
          clear h34
          go_wp2_with (go_at_call 206; refine (refTextByte _ _).mono ?_; rintro e w' ⟨rfl, rfl⟩)
          go_ret2
          exact ⟨by rw [quotedRes_some hfin.out]; rfl, rfl⟩
        · have c34 : (((s[j].toNat : Int)) == 34) = false := by rw [beq_eq_false_iff_ne]; omega
          have h34' := Lib.hid h34
          clear h34
          by_cases h92 : s[j].toNat = 92
          · have c92 : (((s[j].toNat : Int)) == 92) = true := by rw [h92]; rfl
            have h92' := Lib.hid h92
            clear h92
            by_cases hlt1 : j + 1 < s.size
            · have hl1 : j + 1 < s.data.toList.length := by rw [← sz_len]; exact hlt1
              have hdrop1 := Lib.hid (drop_cons s (j + 1) hlt1)
              have hbd1 := bd8 s[j + 1]
              have hi0 : (0 : Int) ≤ (j : Int) + 1 := by omega
              have hi1 : ((j : Int) + 1).toNat = j + 1 := by omega
              have hi2 : (j : Int) + 1 < (s.size : Int) := by omega
              have hi3 : (((j : Int) + 1) == (s.size : Int)) = false := by rw [beq_eq_false_iff_ne]; omega
              cases hx : textB s[j + 1]
              · have hfin : Hid (quotedAt s.data.toList 0 = none) := Lib.hid (by rw [hq.out, hinv.out, hdrop.out, hdrop1.out, qgo_esc_no _ _ h92'.out hx]; rfl)
                go_wp2_with (go_at_call 206; refine (refTextByte _ _).mono ?_; rintro e w' ⟨rfl, rfl⟩)
                go_ret2
                exact ⟨by rw [quotedRes_none hfin.out]; rfl, rfl⟩
              · have hx1 : Hid ((s.extract (j + 1) (j + 2)).data.toList = [s[j + 1]]) := Lib.hid (by
                  rw [Lib.extract_data, List.drop_eq_getElem_cons hl1, at_list s (j + 1) hlt1 hl1, show j + 2 - (j + 1) = 1 by omega]; rfl)
                have hxs : (s.extract (j + 1) (j + 2)).size ≤ 1 := by rw [sz_len, hx1.out]; exact Nat.le_refl _
                have hadd := fun w' => run_string_add_sum (P := Tryz.prog) w' S (s.extract (j + 1) (j + 2)) (by omega)
                go_wp2_with (go_at_call 206; refine (refTextByte _ _).mono ?_; rintro e w' ⟨rfl, rfl⟩)
                go_round
                case rel => exact ⟨j + 2, S ++ s.extract (j + 1) (j + 2), by omega, by go_num, rfl, by rw [add_size]; omega, Lib.hid (by rw [hinv.out, hdrop.out, hdrop1.out, qgo_esc _ _ h92'.out hx, add_toList, hx1.out])⟩
                case measure => simp [intOf]; omega
            · have hi3 : (((j : Int) + 1) == (s.size : Int)) = true := by rw [beq_iff_eq]; omega
              have hfin : Hid (quotedAt s.data.toList 0 = none) := Lib.hid (by
                rw [hq.out, hinv.out, hdrop.out, List.drop_eq_nil_of_le (by rw [← sz_len]; omega), qgo_back _ h92'.out]; rfl)
              go_wp2_with (go_at_call 206; refine (refTextByte _ _).mono ?_; rintro e w' ⟨rfl, rfl⟩)
              go_ret2
              exact ⟨by rw [quotedRes_none hfin.out]; rfl, rfl⟩
          · have c92 : (((s[j].toNat : Int)) == 92) = false := by rw [beq_eq_false_iff_ne]; omega
            have h92' := Lib.hid h92
            clear h92
            cases hx : textB s[j]
            · have hfin : Hid (quotedAt s.data.toList 0 = none) := Lib.hid (by rw [hq.out, hinv.out, hdrop.out, qgo_no _ _ h34'.out h92'.out hx]; rfl)
              go_wp2_with (go_at_call 206; refine (refTextByte _ _).mono ?_; rintro e w' ⟨rfl, rfl⟩)
              go_ret2
              exact ⟨by rw [quotedRes_none hfin.out]; rfl, rfl⟩
            · have hx1 : Hid ((s.extract j (j + 1)).data.toList = [s[j]]) := Lib.hid (by
                rw [Lib.extract_data, List.drop_eq_getElem_cons hl, at_list s j hlt hl, show j + 1 - j = 1 by omega]; rfl)
              have hxs : (s.extract j (j + 1)).size ≤ 1 := by rw [sz_len, hx1.out]; exact Nat.le_refl _
              have hadd := fun w' => run_string_add_sum (P := Tryz.prog) w' S (s.extract j (j + 1)) (by omega)
              go_wp2_with (go_at_call 206; refine (refTextByte _ _).mono ?_; rintro e w' ⟨rfl, rfl⟩)
              go_round
              case rel => exact ⟨j + 1, S ++ s.extract j (j + 1), by omega, by go_num, rfl, by rw [add_size]; omega, Lib.hid (by rw [hinv.out, hdrop.out, qgo_text _ _ h34'.out h92'.out hx, add_toList, hx1.out])⟩
              case measure => simp [intOf]; omega
      · have hfin : Hid (quotedAt s.data.toList 0 = none) := Lib.hid (by rw [hq.out, hinv.out, List.drop_eq_nil_of_le (by rw [← sz_len]; omega)]; rfl)
        go_wp2
        go_ret2
        exact ⟨by rw [quotedRes_none hfin.out]; rfl, rfl⟩
  · have b34' : (((s[0].toNat : Int)) != 34) = true := by simp; omega
    have hfin : Hid (quotedAt s.data.toList 0 = none) := Lib.hid (quotedAt_no hl0 (by rw [at_list s 0 h0' hl0]; exact hq34))
    clear hq34 h0
    go_enter Tryz.func290, Tryz.ntmps290
    go_wp2
    go_ret2
    exact ⟨by rw [quotedRes_none hfin.out]; rfl, rfl⟩

theorem quotedAt_shift (l : List UInt8) (k : Nat) (hk : k ≤ l.length) : quotedAt l k = (quotedAt (l.drop k) 0).map (fun x => (x.1, k + x.2)) := by
  unfold quotedAt
  rw [List.drop_zero]
  cases hd : l.drop k with
  | nil => rfl
  | cons c r =>
    have hlen := congrArg List.length hd
    rw [List.length_drop, List.length_cons] at hlen
    simp only
    split
    · cases hg : qgo r [] with
      | none => rfl
      | some x =>
        have := qgo_len _ _ _ _ (Nat.le_refl _) hg
        simp only [Option.map_some, List.length_cons]
        congr 2
        omega
    · rfl
set_option maxRecDepth 100000 in
theorem refQuoted (w : World) (p : Nat) (s : ByteArray) (k : Nat) (h : CurAt tR w p s k) (hs : s.size ≤ 1099511627776) (hk : k ≤ s.size) :
    Calls Tryz.prog 217 #[.pointer (some ⟨p, 0, none⟩)] w (QPost tR w p s k) := by
  have c0 := h.c0
  have c1 := h.c1
  have f1 := h.f1
  have hkk : (k : Int) ≤ (s.size : Int) := by omega
  have hes : (s.extract k s.size).size ≤ s.size := by rw [sz_len, Lib.extract_to_end, List.length_drop, ← sz_len]; omega
  have hr := fun w' => refQuotedFn (s.extract k s.size) w' (by omega)
  rw [Lib.extract_to_end] at hr
  have hsh := quotedAt_shift s.data.toList k (by rw [← sz_len]; exact hk)
  cases hq : quotedAt (s.data.toList.drop k) 0 with
  | none =>
    rw [quotedRes_none hq] at hr
    rw [hq] at hsh
    have hsh' := Lib.hid hsh
    clear hq hsh hes
    go_enter Tryz.func217, Tryz.ntmps217
    go_wp2
    go_quiet ((go_at_call 290; exact quiet_left' (hr _)))
    go_wp2
    go_ret2
    exact QPost.none hsh'.out ⟨rfl, (h.drewN _).put k, only_setCell (only_drewN (only_refl _ _) _) (.inl rfl) _⟩
  | some x =>
    have hbd := quotedAt_bd hq
    rw [List.length_drop, ← sz_len] at hbd
    obtain ⟨_, hb1, hb2⟩ := hbd
    rw [quotedRes_some hq] at hr
    rw [hq] at hsh
    have hsh' := Lib.hid hsh
    clear hq hsh hes
    obtain ⟨t, m⟩ := x
    simp only at hb1 hb2 hr
    go_enter Tryz.func217, Tryz.ntmps217
    go_wp2
    go_quiet ((go_at_call 290; exact quiet_left' (hr _)))
    go_wp2
    go_ret2
    exact QPost.some hsh'.out ⟨rfl, (h.drewN _).put (k + m), only_setCell (only_drewN (only_refl _ _) _) (.inl rfl) _⟩
end Go.Proofs.YtnfcdccdmlodeaaGreatDoor
