/- token.Quote and the reference's Quote: a text between marks. -/
import Derived.Test.YtnmeifobikemlaaDoorOwnB
import Derived.Test.YtnmeifobikemlaaDoorToken
import Derived.Test.YtnmeifobikemlaaDoorJoin
import Derived.Test.YtnmeifobikemlaaDoorPlace
namespace Go.Proofs.YtnmeifobikemlaaDoor
open Go.RowKit

/-- a byte that may stand between marks -/
def textB (c : UInt8) : Bool := decide (c.toNat = 9 ∨ 32 ≤ c.toNat ∧ c.toNat ≠ 127)
theorem tokenText (c : UInt8) (w : World) : Calls Tryd.prog 59 #[.int .u8 c.toNat] w fun e w' => e = .returned (.bool (textB c)) ∧ w = w' := by
  have hb := bd8 c
  go_enter Tryd.func59, Tryd.ntmps59
  go_wp2
  all_goals go_ret
  all_goals
    refine ⟨ret_bool ?_, rfl⟩
    unfold textB
    rw [Bool.eq_iff_iff]
    simp
    try omega
theorem refTextByte (c : UInt8) (w : World) : Calls Tryd.prog 58 #[.int .u8 c.toNat] w fun e w' => e = .returned (.bool (textB c)) ∧ w = w' := by
  have hb := bd8 c
  go_enter Tryd.func58, Tryd.ntmps58
  go_wp2
  all_goals go_ret
  all_goals
    refine ⟨ret_bool ?_, rfl⟩
    unfold textB
    rw [Bool.eq_iff_iff]
    simp
    try omega

/-- a byte as it stands between marks -/
def esc (c : UInt8) : List UInt8 := if c.toNat = 34 ∨ c.toNat = 92 then [92, c] else [c]
def escs (l : List UInt8) : List UInt8 := l.flatMap esc
theorem escs_succ (l : List UInt8) (k : Nat) (h : k < l.length) : escs (l.take (k + 1)) = escs (l.take k) ++ esc l[k] := by
  unfold escs; rw [List.take_succ_eq_append_getElem h, List.flatMap_append]; simp
theorem escs_len (l : List UInt8) : (escs l).length ≤ 2 * l.length := by
  induction l with
  | nil => simp [escs]
  | cons c l ih =>
    have : (esc c).length ≤ 2 := by unfold esc; split <;> simp
    simp only [escs, List.flatMap_cons, List.length_append, List.length_cons] at *
    omega
theorem escs_take_len (l : List UInt8) (k : Nat) (h : k ≤ l.length) : (escs (l.take k)).length ≤ 2 * k := by
  have := escs_len (l.take k); rw [List.length_take, Nat.min_eq_left h] at this; exact this
/-- between marks -/
def quoted (l : List UInt8) : List UInt8 := 34 :: (escs l ++ [34])
def quotable (l : List UInt8) : Bool := l.all textB

theorem ret2 {a a' b b' : Value} (h : a = a') (h' : b = b') : Ending.returned (.tuple #[a, b]) = .returned (.tuple #[a', b']) := by rw [h, h']

def quoteRes (l : List UInt8) (bad good : Value) : Value := if quotable l then .tuple #[.string ⟨(quoted l).toArray⟩, good] else .tuple #[.string ⟨#[]⟩, bad]

theorem ext_one (s : ByteArray) (k : Nat) (h : k < s.size) : s.extract k (k + 1) = ⟨#[s[k]]⟩ := by
  have h' : k < s.data.toList.length := by rw [← size_data]; exact h
  rw [Lib.extract_eq]
  congr 1
  rw [show k + 1 - k = 1 by omega, List.drop_eq_getElem_cons h', data_getElem s k h h']
  rfl

set_option maxRecDepth 100000 in
set_option maxHeartbeats 1000000 in
theorem refQuote (s : ByteArray) (w : World) (hs : s.size ≤ 1099511627776) :
    Calls Tryd.prog 15 #[.string s] w fun e w' => e = .returned (quoteRes s.data.toList (.int .i64 3) (.int .i64 0)) ∧ w = w' := by
  go_enter Tryd.func15, Tryd.ntmps15
  go_wp2
  go_loop [4, 8] (fun o i => ∃ k : Nat, k ≤ s.size ∧ i = .int .i64 k ∧ o = .string ⟨(escs (s.data.toList.take k)).toArray⟩ ∧ Hid ((s.data.toList.take k).all textB = true)) (fun _ i => s.size - (intOf i).toNat)
  case atStart => exact ⟨0, Nat.zero_le _, rfl, rfl, Lib.hid (by simp)⟩
  case round =>
    obtain ⟨k, hk, rfl, rfl, ha⟩ := hrel
    have hle := escs_take_len s.data.toList k (by rw [← size_data]; exact hk)
    by_cases hlt : k < s.size
    · have hl : k < s.data.toList.length := by rw [← size_data]; exact hlt
      cases hb : textB s[k]
      · have hn := Lib.hid (not_all textB s k hlt hb)
        go_wp2_with (go_at_call 58; refine (refTextByte _ _).mono ?_; rintro e w' ⟨rfl, rfl⟩)
        go_ret2
        exact ⟨by unfold quoteRes quotable; rw [hn.out]; rfl, rfl⟩
      · have hn := Lib.hid (all_take_succ textB s k hlt ha.out hb)
        have he := escs_succ s.data.toList k hl
        rw [data_getElem s k hlt hl] at he
        have he' := Lib.hid he
        clear he
        have hx := Lib.hid (ext_one s k hlt)
        have hadd1 := run_string_add_sum (P := Tryd.prog) w ⟨(escs (s.data.toList.take k)).toArray⟩ ⟨#[92]⟩ (by rw [Lib.size_eq, Lib.size_eq]; simp; omega)
        have hsz : (s.extract k (k + 1)).size = 1 := by rw [hx.out]; rfl
        have hadd2 := run_string_add_sum (P := Tryd.prog) w (⟨(escs (s.data.toList.take k)).toArray⟩ ++ ⟨#[92]⟩) (s.extract k (k + 1)) (by rw [hsz, ByteArray.size_append, Lib.size_eq, Lib.size_eq]; simp; omega)
        have hadd3 := run_string_add_sum (P := Tryd.prog) w ⟨(escs (s.data.toList.take k)).toArray⟩ (s.extract k (k + 1)) (by rw [hsz, Lib.size_eq]; simp; omega)
        clear hsz
        by_cases hq : s[k].toNat = 34 ∨ s[k].toNat = 92
        · have hesc : Hid (esc s[k] = [92, s[k]]) := Lib.hid (if_pos hq)
          clear hadd3
          have fin : Hid ((⟨(escs (s.data.toList.take k)).toArray⟩ : ByteArray) ++ ⟨#[92]⟩ ++ s.extract k (k + 1) = ⟨(escs (s.data.toList.take (k + 1))).toArray⟩) := Lib.hid (by
            rw [he'.out, hesc.out, hx.out]
            refine (congrArg (· ++ (⟨#[s[k]]⟩ : ByteArray)) (str_app _ _)).trans ((str_app _ _).trans ?_)
            simp)
          rcases hq with hq | hq
          · have h1 : 34 ≤ (s[k].toNat : Int) := by omega
            have h2 : (s[k].toNat : Int) ≤ 34 := by omega
            clear hq
            go_wp2_with (go_at_call 58; refine (refTextByte _ _).mono ?_; rintro e w' ⟨rfl, rfl⟩)
            go_round
            case rel => exact ⟨k + 1, by omega, by go_num, by rw [← fin.out], hn⟩
            case measure => simp [intOf]; omega
          · have h1 : (((s[k].toNat : Int)) == 34) = false := by simp only [beq_eq_false_iff_ne, ne_eq]; omega
            have h2 : (((s[k].toNat : Int)) == 92) = true := by simp only [beq_iff_eq]; omega
            clear hq
            go_wp2_with (go_at_call 58; refine (refTextByte _ _).mono ?_; rintro e w' ⟨rfl, rfl⟩)
            go_round
            case rel => exact ⟨k + 1, by omega, by go_num, by rw [← fin.out], hn⟩
            case measure => simp [intOf]; omega
        · have hesc : Hid (esc s[k] = [s[k]]) := Lib.hid (if_neg hq)
          clear hadd1 hadd2
          have fin : Hid ((⟨(escs (s.data.toList.take k)).toArray⟩ : ByteArray) ++ s.extract k (k + 1) = ⟨(escs (s.data.toList.take (k + 1))).toArray⟩) := Lib.hid (by
            rw [he'.out, hesc.out, hx.out]
            exact str_app _ _)
          have h1 : (((s[k].toNat : Int)) == 34) = false := by simp only [beq_eq_false_iff_ne, ne_eq]; omega
          have h2 : (((s[k].toNat : Int)) == 92) = false := by simp only [beq_eq_false_iff_ne, ne_eq]; omega
          clear hq
          go_wp2_with (go_at_call 58; refine (refTextByte _ _).mono ?_; rintro e w' ⟨rfl, rfl⟩)
          go_round
          case rel => exact ⟨k + 1, by omega, by go_num, by rw [← fin.out], hn⟩
          case measure => simp [intOf]; omega
    · obtain rfl : s.size = k := by omega
      have hq : Hid (quotable s.data.toList = true) := Lib.hid (all_take_all textB s ha.out)
      have e0 : s.data.toList.take s.size = s.data.toList := by rw [size_data, List.take_length]
      rw [e0] at hle
      have e0' := Lib.hid e0
      clear e0
      have hadd1 := run_string_add_sum (P := Tryd.prog) w ⟨#[34]⟩ ⟨(escs s.data.toList).toArray⟩ (by rw [Lib.size_eq, Lib.size_eq]; simp; omega)
      have hadd2 := run_string_add_sum (P := Tryd.prog) w (⟨#[34]⟩ ++ ⟨(escs s.data.toList).toArray⟩) ⟨#[34]⟩ (by rw [ByteArray.size_append, Lib.size_eq, Lib.size_eq]; simp; omega)
      rw [e0'.out]
      go_wp2
      go_ret2
      refine ⟨?_, rfl⟩
      unfold quoteRes
      rw [if_pos hq.out]
      exact ret2 (congrArg Value.string ((congrArg (· ++ (⟨#[34]⟩ : ByteArray)) (mk_append [34] (escs s.data.toList))).trans ((mk_append _ [34]).trans (by unfold quoted; simp)))) rfl

set_option maxRecDepth 100000 in
set_option maxHeartbeats 1000000 in
theorem tokenQuote (s : ByteArray) (w : World) (hs : s.size ≤ 1099511627776) :
    Calls Tryd.prog 16 #[.string s] w fun e w' => e = .returned (quoteRes s.data.toList (.iface 22 (.int .i64 3)) .nilIface) ∧ Below w.heap.size w w' := by
  go_enter Tryd.func16, Tryd.ntmps16
  go_wp2
  go_loopw [4, 9] (fun v i wr => ∃ k : Nat, k ≤ s.size ∧ i = .int .i64 k ∧ OwnB wr w.heap.size v (34 :: escs (s.data.toList.take k)) ∧ Below w.heap.size w wr ∧ Hid ((s.data.toList.take k).all textB = true)) (fun _ i _ => s.size - (intOf i).toNat)
  case atStart => exact ⟨0, Nat.zero_le _, rfl, OwnB.one w _ 34 34 rfl (Nat.le_refl _), (Below.refl _ _).alloc (Nat.le_refl _) _, Lib.hid (by simp)⟩
  case round =>
    obtain ⟨k, hk, rfl, hO, hB, ha⟩ := hrel
    have hle := escs_take_len s.data.toList k (by rw [← size_data]; exact hk)
    have hbs := hB.size
    by_cases hlt : k < s.size
    · have hl : k < s.data.toList.length := by rw [← size_data]; exact hlt
      cases hb : textB s[k]
      · have hn := Lib.hid (not_all textB s k hlt hb)
        go_wp2_with (go_at_call 59; refine (tokenText _ _).mono ?_; rintro e w' ⟨rfl, rfl⟩)
        go_ret2
        exact ⟨by unfold quoteRes quotable; rw [hn.out]; rfl, hB⟩
      · have hn := Lib.hid (all_take_succ textB s k hlt ha.out hb)
        have he := escs_succ s.data.toList k hl
        rw [data_getElem s k hlt hl] at he
        have he' := Lib.hid he
        clear he
        by_cases hq : s[k].toNat = 34 ∨ s[k].toNat = 92
        · have hesc : Hid (esc s[k] = [92, s[k]]) := Lib.hid (if_pos hq)
          have fin : Hid (34 :: escs (s.data.toList.take (k + 1)) = ((34 :: escs (s.data.toList.take k)) ++ [92]) ++ [s[k]]) := Lib.hid (by rw [he'.out, hesc.out]; simp)
          have htest : (((s[k].toNat : Int)) == 34) = true ∨ ((((s[k].toNat : Int)) == 34) = false ∧ (((s[k].toNat : Int)) == 92) = true) := by
            simp only [beq_eq_false_iff_ne, ne_eq, beq_iff_eq]; omega
          clear hq
          have htest' := Lib.hid htest
          clear htest
          rcases htest'.out with h1 | ⟨h1, h2⟩
          all_goals
            go_wp2_with (first | (go_at_call 59; refine (tokenText _ _).mono ?_; rintro e w' ⟨rfl, rfl⟩) | (at_builtin; refine wpList_append_byte rfl (.tmp 28) (.tmp 29) rfl _ _ _ _ rfl hO 92 _ rfl rfl (by simp; omega) hbs ?_; intro v1 w1 hO1 hg1; have hB1 := below_append hB hO hg1 hbs; have hbs1 := hB1.size) | (at_builtin; refine wpList_append_byte rfl (.tmp 31) (.tmp 35) rfl _ _ _ _ rfl hO1 s[k] _ rfl rfl (by simp; omega) hbs1 ?_; intro v2 w2 hO2 hg2))
            go_roundw
            case rel => exact ⟨k + 1, by omega, by go_num, by rw [fin.out]; exact hO2, below_append hB1 hO1 hg2 hbs1, hn⟩
            case measure => simp [intOf]; omega
        · have hesc : Hid (esc s[k] = [s[k]]) := Lib.hid (if_neg hq)
          have fin : Hid (34 :: escs (s.data.toList.take (k + 1)) = (34 :: escs (s.data.toList.take k)) ++ [s[k]]) := Lib.hid (by rw [he'.out, hesc.out]; simp)
          have h1 : (((s[k].toNat : Int)) == 34) = false := by simp only [beq_eq_false_iff_ne, ne_eq]; omega
          have h2 : (((s[k].toNat : Int)) == 92) = false := by simp only [beq_eq_false_iff_ne, ne_eq]; omega
          clear hq
          go_wp2_with (first | (go_at_call 59; refine (tokenText _ _).mono ?_; rintro e w' ⟨rfl, rfl⟩) | (at_builtin; refine wpList_append_byte rfl _ _ rfl _ _ _ _ rfl hO s[k] _ rfl rfl (by simp; omega) hbs ?_; intro v1 w1 hO1 hg1))
          go_roundw
          case rel => exact ⟨k + 1, by omega, by go_num, by rw [fin.out]; exact hO1, below_append hB hO hg1 hbs, hn⟩
          case measure => simp [intOf]; omega
    · obtain rfl : s.size = k := by omega
      have hq : Hid (quotable s.data.toList = true) := Lib.hid (all_take_all textB s ha.out)
      rw [show s.data.toList.take s.size = s.data.toList by rw [size_data, List.take_length]] at hle hO
      go_wp2_with (at_builtin; refine wpList_append_byte rfl _ _ rfl _ _ _ _ rfl hO 34 _ rfl rfl (by simp; omega) hbs ?_; intro v1 w1 hO1 hg1; generalize hL : (34 :: escs s.data.toList ++ [34]) = L at hO1; obtain ⟨g, cap, rfl, hcell⟩ := hO1.shape (by rw [← hL]; simp); have hLh := Lib.hid hL; clear hL; have hB1 := below_append hB hO hg1 hbs; have hcv := run_convert_bytes_back (P := Tryd.prog) w1 71 9 5 ⟨g, 0, none⟩ cap _ Tryd.underlying71 Tryd.underlying5 Tryd.underlying9 hcell; clear hcell hO1 hO hg1)
      go_ret2
      refine ⟨?_, hB1⟩
      unfold quoteRes
      rw [if_pos hq.out]
      exact ret2 (congrArg Value.string (by rw [← hLh.out]; unfold quoted; rfl)) rfl

set_option maxRecDepth 100000 in
/-- the law: any text between marks is the document's. -/
theorem quotes_walk (s : ByteArray) (w : World) (hg : ErrType w) :
    Calls Tryd.prog 3 #[.string s] w fun e w' => e = .returned (.bool true) ∧ Below w.heap.size w w' := by
  by_cases hs : s.size ≤ 300
  · cases hq : quotable s.data.toList
    · have r1 := refQuote s w (by omega)
      have r2 := tokenQuote s w (by omega)
      unfold quoteRes at r1 r2
      rw [hq] at r1 r2
      clear hq
      go_enter Tryd.func3, Tryd.ntmps3
      go_wp2_with fail
      refine r1.mono ?_
      rintro e w' ⟨rfl, rfl⟩
      go_wp2_with fail
      refine r2.mono ?_
      rintro e w1 ⟨rfl, hB⟩
      go_wp2_with fail
      refine (bare_is 3 (hg.later hB) (ErrIs.num _ 3)).mono ?_
      rintro e w2 ⟨rfl, hB2⟩
      have hB3 := hB.then (Nat.le_refl _) hB2
      go_wp2
      go_ret
      exact ⟨rfl, hB3⟩
    · have r1 := refQuote s w (by omega)
      have r2 := tokenQuote s w (by omega)
      unfold quoteRes at r1 r2
      rw [hq] at r1 r2
      clear hq
      go_enter Tryd.func3, Tryd.ntmps3
      go_wp2_with fail
      refine r1.mono ?_
      rintro e w' ⟨rfl, rfl⟩
      go_wp2_with fail
      refine r2.mono ?_
      rintro e w1 ⟨rfl, hB⟩
      go_wp2_with fail
      refine (bare_is 0 (hg.later hB) (ErrIs.none _)).mono ?_
      rintro e w2 ⟨rfl, hB2⟩
      have hB3 := hB.then (Nat.le_refl _) hB2
      go_wp2
      go_ret
      exact ⟨rfl, hB3⟩
  · go_enter Tryd.func3, Tryd.ntmps3
    go_wp2
    all_goals go_ret
    exact ⟨rfl, Below.refl _ _⟩

end Go.Proofs.YtnmeifobikemlaaDoor
