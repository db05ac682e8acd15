/- token.Cursor's Quoted: the text between marks. -/
import Derived.Test.YtmpgamnpmgedkaaDoorCursor
import Derived.Test.YtmpgamnpmgedkaaDoorOwnB
import Derived.Test.YtmpgamnpmgedkaaDoorQuote
namespace Go.Proofs.YtmpgamnpmgedkaaDoor
open Go.RowKit

theorem tokenMark_yes (w : World) (p : Nat) (s : ByteArray) (k : Nat) (c : UInt8) (h : CurAt tC w p s k) (hs : s.size ≤ 1099511627776) (hk : k < s.size) (hc : s[k] = c) :
    Calls Tryd.prog 130 #[.pointer (some ⟨p, 0, none⟩), .int .u8 c.toNat] w (CurPost tC w p s (.bool true) (k + 1)) := by
  refine (tokenMark w p s k c h hs).mono fun e w' hh => ?_
  rw [dif_pos hk, if_pos hc] at hh
  exact hh
theorem tokenMark_no (w : World) (p : Nat) (s : ByteArray) (k : Nat) (c : UInt8) (h : CurAt tC w p s k) (hs : s.size ≤ 1099511627776) (hn : ∀ hk : k < s.size, s[k] ≠ c) :
    Calls Tryd.prog 130 #[.pointer (some ⟨p, 0, none⟩), .int .u8 c.toNat] w (CurPost tC w p s (.bool false) k) := by
  refine (tokenMark w p s k c h hs).mono fun e w' hh => ?_
  by_cases hk : k < s.size
  · rw [dif_pos hk, if_neg (hn hk)] at hh
    exact hh
  · rw [dif_neg hk] at hh
    exact hh
/-- a row of bytes as a text -/
theorem own_text {w : World} {base : Nat} {v : Value} {l : List UInt8} (h : OwnB w base v l) : (convert 129 9 v).run Tryd.prog w = .ok (.string ⟨l.toArray⟩) w := by
  by_cases h0 : l = []
  · subst h0
    obtain ⟨h1, h2⟩ := h
    rcases h2 with ⟨rfl, _⟩ | ⟨g, cap, cur, rfl, _⟩
    · rw [run_convert_bytes_string (P := Tryd.prog) w 129 9 5 none 0 0 Tryd.underlying129 Tryd.underlying5 Tryd.underlying9]
      rfl
    · exact run_convert_bytes_back (P := Tryd.prog) w 129 9 5 ⟨g, 0, none⟩ cap [] Tryd.underlying129 Tryd.underlying5 Tryd.underlying9 (fun j hj => by simp at hj)
  · obtain ⟨g, cap, rfl, hc⟩ := h.shape h0
    exact run_convert_bytes_back (P := Tryd.prog) w 129 9 5 ⟨g, 0, none⟩ cap l Tryd.underlying129 Tryd.underlying5 Tryd.underlying9 hc
theorem OwnB.drewN {w : World} {base : Nat} {v : Value} {l : List UInt8} (h : OwnB w base v l) (n : Nat) : OwnB (w.drewN n) base v l := h.later (below_drewN (Below.refl _ _) n)
/-- a store into an old block leaves a row of the call's own alone -/
theorem OwnB.far {w : World} {base : Nat} {v : Value} {l : List UInt8} (h : OwnB w base v l) (p : Nat) (hp : p < base) (i : Nat) (u : Value) : OwnB (w.setCell ⟨p, i, none⟩ u) base v l := by
  refine World.ownsRow.kept h (only_setCell (only_refl w (some p)) (.inl rfl) u) ?_
  cases hv : v.ownBlock with
  | none => exact .inl rfl
  | some g =>
    right
    intro e
    have := (World.ownsRow.lt h g hv).1
    have e' : g = p := by injection e
    omega

/-- what Quoted leaves -/
def QPost (T : TypeId) (w : World) (p : Nat) (s : ByteArray) (k : Nat) (e : Ending) (w' : World) : Prop :=
  match quotedAt s.data.toList k with
  | some x => CurPost T w p s (.tuple #[.string ⟨x.1.toArray⟩, .bool true]) x.2 e w'
  | none => CurPost T w p s (.tuple #[.string ⟨#[]⟩, .bool false]) k e w'
theorem QPost.some {T : TypeId} {w w' : World} {p : Nat} {s : ByteArray} {k : Nat} {e : Ending} {x : List UInt8 × Nat} (h : quotedAt s.data.toList k = .some x) (hp : CurPost T w p s (.tuple #[.string ⟨x.1.toArray⟩, .bool true]) x.2 e w') : QPost T w p s k e w' := by
  unfold QPost; rw [h]; exact hp
theorem QPost.none {T : TypeId} {w w' : World} {p : Nat} {s : ByteArray} {k : Nat} {e : Ending} (h : quotedAt s.data.toList k = .none) (hp : CurPost T w p s (.tuple #[.string ⟨#[]⟩, .bool false]) k e w') : QPost T w p s k e w' := by
  unfold QPost; rw [h]; exact hp

set_option maxRecDepth 100000 in
theorem tokenQuoted_no (w : World) (p : Nat) (s : ByteArray) (k : Nat) (h : CurAt tC w p s k) (hs : s.size ≤ 1099511627776) (hk : k ≤ s.size) (hn : ∀ hk : k < s.size, s[k] ≠ 34) :
    Calls Tryd.prog 234 #[.pointer (some ⟨p, 0, none⟩)] w (QPost tC w p s k) := by
  have hq : Hid (quotedAt s.data.toList k = none) := Lib.hid (by
    by_cases hlt : k < s.size
    · have hl : k < s.data.toList.length := by rw [← sz_len]; exact hlt
      refine quotedAt_no hl ?_
      rw [at_list s k hlt hl]
      intro e
      exact hn hlt (UInt8.toNat.inj e)
    · exact quotedAt_end (by rw [← sz_len]; omega))
  have c1 := h.c1
  have hm := tokenMark_no w p s k 34 h hs hn
  clear hn
  go_enter Tryd.func234, Tryd.ntmps234
  go_wp2_with fail
  refine hm.mono ?_
  rintro e w1 ⟨rfl, hC, hG⟩
  clear c1
  have c1 := hC.c1
  have f1 := hC.f1
  have hC' := Lib.hid hC
  have hG' := Lib.hid hG
  clear hC hG
  go_wp2
  go_loopg [] 0 (fun g wr => wr = w1)
  case atStart => rfl
  case round =>
    subst hrel
    go_wp2
    go_quiet (fail)
    go_wp2
    go_ret2
    exact QPost.none hq.out ⟨rfl, (hC'.out.drewN _).put k, only_setCell (only_drewN hG'.out _) (.inl rfl) _⟩

theorem OwnB.text {w : World} {base : Nat} {v : Value} {l : List UInt8} (h : OwnB w base v l) (j n : Nat) (p : Nat) (hp : p < base) (u : Value) : (convert 129 9 v).run Tryd.prog ((w.drewN n).setCell ⟨p, j, none⟩ u) = .ok (.string ⟨l.toArray⟩) ((w.drewN n).setCell ⟨p, j, none⟩ u) :=
  own_text ((h.drewN n).far p hp j u)
theorem wpList_append_byte' {ops : Array Oper} {rest : List Oper} {o : Oper} {a : Act} {Q : Exit → Act → World → Prop} (hgd : o.guard = none) (s x : Operand)
    (ho : o.op = .call { callee := .builtin .append, args := #[s, x], argTypes := #[129, 129] })
    (w : World) (base : Nat) (v : Value) (l : List UInt8) (hs : a.eval s = v) (hown : OwnB w base v l) (c : UInt8) (n : Int) (hn : n = (c.toNat : Int))
    (b : Nat) (hx : a.eval x = .slice (some ⟨b, 0, none⟩) 1 1) (hb : b = w.heap.size) (hl : l.length + 1 ≤ 140737488355328) (hbase : base ≤ w.heap.size)
    (h : ∀ v' w', OwnB w' base v' (l ++ [c]) → (w.alloc (.cells #[.int .u8 n] 5)).grownBy w' v.ownBlock → wpList Tryd.prog ops Q rest (a.put o.dst v') w') :
    wpList Tryd.prog ops Q (o :: rest) a (w.alloc (.cells #[.int .u8 n] 5)) := by
  subst hb
  exact wpList_append_byte hgd s x ho w base v l hs hown c n hn hx hl hbase h
theorem quoted_step {w w' w2 : World} {p : Nat} {s : ByteArray} {j : Nat} {acc : List UInt8} {v : Value} {o : Obj} (hC : CurAt tC w' p s j) (hG : w.grownBy w' (some p)) (hO : OwnB w' w.heap.size v acc) (hpw : p < w.heap.size) (hg1 : (w'.alloc o).grownBy w2 v.ownBlock) :
    CurAt tC w2 p s j ∧ w.grownBy w2 (some p) := by
  have hlt : ∀ g, v.ownBlock = some g → w.heap.size ≤ g := fun g hg => (World.ownsRow.lt hO g hg).1
  refine ⟨Blk.grown (Blk.alloc hC o) hg1 (fun e => ?_), only_grown (only_alloc hG o) hg1 (fun g hg => .inr (hlt g hg))⟩
  have := hlt p e
  omega
theorem drop_cons (s : ByteArray) (j : Nat) (h : j < s.size) : s.data.toList.drop j = s[j] :: s.data.toList.drop (j + 1) := by
  have hl : j < s.data.toList.length := by rw [← sz_len]; exact h
  rw [List.drop_eq_getElem_cons hl, at_list s j h hl]
set_option maxRecDepth 100000 in
set_option maxHeartbeats 1000000 in
theorem tokenQuoted_yes (w : World) (p : Nat) (s : ByteArray) (k : Nat) (h : CurAt tC w p s k) (hs : s.size ≤ 1099511627776) (hk : k < s.size) (hc : s[k] = 34) :
    Calls Tryd.prog 234 #[.pointer (some ⟨p, 0, none⟩)] w (QPost tC w p s k) := by
  have hq : Hid (quotedAt s.data.toList k = (qgo (s.data.toList.drop (k + 1)) []).map (fun x => (x.1, s.data.toList.length - x.2))) := Lib.hid (by
    have hl : k < s.data.toList.length := by rw [← sz_len]; exact hk
    exact quotedAt_go hl (by rw [at_list s k hk hl, hc]; rfl))
  have c1 := h.c1
  have hpw := h.lt
  have hm := tokenMark_yes w p s k 34 h hs hk hc
  clear hc
  go_enter Tryd.func234, Tryd.ntmps234
  go_wp2_with fail
  refine hm.mono ?_
  rintro e w1 ⟨rfl, hC, hG⟩
  clear c1
  have hC' := Lib.hid hC
  have hG' := Lib.hid hG
  clear hC hG
  go_wp2
  go_loopg [5] (s.size - (k + 1)) (fun g v wr => ∃ (j : Nat) (acc : List UInt8), Hid (g = s.size - j) ∧ k + 1 ≤ j ∧ j ≤ s.size ∧ acc.length ≤ j ∧ Hid (CurAt tC wr p s j) ∧ Hid (w.grownBy wr (some p)) ∧ OwnB wr w.heap.size v acc ∧ Hid (qgo (s.data.toList.drop (k + 1)) [] = qgo (s.data.toList.drop j) acc))
  case atStart => exact ⟨k + 1, [], Lib.hid rfl, Nat.le_refl _, hk, Nat.zero_le _, hC', hG', OwnB.nil _ _, Lib.hid rfl⟩
  case round =>
    obtain ⟨j, acc, hg, hkj, hj, hal, hC, hG, hO, hinv⟩ := hrel
    clear hC' hG'
    have hal1 : acc.length + 1 ≤ 140737488355328 := by omega
    have c0 := hC.out.c0
    have c1 := hC.out.c1
    have f1 := hC.out.f1
    by_cases hlt : j < s.size
    · have hd : decide (j < s.size) = true := by simpa using hlt
      have hdrop := Lib.hid (drop_cons s j hlt)
      have hbd := bd8 s[j]
      by_cases h34 : s[j].toNat = 34
      · have b34 : (((s[j].toNat : Int)) == 34) = true := by rw [h34]; rfl
        have hfin : Hid (quotedAt s.data.toList k = some (acc, j + 1)) := Lib.hid (by
          rw [hq.out, hinv.out, hdrop.out, qgo_mark _ _ h34]; simp only [Option.map_some, List.length_drop, ← sz_len]; congr 2; omega)
        clear h34
        have htx := fun n => OwnB.text hO 1 n p hpw (.int .i64 ((j + 1 : Nat) : Int))
        have htx' : ∀ n, (convert 129 9 u5).run Tryd.prog ((wr.drewN n).setCell ⟨p, 1, none⟩ (.int .i64 ((j : Int) + 1))) = .ok (.string ⟨acc.toArray⟩) ((wr.drewN n).setCell ⟨p, 1, none⟩ (.int .i64 ((j : Int) + 1))) := htx
        clear htx
        go_wp2
        go_quiet (fail)
        go_wp2
        go_quiet (fail)
        go_wp2
        go_ret2
        exact QPost.some hfin.out ⟨rfl, (hC.out.drewN _).put (j + 1), only_setCell (only_drewN hG.out _) (.inl rfl) _⟩
      · have b34 : (((s[j].toNat : Int)) == 34) = false := by rw [beq_eq_false_iff_ne]; omega
        have h34' := Lib.hid h34
        clear h34
        have hbs := hG.out.size
        by_cases h92 : s[j].toNat = 92
        · have b92 : (((s[j].toNat : Int)) == 92) = true := by rw [h92]; rfl
          have h92' := Lib.hid h92
          clear h92
          by_cases hlt1 : j + 1 < s.size
          · have hd1 : decide (j + 1 < s.size) = true := by simpa using hlt1
            have hd1' : decide ((j : Int) + 1 < (s.size : Int)) = true := by simp; omega
            have hdrop1 := Lib.hid (drop_cons s (j + 1) hlt1)
            have hi0 : (0 : Int) ≤ (j : Int) + 1 := by omega
            have hi1 : ((j : Int) + 1).toNat = j + 1 := by omega
            have hi2 : (j : Int) + 1 < (s.size : Int) := by omega
            have hbd1 := bd8 s[j + 1]
            cases hx : textB s[j + 1]
            · have hfin : Hid (quotedAt s.data.toList k = none) := Lib.hid (by rw [hq.out, hinv.out, hdrop.out, hdrop1.out, qgo_esc_no _ _ h92'.out hx]; rfl)
              go_wp2
              go_quiet (fail)
              go_wp2
              go_quiet (fail)
              go_wp2
              go_quiet (fail)
              go_wp2
              go_quiet (fail)
              go_wp2_with (go_at_call 260; refine (tokenText _ _).mono ?_; rintro e w' ⟨rfl, rfl⟩)
              go_ret2
              exact QPost.none hfin.out ⟨rfl, ((((hC.out.drewN _).put (j + 1)).drewN _).put (j + 2)).put k, only_setCell (only_setCell (only_drewN (only_setCell (only_drewN hG.out _) (.inl rfl) _) _) (.inl rfl) _) (.inl rfl) _⟩
            · go_wp2
              go_quiet (fail)
              go_wp2
              go_quiet (fail)
              go_wp2
              go_quiet (fail)
              go_wp2
              go_quiet (fail)
              go_wp2_with (first | (go_at_call 260; refine (tokenText _ _).mono ?_; rintro e w' ⟨rfl, rfl⟩) | (at_builtin; refine wpList_append_byte' rfl _ _ rfl _ w.heap.size _ acc rfl ?_ s[j + 1] _ rfl _ rfl ?_ hal1 ?_ ?_; exact (((hO.drewN _).far p hpw 1 _).drewN _).far p hpw 1 _; simp; (simpa using hbs); intro v1 w2 hO1 hg1))
              obtain ⟨hC2, hG2⟩ := quoted_step ((((hC.out.drewN _).put (j + 1)).drewN _).put (j + 2)) (only_setCell (only_drewN (only_setCell (only_drewN hG.out _) (.inl rfl) _) _) (.inl rfl) _) ((((hO.drewN _).far p hpw 1 _).drewN _).far p hpw 1 _) hpw hg1
              go_roundg (s.size - (j + 2))
              case rel => exact ⟨j + 2, acc ++ [s[j + 1]], Lib.hid rfl, by omega, by omega, by simp; omega, Lib.hid hC2, Lib.hid hG2, hO1, Lib.hid (by rw [hinv.out, hdrop.out, hdrop1.out, qgo_esc _ _ h92'.out hx])⟩
              case measure => have := hg.out; omega
          · have hd1' : decide ((j : Int) + 1 < (s.size : Int)) = false := by simp; omega
            have hfin : Hid (quotedAt s.data.toList k = none) := Lib.hid (by
              rw [hq.out, hinv.out, hdrop.out, List.drop_eq_nil_of_le (by rw [← sz_len]; omega), qgo_back _ h92'.out]; rfl)
            go_wp2
            go_quiet (fail)
            go_wp2
            go_quiet (fail)
            go_wp2
            go_quiet (fail)
            go_wp2
            go_ret2
            exact QPost.none hfin.out ⟨rfl, (((hC.out.drewN _).put (j + 1)).drewN _).put k, only_setCell (only_drewN (only_setCell (only_drewN hG.out _) (.inl rfl) _) _) (.inl rfl) _⟩
        · have b92 : (((s[j].toNat : Int)) == 92) = false := by rw [beq_eq_false_iff_ne]; omega
          have h92' := Lib.hid h92
          clear h92
          cases hx : textB s[j]
          · have hfin : Hid (quotedAt s.data.toList k = none) := Lib.hid (by rw [hq.out, hinv.out, hdrop.out, qgo_no _ _ h34'.out h92'.out hx]; rfl)
            go_wp2
            go_quiet (fail)
            go_wp2
            go_quiet (fail)
            go_wp2
            go_quiet (fail)
            go_wp2_with (go_at_call 260; refine (tokenText _ _).mono ?_; rintro e w' ⟨rfl, rfl⟩)
            go_ret2
            exact QPost.none hfin.out ⟨rfl, (((hC.out.drewN _).put (j + 1)).drewN _).put k, only_setCell (only_drewN (only_setCell (only_drewN hG.out _) (.inl rfl) _) _) (.inl rfl) _⟩
          · go_wp2
            go_quiet (fail)
            go_wp2
            go_quiet (fail)
            go_wp2
            go_quiet (fail)
            go_wp2_with (first | (go_at_call 260; refine (tokenText _ _).mono ?_; rintro e w' ⟨rfl, rfl⟩) | (at_builtin; refine wpList_append_byte' rfl _ _ rfl _ w.heap.size _ acc rfl ?_ s[j] _ rfl _ rfl ?_ hal1 ?_ ?_; exact ((hO.drewN _).far p hpw 1 _).drewN _; simp; (simpa using hbs); intro v1 w2 hO1 hg1))
            obtain ⟨hC2, hG2⟩ := quoted_step (((hC.out.drewN _).put (j + 1)).drewN _) (only_drewN (only_setCell (only_drewN hG.out _) (.inl rfl) _) _) (((hO.drewN _).far p hpw 1 _).drewN _) hpw hg1
            go_roundg (s.size - (j + 1))
            case rel => exact ⟨j + 1, acc ++ [s[j]], Lib.hid rfl, by omega, by omega, by simp; omega, Lib.hid hC2, Lib.hid hG2, hO1, Lib.hid (by rw [hinv.out, hdrop.out, qgo_text _ _ h34'.out h92'.out hx])⟩
            case measure => have := hg.out; omega
    · have hd : decide (j < s.size) = false := by simpa using hlt
      have hfin : Hid (quotedAt s.data.toList k = none) := Lib.hid (by rw [hq.out, hinv.out, List.drop_eq_nil_of_le (by rw [← sz_len]; omega)]; rfl)
      go_wp2
      go_quiet (fail)
      go_wp2
      go_ret2
      exact QPost.none hfin.out ⟨rfl, (hC.out.drewN _).put k, only_setCell (only_drewN hG.out _) (.inl rfl) _⟩

theorem tokenQuoted (w : World) (p : Nat) (s : ByteArray) (k : Nat) (h : CurAt tC w p s k) (hs : s.size ≤ 1099511627776) (hk : k ≤ s.size) :
    Calls Tryd.prog 234 #[.pointer (some ⟨p, 0, none⟩)] w (QPost tC w p s k) := by
  by_cases hlt : k < s.size
  · by_cases hc : s[k] = 34
    · exact tokenQuoted_yes w p s k h hs hlt hc
    · exact tokenQuoted_no w p s k h hs hk (fun _ => hc)
  · exact tokenQuoted_no w p s k h hs hk (fun h' => absurd h' hlt)
end Go.Proofs.YtmpgamnpmgedkaaDoor
