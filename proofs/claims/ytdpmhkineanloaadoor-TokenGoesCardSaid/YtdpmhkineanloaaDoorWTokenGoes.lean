/- TokenGoes: after any moves token's cursor finds what the reference's finds: the walk of the statement. -/
import Derived.Test.YtdpmhkineanloaaDoorCurRQ
import Derived.Test.YtdpmhkineanloaaDoorRead
import Derived.OpenShut
namespace Go.Proofs.YtdpmhkineanloaaDoor.lawTokenGoes
open Go.ChangeShapes Go.WideShapes Go.ChangeAt Go.RowKit Go.WideElems

theorem cellsInt1 : Tryd.prog.cellsOf 3 = 1 := by kernel_rfl
/-- the slice at a holds these numbers -/
def IntsAt (w : World) (a : Option Addr) (ms : List Int) : Prop := ∀ i (h : i < ms.length), ∃ b off, a = some ⟨b, off, none⟩ ∧ w.cell? ⟨b, off + i, none⟩ = some (.int .i64 ms[i]) ∧ -9223372036854775808 ≤ ms[i] ∧ ms[i] ≤ 9223372036854775807
theorem IntsAt.later {w w' : World} {a : Option Addr} {ms : List Int} (h : IntsAt w a ms) (hb : Below w.heap.size w w') : IntsAt w' a ms := by
  intro i hi
  obtain ⟨b, off, ha, h1, h2⟩ := h i hi
  exact ⟨b, off, ha, (hb.cell (World.block_lt_of_cell? w _ h1)).trans h1, h2⟩
theorem ints_open {w : World} {a : Option Addr} {len cap : Nat} (h : Rd Tryd.prog w 30 [.slice a len cap]) : ∃ ms : List Int, len = ms.length ∧ IntsAt w a ms ∧ len ≤ maxLen := by
  obtain ⟨a', len', cap', e, _, hl, _, _, _, hel⟩ := h.slice Tryd.underlying30 (by rw [cellsInt1]; decide)
  simp only [List.cons.injEq, Value.slice.injEq, and_true] at e
  obtain ⟨rfl, rfl, rfl⟩ := e
  obtain ⟨ms, hms, hp⟩ := exists_list (fun i m => ∃ b off, a = some ⟨b, off, none⟩ ∧ w.cell? ⟨b, off + i, none⟩ = some (.int .i64 m) ∧ -9223372036854775808 ≤ m ∧ m ≤ 9223372036854775807) len (fun i hi => by
    obtain ⟨b, off, cs', ha, hc, hR, hcell⟩ := hel i hi
    obtain ⟨n, rfl, hw⟩ := hR.int Tryd.underlying3
    have h0 := hcell 0 (by rw [cellsInt1]; decide)
    rw [cellsInt1, Nat.mul_one, Nat.add_zero] at h0
    have hb := bounds_i64 hw
    exact ⟨n, b, off, ha, h0, hb.1, hb.2⟩)
  exact ⟨ms, hms.symm, hp, hl⟩

set_option maxRecDepth 100000 in
theorem tokenOn (w : World) (s : ByteArray) : Calls Tryd.prog 21 #[.string s] w fun e w' => e = .returned (.pointer (some ⟨w.heap.size, 0, none⟩)) ∧ w.alloc (.cells #[.string s, .int .i64 0] tC) = w' := by
  go_enter Tryd.func21, Tryd.ntmps21
  go_wp2
  go_ret
  exact ⟨rfl, rfl⟩
theorem tokenMarkP (w : World) (p : Nat) (s : ByteArray) (k : Nat) (c : UInt8) (h : CurAt tC w p s k) (hs : s.size ≤ 1099511627776) :
    Calls Tryd.prog 30 #[.pointer (some ⟨p, 0, none⟩), .int .u8 c.toNat] w (MarkPost tC w p s k c) := tokenMark w p s k c h hs

theorem pairUp {W wr w1 w2 : World} {s : ByteArray} {k' : Nat} (hB : Below W.heap.size W wr) (hC1 : CurAt tC w1 W.heap.size s k') (hG1 : wr.grownBy w1 (some W.heap.size)) (hR2 : CurAt tR w2 (W.heap.size + 1) s k') (hG2 : w1.grownBy w2 (some (W.heap.size + 1))) (hk : k' ≤ s.size) :
    ∃ kk, kk ≤ s.size ∧ Hid (CurAt tC w2 W.heap.size s kk) ∧ Hid (CurAt tR w2 (W.heap.size + 1) s kk) ∧ Hid (Below W.heap.size W w2) :=
  ⟨k', hk, Lib.hid (hC1.grown hG2 (by omega)), Lib.hid hR2, Lib.hid (below_only (below_only hB hG1 hB.size (Nat.le_refl _)) hG2 (Nat.le_trans hB.size hG1.size) (Nat.le_succ _))⟩
/-- what Quoted finds: the text, whether there is one, the place behind -/
def quoteOut (s : ByteArray) (k : Nat) : ByteArray × Bool × Nat := match quotedAt s.data.toList k with
  | some x => (⟨x.1.toArray⟩, true, x.2)
  | none => (⟨#[]⟩, false, k)
theorem quoteOut_le (s : ByteArray) (k : Nat) (hk : k ≤ s.size) : (quoteOut s k).2.2 ≤ s.size := by
  unfold quoteOut
  cases h : quotedAt s.data.toList k with
  | none => exact hk
  | some x => have := (quotedAt_bd h).2.2; rw [← sz_len] at this; exact this
theorem qpost_out {T : TypeId} {w w' : World} {p : Nat} {s : ByteArray} {k : Nat} {e : Ending} (h : QPost T w p s k e w') : CurPost T w p s (.tuple #[.string (quoteOut s k).1, .bool (quoteOut s k).2.1]) (quoteOut s k).2.2 e w' := by
  unfold QPost at h; unfold quoteOut
  cases hq : quotedAt s.data.toList k with
  | none => rw [hq] at h; exact h
  | some x => rw [hq] at h; exact h
/-- what Mark finds -/
def markOut (s : ByteArray) (k : Nat) (c : UInt8) : Bool × Nat := if hk : k < s.size then (if s[k] = c then (true, k + 1) else (false, k)) else (false, k)
theorem markOut_le (s : ByteArray) (k : Nat) (c : UInt8) (hk : k ≤ s.size) : (markOut s k c).2 ≤ s.size := by
  unfold markOut; split
  · split
    · assumption
    · exact hk
  · exact hk
theorem mpost_out {T : TypeId} {w w' : World} {p : Nat} {s : ByteArray} {k : Nat} {c : UInt8} {e : Ending} (h : MarkPost T w p s k c e w') : CurPost T w p s (.bool (markOut s k c).1) (markOut s k c).2 e w' := by
  unfold MarkPost at h; unfold markOut
  split
  · rename_i hk
    rw [dif_pos hk] at h
    split
    · rename_i hc; rw [if_pos hc] at h; exact h
    · rename_i hc; rw [if_neg hc] at h; exact h
  · rename_i hk; rw [dif_neg hk] at h; exact h
theorem ptr_nil (p : Nat) (w : World) : (binOp .eql 31 (.pointer (some ⟨p, 0, none⟩)) (.pointer none)).run Tryd.prog w = .ok (.bool false) w := by kernel_rfl

set_option maxRecDepth 100000 in
theorem far (W : World) (s : ByteArray) (ms : List Int) (a : Option Addr) (cap : Nat) (_hl : ms.length ≤ maxLen) (_hs : s.size ≤ reachBytes) (h : 200 < s.size ∨ 40 < ms.length) :
    Calls Tryd.prog 5 #[.string s, .slice a ms.length cap] W fun e w' => e = .returned (.bool true) ∧ Below W.heap.size W w' := by
  simp only [reachBytes] at _hs
  unfold maxLen at _hl
  by_cases h200 : 200 < s.size
  · clear h
    go_enter Tryd.func5, Tryd.ntmps5
    go_wp2
    go_ret
    exact ⟨rfl, Below.refl _ _⟩
  · have h40 : 40 < ms.length := by omega
    clear h
    go_enter Tryd.func5, Tryd.ntmps5
    go_wp2
    go_ret
    exact ⟨rfl, Below.refl _ _⟩

set_option maxRecDepth 100000 in
set_option maxHeartbeats 2000000 in
theorem near (W : World) (s : ByteArray) (ms : List Int) (a : Option Addr) (cap : Nat) (hI : IntsAt W a ms) (h200 : s.size ≤ 200) (h40 : ms.length ≤ 40) :
    Calls Tryd.prog 5 #[.string s, .slice a ms.length cap] W fun e w' => e = .returned (.bool true) ∧ Below W.heap.size W w' := by
  have hC0 : CurAt tC ((W.alloc (.cells #[.string s, .int .i64 0] tC)).alloc (.cells #[.string s, .int .i64 0] tR)) W.heap.size s 0 := Blk.alloc (Blk.new W _ _) _
  have hR0 : CurAt tR ((W.alloc (.cells #[.string s, .int .i64 0] tC)).alloc (.cells #[.string s, .int .i64 0] tR)) (W.heap.size + 1) s 0 := by
    have := Blk.new (W.alloc (.cells #[.string s, .int .i64 0] tC)) #[.string s, .int .i64 0] tR
    rw [World.size_alloc] at this
    exact this
  have hB0 : Below W.heap.size W ((W.alloc (.cells #[.string s, .int .i64 0] tC)).alloc (.cells #[.string s, .int .i64 0] tR)) := ((Below.refl _ _).alloc (Nat.le_refl _) _).alloc (by simp) _
  have hC0' := Lib.hid hC0
  have hR0' := Lib.hid hR0
  have hB0' := Lib.hid hB0
  clear hC0 hR0 hB0
  have hpn := ptr_nil
  go_enter Tryd.func5, Tryd.ntmps5
  go_wp2_with fail
  refine (tokenOn _ _).mono ?_
  rintro e w1 ⟨rfl, rfl⟩
  go_wp2
  go_loopw [7] (fun i wr => ∃ (j k : Nat), j ≤ ms.length ∧ i = .int .i64 j ∧ k ≤ s.size ∧ Hid (CurAt tC wr W.heap.size s k) ∧ Hid (CurAt tR wr (W.heap.size + 1) s k) ∧ Hid (Below W.heap.size W wr)) (fun i _ => ms.length - (intOf i).toNat)
  case atStart => exact ⟨0, 0, Nat.zero_le _, rfl, Nat.zero_le _, hC0', hR0', hB0'⟩
  case round =>
    obtain ⟨j, k, hj, rfl, hk, hC, hR, hB⟩ := hrel
    clear hC0' hR0' hB0'
    by_cases hlt : j < ms.length
    · obtain ⟨b, off, rfl, hcell, hm0, hm1⟩ := (hI.later hB.out) j hlt
      generalize ms[j] = m at hcell hm0 hm1
      by_cases c1 : m < 0
      · go_wp2_with fail
        refine (tokenGo _ _ s k (-2 - m) hC.out (by omega)).mono ?_
        rintro e w1 ⟨rfl, hC1, hG1⟩
        have hR1 := hR.out.grown hG1 (by omega)
        have hC1' := Lib.hid hC1
        have hG1' := Lib.hid hG1
        have hR1' := Lib.hid hR1
        clear hC1 hG1 hR1
        go_wp2_with fail
        refine (refGo _ _ s k (-2 - m) hR1'.out (by omega)).mono ?_
        rintro e w2 ⟨rfl, hR2, hG2⟩
        obtain ⟨kk, hkk, hC3, hR3, hB3⟩ := pairUp hB.out hC1'.out hG1'.out hR2 hG2 (clampAt_le s (-2 - m))
        clear hC1' hG1' hR1' hR2 hG2 hC hR hB
        go_wp2
        by_cases hend : s.size ≤ kk
        · have d1 : decide (s.size ≤ kk) = true := by simpa using hend
          have d2 : ((kk : Int) == (s.size : Int)) = true := by rw [beq_iff_eq]; omega
          have c1 := hR3.out.c1
          go_quiet ((first | (go_at_call 32; exact Calls.quiet_of_same (tokenAt _ _ s kk (hC3.out.drewN _))) | (go_at_call 33; exact Calls.quiet_of (tokenEnd _ _ s kk (hC3.out.drewN _)))))
          go_wp2
          go_roundw
          case rel => exact ⟨j + 1, kk, by omega, by go_num, hkk, Lib.hid (hC3.out.drewN _), Lib.hid (hR3.out.drewN _), Lib.hid (below_drewN hB3.out _)⟩
          case measure => simp [intOf]; omega
        · have d1 : decide (s.size ≤ kk) = false := by simpa using hend
          have d2 : ((kk : Int) == (s.size : Int)) = false := by rw [beq_eq_false_iff_ne]; omega
          have c1 := hR3.out.c1
          go_quiet ((first | (go_at_call 32; exact Calls.quiet_of_same (tokenAt _ _ s kk (hC3.out.drewN _))) | (go_at_call 33; exact Calls.quiet_of (tokenEnd _ _ s kk (hC3.out.drewN _)))))
          go_wp2
          go_roundw
          case rel => exact ⟨j + 1, kk, by omega, by go_num, hkk, Lib.hid (hC3.out.drewN _), Lib.hid (hR3.out.drewN _), Lib.hid (below_drewN hB3.out _)⟩
          case measure => simp [intOf]; omega
      · by_cases e0 : m = 0
        · have t0 : (m == 0) = true := by rw [e0]; rfl
          clear e0
          go_wp2_with fail
          refine (tokenBlanks _ _ s k hC.out (by omega) hk).mono ?_
          rintro e w1 ⟨rfl, hC1, hG1⟩
          have hR1 := hR.out.grown hG1 (by omega)
          have hC1' := Lib.hid hC1
          have hG1' := Lib.hid hG1
          have hR1' := Lib.hid hR1
          clear hC1 hG1 hR1
          go_wp2_with fail
          refine (refBlanks _ _ s k hR1'.out (by omega) hk).mono ?_
          rintro e w2 ⟨rfl, hR2, hG2⟩
          obtain ⟨kk, hkk, hC3, hR3, hB3⟩ := pairUp hB.out hC1'.out hG1'.out hR2 hG2 (blanksN_le s k hk)
          clear hC1' hG1' hR1' hR2 hG2 hC hR hB
          go_wp2
          by_cases hend : s.size ≤ kk
          · have d1 : decide (s.size ≤ kk) = true := by simpa using hend
            have d2 : ((kk : Int) == (s.size : Int)) = true := by rw [beq_iff_eq]; omega
            have c1 := hR3.out.c1
            go_quiet ((first | (go_at_call 32; exact Calls.quiet_of_same (tokenAt _ _ s kk (hC3.out.drewN _))) | (go_at_call 33; exact Calls.quiet_of (tokenEnd _ _ s kk (hC3.out.drewN _)))))
            go_wp2
            go_roundw
            case rel => exact ⟨j + 1, kk, by omega, by go_num, hkk, Lib.hid (hC3.out.drewN _), Lib.hid (hR3.out.drewN _), Lib.hid (below_drewN hB3.out _)⟩
            case measure => simp [intOf]; omega
          · have d1 : decide (s.size ≤ kk) = false := by simpa using hend
            have d2 : ((kk : Int) == (s.size : Int)) = false := by rw [beq_eq_false_iff_ne]; omega
            have c1 := hR3.out.c1
            go_quiet ((first | (go_at_call 32; exact Calls.quiet_of_same (tokenAt _ _ s kk (hC3.out.drewN _))) | (go_at_call 33; exact Calls.quiet_of (tokenEnd _ _ s kk (hC3.out.drewN _)))))
            go_wp2
            go_roundw
            case rel => exact ⟨j + 1, kk, by omega, by go_num, hkk, Lib.hid (hC3.out.drewN _), Lib.hid (hR3.out.drewN _), Lib.hid (below_drewN hB3.out _)⟩
            case measure => simp [intOf]; omega
        · have t0 : (m == 0) = false := by rw [beq_eq_false_iff_ne]; exact e0
          by_cases e1 : m = 1
          · have t1 : (m == 1) = true := by rw [e1]; rfl
            clear e0 e1
            go_wp2_with fail
            refine (tokenWord _ _ s k hC.out (by omega) hk).mono ?_
            rintro e w1 ⟨rfl, hC1, hG1⟩
            have hR1 := hR.out.grown hG1 (by omega)
            have hC1' := Lib.hid hC1
            have hG1' := Lib.hid hG1
            have hR1' := Lib.hid hR1
            clear hC1 hG1 hR1
            go_wp2_with fail
            refine (refWord _ _ s k hR1'.out (by omega) hk).mono ?_
            rintro e w2 ⟨rfl, hR2, hG2⟩
            obtain ⟨kk, hkk, hC3, hR3, hB3⟩ := pairUp hB.out hC1'.out hG1'.out hR2 hG2 (wordAt_le s k hk)
            clear hC1' hG1' hR1' hR2 hG2 hC hR hB
            go_wp2
            by_cases hend : s.size ≤ kk
            · have d1 : decide (s.size ≤ kk) = true := by simpa using hend
              have d2 : ((kk : Int) == (s.size : Int)) = true := by rw [beq_iff_eq]; omega
              have c1 := hR3.out.c1
              go_quiet ((first | (go_at_call 32; exact Calls.quiet_of_same (tokenAt _ _ s kk (hC3.out.drewN _))) | (go_at_call 33; exact Calls.quiet_of (tokenEnd _ _ s kk (hC3.out.drewN _)))))
              go_wp2
              go_roundw
              case rel => exact ⟨j + 1, kk, by omega, by go_num, hkk, Lib.hid (hC3.out.drewN _), Lib.hid (hR3.out.drewN _), Lib.hid (below_drewN hB3.out _)⟩
              case measure => simp [intOf]; omega
            · have d1 : decide (s.size ≤ kk) = false := by simpa using hend
              have d2 : ((kk : Int) == (s.size : Int)) = false := by rw [beq_eq_false_iff_ne]; omega
              have c1 := hR3.out.c1
              go_quiet ((first | (go_at_call 32; exact Calls.quiet_of_same (tokenAt _ _ s kk (hC3.out.drewN _))) | (go_at_call 33; exact Calls.quiet_of (tokenEnd _ _ s kk (hC3.out.drewN _)))))
              go_wp2
              go_roundw
              case rel => exact ⟨j + 1, kk, by omega, by go_num, hkk, Lib.hid (hC3.out.drewN _), Lib.hid (hR3.out.drewN _), Lib.hid (below_drewN hB3.out _)⟩
              case measure => simp [intOf]; omega
          · have t1 : (m == 1) = false := by rw [beq_eq_false_iff_ne]; exact e1
            by_cases e2 : m = 2
            · have t2 : (m == 2) = true := by rw [e2]; rfl
              clear e0 e1 e2
              have q1 := tokenQuoted wr W.heap.size s k hC.out (by omega) hk
              have q2 := fun w h => refQuoted w (W.heap.size + 1) s k h (by omega) hk
              have q1' : Calls Tryd.prog 28 #[.pointer (some ⟨W.heap.size, 0, none⟩)] wr (CurPost tC wr W.heap.size s (.tuple #[.string (quoteOut s k).1, .bool (quoteOut s k).2.1]) (quoteOut s k).2.2) := q1.mono fun e w' h => qpost_out h
              have q2' := fun w h => (q2 w h).mono fun e w' h => qpost_out h
              clear q1 q2
              have hqo := quoteOut_le s k hk
              generalize quoteOut s k = Q at q1' q2' hqo
              obtain ⟨t, ok, kq⟩ := Q
              simp only at q1' q2' hqo
              go_wp2_with fail
              refine (q1').mono ?_
              rintro e w1 ⟨rfl, hC1, hG1⟩
              have hR1 := hR.out.grown hG1 (by omega)
              have hC1' := Lib.hid hC1
              have hG1' := Lib.hid hG1
              have hR1' := Lib.hid hR1
              clear hC1 hG1 hR1
              go_wp2_with fail
              refine (q2' _ hR1'.out).mono ?_
              rintro e w2 ⟨rfl, hR2, hG2⟩
              obtain ⟨kk, hkk, hC3, hR3, hB3⟩ := pairUp hB.out hC1'.out hG1'.out hR2 hG2 (hqo)
              clear hC1' hG1' hR1' hR2 hG2 hC hR hB
              go_wp2
              by_cases hend : s.size ≤ kk
              · have d1 : decide (s.size ≤ kk) = true := by simpa using hend
                have d2 : ((kk : Int) == (s.size : Int)) = true := by rw [beq_iff_eq]; omega
                have c1 := hR3.out.c1
                go_quiet ((first | (go_at_call 32; exact Calls.quiet_of_same (tokenAt _ _ s kk (hC3.out.drewN _))) | (go_at_call 33; exact Calls.quiet_of (tokenEnd _ _ s kk (hC3.out.drewN _)))))
                go_wp2
                go_roundw
                case rel => exact ⟨j + 1, kk, by omega, by go_num, hkk, Lib.hid (hC3.out.drewN _), Lib.hid (hR3.out.drewN _), Lib.hid (below_drewN hB3.out _)⟩
                case measure => simp [intOf]; omega
              · have d1 : decide (s.size ≤ kk) = false := by simpa using hend
                have d2 : ((kk : Int) == (s.size : Int)) = false := by rw [beq_eq_false_iff_ne]; omega
                have c1 := hR3.out.c1
                go_quiet ((first | (go_at_call 32; exact Calls.quiet_of_same (tokenAt _ _ s kk (hC3.out.drewN _))) | (go_at_call 33; exact Calls.quiet_of (tokenEnd _ _ s kk (hC3.out.drewN _)))))
                go_wp2
                go_roundw
                case rel => exact ⟨j + 1, kk, by omega, by go_num, hkk, Lib.hid (hC3.out.drewN _), Lib.hid (hR3.out.drewN _), Lib.hid (below_drewN hB3.out _)⟩
                case measure => simp [intOf]; omega
            · have t2 : (m == 2) = false := by rw [beq_eq_false_iff_ne]; exact e2
              clear e0 e1 e2
              obtain ⟨c, hc⟩ : ∃ c : UInt8, (c.toNat : Int) = m % 256 := ⟨UInt8.ofNat (m % 256).toNat, by rw [UInt8.toNat_ofNat', Nat.mod_eq_of_lt (show (m % 256).toNat < 2 ^ 8 by omega)]; omega⟩
              have q1 := tokenMarkP wr W.heap.size s k c hC.out (by omega)
              have q2 := fun w h => refMark w (W.heap.size + 1) s k c h (by omega) hk
              have q1' : Calls Tryd.prog 30 #[.pointer (some ⟨W.heap.size, 0, none⟩), .int .u8 c.toNat] wr (CurPost tC wr W.heap.size s (.bool (markOut s k c).1) (markOut s k c).2) := q1.mono fun e w' h => mpost_out h
              have q2' := fun w h => (q2 w h).mono fun e w' h => mpost_out h
              clear q1 q2
              have hqo := markOut_le s k c hk
              generalize markOut s k c = Q at q1' q2' hqo
              obtain ⟨ok, kq⟩ := Q
              simp only at q1' q2' hqo
              rw [hc] at q1' q2'
              clear hc
              go_wp2_with fail
              refine (q1').mono ?_
              rintro e w1 ⟨rfl, hC1, hG1⟩
              have hR1 := hR.out.grown hG1 (by omega)
              have hC1' := Lib.hid hC1
              have hG1' := Lib.hid hG1
              have hR1' := Lib.hid hR1
              clear hC1 hG1 hR1
              go_wp2_with fail
              refine (q2' _ hR1'.out).mono ?_
              rintro e w2 ⟨rfl, hR2, hG2⟩
              obtain ⟨kk, hkk, hC3, hR3, hB3⟩ := pairUp hB.out hC1'.out hG1'.out hR2 hG2 (hqo)
              clear hC1' hG1' hR1' hR2 hG2 hC hR hB
              go_wp2
              by_cases hend : s.size ≤ kk
              · have d1 : decide (s.size ≤ kk) = true := by simpa using hend
                have d2 : ((kk : Int) == (s.size : Int)) = true := by rw [beq_iff_eq]; omega
                have c1 := hR3.out.c1
                go_quiet ((first | (go_at_call 32; exact Calls.quiet_of_same (tokenAt _ _ s kk (hC3.out.drewN _))) | (go_at_call 33; exact Calls.quiet_of (tokenEnd _ _ s kk (hC3.out.drewN _)))))
                go_wp2
                go_roundw
                case rel => exact ⟨j + 1, kk, by omega, by go_num, hkk, Lib.hid (hC3.out.drewN _), Lib.hid (hR3.out.drewN _), Lib.hid (below_drewN hB3.out _)⟩
                case measure => simp [intOf]; omega
              · have d1 : decide (s.size ≤ kk) = false := by simpa using hend
                have d2 : ((kk : Int) == (s.size : Int)) = false := by rw [beq_eq_false_iff_ne]; omega
                have c1 := hR3.out.c1
                go_quiet ((first | (go_at_call 32; exact Calls.quiet_of_same (tokenAt _ _ s kk (hC3.out.drewN _))) | (go_at_call 33; exact Calls.quiet_of (tokenEnd _ _ s kk (hC3.out.drewN _)))))
                go_wp2
                go_roundw
                case rel => exact ⟨j + 1, kk, by omega, by go_num, hkk, Lib.hid (hC3.out.drewN _), Lib.hid (hR3.out.drewN _), Lib.hid (below_drewN hB3.out _)⟩
                case measure => simp [intOf]; omega
    · go_wp2
      go_ret
      exact ⟨rfl, hB.out⟩

theorem walk (W : World) (_hsh : W.ShapedOpen Tryd.prog) (s : ByteArray) (hs : s.size ≤ reachBytes) (a : Option Addr) (len cap : Nat) (hR : Rd Tryd.prog W 30 [.slice a len cap]) :
    Calls Tryd.prog 5 #[.string s, .slice a len cap] W fun e w' => e = .returned (.bool true) ∧ Below W.heap.size W w' := by
  obtain ⟨ms, rfl, hI, hl⟩ := ints_open hR
  by_cases h : 200 < s.size ∨ 40 < ms.length
  · exact far W s ms a cap hl hs h
  · exact near W s ms a cap hI (by omega) (by omega)
end Go.Proofs.YtdpmhkineanloaaDoor.lawTokenGoes
