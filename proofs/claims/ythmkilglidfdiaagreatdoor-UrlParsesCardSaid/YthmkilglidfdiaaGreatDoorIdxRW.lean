/- strings.IndexRune("/?", r) for a rune that is no ASCII. -/
import Derived.Test.YthmkilglidfdiaaGreatDoorIdxR
import Derived.BigQuiet
import Derived.WalkMore
namespace Go.Proofs.YthmkilglidfdiaaGreatDoor
open Go.RowKit
theorem below_iter (w : World) (S : ByteArray) (i : Nat) : Below w.heap.size w (w.iter S i) := by
  exact (Below.refl _ _).alloc (Nat.le_refl _) _
set_option linter.unusedSimpArgs false in
set_option maxRecDepth 100000 in
set_option maxHeartbeats 1000000 in
theorem idxRune_high (r : Int) (w : World) (h1 : 128 ≤ r) (h2 : r ≤ 2147483647) :
    Calls Tryz.prog 32 #[.string ⟨#[47, 63]⟩, .int .i32 r] w fun e w' => e = .returned (.int .i64 (-1)) ∧ Below w.heap.size w w' := by
  have t0 : decide ((0 : Int) ≤ r) = true := by simp; omega
  have t1 : decide (r < 128) = false := by simp; omega
  go_enter Tryz.func32, Tryz.ntmps32
  by_cases e1 : r = 65533
  · subst e1
    obtain ⟨S, hS⟩ : ∃ S : ByteArray, S = ⟨#[47, 63]⟩ := ⟨_, rfl⟩
    have hSs : S.size = 2 := by rw [hS]; rfl
    have hSb : ∀ j (hj : j < S.size), (S[j]'hj).toNat < 128 := by
      subst hS
      intro j hj
      match j, hj with
      | 0, _ => show (47 : UInt8).toNat < 128; decide
      | 1, _ => show (63 : UInt8).toNat < 128; decide
      | j + 2, hj => exact absurd hj (by show ¬ j + 2 < 2; omega)
    rw [← hS]
    clear hS
    go_wp2
    go_loopg [5, 6] 2 (fun g _ _ wx => ∃ i : Nat, i + g = 2 ∧ wx = w.iter S i)
    case atStart => exact ⟨0, by omega, rfl⟩
    case round =>
      obtain ⟨i, hig, rfl⟩ := hrel
      cases gk with
      | zero =>
        obtain rfl : i = 2 := by omega
        have hnx := run_next_end (P := Tryz.prog) w S 2
        go_wp2
        go_ret
        exact ⟨rfl, below_iter _ _ _⟩
      | succ g =>
        have hi : i < S.size := by omega
        have hx := hSb i hi
        have hnx := fun ty => run_next_ascii (P := Tryz.prog) w S i ty hi hx
        have hne : (((S[i]'hi).toNat : Int) == 65533) = false := beq_eq_false_iff_ne.2 (by omega)
        go_wp2
        go_roundg g
        case measure => omega
        case rel => exact ⟨i + 1, by omega, rfl⟩
  · have t2 : (r == 65533) = false := beq_eq_false_iff_ne.2 e1
    have hv := fun w' => Tryz.utf8_ValidRune r w'
    cases e2 : Lib.validRune r
    · rw [e2] at hv
      go_wp2_with fail
      refine (hv _).mono ?_
      rintro e w1 ⟨rfl, rfl⟩
      go_wp2
      go_ret
      exact ⟨rfl, Below.refl _ _⟩
    · rw [e2] at hv
      obtain ⟨S, hS⟩ : ∃ S : ByteArray, S = ⟨#[47, 63]⟩ := ⟨_, rfl⟩
      have hSs : S.size = 2 := by rw [hS]; rfl
      have h12 : 1 < S.size := by omega
      have hS1 : (S[1]'h12).toNat = 63 := by subst hS; rfl
      rw [← hS]
      clear hS
      go_wp2_with fail
      refine (hv _).mono ?_
      rintro e w1 ⟨rfl, rfl⟩
      obtain ⟨h2s, h4s, hE⟩ := encode_high r h1
      have hcv : ∀ w', (convert 21 9 (.int .i32 r)).run Tryz.prog w' = .ok (.string (Utf8.encode r)) w' := fun w' => by kernel_rfl
      generalize Utf8.encode r = E at h2s h4s hE hcv
      obtain ⟨k, hk⟩ : ∃ k, E.size = k + 1 := ⟨E.size - 1, by omega⟩
      have hkE : k < E.size := by omega
      have hl := hE k hkE
      have hk1 : 1 ≤ k := by omega
      clear hE h2s
      go_wp2
      go_step3
      go_wp2
      go_loop [9, 10] (fun v c => v = .int .i64 (k : Int) ∧ c = .int .i64 0) (fun _ _ => 1)
      case atStart => exact ⟨by first | rfl | (simp; done) | go_num, rfl⟩
      case round =>
        obtain ⟨rfl, rfl⟩ := hrel
        by_cases h1k : k = 1
        · subst h1k
          have hb := hl
          have m1 : (((S[1]'h12).toNat : Int) != ((E[1]'hkE).toNat : Int)) = true := by rw [bne, beq_eq_false_iff_ne.2 (by omega)]; rfl
          have hib := fun w' => Tryz.strings_IndexByte (S.extract 2 S.size) ((E[1]'hkE).toNat : Int) w'
          have hnil : (S.extract 2 S.size).data.toList = [] := by
            apply List.length_eq_zero_iff.1
            rw [← sz_len, ByteArray.size_extract]; omega
          rw [hnil, show ∀ c, Lib.indexByte ([] : List UInt8) c = -1 from fun c => rfl] at hib
          have hz2 : (2 : Int) ≤ (S.size : Int) := by omega
          have hw2 : IntKind.i64.wrap 2 = 2 := by decide
          have h12' : (1 : Int) < (S.size : Int) := by omega
          clear hl hb hnil hS1 hSs
          go_wp2
          go_step3
          go_wp2
          go_quiet (fail)
          go_wp2
          generalize hw2e : w1.drewN nq = w2
          have hB2 := Lib.hid (show Below w1.heap.size w1 w2 by rw [← hw2e]; exact below_drewN (Below.refl _ _) _)
          clear hw2e
          go_quiet ((go_at_call 10; exact Calls.quiet_of_same (hib _)))
          go_wp2
          (try rw [Exit.noGoto_ret])
          (try simp only [Exit.inBlock])
          (repeat (simp (config := { zetaDelta := true }) only [Exit.noGoto_ret, Exit.inBlock, Exit.then]))
          go_ret
          exact ⟨rfl, below_drewN hB2.out _⟩
        · have hk2 : decide ((k : Int) < 2) = false := by simp; omega
          have hk3 : ¬ k < S.size := by omega
          have hk4 : decide (k < S.size) = false := by simp; omega
          clear hSs hk2
          go_wp2
          (try rw [Exit.noGoto_ret])
          go_ret
          exact ⟨rfl, Below.refl _ _⟩
end Go.Proofs.YthmkilglidfdiaaGreatDoor
