/- strconv.FormatInt at the bases 16 and 2, in a world that holds the table of math/bits. -/
import Derived.Test.YtfkflgcifddnnaaDoorRadix
import Derived.Test.YtfkflgcifddnnaaDoorBlk
import Derived.Test.YtfkflgcifddnnaaDoorOwnB
import Derived.Lib.LaidTab
import Derived.Laws.BitsAllLaws
import Derived.Laws.BitsLemmas
namespace Go.Proofs.YtfkflgcifddnnaaDoor
open Go.RowKit

theorem ofInt_u64 (a : Nat) (ha : a < 18446744073709551616) : (BitVec.ofInt 64 (a : Int)).toNat = a := by
  rw [BitVec.ofInt_natCast, BitVec.toNat_ofNat]; exact Nat.mod_eq_of_lt (by omega)
theorem u64_and_nat (a b : Nat) (ha : a < 18446744073709551616) (hb : b < 18446744073709551616) : bits .and .u64 (a : Int) (b : Int) = ((a &&& b : Nat) : Int) := by
  have hx : a &&& b < 2 ^ 64 := Nat.and_lt_two_pow _ (by omega)
  show IntKind.u64.wrap ((BitVec.ofInt 64 (a : Int) &&& BitVec.ofInt 64 (b : Int)).toNat : Int) = _
  rw [BitVec.toNat_and, ofInt_u64 a ha, ofInt_u64 b hb]
  exact IntWalk.u64_in _ ⟨by omega, by omega⟩
theorem and_15 (a : Nat) (ha : a < 18446744073709551616) : bits .and .u64 (a : Int) 15 = ((a % 16 : Nat) : Int) := by
  have := u64_and_nat a 15 ha (by decide)
  rw [show (15 : Nat) = 2 ^ 4 - 1 from rfl, Nat.and_two_pow_sub_one_eq_mod] at this
  exact this
theorem and_1 (a : Nat) (ha : a < 18446744073709551616) : bits .and .u64 (a : Int) 1 = ((a % 2 : Nat) : Int) := by
  have := u64_and_nat a 1 ha (by decide)
  rw [show (1 : Nat) = 2 ^ 1 - 1 from rfl, Nat.and_two_pow_sub_one_eq_mod] at this
  exact this
theorem zeros65 {b n : Nat} : ((rowD b n 0).map bv).toArray = Tryd.zeroCells292 := by rw [rowD_zero]; kernel_rfl
theorem dig36 (d : Nat) (h : d < 36) : (⟨#[48, 49, 50, 51, 52, 53, 54, 55, 56, 57, 97, 98, 99, 100, 101, 102, 103, 104, 105, 106, 107, 108, 109, 110, 111, 112, 113, 114, 115, 116, 117, 118, 119, 120, 121, 122]⟩ : ByteArray)[d]'h = sig d := by
  have : ∀ x : Fin 36, (⟨#[48, 49, 50, 51, 52, 53, 54, 55, 56, 57, 97, 98, 99, 100, 101, 102, 103, 104, 105, 106, 107, 108, 109, 110, 111, 112, 113, 114, 115, 116, 117, 118, 119, 120, 121, 122]⟩ : ByteArray)[x.val]'x.isLt = sig x.val := by decide +kernel
  exact this ⟨d, h⟩
theorem few_digits {b n k : Nat} (hb : 2 ≤ b) (hn : n < 18446744073709551616) (h : b ≤ n / b ^ k) : k ≤ 62 := by
  have h1 : b * b ^ k ≤ n := (Nat.le_div_iff_mul_le (Nat.pow_pos (by omega))).1 h
  have h2 : 2 ^ (k + 1) ≤ b * b ^ k := by
    rw [Nat.pow_succ, Nat.mul_comm]; exact Nat.mul_le_mul hb (Nat.pow_le_pow_left hb k)
  have h3 : 2 ^ (k + 1) < 2 ^ 64 := by omega
  have := (Nat.pow_lt_pow_iff_right (by omega)).1 h3
  omega
theorem few_digits' {b n k : Nat} (hb : 2 ≤ b) (hn : n < 18446744073709551616) (h : ∀ x, x < k → b ≤ n / b ^ x) : k ≤ 63 := by
  by_cases h0 : k = 0
  · omega
  · have := few_digits hb hn (h (k - 1) (by omega)); omega
theorem slice65 (B j : Nat) (h : j < 65) (w : World) : (Instr.sliceAt 292 (.pointer (some ⟨B, 0, none⟩)) (some (.int .i64 (j : Int))) none none).run Tryd.prog w = .ok (.slice (some ⟨B, j, none⟩) (65 - j) (65 - j)) w := by
  have ha : Tryd.prog.arrayLen 292 = 65 := by kernel_rfl
  have hs : ∀ w, (sizeOf (Tryd.prog.elem 292)).run Tryd.prog w = .ok 1 w := fun w => by kernel_rfl
  rw [run_sliceAt_array_l w 292 ⟨B, 0, none⟩ (by kernel_rfl) .i64 (j : Int) (by omega) (by rw [ha]; omega), hs]
  simp only [Result.andThen, slicedAt, ha, Int.toNat_natCast, Nat.mul_one]
  rw [if_neg (by omega)]
  have : (⟨B, 0, none⟩ : Addr).add j = ⟨B, j, none⟩ := by unfold Addr.add; split <;> simp_all
  rw [this]
/-- the table of math/bits.TrailingZeros64, as far as it is asked: at 2 and at 16 -/
structure Deb (w : World) : Prop where
  one : w.cell? ⟨13, 1, none⟩ = some (.int .u8 1)
  four : w.cell? ⟨13, 15, none⟩ = some (.int .u8 4)
theorem Deb.later {w w' : World} (h : Deb w) (hb : Below w.heap.size w w') : Deb w' :=
  ⟨(hb.cell (World.block_lt_of_cell? w _ h.one)).trans h.one, (hb.cell (World.block_lt_of_cell? w _ h.four)).trans h.four⟩

theorem trail_16 (w : World) (hd : Deb w) : Calls Tryd.prog 239 #[.int .u64 16] w fun e w' => e = .returned (.int .i64 4) ∧ w = w' := by
  have h1 := hd.one
  have h4 := hd.four
  clear hd
  have hx : bits BinOp.and IntKind.u64 16 (IntKind.u64.wrap (-16)) = 16 := by kernel_rfl
  have hy : IntKind.u64.wrap (16 * 285870213051353865) / 288230376151711744 = 15 := by kernel_rfl
  have c : Calls Tryd.prog 251 #[.int .u64 16] w fun e w' => e = .returned (.int .i64 4) ∧ w = w' := by
    go_enter Tryd.func251, Tryd.ntmps251
    go_wp2
    go_ret
    exact ⟨rfl, rfl⟩
  go_enter Tryd.func239, Tryd.ntmps239
  go_wp2_with fail
  refine c.mono ?_
  rintro e w' ⟨rfl, rfl⟩
  go_wp2
  go_ret
  exact ⟨rfl, rfl⟩
theorem pow2_16 (w : World) : Calls Tryd.prog 238 #[.int .i64 16] w fun e w' => e = .returned (.bool true) ∧ w = w' := by
  go_enter Tryd.func238, Tryd.ntmps238
  go_wp2
  go_ret
  exact ⟨rfl, rfl⟩

set_option maxRecDepth 100000 in
theorem fmtBits_16 (n : Nat) (hn : n < 18446744073709551616) (w : World) (hd : Deb w) :
    Calls Tryd.prog 217 #[.slice none 0 0, .int .u64 n, .int .i64 16, .bool false, .bool false] w fun e w' => e = .returned (.tuple #[.slice none 0 0, .string ⟨(radix 16 n).toArray⟩]) ∧ Below w.heap.size w w' := by
  go_enter Tryd.func217, Tryd.ntmps217
  go_wp2_with (first | (go_at_call 238; refine (pow2_16 _).mono ?_; rintro e w' ⟨rfl, rfl⟩) | (go_at_call 239; refine (trail_16 _ (hd.later ((Below.refl _ _).alloc (Nat.le_refl _) _))).mono ?_; rintro e w' ⟨rfl, rfl⟩))
  have hB0 : Below w.heap.size w (w.alloc (Obj.cells Tryd.zeroCells292 292)) := (Below.refl _ _).alloc (Nat.le_refl _) _
  have hb0 : Blk (w.alloc (Obj.cells Tryd.zeroCells292 292)) w.heap.size ((rowD 16 n 0).map bv).toArray 292 := by rw [zeros65]; exact Blk.new _ _ _
  go_loopw [1, 13] (fun u i wr => ∃ (m k j : Nat), j + k = 64 ∧ m < 18446744073709551616 ∧ u = .int .u64 m ∧ i = .int .i64 (j + 1 : Nat) ∧ Hid (m = n / 16 ^ k) ∧ Hid (∀ x, x < k → 16 ≤ n / 16 ^ x) ∧ Blk wr w.heap.size ((rowD 16 n k).map bv).toArray 292 ∧ Below w.heap.size w wr) (fun _ i _ => (intOf i).toNat)
  case atStart => exact ⟨n, 0, 64, rfl, hn, rfl, rfl, Lib.hid (by simp), Lib.hid (fun x hx => absurd hx (Nat.not_lt_zero x)), hb0, hB0⟩
  case round =>
    obtain ⟨m, k, j, hjk, hm, rfl, rfl, hmk, hall, hb, hB⟩ := hrel
    clear hb0 hB0 hd
    obtain ⟨v0, hv0⟩ : ∃ v, wr.cell? ⟨w.heap.size, j, none⟩ = some v := by
      have hj : j < ((rowD 16 n k).map bv).length := by rw [List.length_map, rowD_length 16 n k (by omega)]; omega
      exact ⟨_, hb.cell j (by rw [List.getElem?_toArray]; exact List.getElem?_eq_getElem hj)⟩
    have hf0 := hb.free j
    by_cases h : 16 ≤ m
    · have hand : bits BinOp.and IntKind.u64 (m : Int) 15 = ((m % 16 : Nat) : Int) := and_15 m hm
      have hmod : m % 16 < 16 := Nat.mod_lt _ (by decide)
      have hk62 : k ≤ 62 := few_digits (b := 16) (by decide) hn (by rw [← hmk.out]; exact h)
      go_wp2
      go_roundw
      case rel =>
        refine ⟨m / 16, k + 1, j - 1, by omega, by omega, by go_num, by rw [show j - 1 + 1 = j by omega], Lib.hid (by rw [hmk.out, div_pow_succ]), Lib.hid ?_, ?_, hB.setCell (Nat.le_refl _) _⟩
        · intro x hx
          by_cases hxk : x < k
          · exact hall.out x hxk
          · rw [show x = k by omega, ← hmk.out]; exact h
        · have hset := hb.set j (bv (sig (m % 16)))
          have e : (j, (⟨#[48, 49, 50, 51, 52, 53, 54, 55, 56, 57, 97, 98, 99, 100, 101, 102, 103, 104, 105, 106, 107, 108, 109, 110, 111, 112, 113, 114, 115, 116, 117, 118, 119, 120, 121, 122]⟩ : ByteArray)[m % 16]'(Nat.lt_of_lt_of_le hmod (by decide))) = (64 - k, sig (n / 16 ^ k % 16)) := by
            rw [dig36 (m % 16) (by omega), hmk.out, show j = 64 - k by omega]
          have e1 := congrArg Prod.fst e
          have e2 := congrArg Prod.snd e
          simp only at e1 e2
          rw [e2, e1, rowD_succ 16 n k (by omega), List.map_set]
          have h3 := hb.set (64 - k) (bv (sig (n / 16 ^ k % 16)))
          rw [List.setIfInBounds_toArray] at h3
          exact h3
      case measure => simp [intOf]
    · have hmb : m < 16 := by omega
      have hd36 := dig36 m (by omega)
      have hk63 : k ≤ 63 := few_digits' (b := 16) (by decide) hn hall.out
      have hsl : ∀ w', (Instr.sliceAt 292 (.pointer (some ⟨w.heap.size, 0, none⟩)) (some (.int .i64 (j : Int))) none none).run Tryd.prog w' = .ok (.slice (some ⟨w.heap.size, j, none⟩) (tailD 16 n (k + 1)).length (tailD 16 n (k + 1)).length) w' := by
        intro w'
        rw [tailD_length, show k + 1 = 65 - j by omega]
        exact slice65 _ j (by omega) w'
      have hnew := hb.set j (bv (sig (n / 16 ^ k % 16)))
      rw [List.setIfInBounds_toArray, ← List.map_set, show j = 64 - k by omega, ← rowD_succ 16 n k (by omega), show 64 - k = j by omega] at hnew
      have hsig : Hid (n / 16 ^ k % 16 = m) := by rw [← hmk.out]; exact Lib.hid (Nat.mod_eq_of_lt hmb)
      rw [hsig.out] at hnew
      have hback := fun cap => run_convert_bytes_back (P := Tryd.prog) (wr.setCell ⟨w.heap.size, j, none⟩ (bv (sig m))) 134 9 5 ⟨w.heap.size, j, none⟩ cap (tailD 16 n (k + 1)) Tryd.underlying134 Tryd.underlying5 Tryd.underlying9 (fun x hx => by
        have hx' : x < k + 1 := by rwa [tailD_length] at hx
        have : (⟨w.heap.size, j, none⟩ : Addr).add x = ⟨w.heap.size, j + x, none⟩ := by unfold Addr.add; split <;> simp_all
        rw [this]
        refine hnew.cell (j + x) ?_
        rw [List.getElem?_toArray, List.getElem?_map]
        have e : (rowD 16 n (k + 1))[j + x]? = (tailD 16 n (k + 1))[x]? := by
          rw [← rowD_drop 16 n (k + 1), List.getElem?_drop, show 65 - (k + 1) + x = j + x by omega]
        rw [e, List.getElem?_eq_getElem hx]
        rfl)
      have hlen : nlen 16 n = k + 1 := nlen_of 16 n k (by omega) (by rw [← hmk.out]; omega) hall.out
      have hrad : Hid (radix 16 n = tailD 16 n (k + 1)) := Lib.hid (by unfold radix; rw [hlen])
      have hlen' := Lib.hid hlen
      have hB' : Below w.heap.size w (wr.setCell ⟨w.heap.size, j, none⟩ (bv (sig m))) := hB.setCell (Nat.le_refl _) _
      clear hlen hnew hb hall
      simp only [bv] at hback hB'
      rw [← hd36] at hback hB'
      clear hd36
      go_wp2
      go_ret2
      exact ⟨by rw [hrad.out]; rfl, hB'⟩

theorem formatInt_16 (n : Nat) (hn : n < 9223372036854775808) (w : World) (hd : Deb w) :
    Calls Tryd.prog 143 #[.int .i64 n, .int .i64 16] w fun e w' => e = .returned (.string ⟨(radix 16 n).toArray⟩) ∧ Below w.heap.size w w' := by
  have c : Calls Tryd.prog 186 #[.int .i64 n, .int .i64 16] w fun e w' => e = .returned (.string ⟨(radix 16 n).toArray⟩) ∧ Below w.heap.size w w' := by
    go_enter Tryd.func186, Tryd.ntmps186
    go_wp2_with fail
    refine (fmtBits_16 n (by omega) w hd).mono ?_
    rintro e w' ⟨rfl, hB⟩
    go_wp2
    go_ret
    exact ⟨rfl, hB⟩
  go_enter Tryd.func143, Tryd.ntmps143
  go_wp2_with fail
  refine c.mono ?_
  rintro e w' ⟨rfl, hB⟩
  go_wp2
  go_ret
  exact ⟨rfl, hB⟩

theorem trail_2 (w : World) (hd : Deb w) : Calls Tryd.prog 239 #[.int .u64 2] w fun e w' => e = .returned (.int .i64 1) ∧ w = w' := by
  have h1 := hd.one
  have h4 := hd.four
  clear hd
  have hx : bits BinOp.and IntKind.u64 2 (IntKind.u64.wrap (-2)) = 2 := by kernel_rfl
  have hy : IntKind.u64.wrap (2 * 285870213051353865) / 288230376151711744 = 1 := by kernel_rfl
  have c : Calls Tryd.prog 251 #[.int .u64 2] w fun e w' => e = .returned (.int .i64 1) ∧ w = w' := by
    go_enter Tryd.func251, Tryd.ntmps251
    go_wp2
    go_ret
    exact ⟨rfl, rfl⟩
  go_enter Tryd.func239, Tryd.ntmps239
  go_wp2_with fail
  refine c.mono ?_
  rintro e w' ⟨rfl, rfl⟩
  go_wp2
  go_ret
  exact ⟨rfl, rfl⟩
theorem pow2_2 (w : World) : Calls Tryd.prog 238 #[.int .i64 2] w fun e w' => e = .returned (.bool true) ∧ w = w' := by
  go_enter Tryd.func238, Tryd.ntmps238
  go_wp2
  go_ret
  exact ⟨rfl, rfl⟩

set_option maxRecDepth 100000 in
theorem fmtBits_2 (n : Nat) (hn : n < 18446744073709551616) (w : World) (hd : Deb w) :
    Calls Tryd.prog 217 #[.slice none 0 0, .int .u64 n, .int .i64 2, .bool false, .bool false] w fun e w' => e = .returned (.tuple #[.slice none 0 0, .string ⟨(radix 2 n).toArray⟩]) ∧ Below w.heap.size w w' := by
  go_enter Tryd.func217, Tryd.ntmps217
  go_wp2_with (first | (go_at_call 238; refine (pow2_2 _).mono ?_; rintro e w' ⟨rfl, rfl⟩) | (go_at_call 239; refine (trail_2 _ (hd.later ((Below.refl _ _).alloc (Nat.le_refl _) _))).mono ?_; rintro e w' ⟨rfl, rfl⟩))
  have hB0 : Below w.heap.size w (w.alloc (Obj.cells Tryd.zeroCells292 292)) := (Below.refl _ _).alloc (Nat.le_refl _) _
  have hb0 : Blk (w.alloc (Obj.cells Tryd.zeroCells292 292)) w.heap.size ((rowD 2 n 0).map bv).toArray 292 := by rw [zeros65]; exact Blk.new _ _ _
  go_loopw [1, 13] (fun u i wr => ∃ (m k j : Nat), j + k = 64 ∧ m < 18446744073709551616 ∧ u = .int .u64 m ∧ i = .int .i64 (j + 1 : Nat) ∧ Hid (m = n / 2 ^ k) ∧ Hid (∀ x, x < k → 2 ≤ n / 2 ^ x) ∧ Blk wr w.heap.size ((rowD 2 n k).map bv).toArray 292 ∧ Below w.heap.size w wr) (fun _ i _ => (intOf i).toNat)
  case atStart => exact ⟨n, 0, 64, rfl, hn, rfl, rfl, Lib.hid (by simp), Lib.hid (fun x hx => absurd hx (Nat.not_lt_zero x)), hb0, hB0⟩
  case round =>
    obtain ⟨m, k, j, hjk, hm, rfl, rfl, hmk, hall, hb, hB⟩ := hrel
    clear hb0 hB0 hd
    obtain ⟨v0, hv0⟩ : ∃ v, wr.cell? ⟨w.heap.size, j, none⟩ = some v := by
      have hj : j < ((rowD 2 n k).map bv).length := by rw [List.length_map, rowD_length 2 n k (by omega)]; omega
      exact ⟨_, hb.cell j (by rw [List.getElem?_toArray]; exact List.getElem?_eq_getElem hj)⟩
    have hf0 := hb.free j
    by_cases h : 2 ≤ m
    · have hand : bits BinOp.and IntKind.u64 (m : Int) 1 = ((m % 2 : Nat) : Int) := and_1 m hm
      have hmod : m % 2 < 2 := Nat.mod_lt _ (by decide)
      have hk62 : k ≤ 62 := few_digits (b := 2) (by decide) hn (by rw [← hmk.out]; exact h)
      go_wp2
      go_roundw
      case rel =>
        refine ⟨m / 2, k + 1, j - 1, by omega, by omega, by go_num, by rw [show j - 1 + 1 = j by omega], Lib.hid (by rw [hmk.out, div_pow_succ]), Lib.hid ?_, ?_, hB.setCell (Nat.le_refl _) _⟩
        · intro x hx
          by_cases hxk : x < k
          · exact hall.out x hxk
          · rw [show x = k by omega, ← hmk.out]; exact h
        · have hset := hb.set j (bv (sig (m % 2)))
          have e : (j, (⟨#[48, 49, 50, 51, 52, 53, 54, 55, 56, 57, 97, 98, 99, 100, 101, 102, 103, 104, 105, 106, 107, 108, 109, 110, 111, 112, 113, 114, 115, 116, 117, 118, 119, 120, 121, 122]⟩ : ByteArray)[m % 2]'(Nat.lt_of_lt_of_le hmod (by decide))) = (64 - k, sig (n / 2 ^ k % 2)) := by
            rw [dig36 (m % 2) (by omega), hmk.out, show j = 64 - k by omega]
          have e1 := congrArg Prod.fst e
          have e2 := congrArg Prod.snd e
          simp only at e1 e2
          rw [e2, e1, rowD_succ 2 n k (by omega), List.map_set]
          have h3 := hb.set (64 - k) (bv (sig (n / 2 ^ k % 2)))
          rw [List.setIfInBounds_toArray] at h3
          exact h3
      case measure => simp [intOf]
    · have hmb : m < 2 := by omega
      have hd36 := dig36 m (by omega)
      have hk63 : k ≤ 63 := few_digits' (b := 2) (by decide) hn hall.out
      have hsl : ∀ w', (Instr.sliceAt 292 (.pointer (some ⟨w.heap.size, 0, none⟩)) (some (.int .i64 (j : Int))) none none).run Tryd.prog w' = .ok (.slice (some ⟨w.heap.size, j, none⟩) (tailD 2 n (k + 1)).length (tailD 2 n (k + 1)).length) w' := by
        intro w'
        rw [tailD_length, show k + 1 = 65 - j by omega]
        exact slice65 _ j (by omega) w'
      have hnew := hb.set j (bv (sig (n / 2 ^ k % 2)))
      rw [List.setIfInBounds_toArray, ← List.map_set, show j = 64 - k by omega, ← rowD_succ 2 n k (by omega), show 64 - k = j by omega] at hnew
      have hsig : Hid (n / 2 ^ k % 2 = m) := by rw [← hmk.out]; exact Lib.hid (Nat.mod_eq_of_lt hmb)
      rw [hsig.out] at hnew
      have hback := fun cap => run_convert_bytes_back (P := Tryd.prog) (wr.setCell ⟨w.heap.size, j, none⟩ (bv (sig m))) 134 9 5 ⟨w.heap.size, j, none⟩ cap (tailD 2 n (k + 1)) Tryd.underlying134 Tryd.underlying5 Tryd.underlying9 (fun x hx => by
        have hx' : x < k + 1 := by rwa [tailD_length] at hx
        have : (⟨w.heap.size, j, none⟩ : Addr).add x = ⟨w.heap.size, j + x, none⟩ := by unfold Addr.add; split <;> simp_all
        rw [this]
        refine hnew.cell (j + x) ?_
        rw [List.getElem?_toArray, List.getElem?_map]
        have e : (rowD 2 n (k + 1))[j + x]? = (tailD 2 n (k + 1))[x]? := by
          rw [← rowD_drop 2 n (k + 1), List.getElem?_drop, show 65 - (k + 1) + x = j + x by omega]
        rw [e, List.getElem?_eq_getElem hx]
        rfl)
      have hlen : nlen 2 n = k + 1 := nlen_of 2 n k (by omega) (by rw [← hmk.out]; omega) hall.out
      have hrad : Hid (radix 2 n = tailD 2 n (k + 1)) := Lib.hid (by unfold radix; rw [hlen])
      have hlen' := Lib.hid hlen
      have hB' : Below w.heap.size w (wr.setCell ⟨w.heap.size, j, none⟩ (bv (sig m))) := hB.setCell (Nat.le_refl _) _
      clear hlen hnew hb hall
      simp only [bv] at hback hB'
      rw [← hd36] at hback hB'
      clear hd36
      go_wp2
      go_ret2
      exact ⟨by rw [hrad.out]; rfl, hB'⟩

theorem formatInt_2 (n : Nat) (hn : n < 9223372036854775808) (w : World) (hd : Deb w) :
    Calls Tryd.prog 143 #[.int .i64 n, .int .i64 2] w fun e w' => e = .returned (.string ⟨(radix 2 n).toArray⟩) ∧ Below w.heap.size w w' := by
  have c : Calls Tryd.prog 186 #[.int .i64 n, .int .i64 2] w fun e w' => e = .returned (.string ⟨(radix 2 n).toArray⟩) ∧ Below w.heap.size w w' := by
    go_enter Tryd.func186, Tryd.ntmps186
    go_wp2_with fail
    refine (fmtBits_2 n (by omega) w hd).mono ?_
    rintro e w' ⟨rfl, hB⟩
    go_wp2
    go_ret
    exact ⟨rfl, hB⟩
  go_enter Tryd.func143, Tryd.ntmps143
  go_wp2_with fail
  refine c.mono ?_
  rintro e w' ⟨rfl, hB⟩
  go_wp2
  go_ret
  exact ⟨rfl, hB⟩

end Go.Proofs.YtfkflgcifddnnaaDoor
