/- Merged out of Radix RadixF Hex Count B64P. -/
import Derived.Test.YtdlhihfjigcimaaDoorFound
import Derived.Lib.LaidTab
import Derived.Laws.BitsAllLaws
import Derived.Laws.BitsLemmas
import Derived.Test.YtdlhihfjigcimaaDoorFoun2
import Derived.Test.YtdlhihfjigcimaaDoorShelf
/- Numerals of a base: the last digits of a number, how many it has. Plain lists and numbers; no program. -/
namespace Go.Proofs.YtdlhihfjigcimaaDoor

/-- the sign of a digit -/
def sig (d : Nat) : UInt8 := if d < 10 then UInt8.ofNat (48 + d) else UInt8.ofNat (87 + d)
/-- the last m digits of n -/
def tailD (b n : Nat) : Nat → List UInt8
  | 0 => []
  | m + 1 => sig (n / b ^ m % b) :: tailD b n m
theorem tailD_length (b n : Nat) : ∀ m, (tailD b n m).length = m
  | 0 => rfl
  | m + 1 => by simp [tailD, tailD_length b n m]
theorem div_pow_succ (n b k : Nat) : n / b ^ (k + 1) = n / b ^ k / b := by rw [Nat.pow_succ, Nat.div_div_eq_div_mul]
/-- so many digits has n, at least one -/
def nlenF (b : Nat) : Nat → Nat → Nat
  | 0, _ => 1
  | f + 1, n => if n < b then 1 else nlenF b f (n / b) + 1
def nlen (b n : Nat) : Nat := nlenF b 64 n
theorem nlenF_of (b : Nat) : ∀ (f n k : Nat), k < f → n / b ^ k < b → (∀ j, j < k → b ≤ n / b ^ j) → nlenF b f n = k + 1
  | 0, _, _, h, _, _ => by omega
  | f + 1, n, 0, _, h, _ => by simp only [Nat.pow_zero, Nat.div_one] at h; simp [nlenF, h]
  | f + 1, n, k + 1, hk, h, hj => by
    have h0 := hj 0 (by omega)
    simp only [Nat.pow_zero, Nat.div_one] at h0
    unfold nlenF
    rw [if_neg (by omega)]
    congr 1
    refine nlenF_of b f (n / b) k (by omega) ?_ ?_
    · rw [Nat.div_div_eq_div_mul, Nat.mul_comm, ← Nat.pow_succ]; exact h
    · intro j hjk
      have := hj (j + 1) (by omega)
      rw [Nat.div_div_eq_div_mul, Nat.mul_comm, ← Nat.pow_succ]; exact this
theorem nlen_of (b n k : Nat) (hk : k < 64) (h : n / b ^ k < b) (hj : ∀ j, j < k → b ≤ n / b ^ j) : nlen b n = k + 1 := nlenF_of b 64 n k hk h hj
theorem nlenF_le (b : Nat) : ∀ (f n : Nat), nlenF b f n ≤ f + 1
  | 0, _ => Nat.le_refl _
  | f + 1, n => by
    have := nlenF_le b f (n / b)
    unfold nlenF; split <;> omega
theorem nlen_pos (b n : Nat) : 1 ≤ nlen b n := by unfold nlen nlenF; split <;> omega
theorem nlenF_small (b : Nat) (hb : 2 ≤ b) : ∀ (f n m : Nat), 1 ≤ m → n < b ^ m → nlenF b f n ≤ m
  | 0, _, _, hm, _ => hm
  | f + 1, n, m, hm, h => by
    unfold nlenF; split
    · exact hm
    · rename_i hn
      match m, hm with
      | 1, _ => simp at h; omega
      | m + 2, _ =>
        have := nlenF_small b hb f (n / b) (m + 1) (by omega) ((Nat.div_lt_iff_lt_mul (by omega)).2 (by rw [← Nat.pow_succ]; exact h))
        omega
theorem nlen_small {b n m : Nat} (hb : 2 ≤ b) (hm : 1 ≤ m) (h : n < b ^ m) : nlen b n ≤ m := nlenF_small b hb 64 n m hm h
theorem nlenF_lt (b : Nat) (hb : 2 ≤ b) : ∀ (f n : Nat), n < b ^ (f + 1) → n < b ^ nlenF b f n
  | 0, n, h => h
  | f + 1, n, h => by
    unfold nlenF; split
    · simpa
    · have := nlenF_lt b hb f (n / b) ((Nat.div_lt_iff_lt_mul (by omega)).2 (by rw [← Nat.pow_succ]; exact h))
      rw [Nat.pow_succ]
      exact (Nat.div_lt_iff_lt_mul (by omega)).1 this
theorem nlen_lt {b n : Nat} (hb : 2 ≤ b) (h : n < b ^ 65) : n < b ^ nlen b n := nlenF_lt b hb 64 n h
theorem sig0 : sig 0 = 48 := rfl
/-- one zero more ahead of a numeral that is long enough -/
theorem tailD_pad {b n m : Nat} (h : n < b ^ m) : tailD b n (m + 1) = 48 :: tailD b n m := by
  have e : sig (n / b ^ m % b) = 48 := by rw [Nat.div_eq_of_lt h, Nat.zero_mod]; rfl
  simp only [tailD]
  rw [e]
theorem tailD_pads {b n m : Nat} (hb : 2 ≤ b) (h : n < b ^ m) : ∀ j, tailD b n (m + j) = List.replicate j 48 ++ tailD b n m
  | 0 => rfl
  | j + 1 => by
    have : n < b ^ (m + j) := Nat.lt_of_lt_of_le h (Nat.pow_le_pow_right (by omega) (by omega))
    rw [← Nat.add_assoc, tailD_pad this, tailD_pads hb h j]; rfl
/-- a number's numeral -/
def radix (b n : Nat) : List UInt8 := tailD b n (nlen b n)
/-- the same, filled up with zeros to so many digits at least -/
def fillD (b n least : Nat) : List UInt8 := tailD b n (max (nlen b n) least)
theorem fillD_small {b n m : Nat} (hb : 2 ≤ b) (hm : 1 ≤ m) (h : n < b ^ m) : fillD b n m = tailD b n m := by
  unfold fillD; rw [Nat.max_eq_right (nlen_small hb hm h)]

/-- digits laid into a row of 65, from its end on -/
def rowD (b n k : Nat) : List UInt8 := List.replicate (65 - k) 0 ++ tailD b n k
theorem rowD_length (b n k : Nat) (h : k ≤ 65) : (rowD b n k).length = 65 := by simp [rowD, tailD_length]; omega
theorem rowD_zero (b n : Nat) : rowD b n 0 = List.replicate 65 0 := by simp [rowD, tailD]
theorem rowD_succ (b n k : Nat) (h : k < 65) : rowD b n (k + 1) = (rowD b n k).set (64 - k) (sig (n / b ^ k % b)) := by
  unfold rowD
  rw [List.set_append_left _ _ (by simp; omega)]
  obtain ⟨j, hj, rfl⟩ : ∃ j, j ≤ 64 ∧ k = 64 - j := ⟨64 - k, by omega, by omega⟩
  have e : (List.replicate (65 - (64 - j)) (0 : UInt8)).set (64 - (64 - j)) (sig (n / b ^ (64 - j) % b)) = List.replicate (65 - (64 - j + 1)) 0 ++ [sig (n / b ^ (64 - j) % b)] := by
    have e1 : 65 - (64 - j) = j + 1 := by omega
    have e2 : 64 - (64 - j) = j := by omega
    have e3 : 65 - (64 - j + 1) = j := by omega
    rw [e1, e2, e3, List.replicate_succ', List.set_append_right _ _ (by simp)]
    simp
  rw [e]
  simp [tailD]
theorem rowD_drop (b n k : Nat) : (rowD b n k).drop (65 - k) = tailD b n k := by unfold rowD; rw [List.drop_append_of_le_length (by simp)]; simp
end Go.Proofs.YtdlhihfjigcimaaDoor
/- strconv.FormatInt at the bases 16 and 2, in a world that holds the table of math/bits. -/
namespace Go.Proofs.YtdlhihfjigcimaaDoor
open Go.RowKit

theorem ofInt_u64 (a : Nat) (ha : a < 18446744073709551616) : (BitVec.ofInt 64 (a : Int)).toNat = a := by
  rw [BitVec.ofInt_natCast, BitVec.toNat_ofNat]; exact Nat.mod_eq_of_lt (by omega)
theorem u64_and_nat (a b : Nat) (ha : a < 18446744073709551616) (hb : b < 18446744073709551616) : bits .and .u64 (a : Int) (b : Int) = ((a &&& b : Nat) : Int) := by
  have hx : a &&& b < 2 ^ 64 := Nat.and_lt_two_pow _ (by omega)
  show IntKind.u64.wrap ((BitVec.ofInt 64 (a : Int) &&& BitVec.ofInt 64 (b : Int)).toNat : Int) = _
  rw [BitVec.toNat_and, ofInt_u64 a ha, ofInt_u64 b hb]
  exact IntWalk.u64_in _ ⟨by omega, by omega⟩
theorem and_15 (a : Nat) (ha : a < 18446744073709551616) : bits .and .u64 (a : Int) 15 = ((a % 16 : Nat) : Int) := by
  have := u64_and_nat a 15 ha (by decide)
  rw [show (15 : Nat) = 2 ^ 4 - 1 from rfl, Nat.and_two_pow_sub_one_eq_mod] at this
  exact this
theorem and_1 (a : Nat) (ha : a < 18446744073709551616) : bits .and .u64 (a : Int) 1 = ((a % 2 : Nat) : Int) := by
  have := u64_and_nat a 1 ha (by decide)
  rw [show (1 : Nat) = 2 ^ 1 - 1 from rfl, Nat.and_two_pow_sub_one_eq_mod] at this
  exact this
theorem zeros65 {b n : Nat} : ((rowD b n 0).map bv).toArray = Tryd.zeroCells231 := by rw [rowD_zero]; kernel_rfl
theorem dig36 (d : Nat) (h : d < 36) : (⟨#[48, 49, 50, 51, 52, 53, 54, 55, 56, 57, 97, 98, 99, 100, 101, 102, 103, 104, 105, 106, 107, 108, 109, 110, 111, 112, 113, 114, 115, 116, 117, 118, 119, 120, 121, 122]⟩ : ByteArray)[d]'h = sig d := by
  have : ∀ x : Fin 36, (⟨#[48, 49, 50, 51, 52, 53, 54, 55, 56, 57, 97, 98, 99, 100, 101, 102, 103, 104, 105, 106, 107, 108, 109, 110, 111, 112, 113, 114, 115, 116, 117, 118, 119, 120, 121, 122]⟩ : ByteArray)[x.val]'x.isLt = sig x.val := by decide +kernel
  exact this ⟨d, h⟩
theorem few_digits {b n k : Nat} (hb : 2 ≤ b) (hn : n < 18446744073709551616) (h : b ≤ n / b ^ k) : k ≤ 62 := by
  have h1 : b * b ^ k ≤ n := (Nat.le_div_iff_mul_le (Nat.pow_pos (by omega))).1 h
  have h2 : 2 ^ (k + 1) ≤ b * b ^ k := by
    rw [Nat.pow_succ, Nat.mul_comm]; exact Nat.mul_le_mul hb (Nat.pow_le_pow_left hb k)
  have h3 : 2 ^ (k + 1) < 2 ^ 64 := by omega
  have := (Nat.pow_lt_pow_iff_right (by omega)).1 h3
  omega
theorem few_digits' {b n k : Nat} (hb : 2 ≤ b) (hn : n < 18446744073709551616) (h : ∀ x, x < k → b ≤ n / b ^ x) : k ≤ 63 := by
  by_cases h0 : k = 0
  · omega
  · have := few_digits hb hn (h (k - 1) (by omega)); omega
theorem slice65 (B j : Nat) (h : j < 65) (w : World) : (Instr.sliceAt 231 (.pointer (some ⟨B, 0, none⟩)) (some (.int .i64 (j : Int))) none none).run Tryd.prog w = .ok (.slice (some ⟨B, j, none⟩) (65 - j) (65 - j)) w := by
  have ha : Tryd.prog.arrayLen 231 = 65 := by kernel_rfl
  have hs : ∀ w, (sizeOf (Tryd.prog.elem 231)).run Tryd.prog w = .ok 1 w := fun w => by kernel_rfl
  rw [run_sliceAt_array_l w 231 ⟨B, 0, none⟩ (by kernel_rfl) .i64 (j : Int) (by omega) (by rw [ha]; omega), hs]
  simp only [Result.andThen, slicedAt, ha, Int.toNat_natCast, Nat.mul_one]
  rw [if_neg (by omega)]
  have : (⟨B, 0, none⟩ : Addr).add j = ⟨B, j, none⟩ := by unfold Addr.add; split <;> simp_all
  rw [this]
/-- the table of math/bits.TrailingZeros64, as far as it is asked: at 2 and at 16 -/
structure Deb (w : World) : Prop where
  one : w.cell? ⟨15, 1, none⟩ = some (.int .u8 1)
  four : w.cell? ⟨15, 15, none⟩ = some (.int .u8 4)
theorem Deb.later {w w' : World} (h : Deb w) (hb : Below w.heap.size w w') : Deb w' :=
  ⟨(hb.cell (World.block_lt_of_cell? w _ h.one)).trans h.one, (hb.cell (World.block_lt_of_cell? w _ h.four)).trans h.four⟩

theorem trail_16 (w : World) (hd : Deb w) : Calls Tryd.prog 187 #[.int .u64 16] w fun e w' => e = .returned (.int .i64 4) ∧ w = w' := by
  have h1 := hd.one
  have h4 := hd.four
  clear hd
  have hx : bits BinOp.and IntKind.u64 16 (IntKind.u64.wrap (-16)) = 16 := by kernel_rfl
  have hy : IntKind.u64.wrap (16 * 285870213051353865) / 288230376151711744 = 15 := by kernel_rfl
  have c : Calls Tryd.prog 197 #[.int .u64 16] w fun e w' => e = .returned (.int .i64 4) ∧ w = w' := by
    go_enter Tryd.func197, Tryd.ntmps197
    go_wp2
    go_ret
    exact ⟨rfl, rfl⟩
  go_enter Tryd.func187, Tryd.ntmps187
  go_wp2_with fail
  refine c.mono ?_
  rintro e w' ⟨rfl, rfl⟩
  go_wp2
  go_ret
  exact ⟨rfl, rfl⟩
theorem pow2_16 (w : World) : Calls Tryd.prog 186 #[.int .i64 16] w fun e w' => e = .returned (.bool true) ∧ w = w' := by
  go_enter Tryd.func186, Tryd.ntmps186
  go_wp2
  go_ret
  exact ⟨rfl, rfl⟩

set_option maxRecDepth 100000 in
theorem fmtBits_16 (n : Nat) (hn : n < 18446744073709551616) (w : World) (hd : Deb w) :
    Calls Tryd.prog 155 #[.slice none 0 0, .int .u64 n, .int .i64 16, .bool false, .bool false] w fun e w' => e = .returned (.tuple #[.slice none 0 0, .string ⟨(radix 16 n).toArray⟩]) ∧ Below w.heap.size w w' := by
  go_enter Tryd.func155, Tryd.ntmps155
  go_wp2_with (first | (go_at_call 186; refine (pow2_16 _).mono ?_; rintro e w' ⟨rfl, rfl⟩) | (go_at_call 187; refine (trail_16 _ (hd.later ((Below.refl _ _).alloc (Nat.le_refl _) _))).mono ?_; rintro e w' ⟨rfl, rfl⟩))
  have hB0 : Below w.heap.size w (w.alloc (Obj.cells Tryd.zeroCells231 231)) := (Below.refl _ _).alloc (Nat.le_refl _) _
  have hb0 : Blk (w.alloc (Obj.cells Tryd.zeroCells231 231)) w.heap.size ((rowD 16 n 0).map bv).toArray 231 := by rw [zeros65]; exact Blk.new _ _ _
  go_loopw [1, 13] (fun u i wr => ∃ (m k j : Nat), j + k = 64 ∧ m < 18446744073709551616 ∧ u = .int .u64 m ∧ i = .int .i64 (j + 1 : Nat) ∧ Hid (m = n / 16 ^ k) ∧ Hid (∀ x, x < k → 16 ≤ n / 16 ^ x) ∧ Blk wr w.heap.size ((rowD 16 n k).map bv).toArray 231 ∧ Below w.heap.size w wr) (fun _ i _ => (intOf i).toNat)
  case atStart => exact ⟨n, 0, 64, rfl, hn, rfl, rfl, Lib.hid (by simp), Lib.hid (fun x hx => absurd hx (Nat.not_lt_zero x)), hb0, hB0⟩
  case round =>
    obtain ⟨m, k, j, hjk, hm, rfl, rfl, hmk, hall, hb, hB⟩ := hrel
    clear hb0 hB0 hd
    obtain ⟨v0, hv0⟩ : ∃ v, wr.cell? ⟨w.heap.size, j, none⟩ = some v := by
      have hj : j < ((rowD 16 n k).map bv).length := by rw [List.length_map, rowD_length 16 n k (by omega)]; omega
      exact ⟨_, hb.cell j (by rw [List.getElem?_toArray]; exact List.getElem?_eq_getElem hj)⟩
    have hf0 := hb.free j
    by_cases h : 16 ≤ m
    · have hand : bits BinOp.and IntKind.u64 (m : Int) 15 = ((m % 16 : Nat) : Int) := and_15 m hm
      have hmod : m % 16 < 16 := Nat.mod_lt _ (by decide)
      have hk62 : k ≤ 62 := few_digits (b := 16) (by decide) hn (by rw [← hmk.out]; exact h)
      go_wp2
      go_roundw
      case rel =>
        refine ⟨m / 16, k + 1, j - 1, by omega, by omega, by go_num, by rw [show j - 1 + 1 = j by omega], Lib.hid (by rw [hmk.out, div_pow_succ]), Lib.hid ?_, ?_, hB.setCell (Nat.le_refl _) _⟩
        · intro x hx
          by_cases hxk : x < k
          · exact hall.out x hxk
          · rw [show x = k by omega, ← hmk.out]; exact h
        · have hset := hb.set j (bv (sig (m % 16)))
          have e : (j, (⟨#[48, 49, 50, 51, 52, 53, 54, 55, 56, 57, 97, 98, 99, 100, 101, 102, 103, 104, 105, 106, 107, 108, 109, 110, 111, 112, 113, 114, 115, 116, 117, 118, 119, 120, 121, 122]⟩ : ByteArray)[m % 16]'(Nat.lt_of_lt_of_le hmod (by decide))) = (64 - k, sig (n / 16 ^ k % 16)) := by
            rw [dig36 (m % 16) (by omega), hmk.out, show j = 64 - k by omega]
          have e1 := congrArg Prod.fst e
          have e2 := congrArg Prod.snd e
          simp only at e1 e2
          rw [e2, e1, rowD_succ 16 n k (by omega), List.map_set]
          have h3 := hb.set (64 - k) (bv (sig (n / 16 ^ k % 16)))
          rw [List.setIfInBounds_toArray] at h3
          exact h3
      case measure => simp [intOf]
    · have hmb : m < 16 := by omega
      have hd36 := dig36 m (by omega)
      have hk63 : k ≤ 63 := few_digits' (b := 16) (by decide) hn hall.out
      have hsl : ∀ w', (Instr.sliceAt 231 (.pointer (some ⟨w.heap.size, 0, none⟩)) (some (.int .i64 (j : Int))) none none).run Tryd.prog w' = .ok (.slice (some ⟨w.heap.size, j, none⟩) (tailD 16 n (k + 1)).length (tailD 16 n (k + 1)).length) w' := by
        intro w'
        rw [tailD_length, show k + 1 = 65 - j by omega]
        exact slice65 _ j (by omega) w'
      have hnew := hb.set j (bv (sig (n / 16 ^ k % 16)))
      rw [List.setIfInBounds_toArray, ← List.map_set, show j = 64 - k by omega, ← rowD_succ 16 n k (by omega), show 64 - k = j by omega] at hnew
      have hsig : Hid (n / 16 ^ k % 16 = m) := by rw [← hmk.out]; exact Lib.hid (Nat.mod_eq_of_lt hmb)
      rw [hsig.out] at hnew
      have hback := fun cap => run_convert_bytes_back (P := Tryd.prog) (wr.setCell ⟨w.heap.size, j, none⟩ (bv (sig m))) 99 9 5 ⟨w.heap.size, j, none⟩ cap (tailD 16 n (k + 1)) Tryd.underlying99 Tryd.underlying5 Tryd.underlying9 (fun x hx => by
        have hx' : x < k + 1 := by rwa [tailD_length] at hx
        have : (⟨w.heap.size, j, none⟩ : Addr).add x = ⟨w.heap.size, j + x, none⟩ := by unfold Addr.add; split <;> simp_all
        rw [this]
        refine hnew.cell (j + x) ?_
        rw [List.getElem?_toArray, List.getElem?_map]
        have e : (rowD 16 n (k + 1))[j + x]? = (tailD 16 n (k + 1))[x]? := by
          rw [← rowD_drop 16 n (k + 1), List.getElem?_drop, show 65 - (k + 1) + x = j + x by omega]
        rw [e, List.getElem?_eq_getElem hx]
        rfl)
      have hlen : nlen 16 n = k + 1 := nlen_of 16 n k (by omega) (by rw [← hmk.out]; omega) hall.out
      have hrad : Hid (radix 16 n = tailD 16 n (k + 1)) := Lib.hid (by unfold radix; rw [hlen])
      have hlen' := Lib.hid hlen
      have hB' : Below w.heap.size w (wr.setCell ⟨w.heap.size, j, none⟩ (bv (sig m))) := hB.setCell (Nat.le_refl _) _
      clear hlen hnew hb hall
      simp only [bv] at hback hB'
      rw [← hd36] at hback hB'
      clear hd36
      go_wp2
      go_ret2
      exact ⟨by rw [hrad.out]; rfl, hB'⟩

theorem formatInt_16 (n : Nat) (hn : n < 9223372036854775808) (w : World) (hd : Deb w) :
    Calls Tryd.prog 95 #[.int .i64 n, .int .i64 16] w fun e w' => e = .returned (.string ⟨(radix 16 n).toArray⟩) ∧ Below w.heap.size w w' := by
  have c : Calls Tryd.prog 124 #[.int .i64 n, .int .i64 16] w fun e w' => e = .returned (.string ⟨(radix 16 n).toArray⟩) ∧ Below w.heap.size w w' := by
    go_enter Tryd.func124, Tryd.ntmps124
    go_wp2_with fail
    refine (fmtBits_16 n (by omega) w hd).mono ?_
    rintro e w' ⟨rfl, hB⟩
    go_wp2
    go_ret
    exact ⟨rfl, hB⟩
  go_enter Tryd.func95, Tryd.ntmps95
  go_wp2_with fail
  refine c.mono ?_
  rintro e w' ⟨rfl, hB⟩
  go_wp2
  go_ret
  exact ⟨rfl, hB⟩

theorem trail_2 (w : World) (hd : Deb w) : Calls Tryd.prog 187 #[.int .u64 2] w fun e w' => e = .returned (.int .i64 1) ∧ w = w' := by
  have h1 := hd.one
  have h4 := hd.four
  clear hd
  have hx : bits BinOp.and IntKind.u64 2 (IntKind.u64.wrap (-2)) = 2 := by kernel_rfl
  have hy : IntKind.u64.wrap (2 * 285870213051353865) / 288230376151711744 = 1 := by kernel_rfl
  have c : Calls Tryd.prog 197 #[.int .u64 2] w fun e w' => e = .returned (.int .i64 1) ∧ w = w' := by
    go_enter Tryd.func197, Tryd.ntmps197
    go_wp2
    go_ret
    exact ⟨rfl, rfl⟩
  go_enter Tryd.func187, Tryd.ntmps187
  go_wp2_with fail
  refine c.mono ?_
  rintro e w' ⟨rfl, rfl⟩
  go_wp2
  go_ret
  exact ⟨rfl, rfl⟩
theorem pow2_2 (w : World) : Calls Tryd.prog 186 #[.int .i64 2] w fun e w' => e = .returned (.bool true) ∧ w = w' := by
  go_enter Tryd.func186, Tryd.ntmps186
  go_wp2
  go_ret
  exact ⟨rfl, rfl⟩

set_option maxRecDepth 100000 in
theorem fmtBits_2 (n : Nat) (hn : n < 18446744073709551616) (w : World) (hd : Deb w) :
    Calls Tryd.prog 155 #[.slice none 0 0, .int .u64 n, .int .i64 2, .bool false, .bool false] w fun e w' => e = .returned (.tuple #[.slice none 0 0, .string ⟨(radix 2 n).toArray⟩]) ∧ Below w.heap.size w w' := by
  go_enter Tryd.func155, Tryd.ntmps155
  go_wp2_with (first | (go_at_call 186; refine (pow2_2 _).mono ?_; rintro e w' ⟨rfl, rfl⟩) | (go_at_call 187; refine (trail_2 _ (hd.later ((Below.refl _ _).alloc (Nat.le_refl _) _))).mono ?_; rintro e w' ⟨rfl, rfl⟩))
  have hB0 : Below w.heap.size w (w.alloc (Obj.cells Tryd.zeroCells231 231)) := (Below.refl _ _).alloc (Nat.le_refl _) _
  have hb0 : Blk (w.alloc (Obj.cells Tryd.zeroCells231 231)) w.heap.size ((rowD 2 n 0).map bv).toArray 231 := by rw [zeros65]; exact Blk.new _ _ _
  go_loopw [1, 13] (fun u i wr => ∃ (m k j : Nat), j + k = 64 ∧ m < 18446744073709551616 ∧ u = .int .u64 m ∧ i = .int .i64 (j + 1 : Nat) ∧ Hid (m = n / 2 ^ k) ∧ Hid (∀ x, x < k → 2 ≤ n / 2 ^ x) ∧ Blk wr w.heap.size ((rowD 2 n k).map bv).toArray 231 ∧ Below w.heap.size w wr) (fun _ i _ => (intOf i).toNat)
  case atStart => exact ⟨n, 0, 64, rfl, hn, rfl, rfl, Lib.hid (by simp), Lib.hid (fun x hx => absurd hx (Nat.not_lt_zero x)), hb0, hB0⟩
  case round =>
    obtain ⟨m, k, j, hjk, hm, rfl, rfl, hmk, hall, hb, hB⟩ := hrel
    clear hb0 hB0 hd
    obtain ⟨v0, hv0⟩ : ∃ v, wr.cell? ⟨w.heap.size, j, none⟩ = some v := by
      have hj : j < ((rowD 2 n k).map bv).length := by rw [List.length_map, rowD_length 2 n k (by omega)]; omega
      exact ⟨_, hb.cell j (by rw [List.getElem?_toArray]; exact List.getElem?_eq_getElem hj)⟩
    have hf0 := hb.free j
    by_cases h : 2 ≤ m
    · have hand : bits BinOp.and IntKind.u64 (m : Int) 1 = ((m % 2 : Nat) : Int) := and_1 m hm
      have hmod : m % 2 < 2 := Nat.mod_lt _ (by decide)
      have hk62 : k ≤ 62 := few_digits (b := 2) (by decide) hn (by rw [← hmk.out]; exact h)
      go_wp2
      go_roundw
      case rel =>
        refine ⟨m / 2, k + 1, j - 1, by omega, by omega, by go_num, by rw [show j - 1 + 1 = j by omega], Lib.hid (by rw [hmk.out, div_pow_succ]), Lib.hid ?_, ?_, hB.setCell (Nat.le_refl _) _⟩
        · intro x hx
          by_cases hxk : x < k
          · exact hall.out x hxk
          · rw [show x = k by omega, ← hmk.out]; exact h
        · have hset := hb.set j (bv (sig (m % 2)))
          have e : (j, (⟨#[48, 49, 50, 51, 52, 53, 54, 55, 56, 57, 97, 98, 99, 100, 101, 102, 103, 104, 105, 106, 107, 108, 109, 110, 111, 112, 113, 114, 115, 116, 117, 118, 119, 120, 121, 122]⟩ : ByteArray)[m % 2]'(Nat.lt_of_lt_of_le hmod (by decide))) = (64 - k, sig (n / 2 ^ k % 2)) := by
            rw [dig36 (m % 2) (by omega), hmk.out, show j = 64 - k by omega]
          have e1 := congrArg Prod.fst e
          have e2 := congrArg Prod.snd e
          simp only at e1 e2
          rw [e2, e1, rowD_succ 2 n k (by omega), List.map_set]
          have h3 := hb.set (64 - k) (bv (sig (n / 2 ^ k % 2)))
          rw [List.setIfInBounds_toArray] at h3
          exact h3
      case measure => simp [intOf]
    · have hmb : m < 2 := by omega
      have hd36 := dig36 m (by omega)
      have hk63 : k ≤ 63 := few_digits' (b := 2) (by decide) hn hall.out
      have hsl : ∀ w', (Instr.sliceAt 231 (.pointer (some ⟨w.heap.size, 0, none⟩)) (some (.int .i64 (j : Int))) none none).run Tryd.prog w' = .ok (.slice (some ⟨w.heap.size, j, none⟩) (tailD 2 n (k + 1)).length (tailD 2 n (k + 1)).length) w' := by
        intro w'
        rw [tailD_length, show k + 1 = 65 - j by omega]
        exact slice65 _ j (by omega) w'
      have hnew := hb.set j (bv (sig (n / 2 ^ k % 2)))
      rw [List.setIfInBounds_toArray, ← List.map_set, show j = 64 - k by omega, ← rowD_succ 2 n k (by omega), show 64 - k = j by omega] at hnew
      have hsig : Hid (n / 2 ^ k % 2 = m) := by rw [← hmk.out]; exact Lib.hid (Nat.mod_eq_of_lt hmb)
      rw [hsig.out] at hnew
      have hback := fun cap => run_convert_bytes_back (P := Tryd.prog) (wr.setCell ⟨w.heap.size, j, none⟩ (bv (sig m))) 99 9 5 ⟨w.heap.size, j, none⟩ cap (tailD 2 n (k + 1)) Tryd.underlying99 Tryd.underlying5 Tryd.underlying9 (fun x hx => by
        have hx' : x < k + 1 := by rwa [tailD_length] at hx
        have : (⟨w.heap.size, j, none⟩ : Addr).add x = ⟨w.heap.size, j + x, none⟩ := by unfold Addr.add; split <;> simp_all
        rw [this]
        refine hnew.cell (j + x) ?_
        rw [List.getElem?_toArray, List.getElem?_map]
        have e : (rowD 2 n (k + 1))[j + x]? = (tailD 2 n (k + 1))[x]? := by
          rw [← rowD_drop 2 n (k + 1), List.getElem?_drop, show 65 - (k + 1) + x = j + x by omega]
        rw [e, List.getElem?_eq_getElem hx]
        rfl)
      have hlen : nlen 2 n = k + 1 := nlen_of 2 n k (by omega) (by rw [← hmk.out]; omega) hall.out
      have hrad : Hid (radix 2 n = tailD 2 n (k + 1)) := Lib.hid (by unfold radix; rw [hlen])
      have hlen' := Lib.hid hlen
      have hB' : Below w.heap.size w (wr.setCell ⟨w.heap.size, j, none⟩ (bv (sig m))) := hB.setCell (Nat.le_refl _) _
      clear hlen hnew hb hall
      simp only [bv] at hback hB'
      rw [← hd36] at hback hB'
      clear hd36
      go_wp2
      go_ret2
      exact ⟨by rw [hrad.out]; rfl, hB'⟩

theorem formatInt_2 (n : Nat) (hn : n < 9223372036854775808) (w : World) (hd : Deb w) :
    Calls Tryd.prog 95 #[.int .i64 n, .int .i64 2] w fun e w' => e = .returned (.string ⟨(radix 2 n).toArray⟩) ∧ Below w.heap.size w w' := by
  have c : Calls Tryd.prog 124 #[.int .i64 n, .int .i64 2] w fun e w' => e = .returned (.string ⟨(radix 2 n).toArray⟩) ∧ Below w.heap.size w w' := by
    go_enter Tryd.func124, Tryd.ntmps124
    go_wp2_with fail
    refine (fmtBits_2 n (by omega) w hd).mono ?_
    rintro e w' ⟨rfl, hB⟩
    go_wp2
    go_ret
    exact ⟨rfl, hB⟩
  go_enter Tryd.func95, Tryd.ntmps95
  go_wp2_with fail
  refine c.mono ?_
  rintro e w' ⟨rfl, hB⟩
  go_wp2
  go_ret
  exact ⟨rfl, hB⟩

end Go.Proofs.YtdlhihfjigcimaaDoor
/- The reference's filled, Hex; coding.Hex: bytes as two small digits each. -/
namespace Go.Proofs.YtdlhihfjigcimaaDoor
open Go.RowKit

set_option maxRecDepth 100000 in
theorem filled_16 (n L : Nat) (hn : n < 9223372036854775808) (hL : L ≤ 1000) (w : World) (hd : Deb w) :
    Calls Tryd.prog 47 #[.int .i64 n, .int .i64 16, .int .i64 L] w fun e w' => e = .returned (.string ⟨(fillD 16 n L).toArray⟩) ∧ Below w.heap.size w w' := by
  have hlt := nlen_lt (b := 16) (n := n) (by decide) (Nat.lt_of_lt_of_le hn (by decide))
  have h65 : nlen 16 n ≤ 65 := nlenF_le 16 64 n
  go_enter Tryd.func47, Tryd.ntmps47
  go_wp2_with fail
  refine (formatInt_16 n hn w hd).mono ?_
  rintro e w1 ⟨rfl, hB1⟩
  unfold radix
  obtain ⟨S0, hS0⟩ : ∃ S0 : ByteArray, S0 = ⟨(tailD 16 n (nlen 16 n)).toArray⟩ := ⟨_, rfl⟩
  rw [← hS0]
  have hS0l : Hid (S0.data.toList = tailD 16 n (nlen 16 n)) := by rw [hS0]; exact Lib.hid (mk_toList _)
  clear hS0
  have hd' := Lib.hid hlt; clear hlt
  go_wp2
  go_loopg [7] (L - nlen 16 n) (fun g s wr => ∃ (S : ByteArray) (m : Nat), g = L - m ∧ s = .string S ∧ Hid (S.data.toList = tailD 16 n m) ∧ nlen 16 n ≤ m ∧ (m ≤ nlen 16 n ∨ m ≤ L) ∧ Below w.heap.size w wr)
  case atStart => exact ⟨S0, nlen 16 n, rfl, rfl, hS0l, Nat.le_refl _, .inl (Nat.le_refl _), hB1⟩
  case round =>
    obtain ⟨S, m, rfl, rfl, hS, hm, hm', hB⟩ := hrel
    have hsz : S.size = m := by rw [sz_len, hS.out, tailD_length]
    have hs1 : S.size ≤ m := by omega
    have hs2 : m ≤ S.size := by omega
    clear hsz
    by_cases h : S.size < L
    · have hadd := run_string_add_sum (P := Tryd.prog) wr ⟨#[48]⟩ S (by rw [show (⟨#[48]⟩ : ByteArray).size = 1 from rfl]; omega)
      go_wp2
      go_roundg (L - (m + 1))
      case rel => exact ⟨_, m + 1, rfl, rfl, Lib.hid (by rw [add_toList, hS.out, tailD_pad (Nat.lt_of_lt_of_le hd'.out (Nat.pow_le_pow_right (by decide) hm))]; rfl), by omega, .inr (by omega), hB⟩
      case measure => omega
    · go_wp2
      go_ret
      exact ⟨ret_str (ba_eq (by rw [hS.out]; unfold fillD; rw [show max (nlen 16 n) L = m by omega])), hB⟩

set_option maxRecDepth 100000 in
theorem filled_2 (n L : Nat) (hn : n < 9223372036854775808) (hL : L ≤ 1000) (w : World) (hd : Deb w) :
    Calls Tryd.prog 47 #[.int .i64 n, .int .i64 2, .int .i64 L] w fun e w' => e = .returned (.string ⟨(fillD 2 n L).toArray⟩) ∧ Below w.heap.size w w' := by
  have hlt := nlen_lt (b := 2) (n := n) (by decide) (Nat.lt_of_lt_of_le hn (by decide))
  have h65 : nlen 2 n ≤ 65 := nlenF_le 2 64 n
  go_enter Tryd.func47, Tryd.ntmps47
  go_wp2_with fail
  refine (formatInt_2 n hn w hd).mono ?_
  rintro e w1 ⟨rfl, hB1⟩
  unfold radix
  obtain ⟨S0, hS0⟩ : ∃ S0 : ByteArray, S0 = ⟨(tailD 2 n (nlen 2 n)).toArray⟩ := ⟨_, rfl⟩
  rw [← hS0]
  have hS0l : Hid (S0.data.toList = tailD 2 n (nlen 2 n)) := by rw [hS0]; exact Lib.hid (mk_toList _)
  clear hS0
  have hd' := Lib.hid hlt; clear hlt
  go_wp2
  go_loopg [7] (L - nlen 2 n) (fun g s wr => ∃ (S : ByteArray) (m : Nat), g = L - m ∧ s = .string S ∧ Hid (S.data.toList = tailD 2 n m) ∧ nlen 2 n ≤ m ∧ (m ≤ nlen 2 n ∨ m ≤ L) ∧ Below w.heap.size w wr)
  case atStart => exact ⟨S0, nlen 2 n, rfl, rfl, hS0l, Nat.le_refl _, .inl (Nat.le_refl _), hB1⟩
  case round =>
    obtain ⟨S, m, rfl, rfl, hS, hm, hm', hB⟩ := hrel
    have hsz : S.size = m := by rw [sz_len, hS.out, tailD_length]
    have hs1 : S.size ≤ m := by omega
    have hs2 : m ≤ S.size := by omega
    clear hsz
    by_cases h : S.size < L
    · have hadd := run_string_add_sum (P := Tryd.prog) wr ⟨#[48]⟩ S (by rw [show (⟨#[48]⟩ : ByteArray).size = 1 from rfl]; omega)
      go_wp2
      go_roundg (L - (m + 1))
      case rel => exact ⟨_, m + 1, rfl, rfl, Lib.hid (by rw [add_toList, hS.out, tailD_pad (Nat.lt_of_lt_of_le hd'.out (Nat.pow_le_pow_right (by decide) hm))]; rfl), by omega, .inr (by omega), hB⟩
      case measure => omega
    · go_wp2
      go_ret
      exact ⟨ret_str (ba_eq (by rw [hS.out]; unfold fillD; rw [show max (nlen 2 n) L = m by omega])), hB⟩

theorem sig_hi (c : UInt8) : sig (c.toNat / 16 ^ 1 % 16) = sig (c.toNat / 16) := by
  have := c.toNat_lt; rw [Nat.pow_one, Nat.mod_eq_of_lt (by omega)]
/-- a byte as two digits -/
def hex2 (c : UInt8) : List UInt8 := [sig (c.toNat / 16), sig (c.toNat % 16)]
theorem hex2_fill (c : UInt8) : fillD 16 c.toNat 2 = hex2 c := by
  have := c.toNat_lt
  rw [fillD_small (by decide) (by decide) (by omega)]
  simp only [tailD, hex2, Nat.pow_zero, Nat.div_one]
  rw [sig_hi]
def hexL (l : List UInt8) : List UInt8 := l.flatMap hex2
theorem hexL_length (l : List UInt8) : (hexL l).length = 2 * l.length := by
  induction l with
  | nil => rfl
  | cons c l ih => simp only [hexL, List.flatMap_cons, List.length_append, List.length_cons] at *; rw [ih]; simp [hex2]; omega
theorem hexL_succ (l : List UInt8) (k : Nat) (h : k < l.length) : hexL (l.take (k + 1)) = hexL (l.take k) ++ hex2 l[k] := by
  unfold hexL; rw [List.take_succ_eq_append_getElem h, List.flatMap_append]; simp

theorem u8_and_15 (c : UInt8) : bits .and .u8 (c.toNat : Int) 15 = ((c.toNat % 16 : Nat) : Int) := by
  have h : ∀ n : Fin 256, bits .and .u8 (n.val : Int) 15 = ((n.val % 16 : Nat) : Int) := by decide +kernel
  exact h ⟨c.toNat, c.toNat_lt⟩
theorem dig16 (d : Nat) (h : d < 16) : (⟨#[48, 49, 50, 51, 52, 53, 54, 55, 56, 57, 97, 98, 99, 100, 101, 102]⟩ : ByteArray)[d]'h = sig d := by
  have : ∀ x : Fin 16, (⟨#[48, 49, 50, 51, 52, 53, 54, 55, 56, 57, 97, 98, 99, 100, 101, 102]⟩ : ByteArray)[x.val]'x.isLt = sig x.val := by decide +kernel
  exact this ⟨d, h⟩
theorem byteCells_snoc (l : List UInt8) (c : UInt8) : Lib.byteCells (l ++ [c]) = Lib.byteCells l ++ [.int .u8 (c.toNat : Int)] := by simp [Lib.byteCells]
theorem byteCells_len (l : List UInt8) : (Lib.byteCells l).length = l.length := by simp [Lib.byteCells]

set_option maxRecDepth 100000 in
theorem codingHex (s : ByteArray) (w : World) (hs : s.size ≤ 1099511627776) :
    Calls Tryd.prog 192 #[.string s] w fun e w' => e = .returned (.string ⟨(hexL s.data.toList).toArray⟩) ∧ Below w.heap.size w w' := by
  have hnew := IsB.new w w.heap.size (Nat.le_refl _)
  have hB0 := (Below.refl w.heap.size w).alloc (Nat.le_refl _) (.cells #[.pointer none, .slice none 0 0] 101)
  go_enter Tryd.func192, Tryd.ntmps192
  go_wp2
  go_loopw [7] (fun i wr => ∃ (k : Nat), k ≤ s.size ∧ i = .int .i64 k ∧ IsB w.heap.size w.heap.size (Lib.byteCells (hexL (s.data.toList.take k))) wr ∧ Below w.heap.size w wr) (fun i _ => s.size - (intOf i).toNat)
  case atStart => exact ⟨0, Nat.zero_le _, rfl, hnew, hB0⟩
  case round =>
    obtain ⟨k, hk, rfl, hI, hB⟩ := hrel
    clear hnew hB0
    by_cases hlt : k < s.size
    · have hl : k < s.data.toList.length := by rw [← sz_len]; exact hlt
      have hsz : (Lib.byteCells (hexL (s.data.toList.take k))).length ≤ 2 * k := by rw [byteCells_len, hexL_length]; simp; omega
      have hnext := Lib.hid (hexL_succ s.data.toList k hl)
      rw [at_list s k hlt hl] at hnext
      have hc256 : (s[k].toNat : Int) < 256 := by have := s[k].toNat_lt; omega
      have hand := u8_and_15 s[k]
      have hsize := hB.size
      have hm16 : s[k].toNat % 16 < 16 := Nat.mod_lt _ (by decide)
      go_wp2_with fail
      refine (writeByte _ _ _ _ _ hI (by omega) hsize).mono ?_
      rintro e w1 ⟨rfl, hA1, hB1⟩
      have hBw1 : Below w.heap.size w w1 := hB.trans hB1
      have hs1 := hBw1.size
      go_wp2_with fail
      refine (writeByte _ _ _ _ _ (.inr hA1) (by simp; omega) hs1).mono ?_
      rintro e w2 ⟨rfl, hA2, hB2⟩
      have hBw2 : Below w.heap.size w w2 := hBw1.trans hB2
      go_wp2
      go_roundw
      case rel =>
        refine ⟨k + 1, by omega, by go_num, ?_, hBw2⟩
        refine .inr ?_
        rw [hnext.out, hex2, show hexL (s.data.toList.take k) ++ [sig (s[k].toNat / 16), sig (s[k].toNat % 16)] = (hexL (s.data.toList.take k) ++ [sig (s[k].toNat / 16)]) ++ [sig (s[k].toNat % 16)] by simp, byteCells_snoc, byteCells_snoc, ← dig16 (s[k].toNat / 16) (by omega), ← dig16 (s[k].toNat % 16) hm16]
        exact hA2
      case measure => simp [intOf]; omega
    · obtain rfl : s.size = k := by omega
      rw [show s.data.toList.take s.size = s.data.toList by rw [sz_len, List.take_length]] at hI
      go_wp2_with fail
      refine (Tryd.Builder_String_any _ _ _ _ hI hB.size).mono ?_
      rintro e w1 ⟨rfl, hB1⟩
      have hB2 := hB.trans hB1
      go_wp2
      go_ret
      exact ⟨rfl, hB2⟩

end Go.Proofs.YtdlhihfjigcimaaDoor
/- proof.Count and the reference's Count: a number as eight small digits, or more. -/
namespace Go.Proofs.YtdlhihfjigcimaaDoor
open Go.RowKit

set_option maxRecDepth 100000 in
theorem refCount (n : Nat) (hn : n < 9223372036854775808) (w : World) (hd : Deb w) :
    Calls Tryd.prog 60 #[.int .i64 n] w fun e w' => e = .returned (.string ⟨(fillD 16 n 8).toArray⟩) ∧ Below w.heap.size w w' := by
  have hlt := nlen_lt (b := 16) (n := n) (by decide) (Nat.lt_of_lt_of_le hn (by decide))
  have h65 : nlen 16 n ≤ 65 := nlenF_le 16 64 n
  go_enter Tryd.func60, Tryd.ntmps60
  go_wp2_with fail
  refine (formatInt_16 n hn w hd).mono ?_
  rintro e w1 ⟨rfl, hB1⟩
  unfold radix
  obtain ⟨S0, hS0⟩ : ∃ S0 : ByteArray, S0 = ⟨(tailD 16 n (nlen 16 n)).toArray⟩ := ⟨_, rfl⟩
  rw [← hS0]
  have hS0l : Hid (S0.data.toList = tailD 16 n (nlen 16 n)) := by rw [hS0]; exact Lib.hid (mk_toList _)
  clear hS0
  have hd' := Lib.hid hlt; clear hlt
  go_wp2
  go_loopg [3] (8 - nlen 16 n) (fun g s wr => ∃ (S : ByteArray) (m : Nat), g = 8 - m ∧ s = .string S ∧ Hid (S.data.toList = tailD 16 n m) ∧ nlen 16 n ≤ m ∧ (m ≤ nlen 16 n ∨ m ≤ 8) ∧ Below w.heap.size w wr)
  case atStart => exact ⟨S0, nlen 16 n, rfl, rfl, hS0l, Nat.le_refl _, .inl (Nat.le_refl _), hB1⟩
  case round =>
    obtain ⟨S, m, rfl, rfl, hS, hm, hm', hB⟩ := hrel
    have hsz : S.size = m := by rw [sz_len, hS.out, tailD_length]
    have hs1 : S.size ≤ m := by omega
    have hs2 : m ≤ S.size := by omega
    clear hsz
    by_cases h : S.size < 8
    · have hadd := run_string_add_sum (P := Tryd.prog) wr ⟨#[48]⟩ S (by rw [show (⟨#[48]⟩ : ByteArray).size = 1 from rfl]; omega)
      go_wp2
      go_roundg (8 - (m + 1))
      case rel => exact ⟨_, m + 1, rfl, rfl, Lib.hid (by rw [add_toList, hS.out, tailD_pad (Nat.lt_of_lt_of_le hd'.out (Nat.pow_le_pow_right (by decide) hm))]; rfl), by omega, .inr (by omega), hB⟩
      case measure => omega
    · go_wp2
      go_ret
      exact ⟨ret_str (ba_eq (by rw [hS.out]; unfold fillD; rw [show max (nlen 16 n) 8 = m by omega])), hB⟩

theorem repeat_zeroC (c : Nat) : Lib.repeatL [48] c = List.replicate c 48 := by
  induction c with
  | zero => rfl
  | succ c ih => simp [Lib.repeatL, List.replicate_succ] at ih ⊢; try exact ih

set_option maxRecDepth 100000 in
theorem proofCount (n : Nat) (hn : n < 9223372036854775808) (w : World) (hd : Deb w) :
    Calls Tryd.prog 67 #[.int .i64 n] w fun e w' => e = .returned (.string ⟨(fillD 16 n 8).toArray⟩) ∧ Below w.heap.size w w' := by
  have hlt := nlen_lt (b := 16) (n := n) (by decide) (Nat.lt_of_lt_of_le hn (by decide))
  have h65 : nlen 16 n ≤ 65 := nlenF_le 16 64 n
  have hf := formatInt_16 n hn w hd
  unfold radix at hf
  obtain ⟨S, hS0⟩ : ∃ S : ByteArray, S = ⟨(tailD 16 n (nlen 16 n)).toArray⟩ := ⟨_, rfl⟩
  rw [← hS0] at hf
  have hS : Hid (S.data.toList = tailD 16 n (nlen 16 n)) := by rw [hS0]; exact Lib.hid (mk_toList _)
  clear hS0
  have hd' := Lib.hid hlt; clear hlt
  have hsz : Hid (S.size = nlen 16 n) := Lib.hid (by rw [sz_len, hS.out, tailD_length])
  have hs1 : S.size ≤ 65 := by rw [hsz.out]; exact h65
  by_cases h8 : S.size < 8
  · obtain ⟨c, hc⟩ : ∃ c, c + S.size = 8 := ⟨8 - S.size, by omega⟩
    have hsub : (8 : Int) - (S.size : Int) = (c : Int) := by omega
    have hc8 : Hid (c + S.size = 8) := Lib.hid hc
    have hcb : c ≤ 8 := by omega
    clear hc
    go_enter Tryd.func67, Tryd.ntmps67
    go_wp2_with fail
    refine hf.mono ?_
    rintro e w1 ⟨rfl, hB1⟩
    go_wp2_with fail
    refine (Tryd.strings_Repeat ⟨#[48]⟩ c w1 (by omega) (by rw [show (⟨#[48]⟩ : ByteArray).size = 1 from rfl]; omega)).mono ?_
    rintro e w2 ⟨rfl, hB2⟩
    have hB3 := hB1.then (Nat.le_refl _) hB2
    have hadd := run_string_add_sum (P := Tryd.prog) w2 ⟨(Lib.repeatL (⟨#[48]⟩ : ByteArray).data.toList c).toArray⟩ S (by rw [mk_len, show (⟨#[48]⟩ : ByteArray).data.toList = [48] from rfl, repeat_zeroC, List.length_replicate]; omega)
    go_wp2
    go_ret
    refine ⟨ret_str (ba_eq ?_), hB3⟩
    rw [add_toList, mk_toList, hS.out, repeat_zeroC]
    have := hc8.out
    rw [hsz.out] at this
    unfold fillD
    rw [show max (nlen 16 n) 8 = nlen 16 n + c by omega, tailD_pads (by decide) hd'.out]
  · have hmax : max (0 : Int) (8 - (S.size : Int)) = 0 := by omega
    go_enter Tryd.func67, Tryd.ntmps67
    go_wp2_with fail
    refine hf.mono ?_
    rintro e w1 ⟨rfl, hB1⟩
    go_wp2_with fail
    refine (Tryd.strings_Repeat_zero ⟨#[48]⟩ w1).mono ?_
    rintro e w2 ⟨rfl, rfl⟩
    go_wp2
    go_ret
    refine ⟨ret_str (ba_eq ?_), hB1⟩
    have := hsz.out
    simp [hS.out, fillD, show max (nlen 16 n) 8 = nlen 16 n by omega]
end Go.Proofs.YtdlhihfjigcimaaDoor
/- Base64: three bytes by three, and bit by bit, are one. Plain lists; no program. -/
namespace Go.Proofs.YtdlhihfjigcimaaDoor

def lettersL : List UInt8 := [65, 66, 67, 68, 69, 70, 71, 72, 73, 74, 75, 76, 77, 78, 79, 80, 81, 82, 83, 84, 85, 86, 87, 88, 89, 90, 97, 98, 99, 100, 101, 102, 103, 104, 105, 106, 107, 108, 109, 110, 111, 112, 113, 114, 115, 116, 117, 118, 119, 120, 121, 122, 48, 49, 50, 51, 52, 53, 54, 55, 56, 57, 43, 47]
def let6 (n : Nat) : UInt8 := lettersL.getD n 0
/-- the program's way: three bytes, four letters -/
def b64 : List UInt8 → List UInt8
  | [] => []
  | [a] => let v := a.toNat * 65536; [let6 (v / 262144 % 64), let6 (v / 4096 % 64), 61, 61]
  | [a, b] => let v := a.toNat * 65536 + b.toNat * 256; [let6 (v / 262144 % 64), let6 (v / 4096 % 64), let6 (v / 64 % 64), 61]
  | a :: b :: c :: r => let v := a.toNat * 65536 + b.toNat * 256 + c.toNat; let6 (v / 262144 % 64) :: let6 (v / 4096 % 64) :: let6 (v / 64 % 64) :: let6 (v % 64) :: b64 r
/-- bits as a number -/
def val (l : List UInt8) : Nat := l.foldl (fun n c => n * 2 + (c.toNat - 48)) 0
def bitsOf (l : List UInt8) : List UInt8 := l.flatMap fun c => tailD 2 c.toNat 8
def pad6 (l : List UInt8) : List UInt8 := l ++ List.replicate ((6 - l.length % 6) % 6) 48
def groups : List UInt8 → List UInt8
  | a :: b :: c :: d :: e :: f :: r => let6 (val [a, b, c, d, e, f]) :: groups r
  | _ => []
def pad4 (l : List UInt8) : List UInt8 := l ++ List.replicate ((4 - l.length % 4) % 4) 61
theorem sig_bit (n : Nat) : (sig (n % 2)).toNat - 48 = n % 2 := by
  rcases Nat.mod_two_eq_zero_or_one n with h | h <;> rw [h] <;> rfl
theorem bits8 (c : UInt8) : tailD 2 c.toNat 8 = [sig (c.toNat / 128 % 2), sig (c.toNat / 64 % 2), sig (c.toNat / 32 % 2), sig (c.toNat / 16 % 2), sig (c.toNat / 8 % 2), sig (c.toNat / 4 % 2), sig (c.toNat / 2 % 2), sig (c.toNat % 2)] := by
  simp [tailD]
theorem bitsOf_cons (c : UInt8) (l : List UInt8) : bitsOf (c :: l) = tailD 2 c.toNat 8 ++ bitsOf l := by simp [bitsOf]
theorem bitsOf_len (l : List UInt8) : (bitsOf l).length = 8 * l.length := by
  induction l with
  | nil => rfl
  | cons c l ih => rw [bitsOf_cons, List.length_append, tailD_length, ih, List.length_cons]; omega
theorem pad6_far (x y : List UInt8) (h : x.length = 24) : pad6 (x ++ y) = x ++ pad6 y := by
  unfold pad6
  rw [List.length_append, h, show (24 + y.length) % 6 = y.length % 6 by omega, List.append_assoc]
theorem pad4_far (a b c d : UInt8) (y : List UInt8) : pad4 (a :: b :: c :: d :: y) = a :: b :: c :: d :: pad4 y := by
  unfold pad4
  simp only [List.length_cons]
  rw [show (y.length + 1 + 1 + 1 + 1) % 4 = y.length % 4 by omega]
  rfl
theorem val6 (a b c d e f : Nat) : val [sig (a % 2), sig (b % 2), sig (c % 2), sig (d % 2), sig (e % 2), sig (f % 2)] = 32 * (a % 2) + 16 * (b % 2) + 8 * (c % 2) + 4 * (d % 2) + 2 * (e % 2) + f % 2 := by
  simp only [val, List.foldl_cons, List.foldl_nil, sig_bit]
  omega
theorem sig0' : (48 : UInt8) = sig (0 % 2) := rfl
/-- the document's way is the program's -/
theorem b64_bits : ∀ l : List UInt8, pad4 (groups (pad6 (bitsOf l))) = b64 l
  | [] => rfl
  | [a] => by
    have ha := a.toNat_lt
    have e : pad6 (bitsOf [a]) = [sig (a.toNat / 128 % 2), sig (a.toNat / 64 % 2), sig (a.toNat / 32 % 2), sig (a.toNat / 16 % 2), sig (a.toNat / 8 % 2), sig (a.toNat / 4 % 2), sig (a.toNat / 2 % 2), sig (a.toNat % 2), sig (0 % 2), sig (0 % 2), sig (0 % 2), sig (0 % 2)] := by
      unfold pad6
      rw [bitsOf_len, bitsOf_cons, bits8, show (6 - 8 * [a].length % 6) % 6 = 4 by simp]
      simp [bitsOf, List.replicate, sig0']
    rw [e]
    simp only [groups, val6, b64]
    rw [show 32 * (a.toNat / 128 % 2) + 16 * (a.toNat / 64 % 2) + 8 * (a.toNat / 32 % 2) + 4 * (a.toNat / 16 % 2) + 2 * (a.toNat / 8 % 2) + a.toNat / 4 % 2 = a.toNat * 65536 / 262144 % 64 by omega,
      show 32 * (a.toNat / 2 % 2) + 16 * (a.toNat % 2) + 8 * (0 % 2) + 4 * (0 % 2) + 2 * (0 % 2) + 0 % 2 = a.toNat * 65536 / 4096 % 64 by omega]
    rfl
  | [a, b] => by
    have ha := a.toNat_lt
    have hb := b.toNat_lt
    have e : pad6 (bitsOf [a, b]) = [sig (a.toNat / 128 % 2), sig (a.toNat / 64 % 2), sig (a.toNat / 32 % 2), sig (a.toNat / 16 % 2), sig (a.toNat / 8 % 2), sig (a.toNat / 4 % 2), sig (a.toNat / 2 % 2), sig (a.toNat % 2),
        sig (b.toNat / 128 % 2), sig (b.toNat / 64 % 2), sig (b.toNat / 32 % 2), sig (b.toNat / 16 % 2), sig (b.toNat / 8 % 2), sig (b.toNat / 4 % 2), sig (b.toNat / 2 % 2), sig (b.toNat % 2), sig (0 % 2), sig (0 % 2)] := by
      unfold pad6
      rw [bitsOf_len, bitsOf_cons, bitsOf_cons, bits8, bits8, show (6 - 8 * [a, b].length % 6) % 6 = 2 by simp]
      simp [bitsOf, List.replicate, sig0']
    rw [e]
    simp only [groups, val6, b64]
    rw [show 32 * (a.toNat / 128 % 2) + 16 * (a.toNat / 64 % 2) + 8 * (a.toNat / 32 % 2) + 4 * (a.toNat / 16 % 2) + 2 * (a.toNat / 8 % 2) + a.toNat / 4 % 2 = (a.toNat * 65536 + b.toNat * 256) / 262144 % 64 by omega,
      show 32 * (a.toNat / 2 % 2) + 16 * (a.toNat % 2) + 8 * (b.toNat / 128 % 2) + 4 * (b.toNat / 64 % 2) + 2 * (b.toNat / 32 % 2) + b.toNat / 16 % 2 = (a.toNat * 65536 + b.toNat * 256) / 4096 % 64 by omega,
      show 32 * (b.toNat / 8 % 2) + 16 * (b.toNat / 4 % 2) + 8 * (b.toNat / 2 % 2) + 4 * (b.toNat % 2) + 2 * (0 % 2) + 0 % 2 = (a.toNat * 65536 + b.toNat * 256) / 64 % 64 by omega]
    rfl
  | a :: b :: c :: r => by
    have ha := a.toNat_lt
    have hb := b.toNat_lt
    have hc := c.toNat_lt
    have ih := b64_bits r
    rw [bitsOf_cons, bitsOf_cons, bitsOf_cons, ← List.append_assoc, ← List.append_assoc, pad6_far _ _ (by simp [tailD_length]), bits8, bits8, bits8]
    simp only [List.cons_append, List.nil_append, groups, val6, b64]
    rw [pad4_far, ih,
      show 32 * (a.toNat / 128 % 2) + 16 * (a.toNat / 64 % 2) + 8 * (a.toNat / 32 % 2) + 4 * (a.toNat / 16 % 2) + 2 * (a.toNat / 8 % 2) + a.toNat / 4 % 2 = (a.toNat * 65536 + b.toNat * 256 + c.toNat) / 262144 % 64 by omega,
      show 32 * (a.toNat / 2 % 2) + 16 * (a.toNat % 2) + 8 * (b.toNat / 128 % 2) + 4 * (b.toNat / 64 % 2) + 2 * (b.toNat / 32 % 2) + b.toNat / 16 % 2 = (a.toNat * 65536 + b.toNat * 256 + c.toNat) / 4096 % 64 by omega,
      show 32 * (b.toNat / 8 % 2) + 16 * (b.toNat / 4 % 2) + 8 * (b.toNat / 2 % 2) + 4 * (b.toNat % 2) + 2 * (c.toNat / 128 % 2) + c.toNat / 64 % 2 = (a.toNat * 65536 + b.toNat * 256 + c.toNat) / 64 % 64 by omega,
      show 32 * (c.toNat / 32 % 2) + 16 * (c.toNat / 16 % 2) + 8 * (c.toNat / 8 % 2) + 4 * (c.toNat / 4 % 2) + 2 * (c.toNat / 2 % 2) + c.toNat % 2 = (a.toNat * 65536 + b.toNat * 256 + c.toNat) % 64 by omega]
end Go.Proofs.YtdlhihfjigcimaaDoor
