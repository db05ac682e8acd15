/- Merged out of SumP SumR SumW SumRot SumTab SumPadP SumD SumN SumG ShaTab RowM RowI. -/
import Derived.Test.YtdlhihfjigcimaaDoorDigs
import Derived.Test.YtdlhihfjigcimaaDoorFound
import Derived.BigRegion
import Derived.Test.YtdlhihfjigcimaaDoorRows
import Derived.Lib.LaidTab
import Derived.Laws.IdiomStrings
import Derived.Deep.AppendLies
import Derived.Deep.RegionHeld3
/- Sums of 32 bits: the operations of bits as the walk spells them, turned words, MD5 and SHA-256 on plain numbers. No program. -/
namespace Go.Proofs.YtdlhihfjigcimaaDoor

theorem bv32 (a : Nat) (h : a < 4294967296) : (BitVec.ofInt 32 (a : Int)).toNat = a := by
  rw [BitVec.ofInt_natCast, BitVec.toNat_ofNat]; exact Nat.mod_eq_of_lt (by omega)
theorem bv64 (a : Nat) (h : a < 9223372036854775808) : (BitVec.ofInt 64 (a : Int)).toNat = a := by
  rw [BitVec.ofInt_natCast, BitVec.toNat_ofNat]; exact Nat.mod_eq_of_lt (by omega)
theorem wrap32n (x : Nat) (h : x < 4294967296) : IntKind.u32.wrap (x : Int) = (x : Int) := by
  simp [IntKind.wrap, IntKind.bits, IntKind.signed]; omega
theorem wrap64n (x : Nat) (h : x < 9223372036854775808) : IntKind.i64.wrap (x : Int) = (x : Int) := by
  simp [IntKind.wrap, IntKind.bits, IntKind.signed]; omega
theorem and_lt' (a b n : Nat) (ha : a < n) : a &&& b < n := Nat.lt_of_le_of_lt Nat.and_le_left ha
theorem or32 (a b : Nat) (ha : a < 4294967296) (hb : b < 4294967296) : a ||| b < 4294967296 := Nat.or_lt_two_pow (n := 32) ha hb
theorem xor32 (a b : Nat) (ha : a < 4294967296) (hb : b < 4294967296) : a ^^^ b < 4294967296 := Nat.xor_lt_two_pow (n := 32) ha hb
theorem and32 (a b : Nat) (ha : a < 4294967296) : a &&& b < 4294967296 := and_lt' a b _ ha
theorem u32_and (a b : Nat) (ha : a < 4294967296) (hb : b < 4294967296) : bits .and .u32 (a : Int) (b : Int) = ((a &&& b : Nat) : Int) := by
  show IntKind.u32.wrap ((BitVec.ofInt 32 (a : Int) &&& BitVec.ofInt 32 (b : Int)).toNat : Int) = _
  rw [BitVec.toNat_and, bv32 a ha, bv32 b hb, wrap32n _ (and32 a b ha)]
theorem u32_or (a b : Nat) (ha : a < 4294967296) (hb : b < 4294967296) : bits .or .u32 (a : Int) (b : Int) = ((a ||| b : Nat) : Int) := by
  show IntKind.u32.wrap ((BitVec.ofInt 32 (a : Int) ||| BitVec.ofInt 32 (b : Int)).toNat : Int) = _
  rw [BitVec.toNat_or, bv32 a ha, bv32 b hb, wrap32n _ (or32 a b ha hb)]
theorem u32_xor (a b : Nat) (ha : a < 4294967296) (hb : b < 4294967296) : bits .xor .u32 (a : Int) (b : Int) = ((a ^^^ b : Nat) : Int) := by
  show IntKind.u32.wrap ((BitVec.ofInt 32 (a : Int) ^^^ BitVec.ofInt 32 (b : Int)).toNat : Int) = _
  rw [BitVec.toNat_xor, bv32 a ha, bv32 b hb, wrap32n _ (xor32 a b ha hb)]
theorem u32_not (a : Nat) (ha : a < 4294967296) : bits .xor .u32 4294967295 (a : Int) = ((4294967295 - a : Nat) : Int) := by
  show IntKind.u32.wrap ((BitVec.ofInt 32 4294967295 ^^^ BitVec.ofInt 32 (a : Int)).toNat : Int) = _
  rw [show BitVec.ofInt 32 4294967295 = BitVec.allOnes 32 by decide, BitVec.allOnes_xor, BitVec.toNat_not, bv32 a ha]
  exact wrap32n _ (by omega)
theorem i64_and (a b : Nat) (ha : a < 4294967296) (hb : b < 4294967296) : bits .and .i64 (a : Int) (b : Int) = ((a &&& b : Nat) : Int) := by
  have := and32 a b ha
  show IntKind.i64.wrap ((BitVec.ofInt 64 (a : Int) &&& BitVec.ofInt 64 (b : Int)).toNat : Int) = _
  rw [BitVec.toNat_and, bv64 a (by omega), bv64 b (by omega), wrap64n _ (by omega)]
theorem i64_or (a b : Nat) (ha : a < 4294967296) (hb : b < 4294967296) : bits .or .i64 (a : Int) (b : Int) = ((a ||| b : Nat) : Int) := by
  have := or32 a b ha hb
  show IntKind.i64.wrap ((BitVec.ofInt 64 (a : Int) ||| BitVec.ofInt 64 (b : Int)).toNat : Int) = _
  rw [BitVec.toNat_or, bv64 a (by omega), bv64 b (by omega), wrap64n _ (by omega)]
theorem i64_xor (a b : Nat) (ha : a < 4294967296) (hb : b < 4294967296) : bits .xor .i64 (a : Int) (b : Int) = ((a ^^^ b : Nat) : Int) := by
  have := xor32 a b ha hb
  show IntKind.i64.wrap ((BitVec.ofInt 64 (a : Int) ^^^ BitVec.ofInt 64 (b : Int)).toNat : Int) = _
  rw [BitVec.toNat_xor, bv64 a (by omega), bv64 b (by omega), wrap64n _ (by omega)]

/-- a word turned to the left -/
def rolN (n k : Nat) : Nat := n * 2 ^ k % 4294967296 + n * 2 ^ k / 4294967296
theorem rol_parts (n k : Nat) (hk : k ≤ 32) : n * 2 ^ k % 4294967296 = 2 ^ k * (n % 2 ^ (32 - k)) ∧ n * 2 ^ k / 4294967296 = n / 2 ^ (32 - k) := by
  have e : 4294967296 = 2 ^ (32 - k) * 2 ^ k := by rw [← Nat.pow_add, show 32 - k + k = 32 by omega]
  constructor
  · rw [e, Nat.mul_mod_mul_right, Nat.mul_comm]
  · rw [e, Nat.mul_div_mul_right _ _ (Nat.two_pow_pos k)]
theorem rol_high (n k : Nat) (h : n < 4294967296) (hk : k ≤ 32) : n / 2 ^ (32 - k) < 2 ^ k := by
  rw [Nat.div_lt_iff_lt_mul (Nat.two_pow_pos _), ← Nat.pow_add, show k + (32 - k) = 32 by omega]
  exact h
/-- as bits.RotateLeft32 has it -/
theorem rol_or (n k : Nat) (h : n < 4294967296) (hk : k ≤ 32) : (n * 2 ^ k % 4294967296) ||| (n / 2 ^ (32 - k)) = rolN n k := by
  unfold rolN
  obtain ⟨e1, e2⟩ := rol_parts n k hk
  rw [e1, e2]
  exact (Nat.two_pow_add_eq_or_of_lt (rol_high n k h hk) _).symm
theorem rolN_lt (n k : Nat) (h : n < 4294967296) (hk : k ≤ 32) : rolN n k < 4294967296 := by
  rw [← rol_or n k h hk]
  refine or32 _ _ (Nat.mod_lt _ (by decide)) (Nat.lt_of_le_of_lt (Nat.div_le_self _ _) h)
def notN (n : Nat) : Nat := 4294967295 - n
theorem notN_lt (n : Nat) : notN n < 4294967296 := by unfold notN; omega

/-- four bytes of a text, and a word's bytes -/
def numL (little : Bool) (l : List UInt8) (k : Nat) : Nat :=
  if little then (l.getD k 0).toNat + (l.getD (k + 1) 0).toNat * 256 + (l.getD (k + 2) 0).toNat * 65536 + (l.getD (k + 3) 0).toNat * 16777216
  else (l.getD (k + 3) 0).toNat + (l.getD (k + 2) 0).toNat * 256 + (l.getD (k + 1) 0).toNat * 65536 + (l.getD k 0).toNat * 16777216
theorem numL_lt (little : Bool) (l : List UInt8) (k : Nat) : numL little l k < 4294967296 := by
  have h0 := (l.getD k 0).toNat_lt
  have h1 := (l.getD (k + 1) 0).toNat_lt
  have h2 := (l.getD (k + 2) 0).toNat_lt
  have h3 := (l.getD (k + 3) 0).toNat_lt
  unfold numL
  split <;> omega
/-- what is behind a text that is summed -/
def zerosN (n : Nat) : Nat := (119 - n % 64) % 64
def eight (little : Bool) (n : Nat) : List UInt8 :=
  let l := [UInt8.ofNat (n % 256), UInt8.ofNat (n / 256 % 256), UInt8.ofNat (n / 65536 % 256), UInt8.ofNat (n / 16777216 % 256), UInt8.ofNat (n / 4294967296 % 256), UInt8.ofNat (n / 1099511627776 % 256), UInt8.ofNat (n / 281474976710656 % 256), UInt8.ofNat (n / 72057594037927936 % 256)]
  if little then l else l.reverse
theorem eight_length (little : Bool) (n : Nat) : (eight little n).length = 8 := by cases little <;> rfl
def padL (little : Bool) (l : List UInt8) : List UInt8 := l ++ [128] ++ List.replicate (zerosN l.length) 0 ++ eight little (8 * l.length)
theorem padL_length (little : Bool) (l : List UInt8) : (padL little l).length % 64 = 0 := by
  unfold padL
  simp only [List.length_append, List.length_replicate, eight_length, List.length_cons, List.length_nil]
  unfold zerosN
  omega
theorem padL_le (little : Bool) (l : List UInt8) : (padL little l).length ≤ l.length + 72 := by
  unfold padL
  simp only [List.length_append, List.length_replicate, eight_length, List.length_cons, List.length_nil]
  unfold zerosN
  omega

/-- four words -/
structure W4 where
  a : Nat
  b : Nat
  c : Nat
  d : Nat
def W4.ok (v : W4) : Prop := v.a < 4294967296 ∧ v.b < 4294967296 ∧ v.c < 4294967296 ∧ v.d < 4294967296
def md5F (i x c d : Nat) : Nat :=
  if i < 16 then (x &&& c) ||| (notN x &&& d) else if i < 32 then (d &&& x) ||| (notN d &&& c) else if i < 48 then (x ^^^ c) ^^^ d else c ^^^ (x ||| notN d)
def md5G (i : Nat) : Nat := if i < 16 then i else if i < 32 then (5 * i + 1) % 16 else if i < 48 then (3 * i + 5) % 16 else 7 * i % 16
def md5T (i : Nat) : Nat := [7, 12, 17, 22, 5, 9, 14, 20, 4, 11, 16, 23, 6, 10, 15, 21].getD (i / 16 * 4 + i % 4) 0
theorem md5T_le (i : Nat) (h : i < 64) : md5T i ≤ 23 := by
  have : ∀ n : Fin 64, md5T n.val ≤ 23 := by decide
  exact this ⟨i, h⟩
theorem md5G_lt (i : Nat) : md5G i < 16 := by
  unfold md5G; split; · omega
  split; · omega
  split <;> omega
theorem md5F_lt (i x c d : Nat) (hx : x < 4294967296) (hc : c < 4294967296) (hd : d < 4294967296) : md5F i x c d < 4294967296 := by
  unfold md5F
  split
  · exact or32 _ _ (and32 _ _ hx) (and32 _ _ (notN_lt _))
  split
  · exact or32 _ _ (and32 _ _ hd) (and32 _ _ (notN_lt _))
  split
  · exact xor32 _ _ (xor32 _ _ hx hc) hd
  · exact xor32 _ _ hc (or32 _ _ hx (notN_lt _))
def md5Step (S : List Nat) (t : List UInt8) (i : Nat) (v : W4) : W4 :=
  ⟨v.d, (v.b + rolN ((md5F i v.b v.c v.d + v.a + S.getD i 0 + numL true t (4 * md5G i)) % 4294967296) (md5T i)) % 4294967296, v.b, v.c⟩
def md5Go (S : List Nat) (t : List UInt8) (h : W4) : Nat → W4
  | 0 => h
  | n + 1 => md5Step S t n (md5Go S t h n)
theorem md5Go_ok (S : List Nat) (t : List UInt8) (h : W4) (hh : h.ok) : ∀ n, (md5Go S t h n).ok
  | 0 => hh
  | n + 1 => by
    obtain ⟨ha, hb, hc, hd⟩ := md5Go_ok S t h hh n
    exact ⟨hd, Nat.mod_lt _ (by decide), hb, hc⟩
def W4.plus (v u : W4) : W4 := ⟨(v.a + u.a) % 4294967296, (v.b + u.b) % 4294967296, (v.c + u.c) % 4294967296, (v.d + u.d) % 4294967296⟩
theorem W4.plus_ok (v u : W4) : (v.plus u).ok := ⟨Nat.mod_lt _ (by decide), Nat.mod_lt _ (by decide), Nat.mod_lt _ (by decide), Nat.mod_lt _ (by decide)⟩
/-- after k blocks -/
def md5At (S : List Nat) (l : List UInt8) : Nat → W4
  | 0 => ⟨0x67452301, 0xefcdab89, 0x98badcfe, 0x10325476⟩
  | k + 1 => (md5At S l k).plus (md5Go S (l.drop (64 * k)) (md5At S l k) 64)
theorem md5At_ok (S : List Nat) (l : List UInt8) : ∀ k, (md5At S l k).ok
  | 0 => by unfold md5At W4.ok; decide
  | _ + 1 => W4.plus_ok _ _
/-- eight words -/
structure W8 where
  a : Nat
  b : Nat
  c : Nat
  d : Nat
  e : Nat
  f : Nat
  g : Nat
  h : Nat
def W8.ok (v : W8) : Prop := v.a < 4294967296 ∧ v.b < 4294967296 ∧ v.c < 4294967296 ∧ v.d < 4294967296 ∧ v.e < 4294967296 ∧ v.f < 4294967296 ∧ v.g < 4294967296 ∧ v.h < 4294967296
def rorN (n k : Nat) : Nat := rolN n (32 - k)
theorem rorN_lt (n k : Nat) (h : n < 4294967296) : rorN n k < 4294967296 := rolN_lt n _ h (Nat.sub_le _ _)
def shaP (x : Nat) : Nat := (rorN x 7 ^^^ rorN x 18) ^^^ x / 8
def shaQ (x : Nat) : Nat := (rorN x 17 ^^^ rorN x 19) ^^^ x / 1024
def shaE (x : Nat) : Nat := (rorN x 6 ^^^ rorN x 11) ^^^ rorN x 25
def shaA (x : Nat) : Nat := (rorN x 2 ^^^ rorN x 13) ^^^ rorN x 22
def shaC (e f g : Nat) : Nat := (e &&& f) ^^^ (notN e &&& g)
def shaM (a b c : Nat) : Nat := ((a &&& b) ^^^ (a &&& c)) ^^^ (b &&& c)
theorem shaP_lt (x : Nat) (h : x < 4294967296) : shaP x < 4294967296 := xor32 _ _ (xor32 _ _ (rorN_lt _ _ h) (rorN_lt _ _ h)) (Nat.lt_of_le_of_lt (Nat.div_le_self _ _) h)
theorem shaQ_lt (x : Nat) (h : x < 4294967296) : shaQ x < 4294967296 := xor32 _ _ (xor32 _ _ (rorN_lt _ _ h) (rorN_lt _ _ h)) (Nat.lt_of_le_of_lt (Nat.div_le_self _ _) h)
theorem shaE_lt (x : Nat) (h : x < 4294967296) : shaE x < 4294967296 := xor32 _ _ (xor32 _ _ (rorN_lt _ _ h) (rorN_lt _ _ h)) (rorN_lt _ _ h)
theorem shaA_lt (x : Nat) (h : x < 4294967296) : shaA x < 4294967296 := xor32 _ _ (xor32 _ _ (rorN_lt _ _ h) (rorN_lt _ _ h)) (rorN_lt _ _ h)
theorem shaC_lt (e f g : Nat) (he : e < 4294967296) : shaC e f g < 4294967296 := xor32 _ _ (and32 _ _ he) (and32 _ _ (notN_lt _))
theorem shaM_lt (a b c : Nat) (ha : a < 4294967296) (hb : b < 4294967296) : shaM a b c < 4294967296 := xor32 _ _ (xor32 _ _ (and32 _ _ ha) (and32 _ _ ha)) (and32 _ _ hb)
/-- the words of a block -/
def shaNext (t : List UInt8) (l : List Nat) : Nat :=
  if l.length < 16 then numL false t (4 * l.length)
  else (l.getD (l.length - 16) 0 + l.getD (l.length - 7) 0 + shaP (l.getD (l.length - 15) 0) + shaQ (l.getD (l.length - 2) 0)) % 4294967296
theorem shaNext_lt (t : List UInt8) (l : List Nat) : shaNext t l < 4294967296 := by
  unfold shaNext
  split
  · exact numL_lt _ _ _
  · exact Nat.mod_lt _ (by decide)
def shaWs (t : List UInt8) : Nat → List Nat
  | 0 => []
  | n + 1 => shaWs t n ++ [shaNext t (shaWs t n)]
theorem shaWs_length (t : List UInt8) : ∀ n, (shaWs t n).length = n
  | 0 => rfl
  | n + 1 => by simp [shaWs, shaWs_length t n]
theorem shaWs_lt (t : List UInt8) : ∀ n, ∀ x ∈ shaWs t n, x < 4294967296
  | 0, _, h => by simp [shaWs] at h
  | n + 1, x, h => by
    simp only [shaWs, List.mem_append, List.mem_singleton] at h
    rcases h with h | rfl
    · exact shaWs_lt t n x h
    · exact shaNext_lt t _
theorem getD_lt (l : List Nat) (h : ∀ x ∈ l, x < 4294967296) (i : Nat) : l.getD i 0 < 4294967296 := by
  rw [List.getD_eq_getElem?_getD]
  by_cases hi : i < l.length
  · rw [List.getElem?_eq_getElem hi]; exact h _ (List.getElem_mem hi)
  · rw [List.getElem?_eq_none (by omega)]; decide
def shaStep (R : List Nat) (w : List Nat) (i : Nat) (v : W8) : W8 :=
  let p := v.h + shaE v.e + shaC v.e v.f v.g + R.getD i 0 + w.getD i 0
  let q := shaA v.a + shaM v.a v.b v.c
  ⟨(p + q) % 4294967296, v.a, v.b, v.c, (v.d + p) % 4294967296, v.e, v.f, v.g⟩
def shaGo (R w : List Nat) (v : W8) : Nat → W8
  | 0 => v
  | n + 1 => shaStep R w n (shaGo R w v n)
theorem shaGo_ok (R w : List Nat) (v : W8) (hv : v.ok) : ∀ n, (shaGo R w v n).ok
  | 0 => hv
  | n + 1 => by
    obtain ⟨ha, hb, hc, hd, he, hf, hg, hh⟩ := shaGo_ok R w v hv n
    exact ⟨Nat.mod_lt _ (by decide), ha, hb, hc, Nat.mod_lt _ (by decide), he, hf, hg⟩
def W8.plus (v u : W8) : W8 := ⟨(v.a + u.a) % 4294967296, (v.b + u.b) % 4294967296, (v.c + u.c) % 4294967296, (v.d + u.d) % 4294967296, (v.e + u.e) % 4294967296, (v.f + u.f) % 4294967296, (v.g + u.g) % 4294967296, (v.h + u.h) % 4294967296⟩
theorem W8.plus_ok (v u : W8) : (v.plus u).ok := ⟨Nat.mod_lt _ (by decide), Nat.mod_lt _ (by decide), Nat.mod_lt _ (by decide), Nat.mod_lt _ (by decide), Nat.mod_lt _ (by decide), Nat.mod_lt _ (by decide), Nat.mod_lt _ (by decide), Nat.mod_lt _ (by decide)⟩
/-- after k blocks -/
def shaAt (R : List Nat) (v : W8) (l : List UInt8) : Nat → W8
  | 0 => v
  | k + 1 => (shaAt R v l k).plus (shaGo R (shaWs (l.drop (64 * k)) 64) (shaAt R v l k) 64)
theorem shaAt_ok (R : List Nat) (v : W8) (hv : v.ok) (l : List UInt8) : ∀ k, (shaAt R v l k).ok
  | 0 => hv
  | _ + 1 => W8.plus_ok _ _
end Go.Proofs.YtdlhihfjigcimaaDoor
/- The reference's words of 32 bits: not, rol, ror. -/
namespace Go.Proofs.YtdlhihfjigcimaaDoor
open Go.RowKit

theorem refNot (n : Nat) (hn : n < 4294967296) (w : World) : Calls Tryd.prog 169 #[.int .i64 n] w fun e w' => e = .returned (.int .i64 (notN n : Nat)) ∧ w = w' := by
  go_enter Tryd.func169, Tryd.ntmps169
  go_wp2
  go_ret
  exact ⟨ret_int (by unfold notN; omega), rfl⟩
set_option maxRecDepth 100000 in
theorem refRol (n k : Nat) (hn : n < 4294967296) (hk : k ≤ 31) (w : World) : Calls Tryd.prog 171 #[.int .i64 n, .int .i64 k] w fun e w' => e = .returned (.int .i64 (rolN n k : Nat)) ∧ w = w' := by
  go_enter Tryd.func171, Tryd.ntmps171
  go_wp2
  go_loop [5, 7] (fun p i => ∃ j q : Nat, j ≤ k ∧ i = .int .i64 j ∧ p = .int .i64 q ∧ Hid (q = 2 ^ j) ∧ q ≤ 2147483648) (fun _ i => k - (intOf i).toNat)
  case atStart => exact ⟨0, 1, Nat.zero_le _, rfl, rfl, Lib.hid rfl, by decide⟩
  case round =>
    obtain ⟨j, q, hj, rfl, rfl, hq, hb⟩ := hrel
    by_cases hlt : j < k
    · have hq2 : q * 2 ≤ 2147483648 := by
        have h1 := hq.out
        have h2 : 2 ^ (j + 1) ≤ 2 ^ 31 := Nat.pow_le_pow_right (by decide) (by omega)
        rw [Nat.pow_succ] at h2
        rw [h1]
        simpa using h2
      go_wp2
      go_round
      case rel => exact ⟨j + 1, q * 2, by omega, by go_num, by go_num, Lib.hid (by rw [hq.out, Nat.pow_succ]), hq2⟩
      case measure => simp [intOf]; omega
    · have hjk : j = k := by omega
      have hm : n * q ≤ 4294967295 * 2147483648 := Nat.mul_le_mul (by omega) hb
      have hmi : (n : Int) * (q : Int) = ((n * q : Nat) : Int) := by simp
      have hr := Lib.hid (show rolN n k = n * q % 4294967296 + n * q / 4294967296 by unfold rolN; rw [← hjk, ← hq.out])
      clear hjk
      obtain ⟨m, hmm⟩ : ∃ m, m = n * q := ⟨_, rfl⟩
      rw [← hmm] at hr hm hmi
      clear hmm
      go_wp2
      go_ret
      exact ⟨ret_int (by rw [hr.out]; omega), rfl⟩
theorem refRor (n k : Nat) (hn : n < 4294967296) (hk : 1 ≤ k) (hk2 : k ≤ 32) (w : World) : Calls Tryd.prog 168 #[.int .i64 n, .int .i64 k] w fun e w' => e = .returned (.int .i64 (rolN n (32 - k) : Nat)) ∧ w = w' := by
  have hc := refRol n (32 - k) hn (by omega) w
  rw [show ((32 - k : Nat) : Int) = 32 - (k : Int) by omega] at hc
  go_enter Tryd.func168, Tryd.ntmps168
  go_wp2_with fail
  refine hc.mono ?_
  rintro e w' ⟨rfl, rfl⟩
  go_wp2
  go_ret
  exact ⟨rfl, rfl⟩
end Go.Proofs.YtdlhihfjigcimaaDoor
/- sum.word: four bytes as a word. -/
namespace Go.Proofs.YtdlhihfjigcimaaDoor
open Go.RowKit

theorem or_plus (x y i : Nat) (h : x < 2 ^ i) : x ||| y * 2 ^ i = x + y * 2 ^ i := by
  rw [Nat.or_comm, Nat.mul_comm, ← Nat.two_pow_add_eq_or_of_lt h]; omega
theorem word_bits (a b c d : Nat) (ha : a < 256) (hb : b < 256) (hc : c < 256) (hd : d < 256) :
    bits .or .u32 (bits .or .u32 (bits .or .u32 ((a : Int) % 4294967296) ((b : Int) % 4294967296 * 256 % 4294967296)) ((c : Int) % 4294967296 * 65536 % 4294967296)) ((d : Int) % 4294967296 * 16777216 % 4294967296)
      = ((a + b * 256 + c * 65536 + d * 16777216 : Nat) : Int) := by
  rw [show (a : Int) % 4294967296 = ((a : Nat) : Int) by omega, show (b : Int) % 4294967296 * 256 % 4294967296 = ((b * 2 ^ 8 : Nat) : Int) by omega,
    show (c : Int) % 4294967296 * 65536 % 4294967296 = ((c * 2 ^ 16 : Nat) : Int) by omega, show (d : Int) % 4294967296 * 16777216 % 4294967296 = ((d * 2 ^ 24 : Nat) : Int) by omega]
  rw [u32_or _ _ (by omega) (by omega), or_plus a b 8 (by omega), u32_or _ _ (by omega) (by omega), or_plus _ c 16 (by omega), u32_or _ _ (by omega) (by omega), or_plus _ d 24 (by omega)]
theorem getD_byte (s : ByteArray) (k : Nat) (h : k < s.size) : s.data.toList.getD k 0 = s[k] := by
  have hl : k < s.data.toList.length := by rw [← sz_len]; exact h
  rw [List.getD_eq_getElem?_getD, List.getElem?_eq_getElem hl, at_list s k h hl]
  rfl
set_option maxRecDepth 100000 in
theorem sumWordQL (s : ByteArray) (h4 : 4 ≤ s.size) (w : World) : Calls Tryd.prog 173 #[.string s, .bool true] w fun e w' => e = .returned (.int .u32 (numL true s.data.toList 0 : Nat)) ∧ ∃ m, w' = w.drewN m := by
  have i0 : 0 < s.size := by omega
  have i1 : 1 < s.size := by omega
  have i2 : 2 < s.size := by omega
  have i3 : 3 < s.size := by omega
  have j0 : (0 : Int) < (s.size : Int) := by omega
  have j1 : (1 : Int) < (s.size : Int) := by omega
  have j2 : (2 : Int) < (s.size : Int) := by omega
  have j3 : (3 : Int) < (s.size : Int) := by omega
  have hw := Lib.hid (word_bits s[0].toNat s[1].toNat s[2].toNat s[3].toNat s[0].toNat_lt s[1].toNat_lt s[2].toNat_lt s[3].toNat_lt)
  go_enter Tryd.func173, Tryd.ntmps173
  go_wp2
  go_region
  go_wp2
  go_ret
  refine ⟨ret_int ?_, 1, rfl⟩
  rw [hw.out]
  unfold numL
  simp only [Nat.zero_add, getD_byte s 0 i0, getD_byte s 1 i1, getD_byte s 2 i2, getD_byte s 3 i3]
  first | rfl | simp
theorem sumWordL (s : ByteArray) (h4 : 4 ≤ s.size) (w : World) : Calls Tryd.prog 173 #[.string s, .bool true] w fun e w' => e = .returned (.int .u32 (numL true s.data.toList 0 : Nat)) ∧ Below w.heap.size w w' :=
  (sumWordQL s h4 w).mono fun _ _ ⟨h, m, hm⟩ => ⟨h, by rw [hm]; exact below_drewN (Below.refl _ _) m⟩
set_option maxRecDepth 100000 in
theorem sumWordQB (s : ByteArray) (h4 : 4 ≤ s.size) (w : World) : Calls Tryd.prog 173 #[.string s, .bool false] w fun e w' => e = .returned (.int .u32 (numL false s.data.toList 0 : Nat)) ∧ ∃ m, w' = w.drewN m := by
  have i0 : 0 < s.size := by omega
  have i1 : 1 < s.size := by omega
  have i2 : 2 < s.size := by omega
  have i3 : 3 < s.size := by omega
  have j0 : (0 : Int) < (s.size : Int) := by omega
  have j1 : (1 : Int) < (s.size : Int) := by omega
  have j2 : (2 : Int) < (s.size : Int) := by omega
  have j3 : (3 : Int) < (s.size : Int) := by omega
  have hw := Lib.hid (word_bits s[3].toNat s[2].toNat s[1].toNat s[0].toNat s[3].toNat_lt s[2].toNat_lt s[1].toNat_lt s[0].toNat_lt)
  go_enter Tryd.func173, Tryd.ntmps173
  go_wp2
  go_region
  go_wp2
  go_ret
  refine ⟨ret_int ?_, 1, rfl⟩
  rw [hw.out]
  unfold numL
  simp only [Nat.zero_add, getD_byte s 0 i0, getD_byte s 1 i1, getD_byte s 2 i2, getD_byte s 3 i3]
  first | rfl | simp
theorem sumWordB (s : ByteArray) (h4 : 4 ≤ s.size) (w : World) : Calls Tryd.prog 173 #[.string s, .bool false] w fun e w' => e = .returned (.int .u32 (numL false s.data.toList 0 : Nat)) ∧ Below w.heap.size w w' :=
  (sumWordQB s h4 w).mono fun _ _ ⟨h, m, hm⟩ => ⟨h, by rw [hm]; exact below_drewN (Below.refl _ _) m⟩
theorem sumWord (little : Bool) (s : ByteArray) (h4 : 4 ≤ s.size) (w : World) : Calls Tryd.prog 173 #[.string s, .bool little] w fun e w' => e = .returned (.int .u32 (numL little s.data.toList 0 : Nat)) ∧ Below w.heap.size w w' := by
  cases little
  · exact sumWordB s h4 w
  · exact sumWordL s h4 w
end Go.Proofs.YtdlhihfjigcimaaDoor
/- math/bits.RotateLeft32 at a turn of at most 31. -/
namespace Go.Proofs.YtdlhihfjigcimaaDoor
open Go.RowKit

theorem and31 (k : Nat) (hk : k ≤ 31) : bits .and .u64 (k : Int) 31 = (k : Int) := by
  have : ∀ n : Fin 32, bits .and .u64 ((n.val : Nat) : Int) 31 = ((n.val : Nat) : Int) := by decide
  exact this ⟨k, by omega⟩
set_option maxRecDepth 100000 in
theorem rot_bits (n k : Nat) (hn : n < 4294967296) (hk : k ≤ 31) : bits .or .u32 ((n : Int) * 2 ^ k % 4294967296) ((n : Int) / 2 ^ (32 - k)) = ((rolN n k : Nat) : Int) := by
  have e1 : (n : Int) * 2 ^ k % 4294967296 = ((n * 2 ^ k % 4294967296 : Nat) : Int) := by
    have h : ((n * 2 ^ k : Nat) : Int) = (n : Int) * 2 ^ k := by rw [Int.natCast_mul, Int.natCast_pow]; rfl
    rw [← h]; omega
  have e2 : (n : Int) / 2 ^ (32 - k) = ((n / 2 ^ (32 - k) : Nat) : Int) := by
    have h : ((2 ^ (32 - k) : Nat) : Int) = (2 : Int) ^ (32 - k) := by rw [Int.natCast_pow]; rfl
    rw [← h]; first | rfl | exact (Int.natCast_ediv _ _).symm | exact (Int.natCast_div _ _).symm
  rw [e1, e2, u32_or _ _ (Nat.mod_lt _ (by decide)) (Nat.lt_of_le_of_lt (Nat.div_le_self _ _) hn), rol_or n k hn (by omega)]
set_option maxRecDepth 100000 in
theorem rotLeft (n k : Nat) (hn : n < 4294967296) (hk : k ≤ 31) (w : World) : Calls Tryd.prog 174 #[.int .u32 n, .int .i64 k] w fun e w' => e = .returned (.int .u32 (rolN n k : Nat)) ∧ w = w' := by
  have h31 := and31 k hk
  have hk1 : (k : Int) % 18446744073709551616 = (k : Int) := by omega
  go_enter Tryd.func174, Tryd.ntmps174
  go_wp2
  go_ret
  refine ⟨ret_int ?_, rfl⟩
  rw [rot_bits n k hn hk]
end Go.Proofs.YtdlhihfjigcimaaDoor
/- MD5's tables, as the program's variables hold them. -/
namespace Go.Proofs.YtdlhihfjigcimaaDoor
open Go.RowKit

def sinesL : List Nat := match (Rows.laid_gatepost_api_Sines : DataW Unit) with
  | .agg l => l.map fun x => match x with
    | .lit (.int _ z) => z.toNat
    | _ => 0
  | _ => []
def turnsL : List Nat := [7, 12, 17, 22, 5, 9, 14, 20, 4, 11, 16, 23, 6, 10, 15, 21]
theorem sines_tab : (Rows.laid_gatepost_api_Sines : DataW Unit) = Lib.tabData .u32 (sinesL.map fun (n : Nat) => (n : Int)) := by kernel_rfl
theorem turns_tab : (Rows.laid_gatepost_sum_turns : DataW Unit) = Lib.tabData .i64 (turnsL.map fun (n : Nat) => (n : Int)) := by kernel_rfl
theorem sinesL_len : sinesL.length = 64 := by kernel_rfl
theorem turnsL_len : turnsL.length = 16 := rfl
theorem natMap_at (l : List Nat) (i : Nat) (h : i < l.length) : (l.map fun (n : Nat) => (n : Int)).getD i 0 = ((l.getD i 0 : Nat) : Int) := by
  rw [List.getD_eq_getElem?_getD, List.getElem?_map, List.getD_eq_getElem?_getD, List.getElem?_eq_getElem h]
  rfl
structure MdT (w : World) : Prop where
  sines : ∀ i, i < 64 → w.cell? ⟨8, i, none⟩ = some (.int .u32 (sinesL.getD i 0 : Nat))
  turns : ∀ i, i < 16 → w.cell? ⟨9, i, none⟩ = some (.int .i64 (turnsL.getD i 0 : Nat))
theorem MdT.later {w w' : World} (h : MdT w) (hb : Below w.heap.size w w') : MdT w' :=
  ⟨fun i hi => (hb.cell (World.block_lt_of_cell? w _ (h.sines i hi))).trans (h.sines i hi), fun i hi => (hb.cell (World.block_lt_of_cell? w _ (h.turns i hi))).trans (h.turns i hi)⟩
end Go.Proofs.YtdlhihfjigcimaaDoor
/- The eight bytes behind a text that is summed, cell by cell. -/
namespace Go.Proofs.YtdlhihfjigcimaaDoor
open Go.RowKit

theorem make8 (w : World) : (Instr.makeSlice 99 (.int .i64 8) (.int .i64 8)).run Tryd.prog w = .ok (.slice (some ⟨w.heap.size, 0, none⟩) 8 8) (w.alloc (.cells #[.int .u8 0, .int .u8 0, .int .u8 0, .int .u8 0, .int .u8 0, .int .u8 0, .int .u8 0, .int .u8 0] 5)) := by kernel_rfl
def eB (n k : Nat) : Nat := n / 2 ^ (8 * k) % 256
def vK (n k i : Nat) : Value := .int .u8 (if i < k then (eB n i : Nat) else (0 : Int))
def rowK (n k : Nat) : Array Value := #[vK n k 0, vK n k 1, vK n k 2, vK n k 3, vK n k 4, vK n k 5, vK n k 6, vK n k 7]
theorem rowK_at (n k i : Nat) (hi : i < 8) : (rowK n k)[i]? = some (vK n k i) := by
  match i, hi with
  | 0, _ => rfl
  | 1, _ => rfl
  | 2, _ => rfl
  | 3, _ => rfl
  | 4, _ => rfl
  | 5, _ => rfl
  | 6, _ => rfl
  | 7, _ => rfl
theorem rowK_set (n k : Nat) (hk : k < 8) : (rowK n k).setIfInBounds k (.int .u8 (eB n k : Nat)) = rowK n (k + 1) := by
  match k, hk with
  | 0, _ => simp [rowK, vK]
  | 1, _ => simp [rowK, vK]
  | 2, _ => simp [rowK, vK]
  | 3, _ => simp [rowK, vK]
  | 4, _ => simp [rowK, vK]
  | 5, _ => simp [rowK, vK]
  | 6, _ => simp [rowK, vK]
  | 7, _ => simp [rowK, vK]
theorem eight_at (n j : Nat) (hj : j < (eight true n).length) : (eight true n)[j].toNat = eB n j := by
  have h8 : j < 8 := by rw [eight_length] at hj; exact hj
  match j, h8 with
  | 0, _ => simp [eight, eB]
  | 1, _ => simp [eight, eB]
  | 2, _ => simp [eight, eB]
  | 3, _ => simp [eight, eB]
  | 4, _ => simp [eight, eB]
  | 5, _ => simp [eight, eB]
  | 6, _ => simp [eight, eB]
  | 7, _ => simp [eight, eB]
def vM (n k i : Nat) : Value := .int .u8 (if i < k then (eB n (7 - i) : Nat) else (0 : Int))
def rowM (n k : Nat) : Array Value := #[vM n k 0, vM n k 1, vM n k 2, vM n k 3, vM n k 4, vM n k 5, vM n k 6, vM n k 7]
theorem rowM_at (n k i : Nat) (hi : i < 8) : (rowM n k)[i]? = some (vM n k i) := by
  match i, hi with
  | 0, _ => rfl
  | 1, _ => rfl
  | 2, _ => rfl
  | 3, _ => rfl
  | 4, _ => rfl
  | 5, _ => rfl
  | 6, _ => rfl
  | 7, _ => rfl
theorem rowM_set (n k : Nat) (hk : k < 8) : (rowM n k).setIfInBounds k (.int .u8 (eB n (7 - k) : Nat)) = rowM n (k + 1) := by
  match k, hk with
  | 0, _ => simp [rowM, vM]
  | 1, _ => simp [rowM, vM]
  | 2, _ => simp [rowM, vM]
  | 3, _ => simp [rowM, vM]
  | 4, _ => simp [rowM, vM]
  | 5, _ => simp [rowM, vM]
  | 6, _ => simp [rowM, vM]
  | 7, _ => simp [rowM, vM]
theorem eight_atB (n j : Nat) (hj : j < (eight false n).length) : (eight false n)[j].toNat = eB n (7 - j) := by
  have h8 : j < 8 := by rw [eight_length] at hj; exact hj
  match j, h8 with
  | 0, _ => simp [eight, eB]
  | 1, _ => simp [eight, eB]
  | 2, _ => simp [eight, eB]
  | 3, _ => simp [eight, eB]
  | 4, _ => simp [eight, eB]
  | 5, _ => simp [eight, eB]
  | 6, _ => simp [eight, eB]
  | 7, _ => simp [eight, eB]
end Go.Proofs.YtdlhihfjigcimaaDoor
/- A word of 32 bits as digits: by bytes, and by eight digits at once. No program. -/
namespace Go.Proofs.YtdlhihfjigcimaaDoor

/-- a word's bytes -/
def bytes4 (little : Bool) (n : Nat) : List UInt8 :=
  if little then [UInt8.ofNat (n % 256), UInt8.ofNat (n / 256 % 256), UInt8.ofNat (n / 65536 % 256), UInt8.ofNat (n / 16777216 % 256)]
  else [UInt8.ofNat (n / 16777216 % 256), UInt8.ofNat (n / 65536 % 256), UInt8.ofNat (n / 256 % 256), UInt8.ofNat (n % 256)]
theorem bytes4_length (little : Bool) (n : Nat) : (bytes4 little n).length = 4 := by cases little <;> rfl
theorem ofNat_mod (n : Nat) : (UInt8.ofNat (n % 256)).toNat = n % 256 := by simp
/-- the document's digits of a word -/
def digitsN (little : Bool) (n : Nat) : List UInt8 :=
  let s := tailD 16 n 8
  if little then s.drop 6 ++ (s.drop 4).take 2 ++ (s.drop 2).take 2 ++ s.take 2 else s
theorem tail8 (n : Nat) (h : n < 4294967296) : tailD 16 n 8 = [sig (n / 16777216 % 256 / 16), sig (n / 16777216 % 256 % 16), sig (n / 65536 % 256 / 16), sig (n / 65536 % 256 % 16), sig (n / 256 % 256 / 16), sig (n / 256 % 256 % 16), sig (n % 256 / 16), sig (n % 256 % 16)] := by
  simp only [tailD]
  rw [show n / 16 ^ 7 % 16 = n / 16777216 % 256 / 16 by omega, show n / 16 ^ 6 % 16 = n / 16777216 % 256 % 16 by omega, show n / 16 ^ 5 % 16 = n / 65536 % 256 / 16 by omega, show n / 16 ^ 4 % 16 = n / 65536 % 256 % 16 by omega,
    show n / 16 ^ 3 % 16 = n / 256 % 256 / 16 by omega, show n / 16 ^ 2 % 16 = n / 256 % 256 % 16 by omega, show n / 16 ^ 1 % 16 = n % 256 / 16 by omega, show n / 16 ^ 0 % 16 = n % 256 % 16 by omega]
theorem hex_bytes4 (little : Bool) (n : Nat) (h : n < 4294967296) : hexL (bytes4 little n) = digitsN little n := by
  unfold digitsN
  rw [tail8 n h]
  cases little <;> simp [bytes4, hexL, hex2]
theorem fill8 (n : Nat) (h : n < 4294967296) : fillD 16 n 8 = tailD 16 n 8 := fillD_small (by decide) (by decide) (by omega)
theorem hexL_append (a b : List UInt8) : hexL (a ++ b) = hexL a ++ hexL b := by simp [hexL]
end Go.Proofs.YtdlhihfjigcimaaDoor
/- The reference's number: four bytes of a row as a word. -/
namespace Go.Proofs.YtdlhihfjigcimaaDoor
open Go.RowKit

def accN (g : Nat → Nat) : Nat → Nat
  | 0 => 0
  | j + 1 => accN g j * 256 + g j
theorem accN_le (g : Nat → Nat) (hg : ∀ i, g i < 256) (j : Nat) (h : j ≤ 4) : accN g j ≤ 4294967295 := by
  have h0 := hg 0; have h1 := hg 1; have h2 := hg 2; have h3 := hg 3
  match j, h with
  | 0, _ => simp [accN]
  | 1, _ => simp only [accN]; omega
  | 2, _ => simp only [accN]; omega
  | 3, _ => simp only [accN]; omega
  | 4, _ => simp only [accN]; omega
set_option maxRecDepth 100000 in
theorem refNumberL (B o len cap : Nat) (b : Nat → Nat) (hb : ∀ i, b i < 256) (w : World) (hl : 4 ≤ len) (hc : ∀ i, i < 4 → w.cell? ⟨B, o + i, none⟩ = some (.int .u8 (b i : Nat))) :
    Calls Tryd.prog 167 #[.slice (some ⟨B, o, none⟩) len cap, .bool true] w fun e w' => e = .returned (.int .i64 (accN (fun j => b (3 - j)) 4 : Nat)) ∧ w = w' := by
  go_enter Tryd.func167, Tryd.ntmps167
  go_wp2
  go_loop [5, 6, 7, 8] (fun acc _ _ i => ∃ j q : Nat, j ≤ 4 ∧ i = .int .i64 j ∧ acc = .int .i64 q ∧ Hid (q = accN (fun j => b (3 - j)) j) ∧ q ≤ 4294967295) (fun _ _ _ i => 4 - (intOf i).toNat)
  case atStart => exact ⟨0, 0, Nat.zero_le _, rfl, rfl, Lib.hid rfl, by decide⟩
  case round =>
    obtain ⟨j, q, hj, rfl, rfl, hq, hle⟩ := hrel
    by_cases hlt : j < 4
    · have c1 := hc j hlt
      have c2 := hc (3 - j) (by omega)
      have b1 := hb (3 - j)
      have b0 := hb j
      have hi1 : (3 - (j : Int)).toNat = 3 - j := by omega
      have hn := accN_le (fun j => b (3 - j)) (fun i => hb (3 - i)) (j + 1) (by omega)
      have hn' : q * 256 + b (3 - j) ≤ 4294967295 := by
        have : accN (fun j => b (3 - j)) (j + 1) = q * 256 + b (3 - j) := by rw [hq.out]; rfl
        omega
      have hq' := Lib.hid (show q * 256 + b (3 - j) = accN (fun j => b (3 - j)) (j + 1) by rw [hq.out]; rfl)
      clear hn
      generalize b (3 - j) = y at c2 b1 hn' hq'
      generalize b j = x at c1 b0
      clear hc hb
      go_wp2
      go_round
      case rel => exact ⟨j + 1, q * 256 + y, by omega, by go_num, by go_num, hq', hn'⟩
      case measure => simp [intOf]; omega
    · obtain rfl : j = 4 := by omega
      go_wp2
      go_ret
      exact ⟨ret_int (by rw [← hq.out]), rfl⟩
set_option maxRecDepth 100000 in
theorem refNumberB (B o len cap : Nat) (b : Nat → Nat) (hb : ∀ i, b i < 256) (w : World) (hl : 4 ≤ len) (hc : ∀ i, i < 4 → w.cell? ⟨B, o + i, none⟩ = some (.int .u8 (b i : Nat))) :
    Calls Tryd.prog 167 #[.slice (some ⟨B, o, none⟩) len cap, .bool false] w fun e w' => e = .returned (.int .i64 (accN b 4 : Nat)) ∧ w = w' := by
  go_enter Tryd.func167, Tryd.ntmps167
  go_wp2
  go_loop [5, 6, 7, 8] (fun acc _ _ i => ∃ j q : Nat, j ≤ 4 ∧ i = .int .i64 j ∧ acc = .int .i64 q ∧ Hid (q = accN b j) ∧ q ≤ 4294967295) (fun _ _ _ i => 4 - (intOf i).toNat)
  case atStart => exact ⟨0, 0, Nat.zero_le _, rfl, rfl, Lib.hid rfl, by decide⟩
  case round =>
    obtain ⟨j, q, hj, rfl, rfl, hq, hle⟩ := hrel
    by_cases hlt : j < 4
    · have c1 := hc j hlt
      have b1 := hb j
      have b0 := hb j
      have hi1 : (3 - (j : Int)).toNat = 3 - j := by omega
      have hn := accN_le (b) hb (j + 1) (by omega)
      have hn' : q * 256 + b j ≤ 4294967295 := by
        have : accN b (j + 1) = q * 256 + b j := by rw [hq.out]; rfl
        omega
      have hq' := Lib.hid (show q * 256 + b j = accN b (j + 1) by rw [hq.out]; rfl)
      clear hn
      generalize b j = y at c1 b0 hn' hq'
      clear hc hb
      go_wp2
      go_round
      case rel => exact ⟨j + 1, q * 256 + y, by omega, by go_num, by go_num, hq', hn'⟩
      case measure => simp [intOf]; omega
    · obtain rfl : j = 4 := by omega
      go_wp2
      go_ret
      exact ⟨ret_int (by rw [← hq.out]), rfl⟩
theorem accN_true (l : List UInt8) (k : Nat) : accN (fun j => (l.getD (k + (3 - j)) 0).toNat) 4 = numL true l k := by
  simp only [accN, numL]
  simp
  omega
theorem accN_false (l : List UInt8) (k : Nat) : accN (fun j => (l.getD (k + j) 0).toNat) 4 = numL false l k := by
  simp only [accN, numL]
  simp
  omega
end Go.Proofs.YtdlhihfjigcimaaDoor
/- The reference's digits of a word. -/
namespace Go.Proofs.YtdlhihfjigcimaaDoor
open Go.RowKit

set_option maxRecDepth 100000 in
theorem refDigits (little : Bool) (n : Nat) (hn : n < 4294967296) (w : World) (hd : Deb w) :
    Calls Tryd.prog 170 #[.int .i64 n, .bool little] w fun e w' => e = .returned (.string ⟨(digitsN little n).toArray⟩) ∧ Below w.heap.size w w' := by
  have hf := filled_16 n 8 (by omega) (by decide) w hd
  rw [fill8 n hn, show ((8 : Nat) : Int) = 8 from rfl] at hf
  have hD := Lib.hid (show digitsN little n = (if little then (tailD 16 n 8).drop 6 ++ ((tailD 16 n 8).drop 4).take 2 ++ ((tailD 16 n 8).drop 2).take 2 ++ (tailD 16 n 8).take 2 else tailD 16 n 8) from rfl)
  have hl : (tailD 16 n 8).length = 8 := by rw [tail8 n hn]; rfl
  generalize tailD 16 n 8 = T at hf hD hl
  generalize digitsN little n = D at hD ⊢
  obtain ⟨S, hS⟩ : ∃ S : ByteArray, S = ⟨T.toArray⟩ := ⟨_, rfl⟩
  have hsz : S.size = 8 := by rw [hS]; show T.toArray.size = 8; simpa using hl
  have hST : Hid (S.data.toList = T) := Lib.hid (by rw [hS])
  rw [← hS] at hf
  clear hS hl hd hn
  have g1 : (6 : Int) ≤ 8 := by decide
  have g2 : (8 : Int) ≤ (S.size : Int) := by omega
  have g3 : (6 : Int) ≤ (S.size : Int) := by omega
  have g4 : (4 : Int) ≤ (S.size : Int) := by omega
  have g5 : (2 : Int) ≤ (S.size : Int) := by omega
  cases little
  · go_enter Tryd.func170, Tryd.ntmps170
    go_wp2_with fail
    refine hf.mono ?_
    rintro e w1 ⟨rfl, hB⟩
    go_wp2
    go_ret
    exact ⟨ret_str (by apply ByteArray.ext; rw [hD.out, ← hST.out]; simp), hB⟩
  · go_enter Tryd.func170, Tryd.ntmps170
    go_wp2_with fail
    refine hf.mono ?_
    rintro e w1 ⟨rfl, hB⟩
    have x1 : (S.extract 6 8).size = 2 := by rw [ByteArray.size_extract]; omega
    have x2 : (S.extract 4 6).size = 2 := by rw [ByteArray.size_extract]; omega
    have x3 : (S.extract 2 4).size = 2 := by rw [ByteArray.size_extract]; omega
    have x4 : (S.extract 0 2).size = 2 := by rw [ByteArray.size_extract]; omega
    have a1 := fun w' => run_string_add_sum (P := Tryd.prog) w' (S.extract 6 8) (S.extract 4 6) (by omega)
    have a2 := fun w' => run_string_add_sum (P := Tryd.prog) w' (S.extract 6 8 ++ S.extract 4 6) (S.extract 2 4) (by rw [ByteArray.size_append]; omega)
    have a3 := fun w' => run_string_add_sum (P := Tryd.prog) w' (S.extract 6 8 ++ S.extract 4 6 ++ S.extract 2 4) (S.extract 0 2) (by rw [ByteArray.size_append, ByteArray.size_append]; omega)
    go_wp2
    go_region
    go_wp2
    go_ret
    refine ⟨ret_str ?_, hB.drew⟩
    apply ByteArray.ext
    rw [hD.out, ← hST.out]
    simp [List.extract]
    exact List.take_of_length_le (by rw [List.length_drop, ← sz_len]; omega)
end Go.Proofs.YtdlhihfjigcimaaDoor
/- SHA-256's tables, as the program's variables hold them; bits.RotateLeft32 to the right. -/
namespace Go.Proofs.YtdlhihfjigcimaaDoor
open Go.RowKit

def rootsL : List Nat := match (Rows.laid_gatepost_api_Roots : DataW Unit) with
  | .agg l => l.map fun x => match x with
    | .lit (.int _ z) => z.toNat
    | _ => 0
  | _ => []
def beginL : List Nat := [0x6a09e667, 0xbb67ae85, 0x3c6ef372, 0xa54ff53a, 0x510e527f, 0x9b05688c, 0x1f83d9ab, 0x5be0cd19]
theorem roots_tab : (Rows.laid_gatepost_api_Roots : DataW Unit) = Lib.tabData .u32 (rootsL.map fun (n : Nat) => (n : Int)) := by kernel_rfl
theorem begin_tab : (Rows.laid_gatepost_api_Begin : DataW Unit) = Lib.tabData .u32 (beginL.map fun (n : Nat) => (n : Int)) := by kernel_rfl
theorem rootsL_len : rootsL.length = 64 := by kernel_rfl
theorem beginL_len : beginL.length = 8 := rfl
theorem rootsL_all : rootsL.all (fun n => decide (n < 4294967296)) = true := by kernel_rfl
theorem rootsL_lt (i : Nat) : rootsL.getD i 0 < 4294967296 := getD_lt _ (fun x hx => by have := List.all_eq_true.1 rootsL_all x hx; simpa using this) i
def sha0 : W8 := ⟨0x6a09e667, 0xbb67ae85, 0x3c6ef372, 0xa54ff53a, 0x510e527f, 0x9b05688c, 0x1f83d9ab, 0x5be0cd19⟩
theorem sha0_ok : sha0.ok := by unfold sha0 W8.ok; decide
structure ShaT (w : World) : Prop where
  roots : ∀ i, i < 64 → w.cell? ⟨7, i, none⟩ = some (.int .u32 (rootsL.getD i 0 : Nat))
  begin_ : ∀ i, i < 8 → w.cell? ⟨6, i, none⟩ = some (.int .u32 (beginL.getD i 0 : Nat))
theorem ShaT.later {w w' : World} (h : ShaT w) (hb : Below w.heap.size w w') : ShaT w' :=
  ⟨fun i hi => (hb.cell (World.block_lt_of_cell? w _ (h.roots i hi))).trans (h.roots i hi), fun i hi => (hb.cell (World.block_lt_of_cell? w _ (h.begin_ i hi))).trans (h.begin_ i hi)⟩
theorem andR (k : Nat) (hk : 1 ≤ k) (hk2 : k ≤ 31) : bits .and .u64 (IntKind.u64.wrap (-(k : Int))) 31 = ((32 - k : Nat) : Int) := by
  have : ∀ n : Fin 32, 1 ≤ n.val → bits .and .u64 (IntKind.u64.wrap (-((n.val : Nat) : Int))) 31 = ((32 - n.val : Nat) : Int) := by decide
  exact this ⟨k, by omega⟩ hk
set_option maxRecDepth 100000 in
theorem rotRight (n k : Nat) (hn : n < 4294967296) (hk : 1 ≤ k) (hk2 : k ≤ 31) (w : World) : Calls Tryd.prog 174 #[.int .u32 n, .int .i64 (-(k : Int))] w fun e w' => e = .returned (.int .u32 (rorN n k : Nat)) ∧ w = w' := by
  have hb := andR k hk hk2
  have hr := rot_bits n (32 - k) hn (by omega)
  unfold rorN
  go_enter Tryd.func174, Tryd.ntmps174
  go_wp2
  go_ret
  exact ⟨rfl, rfl⟩
end Go.Proofs.YtdlhihfjigcimaaDoor
/- A row of bytes whose block may bear a mark that lies on no cell behind its elements (what []byte(s) lays), and appends to it. -/
namespace Go.Proofs.YtdlhihfjigcimaaDoor
open Go.RowKit

/-- these values laid one behind the other -/
def laidFrom : Array Value → Nat → List Value → Array Value
  | cur, _, [] => cur
  | cur, k, v :: r => laidFrom (cur.setIfInBounds k v) (k + 1) r
theorem laidFrom_size : ∀ (vs : List Value) (cur : Array Value) (k : Nat), (laidFrom cur k vs).size = cur.size
  | [], _, _ => rfl
  | _ :: r, cur, k => by unfold laidFrom; rw [laidFrom_size r]; simp
theorem laidFrom_take : ∀ (vs : List Value) (cur : Array Value) (k : Nat), k + vs.length ≤ cur.size → (laidFrom cur k vs).toList.take (k + vs.length) = cur.toList.take k ++ vs
  | [], cur, k, _ => by simp [laidFrom]
  | v :: r, cur, k, h => by
    simp only [List.length_cons] at h
    unfold laidFrom
    rw [show k + (v :: r).length = k + 1 + r.length by simp only [List.length_cons]; omega, laidFrom_take r _ (k + 1) (by simp; omega)]
    have e : (cur.setIfInBounds k v).toList.take (k + 1) = cur.toList.take k ++ [v] := by
      rw [Array.toList_setIfInBounds, List.take_succ_eq_append_getElem (by simp; omega), List.take_set_of_le (Nat.le_refl _)]
      simp
    rw [e]
    simp
/-- cells ahead of which nothing is frozen -/
def Bare (fz : Nat × Nat) (lo hi : Nat) : Prop := ∀ j, lo ≤ j → j < hi → ¬ (fz.1 ≤ j ∧ j < fz.2)
theorem run_laidFrom (P : Program) (g o : Nat) (t : TypeId) (fz : Nat × Nat) : ∀ (vs : List Value) (i : Nat) (cur : Array Value) (w : World), w.heap[g]? = some (.cells cur t fz) → Bare fz (o + i) cur.size → o + i + vs.length ≤ cur.size → (∀ v ∈ vs, v.oneCell' = true) →
    (storeCells ⟨g, o, none⟩ vs i).run P w = .ok () (w.setRow g (laidFrom cur (o + i) vs))
  | [], i, cur, w, hg, _, _, _ => by
    show Result.ok () w = _
    rw [show laidFrom cur (o + i) [] = cur from rfl, setRow_self w g cur t fz hg]
  | v :: r, i, cur, w, hg, hfz, hl, h1 => by
    simp only [List.length_cons] at hl
    have hi : o + i < cur.size := by omega
    have hadd : (⟨g, o, none⟩ : Addr).add i = ⟨g, o + i, none⟩ := by unfold Addr.add; split <;> simp_all
    have hcell : w.cell? ⟨g, o + i, none⟩ = some cur[o + i] := by simp [World.cell?, hg, hi]
    have hfro : w.frozen? ⟨g, o + i, none⟩ = false := by
      have := hfz (o + i) (Nat.le_refl _) hi
      obtain ⟨lo, hi'⟩ := fz
      simp only [World.frozen?, hg]
      by_cases hlo : lo ≤ o + i
      · have : ¬ (o + i < hi') := fun h => this ⟨hlo, h⟩
        simp [this]
      · simp [hlo]
    have hst : (store ((⟨g, o, none⟩ : Addr).add i) v).run P w = .ok () (w.setRow g (cur.setIfInBounds (o + i) v)) := by
      rw [hadd, run_store P w _ v _ (h1 v (by simp)), hcell]
      simp [hfro, setCell_eq_setRow w g (o + i) cur t fz v hg]
    have ih := run_laidFrom P g o t fz r (i + 1) (cur.setIfInBounds (o + i) v) (w.setRow g (cur.setIfInBounds (o + i) v)) (setRow_heap w g cur _ t _ hg)
      (fun j h2 h3 => hfz j (by omega) (by simpa using h3)) (by simp; omega) (fun x hx => h1 x (by simp [hx]))
    simp only [storeCells, Sem.run_bind, hst, Result.andThen_ok, ih, setRow_setRow]
    rfl

/-- v is a slice of the call's own that holds these bytes; its block may bear a mark, on no cell behind them -/
def OwnM (w : World) (base : Nat) (v : Value) (l : List UInt8) : Prop :=
  ∃ g cap cur fz, v = .slice (some ⟨g, 0, none⟩) l.length cap ∧ base ≤ g ∧ w.heap[g]? = some (.cells cur 5 fz) ∧ Bare fz l.length cap ∧ l.length ≤ cap ∧ cap ≤ maxLen ∧ cur.size = cap ∧ cur.toList.take l.length = l.map bv
section
variable {w w' : World} {base : Nat} {v : Value} {l : List UInt8}
theorem OwnM.kept {row : Option Nat} (h : OwnM w base v l) (hg : w.grownBy w' row) (hne : v.ownBlock ≠ row) : OwnM w' base v l := by
  obtain ⟨g, cap, cur, fz, rfl, hb, hgg, rest⟩ := h
  exact ⟨g, cap, cur, fz, rfl, hb, (hg.block g (Array.getElem?_eq_some_iff.1 hgg).1 (by simpa [Value.ownBlock] using hne)).trans hgg, rest⟩
theorem OwnM.later (h : OwnM w base v l) (hb : Below w.heap.size w w') : OwnM w' base v l := by
  obtain ⟨g, cap, cur, fz, rfl, hbg, hgg, rest⟩ := h
  exact ⟨g, cap, cur, fz, rfl, hbg, (hb.block g (Array.getElem?_eq_some_iff.1 hgg).1).trans hgg, rest⟩
theorem OwnM.alloc (h : OwnM w base v l) (o : Obj) : OwnM (w.alloc o) base v l := h.later ((Below.refl _ _).alloc (Nat.le_refl _) _)
theorem OwnM.lt (h : OwnM w base v l) : ∀ k, v.ownBlock = some k → base ≤ k ∧ k < w.heap.size := by
  obtain ⟨g, cap, cur, fz, rfl, hbg, hgg, rest⟩ := h
  intro k hk
  simp [Value.ownBlock] at hk
  subst hk
  exact ⟨hbg, (Array.getElem?_eq_some_iff.1 hgg).1⟩
theorem OwnM.shape (h : OwnM w base v l) : ∃ g cap, v = .slice (some ⟨g, 0, none⟩) l.length cap ∧ g < w.heap.size ∧ l.length ≤ cap ∧ base ≤ g ∧ ∀ j (hj : j < l.length), w.cell? ⟨g, j, none⟩ = some (bv l[j]) := by
  obtain ⟨g, cap, cur, fz, rfl, hbg, hgg, hfz, hlc, hcm, hcs, htake⟩ := h
  refine ⟨g, cap, rfl, (Array.getElem?_eq_some_iff.1 hgg).1, hlc, hbg, fun j hj => ?_⟩
  rw [cell_of_row w g j cur _ fz hgg]
  have h2 : (cur.toList.take l.length)[j]? = (l.map bv)[j]? := by rw [htake]
  rw [List.getElem?_take, if_pos hj, List.getElem?_map, List.getElem?_eq_getElem hj] at h2
  simpa using h2
end
theorem bv_one (l : List UInt8) : ∀ u ∈ l.map bv, u.oneCell' = true := by
  intro u hu
  simp only [List.mem_map] at hu
  obtain ⟨c, _, rfl⟩ := hu
  rfl
/-- what []byte(s) lays -/
theorem OwnM.made (w : World) (base cap : Nat) (s : ByteArray) (hb : base ≤ w.heap.size) (hsc : s.size ≤ cap) (hcap : cap ≤ maxLen) :
    OwnM (w.drew.alloc (.cells (bytesRow s cap) 5 ((bytesRow s cap).size, (bytesRow s cap).size + 1))) base (.slice (some ⟨w.heap.size, 0, none⟩) s.size cap) s.data.toList := by
  have hsz : (bytesRow s cap).size = cap := by
    unfold bytesRow
    simp only [Array.size_append, Array.size_map, Array.size_replicate]
    have : s.data.size = s.size := rfl
    omega
  have hl : s.data.toList.length = s.size := rfl
  refine ⟨w.heap.size, cap, bytesRow s cap, _, by rw [hl], hb, heap_alloc_new w.drew _, ?_, by rw [hl]; exact hsc, hcap, hsz, ?_⟩
  · intro j _ h2 h3
    simp only [hsz] at h3
    omega
  · unfold bytesRow
    rw [Array.toList_append, List.take_left' (by simp)]
    simp
    exact fun a _ => rfl
theorem run_append_M (w : World) (base : Nat) (ty : TypeId) (v : Value) (l : List UInt8) (hown : OwnM w base v l) (a : Addr) (c : Nat) (news : List UInt8)
    (hnews : ∀ j u, (news.map bv)[j]? = some u → w.cell? (a.add j) = some u) (hl : l.length + news.length ≤ 140737488355328) (hbase : base ≤ w.heap.size) :
    ∃ v' w', (Builtin.append_ #[99, 99] ty #[v, .slice (some a) news.length c]).run Tryd.prog w = .ok v' w' ∧ OwnM w' base v' (l ++ news) ∧ w.grownBy w' v.ownBlock := by
  obtain ⟨i0, hi, hz0, hz1, hz2⟩ := info_parts infoByte
  have hml : 140737488355328 ≤ maxLen := by unfold maxLen; omega
  have hm : (news.map bv).length = news.length := by simp
  have hq : (l ++ news).length = l.length + news.length := List.length_append
  have hfull := hown
  obtain ⟨g, cap, cur, fz, rfl, hbg, hgg, hfz, hlc, hcm, hcs, htake⟩ := hown
  by_cases hroom : l.length + news.length ≤ cap
  · have hf := run_firstCells_some (P := Tryd.prog) w i0.size news.length a news.length c (news.map bv) (by rw [hz1]; simp) hnews
    have hst := run_laidFrom Tryd.prog g l.length 5 fz (news.map bv) 0 cur w hgg (by rw [hcs]; simpa using hfz) (by rw [hm, hcs]; simpa using hroom) (bv_one news)
    simp only [Nat.add_zero] at hst
    refine ⟨.slice (some ⟨g, 0, none⟩) (l.length + news.length) cap, w.setRow g (laidFrom cur l.length (news.map bv)), ?_, ⟨g, cap, _, fz, by rw [hq], hbg, setRow_heap w g cur _ _ _ hgg, ?_, by rw [hq]; exact hroom, hcm, by rw [laidFrom_size]; exact hcs, ?_⟩,
      ⟨rfl, rfl, rfl, by simp, fun k _ hk => setRow_other w g k _ (fun e => hk (by simp [Value.ownBlock, e]))⟩⟩
    · rw [hz1] at hf
      simp [Builtin.append_, run_underlying Tryd.underlying99, sizeOf, typeInfo, hi, hz1, Builtin.lenOf, hroom, hf, Addr.add_lit, hst]
    · rw [hq]; exact fun j h1 h2 => hfz j (by omega) h2
    · rw [hq, show l.length + news.length = l.length + (news.map bv).length by rw [hm], laidFrom_take _ _ _ (by rw [hm, hcs]; exact hroom), htake, List.map_append]
  · have holds : ∀ j u, (l.map bv)[j]? = some u → w.cell? ((⟨g, 0, none⟩ : Addr).add j) = some u := by
      intro j u hu
      have hadd : (⟨g, 0, none⟩ : Addr).add j = ⟨g, j, none⟩ := by unfold Addr.add; split <;> simp_all
      obtain ⟨g', cap', hv, _, _, _, hc⟩ := hfull.shape
      cases hv
      have hj : j < l.length := by
        have := (List.getElem?_eq_some_iff.1 hu).1
        simpa using this
      rw [hadd, hc j hj]
      rw [List.getElem?_map, List.getElem?_eq_getElem hj] at hu
      simpa using hu
    have hr := run_append_grow (P := Tryd.prog) w 99 ty 5 i0 (.int .u8 0) Tryd.underlying99 hi hz0 ⟨g, 0, none⟩ l.length cap (l.map bv) (by rw [hz1]; simp) holds a news.length c (news.map bv) (by rw [hz1]; simp) hnews (by omega) (by omega) (by rw [hz2]; exact growslice_fits (by omega) (by omega))
    have hge := grownCap_ge w (l.length + news.length) cap 5
    have hcm2 : grownCap w (l.length + news.length) cap 5 ≤ maxLen := grownCap_le_maxLen w (l.length + news.length) cap _ (by omega)
    refine ⟨_, _, hr, ⟨w.heap.size, grownCap w (l.length + news.length) cap 5, _, (0, 0), by rw [hq], hbase, heap_alloc_new w.drew _, fun j _ _ h => by simp at h, by rw [hq]; exact hge, hcm2, ?_, ?_⟩,
      ⟨rfl, rfl, rfl, by simp, fun k hk _ => Below.heap_alloc w.drew _ k hk⟩⟩
    · have hz1 : (Value.int IntKind.u8 0).cells.size = 1 := rfl
      simp only [Array.size_append, List.size_toArray, size_zeroCells, hz1, List.length_map]
      omega
    · simp only [Array.toList_append, List.append_assoc]
      rw [← List.append_assoc, hq, List.map_append]
      exact List.take_left' (by simp)
theorem wpList_append_M {ops : Array Oper} {rest : List Oper} {o : Oper} {a : Act} {Q : Exit → Act → World → Prop} (hgd : o.guard = none) (s x : Operand)
    (ho : o.op = .call { callee := .builtin .append, args := #[s, x], argTypes := #[99, 99] })
    (w : World) (base : Nat) (v : Value) (l : List UInt8) (hs : a.eval s = v) (hown : OwnM w base v l) (ad : Addr) (c : Nat) (news : List UInt8) (n : Nat) (hn : n = news.length)
    (hx : a.eval x = .slice (some ad) n c) (hnews : ∀ j u, (news.map bv)[j]? = some u → w.cell? (ad.add j) = some u) (hl : l.length + news.length ≤ 140737488355328) (hbase : base ≤ w.heap.size)
    (h : ∀ v' w', OwnM w' base v' (l ++ news) → w.grownBy w' v.ownBlock → wpList Tryd.prog ops Q rest (a.put o.dst v') w') :
    wpList Tryd.prog ops Q (o :: rest) a w := by
  subst hn
  refine wpList_plain hgd fun K hK => ?_
  obtain ⟨v', w', hr, h2, h3⟩ := run_append_M w base o.type v l hown ad c news hnews hl hbase
  unfold Oper.wp execOp
  simp only [ho, resolve, invoke, builtin, Sem.run_bind, Sem.run_pure, Result.andThen_ok, List.map_toArray, List.map_cons, List.map_nil, hs, hx, hr]
  exact hK _ _ (h v' w' h2 h3)
theorem wpList_append_byteM {ops : Array Oper} {rest : List Oper} {o : Oper} {a : Act} {Q : Exit → Act → World → Prop} (hgd : o.guard = none) (s x : Operand)
    (ho : o.op = .call { callee := .builtin .append, args := #[s, x], argTypes := #[99, 99] })
    (w : World) (b base : Nat) (hwb : b = w.heap.size) (v : Value) (l : List UInt8) (hs : a.eval s = v) (hown : OwnM w base v l) (c : UInt8) (n : Int) (hn : n = (c.toNat : Int))
    (hx : a.eval x = .slice (some ⟨b, 0, none⟩) 1 1) (hl : l.length + 1 ≤ 140737488355328) (hbase : base ≤ w.heap.size)
    (h : ∀ v' w', OwnM w' base v' (l ++ [c]) → (w.alloc (.cells #[.int .u8 n] 5)).grownBy w' v.ownBlock → wpList Tryd.prog ops Q rest (a.put o.dst v') w') :
    wpList Tryd.prog ops Q (o :: rest) a (w.alloc (.cells #[.int .u8 n] 5)) := by
  subst hn hwb
  exact wpList_append_M hgd s x ho _ base v l hs (hown.alloc _) ⟨w.heap.size, 0, none⟩ 1 [c] 1 rfl hx (cell_one_new _ _ _) hl (by simp; omega) h
theorem below_appendM {base : Nat} {a w w' : World} {o : Obj} {v : Value} {l : List UInt8} (hB : Below base a w) (hO : OwnM w base v l) (hg : (w.alloc o).grownBy w' v.ownBlock) (hb : base ≤ w.heap.size) : Below base a w' :=
  (hB.alloc hb o).grown hg (by simp; omega) (fun k hk => (hO.lt k hk).1)
end Go.Proofs.YtdlhihfjigcimaaDoor
/- Rows of ints that a call makes for itself: appends, reads, stores. -/
namespace Go.Proofs.YtdlhihfjigcimaaDoor
open Go.RowKit

theorem infoInt : (Tryd.prog.info? 3).map (fun i => (i.zero, i.size, i.bytes)) = some (some (.int .i64 0), 1, 8) := by kernel_rfl
def iv (n : Nat) : Value := .int .i64 (n : Int)
/-- a block whose first cells are these ints -/
def RowI (w : World) (b : Nat) (l : List Nat) : Prop := ∃ cur, w.heap[b]? = some (.cells cur 3 (0, 0)) ∧ l.length ≤ cur.size ∧ cur.toList.take l.length = l.map iv
section
variable {w w' : World} {b : Nat} {l : List Nat}
theorem RowI.lt (h : RowI w b l) : b < w.heap.size := by
  obtain ⟨cur, h1, _⟩ := h
  exact (Array.getElem?_eq_some_iff.1 h1).1
theorem RowI.cell (h : RowI w b l) (i : Nat) (hi : i < l.length) : w.cell? ⟨b, i, none⟩ = some (.int .i64 (l.getD i 0 : Nat)) := by
  obtain ⟨cur, h1, h2, h3⟩ := h
  rw [cell_of_row w b i cur _ _ h1]
  have h4 : (cur.toList.take l.length)[i]? = (l.map iv)[i]? := by rw [h3]
  rw [List.getElem?_take, if_pos hi, List.getElem?_map, List.getElem?_eq_getElem hi] at h4
  rw [List.getD_eq_getElem?_getD, List.getElem?_eq_getElem hi]
  simpa [iv] using h4
theorem RowI.free (h : RowI w b l) (i : Nat) : w.frozen? ⟨b, i, none⟩ = false := by
  obtain ⟨cur, h1, _⟩ := h
  exact Lib.frozen_of_heap h1 i
theorem RowI.later (h : RowI w b l) (hb : Below w.heap.size w w') : RowI w' b l := by
  obtain ⟨cur, h1, h2⟩ := h
  exact ⟨cur, (hb.block b (Array.getElem?_eq_some_iff.1 h1).1).trans h1, h2⟩
theorem RowI.kept {row : Option Nat} (h : RowI w b l) (hg : w.grownBy w' row) (hne : row ≠ some b) : RowI w' b l := by
  obtain ⟨cur, h1, h2⟩ := h
  exact ⟨cur, (hg.block b (Array.getElem?_eq_some_iff.1 h1).1 (fun e => hne e.symm)).trans h1, h2⟩
theorem RowI.drewN (h : RowI w b l) (n : Nat) : RowI (w.drewN n) b l := h
theorem RowI.drew (h : RowI w b l) : RowI w.drew b l := h
theorem RowI.far (h : RowI w b l) (a : Addr) (v : Value) (hne : a.block ≠ b) : RowI (w.setCell a v) b l := by
  obtain ⟨cur, h1, h2⟩ := h
  exact ⟨cur, (Below.heap_setCell w a v b (fun e => hne e.symm)).trans h1, h2⟩
theorem RowI.set (h : RowI w b l) (i x : Nat) : RowI (w.setCell ⟨b, i, none⟩ (.int .i64 (x : Nat))) b (l.set i x) := by
  obtain ⟨cur, h1, h2, h3⟩ := h
  refine ⟨cur.setIfInBounds i (iv x), ?_, by simpa using h2, ?_⟩
  · simp [World.setCell, Array.getElem?_modify, h1, iv]
  · rw [List.length_set, Array.toList_setIfInBounds, List.take_set, h3, List.map_set]
end
theorem RowI.news {w : World} {b : Nat} {l : List Nat} (h : RowI w b l) (k : Nat) : ∀ j u, ((l.take k).map iv)[j]? = some u → w.cell? ((⟨b, 0, none⟩ : Addr).add j) = some u := by
  intro j u hu
  have hj : j < (l.take k).length := by
    have := (List.getElem?_eq_some_iff.1 hu).1
    simpa using this
  have hj2 : j < l.length := by rw [List.length_take] at hj; omega
  have e : (⟨b, 0, none⟩ : Addr).add j = ⟨b, j, none⟩ := by unfold Addr.add; split <;> simp_all
  rw [e, h.cell j hj2]
  rw [List.getElem?_map, List.getElem?_eq_getElem hj, List.getElem_take] at hu
  rw [List.getD_eq_getElem?_getD, List.getElem?_eq_getElem hj2]
  simpa [iv] using hu
/-- v is a slice of the call's own, in blocks from base on, that holds these ints. -/
def OwnI (w : World) (base : Nat) (v : Value) (l : List Nat) : Prop := w.ownsRow base 3 1 v l.length (l.map iv)
theorem OwnI.nil (w : World) (base : Nat) : OwnI w base (.slice none 0 0) [] := World.ownsRow_nil w base _ _
theorem OwnI.later {w w' : World} {base : Nat} {v : Value} {l : List Nat} (h : OwnI w base v l) (hb : Below w.heap.size w w') : OwnI w' base v l := own_later h hb
theorem OwnI.row {w : World} {base : Nat} {v : Value} {l : List Nat} (h : OwnI w base v l) (h0 : l ≠ []) : ∃ b cap, v = .slice (some ⟨b, 0, none⟩) l.length cap ∧ base ≤ b ∧ RowI w b l ∧ l.length ≤ cap ∧ cap ≤ maxLen := by
  obtain ⟨h1, h2⟩ := h
  rcases h2 with ⟨rfl, h3⟩ | ⟨g, cap, cur, rfl, hb, hg, hn, hm, hs, ht⟩
  · exact absurd (List.length_eq_zero_iff.1 h3) h0
  · exact ⟨g, cap, rfl, hb, ⟨cur, hg, by omega, by simpa using ht⟩, hn, hm⟩
theorem OwnI.one (w : World) (base x : Nat) (hb : base ≤ w.heap.size) : OwnI (w.alloc (.cells #[.int .i64 (x : Nat)] 3)) base (.slice (some ⟨w.heap.size, 0, none⟩) 1 1) [x] :=
  ⟨rfl, .inr ⟨w.heap.size, 1, #[iv x], rfl, hb, heap_alloc_new w _, Nat.le_refl _, by decide, rfl, rfl⟩⟩
theorem iv_one (l : List Nat) : ∀ u ∈ l.map iv, u.oneCell' = true := by
  intro u hu
  simp only [List.mem_map] at hu
  obtain ⟨c, _, rfl⟩ := hu
  rfl
/-- an append of ints that lie somewhere -/
theorem wpList_append_ints {ops : Array Oper} {rest : List Oper} {o : Oper} {a : Act} {Q : Exit → Act → World → Prop} (hgd : o.guard = none) (s x : Operand)
    (ho : o.op = .call { callee := .builtin .append, args := #[s, x], argTypes := #[201, 201] })
    (w : World) (base : Nat) (v : Value) (l : List Nat) (hs : a.eval s = v) (hown : OwnI w base v l) (ad : Addr) (c : Nat) (news : List Nat) (n : Nat) (hn : n = news.length)
    (hx : a.eval x = .slice (some ad) n c) (hnews : ∀ j u, (news.map iv)[j]? = some u → w.cell? (ad.add j) = some u) (hl : (l.length + news.length) * 8 ≤ 140737488355328) (hbase : base ≤ w.heap.size)
    (h : ∀ v' w', OwnI w' base v' (l ++ news) → w.grownBy w' v.ownBlock → wpList Tryd.prog ops Q rest (a.put o.dst v') w') :
    wpList Tryd.prog ops Q (o :: rest) a w := by
  obtain ⟨i0, hi, hz0, hz1, hz2⟩ := info_parts infoInt
  subst hn
  refine wpList_append_own _ hgd s x 201 ho base 3 i0 (.int .i64 0) 1 8 Tryd.underlying201 hi hz0 hz1 hz2 rfl (by decide) v _ _ hs hown ad news.length c (news.map iv) hx (by simp)
    hnews (iv_one news) (by unfold maxLen; omega) hl hbase ?_
  intro v' w' hown' hgrow _
  refine h v' w' ?_ hgrow
  unfold OwnI
  rw [List.length_append, List.map_append]
  exact hown'
theorem one_at (w : World) (x : Nat) : ∀ j u, (([x] : List Nat).map iv)[j]? = some u → (w.alloc (.cells #[.int .i64 (x : Nat)] 3)).cell? ((⟨w.heap.size, 0, none⟩ : Addr).add j) = some u :=
  cell_one_new w (.int .i64 (x : Nat)) 3
theorem wpList_append_int {ops : Array Oper} {rest : List Oper} {o : Oper} {a : Act} {Q : Exit → Act → World → Prop} (hgd : o.guard = none) (s x : Operand)
    (ho : o.op = .call { callee := .builtin .append, args := #[s, x], argTypes := #[201, 201] })
    (w : World) (b base : Nat) (hwb : b = w.heap.size) (v : Value) (l : List Nat) (hs : a.eval s = v) (hown : OwnI w base v l) (c : Nat) (n : Int) (hn : n = (c : Int))
    (hx : a.eval x = .slice (some ⟨b, 0, none⟩) 1 1) (hl : (l.length + 1) * 8 ≤ 140737488355328) (hbase : base ≤ w.heap.size)
    (h : ∀ v' w', OwnI w' base v' (l ++ [c]) → (w.alloc (.cells #[.int .i64 n] 3)).grownBy w' v.ownBlock → wpList Tryd.prog ops Q rest (a.put o.dst v') w') :
    wpList Tryd.prog ops Q (o :: rest) a (w.alloc (.cells #[.int .i64 n] 3)) := by
  subst hn hwb
  exact wpList_append_ints hgd s x ho _ base v l hs (own_later hown ((Below.refl _ _).alloc (Nat.le_refl _) _)) ⟨w.heap.size, 0, none⟩ 1 [c] 1 rfl hx (one_at w c) hl (by simp; omega) h
/-- an append to a row, whose own cells read on as they did -/
theorem run_append_keep (w : World) (base : Nat) (ty : TypeId) (g cap : Nat) (l : List Nat) (hown : OwnI w base (.slice (some ⟨g, 0, none⟩) l.length cap) l) (a : Addr) (c x : Nat)
    (hnews : ∀ j u, (([x] : List Nat).map iv)[j]? = some u → w.cell? (a.add j) = some u) (hl : (l.length + 1) * 8 ≤ 140737488355328) (hbase : base ≤ w.heap.size) :
    ∃ v' w', (Builtin.append_ #[201, 201] ty #[.slice (some ⟨g, 0, none⟩) l.length cap, .slice (some a) 1 c]).run Tryd.prog w = .ok v' w' ∧ OwnI w' base v' (l ++ [x]) ∧ w.grownBy w' (some g) ∧ RowI w' g l := by
  obtain ⟨i0, hi, hz0, hz1, hz2⟩ := info_parts infoInt
  have hml : 140737488355328 ≤ maxLen := by unfold maxLen; omega
  have hq : (l ++ [x]).length = l.length + 1 := by simp
  obtain ⟨_, h2⟩ := hown
  rcases h2 with ⟨hv, _⟩ | ⟨g', cap', cur, hv, hbg, hgg, hlc, hcm, hcs, htake⟩
  · cases hv
  cases hv
  rw [Nat.mul_one] at hcs htake
  by_cases hroom : l.length + 1 ≤ cap
  · have hr := run_append_room (P := Tryd.prog) w 201 ty 3 i0 Tryd.underlying201 hi g l.length cap cur hgg a 1 c (([x] : List Nat).map iv) (by rw [hz1]; rfl) hnews (iv_one [x]) hroom (by rw [hz1, hcs]; simpa using hroom)
    rw [hz1, Nat.mul_one] at hr
    have hset := setRow_heap w g cur (cur.toList.take l.length ++ ([x] : List Nat).map iv ++ cur.toList.drop (l.length + (([x] : List Nat).map iv).length)).toArray 3 (0, 0) hgg
    have hsz : (cur.toList.take l.length ++ ([x] : List Nat).map iv ++ cur.toList.drop (l.length + (([x] : List Nat).map iv).length)).toArray.size = cap := by
      simp only [List.size_toArray, List.length_append, List.length_take, List.length_drop, List.length_map, List.length_cons, List.length_nil, Array.length_toList]
      omega
    refine ⟨_, _, hr, ⟨by simp, .inr ⟨g, cap, _, by rw [hq], hbg, hset, by rw [hq]; exact hroom, hcm, by rw [hsz, Nat.mul_one], ?_⟩⟩, ⟨rfl, rfl, rfl, by simp, fun k _ hk => setRow_other w g k _ (fun e => hk (by rw [e]))⟩, ⟨_, hset, by rw [hsz]; omega, ?_⟩⟩
    · rw [htake, Nat.mul_one]
      show (l.map iv ++ ([x] : List Nat).map iv ++ _).take _ = _
      rw [List.map_append, List.take_left' (by simp)]
    · show (cur.toList.take l.length ++ ([x] : List Nat).map iv ++ _).take _ = _
      rw [htake, List.append_assoc, List.take_left' (by simp)]
  · have hrow : RowI w g l := ⟨cur, hgg, by omega, htake⟩
    have holds : ∀ j u, (l.map iv)[j]? = some u → w.cell? ((⟨g, 0, none⟩ : Addr).add j) = some u := by
      intro j u hu
      have hj : j < l.length := by
        have := (List.getElem?_eq_some_iff.1 hu).1
        simpa using this
      have hadd : (⟨g, 0, none⟩ : Addr).add j = ⟨g, j, none⟩ := by unfold Addr.add; split <;> simp_all
      rw [hadd, hrow.cell j hj]
      rw [List.getElem?_map, List.getElem?_eq_getElem hj] at hu
      rw [List.getD_eq_getElem?_getD, List.getElem?_eq_getElem hj]
      simpa [iv] using hu
    have hr := run_append_grow (P := Tryd.prog) w 201 ty 3 i0 (.int .i64 0) Tryd.underlying201 hi hz0 ⟨g, 0, none⟩ l.length cap (l.map iv) (by rw [hz1]; simp) holds a 1 c (([x] : List Nat).map iv) (by rw [hz1]; rfl) hnews (by omega) (by omega) (by rw [hz2]; exact growslice_fits (by omega) hl)
    have hge := grownCap_ge w (l.length + 1) cap 3
    have hcm2 : grownCap w (l.length + 1) cap 3 ≤ maxLen := grownCap_le_maxLen w (l.length + 1) cap _ (by omega)
    have hglt := hrow.lt
    refine ⟨_, _, hr, ⟨by simp, .inr ⟨w.heap.size, grownCap w (l.length + 1) cap 3, _, by rw [hq], hbase, heap_alloc_new w.drew _, by rw [hq]; exact hge, hcm2, ?_, ?_⟩⟩,
      ⟨rfl, rfl, rfl, by simp, fun k hk _ => Below.heap_alloc w.drew _ k hk⟩, hrow.later (((Below.refl _ _).drew).alloc (Nat.le_refl _) _)⟩
    · have hz1' : (Value.int IntKind.i64 0).cells.size = 1 := rfl
      simp only [Array.size_append, List.size_toArray, size_zeroCells, hz1', List.length_map, List.length_cons, List.length_nil]
      omega
    · simp only [Array.toList_append, List.append_assoc]
      rw [← List.append_assoc, hq, Nat.mul_one, List.map_append]
      exact List.take_left' (by simp)
theorem step_append_keep {ops : Array Oper} {o : Oper} {a : Act} {K : Act → World → Prop} {Q : Exit → Act → World → Prop} {E : Prop} (hgd : o.guard = none) (s x : Operand)
    (ho : o.op = .call { callee := .builtin .append, args := #[s, x], argTypes := #[201, 201] })
    (w : World) (base g cap n : Nat) (l : List Nat) (hnl : n = l.length) (hs : a.eval s = .slice (some ⟨g, 0, none⟩) n cap) (hown : OwnI w base (.slice (some ⟨g, 0, none⟩) l.length cap) l) (ad : Addr) (c y : Nat)
    (hx : a.eval x = .slice (some ad) 1 c) (hnews : ∀ j u, (([y] : List Nat).map iv)[j]? = some u → w.cell? (ad.add j) = some u) (hl : (l.length + 1) * 8 ≤ 140737488355328) (hbase : base ≤ w.heap.size)
    (h : ∀ v' w', OwnI w' base v' (l ++ [y]) → w.grownBy w' (some g) → RowI w' g l → K (a.put o.dst v') w') :
    if Region.wanted o (yielded ops a.tmps) = true then Oper.wp Tryd.prog o a w K Q else E := by
  subst hnl
  have hw : Region.wanted o (yielded ops a.tmps) = true := by simp [Region.wanted, hgd]
  rw [if_pos hw]
  obtain ⟨v', w', hr, h2, h3, h4⟩ := run_append_keep w base o.type g cap l hown ad c y hnews hl hbase
  unfold Oper.wp execOp
  simp only [ho, resolve, invoke, builtin, Sem.run_bind, Sem.run_pure, Result.andThen_ok, List.map_toArray, List.map_cons, List.map_nil, hs, hx, hr]
  exact h v' w' h2 h3 h4
end Go.Proofs.YtdlhihfjigcimaaDoor
