/- Sums of 32 bits: the operations of bits as the walk spells them, turned words, MD5 and SHA-256 on plain numbers. No program. -/
import Derived.Test.YtfkflgcifddnnaaDoorRadix
namespace Go.Proofs.YtfkflgcifddnnaaDoor

theorem bv32 (a : Nat) (h : a < 4294967296) : (BitVec.ofInt 32 (a : Int)).toNat = a := by
  rw [BitVec.ofInt_natCast, BitVec.toNat_ofNat]; exact Nat.mod_eq_of_lt (by omega)
theorem bv64 (a : Nat) (h : a < 9223372036854775808) : (BitVec.ofInt 64 (a : Int)).toNat = a := by
  rw [BitVec.ofInt_natCast, BitVec.toNat_ofNat]; exact Nat.mod_eq_of_lt (by omega)
theorem wrap32n (x : Nat) (h : x < 4294967296) : IntKind.u32.wrap (x : Int) = (x : Int) := by
  simp [IntKind.wrap, IntKind.bits, IntKind.signed]; omega
theorem wrap64n (x : Nat) (h : x < 9223372036854775808) : IntKind.i64.wrap (x : Int) = (x : Int) := by
  simp [IntKind.wrap, IntKind.bits, IntKind.signed]; omega
theorem and_lt' (a b n : Nat) (ha : a < n) : a &&& b < n := Nat.lt_of_le_of_lt Nat.and_le_left ha
theorem or32 (a b : Nat) (ha : a < 4294967296) (hb : b < 4294967296) : a ||| b < 4294967296 := Nat.or_lt_two_pow (n := 32) ha hb
theorem xor32 (a b : Nat) (ha : a < 4294967296) (hb : b < 4294967296) : a ^^^ b < 4294967296 := Nat.xor_lt_two_pow (n := 32) ha hb
theorem and32 (a b : Nat) (ha : a < 4294967296) : a &&& b < 4294967296 := and_lt' a b _ ha
theorem u32_and (a b : Nat) (ha : a < 4294967296) (hb : b < 4294967296) : bits .and .u32 (a : Int) (b : Int) = ((a &&& b : Nat) : Int) := by
  show IntKind.u32.wrap ((BitVec.ofInt 32 (a : Int) &&& BitVec.ofInt 32 (b : Int)).toNat : Int) = _
  rw [BitVec.toNat_and, bv32 a ha, bv32 b hb, wrap32n _ (and32 a b ha)]
theorem u32_or (a b : Nat) (ha : a < 4294967296) (hb : b < 4294967296) : bits .or .u32 (a : Int) (b : Int) = ((a ||| b : Nat) : Int) := by
  show IntKind.u32.wrap ((BitVec.ofInt 32 (a : Int) ||| BitVec.ofInt 32 (b : Int)).toNat : Int) = _
  rw [BitVec.toNat_or, bv32 a ha, bv32 b hb, wrap32n _ (or32 a b ha hb)]
theorem u32_xor (a b : Nat) (ha : a < 4294967296) (hb : b < 4294967296) : bits .xor .u32 (a : Int) (b : Int) = ((a ^^^ b : Nat) : Int) := by
  show IntKind.u32.wrap ((BitVec.ofInt 32 (a : Int) ^^^ BitVec.ofInt 32 (b : Int)).toNat : Int) = _
  rw [BitVec.toNat_xor, bv32 a ha, bv32 b hb, wrap32n _ (xor32 a b ha hb)]
theorem u32_not (a : Nat) (ha : a < 4294967296) : bits .xor .u32 4294967295 (a : Int) = ((4294967295 - a : Nat) : Int) := by
  show IntKind.u32.wrap ((BitVec.ofInt 32 4294967295 ^^^ BitVec.ofInt 32 (a : Int)).toNat : Int) = _
  rw [show BitVec.ofInt 32 4294967295 = BitVec.allOnes 32 by decide, BitVec.allOnes_xor, BitVec.toNat_not, bv32 a ha]
  exact wrap32n _ (by omega)
theorem i64_and (a b : Nat) (ha : a < 4294967296) (hb : b < 4294967296) : bits .and .i64 (a : Int) (b : Int) = ((a &&& b : Nat) : Int) := by
  have := and32 a b ha
  show IntKind.i64.wrap ((BitVec.ofInt 64 (a : Int) &&& BitVec.ofInt 64 (b : Int)).toNat : Int) = _
  rw [BitVec.toNat_and, bv64 a (by omega), bv64 b (by omega), wrap64n _ (by omega)]
theorem i64_or (a b : Nat) (ha : a < 4294967296) (hb : b < 4294967296) : bits .or .i64 (a : Int) (b : Int) = ((a ||| b : Nat) : Int) := by
  have := or32 a b ha hb
  show IntKind.i64.wrap ((BitVec.ofInt 64 (a : Int) ||| BitVec.ofInt 64 (b : Int)).toNat : Int) = _
  rw [BitVec.toNat_or, bv64 a (by omega), bv64 b (by omega), wrap64n _ (by omega)]
theorem i64_xor (a b : Nat) (ha : a < 4294967296) (hb : b < 4294967296) : bits .xor .i64 (a : Int) (b : Int) = ((a ^^^ b : Nat) : Int) := by
  have := xor32 a b ha hb
  show IntKind.i64.wrap ((BitVec.ofInt 64 (a : Int) ^^^ BitVec.ofInt 64 (b : Int)).toNat : Int) = _
  rw [BitVec.toNat_xor, bv64 a (by omega), bv64 b (by omega), wrap64n _ (by omega)]

/-- a word turned to the left -/
def rolN (n k : Nat) : Nat := n * 2 ^ k % 4294967296 + n * 2 ^ k / 4294967296
theorem rol_parts (n k : Nat) (hk : k ≤ 32) : n * 2 ^ k % 4294967296 = 2 ^ k * (n % 2 ^ (32 - k)) ∧ n * 2 ^ k / 4294967296 = n / 2 ^ (32 - k) := by
  have e : 4294967296 = 2 ^ (32 - k) * 2 ^ k := by rw [← Nat.pow_add, show 32 - k + k = 32 by omega]
  constructor
  · rw [e, Nat.mul_mod_mul_right, Nat.mul_comm]
  · rw [e, Nat.mul_div_mul_right _ _ (Nat.two_pow_pos k)]
theorem rol_high (n k : Nat) (h : n < 4294967296) (hk : k ≤ 32) : n / 2 ^ (32 - k) < 2 ^ k := by
  rw [Nat.div_lt_iff_lt_mul (Nat.two_pow_pos _), ← Nat.pow_add, show k + (32 - k) = 32 by omega]
  exact h
/-- as bits.RotateLeft32 has it -/
theorem rol_or (n k : Nat) (h : n < 4294967296) (hk : k ≤ 32) : (n * 2 ^ k % 4294967296) ||| (n / 2 ^ (32 - k)) = rolN n k := by
  unfold rolN
  obtain ⟨e1, e2⟩ := rol_parts n k hk
  rw [e1, e2]
  exact (Nat.two_pow_add_eq_or_of_lt (rol_high n k h hk) _).symm
theorem rolN_lt (n k : Nat) (h : n < 4294967296) (hk : k ≤ 32) : rolN n k < 4294967296 := by
  rw [← rol_or n k h hk]
  refine or32 _ _ (Nat.mod_lt _ (by decide)) (Nat.lt_of_le_of_lt (Nat.div_le_self _ _) h)
def notN (n : Nat) : Nat := 4294967295 - n
theorem notN_lt (n : Nat) : notN n < 4294967296 := by unfold notN; omega

/-- four bytes of a text, and a word's bytes -/
def numL (little : Bool) (l : List UInt8) (k : Nat) : Nat :=
  if little then (l.getD k 0).toNat + (l.getD (k + 1) 0).toNat * 256 + (l.getD (k + 2) 0).toNat * 65536 + (l.getD (k + 3) 0).toNat * 16777216
  else (l.getD (k + 3) 0).toNat + (l.getD (k + 2) 0).toNat * 256 + (l.getD (k + 1) 0).toNat * 65536 + (l.getD k 0).toNat * 16777216
theorem numL_lt (little : Bool) (l : List UInt8) (k : Nat) : numL little l k < 4294967296 := by
  have h0 := (l.getD k 0).toNat_lt
  have h1 := (l.getD (k + 1) 0).toNat_lt
  have h2 := (l.getD (k + 2) 0).toNat_lt
  have h3 := (l.getD (k + 3) 0).toNat_lt
  unfold numL
  split <;> omega
/-- what is behind a text that is summed -/
def zerosN (n : Nat) : Nat := (119 - n % 64) % 64
def eight (little : Bool) (n : Nat) : List UInt8 :=
  let l := [UInt8.ofNat (n % 256), UInt8.ofNat (n / 256 % 256), UInt8.ofNat (n / 65536 % 256), UInt8.ofNat (n / 16777216 % 256), UInt8.ofNat (n / 4294967296 % 256), UInt8.ofNat (n / 1099511627776 % 256), UInt8.ofNat (n / 281474976710656 % 256), UInt8.ofNat (n / 72057594037927936 % 256)]
  if little then l else l.reverse
theorem eight_length (little : Bool) (n : Nat) : (eight little n).length = 8 := by cases little <;> rfl
def padL (little : Bool) (l : List UInt8) : List UInt8 := l ++ [128] ++ List.replicate (zerosN l.length) 0 ++ eight little (8 * l.length)
theorem padL_length (little : Bool) (l : List UInt8) : (padL little l).length % 64 = 0 := by
  unfold padL
  simp only [List.length_append, List.length_replicate, eight_length, List.length_cons, List.length_nil]
  unfold zerosN
  omega
theorem padL_le (little : Bool) (l : List UInt8) : (padL little l).length ≤ l.length + 72 := by
  unfold padL
  simp only [List.length_append, List.length_replicate, eight_length, List.length_cons, List.length_nil]
  unfold zerosN
  omega

/-- four words -/
structure W4 where
  a : Nat
  b : Nat
  c : Nat
  d : Nat
def W4.ok (v : W4) : Prop := v.a < 4294967296 ∧ v.b < 4294967296 ∧ v.c < 4294967296 ∧ v.d < 4294967296
def md5F (i x c d : Nat) : Nat :=
  if i < 16 then (x &&& c) ||| (notN x &&& d) else if i < 32 then (d &&& x) ||| (notN d &&& c) else if i < 48 then (x ^^^ c) ^^^ d else c ^^^ (x ||| notN d)
def md5G (i : Nat) : Nat := if i < 16 then i else if i < 32 then (5 * i + 1) % 16 else if i < 48 then (3 * i + 5) % 16 else 7 * i % 16
def md5T (i : Nat) : Nat := [7, 12, 17, 22, 5, 9, 14, 20, 4, 11, 16, 23, 6, 10, 15, 21].getD (i / 16 * 4 + i % 4) 0
theorem md5T_le (i : Nat) (h : i < 64) : md5T i ≤ 23 := by
  have : ∀ n : Fin 64, md5T n.val ≤ 23 := by decide
  exact this ⟨i, h⟩
theorem md5G_lt (i : Nat) : md5G i < 16 := by
  unfold md5G; split; · omega
  split; · omega
  split <;> omega
theorem md5F_lt (i x c d : Nat) (hx : x < 4294967296) (hc : c < 4294967296) (hd : d < 4294967296) : md5F i x c d < 4294967296 := by
  unfold md5F
  split
  · exact or32 _ _ (and32 _ _ hx) (and32 _ _ (notN_lt _))
  split
  · exact or32 _ _ (and32 _ _ hd) (and32 _ _ (notN_lt _))
  split
  · exact xor32 _ _ (xor32 _ _ hx hc) hd
  · exact xor32 _ _ hc (or32 _ _ hx (notN_lt _))
def md5Step (S : List Nat) (t : List UInt8) (i : Nat) (v : W4) : W4 :=
  ⟨v.d, (v.b + rolN ((md5F i v.b v.c v.d + v.a + S.getD i 0 + numL true t (4 * md5G i)) % 4294967296) (md5T i)) % 4294967296, v.b, v.c⟩
def md5Go (S : List Nat) (t : List UInt8) (h : W4) : Nat → W4
  | 0 => h
  | n + 1 => md5Step S t n (md5Go S t h n)
theorem md5Go_ok (S : List Nat) (t : List UInt8) (h : W4) (hh : h.ok) : ∀ n, (md5Go S t h n).ok
  | 0 => hh
  | n + 1 => by
    obtain ⟨ha, hb, hc, hd⟩ := md5Go_ok S t h hh n
    exact ⟨hd, Nat.mod_lt _ (by decide), hb, hc⟩
def W4.plus (v u : W4) : W4 := ⟨(v.a + u.a) % 4294967296, (v.b + u.b) % 4294967296, (v.c + u.c) % 4294967296, (v.d + u.d) % 4294967296⟩
theorem W4.plus_ok (v u : W4) : (v.plus u).ok := ⟨Nat.mod_lt _ (by decide), Nat.mod_lt _ (by decide), Nat.mod_lt _ (by decide), Nat.mod_lt _ (by decide)⟩
/-- after k blocks -/
def md5At (S : List Nat) (l : List UInt8) : Nat → W4
  | 0 => ⟨0x67452301, 0xefcdab89, 0x98badcfe, 0x10325476⟩
  | k + 1 => (md5At S l k).plus (md5Go S (l.drop (64 * k)) (md5At S l k) 64)
theorem md5At_ok (S : List Nat) (l : List UInt8) : ∀ k, (md5At S l k).ok
  | 0 => by unfold md5At W4.ok; decide
  | _ + 1 => W4.plus_ok _ _
/-- eight words -/
structure W8 where
  a : Nat
  b : Nat
  c : Nat
  d : Nat
  e : Nat
  f : Nat
  g : Nat
  h : Nat
def W8.ok (v : W8) : Prop := v.a < 4294967296 ∧ v.b < 4294967296 ∧ v.c < 4294967296 ∧ v.d < 4294967296 ∧ v.e < 4294967296 ∧ v.f < 4294967296 ∧ v.g < 4294967296 ∧ v.h < 4294967296
def rorN (n k : Nat) : Nat := rolN n (32 - k)
theorem rorN_lt (n k : Nat) (h : n < 4294967296) : rorN n k < 4294967296 := rolN_lt n _ h (Nat.sub_le _ _)
def shaP (x : Nat) : Nat := (rorN x 7 ^^^ rorN x 18) ^^^ x / 8
def shaQ (x : Nat) : Nat := (rorN x 17 ^^^ rorN x 19) ^^^ x / 1024
def shaE (x : Nat) : Nat := (rorN x 6 ^^^ rorN x 11) ^^^ rorN x 25
def shaA (x : Nat) : Nat := (rorN x 2 ^^^ rorN x 13) ^^^ rorN x 22
def shaC (e f g : Nat) : Nat := (e &&& f) ^^^ (notN e &&& g)
def shaM (a b c : Nat) : Nat := ((a &&& b) ^^^ (a &&& c)) ^^^ (b &&& c)
theorem shaP_lt (x : Nat) (h : x < 4294967296) : shaP x < 4294967296 := xor32 _ _ (xor32 _ _ (rorN_lt _ _ h) (rorN_lt _ _ h)) (Nat.lt_of_le_of_lt (Nat.div_le_self _ _) h)
theorem shaQ_lt (x : Nat) (h : x < 4294967296) : shaQ x < 4294967296 := xor32 _ _ (xor32 _ _ (rorN_lt _ _ h) (rorN_lt _ _ h)) (Nat.lt_of_le_of_lt (Nat.div_le_self _ _) h)
theorem shaE_lt (x : Nat) (h : x < 4294967296) : shaE x < 4294967296 := xor32 _ _ (xor32 _ _ (rorN_lt _ _ h) (rorN_lt _ _ h)) (rorN_lt _ _ h)
theorem shaA_lt (x : Nat) (h : x < 4294967296) : shaA x < 4294967296 := xor32 _ _ (xor32 _ _ (rorN_lt _ _ h) (rorN_lt _ _ h)) (rorN_lt _ _ h)
theorem shaC_lt (e f g : Nat) (he : e < 4294967296) : shaC e f g < 4294967296 := xor32 _ _ (and32 _ _ he) (and32 _ _ (notN_lt _))
theorem shaM_lt (a b c : Nat) (ha : a < 4294967296) (hb : b < 4294967296) : shaM a b c < 4294967296 := xor32 _ _ (xor32 _ _ (and32 _ _ ha) (and32 _ _ ha)) (and32 _ _ hb)
/-- the words of a block -/
def shaNext (t : List UInt8) (l : List Nat) : Nat :=
  if l.length < 16 then numL false t (4 * l.length)
  else (l.getD (l.length - 16) 0 + l.getD (l.length - 7) 0 + shaP (l.getD (l.length - 15) 0) + shaQ (l.getD (l.length - 2) 0)) % 4294967296
theorem shaNext_lt (t : List UInt8) (l : List Nat) : shaNext t l < 4294967296 := by
  unfold shaNext
  split
  · exact numL_lt _ _ _
  · exact Nat.mod_lt _ (by decide)
def shaWs (t : List UInt8) : Nat → List Nat
  | 0 => []
  | n + 1 => shaWs t n ++ [shaNext t (shaWs t n)]
theorem shaWs_length (t : List UInt8) : ∀ n, (shaWs t n).length = n
  | 0 => rfl
  | n + 1 => by simp [shaWs, shaWs_length t n]
theorem shaWs_lt (t : List UInt8) : ∀ n, ∀ x ∈ shaWs t n, x < 4294967296
  | 0, _, h => by simp [shaWs] at h
  | n + 1, x, h => by
    simp only [shaWs, List.mem_append, List.mem_singleton] at h
    rcases h with h | rfl
    · exact shaWs_lt t n x h
    · exact shaNext_lt t _
theorem getD_lt (l : List Nat) (h : ∀ x ∈ l, x < 4294967296) (i : Nat) : l.getD i 0 < 4294967296 := by
  rw [List.getD_eq_getElem?_getD]
  by_cases hi : i < l.length
  · rw [List.getElem?_eq_getElem hi]; exact h _ (List.getElem_mem hi)
  · rw [List.getElem?_eq_none (by omega)]; decide
def shaStep (R : List Nat) (w : List Nat) (i : Nat) (v : W8) : W8 :=
  let p := v.h + shaE v.e + shaC v.e v.f v.g + R.getD i 0 + w.getD i 0
  let q := shaA v.a + shaM v.a v.b v.c
  ⟨(p + q) % 4294967296, v.a, v.b, v.c, (v.d + p) % 4294967296, v.e, v.f, v.g⟩
def shaGo (R w : List Nat) (v : W8) : Nat → W8
  | 0 => v
  | n + 1 => shaStep R w n (shaGo R w v n)
theorem shaGo_ok (R w : List Nat) (v : W8) (hv : v.ok) : ∀ n, (shaGo R w v n).ok
  | 0 => hv
  | n + 1 => by
    obtain ⟨ha, hb, hc, hd, he, hf, hg, hh⟩ := shaGo_ok R w v hv n
    exact ⟨Nat.mod_lt _ (by decide), ha, hb, hc, Nat.mod_lt _ (by decide), he, hf, hg⟩
def W8.plus (v u : W8) : W8 := ⟨(v.a + u.a) % 4294967296, (v.b + u.b) % 4294967296, (v.c + u.c) % 4294967296, (v.d + u.d) % 4294967296, (v.e + u.e) % 4294967296, (v.f + u.f) % 4294967296, (v.g + u.g) % 4294967296, (v.h + u.h) % 4294967296⟩
theorem W8.plus_ok (v u : W8) : (v.plus u).ok := ⟨Nat.mod_lt _ (by decide), Nat.mod_lt _ (by decide), Nat.mod_lt _ (by decide), Nat.mod_lt _ (by decide), Nat.mod_lt _ (by decide), Nat.mod_lt _ (by decide), Nat.mod_lt _ (by decide), Nat.mod_lt _ (by decide)⟩
/-- after k blocks -/
def shaAt (R : List Nat) (v : W8) (l : List UInt8) : Nat → W8
  | 0 => v
  | k + 1 => (shaAt R v l k).plus (shaGo R (shaWs (l.drop (64 * k)) 64) (shaAt R v l k) 64)
theorem shaAt_ok (R : List Nat) (v : W8) (hv : v.ok) (l : List UInt8) : ∀ k, (shaAt R v l k).ok
  | 0 => hv
  | _ + 1 => W8.plus_ok _ _
end Go.Proofs.YtfkflgcifddnnaaDoor
