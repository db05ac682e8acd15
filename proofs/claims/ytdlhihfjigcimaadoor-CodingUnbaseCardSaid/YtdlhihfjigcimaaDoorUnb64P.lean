/- Base64 back: letter by letter in fours, and bit by bit: both find the bytes that were written. Plain lists; no program. -/
import Derived.Test.YtdlhihfjigcimaaDoorDigs
import Derived.Lib.Bytealg
import Derived.Lib.SlTrimSet
namespace Go.Proofs.YtdlhihfjigcimaaDoor
def isL (c : UInt8) : Bool := decide (0 ≤ Lib.indexByte lettersL c)
def n6 (c : UInt8) : Nat := (Lib.indexByte lettersL c).toNat
theorem let6_all {q : Nat → Prop} [DecidablePred q] (h : ∀ n : Fin 64, q n.val) (d : Nat) (hd : d < 64) : q d := h ⟨d, hd⟩
theorem n6_let6 (d : Nat) (h : d < 64) : n6 (let6 d) = d := let6_all (q := fun d => n6 (let6 d) = d) (by decide +kernel) d h
theorem isL_let6 (d : Nat) (h : d < 64) : isL (let6 d) = true := let6_all (q := fun d => isL (let6 d) = true) (by decide +kernel) d h
theorem let6_ne (d : Nat) (h : d < 64) : (let6 d == 61) = false := let6_all (q := fun d => (let6 d == 61) = false) (by decide +kernel) d h
theorem isL_eq : isL 61 = false := by decide +kernel
theorem n6_lt (c : UInt8) : n6 c < 64 := by
  have h : ∀ n : Fin 256, n6 (UInt8.ofNat n.val) < 64 := by decide +kernel
  have := h ⟨c.toNat, c.toNat_lt⟩
  simpa using this
theorem idx_n6 {c : UInt8} (h : isL c = true) : Lib.indexByte lettersL c = (n6 c : Int) := by
  unfold isL at h; unfold n6
  have := of_decide_eq_true h
  omega
/-- a group's number so far: behind m letters noughts count -/
def vAt (l : List UInt8) (m i : Nat) : Nat → Nat
  | 0 => 0
  | j + 1 => vAt l m i j * 64 + (if i + j < m then n6 (l.getD (i + j) 0) else 0)
def okAt (l : List UInt8) (m i : Nat) : Nat → Bool
  | 0 => true
  | j + 1 => okAt l m i j && (decide (m ≤ i + j) || isL (l.getD (i + j) 0))
theorem vAt_lt (l : List UInt8) (m i : Nat) : ∀ j, vAt l m i j < 64 ^ j
  | 0 => by simp [vAt]
  | j + 1 => by
    have h := vAt_lt l m i j
    have h2 := n6_lt (l.getD (i + j) 0)
    rw [vAt, Nat.pow_succ]
    split <;> omega
/-- the bytes of a group's number -/
def outN (v n : Nat) : List UInt8 := (List.range (n - 1)).map fun k => UInt8.ofNat (v / 2 ^ (16 - 8 * k) % 256)
def outAt (l : List UInt8) (m i : Nat) : List UInt8 := outN (vAt l m i 4) (min 4 (m - i))
def progGo (l : List UInt8) (m : Nat) : Nat → List UInt8
  | 0 => []
  | g + 1 => progGo l m g ++ outAt l m (4 * g)
def progOk (l : List UInt8) (m : Nat) : Nat → Bool
  | 0 => true
  | g + 1 => progOk l m g && okAt l m (4 * g) 4
theorem getD_far (q r : List UInt8) (h : q.length = 4) (i : Nat) : (q ++ r).getD (4 + i) 0 = r.getD i 0 := by
  rw [List.getD_eq_getElem?_getD, List.getD_eq_getElem?_getD, List.getElem?_append_right (by omega), h, show 4 + i - 4 = i by omega]
theorem vAt_far (q r : List UInt8) (h : q.length = 4) (m i : Nat) : ∀ j, vAt (q ++ r) (4 + m) (4 + i) j = vAt r m i j
  | 0 => rfl
  | j + 1 => by
    rw [vAt, vAt, vAt_far q r h m i j, show 4 + i + j = 4 + (i + j) by omega, getD_far q r h]
    by_cases e : i + j < m
    · rw [if_pos e, if_pos (by omega)]
    · rw [if_neg e, if_neg (by omega)]
theorem okAt_far (q r : List UInt8) (h : q.length = 4) (m i : Nat) : ∀ j, okAt (q ++ r) (4 + m) (4 + i) j = okAt r m i j
  | 0 => rfl
  | j + 1 => by
    rw [okAt, okAt, okAt_far q r h m i j, show 4 + i + j = 4 + (i + j) by omega, getD_far q r h]
    congr 2
    exact decide_eq_decide.2 (by omega)
theorem outAt_far (q r : List UInt8) (h : q.length = 4) (m i : Nat) : outAt (q ++ r) (4 + m) (4 + i) = outAt r m i := by
  unfold outAt; rw [vAt_far q r h, show 4 + m - (4 + i) = m - i by omega]
theorem progGo_far (q r : List UInt8) (h : q.length = 4) (m : Nat) : ∀ g, progGo (q ++ r) (4 + m) (g + 1) = outAt (q ++ r) (4 + m) 0 ++ progGo r m g
  | 0 => by simp [progGo]
  | g + 1 => by
    rw [progGo, progGo_far q r h m g, progGo, show 4 * (g + 1) = 4 + 4 * g by omega, outAt_far q r h, List.append_assoc]
theorem progOk_far (q r : List UInt8) (h : q.length = 4) (m : Nat) : ∀ g, progOk (q ++ r) (4 + m) (g + 1) = (okAt (q ++ r) (4 + m) 0 4 && progOk r m g)
  | 0 => by simp [progOk]
  | g + 1 => by
    rw [progOk, progOk_far q r h m g, progOk, show 4 * (g + 1) = 4 + 4 * g by omega, okAt_far q r h, Bool.and_assoc]
/-- how many letters stand ahead of the marks at the end -/
def trimN (l : List UInt8) : Nat := (Lib.trimRightS l [61]).length
theorem trimR_app (a t : List UInt8) (c : UInt8) (hc : (c == 61) = false) : Lib.trimRightS (a ++ [c] ++ t) [61] = a ++ [c] ++ Lib.trimRightS t [61] := by
  unfold Lib.trimRightS
  rw [List.reverse_append, List.dropWhile_append]
  by_cases h : (t.reverse.dropWhile (fun x => [61].contains x)).isEmpty = true
  · rw [if_pos h, List.isEmpty_iff.1 h]
    have hc' : c ≠ 61 := by intro e; subst e; cases hc
    simp [hc']
  · rw [if_neg h]
    simp
theorem trimN_far (a b c d : UInt8) (t : List UInt8) (hd : (d == 61) = false) : trimN ([a, b, c, d] ++ t) = 4 + trimN t := by
  unfold trimN
  rw [show [a, b, c, d] ++ t = [a, b, c] ++ [d] ++ t by simp, trimR_app _ _ _ hd]
  simp; omega
theorem range4 : List.range 3 = [0, 1, 2] := rfl
theorem ofNat_toNat (a : UInt8) (n : Nat) (h : n % 256 = a.toNat) : UInt8.ofNat (n % 256) = a := by rw [h]; simp
/-- what was written is read -/
theorem prog_back : ∀ x : List UInt8, ∃ g, (b64 x).length = 4 * g ∧ progOk (b64 x) (trimN (b64 x)) g = true ∧ progGo (b64 x) (trimN (b64 x)) g = x
  | [] => ⟨0, rfl, rfl, rfl⟩
  | [a] => by
    have ha := a.toNat_lt
    have l1 : a.toNat * 65536 / 262144 % 64 < 64 := Nat.mod_lt _ (by decide)
    have l2 : a.toNat * 65536 / 4096 % 64 < 64 := Nat.mod_lt _ (by decide)
    have ht : trimN (b64 [a]) = 2 := by
      show (Lib.trimRightS ([let6 (a.toNat * 65536 / 262144 % 64)] ++ [let6 (a.toNat * 65536 / 4096 % 64)] ++ [61, 61]) [61]).length = 2
      rw [trimR_app _ _ _ (let6_ne _ l2)]
      simp [Lib.trimRightS]
    refine ⟨1, rfl, ?_, ?_⟩
    · rw [ht]
      simp [progOk, okAt, b64, isL_let6 _ l1, isL_let6 _ l2]
    · rw [ht]
      simp only [progGo, outAt, outN, vAt, b64]
      simp [n6_let6 _ l1, n6_let6 _ l2]
      exact ofNat_toNat a _ (by omega)
  | [a, b] => by
    have ha := a.toNat_lt
    have hb := b.toNat_lt
    have l1 : (a.toNat * 65536 + b.toNat * 256) / 262144 % 64 < 64 := Nat.mod_lt _ (by decide)
    have l2 : (a.toNat * 65536 + b.toNat * 256) / 4096 % 64 < 64 := Nat.mod_lt _ (by decide)
    have l3 : (a.toNat * 65536 + b.toNat * 256) / 64 % 64 < 64 := Nat.mod_lt _ (by decide)
    have ht : trimN (b64 [a, b]) = 3 := by
      show (Lib.trimRightS ([let6 ((a.toNat * 65536 + b.toNat * 256) / 262144 % 64), let6 ((a.toNat * 65536 + b.toNat * 256) / 4096 % 64)] ++ [let6 ((a.toNat * 65536 + b.toNat * 256) / 64 % 64)] ++ [61]) [61]).length = 3
      rw [trimR_app _ _ _ (let6_ne _ l3)]
      simp [Lib.trimRightS]
    refine ⟨1, rfl, ?_, ?_⟩
    · rw [ht]
      simp [progOk, okAt, b64, isL_let6 _ l1, isL_let6 _ l2, isL_let6 _ l3]
    · rw [ht]
      simp only [progGo, outAt, outN, vAt, b64]
      simp [n6_let6 _ l1, n6_let6 _ l2, n6_let6 _ l3, List.range_succ]
      exact ⟨ofNat_toNat a _ (by omega), ofNat_toNat b _ (by omega)⟩
  | a :: b :: c :: r => by
    have ha := a.toNat_lt
    have hb := b.toNat_lt
    have hc := c.toNat_lt
    obtain ⟨g, h1, h2, h3⟩ := prog_back r
    have l1 : (a.toNat * 65536 + b.toNat * 256 + c.toNat) / 262144 % 64 < 64 := Nat.mod_lt _ (by decide)
    have l2 : (a.toNat * 65536 + b.toNat * 256 + c.toNat) / 4096 % 64 < 64 := Nat.mod_lt _ (by decide)
    have l3 : (a.toNat * 65536 + b.toNat * 256 + c.toNat) / 64 % 64 < 64 := Nat.mod_lt _ (by decide)
    have l4 : (a.toNat * 65536 + b.toNat * 256 + c.toNat) % 64 < 64 := Nat.mod_lt _ (by decide)
    have e : b64 (a :: b :: c :: r) = [let6 ((a.toNat * 65536 + b.toNat * 256 + c.toNat) / 262144 % 64), let6 ((a.toNat * 65536 + b.toNat * 256 + c.toNat) / 4096 % 64), let6 ((a.toNat * 65536 + b.toNat * 256 + c.toNat) / 64 % 64), let6 ((a.toNat * 65536 + b.toNat * 256 + c.toNat) % 64)] ++ b64 r := rfl
    refine ⟨g + 1, by rw [e, List.length_append, h1]; show 4 + 4 * g = 4 * (g + 1); omega, ?_, ?_⟩
    · rw [e, trimN_far _ _ _ _ _ (let6_ne _ l4), progOk_far _ _ rfl, h2]
      simp [okAt, isL_let6 _ l1, isL_let6 _ l2, isL_let6 _ l3, isL_let6 _ l4]
    · rw [e, trimN_far _ _ _ _ _ (let6_ne _ l4), progGo_far _ _ rfl, h3]
      have hv : vAt ([let6 ((a.toNat * 65536 + b.toNat * 256 + c.toNat) / 262144 % 64), let6 ((a.toNat * 65536 + b.toNat * 256 + c.toNat) / 4096 % 64), let6 ((a.toNat * 65536 + b.toNat * 256 + c.toNat) / 64 % 64), let6 ((a.toNat * 65536 + b.toNat * 256 + c.toNat) % 64)] ++ b64 r) (4 + trimN (b64 r)) 0 4 = a.toNat * 65536 + b.toNat * 256 + c.toNat := by
        have e0 : 0 + 0 < 4 + trimN (b64 r) := by omega
        have e1 : 0 + 1 < 4 + trimN (b64 r) := by omega
        have e2 : 0 + 2 < 4 + trimN (b64 r) := by omega
        have e3 : 0 + 3 < 4 + trimN (b64 r) := by omega
        simp only [vAt, if_pos e0, if_pos e1, if_pos e2, if_pos e3]
        simp [n6_let6 _ l1, n6_let6 _ l2, n6_let6 _ l3, n6_let6 _ l4]
        omega
      unfold outAt outN
      rw [hv, show min 4 (4 + trimN (b64 r) - 0) - 1 = 3 by omega, range4]
      simp only [List.map_cons, List.map_nil, List.cons_append, List.nil_append, List.cons.injEq, and_true]
      exact ⟨ofNat_toNat a _ (by show (a.toNat * 65536 + b.toNat * 256 + c.toNat) / 65536 % 256 = _; omega), ofNat_toNat b _ (by show (a.toNat * 65536 + b.toNat * 256 + c.toNat) / 256 % 256 = _; omega), ofNat_toNat c _ (by show (a.toNat * 65536 + b.toNat * 256 + c.toNat) / 1 % 256 = _; omega)⟩
/-! bit by bit -/
def bitsN (l : List UInt8) : List UInt8 := l.flatMap fun c => tailD 2 (n6 c) 6
def oct : List UInt8 → List UInt8
  | a :: b :: c :: d :: e :: f :: g :: h :: r => UInt8.ofNat (val [a, b, c, d, e, f, g, h]) :: oct r
  | _ => []
def refOut (l : List UInt8) : List UInt8 := oct (bitsN (l.takeWhile isL))
theorem oct_short {z : List UInt8} (h : z.length < 8) : oct z = [] := by
  match z, h with
  | [], _ | [_], _ | [_, _], _ | [_, _, _], _ | [_, _, _, _], _ | [_, _, _, _, _], _ | [_, _, _, _, _, _], _ | [_, _, _, _, _, _, _], _ => rfl
  | _ :: _ :: _ :: _ :: _ :: _ :: _ :: _ :: _, h => simp at h; omega
theorem val_byte (c : UInt8) : UInt8.ofNat (val (tailD 2 c.toNat 8)) = c := by
  have h : ∀ n : Fin 256, UInt8.ofNat (val (tailD 2 n.val 8)) = UInt8.ofNat n.val := by decide +kernel
  have := h ⟨c.toNat, c.toNat_lt⟩
  simpa using this
theorem oct_bits : ∀ (l z : List UInt8), z.length < 8 → oct (bitsOf l ++ z) = l
  | [], z, h => oct_short h
  | c :: l, z, h => by
    have hb := val_byte c
    rw [bits8] at hb
    rw [bitsOf_cons, bits8]
    simp only [List.cons_append, List.nil_append, oct]
    rw [oct_bits l z h, hb]
theorem six_back (a b c d e f : UInt8) (ha : a = 48 ∨ a = 49) (hb : b = 48 ∨ b = 49) (hc : c = 48 ∨ c = 49) (hd : d = 48 ∨ d = 49) (he : e = 48 ∨ e = 49) (hf : f = 48 ∨ f = 49) :
    val [a, b, c, d, e, f] < 64 ∧ tailD 2 (val [a, b, c, d, e, f]) 6 = [a, b, c, d, e, f] := by
  rcases ha with rfl | rfl <;> rcases hb with rfl | rfl <;> rcases hc with rfl | rfl <;> rcases hd with rfl | rfl <;> rcases he with rfl | rfl <;> rcases hf with rfl | rfl <;> decide
def Bits (l : List UInt8) : Prop := ∀ c ∈ l, c = 48 ∨ c = 49
theorem groups_back : ∀ (n : Nat) (l : List UInt8), l.length = 6 * n → Bits l → (∀ c ∈ groups l, isL c = true) ∧ bitsN (groups l) = l
  | 0, l, h, _ => by
    have : l = [] := List.length_eq_zero_iff.1 (by omega)
    subst this; exact ⟨by simp [groups], rfl⟩
  | n + 1, l, h, hb => by
    match l, h, hb with
    | a :: b :: c :: d :: e :: f :: r, h, hb =>
      obtain ⟨h1, h2⟩ := six_back a b c d e f (hb a (by simp)) (hb b (by simp)) (hb c (by simp)) (hb d (by simp)) (hb e (by simp)) (hb f (by simp))
      obtain ⟨h3, h4⟩ := groups_back n r (by simp at h; omega) (fun x hx => hb x (by simp [hx]))
      refine ⟨?_, ?_⟩
      · intro x hx
        simp only [groups, List.mem_cons] at hx
        rcases hx with rfl | hx
        · exact isL_let6 _ h1
        · exact h3 x hx
      · simp only [groups, bitsN, List.flatMap_cons]
        rw [n6_let6 _ h1, h2, show (groups r).flatMap (fun c => tailD 2 (n6 c) 6) = r from h4]; rfl
    | [], h, _ | [_], h, _ | [_, _], h, _ | [_, _, _], h, _ | [_, _, _, _], h, _ | [_, _, _, _, _], h, _ => simp at h <;> omega
theorem bitsOf_Bits (l : List UInt8) : Bits (bitsOf l) := by
  intro c hc
  unfold bitsOf at hc
  obtain ⟨x, _, hx⟩ := List.mem_flatMap.1 hc
  rw [bits8] at hx
  have h : ∀ n : Nat, sig (n % 2) = 48 ∨ sig (n % 2) = 49 := fun n => by rcases Nat.mod_two_eq_zero_or_one n with e | e <;> rw [e] <;> decide
  simp only [List.mem_cons, List.not_mem_nil, or_false] at hx
  rcases hx with rfl | rfl | rfl | rfl | rfl | rfl | rfl | rfl <;> exact h _
theorem takeW_mark (p : UInt8 → Bool) (hp : p 61 = false) : ∀ (x : List UInt8) (k : Nat), (∀ c ∈ x, p c = true) → (x ++ List.replicate k 61).takeWhile p = x
  | [], 0, _ => rfl
  | [], k + 1, _ => by simp [List.replicate_succ, hp]
  | a :: x, k, h => by
    rw [List.cons_append, List.takeWhile_cons, if_pos (h a (by simp)), takeW_mark p hp x k (fun c hc => h c (by simp [hc]))]
theorem ref_back (x : List UInt8) : refOut (b64 x) = x := by
  have hB : Bits (pad6 (bitsOf x)) := by
    intro c hc
    unfold pad6 at hc
    rcases List.mem_append.1 hc with h | h
    · exact bitsOf_Bits x c h
    · exact .inl (List.eq_of_mem_replicate h)
  have hl : ∃ n, (pad6 (bitsOf x)).length = 6 * n := by
    unfold pad6
    rw [List.length_append, List.length_replicate]
    exact ⟨((bitsOf x).length + (6 - (bitsOf x).length % 6) % 6) / 6, by omega⟩
  obtain ⟨n, hn⟩ := hl
  obtain ⟨h1, h2⟩ := groups_back n _ hn hB
  unfold refOut
  rw [← b64_bits, pad4, takeW_mark isL isL_eq _ _ h1, h2]
  unfold pad6
  exact oct_bits x _ (by rw [List.length_replicate]; omega)
end Go.Proofs.YtdlhihfjigcimaaDoor
