/- An origin out of a text, as both sides find it. Plain lists; no program. -/
import Derived.Test.YtinlahahbhpppaaFound
import Derived.Test.YtinlahahbhpppaaFoun2
import Derived.Test.YtinlahahbhpppaaRight
import Derived.Test.YtinlahahbhpppaaPortMap
import Derived.Lib.Atoi
namespace Go.Proofs.Ytinlahahbhpppaa
/-- which scheme a text begins with, and what is behind it -/
def schemeL (l : List UInt8) : Option (Bool × List UInt8) :=
  if lower (l.take 7) = [104, 116, 116, 112, 58, 47, 47] then some (false, l.drop 7) else if lower (l.take 8) = [104, 116, 116, 112, 115, 58, 47, 47] then some (true, l.drop 8) else none
def refSch (h r : List UInt8) : Option (Bool × List UInt8) :=
  if lower h = [104, 116, 116, 112] then some (false, r) else if lower h = [104, 116, 116, 112, 115] then some (true, r) else none
def refSchemeL (l : List UInt8) : Option (Bool × List UInt8) :=
  if Lib.index l [58, 47, 47] < 0 then none else refSch (l.take (Lib.index l [58, 47, 47]).toNat) (l.drop ((Lib.index l [58, 47, 47]).toNat + 3))
theorem byte_allU {q : UInt8 → Prop} [DecidablePred q] (h : ∀ n : Fin 256, q (UInt8.ofNat n.val)) (c : UInt8) : q c := by
  have := h ⟨c.toNat, c.toNat_lt⟩
  simpa using this
theorem low_58 (c : UInt8) (h : low c = 58) : c = 58 := byte_allU (q := fun c => low c = 58 → c = 58) (by decide +kernel) c h
theorem low_47 (c : UInt8) (h : low c = 47) : c = 47 := byte_allU (q := fun c => low c = 47 → c = 47) (by decide +kernel) c h
theorem low_ne (c : UInt8) (x : UInt8) (h : low c = x) (hx : x ≠ 58) : c ≠ 58 := by
  rintro rfl
  exact hx h.symm
theorem take7 {l : List UInt8} (h : lower (l.take 7) = [104, 116, 116, 112, 58, 47, 47]) : ∃ a b c d r, l = a :: b :: c :: d :: 58 :: 47 :: 47 :: r ∧ low a = 104 ∧ low b = 116 ∧ low c = 116 ∧ low d = 112 := by
  match l, h with
  | a :: b :: c :: d :: e :: f :: g :: r, h =>
    simp [lower] at h
    obtain ⟨h1, h2, h3, h4, h5, h6, h7⟩ := h
    rw [low_58 e h5, low_47 f h6, low_47 g h7]
    exact ⟨a, b, c, d, r, rfl, h1, h2, h3, h4⟩
  | [], h | [_], h | [_, _], h | [_, _, _], h | [_, _, _, _], h | [_, _, _, _, _], h | [_, _, _, _, _, _], h => simp [lower] at h
theorem take8 {l : List UInt8} (h : lower (l.take 8) = [104, 116, 116, 112, 115, 58, 47, 47]) : ∃ a b c d e r, l = a :: b :: c :: d :: e :: 58 :: 47 :: 47 :: r ∧ low a = 104 ∧ low b = 116 ∧ low c = 116 ∧ low d = 112 ∧ low e = 115 := by
  match l, h with
  | a :: b :: c :: d :: e :: f :: g :: i :: r, h =>
    simp [lower] at h
    obtain ⟨h1, h2, h3, h4, h5, h6, h7, h8⟩ := h
    rw [low_58 f h6, low_47 g h7, low_47 i h8]
    exact ⟨a, b, c, d, e, r, rfl, h1, h2, h3, h4, h5⟩
  | [], h | [_], h | [_, _], h | [_, _, _], h | [_, _, _, _], h | [_, _, _, _, _], h | [_, _, _, _, _, _], h | [_, _, _, _, _, _, _], h => simp [lower] at h
theorem occ_head {l : List UInt8} {i : Nat} {c : UInt8} {r : List UInt8} (h : l.drop i = c :: r) (hc : c ≠ 58) : Lib.occAt l [58, 47, 47] i = false := by
  unfold Lib.occAt
  rw [h]
  simp [List.isPrefixOf]
  intro e
  exact absurd e.symm hc
theorem occ_is {l : List UInt8} {i : Nat} (h : Lib.occAt l [58, 47, 47] i = true) : ∃ r, l.drop i = 58 :: 47 :: 47 :: r := by
  unfold Lib.occAt at h
  obtain ⟨r, hr⟩ := List.isPrefixOf_iff_prefix.1 h
  exact ⟨r, by rw [← hr]; rfl⟩
theorem index_http {l : List UInt8} (h : lower (l.take 7) = [104, 116, 116, 112, 58, 47, 47]) : Lib.index l [58, 47, 47] = 4 := by
  obtain ⟨a, b, c, d, r, rfl, h1, h2, h3, h4⟩ := take7 h
  refine Lib.index_first (i := 4) (by simp) (by simp [Lib.occAt, List.isPrefixOf]) ?_
  intro j hj
  match j, hj with
  | 0, _ => exact occ_head (c := a) rfl (low_ne a _ h1 (by decide))
  | 1, _ => exact occ_head (c := b) rfl (low_ne b _ h2 (by decide))
  | 2, _ => exact occ_head (c := c) rfl (low_ne c _ h3 (by decide))
  | 3, _ => exact occ_head (c := d) rfl (low_ne d _ h4 (by decide))
theorem index_https {l : List UInt8} (h : lower (l.take 8) = [104, 116, 116, 112, 115, 58, 47, 47]) : Lib.index l [58, 47, 47] = 5 := by
  obtain ⟨a, b, c, d, e, r, rfl, h1, h2, h3, h4, h5⟩ := take8 h
  refine Lib.index_first (i := 5) (by simp) (by simp [Lib.occAt, List.isPrefixOf]) ?_
  intro j hj
  match j, hj with
  | 0, _ => exact occ_head (c := a) rfl (low_ne a _ h1 (by decide))
  | 1, _ => exact occ_head (c := b) rfl (low_ne b _ h2 (by decide))
  | 2, _ => exact occ_head (c := c) rfl (low_ne c _ h3 (by decide))
  | 3, _ => exact occ_head (c := d) rfl (low_ne d _ h4 (by decide))
  | 4, _ => exact occ_head (c := e) rfl (low_ne e _ h5 (by decide))
theorem scheme_same (l : List UInt8) : refSchemeL l = schemeL l := by
  unfold refSchemeL schemeL
  by_cases hA : lower (l.take 7) = [104, 116, 116, 112, 58, 47, 47]
  · rw [if_pos hA, index_http hA, if_neg (by decide)]
    obtain ⟨a, b, c, d, r, rfl, h1, h2, h3, h4⟩ := take7 hA
    unfold refSch
    rw [if_pos (by simp [lower, h1, h2, h3, h4])]
    rfl
  · rw [if_neg hA]
    by_cases hB : lower (l.take 8) = [104, 116, 116, 112, 115, 58, 47, 47]
    · rw [if_pos hB, index_https hB, if_neg (by decide)]
      obtain ⟨a, b, c, d, e, r, rfl, h1, h2, h3, h4, h5⟩ := take8 hB
      unfold refSch
      rw [if_neg (by simp [lower]), if_pos (by simp [lower, h1, h2, h3, h4, h5])]
      rfl
    · rw [if_neg hB]
      rcases Lib.index_spec l [58, 47, 47] with ⟨h, _⟩ | ⟨i, h, hi, ho, _⟩
      · rw [h, if_pos (by decide)]
      · rw [h, if_neg (by omega), Int.toNat_natCast]
        obtain ⟨r, hr⟩ := occ_is ho
        have hl : l = l.take i ++ 58 :: 47 :: 47 :: r := by rw [← hr, List.take_append_drop]
        have hln : (l.take i).length = i := by rw [List.length_take]; omega
        unfold refSch
        rw [if_neg, if_neg]
        · intro h2
          apply hB
          have h5 : (l.take i).length = 5 := by have := congrArg List.length h2; rw [lower_length] at this; exact this
          rw [hl, List.take_append, h5, List.take_of_length_le (by omega)]
          show lower (l.take i ++ [58, 47, 47]) = _
          unfold lower at h2 ⊢
          rw [List.map_append, h2]; rfl
        · intro h2
          apply hA
          have h4 : (l.take i).length = 4 := by have := congrArg List.length h2; rw [lower_length] at this; exact this
          rw [hl, List.take_append, h4, List.take_of_length_le (by omega)]
          show lower (l.take i ++ [58, 47, 47]) = _
          unfold lower at h2 ⊢
          rw [List.map_append, h2]; rfl
def digB (c : UInt8) : Bool := decide (48 ≤ c.toNat ∧ c.toNat ≤ 57)
/-- the number that digits spell -/
def numD (l : List UInt8) : Nat := l.foldl (fun a c => a * 10 + (c.toNat - 48)) 0
theorem numD_snoc (l : List UInt8) (c : UInt8) : numD (l ++ [c]) = numD l * 10 + (c.toNat - 48) := by unfold numD; rw [List.foldl_append]; rfl
theorem decFrom_digits : ∀ (l : List UInt8) (a : Nat), l.all digB = true → Lib.decFrom a l = some (l.foldl (fun a c => a * 10 + (c.toNat - 48)) a)
  | [], _, _ => rfl
  | c :: l, a, h => by
    rw [List.all_cons, Bool.and_eq_true] at h
    have hc : Lib.digitVal c = some (c.toNat - 48) := by
      unfold Lib.digitVal; rw [if_pos (of_decide_eq_true h.1)]
    rw [Lib.decFrom, hc]
    exact decFrom_digits l _ h.2
theorem atoi_digits {l : List UInt8} (h0 : l ≠ []) (h : l.all digB = true) : Lib.atoi l = some (numD l : Int) := by
  match l, h0, h with
  | c :: r, _, h =>
    have hc : 48 ≤ c.toNat ∧ c.toNat ≤ 57 := by
      rw [List.all_cons, Bool.and_eq_true] at h
      exact of_decide_eq_true h.1
    have n1 : (c == 45) = false := by rw [beq_eq_false_iff_ne]; rintro rfl; exact absurd hc.1 (by decide)
    have n2 : (c == 43) = false := by rw [beq_eq_false_iff_ne]; rintro rfl; exact absurd hc.1 (by decide)
    unfold Lib.atoi Lib.decNat
    dsimp only
    rw [n1, n2, if_neg (by decide), if_neg (by decide)]
    rw [decFrom_digits _ _ h]
    rfl
theorem rev_indU {α : Type} {P : List α → Prop} (h0 : P []) (h1 : ∀ l x, P l → P (l ++ [x])) (l : List α) : P l := by
  have h : ∀ l : List α, P l.reverse := by
    intro l
    induction l with
    | nil => exact h0
    | cons a l ih => rw [List.reverse_cons]; exact h1 _ _ ih
  simpa using h l.reverse
theorem numD_lt (l : List UInt8) (h : l.all digB = true) : numD l < 10 ^ l.length := by
  induction l using rev_indU with
  | h0 => decide
  | h1 l c ih =>
    rw [List.all_append, Bool.and_eq_true] at h
    have hc : 48 ≤ c.toNat ∧ c.toNat ≤ 57 := of_decide_eq_true (by simpa [digB] using h.2)
    have := ih h.1
    rw [numD_snoc, List.length_append, List.length_singleton, Nat.pow_succ]
    omega
/-- a port's digits; none: these may not be so -/
def portD (p : List UInt8) : Option Int := if p ≠ [] ∧ p.length ≤ 5 ∧ p.all digB = true then some (numD p : Int) else none
/-- a host, and its port -/
def placeL (sec : Bool) (r : List UInt8) : Option (List UInt8 × Int) :=
  if r.contains 58 then (portD (r.drop ((befL 58 r).length + 1))).map (fun n => (lower (befL 58 r), n)) else some (lower r, portOf sec)
/-- an origin out of a text -/
def originP (l : List UInt8) : Option (Bool × List UInt8 × Int) :=
  match schemeL l with
  | none => none
  | some (sec, r) => match placeL sec r with
    | none => none
    | some (h, n) => if hostOk h && portOk n then some (sec, h, n) else none
end Go.Proofs.Ytinlahahbhpppaa
