/- A header's challenges, as both sides find them: positions in a text. Plain lists; no program. -/
import Derived.Test.YthmkilglidfdiaaDoorListP
import Derived.Test.YthmkilglidfdiaaDoorFound
namespace Go.Proofs.YthmkilglidfdiaaDoor

def isGap (c : UInt8) : Bool := isBl c || c == 44
def gapAt (l : List UInt8) (k : Nat) : Nat := k + (spanAt isGap l k).length
def blAt (l : List UInt8) (k : Nat) : Nat := k + (spanAt isBl l k).length
def wordL (l : List UInt8) (k : Nat) : List UInt8 := spanAt tokB l k
def wEnd (l : List UInt8) (k : Nat) : Nat := k + (wordL l k).length
/-- the end, or a comma, stands at k -/
def stopB (l : List UInt8) (k : Nat) : Bool := match l.drop k with
  | [] => true
  | c :: _ => c == 44
/-- this byte stands at k -/
def markB (l : List UInt8) (k : Nat) (c : UInt8) : Bool := match l.drop k with
  | [] => false
  | x :: _ => x == c
/-- a byte of a token that stands alone -/
def loneB (c : UInt8) : Bool := decide (97 ≤ c.toNat ∧ c.toNat ≤ 122 ∨ 65 ≤ c.toNat ∧ c.toNat ≤ 90 ∨ 48 ≤ c.toNat ∧ c.toNat ≤ 57) || [45, 46, 95, 126, 43, 47].contains c
/-- the token that stands alone at k, and where it is over: as the program finds it -/
def loneAt (l : List UInt8) (k : Nat) : Option (List UInt8 × Nat) :=
  let x := spanAt loneB l k
  let e := spanAt (· == 61) l (k + x.length)
  let j := blAt l (k + x.length + e.length)
  if x ≠ [] ∧ stopB l j = true then some (x ++ e, j) else none
def rtrim (p : UInt8 → Bool) (l : List UInt8) : List UInt8 := (l.reverse.dropWhile p).reverse
/-- as the document finds it -/
def loneRef (l : List UInt8) (k : Nat) : Option (List UInt8 × Nat) :=
  let seg := (l.drop k).takeWhile (fun c => c != 44)
  let w := rtrim isBl seg
  let body := rtrim (· == 61) w
  if body ≠ [] ∧ body.all loneB = true then some (w, k + seg.length) else none
theorem rtrim_parts (p : UInt8 → Bool) (l : List UInt8) : ∃ y, l = rtrim p l ++ y ∧ y.all p = true := by
  refine ⟨(l.reverse.takeWhile p).reverse, ?_, by rw [List.all_reverse]; exact tw_all _ _⟩
  unfold rtrim
  rw [← List.reverse_append, List.takeWhile_append_dropWhile, List.reverse_reverse]
theorem rtrim_app {p : UInt8 → Bool} {x y : List UInt8} (hy : y.all p = true) (hx : ∀ c, x.getLast? = some c → p c = false) : rtrim p (x ++ y) = x := by
  unfold rtrim
  rw [List.reverse_append, dropW_app (by rw [List.all_reverse]; exact hy)]
  have : x.reverse.dropWhile p = x.reverse := by
    cases h : x.reverse with
    | nil => rfl
    | cons c r =>
      have hc : x.getLast? = some c := by rw [← List.head?_reverse, h]; rfl
      rw [List.dropWhile_cons, if_neg (by simp [hx c hc])]
  rw [this, List.reverse_reverse]
theorem byte_all {q : UInt8 → Prop} [DecidablePred q] (h : ∀ n : Fin 256, q (UInt8.ofNat n.val)) (c : UInt8) : q c := by
  have := h ⟨c.toNat, c.toNat_lt⟩
  simpa using this
theorem lone_eq (c : UInt8) (h : (c == 61) = true) : loneB c = false := byte_all (q := fun c => (c == 61) = true → loneB c = false) (by decide +kernel) c h
theorem lone_bl (c : UInt8) (h : isBl c = true) : loneB c = false := byte_all (q := fun c => isBl c = true → loneB c = false) (by decide +kernel) c h
theorem eq_bl (c : UInt8) (h : isBl c = true) : (c == 61) = false := byte_all (q := fun c => isBl c = true → (c == 61) = false) (by decide +kernel) c h
theorem bl_of_eq (c : UInt8) (h : (c == 61) = true) : isBl c = false := byte_all (q := fun c => (c == 61) = true → isBl c = false) (by decide +kernel) c h
theorem bl_of_lone (c : UInt8) (h : loneB c = true) : isBl c = false := byte_all (q := fun c => loneB c = true → isBl c = false) (by decide +kernel) c h
theorem eq_of_lone (c : UInt8) (h : loneB c = true) : (c == 61) = false := byte_all (q := fun c => loneB c = true → (c == 61) = false) (by decide +kernel) c h
theorem last_mem {x : List UInt8} {c : UInt8} (h : x.getLast? = some c) : c ∈ x := List.mem_of_getLast? h
/-- a text up to its first comma -/
theorem seg_cut (r : List UInt8) : ∃ t, r = r.takeWhile (fun c => c != 44) ++ t ∧ (t = [] ∨ ∃ t', t = 44 :: t') := by
  refine ⟨r.dropWhile (fun c => c != 44), (List.takeWhile_append_dropWhile).symm, ?_⟩
  cases h : r.dropWhile (fun c => c != 44) with
  | nil => exact .inl rfl
  | cons a t =>
    have := dropWhile_head h
    have ha : a = 44 := by simpa using this
    exact .inr ⟨t, by rw [ha]⟩
theorem take_seg {p : UInt8 → Bool} (hp : p 44 = false) {s t : List UInt8} (ht : t = [] ∨ ∃ t', t = 44 :: t') : (s ++ t).takeWhile p = s.takeWhile p ∧ (s ++ t).dropWhile p = s.dropWhile p ++ t := by
  rcases ht with rfl | ⟨t', rfl⟩
  · simp
  · exact ⟨takeW_stop hp _ _, dropW_stop hp _ _⟩
theorem lone_same (l : List UInt8) (k : Nat) : loneRef l k = loneAt l k := by
  obtain ⟨t, hr, ht⟩ := seg_cut (l.drop k)
  obtain ⟨seg, hseg⟩ : ∃ seg, seg = (l.drop k).takeWhile (fun c => c != 44) := ⟨_, rfl⟩
  rw [← hseg] at hr
  have hns : 44 ∉ seg := by
    intro h
    rw [hseg] at h
    have := List.all_eq_true.1 (tw_all (fun c => c != 44) (l.drop k)) 44 h
    simp at this
  have l1 : (44 : UInt8) = 44 := rfl
  have hx : spanAt loneB l k = seg.takeWhile loneB := by unfold spanAt; rw [hr]; exact (take_seg (by decide) ht).1
  have h1 : l.drop (k + (spanAt loneB l k).length) = seg.dropWhile loneB ++ t := by rw [takeW_drop, hr]; exact (take_seg (by decide) ht).2
  have he : spanAt (· == 61) l (k + (spanAt loneB l k).length) = (seg.dropWhile loneB).takeWhile (· == 61) := by
    unfold spanAt at h1 ⊢
    rw [h1]; exact (take_seg (by decide) ht).1
  have h2 : l.drop (k + (spanAt loneB l k).length + (spanAt (· == 61) l (k + (spanAt loneB l k).length)).length) = (seg.dropWhile loneB).dropWhile (· == 61) ++ t := by
    rw [takeW_drop, h1]; exact (take_seg (by decide) ht).2
  obtain ⟨x, hxe⟩ : ∃ x, x = seg.takeWhile loneB := ⟨_, rfl⟩
  obtain ⟨y, hye⟩ : ∃ y, y = seg.dropWhile loneB := ⟨_, rfl⟩
  have hxy : seg = x ++ y := by rw [hxe, hye, List.takeWhile_append_dropWhile]
  obtain ⟨e, hee⟩ : ∃ e, e = y.takeWhile (· == 61) := ⟨_, rfl⟩
  obtain ⟨z, hze⟩ : ∃ z, z = y.dropWhile (· == 61) := ⟨_, rfl⟩
  have hez : y = e ++ z := by rw [hee, hze, List.takeWhile_append_dropWhile]
  rw [hx, ← hxe] at h1 he h2
  rw [← hye] at h1 he h2
  rw [← hee] at he
  rw [he, ← hze] at h2
  have hxa : x.all loneB = true := by rw [hxe]; exact tw_all _ _
  have hea : e.all (· == 61) = true := by rw [hee]; exact tw_all _ _
  unfold loneAt loneRef
  simp only
  rw [← hseg, hx, ← hxe, he]
  have hb : spanAt isBl l (k + x.length + e.length) = z.takeWhile isBl := by
    unfold spanAt; rw [h2]; exact (take_seg comma_bl ht).1
  have hst : stopB l (blAt l (k + x.length + e.length)) = (z.dropWhile isBl).isEmpty := by
    unfold stopB blAt
    rw [takeW_drop, h2, (take_seg comma_bl ht).2]
    cases hz : z.dropWhile isBl with
    | nil => rcases ht with rfl | ⟨t', rfl⟩ <;> rfl
    | cons a r =>
      have ha : a ∈ seg := by
        rw [hxy, hez]
        have : a ∈ z.dropWhile isBl := by rw [hz]; simp
        exact List.mem_append_right _ (List.mem_append_right _ (dropW_mem this))
      simp only [List.cons_append, List.isEmpty_cons]
      rw [beq_eq_false_iff_ne]
      rintro rfl
      exact hns ha
  have hsegl : seg.length = x.length + e.length + z.length := by rw [hxy, hez]; simp; omega
  by_cases hyes : x ≠ [] ∧ (z.dropWhile isBl).isEmpty = true
  · obtain ⟨hx0, hz0⟩ := hyes
    have hza : z.all isBl = true := dropWhile_nil.1 (List.isEmpty_iff.1 hz0)
    have hw : rtrim isBl seg = x ++ e := by
      rw [hxy, hez, ← List.append_assoc]
      refine rtrim_app hza ?_
      intro c hc
      rcases List.mem_append.1 (last_mem hc) with h | h
      · exact bl_of_lone c (List.all_eq_true.1 hxa c h)
      · exact bl_of_eq c (List.all_eq_true.1 hea c h)
    have hbody : rtrim (· == 61) (x ++ e) = x := rtrim_app hea (fun c hc => eq_of_lone c (List.all_eq_true.1 hxa c (last_mem hc)))
    have hj : blAt l (k + x.length + e.length) = k + seg.length := by
      unfold blAt
      rw [hb, hsegl]
      have := tw_len isBl z
      rw [List.isEmpty_iff.1 hz0] at this
      simp only [List.length_nil] at this
      omega
    rw [hw, hbody, if_pos ⟨hx0, hxa⟩, if_pos ⟨hx0, by rw [hst]; exact hz0⟩, hj]
  · rw [if_neg (show ¬(x ≠ [] ∧ stopB l (blAt l (k + x.length + e.length)) = true) by rw [hst]; exact hyes), if_neg]
    rintro ⟨hb0, hba⟩
    apply hyes
    obtain ⟨b', hb1, hb2⟩ := rtrim_parts isBl seg
    obtain ⟨e', he1, he2⟩ := rtrim_parts (· == 61) (rtrim isBl seg)
    obtain ⟨bd, hbd⟩ : ∃ bd, bd = rtrim (· == 61) (rtrim isBl seg) := ⟨_, rfl⟩
    rw [← hbd] at hb0 hba he1
    have hsg : seg = bd ++ (e' ++ b') := by rw [hb1, he1]; simp
    have hnl : ∀ c, c ∈ e' ++ b' → loneB c = false := by
      intro c hc
      rcases List.mem_append.1 hc with h | h
      · exact lone_eq c (List.all_eq_true.1 he2 c h)
      · exact lone_bl c (List.all_eq_true.1 hb2 c h)
    have htw : (e' ++ b').takeWhile loneB = [] ∧ (e' ++ b').dropWhile loneB = e' ++ b' := by
      cases h : e' ++ b' with
      | nil => exact ⟨rfl, rfl⟩
      | cons a r =>
        have := hnl a (by rw [h]; simp)
        rw [List.takeWhile_cons, List.dropWhile_cons, this]
        exact ⟨rfl, rfl⟩
    have hxb : x = bd := by rw [hxe, hsg, tw_app hba, htw.1, List.append_nil]
    have hyb : y = e' ++ b' := by rw [hye, hsg, dropW_app hba, htw.2]
    have hzb : z = b'.dropWhile (· == 61) := by rw [hze, hyb, dropW_app he2]
    have hzb' : z = b' := by
      rw [hzb]
      exact dropW_end hb2 (fun c hc => bl_of_eq c hc)
    refine ⟨by rw [hxb]; exact hb0, ?_⟩
    rw [hzb', dropW_all hb2]; rfl

/-! the machine -/
abbrev PPar := List UInt8 × List UInt8
structure PChal where
  scheme : List UInt8
  token : List UInt8
  params : List PPar
/-- an error's number, and its place; or what comes of it -/
abbrev Res (α : Type) := (Int × Nat) ⊕ α
def sameL (a b : List UInt8) : Bool := lower a == lower b
def paramAt (l : List UInt8) (k : Nat) (ps : List PPar) : Res (Nat × List PPar) :=
  let k2 := blAt l (wEnd l k)
  if wordL l k = [] ∨ markB l k2 61 = false then .inl (3, k2)
  else
    let k3 := blAt l (k2 + 1)
    let v : Option (List UInt8 × Nat) := if wordL l k3 = [] then quotedAt l k3 else some (wordL l k3, wEnd l k3)
    match v with
    | none => .inl (3, k3)
    | some (v, k4) =>
      if ps.any (fun q => sameL q.1 (wordL l k)) = true then .inl (9, k)
      else if ps.length = 16 then .inl (4, k)
      else .inr (k4, ps ++ [(wordL l k, v)])
/-- a parameter is named at k -/
def namedB (l : List UInt8) (k : Nat) : Bool := wordL l k != [] && markB l (blAt l (wEnd l k)) 61
def paramsGo (l : List UInt8) : Nat → Nat → List PPar → Res (Nat × List PPar)
  | 0, k, ps => .inr (k, ps)
  | f + 1, k, ps => match paramAt l k ps with
    | .inl e => .inl e
    | .inr (k4, ps') =>
      if stopB l (blAt l k4) = false then .inl (3, blAt l k4)
      else if namedB l (gapAt l (blAt l k4)) = true then paramsGo l f (gapAt l (blAt l k4)) ps'
      else .inr (gapAt l (blAt l k4), ps')
def oneAt (l : List UInt8) (k cnt : Nat) : Res (Nat × PChal) :=
  if wordL l k = [] then .inl (3, k)
  else if cnt = 8 then .inl (4, k)
  else
    let k2 := blAt l (wEnd l k)
    if stopB l k2 = true then .inr (k2, ⟨wordL l k, [], []⟩)
    else if k2 = wEnd l k then .inl (3, k2)
    else match loneAt l k2 with
      | some (t, e) => .inr (e, ⟨wordL l k, t, []⟩)
      | none => match paramsGo l (l.length + 1 - k2) k2 [] with
        | .inl e => .inl e
        | .inr (e, ps) => .inr (e, ⟨wordL l k, [], ps⟩)
def parseGo (l : List UInt8) : Nat → Nat → List PChal → Res (List PChal)
  | 0, _, acc => .inr acc
  | f + 1, k, acc =>
    if l.length ≤ gapAt l k then .inr acc
    else match oneAt l (gapAt l k) acc.length with
      | .inl e => .inl e
      | .inr (k', x) => parseGo l f k' (acc ++ [x])
def parseL (l : List UInt8) : Res (List PChal) := parseGo l (l.length + 1) 0 []
theorem gapAt_le (l : List UInt8) (k : Nat) (h : k ≤ l.length) : gapAt l k ≤ l.length := by
  have := spanAt_len isGap l k
  unfold gapAt; omega
theorem blAt_le (l : List UInt8) (k : Nat) (h : k ≤ l.length) : blAt l k ≤ l.length := by
  have := spanAt_len isBl l k
  unfold blAt; omega
theorem wEnd_le (l : List UInt8) (k : Nat) (h : k ≤ l.length) : wEnd l k ≤ l.length := by
  have := spanAt_len tokB l k
  unfold wEnd wordL; omega
theorem le_blAt (l : List UInt8) (k : Nat) : k ≤ blAt l k := Nat.le_add_right _ _
theorem le_gapAt (l : List UInt8) (k : Nat) : k ≤ gapAt l k := Nat.le_add_right _ _
theorem le_wEnd (l : List UInt8) (k : Nat) : k ≤ wEnd l k := Nat.le_add_right _ _
theorem markB_lt {l : List UInt8} {k : Nat} {c : UInt8} (h : markB l k c = true) : k < l.length := by
  unfold markB at h
  by_cases hk : k < l.length
  · exact hk
  · rw [List.drop_eq_nil_of_le (by omega)] at h; cases h
theorem markB_at {l : List UInt8} {k : Nat} (c : UInt8) (h : k < l.length) : markB l k c = (l[k] == c) := by
  unfold markB; rw [List.drop_eq_getElem_cons h]
theorem stopB_at {l : List UInt8} {k : Nat} (h : k < l.length) : stopB l k = (l[k] == 44) := by
  unfold stopB; rw [List.drop_eq_getElem_cons h]
theorem stopB_end {l : List UInt8} {k : Nat} (h : l.length ≤ k) : stopB l k = true := by
  unfold stopB; rw [List.drop_eq_nil_of_le h]
end Go.Proofs.YthmkilglidfdiaaDoor
