/- What a challenge asks for, and the strongest of several. Plain; no program. -/
import Derived.Test.YtdlhihfjigcimaaDoorAskV
import Derived.Test.YtdlhihfjigcimaaDoorFound
import Derived.Test.YtdlhihfjigcimaaDoorList
import Derived.Test.YtdlhihfjigcimaaDoorClean
namespace Go.Proofs.YtdlhihfjigcimaaDoor
open Go.RowKit
/-- a scheme by its name, and whether it is for a session -/
def algGo (s : ByteArray) : List ByteArray → Int → Option (Int × Bool)
  | [], _ => none
  | n :: r, k => if same s n then some (k, false) else if same s (n ++ (⟨#[45, 115, 101, 115, 115]⟩ : ByteArray)) then some (k, true) else algGo s r (k + 1)
def algNames : List ByteArray := [(⟨#[77, 68, 53]⟩ : ByteArray), (⟨#[83, 72, 65, 45, 50, 53, 54]⟩ : ByteArray)]
def algoOf (s : ByteArray) : Option (Int × Bool) := algGo s algNames 2
def hasW (ws : List (List UInt8)) (n : ByteArray) : Bool := ws.any (fun l => lower l == lower n.data.toList)
def qopStep (ws : List (List UInt8)) (acc n : ByteArray) : ByteArray := if hasW ws n then n else acc
def qopNames : List ByteArray := [(⟨#[97, 117, 116, 104, 45, 105, 110, 116]⟩ : ByteArray), (⟨#[97, 117, 116, 104]⟩ : ByteArray)]
def qopOf (ws : List (List UInt8)) : ByteArray := qopNames.foldl (qopStep ws) ⟨#[]⟩
/-- as the reference finds it -/
def refStep (acc : ByteArray) (l : List UInt8) : ByteArray :=
  if lower l == [97, 117, 116, 104] then (⟨#[97, 117, 116, 104]⟩ : ByteArray) else if lower l == [97, 117, 116, 104, 45, 105, 110, 116] then (if acc.toList.isEmpty then (⟨#[97, 117, 116, 104, 45, 105, 110, 116]⟩ : ByteArray) else acc) else acc
theorem qopOf_if (ws : List (List UInt8)) : qopOf ws = if hasW ws (⟨#[97, 117, 116, 104]⟩ : ByteArray) then (⟨#[97, 117, 116, 104]⟩ : ByteArray) else if hasW ws (⟨#[97, 117, 116, 104, 45, 105, 110, 116]⟩ : ByteArray) then (⟨#[97, 117, 116, 104, 45, 105, 110, 116]⟩ : ByteArray) else ⟨#[]⟩ := by
  simp only [qopOf, qopNames, List.foldl_cons, List.foldl_nil, qopStep]
theorem lower_auth : lower ((⟨#[97, 117, 116, 104]⟩ : ByteArray)).data.toList = [97, 117, 116, 104] := by decide +kernel
theorem lower_int : lower ((⟨#[97, 117, 116, 104, 45, 105, 110, 116]⟩ : ByteArray)).data.toList = [97, 117, 116, 104, 45, 105, 110, 116] := by decide +kernel
theorem rev_ind {α : Type} {P : List α → Prop} (h0 : P []) (h1 : ∀ l x, P l → P (l ++ [x])) (l : List α) : P l := by
  have h : ∀ l : List α, P l.reverse := by
    intro l
    induction l with
    | nil => exact h0
    | cons a l ih => rw [List.reverse_cons]; exact h1 _ _ ih
  simpa using h l.reverse
theorem ref_qop (ws : List (List UInt8)) : ws.foldl refStep ⟨#[]⟩ = qopOf ws := by
  induction ws using rev_ind with
  | h0 => rfl
  | h1 ws l ih =>
    rw [List.foldl_append, List.foldl_cons, List.foldl_nil, ih, qopOf_if, qopOf_if]
    unfold refStep hasW
    rw [lower_auth, lower_int, List.any_append, List.any_append]
    simp only [List.any_cons, List.any_nil, Bool.or_false]
    cases h1 : (lower l == [97, 117, 116, 104])
    · cases h2 : (lower l == [97, 117, 116, 104, 45, 105, 110, 116])
      · simp
      · cases h3 : ws.any (fun l => lower l == [97, 117, 116, 104])
        · cases h4 : ws.any (fun l => lower l == [97, 117, 116, 104, 45, 105, 110, 116])
          · simp
          · simp
        · simp
    · simp
def slashB (p : ByteArray) : Bool := p.data.toList.head? == some 47
def domOf (d : ByteArray) : List ByteArray := ((pieces 32 d).filter slashB).map cleanB
def qopRes (ps : List (ByteArray × ByteArray)) : Option ByteArray :=
  if (getOf ps (⟨#[113, 111, 112]⟩ : ByteArray)).2 then
    match listRes (getOf ps (⟨#[113, 111, 112]⟩ : ByteArray)).1.data.toList with
    | (ws, e, _) => if e ≠ 0 then none else if (qopOf ws).toList.isEmpty then none else some (qopOf ws)
  else some ⟨#[]⟩
def algName (ps : List (ByteArray × ByteArray)) : ByteArray := if (getOf ps (⟨#[97, 108, 103, 111, 114, 105, 116, 104, 109]⟩ : ByteArray)).2 then (getOf ps (⟨#[97, 108, 103, 111, 114, 105, 116, 104, 109]⟩ : ByteArray)).1 else (⟨#[77, 68, 53]⟩ : ByteArray)
/-- what a challenge of the scheme digest asks for -/
def knownD (sc : ByteArray) (ps : List (ByteArray × ByteArray)) (alg : Option (Int × Bool)) (q : Option ByteArray) : Option AskD :=
  match alg with
  | none => none
  | some (k, sess) =>
    if same sc (⟨#[100, 105, 103, 101, 115, 116]⟩ : ByteArray) = false then none
    else if (getOf ps (⟨#[110, 111, 110, 99, 101]⟩ : ByteArray)).2 = false then none
    else match q with
      | none => none
      | some q => some ⟨k, (getOf ps (⟨#[114, 101, 97, 108, 109]⟩ : ByteArray)).1, (getOf ps (⟨#[110, 111, 110, 99, 101]⟩ : ByteArray)).1, (getOf ps (⟨#[111, 112, 97, 113, 117, 101]⟩ : ByteArray)).1, sess, q, same (getOf ps (⟨#[115, 116, 97, 108, 101]⟩ : ByteArray)).1 (⟨#[116, 114, 117, 101]⟩ : ByteArray), domOf (getOf ps (⟨#[100, 111, 109, 97, 105, 110]⟩ : ByteArray)).1⟩
/-- what a challenge asks for, if it can be answered -/
def knownV (sc : ByteArray) (ps : List (ByteArray × ByteArray)) : Option AskD :=
  if (getOf ps (⟨#[114, 101, 97, 108, 109]⟩ : ByteArray)).2 = false then none
  else if same sc (⟨#[98, 97, 115, 105, 99]⟩ : ByteArray) then some { askZero with scheme := 1, realm := (getOf ps (⟨#[114, 101, 97, 108, 109]⟩ : ByteArray)).1 }
  else knownD sc ps (algoOf (algName ps)) (qopRes ps)
theorem algGo_range {s : ByteArray} {k : Int} {b : Bool} : ∀ {l : List ByteArray} {j : Int}, algGo s l j = some (k, b) → j ≤ k ∧ k < j + l.length
  | [], _, h => by cases h
  | n :: r, j, h => by
    unfold algGo at h
    rw [List.length_cons]
    split at h
    · cases h; omega
    · split at h
      · cases h; omega
      · have := algGo_range h; omega
theorem algoOf_range {s : ByteArray} {k : Int} {b : Bool} (h : algoOf s = some (k, b)) : 2 ≤ k ∧ k ≤ 3 := by
  have := algGo_range h
  simp only [algNames, List.length_cons, List.length_nil] at this
  omega
theorem knownV_scheme {sc : ByteArray} {ps : List (ByteArray × ByteArray)} {a : AskD} (h : knownV sc ps = some a) : 1 ≤ a.scheme ∧ a.scheme ≤ 3 := by
  unfold knownV at h
  split at h
  · cases h
  · split at h
    · cases h; exact ⟨by show (1 : Int) ≤ 1; omega, by show (1 : Int) ≤ 3; omega⟩
    · unfold knownD at h
      split at h
      · cases h
      · rename_i k sess hk
        have := algoOf_range hk
        split at h
        · cases h
        · split at h
          · cases h
          · split at h
            · cases h
            · cases h; exact ⟨by show (1 : Int) ≤ k; omega, this.2⟩
/-- the best of what is asked for: of those of the greatest scheme the first -/
def bestF (l : List (Option AskD)) : AskD := l.foldl (fun best x => match x with
  | some a => if best.scheme < a.scheme then a else best
  | none => best) askZero
def firstS (l : List (Option AskD)) (s : Int) : Option AskD := (l.find? (fun x => match x with
  | some a => a.scheme == s
  | none => false)).join
theorem bestF_snoc (l : List (Option AskD)) (x : Option AskD) : bestF (l ++ [x]) = match x with
    | some a => if (bestF l).scheme < a.scheme then a else bestF l
    | none => bestF l := by
  unfold bestF; rw [List.foldl_append]; rfl
theorem firstS_snoc (l : List (Option AskD)) (x : Option AskD) (s : Int) : firstS (l ++ [x]) s = match firstS l s with
    | some a => some a
    | none => match x with
      | some a => if a.scheme = s then some a else none
      | none => none := by
  unfold firstS
  rw [List.find?_append]
  cases h : l.find? (fun x => match x with | some a => a.scheme == s | none => false) with
  | none =>
    cases x with
    | none => simp
    | some a => by_cases e : a.scheme = s <;> simp [e]
  | some y =>
    have := List.find?_some h
    cases y with
    | none => simp at this
    | some a => simp
theorem firstS_is {l : List (Option AskD)} {s : Int} {a : AskD} (h : firstS l s = some a) : a.scheme = s ∧ some a ∈ l := by
  unfold firstS at h
  cases h2 : l.find? (fun x => match x with | some a => a.scheme == s | none => false) with
  | none => rw [h2] at h; cases h
  | some y =>
    rw [h2] at h
    have h3 := List.find?_some h2
    have h4 := List.mem_of_find?_eq_some h2
    cases y with
    | none => cases h
    | some b =>
      have : b = a := by simpa using h
      subst this
      exact ⟨by simpa using h3, h4⟩
/-- both ways to the best one -/
theorem best_two : ∀ (l : List (Option AskD)), (∀ a, some a ∈ l → 1 ≤ a.scheme ∧ a.scheme ≤ 3) →
    bestF l = (match firstS l 3 with
      | some a => a
      | none => match firstS l 2 with
        | some a => a
        | none => match firstS l 1 with
          | some a => a
          | none => askZero) := by
  intro l
  induction l using rev_ind with
  | h0 => intro _; rfl
  | h1 l x ih =>
    intro h
    have ih' := ih (fun a ha => h a (by simp [ha]))
    rw [bestF_snoc, firstS_snoc, firstS_snoc, firstS_snoc]
    cases h3 : firstS l 3 with
    | some a =>
      rw [h3] at ih'
      simp only at ih'
      have := (firstS_is h3).1
      cases x with
      | none => simpa using ih'
      | some b => 
        have := (h b (by simp)).2
        simp only
        rw [ih', if_neg (by omega)]
    | none =>
      rw [h3] at ih'
      simp only at ih'
      cases h2 : firstS l 2 with
      | some a =>
        rw [h2] at ih'
        simp only at ih'
        have := (firstS_is h2).1
        cases x with
        | none => simpa using ih'
        | some b =>
          have := (h b (by simp)).2
          simp only
          rw [ih']
          by_cases e : b.scheme = 3
          · rw [if_pos e, if_pos (by omega)]
          · rw [if_neg e, if_neg (by omega)]
      | none =>
        rw [h2] at ih'
        simp only at ih'
        cases h1 : firstS l 1 with
        | some a =>
          rw [h1] at ih'
          simp only at ih'
          have := (firstS_is h1).1
          cases x with
          | none => simpa using ih'
          | some b =>
            have := (h b (by simp))
            simp only
            rw [ih']
            by_cases e : b.scheme = 3
            · rw [if_pos e, if_pos (by omega)]
            · rw [if_neg e]
              by_cases e2 : b.scheme = 2
              · rw [if_pos e2, if_pos (by omega)]
              · rw [if_neg e2, if_neg (by omega)]
        | none =>
          rw [h1] at ih'
          simp only at ih'
          cases x with
          | none => simpa using ih'
          | some b =>
            have := (h b (by simp))
            simp only
            rw [ih', if_pos (by show (0 : Int) < _; omega)]
            by_cases e : b.scheme = 3
            · rw [if_pos e]
            · rw [if_neg e]
              by_cases e2 : b.scheme = 2
              · rw [if_pos e2]
              · rw [if_neg e2, if_pos (by omega)]
theorem listRes_few (l : List UInt8) : (listRes l).1.length ≤ 40 := by
  unfold listRes
  split
  · exact Nat.zero_le _
  · split
    · exact Nat.zero_le _
    · rename_i h; simp only; omega
theorem wordOf_len (p : List UInt8) : (wordOf p).length ≤ p.length := by
  unfold wordOf
  exact Nat.le_trans (List.takeWhile_sublist _).length_le (List.dropWhile_sublist _).length_le
theorem listP_sz {M : Nat} : ∀ {ps : List (List UInt8)} {k : Nat} {acc res : List (List UInt8)}, listP ps k acc = .inl res → (∀ p ∈ ps, p.length ≤ M) → (∀ a ∈ acc, a.length ≤ M) → ∀ r ∈ res, r.length ≤ M
  | [], _, acc, res, h, _, ha => by cases h; exact ha
  | p :: ps, k, acc, res, h, hp, ha => by
    unfold listP at h
    split at h
    · refine listP_sz h (fun q hq => hp q (by simp [hq])) ?_
      split
      · exact ha
      · intro a hm
        rcases List.mem_append.1 hm with h1 | h1
        · exact ha a h1
        · simp only [List.mem_singleton] at h1
          subst h1
          exact Nat.le_trans (wordOf_len p) (hp p (by simp))
    · cases h
theorem listRes_sz (s : ByteArray) : ∀ r ∈ (listRes s.data.toList).1, r.length ≤ s.size := by
  unfold listRes listL
  split
  · intro r hr; simp at hr
  · rename_i ws h
    split
    · intro r hr; simp at hr
    · refine listP_sz h ?_ (by simp)
      intro p hp
      rw [← pieces_datas] at hp
      obtain ⟨q, hq, rfl⟩ := List.mem_map.1 hp
      have := pieces_sz 44 s q hq
      rw [sz_len] at this; exact this
theorem datas_sz {ss : List ByteArray} {M : Nat} (h : ∀ r ∈ datas ss, r.length ≤ M) : ∀ s ∈ ss, s.size ≤ M := fun s hs => by
  rw [sz_len]; exact h _ (List.mem_map.2 ⟨s, hs, rfl⟩)
theorem any_same (ss : List ByteArray) (n : ByteArray) : ss.any (fun x => same x n) = hasW (datas ss) n := by
  unfold hasW datas; rw [List.any_map]; rfl
theorem fold_take {f : ByteArray → ByteArray → ByteArray} (ns : List ByteArray) (k : Nat) (h : k < ns.length) (z : ByteArray) : (ns.take (k + 1)).foldl f z = f ((ns.take k).foldl f z) ns[k] := by
  rw [List.take_succ_eq_append_getElem h, List.foldl_append]; rfl
def domTo (d : ByteArray) (k : Nat) : List ByteArray := (((pieces 32 d).take k).filter slashB).map cleanB
theorem domTo_no (d : ByteArray) (k : Nat) (h : k < (pieces 32 d).length) (hs : slashB (pieces 32 d)[k] = false) : domTo d (k + 1) = domTo d k := by
  unfold domTo; rw [List.take_succ_eq_append_getElem h, List.filter_append]; simp [hs]
theorem domTo_yes (d : ByteArray) (k : Nat) (h : k < (pieces 32 d).length) (hs : slashB (pieces 32 d)[k] = true) : domTo d (k + 1) = domTo d k ++ [cleanB (pieces 32 d)[k]] := by
  unfold domTo; rw [List.take_succ_eq_append_getElem h, List.filter_append]; simp [hs]
theorem domTo_len (d : ByteArray) (k : Nat) : (domTo d k).length ≤ k := by
  unfold domTo; rw [List.length_map]
  exact Nat.le_trans (List.length_filter_le _ _) (List.length_take_le _ _)
theorem domTo_all (d : ByteArray) : domTo d (pieces 32 d).length = domOf d := by unfold domTo domOf; rw [List.take_length]
theorem map_at (ss : List ByteArray) (k : Nat) (h : k < ss.length) : (ss.map Value.string).toArray[k]? = some (.string ss[k]) := by simp [h]
end Go.Proofs.YtdlhihfjigcimaaDoor
