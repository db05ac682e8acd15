/- A list's words, piece by piece, as both sides find them. Plain lists; no program. -/
import Derived.Test.YtnfcdccdmlodeaaGreatDoorFoun2
import Derived.Test.YtnfcdccdmlodeaaGreatDoorFound
namespace Go.Proofs.YtnfcdccdmlodeaaGreatDoor

def wordOf (p : List UInt8) : List UInt8 := (p.dropWhile isBl).takeWhile tokB
def restOf (p : List UInt8) : List UInt8 := ((p.dropWhile isBl).dropWhile tokB).dropWhile isBl
/-- a list's words; or the place where something else stands -/
def listP : List (List UInt8) → Nat → List (List UInt8) → (List (List UInt8)) ⊕ Nat
  | [], _, acc => .inl acc
  | p :: ps, k, acc => if restOf p = [] then listP ps (k + p.length + 1) (if wordOf p = [] then acc else acc ++ [wordOf p]) else .inr (k + (p.length - (restOf p).length))
theorem dropW_drop (p : UInt8 → Bool) : ∀ l : List UInt8, l.drop (l.takeWhile p).length = l.dropWhile p
  | [] => rfl
  | a :: l => by
    rw [List.takeWhile_cons, List.dropWhile_cons]
    cases p a
    · rfl
    · simpa using dropW_drop p l
theorem takeW_drop (p : UInt8 → Bool) (l : List UInt8) (k : Nat) : (l.drop (k + (spanAt p l k).length)) = (l.drop k).dropWhile p := by
  unfold spanAt
  rw [← List.drop_drop, dropW_drop]
theorem tw_len (p : UInt8 → Bool) : ∀ l : List UInt8, (l.takeWhile p).length + (l.dropWhile p).length = l.length
  | [] => rfl
  | a :: l => by
    rw [List.takeWhile_cons, List.dropWhile_cons]
    have := tw_len p l
    cases p a
    · simp
    · simp only [if_true, List.length_cons]; omega
theorem dropW_stop {p : UInt8 → Bool} {c : UInt8} (h : p c = false) (y : List UInt8) : ∀ x : List UInt8, (x ++ c :: y).dropWhile p = x.dropWhile p ++ c :: y
  | [] => by simp [h]
  | a :: x => by
    rw [List.cons_append, List.dropWhile_cons, List.dropWhile_cons]
    cases p a
    · simp
    · simpa using dropW_stop h y x
theorem takeW_stop {p : UInt8 → Bool} {c : UInt8} (h : p c = false) (y : List UInt8) : ∀ x : List UInt8, (x ++ c :: y).takeWhile p = x.takeWhile p
  | [] => by simp [h]
  | a :: x => by
    rw [List.cons_append, List.takeWhile_cons, List.takeWhile_cons]
    cases p a
    · simp
    · simpa using takeW_stop h y x
theorem dropW_mem {p : UInt8 → Bool} {c : UInt8} {l : List UInt8} (h : c ∈ l.dropWhile p) : c ∈ l := (List.dropWhile_sublist _).subset h
/-- cut at the first c -/
theorem cutL_first (c : UInt8) : ∀ r : List UInt8, (cutL c r = [r] ∧ c ∉ r) ∨ ∃ p r', r = p ++ c :: r' ∧ c ∉ p ∧ cutL c r = p :: cutL c r'
  | [] => .inl ⟨rfl, by simp⟩
  | x :: l => by
    by_cases hx : x = c
    · subst hx
      exact .inr ⟨[], l, rfl, by simp, cutL_hit x l⟩
    · obtain ⟨p, r, h1, h2⟩ := cutL_skip hx l
      rcases cutL_first c l with ⟨e, hn⟩ | ⟨p', r', e, hn, e2⟩
      · rw [e] at h1; cases h1
        exact .inl ⟨h2, by simp [hn, Ne.symm hx]⟩
      · rw [e2] at h1; cases h1
        exact .inr ⟨x :: p, r', by rw [e]; rfl, by simp [hn, Ne.symm hx], h2⟩
theorem comma_bl : isBl 44 = false := by decide
theorem comma_tok : tokB 44 = false := by decide
/-- what the program finds from a place on -/
def thirdOf (r : List UInt8) : List UInt8 := ((r.dropWhile isBl).dropWhile tokB).dropWhile isBl
theorem list_prog (r : List UInt8) : ∃ p ps, cutL 44 r = p :: ps ∧ wordOf p = (r.dropWhile isBl).takeWhile tokB ∧ p.length - (restOf p).length = r.length - (thirdOf r).length ∧
    ((restOf p = [] ∧ ps = [] ∧ thirdOf r = [] ∧ p.length = r.length) ∨ (restOf p = [] ∧ ∃ r', thirdOf r = 44 :: r' ∧ ps = cutL 44 r' ∧ p.length + 1 + r'.length = r.length) ∨ (restOf p ≠ [] ∧ ∃ c t, thirdOf r = c :: t ∧ c ≠ 44)) := by
  rcases cutL_first 44 r with ⟨e, hn⟩ | ⟨p, r', e, hn, e2⟩
  · refine ⟨r, [], e, rfl, rfl, ?_⟩
    cases h : restOf r with
    | nil => exact .inl ⟨rfl, rfl, h, rfl⟩
    | cons c t =>
      refine .inr (.inr ⟨by simp, c, t, h, ?_⟩)
      intro hc
      have : c ∈ restOf r := by rw [h]; simp
      exact hn (hc ▸ dropW_mem (dropW_mem (dropW_mem this)))
  · have h3 : thirdOf r = restOf p ++ 44 :: r' := by
      unfold thirdOf restOf
      rw [e, dropW_stop comma_bl, dropW_stop comma_tok, dropW_stop comma_bl]
    have hlen : r.length = p.length + 1 + r'.length := by rw [e]; simp; omega
    have hrl : (restOf p).length ≤ p.length := ((List.dropWhile_sublist _).trans ((List.dropWhile_sublist _).trans (List.dropWhile_sublist _))).length_le
    refine ⟨p, cutL 44 r', e2, ?_, ?_, ?_⟩
    · unfold wordOf
      rw [e, dropW_stop comma_bl, takeW_stop comma_tok]
    · rw [h3, hlen]; simp; omega
    · cases h : restOf p with
      | nil => exact .inr (.inl ⟨rfl, r', by rw [h3, h]; rfl, rfl, hlen.symm⟩)
      | cons c t =>
        refine .inr (.inr ⟨by simp, c, t ++ 44 :: r', by rw [h3, h]; rfl, ?_⟩)
        intro hc
        have : c ∈ restOf p := by rw [h]; simp
        exact hn (hc ▸ dropW_mem (dropW_mem (dropW_mem this)))

/-! the document's way: a piece trimmed -/
theorem blCut : (fun c => ([32, 9] : List UInt8).contains c) = isBl := by
  funext c
  have : ∀ n : Fin 256, ([32, 9] : List UInt8).contains (UInt8.ofNat n.val) = isBl (UInt8.ofNat n.val) := by decide +kernel
  have h := this ⟨c.toNat, c.toNat_lt⟩
  simpa using h
theorem bl_tok (c : UInt8) (h : isBl c = true) : tokB c = false := by
  have : ∀ n : Fin 256, isBl (UInt8.ofNat n.val) = true → tokB (UInt8.ofNat n.val) = false := by decide +kernel
  have h' := this ⟨c.toNat, c.toNat_lt⟩
  simp only [UInt8.ofNat_toNat] at h'
  exact h' h
theorem dropW_all {p : UInt8 → Bool} {x : List UInt8} (h : x.all p = true) : x.dropWhile p = [] := dropWhile_nil.2 h
theorem dropW_app {p : UInt8 → Bool} {x y : List UInt8} (h : x.all p = true) : (x ++ y).dropWhile p = y.dropWhile p := by
  rw [List.dropWhile_append, dropW_all h]; rfl
theorem dropW_app' {p : UInt8 → Bool} {x y : List UInt8} (h : x.dropWhile p ≠ []) : (x ++ y).dropWhile p = x.dropWhile p ++ y := by
  rw [List.dropWhile_append]
  cases hx : x.dropWhile p with
  | nil => exact absurd hx h
  | cons a l => rfl
theorem tw_all (p : UInt8 → Bool) : ∀ x : List UInt8, (x.takeWhile p).all p = true
  | [] => rfl
  | a :: l => by
    rw [List.takeWhile_cons]
    cases h : p a
    · rfl
    · simp only [if_true, List.all_cons, h, Bool.true_and]; exact tw_all p l
/-- a piece: blanks, what is trimmed, blanks -/
theorem trim_parts (p : List UInt8) : ∃ lead trail, p = lead ++ Lib.trimS p [32, 9] ++ trail ∧ lead.all isBl = true ∧ trail.all isBl = true ∧
    (∀ c, (Lib.trimS p [32, 9]).head? = some c → isBl c = false) ∧ (∀ c, (Lib.trimS p [32, 9]).getLast? = some c → isBl c = false) := by
  have hu : Lib.trimS p [32, 9] = ((p.reverse.dropWhile isBl).reverse).dropWhile isBl := by
    unfold Lib.trimS Lib.trimLeftS Lib.trimRightS
    rw [blCut]
  obtain ⟨q, hq⟩ : ∃ q, q = (p.reverse.dropWhile isBl).reverse := ⟨_, rfl⟩
  have hp : p = q ++ (p.reverse.takeWhile isBl).reverse := by
    rw [hq, ← List.reverse_append, List.takeWhile_append_dropWhile, List.reverse_reverse]
  refine ⟨q.takeWhile isBl, (p.reverse.takeWhile isBl).reverse, ?_, tw_all _ _, by rw [List.all_reverse]; exact tw_all _ _, ?_, ?_⟩
  · rw [hu, ← hq, List.takeWhile_append_dropWhile]; exact hp
  · intro c hc
    rw [hu, ← hq] at hc
    cases hd : q.dropWhile isBl with
    | nil => rw [hd] at hc; cases hc
    | cons a r =>
      rw [hd] at hc
      cases hc
      exact dropWhile_head hd
  · intro c hc
    rw [hu, ← hq] at hc
    have hsuf : q = q.takeWhile isBl ++ q.dropWhile isBl := (List.takeWhile_append_dropWhile).symm
    have hl : q.getLast? = some c := by
      rw [hsuf, List.getLast?_append, hc]; rfl
    rw [hq, List.getLast?_reverse] at hl
    cases hd : p.reverse.dropWhile isBl with
    | nil => rw [hd] at hl; cases hl
    | cons a r =>
      rw [hd] at hl
      cases hl
      exact dropWhile_head hd
theorem trim_drop (p : List UInt8) : ∃ lead trail, p = lead ++ Lib.trimS p [32, 9] ++ trail ∧ lead.all isBl = true ∧ trail.all isBl = true ∧
    (Lib.trimS p [32, 9] = [] ∨ (p.dropWhile isBl = Lib.trimS p [32, 9] ++ trail ∧ ∃ c r, Lib.trimS p [32, 9] = c :: r ∧ isBl c = false)) ∧ (∀ c, (Lib.trimS p [32, 9]).getLast? = some c → isBl c = false) := by
  obtain ⟨lead, trail, h1, h2, h3, h4, h5⟩ := trim_parts p
  refine ⟨lead, trail, h1, h2, h3, ?_, h5⟩
  cases ht : Lib.trimS p [32, 9] with
  | nil => exact .inl rfl
  | cons c r =>
    rw [ht] at h1 h4
    have hc := h4 c rfl
    refine .inr ⟨?_, c, r, rfl, hc⟩
    conv => lhs; rw [h1]
    rw [List.append_assoc, dropW_app h2, List.cons_append, List.dropWhile_cons, if_neg (by simp [hc])]
theorem piece_empty {p : List UInt8} (h : Lib.trimS p [32, 9] = []) : wordOf p = [] ∧ restOf p = [] := by
  have ha : p.all isBl = true := by
    have := (trimS_nil p [32, 9]).1 h
    rwa [blCut] at this
  unfold wordOf restOf
  rw [dropW_all ha]
  exact ⟨rfl, rfl⟩
theorem tw_end {p q : UInt8 → Bool} {x : List UInt8} (h : x.all p = true) (hd : ∀ c, q c = true → p c = false) : x.takeWhile q = [] := by
  cases x with
  | nil => rfl
  | cons a r =>
    simp only [List.all_cons, Bool.and_eq_true] at h
    rw [List.takeWhile_cons]
    cases hq : q a
    · rfl
    · rw [hd a hq] at h; cases h.1
theorem tok_bl (c : UInt8) (h : tokB c = true) : isBl c = false := by
  cases hb : isBl c
  · rfl
  · rw [bl_tok c hb] at h; cases h
theorem dropW_end {p q : UInt8 → Bool} {x : List UInt8} (h : x.all p = true) (hd : ∀ c, q c = true → p c = false) : x.dropWhile q = x := by
  have := @List.takeWhile_append_dropWhile _ q x
  rw [tw_end h hd] at this
  exact this
theorem tw_app {p : UInt8 → Bool} {x y : List UInt8} (h : x.all p = true) : (x ++ y).takeWhile p = x ++ y.takeWhile p := by
  have hl := tw_len p x
  rw [dropW_all h, List.length_nil, Nat.add_zero] at hl
  rw [List.takeWhile_append, if_pos hl]
theorem tw_app' {p : UInt8 → Bool} {x y : List UInt8} (h : x.dropWhile p ≠ []) : (x ++ y).takeWhile p = x.takeWhile p := by
  rw [List.takeWhile_append, if_neg]
  intro e
  have hl := tw_len p x
  rw [e] at hl
  exact h (List.length_eq_zero_iff.1 (by omega))
theorem piece_word {p : List UInt8} (hw : tokW (Lib.trimS p [32, 9]) = true) : wordOf p = Lib.trimS p [32, 9] ∧ restOf p = [] := by
  obtain ⟨lead, trail, h1, h2, h3, h4, h5⟩ := trim_drop p
  unfold tokW at hw
  rw [Bool.and_eq_true] at hw
  rcases h4 with h4 | ⟨h4, c, r, ht, hc⟩
  · rw [h4] at hw; simp at hw
  · unfold wordOf restOf
    rw [h4, tw_app hw.2, tw_end h3 tok_bl, List.append_nil, dropW_app hw.2, dropW_end h3 tok_bl, dropW_all h3]
    exact ⟨rfl, rfl⟩
/-- where a trimmed piece is no word: how far its word and what is blank behind it reach -/
def reachOf (t : List UInt8) : Nat := if (t.takeWhile tokB).length = 0 then 0 else (t.takeWhile tokB).length + ((t.dropWhile tokB).takeWhile isBl).length
theorem getLast_dropW {p : UInt8 → Bool} : ∀ {t : List UInt8}, t.dropWhile p ≠ [] → (t.dropWhile p).getLast? = t.getLast?
  | [], h => absurd rfl h
  | a :: l, h => by
    rw [List.dropWhile_cons] at h ⊢
    cases hp : p a
    · rw [hp] at h; rfl
    · rw [hp] at h
      rw [if_pos rfl] at h ⊢
      rw [getLast_dropW h]
      cases l with
      | nil => exact absurd rfl h
      | cons b r => rw [List.getLast?_cons_cons]
theorem rest_ne {t : List UInt8} (hd : t.dropWhile tokB ≠ []) (hl : ∀ c, t.getLast? = some c → isBl c = false) : (t.dropWhile tokB).dropWhile isBl ≠ [] := by
  intro e
  have ha := dropWhile_nil.1 e
  obtain ⟨c, hc⟩ : ∃ c, (t.dropWhile tokB).getLast? = some c := by
    cases h : t.dropWhile tokB with
    | nil => exact absurd h hd
    | cons a r => exact ⟨_, List.getLast?_eq_some_getLast (by simp)⟩
  have h1 := hl c (by rw [← getLast_dropW hd]; exact hc)
  have h2 := List.all_eq_true.1 ha c (List.mem_of_getLast? hc)
  rw [h1] at h2; cases h2
theorem index_lead (lead t trail : List UInt8) (h2 : lead.all isBl = true) (c : UInt8) (r : List UInt8) (ht : t = c :: r) (hc : isBl c = false) : Lib.index (lead ++ t ++ trail) t = (lead.length : Int) := by
  refine Lib.index_first (by simp) ?_ ?_
  · unfold Lib.occAt
    rw [List.append_assoc, List.drop_left, List.isPrefixOf_iff_prefix]
    exact List.prefix_append _ _
  · intro j hj
    unfold Lib.occAt
    rw [ht]
    cases hb : (c :: r).isPrefixOf ((lead ++ c :: r ++ trail).drop j) with
    | false => rfl
    | true =>
      exfalso
      rw [List.isPrefixOf_iff_prefix] at hb
      obtain ⟨z, hz⟩ := hb
      have hlt : j < (lead ++ c :: r ++ trail).length := by simp; omega
      rw [List.drop_eq_getElem_cons hlt] at hz
      have e : c = (lead ++ c :: r ++ trail)[j] := by
        rw [List.cons_append] at hz
        exact (List.cons.inj hz).1
      rw [List.getElem_append_left (by simp; omega), List.getElem_append_left hj] at e
      have := List.all_eq_true.1 h2 _ (List.getElem_mem hj)
      rw [← e, hc] at this; cases this
theorem piece_bad {p : List UInt8} (hn : Lib.trimS p [32, 9] ≠ []) (hw : tokW (Lib.trimS p [32, 9]) = false) :
    restOf p ≠ [] ∧ ∃ k : Nat, Lib.index p (Lib.trimS p [32, 9]) = (k : Int) ∧ k ≤ p.length ∧ p.length - (restOf p).length = k + reachOf (Lib.trimS p [32, 9]) := by
  obtain ⟨lead, trail, h1, h2, h3, h4, h5⟩ := trim_drop p
  obtain ⟨t, ht⟩ : ∃ t, t = Lib.trimS p [32, 9] := ⟨_, rfl⟩
  rw [← ht] at hn hw h1 h4 h5 ⊢
  rcases h4 with h4 | ⟨h4, c, r, hcr, hc⟩
  · exact absurd h4 hn
  have hall : t.all tokB = false := by
    unfold tokW at hw
    cases h : t.all tokB
    · rfl
    · rw [h] at hw; simp at hw; exact absurd hw hn
  have hd : t.dropWhile tokB ≠ [] := by
    intro e
    rw [dropWhile_nil] at e
    rw [e] at hall; cases hall
  have hr := rest_ne hd h5
  have e3 : restOf p = (t.dropWhile tokB).dropWhile isBl ++ trail := by
    unfold restOf
    rw [h4, dropW_app' hd, dropW_app' hr]
  refine ⟨by rw [e3]; simp [hr], lead.length, ?_, by rw [h1]; simp, ?_⟩
  · conv => lhs; rw [h1]
    exact index_lead lead t trail h2 c r hcr hc
  · have l1 := tw_len tokB t
    have l2 := tw_len isBl (t.dropWhile tokB)
    have lp : p.length = lead.length + t.length + trail.length := by
      conv => lhs; rw [h1]
      rw [List.length_append, List.length_append]
    rw [e3, List.length_append, lp]
    unfold reachOf
    split
    · rename_i h0
      have e0 : t.takeWhile tokB = [] := List.length_eq_zero_iff.1 h0
      have ed : t.dropWhile tokB = t := by
        have := @List.takeWhile_append_dropWhile _ tokB t
        rw [e0] at this; exact this
      have eb : (t.dropWhile tokB).dropWhile isBl = t := by rw [ed, hcr, List.dropWhile_cons, if_neg (by simp [hc])]
      rw [eb]; omega
    · omega
end Go.Proofs.YtnfcdccdmlodeaaGreatDoor
