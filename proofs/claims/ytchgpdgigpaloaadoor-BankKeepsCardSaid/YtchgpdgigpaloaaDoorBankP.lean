/- A bank in plain words: what is put, found, used, swept. -/
import Derived.Test.YtchgpdgigpaloaaDoorGrantR
import Derived.Test.YtchgpdgigpaloaaDoorOrgE
import Derived.Lib.Strings
namespace Go.Proofs.YtchgpdgigpaloaaDoor
def withinB (path p : ByteArray) : Bool := Lib.hasPrefix path.data.toList p.data.toList
def graZero : GraD := ⟨⟨false, ⟨#[]⟩, 0⟩, false, ⟨#[]⟩, ⟨#[]⟩, askZero, 0, []⟩
def waiZero : WaiD := ⟨⟨false, ⟨#[]⟩, 0⟩, false, ⟨#[]⟩, askZero⟩
/-- whether a grant is an origin's -/
def ofB (o : Org) (p : Bool) (g : GraD) : Bool := orgE g.orig o && (g.proxy == p)
/-- whether a grant is an origin's, and of a realm -/
def keyG (o : Org) (p : Bool) (r : ByteArray) (g : GraD) : Bool := ofB o p g && (g.ask.realm.toList == r.toList)
def keyW (o : Org) (p : Bool) (x : WaiD) : Bool := orgE x.orig o && (x.proxy == p)
/-- one space more -/
def reachStep (path : ByteArray) (n : Int) (p : ByteArray) : Int := if withinB path p then max n (p.size : Int) else n
def reachL (path : ByteArray) (ps : List ByteArray) : Int := ps.foldl (reachStep path) (-1)
/-- how far a grant reaches -/
def reachB (o : Org) (p : Bool) (path : ByteArray) (g : GraD) : Int := if ofB o p g then reachL path g.paths else -1
/-- one grant more, by its place -/
def findStep (o : Org) (p : Bool) (path : ByteArray) (st : Int × Int) (x : GraD × Nat) : Int × Int :=
  if 0 ≤ reachB o p path x.1 ∧ st.1 ≤ reachB o p path x.1 then (reachB o p path x.1, (x.2 : Int)) else st
def findL (o : Org) (p : Bool) (path : ByteArray) (gs : List GraD) : Int × Int := gs.zipIdx.foldl (findStep o p path) (-1, -1)
def findB (o : Org) (p : Bool) (path : ByteArray) (gs : List GraD) : Int := (findL o p path gs).2
def bankDrop (o : Org) (p : Bool) (r : ByteArray) (gs : List GraD) : List GraD := gs.filter (fun g => !keyG o p r g)
def bankPut (g : GraD) (gs : List GraD) : List GraD := lastB 8 (bankDrop g.orig g.proxy g.ask.realm gs ++ [g])
def bankGet (o : Org) (p : Bool) (r : ByteArray) (gs : List GraD) : Option GraD := gs.find? (keyG o p r)
def bankTake (o : Org) (p : Bool) (ws : List WaiD) : List WaiD := ws.filter (fun x => !keyW o p x)
def bankGot (o : Org) (p : Bool) (ws : List WaiD) : Option WaiD := ws.find? (keyW o p)
def bankAsked (x : WaiD) (ws : List WaiD) : List WaiD := lastB 8 (bankTake x.orig x.proxy ws ++ [x])
def bankSweepG (o : Org) (gs : List GraD) : List GraD := gs.filter (fun g => !orgE g.orig o)
def bankSweepW (o : Org) (ws : List WaiD) : List WaiD := ws.filter (fun x => !orgE x.orig o)
abbrev GraD.more (g : GraD) : GraD := ⟨g.orig, g.proxy, g.user, g.pass, g.ask, g.count + 1, g.paths⟩
/-- the grants behind a use, the grant, what is wrong (0: nothing) -/
def bankUse (o : Org) (p : Bool) (path : ByteArray) (gs : List GraD) : List GraD × GraD × Int :=
  match gs[(findB o p path gs).toNat]? with
  | none => (gs, graZero, 8)
  | some g => if findB o p path gs < 0 then (gs, graZero, 8) else
      if 4294967295 ≤ g.count then (gs.eraseIdx (findB o p path gs).toNat, graZero, 12)
      else (gs.eraseIdx (findB o p path gs).toNat ++ [g.more], g.more, 0)
/-- what is in the space -/
def spaceL (a : AskD) (p : Bool) (dir : ByteArray) : List ByteArray := if p || (a.scheme != 1 && a.domain.isEmpty) then [⟨#[47]⟩] else if a.scheme == 1 then [dir] else a.domain

/-! ### Plain laws -/
theorem reach_ge (path : ByteArray) : ∀ (ps : List ByteArray) (n : Int), n ≤ ps.foldl (reachStep path) n
  | [], n => Int.le_refl n
  | p :: r, n => by
    refine Int.le_trans ?_ (reach_ge path r _)
    unfold reachStep
    split <;> omega
theorem zip_snoc {α : Type} (l : List α) (x : α) : (l ++ [x]).zipIdx = l.zipIdx ++ [(x, l.length)] := by
  rw [List.zipIdx_append]
  simp
theorem findL_snoc (o : Org) (p : Bool) (path : ByteArray) (l : List GraD) (g : GraD) : findL o p path (l ++ [g]) = findStep o p path (findL o p path l) (g, l.length) := by
  unfold findL
  rw [zip_snoc, List.foldl_append]
  rfl
/-- the place found is one of the list's, or none -/
theorem findL_range (o : Org) (p : Bool) (path : ByteArray) : ∀ (n : Nat) (l : List GraD), l.length = n → -1 ≤ (findL o p path l).1 ∧ ((findL o p path l).2 = -1 ∨ (0 ≤ (findL o p path l).2 ∧ (findL o p path l).2 < (l.length : Int))) := by
  intro n
  induction n with
  | zero =>
    intro l hl
    rw [List.length_eq_zero_iff.1 hl]
    exact ⟨Int.le_refl (-1), .inl rfl⟩
  | succ n ih =>
    intro l hl
    have hne : l ≠ [] := by rintro rfl; simp at hl
    have e := List.dropLast_concat_getLast hne
    have hld : l.dropLast.length = n := by rw [List.length_dropLast]; omega
    obtain ⟨h1, h2⟩ := ih l.dropLast hld
    rw [← e, findL_snoc]
    rw [List.length_append]
    generalize findL o p path l.dropLast = st at h1 h2 ⊢
    unfold findStep
    simp only [List.length_cons, List.length_nil]
    split
    · rename_i h
      exact ⟨by simp only; omega, .inr ⟨by simp only; omega, by simp only; omega⟩⟩
    · refine ⟨h1, ?_⟩
      rcases h2 with h2 | h2
      · exact .inl h2
      · exact .inr ⟨h2.1, by omega⟩
theorem findB_range (o : Org) (p : Bool) (path : ByteArray) (l : List GraD) : findB o p path l = -1 ∨ (0 ≤ findB o p path l ∧ findB o p path l < (l.length : Int)) := (findL_range o p path l.length l rfl).2
/-- the reference's round over a grant's spaces -/
def farStep (ok : Bool) (path : ByteArray) (i : Nat) (st : Int × Int) (p : ByteArray) : Int × Int := if ok && withinB path p && decide (st.1 ≤ (p.size : Int)) then ((p.size : Int), (i : Int)) else st
theorem far_no (path : ByteArray) (i : Nat) : ∀ (ps : List ByteArray) (st : Int × Int), ps.foldl (farStep false path i) st = st
  | [], _ => rfl
  | p :: r, st => by
    rw [List.foldl_cons]
    exact far_no path i r st
theorem far_go (path : ByteArray) (i : Nat) (st : Int × Int) : ∀ (ps : List ByteArray) (n : Int), -1 ≤ n →
    ps.foldl (farStep true path i) (if 0 ≤ n ∧ st.1 ≤ n then (n, (i : Int)) else st) = (if 0 ≤ ps.foldl (reachStep path) n ∧ st.1 ≤ ps.foldl (reachStep path) n then (ps.foldl (reachStep path) n, (i : Int)) else st)
  | [], n, _ => rfl
  | p :: r, n, hn => by
    rw [List.foldl_cons, List.foldl_cons]
    have hs : farStep true path i (if 0 ≤ n ∧ st.1 ≤ n then (n, (i : Int)) else st) p = (if 0 ≤ reachStep path n p ∧ st.1 ≤ reachStep path n p then (reachStep path n p, (i : Int)) else st) := by
      unfold farStep reachStep
      cases hw : withinB path p
      · simp
      · simp only [Bool.true_and, if_true]
        by_cases h1 : 0 ≤ n ∧ st.1 ≤ n
        · rw [if_pos h1]
          simp only
          by_cases h2 : n ≤ (p.size : Int)
          · rw [if_pos (by simpa using h2), if_pos (by omega), Int.max_eq_right h2]
          · rw [if_neg (by simpa using h2), if_pos (by omega), Int.max_eq_left (by omega)]
        · rw [if_neg h1]
          by_cases h2 : st.1 ≤ (p.size : Int)
          · rw [if_pos (by simpa using h2)]
            have : max n (p.size : Int) = p.size := by omega
            rw [this, if_pos (by omega)]
          · rw [if_neg (by simpa using h2), if_neg (by omega)]
    rw [hs]
    refine far_go path i st r _ ?_
    have := reach_ge path [p] n
    simp only [List.foldl_cons, List.foldl_nil] at this
    omega
theorem far_is (o : Org) (p : Bool) (path : ByteArray) (i : Nat) (st : Int × Int) (g : GraD) : g.paths.foldl (farStep (ofB o p g) path i) st = findStep o p path st (g, i) := by
  unfold findStep reachB
  cases h : ofB o p g
  · rw [far_no]
    simp
  · have := far_go path i st g.paths (-1) (by omega)
    rw [if_neg (by omega)] at this
    simpa [reachL] using this
/-- no two of what is waited for are one origin's -/
def OneW (ws : List WaiD) : Prop := ws.Pairwise (fun a b => keyW a.orig a.proxy b = false)
theorem keyW_iff (o : Org) (p : Bool) (x : WaiD) : keyW o p x = true ↔ x.orig = o ∧ x.proxy = p := by
  unfold keyW
  rw [Bool.and_eq_true, orgE_iff, beq_iff_eq]
theorem OneW.nil : OneW [] := List.Pairwise.nil
theorem OneW.take {ws : List WaiD} (h : OneW ws) (o : Org) (p : Bool) : OneW (bankTake o p ws) := List.Pairwise.filter _ h
theorem OneW.sweep {ws : List WaiD} (h : OneW ws) (o : Org) : OneW (bankSweepW o ws) := List.Pairwise.filter _ h
theorem OneW.asked {ws : List WaiD} (h : OneW ws) (x : WaiD) : OneW (bankAsked x ws) := by
  unfold bankAsked lastB
  refine List.Pairwise.drop ?_
  refine List.pairwise_append.2 ⟨h.take _ _, List.pairwise_singleton _ _, ?_⟩
  intro a ha b hb
  obtain rfl := List.mem_singleton.1 hb
  have := (List.mem_filter.1 ha).2
  cases e : keyW a.orig a.proxy b
  · rfl
  · have h2 := (keyW_iff _ _ _).1 e
    have h3 : keyW b.orig b.proxy a = true := (keyW_iff _ _ _).2 ⟨h2.1.symm, h2.2.symm⟩
    rw [h3] at this
    cases this
theorem sweep_two (o : Org) (ws : List WaiD) : bankTake o true (bankTake o false ws) = bankSweepW o ws := by
  unfold bankTake bankSweepW
  rw [List.filter_filter]
  apply List.filter_congr
  intro x _
  unfold keyW
  cases orgE x.orig o <;> cases x.proxy <;> rfl
theorem bankPut_len (g : GraD) (gs : List GraD) : (bankPut g gs).length ≤ 8 := by
  unfold bankPut lastB
  rw [List.length_drop]; omega
theorem bankAsked_len (x : WaiD) (ws : List WaiD) : (bankAsked x ws).length ≤ 8 := by
  unfold bankAsked lastB
  rw [List.length_drop]; omega
/-- one alone is an origin's: the first one gone, all are -/
theorem take_one {ws : List WaiD} (h : OneW ws) {k : Nat} (hk : k < ws.length) {o : Org} {p : Bool} (hy : keyW o p ws[k] = true) (hn : (ws.take k).any (keyW o p) = false) : ws.take k ++ ws.drop (k + 1) = bankTake o p ws ∧ bankGot o p ws = some ws[k] := by
  have hsplit : ws = ws.take k ++ (ws[k] :: ws.drop (k + 1)) := by rw [← List.drop_eq_getElem_cons hk, List.take_append_drop]
  have h1 : (ws.take k).filter (fun x => !keyW o p x) = ws.take k := by
    rw [List.filter_eq_self]
    intro x hx
    have := List.any_eq_false.1 hn x hx
    simp at this
    simp [this]
  have h2 : (ws.drop (k + 1)).filter (fun x => !keyW o p x) = ws.drop (k + 1) := by
    rw [List.filter_eq_self]
    intro x hx
    have hp := h
    unfold OneW at hp
    rw [hsplit, List.pairwise_append] at hp
    have := (List.pairwise_cons.1 hp.2.1).1 x hx
    have e := (keyW_iff _ _ _).1 hy
    rw [e.1, e.2] at this
    simp [this]
  constructor
  · unfold bankTake
    conv => rhs; rw [hsplit]
    rw [List.filter_append, h1, List.filter_cons]
    simp only [hy, Bool.not_true, Bool.false_eq_true, if_false, h2]
  · unfold bankGot
    conv => lhs; rw [hsplit]
    rw [List.find?_append]
    have : (ws.take k).find? (keyW o p) = none := by
      rw [List.find?_eq_none]
      intro x hx
      have := List.any_eq_false.1 hn x hx
      simpa using this
    rw [this, Option.none_or, List.find?_cons, hy]
theorem take_none {ws : List WaiD} {o : Org} {p : Bool} (hn : ws.any (keyW o p) = false) : bankTake o p ws = ws ∧ bankGot o p ws = none := by
  constructor
  · unfold bankTake
    rw [List.filter_eq_self]
    intro x hx
    have := List.any_eq_false.1 hn x hx
    simp at this
    simp [this]
  · unfold bankGot
    rw [List.find?_eq_none]
    intro x hx
    have := List.any_eq_false.1 hn x hx
    simpa using this
end Go.Proofs.YtchgpdgigpaloaaDoor
