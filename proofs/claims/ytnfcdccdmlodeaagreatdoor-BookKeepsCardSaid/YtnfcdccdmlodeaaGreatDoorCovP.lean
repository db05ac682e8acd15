/- Whether passes allow a request: the two ways, plain lists. No program. -/
import Derived.Test.YtnfcdccdmlodeaaGreatDoorAsksP
namespace Go.Proofs.YtnfcdccdmlodeaaGreatDoor
/-- a pass: its method, its header's name -/
abbrev Pas := List UInt8 × List UInt8
def authL : List UInt8 := [97, 117, 116, 104, 111, 114, 105, 122, 97, 116, 105, 111, 110]
/-- a pass meets the method -/
def metM (wth : Bool) (m : List UInt8) (p : Pas) : Bool := p.1 == m || (p.1 == [42] && !wth)
/-- a pass meets a header's name -/
def metH (wth : Bool) (h : List UInt8) (p : Pas) : Bool := p.2 == h || (p.2 == [42] && !wth && h != authL)
/-- as the program asks -/
def covProg (simple : Bool) (m : List UInt8) (asked : List (List UInt8)) (wth : Bool) (l : List Pas) : Bool :=
  (simple || l.any (metM wth m)) && asked.all (fun h => l.any (metH wth h))
/-- the document's keys: what is left to be met -/
def keys0 (simple : Bool) (m : List UInt8) (asked : List (List UInt8)) : List (List UInt8) := (if simple = true then [] else [109 :: m]) ++ asked.map (fun h => 104 :: h)
/-- a pass does away with a key -/
def gone (wth : Bool) (p : Pas) (k : List UInt8) : Bool :=
  k == 109 :: p.1 || k == 104 :: p.2 || (!wth && ((p.1 == [42] && k.head? == some 109) || (p.2 == [42] && k.head? == some 104 && k != 104 :: authL)))
def leftL (wth : Bool) (l : List Pas) (ks : List (List UInt8)) : List (List UInt8) := l.foldl (fun ks p => ks.filter (fun k => !gone wth p k)) ks
def covRef (simple : Bool) (m : List UInt8) (asked : List (List UInt8)) (wth : Bool) (l : List Pas) : Bool := (leftL wth l (keys0 simple m asked)).isEmpty
theorem left_eq (wth : Bool) : ∀ (l : List Pas) (ks : List (List UInt8)), leftL wth l ks = ks.filter (fun k => !l.any (fun p => gone wth p k))
  | [], ks => by
    unfold leftL
    rw [List.foldl_nil]
    exact (List.filter_eq_self.2 (fun _ _ => rfl)).symm
  | p :: l, ks => by
    have ih := left_eq wth l (ks.filter (fun k => !gone wth p k))
    unfold leftL at *
    rw [List.foldl_cons, ih, List.filter_filter]
    congr 1
    funext k
    rw [List.any_cons]
    cases gone wth p k <;> cases l.any (fun p => gone wth p k) <;> rfl
theorem gone_m (wth : Bool) (m : List UInt8) (p : Pas) : gone wth p (109 :: m) = metM wth m p := by
  have e1 : (109 :: m == 104 :: p.2) = false := by rw [beq_eq_false_iff_ne]; intro h; exact absurd (List.cons.inj h).1 (by decide)
  have e2 : (109 :: m == 109 :: p.1) = (p.1 == m) := by
    rw [Bool.eq_iff_iff, beq_iff_eq, beq_iff_eq]
    exact ⟨fun h => (List.cons.inj h).2.symm, fun h => by rw [h]⟩
  have e3 : ((109 :: m).head? == some 104) = false := by rw [beq_eq_false_iff_ne]; intro h; exact absurd (Option.some.inj h) (by decide)
  have e4 : ((109 :: m).head? == some 109) = true := by simp
  unfold gone metM
  rw [e1, e2, e3, e4]
  cases (p.1 == m) <;> cases (p.1 == [42]) <;> cases (p.2 == [42]) <;> cases wth <;> rfl
theorem gone_h (wth : Bool) (h : List UInt8) (p : Pas) : gone wth p (104 :: h) = metH wth h p := by
  have e1 : (104 :: h == 109 :: p.1) = false := by rw [beq_eq_false_iff_ne]; intro e; exact absurd (List.cons.inj e).1 (by decide)
  have e2 : (104 :: h == 104 :: p.2) = (p.2 == h) := by
    rw [Bool.eq_iff_iff, beq_iff_eq, beq_iff_eq]
    exact ⟨fun e => (List.cons.inj e).2.symm, fun e => by rw [e]⟩
  have e3 : ((104 :: h).head? == some 109) = false := by rw [beq_eq_false_iff_ne]; intro e; exact absurd (Option.some.inj e) (by decide)
  have e4 : ((104 :: h).head? == some 104) = true := by simp
  have e5 : (104 :: h != 104 :: authL) = (h != authL) := by
    have e6 : (104 :: h == 104 :: authL) = (h == authL) := by
      rw [Bool.eq_iff_iff, beq_iff_eq, beq_iff_eq]
      exact ⟨fun e => (List.cons.inj e).2, fun e => by rw [e]⟩
    unfold bne
    rw [e6]
  unfold gone metH
  rw [e1, e2, e3, e4, e5]
  cases (p.2 == h) <;> cases (p.1 == [42]) <;> cases (p.2 == [42]) <;> cases wth <;> cases (h != authL) <;> rfl
theorem cov_same (simple : Bool) (m : List UInt8) (asked : List (List UInt8)) (wth : Bool) (l : List Pas) : covRef simple m asked wth l = covProg simple m asked wth l := by
  unfold covRef covProg
  rw [left_eq]
  have e : ∀ ks : List (List UInt8), (ks.filter (fun k => !l.any (fun p => gone wth p k))).isEmpty = ks.all (fun k => l.any (fun p => gone wth p k)) := by
    intro ks
    induction ks with
    | nil => rfl
    | cons k ks ih =>
      rw [List.filter_cons, List.all_cons]
      cases hk : l.any (fun p => gone wth p k)
      · rfl
      · simpa using ih
  rw [e]
  unfold keys0
  rw [List.all_append, List.all_map]
  have e2 : (fun k => l.any (fun p => gone wth p k)) ∘ (fun h => 104 :: h) = fun h => l.any (metH wth h) := by
    funext h
    simp only [Function.comp]
    congr 1
    funext p
    exact gone_h wth h p
  rw [e2]
  cases simple
  · simp only [Bool.false_eq_true, if_false, List.all_cons, List.all_nil, Bool.and_true, Bool.false_or]
    rw [show (fun p => gone wth p (109 :: m)) = metM wth m from funext (gone_m wth m)]
  · simp
/-- where nothing is known -/
theorem cov_nil (simple : Bool) (m : List UInt8) (asked : List (List UInt8)) (wth : Bool) : covProg simple m asked wth [] = (simple && asked.isEmpty) := by
  unfold covProg
  cases asked <;> simp
end Go.Proofs.YtnfcdccdmlodeaaGreatDoor
