/- cors.Age and the reference's Age: how long an answer counts. -/
import Derived.Test.YtnfcdccdmlodeaaGreatDoorSeconds
import Derived.Test.YtnfcdccdmlodeaaGreatDoorGet
namespace Go.Proofs.YtnfcdccdmlodeaaGreatDoor
open Go.ChangeShapes Go.WideShapes Go.ChangeAt Go.RowKit Go.WideElems

theorem same_lower' (a b c : ByteArray) (h : lower b.data.toList = lower c.data.toList) : same a b = same a c := by unfold same; rw [h]
theorem fieldOf_lower' (ps : List (ByteArray × ByteArray)) (b c : ByteArray) (h : lower b.data.toList = lower c.data.toList) : fieldOf ps b = fieldOf ps c := by
  have : valsOf ps b = valsOf ps c := by
    unfold valsOf
    congr 1
    exact List.filter_congr (fun p _ => same_lower' _ _ _ h)
  unfold fieldOf; rw [this]
def nAge : ByteArray := ⟨#[97, 99, 99, 101, 115, 115, 45, 99, 111, 110, 116, 114, 111, 108, 45, 109, 97, 120, 45, 97, 103, 101]⟩
def nAgeG : ByteArray := ⟨#[65, 99, 99, 101, 115, 115, 45, 67, 111, 110, 116, 114, 111, 108, 45, 77, 97, 120, 45, 65, 103, 101]⟩
theorem age_field (ps : List (ByteArray × ByteArray)) : fieldOf ps nAgeG = fieldOf ps nAge := fieldOf_lower' _ _ _ (by decide +kernel)
/-- how long an answer counts, by what its field says -/
def ageOf (s : ByteArray) (ok : Bool) : Int := if ok && secsOk s.data.toList then min (secs s.data.toList : Int) 600 else 5
theorem fieldOf_size (ps : List (ByteArray × ByteArray)) (name : ByteArray) (M : Nat) (hM : ∀ p ∈ ps, p.2.size ≤ M) : (fieldOf ps name).1.size ≤ ps.length * (M + 2) := by
  have := valsOf_take_sz M ps name ps.length hM
  rw [List.take_length] at this
  unfold fieldOf
  simp only
  rw [mk_len]; exact this

set_option maxRecDepth 100000 in
theorem corsAge (a : Option Addr) (cap : Nat) (ps : List (ByteArray × ByteArray)) (M : Nat) (w : World) (hP : ParAt w a ps) (hz : ParSz ps) (hl : ps.length ≤ 1048576)
    (hM : ∀ p ∈ ps, p.2.size ≤ M) (hM' : ps.length * (M + 2) ≤ 1099511627776) :
    Calls Tryz.prog 187 #[.slice a ps.length cap] w fun e w' => e = .returned (.int .i64 (ageOf (fieldOf ps nAge).1 (fieldOf ps nAge).2)) ∧ Below w.heap.size w w' := by
  have g1 := fun w' hP' => corsGet a cap ps nAgeG M w' hP' hz hl (by decide) hM (by omega)
  rw [age_field] at g1
  have hsz := Nat.le_trans (fieldOf_size ps nAge M hM) hM'
  clear hM hM' hl hz
  generalize (fieldOf ps nAge).1 = o at g1 hsz ⊢
  generalize (fieldOf ps nAge).2 = ok at g1 ⊢
  unfold nAgeG at g1
  have ts := fun w' => tokenSeconds o w' hsz
  cases ok
  · go_enter Tryz.func187, Tryz.ntmps187
    go_wp2_with fail
    refine (g1 _ hP).mono ?_
    rintro e w1 ⟨rfl, hB1⟩
    go_wp2
    go_ret
    exact ⟨by unfold ageOf; simp, hB1⟩
  · unfold secsRes at ts
    cases hok : secsOk o.data.toList
    all_goals
      rw [hok] at ts
      have hok' := Lib.hid hok
      clear hok
      go_enter Tryz.func187, Tryz.ntmps187
      go_wp2_with fail
      refine (g1 _ hP).mono ?_
      rintro e w1 ⟨rfl, hB1⟩
      go_wp2_with fail
      refine (ts _).mono ?_
      rintro e w2 ⟨rfl, hB2⟩
      have hB3 := hB1.then (Nat.le_refl _) hB2
      go_wp2
      go_ret
      exact ⟨by unfold ageOf; rw [hok'.out]; simp, hB3⟩

set_option maxRecDepth 100000 in
theorem refAge (a : Option Addr) (cap : Nat) (ps : List (ByteArray × ByteArray)) (M : Nat) (w : World) (hP : ParAt w a ps) (hz : ParSz ps) (hl : ps.length ≤ 1048576)
    (hM : ∀ p ∈ ps, p.2.size ≤ M) (hM' : ps.length * (M + 2) ≤ 1099511627776) (hMM : M ≤ 1099511627776) :
    Calls Tryz.prog 154 #[.slice a ps.length cap] w fun e w' => e = .returned (.int .i64 (ageOf (fieldOf ps nAge).1 (fieldOf ps nAge).2)) ∧ Below w.heap.size w w' := by
  have g1 := fun w' hP' => refFieldGet a cap ps nAge M w' hP' hz hl (by decide) hM (by omega) (by omega)
  have hsz := Nat.le_trans (fieldOf_size ps nAge M hM) hM'
  clear hM hM' hl hz hMM
  generalize (fieldOf ps nAge).1 = o at g1 hsz ⊢
  generalize (fieldOf ps nAge).2 = ok at g1 ⊢
  unfold nAge at g1
  have ts := fun w' => refSeconds o w' hsz
  have hle : (secs o.data.toList : Int) ≤ 2147483648 := by have := secs_le o.data.toList o.data.toList.length; rw [List.take_length] at this; omega
  unfold secsRes at ts
  cases ok
  all_goals
    cases hok : secsOk o.data.toList
    all_goals
      rw [hok] at ts
      have hok' := Lib.hid hok
      clear hok
      go_enter Tryz.func154, Tryz.ntmps154
      go_wp2_with fail
      refine (g1 _ hP).mono ?_
      rintro e w1 ⟨rfl, hB1⟩
      go_wp2_with fail
      refine (ts _).mono ?_
      rintro e w2 ⟨rfl, rfl⟩
      go_wp2
      all_goals
        go_ret
        exact ⟨ret_int (by unfold ageOf; rw [hok'.out]; simp; try omega), hB1⟩
end Go.Proofs.YtnfcdccdmlodeaaGreatDoor
