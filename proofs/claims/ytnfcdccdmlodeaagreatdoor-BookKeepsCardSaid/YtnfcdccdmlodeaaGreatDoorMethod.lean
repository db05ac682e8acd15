/- fetch.Method and Simple, and the reference's: a method as it is sent. -/
import Derived.Test.YtnfcdccdmlodeaaGreatDoorFound
import Derived.Test.YtnfcdccdmlodeaaGreatDoorShelf
namespace Go.Proofs.YtnfcdccdmlodeaaGreatDoor
open Go.RowKit

def mDELETE : ByteArray := ⟨#[68, 69, 76, 69, 84, 69]⟩
def mGET : ByteArray := ⟨#[71, 69, 84]⟩
def mHEAD : ByteArray := ⟨#[72, 69, 65, 68]⟩
def mOPTIONS : ByteArray := ⟨#[79, 80, 84, 73, 79, 78, 83]⟩
def mPOST : ByteArray := ⟨#[80, 79, 83, 84]⟩
def mPUT : ByteArray := ⟨#[80, 85, 84]⟩
def meths : List ByteArray := [mDELETE, mGET, mHEAD, mOPTIONS, mPOST, mPUT]
/-- a method as it is sent -/
def methodOf (s : ByteArray) : ByteArray := match meths.find? (fun m => same s m) with
  | some m => m
  | none => s
def noneOf (s : ByteArray) (k : Nat) : Prop := ∀ m ∈ meths.take k, same s m = false
theorem noneOf_succ {s : ByteArray} {k : Nat} (h : noneOf s k) (hk : k < meths.length) (hs : same s meths[k] = false) : noneOf s (k + 1) := by
  intro p hp
  rw [List.take_succ_eq_append_getElem hk] at hp
  rcases List.mem_append.1 hp with h1 | h1
  · exact h p h1
  · simp at h1; subst h1; exact hs
theorem methodOf_hit {s : ByteArray} {k : Nat} (h : noneOf s k) (hk : k < meths.length) (hs : same s meths[k] = true) : methodOf s = meths[k] := by
  have : meths.find? (fun m => same s m) = some meths[k] := by
    rw [List.find?_eq_some_iff_getElem]
    refine ⟨hs, k, hk, rfl, fun j hj => ?_⟩
    have := h meths[j] (by rw [List.mem_take_iff_getElem]; exact ⟨j, by omega, rfl⟩)
    simp [this]
  unfold methodOf; rw [this]
theorem methodOf_miss {s : ByteArray} (h : noneOf s 6) : methodOf s = s := by
  unfold methodOf
  rw [List.find?_eq_none.2 (fun p hp => by simp [h p (show p ∈ meths.take 6 from hp)])]

set_option maxRecDepth 100000 in
theorem fetchMethod (s : ByteArray) (w : World) (hs : s.size ≤ maxLen) :
    Calls Tryz.prog 64 #[.string s] w fun e w' => e = .returned (.string (methodOf s)) ∧ Below w.heap.size w w' := by
  go_enter Tryz.func64, Tryz.ntmps64
  go_wp2
  go_loopw [7] (fun i wr => ∃ k : Nat, k ≤ 6 ∧ i = .int .i64 k ∧ Below (w.heap.size + 1) (w.alloc (Obj.cells (meths.map Value.string).toArray 9)) wr ∧ Hid (noneOf s k)) (fun i _ => 6 - (intOf i).toNat)
  case atStart => exact ⟨0, Nat.zero_le _, rfl, Below.refl _ _, Lib.hid (fun m hm => by simp at hm)⟩
  case round =>
    obtain ⟨k, hk, rfl, hB, hN⟩ := hrel
    have hB0 : Below w.heap.size w wr := below_box hB
    by_cases hlt : k < 6
    · have hlm : k < meths.length := hlt
      have hcell : wr.cell? ⟨w.heap.size, k, none⟩ = some (.string meths[k]) := box_cell hB k (by rw [List.getElem?_toArray, List.getElem?_map, List.getElem?_eq_getElem hlm]; rfl)
      have hm : meths[k].size ≤ maxLen := by
        have : ∀ m ∈ meths, m.size ≤ maxLen := by unfold maxLen; decide
        exact this _ (List.getElem_mem hlm)
      have H1 : Hid (same s meths[k] = true → methodOf s = meths[k]) := Lib.hid (fun h => methodOf_hit hN.out hlm h)
      have H2 : Hid (same s meths[k] = false → noneOf s (k + 1)) := Lib.hid (fun h => noneOf_succ hN.out hlm h)
      generalize meths[k] = m at hcell hm H1 H2
      have ts := fun w' => tokenSame s m w' hs hm
      cases hb : same s m
      · rw [hb] at ts
        have hb' := Lib.hid hb
        clear hb
        go_wp2_with fail
        refine (ts _).mono ?_
        rintro e w2 ⟨rfl, hB2⟩
        have hB3 := hB.then (by simp) hB2
        go_wp2
        go_roundw
        case rel => exact ⟨k + 1, by omega, by go_num, hB3, Lib.hid (H2.out hb'.out)⟩
        case measure => simp [intOf]; omega
      · rw [hb] at ts
        have hb' := Lib.hid hb
        clear hb
        go_wp2_with fail
        refine (ts _).mono ?_
        rintro e w2 ⟨rfl, hB2⟩
        have hB3 := hB0.then (Nat.le_refl _) hB2
        go_wp2
        go_ret
        exact ⟨ret_str (by rw [H1.out hb'.out]), hB3⟩
    · obtain rfl : k = 6 := by omega
      go_wp2
      go_ret
      exact ⟨ret_str (by rw [methodOf_miss hN.out]), hB0⟩
theorem eqs_method (s : ByteArray) : methodOf s = if lower s.data.toList = [100, 101, 108, 101, 116, 101] then mDELETE else if lower s.data.toList = [103, 101, 116] then mGET else if lower s.data.toList = [104, 101, 97, 100] then mHEAD
    else if lower s.data.toList = [111, 112, 116, 105, 111, 110, 115] then mOPTIONS else if lower s.data.toList = [112, 111, 115, 116] then mPOST else if lower s.data.toList = [112, 117, 116] then mPUT else s := by
  have e1 : lower mDELETE.data.toList = [100, 101, 108, 101, 116, 101] := by decide
  have e2 : lower mGET.data.toList = [103, 101, 116] := by decide
  have e3 : lower mHEAD.data.toList = [104, 101, 97, 100] := by decide
  have e4 : lower mOPTIONS.data.toList = [111, 112, 116, 105, 111, 110, 115] := by decide
  have e5 : lower mPOST.data.toList = [112, 111, 115, 116] := by decide
  have e6 : lower mPUT.data.toList = [112, 117, 116] := by decide
  unfold methodOf meths same
  simp only [List.find?, e1, e2, e3, e4, e5, e6]
  generalize lower s.data.toList = l
  by_cases h0 : l = [100, 101, 108, 101, 116, 101]
  · subst h0; rfl
  rw [if_neg h0]
  simp only [show (l == [100, 101, 108, 101, 116, 101]) = false from beq_eq_false_iff_ne.2 h0]
  by_cases h1 : l = [103, 101, 116]
  · subst h1; rfl
  rw [if_neg h1]
  simp only [show (l == [103, 101, 116]) = false from beq_eq_false_iff_ne.2 h1]
  by_cases h2 : l = [104, 101, 97, 100]
  · subst h2; rfl
  rw [if_neg h2]
  simp only [show (l == [104, 101, 97, 100]) = false from beq_eq_false_iff_ne.2 h2]
  by_cases h3 : l = [111, 112, 116, 105, 111, 110, 115]
  · subst h3; rfl
  rw [if_neg h3]
  simp only [show (l == [111, 112, 116, 105, 111, 110, 115]) = false from beq_eq_false_iff_ne.2 h3]
  by_cases h4 : l = [112, 111, 115, 116]
  · subst h4; rfl
  rw [if_neg h4]
  simp only [show (l == [112, 111, 115, 116]) = false from beq_eq_false_iff_ne.2 h4]
  by_cases h5 : l = [112, 117, 116]
  · subst h5; rfl
  rw [if_neg h5]
  simp only [show (l == [112, 117, 116]) = false from beq_eq_false_iff_ne.2 h5]

theorem upTo (c : List UInt8) (M L : ByteArray) (hL : L.data.toList = c) (hc : ∀ (j : Nat) b, c[j]? = some b → b.toNat < 128) (hn : c.length ≤ 100) (hM : (⟨(Lib.toUpperA c).toArray⟩ : ByteArray) = M) (w : World) :
    Calls Tryz.prog 124 #[.string L] w fun e w' => e = .returned (.string M) ∧ Below w.heap.size w w' := by
  subst hL; subst hM
  exact Tryz.strings_ToUpper_ascii L w (by rw [sz_len]; omega) hc
set_option maxRecDepth 100000 in
theorem refMethod (s : ByteArray) (w : World) (hs : s.size ≤ maxLen) :
    Calls Tryz.prog 69 #[.string s] w fun e w' => e = .returned (.string (methodOf s)) ∧ Below w.heap.size w w' := by
  have hr := fun w' => refLower s w' hs
  rw [eqs_method s]
  obtain ⟨L, hL⟩ : ∃ L : ByteArray, L = ⟨(lower s.data.toList).toArray⟩ := ⟨_, rfl⟩
  rw [← hL] at hr
  have hl : L.data.toList = lower s.data.toList := by rw [hL, mk_toList]
  clear hL
  generalize lower s.data.toList = l at hl ⊢
  have hT : L.toList = l := by rw [Lib.toList_data]; exact hl
  by_cases h0 : l = [100, 101, 108, 101, 116, 101]
  · have u := upTo [100, 101, 108, 101, 116, 101] mDELETE L (by rw [hl, h0]) (by
      have hall : [100, 101, 108, 101, 116, 101].all (fun b : UInt8 => decide (b.toNat < 128)) = true := by decide
      intro j b hb
      exact of_decide_eq_true (List.all_eq_true.1 hall b (List.mem_of_getElem? hb))) (by decide) (by decide +kernel)
    rw [if_pos h0]
    have b0 : (L.toList == [100, 101, 108, 101, 116, 101]) = true := by rw [hT, h0]; decide
    clear hT hl h0
    go_enter Tryz.func69, Tryz.ntmps69
    go_wp2_with fail
    refine (hr _).mono ?_
    rintro e w1 ⟨rfl, hB1⟩
    go_wp2_with fail
    refine (hr _).mono ?_
    rintro e w2 ⟨rfl, hB2⟩
    have hB3 := hB1.then (Nat.le_refl _) hB2
    go_wp2_with fail
    refine (u _).mono ?_
    rintro e w3 ⟨rfl, hB4⟩
    have hB5 := hB3.then (Nat.le_refl _) hB4
    go_wp2
    go_ret
    exact ⟨rfl, hB5⟩
  rw [if_neg h0]
  by_cases h1 : l = [103, 101, 116]
  · have u := upTo [103, 101, 116] mGET L (by rw [hl, h1]) (by
      have hall : [103, 101, 116].all (fun b : UInt8 => decide (b.toNat < 128)) = true := by decide
      intro j b hb
      exact of_decide_eq_true (List.all_eq_true.1 hall b (List.mem_of_getElem? hb))) (by decide) (by decide +kernel)
    rw [if_pos h1]
    have b0 : (L.toList == [100, 101, 108, 101, 116, 101]) = false := by rw [hT, h1]; decide
    have b1 : (L.toList == [103, 101, 116]) = true := by rw [hT, h1]; decide
    clear hT hl h0 h1
    go_enter Tryz.func69, Tryz.ntmps69
    go_wp2_with fail
    refine (hr _).mono ?_
    rintro e w1 ⟨rfl, hB1⟩
    go_wp2_with fail
    refine (hr _).mono ?_
    rintro e w2 ⟨rfl, hB2⟩
    have hB3 := hB1.then (Nat.le_refl _) hB2
    go_wp2_with fail
    refine (u _).mono ?_
    rintro e w3 ⟨rfl, hB4⟩
    have hB5 := hB3.then (Nat.le_refl _) hB4
    go_wp2
    go_ret
    exact ⟨rfl, hB5⟩
  rw [if_neg h1]
  by_cases h2 : l = [104, 101, 97, 100]
  · have u := upTo [104, 101, 97, 100] mHEAD L (by rw [hl, h2]) (by
      have hall : [104, 101, 97, 100].all (fun b : UInt8 => decide (b.toNat < 128)) = true := by decide
      intro j b hb
      exact of_decide_eq_true (List.all_eq_true.1 hall b (List.mem_of_getElem? hb))) (by decide) (by decide +kernel)
    rw [if_pos h2]
    have b0 : (L.toList == [100, 101, 108, 101, 116, 101]) = false := by rw [hT, h2]; decide
    have b1 : (L.toList == [103, 101, 116]) = false := by rw [hT, h2]; decide
    have b2 : (L.toList == [104, 101, 97, 100]) = true := by rw [hT, h2]; decide
    clear hT hl h0 h1 h2
    go_enter Tryz.func69, Tryz.ntmps69
    go_wp2_with fail
    refine (hr _).mono ?_
    rintro e w1 ⟨rfl, hB1⟩
    go_wp2_with fail
    refine (hr _).mono ?_
    rintro e w2 ⟨rfl, hB2⟩
    have hB3 := hB1.then (Nat.le_refl _) hB2
    go_wp2_with fail
    refine (u _).mono ?_
    rintro e w3 ⟨rfl, hB4⟩
    have hB5 := hB3.then (Nat.le_refl _) hB4
    go_wp2
    go_ret
    exact ⟨rfl, hB5⟩
  rw [if_neg h2]
  by_cases h3 : l = [111, 112, 116, 105, 111, 110, 115]
  · have u := upTo [111, 112, 116, 105, 111, 110, 115] mOPTIONS L (by rw [hl, h3]) (by
      have hall : [111, 112, 116, 105, 111, 110, 115].all (fun b : UInt8 => decide (b.toNat < 128)) = true := by decide
      intro j b hb
      exact of_decide_eq_true (List.all_eq_true.1 hall b (List.mem_of_getElem? hb))) (by decide) (by decide +kernel)
    rw [if_pos h3]
    have b0 : (L.toList == [100, 101, 108, 101, 116, 101]) = false := by rw [hT, h3]; decide
    have b1 : (L.toList == [103, 101, 116]) = false := by rw [hT, h3]; decide
    have b2 : (L.toList == [104, 101, 97, 100]) = false := by rw [hT, h3]; decide
    have b3 : (L.toList == [111, 112, 116, 105, 111, 110, 115]) = true := by rw [hT, h3]; decide
    clear hT hl h0 h1 h2 h3
    go_enter Tryz.func69, Tryz.ntmps69
    go_wp2_with fail
    refine (hr _).mono ?_
    rintro e w1 ⟨rfl, hB1⟩
    go_wp2_with fail
    refine (hr _).mono ?_
    rintro e w2 ⟨rfl, hB2⟩
    have hB3 := hB1.then (Nat.le_refl _) hB2
    go_wp2_with fail
    refine (u _).mono ?_
    rintro e w3 ⟨rfl, hB4⟩
    have hB5 := hB3.then (Nat.le_refl _) hB4
    go_wp2
    go_ret
    exact ⟨rfl, hB5⟩
  rw [if_neg h3]
  by_cases h4 : l = [112, 111, 115, 116]
  · have u := upTo [112, 111, 115, 116] mPOST L (by rw [hl, h4]) (by
      have hall : [112, 111, 115, 116].all (fun b : UInt8 => decide (b.toNat < 128)) = true := by decide
      intro j b hb
      exact of_decide_eq_true (List.all_eq_true.1 hall b (List.mem_of_getElem? hb))) (by decide) (by decide +kernel)
    rw [if_pos h4]
    have b0 : (L.toList == [100, 101, 108, 101, 116, 101]) = false := by rw [hT, h4]; decide
    have b1 : (L.toList == [103, 101, 116]) = false := by rw [hT, h4]; decide
    have b2 : (L.toList == [104, 101, 97, 100]) = false := by rw [hT, h4]; decide
    have b3 : (L.toList == [111, 112, 116, 105, 111, 110, 115]) = false := by rw [hT, h4]; decide
    have b4 : (L.toList == [112, 111, 115, 116]) = true := by rw [hT, h4]; decide
    clear hT hl h0 h1 h2 h3 h4
    go_enter Tryz.func69, Tryz.ntmps69
    go_wp2_with fail
    refine (hr _).mono ?_
    rintro e w1 ⟨rfl, hB1⟩
    go_wp2_with fail
    refine (hr _).mono ?_
    rintro e w2 ⟨rfl, hB2⟩
    have hB3 := hB1.then (Nat.le_refl _) hB2
    go_wp2_with fail
    refine (u _).mono ?_
    rintro e w3 ⟨rfl, hB4⟩
    have hB5 := hB3.then (Nat.le_refl _) hB4
    go_wp2
    go_ret
    exact ⟨rfl, hB5⟩
  rw [if_neg h4]
  by_cases h5 : l = [112, 117, 116]
  · have u := upTo [112, 117, 116] mPUT L (by rw [hl, h5]) (by
      have hall : [112, 117, 116].all (fun b : UInt8 => decide (b.toNat < 128)) = true := by decide
      intro j b hb
      exact of_decide_eq_true (List.all_eq_true.1 hall b (List.mem_of_getElem? hb))) (by decide) (by decide +kernel)
    rw [if_pos h5]
    have b0 : (L.toList == [100, 101, 108, 101, 116, 101]) = false := by rw [hT, h5]; decide
    have b1 : (L.toList == [103, 101, 116]) = false := by rw [hT, h5]; decide
    have b2 : (L.toList == [104, 101, 97, 100]) = false := by rw [hT, h5]; decide
    have b3 : (L.toList == [111, 112, 116, 105, 111, 110, 115]) = false := by rw [hT, h5]; decide
    have b4 : (L.toList == [112, 111, 115, 116]) = false := by rw [hT, h5]; decide
    have b5 : (L.toList == [112, 117, 116]) = true := by rw [hT, h5]; decide
    clear hT hl h0 h1 h2 h3 h4 h5
    go_enter Tryz.func69, Tryz.ntmps69
    go_wp2_with fail
    refine (hr _).mono ?_
    rintro e w1 ⟨rfl, hB1⟩
    go_wp2_with fail
    refine (hr _).mono ?_
    rintro e w2 ⟨rfl, hB2⟩
    have hB3 := hB1.then (Nat.le_refl _) hB2
    go_wp2_with fail
    refine (u _).mono ?_
    rintro e w3 ⟨rfl, hB4⟩
    have hB5 := hB3.then (Nat.le_refl _) hB4
    go_wp2
    go_ret
    exact ⟨rfl, hB5⟩
  rw [if_neg h5]
  have b0 : (L.toList == [100, 101, 108, 101, 116, 101]) = false := by rw [hT, beq_eq_false_iff_ne]; exact h0
  have b1 : (L.toList == [103, 101, 116]) = false := by rw [hT, beq_eq_false_iff_ne]; exact h1
  have b2 : (L.toList == [104, 101, 97, 100]) = false := by rw [hT, beq_eq_false_iff_ne]; exact h2
  have b3 : (L.toList == [111, 112, 116, 105, 111, 110, 115]) = false := by rw [hT, beq_eq_false_iff_ne]; exact h3
  have b4 : (L.toList == [112, 111, 115, 116]) = false := by rw [hT, beq_eq_false_iff_ne]; exact h4
  have b5 : (L.toList == [112, 117, 116]) = false := by rw [hT, beq_eq_false_iff_ne]; exact h5
  clear hT hl h0 h1 h2 h3 h4 h5
  go_enter Tryz.func69, Tryz.ntmps69
  go_wp2_with fail
  refine (hr _).mono ?_
  rintro e w1 ⟨rfl, hB1⟩
  go_wp2
  go_ret
  exact ⟨rfl, hB1⟩

/-- whether a method may be sent without asking -/
def simpleB (m : ByteArray) : Bool := m.toList == [71, 69, 84] || m.toList == [72, 69, 65, 68] || m.toList == [80, 79, 83, 84]
set_option maxRecDepth 100000 in
theorem fetchSimple (m : ByteArray) (w : World) : Calls Tryz.prog 65 #[.string m] w fun e w' => e = .returned (.bool (simpleB m)) ∧ w = w' := by
  go_enter Tryz.func65, Tryz.ntmps65
  go_wp2
  all_goals
    go_ret
    exact ⟨ret_bool (by simp_all [simpleB]), rfl⟩
set_option maxRecDepth 100000 in
theorem refSimple (m : ByteArray) (w : World) : Calls Tryz.prog 70 #[.string m] w fun e w' => e = .returned (.bool (simpleB m)) ∧ w = w' := by
  go_enter Tryz.func70, Tryz.ntmps70
  go_wp2
  all_goals
    go_ret
    exact ⟨ret_bool (by simp_all [simpleB]), rfl⟩
end Go.Proofs.YtnfcdccdmlodeaaGreatDoor
