/- the reference's Answer (over strings.Fields of a text of names). -/
import Derived.Test.YtdlhihfjigcimaaDoorAnswer
import Derived.Deep.RegionHeld3
import Derived.BigRegion
namespace Go.Proofs.YtdlhihfjigcimaaDoor
open Go.RowKit Go.Deep

abbrev Asc (w : World) : Prop := Lib.TabIs Tryd.prog w "strings.asciiSpace" .u8 Lib.asciiSpaceTab
theorem ascAt : Tryd.prog.globalNamed "strings.asciiSpace" = some 1 := by kernel_rfl
set_option maxRecDepth 100000 in
theorem Asc.later {w w' : World} (h : Asc w) (hb : Below w.heap.size w w') : Asc w' :=
  var?_below hb ascAt (World.block_lt_of_cell? w _ (Lib.TabIs.cell h ascAt 0 (by decide +kernel))) h
def kindsL : List UInt8 := [100, 111, 110, 101, 32, 110, 111, 110, 101, 32, 112, 114, 111, 109, 112, 116, 32, 121, 101, 115, 32, 110, 111, 32, 98, 117, 115, 121, 32, 111, 100, 100]
def kindsF : List (List UInt8) := [[100, 111, 110, 101], [110, 111, 110, 101], [112, 114, 111, 109, 112, 116], [121, 101, 115], [110, 111], [98, 117, 115, 121], [111, 100, 100]]
set_option maxRecDepth 100000 in
theorem kinds_fields : Lib.fields kindsL = kindsF := by kernel_rfl
theorem kinds_ascii : ∀ b ∈ kindsL, b.toNat < 128 := by
  intro b hb
  simp only [kindsL, List.mem_cons, List.not_mem_nil, or_false] at hb
  rcases hb with rfl | rfl | rfl | rfl | rfl | rfl | rfl | rfl | rfl | rfl | rfl | rfl | rfl | rfl | rfl | rfl | rfl | rfl | rfl | rfl | rfl | rfl | rfl | rfl | rfl | rfl | rfl | rfl | rfl | rfl | rfl | rfl <;> decide
set_option maxRecDepth 100000 in
theorem kinds_is {k : Int} (h1 : 1 ≤ k) (h2 : k ≤ 7) (w : World) (ha : Asc w) :
    Calls Tryd.prog 114 #[.string ⟨#[100, 111, 110, 101, 32, 110, 111, 110, 101, 32, 112, 114, 111, 109, 112, 116, 32, 121, 101, 115, 32, 110, 111, 32, 98, 117, 115, 121, 32, 111, 100, 100]⟩] w fun e w' => e = .returned (.slice (some ⟨w.heap.size, 0, none⟩) 7 7) ∧ w'.cell? ⟨w.heap.size, k.toNat - 1, none⟩ = some (.string (baseT k)) ∧ Below w.heap.size w w' := by
  refine (Tryd.strings_Fields ⟨#[100, 111, 110, 101, 32, 110, 111, 110, 101, 32, 112, 114, 111, 109, 112, 116, 32, 121, 101, 115, 32, 110, 111, 32, 98, 117, 115, 121, 32, 111, 100, 100]⟩ w (by decide) (fun j b h => kinds_ascii b (List.mem_of_getElem? h)) ha).mono ?_
  rintro e w' ⟨rfl, rfl⟩
  have hf : Lib.fields (⟨#[100, 111, 110, 101, 32, 110, 111, 110, 101, 32, 112, 114, 111, 109, 112, 116, 32, 121, 101, 115, 32, 110, 111, 32, 98, 117, 115, 121, 32, 111, 100, 100]⟩ : ByteArray).data.toList = kindsF := kinds_fields
  rw [hf]
  refine ⟨rfl, ?_, (Below.refl _ _).alloc (Nat.le_refl _) _⟩
  refine box_cell (w := w) (Below.refl (w.heap.size + 1) _) (k.toNat - 1) ?_
  rcases baseT_one h1 h2 with rfl | rfl | rfl | rfl | rfl | rfl | rfl <;> rfl
theorem mkReply {w w' : World} {k c : Int} {t : ByteArray} (h : Below (w.heap.size + 1) (w.alloc (Obj.cells #[.int .i64 k, .string t, .int .i64 c] 62)) w') :
    Below (w.heap.size + 1) (w.alloc (Obj.cells #[.int .i64 k, .string t, .int .i64 c] 62)) w' ∧ w'.cell? ⟨w.heap.size, 0, none⟩ = some (.int .i64 k) ∧ w'.cell? ⟨w.heap.size, 1, none⟩ = some (.string t) ∧ w'.cell? ⟨w.heap.size, 2, none⟩ = some (.int .i64 c) :=
  ⟨h, box_cell h 0 rfl, box_cell h 1 rfl, box_cell h 2 rfl⟩
set_option maxRecDepth 100000 in
set_option maxHeartbeats 1600000 in
theorem refAnswer (k c : Int) (t q : ByteArray) (w : World) (ha : Asc w) (hq : ∀ w', Below w.heap.size w w' → Calls Tryd.prog 111 #[.string t] w' fun e w'' => e = .returned (.string q) ∧ Below w'.heap.size w' w'')
    (hi : ∀ w', Below w.heap.size w w' → Calls Tryd.prog 69 #[.int .i64 c] w' fun e w'' => e = .returned (.string ⟨(Lib.itoa c).toArray⟩) ∧ Below w'.heap.size w' w'')
    (hqs : q.size ≤ 1000000) (hil : (⟨(Lib.itoa c).toArray⟩ : ByteArray).size ≤ 100) :
    Calls Tryd.prog 75 #[.agg #[.int .i64 k, .string t, .int .i64 c]] w fun e w' => e = .returned (.string (ansV k c t q)) ∧ Below w.heap.size w w' := by
  unfold ansV
  generalize (⟨(Lib.itoa c).toArray⟩ : ByteArray) = i at hi hil ⊢
  have hB0 := (Below.refl w.heap.size w).alloc (Nat.le_refl _) (Obj.cells #[.int .i64 k, .string t, .int .i64 c] 62)
  have hwt := fun w' => within_any k 1 7 w'
  by_cases h1 : 1 ≤ k
  · by_cases h2 : k ≤ 7
    · have hx := fun (w' : World) (hb : Below w.heap.size w w') => kinds_is h1 h2 w' (ha.later hb)
      have hbd : (decide (1 ≤ k) && decide (k ≤ 7)) = true := by simp [h1, h2]
      rw [hbd] at hwt
      clear hbd
      have hbs := baseT_size h1 h2
      rw [if_pos ⟨h1, h2⟩]
      generalize baseT k = b at hx hbs ⊢
      unfold ansR
      have hwr : IntKind.i64.wrap (k - 1) = k - 1 := by simp [IntKind.wrap, IntKind.bits, IntKind.signed]; omega
      have hi1 : 0 ≤ k - 1 := by omega
      have hi2 : k - 1 < 7 := by omega
      have hi3 : (k - 1).toNat = k.toNat - 1 := by omega
      have hi4 : k.toNat - 1 < 7 := by omega
      have hBB := Below.refl (w.heap.size + 1) (w.alloc (Obj.cells #[.int .i64 k, .string t, .int .i64 c] 62))
      have hE := fun w' (h : Below (w.heap.size + 1) (w.alloc (Obj.cells #[.int .i64 k, .string t, .int .i64 c] 62)) w') => mkReply h
      cases ht : t.toList.isEmpty
      · cases hc : (c == 0)
        · have hc' : (c != 0) = true := by simp [bne, hc]
          go_enter Tryd.func75, Tryd.ntmps75
          go_wp2_with (go_at_call 57; refine (hwt _).mono ?_; rintro e w' ⟨rfl, rfl⟩)
          go_region_with (go_at_call 114; refine (hx _ hB0.drew).mono ?_; rintro e w1 ⟨rfl, hcb, hB9⟩; have hcb' : w1.cell? ⟨w.heap.size + 1, k.toNat - 1, none⟩ = some (.string b) := (by simpa using hcb); obtain ⟨hBB1, d0, d1, d2⟩ := mkReply (hBB.drew.then (by simp) hB9))
          all_goals
            have hBw1 := below_box hBB1
            go_wp2_with fail
            refine (hq _ hBw1).mono ?_
            rintro e w2 ⟨rfl, hB2⟩
            obtain ⟨hBB2, f0, f1, f2⟩ := mkReply (hBB1.then (by simp) hB2)
            clear d0 d1 d2
            go_wp2_with fail
            refine (hi _ (below_box hBB2)).mono ?_
            rintro e w3 ⟨rfl, hB3⟩
            go_wp2
            go_ret
            exact ⟨by simp, (below_box hBB2).then (Nat.le_refl _) hB3⟩
        · have hc' : (c != 0) = false := by simp [bne, hc]
          go_enter Tryd.func75, Tryd.ntmps75
          go_wp2_with (go_at_call 57; refine (hwt _).mono ?_; rintro e w' ⟨rfl, rfl⟩)
          go_region_with (go_at_call 114; refine (hx _ hB0.drew).mono ?_; rintro e w1 ⟨rfl, hcb, hB9⟩; have hcb' : w1.cell? ⟨w.heap.size + 1, k.toNat - 1, none⟩ = some (.string b) := (by simpa using hcb); obtain ⟨hBB1, d0, d1, d2⟩ := mkReply (hBB.drew.then (by simp) hB9))
          all_goals
            have hBw1 := below_box hBB1
            go_wp2_with fail
            refine (hq _ hBw1).mono ?_
            rintro e w2 ⟨rfl, hB2⟩
            obtain ⟨hBB2, f0, f1, f2⟩ := mkReply (hBB1.then (by simp) hB2)
            clear d0 d1 d2
            go_wp2
            go_ret
            exact ⟨by simp [ba_nil], below_box hBB2⟩
      · cases hc : (c == 0)
        · have hc' : (c != 0) = true := by simp [bne, hc]
          go_enter Tryd.func75, Tryd.ntmps75
          go_wp2_with (go_at_call 57; refine (hwt _).mono ?_; rintro e w' ⟨rfl, rfl⟩)
          go_region_with (go_at_call 114; refine (hx _ hB0.drew).mono ?_; rintro e w1 ⟨rfl, hcb, hB9⟩; have hcb' : w1.cell? ⟨w.heap.size + 1, k.toNat - 1, none⟩ = some (.string b) := (by simpa using hcb); obtain ⟨hBB1, d0, d1, d2⟩ := mkReply (hBB.drew.then (by simp) hB9))
          all_goals
            have hBw1 := below_box hBB1
            go_wp2_with fail
            refine (hi _ (below_box hBB1)).mono ?_
            rintro e w3 ⟨rfl, hB3⟩
            go_wp2
            go_ret
            exact ⟨by simp [ba_nil], (below_box hBB1).then (Nat.le_refl _) hB3⟩
        · have hc' : (c != 0) = false := by simp [bne, hc]
          go_enter Tryd.func75, Tryd.ntmps75
          go_wp2_with (go_at_call 57; refine (hwt _).mono ?_; rintro e w' ⟨rfl, rfl⟩)
          go_region_with (go_at_call 114; refine (hx _ hB0.drew).mono ?_; rintro e w1 ⟨rfl, hcb, hB9⟩; have hcb' : w1.cell? ⟨w.heap.size + 1, k.toNat - 1, none⟩ = some (.string b) := (by simpa using hcb); obtain ⟨hBB1, d0, d1, d2⟩ := mkReply (hBB.drew.then (by simp) hB9))
          all_goals
            have hBw1 := below_box hBB1
            go_wp2
            go_ret
            exact ⟨by simp [ba_nil], below_box hBB1⟩
    · have hbd : (decide (1 ≤ k) && decide (k ≤ 7)) = false := by simp [h2]
      rw [hbd] at hwt
      rw [if_neg (by omega)]
      go_enter Tryd.func75, Tryd.ntmps75
      go_wp2_with (go_at_call 57; refine (hwt _).mono ?_; rintro e w' ⟨rfl, rfl⟩)
      go_ret
      exact ⟨rfl, hB0⟩
  · have hbd : (decide (1 ≤ k) && decide (k ≤ 7)) = false := by simp [h1]
    rw [hbd] at hwt
    rw [if_neg (by omega)]
    go_enter Tryd.func75, Tryd.ntmps75
    go_wp2_with (go_at_call 57; refine (hwt _).mono ?_; rintro e w' ⟨rfl, rfl⟩)
    go_ret
    exact ⟨rfl, hB0⟩
end Go.Proofs.YtdlhihfjigcimaaDoor
