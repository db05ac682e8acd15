/- cors.Get and the reference's FieldGet: all values of a field's name. -/
import Derived.Test.YtnfcdccdmlodeaaGreatDoorFound
import Derived.Test.YtnfcdccdmlodeaaGreatDoorFoun2
import Derived.Test.YtnfcdccdmlodeaaGreatDoorReq
namespace Go.Proofs.YtnfcdccdmlodeaaGreatDoor
open Go.RowKit

/-- the values of a name -/
def valsOf (ps : List (ByteArray × ByteArray)) (name : ByteArray) : List ByteArray := (ps.filter (fun p => same p.1 name)).map (·.2)
theorem valsOf_hit (ps : List (ByteArray × ByteArray)) (name : ByteArray) (k : Nat) (h : k < ps.length) (hs : same ps[k].1 name = true) : valsOf (ps.take (k + 1)) name = valsOf (ps.take k) name ++ [ps[k].2] := by
  unfold valsOf; rw [List.take_succ_eq_append_getElem h, List.filter_append, List.map_append]; simp [hs]
theorem valsOf_miss (ps : List (ByteArray × ByteArray)) (name : ByteArray) (k : Nat) (h : k < ps.length) (hs : same ps[k].1 name = false) : valsOf (ps.take (k + 1)) name = valsOf (ps.take k) name := by
  unfold valsOf; rw [List.take_succ_eq_append_getElem h, List.filter_append, List.map_append]; simp [hs]
theorem valsOf_le (ps : List (ByteArray × ByteArray)) (name : ByteArray) : (valsOf ps name).length ≤ ps.length := by
  unfold valsOf; rw [List.length_map]; exact List.length_filter_le _ _
theorem valsOf_sz (M : Nat) (ps : List (ByteArray × ByteArray)) (name : ByteArray) (h : ∀ p ∈ ps, p.2.size ≤ M) : ∀ s ∈ valsOf ps name, s.size ≤ M := by
  intro s hs
  obtain ⟨p, hp, rfl⟩ := List.mem_map.1 hs
  exact h p (List.mem_filter.1 hp).1
theorem valsOf_take_sz (M : Nat) (ps : List (ByteArray × ByteArray)) (name : ByteArray) (k : Nat) (h : ∀ p ∈ ps, p.2.size ≤ M) : (commas (valsOf (ps.take k) name)).length ≤ ps.length * (M + 2) := by
  refine Nat.le_trans (commas_len M _ (valsOf_sz M _ name (fun p hp => h p (List.mem_of_mem_take hp)))) (Nat.mul_le_mul_right _ ?_)
  exact Nat.le_trans (valsOf_le _ _) (List.length_take_le' _ _)

/-- the value of a field: all values of its name, and whether there are any -/
def fieldOf (ps : List (ByteArray × ByteArray)) (name : ByteArray) : ByteArray × Bool := (⟨(commas (valsOf ps name)).toArray⟩, !(valsOf ps name).isEmpty)

theorem ret_sb {s t : ByteArray} {b c : Bool} (h : s = t) (h' : b = c) : Ending.returned (.tuple #[.string s, .bool b]) = .returned (.tuple #[.string t, .bool c]) := by rw [h, h']
theorem pos_ne {α : Type} (l : List α) : decide (0 < l.length) = !l.isEmpty := by cases l <;> simp
theorem app_ne {α : Type} (l : List α) (x : α) : true = !(l ++ [x]).isEmpty := by cases l <;> rfl

set_option maxRecDepth 100000 in
set_option maxHeartbeats 800000 in
theorem corsGet (a : Option Addr) (cap : Nat) (ps : List (ByteArray × ByteArray)) (name : ByteArray) (M : Nat) (w : World) (hP : ParAt w a ps) (hz : ParSz ps) (hl : ps.length ≤ 1048576) (hn : name.size ≤ maxLen)
    (hM : ∀ p ∈ ps, p.2.size ≤ M) (hM' : ps.length * (M + 2) ≤ 140737488355328) :
    Calls Tryz.prog 260 #[.slice a ps.length cap, .string name] w fun e w' => e = .returned (.tuple #[.string (fieldOf ps name).1, .bool (fieldOf ps name).2]) ∧ Below w.heap.size w w' := by
  obtain ⟨i0, hi, hz0, hz1, hz2⟩ := info_parts infoString
  go_enter Tryz.func260, Tryz.ntmps260
  go_wp2
  go_loopw [6, 11] (fun v i wr => ∃ k : Nat, k ≤ ps.length ∧ i = .int .i64 k ∧ OwnStr wr w.heap.size v (valsOf (ps.take k) name) ∧ Below w.heap.size w wr) (fun _ i _ => ps.length - (intOf i).toNat)
  case atStart => exact ⟨0, Nat.zero_le _, rfl, OwnStr.nil _ _, Below.refl _ _⟩
  case round =>
    obtain ⟨k, hk, rfl, hO, hB⟩ := hrel
    by_cases hlt : k < ps.length
    · obtain ⟨b, off, rfl, h1, h2⟩ := (hP.later hB) k hlt
      have hs1 := (hz _ (List.getElem_mem hlt)).1
      have hB1 := hB.alloc hB.size (Obj.cells #[Value.string ps[k].1, Value.string ps[k].2] 77)
      cases hb : same ps[k].1 name
      · have hn' := Lib.hid (valsOf_miss ps name k hlt hb)
        go_wp2_with fail
        refine (tokenSame _ _ _ hs1 hn).mono ?_
        rintro e w2 ⟨rfl, hB2⟩
        go_wp2_with fail
        go_roundw
        case rel => exact ⟨k + 1, by omega, by go_num, by rw [hn'.out]; exact OwnStr.later (hO.later (((Below.refl _ _).alloc (Nat.le_refl _) _))) hB2, hB1.then (Nat.le_refl _) hB2⟩
        case measure => simp [intOf]; omega
      · have hn' := Lib.hid (valsOf_hit ps name k hlt hb)
        have hlen := Nat.le_trans (valsOf_le (ps.take k) name) (List.length_take_le' k ps)
        go_wp2_with fail
        refine (tokenSame _ _ _ hs1 hn).mono ?_
        rintro e w2 ⟨rfl, hB2⟩
        have h2' := box_cell (by simpa using hB2) 1 rfl
        have hO2 : w2.ownsRow w.heap.size 9 1 u6 (valsOf (ps.take k) name).length ((valsOf (ps.take k) name).map Value.string) := OwnStr.later (hO.later (((Below.refl _ _).alloc (Nat.le_refl _) _))) hB2
        have hB3 := hB1.then (Nat.le_refl _) hB2
        go_wp2_with (at_builtin; refine wpList_append_own _ rfl _ _ 119 rfl w.heap.size 9 i0 (.string ⟨#[]⟩) 1 16 Tryz.underlying119 hi hz0 hz1 hz2 rfl (by decide) _ _ _ rfl (hO2.alloc _) ⟨w2.heap.size, 0, none⟩ 1 1 [.string ps[k].2] rfl rfl ?c1 ?c2 ?c3 ?c4 ?c5 ?_)
        case c1 => exact cell_one_new _ _ _
        case c2 => exact one_cell_string _
        case c3 => unfold maxLen; omega
        case c4 => omega
        case c5 => have := hB3.size; simp; omega
        intro v' w3 hown hgrow hnil
        go_wp2
        go_roundw
        case rel => exact ⟨k + 1, by omega, by go_num, by rw [hn'.out]; exact OwnStr.snoc hown, below_append hB3 hO2 hgrow hB3.size⟩
        case measure => simp [intOf]; omega
    · obtain rfl : k = ps.length := by omega
      rw [List.take_length] at hO
      have hf : Hid (fieldOf ps name = (⟨(commas (valsOf ps name)).toArray⟩, !(valsOf ps name).isEmpty)) := Lib.hid rfl
      obtain ⟨a', cap', rfl, hS, hc, hm, _⟩ := hO.shape
      have hle := valsOf_le ps name
      have hlc := valsOf_take_sz M ps name ps.length hM
      rw [List.take_length] at hlc
      have hj := stringsJoin a' cap' (valsOf ps name) ⟨#[44, 32]⟩ wr hS hc (by omega) (by exact Nat.le_trans hlc hM')
      go_wp2_with fail
      refine hj.mono ?_
      rintro e w2 ⟨rfl, hB2⟩
      go_wp2
      go_ret2
      refine ⟨?_, hB.then (Nat.le_refl _) hB2⟩
      rw [hf.out]
      exact ret_sb rfl (pos_ne _)

set_option maxRecDepth 100000 in
set_option maxHeartbeats 800000 in
theorem refFieldGet (a : Option Addr) (cap : Nat) (ps : List (ByteArray × ByteArray)) (name : ByteArray) (M : Nat) (w : World) (hP : ParAt w a ps) (hz : ParSz ps) (hl : ps.length ≤ 1048576) (hn : name.size ≤ maxLen)
    (hM : ∀ p ∈ ps, p.2.size ≤ M) (hM' : ps.length * (M + 2) ≤ 140737488355328) (hMM : M ≤ 140737488355328) :
    Calls Tryz.prog 150 #[.slice a ps.length cap, .string name] w fun e w' => e = .returned (.tuple #[.string (fieldOf ps name).1, .bool (fieldOf ps name).2]) ∧ Below w.heap.size w w' := by
  go_enter Tryz.func150, Tryz.ntmps150
  go_wp2
  go_loopw [6, 7, 12] (fun s v i wr => ∃ (k : Nat) (ok : Bool), k ≤ ps.length ∧ i = .int .i64 k ∧ s = .string ⟨(commas (valsOf (ps.take k) name)).toArray⟩ ∧ v = .bool ok ∧ Hid (ok = !(valsOf (ps.take k) name).isEmpty) ∧ Below w.heap.size w wr) (fun _ _ i _ => ps.length - (intOf i).toNat)
  case atStart => exact ⟨0, false, Nat.zero_le _, rfl, rfl, rfl, Lib.hid rfl, Below.refl _ _⟩
  case round =>
    obtain ⟨k, ok, hk, rfl, rfl, rfl, hok, hB⟩ := hrel
    by_cases hlt : k < ps.length
    · obtain ⟨b, off, rfl, h1, h2⟩ := (hP.later hB) k hlt
      have hs1 := (hz _ (List.getElem_mem hlt)).1
      have hs2 := hM _ (List.getElem_mem hlt)
      have hB1 := hB.alloc hB.size (Obj.cells #[Value.string ps[k].1, Value.string ps[k].2] 77)
      have hlc := valsOf_take_sz M ps name k hM
      cases hb : same ps[k].1 name
      · have hn' := Lib.hid (valsOf_miss ps name k hlt hb)
        go_wp2_with fail
        refine (refSame _ _ _ hs1 hn).mono ?_
        rintro e w2 ⟨rfl, hB2⟩
        go_wp2_with fail
        go_roundw
        case rel => exact ⟨k + 1, ok, by omega, by go_num, by rw [hn'.out], rfl, by rw [hn'.out]; exact hok, hB1.then (Nat.le_refl _) hB2⟩
        case measure => simp [intOf]; omega
      · have hn' := Lib.hid (valsOf_hit ps name k hlt hb)
        go_wp2_with fail
        refine (refSame _ _ _ hs1 hn).mono ?_
        rintro e w2 ⟨rfl, hB2⟩
        have h2' := box_cell (by simpa using hB2) 1 rfl
        have hadd1 := run_string_add_sum (P := Tryz.prog) w2 ⟨(commas (valsOf (ps.take k) name)).toArray⟩ ⟨#[44, 32]⟩ (by rw [mk_size]; have : (⟨#[44, 32]⟩ : ByteArray).size = 2 := rfl; rw [this]; omega)
        have hadd2 := run_string_add_sum (P := Tryz.prog) w2 (⟨(commas (valsOf (ps.take k) name)).toArray⟩ ++ ⟨#[44, 32]⟩) ps[k].2 (by rw [ByteArray.size_append, mk_size]; have : (⟨#[44, 32]⟩ : ByteArray).size = 2 := rfl; rw [this]; omega)
        have hadd3 := run_string_add_sum (P := Tryz.prog) w2 ⟨(commas (valsOf (ps.take k) name)).toArray⟩ ps[k].2 (by rw [mk_size]; omega)
        cases ok
        · have e : Hid (commas (valsOf (ps.take (k + 1)) name) = commas (valsOf (ps.take k) name) ++ ps[k].2.data.toList) := Lib.hid (by
            have h0 : valsOf (ps.take k) name = [] := by have := hok.out; cases hv : valsOf (ps.take k) name with
              | nil => rfl
              | cons x r => rw [hv] at this; cases this
            rw [hn'.out, h0]; exact commas_one _)
          clear hadd1 hadd2
          go_wp2
          go_roundw
          case rel => exact ⟨k + 1, true, by omega, by go_num, by rw [e.out]; exact congrArg Value.string (str_app _ _), rfl, Lib.hid (by rw [hn'.out]; exact app_ne _ _), hB1.then (Nat.le_refl _) hB2⟩
          case measure => simp [intOf]; omega
        · have e : Hid (commas (valsOf (ps.take (k + 1)) name) = commas (valsOf (ps.take k) name) ++ [44, 32] ++ ps[k].2.data.toList) := Lib.hid (by
            have h0 : valsOf (ps.take k) name ≠ [] := by intro hv; have := hok.out; rw [hv] at this; cases this
            rw [hn'.out]; exact commas_snoc _ _ h0)
          clear hadd3
          go_wp2
          go_roundw
          case rel => exact ⟨k + 1, true, by omega, by go_num, by rw [e.out]; exact congrArg Value.string ((congrArg (· ++ ps[k].2) (str_app _ _)).trans (str_app _ _)), rfl, Lib.hid (by rw [hn'.out]; exact app_ne _ _), hB1.then (Nat.le_refl _) hB2⟩
          case measure => simp [intOf]; omega
    · obtain rfl : k = ps.length := by omega
      rw [List.take_length] at hok ⊢
      have hf : Hid (fieldOf ps name = (⟨(commas (valsOf ps name)).toArray⟩, ok)) := Lib.hid (by rw [hok.out]; rfl)
      go_wp2
      go_ret2
      exact ⟨by rw [hf.out]; rfl, hB⟩

end Go.Proofs.YtnfcdccdmlodeaaGreatDoor
