/- sum.text: words as digits . -/
import Derived.Test.YtdlhihfjigcimaaDoorSumA
import Derived.Test.YtdlhihfjigcimaaDoorFound
import Derived.Test.YtdlhihfjigcimaaDoorDigs
import Derived.Laws.BytesArg
namespace Go.Proofs.YtdlhihfjigcimaaDoor
open Go.RowKit

theorem byte_at (x j : Nat) (hj : j < 4) : ((bytes4 true x).getD j 0).toNat = x / 2 ^ (8 * j) % 256 := by
  match j, hj with
  | 0, _ => simp [bytes4]
  | 1, _ => simp [bytes4]
  | 2, _ => simp [bytes4]
  | 3, _ => simp [bytes4]
theorem byte_atB (x j : Nat) (hj : j < 4) : ((bytes4 false x).getD j 0).toNat = x / 2 ^ (24 - 8 * j) % 256 := by
  match j, hj with
  | 0, _ => simp [bytes4]
  | 1, _ => simp [bytes4]
  | 2, _ => simp [bytes4]
  | 3, _ => simp [bytes4]
theorem bytes4_take (little : Bool) (x j : Nat) (hj : j < 4) : (bytes4 little x).take (j + 1) = (bytes4 little x).take j ++ [(bytes4 little x).getD j 0] := by
  have h : j < (bytes4 little x).length := by rw [bytes4_length]; exact hj
  rw [List.take_succ_eq_append_getElem h, List.getD_eq_getElem?_getD, List.getElem?_eq_getElem h]
  rfl
set_option maxRecDepth 100000 in
theorem sumTextL (B o cap : Nat) (ws : List Nat) (hws : ∀ x ∈ ws, x < 4294967296) (hne : 0 < ws.length) (hlen : ws.length ≤ 8) (w : World) (hbw : B < w.heap.size) (hc : ∀ i (h : i < ws.length), w.cell? ⟨B, o + i, none⟩ = some (.int .u32 (ws[i] : Nat))) :
    Calls Tryd.prog 175 #[.slice (some ⟨B, o, none⟩) ws.length cap, .bool true] w fun e w' => e = .returned (.string ⟨(hexL (ws.flatMap (bytes4 true))).toArray⟩) ∧ Below w.heap.size w w' := by
  go_enter Tryd.func175, Tryd.ntmps175
  go_wp2
  go_loopw [5, 7, 8, 11] (fun v _ _ i wr => ∃ k : Nat, k ≤ ws.length ∧ i = .int .i64 k ∧ OwnB wr w.heap.size v ((ws.take k).flatMap (bytes4 true)) ∧ Below w.heap.size w wr) (fun _ _ _ i _ => ws.length - (intOf i).toNat)
  case atStart => exact ⟨0, Nat.zero_le _, rfl, OwnB.nil _ _, Below.refl _ _⟩
  case round =>
    obtain ⟨k, hk, rfl, hO, hB⟩ := hrel
    by_cases hlt : k < ws.length
    · have hcell := (hB.cell (p := ⟨B, o + k, none⟩) hbw).trans (hc k hlt)
      have hx := hws _ (List.getElem_mem hlt)
      have hL : (ws.take (k + 1)).flatMap (bytes4 true) = (ws.take k).flatMap (bytes4 true) ++ bytes4 true ws[k] := by
        rw [List.take_succ_eq_append_getElem hlt, List.flatMap_append, List.flatMap_cons, List.flatMap_nil, List.append_nil]
      have hLl : ((ws.take k).flatMap (bytes4 true)).length ≤ 100 := by
        have : ∀ l : List Nat, (l.flatMap (bytes4 true)).length = 4 * l.length := by
          intro l; induction l with
          | nil => rfl
          | cons a r ih => simp [List.flatMap_cons, bytes4_length, ih]; omega
        rw [this, List.length_take]; omega
      have hL' := Lib.hid hL
      clear hL
      generalize (ws.take k).flatMap (bytes4 true) = L at hO hLl hL'
      generalize ws[k] = x at hcell hx hL'
      go_wp2
      go_loopw [5, 8, 15] (fun v2 _ i2 wr2 => ∃ j : Nat, j ≤ 4 ∧ i2 = .int .i64 j ∧ OwnB wr2 w.heap.size v2 (L ++ (bytes4 true x).take j) ∧ Below w.heap.size w wr2) (fun _ _ i2 _ => 4 - (intOf i2).toNat)
      case atStart => exact ⟨0, Nat.zero_le _, rfl, by simpa using hO, hB⟩
      case round =>
        obtain ⟨j, hj, rfl, hO2, hB2⟩ := hrel
        by_cases hjl : j < 4
        · have hb := byte_at x j hjl
          have hnx := Lib.hid (bytes4_take true x j hjl)
          have hMl : (L ++ (bytes4 true x).take j).length ≤ 104 := by rw [List.length_append, List.length_take]; omega
          generalize (bytes4 true x).getD j 0 = c at hb hnx
          obtain ⟨M, hM⟩ : ∃ M, M = L ++ (bytes4 true x).take j := ⟨_, rfl⟩
          rw [← hM] at hO2 hMl
          have hM' := Lib.hid (show L ++ (bytes4 true x).take (j + 1) = M ++ [c] by rw [hnx.out, hM, List.append_assoc])
          clear hM hnx
          have hbs := hB2.size
          have hb' := Lib.hid (show (x : Int) / 2 ^ (8 * j) % 256 = (c.toNat : Int) by
            rw [hb]
            have h : ((2 ^ (8 * j) : Nat) : Int) = (2 : Int) ^ (8 * j) := by rw [Int.natCast_pow]; rfl
            rw [← h]; first | rfl | simp)
          clear hb
          go_wp2_with (at_builtin; refine wpList_append_byte rfl _ _ rfl _ _ _ _ rfl hO2 c _ hb'.out rfl (by omega) hbs ?_; intro v1 w1 hO1 hg1)
          go_wp2
          go_roundw
          case rel => exact ⟨j + 1, by omega, by go_num, by rw [hM'.out]; exact hO1, below_append hB2 hO2 hg1 hbs⟩
          case measure => simp [intOf]; omega
        · obtain rfl : j = 4 := by omega
          have hO3 : OwnB wr w.heap.size u5 ((ws.take (k + 1)).flatMap (bytes4 true)) := by rw [hL'.out]; exact hO2
          go_wp2
          go_roundw
          case rel => exact ⟨k + 1, by omega, by go_num, hO3, hB2⟩
          case measure => simp [intOf]; omega
    · obtain rfl : k = ws.length := by omega
      rw [List.take_length] at hO
      have hTl : (ws.flatMap (bytes4 true)).length ≤ 100 := by
        have : ∀ l : List Nat, (l.flatMap (bytes4 true)).length = 4 * l.length := by
          intro l; induction l with
          | nil => rfl
          | cons a r ih => simp [List.flatMap_cons, bytes4_length, ih]; omega
        rw [this]; omega
      have hT0 : ws.flatMap (bytes4 true) ≠ [] := by
        cases ws with
        | nil => exact absurd hne (by decide)
        | cons a r => simp [List.flatMap_cons, bytes4]
      generalize hTe : ws.flatMap (bytes4 true) = T at hO hTl hT0
      have hTh := Lib.hid hTe
      clear hTe
      obtain ⟨g, cap', rfl, hcell⟩ := hO.shape hT0
      have hcv := run_convert_bytes_back (P := Tryd.prog) wr 99 9 5 ⟨g, 0, none⟩ cap' _ Tryd.underlying99 Tryd.underlying5 Tryd.underlying9 hcell
      have hh := codingHex ⟨T.toArray⟩ wr (by show T.toArray.size ≤ _; simp; omega)
      clear hcell hO hT0 hc hws
      go_wp2_with fail
      refine hh.mono ?_
      rintro e w1 ⟨rfl, hB1⟩
      go_wp2
      go_ret
      exact ⟨by rw [hTh.out]; rfl, hB.then (Nat.le_refl _) hB1⟩
set_option maxRecDepth 100000 in
theorem sumTextB (B o cap : Nat) (ws : List Nat) (hws : ∀ x ∈ ws, x < 4294967296) (hne : 0 < ws.length) (hlen : ws.length ≤ 8) (w : World) (hbw : B < w.heap.size) (hc : ∀ i (h : i < ws.length), w.cell? ⟨B, o + i, none⟩ = some (.int .u32 (ws[i] : Nat))) :
    Calls Tryd.prog 175 #[.slice (some ⟨B, o, none⟩) ws.length cap, .bool false] w fun e w' => e = .returned (.string ⟨(hexL (ws.flatMap (bytes4 false))).toArray⟩) ∧ Below w.heap.size w w' := by
  go_enter Tryd.func175, Tryd.ntmps175
  go_wp2
  go_loopw [5, 7, 8, 11] (fun v _ _ i wr => ∃ k : Nat, k ≤ ws.length ∧ i = .int .i64 k ∧ OwnB wr w.heap.size v ((ws.take k).flatMap (bytes4 false)) ∧ Below w.heap.size w wr) (fun _ _ _ i _ => ws.length - (intOf i).toNat)
  case atStart => exact ⟨0, Nat.zero_le _, rfl, OwnB.nil _ _, Below.refl _ _⟩
  case round =>
    obtain ⟨k, hk, rfl, hO, hB⟩ := hrel
    by_cases hlt : k < ws.length
    · have hcell := (hB.cell (p := ⟨B, o + k, none⟩) hbw).trans (hc k hlt)
      have hx := hws _ (List.getElem_mem hlt)
      have hL : (ws.take (k + 1)).flatMap (bytes4 false) = (ws.take k).flatMap (bytes4 false) ++ bytes4 false ws[k] := by
        rw [List.take_succ_eq_append_getElem hlt, List.flatMap_append, List.flatMap_cons, List.flatMap_nil, List.append_nil]
      have hLl : ((ws.take k).flatMap (bytes4 false)).length ≤ 100 := by
        have : ∀ l : List Nat, (l.flatMap (bytes4 false)).length = 4 * l.length := by
          intro l; induction l with
          | nil => rfl
          | cons a r ih => simp [List.flatMap_cons, bytes4_length, ih]; omega
        rw [this, List.length_take]; omega
      have hL' := Lib.hid hL
      clear hL
      generalize (ws.take k).flatMap (bytes4 false) = L at hO hLl hL'
      generalize ws[k] = x at hcell hx hL'
      go_wp2
      go_loopw [5, 8, 15] (fun v2 _ i2 wr2 => ∃ j : Nat, j ≤ 4 ∧ i2 = .int .i64 j ∧ OwnB wr2 w.heap.size v2 (L ++ (bytes4 false x).take j) ∧ Below w.heap.size w wr2) (fun _ _ i2 _ => 4 - (intOf i2).toNat)
      case atStart => exact ⟨0, Nat.zero_le _, rfl, by simpa using hO, hB⟩
      case round =>
        obtain ⟨j, hj, rfl, hO2, hB2⟩ := hrel
        by_cases hjl : j < 4
        · have hb := byte_atB x j hjl
          have hnx := Lib.hid (bytes4_take false x j hjl)
          have hMl : (L ++ (bytes4 false x).take j).length ≤ 104 := by rw [List.length_append, List.length_take]; omega
          generalize (bytes4 false x).getD j 0 = c at hb hnx
          obtain ⟨M, hM⟩ : ∃ M, M = L ++ (bytes4 false x).take j := ⟨_, rfl⟩
          rw [← hM] at hO2 hMl
          have hM' := Lib.hid (show L ++ (bytes4 false x).take (j + 1) = M ++ [c] by rw [hnx.out, hM, List.append_assoc])
          clear hM hnx
          have hbs := hB2.size
          have hb' := Lib.hid (show (x : Int) / 2 ^ (24 - 8 * j) % 256 = (c.toNat : Int) by
            rw [hb]
            have h : ((2 ^ (24 - 8 * j) : Nat) : Int) = (2 : Int) ^ (24 - 8 * j) := by rw [Int.natCast_pow]; rfl
            rw [← h]; first | rfl | simp)
          clear hb
          have hs1 : (24 - 8 * (j : Int)).toNat = 24 - 8 * j := by omega
          have hs2 : 0 ≤ 24 - 8 * (j : Int) := by omega
          go_wp2_with (at_builtin; refine wpList_append_byte rfl _ _ rfl _ _ _ _ rfl hO2 c _ hb'.out rfl (by omega) hbs ?_; intro v1 w1 hO1 hg1)
          go_wp2
          go_roundw
          case rel => exact ⟨j + 1, by omega, by go_num, by rw [hM'.out]; exact hO1, below_append hB2 hO2 hg1 hbs⟩
          case measure => simp [intOf]; omega
        · obtain rfl : j = 4 := by omega
          have hO3 : OwnB wr w.heap.size u5 ((ws.take (k + 1)).flatMap (bytes4 false)) := by rw [hL'.out]; exact hO2
          go_wp2
          go_roundw
          case rel => exact ⟨k + 1, by omega, by go_num, hO3, hB2⟩
          case measure => simp [intOf]; omega
    · obtain rfl : k = ws.length := by omega
      rw [List.take_length] at hO
      have hTl : (ws.flatMap (bytes4 false)).length ≤ 100 := by
        have : ∀ l : List Nat, (l.flatMap (bytes4 false)).length = 4 * l.length := by
          intro l; induction l with
          | nil => rfl
          | cons a r ih => simp [List.flatMap_cons, bytes4_length, ih]; omega
        rw [this]; omega
      have hT0 : ws.flatMap (bytes4 false) ≠ [] := by
        cases ws with
        | nil => exact absurd hne (by decide)
        | cons a r => simp [List.flatMap_cons, bytes4]
      generalize hTe : ws.flatMap (bytes4 false) = T at hO hTl hT0
      have hTh := Lib.hid hTe
      clear hTe
      obtain ⟨g, cap', rfl, hcell⟩ := hO.shape hT0
      have hcv := run_convert_bytes_back (P := Tryd.prog) wr 99 9 5 ⟨g, 0, none⟩ cap' _ Tryd.underlying99 Tryd.underlying5 Tryd.underlying9 hcell
      have hh := codingHex ⟨T.toArray⟩ wr (by show T.toArray.size ≤ _; simp; omega)
      clear hcell hO hT0 hc hws
      go_wp2_with fail
      refine hh.mono ?_
      rintro e w1 ⟨rfl, hB1⟩
      go_wp2
      go_ret
      exact ⟨by rw [hTh.out]; rfl, hB.then (Nat.le_refl _) hB1⟩
end Go.Proofs.YtdlhihfjigcimaaDoor
