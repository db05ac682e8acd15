/- url.scheme: which scheme a text begins with. -/
import Derived.Test.YthmkilglidfdiaaGreatDoorUrlP
import Derived.Test.YthmkilglidfdiaaGreatDoorFound
import Derived.Deep.RegionHeld3
import Derived.BigQuiet
import Derived.BigRegion
import Derived.Deep.RegionWith
namespace Go.Proofs.YthmkilglidfdiaaGreatDoor
open Go.RowKit
/-- the schemes, and whether they are secure -/
def schNames : List (ByteArray × Bool) := [((⟨#[104, 116, 116, 112, 58, 47, 47]⟩ : ByteArray), false), ((⟨#[104, 116, 116, 112, 115, 58, 47, 47]⟩ : ByteArray), true)]
abbrev schArr : Value := .agg #[.string (⟨#[104, 116, 116, 112, 58, 47, 47]⟩ : ByteArray), .bool false, .string (⟨#[104, 116, 116, 112, 115, 58, 47, 47]⟩ : ByteArray), .bool true]
theorem schIdx : ∀ (k : Nat) (h : k < schNames.length), ∃ nm sc, schNames[k] = (nm, sc) ∧ (nm.size = 7 ∨ nm.size = 8) ∧ ∀ w : World, (Instr.index 57 schArr (.int .i64 (k : Int))).run Tryz.prog w = .ok (.agg #[.string nm, .bool sc]) w
  | 0, _ => ⟨_, _, rfl, .inl rfl, fun w => by kernel_rfl⟩
  | 1, _ => ⟨_, _, rfl, .inr rfl, fun w => by kernel_rfl⟩
  | k + 2, h => by unfold schNames at h; simp at h; omega
def hitB (l : List UInt8) (nm : ByteArray) : Bool := decide (nm.size ≤ l.length) && (lower (l.take nm.size) == nm.data.toList)
def schTo (l : List UInt8) (k : Nat) : Option (Bool × List UInt8) := ((schNames.take k).find? (fun x => hitB l x.1)).map fun x => (x.2, l.drop x.1.size)
theorem schTo_succ (l : List UInt8) (k : Nat) (h : k < schNames.length) {nm : ByteArray} {sc : Bool} (e : schNames[k] = (nm, sc)) (h0 : schTo l k = none) :
    schTo l (k + 1) = if hitB l nm then some (sc, l.drop nm.size) else none := by
  unfold schTo at h0 ⊢
  rw [List.take_succ_eq_append_getElem h, List.find?_append, e]
  rw [Option.map_eq_none_iff] at h0
  rw [h0]
  simp only [Option.none_or, List.find?_cons, List.find?_nil]
  cases hitB l nm <;> rfl
theorem schTo_more (l : List UInt8) : ∀ (k : Nat) (x : Bool × List UInt8), schTo l (k + 1) = some x → k < 2 → schTo l 2 = some x
  | 1, x, h, _ => h
  | 0, x, h, _ => by
    have h0 : schTo l 1 = some x := h
    unfold schTo schNames at h0 ⊢
    simp only [List.take_succ_cons, List.take_zero, List.find?_cons, List.find?_nil] at h0 ⊢
    cases hh : hitB l (⟨#[104, 116, 116, 112, 58, 47, 47]⟩ : ByteArray)
    · rw [hh] at h0; cases h0
    · rw [hh] at h0; exact h0
theorem sch_all (l : List UInt8) : schTo l 2 = schemeL l := by
  have e7 : hitB l (⟨#[104, 116, 116, 112, 58, 47, 47]⟩ : ByteArray) = decide (lower (l.take 7) = [104, 116, 116, 112, 58, 47, 47]) := by
    unfold hitB
    rw [show ((⟨#[104, 116, 116, 112, 58, 47, 47]⟩ : ByteArray) : ByteArray).size = 7 from rfl, show ((⟨#[104, 116, 116, 112, 58, 47, 47]⟩ : ByteArray) : ByteArray).data.toList = [104, 116, 116, 112, 58, 47, 47] from rfl]
    by_cases h : lower (l.take 7) = [104, 116, 116, 112, 58, 47, 47]
    · obtain ⟨a, b, c, d, r, rfl, _⟩ := take7 h
      simp
      exact Bool.beq_eq_decide_eq _ _
    · simp [h]
  have e8 : hitB l (⟨#[104, 116, 116, 112, 115, 58, 47, 47]⟩ : ByteArray) = decide (lower (l.take 8) = [104, 116, 116, 112, 115, 58, 47, 47]) := by
    unfold hitB
    rw [show ((⟨#[104, 116, 116, 112, 115, 58, 47, 47]⟩ : ByteArray) : ByteArray).size = 8 from rfl, show ((⟨#[104, 116, 116, 112, 115, 58, 47, 47]⟩ : ByteArray) : ByteArray).data.toList = [104, 116, 116, 112, 115, 58, 47, 47] from rfl]
    by_cases h : lower (l.take 8) = [104, 116, 116, 112, 115, 58, 47, 47]
    · obtain ⟨a, b, c, d, e, r, rfl, _⟩ := take8 h
      simp
      exact Bool.beq_eq_decide_eq _ _
    · simp [h]
  unfold schTo schNames schemeL
  simp only [List.take_succ_cons, List.take_zero, List.find?_cons, List.find?_nil, e7, e8]
  by_cases h7 : lower (l.take 7) = [104, 116, 116, 112, 58, 47, 47]
  · rw [if_pos h7]; simp [h7]; rfl
  · rw [if_neg h7]
    by_cases h8 : lower (l.take 8) = [104, 116, 116, 112, 115, 58, 47, 47]
    · rw [if_pos h8]; simp [h7, h8]; rfl
    · rw [if_neg h8]; simp [h7, h8]
def schV (l : List UInt8) : Value := match schemeL l with
  | some (sec, r) => .tuple #[.bool sec, .string ⟨r.toArray⟩, .bool true]
  | none => .tuple #[.bool false, .string ⟨#[]⟩, .bool false]
theorem schV_some {l r : List UInt8} {sec : Bool} (h : schemeL l = some (sec, r)) : schV l = .tuple #[.bool sec, .string ⟨r.toArray⟩, .bool true] := by unfold schV; rw [h]
theorem schV_none {l : List UInt8} (h : schemeL l = none) : schV l = .tuple #[.bool false, .string ⟨#[]⟩, .bool false] := by unfold schV; rw [h]
set_option maxRecDepth 100000 in
set_option maxHeartbeats 4000000 in
set_option linter.unusedSimpArgs false in
theorem urlScheme (s : ByteArray) (w : World) (hs : s.size ≤ 1000000) :
    Calls Tryz.prog 14 #[.string s] w fun e w' => e = .returned (schV s.data.toList) ∧ Below w.heap.size w w' := by
  have hn2 : schNames.length = 2 := rfl
  go_enter Tryz.func14, Tryz.ntmps14
  go_wp2
  go_loopw [10] (fun i wr => ∃ k : Nat, k ≤ schNames.length ∧ i = .int .i64 k ∧ Hid (schTo s.data.toList k = none) ∧ Hid (Below w.heap.size w wr)) (fun i _ => schNames.length - (intOf i).toNat)
  case atStart => exact ⟨0, Nat.zero_le _, rfl, Lib.hid rfl, Lib.hid (Below.refl _ _)⟩
  case round =>
    obtain ⟨k, hk, rfl, hN, hB⟩ := hrel
    by_cases hlt : k < schNames.length
    · obtain ⟨nm, sc, he, hsz, hix⟩ := schIdx k hlt
      have hsu := Lib.hid (schTo_succ s.data.toList k hlt he hN.out)
      have hmo := Lib.hid (fun x h => schTo_more s.data.toList k x h (by omega))
      have hb1 := Lib.hid ((Below.refl wr.heap.size wr).alloc (Nat.le_refl _) (.cells #[.string nm, .bool sc] 56))
      have hcell := fun w' (h : Below (wr.heap.size + 1) (wr.alloc (.cells #[.string nm, .bool sc] 56)) w') => (⟨h, box_cell h 0 rfl, box_cell h 1 rfl⟩ : Below (wr.heap.size + 1) (wr.alloc (.cells #[.string nm, .bool sc] 56)) w' ∧ w'.cell? ⟨wr.heap.size, 0, none⟩ = some (.string nm) ∧ w'.cell? ⟨wr.heap.size, 1, none⟩ = some (.bool sc))
      clear he hN
      have hk2 : k < 2 := by omega
      by_cases hle : nm.size ≤ s.size
      · have hd : decide ((nm.size : Int) ≤ (s.size : Int)) = true := by simp; omega
        have hlw := fun w' => codingLower (s.extract 0 nm.size) w' (by rw [ByteArray.size_extract]; unfold maxLen; omega)
        have hex : (s.extract 0 nm.size).data.toList = s.data.toList.take nm.size := by rw [Lib.extract_data]; simp
        rw [hex] at hlw
        obtain ⟨T, hTd⟩ : ∃ T : ByteArray, T = ⟨(lower (s.data.toList.take nm.size)).toArray⟩ := ⟨_, rfl⟩
        rw [← hTd] at hlw
        have hq : (T.toList == nm.toList) = hitB s.data.toList nm := by
          unfold hitB
          rw [Lib.toList_data, Lib.toList_data, hTd, ← sz_len]
          simp [hle]
        have hdr : Hid ((s.extract nm.size s.size).data.toList = s.data.toList.drop nm.size) := Lib.hid (by rw [Lib.extract_to_end])
        clear hTd hex
        cases hh : hitB s.data.toList nm
        · rw [hh] at hq
          have hn := Lib.hid (show schTo s.data.toList (k + 1) = none by rw [hsu.out, hh]; rfl)
          clear hh hsu hmo
          go_wp2_with fail
          go_region_held3 (fun w' => Below (wr.heap.size + 1) (wr.alloc (.cells #[.string nm, .bool sc] 56)) w' ∧ w'.cell? ⟨wr.heap.size, 0, none⟩ = some (.string nm) ∧ w'.cell? ⟨wr.heap.size, 1, none⟩ = some (.bool sc))
            (first | (exact hcell _ (Below.refl _ _).drew) | (go_split_ands; exact hcell _ ((by assumption : Below (wr.heap.size + 1) _ _).then (by simp) (by assumption))))
            (first
              | (go_at_call 31; go_split_ands; refine (hlw _).mono ?_; rintro e w2 ⟨rfl, hB2⟩)
              | fail)
          all_goals
            go_split_ands
            have hBn := Lib.hid (hB.out.then (Nat.le_refl _) (below_box (w := wr) (by assumption)))
            go_wp2
            go_roundw
            case rel => exact ⟨k + 1, by omega, by go_num, hn, hBn⟩
            case measure => simp [intOf]; omega
        · rw [hh] at hq
          have hv := Lib.hid (show schemeL s.data.toList = some (sc, s.data.toList.drop nm.size) by
            rw [← sch_all]; exact hmo.out _ (by rw [hsu.out, hh]; rfl))
          clear hh hsu hmo
          go_wp2_with fail
          go_region_held3 (fun w' => Below (wr.heap.size + 1) (wr.alloc (.cells #[.string nm, .bool sc] 56)) w' ∧ w'.cell? ⟨wr.heap.size, 0, none⟩ = some (.string nm) ∧ w'.cell? ⟨wr.heap.size, 1, none⟩ = some (.bool sc))
            (first | (exact hcell _ (Below.refl _ _).drew) | (go_split_ands; exact hcell _ ((by assumption : Below (wr.heap.size + 1) _ _).then (by simp) (by assumption))))
            (first
              | (go_at_call 31; go_split_ands; refine (hlw _).mono ?_; rintro e w2 ⟨rfl, hB2⟩)
              | fail)
          all_goals
            go_split_ands
            have hBn := Lib.hid (hB.out.then (Nat.le_refl _) (below_box (w := wr) (by assumption)))
            go_wp2
            go_quiet (fail)
            go_wp2
            go_returns
            exact ⟨by rw [schV_some hv.out, ← ba_eq hdr.out]; rfl, below_drewN hBn.out _⟩
      · have hd : decide ((nm.size : Int) ≤ (s.size : Int)) = false := by simp; omega
        have hn := Lib.hid (show schTo s.data.toList (k + 1) = none by
          rw [hsu.out]
          unfold hitB
          rw [← sz_len, show decide (nm.size ≤ s.size) = false from decide_eq_false hle]; rfl)
        have hnm := fun w' h => (hcell w' h).2.1
        clear hsu hmo hcell
        go_wp2_with fail
        refine wp_region_held_drew (S := (fun w' => Below (wr.heap.size + 1) (wr.alloc (.cells #[.string nm, .bool sc] 56)) w')) (by kernel_rfl) (by (try dsimp only); exact (Below.refl _ _).drew) (fun hHeld => ?_)
        refine wpAnyH_take (i := 0) (v := ?_) rfl (by kernel_rfl) (by kernel_rfl) (by kernel_rfl) (fun _ _ _ h => h) (Or.inl ⟨by rfl, ?_⟩) (by assumption) ?_
        rotate_left
        · intro w hSw; (try dsimp only at hSw); go_simp; (try with_reducible rfl)
        (try simp only [List.getElem_toArray, List.getElem_cons_succ, List.getElem_cons_zero, Act.put, List.setIfInBounds_toArray, List.set_cons_zero, List.set_cons_succ])
        refine wpAnyH_take (i := 1) (v := ?_) rfl (by kernel_rfl) (by kernel_rfl) (by kernel_rfl) (fun _ _ _ h => h) (Or.inl ⟨by rfl, ?_⟩) (by assumption) ?_
        rotate_left
        · intro w hSw; (try dsimp only at hSw); go_simp; (try with_reducible rfl)
        (try simp only [List.getElem_toArray, List.getElem_cons_succ, List.getElem_cons_zero, Act.put, List.setIfInBounds_toArray, List.set_cons_zero, List.set_cons_succ])
        refine wpAnyH_take (i := 2) (v := ?_) rfl (by kernel_rfl) (by kernel_rfl) (by kernel_rfl) (fun _ _ _ h => h) (Or.inl ⟨by rfl, ?_⟩) (by assumption) ?_
        rotate_left
        · intro w hSw; (try dsimp only at hSw); go_simp; (try with_reducible rfl)
        (try simp only [List.getElem_toArray, List.getElem_cons_succ, List.getElem_cons_zero, Act.put, List.setIfInBounds_toArray, List.set_cons_zero, List.set_cons_succ])
        refine wpAnyH_take (i := 3) (v := ?_) rfl (by kernel_rfl) (by kernel_rfl) (by kernel_rfl) (fun _ _ _ h => h) (Or.inl ⟨by rfl, ?_⟩) (by assumption) ?_
        rotate_left
        · intro w hSw; have h24 := hnm w hSw; clear hSw; go_simp; (try with_reducible rfl)
        (try simp only [List.getElem_toArray, List.getElem_cons_succ, List.getElem_cons_zero, Act.put, List.setIfInBounds_toArray, List.set_cons_zero, List.set_cons_succ])
        refine wpAnyH_take (i := 4) (v := ?_) rfl (by kernel_rfl) (by kernel_rfl) (by kernel_rfl) (fun _ _ _ h => h) (Or.inl ⟨by rfl, ?_⟩) (by assumption) ?_
        rotate_left
        · intro w hSw; (try dsimp only at hSw); go_simp; (try with_reducible rfl)
        (try simp only [List.getElem_toArray, List.getElem_cons_succ, List.getElem_cons_zero, Act.put, List.setIfInBounds_toArray, List.set_cons_zero, List.set_cons_succ])
        refine wpAnyH_take (i := 5) (v := ?_) rfl (by kernel_rfl) (by kernel_rfl) (by kernel_rfl) (fun _ _ _ h => h) (Or.inl ⟨by rfl, ?_⟩) (by assumption) ?_
        rotate_left
        · intro w hSw; (try dsimp only at hSw); go_simp; (try with_reducible rfl)
        (try simp only [List.getElem_toArray, List.getElem_cons_succ, List.getElem_cons_zero, Act.put, List.setIfInBounds_toArray, List.set_cons_zero, List.set_cons_succ])
        refine wpAnyH_take (i := 6) (v := ?_) rfl (by kernel_rfl) (by kernel_rfl) (by kernel_rfl) (fun _ _ _ h => h) (Or.inl ⟨by rfl, ?_⟩) (by assumption) ?_
        rotate_left
        · intro w hSw; (try dsimp only at hSw); go_simp; (try with_reducible rfl)
        (try simp only [List.getElem_toArray, List.getElem_cons_succ, List.getElem_cons_zero, Act.put, List.setIfInBounds_toArray, List.set_cons_zero, List.set_cons_succ])
        refine wpAnyH_take (i := 7) (v := undef) rfl (by kernel_rfl) (by kernel_rfl) (by kernel_rfl) (fun _ _ _ h => h) (Or.inr ⟨by rfl, rfl⟩) (by assumption) ?_
        (try simp only [List.getElem_toArray, List.getElem_cons_succ, List.getElem_cons_zero, Act.put, List.setIfInBounds_toArray, List.set_cons_zero, List.set_cons_succ])
        refine wpAnyH_take (i := 8) (v := undef) rfl (by kernel_rfl) (by kernel_rfl) (by kernel_rfl) (fun _ _ _ h => h) (Or.inr ⟨by rfl, rfl⟩) (by assumption) ?_
        (try simp only [List.getElem_toArray, List.getElem_cons_succ, List.getElem_cons_zero, Act.put, List.setIfInBounds_toArray, List.set_cons_zero, List.set_cons_succ])
        refine wpAnyH_take (i := 9) (v := undef) rfl (by kernel_rfl) (by kernel_rfl) (by kernel_rfl) (fun _ _ _ h => h) (Or.inr ⟨by rfl, rfl⟩) (by assumption) ?_
        (try simp only [List.getElem_toArray, List.getElem_cons_succ, List.getElem_cons_zero, Act.put, List.setIfInBounds_toArray, List.set_cons_zero, List.set_cons_succ])
        refine wpAnyH_take (i := 10) (v := undef) rfl (by kernel_rfl) (by kernel_rfl) (by kernel_rfl) (fun _ _ _ h => h) (Or.inr ⟨by rfl, rfl⟩) (by assumption) ?_
        (try simp only [List.getElem_toArray, List.getElem_cons_succ, List.getElem_cons_zero, Act.put, List.setIfInBounds_toArray, List.set_cons_zero, List.set_cons_succ])
        refine wpAnyH_take (i := 11) (v := undef) rfl (by kernel_rfl) (by kernel_rfl) (by kernel_rfl) (fun _ _ _ h => h) (Or.inr ⟨by rfl, rfl⟩) (by assumption) ?_
        (try simp only [List.getElem_toArray, List.getElem_cons_succ, List.getElem_cons_zero, Act.put, List.setIfInBounds_toArray, List.set_cons_zero, List.set_cons_succ])
        refine wpAnyH_take (i := 12) (v := undef) rfl (by kernel_rfl) (by kernel_rfl) (by kernel_rfl) (fun _ _ _ h => h) (Or.inr ⟨by rfl, rfl⟩) (by assumption) ?_
        (try simp only [List.getElem_toArray, List.getElem_cons_succ, List.getElem_cons_zero, Act.put, List.setIfInBounds_toArray, List.set_cons_zero, List.set_cons_succ])
        refine wpAnyH_take (i := 13) (v := undef) rfl (by kernel_rfl) (by kernel_rfl) (by kernel_rfl) (fun _ _ _ h => h) (Or.inr ⟨by rfl, rfl⟩) (by assumption) ?_
        (try simp only [List.getElem_toArray, List.getElem_cons_succ, List.getElem_cons_zero, Act.put, List.setIfInBounds_toArray, List.set_cons_zero, List.set_cons_succ])
        refine wpAnyH_take (i := 14) (v := undef) rfl (by kernel_rfl) (by kernel_rfl) (by kernel_rfl) (fun _ _ _ h => h) (Or.inr ⟨by rfl, rfl⟩) (by assumption) ?_
        (try simp only [List.getElem_toArray, List.getElem_cons_succ, List.getElem_cons_zero, Act.put, List.setIfInBounds_toArray, List.set_cons_zero, List.set_cons_succ])
        refine wpAnyH_take (i := 15) (v := undef) rfl (by kernel_rfl) (by kernel_rfl) (by kernel_rfl) (fun _ _ _ h => h) (Or.inr ⟨by rfl, rfl⟩) (by assumption) ?_
        (try simp only [List.getElem_toArray, List.getElem_cons_succ, List.getElem_cons_zero, Act.put, List.setIfInBounds_toArray, List.set_cons_zero, List.set_cons_succ])
        refine wpAnyH_take (i := 16) (v := ?_) rfl (by kernel_rfl) (by kernel_rfl) (by kernel_rfl) (fun _ _ _ h => h) (Or.inl ⟨by rfl, ?_⟩) (by assumption) ?_
        rotate_left
        · intro w hSw; (try dsimp only at hSw); go_simp; (try with_reducible rfl)
        (try simp only [List.getElem_toArray, List.getElem_cons_succ, List.getElem_cons_zero, Act.put, List.setIfInBounds_toArray, List.set_cons_zero, List.set_cons_succ])
        refine wpAnyH_done (by kernel_rfl) ?_ _
        have hBn := Lib.hid (hB.out.then (Nat.le_refl _) (below_box (w := wr) (by assumption)))
        go_wp2
        go_roundw
        case rel => exact ⟨k + 1, by omega, by go_num, hn, hBn⟩
        case measure => simp [intOf]; omega
    · obtain rfl : k = schNames.length := by omega
      have hv := Lib.hid (show schemeL s.data.toList = none by rw [← sch_all]; exact hN.out)
      go_wp2
      go_returns
      exact ⟨by rw [schV_none hv.out]; rfl, hB.out⟩
end Go.Proofs.YthmkilglidfdiaaGreatDoor
