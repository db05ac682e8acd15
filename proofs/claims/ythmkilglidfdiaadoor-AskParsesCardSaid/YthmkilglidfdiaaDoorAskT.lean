/- ask's reader: single: a token that stands alone; fail: an error with its place. -/
import Derived.Test.YthmkilglidfdiaaDoorAskS
import Derived.Test.YthmkilglidfdiaaDoorFoun2
import Derived.Deep.RegionHeld3
namespace Go.Proofs.YthmkilglidfdiaaDoor
open Go.RowKit
theorem trim_span (p : UInt8 → Bool) (s : ByteArray) (k : Nat) (cut : List UInt8) (hp : ∀ c, cut.contains c = p c) : (Lib.trimLeftS (s.extract k s.size).data.toList cut).length + (spanAt p s.data.toList k).length = s.size - k := by
  unfold Lib.trimLeftS spanAt
  rw [show (fun c : UInt8 => cut.contains c) = p from funext hp, Lib.extract_to_end]
  have := congrArg List.length (List.takeWhile_append_dropWhile (p := p) (l := s.data.toList.drop k))
  rw [List.length_append, List.length_drop, ← sz_len] at this
  omega
theorem lone_cut (c : UInt8) : (⟨(List.append [97, 98, 99, 100, 101, 102, 103, 104, 105, 106, 107, 108, 109, 110, 111, 112, 113, 114, 115, 116, 117, 118, 119, 120, 121, 122, 65, 66, 67, 68, 69, 70, 71, 72] [73, 74, 75, 76, 77, 78, 79, 80, 81, 82, 83, 84, 85, 86, 87, 88, 89, 90, 48, 49, 50, 51, 52, 53, 54, 55, 56, 57, 45, 46, 95, 126, 43, 47]).toArray⟩ : ByteArray).data.toList.contains c = loneB c := byte_all (q := fun c => (⟨(List.append [97, 98, 99, 100, 101, 102, 103, 104, 105, 106, 107, 108, 109, 110, 111, 112, 113, 114, 115, 116, 117, 118, 119, 120, 121, 122, 65, 66, 67, 68, 69, 70, 71, 72] [73, 74, 75, 76, 77, 78, 79, 80, 81, 82, 83, 84, 85, 86, 87, 88, 89, 90, 48, 49, 50, 51, 52, 53, 54, 55, 56, 57, 45, 46, 95, 126, 43, 47]).toArray⟩ : ByteArray).data.toList.contains c = loneB c) (by decide +kernel) c
theorem eq_cut (c : UInt8) : (⟨#[61]⟩ : ByteArray).data.toList.contains c = (c == 61) := by
  exact byte_all (q := fun c => (⟨#[61]⟩ : ByteArray).data.toList.contains c = (c == 61)) (by decide +kernel) c
def LonePost (T : TypeId) (w : World) (p : Nat) (s : ByteArray) (k : Nat) (e : Ending) (w' : World) : Prop :=
  match loneAt s.data.toList k with
  | some x => CurPost T w p s (.tuple #[.string ⟨x.1.toArray⟩, .bool true]) x.2 e w'
  | none => CurPost T w p s (.tuple #[.string ⟨#[]⟩, .bool false]) k e w'
theorem LonePost.some {T : TypeId} {w w' : World} {p : Nat} {s : ByteArray} {k : Nat} {e : Ending} {x : List UInt8 × Nat} (h : loneAt s.data.toList k = .some x) (hp : CurPost T w p s (.tuple #[.string ⟨x.1.toArray⟩, .bool true]) x.2 e w') : LonePost T w p s k e w' := by unfold LonePost; rw [h]; exact hp
theorem LonePost.none {T : TypeId} {w w' : World} {p : Nat} {s : ByteArray} {k : Nat} {e : Ending} (h : loneAt s.data.toList k = .none) (hp : CurPost T w p s (.tuple #[.string ⟨#[]⟩, .bool false]) k e w') : LonePost T w p s k e w' := by unfold LonePost; rw [h]; exact hp
theorem lone_text (s : ByteArray) (k n m : Nat) (hn : (spanAt loneB s.data.toList k).length = n) (hm : (spanAt (· == 61) s.data.toList (k + n)).length = m) : s.extract k (k + n + m) = ⟨(spanAt loneB s.data.toList k ++ spanAt (· == 61) s.data.toList (k + n)).toArray⟩ := by
  apply ba_eq
  rw [Lib.extract_data, show k + n + m - k = n + m by omega, List.take_add, ← hn, spanAt_take, List.drop_drop, hn, ← hm, spanAt_take]
section
variable (w : World) (b c : Nat) (s : ByteArray) (k : Nat) (lv : Value)
set_option maxRecDepth 100000 in
set_option maxHeartbeats 1000000 in
theorem askSingle (hR : Blk w b #[.pointer (some ⟨c, 0, none⟩), .string s, lv] tRd) (hC : CurAt tC w c s k) (hbc : c ≠ b) (hs : s.size ≤ 1099511627776) (hk : k ≤ s.size) :
    Calls Tryd.prog 47 #[.pointer (some ⟨b, 0, none⟩)] w (LonePost tC w c s k) := by
  have hbc' : some c ≠ some b := by intro e; cases e; exact hbc rfl
  have h1 := tokenAt w c s k hC
  obtain ⟨n, hn⟩ : ∃ n, (spanAt loneB s.data.toList k).length = n := ⟨_, rfl⟩
  have ht := fun w' => stringsTrimLeft (s.extract k s.size) ⟨(List.append [97, 98, 99, 100, 101, 102, 103, 104, 105, 106, 107, 108, 109, 110, 111, 112, 113, 114, 115, 116, 117, 118, 119, 120, 121, 122, 65, 66, 67, 68, 69, 70, 71, 72] [73, 74, 75, 76, 77, 78, 79, 80, 81, 82, 83, 84, 85, 86, 87, 88, 89, 90, 48, 49, 50, 51, 52, 53, 54, 55, 56, 57, 45, 46, 95, 126, 43, 47]).toArray⟩ w' (by decide) (Go.Proofs.ascii_of_all (by decide))
  obtain ⟨T, hT⟩ : ∃ T : ByteArray, T = ⟨(Lib.trimLeftS (s.extract k s.size).data.toList (⟨(List.append [97, 98, 99, 100, 101, 102, 103, 104, 105, 106, 107, 108, 109, 110, 111, 112, 113, 114, 115, 116, 117, 118, 119, 120, 121, 122, 65, 66, 67, 68, 69, 70, 71, 72] [73, 74, 75, 76, 77, 78, 79, 80, 81, 82, 83, 84, 85, 86, 87, 88, 89, 90, 48, 49, 50, 51, 52, 53, 54, 55, 56, 57, 45, 46, 95, 126, 43, 47]).toArray⟩ : ByteArray).data.toList).toArray⟩ := ⟨_, rfl⟩
  rw [← hT] at ht
  have hTs : T.size + n = s.size - k := by rw [hT, mk_len, ← hn]; exact trim_span loneB s k _ lone_cut
  have hkn : k + n ≤ s.size := by omega
  obtain ⟨m, hm⟩ : ∃ m, (spanAt (· == 61) s.data.toList (k + n)).length = m := ⟨_, rfl⟩
  obtain ⟨j, hj⟩ : ∃ j, j = k + n := ⟨_, rfl⟩
  have ht2 := fun w' => stringsTrimLeft (s.extract j s.size) ⟨#[61]⟩ w' (by decide) (Go.Proofs.ascii_of_all (by decide))
  obtain ⟨T2, hT2⟩ : ∃ T : ByteArray, T = ⟨(Lib.trimLeftS (s.extract j s.size).data.toList (⟨#[61]⟩ : ByteArray).data.toList).toArray⟩ := ⟨_, rfl⟩
  rw [← hT2] at ht2
  have hT2s : T2.size + m = s.size - j := by rw [hT2, mk_len, ← hm, hj]; exact trim_span (· == 61) s _ _ eq_cut
  obtain ⟨j2, hj2⟩ : ∃ j2, j2 = j + m := ⟨_, rfl⟩
  have hxt : Hid (s.extract k j2 = ⟨(spanAt loneB s.data.toList k ++ spanAt (· == 61) s.data.toList (k + n)).toArray⟩) := Lib.hid (by rw [hj2, hj]; exact lone_text s k n m hn hm)
  have hlo0 : loneAt s.data.toList k = if 0 < n ∧ stopB s.data.toList (blAt s.data.toList (k + n + m)) = true then some (spanAt loneB s.data.toList k ++ spanAt (· == 61) s.data.toList (k + n), blAt s.data.toList (k + n + m)) else none := by
    have e : (spanAt loneB s.data.toList k ≠ []) = (0 < n) := by
      rw [← hn]
      exact propext (List.length_pos_iff).symm
    unfold loneAt
    simp only [hn, hm, e]
  have hlo : Hid (loneAt s.data.toList k = if 0 < n ∧ stopB s.data.toList (blAt s.data.toList j2) = true then some (spanAt loneB s.data.toList k ++ spanAt (· == 61) s.data.toList (k + n), blAt s.data.toList j2) else none) := Lib.hid (by rw [hj2, hj]; exact hlo0)
  clear hlo0
  have hjs : j ≤ s.size := by omega
  have hj2s : j2 ≤ s.size := by omega
  have s1 : ((s.size - k : Nat) : Int) - (T.size : Int) = (n : Int) := by omega
  have s2 : ((s.size - j : Nat) : Int) - (T2.size : Int) = (m : Int) := by omega
  have q0 : IntKind.i64.wrap (n : Int) = (n : Int) := by rw [IntKind.wrap_i64]; omega
  have q00 : IntKind.i64.wrap (m : Int) = (m : Int) := by rw [IntKind.wrap_i64]; omega
  have q1 : IntKind.i64.wrap ((k : Int) + (n : Int)) = (k : Int) + (n : Int) := by rw [IntKind.wrap_i64]; omega
  have q2 : IntKind.i64.wrap ((k : Int) + (n : Int) + (m : Int)) = (k : Int) + (n : Int) + (m : Int) := by rw [IntKind.wrap_i64]; omega
  have z1 : (0 : Int) ≤ (k : Int) + (n : Int) := by omega
  have z2 : (0 : Int) ≤ (k : Int) + (n : Int) + (m : Int) := by omega
  have y1 : ((k : Int) + (n : Int)).toNat = j := by omega
  have y2 : ((k : Int) + (n : Int) + (m : Int)).toNat = j2 := by omega
  have b1 : (k : Int) ≤ (s.size : Int) := by omega
  have b2 : (k : Int) + (n : Int) ≤ (s.size : Int) := by omega
  have b3 : (k : Int) ≤ (k : Int) + (n : Int) + (m : Int) := by omega
  have b4 : (k : Int) + (n : Int) + (m : Int) ≤ (s.size : Int) := by omega
  have h3 : ∀ w4, CurAt tC w4 c s k → Calls Tryd.prog 74 #[.pointer (some ⟨c, 0, none⟩), .int .i64 ((k : Int) + (n : Int) + (m : Int))] w4 (CurPost tC w4 c s (.tuple #[]) j2) := by
    intro w4 h
    have := tokenGo w4 c s k ((k : Int) + (n : Int) + (m : Int)) h hs
    rw [show (k : Int) + (n : Int) + (m : Int) = (j2 : Int) by omega, clampAt_nat s j2 hj2s] at this
    rw [show (k : Int) + (n : Int) + (m : Int) = (j2 : Int) by omega]
    exact this
  have h5 := fun w4 j5 h => tokenGo w4 c s j5 (k : Int) h hs
  rw [clampAt_nat s k hk] at h5
  have hmk : ∀ w', Below w.heap.size w w' → Below w.heap.size w w' ∧ w'.cell? ⟨b, 1, none⟩ = some (.string s) := fun w' h => ⟨h, (hR.later h).cell 1 rfl⟩
  have c0 := hR.cell 0 rfl
  have c1 := hR.cell 1 rfl
  have hR' := Lib.hid hR
  have hC' := Lib.hid hC
  have hj' := Lib.hid (And.intro hj hj2)
  have hTs' := Lib.hid (And.intro hTs hT2s)
  clear hT hT2 hn hm hR hC hj hj2 hTs hT2s hkn
  go_enter Tryd.func47, Tryd.ntmps47
  go_wp2_with fail
  refine h1.mono ?_
  rintro e w1 ⟨rfl, rfl⟩
  go_wp2_with fail
  clear c0 c1
  go_region_held3 (fun w' => Below w1.heap.size w1 w' ∧ w'.cell? ⟨b, 1, none⟩ = some (.string s))
    (first | (exact hmk _ (Below.refl _ _).drew) | (go_split_ands; exact hmk _ ((by assumption : Below w1.heap.size w1 _).then (Nat.le_refl _) (by assumption))))
    (first | (go_at_call 33; go_split_ands; refine (ht _).mono ?_; rintro e w2 ⟨rfl, hB2⟩))
  go_split_ands
  have hBw : Below w1.heap.size w1 w2 := by assumption
  have hR2 := Lib.hid (hR'.out.later hBw)
  have hC2 := Lib.hid (hC'.out.later hBw)
  have hB2' := Lib.hid hBw
  have hmk2 : ∀ w', Below w2.heap.size w2 w' → Below w2.heap.size w2 w' ∧ w'.cell? ⟨b, 1, none⟩ = some (.string s) := fun w' h => ⟨h, (hR2.out.later h).cell 1 rfl⟩
  have c1 := hR2.out.cell 1 rfl
  clear hmk ht hBw
  go_wp2_with fail
  clear c1
  go_region_held3 (fun w' => Below w2.heap.size w2 w' ∧ w'.cell? ⟨b, 1, none⟩ = some (.string s))
    (first | (exact hmk2 _ (Below.refl _ _).drew) | (go_split_ands; exact hmk2 _ ((by assumption : Below w2.heap.size w2 _).then (Nat.le_refl _) (by assumption))))
    (first | (go_at_call 33; go_split_ands; refine (ht2 _).mono ?_; rintro e w3 ⟨rfl, hB3⟩))
  go_split_ands
  have hBw : Below w2.heap.size w2 w3 := by assumption
  have hR3 := Lib.hid (hR2.out.later hBw)
  have hC3 := Lib.hid (hC2.out.later hBw)
  have hB3' := Lib.hid (hB2'.out.then (Nat.le_refl _) hBw)
  have c0 := hR3.out.cell 0 rfl
  clear hmk2 ht2 hBw
  go_wp2_with fail
  refine (h3 _ hC3.out).mono ?_
  rintro e w4 ⟨rfl, hC4, hG4⟩
  have hR4 := Lib.hid (hR3.out.grown hG4 hbc')
  have hG4' := Lib.hid (only_trans (only_of_below hB3'.out (some c)) hG4)
  have hC4' := Lib.hid hC4
  clear h3 hC4 hG4 c0
  by_cases h0 : 0 < n
  · have hO := askOver w4 b c s j2 lv hR4.out hC4'.out hbc hs hj2s
    cases hst : stopB s.data.toList (blAt s.data.toList j2)
    · rw [hst] at hO
      have hl := Lib.hid (hlo.out.trans (if_neg (by rw [hst]; simp)))
      clear hst
      have d0 : decide ((0 : Int) < (n : Int)) = true := by simpa using h0
      go_wp2_with fail
      refine hO.mono ?_
      rintro e w5 ⟨rfl, hC5, hG5⟩
      have c5 := (hR4.out.grown hG5 hbc').cell 0 rfl
      clear hO
      go_wp2_with fail
      refine (h5 _ _ hC5).mono ?_
      rintro e w6 ⟨rfl, hC6, hG6⟩
      clear h5 hC5
      go_wp2
      go_ret2
      exact LonePost.none hl.out ⟨rfl, hC6, only_trans (only_trans hG4'.out hG5) hG6⟩
    · rw [hst] at hO
      have hl := Lib.hid (hlo.out.trans (if_pos ⟨h0, hst⟩))
      clear hst
      have d0 : decide ((0 : Int) < (n : Int)) = true := by simpa using h0
      go_wp2_with fail
      refine hO.mono ?_
      rintro e w5 ⟨rfl, hC5, hG5⟩
      have c5 := (hR4.out.grown hG5 hbc').cell 1 rfl
      clear hO h5
      go_wp2
      go_ret2
      exact LonePost.some hl.out ⟨by rw [hxt.out]; rfl, hC5, only_trans hG4'.out hG5⟩
  · have hl := Lib.hid (hlo.out.trans (if_neg (by simp [h0])))
    have d0 : decide ((0 : Int) < (n : Int)) = false := by simpa using h0
    have c5 := hR4.out.cell 0 rfl
    go_wp2_with fail
    refine (h5 _ _ hC4'.out).mono ?_
    rintro e w6 ⟨rfl, hC6, hG6⟩
    clear h5
    go_wp2
    go_ret2
    exact LonePost.none hl.out ⟨rfl, hC6, only_trans hG4'.out hG6⟩
end
end Go.Proofs.YthmkilglidfdiaaDoor
