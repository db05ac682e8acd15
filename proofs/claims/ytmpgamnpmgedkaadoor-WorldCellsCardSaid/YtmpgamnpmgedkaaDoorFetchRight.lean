/- fetch.Right and the reference's RequestRight. -/
import Derived.Test.YtmpgamnpmgedkaaDoorReq
import Derived.Test.YtmpgamnpmgedkaaDoorToken
namespace Go.Proofs.YtmpgamnpmgedkaaDoor
open Go.RowKit

def headsRight (ps : List (ByteArray × ByteArray)) : Bool := ps.all (fun p => tokW p.1.data.toList)
def reqRight (r : Req) : Bool := decide (0 ≤ r.part ∧ r.part ≤ 3) && tokW r.method.data.toList && decide (r.heads.length ≤ 40) && headsRight r.heads
theorem headsRight_hit {ps : List (ByteArray × ByteArray)} {k : Nat} (h : k < ps.length) (hb : tokW ps[k].1.data.toList = false) : headsRight ps = false := by
  unfold headsRight; rw [List.all_eq_false]; exact ⟨ps[k], List.getElem_mem h, by simp [hb]⟩
theorem headsRight_succ {ps : List (ByteArray × ByteArray)} {k : Nat} (h : k < ps.length) (ha : headsRight (ps.take k) = true) (hb : tokW ps[k].1.data.toList = true) : headsRight (ps.take (k + 1)) = true := by
  unfold headsRight at *; rw [List.take_succ_eq_append_getElem h, List.all_append, ha]; simp [hb]

set_option maxRecDepth 100000 in
set_option maxHeartbeats 800000 in
theorem fetchRight (r : Req) (w : World) (hO : r.Ok w) :
    Calls Tryd.prog 203 #[.agg r.arr] w fun e w' => e = .returned (.bool (reqRight r)) ∧ Below w.heap.size w w' := by
  have z5 := reach_max hO.method
  have hlm := hO.lenMax
  unfold maxLen at hlm
  by_cases hp : 0 ≤ r.part ∧ r.part ≤ 3
  case neg =>
    have hr : Hid (reqRight r = false) := Lib.hid (by unfold reqRight; simp [hp])
    by_cases hp' : r.part < 0
    · go_enter Tryd.func203, Tryd.ntmps203
      go_wp2
      go_ret
      exact ⟨ret_bool (by rw [hr.out]), (Below.refl _ _).alloc (Nat.le_refl _) _⟩
    · have hp2 : 4 ≤ r.part := by omega
      go_enter Tryd.func203, Tryd.ntmps203
      go_wp2
      go_ret
      exact ⟨ret_bool (by rw [hr.out]), (Below.refl _ _).alloc (Nat.le_refl _) _⟩
  obtain ⟨hp1, hp2⟩ := hp
  cases hm : tokW r.method.data.toList
  · have hr : Hid (reqRight r = false) := Lib.hid (by unfold reqRight; simp [hm])
    go_enter Tryd.func203, Tryd.ntmps203
    go_wp2_with (go_at_call 132; refine (tokenIs _ _ z5).mono ?_; rintro e w' ⟨rfl, rfl⟩)
    go_ret
    exact ⟨ret_bool (by rw [hr.out]), (Below.refl _ _).alloc (Nat.le_refl _) _⟩
  by_cases h40 : 40 < r.heads.length
  · have hr : Hid (reqRight r = false) := Lib.hid (by unfold reqRight; simp [show ¬ r.heads.length ≤ 40 by omega])
    go_enter Tryd.func203, Tryd.ntmps203
    go_wp2_with (go_at_call 132; refine (tokenIs _ _ z5).mono ?_; rintro e w' ⟨rfl, rfl⟩)
    go_ret
    exact ⟨ret_bool (by rw [hr.out]), (Below.refl _ _).alloc (Nat.le_refl _) _⟩
  have hr : Hid (reqRight r = headsRight r.heads) := Lib.hid (by unfold reqRight; simp [hm, hp1, hp2, show r.heads.length ≤ 40 by omega])
  have hat := hO.at_
  have hre := hO.re
  clear hO
  generalize reqRight r = RR at *
  obtain ⟨part, orig, dest, path, query, method, addr, cap, heads, creds, body⟩ := r
  dsimp only [Req.arr] at *
  go_enter Tryd.func203, Tryd.ntmps203
  go_wp2_with (go_at_call 132; refine (tokenIs _ _ z5).mono ?_; rintro e w' ⟨rfl, rfl⟩)
  go_loopw [28] (fun i wr => ∃ k : Nat, k ≤ heads.length ∧ i = .int .i64 k ∧ Below w.heap.size w wr ∧ Hid (headsRight (heads.take k) = true)) (fun i _ => heads.length - (intOf i).toNat)
  case atStart => exact ⟨0, Nat.zero_le _, rfl, (Below.refl _ _).alloc (Nat.le_refl _) _, Lib.hid (by simp [headsRight])⟩
  case round =>
    obtain ⟨k, hk, rfl, hB, hS⟩ := hrel
    by_cases hlt : k < heads.length
    · obtain ⟨b, off, rfl, h1, h2⟩ := (hat.later hB) k hlt
      have y := (hre.sz _ (List.getElem_mem hlt)).1
      cases hb : tokW heads[k].1.data.toList
      · have hn := Lib.hid (headsRight_hit hlt hb)
        go_wp2_with (go_at_call 132; refine (tokenIs _ _ y).mono ?_; rintro e w' ⟨rfl, rfl⟩)
        go_ret
        exact ⟨ret_bool (by rw [hr.out, hn.out]), hB.alloc hB.size _⟩
      · have hn := Lib.hid (headsRight_succ hlt hS.out hb)
        go_wp2_with (go_at_call 132; refine (tokenIs _ _ y).mono ?_; rintro e w' ⟨rfl, rfl⟩)
        go_roundw
        case rel =>
          exact ⟨k + 1, by omega, by go_num, hB.alloc hB.size _, hn⟩
        case measure => simp [intOf]; omega
    · obtain rfl : k = heads.length := by omega
      have hn := hS.out
      rw [List.take_length] at hn
      have hn' := Lib.hid hn
      clear hn
      go_wp2
      go_ret
      exact ⟨ret_bool (by rw [hr.out, hn'.out]), hB⟩

/-- what is asked of a request besides its headers' names -/
def reqRight0 (r : Req) : Bool := decide (0 ≤ r.part ∧ r.part ≤ 3) && tokW r.method.data.toList && decide (r.heads.length ≤ 40)
theorem reqRight_eq (r : Req) : reqRight r = (reqRight0 r && headsRight r.heads) := rfl

set_option maxRecDepth 100000 in
set_option maxHeartbeats 1600000 in
theorem refRequestRight (r : Req) (w : World) (hO : r.Ok w) :
    Calls Tryd.prog 204 #[.agg r.arr] w fun e w' => e = .returned (.bool (reqRight r)) ∧ Below w.heap.size w w' := by
  have z5 := reach_max hO.method
  have hlm := hO.lenMax
  unfold maxLen at hlm
  have hr := Lib.hid (reqRight_eq r)
  have hat := hO.at_
  have hre := hO.re
  clear hO
  have h0 : Hid (reqRight0 r = (decide (0 ≤ r.part ∧ r.part ≤ 3) && tokW r.method.data.toList && decide (r.heads.length ≤ 40))) := Lib.hid rfl
  generalize reqRight0 r = R0 at *
  generalize reqRight r = RR at *
  obtain ⟨part, orig, dest, path, query, method, addr, cap, heads, creds, body⟩ := r
  dsimp only [Req.arr] at *
  go_enter Tryd.func204, Tryd.ntmps204
  go_wp2_with (first | (go_at_call 102; refine (within_any _ _ _ _).mono ?_; rintro e w' ⟨rfl, rfl⟩) | (go_at_call 125; refine (refToken _ _ z5).mono ?_; rintro e w' ⟨rfl, rfl⟩))
  all_goals
    go_loopw [3, 23] (fun v i wr => ∃ (k : Nat) (b : Bool), k ≤ heads.length ∧ i = .int .i64 k ∧ v = .bool b ∧ Below w.heap.size w wr ∧ Hid (b = (R0 && headsRight (heads.take k)))) (fun _ i _ => heads.length - (intOf i).toNat)
    case atStart => exact ⟨0, _, Nat.zero_le _, rfl, rfl, (Below.refl _ _).alloc (Nat.le_refl _) _, Lib.hid (by rw [h0.out]; simp [*, headsRight] <;> omega)⟩
    case round =>
      obtain ⟨k, b, hk, rfl, rfl, hB, hS⟩ := hrel
      by_cases hlt : k < heads.length
      · obtain ⟨g, off, rfl, h1, h2⟩ := (hat.later hB) k hlt
        have y := (hre.sz _ (List.getElem_mem hlt)).1
        have hn : Hid ((R0 && headsRight (heads.take (k + 1))) = ((R0 && headsRight (heads.take k)) && tokW heads[k].1.data.toList)) := Lib.hid (by
          unfold headsRight; rw [List.take_succ_eq_append_getElem hlt, List.all_append]; simp [Bool.and_assoc])
        cases b
        · go_wp2
          go_roundw
          case rel => exact ⟨k + 1, false, by omega, by go_num, rfl, hB.alloc hB.size _, Lib.hid (by rw [hn.out, ← hS.out]; rfl)⟩
          case measure => simp [intOf]; omega
        · go_wp2_with (go_at_call 125; refine (refToken _ _ y).mono ?_; rintro e w' ⟨rfl, rfl⟩)
          go_roundw
          case rel => exact ⟨k + 1, tokW heads[k].1.data.toList, by omega, by go_num, rfl, hB.alloc hB.size _, Lib.hid (by rw [hn.out, ← hS.out]; rfl)⟩
          case measure => simp [intOf]; omega
      · obtain rfl : k = heads.length := by omega
        have hn := hS.out
        rw [List.take_length] at hn
        have hn' := Lib.hid hn
        clear hn
        go_wp2
        go_ret
        exact ⟨ret_bool (by rw [hr.out, hn'.out]), hB⟩

end Go.Proofs.YtmpgamnpmgedkaaDoor
