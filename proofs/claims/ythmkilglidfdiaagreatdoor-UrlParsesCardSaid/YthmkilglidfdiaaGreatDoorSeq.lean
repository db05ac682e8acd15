/- strings.SplitSeq at one byte: its closure, whose state lies in a box. -/
import Derived.RangeFuncNested
import Derived.RangeFuncBound
import Derived.RangeFuncCalls
import Derived.RangeFuncLeaves
import Derived.Shelf.Abstract
import Derived.Shelf.RegionOpen
import Derived.WalkKit
import Derived.OwnWalkIn
import Derived.TacticsInMore
import Derived.LoopNIn
import Derived.LoopIn
import Derived.Test.YthmkilglidfdiaaGreatDoorFound
import Derived.Test.YthmkilglidfdiaaGreatDoorShelf
namespace Go.Proofs.YthmkilglidfdiaaGreatDoor
open Go.RowKit Go.Shelf
attribute [local go_sem] Oper.semAt_some

def boxLen (bs : Nat) (W : World) : Nat := match W.cell? ⟨bs, 0, none⟩ with | some (.string s) => s.size | _ => 0

theorem cut_index (c : UInt8) : ∀ (l : List UInt8), (Lib.indexByte l c = -1 ∧ cutL c l = [l]) ∨ (∃ k : Nat, Lib.indexByte l c = k ∧ k < l.length ∧ cutL c l = l.take k :: cutL c (l.drop (k + 1)))
  | [] => .inl ⟨rfl, rfl⟩
  | x :: l => by
    by_cases h : x = c
    · subst h
      exact .inr ⟨0, by simp [Lib.indexByte], by simp, by simp [cutL]⟩
    · obtain ⟨p, r, e1, e2⟩ := cutL_skip h l
      have hb : (x == c) = false := by simpa using h
      rcases cut_index c l with ⟨i, e⟩ | ⟨k, i, hk, e⟩
      · refine .inl ⟨by simp [Lib.indexByte, hb, i], ?_⟩
        rw [e] at e1
        injection e1 with e3 e4
        rw [e2, ← e3, ← e4]
      · refine .inr ⟨k + 1, ?_, by simp; omega, ?_⟩
        · have : ((k : Int) == -1) = false := by simp
          simp [Lib.indexByte, hb, i, this]
        · rw [e] at e1
          injection e1 with e3 e4
          rw [e2, ← e3, ← e4]
          simp
set_option maxRecDepth 100000 in
set_option maxHeartbeats 1600000 in
theorem splitSeq_box (c : UInt8) (l bs bp bk : Nat) (J Jx : List (List UInt8) → World → Prop) (s0 : ByteArray) (hs0 : s0.size < 4294967281)
    (hJs : ∀ pre W v, J pre W → J pre (W.setCell ⟨bs, 0, none⟩ v))
    (hJc : ∀ pre W, J pre W → W.cell? ⟨bp, 0, none⟩ = some (.string ⟨#[c]⟩) ∧ W.cell? ⟨bk, 0, none⟩ = some (.int .i64 0) ∧ W.frozen? ⟨bs, 0, none⟩ = false)
    (hY : ∀ pre (x : ByteArray) W, J pre W → x.size ≤ s0.size → YieldAt Fence.wide 2 Tryz.prog l #[.string x] W fun e W' =>
      (e = .returned (.bool true) ∧ J (pre ++ [x.data.toList]) W' ∧ W'.cell? ⟨bs, 0, none⟩ = W.cell? ⟨bs, 0, none⟩) ∨ (e = .returned (.bool false) ∧ Jx (pre ++ [x.data.toList]) W'))
    (W : World) (hW : W.cell? ⟨bs, 0, none⟩ = some (.string s0)) (h0 : J [] W) :
    CallsIn Fence.wide 3 Tryz.prog 97 #[.func (.yield l) #[] #[], .pointer (some ⟨bp, 0, none⟩), .pointer (some ⟨bs, 0, none⟩), .pointer (some ⟨bk, 0, none⟩)] W fun e W' => (∃ v, e = .returned v) ∧
      (J (cutL c s0.data.toList) W' ∨ (∃ pre, pre ≠ [] ∧ pre <+: cutL c s0.data.toList ∧ Jx pre W')) := by
  refine callsIn_of_wp Tryz.func97 rfl trivial ?_ rfl
  simp only [Tryz.ntmps97, List.size_toArray, List.length_cons, List.length_nil, Nat.reduceAdd, Nat.reduceSub, Array.replicate_succ, Array.replicate_zero, List.push_toArray, List.append_toArray, List.nil_append, List.cons_append]
  obtain ⟨hp, hk, hf⟩ := hJc _ _ h0
  gi_wp2
  gi_loopw [7] (fun _ wr => ∃ (pre : List (List UInt8)) (s : ByteArray), s.size ≤ s0.size ∧ Hid (cutL c s0.data.toList = pre ++ cutL c s.data.toList) ∧ J pre wr ∧ wr.cell? ⟨bs, 0, none⟩ = some (.string s)) (fun _ wr => boxLen bs wr)
  case atStart => exact ⟨[], s0, Nat.le_refl _, Lib.hid rfl, h0, hW⟩
  case round =>
    obtain ⟨pre, s, hsz, hcut, hJ, hs⟩ := hrel
    obtain ⟨hp, hk, hf⟩ := hJc _ _ hJ
    have hsl : s.data.toList.length = s.size := (sz_len s).symm
    rcases cut_index c s.data.toList with ⟨hi, hc⟩ | ⟨k, hi, hkl, hc⟩
    · have hc' := Lib.hid hc
      clear hc
      obtain ⟨fn, tmps, assign, body, hy, hR⟩ := hY pre s wr hJ hsz
      gi_wp2_with (refine ⟨trivial, ?_⟩; gi_at_call 8; refine (callsIn_wide.2 (Tryz.strings_Index_one _ _ _)).mono ?_; rintro e w' ⟨rfl, rfl⟩; rw [hi])
      refine hR.mono ?_
      rintro e W3 (⟨rfl, hJ3, hk3⟩ | ⟨rfl, hJx3⟩)
      · gi_wp2
        go_end0
        exact ⟨⟨_, rfl⟩, .inl (by rw [hcut.out, hc'.out]; exact hJ3)⟩
      · gi_wp2
        go_end0
        exact ⟨⟨_, rfl⟩, .inr ⟨_, by simp, by rw [hcut.out, hc'.out]; exact List.prefix_refl _, hJx3⟩⟩
    · have hc' := Lib.hid hc
      clear hc
      have hks : (k : Int) < s.size := by omega
      have hbl : Hid (boxLen bs wr = s.size) := Lib.hid (by unfold boxLen; rw [hs])
      have hx : (s.extract 0 k).data.toList = s.data.toList.take k := by rw [Lib.extract_data]; simp
      have hr : (s.extract (k + 1) s.size).data.toList = s.data.toList.drop (k + 1) := by
        rw [Lib.extract_data, List.take_of_length_le (by simp)]
      obtain ⟨fn, tmps, assign, body, hy, hR⟩ := hY pre (s.extract 0 k) wr hJ (by rw [ByteArray.size_extract]; omega)
      gi_wp2_with (refine ⟨trivial, ?_⟩; gi_at_call 8; refine (callsIn_wide.2 (Tryz.strings_Index_one _ _ _)).mono ?_; rintro e w' ⟨rfl, rfl⟩; rw [hi])
      refine hR.mono ?_
      rintro e W3 (⟨rfl, hJ3, hk3⟩ | ⟨rfl, hJx3⟩)
      · obtain ⟨hp3, hq3, hf3⟩ := hJc _ _ hJ3
        have hs3 : W3.cell? ⟨bs, 0, none⟩ = some (.string s) := by rw [hk3]; exact hs
        have hkl' : (k : Int) + 1 ≤ s.size := by omega
        gi_wp2
        go_roundw
        case rel =>
          refine ⟨pre ++ [(s.extract 0 k).data.toList], s.extract (k + 1) s.size, ?_, ?_, hJs _ _ _ hJ3, ?_⟩
          · rw [ByteArray.size_extract]; omega
          · exact Lib.hid (by rw [hcut.out, hc'.out, hx, hr]; simp)
          · exact World.cell?_setCell_same' _ _ _ (by rw [hs3]; rfl)
        case measure =>
          rw [hbl.out]
          unfold boxLen
          rw [World.cell?_setCell_same' _ _ _ (by rw [hs3]; rfl)]
          simp only [ByteArray.size_extract]
          omega
      · gi_wp2
        refine bodyPost_ret (results_none rfl _ _ _) rfl ?_
        exact ⟨⟨_, rfl⟩, .inr ⟨_, by simp, ⟨cutL c (s.data.toList.drop (k + 1)), by rw [hcut.out, hc'.out, hx]; simp⟩, hJx3⟩⟩

set_option maxRecDepth 100000 in
/-- strings.SplitSeq: a closure over three boxes -/
theorem splitSeq_made (s sep : ByteArray) (w : World) :
    Calls Tryz.prog 77 #[.string s, .string sep] w fun e w' => e = .returned (.func (.func 97) #[] #[.pointer (some ⟨w.heap.size + 1, 0, none⟩), .pointer (some ⟨w.heap.size, 0, none⟩), .pointer (some ⟨w.heap.size + 2, 0, none⟩)]) ∧
      ((w.alloc (.cells #[.string s] 9)).alloc (.cells #[.string sep] 9)).alloc (.cells #[.int .i64 0] 3) = w' := by
  have h1 : Calls Tryz.prog 90 #[.string s, .string sep, .int .i64 0] w fun e w' => e = .returned (.func (.func 97) #[] #[.pointer (some ⟨w.heap.size + 1, 0, none⟩), .pointer (some ⟨w.heap.size, 0, none⟩), .pointer (some ⟨w.heap.size + 2, 0, none⟩)]) ∧
      ((w.alloc (.cells #[.string s] 9)).alloc (.cells #[.string sep] 9)).alloc (.cells #[.int .i64 0] 3) = w' := by
    go_enter Tryz.func90, Tryz.ntmps90
    go_wp2
    go_ret
    exact ⟨by simp, by simp⟩
  go_enter Tryz.func77, Tryz.ntmps77
  go_wp2_with fail
  refine h1.mono ?_
  rintro e w2 ⟨rfl, rfl⟩
  go_wp2
  go_ret
  exact ⟨rfl, rfl⟩
end Go.Proofs.YthmkilglidfdiaaGreatDoor
