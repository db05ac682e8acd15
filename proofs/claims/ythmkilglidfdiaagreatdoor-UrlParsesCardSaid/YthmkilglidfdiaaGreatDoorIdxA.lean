/- strings.IndexAny(s, "/?") at every text. -/
import Derived.Test.YthmkilglidfdiaaGreatDoorIdxRW
import Derived.Test.YthmkilglidfdiaaGreatDoorUrlY
import Derived.Deep.LoopGhost
namespace Go.Proofs.YthmkilglidfdiaaGreatDoor
open Go.RowKit
def setIter (w : World) (p : Nat) (s : ByteArray) (pos : Nat) : World := { w with heap := w.heap.setIfInBounds p (.stringIter s pos) }
theorem iter_at (w : World) {p : Nat} (s : ByteArray) (pos : Nat) (h : p < w.heap.size) : (setIter w p s pos).heap[p]? = some (.stringIter s pos) := by
  unfold setIter
  simp [h]
theorem below_setIter {B : Nat} {a w : World} (h : Below B a w) {p : Nat} (hp : B ≤ p) (s : ByteArray) (pos : Nat) : Below B a (setIter w p s pos) := by
  refine ⟨h.os, h.tape, h.output, ?_, fun i hi => ?_⟩
  · unfold setIter; simpa using h.size
  · rw [← h.block i hi]
    unfold setIter
    simp only [Array.getElem?_setIfInBounds]
    rw [if_neg (by omega)]
theorem next_at {P : Program} (w : World) {p : Nat} (s : ByteArray) (pos : Nat) (ty : TypeId) (hI : w.heap[p]? = some (.stringIter s pos)) (h : pos < s.size) :
    (Instr.next (.pointer (some ⟨p, 0, none⟩)) true ty).run P w = .ok (.tuple #[.bool true, .int .i64 pos, .int .i32 (Utf8.decode s pos).1]) (setIter w p s (pos + (Utf8.decode s pos).2)) := by
  simp only [Instr.next, getObj, setObj, Sem.run_bind, Sem.run, hI, Result.andThen, h, if_true]
  simp [goInt, setIter]
theorem next_end {P : Program} (w : World) {p : Nat} (s : ByteArray) (pos : Nat) (ty : TypeId) (hI : w.heap[p]? = some (.stringIter s pos)) (h : ¬pos < s.size) :
    (Instr.next (.pointer (some ⟨p, 0, none⟩)) true ty).run P w = .ok (.tuple #[.bool false]) w := by
  simp [Instr.next, getObj, Sem.run, hI, h]
theorem noAny_add {s : ByteArray} {c : List UInt8} {i n : Nat} (h : Lib.NoAny s.data.toList c i) (hn : HighTo s i n) (hc : ∀ x : UInt8, 128 ≤ x.toNat → c.contains x = false) : Lib.NoAny s.data.toList c (i + n) := by
  intro j b hj hb
  by_cases e : j < i
  · exact h j b e hb
  · obtain ⟨hl, hx⟩ := hn (j - i) (by omega)
    have e2 : i + (j - i) = j := by omega
    simp only [e2] at hl hx
    rw [Lib.data_getElem? s j hl] at hb
    cases hb
    exact hc _ hx
theorem high_not (x : UInt8) (h : 128 ≤ x.toNat) : ([47, 63] : List UInt8).contains x = false := by
  cases hc : ([47, 63] : List UInt8).contains x
  · rfl
  · simp at hc
    rcases hc with rfl | rfl <;> exact absurd h (by decide)
set_option maxRecDepth 1000000 in
set_option maxHeartbeats 8000000 in
theorem idxAny_short (s : ByteArray) (w : World) (h8 : s.size ≤ 8) :
    Calls Tryz.prog 15 #[.string s, .string ⟨#[47, 63]⟩] w fun e w' => e = .returned (.int .i64 (Lib.indexAny s.data.toList [47, 63])) ∧ Below w.heap.size w w' := by
  have hrune := idxRune_high
  have hasc := fun r w h0 h1 => Tryz.strings_IndexRune_ascii ⟨#[47, 63]⟩ r w h0 h1
  rw [show (⟨#[47, 63]⟩ : ByteArray).data.toList = [47, 63] from rfl] at hasc
  obtain ⟨S, hS⟩ : ∃ S : ByteArray, S = ⟨#[47, 63]⟩ := ⟨_, rfl⟩
  have hSs : S.size = 2 := by rw [hS]; rfl
  have hemp : S.toList.isEmpty = false := by rw [Lib.toList_data, hS]; rfl
  rw [← hS] at hrune hasc ⊢
  have hn1 : ((S.size : Int) == 1) = false := beq_eq_false_iff_ne.2 (by omega)
  have h8z : decide ((8 : Int) < (s.size : Int)) = false := decide_eq_false (by omega)
  have hrune' := Lib.hid hrune
  have hasc' := Lib.hid hasc
  have hsh := fun w' => Tryz.strings_shouldUseASCIISet (s.size : Int) w'
  rw [h8z] at hsh
  clear hS hrune hasc hSs
  go_enter Tryz.func15, Tryz.ntmps15
  go_wp2_with fail
  refine (hsh _).mono ?_
  rintro e w1 ⟨rfl, rfl⟩
  go_wp2
  go_loopg [9, 10] s.size (fun g _ _ wx => ∃ i : Nat, i ≤ s.size ∧ Hid (g = s.size - i) ∧ Hid (wx.heap[w1.heap.size]? = some (.stringIter s i)) ∧ Hid (Below w1.heap.size w1 wx) ∧ Hid (Lib.NoAny s.data.toList [47, 63] i))
  case atStart => exact ⟨0, Nat.zero_le _, Lib.hid rfl, Lib.hid (World.iter_heap _ _ _), Lib.hid (below_iter _ _ _), Lib.hid (Lib.NoAny.zero _ _)⟩
  case round =>
    obtain ⟨i, hi, hg, hI, hB, hN⟩ := hrel
    have hp : w1.heap.size < wr.heap.size := (Array.getElem?_eq_some_iff.1 hI.out).1
    by_cases hlt : i < s.size
    · have hnx := fun ty => next_at (P := Tryz.prog) wr s i ty hI.out hlt
      obtain ⟨x, hx⟩ : ∃ x : UInt8, s[i]'hlt = x := ⟨_, rfl⟩
      have hxl : s.data.toList[i]? = some x := by rw [← hx]; exact Lib.data_getElem? s i hlt
      by_cases hx1 : x.toNat < 128
      · rw [decode_ascii s i hlt (by rw [hx]; exact hx1), hx] at hnx
        have hB2 := Lib.hid (below_setIter hB.out (Nat.le_refl _) s (i + 1))
        have hI2 := Lib.hid (iter_at wr s (i + 1) hp)
        have hir := fun w' => hasc'.out (x.toNat : Int) w' (by omega) (by omega)
        rw [show ((x.toNat : Int)).toNat.toUInt8 = x by simp] at hir
        have hcon := Lib.contains_iff_indexByte [47, 63] x
        cases hin : ([47, 63] : List UInt8).contains x
        · rw [hin] at hcon
          have hlt0 : ¬((0 : Int) ≤ Lib.indexByte [47, 63] x) := of_decide_eq_false hcon.symm
          have hN2 := Lib.hid (hN.out.succ hxl hin)
          obtain ⟨v, hv⟩ : ∃ v, Lib.indexByte [47, 63] x = v := ⟨_, rfl⟩
          rw [hv] at hir hlt0
          clear hcon hin hxl hx hv
          go_wp2_with fail
          refine (hir _).mono ?_
          rintro e w2 ⟨rfl, rfl⟩
          go_wp2
          go_roundg (s.size - (i + 1))
          case rel => exact ⟨i + 1, by omega, Lib.hid rfl, hI2, hB2, hN2⟩
          case measure => have := hg.out; omega
        · rw [hin] at hcon
          have hge : (0 : Int) ≤ Lib.indexByte [47, 63] x := of_decide_eq_true hcon.symm
          have hr := Lib.hid (Lib.indexAny_hit hN.out hxl hin)
          obtain ⟨v, hv⟩ : ∃ v, Lib.indexByte [47, 63] x = v := ⟨_, rfl⟩
          rw [hv] at hir hge
          clear hcon hin hxl hx hv
          go_wp2_with fail
          refine (hir _).mono ?_
          rintro e w2 ⟨rfl, rfl⟩
          go_wp2
          go_ret
          exact ⟨by rw [hr.out]; rfl, hB2.out⟩
      · obtain ⟨hd1, hd2⟩ := decode_high s i hlt (by rw [hx]; omega)
        have hd3 := decode_le s i
        have hd4 := decode_bytes s i hlt (by rw [hx]; omega)
        obtain ⟨r, hr⟩ : ∃ r, (Utf8.decode s i).1 = r := ⟨_, rfl⟩
        obtain ⟨n, hn⟩ : ∃ n, (Utf8.decode s i).2 = n := ⟨_, rfl⟩
        rw [hr, hn] at hnx
        rw [hr] at hd1 hd3
        rw [hn] at hd2 hd4
        have hin : i + n ≤ s.size := by
          obtain ⟨h, _⟩ := hd4 (n - 1) (by omega)
          omega
        have hB2 := Lib.hid (below_setIter hB.out (Nat.le_refl _) s (i + n))
        have hI2 := Lib.hid (iter_at wr s (i + n) hp)
        have hN2 := Lib.hid (noAny_add hN.out hd4 high_not)
        have hir := fun w' => hrune'.out (r : Int) w' (by omega) (by omega)
        have hp2 : w1.heap.size < (setIter wr w1.heap.size s (i + n)).heap.size := by unfold setIter; simpa using hp
        clear hd1 hd3 hd4 hr hn hx hxl
        go_wp2_with fail
        refine (hir _).mono ?_
        rintro e w2 ⟨rfl, hB3⟩
        have hB4 := Lib.hid (hB2.out.trans (hB3.mono hB2.out.size))
        have hI4 := Lib.hid ((hB3.block _ hp2).trans hI2.out)
        clear hir hB3
        go_wp2
        go_roundg (s.size - (i + n))
        case rel => exact ⟨i + n, hin, Lib.hid rfl, hI4, hB4, hN2⟩
        case measure => have := hg.out; omega
    · obtain rfl : i = s.size := by omega
      have hnx := fun ty => next_end (P := Tryz.prog) wr s s.size ty hI.out hlt
      have hr := Lib.hid (Lib.indexAny_none (by rw [← sz_len]; exact hN.out))
      go_wp2
      go_ret
      exact ⟨by rw [hr.out]; rfl, hB.out⟩
set_option maxRecDepth 1000000 in
theorem idxAny_all (s : ByteArray) (w : World) (hs : s.size ≤ 1000000) :
    Calls Tryz.prog 15 #[.string s, .string ⟨#[47, 63]⟩] w fun e w' => e = .returned (.int .i64 (Lib.indexAny s.data.toList [47, 63])) ∧ Below w.heap.size w w' := by
  by_cases h8 : 8 < s.size
  · refine (Tryz.strings_IndexAny_long (fun w => by kernel_rfl) s ⟨#[47, 63]⟩ w (by decide) h8 (by omega) (by decide) (Go.Proofs.ascii_of_all (by decide))).mono ?_
    rintro e w' ⟨rfl, rfl⟩
    exact ⟨rfl, ((Below.refl _ _).alloc (Nat.le_refl _) _).alloc (by simp) _⟩
  · exact idxAny_short s w (by omega)
theorem urlParse (s : ByteArray) (w : World) (hM : MaxL w) (hs : s.size ≤ 1000000) :
    Calls Tryz.prog 5 #[.string s] w fun e w' => e = .returned (urlV (urlParseP s.data.toList) .nilIface (fun x => .iface 26 (.int .i64 x))) ∧ Below w.heap.size w w' :=
  urlParse_of idxAny_all s w hM hs
end Go.Proofs.YthmkilglidfdiaaGreatDoor
