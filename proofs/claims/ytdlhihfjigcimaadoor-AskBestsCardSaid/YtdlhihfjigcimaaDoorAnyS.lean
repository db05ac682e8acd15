/- slices.IndexFunc and slices.ContainsFunc over texts: whether one of them is such. -/
import Derived.Test.YtdlhihfjigcimaaDoorFound
import Derived.Shelf.GgClosure.Gives
namespace Go.Proofs.YtdlhihfjigcimaaDoor
open Go.RowKit
/-- a function value that tells of a text whether it is such, and writes nothing old -/
def PredS (g : Nat) (lb : Array Value) (p : ByteArray → Bool) (ss : List ByteArray) (w : World) : Prop :=
  ∀ (W : World) (x : ByteArray), Below w.heap.size w W → x ∈ ss → Calls Tryd.prog g (#[.string x] ++ lb) W fun e w' => e = .returned (.bool (p x)) ∧ Below W.heap.size W w'
def IdxSPost (p : ByteArray → Bool) (ss : List ByteArray) (w : World) (e : Ending) (w' : World) : Prop :=
  ∃ r : Int, e = .returned (.int .i64 r) ∧ decide (0 ≤ r) = ss.any p ∧ Below w.heap.size w w'
theorem any_take_no {p : ByteArray → Bool} {ss : List ByteArray} {k : Nat} (h : k < ss.length) (h0 : (ss.take k).any p = false) (e : p ss[k] = false) : (ss.take (k + 1)).any p = false := by
  rw [List.take_succ_eq_append_getElem h, List.any_append, h0]; simp [e]
theorem any_hit {p : ByteArray → Bool} {ss : List ByteArray} {k : Nat} (h : k < ss.length) (e : p ss[k] = true) : ss.any p = true := by
  rw [List.any_eq_true]; exact ⟨_, List.getElem_mem h, e⟩
set_option maxRecDepth 100000 in
theorem indexFuncS (g : Nat) (lb : Array Value) (p : ByteArray → Bool) (a : Option Addr) (cap : Nat) (ss : List ByteArray) (w : World) (hS : StrAt w a ss) (hl : ss.length ≤ 1048576) (eg : ∀ args w, (callFunc g args).run Tryd.prog w = .ok (.enter g args) w) (hp : PredS g lb p ss w) :
    Calls Tryd.prog 92 #[.slice a ss.length cap, .func (.func g) #[] lb] w (IdxSPost p ss w) := by
  go_enter Tryd.func92, Tryd.ntmps92
  go_wp2
  go_loopw [8] (fun i wr => ∃ k : Nat, k ≤ ss.length ∧ i = .int .i64 k ∧ Hid (Below w.heap.size w wr) ∧ Hid ((ss.take k).any p = false)) (fun i _ => ss.length - (intOf i).toNat)
  case atStart => exact ⟨0, Nat.zero_le _, rfl, Lib.hid (Below.refl _ _), Lib.hid rfl⟩
  case round =>
    obtain ⟨k, hk, rfl, hB, hN⟩ := hrel
    by_cases hlt : k < ss.length
    · obtain ⟨b, off, rfl, hc⟩ := (hS.later hB.out) k hlt
      have hpk := hp wr _ hB.out (List.getElem_mem hlt)
      cases hq : p ss[k]
      · rw [hq] at hpk
        have hn := Lib.hid (any_take_no hlt hN.out hq)
        clear hq
        go_wp2_with (go_at_fn g; refine hpk.mono ?_; rintro e w2 ⟨rfl, hB2⟩)
        have hB3 := Lib.hid (hB.out.then (Nat.le_refl _) hB2)
        go_wp2
        go_roundw
        case rel => exact ⟨k + 1, by omega, by go_num, hB3, hn⟩
        case measure => simp [intOf]; omega
      · rw [hq] at hpk
        have hn := Lib.hid (any_hit hlt hq)
        clear hq
        go_wp2_with (go_at_fn g; refine hpk.mono ?_; rintro e w2 ⟨rfl, hB2⟩)
        have hB3 := Lib.hid (hB.out.then (Nat.le_refl _) hB2)
        go_wp2
        go_ret
        exact ⟨_, rfl, by rw [hn.out]; simp, hB3.out⟩
    · obtain rfl : ss.length = k := by omega
      have hn := Lib.hid (show ss.any p = false by have := hN.out; rwa [List.take_length] at this)
      go_wp2
      go_ret
      exact ⟨_, rfl, by rw [hn.out]; decide, hB.out⟩
set_option maxRecDepth 100000 in
theorem containsFuncS (g : Nat) (lb : Array Value) (p : ByteArray → Bool) (a : Option Addr) (cap : Nat) (ss : List ByteArray) (w : World) (hS : StrAt w a ss) (hl : ss.length ≤ 1048576) (eg : ∀ args w, (callFunc g args).run Tryd.prog w = .ok (.enter g args) w) (hp : PredS g lb p ss w) :
    Calls Tryd.prog 42 #[.slice a ss.length cap, .func (.func g) #[] lb] w fun e w' => e = .returned (.bool (ss.any p)) ∧ Below w.heap.size w w' := by
  have hi := indexFuncS g lb p a cap ss w hS hl eg hp
  clear hp hS eg
  go_enter Tryd.func42, Tryd.ntmps42
  go_wp2_with fail
  refine hi.mono ?_
  rintro e w2 ⟨r, rfl, hr, hB⟩
  have hr' := Lib.hid hr
  clear hr
  go_wp2
  go_ret
  exact ⟨ret_bool hr'.out, hB⟩
end Go.Proofs.YtdlhihfjigcimaaDoor
