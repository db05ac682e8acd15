/- slices.Clone at texts. -/
import Derived.Test.YtchgpdgigpaloaaDoorGrantR
import Derived.ArgAppend
namespace Go.Proofs.YtchgpdgigpaloaaDoor
open Go.RowKit Go.Deep
def CloneSPost (ss : List ByteArray) (w : World) (e : Ending) (w' : World) : Prop := ∃ v', e = .returned v' ∧ OwnStr w' w.heap.size v' ss ∧ Below w.heap.size w w'
set_option maxRecDepth 100000 in
set_option maxHeartbeats 4000000 in
theorem cloneS (a : Option Addr) (cap : Nat) (ss : List ByteArray) (w : World) (hS : StrAt w a ss) (hl : ss.length ≤ 1048576) :
    Calls Tryd.prog 41 #[.slice a ss.length cap] w (CloneSPost ss w) := by
  rcases a with _ | A
  · have h0 : ss = [] := by
      cases ss with
      | nil => rfl
      | cons s r => obtain ⟨_, _, e, _⟩ := hS 0 (by simp); cases e
    subst h0
    have q24 : ∀ (w : World) (a : Option Addr) (n c n' c' : Nat), (binOp .eql 35 (.slice a n c) (.slice none n' c')).run Tryd.prog w = .ok (.bool a.isNone) w := fun w a n c n' c' => Lib.run_eql_slice_nil w _ _ a n c n' c' Tryd.underlying35
    clear hS
    go_enter Tryd.func41, Tryd.ntmps41
    go_wp2
    go_ret
    exact ⟨_, rfl, OwnStr.nil _ _, Below.refl _ _⟩
  · obtain ⟨i0, hi, hz0, hz1, hz2⟩ := info_parts infoString
    have hBa : Below w.heap.size w (w.alloc (.cells #[] 9)) := (Below.refl _ _).alloc (Nat.le_refl _) _
    have hnew : (w.alloc (.cells #[] 9)).ownsRow w.heap.size 9 1 (.slice (some ⟨w.heap.size, 0, none⟩) 0 0) 0 [] :=
      ⟨rfl, .inr ⟨w.heap.size, 0, #[], rfl, Nat.le_refl _, heap_alloc_new w _, Nat.le_refl _, by decide, rfl, rfl⟩⟩
    have hnewH := Lib.hid hnew
    have hsrc : Hid (∀ t u, (ss.map Value.string)[t]? = some u → (w.alloc (.cells #[] 9)).cell? (A.add t) = some u) := by
      intro t u hu
      have hSa := hS.later hBa
      have ht : t < ss.length := by have := (List.getElem?_eq_some_iff.1 hu).1; simpa using this
      obtain ⟨b, off, e, hc⟩ := hSa t ht
      cases e
      rw [Addr.add_mid, hc]
      rw [List.getElem?_map, List.getElem?_eq_getElem ht] at hu
      exact hu
    have s2 : Hid (∀ u ∈ ss.map Value.string, u.oneCell' = true) := by
      intro u hu
      obtain ⟨x, _, rfl⟩ := List.mem_map.1 hu
      rfl
    have s1 := Lib.hid (show (ss.map Value.string).length = ss.length * 1 by simp)
    have hBH := Lib.hid hBa
    have hsz : w.heap.size ≤ (w.alloc (.cells #[] 9)).heap.size := by simp
    have hl1 : 0 + ss.length ≤ maxLen := by unfold maxLen; omega
    have hl2 : (0 + ss.length) * 16 ≤ 140737488355328 := by omega
    have q24 : ∀ (w : World) (a : Option Addr) (n c n' c' : Nat), (binOp .eql 35 (.slice a n c) (.slice none n' c')).run Tryd.prog w = .ok (.bool a.isNone) w := fun w a n c n' c' => Lib.run_eql_slice_nil w _ _ a n c n' c' Tryd.underlying35
    clear hS hnew hBa
    go_enter Tryd.func41, Tryd.ntmps41
    go_wp2_with (at_builtin; refine wpList_append_own _ rfl _ _ 35 rfl w.heap.size 9 i0 (.string ⟨#[]⟩) 1 16 Tryd.underlying35 hi hz0 hz1 hz2 rfl (by decide) (.slice (some ⟨w.heap.size, 0, none⟩) 0 0) 0 [] (by rfl) hnewH.out A ss.length cap (ss.map Value.string) (by rfl) s1.out hsrc.out s2.out hl1 hl2 hsz ?_; intro v' w' hown' hgrow hnil)
    have hB2 := Lib.hid (hBH.out.grown hgrow hsz (fun k hk => (hnewH.out.lt k hk).1))
    have hown2 : OwnStr w' w.heap.size v' ss := by
      have h := hown'
      rw [List.nil_append] at h
      simpa [OwnStr] using h
    have hownH := Lib.hid hown2
    clear hown2 hown' hgrow hnil
    go_wp2
    go_ret
    exact ⟨_, rfl, hownH.out, hB2.out⟩
/-- an own row of texts, as texts that lie somewhere -/
theorem OwnStr.txt {w : World} {base n cap : Nat} {a : Option Addr} {ss : List ByteArray} (h : OwnStr w base (.slice a n cap) ss) : TxtAt w a ss := by
  obtain ⟨a', cap', e, hS, _⟩ := OwnStr.shape h
  simp only [Value.slice.injEq] at e
  obtain ⟨rfl, _, rfl⟩ := e
  refine ⟨hS, fun hn x hx => ?_⟩
  obtain ⟨h1, h2⟩ := h
  rcases h2 with ⟨e, _⟩ | ⟨g, c, cur, e, _, hg, _⟩
  · simp only [Value.slice.injEq] at e
    rw [e.1] at hx; cases hx
  · simp only [Value.slice.injEq] at e
    rw [e.1] at hx
    cases hx
    exact ⟨cur, _, hg⟩
theorem OwnStr.lies {w : World} {base n cap : Nat} {a : Option Addr} {ss : List ByteArray} (h : OwnStr w base (.slice a n cap) ss) : ∀ x, a = some x → base ≤ x.block ∧ x.block < w.heap.size := by
  intro x hx
  exact World.ownsRow.lt h x.block (by rw [hx]; rfl)
end Go.Proofs.YtchgpdgigpaloaaDoor
