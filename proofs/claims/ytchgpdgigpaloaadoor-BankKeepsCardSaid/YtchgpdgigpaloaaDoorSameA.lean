/- What the statements' sameAsk says of two questions that are alike. -/
import Derived.Test.YtchgpdgigpaloaaDoorAskV
import Derived.Test.YtchgpdgigpaloaaDoorSameV
import Derived.Test.YtchgpdgigpaloaaDoorFound
namespace Go.Proofs.YtchgpdgigpaloaaDoor
open Go.RowKit
set_option maxRecDepth 100000 in
set_option maxHeartbeats 800000 in
theorem sameAsk_yes (a b : AskV) (w : World) (h : a.d = b.d) (ha : StrAt w a.addr a.d.domain) (hb : StrAt w b.addr b.d.domain) (hl : a.d.domain.length ≤ maxLen) :
    Calls Tryd.prog 35 #[.agg a.arr, .agg b.arr] w fun e w' => e = .returned (.bool true) ∧ Below w.heap.size w w' := by
  obtain ⟨⟨sc, realm, nonce, opq, sess, qop, stale, dom⟩, ad, cap⟩ := a
  obtain ⟨d2, ad2, cap2⟩ := b
  simp only at h ha hb hl
  subst h
  simp only at hb
  have hB : Below w.heap.size w ((w.alloc (.cells #[.int .i64 sc, .string realm, .string nonce, .string opq, .bool sess, .string qop, .bool stale, .slice ad dom.length cap] 37)).alloc (.cells #[.int .i64 sc, .string realm, .string nonce, .string opq, .bool sess, .string qop, .bool stale, .slice ad2 dom.length cap2] 37)) := ((Below.refl _ _).alloc (Nat.le_refl _) _).alloc (by simp) _
  have hs := sameTexts_yes ad ad2 cap cap2 dom _ (ha.later hB) (hb.later hB) hl
  clear ha hb hl
  go_enter Tryd.func35, Tryd.ntmps35
  go_wp2_with fail
  refine hs.mono ?_
  rintro e w1 ⟨rfl, hB1⟩
  go_wp2
  go_ret
  exact ⟨rfl, hB.then (Nat.le_refl _) hB1⟩
end Go.Proofs.YtchgpdgigpaloaaDoor
