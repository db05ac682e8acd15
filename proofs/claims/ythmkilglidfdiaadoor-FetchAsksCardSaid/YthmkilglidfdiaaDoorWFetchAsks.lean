/- FetchAsks: fetch.Asked finds what the reference's Asked finds: the walk of the statement. -/
import Derived.Test.YthmkilglidfdiaaDoorAsksF
import Derived.Test.YthmkilglidfdiaaDoorSameV
import Derived.Test.YthmkilglidfdiaaDoorReq
import Derived.OpenShut
namespace Go.Proofs.YthmkilglidfdiaaDoor.lawFetchAsks
open Go.ChangeShapes Go.WideShapes Go.ChangeAt Go.RowKit Go.WideElems
def reqOf (a : Option Addr) (cap : Nat) (ps : List (ByteArray × ByteArray)) : Req := ⟨0, ⟨false, ⟨#[]⟩, 0⟩, ⟨false, ⟨#[]⟩, 0⟩, ⟨#[]⟩, ⟨#[]⟩, ⟨#[]⟩, a, cap, ps, false, ⟨#[]⟩⟩
theorem reqOf_ok {w : World} {a : Option Addr} {cap : Nat} {ps : List (ByteArray × ByteArray)} (hl : ps.length * 32 ≤ reachBytes) (hP : ParAt w a ps) (hz : ParRe ps) : (reqOf a cap ps).Ok w :=
  ⟨show (Lit.int .i64 0).wf = true by decide, Nat.zero_le _, show (Lit.int .i64 0).wf = true by decide, Nat.zero_le _, show (Lit.int .i64 0).wf = true by decide, Nat.zero_le _, Nat.zero_le _, Nat.zero_le _, hl, hP, hz, Nat.zero_le _⟩
set_option maxRecDepth 100000 in
set_option maxHeartbeats 4000000 in
theorem walk (W : World) (hsh : W.ShapedOpen Tryd.prog) (a : Option Addr) (len cap : Nat) (hR : Rd Tryd.prog W 33 [.slice a len cap]) :
    Calls Tryd.prog 4 #[.slice a len cap] W fun e w' => e = .returned (.bool true) ∧ Below W.heap.size W w' := by
  obtain ⟨ps, rfl, hP, hz, hb, _⟩ := pars_open hR
  have hM := maxL_of hsh
  have hO := reqOf_ok (cap := cap) hb hP hz
  have hlg := large_says (reqOf a cap ps) W hO
  cases hlb : largeB (reqOf a cap ps)
  · have hsm := small_of hlb
    rw [hlb] at hlg
    have hl : ps.length ≤ 1000 := by have := hsm.few; simp only [reqOf] at this; omega
    have hz' : ∀ p ∈ ps, p.1.size ≤ 1000 ∧ p.2.size ≤ 1000 := fun p hp => by have := hsm.short p hp; omega
    have h1 := fun w' hM hP => fetchAsked a cap ps w' hM hP hl hz'
    have h2 := fun w' hM hP => refAsked a cap ps w' hM hP hl hz'
    have hlen : (askL (hdl ps)).length ≤ 1000 := by
      have e1 := compact_len (sortL (askRef (hdl ps)))
      rw [sortL_len] at e1
      have e2 := refGo_len (decide (1024 < plainSz (hdl ps))) (hdl ps)
      rw [hdl_len] at e2
      have e3 : askRef (hdl ps) = refGo (decide (1024 < plainSz (hdl ps))) (hdl ps) := rfl
      rw [e3] at e1
      unfold askL
      rw [e3]
      omega
    clear hR hsh hb hz hO hlb hsm
    go_enter Tryd.func4, Tryd.ntmps4
    go_wp2_with fail
    refine hlg.mono ?_
    rintro e w1 ⟨rfl, hB1⟩
    have hP1 := Lib.hid (hP.later hB1)
    clear hlg
    go_wp2_with fail
    refine (h1 _ (hM.later hB1) hP1.out).mono ?_
    rintro e w2 ⟨⟨a2, c2, rfl, hS2⟩, hB2⟩
    have hB2' := Lib.hid (hB1.trans (hB2.mono hB1.size))
    have hP2 := Lib.hid (hP1.out.later hB2)
    have hS2' := Lib.hid hS2
    clear h1 hB1 hB2 hS2 hP1
    go_wp2_with fail
    refine (h2 _ (hM.later hB2'.out) hP2.out).mono ?_
    rintro e w3 ⟨⟨v3, rfl, hO3⟩, hB3⟩
    obtain ⟨a3, c3, rfl, hS3, _, _, _⟩ := hO3.shape
    have hB3' := Lib.hid (hB2'.out.trans (hB3.mono hB2'.out.size))
    have hss := sameTexts_yes a2 a3 c2 c3 (mkT (askL (hdl ps))) w3 (hS2'.out.later hB3) hS3 (by rw [mkT_len]; unfold maxLen; omega)
    rw [mkT_len] at hss ⊢
    clear h2 hO3 hS3 hB3 hS2' hP2 hB2'
    go_wp2_with fail
    refine hss.mono ?_
    rintro e w4 ⟨rfl, hB4⟩
    have hB5 := Lib.hid (hB3'.out.trans (hB4.mono hB3'.out.size))
    clear hss hB4
    go_wp2
    go_ret
    exact ⟨rfl, hB5.out⟩
  · rw [hlb] at hlg
    clear hR hsh hb hz hO hlb hP
    go_enter Tryd.func4, Tryd.ntmps4
    go_wp2_with fail
    refine hlg.mono ?_
    rintro e w1 ⟨rfl, hB1⟩
    go_wp2
    go_ret
    exact ⟨rfl, hB1⟩
end Go.Proofs.YthmkilglidfdiaaDoor.lawFetchAsks
