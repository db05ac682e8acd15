/- What a challenge asks for, and credentials, as arguments. -/
import Derived.Test.YtfkflgcifddnnaaDoorJoin
import Derived.Test.YtfkflgcifddnnaaDoorPar
namespace Go.Proofs.YtfkflgcifddnnaaDoor
open Go.ChangeShapes Go.WideShapes Go.ChangeAt Go.RowKit Go.WideElems Go.Deep

/-- what is asked for, without where it lies -/
structure AskD where
  scheme : Int
  realm : ByteArray
  nonce : ByteArray
  opaque_ : ByteArray
  sess : Bool
  qop : ByteArray
  stale : Bool
  domain : List ByteArray
def askZero : AskD := ⟨0, ⟨#[]⟩, ⟨#[]⟩, ⟨#[]⟩, false, ⟨#[]⟩, false, []⟩
structure AskV where
  d : AskD
  addr : Option Addr
  cap : Nat
abbrev AskV.arr (a : AskV) : Array Value := #[.int .i64 a.d.scheme, .string a.d.realm, .string a.d.nonce, .string a.d.opaque_, .bool a.d.sess, .string a.d.qop, .bool a.d.stale, .slice a.addr a.d.domain.length a.cap]
structure AskV.Ok (w : World) (a : AskV) : Prop where
  scheme : (Lit.int .i64 a.d.scheme).wf = true
  realm : a.d.realm.size ≤ reachBytes
  nonce : a.d.nonce.size ≤ reachBytes
  opaque_ : a.d.opaque_.size ≤ reachBytes
  qop : a.d.qop.size ≤ reachBytes
  at_ : StrAt w a.addr a.d.domain
  len : a.d.domain.length * 16 ≤ reachBytes
  cap : a.d.domain.length ≤ a.cap ∧ a.cap ≤ maxLen
theorem AskV.Ok.later {w w' : World} {a : AskV} (h : a.Ok w) (hb : Below w.heap.size w w') : a.Ok w' := ⟨h.scheme, h.realm, h.nonce, h.opaque_, h.qop, h.at_.later hb, h.len, h.cap⟩
theorem cellsAsk : Tryd.prog.cellsOf 26 = 8 := by kernel_rfl
theorem cellsCreds2 : Tryd.prog.cellsOf 28 = 2 := by kernel_rfl
theorem cellsInt' : Tryd.prog.cellsOf 3 = 1 := by kernel_rfl
theorem cellsBool' : Tryd.prog.cellsOf 4 = 1 := by kernel_rfl
theorem cellsStrs' : Tryd.prog.cellsOf 24 = 1 := by kernel_rfl
set_option maxRecDepth 100000 in
theorem ask_open {w : World} {cs : List Value} (h : Rd Tryd.prog w 26 cs) : ∃ a : AskV, cs = a.arr.toList ∧ a.Ok w := by
  obtain ⟨hl, _⟩ := h.struct Tryd.underlying26
  rw [cellsAsk] at hl
  match cs, hl with
  | [c0, c1, c2, c3, c4, c5, c6, c7], _ =>
    have r0 : Rd Tryd.prog w 3 [c0] := h.field Tryd.underlying26 0 rfl cellsInt'
    have r1 : Rd Tryd.prog w 9 [c1] := h.field Tryd.underlying26 1 rfl cellsString
    have r2 : Rd Tryd.prog w 9 [c2] := h.field Tryd.underlying26 2 rfl cellsString
    have r3 : Rd Tryd.prog w 9 [c3] := h.field Tryd.underlying26 3 rfl cellsString
    have r4 : Rd Tryd.prog w 4 [c4] := h.field Tryd.underlying26 4 rfl cellsBool'
    have r5 : Rd Tryd.prog w 9 [c5] := h.field Tryd.underlying26 5 rfl cellsString
    have r6 : Rd Tryd.prog w 4 [c6] := h.field Tryd.underlying26 6 rfl cellsBool'
    have r7 : Rd Tryd.prog w 24 [c7] := h.field Tryd.underlying26 7 rfl cellsStrs'
    obtain ⟨n0, e0, z0⟩ := r0.int Tryd.underlying3
    obtain ⟨s1, e1, z1⟩ := r1.string Tryd.underlying9
    obtain ⟨s2, e2, z2⟩ := r2.string Tryd.underlying9
    obtain ⟨s3, e3, z3⟩ := r3.string Tryd.underlying9
    obtain ⟨b4, e4⟩ := r4.bool Tryd.underlying4
    obtain ⟨s5, e5, z5⟩ := r5.string Tryd.underlying9
    obtain ⟨b6, e6⟩ := r6.bool Tryd.underlying4
    obtain ⟨a, len, cap, e7, _⟩ := r7.slice Tryd.underlying24 (by rw [cellsString]; decide)
    simp at e0 e1 e2 e3 e4 e5 e6 e7
    subst e0 e1 e2 e3 e4 e5 e6 e7
    obtain ⟨ss, rfl, hp, _, hb, hc, hm, _⟩ := strs_open r7
    exact ⟨⟨⟨n0, s1, s2, s3, b4, s5, b6, ss⟩, a, cap⟩, rfl, ⟨z0, z1, z2, z3, z5, hp, hb, hc, hm⟩⟩
set_option maxRecDepth 100000 in
theorem creds_open {w : World} {cs : List Value} (h : Rd Tryd.prog w 28 cs) : ∃ u p : ByteArray, cs = [.string u, .string p] ∧ u.size ≤ reachBytes ∧ p.size ≤ reachBytes := by
  obtain ⟨hl, _⟩ := h.struct Tryd.underlying28
  rw [cellsCreds2] at hl
  match cs, hl with
  | [c0, c1], _ =>
    have r0 : Rd Tryd.prog w 9 [c0] := h.field Tryd.underlying28 0 rfl cellsString
    have r1 : Rd Tryd.prog w 9 [c1] := h.field Tryd.underlying28 1 rfl cellsString
    obtain ⟨s0, e0, z0⟩ := r0.string Tryd.underlying9
    obtain ⟨s1, e1, z1⟩ := r1.string Tryd.underlying9
    simp at e0 e1
    subst e0 e1
    exact ⟨s0, s1, rfl, z0, z1⟩
end Go.Proofs.YtfkflgcifddnnaaDoor
