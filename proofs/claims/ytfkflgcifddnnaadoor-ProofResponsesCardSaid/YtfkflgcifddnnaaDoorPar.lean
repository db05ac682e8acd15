/- Arguments that are lists of parameters, as pairs of texts. -/
import Derived.Test.YtfkflgcifddnnaaDoorRead
import Derived.Test.YtfkflgcifddnnaaDoorAskGet
namespace Go.Proofs.YtfkflgcifddnnaaDoor
open Go.ChangeShapes Go.WideShapes Go.ChangeAt Go.RowKit Go.WideElems Go.Deep

theorem cellsString : Tryd.prog.cellsOf 9 = 1 := by kernel_rfl
theorem cellsInt : Tryd.prog.cellsOf 3 = 1 := by kernel_rfl
theorem cellsBool : Tryd.prog.cellsOf 4 = 1 := by kernel_rfl
theorem cellsParam : Tryd.prog.cellsOf 167 = 2 := by kernel_rfl
theorem cellsParams : Tryd.prog.cellsOf 43 = 1 := by kernel_rfl
theorem bytesParam : Tryd.prog.bytesOf 167 = 32 := by kernel_rfl

def ParRe (ps : List (ByteArray × ByteArray)) : Prop := ∀ p ∈ ps, p.1.size ≤ reachBytes ∧ p.2.size ≤ reachBytes
theorem reach_max {n : Nat} (h : n ≤ reachBytes) : n ≤ maxLen := Nat.le_trans h (by decide)
theorem ParRe.sz {ps : List (ByteArray × ByteArray)} (h : ParRe ps) : ParSz ps := fun p hp => ⟨reach_max (h p hp).1, reach_max (h p hp).2⟩

set_option maxRecDepth 100000 in
theorem par_open {w : World} {cs : List Value} (h : Rd Tryd.prog w 167 cs) : ∃ p : ByteArray × ByteArray, cs = [.string p.1, .string p.2] ∧ p.1.size ≤ reachBytes ∧ p.2.size ≤ reachBytes := by
  obtain ⟨hl, _⟩ := h.struct Tryd.underlying167
  rw [cellsParam] at hl
  match cs, hl with
  | [c0, c1], _ =>
    have r0 : Rd Tryd.prog w 9 [c0] := h.field Tryd.underlying167 0 rfl cellsString
    have r1 : Rd Tryd.prog w 9 [c1] := h.field Tryd.underlying167 1 rfl cellsString
    obtain ⟨s0, e0, z0⟩ := r0.string Tryd.underlying9
    obtain ⟨s1, e1, z1⟩ := r1.string Tryd.underlying9
    simp at e0 e1
    subst e0; subst e1
    exact ⟨(s0, s1), rfl, z0, z1⟩

set_option maxRecDepth 100000 in
theorem pars_open {w : World} {a : Option Addr} {len cap : Nat} (h : Rd Tryd.prog w 43 [.slice a len cap]) :
    ∃ ps, ps.length = len ∧ ParAt w a ps ∧ ParRe ps ∧ len * 32 ≤ reachBytes ∧ len ≤ cap ∧ cap ≤ maxLen ∧ (a = none → len = 0 ∧ cap = 0) := by
  obtain ⟨a', len', cap', e, hb, _, hl, hc, hn, hi⟩ := h.slice Tryd.underlying43 (by rw [cellsParam]; decide)
  simp at e
  obtain ⟨rfl, rfl, rfl⟩ := e
  rw [bytesParam] at hb
  rw [cellsParam] at hi
  obtain ⟨ps, hps, hp⟩ := exists_list (fun i (p : ByteArray × ByteArray) => (∃ b off, a = some ⟨b, off, none⟩ ∧ w.cell? ⟨b, off + i * 2, none⟩ = some (.string p.1) ∧ w.cell? ⟨b, off + i * 2 + 1, none⟩ = some (.string p.2)) ∧ p.1.size ≤ reachBytes ∧ p.2.size ≤ reachBytes) len (by
    intro i hil
    obtain ⟨b, off, cs', ha, hl', hR, hcell⟩ := hi i hil
    obtain ⟨p, rfl, z0, z1⟩ := par_open hR
    exact ⟨p, ⟨b, off, ha, by simpa using hcell 0 (by decide), by simpa using hcell 1 (by decide)⟩, z0, z1⟩)
  refine ⟨ps, hps, fun i hil => (hp i hil).1, ?_, hb, hl, hc, hn⟩
  intro p hpm
  obtain ⟨i, hil, rfl⟩ := List.getElem_of_mem hpm
  exact (hp i hil).2

/-- a challenge: its texts, its parameters, and where they lie -/
structure Chal where
  scheme : ByteArray
  token : ByteArray
  addr : Option Addr
  cap : Nat
  params : List (ByteArray × ByteArray)
def Chal.cells (c : Chal) : List Value := [.string c.scheme, .string c.token, .slice c.addr c.params.length c.cap]
structure Chal.Ok (w : World) (c : Chal) : Prop where
  s1 : c.scheme.size ≤ reachBytes
  s2 : c.token.size ≤ reachBytes
  len : c.params.length * 32 ≤ reachBytes
  at_ : ParAt w c.addr c.params
  re : ParRe c.params

theorem Chal.Ok.later {w w' : World} {c : Chal} (h : c.Ok w) (hb : Below w.heap.size w w') : c.Ok w' := ⟨h.s1, h.s2, h.len, h.at_.later hb, h.re⟩
theorem Chal.Ok.lenMax {w : World} {c : Chal} (h : c.Ok w) : c.params.length ≤ maxLen := reach_max (Nat.le_trans (Nat.le_mul_of_pos_right _ (by decide)) h.len)

theorem cellsChal : Tryd.prog.cellsOf 45 = 3 := by kernel_rfl
set_option maxRecDepth 100000 in
theorem chal_open {w : World} {cs : List Value} (h : Rd Tryd.prog w 45 cs) : ∃ c : Chal, cs = c.cells ∧ c.Ok w := by
  obtain ⟨hl, _⟩ := h.struct Tryd.underlying45
  rw [cellsChal] at hl
  match cs, hl with
  | [c0, c1, c2], _ =>
    have r0 : Rd Tryd.prog w 9 [c0] := h.field Tryd.underlying45 0 rfl cellsString
    have r1 : Rd Tryd.prog w 9 [c1] := h.field Tryd.underlying45 1 rfl cellsString
    have h2' : Rd Tryd.prog w 43 [c2] := h.field Tryd.underlying45 2 rfl cellsParams
    obtain ⟨s0, e0, z0⟩ := r0.string Tryd.underlying9
    obtain ⟨s1, e1, z1⟩ := r1.string Tryd.underlying9
    simp at e0 e1
    subst e0; subst e1
    obtain ⟨a, len, cap, e, _⟩ := h2'.slice Tryd.underlying43 (by rw [cellsParam]; decide)
    simp at e
    subst e
    obtain ⟨ps, rfl, hp, hz, hb, _⟩ := pars_open h2'
    exact ⟨⟨s0, s1, a, cap, ps⟩, rfl, ⟨z0, z1, hb, hp, hz⟩⟩

end Go.Proofs.YtfkflgcifddnnaaDoor
