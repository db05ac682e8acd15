/- What a challenge asks for, and credentials, as arguments. -/
import Derived.Test.YtchgpdgigpaloaaDoorFoun2
import Derived.Test.YtchgpdgigpaloaaDoorFound
namespace Go.Proofs.YtchgpdgigpaloaaDoor
open Go.ChangeShapes Go.WideShapes Go.ChangeAt Go.RowKit Go.WideElems Go.Deep

/-- what is asked for, without where it lies -/
structure AskD where
  scheme : Int
  realm : ByteArray
  nonce : ByteArray
  opaque_ : ByteArray
  sess : Bool
  qop : ByteArray
  stale : Bool
  domain : List ByteArray
def askZero : AskD := ⟨0, ⟨#[]⟩, ⟨#[]⟩, ⟨#[]⟩, false, ⟨#[]⟩, false, []⟩
structure AskV where
  d : AskD
  addr : Option Addr
  cap : Nat
abbrev AskV.arr (a : AskV) : Array Value := #[.int .i64 a.d.scheme, .string a.d.realm, .string a.d.nonce, .string a.d.opaque_, .bool a.d.sess, .string a.d.qop, .bool a.d.stale, .slice a.addr a.d.domain.length a.cap]
structure AskV.Ok (w : World) (a : AskV) : Prop where
  scheme : (Lit.int .i64 a.d.scheme).wf = true
  realm : a.d.realm.size ≤ reachBytes
  nonce : a.d.nonce.size ≤ reachBytes
  opaque_ : a.d.opaque_.size ≤ reachBytes
  qop : a.d.qop.size ≤ reachBytes
  at_ : StrAt w a.addr a.d.domain
  len : a.d.domain.length * 16 ≤ reachBytes
  cap : a.d.domain.length ≤ a.cap ∧ a.cap ≤ maxLen
theorem AskV.Ok.later {w w' : World} {a : AskV} (h : a.Ok w) (hb : Below w.heap.size w w') : a.Ok w' := ⟨h.scheme, h.realm, h.nonce, h.opaque_, h.qop, h.at_.later hb, h.len, h.cap⟩
theorem cellsAsk : Tryd.prog.cellsOf 37 = 8 := by kernel_rfl
theorem cellsCreds2 : Tryd.prog.cellsOf 34 = 2 := by kernel_rfl
theorem cellsInt' : Tryd.prog.cellsOf 3 = 1 := by kernel_rfl
theorem cellsBool' : Tryd.prog.cellsOf 4 = 1 := by kernel_rfl
theorem cellsStrs' : Tryd.prog.cellsOf 35 = 1 := by kernel_rfl
set_option maxRecDepth 100000 in
theorem ask_open {w : World} {cs : List Value} (h : Rd Tryd.prog w 37 cs) : ∃ a : AskV, cs = a.arr.toList ∧ a.Ok w := by
  obtain ⟨hl, _⟩ := h.struct Tryd.underlying37
  rw [cellsAsk] at hl
  match cs, hl with
  | [c0, c1, c2, c3, c4, c5, c6, c7], _ =>
    have r0 : Rd Tryd.prog w 3 [c0] := h.field Tryd.underlying37 0 rfl cellsInt'
    have r1 : Rd Tryd.prog w 9 [c1] := h.field Tryd.underlying37 1 rfl cellsString
    have r2 : Rd Tryd.prog w 9 [c2] := h.field Tryd.underlying37 2 rfl cellsString
    have r3 : Rd Tryd.prog w 9 [c3] := h.field Tryd.underlying37 3 rfl cellsString
    have r4 : Rd Tryd.prog w 4 [c4] := h.field Tryd.underlying37 4 rfl cellsBool'
    have r5 : Rd Tryd.prog w 9 [c5] := h.field Tryd.underlying37 5 rfl cellsString
    have r6 : Rd Tryd.prog w 4 [c6] := h.field Tryd.underlying37 6 rfl cellsBool'
    have r7 : Rd Tryd.prog w 35 [c7] := h.field Tryd.underlying37 7 rfl cellsStrs'
    obtain ⟨n0, e0, z0⟩ := r0.int Tryd.underlying3
    obtain ⟨s1, e1, z1⟩ := r1.string Tryd.underlying9
    obtain ⟨s2, e2, z2⟩ := r2.string Tryd.underlying9
    obtain ⟨s3, e3, z3⟩ := r3.string Tryd.underlying9
    obtain ⟨b4, e4⟩ := r4.bool Tryd.underlying4
    obtain ⟨s5, e5, z5⟩ := r5.string Tryd.underlying9
    obtain ⟨b6, e6⟩ := r6.bool Tryd.underlying4
    obtain ⟨a, len, cap, e7, _⟩ := r7.slice Tryd.underlying35 (by rw [cellsString]; decide)
    simp at e0 e1 e2 e3 e4 e5 e6 e7
    subst e0 e1 e2 e3 e4 e5 e6 e7
    obtain ⟨ss, rfl, hp, _, hb, hc, hm, _⟩ := strs_open r7
    exact ⟨⟨⟨n0, s1, s2, s3, b4, s5, b6, ss⟩, a, cap⟩, rfl, ⟨z0, z1, z2, z3, z5, hp, hb, hc, hm⟩⟩
set_option maxRecDepth 100000 in
theorem creds_open {w : World} {cs : List Value} (h : Rd Tryd.prog w 34 cs) : ∃ u p : ByteArray, cs = [.string u, .string p] ∧ u.size ≤ reachBytes ∧ p.size ≤ reachBytes := by
  obtain ⟨hl, _⟩ := h.struct Tryd.underlying34
  rw [cellsCreds2] at hl
  match cs, hl with
  | [c0, c1], _ =>
    have r0 : Rd Tryd.prog w 9 [c0] := h.field Tryd.underlying34 0 rfl cellsString
    have r1 : Rd Tryd.prog w 9 [c1] := h.field Tryd.underlying34 1 rfl cellsString
    obtain ⟨s0, e0, z0⟩ := r0.string Tryd.underlying9
    obtain ⟨s1, e1, z1⟩ := r1.string Tryd.underlying9
    simp at e0 e1
    subst e0 e1
    exact ⟨s0, s1, rfl, z0, z1⟩
section
variable {w : World} {p : Nat} {v0 v1 v2 v3 v4 v5 v6 v7 : Value} {T : TypeId}
theorem blk_cells (h : Blk w p #[v0, v1, v2, v3, v4, v5, v6, v7] T) :
    w.cell? ⟨p, 0, none⟩ = some v0 ∧ w.cell? ⟨p, 1, none⟩ = some v1 ∧ w.cell? ⟨p, 2, none⟩ = some v2 ∧ w.cell? ⟨p, 3, none⟩ = some v3 ∧ w.cell? ⟨p, 4, none⟩ = some v4 ∧ w.cell? ⟨p, 5, none⟩ = some v5 ∧ w.cell? ⟨p, 6, none⟩ = some v6 ∧ w.cell? ⟨p, 7, none⟩ = some v7 :=
  ⟨h.cell 0 rfl, h.cell 1 rfl, h.cell 2 rfl, h.cell 3 rfl, h.cell 4 rfl, h.cell 5 rfl, h.cell 6 rfl, h.cell 7 rfl⟩
theorem blk_free (h : Blk w p #[v0, v1, v2, v3, v4, v5, v6, v7] T) :
    w.frozen? ⟨p, 0, none⟩ = false ∧ w.frozen? ⟨p, 1, none⟩ = false ∧ w.frozen? ⟨p, 2, none⟩ = false ∧ w.frozen? ⟨p, 3, none⟩ = false ∧ w.frozen? ⟨p, 4, none⟩ = false ∧ w.frozen? ⟨p, 5, none⟩ = false ∧ w.frozen? ⟨p, 6, none⟩ = false ∧ w.frozen? ⟨p, 7, none⟩ = false :=
  ⟨h.free 0, h.free 1, h.free 2, h.free 3, h.free 4, h.free 5, h.free 6, h.free 7⟩
theorem blk_set8 (h : Blk w p #[v0, v1, v2, v3, v4, v5, v6, v7] T) (y0 y1 y2 y3 y4 y5 y6 y7 : Value) :
    Blk ((((((((w.setCell ⟨p, 0, none⟩ y0).setCell ⟨p, 1, none⟩ y1).setCell ⟨p, 2, none⟩ y2).setCell ⟨p, 3, none⟩ y3).setCell ⟨p, 4, none⟩ y4).setCell ⟨p, 5, none⟩ y5).setCell ⟨p, 6, none⟩ y6).setCell ⟨p, 7, none⟩ y7) p #[y0, y1, y2, y3, y4, y5, y6, y7] T := by
  have := (((((((h.set 0 y0).set 1 y1).set 2 y2).set 3 y3).set 4 y4).set 5 y5).set 6 y6).set 7 y7
  simpa using this
theorem below_set8 {B : Nat} {a : World} (h : Below B a w) (hp : B ≤ p) (y0 y1 y2 y3 y4 y5 y6 y7 : Value) :
    Below B a ((((((((w.setCell ⟨p, 0, none⟩ y0).setCell ⟨p, 1, none⟩ y1).setCell ⟨p, 2, none⟩ y2).setCell ⟨p, 3, none⟩ y3).setCell ⟨p, 4, none⟩ y4).setCell ⟨p, 5, none⟩ y5).setCell ⟨p, 6, none⟩ y6).setCell ⟨p, 7, none⟩ y7) :=
  (((((((h.setCell hp _).setCell hp _).setCell hp _).setCell hp _).setCell hp _).setCell hp _).setCell hp _).setCell hp _
end
abbrev zArr : Array Value := #[.int .i64 0, .string ⟨#[]⟩, .string ⟨#[]⟩, .string ⟨#[]⟩, .bool false, .string ⟨#[]⟩, .bool false, .slice none 0 0]
abbrev tAsk : TypeId := 37
theorem infoAsk : (Tryd.prog.info? 37).map (·.size) = some 8 := by kernel_rfl
theorem ask_one (k : Int) (r n o q : ByteArray) (s t : Bool) (a : Option Addr) (m c : Nat) : (#[.int .i64 k, .string r, .string n, .string o, .bool s, .string q, .bool t, .slice a m c] : Array Value).all (·.oneCell') = true :=
  all_oneCell_toArray (cs := [.int .i64 k, .string r, .string n, .string o, .bool s, .string q, .bool t, .slice a m c]) (by
    intro v hv
    simp only [List.mem_cons, List.not_mem_nil, or_false] at hv
    rcases hv with rfl | rfl | rfl | rfl | rfl | rfl | rfl | rfl <;> rfl)
end Go.Proofs.YtchgpdgigpaloaaDoor
