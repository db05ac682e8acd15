/- Requests as arguments; what the statements' 'large' says of one: if it says no, it is small. -/
import Derived.Test.YtinlahahbhpppaaFound
import Derived.Deep.QuietTactic
import Derived.BigQuiet
import Derived.Deep.RegionHeld3
namespace Go.Proofs.Ytinlahahbhpppaa
open Go.ChangeShapes Go.WideShapes Go.ChangeAt Go.RowKit Go.WideElems Go.Deep

/-- an origin -/
structure Org where
  sec : Bool
  host : ByteArray
  port : Int
/-- a request, and where its headers lie -/
structure Req where
  part : Int
  orig : Org
  dest : Org
  path : ByteArray
  query : ByteArray
  method : ByteArray
  addr : Option Addr
  cap : Nat
  heads : List (ByteArray × ByteArray)
  creds : Bool
  body : ByteArray
abbrev Req.arr (r : Req) : Array Value := #[.int .i64 r.part, .bool r.orig.sec, .string r.orig.host, .int .i64 r.orig.port, .bool r.dest.sec, .string r.dest.host, .int .i64 r.dest.port, .string r.path, .string r.query, .string r.method, .slice r.addr r.heads.length r.cap, .bool r.creds, .string r.body]
structure Req.Ok (w : World) (r : Req) : Prop where
  part : (Lit.int .i64 r.part).wf = true
  host1 : r.orig.host.size ≤ reachBytes
  port1 : (Lit.int .i64 r.orig.port).wf = true
  host2 : r.dest.host.size ≤ reachBytes
  port2 : (Lit.int .i64 r.dest.port).wf = true
  path : r.path.size ≤ reachBytes
  query : r.query.size ≤ reachBytes
  method : r.method.size ≤ reachBytes
  len : r.heads.length * 32 ≤ reachBytes
  at_ : ParAt w r.addr r.heads
  re : ParRe r.heads
  body : r.body.size ≤ reachBytes
theorem Req.Ok.later {w w' : World} {r : Req} (h : r.Ok w) (hb : Below w.heap.size w w') : r.Ok w' := ⟨h.part, h.host1, h.port1, h.host2, h.port2, h.path, h.query, h.method, h.len, h.at_.later hb, h.re, h.body⟩
theorem Req.Ok.lenMax {w : World} {r : Req} (h : r.Ok w) : r.heads.length ≤ maxLen := reach_max (Nat.le_trans (Nat.le_mul_of_pos_right _ (by decide)) h.len)

theorem cellsOrigin : Try.prog.cellsOf 27 = 3 := by kernel_rfl
theorem cellsURL : Try.prog.cellsOf 29 = 5 := by kernel_rfl
theorem cellsRequest : Try.prog.cellsOf 32 = 13 := by kernel_rfl
set_option maxRecDepth 100000 in
theorem org_open {w : World} {cs : List Value} (h : Rd Try.prog w 27 cs) : ∃ o : Org, cs = [.bool o.sec, .string o.host, .int .i64 o.port] ∧ o.host.size ≤ reachBytes ∧ (Lit.int .i64 o.port).wf = true := by
  obtain ⟨hl, _⟩ := h.struct Try.underlying27
  rw [cellsOrigin] at hl
  match cs, hl with
  | [c0, c1, c2], _ =>
    have r0 : Rd Try.prog w 4 [c0] := h.field Try.underlying27 0 rfl cellsBool
    have r1 : Rd Try.prog w 9 [c1] := h.field Try.underlying27 1 rfl cellsString
    have r2 : Rd Try.prog w 3 [c2] := h.field Try.underlying27 2 rfl cellsInt
    obtain ⟨b, e0⟩ := r0.bool Try.underlying4
    obtain ⟨s, e1, z1⟩ := r1.string Try.underlying9
    obtain ⟨n, e2, z2⟩ := r2.int Try.underlying3
    simp at e0 e1 e2
    subst e0; subst e1; subst e2
    exact ⟨⟨b, s, n⟩, rfl, z1, z2⟩

set_option maxRecDepth 100000 in
theorem req_open {w : World} {cs : List Value} (h : Rd Try.prog w 32 cs) : ∃ r : Req, cs = r.arr.toList ∧ r.Ok w := by
  obtain ⟨hl, _⟩ := h.struct Try.underlying32
  rw [cellsRequest] at hl
  match cs, hl with
  | [c0, c1, c2, c3, c4, c5, c6, c7, c8, c9, c10, c11, c12], _ =>
    have r0 : Rd Try.prog w 3 [c0] := h.field Try.underlying32 0 rfl cellsInt
    have r1 : Rd Try.prog w 27 [c1, c2, c3] := h.field Try.underlying32 1 rfl cellsOrigin
    have ru : Rd Try.prog w 29 [c4, c5, c6, c7, c8] := h.field Try.underlying32 2 rfl cellsURL
    have r2 : Rd Try.prog w 27 [c4, c5, c6] := ru.field Try.underlying29 0 rfl cellsOrigin
    have r3 : Rd Try.prog w 9 [c7] := ru.field Try.underlying29 1 rfl cellsString
    have r4 : Rd Try.prog w 9 [c8] := ru.field Try.underlying29 2 rfl cellsString
    have r5 : Rd Try.prog w 9 [c9] := h.field Try.underlying32 3 rfl cellsString
    have r6 : Rd Try.prog w 30 [c10] := h.field Try.underlying32 4 rfl cellsParams
    have r7 : Rd Try.prog w 4 [c11] := h.field Try.underlying32 5 rfl cellsBool
    have r8 : Rd Try.prog w 9 [c12] := h.field Try.underlying32 6 rfl cellsString
    obtain ⟨part, e0, z0⟩ := r0.int Try.underlying3
    obtain ⟨o1, e1, z1, z1'⟩ := org_open r1
    obtain ⟨o2, e2, z2, z2'⟩ := org_open r2
    obtain ⟨path, e3, z3⟩ := r3.string Try.underlying9
    obtain ⟨query, e4, z4⟩ := r4.string Try.underlying9
    obtain ⟨method, e5, z5⟩ := r5.string Try.underlying9
    obtain ⟨a, len, cap, e6, _⟩ := r6.slice Try.underlying30 (by rw [cellsParam]; decide)
    obtain ⟨creds, e7⟩ := r7.bool Try.underlying4
    obtain ⟨body, e8, z8⟩ := r8.string Try.underlying9
    simp at e0 e1 e2 e3 e4 e5 e6 e7 e8
    obtain ⟨e10, e11, e12⟩ := e1
    obtain ⟨e20, e21, e22⟩ := e2
    subst e0 e10 e11 e12 e20 e21 e22 e3 e4 e5 e6 e7 e8
    obtain ⟨ps, rfl, hp, hz, hb, _⟩ := pars_open r6
    exact ⟨⟨part, o1, o2, path, query, method, a, cap, ps, creds, body⟩, rfl, ⟨z0, z1, z1', z2, z2', z3, z4, z5, hb, hp, hz, z8⟩⟩

def Req.total (r : Req) : Nat := r.method.size + r.path.size + r.query.size + r.dest.host.size + r.orig.host.size + r.body.size
structure Small (r : Req) : Prop where
  few : r.heads.length ≤ 45
  total : r.total ≤ 900
  short : ∀ p ∈ r.heads, p.1.size + p.2.size ≤ 300
def largeB (r : Req) : Bool := decide (45 < r.heads.length) || decide (900 < r.total) || r.heads.any (fun p => decide (300 < p.1.size + p.2.size))
theorem small_of {r : Req} (h : largeB r = false) : Small r := by
  simp only [largeB, Bool.or_eq_false_iff, decide_eq_false_iff_not, List.any_eq_false, decide_eq_true_eq] at h
  exact ⟨by omega, by omega, fun p hp => by have := h.2 p hp; omega⟩

theorem box_all {w wr : World} {c : Array Value} {T : TypeId} (h : Below (w.heap.size + 1) (w.alloc (.cells c T)) wr) : ∀ (i : Nat) (v : Value), c[i]? = some v → wr.cell? ⟨w.heap.size, i, none⟩ = some v :=
  fun i _ hv => box_cell h i hv

/-- a request of these headers, and nothing else in it -/
abbrev headsReq (a : Option Addr) (cap : Nat) (ps : List (ByteArray × ByteArray)) : Req := ⟨0, ⟨false, ⟨#[]⟩, 0⟩, ⟨false, ⟨#[]⟩, 0⟩, ⟨#[]⟩, ⟨#[]⟩, ⟨#[]⟩, a, cap, ps, false, ⟨#[]⟩⟩
theorem headsReq_ok {w : World} {a : Option Addr} {cap : Nat} {ps : List (ByteArray × ByteArray)} (hb : ps.length * 32 ≤ reachBytes) (hP : ParAt w a ps) (hz : ParRe ps) : (headsReq a cap ps).Ok w := by
  have z : (Lit.int .i64 0).wf = true := by decide
  have s : (⟨#[]⟩ : ByteArray).size ≤ reachBytes := by decide
  exact ⟨z, s, z, s, z, s, s, s, hb, hP, hz, s⟩

end Go.Proofs.Ytinlahahbhpppaa
