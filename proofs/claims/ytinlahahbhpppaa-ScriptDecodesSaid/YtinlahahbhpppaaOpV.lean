/- Operations as arguments; what the statements' 'wide' says of one. -/
import Derived.Test.YtinlahahbhpppaaReq
namespace Go.Proofs.Ytinlahahbhpppaa
open Go.ChangeShapes Go.WideShapes Go.ChangeAt Go.RowKit Go.WideElems Go.Deep

/-- an operation -/
structure OpV where
  what : Int
  req : Req
  proxy : Bool
  text : ByteArray
  user : ByteArray
  pass : ByteArray
  cnonce : ByteArray
  cert : Int
  all : Bool
  n : Int
abbrev OpV.arr (o : OpV) : Array Value := #[.int .i64 o.what, .int .i64 o.req.part, .bool o.req.orig.sec, .string o.req.orig.host, .int .i64 o.req.orig.port, .bool o.req.dest.sec, .string o.req.dest.host, .int .i64 o.req.dest.port, .string o.req.path, .string o.req.query, .string o.req.method, .slice o.req.addr o.req.heads.length o.req.cap, .bool o.req.creds, .string o.req.body, .bool o.proxy, .string o.text, .string o.user, .string o.pass, .string o.cnonce, .int .i64 o.cert, .bool o.all, .int .i64 o.n]
structure OpV.Ok (w : World) (o : OpV) : Prop where
  what : (Lit.int .i64 o.what).wf = true
  req : o.req.Ok w
  text : o.text.size ≤ reachBytes
  user : o.user.size ≤ reachBytes
  pass : o.pass.size ≤ reachBytes
  cnonce : o.cnonce.size ≤ reachBytes
  cert : (Lit.int .i64 o.cert).wf = true
  n : (Lit.int .i64 o.n).wf = true
theorem OpV.Ok.later {w w' : World} {o : OpV} (h : o.Ok w) (hb : Below w.heap.size w w') : o.Ok w' := ⟨h.what, h.req.later hb, h.text, h.user, h.pass, h.cnonce, h.cert, h.n⟩
theorem cellsOp : Try.prog.cellsOf 36 = 22 := by kernel_rfl
theorem cellsCreds : Try.prog.cellsOf 34 = 2 := by kernel_rfl
set_option maxRecDepth 100000 in
theorem op_open {w : World} {cs : List Value} (h : Rd Try.prog w 36 cs) : ∃ o : OpV, cs = o.arr.toList ∧ o.Ok w := by
  obtain ⟨hl, _⟩ := h.struct Try.underlying36
  rw [cellsOp] at hl
  match cs, hl with
  | [c0, c1, c2, c3, c4, c5, c6, c7, c8, c9, c10, c11, c12, c13, c14, c15, c16, c17, c18, c19, c20, c21], _ =>
    have r0 : Rd Try.prog w 3 [c0] := h.field Try.underlying36 0 rfl cellsInt
    have r1 : Rd Try.prog w 32 [c1, c2, c3, c4, c5, c6, c7, c8, c9, c10, c11, c12, c13] := h.field Try.underlying36 1 rfl cellsRequest
    have r2 : Rd Try.prog w 4 [c14] := h.field Try.underlying36 2 rfl cellsBool
    have r3 : Rd Try.prog w 9 [c15] := h.field Try.underlying36 3 rfl cellsString
    have r4 : Rd Try.prog w 34 [c16, c17] := h.field Try.underlying36 4 rfl cellsCreds
    have r40 : Rd Try.prog w 9 [c16] := r4.field Try.underlying34 0 rfl cellsString
    have r41 : Rd Try.prog w 9 [c17] := r4.field Try.underlying34 1 rfl cellsString
    have r5 : Rd Try.prog w 9 [c18] := h.field Try.underlying36 5 rfl cellsString
    have r6 : Rd Try.prog w 3 [c19] := h.field Try.underlying36 6 rfl cellsInt
    have r7 : Rd Try.prog w 4 [c20] := h.field Try.underlying36 7 rfl cellsBool
    have r8 : Rd Try.prog w 3 [c21] := h.field Try.underlying36 8 rfl cellsInt
    obtain ⟨what, e0, z0⟩ := r0.int Try.underlying3
    obtain ⟨r, e1, z1⟩ := req_open r1
    obtain ⟨proxy, e2⟩ := r2.bool Try.underlying4
    obtain ⟨text, e3, z3⟩ := r3.string Try.underlying9
    obtain ⟨user, e4, z4⟩ := r40.string Try.underlying9
    obtain ⟨pass, e5, z5⟩ := r41.string Try.underlying9
    obtain ⟨cn, e6, z6⟩ := r5.string Try.underlying9
    obtain ⟨cert, e7, z7⟩ := r6.int Try.underlying3
    obtain ⟨all, e8⟩ := r7.bool Try.underlying4
    obtain ⟨n, e9, z9⟩ := r8.int Try.underlying3
    simp at e0 e1 e2 e3 e4 e5 e6 e7 e8 e9
    obtain ⟨f1, f2, f3, f4, f5, f6, f7, f8, f9, f10, f11, f12, f13⟩ := e1
    subst e0 f1 f2 f3 f4 f5 f6 f7 f8 f9 f10 f11 f12 f13 e2 e3 e4 e5 e6 e7 e8 e9
    exact ⟨⟨what, r, proxy, text, user, pass, cn, cert, all, n⟩, rfl, ⟨z0, z1, z3, z4, z5, z6, z7, z9⟩⟩
def wideB (o : OpV) : Bool := largeB o.req || decide (700 < o.text.size ∧ o.text.size ≤ 3000) || decide (3009 < o.text.size) || decide (200 < o.user.size + o.pass.size + o.cnonce.size)
end Go.Proofs.Ytinlahahbhpppaa
