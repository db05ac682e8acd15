/- Two passes compared, by one step. -/
import Derived.Test.YtnfcdccdmlodeaaGreatDoorPass
import Derived.Test.YtnfcdccdmlodeaaGreatDoorOrgE
namespace Go.Proofs.YtnfcdccdmlodeaaGreatDoor
open Go.RowKit
/-- two passes are one, cell by cell -/
def passEq (p q : Pass) : Bool :=
  (p.orig.sec == q.orig.sec) && (p.orig.host.toList == q.orig.host.toList) && (p.orig.port == q.orig.port) && (p.dest.sec == q.dest.sec) && (p.dest.host.toList == q.dest.host.toList) && (p.dest.port == q.dest.port) && (p.path.toList == q.path.toList) && (p.query.toList == q.query.toList) && (p.creds == q.creds) && (p.method.toList == q.method.toList) && (p.head.toList == q.head.toList) && (p.till == q.till)
theorem passEq_iff (p q : Pass) : passEq p q = true ↔ p = q := by
  constructor
  · intro h
    simp only [passEq, Bool.and_eq_true, beq_iff_eq] at h
    obtain ⟨⟨⟨⟨⟨⟨⟨⟨⟨⟨⟨h1, h2⟩, h3⟩, h4⟩, h5⟩, h6⟩, h7⟩, h8⟩, h9⟩, h10⟩, h11⟩, h12⟩ := h
    obtain ⟨⟨a1, a2, a3⟩, ⟨b1, b2, b3⟩, c, d, e, f, g, i⟩ := p
    obtain ⟨⟨a1', a2', a3'⟩, ⟨b1', b2', b3'⟩, c', d', e', f', g', i'⟩ := q
    simp only at h1 h2 h3 h4 h5 h6 h7 h8 h9 h10 h11 h12
    have h2 := toList_inj h2; have h5 := toList_inj h5; have h7 := toList_inj h7; have h8 := toList_inj h8; have h10 := toList_inj h10; have h11 := toList_inj h11
    subst h1 h2 h3 h4 h5 h6 h7 h8 h9 h10 h11 h12
    rfl
  · rintro rfl
    simp [passEq]
set_option maxRecDepth 100000 in
set_option maxHeartbeats 2000000 in
theorem pass_eql (p q : Pass) (w : World) : (binOp .eql tPass (.agg p.arr) (.agg q.arr)).run Tryz.prog w = .ok (.bool (passEq p q)) w := by
  obtain ⟨⟨s1, h1, p1⟩, ⟨s2, h2, p2⟩, path, query, creds, m, h, u⟩ := p
  obtain ⟨⟨s1', h1', p1'⟩, ⟨s2', h2', p2'⟩, path', query', creds', m', h', u'⟩ := q
  have hr : passEq ⟨⟨s1, h1, p1⟩, ⟨s2, h2, p2⟩, path, query, creds, m, h, u⟩ ⟨⟨s1', h1', p1'⟩, ⟨s2', h2', p2'⟩, path', query', creds', m', h', u'⟩ = ((s1 == s1') && (h1.toList == h1'.toList) && (p1 == p1') && (s2 == s2') && (h2.toList == h2'.toList) && (p2 == p2') && (path.toList == path'.toList) && (query.toList == query'.toList) && (creds == creds') && (m.toList == m'.toList) && (h.toList == h'.toList) && (u == u')) := rfl
  rw [hr]
  go_simp
  simp only [nest, beq_dec, Bool.and_assoc, Bool.and_true]
set_option maxRecDepth 100000 in
theorem url_eql (o p : Org) (a b a' b' : ByteArray) (w : World) : (binOp .eql 31 (.agg #[.bool o.sec, .string o.host, .int .i64 o.port, .string a, .string b]) (.agg #[.bool p.sec, .string p.host, .int .i64 p.port, .string a', .string b'])).run Tryz.prog w = .ok (.bool (orgE o p && (a.toList == a'.toList) && (b.toList == b'.toList))) w := by
  obtain ⟨s1, h1, p1⟩ := o
  obtain ⟨s1', h1', p1'⟩ := p
  have hr : orgE ⟨s1, h1, p1⟩ ⟨s1', h1', p1'⟩ = ((s1 == s1') && (h1.toList == h1'.toList) && (p1 == p1')) := rfl
  rw [hr]
  go_simp
  simp only [nest, beq_dec, Bool.and_assoc, Bool.and_true]
theorem noGuardPass : Tryz.prog.eqGuardType Tryz.prog.depth tPass = false := by kernel_rfl
end Go.Proofs.YtnfcdccdmlodeaaGreatDoor
