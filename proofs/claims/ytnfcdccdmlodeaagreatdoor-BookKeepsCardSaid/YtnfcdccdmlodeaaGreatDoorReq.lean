/- Requests as arguments; what the statements' 'large' says of one: if it says no, it is small. -/
import Derived.Test.YtnfcdccdmlodeaaGreatDoorFound
import Derived.Deep.QuietTactic
import Derived.BigQuiet
import Derived.Deep.RegionHeld3
namespace Go.Proofs.YtnfcdccdmlodeaaGreatDoor
open Go.ChangeShapes Go.WideShapes Go.ChangeAt Go.RowKit Go.WideElems Go.Deep

/-- an origin -/
structure Org where
  sec : Bool
  host : ByteArray
  port : Int
/-- a request, and where its headers lie -/
structure Req where
  part : Int
  orig : Org
  dest : Org
  path : ByteArray
  query : ByteArray
  method : ByteArray
  addr : Option Addr
  cap : Nat
  heads : List (ByteArray × ByteArray)
  creds : Bool
  body : ByteArray
abbrev Req.arr (r : Req) : Array Value := #[.int .i64 r.part, .bool r.orig.sec, .string r.orig.host, .int .i64 r.orig.port, .bool r.dest.sec, .string r.dest.host, .int .i64 r.dest.port, .string r.path, .string r.query, .string r.method, .slice r.addr r.heads.length r.cap, .bool r.creds, .string r.body]
structure Req.Ok (w : World) (r : Req) : Prop where
  part : (Lit.int .i64 r.part).wf = true
  host1 : r.orig.host.size ≤ reachBytes
  port1 : (Lit.int .i64 r.orig.port).wf = true
  host2 : r.dest.host.size ≤ reachBytes
  port2 : (Lit.int .i64 r.dest.port).wf = true
  path : r.path.size ≤ reachBytes
  query : r.query.size ≤ reachBytes
  method : r.method.size ≤ reachBytes
  len : r.heads.length * 32 ≤ reachBytes
  at_ : ParAt w r.addr r.heads
  re : ParRe r.heads
  body : r.body.size ≤ reachBytes
theorem Req.Ok.later {w w' : World} {r : Req} (h : r.Ok w) (hb : Below w.heap.size w w') : r.Ok w' := ⟨h.part, h.host1, h.port1, h.host2, h.port2, h.path, h.query, h.method, h.len, h.at_.later hb, h.re, h.body⟩
theorem Req.Ok.lenMax {w : World} {r : Req} (h : r.Ok w) : r.heads.length ≤ maxLen := reach_max (Nat.le_trans (Nat.le_mul_of_pos_right _ (by decide)) h.len)

theorem cellsOrigin : Tryz.prog.cellsOf 29 = 3 := by kernel_rfl
theorem cellsURL : Tryz.prog.cellsOf 31 = 5 := by kernel_rfl
theorem cellsRequest : Tryz.prog.cellsOf 34 = 13 := by kernel_rfl
set_option maxRecDepth 100000 in
theorem org_open {w : World} {cs : List Value} (h : Rd Tryz.prog w 29 cs) : ∃ o : Org, cs = [.bool o.sec, .string o.host, .int .i64 o.port] ∧ o.host.size ≤ reachBytes ∧ (Lit.int .i64 o.port).wf = true := by
  obtain ⟨hl, _⟩ := h.struct Tryz.underlying29
  rw [cellsOrigin] at hl
  match cs, hl with
  | [c0, c1, c2], _ =>
    have r0 : Rd Tryz.prog w 4 [c0] := h.field Tryz.underlying29 0 rfl cellsBool
    have r1 : Rd Tryz.prog w 9 [c1] := h.field Tryz.underlying29 1 rfl cellsString
    have r2 : Rd Tryz.prog w 3 [c2] := h.field Tryz.underlying29 2 rfl cellsInt
    obtain ⟨b, e0⟩ := r0.bool Tryz.underlying4
    obtain ⟨s, e1, z1⟩ := r1.string Tryz.underlying9
    obtain ⟨n, e2, z2⟩ := r2.int Tryz.underlying3
    simp at e0 e1 e2
    subst e0; subst e1; subst e2
    exact ⟨⟨b, s, n⟩, rfl, z1, z2⟩

set_option maxRecDepth 100000 in
theorem req_open {w : World} {cs : List Value} (h : Rd Tryz.prog w 34 cs) : ∃ r : Req, cs = r.arr.toList ∧ r.Ok w := by
  obtain ⟨hl, _⟩ := h.struct Tryz.underlying34
  rw [cellsRequest] at hl
  match cs, hl with
  | [c0, c1, c2, c3, c4, c5, c6, c7, c8, c9, c10, c11, c12], _ =>
    have r0 : Rd Tryz.prog w 3 [c0] := h.field Tryz.underlying34 0 rfl cellsInt
    have r1 : Rd Tryz.prog w 29 [c1, c2, c3] := h.field Tryz.underlying34 1 rfl cellsOrigin
    have ru : Rd Tryz.prog w 31 [c4, c5, c6, c7, c8] := h.field Tryz.underlying34 2 rfl cellsURL
    have r2 : Rd Tryz.prog w 29 [c4, c5, c6] := ru.field Tryz.underlying31 0 rfl cellsOrigin
    have r3 : Rd Tryz.prog w 9 [c7] := ru.field Tryz.underlying31 1 rfl cellsString
    have r4 : Rd Tryz.prog w 9 [c8] := ru.field Tryz.underlying31 2 rfl cellsString
    have r5 : Rd Tryz.prog w 9 [c9] := h.field Tryz.underlying34 3 rfl cellsString
    have r6 : Rd Tryz.prog w 32 [c10] := h.field Tryz.underlying34 4 rfl cellsParams
    have r7 : Rd Tryz.prog w 4 [c11] := h.field Tryz.underlying34 5 rfl cellsBool
    have r8 : Rd Tryz.prog w 9 [c12] := h.field Tryz.underlying34 6 rfl cellsString
    obtain ⟨part, e0, z0⟩ := r0.int Tryz.underlying3
    obtain ⟨o1, e1, z1, z1'⟩ := org_open r1
    obtain ⟨o2, e2, z2, z2'⟩ := org_open r2
    obtain ⟨path, e3, z3⟩ := r3.string Tryz.underlying9
    obtain ⟨query, e4, z4⟩ := r4.string Tryz.underlying9
    obtain ⟨method, e5, z5⟩ := r5.string Tryz.underlying9
    obtain ⟨a, len, cap, e6, _⟩ := r6.slice Tryz.underlying32 (by rw [cellsParam]; decide)
    obtain ⟨creds, e7⟩ := r7.bool Tryz.underlying4
    obtain ⟨body, e8, z8⟩ := r8.string Tryz.underlying9
    simp at e0 e1 e2 e3 e4 e5 e6 e7 e8
    obtain ⟨e10, e11, e12⟩ := e1
    obtain ⟨e20, e21, e22⟩ := e2
    subst e0 e10 e11 e12 e20 e21 e22 e3 e4 e5 e6 e7 e8
    obtain ⟨ps, rfl, hp, hz, hb, _⟩ := pars_open r6
    exact ⟨⟨part, o1, o2, path, query, method, a, cap, ps, creds, body⟩, rfl, ⟨z0, z1, z1', z2, z2', z3, z4, z5, hb, hp, hz, z8⟩⟩

def Req.total (r : Req) : Nat := r.method.size + r.path.size + r.query.size + r.dest.host.size + r.orig.host.size + r.body.size
structure Small (r : Req) : Prop where
  few : r.heads.length ≤ 45
  total : r.total ≤ 900
  short : ∀ p ∈ r.heads, p.1.size + p.2.size ≤ 300
def largeB (r : Req) : Bool := decide (45 < r.heads.length) || decide (900 < r.total) || r.heads.any (fun p => decide (300 < p.1.size + p.2.size))
theorem small_of {r : Req} (h : largeB r = false) : Small r := by
  simp only [largeB, Bool.or_eq_false_iff, decide_eq_false_iff_not, List.any_eq_false, decide_eq_true_eq] at h
  exact ⟨by omega, by omega, fun p hp => by have := h.2 p hp; omega⟩

theorem box_all {w wr : World} {c : Array Value} {T : TypeId} (h : Below (w.heap.size + 1) (w.alloc (.cells c T)) wr) : ∀ (i : Nat) (v : Value), c[i]? = some v → wr.cell? ⟨w.heap.size, i, none⟩ = some v :=
  fun i _ hv => box_cell h i hv

set_option maxRecDepth 100000 in
set_option maxHeartbeats 800000 in
theorem large_says (r : Req) (w : World) (hO : r.Ok w) :
    Calls Tryz.prog 5 #[.agg r.arr] w fun e w' => e = .returned (.bool (largeB r)) ∧ Below w.heap.size w w' := by
  have z1 := hO.host1; have z2 := hO.host2; have z3 := hO.path; have z4 := hO.query; have z5 := hO.method; have z6 := hO.body
  have hlm := hO.lenMax
  simp only [reachBytes, maxLen] at z1 z2 z3 z4 z5 z6 hlm
  have ht : Hid (r.total = _) := Lib.hid (show r.total = r.method.size + r.path.size + r.query.size + r.dest.host.size + r.orig.host.size + r.body.size from rfl)
  by_cases h45 : 45 < r.heads.length
  · go_enter Tryz.func5, Tryz.ntmps5
    go_wp2
    go_ret
    exact ⟨ret_bool (by simp [largeB, h45]), (Below.refl _ _).alloc (Nat.le_refl _) _⟩
  by_cases h900 : 900 < r.method.size + r.path.size + r.query.size + r.dest.host.size + r.orig.host.size + r.body.size
  · go_enter Tryz.func5, Tryz.ntmps5
    go_wp2
    go_ret
    exact ⟨ret_bool (by unfold largeB; rw [ht.out]; simp [h900]), (Below.refl _ _).alloc (Nat.le_refl _) _⟩
  go_enter Tryz.func5, Tryz.ntmps5
  go_wp2
  go_loopw [4] (fun i wr => ∃ k : Nat, k ≤ r.heads.length ∧ i = .int .i64 k ∧ Below (w.heap.size + 1) (w.alloc (Obj.cells r.arr 34)) wr ∧ Hid (∀ p ∈ r.heads.take k, p.1.size + p.2.size ≤ 300)) (fun i _ => r.heads.length - (intOf i).toNat)
  case atStart => exact ⟨0, Nat.zero_le _, rfl, Below.refl _ _, Lib.hid (by simp)⟩
  case round =>
    obtain ⟨k, hk, rfl, hB, hS⟩ := hrel
    have hB0 : Below w.heap.size w wr := below_box hB
    have hc10 : wr.cell? ⟨w.heap.size, 10, none⟩ = some (.slice r.addr r.heads.length r.cap) := box_all hB 10 _ rfl
    by_cases hlt : k < r.heads.length
    · obtain ⟨b, off, ha, h1, h2⟩ := (hO.at_.later hB0) k hlt
      rw [ha] at hc10
      have y := hO.re _ (List.getElem_mem hlt)
      simp only [reachBytes] at y
      obtain ⟨y1, y2⟩ := y
      by_cases h300 : 300 < r.heads[k].1.size + r.heads[k].2.size
      · go_wp2
        go_quiet (fail)
        go_wp2
        go_ret
        refine ⟨ret_bool ?_, below_drewN hB0 _⟩
        have : r.heads.any (fun p => decide (300 < p.1.size + p.2.size)) = true := List.any_eq_true.2 ⟨_, List.getElem_mem hlt, by simpa using h300⟩
        simp [largeB, this]
      · go_wp2
        go_quiet (fail)
        go_wp2
        go_roundw
        case rel =>
          refine ⟨k + 1, by omega, by go_num, below_drewN hB _, Lib.hid ?_⟩
          intro p hp
          rw [List.take_succ_eq_append_getElem hlt] at hp
          rcases List.mem_append.1 hp with hp | hp
          · exact hS.out p hp
          · simp at hp; subst hp; omega
        case measure => simp [intOf]; omega
    · obtain rfl : k = r.heads.length := by omega
      go_wp2
      go_ret
      refine ⟨ret_bool ?_, hB0⟩
      have h7 := hS.out
      rw [List.take_length] at h7
      have : r.heads.any (fun p => decide (300 < p.1.size + p.2.size)) = false := List.any_eq_false.2 (fun p hp => by have := h7 p hp; simp; omega)
      unfold largeB
      rw [this, ht.out]
      simp [h900]; omega

/-- a request of these headers, and nothing else in it -/
abbrev headsReq (a : Option Addr) (cap : Nat) (ps : List (ByteArray × ByteArray)) : Req := ⟨0, ⟨false, ⟨#[]⟩, 0⟩, ⟨false, ⟨#[]⟩, 0⟩, ⟨#[]⟩, ⟨#[]⟩, ⟨#[]⟩, a, cap, ps, false, ⟨#[]⟩⟩
theorem headsReq_ok {w : World} {a : Option Addr} {cap : Nat} {ps : List (ByteArray × ByteArray)} (hb : ps.length * 32 ≤ reachBytes) (hP : ParAt w a ps) (hz : ParRe ps) : (headsReq a cap ps).Ok w := by
  have z : (Lit.int .i64 0).wf = true := by decide
  have s : (⟨#[]⟩ : ByteArray).size ≤ reachBytes := by decide
  exact ⟨z, s, z, s, z, s, s, s, hb, hP, hz, s⟩

end Go.Proofs.YtnfcdccdmlodeaaGreatDoor
