/- Passes: as arguments, in rows; which of them meet a method, a header's name. -/
import Derived.Test.YtnfcdccdmlodeaaGreatDoorReq
import Derived.Test.YtnfcdccdmlodeaaGreatDoorFound
import Derived.Test.YtnfcdccdmlodeaaGreatDoorCovP
namespace Go.Proofs.YtnfcdccdmlodeaaGreatDoor
open Go.ChangeShapes Go.WideShapes Go.ChangeAt Go.RowKit Go.WideElems Go.Deep
abbrev tPass : TypeId := 79
/-- a pass -/
structure Pass where
  orig : Org
  dest : Org
  path : ByteArray
  query : ByteArray
  creds : Bool
  method : ByteArray
  head : ByteArray
  till : Int
abbrev Pass.arr (p : Pass) : Array Value := #[.bool p.orig.sec, .string p.orig.host, .int .i64 p.orig.port, .bool p.dest.sec, .string p.dest.host, .int .i64 p.dest.port, .string p.path, .string p.query, .bool p.creds, .string p.method, .string p.head, .int .i64 p.till]
def encPass (p : Pass) : List Value := p.arr.toList
structure Pass.Ok (p : Pass) : Prop where
  host1 : p.orig.host.size ≤ reachBytes
  port1 : (Lit.int .i64 p.orig.port).wf = true
  host2 : p.dest.host.size ≤ reachBytes
  port2 : (Lit.int .i64 p.dest.port).wf = true
  path : p.path.size ≤ reachBytes
  query : p.query.size ≤ reachBytes
  method : p.method.size ≤ reachBytes
  head : p.head.size ≤ reachBytes
  till : (Lit.int .i64 p.till).wf = true
theorem encPass_len (p : Pass) : (encPass p).length = 12 := rfl
theorem encPass_one (p : Pass) : ∀ u ∈ encPass p, u.oneCell' = true := by
  intro u hu
  simp only [encPass, List.mem_cons, List.not_mem_nil, or_false] at hu
  rcases hu with rfl | rfl | rfl | rfl | rfl | rfl | rfl | rfl | rfl | rfl | rfl | rfl <;> rfl
theorem infoPass : (Tryz.prog.info? 79).map (·.size) = some 12 := by kernel_rfl
theorem cellsPass : Tryz.prog.cellsOf 79 = 12 := by kernel_rfl
theorem bytesPass : Tryz.prog.bytesOf 79 = 144 := by kernel_rfl
set_option maxRecDepth 100000 in
theorem pass_open {w : World} {cs : List Value} (h : Rd Tryz.prog w 79 cs) : ∃ p : Pass, cs = encPass p ∧ p.Ok := by
  obtain ⟨hl, _⟩ := h.struct Tryz.underlying79
  rw [cellsPass] at hl
  match cs, hl with
  | [c0, c1, c2, c3, c4, c5, c6, c7, c8, c9, c10, c11], _ =>
    have r1 : Rd Tryz.prog w 29 [c0, c1, c2] := h.field Tryz.underlying79 0 rfl cellsOrigin
    have ru : Rd Tryz.prog w 31 [c3, c4, c5, c6, c7] := h.field Tryz.underlying79 1 rfl cellsURL
    have r2 : Rd Tryz.prog w 29 [c3, c4, c5] := ru.field Tryz.underlying31 0 rfl cellsOrigin
    have r3 : Rd Tryz.prog w 9 [c6] := ru.field Tryz.underlying31 1 rfl cellsString
    have r4 : Rd Tryz.prog w 9 [c7] := ru.field Tryz.underlying31 2 rfl cellsString
    have r5 : Rd Tryz.prog w 4 [c8] := h.field Tryz.underlying79 2 rfl cellsBool
    have r6 : Rd Tryz.prog w 9 [c9] := h.field Tryz.underlying79 3 rfl cellsString
    have r7 : Rd Tryz.prog w 9 [c10] := h.field Tryz.underlying79 4 rfl cellsString
    have r8 : Rd Tryz.prog w 3 [c11] := h.field Tryz.underlying79 5 rfl cellsInt
    obtain ⟨o1, e1, z1, z1'⟩ := org_open r1
    obtain ⟨o2, e2, z2, z2'⟩ := org_open r2
    obtain ⟨path, e3, z3⟩ := r3.string Tryz.underlying9
    obtain ⟨query, e4, z4⟩ := r4.string Tryz.underlying9
    obtain ⟨creds, e5⟩ := r5.bool Tryz.underlying4
    obtain ⟨method, e6, z6⟩ := r6.string Tryz.underlying9
    obtain ⟨head, e7, z7⟩ := r7.string Tryz.underlying9
    obtain ⟨till, e8, z8⟩ := r8.int Tryz.underlying3
    simp at e1 e2 e3 e4 e5 e6 e7 e8
    obtain ⟨e10, e11, e12⟩ := e1
    obtain ⟨e20, e21, e22⟩ := e2
    subst e10 e11 e12 e20 e21 e22 e3 e4 e5 e6 e7 e8
    exact ⟨⟨o1, o2, path, query, creds, method, head, till⟩, rfl, ⟨z1, z1', z2, z2', z3, z4, z6, z7, z8⟩⟩
/-- passes that lie in a row -/
abbrev PassAt (w : World) (a : Option Addr) (ps : List Pass) : Prop := RowAt 12 encPass w a ps
set_option maxRecDepth 100000 in
theorem passes_open {w : World} {a : Option Addr} {len cap : Nat} (h : Rd Tryz.prog w 24 [.slice a len cap]) :
    ∃ ps : List Pass, ps.length = len ∧ PassAt w a ps ∧ (∀ p ∈ ps, p.Ok) ∧ len * 144 ≤ reachBytes ∧ len ≤ cap ∧ cap ≤ maxLen ∧ (a = none → len = 0 ∧ cap = 0) := by
  obtain ⟨a', len', cap', e, hb, _, hl, hc, hn, hi⟩ := h.slice Tryz.underlying24 (by rw [cellsPass]; decide)
  simp at e
  obtain ⟨rfl, rfl, rfl⟩ := e
  rw [bytesPass] at hb
  rw [cellsPass] at hi
  obtain ⟨ps, hps, hp⟩ := exists_list (fun i (p : Pass) => (∃ b off, a = some ⟨b, off, none⟩ ∧ ∀ j u, (encPass p)[j]? = some u → w.cell? ⟨b, off + i * 12 + j, none⟩ = some u) ∧ p.Ok) len (by
    intro i hil
    obtain ⟨b, off, cs', ha, hl', hR, hcell⟩ := hi i hil
    obtain ⟨p, rfl, z0⟩ := pass_open hR
    exact ⟨p, ⟨b, off, ha, fun j u hu => by
      have hj : j < 12 := by have := (List.getElem?_eq_some_iff.1 hu).1; rwa [encPass_len] at this
      rw [hcell j hj, hu]⟩, z0⟩)
  refine ⟨ps, hps, fun i hil => (hp i hil).1, ?_, hb, hl, hc, hn⟩
  intro p hpm
  obtain ⟨i, hil, rfl⟩ := List.getElem_of_mem hpm
  exact (hp i hil).2
/-- what of a pass counts -/
def pasV (p : Pass) : Pas := (p.method.data.toList, p.head.data.toList)
/-- a function value that tells of a pass whether it is such, and writes nothing old -/
def PredP (g : Nat) (lb : Array Value) (f : Pass → Bool) (ps : List Pass) (w : World) : Prop :=
  ∀ (W : World) (x : Pass), Below w.heap.size w W → x ∈ ps → Calls Tryz.prog g (#[.agg x.arr] ++ lb) W fun e w' => e = .returned (.bool (f x)) ∧ Below W.heap.size W w'
def IdxPPost (f : Pass → Bool) (ps : List Pass) (w : World) (e : Ending) (w' : World) : Prop :=
  ∃ r : Int, e = .returned (.int .i64 r) ∧ decide (0 ≤ r) = ps.any f ∧ Below w.heap.size w w'
theorem anyp_take_no {f : Pass → Bool} {ps : List Pass} {k : Nat} (h : k < ps.length) (h0 : (ps.take k).any f = false) (e : f ps[k] = false) : (ps.take (k + 1)).any f = false := by
  rw [List.take_succ_eq_append_getElem h, List.any_append, h0]; simp [e]
theorem anyp_hit {f : Pass → Bool} {ps : List Pass} {k : Nat} (h : k < ps.length) (e : f ps[k] = true) : ps.any f = true := by
  rw [List.any_eq_true]; exact ⟨_, List.getElem_mem h, e⟩
set_option maxRecDepth 100000 in
theorem indexFuncP (g : Nat) (lb : Array Value) (f : Pass → Bool) (a : Option Addr) (cap : Nat) (ps : List Pass) (w : World) (hS : PassAt w a ps) (hl : ps.length ≤ 1048576) (eg : ∀ args w, (callFunc g args).run Tryz.prog w = .ok (.enter g args) w) (hp : PredP g lb f ps w) :
    Calls Tryz.prog 61 #[.slice a ps.length cap, .func (.func g) #[] lb] w (IdxPPost f ps w) := by
  go_enter Tryz.func61, Tryz.ntmps61
  go_wp2
  go_loopw [8] (fun i wr => ∃ k : Nat, k ≤ ps.length ∧ i = .int .i64 k ∧ Hid (Below w.heap.size w wr) ∧ Hid ((ps.take k).any f = false)) (fun i _ => ps.length - (intOf i).toNat)
  case atStart => exact ⟨0, Nat.zero_le _, rfl, Lib.hid (Below.refl _ _), Lib.hid rfl⟩
  case round =>
    obtain ⟨k, hk, rfl, hB, hN⟩ := hrel
    by_cases hlt : k < ps.length
    · obtain ⟨b, off, rfl, hc⟩ := (hS.later hB.out) k hlt
      have hpk := hp wr _ hB.out (List.getElem_mem hlt)
      have hrg : wr.rangeAt b (off + k * 12) (encPass ps[k]) := hc
      have hag : (Value.agg (encPass ps[k]).toArray) = .agg ps[k].arr := rfl
      cases hq : f ps[k]
      · rw [hq] at hpk
        have hn := Lib.hid (anyp_take_no hlt hN.out hq)
        clear hq hc
        generalize ps[k] = x at hpk hrg hag
        go_wp2_with (first
          | (refine wpList_load_mid rfl 79 _ rfl b (off + k * 12) rfl (encPass x) _ hrg Tryz.underlying79 rfl infoPass ?_)
          | (go_at_fn g; refine hpk.mono ?_; rintro e w2 ⟨rfl, hB2⟩))
        have hB3 := Lib.hid (hB.out.then (Nat.le_refl _) hB2)
        go_wp2
        go_roundw
        case rel => exact ⟨k + 1, by omega, by go_num, hB3, hn⟩
        case measure => simp [intOf]; omega
      · rw [hq] at hpk
        have hn := Lib.hid (anyp_hit hlt hq)
        clear hq hc
        generalize ps[k] = x at hpk hrg hag
        go_wp2_with (first
          | (refine wpList_load_mid rfl 79 _ rfl b (off + k * 12) rfl (encPass x) _ hrg Tryz.underlying79 rfl infoPass ?_)
          | (go_at_fn g; refine hpk.mono ?_; rintro e w2 ⟨rfl, hB2⟩))
        have hB3 := Lib.hid (hB.out.then (Nat.le_refl _) hB2)
        go_wp2
        go_ret
        exact ⟨_, rfl, by rw [hn.out]; simp, hB3.out⟩
    · obtain rfl : ps.length = k := by omega
      have hn := Lib.hid (show ps.any f = false by have := hN.out; rwa [List.take_length] at this)
      go_wp2
      go_ret
      exact ⟨_, rfl, by rw [hn.out]; decide, hB.out⟩
set_option maxRecDepth 100000 in
theorem containsFuncP (g : Nat) (lb : Array Value) (f : Pass → Bool) (a : Option Addr) (cap : Nat) (ps : List Pass) (w : World) (hS : PassAt w a ps) (hl : ps.length ≤ 1048576) (eg : ∀ args w, (callFunc g args).run Tryz.prog w = .ok (.enter g args) w) (hp : PredP g lb f ps w) :
    Calls Tryz.prog 63 #[.slice a ps.length cap, .func (.func g) #[] lb] w fun e w' => e = .returned (.bool (ps.any f)) ∧ Below w.heap.size w w' := by
  have hi := indexFuncP g lb f a cap ps w hS hl eg hp
  clear hp hS eg
  go_enter Tryz.func63, Tryz.ntmps63
  go_wp2_with fail
  refine hi.mono ?_
  rintro e w2 ⟨r, rfl, hr, hB⟩
  have hr' := Lib.hid hr
  clear hr
  go_wp2
  go_ret
  exact ⟨ret_bool hr'.out, hB⟩
end Go.Proofs.YtnfcdccdmlodeaaGreatDoor
