/- slices.Index and Contains at passes: those that an answer grants. -/
import Derived.Test.YtnfcdccdmlodeaaGreatDoorGrantP
import Derived.Test.YtnfcdccdmlodeaaGreatDoorPass
import Derived.Deep.QuietTactic
import Derived.BigQuiet
namespace Go.Proofs.YtnfcdccdmlodeaaGreatDoor
open Go.RowKit Go.Deep
/-- the pass of a pair -/
def mkP (r : Req) (u : Int) (p : BP) : Pass := ⟨r.orig, r.dest, r.path, r.query, r.creds, p.1, p.2, u⟩
theorem mem_take_no {acc : List BP} {p : BP} {k : Nat} (h : k < acc.length) (h0 : p ∉ acc.take k) (e : p ≠ acc[k]) : p ∉ acc.take (k + 1) := by
  rw [List.take_succ_eq_append_getElem h, List.mem_append]
  rintro (h1 | h1)
  · exact h0 h1
  · exact e (List.mem_singleton.1 h1)
theorem pair_ne {m h m' h' : ByteArray} (e : ((m, h) : BP) ≠ (m', h')) : ¬ m = m' ∨ (m = m' ∧ ¬ h = h') := by
  by_cases hm : m = m'
  · exact .inr ⟨hm, fun hh => e (by rw [hm, hh])⟩
  · exact .inl hm
theorem ne_list {m m' : ByteArray} (e : ¬ m = m') : ¬ m.toList = m'.toList := by
  rw [Lib.toList_data, Lib.toList_data]; exact fun h => e (ba_ext h)
set_option maxRecDepth 100000 in
set_option maxHeartbeats 2000000 in
theorem slicesIndexP (r : Req) (u : Int) (a : Option Addr) (cap : Nat) (acc : List BP) (p : BP) (w : World) (hS : PassAt w a (acc.map (mkP r u))) (hl : acc.length ≤ 1048576) :
    Calls Tryz.prog 263 #[.slice a acc.length cap, .agg (mkP r u p).arr] w fun e w' => (∃ k : Int, e = .returned (.int .i64 k) ∧ decide (0 ≤ k) = hasB acc p) ∧ Below w.heap.size w w' := by
  obtain ⟨part, ⟨s1, h1, p1⟩, ⟨s2, h2, p2⟩, path, query, method, ad, cp, heads, creds, body⟩ := r
  obtain ⟨m, h⟩ := p
  go_enter Tryz.func263, Tryz.ntmps263
  go_wp2
  go_loopw [8] (fun i wr => ∃ k : Nat, k ≤ acc.length ∧ i = .int .i64 k ∧ Hid (Below (w.heap.size + 1) (w.alloc (.cells (mkP ⟨part, ⟨s1, h1, p1⟩, ⟨s2, h2, p2⟩, path, query, method, ad, cp, heads, creds, body⟩ u (m, h)).arr tPass)) wr) ∧ Hid ((m, h) ∉ acc.take k)) (fun i _ => acc.length - (intOf i).toNat)
  case atStart => exact ⟨0, Nat.zero_le _, rfl, Lib.hid (Below.refl _ _), Lib.hid (by simp)⟩
  case round =>
    obtain ⟨k, hk, rfl, hB, hN⟩ := hrel
    by_cases hlt : k < acc.length
    · obtain ⟨b, off, rfl, hc⟩ := (hS.later (below_box hB.out)) k (by simpa using hlt)
      rw [List.getElem_map] at hc
      have hyes := Lib.hid (show (m, h) = acc[k] → (m, h) ∈ acc from fun e => e ▸ List.getElem_mem hlt)
      have hno := Lib.hid (show (m, h) ≠ acc[k] → (m, h) ∉ acc.take (k + 1) from fun e => mem_take_no hlt hN.out e)
      generalize hq : acc[k] = q at hc hyes hno
      obtain ⟨m', h'⟩ := q
      clear hq
      have b0 := box_cell hB.out 0 rfl; have b1 := box_cell hB.out 1 rfl; have b2 := box_cell hB.out 2 rfl; have b3 := box_cell hB.out 3 rfl; have b4 := box_cell hB.out 4 rfl; have b5 := box_cell hB.out 5 rfl
      have b6 := box_cell hB.out 6 rfl; have b7 := box_cell hB.out 7 rfl; have b8 := box_cell hB.out 8 rfl; have b9 := box_cell hB.out 9 rfl; have b10 := box_cell hB.out 10 rfl; have b11 := box_cell hB.out 11 rfl
      have c0 : wr.cell? ⟨b, off + k * 12, none⟩ = some (.bool s1) := hc 0 _ rfl
      have c1 : wr.cell? ⟨b, off + k * 12 + 1, none⟩ = some (.string h1) := hc 1 _ rfl
      have c2 : wr.cell? ⟨b, off + k * 12 + 2, none⟩ = some (.int .i64 p1) := hc 2 _ rfl
      have c3 : wr.cell? ⟨b, off + k * 12 + 3, none⟩ = some (.bool s2) := hc 3 _ rfl
      have c4 : wr.cell? ⟨b, off + k * 12 + 4, none⟩ = some (.string h2) := hc 4 _ rfl
      have c5 : wr.cell? ⟨b, off + k * 12 + 5, none⟩ = some (.int .i64 p2) := hc 5 _ rfl
      have c6 : wr.cell? ⟨b, off + k * 12 + 6, none⟩ = some (.string path) := hc 6 _ rfl
      have c7 : wr.cell? ⟨b, off + k * 12 + 7, none⟩ = some (.string query) := hc 7 _ rfl
      have c8 : wr.cell? ⟨b, off + k * 12 + 8, none⟩ = some (.bool creds) := hc 8 _ rfl
      have c9 : wr.cell? ⟨b, off + k * 12 + 9, none⟩ = some (.string m') := hc 9 _ rfl
      have c10 : wr.cell? ⟨b, off + k * 12 + 10, none⟩ = some (.string h') := hc 10 _ rfl
      have c11 : wr.cell? ⟨b, off + k * 12 + 11, none⟩ = some (.int .i64 u) := hc 11 _ rfl
      simp only [mkP] at b0 b1 b2 b3 b4 b5 b6 b7 b8 b9 b10 b11
      have hB0 := Lib.hid (below_box hB.out)
      clear hc
      by_cases hx : ((m, h) : BP) = (m', h')
      · have hin := Lib.hid (hyes.out hx)
        cases hx
        clear hyes hno
        go_wp2_with fail
        go_quiet (fail)
        go_wp2
        go_ret
        exact ⟨⟨_, rfl, by rw [(hasB_iff _ _).2 hin.out]; simp⟩, below_drewN hB0.out _⟩
      · have hn := Lib.hid (hno.out hx)
        rcases pair_ne hx with e1 | ⟨rfl, e1⟩
        all_goals
          have e2 := ne_list e1
          clear hyes hno hx e1
          go_wp2_with fail
          go_quiet (fail)
          go_wp2
          go_roundw
          case rel => exact ⟨k + 1, by omega, by go_num, Lib.hid (below_drewN hB.out _), hn⟩
          case measure => simp [intOf]; omega
    · obtain rfl : k = acc.length := by omega
      have hn := Lib.hid (show (m, h) ∉ acc by have := hN.out; rwa [List.take_length] at this)
      go_wp2
      go_ret
      exact ⟨⟨_, rfl, by rw [hasB_no hn.out]; decide⟩, below_box hB.out⟩
set_option maxRecDepth 100000 in
theorem slicesContainsP (r : Req) (u : Int) (a : Option Addr) (cap : Nat) (acc : List BP) (p : BP) (w : World) (hS : PassAt w a (acc.map (mkP r u))) (hl : acc.length ≤ 1048576) :
    Calls Tryz.prog 188 #[.slice a acc.length cap, .agg (mkP r u p).arr] w fun e w' => e = .returned (.bool (hasB acc p)) ∧ Below w.heap.size w w' := by
  have hal := (Below.refl w.heap.size w).alloc (Nat.le_refl _) (.cells (mkP r u p).arr tPass)
  have hi := slicesIndexP r u a cap acc p _ (hS.later hal) hl
  have hal' := Lib.hid hal
  clear hal hS
  generalize hasB acc p = d at hi ⊢
  generalize mkP r u p = x at hi hal' ⊢
  obtain ⟨⟨s1, h1, p1⟩, ⟨s2, h2, p2⟩, path, query, creds, m, h, u2⟩ := x
  go_enter Tryz.func188, Tryz.ntmps188
  go_wp2_with fail
  refine hi.mono ?_
  rintro e w2 ⟨⟨k, rfl, hk⟩, hB2⟩
  have hB3 := Lib.hid (hal'.out.then (Nat.le_refl _) hB2)
  clear hi hB2
  go_wp2
  go_ret
  exact ⟨rfl, hB3.out⟩
end Go.Proofs.YtnfcdccdmlodeaaGreatDoor
