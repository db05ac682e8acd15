/- AskPrints: ask.Print returns what the reference's AskPrint returns, for any challenges: the walk of the statement. -/
import Derived.Test.YtnmeifobikemlaaDoorAskPrintB
import Derived.Test.YtnmeifobikemlaaDoorPlace
namespace Go.Proofs.YtnmeifobikemlaaDoor
open Go.ChangeShapes Go.WideShapes Go.ChangeAt Go.RowKit Go.WideElems

/-- challenges handed in -/
theorem chals_open {w : World} {a : Option Addr} {len cap : Nat} (h : Rd Tryd.prog w 54 [.slice a len cap]) :
    ∃ cs, cs.length = len ∧ ChalAt w a cs ∧ (∀ c ∈ cs, c.Ok w) ∧ len ≤ maxLen := by
  obtain ⟨a', len', cap', e, hb, _, hl, hc, hn, hi⟩ := h.slice Tryd.underlying54 (by rw [cellsChal]; decide)
  simp at e
  obtain ⟨rfl, rfl, rfl⟩ := e
  rw [cellsChal] at hi
  obtain ⟨cs, hcs, hp⟩ := exists_list (fun i (c : Chal) => (∃ b off, a = some ⟨b, off, none⟩ ∧ w.cell? ⟨b, off + i * 3, none⟩ = some (.string c.scheme) ∧ w.cell? ⟨b, off + i * 3 + 1, none⟩ = some (.string c.token) ∧ w.cell? ⟨b, off + i * 3 + 2, none⟩ = some (.slice c.addr c.params.length c.cap)) ∧ c.Ok w) len (by
    intro i hil
    obtain ⟨b, off, cs', ha, hl', hR, hcell⟩ := hi i hil
    obtain ⟨c, rfl, hO⟩ := chal_open hR
    exact ⟨c, ⟨b, off, ha, by rw [← Nat.add_zero (off + i * 3), hcell 0 (by decide)]; rfl, by rw [hcell 1 (by decide)]; rfl, by rw [hcell 2 (by decide)]; rfl⟩, hO⟩)
  refine ⟨cs, hcs, fun i hil => (hp i hil).1, ?_, by assumption⟩
  intro c hcm
  obtain ⟨i, hil, rfl⟩ := List.getElem_of_mem hcm
  exact (hp i hil).2

namespace lawAskPrints
set_option maxRecDepth 100000 in
theorem walk (W : World) (_hsh : W.ShapedOpen Tryd.prog) (hg : ErrType W) (a : Option Addr) (len cap : Nat) (hR : Rd Tryd.prog W 54 [.slice a len cap]) :
    Calls Tryd.prog 9 #[.slice a len cap] W fun e w' => e = .returned (.bool true) ∧ Below W.heap.size W w' := by
  obtain ⟨cs, rfl, hC, hO, hl⟩ := chals_open hR
  clear hR _hsh
  go_enter Tryd.func9, Tryd.ntmps9
  go_wp2_with fail
  refine (heavy_says a cap cs _ hC hO hl).mono ?_
  rintro e w1 ⟨⟨b, rfl, hb⟩, hB⟩
  cases b
  · obtain ⟨h10, hL⟩ := hb rfl
    clear hb
    go_wp2_with fail
    refine (refAskPrint a cap cs _ (hC.later hB) (fun c hc => (hO c hc).later hB) hL h10).mono ?_
    rintro e w2 ⟨rfl, hB2⟩
    have hB3 := hB.then (Nat.le_refl _) hB2
    rcases hx : cs.findIdx? (fun c => !chalOk c) with _ | ix
    · have r1 : askRes cs (.agg #[.int .i64 0, .int .i64 (-1)]) (fun i => .agg #[.int .i64 3, .int .i64 i]) = .tuple #[.string ⟨(commas (cs.map chalB)).toArray⟩, .agg #[.int .i64 0, .int .i64 (-1)]] := by unfold askRes; rw [hx]
      have r2 : ∀ x, askRes cs .nilIface (fun _ => x) = .tuple #[.string ⟨(commas (cs.map chalB)).toArray⟩, .nilIface] := fun x => by unfold askRes; rw [hx]
      rw [r1]
      have hx' := Lib.hid hx
      clear hx r1
      have hB4 := hB3.alloc hB3.size (Obj.cells #[.int .i64 0, .int .i64 (-1)] 57)
      go_wp2_with fail
      refine (askPrint a cap cs _ (hC.later hB4) (fun c hc => (hO c hc).later hB4) hL h10).mono ?_
      rintro e w3 ⟨⟨x, rfl, hE⟩, hB5⟩
      have c0 := box_cell (c := #[.int .i64 0, .int .i64 (-1)]) (by simpa using hB5) 0 rfl
      have c1 := box_cell (c := #[.int .i64 0, .int .i64 (-1)]) (by simpa using hB5) 1 rfl
      have hB6 := hB4.then (Nat.le_refl _) hB5
      rw [r2]
      clear r2
      go_wp2_with fail
      refine (placed_is 0 (-1) (hg.later hB6) (ErrIs.none _)).mono ?_
      rintro e w4 ⟨rfl, hB7⟩
      have hB8 := hB6.then (Nat.le_refl _) hB7
      go_wp2
      go_ret
      exact ⟨rfl, hB8⟩
    · have r1 : askRes cs (.agg #[.int .i64 0, .int .i64 (-1)]) (fun i => .agg #[.int .i64 3, .int .i64 i]) = .tuple #[.string ⟨#[]⟩, .agg #[.int .i64 3, .int .i64 (ix : Int)]] := by unfold askRes; rw [hx]
      have r2 : ∀ x, askRes cs .nilIface (fun _ => x) = .tuple #[.string ⟨#[]⟩, x] := fun x => by unfold askRes; rw [hx]
      rw [r1]
      have hx' := Lib.hid hx
      clear hx r1
      have hB4 := hB3.alloc hB3.size (Obj.cells #[.int .i64 3, .int .i64 (ix : Int)] 57)
      go_wp2_with fail
      refine (askPrint a cap cs _ (hC.later hB4) (fun c hc => (hO c hc).later hB4) hL h10).mono ?_
      rintro e w3 ⟨⟨x, rfl, hE⟩, hB5⟩
      have c0 := box_cell (c := #[.int .i64 3, .int .i64 (ix : Int)]) (by simpa using hB5) 0 rfl
      have c1 := box_cell (c := #[.int .i64 3, .int .i64 (ix : Int)]) (by simpa using hB5) 1 rfl
      have hB6 := hB4.then (Nat.le_refl _) hB5
      rw [r2]
      clear r2
      go_wp2_with fail
      refine (placed_is 3 (ix : Int) (hg.later hB6) (hE _ hx'.out)).mono ?_
      rintro e w4 ⟨rfl, hB7⟩
      have hB8 := hB6.then (Nat.le_refl _) hB7
      go_wp2
      go_ret
      exact ⟨rfl, hB8⟩
  · go_wp2
    go_ret
    exact ⟨rfl, hB⟩
end lawAskPrints
end Go.Proofs.YtnmeifobikemlaaDoor
