/- AskGets: ask.Get returns what the reference's AskGet returns, for any challenge and name: the walk of the statement. -/
import Derived.Test.YteflbehlgnfkfaaHeavy
namespace Go.Proofs.Yteflbehlgnfkfaa.lawAskGets
open Go.ChangeShapes Go.WideShapes Go.ChangeAt Go.RowKit Go.WideElems

set_option maxRecDepth 100000 in
theorem walk (W : World) (_hsh : W.ShapedOpen Try.prog) (cs : List Value) (hR : Rd Try.prog W 29 cs) (name : ByteArray) (hn : name.size ≤ reachBytes) :
    Calls Try.prog 6 #[.agg cs.toArray, .string name] W fun e w' => e = .returned (.bool true) ∧ Below W.heap.size W w' := by
  obtain ⟨c, rfl, hO⟩ := chal_open hR
  clear hR _hsh
  have hn' := reach_max hn
  simp only [reachBytes] at hn
  have hlm := hO.lenMax
  have hat := hO.at_
  have hre := hO.re.sz
  obtain ⟨sc, tk, a, cap, ps⟩ := c
  simp only [Chal.cells] at *
  have hB1 : Below W.heap.size W ((W.alloc (Obj.cells #[Value.string sc, Value.string tk, Value.slice a ps.length cap] 29)).alloc (Obj.cells #[Value.string sc, Value.string tk, Value.slice a ps.length cap] 29)) :=
    ((Below.refl _ _).alloc (Nat.le_refl _) _).alloc (by simp) _
  have hC : ChalAt ((W.alloc (Obj.cells #[Value.string sc, Value.string tk, Value.slice a ps.length cap] 29)).alloc (Obj.cells #[Value.string sc, Value.string tk, Value.slice a ps.length cap] 29)) (some ⟨W.heap.size + 1, 0, none⟩) [⟨sc, tk, a, cap, ps⟩] := by
    intro i hi
    obtain rfl : i = 0 := by simpa using hi
    exact ⟨_, _, rfl, box_cell (Below.refl _ _) 0 rfl (by simp), box_cell (Below.refl _ _) 1 rfl (by simp), box_cell (Below.refl _ _) 2 rfl (by simp)⟩
  have hh := heavy_says (some ⟨W.heap.size + 1, 0, none⟩) 1 [⟨sc, tk, a, cap, ps⟩] _ hC (by simpa using hO.later hB1) (by unfold maxLen; simp)
  have HH := Lib.hid hh; clear hh
  have HC := Lib.hid hC; clear hC
  go_enter Try.func6, Try.ntmps6
  go_wp2_with fail
  refine HH.out.mono ?_
  rintro e w1 ⟨⟨b, rfl, _⟩, hB2⟩
  have hB3 : Below W.heap.size W w1 := hB1.then (Nat.le_refl _) hB2
  have hc : ∀ i v, #[Value.string sc, Value.string tk, Value.slice a ps.length cap][i]? = some v → w1.cell? ⟨W.heap.size, i, none⟩ = some v := fun i v hv => by
    have hBx : Below (W.heap.size + 1) (W.alloc (Obj.cells #[Value.string sc, Value.string tk, Value.slice a ps.length cap] 29)) w1 := ((Below.refl (W.heap.size + 1) _).alloc (by simp) _).then (by simp) hB2
    exact box_cell hBx i hv
  have h0 := hc 0 _ rfl
  have h1 := hc 1 _ rfl
  have h2 := hc 2 _ rfl
  clear hc
  cases b
  · by_cases h60 : 60 < name.size
    · go_wp2
      go_ret
      exact ⟨rfl, hB3⟩
    · go_wp2_with fail
      refine (refAskGet sc tk a cap ps name _ (hat.later hB3) hre hlm hn').mono ?_
      rintro e w2 ⟨rfl, hB4⟩
      have h0' := (hB4.cell (p := ⟨W.heap.size, 0, none⟩) (World.block_lt_of_cell? _ _ h0)).trans h0
      have h1' := (hB4.cell (p := ⟨W.heap.size, 1, none⟩) (World.block_lt_of_cell? _ _ h1)).trans h1
      have h2' := (hB4.cell (p := ⟨W.heap.size, 2, none⟩) (World.block_lt_of_cell? _ _ h2)).trans h2
      have hB5 : Below W.heap.size W w2 := hB3.then (Nat.le_refl _) hB4
      go_wp2_with fail
      refine (askGet sc tk a cap ps name _ (hat.later hB5) hre hlm hn').mono ?_
      rintro e w3 ⟨rfl, hB6⟩
      go_wp2
      go_ret
      exact ⟨rfl, hB5.then (Nat.le_refl _) hB6⟩
  · go_wp2
    go_ret
    exact ⟨rfl, hB3⟩
end Go.Proofs.Yteflbehlgnfkfaa.lawAskGets
