/- The tables that story's texts ask of the library. -/
import Derived.Test.YtdlhihfjigcimaaDoorAnswerR
import Derived.Test.YtdlhihfjigcimaaDoorQuoS
import Derived.Lib.PrintData
namespace Go.Proofs.YtdlhihfjigcimaaDoor
open Go.RowKit

theorem slice_later {g : Nat} {k : IntKind} {t : List Nat} {w w' : World} (h : Lib.TabSlice g k t w) (hb : Below w.heap.size w w') : Lib.TabSlice g k t w' := by
  obtain ⟨R, o, c, h1, h2⟩ := h
  exact ⟨R, o, c, (hb.cell (World.block_lt_of_cell? w _ h1)).trans h1, fun j hj => (hb.cell (World.block_lt_of_cell? w _ (h2 j hj))).trans (h2 j hj)⟩
structure StoryT (w : World) : Prop where
  nam : Nam w
  pow : Pow w
  asc : Asc w
  pr : Lib.PrintTabsAt 16 17 18 19 Lib.goPrintTabs w
  u8 : Lib.Utf8Tabs 12 13 w
theorem StoryT.later {w w' : World} (h : StoryT w) (hb : Below w.heap.size w w') : StoryT w' :=
  ⟨h.nam.later hb, h.pow.later hb, h.asc.later hb,
    ⟨slice_later h.pr.1 hb, slice_later h.pr.2.1 hb, slice_later h.pr.2.2.1 hb, slice_later h.pr.2.2.2.1 hb, h.pr.2.2.2.2⟩,
    ⟨fun c hc => (hb.cell (World.block_lt_of_cell? w _ (h.u8.1 c hc))).trans (h.u8.1 c hc),
     fun i hi => ⟨(hb.cell (World.block_lt_of_cell? w _ (h.u8.2 i hi).1)).trans (h.u8.2 i hi).1, (hb.cell (World.block_lt_of_cell? w _ (h.u8.2 i hi).2)).trans (h.u8.2 i hi).2⟩⟩⟩
def quoteOf (t : ByteArray) : ByteArray := strOfNums (Lib.quoteZ Lib.goPrintTabs t)
theorem quoteOf_size (t : ByteArray) (h : t.size ≤ 300) : (quoteOf t).size ≤ 1000000 := by
  unfold quoteOf
  rw [strOfNums_size]
  have := Lib.quoteZ_length_le Lib.goPrintTabs t
  omega
theorem quote_is (t : ByteArray) (h : t.size ≤ 300) (w : World) (hT : StoryT w) :
    Calls Tryd.prog 111 #[.string t] w fun e w' => e = .returned (.string (quoteOf t)) ∧ Below w.heap.size w w' :=
  Tryd.strconv_Quote Lib.goPrintTabs t w (by omega) hT.pr hT.u8
theorem itoa_small (c : Int) (h0 : -9223372036854775808 ≤ c) (h1 : c ≤ 9223372036854775807) : (⟨(Lib.itoa c).toArray⟩ : ByteArray).size ≤ 100 := by
  have := Lib.itoa_length_le c h0 h1
  show (Lib.itoa c).toArray.size ≤ 100
  simpa using (by omega : (Lib.itoa c).length ≤ 100)
/-- an array of texts that reads as these holds them, cell for cell -/
theorem cells_of_strs {H : Type} {enc : TypeId × Value → H} {P : Program} {w : World} {base : Nat} {sp : Nat → Bool} {held : Bool} {fuel : Nat} {t e : TypeId} {n : Nat} {cs : List Value} {zs : List (List UInt8)} {p : List MemPlace}
    (ht : P.underlying t = some (.array n e)) (he : P.underlying e = some .string) (hce : P.cellsOf e = 1) (hct : P.cellsOf t = n)
    (h : DataW.trod enc P w base sp held fuel t cs = some (.agg (zs.map fun z => .lit (.string z)), p)) : cs = zs.map fun z => Value.string ⟨z.toArray⟩ := by
  cases fuel with
  | zero => simp [DataW.trod] at h
  | succ fuel =>
    simp only [DataW.trod, ht, hce, hct, Nat.mul_one] at h
    split at h
    · rename_i hl
      obtain ⟨xs, hm, hx⟩ := Option.map_eq_some_iff.1 h
      have hxs : xs.map (·.1) = zs.map fun z => (DataW.lit (.string z) : DataW H) := by
        have := congrArg Prod.fst hx
        simpa using this
      have hxl : xs.length = n := by simpa using Lib.mapM_length hm
      have hzl : zs.length = n := by
        have := congrArg List.length hxs
        simp at this
        omega
      apply List.ext_getElem?
      intro i
      by_cases hi : i < n
      · obtain ⟨b, hb, hf⟩ := Lib.mapM_at hm i i (by simp [hi])
        obtain ⟨s, hc, rfl, _⟩ := DataW.trod_string he hf
        have h1 : cs[i]? = some (.string s) := by
          have := congrArg (·[0]?) hc
          simpa [List.getElem?_take, List.getElem?_drop] using this
        have h2 : (xs.map (·.1))[i]? = some (DataW.lit (.string s.data.toList) : DataW H) := by simp [hb]
        rw [hxs] at h2
        simp only [List.getElem?_map, Option.map_eq_some_iff, DataW.lit.injEq, Lit.string.injEq] at h2
        obtain ⟨z', hz', hzz⟩ := h2
        simp [h1, hz', hzz]
      · rw [List.getElem?_eq_none (by omega), List.getElem?_eq_none (by simp; omega)]
    · cases h
end Go.Proofs.YtdlhihfjigcimaaDoor
