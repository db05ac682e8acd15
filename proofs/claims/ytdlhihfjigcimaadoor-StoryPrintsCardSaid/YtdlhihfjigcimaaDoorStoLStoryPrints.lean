/- StoryNames' row: what its list of tables gives. -/
import Derived.Test.YtdlhihfjigcimaaDoorStoryT
import Derived.Test.YtdlhihfjigcimaaDoorCards
import Derived.LaidHandle
import Derived.Lib.LaidTab
import Derived.Lib.LaidPrint
import Derived.Lib.LaidU8
namespace Go.Proofs.YtdlhihfjigcimaaDoor
open Go.RowKit

theorem reads_in {W : World} {n : String} {d : DataW Unit} : ∀ {l : List (String × DataW Unit)} {ps : List MemPlace}, DataW.LaidVars Tryd.prog W l ps → (n, d) ∈ l →
    ∃ g t cs fuel p, Tryd.prog.globalNamed n = some g ∧ (Tryd.prog.globals[g]?).map (·.type) = some t ∧ W.var? Tryd.prog n = some cs ∧ DataW.trod (fun _ => ()) Tryd.prog W 0 (fun _ => true) false fuel t cs.toList = some (d, p)
  | [], _, _, hm => by cases hm
  | (n', d') :: r, ps, h, hm => by
    obtain ⟨g, t, cs, fuel, p, q, h1, h2, h3, h4, h5, _⟩ := h
    rcases List.mem_cons.1 hm with e | e
    · cases e
      exact ⟨g, t, cs, fuel, p, h1, h2, h3, h4⟩
    · exact reads_in h5 e
theorem sPow_tab : (Rows.laid_internal_strconv_uint64pow10 : DataW Unit) = Lib.tabData .u64 Lib.pow10Tab := by rfl
theorem sAsc_tab : (Rows.laid_strings_asciiSpace : DataW Unit) = Lib.tabData .u8 Lib.asciiSpaceTab := by kernel_rfl
def namL : List (List UInt8) := [[97, 116, 116, 97, 99, 104], [114, 101, 102, 117, 115, 101, 100], [97, 110, 115, 119, 101, 114, 101, 100], [99, 104, 101, 99, 107], [97, 108, 108, 111, 119, 101, 100], [112, 105, 99, 107], [99, 104, 111, 111, 115, 101], [108, 111, 103, 111, 117, 116], [99, 108, 101, 97, 114], [116, 105, 99, 107]]
theorem sNam_tab : (Rows.laid_gatepost_gatepostref_opNames : DataW Unit) = .agg (namL.map fun z => .lit (.string z)) := by rfl
theorem namAt : Tryd.prog.globalNamed "gatepost/gatepostref.opNames" = some 0 := by kernel_rfl
theorem sp16 : (Rows.laid_strconv_isPrint16 : DataW Unit) = Lib.sliceData .u16 Lib.goPrintTabs.p16 := by kernel_rfl
theorem sn16 : (Rows.laid_strconv_isNotPrint16 : DataW Unit) = Lib.sliceData .u16 Lib.goPrintTabs.n16 := by kernel_rfl
theorem sp32 : (Rows.laid_strconv_isPrint32 : DataW Unit) = Lib.sliceData .u32 Lib.goPrintTabs.p32 := by kernel_rfl
theorem sn32 : (Rows.laid_strconv_isNotPrint32 : DataW Unit) = Lib.sliceData .u16 Lib.goPrintTabs.n32 := by kernel_rfl
theorem sFirst : (Rows.laid_unicode_utf8_first : DataW Unit) = Lib.firstData := by kernel_rfl
theorem sAccept : (Rows.laid_unicode_utf8_acceptRanges : DataW Unit) = Lib.acceptData := by kernel_rfl
theorem sto_of_laid {W : World} (h : laidMetH Tryd.prog Rows.storyPrintsRow.laid W) : StoryT W := by
  have h' : laidMet Tryd.prog Rows.storyPrintsRow.laid W := h
  have hr := fun {n : String} {d : DataW Unit} (hm : (n, d) ∈ Rows.storyPrintsRow.laid) => Lib.laidMet.reads h' hm
  obtain ⟨ps, hv, _⟩ := h'
  refine ⟨?_, ?_, ?_, ?_, ?_⟩
  · obtain ⟨g', t', cs, fuel, p, hg', ht', hvar, hd⟩ := reads_in (n := "gatepost/gatepostref.opNames") (d := Rows.laid_gatepost_gatepostref_opNames) hv (by simp [Rows.storyPrintsRow])
    obtain rfl := Option.some.inj (namAt.symm.trans hg')
    obtain rfl := Option.some.inj ((show (Tryd.prog.globals[0]?).map (·.type) = some 151 by kernel_rfl).symm.trans ht')
    rw [sNam_tab] at hd
    have hcs := cells_of_strs Tryd.underlying151 Tryd.underlying9 (by kernel_rfl) (by kernel_rfl) hd
    refine ⟨fun n h1 h2 => ?_⟩
    rw [World.var?_cell namAt hvar, ← Array.getElem?_toList, hcs]
    rcases nameT_one h1 h2 with rfl | rfl | rfl | rfl | rfl | rfl | rfl | rfl | rfl | rfl <;> rfl
  · obtain ⟨g', t', cs, fuel, p, hg', ht', hvar, hd⟩ := reads_in (n := "internal/strconv.uint64pow10") (d := Rows.laid_internal_strconv_uint64pow10) hv (by simp [Rows.storyPrintsRow])
    obtain rfl := Option.some.inj (powAt.symm.trans hg')
    obtain rfl := Option.some.inj ((show (Tryd.prog.globals[11]?).map (·.type) = some 230 by kernel_rfl).symm.trans ht')
    rw [sPow_tab] at hd
    unfold Pow Lib.TabIs
    rw [hvar, ← Lib.cells_of_tab Tryd.underlying230 Tryd.underlying158 (by kernel_rfl) (by kernel_rfl) hd]
  · obtain ⟨g', t', cs, fuel, p, hg', ht', hvar, hd⟩ := reads_in (n := "strings.asciiSpace") (d := Rows.laid_strings_asciiSpace) hv (by simp [Rows.storyPrintsRow])
    obtain rfl := Option.some.inj (ascAt.symm.trans hg')
    obtain rfl := Option.some.inj ((show (Tryd.prog.globals[1]?).map (·.type) = some 175 by kernel_rfl).symm.trans ht')
    rw [sAsc_tab] at hd
    unfold Asc Lib.TabIs
    rw [hvar, ← Lib.cells_of_tab Tryd.underlying175 Tryd.underlying5 (by kernel_rfl) (by kernel_rfl) hd]
  · have r1 := hr (n := "strconv.isPrint16") (d := Rows.laid_strconv_isPrint16) (by simp [Rows.storyPrintsRow])
    have r2 := hr (n := "strconv.isNotPrint16") (d := Rows.laid_strconv_isNotPrint16) (by simp [Rows.storyPrintsRow])
    have r3 := hr (n := "strconv.isPrint32") (d := Rows.laid_strconv_isPrint32) (by simp [Rows.storyPrintsRow])
    have r4 := hr (n := "strconv.isNotPrint32") (d := Rows.laid_strconv_isNotPrint32) (by simp [Rows.storyPrintsRow])
    rw [sp16] at r1
    rw [sn16] at r2
    rw [sp32] at r3
    rw [sn32] at r4
    exact printTabs_of_reads (ρ := Tryd.lays177_ren) { Tryd.lays177 with } ⟨by kernel_rfl, by kernel_rfl, by kernel_rfl, by kernel_rfl, by kernel_rfl, by kernel_rfl, by kernel_rfl, by kernel_rfl, by kernel_rfl, by kernel_rfl⟩ r1 r2 r3 r4
  · have r1 := hr (n := "unicode/utf8.first") (d := Rows.laid_unicode_utf8_first) (by simp [Rows.storyPrintsRow])
    have r2 := hr (n := "unicode/utf8.acceptRanges") (d := Rows.laid_unicode_utf8_acceptRanges) (by simp [Rows.storyPrintsRow])
    rw [sFirst] at r1
    rw [sAccept] at r2
    exact utf8Tabs_of_reads (ρ := Tryd.lays177_ren) { Tryd.lays177 with } ⟨by kernel_rfl, by kernel_rfl, by kernel_rfl, by kernel_rfl, by kernel_rfl, by kernel_rfl, by kernel_rfl⟩ r1 r2
end Go.Proofs.YtdlhihfjigcimaaDoor
