/- ProofDigests: the card's statement, out of the walk of <Name>WProofDigests. No condition beyond the statement's own. -/
import Derived.Test.YtdlhihfjigcimaaDoorWProofDigests
import Derived.Test.YtdlhihfjigcimaaDoorFound
import Derived.Test.YtdlhihfjigcimaaDoorCards
import Derived.Test.YtdlhihfjigcimaaDoorTie
import Derived.Test.YtdlhihfjigcimaaDoorClosed
import Derived.Test.YtdlhihfjigcimaaDoorSumA
import Derived.Test.YtdlhihfjigcimaaDoorDigs
import Derived.Test.YtdlhihfjigcimaaDoorErrs
import Derived.WalkKit
import Derived.ProofKit
import Derived.OpenShut
import Derived.Deep.DeepHandedRow
import Derived.Lib.LaidTab
import Derived.LaidLaws
import Derived.LaidHandle
import Derived.Stop.Joined
namespace Go.Proofs.YtdlhihfjigcimaaDoor.lawProofDigests
open Go.ChangeShapes Go.WideShapes Go.ChangeAt Go.RowKit Go.WideElems
set_option linter.unusedVariables false

def litVals : DataW Unit → List Value
  | .lit (.int k z) => [.int k z]
  | .agg l => l.flatMap fun x => match x with
    | .lit (.int k z) => [Value.int k z]
    | _ => []
  | _ => []
def rowVals : DataW Unit → Array Value
  | .agg l => (l.flatMap litVals).toArray
  | _ => #[]
noncomputable def laidAt (g : Nat) (d : DataW Unit) (h : Array Obj) : Array Obj := h.modify g fun
  | .cells _ t frozen => .cells (rowVals d) t frozen
  | o => o
noncomputable def laidW (os : Os) : World :=
  { World.holding Tryd.prog os ⟨#[], #[], []⟩ with heap := laidAt 9 Rows.laid_gatepost_sum_turns (laidAt 6 Rows.laid_gatepost_api_Begin (laidAt 7 Rows.laid_gatepost_api_Roots (laidAt 8 Rows.laid_gatepost_api_Sines (laidAt 11 Rows.laid_internal_strconv_uint64pow10 (laidAt 15 Rows.laid_math_bits_deBruijn64tab (laidAt 14 Rows.laid_math_bits_deBruijn32tab (((World.holding Tryd.prog os ⟨#[], #[], []⟩).heap.modify 5 fun
      | .cells _ t frozen => .cells #[.iface 238 (.agg #[.pointer (some ⟨22, 39, none⟩)])] t frozen
      | o => o)))))))) }
theorem laidW_met (os : Os) (args : Array Value) : laidMetH Tryd.prog Rows.proofDigestsRow.laid ((laidW os).forCall (fun _ _ => 0) ⟨#[], args, []⟩).memory :=
  laidMetH_of_parts (laidMet_of_run' 80 (by kernel_rfl) (by kernel_rfl)) (by kernel_rfl)

theorem met_plain {W : World} (h : laidMetH Tryd.prog Rows.proofDigestsRow.laid W) : laidMet Tryd.prog [("math/bits.deBruijn32tab", Rows.laid_math_bits_deBruijn32tab), ("math/bits.deBruijn64tab", Rows.laid_math_bits_deBruijn64tab), ("internal/strconv.uint64pow10", Rows.laid_internal_strconv_uint64pow10), ("gatepost/api.Sines", Rows.laid_gatepost_api_Sines), ("gatepost/api.Roots", Rows.laid_gatepost_api_Roots), ("gatepost/api.Begin", Rows.laid_gatepost_api_Begin), ("gatepost/sum.turns", Rows.laid_gatepost_sum_turns)] W := by
  have h0 : laidMet Tryd.prog [("math/bits.deBruijn32tab", Rows.laid_math_bits_deBruijn32tab), ("math/bits.deBruijn64tab", Rows.laid_math_bits_deBruijn64tab), ("internal/strconv.uint64pow10", Rows.laid_internal_strconv_uint64pow10), ("gatepost/api.Sines", Rows.laid_gatepost_api_Sines), ("gatepost/api.Roots", Rows.laid_gatepost_api_Roots), ("gatepost/api.Begin", Rows.laid_gatepost_api_Begin), ("gatepost/sum.turns", Rows.laid_gatepost_sum_turns)] W ∧ handlesMet Tryd.prog [("errors.errorType", Rows.laid_errors_errorType)] W := h
  exact h0.1
theorem reads_at {W : World} {n : String} {d : DataW Unit} : ∀ {l : List (String × DataW Unit)} {ps : List MemPlace}, DataW.LaidVars Tryd.prog W l ps → (n, d) ∈ l →
    ∃ g t cs fuel p, Tryd.prog.globalNamed n = some g ∧ (Tryd.prog.globals[g]?).map (·.type) = some t ∧ W.var? Tryd.prog n = some cs ∧ DataW.trod (fun _ => ()) Tryd.prog W 0 (fun _ => true) false fuel t cs.toList = some (d, p)
  | [], _, _, hm => by cases hm
  | (n', d') :: r, ps, h, hm => by
    obtain ⟨g, t, cs, fuel, p, q, h1, h2, h3, h4, h5, _⟩ := h
    rcases List.mem_cons.1 hm with e | e
    · cases e
      exact ⟨g, t, cs, fuel, p, h1, h2, h3, h4⟩
    · exact reads_at h5 e

def debTab : List Int := litVals Rows.laid_math_bits_deBruijn64tab |>.map fun v => match v with
  | .int _ z => z
  | _ => 0
theorem deb_tab : (Rows.laid_math_bits_deBruijn64tab : DataW Unit) = Lib.tabData .u8 debTab := by rfl
theorem debAt : Tryd.prog.globalNamed "math/bits.deBruijn64tab" = some 15 := by kernel_rfl
theorem deb_of_laid {W : World} (h : laidMetH Tryd.prog Rows.proofDigestsRow.laid W) : Deb W := by
  obtain ⟨ps, hv, _⟩ := met_plain h
  obtain ⟨g', t', cs, fuel, p, hg', ht', hvar, hd⟩ := reads_at (n := "math/bits.deBruijn64tab") (d := Rows.laid_math_bits_deBruijn64tab) hv (by simp)
  obtain rfl := Option.some.inj (debAt.symm.trans hg')
  obtain rfl := Option.some.inj ((show (Tryd.prog.globals[15]?).map (·.type) = some 269 by kernel_rfl).symm.trans ht')
  rw [deb_tab] at hd
  have hT : Lib.TabIs Tryd.prog W "math/bits.deBruijn64tab" .u8 debTab := by
    unfold Lib.TabIs
    rw [hvar, ← Lib.cells_of_tab Tryd.underlying269 Tryd.underlying5 (by kernel_rfl) (by kernel_rfl) hd]
  exact ⟨Lib.TabIs.cell hT debAt 1 (by decide +kernel), Lib.TabIs.cell hT debAt 15 (by decide +kernel)⟩

theorem sinesAt : Tryd.prog.globalNamed "gatepost/api.Sines" = some 8 := by kernel_rfl
theorem sines_of_laid {W : World} (h : laidMetH Tryd.prog Rows.proofDigestsRow.laid W) : ∀ i, i < 64 → W.cell? ⟨8, i, none⟩ = some (.int .u32 (sinesL.getD i 0 : Nat)) := by
  obtain ⟨ps, hv, _⟩ := met_plain h
  obtain ⟨g', t', cs, fuel, p, hg', ht', hvar, hd⟩ := reads_at (n := "gatepost/api.Sines") (d := Rows.laid_gatepost_api_Sines) hv (by simp)
  obtain rfl := Option.some.inj (sinesAt.symm.trans hg')
  obtain rfl := Option.some.inj ((show (Tryd.prog.globals[8]?).map (·.type) = some 207 by kernel_rfl).symm.trans ht')
  rw [sines_tab] at hd
  have hT : Lib.TabIs Tryd.prog W "gatepost/api.Sines" .u32 (sinesL.map fun (n : Nat) => (n : Int)) := by
    unfold Lib.TabIs
    rw [hvar, ← Lib.cells_of_tab Tryd.underlying207 Tryd.underlying202 (by kernel_rfl) (by kernel_rfl) hd]
  intro i hi
  rw [Lib.TabIs.cell hT sinesAt i (by rw [List.length_map, sinesL_len]; exact hi), natMap_at _ _ (by rw [sinesL_len]; exact hi)]

theorem turnsAt : Tryd.prog.globalNamed "gatepost/sum.turns" = some 9 := by kernel_rfl
theorem turns_of_laid {W : World} (h : laidMetH Tryd.prog Rows.proofDigestsRow.laid W) : ∀ i, i < 16 → W.cell? ⟨9, i, none⟩ = some (.int .i64 (turnsL.getD i 0 : Nat)) := by
  obtain ⟨ps, hv, _⟩ := met_plain h
  obtain ⟨g', t', cs, fuel, p, hg', ht', hvar, hd⟩ := reads_at (n := "gatepost/sum.turns") (d := Rows.laid_gatepost_sum_turns) hv (by simp)
  obtain rfl := Option.some.inj (turnsAt.symm.trans hg')
  obtain rfl := Option.some.inj ((show (Tryd.prog.globals[9]?).map (·.type) = some 216 by kernel_rfl).symm.trans ht')
  rw [turns_tab] at hd
  have hT : Lib.TabIs Tryd.prog W "gatepost/sum.turns" .i64 (turnsL.map fun (n : Nat) => (n : Int)) := by
    unfold Lib.TabIs
    rw [hvar, ← Lib.cells_of_tab Tryd.underlying216 Tryd.underlying3 (by kernel_rfl) (by kernel_rfl) hd]
  intro i hi
  rw [Lib.TabIs.cell hT turnsAt i (by rw [List.length_map, turnsL_len]; exact hi), natMap_at _ _ (by rw [turnsL_len]; exact hi)]

theorem rootsAt : Tryd.prog.globalNamed "gatepost/api.Roots" = some 7 := by kernel_rfl
theorem roots_of_laid {W : World} (h : laidMetH Tryd.prog Rows.proofDigestsRow.laid W) : ∀ i, i < 64 → W.cell? ⟨7, i, none⟩ = some (.int .u32 (rootsL.getD i 0 : Nat)) := by
  obtain ⟨ps, hv, _⟩ := met_plain h
  obtain ⟨g', t', cs, fuel, p, hg', ht', hvar, hd⟩ := reads_at (n := "gatepost/api.Roots") (d := Rows.laid_gatepost_api_Roots) hv (by simp)
  obtain rfl := Option.some.inj (rootsAt.symm.trans hg')
  obtain rfl := Option.some.inj ((show (Tryd.prog.globals[7]?).map (·.type) = some 207 by kernel_rfl).symm.trans ht')
  rw [roots_tab] at hd
  have hT : Lib.TabIs Tryd.prog W "gatepost/api.Roots" .u32 (rootsL.map fun (n : Nat) => (n : Int)) := by
    unfold Lib.TabIs
    rw [hvar, ← Lib.cells_of_tab Tryd.underlying207 Tryd.underlying202 (by kernel_rfl) (by kernel_rfl) hd]
  intro i hi
  rw [Lib.TabIs.cell hT rootsAt i (by rw [List.length_map, rootsL_len]; exact hi), natMap_at _ _ (by rw [rootsL_len]; exact hi)]

theorem beginAt : Tryd.prog.globalNamed "gatepost/api.Begin" = some 6 := by kernel_rfl
theorem begin_of_laid {W : World} (h : laidMetH Tryd.prog Rows.proofDigestsRow.laid W) : ∀ i, i < 8 → W.cell? ⟨6, i, none⟩ = some (.int .u32 (beginL.getD i 0 : Nat)) := by
  obtain ⟨ps, hv, _⟩ := met_plain h
  obtain ⟨g', t', cs, fuel, p, hg', ht', hvar, hd⟩ := reads_at (n := "gatepost/api.Begin") (d := Rows.laid_gatepost_api_Begin) hv (by simp)
  obtain rfl := Option.some.inj (beginAt.symm.trans hg')
  obtain rfl := Option.some.inj ((show (Tryd.prog.globals[6]?).map (·.type) = some 203 by kernel_rfl).symm.trans ht')
  rw [begin_tab] at hd
  have hT : Lib.TabIs Tryd.prog W "gatepost/api.Begin" .u32 (beginL.map fun (n : Nat) => (n : Int)) := by
    unfold Lib.TabIs
    rw [hvar, ← Lib.cells_of_tab Tryd.underlying203 Tryd.underlying202 (by kernel_rfl) (by kernel_rfl) hd]
  intro i hi
  rw [Lib.TabIs.cell hT beginAt i (by rw [List.length_map, beginL_len]; exact hi), natMap_at _ _ (by rw [beginL_len]; exact hi)]

def ifaceName : DataW Unit → String
  | .iface n _ => n
  | _ => ""
theorem et : Tryd.prog.globalNamed "errors.errorType" = some 5 := by kernel_rfl
theorem rt : (Tryd.prog.cutTypes.find? (·.1 == ifaceName Rows.laid_errors_errorType)).map (·.2) = some 238 := by kernel_rfl
theorem oneRow : ((List.range Tryd.prog.types.size).filter fun t => Tryd.prog.rowNamed t [101, 114, 114, 111, 114]) = [39] := by kernel_rfl
theorem errType_of_laid {W : World} (h : laidMetH Tryd.prog Rows.proofDigestsRow.laid W) : ErrType W := by
  have h' : laidMet Tryd.prog [("math/bits.deBruijn32tab", Rows.laid_math_bits_deBruijn32tab), ("math/bits.deBruijn64tab", Rows.laid_math_bits_deBruijn64tab), ("internal/strconv.uint64pow10", Rows.laid_internal_strconv_uint64pow10), ("gatepost/api.Sines", Rows.laid_gatepost_api_Sines), ("gatepost/api.Roots", Rows.laid_gatepost_api_Roots), ("gatepost/api.Begin", Rows.laid_gatepost_api_Begin), ("gatepost/sum.turns", Rows.laid_gatepost_sum_turns)] W ∧ handlesMet Tryd.prog [("errors.errorType", Rows.laid_errors_errorType)] W := h
  obtain ⟨name, u, ty, e1, e2, e3, e4, e5⟩ := h'.2 _ (List.mem_singleton.2 rfl)
  have en : name = [101, 114, 114, 111, 114] := (Option.some.inj e1).symm
  subst en
  obtain rfl := Option.some.inj (rt.symm.trans e2)
  have hm : ty ∈ (List.range Tryd.prog.types.size).filter fun t => Tryd.prog.rowNamed t [101, 114, 114, 111, 114] := List.mem_filter.2 ⟨List.mem_range.2 e3, e4⟩
  rw [oneRow] at hm
  obtain rfl := List.mem_singleton.1 hm
  have hh : typeHandle Tryd.prog 39 = .pointer (some ⟨22, 39, none⟩) := by kernel_rfl
  rw [hh] at e5
  have h1 : W.cell? ⟨5, 0, none⟩ = some (.iface 238 (.agg #[.pointer (some ⟨22, 39, none⟩)])) := by simpa using World.var?_cell et e5 0
  exact h1

theorem reads (os : Os) {H : Type} (enc : TypeId × Value → H) : (DataW.whole enc Tryd.prog ((laidW os).forCall (fun _ _ => 0) ⟨#[], #[.agg #[.int .i64 0,.string ByteArray.empty,.string ByteArray.empty,.string ByteArray.empty,.bool false,.string ByteArray.empty,.bool false,.slice none 0 0], .agg #[.string ByteArray.empty,.string ByteArray.empty], .string ByteArray.empty, .string ByteArray.empty, .string ByteArray.empty, .string ByteArray.empty, .int .i64 0], []⟩).memory Tryd.f7.params.toList Rows.proofDigestsSpec.vars false #[.agg #[.int .i64 0,.string ByteArray.empty,.string ByteArray.empty,.string ByteArray.empty,.bool false,.string ByteArray.empty,.bool false,.slice none 0 0], .agg #[.string ByteArray.empty,.string ByteArray.empty], .string ByteArray.empty, .string ByteArray.empty, .string ByteArray.empty, .string ByteArray.empty, .int .i64 0].toList 8).isSome = true := by kernel_rfl
set_option maxRecDepth 100000 in
theorem lifted (os : Os) (started : os.Started) (H : Type) (enc : TypeId × Value → H) (F : Stop.Interp) :
    ReturnsInHanded {} Tryd.checked os 7 .any ((OpenSpec.ofChange Rows.proofDigestsSpec).preRow enc Tryd.prog Tryd.f7 Rows.proofDigestsRow.domain false Rows.proofDigestsRow.laid) (((OpenSpec.ofChange Rows.proofDigestsSpec).at F).post enc Tryd.prog Tryd.f7 false true false false) := by
  obtain ⟨x, hx⟩ := Option.isSome_iff_exists.1 (reads os enc)
  refine returnsInHanded_of_row (C := Tryd.checked) (s := OpenSpec.ofChange Rows.proofDigestsSpec) own started (by kernel_rfl) Tryd.func7
    (witness_row_at (enc := enc) (C := Tryd.checked) false (laidW os) #[.agg #[.int .i64 0,.string ByteArray.empty,.string ByteArray.empty,.string ByteArray.empty,.bool false,.string ByteArray.empty,.bool false,.slice none 0 0], .agg #[.string ByteArray.empty,.string ByteArray.empty], .string ByteArray.empty, .string ByteArray.empty, .string ByteArray.empty, .string ByteArray.empty, .int .i64 0] rfl (by kernel_rfl) (by kernel_rfl) (by kernel_rfl)
      (OpenSpec.preRow_of_cond 8 hx (by rfl) (fun k hk => by cases hk) (by kernel_rfl) (laidW_met os _))) ?_
  intro W base args ds gs before hval0 hW hcnd _ hsz0 hL hsh _
  have hval : ∀ (j : Nat) t v, Tryd.f7.params[j]? = some t → args[j]? = some v → Value.okWide Tryd.prog W .any base t v := hval0
  have hW' := hW
  obtain ⟨p, q, hA0, hV, rfl, hfz, hnd⟩ := hW
  have hA : DataW.TrodAll enc Tryd.prog W 0 (fun _ => true) true Tryd.f7.params.toList args.toList ds p := hA0
  rw [Tryd.params7] at hA hval
  obtain ⟨v0, vs0, d0, ds0, p0, q0, hargs, rfl, rfl, h0, r0⟩ := trodAll_cons hA
  obtain ⟨v1, vs1, d1, ds1, p1, q1, rfl, rfl, rfl, h1, r1⟩ := trodAll_cons r0
  obtain ⟨v2, vs2, d2, ds2, p2, q2, rfl, rfl, rfl, h2, r2⟩ := trodAll_cons r1
  obtain ⟨v3, vs3, d3, ds3, p3, q3, rfl, rfl, rfl, h3, r3⟩ := trodAll_cons r2
  obtain ⟨v4, vs4, d4, ds4, p4, q4, rfl, rfl, rfl, h4, r4⟩ := trodAll_cons r3
  obtain ⟨v5, vs5, d5, ds5, p5, q5, rfl, rfl, rfl, h5, r5⟩ := trodAll_cons r4
  obtain ⟨v6, vs6, d6, ds6, p6, q6, rfl, rfl, rfl, h6, r6⟩ := trodAll_cons r5
  obtain ⟨rfl, rfl, rfl⟩ := trodAll_nil r6
  obtain rfl : args = #[v0, v1, v2, v3, v4, v5, v6] := by cases args; simp_all
  obtain ⟨rfl, rfl⟩ := trodVars_none hV
  have hlt : ∀ x ∈ p0 ++ (p1 ++ (p2 ++ (p3 ++ (p4 ++ (p5 ++ (p6 ++ [])))))), x.block < W.heap.size := fun x hx => by simpa using hW'.lt x (by simpa using hx)
  have hAk := hA
  have hsz : (DataW.weightsEach Tryd.prog [26, 45, 9, 9, 9, 9, 3] [d0, d1, d2, d3, d4, d5, d6]).all (· ≤ reachBytes) = true := hsz0
  have R0 := Rd.of h0 (weightsEach_at (j := 0) rfl rfl hsz)
  have R1 := Rd.of h1 (weightsEach_at (j := 1) rfl rfl hsz)
  have R2 := Rd.of h2 (weightsEach_at (j := 2) rfl rfl hsz)
  have R3 := Rd.of h3 (weightsEach_at (j := 3) rfl rfl hsz)
  have R4 := Rd.of h4 (weightsEach_at (j := 4) rfl rfl hsz)
  have R5 := Rd.of h5 (weightsEach_at (j := 5) rfl rfl hsz)
  have R6 := Rd.of h6 (weightsEach_at (j := 6) rfl rfl hsz)
  obtain ⟨a0, rfl, _⟩ := okWide_struct Tryd.underlying26 (hval 0 _ v0 rfl rfl)
  obtain ⟨a1, rfl, _⟩ := okWide_struct Tryd.underlying45 (hval 1 _ v1 rfl rfl)
  obtain ⟨a2, rfl, w2⟩ := Rd.string_v R2 (hval 2 _ v2 rfl rfl) Tryd.underlying9
  obtain ⟨a3, rfl, w3⟩ := Rd.string_v R3 (hval 3 _ v3 rfl rfl) Tryd.underlying9
  obtain ⟨a4, rfl, w4⟩ := Rd.string_v R4 (hval 4 _ v4 rfl rfl) Tryd.underlying9
  obtain ⟨a5, rfl, w5⟩ := Rd.string_v R5 (hval 5 _ v5 rfl rfl) Tryd.underlying9
  obtain ⟨a6, rfl, w6⟩ := Rd.int_v R6 (hval 6 _ v6 rfl rfl) Tryd.underlying3
  clear hA0 hval0
  simp only [List.append_nil] at hW'
  refine (walk W hsh (⟨sines_of_laid hL, turns_of_laid hL⟩) (⟨roots_of_laid hL, begin_of_laid hL⟩) (deb_of_laid hL) (errType_of_laid hL) a0.toList R0 a1.toList R1 a2 w2 a3 w3 a4 w4 a5 w5 a6 w6).mono fun e W' ⟨he, hg⟩ => ?_
  subst he
  exact ⟨_, rfl, ⟨_, _, _, [], _, [], hW', trodAll_cons_mk (shut_bool Tryd.underlying4 _) trodAll_mk0, below_trodAll laidOut hg (by decide +kernel) hAk hlt, by first | rfl | simp, hg.frame _, fun h => by cases h⟩⟩

set_option maxHeartbeats 8000000 in
theorem closedF : joinedFacts Tryd.pinned.checked.prog 7 Tryd.f7 (OpenSpec.ofChange Rows.proofDigestsSpec).bare Rows.proofDigestsRow = true := by
  unfold joinedFacts
  repeat' (first | (with_reducible refine Bool.and_eq_true_iff.2 ⟨?_, ?_⟩))
  all_goals first
    | (with_reducible exact tableFacts.1)
    | (with_reducible exact tableFacts.2.1)
    | (rw [tableFacts.2.2]; rfl)
    | (as_aux_lemma => kernel_rfl)
set_option maxHeartbeats 4000000 in
theorem over : Rows.ProofDigestsSaid :=
  OpenClaim.holds_of_cond 7 Tryd.f7 rfl rfl rfl rfl rfl rfl rfl ⟨rfl, rfl, rfl, rfl, rfl⟩ rfl rfl rfl rfl rfl (by as_aux_lemma => kernel_rfl) Tryd.func7
    closedF
    (of_decide_eq_true (by as_aux_lemma => kernel_rfl)) (by unfold Func.isWrapper; first | (rw [if_pos (by decide +kernel)]; kernel_rfl) | (rw [if_neg (by decide +kernel)]; exact ⟨rfl, rfl⟩))
    (fun os started H enc _ F => by rw [OpenClaim.pre_eq_preRow]; exact lifted os started H enc F)

theorem plain (f : FuncId) (fn : Func) (hf : Tryd.pinned.checked.prog.funcNamed Rows.proofDigestsRow.func = some f) (hfn : Tryd.pinned.checked.prog.funcs[f]? = some fn) :
    true = Tryd.pinned.checked.prog.looks [] ∧ ∀ (j : Nat) t, fn.params[j]? = some t → Tryd.pinned.checked.prog.wantsStandIn t = false := by
  obtain rfl : f = 7 := Option.some.inj ((show Tryd.prog.funcNamed Rows.proofDigestsRow.func = some 7 by kernel_rfl).symm.trans hf) |>.symm
  obtain rfl : fn = Tryd.f7 := (Option.some.inj (Tryd.func7.symm.trans hfn)).symm
  refine ⟨by kernel_rfl, fun j t ht => ?_⟩
  rw [Tryd.params7] at ht
  have hm := Array.mem_of_getElem? ht
  simp only [List.mem_toArray, List.mem_cons, List.not_mem_nil, or_false] at hm
  have hall : [26, 45, 9, 9, 9, 9, 3].all (fun t => Tryd.prog.wantsStandIn t == false) = true := by kernel_rfl
  exact beq_iff_eq.1 (List.all_eq_true.1 hall t (by simpa using hm))

theorem proved : Rows.ProofDigestsCardSaid :=
  Claim7.holds_tied_plain_at .later [] _ _ _ _ over (fun _ h => by cases h) (by kernel_rfl) (fun _ h => by cases h) proofDigests_row_tie rfl ⟨rfl, rfl⟩ (by kernel_rfl) rfl plain (by kernel_rfl)
#print axioms proved
end Go.Proofs.YtdlhihfjigcimaaDoor.lawProofDigests
