/- StoryNames: story.Name and story.Answer give what the reference's give: the walk of the statement. -/
import Derived.Test.YtmpgamnpmgedkaaDoorStoryT
import Derived.Test.YtmpgamnpmgedkaaDoorRead
import Derived.OpenShut
import Derived.BigRegion
import Derived.Deep.RegionHeld3
namespace Go.Proofs.YtmpgamnpmgedkaaDoor.lawStoryNames
open Go.ChangeShapes Go.WideShapes Go.ChangeAt Go.RowKit Go.WideElems Go.Deep

theorem cellsReply : Tryd.prog.cellsOf 51 = 3 := by kernel_rfl
theorem cellsInt : Tryd.prog.cellsOf 3 = 1 := by kernel_rfl
theorem cellsString : Tryd.prog.cellsOf 9 = 1 := by kernel_rfl
set_option maxRecDepth 100000 in
theorem reply_open {w : World} {cs : List Value} (h : Rd Tryd.prog w 51 cs) : ∃ (k c : Int) (t : ByteArray), cs = [.int .i64 k, .string t, .int .i64 c] ∧ (Lit.int .i64 c).wf = true := by
  obtain ⟨hl, _⟩ := h.struct Tryd.underlying51
  rw [cellsReply] at hl
  match cs, hl with
  | [c0, c1, c2], _ =>
    have r0 : Rd Tryd.prog w 3 [c0] := h.field Tryd.underlying51 0 rfl cellsInt
    have r1 : Rd Tryd.prog w 9 [c1] := h.field Tryd.underlying51 1 rfl cellsString
    have r2 : Rd Tryd.prog w 3 [c2] := h.field Tryd.underlying51 2 rfl cellsInt
    obtain ⟨b, e0, z0⟩ := r0.int Tryd.underlying3
    obtain ⟨s, e1, z1⟩ := r1.string Tryd.underlying9
    obtain ⟨n, e2, z2⟩ := r2.int Tryd.underlying3
    simp at e0 e1 e2
    subst e0; subst e1; subst e2
    exact ⟨b, n, s, rfl, z2⟩
set_option maxRecDepth 100000 in
set_option maxHeartbeats 4000000 in
theorem walk (W : World) (_hsh : W.ShapedOpen Tryd.prog) (hT : StoryT W) (n : Int) (_hn : (Lit.int .i64 n).wf = true) (cs : List Value) (hR : Rd Tryd.prog W 51 cs) :
    Calls Tryd.prog 9 #[.int .i64 n, .agg cs.toArray] W fun e w' => e = .returned (.bool true) ∧ Below W.heap.size W w' := by
  obtain ⟨k, c, t, rfl, hc⟩ := reply_open hR
  clear hR _hsh _hn
  have hB := (Below.refl W.heap.size W).alloc (Nat.le_refl _) (Obj.cells #[.int .i64 k, .string t, .int .i64 c] 51)
  by_cases h300 : 300 < t.size
  · have hd : decide ((300 : Int) < (t.size : Int)) = true := by simp; omega
    clear hc
    go_enter Tryd.func9, Tryd.ntmps9
    go_wp2_with fail
    first | (go_region_with (fail)) | (go_region)
    all_goals
      go_wp2
      go_ret
      exact ⟨rfl, hB.drew⟩
  · have hd1 : decide (300 < t.size) = false := by simpa using h300
    have hd2 : decide ((300 : Int) < (t.size : Int)) = false := by simp; omega
    have hw : -9223372036854775808 ≤ c ∧ c ≤ 9223372036854775807 := by
      have hmin : IntKind.i64.min = -9223372036854775808 := by decide
      have hmax : IntKind.i64.max = 9223372036854775807 := by decide
      simp [Lit.wf, hmin, hmax] at hc
      omega
    have hts : t.size ≤ 300 := by omega
    have hq := fun (w' : World) (h : Below W.heap.size W w') => quote_is t hts w' (hT.later h)
    have hi := fun (w' : World) (h : Below W.heap.size W w') => itoa_is c hw.1 hw.2 w' (hT.later h).pow
    have hN1 := fun w' => storyName n w'
    have hN2 := fun (w' : World) (h : Below W.heap.size W w') => refName n w' (hT.later h).nam
    have hA1 := fun (w' : World) (h : Below W.heap.size W w') => storyAnswer k c t (quoteOf t) w' (fun w'' h2 => hq w'' (h.then (Nat.le_refl _) h2)) (fun w'' h2 => hi w'' (h.then (Nat.le_refl _) h2)) (quoteOf_size t hts) (itoa_small c hw.1 hw.2)
    have hA2 := fun (w' : World) (h : Below W.heap.size W w') => refAnswer k c t (quoteOf t) w' (hT.later h).asc (fun w'' h2 => hq w'' (h.then (Nat.le_refl _) h2)) (fun w'' h2 => hi w'' (h.then (Nat.le_refl _) h2)) (quoteOf_size t hts) (itoa_small c hw.1 hw.2)
    generalize ansV k c t (quoteOf t) = x at hA1 hA2
    generalize nameR n = y at hN1 hN2
    have hxx : (x.toList == x.toList) = true := by simp
    have hyy : (y.toList == y.toList) = true := by simp
    have hE := fun w' (h : Below (W.heap.size + 1) (W.alloc (Obj.cells #[.int .i64 k, .string t, .int .i64 c] 51)) w') => mkReply h
    clear hq hi hc hw h300
    go_enter Tryd.func9, Tryd.ntmps9
    go_wp2_with fail
    go_region_held3 (fun w' => Below (W.heap.size + 1) (W.alloc (Obj.cells #[.int .i64 k, .string t, .int .i64 c] 51)) w' ∧ w'.cell? ⟨W.heap.size, 0, none⟩ = some (.int .i64 k) ∧ w'.cell? ⟨W.heap.size, 1, none⟩ = some (.string t) ∧ w'.cell? ⟨W.heap.size, 2, none⟩ = some (.int .i64 c))
      (first | (exact hE _ (Below.refl _ _).drew) | (go_split_ands; exact hE _ ((by assumption : Below (W.heap.size + 1) _ _).then (by simp) (by assumption))) | (go_split_ands; exact hE _ (by assumption)))
      (first
        | (go_at_call 32; go_split_ands; refine (hN1 _).mono ?_; rintro e w2 ⟨rfl, rfl⟩)
        | (go_at_call 33; go_split_ands; refine (hN2 _ (below_box (by assumption))).mono ?_; rintro e w2 ⟨rfl, rfl⟩)
        | (go_at_call 34; go_split_ands; refine (hA1 _ (below_box (by assumption))).mono ?_; rintro e w2 ⟨rfl, hB2⟩)
        | (go_at_call 35; go_split_ands; refine (hA2 _ (below_box (by assumption))).mono ?_; rintro e w2 ⟨rfl, hB2⟩))
    all_goals
      go_split_ands
      go_wp2
      go_ret
      exact ⟨rfl, (below_box (by assumption)).then (Nat.le_refl _) hB2⟩
end Go.Proofs.YtmpgamnpmgedkaaDoor.lawStoryNames
