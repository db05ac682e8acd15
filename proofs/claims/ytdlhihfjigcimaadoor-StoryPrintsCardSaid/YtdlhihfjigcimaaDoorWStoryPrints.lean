/- StoryPrints: story.Print gives what the reference's Print gives, for any events: the walk of the statement. -/
import Derived.Test.YtdlhihfjigcimaaDoorWStoryLines
namespace Go.Proofs.YtdlhihfjigcimaaDoor.lawStoryPrints
open Go.ChangeShapes Go.WideShapes Go.ChangeAt Go.RowKit Go.WideElems Go.Deep
theorem infoEvG : (Tryd.prog.info? 67).map (fun i => (i.zero, i.size, i.bytes)) = some (some (.agg zEv), 28, 328) := by kernel_rfl
abbrev encEv : EvV → List Value := fun e => e.arr.toList
theorem encEv_len (e : EvV) : (encEv e).length = 28 := rfl
theorem encEv_one (e : EvV) : ∀ u ∈ encEv e, u.oneCell' = true := by
  intro v hv
  replace hv : v ∈ e.arr.toList := hv
  simp only [List.mem_cons, List.not_mem_nil, or_false] at hv
  rcases hv with rfl | rfl | rfl | rfl | rfl | rfl | rfl | rfl | rfl | rfl | rfl | rfl | rfl | rfl | rfl | rfl | rfl | rfl | rfl | rfl | rfl | rfl | rfl | rfl | rfl | rfl | rfl | rfl <;> rfl
theorem evs_open {w : World} {a : Option Addr} {len cap : Nat} (h : Rd Tryd.prog w 70 [.slice a len cap]) :
    ∃ es, es.length = len ∧ EvAt w a es ∧ (∀ e ∈ es, e.Ok w) ∧ len ≤ maxLen := by
  obtain ⟨a', len', cap', e, hb, _, hl, hc, hn, hi⟩ := h.slice Tryd.underlying70 (by rw [cellsEv]; decide)
  simp at e
  obtain ⟨rfl, rfl, rfl⟩ := e
  rw [cellsEv] at hi
  obtain ⟨es, hes, hp⟩ := exists_list (fun i (e : EvV) => (∃ b off, a = some ⟨b, off, none⟩ ∧ ∀ j u, e.arr.toList[j]? = some u → w.cell? ⟨b, off + i * 28 + j, none⟩ = some u) ∧ e.Ok w) len (by
    intro i hil
    obtain ⟨b, off, cs', ha, hl', hR, hcell⟩ := hi i hil
    obtain ⟨e, rfl, hO⟩ := ev_openL hR
    exact ⟨e, ⟨b, off, ha, fun j u hu => by rw [hcell j (List.getElem?_eq_some_iff.1 hu).1, hu]⟩, hO⟩)
  refine ⟨es, hes, fun i hil => (hp i hil).1, ?_, by assumption⟩
  intro e hem
  obtain ⟨i, hil, rfl⟩ := List.getElem_of_mem hem
  exact (hp i hil).2
theorem ev_opR {w : World} {b o : Nat} {e : EvV} (h : w.rangeAt b o e.arr.toList) : w.rangeAt b (o + 1) e.op.arr.toList := fun j v hv => by
  have hj : j < e.op.arr.toList.length := (List.getElem?_eq_some_iff.1 hv).1
  have he : e.arr.toList = Value.int .i64 e.tab :: (e.op.arr.toList ++ [.int .i64 e.rw, .string e.head, .int .i64 e.rc, .int .i64 e.from_, .int .i64 e.upto]) := rfl
  rw [Nat.add_assoc]
  refine h (1 + j) v ?_
  rw [he, Nat.add_comm, List.getElem?_cons_succ, List.getElem?_append_left hj]
  exact hv
set_option maxRecDepth 100000 in
set_option maxHeartbeats 8000000 in
theorem storyPrint (a0 : Option Addr) (cap0 : Nat) (es : List EvV) (w : World) (hR : EvAt w a0 es) (hO : ∀ e ∈ es, e.Ok w) (hS : ∀ e ∈ es, e.Small) (hT : StoryT w) (hn : es.length ≤ 100) :
    Calls Tryd.prog 28 #[.slice a0 es.length cap0] w fun x w' => x = .returned (.string ⟨(linesL es).toArray⟩) ∧ Below w.heap.size w w' := by
  have hnew := IsB.new w w.heap.size (Nat.le_refl _)
  have hB0 := (Below.refl w.heap.size w).alloc (Nat.le_refl _) (.cells #[.pointer none, .slice none 0 0] 101)
  go_enter Tryd.func28, Tryd.ntmps28
  go_wp2
  go_loopw [8] (fun i wr => ∃ k : Nat, k ≤ es.length ∧ i = .int .i64 k ∧ Hid (IsB w.heap.size w.heap.size (Lib.byteCells (linesL (es.take k))) wr) ∧ Hid ((linesL (es.take k)).length ≤ 3100000 * k) ∧ Hid (Below w.heap.size w wr)) (fun i _ => es.length - (intOf i).toNat)
  case atStart => exact ⟨0, Nat.zero_le _, rfl, Lib.hid hnew, Lib.hid (by simp [linesL]), Lib.hid hB0⟩
  case round =>
    obtain ⟨k, hk, rfl, hI, hZ, hB⟩ := hrel
    clear hnew hB0
    by_cases hlt : k < es.length
    · obtain ⟨bb, off, rfl, hc⟩ := (hR.later hB.out) k hlt
      have hnx := Lib.hid (linesL_succ es k hlt)
      have hSm := hS _ (List.getElem_mem hlt)
      have hOk := hO _ (List.getElem_mem hlt)
      have hlz := lineB_size _ hOk hSm
      generalize es[k] = e at hc hnx hSm hOk hlz
      have hL := fun w' (h : Below w.heap.size w w') => storyLine e w' (hOk.later h) hSm (hT.later h)
      clear hSm hOk hR hO hS hT
      have hrg : wr.rangeAt bb (off + k * 28) e.arr.toList := fun j v hv => hc j v hv
      have hone := ev_one e
      have hbl : Below wr.heap.size wr (wr.alloc (.cells zEv tEvP)) := (Below.refl _ _).alloc (Nat.le_refl _) _
      have hwsz := hB.out.size
      go_upto_region 5 with (first
        | (refine wpList_load_mid rfl tEvP _ rfl bb (off + k * 28) rfl e.arr.toList _ hrg Tryd.underlying67 rfl infoEvP ?_)
        | (refine wpList_store_blk rfl tEvP _ _ rfl _ rfl (Blk.new wr zEv tEvP) e.arr rfl rfl infoEvP hone ?_; intro wz hz hg))
      have hBz := below_only hbl hg (by simp) (Nat.le_refl _)
      have hBw := Lib.hid (hB.out.then (Nat.le_refl _) hBz)
      have hIz := Lib.hid (hI.out.later hBz)
      clear hc hrg hone hbl hg hI hB hBz
      generalize wr.heap.size = P at hz ⊢
      generalize lineB e = L at hL hlz hnx
      have hlf : (L ++ (⟨#[10]⟩ : ByteArray)).size = L.size + 1 := by rw [add_size]; rfl
      go_wp2_with (refine wpList_load_blk rfl tEvP _ rfl _ rfl hz _ Tryd.underlying67 rfl infoEvP ?_)
      refine (hL _ hBw.out).mono ?_
      rintro x w3 ⟨rfl, hB3⟩
      have hBw3 := Lib.hid (hBw.out.then (Nat.le_refl _) hB3)
      have hI3 := hIz.out.later hB3
      have hs3 := hBw3.out.size
      have hws := writeString w.heap.size w.heap.size _ (L ++ (⟨#[10]⟩ : ByteArray)) w3 hI3 (by rw [Lib.byteCells_length, hlf]; have := hZ.out; omega) hs3
      have hnn := Lib.hid (show Lib.byteCells (linesL (es.take k)) ++ Lib.strCells (L ++ (⟨#[10]⟩ : ByteArray)) = Lib.byteCells (linesL (es.take (k + 1))) by
        rw [hnx.out, Lib.byteCells_append, Lib.strCells_eq, add_toList])
      have hZn := Lib.hid (show (linesL (es.take (k + 1))).length ≤ 3100000 * (k + 1) by
        rw [hnx.out, List.length_append, List.length_append, ← sz_len]
        have := hZ.out
        show _ + (L.size + 1) ≤ _
        omega)
      rw [hnn.out] at hws
      clear hI3 hz hIz hB3 hL hnx hZ
      go_wp2_with fail
      refine hws.mono ?_
      rintro x w4 ⟨rfl, hA4, hB4⟩
      have hB5 := Lib.hid (hBw3.out.trans hB4)
      go_wp2
      go_roundw
      case rel => exact ⟨k + 1, by omega, by go_num, Lib.hid (.inr hA4), hZn, hB5⟩
      case measure => simp [intOf]; omega
    · obtain rfl : k = es.length := by omega
      have hI' := hI.out
      rw [List.take_length] at hI'
      have hst := Tryd.Builder_String_any _ _ _ _ hI' hB.out.size
      clear hI' hI hZ
      go_wp2_with fail
      refine hst.mono ?_
      rintro x w4 ⟨rfl, hB4⟩
      have hB5 := Lib.hid (hB.out.trans hB4)
      go_wp2
      go_ret
      exact ⟨rfl, hB5.out⟩
set_option maxRecDepth 100000 in
set_option maxHeartbeats 8000000 in
theorem walk (W : World) (_hsh : W.ShapedOpen Tryd.prog) (hT : StoryT W) (a : Option Addr) (len cap : Nat) (hR : Rd Tryd.prog W 70 [.slice a len cap]) :
    Calls Tryd.prog 9 #[.slice a len cap] W fun x w' => x = .returned (.bool true) ∧ Below W.heap.size W w' := by
  obtain ⟨es, rfl, hE, hO, hl⟩ := evs_open hR
  clear hR _hsh
  by_cases h20 : 20 < es.length
  · go_enter Tryd.func9, Tryd.ntmps9
    go_wp2
    go_ret
    exact ⟨rfl, Below.refl _ _⟩
  go_enter Tryd.func9, Tryd.ntmps9
  go_wp2
  go_loopw [3, 4] (fun m i wr => ∃ k : Nat, k ≤ es.length ∧ i = .int .i64 k ∧ Hid (OwnG tEvP 28 encEv wr W.heap.size m (es.take k)) ∧ Hid (∀ e ∈ es.take k, e.Small) ∧ Hid (Below W.heap.size W wr)) (fun _ i _ => es.length - (intOf i).toNat)
  case atStart => exact ⟨0, Nat.zero_le _, rfl, Lib.hid (OwnG.nil _ _), Lib.hid (by simp), Lib.hid (Below.refl _ _)⟩
  case round =>
    rename_i m _
    obtain ⟨k, hk, rfl, hG, hSm, hB⟩ := hrel
    by_cases hlt : k < es.length
    · obtain ⟨bb, off, rfl, hc⟩ := hE k hlt
      have hOk := hO _ (List.getElem_mem hlt)
      have hsn := Lib.hid (fun h : EvV.Small es[k] => (show ∀ e ∈ es.take (k + 1), e.Small from fun e he => by
        rw [List.take_succ_eq_append_getElem hlt, List.mem_append, List.mem_singleton] at he
        rcases he with he | rfl
        · exact hSm.out e he
        · exact h))
      have htk := Lib.hid (show es.take (k + 1) = es.take k ++ [es[k]] from List.take_succ_eq_append_getElem hlt)
      have hln : (es.take k).length = k := by rw [List.length_take]; omega
      generalize es[k] = e at hc hOk hsn htk
      have hrgW : W.rangeAt bb (off + k * 28) e.arr.toList := fun j v hv => hc j v hv
      have hrg : ∀ w', Below W.heap.size W w' → w'.rangeAt bb (off + k * 28) e.arr.toList := fun w' h j v hv => (h.cell (World.block_lt_of_cell? W _ (hrgW j v hv))).trans (hrgW j v hv)
      have hW := fun w' (h : Below W.heap.size W w') => wide_says e.op w' (hOk.op.later h)
      have hEv := fun w' => eventOf_is e w'
      have hz := hOk.head
      simp only [reachBytes] at hz
      have hro := ev_opR (hrg _ hB.out)
      cases hwd : wideB e.op
      · rw [hwd] at hW
        go_wp2_with (refine wpList_load_mid rfl 60 _ rfl bb (off + k * 28 + 1) rfl e.op.arr.toList _ hro Tryd.underlying60 rfl infoOp ?_)
        refine (hW _ hB.out).mono ?_
        rintro x w2 ⟨rfl, hB2⟩
        have hBw := Lib.hid (hB.out.then (Nat.le_refl _) hB2)
        have hr2 := hrg _ hBw.out
        have c24 : w2.cell? ⟨bb, off + k * 28 + 24, none⟩ = some (.string e.head) := hr2 24 _ rfl
        have c24' : w2.cell? ⟨bb, off + k * 28 + 23 + 1, none⟩ = some (.string e.head) := c24
        have hG2 := Lib.hid (hG.out.later hB2)
        clear hro hG hB hB2 hW
        by_cases h300 : 300 < e.head.size
        · go_wp2
          go_ret
          exact ⟨rfl, hBw.out⟩
        · have hsm := Lib.hid (hsn.out (ev_small hOk hwd (by omega)))
          have hsz2 := hBw.out.size
          go_wp2_with (refine wpList_load_mid rfl tEvR _ rfl bb (off + k * 28) rfl e.arr.toList _ hr2 Tryd.underlying64 rfl infoEvR ?_)
          refine (hEv _).mono ?_
          rintro x w3 ⟨rfl, hB3⟩
          have hG3 := hG2.out.later hB3
          have hBw3 := Lib.hid (hBw.out.then (Nat.le_refl _) hB3)
          have hbs : W.heap.size ≤ w3.heap.size := hBw3.out.size
          have hl1 : (es.take k).length + 1 ≤ maxLen := by rw [hln]; unfold maxLen; omega
          have hl2 : ((es.take k).length + 1) * 328 ≤ 140737488355328 := by rw [hln]; omega
          clear hr2 c24 c24' hG2 hBw hB3 hEv
          go_wp2_with (at_builtin; refine wpList_append_one infoEvG Tryd.underlying72 rfl (by decide) encEv_len rfl _ _ rfl _ W.heap.size _ (es.take k) rfl ?_ e (encEv_one _) _ rfl _ rfl ?_ ?_ ?_ ?_ ?_; exact hG3; exact rfl; exact hl1; exact hl2; exact hbs; intro v6 w6 hO6 hG6 hne6)
          have hB6 := Lib.hid (below_append hBw3.out hG3 hG6 hbs)
          rw [← htk.out] at hO6
          have hO6' := Lib.hid hO6
          go_roundw
          case rel => exact ⟨k + 1, by omega, by go_num, hO6', hsm, hB6⟩
          case measure => simp [intOf]; omega
      · rw [hwd] at hW
        go_wp2_with (refine wpList_load_mid rfl 60 _ rfl bb (off + k * 28 + 1) rfl e.op.arr.toList _ hro Tryd.underlying60 rfl infoOp ?_)
        refine (hW _ hB.out).mono ?_
        rintro x w2 ⟨rfl, hB2⟩
        have hBw := Lib.hid (hB.out.then (Nat.le_refl _) hB2)
        go_wp2
        go_ret
        exact ⟨rfl, hBw.out⟩
    · obtain rfl : k = es.length := by omega
      have hG' := hG.out
      have hS' := hSm.out
      rw [List.take_length] at hG' hS'
      obtain ⟨a2, cap2, rfl, hrow, _, _, _⟩ := hG'.shape encEv_len
      have p1 := storyPrint a2 cap2 es _ hrow (fun e he => (hO e he).later hB.out) hS' (hT.later hB.out) (by omega)
      have p2 := fun w' (h : Below W.heap.size W w') => refPrintEv a cap es w' (hE.later h) (fun e he => (hO e he).later h) hS' (hT.later h) (by omega)
      generalize (⟨(linesL es).toArray⟩ : ByteArray) = X at p1 p2
      have hxx : (X.toList == X.toList) = true := by simp
      clear hG hG' hS' hSm hE hO hT hrow
      go_wp2_with fail
      refine p1.mono ?_
      rintro x w2 ⟨rfl, hB2⟩
      have hBw := Lib.hid (hB.out.then (Nat.le_refl _) hB2)
      go_wp2_with fail
      refine (p2 _ hBw.out).mono ?_
      rintro x w3 ⟨rfl, hB3⟩
      have hBx := Lib.hid (hBw.out.then (Nat.le_refl _) hB3)
      go_wp2
      go_ret
      exact ⟨rfl, hBx.out⟩
end Go.Proofs.YtdlhihfjigcimaaDoor.lawStoryPrints
