/- url.host: whether a text is a host (a range over strings.SplitSeq). -/
import Derived.Test.YthmkilglidfdiaaGreatDoorSeqLaw
import Derived.Test.YthmkilglidfdiaaGreatDoorHostP
import Derived.Test.YthmkilglidfdiaaGreatDoorFoun2
namespace Go.Proofs.YthmkilglidfdiaaGreatDoor
open Go.RowKit Go.Shelf
attribute [local go_sem] Oper.semAt_some

theorem box_free' {w wr : World} {c : Array Value} {T : TypeId} {B : Nat} (h : Below (B + 1) (w.alloc (.cells c T)) wr) (i : Nat) (hB : B = w.heap.size := by rfl) : wr.frozen? ⟨B, i, none⟩ = false := by
  subst hB
  rw [h.frozen (p := ⟨w.heap.size, i, none⟩) (Nat.lt_succ_self _)]
  simp [World.frozen?_alloc_mark]
  try omega

def hostCut : List UInt8 := [97, 98, 99, 100, 101, 102, 103, 104, 105, 106, 107, 108, 109, 110, 111, 112, 113, 114, 115, 116, 117, 118, 119, 120, 121, 122, 48, 49, 50, 51, 52, 53, 54, 55, 56, 57, 45]
theorem hostCut_is (c : UInt8) : hostCut.contains c = hostByte c := by
  have h : ∀ n : Fin 256, hostCut.contains (UInt8.ofNat n) = hostByte (UInt8.ofNat n) := by decide +kernel
  have := h ⟨c.toNat, c.toNat_lt⟩
  simpa using this
theorem hostCut_ascii (j : Nat) (b : UInt8) (h : (⟨hostCut.toArray⟩ : ByteArray).data.toList[j]? = some b) : b.toNat < 128 :=
  (by decide : ∀ b ∈ hostCut, b.toNat < 128) b (List.mem_of_getElem? h)

theorem grownBy_below' {w w' : World} {row : Option Nat} (h : Below w.heap.size w w') : w.grownBy w' row := ⟨h.os, h.tape, h.output, h.size, fun k hk _ => h.block k hk⟩
theorem keeps_below {W W' : World} (h : Below W.heap.size W W') : KeepsOthers W W' := KeepsOthers.of_grownBy (row := none) (grownBy_below' h) (fun j o e => by cases e)
set_option maxRecDepth 100000 in
set_option maxHeartbeats 1600000 in
theorem urlHost (s : ByteArray) (w : World) (hl : s.size ≤ 60) :
    Calls Tryz.prog 61 #[.string s] w fun e w' => e = .returned (.bool (hostOk s.data.toList)) ∧ Below w.heap.size w w' := by
  refine (callsIn_wide (n := 4)).1 ?_
  refine callsIn_of_wp_marks Tryz.func61 rfl trivial ?_ rfl
  simp only [Tryz.ntmps61, List.size_toArray, List.length_cons, List.length_nil, Nat.reduceAdd, Nat.reduceSub, Array.replicate_succ, Array.replicate_zero, List.push_toArray, List.append_toArray, List.nil_append, List.cons_append]
  gi_wp2_with (refine ⟨trivial, ?_⟩; gi_at_call 77; refine (callsIn_wide.2 (splitSeq_made _ _ _)).mono ?_; rintro e w' ⟨rfl, rfl⟩)
  obtain ⟨Wl, hWl⟩ : ∃ Wl, ((((w.alloc (.cells #[.bool false] 4)).alloc (.cells #[.string s] 9)).alloc (.cells #[.string ⟨#[46]⟩] 9)).alloc (.cells #[.int .i64 0] 3)) = Wl := ⟨_, rfl⟩
  rw [hWl]
  have hsz : Wl.heap.size = w.heap.size + 4 := by rw [← hWl]; simp
  have hB : Below w.heap.size w Wl := by
    rw [← hWl]
    exact ((((Below.refl _ w).alloc (Nat.le_refl _) _).alloc (by simp) _).alloc (by simp <;> omega) _).alloc (by simp; omega) _
  have c0 : Wl.cell? ⟨w.heap.size, 0, none⟩ = some (.bool false) := by rw [← hWl]; exact box_cell (((((Below.refl _ _).alloc (by simp) _).alloc (by simp <;> omega) _)).alloc (by simp <;> omega) _) 0 rfl rfl
  have c1 : Wl.cell? ⟨w.heap.size + 1, 0, none⟩ = some (.string s) := by rw [← hWl]; exact box_cell (((Below.refl _ _).alloc (by simp) _).alloc (by simp <;> omega) _) 0 rfl (by simp)
  have c2 : Wl.cell? ⟨w.heap.size + 1 + 1, 0, none⟩ = some (.string ⟨#[46]⟩) := by rw [← hWl]; exact box_cell ((Below.refl _ _).alloc (by simp) _) 0 rfl (by simp)
  have c3 : Wl.cell? ⟨w.heap.size + 1 + 2, 0, none⟩ = some (.int .i64 0) := by rw [← hWl]; exact box_cell (Below.refl _ _) 0 rfl (by simp)
  have f0 : Wl.frozen? ⟨w.heap.size, 0, none⟩ = false := by rw [← hWl]; exact box_free' (((((Below.refl _ _).alloc (by simp) _).alloc (by simp <;> omega) _)).alloc (by simp <;> omega) _) 0 rfl
  have f1 : Wl.frozen? ⟨w.heap.size + 1, 0, none⟩ = false := by rw [← hWl]; exact box_free' (((Below.refl _ _).alloc (by simp) _).alloc (by simp <;> omega) _) 0 (by simp)
  clear hWl
  refine range_split 46 (w.heap.size + 1) (w.heap.size + 1 + 1) (w.heap.size + 1 + 2) rfl rfl (by omega) s (by omega) c1
    (fun pre W => Below w.heap.size w W ∧ (W.cell? ⟨w.heap.size, 0, none⟩ = some (.bool false) ∧ W.frozen? ⟨w.heap.size, 0, none⟩ = false ∧ W.cell? ⟨w.heap.size + 1 + 1, 0, none⟩ = some (.string ⟨#[46]⟩) ∧ W.cell? ⟨w.heap.size + 1 + 2, 0, none⟩ = some (.int .i64 0) ∧ (∃ t, W.cell? ⟨w.heap.size + 1, 0, none⟩ = some t) ∧ W.frozen? ⟨w.heap.size + 1, 0, none⟩ = false ∧ pre.all labelOk = true))
    (fun pre W => Below w.heap.size w W ∧ (W.cell? ⟨w.heap.size, 0, none⟩ = some (.bool false) ∧ W.frozen? ⟨w.heap.size, 0, none⟩ = false ∧ pre.all labelOk = false))
    (OwnFrom.and (ownFrom_below (Nat.le_refl _) (by omega)) (Own.from (fun p A B row hs hg hr => ⟨cell_kept hs.1 hg hr, (frozen_kept hs.1 hg hr).trans hs.2.1, cell_kept hs.2.2.1 hg hr, cell_kept hs.2.2.2.1 hg hr, hs.2.2.2.2.1.elim fun t h => ⟨t, cell_kept h hg hr⟩, hs.2.2.2.2.1.elim fun t h => (frozen_kept h hg hr).trans hs.2.2.2.2.2.1, hs.2.2.2.2.2.2⟩) _))
    (OwnFrom.and (ownFrom_below (Nat.le_refl _) (by omega)) (Own.from (fun p A B row hs hg hr => ⟨cell_kept hs.1 hg hr, (frozen_kept hs.1 hg hr).trans hs.2.1, hs.2.2⟩) _))
    ⟨hB, c0, f0, c2, c3, ⟨_, c1⟩, f1, rfl⟩
    ?hset (fun pre W h => ⟨h.2.2.2.1, h.2.2.2.2.1, h.2.2.2.2.2.2.1⟩)
    ?act ?assign ?body ?done ?stop
  case assign =>
    intro l x W K hK
    gi_wp2
    exact hK
  case hset =>
    rintro pre W v ⟨h1, h2, h3, h4, h5, ⟨t, h6⟩, h7, h8⟩
    exact ⟨h1.setCell (p := ⟨w.heap.size + 1, 0, none⟩) (by simp) _, by rw [World.cell?_setCell_other _ _ _ _ (by simp)]; exact h2, by rw [World.frozen?_setCell]; exact h3, by rw [World.cell?_setCell_other _ _ _ _ (by simp)]; exact h4, by rw [World.cell?_setCell_other _ _ _ _ (by simp)]; exact h5, ⟨v, World.cell?_setCell_same' _ _ _ (by rw [h6]; rfl)⟩, by rw [World.frozen?_setCell]; exact h7, h8⟩
  case done =>
    rintro D W hD ⟨h1, h2, h3, h4, h5, h6, h7, h8⟩ hK
    gi_wp2
    have hK2 := (KeepsOthers.setCell W ⟨w.heap.size, 0, none⟩ (.bool true)).same D _ hK rfl
    refine ⟨by simp, .inl ⟨_, _, rfl, run_takeDeferred hK2, ?_⟩⟩
    have hc : (W.setCell ⟨w.heap.size, 0, none⟩ (.bool true)).cell? ⟨w.heap.size, 0, none⟩ = some (.bool true) := World.cell?_setCell_same' _ _ _ (by rw [h2]; rfl)
    have hc2 := (putObj_cell (o := .deferred none) (show w.heap.size ≠ D by omega)).trans hc
    refine ⟨_, (by simp [results, Tryz.results61, go_sem, hc2]; try rfl), ?_, (h1.setCell (p := ⟨w.heap.size, 0, none⟩) (Nat.le_refl _) _).trans (belowK_b (w := w) (Nat.le_refl _) _ D _ _ (by omega) hK2 rfl rfl)⟩
    rw [hostOk_labels, h8]
    simp [hl]
  case stop =>
    rintro D pre W hD hpre ⟨h1, h2, h3, h8⟩ hK
    gi_wp2
    refine ⟨by simp, .inl ⟨_, _, rfl, run_takeDeferred hK, ?_⟩⟩
    have hc2 := (putObj_cell (o := .deferred none) (show w.heap.size ≠ D by omega)).trans h2
    have hall : (cutL 46 s.data.toList).all labelOk = false := by
      obtain ⟨t, ht⟩ := hpre
      rw [← ht, List.all_append, h8]; rfl
    refine ⟨_, (by simp [results, Tryz.results61, go_sem, hc2]; try rfl), ?_, h1.trans (belowK_b (w := w) (Nat.le_refl _) _ D _ _ (by omega) hK rfl rfl)⟩
    rw [hostOk_labels, hall, Bool.and_false]
  case body =>
    rintro l pre x W ⟨h1, h2, h3, h4, h5, h6, h7, h8⟩ hx
    have hall : (pre ++ [x.data.toList]).all labelOk = labelOk x.data.toList := by rw [List.all_append, h8]; simp
    by_cases he : x.toList.isEmpty = true
    · have hbad : labelOk x.data.toList = false := by rw [Lib.toList_data] at he; unfold labelOk; rw [he]; rfl
      gi_wp2
      refine ⟨trivial, ?_⟩
      gi_wp2
      exact ⟨KeepsOthers.setCell _ _ _, h1.setCell (p := ⟨w.heap.size, 0, none⟩) (Nat.le_refl _) _, World.cell?_setCell_same' _ _ _ (by rw [h2]; rfl), by rw [World.frozen?_setCell]; exact h3, by rw [hall, hbad]⟩
    · have he' : x.toList.isEmpty = false := by simpa using he
      have h0 : 0 < x.size := by
        rw [Lib.toList_data] at he'
        rw [sz_len]
        cases hq : x.data.toList with
        | nil => rw [hq] at he'; cases he'
        | cons a r => simp
      clear he
      by_cases hh : x[0]'h0 = 45
      · have hbad : labelOk x.data.toList = false := by
          have : x.data.toList.head? = some 45 := by
            rw [List.head?_eq_getElem?, List.getElem?_eq_getElem (by rw [← sz_len]; exact h0), at_list x 0 h0 (by rw [← sz_len]; exact h0), hh]
          unfold labelOk; rw [this]; simp
        have hq := u8eq (x[0]'h0) 45 45 rfl
        rw [show (x[0]'h0 == 45) = true by rw [hh]; rfl] at hq
        clear hh
        gi_wp2
        refine ⟨trivial, ?_⟩
        gi_wp2
        exact ⟨KeepsOthers.setCell _ _ _, h1.setCell (p := ⟨w.heap.size, 0, none⟩) (Nat.le_refl _) _, World.cell?_setCell_same' _ _ _ (by rw [h2]; rfl), by rw [World.frozen?_setCell]; exact h3, by rw [hall, hbad]⟩
      · have hq := u8eq (x[0]'h0) 45 45 rfl
        rw [show (x[0]'h0 == 45) = false by simpa using hh] at hq
        have hm : x.size - 1 < x.size := by omega
        have hix : ((x.size : Int) - 1) = ((x.size - 1 : Nat) : Int) := by omega
        have hix2 : ((x.size : Int) - 1).toNat = x.size - 1 := by omega
        have hix3 : 0 ≤ (x.size : Int) - 1 := by omega
        by_cases hz : x[x.size - 1]'hm = 45
        · have hbad : labelOk x.data.toList = false := by
            have : x.data.toList.getLast? = some 45 := by
              rw [List.getLast?_eq_getElem?, ← sz_len, List.getElem?_eq_getElem (by rw [← sz_len]; exact hm), at_list x (x.size - 1) hm (by rw [← sz_len]; exact hm), hz]
            unfold labelOk; rw [this]; simp
          have hq2 := u8eq (x[x.size - 1]'hm) 45 45 rfl
          rw [show (x[x.size - 1]'hm == 45) = true by rw [hz]; rfl] at hq2
          clear hh hz
          gi_wp2
          refine ⟨trivial, ?_⟩
          gi_wp2
          exact ⟨KeepsOthers.setCell _ _ _, h1.setCell (p := ⟨w.heap.size, 0, none⟩) (Nat.le_refl _) _, World.cell?_setCell_same' _ _ _ (by rw [h2]; rfl), by rw [World.frozen?_setCell]; exact h3, by rw [hall, hbad]⟩
        · have hq2 := u8eq (x[x.size - 1]'hm) 45 45 rfl
          rw [show (x[x.size - 1]'hm == 45) = false by simpa using hz] at hq2
          have hn := trimS_all x.data.toList hostCut hostByte hostCut_is
          have hsz2 : x.size ≤ 60 := by omega
          have htr := fun w' => stringsTrim x ⟨hostCut.toArray⟩ w' (by omega) (by decide) hostCut_ascii
          obtain ⟨T, hTd⟩ : ∃ T : ByteArray, T = ⟨(Lib.trimS x.data.toList hostCut).toArray⟩ := ⟨_, rfl⟩
          rw [show (⟨hostCut.toArray⟩ : ByteArray).data.toList = hostCut by rw [mk_toList], ← hTd] at htr
          cases hA : x.data.toList.all hostByte
          · have hT : T.toList.isEmpty = false := by
              rw [hTd, Lib.toList_data, mk_toList]
              cases hq3 : Lib.trimS x.data.toList hostCut with
              | nil => rw [hn.1 hq3] at hA; cases hA
              | cons a r => rfl
            have hbad : labelOk x.data.toList = false := by unfold labelOk; rw [hA, Bool.and_false]
            clear hh hz hn hA hTd
            have hbw : w.heap.size < W.heap.size := World.block_lt_of_cell? W _ h2
            have hk0 := fun w3 (hB3 : Below W.heap.size W w3) => (hB3.cell (p := ⟨w.heap.size, 0, none⟩) hbw).trans h2
            have hk1 := fun w3 (hB3 : Below W.heap.size W w3) => (hB3.frozen (p := ⟨w.heap.size, 0, none⟩) hbw).trans h3
            gi_wp2_with (refine ⟨trivial, ?_⟩; gi_at_call 37; refine (CallsIn.inRound l (callsIn_wide.2 (htr _))).mono ?_; rintro e w3 ⟨rfl, hB3⟩; have h2' := hk0 w3 hB3; have h3' := hk1 w3 hB3)
            exact ⟨(keeps_below hB3).trans (KeepsOthers.setCell _ _ _), (h1.then (Nat.le_refl _) hB3).setCell (p := ⟨w.heap.size, 0, none⟩) (Nat.le_refl _) _, World.cell?_setCell_same' _ _ _ (by rw [h2']; rfl), by rw [World.frozen?_setCell]; exact h3', by rw [hall, hbad]⟩
          · have hT : T.toList.isEmpty = true := by
              rw [hTd, Lib.toList_data, mk_toList, hn.2 hA]; rfl
            have hgood : labelOk x.data.toList = true := by
              unfold labelOk
              have e1 : x.data.toList.isEmpty = false := by rw [← Lib.toList_data]; exact he'
              have e2 : x.data.toList.head? = some (x[0]'h0) := by rw [List.head?_eq_getElem?, List.getElem?_eq_getElem (by rw [← sz_len]; exact h0), at_list x 0 h0 (by rw [← sz_len]; exact h0)]
              have e3 : x.data.toList.getLast? = some (x[x.size - 1]'hm) := by rw [List.getLast?_eq_getElem?, ← sz_len, List.getElem?_eq_getElem (by rw [← sz_len]; exact hm), at_list x (x.size - 1) hm (by rw [← sz_len]; exact hm)]
              rw [e1, e2, e3, hA]
              simp [hh, hz]
            have hbw : w.heap.size < W.heap.size := World.block_lt_of_cell? W _ h2
            have hk : ∀ w3, Below W.heap.size W w3 → w3.cell? ⟨w.heap.size, 0, none⟩ = some (.bool false) ∧ w3.frozen? ⟨w.heap.size, 0, none⟩ = false ∧ w3.cell? ⟨w.heap.size + 1 + 1, 0, none⟩ = some (.string ⟨#[46]⟩) ∧ w3.cell? ⟨w.heap.size + 1 + 2, 0, none⟩ = some (.int .i64 0) ∧ w3.cell? ⟨w.heap.size + 1, 0, none⟩ = W.cell? ⟨w.heap.size + 1, 0, none⟩ ∧ w3.frozen? ⟨w.heap.size + 1, 0, none⟩ = false := fun w3 hB3 => by
              have b4 := World.block_lt_of_cell? W _ h4
              have b5 := World.block_lt_of_cell? W _ h5
              exact ⟨(hB3.cell (p := ⟨w.heap.size, 0, none⟩) hbw).trans h2, (hB3.frozen (p := ⟨w.heap.size, 0, none⟩) hbw).trans h3, (hB3.cell (p := ⟨w.heap.size + 1 + 1, 0, none⟩) b4).trans h4, (hB3.cell (p := ⟨w.heap.size + 1 + 2, 0, none⟩) b5).trans h5,
                hB3.cell (p := ⟨w.heap.size + 1, 0, none⟩) (Nat.lt_trans (Nat.lt_succ_self _) b4), (hB3.frozen (p := ⟨w.heap.size + 1, 0, none⟩) (Nat.lt_trans (Nat.lt_succ_self _) b4)).trans h7⟩
            clear hh hz hn hA hTd
            gi_wp2_with (refine ⟨trivial, ?_⟩; gi_at_call 37; refine (CallsIn.inRound l (callsIn_wide.2 (htr _))).mono ?_; rintro e w3 ⟨rfl, hB3⟩; have hk3 := hk w3 hB3)
            obtain ⟨g2, g3, g4, g5, g6, g7⟩ := hk3
            exact ⟨keeps_below hB3, g6, h1.then (Nat.le_refl _) hB3, g2, g3, g4, g5, by rw [g6]; exact h6, g7, by rw [hall, hgood]⟩
end Go.Proofs.YthmkilglidfdiaaGreatDoor
