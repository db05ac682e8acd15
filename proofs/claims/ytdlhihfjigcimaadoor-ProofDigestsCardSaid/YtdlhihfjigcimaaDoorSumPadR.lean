/- The reference's pad: a text and what is behind it, as a row of bytes. -/
import Derived.Test.YtdlhihfjigcimaaDoorSumA
namespace Go.Proofs.YtdlhihfjigcimaaDoor
open Go.RowKit

/-- the reference's eight bytes after k rounds -/
def vRL (n k i : Nat) : Value := .int .u8 (if i < k then (eB n i : Nat) else (0 : Int))
def vRB (n k i : Nat) : Value := .int .u8 (if 7 < k + i then (eB n (7 - i) : Nat) else (0 : Int))
def rowRB (n k : Nat) : Array Value := #[vRB n k 0, vRB n k 1, vRB n k 2, vRB n k 3, vRB n k 4, vRB n k 5, vRB n k 6, vRB n k 7]
theorem rowRB_at (n k i : Nat) (hi : i < 8) : (rowRB n k)[i]? = some (vRB n k i) := by
  match i, hi with
  | 0, _ => rfl
  | 1, _ => rfl
  | 2, _ => rfl
  | 3, _ => rfl
  | 4, _ => rfl
  | 5, _ => rfl
  | 6, _ => rfl
  | 7, _ => rfl
theorem rowRB_set (n k : Nat) (hk : k < 8) : (rowRB n k).setIfInBounds (7 - k) (.int .u8 (eB n k : Nat)) = rowRB n (k + 1) := by
  match k, hk with
  | 0, _ => simp [rowRB, vRB]
  | 1, _ => simp [rowRB, vRB]
  | 2, _ => simp [rowRB, vRB]
  | 3, _ => simp [rowRB, vRB]
  | 4, _ => simp [rowRB, vRB]
  | 5, _ => simp [rowRB, vRB]
  | 6, _ => simp [rowRB, vRB]
  | 7, _ => simp [rowRB, vRB]
theorem pow_step (N k : Nat) : N / 2 ^ (8 * k) / 256 = N / 2 ^ (8 * (k + 1)) := by
  rw [Nat.div_div_eq_div_mul, show 8 * (k + 1) = 8 * k + 8 by omega, Nat.pow_add]
theorem row_at_cells {l : List UInt8} {cs : Array Value} (h : ∀ j (hj : j < l.length), cs[j]? = some (bv l[j])) {w : World} {p : Nat} {T : TypeId} (hK : Blk w p cs T) : ∀ j u, (l.map bv)[j]? = some u → w.cell? ((⟨p, 0, none⟩ : Addr).add j) = some u := by
  intro j u hu
  have hj : j < l.length := by
    have := (List.getElem?_eq_some_iff.1 hu).1
    simpa using this
  have e : (⟨p, 0, none⟩ : Addr).add j = ⟨p, j, none⟩ := by unfold Addr.add; split <;> simp_all
  rw [List.getElem?_map, List.getElem?_eq_getElem hj] at hu
  rw [e, hK.cell j (h j hj)]
  simpa using hu
/-- the last step of pad -/
def PadPost (little : Bool) (w : World) (l : List UInt8) (e : Ending) (w' : World) : Prop := ∃ v, e = .returned v ∧ OwnM w' w.heap.size v (padL little l) ∧ Below w.heap.size w w'
set_option maxRecDepth 100000 in
set_option maxHeartbeats 1000000 in
theorem refPadL (s : ByteArray) (hs : s.size ≤ 1000000) (w : World) :
    Calls Tryd.prog 166 #[.string s, .bool true] w (PadPost true w s.data.toList) := by
  obtain ⟨c, hc⟩ : ∃ c, c = grownCap w s.size 0 5 := ⟨_, rfl⟩
  have hcv := run_bytes_of_string (P := Tryd.prog) w 9 99 5 s Tryd.underlying9 Tryd.underlying99 Tryd.underlying5
  rw [← hc] at hcv
  have hmade := OwnM.made w w.heap.size c s (Nat.le_refl _) (by rw [hc]; exact grownCap_ge _ _ _ _) (by rw [hc]; exact grownCap_le_maxLen _ _ _ _ (by unfold maxLen; omega))
  obtain ⟨R, hR⟩ : ∃ R, R = Obj.cells (bytesRow s c) 5 ((bytesRow s c).size, (bytesRow s c).size + 1) := ⟨_, rfl⟩
  rw [← hR] at hcv hmade
  have hO0 : OwnM ((w.alloc R).alloc (.cells #[.int .u8 128] 5)).drew w.heap.size (.slice (some ⟨w.heap.size, 0, none⟩) s.size c) s.data.toList := hmade.alloc (.cells #[.int .u8 128] 5)
  have hN0 : ∀ j u, (([128] : List UInt8).map bv)[j]? = some u → ((w.alloc R).alloc (.cells #[.int .u8 128] 5)).drew.cell? ((⟨w.heap.size + 1, 0, none⟩ : Addr).add j) = some u := by
    have h1 := cell_one_new (w.alloc R) (.int .u8 128) 5
    rw [World.size_alloc] at h1
    exact h1
  have hO0' := Lib.hid hO0
  have hN0' := Lib.hid hN0
  have hB0 : Below w.heap.size w ((w.alloc R).alloc (.cells #[.int .u8 128] 5)).drew := (((Below.refl _ _).alloc (Nat.le_refl _) _).alloc (by simp) _).drew
  have hB0' := Lib.hid hB0
  have hsl := sz_len s
  have hsl' := Lib.hid hsl
  clear hmade hc hsl hO0 hN0 hB0 hR
  go_enter Tryd.func166, Tryd.ntmps166
  go_wp2_with (at_builtin; go_loud (refine wpList_append_M rfl (.tmp 11) (.tmp 12) rfl _ w.heap.size _ _ rfl hO0'.out ⟨w.heap.size + 1, 0, none⟩ 1 [128] 1 rfl rfl hN0'.out ?_ ?_ ?_); rw [← hsl'.out]; simp; omega; simp; omega; intro v1 w1 hO1 hg1)
  have hB1 : Below w.heap.size w w1 := hB0'.out.grown hg1 (by simp; omega) (fun k hk => by cases hk; exact Nat.le_refl _)
  clear hO0' hN0' hB0' hg1 hcv
  have hz63 : zerosN s.size ≤ 63 := by unfold zerosN; omega
  have hL1 : (s.data.toList ++ [128]).length = s.size + 1 := by rw [List.length_append, ← sz_len]; rfl
  go_loopg [5] (zerosN s.size) (fun g v wr => ∃ (j : Nat) (L : List UInt8), j ≤ zerosN s.size ∧ Hid (g = zerosN s.size - j) ∧ Hid (L = s.data.toList ++ [128] ++ List.replicate j 0) ∧ Hid (L.length = s.size + 1 + j) ∧ Hid (OwnM wr w.heap.size v L) ∧ Below w.heap.size w wr)
  case atStart => exact ⟨0, _, Nat.zero_le _, Lib.hid rfl, Lib.hid (by simp), Lib.hid hL1, Lib.hid hO1, hB1⟩
  case round =>
    obtain ⟨j, L, hj, hg, hL, hLl, hO, hB⟩ := hrel
    obtain ⟨g0, cap, rfl, hg0, hLc, hbg, hcells⟩ := hO.out.shape
    have hls := hLl.out
    have hsz := hB.size
    clear hcells hO1 hB1 hL1
    by_cases hlt : j < zerosN s.size
    · have ht : (((L.length : Int) % 64) != 56) = true := by
        rw [bne_iff_ne]; unfold zerosN at hlt; omega
      have ht' : ((L.length : Int) % 64 == 56) = false := by
        rw [beq_eq_false_iff_ne]; unfold zerosN at hlt; omega
      have hL64 : L.length ≤ 1000200 := by omega
      have hLn := Lib.hid (show L ++ [0] = s.data.toList ++ [128] ++ List.replicate (j + 1) 0 by rw [hL.out, List.replicate_succ', List.append_assoc _ (List.replicate j 0)])
      have hls' := Lib.hid hls
      clear hls
      go_wp2_with (at_builtin; refine wpList_append_byteM rfl (.tmp 18) (.tmp 19) rfl _ _ w.heap.size rfl _ _ rfl hO.out 0 _ rfl rfl ?_ hsz ?_; omega; intro v2 w2 hO2 hg2)
      have hB2 := below_appendM hB hO.out hg2 hsz
      go_wp2
      go_roundg (zerosN s.size - (j + 1))
      case rel => exact ⟨j + 1, _, by omega, Lib.hid rfl, Lib.hid hLn.out, Lib.hid (by rw [List.length_append, hls'.out]; simp; omega), Lib.hid hO2, hB2⟩
      case measure => have := hg.out; omega
    · obtain rfl : j = zerosN s.size := by omega
      have ht : (((L.length : Int) % 64) != 56) = false := by
        rw [bne_eq_false_iff_eq]; unfold zerosN at hls; omega
      have ht' : ((L.length : Int) % 64 == 56) = true := by
        rw [beq_iff_eq]; unfold zerosN at hls; omega
      have hL64 : L.length ≤ 1000200 := by omega
      have hmk := make8
      have hls' := Lib.hid hls
      clear hls
      go_wp2
      have hK0 : Blk (wr.alloc (.cells (rowK (8 * s.size) 0) 5)) wr.heap.size (rowK (8 * s.size) 0) 5 := Blk.new _ _ _
      have hO' := Lib.hid (hO.out.alloc (.cells (rowK (8 * s.size) 0) 5))
      have hBa : Below w.heap.size w (wr.alloc (.cells (rowK (8 * s.size) 0) 5)) := hB.alloc hsz _
      obtain ⟨wo, rfl⟩ : ∃ wo : World, wo = wr := ⟨_, rfl⟩
      go_loopw [6, 25] (fun n i wv => ∃ k m : Nat, k ≤ 8 ∧ i = .int .i64 k ∧ n = .int .i64 m ∧ m ≤ 8000000 ∧ Hid (m = 8 * s.size / 2 ^ (8 * k)) ∧ Blk wv wo.heap.size (rowK (8 * s.size) k) 5 ∧ Hid (OwnM wv w.heap.size (.slice (some ⟨g0, 0, none⟩) L.length cap) L) ∧ Below w.heap.size w wv) (fun _ i _ => 8 - (intOf i).toNat)
      case atStart => exact ⟨0, 8 * s.size, Nat.zero_le _, rfl, by go_num, by omega, Lib.hid (by simp), hK0, hO', hBa⟩
      case round =>
        obtain ⟨k, m, hk, rfl, rfl, hm8, hm, hK, hOv, hBv⟩ := hrel
        clear hK0 hBa hmk hO'
        by_cases hlt : k < 8
        · have hc := hK.cell k (rowK_at _ _ _ (by omega))
          have hf := hK.free k
          unfold vK at hc
          have hst := Lib.hid (show ((m : Int) % 256) = ((eB (8 * s.size) k : Nat) : Int) by rw [hm.out]; unfold eB; omega)
          have hmn := Lib.hid (show m / 256 = 8 * s.size / 2 ^ (8 * (k + 1)) by rw [hm.out, pow_step])
          go_wp2
          go_roundw
          case rel => exact ⟨k + 1, m / 256, by omega, by go_num, by go_num, by omega, hmn, by rw [hst.out, ← rowK_set _ _ hlt]; exact hK.set _ _, Lib.hid (hOv.out.kept (only_setCell (only_refl _ (some wo.heap.size)) (.inl rfl) _) (by simp [Value.ownBlock]; omega)), below_only hBv (only_setCell (only_refl _ _) (.inl rfl) _) hBv.size hsz⟩
          case measure => simp [intOf]; omega
        · obtain rfl : k = 8 := by omega
          have hnews := row_at_cells (l := eight true (8 * s.size)) (cs := rowK (8 * s.size) 8) (fun j hj => by
            have h8 : j < 8 := by rw [eight_length] at hj; exact hj
            rw [rowK_at _ _ _ h8]; unfold vK bv; rw [eight_at _ j hj]; simp [h8]; try omega) hK
          have hnews' := Lib.hid hnews
          have hfin := Lib.hid (show L ++ eight true (8 * s.size) = padL true s.data.toList by rw [hL.out]; unfold padL; rw [← sz_len])
          have hsv := hBv.size
          clear hnews
          go_wp2_with (at_builtin; refine wpList_append_M rfl (.tmp 41) (.tmp 42) rfl _ w.heap.size _ _ rfl hOv.out ⟨wo.heap.size, 0, none⟩ 8 (eight true (8 * s.size)) 8 (eight_length _ _).symm rfl hnews'.out ?_ hsv ?_; rw [eight_length]; omega; intro v3 w3 hO3 hg3)
          have hB3 : Below w.heap.size w w3 := hBv.grown hg3 hsv (fun k hk => by cases hk; exact hbg)
          rw [hfin.out] at hO3
          go_wp2
          go_ret
          exact ⟨_, rfl, hO3, hB3⟩
set_option maxRecDepth 100000 in
set_option maxHeartbeats 1000000 in
theorem refPadB (s : ByteArray) (hs : s.size ≤ 1000000) (w : World) :
    Calls Tryd.prog 166 #[.string s, .bool false] w (PadPost false w s.data.toList) := by
  obtain ⟨c, hc⟩ : ∃ c, c = grownCap w s.size 0 5 := ⟨_, rfl⟩
  have hcv := run_bytes_of_string (P := Tryd.prog) w 9 99 5 s Tryd.underlying9 Tryd.underlying99 Tryd.underlying5
  rw [← hc] at hcv
  have hmade := OwnM.made w w.heap.size c s (Nat.le_refl _) (by rw [hc]; exact grownCap_ge _ _ _ _) (by rw [hc]; exact grownCap_le_maxLen _ _ _ _ (by unfold maxLen; omega))
  obtain ⟨R, hR⟩ : ∃ R, R = Obj.cells (bytesRow s c) 5 ((bytesRow s c).size, (bytesRow s c).size + 1) := ⟨_, rfl⟩
  rw [← hR] at hcv hmade
  have hO0 : OwnM ((w.alloc R).alloc (.cells #[.int .u8 128] 5)).drew w.heap.size (.slice (some ⟨w.heap.size, 0, none⟩) s.size c) s.data.toList := hmade.alloc (.cells #[.int .u8 128] 5)
  have hN0 : ∀ j u, (([128] : List UInt8).map bv)[j]? = some u → ((w.alloc R).alloc (.cells #[.int .u8 128] 5)).drew.cell? ((⟨w.heap.size + 1, 0, none⟩ : Addr).add j) = some u := by
    have h1 := cell_one_new (w.alloc R) (.int .u8 128) 5
    rw [World.size_alloc] at h1
    exact h1
  have hO0' := Lib.hid hO0
  have hN0' := Lib.hid hN0
  have hB0 : Below w.heap.size w ((w.alloc R).alloc (.cells #[.int .u8 128] 5)).drew := (((Below.refl _ _).alloc (Nat.le_refl _) _).alloc (by simp) _).drew
  have hB0' := Lib.hid hB0
  have hsl := sz_len s
  have hsl' := Lib.hid hsl
  clear hmade hc hsl hO0 hN0 hB0 hR
  go_enter Tryd.func166, Tryd.ntmps166
  go_wp2_with (at_builtin; go_loud (refine wpList_append_M rfl (.tmp 11) (.tmp 12) rfl _ w.heap.size _ _ rfl hO0'.out ⟨w.heap.size + 1, 0, none⟩ 1 [128] 1 rfl rfl hN0'.out ?_ ?_ ?_); rw [← hsl'.out]; simp; omega; simp; omega; intro v1 w1 hO1 hg1)
  have hB1 : Below w.heap.size w w1 := hB0'.out.grown hg1 (by simp; omega) (fun k hk => by cases hk; exact Nat.le_refl _)
  clear hO0' hN0' hB0' hg1 hcv
  have hz63 : zerosN s.size ≤ 63 := by unfold zerosN; omega
  have hL1 : (s.data.toList ++ [128]).length = s.size + 1 := by rw [List.length_append, ← sz_len]; rfl
  go_loopg [5] (zerosN s.size) (fun g v wr => ∃ (j : Nat) (L : List UInt8), j ≤ zerosN s.size ∧ Hid (g = zerosN s.size - j) ∧ Hid (L = s.data.toList ++ [128] ++ List.replicate j 0) ∧ Hid (L.length = s.size + 1 + j) ∧ Hid (OwnM wr w.heap.size v L) ∧ Below w.heap.size w wr)
  case atStart => exact ⟨0, _, Nat.zero_le _, Lib.hid rfl, Lib.hid (by simp), Lib.hid hL1, Lib.hid hO1, hB1⟩
  case round =>
    obtain ⟨j, L, hj, hg, hL, hLl, hO, hB⟩ := hrel
    obtain ⟨g0, cap, rfl, hg0, hLc, hbg, hcells⟩ := hO.out.shape
    have hls := hLl.out
    have hsz := hB.size
    clear hcells hO1 hB1 hL1
    by_cases hlt : j < zerosN s.size
    · have ht : (((L.length : Int) % 64) != 56) = true := by
        rw [bne_iff_ne]; unfold zerosN at hlt; omega
      have ht' : ((L.length : Int) % 64 == 56) = false := by
        rw [beq_eq_false_iff_ne]; unfold zerosN at hlt; omega
      have hL64 : L.length ≤ 1000200 := by omega
      have hLn := Lib.hid (show L ++ [0] = s.data.toList ++ [128] ++ List.replicate (j + 1) 0 by rw [hL.out, List.replicate_succ', List.append_assoc _ (List.replicate j 0)])
      have hls' := Lib.hid hls
      clear hls
      go_wp2_with (at_builtin; refine wpList_append_byteM rfl (.tmp 18) (.tmp 19) rfl _ _ w.heap.size rfl _ _ rfl hO.out 0 _ rfl rfl ?_ hsz ?_; omega; intro v2 w2 hO2 hg2)
      have hB2 := below_appendM hB hO.out hg2 hsz
      go_wp2
      go_roundg (zerosN s.size - (j + 1))
      case rel => exact ⟨j + 1, _, by omega, Lib.hid rfl, Lib.hid hLn.out, Lib.hid (by rw [List.length_append, hls'.out]; simp; omega), Lib.hid hO2, hB2⟩
      case measure => have := hg.out; omega
    · obtain rfl : j = zerosN s.size := by omega
      have ht : (((L.length : Int) % 64) != 56) = false := by
        rw [bne_eq_false_iff_eq]; unfold zerosN at hls; omega
      have ht' : ((L.length : Int) % 64 == 56) = true := by
        rw [beq_iff_eq]; unfold zerosN at hls; omega
      have hL64 : L.length ≤ 1000200 := by omega
      have hmk := make8
      have hls' := Lib.hid hls
      clear hls
      go_wp2
      have hK0 : Blk (wr.alloc (.cells (rowRB (8 * s.size) 0) 5)) wr.heap.size (rowRB (8 * s.size) 0) 5 := Blk.new _ _ _
      have hO' := Lib.hid (hO.out.alloc (.cells (rowRB (8 * s.size) 0) 5))
      have hBa : Below w.heap.size w (wr.alloc (.cells (rowRB (8 * s.size) 0) 5)) := hB.alloc hsz _
      obtain ⟨wo, rfl⟩ : ∃ wo : World, wo = wr := ⟨_, rfl⟩
      go_loopw [6, 25] (fun n i wv => ∃ k m : Nat, k ≤ 8 ∧ i = .int .i64 k ∧ n = .int .i64 m ∧ m ≤ 8000000 ∧ Hid (m = 8 * s.size / 2 ^ (8 * k)) ∧ Blk wv wo.heap.size (rowRB (8 * s.size) k) 5 ∧ Hid (OwnM wv w.heap.size (.slice (some ⟨g0, 0, none⟩) L.length cap) L) ∧ Below w.heap.size w wv) (fun _ i _ => 8 - (intOf i).toNat)
      case atStart => exact ⟨0, 8 * s.size, Nat.zero_le _, rfl, by go_num, by omega, Lib.hid (by simp), hK0, hO', hBa⟩
      case round =>
        obtain ⟨k, m, hk, rfl, rfl, hm8, hm, hK, hOv, hBv⟩ := hrel
        clear hK0 hBa hmk hO'
        by_cases hlt : k < 8
        · have hc := hK.cell (7 - k) (rowRB_at _ _ _ (by omega))
          have hf := hK.free (7 - k)
          unfold vRB at hc
          have hst := Lib.hid (show ((m : Int) % 256) = ((eB (8 * s.size) k : Nat) : Int) by rw [hm.out]; unfold eB; omega)
          have hmn := Lib.hid (show m / 256 = 8 * s.size / 2 ^ (8 * (k + 1)) by rw [hm.out, pow_step])
          go_wp2
          go_roundw
          case rel => exact ⟨k + 1, m / 256, by omega, by go_num, by go_num, by omega, hmn, by rw [hst.out, ← rowRB_set _ _ hlt]; exact hK.set _ _, Lib.hid (hOv.out.kept (only_setCell (only_refl _ (some wo.heap.size)) (.inl rfl) _) (by simp [Value.ownBlock]; omega)), below_only hBv (only_setCell (only_refl _ _) (.inl rfl) _) hBv.size hsz⟩
          case measure => simp [intOf]; omega
        · obtain rfl : k = 8 := by omega
          have hnews := row_at_cells (l := eight false (8 * s.size)) (cs := rowRB (8 * s.size) 8) (fun j hj => by
            have h8 : j < 8 := by rw [eight_length] at hj; exact hj
            rw [rowRB_at _ _ _ h8]; unfold vRB bv; rw [eight_atB _ j hj]; simp; try omega) hK
          have hnews' := Lib.hid hnews
          have hfin := Lib.hid (show L ++ eight false (8 * s.size) = padL false s.data.toList by rw [hL.out]; unfold padL; rw [← sz_len])
          have hsv := hBv.size
          clear hnews
          go_wp2_with (at_builtin; refine wpList_append_M rfl (.tmp 41) (.tmp 42) rfl _ w.heap.size _ _ rfl hOv.out ⟨wo.heap.size, 0, none⟩ 8 (eight false (8 * s.size)) 8 (eight_length _ _).symm rfl hnews'.out ?_ hsv ?_; rw [eight_length]; omega; intro v3 w3 hO3 hg3)
          have hB3 : Below w.heap.size w w3 := hBv.grown hg3 hsv (fun k hk => by cases hk; exact hbg)
          rw [hfin.out] at hO3
          go_wp2
          go_ret
          exact ⟨_, rfl, hO3, hB3⟩
end Go.Proofs.YtdlhihfjigcimaaDoor
