/- sum.MD5. -/
import Derived.Test.YtdlhihfjigcimaaDoorSumA
import Derived.Deep.QuietTactic
import Derived.BigQuiet
import Derived.BigRegion
import Derived.Lib.IndexBytes
namespace Go.Proofs.YtdlhihfjigcimaaDoor
open Go.RowKit
def four (v : W4) : List Nat := [v.a, v.b, v.c, v.d]
def md5H (l : List UInt8) : W4 := md5At sinesL (padL true l) ((padL true l).length / 64)
def row4 (v : W4) : Array Value := #[.int .u32 (v.a : Nat), .int .u32 (v.b : Nat), .int .u32 (v.c : Nat), .int .u32 (v.d : Nat)]
theorem sinesL_all : sinesL.all (fun n => decide (n < 4294967296)) = true := by kernel_rfl
theorem sinesL_lt (i : Nat) : sinesL.getD i 0 < 4294967296 := getD_lt _ (fun x hx => by have := List.all_eq_true.1 sinesL_all x hx; simpa using this) i
theorem u32max : IntKind.u32.max = 4294967295 := by decide
theorem below_four {a w : World} {p : Nat} (h : Below p a w) (x0 x1 x2 x3 : Value) : Below p a ((((w.setCell ⟨p, 0, none⟩ x0).setCell ⟨p, 1, none⟩ x1).setCell ⟨p, 2, none⟩ x2).setCell ⟨p, 3, none⟩ x3) :=
  (((h.setCell (Nat.le_refl p) x0).setCell (Nat.le_refl p) x1).setCell (Nat.le_refl p) x2).setCell (Nat.le_refl p) x3
theorem numL_extract (T : ByteArray) (k : Nat) : numL true (T.extract k T.size).data.toList 0 = numL true T.data.toList k := by
  rw [Lib.extract_to_end T k]
  unfold numL
  simp [List.getD_eq_getElem?_getD, List.getElem?_drop]
/-- what a round of MD5 picks, as the walk spells it -/
theorem md5_quarter (j b c d F G : Nat) (hF : F = md5F j b c d) (hG : G = md5G j) (hj : j < 64) (hb : b < 4294967296) (hc : c < 4294967296) (hd : d < 4294967296) :
    (((j : Int) / 16 == 0) = true ∧ j = G ∧ bits .or .u32 (bits .and .u32 (b : Int) (c : Int)) (bits .and .u32 (bits .xor .u32 IntKind.u32.max (b : Int)) (d : Int)) = (F : Int)) ∨
    (((j : Int) / 16 == 0) = false ∧ ((j : Int) / 16 == 1) = true ∧ (5 * (j : Int) + 1) % 16 = (G : Int) ∧ bits .or .u32 (bits .and .u32 (d : Int) (b : Int)) (bits .and .u32 (bits .xor .u32 IntKind.u32.max (d : Int)) (c : Int)) = (F : Int)) ∨
    (((j : Int) / 16 == 0) = false ∧ ((j : Int) / 16 == 1) = false ∧ ((j : Int) / 16 == 2) = true ∧ (3 * (j : Int) + 5) % 16 = (G : Int) ∧ bits .xor .u32 (bits .xor .u32 (b : Int) (c : Int)) (d : Int) = (F : Int)) ∨
    (((j : Int) / 16 == 0) = false ∧ ((j : Int) / 16 == 1) = false ∧ ((j : Int) / 16 == 2) = false ∧ 7 * (j : Int) % 16 = (G : Int) ∧ bits .xor .u32 (c : Int) (bits .or .u32 (b : Int) (bits .xor .u32 IntKind.u32.max (d : Int))) = (F : Int)) := by
  rw [u32max]
  simp only [beq_iff_eq, beq_eq_false_iff_ne, ne_eq]
  unfold md5F at hF
  unfold md5G at hG
  by_cases h1 : j < 16
  · left
    rw [if_pos h1] at hF hG
    refine ⟨by omega, hG.symm, ?_⟩
    rw [u32_not b hb, u32_and b c hb hc, u32_and _ d (by omega) hd, u32_or _ _ (and32 _ _ hb) (and32 _ _ (by omega)), hF]
    rfl
  rw [if_neg h1] at hF hG
  by_cases h2 : j < 32
  · right; left
    rw [if_pos h2] at hF hG
    refine ⟨by omega, by omega, by omega, ?_⟩
    rw [u32_not d hd, u32_and d b hd hb, u32_and _ c (by omega) hc, u32_or _ _ (and32 _ _ hd) (and32 _ _ (by omega)), hF]
    rfl
  rw [if_neg h2] at hF hG
  by_cases h3 : j < 48
  · right; right; left
    rw [if_pos h3] at hF hG
    refine ⟨by omega, by omega, by omega, by omega, ?_⟩
    rw [u32_xor b c hb hc, u32_xor _ d (xor32 _ _ hb hc) hd, hF]
  · right; right; right
    rw [if_neg h3] at hF hG
    refine ⟨by omega, by omega, by omega, by omega, ?_⟩
    rw [u32_not d hd, u32_or b _ hb (by omega), u32_xor c _ hc (or32 _ _ hb (by omega)), hF]
    rfl
set_option maxRecDepth 100000 in
set_option maxHeartbeats 2000000 in
theorem sumMD5 (s : ByteArray) (hs : s.size ≤ 1000000) (w : World) (hT : MdT w) (R : W4 → ByteArray)
    (hpad : ∀ w, Calls Tryd.prog 172 #[.string s, .bool true] w fun e w' => e = .returned (.string ⟨(padL true s.data.toList).toArray⟩) ∧ Below w.heap.size w w')
    (htext : ∀ (v : W4) (B : Nat) (w : World), v.ok → Blk w B (row4 v) 215 → Calls Tryd.prog 175 #[.slice (some ⟨B, 0, none⟩) 4 4, .bool true] w fun e w' => e = .returned (.string (R v)) ∧ Below w.heap.size w w') :
    Calls Tryd.prog 138 #[.string s] w fun e w' => e = .returned (.string (R (md5H s.data.toList))) ∧ Below w.heap.size w w' := by
  go_enter Tryd.func138, Tryd.ntmps138
  go_wp2_with fail
  refine (hpad _).mono ?_
  rintro e w1 ⟨rfl, hB1⟩
  clear hpad
  obtain ⟨P, hP⟩ : ∃ P : ByteArray, P = ⟨(padL true s.data.toList).toArray⟩ := ⟨_, rfl⟩
  have hPl : P.data.toList = padL true s.data.toList := by rw [hP]
  have hPs : P.size ≤ 1000072 := by rw [sz_len, hPl]; have := padL_le true s.data.toList; rw [← sz_len] at this; omega
  have hP64 : P.size % 64 = 0 := by rw [sz_len, hPl]; exact padL_length _ _
  rw [← hP]
  have hPl' := Lib.hid hPl
  clear hP hPl
  have hB1' : Below w.heap.size w w1 := (((Below.refl w.heap.size w).alloc (Nat.le_refl _) (.cells (row4 ⟨0x67452301, 0xefcdab89, 0x98badcfe, 0x10325476⟩) 215))).then (by simp) hB1
  have hK1 : Blk w1 w.heap.size (row4 ⟨0x67452301, 0xefcdab89, 0x98badcfe, 0x10325476⟩) 215 := (Blk.new w _ _).later hB1
  have hT' := Lib.hid hT
  clear hT hB1
  go_wp2
  go_loopg [4] (P.size / 64) (fun gk x wr => ∃ (k : Nat) (T : ByteArray) (v : W4), x = .string T ∧ Hid (gk = P.size / 64 - k) ∧ 64 * k + T.size = P.size ∧ Hid (T.data.toList = (padL true s.data.toList).drop (64 * k)) ∧ Hid (v = md5At sinesL (padL true s.data.toList) k) ∧ Blk wr w.heap.size (row4 v) 215 ∧ Below w.heap.size w wr)
  case atStart => exact ⟨0, P, _, rfl, Lib.hid rfl, by omega, Lib.hid (by rw [hPl'.out]; simp), Lib.hid rfl, hK1, hB1'⟩
  case round =>
    obtain ⟨k, T, v, rfl, hg, hk, hT0, hv, hK, hB⟩ := hrel
    clear hK1 hB1'
    by_cases h0 : T.size = 0
    · have hTe : T.toList.isEmpty = true := by rw [Lib.toList_data, List.isEmpty_iff]; exact List.length_eq_zero_iff.1 (by rw [← sz_len]; exact h0)
      have hok : v.ok := by rw [hv.out]; exact md5At_ok _ _ _
      have ht := htext v w.heap.size wr hok hK
      have hfin := Lib.hid (show v = md5H s.data.toList by rw [hv.out]; unfold md5H; congr 1; rw [← hPl'.out, ← sz_len]; omega)
      clear h0 hok
      go_wp2_with fail
      refine ht.mono ?_
      rintro e w2 ⟨rfl, hB2⟩
      go_wp2
      go_ret
      exact ⟨by rw [hfin.out]; rfl, hB.then (Nat.le_refl _) hB2⟩
    · have hTe : T.toList.isEmpty = false := by
        rw [Lib.toList_data]
        cases hq : T.data.toList with
        | nil => rw [sz_len, hq] at h0; simp at h0
        | cons a r => rfl
      have hT64 : 64 ≤ T.size := by omega
      have c0 := hK.cell 0 rfl
      have c1 := hK.cell 1 rfl
      have c2 := hK.cell 2 rfl
      have c3 := hK.cell 3 rfl
      go_wp2
      go_quiet (fail)
      go_wp2
      obtain ⟨a0, ha0⟩ : ∃ a0 : World, a0 = wr := ⟨_, rfl⟩
      have hok0 := Lib.hid (show v.ok by rw [hv.out]; exact md5At_ok _ _ _)
      have hBq := Lib.hid (below_drewN (Below.refl wr.heap.size wr) 12)
      obtain ⟨wo, rfl⟩ : ∃ wo : World, wo = wr := ⟨_, rfl⟩
      clear c0 c1 c2 c3 h0 ha0
      go_loopw [5, 6, 7, 8, 27] (fun a b c d i wr => ∃ (j : Nat) (x : W4), j ≤ 64 ∧ i = .int .i64 j ∧ a = .int .u32 (x.a : Nat) ∧ b = .int .u32 (x.b : Nat) ∧ c = .int .u32 (x.c : Nat) ∧ d = .int .u32 (x.d : Nat) ∧ Hid (x = md5Go sinesL T.data.toList v j) ∧ Hid (Below wo.heap.size wo wr)) (fun _ _ _ _ i _ => 64 - (intOf i).toNat)
      case atStart => exact ⟨0, v, Nat.zero_le _, rfl, rfl, rfl, rfl, rfl, Lib.hid rfl, Lib.hid (below_drewN (Below.refl _ _) _)⟩
      case round =>
        obtain ⟨j, x, hj, rfl, rfl, rfl, rfl, rfl, hx, hBx⟩ := hrel
        by_cases hlt : j < 64
        · obtain ⟨xa, xb, xc, xd⟩ := x
          have hxo : (⟨xa, xb, xc, xd⟩ : W4).ok := by rw [hx.out]; exact md5Go_ok _ _ _ hok0.out _
          obtain ⟨ha, hb, hc, hd⟩ := hxo
          simp only [] at ha hb hc hd ⊢
          have hF := md5F_lt j xb xc xd hb hc hd
          have hG := md5G_lt j
          have hQ := md5_quarter j xb xc xd _ _ rfl rfl hlt hb hc hd
          have hFh := Lib.hid (rfl : md5F j xb xc xd = md5F j xb xc xd)
          obtain ⟨F, hFe⟩ : ∃ F, F = md5F j xb xc xd := ⟨_, rfl⟩
          obtain ⟨G, hGe⟩ : ∃ G, G = md5G j := ⟨_, rfl⟩
          rw [← hFe] at hF hQ
          rw [← hGe] at hG hQ
          have hFe' := Lib.hid hFe
          have hGe' := Lib.hid hGe
          clear hFe hGe hFh
          have hT1 := (hT'.out.later (hB.then (Nat.le_refl _) hBx.out))
          have hsin := hT1.sines j hlt
          have hS := sinesL_lt j
          obtain ⟨S, hSe⟩ : ∃ S, S = sinesL.getD j 0 := ⟨_, rfl⟩
          rw [← hSe] at hsin hS
          have hSe' := Lib.hid hSe
          clear hSe
          have hN := numL_lt true (T.extract (4 * G) T.size).data.toList 0
          obtain ⟨N, hNe⟩ : ∃ N, N = numL true (T.extract (4 * G) T.size).data.toList 0 := ⟨_, rfl⟩
          have hword := fun w' => sumWordQL (T.extract (4 * G) T.size) (by rw [ByteArray.size_extract]; omega) w'
          rw [← hNe] at hN hword
          have hNe' := Lib.hid hNe
          clear hNe
          have g1 : IntKind.i64.wrap (4 * (G : Int)) = 4 * (G : Int) := IntWalk.i64_in _ (by omega)
          have g2 : (0 : Int) ≤ 4 * (G : Int) := by omega
          have g3 : (4 * (G : Int)).toNat = 4 * G := by omega
          have g4 : 4 * (G : Int) ≤ (T.size : Int) := by omega
          have hm16 : j / 16 * 4 + j % 4 < 16 := by omega
          have hturn := hT1.turns _ hm16
          have hrt := md5T_le j hlt
          obtain ⟨rt, hrte⟩ : ∃ rt, rt = md5T j := ⟨_, rfl⟩
          rw [show turnsL.getD (j / 16 * 4 + j % 4) 0 = md5T j from rfl, ← hrte] at hturn
          rw [← hrte] at hrt
          obtain ⟨Z, hZe⟩ : ∃ Z, Z = (F + xa + S + N) % 4294967296 := ⟨_, rfl⟩
          have hZ : ((F : Int) + ((xa : Int) + (S : Int) + (N : Int)) % 4294967296) % 4294967296 = (Z : Int) := by omega
          have hZ2 := Lib.hid (show ((F : Int) + ((xa : Int) + (S : Int) + (N : Int))) % 4294967296 = (Z : Int) by omega)
          have hZl : Z < 4294967296 := by omega
          have hZ' := Lib.hid hZ
          have hZe' := Lib.hid hZe
          have hrot := fun w' => rotLeft Z rt hZl (by omega) w'
          have hY := rolN_lt Z rt hZl (by omega)
          obtain ⟨Y, hYe⟩ : ∃ Y, Y = rolN Z rt := ⟨_, rfl⟩
          rw [← hYe] at hrot hY
          have hYe' := Lib.hid hYe
          have hrte' := Lib.hid hrte
          have hx' := Lib.hid (show (⟨xd, (xb + Y) % 4294967296, xb, xc⟩ : W4) = md5Go sinesL T.data.toList v (j + 1) by
            show _ = md5Step sinesL T.data.toList j (md5Go sinesL T.data.toList v j)
            rw [← hx.out]
            unfold md5Step
            simp only []
            rw [hYe, hZe, hFe'.out, hSe'.out, hNe'.out, hGe'.out, hrte, numL_extract T (4 * md5G j)])
          clear hZ hZe hYe hrte
          rcases hQ with ⟨e0, eG, eF⟩ | ⟨e0, e1, eG, eF⟩ | ⟨e0, e1, e2, eG, eF⟩ | ⟨e0, e1, e2, eG, eF⟩
          · obtain rfl := eG
            go_wp2
            go_quiet ((go_at_call 173; exact Calls.quiet_of (hword _)))
            go_wp2_with fail
            (try rw [hZ'.out])
            rw [hZ2.out]
            ((with_reducible refine (hrot _).mono ?_))
            rintro e w2 ⟨rfl, rfl⟩
            go_wp2
            go_roundw
            case rel => exact ⟨j + 1, ⟨xd, (xb + Y) % 4294967296, xb, xc⟩, by omega, by go_num, rfl, by go_num, rfl, rfl, hx', Lib.hid (below_drewN hBx.out _)⟩
            case measure => simp [intOf]; omega
          all_goals
            go_wp2
            (try rw [eG])
            go_quiet ((go_at_call 173; exact Calls.quiet_of (hword _)))
            go_wp2_with fail
            (try rw [hZ'.out])
            rw [hZ2.out]
            ((with_reducible refine (hrot _).mono ?_))
            rintro e w2 ⟨rfl, rfl⟩
            go_wp2
            go_roundw
            case rel => exact ⟨j + 1, ⟨xd, (xb + Y) % 4294967296, xb, xc⟩, by omega, by go_num, rfl, by go_num, rfl, rfl, hx', Lib.hid (below_drewN hBx.out _)⟩
            case measure => simp [intOf]; omega
        · obtain rfl : j = 64 := by omega
          have hmeas := Lib.hid (show P.size / 64 - (k + 1) < gk by have h1 := hg.out; clear hx hBx; omega)
          have hBw := hB.then (Nat.le_refl _) hBx.out
          have hKw := hK.later hBx.out
          obtain ⟨xa, xb, xc, xd⟩ := x
          have hxo : (⟨xa, xb, xc, xd⟩ : W4).ok := by rw [hx.out]; exact md5Go_ok _ _ _ hok0.out _
          obtain ⟨ha, hb, hc, hd⟩ := hxo
          simp only [] at ha hb hc hd ⊢
          have hvo := hok0.out
          obtain ⟨va, vb, vc, vd⟩ := v
          obtain ⟨ja, jb, jc, jd⟩ := hvo
          simp only [] at ja jb jc jd
          have c0 : wr.cell? ⟨w.heap.size, 0, none⟩ = some (.int .u32 (va : Nat)) := hKw.cell 0 rfl
          have c1 : wr.cell? ⟨w.heap.size, 1, none⟩ = some (.int .u32 (vb : Nat)) := hKw.cell 1 rfl
          have c2 : wr.cell? ⟨w.heap.size, 2, none⟩ = some (.int .u32 (vc : Nat)) := hKw.cell 2 rfl
          have c3 : wr.cell? ⟨w.heap.size, 3, none⟩ = some (.int .u32 (vd : Nat)) := hKw.cell 3 rfl
          have f0 := hKw.free 0
          have f1 := hKw.free 1
          have f2 := hKw.free 2
          have f3 := hKw.free 3
          go_wp2
          go_roundg (P.size / 64 - (k + 1))
          case rel =>
            refine ⟨k + 1, T.extract 64 T.size, (⟨va, vb, vc, vd⟩ : W4).plus ⟨xa, xb, xc, xd⟩, rfl, Lib.hid rfl, by rw [ByteArray.size_extract]; omega, Lib.hid ?_, Lib.hid ?_, ?_, ?_⟩
            · rw [Lib.extract_to_end, hT0.out, List.drop_drop, show 64 * k + 64 = 64 * (k + 1) by omega]
            · show _ = (md5At sinesL _ k).plus (md5Go sinesL _ (md5At sinesL _ k) 64)
              rw [← hv.out, ← hT0.out, ← hx.out]
            · rw [show ((va : Int) + (xa : Int)) % 4294967296 = (((va + xa) % 4294967296 : Nat) : Int) by omega, show ((vb : Int) + (xb : Int)) % 4294967296 = (((vb + xb) % 4294967296 : Nat) : Int) by omega,
                show ((vc : Int) + (xc : Int)) % 4294967296 = (((vc + xc) % 4294967296 : Nat) : Int) by omega, show ((vd : Int) + (xd : Int)) % 4294967296 = (((vd + xd) % 4294967296 : Nat) : Int) by omega]
              exact (((hKw.set 0 _).set 1 _).set 2 _).set 3 _
            · exact below_four hBw _ _ _ _
          case measure => exact hmeas.out
end Go.Proofs.YtdlhihfjigcimaaDoor
