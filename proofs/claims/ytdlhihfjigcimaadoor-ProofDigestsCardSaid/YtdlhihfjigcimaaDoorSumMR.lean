/- The reference's MD5. -/
import Derived.Test.YtdlhihfjigcimaaDoorSumM
import Derived.Test.YtdlhihfjigcimaaDoorSumPadR
import Derived.Test.YtdlhihfjigcimaaDoorSumA
import Derived.Test.YtdlhihfjigcimaaDoorCurs
namespace Go.Proofs.YtdlhihfjigcimaaDoor
open Go.RowKit
theorem forget {P : Program} {c : Code} {Q : Exit → Act → World → Prop} {a : Act} {B : Nat} {w W : World} (hb : Below B w W) (h : ∀ W', Below B w W' → Code.wp P c Q a W') : Code.wp P c Q a W := h W hb
/-- what a round of the reference's MD5 picks, as the walk spells it -/
theorem md5_quarterR (j b c d F G : Nat) (hF : F = md5F j b c d) (hG : G = md5G j) (hj : j < 64) (hb : b < 4294967296) (hc : c < 4294967296) (hd : d < 4294967296) :
    ((j < 16) ∧ (j : Int) % 16 = (G : Int) ∧ bits .or .i64 (bits .and .i64 (b : Int) (c : Int)) (bits .and .i64 (notN b : Nat) (d : Int)) = (F : Int)) ∨
    ((16 ≤ j ∧ j < 32) ∧ (5 * (j : Int) + 1) % 16 = (G : Int) ∧ bits .or .i64 (bits .and .i64 (d : Int) (b : Int)) (bits .and .i64 (notN d : Nat) (c : Int)) = (F : Int)) ∨
    ((32 ≤ j ∧ j < 48) ∧ (3 * (j : Int) + 5) % 16 = (G : Int) ∧ bits .xor .i64 (bits .xor .i64 (b : Int) (c : Int)) (d : Int) = (F : Int)) ∨
    ((48 ≤ j ∧ j < 64) ∧ 7 * (j : Int) % 16 = (G : Int) ∧ bits .xor .i64 (c : Int) (bits .or .i64 (b : Int) (notN d : Nat)) = (F : Int)) := by
  have nb := notN_lt b
  have nd := notN_lt d
  unfold md5F at hF
  unfold md5G at hG
  by_cases h1 : j < 16
  · left
    rw [if_pos h1] at hF hG
    refine ⟨h1, by omega, ?_⟩
    rw [i64_and b c hb hc, i64_and _ d nb hd, i64_or _ _ (and32 _ _ hb) (and32 _ _ nb), hF]
  rw [if_neg h1] at hF hG
  by_cases h2 : j < 32
  · right; left
    rw [if_pos h2] at hF hG
    refine ⟨by omega, by omega, ?_⟩
    rw [i64_and d b hd hb, i64_and _ c nd hc, i64_or _ _ (and32 _ _ hd) (and32 _ _ nd), hF]
  rw [if_neg h2] at hF hG
  by_cases h3 : j < 48
  · right; right; left
    rw [if_pos h3] at hF hG
    refine ⟨by omega, by omega, ?_⟩
    rw [i64_xor b c hb hc, i64_xor _ d (xor32 _ _ hb hc) hd, hF]
  · right; right; right
    rw [if_neg h3] at hF hG
    refine ⟨by omega, by omega, ?_⟩
    rw [i64_or b _ hb nd, i64_xor c _ hc (or32 _ _ hb nd), hF]
theorem md5_row0 (j : Nat) (h : j < 16) : ([.int .i64 7, .int .i64 12, .int .i64 17, .int .i64 22] : List Value)[j % 4]? = some (.int .i64 (md5T j : Nat)) := by
  have h1 : ∀ n : Fin 16, ([7, 12, 17, 22] : List Nat)[(0 + n.val) % 4]? = some (md5T (0 + n.val)) := by decide
  have h2 := h1 ⟨j - 0, by omega⟩
  rw [show 0 + (j - 0) = j by omega] at h2
  have h3 : ([.int .i64 7, .int .i64 12, .int .i64 17, .int .i64 22] : List Value) = ([7, 12, 17, 22] : List Nat).map (fun (n : Nat) => Value.int .i64 (n : Int)) := rfl
  rw [h3, List.getElem?_map, h2]
  rfl
theorem md5_row1 (j : Nat) (h : 16 ≤ j ∧ j < 32) : ([.int .i64 5, .int .i64 9, .int .i64 14, .int .i64 20] : List Value)[j % 4]? = some (.int .i64 (md5T j : Nat)) := by
  have h1 : ∀ n : Fin 16, ([5, 9, 14, 20] : List Nat)[(16 + n.val) % 4]? = some (md5T (16 + n.val)) := by decide
  have h2 := h1 ⟨j - 16, by omega⟩
  rw [show 16 + (j - 16) = j by omega] at h2
  have h3 : ([.int .i64 5, .int .i64 9, .int .i64 14, .int .i64 20] : List Value) = ([5, 9, 14, 20] : List Nat).map (fun (n : Nat) => Value.int .i64 (n : Int)) := rfl
  rw [h3, List.getElem?_map, h2]
  rfl
theorem md5_row2 (j : Nat) (h : 32 ≤ j ∧ j < 48) : ([.int .i64 4, .int .i64 11, .int .i64 16, .int .i64 23] : List Value)[j % 4]? = some (.int .i64 (md5T j : Nat)) := by
  have h1 : ∀ n : Fin 16, ([4, 11, 16, 23] : List Nat)[(32 + n.val) % 4]? = some (md5T (32 + n.val)) := by decide
  have h2 := h1 ⟨j - 32, by omega⟩
  rw [show 32 + (j - 32) = j by omega] at h2
  have h3 : ([.int .i64 4, .int .i64 11, .int .i64 16, .int .i64 23] : List Value) = ([4, 11, 16, 23] : List Nat).map (fun (n : Nat) => Value.int .i64 (n : Int)) := rfl
  rw [h3, List.getElem?_map, h2]
  rfl
theorem md5_row3 (j : Nat) (h : 48 ≤ j ∧ j < 64) : ([.int .i64 6, .int .i64 10, .int .i64 15, .int .i64 21] : List Value)[j % 4]? = some (.int .i64 (md5T j : Nat)) := by
  have h1 : ∀ n : Fin 16, ([6, 10, 15, 21] : List Nat)[(48 + n.val) % 4]? = some (md5T (48 + n.val)) := by decide
  have h2 := h1 ⟨j - 48, by omega⟩
  rw [show 48 + (j - 48) = j by omega] at h2
  have h3 : ([.int .i64 6, .int .i64 10, .int .i64 15, .int .i64 21] : List Value) = ([6, 10, 15, 21] : List Nat).map (fun (n : Nat) => Value.int .i64 (n : Int)) := rfl
  rw [h3, List.getElem?_map, h2]
  rfl
theorem digitsN_len (little : Bool) (n : Nat) (h : n < 4294967296) : (digitsN little n).length = 8 := by
  unfold digitsN
  simp only [tail8 n h]
  cases little <;> rfl
set_option maxRecDepth 100000 in
set_option maxHeartbeats 4000000 in
theorem refMD5 (s : ByteArray) (hs : s.size ≤ 1000000) (w : World) (hT : MdT w) (hD : Deb w) :
    Calls Tryd.prog 136 #[.string s] w fun e w' => e = .returned (.string ⟨((four (md5H s.data.toList)).flatMap (digitsN true)).toArray⟩) ∧ Below w.heap.size w w' := by
  go_enter Tryd.func136, Tryd.ntmps136
  go_wp2_with fail
  refine (refPadL s hs _).mono ?_
  rintro e w1 ⟨v0, rfl, hO, hB1⟩
  obtain ⟨g0, cap, rfl, hg0, hcap, hbg, hcells⟩ := hO.shape
  obtain ⟨L, hL⟩ : ∃ L, L = padL true s.data.toList := ⟨_, rfl⟩
  have hLs : L.length ≤ 1000072 := by rw [hL]; have := padL_le true s.data.toList; rw [← sz_len] at this; omega
  have hL64 : L.length % 64 = 0 := by rw [hL]; exact padL_length _ _
  rw [← hL] at hcap hcells
  rw [← hL]
  have hL' := Lib.hid hL
  have hcells' := Lib.hid hcells
  have hT' := Lib.hid hT
  have hD' := Lib.hid hD
  clear hT hD hO hL hcells
  go_wp2
  go_loopg [3, 4, 5, 6, 7] (L.length / 64) (fun gk a b c d x wr => ∃ (k n cp o : Nat) (v : W4), x = .slice (some ⟨g0, o, none⟩) n cp ∧ a = .int .i64 (v.a : Nat) ∧ b = .int .i64 (v.b : Nat) ∧ c = .int .i64 (v.c : Nat) ∧ d = .int .i64 (v.d : Nat) ∧ Hid (gk = L.length / 64 - k) ∧ 64 * k + n = L.length ∧ n ≤ cp ∧ (n = 0 ∨ o = 64 * k) ∧ Hid (v = md5At sinesL L k) ∧ Hid (Below w1.heap.size w1 wr))
  case atStart => exact ⟨0, L.length, cap, 0, ⟨0x67452301, 0xefcdab89, 0x98badcfe, 0x10325476⟩, rfl, rfl, rfl, rfl, rfl, Lib.hid rfl, by omega, hcap, .inr rfl, Lib.hid rfl, Lib.hid (Below.refl _ _)⟩
  case round =>
    obtain ⟨k, n, cp, o, v, rfl, rfl, rfl, rfl, rfl, hg, hk, hn, ho, hv, hB⟩ := hrel
    by_cases h0 : n = 0
    · have hvo : v.ok := by rw [hv.out]; exact md5At_ok _ _ _
      have hfin := Lib.hid (show v = md5H s.data.toList by rw [hv.out]; unfold md5H; rw [← hL'.out]; congr 1; omega)
      have hBw := hB1.then (Nat.le_refl _) hB.out
      have hDw := hD'.out.later hBw
      subst h0
      obtain ⟨va, vb, vc, vd⟩ := v
      obtain ⟨ja, jb, jc, jd⟩ := hvo
      simp only [] at ja jb jc jd ⊢
      have ra := fun w' h => refDigits true va ja w' h
      have rb := fun w' h => refDigits true vb jb w' h
      have rc := fun w' h => refDigits true vc jc w' h
      have rd := fun w' h => refDigits true vd jd w' h
      have hfin' := Lib.hid (show (four (md5H s.data.toList)).flatMap (digitsN true) = digitsN true va ++ digitsN true vb ++ digitsN true vc ++ digitsN true vd by rw [← hfin.out]; simp [four])
      have la := digitsN_len true va ja
      have lb := digitsN_len true vb jb
      have lc := digitsN_len true vc jc
      have ld := digitsN_len true vd jd
      generalize digitsN true va = Da at *
      generalize digitsN true vb = Db at *
      generalize digitsN true vc = Dc at *
      generalize digitsN true vd = Dd at *
      obtain ⟨A, hA⟩ : ∃ A : ByteArray, A = ⟨Da.toArray⟩ := ⟨_, rfl⟩
      obtain ⟨B, hBb⟩ : ∃ A : ByteArray, A = ⟨Db.toArray⟩ := ⟨_, rfl⟩
      obtain ⟨C, hC⟩ : ∃ A : ByteArray, A = ⟨Dc.toArray⟩ := ⟨_, rfl⟩
      obtain ⟨D, hDd⟩ : ∃ A : ByteArray, A = ⟨Dd.toArray⟩ := ⟨_, rfl⟩
      rw [← hA] at ra
      rw [← hBb] at rb
      rw [← hC] at rc
      rw [← hDd] at rd
      have sA : A.size = 8 := by rw [hA, sz_len]; simpa using la
      have sB : B.size = 8 := by rw [hBb, sz_len]; simpa using lb
      have sC : C.size = 8 := by rw [hC, sz_len]; simpa using lc
      have sD : D.size = 8 := by rw [hDd, sz_len]; simpa using ld
      have hend := Lib.hid (show A ++ B ++ C ++ D = ⟨(Da ++ Db ++ Dc ++ Dd).toArray⟩ by rw [hA, hBb, hC, hDd]; apply ByteArray.ext; simp)
      have hDw' := Lib.hid hDw
      have hBw' := Lib.hid hBw
      clear hA hBb hC hDd la lb lc ld hfin hv hDw hBw
      go_wp2_with fail
      ((with_reducible refine (ra _ hDw'.out).mono ?_))
      rintro e w2 ⟨rfl, hB2⟩
      have hD2 := Lib.hid (hDw'.out.later hB2)
      have hB2' := Lib.hid (hBw'.out.then (Nat.le_refl _) hB2)
      clear hB2
      go_wp2_with fail
      ((with_reducible refine (rb _ hD2.out).mono ?_))
      rintro e w3 ⟨rfl, hB3⟩
      have hD3 := Lib.hid (hD2.out.later hB3)
      have hB3' := Lib.hid (hB2'.out.then (Nat.le_refl _) hB3)
      clear hB3
      go_wp2_with fail
      ((with_reducible refine (rc _ hD3.out).mono ?_))
      rintro e w4 ⟨rfl, hB4⟩
      have hD4 := Lib.hid (hD3.out.later hB4)
      have hB4' := Lib.hid (hB3'.out.then (Nat.le_refl _) hB4)
      clear hB4
      go_wp2_with fail
      ((with_reducible refine (rd _ hD4.out).mono ?_))
      rintro e w5 ⟨rfl, hB5⟩
      have hB5' := Lib.hid (hB4'.out.then (Nat.le_refl _) hB5)
      clear hB5
      go_wp2
      go_ret
      exact ⟨ret_str (by rw [hend.out, hfin'.out]), hB5'.out⟩
    · obtain rfl : o = 64 * k := by omega
      have hT64 : 64 ≤ n := by omega
      have hok0 := Lib.hid (show v.ok by rw [hv.out]; exact md5At_ok _ _ _)
      obtain ⟨wo, rfl⟩ : ∃ wo : World, wo = wr := ⟨_, rfl⟩
      clear h0 ho
      have hnp : decide ((0 : Int) < (n : Int)) = true := by simp; omega
      have hnp2 : decide (0 < n) = true := by simp; omega
      go_wp2
      go_loopw [8, 9, 10, 11, 28] (fun a b c d i wr => ∃ (j : Nat) (x : W4), j ≤ 64 ∧ i = .int .i64 j ∧ a = .int .i64 (x.a : Nat) ∧ b = .int .i64 (x.b : Nat) ∧ c = .int .i64 (x.c : Nat) ∧ d = .int .i64 (x.d : Nat) ∧ Hid (x = md5Go sinesL (L.drop (64 * k)) v j) ∧ Hid (Below wo.heap.size wo wr)) (fun _ _ _ _ i _ => 64 - (intOf i).toNat)
      case atStart => exact ⟨0, v, Nat.zero_le _, rfl, rfl, rfl, rfl, rfl, Lib.hid rfl, Lib.hid (Below.refl _ _)⟩
      case round =>
        obtain ⟨j, x, hj, rfl, rfl, rfl, rfl, rfl, hx, hBx⟩ := hrel
        by_cases hlt : j < 64
        · obtain ⟨xa, xb, xc, xd⟩ := x
          have hxo : (⟨xa, xb, xc, xd⟩ : W4).ok := by rw [hx.out]; exact md5Go_ok _ _ _ hok0.out _
          obtain ⟨ha, hb, hc, hd⟩ := hxo
          simp only [] at ha hb hc hd ⊢
          have hF := md5F_lt j xb xc xd hb hc hd
          have hG := md5G_lt j
          have hQ := md5_quarterR j xb xc xd _ _ rfl rfl hlt hb hc hd
          obtain ⟨F, hFe⟩ : ∃ F, F = md5F j xb xc xd := ⟨_, rfl⟩
          obtain ⟨G, hGe⟩ : ∃ G, G = md5G j := ⟨_, rfl⟩
          rw [← hFe] at hF hQ
          rw [← hGe] at hG hQ
          have hFe' := Lib.hid hFe
          have hGe' := Lib.hid hGe
          clear hFe hGe
          have nb := notN_lt xb
          have nd := notN_lt xd
          obtain ⟨Nb, hNb⟩ : ∃ Nb, Nb = notN xb := ⟨_, rfl⟩
          obtain ⟨Nd, hNd⟩ : ∃ Nd, Nd = notN xd := ⟨_, rfl⟩
          have hnb := fun w' => refNot xb hb w'
          have hnd := fun w' => refNot xd hd w'
          rw [← hNb] at hnb hQ nb
          rw [← hNd] at hnd hQ nd
          clear hNb hNd
          have hS := sinesL_lt j
          obtain ⟨S, hSe⟩ : ∃ S, S = sinesL.getD j 0 := ⟨_, rfl⟩
          rw [← hSe] at hS
          have hSe' := Lib.hid hSe
          have hN := numL_lt true (L.drop (64 * k)) (4 * G)
          obtain ⟨N, hNe⟩ : ∃ N, N = numL true (L.drop (64 * k)) (4 * G) := ⟨_, rfl⟩
          have hnum : ∀ w', Below w1.heap.size w1 w' → Calls Tryd.prog 167 #[.slice (some ⟨g0, 64 * k + 4 * G, none⟩) (n - 4 * G) (cp - 4 * G), .bool true] w' fun e w'' => e = .returned (.int .i64 (N : Nat)) ∧ w' = w'' := by
            intro w' hw'
            have h := refNumberL g0 (64 * k + 4 * G) (n - 4 * G) (cp - 4 * G) (fun i => (L.getD (64 * k + 4 * G + i) 0).toNat) (fun i => UInt8.toNat_lt _) w' (by omega) (fun i hi => by
              have hlt2 : 64 * k + 4 * G + i < L.length := by omega
              rw [hw'.cell (p := ⟨g0, 64 * k + 4 * G + i, none⟩) hg0, hcells'.out _ hlt2, List.getD_eq_getElem?_getD, List.getElem?_eq_getElem hlt2]
              rfl)
            rw [accN_true L (64 * k + 4 * G)] at h
            rw [hNe, show numL true (L.drop (64 * k)) (4 * G) = numL true L (64 * k + 4 * G) by unfold numL; simp [List.getD_eq_getElem?_getD, List.getElem?_drop, Nat.add_assoc]]
            exact h
          rw [← hNe] at hN
          have hNe' := Lib.hid hNe
          clear hSe hNe
          have hrt := md5T_le j hlt
          have hrow0 := md5_row0 j
          have hrow1 := md5_row1 j
          have hrow2 := md5_row2 j
          have hrow3 := md5_row3 j
          obtain ⟨rt, hrte⟩ : ∃ rt, rt = md5T j := ⟨_, rfl⟩
          rw [← hrte] at hrt hrow0 hrow1 hrow2 hrow3
          obtain ⟨Z, hZe⟩ : ∃ Z, Z = (F + xa + S + N) % 4294967296 := ⟨_, rfl⟩
          have hZl : Z < 4294967296 := by omega
          have hrot := fun w' => refRol Z rt hZl (by omega) w'
          have hY := rolN_lt Z rt hZl (by omega)
          obtain ⟨Y, hYe⟩ : ∃ Y, Y = rolN Z rt := ⟨_, rfl⟩
          rw [← hYe] at hrot hY
          have hx' := Lib.hid (show (⟨xd, (xb + Y) % 4294967296, xb, xc⟩ : W4) = md5Go sinesL (L.drop (64 * k)) v (j + 1) by
            show _ = md5Step sinesL (L.drop (64 * k)) j (md5Go sinesL (L.drop (64 * k)) v j)
            rw [← hx.out]
            unfold md5Step
            simp only []
            rw [hYe, hZe, hFe'.out, hSe'.out, hNe'.out, hGe'.out, hrte])
          have g1 : IntKind.i64.wrap (4 * (G : Int)) = 4 * (G : Int) := IntWalk.i64_in _ (by omega)
          have g2 : (0 : Int) ≤ 4 * (G : Int) := by omega
          have g3 : (4 * (G : Int)).toNat = 4 * G := by omega
          have g4 : 4 * (G : Int) ≤ (n : Int) := by omega
          have g5 : IntKind.i64.wrap ((F : Int) + (xa : Int)) = (F : Int) + (xa : Int) := IntWalk.i64_in _ (by omega)
          have g6 : IntKind.i64.wrap (S : Int) = (S : Int) := IntWalk.i64_in _ (by omega)
          have g7 : IntKind.i64.wrap ((F : Int) + (xa : Int) + (S : Int)) = (F : Int) + (xa : Int) + (S : Int) := IntWalk.i64_in _ (by omega)
          have g8 : IntKind.i64.wrap ((F : Int) + (xa : Int) + (S : Int) + (N : Int)) = (F : Int) + (xa : Int) + (S : Int) + (N : Int) := IntWalk.i64_in _ (by omega)
          have g9 : ((F : Int) + (xa : Int) + (S : Int) + (N : Int)).tmod 4294967296 = (Z : Int) := by rw [Int.tmod_eq_emod_of_nonneg (by omega)]; omega
          have g10 : IntKind.i64.wrap (Z : Int) = (Z : Int) := IntWalk.i64_in _ (by omega)
          have g11 : 4 * G ≠ cp := by omega
          have hBw := hB.out.then (by have := hB.out.size; omega) hBx.out
          have hjr := hrte
          have hsin0 : ∀ W', Below wr.heap.size wr W' → W'.cell? ⟨8, j, none⟩ = some (.int .u32 (S : Nat)) := by
            intro W' hW'
            have h1 : MdT w1 := hT'.out.later hB1
            rw [hSe'.out]
            exact ((h1.later (hB.out.then (Nat.le_refl _) hBx.out)).later hW').sines j hlt
          have hsin := Lib.hid hsin0
          have hnum' := Lib.hid hnum
          have hZe' := Lib.hid hZe
          have hjr' := Lib.hid hjr
          clear hsin0 hnum hZe hYe hrte hjr
          rcases hQ with ⟨e0, eG, eF⟩ | ⟨e0, eG, eF⟩ | ⟨e0, eG, eF⟩ | ⟨e0, eG, eF⟩
          · have hrow := hrow0 e0
            have hrow' := Lib.hid hrow
            have hq : (j : Int) / 16 = 0 := by omega
            have e1 : (j : Int) < 16 := by omega
            clear hrow0 hrow1 hrow2 hrow3
            go_wp2_with fail
            ((with_reducible refine (hnb _).mono ?_))
            rintro e w' ⟨rfl, rfl⟩
            go_wp2
            (try rw [eG])
            refine forget (B := wr.heap.size) (w := wr) ?_ ?_
            · exact (((((Below.refl _ _).alloc (Nat.le_refl _) _).alloc (by simp) _).alloc (by simp; omega) _).alloc (by simp; omega) _).alloc (by simp; omega) _
            intro W' hW'
            have hsinW := hsin.out W' hW'
            have hBW := Lib.hid (hBw.then (by have := hBw.size; omega) hW')
            have hBWx := Lib.hid (hBx.out.then (Nat.le_refl _) hW')
            go_quiet ((go_at_call 167; exact quiet_left' (hnum'.out _ (below_drewN hBW.out _))))
            go_wp2_with fail
            ((with_reducible refine (hrot _).mono ?_))
            rintro e w2 ⟨rfl, rfl⟩
            go_wp2
            go_roundw
            case rel => exact ⟨j + 1, ⟨xd, (xb + Y) % 4294967296, xb, xc⟩, by omega, by go_num, rfl, by go_num, rfl, rfl, hx', Lib.hid (below_drewN hBWx.out _)⟩
            case measure => simp [intOf]; omega
          · have hrow := hrow1 e0
            have hrow' := Lib.hid hrow
            have hq : (j : Int) / 16 = 1 := by omega
            have e1 : ¬ (j : Int) < 16 := by omega
            have e2 : (j : Int) < 32 := by omega
            clear hrow0 hrow1 hrow2 hrow3
            go_wp2_with fail
            ((with_reducible refine (hnd _).mono ?_))
            rintro e w' ⟨rfl, rfl⟩
            go_wp2
            (try rw [eG])
            refine forget (B := wr.heap.size) (w := wr) ?_ ?_
            · exact (((((Below.refl _ _).alloc (Nat.le_refl _) _).alloc (by simp) _).alloc (by simp; omega) _).alloc (by simp; omega) _).alloc (by simp; omega) _
            intro W' hW'
            have hsinW := hsin.out W' hW'
            have hBW := Lib.hid (hBw.then (by have := hBw.size; omega) hW')
            have hBWx := Lib.hid (hBx.out.then (Nat.le_refl _) hW')
            go_quiet ((go_at_call 167; exact quiet_left' (hnum'.out _ (below_drewN hBW.out _))))
            go_wp2_with fail
            ((with_reducible refine (hrot _).mono ?_))
            rintro e w2 ⟨rfl, rfl⟩
            go_wp2
            go_roundw
            case rel => exact ⟨j + 1, ⟨xd, (xb + Y) % 4294967296, xb, xc⟩, by omega, by go_num, rfl, by go_num, rfl, rfl, hx', Lib.hid (below_drewN hBWx.out _)⟩
            case measure => simp [intOf]; omega
          · have hrow := hrow2 e0
            have hrow' := Lib.hid hrow
            have hq : (j : Int) / 16 = 2 := by omega
            have e1 : ¬ (j : Int) < 16 := by omega
            have e2 : ¬ (j : Int) < 32 := by omega
            have e3 : (j : Int) < 48 := by omega
            clear hrow0 hrow1 hrow2 hrow3
            go_wp2
            (try rw [eG])
            refine forget (B := wr.heap.size) (w := wr) ?_ ?_
            · exact (((((Below.refl _ _).alloc (Nat.le_refl _) _).alloc (by simp) _).alloc (by simp; omega) _).alloc (by simp; omega) _).alloc (by simp; omega) _
            intro W' hW'
            have hsinW := hsin.out W' hW'
            have hBW := Lib.hid (hBw.then (by have := hBw.size; omega) hW')
            have hBWx := Lib.hid (hBx.out.then (Nat.le_refl _) hW')
            go_quiet ((go_at_call 167; exact quiet_left' (hnum'.out _ (below_drewN hBW.out _))))
            go_wp2_with fail
            ((with_reducible refine (hrot _).mono ?_))
            rintro e w2 ⟨rfl, rfl⟩
            go_wp2
            go_roundw
            case rel => exact ⟨j + 1, ⟨xd, (xb + Y) % 4294967296, xb, xc⟩, by omega, by go_num, rfl, by go_num, rfl, rfl, hx', Lib.hid (below_drewN hBWx.out _)⟩
            case measure => simp [intOf]; omega
          · have hrow := hrow3 e0
            have hrow' := Lib.hid hrow
            have hq : (j : Int) / 16 = 3 := by omega
            have e1 : ¬ (j : Int) < 16 := by omega
            have e2 : ¬ (j : Int) < 32 := by omega
            have e3 : ¬ (j : Int) < 48 := by omega
            clear hrow0 hrow1 hrow2 hrow3
            go_wp2_with fail
            ((with_reducible refine (hnd _).mono ?_))
            rintro e w' ⟨rfl, rfl⟩
            go_wp2
            (try rw [eG])
            refine forget (B := wr.heap.size) (w := wr) ?_ ?_
            · exact (((((Below.refl _ _).alloc (Nat.le_refl _) _).alloc (by simp) _).alloc (by simp; omega) _).alloc (by simp; omega) _).alloc (by simp; omega) _
            intro W' hW'
            have hsinW := hsin.out W' hW'
            have hBW := Lib.hid (hBw.then (by have := hBw.size; omega) hW')
            have hBWx := Lib.hid (hBx.out.then (Nat.le_refl _) hW')
            go_quiet ((go_at_call 167; exact quiet_left' (hnum'.out _ (below_drewN hBW.out _))))
            go_wp2_with fail
            ((with_reducible refine (hrot _).mono ?_))
            rintro e w2 ⟨rfl, rfl⟩
            go_wp2
            go_roundw
            case rel => exact ⟨j + 1, ⟨xd, (xb + Y) % 4294967296, xb, xc⟩, by omega, by go_num, rfl, by go_num, rfl, rfl, hx', Lib.hid (below_drewN hBWx.out _)⟩
            case measure => simp [intOf]; omega
        · obtain rfl : j = 64 := by omega
          have hmeas := Lib.hid (show L.length / 64 - (k + 1) < gk by have h1 := hg.out; clear hx hBx; omega)
          obtain ⟨xa, xb, xc, xd⟩ := x
          have hxo : (⟨xa, xb, xc, xd⟩ : W4).ok := by rw [hx.out]; exact md5Go_ok _ _ _ hok0.out _
          obtain ⟨ha, hb, hc, hd⟩ := hxo
          simp only [] at ha hb hc hd ⊢
          have hvo := hok0.out
          obtain ⟨va, vb, vc, vd⟩ := v
          obtain ⟨ja, jb, jc, jd⟩ := hvo
          simp only [] at ja jb jc jd
          have hBw := Lib.hid (hB.out.then (Nat.le_refl _) hBx.out)
          have hv' := Lib.hid (show (⟨va, vb, vc, vd⟩ : W4).plus ⟨xa, xb, xc, xd⟩ = md5At sinesL L (k + 1) by
            show _ = (md5At sinesL _ k).plus (md5Go sinesL _ (md5At sinesL _ k) 64)
            rw [← hv.out, ← hx.out])
          by_cases hcp : cp = 64
          · obtain rfl : n = 64 := by omega
            subst hcp
            go_wp2
            go_roundg (L.length / 64 - (k + 1))
            case rel => exact ⟨k + 1, 0, 0, _, _, rfl, by go_num, by go_num, by go_num, by go_num, Lib.hid rfl, by omega, by omega, .inl rfl, hv', hBw⟩
            case measure => exact hmeas.out
          · go_wp2
            go_roundg (L.length / 64 - (k + 1))
            case rel => exact ⟨k + 1, n - 64, cp - 64, 64 * k + 64, _, rfl, by go_num, by go_num, by go_num, by go_num, Lib.hid rfl, by omega, by omega, .inr (by omega), hv', hBw⟩
            case measure => exact hmeas.out
end Go.Proofs.YtdlhihfjigcimaaDoor
