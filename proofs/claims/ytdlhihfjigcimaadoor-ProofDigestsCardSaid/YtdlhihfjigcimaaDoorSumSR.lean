/- The reference's SHA256. -/
import Derived.Test.YtdlhihfjigcimaaDoorSumS
import Derived.Test.YtdlhihfjigcimaaDoorSumMR
import Derived.Test.YtdlhihfjigcimaaDoorSumA
namespace Go.Proofs.YtdlhihfjigcimaaDoor
open Go.RowKit
theorem begin_idx (j : Nat) (hj : j < 8) (w : World) : (Instr.index 203 (.agg #[.int .u32 0x6a09e667, .int .u32 0xbb67ae85, .int .u32 0x3c6ef372, .int .u32 0xa54ff53a, .int .u32 0x510e527f, .int .u32 0x9b05688c, .int .u32 0x1f83d9ab, .int .u32 0x5be0cd19]) (.int .i64 (j : Int))).run Tryd.prog w = .ok (.int .u32 (beginL.getD j 0 : Nat)) w := by
  have h : j = 0 ∨ j = 1 ∨ j = 2 ∨ j = 3 ∨ j = 4 ∨ j = 5 ∨ j = 6 ∨ j = 7 := by omega
  rcases h with rfl | rfl | rfl | rfl | rfl | rfl | rfl | rfl <;> (change _ = _; kernel_rfl)
theorem beginL_lt (i : Nat) : beginL.getD i 0 < 4294967296 := getD_lt _ (by decide) i
theorem beginL_take (j : Nat) (hj : j < 8) : beginL.take j ++ [beginL.getD j 0] = beginL.take (j + 1) := by
  match j, hj with
  | 0, _ => rfl
  | 1, _ => rfl
  | 2, _ => rfl
  | 3, _ => rfl
  | 4, _ => rfl
  | 5, _ => rfl
  | 6, _ => rfl
  | 7, _ => rfl
theorem eightL_take (v : W8) (j : Nat) (hj : j < 8) : ((eightL v).take (j + 1)).flatMap (digitsN false) = ((eightL v).take j).flatMap (digitsN false) ++ digitsN false ((eightL v).getD j 0) := by
  match j, hj with
  | 0, _ => simp [eightL]
  | 1, _ => simp [eightL]
  | 2, _ => simp [eightL]
  | 3, _ => simp [eightL]
  | 4, _ => simp [eightL]
  | 5, _ => simp [eightL]
  | 6, _ => simp [eightL]
  | 7, _ => simp [eightL]
theorem mixL_setL (v x : W8) (j : Nat) (hj : j < 8) : (mixL v x j).set j ((eightL (v.plus x)).getD j 0) = mixL v x (j + 1) := by
  match j, hj with
  | 0, _ => rfl
  | 1, _ => rfl
  | 2, _ => rfl
  | 3, _ => rfl
  | 4, _ => rfl
  | 5, _ => rfl
  | 6, _ => rfl
  | 7, _ => rfl
set_option maxRecDepth 100000 in
set_option maxHeartbeats 4000000 in
theorem refSHA (s : ByteArray) (hs : s.size ≤ 1000000) (w : World) (hT : ShaT w) (hD : Deb w) :
    Calls Tryd.prog 135 #[.string s] w fun e w' => e = .returned (.string ⟨((eightL (shaH s.data.toList)).flatMap (digitsN false)).toArray⟩) ∧ Below w.heap.size w w' := by
  have b0 : w.cell? ⟨6, 0, none⟩ = some (.int .u32 0x6a09e667) := hT.begin_ 0 (by decide)
  have b1 : w.cell? ⟨6, 1, none⟩ = some (.int .u32 0xbb67ae85) := hT.begin_ 1 (by decide)
  have b2 : w.cell? ⟨6, 2, none⟩ = some (.int .u32 0x3c6ef372) := hT.begin_ 2 (by decide)
  have b3 : w.cell? ⟨6, 3, none⟩ = some (.int .u32 0xa54ff53a) := hT.begin_ 3 (by decide)
  have b4 : w.cell? ⟨6, 4, none⟩ = some (.int .u32 0x510e527f) := hT.begin_ 4 (by decide)
  have b5 : w.cell? ⟨6, 5, none⟩ = some (.int .u32 0x9b05688c) := hT.begin_ 5 (by decide)
  have b6 : w.cell? ⟨6, 6, none⟩ = some (.int .u32 0x1f83d9ab) := hT.begin_ 6 (by decide)
  have b7 : w.cell? ⟨6, 7, none⟩ = some (.int .u32 0x5be0cd19) := hT.begin_ 7 (by decide)
  have hT' := Lib.hid hT
  have hD' := Lib.hid hD
  clear hT hD
  go_enter Tryd.func135, Tryd.ntmps135
  go_wp2
  clear b0 b1 b2 b3 b4 b5 b6 b7
  go_loopw [3, 20] (fun v i wr => ∃ j : Nat, j ≤ 8 ∧ i = .int .i64 j ∧ Hid (OwnI wr w.heap.size v (beginL.take j)) ∧ Hid (Below w.heap.size w wr)) (fun _ i _ => 8 - (intOf i).toNat)
  case atStart => exact ⟨0, Nat.zero_le _, rfl, Lib.hid (OwnI.nil _ _), Lib.hid (Below.refl _ _)⟩
  case round =>
    obtain ⟨j, hj, rfl, hO, hB⟩ := hrel
    by_cases hlt : j < 8
    · have hidx := fun w' => begin_idx j hlt w'
      have hx := beginL_lt j
      have hn := Lib.hid (beginL_take j hlt)
      generalize beginL.getD j 0 = X at *
      have hsz := hB.out.size
      have hll : ((beginL.take j).length + 1) * 8 ≤ 140737488355328 := by rw [List.length_take]; omega
      go_wp2_with (at_builtin; refine wpList_append_int rfl (.tmp 23) (.tmp 26) rfl _ _ w.heap.size rfl _ _ rfl hO.out X _ rfl rfl hll hsz ?_; intro v1 w1 hO1 hg1)
      go_wp2
      go_roundw
      case rel => exact ⟨j + 1, by omega, by go_num, Lib.hid (by rw [← hn.out]; exact hO1), Lib.hid (below_append hB.out hO.out hg1 hsz)⟩
      case measure => simp [intOf]; omega
    · have hj8 : j = 8 := by omega
      rw [hj8] at hO
      have hj8' : ¬ (j : Int) < 8 := by omega
      clear hj8 hlt
      obtain ⟨hb, hcap, rfl, hbb, hR0, hc8, hcm⟩ := OwnI.row hO.out (by decide)
      have hR0' := Lib.hid (show RowI wr hb (eightL sha0) from hR0)
      obtain ⟨wz, rfl⟩ : ∃ wz : World, wz = wr := ⟨_, rfl⟩
      have hbz := hR0.lt
      rw [show (beginL.take 8).length = 8 from rfl] at hc8 ⊢
      clear hR0 hO
      go_wp2_with fail
      refine (refPadB s hs _).mono ?_
      rintro e w1 ⟨v0, rfl, hO, hB1⟩
      obtain ⟨g0, cap, rfl, hg0, hcap2, hbg, hcells⟩ := hO.shape
      obtain ⟨L, hL⟩ : ∃ L, L = padL false s.data.toList := ⟨_, rfl⟩
      have hLs : L.length ≤ 1000072 := by rw [hL]; have := padL_le false s.data.toList; rw [← sz_len] at this; omega
      have hL64 : L.length % 64 = 0 := by rw [hL]; exact padL_length _ _
      rw [← hL] at hcap2 hcells
      rw [← hL]
      have hL' := Lib.hid hL
      have hcells' := Lib.hid hcells
      have hR1 := Lib.hid (hR0'.out.later hB1)
      have hBw1 := Lib.hid (hB.out.then (Nat.le_refl _) hB1)
      have hb1 := hB1.size
      clear hL hcells hO hB1
      go_wp2
      go_loopg [6] (L.length / 64) (fun gk x wr => ∃ (k n cp o : Nat) (v : W8), x = .slice (some ⟨g0, o, none⟩) n cp ∧ Hid (gk = L.length / 64 - k) ∧ 64 * k + n = L.length ∧ n ≤ cp ∧ (n = 0 ∨ o = 64 * k) ∧ Hid (v = shaAt rootsL sha0 L k) ∧ Hid (RowI wr hb (eightL v)) ∧ Hid (∀ (j : Nat) (hj : j < L.length), wr.cell? ⟨g0, j, none⟩ = some (bv L[j])) ∧ Hid (Below w.heap.size w wr) ∧ w1.heap.size ≤ wr.heap.size)
      case atStart => exact ⟨0, L.length, cap, 0, sha0, rfl, Lib.hid rfl, by omega, hcap2, .inr rfl, Lib.hid rfl, hR1, hcells', hBw1, Nat.le_refl _⟩
      case round =>
        clear hR1 hcells' hBw1
        obtain ⟨k, n, cp, o, v, rfl, hg, hk, hn, ho, hv, hR, hcl, hBo, hsw⟩ := hrel
        by_cases h0 : n = 0
        · as_aux_lemma =>
          have hfin := Lib.hid (show v = shaH s.data.toList by rw [hv.out]; unfold shaH; rw [← hL'.out]; congr 1; omega)
          have hok0 := Lib.hid (show v.ok by rw [hv.out]; exact shaAt_ok _ _ sha0_ok _ _)
          obtain ⟨we, rfl⟩ : ∃ we : World, we = wr := ⟨_, rfl⟩
          subst h0
          go_wp2
          go_loopw [16, 219] (fun o i wv => ∃ (j : Nat) (S : ByteArray), j ≤ 8 ∧ i = .int .i64 j ∧ o = .string S ∧ S.size = 8 * j ∧ Hid (S.data.toList = ((eightL v).take j).flatMap (digitsN false)) ∧ Hid (Below we.heap.size we wv)) (fun _ i _ => 8 - (intOf i).toNat)
          case atStart => exact ⟨0, ⟨#[]⟩, Nat.zero_le _, rfl, rfl, rfl, Lib.hid rfl, Lib.hid (Below.refl _ _)⟩
          case round =>
            obtain ⟨j, S, hj, rfl, rfl, hSs, hS, hBe⟩ := hrel
            by_cases hlt : j < 8
            · have m1 := (hR.out.later hBe.out).cell j hlt
              have lX := eightL_lt hok0.out j
              have htk := eightL_take v j hlt
              generalize (eightL v).getD j 0 = X at *
              have hD := Lib.hid (hD'.out.later (hBo.out.then (Nat.le_refl _) hBe.out))
              have ra := fun w' h => refDigits false X lX w' h
              have la := digitsN_len false X lX
              have htk' := Lib.hid htk
              clear htk
              generalize digitsN false X = D0 at *
              obtain ⟨D, hDd⟩ : ∃ A : ByteArray, A = ⟨D0.toArray⟩ := ⟨_, rfl⟩
              rw [← hDd] at ra
              have sD : D.size = 8 := by rw [hDd, sz_len]; simpa using la
              have hn := Lib.hid (show (S ++ D).data.toList = ((eightL v).take (j + 1)).flatMap (digitsN false) by rw [htk'.out, ← hS.out, hDd]; simp)
              clear hDd la
              go_wp2_with fail
              ((with_reducible refine (ra _ hD.out).mono ?_))
              rintro e w5 ⟨rfl, hB5⟩
              have hB5' := Lib.hid (hBe.out.then (Nat.le_refl _) hB5)
              clear hB5
              go_wp2
              go_roundw
              case rel => exact ⟨j + 1, S ++ D, by omega, by go_num, rfl, by rw [add_size]; omega, hn, hB5'⟩
              case measure => simp [intOf]; omega
            · have hj8 : j = 8 := by omega
              rw [hj8] at hS
              have hlt8 : ¬ (j : Int) < 8 := by omega
              have hend := Lib.hid (show S = ⟨((eightL (shaH s.data.toList)).flatMap (digitsN false)).toArray⟩ by
                apply ByteArray.ext
                apply Array.toList_inj.1
                rw [hS.out, ← hfin.out]
                rfl)
              have hBf := Lib.hid (hBo.out.then (Nat.le_refl _) hBe.out)
              clear hj8 hlt hS
              go_wp2
              go_ret
              exact ⟨ret_str hend.out, hBf.out⟩
        · obtain rfl : o = 64 * k := by omega
          have hT64 : 64 ≤ n := by omega
          have hok0 := Lib.hid (show v.ok by rw [hv.out]; exact shaAt_ok _ _ sha0_ok _ _)
          obtain ⟨wo, rfl⟩ : ∃ wo : World, wo = wr := ⟨_, rfl⟩
          clear h0 ho
          have hnp : decide ((0 : Int) < (n : Int)) = true := by simp; omega
          have hnp2 : decide (0 < n) = true := by simp; omega
          have hgo : g0 < wo.heap.size := by omega
          obtain ⟨t, ht⟩ : ∃ t, t = L.drop (64 * k) := ⟨_, rfl⟩
          have ht' := Lib.hid ht
          clear ht
          go_wp2
          go_loopw [7, 36] (fun v i wv => ∃ j : Nat, j ≤ 64 ∧ i = .int .i64 j ∧ Hid (OwnI wv wo.heap.size v (shaWs t j)) ∧ Hid (Below wo.heap.size wo wv)) (fun _ i _ => 64 - (intOf i).toNat)
          case atStart => exact ⟨0, Nat.zero_le _, rfl, Lib.hid (OwnI.nil _ _), Lib.hid (Below.refl _ _)⟩
          case round =>
            obtain ⟨j, hj, rfl, hW, hBx⟩ := hrel
            by_cases hlt : j < 64
            · as_aux_lemma =>
              have hwl := shaWs_length t j
              have hnx := shaNext_lt t (shaWs t j)
              have hws := Lib.hid (show shaWs t j ++ [shaNext t (shaWs t j)] = shaWs t (j + 1) from rfl)
              have hszx := hBx.out.size
              have hll : ((shaWs t j).length + 1) * 8 ≤ 140737488355328 := by rw [hwl]; omega
              by_cases h16 : j < 16
              · have e16 : (j : Int) < 16 := by omega
                have hN : shaNext t (shaWs t j) = numL false L (64 * k + 4 * j) := by
                  unfold shaNext
                  rw [hwl, if_pos h16, ht'.out]
                  unfold numL
                  simp [List.getD_eq_getElem?_getD, List.getElem?_drop, Nat.add_assoc]
                have hnum := refNumberB g0 (64 * k + 4 * j) (n - 4 * j) (cp - 4 * j) (fun i => (L.getD (64 * k + 4 * j + i) 0).toNat) (fun i => UInt8.toNat_lt _) wr (by omega) (fun i hi => by
                  have hlt2 : 64 * k + 4 * j + i < L.length := by omega
                  rw [hBx.out.cell (p := ⟨g0, 64 * k + 4 * j + i, none⟩) hgo, hcl.out _ hlt2, List.getD_eq_getElem?_getD, List.getElem?_eq_getElem hlt2]
                  rfl)
                rw [accN_false L (64 * k + 4 * j), ← hN] at hnum
                have g11 : 4 * j ≠ cp := by omega
                clear hN
                generalize shaNext t (shaWs t j) = X at *
                go_wp2_with fail
                ((with_reducible refine hnum.mono ?_))
                rintro e w2 ⟨rfl, rfl⟩
                go_wp2_with (at_builtin; refine wpList_append_int rfl (.tmp 41) (.tmp 47) rfl _ _ wo.heap.size rfl _ _ rfl hW.out X _ rfl rfl hll hszx ?_; intro v1 w3 hO1 hg1)
                go_wp2
                go_roundw
                case rel => exact ⟨j + 1, by omega, by go_num, Lib.hid (by rw [← hws.out]; exact hO1), Lib.hid (below_append hBx.out hW.out hg1 hszx)⟩
                case measure => simp [intOf]; omega
              · have e16 : ¬ (j : Int) < 16 := by omega
                have hne : shaWs t j ≠ [] := by intro e; rw [e] at hwl; simp at hwl; omega
                obtain ⟨wb, wcap, rfl, hwb, hrow, hwc, _⟩ := OwnI.row hW.out hne
                have hWl := hW
                rw [hwl] at hwc hW ⊢
                have hx1 := hrow.cell (j - 15) (by omega)
                have hx2 := hrow.cell (j - 2) (by omega)
                have hx3 := hrow.cell (j - 16) (by omega)
                have hx4 := hrow.cell (j - 7) (by omega)
                have lx := getD_lt _ (shaWs_lt t j) (j - 15)
                have ly := getD_lt _ (shaWs_lt t j) (j - 2)
                have lz := getD_lt _ (shaWs_lt t j) (j - 16)
                have lu := getD_lt _ (shaWs_lt t j) (j - 7)
                have hN : shaNext t (shaWs t j) = ((shaWs t j).getD (j - 16) 0 + (shaWs t j).getD (j - 7) 0 + shaP ((shaWs t j).getD (j - 15) 0) + shaQ ((shaWs t j).getD (j - 2) 0)) % 4294967296 := by
                  unfold shaNext
                  rw [hwl, if_neg h16]
                have hy3 : ∀ (W' : World), RowI W' wb (shaWs t j) → W'.cell? ⟨wb, j - 16, none⟩ = some (.int .i64 ((shaWs t j).getD (j - 16) 0 : Nat)) := fun _ h => h.cell (j - 16) (by omega)
                have hy4 : ∀ (W' : World), RowI W' wb (shaWs t j) → W'.cell? ⟨wb, j - 7, none⟩ = some (.int .i64 ((shaWs t j).getD (j - 7) 0 : Nat)) := fun _ h => h.cell (j - 7) (by omega)
                generalize (shaWs t j).getD (j - 15) 0 = X at *
                generalize (shaWs t j).getD (j - 2) 0 = Y at *
                generalize (shaWs t j).getD (j - 16) 0 = Z at *
                generalize (shaWs t j).getD (j - 7) 0 = U at *
                generalize shaNext t (shaWs t j) = N at *
                have hN' := Lib.hid hN
                have hy3' := Lib.hid hy3
                have hy4' := Lib.hid hy4
                have hrow' := Lib.hid hrow
                have hwbz := hrow.lt
                clear hN hy3 hy4 hrow
                have r1 : ∀ w', Calls Tryd.prog 168 #[.int .i64 (X : Nat), .int .i64 7] w' fun k w'' => k = .returned (.int .i64 (rorN X 7 : Nat)) ∧ w' = w'' := fun w' => refRor X 7 lx (by decide) (by decide) w'
                have r2 : ∀ w', Calls Tryd.prog 168 #[.int .i64 (X : Nat), .int .i64 18] w' fun k w'' => k = .returned (.int .i64 (rorN X 18 : Nat)) ∧ w' = w'' := fun w' => refRor X 18 lx (by decide) (by decide) w'
                have r3 : ∀ w', Calls Tryd.prog 168 #[.int .i64 (Y : Nat), .int .i64 17] w' fun k w'' => k = .returned (.int .i64 (rorN Y 17 : Nat)) ∧ w' = w'' := fun w' => refRor Y 17 ly (by decide) (by decide) w'
                have r4 : ∀ w', Calls Tryd.prog 168 #[.int .i64 (Y : Nat), .int .i64 19] w' fun k w'' => k = .returned (.int .i64 (rorN Y 19 : Nat)) ∧ w' = w'' := fun w' => refRor Y 19 ly (by decide) (by decide) w'
                have l1 := rorN_lt X 7 lx
                have l2 := rorN_lt X 18 lx
                have l3 := rorN_lt Y 17 ly
                have l4 := rorN_lt Y 19 ly
                have g1 : IntKind.i64.wrap ((j : Int) - 15) = (j : Int) - 15 := IntWalk.i64_in _ (by omega)
                have g2 : (0 : Int) ≤ (j : Int) - 15 := by omega
                have g3 : (j : Int) - 15 < (j : Int) := by omega
                have g4 : ((j : Int) - 15).toNat = j - 15 := by omega
                have k1 : IntKind.i64.wrap ((j : Int) - 2) = (j : Int) - 2 := IntWalk.i64_in _ (by omega)
                have k2 : (0 : Int) ≤ (j : Int) - 2 := by omega
                have k3 : (j : Int) - 2 < (j : Int) := by omega
                have k4 : ((j : Int) - 2).toNat = j - 2 := by omega
                have g5 : IntKind.i64.wrap ((j : Int) - 16) = (j : Int) - 16 := IntWalk.i64_in _ (by omega)
                have g6 : (0 : Int) ≤ (j : Int) - 16 := by omega
                have g7 : (j : Int) - 16 < (j : Int) := by omega
                have g8 : ((j : Int) - 16).toNat = j - 16 := by omega
                have k5 : IntKind.i64.wrap ((j : Int) - 7) = (j : Int) - 7 := IntWalk.i64_in _ (by omega)
                have k6 : (0 : Int) ≤ (j : Int) - 7 := by omega
                have k7 : (j : Int) - 7 < (j : Int) := by omega
                have k8 : ((j : Int) - 7).toNat = j - 7 := by omega
                have k9 : (7 : Int) ≤ (j : Int) := by omega
                have k10 : 7 ≤ j := by omega
                have g9 : (16 : Int) ≤ (j : Int) := by omega
                have g10 : 16 ≤ j := by omega
                obtain ⟨P1, hP1⟩ : ∃ P1, P1 = shaP X := ⟨_, rfl⟩
                obtain ⟨Q1, hQ1⟩ : ∃ Q1, Q1 = shaQ Y := ⟨_, rfl⟩
                have lP := shaP_lt X lx
                have lQ := shaQ_lt Y ly
                rw [← hP1] at lP
                rw [← hQ1] at lQ
                have s1 : bits .xor .i64 (rorN X 7 : Nat) (rorN X 18 : Nat) = ((rorN X 7 ^^^ rorN X 18 : Nat) : Int) := i64_xor _ _ l1 l2
                have s2 : bits .xor .i64 (rorN X 7 ^^^ rorN X 18 : Nat) ((X : Int) / 8) = (P1 : Int) := by
                  rw [show (X : Int) / 8 = ((X / 8 : Nat) : Int) by omega, i64_xor _ _ (xor32 _ _ l1 l2) (by omega), hP1]; rfl
                have s3 : bits .xor .i64 (rorN Y 17 : Nat) (rorN Y 19 : Nat) = ((rorN Y 17 ^^^ rorN Y 19 : Nat) : Int) := i64_xor _ _ l3 l4
                have s4 : bits .xor .i64 (rorN Y 17 ^^^ rorN Y 19 : Nat) ((Y : Int) / 1024) = (Q1 : Int) := by
                  rw [show (Y : Int) / 1024 = ((Y / 1024 : Nat) : Int) by omega, i64_xor _ _ (xor32 _ _ l3 l4) (by omega), hQ1]; rfl
                have hN2 := Lib.hid (show N = (Z + U + P1 + Q1) % 4294967296 by rw [hN'.out, hP1, hQ1])
                generalize rorN X 7 ^^^ rorN X 18 = x1 at *
                generalize rorN Y 17 ^^^ rorN Y 19 = x2 at *
                generalize rorN X 7 = z1 at *
                generalize rorN X 18 = z2 at *
                generalize rorN Y 17 = z3 at *
                generalize rorN Y 19 = z4 at *
                clear hP1 hQ1 hN'
                have lN : N < 4294967296 := by rw [hN2.out]; omega
                have t1 : IntKind.i64.wrap ((Z : Int) + (U : Int)) = (Z : Int) + (U : Int) := IntWalk.i64_in _ (by omega)
                have t2 : IntKind.i64.wrap ((Z : Int) + (U : Int) + (P1 : Int)) = (Z : Int) + (U : Int) + (P1 : Int) := IntWalk.i64_in _ (by omega)
                have t3 : IntKind.i64.wrap ((Z : Int) + (U : Int) + (P1 : Int) + (Q1 : Int)) = (Z : Int) + (U : Int) + (P1 : Int) + (Q1 : Int) := IntWalk.i64_in _ (by omega)
                have t4 : ((Z : Int) + (U : Int) + (P1 : Int) + (Q1 : Int)).tmod 4294967296 = (N : Int) := by rw [Int.tmod_eq_emod_of_nonneg (by omega), hN2.out]; omega
                have t5 : (X : Int).tdiv 8 = (X : Int) / 8 := Int.tdiv_eq_ediv_of_nonneg (by omega)
                have t6 : IntKind.i64.wrap ((X : Int) / 8) = (X : Int) / 8 := IntWalk.i64_in _ (by omega)
                have t7 : (Y : Int).tdiv 1024 = (Y : Int) / 1024 := Int.tdiv_eq_ediv_of_nonneg (by omega)
                have t8 : IntKind.i64.wrap ((Y : Int) / 1024) = (Y : Int) / 1024 := IntWalk.i64_in _ (by omega)
                have t9 : IntKind.i64.wrap (N : Int) = (N : Int) := IntWalk.i64_in _ (by omega)
                go_wp2
                go_quiet (fail)
                go_wp2
                refine forget (B := wr.heap.size) (w := wr) (below_drewN (Below.refl _ _) nq) ?_
                intro W0 hW0
                have hx3' := hy3'.out W0 (hrow'.out.later hW0)
                have hx4' := hy4'.out W0 (hrow'.out.later hW0)
                have hown0 := Lib.hid ((hWl.out.later hW0).later ((Below.refl W0.heap.size W0).drew.alloc (by simp) (.cells #[.int .i64 (N : Nat)] 3)))
                have hone0 := Lib.hid (one_at W0.drew N)
                have hszA : wo.heap.size ≤ (W0.drew.alloc (.cells #[.int .i64 (N : Nat)] 3)).heap.size := by
                  have h1 := hBx.out.size
                  have h2 := hW0.size
                  simp; omega
                have hBW := Lib.hid (hBx.out.then (Nat.le_refl _) hW0)
                have hszW := hBW.out.size
                have hwbW : wb < W0.heap.size := by have := hW0.size; omega
                clear hx1 hx2 hx3 hx4 hW0
                go_region_held3 (fun W' => W'.cell? ⟨wb, j - 16, none⟩ = some (.int .i64 (Z : Nat)) ∧ W'.cell? ⟨wb, j - 7, none⟩ = some (.int .i64 (U : Nat))) (first | go_keep | exact ⟨hy3'.out _ hRn, hy4'.out _ hRn⟩) (first
                  | (((go_at_call 168; first | (with_reducible refine (r1 _).mono ?_) | (with_reducible refine (r2 _).mono ?_) | (with_reducible refine (r3 _).mono ?_) | (with_reducible refine (r4 _).mono ?_)); rintro e w5 ⟨rfl, rfl⟩))
                  | ((refine step_append_keep rfl (.tmp 59) (.tmp 90) rfl (W0.drew.alloc (.cells #[.int .i64 (N : Nat)] 3)) wo.heap.size wb wcap j (shaWs t j) hwl.symm rfl hown0.out ⟨W0.heap.size, 0, none⟩ 1 N rfl hone0.out hll hszA ?_; intro v6 w6 hO6 hG6 hRn)))
                go_wp2
                go_roundw
                case rel => exact ⟨j + 1, by omega, by go_num, Lib.hid (by rw [← hws.out]; exact hO6), Lib.hid (Below.grown (hBW.out.drew.alloc (by simp; omega) _) hG6 hszA (fun q hq => by cases hq; exact hwb))⟩
                case measure => simp [intOf]; omega
            · have hj64 : j = 64 := by omega
              rw [hj64] at hW
              obtain ⟨j1, rfl⟩ : ∃ j1 : Nat, j1 = j := ⟨_, rfl⟩
              have hlt1 : ¬ (j1 : Int) < 64 := by omega
              have hwl := shaWs_length t 64
              have hne : shaWs t 64 ≠ [] := by intro e; rw [e] at hwl; simp at hwl
              obtain ⟨wb, wcap, rfl, hwb, hrow, hwc, _⟩ := OwnI.row hW.out hne
              rw [hwl] at hwc ⊢
              have hrow' := Lib.hid hrow
              clear hj64 hW hlt hrow
              obtain ⟨wa, rfl⟩ : ∃ wa : World, wa = wr := ⟨_, rfl⟩
              have hRa := Lib.hid (hR.out.later hBx.out)
              have hnews := Lib.hid (hRa.out.news 8)
              have hnil := Lib.hid (OwnI.nil wa wa.heap.size)
              have hll8 := Lib.hid (show (([] : List Nat).length + ((eightL v).take 8).length) * 8 ≤ 140737488355328 by simp [eightL])
              go_wp2_with (at_builtin; refine wpList_append_ints rfl (.const (.slice none 0 0)) (.tmp 93) rfl _ wa.heap.size (.slice none 0 0) [] rfl hnil.out ⟨hb, 0, none⟩ hcap ((eightL v).take 8) 8 rfl rfl hnews.out hll8.out (Nat.le_refl _) ?_; intro v3 w3 hO3 hg3)
              have hB3 := Lib.hid (Below.grown (Below.refl wa.heap.size wa) hg3 (Nat.le_refl _) (fun q hq => by cases hq))
              obtain ⟨vb, vcap, rfl, hvb, hV3, hvc, _⟩ := OwnI.row hO3 (by simp [eightL])
              rw [show (([] : List Nat) ++ (eightL v).take 8).length = 8 from rfl] at hvc ⊢
              have hV3' := Lib.hid (show RowI w3 vb (eightL v) from hV3)
              clear hO3 hg3 hV3 hnews hnil
              go_wp2
              have hB4 := Lib.hid (hBx.out.then (Nat.le_refl _) hB3.out)
              go_loopw [11, 95] (fun u i wv => ∃ (j vb cp2 : Nat) (x : W8), j ≤ 64 ∧ i = .int .i64 j ∧ u = .slice (some ⟨vb, 0, none⟩) 8 cp2 ∧ 8 ≤ cp2 ∧ wa.heap.size ≤ vb ∧ Hid (x = shaGo rootsL (shaWs t 64) v j) ∧ Hid (RowI wv vb (eightL x)) ∧ Hid (Below wa.heap.size wa wv)) (fun _ i _ => 64 - (intOf i).toNat)
              case atStart => exact ⟨0, vb, vcap, v, Nat.zero_le _, rfl, rfl, hvc, hvb, Lib.hid rfl, hV3', hB3⟩
              case round =>
                clear hV3' hB3 hB4 hvc hvb
                obtain ⟨j, vb, cp2, x, hj, rfl, rfl, hvc, hvb, hx, hX, hBy⟩ := hrel
                have hxo : x.ok := by rw [hx.out]; exact shaGo_ok _ _ _ hok0.out _
                by_cases hlt : j < 64
                · as_aux_lemma =>
                  obtain ⟨a, b, c, d, e, f, g, h⟩ := x
                  obtain ⟨la, lb, lc, ld, le, lf, lg, lh⟩ := hxo
                  simp only [] at la lb lc ld le lf lg lh
                  have q0 : wr.cell? ⟨vb, 0, none⟩ = some (.int .i64 (a : Nat)) := hX.out.cell 0 (by simp [eightL])
                  have q1 : wr.cell? ⟨vb, 1, none⟩ = some (.int .i64 (b : Nat)) := hX.out.cell 1 (by simp [eightL])
                  have q2 : wr.cell? ⟨vb, 2, none⟩ = some (.int .i64 (c : Nat)) := hX.out.cell 2 (by simp [eightL])
                  have q3 : wr.cell? ⟨vb, 3, none⟩ = some (.int .i64 (d : Nat)) := hX.out.cell 3 (by simp [eightL])
                  have q4 : wr.cell? ⟨vb, 4, none⟩ = some (.int .i64 (e : Nat)) := hX.out.cell 4 (by simp [eightL])
                  have q5 : wr.cell? ⟨vb, 5, none⟩ = some (.int .i64 (f : Nat)) := hX.out.cell 5 (by simp [eightL])
                  have q6 : wr.cell? ⟨vb, 6, none⟩ = some (.int .i64 (g : Nat)) := hX.out.cell 6 (by simp [eightL])
                  have q7 : wr.cell? ⟨vb, 7, none⟩ = some (.int .i64 (h : Nat)) := hX.out.cell 7 (by simp [eightL])
                  have hWr := (hrow'.out.later hBy.out).cell j (by rw [hwl]; exact hlt)
                  have lw := getD_lt _ (shaWs_lt t 64) j
                  have hrt := (hT'.out.later (hBo.out.then (Nat.le_refl _) (hBx.out.then (Nat.le_refl _) hBy.out))).roots j hlt
                  have lr := rootsL_lt j
                  have hstep : shaGo rootsL (shaWs t 64) v (j + 1) = shaStep rootsL (shaWs t 64) j ⟨a, b, c, d, e, f, g, h⟩ := by rw [hx.out]; rfl
                  unfold shaStep at hstep
                  simp only [] at hstep
                  generalize (shaWs t 64).getD j 0 = W at *
                  generalize rootsL.getD j 0 = O at *
                  have r1 : ∀ w', Calls Tryd.prog 168 #[.int .i64 (e : Nat), .int .i64 6] w' fun k w'' => k = .returned (.int .i64 (rorN e 6 : Nat)) ∧ w' = w'' := fun w' => refRor e 6 le (by decide) (by decide) w'
                  have r2 : ∀ w', Calls Tryd.prog 168 #[.int .i64 (e : Nat), .int .i64 11] w' fun k w'' => k = .returned (.int .i64 (rorN e 11 : Nat)) ∧ w' = w'' := fun w' => refRor e 11 le (by decide) (by decide) w'
                  have r3 : ∀ w', Calls Tryd.prog 168 #[.int .i64 (e : Nat), .int .i64 25] w' fun k w'' => k = .returned (.int .i64 (rorN e 25 : Nat)) ∧ w' = w'' := fun w' => refRor e 25 le (by decide) (by decide) w'
                  have r4 : ∀ w', Calls Tryd.prog 168 #[.int .i64 (a : Nat), .int .i64 2] w' fun k w'' => k = .returned (.int .i64 (rorN a 2 : Nat)) ∧ w' = w'' := fun w' => refRor a 2 la (by decide) (by decide) w'
                  have r5 : ∀ w', Calls Tryd.prog 168 #[.int .i64 (a : Nat), .int .i64 13] w' fun k w'' => k = .returned (.int .i64 (rorN a 13 : Nat)) ∧ w' = w'' := fun w' => refRor a 13 la (by decide) (by decide) w'
                  have r6 : ∀ w', Calls Tryd.prog 168 #[.int .i64 (a : Nat), .int .i64 22] w' fun k w'' => k = .returned (.int .i64 (rorN a 22 : Nat)) ∧ w' = w'' := fun w' => refRor a 22 la (by decide) (by decide) w'
                  have r7 : ∀ w', Calls Tryd.prog 169 #[.int .i64 (e : Nat)] w' fun k w'' => k = .returned (.int .i64 (notN e : Nat)) ∧ w' = w'' := fun w' => refNot e le w'
                  have ln := notN_lt e
                  have s1 : bits .xor .i64 (rorN e 6 : Nat) (rorN e 11 : Nat) = ((rorN e 6 ^^^ rorN e 11 : Nat) : Int) := i64_xor _ _ (rorN_lt _ _ le) (rorN_lt _ _ le)
                  have s2 : bits .xor .i64 (rorN e 6 ^^^ rorN e 11 : Nat) (rorN e 25 : Nat) = ((shaE e : Nat) : Int) := i64_xor _ _ (xor32 _ _ (rorN_lt _ _ le) (rorN_lt _ _ le)) (rorN_lt _ _ le)
                  have s3 : bits .and .i64 (e : Int) (f : Int) = ((e &&& f : Nat) : Int) := i64_and _ _ le lf
                  have s4 : bits .and .i64 (notN e : Nat) (g : Int) = ((notN e &&& g : Nat) : Int) := i64_and _ _ ln lg
                  have s5 : bits .xor .i64 (e &&& f : Nat) (notN e &&& g : Nat) = ((shaC e f g : Nat) : Int) := i64_xor _ _ (and32 _ _ le) (and32 _ _ ln)
                  have u1 : bits .xor .i64 (rorN a 2 : Nat) (rorN a 13 : Nat) = ((rorN a 2 ^^^ rorN a 13 : Nat) : Int) := i64_xor _ _ (rorN_lt _ _ la) (rorN_lt _ _ la)
                  have u2 : bits .xor .i64 (rorN a 2 ^^^ rorN a 13 : Nat) (rorN a 22 : Nat) = ((shaA a : Nat) : Int) := i64_xor _ _ (xor32 _ _ (rorN_lt _ _ la) (rorN_lt _ _ la)) (rorN_lt _ _ la)
                  have u3 : bits .and .i64 (a : Int) (b : Int) = ((a &&& b : Nat) : Int) := i64_and _ _ la lb
                  have u4 : bits .and .i64 (a : Int) (c : Int) = ((a &&& c : Nat) : Int) := i64_and _ _ la lc
                  have u5' : bits .xor .i64 (a &&& b : Nat) (a &&& c : Nat) = (((a &&& b) ^^^ (a &&& c) : Nat) : Int) := i64_xor _ _ (and32 _ _ la) (and32 _ _ la)
                  have u6 : bits .and .i64 (b : Int) (c : Int) = ((b &&& c : Nat) : Int) := i64_and _ _ lb lc
                  have u7 : bits .xor .i64 ((a &&& b) ^^^ (a &&& c) : Nat) (b &&& c : Nat) = ((shaM a b c : Nat) : Int) := i64_xor _ _ (xor32 _ _ (and32 _ _ la) (and32 _ _ la)) (and32 _ _ lb)
                  have lE := shaE_lt e le
                  have lC := shaC_lt e f g le
                  have lA := shaA_lt a la
                  have lM := shaM_lt a b c la lb
                  have hstep' := Lib.hid hstep
                  clear hstep
                  generalize shaE e = E at *
                  generalize shaC e f g = C at *
                  generalize shaA a = A at *
                  generalize shaM a b c = M at *
                  generalize ((a &&& b) ^^^ (a &&& c)) = m1 at *
                  generalize (a &&& b) = m2 at *
                  generalize (a &&& c) = m3 at *
                  generalize (b &&& c) = m4 at *
                  generalize (notN e &&& g) = m5 at *
                  generalize (e &&& f) = m6 at *
                  generalize (rorN e 6 ^^^ rorN e 11) = m7 at *
                  generalize (rorN a 2 ^^^ rorN a 13) = m8 at *
                  generalize rorN e 6 = n1 at *
                  generalize rorN e 11 = n2 at *
                  generalize rorN e 25 = n3 at *
                  generalize rorN a 2 = n4 at *
                  generalize rorN a 13 = n5 at *
                  generalize rorN a 22 = n6 at *
                  generalize notN e = n7 at *
                  have j0 : (0 : Int) ≤ (j : Int) := by omega
                  have j1' : (j : Int) < 64 := by omega
                  have o1 : IntKind.i64.wrap ((h : Int) + (E : Int)) = (h : Int) + (E : Int) := IntWalk.i64_in _ (by omega)
                  have o2 : IntKind.i64.wrap ((h : Int) + (E : Int) + (C : Int)) = (h : Int) + (E : Int) + (C : Int) := IntWalk.i64_in _ (by omega)
                  have o3 : IntKind.i64.wrap ((h : Int) + (E : Int) + (C : Int) + (O : Int)) = (h : Int) + (E : Int) + (C : Int) + (O : Int) := IntWalk.i64_in _ (by omega)
                  have o4 : IntKind.i64.wrap ((h : Int) + (E : Int) + (C : Int) + (O : Int) + (W : Int)) = (h : Int) + (E : Int) + (C : Int) + (O : Int) + (W : Int) := IntWalk.i64_in _ (by omega)
                  have o5 : IntKind.i64.wrap (O : Int) = (O : Int) := IntWalk.i64_in _ (by omega)
                  have o6 : IntKind.i64.wrap ((A : Int) + (M : Int)) = (A : Int) + (M : Int) := IntWalk.i64_in _ (by omega)
                  go_wp2
                  go_quiet ((first
                    | (go_at_call 169; exact quiet_left' (r7 _))
                    | (go_at_call 168; first | (with_reducible exact quiet_left' (r1 _)) | (with_reducible exact quiet_left' (r2 _)) | (with_reducible exact quiet_left' (r3 _)))))
                  go_wp2
                  refine forget (B := wr.heap.size) (w := wr) (below_drewN (Below.refl _ _) nq) ?_
                  intro W0 hW0
                  have hX0 := Lib.hid (hX.out.later hW0)
                  have hBy0 := Lib.hid (hBy.out.then (by have h1 := hBy.out.size; have h2 := hW0.size; omega) hW0)
                  have q0 : W0.cell? ⟨vb, 0, none⟩ = some (.int .i64 (a : Nat)) := hX0.out.cell 0 (by simp [eightL])
                  have q1 : W0.cell? ⟨vb, 1, none⟩ = some (.int .i64 (b : Nat)) := hX0.out.cell 1 (by simp [eightL])
                  have q2 : W0.cell? ⟨vb, 2, none⟩ = some (.int .i64 (c : Nat)) := hX0.out.cell 2 (by simp [eightL])
                  clear hW0
                  go_quiet ((first | (go_at_call 168; first | (with_reducible exact quiet_left' (r4 _)) | (with_reducible exact quiet_left' (r5 _)) | (with_reducible exact quiet_left' (r6 _)))))
                  go_upto_region 25 with (fail)
                  refine forget (B := W0.heap.size) (w := W0) (below_drewN (Below.refl _ _) nq) ?_
                  intro W1 hW1
                  have hX1 := Lib.hid (hX0.out.later hW1)
                  have hBy1 := Lib.hid (hBy0.out.then (by have h1 := hBy0.out.size; omega) hW1)
                  clear q0 q1 q2 q3 q4 q5 q6 q7 hW1 r1 r2 r3 r4 r5 r6 r7
                  obtain ⟨N1, hN1⟩ : ∃ N1, N1 = (h + E + C + O + W + (A + M)) % 4294967296 := ⟨_, rfl⟩
                  obtain ⟨D1, hD1⟩ : ∃ D1, D1 = (d + (h + E + C + O + W)) % 4294967296 := ⟨_, rfl⟩
                  have lN1 : N1 < 4294967296 := by omega
                  have eN : ((h : Int) + (E : Int) + (C : Int) + (O : Int) + (W : Int) + ((A : Int) + (M : Int))) % 4294967296 = (N1 : Int) := by omega
                  have eD := Lib.hid (show ((d : Int) + ((h : Int) + (E : Int) + (C : Int) + (O : Int) + (W : Int))) % 4294967296 = (D1 : Int) by omega)
                  rw [← hN1, ← hD1] at hstep'
                  have eN' := Lib.hid eN
                  clear hN1 hD1
                  have hone1 := Lib.hid (OwnI.one W1 W1.heap.size N1 (Nat.le_refl _))
                  have hnw := Lib.hid ((hX1.out.later ((Below.refl W1.heap.size W1).alloc (Nat.le_refl _) (.cells #[.int .i64 (N1 : Nat)] 3))).news 7)
                  have hll7 := Lib.hid (show (([N1] : List Nat).length + ((eightL ⟨a, b, c, d, e, f, g, h⟩).take 7).length) * 8 ≤ 140737488355328 by simp [eightL])
                  have hsz1 := Lib.hid (show W1.heap.size ≤ (W1.alloc (.cells #[.int .i64 (N1 : Nat)] 3)).heap.size by simp)
                  have hvz := hBy1.out.size
                  have hne4 := Lib.hid (show [N1] ++ (eightL ⟨a, b, c, d, e, f, g, h⟩).take 7 ≠ [] by simp)
                  have hl4 := Lib.hid (show 4 < ([N1] ++ (eightL ⟨a, b, c, d, e, f, g, h⟩).take 7).length by simp [eightL])
                  have hBA := Lib.hid (hBy1.out.alloc hvz (.cells #[.int .i64 (N1 : Nat)] 3))
                  have hszA1 := Lib.hid (show wa.heap.size ≤ (W1.alloc (.cells #[.int .i64 (N1 : Nat)] 3)).heap.size by simp; omega)
                  go_upto_region 26 with (at_builtin; (try rw [eN'.out]); (with_reducible refine wpList_append_ints rfl (.tmp 185) (.tmp 187) rfl _ W1.heap.size (.slice (some ⟨W1.heap.size, 0, none⟩) 1 1) [N1] rfl hone1.out ⟨vb, 0, none⟩ cp2 ((eightL ⟨a, b, c, d, e, f, g, h⟩).take 7) 7 rfl rfl hnw.out hll7.out hsz1.out ?_); intro v4 w4 hO4 hg4)
                  obtain ⟨vb4, cp4, rfl, hvb4, hR4, hcp4, _⟩ := OwnI.row hO4 hne4.out
                  have c4 : w4.cell? ⟨vb4, 4, none⟩ = some (.int .i64 (d : Nat)) := hR4.cell 4 hl4.out
                  have f4 := hR4.free 4
                  have hB4 := Lib.hid (Below.grown hBA.out hg4 hszA1.out (fun q hq => by cases hq; exact hvz))
                  have hR4' := Lib.hid hR4
                  have hlen4 := Lib.hid (show ([N1] ++ (eightL ⟨a, b, c, d, e, f, g, h⟩).take 7).length = 8 by simp [eightL])
                  rw [hlen4.out] at hcp4 ⊢
                  clear hO4 hg4 hR4
                  go_wp2
                  go_roundw
                  case rel =>
                    refine ⟨j + 1, vb4, cp4, _, by omega, by go_num, rfl, hcp4, by omega, Lib.hid hstep'.out.symm, Lib.hid ?_, Lib.hid (Below.setCell hB4.out (by show wa.heap.size ≤ vb4; omega) _)⟩
                    rw [eD.out]
                    exact hR4'.out.set 4 D1
                  case measure => simp [intOf]; omega
                · have hj64 : j = 64 := by omega
                  rw [hj64] at hx
                  have hlt2 : ¬ (j : Int) < 64 := by omega
                  obtain ⟨j2, rfl⟩ : ∃ j2 : Nat, j2 = j := ⟨_, rfl⟩
                  clear hj64 hlt
                  obtain ⟨wc, rfl⟩ : ∃ wc : World, wc = wr := ⟨_, rfl⟩
                  have hxo' := Lib.hid hxo
                  clear hxo
                  have hmeas := Lib.hid (show L.length / 64 - (k + 1) < gk by have h1 := hg.out; omega)
                  have hplus := Lib.hid (show v.plus x = shaAt rootsL sha0 L (k + 1) by
                    show _ = (shaAt rootsL sha0 _ k).plus (shaGo rootsL (shaWs _ 64) (shaAt rootsL sha0 _ k) 64)
                    rw [← hv.out, ← ht'.out, ← hx.out])
                  have hRc := Lib.hid (hRa.out.later hBy.out)
                  have hBc := Lib.hid (hBo.out.then (Nat.le_refl _) (hBx.out.then (Nat.le_refl _) hBy.out))
                  have hszc : w1.heap.size ≤ wc.heap.size := by have h1 := hBx.out.size; have h2 := hBy.out.size; omega
                  have hclc : Hid (∀ (j : Nat) (hj : j < L.length), wc.cell? ⟨g0, j, none⟩ = some (bv L[j])) := Lib.hid (fun q hq => by
                    have h1 := hBx.out.size
                    rw [hBy.out.cell (p := ⟨g0, q, none⟩) (by show g0 < wa.heap.size; omega), hBx.out.cell (p := ⟨g0, q, none⟩) hgo]
                    exact hcl.out q hq)
                  have hvh : vb ≠ hb := by have h1 := hBx.out.size; omega
                  have hgh : g0 ≠ hb := by omega
                  clear hRa hrow'
                  go_wp2
                  go_loopw [200] (fun i wv => ∃ j : Nat, j ≤ 8 ∧ i = .int .i64 j ∧ Hid (RowI wv hb (mixL v x j)) ∧ Hid (RowI wv vb (eightL x)) ∧ Hid (∀ (j : Nat) (hj : j < L.length), wv.cell? ⟨g0, j, none⟩ = some (bv L[j])) ∧ Hid (Below w.heap.size w wv) ∧ w1.heap.size ≤ wv.heap.size) (fun i _ => 8 - (intOf i).toNat)
                  case atStart => exact ⟨0, Nat.zero_le _, rfl, hRc, hX, hclc, hBc, hszc⟩
                  case round =>
                    clear hRc hX hclc hBc hszc
                    obtain ⟨j, hj, rfl, hM, hX2, hcl2, hBz, hsz2⟩ := hrel
                    by_cases hlt : j < 8
                    · as_aux_lemma =>
                      have m1 := hM.out.cell j (by rw [mixL_len _ _ _ hj]; exact hlt)
                      rw [mixL_at v x j hlt] at m1
                      have m2 := hX2.out.cell j hlt
                      have mf := hM.out.free j
                      have lv := eightL_lt hok0.out j
                      have lx := eightL_lt hxo'.out j
                      have hp := plus_at v x j hlt
                      have hset := Lib.hid (mixL_setL v x j hlt)
                      rw [hp] at hset
                      generalize (eightL v).getD j 0 = A at *
                      generalize (eightL x).getD j 0 = B at *
                      obtain ⟨S, hS⟩ : ∃ S, S = (A + B) % 4294967296 := ⟨_, rfl⟩
                      rw [← hS] at hset
                      have o1 : IntKind.i64.wrap ((A : Int) + (B : Int)) = (A : Int) + (B : Int) := IntWalk.i64_in _ (by omega)
                      have o2 : ((A : Int) + (B : Int)).tmod 4294967296 = (S : Int) := by rw [Int.tmod_eq_emod_of_nonneg (by omega), hS]; omega
                      have o3 : IntKind.i64.wrap (S : Int) = (S : Int) := IntWalk.i64_in _ (by omega)
                      have o4 := Lib.hid (show ((A : Int) + (B : Int)) % 4294967296 = (S : Int) by omega)
                      clear hp hS
                      have j0 : (0 : Int) ≤ (j : Int) := by omega
                      have j1' : (j : Int) < 8 := by omega
                      go_wp2
                      go_region
                      go_wp2
                      go_roundw
                      case rel =>
                        (try rw [o4.out])
                        refine ⟨j + 1, by omega, by go_num, Lib.hid ?_, Lib.hid ((hX2.out.far _ _ (by simp; omega)).drew), Lib.hid ?_, Lib.hid ((Below.setCell hBz.out hbb _).drew), by simpa [World.setCell] using hsz2⟩
                        · rw [← hset.out]
                          exact (hM.out.set j S).drew
                        · intro q hq
                          show ((wr.setCell ⟨hb, j, none⟩ _).drew).cell? _ = _
                          rw [World.cell?_drew, World.cell?_setCell_other]
                          · exact hcl2.out q hq
                          · first | (simp; done) | (simp; omega) | (intro hh; cases hh; omega)
                      case measure => simp [intOf]; omega
                    · have hj8 : j = 8 := by omega
                      rw [hj8] at hM
                      have hM' := Lib.hid (show RowI wr hb (eightL (v.plus x)) from hM.out)
                      have hlt8 : ¬ (j : Int) < 8 := by omega
                      clear hj8 hlt hM
                      by_cases hcp : cp = 64
                      · obtain rfl : n = 64 := by omega
                        subst hcp
                        go_wp2
                        go_roundg (L.length / 64 - (k + 1))
                        case rel => exact ⟨k + 1, 0, 0, _, v.plus x, rfl, Lib.hid rfl, by omega, by omega, .inl rfl, hplus, hM', hcl2, hBz, hsz2⟩
                        case measure => exact hmeas.out
                      · go_wp2
                        go_roundg (L.length / 64 - (k + 1))
                        case rel => exact ⟨k + 1, n - 64, cp - 64, 64 * k + 64, v.plus x, rfl, Lib.hid rfl, by omega, by omega, .inr (by omega), hplus, hM', hcl2, hBz, hsz2⟩
                        case measure => exact hmeas.out
end Go.Proofs.YtdlhihfjigcimaaDoor
