/- sum.SHA256. -/
import Derived.Test.YtdlhihfjigcimaaDoorSumA
import Derived.Deep.QuietTactic
import Derived.BigQuiet
import Derived.BigRegion
import Derived.StillTailTactics
import Derived.Lib.IndexBytes
namespace Go.Proofs.YtdlhihfjigcimaaDoor
open Go.RowKit
theorem numLB_extract (T : ByteArray) (k : Nat) : numL false (T.extract k T.size).data.toList 0 = numL false T.data.toList k := by
  rw [Lib.extract_to_end T k]
  unfold numL
  simp [List.getD_eq_getElem?_getD, List.getElem?_drop]
/-- words in a row of so many cells, zeros behind them -/
def rowW (n : Nat) (l : List Nat) : Array Value := ((l ++ List.replicate (n - l.length) 0).map (fun (x : Nat) => Value.int .u32 (x : Int))).toArray
theorem rowW_at (n : Nat) (l : List Nat) (i : Nat) (hi : i < n) (hl : l.length ≤ n) : (rowW n l)[i]? = some (.int .u32 (l.getD i 0 : Nat)) := by
  unfold rowW
  rw [List.getElem?_toArray, List.getElem?_map, List.getD_eq_getElem?_getD]
  by_cases h : i < l.length
  · rw [List.getElem?_append_left h, List.getElem?_eq_getElem h]; rfl
  · rw [List.getElem?_append_right (by omega), List.getElem?_replicate, if_pos (by omega), List.getElem?_eq_none (by omega)]; rfl
theorem rowW_set (n : Nat) (l : List Nat) (x : Nat) (hl : l.length < n) : (rowW n l).setIfInBounds l.length (.int .u32 (x : Nat)) = rowW n (l ++ [x]) := by
  unfold rowW
  apply Array.toList_inj.1
  rw [Array.toList_setIfInBounds]
  simp only [List.length_append, List.length_cons, List.length_nil]
  rw [show n - l.length = (n - (l.length + 1)) + 1 by omega, List.replicate_succ]
  simp
theorem rotR (n k : Nat) (hn : n < 4294967296) (hk : 1 ≤ k) (hk2 : k ≤ 31) (w : World) : Calls Tryd.prog 174 #[.int .u32 n, .int .i64 (-(k : Int))] w fun e w' => e = .returned (.int .u32 (rorN n k : Nat)) ∧ w' = w :=
  (rotRight n k hn hk hk2 w).mono fun _ _ ⟨h, h'⟩ => ⟨h, h'.symm⟩
theorem Blk.cast {w : World} {p : Nat} {cs cs' : Array Value} {T : TypeId} (h : Blk w p cs T) (e : cs = cs') : Blk w p cs' T := e ▸ h
theorem quiet_same2 {P : Program} {f : FuncId} {args : Array Value} {w : World} {m n : Nat} {v : Value}
    (h : Calls P f args (w.drewN (m + n)) fun e w' => e = .returned v ∧ w' = w.drewN (m + n)) : Calls P f args (w.drewN (m + n)) fun e w'' => e = .returned v ∧ ∃ k, w'' = w.drewN (m + k) :=
  h.mono fun _ _ ⟨he, hm⟩ => ⟨he, n, hm⟩
/-- a region that reads, calls quietly and ends in a forced tail: its world under one name -/
theorem region_tail {P : Program} {id : Nat} {Q : Exit → Act → World → Prop} {a : Act} {w : World} {l : List Oper} (n : Nat) (hm : P.follows .mixedOrders = true) (hB : Region.lexTailB .any l.toArray n = true)
    (h : ∀ W, W = w.drew → wpStill P l.toArray W (fun a' => wpList P l.toArray Q (l.drop n) a' W) (l.take n) a) : (Code.region id l.toArray true).wp P Q a w :=
  wp_region_still_tail n hm hB (h _ rfl)
def row8 (v : W8) : Array Value := #[.int .u32 (v.a : Nat), .int .u32 (v.b : Nat), .int .u32 (v.c : Nat), .int .u32 (v.d : Nat), .int .u32 (v.e : Nat), .int .u32 (v.f : Nat), .int .u32 (v.g : Nat), .int .u32 (v.h : Nat)]
def shaH (l : List UInt8) : W8 := shaAt rootsL sha0 (padL false l) ((padL false l).length / 64)
theorem sha_next {X Y Z U N : Nat} (hN : N = (Z + U + shaP X + shaQ Y) % 4294967296) (lx : X < 4294967296) (ly : Y < 4294967296) :
    ((Z : Int) + (U : Int) + bits .xor .u32 (bits .xor .u32 (rorN X 7 : Nat) (rorN X 18 : Nat)) ((X : Int) / 8) + bits .xor .u32 (bits .xor .u32 (rorN Y 17 : Nat) (rorN Y 19 : Nat)) ((Y : Int) / 1024)) % 4294967296 = (N : Int) := by
  have e1 : (X : Int) / 8 = ((X / 8 : Nat) : Int) := by omega
  have e2 : (Y : Int) / 1024 = ((Y / 1024 : Nat) : Int) := by omega
  rw [e1, e2, u32_xor _ _ (rorN_lt _ _ lx) (rorN_lt _ _ lx), u32_xor _ _ (rorN_lt _ _ ly) (rorN_lt _ _ ly), u32_xor _ _ (xor32 _ _ (rorN_lt _ _ lx) (rorN_lt _ _ lx)) (by omega), u32_xor _ _ (xor32 _ _ (rorN_lt _ _ ly) (rorN_lt _ _ ly)) (by omega), hN]
  unfold shaP shaQ
  omega
theorem x_E (e : Nat) (le : e < 4294967296) : bits .xor .u32 (bits .xor .u32 (rorN e 6 : Nat) (rorN e 11 : Nat)) (rorN e 25 : Nat) = ((shaE e : Nat) : Int) := by
  rw [u32_xor _ _ (rorN_lt _ _ le) (rorN_lt _ _ le), u32_xor _ _ (xor32 _ _ (rorN_lt _ _ le) (rorN_lt _ _ le)) (rorN_lt _ _ le)]; rfl
theorem x_A (a : Nat) (la : a < 4294967296) : bits .xor .u32 (bits .xor .u32 (rorN a 2 : Nat) (rorN a 13 : Nat)) (rorN a 22 : Nat) = ((shaA a : Nat) : Int) := by
  rw [u32_xor _ _ (rorN_lt _ _ la) (rorN_lt _ _ la), u32_xor _ _ (xor32 _ _ (rorN_lt _ _ la) (rorN_lt _ _ la)) (rorN_lt _ _ la)]; rfl
theorem x_C (e f g : Nat) (le : e < 4294967296) (lf : f < 4294967296) (lg : g < 4294967296) : bits .xor .u32 (bits .and .u32 (e : Int) (f : Int)) (bits .and .u32 (bits .xor .u32 IntKind.u32.max (e : Int)) (g : Int)) = ((shaC e f g : Nat) : Int) := by
  rw [show IntKind.u32.max = 4294967295 by decide, u32_not e le, u32_and _ _ le lf, u32_and _ _ (by omega) lg, u32_xor _ _ (and32 _ _ le) (and32 _ _ (by omega))]; rfl
theorem x_M (a b c : Nat) (la : a < 4294967296) (lb : b < 4294967296) (lc : c < 4294967296) : bits .xor .u32 (bits .xor .u32 (bits .and .u32 (a : Int) (b : Int)) (bits .and .u32 (a : Int) (c : Int))) (bits .and .u32 (b : Int) (c : Int)) = ((shaM a b c : Nat) : Int) := by
  rw [u32_and _ _ la lb, u32_and _ _ la lc, u32_and _ _ lb lc, u32_xor _ _ (and32 _ _ la) (and32 _ _ la), u32_xor _ _ (xor32 _ _ (and32 _ _ la) (and32 _ _ la)) (and32 _ _ lb)]; rfl
theorem blk_eight {w : World} {p : Nat} {T : TypeId} {v : W8} (h : Blk w p (row8 v) T) (y0 y1 y2 y3 y4 y5 y6 y7 : Value) :
    Blk ((((((((w.setCell ⟨p, 0, none⟩ y0).setCell ⟨p, 1, none⟩ y1).setCell ⟨p, 2, none⟩ y2).setCell ⟨p, 3, none⟩ y3).setCell ⟨p, 4, none⟩ y4).setCell ⟨p, 5, none⟩ y5).setCell ⟨p, 6, none⟩ y6).setCell ⟨p, 7, none⟩ y7) p #[y0, y1, y2, y3, y4, y5, y6, y7] T := by
  have h0 := h.set 0 y0
  have h1 := h0.set 1 y1
  have h2 := h1.set 2 y2
  have h3 := h2.set 3 y3
  have h4 := h3.set 4 y4
  have h5 := h4.set 5 y5
  have h6 := h5.set 6 y6
  have h7 := h6.set 7 y7
  refine h7.cast ?_
  unfold row8
  simp
theorem below_eight {a w : World} {p : Nat} (h : Below p a w) (y0 y1 y2 y3 y4 y5 y6 y7 : Value) :
    Below p a ((((((((w.setCell ⟨p, 0, none⟩ y0).setCell ⟨p, 1, none⟩ y1).setCell ⟨p, 2, none⟩ y2).setCell ⟨p, 3, none⟩ y3).setCell ⟨p, 4, none⟩ y4).setCell ⟨p, 5, none⟩ y5).setCell ⟨p, 6, none⟩ y6).setCell ⟨p, 7, none⟩ y7) :=
  (((((((h.setCell (Nat.le_refl p) y0).setCell (Nat.le_refl p) y1).setCell (Nat.le_refl p) y2).setCell (Nat.le_refl p) y3).setCell (Nat.le_refl p) y4).setCell (Nat.le_refl p) y5).setCell (Nat.le_refl p) y6).setCell (Nat.le_refl p) y7
def eightL (v : W8) : List Nat := [v.a, v.b, v.c, v.d, v.e, v.f, v.g, v.h]
def mixL (v x : W8) (j : Nat) : List Nat := (eightL (v.plus x)).take j ++ (eightL v).drop j
theorem mixL_len (v x : W8) (j : Nat) (hj : j ≤ 8) : (mixL v x j).length = 8 := by
  unfold mixL; rw [List.length_append, List.length_take, List.length_drop]; simp only [eightL, List.length_cons, List.length_nil]; omega
theorem mixL_at (v x : W8) (j : Nat) (hj : j < 8) : (mixL v x j).getD j 0 = (eightL v).getD j 0 := by
  match j, hj with
  | 0, _ => rfl
  | 1, _ => rfl
  | 2, _ => rfl
  | 3, _ => rfl
  | 4, _ => rfl
  | 5, _ => rfl
  | 6, _ => rfl
  | 7, _ => rfl
theorem plus_at (v x : W8) (j : Nat) (hj : j < 8) : (eightL (v.plus x)).getD j 0 = ((eightL v).getD j 0 + (eightL x).getD j 0) % 4294967296 := by
  match j, hj with
  | 0, _ => rfl
  | 1, _ => rfl
  | 2, _ => rfl
  | 3, _ => rfl
  | 4, _ => rfl
  | 5, _ => rfl
  | 6, _ => rfl
  | 7, _ => rfl
theorem mixL_set (v x : W8) (j : Nat) (hj : j < 8) : (rowW 8 (mixL v x j)).setIfInBounds j (.int .u32 ((eightL (v.plus x)).getD j 0 : Nat)) = rowW 8 (mixL v x (j + 1)) := by
  match j, hj with
  | 0, _ => rfl
  | 1, _ => rfl
  | 2, _ => rfl
  | 3, _ => rfl
  | 4, _ => rfl
  | 5, _ => rfl
  | 6, _ => rfl
  | 7, _ => rfl
theorem eightL_lt {v : W8} (h : v.ok) (j : Nat) : (eightL v).getD j 0 < 4294967296 := by
  obtain ⟨h1, h2, h3, h4, h5, h6, h7, h8⟩ := h
  refine getD_lt _ (fun x hx => ?_) j
  simp only [eightL, List.mem_cons, List.not_mem_nil, or_false] at hx
  rcases hx with rfl | rfl | rfl | rfl | rfl | rfl | rfl | rfl <;> assumption
theorem row8_is (v : W8) : row8 v = rowW 8 (eightL v) := rfl
set_option maxRecDepth 100000 in
set_option maxHeartbeats 4000000 in
theorem sumSHA (s : ByteArray) (hs : s.size ≤ 1000000) (w : World) (hT : ShaT w) (R : W8 → ByteArray)
    (hpad : ∀ w, Calls Tryd.prog 172 #[.string s, .bool false] w fun e w' => e = .returned (.string ⟨(padL false s.data.toList).toArray⟩) ∧ Below w.heap.size w w')
    (htext : ∀ (v : W8) (B : Nat) (w : World), v.ok → Blk w B (row8 v) 203 → Calls Tryd.prog 175 #[.slice (some ⟨B, 0, none⟩) 8 8, .bool false] w fun e w' => e = .returned (.string (R v)) ∧ Below w.heap.size w w') :
    Calls Tryd.prog 137 #[.string s] w fun e w' => e = .returned (.string (R (shaH s.data.toList))) ∧ Below w.heap.size w w' := by
  have b0 : w.cell? ⟨6, 0, none⟩ = some (.int .u32 0x6a09e667) := hT.begin_ 0 (by decide)
  have b1 : w.cell? ⟨6, 1, none⟩ = some (.int .u32 0xbb67ae85) := hT.begin_ 1 (by decide)
  have b2 : w.cell? ⟨6, 2, none⟩ = some (.int .u32 0x3c6ef372) := hT.begin_ 2 (by decide)
  have b3 : w.cell? ⟨6, 3, none⟩ = some (.int .u32 0xa54ff53a) := hT.begin_ 3 (by decide)
  have b4 : w.cell? ⟨6, 4, none⟩ = some (.int .u32 0x510e527f) := hT.begin_ 4 (by decide)
  have b5 : w.cell? ⟨6, 5, none⟩ = some (.int .u32 0x9b05688c) := hT.begin_ 5 (by decide)
  have b6 : w.cell? ⟨6, 6, none⟩ = some (.int .u32 0x1f83d9ab) := hT.begin_ 6 (by decide)
  have b7 : w.cell? ⟨6, 7, none⟩ = some (.int .u32 0x5be0cd19) := hT.begin_ 7 (by decide)
  have hT' := Lib.hid hT
  clear hT
  go_enter Tryd.func137, Tryd.ntmps137
  go_wp2_with fail
  refine (hpad _).mono ?_
  rintro e w1 ⟨rfl, hB1⟩
  clear hpad
  obtain ⟨P, hP⟩ : ∃ P : ByteArray, P = ⟨(padL false s.data.toList).toArray⟩ := ⟨_, rfl⟩
  have hPl : P.data.toList = padL false s.data.toList := by rw [hP]
  have hPs : P.size ≤ 1000072 := by rw [sz_len, hPl]; have := padL_le false s.data.toList; rw [← sz_len] at this; omega
  have hP64 : P.size % 64 = 0 := by rw [sz_len, hPl]; exact padL_length _ _
  rw [← hP]
  have hPl' := Lib.hid hPl
  clear hP hPl b0 b1 b2 b3 b4 b5 b6 b7
  have hB1' : Below w.heap.size w w1 := (((Below.refl w.heap.size w).alloc (Nat.le_refl _) (.cells (row8 sha0) 203))).then (by simp) hB1
  have hK1 : Blk w1 w.heap.size (row8 sha0) 203 := (Blk.new w _ _).later hB1
  clear hB1
  go_wp2
  go_loopg [4] (P.size / 64) (fun gk x wr => ∃ (k : Nat) (T : ByteArray) (v : W8), x = .string T ∧ Hid (gk = P.size / 64 - k) ∧ 64 * k + T.size = P.size ∧ Hid (T.data.toList = (padL false s.data.toList).drop (64 * k)) ∧ Hid (v = shaAt rootsL sha0 (padL false s.data.toList) k) ∧ Hid (Blk wr w.heap.size (row8 v) 203) ∧ Below w.heap.size w wr)
  case atStart => exact ⟨0, P, _, rfl, Lib.hid rfl, by omega, Lib.hid (by rw [hPl'.out]; simp), Lib.hid rfl, Lib.hid hK1, hB1'⟩
  case round =>
    obtain ⟨k, T, v, rfl, hg, hk, hT0, hv, hK, hB⟩ := hrel
    clear hK1 hB1'
    by_cases h0 : T.size = 0
    · have hTe : T.toList.isEmpty = true := by rw [Lib.toList_data, List.isEmpty_iff]; exact List.length_eq_zero_iff.1 (by rw [← sz_len]; exact h0)
      have hok : v.ok := by rw [hv.out]; exact shaAt_ok _ _ sha0_ok _ _
      have ht := htext v w.heap.size wr hok hK.out
      have hfin := Lib.hid (show v = shaH s.data.toList by rw [hv.out]; unfold shaH; congr 1; rw [← hPl'.out, ← sz_len]; omega)
      clear h0 hok
      go_wp2_with fail
      refine ht.mono ?_
      rintro e w2 ⟨rfl, hB2⟩
      go_wp2
      go_ret
      exact ⟨by rw [hfin.out]; rfl, hB.then (Nat.le_refl _) hB2⟩
    · have hTe : T.toList.isEmpty = false := by
        rw [Lib.toList_data]
        cases hq : T.data.toList with
        | nil => rw [sz_len, hq] at h0; simp at h0
        | cons a r => rfl
      have hT64 : 64 ≤ T.size := by omega
      have hok0 := Lib.hid (show v.ok by rw [hv.out]; exact shaAt_ok _ _ sha0_ok _ _)
      obtain ⟨wo, rfl⟩ : ∃ wo : World, wo = wr := ⟨_, rfl⟩
      have hsz := hB.size
      clear h0
      obtain ⟨t, ht⟩ : ∃ t, t = T.data.toList := ⟨_, rfl⟩
      have htl : 64 ≤ t.length := by rw [ht, ← sz_len]; exact hT64
      have ht' := Lib.hid ht
      clear ht
      go_wp2
      have hW0 := Lib.hid (Blk.new wo (rowW 64 []) 207)
      have hV0 := Lib.hid ((Below.refl wo.heap.size wo).alloc (Nat.le_refl _) (.cells (rowW 64 []) 207))
      go_loopw [23] (fun i wv => ∃ j : Nat, j ≤ 64 ∧ i = .int .i64 j ∧ Hid (Blk wv wo.heap.size (rowW 64 (shaWs t j)) 207) ∧ Hid (Below wo.heap.size wo wv)) (fun i _ => 64 - (intOf i).toNat)
      case atStart => exact ⟨0, Nat.zero_le _, rfl, hW0, hV0⟩
      case round =>
        obtain ⟨j, hj, rfl, hW, hBx⟩ := hrel
        clear hW0 hV0
        by_cases hlt : j < 64
        · have hwl := shaWs_length t j
          have hcell := hW.out.cell j (rowW_at 64 (shaWs t j) j hlt (by omega))
          have hf := hW.out.free j
          have hnx := shaNext_lt t (shaWs t j)
          have hws := Lib.hid (show shaWs t j ++ [shaNext t (shaWs t j)] = shaWs t (j + 1) from rfl)
          have hset := Lib.hid (fun x : Nat => rowW_set 64 (shaWs t j) x (by omega))
          rw [hwl] at hset
          by_cases h16 : j < 16
          · have e16 : (j : Int) < 16 := by omega
            have hword := fun w' => sumWordQB (T.extract (4 * j) T.size) (by rw [ByteArray.size_extract]; omega) w'
            have hN : numL false (T.extract (4 * j) T.size).data.toList 0 = shaNext t (shaWs t j) := by
              unfold shaNext
              rw [hwl, if_pos h16, ht'.out, numLB_extract]
            rw [hN] at hword
            clear hN
            generalize shaNext t (shaWs t j) = X at *
            go_wp2_with fail
            ((with_reducible refine (hword _).mono ?_))
            rintro e w2 ⟨rfl, m, rfl⟩
            go_wp2
            go_roundw
            case rel => exact ⟨j + 1, by omega, by go_num, Lib.hid (by rw [← hws.out, ← hset.out X]; exact (hW.out.drewN m).set j _), Lib.hid (Below.setCell (below_drewN hBx.out m) (Nat.le_refl _) _)⟩
            case measure => simp [intOf]; omega
          · have e16 : ¬ (j : Int) < 16 := by omega
            have hx1 := hW.out.cell (j - 15) (rowW_at 64 (shaWs t j) (j - 15) (by omega) (by omega))
            have hx2 := hW.out.cell (j - 2) (rowW_at 64 (shaWs t j) (j - 2) (by omega) (by omega))
            have hx3 := hW.out.cell (j - 16) (rowW_at 64 (shaWs t j) (j - 16) (by omega) (by omega))
            have hx4 := hW.out.cell (j - 7) (rowW_at 64 (shaWs t j) (j - 7) (by omega) (by omega))
            have lx := getD_lt _ (shaWs_lt t j) (j - 15)
            have ly := getD_lt _ (shaWs_lt t j) (j - 2)
            have lz := getD_lt _ (shaWs_lt t j) (j - 16)
            have lu := getD_lt _ (shaWs_lt t j) (j - 7)
            have hN : shaNext t (shaWs t j) = ((shaWs t j).getD (j - 16) 0 + (shaWs t j).getD (j - 7) 0 + shaP ((shaWs t j).getD (j - 15) 0) + shaQ ((shaWs t j).getD (j - 2) 0)) % 4294967296 := by
              unfold shaNext
              rw [hwl, if_neg h16]
            generalize (shaWs t j).getD (j - 15) 0 = X at *
            generalize (shaWs t j).getD (j - 2) 0 = Y at *
            generalize (shaWs t j).getD (j - 16) 0 = Z at *
            generalize (shaWs t j).getD (j - 7) 0 = U at *
            generalize shaNext t (shaWs t j) = N at *
            have hN' := Lib.hid hN
            clear hN
            have r1 : ∀ w', Calls Tryd.prog 174 #[.int .u32 (X : Nat), .int .i64 (-7)] w' fun e w'' => e = .returned (.int .u32 (rorN X 7 : Nat)) ∧ w'' = w' := fun w' => rotR X 7 lx (by decide) (by decide) w'
            have r2 : ∀ w', Calls Tryd.prog 174 #[.int .u32 (X : Nat), .int .i64 (-18)] w' fun e w'' => e = .returned (.int .u32 (rorN X 18 : Nat)) ∧ w'' = w' := fun w' => rotR X 18 lx (by decide) (by decide) w'
            have r3 : ∀ w', Calls Tryd.prog 174 #[.int .u32 (Y : Nat), .int .i64 (-17)] w' fun e w'' => e = .returned (.int .u32 (rorN Y 17 : Nat)) ∧ w'' = w' := fun w' => rotR Y 17 ly (by decide) (by decide) w'
            have r4 : ∀ w', Calls Tryd.prog 174 #[.int .u32 (Y : Nat), .int .i64 (-19)] w' fun e w'' => e = .returned (.int .u32 (rorN Y 19 : Nat)) ∧ w'' = w' := fun w' => rotR Y 19 ly (by decide) (by decide) w'
            have l1 := rorN_lt X 7 lx
            have l2 := rorN_lt X 18 lx
            have l3 := rorN_lt Y 17 ly
            have l4 := rorN_lt Y 19 ly
            have g5 : IntKind.i64.wrap ((j : Int) - 16) = (j : Int) - 16 := IntWalk.i64_in _ (by omega)
            have g6 : (0 : Int) ≤ (j : Int) - 16 := by omega
            have g7 : (j : Int) - 16 < 64 := by omega
            have g8 : ((j : Int) - 16).toNat = j - 16 := by omega
            have k5 : IntKind.i64.wrap ((j : Int) - 7) = (j : Int) - 7 := IntWalk.i64_in _ (by omega)
            have k6 : (0 : Int) ≤ (j : Int) - 7 := by omega
            have k7 : (j : Int) - 7 < 64 := by omega
            have k8 : ((j : Int) - 7).toNat = j - 7 := by omega
            have k9 : (7 : Int) ≤ (j : Int) := by omega
            have k10 : 7 ≤ j := by omega
            have g9 : (16 : Int) ≤ (j : Int) := by omega
            have g10 : 16 ≤ j := by omega
            have g1 : IntKind.i64.wrap ((j : Int) - 15) = (j : Int) - 15 := IntWalk.i64_in _ (by omega)
            have g2 : (0 : Int) ≤ (j : Int) - 15 := by omega
            have g3 : (j : Int) - 15 < 64 := by omega
            have g4 : ((j : Int) - 15).toNat = j - 15 := by omega
            have k1 : IntKind.i64.wrap ((j : Int) - 2) = (j : Int) - 2 := IntWalk.i64_in _ (by omega)
            have k2 : (0 : Int) ≤ (j : Int) - 2 := by omega
            have k3 : (j : Int) - 2 < 64 := by omega
            have k4 : ((j : Int) - 2).toNat = j - 2 := by omega
            go_wp2
            go_quiet (fail)
            go_wp2
            refine region_tail 29 (by kernel_rfl) (by kernel_rfl) ?_
            intro W2 hW2
            simp only [List.take_succ_cons, List.take_zero, List.drop_succ_cons, List.drop_zero]
            have hW3 : Blk W2 wo.heap.size (rowW 64 (shaWs t j)) 207 := by rw [hW2]; exact hW.out.drewN nq
            have hBx2 : Below wo.heap.size wo W2 := by rw [hW2]; exact (below_drewN hBx.out nq).drew
            have hcW : ∀ i, W2.cell? ⟨wo.heap.size, i, none⟩ = wr.cell? ⟨wo.heap.size, i, none⟩ := by intro i; rw [hW2]; rfl
            have hy3 := (hcW _).trans hx3
            have hy4 := (hcW _).trans hx4
            have hcell2 := (hcW _).trans hcell
            have hf2 := hW3.free j
            have hW3' := Lib.hid hW3
            have hBx2' := Lib.hid hBx2
            clear hx1 hx2 hx3 hx4 hcell hf hcW hW2 hW3 hBx2
            repeat ((refine wpStill_step (fun K hK => ?_)); go_simp; (first | (refine hK _ ?_) | (with_reducible refine ⟨_, r1 _, hK _ ?_⟩) | (with_reducible refine ⟨_, r2 _, hK _ ?_⟩) | (with_reducible refine ⟨_, r3 _, hK _ ?_⟩) | (with_reducible refine ⟨_, r4 _, hK _ ?_⟩)); clear hK K)
            refine wpStill_nil ?_
            go_wp2
            go_roundw
            case rel => exact ⟨j + 1, by omega, by go_num, Lib.hid (by rw [sha_next hN'.out lx ly, ← hws.out, ← hset.out N]; exact hW3'.out.set j _), Lib.hid (Below.setCell hBx2'.out (Nat.le_refl _) _)⟩
            case measure => simp [intOf]; omega
        · have hj64 : j = 64 := by omega
          rw [hj64] at hW
          have hj64' := Lib.hid hj64
          obtain ⟨j1, rfl⟩ : ∃ j1 : Nat, j1 = j := ⟨_, rfl⟩
          have hlt1 : ¬ (j1 : Int) < 64 := by omega
          clear hj64
          have hv8 := hK.out.later hBx.out
          obtain ⟨wa, rfl⟩ : ∃ wa : World, wa = wr := ⟨_, rfl⟩
          obtain ⟨va, vb, vc, vd, ve, vf, vg, vh⟩ := v
          have p0 : wa.cell? ⟨w.heap.size, 0, none⟩ = some (.int .u32 (va : Nat)) := hv8.cell 0 rfl
          have p1 : wa.cell? ⟨w.heap.size, 1, none⟩ = some (.int .u32 (vb : Nat)) := hv8.cell 1 rfl
          have p2 : wa.cell? ⟨w.heap.size, 2, none⟩ = some (.int .u32 (vc : Nat)) := hv8.cell 2 rfl
          have p3 : wa.cell? ⟨w.heap.size, 3, none⟩ = some (.int .u32 (vd : Nat)) := hv8.cell 3 rfl
          have p4 : wa.cell? ⟨w.heap.size, 4, none⟩ = some (.int .u32 (ve : Nat)) := hv8.cell 4 rfl
          have p5 : wa.cell? ⟨w.heap.size, 5, none⟩ = some (.int .u32 (vf : Nat)) := hv8.cell 5 rfl
          have p6 : wa.cell? ⟨w.heap.size, 6, none⟩ = some (.int .u32 (vg : Nat)) := hv8.cell 6 rfl
          have p7 : wa.cell? ⟨w.heap.size, 7, none⟩ = some (.int .u32 (vh : Nat)) := hv8.cell 7 rfl
          clear hv8
          go_wp2
          have hY0 := Lib.hid (Blk.new wa (row8 ⟨va, vb, vc, vd, ve, vf, vg, vh⟩) 203)
          have hZ0 := Lib.hid ((Below.refl wa.heap.size wa).alloc (Nat.le_refl _) (.cells (row8 ⟨va, vb, vc, vd, ve, vf, vg, vh⟩) 203))
          clear p0 p1 p2 p3 p4 p5 p6 p7
          go_loopw [74] (fun i wv => ∃ (j : Nat) (x : W8), j ≤ 64 ∧ i = .int .i64 j ∧ Hid (x = shaGo rootsL (shaWs t 64) ⟨va, vb, vc, vd, ve, vf, vg, vh⟩ j) ∧ Hid (Blk wv wa.heap.size (row8 x) 203) ∧ Hid (Below wa.heap.size wa wv)) (fun i _ => 64 - (intOf i).toNat)
          case atStart => exact ⟨0, _, Nat.zero_le _, rfl, Lib.hid rfl, hY0, hZ0⟩
          case round =>
            obtain ⟨j, x, hj, rfl, hx, hX, hBy⟩ := hrel
            clear hY0 hZ0
            have hxo : x.ok := by rw [hx.out]; exact shaGo_ok _ _ _ hok0.out _
            by_cases hlt : j < 64
            · obtain ⟨a, b, c, d, e, f, g, h⟩ := x
              obtain ⟨la, lb, lc, ld, le, lf, lg, lh⟩ := hxo
              simp only [] at la lb lc ld le lf lg lh
              have q0 : wr.cell? ⟨wa.heap.size, 0, none⟩ = some (.int .u32 (a : Nat)) := hX.out.cell 0 rfl
              have q1 : wr.cell? ⟨wa.heap.size, 1, none⟩ = some (.int .u32 (b : Nat)) := hX.out.cell 1 rfl
              have q2 : wr.cell? ⟨wa.heap.size, 2, none⟩ = some (.int .u32 (c : Nat)) := hX.out.cell 2 rfl
              have q3 : wr.cell? ⟨wa.heap.size, 3, none⟩ = some (.int .u32 (d : Nat)) := hX.out.cell 3 rfl
              have q4 : wr.cell? ⟨wa.heap.size, 4, none⟩ = some (.int .u32 (e : Nat)) := hX.out.cell 4 rfl
              have q5 : wr.cell? ⟨wa.heap.size, 5, none⟩ = some (.int .u32 (f : Nat)) := hX.out.cell 5 rfl
              have q6 : wr.cell? ⟨wa.heap.size, 6, none⟩ = some (.int .u32 (g : Nat)) := hX.out.cell 6 rfl
              have q7 : wr.cell? ⟨wa.heap.size, 7, none⟩ = some (.int .u32 (h : Nat)) := hX.out.cell 7 rfl
              have f0 := hX.out.free 0
              have f1 := hX.out.free 1
              have f2 := hX.out.free 2
              have f3 := hX.out.free 3
              have f4 := hX.out.free 4
              have f5 := hX.out.free 5
              have f6 := hX.out.free 6
              have f7 := hX.out.free 7
              have hWr := (hW.out.later hBy.out).cell j (rowW_at 64 (shaWs t 64) j hlt (by rw [shaWs_length]; exact Nat.le_refl _))
              have lw := getD_lt _ (shaWs_lt t 64) j
              have hrt := (hT'.out.later (hB.then (Nat.le_refl _) (hBx.out.then (Nat.le_refl _) hBy.out) |> fun z => z)).roots j hlt
              have lr := rootsL_lt j
              have hstep : shaGo rootsL (shaWs t 64) ⟨va, vb, vc, vd, ve, vf, vg, vh⟩ (j + 1) = shaStep rootsL (shaWs t 64) j ⟨a, b, c, d, e, f, g, h⟩ := by rw [hx.out]; rfl
              unfold shaStep at hstep
              simp only [] at hstep
              generalize (shaWs t 64).getD j 0 = W at *
              generalize rootsL.getD j 0 = O at *
              have hstep' := Lib.hid hstep
              clear hstep
              have r1 : ∀ w', Calls Tryd.prog 174 #[.int .u32 (e : Nat), .int .i64 (-6)] w' fun k w'' => k = .returned (.int .u32 (rorN e 6 : Nat)) ∧ w'' = w' := fun w' => rotR e 6 le (by decide) (by decide) w'
              have r2 : ∀ w', Calls Tryd.prog 174 #[.int .u32 (e : Nat), .int .i64 (-11)] w' fun k w'' => k = .returned (.int .u32 (rorN e 11 : Nat)) ∧ w'' = w' := fun w' => rotR e 11 le (by decide) (by decide) w'
              have r3 : ∀ w', Calls Tryd.prog 174 #[.int .u32 (e : Nat), .int .i64 (-25)] w' fun k w'' => k = .returned (.int .u32 (rorN e 25 : Nat)) ∧ w'' = w' := fun w' => rotR e 25 le (by decide) (by decide) w'
              have r4 : ∀ w', Calls Tryd.prog 174 #[.int .u32 (a : Nat), .int .i64 (-2)] w' fun k w'' => k = .returned (.int .u32 (rorN a 2 : Nat)) ∧ w'' = w' := fun w' => rotR a 2 la (by decide) (by decide) w'
              have r5 : ∀ w', Calls Tryd.prog 174 #[.int .u32 (a : Nat), .int .i64 (-13)] w' fun k w'' => k = .returned (.int .u32 (rorN a 13 : Nat)) ∧ w'' = w' := fun w' => rotR a 13 la (by decide) (by decide) w'
              have r6 : ∀ w', Calls Tryd.prog 174 #[.int .u32 (a : Nat), .int .i64 (-22)] w' fun k w'' => k = .returned (.int .u32 (rorN a 22 : Nat)) ∧ w'' = w' := fun w' => rotR a 22 la (by decide) (by decide) w'
              have j0 : (0 : Int) ≤ (j : Int) := by omega
              have j1 : (j : Int) < 64 := by omega
              go_wp2
              go_quiet (fail)
              go_wp2
              go_quiet ((first | (go_at_call 174; first | (with_reducible exact quiet_same2 (r1 _)) | (with_reducible exact quiet_same2 (r2 _)) | (with_reducible exact quiet_same2 (r3 _)))))
              go_wp2
              go_quiet ((first | (go_at_call 174; first | (with_reducible exact quiet_same2 (r4 _)) | (with_reducible exact quiet_same2 (r5 _)) | (with_reducible exact quiet_same2 (r6 _)))))
              go_wp2
              go_roundw
              case rel =>
                refine ⟨j + 1, _, by omega, by go_num, Lib.hid hstep'.out.symm, Lib.hid ?_, Lib.hid ?_⟩
                · rw [x_E e le, x_A a la, x_C e f g le lf lg, x_M a b c la lb lc]
                  refine (blk_eight (hX.out.drewN _) _ _ _ _ _ _ _ _).cast ?_
                  unfold row8
                  congr 3 <;> omega
                · exact below_eight (below_drewN hBy.out _) _ _ _ _ _ _ _ _
              case measure => simp [intOf]; omega
            · have hj64 : j = 64 := by omega
              rw [hj64] at hx
              have hj64' := Lib.hid hj64
              obtain ⟨j2, rfl⟩ : ∃ j2 : Nat, j2 = j := ⟨_, rfl⟩
              have hlt2 : ¬ (j2 : Int) < 64 := by omega
              clear hj64 hlt
              obtain ⟨wb, rfl⟩ : ∃ wb : World, wb = wr := ⟨_, rfl⟩
              have hmeas := Lib.hid (show P.size / 64 - (k + 1) < gk by have h1 := hg.out; omega)
              obtain ⟨V, hV⟩ : ∃ V : W8, V = ⟨va, vb, vc, vd, ve, vf, vg, vh⟩ := ⟨_, rfl⟩
              rw [← hV] at hv hK hok0 hx
              have hV' := Lib.hid hV
              clear hV
              have hKb := Lib.hid (hK.out.later (hBx.out.then (Nat.le_refl _) hBy.out))
              have hBb := Lib.hid (hB.then (Nat.le_refl _) (hBx.out.then (Nat.le_refl _) hBy.out))
              have hplus := Lib.hid (show V.plus x = shaAt rootsL sha0 (padL false s.data.toList) (k + 1) by
                show _ = (shaAt rootsL sha0 _ k).plus (shaGo rootsL (shaWs _ 64) (shaAt rootsL sha0 _ k) 64)
                rw [← hv.out, ← hT0.out, ← ht'.out, ← hx.out])
              have hlt' := Lib.hid hxo
              clear hxo
              have hwa : w.heap.size < wa.heap.size := by have h1 := hW.out.lt; have h2 := hB.size; omega
              go_wp2
              go_loopw [156] (fun i wv => ∃ j : Nat, j ≤ 8 ∧ i = .int .i64 j ∧ Hid (Blk wv w.heap.size (rowW 8 (mixL V x j)) 203) ∧ Hid (Blk wv wa.heap.size (rowW 8 (eightL x)) 203) ∧ Hid (Below w.heap.size w wv)) (fun i _ => 8 - (intOf i).toNat)
              case atStart => exact ⟨0, Nat.zero_le _, rfl, hKb, hX, hBb⟩
              case round =>
                obtain ⟨j, hj, rfl, hM, hX2, hBz⟩ := hrel
                by_cases hlt : j < 8
                · have m1 := hM.out.cell j (rowW_at 8 _ j hlt (by rw [mixL_len _ _ _ hj]; exact Nat.le_refl _))
                  rw [mixL_at V x j hlt] at m1
                  have m2 := hX2.out.cell j (rowW_at 8 _ j hlt (Nat.le_refl _))
                  have mf := hM.out.free j
                  have lv := eightL_lt hok0.out j
                  have lx := eightL_lt hlt'.out j
                  have hp := plus_at V x j hlt
                  have hset := Lib.hid (mixL_set V x j hlt)
                  rw [hp] at hset
                  generalize (eightL V).getD j 0 = A at *
                  generalize (eightL x).getD j 0 = B at *
                  have hval := Lib.hid (show ((A : Int) + (B : Int)) % 4294967296 = (((A + B) % 4294967296 : Nat) : Int) by omega)
                  clear hp
                  have j0 : (0 : Int) ≤ (j : Int) := by omega
                  have j1' : (j : Int) < 8 := by omega
                  go_wp2
                  go_region
                  go_wp2
                  go_roundw
                  case rel => exact ⟨j + 1, by omega, by go_num, Lib.hid (by rw [hval.out, ← hset.out]; exact (hM.out.set j _).drew), Lib.hid ((hX2.out.far _ _ (by simp; omega)).drew), Lib.hid ((Below.setCell hBz.out (Nat.le_refl _) _).drew)⟩
                  case measure => simp [intOf]; omega
                · have hj8 : j = 8 := by omega
                  rw [hj8] at hM
                  have hj8' : ¬ (j : Int) < 8 := by omega
                  clear hlt
                  go_wp2
                  go_roundg (P.size / 64 - (k + 1))
                  case rel => exact ⟨k + 1, T.extract 64 T.size, V.plus x, rfl, Lib.hid rfl, by rw [ByteArray.size_extract]; omega, Lib.hid (by rw [Lib.extract_to_end, hT0.out, List.drop_drop, show 64 * k + 64 = 64 * (k + 1) by omega]), hplus, hM, hBz.out⟩
                  case measure => exact hmeas.out
end Go.Proofs.YtdlhihfjigcimaaDoor
