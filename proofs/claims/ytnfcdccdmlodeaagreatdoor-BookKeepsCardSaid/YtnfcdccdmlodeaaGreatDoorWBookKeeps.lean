/- BookKeeps: after any operations a Book is that of the reference: the walk of the statement. -/
import Derived.Test.YtnfcdccdmlodeaaGreatDoorBkT
import Derived.Test.YtnfcdccdmlodeaaGreatDoorBkM
namespace Go.Proofs.YtnfcdccdmlodeaaGreatDoor.lawBookKeeps
set_option linter.unusedSimpArgs false
open Go.ChangeShapes Go.WideShapes Go.ChangeAt Go.RowKit Go.WideElems Go.Deep
set_option maxRecDepth 100000 in
set_option maxHeartbeats 4000000 in
theorem walk (W : World) (hsh : W.ShapedOpen Tryz.prog) (a : Option Addr) (len cap : Nat) (hR : Rd Tryz.prog W 22 [.slice a len cap]) :
    Calls Tryz.prog 3 #[.slice a len cap] W fun e w' => e = .returned (.bool true) ∧ Below W.heap.size W w' := by
  obtain ⟨os, rfl, hE, hO, hl⟩ := bops_open hR
  have hM := maxL_of hsh
  clear hR hsh
  by_cases h40 : 40 < os.length
  · go_enter Tryz.func3, Tryz.ntmps3
    go_wp2
    go_ret
    exact ⟨rfl, Below.refl _ _⟩
  have hk0 := Lib.hid (KeepsI.start W)
  have hMH := Lib.hid hM
  have hEH := Lib.hid hE
  have hOH := Lib.hid hO
  clear hM hE hO
  go_enter Tryz.func3, Tryz.ntmps3
  go_wp2
  go_loopw [4, 5, 6, 7] (fun sr si _ _ wr => ∃ (k : Nat) (bk : List Pass) (ra : Option Addr) (rc : Nat) (S : Nat → Prop), k ≤ os.length ∧ si = .int .i64 k ∧ sr = .slice ra bk.length rc ∧ bk.length ≤ 32 ∧ Hid (KeepsI W W.heap.size wr bk bk ra S)) (fun _ si _ _ _ => os.length - (intOf si).toNat)
  case atStart => exact ⟨0, [], none, 0, _, Nat.zero_le _, rfl, rfl, by simp, hk0⟩
  case round =>
    obtain ⟨k, bk, ra, rc, S, hk, rfl, rfl, hbl, hK⟩ := hrel
    by_cases hlt : k < os.length
    · obtain ⟨pb, po, rfl, hc⟩ := (hEH.out.later hK.out.low) k hlt
      have hrg : wr.rangeAt pb (po + k * 16) (encBOp os[k]) := hc
      have hok := Lib.hid (hOH.out _ (List.getElem_mem hlt))
      clear hc
      generalize os[k] = x at hrg hok
      have hZ := Blk.new wr zBOp tBOp
      go_upto_region 9 with (first
        | (refine wpList_load_mid rfl tBOp _ rfl pb (po + k * 16) rfl (encBOp x) _ hrg Tryz.underlying36 rfl infoBOp ?_)
        | (refine wpList_store_blk rfl tBOp _ _ rfl _ rfl hZ x.arr rfl rfl infoBOp (bop_one x) ?_; intro wz hpz hgz))
      have hBz : Below wr.heap.size wr wz := below_only ((Below.refl _ _).alloc (Nat.le_refl _) (.cells zBOp tBOp)) hgz (by simp) (Nat.le_refl _)
      have hK1 := Lib.hid (hK.out.later hBz)
      have hWz := hK1.out.low
      have hrq := bop_req hpz
      have hla := large_says x.req wz (hok.out.req.later hWz)
      have hpH := Lib.hid hpz
      have hPS : Hid (¬ S wr.heap.size) := Lib.hid (fun e => Nat.lt_irrefl _ (hK.out.book.bd _ e))
      have hPS : Hid (¬ S wr.heap.size) := Lib.hid (fun e => Nat.lt_irrefl _ (hK.out.book.bd _ e))
      have hPS : Hid (¬ S wr.heap.size) := Lib.hid (fun e => Nat.lt_irrefl _ (hK.out.book.bd _ e))
      have hPS : Hid (¬ S wr.heap.size) := Lib.hid (fun e => Nat.lt_irrefl _ (hK.out.book.bd _ e))
      clear hrg hZ hgz hBz hK hWz
      generalize hP : wr.heap.size = P at hpz hrq hpH hPS
      clear hP
      go_wp2_with (refine wpList_load_mid rfl 34 _ rfl P 1 rfl x.req.arr.toList _ hrq Tryz.underlying34 rfl infoReqG ?_)
      refine hla.mono ?_
      rintro e w2 ⟨rfl, hB2⟩
      have hK2 := Lib.hid (hK1.out.later hB2)
      have hp2 := Lib.hid (hpH.out.later hB2)
      clear hla hrq hpz hpH hK1 hB2
      cases hlb : largeB x.req
      case true =>
        clear hlb
        go_wp2
        go_ret
        exact ⟨rfl, hK2.out.low⟩
      case false =>
        have hsm := Lib.hid (small_of hlb)
        have c14 : _ = some (Value.slice x.addr x.passes.length x.cap) := hp2.out.cell 14 rfl
        clear hlb
        by_cases h12 : 12 < x.passes.length
        · go_wp2
          go_ret
          exact ⟨rfl, hK2.out.low⟩
        · have h12' : decide ((x.passes.length : Int) > 12) = false := by simp; omega
          have c0 : _ = some (Value.int .i64 x.what) := hp2.out.cell 0 rfl
          go_upto_block 2 with (fail)
          go_cut [4] (fun sr wx => ∃ (bk1 : List Pass) (ra1 : Option Addr) (rc1 : Nat) (S1 : Nat → Prop), sr = .slice ra1 bk1.length rc1 ∧ bk1.length ≤ 32 ∧ Hid (KeepsI W W.heap.size wx bk1 bk1 ra1 S1) ∧ Hid (Blk wx P x.arr tBOp))
          case first =>
            have hrq := bop_req hp2.out
            have hro := bop_org hp2.out
            have c15 : _ = some (Value.int .i64 x.now) := hp2.out.cell 15 rfl
            by_cases h0 : x.what = 0
            · have e0 : (x.what == 0) = true := by simp [h0]
              clear h0
              have hpu := bookPutP W.heap.size S bk x.addr x.cap x.passes x.now w2 hK2.out.book (hok.out.row.later hK2.out.low) (fun hn y hy e => by
                have h1 := hok.out.adr y hy hn
                have h2 := hK2.out.base _ e
                omega) (by omega) (by omega)
              go_wp2_with fail
              refine hpu.mono ?_
              rintro e w3 ⟨rfl, hB3, ho3⟩
              have hK3 := Lib.hid (hK2.out.prog hB3 ho3)
              have hp3 := ho3.blk hp2.out hPS.out
              have hp3H := Lib.hid hp3
              have c14' : _ = some (Value.slice x.addr x.passes.length x.cap) := hp3.cell 14 rfl
              have c15' : _ = some (Value.int .i64 x.now) := hp3.cell 15 rfl
              have hrp := refBookPut ra rc bk x.addr x.cap x.passes x.now w3 hK3.out.row (hok.out.row.later hK3.out.low) (by omega) (by omega)
              have hbo := Lib.hid (put_ok (bk := bk) (l := x.passes) (now := x.now) hK2.out.ok hok.out.pok)
              have hbl2 := Lib.hid (bookPut_len 32 bk x.passes x.now)
              generalize bookPut 32 bk x.passes x.now = bq at hrp hK3 hbo hbl2 hB3
              clear hpu hB3 ho3 hp3 hK2 hp2 c14 c15 hrq hro c0
              go_wp2_with fail
              refine hrp.mono ?_
              rintro e w4 ⟨⟨v4, rfl, hO4⟩, hB4⟩
              obtain ⟨a4, c4, rfl, _⟩ := OwnG.shape encPass_len hO4
              have hK4 := Lib.hid (hK3.out.ref hB4 hO4 hbo.out)
              have hp4 := Lib.hid (hp3H.out.later hB4)
              clear hO4 hB4 hrp
              go_wp2
              go_meet
              exact ⟨bq, a4, c4, _, rfl, hbl2.out, hK4, hp4⟩
            · have e0 : (x.what == 0) = false := by simp [h0]
              clear h0
              by_cases h1 : x.what = 1
              · have e1 : (x.what == 1) = true := by simp [h1]
                clear h1
                have hrp := refBookForget ra rc bk x.req w2 hK2.out.row (by omega)
                go_wp2_with (refine wpList_load_mid rfl 34 _ rfl P 1 rfl x.req.arr.toList _ hrq Tryz.underlying34 rfl infoReqG ?_)
                refine hrp.mono ?_
                rintro e w3 ⟨⟨v3, rfl, hO3⟩, hB3⟩
                obtain ⟨a3, c3, rfl, _⟩ := OwnG.shape encPass_len hO3
                have hK3 := Lib.hid (hK2.out.ref hB3 hO3 (fun p hp => hK2.out.ok p (List.mem_filter.1 hp).1))
                have hp3 := Lib.hid (hp2.out.later hB3)
                have hrq3 := bop_req hp3.out
                have hpu := bookForgetP W.heap.size S bk x.req w3 hK3.out.book (by omega)
                have hl5 : (bookForget x.req bk).length ≤ bk.length := List.length_filter_le _ _
                generalize bookForget x.req bk = bq at hpu hK3 hl5
                clear hrp hO3 hB3 hrq hro c0 c14 c15
                go_wp2_with (refine wpList_load_mid rfl 34 _ rfl P 1 rfl x.req.arr.toList _ hrq3 Tryz.underlying34 rfl infoReqG ?_)
                refine hpu.mono ?_
                rintro e w4 ⟨rfl, hB4, ho4⟩
                have hK4 := Lib.hid (hK3.out.prog hB4 ho4)
                have hp4 := Lib.hid (ho4.blk hp3.out hPS.out)
                clear hpu hB4 ho4 hrq3
                go_wp2
                go_meet
                exact ⟨bq, a3, c3, _, rfl, by omega, hK4, hp4⟩
              · have e1 : (x.what == 1) = false := by simp [h1]
                clear h1
                by_cases h2 : x.what = 2
                · have e2 : (x.what == 2) = true := by simp [h2]
                  clear h2
                  have hrp := refBookSweep ra rc bk x.req.orig w2 hK2.out.row (by omega)
                  go_wp2_with (refine wpList_load_mid rfl 29 _ rfl P 2 rfl [.bool x.req.orig.sec, .string x.req.orig.host, .int .i64 x.req.orig.port] _ hro Tryz.underlying29 rfl infoOrgV ?_)
                  refine hrp.mono ?_
                  rintro e w3 ⟨⟨v3, rfl, hO3⟩, hB3⟩
                  obtain ⟨a3, c3, rfl, _⟩ := OwnG.shape encPass_len hO3
                  have hK3 := Lib.hid (hK2.out.ref hB3 hO3 (fun p hp => hK2.out.ok p (List.mem_filter.1 hp).1))
                  have hp3 := Lib.hid (hp2.out.later hB3)
                  have hro3 := bop_org hp3.out
                  have hpu := bookSweepP W.heap.size S bk x.req.orig w3 hK3.out.book (by omega)
                  have hl5 : (bookSweep x.req.orig bk).length ≤ bk.length := List.length_filter_le _ _
                  generalize bookSweep x.req.orig bk = bq at hpu hK3 hl5
                  clear hrp hO3 hB3 hrq hro c0 c14 c15
                  go_wp2_with (refine wpList_load_mid rfl 29 _ rfl P 2 rfl [.bool x.req.orig.sec, .string x.req.orig.host, .int .i64 x.req.orig.port] _ hro3 Tryz.underlying29 rfl infoOrgV ?_)
                  refine hpu.mono ?_
                  rintro e w4 ⟨rfl, hB4, ho4⟩
                  have hK4 := Lib.hid (hK3.out.prog hB4 ho4)
                  have hp4 := Lib.hid (ho4.blk hp3.out hPS.out)
                  clear hpu hB4 ho4 hro3
                  go_wp2
                  go_meet
                  exact ⟨bq, a3, c3, _, rfl, by omega, hK4, hp4⟩
                · have e2 : (x.what == 2) = false := by simp [h2]
                  clear h2 hrq hro
                  go_wp2
                  go_meet
                  exact ⟨bk, ra, rc, S, rfl, hbl, hK2, hp2⟩
          case rest =>
            obtain ⟨bk1, ra1, rc1, S1, rfl, hbl1, hKy, hpy⟩ := hcut
            clear hK2 hp2 c14 c0 hPS h12'
            rename World => wy
            have hrow := hKy.out.row
            have hlo := hKy.out.low
            have hbo := hKy.out.book
            have hz1 : ∀ p ∈ x.req.heads, p.1.size ≤ 1000 ∧ p.2.size ≤ 1000 := fun p hp => by have := hsm.out.short p hp; omega
            have hl1 : x.req.heads.length ≤ 1000 := Nat.le_trans hsm.out.few (by decide)
            have hrk := hok.out.req.later hlo
            have hMy := hMH.out.later hlo
            have hli := fun w' (h : Below wy.heap.size wy w') => bookList W.heap.size S1 bk1 w' (hbo.later h) (by omega)
            have hfo := fun w' (h : Below wy.heap.size wy w') => bookForP W.heap.size S1 bk1 x.req x.now w' (hbo.later h) (by omega)
            have hrf := fun w' (h : Below wy.heap.size wy w') => refBookFor ra1 rc1 bk1 x.req x.now w' (hrow.later h) (by omega)
            have hcp := fun w' (h : Below wy.heap.size wy w') => bookCoversP W.heap.size S1 bk1 x.req x.now w' (hbo.later h) (by omega) (hMy.later h) (hrk.later h) hl1 hz1
            have hcr := fun w' (h : Below wy.heap.size wy w') => refBookCovers ra1 rc1 bk1 x.req x.now w' (hrow.later h) hKy.out.ok (by omega) (hMy.later h) (hrk.later h) hl1 hz1
            have hbfl : (bookFor x.req x.now bk1).length ≤ bk1.length := List.length_filter_le _ _
            generalize bookFor x.req x.now bk1 = bf at hfo hrf hbfl
            obtain ⟨cv, hcv⟩ : ∃ cv, coversV x.req x.now bk1 = cv := ⟨_, rfl⟩
            simp only [hcv] at hcp hcr
            have hmk : ∀ w', Below wy.heap.size wy w' → Below wy.heap.size wy w' ∧ Blk w' P x.arr tBOp ∧ w'.cell? ⟨P, 15, none⟩ = some (.int .i64 x.now) := fun w' h => ⟨h, hpy.out.later h, (hpy.out.later h).cell 15 rfl⟩
            have hb0 : Below wy.heap.size wy wy.drew := (Below.refl _ _).drew
            clear hlo hrk hMy hl1 hz1 hcv hsm
            cases cv
            all_goals
              go_upto_region 24 with (fail)
              refine wp_region_held_drew (S := fun w' => Below wy.heap.size wy w' ∧ Blk w' P x.arr tBOp ∧ w'.cell? ⟨P, 15, none⟩ = some (.int .i64 x.now)) (by kernel_rfl) (by (try dsimp only); exact hmk _ hb0) (fun hHeld => ?_)
              refine wpAnyH_take (i := 0) (v := ?_) rfl (by kernel_rfl) (by kernel_rfl) (by kernel_rfl) (fun _ _ _ h => h) (Or.inl ⟨by rfl, ?_⟩) (by assumption) ?_
              rotate_left
              · intro w hSw; (try dsimp only at hSw); go_simp; (try with_reducible rfl)
              (try simp only [List.getElem_toArray, List.getElem_cons_succ, List.getElem_cons_zero, Act.put, List.setIfInBounds_toArray, List.set_cons_zero, List.set_cons_succ])
              refine wpAnyH_take (i := 2) (v := ?_) rfl (by kernel_rfl) (by kernel_rfl) (by kernel_rfl) (fun _ _ _ h => h) (Or.inl ⟨by rfl, ?_⟩) (by assumption) ?_
              rotate_left
              · intro w hSw; (try dsimp only at hSw); go_simp; (try with_reducible rfl)
              (try simp only [List.getElem_toArray, List.getElem_cons_succ, List.getElem_cons_zero, Act.put, List.setIfInBounds_toArray, List.set_cons_zero, List.set_cons_succ])
              refine wpAnyH_ready (rs := [1]) (by kernel_rfl) (by simp) ?_
              refine AllReadyH.cons rfl (fun K hK => ?_) AllReadyH.nil
              go_simp
              go_at_call 13
              refine (hli _ hb0).mono ?_
              rintro e w101 ⟨v1, rfl, hO1, hB9⟩
              have hb1 : Below wy.heap.size wy w101 := hb0.then (Nat.le_refl _) hB9
              obtain ⟨a1, c1, rfl, hr1, _⟩ := OwnG.shape encPass_len hO1
              refine hK.out _ _ (by (try dsimp only); exact hmk _ hb1) (fun hHeld => ?_)
              clear hK K
              (try simp only [List.getElem_toArray, List.getElem_cons_succ, List.getElem_cons_zero, Act.put, List.setIfInBounds_toArray, List.set_cons_zero, List.set_cons_succ])
              refine wpAnyH_ready (rs := [3]) (by kernel_rfl) (by simp) ?_
              refine AllReadyH.cons rfl (fun K hK => ?_) AllReadyH.nil
              go_simp
              go_at_call 12
              refine (samePs a1 ra1 c1 rc1 bk1 _ hr1 (hrow.later hb1) (by omega)).mono ?_
              rintro e w102 ⟨rfl, hB9⟩
              have hb2 : Below wy.heap.size wy w102 := hb1.then (Nat.le_refl _) hB9
              refine hK.out _ _ (by (try dsimp only); exact hmk _ hb2) (fun hHeld => ?_)
              clear hK K
              (try simp only [List.getElem_toArray, List.getElem_cons_succ, List.getElem_cons_zero, Act.put, List.setIfInBounds_toArray, List.set_cons_zero, List.set_cons_succ])
              refine wpAnyH_take (i := 4) (v := ?_) rfl (by kernel_rfl) (by kernel_rfl) (by kernel_rfl) (fun _ _ _ h => h) (Or.inl ⟨by rfl, ?_⟩) (by assumption) ?_
              rotate_left
              · intro w hSw; (try dsimp only at hSw); go_simp; (try with_reducible rfl)
              (try simp only [List.getElem_toArray, List.getElem_cons_succ, List.getElem_cons_zero, Act.put, List.setIfInBounds_toArray, List.set_cons_zero, List.set_cons_succ])
              refine wpAnyH_take (i := 5) (v := ?_) rfl (by kernel_rfl) (by kernel_rfl) (by kernel_rfl) (fun _ _ _ h => h) (Or.inl ⟨by rfl, ?_⟩) (by assumption) ?_
              rotate_left
              · intro w hSw; (try dsimp only at hSw); go_simp; (try with_reducible rfl)
              (try simp only [List.getElem_toArray, List.getElem_cons_succ, List.getElem_cons_zero, Act.put, List.setIfInBounds_toArray, List.set_cons_zero, List.set_cons_succ])
              refine wpAnyH_take (i := 6) (v := ?_) rfl (by kernel_rfl) (by kernel_rfl) (by kernel_rfl) (fun _ _ _ h => h) (Or.inl ⟨by rfl, ?_⟩) (by assumption) ?_
              rotate_left
              · intro w hSw; (try dsimp only at hSw); go_simp; (try with_reducible rfl)
              (try simp only [List.getElem_toArray, List.getElem_cons_succ, List.getElem_cons_zero, Act.put, List.setIfInBounds_toArray, List.set_cons_zero, List.set_cons_succ])
              refine wpAnyH_take (i := 7) (v := ?_) rfl (by kernel_rfl) (by kernel_rfl) (by kernel_rfl) (fun _ _ _ h => h) (Or.inl ⟨by rfl, ?_⟩) (by assumption) ?_
              rotate_left
              · intro w hSw; (try dsimp only at hSw); go_simp; (try with_reducible rfl)
              (try simp only [List.getElem_toArray, List.getElem_cons_succ, List.getElem_cons_zero, Act.put, List.setIfInBounds_toArray, List.set_cons_zero, List.set_cons_succ])
              refine wpAnyH_take (i := 8) (v := .agg x.req.arr) rfl (by kernel_rfl) (by kernel_rfl) (by kernel_rfl) (fun _ _ _ h => h) (yieldsIf_load_mid (by rfl) tReq _ rfl P 1 (by rfl) x.req.arr.toList _ (fun w h => bop_req h.2.1) Tryz.underlying34 rfl infoReqG) (by assumption) ?_
              (try simp only [List.getElem_toArray, List.getElem_cons_succ, List.getElem_cons_zero, Act.put, List.setIfInBounds_toArray, List.set_cons_zero, List.set_cons_succ])
              refine wpAnyH_take (i := 9) (v := ?_) rfl (by kernel_rfl) (by kernel_rfl) (by kernel_rfl) (fun _ _ _ h => h) (Or.inl ⟨by rfl, ?_⟩) (by assumption) ?_
              rotate_left
              · intro w hSw; (try dsimp only at hSw); go_simp; (try with_reducible rfl)
              (try simp only [List.getElem_toArray, List.getElem_cons_succ, List.getElem_cons_zero, Act.put, List.setIfInBounds_toArray, List.set_cons_zero, List.set_cons_succ])
              refine wpAnyH_take (i := 10) (v := ?_) rfl (by kernel_rfl) (by kernel_rfl) (by kernel_rfl) (fun _ _ _ h => h) (Or.inl ⟨by rfl, ?_⟩) (by assumption) ?_
              rotate_left
              · intro w hSw; (try dsimp only at hSw); go_simp; (try with_reducible rfl)
              (try simp only [List.getElem_toArray, List.getElem_cons_succ, List.getElem_cons_zero, Act.put, List.setIfInBounds_toArray, List.set_cons_zero, List.set_cons_succ])
              refine wpAnyH_take (i := 12) (v := ?_) rfl (by kernel_rfl) (by kernel_rfl) (by kernel_rfl) (fun _ _ _ h => h) (Or.inl ⟨by rfl, ?_⟩) (by assumption) ?_
              rotate_left
              · intro w hSw; (try dsimp only at hSw); go_simp; (try with_reducible rfl)
              (try simp only [List.getElem_toArray, List.getElem_cons_succ, List.getElem_cons_zero, Act.put, List.setIfInBounds_toArray, List.set_cons_zero, List.set_cons_succ])
              refine wpAnyH_take (i := 13) (v := ?_) rfl (by kernel_rfl) (by kernel_rfl) (by kernel_rfl) (fun _ _ _ h => h) (Or.inl ⟨by rfl, ?_⟩) (by assumption) ?_
              rotate_left
              · intro w hSw; (try dsimp only at hSw); go_simp; (try with_reducible rfl)
              (try simp only [List.getElem_toArray, List.getElem_cons_succ, List.getElem_cons_zero, Act.put, List.setIfInBounds_toArray, List.set_cons_zero, List.set_cons_succ])
              refine wpAnyH_take (i := 14) (v := .agg x.req.arr) rfl (by kernel_rfl) (by kernel_rfl) (by kernel_rfl) (fun _ _ _ h => h) (yieldsIf_load_mid (by rfl) tReq _ rfl P 1 (by rfl) x.req.arr.toList _ (fun w h => bop_req h.2.1) Tryz.underlying34 rfl infoReqG) (by assumption) ?_
              (try simp only [List.getElem_toArray, List.getElem_cons_succ, List.getElem_cons_zero, Act.put, List.setIfInBounds_toArray, List.set_cons_zero, List.set_cons_succ])
              refine wpAnyH_take (i := 15) (v := ?_) rfl (by kernel_rfl) (by kernel_rfl) (by kernel_rfl) (fun _ _ _ h => h) (Or.inl ⟨by rfl, ?_⟩) (by assumption) ?_
              rotate_left
              · intro w hSw; (try dsimp only at hSw); go_simp; (try with_reducible rfl)
              (try simp only [List.getElem_toArray, List.getElem_cons_succ, List.getElem_cons_zero, Act.put, List.setIfInBounds_toArray, List.set_cons_zero, List.set_cons_succ])
              refine wpAnyH_take (i := 16) (v := ?_) rfl (by kernel_rfl) (by kernel_rfl) (by kernel_rfl) (fun _ _ _ h => h) (Or.inl ⟨by rfl, ?_⟩) (by assumption) ?_
              rotate_left
              · intro w hSw; (try dsimp only at hSw); go_simp; (try with_reducible rfl)
              (try simp only [List.getElem_toArray, List.getElem_cons_succ, List.getElem_cons_zero, Act.put, List.setIfInBounds_toArray, List.set_cons_zero, List.set_cons_succ])
              refine wpAnyH_ready (rs := [11]) (by kernel_rfl) (by simp) ?_
              refine AllReadyH.cons rfl (fun K hK => ?_) AllReadyH.nil
              go_simp
              go_at_call 14
              refine (hfo _ hb2).mono ?_
              rintro e w103 ⟨⟨v3, rfl, hO3⟩, hB9⟩
              have hb3 : Below wy.heap.size wy w103 := hb2.then (Nat.le_refl _) hB9
              obtain ⟨a3, c3, rfl, hr3, _⟩ := OwnG.shape encPass_len hO3
              refine hK.out _ _ (by (try dsimp only); exact hmk _ hb3) (fun hHeld => ?_)
              clear hK K
              (try simp only [List.getElem_toArray, List.getElem_cons_succ, List.getElem_cons_zero, Act.put, List.setIfInBounds_toArray, List.set_cons_zero, List.set_cons_succ])
              refine wpAnyH_ready (rs := [17]) (by kernel_rfl) (by simp) ?_
              refine AllReadyH.cons rfl (fun K hK => ?_) AllReadyH.nil
              go_simp
              go_at_call 15
              refine (hrf _ hb3).mono ?_
              rintro e w104 ⟨⟨v4, rfl, hO4⟩, hB9⟩
              have hb4 : Below wy.heap.size wy w104 := hb3.then (Nat.le_refl _) hB9
              obtain ⟨a4, c4, rfl, hr4, _⟩ := OwnG.shape encPass_len hO4
              have hr3' := RowAt.later hr3 hB9
              refine hK.out _ _ (by (try dsimp only); exact hmk _ hb4) (fun hHeld => ?_)
              clear hK K
              (try simp only [List.getElem_toArray, List.getElem_cons_succ, List.getElem_cons_zero, Act.put, List.setIfInBounds_toArray, List.set_cons_zero, List.set_cons_succ])
              refine wpAnyH_ready (rs := [18]) (by kernel_rfl) (by simp) ?_
              refine AllReadyH.cons rfl (fun K hK => ?_) AllReadyH.nil
              go_simp
              go_at_call 12
              refine (samePs a3 a4 c3 c4 bf _ hr3' hr4 (by omega)).mono ?_
              rintro e w105 ⟨rfl, hB9⟩
              have hb5 : Below wy.heap.size wy w105 := hb4.then (Nat.le_refl _) hB9
              refine hK.out _ _ (by (try dsimp only); exact hmk _ hb5) (fun hHeld => ?_)
              clear hK K
              (try simp only [List.getElem_toArray, List.getElem_cons_succ, List.getElem_cons_zero, Act.put, List.setIfInBounds_toArray, List.set_cons_zero, List.set_cons_succ])
              refine wpAnyH_take (i := 19) (v := ?_) rfl (by kernel_rfl) (by kernel_rfl) (by kernel_rfl) (fun _ _ _ h => h) (Or.inl ⟨by rfl, ?_⟩) (by assumption) ?_
              rotate_left
              · intro w hSw; (try dsimp only at hSw); go_simp; (try with_reducible rfl)
              (try simp only [List.getElem_toArray, List.getElem_cons_succ, List.getElem_cons_zero, Act.put, List.setIfInBounds_toArray, List.set_cons_zero, List.set_cons_succ])
              refine wpAnyH_take (i := 20) (v := ?_) rfl (by kernel_rfl) (by kernel_rfl) (by kernel_rfl) (fun _ _ _ h => h) (Or.inl ⟨by rfl, ?_⟩) (by assumption) ?_
              rotate_left
              · intro w hSw; (try dsimp only at hSw); go_simp; (try with_reducible rfl)
              (try simp only [List.getElem_toArray, List.getElem_cons_succ, List.getElem_cons_zero, Act.put, List.setIfInBounds_toArray, List.set_cons_zero, List.set_cons_succ])
              refine wpAnyH_take (i := 21) (v := ?_) rfl (by kernel_rfl) (by kernel_rfl) (by kernel_rfl) (fun _ _ _ h => h) (Or.inl ⟨by rfl, ?_⟩) (by assumption) ?_
              rotate_left
              · intro w hSw; (try dsimp only at hSw); go_simp; (try with_reducible rfl)
              (try simp only [List.getElem_toArray, List.getElem_cons_succ, List.getElem_cons_zero, Act.put, List.setIfInBounds_toArray, List.set_cons_zero, List.set_cons_succ])
              refine wpAnyH_take (i := 22) (v := ?_) rfl (by kernel_rfl) (by kernel_rfl) (by kernel_rfl) (fun _ _ _ h => h) (Or.inl ⟨by rfl, ?_⟩) (by assumption) ?_
              rotate_left
              · intro w hSw; (try dsimp only at hSw); go_simp; (try with_reducible rfl)
              (try simp only [List.getElem_toArray, List.getElem_cons_succ, List.getElem_cons_zero, Act.put, List.setIfInBounds_toArray, List.set_cons_zero, List.set_cons_succ])
              refine wpAnyH_take (i := 23) (v := ?_) rfl (by kernel_rfl) (by kernel_rfl) (by kernel_rfl) (fun _ _ _ h => h) (Or.inl ⟨by rfl, ?_⟩) (by assumption) ?_
              rotate_left
              · intro w hSw; (try dsimp only at hSw); go_simp; (try with_reducible rfl)
              (try simp only [List.getElem_toArray, List.getElem_cons_succ, List.getElem_cons_zero, Act.put, List.setIfInBounds_toArray, List.set_cons_zero, List.set_cons_succ])
              refine wpAnyH_take (i := 24) (v := .agg x.req.arr) rfl (by kernel_rfl) (by kernel_rfl) (by kernel_rfl) (fun _ _ _ h => h) (yieldsIf_load_mid (by rfl) tReq _ rfl P 1 (by rfl) x.req.arr.toList _ (fun w h => bop_req h.2.1) Tryz.underlying34 rfl infoReqG) (by assumption) ?_
              (try simp only [List.getElem_toArray, List.getElem_cons_succ, List.getElem_cons_zero, Act.put, List.setIfInBounds_toArray, List.set_cons_zero, List.set_cons_succ])
              refine wpAnyH_take (i := 25) (v := ?_) rfl (by kernel_rfl) (by kernel_rfl) (by kernel_rfl) (fun _ _ _ h => h) (Or.inl ⟨by rfl, ?_⟩) (by assumption) ?_
              rotate_left
              · intro w hSw; (try dsimp only at hSw); go_simp; (try with_reducible rfl)
              (try simp only [List.getElem_toArray, List.getElem_cons_succ, List.getElem_cons_zero, Act.put, List.setIfInBounds_toArray, List.set_cons_zero, List.set_cons_succ])
              refine wpAnyH_take (i := 26) (v := ?_) rfl (by kernel_rfl) (by kernel_rfl) (by kernel_rfl) (fun _ _ _ h => h) (Or.inl ⟨by rfl, ?_⟩) (by assumption) ?_
              rotate_left
              · intro w hSw; (try dsimp only at hSw); go_simp; (try with_reducible rfl)
              (try simp only [List.getElem_toArray, List.getElem_cons_succ, List.getElem_cons_zero, Act.put, List.setIfInBounds_toArray, List.set_cons_zero, List.set_cons_succ])
              refine wpAnyH_take (i := 28) (v := ?_) rfl (by kernel_rfl) (by kernel_rfl) (by kernel_rfl) (fun _ _ _ h => h) (Or.inl ⟨by rfl, ?_⟩) (by assumption) ?_
              rotate_left
              · intro w hSw; (try dsimp only at hSw); go_simp; (try with_reducible rfl)
              (try simp only [List.getElem_toArray, List.getElem_cons_succ, List.getElem_cons_zero, Act.put, List.setIfInBounds_toArray, List.set_cons_zero, List.set_cons_succ])
              refine wpAnyH_take (i := 29) (v := ?_) rfl (by kernel_rfl) (by kernel_rfl) (by kernel_rfl) (fun _ _ _ h => h) (Or.inl ⟨by rfl, ?_⟩) (by assumption) ?_
              rotate_left
              · intro w hSw; (try dsimp only at hSw); go_simp; (try with_reducible rfl)
              (try simp only [List.getElem_toArray, List.getElem_cons_succ, List.getElem_cons_zero, Act.put, List.setIfInBounds_toArray, List.set_cons_zero, List.set_cons_succ])
              refine wpAnyH_take (i := 30) (v := .agg x.req.arr) rfl (by kernel_rfl) (by kernel_rfl) (by kernel_rfl) (fun _ _ _ h => h) (yieldsIf_load_mid (by rfl) tReq _ rfl P 1 (by rfl) x.req.arr.toList _ (fun w h => bop_req h.2.1) Tryz.underlying34 rfl infoReqG) (by assumption) ?_
              (try simp only [List.getElem_toArray, List.getElem_cons_succ, List.getElem_cons_zero, Act.put, List.setIfInBounds_toArray, List.set_cons_zero, List.set_cons_succ])
              refine wpAnyH_take (i := 31) (v := ?_) rfl (by kernel_rfl) (by kernel_rfl) (by kernel_rfl) (fun _ _ _ h => h) (Or.inl ⟨by rfl, ?_⟩) (by assumption) ?_
              rotate_left
              · intro w hSw; (try dsimp only at hSw); go_simp; (try with_reducible rfl)
              (try simp only [List.getElem_toArray, List.getElem_cons_succ, List.getElem_cons_zero, Act.put, List.setIfInBounds_toArray, List.set_cons_zero, List.set_cons_succ])
              refine wpAnyH_take (i := 32) (v := ?_) rfl (by kernel_rfl) (by kernel_rfl) (by kernel_rfl) (fun _ _ _ h => h) (Or.inl ⟨by rfl, ?_⟩) (by assumption) ?_
              rotate_left
              · intro w hSw; (try dsimp only at hSw); go_simp; (try with_reducible rfl)
              (try simp only [List.getElem_toArray, List.getElem_cons_succ, List.getElem_cons_zero, Act.put, List.setIfInBounds_toArray, List.set_cons_zero, List.set_cons_succ])
              refine wpAnyH_ready (rs := [27]) (by kernel_rfl) (by simp) ?_
              refine AllReadyH.cons rfl (fun K hK => ?_) AllReadyH.nil
              go_simp
              go_at_call 16
              refine (hcp _ hb5).mono ?_
              rintro e w106 ⟨rfl, hB9⟩
              have hb6 : Below wy.heap.size wy w106 := hb5.then (Nat.le_refl _) hB9
              refine hK.out _ _ (by (try dsimp only); exact hmk _ hb6) (fun hHeld => ?_)
              clear hK K
              (try simp only [List.getElem_toArray, List.getElem_cons_succ, List.getElem_cons_zero, Act.put, List.setIfInBounds_toArray, List.set_cons_zero, List.set_cons_succ])
              refine wpAnyH_ready (rs := [33]) (by kernel_rfl) (by simp) ?_
              refine AllReadyH.cons rfl (fun K hK => ?_) AllReadyH.nil
              go_simp
              go_at_call 17
              refine (hcr _ hb6).mono ?_
              rintro e w107 ⟨rfl, hB9⟩
              have hb7 : Below wy.heap.size wy w107 := hb6.then (Nat.le_refl _) hB9
              refine hK.out _ _ (by (try dsimp only); exact hmk _ hb7) (fun hHeld => ?_)
              clear hK K
              (try simp only [List.getElem_toArray, List.getElem_cons_succ, List.getElem_cons_zero, Act.put, List.setIfInBounds_toArray, List.set_cons_zero, List.set_cons_succ])
              refine wpAnyH_take (i := 34) (v := ?_) rfl (by kernel_rfl) (by kernel_rfl) (by kernel_rfl) (fun _ _ _ h => h) (Or.inl ⟨by rfl, ?_⟩) (by assumption) ?_
              rotate_left
              · intro w hSw; (try dsimp only at hSw); go_simp; (try with_reducible rfl)
              (try simp only [List.getElem_toArray, List.getElem_cons_succ, List.getElem_cons_zero, Act.put, List.setIfInBounds_toArray, List.set_cons_zero, List.set_cons_succ])
              refine wpAnyH_take (i := 35) (v := ?_) rfl (by kernel_rfl) (by kernel_rfl) (by kernel_rfl) (fun _ _ _ h => h) (Or.inl ⟨by rfl, ?_⟩) (by assumption) ?_
              rotate_left
              · intro w hSw; (try dsimp only at hSw); go_simp; (try with_reducible rfl)
              (try simp only [List.getElem_toArray, List.getElem_cons_succ, List.getElem_cons_zero, Act.put, List.setIfInBounds_toArray, List.set_cons_zero, List.set_cons_succ])
              refine wpAnyH_done (by kernel_rfl) ?_ _
              have hK9 := Lib.hid (hKy.out.later hb7)
              clear hb0 hb1 hb2 hb3 hb4 hb5 hb6 hb7 hmk hli hfo hrf hcp hcr
              go_wp2
              go_roundw
              case rel => exact ⟨k + 1, bk1, ra1, rc1, S1, by omega, by go_num, rfl, hbl1, hK9⟩
              case measure => simp [intOf]; omega
    · obtain rfl : os.length = k := by omega
      have hlo := hK.out.low
      have hcy := bookCopy W.heap.size S bk wr hK.out.book (by omega)
      go_wp2_with fail
      refine hcy.mono ?_
      rintro e w2 ⟨bc, rfl, hbc, hB2⟩
      have hK2 := Lib.hid (hK.out.later hB2)
      have hli := bookList bc _ bk w2 hbc (by omega)
      clear hcy hB2 hbc hlo
      go_wp2_with fail
      refine hli.mono ?_
      rintro e w3 ⟨v3, rfl, hO3, hB3⟩
      obtain ⟨a3, c3, rfl, hr3, _⟩ := OwnG.shape encPass_len hO3
      have hK3 := Lib.hid (hK2.out.later hB3)
      have hsp := samePs a3 ra c3 rc bk w3 hr3 hK3.out.row (by omega)
      clear hli hO3 hB3 hr3
      go_wp2_with fail
      refine hsp.mono ?_
      rintro e w4 ⟨rfl, hB4⟩
      have hK4 := Lib.hid (hK3.out.later hB4)
      clear hsp hB4
      go_wp2
      go_ret
      exact ⟨rfl, hK4.out.low⟩
end Go.Proofs.YtnfcdccdmlodeaaGreatDoor.lawBookKeeps
