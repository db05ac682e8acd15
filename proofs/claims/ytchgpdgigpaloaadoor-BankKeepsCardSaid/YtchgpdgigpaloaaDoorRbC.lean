/- The reference's bank: Find. -/
import Derived.Test.YtchgpdgigpaloaaDoorRbA
import Derived.Test.YtchgpdgigpaloaaDoorBankC
namespace Go.Proofs.YtchgpdgigpaloaaDoor
set_option linter.unusedSimpArgs false
open Go.RowKit Go.Deep
theorem far_snoc {ok : Bool} {path : ByteArray} {i : Nat} {st : Int × Int} {ps : List ByteArray} {n : Nat} (h : n < ps.length) : (ps.take (n + 1)).foldl (farStep ok path i) st = farStep ok path i ((ps.take n).foldl (farStep ok path i) st) ps[n] := by
  rw [List.take_succ_eq_append_getElem h, List.foldl_append]
  rfl
set_option maxRecDepth 100000 in
set_option maxHeartbeats 8000000 in
theorem refBankFind (a : Option Addr) (cap : Nat) (Gs : List Gra) (wa : Option Addr) (wn wc : Nat) (o : Org) (p : Bool) (path : ByteArray) (w : World) (hS : RowAt 16 encGra w a Gs) (hT : ∀ g ∈ Gs, StrAt w g.addr g.paths) (hok : ∀ g ∈ Gs, g.paths.length ≤ 100000 ∧ ∀ x ∈ g.paths, x.size ≤ 140737488351232) (hl : Gs.length ≤ 100000) :
    Calls Tryd.prog 19 #[.agg #[.slice a Gs.length cap, .slice wa wn wc], .agg (orgArr o), .bool p, .string path] w fun e w' => e = .returned (.int .i64 (findB o p path (Gs.map Gra.d))) ∧ Below w.heap.size w w' := by
  have hal : Below w.heap.size w ((w.alloc (.cells #[.slice a Gs.length cap, .slice wa wn wc] tRBk)).alloc (.cells (orgArr o) 32)) := (((Below.refl w.heap.size w).alloc (by simp; try omega) (.cells #[.slice a Gs.length cap, .slice wa wn wc] tRBk)).alloc (by simp; try omega) (.cells (orgArr o) 32))
  have hbk := ((Blk.new w #[.slice a Gs.length cap, .slice wa wn wc] tRBk).alloc (.cells (orgArr o) 32))
  have hq := (Blk.new (w.alloc (.cells #[.slice a Gs.length cap, .slice wa wn wc] tRBk)) (orgArr o) 32)
  simp only [World.size_alloc] at hq
  obtain ⟨fb, hfb⟩ : ∃ fb, Hid (findL o p path (Gs.map Gra.d) = fb) := ⟨_, Lib.hid rfl⟩
  have hfr : Hid (findB o p path (Gs.map Gra.d) = fb.2) := Lib.hid (by rw [← hfb.out]; rfl)
  go_enter Tryd.func19, Tryd.ntmps19
  go_upto_region 3 with (fail)
  generalize ((w.alloc (.cells #[.slice a Gs.length cap, .slice wa wn wc] tRBk)).alloc (.cells (orgArr o) 32)) = w5 at hal hbk hq ⊢
  obtain ⟨so, ho, po⟩ := o
  have c0 : _ = some (Value.slice a Gs.length cap) := hbk.cell 0 rfl
  have halH := Lib.hid hal
  have hqH := Lib.hid hq
  have hrH := Lib.hid hS
  have hTH := Lib.hid hT
  have hokH := Lib.hid hok
  have hzl := hq.lt
  clear hal hq hS hT hok hbk
  go_wp2
  go_loopw [9, 10, 11, 12, 14, 18] (fun v9 v10 _ _ _ vi wr => ∃ (k : Nat) (m j : Int), k ≤ Gs.length ∧ vi = .int .i64 k ∧ v9 = .int .i64 j ∧ v10 = .int .i64 m ∧ Hid ((m, j) = findL ⟨so, ho, po⟩ p path ((Gs.take k).map Gra.d)) ∧ Hid (Below w.heap.size w wr) ∧ Hid (Blk wr (w.heap.size + 1) (orgArr ⟨so, ho, po⟩) 32)) (fun _ _ _ _ _ vi _ => Gs.length - (intOf vi).toNat)
  case atStart => exact ⟨0, -1, -1, Nat.zero_le _, rfl, rfl, rfl, Lib.hid rfl, halH, hqH⟩
  case round =>
    obtain ⟨k, m, j, hk, rfl, rfl, rfl, hF, hB, hq⟩ := hrel
    by_cases hlt : k < Gs.length
    · obtain ⟨pb, po2, rfl, hc⟩ := (hrH.out.later hB.out) k hlt
      have hrg : wr.rangeAt pb (po2 + k * 16) (encGra Gs[k]) := hc
      have hmem := List.getElem_mem hlt
      have hn := Lib.hid (show findL ⟨so, ho, po⟩ p path ((Gs.take (k + 1)).map Gra.d) = findStep ⟨so, ho, po⟩ p path (m, j) (Gs[k].d, k) by rw [find_snoc hlt, ← hF.out])
      have hfi := Lib.hid (far_is ⟨so, ho, po⟩ p path k (m, j) Gs[k].d)
      have hst := Lib.hid ((hTH.out _ hmem).later hB.out)
      have hok1 := hokH.out _ hmem
      have hZ := Blk.new wr zGra tGra
      have hbs := hB.out.size
      clear hc hmem
      generalize Gs[k] = x at hrg hn hfi hst hok1
      go_upto_region 6 with (first
        | (refine wpList_load_mid rfl tGra _ rfl pb (po2 + k * 16) rfl (encGra x) _ hrg undGra rfl infoGra ?_)
        | (refine wpList_store_blk rfl tGra _ _ rfl _ rfl hZ x.arr rfl rfl infoGra (gra_one x) ?_; intro wa2 hpas hga))
      have hBa := Lib.hid (below_only (hB.out.alloc hbs (.cells zGra tGra)) hga (by simp; omega) hbs)
      have hqa := (hq.out.alloc (.cells zGra tGra)).grown hga (fun e => by have := Option.some.inj e; have := hq.out.lt; omega)
      have hqaH := Lib.hid hqa
      have hBw : Below wr.heap.size wr wa2 := below_only ((Below.refl _ _).alloc (Nat.le_refl _) (.cells zGra tGra)) hga (by simp) (Nat.le_refl _)
      have hpt := Lib.hid (hst.out.later hBw)
      clear hrg hZ hga hB hq hst hBw
      have h1 := fun w => org_eql x.orig ⟨so, ho, po⟩ w
      have hofb : Hid (ofB ⟨so, ho, po⟩ p x.d = (orgE x.orig ⟨so, ho, po⟩ && (x.proxy == p))) := Lib.hid rfl
      obtain ⟨⟨s1, g1, p1⟩, proxy, user, pass, ⟨⟨sc, realm, nonce, opq, sess, qop, stale, dom⟩, ad, cp⟩, count, paths, ad2, cp2⟩ := x
      simp only at h1 hpt hok1 hofb
      have c15 : _ = some (Value.slice ad2 paths.length cp2) := hpas.cell 15 rfl
      have d0 : _ = some (Value.bool s1) := hpas.cell 0 rfl
      have d1 : _ = some (Value.string g1) := hpas.cell 1 rfl
      have d2 : _ = some (Value.int .i64 p1) := hpas.cell 2 rfl
      have d3 : _ = some (Value.bool proxy) := hpas.cell 3 rfl
      obtain ⟨hpl, hpz⟩ := hok1
      generalize orgE ⟨s1, g1, p1⟩ ⟨so, ho, po⟩ = r1 at h1 hofb
      obtain ⟨ok, hokd⟩ : ∃ ok, Hid (ok = (r1 && (proxy == p))) := ⟨_, Lib.hid rfl⟩
      rw [← hokd.out] at hofb
      simp only [hofb.out] at hfi
      go_wp2
      go_loop [9, 10, 14, 26] (fun v9 v10 _ v26 => ∃ (n : Nat) (m2 j2 : Int), n ≤ paths.length ∧ v26 = .int .i64 n ∧ v9 = .int .i64 j2 ∧ v10 = .int .i64 m2 ∧ Hid ((m2, j2) = (paths.take n).foldl (farStep ok path k) (m, j))) (fun _ _ _ v26 => paths.length - (intOf v26).toNat)
      case atStart => exact ⟨0, m, j, Nat.zero_le _, rfl, rfl, rfl, Lib.hid rfl⟩
      case round =>
        obtain ⟨n, m2, j2, hn2, rfl, rfl, rfl, hM⟩ := hrel
        by_cases hlt2 : n < paths.length
        · obtain ⟨b2, off2, rfl, hc2⟩ := hpt.out n hlt2
          have hzk := hpz _ (List.getElem_mem hlt2)
          have hsn := Lib.hid (show (paths.take (n + 1)).foldl (farStep ok path k) (m, j) = farStep ok path k (m2, j2) paths[n] by rw [far_snoc hlt2, ← hM.out])
          have hpx := fun w => Tryd.strings_HasPrefix path paths[n] w
          have hws : Lib.hasPrefix path.data.toList paths[n].data.toList = withinB path paths[n] := rfl
          rw [hws] at hpx
          clear hws
          generalize paths[n] = y at hc2 hzk hpx hsn
          by_cases hE : ok = true ∧ withinB path y = true ∧ m2 ≤ (y.size : Int)
          · obtain ⟨hE1, hE2, hE3⟩ := hE
            have hr := Lib.hid (show ((y.size : Int), (k : Int)) = (paths.take (n + 1)).foldl (farStep ok path k) (m, j) by rw [hsn.out]; unfold farStep; rw [hE1, hE2]; simp [hE3])
            rw [hokd.out] at hE1
            simp only [Bool.and_eq_true] at hE1
            obtain ⟨e1, e2⟩ := hE1
            simp only [e1] at h1
            simp only [hE2] at hpx
            clear hsn hE2
            go_wp2_with (first
              | (refine wpList_load_blk rfl 32 _ rfl _ rfl hqa _ Tryd.underlying32 rfl infoOrgB ?_)
              | ((with_reducible show wpList _ _ _ ({ dst := _, op := Op.binOp _ _ _ _ _, type := _, pos := _, after := _, guard := _ } :: _) _ _); refine wpList_eql_agg _ rfl .eql 32 32 _ _ rfl #[.bool s1, .string g1, .int .i64 p1] #[.bool so, .string ho, .int .i64 po] (by rfl) (by rfl) noGuardOrg _ (h1 _) ?_)
              | (go_at_call 48; refine (hpx _).mono ?_; rintro e w' ⟨rfl, rfl⟩))
            go_round
            case rel => exact ⟨n + 1, _, _, by omega, by go_num, rfl, rfl, hr⟩
            case measure => simp [intOf]; omega
          · have hr := Lib.hid (show (m2, j2) = (paths.take (n + 1)).foldl (farStep ok path k) (m, j) by
              rw [hsn.out]; unfold farStep
              rw [if_neg]
              simpa [and_assoc] using hE)
            clear hsn
            have hcase : r1 = false ∨ (r1 = true ∧ (proxy == p) = false) ∨ (r1 = true ∧ (proxy == p) = true ∧ withinB path y = false) ∨ (r1 = true ∧ (proxy == p) = true ∧ withinB path y = true ∧ ¬ m2 ≤ (y.size : Int)) := by
              have h := hokd.out
              cases hA : r1
              · exact .inl rfl
              · cases hP : (proxy == p)
                · exact .inr (.inl ⟨rfl, rfl⟩)
                · cases hQ : withinB path y
                  · exact .inr (.inr (.inl ⟨rfl, rfl, rfl⟩))
                  · refine .inr (.inr (.inr ⟨rfl, rfl, rfl, fun h3 => hE ⟨?_, hQ, h3⟩⟩))
                    rw [h, hA, hP]; rfl
            clear hE
            rcases hcase with e1 | ⟨e1, e2⟩ | ⟨e1, e2, e3⟩ | ⟨e1, e2, e3, e4⟩
            all_goals
              simp only [e1] at h1
              try (simp only [e3] at hpx)
              go_wp2_with (first
                | (refine wpList_load_blk rfl 32 _ rfl _ rfl hqa _ Tryd.underlying32 rfl infoOrgB ?_)
                | ((with_reducible show wpList _ _ _ ({ dst := _, op := Op.binOp _ _ _ _ _, type := _, pos := _, after := _, guard := _ } :: _) _ _); refine wpList_eql_agg _ rfl .eql 32 32 _ _ rfl #[.bool s1, .string g1, .int .i64 p1] #[.bool so, .string ho, .int .i64 po] (by rfl) (by rfl) noGuardOrg _ (h1 _) ?_)
                | (go_at_call 48; refine (hpx _).mono ?_; rintro e w' ⟨rfl, rfl⟩))
              go_round
              case rel => exact ⟨n + 1, m2, j2, by omega, by go_num, rfl, rfl, hr⟩
              case measure => simp [intOf]; omega
        · obtain rfl : paths.length = n := by omega
          rw [List.take_length] at hM
          have hF2 := Lib.hid (show (m2, j2) = findL ⟨so, ho, po⟩ p path ((Gs.take (k + 1)).map Gra.d) by rw [hn.out, ← hfi.out]; exact hM.out)
          clear hM hn hfi
          go_wp2
          go_roundw
          case rel => exact ⟨k + 1, m2, j2, by omega, by go_num, rfl, rfl, hF2, hBa, hqaH⟩
          case measure => simp [intOf]; omega
    · obtain rfl : Gs.length = k := by omega
      rw [List.take_length] at hF
      have hj := Lib.hid (show j = findB ⟨so, ho, po⟩ p path (Gs.map Gra.d) by unfold findB; rw [← hF.out])
      go_wp2
      go_ret
      exact ⟨by rw [hj.out]; rfl, hB.out⟩
end Go.Proofs.YtchgpdgigpaloaaDoor
