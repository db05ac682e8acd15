/- The reference's some: those of a book that meet a function value. -/
import Derived.Test.YtnfcdccdmlodeaaGreatDoorBookP
import Derived.Test.YtnfcdccdmlodeaaGreatDoorGrantG
import Derived.Test.YtnfcdccdmlodeaaGreatDoorCovR
namespace Go.Proofs.YtnfcdccdmlodeaaGreatDoor
open Go.RowKit Go.Deep
theorem filter_yes {f : Pass → Bool} {ps : List Pass} {k : Nat} (h : k < ps.length) (e : f ps[k] = true) : (ps.take (k + 1)).filter f = (ps.take k).filter f ++ [ps[k]] := by
  rw [List.take_succ_eq_append_getElem h, List.filter_append]; simp [e]
theorem filter_no {f : Pass → Bool} {ps : List Pass} {k : Nat} (h : k < ps.length) (e : f ps[k] = false) : (ps.take (k + 1)).filter f = (ps.take k).filter f := by
  rw [List.take_succ_eq_append_getElem h, List.filter_append]; simp [e]
theorem own_fresh {w : World} {B : Nat} {v : Value} {l : List Pass} (h : OwnG tPass 12 encPass w B v l) : v.ownBlock ≠ some w.heap.size := fun e => absurd (World.ownsRow.lt h _ e).2 (Nat.lt_irrefl _)
set_option maxRecDepth 100000 in
set_option maxHeartbeats 4000000 in
theorem bookSome (g : Nat) (lb : Array Value) (f : Pass → Bool) (a : Option Addr) (cap : Nat) (ps : List Pass) (w : World) (hS : PassAt w a ps) (hl : ps.length ≤ 1048576) (eg : ∀ args w, (callFunc g args).run Tryz.prog w = .ok (.enter g args) w) (hp : PredP g lb f ps w) :
    Calls Tryz.prog 31 #[.slice a ps.length cap, .func (.func g) #[] lb] w fun e w' => (∃ v, e = .returned v ∧ OwnG tPass 12 encPass w' w.heap.size v (ps.filter f)) ∧ Below w.heap.size w w' := by
  go_enter Tryz.func31, Tryz.ntmps31
  go_wp2
  go_loopw [5, 10] (fun v5 vi wr => ∃ k : Nat, k ≤ ps.length ∧ vi = .int .i64 k ∧ Hid (OwnG tPass 12 encPass wr w.heap.size v5 ((ps.take k).filter f)) ∧ Hid (Below w.heap.size w wr)) (fun _ vi _ => ps.length - (intOf vi).toNat)
  case atStart => exact ⟨0, Nat.zero_le _, rfl, Lib.hid (OwnG.nil _ _), Lib.hid (Below.refl _ _)⟩
  case round =>
    obtain ⟨k, hk, rfl, hO, hB⟩ := hrel
    obtain ⟨a5, cap5, rfl, hs5⟩ := OwnG.shape encPass_len hO.out
    clear hs5
    by_cases hlt : k < ps.length
    · obtain ⟨b, off, rfl, hc⟩ := (hS.later hB.out) k hlt
      have hrg : wr.rangeAt b (off + k * 12) (encPass ps[k]) := hc
      have hpk := fun wa h => hp wa _ h (List.getElem_mem hlt)
      have hy := Lib.hid (filter_yes (f := f) hlt)
      have hn := Lib.hid (filter_no (f := f) hlt)
      have hlen : ((ps.take k).filter f).length ≤ 1048576 := Nat.le_trans (List.length_filter_le _ _) (by rw [List.length_take]; omega)
      have hZ := Blk.new wr zPass tPass
      have hbs := hB.out.size
      clear hc
      generalize ps[k] = x at hrg hpk hy hn
      generalize (ps.take k).filter f = acc at hO hy hn hlen
      have hl1 : acc.length + 1 ≤ maxLen := by unfold maxLen; omega
      have hl2 : (acc.length + 1) * 144 ≤ 140737488355328 := by omega
      cases hq : f x
      · have hn' := Lib.hid (hn.out hq)
        simp only [hq] at hpk
        clear hq hy hn
        go_wp2_with (first
          | (refine wpList_load_mid rfl 79 _ rfl b (off + k * 12) rfl (encPass x) _ hrg Tryz.underlying79 rfl infoPass ?_)
          | (refine wpList_store_blk rfl tPass _ _ rfl _ rfl hZ x.arr rfl rfl infoPass (pass_one x) ?_; intro wa hpas hga; have hBa := Lib.hid (below_only (hB.out.alloc hbs (.cells zPass tPass)) hga (by simp; omega) hbs); have hOa := Lib.hid (own_row_kept (OwnG.later hO.out ((Below.refl _ _).alloc (Nat.le_refl _) (.cells zPass tPass))) hga (own_fresh hO.out)); have hpk2 := hpk wa hBa.out)
          | (refine wpList_load_blk rfl tPass _ rfl _ rfl hpas _ Tryz.underlying79 rfl infoPass ?_)
          | (go_at_fn g; refine hpk2.mono ?_; rintro e w2 ⟨rfl, hB2⟩))
        have hO2 := Lib.hid (OwnG.later hOa.out hB2)
        have hB3 := Lib.hid (hBa.out.then (Nat.le_refl _) hB2)
        go_roundw
        case rel => exact ⟨k + 1, by omega, by go_num, Lib.hid (by rw [hn'.out]; exact hO2.out), hB3⟩
        case measure => simp [intOf]; omega
      · have hy' := Lib.hid (hy.out hq)
        simp only [hq] at hpk
        clear hq hy hn
        go_wp2_with (first
          | (refine wpList_load_mid rfl 79 _ rfl b (off + k * 12) rfl (encPass x) _ hrg Tryz.underlying79 rfl infoPass ?_)
          | (refine wpList_store_blk rfl tPass _ _ rfl _ rfl hZ x.arr rfl rfl infoPass (pass_one x) ?_; intro wa hpas hga; have hBa := Lib.hid (below_only (hB.out.alloc hbs (.cells zPass tPass)) hga (by simp; omega) hbs); have hOa := Lib.hid (own_row_kept (OwnG.later hO.out ((Below.refl _ _).alloc (Nat.le_refl _) (.cells zPass tPass))) hga (own_fresh hO.out)); have hpk2 := hpk wa hBa.out)
          | (refine wpList_load_blk rfl tPass _ rfl _ rfl hpas _ Tryz.underlying79 rfl infoPass ?_)
          | (go_at_fn g; refine hpk2.mono ?_; rintro e w2 ⟨rfl, hB2⟩; have hpas2 := hpas.later hB2; have hO2 := OwnG.later hOa.out hB2; have hB3 := Lib.hid (hBa.out.then (Nat.le_refl _) hB2); have hbs3 := hB3.out.size)
          | (refine wpList_load_blk rfl tPass _ rfl _ rfl hpas2 _ Tryz.underlying79 rfl infoPass ?_)
          | (at_builtin; refine wpList_append_one bytesPass' Tryz.underlying27 (by rfl) (by decide) encPass_len (by rfl) _ _ (by rfl) w2 w.heap.size (.slice a5 acc.length cap5) acc (by rfl) hO2 x (encPass_one _) _ (by rfl) _ (by rfl) (by rfl) hl1 hl2 hbs3 ?_; intro v4 w4 hO4 hG4 hne4))
        have hB4 := Lib.hid (below_append hB3.out hO2 hG4 hB3.out.size)
        have hO4' := Lib.hid hO4
        go_roundw
        case rel => exact ⟨k + 1, by omega, by go_num, Lib.hid (by rw [hy'.out]; exact hO4'.out), hB4⟩
        case measure => simp [intOf]; omega
    · obtain rfl : ps.length = k := by omega
      have hf := hO
      rw [List.take_length] at hf ⊢
      go_wp2
      go_ret
      exact ⟨⟨_, rfl, hf.out⟩, hB.out⟩
end Go.Proofs.YtnfcdccdmlodeaaGreatDoor
