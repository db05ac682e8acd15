/- The reference's Asked: the names of headers that must be asked for. -/
import Derived.Test.YtnfcdccdmlodeaaGreatDoorAsksS
import Derived.Test.YtnfcdccdmlodeaaGreatDoorPlainR
import Derived.Test.YtnfcdccdmlodeaaGreatDoorFound
namespace Go.Proofs.YtnfcdccdmlodeaaGreatDoor
open Go.RowKit
def hdl (ps : List (ByteArray × ByteArray)) : List Hd := ps.map fun p => (p.1.data.toList, p.2.data.toList)
theorem hdl_len (ps : List (ByteArray × ByteArray)) : (hdl ps).length = ps.length := by simp [hdl]
theorem hdl_take {ps : List (ByteArray × ByteArray)} {k : Nat} (h : k < ps.length) : (hdl ps).take (k + 1) = (hdl ps).take k ++ [(ps[k].1.data.toList, ps[k].2.data.toList)] := by
  rw [List.take_succ_eq_append_getElem (by rw [hdl_len]; exact h)]
  simp [hdl]
def refGo (b : Bool) (l : List Hd) : List (List UInt8) := (l.filter (fun p => b || !plH p)).map (fun p => lower p.1)
theorem refGo_snoc (b : Bool) (l : List Hd) (p : Hd) : refGo b (l ++ [p]) = refGo b l ++ (if (b || !plH p) = true then [lower p.1] else []) := by
  unfold refGo
  rw [List.filter_append, List.map_append]
  cases h : (b || !plH p) <;> simp [h]
theorem refGo_len (b : Bool) (l : List Hd) : (refGo b l).length ≤ l.length := by
  unfold refGo
  rw [List.length_map]
  exact (List.filter_sublist ..).length_le
theorem own_ge {w : World} {base : Nat} {v : Value} {ss : List ByteArray} (h : OwnStr w base v ss) {g : Nat} (hg : v.ownBlock = some g) : base ≤ g := (World.ownsRow.lt h g hg).1
theorem mkT_snoc (l : List (List UInt8)) (x : List UInt8) : mkT (l ++ [x]) = mkT l ++ [⟨x.toArray⟩] := by simp [mkT]
set_option maxRecDepth 100000 in
set_option maxHeartbeats 2000000 in
theorem refAsked (a : Option Addr) (cap : Nat) (ps : List (ByteArray × ByteArray)) (w : World) (hM : MaxL w) (hP : ParAt w a ps) (hl : ps.length ≤ 1000) (hz : ∀ p ∈ ps, p.1.size ≤ 1000 ∧ p.2.size ≤ 1000) :
    Calls Tryz.prog 71 #[.slice a ps.length cap] w fun e w' => (∃ v, e = .returned v ∧ OwnStr w' w.heap.size v (mkT (askL (hdl ps)))) ∧ Below w.heap.size w w' := by
  go_enter Tryz.func71, Tryz.ntmps71
  go_wp2
  go_loopw [3, 11] (fun v3 vi wr => ∃ k N : Nat, k ≤ ps.length ∧ vi = .int .i64 k ∧ v3 = .int .i64 N ∧ N ≤ k * 1000 ∧ Hid (N = plainSz ((hdl ps).take k)) ∧ Hid (Below w.heap.size w wr)) (fun _ vi _ => ps.length - (intOf vi).toNat)
  case atStart => exact ⟨0, 0, Nat.zero_le _, rfl, rfl, Nat.le_refl _, Lib.hid rfl, Lib.hid (Below.refl _ _)⟩
  case round =>
    obtain ⟨k, N, hk, rfl, rfl, hN, hNe, hB⟩ := hrel
    by_cases hlt : k < ps.length
    · obtain ⟨b, off, rfl, h1, h2⟩ := (hP.later hB.out) k hlt
      have hz1 := hz _ (List.getElem_mem hlt)
      have htk := Lib.hid (hdl_take hlt)
      generalize ps[k].1 = n at h1 hz1 htk
      generalize ps[k].2 = v at h2 hz1 htk
      have hBa := hB.out.alloc hB.out.size (Obj.cells #[.string n, .string v] 77)
      have hp := refPlain n v _ (hM.later hBa) (by omega) (by omega)
      have hpl : plH (n.data.toList, v.data.toList) = plainB n.data.toList v.data.toList := rfl
      have hBa' := Lib.hid hBa
      clear hBa
      cases hb : plainB n.data.toList v.data.toList
      · rw [hb] at hp
        have hN2 := Lib.hid (show N = plainSz ((hdl ps).take (k + 1)) by rw [htk.out, plainSz_snoc, ← hNe.out, hpl, hb]; rfl)
        clear hb hpl
        go_wp2_with fail
        refine hp.mono ?_
        rintro e w2 ⟨rfl, hB2⟩
        have hB3 := Lib.hid (hBa'.out.trans (hB2.mono hBa'.out.size))
        clear hp hB2
        go_wp2
        go_roundw
        case rel => exact ⟨k + 1, N, by omega, by go_num, rfl, by omega, hN2, hB3⟩
        case measure => simp [intOf]; omega
      · rw [hb] at hp
        have hN2 := Lib.hid (show N + v.size = plainSz ((hdl ps).take (k + 1)) by rw [htk.out, plainSz_snoc, ← hNe.out, hpl, hb, sz_len]; rfl)
        clear hb hpl
        go_wp2_with fail
        refine hp.mono ?_
        rintro e w2 ⟨rfl, hB2⟩
        have hB3 := Lib.hid (hBa'.out.trans (hB2.mono hBa'.out.size))
        have b1 := box_cell (c := #[.string n, .string v]) (by simpa using hB2) 1 rfl
        clear hp hB2
        go_wp2
        go_roundw
        case rel => exact ⟨k + 1, N + v.size, by omega, by go_num, by go_num, by omega, hN2, hB3⟩
        case measure => simp [intOf]; omega
    · obtain rfl : k = ps.length := by omega
      have hNe2 := Lib.hid (show N = plainSz (hdl ps) by rw [hNe.out, List.take_of_length_le (by rw [hdl_len]; exact Nat.le_refl _)])
      obtain ⟨bb, hbb⟩ : ∃ bb, decide (1024 < N) = bb := ⟨_, rfl⟩
      have hask : Hid (askRef (hdl ps) = refGo bb (hdl ps)) := Lib.hid (by unfold askRef refGo; rw [← hNe2.out, hbb])
      have hbi : decide ((1024 : Int) < (N : Int)) = bb := by rw [← hbb]; exact decide_eq_decide.2 (by omega)
      have hB0 := hB
      clear hNe hNe2 hlt hbb
      obtain ⟨w5, rfl⟩ : ∃ x, x = wr := ⟨_, rfl⟩
      go_wp2
      go_loopw [6, 25] (fun v6 vi wx => ∃ (k : Nat) (os : List ByteArray), k ≤ ps.length ∧ vi = .int .i64 k ∧ os.length ≤ k ∧ Hid (os = mkT (refGo bb ((hdl ps).take k))) ∧ Hid (OwnStr wx w5.heap.size v6 os) ∧ Hid (Below w5.heap.size w5 wx)) (fun _ vi _ => ps.length - (intOf vi).toNat)
      case atStart => exact ⟨0, [], Nat.zero_le _, rfl, Nat.le_refl _, Lib.hid rfl, Lib.hid (OwnStr.nil _ _), Lib.hid (Below.refl _ _)⟩
      case round =>
        obtain ⟨k, os, hk, rfl, hok, hos, hO, hB⟩ := hrel
        have hBw := Lib.hid (hB0.out.trans (hB.out.mono hB0.out.size))
        obtain ⟨a3, cap3, rfl, _, _, _, _⟩ := hO.out.shape
        by_cases hlt : k < ps.length
        · obtain ⟨b, off, rfl, h1, h2⟩ := (hP.later hBw.out) k hlt
          have hz1 := hz _ (List.getElem_mem hlt)
          have htk := Lib.hid (hdl_take hlt)
          generalize ps[k].1 = n at h1 hz1 htk
          generalize ps[k].2 = v at h2 hz1 htk
          obtain ⟨X, hX⟩ : ∃ X : ByteArray, X = ⟨(lower n.data.toList).toArray⟩ := ⟨_, rfl⟩
          have hlo := fun w' => refLower n w' (by unfold maxLen; omega)
          rw [← hX] at hlo
          have hyes : (bb || !plainB n.data.toList v.data.toList) = true → os ++ [X] = mkT (refGo bb ((hdl ps).take (k + 1))) := by
            intro h
            have h' : (bb || !plH (n.data.toList, v.data.toList)) = true := h
            rw [htk.out, refGo_snoc, if_pos h', mkT_snoc, ← hos.out, hX]
          have hno : (bb || !plainB n.data.toList v.data.toList) = false → os = mkT (refGo bb ((hdl ps).take (k + 1))) := by
            intro h
            rw [htk.out, refGo_snoc, if_neg (by rw [show plH (n.data.toList, v.data.toList) = plainB n.data.toList v.data.toList from rfl, h]; simp), List.append_nil]
            exact hos.out
          have hcl : os.length + 1 ≤ 1099511627776 := by omega
          have hal := (Below.refl wr.heap.size wr).alloc (Nat.le_refl _) (Obj.cells #[.string n, .string v] 77)
          have hOa := Lib.hid (hO.out.later hal)
          have hBa := Lib.hid (hB.out.alloc hB.out.size (Obj.cells #[.string n, .string v] 77))
          have hBwa := Lib.hid (hBw.out.alloc hBw.out.size (Obj.cells #[.string n, .string v] 77))
          have hp := refPlain n v _ (hM.later hBwa.out) (by omega) (by omega)
          clear hal hX
          cases bb
          · cases hb : plainB n.data.toList v.data.toList
            · rw [hb] at hp hyes
              have hyes' := Lib.hid (hyes rfl)
              clear hyes hno hb
              go_wp2_with fail
              refine hp.mono ?_
              rintro e w2 ⟨rfl, hB2⟩
              have b0 := box_cell (c := #[.string n, .string v]) (by simpa using hB2) 0 rfl
              have hO2 := Lib.hid (hOa.out.later hB2)
              have hB2' := Lib.hid (hBa.out.trans (hB2.mono hBa.out.size))
              clear hp hB2
              go_wp2_with fail
              refine (hlo w2).mono ?_
              rintro e w3 ⟨rfl, hB3⟩
              have hO3 := Lib.hid (hO2.out.later hB3)
              have hB4 := Lib.hid (hB2'.out.trans (hB3.mono hB2'.out.size))
              have hbs := hB4.out.size
              clear hlo hB3
              go_wp2_with (at_builtin; refine wpList_append_str rfl _ _ rfl _ w5.heap.size _ os rfl ?_ X _ rfl ?_ ?_ ?_ ?_; exact hO3.out; exact rfl; exact hcl; exact hbs; intro v7 w7 hO7 hG7)
              have hB7 := Lib.hid (below_append hB4.out hO3.out hG7 hB4.out.size)
              have hO7' := Lib.hid hO7
              go_wp2
              go_roundw
              case rel => exact ⟨k + 1, os ++ [X], by omega, by go_num, by simp; omega, hyes', hO7', hB7⟩
              case measure => simp [intOf]; omega
            · rw [hb] at hp hno
              have hno' := Lib.hid (hno rfl)
              clear hyes hno hb
              go_wp2_with fail
              refine hp.mono ?_
              rintro e w2 ⟨rfl, hB2⟩
              have hO2 := Lib.hid (hOa.out.later hB2)
              have hB2' := Lib.hid (hBa.out.trans (hB2.mono hBa.out.size))
              clear hp hB2 hlo
              go_wp2
              go_roundw
              case rel => exact ⟨k + 1, os, by omega, by go_num, by omega, hno', hO2, hB2'⟩
              case measure => simp [intOf]; omega
          · have hyes' := Lib.hid (hyes rfl)
            clear hyes hno hp
            go_wp2_with fail
            refine (hlo _).mono ?_
            rintro e w3 ⟨rfl, hB3⟩
            have hO3 := Lib.hid (hOa.out.later hB3)
            have hB4 := Lib.hid (hBa.out.trans (hB3.mono hBa.out.size))
            have hbs := hB4.out.size
            clear hlo hB3
            go_wp2_with (at_builtin; refine wpList_append_str rfl _ _ rfl _ w5.heap.size _ os rfl ?_ X _ rfl ?_ ?_ ?_ ?_; exact hO3.out; exact rfl; exact hcl; exact hbs; intro v7 w7 hO7 hG7)
            have hB7 := Lib.hid (below_append hB4.out hO3.out hG7 hB4.out.size)
            have hO7' := Lib.hid hO7
            go_wp2
            go_roundw
            case rel => exact ⟨k + 1, os ++ [X], by omega, by go_num, by simp; omega, hyes', hO7', hB7⟩
            case measure => simp [intOf]; omega
        · obtain rfl : k = ps.length := by omega
          have hfin : Hid (datas os = askRef (hdl ps)) := Lib.hid (by rw [hos.out, datas_mkT, hask.out, List.take_of_length_le (by rw [hdl_len]; exact Nat.le_refl _)])
          have hso := refSorted wr w5.heap.size (.slice a3 os.length cap3) os hO.out (by omega)
          rw [hfin.out] at hso
          clear hos hfin hask
          go_wp2_with fail
          refine hso.mono ?_
          rintro e w2 ⟨⟨v', rfl, hO2⟩, hOn⟩
          have hO2' := Lib.hid hO2
          have hfB := Lib.hid (hOn.below hBw.out hBw.out.size (fun i e => Nat.le_trans hB0.out.size (own_ge hO.out e)))
          have hsz := Lib.hid (hBw.out.size)
          clear hso hO2 hOn
          go_wp2
          go_ret
          exact ⟨⟨_, rfl, own_mono hO2'.out hsz.out⟩, hfB.out⟩
end Go.Proofs.YtnfcdccdmlodeaaGreatDoor
