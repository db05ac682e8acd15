/- fetch.Asked: the names of headers that must be asked for. -/
import Derived.Test.YtnfcdccdmlodeaaGreatDoorAsksR
import Derived.Test.YtnfcdccdmlodeaaGreatDoorPlainW
import Derived.Deep.AppendLies
namespace Go.Proofs.YtnfcdccdmlodeaaGreatDoor
open Go.RowKit
/-- texts put behind an own list of texts, and where the new list lies -/
theorem wpList_append_txt {ops : Array Oper} {rest : List Oper} {o : Oper} {a : Act} {Q : Exit → Act → World → Prop} (hgd : o.guard = none) (s x : Operand)
    (ho : o.op = .call { callee := .builtin .append, args := #[s, x], argTypes := #[119, 119] })
    (w : World) (base : Nat) (v : Value) (l : List ByteArray) (hs : a.eval s = v) (hown : OwnStr w base v l) (m : List ByteArray) (ad : Addr) (c : Nat) (hx : a.eval x = .slice (some ad) m.length c)
    (hn : ∀ j u, (m.map Value.string)[j]? = some u → w.cell? (ad.add j) = some u) (hm : 0 < m.length) (hl : l.length + m.length ≤ 1000000) (hbase : base ≤ w.heap.size)
    (h : ∀ g cap w', OwnStr w' base (.slice (some ⟨g, 0, none⟩) (l.length + m.length) cap) (l ++ m) → w.grownBy w' v.ownBlock → (v.ownBlock = some g ∨ g = w.heap.size) → wpList Tryz.prog ops Q rest (a.put o.dst (.slice (some ⟨g, 0, none⟩) (l.length + m.length) cap)) w') :
    wpList Tryz.prog ops Q (o :: rest) a w := by
  obtain ⟨i0, hi, hz0, hz1, hz2⟩ := info_parts infoString
  refine wpList_append_lies w hgd s x 119 ho base 9 i0 (.string ⟨#[]⟩) 1 16 Tryz.underlying119 hi hz0 hz1 hz2 rfl (by decide) v l.length (l.map Value.string) hs hown ad m.length c (m.map Value.string) hx (by simp) hn (by
    intro u hu
    obtain ⟨t, _, rfl⟩ := List.mem_map.1 hu
    rfl) hm (by unfold maxLen; omega) (by omega) hbase w.heap.size rfl ?_
  intro g cap w' h2 h3 h4 _
  refine h g cap w' ?_ h3 h4
  unfold OwnStr
  rw [List.length_append, List.map_append]
  exact h2
theorem add_addr (b off j : Nat) : (⟨b, off, none⟩ : Addr).add j = ⟨b, off + j, none⟩ := by unfold Addr.add; split <;> simp_all
theorem one_new (w : World) (X : ByteArray) : ∀ j u, (([X] : List ByteArray).map Value.string)[j]? = some u → (w.alloc (.cells #[.string X] 9)).cell? ((⟨w.heap.size, 0, none⟩ : Addr).add j) = some u := cell_row_new w [Value.string X] _
theorem plain_none {l : List Hd} (h : plainN l = []) : plainSz l = 0 := by
  unfold plainN at h
  have : l.filter plH = [] := List.map_eq_nil_iff.1 h
  unfold plainSz
  rw [this]; rfl
theorem kept_other {w w' : World} {base : Nat} {v v' : Value} {ss : List ByteArray} (h : OwnStr w base v ss) (hg : w.grownBy w' v'.ownBlock) (hne : ∀ g, v'.ownBlock = some g → v.ownBlock ≠ some g) : OwnStr w' base v ss := by
  refine World.ownsRow.kept h hg ?_
  cases hv : v.ownBlock with
  | none => exact .inl rfl
  | some k =>
    right
    intro e
    exact hne k e.symm hv
theorem outN_len (l : List Hd) : (outN l).length ≤ l.length := by unfold outN; rw [List.length_map]; exact (List.filter_sublist ..).length_le
theorem plainN_len (l : List Hd) : (plainN l).length ≤ l.length := by unfold plainN; rw [List.length_map]; exact (List.filter_sublist ..).length_le
set_option maxRecDepth 100000 in
set_option maxHeartbeats 2000000 in
theorem fetchAsked (a : Option Addr) (cap : Nat) (ps : List (ByteArray × ByteArray)) (w : World) (hM : MaxL w) (hP : ParAt w a ps) (hl : ps.length ≤ 1000) (hz : ∀ p ∈ ps, p.1.size ≤ 1000 ∧ p.2.size ≤ 1000) :
    Calls Tryz.prog 67 #[.slice a ps.length cap] w fun e w' => (∃ a' cap', e = .returned (.slice a' (askL (hdl ps)).length cap') ∧ StrAt w' a' (mkT (askL (hdl ps)))) ∧ Below w.heap.size w w' := by
  have hpl : (askProg (hdl ps)).length ≤ 1000000 := by
    have h1 := outN_len (hdl ps)
    have h2 := plainN_len (hdl ps)
    rw [hdl_len] at h1 h2
    unfold askProg
    split
    · rw [List.length_append]; omega
    · omega
  go_enter Tryz.func67, Tryz.ntmps67
  go_wp2
  go_loopw [3, 4, 5, 11] (fun v3 v4 v5 vi wr => ∃ (k N : Nat) (os pl : List ByteArray), k ≤ ps.length ∧ vi = .int .i64 k ∧ v5 = .int .i64 N ∧ N ≤ k * 1000 ∧ os.length ≤ k ∧ pl.length ≤ k ∧ Hid (N = plainSz ((hdl ps).take k)) ∧ Hid (os = mkT (outN ((hdl ps).take k))) ∧ Hid (pl = mkT (plainN ((hdl ps).take k))) ∧
    Hid (OwnStr wr w.heap.size v3 os) ∧ Hid (OwnStr wr w.heap.size v4 pl) ∧ Hid (∀ g, v3.ownBlock = some g → v4.ownBlock ≠ some g) ∧ Hid (Below w.heap.size w wr)) (fun _ _ _ vi _ => ps.length - (intOf vi).toNat)
  case atStart => exact ⟨0, 0, [], [], Nat.zero_le _, rfl, rfl, Nat.le_refl _, Nat.le_refl _, Nat.le_refl _, Lib.hid rfl, Lib.hid rfl, Lib.hid rfl, Lib.hid (OwnStr.nil _ _), Lib.hid (OwnStr.nil _ _), Lib.hid (fun g h => by cases h), Lib.hid (Below.refl _ _)⟩
  case round =>
    obtain ⟨k, N, os, pl, hk, rfl, rfl, hN, hol, hpll, hNe, hos, hple, hO3, hO4, hap, hB⟩ := hrel
    obtain ⟨a3, c3, rfl, _, _, _, _⟩ := hO3.out.shape
    obtain ⟨a4, c4, rfl, hS4, _, _, _⟩ := hO4.out.shape
    have hS4' := Lib.hid hS4
    clear hS4
    by_cases hlt : k < ps.length
    · obtain ⟨b, off, rfl, h1, h2⟩ := (hP.later hB.out) k hlt
      have hz1 := hz _ (List.getElem_mem hlt)
      have htk := Lib.hid (hdl_take hlt)
      generalize ps[k].1 = n at h1 hz1 htk
      generalize ps[k].2 = v at h2 hz1 htk
      obtain ⟨X, hX⟩ : ∃ X : ByteArray, X = ⟨(lower n.data.toList).toArray⟩ := ⟨_, rfl⟩
      have hlo := fun w' => codingLower n w' (by unfold maxLen; omega)
      rw [← hX] at hlo
      have hpe : plH (n.data.toList, v.data.toList) = plainB n.data.toList v.data.toList := rfl
      have e1 := outN_snoc ((hdl ps).take k) (n.data.toList, v.data.toList)
      have e2 := plainN_snoc ((hdl ps).take k) (n.data.toList, v.data.toList)
      have e3 := plainSz_snoc ((hdl ps).take k) (n.data.toList, v.data.toList)
      rw [← htk.out, hpe] at e1 e2 e3
      have hal := (Below.refl wr.heap.size wr).alloc (Nat.le_refl _) (Obj.cells #[.string n, .string v] 77)
      have hO3a := Lib.hid (hO3.out.later hal)
      have hO4a := Lib.hid (hO4.out.later hal)
      have hBa := Lib.hid (hB.out.alloc hB.out.size (Obj.cells #[.string n, .string v] 77))
      have hg3 := Lib.hid (fun g (h : (Value.slice a3 os.length c3).ownBlock = some g) => (World.ownsRow.lt hO3.out g h).2)
      have hg4 := Lib.hid (fun g (h : (Value.slice a4 pl.length c4).ownBlock = some g) => (World.ownsRow.lt hO4.out g h).2)
      clear hal hO3 hO4 hS4'
      go_wp2_with fail
      refine (hlo _).mono ?_
      rintro e w2 ⟨rfl, hB2⟩
      have b0 := box_cell (c := #[.string n, .string v]) (by simpa using hB2) 0 rfl
      have b1 := box_cell (c := #[.string n, .string v]) (by simpa using hB2) 1 rfl
      have hsz2 : wr.heap.size ≤ w2.heap.size := by have := hB2.size; simp at this; omega
      have hO3b := Lib.hid (hO3a.out.later hB2)
      have hO4b := Lib.hid (hO4a.out.later hB2)
      have hBb := Lib.hid (hBa.out.trans (hB2.mono hBa.out.size))
      have hp := fetchPlain n v w2 (hM.later hBb.out) (by omega) (by omega)
      clear hlo hB2 hO3a hO4a hBa
      cases hb : plainB n.data.toList v.data.toList
      all_goals
        rw [hb] at hp e1 e2 e3
        simp only [Bool.false_eq_true, if_false, if_true, List.append_nil, Nat.add_zero] at e1 e2 e3
      · have hos' := Lib.hid (show os ++ [X] = mkT (outN ((hdl ps).take (k + 1))) by rw [e1, mkT_snoc, ← hos.out, hX])
        have hpl' := Lib.hid (show pl = mkT (plainN ((hdl ps).take (k + 1))) by rw [e2]; exact hple.out)
        have hN' := Lib.hid (show N = plainSz ((hdl ps).take (k + 1)) by rw [e3]; exact hNe.out)
        clear e1 e2 e3 hX hb hpe
        go_wp2_with fail
        refine hp.mono ?_
        rintro e w3 ⟨rfl, hB3⟩
        have hO3c := Lib.hid (hO3b.out.later hB3)
        have hO4c := Lib.hid (hO4b.out.later hB3)
        have hBc := Lib.hid (hBb.out.trans (hB3.mono hBb.out.size))
        have hsz3 := hB3.size
        have hbs := hBc.out.size
        clear hp hB3 hO3b hO4b hBb b0 b1
        have hal3 := (Below.refl w3.heap.size w3).alloc (Nat.le_refl _) (Obj.cells #[.string X] 9)
        have hO3d := Lib.hid (hO3c.out.later hal3)
        have hO4d := Lib.hid (hO4c.out.later hal3)
        have hBd := Lib.hid (hBc.out.alloc hBc.out.size (Obj.cells #[.string X] 9))
        have hlen : os.length + ([X] : List ByteArray).length ≤ 1000000 := by simp; omega
        have hbd := hBd.out.size
        clear hal3
        go_wp2_with (at_builtin; refine wpList_append_txt rfl _ _ rfl _ w.heap.size _ os rfl ?_ [X] _ _ rfl ?_ ?_ ?_ ?_ ?_; exact hO3d.out; exact one_new _ _; exact Nat.zero_lt_one; exact hlen; exact hbd; intro g7 c7 w7 hO7 hG7 hat)
        have hO4e := Lib.hid (kept_other hO4d.out hG7 (fun g h => hap.out g h))
        have hap2 : Hid (∀ g, (Value.slice (some ⟨g7, 0, none⟩) (os.length + ([X] : List ByteArray).length) c7).ownBlock = some g → (Value.slice a4 pl.length c4).ownBlock ≠ some g) := Lib.hid (by
          intro g e h4
          have e' : g7 = g := Option.some.inj e
          subst e'
          rcases hat with h | h
          · exact hap.out _ h h4
          · have := hg4.out _ h4
            simp at h
            omega)
        have hBe := Lib.hid (below_append hBc.out hO3c.out hG7 hBc.out.size)
        have hO7' := Lib.hid hO7
        clear hO7 hG7 hat hO3d hO4d hBd
        go_wp2
        go_roundw
        case rel => exact ⟨k + 1, N, os ++ [X], pl, by omega, by go_num, rfl, by omega, by simp; omega, by omega, hN', hos', hpl', by simpa using hO7', hO4e, by simpa using hap2, hBe⟩
        case measure => simp [intOf]; omega
      · have hos' := Lib.hid (show os = mkT (outN ((hdl ps).take (k + 1))) by rw [e1]; exact hos.out)
        have hpl' := Lib.hid (show pl ++ [X] = mkT (plainN ((hdl ps).take (k + 1))) by rw [e2, mkT_snoc, ← hple.out, hX])
        have hN' := Lib.hid (show N + v.size = plainSz ((hdl ps).take (k + 1)) by rw [e3, ← hNe.out, sz_len])
        clear e1 e2 e3 hX hb hpe
        go_wp2_with fail
        refine hp.mono ?_
        rintro e w3 ⟨rfl, hB3⟩
        have hO3c := Lib.hid (hO3b.out.later hB3)
        have hO4c := Lib.hid (hO4b.out.later hB3)
        have hBc := Lib.hid (hBb.out.trans (hB3.mono hBb.out.size))
        have b1c : w3.cell? ⟨wr.heap.size, 1, none⟩ = some (.string v) := (hB3.cell (World.block_lt_of_cell? _ _ b1)).trans b1
        have hsz3 := hB3.size
        have hbs := hBc.out.size
        clear hp hB3 hO3b hO4b hBb b1
        have hal3 := (Below.refl w3.heap.size w3).alloc (Nat.le_refl _) (Obj.cells #[.string X] 9)
        have hO3d := Lib.hid (hO3c.out.later hal3)
        have hO4d := Lib.hid (hO4c.out.later hal3)
        have hBd := Lib.hid (hBc.out.alloc hBc.out.size (Obj.cells #[.string X] 9))
        have hlen : pl.length + ([X] : List ByteArray).length ≤ 1000000 := by simp; omega
        have hbd := hBd.out.size
        have b1d := Lib.hid ((hal3.cell (World.block_lt_of_cell? _ _ b1c)).trans b1c)
        clear hal3 b1c
        go_wp2_with (at_builtin; refine wpList_append_txt rfl _ _ rfl _ w.heap.size _ pl rfl ?_ [X] _ _ rfl ?_ ?_ ?_ ?_ ?_; exact hO4d.out; exact one_new _ _; exact Nat.zero_lt_one; exact hlen; exact hbd; intro g7 c7 w7 hO7 hG7 hat; have b17 := hG7.cell b1d.out (fun e => absurd (hg4.out _ e.symm) (Nat.lt_irrefl _)))
        have hO3e := Lib.hid (kept_other hO3d.out hG7 (fun g h h3 => hap.out g h3 h))
        have hap2 : Hid (∀ g, (Value.slice (some ⟨g7, 0, none⟩) (pl.length + ([X] : List ByteArray).length) c7).ownBlock = some g → (Value.slice a3 os.length c3).ownBlock ≠ some g) := Lib.hid (by
          intro g e h4
          have e' : g7 = g := Option.some.inj e
          subst e'
          rcases hat with h | h
          · exact hap.out _ h4 h
          · have := hg3.out _ h4
            simp at h
            omega)
        have hap3 : Hid (∀ g, (Value.slice a3 os.length c3).ownBlock = some g → (Value.slice (some ⟨g7, 0, none⟩) (pl.length + ([X] : List ByteArray).length) c7).ownBlock ≠ some g) := Lib.hid (fun g h h' => hap2.out g h' h)
        have hBe := Lib.hid (below_append hBc.out hO4c.out hG7 hBc.out.size)
        have hO7' := Lib.hid hO7
        clear hO7 hG7 hat hO3d hO4d hBd hap2
        go_wp2
        go_roundw
        case rel => exact ⟨k + 1, N + v.size, os, pl ++ [X], by omega, by go_num, by go_num, by omega, by omega, by simp; omega, hN', hos', hpl', hO3e, by simpa using hO7', by simpa using hap3, hBe⟩
        case measure => simp [intOf]; omega
    · obtain rfl : k = ps.length := by omega
      have htl : (hdl ps).take ps.length = hdl ps := List.take_of_length_le (by rw [hdl_len]; exact Nat.le_refl _)
      rw [htl] at hNe hos hple
      by_cases hbig : 1024 < N
      · have hask : askProg (hdl ps) = outN (hdl ps) ++ plainN (hdl ps) := by unfold askProg; rw [if_pos (by rw [← hNe.out]; exact hbig)]
        have hpn : 0 < pl.length := by
          rw [hple.out, mkT_len]
          apply List.length_pos_iff.2
          intro e
          have := plain_none e
          rw [← hNe.out] at this
          omega
        have hall : os ++ pl = mkT (askProg (hdl ps)) := by rw [hask, hos.out, hple.out]; simp [mkT]
        obtain ⟨b4, off4, rfl, _⟩ := hS4'.out 0 hpn
        have hn4 : ∀ j u, (pl.map Value.string)[j]? = some u → wr.cell? ((⟨b4, off4, none⟩ : Addr).add j) = some u := by
          intro j u hj
          have hjl : j < pl.length := by have := (List.getElem?_eq_some_iff.1 hj).1; simpa using this
          obtain ⟨b', o', e', hc⟩ := hS4'.out j hjl
          cases e'
          rw [add_addr, hc]
          rw [List.getElem?_map, List.getElem?_eq_getElem hjl] at hj
          simpa using hj
        have hlen : os.length + pl.length ≤ 1000000 := by omega
        have hbs := hB.out.size
        have hn4' := Lib.hid hn4
        clear hask hn4
        go_wp2_with (at_builtin; refine wpList_append_txt rfl _ _ rfl wr w.heap.size _ os rfl ?_ pl _ _ rfl ?_ ?_ ?_ ?_ ?_; exact hO3.out; exact hn4'.out; exact hpn; exact hlen; exact hbs; intro g7 c7 w7 hO7 hG7 hat)
        have hB7 := Lib.hid (hB.out.grown hG7 hB.out.size (fun i hi => own_ge hO3.out hi))
        have hOf := Lib.hid (show OwnStr w7 w.heap.size (.slice (some ⟨g7, 0, none⟩) (os.length + pl.length) c7) (mkT (askProg (hdl ps))) by rw [← hall]; exact hO7)
        clear hall hG7 hat hO7 hos hple hNe hap hO4 hS4' hO3 hB
        have hs1 := slicesSort w7 w.heap.size (.slice (some ⟨g7, 0, none⟩) (os.length + pl.length) c7) (mkT (askProg (hdl ps))) hOf.out (by rw [mkT_len]; exact hpl)
        rw [datas_mkT] at hs1
        have hs2 := fun w' h => slicesCompact w' w.heap.size (.slice (some ⟨g7, 0, none⟩) (os.length + pl.length) c7) (mkT (sortL (askProg (hdl ps)))) h (by rw [mkT_len, sortL_len]; exact hpl)
        rw [datas_mkT, ask_prog] at hs2
        go_wp2_with fail
        refine hs1.mono ?_
        rintro e wa ⟨rfl, hOa, hNa⟩
        have hOa' := Lib.hid hOa
        have hBa := Lib.hid (hNa.below hB7.out hB7.out.size (fun i e => own_ge hOf.out e))
        clear hs1 hOa hNa
        go_wp2_with fail
        refine (hs2 _ hOa'.out).mono ?_
        rintro e wb ⟨⟨ab, cb, rfl, hSb⟩, hNb⟩
        have hSb' := Lib.hid hSb
        have hBb := Lib.hid (hNb.below hBa.out hBa.out.size (fun i e => own_ge hOa'.out e))
        clear hs2 hSb hNb
        go_wp2
        go_ret
        exact ⟨⟨_, _, rfl, hSb'.out⟩, hBb.out⟩
      · have hask : askProg (hdl ps) = outN (hdl ps) := by unfold askProg; rw [if_neg (by rw [← hNe.out]; exact hbig)]
        have hOf := Lib.hid (show OwnStr wr w.heap.size (.slice a3 os.length c3) (mkT (askProg (hdl ps))) by rw [hask, ← hos.out]; exact hO3.out)
        clear hask hos hple hNe hap hO4 hS4' hO3
        have hs1 := slicesSort wr w.heap.size (.slice a3 os.length c3) (mkT (askProg (hdl ps))) hOf.out (by rw [mkT_len]; exact hpl)
        rw [datas_mkT] at hs1
        have hs2 := fun w' h => slicesCompact w' w.heap.size (.slice a3 os.length c3) (mkT (sortL (askProg (hdl ps)))) h (by rw [mkT_len, sortL_len]; exact hpl)
        rw [datas_mkT, ask_prog] at hs2
        go_wp2_with fail
        refine hs1.mono ?_
        rintro e wa ⟨rfl, hOa, hNa⟩
        have hOa' := Lib.hid hOa
        have hBa := Lib.hid (hNa.below hB.out hB.out.size (fun i e => own_ge hOf.out e))
        clear hs1 hOa hNa
        go_wp2_with fail
        refine (hs2 _ hOa'.out).mono ?_
        rintro e wb ⟨⟨ab, cb, rfl, hSb⟩, hNb⟩
        have hSb' := Lib.hid hSb
        have hBb := Lib.hid (hNb.below hBa.out hBa.out.size (fun i e => own_ge hOa'.out e))
        clear hs2 hSb hNb
        go_wp2
        go_ret
        exact ⟨⟨_, _, rfl, hSb'.out⟩, hBb.out⟩
end Go.Proofs.YtnfcdccdmlodeaaGreatDoor
