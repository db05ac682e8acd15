/- sort.Strings and slices.Sort on a list of texts of the call's own; the reference's sorted. -/
import Derived.Test.YtnfcdccdmlodeaaGreatDoorAsksP
import Derived.Test.YtnfcdccdmlodeaaGreatDoorSplit
import Derived.Test.YtnfcdccdmlodeaaGreatDoorFound
import Derived.Test.YtnfcdccdmlodeaaGreatDoorShelf
import Derived.Sort.OwnSorted
namespace Go.Proofs.YtnfcdccdmlodeaaGreatDoor
open Go.RowKit Go.Sort
def mkT (l : List (List UInt8)) : List ByteArray := l.map fun x => ⟨x.toArray⟩
theorem mkT_len (l : List (List UInt8)) : (mkT l).length = l.length := by simp [mkT]
theorem datas_mkT (l : List (List UInt8)) : datas (mkT l) = l := by
  unfold datas mkT
  rw [List.map_map]
  exact List.map_id'' (fun x => rfl) l
theorem mkT_datas (ss : List ByteArray) : mkT (datas ss) = ss := by
  unfold datas mkT
  rw [List.map_map]
  exact List.map_id'' (fun x => rfl) ss
theorem str_enc (ss : List ByteArray) : ss.map Value.string = (datas ss).map encStr := by
  unfold datas
  rw [List.map_map]
  rfl
theorem own_shape {w : World} {base : Nat} {v : Value} {ss : List ByteArray} (h : OwnStr w base v ss) : (v = .slice none 0 0 ∧ ss = []) ∨ ∃ g cap cur, v = .slice (some ⟨g, 0, none⟩) ss.length cap ∧ base ≤ g ∧ w.heap[g]? = some (.cells cur 9 (0, 0)) ∧ ss.length ≤ cap ∧ cap ≤ maxLen ∧ cur.size = cap * 1 ∧ cur.toList.take (datas ss).length = (datas ss).map encStr := by
  obtain ⟨_, h2⟩ := h
  rcases h2 with ⟨rfl, h3⟩ | ⟨g, cap, cur, rfl, hb, hg, hn, hm, hs, ht⟩
  · exact .inl ⟨rfl, List.length_eq_zero_iff.1 h3⟩
  · refine .inr ⟨g, cap, cur, rfl, hb, hg, hn, hm, hs, ?_⟩
    rw [← str_enc]
    simpa [datas] using ht
/-- behind a sort, or whatever else lays as many texts anew -/
theorem own_laid {w : World} {base : Nat} {v : Value} {ss : List ByteArray} {g cap n : Nat} {os : Array Obj} {cur : Array Value} {ts : List (List UInt8)} (hl : ts.length = ss.length) (hbase : base ≤ g) (hb : w.heap[g]? = some (.cells cur 9 (0, 0)))
    (h1 : ss.length ≤ cap) (h2 : cap ≤ maxLen) (h3 : cur.size = cap * 1) (hv : v = .slice (some ⟨g, 0, none⟩) ss.length cap) : OwnStr (grow (putRow encStr (Sort.ahead w n) g 0 ts.toArray) os) base v (mkT ts) := by
  have h := ownsRow_sorted (n := n) (os := os) (ss := datas ss) (ts := ts) (by rw [hl]; simp [datas]) hbase hb (by simpa [datas] using h1) h2 h3
  unfold OwnStr
  rw [str_enc, datas_mkT, mkT_len, hl, hv]
  have e : (datas ss).length = ss.length := by simp [datas]
  rw [e] at h
  exact h
theorem sortStrings (w : World) (base : Nat) (v : Value) (ss : List ByteArray) (h : OwnStr w base v ss) (hl : ss.length ≤ 1000000) :
    Calls Tryz.prog 207 #[v] w fun e w' => e = .returned (.tuple #[]) ∧ OwnStr w' base v (mkT (sortL (datas ss))) ∧ Only (fun i => v.ownBlock = some i) w w' := by
  rcases own_shape h with ⟨rfl, rfl⟩ | ⟨g, cap, cur, rfl, hb, hg, hn, hm, hs, ht⟩
  · refine (Tryz.sort_Strings_none none 0 w).mono ?_
    rintro e w' ⟨rfl, rfl⟩
    exact ⟨rfl, by rw [show mkT (sortL (datas [])) = [] by simp [mkT, sortL, datas]]; exact h, Only.refl _ _⟩
  · have e1 : (datas ss).length = ss.length := by simp [datas]
    have hc := Tryz.sort_Strings g 0 cap (datas ss) w (holds_of_block hg ht) (Array.getElem?_eq_some_iff.1 hg).1 (by rw [e1]; omega)
    rw [e1] at hc
    refine hc.mono ?_
    rintro e w' ⟨rfl, n, os, rfl⟩
    refine ⟨rfl, own_laid (ss := ss) (ts := sortL (datas ss)) (by rw [sortL_len, e1]) hb hg hn hm hs rfl, ?_⟩
    have := grownBy_sorted (w := w) (g := g) (n := n) (os := os) ((datas ss).mergeSort fun x y => decide (x ≤ y)).toArray
    exact Only.of_grown this (fun i e => by cases e; rfl)
theorem slicesSort (w : World) (base : Nat) (v : Value) (ss : List ByteArray) (h : OwnStr w base v ss) (hl : ss.length ≤ 1000000) :
    Calls Tryz.prog 121 #[v] w fun e w' => e = .returned (.tuple #[]) ∧ OwnStr w' base v (mkT (sortL (datas ss))) ∧ Only (fun i => v.ownBlock = some i) w w' := by
  rcases own_shape h with ⟨rfl, rfl⟩ | ⟨g, cap, cur, rfl, hb, hg, hn, hm, hs, ht⟩
  · refine (Tryz.slices_Sort_string_none none 0 w).mono ?_
    rintro e w' ⟨rfl, rfl⟩
    exact ⟨rfl, by rw [show mkT (sortL (datas [])) = [] by simp [mkT, sortL, datas]]; exact h, Only.refl _ _⟩
  · have e1 : (datas ss).length = ss.length := by simp [datas]
    have hc := Tryz.slices_Sort_string g 0 cap (datas ss) w (holds_of_block hg ht) (Array.getElem?_eq_some_iff.1 hg).1 (by rw [e1]; omega)
    rw [e1] at hc
    refine hc.mono ?_
    rintro e w' ⟨rfl, n, os, rfl⟩
    refine ⟨rfl, own_laid (ss := ss) (ts := sortL (datas ss)) (by rw [sortL_len, e1]) hb hg hn hm hs rfl, ?_⟩
    have := grownBy_sorted (w := w) (g := g) (n := n) (os := os) ((datas ss).mergeSort fun x y => decide (x ≤ y)).toArray
    exact Only.of_grown this (fun i e => by cases e; rfl)
theorem compact_len (l : List (List UInt8)) : (Lib.compact l).length ≤ l.length := by
  unfold Lib.compact Lib.compactUpTo
  rw [List.length_map]
  have := (List.filter_sublist (p := Lib.keeps l.toArray) (l := List.range l.length)).length_le
  simpa using this
/-- slices.Compact on such a list -/
theorem slicesCompact (w : World) (base : Nat) (v : Value) (ss : List ByteArray) (h : OwnStr w base v ss) (hl : ss.length ≤ 1000000) :
    Calls Tryz.prog 122 #[v] w fun e w' => (∃ a cap, e = .returned (.slice a (Lib.compact (datas ss)).length cap) ∧ StrAt w' a (mkT (Lib.compact (datas ss)))) ∧ Only (fun i => v.ownBlock = some i) w w' := by
  rcases own_shape h with ⟨rfl, rfl⟩ | ⟨g, cap, cur, rfl, hb, hg, hn, hm, hs, ht⟩
  · refine (Tryz.slices_Compact_string_empty none 0 w).mono ?_
    rintro e w' ⟨rfl, rfl⟩
    exact ⟨⟨none, 0, rfl, StrAt.nil _ _⟩, Only.refl _ _⟩
  · have e1 : (datas ss).length = ss.length := by simp [datas]
    have hc := Tryz.slices_Compact_string g 0 cap (datas ss) w (holds_of_block hg ht) (by rw [e1]; omega) (by rw [e1]; exact hn)
    rw [e1] at hc
    refine hc.mono ?_
    rintro e w' ⟨rfl, q, rfl⟩
    have hcl := compact_len (datas ss)
    rw [e1] at hcl
    have hlen : (Lib.compact (datas ss) ++ List.replicate (ss.length - (Lib.compact (datas ss)).length) []).length = ss.length := by simp; omega
    have ho := own_laid (w := w) (base := base) (ss := ss) (n := q) (os := #[]) (ts := Lib.compact (datas ss) ++ List.replicate (ss.length - (Lib.compact (datas ss)).length) []) hlen hb hg hn hm hs rfl
    have hgr := grownBy_sorted (w := w) (g := g) (n := q) (os := #[]) (Lib.compact (datas ss) ++ List.replicate (ss.length - (Lib.compact (datas ss)).length) []).toArray
    rw [grow_empty] at ho hgr
    refine ⟨⟨_, _, rfl, ?_⟩, Only.of_grown hgr (fun i e => by cases e; rfl)⟩
    obtain ⟨a', cap', e, hst, _⟩ := ho.shape
    injection e with e1 e2 e3
    subst e1
    intro i hi
    rw [mkT_len] at hi
    obtain ⟨b, off, eb, hcell⟩ := hst i (by rw [mkT_len, hlen]; omega)
    refine ⟨b, off, eb, ?_⟩
    rw [hcell]
    have hi2 : i < (List.map (fun x : List UInt8 => (⟨x.toArray⟩ : ByteArray)) (Lib.compact (datas ss))).length := by rw [List.length_map]; exact hi
    simp only [mkT, List.map_append]
    rw [List.getElem_append_left hi2]
theorem own_mono {w : World} {b b' : Nat} {v : Value} {ss : List ByteArray} (h : OwnStr w b' v ss) (hb : b ≤ b') : OwnStr w b v ss :=
  ⟨h.1, h.2.imp id fun ⟨g, cap, cur, h1, h2, h3⟩ => ⟨g, cap, cur, h1, Nat.le_trans hb h2, h3⟩⟩
theorem up_zero (d : Array (List UInt8)) : Lib.compactUpTo d 0 = [] := rfl
theorem up_len (d : Array (List UInt8)) (m : Nat) : (Lib.compactUpTo d m).length ≤ m := by
  unfold Lib.compactUpTo
  rw [List.length_map]
  have := (List.filter_sublist (p := Lib.keeps d) (l := List.range m)).length_le
  simpa using this
set_option maxRecDepth 100000 in
set_option maxHeartbeats 1000000 in
/-- the reference's sorted -/
theorem refSorted (w : World) (base : Nat) (v : Value) (ss : List ByteArray) (h : OwnStr w base v ss) (hl : ss.length ≤ 1000000) :
    Calls Tryz.prog 126 #[v] w fun e w' => (∃ v', e = .returned v' ∧ OwnStr w' w.heap.size v' (mkT (Lib.compact (sortL (datas ss))))) ∧ Only (fun i => v.ownBlock = some i) w w' := by
  have hso := sortStrings w base v ss h hl
  obtain ⟨d, hd⟩ : ∃ d, d = (sortL (datas ss)).toArray := ⟨_, rfl⟩
  have hdl : d.size = ss.length := by rw [hd]; simp [sortL_len, datas]
  have hdt : sortL (datas ss) = d.toList := by rw [hd]
  have hcp : Hid (Lib.compact (sortL (datas ss)) = Lib.compactUpTo d d.size) := Lib.hid (by rw [hd]; simp [Lib.compact])
  obtain ⟨a, cap, rfl, _, hcap, hcm, _⟩ := h.shape
  rw [hdt] at hso
  clear hd h
  generalize sortL (datas ss) = sl at hcp hdt
  go_enter Tryz.func126, Tryz.ntmps126
  go_wp2_with fail
  refine hso.mono ?_
  rintro e w1 ⟨rfl, hO1, hB1⟩
  have hO1' := Lib.hid hO1
  have hB1' := Lib.hid hB1
  have hmt : (mkT d.toList).length = ss.length := by rw [mkT_len]; simpa using hdl
  have hsz1 := hB1.size
  clear hso hO1 hB1
  go_wp2
  go_loopg [3, 10] ss.length (fun g v3 vi wr => ∃ (k : Nat) (os : List ByteArray), k ≤ ss.length ∧ vi = .int .i64 k ∧ os.length ≤ k ∧ Hid (g = ss.length - k) ∧ Hid (os = mkT (Lib.compactUpTo d k)) ∧ Hid (OwnStr wr w1.heap.size v3 os) ∧ Hid (Below w1.heap.size w1 wr))
  case atStart => exact ⟨0, [], Nat.zero_le _, rfl, Nat.le_refl _, Lib.hid rfl, Lib.hid rfl, Lib.hid (OwnStr.nil _ _), Lib.hid (Below.refl _ _)⟩
  case round =>
    obtain ⟨k, os, hk, rfl, hok, hg, hos, hO, hB⟩ := hrel
    obtain ⟨a3, cap3, rfl, _, hc3, hm3, _⟩ := hO.out.shape
    have hst : StrAt wr a (mkT d.toList) := by
      obtain ⟨a', c', e, hst, _⟩ := (hO1'.out.later hB.out).shape
      injection e with e1 _ _
      rw [e1]; exact hst
    have hcl : os.length + 1 ≤ 1099511627776 := by omega
    have hbs := hB.out.size
    by_cases hlt : k < ss.length
    · obtain ⟨b, off, rfl, hc⟩ := hst k (by omega)
      have hx : (mkT d.toList)[k]'(by omega) = ⟨(d[k]!).toArray⟩ := by
        simp only [mkT, List.getElem_map, Array.getElem_toList]
        rw [getElem!_pos d k (by omega)]
      rw [hx] at hc
      obtain ⟨x, hxe⟩ : ∃ x : ByteArray, (⟨(d[k]!).toArray⟩ : ByteArray) = x := ⟨_, rfl⟩
      rw [hxe] at hc
      have hxl : x.data.toList = d[k]! := by rw [← hxe]
      have hkeep : Lib.keeps d k = true → os ++ [x] = mkT (Lib.compactUpTo d (k + 1)) := by
        intro h
        rw [hos.out, Lib.compactUpTo_succ, if_pos h, ← hxe]
        simp [mkT]
      have hdrop : Lib.keeps d k = false → os = mkT (Lib.compactUpTo d (k + 1)) := by
        intro h
        rw [hos.out, Lib.compactUpTo_succ, if_neg (by rw [h]; simp), List.append_nil]
      by_cases h0 : k = 0
      · have d0 : ((k : Int) == 0) = true := by rw [h0]; rfl
        have hne := Lib.hid (hkeep (Lib.keeps_lt_one d k (by omega)))
        clear h0 hkeep hdrop hxl hxe hx hst
        go_wp2_with (at_builtin; refine wpList_append_str rfl _ _ rfl _ w1.heap.size _ os rfl ?_ x _ rfl ?_ ?_ ?_ ?_; exact hO.out; exact rfl; exact hcl; exact hbs; intro v4 w4 hO4 hG4)
        have hB4 := Lib.hid (below_append hB.out hO.out hG4 hB.out.size)
        have hO4' := Lib.hid hO4
        go_wp2
        go_roundg (ss.length - (k + 1))
        case rel => exact ⟨k + 1, os ++ [x], by omega, by go_num, by simp; omega, Lib.hid rfl, hne, hO4', hB4⟩
        case measure => have := hg.out; omega
      · have d0 : ((k : Int) == 0) = false := beq_eq_false_iff_ne.2 (by omega)
        obtain ⟨b', off', e', hc'⟩ := hst (k - 1) (by omega)
        cases e'
        have hy : (mkT d.toList)[k - 1]'(by omega) = ⟨(d[k - 1]!).toArray⟩ := by
          simp only [mkT, List.getElem_map, Array.getElem_toList]
          rw [getElem!_pos d (k - 1) (by omega)]
        rw [hy] at hc'
        obtain ⟨y, hye⟩ : ∃ y : ByteArray, (⟨(d[k - 1]!).toArray⟩ : ByteArray) = y := ⟨_, rfl⟩
        rw [hye] at hc'
        have hyl : y.data.toList = d[k - 1]! := by rw [← hye]
        obtain ⟨k1, hk1⟩ : ∃ k1, k - 1 = k1 := ⟨_, rfl⟩
        rw [hk1] at hc'
        have e1 : (k : Int) - 1 = (k1 : Int) := by omega
        have e2 : (k1 : Int) < (ss.length : Int) := by omega
        have e3 : k1 < ss.length := by omega
        by_cases hxy : x = y
        · subst hxy
          have hne := Lib.hid (hdrop (Lib.keeps_neg (by omega) (hxl.symm.trans hyl)))
          clear h0 hkeep hdrop hxl hxe hx hst hy hye hyl hk1
          go_wp2
          go_roundg (ss.length - (k + 1))
          case rel => exact ⟨k + 1, os, by omega, by go_num, by omega, Lib.hid rfl, hne, hO, hB⟩
          case measure => have := hg.out; omega
        · have hb : (x.toList == y.toList) = false := by
            rw [beq_eq_false_iff_ne, Lib.toList_data, Lib.toList_data]
            exact fun h => hxy (ba_ext h)
          have hb2 : (x.toList != y.toList) = true := by rw [bne, hb]; rfl
          have hne := Lib.hid (hkeep (Lib.keeps_pos (by rw [← hxl, ← hyl]; exact fun h => hxy (ba_ext h))))
          clear h0 hkeep hdrop hxl hxe hx hst hy hye hyl hk1
          go_wp2_with (at_builtin; refine wpList_append_str rfl _ _ rfl _ w1.heap.size _ os rfl ?_ x _ rfl ?_ ?_ ?_ ?_; exact hO.out; exact rfl; exact hcl; exact hbs; intro v4 w4 hO4 hG4)
          have hB4 := Lib.hid (below_append hB.out hO.out hG4 hB.out.size)
          have hO4' := Lib.hid hO4
          go_wp2
          go_roundg (ss.length - (k + 1))
          case rel => exact ⟨k + 1, os ++ [x], by omega, by go_num, by simp; omega, Lib.hid rfl, hne, hO4', hB4⟩
          case measure => have := hg.out; omega
    · obtain rfl : k = ss.length := by omega
      have hfin : Hid (os = mkT (Lib.compact sl)) := Lib.hid (by rw [hos.out, hcp.out, hdl])
      have hO5 := Lib.hid (hO.out)
      clear hst
      go_wp2
      go_ret
      refine ⟨⟨_, rfl, ?_⟩, hB1'.out.then hB.out⟩
      rw [← hfin.out]
      exact own_mono hO5.out hsz1
end Go.Proofs.YtnfcdccdmlodeaaGreatDoor
