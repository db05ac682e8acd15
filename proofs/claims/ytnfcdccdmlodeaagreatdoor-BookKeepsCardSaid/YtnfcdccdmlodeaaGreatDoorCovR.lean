/- ref.CorsCovers: the document's way, over a map of what is left. -/
import Derived.Test.YtnfcdccdmlodeaaGreatDoorCovS
import Derived.Test.YtnfcdccdmlodeaaGreatDoorAsksR
namespace Go.Proofs.YtnfcdccdmlodeaaGreatDoor
open Go.RowKit Go.Maps
/-- a pass of nothing -/
abbrev zPass : Array Value := #[.bool false, .string ⟨#[]⟩, .int .i64 0, .bool false, .string ⟨#[]⟩, .int .i64 0, .string ⟨#[]⟩, .string ⟨#[]⟩, .bool false, .string ⟨#[]⟩, .string ⟨#[]⟩, .int .i64 0]
/-- what stands in the midst of a round: the request's box, the pass's -/
structure InW (w : World) (r : Req) (P : Nat) (x : Pass) (wr : World) : Prop where
  low : Below w.heap.size w wr
  box : Blk wr w.heap.size r.arr tReq
  pas : Blk wr P x.arr tPass
theorem InW.turn {w : World} {r : Req} {P j : Nat} {x : Pass} {wr wx : World} (h : InW w r P x wr) (hg : wr.grownBy wx (some j)) (hj : w.heap.size < j) (hP : j ≠ P) : InW w r P x wx :=
  ⟨h.low.grown hg h.low.size (fun k hk => by cases hk; omega), h.box.grown hg (fun e => by have := Option.some.inj e; omega), h.pas.grown hg (fun e => hP (Option.some.inj e))⟩
theorem InW.grow {w : World} {r : Req} {P : Nat} {x : Pass} {wr wx : World} (h : InW w r P x wr) (hg : wr.grownBy wx none) : InW w r P x wx :=
  ⟨h.low.grown hg h.low.size (fun k hk => by cases hk), h.box.grown hg (fun e => by cases e), h.pas.grown hg (fun e => by cases e)⟩
theorem pass_in {w : World} {r : Req} {B n : Nat} {ks : List (List UInt8)} {x : Pass} {wr wa : World} (h : MapW w r B n ks wr) (hp : Blk wa wr.heap.size x.arr tPass) (hg : (wr.alloc (.cells zPass tPass)).grownBy wa (some wr.heap.size)) : InW w r wr.heap.size x wa := by
  have hl := h.low.size
  have hb := h.box.lt
  exact ⟨(h.low.alloc hl _).grown hg (by simp; omega) (fun k hk => by cases hk; exact hl), (h.box.alloc _).grown hg (fun e => by have := Option.some.inj e; omega), hp⟩
theorem pass_one (x : Pass) : x.arr.all (·.oneCell') = true := by
  simp [Pass.arr, Value.oneCell']
theorem u8e (c d : UInt8) (n : Int) (h : (d.toNat : Int) = n) : ((c.toNat : Int) == n) = (c == d) := by
  subst h
  cases h : (c == d)
  · simp only [beq_eq_false_iff_ne, ne_eq] at h ⊢
    intro e
    exact h (UInt8.toNat_inj.1 (by omega))
  · simp only [beq_iff_eq] at h ⊢
    rw [h]
theorem wf_len {n : Nat} {s : ByteArray} {c : UInt8} (h : s.size ≤ n) : ((⟨#[c]⟩ : ByteArray) ++ s).size ≤ n + 1 := by rw [cat_size]; omega
theorem head_c (s : ByteArray) (c : UInt8) (h : 0 < s.size) : (s.data.toList.head? == some c) = (s[0] == c) := by
  have hl : 0 < s.data.toList.length := by rw [← sz_len]; exact h
  rw [List.head?_eq_getElem?, List.getElem?_eq_getElem hl, at_list s 0 h hl]
  rfl
set_option maxRecDepth 100000 in
set_option maxHeartbeats 4000000 in
theorem refCovers (r : Req) (a : Option Addr) (cap : Nat) (ps : List Pass) (w : World) (hM : MaxL w) (hO : r.Ok w) (hP : PassAt w a ps) (hPo : ∀ p ∈ ps, p.Ok) (hl : r.heads.length ≤ 1000) (hz : ∀ p ∈ r.heads, p.1.size ≤ 1000 ∧ p.2.size ≤ 1000) (hpl : ps.length ≤ 1048576) :
    Calls Tryz.prog 43 #[.agg r.arr, .slice a ps.length cap] w fun e w' => e = .returned (.bool (covV r ps)) ∧ Below w.heap.size w w' := by
  have hme := fun w' => refMethod r.method w' (reach_max hO.method)
  have hask := fun w' hM hP => refAsked r.addr r.cap r.heads w' hM hP hl hz
  have hcv := Lib.hid (covV_ref r ps)
  have hal : (askL (hdl r.heads)).length ≤ 1000000 := by
    have h2 := askL_len (hdl r.heads)
    rw [hdl_len] at h2
    omega
  have has := Lib.hid (askL_size hz)
  have hms : (methodOf r.method).size ≤ 140737488351232 := by
    have h1 := methodOf_len r.method
    have h2 := hO.method
    simp only [reachBytes] at h2
    omega
  have hPH := Lib.hid hP
  have hPO := Lib.hid hPo
  have hOH := Lib.hid hO
  clear hO hP hPo
  generalize methodOf r.method = M at hme hcv hms
  generalize covV r ps = res at hcv ⊢
  generalize askL (hdl r.heads) = al at hask hcv hal has
  have hsi := fun w' => refSimple M w'
  have hmm := @run_makeMap Tryz.prog
  go_enter Tryz.func43, Tryz.ntmps43
  go_wp2_with fail
  refine (hme _).mono ?_
  rintro e w1 ⟨rfl, hB1⟩
  have hW1 : Hid (MapW w r w1.heap.size 0 [] (w1.alloc (.map #[] 0))) := by
    have hlt := hB1.size
    simp at hlt
    have hlow : Below w.heap.size w w1 := ((Below.refl w.heap.size w).alloc (Nat.le_refl _) _).then (by simp) hB1
    refine Lib.hid ⟨hlow.alloc hlow.size _, ((Blk.new w r.arr tReq).later hB1).alloc _, by omega, _, World.ownsMap_made _ _ _ _, SetIs.nil⟩
  clear hme hB1
  go_wp2_with fail
  refine (hsi _).mono ?_
  rintro e w2 ⟨rfl, rfl⟩
  clear hsi
  obtain ⟨B, hB⟩ : ∃ B, B = w1.heap.size := ⟨_, rfl⟩
  rw [← hB] at hW1 ⊢
  obtain ⟨w3, hw3⟩ : ∃ x, x = w1.alloc (.map #[] 0) := ⟨_, rfl⟩
  rw [← hw3] at hW1 ⊢
  clear hw3 hB
  obtain ⟨bs, hbs⟩ : ∃ bs, simpleB M = bs := ⟨_, rfl⟩
  rw [hbs] at hcv ⊢
  clear hbs
  go_upto_if 18 with (fail)
  go_cut [] (fun wx => Hid (MapW w r B 1 (if bs = true then [] else [109 :: M.data.toList]) wx))
  case first =>
    obtain ⟨D, hD, hDs⟩ := hW1.out.map
    cases bs
    · have hks := wf_len (c := 109) hms
      go_wp2_with (at_mapUpdate; refine wpList_mapUpdate_own _ rfl _ _ _ tSB rfl 9 4 lawStr Tryz.underlying121 _ B 0 D rfl hD (by decide) _ _ _ rfl rfl (WideMaps.keyOf_string_mk Tryz.underlying9 (show _ ≤ maxLen by unfold maxLen; omega)) _ [] (plainElem_bool Tryz.underlying4 true) ?_; intro w4 hown4 hgrow4)
      have hW4 := hW1.out.turn hgrow4 hown4 (hDs.put _ _)
      rw [cat_list] at hW4
      go_meet
      exact Lib.hid hW4
    · have hW4 : MapW w r B 1 [] w3 := ⟨hW1.out.low, hW1.out.box, hW1.out.new, D, hD.mono (Nat.zero_le _), hDs⟩
      go_wp2
      go_meet
      exact Lib.hid hW4
  case rest =>
    have hW3 := hcut
    clear hcut hW1
    have hc10 := hW3.out.box.cell 10 rfl
    go_wp2_with fail
    refine (hask _ (hM.later hW3.out.low) (hOH.out.at_.later hW3.out.low)).mono ?_
    rintro e w5 ⟨⟨v, rfl, hS⟩, hB5⟩
    obtain ⟨a5, cap5, rfl, hS5, _, _, _⟩ := hS.shape
    have hW5 := Lib.hid (hW3.out.later hB5)
    have hS5' := Lib.hid hS5
    rw [mkT_len]
    clear hask hS hS5 hB5 hW3 hc10
    go_wp2
    go_loopw [26] (fun i wr => ∃ k : Nat, k ≤ al.length ∧ i = .int .i64 k ∧ Hid (MapW w r B (k + 1) ((if bs = true then [] else [109 :: M.data.toList]) ++ (al.take k).map (fun h => 104 :: h)) wr) ∧ Hid (StrAt wr a5 (mkT al))) (fun i _ => al.length - (intOf i).toNat)
    case atStart => exact ⟨0, Nat.zero_le _, rfl, Lib.hid (by simpa using hW5.out), hS5'⟩
    case round =>
      obtain ⟨k, hk, rfl, hWr, hSr⟩ := hrel
      clear hW5 hS5'
      by_cases hlt : k < al.length
      · obtain ⟨b, off, rfl, hc⟩ := hSr.out k (by rw [mkT_len]; exact hlt)
        obtain ⟨h, hh⟩ : ∃ h : ByteArray, h = (mkT al)[k]'(by rw [mkT_len]; exact hlt) := ⟨_, rfl⟩
        rw [← hh] at hc
        have hhl : h.data.toList = al[k] := by rw [hh]; simp [mkT]
        have hhs : h.size ≤ 1000 := by rw [sz_len, hhl]; exact has.out _ (List.getElem_mem hlt)
        have hks := wf_len (c := 104) hhs
        obtain ⟨D, hD, hDs⟩ := hWr.out.map
        have hnext := Lib.hid (show (al.take (k + 1)).map (fun h => 104 :: h) = (al.take k).map (fun h => 104 :: h) ++ [((⟨#[104]⟩ : ByteArray) ++ h).data.toList] by rw [List.take_succ_eq_append_getElem hlt, List.map_append, cat_list, hhl]; rfl)
        clear hh hhl
        go_wp2_with (at_mapUpdate; refine wpList_mapUpdate_own _ rfl _ _ _ tSB rfl 9 4 lawStr Tryz.underlying121 _ B (k + 1) D rfl hD (by unfold maxLen; omega) _ _ _ rfl rfl (WideMaps.keyOf_string_mk Tryz.underlying9 (show _ ≤ maxLen by unfold maxLen; omega)) _ [] (plainElem_bool Tryz.underlying4 true) ?_; intro w6 hown6 hgrow6)
        have hW6 := Lib.hid (hWr.out.turn hgrow6 hown6 (hDs.put _ _))
        have hS6 := Lib.hid (hSr.out.map hD hgrow6)
        go_roundw
        case rel => exact ⟨k + 1, by omega, by go_num, Lib.hid (by rw [hnext.out, ← List.append_assoc]; exact hW6.out), hS6⟩
        case measure => simp [intOf]; omega
      · obtain rfl : al.length = k := by omega
        have hW7 : Hid (MapW w r B (al.length + 1) (keys0 bs M.data.toList al) wr) := Lib.hid (by have := hWr.out; rw [List.take_length] at this; exact this)
        have hK0 : Hid (∀ s ∈ keys0 bs M.data.toList al, ∃ c t, s = c :: t) := Lib.hid (fun s hs => keys_head hs)
        clear hWr hSr hlt hk has
        generalize keys0 bs M.data.toList al = K0 at hW7 hK0 hcv
        go_wp2
        go_loopw [36] (fun i wr => ∃ k : Nat, k ≤ ps.length ∧ i = .int .i64 k ∧ Hid (MapW w r B (al.length + 1) (leftL r.creds ((ps.take k).map pasV) K0) wr)) (fun i _ => ps.length - (intOf i).toNat)
        case atStart => exact ⟨0, Nat.zero_le _, rfl, hW7⟩
        case round =>
          obtain ⟨k, hk, rfl, hWr⟩ := hrel
          obtain ⟨wo, rfl⟩ : ∃ x, x = wr := ⟨_, rfl⟩
          clear hW7
          by_cases hlt : k < ps.length
          · obtain ⟨b, off, rfl, hc⟩ := (hPH.out.later hWr.out.low) k hlt
            have hrg : wo.rangeAt b (off + k * 12) (encPass ps[k]) := hc
            have hx1 := (hPO.out _ (List.getElem_mem hlt)).method
            have hx2 := (hPO.out _ (List.getElem_mem hlt)).head
            simp only [reachBytes] at hx1 hx2
            have hstep := Lib.hid (show leftL r.creds ((ps.take (k + 1)).map pasV) K0 = (leftL r.creds ((ps.take k).map pasV) K0).filter (fun q => !gone r.creds (pasV ps[k]) q) by rw [List.take_succ_eq_append_getElem hlt, List.map_append]; exact leftL_snoc _ _ _ _)
            have hhd := Lib.hid (show ∀ s ∈ leftL r.creds ((ps.take k).map pasV) K0, ∃ c t, s = c :: t from fun s hs => hK0.out s (leftL_mem hs))
            clear hc
            generalize leftL r.creds ((ps.take k).map pasV) K0 = KS at hWr hstep hhd
            generalize ps[k] = x at hrg hx1 hx2 hstep
            have hks1 := wf_len (c := 109) hx1
            have hks2 := wf_len (c := 104) hx2
            obtain ⟨D, hD, hDs⟩ := hWr.out.map
            have hnew := hWr.out.new
            have hBl := hD.lt
            have hlo := hWr.out.low.size
            have hZ := Blk.new wo zPass tPass
            go_wp2_with (first
              | (refine wpList_store_blk rfl tPass _ _ rfl _ rfl hZ x.arr rfl rfl infoPass (pass_one x) ?_; intro wa hpas hga; have hIn0 := Lib.hid (pass_in hWr.out hpas hga); have hc9 : _ = some (Value.string x.method) := hpas.cell 9 rfl; have hDa := (hD.alloc (.cells zPass tPass)).kept hga (by simp; omega); have hsz0 := hga.size)
              | (refine wpList_load_mid rfl 79 _ rfl b (off + k * 12) rfl (encPass x) _ hrg Tryz.underlying79 rfl infoPass ?_)
              | (at_delete; refine wpList_delete_own _ rfl _ _ tSB 9 rfl 4 lawStr Tryz.underlying121 _ B (al.length + 1) D rfl hDa _ _ rfl (WideMaps.keyOf_string_mk Tryz.underlying9 (show ((⟨#[109]⟩ : ByteArray) ++ x.method).size ≤ maxLen by unfold maxLen; omega)) ?_; intro w6 hown6 hturn6; have hIn6 := Lib.hid (hIn0.out.turn hturn6.grown hnew (by omega)); have hc10 : _ = some (Value.string x.head) := hIn6.out.pas.cell 10 rfl; have hsz6 := hturn6.grown.size)
              | (at_delete; refine wpList_delete_own _ rfl _ _ tSB 9 rfl 4 lawStr Tryz.underlying121 _ B (al.length + 1) _ rfl hown6 _ _ rfl (WideMaps.keyOf_string_mk Tryz.underlying9 (show ((⟨#[104]⟩ : ByteArray) ++ x.head).size ≤ maxLen by unfold maxLen; omega)) ?_; intro w7 hown7 hturn7; have hIn7 := Lib.hid (hIn6.out.turn hturn7.grown hnew (by omega)); have hsz7 := hturn7.grown.size)
              | (at_range; refine wpList_range_own _ rfl _ tSB rfl 9 4 lawStr Tryz.underlying121 _ B (al.length + 1) _ rfl hown7 ?_; intro w8 hrg0 hg0 hs0))
            have hR7 := Lib.hid (show w.heap.size < w7.heap.size by simp at hsz0; omega)
            have hR8 := Lib.hid (show w7.heap.size ≠ wo.heap.size by simp at hsz0; omega)
            have hIn8 := Lib.hid (hIn7.out.grow hg0)
            have hK7 : Hid (SetIs ((D.del (.string ((⟨#[109]⟩ : ByteArray) ++ x.method).data.toList)).del (.string ((⟨#[104]⟩ : ByteArray) ++ x.head).data.toList)) (ownK (pasV x) KS)) := by
              have := (hDs.del ((⟨#[109]⟩ : ByteArray) ++ x.method).data.toList).del ((⟨#[104]⟩ : ByteArray) ++ x.head).data.toList
              rw [cat_list, cat_list] at this ⊢
              exact Lib.hid this
            have hrg0' := Lib.hid hrg0
            clear hrg0 hg0 hs0 hIn7 hIn6 hIn0 hc9 hc10 hown7 hown6 hturn6 hturn7 hDa hD hDs hrg hks1 hks2 hZ hpas hga
            generalize hR : w7.heap.size = R at hrg0' hR7 hR8 ⊢
            go_frame
            go_loopw [11] (fun _ wr => ∃ (left : Lit → Bool) (cnt : Nat) (E : DataW Unit), Hid (wr.ranges Tryz.prog 9 (plainElem (H := Unit) Tryz.prog 4) B R (al.length + 1) E left cnt) ∧ Hid (SetIs E (midK r.creds (pasV x) (ownK (pasV x) KS) left)) ∧ Hid (InW w r wo.heap.size x wr)) (fun _ wr => wr.rangeLeft B R)
            case atStart => exact ⟨_, _, _, hrg0', Lib.hid (midK_start _ _ hK7.out), hIn8⟩
            case round =>
              obtain ⟨left, cnt, E, hrE, hSE, hIE⟩ := hrel
              have hrE0 := hrE.out
              clear hrg0' hK7 hIn8
              go_upto_region 18 with (at_next; refine wpList_next_sb _ rfl _ rfl B R (al.length + 1) _ _ _ rfl hrE0 (fun hl0 => ?_) (fun s c w9 cnt9 hss hls hhs hrg9 hlt9 hgr9 hsz9 hen9 => ?_))
              · have hEnd : Hid (MapW w r B (al.length + 1) (leftL r.creds ((ps.take (k + 1)).map pasV) K0) wr) := Lib.hid ⟨hIE.out.low, hIE.out.box, hnew, E, hrE0.owns, by rw [hstep.out, ← midK_end hl0]; exact hSE.out⟩
                go_wp2
                go_roundw
                case rel => exact ⟨k + 1, by omega, by go_num, hEnd⟩
                case measure => simp [intOf]; omega
              · have hI9 := Lib.hid (hIE.out.turn hgr9 hR7.out hR8.out)
                have hrg9' := Lib.hid hrg9
                obtain ⟨st, hst⟩ : ∃ st, starK r.creds (pasV x) s.data.toList = st := ⟨_, rfl⟩
                have h0 : 0 < s.size := by
                  obtain ⟨c0, t0, e0⟩ := hhd.out _ (midK_mem (hSE.out.mem hhs))
                  rw [sz_len, e0]; simp
                have hstar := Lib.hid (show starK r.creds (pasV x) s.data.toList = (!r.creds && (((x.method.toList == [42]) && (s[0] == 109)) || ((x.head.toList == [42]) && (s[0] == 104) && !(s.toList == [104, 97, 117, 116, 104, 111, 114, 105, 122, 97, 116, 105, 111, 110])))) from by
                  unfold starK pasV
                  rw [head_c s 109 h0, head_c s 104 h0]
                  simp only [Lib.toList_data, bne]
                  rfl)
                clear hls hhs hrg9 hgr9 hsz9
                go_cut [80] (fun v wx => v = .bool st ∧ wx = w9)
                case first =>
                  have c5 : _ = some (Value.bool r.creds) := hI9.out.box.cell 11 rfl
                  have c9 : _ = some (Value.string x.method) := hI9.out.pas.cell 9 rfl
                  have c10 : _ = some (Value.string x.head) := hI9.out.pas.cell 10 rfl
                  have u109 := u8e s[0] 109 109 rfl
                  have u104 := u8e s[0] 104 104 rfl
                  have hc256 : (s[0].toNat : Int) < 256 := by have := s[0].toNat_lt; omega
                  rw [hstar.out] at hst
                  have hst' := Lib.hid hst
                  clear hst hstar
                  generalize r.creds = wth at c5 hst'
                  cases wth
                  · cases e1 : (x.method.toList == [42]) <;> cases e2 : (s[0] == 109) <;> cases e3 : (x.head.toList == [42]) <;> cases e4 : (s[0] == 104) <;> cases e5 : (s.toList == [104, 97, 117, 116, 104, 111, 114, 105, 122, 97, 116, 105, 111, 110])
                    all_goals
                      rw [e1, e2, e3, e4, e5] at hst'
                      rw [e2] at u109
                      rw [e4] at u104
                      obtain rfl := hst'.out
                      clear hst'
                      go_wp2
                      go_meet
                      exact ⟨rfl, rfl⟩
                  · obtain rfl := hst'.out
                    clear hst'
                    go_wp2
                    go_meet
                    exact ⟨rfl, rfl⟩
                case rest =>
                  obtain ⟨rfl, rfl⟩ := hcut
                  cases st
                  · go_wp2
                    go_roundw
                    case rel => exact ⟨_, cnt9, E, hrg9', Lib.hid (midK_stays hSE.out hst), hI9⟩
                    case measure => rw [hrg9'.out.left_eq, hrE.out.left_eq]; omega
                  · have hrg8 := hrg9'.out
                    go_wp2_with (at_delete; refine wpList_delete_ranges _ rfl _ _ tSB 9 rfl 4 lawStr Tryz.underlying121 _ B R (al.length + 1) _ _ _ rfl hrg8 _ _ rfl (WideMaps.keyOf_string_mk Tryz.underlying9 hss) ?_; intro wd cntd hrgd hled hturnd; go_frame)
                    rw [Maps.strike_twice] at hrgd
                    go_roundw
                    case rel => exact ⟨_, cntd, _, Lib.hid hrgd, Lib.hid (midK_struck hSE.out rfl hst), Lib.hid (hI9.out.turn hturnd.grown hnew (by omega))⟩
                    case measure => rw [hrgd.left_eq, hrE.out.left_eq]; omega
          · obtain rfl : ps.length = k := by omega
            have hEnd : Hid (MapW w r B (al.length + 1) (leftL r.creds (ps.map pasV) K0) wo) := by have := hWr.out; rw [List.take_length] at this; exact Lib.hid this
            clear hWr
            obtain ⟨D, hD, hDs⟩ := hEnd.out.map
            have hfin := Lib.hid (hDs.size hD)
            go_wp2_with (at_len; refine wpList_len_own _ rfl _ tSB rfl 9 4 Tryz.underlying121 _ B (al.length + 1) _ rfl hD ?_)
            go_ret
            exact ⟨ret_bool (by rw [hcv.out, ← hfin.out, Bool.eq_iff_iff, beq_iff_eq, decide_eq_true_iff]; omega), hEnd.out.low⟩
end Go.Proofs.YtnfcdccdmlodeaaGreatDoor
