/- proof.Digest: the header that proves a request. -/
import Derived.Test.YtdlhihfjigcimaaDoorDigP
import Derived.Test.YtdlhihfjigcimaaDoorFoun2
import Derived.Deep.DeepCutAuto
import Derived.BigRegion
namespace Go.Proofs.YtdlhihfjigcimaaDoor
open Go.RowKit
abbrev tBool : TypeId := 4
theorem strCells_val (L : List UInt8) : Lib.strCells ⟨L.toArray⟩ = Lib.byteCells L := rfl
theorem bool_u8 : tBool ≠ 5 := by decide
def DigAt (B b p : Nat) (st : Bool × List UInt8) (w : World) : Prop := IsB B b (Lib.byteCells st.2) w ∧ Blk w p #[.bool st.1] tBool
set_option maxRecDepth 100000 in
set_option maxHeartbeats 2000000 in
theorem digAdd (B b p : Nat) (it : DItem) (bad : Bool) (L : List UInt8) (w : World) (hb : IsB B b (Lib.byteCells L) w) (hp : Blk w p #[.bool bad] tBool) (hpb : p ≠ b) (hpB : B ≤ p) (hBw : B ≤ w.heap.size) (hok : DOk it) (hL : L.length ≤ 100000000) :
    Calls Tryd.prog 62 #[.string it.name, .string it.value, .bool it.q, .pointer (some ⟨p, 0, none⟩), .pointer (some ⟨b, 0, none⟩)] w fun e w' => e = .returned (.tuple #[]) ∧ DigAt B b p (dStep (bad, L) it) w' ∧ Below B w w' := by
  obtain ⟨V, hV⟩ : ∃ V : ByteArray, V = ⟨it.val.toArray⟩ := ⟨_, rfl⟩
  have hVl : V.data.toList = it.val := by rw [hV]
  have hVs : V.size ≤ 200002 := by rw [sz_len, hVl]; exact dVal_len it hok.2
  obtain ⟨bd, hbd⟩ : ∃ bd : Bool, bd = (bad || it.bad) := ⟨_, rfl⟩
  have hres := Lib.hid (show dStep (bad, L) it = (bd, dPre L ++ (it.name.data.toList ++ [61] ++ V.data.toList)) by unfold dStep DItem.text; rw [hbd, hVl])
  have hq := fun w' => tokenQuote it.value w' (by have := hok.2; omega)
  obtain ⟨nm, vl, q⟩ := it
  obtain ⟨hn, hv⟩ := hok
  simp only at hn hv hV hbd hq ⊢
  have hq2 := hq
  unfold quoteRes at hq2
  have hbh := Lib.hid hb
  have hph := Lib.hid hp
  have hbe : Hid (bd = (bad || DItem.bad ⟨nm, vl, q⟩)) := Lib.hid hbd
  have hVe : Hid (V = ⟨(DItem.val ⟨nm, vl, q⟩).toArray⟩) := Lib.hid hV
  clear hq hVl hV hbd
  generalize dStep (bad, L) ⟨nm, vl, q⟩ = st at hres ⊢
  have c0 := hp.cell 0 rfl
  have f0 := hp.free 0
  go_enter Tryd.func62, Tryd.ntmps62
  go_upto_if 9 with (fail)
  go_cut [1] (fun s wx => s = .string V ∧ Hid (IsB B b (Lib.byteCells L) wx ∧ Blk wx p #[.bool bd] tBool ∧ Below B w wx))
  case first =>
    cases q
    · have e1 : V = vl := by rw [hVe.out]; exact (ba_eq rfl).symm
      have e2 : bd = bad := by rw [hbe.out]; unfold DItem.bad; simp
      subst e1 e2
      go_wp2_with fail
      go_meet
      exact ⟨rfl, Lib.hid ⟨hbh.out, hph.out, Below.refl _ _⟩⟩
    · cases hqt : quotable vl.data.toList
      · rw [hqt] at hq2
        have e1 : V = ⟨#[]⟩ := by rw [hVe.out]; unfold DItem.val; simp only [hqt]; rfl
        have e2 : bd = true := by rw [hbe.out]; unfold DItem.bad; simp [hqt]
        subst e1 e2
        clear hqt
        go_wp2_with fail
        refine (hq2 _).mono ?_
        rintro e w1 ⟨rfl, hB1⟩
        have hb1 := Lib.hid (hbh.out.later hB1)
        have hp1 := hph.out.later hB1
        have ho1 := Lib.hid (hB1.mono hBw)
        have d0 := hp1.cell 0 rfl
        have g0 := hp1.free 0
        have hp1' := Lib.hid hp1
        clear hp1 c0 f0
        cases bad
        · go_wp2_with fail
          go_meet
          exact ⟨rfl, Lib.hid ⟨hb1.out.far hpb bool_u8 hp1'.out _, by simpa using hp1'.out.set 0 (.bool true), ho1.out.setCell (p := ⟨p, 0, none⟩) hpB _⟩⟩
        · go_wp2_with fail
          go_meet
          exact ⟨rfl, Lib.hid ⟨hb1.out.far hpb bool_u8 hp1'.out _, by simpa using hp1'.out.set 0 (.bool true), ho1.out.setCell (p := ⟨p, 0, none⟩) hpB _⟩⟩
      · rw [hqt] at hq2
        have e1 : V = ⟨(quoted vl.data.toList).toArray⟩ := by rw [hVe.out]; unfold DItem.val; simp only [hqt]; rfl
        have e2 : bd = bad := by rw [hbe.out]; unfold DItem.bad; simp [hqt]
        simp only [if_true] at hq2
        rw [← e1] at hq2
        subst e2
        clear hqt e1
        go_wp2_with fail
        refine (hq2 _).mono ?_
        rintro e w1 ⟨rfl, hB1⟩
        have hb1 := Lib.hid (hbh.out.later hB1)
        have hp1 := hph.out.later hB1
        have ho1 := Lib.hid (hB1.mono hBw)
        have d0 := hp1.cell 0 rfl
        have g0 := hp1.free 0
        have hp1' := Lib.hid hp1
        clear hp1 c0 f0
        cases bd
        · go_wp2_with fail
          go_meet
          exact ⟨rfl, Lib.hid ⟨hb1.out.far hpb bool_u8 hp1'.out _, by simpa using hp1'.out.set 0 (.bool false), ho1.out.setCell (p := ⟨p, 0, none⟩) hpB _⟩⟩
        · go_wp2_with fail
          go_meet
          exact ⟨rfl, Lib.hid ⟨hb1.out.far hpb bool_u8 hp1'.out _, by simpa using hp1'.out.set 0 (.bool true), ho1.out.setCell (p := ⟨p, 0, none⟩) hpB _⟩⟩
  case rest =>
    obtain ⟨rfl, hZ⟩ := hcut
    clear hbh hph hbe hVe hq2 c0 f0 hb hp
    have hbl := builderLen _ _ _ _ hZ.out.1
    rw [Lib.byteCells_length] at hbl
    have hsz := hZ.out.2.2.size
    have hBc : B ≤ wc.heap.size := Nat.le_trans hBw hsz
    have hna : (nm ++ (⟨#[61]⟩ : ByteArray)).size = nm.size + 1 := by rw [add_size]; rfl
    have hnv : ((nm ++ (⟨#[61]⟩ : ByteArray)) ++ V).size = nm.size + 1 + V.size := by rw [add_size, hna]
    by_cases h7 : 7 < L.length
    · have hpre := Lib.hid (show dPre L = L ++ [44, 32] from if_pos h7)
      have hws := writeStringK B b (Lib.byteCells L) ⟨#[44, 32]⟩ wc hZ.out.1 (by rw [Lib.byteCells_length]; show L.length + 2 ≤ _; omega) (by omega)
      rw [show Lib.byteCells L ++ Lib.strCells ⟨#[44, 32]⟩ = Lib.byteCells (L ++ [44, 32]) from (Lib.byteCells_append _ _).symm] at hws
      go_wp2_with fail
      refine hbl.mono ?_
      rintro e w2 ⟨rfl, rfl⟩
      go_wp2_with fail
      refine hws.mono ?_
      rintro e w3 ⟨rfl, hb3, ho3, hk3⟩
      have hs3 := ho3.size
      have hws2 := writeStringK B b (Lib.byteCells (L ++ [44, 32])) ((nm ++ (⟨#[61]⟩ : ByteArray)) ++ V) w3 hb3 (by rw [Lib.byteCells_length, hnv]; simp; omega) (by omega)
      rw [show Lib.byteCells (L ++ [44, 32]) ++ Lib.strCells ((nm ++ (⟨#[61]⟩ : ByteArray)) ++ V) = Lib.byteCells (L ++ [44, 32] ++ ((nm ++ (⟨#[61]⟩ : ByteArray)) ++ V).data.toList) from (Lib.byteCells_append _ _).symm] at hws2
      have hZ2 := Lib.hid (show Blk w3 p #[.bool bd] tBool ∧ Below B w w3 from ⟨hk3 p _ _ bool_u8 hpb hZ.out.2.1, hZ.out.2.2.trans ho3⟩)
      clear hb3 ho3 hk3 hZ
      go_wp2_with fail
      refine hws2.mono ?_
      rintro e w4 ⟨rfl, hb4, ho4, hk4⟩
      go_wp2
      go_end0
      refine ⟨rfl, ⟨?_, ?_⟩, hZ2.out.2.trans ho4⟩
      · rw [hres.out, hpre.out]
        simpa [add_toList] using hb4
      · rw [hres.out]
        exact hk4 p _ _ bool_u8 hpb hZ2.out.1
    · have hpre := Lib.hid (show dPre L = L from if_neg h7)
      have hws2 := writeStringK B b (Lib.byteCells L) ((nm ++ (⟨#[61]⟩ : ByteArray)) ++ V) wc hZ.out.1 (by rw [Lib.byteCells_length, hnv]; omega) (by omega)
      rw [show Lib.byteCells L ++ Lib.strCells ((nm ++ (⟨#[61]⟩ : ByteArray)) ++ V) = Lib.byteCells (L ++ ((nm ++ (⟨#[61]⟩ : ByteArray)) ++ V).data.toList) from (Lib.byteCells_append _ _).symm] at hws2
      have hZ2 := Lib.hid (show Blk wc p #[.bool bd] tBool ∧ Below B w wc from ⟨hZ.out.2.1, hZ.out.2.2⟩)
      clear hZ
      go_wp2_with fail
      refine hbl.mono ?_
      rintro e w2 ⟨rfl, rfl⟩
      go_wp2_with fail
      refine hws2.mono ?_
      rintro e w4 ⟨rfl, hb4, ho4, hk4⟩
      go_wp2
      go_end0
      refine ⟨rfl, ⟨?_, ?_⟩, hZ2.out.2.trans ho4⟩
      · rw [hres.out, hpre.out]
        simpa [add_toList] using hb4
      · rw [hres.out]
        exact hk4 p _ _ bool_u8 hpb hZ2.out.1
set_option maxRecDepth 100000 in
theorem proofName (a : AskV) (w : World) :
    Calls Tryd.prog 66 #[.agg a.arr] w fun e w' => e = .returned (.string (schB a.d.scheme a.d.sess)) ∧ Below w.heap.size w w' := by
  have hB0 := Lib.hid ((Below.refl w.heap.size w).alloc (Nat.le_refl _) (boxA a))
  obtain ⟨⟨sc, realm, nonce, opq, sess, qop, stale, dom⟩, ad, cap⟩ := a
  simp only at hB0 ⊢
  unfold schB
  by_cases h3 : sc = 3
  · subst h3
    go_enter Tryd.func66, Tryd.ntmps66
    cases sess
    · go_wp2
      go_ret
      exact ⟨rfl, hB0.out⟩
    · go_wp2
      go_ret
      exact ⟨rfl, hB0.out⟩
  · have g : (sc == 3) = false := by simpa using h3
    rw [if_neg h3]
    go_enter Tryd.func66, Tryd.ntmps66
    cases sess
    · go_wp2
      go_ret
      exact ⟨rfl, hB0.out⟩
    · go_wp2
      go_ret
      exact ⟨rfl, hB0.out⟩
end Go.Proofs.YtdlhihfjigcimaaDoor
