/- url.Origin: an origin out of a text. -/
import Derived.Test.YtigdlnjlmjhdnaaGreatDoorUrlO
import Derived.Test.YtigdlnjlmjhdnaaGreatDoorUrlS
namespace Go.Proofs.YtigdlnjlmjhdnaaGreatDoor
open Go.RowKit
def orV (o : Option (Bool × List UInt8 × Int)) (good bad : Value) : Value := match o with
  | some (sec, h, n) => .tuple #[.agg #[.bool sec, .string ⟨h.toArray⟩, .int .i64 n], good]
  | none => .tuple #[.agg #[.bool false, .string ⟨#[]⟩, .int .i64 0], bad]
theorem orV_some {o : Option (Bool × List UInt8 × Int)} {sec : Bool} {h : List UInt8} {n : Int} {good bad : Value} (e : o = some (sec, h, n)) : orV o good bad = .tuple #[.agg #[.bool sec, .string ⟨h.toArray⟩, .int .i64 n], good] := by rw [e]; rfl
theorem orV_none {o : Option (Bool × List UInt8 × Int)} {good bad : Value} (e : o = none) : orV o good bad = .tuple #[.agg #[.bool false, .string ⟨#[]⟩, .int .i64 0], bad] := by rw [e]; rfl
theorem schemeL_len {l r : List UInt8} {sec : Bool} (h : schemeL l = some (sec, r)) : r.length ≤ l.length := by
  unfold schemeL at h
  split at h
  · cases h; rw [List.length_drop]; omega
  · split at h
    · cases h; rw [List.length_drop]; omega
    · cases h
/-- the result's box -/
structure ZB (w W : World) : Prop where
  low : Below w.heap.size w W
  bs : w.heap.size < W.heap.size
  d0 : W.cell? ⟨w.heap.size, 0, none⟩ = some (.bool false)
  d1 : W.cell? ⟨w.heap.size, 1, none⟩ = some (.string ⟨#[]⟩)
  d2 : W.cell? ⟨w.heap.size, 2, none⟩ = some (.int .i64 0)
  f : ∀ i, W.frozen? ⟨w.heap.size, i, none⟩ = false
theorem ZB.start (w : World) : ZB w (w.alloc (Obj.cells #[.bool false, .string ⟨#[]⟩, .int .i64 0] 23)) :=
  have hR := Below.refl (w.heap.size + 1) (w.alloc (Obj.cells #[.bool false, .string ⟨#[]⟩, .int .i64 0] 23))
  ⟨below_box hR, by simp, box_cell hR 0 rfl, box_cell hR 1 rfl, box_cell hR 2 rfl, fun i => box_free hR i⟩
theorem ZB.later {w W W' : World} (h : ZB w W) (hB : Below W.heap.size W W') : ZB w W' :=
  ⟨h.low.then (Nat.le_refl _) hB, Nat.lt_of_lt_of_le h.bs hB.size, (hB.cell h.bs).trans h.d0, (hB.cell h.bs).trans h.d1, (hB.cell h.bs).trans h.d2, fun i => (hB.frozen h.bs).trans (h.f i)⟩
theorem ZB.box {w W : World} (h : ZB w W) (o : Obj) : ZB w (W.alloc o) := h.later ((Below.refl _ _).alloc (Nat.le_refl _) _)
set_option maxRecDepth 100000 in
set_option maxHeartbeats 4000000 in
theorem urlOrigin (s : ByteArray) (w : World) (hM : MaxL w) (hs : s.size ≤ 1000000) :
    Calls Tryz.prog 6 #[.string s] w fun e w' => e = .returned (orV (originP s.data.toList) .nilIface (.iface 24 (.int .i64 3))) ∧ Below w.heap.size w w' := by
  have hsc := urlScheme s (w.alloc (Obj.cells #[.bool false, .string ⟨#[]⟩, .int .i64 0] 23)) hs
  have hZ := Lib.hid (ZB.start w)
  have hsl : s.data.toList.length ≤ 1000000 := by rw [← sz_len]; exact hs
  go_enter Tryz.func6, Tryz.ntmps6
  cases h1 : schemeL s.data.toList with
  | none =>
    rw [schV_none h1] at hsc
    have hv := Lib.hid (show originP s.data.toList = none by unfold originP; rw [h1])
    clear h1
    go_wp2_with fail
    refine hsc.mono ?_
    rintro e w1 ⟨rfl, hB1⟩
    have hZ1 := Lib.hid (hZ.out.later hB1)
    have d0 := hZ1.out.d0
    have d1 := hZ1.out.d1
    have d2 := hZ1.out.d2
    have f0 := hZ1.out.f 0
    have f1 := hZ1.out.f 1
    have f2 := hZ1.out.f 2
    go_wp2
    obtain ⟨e0, e1, e2⟩ := set_3 (.bool false) (.string ⟨#[]⟩) (.int .i64 0) d0 d1 d2
    refine bodyPost_ret (v := .tuple #[.agg #[(.bool false), (.string ⟨#[]⟩), (.int .i64 0)], .iface 24 (.int .i64 3)]) (by simp [results, Tryz.results6, go_sem, e0, e1, e2]; try rfl) rfl ⟨by rw [orV_none hv.out], below_set3 hZ1.out.low (Nat.le_refl _)⟩
  | some x =>
    obtain ⟨sec, r⟩ := x
    rw [schV_some h1] at hsc
    have hrl : (⟨r.toArray⟩ : ByteArray).size ≤ 1000000 := by
      rw [sz_len, mk_toList]
      have := schemeL_len h1
      omega
    have hpl := fun w' (hM : MaxL w') => urlPlace sec ⟨r.toArray⟩ w' hM hrl
    rw [mk_toList] at hpl
    generalize (⟨r.toArray⟩ : ByteArray) = R at hsc hpl
    cases h2 : placeL sec r with
    | none =>
      rw [placeV_none h2] at hpl
      have hv := Lib.hid (show originP s.data.toList = none by unfold originP; rw [h1]; simp only []; rw [h2])
      clear h1 h2
      go_wp2_with fail
      refine hsc.mono ?_
      rintro e w1 ⟨rfl, hB1⟩
      have hZ1 := Lib.hid (hZ.out.later hB1)
      have hp2 := hpl _ (hM.later hZ1.out.low)
      clear hpl
      go_wp2_with fail
      refine hp2.mono ?_
      rintro e w2 ⟨rfl, hB2⟩
      have hZ2 := Lib.hid ((hZ1.out.later hB2).box (Obj.cells #[.bool false, .string ⟨#[]⟩, .int .i64 0] 23))
      have d0 := hZ2.out.d0
      have d1 := hZ2.out.d1
      have d2 := hZ2.out.d2
      have f0 := hZ2.out.f 0
      have f1 := hZ2.out.f 1
      have f2 := hZ2.out.f 2
      go_wp2
      obtain ⟨e0, e1, e2⟩ := set_3 (.bool false) (.string ⟨#[]⟩) (.int .i64 0) d0 d1 d2
      refine bodyPost_ret (v := .tuple #[.agg #[(.bool false), (.string ⟨#[]⟩), (.int .i64 0)], .iface 24 (.int .i64 3)]) (by simp [results, Tryz.results6, go_sem, e0, e1, e2]; try rfl) rfl ⟨by rw [orV_none hv.out], below_set3 hZ2.out.low (Nat.le_refl _)⟩
    | some y =>
      obtain ⟨h, n⟩ := y
      rw [placeV_some h2] at hpl
      cases h3 : hostOk h && portOk n
      · rw [h3] at hpl
        have hv := Lib.hid (show originP s.data.toList = none by unfold originP; rw [h1]; simp only []; rw [h2]; simp only []; rw [h3]; rfl)
        clear h1 h2
        generalize (⟨h.toArray⟩ : ByteArray) = H at hpl
        go_wp2_with fail
        refine hsc.mono ?_
        rintro e w1 ⟨rfl, hB1⟩
        have hZ1 := Lib.hid (hZ.out.later hB1)
        have hp2 := hpl _ (hM.later hZ1.out.low)
        clear hpl
        go_wp2_with fail
        refine hp2.mono ?_
        rintro e w2 ⟨rfl, hB2⟩
        have hZ2 := Lib.hid ((hZ1.out.later hB2).box (Obj.cells #[.bool sec, .string H, .int .i64 n] 23))
        have d0 := hZ2.out.d0
        have d1 := hZ2.out.d1
        have d2 := hZ2.out.d2
        have f0 := hZ2.out.f 0
        have f1 := hZ2.out.f 1
        have f2 := hZ2.out.f 2
        go_wp2
        obtain ⟨e0, e1, e2⟩ := set_3 (.bool false) (.string ⟨#[]⟩) (.int .i64 0) d0 d1 d2
        refine bodyPost_ret (v := .tuple #[.agg #[(.bool false), (.string ⟨#[]⟩), (.int .i64 0)], .iface 24 (.int .i64 3)]) (by simp [results, Tryz.results6, go_sem, e0, e1, e2]; try rfl) rfl ⟨by rw [orV_none hv.out], below_set3 hZ2.out.low (Nat.le_refl _)⟩
      · rw [h3] at hpl
        have hv := Lib.hid (show originP s.data.toList = some (sec, h, n) by unfold originP; rw [h1]; simp only []; rw [h2]; simp only []; rw [h3]; rfl)
        clear h1 h2
        have hov := Lib.hid (orV_some (good := .nilIface) (bad := .iface 24 (.int .i64 3)) hv.out)
        clear hv
        generalize (⟨h.toArray⟩ : ByteArray) = H at hpl hov
        go_wp2_with fail
        refine hsc.mono ?_
        rintro e w1 ⟨rfl, hB1⟩
        have hZ1 := Lib.hid (hZ.out.later hB1)
        have hp2 := hpl _ (hM.later hZ1.out.low)
        clear hpl
        go_wp2_with fail
        refine hp2.mono ?_
        rintro e w2 ⟨rfl, hB2⟩
        have hZ2 := Lib.hid ((hZ1.out.later hB2).box (Obj.cells #[.bool sec, .string H, .int .i64 n] 23))
        have t0 := new_cell w2 #[.bool sec, .string H, .int .i64 n] 23 w2.heap.size 0 rfl rfl
        have t1 := new_cell w2 #[.bool sec, .string H, .int .i64 n] 23 w2.heap.size 1 rfl rfl
        have t2 := new_cell w2 #[.bool sec, .string H, .int .i64 n] 23 w2.heap.size 2 rfl rfl
        have d0 := hZ2.out.d0
        have d1 := hZ2.out.d1
        have d2 := hZ2.out.d2
        have f0 := hZ2.out.f 0
        have f1 := hZ2.out.f 1
        have f2 := hZ2.out.f 2
        go_wp2
        obtain ⟨e0, e1, e2⟩ := set_3 (.bool sec) (.string H) (.int .i64 n) d0 d1 d2
        refine bodyPost_ret (v := .tuple #[.agg #[(.bool sec), (.string H), (.int .i64 n)], .nilIface]) (by simp [results, Tryz.results6, go_sem, e0, e1, e2]; try rfl) rfl ⟨by rw [hov.out], below_set3 hZ2.out.low (Nat.le_refl _)⟩
end Go.Proofs.YtigdlnjlmjhdnaaGreatDoor
