/- world.right and the reference's OpRight: whether an operation may be one. -/
import Derived.Test.YtmpgamnpmgedkaaDoorOpV
import Derived.Test.YtmpgamnpmgedkaaDoorFetchRight
import Derived.Test.YtmpgamnpmgedkaaDoorUrlRight
import Derived.Test.YtmpgamnpmgedkaaDoorRight
import Derived.Test.YtmpgamnpmgedkaaDoorClean
namespace Go.Proofs.YtmpgamnpmgedkaaDoor
open Go.RowKit

def rightB (o : OpV) : Bool := decide (1 ≤ o.what) && decide (o.what ≤ 10) && reqRight o.req && (hostOk o.req.orig.host.data.toList && portOk o.req.orig.port) && (hostOk o.req.dest.host.data.toList && portOk o.req.dest.port) && decide (o.req.path.size ≤ 200) && (o.req.path.data.toList.head? == some 47) && decide (o.text.size ≤ 3000)
theorem box_two {w wr : World} {c d : Array Value} {T U : TypeId} (h : Below (w.heap.size + 2) ((w.alloc (.cells c T)).alloc (.cells d U)) wr) :
    (∀ (i : Nat) (v : Value), c[i]? = some v → wr.cell? ⟨w.heap.size, i, none⟩ = some v) ∧ (∀ (i : Nat) (v : Value), d[i]? = some v → wr.cell? ⟨w.heap.size + 1, i, none⟩ = some v) := by
  constructor
  · intro i v hv
    exact box_cell (w := w) (((Below.refl _ _).alloc (by simp) _).trans (h.mono (by omega))) i hv
  · intro i v hv
    exact box_cell (w := w.alloc (.cells c T)) (B := w.heap.size + 1) h i hv (by simp)
theorem after_two {w wr : World} {o p : Obj} (h : Below (w.heap.size + 2) ((w.alloc o).alloc p) wr) :
    Below (w.heap.size + 2) ((w.alloc o).alloc p) wr ∧ Below w.heap.size w wr ∧ w.heap.size + 2 ≤ wr.heap.size :=
  ⟨h, (((Below.refl w.heap.size w).alloc (Nat.le_refl _) o).alloc (by simp) p).trans (h.mono (by omega)), by have := h.size; simp at this; omega⟩
theorem head_is (s : ByteArray) (h : 0 < s.size) : (s.data.toList.head? == some 47) = (s[0] == 47) := by
  have hl : 0 < s.data.toList.length := by rw [← sz_len]; exact h
  rw [List.head?_eq_getElem?, List.getElem?_eq_getElem hl, at_list s 0 h hl]
  rfl
theorem head_not (s : ByteArray) (h : s.size = 0) : (s.data.toList.head? == some 47) = false := by
  rw [sz_len] at h
  rw [List.length_eq_zero_iff.1 h]
  rfl
set_option maxRecDepth 100000 in
set_option maxHeartbeats 4000000 in
theorem worldRight (o : OpV) (w : World) (hO : o.Ok w) :
    Calls Tryd.prog 134 #[.agg o.arr] w fun e w' => e = .returned (.bool (rightB o)) ∧ Below w.heap.size w w' := by
  have z1 := hO.text; have z2 := hO.req.path; have z3 := hO.req.host1; have z4 := hO.req.host2
  simp only [reachBytes] at z1 z2 z3 z4
  have hreq := fun (w' : World) (h : Below w.heap.size w w') => fetchRight o.req w' (hO.req.later h)
  have ho1 := fun w' => urlRight o.req.orig.sec o.req.orig.host o.req.orig.port w'
  have ho2 := fun w' => urlRight o.req.dest.sec o.req.dest.host o.req.dest.port w'
  have hr : Hid (rightB o = _) := Lib.hid (show rightB o = (decide (1 ≤ o.what) && decide (o.what ≤ 10) && reqRight o.req && (hostOk o.req.orig.host.data.toList && portOk o.req.orig.port) && (hostOk o.req.dest.host.data.toList && portOk o.req.dest.port) && decide (o.req.path.size ≤ 200) && (o.req.path.data.toList.head? == some 47) && decide (o.text.size ≤ 3000)) from rfl)
  generalize rightB o = RB at hr ⊢
  generalize reqRight o.req = b1 at hr hreq
  generalize (hostOk o.req.orig.host.data.toList && portOk o.req.orig.port) = b2 at hr ho1
  generalize (hostOk o.req.dest.host.data.toList && portOk o.req.dest.port) = b3 at hr ho2
  clear hO
  obtain ⟨what, ⟨part, ⟨s1, h1, p1⟩, ⟨s2, h2, p2⟩, path, query, method, addr, cap, heads, creds, body⟩, proxy, text, user, pass, cn, cert, all, n⟩ := o
  dsimp only [Req.arr, OpV.arr] at *
  cases hw1 : decide (1 ≤ what)
  · rw [hw1] at hr
    go_enter Tryd.func134, Tryd.ntmps134
    go_wp2_with fail
    go_ret
    exact ⟨ret_bool (by rw [hr.out]; simp), by go_grown⟩
  cases hw2 : decide (what ≤ 10)
  · rw [hw1, hw2] at hr
    go_enter Tryd.func134, Tryd.ntmps134
    go_wp2_with fail
    go_ret
    exact ⟨ret_bool (by rw [hr.out]; simp), by go_grown⟩
  rw [hw1, hw2] at hr
  go_enter Tryd.func134, Tryd.ntmps134
  go_wp2_with fail
  refine (hreq _ (((Below.refl _ _).alloc (Nat.le_refl _) _).alloc (by simp) _)).mono ?_
  rintro e w1 ⟨rfl, hB1⟩
  obtain ⟨hC1, hBw1, hs1⟩ := after_two (by simpa using hB1)
  obtain ⟨hk, hm⟩ := box_two hC1
  have k15 := hk 15 _ rfl
  have m1 := hm 1 _ rfl; have m2 := hm 2 _ rfl; have m3 := hm 3 _ rfl; have m4 := hm 4 _ rfl; have m5 := hm 5 _ rfl; have m6 := hm 6 _ rfl; have m7 := hm 7 _ rfl
  clear hk hm
  cases b1
  · go_wp2
    go_ret
    exact ⟨ret_bool (by rw [hr.out]; simp), hBw1⟩
  go_wp2_with fail
  refine (ho1 _).mono ?_
  rintro e w2 ⟨rfl, hB2⟩
  obtain ⟨hC2, hBw2, hs2⟩ := after_two (hC1.then (by simp) hB2)
  obtain ⟨hk, hm⟩ := box_two hC2
  clear k15 m1 m2 m3 m4 m5 m6 m7 hB1 hC1 hBw1 hs1 hB2
  have k15 := hk 15 _ rfl
  have m4 := hm 4 _ rfl; have m5 := hm 5 _ rfl; have m6 := hm 6 _ rfl; have m7 := hm 7 _ rfl
  clear hk hm
  cases b2
  · go_wp2
    go_ret
    exact ⟨ret_bool (by rw [hr.out]; simp), hBw2⟩
  go_wp2_with fail
  refine (ho2 _).mono ?_
  rintro e w3 ⟨rfl, hB3⟩
  obtain ⟨hC3, hBw3, hs3⟩ := after_two (hC2.then (by simp) hB3)
  obtain ⟨hk, hm⟩ := box_two hC3
  clear k15 m4 m5 m6 m7 hC2 hBw2 hs2 hB3
  have k15 := hk 15 _ rfl
  have m7 := hm 7 _ rfl
  clear hk hm
  cases b3
  · go_wp2
    go_ret
    exact ⟨ret_bool (by rw [hr.out]; simp), hBw3⟩
  by_cases hp : path.size ≤ 200
  · by_cases h0 : 0 < path.size
    · have e47 := u8eq path[0] 47 47 rfl
      rw [head_is path h0] at hr
      cases hc : (path[0] == 47)
      · rw [hc] at hr e47
        go_wp2
        go_ret
        exact ⟨ret_bool (by rw [hr.out]; simp), hBw3⟩
      · rw [hc] at hr e47
        by_cases ht : text.size ≤ 3000
        all_goals
          go_wp2
          go_ret
          exact ⟨ret_bool (by rw [hr.out]; simp [hp, ht]; try omega), hBw3⟩
    · rw [head_not path (by omega)] at hr
      go_wp2
      go_ret
      exact ⟨ret_bool (by rw [hr.out]; simp), hBw3⟩
  · go_wp2
    go_ret
    exact ⟨ret_bool (by rw [hr.out]; simp [hp]), hBw3⟩
set_option maxRecDepth 100000 in
set_option maxHeartbeats 4000000 in
theorem refOpRight (o : OpV) (w : World) (hO : o.Ok w) (hh1 : o.req.orig.host.size ≤ 1099511627776) (hh2 : o.req.dest.host.size ≤ 1099511627776) :
    Calls Tryd.prog 135 #[.agg o.arr] w fun e w' => e = .returned (.bool (rightB o)) ∧ Below w.heap.size w w' := by
  have z1 := hO.text; have z2 := hO.req.path; have z3 := hO.req.host1; have z4 := hO.req.host2
  simp only [reachBytes] at z1 z2 z3 z4
  have hreq := fun (w' : World) (h : Below w.heap.size w w') => refRequestRight o.req w' (hO.req.later h)
  have ho1 := fun w' => refOriginRight o.req.orig.sec o.req.orig.host o.req.orig.port hh1 w'
  have ho2 := fun w' => refOriginRight o.req.dest.sec o.req.dest.host o.req.dest.port hh2 w'
  have hr : Hid (rightB o = _) := Lib.hid (show rightB o = (decide (1 ≤ o.what) && decide (o.what ≤ 10) && reqRight o.req && (hostOk o.req.orig.host.data.toList && portOk o.req.orig.port) && (hostOk o.req.dest.host.data.toList && portOk o.req.dest.port) && decide (o.req.path.size ≤ 200) && (o.req.path.data.toList.head? == some 47) && decide (o.text.size ≤ 3000)) from rfl)
  generalize rightB o = RB at hr ⊢
  generalize reqRight o.req = b1 at hr hreq
  generalize (hostOk o.req.orig.host.data.toList && portOk o.req.orig.port) = b2 at hr ho1
  generalize (hostOk o.req.dest.host.data.toList && portOk o.req.dest.port) = b3 at hr ho2
  clear hO hh1 hh2
  obtain ⟨what, ⟨part, ⟨s1, h1, p1⟩, ⟨s2, h2, p2⟩, path, query, method, addr, cap, heads, creds, body⟩, proxy, text, user, pass, cn, cert, all, n⟩ := o
  dsimp only [Req.arr, OpV.arr] at *
  have hwt := fun w' => within_any what 1 10 w'
  have hhp := fun w' => hasPrefix_slash path w'
  obtain ⟨bw, hbw⟩ : ∃ b, (decide (1 ≤ what) && decide (what ≤ 10)) = b := ⟨_, rfl⟩
  rw [hbw] at hr hwt
  obtain ⟨bh, hbh⟩ : ∃ b, (path.data.toList.head? == some 47) = b := ⟨_, rfl⟩
  rw [hbh] at hr hhp
  clear hbw hbh
  go_enter Tryd.func135, Tryd.ntmps135
  go_wp2_with fail
  refine (hwt _).mono ?_
  rintro e w0 ⟨rfl, rfl⟩
  cases bw
  · go_wp2
    go_ret
    exact ⟨ret_bool (by rw [hr.out]; simp), by go_grown⟩
  go_wp2_with fail
  refine (hreq _ (((Below.refl _ _).alloc (Nat.le_refl _) _).alloc (by simp) _)).mono ?_
  rintro e w1 ⟨rfl, hB1⟩
  obtain ⟨hC1, hBw1, hs1⟩ := after_two (by simpa using hB1)
  obtain ⟨hk, hm⟩ := box_two hC1
  have k15 := hk 15 _ rfl
  have k2 := hk 2 _ rfl; have k3 := hk 3 _ rfl; have k4 := hk 4 _ rfl
  have m0 := hm 0 _ rfl; have m1 := hm 1 _ rfl; have m2 := hm 2 _ rfl; have m3 := hm 3 _ rfl
  clear hk hm
  cases b1
  · go_wp2
    go_ret
    exact ⟨ret_bool (by rw [hr.out]; simp), hBw1⟩
  go_wp2_with fail
  refine (ho1 _).mono ?_
  rintro e w2 ⟨rfl, hB2⟩
  obtain ⟨hC2, hBw2, hs2⟩ := after_two (hC1.then (by simp) hB2)
  obtain ⟨hk, hm⟩ := box_two hC2
  clear k15 k2 k3 k4 m0 m1 m2 m3 hB1 hC1 hBw1 hs1 hB2
  have k15 := hk 15 _ rfl
  have m0 := hm 0 _ rfl; have m1 := hm 1 _ rfl; have m2 := hm 2 _ rfl; have m3 := hm 3 _ rfl
  clear hk hm
  cases b2
  · go_wp2
    go_ret
    exact ⟨ret_bool (by rw [hr.out]; simp), hBw2⟩
  go_wp2_with fail
  refine (ho2 _).mono ?_
  rintro e w3 ⟨rfl, hB3⟩
  obtain ⟨hC3, hBw3, hs3⟩ := after_two (hC2.then (by simp) hB3)
  obtain ⟨hk, hm⟩ := box_two hC3
  clear k15 m0 m1 m2 m3 hC2 hBw2 hs2 hB3
  have k15 := hk 15 _ rfl
  have m3 := hm 3 _ rfl
  clear hk hm
  cases b3
  · go_wp2
    go_ret
    exact ⟨ret_bool (by rw [hr.out]; simp), hBw3⟩
  go_wp2_with fail
  refine (hhp _).mono ?_
  rintro e w4 ⟨rfl, rfl⟩
  cases bh
  · go_wp2
    go_ret
    exact ⟨ret_bool (by rw [hr.out]; simp), hBw3⟩
  by_cases hp : path.size ≤ 200
  · by_cases ht : text.size ≤ 3000
    all_goals
      go_wp2
      go_ret
      exact ⟨ret_bool (by rw [hr.out]; simp [hp, ht]; try omega), hBw3⟩
  · go_wp2
    go_ret
    exact ⟨ret_bool (by rw [hr.out]; simp [hp]), hBw3⟩
end Go.Proofs.YtmpgamnpmgedkaaDoor
