/- cors.May and the reference's May: whether a request's origin may see an answer. -/
import Derived.Test.YtnfcdccdmlodeaaGreatDoorGet
import Derived.Test.YtnfcdccdmlodeaaGreatDoorOrigin
import Derived.Test.YtnfcdccdmlodeaaGreatDoorFound
namespace Go.Proofs.YtnfcdccdmlodeaaGreatDoor
open Go.ChangeShapes Go.WideShapes Go.ChangeAt Go.RowKit Go.WideElems

theorem same_lower (a b c : ByteArray) (h : lower b.data.toList = lower c.data.toList) : same a b = same a c := by unfold same; rw [h]
theorem fieldOf_lower (ps : List (ByteArray × ByteArray)) (b c : ByteArray) (h : lower b.data.toList = lower c.data.toList) : fieldOf ps b = fieldOf ps c := by
  have : valsOf ps b = valsOf ps c := by
    unfold valsOf
    congr 1
    exact List.filter_congr (fun p _ => same_lower _ _ _ h)
  unfold fieldOf; rw [this]
def nOrigin : ByteArray := ⟨#[97, 99, 99, 101, 115, 115, 45, 99, 111, 110, 116, 114, 111, 108, 45, 97, 108, 108, 111, 119, 45, 111, 114, 105, 103, 105, 110]⟩
def nOriginG : ByteArray := ⟨#[65, 99, 99, 101, 115, 115, 45, 67, 111, 110, 116, 114, 111, 108, 45, 65, 108, 108, 111, 119, 45, 79, 114, 105, 103, 105, 110]⟩
def nCreds : ByteArray := ⟨#[97, 99, 99, 101, 115, 115, 45, 99, 111, 110, 116, 114, 111, 108, 45, 97, 108, 108, 111, 119, 45, 99, 114, 101, 100, 101, 110, 116, 105, 97, 108, 115]⟩
def nCredsG : ByteArray := ⟨#[65, 99, 99, 101, 115, 115, 45, 67, 111, 110, 116, 114, 111, 108, 45, 65, 108, 108, 111, 119, 45, 67, 114, 101, 100, 101, 110, 116, 105, 97, 108, 115]⟩
theorem origin_field (ps : List (ByteArray × ByteArray)) : fieldOf ps nOriginG = fieldOf ps nOrigin := fieldOf_lower _ _ _ (by decide +kernel)
theorem creds_field (ps : List (ByteArray × ByteArray)) : fieldOf ps nCredsG = fieldOf ps nCreds := fieldOf_lower _ _ _ (by decide +kernel)
/-- whether an answer of these fields may be seen -/
def mayB (creds : Bool) (o : ByteArray) (ok : Bool) (c : ByteArray) (t : ByteArray) : Bool :=
  ok && (if creds then (o.toList == t.toList) && (c.toList == [116, 114, 117, 101]) else (o.toList == [42]) || (o.toList == t.toList))

set_option maxRecDepth 100000 in
set_option maxHeartbeats 800000 in
theorem corsMay (r : Req) (a : Option Addr) (cap : Nat) (ps : List (ByteArray × ByteArray)) (M : Nat) (w : World) (hO : r.Ok w) (hp : Pow w) (hP : ParAt w a ps) (hz : ParSz ps) (hl : ps.length ≤ 1048576)
    (hM : ∀ p ∈ ps, p.2.size ≤ M) (hM' : ps.length * (M + 2) ≤ 140737488355328) (hh : r.orig.host.size ≤ 1099511627776) :
    Calls Tryz.prog 185 #[.agg r.arr, .slice a ps.length cap] w fun e w' => e = .returned (.bool (mayB r.creds (fieldOf ps nOrigin).1 (fieldOf ps nOrigin).2 (fieldOf ps nCreds).1 ⟨(originL r.orig.sec r.orig.host r.orig.port).toArray⟩)) ∧ Below w.heap.size w w' := by
  obtain ⟨h0, h1⟩ := bounds_i64 hO.port1
  have g1 := fun w' hP' => corsGet a cap ps nOriginG M w' hP' hz hl (by decide) hM hM'
  have g2 := fun w' hP' => corsGet a cap ps nCredsG M w' hP' hz hl (by decide) hM hM'
  have tx := fun w' hp => urlText r.orig.sec r.orig.host r.orig.port h0 h1 hh w' hp
  rw [origin_field] at g1
  rw [creds_field] at g2
  clear h0 h1 hO hh hM hM' hl hz
  generalize (fieldOf ps nOrigin).1 = o at g1 ⊢
  generalize (fieldOf ps nOrigin).2 = ok at g1 ⊢
  generalize (fieldOf ps nCreds).1 = c at g2 ⊢
  generalize (⟨(originL r.orig.sec r.orig.host r.orig.port).toArray⟩ : ByteArray) = T at tx ⊢
  have hB0 : Below w.heap.size w (w.alloc (.cells r.arr 34)) := (Below.refl _ _).alloc (Nat.le_refl _) _
  unfold nOriginG at g1
  unfold nCredsG at g2
  go_enter Tryz.func185, Tryz.ntmps185
  go_wp2_with fail
  refine (g1 _ (hP.later hB0)).mono ?_
  rintro e w1 ⟨rfl, hB1⟩
  have hB1' : Below (w.heap.size + 1) (w.alloc (.cells r.arr 34)) w1 := by simpa using hB1
  have hBw1 := below_box hB1'
  have k1 : w1.cell? ⟨w.heap.size, 1, none⟩ = some (.bool r.orig.sec) := box_cell hB1' 1 rfl
  have k2 : w1.cell? ⟨w.heap.size, 2, none⟩ = some (.string r.orig.host) := box_cell hB1' 2 rfl
  have k3 : w1.cell? ⟨w.heap.size, 3, none⟩ = some (.int .i64 r.orig.port) := box_cell hB1' 3 rfl
  have k11 : w1.cell? ⟨w.heap.size, 11, none⟩ = some (.bool r.creds) := box_cell hB1' 11 rfl
  go_wp2_with fail
  · go_ret
    exact ⟨ret_bool (by simp_all [mayB]), hBw1⟩
  · go_ret
    exact ⟨ret_bool (by simp_all [mayB]), hBw1⟩
  all_goals
    refine (tx _ (hp.later hBw1)).mono ?_
    rintro e w2 ⟨rfl, hB2⟩
    have hBw2 := hBw1.then (Nat.le_refl _) hB2
    go_wp2_with fail
    · go_ret
      exact ⟨ret_bool (by simp_all [mayB]), hBw2⟩
    · refine (g2 _ (hP.later hBw2)).mono ?_
      rintro e w3 ⟨rfl, hB3⟩
      have k11' : w3.cell? ⟨w.heap.size, 11, none⟩ = some (.bool r.creds) := (hB3.cell (p := ⟨w.heap.size, 11, none⟩) (by have := hB1.size; have := hB2.size; simp at *; omega)).trans ((hB2.cell (p := ⟨w.heap.size, 11, none⟩) (World.block_lt_of_cell? _ _ k11)).trans k11)
      have hBw3 := hBw2.then (Nat.le_refl _) hB3
      go_wp2_with fail
      all_goals
        go_ret
        exact ⟨ret_bool (by simp_all [mayB]), hBw3⟩

set_option maxRecDepth 100000 in
set_option maxHeartbeats 800000 in
theorem refMay (r : Req) (a : Option Addr) (cap : Nat) (ps : List (ByteArray × ByteArray)) (M : Nat) (w : World) (hO : r.Ok w) (hp : Pow w) (hP : ParAt w a ps) (hz : ParSz ps) (hl : ps.length ≤ 1048576)
    (hM : ∀ p ∈ ps, p.2.size ≤ M) (hM' : ps.length * (M + 2) ≤ 140737488355328) (hMM : M ≤ 140737488355328) (hh : r.orig.host.size ≤ 1099511627776) :
    Calls Tryz.prog 152 #[.agg r.arr, .slice a ps.length cap] w fun e w' => e = .returned (.bool (mayB r.creds (fieldOf ps nOrigin).1 (fieldOf ps nOrigin).2 (fieldOf ps nCreds).1 ⟨(originL r.orig.sec r.orig.host r.orig.port).toArray⟩)) ∧ Below w.heap.size w w' := by
  obtain ⟨h0, h1⟩ := bounds_i64 hO.port1
  have g1 := fun w' hP' => refFieldGet a cap ps nOrigin M w' hP' hz hl (by decide) hM hM' hMM
  have g2 := fun w' hP' => refFieldGet a cap ps nCreds M w' hP' hz hl (by decide) hM hM' hMM
  have tx := fun w' hp => refText r.orig.sec r.orig.host r.orig.port h0 h1 hh w' hp
  clear h0 h1 hO hh hM hM' hl hz hMM
  generalize (fieldOf ps nOrigin).1 = o at g1 ⊢
  generalize (fieldOf ps nOrigin).2 = ok at g1 ⊢
  generalize (fieldOf ps nCreds).1 = c at g2 ⊢
  generalize (⟨(originL r.orig.sec r.orig.host r.orig.port).toArray⟩ : ByteArray) = T at tx ⊢
  have hB0 : Below w.heap.size w (w.alloc (.cells r.arr 34)) := (Below.refl _ _).alloc (Nat.le_refl _) _
  unfold nOrigin at g1
  unfold nCreds at g2
  go_enter Tryz.func152, Tryz.ntmps152
  go_wp2_with fail
  refine (g1 _ (hP.later hB0)).mono ?_
  rintro e w1 ⟨rfl, hB1⟩
  have hB1' : Below (w.heap.size + 1) (w.alloc (.cells r.arr 34)) w1 := by simpa using hB1
  have hBw1 := below_box hB1'
  go_wp2_with fail
  refine (g2 _ (hP.later hBw1)).mono ?_
  rintro e w2 ⟨rfl, hB2⟩
  have hB2' : Below (w.heap.size + 1) (w.alloc (.cells r.arr 34)) w2 := hB1'.then (by simp) hB2
  have hBw2 := hBw1.then (Nat.le_refl _) hB2
  have k1 : w2.cell? ⟨w.heap.size, 1, none⟩ = some (.bool r.orig.sec) := box_cell hB2' 1 rfl
  have k2 : w2.cell? ⟨w.heap.size, 2, none⟩ = some (.string r.orig.host) := box_cell hB2' 2 rfl
  have k3 : w2.cell? ⟨w.heap.size, 3, none⟩ = some (.int .i64 r.orig.port) := box_cell hB2' 3 rfl
  have k11 : w2.cell? ⟨w.heap.size, 11, none⟩ = some (.bool r.creds) := box_cell hB2' 11 rfl
  go_wp2_with fail
  · go_ret
    exact ⟨ret_bool (by simp_all [mayB]), hBw2⟩
  · refine (tx _ (hp.later hBw2)).mono ?_
    rintro e w3 ⟨rfl, hB3⟩
    have hBw3 := hBw2.then (Nat.le_refl _) hB3
    go_wp2_with fail
    all_goals
      go_ret
      exact ⟨ret_bool (by simp_all [mayB]), hBw3⟩
  · go_ret
    exact ⟨ret_bool (by simp_all [mayB]), hBw2⟩
  · refine (tx _ (hp.later hBw2)).mono ?_
    rintro e w3 ⟨rfl, hB3⟩
    have hBw3 := hBw2.then (Nat.le_refl _) hB3
    go_wp2_with fail
    all_goals
      go_ret
      exact ⟨ret_bool (by simp_all [mayB]), hBw3⟩
end Go.Proofs.YtnfcdccdmlodeaaGreatDoor
