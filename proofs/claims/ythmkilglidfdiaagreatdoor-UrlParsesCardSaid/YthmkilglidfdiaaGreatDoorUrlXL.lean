/- The reference's UrlParse: lemmas. -/
import Derived.Test.YthmkilglidfdiaaGreatDoorUrlPP
import Derived.Test.YthmkilglidfdiaaGreatDoorUrlR
import Derived.Test.YthmkilglidfdiaaGreatDoorSplit
import Derived.BigQuiet
namespace Go.Proofs.YthmkilglidfdiaaGreatDoor
open Go.RowKit
theorem set_5 {w : World} {B : Nat} {x0 x1 x2 x3 x4 : Value} (y0 y1 y2 y3 y4 : Value) (h0 : w.cell? ⟨B, 0, none⟩ = some x0) (h1 : w.cell? ⟨B, 1, none⟩ = some x1) (h2 : w.cell? ⟨B, 2, none⟩ = some x2) (h3 : w.cell? ⟨B, 3, none⟩ = some x3) (h4 : w.cell? ⟨B, 4, none⟩ = some x4) :
    (((((w.setCell ⟨B, 0, none⟩ y0).setCell ⟨B, 1, none⟩ y1).setCell ⟨B, 2, none⟩ y2).setCell ⟨B, 3, none⟩ y3).setCell ⟨B, 4, none⟩ y4).cell? ⟨B, 0, none⟩ = some y0 ∧ (((((w.setCell ⟨B, 0, none⟩ y0).setCell ⟨B, 1, none⟩ y1).setCell ⟨B, 2, none⟩ y2).setCell ⟨B, 3, none⟩ y3).setCell ⟨B, 4, none⟩ y4).cell? ⟨B, 1, none⟩ = some y1 ∧ (((((w.setCell ⟨B, 0, none⟩ y0).setCell ⟨B, 1, none⟩ y1).setCell ⟨B, 2, none⟩ y2).setCell ⟨B, 3, none⟩ y3).setCell ⟨B, 4, none⟩ y4).cell? ⟨B, 2, none⟩ = some y2 ∧ (((((w.setCell ⟨B, 0, none⟩ y0).setCell ⟨B, 1, none⟩ y1).setCell ⟨B, 2, none⟩ y2).setCell ⟨B, 3, none⟩ y3).setCell ⟨B, 4, none⟩ y4).cell? ⟨B, 3, none⟩ = some y3 ∧ (((((w.setCell ⟨B, 0, none⟩ y0).setCell ⟨B, 1, none⟩ y1).setCell ⟨B, 2, none⟩ y2).setCell ⟨B, 3, none⟩ y3).setCell ⟨B, 4, none⟩ y4).cell? ⟨B, 4, none⟩ = some y4 := by
  refine ⟨?_, ?_, ?_, ?_, ?_⟩
  · rw [World.cell?_setCell_other _ _ _ _ (by simp), World.cell?_setCell_other _ _ _ _ (by simp), World.cell?_setCell_other _ _ _ _ (by simp), World.cell?_setCell_other _ _ _ _ (by simp)]
    refine same_cell (x := x0) ?_
    exact h0
  · rw [World.cell?_setCell_other _ _ _ _ (by simp), World.cell?_setCell_other _ _ _ _ (by simp), World.cell?_setCell_other _ _ _ _ (by simp)]
    refine same_cell (x := x1) ?_
    rw [World.cell?_setCell_other _ _ _ _ (by simp)]
    exact h1
  · rw [World.cell?_setCell_other _ _ _ _ (by simp), World.cell?_setCell_other _ _ _ _ (by simp)]
    refine same_cell (x := x2) ?_
    rw [World.cell?_setCell_other _ _ _ _ (by simp), World.cell?_setCell_other _ _ _ _ (by simp)]
    exact h2
  · rw [World.cell?_setCell_other _ _ _ _ (by simp)]
    refine same_cell (x := x3) ?_
    rw [World.cell?_setCell_other _ _ _ _ (by simp), World.cell?_setCell_other _ _ _ _ (by simp), World.cell?_setCell_other _ _ _ _ (by simp)]
    exact h3
  · refine same_cell (x := x4) ?_
    rw [World.cell?_setCell_other _ _ _ _ (by simp), World.cell?_setCell_other _ _ _ _ (by simp), World.cell?_setCell_other _ _ _ _ (by simp), World.cell?_setCell_other _ _ _ _ (by simp)]
    exact h4
theorem below_set5 {B p : Nat} {a w : World} (h : Below B a w) (hp : B ≤ p) {y0 y1 y2 y3 y4 : Value} : Below B a (((((w.setCell ⟨p, 0, none⟩ y0).setCell ⟨p, 1, none⟩ y1).setCell ⟨p, 2, none⟩ y2).setCell ⟨p, 3, none⟩ y3).setCell ⟨p, 4, none⟩ y4) :=
  ((((h.setCell hp _).setCell hp _).setCell hp _).setCell hp _).setCell hp _
def urlV (r : UrlR) (good : Value) (bad : Int → Value) : Value := match r with
  | .ok ((sec, h, n), p, q) => .tuple #[.agg #[.bool sec, .string ⟨h.toArray⟩, .int .i64 n, .string p, .string ⟨q.toArray⟩], good]
  | .error e => .tuple #[.agg #[.bool false, .string ⟨#[]⟩, .int .i64 0, .string ⟨#[]⟩, .string ⟨#[]⟩], bad e]
theorem urlV_ok {r : UrlR} {sec : Bool} {h q : List UInt8} {n : Int} {p : ByteArray} {good : Value} {bad : Int → Value} (e : r = .ok ((sec, h, n), p, q)) : urlV r good bad = .tuple #[.agg #[.bool sec, .string ⟨h.toArray⟩, .int .i64 n, .string p, .string ⟨q.toArray⟩], good] := by rw [e]; rfl
theorem urlV_error {r : UrlR} {x : Int} {good : Value} {bad : Int → Value} (e : r = .error x) : urlV r good bad = .tuple #[.agg #[.bool false, .string ⟨#[]⟩, .int .i64 0, .string ⟨#[]⟩, .string ⟨#[]⟩], bad x] := by rw [e]; rfl
/-- the result's box -/
structure ZU (w W : World) : Prop where
  low : Below w.heap.size w W
  bs : w.heap.size < W.heap.size
  d0 : W.cell? ⟨w.heap.size, 0, none⟩ = some (.bool false)
  d1 : W.cell? ⟨w.heap.size, 1, none⟩ = some (.string ⟨#[]⟩)
  d2 : W.cell? ⟨w.heap.size, 2, none⟩ = some (.int .i64 0)
  d3 : W.cell? ⟨w.heap.size, 3, none⟩ = some (.string ⟨#[]⟩)
  d4 : W.cell? ⟨w.heap.size, 4, none⟩ = some (.string ⟨#[]⟩)
  f : ∀ i, W.frozen? ⟨w.heap.size, i, none⟩ = false
theorem ZU.start (w : World) : ZU w (w.alloc (Obj.cells #[.bool false, .string ⟨#[]⟩, .int .i64 0, .string ⟨#[]⟩, .string ⟨#[]⟩] 25)) :=
  have hR := Below.refl (w.heap.size + 1) (w.alloc (Obj.cells #[.bool false, .string ⟨#[]⟩, .int .i64 0, .string ⟨#[]⟩, .string ⟨#[]⟩] 25))
  ⟨below_box hR, by simp, box_cell hR 0 rfl, box_cell hR 1 rfl, box_cell hR 2 rfl, box_cell hR 3 rfl, box_cell hR 4 rfl, fun i => box_free hR i⟩
theorem ZU.later {w W W' : World} (h : ZU w W) (hB : Below W.heap.size W W') : ZU w W' :=
  ⟨h.low.then (Nat.le_refl _) hB, Nat.lt_of_lt_of_le h.bs hB.size, (hB.cell h.bs).trans h.d0, (hB.cell h.bs).trans h.d1, (hB.cell h.bs).trans h.d2, (hB.cell h.bs).trans h.d3, (hB.cell h.bs).trans h.d4, fun i => (hB.frozen h.bs).trans (h.f i)⟩
theorem ZU.box {w W : World} (h : ZU w W) (o : Obj) : ZU w (W.alloc o) := h.later ((Below.refl _ _).alloc (Nat.le_refl _) _)
theorem ZU.drawn {w W : World} (h : ZU w W) (n : Nat) : ZU w (W.drewN n) := h.later (below_drewN (Below.refl _ _) n)
theorem atL_le (r : List UInt8) : atL r ≤ r.length := (List.takeWhile_sublist _).length_le
theorem atL_go {r : List UInt8} {j : Nat} (h : j < atL r) : ∃ hj : j < r.length, (r[j] == 47) = false ∧ (r[j] == 63) = false := by
  have hj : j < r.length := Nat.lt_of_lt_of_le h (atL_le r)
  refine ⟨hj, ?_⟩
  unfold atL at h
  have hm : (r.takeWhile (fun c => !(c == 47 || c == 63)))[j] = r[j] := List.IsPrefix.getElem (List.takeWhile_prefix _) h
  have ha := List.all_takeWhile (p := fun c : UInt8 => !(c == 47 || c == 63)) (l := r)
  have := List.all_eq_true.1 ha _ (List.getElem_mem h)
  rw [hm] at this
  simpa using this
theorem atL_stop {r : List UInt8} (h : atL r < r.length) : (r[atL r] == 47) = true ∨ (r[atL r] == 63) = true := by
  induction r with
  | nil => exact absurd h (by simp)
  | cons a l ih =>
    unfold atL at h ⊢
    by_cases ha : (a == 47 || a == 63) = true
    · simp only [List.takeWhile_cons, ha, Bool.not_true, Bool.false_eq_true, if_false, List.length_nil, List.getElem_cons_zero]
      simpa using ha
    · have ha' : (!(a == 47 || a == 63)) = true := by simpa using ha
      simp only [List.takeWhile_cons, ha', if_true, List.length_cons, List.getElem_cons_succ] at h ⊢
      exact ih (by unfold atL; simpa using h)
theorem restL_of {tl : List UInt8} (P Q : ByteArray) (hP : P.data.toList = befL 63 tl) (hQ : Q.data.toList = tl.drop ((befL 63 tl).length + 1)) :
    restL tl = if (P.data.toList.all sendB && Q.data.toList.all sendB) = true then (if 200 < (cleanB P).size then .error 2 else .ok (cleanB P, Q.data.toList)) else .error 3 := by
  unfold restL; rw [← hQ, ← hP, ba_eta]
def joinO (o : Option (Bool × List UInt8 × Int)) (r : Except Int (ByteArray × List UInt8)) : UrlR := match o with
  | none => .error 3
  | some o => match r with
    | .error e => .error e
    | .ok (p, q) => .ok (o, p, q)
theorem urlTR_at {l : List UInt8} {i : Nat} (hi : Lib.index l [58, 47, 47] = i) : urlTR l = joinO (originP (l.take (i + 3 + atL (l.drop (i + 3))))) (restL (l.drop (i + 3 + atL (l.drop (i + 3))))) := by
  unfold urlTR
  rw [if_neg (by rw [hi]; omega)]
  simp only [hi, Int.toNat_natCast]
  rfl
theorem cutL_head (c : UInt8) : ∀ l : List UInt8, (cutL c l).head? = some (befL c l)
  | [] => rfl
  | x :: l => by
    by_cases h : x = c
    · subst h; rw [cutL_hit, befL_hit]; rfl
    · obtain ⟨p, r, h1, h2⟩ := cutL_skip h l
      have ih := cutL_head c l
      rw [h1] at ih
      rw [h2, befL_skip h]
      simp at ih
      rw [← ih]; rfl
theorem pieces_head (c : UInt8) (s : ByteArray) (h : 0 < (pieces c s).length) : (pieces c s)[0].data.toList = befL c s.data.toList := by
  have h1 := cutL_head c s.data.toList
  rw [← pieces_datas] at h1
  unfold datas at h1
  rw [List.head?_map, List.head?_eq_getElem?, List.getElem?_eq_getElem h] at h1
  simpa using h1
end Go.Proofs.YthmkilglidfdiaaGreatDoor
