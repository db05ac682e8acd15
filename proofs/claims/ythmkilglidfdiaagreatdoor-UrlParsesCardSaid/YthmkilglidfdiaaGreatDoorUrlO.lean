/- url.place: a host, and its port. -/
import Derived.Test.YthmkilglidfdiaaGreatDoorUrlRight
import Derived.Test.YthmkilglidfdiaaGreatDoorUrlP
import Derived.Test.YthmkilglidfdiaaGreatDoorFound
import Derived.Test.YthmkilglidfdiaaGreatDoorSplit
import Derived.Deep.RegionHeld3
import Derived.Lib.AtoiErrMem
namespace Go.Proofs.YthmkilglidfdiaaGreatDoor
open Go.RowKit
def placeV (sec : Bool) (l : List UInt8) : Value := match placeL sec l with
  | some (h, n) => .tuple #[.agg #[.bool sec, .string ⟨h.toArray⟩, .int .i64 n], .bool (hostOk h && portOk n)]
  | none => .tuple #[.agg #[.bool false, .string ⟨#[]⟩, .int .i64 0], .bool false]
theorem placeV_some {sec : Bool} {l h : List UInt8} {n : Int} (e : placeL sec l = some (h, n)) : placeV sec l = .tuple #[.agg #[.bool sec, .string ⟨h.toArray⟩, .int .i64 n], .bool (hostOk h && portOk n)] := by unfold placeV; rw [e]
theorem placeV_none {sec : Bool} {l : List UInt8} (e : placeL sec l = none) : placeV sec l = .tuple #[.agg #[.bool false, .string ⟨#[]⟩, .int .i64 0], .bool false] := by unfold placeV; rw [e]
theorem digs_ascii : ∀ (j : Nat) (b : UInt8), (⟨#[48, 49, 50, 51, 52, 53, 54, 55, 56, 57]⟩ : ByteArray).data.toList[j]? = some b → b.toNat < 128 := by
  intro j b h
  have hm : b ∈ ([48, 49, 50, 51, 52, 53, 54, 55, 56, 57] : List UInt8) := List.mem_of_getElem? h
  simp at hm
  rcases hm with rfl | rfl | rfl | rfl | rfl | rfl | rfl | rfl | rfl | rfl <;> decide
theorem digs_is (c : UInt8) : (⟨#[48, 49, 50, 51, 52, 53, 54, 55, 56, 57]⟩ : ByteArray).data.toList.contains c = digB c :=
  byte_allU (q := fun c => ([48, 49, 50, 51, 52, 53, 54, 55, 56, 57] : List UInt8).contains c = digB c) (by decide +kernel) c
theorem bytesWorld_belowU (w : World) (e : TypeId) (s : ByteArray) : Below w.heap.size w (Lib.bytesWorld w e s) :=
  ⟨rfl, rfl, rfl, by rw [Lib.bytesWorld_size]; omega, fun j hj => Lib.bytesWorld_at_old w e s j hj⟩
theorem same_cell {w : World} {a : Addr} {v x : Value} (h : w.cell? a = some x) : (w.setCell a v).cell? a = some v := World.cell?_setCell_same _ _ _ h
theorem set_3 {w : World} {B : Nat} {x0 x1 x2 : Value} (y0 y1 y2 : Value) (h0 : w.cell? ⟨B, 0, none⟩ = some x0) (h1 : w.cell? ⟨B, 1, none⟩ = some x1) (h2 : w.cell? ⟨B, 2, none⟩ = some x2) :
    (((w.setCell ⟨B, 0, none⟩ y0).setCell ⟨B, 1, none⟩ y1).setCell ⟨B, 2, none⟩ y2).cell? ⟨B, 0, none⟩ = some y0 ∧ (((w.setCell ⟨B, 0, none⟩ y0).setCell ⟨B, 1, none⟩ y1).setCell ⟨B, 2, none⟩ y2).cell? ⟨B, 1, none⟩ = some y1 ∧ (((w.setCell ⟨B, 0, none⟩ y0).setCell ⟨B, 1, none⟩ y1).setCell ⟨B, 2, none⟩ y2).cell? ⟨B, 2, none⟩ = some y2 := by
  refine ⟨?_, ?_, ?_⟩
  · rw [World.cell?_setCell_other _ _ _ _ (by simp), World.cell?_setCell_other _ _ _ _ (by simp)]
    exact same_cell h0
  · rw [World.cell?_setCell_other _ _ _ _ (by simp)]
    refine same_cell (x := x1) ?_
    rw [World.cell?_setCell_other _ _ _ _ (by simp)]
    exact h1
  · refine same_cell (x := x2) ?_
    rw [World.cell?_setCell_other _ _ _ _ (by simp), World.cell?_setCell_other _ _ _ _ (by simp)]
    exact h2
theorem below_set3 {B p : Nat} {a w : World} (h : Below B a w) (hp : B ≤ p) {y0 y1 y2 : Value} : Below B a (((w.setCell ⟨p, 0, none⟩ y0).setCell ⟨p, 1, none⟩ y1).setCell ⟨p, 2, none⟩ y2) :=
  ((h.setCell hp _).setCell hp _).setCell hp _
theorem set_three {w : World} {B P : Nat} (hne : B ≠ P) {x0 x1 x2 y0 y1 y2 : Value} (h0 : w.cell? ⟨P, 0, none⟩ = some x0) (h1 : w.cell? ⟨P, 1, none⟩ = some x1) (h2 : w.cell? ⟨P, 2, none⟩ = some x2) :
    (((w.setCell ⟨B, 0, none⟩ y0).setCell ⟨B, 1, none⟩ y1).setCell ⟨B, 2, none⟩ y2).cell? ⟨P, 0, none⟩ = some x0 ∧ (((w.setCell ⟨B, 0, none⟩ y0).setCell ⟨B, 1, none⟩ y1).setCell ⟨B, 2, none⟩ y2).cell? ⟨P, 1, none⟩ = some x1 ∧ (((w.setCell ⟨B, 0, none⟩ y0).setCell ⟨B, 1, none⟩ y1).setCell ⟨B, 2, none⟩ y2).cell? ⟨P, 2, none⟩ = some x2 := by
  have hn : ∀ i j : Nat, (⟨P, i, none⟩ : Addr) ≠ ⟨B, j, none⟩ := by intro i j h; cases h; exact hne rfl
  have hn' : ∀ i j : Nat, (⟨B, j, none⟩ : Addr) ≠ ⟨P, i, none⟩ := by intro i j h; cases h; exact hne rfl
  refine ⟨?_, ?_, ?_⟩
  all_goals
    rw [World.cell?_setCell_other, World.cell?_setCell_other, World.cell?_setCell_other]
    · assumption
    all_goals first | exact hn _ _ | exact hn' _ _
/-- the two boxes of url.place: the result's (b) and the origin's (p) -/
structure PL (w W : World) (p : Nat) (x0 x1 x2 : Value) : Prop where
  low : Below w.heap.size w W
  ne : w.heap.size ≠ p
  le : w.heap.size ≤ p
  bs : w.heap.size < W.heap.size
  ps : p < W.heap.size
  c0 : W.cell? ⟨p, 0, none⟩ = some x0
  c1 : W.cell? ⟨p, 1, none⟩ = some x1
  c2 : W.cell? ⟨p, 2, none⟩ = some x2
  g : ∀ i, W.frozen? ⟨p, i, none⟩ = false
  d0 : W.cell? ⟨w.heap.size, 0, none⟩ = some (.bool false)
  d1 : W.cell? ⟨w.heap.size, 1, none⟩ = some (.string ⟨#[]⟩)
  d2 : W.cell? ⟨w.heap.size, 2, none⟩ = some (.int .i64 0)
  f : ∀ i, W.frozen? ⟨w.heap.size, i, none⟩ = false
theorem PL.start {w w1 : World} {x0 x1 x2 : Value} (hB : Below (w.heap.size + 1) (w.alloc (Obj.cells #[.bool false, .string ⟨#[]⟩, .int .i64 0] 23)) w1) (hs : w.heap.size + 1 ≤ w1.heap.size) :
    PL w (w1.alloc (Obj.cells #[x0, x1, x2] 23)) w1.heap.size x0 x1 x2 :=
  have hA : Below (w.heap.size + 1) (w.alloc (Obj.cells #[.bool false, .string ⟨#[]⟩, .int .i64 0] 23)) (w1.alloc (Obj.cells #[x0, x1, x2] 23)) := hB.alloc hs _
  have hR := Below.refl (w1.heap.size + 1) (w1.alloc (Obj.cells #[x0, x1, x2] 23))
  ⟨below_box hA, by omega, by omega, by simp; omega, by simp, box_cell hR 0 rfl, box_cell hR 1 rfl, box_cell hR 2 rfl, fun i => box_free hR i, box_cell hA 0 rfl, box_cell hA 1 rfl, box_cell hA 2 rfl, fun i => box_free hA i⟩
theorem PL.later {w W W' : World} {p : Nat} {x0 x1 x2 : Value} (h : PL w W p x0 x1 x2) (hB : Below W.heap.size W W') : PL w W' p x0 x1 x2 :=
  ⟨h.low.then (Nat.le_refl _) hB, h.ne, h.le, Nat.lt_of_lt_of_le h.bs hB.size, Nat.lt_of_lt_of_le h.ps hB.size, (hB.cell h.ps).trans h.c0, (hB.cell h.ps).trans h.c1, (hB.cell h.ps).trans h.c2, fun i => (hB.frozen h.ps).trans (h.g i),
    (hB.cell h.bs).trans h.d0, (hB.cell h.bs).trans h.d1, (hB.cell h.bs).trans h.d2, fun i => (hB.frozen h.bs).trans (h.f i)⟩
theorem PL.drawn {w W : World} {p : Nat} {x0 x1 x2 : Value} (h : PL w W p x0 x1 x2) (n : Nat) : PL w (W.drewN n) p x0 x1 x2 := h.later (below_drewN (Below.refl _ _) n)
theorem PL.oth {w W : World} {p : Nat} {x0 x1 x2 : Value} (h : PL w W p x0 x1 x2) (i j : Nat) (v : Value) : (W.setCell ⟨p, j, none⟩ v).cell? ⟨w.heap.size, i, none⟩ = W.cell? ⟨w.heap.size, i, none⟩ :=
  World.cell?_setCell_other _ _ _ _ (by intro e; cases e; exact h.ne rfl)
theorem PL.host {w W : World} {p : Nat} {x0 x1 x2 : Value} (h : PL w W p x0 x1 x2) (v : Value) : PL w (W.setCell ⟨p, 1, none⟩ v) p x0 v x2 :=
  ⟨h.low.setCell h.le _, h.ne, h.le, by simpa [World.setCell] using h.bs, by simpa [World.setCell] using h.ps, (World.cell?_setCell_other _ _ _ _ (by simp)).trans h.c0, same_cell h.c1, (World.cell?_setCell_other _ _ _ _ (by simp)).trans h.c2,
    fun i => (World.frozen?_setCell _ _ _ _).trans (h.g i), (h.oth _ _ _).trans h.d0, (h.oth _ _ _).trans h.d1, (h.oth _ _ _).trans h.d2, fun i => (World.frozen?_setCell _ _ _ _).trans (h.f i)⟩
theorem PL.port {w W : World} {p : Nat} {x0 x1 x2 : Value} (h : PL w W p x0 x1 x2) (v : Value) : PL w (W.setCell ⟨p, 2, none⟩ v) p x0 x1 v :=
  ⟨h.low.setCell h.le _, h.ne, h.le, by simpa [World.setCell] using h.bs, by simpa [World.setCell] using h.ps, (World.cell?_setCell_other _ _ _ _ (by simp)).trans h.c0, (World.cell?_setCell_other _ _ _ _ (by simp)).trans h.c1, same_cell h.c2,
    fun i => (World.frozen?_setCell _ _ _ _).trans (h.g i), (h.oth _ _ _).trans h.d0, (h.oth _ _ _).trans h.d1, (h.oth _ _ _).trans h.d2, fun i => (World.frozen?_setCell _ _ _ _).trans (h.f i)⟩
set_option maxRecDepth 100000 in
set_option maxHeartbeats 4000000 in
theorem urlPlace (sec : Bool) (r : ByteArray) (w : World) (hM : MaxL w) (hs : r.size ≤ 1000000) :
    Calls Tryz.prog 16 #[.bool sec, .string r] w fun e w' => e = .returned (placeV sec r.data.toList) ∧ Below w.heap.size w w' := by
  have hlw := fun w' => codingLower r w' (by unfold maxLen; omega)
  have hlen : r.data.toList.length ≤ 1000000 := by rw [← sz_len]; exact hs
  obtain ⟨L, hL⟩ : ∃ L : ByteArray, L = ⟨(lower r.data.toList).toArray⟩ := ⟨_, rfl⟩
  rw [← hL] at hlw
  have hLl := Lib.hid hL
  clear hL
  go_enter Tryz.func16, Tryz.ntmps16
  go_wp2_with fail
  refine (hlw _).mono ?_
  rintro e w1 ⟨rfl, hB1⟩
  go_wp2_with fail
  refine (urlPort sec _).mono ?_
  rintro e w2 ⟨rfl, rfl⟩
  have hsz : w.heap.size + 1 ≤ w1.heap.size := by simpa using hB1.size
  have hPL : Hid (PL w _ w1.heap.size (.bool sec) (.string L) (.int .i64 (portOf sec))) := Lib.hid (PL.start (by simpa using hB1) hsz)
  obtain ⟨m, hm⟩ := hM.later hPL.out.low
  have hcut := Tryz.strings_Cut r ⟨#[58]⟩ m _ (by omega) hm
  rw [show (⟨#[58]⟩ : ByteArray).data.toList = [58] from rfl] at hcut
  cases hc : r.data.toList.contains 58
  · rw [cut_no hc] at hcut
    go_wp2_with fail
    refine hcut.mono ?_
    rintro e w3 ⟨rfl, nq, rfl⟩
    clear hm hcut
    have hPn := Lib.hid (hPL.out.drawn (nq + 1))
    go_wp2_with fail
    go_region_held3 (fun w' => w'.cell? ⟨w1.heap.size, 0, none⟩ = some (.bool sec) ∧ w'.cell? ⟨w1.heap.size, 1, none⟩ = some (.string L) ∧ w'.cell? ⟨w1.heap.size, 2, none⟩ = some (.int .i64 (portOf sec)))
      (first
        | (exact ⟨hPn.out.c0, hPn.out.c1, hPn.out.c2⟩)
        | (exact ⟨hQ.c0, hQ.c1, hQ.c2⟩)
        | (exact set_three hQ.ne hQ.c0 hQ.c1 hQ.c2))
      (first
        | (go_at_call 39; go_split_ands; refine (urlRight sec L (portOf sec) _).mono ?_; rintro e w2 ⟨rfl, hB2⟩; have hQ := hPn.out.later hB2; have f0 := hQ.f 0; have f1 := hQ.f 1; have f2 := hQ.f 2; have d0 := hQ.d0; have d1 := hQ.d1; have d2 := hQ.d2)
        | fail)
    go_wp2
    obtain ⟨e0, e1, e2⟩ := set_3 (.bool sec) (.string L) (.int .i64 (portOf sec)) d0 d1 d2
    refine bodyPost_ret (v := .tuple #[.agg #[.bool sec, .string L, .int .i64 (portOf sec)], .bool (hostOk L.data.toList && portOk (portOf sec))]) (by simp [results, Tryz.results16, go_sem, e0, e1, e2]; try rfl) rfl ⟨?_, below_set3 hQ.low (Nat.le_refl _)⟩
    rw [placeV_some (h := lower r.data.toList) (n := portOf sec) (by unfold placeL; rw [hc]; rfl), hLl.out, mk_toList]
  · rw [cut_has hc] at hcut
    obtain ⟨N, hN⟩ : ∃ N : ByteArray, N = ⟨(befL 58 r.data.toList).toArray⟩ := ⟨_, rfl⟩
    obtain ⟨V, hV⟩ : ∃ V : ByteArray, V = ⟨(r.data.toList.drop ((befL 58 r.data.toList).length + 1)).toArray⟩ := ⟨_, rfl⟩
    have hNl : N.data.toList = befL 58 r.data.toList := by rw [hN, mk_toList]
    have hVl : V.data.toList = r.data.toList.drop ((befL 58 r.data.toList).length + 1) := by rw [hV, mk_toList]
    have hNs : N.size ≤ 1000000 := by
      rw [sz_len, hNl]
      have := befL_len 58 r.data.toList
      omega
    have hVs : V.size ≤ 1000000 := by
      rw [sz_len, hVl, List.length_drop]
      omega
    simp only [] at hcut
    rw [← hN, ← hV] at hcut
    clear hN hV
    have hlw2 := fun w' => codingLower N w' (by unfold maxLen; omega)
    obtain ⟨H, hH⟩ : ∃ H : ByteArray, H = ⟨(lower N.data.toList).toArray⟩ := ⟨_, rfl⟩
    rw [← hH] at hlw2
    have hHl := Lib.hid (show H = ⟨(lower (befL 58 r.data.toList)).toArray⟩ by rw [hH, hNl])
    clear hH hNl
    go_wp2_with fail
    refine hcut.mono ?_
    rintro e w3 ⟨rfl, nq, rfl⟩
    have hPa := Lib.hid (hPL.out.drawn nq)
    clear hm hcut hPL
    go_wp2_with fail
    refine (hlw2 _).mono ?_
    rintro e w4 ⟨rfl, hB4⟩
    have hPb := Lib.hid (hPa.out.later hB4)
    have q1 := hPb.out.c1
    have r1 := hPb.out.g 1
    have hPc := Lib.hid (hPb.out.host (.string H))
    clear hB4 hPa
    have hgood : Hid (placeL sec r.data.toList = (portD V.data.toList).map (fun n => (lower (befL 58 r.data.toList), n))) := Lib.hid (by unfold placeL; rw [hc, hVl]; rfl)
    clear hVl hc
    have hVl0 : V.toList.isEmpty = decide (V.data.toList = []) := by
      rw [Lib.toList_data]
      cases V.data.toList <;> rfl
    cases h0 : V.toList.isEmpty
    · have hne0 : V.data.toList ≠ [] := by
        rw [h0] at hVl0
        exact of_decide_eq_false hVl0.symm
      clear hVl0
      by_cases h5 : V.size ≤ 5
      · have h5d : decide ((5 : Int) < (V.size : Int)) = false := by simp; omega
        have h5l : V.data.toList.length ≤ 5 := by rw [← sz_len]; exact h5
        have htr := stringsTrim V ⟨#[48, 49, 50, 51, 52, 53, 54, 55, 56, 57]⟩ (w4.setCell ⟨w1.heap.size, 1, none⟩ (.string H)) (by omega) (by decide) digs_ascii
        have hall := trimS_all V.data.toList (⟨#[48, 49, 50, 51, 52, 53, 54, 55, 56, 57]⟩ : ByteArray).data.toList digB digs_is
        obtain ⟨X, hX⟩ : ∃ X : ByteArray, X = ⟨(Lib.trimS V.data.toList (⟨#[48, 49, 50, 51, 52, 53, 54, 55, 56, 57]⟩ : ByteArray).data.toList).toArray⟩ := ⟨_, rfl⟩
        rw [← hX] at htr
        have hXl : X.data.toList = Lib.trimS V.data.toList (⟨#[48, 49, 50, 51, 52, 53, 54, 55, 56, 57]⟩ : ByteArray).data.toList := by rw [hX, mk_toList]
        rw [← hXl] at hall
        clear hX hXl
        have hXe : X.toList.isEmpty = V.data.toList.all digB := by
          rw [Lib.toList_data, Bool.eq_iff_iff, ← hall]
          cases X.data.toList <;> simp
        cases hd : V.data.toList.all digB
        · rw [hd] at hXe
          clear hall
          go_wp2_with fail
          refine htr.mono ?_
          rintro e w5 ⟨rfl, hB5⟩
          have hPd := Lib.hid (hPc.out.later hB5)
          have hbad := Lib.hid (show placeL sec r.data.toList = none by rw [hgood.out]; unfold portD; rw [if_neg (by rw [hd]; simp)]; rfl)
          have f0 := hPd.out.f 0
          have f1 := hPd.out.f 1
          have f2 := hPd.out.f 2
          have d0 := hPd.out.d0
          have d1 := hPd.out.d1
          have d2 := hPd.out.d2
          go_wp2
          obtain ⟨e0, e1, e2⟩ := set_3 (.bool false) (.string ⟨#[]⟩) (.int .i64 0) d0 d1 d2
          refine bodyPost_ret (v := .tuple #[.agg #[.bool false, .string ⟨#[]⟩, .int .i64 0], .bool false]) (by simp [results, Tryz.results16, go_sem, e0, e1, e2]; try rfl) rfl ⟨by rw [placeV_none hbad.out], below_set3 hPd.out.low (Nat.le_refl _)⟩
        · rw [hd] at hXe
          clear hall
          have hat := fun w' => Tryz.strconv_Atoi V _ (by omega) (atoi_digits hne0 hd) w'
          have hok := Lib.hid (show placeL sec r.data.toList = some (lower (befL 58 r.data.toList), (numD V.data.toList : Int)) by rw [hgood.out]; unfold portD; rw [if_pos ⟨hne0, h5l, hd⟩]; rfl)
          clear hgood hne0 h5l hd
          generalize (numD V.data.toList : Int) = n at hat hok
          go_wp2_with fail
          refine htr.mono ?_
          rintro e w5 ⟨rfl, hB5⟩
          have hPd := Lib.hid (hPc.out.later hB5)
          go_wp2_with fail
          refine (hat _).mono ?_
          rintro e w6 ⟨rfl, t, rfl⟩
          have hPe := Lib.hid (hPd.out.later (bytesWorld_belowU w5 5 t))
          have q2 := hPe.out.c2
          have r2 := hPe.out.g 2
          have hPf := Lib.hid (hPe.out.port (.int .i64 n))
          clear hB5 htr hat
          have hPn := Lib.hid (hPf.out.drawn 1)
          go_wp2_with fail
          go_region_held3 (fun w' => w'.cell? ⟨w1.heap.size, 0, none⟩ = some (.bool sec) ∧ w'.cell? ⟨w1.heap.size, 1, none⟩ = some (.string H) ∧ w'.cell? ⟨w1.heap.size, 2, none⟩ = some (.int .i64 (n)))
            (first
              | (exact ⟨hPn.out.c0, hPn.out.c1, hPn.out.c2⟩)
              | (exact ⟨hQ.c0, hQ.c1, hQ.c2⟩)
              | (exact set_three hQ.ne hQ.c0 hQ.c1 hQ.c2))
            (first
              | (go_at_call 39; go_split_ands; refine (urlRight sec H (n) _).mono ?_; rintro e w2 ⟨rfl, hB2⟩; have hQ := hPn.out.later hB2; have f0 := hQ.f 0; have f1 := hQ.f 1; have f2 := hQ.f 2; have d0 := hQ.d0; have d1 := hQ.d1; have d2 := hQ.d2)
              | fail)
          go_wp2
          obtain ⟨e0, e1, e2⟩ := set_3 (.bool sec) (.string H) (.int .i64 (n)) d0 d1 d2
          refine bodyPost_ret (v := .tuple #[.agg #[.bool sec, .string H, .int .i64 (n)], .bool (hostOk H.data.toList && portOk (n))]) (by simp [results, Tryz.results16, go_sem, e0, e1, e2]; try rfl) rfl ⟨?_, below_set3 hQ.low (Nat.le_refl _)⟩
          rw [placeV_some hok.out, hHl.out, mk_toList]
      · have h5d : decide ((5 : Int) < (V.size : Int)) = true := by simp; omega
        have h5l : ¬V.data.toList.length ≤ 5 := by rw [← sz_len]; exact h5
        have hbad := Lib.hid (show placeL sec r.data.toList = none by rw [hgood.out]; unfold portD; rw [if_neg (by exact fun h => h5l h.2.1)]; rfl)
        have f0 := hPc.out.f 0
        have f1 := hPc.out.f 1
        have f2 := hPc.out.f 2
        have d0 := hPc.out.d0
        have d1 := hPc.out.d1
        have d2 := hPc.out.d2
        go_wp2
        obtain ⟨e0, e1, e2⟩ := set_3 (.bool false) (.string ⟨#[]⟩) (.int .i64 0) d0 d1 d2
        refine bodyPost_ret (v := .tuple #[.agg #[.bool false, .string ⟨#[]⟩, .int .i64 0], .bool false]) (by simp [results, Tryz.results16, go_sem, e0, e1, e2]; try rfl) rfl ⟨by rw [placeV_none hbad.out], below_set3 hPc.out.low (Nat.le_refl _)⟩
    · have hne0 : V.data.toList = [] := by
        rw [h0] at hVl0
        exact of_decide_eq_true hVl0.symm
      clear hVl0
      have hbad := Lib.hid (show placeL sec r.data.toList = none by rw [hgood.out]; unfold portD; rw [if_neg (by exact fun h => h.1 hne0)]; rfl)
      have f0 := hPc.out.f 0
      have f1 := hPc.out.f 1
      have f2 := hPc.out.f 2
      have d0 := hPc.out.d0
      have d1 := hPc.out.d1
      have d2 := hPc.out.d2
      go_wp2
      obtain ⟨e0, e1, e2⟩ := set_3 (.bool false) (.string ⟨#[]⟩) (.int .i64 0) d0 d1 d2
      refine bodyPost_ret (v := .tuple #[.agg #[.bool false, .string ⟨#[]⟩, .int .i64 0], .bool false]) (by simp [results, Tryz.results16, go_sem, e0, e1, e2]; try rfl) rfl ⟨by rw [placeV_none hbad.out], below_set3 hPc.out.low (Nat.le_refl _)⟩
end Go.Proofs.YthmkilglidfdiaaGreatDoor
