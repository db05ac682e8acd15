/- AskKnows: ask.Known tells what the reference's Known tells, of any challenge: the walk of the statement. -/
import Derived.Test.YtdlhihfjigcimaaDoorKnown
import Derived.Test.YtdlhihfjigcimaaDoorKnownR
import Derived.Test.YtdlhihfjigcimaaDoorSameA
import Derived.Test.YtdlhihfjigcimaaDoorAskPrint
import Derived.Test.YtdlhihfjigcimaaDoorFound
namespace Go.Proofs.YtdlhihfjigcimaaDoor.lawAskKnows
open Go.ChangeShapes Go.WideShapes Go.ChangeAt Go.RowKit Go.WideElems
set_option maxRecDepth 100000 in
set_option maxHeartbeats 1600000 in
theorem walk (W : World) (hsh : W.ShapedOpen Tryd.prog) (cs : List Value) (hR : Rd Tryd.prog W 32 cs) :
    Calls Tryd.prog 4 #[.agg cs.toArray] W fun e w' => e = .returned (.bool true) ∧ Below W.heap.size W w' := by
  have hM := Lib.hid (maxL_of hsh)
  obtain ⟨c, rfl, hO⟩ := chal_open hR
  clear hR hsh
  have hlm := hO.lenMax
  have hat := hO.at_
  obtain ⟨sc, tk, a, cap, ps⟩ := c
  simp only [Chal.cells] at *
  have hB1 : Below W.heap.size W ((W.alloc (Obj.cells #[Value.string sc, Value.string tk, Value.slice a ps.length cap] 32)).alloc (Obj.cells #[Value.string sc, Value.string tk, Value.slice a ps.length cap] 32)) :=
    ((Below.refl _ _).alloc (Nat.le_refl _) _).alloc (by simp) _
  have hC : ChalAt ((W.alloc (Obj.cells #[Value.string sc, Value.string tk, Value.slice a ps.length cap] 32)).alloc (Obj.cells #[Value.string sc, Value.string tk, Value.slice a ps.length cap] 32)) (some ⟨W.heap.size + 1, 0, none⟩) [⟨sc, tk, a, cap, ps⟩] := by
    intro i hi
    obtain rfl : i = 0 := by simpa using hi
    exact ⟨_, _, rfl, box_cell (Below.refl _ _) 0 rfl (by simp), box_cell (Below.refl _ _) 1 rfl (by simp), box_cell (Below.refl _ _) 2 rfl (by simp)⟩
  have hh := heavy_says (some ⟨W.heap.size + 1, 0, none⟩) 1 [⟨sc, tk, a, cap, ps⟩] _ hC (by simpa using hO.later hB1) (by unfold maxLen; simp)
  have HH := Lib.hid hh; clear hh
  have HC := Lib.hid hC; clear hC hO
  go_enter Tryd.func4, Tryd.ntmps4
  go_wp2_with fail
  refine HH.out.mono ?_
  rintro e w1 ⟨⟨b, rfl, hb⟩, hB2⟩
  have hB3 := Lib.hid (hB1.then (Nat.le_refl _) hB2)
  have hbx : Hid (Below (W.heap.size + 1) (W.alloc (Obj.cells #[Value.string sc, Value.string tk, Value.slice a ps.length cap] 32)) w1) := Lib.hid (((Below.refl (W.heap.size + 1) _).alloc (by simp) _).then (by simp) hB2)
  clear HH HC hB1 hB2
  cases b
  · obtain ⟨_, hL⟩ := hb rfl
    have hLt := hL _ (List.mem_singleton.2 rfl)
    have hhd := light_head hLt
    have hea := light_each hLt
    simp only at hhd hea
    have hsc : sc.size ≤ 100000 := by omega
    have h1 : ∀ p ∈ ps, p.1.size ≤ 100000 := fun p hp => by have := hea p hp; omega
    have h2 : ∀ p ∈ ps, p.2.size ≤ 100000 := fun p hp => by have := hea p hp; omega
    have K1 := fun w' (h : Below W.heap.size W w') => refKnown sc tk a cap ps w' (hM.out.later h) (hat.later h) hlm hsc h1 h2
    have K2 := fun w' (h : Below W.heap.size W w') => askKnown sc tk a cap ps w' (hM.out.later h) (hat.later h) hlm hsc h1 h2
    generalize knownV sc ps = r at K1 K2
    clear hb hL hLt hhd hea hsc h1 h2 hM hat hlm
    have c0 := box_cell hbx.out 0 rfl
    have c1 := box_cell hbx.out 1 rfl
    have c2 := box_cell hbx.out 2 rfl
    go_wp2_with fail
    refine (K1 _ hB3.out).mono ?_
    rintro e w2 ⟨⟨⟨k1, r1, n1, o1, s1, q1, t1, l1⟩, a1, cp1⟩, rfl, hd1, hs1, hc1, hm1, hB4⟩
    simp only at hd1 hs1 hc1 hm1
    have hb5 := (Below.refl w2.heap.size w2).alloc (Nat.le_refl _) (Obj.cells #[.int .i64 k1, .string r1, .string n1, .string o1, .bool s1, .string q1, .bool t1, .slice a1 l1.length cp1] 26)
    have hB5 := Lib.hid ((hB3.out.then (Nat.le_refl _) hB4).then (Nat.le_refl _) hb5)
    have hbx2 := Lib.hid ((hbx.out.then (by simp) hB4).then (by simp) hb5)
    have hs1' := Lib.hid (hs1.strAt.later hb5)
    have hd1' := Lib.hid hd1
    have hQ1 : Hid (Blk (w2.alloc (Obj.cells #[.int .i64 k1, .string r1, .string n1, .string o1, .bool s1, .string q1, .bool t1, .slice a1 l1.length cp1] 26)) w2.heap.size #[.int .i64 k1, .string r1, .string n1, .string o1, .bool s1, .string q1, .bool t1, .slice a1 l1.length cp1] 26) := Lib.hid (Blk.new w2 _ _)
    clear c0 c1 c2 hd1 hs1 hb5 hB4 hB3 hbx K1
    have c0 := box_cell hbx2.out 0 rfl
    have c1 := box_cell hbx2.out 1 rfl
    have c2 := box_cell hbx2.out 2 rfl
    go_upto_region 4 with (fail)
    generalize w2.alloc (Obj.cells #[.int .i64 k1, .string r1, .string n1, .string o1, .bool s1, .string q1, .bool t1, .slice a1 l1.length cp1] 26) = w3 at *
    generalize w2.heap.size = P1 at hQ1 ⊢
    go_wp2_with fail
    refine (K2 _ hB5.out).mono ?_
    rintro e w4 ⟨⟨⟨k2, r2, n2, o2, s2, q2, t2, l2⟩, a2, cp2⟩, rfl, hd2, hs2, hc2, hm2, hB6⟩
    simp only at hd2 hs2 hc2 hm2
    have hd := hd2.trans hd1'.out.symm
    cases hd
    have hll : l1.length ≤ maxLen := by omega
    have hb7 := (Below.refl w4.heap.size w4).alloc (Nat.le_refl _) (Obj.cells #[.int .i64 k1, .string r1, .string n1, .string o1, .bool s1, .string q1, .bool t1, .slice a2 l1.length cp2] 26)
    have hB7 := Lib.hid ((hB5.out.then (Nat.le_refl _) hB6).then (Nat.le_refl _) hb7)
    have hQ2 := (hQ1.out.later hB6).later hb7
    have hQ3 : Blk (w4.alloc (Obj.cells #[.int .i64 k1, .string r1, .string n1, .string o1, .bool s1, .string q1, .bool t1, .slice a2 l1.length cp2] 26)) w4.heap.size #[.int .i64 k1, .string r1, .string n1, .string o1, .bool s1, .string q1, .bool t1, .slice a2 l1.length cp2] 26 := Blk.new w4 _ _
    have hsa := sameAsk_yes ⟨⟨k1, r1, n1, o1, s1, q1, t1, l1⟩, a2, cp2⟩ ⟨⟨k1, r1, n1, o1, s1, q1, t1, l1⟩, a1, cp1⟩ _ rfl (hs2.strAt.later hb7) ((hs1'.out.later hB6).later hb7) hll
    obtain ⟨p0, p1, p2, p3, p4, p5, p6, p7⟩ := blk_cells hQ2
    obtain ⟨d0, d1, d2, d3, d4, d5, d6, d7⟩ := blk_cells hQ3
    have hsa' := Lib.hid hsa
    clear c0 c1 c2 hQ1 hQ2 hQ3 hsa hd1' hd2 hs2 hs1' hb7 hB6 hbx2 K2
    go_upto_region 5 with (fail)
    generalize w4.alloc (Obj.cells #[.int .i64 k1, .string r1, .string n1, .string o1, .bool s1, .string q1, .bool t1, .slice a2 l1.length cp2] 26) = w5 at *
    generalize w4.heap.size = P2 at *
    generalize r.isSome = ok
    have hok : (ok == ok) = true := by simp
    go_wp2_with fail
    refine hsa'.out.mono ?_
    rintro e w6 ⟨rfl, hB8⟩
    go_wp2
    go_ret
    exact ⟨rfl, hB7.out.then (Nat.le_refl _) hB8⟩
  · go_wp2
    go_ret
    exact ⟨rfl, hB3.out⟩
end Go.Proofs.YtdlhihfjigcimaaDoor.lawAskKnows
