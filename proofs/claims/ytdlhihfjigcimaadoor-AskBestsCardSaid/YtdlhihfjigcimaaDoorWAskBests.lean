/- AskBests: ask.Best tells what the reference's Best tells, of any challenges: the walk of the statement. -/
import Derived.Test.YtdlhihfjigcimaaDoorBest
import Derived.Test.YtdlhihfjigcimaaDoorSameA
import Derived.Test.YtdlhihfjigcimaaDoorAskPrint
namespace Go.Proofs.YtdlhihfjigcimaaDoor.lawAskBests
open Go.ChangeShapes Go.WideShapes Go.ChangeAt Go.RowKit Go.WideElems
set_option maxRecDepth 100000 in
set_option maxHeartbeats 1600000 in
theorem walk (W : World) (hsh : W.ShapedOpen Tryd.prog) (a : Option Addr) (len cap : Nat) (hR : Rd Tryd.prog W 22 [.slice a len cap]) :
    Calls Tryd.prog 3 #[.slice a len cap] W fun e w' => e = .returned (.bool true) ∧ Below W.heap.size W w' := by
  have hM := Lib.hid (maxL_of hsh)
  obtain ⟨cs, rfl, hC, hO, hl⟩ := chals_open hR
  clear hR hsh
  go_enter Tryd.func3, Tryd.ntmps3
  go_wp2_with fail
  refine (heavy_says a cap cs _ hC hO hl).mono ?_
  rintro e w1 ⟨⟨b, rfl, hb⟩, hB2⟩
  have hB3 := Lib.hid hB2
  clear hB2
  cases b
  · obtain ⟨h10, hL⟩ := hb rfl
    have K1 : ∀ c ∈ cs, ∀ w', Below W.heap.size W w' → Calls Tryd.prog 14 #[.agg #[.string c.scheme, .string c.token, .slice c.addr c.params.length c.cap]] w' (KnownPost w' (knownV c.scheme c.params)) := fun c hc w' h => by
      have hLt := hL c hc
      have hhd := light_head hLt
      have hea := light_each hLt
      exact refKnown c.scheme c.token c.addr c.cap c.params w' (hM.out.later h) ((hO c hc).at_.later h) (hO c hc).lenMax (by omega) (fun p hp => by have := hea p hp; omega) (fun p hp => by have := hea p hp; omega)
    have K2 : ∀ c ∈ cs, ∀ w', Below W.heap.size W w' → Calls Tryd.prog 15 #[.agg #[.string c.scheme, .string c.token, .slice c.addr c.params.length c.cap]] w' (KnownPost w' (knownV c.scheme c.params)) := fun c hc w' h => by
      have hLt := hL c hc
      have hhd := light_head hLt
      have hea := light_each hLt
      exact askKnown c.scheme c.token c.addr c.cap c.params w' (hM.out.later h) ((hO c hc).at_.later h) (hO c hc).lenMax (by omega) (fun p hp => by have := hea p hp; omega) (fun p hp => by have := hea p hp; omega)
    have B1 := fun w' (h : Below W.heap.size W w') => refBest a cap cs w' (hC.later h) (by omega) (fun c hc w2 h2 => K1 c hc w2 (h.then (Nat.le_refl _) h2))
    have B2 := fun w' (h : Below W.heap.size W w') => askBest a cap cs w' (hC.later h) (by omega) (fun c hc w2 h2 => K2 c hc w2 (h.then (Nat.le_refl _) h2))
    clear K1 K2 hM hC hO hL hb
    generalize bestF (asks cs) = D at B1 B2
    go_wp2_with fail
    refine (B1 _ hB3.out).mono ?_
    rintro e w2 ⟨⟨⟨k1, r1, n1, o1, s1, q1, t1, l1⟩, a1, cp1⟩, rfl, hd1, hs1, hc1, hm1, hB4⟩
    simp only at hd1 hs1 hc1 hm1
    have hb5 := (Below.refl w2.heap.size w2).alloc (Nat.le_refl _) (Obj.cells #[.int .i64 k1, .string r1, .string n1, .string o1, .bool s1, .string q1, .bool t1, .slice a1 l1.length cp1] 26)
    have hB5 := Lib.hid ((hB3.out.then (Nat.le_refl _) hB4).then (Nat.le_refl _) hb5)
    have hs1' := Lib.hid (hs1.strAt.later hb5)
    have hd1' := Lib.hid hd1
    have hQ1 : Hid (Blk (w2.alloc (Obj.cells #[.int .i64 k1, .string r1, .string n1, .string o1, .bool s1, .string q1, .bool t1, .slice a1 l1.length cp1] 26)) w2.heap.size #[.int .i64 k1, .string r1, .string n1, .string o1, .bool s1, .string q1, .bool t1, .slice a1 l1.length cp1] 26) := Lib.hid (Blk.new w2 _ _)
    clear hd1 hs1 hb5 hB4 hB3 B1
    go_upto_region 4 with (fail)
    generalize w2.alloc (Obj.cells #[.int .i64 k1, .string r1, .string n1, .string o1, .bool s1, .string q1, .bool t1, .slice a1 l1.length cp1] 26) = w3 at *
    generalize w2.heap.size = P1 at hQ1 ⊢
    go_wp2_with fail
    refine (B2 _ hB5.out).mono ?_
    rintro e w4 ⟨⟨⟨k2, r2, n2, o2, s2, q2, t2, l2⟩, a2, cp2⟩, rfl, hd2, hs2, hc2, hm2, hB6⟩
    simp only at hd2 hs2 hc2 hm2
    have hd := hd2.trans hd1'.out.symm
    cases hd
    have hll : l1.length ≤ maxLen := by omega
    have hb7 := (Below.refl w4.heap.size w4).alloc (Nat.le_refl _) (Obj.cells #[.int .i64 k1, .string r1, .string n1, .string o1, .bool s1, .string q1, .bool t1, .slice a2 l1.length cp2] 26)
    have hB7 := Lib.hid ((hB5.out.then (Nat.le_refl _) hB6).then (Nat.le_refl _) hb7)
    have hQ2 := (hQ1.out.later hB6).later hb7
    have hQ3 : Blk (w4.alloc (Obj.cells #[.int .i64 k1, .string r1, .string n1, .string o1, .bool s1, .string q1, .bool t1, .slice a2 l1.length cp2] 26)) w4.heap.size #[.int .i64 k1, .string r1, .string n1, .string o1, .bool s1, .string q1, .bool t1, .slice a2 l1.length cp2] 26 := Blk.new w4 _ _
    have hsa := sameAsk_yes ⟨⟨k1, r1, n1, o1, s1, q1, t1, l1⟩, a2, cp2⟩ ⟨⟨k1, r1, n1, o1, s1, q1, t1, l1⟩, a1, cp1⟩ _ rfl (hs2.strAt.later hb7) ((hs1'.out.later hB6).later hb7) hll
    obtain ⟨p0, p1, p2, p3, p4, p5, p6, p7⟩ := blk_cells hQ2
    obtain ⟨d0, d1, d2, d3, d4, d5, d6, d7⟩ := blk_cells hQ3
    have hsa' := Lib.hid hsa
    clear hQ1 hQ2 hQ3 hsa hd1' hd2 hs2 hs1' hb7 hB6 B2
    go_upto_region 5 with (fail)
    generalize w4.alloc (Obj.cells #[.int .i64 k1, .string r1, .string n1, .string o1, .bool s1, .string q1, .bool t1, .slice a2 l1.length cp2] 26) = w5 at *
    generalize w4.heap.size = P2 at *
    generalize decide (0 < k1) = ok
    have hok : (ok == ok) = true := by simp
    go_wp2_with fail
    refine hsa'.out.mono ?_
    rintro e w6 ⟨rfl, hB8⟩
    go_wp2
    go_ret
    exact ⟨rfl, hB7.out.then (Nat.le_refl _) hB8⟩
  · go_wp2
    go_ret
    exact ⟨rfl, hB3.out⟩
end Go.Proofs.YtdlhihfjigcimaaDoor.lawAskBests
