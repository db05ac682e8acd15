/- AskParses: ask.Parse finds what the reference's AskParse finds: the walk of the statement. -/
import Derived.Test.YthmkilglidfdiaaDoorRefP
import Derived.Test.YthmkilglidfdiaaDoorSameV
import Derived.Test.YthmkilglidfdiaaDoorReq
import Derived.OpenShut
namespace Go.Proofs.YthmkilglidfdiaaDoor.lawAskParses
open Go.ChangeShapes Go.WideShapes Go.ChangeAt Go.RowKit Go.WideElems
theorem pdat_inj : ∀ {a b : List (ByteArray × ByteArray)}, pdat a = pdat b → a = b
  | [], [], _ => rfl
  | [], _ :: _, h => by simp [pdat] at h
  | _ :: _, [], h => by simp [pdat] at h
  | x :: a, y :: b, h => by
    simp only [pdat, List.map_cons, List.cons.injEq, Prod.mk.injEq] at h
    rw [pdat_inj (a := a) (b := b) h.2, show x = y from Prod.ext (ba_ext h.1.1) (ba_ext h.1.2)]
set_option maxRecDepth 100000 in
theorem sameParams_quiet (a b : Option Addr) (ca cb : Nat) (ps : List (ByteArray × ByteArray)) (w : World) (hA : ParAt w a ps) (hB : ParAt w b ps) (hl : ps.length ≤ 1048576) :
    Calls Tryd.prog 8 #[.slice a ps.length ca, .slice b ps.length cb] w fun e w' => e = .returned (.bool true) ∧ ∃ n, w' = w.drewN n := by
  have hne : ((ps.length : Int) != ps.length) = false := by simp
  have hg := par_guard
  go_enter Tryd.func8, Tryd.ntmps8
  go_wp2
  go_loopw [5] (fun i wr => ∃ k n : Nat, k ≤ ps.length ∧ i = .int .i64 k ∧ wr = w.drewN n) (fun i _ => ps.length - (intOf i).toNat)
  case atStart => exact ⟨0, 0, Nat.zero_le _, rfl, rfl⟩
  case round =>
    obtain ⟨k, n, hk, rfl, hBe⟩ := hrel
    have hBl : Below w.heap.size w wr := by rw [hBe]; exact below_drewN (Below.refl _ _) n
    have hBe' := Lib.hid hBe
    clear hBe
    by_cases hlt : k < ps.length
    · obtain ⟨b1, o1, rfl, h1, h1'⟩ := (hA.later hBl) k hlt
      obtain ⟨b2, o2, rfl, h2, h2'⟩ := (hB.later hBl) k hlt
      have hs := fun w => par_neq ps[k].1 ps[k].2 w
      generalize ps[k].1 = x at h1 h2 hs
      generalize ps[k].2 = y at h1' h2' hs
      have hi0 : (0 : Int) ≤ (k : Int) := by omega
      have hi1 : (k : Int) < (ps.length : Int) := by omega
      clear hBl
      go_wp2
      go_quiet (fail)
      go_wp2
      go_roundw
      case rel => exact ⟨k + 1, _, by omega, by go_num, by rw [hBe'.out, World.drewN_drewN]⟩
      case measure => simp [intOf]; omega
    · obtain rfl : ps.length = k := by omega
      go_wp2
      go_ret
      exact ⟨rfl, n, hBe'.out⟩
set_option maxRecDepth 100000 in
set_option maxHeartbeats 4000000 in
theorem walk (W : World) (_hsh : W.ShapedOpen Tryd.prog) (hg : ErrType W) (s : ByteArray) (_hs : s.size ≤ reachBytes) :
    Calls Tryd.prog 3 #[.string s] W fun e w' => e = .returned (.bool true) ∧ Below W.heap.size W w' := by
  clear _hsh _hs
  go_enter Tryd.func3, Tryd.ntmps3
  by_cases hbig : (500 < s.size ∧ s.size ≤ 3000) ∨ 3009 < s.size
  · rcases hbig with ⟨h1, h2⟩ | h3
    · go_wp2
      go_ret
      exact ⟨rfl, Below.refl _ _⟩
    · have h1 : 500 < s.size := by omega
      have h2 : ¬s.size ≤ 3000 := by omega
      go_wp2
      go_ret
      exact ⟨rfl, Below.refl _ _⟩
  · have hs : s.size ≤ 1000000 := by omega
    have r1 := refAskParse s W hs
    have r2 := fun w => askParse s w hs
    by_cases h1 : 500 < s.size
    all_goals
      (try have h2 : ¬s.size ≤ 3000 := by omega)
      have h3 : ¬3009 < s.size := by omega
      go_wp2_with fail
      refine r1.mono ?_
      rintro e w1 ⟨lv1, xs1, rfl, hX1, hd1, hB1⟩
      obtain ⟨a1, c1, rfl, _, _, _, _⟩ := OwnG.shape encPC_len hX1.row
      generalize hn : (parseRes s.data.toList).2.1 = n
      generalize hm : (parseRes s.data.toList).2.2 = m
      have hbox := (Below.refl w1.heap.size w1).alloc (Nat.le_refl _) (Obj.cells #[.int .i64 n, .int .i64 m] 25)
      have hnm := Lib.hid (And.intro hn hm)
      clear hn hm r1
      go_wp2_with fail
      refine (r2 _).mono ?_
      rintro e w2 ⟨lv2, x, xs2, rfl, hX2, hd2, hE, hB2⟩
      obtain ⟨a2, c2, rfl, _, _, _, _⟩ := OwnG.shape encPC_len hX2.row
      rw [hnm.out.1, hnm.out.2] at hE
      have hd := Lib.hid (hd1.trans hd2.symm)
      have hlen : xs2.length = xs1.length := by
        have := congrArg List.length hd.out
        simpa using this.symm
      have q0 := box_cell (c := #[.int .i64 n, .int .i64 m]) (by simpa using hB2) 0 rfl
      have q1 := box_cell (c := #[.int .i64 n, .int .i64 m]) (by simpa using hB2) 1 rfl
      have hB3 := (hB1.then (Nat.le_refl _) hbox).trans (hB2.mono (hB1.then (Nat.le_refl _) hbox).size)
      have hX1' := Lib.hid ((hX1.later hbox).later hB2)
      have hX2' := Lib.hid hX2
      have hp := placed_is n m (hg.later hB3) hE
      rw [show ((n == n) && (m == m)) = true by simp] at hp
      have hnl : ((xs1.length : Int) != (xs2.length : Int)) = false := by rw [hlen]; simp
      have hle : xs1.length ≤ 9223372036854775807 := by
        obtain ⟨_, _, e, _, h, h', _⟩ := OwnG.shape encPC_len hX1.row
        cases e
        unfold maxLen at h'
        omega
      clear hd1 hd2 hX1 hX2 hE r2 hbox hbig
      go_wp2_with fail
      refine hp.mono ?_
      rintro e w3 ⟨rfl, hB4⟩
      have hB5 := Lib.hid (hB3.then (Nat.le_refl _) hB4)
      have hX13 := Lib.hid (hX1'.out.later hB4)
      have hX23 := Lib.hid (hX2'.out.later hB4)
      have hx40 : ∀ x ∈ xs1, x.ps.length ≤ 1048576 := fun x hx => by have := hX13.out.small x hx; omega
      have hx40' := Lib.hid hx40
      clear hp hX1' hX2' hx40 q0 q1 hB3 hB4
      go_wp2
      go_loopw [7] (fun i wr => ∃ k n : Nat, k ≤ xs1.length ∧ i = .int .i64 k ∧ Hid (wr = w3.drewN n)) (fun i _ => xs1.length - (intOf i).toNat)
      case atStart => exact ⟨0, 0, Nat.zero_le _, rfl, Lib.hid rfl⟩
      case round =>
        obtain ⟨k, nk, hk, rfl, hwr⟩ := hrel
        have hBl : Below w3.heap.size w3 wr := by rw [hwr.out]; exact below_drewN (Below.refl _ _) nk
        by_cases hlt : k < xs1.length
        · have hlt2 : k < xs2.length := by omega
          have hpe : pcd xs1[k] = pcd xs2[k] := by
            have := congrArg (fun l => l[k]?) hd.out
            simp only [List.getElem?_map, List.getElem?_eq_getElem hlt, List.getElem?_eq_getElem hlt2, Option.map_some, Option.some.injEq] at this
            exact this
          obtain ⟨bo1, of1, rfl, e1⟩ := (OwnG.row encPC_len (hX13.out.later hBl).row) k hlt
          obtain ⟨bo2, of2, rfl, e2⟩ := (OwnG.row encPC_len (hX23.out.later hBl).row) k hlt2
          have y1 := (hX13.out.later hBl).each _ (List.getElem_mem hlt)
          have y2 := (hX23.out.later hBl).each _ (List.getElem_mem hlt2)
          have hsm := hx40'.out _ (List.getElem_mem hlt)
          generalize xs1[k] = x1 at hpe e1 y1 hsm
          generalize xs2[k] = x2 at hpe e2 y2
          obtain ⟨sc1, tk1, ad1, cp1, ps1⟩ := x1
          obtain ⟨sc2, tk2, ad2, cp2, ps2⟩ := x2
          simp only [pcd, PChal.mk.injEq] at hpe
          obtain ⟨p1, p2, p3⟩ := hpe
          obtain rfl := ba_ext p1
          obtain rfl := ba_ext p2
          obtain rfl := pdat_inj p3
          have f0 : wr.cell? ⟨bo1, of1 + k * 3, none⟩ = some (.string sc1) := e1 0 _ rfl
          have f1 := e1 1 _ rfl
          have f2 := e1 2 _ rfl
          have g0 : wr.cell? ⟨bo2, of2 + k * 3, none⟩ = some (.string sc1) := e2 0 _ rfl
          have g1 := e2 1 _ rfl
          have g2 := e2 2 _ rfl
          have z1 := Lib.hid (parAt_of (OwnG.row encPar_len y1))
          have z2 := Lib.hid (parAt_of (OwnG.row encPar_len y2))
          have hsp := Lib.hid (fun nn => sameParams_quiet ad1 ad2 cp1 cp2 ps1 (wr.drewN nn) (z1.out.later (below_drewN (Below.refl _ _) nn)) (z2.out.later (below_drewN (Below.refl _ _) nn)) hsm)
          have hk1 : Hid (k + 1 ≤ xs1.length) := Lib.hid hlt
          have hi0 : (0 : Int) ≤ (k : Int) := by omega
          have hi1 : (k : Int) < (xs1.length : Int) := by omega
          have hi2 : (k : Int) < (xs2.length : Int) := by omega
          clear e1 e2 y1 y2 p1 p2 p3 hBl z1 z2
          go_wp2
          go_quiet ((go_at_call 8; exact Calls.quiet_of (hsp.out _)))
          go_wp2
          go_roundw
          case rel => exact ⟨k + 1, _, hk1.out, by go_num, Lib.hid (by rw [hwr.out, World.drewN_drewN])⟩
          case measure => have := hk1.out; simp [intOf]; omega
        · obtain rfl : xs1.length = k := by omega
          go_wp2
          go_ret
          exact ⟨rfl, hB5.out.trans (hBl.mono hB5.out.size)⟩
end Go.Proofs.YthmkilglidfdiaaDoor.lawAskParses
