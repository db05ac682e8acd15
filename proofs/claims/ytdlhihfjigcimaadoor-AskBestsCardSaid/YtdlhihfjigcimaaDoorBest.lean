/- ask.Best and the reference's Best: the strongest of what challenges ask for. -/
import Derived.Test.YtdlhihfjigcimaaDoorKnown
import Derived.Test.YtdlhihfjigcimaaDoorKnownR
import Derived.Test.YtdlhihfjigcimaaDoorFound
import Derived.BigRegion
import Derived.Deep.RegionWith
namespace Go.Proofs.YtdlhihfjigcimaaDoor
open Go.RowKit
def askOf (c : Chal) : Option AskD := knownV c.scheme c.params
def asks (cs : List Chal) : List (Option AskD) := cs.map askOf
theorem asks_succ (cs : List Chal) (k : Nat) (h : k < cs.length) : (asks cs).take (k + 1) = (asks cs).take k ++ [askOf cs[k]] := by
  unfold asks
  rw [List.take_succ_eq_append_getElem (by simpa using h)]; simp
theorem asks_all (cs : List Chal) : (asks cs).take cs.length = asks cs := List.take_of_length_le (by unfold asks; simp)
theorem asks_range (cs : List Chal) (a : AskD) (h : some a ∈ asks cs) : 1 ≤ a.scheme ∧ a.scheme ≤ 3 := by
  unfold asks at h
  obtain ⟨c, _, hc⟩ := List.mem_map.1 h
  exact knownV_scheme hc
theorem firstS_app {l1 l2 : List (Option AskD)} {s : Int} {a : AskD} (h : firstS l1 s = some a) : firstS (l1 ++ l2) s = some a := by
  revert h
  unfold firstS
  rw [List.find?_append]
  generalize List.find? _ l1 = F
  intro h
  cases F with
  | none => cases h
  | some y => simpa using h
def BestPost (w : World) (d : AskD) (e : Ending) (w' : World) : Prop :=
  ∃ a : AskV, e = .returned (.tuple #[.agg a.arr, .bool (decide (0 < a.d.scheme))]) ∧ a.d = d ∧ OwnStr w' w.heap.size (.slice a.addr a.d.domain.length a.cap) a.d.domain ∧ a.d.domain.length ≤ a.cap ∧ a.cap ≤ maxLen ∧ Below w.heap.size w w'
/-- the boxes of a Best: the result and the best so far -/
structure BS (w wx : World) (arr : Array Value) : Prop where
  r : Blk wx w.heap.size zArr tAsk
  b : Blk wx (w.heap.size + 1) arr tAsk
  low : Below w.heap.size w wx
  sz : w.heap.size + 2 ≤ wx.heap.size
theorem BS.start (w : World) : BS w ((w.alloc boxZ).alloc boxZ) zArr :=
  ⟨(Blk.new w zArr tAsk).alloc _, by simpa using Blk.new (w.alloc boxZ) zArr tAsk, ((Below.refl _ _).alloc (Nat.le_refl _) _).alloc (by simp) _, by simp⟩
theorem BS.then {w wx wy : World} {arr : Array Value} (h : BS w wx arr) (h2 : Below wx.heap.size wx wy) : BS w wy arr :=
  ⟨h.r.later h2, h.b.later h2, h.low.then (Nat.le_refl _) h2, Nat.le_trans h.sz h2.size⟩
theorem BS.put {w wx wy : World} {arr vs : Array Value} (h : BS w wx arr) (hq : Blk wy (w.heap.size + 1) vs tAsk) (hg : wx.grownBy wy (some (w.heap.size + 1))) : BS w wy vs :=
  ⟨h.r.grown hg (by simp), hq, below_only h.low hg h.low.size (Nat.le_succ _), Nat.le_trans h.sz hg.size⟩
abbrev boxChal (c : Chal) : Obj := .cells #[.string c.scheme, .string c.token, .slice c.addr c.params.length c.cap] 32
set_option maxRecDepth 100000 in
set_option maxHeartbeats 2000000 in
theorem askBest (a : Option Addr) (cap : Nat) (cs : List Chal) (w : World) (hC : ChalAt w a cs) (hl : cs.length ≤ 100)
    (hK : ∀ c ∈ cs, ∀ w', Below w.heap.size w w' → Calls Tryd.prog 15 #[.agg #[.string c.scheme, .string c.token, .slice c.addr c.params.length c.cap]] w' (KnownPost w' (knownV c.scheme c.params))) :
    Calls Tryd.prog 12 #[.slice a cs.length cap] w (BestPost w (bestF (asks cs))) := by
  have hS0 := Lib.hid (BS.start w)
  go_enter Tryd.func12, Tryd.ntmps12
  go_wp2
  go_loopw [11] (fun i wr => ∃ (k : Nat) (x : AskV), k ≤ cs.length ∧ i = .int .i64 k ∧ Hid (x.d = bestF ((asks cs).take k)) ∧ Hid (OwnStr wr (w.heap.size + 2) (.slice x.addr x.d.domain.length x.cap) x.d.domain ∧ x.d.domain.length ≤ x.cap ∧ x.cap ≤ maxLen) ∧ Hid (BS w wr x.arr)) (fun i _ => cs.length - (intOf i).toNat)
  case atStart => exact ⟨0, ⟨askZero, none, 0⟩, Nat.zero_le _, rfl, Lib.hid rfl, Lib.hid ⟨OwnStr.nil _ _, Nat.le_refl _, Nat.zero_le _⟩, hS0⟩
  case round =>
    obtain ⟨k, x, hk, rfl, hd, hO, hS⟩ := hrel
    obtain ⟨⟨k1, r1, n1, o1, s1, q1, t1, l1⟩, a1, cp1⟩ := x
    simp only at hd hO
    clear hS0
    by_cases hlt : k < cs.length
    · obtain ⟨b, off, rfl, e0, e1, e2⟩ := (hC.later hS.out.low) k hlt
      have hn := Lib.hid (asks_succ cs k hlt)
      have hKc := fun w' hb => hK cs[k] (List.getElem_mem hlt) w' hb
      clear hC hK
      have hn' : Hid (bestF ((asks cs).take (k + 1)) = match knownV cs[k].scheme cs[k].params with
          | some a => if k1 < a.scheme then a else ⟨k1, r1, n1, o1, s1, q1, t1, l1⟩
          | none => ⟨k1, r1, n1, o1, s1, q1, t1, l1⟩) := Lib.hid (by rw [hn.out, bestF_snoc, ← hd.out]; rfl)
      generalize cs[k] = c at e0 e1 e2 hKc hn'
      obtain ⟨sc, tk, ad, cp, ps⟩ := c
      simp only at e0 e1 e2 hKc hn'
      generalize knownV sc ps = r at hKc hn'
      have hb1 := (Below.refl wr.heap.size wr).alloc (Nat.le_refl _) (Obj.cells #[.string sc, .string tk, .slice ad ps.length cp] 32)
      have hS1 := Lib.hid (hS.out.then hb1)
      have hO1 := Lib.hid (hO.out.1.later hb1)
      have hcap1 := Lib.hid hO.out.2
      have hQ6 : Blk (wr.alloc (Obj.cells #[.string sc, .string tk, .slice ad ps.length cp] 32)) wr.heap.size #[.string sc, .string tk, .slice ad ps.length cp] 32 := Blk.new wr _ _
      have b0 := hQ6.cell 0 rfl
      have b1 := hQ6.cell 1 rfl
      have b2 := hQ6.cell 2 rfl
      clear hn hd hS hO hb1 hQ6
      go_upto_region 5 with (fail)
      generalize wr.alloc (Obj.cells #[.string sc, .string tk, .slice ad ps.length cp] 32) = w1 at hS1 hO1 b0 b1 b2 ⊢
      generalize wr.heap.size = P6 at b0 b1 b2 ⊢
      clear e0 e1 e2
      go_wp2_with fail
      refine (hKc _ hS1.out.low).mono ?_
      rintro e w3 ⟨⟨⟨k2, r2, n2, o2, s2, q2, t2, l2⟩, a2, cp2⟩, rfl, hd2, hO2, hc2, hm2, hB3⟩
      simp only at hd2 hO2 hc2 hm2
      have hd2' := Lib.hid hd2
      clear hd2
      have hb7 := (Below.refl w3.heap.size w3).alloc (Nat.le_refl _) (Obj.cells #[.int .i64 k2, .string r2, .string n2, .string o2, .bool s2, .string q2, .bool t2, .slice a2 l2.length cp2] 26)
      have hS4 := Lib.hid ((hS1.out.then hB3).then hb7)
      have hO4 := Lib.hid ((hO1.out.later hB3).later hb7)
      have hO5 := Lib.hid ((hO2.mono hS1.out.sz).later hb7)
      have hQ7 : Blk (w3.alloc (Obj.cells #[.int .i64 k2, .string r2, .string n2, .string o2, .bool s2, .string q2, .bool t2, .slice a2 l2.length cp2] 26)) w3.heap.size #[.int .i64 k2, .string r2, .string n2, .string o2, .bool s2, .string q2, .bool t2, .slice a2 l2.length cp2] tAsk := Blk.new w3 _ _
      clear hS1 hO1 hO2 hB3 hb7 b0 b1 b2 hKc
      go_upto_region 6 with (fail)
      generalize w3.alloc (Obj.cells #[.int .i64 k2, .string r2, .string n2, .string o2, .bool s2, .string q2, .bool t2, .slice a2 l2.length cp2] 26) = w4 at *
      generalize w3.heap.size = P7 at *
      obtain ⟨p0, p1, p2, p3, p4, p5, p6, p7⟩ := blk_cells hQ7
      obtain ⟨z0, z1, z2, z3, z4, z5, z6, z7⟩ := blk_cells hS4.out.b
      cases r with
      | none =>
        clear hd2'
        go_wp2
        go_roundw
        case rel => exact ⟨k + 1, ⟨⟨k1, r1, n1, o1, s1, q1, t1, l1⟩, a1, cp1⟩, by omega, by go_num, Lib.hid (by rw [hn'.out]), Lib.hid ⟨hO4.out, hcap1.out⟩, hS4⟩
        case measure => simp [intOf]; omega
      | some d =>
        obtain rfl : ⟨k2, r2, n2, o2, s2, q2, t2, l2⟩ = d := hd2'.out
        by_cases hgt : k1 < k2
        · have hb := hS4.out.b
          go_wp2_with (first
            | (refine wpList_load_blk rfl tAsk _ rfl _ rfl hQ7 _ Tryd.underlying26 rfl infoAsk ?_)
            | (refine wpList_store_blk rfl tAsk _ _ rfl _ rfl hb #[.int .i64 k2, .string r2, .string n2, .string o2, .bool s2, .string q2, .bool t2, .slice a2 l2.length cp2] rfl rfl infoAsk (ask_one _ _ _ _ _ _ _ _ _ _) ?_; intro wz hz hg))
          go_roundw
          case rel => exact ⟨k + 1, ⟨⟨k2, r2, n2, o2, s2, q2, t2, l2⟩, a2, cp2⟩, by omega, by go_num, Lib.hid (by rw [hn'.out]; exact (if_pos hgt).symm), Lib.hid ⟨OwnStr.turned hO5.out hg (by omega), hc2, hm2⟩, Lib.hid (hS4.out.put hz hg)⟩
          case measure => simp [intOf]; omega
        · go_wp2
          go_roundw
          case rel => exact ⟨k + 1, ⟨⟨k1, r1, n1, o1, s1, q1, t1, l1⟩, a1, cp1⟩, by omega, by go_num, Lib.hid (by rw [hn'.out]; exact (if_neg hgt).symm), Lib.hid ⟨hO4.out, hcap1.out⟩, hS4⟩
          case measure => simp [intOf]; omega
    · obtain rfl : k = cs.length := by omega
      have hd' := Lib.hid (show bestF (asks cs) = ⟨k1, r1, n1, o1, s1, q1, t1, l1⟩ by rw [← asks_all, ← hd.out])
      obtain ⟨z0, z1, z2, z3, z4, z5, z6, z7⟩ := blk_cells hS.out.b
      obtain ⟨d0, d1, d2, d3, d4, d5, d6, d7⟩ := blk_cells hS.out.r
      obtain ⟨g0, g1, g2, g3, g4, g5, g6, g7⟩ := blk_free hS.out.r
      clear hd hC hK
      go_upto_region 9 with (fail)
      go_cut [3] (fun s wx => s = .bool (decide (0 < k1)) ∧ Hid (Blk wx w.heap.size #[.int .i64 k1, .string r1, .string n1, .string o1, .bool s1, .string q1, .bool t1, .slice a1 l1.length cp1] tAsk ∧ OwnStr wx w.heap.size (.slice a1 l1.length cp1) l1 ∧ Below w.heap.size w wx))
      case first =>
        go_region
        all_goals
          go_wp2
          go_meet
          exact ⟨rfl, Lib.hid ⟨(blk_set8 hS.out.r _ _ _ _ _ _ _ _).drew, (OwnStr.later (own_set8 hO.out.1 (by omega) _ _ _ _ _ _ _ _) (Below.refl _ _).drew).mono (by omega), (below_set8 hS.out.low (Nat.le_refl _) _ _ _ _ _ _ _ _).drew⟩⟩
      case rest =>
        obtain ⟨rfl, hZ⟩ := hcut
        clear z0 z1 z2 z3 z4 z5 z6 z7 d0 d1 d2 d3 d4 d5 d6 d7 g0 g1 g2 g3 g4 g5 g6 g7
        obtain ⟨d0, d1, d2, d3, d4, d5, d6, d7⟩ := blk_cells hZ.out.1
        (repeat (first | go_values | go_skip | go_guarded | go_step | go_upon))
        (try simp only [Exit.inBlock, Exit.then])
        refine bodyPost_ret (v := .tuple #[.agg #[.int .i64 k1, .string r1, .string n1, .string o1, .bool s1, .string q1, .bool t1, .slice a1 l1.length cp1], .bool (decide (0 < k1))]) (by simp [results, Tryd.results12, go_sem, d0, d1, d2, d3, d4, d5, d6, d7]; try rfl) rfl ?_
        exact ⟨⟨⟨k1, r1, n1, o1, s1, q1, t1, l1⟩, a1, cp1⟩, rfl, hd'.out.symm, hZ.out.2.1, hO.out.2.1, hO.out.2.2, hZ.out.2.2⟩
/-- the box of the reference's Best -/
structure RS (w wx : World) : Prop where
  r : Blk wx w.heap.size zArr tAsk
  low : Below w.heap.size w wx
  sz : w.heap.size + 1 ≤ wx.heap.size
theorem RS.start (w : World) : RS w (w.alloc boxZ) := ⟨Blk.new w zArr tAsk, (Below.refl _ _).alloc (Nat.le_refl _) _, by simp⟩
theorem RS.then {w wx wy : World} (h : RS w wx) (h2 : Below wx.heap.size wx wy) : RS w wy := ⟨h.r.later h2, h.low.then (Nat.le_refl _) h2, Nat.le_trans h.sz h2.size⟩
/-- none of the schemes above j is asked for -/
def NoneUp (cs : List Chal) (j : Int) : Prop := ∀ s : Int, j < s → s ≤ 3 → firstS (asks cs) s = none
theorem bestF_none {cs : List Chal} (h : NoneUp cs 0) : bestF (asks cs) = askZero := by
  rw [best_two _ (asks_range cs), h 3 (by decide) (by decide), h 2 (by decide) (by decide), h 1 (by decide) (by decide)]
theorem bestF_at {cs : List Chal} {j : Int} {a : AskD} (hj : 1 ≤ j ∧ j ≤ 3) (h : NoneUp cs j) (hf : firstS (asks cs) j = some a) : bestF (asks cs) = a := by
  have h3 : j = 3 ∨ j = 2 ∨ j = 1 := by omega
  rw [best_two _ (asks_range cs)]
  rcases h3 with rfl | rfl | rfl
  · rw [hf]
  · rw [h 3 (by decide) (by decide), hf]
  · rw [h 3 (by decide) (by decide), h 2 (by decide) (by decide), hf]
theorem first_here {cs : List Chal} {k : Nat} (h : k < cs.length) {j : Int} {a : AskD} (hf : firstS ((asks cs).take k) j = none) (ha : askOf cs[k] = some a) (hs : a.scheme = j) : firstS (asks cs) j = some a := by
  have e : asks cs = (asks cs).take (k + 1) ++ (asks cs).drop (k + 1) := (List.take_append_drop _ _).symm
  rw [e]
  refine firstS_app ?_
  rw [asks_succ cs k h, firstS_snoc, hf, ha]
  simp [hs]
theorem first_not {cs : List Chal} {k : Nat} (h : k < cs.length) {j : Int} (hf : firstS ((asks cs).take k) j = none) (hs : ∀ a, askOf cs[k] = some a → a.scheme ≠ j) : firstS ((asks cs).take (k + 1)) j = none := by
  rw [asks_succ cs k h, firstS_snoc, hf]
  cases ha : askOf cs[k] with
  | none => rfl
  | some a => simp [hs a ha]
set_option maxRecDepth 100000 in
set_option maxHeartbeats 2000000 in
theorem refBest (a : Option Addr) (cap : Nat) (cs : List Chal) (w : World) (hC : ChalAt w a cs) (hl : cs.length ≤ 100)
    (hK : ∀ c ∈ cs, ∀ w', Below w.heap.size w w' → Calls Tryd.prog 14 #[.agg #[.string c.scheme, .string c.token, .slice c.addr c.params.length c.cap]] w' (KnownPost w' (knownV c.scheme c.params))) :
    Calls Tryd.prog 11 #[.slice a cs.length cap] w (BestPost w (bestF (asks cs))) := by
  have hS0 := Lib.hid (RS.start w)
  go_enter Tryd.func11, Tryd.ntmps11
  go_wp2
  go_loopw [4] (fun i wr => ∃ j : Int, 0 ≤ j ∧ j ≤ 3 ∧ i = .int .i64 j ∧ Hid (NoneUp cs j) ∧ Hid (RS w wr)) (fun i _ => (intOf i).toNat)
  case atStart => exact ⟨3, by decide, by decide, rfl, Lib.hid (fun s h1 h2 => by omega), hS0⟩
  case round =>
    obtain ⟨j, hj0, hj3, rfl, hNU, hS⟩ := hrel
    clear hS0
    by_cases hj : 1 ≤ j
    · go_wp2
      go_loopw [15] (fun i wr => ∃ k : Nat, k ≤ cs.length ∧ i = .int .i64 k ∧ Hid (firstS ((asks cs).take k) j = none) ∧ Hid (RS w wr)) (fun i _ => cs.length - (intOf i).toNat)
      case atStart => exact ⟨0, Nat.zero_le _, rfl, Lib.hid (by rw [List.take_zero]; rfl), hS⟩
      case round =>
        obtain ⟨k, hk, rfl, hF, hS'⟩ := hrel
        clear hS
        by_cases hlt : k < cs.length
        · obtain ⟨b, off, rfl, e0, e1, e2⟩ := (hC.later hS'.out.low) k hlt
          have hyes := Lib.hid (fun (x : AskD) (h1 : askOf cs[k] = some x) (h2 : x.scheme = j) => bestF_at ⟨hj, hj3⟩ hNU.out (first_here hlt hF.out h1 h2))
          have hno := Lib.hid (first_not hlt hF.out)
          have hKc := fun w' hb => hK cs[k] (List.getElem_mem hlt) w' hb
          have hask := Lib.hid (show askOf cs[k] = knownV cs[k].scheme cs[k].params from rfl)
          clear hC hK
          generalize hcs : cs[k] = c at e0 e1 e2 hKc hyes hno hask
          clear hcs
          obtain ⟨sc, tk, ad, cp, ps⟩ := c
          simp only at e0 e1 e2 hKc hask
          generalize knownV sc ps = r at hKc hask
          have hb1 := (Below.refl wr.heap.size wr).alloc (Nat.le_refl _) (Obj.cells #[.string sc, .string tk, .slice ad ps.length cp] 32)
          have hS1 := Lib.hid (hS'.out.then hb1)
          have hQ6 : Blk (wr.alloc (Obj.cells #[.string sc, .string tk, .slice ad ps.length cp] 32)) wr.heap.size #[.string sc, .string tk, .slice ad ps.length cp] 32 := Blk.new wr _ _
          have b0 := hQ6.cell 0 rfl
          have b1 := hQ6.cell 1 rfl
          have b2 := hQ6.cell 2 rfl
          clear hF hS' hb1 hQ6
          go_upto_region 7 with (fail)
          generalize wr.alloc (Obj.cells #[.string sc, .string tk, .slice ad ps.length cp] 32) = w1 at hS1 b0 b1 b2 ⊢
          generalize wr.heap.size = P6 at b0 b1 b2 ⊢
          clear e0 e1 e2
          go_wp2_with fail
          refine (hKc _ hS1.out.low).mono ?_
          rintro e w3 ⟨⟨⟨k2, r2, n2, o2, s2, q2, t2, l2⟩, a2, cp2⟩, rfl, hd2, hO2, hc2, hm2, hB3⟩
          simp only at hd2 hO2 hc2 hm2
          have hd2' := Lib.hid hd2
          clear hd2
          have hb7 := (Below.refl w3.heap.size w3).alloc (Nat.le_refl _) (Obj.cells #[.int .i64 k2, .string r2, .string n2, .string o2, .bool s2, .string q2, .bool t2, .slice a2 l2.length cp2] 26)
          have hS4 := Lib.hid ((hS1.out.then hB3).then hb7)
          have hO5 := Lib.hid ((hO2.mono hS1.out.sz).later hb7)
          have hQ7 : Blk (w3.alloc (Obj.cells #[.int .i64 k2, .string r2, .string n2, .string o2, .bool s2, .string q2, .bool t2, .slice a2 l2.length cp2] 26)) w3.heap.size #[.int .i64 k2, .string r2, .string n2, .string o2, .bool s2, .string q2, .bool t2, .slice a2 l2.length cp2] tAsk := Blk.new w3 _ _
          clear hS1 hO2 hB3 hb7 b0 b1 b2 hKc
          go_upto_region 8 with (fail)
          generalize w3.alloc (Obj.cells #[.int .i64 k2, .string r2, .string n2, .string o2, .bool s2, .string q2, .bool t2, .slice a2 l2.length cp2] 26) = w4 at *
          generalize w3.heap.size = P7 at *
          obtain ⟨p0, p1, p2, p3, p4, p5, p6, p7⟩ := blk_cells hQ7
          cases r with
          | none =>
            clear hd2'
            have hn := Lib.hid (hno.out (fun a h => by rw [hask.out] at h; cases h))
            clear hyes hno hask
            go_wp2
            go_roundw
            case rel => exact ⟨k + 1, by omega, by go_num, hn, hS4⟩
            case measure => simp [intOf]; omega
          | some d =>
            obtain rfl : ⟨k2, r2, n2, o2, s2, q2, t2, l2⟩ = d := hd2'.out
            by_cases he : k2 = j
            · have hv := Lib.hid (hyes.out _ hask.out he)
              have g : (k2 == j) = true := by simp [he]
              have hdec : decide (0 < k2) = true := decide_eq_true (by omega)
              have hR := hS4.out.r
              have hlow := hS4.out.low
              clear hyes hno hask he
              go_upto_region 9 with (fail)
              (repeat (first | (go_big_may; refine wpList_load_blk rfl tAsk _ rfl _ rfl hQ7 _ Tryd.underlying26 rfl infoAsk ?_) | (go_big_may; refine wpList_store_blk rfl tAsk _ _ rfl _ rfl hR #[.int .i64 k2, .string r2, .string n2, .string o2, .bool s2, .string q2, .bool t2, .slice a2 l2.length cp2] rfl rfl infoAsk (ask_one _ _ _ _ _ _ _ _ _ _) ?_; intro wz hz hg) | go_values | go_skip | go_guarded | go_step | go_upon))
              obtain ⟨d0, d1, d2, d3, d4, d5, d6, d7⟩ := blk_cells hz
              (try simp only [Exit.inBlock, Exit.then])
              refine bodyPost_ret (v := .tuple #[.agg #[.int .i64 k2, .string r2, .string n2, .string o2, .bool s2, .string q2, .bool t2, .slice a2 l2.length cp2], .bool true]) (by simp [results, Tryd.results11, go_sem, d0, d1, d2, d3, d4, d5, d6, d7]; try rfl) rfl ?_
              exact ⟨⟨⟨k2, r2, n2, o2, s2, q2, t2, l2⟩, a2, cp2⟩, by rw [hdec], hv.out.symm, (OwnStr.turned hO5.out hg (by omega)).mono (by omega), hc2, hm2, below_only hlow hg hlow.size (Nat.le_refl _)⟩
            · have hn := Lib.hid (hno.out (fun a h => by rw [hask.out] at h; cases h; exact he))
              have g : (k2 == j) = false := by simpa using he
              clear hyes hno hask he
              go_wp2
              go_roundw
              case rel => exact ⟨k + 1, by omega, by go_num, hn, hS4⟩
              case measure => simp [intOf]; omega
        · obtain rfl : k = cs.length := by omega
          have hn := Lib.hid (show NoneUp cs (j - 1) from fun s h1 h2 => by
            by_cases e : s = j
            · rw [e, ← asks_all, hF.out]
            · exact hNU.out s (by omega) h2)
          clear hNU hF
          go_wp2
          go_roundw
          case rel => exact ⟨j - 1, by omega, by omega, by go_num, hn, hS'⟩
          case measure => simp [intOf]; omega
    · obtain rfl : j = 0 := by omega
      have hv := Lib.hid (bestF_none hNU.out)
      have hR := hS.out.r
      have hlow := hS.out.low
      clear hNU
      go_upto_region 11 with (fail)
      (repeat (first | (go_big_may; refine wpList_store_blk rfl tAsk _ _ rfl _ rfl hR zArr rfl rfl infoAsk (ask_one _ _ _ _ _ _ _ _ _ _) ?_; intro wz hz hg) | go_values | go_skip | go_guarded | go_step | go_upon))
      obtain ⟨d0, d1, d2, d3, d4, d5, d6, d7⟩ := blk_cells hz
      (try simp only [Exit.inBlock, Exit.then])
      refine bodyPost_ret (v := .tuple #[.agg zArr, .bool false]) (by simp [results, Tryd.results11, go_sem, d0, d1, d2, d3, d4, d5, d6, d7]; try rfl) rfl ?_
      exact ⟨⟨askZero, none, 0⟩, rfl, hv.out.symm, OwnStr.nil _ _, Nat.le_refl _, Nat.zero_le _, below_only hlow hg hlow.size (Nat.le_refl _)⟩
end Go.Proofs.YtdlhihfjigcimaaDoor
