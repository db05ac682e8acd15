/- ref.Grant: what an answer allows a request. -/
import Derived.Test.YtnggicpmncokdaaGreatDoorGrantF
import Derived.Test.YtnggicpmncokdaaGreatDoorGrantG
import Derived.Test.YtnggicpmncokdaaGreatDoorListR
import Derived.Test.YtnggicpmncokdaaGreatDoorCovR
namespace Go.Proofs.YtnggicpmncokdaaGreatDoor
open Go.RowKit Go.Deep Go.Maps
def GrantPostR (W : World) (r : Req) (u : Int) (gv : List BP × Int) (e : Ending) (w' : World) : Prop :=
  (∃ a1 cap1, e = .returned (.tuple #[.slice a1 gv.1.length cap1, .int .i64 gv.2]) ∧ PassAt w' a1 (gv.1.map (mkP r u))) ∧ Below W.heap.size W w'
theorem grantR_no {W : World} {r : Req} {u : Int} {k : Int} {w' : World} (h : Below W.heap.size W w') : GrantPostR W r u ([], k) (.returned (.tuple #[.slice none 0 0, .int .i64 k])) w' :=
  ⟨⟨none, 0, rfl, fun i hi => absurd hi (by simp)⟩, h⟩
theorem isFltG (n m : Int) (w : World) : Calls Tryz.prog 24 #[.agg #[.int .i64 n, .int .i64 m]] w fun e w' => e = .returned (.bool (n == 0)) ∧ Below w.heap.size w w' := by
  have hb : Below w.heap.size w (w.alloc (.cells #[.int .i64 n, .int .i64 m] 66)) := (Below.refl _ _).alloc (Nat.le_refl _) _
  go_enter Tryz.func24, Tryz.ntmps24
  go_wp2
  go_ret
  exact ⟨rfl, hb⟩
theorem GrR.start {W : World} {r : Req} {a : Option Addr} {n cap : Nat} {now u : Int} {w : World} (h : GrBox W r a n cap now w) :
    GrR W r a n cap now u W.heap.size (W.heap.size + 1) (W.heap.size + 1 + 1) w.heap.size w.heap.size (w.heap.size + 1) (w.heap.size + 1 + 1) [] (((w.alloc (.cells #[.slice none 0 0] tPasses)).alloc (.map #[] 0)).alloc (.cells #[.map (some (w.heap.size + 1))] tSB)) := by
  have hu := h.up
  have hb : Below w.heap.size w (((w.alloc (.cells #[.slice none 0 0] tPasses)).alloc (.map #[] 0)).alloc (.cells #[.map (some (w.heap.size + 1))] tSB)) := (((Below.refl _ _).alloc (Nat.le_refl _) _).alloc (by simp only [World.size_alloc]; omega) _).alloc (by simp only [World.size_alloc]; omega) _
  have h2 := h.later hb
  have hp := ((Blk.new w #[.slice none 0 0] tPasses).alloc (.map #[] 0)).alloc (.cells #[.map (some (w.heap.size + 1))] tSB)
  have hq := Blk.new ((w.alloc (.cells #[.slice none 0 0] tPasses)).alloc (.map #[] 0)) #[.map (some (w.heap.size + 1))] tSB
  rw [World.size_alloc, World.size_alloc] at hq
  have hm := (World.ownsMap_made (w.alloc (.cells #[.slice none 0 0] tPasses)) Tryz.prog 9 (plainElem (H := Unit) Tryz.prog 4)).alloc (.cells #[.map (some (w.heap.size + 1))] tSB)
  rw [World.size_alloc] at hm
  refine ⟨⟨h2.low, h2.rb, h2.lb, h2.tb, ⟨_, hp, World.ownsRow_nil _ _ _ _⟩, Nat.le_refl _, by omega, by omega, by omega, by omega, by omega, by omega, by omega, by omega, by omega, by simp only [World.size_alloc]; omega⟩, hq, ⟨0, _, Nat.le_refl _, hm, SetT.nil⟩, by omega, by omega, by omega, fun p hp => by cases hp⟩
theorem GrR.later {W : World} {r : Req} {a : Option Addr} {n cap : Nat} {now u : Int} {R L T P B Mb Q : Nat} {acc : List BP} {w w' : World} (h : GrR W r a n cap now u R L T P B Mb Q acc w) (hb : Below w.heap.size w w') : GrR W r a n cap now u R L T P B Mb Q acc w' := by
  obtain ⟨k, D, h1, h2, h3⟩ := h.mp
  exact ⟨h.base.later hb, h.qb.later hb, ⟨k, D, h1, h2.kept (only_of_below hb none) (by simp), h3⟩, h.mB, h.QP, h.MP, h.ok⟩
theorem mkP_ok {w : World} {r : Req} {u : Int} (hO : r.Ok w) (h0 : 0 ≤ u) (h1 : u ≤ 2199023255552) {l : List BP} (hl : ∀ p ∈ l, p.1.size ≤ 1000000 ∧ p.2.size ≤ 1000000) : ∀ p ∈ l.map (mkP r u), p.Ok := by
  intro p hp
  obtain ⟨q, hq, rfl⟩ := List.mem_map.1 hp
  have := hl q hq
  have hr : (1000000 : Nat) ≤ reachBytes := by unfold reachBytes; decide
  exact ⟨hO.host1, hO.port1, hO.host2, hO.port2, hO.path, hO.query, Nat.le_trans this.1 hr, Nat.le_trans this.2 hr, by
    show (decide (IntKind.i64.min ≤ u) && decide (u ≤ IntKind.i64.max)) = true
    have e1 : IntKind.i64.min = -9223372036854775808 := by decide
    have e2 : IntKind.i64.max = 9223372036854775807 := by decide
    rw [e1, e2]
    simp; omega⟩
theorem methodOf_small {s : ByteArray} (h : s.size ≤ 1000) : (methodOf s).size ≤ 1000000 := by
  have := methodOf_len s
  omega
theorem meths_size {r : Req} {ps : List (ByteArray × ByteArray)} (hl : ps.length ≤ 45) (hM : ∀ p ∈ ps, p.2.size ≤ 300) (hr : r.method.size ≤ 1000) : ∀ m ∈ methsV r ps, m.size ≤ 1000000 := by
  intro m hm
  have hb : ps.length * (300 + 2) ≤ 45 * 302 := Nat.mul_le_mul hl (by decide)
  unfold methsV at hm
  split at hm
  · rw [List.mem_singleton.1 hm]; exact methodOf_small hr
  · unfold mkT at hm
    obtain ⟨x, hx, rfl⟩ := List.mem_map.1 hm
    have := words_len ps nMeth 300 hM x hx
    rw [sz_len]
    show x.length ≤ _
    omega
theorem heads_size {ps : List (ByteArray × ByteArray)} (hl : ps.length ≤ 45) (hM : ∀ p ∈ ps, p.2.size ≤ 300) : ∀ m ∈ headsV ps, m.size ≤ 1000000 := by
  intro m hm
  have hb : ps.length * (300 + 2) ≤ 45 * 302 := Nat.mul_le_mul hl (by decide)
  unfold headsV at hm
  obtain ⟨x, hx, rfl⟩ := List.mem_map.1 hm
  have := words_len ps nHead 300 hM x hx
  rw [sz_len]
  show (lower x).length ≤ _
  rw [lower_length]
  omega
theorem pairs_size {r : Req} {ps : List (ByteArray × ByteArray)} (hl : ps.length ≤ 45) (hM : ∀ p ∈ ps, p.2.size ≤ 300) (hr : r.method.size ≤ 1000) : ∀ p ∈ pairsV r ps, p.1.size ≤ 1000000 ∧ p.2.size ≤ 1000000 := by
  intro p hp
  have hp := onceB_mem hp
  have e0 : (⟨#[]⟩ : ByteArray).size ≤ 1000000 := by decide
  unfold pairsB at hp
  rcases List.mem_append.1 hp with hp | hp
  · obtain ⟨m, hm, rfl⟩ := List.mem_map.1 hp
    exact ⟨meths_size hl hM hr m hm, e0⟩
  · obtain ⟨m, hm, rfl⟩ := List.mem_map.1 hp
    exact ⟨e0, heads_size hl hM m hm⟩
set_option maxRecDepth 100000 in
set_option maxHeartbeats 4000000 in
theorem refGrant (W : World) (r : Req) (a : Option Addr) (cap : Nat) (ps : List (ByteArray × ByteArray)) (now : Int) (hX : MaxL W) (hp : Pow W) (hO : r.Ok W) (hP : ParAt W a ps) (hz : ParSz ps) (hl : ps.length ≤ 45) (hM : ∀ p ∈ ps, p.2.size ≤ 300)
    (hrl : r.heads.length ≤ 1000) (hrz : ∀ p ∈ r.heads, p.1.size ≤ 1000 ∧ p.2.size ≤ 1000) (hh : r.orig.host.size ≤ 1000) (hrm : r.method.size ≤ 1000) (hn0 : 0 ≤ now) (hn1 : now ≤ 1099511627776) :
    Calls Tryz.prog 6 #[.agg r.arr, .slice a ps.length cap, .int .i64 now] W (GrantPostR W r (now + ageV ps) (grantV r ps now)) := by
  have cf1 := fun w' (hb : Below W.heap.size W w') => refFieldGet a cap ps nMeth 300 w' (hP.later hb) hz (by omega) (by decide) hM (by omega) (by decide)
  have cf2 := fun w' (hb : Below W.heap.size W w') => refFieldGet a cap ps nHead 300 w' (hP.later hb) hz (by omega) (by decide) hM (by omega) (by decide)
  have hfs1 : (fieldOf ps nMeth).1.size ≤ 1000000 := Nat.le_trans (fieldOf_size ps nMeth 300 hM) (by omega)
  have hfs2 : (fieldOf ps nHead).1.size ≤ 1000000 := Nat.le_trans (fieldOf_size ps nHead 300 hM) (by omega)
  have cl1 := fun w' (hb : Below W.heap.size W w') => refList (fieldOf ps nMeth).1 w' (hX.later hb) hfs1
  have cl2 := fun w' (hb : Below W.heap.size W w') => refList (fieldOf ps nHead).1 w' (hX.later hb) hfs2
  have cmay := fun w' (hb : Below W.heap.size W w') => refMay r a cap ps 300 w' (hO.later hb) (hp.later hb) (hP.later hb) hz (by omega) hM (by omega) (by decide) (by omega)
  have cmeth := fun w' => refMethod r.method w' (reach_max hO.method)
  have cage : ∀ w', Below W.heap.size W w' → Calls Tryz.prog 28 #[.slice a ps.length cap] w' fun e w'' => e = .returned (.int .i64 (ageV ps)) ∧ Below w'.heap.size w' w'' := fun w' (hb : Below W.heap.size W w') => refAge a cap ps 300 w' (hP.later hb) hz (by omega) hM (by omega) (by decide)
  have hage := Lib.hid (ageV_in ps)
  have ccov := fun w' (hb : Below W.heap.size W w') a' cap' hPl hll => refCovers r a' cap' ((pairsV r ps).map (mkP r (now + ageV ps))) w' (hX.later hb) (hO.later hb) hPl (mkP_ok hO (by have := (ageV_in ps).1; omega) (by have := (ageV_in ps).2; omega) (pairs_size hl hM hrm)) hrl hrz hll
  have hbx := Lib.hid (GrBox.new W r a ps.length cap now)
  have hgv := Lib.hid (grantV_eq r ps now)
  generalize grantV r ps now = gv at hgv ⊢
  have hwl := Lib.hid (words_len ps nHead 300 hM)
  have hmz := Lib.hid (meths_size (r := r) hl hM hrm)
  have hhz := Lib.hid (heads_size hl hM)
  have hpok := Lib.hid (pairs_ok r ps)
  have hbd1 := Lib.hid (show wordsBad ps nMeth = !((listRes (fieldOf ps nMeth).1.data.toList).2.1 == 0) from rfl)
  have hbd2 := Lib.hid (show wordsBad ps nHead = !((listRes (fieldOf ps nHead).1.data.toList).2.1 == 0) from rfl)
  have hw1 := Lib.hid (show wordsL ps nMeth = (listRes (fieldOf ps nMeth).1.data.toList).1 from rfl)
  have hw2 := Lib.hid (show wordsL ps nHead = (listRes (fieldOf ps nHead).1.data.toList).1 from rfl)
  clear hX hp hO hP hz hM hrl hrz hh hfs1 hfs2
  generalize (fieldOf ps nMeth).2 = ok1 at cf1
  generalize (fieldOf ps nHead).2 = ok2 at cf2
  generalize (fieldOf ps nMeth).1 = f1 at cf1 cl1 hbd1 hw1
  generalize (fieldOf ps nHead).1 = f2 at cf2 cl2 hbd2 hw2
  go_enter Tryz.func6, Tryz.ntmps6
  go_wp2_with fail
  refine (cf1 _ hbx.out.low).mono ?_
  rintro e w1 ⟨rfl, hB1⟩
  have hX1 := Lib.hid (hbx.out.later hB1)
  have c1 : _ = some (Value.slice a ps.length cap) := hX1.out.lb.cell 0 rfl
  clear cf1 hB1 hbx
  go_wp2_with fail
  refine (cf2 _ hX1.out.low).mono ?_
  rintro e w2 ⟨rfl, hB2⟩
  have hX2 := Lib.hid (hX1.out.later hB2)
  have hup2 : W.heap.size + 2 < w2.heap.size := hX2.out.up
  clear cf2 hB2 c1 hX1
  go_wp2_with fail
  refine (cl1 _ hX2.out.low).mono ?_
  rintro e w3 ⟨v1, ss1, rfl, hO1, hd1, hB3⟩
  have hX3 := Lib.hid (hX2.out.later hB3)
  generalize (listRes f1.data.toList).1 = l1 at hw1 hd1
  generalize (listRes f1.data.toList).2.1 = n1 at hbd1 ⊢
  generalize (listRes f1.data.toList).2.2 = m1
  have hsz3 := hB3.size
  have hF3 := Lib.hid (Blk.new w3 #[.int .i64 n1, .int .i64 m1] 66)
  have hb3 : Below w3.heap.size w3 (w3.alloc (.cells #[.int .i64 n1, .int .i64 m1] 66)) := (Below.refl _ _).alloc (Nat.le_refl _) _
  have hX4 := Lib.hid (hX3.out.later hb3)
  have hO14 := Lib.hid (hO1.later hb3)
  have hlt1 := Lib.hid (fun a n cap (e : v1 = .slice a n cap) => own_lt (e ▸ hO1))
  clear cl1 hB3 hX3 hX2
  go_wp2_with fail
  refine (cl2 _ hX4.out.low).mono ?_
  rintro e w5 ⟨v2, ss2, rfl, hO2, hd2, hB5⟩
  have hX5 := Lib.hid (hX4.out.later hB5)
  have hF5 := Lib.hid (hF3.out.later hB5)
  have hO15 := Lib.hid (hO14.out.later hB5)
  generalize (listRes f2.data.toList).1 = l2 at hw2 hd2
  generalize (listRes f2.data.toList).2.1 = n2 at hbd2 ⊢
  generalize (listRes f2.data.toList).2.2 = m2
  have hsz5 := hB5.size
  rw [World.size_alloc] at hsz5
  have hF6 := Lib.hid (Blk.new w5 #[.int .i64 n2, .int .i64 m2] 66)
  have hb5 : Below w5.heap.size w5 (w5.alloc (.cells #[.int .i64 n2, .int .i64 m2] 66)) := (Below.refl _ _).alloc (Nat.le_refl _) _
  have hX6 := Lib.hid (hX5.out.later hb5)
  have hF36 := Lib.hid (hF5.out.later hb5)
  have hO16 := Lib.hid (hO15.out.later hb5)
  have hO26 := Lib.hid (hO2.later hb5)
  have g30 : _ = some (Value.int .i64 n1) := hF36.out.cell 0 rfl
  have g31 : _ = some (Value.int .i64 m1) := hF36.out.cell 1 rfl
  have hi1 := fun w => isFltG n1 m1 w
  clear cl2 hB5 hX5 hX4 hF5 hF3 hO14 hO15 hO1 hO2 hb3 hb5
  go_wp2_with fail
  refine (hi1 _).mono ?_
  rintro e w7 ⟨rfl, hB7⟩
  have hX7 := Lib.hid (hX6.out.later hB7)
  have hO17 := Lib.hid (hO16.out.later hB7)
  have hO27 := Lib.hid (hO26.out.later hB7)
  have hF7 := Lib.hid (hF6.out.later hB7)
  have hsz7 := hB7.size
  rw [World.size_alloc] at hsz7
  clear hi1 g30 g31 hO16 hO26 hX6 hF36 hF6 hB7
  by_cases hn1' : n1 = 0
  rotate_left
  · have hb1 : wordsBad ps nMeth = true := by rw [hbd1.out]; simp [hn1']
    have hfin := Lib.hid (show gv = ([], 3) from hgv.out.trans (if_pos (by simp [hb1])))
    have e1 : (n1 == 0) = false := by simp [hn1']
    rw [e1]
    clear hb1 hgv hn1' hbd1
    go_wp2
    go_returns
    rw [hfin.out]
    exact grantR_no hX7.out.low
  subst hn1'
  have hb1 := Lib.hid (show wordsBad ps nMeth = false from hbd1.out)
  have hi2 := fun w => isFltG n2 m2 w
  have g40 : _ = some (Value.int .i64 n2) := hF7.out.cell 0 rfl
  have g41 : _ = some (Value.int .i64 m2) := hF7.out.cell 1 rfl
  have e0 : ((0 : Int) == 0) = true := rfl
  rw [e0]
  clear e0 hbd1
  go_wp2_with fail
  refine (hi2 _).mono ?_
  rintro e w9 ⟨rfl, hB9⟩
  have hX9 := Lib.hid (hX7.out.later hB9)
  have hO19 := Lib.hid (hO17.out.later hB9)
  have hO29 := Lib.hid (hO27.out.later hB9)
  have hsz9 := hB9.size
  clear hi2 g40 g41 hX7 hO17 hO27 hF7 hB9
  by_cases hn2' : n2 = 0
  rotate_left
  · have hb2 : wordsBad ps nHead = true := by rw [hbd2.out]; simp [hn2']
    have hfin := Lib.hid (show gv = ([], 3) from hgv.out.trans (if_pos (by simp [hb2])))
    have e1 : (n2 == 0) = false := by simp [hn2']
    rw [e1]
    clear hb2 hgv hn2' hbd2
    go_wp2
    go_returns
    rw [hfin.out]
    exact grantR_no hX9.out.low
  subst hn2'
  have hb2 := Lib.hid (show wordsBad ps nHead = false from hbd2.out)
  have hgv2 := Lib.hid (hgv.out.trans (if_neg (by simp [hb1.out, hb2.out])))
  have e0 : ((0 : Int) == 0) = true := rfl
  rw [e0]
  clear e0 hbd2 hgv hb1 hb2
  obtain ⟨a1, cap1, rfl, hS1, _, _, _⟩ := hO19.out.shape
  obtain ⟨a2, cap2, rfl, hS2, _, _, _⟩ := hO29.out.shape
  have hS1' := Lib.hid hS1
  have hS2' := Lib.hid hS2
  have hf1 := Lib.hid (own_lt hO19.out)
  have hf2 := Lib.hid (own_lt hO29.out)
  have hf1' := Lib.hid (hlt1.out _ _ _ rfl)
  have hm := Lib.hid (show methsV r ps = if ss1.isEmpty then [methodOf r.method] else ss1 by
    unfold methsV
    rw [hw1.out, ← hd1, mkT_datas]
    cases ss1 with
    | nil => rfl
    | cons x l => rfl)
  have hml := Lib.hid (meths_len r ps)
  have hh2 := Lib.hid (show headsV ps = ss2.map (fun s => lowT s.data.toList) by
    unfold headsV
    rw [hw2.out, ← hd2]
    unfold datas
    rw [List.map_map]; rfl)
  have hhl := Lib.hid (heads_len ps)
  have hsl := Lib.hid (show ∀ s ∈ ss2, s.size ≤ maxLen from fun s hs => by
    have h1 := hwl.out s.data.toList (by rw [hw2.out, ← hd2]; exact List.mem_map_of_mem hs)
    rw [← sz_len] at h1
    unfold maxLen
    have : ps.length * (300 + 2) ≤ 45 * 302 := Nat.mul_le_mul hl (by decide)
    omega)
  have hrX := hX9.out.rb
  have c2 : _ = some (Value.slice a ps.length cap) := hX9.out.lb.cell 0 rfl
  have hm0 := cmay _ hX9.out.low
  obtain ⟨mv, hmv⟩ : ∃ mv, mayV r ps = mv := ⟨_, rfl⟩
  rw [show mayB r.creds (fieldOf ps nOrigin).1 (fieldOf ps nOrigin).2 (fieldOf ps nCreds).1 ⟨(originL r.orig.sec r.orig.host r.orig.port).toArray⟩ = mv from hmv] at hm0
  rw [hmv] at hgv2
  clear cmay hmv hw1 hw2 hd1 hd2 hwl hS1 hS2 hlt1
  go_wp2_with (refine wpList_load_blk rfl tReq _ rfl _ rfl hrX _ Tryz.underlying28 rfl infoReqG ?_)
  refine hm0.mono ?_
  rintro e wA ⟨rfl, hBA⟩
  have hXA := Lib.hid (hX9.out.later hBA)
  have hS1A := Lib.hid (hS1'.out.later hBA)
  have hS2A := Lib.hid (hS2'.out.later hBA)
  have hO1A := Lib.hid (hO19.out.later hBA)
  have hszA := hBA.size
  clear hm0 hrX c2 hX9 hS1' hS2' hO19 hO29 hBA
  cases mv
  · have hfin := Lib.hid (show gv = ([], 6) by rw [hgv2.out]; rfl)
    clear hgv2
    go_wp2
    go_returns
    rw [hfin.out]
    exact grantR_no hXA.out.low
  have hgv3 := Lib.hid (hgv2.out.trans (by rfl))
  clear hgv2
  go_upto_if 57 with (fail)
  go_cut [12] (fun v wx => ∃ a8 cap8, v = .slice a8 (methsV r ps).length cap8 ∧ Hid (StrAt wx a8 (methsV r ps)) ∧ Hid (StrAt wx a2 ss2) ∧ Hid (GrBox W r a ps.length cap now wx))
  case first =>
    cases ss1 with
    | nil =>
      have hm1 := Lib.hid (show methsV r ps = [methodOf r.method] from hm.out)
      have c9 : _ = some (Value.string r.method) := hXA.out.rb.cell 9 rfl
      go_wp2_with fail
      refine (cmeth _).mono ?_
      rintro e w4 ⟨rfl, hB4⟩
      have hO4 := hO1A.out.later hB4
      have hs4 := hB4.size
      have hbs : w2.heap.size ≤ w4.heap.size := by omega
      have hXd := Lib.hid (hXA.out.later hB4)
      have hSd := Lib.hid (hS2A.out.later hB4)
      have hcl : ([] : List ByteArray).length + 1 ≤ 1099511627776 := by decide
      clear cmeth hB4
      go_wp2_with (at_builtin; refine wpList_append_str rfl _ _ rfl _ w2.heap.size _ [] rfl ?_ (methodOf r.method) _ rfl ?_ ?_ ?_ ?_; exact hO4; exact rfl; exact hcl; exact hbs; intro v7 w7 hO7 hG7)
      obtain ⟨a7, cap7, rfl, hS7, _, _, _⟩ := hO7.shape
      have hS7' := Lib.hid hS7
      have hOn : Only (fun i => (Value.slice a1 ([] : List ByteArray).length cap1).ownBlock = some i) w4 w7 := Only.append (Only.refl _ _) hG7 (fun i hi => .inl hi)
      have hbk : ∀ i, (Value.slice a1 ([] : List ByteArray).length cap1).ownBlock = some i → w2.heap.size ≤ i ∧ i < w3.heap.size := fun i hi => by
        cases a1 with
        | none => cases hi
        | some x => cases hi; exact hf1'.out x rfl
      have hXe := Lib.hid (hXd.out.only hOn (fun i hi => by have := (hbk i hi).1; omega))
      have hSe := Lib.hid (hSd.out.only hOn (fun x hx e => by have h1 := (hf2.out x hx).1; have h2 := (hbk _ e).2; rw [World.size_alloc] at h1; omega))
      clear hO7 hG7 hO4
      go_meet
      rw [hm1.out]
      exact ⟨_, _, rfl, hS7', hSe, hXe⟩
    | cons s0 ss =>
      have hm1 := Lib.hid (show methsV r ps = s0 :: ss from hm.out)
      have hne : ((((s0 :: ss).length : Nat) : Int) == 0) = false := beq_eq_false_iff_ne.2 (by simp; omega)
      go_wp2
      go_meet
      rw [hm1.out]
      exact ⟨_, _, rfl, hS1A, hS2A, hXA⟩
  case rest =>
    obtain ⟨a8, cap8, rfl, hS8, hSc, hXc⟩ := hcut
    clear hXA hS1A hS2A hO1A cmeth hm hf1 hf2 hf1'
    obtain ⟨ms, hms⟩ : ∃ ms, methsV r ps = ms := ⟨_, rfl⟩
    obtain ⟨hs, hhs⟩ : ∃ hs, headsV ps = hs := ⟨_, rfl⟩
    have hpv := Lib.hid (show pairsV r ps = onceB (pairsB ms hs) by unfold pairsV; rw [hms, hhs])
    rw [hms] at hS8 hml hmz hpok ⊢
    rw [hhs] at hh2 hhl hhz hpok
    have hss : ss2.length = hs.length := by rw [hh2.out, List.length_map]
    have hmm := @run_makeMap Tryz.prog
    obtain ⟨hg0, hg1⟩ := hage.out
    have hml' := hml.out
    have hhl' := hhl.out
    clear hms hhs hage
    generalize (ageV ps) = g at *
    have hG5 : Hid (GrR W r a ps.length cap now (now + g) W.heap.size (W.heap.size + 1) (W.heap.size + 1 + 1) wc.heap.size wc.heap.size (wc.heap.size + 1) (wc.heap.size + 1 + 1) (onceB (([] : List ByteArray).map (fun m => ((m, ⟨#[]⟩) : BP)))) (((wc.alloc (.cells #[.slice none 0 0] tPasses)).alloc (.map #[] 0)).alloc (.cells #[.map (some (wc.heap.size + 1))] tSB))) := Lib.hid (GrR.start hXc.out)
    have hOn5 : Hid (Only (GrS wc.heap.size wc.heap.size) wc (((wc.alloc (.cells #[.slice none 0 0] tPasses)).alloc (.map #[] 0)).alloc (.cells #[.map (some (wc.heap.size + 1))] tSB))) := Lib.hid ((((Only.refl _ _).alloc _).alloc _).alloc _)
    have hno : ∀ b, b < wc.heap.size → ¬ GrS wc.heap.size wc.heap.size b := fun b hb e => by rcases e with e | e <;> omega
    have hH5 := Lib.hid (fun w' ho => StrAt.grown (w' := w') hSc.out ho hno)
    have hS5 := Lib.hid (fun w' ho => StrAt.grown (w' := w') hS8.out ho hno)
    have hssH := Lib.hid hss
    clear hno hXc hSc hS8 hss
    go_upto_block 0 with (fail)
    clear hmm
    go_wp2
    go_loopw [68] (fun i wr => ∃ k : Nat, k ≤ ms.length ∧ i = .int .i64 k ∧ Hid (GrR W r a ps.length cap now (now + g) W.heap.size (W.heap.size + 1) (W.heap.size + 1 + 1) wc.heap.size wc.heap.size (wc.heap.size + 1) (wc.heap.size + 1 + 1) (onceB ((ms.take k).map (fun m => ((m, ⟨#[]⟩) : BP)))) wr) ∧ Hid (Only (GrS wc.heap.size wc.heap.size) wc wr)) (fun i _ => ms.length - (intOf i).toNat)
    case atStart => exact ⟨0, Nat.zero_le _, rfl, hG5, hOn5⟩
    case round =>
      obtain ⟨k, hk, rfl, hGr, hOr⟩ := hrel
      clear hG5 hOn5
      by_cases hlt : k < ms.length
      · obtain ⟨b, off, rfl, hc⟩ := (hS5.out wr hOr.out) k hlt
        have hga := refPut W r a cap ps now g _ _ _ _ _ _ _ _ ms[k] ⟨#[]⟩ wr hGr.out hn0 hn1 hg0 hg1 (Nat.le_trans (onceB_len _) (by rw [List.length_map, List.length_take]; omega)) (.inl rfl) (hmz.out _ (List.getElem_mem hlt)) (by decide) cage
        have hnx := Lib.hid (show onceB ((ms.take (k + 1)).map (fun m => ((m, ⟨#[]⟩) : BP))) = addB (onceB ((ms.take k).map (fun m => ((m, ⟨#[]⟩) : BP)))) (ms[k], ⟨#[]⟩) by rw [List.take_succ_eq_append_getElem hlt, List.map_append, List.map_singleton, onceB_snoc])
        generalize addB (onceB ((ms.take k).map (fun m => ((m, ⟨#[]⟩) : BP)))) (ms[k], ⟨#[]⟩) = acc' at hga hnx
        generalize ms[k] = m at hc hga
        go_wp2_with fail
        refine hga.mono ?_
        rintro e w9 ⟨rfl, hG9, hOn9⟩
        have hG9' := Lib.hid (show GrR W r a ps.length cap now (now + g) W.heap.size (W.heap.size + 1) (W.heap.size + 1 + 1) wc.heap.size wc.heap.size (wc.heap.size + 1) (wc.heap.size + 1 + 1) (onceB ((ms.take (k + 1)).map (fun m => ((m, ⟨#[]⟩) : BP)))) w9 by rw [hnx.out]; exact hG9)
        have hO9' := Lib.hid (hOr.out.trans hOn9)
        clear hga hG9 hOn9
        go_wp2
        go_roundw
        case rel => exact ⟨k + 1, by omega, by go_num, hG9', hO9'⟩
        case measure => simp [intOf]; omega
      · obtain rfl : ms.length = k := by omega
        have hG6 : Hid (GrR W r a ps.length cap now (now + g) W.heap.size (W.heap.size + 1) (W.heap.size + 1 + 1) wc.heap.size wc.heap.size (wc.heap.size + 1) (wc.heap.size + 1 + 1) (onceB (pairsB ms (hs.take 0))) wr) := Lib.hid (by
          have := hGr.out
          rw [List.take_length] at this
          unfold pairsB
          rw [List.take_zero, List.map_nil, List.append_nil]
          exact this)
        have hO6 := hOr
        clear hGr hOr hlt hk hS5
        go_upto_block 2 with (fail)
        obtain ⟨wz, rfl⟩ : ∃ x, x = wr := ⟨_, rfl⟩
        go_wp2
        go_loopw [78] (fun i wr => ∃ k : Nat, k ≤ ss2.length ∧ i = .int .i64 k ∧ Hid (GrR W r a ps.length cap now (now + g) W.heap.size (W.heap.size + 1) (W.heap.size + 1 + 1) wc.heap.size wc.heap.size (wc.heap.size + 1) (wc.heap.size + 1 + 1) (onceB (pairsB ms (hs.take k))) wr) ∧ Hid (Only (GrS wc.heap.size wc.heap.size) wc wr)) (fun i _ => ss2.length - (intOf i).toNat)
        case atStart => exact ⟨0, Nat.zero_le _, rfl, hG6, hO6⟩
        case round =>
          obtain ⟨k, hk, rfl, hGr, hOr⟩ := hrel
          have hss' := hssH.out
          clear hG6 hO6
          by_cases hlt : k < ss2.length
          · obtain ⟨b, off, rfl, hc⟩ := (hH5.out wr hOr.out) k hlt
            have hlt2 : k < hs.length := by omega
            have hlo := fun w' => refLower ss2[k] w' (hsl.out _ (List.getElem_mem hlt))
            have hlk : (⟨(lower ss2[k].data.toList).toArray⟩ : ByteArray) = hs[k] := by
              have : hs[k] = (ss2.map (fun s => lowT s.data.toList))[k]'(by simpa using hlt) := by simp only [hh2.out]
              rw [this, List.getElem_map]
              rfl
            rw [hlk] at hlo
            have hpk : PairOk (⟨#[]⟩, hs[k]) := hpok.out _ (by unfold pairsB; exact List.mem_append_right _ (List.mem_map_of_mem (List.getElem_mem hlt2)))
            have hsk := hhz.out _ (List.getElem_mem hlt2)
            have hga := fun w' (hb : Below wr.heap.size wr w') => refPut W r a cap ps now g _ _ _ _ _ _ _ _ ⟨#[]⟩ hs[k] w' (hGr.out.later hb) hn0 hn1 hg0 hg1 (Nat.le_trans (onceB_len _) (by rw [pairsB_len, List.length_take]; omega)) hpk (by decide) hsk cage
            have hnx := Lib.hid (show onceB (pairsB ms (hs.take (k + 1))) = addB (onceB (pairsB ms (hs.take k))) (⟨#[]⟩, hs[k]) by
              unfold pairsB
              rw [List.take_succ_eq_append_getElem hlt2, List.map_append, ← List.append_assoc, List.map_singleton, onceB_snoc])
            generalize addB (onceB (pairsB ms (hs.take k))) (⟨#[]⟩, hs[k]) = acc' at hga hnx
            generalize hs[k] = m at hga hlo
            generalize ss2[k] = s at hc hlo
            clear hss' hlk hpk hsk
            go_wp2_with fail
            refine (hlo _).mono ?_
            rintro e w8 ⟨rfl, hB8⟩
            have hga8 := hga w8 hB8
            have hOr8 := Lib.hid (hOr.out.then hB8)
            clear hga hlo hB8
            go_wp2_with fail
            refine hga8.mono ?_
            rintro e w9 ⟨rfl, hG9, hOn9⟩
            have hG9' := Lib.hid (show GrR W r a ps.length cap now (now + g) W.heap.size (W.heap.size + 1) (W.heap.size + 1 + 1) wc.heap.size wc.heap.size (wc.heap.size + 1) (wc.heap.size + 1 + 1) (onceB (pairsB ms (hs.take (k + 1)))) w9 by rw [hnx.out]; exact hG9)
            have hO9' := Lib.hid (hOr8.out.trans hOn9)
            clear hga8 hG9 hOn9
            go_wp2
            go_roundw
            case rel => exact ⟨k + 1, by omega, by go_num, hG9', hO9'⟩
            case measure => simp [intOf]; omega
          · obtain rfl : ss2.length = k := by omega
            have hGf := Lib.hid (show GrR W r a ps.length cap now (now + g) W.heap.size (W.heap.size + 1) (W.heap.size + 1 + 1) wc.heap.size wc.heap.size (wc.heap.size + 1) (wc.heap.size + 1 + 1) (pairsV r ps) wr by
              have := hGr.out
              rw [hss', List.take_length] at this
              rw [hpv.out]
              exact this)
            have hpl : (pairsV r ps).length ≤ 80 := by
              rw [hpv.out]
              exact Nat.le_trans (onceB_len _) (by rw [pairsB_len]; omega)
            clear hGr hOr hpv cage hH5 hlt hk hss'
            generalize pairsV r ps = acc at hGf hpl hgv3 ccov
            obtain ⟨v, hv, hO⟩ := hGf.out.base.pb
            obtain ⟨a9, cap9, rfl, hrow, _, _, _⟩ := OwnG.shape encPass_len hO
            have hcv := ccov wr hGf.out.base.low a9 cap9 hrow (by rw [List.length_map]; omega)
            have hrow' := Lib.hid hrow
            have hvH := Lib.hid hv
            rw [List.length_map] at hcv
            have hrX := hGf.out.base.rb
            have cp0 : _ = some (Value.slice a9 (acc.map (mkP r (now + g))).length cap9) := hv.cell 0 rfl
            rw [List.length_map] at cp0
            obtain ⟨cv, hcve⟩ : ∃ cv, covV r (acc.map (mkP r (now + g))) = cv := ⟨_, rfl⟩
            rw [hcve] at hcv hgv3
            have hgv4 := Lib.hid hgv3.out
            clear hcve hgv3 hrow hv hO ccov
            go_wp2_with (refine wpList_load_blk rfl tReq _ rfl _ rfl hrX _ Tryz.underlying28 rfl infoReqG ?_)
            refine hcv.mono ?_
            rintro e w9 ⟨rfl, hB9⟩
            have hlow := Lib.hid (hGf.out.base.low.then (Nat.le_refl _) hB9)
            have hrow9 := Lib.hid (hrow'.out.later hB9)
            have cp9 : _ = some (Value.slice a9 (acc.map (mkP r (now + g))).length cap9) := (hvH.out.later hB9).cell 0 rfl
            rw [List.length_map] at cp9
            clear hcv hB9 hrX cp0 hvH
            cases cv
            · have hfin := Lib.hid (show gv = ([], 6) by rw [hgv4.out]; rfl)
              clear hgv4
              go_wp2
              go_returns
              rw [hfin.out]
              exact grantR_no hlow.out
            · have hfin := Lib.hid (show gv = (acc, 0) by rw [hgv4.out]; rfl)
              clear hgv4
              go_wp2
              go_returns
              rw [hfin.out]
              exact ⟨⟨a9, cap9, rfl, hrow9.out⟩, hlow.out⟩
end Go.Proofs.YtnggicpmncokdaaGreatDoor
