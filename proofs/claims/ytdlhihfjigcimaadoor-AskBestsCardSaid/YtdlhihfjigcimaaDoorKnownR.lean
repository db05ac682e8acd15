/- The reference's Known: what a challenge asks for. -/
import Derived.Test.YtdlhihfjigcimaaDoorKnownK
import Derived.Test.YtdlhihfjigcimaaDoorListR
import Derived.Test.YtdlhihfjigcimaaDoorFound
import Derived.Deep.DeepCutAuto
import Derived.Deep.CutBlock
namespace Go.Proofs.YtdlhihfjigcimaaDoor
open Go.RowKit
theorem low_is (s N : ByteArray) (n : List UInt8) (h : lower N.data.toList = n) : ((⟨(lower s.data.toList).toArray⟩ : ByteArray).toList == n) = same s N := by
  rw [Lib.toList_data, mk_toList]; unfold same; rw [h]
/-- how a text compares with another -/
def Cmp (ls : ByteArray) (n : List UInt8) (b : Bool) : Prop := (ls.toList == n) = b ∧ (ls.toList != n) = !b
theorem cmp_low (s N : ByteArray) (n : List UInt8) (h : lower N.data.toList = n) : Cmp ⟨(lower s.data.toList).toArray⟩ n (same s N) :=
  ⟨low_is s N n h, by rw [bne, low_is s N n h]⟩
theorem notEmpty_of {x : ByteArray} (h : 0 < x.size) : x.toList.isEmpty = false := by
  rw [Lib.toList_data]
  cases hq : x.data.toList with
  | nil => rw [sz_len, hq] at h; exact absurd h (by decide)
  | cons a r => rfl
theorem isEmpty_of {x : ByteArray} (h : x.size = 0) : x.toList.isEmpty = true := by
  rw [Lib.toList_data, List.isEmpty_iff]
  exact List.length_eq_zero_iff.1 (by rw [← sz_len]; exact h)
theorem slash_nil (x : ByteArray) (h : x.size = 0) : slashB x = false := by
  unfold slashB
  rw [List.length_eq_zero_iff.1 (show x.data.toList.length = 0 by rw [← sz_len]; exact h)]; rfl
theorem slash_pos (x : ByteArray) (h : 0 < x.size) : ((x[0].toNat : Int) == 47) = slashB x := by
  unfold slashB
  have hl : 0 < x.data.toList.length := by rw [← sz_len]; exact h
  rw [List.head?_eq_getElem?, List.getElem?_eq_getElem hl, at_list x 0 h hl, Bool.eq_iff_iff]
  simp only [beq_iff_eq, Option.some.injEq]
  exact ⟨fun e => UInt8.toNat.inj (by have : (47 : UInt8).toNat = 47 := rfl; omega), fun e => by rw [e]; rfl⟩
def sufB (ls : ByteArray) : Bool := Lib.hasSuffix ls.data.toList [45, 115, 101, 115, 115]
/-- a scheme by its name in small letters -/
theorem algo_is (s : ByteArray) : algoOf s = if same s (⟨#[77, 68, 53]⟩ : ByteArray) then some (2, false) else if same s (⟨#[77, 68, 53, 45, 115, 101, 115, 115]⟩ : ByteArray) then some (2, true) else if same s (⟨#[83, 72, 65, 45, 50, 53, 54]⟩ : ByteArray) then some (3, false) else if same s (⟨#[83, 72, 65, 45, 50, 53, 54, 45, 115, 101, 115, 115]⟩ : ByteArray) then some (3, true) else none := by
  unfold algoOf algNames
  rw [algGo, algGo, algGo]
  rfl
theorem suf_of {s N : ByteArray} {b : Bool} (h : same s N = true) (hb : Lib.hasSuffix (lower N.data.toList) [45, 115, 101, 115, 115] = b) : sufB ⟨(lower s.data.toList).toArray⟩ = b := by
  unfold sufB; rw [mk_toList]
  unfold same at h
  rw [eq_of_beq h]; exact hb
/-- the reference's closure: a parameter's value -/
theorem refGet1 (n sc tk : ByteArray) (ad : Option Addr) (cap q : Nat) (ps : List (ByteArray × ByteArray)) (w : World) (hP : ParAt w ad ps) (hz : ParSz ps) (hl : ps.length ≤ maxLen) (hn : n.size ≤ maxLen)
    (h0 : w.cell? ⟨q, 0, none⟩ = some (.string sc)) (h1 : w.cell? ⟨q, 1, none⟩ = some (.string tk)) (h2 : w.cell? ⟨q, 2, none⟩ = some (.slice ad ps.length cap)) :
    Calls Tryd.prog 30 #[.string n, .pointer (some ⟨q, 0, none⟩)] w fun e w' => e = .returned (.string (getOf ps n).1) ∧ Below w.heap.size w w' := by
  have hg := refAskGet sc tk ad cap ps n w hP hz hl hn
  generalize getOf ps n = g at hg ⊢
  go_enter Tryd.func30, Tryd.ntmps30
  go_wp2_with fail
  refine hg.mono ?_
  rintro e w2 ⟨rfl, hB2⟩
  go_wp2
  go_ret
  exact ⟨rfl, hB2⟩
theorem isFault (n m : Int) (w : World) : Calls Tryd.prog 35 #[.agg #[.int .i64 n, .int .i64 m]] w fun e w' => e = .returned (.bool (n == 0)) ∧ Below w.heap.size w w' := by
  go_enter Tryd.func35, Tryd.ntmps35
  go_wp2
  go_ret
  exact ⟨rfl, (Below.refl _ _).alloc (Nat.le_refl _) _⟩
theorem fold_texts (ss : List ByteArray) (z : ByteArray) : ss.foldl (fun a s => refStep a s.data.toList) z = (datas ss).foldl refStep z := by
  unfold datas; rw [List.foldl_map]
theorem lower_sz (s : ByteArray) : (⟨(lower s.data.toList).toArray⟩ : ByteArray).size = s.size := by
  rw [sz_len, mk_toList, sz_len]; simp [lower]
set_option maxRecDepth 100000 in
set_option maxHeartbeats 4000000 in
set_option linter.unusedSimpArgs false in
theorem refKnown (sc tk : ByteArray) (ad : Option Addr) (cap : Nat) (ps : List (ByteArray × ByteArray)) (w : World) (hM : MaxL w) (hP : ParAt w ad ps) (hl : ps.length ≤ maxLen) (hsc : sc.size ≤ 100000) (h1 : ∀ p ∈ ps, p.1.size ≤ 100000) (h2 : ∀ p ∈ ps, p.2.size ≤ 100000) :
    Calls Tryd.prog 14 #[.agg #[.string sc, .string tk, .slice ad ps.length cap]] w (KnownPost w (knownV sc ps)) := by
  have hz : ParSz ps := fun p hp => ⟨Nat.le_trans (h1 p hp) (by decide), Nat.le_trans (h2 p hp) (by decide)⟩
  have G := fun (name : ByteArray) (a : ByteArray) (b : Bool) (h : getOf ps name = (a, b)) (hn : name.size ≤ maxLen) (w' : World) (hb : Below w.heap.size w w') => (show Calls Tryd.prog 31 #[.agg #[.string sc, .string tk, .slice ad ps.length cap], .string name] w' fun e w'' => e = .returned (.tuple #[.string a, .bool b]) ∧ Below w'.heap.size w' w'' by
    have := refAskGet sc tk ad cap ps name w' (hP.later hb) hz hl hn
    rw [h] at this; exact this)
  have H := fun (name : ByteArray) (a : ByteArray) (b : Bool) (h : getOf ps name = (a, b)) (hn : name.size ≤ maxLen) (w' : World) (hk : KnB w sc tk ad ps.length cap w') => (show Calls Tryd.prog 30 #[.string name, .pointer (some ⟨w.heap.size, 0, none⟩)] w' fun e w'' => e = .returned (.string a) ∧ Below w'.heap.size w' w'' by
    have := refGet1 name sc tk ad cap w.heap.size ps w' (hP.later hk.low) hz hl hn hk.ch.1 hk.ch.2.1 hk.ch.2.2
    rw [h] at this; exact this)
  have hgz := getOf_sz h2
  clear hz h1 h2 hP
  obtain ⟨realm, rb, hrl⟩ : ∃ a b, getOf ps (⟨#[114, 101, 97, 108, 109]⟩ : ByteArray) = (a, b) := ⟨_, _, rfl⟩
  obtain ⟨av, ab, hal⟩ : ∃ a b, getOf ps (⟨#[97, 108, 103, 111, 114, 105, 116, 104, 109]⟩ : ByteArray) = (a, b) := ⟨_, _, rfl⟩
  obtain ⟨nonce, nb, hno⟩ : ∃ a b, getOf ps (⟨#[110, 111, 110, 99, 101]⟩ : ByteArray) = (a, b) := ⟨_, _, rfl⟩
  obtain ⟨qv, qb, hqo⟩ : ∃ a b, getOf ps (⟨#[113, 111, 112]⟩ : ByteArray) = (a, b) := ⟨_, _, rfl⟩
  obtain ⟨opq, ob, hop⟩ : ∃ a b, getOf ps (⟨#[111, 112, 97, 113, 117, 101]⟩ : ByteArray) = (a, b) := ⟨_, _, rfl⟩
  obtain ⟨stv, sb, hst⟩ : ∃ a b, getOf ps (⟨#[115, 116, 97, 108, 101]⟩ : ByteArray) = (a, b) := ⟨_, _, rfl⟩
  obtain ⟨dom, db, hdo⟩ : ∃ a b, getOf ps (⟨#[100, 111, 109, 97, 105, 110]⟩ : ByteArray) = (a, b) := ⟨_, _, rfl⟩
  have gR := G _ _ _ hrl (by decide)
  have gA := G _ _ _ hal (by decide)
  have gN := G _ _ _ hno (by decide)
  have gQ := G _ _ _ hqo (by decide)
  have fR := H _ _ _ hrl (by decide)
  have fN := H _ _ _ hno (by decide)
  have fO := H _ _ _ hop (by decide)
  have fS := H _ _ _ hst (by decide)
  have fD := H _ _ _ hdo (by decide)
  have zA : av.size ≤ 100000 := by have := hgz (⟨#[97, 108, 103, 111, 114, 105, 116, 104, 109]⟩ : ByteArray); rw [hal] at this; exact this
  have zQ : qv.size ≤ 100000 := by have := hgz (⟨#[113, 111, 112]⟩ : ByteArray); rw [hqo] at this; exact this
  have zS : stv.size ≤ 100000 := by have := hgz (⟨#[115, 116, 97, 108, 101]⟩ : ByteArray); rw [hst] at this; exact this
  have zD : dom.size ≤ 100000 := by have := hgz (⟨#[100, 111, 109, 97, 105, 110]⟩ : ByteArray); rw [hdo] at this; exact this
  obtain ⟨nm, hnm⟩ : ∃ x, x = algName ps := ⟨_, rfl⟩
  have hnm1 : nm = if ab then av else (⟨#[77, 68, 53]⟩ : ByteArray) := by rw [hnm]; unfold algName; rw [hal]
  have zM : nm.size ≤ 100000 := by
    rw [hnm1]
    cases ab
    · exact (by decide : ((⟨#[77, 68, 53]⟩ : ByteArray)).size ≤ 100000)
    · exact zA
  have hV0 : Hid (rb = false → knownV sc ps = none) := Lib.hid (fun h => by unfold knownV; rw [hrl, if_pos h])
  have hV1 : Hid (rb = true → same sc (⟨#[98, 97, 115, 105, 99]⟩ : ByteArray) = true → knownV sc ps = some { askZero with scheme := 1, realm := realm }) := Lib.hid (fun h h' => by unfold knownV; rw [hrl, h, if_neg (by intro e; cases e), if_pos h'])
  have hV2 : Hid (rb = true → same sc (⟨#[98, 97, 115, 105, 99]⟩ : ByteArray) = false → knownV sc ps = knownD sc ps (algoOf nm) (qopRes ps)) := Lib.hid (fun h h' => by unfold knownV; rw [hrl, h, if_neg (by intro e; cases e), if_neg (by rw [h']; decide), hnm])
  have hD := Lib.hid (And.intro hrl (And.intro hno (And.intro hqo (And.intro hop (And.intro hst hdo)))))
  have hnm1' := Lib.hid hnm1
  clear hrl hal hno hqo hop hst hdo G H hgz hnm hnm1 hl
  have hLo := fun w' => refLower sc w' (Nat.le_trans hsc (by decide))
  have qB := cmp_low sc (⟨#[98, 97, 115, 105, 99]⟩ : ByteArray) [98, 97, 115, 105, 99] (by decide +kernel)
  have qD := cmp_low sc (⟨#[100, 105, 103, 101, 115, 116]⟩ : ByteArray) [100, 105, 103, 101, 115, 116] (by decide +kernel)
  generalize (⟨(lower sc.data.toList).toArray⟩ : ByteArray) = ls at hLo qB qD
  obtain ⟨qB1, qB2⟩ := qB
  obtain ⟨qD1, qD2⟩ := qD
  have eg : ∀ args w, (callFunc 30 args).run Tryd.prog w = .ok (.enter 30 args) w := fun _ _ => rfl
  go_enter Tryd.func14, Tryd.ntmps14
  go_wp2_with fail
  have hK0 := KnB.start w sc tk ad ps.length cap
  refine (gR _ hK0.low).mono ?_
  rintro e w1 ⟨rfl, hB1⟩
  have hK1 := Lib.hid (hK0.then hB1)
  clear hK0 hB1
  obtain ⟨c0, c1, c2⟩ := hK1.out.ch
  go_wp2_with fail
  refine (hLo _).mono ?_
  rintro e w2 ⟨rfl, hB2⟩
  have hK2 := Lib.hid (hK1.out.then hB2)
  clear hB2 hK1 c0 c1 c2 hLo
  cases rb
  · -- DONE{ r1
    have hv := Lib.hid (hV0.out rfl)
    have hR := hK2.out.res
    have hlow := hK2.out.low
    go_upto_region 5 with (fail)
    (repeat (first | (go_big_may; refine wpList_store_blk rfl tAsk _ _ rfl _ rfl hR zArr rfl rfl infoAsk (ask_one _ _ _ _ _ _ _ _ _ _) ?_; intro wz hz hg) | go_values | go_skip | go_guarded | go_step | go_upon))
    obtain ⟨d0, d1, d2, d3, d4, d5, d6, d7⟩ := blk_cells hz
    (try simp only [Exit.inBlock, Exit.then])
    refine bodyPost_ret (v := .tuple #[.agg zArr, .bool false]) (by simp [results, Tryd.results14, go_sem, d0, d1, d2, d3, d4, d5, d6, d7]; try rfl) rfl ?_
    exact KnownPost.no hv.out rfl (below_only hlow hg hlow.size (Nat.le_succ _))
    -- }DONE r1
  · cases hsb : same sc (⟨#[98, 97, 115, 105, 99]⟩ : ByteArray)
    · rw [hsb] at qB1 qB2
      have hv2 := Lib.hid (hV2.out (by first | exact trivial | rfl) hsb)
      clear hsb
      cases hsd : same sc (⟨#[100, 105, 103, 101, 115, 116]⟩ : ByteArray)
      · -- DONE{ r2
        rw [hsd] at qD1 qD2
        have hv := Lib.hid (show knownV sc ps = none by
          rw [hv2.out]; unfold knownD
          cases algoOf nm with
          | none => rfl
          | some x => obtain ⟨k, sess⟩ := x; simp only; rw [if_pos hsd])
        clear hsd
        have hR := hK2.out.res
        have hlow := hK2.out.low
        go_upto_region 5 with (fail)
        (repeat (first | (go_big_may; refine wpList_store_blk rfl tAsk _ _ rfl _ rfl hR zArr rfl rfl infoAsk (ask_one _ _ _ _ _ _ _ _ _ _) ?_; intro wz hz hg) | go_values | go_skip | go_guarded | go_step | go_upon))
        obtain ⟨d0, d1, d2, d3, d4, d5, d6, d7⟩ := blk_cells hz
        (try simp only [Exit.inBlock, Exit.then])
        refine bodyPost_ret (v := .tuple #[.agg zArr, .bool false]) (by simp [results, Tryd.results14, go_sem, d0, d1, d2, d3, d4, d5, d6, d7]; try rfl) rfl ?_
        exact KnownPost.no hv.out rfl (below_only hlow hg hlow.size (Nat.le_succ _))
        -- }DONE r2
      · rw [hsd] at qD1 qD2
        have hsd' := Lib.hid hsd
        clear hsd
        have hLs := fun w' => refLower stv w' (Nat.le_trans zS (by decide))
        have qT := cmp_low stv (⟨#[116, 114, 117, 101]⟩ : ByteArray) [116, 114, 117, 101] (by decide +kernel)
        have hzT := lower_sz stv
        generalize (⟨(lower stv.data.toList).toArray⟩ : ByteArray) = lt at hLs qT hzT
        obtain ⟨stb, hstb⟩ : ∃ b, b = same stv (⟨#[116, 114, 117, 101]⟩ : ByteArray) := ⟨_, rfl⟩
        rw [← hstb] at qT
        obtain ⟨qT1, _⟩ := qT
        have hstb' := Lib.hid hstb
        clear hstb
        go_upto_region 8 with (fail)
        go_cut [8] (fun s wx => ∃ p, s = .pointer (some ⟨p, 0, none⟩) ∧ w.heap.size + 2 ≤ p ∧ Hid (KS w sc tk ad ps.length cap p #[.int .i64 0, .string realm, .string nonce, .string opq, .bool false, .string ⟨#[]⟩, .bool stb, .slice none 0 0] wx))
        case first =>
          -- DONE{ w1
          go_wp2_with (go_at_fn 30; with_reducible refine (fR _ hK2.out).mono ?_; rintro e w3 ⟨rfl, hB3⟩)
          have hK3 := Lib.hid (hK2.out.then hB3)
          go_wp2_with (go_at_fn 30; with_reducible refine (fN _ hK3.out).mono ?_; rintro e w4 ⟨rfl, hB4⟩)
          have hK4 := Lib.hid (hK3.out.then hB4)
          go_wp2_with (go_at_fn 30; with_reducible refine (fO _ hK4.out).mono ?_; rintro e w5 ⟨rfl, hB5⟩)
          have hK5 := Lib.hid (hK4.out.then hB5)
          go_wp2_with (go_at_fn 30; with_reducible refine (fS _ hK5.out).mono ?_; rintro e w6 ⟨rfl, hB6⟩)
          have hK6 := Lib.hid (hK5.out.then hB6)
          go_wp2_with fail
          refine (hLs _).mono ?_
          rintro e w7 ⟨rfl, hB7⟩
          have hK7 := Lib.hid (hK6.out.then hB7)
          go_wp2
          go_meet
          exact ⟨w7.heap.size, rfl, hK7.out.size, Lib.hid ⟨Below.alloc hK7.out hK7.out.size _, Blk.new w7 _ _⟩⟩
          -- }DONE w1
        case rest =>
          obtain ⟨p, rfl, hp, hS⟩ := hcut
          clear hK2 hLs fR fN fO fS qT1 hzT
          obtain ⟨c0, c1, c2⟩ := hS.out.b.ch
          go_wp2_with fail
          refine (gA _ hS.out.b.low).mono ?_
          rintro e w8 ⟨rfl, hB8⟩
          have hS8 := Lib.hid (hS.out.then hB8)
          clear c0 c1 c2 hB8 hS
          obtain ⟨ln, hln⟩ : ∃ x : ByteArray, x = ⟨(lower nm.data.toList).toArray⟩ := ⟨_, rfl⟩
          have hlz : ln.size ≤ 100000 := by rw [hln, lower_sz]; exact zM
          have hLa : Hid (ab = true → ∀ w', Calls Tryd.prog 32 #[.string av] w' fun e w'' => e = .returned (.string ln) ∧ Below w'.heap.size w' w'') := Lib.hid (fun h w' => by
            have := refLower av w' (Nat.le_trans zA (by decide))
            rw [hln, hnm1'.out, h]; exact this)
          have hMd : Hid (ab = false → ln = (⟨#[109, 100, 53]⟩ : ByteArray)) := Lib.hid (fun h => by rw [hln, hnm1'.out, h]; exact (by decide +kernel : (⟨(lower ((⟨#[77, 68, 53]⟩ : ByteArray)).data.toList).toArray⟩ : ByteArray) = (⟨#[109, 100, 53]⟩ : ByteArray)))
          have hln' := Lib.hid hln
          clear hln
          go_upto_if 63 with (fail)
          go_cut [9] (fun s wx => s = .string ln ∧ Hid (KS w sc tk ad ps.length cap p #[.int .i64 0, .string realm, .string nonce, .string opq, .bool false, .string ⟨#[]⟩, .bool stb, .slice none 0 0] wx))
          case first =>
            -- DONE{ w2
            cases ab
            · have hm := hMd.out rfl
              go_wp2_with fail
              go_meet
              exact ⟨by rw [hm], hS8⟩
            · have hl := hLa.out rfl
              go_wp2_with fail
              refine (hl _).mono ?_
              rintro e w9 ⟨rfl, hB9⟩
              go_wp2
              go_meet
              exact ⟨rfl, Lib.hid (hS8.out.then hB9)⟩
            -- }DONE w2
          case rest =>
            obtain ⟨rfl, hS9⟩ := hcut
            clear hS8 hLa hMd
            go_upto_block 0 with (fail)
            go_cut [] (fun wx => ∃ (k : Int) (sess : Bool), algoOf nm = some (k, sess) ∧ sufB ln = sess ∧ Hid (KS w sc tk ad ps.length cap p #[.int .i64 k, .string realm, .string nonce, .string opq, .bool false, .string ⟨#[]⟩, .bool stb, .slice none 0 0] wx))
            case first =>
              -- DONE{ w3
              have ha := Lib.hid (algo_is nm)
              have p1 := cmp_low nm (⟨#[77, 68, 53]⟩ : ByteArray) [109, 100, 53] (by decide +kernel)
              have p2 := cmp_low nm (⟨#[77, 68, 53, 45, 115, 101, 115, 115]⟩ : ByteArray) [109, 100, 53, 45, 115, 101, 115, 115] (by decide +kernel)
              have p3 := cmp_low nm (⟨#[83, 72, 65, 45, 50, 53, 54]⟩ : ByteArray) [115, 104, 97, 45, 50, 53, 54] (by decide +kernel)
              have p4 := cmp_low nm (⟨#[83, 72, 65, 45, 50, 53, 54, 45, 115, 101, 115, 115]⟩ : ByteArray) [115, 104, 97, 45, 50, 53, 54, 45, 115, 101, 115, 115] (by decide +kernel)
              rw [← hln'.out] at p1 p2 p3 p4
              replace p1 := p1.1
              replace p2 := p2.1
              replace p3 := p3.1
              replace p4 := p4.1
              obtain ⟨q0, q1, q2, q3, q4, q5, q6, q7⟩ := blk_cells hS9.out.q
              obtain ⟨g0, g1, g2, g3, g4, g5, g6, g7⟩ := blk_free hS9.out.q
              cases t1 : same nm (⟨#[77, 68, 53]⟩ : ByteArray)
              · rw [t1] at p1
                cases t2 : same nm (⟨#[77, 68, 53, 45, 115, 101, 115, 115]⟩ : ByteArray)
                · rw [t2] at p2
                  cases t3 : same nm (⟨#[83, 72, 65, 45, 50, 53, 54]⟩ : ByteArray)
                  · rw [t3] at p3
                    cases t4 : same nm (⟨#[83, 72, 65, 45, 50, 53, 54, 45, 115, 101, 115, 115]⟩ : ByteArray)
                    · rw [t4] at p4
                      have hv := Lib.hid (show knownV sc ps = none by rw [hv2.out, ha.out, t1, t2, t3, t4]; rfl)
                      clear t1 t2 t3 t4
                      have hR := hS9.out.b.res
                      have hlow := hS9.out.b.low
                      go_upto_region 14 with (fail)
                      (repeat (first | (go_big_may; refine wpList_store_blk rfl tAsk _ _ rfl _ rfl hR zArr rfl rfl infoAsk (ask_one _ _ _ _ _ _ _ _ _ _) ?_; intro wz hz hg) | go_values | go_skip | go_guarded | go_step | go_upon))
                      obtain ⟨d0, d1, d2, d3, d4, d5, d6, d7⟩ := blk_cells hz
                      (try simp only [Exit.inBlock, Exit.then])
                      refine bodyPost_ret (v := .tuple #[.agg zArr, .bool false]) (by simp [results, Tryd.results14, go_sem, d0, d1, d2, d3, d4, d5, d6, d7]; try rfl) rfl ?_
                      exact KnownPost.no hv.out rfl (below_only hlow hg hlow.size (Nat.le_succ _))
                    · rw [t4] at p4
                      have ha' := Lib.hid (show algoOf nm = some (3, true) by rw [ha.out, t1, t2, t3, t4]; rfl)
                      have hs' := Lib.hid (show sufB ln = true by rw [hln'.out]; exact suf_of t4 (by decide +kernel))
                      clear t1 t2 t3 t4
                      go_wp2
                      go_meet
                      exact ⟨3, true, ha'.out, hs'.out, Lib.hid (by simpa using hS9.out.put hp 0 (.int .i64 3))⟩
                  · rw [t3] at p3
                    have ha' := Lib.hid (show algoOf nm = some (3, false) by rw [ha.out, t1, t2, t3]; rfl)
                    have hs' := Lib.hid (show sufB ln = false by rw [hln'.out]; exact suf_of t3 (by decide +kernel))
                    clear t1 t2 t3
                    go_wp2
                    go_meet
                    exact ⟨3, false, ha'.out, hs'.out, Lib.hid (by simpa using hS9.out.put hp 0 (.int .i64 3))⟩
                · rw [t2] at p2
                  have ha' := Lib.hid (show algoOf nm = some (2, true) by rw [ha.out, t1, t2]; rfl)
                  have hs' := Lib.hid (show sufB ln = true by rw [hln'.out]; exact suf_of t2 (by decide +kernel))
                  clear t1 t2
                  go_wp2
                  go_meet
                  exact ⟨2, true, ha'.out, hs'.out, Lib.hid (by simpa using hS9.out.put hp 0 (.int .i64 2))⟩
              · rw [t1] at p1
                have ha' := Lib.hid (show algoOf nm = some (2, false) by rw [ha.out, t1]; rfl)
                have hs' := Lib.hid (show sufB ln = false by rw [hln'.out]; exact suf_of t1 (by decide +kernel))
                clear t1
                go_wp2
                go_meet
                exact ⟨2, false, ha'.out, hs'.out, Lib.hid (by simpa using hS9.out.put hp 0 (.int .i64 2))⟩
              -- }DONE w3
            case rest =>
              obtain ⟨k, sess, hAl, hsu, hS10⟩ := hcut
              have hv3 := Lib.hid (show knownV sc ps = knownD sc ps (some (k, sess)) (qopRes ps) by rw [hv2.out, hAl])
              have hhs := fun w' => Tryd.strings_HasSuffix ln (⟨#[45, 115, 101, 115, 115]⟩ : ByteArray) w' (by omega)
              rw [show Lib.hasSuffix ln.data.toList ((⟨#[45, 115, 101, 115, 115]⟩ : ByteArray)).data.toList = sess from hsu] at hhs
              clear hAl hsu hS9 hv2
              obtain ⟨c0, c1, c2⟩ := hS10.out.b.ch
              obtain ⟨q0, q1, q2, q3, q4, q5, q6, q7⟩ := blk_cells hS10.out.q
              obtain ⟨g0, g1, g2, g3, g4, g5, g6, g7⟩ := blk_free hS10.out.q
              have hS11 := Lib.hid (hS10.out.put hp 4 (.bool sess))
              go_wp2_with fail
              refine (hhs _).mono ?_
              rintro e w11 ⟨rfl, hw11⟩
              rw [hw11]
              clear hw11
              go_wp2_with fail
              refine (gN _ hS11.out.b.low).mono ?_
              rintro e w12 ⟨rfl, hB12⟩
              have hS12 : Hid (KS w sc tk ad ps.length cap p #[.int .i64 k, .string realm, .string nonce, .string opq, .bool sess, .string ⟨#[]⟩, .bool stb, .slice none 0 0] w12) := Lib.hid (by simpa using hS11.out.then hB12)
              clear c0 c1 c2 q0 q1 q2 q3 q4 q5 q6 q7 g0 g1 g2 g3 g4 g5 g6 g7 hB12 hS10 hS11 hhs
              cases nb
              · -- DONE{ r4
                have hv := Lib.hid (show knownV sc ps = none by rw [hv3.out]; unfold knownD; simp only; rw [hsd'.out, if_neg (by decide), hD.out.2.1, if_pos rfl])
                have hR := hS12.out.b.res
                have hlow := hS12.out.b.low
                go_upto_region 24 with (fail)
                (repeat (first | (go_big_may; refine wpList_store_blk rfl tAsk _ _ rfl _ rfl hR zArr rfl rfl infoAsk (ask_one _ _ _ _ _ _ _ _ _ _) ?_; intro wz hz hg) | go_values | go_skip | go_guarded | go_step | go_upon))
                obtain ⟨d0, d1, d2, d3, d4, d5, d6, d7⟩ := blk_cells hz
                (try simp only [Exit.inBlock, Exit.then])
                refine bodyPost_ret (v := .tuple #[.agg zArr, .bool false]) (by simp [results, Tryd.results14, go_sem, d0, d1, d2, d3, d4, d5, d6, d7]; try rfl) rfl ?_
                exact KnownPost.no hv.out rfl (below_only hlow hg hlow.size (Nat.le_succ _))
                -- }DONE r4
              · have hv4 := Lib.hid (show knownV sc ps = match qopRes ps with
                    | none => none
                    | some q => some ⟨k, realm, nonce, opq, sess, q, stb, domOf dom⟩ by
                  rw [hv3.out]; unfold knownD; simp only
                  rw [hsd'.out, if_neg (by decide), hD.out.2.1, if_neg (by intro e; cases e), hD.out.1, hD.out.2.2.2.1, hD.out.2.2.2.2.1, hD.out.2.2.2.2.2, hstb'.out]
                  rfl)
                clear hv3
                obtain ⟨c0, c1, c2⟩ := hS12.out.b.ch
                go_wp2_with fail
                refine (gQ _ hS12.out.b.low).mono ?_
                rintro e w13 ⟨rfl, hB13⟩
                have hS13 := Lib.hid (hS12.out.then hB13)
                clear c0 c1 c2 hB13 hS12
                have hp13 := hS13.out.q.lt
                go_upto_if 92 with (fail)
                go_cut [] (fun wx => ∃ q, qopRes ps = some q ∧ Hid (KS w sc tk ad ps.length cap p #[.int .i64 k, .string realm, .string nonce, .string opq, .bool sess, .string q, .bool stb, .slice none 0 0] wx))
                case first =>
                  -- DONE{ c1
                  cases qb
                  · go_wp2_with fail
                    go_meet
                    exact ⟨⟨#[]⟩, by unfold qopRes; rw [hD.out.2.2.1]; try rfl, hS13⟩
                  · have hq3 := Lib.hid (show qopRes ps = if (listRes qv.data.toList).2.1 ≠ 0 then none else if (qopOf (listRes qv.data.toList).1).toList.isEmpty then none else some (qopOf (listRes qv.data.toList).1) by
                      unfold qopRes; rw [hD.out.2.2.1, if_pos rfl]
                      first | done | (generalize listRes qv.data.toList = t; obtain ⟨x, y, z⟩ := t; rfl))
                    have hfew := listRes_few qv.data.toList
                    have hlsz := listRes_sz qv
                    have hM13 := hM.later hS13.out.b.low
                    go_wp2_with fail
                    refine (refList qv _ hM13 (by omega)).mono ?_
                    rintro e w14 ⟨v, ss, rfl, hO, hd, hB14⟩
                    have hS14 := Lib.hid (hS13.out.then hB14)
                    clear hS13 hB14 hM13
                    rw [← hd] at hfew hlsz hq3
                    generalize (listRes qv.data.toList).2.1 = n at hq3 ⊢
                    generalize (listRes qv.data.toList).2.2 = m
                    have hlen : ss.length ≤ 40 := by simpa [datas] using hfew
                    have hsz := Lib.hid (datas_sz hlsz)
                    obtain ⟨a9, c9, rfl, hSt9, hc9, hm9, _⟩ := hO.shape
                    have hO' := Lib.hid hO
                    clear hd hfew hlsz hSt9 hO
                    go_wp2
                    have hal := (Below.refl w14.heap.size w14).alloc (Nat.le_refl _) (.cells #[.int .i64 n, .int .i64 m] 83)
                    have hS15 := Lib.hid (hS14.out.then hal)
                    have hO15 := Lib.hid (hO'.out.later hal)
                    have hN15 : Hid (Blk (w14.alloc (.cells #[.int .i64 n, .int .i64 m] 83)) w14.heap.size #[.int .i64 n, .int .i64 m] 83) := Lib.hid (Blk.new w14 _ _)
                    have hpN : p < w14.heap.size := hS14.out.q.lt
                    clear hS14 hO' hal
                    generalize w14.alloc (.cells #[.int .i64 n, .int .i64 m] 83) = wL at hS15 hO15 hN15 ⊢
                    generalize w14.heap.size = N at hN15 hpN ⊢
                    go_loopw [19, 100] (fun _ i wr => ∃ k2 : Nat, k2 ≤ ss.length ∧ i = .int .i64 k2 ∧ Hid (KS w sc tk ad ps.length cap p #[.int .i64 k, .string realm, .string nonce, .string opq, .bool sess, .string ((ss.take k2).foldl (fun a s => refStep a s.data.toList) ⟨#[]⟩), .bool stb, .slice none 0 0] wr) ∧ Hid (Blk wr N #[.int .i64 n, .int .i64 m] 83) ∧ Hid (OwnStr wr w13.heap.size (.slice a9 ss.length c9) ss)) (fun _ i _ => ss.length - (intOf i).toNat)
                    case atStart => exact ⟨0, Nat.zero_le _, rfl, hS15, hN15, hO15⟩
                    case round =>
                      obtain ⟨k2, hk2, rfl, hSr, hNr, hOr⟩ := hrel
                      clear hS15 hN15 hO15
                      by_cases hlt : k2 < ss.length
                      · obtain ⟨a', c', e', hStr, _, _, _⟩ := hOr.out.shape
                        cases e'
                        obtain ⟨b, off, rfl, hc⟩ := hStr k2 hlt
                        have hxs := hsz.out _ (List.getElem_mem hlt)
                        have hst := Lib.hid (fold_take (f := fun a s => refStep a s.data.toList) ss k2 hlt ⟨#[]⟩)
                        generalize ss[k2] = x at hc hxs hst
                        generalize (ss.take k2).foldl (fun a s => refStep a s.data.toList) ⟨#[]⟩ = acc at hSr hst
                        clear hStr
                        have hLw := fun w' => refLower x w' (by unfold maxLen; omega)
                        have e1 : ((⟨(lower x.data.toList).toArray⟩ : ByteArray).toList == [97, 117, 116, 104]) = (lower x.data.toList == [97, 117, 116, 104]) := by rw [Lib.toList_data, mk_toList]
                        have e2 : ((⟨(lower x.data.toList).toArray⟩ : ByteArray).toList == [97, 117, 116, 104, 45, 105, 110, 116]) = (lower x.data.toList == [97, 117, 116, 104, 45, 105, 110, 116]) := by rw [Lib.toList_data, mk_toList]
                        have hstep := Lib.hid (show refStep acc x.data.toList = if lower x.data.toList == [97, 117, 116, 104] then (⟨#[97, 117, 116, 104]⟩ : ByteArray) else if lower x.data.toList == [97, 117, 116, 104, 45, 105, 110, 116] then (if acc.toList.isEmpty then (⟨#[97, 117, 116, 104, 45, 105, 110, 116]⟩ : ByteArray) else acc) else acc from rfl)
                        generalize (⟨(lower x.data.toList).toArray⟩ : ByteArray) = lx at hLw e1 e2
                        generalize (lower x.data.toList == [97, 117, 116, 104]) = b1 at e1 hstep
                        generalize (lower x.data.toList == [97, 117, 116, 104, 45, 105, 110, 116]) = b2 at e2 hstep
                        cases b1
                        · cases b2
                          · -- DONE{ l1
                            have hnx := Lib.hid (show (ss.take (k2 + 1)).foldl (fun a s => refStep a s.data.toList) ⟨#[]⟩ = acc by rw [hst.out]; exact hstep.out)
                            clear hstep hst
                            go_wp2_with fail
                            refine (hLw _).mono ?_
                            rintro e wz ⟨rfl, hBz⟩
                            have hz1 := Lib.hid (hSr.out.then hBz)
                            have hz2 := Lib.hid (hNr.out.later hBz)
                            have hz3 := Lib.hid (hOr.out.later hBz)
                            obtain ⟨q0, q1, q2, q3, q4, q5, q6, q7⟩ := blk_cells hz1.out.q
                            obtain ⟨g0, g1, g2, g3, g4, g5, g6, g7⟩ := blk_free hz1.out.q
                            clear hBz hc hLw
                            go_wp2
                            go_roundw
                            case rel => exact ⟨k2 + 1, by omega, by go_num, by rw [hnx.out]; exact hz1, hz2, hz3⟩
                            case measure => simp [intOf]; omega
                            -- }DONE l1
                          · cases he : acc.toList.isEmpty
                            · -- DONE{ l2
                              rw [he] at hstep; have hnx := Lib.hid (show (ss.take (k2 + 1)).foldl (fun a s => refStep a s.data.toList) ⟨#[]⟩ = acc by rw [hst.out]; exact hstep.out)
                              clear hstep hst
                              go_wp2_with fail
                              refine (hLw _).mono ?_
                              rintro e wz ⟨rfl, hBz⟩
                              have hz1 := Lib.hid (hSr.out.then hBz)
                              have hz2 := Lib.hid (hNr.out.later hBz)
                              have hz3 := Lib.hid (hOr.out.later hBz)
                              obtain ⟨q0, q1, q2, q3, q4, q5, q6, q7⟩ := blk_cells hz1.out.q
                              obtain ⟨g0, g1, g2, g3, g4, g5, g6, g7⟩ := blk_free hz1.out.q
                              clear hBz hc hLw
                              go_wp2
                              go_roundw
                              case rel => exact ⟨k2 + 1, by omega, by go_num, by rw [hnx.out]; exact hz1, hz2, hz3⟩
                              case measure => simp [intOf]; omega
                              -- }DONE l2
                            · -- DONE{ l3
                              rw [he] at hstep; have hnx := Lib.hid (show (ss.take (k2 + 1)).foldl (fun a s => refStep a s.data.toList) ⟨#[]⟩ = (⟨#[97, 117, 116, 104, 45, 105, 110, 116]⟩ : ByteArray) by rw [hst.out]; exact hstep.out)
                              clear hstep hst
                              go_wp2_with fail
                              refine (hLw _).mono ?_
                              rintro e wz ⟨rfl, hBz⟩
                              have hz1 := Lib.hid (hSr.out.then hBz)
                              have hz2 := Lib.hid (hNr.out.later hBz)
                              have hz3 := Lib.hid (hOr.out.later hBz)
                              obtain ⟨q0, q1, q2, q3, q4, q5, q6, q7⟩ := blk_cells hz1.out.q
                              obtain ⟨g0, g1, g2, g3, g4, g5, g6, g7⟩ := blk_free hz1.out.q
                              clear hBz hc hLw
                              go_wp2
                              go_roundw
                              case rel => exact ⟨k2 + 1, by omega, by go_num, by rw [hnx.out]; exact Lib.hid (by simpa using hz1.out.put hp 5 (.string (⟨#[97, 117, 116, 104, 45, 105, 110, 116]⟩ : ByteArray))), Lib.hid (hz2.out.far _ _ (by show p ≠ N; omega)), Lib.hid (OwnStr.put hz3.out hp13 5 _)⟩
                              case measure => simp [intOf]; omega
                              -- }DONE l3
                        · -- DONE{ l4
                          have hnx := Lib.hid (show (ss.take (k2 + 1)).foldl (fun a s => refStep a s.data.toList) ⟨#[]⟩ = (⟨#[97, 117, 116, 104]⟩ : ByteArray) by rw [hst.out]; exact hstep.out)
                          clear hstep hst
                          go_wp2_with fail
                          refine (hLw _).mono ?_
                          rintro e wz ⟨rfl, hBz⟩
                          have hz1 := Lib.hid (hSr.out.then hBz)
                          have hz2 := Lib.hid (hNr.out.later hBz)
                          have hz3 := Lib.hid (hOr.out.later hBz)
                          obtain ⟨q0, q1, q2, q3, q4, q5, q6, q7⟩ := blk_cells hz1.out.q
                          obtain ⟨g0, g1, g2, g3, g4, g5, g6, g7⟩ := blk_free hz1.out.q
                          clear hBz hc hLw
                          go_wp2
                          go_roundw
                          case rel => exact ⟨k2 + 1, by omega, by go_num, by rw [hnx.out]; exact Lib.hid (by simpa using hz1.out.put hp 5 (.string (⟨#[97, 117, 116, 104]⟩ : ByteArray))), Lib.hid (hz2.out.far _ _ (by show p ≠ N; omega)), Lib.hid (OwnStr.put hz3.out hp13 5 _)⟩
                          case measure => simp [intOf]; omega
                          -- }DONE l4
                      · -- DONE{ c1e
                        obtain rfl : ss.length = k2 := by omega
                        rw [List.take_length, fold_texts, ref_qop] at hSr
                        generalize qopOf (datas ss) = qq at hSr hq3
                        obtain ⟨n0, n1⟩ := (⟨hNr.out.cell 0 rfl, hNr.out.cell 1 rfl⟩ : wr.cell? ⟨N, 0, none⟩ = some (.int .i64 n) ∧ wr.cell? ⟨N, 1, none⟩ = some (.int .i64 m))
                        have hIs := fun w' => isFault n m w'
                        by_cases h0 : n = 0
                        · rw [show (n == 0) = true by simp [h0]] at hIs
                          have hq4 := Lib.hid (show qopRes ps = if qq.toList.isEmpty then none else some qq by rw [hq3.out, if_neg (by simp [h0])])
                          clear hq3 h0
                          go_wp2_with fail
                          refine (hIs _).mono ?_
                          rintro e wq ⟨rfl, hBq⟩
                          have hSq := Lib.hid (hSr.out.then hBq)
                          obtain ⟨q0, q1, q2, q3, q4, q5, q6, q7⟩ := blk_cells hSq.out.q
                          clear n0 n1 hBq hSr hNr hOr hIs
                          cases he : qq.toList.isEmpty
                          · have hq5 := Lib.hid (show qopRes ps = some qq by rw [hq4.out, he]; rfl)
                            go_wp2
                            go_meet
                            exact ⟨qq, hq5.out, hSq⟩
                          · have hv := Lib.hid (show knownV sc ps = none by rw [hv4.out, hq4.out, he]; rfl)
                            have hR := hSq.out.b.res
                            have hlow := hSq.out.b.low
                            go_upto_region 39 with (fail)
                            (repeat (first | (go_big_may; refine wpList_store_blk rfl tAsk _ _ rfl _ rfl hR zArr rfl rfl infoAsk (ask_one _ _ _ _ _ _ _ _ _ _) ?_; intro wz hz hg) | go_values | go_skip | go_guarded | go_step | go_upon))
                            obtain ⟨d0, d1, d2, d3, d4, d5, d6, d7⟩ := blk_cells hz
                            (try simp only [Exit.inBlock, Exit.then])
                            refine bodyPost_ret (v := .tuple #[.agg zArr, .bool false]) (by simp [results, Tryd.results14, go_sem, d0, d1, d2, d3, d4, d5, d6, d7]; try rfl) rfl ?_
                            exact KnownPost.no hv.out rfl (below_only hlow hg hlow.size (Nat.le_succ _))
                        · rw [show (n == 0) = false by simp [h0]] at hIs
                          have hv := Lib.hid (show knownV sc ps = none by rw [hv4.out, hq3.out, if_pos h0])
                          clear hq3 h0
                          go_wp2_with fail
                          refine (hIs _).mono ?_
                          rintro e wq ⟨rfl, hBq⟩
                          have hSq := Lib.hid (hSr.out.then hBq)
                          clear n0 n1 hBq hSr hNr hOr hIs
                          have hR := hSq.out.b.res
                          have hlow := hSq.out.b.low
                          go_upto_region 39 with (fail)
                          (repeat (first | (go_big_may; refine wpList_store_blk rfl tAsk _ _ rfl _ rfl hR zArr rfl rfl infoAsk (ask_one _ _ _ _ _ _ _ _ _ _) ?_; intro wz hz hg) | go_values | go_skip | go_guarded | go_step | go_upon))
                          obtain ⟨d0, d1, d2, d3, d4, d5, d6, d7⟩ := blk_cells hz
                          (try simp only [Exit.inBlock, Exit.then])
                          refine bodyPost_ret (v := .tuple #[.agg zArr, .bool false]) (by simp [results, Tryd.results14, go_sem, d0, d1, d2, d3, d4, d5, d6, d7]; try rfl) rfl ?_
                          exact KnownPost.no hv.out rfl (below_only hlow hg hlow.size (Nat.le_succ _))
                        -- }DONE c1e
                  -- }DONE c1
                case rest =>
                  -- DONE{ c2
                  obtain ⟨q, hq, hS20⟩ := hcut
                  have hv5 := Lib.hid (show knownV sc ps = some ⟨k, realm, nonce, opq, sess, q, stb, domOf dom⟩ by rw [hv4.out, hq])
                  clear hq hv4 hS13
                  go_wp2_with (go_at_fn 30; with_reducible refine (fD _ hS20.out.b).mono ?_; rintro e w15 ⟨rfl, hB15⟩)
                  have hS15 := Lib.hid (hS20.out.then hB15)
                  clear hB15 hS20 fD
                  have hM15 := hM.later hS15.out.b.low
                  go_wp2_with fail
                  refine (stringsSplit 32 dom w15 hM15 (by omega)).mono ?_
                  rintro e w16 ⟨rfl, hw16⟩
                  have hbel16 : Below w15.heap.size w15 w16 := by rw [← hw16]; exact (Below.refl _ _).alloc (Nat.le_refl _) _
                  have hN16 : Hid (Blk w16 w15.heap.size ((pieces 32 dom).map Value.string).toArray 9) := Lib.hid (by rw [← hw16]; exact Blk.new _ _ _)
                  have hz16 : w15.heap.size < w16.heap.size := by rw [← hw16]; simp
                  have hS16 := Lib.hid (hS15.out.then hbel16)
                  have hp15 := hS15.out.q.lt
                  have hM16 := Lib.hid (hM15.later hbel16)
                  have hps := pieces_le 32 dom
                  have hO16 : Hid (OwnStr w16 w16.heap.size (.slice none 0 0) (domTo dom 0)) := Lib.hid (OwnStr.nil _ _)
                  clear hw16 hbel16 hS15 hM15
                  generalize w15.heap.size = N at hN16 hz16 hp15 ⊢
                  go_wp2
                  go_loopw [21, 129] (fun _ i wr => ∃ (k3 : Nat) (v : Value), k3 ≤ (pieces 32 dom).length ∧ i = .int .i64 k3 ∧ Hid (KS w sc tk ad ps.length cap p #[.int .i64 k, .string realm, .string nonce, .string opq, .bool sess, .string q, .bool stb, v] wr) ∧ Hid (Blk wr N ((pieces 32 dom).map Value.string).toArray 9) ∧ Hid (OwnStr wr w16.heap.size v (domTo dom k3)) ∧ w16.heap.size ≤ wr.heap.size) (fun _ i _ => (pieces 32 dom).length - (intOf i).toNat)
                  case atStart => exact ⟨0, _, Nat.zero_le _, rfl, hS16, hN16, hO16, Nat.le_refl _⟩
                  case round =>
                    obtain ⟨k3, v, hk3, rfl, hSr, hNr, hOr, hzr⟩ := hrel
                    clear hS16 hN16 hO16 hM16
                    have hMr := Lib.hid (hM.later hSr.out.b.low)
                    by_cases hlt : k3 < (pieces 32 dom).length
                    · have cN := hNr.out.cell k3 (map_at (pieces 32 dom) k3 hlt)
                      have hxz := pieces_sz 32 dom _ (List.getElem_mem hlt)
                      have hno := Lib.hid (domTo_no dom k3 hlt)
                      have hye := Lib.hid (domTo_yes dom k3 hlt)
                      generalize (pieces 32 dom)[k3] = x at cN hxz hno hye
                      by_cases hx0 : 0 < x.size
                      · have hem : x.toList.isEmpty = false := notEmpty_of hx0
                        have hsl0 := slash_pos x hx0
                        cases hsl : slashB x
                        · -- DONE{ s1
                          rw [hsl] at hsl0
                          have hno' := Lib.hid (hno.out hsl)
                          clear hsl
                          go_wp2
                          go_roundw
                          case rel => exact ⟨k3 + 1, v, by omega, by go_num, hSr, hNr, by rw [hno'.out]; exact hOr, hzr⟩
                          case measure => simp [intOf]; omega
                          -- }DONE s1
                        · -- DONE{ s2
                          rw [hsl] at hsl0
                          have hye' := Lib.hid (hye.out hsl)
                          clear hsl
                          have hlen := domTo_len dom k3
                          obtain ⟨a3, cap3, rfl, hst3, hc3, hm3, _⟩ := hOr.out.shape
                          have hblk3 : ∀ g, (Value.slice a3 (domTo dom k3).length cap3).ownBlock = some g → p < g := fun g hg => by
                            have := (hOr.out.lt g hg).1
                            omega
                          have hblkN : ∀ g, (Value.slice a3 (domTo dom k3).length cap3).ownBlock = some g → N < g := fun g hg => by
                            have := (hOr.out.lt g hg).1
                            omega
                          have hS7 : At7 p (.slice a3 (domTo dom k3).length cap3) wr := ⟨hSr.out.q.cell 7 rfl, hSr.out.q.free 7⟩
                          have hS7' := Lib.hid hS7
                          have hcl := fun w' hM' => refClean x w' hM' (by omega)
                          have hX : ∀ W', Below wr.drew.heap.size wr.drew W' → (KS w sc tk ad ps.length cap p #[.int .i64 k, .string realm, .string nonce, .string opq, .bool sess, .string q, .bool stb, .slice a3 (domTo dom k3).length cap3] W' ∧ Blk W' N ((pieces 32 dom).map Value.string).toArray 9) ∧ OwnStr W' w16.heap.size (.slice a3 (domTo dom k3).length cap3) (domTo dom k3) ∧ w16.heap.size ≤ W'.heap.size ∧ At7 p (.slice a3 (domTo dom k3).length cap3) W' := fun W' h => by
                            have h' := (Below.refl wr.heap.size wr).drew.then (Nat.le_refl _) h
                            exact ⟨⟨hSr.out.then h', hNr.out.later h'⟩, hOr.out.later h', Nat.le_trans hzr h'.size, hS7'.out.below h'⟩
                          have hpN : p ≠ N := by omega
                          have hlc : (domTo dom k3).length + 1 ≤ 1099511627776 := by omega
                          obtain ⟨q7, g7⟩ := hS7
                          clear hst3
                          go_wp2_with fail
                          go_region_law ((first
                            | (refine step_append_str (by rfl) _ _ (by rfl) w17 w16.heap.size _ (domTo dom k3) (by rfl) ho17 (cleanB x) _ (by rfl) (by rfl) hlc hz17 ?_; intro v18 w18 hO18 hG18; obtain ⟨a18, c18, hv18, _⟩ := hO18.shape; generalize (domTo dom k3 ++ [cleanB x]).length = n18 at hv18; subst hv18; have hk18 := hk17.append hG18 hp hblk3; have hn18 := (hn17.alloc _).grown hG18 (fun e => absurd (hblkN N e) (Nat.lt_irrefl _)); have hq18 := hk18.q.cell 7 rfl; have hg18 := hk18.q.free 7; have hz18 : w16.heap.size ≤ w18.heap.size := Nat.le_trans hz17 (Nat.le_trans (by simp) hG18.size))
                            | (go_simp; go_at_call 37; refine (hcl _ (hMr.out.later (Below.refl _ _).drew)).mono ?_; rintro e w17 ⟨rfl, hB17⟩; obtain ⟨⟨hk17, hn17⟩, ho17, hz17, hq17, hg17⟩ := hX w17 hB17; have hp17 := hk17.q.lt)))
                          all_goals
                            go_wp2
                            go_roundw
                            case rel => exact ⟨k3 + 1, .slice a18 n18 c18, by omega, by go_num, Lib.hid (by simpa using hk18.put hp 7 (.slice a18 n18 c18)), Lib.hid (hn18.far _ _ hpN), Lib.hid (by rw [hye'.out]; exact OwnStr.put hO18 (by omega) 7 _), by simpa [World.setCell] using hz18⟩
                            case measure => simp [intOf]; omega
                          -- }DONE s2
                      · -- DONE{ s3
                        have hem : x.toList.isEmpty = true := isEmpty_of (by omega)
                        have hno' := Lib.hid (hno.out (slash_nil x (by omega)))
                        go_wp2
                        go_roundw
                        case rel => exact ⟨k3 + 1, v, by omega, by go_num, hSr, hNr, by rw [hno'.out]; exact hOr, hzr⟩
                        case measure => simp [intOf]; omega
                        -- }DONE s3
                    · -- DONE{ c2e
                      obtain rfl : (pieces 32 dom).length = k3 := by omega
                      rw [domTo_all] at hOr
                      obtain ⟨a3, cap3, rfl, hst3, hc3, hm3, _⟩ := hOr.out.shape
                      clear hst3
                      have hR := hSr.out.b.res
                      have hQ := hSr.out.q
                      have hlow := hSr.out.b.low
                      go_upto_region 46 with (fail)
                      (repeat (first | (go_big_may; refine wpList_load_blk rfl tAsk _ rfl _ rfl hQ _ Tryd.underlying26 rfl infoAsk ?_) | (go_big_may; refine wpList_store_blk rfl tAsk _ _ rfl _ rfl hR #[.int .i64 k, .string realm, .string nonce, .string opq, .bool sess, .string q, .bool stb, .slice a3 (domOf dom).length cap3] rfl rfl infoAsk (ask_one _ _ _ _ _ _ _ _ _ _) ?_; intro wz hz hg) | go_values | go_skip | go_guarded | go_step | go_upon))
                      obtain ⟨d0, d1, d2, d3, d4, d5, d6, d7⟩ := blk_cells hz
                      (try simp only [Exit.inBlock, Exit.then])
                      refine bodyPost_ret (v := .tuple #[.agg #[.int .i64 k, .string realm, .string nonce, .string opq, .bool sess, .string q, .bool stb, .slice a3 (domOf dom).length cap3], .bool true]) (by simp [results, Tryd.results14, go_sem, d0, d1, d2, d3, d4, d5, d6, d7]; try rfl) rfl ?_
                      exact ⟨⟨⟨k, realm, nonce, opq, sess, q, stb, domOf dom⟩, a3, cap3⟩, by rw [hv5.out]; rfl, by rw [hv5.out]; rfl, (OwnStr.turned hOr.out hg (by omega)).mono (by omega), hc3, hm3, below_only hlow hg hlow.size (Nat.le_succ _)⟩
                      -- }DONE c2e
                  -- }DONE c2
    · -- DONE{ bas
      rw [hsb] at qB1 qB2
      have hv := Lib.hid (hV1.out (by first | exact trivial | rfl) hsb)
      clear hsb
      go_upto_region 7 with (fail)
      (repeat (first | (go_at_fn 30; with_reducible refine (fR _ hK2.out).mono ?_; rintro e w3 ⟨rfl, hB3⟩; have hK3 := Lib.hid (hK2.out.then hB3); have hR := hK3.out.res; have hlow := hK3.out.low) | (go_big_may; refine wpList_store_blk rfl tAsk _ _ rfl _ rfl hR #[.int .i64 1, .string realm, .string ⟨#[]⟩, .string ⟨#[]⟩, .bool false, .string ⟨#[]⟩, .bool false, .slice none 0 0] rfl rfl infoAsk (ask_one _ _ _ _ _ _ _ _ _ _) ?_; intro wz hz hg) | go_values | go_skip | go_guarded | go_step | go_upon | (simp only []; go_at_K)))
      obtain ⟨d0, d1, d2, d3, d4, d5, d6, d7⟩ := blk_cells hz
      (try simp only [Exit.inBlock, Exit.then])
      refine bodyPost_ret (v := .tuple #[.agg #[.int .i64 1, .string realm, .string ⟨#[]⟩, .string ⟨#[]⟩, .bool false, .string ⟨#[]⟩, .bool false, .slice none 0 0], .bool true]) (by simp [results, Tryd.results14, go_sem, d0, d1, d2, d3, d4, d5, d6, d7]; try rfl) rfl ?_
      exact ⟨⟨{ askZero with scheme := 1, realm := realm }, none, 0⟩, by rw [hv.out]; rfl, by rw [hv.out]; rfl, OwnStr.nil _ _, Nat.le_refl _, Nat.zero_le _, below_only hlow hg hlow.size (Nat.le_succ _)⟩
      -- }DONE bas
end Go.Proofs.YtdlhihfjigcimaaDoor
