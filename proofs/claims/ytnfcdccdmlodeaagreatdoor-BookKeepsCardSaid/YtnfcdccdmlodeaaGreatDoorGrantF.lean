/- cors.Grant: what an answer allows a request. -/
import Derived.Test.YtnfcdccdmlodeaaGreatDoorGrantV
import Derived.Test.YtnfcdccdmlodeaaGreatDoorAsksS
namespace Go.Proofs.YtnfcdccdmlodeaaGreatDoor
open Go.RowKit Go.Deep
theorem infoReqG : (Tryz.prog.info? 34).map (·.size) = some 13 := by kernel_rfl
/-- the three boxes -/
structure GrBox (W : World) (r : Req) (a : Option Addr) (n cap : Nat) (now : Int) (w : World) : Prop where
  low : Below W.heap.size W w
  rb : Blk w W.heap.size r.arr tReq
  lb : Blk w (W.heap.size + 1) #[.slice a n cap] tParams
  tb : Blk w (W.heap.size + 2) #[.int .i64 now] 3
theorem GrBox.later {W : World} {r : Req} {a : Option Addr} {n cap : Nat} {now : Int} {w w' : World} (h : GrBox W r a n cap now w) (hb : Below w.heap.size w w') : GrBox W r a n cap now w' :=
  ⟨h.low.then (Nat.le_refl _) hb, h.rb.later hb, h.lb.later hb, h.tb.later hb⟩
theorem GrBox.new (W : World) (r : Req) (a : Option Addr) (n cap : Nat) (now : Int) : GrBox W r a n cap now (((W.alloc (.cells r.arr tReq)).alloc (.cells #[.slice a n cap] tParams)).alloc (.cells #[.int .i64 now] 3)) := by
  refine ⟨(((Below.refl _ _).alloc (Nat.le_refl _) _).alloc (by simp) _).alloc (by simp; omega) _, ((Blk.new W _ _).alloc _).alloc _, ?_, ?_⟩
  · have := Blk.new (W.alloc (.cells r.arr tReq)) #[.slice a n cap] tParams
    rw [World.size_alloc] at this
    exact this.alloc _
  · have := Blk.new ((W.alloc (.cells r.arr tReq)).alloc (.cells #[.slice a n cap] tParams)) #[.int .i64 now] 3
    rw [World.size_alloc, World.size_alloc] at this
    exact this
theorem GrBox.only {W : World} {r : Req} {a : Option Addr} {n cap : Nat} {now : Int} {w w' : World} {S : Nat → Prop} (h : GrBox W r a n cap now w) (ho : Only S w w') (hS : ∀ i, S i → W.heap.size + 2 < i) : GrBox W r a n cap now w' :=
  ⟨ho.below h.low h.low.size (fun i hi => by have := hS i hi; omega), ho.blk h.rb (fun e => by have := hS _ e; omega), ho.blk h.lb (fun e => by have := hS _ e; omega), ho.blk h.tb (fun e => by have := hS _ e; omega)⟩
theorem GrBox.up {W : World} {r : Req} {a : Option Addr} {n cap : Nat} {now : Int} {w : World} (h : GrBox W r a n cap now w) : W.heap.size + 2 < w.heap.size := h.tb.lt
theorem words_G {w : World} {ps : List (ByteArray × ByteArray)} {n n' : ByteArray} (h : fieldOf ps n = fieldOf ps n') : WordsPost w ps n = WordsPost w ps n' := by
  unfold WordsPost wordsBad wordsL
  rw [h]
theorem grantV_eq (r : Req) (ps : List (ByteArray × ByteArray)) (now : Int) : grantV r ps now = if wordsBad ps nMeth || wordsBad ps nHead then ([], 3)
  else if mayV r ps = false then ([], 6)
  else if covV r ((pairsV r ps).map (mkP r (now + ageV ps))) = false then ([], 6)
  else (pairsV r ps, 0) := rfl
theorem own_lt {w : World} {base n cap : Nat} {a : Option Addr} {ss : List ByteArray} (h : OwnStr w base (.slice a n cap) ss) : ∀ x, a = some x → base ≤ x.block ∧ x.block < w.heap.size := by
  rintro x rfl
  rcases own_shape h with ⟨e, _⟩ | ⟨g, c0, cur, e, h1, h2, _⟩
  · cases e
  · cases e
    exact ⟨h1, (Array.getElem?_eq_some_iff.1 h2).1⟩
theorem StrAt.only {w w' : World} {a : Option Addr} {ss : List ByteArray} {S : Nat → Prop} (h : StrAt w a ss) (ho : Only S w w') (hS : ∀ x, a = some x → ¬ S x.block) : StrAt w' a ss := by
  intro i hi
  obtain ⟨b, off, e, hc⟩ := h i hi
  exact ⟨b, off, e, ho.cell hc (fun h => hS _ e h)⟩
theorem StrAt.grown {w w' : World} {a : Option Addr} {ss : List ByteArray} {S : Nat → Prop} (h : StrAt w a ss) (ho : Only S w w') (hS : ∀ b, b < w.heap.size → ¬ S b) : StrAt w' a ss := by
  intro i hi
  obtain ⟨b, off, e, hc⟩ := h i hi
  exact ⟨b, off, e, ho.cell hc (fun h => hS b (World.block_lt_of_cell? w _ hc) h)⟩
/-- the list begins as one of nothing, in a row of its own -/
theorem GrB.start {W : World} {r : Req} {a : Option Addr} {n cap : Nat} {now u : Int} {w : World} (h : GrBox W r a n cap now w) :
    GrB W r a n cap now u W.heap.size (W.heap.size + 1) (W.heap.size + 1 + 1) (w.heap.size + 1) w.heap.size [] ((w.alloc (.cells #[] tPass)).alloc (.cells #[.slice (some ⟨w.heap.size, 0, none⟩) 0 0] tPasses)) := by
  have hu := h.up
  have hb : Below w.heap.size w ((w.alloc (.cells #[] tPass)).alloc (.cells #[.slice (some ⟨w.heap.size, 0, none⟩) 0 0] tPasses)) := ((Below.refl _ _).alloc (Nat.le_refl _) _).alloc (by simp) _
  have h2 := h.later hb
  have hp := Blk.new (w.alloc (.cells #[] tPass)) #[.slice (some ⟨w.heap.size, 0, none⟩) 0 0] tPasses
  rw [World.size_alloc] at hp
  refine ⟨h2.low, h2.rb, h2.lb, h2.tb, ⟨_, hp, ?_⟩, Nat.le_refl _, by omega, by omega, by omega, by omega, by omega, by omega, by omega, by omega, by omega, by simp only [World.size_alloc]; omega⟩
  have hr := (Blk.new w #[] tPass).alloc (.cells #[.slice (some ⟨w.heap.size, 0, none⟩) 0 0] tPasses)
  exact ⟨by first | omega | (simp only [World.size_alloc]; omega) | (simp; done), .inr ⟨w.heap.size, 0, #[], rfl, Nat.le_refl _, hr, Nat.le_refl _, Nat.zero_le _, rfl, rfl⟩⟩
/-- what a grant tells -/
def GrantPost (W : World) (r : Req) (u : Int) (gv : List BP × Int) (e : Ending) (w' : World) : Prop :=
  (∃ a1 cap1 x, e = .returned (.tuple #[.slice a1 gv.1.length cap1, x]) ∧ PassAt w' a1 (gv.1.map (mkP r u)) ∧ ErrIs w' x gv.2 (-1)) ∧ Below W.heap.size W w'
theorem grantPost_no {W : World} {r : Req} {u : Int} {k : Int} {w' : World} (h : Below W.heap.size W w') : GrantPost W r u ([], k) (.returned (.tuple #[.slice none 0 0, .iface 130 (.int .i64 k)])) w' :=
  ⟨⟨none, 0, _, rfl, fun i hi => absurd hi (by simp), ErrIs.num _ _⟩, h⟩
set_option maxRecDepth 100000 in
set_option maxHeartbeats 4000000 in
theorem corsGrant (W : World) (r : Req) (a : Option Addr) (cap : Nat) (ps : List (ByteArray × ByteArray)) (now : Int) (hX : MaxL W) (hp : Pow W) (hO : r.Ok W) (hP : ParAt W a ps) (hz : ParSz ps) (hl : ps.length ≤ 45) (hM : ∀ p ∈ ps, p.2.size ≤ 300)
    (hrl : r.heads.length ≤ 1000) (hrz : ∀ p ∈ r.heads, p.1.size ≤ 1000 ∧ p.2.size ≤ 1000) (hh : r.orig.host.size ≤ 1000) (hn0 : 0 ≤ now) (hn1 : now ≤ 1099511627776) :
    Calls Tryz.prog 110 #[.agg r.arr, .slice a ps.length cap, .int .i64 now] W (GrantPost W r (now + ageV ps) (grantV r ps now)) := by
  have cw1 := fun w' (hb : Below W.heap.size W w') => corsWords a cap ps nMethG 300 w' (hP.later hb) hz (by omega) (by decide) hM (by omega)
  have cw2 := fun w' (hb : Below W.heap.size W w') => corsWords a cap ps nHeadG 300 w' (hP.later hb) hz (by omega) (by decide) hM (by omega)
  have cmay := fun w' (hb : Below W.heap.size W w') => corsMay r a cap ps 300 w' (hO.later hb) (hp.later hb) (hP.later hb) hz (by omega) hM (by omega) (by omega)
  have cmeth := fun w' => fetchMethod r.method w' (reach_max hO.method)
  have cage := fun w' (hb : Below W.heap.size W w') => corsAge a cap ps 300 w' (hP.later hb) hz (by omega) hM (by omega)
  have ccov := fun w' (hb : Below W.heap.size W w') a' cap' l hPl hll => corsCovers r a' cap' l w' (hX.later hb) (hO.later hb) hPl hrl hrz hll
  have hage := Lib.hid (ageV_in ps)
  have hbx := Lib.hid (GrBox.new W r a ps.length cap now)
  have hgv := Lib.hid (grantV_eq r ps now)
  generalize grantV r ps now = gv at hgv ⊢
  have hwl := Lib.hid (words_len ps nHead 300 hM)
  have hpar : ∀ w', WordsPost w' ps nMethG = WordsPost w' ps nMeth := fun w' => words_G (meth_field ps)
  have hpar2 : ∀ w', WordsPost w' ps nHeadG = WordsPost w' ps nHead := fun w' => words_G (head_field ps)
  simp only [hpar] at cw1
  simp only [hpar2] at cw2
  clear hpar hpar2 hX hp hO hP hz hM hrl hrz hh
  go_enter Tryz.func110, Tryz.ntmps110
  go_wp2_with fail
  refine (cw1 _ hbx.out.low).mono ?_
  rintro e w1 ⟨⟨v1, x1, ss1, rfl, hO1, hx1⟩, hB1⟩
  have hX1 := Lib.hid (hbx.out.later hB1)
  have c1 : _ = some (Value.slice a ps.length cap) := hX1.out.lb.cell 0 rfl
  have hup1 : W.heap.size + 2 < w1.heap.size := hX1.out.up
  clear cw1
  go_wp2_with fail
  refine (cw2 _ hX1.out.low).mono ?_
  rintro e w2 ⟨⟨v2, x2, ss2, rfl, hO2, hx2⟩, hB2⟩
  have hX2 := Lib.hid (hX1.out.later hB2)
  have hO1' := Lib.hid (hO1.later hB2)
  have hO2' := Lib.hid hO2
  obtain ⟨a1, cap1, rfl, hS1, _, _, _⟩ := hO1'.out.shape
  obtain ⟨a2, cap2, rfl, hS2, _, _, _⟩ := hO2'.out.shape
  have hlt1 := Lib.hid (own_lt hO1)
  have hlt2 := Lib.hid (own_lt hO2)
  have hS1' := Lib.hid hS1
  clear cw2 c1 hO1 hO2 hS1 hS2 hB1 hB2 hbx
  rcases hx1 with ⟨hb1, rfl⟩ | ⟨hb1, rfl, hd1⟩
  · have hfin := Lib.hid (show gv = ([], 3) from hgv.out.trans (if_pos (by simp [hb1])))
    clear hb1 hgv hx2
    go_wp2
    go_returns
    rw [hfin.out]
    exact grantPost_no hX2.out.low
  rcases hx2 with ⟨hb2, rfl⟩ | ⟨hb2, rfl, hd2⟩
  · have hfin := Lib.hid (show gv = ([], 3) from hgv.out.trans (if_pos (by simp [hb1, hb2])))
    clear hb1 hb2 hgv hd1
    go_wp2
    go_returns
    rw [hfin.out]
    exact grantPost_no hX2.out.low
  have hgv2 := Lib.hid (hgv.out.trans (if_neg (by simp [hb1, hb2])))
  have hm := Lib.hid (show methsV r ps = if ss1.isEmpty then [methodOf r.method] else ss1 by
    unfold methsV
    rw [← hd1, mkT_datas]
    cases ss1 with
    | nil => rfl
    | cons x l => rfl)
  have hml := Lib.hid (meths_len r ps)
  have hh2 := Lib.hid (show headsV ps = ss2.map (fun s => lowT s.data.toList) by
    unfold headsV
    rw [← hd2]
    unfold datas
    rw [List.map_map]; rfl)
  have hhl := Lib.hid (heads_len ps)
  have hsl := Lib.hid (show ∀ s ∈ ss2, s.size ≤ maxLen from fun s hs => by
    have h1 := hwl.out s.data.toList (by rw [← hd2]; exact List.mem_map_of_mem hs)
    rw [← sz_len] at h1
    unfold maxLen
    have : ps.length * (300 + 2) ≤ 45 * 302 := Nat.mul_le_mul hl (by decide)
    omega)
  clear hgv hb1 hb2 hd1 hd2 hwl
  have hrX := hX2.out.rb
  have c2 : _ = some (Value.slice a ps.length cap) := hX2.out.lb.cell 0 rfl
  have hm0 := cmay _ hX2.out.low
  obtain ⟨mv, hmv⟩ : ∃ mv, mayV r ps = mv := ⟨_, rfl⟩
  rw [show mayB r.creds (fieldOf ps nOrigin).1 (fieldOf ps nOrigin).2 (fieldOf ps nCreds).1 ⟨(originL r.orig.sec r.orig.host r.orig.port).toArray⟩ = mv from hmv] at hm0
  rw [hmv] at hgv2
  clear cmay hmv
  go_wp2_with (refine wpList_load_blk rfl tReq _ rfl _ rfl hrX _ Tryz.underlying34 rfl infoReqG ?_)
  refine hm0.mono ?_
  rintro e w3 ⟨rfl, hB3⟩
  have hX3 := Lib.hid (hX2.out.later hB3)
  have hS13 := Lib.hid (hS1'.out.later hB3)
  have hO23 := Lib.hid (hO2'.out.later hB3)
  have hup3 := Nat.le_trans hup1 (Nat.le_refl _)
  clear hm0 hrX c2 hX2 hS1' hO2' hO1'
  cases mv
  · have hfin := Lib.hid (show gv = ([], 6) by rw [hgv2.out]; rfl)
    clear hgv2
    go_wp2
    go_returns
    rw [hfin.out]
    exact grantPost_no hX3.out.low
  have hgv3 := Lib.hid (hgv2.out.trans (by rfl))
  clear hgv2
  go_upto_if 44 with (fail)
  go_cut [8] (fun v wx => ∃ a8 cap8, v = .slice a8 (methsV r ps).length cap8 ∧ Hid (StrAt wx a8 (methsV r ps)) ∧ Hid (Below w3.heap.size w3 wx) ∧ Hid (∀ x, a8 = some x → x.block < w1.heap.size ∨ w2.heap.size ≤ x.block))
  case first =>
    cases ss1 with
    | nil =>
      have hm1 := Lib.hid (show methsV r ps = [methodOf r.method] from hm.out)
      have c9 : _ = some (Value.string r.method) := hX3.out.rb.cell 9 rfl
      go_wp2_with fail
      refine (cmeth _).mono ?_
      rintro e w4 ⟨rfl, hB4⟩
      have hB5 := Lib.hid (hB4.alloc hB4.size (.cells #[.string (methodOf r.method)] 9))
      have hc5 := Lib.hid ((Blk.new w4 #[.string (methodOf r.method)] 9).cell 0 rfl)
      have hs4 := hB4.size
      clear cmeth hB4
      go_wp2
      go_meet
      rw [hm1.out]
      refine ⟨_, _, rfl, Lib.hid ?_, hB5, Lib.hid (fun x hx => by cases hx; exact .inr (Nat.le_trans hB3.size hs4))⟩
      intro i hi
      have h0 : i = 0 := by simp at hi; exact hi
      subst h0
      exact ⟨_, 0, rfl, hc5.out⟩
    | cons s0 ss =>
      have hm1 := Lib.hid (show methsV r ps = s0 :: ss from hm.out)
      have hne : ((((s0 :: ss).length : Nat) : Int) == 0) = false := beq_eq_false_iff_ne.2 (by simp; omega)
      have hbr := Lib.hid (Below.refl w3.heap.size w3)
      go_wp2
      go_meet
      rw [hm1.out]
      exact ⟨_, _, rfl, hS13, hbr, Lib.hid (fun x hx => .inl (hlt1.out x hx).2)⟩
  case rest =>
    obtain ⟨a8, cap8, rfl, hS8, hB8, hf8⟩ := hcut
    have hX4 := Lib.hid (hX3.out.later hB8.out)
    have hO24 := Lib.hid (hO23.out.later hB8.out)
    clear hX3 hO23 hS13 hB8 cmeth hm hB3
    obtain ⟨ms, hms⟩ : ∃ ms, methsV r ps = ms := ⟨_, rfl⟩
    obtain ⟨hs, hhs⟩ : ∃ hs, headsV ps = hs := ⟨_, rfl⟩
    have hpv := Lib.hid (show pairsV r ps = onceB (pairsB ms hs) by unfold pairsV; rw [hms, hhs])
    rw [hms] at hS8 hml ⊢
    rw [hhs] at hh2 hhl
    have hss := Lib.hid (show ss2.length = hs.length by rw [hh2.out, List.length_map])
    have cage2 : ∀ w', Below W.heap.size W w' → Calls Tryz.prog 187 #[.slice a ps.length cap] w' fun e w'' => e = .returned (.int .i64 (ageV ps)) ∧ Below w'.heap.size w' w'' := cage
    clear hms hhs cage
    go_upto_block 0 with (fail)
    go_cut [] (fun wx => Hid (StrAt wx a2 hs) ∧ Hid (StrAt wx a8 ms) ∧ Hid (GrBox W r a ps.length cap now wx))
    case first =>
      rcases own_shape hO24.out with ⟨hv, rfl⟩ | ⟨g, c0, cur, hv, hg1, hblk, hn, hm', hsz, htk⟩
      · obtain rfl : hs = [] := hh2.out
        have hsn := Lib.hid (StrAt.nil wc a2)
        go_wp2
        go_loopw [51] (fun i wr => i = .int .i64 0 ∧ wr = wc) (fun _ _ => 0)
        case atStart => exact ⟨rfl, rfl⟩
        case round =>
          obtain ⟨rfl, rfl⟩ := hrel
          go_wp2
          go_meet
          exact ⟨hsn, hS8, hX4⟩
      · injection hv with hv1 hv2 hv3
        subst hv1 hv3
        have hcur := Lib.hid (show ∀ j (h : j < ss2.length), cur[j]? = some (.string ss2[j]) by
          intro j hj
          have h1 : (cur.toList.take (datas ss2).length)[j]? = ((datas ss2).map encStr)[j]? := by rw [htk]
          rw [← str_enc, List.getElem?_take, if_pos (by simpa [datas] using hj), List.getElem?_map, List.getElem?_eq_getElem hj] at h1
          simpa using h1)
        have hblk' : Hid (Blk wc g cur 9) := Lib.hid hblk
        have hgl := (hlt2.out _ rfl).2
        have hs40 : ss2.length ≤ 40 := by have := hhl.out; rw [hh2.out, List.length_map] at this; exact this
        have hsz' := Lib.hid (show cur.size = cap2 by rw [hsz, Nat.mul_one])
        have hoo := Lib.hid (Only.refl (fun i => i = g) wc)
        clear hblk htk hm' hsz hlt1 hlt2 hO24
        go_wp2
        go_loopw [51] (fun i wr => ∃ (k : Nat) (cr : Array Value), k ≤ ss2.length ∧ i = .int .i64 k ∧ Hid (Blk wr g cr 9) ∧ Hid (cr.size = cap2) ∧ Hid (∀ j (h : j < ss2.length), cr[j]? = some (.string (if j < k then lowT ss2[j].data.toList else ss2[j]))) ∧ Hid (Only (fun i => i = g) wc wr)) (fun i _ => ss2.length - (intOf i).toNat)
        case atStart => exact ⟨0, cur, Nat.zero_le _, rfl, hblk', hsz', Lib.hid (fun j hj => by rw [if_neg (Nat.not_lt_zero _)]; exact hcur.out j hj), hoo⟩
        case round =>
          obtain ⟨k, cr, hk, rfl, hBr, hcs, hcr, hOr⟩ := hrel
          by_cases hlt : k < ss2.length
          · have hck := hcr.out k hlt
            rw [if_neg (Nat.lt_irrefl k)] at hck
            have ck := hBr.out.cell k hck
            have hlo := fun w' => codingLower ss2[k] w' (hsl.out _ (List.getElem_mem hlt))
            have hcr2 := Lib.hid (show ∀ j (h : j < ss2.length), (cr.setIfInBounds k (.string (lowT ss2[k].data.toList)))[j]? = some (.string (if j < k + 1 then lowT ss2[j].data.toList else ss2[j])) by
              intro j hj
              rw [Array.getElem?_setIfInBounds]
              by_cases e : k = j
              · subst e
                rw [if_pos rfl, if_pos (by have := (Array.getElem?_eq_some_iff.1 hck).1; exact this), if_pos (Nat.lt_succ_self _)]
              · rw [if_neg e, hcr.out j hj]
                by_cases h2 : j < k
                · rw [if_pos h2, if_pos (by omega)]
                · rw [if_neg h2, if_neg (by omega)])
            have hlw : (⟨(lower ss2[k].data.toList).toArray⟩ : ByteArray) = lowT ss2[k].data.toList := rfl
            rw [hlw] at hlo
            generalize ss2[k] = s at ck hlo hcr2 hck
            generalize lowT s.data.toList = t at hlo hcr2
            clear hlw hcur
            go_wp2_with fail
            refine (hlo _).mono ?_
            rintro e w6 ⟨rfl, hB6⟩
            have hB7 := hBr.out.later hB6
            have ck6 := hB7.cell k hck
            have fk6 := hB7.free k
            have hO6 := Lib.hid ((hOr.out.then hB6).set (p := ⟨g, k, none⟩) (.inl rfl) (.string t))
            have hB8' := Lib.hid (hB7.set k (.string t))
            have hcs2 := Lib.hid (show (cr.setIfInBounds k (.string t)).size = cap2 by rw [Array.size_setIfInBounds]; exact hcs.out)
            clear hlo ck hB6
            go_wp2
            go_roundw
            case rel => exact ⟨k + 1, _, by omega, by go_num, hB8', hcs2, hcr2, hO6⟩
            case measure => simp [intOf]; omega
          · obtain rfl : ss2.length = k := by omega
            have hfin : Hid (StrAt wr (some ⟨g, 0, none⟩) hs) := by
              refine Lib.hid ?_
              rw [hh2.out]
              intro i hi
              rw [List.length_map] at hi
              refine ⟨g, 0, rfl, ?_⟩
              have := hBr.out.cell i (hcr.out i hi)
              rw [if_pos hi] at this
              rw [List.getElem_map, Nat.zero_add]
              exact this
            have hfS := Lib.hid (hS8.out.only hOr.out (fun x hx e => by rcases hf8.out x hx with h | h <;> omega))
            have hfX := Lib.hid (hX4.out.only hOr.out (fun i hi => by omega))
            go_wp2
            go_meet
            exact ⟨hfin, hfS, hfX⟩
    case rest =>
      obtain ⟨hH5, hS5, hX5⟩ := hcut
      clear hS8 hX4 hO24 hf8 hlt1 hlt2 hh2 hsl
      obtain ⟨hg0, hg1⟩ := hage.out
      have hml' := hml.out
      have hhl' := hhl.out
      have hG5 : Hid (GrB W r a ps.length cap now (now + ageV ps) W.heap.size (W.heap.size + 1) (W.heap.size + 1 + 1) (wc.heap.size + 1) wc.heap.size (onceB (([] : List ByteArray).map (fun m => ((m, ⟨#[]⟩) : BP)))) ((wc.alloc (.cells #[] tPass)).alloc (.cells #[.slice (some ⟨wc.heap.size, 0, none⟩) 0 0] tPasses))) := Lib.hid (GrB.start hX5.out)
      have hOn5 : Hid (Only (GrS (wc.heap.size + 1) wc.heap.size) wc ((wc.alloc (.cells #[] tPass)).alloc (.cells #[.slice (some ⟨wc.heap.size, 0, none⟩) 0 0] tPasses))) := Lib.hid (((Only.refl _ _).alloc _).alloc _)
      have hno : ∀ b, b < wc.heap.size → ¬ GrS (wc.heap.size + 1) wc.heap.size b := fun b hb e => by rcases e with e | e <;> omega
      have hH5 := Lib.hid (fun w' ho => StrAt.grown (w' := w') hH5.out ho hno)
      have hS5 := Lib.hid (fun w' ho => StrAt.grown (w' := w') hS5.out ho hno)
      have hno' := Lib.hid hno
      clear hno hX5
      go_upto_block 2 with (fail)
      generalize (ageV ps) = g at *
      go_wp2
      go_loopw [66] (fun i wr => ∃ k : Nat, k ≤ ms.length ∧ i = .int .i64 k ∧ Hid (GrB W r a ps.length cap now (now + g) W.heap.size (W.heap.size + 1) (W.heap.size + 1 + 1) (wc.heap.size + 1) wc.heap.size (onceB ((ms.take k).map (fun m => ((m, ⟨#[]⟩) : BP)))) wr) ∧ Hid (Only (GrS (wc.heap.size + 1) wc.heap.size) wc wr)) (fun i _ => ms.length - (intOf i).toNat)
      case atStart => exact ⟨0, Nat.zero_le _, rfl, hG5, hOn5⟩
      case round =>
        obtain ⟨k, hk, rfl, hGr, hOr⟩ := hrel
        clear hG5 hOn5
        by_cases hlt : k < ms.length
        · obtain ⟨b, off, rfl, hc⟩ := (hS5.out wr hOr.out) k hlt
          have hga := grantAdd W r a cap ps now g (now + g) _ _ _ _ _ _ ms[k] ⟨#[]⟩ wr hGr.out rfl hn0 hn1 hg0 hg1 (Nat.le_trans (onceB_len _) (by rw [List.length_map, List.length_take]; omega)) cage2
          have hnx := Lib.hid (show onceB ((ms.take (k + 1)).map (fun m => ((m, ⟨#[]⟩) : BP))) = addB (onceB ((ms.take k).map (fun m => ((m, ⟨#[]⟩) : BP)))) (ms[k], ⟨#[]⟩) by rw [List.take_succ_eq_append_getElem hlt, List.map_append, List.map_singleton, onceB_snoc])
          generalize addB (onceB ((ms.take k).map (fun m => ((m, ⟨#[]⟩) : BP)))) (ms[k], ⟨#[]⟩) = acc' at hga hnx
          generalize ms[k] = m at hc hga
          go_wp2_with fail
          refine hga.mono ?_
          rintro e w9 ⟨⟨rfl, hG9⟩, hOn9⟩
          have hG9' := Lib.hid (show GrB W r a ps.length cap now (now + g) W.heap.size (W.heap.size + 1) (W.heap.size + 1 + 1) (wc.heap.size + 1) wc.heap.size (onceB ((ms.take (k + 1)).map (fun m => ((m, ⟨#[]⟩) : BP)))) w9 by rw [hnx.out]; exact hG9)
          have hO9' := Lib.hid (hOr.out.trans hOn9)
          clear hga hG9 hOn9
          go_wp2
          go_roundw
          case rel => exact ⟨k + 1, by omega, by go_num, hG9', hO9'⟩
          case measure => simp [intOf]; omega
        · obtain rfl : ms.length = k := by omega
          have hG6 : Hid (GrB W r a ps.length cap now (now + g) W.heap.size (W.heap.size + 1) (W.heap.size + 1 + 1) (wc.heap.size + 1) wc.heap.size (onceB (pairsB ms (hs.take 0))) wr) := Lib.hid (by
            have := hGr.out
            rw [List.take_length] at this
            unfold pairsB
            rw [List.take_zero, List.map_nil, List.append_nil]
            exact this)
          have hO6 := hOr
          clear hGr hOr hlt hk hS5
          go_upto_block 4 with (fail)
          rw [hss.out]
          obtain ⟨wz, rfl⟩ : ∃ x, x = wr := ⟨_, rfl⟩
          go_wp2
          go_loopw [76] (fun i wr => ∃ k : Nat, k ≤ hs.length ∧ i = .int .i64 k ∧ Hid (GrB W r a ps.length cap now (now + g) W.heap.size (W.heap.size + 1) (W.heap.size + 1 + 1) (wc.heap.size + 1) wc.heap.size (onceB (pairsB ms (hs.take k))) wr) ∧ Hid (Only (GrS (wc.heap.size + 1) wc.heap.size) wc wr)) (fun i _ => hs.length - (intOf i).toNat)
          case atStart => exact ⟨0, Nat.zero_le _, rfl, hG6, hO6⟩
          case round =>
            obtain ⟨k, hk, rfl, hGr, hOr⟩ := hrel
            clear hG6 hO6
            by_cases hlt : k < hs.length
            · obtain ⟨b, off, rfl, hc⟩ := (hH5.out wr hOr.out) k hlt
              have hga := grantAdd W r a cap ps now g (now + g) _ _ _ _ _ _ ⟨#[]⟩ hs[k] wr hGr.out rfl hn0 hn1 hg0 hg1 (Nat.le_trans (onceB_len _) (by rw [pairsB_len, List.length_take]; omega)) cage2
              have hnx := Lib.hid (show onceB (pairsB ms (hs.take (k + 1))) = addB (onceB (pairsB ms (hs.take k))) (⟨#[]⟩, hs[k]) by
                unfold pairsB
                rw [List.take_succ_eq_append_getElem hlt, List.map_append, ← List.append_assoc, List.map_singleton, onceB_snoc])
              generalize addB (onceB (pairsB ms (hs.take k))) (⟨#[]⟩, hs[k]) = acc' at hga hnx
              generalize hs[k] = m at hc hga
              go_wp2_with fail
              refine hga.mono ?_
              rintro e w9 ⟨⟨rfl, hG9⟩, hOn9⟩
              have hG9' := Lib.hid (show GrB W r a ps.length cap now (now + g) W.heap.size (W.heap.size + 1) (W.heap.size + 1 + 1) (wc.heap.size + 1) wc.heap.size (onceB (pairsB ms (hs.take (k + 1)))) w9 by rw [hnx.out]; exact hG9)
              have hO9' := Lib.hid (hOr.out.trans hOn9)
              clear hga hG9 hOn9
              go_wp2
              go_roundw
              case rel => exact ⟨k + 1, by omega, by go_num, hG9', hO9'⟩
              case measure => simp [intOf]; omega
            · obtain rfl : hs.length = k := by omega
              have hGf := Lib.hid (show GrB W r a ps.length cap now (now + g) W.heap.size (W.heap.size + 1) (W.heap.size + 1 + 1) (wc.heap.size + 1) wc.heap.size (pairsV r ps) wr by
                have := hGr.out
                rw [List.take_length] at this
                rw [hpv.out]
                exact this)
              have hpl : (pairsV r ps).length ≤ 80 := by
                rw [hpv.out]
                exact Nat.le_trans (onceB_len _) (by rw [pairsB_len]; omega)
              clear hGr hOr hpv cage2 hH5 hlt hk
              generalize pairsV r ps = acc at hGf hpl hgv3
              obtain ⟨v, hv, hO⟩ := hGf.out.pb
              obtain ⟨a9, cap9, rfl, hrow, _, _, _⟩ := OwnG.shape encPass_len hO
              have hcv := ccov wr hGf.out.low a9 cap9 (acc.map (mkP r (now + g))) hrow (by rw [List.length_map]; omega)
              have hrow' := Lib.hid hrow
              have hvH := Lib.hid hv
              rw [List.length_map] at hcv
              have hrX := hGf.out.rb
              have cp0 : _ = some (Value.slice a9 (acc.map (mkP r (now + g))).length cap9) := hv.cell 0 rfl
              obtain ⟨cv, hcve⟩ : ∃ cv, covV r (acc.map (mkP r (now + g))) = cv := ⟨_, rfl⟩
              rw [hcve] at hcv hgv3
              have hgv4 := Lib.hid hgv3.out
              clear hcve hgv3 hrow hv hO ccov
              go_wp2_with (refine wpList_load_blk rfl tReq _ rfl _ rfl hrX _ Tryz.underlying34 rfl infoReqG ?_)
              refine hcv.mono ?_
              rintro e w9 ⟨rfl, hB9⟩
              have hlow := Lib.hid (hGf.out.low.then (Nat.le_refl _) hB9)
              have hrow9 := Lib.hid (hrow'.out.later hB9)
              have cp9 : _ = some (Value.slice a9 (acc.map (mkP r (now + g))).length cap9) := (hvH.out.later hB9).cell 0 rfl
              rw [List.length_map] at cp9
              clear hcv hB9 hrX cp0 hvH
              cases cv
              · have hfin := Lib.hid (show gv = ([], 6) by rw [hgv4.out]; rfl)
                clear hgv4
                go_wp2
                go_returns
                rw [hfin.out]
                exact grantPost_no hlow.out
              · have hfin := Lib.hid (show gv = (acc, 0) by rw [hgv4.out]; rfl)
                clear hgv4
                go_wp2
                go_returns
                rw [hfin.out]
                exact ⟨⟨a9, cap9, _, rfl, hrow9.out, ErrIs.none _⟩, hlow.out⟩
end Go.Proofs.YtnfcdccdmlodeaaGreatDoor
