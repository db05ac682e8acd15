/- The reference's bank: Take, Asked, Sweep. -/
import Derived.Test.YtchgpdgigpaloaaDoorRbA
import Derived.Test.YtchgpdgigpaloaaDoorBankJ
namespace Go.Proofs.YtchgpdgigpaloaaDoor
set_option linter.unusedSimpArgs false
open Go.RowKit Go.Deep
theorem undWaiR : Tryd.prog.underlying 59 = some (.struct ((match Tryd.prog.underlying 59 with | some (.struct fs) => fs | _ => #[]))) := by kernel_rfl
def zeroWai : Wai := ⟨⟨false, ⟨#[]⟩, 0⟩, false, ⟨#[]⟩, ⟨askZero, none, 0⟩⟩
/-- the last one of an origin -/
def lastW (o : Org) (p : Bool) (l : List Wai) : Option Wai := l.foldl (fun s x => if keyW o p x.d then some x else s) none
theorem lastW_snoc {o : Org} {p : Bool} {l : List Wai} {k : Nat} (h : k < l.length) : lastW o p (l.take (k + 1)) = if keyW o p l[k].d then some l[k] else lastW o p (l.take k) := by
  rw [List.take_succ_eq_append_getElem h]
  unfold lastW
  rw [List.foldl_append]
  rfl
theorem wai_cellsR {w : World} {q : Nat} {x : Wai} {T : TypeId} (h : Blk w q x.arr T) : w.cell? ⟨q, 0, none⟩ = some (.bool x.orig.sec) ∧ w.cell? ⟨q, 1, none⟩ = some (.string x.orig.host) ∧ w.cell? ⟨q, 2, none⟩ = some (.int .i64 x.orig.port) ∧ w.cell? ⟨q, 3, none⟩ = some (.bool x.proxy) :=
  ⟨h.cell 0 rfl, h.cell 1 rfl, h.cell 2 rfl, h.cell 3 rfl⟩
/-- three results: two structs in blocks, and another -/
theorem results_cell3 {P : Program} {fn : Func} {tmps : Array Value} {w : World} {v1 v2 u : Value} (a : Nat) (t : TypeId) (c : Nat) (t2 : TypeId) (d : Nat) (b1 b2 : Nat) (hr : fn.results = #[.cell a t, .cell c t2, .tmp d]) (h1 : tmps.getD a undef = .pointer (some ⟨b1, 0, none⟩)) (h2 : tmps.getD c undef = .pointer (some ⟨b2, 0, none⟩)) (hu : tmps.getD d undef = u) (hl1 : (loadVar t ⟨b1, 0, none⟩).run P w = .ok v1 w) (hl2 : (loadVar t2 ⟨b2, 0, none⟩).run P w = .ok v2 w) :
    (results fn tmps).run P w = .ok (.tuple #[v1, v2, u]) w := by
  have ha : (asAddr (tmps.getD a undef)).run P w = .ok ⟨b1, 0, none⟩ w := by rw [h1]; rfl
  have hb : (asAddr (tmps.getD c undef)).run P w = .ok ⟨b2, 0, none⟩ w := by rw [h2]; rfl
  rw [Array.getD_eq_getD_getElem?] at ha hb hu
  unfold results
  rw [hr]
  simp [Sem.run_bind, ha, hb, hl1, hl2, hu, Result.andThen]
/-- the bank that is left, and what was asked for -/
def RbTakePost (l : List Wai) (got : Option Wai) (ga : Option Addr) (gn gc : Nat) (w : World) (e : Ending) (w' : World) : Prop := (∃ v, e = .returned (.tuple #[.agg #[.slice ga gn gc, v], .agg (got.getD zeroWai).arr, .bool got.isSome]) ∧ OwnG tWaiR 13 encWai w' w.heap.size v l) ∧ Below w.heap.size w w'
set_option maxRecDepth 100000 in
set_option maxHeartbeats 4000000 in
theorem refBankTake (ga : Option Addr) (gn gc : Nat) (a : Option Addr) (cap : Nat) (Ws : List Wai) (o : Org) (p : Bool) (w : World) (hS : RowAt 13 encWai w a Ws) (hl : Ws.length ≤ 100000) :
    Calls Tryd.prog 15 #[.agg #[.slice ga gn gc, .slice a Ws.length cap], .agg (orgArr o), .bool p] w (RbTakePost (Ws.filter (fun x => !keyW o p x.d)) (lastW o p Ws) ga gn gc w) := by
  have hal : Below w.heap.size w (((((w.alloc (.cells #[.slice ga gn gc, .slice a Ws.length cap] tRBk)).alloc (.cells (orgArr o) 32)).alloc (.cells #[.slice none 0 0, .slice none 0 0] tRBk)).alloc (.cells zWai tWaiR)).alloc (.cells zWai tWaiR)) := ((((((Below.refl w.heap.size w).alloc (by simp; try omega) (.cells #[.slice ga gn gc, .slice a Ws.length cap] tRBk)).alloc (by simp; try omega) (.cells (orgArr o) 32)).alloc (by simp; try omega) (.cells #[.slice none 0 0, .slice none 0 0] tRBk)).alloc (by simp; try omega) (.cells zWai tWaiR)).alloc (by simp; try omega) (.cells zWai tWaiR))
  have hbk := (((((Blk.new w #[.slice ga gn gc, .slice a Ws.length cap] tRBk).alloc (.cells (orgArr o) 32)).alloc (.cells #[.slice none 0 0, .slice none 0 0] tRBk)).alloc (.cells zWai tWaiR)).alloc (.cells zWai tWaiR))
  have hq := ((((Blk.new (w.alloc (.cells #[.slice ga gn gc, .slice a Ws.length cap] tRBk)) (orgArr o) 32).alloc (.cells #[.slice none 0 0, .slice none 0 0] tRBk)).alloc (.cells zWai tWaiR)).alloc (.cells zWai tWaiR))
  have h6 := (((Blk.new ((w.alloc (.cells #[.slice ga gn gc, .slice a Ws.length cap] tRBk)).alloc (.cells (orgArr o) 32)) #[.slice none 0 0, .slice none 0 0] tRBk).alloc (.cells zWai tWaiR)).alloc (.cells zWai tWaiR))
  have h7 := ((Blk.new (((w.alloc (.cells #[.slice ga gn gc, .slice a Ws.length cap] tRBk)).alloc (.cells (orgArr o) 32)).alloc (.cells #[.slice none 0 0, .slice none 0 0] tRBk)) zWai tWaiR).alloc (.cells zWai tWaiR))
  have hg := (Blk.new ((((w.alloc (.cells #[.slice ga gn gc, .slice a Ws.length cap] tRBk)).alloc (.cells (orgArr o) 32)).alloc (.cells #[.slice none 0 0, .slice none 0 0] tRBk)).alloc (.cells zWai tWaiR)) zWai tWaiR)
  simp only [World.size_alloc] at hq h6 h7 hg
  obtain ⟨l9, hll⟩ : ∃ l9, Hid (Ws.filter (fun x => !keyW o p x.d) = l9) := ⟨_, Lib.hid rfl⟩
  obtain ⟨gl, hgl⟩ : ∃ gl, Hid (lastW o p Ws = gl) := ⟨_, Lib.hid rfl⟩
  go_enter Tryd.func15, Tryd.ntmps15
  go_upto_region 4 with (fail)
  generalize (((((w.alloc (.cells #[.slice ga gn gc, .slice a Ws.length cap] tRBk)).alloc (.cells (orgArr o) 32)).alloc (.cells #[.slice none 0 0, .slice none 0 0] tRBk)).alloc (.cells zWai tWaiR)).alloc (.cells zWai tWaiR)) = w5 at hal hbk hq h6 h7 hg ⊢
  have c0 : _ = some (Value.slice a Ws.length cap) := hbk.cell 1 rfl
  have halH := Lib.hid hal
  have hbkH := Lib.hid hbk
  have hqH := Lib.hid hq
  have h6H := Lib.hid h6
  have h7H := Lib.hid h7
  have hgH := Lib.hid hg
  have hrH := Lib.hid hS
  have hz5 := hg.lt
  clear hal hbk hq h6 h7 hg hS
  go_wp2
  go_loopw [9, 11, 13, 17] (fun v9 v11 _ vi wr => ∃ (k : Nat) (got : Option Wai), k ≤ Ws.length ∧ vi = .int .i64 k ∧ v11 = .bool got.isSome ∧ Hid (got = lastW o p (Ws.take k)) ∧ Hid (OwnG tWaiR 13 encWai wr w5.heap.size v9 ((Ws.take k).filter (fun x => !keyW o p x.d))) ∧ Hid (Below w.heap.size w wr) ∧ Hid (Blk wr w.heap.size #[.slice ga gn gc, .slice a Ws.length cap] tRBk) ∧ Hid (Blk wr (w.heap.size + 1) (orgArr o) 32) ∧ Hid (Blk wr (w.heap.size + 1 + 1) #[.slice none 0 0, .slice none 0 0] tRBk) ∧ Hid (Blk wr (w.heap.size + 1 + 1 + 1) zWai tWaiR) ∧ Hid (Blk wr (w.heap.size + 1 + 1 + 1 + 1) (got.getD zeroWai).arr tWaiR) ∧ w5.heap.size ≤ wr.heap.size) (fun _ _ _ vi _ => Ws.length - (intOf vi).toNat)
  case atStart => exact ⟨0, none, Nat.zero_le _, rfl, rfl, Lib.hid rfl, Lib.hid (OwnG.nil _ _), halH, hbkH, hqH, h6H, h7H, hgH, Nat.le_refl _⟩
  case round =>
    obtain ⟨k, got, hk, rfl, rfl, hgt, hO, hB, hbk, hq, h6, h7, hgb, hs5⟩ := hrel
    obtain ⟨a5, cap5, rfl, hsx⟩ := OwnG.shape encWai_len hO.out
    clear hsx
    by_cases hlt : k < Ws.length
    · obtain ⟨pb, po, rfl, hc⟩ := (hrH.out.later hB.out) k hlt
      have hrg : wr.rangeAt pb (po + k * 13) (encWai Ws[k]) := hc
      have hls := Lib.hid (lastW_snoc (o := o) (p := p) hlt)
      have hy := Lib.hid (gfilter_yes (f := fun x => !keyW o p x.d) hlt)
      have hn := Lib.hid (gfilter_no (f := fun x => !keyW o p x.d) hlt)
      have hlen : ((Ws.take k).filter (fun x => !keyW o p x.d)).length ≤ 100000 := Nat.le_trans (List.length_filter_le _ _) (by rw [List.length_take]; omega)
      have hZ := Blk.new wr zWai tWaiR
      have hbs := hB.out.size
      clear hc
      generalize Ws[k] = x at hrg hls hy hn
      generalize (Ws.take k).filter (fun x => !keyW o p x.d) = acc at hO hy hn hlen
      have hl1 : acc.length + 1 ≤ maxLen := by unfold maxLen; omega
      have hl2 : (acc.length + 1) * 168 ≤ 140737488355328 := by omega
      have h1 := fun w => org_eql x.orig o w
      go_upto_region 7 with (first
        | (refine wpList_load_mid rfl tWaiR _ rfl pb (po + k * 13) rfl (encWai x) _ hrg undWaiR rfl infoWaiR ?_)
        | (refine wpList_store_blk rfl tWaiR _ _ rfl _ rfl hZ x.arr rfl rfl infoWaiR (wai_one x) ?_; intro wa2 hpas hga))
      have hBa := Lib.hid (below_only (hB.out.alloc hbs (.cells zWai tWaiR)) hga (by simp; omega) hbs)
      have hbka := Lib.hid ((hbk.out.alloc (.cells zWai tWaiR)).grown hga (fun e => by have := Option.some.inj e; omega))
      have hqa := (hq.out.alloc (.cells zWai tWaiR)).grown hga (fun e => by have := Option.some.inj e; omega)
      have hqaH := Lib.hid hqa
      have h6a := Lib.hid ((h6.out.alloc (.cells zWai tWaiR)).grown hga (fun e => by have := Option.some.inj e; omega))
      have h7a := Lib.hid ((h7.out.alloc (.cells zWai tWaiR)).grown hga (fun e => by have := Option.some.inj e; omega))
      have hgba := Lib.hid ((hgb.out.alloc (.cells zWai tWaiR)).grown hga (fun e => by have := Option.some.inj e; omega))
      have hOa := (OwnG.later hO.out ((Below.refl _ _).alloc (Nat.le_refl _) (.cells zWai tWaiR))).kept (Only.of_grown (S := fun i => i = wr.heap.size) hga (fun i e => (Option.some.inj e).symm)) (fun g e1 e2 => by have := (hO.out.lt g e1).2; omega)
      have hs5a : w5.heap.size ≤ wa2.heap.size := by have := hga.size; simp at this; omega
      have hOaH := Lib.hid hOa
      obtain ⟨d0, d1, d2, d3⟩ := wai_cellsR hpas
      clear hrg hZ hga hB hq hbk h6 h7 hgb hO
      cases hq1 : keyW o p x.d
      · have hls' := Lib.hid (show got = lastW o p (Ws.take (k + 1)) by rw [hls.out, hq1, hgt.out]; rfl)
        have hy' := Lib.hid (hy.out (by simp [hq1]))
        rcases keyW_no hq1 with hr1 | ⟨hr1, hr2⟩
        all_goals
          clear hq1 hls hy hn
          simp only [hr1] at h1
          try (have hr3 : (x.proxy == p) = false := hr2)
          go_wp2_with (first
            | (refine wpList_load_blk rfl 32 _ rfl _ rfl hqa _ Tryd.underlying32 rfl infoOrgB ?_)
            | ((with_reducible show wpList _ _ _ ({ dst := _, op := Op.binOp _ _ _ _ _, type := _, pos := _, after := _, guard := _ } :: _) _ _); refine wpList_eql_agg _ rfl .eql 32 32 _ _ rfl #[.bool x.orig.sec, .string x.orig.host, .int .i64 x.orig.port] #[.bool o.sec, .string o.host, .int .i64 o.port] (by rfl) (by rfl) noGuardOrg _ (h1 _) ?_)
            | (refine wpList_load_blk rfl tWaiR _ rfl _ rfl hpas _ undWaiR rfl infoWaiR ?_)
            | (at_builtin; refine wpList_append_one wholeLV Tryd.underlying28 (by rfl) (by decide) encWai_len (by rfl) _ _ (by rfl) wa2 w5.heap.size (.slice a5 acc.length cap5) acc (by rfl) hOa x (encWai_one _) _ (by rfl) _ (by rfl) (by rfl) hl1 hl2 hs5a ?_; intro v4 w4 hO4 hG4 hne4; clear hne4))
          have hO4' := Lib.hid (show OwnG tWaiR 13 encWai w4 w5.heap.size v4 ((Ws.take (k + 1)).filter (fun x => !keyW o p x.d)) by rw [hy'.out]; exact hO4)
          have hgne : ∀ b, b < w5.heap.size → (Value.slice a5 acc.length cap5).ownBlock ≠ some b := fun b hb e => by have := (hOaH.out.lt _ e).1; omega
          have hB4 := Lib.hid (below_append hBa.out (hOaH.out.base (B' := w.heap.size) (fun b e => by have := (hOaH.out.lt b e).1; omega)) hG4 hBa.out.size)
          have hbk4 := Lib.hid ((hbka.out.alloc (.cells x.arr tWaiR)).grown hG4 (hgne _ (by omega)))
          have hq4 := Lib.hid ((hqaH.out.alloc (.cells x.arr tWaiR)).grown hG4 (hgne _ (by omega)))
          have h64 := Lib.hid ((h6a.out.alloc (.cells x.arr tWaiR)).grown hG4 (hgne _ (by omega)))
          have h74 := Lib.hid ((h7a.out.alloc (.cells x.arr tWaiR)).grown hG4 (hgne _ (by omega)))
          have hg4 := Lib.hid ((hgba.out.alloc (.cells x.arr tWaiR)).grown hG4 (hgne _ (by omega)))
          have hs54 : w5.heap.size ≤ w4.heap.size := by have := hG4.size; simp at this; omega
          go_roundw
          case rel => exact ⟨k + 1, got, by omega, by go_num, rfl, hls', hO4', hB4, hbk4, hq4, h64, h74, hg4, hs54⟩
          case measure => simp [intOf]; omega
      · have hls' := Lib.hid (show some x = lastW o p (Ws.take (k + 1)) by rw [hls.out, hq1]; rfl)
        have hn' := Lib.hid (hn.out (by simp [hq1]))
        obtain ⟨hr1, hr2⟩ := keyW_yes hq1
        clear hq1 hls hy hn
        simp only [hr1] at h1
        have hr3 : (x.proxy == p) = true := hr2
        have hgb2 := hgba.out
        go_wp2_with (first
          | (refine wpList_load_blk rfl 32 _ rfl _ rfl hqa _ Tryd.underlying32 rfl infoOrgB ?_)
          | ((with_reducible show wpList _ _ _ ({ dst := _, op := Op.binOp _ _ _ _ _, type := _, pos := _, after := _, guard := _ } :: _) _ _); refine wpList_eql_agg _ rfl .eql 32 32 _ _ rfl #[.bool x.orig.sec, .string x.orig.host, .int .i64 x.orig.port] #[.bool o.sec, .string o.host, .int .i64 o.port] (by rfl) (by rfl) noGuardOrg _ (h1 _) ?_)
          | (refine wpList_load_blk rfl tWaiR _ rfl _ rfl hpas _ undWaiR rfl infoWaiR ?_)
          | (refine wpList_store_blk rfl tWaiR _ _ rfl _ rfl hgb2 x.arr rfl (by rfl) infoWaiR (wai_one x) ?_; intro w6 hb6 hg6))
        have hO6 := Lib.hid (show OwnG tWaiR 13 encWai w6 w5.heap.size (.slice a5 acc.length cap5) ((Ws.take (k + 1)).filter (fun x => !keyW o p x.d)) by rw [hn'.out]; exact hOaH.out.past hg6 (by omega))
        have hB6 := Lib.hid (below_only hBa.out hg6 hBa.out.size (by omega))
        have hbk6 := Lib.hid (hbka.out.grown hg6 (fun e => by have := Option.some.inj e; omega))
        have hq6 := Lib.hid (hqaH.out.grown hg6 (fun e => by have := Option.some.inj e; omega))
        have h66 := Lib.hid (h6a.out.grown hg6 (fun e => by have := Option.some.inj e; omega))
        have h76 := Lib.hid (h7a.out.grown hg6 (fun e => by have := Option.some.inj e; omega))
        have hg66 := Lib.hid (show Blk w6 (w.heap.size + 1 + 1 + 1 + 1) ((some x).getD zeroWai).arr tWaiR from hb6)
        have hs56 : w5.heap.size ≤ w6.heap.size := by have := hg6.size; omega
        go_roundw
        case rel => exact ⟨k + 1, some x, by omega, by go_num, rfl, hls', hO6, hB6, hbk6, hq6, h66, h76, hg66, hs56⟩
        case measure => simp [intOf]; omega
    · obtain rfl : Ws.length = k := by omega
      rw [List.take_length] at hgt hO ⊢
      have hgl2 := Lib.hid (show got = gl by rw [hgt.out, hgl.out])
      rw [hll.out] at hO ⊢
      obtain ⟨a9, c9, ha9, hc9⟩ : ∃ a9 c9, a9 = a5 ∧ c9 = cap5 := ⟨_, _, rfl, rfl⟩
      subst ha9 hc9
      obtain ⟨G, hG⟩ : ∃ G, Hid (G = got.getD zeroWai) := ⟨_, Lib.hid rfl⟩
      rw [← hG.out] at hgb
      have hbk2 := hbk.out
      go_upto_region 12 with (refine wpList_store_cell rfl _ _ _ (by rfl) w.heap.size 1 (by rfl) hbk2 (by decide : 1 < 2) (.slice a9 l9.length c9) (by rfl) (by rfl) (by rfl) infoWaitsR ?_; intro w7 hb7 hgr7)
      have hb7' : Blk w7 w.heap.size #[.slice ga gn gc, .slice a9 l9.length c9] tRBk := hb7
      have hg7 : Blk w7 (w.heap.size + 1 + 1 + 1 + 1) G.arr tWaiR := hgb.out.grown hgr7 (fun e => by have := Option.some.inj e; omega)
      have h67 := h6.out.grown hgr7 (fun e => by have := Option.some.inj e; omega)
      have h77 := h7.out.grown hgr7 (fun e => by have := Option.some.inj e; omega)
      have hO7 := Lib.hid (hO.out.past hgr7 (by omega))
      have hB7 := Lib.hid (below_only hB.out hgr7 hB.out.size (Nat.le_refl _))
      clear hb7 hgr7 hbk2 hbk hq h6 h7 hgb hO hB
      refine wp_region_held_drew (S := fun w' => Blk w' w.heap.size #[.slice ga gn gc, .slice a9 l9.length c9] tRBk ∧ Blk w' (w.heap.size + 1 + 1 + 1 + 1) G.arr tWaiR) (by kernel_rfl) (by (try dsimp only); exact ⟨hb7', hg7⟩) (fun hHeld => ?_)
      refine wpAnyH_take (i := 0) (v := .agg #[.slice ga gn gc, .slice a9 l9.length c9]) rfl (by kernel_rfl) (by kernel_rfl) (by kernel_rfl) (fun _ _ _ h => h) (yieldsIf_load_mid (by rfl) tRBk _ rfl w.heap.size 0 (by rfl) [.slice ga gn gc, .slice a9 l9.length c9] _ (fun w h => h.1.range) undRBk rfl infoRBk) (by assumption) ?_
      (try simp only [List.getElem_toArray, List.getElem_cons_succ, List.getElem_cons_zero, Act.put, List.setIfInBounds_toArray, List.set_cons_zero, List.set_cons_succ])
      refine wpAnyH_take (i := 1) (v := .agg G.arr) rfl (by kernel_rfl) (by kernel_rfl) (by kernel_rfl) (fun _ _ _ h => h) (yieldsIf_load_mid (by rfl) tWaiR _ rfl (w.heap.size + 1 + 1 + 1 + 1) 0 (by rfl) (encWai G) _ (fun w h => h.2.range) undWaiR rfl infoWaiR) (by assumption) ?_
      (try simp only [List.getElem_toArray, List.getElem_cons_succ, List.getElem_cons_zero, Act.put, List.setIfInBounds_toArray, List.set_cons_zero, List.set_cons_succ])
      refine wpAnyH_take (i := 2) (v := ?_) rfl (by kernel_rfl) (by kernel_rfl) (by kernel_rfl) (fun _ _ _ h => h) (Or.inl ⟨by rfl, ?_⟩) (by assumption) ?_
      rotate_left
      · intro w hSw; (try dsimp only at hSw); go_simp; (try with_reducible rfl)
      (try simp only [List.getElem_toArray, List.getElem_cons_succ, List.getElem_cons_zero, Act.put, List.setIfInBounds_toArray, List.set_cons_zero, List.set_cons_succ])
      refine wpAnyH_ready (rs := [3]) (by kernel_rfl) (by simp) ?_
      refine AllReadyH.cons rfl (fun K hK => ?_) AllReadyH.nil
      refine step_put_blk rfl tRBk _ _ rfl _ rfl (show Blk w7.drew (w.heap.size + 1 + 1) #[.slice none 0 0, .slice none 0 0] tRBk from h67) #[.slice ga gn gc, .slice a9 l9.length c9] rfl rfl infoRBk (by simp [Value.oneCell']) ?_
      intro w8 hb8 hg8
      have e1 : Blk w8 w.heap.size #[.slice ga gn gc, .slice a9 l9.length c9] tRBk := (show Blk w7.drew w.heap.size _ tRBk from hb7').grown hg8 (fun e => by have := Option.some.inj e; omega)
      have e2 : Blk w8 (w.heap.size + 1 + 1 + 1 + 1) G.arr tWaiR := (show Blk w7.drew _ _ tWaiR from hg7).grown hg8 (fun e => by have := Option.some.inj e; omega)
      refine hK.out _ _ (by (try dsimp only); exact ⟨e1, e2⟩) (fun hHeld => ?_)
      clear hK K
      (try simp only [List.getElem_toArray, List.getElem_cons_succ, List.getElem_cons_zero, Act.put, List.setIfInBounds_toArray, List.set_cons_zero, List.set_cons_succ])
      refine wpAnyH_ready (rs := [4]) (by kernel_rfl) (by simp) ?_
      refine AllReadyH.cons rfl (fun K hK => ?_) AllReadyH.nil
      refine step_put_blk rfl tWaiR _ _ rfl _ rfl ((show Blk w7.drew (w.heap.size + 1 + 1 + 1) zWai tWaiR from h77).grown hg8 (fun e => by have := Option.some.inj e; omega)) G.arr rfl rfl infoWaiR (wai_one G) ?_
      intro w9 hb9 hg9
      refine hK.out _ _ (by (try dsimp only); exact ⟨e1.grown hg9 (fun e => by have := Option.some.inj e; omega), e2.grown hg9 (fun e => by have := Option.some.inj e; omega)⟩) (fun hHeld => ?_)
      clear hK K
      (try simp only [List.getElem_toArray, List.getElem_cons_succ, List.getElem_cons_zero, Act.put, List.setIfInBounds_toArray, List.set_cons_zero, List.set_cons_succ])
      have hO9 := ((show OwnG tWaiR 13 encWai w7.drew w5.heap.size _ l9 from hO7.out).past hg8 (by omega)).past hg9 (by omega)
      have hB9 := below_only (below_only hB7.out.drew hg8 hB7.out.size (by omega)) hg9 (by have := hg8.size; have := hB7.out.size; simp only [World.drew] at *; omega) (by omega)
      refine wpAnyH_take (i := 5) (v := ?_) rfl (by kernel_rfl) (by kernel_rfl) (by kernel_rfl) (fun _ _ _ h => h) (Or.inl ⟨by rfl, ?_⟩) (by assumption) ?_
      rotate_left
      · intro w hSw; (try dsimp only at hSw); go_simp; (try with_reducible rfl)
      (try simp only [List.getElem_toArray, List.getElem_cons_succ, List.getElem_cons_zero, Act.put, List.setIfInBounds_toArray, List.set_cons_zero, List.set_cons_succ])
      refine wpAnyH_done (by kernel_rfl) ?_ _
      go_wp2
      refine bodyPost_ret (v := .tuple #[.agg #[.slice ga gn gc, .slice a9 l9.length c9], .agg G.arr, .bool got.isSome]) ?_ rfl ?_
      · exact results_cell3 6 tRBk 7 tWaiR 8 (w.heap.size + 1 + 1) (w.heap.size + 1 + 1 + 1) Tryd.results15 rfl rfl rfl (loadG_blk (hb8.grown hg9 (fun e => by have := Option.some.inj e; omega)) undRBk rfl infoRBk) (loadG_blk hb9 undWaiR rfl infoWaiR)
      · rw [hll.out, hgl.out, ← hgl2.out]
        unfold RbTakePost
        rw [← hG.out]
        exact ⟨⟨_, rfl, hO9.base (fun g e => Nat.le_trans halH.out.size (hO9.lt g e).1)⟩, hB9⟩
end Go.Proofs.YtchgpdgigpaloaaDoor
