/- The program's bank in memory; reach, find. -/
import Derived.Test.YtchgpdgigpaloaaDoorBankA
import Derived.Shelf.GgClosure.Gives
namespace Go.Proofs.YtchgpdgigpaloaaDoor
set_option linter.unusedSimpArgs false
open Go.RowKit Go.Deep
abbrev tBank : TypeId := 27
structure GraD.Ok (g : GraD) : Prop where
  l1 : g.ask.domain.length ≤ 100000
  l2 : g.paths.length ≤ 100000
  sz : ∀ x ∈ g.paths, x.size ≤ 140737488351232
  c0 : -9223372036854775808 ≤ g.count
  c1 : g.count ≤ 9223372036854775807
structure WaiD.Ok (x : WaiD) : Prop where
  l1 : x.ask.domain.length ≤ 100000
/-- a grant's texts lie in these blocks -/
structure Gra.In (w : World) (S : Nat → Prop) (g : Gra) : Prop where
  dom : TxtAt w g.ask.addr g.ask.d.domain
  pth : TxtAt w g.addr g.paths
  domS : g.ask.d.domain ≠ [] → ∀ x, g.ask.addr = some x → S x.block
  pthS : g.paths ≠ [] → ∀ x, g.addr = some x → S x.block
structure Wai.In (w : World) (S : Nat → Prop) (x : Wai) : Prop where
  dom : TxtAt w x.ask.addr x.ask.d.domain
  domS : x.ask.d.domain ≠ [] → ∀ y, x.ask.addr = some y → S y.block
theorem Gra.In.kept {w w' : World} {S S' : Nat → Prop} {g : Gra} (h : g.In w S) (ho : Only S' w w') (hd : ∀ i, S i → ¬ S' i) : g.In w' S :=
  ⟨h.dom.kept ho (fun hn x hx => hd _ (h.domS hn x hx)), h.pth.kept ho (fun hn x hx => hd _ (h.pthS hn x hx)), h.domS, h.pthS⟩
theorem Wai.In.kept {w w' : World} {S S' : Nat → Prop} {x : Wai} (h : x.In w S) (ho : Only S' w w') (hd : ∀ i, S i → ¬ S' i) : x.In w' S :=
  ⟨h.dom.kept ho (fun hn y hy => hd _ (h.domS hn y hy)), h.domS⟩
theorem Gra.In.stays {w w' : World} {S S' S2 : Nat → Prop} {g : Gra} (h : g.In w S) (ho : OnlyT S' w w') (hs : ∀ i, S i → i < w.heap.size → S2 i) : g.In w' S2 :=
  ⟨h.dom.stays ho, h.pth.stays ho, fun hn x hx => hs _ (h.domS hn x hx) (by obtain ⟨_, _, e⟩ := h.dom.2 hn x hx; exact (Array.getElem?_eq_some_iff.1 e).1), fun hn x hx => hs _ (h.pthS hn x hx) (by obtain ⟨_, _, e⟩ := h.pth.2 hn x hx; exact (Array.getElem?_eq_some_iff.1 e).1)⟩
theorem Wai.In.stays {w w' : World} {S S' S2 : Nat → Prop} {x : Wai} (h : x.In w S) (ho : OnlyT S' w w') (hs : ∀ i, S i → i < w.heap.size → S2 i) : x.In w' S2 :=
  ⟨h.dom.stays ho, fun hn y hy => hs _ (h.domS hn y hy) (by obtain ⟨_, _, e⟩ := h.dom.2 hn y hy; exact (Array.getElem?_eq_some_iff.1 e).1)⟩
/-- block b is a bank of these grants and these that are waited for; what it is made of lies in blocks of S -/
structure BankR (w : World) (b : Nat) (S : Nat → Prop) (gs : List GraD) (ws : List WaiD) : Prop where
  box : ∃ (vg vw : Value) (Gs : List Gra) (Ws : List Wai), Blk w b #[vg, vw] tBank ∧ OwnG tGra 16 encGra w 0 vg Gs ∧ OwnG tWai 13 encWai w 0 vw Ws ∧ (∀ g, vg.ownBlock = some g → S g) ∧ (∀ g, vw.ownBlock = some g → S g) ∧ Gs.map Gra.d = gs ∧ Ws.map Wai.d = ws ∧ (∀ g ∈ Gs, g.In w S) ∧ ∀ x ∈ Ws, x.In w S
  sb : S b
  bd : ∀ i, S i → i < w.heap.size
  okG : ∀ g ∈ gs, g.Ok
  okW : ∀ x ∈ ws, x.Ok
theorem BankR.kept {w w' : World} {b : Nat} {S S' : Nat → Prop} {gs : List GraD} {ws : List WaiD} (h : BankR w b S gs ws) (ho : Only S' w w') (hd : ∀ i, S i → ¬ S' i) : BankR w' b S gs ws := by
  obtain ⟨vg, vw, Gs, Ws, h1, h2, h3, h4, h5, h6, h7, h8, h9⟩ := h.box
  exact ⟨⟨vg, vw, Gs, Ws, ho.blk h1 (hd b h.sb), h2.kept ho (fun g hg => hd g (h4 g hg)), h3.kept ho (fun g hg => hd g (h5 g hg)), h4, h5, h6, h7, fun g hg => (h8 g hg).kept ho hd, fun x hx => (h9 x hx).kept ho hd⟩, h.sb, fun i hi => Nat.lt_of_lt_of_le (h.bd i hi) ho.size, h.okG, h.okW⟩
theorem BankR.later {w w' : World} {b : Nat} {S : Nat → Prop} {gs : List GraD} {ws : List WaiD} (h : BankR w b S gs ws) (hb : Below w.heap.size w w') : BankR w' b S gs ws := h.kept (Only.of_below (S := fun _ => False) hb) (fun _ _ e => e)
theorem BankR.mono {w : World} {b : Nat} {S S' : Nat → Prop} {gs : List GraD} {ws : List WaiD} (h : BankR w b S gs ws) (hs : ∀ i, S i → S' i) (hd : ∀ i, S' i → i < w.heap.size) : BankR w b S' gs ws := by
  obtain ⟨vg, vw, Gs, Ws, h1, h2, h3, h4, h5, h6, h7, h8, h9⟩ := h.box
  exact ⟨⟨vg, vw, Gs, Ws, h1, h2, h3, fun g hg => hs g (h4 g hg), fun g hg => hs g (h5 g hg), h6, h7, fun g hg => ⟨(h8 g hg).dom, (h8 g hg).pth, fun hn x hx => hs _ ((h8 g hg).domS hn x hx), fun hn x hx => hs _ ((h8 g hg).pthS hn x hx)⟩, fun x hx => ⟨(h9 x hx).dom, fun hn y hy => hs _ ((h9 x hx).domS hn y hy)⟩⟩, hs b h.sb, hd, h.okG, h.okW⟩
theorem reach_le (path : ByteArray) : ∀ (ps : List ByteArray) (n : Int), n ≤ 140737488351232 → (∀ x ∈ ps, x.size ≤ 140737488351232) → ps.foldl (reachStep path) n ≤ 140737488351232
  | [], _, h, _ => h
  | p :: r, n, h, hs => by
    rw [List.foldl_cons]
    refine reach_le path r _ ?_ (fun x hx => hs x (List.mem_cons_of_mem _ hx))
    have := hs p (by simp)
    unfold reachStep
    split <;> omega
theorem reach_snoc {path : ByteArray} {ps : List ByteArray} {k : Nat} (h : k < ps.length) : (ps.take (k + 1)).foldl (reachStep path) (-1) = reachStep path ((ps.take k).foldl (reachStep path) (-1)) ps[k] := by
  rw [List.take_succ_eq_append_getElem h, List.foldl_append]
  rfl
set_option maxRecDepth 100000 in
set_option maxHeartbeats 4000000 in
theorem bankReach (g : Gra) (o : Org) (p : Bool) (path : ByteArray) (w : World) (hp : StrAt w g.addr g.paths) (hl : g.paths.length ≤ 1048576) (hz : ∀ x ∈ g.paths, x.size ≤ 140737488351232) :
    Calls Tryd.prog 51 #[.agg g.arr, .agg (orgArr o), .bool p, .string path] w fun e w' => e = .returned (.int .i64 (reachB o p path g.d)) ∧ Below w.heap.size w w' := by
  have hal := ((Below.refl w.heap.size w).alloc (Nat.le_refl _) (.cells g.arr tGra)).alloc (by simp) (.cells (orgArr o) 32)
  have hpa := Lib.hid (hp.later hal)
  have halH := Lib.hid hal
  have h1 := fun w => org_neq g.orig o w
  have hk : reachB o p path g.d = if (orgE g.orig o && (g.proxy == p)) = true then reachL path g.paths else -1 := rfl
  rw [hk]
  clear hk hp hal
  obtain ⟨⟨s1, g1, p1⟩, proxy, user, pass, ⟨⟨sc, realm, nonce, opq, sess, qop, stale, dom⟩, ad, cp⟩, count, paths, ad2, cp2⟩ := g
  obtain ⟨so, ho, po⟩ := o
  simp only at h1 hl hz hpa ⊢
  generalize orgE ⟨s1, g1, p1⟩ ⟨so, ho, po⟩ = r1 at h1 ⊢
  have hcase : (r1 && (proxy == p)) = false ∨ (r1 = true ∧ proxy = p) := by
    cases r1 <;> cases proxy <;> cases p <;> simp
  rcases hcase with hno | ⟨rfl, rfl⟩
  · rw [hno]
    have hno2 : (!r1) = true ∨ (!r1) = false ∧ (proxy != p) = true := by
      cases r1 <;> cases proxy <;> cases p <;> simp_all
    clear hno
    rcases hno2 with h2 | ⟨h2, h3⟩
    all_goals
      rw [h2] at h1
      try (cases proxy <;> cases p <;> simp at h3)
    all_goals
      go_enter Tryd.func51, Tryd.ntmps51
      go_wp2_with (first
        | (refine wpList_eql_agg _ rfl .neq 32 32 _ _ rfl #[.bool s1, .string g1, .int .i64 p1] #[.bool so, .string ho, .int .i64 po] (by rfl) (by rfl) noGuardOrg _ (h1 _) ?_))
      go_ret
      exact ⟨rfl, halH.out⟩
  · have e1 : (true && (proxy == proxy)) = true := by simp
    rw [e1, if_pos rfl]
    clear e1
    simp only [Bool.not_true] at h1
    cases proxy
    all_goals
      go_enter Tryd.func51, Tryd.ntmps51
      go_wp2_with (first
        | (refine wpList_eql_agg _ rfl .neq 32 32 _ _ rfl #[.bool s1, .string g1, .int .i64 p1] #[.bool so, .string ho, .int .i64 po] (by rfl) (by rfl) noGuardOrg _ (h1 _) ?_))
      go_loop [9, 11, 26] (fun n _ i => ∃ (k : Nat) (m : Int), k ≤ paths.length ∧ i = .int .i64 k ∧ n = .int .i64 m ∧ -1 ≤ m ∧ m ≤ 140737488351232 ∧ Hid (m = (paths.take k).foldl (reachStep path) (-1))) (fun _ _ i => paths.length - (intOf i).toNat)
      case atStart => exact ⟨0, -1, Nat.zero_le _, rfl, rfl, by omega, by omega, Lib.hid rfl⟩
      case round =>
        obtain ⟨k, m, hk, rfl, rfl, hm0, hm1, hM⟩ := hrel
        by_cases hlt : k < paths.length
        · obtain ⟨b, off, rfl, hc⟩ := hpa.out k hlt
          have hzk := hz _ (List.getElem_mem hlt)
          have hsn := Lib.hid (reach_snoc (path := path) hlt)
          have hwi := fun w => urlWithin path paths[k] w
          have hws : Lib.hasPrefix path.data.toList paths[k].data.toList = withinB path paths[k] := rfl
          rw [hws] at hwi
          have hge := reach_ge path [paths[k]] m
          simp only [List.foldl_cons, List.foldl_nil] at hge
          have hst := Lib.hid (show (paths.take (k + 1)).foldl (reachStep path) (-1) = reachStep path m paths[k] by rw [hsn.out, ← hM.out])
          clear hws hsn
          generalize paths[k] = x at hc hzk hwi hst hge
          cases hq : withinB path x
          · rw [hq] at hwi
            have hr := Lib.hid (show m = (paths.take (k + 1)).foldl (reachStep path) (-1) by rw [hst.out]; unfold reachStep; rw [hq]; rfl)
            clear hq hst hge
            go_wp2_with (refine (hwi _).mono ?_; rintro e w' ⟨rfl, rfl⟩)
            go_round
            case rel => exact ⟨k + 1, m, by omega, by go_num, rfl, hm0, hm1, hr⟩
            case measure => simp [intOf]; omega
          · rw [hq] at hwi
            have hr := Lib.hid (show max m (x.size : Int) = (paths.take (k + 1)).foldl (reachStep path) (-1) by rw [hst.out]; unfold reachStep; rw [hq]; rfl)
            clear hq hst hge
            by_cases hmx : m ≤ (x.size : Int)
            · have hr2 := Lib.hid (show (x.size : Int) = (paths.take (k + 1)).foldl (reachStep path) (-1) by rw [← hr.out]; omega)
              clear hr
              go_wp2_with (refine (hwi _).mono ?_; rintro e w' ⟨rfl, rfl⟩)
              go_round
              case rel => exact ⟨k + 1, _, by omega, by go_num, by first | rfl | (congr 1; omega), by omega, by omega, by first | exact hr2 | (exact Lib.hid (by rw [← hr2.out]; omega))⟩
              case measure => simp [intOf]; omega
            · have hr2 := Lib.hid (show m = (paths.take (k + 1)).foldl (reachStep path) (-1) by rw [← hr.out]; omega)
              clear hr
              go_wp2_with (refine (hwi _).mono ?_; rintro e w' ⟨rfl, rfl⟩)
              go_round
              case rel => exact ⟨k + 1, m, by omega, by go_num, by first | rfl | (congr 1; omega), by omega, by omega, hr2⟩
              case measure => simp [intOf]; omega
        · obtain rfl : paths.length = k := by omega
          have hM' := hM
          rw [List.take_length] at hM'
          go_wp2
          go_ret
          exact ⟨by rw [hM'.out]; rfl, halH.out⟩
end Go.Proofs.YtchgpdgigpaloaaDoor
