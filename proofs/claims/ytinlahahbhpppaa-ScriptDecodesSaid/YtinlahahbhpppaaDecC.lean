/- The program's script.Decode. -/
import Derived.Test.YtinlahahbhpppaaDecB
namespace Go.Proofs.Ytinlahahbhpppaa
set_option linter.unusedSimpArgs false
open Go.RowKit Go.Deep
abbrev tMvP : TypeId := 39
theorem infoMvP : (Try.prog.info? tMvP).map (·.size) = some 24 := by kernel_rfl
theorem wholeMvP : (Try.prog.info? tMvP).map (fun i => (i.zero, i.size, i.bytes)) = some (some (.agg #[.int .i64 0, .int .i64 0, .int .i64 0, .int .i64 0, .bool false, .string ⟨#[]⟩, .int .i64 0, .bool false, .string ⟨#[]⟩, .int .i64 0, .string ⟨#[]⟩, .string ⟨#[]⟩, .string ⟨#[]⟩, .slice none 0 0, .bool false, .string ⟨#[]⟩, .bool false, .string ⟨#[]⟩, .string ⟨#[]⟩, .string ⟨#[]⟩, .string ⟨#[]⟩, .int .i64 0, .bool false, .int .i64 0]), 24, 288) := by kernel_rfl
/-- the program's state while it reads: what is left, what it made -/
structure DecS (w0 : World) (r : List UInt8) (v : Value) (Ms : List Mv) (w : World) : Prop where
  rd : RdAt w0.heap.size r w
  own : OwnG tMvP 24 encMv w w0.heap.size v Ms
  hds : ∀ m ∈ Ms, HeadsAt w m.op
  low : Below w0.heap.size w0 w
theorem HeadsAt.row {w w' : World} {o : OpV} {row : Option Nat} (h : HeadsAt w o) (hg : w.grownBy w' row) (hn : ∀ H n v, Blk w H #[.string n, .string v] 52 → row ≠ some H) : HeadsAt w' o := by
  rcases h with h | ⟨n, v, H, h1, h2, h3⟩
  · exact .inl h
  · exact .inr ⟨n, v, H, h1, h2, h3.grown hg (hn H n v h3)⟩
section
variable {w0 w w' : World} {p : Nat} {r r' : List UInt8} {v v' : Value} {Ms : List Mv} {m : Mv} {cs : Array Value}
theorem DecS.turn (h : DecS w0 r v Ms w) (h1 : RdAt w0.heap.size r' w') (h2 : w.grownBy w' (some w0.heap.size)) : DecS w0 r' v Ms w' := by
  obtain ⟨t, ht, hR⟩ := h.rd
  have hne := OwnG.apart (by decide) h.own hR
  exact ⟨h1, h.own.kept (Only.of_grown (S := fun i => i = w0.heap.size) h2 (fun i e => (Option.some.inj e).symm)) (fun g hg e => hne (by rw [hg, e])), fun m hm => (h.hds m hm).grown hR (by decide) h2, below_only h.low h2 h.low.size (Nat.le_refl _)⟩
theorem DecS.alloc (h : DecS w0 r v Ms w) (o : Obj) : DecS w0 r v Ms (w.alloc o) := by
  have hb : Below w.heap.size w (w.alloc o) := (Below.refl _ _).alloc (Nat.le_refl _) _
  exact ⟨h.rd.later hb, h.own.later hb, fun m hm => (h.hds m hm).later hb, h.low.then (Nat.le_refl _) hb⟩
theorem DecS.fresh (h : DecS w0 r v Ms w) : v.ownBlock ≠ some w.heap.size := fun e => absurd (World.ownsRow.lt h.own _ e).2 (Nat.lt_irrefl _)
theorem DecS.set (h : DecS w0 r v Ms w) (hp : Blk w p cs tMvP) (hne : v.ownBlock ≠ some p) (hge : w0.heap.size ≤ p) (hg : w.grownBy w' (some p)) : DecS w0 r v Ms w' :=
  ⟨h.rd.grown hp (by decide) hg, h.own.kept (Only.of_grown (S := fun i => i = p) hg (fun i e => (Option.some.inj e).symm)) (fun g hg e => hne (by rw [hg, e])), fun m hm => (h.hds m hm).grown hp (by decide) hg, below_only h.low hg h.low.size hge⟩
theorem DecS.more (h : DecS w0 r v Ms w) (hm : HeadsAt w m.op) (ho : OwnG tMvP 24 encMv w' w0.heap.size v' (Ms ++ [m])) (hg : (w.alloc (.cells cs tMvP)).grownBy w' v.ownBlock) : DecS w0 r v' (Ms ++ [m]) w' := by
  have ha := h.alloc (.cells cs tMvP)
  have hb : Below w.heap.size w (w.alloc (.cells cs tMvP)) := (Below.refl _ _).alloc (Nat.le_refl _) _
  have hn : ∀ H n u, Blk (w.alloc (.cells cs tMvP)) H #[.string n, .string u] 52 → v.ownBlock ≠ some H := fun H n u hb => OwnG.apart (by decide) ha.own hb
  obtain ⟨t, ht, hR⟩ := ha.rd
  refine ⟨⟨t, ht, hR.grown hg (OwnG.apart (by decide) ha.own hR)⟩, ho, fun x hx => ?_, below_append h.low h.own hg h.low.size⟩
  rcases List.mem_append.1 hx with hx | hx
  · exact (ha.hds x hx).row hg hn
  · rw [List.mem_singleton.1 hx]
    exact (hm.later hb).row hg hn
end
theorem opD2 {R : Nat} {l : List UInt8} {w : World} (h : RdAt R l w) :
    Calls Try.prog 11 #[.pointer (some ⟨R, 0, none⟩)] w fun e w' => ∃ o : OpV, o.d = opS l none 0 ∧ e = .returned (.agg o.arr) ∧ RdAt R (l.drop 16) w' ∧ HeadsAt w' o ∧ w.grownBy w' (some R) := by
  refine (opD h).mono ?_
  rintro e w' ⟨a, c, h1, h2⟩
  exact ⟨_, opS_d l a c, h1, h2⟩
abbrev zMvA : Array Value := #[.int .i64 0, .int .i64 0, .int .i64 0, .int .i64 0, .bool false, .string ⟨#[]⟩, .int .i64 0, .bool false, .string ⟨#[]⟩, .int .i64 0, .string ⟨#[]⟩, .string ⟨#[]⟩, .string ⟨#[]⟩, .slice none 0 0, .bool false, .string ⟨#[]⟩, .bool false, .string ⟨#[]⟩, .string ⟨#[]⟩, .string ⟨#[]⟩, .string ⟨#[]⟩, .int .i64 0, .bool false, .int .i64 0]
abbrev mv0 (k t : Int) : Mv := ⟨k, t, zOpV⟩
theorem mv_kind (k k' t : Int) : (mv0 k t).arr.setIfInBounds 0 (.int .i64 k') = (mv0 k' t).arr := rfl
theorem mv_sz (k t : Int) : 0 < (mv0 k t).arr.size := by simp
theorem mv_sz2 (k t : Int) (o : OpV) : 2 + o.arr.size ≤ (mv0 k t).arr.size := by simp
theorem mv_sub (t : Int) (o : OpV) : arrSet (mv0 1 t).arr 2 o.arr.toList = (⟨1, t, o⟩ : Mv).arr := by simp [arrSet]
set_option maxRecDepth 100000 in
set_option maxHeartbeats 4000000 in
theorem decodeP (s : ByteArray) (w : World) :
    Calls Try.prog 5 #[.string s] w fun e w' => ∃ (v : Value) (Ms : List Mv), e = .returned v ∧ OwnG tMvP 24 encMv w' w.heap.size v Ms ∧ Ms.map Mv.d = movesL s.data.toList ∧ (∀ m ∈ Ms, HeadsAt w' m.op) ∧ Below w.heap.size w w' := by
  have hD0 : DecS w s.data.toList (.slice none 0 0) [] (w.alloc (.cells #[.string s] tRd)) :=
    ⟨⟨s, rfl, Blk.new _ _ _⟩, OwnG.nil _ _, fun m hm => absurd hm List.not_mem_nil, (Below.refl _ _).alloc (Nat.le_refl _) _⟩
  obtain ⟨l, hl⟩ : ∃ l, l = s.data.toList := ⟨_, rfl⟩
  rw [← hl] at hD0
  rw [← hl]
  clear hl
  go_enter Try.func5, Try.ntmps5
  go_wp2
  go_loopg [3, 5, 6, 40, 46] 400 (fun g v3 _ _ _ _ wr => ∃ (k : Nat) (Ms : List Mv), k ≤ 400 ∧ Hid (g = 400 - k) ∧ Hid (Ms.length = k) ∧ Hid (Ms.map Mv.d = (decN k l).1) ∧ Hid (DecS w (decN k l).2 v3 Ms wr))
  case atStart => exact ⟨0, [], by omega, Lib.hid rfl, Lib.hid rfl, Lib.hid rfl, Lib.hid hD0⟩
  case round =>
    clear hD0
    obtain ⟨k, Ms, hk, hg, hK, hM, hD⟩ := hrel
    obtain ⟨a3, cap3, rfl, hs3⟩ := OwnG.shape encMv_len hD.out.own
    clear hs3
    obtain ⟨t, ht, hb⟩ := hD.out.rd
    have c0 : _ = some (Value.string t) := hb.cell 0 rfl
    have f0 := hb.free 0
    cases hr : (decN k l).2 with
    | nil =>
      have hE : t = ⟨#[]⟩ := ba_ext (ht.trans hr)
      subst hE
      have hO := Lib.hid hD.out.own
      have hfin := Lib.hid (moves_of hk (.inl hr))
      clear hr ht
      go_wp2
      go_ret
      exact ⟨_, Ms, rfl, hO.out, hM.out.trans hfin.out, hD.out.hds, hD.out.low⟩
    | cons c r =>
      have hl2 := ht.trans hr
      have hs : 0 < t.size := by
        have := sz_len t
        rw [hl2] at this
        simp at this; omega
      have h0 : t[0] = c := by
        have := at_list t 0 hs (by rw [hl2]; simp)
        rw [← this]
        simp [hl2]
      have hne : t.toList.isEmpty = false := by rw [Lib.toList_data, hl2]; rfl
      by_cases hlt : Ms.length < 400
      · have hc := bd8 c
        have htl := Lib.hid (tail_of t)
        rw [hl2] at htl
        have hnx := Lib.hid (dec_next hr)
        have hDr := Lib.hid hD.out
        rw [hr] at hDr
        clear hr ht hl2
        have hKl : k < 400 := by have := hK.out; omega
        have hs1 : 0 < (#[Value.string t] : Array Value).size := by simp
        have hDn : ∀ w', Blk w' w.heap.size #[.string (t.extract 1 t.size)] tRd → wr.grownBy w' (some w.heap.size) → DecS w r (.slice a3 Ms.length cap3) Ms w' := fun w' h1 h2 => hDr.out.turn ⟨_, htl.out, h1⟩ h2
        have hDnH := Lib.hid hDn
        have hl1 : Ms.length + 1 ≤ maxLen := by unfold maxLen; omega
        have hl2 : (Ms.length + 1) * 288 ≤ 140737488355328 := by omega
        have hcast : ((c.toNat : Int) % 6) = ((c.toNat % 6 : Nat) : Int) := by omega
        have hca := Lib.hid hcast
        clear hDn hcast
        by_cases hq : c.toNat / 6 % 4 = 1
        · have hqa : ((c.toNat : Int) / 6 % 4 == 1) = true := by simp; omega
          have hmv := Lib.hid (show mvOf c r = ⟨1, (c.toNat % 6 : Nat), opS r none 0⟩ from by unfold mvOf; rw [if_pos hq])
          have hre := Lib.hid (show restOf c r = r.drop 16 from by unfold restOf; rw [if_pos hq])
          clear hq
          go_wp2_with (first
            | (refine wpList_store_cell rfl _ _ _ (by rfl) w.heap.size 0 (by rfl) hb hs1 (.string (t.extract 1 t.size)) (by rfl) (by rfl) (by rfl) infoStrD ?_; intro w1 hb1 hg1; have hD1 := hDnH.out w1 hb1 hg1; have hZ := Blk.new w1 zMvA tMvP; have hDz := hD1.alloc (.cells zMvA tMvP); have hfr := hD1.fresh; have hge := hD1.low.size; clear hb1 hg1 hDnH hb c0 f0)
            | (refine wpList_store_blk rfl tMvP _ _ rfl _ rfl hZ (mv0 0 ((c.toNat : Int) % 6)).arr rfl rfl infoMvP (mv_one _) ?_; intro w2 hb2 hg2; have hD2 := hDz.set hZ hfr hge hg2; have hbs2 := hD2.low.size; clear hZ hDz hg2 hD1)
            | (refine wpList_store_cell rfl _ _ _ (by rfl) w1.heap.size 0 (by rfl) hb2 (mv_sz _ _) (.int .i64 1) (by rfl) (by rfl) (by rfl) infoIntD ?_; intro w3 hc3 hg3; rw [mv_kind] at hc3; have hb3 := hc3; have hD3 := hD2.set hb2 hfr hge hg3; have hbs3 := hD3.low.size; clear hb2 hg3 hD2 hc3))
          refine (opD2 (l := r) hD3.rd).mono ?_
          rintro e w4 ⟨o, hod, rfl, h1, h2, h3⟩
          have hodH := Lib.hid hod
          have hD4 := hD3.turn h1 h3
          have hb4 := hD3.rd.other hb3 (by decide) h3
          clear hod h1 h3 hD3 hb3
          go_wp2_with (first
            | (refine wpList_store_sub rfl _ _ _ (by rfl) w1.heap.size 2 (by rfl) hb4 o.arr (mv_sz2 _ _ o) (by rfl) (opD_one _) infoOpD (⟨1, (c.toNat : Int) % 6, o⟩ : Mv).arr (mv_sub _ o) ?_; intro w5 hb5 hg5; have hD5 := hD4.set hb4 hfr hge hg5; have hH5 := h2.grown hb4 (by decide) hg5; have hbs5 := hD5.low.size; clear hD4 h2 hb4 hg5)
            | (refine wpList_load_blk rfl tMvP _ rfl _ rfl hb5 _ Try.underlying39 rfl infoMvP ?_)
            | (at_builtin; refine wpList_append_one wholeMvP Try.underlying24 (by rfl) (by decide) encMv_len (by rfl) _ _ (by rfl) w5 w.heap.size (.slice a3 Ms.length cap3) Ms (by rfl) hD5.own ⟨1, (c.toNat : Int) % 6, o⟩ (encMv_one _) _ (by rfl) _ (by rfl) (by rfl) hl1 hl2 hbs5 ?_; intro vn wn hOn hGn hnn))
          have hDn4 := hD5.more (m := ⟨1, (c.toNat : Int) % 6, o⟩) hH5 hOn hGn
          go_roundg (400 - (k + 1))
          case measure => have := hg.out; omega
          case rel => exact ⟨k + 1, Ms ++ [⟨1, (c.toNat : Int) % 6, o⟩], by omega, Lib.hid rfl, Lib.hid (by rw [List.length_append, hK.out]; rfl), Lib.hid (by rw [List.map_append, hM.out, hnx.out, hmv.out, ← hca.out, ← hodH.out]; rfl), Lib.hid (by rw [hnx.out, hre.out]; exact hDn4)⟩
        · have hqa : ((c.toNat : Int) / 6 % 4 == 1) = false := by simp; omega
          have hre := Lib.hid (show restOf c r = r from by unfold restOf; rw [if_neg hq])
          by_cases hq2 : c.toNat / 6 % 4 = 2
          · have hqb : ((c.toNat : Int) / 6 % 4 == 2) = true := by simp; omega
            by_cases h128 : 128 ≤ c.toNat
            · have hqc : decide ((c.toNat : Int) < 128) = false := by simp; omega
              have hmv := Lib.hid (show mvOf c r = ⟨2, (c.toNat % 6 : Nat), zOpV⟩ from by unfold mvOf; rw [if_neg hq, if_pos ⟨hq2, h128⟩])
              clear hq hq2 h128
              go_wp2_with (first
                | (refine wpList_store_cell rfl _ _ _ (by rfl) w.heap.size 0 (by rfl) hb hs1 (.string (t.extract 1 t.size)) (by rfl) (by rfl) (by rfl) infoStrD ?_; intro w1 hb1 hg1; have hD1 := hDnH.out w1 hb1 hg1; have hZ := Blk.new w1 zMvA tMvP; have hDz := hD1.alloc (.cells zMvA tMvP); have hfr := hD1.fresh; have hge := hD1.low.size; clear hb1 hg1 hDnH hb c0 f0)
                | (refine wpList_store_blk rfl tMvP _ _ rfl _ rfl hZ (mv0 0 ((c.toNat : Int) % 6)).arr rfl rfl infoMvP (mv_one _) ?_; intro w2 hb2 hg2; have hD2 := hDz.set hZ hfr hge hg2; have hbs2 := hD2.low.size; clear hZ hDz hg2 hD1)
                | (refine wpList_store_cell rfl _ _ _ (by rfl) w1.heap.size 0 (by rfl) hb2 (mv_sz _ _) (.int .i64 2) (by rfl) (by rfl) (by rfl) infoIntD ?_; intro w3 hc3 hg3; rw [mv_kind] at hc3; have hb3 := hc3; have hD3 := hD2.set hb2 hfr hge hg3; have hbs3 := hD3.low.size; clear hb2 hg3 hD2 hc3)
                | (refine wpList_load_blk rfl tMvP _ rfl _ rfl hb3 _ Try.underlying39 rfl infoMvP ?_)
                | (at_builtin; refine wpList_append_one wholeMvP Try.underlying24 (by rfl) (by decide) encMv_len (by rfl) _ _ (by rfl) w3 w.heap.size (.slice a3 Ms.length cap3) Ms (by rfl) hD3.own (mv0 2 ((c.toNat : Int) % 6)) (encMv_one _) _ (by rfl) _ (by rfl) (by rfl) hl1 hl2 hbs3 ?_; intro vn wn hOn hGn hnn))
              have hDn4 := hD3.more (m := (mv0 2 ((c.toNat : Int) % 6))) (HeadsAt.zero _) hOn hGn
              go_roundg (400 - (k + 1))
              case measure => have := hg.out; omega
              case rel => exact ⟨k + 1, Ms ++ [(mv0 2 ((c.toNat : Int) % 6))], by omega, Lib.hid rfl, Lib.hid (by rw [List.length_append, hK.out]; rfl), Lib.hid (by rw [List.map_append, hM.out, hnx.out, hmv.out, ← hca.out]; rfl), Lib.hid (by rw [hnx.out, hre.out]; exact hDn4)⟩
            · have hqc : decide ((c.toNat : Int) < 128) = true := by simp; omega
              have hmv := Lib.hid (show mvOf c r = ⟨0, (c.toNat % 6 : Nat), zOpV⟩ from by unfold mvOf; rw [if_neg hq, if_neg (fun h => h128 h.2)])
              clear hq hq2 h128
              go_wp2_with (first
                | (refine wpList_store_cell rfl _ _ _ (by rfl) w.heap.size 0 (by rfl) hb hs1 (.string (t.extract 1 t.size)) (by rfl) (by rfl) (by rfl) infoStrD ?_; intro w1 hb1 hg1; have hD1 := hDnH.out w1 hb1 hg1; have hZ := Blk.new w1 zMvA tMvP; have hDz := hD1.alloc (.cells zMvA tMvP); have hfr := hD1.fresh; have hge := hD1.low.size; clear hb1 hg1 hDnH hb c0 f0)
                | (refine wpList_store_blk rfl tMvP _ _ rfl _ rfl hZ (mv0 0 ((c.toNat : Int) % 6)).arr rfl rfl infoMvP (mv_one _) ?_; intro w2 hb2 hg2; have hD2 := hDz.set hZ hfr hge hg2; have hbs2 := hD2.low.size; clear hZ hDz hg2 hD1)
                | (refine wpList_store_cell rfl _ _ _ (by rfl) w1.heap.size 0 (by rfl) hb2 (mv_sz _ _) (.int .i64 2) (by rfl) (by rfl) (by rfl) infoIntD ?_; intro w3 hc3 hg3; rw [mv_kind] at hc3; have hb3 := hc3; have hD3 := hD2.set hb2 hfr hge hg3; have hbs3 := hD3.low.size; clear hb2 hg3 hD2 hc3)
                | (refine wpList_store_cell rfl _ _ _ (by rfl) w1.heap.size 0 (by rfl) hb3 (mv_sz _ _) (.int .i64 0) (by rfl) (by rfl) (by rfl) infoIntD ?_; intro w4 hc4 hg4; rw [mv_kind] at hc4; have hb4 := hc4; have hD4 := hD3.set hb3 hfr hge hg4; have hbs4 := hD4.low.size; clear hb3 hg4 hD3 hc4)
                | (refine wpList_load_blk rfl tMvP _ rfl _ rfl hb4 _ Try.underlying39 rfl infoMvP ?_)
                | (at_builtin; refine wpList_append_one wholeMvP Try.underlying24 (by rfl) (by decide) encMv_len (by rfl) _ _ (by rfl) w4 w.heap.size (.slice a3 Ms.length cap3) Ms (by rfl) hD4.own (mv0 0 ((c.toNat : Int) % 6)) (encMv_one _) _ (by rfl) _ (by rfl) (by rfl) hl1 hl2 hbs4 ?_; intro vn wn hOn hGn hnn))
              have hDn4 := hD4.more (m := (mv0 0 ((c.toNat : Int) % 6))) (HeadsAt.zero _) hOn hGn
              go_roundg (400 - (k + 1))
              case measure => have := hg.out; omega
              case rel => exact ⟨k + 1, Ms ++ [(mv0 0 ((c.toNat : Int) % 6))], by omega, Lib.hid rfl, Lib.hid (by rw [List.length_append, hK.out]; rfl), Lib.hid (by rw [List.map_append, hM.out, hnx.out, hmv.out, ← hca.out]; rfl), Lib.hid (by rw [hnx.out, hre.out]; exact hDn4)⟩
          · have hqb : ((c.toNat : Int) / 6 % 4 == 2) = false := by simp; omega
            have hmv := Lib.hid (show mvOf c r = ⟨0, (c.toNat % 6 : Nat), zOpV⟩ from by unfold mvOf; rw [if_neg hq, if_neg (fun h => hq2 h.1)])
            clear hq hq2
            go_wp2_with (first
              | (refine wpList_store_cell rfl _ _ _ (by rfl) w.heap.size 0 (by rfl) hb hs1 (.string (t.extract 1 t.size)) (by rfl) (by rfl) (by rfl) infoStrD ?_; intro w1 hb1 hg1; have hD1 := hDnH.out w1 hb1 hg1; have hZ := Blk.new w1 zMvA tMvP; have hDz := hD1.alloc (.cells zMvA tMvP); have hfr := hD1.fresh; have hge := hD1.low.size; clear hb1 hg1 hDnH hb c0 f0)
              | (refine wpList_store_blk rfl tMvP _ _ rfl _ rfl hZ (mv0 0 ((c.toNat : Int) % 6)).arr rfl rfl infoMvP (mv_one _) ?_; intro w2 hb2 hg2; have hD2 := hDz.set hZ hfr hge hg2; have hbs2 := hD2.low.size; clear hZ hDz hg2 hD1)
              | (refine wpList_load_blk rfl tMvP _ rfl _ rfl hb2 _ Try.underlying39 rfl infoMvP ?_)
              | (at_builtin; refine wpList_append_one wholeMvP Try.underlying24 (by rfl) (by decide) encMv_len (by rfl) _ _ (by rfl) w2 w.heap.size (.slice a3 Ms.length cap3) Ms (by rfl) hD2.own (mv0 0 ((c.toNat : Int) % 6)) (encMv_one _) _ (by rfl) _ (by rfl) (by rfl) hl1 hl2 hbs2 ?_; intro vn wn hOn hGn hnn))
            have hDn4 := hD2.more (m := (mv0 0 ((c.toNat : Int) % 6))) (HeadsAt.zero _) hOn hGn
            go_roundg (400 - (k + 1))
            case measure => have := hg.out; omega
            case rel => exact ⟨k + 1, Ms ++ [(mv0 0 ((c.toNat : Int) % 6))], by omega, Lib.hid rfl, Lib.hid (by rw [List.length_append, hK.out]; rfl), Lib.hid (by rw [List.map_append, hM.out, hnx.out, hmv.out, ← hca.out]; rfl), Lib.hid (by rw [hnx.out, hre.out]; exact hDn4)⟩
      · have hk4 : k = 400 := by have := hK.out; omega
        have hO := Lib.hid hD.out.own
        have hfin := Lib.hid (moves_of (l := l) hk (.inr hk4))
        have hlt2 : decide (Ms.length < 400) = false := by simp; omega
        clear hr ht hl2 hk4
        go_wp2
        go_ret
        exact ⟨_, Ms, rfl, hO.out, hM.out.trans hfin.out, hD.out.hds, hD.out.low⟩
end Go.Proofs.Ytinlahahbhpppaa
