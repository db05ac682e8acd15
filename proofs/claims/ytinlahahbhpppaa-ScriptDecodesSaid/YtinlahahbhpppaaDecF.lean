/- The reference's Decode. -/
import Derived.Test.YtinlahahbhpppaaDecC
import Derived.Test.YtinlahahbhpppaaDecD
namespace Go.Proofs.Ytinlahahbhpppaa
set_option linter.unusedSimpArgs false
open Go.RowKit Go.Deep
abbrev tMvR : TypeId := 38
theorem infoMvR : (Try.prog.info? tMvR).map (·.size) = some 24 := by kernel_rfl
theorem infoF1 : (Try.prog.info? tF1).map (·.size) = some 1 := by kernel_rfl
theorem infoF2 : (Try.prog.info? tF2).map (·.size) = some 1 := by kernel_rfl
theorem wholeMvR : (Try.prog.info? tMvR).map (fun i => (i.zero, i.size, i.bytes)) = some (some (.agg zMvA), 24, 288) := by kernel_rfl
/-- the reference's state while it reads -/
structure RDS (w0 : World) (NX TX : Nat) (l0 r : List UInt8) (v : Value) (Ms : List Mv) (w : World) : Prop where
  rf : RfAt (w0.heap.size + 1) w0.heap.size l0 r w
  nx : Blk w NX #[nxV (w0.heap.size + 1)] tF1
  tx : Blk w TX #[txV NX] tF2
  own : OwnG tMvR 24 encMv w w0.heap.size v Ms
  hds : ∀ m ∈ Ms, HeadsAt w m.op
  low : Below w0.heap.size w0 w
section
variable {w0 w w' : World} {p NX TX : Nat} {l0 r r' : List UInt8} {v v' : Value} {Ms : List Mv} {m : Mv} {cs cs' : Array Value} {o : OpV}
theorem RDS.turn (h : RDS w0 NX TX l0 r v Ms w) (h1 : RfAt (w0.heap.size + 1) w0.heap.size l0 r' w') (h2 : w.grownBy w' (some (w0.heap.size + 1))) : RDS w0 NX TX l0 r' v Ms w' := by
  obtain ⟨cs, hL⟩ := h.rf.blk
  have hne := OwnG.apart (by decide) h.own hL
  exact ⟨h1, h.rf.other h.nx (by decide) h2, h.rf.other h.tx (by decide) h2, h.own.kept (Only.of_grown (S := fun i => i = w0.heap.size + 1) h2 (fun i e => (Option.some.inj e).symm)) (fun g hg e => hne (by rw [hg, e])), fun m hm => (h.hds m hm).grown hL (by decide) h2, below_only h.low h2 h.low.size (Nat.le_succ _)⟩
theorem RDS.alloc (h : RDS w0 NX TX l0 r v Ms w) (ob : Obj) : RDS w0 NX TX l0 r v Ms (w.alloc ob) := by
  have hb : Below w.heap.size w (w.alloc ob) := (Below.refl _ _).alloc (Nat.le_refl _) _
  exact ⟨h.rf.later hb, h.nx.later hb, h.tx.later hb, h.own.later hb, fun m hm => (h.hds m hm).later hb, h.low.then (Nat.le_refl _) hb⟩
theorem RDS.fresh (h : RDS w0 NX TX l0 r v Ms w) : v.ownBlock ≠ some w.heap.size := fun e => absurd (World.ownsRow.lt h.own _ e).2 (Nat.lt_irrefl _)
theorem blk_ne {T T' : TypeId} {q : Nat} {cs cs' : Array Value} (h : Blk w p cs T) (h' : Blk w q cs' T') (hT : T ≠ T') : p ≠ q := by
  rintro rfl
  unfold Blk at h h'
  rw [h] at h'
  have := Option.some.inj h'
  injection this with _ h4 _
  exact hT h4
theorem RDS.set (h : RDS w0 NX TX l0 r v Ms w) (hp : Blk w p cs tMvR) (hne : v.ownBlock ≠ some p) (hge : w0.heap.size ≤ p) (hg : w.grownBy w' (some p)) : RDS w0 NX TX l0 r v Ms w' :=
  ⟨h.rf.grown hp (by decide) (by decide) hg, h.nx.grown hg (fun e => blk_ne hp h.nx (by decide) (Option.some.inj e)), h.tx.grown hg (fun e => blk_ne hp h.tx (by decide) (Option.some.inj e)), h.own.kept (Only.of_grown (S := fun i => i = p) hg (fun i e => (Option.some.inj e).symm)) (fun g hg e => hne (by rw [hg, e])), fun m hm => (h.hds m hm).grown hp (by decide) hg, below_only h.low hg h.low.size hge⟩
theorem RDS.more (h : RDS w0 NX TX l0 r v Ms w) (hm : HeadsAt w m.op) (ho : OwnG tMvR 24 encMv w' w0.heap.size v' (Ms ++ [m])) (hg : (w.alloc (.cells cs tMvR)).grownBy w' v.ownBlock) : RDS w0 NX TX l0 r v' (Ms ++ [m]) w' := by
  have ha := h.alloc (.cells cs tMvR)
  have hb : Below w.heap.size w (w.alloc (.cells cs tMvR)) := (Below.refl _ _).alloc (Nat.le_refl _) _
  have hn : ∀ H n u, Blk (w.alloc (.cells cs tMvR)) H #[.string n, .string u] 52 → v.ownBlock ≠ some H := fun H n u hb => OwnG.apart (by decide) ha.own hb
  have hk : ∀ g, v.ownBlock = some g → ∃ c, Blk (w.alloc (.cells cs tMvR)) g c tMvR := fun g hg => by
    rcases RowB.of_own encMv_len ha.own with ⟨e, _⟩ | ⟨g', cap, e, _, hr⟩
    · rw [e] at hg; simp [Value.ownBlock] at hg
    · rw [e] at hg
      obtain rfl : g' = g := by simpa [Value.ownBlock] using hg
      obtain ⟨cur, h1, _⟩ := hr.heap
      exact ⟨cur, h1⟩
  have hrf : RfAt (w0.heap.size + 1) w0.heap.size l0 r w' := by
    cases e : v.ownBlock with
    | none =>
      rw [e] at hg
      obtain ⟨⟨cur, fr, h1, h2, h3⟩, off, cap, hL, h5⟩ := ha.rf
      exact ⟨⟨cur, fr, (hg.block _ (Array.getElem?_eq_some_iff.1 h1).1 (fun e => by cases e)).trans h1, h2, h3⟩, off, cap, hL.grown hg (fun e => by cases e), h5⟩
    | some g =>
      rw [e] at hg
      obtain ⟨c, hc⟩ := hk g e
      exact ha.rf.grown hc (by decide) (by decide) hg
  refine ⟨hrf, ha.nx.grown hg (OwnG.apart (by decide) ha.own ha.nx), ha.tx.grown hg (OwnG.apart (by decide) ha.own ha.tx), ho, fun x hx => ?_, below_append h.low h.own hg h.low.size⟩
  rcases List.mem_append.1 hx with hx | hx
  · exact (ha.hds x hx).row hg hn
  · rw [List.mem_singleton.1 hx]
    exact (hm.later hb).row hg hn
/-- and a move that it fills -/
structure RDB (w0 : World) (NX TX : Nat) (l0 r : List UInt8) (v : Value) (Ms : List Mv) (p : Nat) (o : OpV) (cs : Array Value) (w : World) : Prop where
  s : RDS w0 NX TX l0 r v Ms w
  b : Blk w p cs tMvR
  hd : HeadsAt w o
  fr : v.ownBlock ≠ some p
  ge : w0.heap.size ≤ p
theorem RDB.pick (h : RDB w0 NX TX l0 r v Ms p o cs w) (h1 : RfAt (w0.heap.size + 1) w0.heap.size l0 r' w') (h2 : w.grownBy w' (some (w0.heap.size + 1))) : RDB w0 NX TX l0 r' v Ms p o cs w' := by
  obtain ⟨c, hL⟩ := h.s.rf.blk
  exact ⟨h.s.turn h1 h2, h.s.rf.other h.b (by decide) h2, h.hd.grown hL (by decide) h2, h.fr, h.ge⟩
theorem RDB.set (h : RDB w0 NX TX l0 r v Ms p o cs w) (h1 : Blk w' p cs' tMvR) (h2 : w.grownBy w' (some p)) : RDB w0 NX TX l0 r v Ms p o cs' w' :=
  ⟨h.s.set h.b h.fr h.ge h2, h1, h.hd.grown h.b (by decide) h2, h.fr, h.ge⟩
theorem RDB.alloc (h : RDB w0 NX TX l0 r v Ms p o cs w) (ob : Obj) : RDB w0 NX TX l0 r v Ms p o cs (w.alloc ob) := by
  have hb : Below w.heap.size w (w.alloc ob) := (Below.refl _ _).alloc (Nat.le_refl _) _
  exact ⟨h.s.alloc ob, h.b.alloc _, h.hd.later hb, h.fr, h.ge⟩
end
theorem names_empty {k : Nat} (h : k < 4) : (names0.getD k ⟨#[]⟩).toList.isEmpty = decide (k = 0) := by
  rw [Lib.toList_data]
  obtain rfl | rfl | rfl | rfl : k = 0 ∨ k = 1 ∨ k = 2 ∨ k = 3 := by omega
  all_goals rfl
set_option maxRecDepth 100000 in
set_option maxHeartbeats 8000000 in
theorem decodeR (s : ByteArray) (w : World) (hM : MaxL w) :
    Calls Try.prog 4 #[.string s] w fun e w' => ∃ (v : Value) (Ms : List Mv), e = .returned v ∧ OwnG tMvR 24 encMv w' w.heap.size v Ms ∧ Ms.map Mv.d = movesL s.data.toList ∧ (∀ m ∈ Ms, HeadsAt w' m.op) ∧ Below w.heap.size w w' := by
  have hcv := fun w => run_bytes_of_string (P := Try.prog) w 9 42 5 s Try.underlying9 Try.underlying42 Try.underlying5
  have hmf : ∀ (fn : Fn) (first cap : Array Value) (w : World), (Instr.makeFunc fn first cap).run Try.prog w = .ok (.func fn first cap) w := fun _ _ _ _ => rfl
  have hb0 := BytesAt.made w s (grownCap w s.size 0 5) ((bytesRow s (grownCap w s.size 0 5)).size) ((bytesRow s (grownCap w s.size 0 5)).size + 1) (bytesRow_size s _)
  have hcap : s.size ≤ grownCap w s.size 0 5 := grownCap_ge w s.size 0 _
  obtain ⟨cp, hcp⟩ : ∃ cp, cp = grownCap w s.size 0 5 := ⟨_, rfl⟩
  rw [← hcp] at hb0 hcap
  have hcv1 := hcv w
  rw [← hcp] at hcv1
  clear hcv
  have hcv := hcv1
  clear hcv1 hcp
  have hB0 : Below w.heap.size w (((w.alloc (.cells (bytesRow s cp) 5 ((bytesRow s cp).size, (bytesRow s cp).size + 1))).alloc (.cells #[.slice (some ⟨w.heap.size, 0, none⟩) s.size cp] tBy)).alloc (.cells #[.nilFunc] tF1)).drew := below_drewN ((((Below.refl _ _).alloc (Nat.le_refl _) _).alloc (by simp) _).alloc (by simp; omega) _) 1
  have hbB : BytesAt (((w.alloc (.cells (bytesRow s cp) 5 ((bytesRow s cp).size, (bytesRow s cp).size + 1))).alloc (.cells #[.slice (some ⟨w.heap.size, 0, none⟩) s.size cp] tBy)).alloc (.cells #[.nilFunc] tF1)).drew w.heap.size s.data.toList :=
    BytesAt.laterD (w := w.alloc (.cells (bytesRow s cp) 5 ((bytesRow s cp).size, (bytesRow s cp).size + 1))) hb0 (below_drewN (((Below.refl _ _).alloc (Nat.le_refl _) _).alloc (by simp) _) 1)
  have hbL : Blk (((w.alloc (.cells (bytesRow s cp) 5 ((bytesRow s cp).size, (bytesRow s cp).size + 1))).alloc (.cells #[.slice (some ⟨w.heap.size, 0, none⟩) s.size cp] tBy)).alloc (.cells #[.nilFunc] tF1)).drew (w.heap.size + 1) #[.slice (some ⟨w.heap.size, 0, none⟩) s.size cp] tBy := by
    have := (Blk.new (w.alloc (.cells (bytesRow s cp) 5 ((bytesRow s cp).size, (bytesRow s cp).size + 1))) #[.slice (some ⟨w.heap.size, 0, none⟩) s.size cp] tBy).alloc (.cells #[.nilFunc] tF1)
    exact Blk.drew (by simpa using this)
  have hbN : Blk (((w.alloc (.cells (bytesRow s cp) 5 ((bytesRow s cp).size, (bytesRow s cp).size + 1))).alloc (.cells #[.slice (some ⟨w.heap.size, 0, none⟩) s.size cp] tBy)).alloc (.cells #[.nilFunc] tF1)).drew (w.heap.size + 1 + 1) #[.nilFunc] tF1 := by
    have := (Blk.new ((w.alloc (.cells (bytesRow s cp) 5 ((bytesRow s cp).size, (bytesRow s cp).size + 1))).alloc (.cells #[.slice (some ⟨w.heap.size, 0, none⟩) s.size cp] tBy)) #[.nilFunc] tF1)
    exact Blk.drew (by simpa using this)
  have hRf : RfAt (w.heap.size + 1) w.heap.size s.data.toList s.data.toList _ := ⟨hbB, 0, cp, by rw [← sz_len]; exact hbL, by rw [← sz_len]; exact hcap, .inr rfl⟩
  have hs1 : 0 < (#[Value.nilFunc] : Array Value).size := by simp
  obtain ⟨l, hl⟩ : ∃ l, l = s.data.toList := ⟨_, rfl⟩
  rw [← hl] at hRf
  rw [← hl]
  have hRH := Lib.hid hRf
  have hMH := Lib.hid hM
  clear hb0 hbB hbL hRf hM hl hcap
  go_enter Try.func4, Try.ntmps4
  go_upto_region 5 with (first
    | (refine wpList_store_cell rfl _ _ _ (by rfl) (w.heap.size + 1 + 1) 0 (by rfl) hbN hs1 (nxV (w.heap.size + 1)) (by rfl) (by rfl) (by rfl) infoF1 ?_; intro w3 hb3 hg3; have hB3 := below_only hB0 hg3 hB0.size (by omega); have hR3 := hRH.out.grown hbN (by decide) (by decide) hg3; have hZ := Blk.new w3 #[.nilFunc] tF2; have hBz := hB3.alloc hB3.size (.cells #[.nilFunc] tF2); have hRz := hR3.later ((Below.refl _ _).alloc (Nat.le_refl _) (.cells #[.nilFunc] tF2)); have hNz := hb3.alloc (.cells #[.nilFunc] tF2); clear hB0 hg3 hRH hR3 hbN hb3)
    | (refine wpList_store_cell rfl _ _ _ (by rfl) w3.heap.size 0 (by rfl) hZ hs1 (txV (w.heap.size + 1 + 1)) (by rfl) (by rfl) (by rfl) infoF2 ?_; intro w4 hb4 hg4; have hB4 := below_only hBz hg4 hBz.size hB3.size; have hR4 := hRz.grown hZ (by decide) (by decide) hg4; have hN4 := hNz.grown hg4 (fun e => blk_ne hZ hNz (by decide) (Option.some.inj e)); clear hBz hRz hNz hZ hg4))
  have hD0 : RDS w (w.heap.size + 1 + 1) w3.heap.size l l (.slice none 0 0) [] w4 := ⟨hR4, hN4, hb4, OwnG.nil _ _, fun m hm => absurd hm List.not_mem_nil, hB4⟩
  clear hR4 hN4 hb4 hB4 hB3 hs1
  generalize hNX : w.heap.size + 1 + 1 = NX at hD0 ⊢
  generalize w3.heap.size = TX at hD0 ⊢
  clear hNX w3
  go_wp2_with fail
  go_loopg [7, 8, 9, 10, 11, 12, 34, 42] 400 (fun g v7 _ _ _ _ _ _ _ wr => ∃ (k : Nat) (Ms : List Mv), k ≤ 400 ∧ Hid (g = 400 - k) ∧ Hid (Ms.length = k) ∧ Hid (Ms.map Mv.d = (decN k l).1) ∧ Hid (RDS w NX TX l (decN k l).2 v7 Ms wr))
  case atStart => exact ⟨0, [], by omega, Lib.hid rfl, Lib.hid rfl, Lib.hid rfl, Lib.hid hD0⟩
  case round =>
    clear hD0
    obtain ⟨k, Ms, hk, hg, hK, hM, hD⟩ := hrel
    obtain ⟨a3, cap3, rfl, hs3⟩ := OwnG.shape encMv_len hD.out.own
    clear hs3
    obtain ⟨off, cap, hL, hle, hdd⟩ := hD.out.rf.lf
    clear hle hdd
    cases hr : (decN k l).2 with
    | nil =>
      rw [hr] at hL
      have c0 : _ = some (Value.slice (some ⟨w.heap.size, off, none⟩) 0 cap) := hL.cell 0 rfl
      have hO := Lib.hid hD.out.own
      have hfin := Lib.hid (moves_of (l := l) hk (.inl hr))
      clear hr hL
      go_wp2
      go_ret
      exact ⟨_, Ms, rfl, hO.out, hM.out.trans hfin.out, hD.out.hds, hD.out.low⟩
    | cons c r =>
      rw [hr, List.length_cons] at hL
      have hq0 : 0 < r.length + 1 := by omega
      by_cases hlt : Ms.length < 400
      · have hc := bd8 c
        have hnx := Lib.hid (dec_next hr)
        have hDr := hD.out
        rw [hr] at hDr
        have hKl : k < 400 := by have := hK.out; omega
        have hp := nextP hDr.rf 256 (by omega) (by omega)
        have hpc : pk (c :: r) 0 256 = c.toNat := by
          have := c.toNat_lt
          show c.toNat % 256 = c.toNat
          omega
        rw [hpc, List.tail_cons] at hp
        have hDrH := Lib.hid hDr
        have c0 : _ = some (Value.slice (some ⟨w.heap.size, off, none⟩) (r.length + 1) cap) := hL.cell 0 rfl
        have cN : _ = some (nxV (w.heap.size + 1)) := hDr.nx.cell 0 rfl
        obtain ⟨q, hq⟩ : ∃ q, q = r.length + 1 := ⟨_, rfl⟩
        rw [← hq] at c0 hq0
        clear hr hL hpc hDr hq
        go_wp2_with fail
        refine hp.mono ?_
        rintro e w1 ⟨rfl, h1, h2⟩
        have hS1 := hDrH.out.turn h1 h2
        have hZ := Blk.new w1 zMvA tMvR
        have hSz := hS1.alloc (.cells zMvA tMvR)
        have hfr := hS1.fresh
        have hge := hS1.low.size
        clear hp h1 h2 c0 cN hS1
        have hl1 : Ms.length + 1 ≤ maxLen := by unfold maxLen; omega
        have hl2 : (Ms.length + 1) * 288 ≤ 140737488355328 := by omega
        have hcast : ((c.toNat : Int) % 6) = ((c.toNat % 6 : Nat) : Int) := by omega
        have hca := Lib.hid hcast
        clear hcast
        by_cases hq : c.toNat / 6 % 4 = 1
        · have hqa : ((c.toNat : Int) / 6 % 4 == 1) = true := by simp; omega
          have hqb : ((c.toNat : Int) / 6 % 4 == 2) = false := by simp; omega
          have hmv := Lib.hid (show mvOf c r = ⟨1, (c.toNat % 6 : Nat), opS r none 0⟩ from by unfold mvOf; rw [if_pos hq])
          have hre := Lib.hid (show restOf c r = r.drop 16 from by unfold restOf; rw [if_pos hq])
          clear hq
          have n0 := pk_lt r 0 (n := 10) (by omega)
          have n1 := pk_lt r 1 (n := 2) (by omega)
          have n2 := pk_lt r 2 (n := 4) (by omega)
          have n3 := pk_lt r 3 (n := 4) (by omega)
          have n4 := pk_lt r 4 (n := 4) (by omega)
          have n5 := pk_lt r 5 (n := 4) (by omega)
          have n6 := pk_lt r 6 (n := 4) (by omega)
          have n7 := pk_lt r 7 (n := 2) (by omega)
          have n8 := pk_lt r 8 (n := 4) (by omega)
          have n9 := pk_lt r 9 (n := 8) (by omega)
          have n10 := pk_lt r 10 (n := 2) (by omega)
          have n11 := pk_lt r 11 (n := 2) (by omega)
          have n12 := pk_lt r 12 (n := 2) (by omega)
          have n13 := pk_lt r 13 (n := 4) (by omega)
          have n14 := pk_lt r 14 (n := 4) (by omega)
          have n15 := pk_lt r 15 (n := 10) (by omega)
          have hs3 : 0 < (mv0 0 ((c.toNat : Int) % 6)).arr.size := mv_sz _ _
          go_wp2_with (first
            | (refine wpList_store_blk rfl tMvR _ _ rfl _ rfl hZ (mv0 0 ((c.toNat : Int) % 6)).arr rfl rfl infoMvR (mv_one _) ?_; intro w2 hb2 hg2; have hX2 : RDB w NX TX l r (.slice a3 Ms.length cap3) Ms w1.heap.size zOpV (mv0 0 ((c.toNat : Int) % 6)).arr w2 := ⟨hSz.set hZ hfr hge hg2, hb2, HeadsAt.zero _, hfr, hge⟩; clear hZ hSz hb2 hg2)
            | (refine wpList_store_cell rfl _ _ _ (by rfl) w1.heap.size 0 (by rfl) hX2.b hs3 (.int .i64 1) (by rfl) (by rfl) (by rfl) infoIntD ?_; intro w3 hb3 hg3; rw [mv_kind] at hb3; have hX3 := hX2.set (cs' := #[.int .i64 1, .int .i64 ((c.toNat : Int) % 6), .int .i64 0, .int .i64 0, .bool false, .string ⟨#[]⟩, .int .i64 0, .bool false, .string ⟨#[]⟩, .int .i64 0, .string ⟨#[]⟩, .string ⟨#[]⟩, .string ⟨#[]⟩, .slice none 0 0, .bool false, .string ⟨#[]⟩, .bool false, .string ⟨#[]⟩, .string ⟨#[]⟩, .string ⟨#[]⟩, .string ⟨#[]⟩, .int .i64 0, .bool false, .int .i64 0]) hb3 hg3; have cN3 : _ = some (nxV (w.heap.size + 1)) := hX3.s.nx.cell 0 rfl; have cT3 : _ = some (txV NX) := hX3.s.tx.cell 0 rfl; clear hb3 hg3 hs3 hX2))
          refine (nextD (m := r) (k := 0) hX3.s.rf 10 ⟨by omega, by omega⟩).mono ?_
          rintro e w4 ⟨rfl, h1, h2⟩
          have hX4 := hX3.pick h1 h2
          clear h1 h2 cN3 cT3
          have cN4 : _ = some (nxV (w.heap.size + 1)) := hX4.s.nx.cell 0 rfl
          have cT4 : _ = some (txV NX) := hX4.s.tx.cell 0 rfl
          clear hX3
          have hs5 : 2 < (#[.int .i64 1, .int .i64 ((c.toNat : Int) % 6), .int .i64 (1 + ((pk r 0 10 : Nat) : Int)), .int .i64 0, .bool false, .string ⟨#[]⟩, .int .i64 0, .bool false, .string ⟨#[]⟩, .int .i64 0, .string ⟨#[]⟩, .string ⟨#[]⟩, .string ⟨#[]⟩, .slice none 0 0, .bool false, .string ⟨#[]⟩, .bool false, .string ⟨#[]⟩, .string ⟨#[]⟩, .string ⟨#[]⟩, .string ⟨#[]⟩, .int .i64 0, .bool false, .int .i64 0] : Array Value).size := by simp
          go_wp2_with (refine wpList_store_cell rfl _ _ _ (by rfl) w1.heap.size 2 (by rfl) hX4.b hs5 (.int .i64 (1 + ((pk r 0 10 : Nat) : Int))) (by first | rfl | exact congrArg Value.bool (eq1D _) | exact congrArg Value.bool (eq3D _) | exact congrArg (Value.int .i64) (Int.add_comm _ _)) (by rfl) (by rfl) infoIntD ?_; intro w5 hb5 hg5; have hX5 := hX4.set (cs' := #[.int .i64 1, .int .i64 ((c.toNat : Int) % 6), .int .i64 (1 + ((pk r 0 10 : Nat) : Int)), .int .i64 0, .bool false, .string ⟨#[]⟩, .int .i64 0, .bool false, .string ⟨#[]⟩, .int .i64 0, .string ⟨#[]⟩, .string ⟨#[]⟩, .string ⟨#[]⟩, .slice none 0 0, .bool false, .string ⟨#[]⟩, .bool false, .string ⟨#[]⟩, .string ⟨#[]⟩, .string ⟨#[]⟩, .string ⟨#[]⟩, .int .i64 0, .bool false, .int .i64 0]) hb5 hg5; have cN5 : _ = some (nxV (w.heap.size + 1)) := hX5.s.nx.cell 0 rfl; have cT5 : _ = some (txV NX) := hX5.s.tx.cell 0 rfl; clear hb5 hg5 hs5; clear hX4 cN4 cT4)
          refine (nextD (m := r) (k := 1) hX5.s.rf 2 ⟨by omega, by omega⟩).mono ?_
          rintro e w6 ⟨rfl, h1, h2⟩
          have hX6 := hX5.pick h1 h2
          clear h1 h2 cN5 cT5
          have cN6 : _ = some (nxV (w.heap.size + 1)) := hX6.s.nx.cell 0 rfl
          have cT6 : _ = some (txV NX) := hX6.s.tx.cell 0 rfl
          clear hX5
          have hs7 : 3 < (#[.int .i64 1, .int .i64 ((c.toNat : Int) % 6), .int .i64 (1 + ((pk r 0 10 : Nat) : Int)), .int .i64 ((pk r 1 2 : Nat) : Int), .bool false, .string ⟨#[]⟩, .int .i64 0, .bool false, .string ⟨#[]⟩, .int .i64 0, .string ⟨#[]⟩, .string ⟨#[]⟩, .string ⟨#[]⟩, .slice none 0 0, .bool false, .string ⟨#[]⟩, .bool false, .string ⟨#[]⟩, .string ⟨#[]⟩, .string ⟨#[]⟩, .string ⟨#[]⟩, .int .i64 0, .bool false, .int .i64 0] : Array Value).size := by simp
          go_wp2_with (refine wpList_store_cell rfl _ _ _ (by rfl) w1.heap.size 3 (by rfl) hX6.b hs7 (.int .i64 ((pk r 1 2 : Nat) : Int)) (by first | rfl | exact congrArg Value.bool (eq1D _) | exact congrArg Value.bool (eq3D _) | exact congrArg (Value.int .i64) (Int.add_comm _ _)) (by rfl) (by rfl) infoIntD ?_; intro w7 hb7 hg7; have hX7 := hX6.set (cs' := #[.int .i64 1, .int .i64 ((c.toNat : Int) % 6), .int .i64 (1 + ((pk r 0 10 : Nat) : Int)), .int .i64 ((pk r 1 2 : Nat) : Int), .bool false, .string ⟨#[]⟩, .int .i64 0, .bool false, .string ⟨#[]⟩, .int .i64 0, .string ⟨#[]⟩, .string ⟨#[]⟩, .string ⟨#[]⟩, .slice none 0 0, .bool false, .string ⟨#[]⟩, .bool false, .string ⟨#[]⟩, .string ⟨#[]⟩, .string ⟨#[]⟩, .string ⟨#[]⟩, .int .i64 0, .bool false, .int .i64 0]) hb7 hg7; have cN7 : _ = some (nxV (w.heap.size + 1)) := hX7.s.nx.cell 0 rfl; have cT7 : _ = some (txV NX) := hX7.s.tx.cell 0 rfl; clear hb7 hg7 hs7; clear hX6 cN6 cT6)
          refine (originR (l := r) (k := 2) (hMH.out.later hX7.s.low) hX7.s.rf hX7.s.nx hX7.s.tx).mono ?_
          rintro e w8 ⟨rfl, h1, h2⟩
          have hX8 := hX7.pick h1 h2
          clear h1 h2 cN7 cT7
          have cN8 : _ = some (nxV (w.heap.size + 1)) := hX8.s.nx.cell 0 rfl
          have cT8 : _ = some (txV NX) := hX8.s.tx.cell 0 rfl
          clear hX7
          have hs9 : 7 ≤ (#[.int .i64 1, .int .i64 ((c.toNat : Int) % 6), .int .i64 (1 + ((pk r 0 10 : Nat) : Int)), .int .i64 ((pk r 1 2 : Nat) : Int), .bool (orgK (pk r 2 4)).sec, .string (orgK (pk r 2 4)).host, .int .i64 (orgK (pk r 2 4)).port, .bool false, .string ⟨#[]⟩, .int .i64 0, .string ⟨#[]⟩, .string ⟨#[]⟩, .string ⟨#[]⟩, .slice none 0 0, .bool false, .string ⟨#[]⟩, .bool false, .string ⟨#[]⟩, .string ⟨#[]⟩, .string ⟨#[]⟩, .string ⟨#[]⟩, .int .i64 0, .bool false, .int .i64 0] : Array Value).size := by simp
          go_wp2_with (refine wpList_store_sub rfl _ _ _ (by rfl) w1.heap.size 4 (by rfl) hX8.b #[.bool (orgK (pk r 2 4)).sec, .string (orgK (pk r 2 4)).host, .int .i64 (orgK (pk r 2 4)).port] hs9 (by rfl) (by simp [Value.oneCell']) infoOgD #[.int .i64 1, .int .i64 ((c.toNat : Int) % 6), .int .i64 (1 + ((pk r 0 10 : Nat) : Int)), .int .i64 ((pk r 1 2 : Nat) : Int), .bool (orgK (pk r 2 4)).sec, .string (orgK (pk r 2 4)).host, .int .i64 (orgK (pk r 2 4)).port, .bool false, .string ⟨#[]⟩, .int .i64 0, .string ⟨#[]⟩, .string ⟨#[]⟩, .string ⟨#[]⟩, .slice none 0 0, .bool false, .string ⟨#[]⟩, .bool false, .string ⟨#[]⟩, .string ⟨#[]⟩, .string ⟨#[]⟩, .string ⟨#[]⟩, .int .i64 0, .bool false, .int .i64 0] (by rfl) ?_; intro w9 hb9 hg9; have hX9 := hX8.set hb9 hg9; have cN9 : _ = some (nxV (w.heap.size + 1)) := hX9.s.nx.cell 0 rfl; have cT9 : _ = some (txV NX) := hX9.s.tx.cell 0 rfl; clear hb9 hg9 hs9; clear hX8 cN8 cT8)
          refine (originR (l := r) (k := 3) (hMH.out.later hX9.s.low) hX9.s.rf hX9.s.nx hX9.s.tx).mono ?_
          rintro e w10 ⟨rfl, h1, h2⟩
          have hX10 := hX9.pick h1 h2
          clear h1 h2 cN9 cT9
          have cN10 : _ = some (nxV (w.heap.size + 1)) := hX10.s.nx.cell 0 rfl
          have cT10 : _ = some (txV NX) := hX10.s.tx.cell 0 rfl
          clear hX9
          have hs11 : 10 ≤ (#[.int .i64 1, .int .i64 ((c.toNat : Int) % 6), .int .i64 (1 + ((pk r 0 10 : Nat) : Int)), .int .i64 ((pk r 1 2 : Nat) : Int), .bool (orgK (pk r 2 4)).sec, .string (orgK (pk r 2 4)).host, .int .i64 (orgK (pk r 2 4)).port, .bool (orgK (pk r 3 4)).sec, .string (orgK (pk r 3 4)).host, .int .i64 (orgK (pk r 3 4)).port, .string ⟨#[]⟩, .string ⟨#[]⟩, .string ⟨#[]⟩, .slice none 0 0, .bool false, .string ⟨#[]⟩, .bool false, .string ⟨#[]⟩, .string ⟨#[]⟩, .string ⟨#[]⟩, .string ⟨#[]⟩, .int .i64 0, .bool false, .int .i64 0] : Array Value).size := by simp
          go_wp2_with (refine wpList_store_sub rfl _ _ _ (by rfl) w1.heap.size 7 (by rfl) hX10.b #[.bool (orgK (pk r 3 4)).sec, .string (orgK (pk r 3 4)).host, .int .i64 (orgK (pk r 3 4)).port] hs11 (by rfl) (by simp [Value.oneCell']) infoOgD #[.int .i64 1, .int .i64 ((c.toNat : Int) % 6), .int .i64 (1 + ((pk r 0 10 : Nat) : Int)), .int .i64 ((pk r 1 2 : Nat) : Int), .bool (orgK (pk r 2 4)).sec, .string (orgK (pk r 2 4)).host, .int .i64 (orgK (pk r 2 4)).port, .bool (orgK (pk r 3 4)).sec, .string (orgK (pk r 3 4)).host, .int .i64 (orgK (pk r 3 4)).port, .string ⟨#[]⟩, .string ⟨#[]⟩, .string ⟨#[]⟩, .slice none 0 0, .bool false, .string ⟨#[]⟩, .bool false, .string ⟨#[]⟩, .string ⟨#[]⟩, .string ⟨#[]⟩, .string ⟨#[]⟩, .int .i64 0, .bool false, .int .i64 0] (by rfl) ?_; intro w11 hb11 hg11; have hX11 := hX10.set hb11 hg11; have cN11 : _ = some (nxV (w.heap.size + 1)) := hX11.s.nx.cell 0 rfl; have cT11 : _ = some (txV NX) := hX11.s.tx.cell 0 rfl; clear hb11 hg11 hs11; clear hX10 cN10 cT10)
          refine (textR (l := r) (k := 4) pathsL (hX11.alloc _).s.rf (hX11.alloc _).s.nx (Blk.new _ _ _) ⟨by decide, by decide⟩).mono ?_
          rintro e w12 ⟨rfl, h1, h2⟩
          have hX12 := (hX11.alloc _).pick h1 h2
          clear h1 h2 cN11 cT11
          have cN12 : _ = some (nxV (w.heap.size + 1)) := hX12.s.nx.cell 0 rfl
          have cT12 : _ = some (txV NX) := hX12.s.tx.cell 0 rfl
          clear hX11
          have hs13 : 10 < (#[.int .i64 1, .int .i64 ((c.toNat : Int) % 6), .int .i64 (1 + ((pk r 0 10 : Nat) : Int)), .int .i64 ((pk r 1 2 : Nat) : Int), .bool (orgK (pk r 2 4)).sec, .string (orgK (pk r 2 4)).host, .int .i64 (orgK (pk r 2 4)).port, .bool (orgK (pk r 3 4)).sec, .string (orgK (pk r 3 4)).host, .int .i64 (orgK (pk r 3 4)).port, .string (pathsL.getD (pk r 4 4) ⟨#[]⟩), .string ⟨#[]⟩, .string ⟨#[]⟩, .slice none 0 0, .bool false, .string ⟨#[]⟩, .bool false, .string ⟨#[]⟩, .string ⟨#[]⟩, .string ⟨#[]⟩, .string ⟨#[]⟩, .int .i64 0, .bool false, .int .i64 0] : Array Value).size := by simp
          go_wp2_with (refine wpList_store_cell rfl _ _ _ (by rfl) w1.heap.size 10 (by rfl) hX12.b hs13 (.string (pathsL.getD (pk r 4 4) ⟨#[]⟩)) (by first | rfl | exact congrArg Value.bool (eq1D _) | exact congrArg Value.bool (eq3D _) | exact congrArg (Value.int .i64) (Int.add_comm _ _)) (by rfl) (by rfl) infoStrD ?_; intro w13 hb13 hg13; have hX13 := hX12.set (cs' := #[.int .i64 1, .int .i64 ((c.toNat : Int) % 6), .int .i64 (1 + ((pk r 0 10 : Nat) : Int)), .int .i64 ((pk r 1 2 : Nat) : Int), .bool (orgK (pk r 2 4)).sec, .string (orgK (pk r 2 4)).host, .int .i64 (orgK (pk r 2 4)).port, .bool (orgK (pk r 3 4)).sec, .string (orgK (pk r 3 4)).host, .int .i64 (orgK (pk r 3 4)).port, .string (pathsL.getD (pk r 4 4) ⟨#[]⟩), .string ⟨#[]⟩, .string ⟨#[]⟩, .slice none 0 0, .bool false, .string ⟨#[]⟩, .bool false, .string ⟨#[]⟩, .string ⟨#[]⟩, .string ⟨#[]⟩, .string ⟨#[]⟩, .int .i64 0, .bool false, .int .i64 0]) hb13 hg13; have cN13 : _ = some (nxV (w.heap.size + 1)) := hX13.s.nx.cell 0 rfl; have cT13 : _ = some (txV NX) := hX13.s.tx.cell 0 rfl; clear hb13 hg13 hs13; clear hX12 cN12 cT12)
          refine (textR (l := r) (k := 5) methsL (hX13.alloc _).s.rf (hX13.alloc _).s.nx (Blk.new _ _ _) ⟨by decide, by decide⟩).mono ?_
          rintro e w14 ⟨rfl, h1, h2⟩
          have hX14 := (hX13.alloc _).pick h1 h2
          clear h1 h2 cN13 cT13
          have cN14 : _ = some (nxV (w.heap.size + 1)) := hX14.s.nx.cell 0 rfl
          have cT14 : _ = some (txV NX) := hX14.s.tx.cell 0 rfl
          clear hX13
          have hs15 : 12 < (#[.int .i64 1, .int .i64 ((c.toNat : Int) % 6), .int .i64 (1 + ((pk r 0 10 : Nat) : Int)), .int .i64 ((pk r 1 2 : Nat) : Int), .bool (orgK (pk r 2 4)).sec, .string (orgK (pk r 2 4)).host, .int .i64 (orgK (pk r 2 4)).port, .bool (orgK (pk r 3 4)).sec, .string (orgK (pk r 3 4)).host, .int .i64 (orgK (pk r 3 4)).port, .string (pathsL.getD (pk r 4 4) ⟨#[]⟩), .string ⟨#[]⟩, .string (methsL.getD (pk r 5 4) ⟨#[]⟩), .slice none 0 0, .bool false, .string ⟨#[]⟩, .bool false, .string ⟨#[]⟩, .string ⟨#[]⟩, .string ⟨#[]⟩, .string ⟨#[]⟩, .int .i64 0, .bool false, .int .i64 0] : Array Value).size := by simp
          go_wp2_with (refine wpList_store_cell rfl _ _ _ (by rfl) w1.heap.size 12 (by rfl) hX14.b hs15 (.string (methsL.getD (pk r 5 4) ⟨#[]⟩)) (by first | rfl | exact congrArg Value.bool (eq1D _) | exact congrArg Value.bool (eq3D _) | exact congrArg (Value.int .i64) (Int.add_comm _ _)) (by rfl) (by rfl) infoStrD ?_; intro w15 hb15 hg15; have hX15 := hX14.set (cs' := #[.int .i64 1, .int .i64 ((c.toNat : Int) % 6), .int .i64 (1 + ((pk r 0 10 : Nat) : Int)), .int .i64 ((pk r 1 2 : Nat) : Int), .bool (orgK (pk r 2 4)).sec, .string (orgK (pk r 2 4)).host, .int .i64 (orgK (pk r 2 4)).port, .bool (orgK (pk r 3 4)).sec, .string (orgK (pk r 3 4)).host, .int .i64 (orgK (pk r 3 4)).port, .string (pathsL.getD (pk r 4 4) ⟨#[]⟩), .string ⟨#[]⟩, .string (methsL.getD (pk r 5 4) ⟨#[]⟩), .slice none 0 0, .bool false, .string ⟨#[]⟩, .bool false, .string ⟨#[]⟩, .string ⟨#[]⟩, .string ⟨#[]⟩, .string ⟨#[]⟩, .int .i64 0, .bool false, .int .i64 0]) hb15 hg15; have cN15 : _ = some (nxV (w.heap.size + 1)) := hX15.s.nx.cell 0 rfl; have cT15 : _ = some (txV NX) := hX15.s.tx.cell 0 rfl; clear hb15 hg15 hs15; clear hX14 cN14 cT14)
          have hp := textR (l := r) (k := 6) names0 (hX15.alloc (.cells (names0.map Value.string).toArray 9)).s.rf (hX15.alloc _).s.nx (Blk.new _ _ _) ⟨by decide, by decide⟩
          have hNe : (names0.getD (pk r 6 names0.length) ⟨#[]⟩).toList.isEmpty = decide (pk r 6 4 = 0) := by
            exact names_empty n6
          have hNh := Lib.hid (show headK (pk r 6 4) = if pk r 6 4 = 0 then [] else [(names0.getD (pk r 6 names0.length) ⟨#[]⟩, htmlS)] from rfl)
          obtain ⟨N, hN⟩ : ∃ N, N = names0.getD (pk r 6 names0.length) ⟨#[]⟩ := ⟨_, rfl⟩
          rw [← hN] at hp hNe hNh
          have hNH := Lib.hid hNe
          clear hN hNe
          refine hp.mono ?_
          rintro e w16 ⟨rfl, h1, h2⟩
          have hX16 := (hX15.alloc _).pick h1 h2
          clear h1 h2 hp cN15 cT15 hX15
          go_upto_if 91 with fail
          go_cut [] (fun wx => ∃ (a : Option Addr) (ch : Nat), Hid (RDB w NX TX l (r.drop 7) (.slice a3 Ms.length cap3) Ms w1.heap.size (opS r a ch) #[.int .i64 1, .int .i64 ((c.toNat : Int) % 6), .int .i64 (1 + ((pk r 0 10 : Nat) : Int)), .int .i64 ((pk r 1 2 : Nat) : Int), .bool (orgK (pk r 2 4)).sec, .string (orgK (pk r 2 4)).host, .int .i64 (orgK (pk r 2 4)).port, .bool (orgK (pk r 3 4)).sec, .string (orgK (pk r 3 4)).host, .int .i64 (orgK (pk r 3 4)).port, .string (pathsL.getD (pk r 4 4) ⟨#[]⟩), .string ⟨#[]⟩, .string (methsL.getD (pk r 5 4) ⟨#[]⟩), .slice a (headK (pk r 6 4)).length ch, .bool false, .string ⟨#[]⟩, .bool false, .string ⟨#[]⟩, .string ⟨#[]⟩, .string ⟨#[]⟩, .string ⟨#[]⟩, .int .i64 0, .bool false, .int .i64 0] wx))
          case first =>
            by_cases hq : pk r 6 4 = 0
            · have hX90 : RDB w NX TX l (r.drop 7) (.slice a3 Ms.length cap3) Ms w1.heap.size (opS r none 0) _ _ := ⟨hX16.s, hX16.b, .inl (by simp [opS, headK, hq]), hfr, hge⟩
              have hz := Lib.hid (show (headK (pk r 6 4)).length = 0 by simp [headK, hq])
              have hq3 : (!N.toList.isEmpty) = false := by rw [hNH.out]; simp [hq]
              clear hq
              go_wp2_with fail
              any_goals (first | exact absurd (show (!N.toList.isEmpty) = true by assumption) (by rw [show (!N.toList.isEmpty) = false by assumption]; decide) | skip)
              go_meet
              exact ⟨none, 0, Lib.hid (by rw [hz.out]; exact hX90)⟩
            · have hq3 : (!N.toList.isEmpty) = true := by rw [hNH.out]; simp [hq]
              have hz := Lib.hid (show headK (pk r 6 4) = [(N, htmlS)] by rw [hNh.out, if_neg hq])
              have hs90 : 13 < (#[.int .i64 1, .int .i64 ((c.toNat : Int) % 6), .int .i64 (1 + ((pk r 0 10 : Nat) : Int)), .int .i64 ((pk r 1 2 : Nat) : Int), .bool (orgK (pk r 2 4)).sec, .string (orgK (pk r 2 4)).host, .int .i64 (orgK (pk r 2 4)).port, .bool (orgK (pk r 3 4)).sec, .string (orgK (pk r 3 4)).host, .int .i64 (orgK (pk r 3 4)).port, .string (pathsL.getD (pk r 4 4) ⟨#[]⟩), .string ⟨#[]⟩, .string (methsL.getD (pk r 5 4) ⟨#[]⟩), .slice none 0 0, .bool false, .string ⟨#[]⟩, .bool false, .string ⟨#[]⟩, .string ⟨#[]⟩, .string ⟨#[]⟩, .string ⟨#[]⟩, .int .i64 0, .bool false, .int .i64 0] : Array Value).size := by simp
              clear hq
              go_wp2_with (refine wpList_store_cell rfl _ _ _ (by rfl) w1.heap.size 13 (by rfl) (hX16.alloc _).b hs90 (.slice (some ⟨w16.heap.size, 0, none⟩) 1 1) (by rfl) (by rfl) (by rfl) infoPsD ?_; intro w90 hb90 hg90; have hX90 := (hX16.alloc _).set hb90 hg90)
              any_goals (first | exact absurd (show (!N.toList.isEmpty) = true by assumption) (by rw [show (!N.toList.isEmpty) = false by assumption]; decide) | skip)
              go_meet
              refine ⟨some ⟨w16.heap.size, 0, none⟩, 1, Lib.hid ⟨hX90.s, ?_, .inr ⟨N, htmlS, w16.heap.size, hz.out, rfl, ?_⟩, hfr, hge⟩⟩
              · rw [hz.out]; exact hX90.b
              · exact (Blk.new _ _ _).grown hg90 (fun e => by have := Option.some.inj e; have := hX16.b.lt; omega)
          case rest =>
          obtain ⟨a, ch, hXH⟩ := hcut
          have hX91 := hXH.out
          have cN91 : _ = some (nxV (w.heap.size + 1)) := hX91.s.nx.cell 0 rfl
          have cT91 : _ = some (txV NX) := hX91.s.tx.cell 0 rfl
          clear hXH hX16 hNh hNH
          go_wp2_with fail
          refine (nextD (m := r) (k := 7) hX91.s.rf 2 ⟨by omega, by omega⟩).mono ?_
          rintro e w92 ⟨rfl, h1, h2⟩
          have hX92 := hX91.pick h1 h2
          clear h1 h2 cN91 cT91
          have cN92 : _ = some (nxV (w.heap.size + 1)) := hX92.s.nx.cell 0 rfl
          have cT92 : _ = some (txV NX) := hX92.s.tx.cell 0 rfl
          clear hX91
          have hs93 : 14 < (#[.int .i64 1, .int .i64 ((c.toNat : Int) % 6), .int .i64 (1 + ((pk r 0 10 : Nat) : Int)), .int .i64 ((pk r 1 2 : Nat) : Int), .bool (orgK (pk r 2 4)).sec, .string (orgK (pk r 2 4)).host, .int .i64 (orgK (pk r 2 4)).port, .bool (orgK (pk r 3 4)).sec, .string (orgK (pk r 3 4)).host, .int .i64 (orgK (pk r 3 4)).port, .string (pathsL.getD (pk r 4 4) ⟨#[]⟩), .string ⟨#[]⟩, .string (methsL.getD (pk r 5 4) ⟨#[]⟩), .slice a (headK (pk r 6 4)).length ch, .bool (decide (pk r 7 2 = 1)), .string ⟨#[]⟩, .bool false, .string ⟨#[]⟩, .string ⟨#[]⟩, .string ⟨#[]⟩, .string ⟨#[]⟩, .int .i64 0, .bool false, .int .i64 0] : Array Value).size := by simp
          go_wp2_with (refine wpList_store_cell rfl _ _ _ (by rfl) w1.heap.size 14 (by rfl) hX92.b hs93 (.bool (decide (pk r 7 2 = 1))) (by first | rfl | exact congrArg Value.bool (eq1D _) | exact congrArg Value.bool (eq3D _) | exact congrArg (Value.int .i64) (Int.add_comm _ _)) (by rfl) (by rfl) infoBoolD ?_; intro w93 hb93 hg93; have hX93 := hX92.set (cs' := #[.int .i64 1, .int .i64 ((c.toNat : Int) % 6), .int .i64 (1 + ((pk r 0 10 : Nat) : Int)), .int .i64 ((pk r 1 2 : Nat) : Int), .bool (orgK (pk r 2 4)).sec, .string (orgK (pk r 2 4)).host, .int .i64 (orgK (pk r 2 4)).port, .bool (orgK (pk r 3 4)).sec, .string (orgK (pk r 3 4)).host, .int .i64 (orgK (pk r 3 4)).port, .string (pathsL.getD (pk r 4 4) ⟨#[]⟩), .string ⟨#[]⟩, .string (methsL.getD (pk r 5 4) ⟨#[]⟩), .slice a (headK (pk r 6 4)).length ch, .bool (decide (pk r 7 2 = 1)), .string ⟨#[]⟩, .bool false, .string ⟨#[]⟩, .string ⟨#[]⟩, .string ⟨#[]⟩, .string ⟨#[]⟩, .int .i64 0, .bool false, .int .i64 0]) hb93 hg93; have cN93 : _ = some (nxV (w.heap.size + 1)) := hX93.s.nx.cell 0 rfl; have cT93 : _ = some (txV NX) := hX93.s.tx.cell 0 rfl; clear hb93 hg93 hs93; clear hX92 cN92 cT92)
          refine (nextD (m := r) (k := 8) hX93.s.rf 4 ⟨by omega, by omega⟩).mono ?_
          rintro e w94 ⟨rfl, h1, h2⟩
          have hX94 := hX93.pick h1 h2
          clear h1 h2 cN93 cT93
          have cN94 : _ = some (nxV (w.heap.size + 1)) := hX94.s.nx.cell 0 rfl
          have cT94 : _ = some (txV NX) := hX94.s.tx.cell 0 rfl
          clear hX93
          have hs95 : 16 < (#[.int .i64 1, .int .i64 ((c.toNat : Int) % 6), .int .i64 (1 + ((pk r 0 10 : Nat) : Int)), .int .i64 ((pk r 1 2 : Nat) : Int), .bool (orgK (pk r 2 4)).sec, .string (orgK (pk r 2 4)).host, .int .i64 (orgK (pk r 2 4)).port, .bool (orgK (pk r 3 4)).sec, .string (orgK (pk r 3 4)).host, .int .i64 (orgK (pk r 3 4)).port, .string (pathsL.getD (pk r 4 4) ⟨#[]⟩), .string ⟨#[]⟩, .string (methsL.getD (pk r 5 4) ⟨#[]⟩), .slice a (headK (pk r 6 4)).length ch, .bool (decide (pk r 7 2 = 1)), .string ⟨#[]⟩, .bool (decide (pk r 8 4 = 3)), .string ⟨#[]⟩, .string ⟨#[]⟩, .string ⟨#[]⟩, .string ⟨#[]⟩, .int .i64 0, .bool false, .int .i64 0] : Array Value).size := by simp
          go_wp2_with (refine wpList_store_cell rfl _ _ _ (by rfl) w1.heap.size 16 (by rfl) hX94.b hs95 (.bool (decide (pk r 8 4 = 3))) (by first | rfl | exact congrArg Value.bool (eq1D _) | exact congrArg Value.bool (eq3D _) | exact congrArg (Value.int .i64) (Int.add_comm _ _)) (by rfl) (by rfl) infoBoolD ?_; intro w95 hb95 hg95; have hX95 := hX94.set (cs' := #[.int .i64 1, .int .i64 ((c.toNat : Int) % 6), .int .i64 (1 + ((pk r 0 10 : Nat) : Int)), .int .i64 ((pk r 1 2 : Nat) : Int), .bool (orgK (pk r 2 4)).sec, .string (orgK (pk r 2 4)).host, .int .i64 (orgK (pk r 2 4)).port, .bool (orgK (pk r 3 4)).sec, .string (orgK (pk r 3 4)).host, .int .i64 (orgK (pk r 3 4)).port, .string (pathsL.getD (pk r 4 4) ⟨#[]⟩), .string ⟨#[]⟩, .string (methsL.getD (pk r 5 4) ⟨#[]⟩), .slice a (headK (pk r 6 4)).length ch, .bool (decide (pk r 7 2 = 1)), .string ⟨#[]⟩, .bool (decide (pk r 8 4 = 3)), .string ⟨#[]⟩, .string ⟨#[]⟩, .string ⟨#[]⟩, .string ⟨#[]⟩, .int .i64 0, .bool false, .int .i64 0]) hb95 hg95; have cN95 : _ = some (nxV (w.heap.size + 1)) := hX95.s.nx.cell 0 rfl; have cT95 : _ = some (txV NX) := hX95.s.tx.cell 0 rfl; clear hb95 hg95 hs95; clear hX94 cN94 cT94)
          refine (textR (l := r) (k := 9) textsL (hX95.alloc _).s.rf (hX95.alloc _).s.nx (Blk.new _ _ _) ⟨by decide, by decide⟩).mono ?_
          rintro e w96 ⟨rfl, h1, h2⟩
          have hX96 := (hX95.alloc _).pick h1 h2
          clear h1 h2 cN95 cT95
          have cN96 : _ = some (nxV (w.heap.size + 1)) := hX96.s.nx.cell 0 rfl
          have cT96 : _ = some (txV NX) := hX96.s.tx.cell 0 rfl
          clear hX95
          have hs97 : 17 < (#[.int .i64 1, .int .i64 ((c.toNat : Int) % 6), .int .i64 (1 + ((pk r 0 10 : Nat) : Int)), .int .i64 ((pk r 1 2 : Nat) : Int), .bool (orgK (pk r 2 4)).sec, .string (orgK (pk r 2 4)).host, .int .i64 (orgK (pk r 2 4)).port, .bool (orgK (pk r 3 4)).sec, .string (orgK (pk r 3 4)).host, .int .i64 (orgK (pk r 3 4)).port, .string (pathsL.getD (pk r 4 4) ⟨#[]⟩), .string ⟨#[]⟩, .string (methsL.getD (pk r 5 4) ⟨#[]⟩), .slice a (headK (pk r 6 4)).length ch, .bool (decide (pk r 7 2 = 1)), .string ⟨#[]⟩, .bool (decide (pk r 8 4 = 3)), .string (textsL.getD (pk r 9 8) ⟨#[]⟩), .string ⟨#[]⟩, .string ⟨#[]⟩, .string ⟨#[]⟩, .int .i64 0, .bool false, .int .i64 0] : Array Value).size := by simp
          go_wp2_with (refine wpList_store_cell rfl _ _ _ (by rfl) w1.heap.size 17 (by rfl) hX96.b hs97 (.string (textsL.getD (pk r 9 8) ⟨#[]⟩)) (by first | rfl | exact congrArg Value.bool (eq1D _) | exact congrArg Value.bool (eq3D _) | exact congrArg (Value.int .i64) (Int.add_comm _ _)) (by rfl) (by rfl) infoStrD ?_; intro w97 hb97 hg97; have hX97 := hX96.set (cs' := #[.int .i64 1, .int .i64 ((c.toNat : Int) % 6), .int .i64 (1 + ((pk r 0 10 : Nat) : Int)), .int .i64 ((pk r 1 2 : Nat) : Int), .bool (orgK (pk r 2 4)).sec, .string (orgK (pk r 2 4)).host, .int .i64 (orgK (pk r 2 4)).port, .bool (orgK (pk r 3 4)).sec, .string (orgK (pk r 3 4)).host, .int .i64 (orgK (pk r 3 4)).port, .string (pathsL.getD (pk r 4 4) ⟨#[]⟩), .string ⟨#[]⟩, .string (methsL.getD (pk r 5 4) ⟨#[]⟩), .slice a (headK (pk r 6 4)).length ch, .bool (decide (pk r 7 2 = 1)), .string ⟨#[]⟩, .bool (decide (pk r 8 4 = 3)), .string (textsL.getD (pk r 9 8) ⟨#[]⟩), .string ⟨#[]⟩, .string ⟨#[]⟩, .string ⟨#[]⟩, .int .i64 0, .bool false, .int .i64 0]) hb97 hg97; have cN97 : _ = some (nxV (w.heap.size + 1)) := hX97.s.nx.cell 0 rfl; have cT97 : _ = some (txV NX) := hX97.s.tx.cell 0 rfl; clear hb97 hg97 hs97; clear hX96 cN96 cT96)
          refine (textR (l := r) (k := 10) uvL (hX97.alloc _).s.rf (hX97.alloc _).s.nx (Blk.new _ _ _) ⟨by decide, by decide⟩).mono ?_
          rintro e w98 ⟨rfl, h1, h2⟩
          have hX98 := (hX97.alloc _).pick h1 h2
          clear h1 h2 cN97 cT97
          have cN98 : _ = some (nxV (w.heap.size + 1)) := hX98.s.nx.cell 0 rfl
          have cT98 : _ = some (txV NX) := hX98.s.tx.cell 0 rfl
          clear hX97
          have hs99 : 18 < (#[.int .i64 1, .int .i64 ((c.toNat : Int) % 6), .int .i64 (1 + ((pk r 0 10 : Nat) : Int)), .int .i64 ((pk r 1 2 : Nat) : Int), .bool (orgK (pk r 2 4)).sec, .string (orgK (pk r 2 4)).host, .int .i64 (orgK (pk r 2 4)).port, .bool (orgK (pk r 3 4)).sec, .string (orgK (pk r 3 4)).host, .int .i64 (orgK (pk r 3 4)).port, .string (pathsL.getD (pk r 4 4) ⟨#[]⟩), .string ⟨#[]⟩, .string (methsL.getD (pk r 5 4) ⟨#[]⟩), .slice a (headK (pk r 6 4)).length ch, .bool (decide (pk r 7 2 = 1)), .string ⟨#[]⟩, .bool (decide (pk r 8 4 = 3)), .string (textsL.getD (pk r 9 8) ⟨#[]⟩), .string (uvL.getD (pk r 10 2) ⟨#[]⟩), .string ⟨#[]⟩, .string ⟨#[]⟩, .int .i64 0, .bool false, .int .i64 0] : Array Value).size := by simp
          go_wp2_with (refine wpList_store_cell rfl _ _ _ (by rfl) w1.heap.size 18 (by rfl) hX98.b hs99 (.string (uvL.getD (pk r 10 2) ⟨#[]⟩)) (by first | rfl | exact congrArg Value.bool (eq1D _) | exact congrArg Value.bool (eq3D _) | exact congrArg (Value.int .i64) (Int.add_comm _ _)) (by rfl) (by rfl) infoStrD ?_; intro w99 hb99 hg99; have hX99 := hX98.set (cs' := #[.int .i64 1, .int .i64 ((c.toNat : Int) % 6), .int .i64 (1 + ((pk r 0 10 : Nat) : Int)), .int .i64 ((pk r 1 2 : Nat) : Int), .bool (orgK (pk r 2 4)).sec, .string (orgK (pk r 2 4)).host, .int .i64 (orgK (pk r 2 4)).port, .bool (orgK (pk r 3 4)).sec, .string (orgK (pk r 3 4)).host, .int .i64 (orgK (pk r 3 4)).port, .string (pathsL.getD (pk r 4 4) ⟨#[]⟩), .string ⟨#[]⟩, .string (methsL.getD (pk r 5 4) ⟨#[]⟩), .slice a (headK (pk r 6 4)).length ch, .bool (decide (pk r 7 2 = 1)), .string ⟨#[]⟩, .bool (decide (pk r 8 4 = 3)), .string (textsL.getD (pk r 9 8) ⟨#[]⟩), .string (uvL.getD (pk r 10 2) ⟨#[]⟩), .string ⟨#[]⟩, .string ⟨#[]⟩, .int .i64 0, .bool false, .int .i64 0]) hb99 hg99; have cN99 : _ = some (nxV (w.heap.size + 1)) := hX99.s.nx.cell 0 rfl; have cT99 : _ = some (txV NX) := hX99.s.tx.cell 0 rfl; clear hb99 hg99 hs99; clear hX98 cN98 cT98)
          refine (textR (l := r) (k := 11) pqL (hX99.alloc _).s.rf (hX99.alloc _).s.nx (Blk.new _ _ _) ⟨by decide, by decide⟩).mono ?_
          rintro e w100 ⟨rfl, h1, h2⟩
          have hX100 := (hX99.alloc _).pick h1 h2
          clear h1 h2 cN99 cT99
          have cN100 : _ = some (nxV (w.heap.size + 1)) := hX100.s.nx.cell 0 rfl
          have cT100 : _ = some (txV NX) := hX100.s.tx.cell 0 rfl
          clear hX99
          have hs101 : 19 < (#[.int .i64 1, .int .i64 ((c.toNat : Int) % 6), .int .i64 (1 + ((pk r 0 10 : Nat) : Int)), .int .i64 ((pk r 1 2 : Nat) : Int), .bool (orgK (pk r 2 4)).sec, .string (orgK (pk r 2 4)).host, .int .i64 (orgK (pk r 2 4)).port, .bool (orgK (pk r 3 4)).sec, .string (orgK (pk r 3 4)).host, .int .i64 (orgK (pk r 3 4)).port, .string (pathsL.getD (pk r 4 4) ⟨#[]⟩), .string ⟨#[]⟩, .string (methsL.getD (pk r 5 4) ⟨#[]⟩), .slice a (headK (pk r 6 4)).length ch, .bool (decide (pk r 7 2 = 1)), .string ⟨#[]⟩, .bool (decide (pk r 8 4 = 3)), .string (textsL.getD (pk r 9 8) ⟨#[]⟩), .string (uvL.getD (pk r 10 2) ⟨#[]⟩), .string (pqL.getD (pk r 11 2) ⟨#[]⟩), .string ⟨#[]⟩, .int .i64 0, .bool false, .int .i64 0] : Array Value).size := by simp
          go_wp2_with (refine wpList_store_cell rfl _ _ _ (by rfl) w1.heap.size 19 (by rfl) hX100.b hs101 (.string (pqL.getD (pk r 11 2) ⟨#[]⟩)) (by first | rfl | exact congrArg Value.bool (eq1D _) | exact congrArg Value.bool (eq3D _) | exact congrArg (Value.int .i64) (Int.add_comm _ _)) (by rfl) (by rfl) infoStrD ?_; intro w101 hb101 hg101; have hX101 := hX100.set (cs' := #[.int .i64 1, .int .i64 ((c.toNat : Int) % 6), .int .i64 (1 + ((pk r 0 10 : Nat) : Int)), .int .i64 ((pk r 1 2 : Nat) : Int), .bool (orgK (pk r 2 4)).sec, .string (orgK (pk r 2 4)).host, .int .i64 (orgK (pk r 2 4)).port, .bool (orgK (pk r 3 4)).sec, .string (orgK (pk r 3 4)).host, .int .i64 (orgK (pk r 3 4)).port, .string (pathsL.getD (pk r 4 4) ⟨#[]⟩), .string ⟨#[]⟩, .string (methsL.getD (pk r 5 4) ⟨#[]⟩), .slice a (headK (pk r 6 4)).length ch, .bool (decide (pk r 7 2 = 1)), .string ⟨#[]⟩, .bool (decide (pk r 8 4 = 3)), .string (textsL.getD (pk r 9 8) ⟨#[]⟩), .string (uvL.getD (pk r 10 2) ⟨#[]⟩), .string (pqL.getD (pk r 11 2) ⟨#[]⟩), .string ⟨#[]⟩, .int .i64 0, .bool false, .int .i64 0]) hb101 hg101; have cN101 : _ = some (nxV (w.heap.size + 1)) := hX101.s.nx.cell 0 rfl; have cT101 : _ = some (txV NX) := hX101.s.tx.cell 0 rfl; clear hb101 hg101 hs101; clear hX100 cN100 cT100)
          refine (textR (l := r) (k := 12) cdL (hX101.alloc _).s.rf (hX101.alloc _).s.nx (Blk.new _ _ _) ⟨by decide, by decide⟩).mono ?_
          rintro e w102 ⟨rfl, h1, h2⟩
          have hX102 := (hX101.alloc _).pick h1 h2
          clear h1 h2 cN101 cT101
          have cN102 : _ = some (nxV (w.heap.size + 1)) := hX102.s.nx.cell 0 rfl
          have cT102 : _ = some (txV NX) := hX102.s.tx.cell 0 rfl
          clear hX101
          have hs103 : 20 < (#[.int .i64 1, .int .i64 ((c.toNat : Int) % 6), .int .i64 (1 + ((pk r 0 10 : Nat) : Int)), .int .i64 ((pk r 1 2 : Nat) : Int), .bool (orgK (pk r 2 4)).sec, .string (orgK (pk r 2 4)).host, .int .i64 (orgK (pk r 2 4)).port, .bool (orgK (pk r 3 4)).sec, .string (orgK (pk r 3 4)).host, .int .i64 (orgK (pk r 3 4)).port, .string (pathsL.getD (pk r 4 4) ⟨#[]⟩), .string ⟨#[]⟩, .string (methsL.getD (pk r 5 4) ⟨#[]⟩), .slice a (headK (pk r 6 4)).length ch, .bool (decide (pk r 7 2 = 1)), .string ⟨#[]⟩, .bool (decide (pk r 8 4 = 3)), .string (textsL.getD (pk r 9 8) ⟨#[]⟩), .string (uvL.getD (pk r 10 2) ⟨#[]⟩), .string (pqL.getD (pk r 11 2) ⟨#[]⟩), .string (cdL.getD (pk r 12 2) ⟨#[]⟩), .int .i64 0, .bool false, .int .i64 0] : Array Value).size := by simp
          go_wp2_with (refine wpList_store_cell rfl _ _ _ (by rfl) w1.heap.size 20 (by rfl) hX102.b hs103 (.string (cdL.getD (pk r 12 2) ⟨#[]⟩)) (by first | rfl | exact congrArg Value.bool (eq1D _) | exact congrArg Value.bool (eq3D _) | exact congrArg (Value.int .i64) (Int.add_comm _ _)) (by rfl) (by rfl) infoStrD ?_; intro w103 hb103 hg103; have hX103 := hX102.set (cs' := #[.int .i64 1, .int .i64 ((c.toNat : Int) % 6), .int .i64 (1 + ((pk r 0 10 : Nat) : Int)), .int .i64 ((pk r 1 2 : Nat) : Int), .bool (orgK (pk r 2 4)).sec, .string (orgK (pk r 2 4)).host, .int .i64 (orgK (pk r 2 4)).port, .bool (orgK (pk r 3 4)).sec, .string (orgK (pk r 3 4)).host, .int .i64 (orgK (pk r 3 4)).port, .string (pathsL.getD (pk r 4 4) ⟨#[]⟩), .string ⟨#[]⟩, .string (methsL.getD (pk r 5 4) ⟨#[]⟩), .slice a (headK (pk r 6 4)).length ch, .bool (decide (pk r 7 2 = 1)), .string ⟨#[]⟩, .bool (decide (pk r 8 4 = 3)), .string (textsL.getD (pk r 9 8) ⟨#[]⟩), .string (uvL.getD (pk r 10 2) ⟨#[]⟩), .string (pqL.getD (pk r 11 2) ⟨#[]⟩), .string (cdL.getD (pk r 12 2) ⟨#[]⟩), .int .i64 0, .bool false, .int .i64 0]) hb103 hg103; have cN103 : _ = some (nxV (w.heap.size + 1)) := hX103.s.nx.cell 0 rfl; have cT103 : _ = some (txV NX) := hX103.s.tx.cell 0 rfl; clear hb103 hg103 hs103; clear hX102 cN102 cT102)
          refine (nextD (m := r) (k := 13) hX103.s.rf 4 ⟨by omega, by omega⟩).mono ?_
          rintro e w104 ⟨rfl, h1, h2⟩
          have hX104 := hX103.pick h1 h2
          clear h1 h2 cN103 cT103
          have cN104 : _ = some (nxV (w.heap.size + 1)) := hX104.s.nx.cell 0 rfl
          have cT104 : _ = some (txV NX) := hX104.s.tx.cell 0 rfl
          clear hX103
          have hs105 : 21 < (#[.int .i64 1, .int .i64 ((c.toNat : Int) % 6), .int .i64 (1 + ((pk r 0 10 : Nat) : Int)), .int .i64 ((pk r 1 2 : Nat) : Int), .bool (orgK (pk r 2 4)).sec, .string (orgK (pk r 2 4)).host, .int .i64 (orgK (pk r 2 4)).port, .bool (orgK (pk r 3 4)).sec, .string (orgK (pk r 3 4)).host, .int .i64 (orgK (pk r 3 4)).port, .string (pathsL.getD (pk r 4 4) ⟨#[]⟩), .string ⟨#[]⟩, .string (methsL.getD (pk r 5 4) ⟨#[]⟩), .slice a (headK (pk r 6 4)).length ch, .bool (decide (pk r 7 2 = 1)), .string ⟨#[]⟩, .bool (decide (pk r 8 4 = 3)), .string (textsL.getD (pk r 9 8) ⟨#[]⟩), .string (uvL.getD (pk r 10 2) ⟨#[]⟩), .string (pqL.getD (pk r 11 2) ⟨#[]⟩), .string (cdL.getD (pk r 12 2) ⟨#[]⟩), .int .i64 ((pk r 13 4 : Nat) : Int), .bool false, .int .i64 0] : Array Value).size := by simp
          go_wp2_with (refine wpList_store_cell rfl _ _ _ (by rfl) w1.heap.size 21 (by rfl) hX104.b hs105 (.int .i64 ((pk r 13 4 : Nat) : Int)) (by first | rfl | exact congrArg Value.bool (eq1D _) | exact congrArg Value.bool (eq3D _) | exact congrArg (Value.int .i64) (Int.add_comm _ _)) (by rfl) (by rfl) infoIntD ?_; intro w105 hb105 hg105; have hX105 := hX104.set (cs' := #[.int .i64 1, .int .i64 ((c.toNat : Int) % 6), .int .i64 (1 + ((pk r 0 10 : Nat) : Int)), .int .i64 ((pk r 1 2 : Nat) : Int), .bool (orgK (pk r 2 4)).sec, .string (orgK (pk r 2 4)).host, .int .i64 (orgK (pk r 2 4)).port, .bool (orgK (pk r 3 4)).sec, .string (orgK (pk r 3 4)).host, .int .i64 (orgK (pk r 3 4)).port, .string (pathsL.getD (pk r 4 4) ⟨#[]⟩), .string ⟨#[]⟩, .string (methsL.getD (pk r 5 4) ⟨#[]⟩), .slice a (headK (pk r 6 4)).length ch, .bool (decide (pk r 7 2 = 1)), .string ⟨#[]⟩, .bool (decide (pk r 8 4 = 3)), .string (textsL.getD (pk r 9 8) ⟨#[]⟩), .string (uvL.getD (pk r 10 2) ⟨#[]⟩), .string (pqL.getD (pk r 11 2) ⟨#[]⟩), .string (cdL.getD (pk r 12 2) ⟨#[]⟩), .int .i64 ((pk r 13 4 : Nat) : Int), .bool false, .int .i64 0]) hb105 hg105; have cN105 : _ = some (nxV (w.heap.size + 1)) := hX105.s.nx.cell 0 rfl; have cT105 : _ = some (txV NX) := hX105.s.tx.cell 0 rfl; clear hb105 hg105 hs105; clear hX104 cN104 cT104)
          refine (nextD (m := r) (k := 14) hX105.s.rf 4 ⟨by omega, by omega⟩).mono ?_
          rintro e w106 ⟨rfl, h1, h2⟩
          have hX106 := hX105.pick h1 h2
          clear h1 h2 cN105 cT105
          have cN106 : _ = some (nxV (w.heap.size + 1)) := hX106.s.nx.cell 0 rfl
          have cT106 : _ = some (txV NX) := hX106.s.tx.cell 0 rfl
          clear hX105
          have hs107 : 22 < (#[.int .i64 1, .int .i64 ((c.toNat : Int) % 6), .int .i64 (1 + ((pk r 0 10 : Nat) : Int)), .int .i64 ((pk r 1 2 : Nat) : Int), .bool (orgK (pk r 2 4)).sec, .string (orgK (pk r 2 4)).host, .int .i64 (orgK (pk r 2 4)).port, .bool (orgK (pk r 3 4)).sec, .string (orgK (pk r 3 4)).host, .int .i64 (orgK (pk r 3 4)).port, .string (pathsL.getD (pk r 4 4) ⟨#[]⟩), .string ⟨#[]⟩, .string (methsL.getD (pk r 5 4) ⟨#[]⟩), .slice a (headK (pk r 6 4)).length ch, .bool (decide (pk r 7 2 = 1)), .string ⟨#[]⟩, .bool (decide (pk r 8 4 = 3)), .string (textsL.getD (pk r 9 8) ⟨#[]⟩), .string (uvL.getD (pk r 10 2) ⟨#[]⟩), .string (pqL.getD (pk r 11 2) ⟨#[]⟩), .string (cdL.getD (pk r 12 2) ⟨#[]⟩), .int .i64 ((pk r 13 4 : Nat) : Int), .bool (decide (pk r 14 4 = 3)), .int .i64 0] : Array Value).size := by simp
          go_wp2_with (refine wpList_store_cell rfl _ _ _ (by rfl) w1.heap.size 22 (by rfl) hX106.b hs107 (.bool (decide (pk r 14 4 = 3))) (by first | rfl | exact congrArg Value.bool (eq1D _) | exact congrArg Value.bool (eq3D _) | exact congrArg (Value.int .i64) (Int.add_comm _ _)) (by rfl) (by rfl) infoBoolD ?_; intro w107 hb107 hg107; have hX107 := hX106.set (cs' := #[.int .i64 1, .int .i64 ((c.toNat : Int) % 6), .int .i64 (1 + ((pk r 0 10 : Nat) : Int)), .int .i64 ((pk r 1 2 : Nat) : Int), .bool (orgK (pk r 2 4)).sec, .string (orgK (pk r 2 4)).host, .int .i64 (orgK (pk r 2 4)).port, .bool (orgK (pk r 3 4)).sec, .string (orgK (pk r 3 4)).host, .int .i64 (orgK (pk r 3 4)).port, .string (pathsL.getD (pk r 4 4) ⟨#[]⟩), .string ⟨#[]⟩, .string (methsL.getD (pk r 5 4) ⟨#[]⟩), .slice a (headK (pk r 6 4)).length ch, .bool (decide (pk r 7 2 = 1)), .string ⟨#[]⟩, .bool (decide (pk r 8 4 = 3)), .string (textsL.getD (pk r 9 8) ⟨#[]⟩), .string (uvL.getD (pk r 10 2) ⟨#[]⟩), .string (pqL.getD (pk r 11 2) ⟨#[]⟩), .string (cdL.getD (pk r 12 2) ⟨#[]⟩), .int .i64 ((pk r 13 4 : Nat) : Int), .bool (decide (pk r 14 4 = 3)), .int .i64 0]) hb107 hg107; have cN107 : _ = some (nxV (w.heap.size + 1)) := hX107.s.nx.cell 0 rfl; have cT107 : _ = some (txV NX) := hX107.s.tx.cell 0 rfl; clear hb107 hg107 hs107; clear hX106 cN106 cT106)
          refine (nextD (m := r) (k := 15) hX107.s.rf 10 ⟨by omega, by omega⟩).mono ?_
          rintro e w108 ⟨rfl, h1, h2⟩
          have hX108 := hX107.pick h1 h2
          clear h1 h2 cN107 cT107
          have cN108 : _ = some (nxV (w.heap.size + 1)) := hX108.s.nx.cell 0 rfl
          have cT108 : _ = some (txV NX) := hX108.s.tx.cell 0 rfl
          clear hX107
          have hs109 : 23 < (#[.int .i64 1, .int .i64 ((c.toNat : Int) % 6), .int .i64 (1 + ((pk r 0 10 : Nat) : Int)), .int .i64 ((pk r 1 2 : Nat) : Int), .bool (orgK (pk r 2 4)).sec, .string (orgK (pk r 2 4)).host, .int .i64 (orgK (pk r 2 4)).port, .bool (orgK (pk r 3 4)).sec, .string (orgK (pk r 3 4)).host, .int .i64 (orgK (pk r 3 4)).port, .string (pathsL.getD (pk r 4 4) ⟨#[]⟩), .string ⟨#[]⟩, .string (methsL.getD (pk r 5 4) ⟨#[]⟩), .slice a (headK (pk r 6 4)).length ch, .bool (decide (pk r 7 2 = 1)), .string ⟨#[]⟩, .bool (decide (pk r 8 4 = 3)), .string (textsL.getD (pk r 9 8) ⟨#[]⟩), .string (uvL.getD (pk r 10 2) ⟨#[]⟩), .string (pqL.getD (pk r 11 2) ⟨#[]⟩), .string (cdL.getD (pk r 12 2) ⟨#[]⟩), .int .i64 ((pk r 13 4 : Nat) : Int), .bool (decide (pk r 14 4 = 3)), .int .i64 ((pk r 15 10 : Nat) : Int)] : Array Value).size := by simp
          go_wp2_with (first
            | (refine wpList_store_cell rfl _ _ _ (by rfl) w1.heap.size 23 (by rfl) hX108.b hs109 (.int .i64 ((pk r 15 10 : Nat) : Int)) (by rfl) (by rfl) (by rfl) infoIntD ?_; intro wy hby hgy; have hXe : RDB w NX TX l (r.drop 16) (.slice a3 Ms.length cap3) Ms w1.heap.size (opS r a ch) (⟨1, (c.toNat : Int) % 6, opS r a ch⟩ : Mv).arr wy := hX108.set hby hgy; obtain ⟨o, hod, hXo⟩ : ∃ o : OpV, o.d = opS r none 0 ∧ RDB w NX TX l (r.drop 16) (.slice a3 Ms.length cap3) Ms w1.heap.size o (⟨1, (c.toNat : Int) % 6, o⟩ : Mv).arr wy := ⟨_, opS_d r a ch, hXe⟩; have hodH := Lib.hid hod; have hby2 := hXo.b; have howy := hXo.s.own; have hbsy := hXo.s.low.size; clear hod hXe hby hgy hX108)
            | (refine wpList_load_blk rfl tMvR _ rfl _ rfl hby2 _ Try.underlying38 rfl infoMvR ?_)
            | (at_builtin; refine wpList_append_one wholeMvR Try.underlying22 (by rfl) (by decide) encMv_len (by rfl) _ _ (by rfl) wy w.heap.size (.slice a3 Ms.length cap3) Ms (by rfl) howy ⟨1, (c.toNat : Int) % 6, o⟩ (encMv_one _) _ (by rfl) _ (by rfl) (by rfl) hl1 hl2 hbsy ?_; intro vn wn hOn hGn hnn))
          have hDn4 := hXo.s.more (m := ⟨1, (c.toNat : Int) % 6, o⟩) hXo.hd hOn hGn
          go_roundg (400 - (k + 1))
          case measure => have := hg.out; omega
          case rel => exact ⟨k + 1, Ms ++ [⟨1, (c.toNat : Int) % 6, o⟩], by omega, Lib.hid rfl, Lib.hid (by rw [List.length_append, hK.out]; rfl), Lib.hid (by rw [List.map_append, hM.out, hnx.out, hmv.out, ← hca.out, ← hodH.out]; rfl), Lib.hid (by rw [hnx.out, hre.out]; exact hDn4)⟩
        · have hqa : ((c.toNat : Int) / 6 % 4 == 1) = false := by simp; omega
          have hre := Lib.hid (show restOf c r = r from by unfold restOf; rw [if_neg hq])
          by_cases hq2 : c.toNat / 6 % 4 = 2
          · have hqb : ((c.toNat : Int) / 6 % 4 == 2) = true := by simp; omega
            by_cases h128 : 128 ≤ c.toNat
            · have hqc : decide ((128 : Int) ≤ (c.toNat : Int)) = true := by simp; omega
              have hmv := Lib.hid (show mvOf c r = ⟨2, (c.toNat % 6 : Nat), zOpV⟩ from by unfold mvOf; rw [if_neg hq, if_pos ⟨hq2, h128⟩])
              clear hq hq2 h128
              go_wp2_with (first
                | (refine wpList_store_blk rfl tMvR _ _ rfl _ rfl hZ (mv0 0 ((c.toNat : Int) % 6)).arr rfl rfl infoMvR (mv_one _) ?_; intro w2 hb2 hg2; have hD2 := hSz.set hZ hfr hge hg2; have hbs2 := hD2.low.size; have how2 := hD2.own; clear hZ hSz hg2)
                | (refine wpList_store_cell rfl _ _ _ (by rfl) w1.heap.size 0 (by rfl) hb2 (mv_sz _ _) (.int .i64 2) (by rfl) (by rfl) (by rfl) infoIntD ?_; intro w3 hc3 hg3; rw [mv_kind] at hc3; have hb3 := hc3; have hD3 := hD2.set hb2 hfr hge hg3; have hbs3 := hD3.low.size; have how3 := hD3.own; clear hb2 hg3 hD2 hc3 how2)
                | (refine wpList_load_blk rfl tMvR _ rfl _ rfl hb3 _ Try.underlying38 rfl infoMvR ?_)
                | (at_builtin; refine wpList_append_one wholeMvR Try.underlying22 (by rfl) (by decide) encMv_len (by rfl) _ _ (by rfl) w3 w.heap.size (.slice a3 Ms.length cap3) Ms (by rfl) how3 (mv0 2 ((c.toNat : Int) % 6)) (encMv_one _) _ (by rfl) _ (by rfl) (by rfl) hl1 hl2 hbs3 ?_; intro vn wn hOn hGn hnn))
              have hDn4 := hD3.more (m := (mv0 2 ((c.toNat : Int) % 6))) (HeadsAt.zero _) hOn hGn
              go_roundg (400 - (k + 1))
              case measure => have := hg.out; omega
              case rel => exact ⟨k + 1, Ms ++ [(mv0 2 ((c.toNat : Int) % 6))], by omega, Lib.hid rfl, Lib.hid (by rw [List.length_append, hK.out]; rfl), Lib.hid (by rw [List.map_append, hM.out, hnx.out, hmv.out, ← hca.out]; rfl), Lib.hid (by rw [hnx.out, hre.out]; exact hDn4)⟩
            · have hqc : decide ((128 : Int) ≤ (c.toNat : Int)) = false := by simp; omega
              have hmv := Lib.hid (show mvOf c r = ⟨0, (c.toNat % 6 : Nat), zOpV⟩ from by unfold mvOf; rw [if_neg hq, if_neg (fun h => h128 h.2)])
              clear hq hq2 h128
              go_wp2_with (first
                | (refine wpList_store_blk rfl tMvR _ _ rfl _ rfl hZ (mv0 0 ((c.toNat : Int) % 6)).arr rfl rfl infoMvR (mv_one _) ?_; intro w2 hb2 hg2; have hD2 := hSz.set hZ hfr hge hg2; have hbs2 := hD2.low.size; have how2 := hD2.own; clear hZ hSz hg2)
                | (refine wpList_load_blk rfl tMvR _ rfl _ rfl hb2 _ Try.underlying38 rfl infoMvR ?_)
                | (at_builtin; refine wpList_append_one wholeMvR Try.underlying22 (by rfl) (by decide) encMv_len (by rfl) _ _ (by rfl) w2 w.heap.size (.slice a3 Ms.length cap3) Ms (by rfl) how2 (mv0 0 ((c.toNat : Int) % 6)) (encMv_one _) _ (by rfl) _ (by rfl) (by rfl) hl1 hl2 hbs2 ?_; intro vn wn hOn hGn hnn))
              have hDn4 := hD2.more (m := (mv0 0 ((c.toNat : Int) % 6))) (HeadsAt.zero _) hOn hGn
              go_roundg (400 - (k + 1))
              case measure => have := hg.out; omega
              case rel => exact ⟨k + 1, Ms ++ [(mv0 0 ((c.toNat : Int) % 6))], by omega, Lib.hid rfl, Lib.hid (by rw [List.length_append, hK.out]; rfl), Lib.hid (by rw [List.map_append, hM.out, hnx.out, hmv.out, ← hca.out]; rfl), Lib.hid (by rw [hnx.out, hre.out]; exact hDn4)⟩
          · have hqb : ((c.toNat : Int) / 6 % 4 == 2) = false := by simp; omega
            have hmv := Lib.hid (show mvOf c r = ⟨0, (c.toNat % 6 : Nat), zOpV⟩ from by unfold mvOf; rw [if_neg hq, if_neg (fun h => hq2 h.1)])
            clear hq hq2
            go_wp2_with (first
              | (refine wpList_store_blk rfl tMvR _ _ rfl _ rfl hZ (mv0 0 ((c.toNat : Int) % 6)).arr rfl rfl infoMvR (mv_one _) ?_; intro w2 hb2 hg2; have hD2 := hSz.set hZ hfr hge hg2; have hbs2 := hD2.low.size; have how2 := hD2.own; clear hZ hSz hg2)
              | (refine wpList_load_blk rfl tMvR _ rfl _ rfl hb2 _ Try.underlying38 rfl infoMvR ?_)
              | (at_builtin; refine wpList_append_one wholeMvR Try.underlying22 (by rfl) (by decide) encMv_len (by rfl) _ _ (by rfl) w2 w.heap.size (.slice a3 Ms.length cap3) Ms (by rfl) how2 (mv0 0 ((c.toNat : Int) % 6)) (encMv_one _) _ (by rfl) _ (by rfl) (by rfl) hl1 hl2 hbs2 ?_; intro vn wn hOn hGn hnn))
            have hDn4 := hD2.more (m := (mv0 0 ((c.toNat : Int) % 6))) (HeadsAt.zero _) hOn hGn
            go_roundg (400 - (k + 1))
            case measure => have := hg.out; omega
            case rel => exact ⟨k + 1, Ms ++ [(mv0 0 ((c.toNat : Int) % 6))], by omega, Lib.hid rfl, Lib.hid (by rw [List.length_append, hK.out]; rfl), Lib.hid (by rw [List.map_append, hM.out, hnx.out, hmv.out, ← hca.out]; rfl), Lib.hid (by rw [hnx.out, hre.out]; exact hDn4)⟩
      · have hk4 : k = 400 := by have := hK.out; omega
        have c0 : _ = some (Value.slice (some ⟨w.heap.size, off, none⟩) (r.length + 1) cap) := hL.cell 0 rfl
        obtain ⟨q, hq⟩ : ∃ q, q = r.length + 1 := ⟨_, rfl⟩
        rw [← hq] at c0 hq0
        have hO := Lib.hid hD.out.own
        have hfin := Lib.hid (moves_of (l := l) hk (.inr hk4))
        have hlt2 : decide (Ms.length < 400) = false := by simp; omega
        clear hr hL hk4 hq
        go_wp2
        go_ret
        exact ⟨_, Ms, rfl, hO.out, hM.out.trans hfin.out, hD.out.hds, hD.out.low⟩
end Go.Proofs.Ytinlahahbhpppaa
