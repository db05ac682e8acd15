/- slices.IndexFunc, DeleteFunc, Delete, Clone at rows of Gra. (printed by tools/gen_rows.py) -/
import Derived.Test.YtchgpdgigpaloaaDoorGrantR
import Derived.Test.YtchgpdgigpaloaaDoorRowS
import Derived.Deep.RegionLaw
import Derived.ArgAppend
import Derived.Shelf.GgClosure.Gives
namespace Go.Proofs.YtchgpdgigpaloaaDoor
open Go.RowKit Go.Deep
theorem undG : Tryd.prog.underlying 39 = some (.struct ((match Tryd.prog.underlying 39 with | some (.struct fs) => fs | _ => #[]))) := by kernel_rfl
theorem zeroG (w : World) : (zeroValue 39).run Tryd.prog w = .ok (.agg zGra) w := by kernel_rfl
theorem zoneG : (Value.agg zGra).cells.all (·.oneCell') = true := by simp [Value.cells, Value.oneCell']
theorem wholeG : (Tryd.prog.info? 39).map (fun i => (i.zero, i.size, i.bytes)) = some (some (.agg zGra), 16, 216) := by kernel_rfl
set_option maxRecDepth 100000 in
theorem rowIndexG (g : Nat) (lb : Array Value) (f : Gra → Bool) (a : Option Addr) (cap : Nat) (ps : List Gra) (S : Nat → Prop) (w : World) (hS : RowAt 16 encGra w a ps) (hl : ps.length ≤ 1048576) (eg : ∀ args w, (callFunc g args).run Tryd.prog w = .ok (.enter g args) w) (hp : PredR Tryd.prog Gra.arr g lb f ps S w) :
    Calls Tryd.prog 53 #[.slice a ps.length cap, .func (.func g) #[] lb] w (FirstPost f ps w) := by
  go_enter Tryd.func53, Tryd.ntmps53
  go_wp2
  go_loopw [8] (fun i wr => ∃ k : Nat, k ≤ ps.length ∧ i = .int .i64 k ∧ Hid (Below w.heap.size w wr) ∧ Hid ((ps.take k).any f = false)) (fun i _ => ps.length - (intOf i).toNat)
  case atStart => exact ⟨0, Nat.zero_le _, rfl, Lib.hid (Below.refl _ _), Lib.hid rfl⟩
  case round =>
    obtain ⟨k, hk, rfl, hB, hN⟩ := hrel
    by_cases hlt : k < ps.length
    · obtain ⟨b, off, rfl, hc⟩ := (hS.later hB.out) k hlt
      have hpk := hp wr _ (Only.of_below hB.out) (List.getElem_mem hlt)
      have hrg : wr.rangeAt b (off + k * 16) (encGra ps[k]) := hc
      have hag : (Value.agg (encGra ps[k]).toArray) = .agg (Gra.arr ps[k]) := rfl
      cases hq : f ps[k]
      · rw [hq] at hpk
        have hn := Lib.hid (any_take_noR hlt hN.out hq)
        clear hq hc
        generalize ps[k] = x at hpk hrg hag
        go_wp2_with (first
          | (refine wpList_load_mid rfl 39 _ rfl b (off + k * 16) rfl (encGra x) _ hrg undG rfl infoGra ?_)
          | (go_at_fn g; refine hpk.mono ?_; rintro e w2 ⟨rfl, hB2⟩))
        have hB3 := Lib.hid (hB.out.then (Nat.le_refl _) hB2)
        go_wp2
        go_roundw
        case rel => exact ⟨k + 1, by omega, by go_num, hB3, hn⟩
        case measure => simp [intOf]; omega
      · rw [hq] at hpk
        have hfa : FirstAt f ps (k : Int) := .inr ⟨k, rfl, hlt, hq, hN.out⟩
        have hn := Lib.hid hfa
        clear hq hc hfa
        generalize ps[k] = x at hpk hrg hag
        go_wp2_with (first
          | (refine wpList_load_mid rfl 39 _ rfl b (off + k * 16) rfl (encGra x) _ hrg undG rfl infoGra ?_)
          | (go_at_fn g; refine hpk.mono ?_; rintro e w2 ⟨rfl, hB2⟩))
        have hB3 := Lib.hid (hB.out.then (Nat.le_refl _) hB2)
        go_wp2
        go_ret
        exact ⟨_, rfl, hn.out, hB3.out⟩
    · obtain rfl : ps.length = k := by omega
      have hn := Lib.hid (show ps.any f = false by have := hN.out; rwa [List.take_length] at this)
      go_wp2
      go_ret
      exact ⟨_, rfl, .inl ⟨rfl, hn.out⟩, hB.out⟩
set_option maxRecDepth 100000 in
set_option maxHeartbeats 4000000 in
theorem deleteFuncG (g : Nat) (lb : Array Value) (f : Gra → Bool) (base : Nat) (v : Value) (ps : List Gra) (w : World) (hO : OwnG 39 16 encGra w base v ps) (hl : ps.length ≤ 1048576) (eg : ∀ args w, (callFunc g args).run Tryd.prog w = .ok (.enter g args) w) (hp : PredR Tryd.prog Gra.arr g lb f ps (fun i => v.ownBlock = some i) w) :
    Calls Tryd.prog 38 #[v, .func (.func g) #[] lb] w (DelPost 39 16 encGra base v (ps.filter (fun x => !f x)) w) := by
  obtain ⟨a, cap', hv, hrow, _⟩ := OwnG.shape encGra_len hO
  have hI := rowIndexG g lb f a cap' ps _ w hrow hl eg hp
  rw [← hv] at hI
  have hR := RowB.of_own encGra_len hO
  have hOH := Lib.hid hO
  clear hrow hv hO
  rcases hR with ⟨rfl, rfl⟩ | ⟨g0, cap, rfl, hb, hR⟩
  · go_enter Tryd.func38, Tryd.ntmps38
    go_wp2_with fail
    refine hI.mono ?_
    rintro e w1 ⟨r, rfl, hr, hB⟩
    obtain rfl := first_nil hr
    clear hr
    go_wp2
    go_ret
    exact ⟨_, rfl, OwnG.nil _ _, Only.of_below hB, rfl⟩
  · have hRH := Lib.hid hR
    have hlc := hR.len
    have hcm := hR.cap_
    unfold maxLen at hcm
    clear hR
    go_enter Tryd.func38, Tryd.ntmps38
    go_wp2_with fail
    refine hI.mono ?_
    rintro e w1 ⟨r, rfl, hr, hB⟩
    rcases hr with ⟨rfl, hno⟩ | ⟨k0, rfl, hk0, hyes, hno⟩
    · have hno' := Lib.hid (filter_none hno)
      clear hno
      go_wp2
      go_ret
      refine ⟨_, rfl, ?_, Only.of_below hB, rfl⟩
      rw [hno'.out]
      exact hOH.out.later hB
    · have hK0 := Lib.hid (KeptL.start hk0 hyes hno)
      have hR1 := Lib.hid (hRH.out.later hB)
      have hne1 : ((k0 : Int) == -1) = false := beq_eq_false_iff_ne.2 (by omega)
      have hB1 := Lib.hid hB
      have hPH := Lib.hid hp
      clear hyes hno hB hI hp
      go_wp2
      go_loopw [5, 6, 7] (fun s5 s6 _ wr => ∃ (i j : Nat) (d : List Gra), s5 = .int .i64 i ∧ s6 = .int .i64 j ∧ i < j ∧ j ≤ ps.length ∧ Hid (KeptL f ps d i j) ∧ Hid (RowB 39 16 encGra wr g0 cap d) ∧ Hid (Only (fun i => i = g0) w wr)) (fun _ s6 _ _ => ps.length - (intOf s6).toNat)
      case atStart => exact ⟨k0, k0 + 1, ps, rfl, by go_num, by omega, by omega, hK0, hR1, Lib.hid (Only.of_below hB1.out)⟩
      case round =>
        obtain ⟨i, j, d, rfl, rfl, hij, hjl, hK, hRd, hOn⟩ := hrel
        by_cases hlt : j < ps.length
        · obtain ⟨hjd, hdj⟩ := hK.out.at hlt
          have hid : i < d.length := by omega
          have hrg : wr.rangeAt g0 (j * 16) (encGra ps[j]) := by rw [← hdj]; exact hRd.out.range j hjd
          have hpk := fun wa (h : Only (fun i => i = g0) w wa) => hPH.out wa ps[j] (h.mono (fun i e => by rw [e]; rfl)) (List.getElem_mem hlt)
          have hky := Lib.hid (fun e => hK.out.keep hlt e)
          have hkn := Lib.hid (fun e => hK.out.skip hlt e)
          have hZ := Blk.new wr zGra 39
          have hws := hOn.out.size
          have hgl := hRd.out.lt
          clear hdj hjd
          generalize ps[j] = x at hrg hpk hky hkn
          cases hq : f x
          · have hk' := Lib.hid (hky.out hq)
            simp only [hq] at hpk
            clear hq hky hkn
            go_wp2_with (first
              | (refine wpList_load_mid rfl 39 _ rfl g0 (j * 16) rfl (encGra x) _ hrg undG rfl infoGra ?_)
              | (refine wpList_store_blk rfl 39 _ _ rfl _ rfl hZ (Gra.arr x) rfl rfl infoGra (gra_one x) ?_; intro wa hpas hga; have hOa := Lib.hid ((hOn.out.alloc (.cells zGra 39)).new hga hws); have hRa := Lib.hid ((hRd.out.later ((Below.refl _ _).alloc (Nat.le_refl _) (.cells zGra 39))).grown hga (fun e => by have := Option.some.inj e; omega)); have hpk2 := hpk wa hOa.out)
              | (refine wpList_load_blk rfl 39 _ rfl _ rfl hpas _ undG rfl infoGra ?_)
              | (go_at_fn g; refine hpk2.mono ?_; rintro e w2 ⟨rfl, hB2⟩; have hpas2 := hpas.later hB2; have hR2 := hRa.out.later hB2; have hO2 := Lib.hid (hOa.out.then hB2))
              | (refine wpList_load_blk rfl 39 _ rfl _ rfl hpas2 _ undG rfl infoGra ?_)
              | (refine wpList_store_row encGra_len rfl _ _ rfl g0 cap i d hR2 hid rfl x _ rfl rfl infoGra (encGra_one x) ?_; intro w3 hR3 hO3))
            have hR3' := Lib.hid hR3
            have hO4 := Lib.hid (hO2.out.trans hO3)
            go_roundw
            case rel => exact ⟨i + 1, j + 1, _, by go_num, by go_num, by omega, by omega, hk', hR3', hO4⟩
            case measure => simp [intOf]; omega
          · have hk' := Lib.hid (hkn.out hq)
            simp only [hq] at hpk
            clear hq hky hkn
            go_wp2_with (first
              | (refine wpList_load_mid rfl 39 _ rfl g0 (j * 16) rfl (encGra x) _ hrg undG rfl infoGra ?_)
              | (refine wpList_store_blk rfl 39 _ _ rfl _ rfl hZ (Gra.arr x) rfl rfl infoGra (gra_one x) ?_; intro wa hpas hga; have hOa := Lib.hid ((hOn.out.alloc (.cells zGra 39)).new hga hws); have hRa := Lib.hid ((hRd.out.later ((Below.refl _ _).alloc (Nat.le_refl _) (.cells zGra 39))).grown hga (fun e => by have := Option.some.inj e; omega)); have hpk2 := hpk wa hOa.out)
              | (refine wpList_load_blk rfl 39 _ rfl _ rfl hpas _ undG rfl infoGra ?_)
              | (go_at_fn g; refine hpk2.mono ?_; rintro e w2 ⟨rfl, hB2⟩; have hR2 := Lib.hid (hRa.out.later hB2); have hO2 := Lib.hid (hOa.out.then hB2)))
            go_roundw
            case rel => exact ⟨i, j + 1, d, rfl, by go_num, by omega, by omega, hk', hR2, hO2⟩
            case measure => simp [intOf]; omega
        · obtain rfl : ps.length = j := by omega
          have hdl := hK.out.len
          obtain ⟨hd1, hd2⟩ := hK.out.done
          have hd1' := Lib.hid hd1
          have hd2' := Lib.hid hd2
          have hgW := hRd.out.lt
          obtain ⟨zs, hcl⟩ := run_clear_row (P := Tryd.prog) wr 24 39 (.agg zGra) 16 Tryd.underlying24 zeroG rfl zoneG (by decide) g0 (i * 16) (ps.length - i) (cap - i) (by omega) (hRd.out.there _ _ (by
            have := Nat.mul_le_mul_right 16 hlc
            have := Nat.mul_le_mul_right 16 (Nat.le_of_lt hij)
            rw [Nat.sub_mul]; omega))
          have hRz := Lib.hid (hRd.out.spoil encGra_len i (i * 16) zs (Nat.le_refl _))
          have hOz := Lib.hid (hOn.out.trans (only_cells wr g0 (i * 16) zs))
          clear hd1 hd2 hdl
          go_wp2
          go_ret
          refine ⟨_, rfl, ?_, hOz.out.mono (fun i e => by rw [e]; rfl), rfl⟩
          have hr := hRz.out
          rw [hd1'.out] at hr
          have := hr.own encGra_len (by decide) hb
          rw [← hd2'.out] at this
          exact this
set_option maxRecDepth 100000 in
set_option maxHeartbeats 4000000 in
theorem deleteG (i j : Nat) (base : Nat) (v : Value) (ps : List Gra) (w : World) (hO : OwnG 39 16 encGra w base v ps) (hl : ps.length ≤ 1048576) (hij : i < j) (hj : j ≤ ps.length) :
    Calls Tryd.prog 31 #[v, .int .i64 (i : Int), .int .i64 (j : Int)] w (DelPost 39 16 encGra base v (ps.take i ++ ps.drop j) w) := by
  rcases RowB.of_own encGra_len hO with ⟨rfl, rfl⟩ | ⟨g0, cap, rfl, hb, hR⟩
  · simp at hj; omega
  · obtain ⟨i0, hi, hz0, hz1, hz2⟩ := info_parts wholeG
    have hlc := hR.len
    have hcm := hR.cap_
    unfold maxLen at hcm
    obtain ⟨news, hnews⟩ : ∃ news, news = (ps.drop j).flatMap encGra := ⟨_, rfl⟩
    have hnl : news.length = (ps.length - j) * 16 := by rw [hnews, flat_len encGra_len, List.length_drop]
    obtain ⟨A, hA, hsrc⟩ : ∃ A : Addr, (if cap = j then some (⟨g0, 0, none⟩ : Addr) else some ⟨g0, j * 16, none⟩) = some A ∧ Hid (∀ t u, news[t]? = some u → w.drew.cell? (A.add t) = some u) := by
      by_cases h : cap = j
      · refine ⟨⟨g0, 0, none⟩, by simp [h], fun t u hu => ?_⟩
        have h5 : ps.length - j = 0 := by omega
        have h0 : news.length = 0 := by rw [hnl, h5, Nat.zero_mul]
        rw [List.length_eq_zero_iff.1 h0] at hu
        simp at hu
      · refine ⟨⟨g0, j * 16, none⟩, by simp [h], fun t u hu => ?_⟩
        have ht : t < (ps.length - j) * 16 := by rw [← hnl]; exact (List.getElem?_eq_some_iff.1 hu).1
        have h1 : t / 16 < ps.length - j := Nat.div_lt_of_lt_mul (by rw [Nat.mul_comm]; exact ht)
        have h2 : t % 16 < 16 := Nat.mod_lt _ (by decide)
        have h3 : t = t / 16 * 16 + t % 16 := by rw [Nat.mul_comm]; exact (Nat.div_add_mod t 16).symm
        rw [hnews, h3, flat_at encGra_len (ps.drop j) (t / 16) (t % 16) (by rw [List.length_drop]; exact h1) h2] at hu
        rw [Addr.add_mid, show j * 16 + t = (j + t / 16) * 16 + t % 16 by rw [Nat.add_mul]; omega]
        refine hR.cell (j + t / 16) (by omega) (t % 16) u ?_
        rw [← hu]
        congr 1
        rw [List.getElem_drop]
    have s2 : Hid (∀ u ∈ news, u.oneCell' = true) := by
      intro u hu
      rw [hnews, List.mem_flatMap] at hu
      obtain ⟨x, _, hx⟩ := hu
      exact encGra_one x u hx
    have hsum : (i + (ps.length - j)) * 16 ≤ cap * 16 := Nat.mul_le_mul_right _ (by omega)
    have s3 : Hid (∀ t, t < news.length → (w.drew.cell? ⟨g0, 0 + i * 16 + t, none⟩).isSome = true ∧ w.drew.frozen? ⟨g0, 0 + i * 16 + t, none⟩ = false) := by
      intro t ht
      have := hR.there (i * 16) news.length (by rw [hnl, ← Nat.add_mul]; exact hsum) t ht
      rw [Nat.zero_add]
      exact this
    obtain ⟨W1, hW1⟩ : ∃ W1, W1 = w.drew.setCells g0 (0 + i * 16) news := ⟨_, rfl⟩
    have hRdr : RowB 39 16 encGra w.drew g0 cap ps := hR.later (Below.refl _ _).drew
    have hR1 : RowB 39 16 encGra W1 g0 cap (ps.take i ++ ps.drop j) := by
      rw [hW1, hnews, Nat.zero_add]
      exact hRdr.lay encGra_len i (ps.drop j) (by omega) (by rw [List.length_drop]; omega)
    have hO1 : Only (fun i => i = g0) w W1 := by
      rw [hW1]
      exact (Only.of_below (S := fun i => i = g0) (Below.refl w.heap.size w).drew).trans (only_cells w.drew g0 _ news)
    have hlen1 : (ps.take i ++ ps.drop j).length = i + (ps.length - j) := by rw [List.length_append, List.length_take, List.length_drop]; omega
    obtain ⟨zs, hcl⟩ := run_clear_row (P := Tryd.prog) W1 24 39 (.agg zGra) 16 Tryd.underlying24 zeroG rfl zoneG (by decide) g0 ((i + (ps.length - j)) * 16) (ps.length - (i + (ps.length - j))) (cap - (i + (ps.length - j))) (by omega) (hR1.there _ _ (by
      have h := Nat.mul_le_mul_right 16 hlc
      rw [← Nat.add_mul, show i + (ps.length - j) + (ps.length - (i + (ps.length - j))) = ps.length by omega]; exact h))
    have hRz := Lib.hid (hR1.spoil encGra_len (i + (ps.length - j)) ((i + (ps.length - j)) * 16) zs (Nat.le_refl _))
    have hOz := Lib.hid (hO1.trans (only_cells W1 g0 ((i + (ps.length - j)) * 16) zs))
    have hlH := Lib.hid hlen1
    have hW : Hid (W1 = w.drew.setCells g0 (0 + i * 16) news) := hW1
    have s1 := Lib.hid hnl
    have hic : i ≤ cap := by omega
    have hjc : j ≤ cap := by omega
    clear hW1 hR1 hRdr hR hO hnews hnl hO1 hlen1 hsum
    go_enter Tryd.func31, Tryd.ntmps31
    go_wp2_with fail
    go_region_law (refine step_append_room rfl (.tmp 22) (.tmp 25) 24 rfl 39 i0 16 Tryd.underlying24 hi hz1 g0 0 i cap (by simp [Act.eval, Act.put]) A (ps.length - j) (cap - j) news (by simp [Act.eval, Act.put]) s1.out hsrc.out s2.out (by omega) s3.out ?_; rw [← hW.out])
    go_wp2
    go_ret
    refine ⟨_, rfl, ?_, hOz.out.mono (fun i e => by rw [e]; rfl), rfl⟩
    have hr := hRz.out
    rw [← hlH.out, List.take_length] at hr
    have := hr.own encGra_len (by decide) hb
    rw [hlH.out] at this
    exact this
def ClonePostG (ps : List Gra) (w : World) (e : Ending) (w' : World) : Prop := ∃ v', e = .returned v' ∧ OwnG 39 16 encGra w' w.heap.size v' ps ∧ Below w.heap.size w w'
end Go.Proofs.YtchgpdgigpaloaaDoor
