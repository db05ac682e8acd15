/- The statement's sameOp: of two operations that differ in where their headers lie alone. -/
import Derived.Test.YtinlahahbhpppaaDecB
import Derived.Test.YtinlahahbhpppaaSameV
import Derived.Test.YtinlahahbhpppaaOrgE
import Derived.Test.YtinlahahbhpppaaWant
import Derived.Deep.RegionHeld3
import Derived.Deep.MidRow
namespace Go.Proofs.Ytinlahahbhpppaa
set_option linter.unusedSimpArgs false
open Go.RowKit Go.Deep
abbrev tRqD : TypeId := 32
abbrev arrB (o : OpV) (a2 : Option Addr) (c2 : Nat) : Array Value := #[.int .i64 o.what, .int .i64 o.req.part, .bool o.req.orig.sec, .string o.req.orig.host, .int .i64 o.req.orig.port, .bool o.req.dest.sec, .string o.req.dest.host, .int .i64 o.req.dest.port, .string o.req.path, .string o.req.query, .string o.req.method, .slice a2 o.req.heads.length c2, .bool o.req.creds, .string o.req.body, .bool o.proxy, .string o.text, .string o.user, .string o.pass, .string o.cnonce, .int .i64 o.cert, .bool o.all, .int .i64 o.n]
abbrev rqA (o : OpV) : Array Value := #[.int .i64 o.req.part, .bool o.req.orig.sec, .string o.req.orig.host, .int .i64 o.req.orig.port, .bool o.req.dest.sec, .string o.req.dest.host, .int .i64 o.req.dest.port, .string o.req.path, .string o.req.query, .string o.req.method, .slice o.req.addr o.req.heads.length o.req.cap, .bool o.req.creds, .string o.req.body]
abbrev rqB (o : OpV) (a2 : Option Addr) (c2 : Nat) : Array Value := #[.int .i64 o.req.part, .bool o.req.orig.sec, .string o.req.orig.host, .int .i64 o.req.orig.port, .bool o.req.dest.sec, .string o.req.dest.host, .int .i64 o.req.dest.port, .string o.req.path, .string o.req.query, .string o.req.method, .slice a2 o.req.heads.length c2, .bool o.req.creds, .string o.req.body]
abbrev zRqA : Array Value := #[.int .i64 0, .bool false, .string ⟨#[]⟩, .int .i64 0, .bool false, .string ⟨#[]⟩, .int .i64 0, .string ⟨#[]⟩, .string ⟨#[]⟩, .string ⟨#[]⟩, .slice none 0 0, .bool false, .string ⟨#[]⟩]
theorem infoRqD : (Try.prog.info? tRqD).map (·.size) = some 13 := by kernel_rfl
theorem infoUrD : (Try.prog.info? 29).map (·.size) = some 5 := by kernel_rfl
theorem guardCr : Try.prog.eqGuardType Try.prog.depth 34 = false := by kernel_rfl
theorem guardUr : Try.prog.eqGuardType Try.prog.depth 29 = false := by kernel_rfl
theorem step_put_blkD {P : Program} {ops : Array Oper} {o : Oper} {a : Act} {K : Act → World → Prop} {Q : Exit → Act → World → Prop} {E : Prop} {w : World} {cs : Array Value} {T : TypeId} (hgd : o.guard = none) (ty : TypeId) (x y : Operand) (ho : o.op = .store ty x y)
    (b : Nat) (hx : a.eval x = .pointer (some ⟨b, 0, none⟩)) (hb : Blk w b cs T) (vs : Array Value) (hy : a.eval y = .agg vs) (hs : vs.size = cs.size) (hi : (P.info? ty).map (·.size) = some vs.size) (h1 : vs.all (·.oneCell') = true)
    (h : ∀ w', Blk w' b vs T → w.grownBy w' (some b) → K (a.put o.dst undef) w') : if Region.wanted o (yielded ops a.tmps) = true then Oper.wp P o a w K Q else E := by
  have hw : Region.wanted o (yielded ops a.tmps) = true := by simp [Region.wanted, hgd]
  rw [if_pos hw]
  exact wp_store_mid ty x y ho b 0 vs hx hy (by rw [hs]; exact hb.there) hi h1 (h _ (hb.all vs hs) (only_setCells b vs.toList 0 w))
theorem creds_eqlD (u p : ByteArray) (w : World) : (binOp .eql 34 (.agg #[.string u, .string p]) (.agg #[.string u, .string p])).run Try.prog w = .ok (.bool true) w := by
  go_simp
theorem org_eqlD (s : Bool) (h : ByteArray) (p : Int) (w : World) : (binOp .eql 27 (.agg #[.bool s, .string h, .int .i64 p]) (.agg #[.bool s, .string h, .int .i64 p])).run Try.prog w = .ok (.bool true) w := by
  go_simp
theorem url_eqlD (s : Bool) (h : ByteArray) (p : Int) (x y : ByteArray) (w : World) : (binOp .eql 29 (.agg #[.bool s, .string h, .int .i64 p, .string x, .string y]) (.agg #[.bool s, .string h, .int .i64 p, .string x, .string y])).run Try.prog w = .ok (.bool true) w := by
  go_simp
theorem sub_range {w : World} {p off : Nat} {cs : Array Value} {T : TypeId} (h : Blk w p cs T) (xs : List Value) (hx : (cs.toList.drop off).take xs.length = xs) : w.rangeAt p off xs := fun j v hv => by
  refine h.cell (off + j) ?_
  have hj : j < xs.length := (List.getElem?_eq_some_iff.1 hv).1
  rw [← hx, List.getElem?_take, if_pos hj, List.getElem?_drop, Array.getElem?_toList] at hv
  exact hv
theorem heads_par {w : World} {o : OpV} (h : HeadsAt w o) : ParAt w o.req.addr o.req.heads := by
  rcases h with h | ⟨n, v, H, h1, h2, h3⟩
  · rw [h]; intro i hi; simp at hi
  · rw [h1, h2]
    intro i hi
    obtain rfl : i = 0 := by simpa using hi
    exact ⟨H, 0, rfl, h3.cell 0 rfl, h3.cell 1 rfl⟩
theorem heads_lenD {w : World} {o : OpV} (h : HeadsAt w o) : o.req.heads.length ≤ 1048576 := by
  rcases h with h | ⟨n, v, H, h1, h2, h3⟩
  · rw [h]; simp
  · rw [h1]; simp
set_option maxRecDepth 100000 in
set_option maxHeartbeats 4000000 in
theorem sameHeads_yes (o : OpV) (a2 : Option Addr) (c2 : Nat) (w : World) (hA : ParAt w o.req.addr o.req.heads) (hB : ParAt w a2 o.req.heads) (hl : o.req.heads.length ≤ 1048576) :
    Calls Try.prog 12 #[.agg o.arr, .agg (arrB o a2 c2)] w fun e w' => e = .returned (.bool true) ∧ Below w.heap.size w w' := by
  have hBz : Below w.heap.size w ((w.alloc (.cells o.arr tOpD)).alloc (.cells (arrB o a2 c2) tOpD)) := ((Below.refl _ _).alloc (Nat.le_refl _) _).alloc (by simp) _
  have b1 : Blk ((w.alloc (.cells o.arr tOpD)).alloc (.cells (arrB o a2 c2) tOpD)) w.heap.size o.arr tOpD := (Blk.new w _ _).alloc _
  have b2 : Blk ((w.alloc (.cells o.arr tOpD)).alloc (.cells (arrB o a2 c2) tOpD)) (w.heap.size + 1) (arrB o a2 c2) tOpD := by simpa using Blk.new (w.alloc (.cells o.arr tOpD)) (arrB o a2 c2) tOpD
  have hA' : ParAt ((w.alloc (.cells o.arr tOpD)).alloc (.cells (arrB o a2 c2) tOpD)) o.req.addr o.req.heads := hA.later hBz
  have hB' : ParAt ((w.alloc (.cells o.arr tOpD)).alloc (.cells (arrB o a2 c2) tOpD)) a2 o.req.heads := hB.later hBz
  have hsp := sameParams_yes o.req.addr a2 o.req.cap c2 o.req.heads _ hA' hB' hl
  have k1 : _ = some (Value.slice o.req.addr o.req.heads.length o.req.cap) := b1.cell 11 rfl
  have k2 : _ = some (Value.slice a2 o.req.heads.length c2) := b2.cell 11 rfl
  go_enter Try.func12, Try.ntmps12
  go_upto_region 1 with fail
  generalize (w.alloc (.cells o.arr tOpD)).alloc (.cells (arrB o a2 c2) tOpD) = w1 at hBz b1 b2 hA' hB' hsp k1 k2 ⊢
  go_wp2_with fail
  refine hsp.mono ?_
  rintro e w2 ⟨rfl, hB2⟩
  clear hsp k1 k2
  go_wp2
  go_ret
  exact ⟨rfl, hBz.then (Nat.le_refl _) hB2⟩
set_option maxRecDepth 100000 in
set_option maxHeartbeats 8000000 in
theorem sameOp_yes (o : OpV) (a2 : Option Addr) (c2 : Nat) (w : World) (hA : ParAt w o.req.addr o.req.heads) (hB : ParAt w a2 o.req.heads) (hl : o.req.heads.length ≤ 1048576) :
    Calls Try.prog 6 #[.agg o.arr, .agg (arrB o a2 c2)] w fun e w' => e = .returned (.bool true) ∧ Below w.heap.size w w' := by
  have hBz : Below w.heap.size w ((w.alloc (.cells o.arr tOpD)).alloc (.cells (arrB o a2 c2) tOpD)) := ((Below.refl _ _).alloc (Nat.le_refl _) _).alloc (by simp) _
  have b1 : Blk ((w.alloc (.cells o.arr tOpD)).alloc (.cells (arrB o a2 c2) tOpD)) w.heap.size o.arr tOpD := (Blk.new w _ _).alloc _
  have b2 : Blk ((w.alloc (.cells o.arr tOpD)).alloc (.cells (arrB o a2 c2) tOpD)) (w.heap.size + 1) (arrB o a2 c2) tOpD := by simpa using Blk.new (w.alloc (.cells o.arr tOpD)) (arrB o a2 c2) tOpD
  have hrA : (rqA o).all (·.oneCell') = true := by simp [Value.oneCell']
  have hrB : (rqB o a2 c2).all (·.oneCell') = true := by simp [Value.oneCell']
  go_enter Try.func6, Try.ntmps6
  go_upto_region 1 with fail
  generalize (w.alloc (.cells o.arr tOpD)).alloc (.cells (arrB o a2 c2) tOpD) = w1 at hBz b1 b2 ⊢
  have hh1 : Below w1.heap.size w1 (w1.drew.alloc (.cells zRqA tRqD)) := (Below.refl _ _).drew.alloc (Nat.le_refl _) _
  have hh2 : Below w1.heap.size w1 ((w1.drew.alloc (.cells zRqA tRqD)).alloc (.cells zRqA tRqD)) := hh1.alloc hh1.size _
  have hz1 : Blk ((w1.drew.alloc (.cells zRqA tRqD)).alloc (.cells zRqA tRqD)) w1.heap.size zRqA tRqD := (Blk.new w1.drew zRqA tRqD).alloc _
  have hz2 : Blk ((w1.drew.alloc (.cells zRqA tRqD)).alloc (.cells zRqA tRqD)) (w1.heap.size + 1) zRqA tRqD := by simpa using Blk.new (w1.drew.alloc (.cells zRqA tRqD)) zRqA tRqD
  go_cut [5, 6] (fun s5 s6 wx => ∃ p q, s5 = .pointer (some ⟨p, 0, none⟩) ∧ s6 = .pointer (some ⟨q, 0, none⟩) ∧ Hid (Blk wx p (rqA o) tRqD ∧ Blk wx q (rqB o a2 c2) tRqD ∧ Below w1.heap.size w1 wx))
  case first =>
    refine wp_region_held_drew (S := fun w' => Below w1.heap.size w1 w') (by kernel_rfl) (by (try dsimp only); exact (Below.refl _ _).drew) (fun hHeld => ?_)
    refine wpAnyH_take (i := 0) (v := ?_) rfl (by kernel_rfl) (by kernel_rfl) (by kernel_rfl) (fun _ _ _ h => h) (Or.inl ⟨by rfl, ?_⟩) (by assumption) ?_
    rotate_left
    · intro w hSw; (try dsimp only at hSw); go_simp; (try with_reducible rfl)
    (try simp only [List.getElem_toArray, List.getElem_cons_succ, List.getElem_cons_zero, Act.put, List.setIfInBounds_toArray, List.set_cons_zero, List.set_cons_succ])
    refine wpAnyH_take (i := 1) (v := .agg (rqA o)) rfl (by kernel_rfl) (by kernel_rfl) (by kernel_rfl) (fun _ _ _ h => h) (yieldsIf_load_mid (by rfl) tRqD _ rfl w.heap.size 1 (by rfl) (rqA o).toList _ (fun w h => sub_range (b1.later h) _ rfl) Try.underlying32 rfl infoRqD) (by assumption) ?_
    (try simp only [List.getElem_toArray, List.getElem_cons_succ, List.getElem_cons_zero, Act.put, List.setIfInBounds_toArray, List.set_cons_zero, List.set_cons_succ])
    refine wpAnyH_take (i := 2) (v := ?_) rfl (by kernel_rfl) (by kernel_rfl) (by kernel_rfl) (fun _ _ _ h => h) (Or.inl ⟨by rfl, ?_⟩) (by assumption) ?_
    rotate_left
    · intro w hSw; (try dsimp only at hSw); go_simp; (try with_reducible rfl)
    (try simp only [List.getElem_toArray, List.getElem_cons_succ, List.getElem_cons_zero, Act.put, List.setIfInBounds_toArray, List.set_cons_zero, List.set_cons_succ])
    refine wpAnyH_take (i := 3) (v := .agg (rqB o a2 c2)) rfl (by kernel_rfl) (by kernel_rfl) (by kernel_rfl) (fun _ _ _ h => h) (yieldsIf_load_mid (by rfl) tRqD _ rfl (w.heap.size + 1) 1 (by rfl) (rqB o a2 c2).toList _ (fun w h => sub_range (b2.later h) _ rfl) Try.underlying32 rfl infoRqD) (by assumption) ?_
    (try simp only [List.getElem_toArray, List.getElem_cons_succ, List.getElem_cons_zero, Act.put, List.setIfInBounds_toArray, List.set_cons_zero, List.set_cons_succ])
    refine wpAnyH_ready (rs := [4, 5]) (by kernel_rfl) (by simp) ?_
    refine AllReadyH.cons rfl (fun K hK => ?_) (AllReadyH.cons rfl (fun K hK => ?_) AllReadyH.nil)
    · go_simp
      refine hK.out _ _ (by (try dsimp only); exact hh1) (fun hHeld => ?_)
      clear hK K
      (try simp only [List.getElem_toArray, List.getElem_cons_succ, List.getElem_cons_zero, Act.put, List.setIfInBounds_toArray, List.set_cons_zero, List.set_cons_succ])
      refine wpAnyH_ready (rs := [5]) (by kernel_rfl) (by simp) ?_
      refine AllReadyH.cons rfl (fun K hK => ?_) AllReadyH.nil
      go_simp
      refine hK.out _ _ (by (try dsimp only); exact hh2) (fun hHeld => ?_)
      clear hK K
      (try simp only [List.getElem_toArray, List.getElem_cons_succ, List.getElem_cons_zero, Act.put, List.setIfInBounds_toArray, List.set_cons_zero, List.set_cons_succ])
      refine wpAnyH_ready (rs := [6]) (by kernel_rfl) (by simp) ?_
      refine AllReadyH.cons rfl (fun K hK => ?_) AllReadyH.nil
      refine step_put_blkD rfl tRqD _ _ rfl _ rfl hz1 (rqA o) rfl rfl infoRqD hrA ?_
      intro wa hpa hga
      have hh3 := below_only hh2 hga hh2.size (by omega)
      have hqa := hz2.grown hga (fun e => by have := Option.some.inj e; omega)
      refine hK.out _ _ (by (try dsimp only); exact hh3) (fun hHeld => ?_)
      clear hK K
      (try simp only [List.getElem_toArray, List.getElem_cons_succ, List.getElem_cons_zero, Act.put, List.setIfInBounds_toArray, List.set_cons_zero, List.set_cons_succ])
      refine wpAnyH_ready (rs := [7]) (by kernel_rfl) (by simp) ?_
      refine AllReadyH.cons rfl (fun K hK => ?_) AllReadyH.nil
      refine step_put_blkD rfl tRqD _ _ rfl _ rfl hqa (rqB o a2 c2) rfl rfl infoRqD hrB ?_
      intro wb hqb hgb
      have hh4 := below_only hh3 hgb hh3.size (by omega)
      have hpb := hpa.grown hgb (fun e => by have := Option.some.inj e; omega)
      refine hK.out _ _ (by (try dsimp only); exact hh4) (fun hHeld => ?_)
      clear hK K
      (try simp only [List.getElem_toArray, List.getElem_cons_succ, List.getElem_cons_zero, Act.put, List.setIfInBounds_toArray, List.set_cons_zero, List.set_cons_succ])
      refine wpAnyH_done (by kernel_rfl) ?_ _
      go_wp2_with fail
      go_meet
      exact ⟨_, _, rfl, rfl, Lib.hid ⟨hpb, hqb, hh4⟩⟩
    · go_simp
      refine hK.out _ _ (by (try dsimp only); exact hh1) (fun hHeld => ?_)
      clear hK K
      (try simp only [List.getElem_toArray, List.getElem_cons_succ, List.getElem_cons_zero, Act.put, List.setIfInBounds_toArray, List.set_cons_zero, List.set_cons_succ])
      refine wpAnyH_ready (rs := [4]) (by kernel_rfl) (by simp) ?_
      refine AllReadyH.cons rfl (fun K hK => ?_) AllReadyH.nil
      go_simp
      refine hK.out _ _ (by (try dsimp only); exact hh2) (fun hHeld => ?_)
      clear hK K
      (try simp only [List.getElem_toArray, List.getElem_cons_succ, List.getElem_cons_zero, Act.put, List.setIfInBounds_toArray, List.set_cons_zero, List.set_cons_succ])
      refine wpAnyH_ready (rs := [6]) (by kernel_rfl) (by simp) ?_
      refine AllReadyH.cons rfl (fun K hK => ?_) AllReadyH.nil
      refine step_put_blkD rfl tRqD _ _ rfl _ rfl hz2 (rqA o) rfl rfl infoRqD hrA ?_
      intro wa hpa hga
      have hh3 := below_only hh2 hga hh2.size (by omega)
      have hqa := hz1.grown hga (fun e => by have := Option.some.inj e; omega)
      refine hK.out _ _ (by (try dsimp only); exact hh3) (fun hHeld => ?_)
      clear hK K
      (try simp only [List.getElem_toArray, List.getElem_cons_succ, List.getElem_cons_zero, Act.put, List.setIfInBounds_toArray, List.set_cons_zero, List.set_cons_succ])
      refine wpAnyH_ready (rs := [7]) (by kernel_rfl) (by simp) ?_
      refine AllReadyH.cons rfl (fun K hK => ?_) AllReadyH.nil
      refine step_put_blkD rfl tRqD _ _ rfl _ rfl hqa (rqB o a2 c2) rfl rfl infoRqD hrB ?_
      intro wb hqb hgb
      have hh4 := below_only hh3 hgb hh3.size (by omega)
      have hpb := hpa.grown hgb (fun e => by have := Option.some.inj e; omega)
      refine hK.out _ _ (by (try dsimp only); exact hh4) (fun hHeld => ?_)
      clear hK K
      (try simp only [List.getElem_toArray, List.getElem_cons_succ, List.getElem_cons_zero, Act.put, List.setIfInBounds_toArray, List.set_cons_zero, List.set_cons_succ])
      refine wpAnyH_done (by kernel_rfl) ?_ _
      go_wp2_with fail
      go_meet
      exact ⟨_, _, rfl, rfl, Lib.hid ⟨hpb, hqb, hh4⟩⟩
  case rest =>
  obtain ⟨p, q, rfl, rfl, hH⟩ := hcut
  obtain ⟨hp, hq, hBc⟩ := hH.out
  have b1' := b1.later hBc
  have b2' := b2.later hBc
  have hBx := hBz.then (Nat.le_refl _) hBc
  have hsh := sameHeads_yes o a2 c2 wc (hA.later hBx) (hB.later hBx) hl
  clear hH hh1 hh2 hz1 hz2 hrA hrB b1 b2 hBz hBc hA hB w1
  generalize w.heap.size + 1 = P2 at b2' ⊢
  have ka0 : _ = some (Value.int .i64 o.what) := b1'.cell 0 rfl
  have ka14 : _ = some (Value.bool o.proxy) := b1'.cell 14 rfl
  have ka15 : _ = some (Value.string o.text) := b1'.cell 15 rfl
  have ka16 : _ = some (Value.string o.user) := b1'.cell 16 rfl
  have ka17 : _ = some (Value.string o.pass) := b1'.cell 17 rfl
  have ka18 : _ = some (Value.string o.cnonce) := b1'.cell 18 rfl
  have ka19 : _ = some (Value.int .i64 o.cert) := b1'.cell 19 rfl
  have ka20 : _ = some (Value.bool o.all) := b1'.cell 20 rfl
  have ka21 : _ = some (Value.int .i64 o.n) := b1'.cell 21 rfl
  have kb0 : _ = some (Value.int .i64 o.what) := b2'.cell 0 rfl
  have kb14 : _ = some (Value.bool o.proxy) := b2'.cell 14 rfl
  have kb15 : _ = some (Value.string o.text) := b2'.cell 15 rfl
  have kb16 : _ = some (Value.string o.user) := b2'.cell 16 rfl
  have kb17 : _ = some (Value.string o.pass) := b2'.cell 17 rfl
  have kb18 : _ = some (Value.string o.cnonce) := b2'.cell 18 rfl
  have kb19 : _ = some (Value.int .i64 o.cert) := b2'.cell 19 rfl
  have kb20 : _ = some (Value.bool o.all) := b2'.cell 20 rfl
  have kb21 : _ = some (Value.int .i64 o.n) := b2'.cell 21 rfl
  have kp0 : _ = some (Value.int .i64 o.req.part) := hp.cell 0 rfl
  have kp1 : _ = some (Value.bool o.req.orig.sec) := hp.cell 1 rfl
  have kp2 : _ = some (Value.string o.req.orig.host) := hp.cell 2 rfl
  have kp3 : _ = some (Value.int .i64 o.req.orig.port) := hp.cell 3 rfl
  have kp4 : _ = some (Value.bool o.req.dest.sec) := hp.cell 4 rfl
  have kp5 : _ = some (Value.string o.req.dest.host) := hp.cell 5 rfl
  have kp6 : _ = some (Value.int .i64 o.req.dest.port) := hp.cell 6 rfl
  have kp7 : _ = some (Value.string o.req.path) := hp.cell 7 rfl
  have kp8 : _ = some (Value.string o.req.query) := hp.cell 8 rfl
  have kp9 : _ = some (Value.string o.req.method) := hp.cell 9 rfl
  have kp11 : _ = some (Value.bool o.req.creds) := hp.cell 11 rfl
  have kp12 : _ = some (Value.string o.req.body) := hp.cell 12 rfl
  have kq0 : _ = some (Value.int .i64 o.req.part) := hq.cell 0 rfl
  have kq1 : _ = some (Value.bool o.req.orig.sec) := hq.cell 1 rfl
  have kq2 : _ = some (Value.string o.req.orig.host) := hq.cell 2 rfl
  have kq3 : _ = some (Value.int .i64 o.req.orig.port) := hq.cell 3 rfl
  have kq4 : _ = some (Value.bool o.req.dest.sec) := hq.cell 4 rfl
  have kq5 : _ = some (Value.string o.req.dest.host) := hq.cell 5 rfl
  have kq6 : _ = some (Value.int .i64 o.req.dest.port) := hq.cell 6 rfl
  have kq7 : _ = some (Value.string o.req.path) := hq.cell 7 rfl
  have kq8 : _ = some (Value.string o.req.query) := hq.cell 8 rfl
  have kq9 : _ = some (Value.string o.req.method) := hq.cell 9 rfl
  have kq11 : _ = some (Value.bool o.req.creds) := hq.cell 11 rfl
  have kq12 : _ = some (Value.string o.req.body) := hq.cell 12 rfl
  have hgC := guardCr
  have hgO := noGuardOrg
  have hgU := guardUr
  have heC := fun w => creds_eqlD o.user o.pass w
  have heO := fun w => org_eqlD o.req.orig.sec o.req.orig.host o.req.orig.port w
  have heU := fun w => url_eqlD o.req.dest.sec o.req.dest.host o.req.dest.port o.req.path o.req.query w
  clear hp hq
  go_wp2_with (first
    | (refine wpList_want_blk (by kernel_rfl) tOpD _ rfl _ rfl b1' _ Try.underlying36 rfl infoOpD ?_)
    | (refine wpList_want_blk (by kernel_rfl) tOpD _ rfl _ rfl b2' _ Try.underlying36 rfl infoOpD ?_)
    | (go_at_call 12; refine hsh.mono ?_; rintro e w9 ⟨rfl, hB9⟩))
  trace_state
  go_ret
  exact ⟨rfl, hBx.then (Nat.le_refl _) hB9⟩
end Go.Proofs.Ytinlahahbhpppaa
