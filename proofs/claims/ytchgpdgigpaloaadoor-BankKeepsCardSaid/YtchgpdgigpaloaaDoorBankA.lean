/- The program's bank: same, copied, reach. -/
import Derived.Test.YtchgpdgigpaloaaDoorBankP
import Derived.Test.YtchgpdgigpaloaaDoorTxt
import Derived.Test.YtchgpdgigpaloaaDoorDir
import Derived.WalkLawsBesides
import Derived.Deep.Cut
import Derived.Deep.DeepCutAuto
import Derived.Deep.CutBlock
import Derived.Deep.RegionHeld3
import Derived.Maps.RangeWalk
namespace Go.Proofs.YtchgpdgigpaloaaDoor
set_option linter.unusedSimpArgs false
open Go.RowKit Go.Deep
abbrev orgArr (o : Org) : Array Value := #[.bool o.sec, .string o.host, .int .i64 o.port]
/-- one result, a struct in a block, and another -/
theorem results_cell2 {P : Program} {fn : Func} {tmps : Array Value} {w : World} {v u : Value} (a : Nat) (t : TypeId) (c : Nat) (b : Nat) (hr : fn.results = #[.cell a t, .tmp c]) (ht : tmps.getD a undef = .pointer (some ⟨b, 0, none⟩)) (hu : tmps.getD c undef = u) (hl : (loadVar t ⟨b, 0, none⟩).run P w = .ok v w) :
    (results fn tmps).run P w = .ok (.tuple #[v, u]) w := by
  have ha : (asAddr (tmps.getD a undef)).run P w = .ok ⟨b, 0, none⟩ w := by rw [ht]; rfl
  rw [Array.getD_eq_getD_getElem?] at ha hu
  unfold results
  rw [hr]
  simp [Sem.run_bind, ha, hl, hu, Result.andThen]
theorem results_cell1 {P : Program} {fn : Func} {tmps : Array Value} {w : World} {v : Value} (a : Nat) (t : TypeId) (b : Nat) (hr : fn.results = #[.cell a t]) (ht : tmps.getD a undef = .pointer (some ⟨b, 0, none⟩)) (hl : (loadVar t ⟨b, 0, none⟩).run P w = .ok v w) :
    (results fn tmps).run P w = .ok v w := by
  have ha : (asAddr (tmps.getD a undef)).run P w = .ok ⟨b, 0, none⟩ w := by rw [ht]; rfl
  rw [Array.getD_eq_getD_getElem?] at ha
  unfold results
  rw [hr]
  simp [Sem.run_bind, ha, hl, Result.andThen]
theorem loadG_blk {P : Program} {w : World} {p : Nat} {cs : Array Value} {T ty : TypeId} {d : TypeDesc} (hb : Blk w p cs T) (hu : P.underlying ty = some d) (hd : d.isRow = true) (hi : (P.info? ty).map (·.size) = some cs.size) :
    (loadVar ty ⟨p, 0, none⟩).run P w = .ok (.agg cs) w := by
  have := run_loadVar_mid (P := P) w p 0 ty cs.toList d hb.range hu hd (by simpa using hi)
  simpa using this
theorem infoStrsA : (Tryd.prog.info? 35).map (·.size) = some 1 := by kernel_rfl
theorem infoOrgB : (Tryd.prog.info? 32).map (·.size) = some 3 := by kernel_rfl
theorem undGra : Tryd.prog.underlying 39 = some (.struct ((match Tryd.prog.underlying 39 with | some (.struct fs) => fs | _ => #[]))) := by kernel_rfl
theorem undWai : Tryd.prog.underlying 57 = some (.struct ((match Tryd.prog.underlying 57 with | some (.struct fs) => fs | _ => #[]))) := by kernel_rfl
set_option maxRecDepth 100000 in
set_option maxHeartbeats 2000000 in
theorem bankSame (g : Gra) (o : Org) (p : Bool) (r : ByteArray) (w : World) :
    Calls Tryd.prog 40 #[.agg g.arr, .agg (orgArr o), .bool p, .string r] w fun e w' => e = .returned (.bool (keyG o p r g.d)) ∧ Below w.heap.size w w' := by
  have hal := Lib.hid (((Below.refl w.heap.size w).alloc (Nat.le_refl _) (.cells g.arr tGra)).alloc (by simp) (.cells (orgArr o) 32))
  have h1 := fun w => org_eql g.orig o w
  have hk : keyG o p r g.d = (orgE g.orig o && (g.proxy == p) && (g.ask.d.realm.toList == r.toList)) := rfl
  rw [hk]
  clear hk
  obtain ⟨⟨s1, g1, p1⟩, proxy, user, pass, ⟨⟨sc, realm, nonce, opq, sess, qop, stale, dom⟩, ad, cp⟩, count, paths, ad2, cp2⟩ := g
  obtain ⟨so, ho, po⟩ := o
  simp only at h1 ⊢
  generalize orgE ⟨s1, g1, p1⟩ ⟨so, ho, po⟩ = r1 at h1 ⊢
  cases r1 <;> cases proxy <;> cases p
  all_goals
    go_enter Tryd.func40, Tryd.ntmps40
    go_wp2_with (first
      | (refine wpList_eql_agg _ rfl .eql 32 32 _ _ rfl #[.bool s1, .string g1, .int .i64 p1] #[.bool so, .string ho, .int .i64 po] (by rfl) (by rfl) noGuardOrg _ (h1 _) ?_))
    go_ret
    exact ⟨by first | rfl | simp, hal.out⟩
/-- a copy of a grant: the same, its texts in rows of its own -/
def CopiedPost (g : GraD) (w : World) (e : Ending) (w' : World) : Prop :=
  ∃ g' : Gra, g'.d = g ∧ e = .returned (.agg g'.arr) ∧ TxtAt w' g'.ask.addr g'.ask.d.domain ∧ TxtAt w' g'.addr g'.paths ∧ (∀ x, g'.ask.addr = some x → w.heap.size ≤ x.block ∧ x.block < w'.heap.size) ∧ (∀ x, g'.addr = some x → w.heap.size ≤ x.block ∧ x.block < w'.heap.size) ∧ Below w.heap.size w w'
set_option maxRecDepth 100000 in
set_option maxHeartbeats 4000000 in
theorem bankCopied (g : Gra) (w : World) (hd : StrAt w g.ask.addr g.ask.d.domain) (hp : StrAt w g.addr g.paths) (hl1 : g.ask.d.domain.length ≤ 1048576) (hl2 : g.paths.length ≤ 1048576) :
    Calls Tryd.prog 30 #[.agg g.arr] w (CopiedPost g.d w) := by
  have hal := ((Below.refl w.heap.size w).alloc (Nat.le_refl _) (.cells g.arr tGra)).alloc (by simp) (.cells zGra tGra)
  have hb1 := (Blk.new w g.arr tGra).alloc (.cells zGra tGra)
  have hb2 := Blk.new (w.alloc (.cells g.arr tGra)) zGra tGra
  rw [World.size_alloc] at hb2
  go_enter Tryd.func30, Tryd.ntmps30
  go_upto_region 1 with (fail)
  generalize hw1 : ((w.alloc (.cells g.arr tGra)).alloc (.cells zGra tGra)) = w1 at hal hb1 hb2 ⊢
  clear hw1
  have hcl := cloneS g.addr g.cap g.paths w1 (hp.later hal) hl2
  have c15 : _ = some (Value.slice g.addr g.paths.length g.cap) := hb1.cell 15 rfl
  have hsz := hal.size
  clear hp
  go_wp2_with fail
  refine hcl.mono ?_
  rintro e w2 ⟨v2, rfl, hO2, hB2⟩
  obtain ⟨a2, c2, rfl, _⟩ := OwnStr.shape hO2
  have hb1' := hb1.later hB2
  have hb2' := Lib.hid (hb2.later hB2)
  have hB02 := Lib.hid (hal.then (Nat.le_refl _) hB2)
  have hO2' := Lib.hid hO2
  have hlt := hb2.lt
  have hszW : w1.heap.size ≤ w2.heap.size := hB2.size
  clear hcl hb1 hb2 hB2 hO2 c15
  go_upto_region 2 with (refine wpList_store_cell rfl _ _ _ (by rfl) w.heap.size 15 (by rfl) hb1' (by decide : 15 < 16) (.slice a2 g.paths.length c2) (by rfl) (by rfl) (by rfl) infoStrsA ?_; intro w3 hb3 hg3)
  have hO3 : OwnStr w3 w1.heap.size (.slice a2 g.paths.length c2) g.paths := Only.own (Only.of_grown (S := fun i => i = w.heap.size) hg3 (fun i e => (Option.some.inj e).symm)) hO2'.out (fun k hk e => by
    have := (World.ownsRow.lt hO2'.out k hk).1
    omega)
  have hb23 := hb2'.out.grown hg3 (fun e => by have := Option.some.inj e; omega)
  have hB03 := below_only hB02.out hg3 hB02.out.size (Nat.le_refl _)
  have hd3 : StrAt w3 g.ask.addr g.ask.d.domain := hd.later hB03
  have hcl2 := cloneS g.ask.addr g.ask.cap g.ask.d.domain w3 hd3 hl1
  have c13 : _ = some (Value.slice g.ask.addr g.ask.d.domain.length g.ask.cap) := hb3.cell 13 rfl
  have hO3' := Lib.hid hO3
  have hB03' := Lib.hid hB03
  have hb23' := Lib.hid hb23
  clear hO3 hB03 hb23 hd3 hg3 hb1' hB02 hb2' hO2'
  go_wp2_with fail
  refine hcl2.mono ?_
  rintro e w4 ⟨v4, rfl, hO4, hB4⟩
  obtain ⟨a4, c4, rfl, _⟩ := OwnStr.shape hO4
  have hb4 := hb3.later hB4
  have hb24 := hb23'.out.later hB4
  have hO34 := Lib.hid (OwnStr.later hO3'.out hB4)
  have hO4' := Lib.hid hO4
  have hB04 := Lib.hid (hB03'.out.then (Nat.le_refl _) hB4)
  clear hcl2 hO4 hB4 hb3 c13
  go_upto_region 3 with (refine wpList_store_cell rfl _ _ _ (by rfl) w.heap.size 13 (by rfl) hb4 (by decide : 13 < 16) (.slice a4 g.ask.d.domain.length c4) (by rfl) (by rfl) (by rfl) infoStrsA ?_; intro w5 hb5 hg5)
  have hsz4 := hB04.out.size
  have hs13 := hO4'.out
  have hO35 : OwnStr w5 w1.heap.size (.slice a2 g.paths.length c2) g.paths := Only.own (Only.of_grown (S := fun i => i = w.heap.size) hg5 (fun i e => (Option.some.inj e).symm)) hO34.out (fun k hk e => by
    have := (World.ownsRow.lt hO34.out k hk).1
    omega)
  have hlt4 := hb24.lt
  have hO45 : OwnStr w5 w3.heap.size (.slice a4 g.ask.d.domain.length c4) g.ask.d.domain := Only.own (Only.of_grown (S := fun i => i = w.heap.size) hg5 (fun i e => (Option.some.inj e).symm)) hs13 (fun k hk e => by
    have := (World.ownsRow.lt hs13 k hk).1
    have := hB03'.out.size
    have := hb23'.out.lt
    omega)
  have hb25 := hb24.grown hg5 (fun e => by have := Option.some.inj e; omega)
  have hB05 := below_only hB04.out hg5 hsz4 (Nat.le_refl _)
  have hone : (#[.bool g.orig.sec, .string g.orig.host, .int .i64 g.orig.port, .bool g.proxy, .string g.user, .string g.pass, .int .i64 g.ask.d.scheme, .string g.ask.d.realm, .string g.ask.d.nonce, .string g.ask.d.opaque_, .bool g.ask.d.sess, .string g.ask.d.qop, .bool g.ask.d.stale, .slice a4 g.ask.d.domain.length c4, .int .i64 g.count, .slice a2 g.paths.length c2] : Array Value).all (·.oneCell') = true := gra_one ⟨g.orig, g.proxy, g.user, g.pass, ⟨g.ask.d, a4, c4⟩, g.count, g.paths, a2, c2⟩
  have hO35' := Lib.hid hO35
  have hO45' := Lib.hid hO45
  have hB05' := Lib.hid hB05
  have hszw := hB03'.out.size
  clear hO35 hO45 hB05 hs13 hO34 hO4' hB04 hb24 hb4 hg5
  have hb5' : Blk w5 w.heap.size #[.bool g.orig.sec, .string g.orig.host, .int .i64 g.orig.port, .bool g.proxy, .string g.user, .string g.pass, .int .i64 g.ask.d.scheme, .string g.ask.d.realm, .string g.ask.d.nonce, .string g.ask.d.opaque_, .bool g.ask.d.sess, .string g.ask.d.qop, .bool g.ask.d.stale, .slice a4 g.ask.d.domain.length c4, .int .i64 g.count, .slice a2 g.paths.length c2] tGra := hb5
  clear hb5
  go_wp2_with (first
    | (refine wpList_load_blk rfl tGra _ rfl _ rfl hb5' _ undGra rfl infoGra ?_)
    | (refine wpList_store_blk rfl tGra _ _ rfl _ rfl hb25 #[.bool g.orig.sec, .string g.orig.host, .int .i64 g.orig.port, .bool g.proxy, .string g.user, .string g.pass, .int .i64 g.ask.d.scheme, .string g.ask.d.realm, .string g.ask.d.nonce, .string g.ask.d.opaque_, .bool g.ask.d.sess, .string g.ask.d.qop, .bool g.ask.d.stale, .slice a4 g.ask.d.domain.length c4, .int .i64 g.count, .slice a2 g.paths.length c2] (by rfl) rfl infoGra hone ?_; intro w6 hb6 hg6))
  have hlt5 := hb25.lt
  have hB06 := below_only hB05'.out hg6 hB05'.out.size (by omega)
  have ho6 : Only (fun i => i = w.heap.size + 1) w5 w6 := Only.of_grown hg6 (fun i e => (Option.some.inj e).symm)
  have hO36 : OwnStr w6 w1.heap.size (.slice a2 g.paths.length c2) g.paths := ho6.own hO35'.out (fun k hk e => by
    have := (World.ownsRow.lt hO35'.out k hk).1
    omega)
  have hO46 : OwnStr w6 w3.heap.size (.slice a4 g.ask.d.domain.length c4) g.ask.d.domain := ho6.own hO45'.out (fun k hk e => by
    have := (World.ownsRow.lt hO45'.out k hk).1
    have := hb23'.out.lt
    omega)
  refine bodyPost_ret (v := .agg #[.bool g.orig.sec, .string g.orig.host, .int .i64 g.orig.port, .bool g.proxy, .string g.user, .string g.pass, .int .i64 g.ask.d.scheme, .string g.ask.d.realm, .string g.ask.d.nonce, .string g.ask.d.opaque_, .bool g.ask.d.sess, .string g.ask.d.qop, .bool g.ask.d.stale, .slice a4 g.ask.d.domain.length c4, .int .i64 g.count, .slice a2 g.paths.length c2]) ?_ rfl ⟨⟨g.orig, g.proxy, g.user, g.pass, ⟨g.ask.d, a4, c4⟩, g.count, g.paths, a2, c2⟩, rfl, rfl, hO46.txt, hO36.txt, fun x hx => ?_, fun x hx => ?_, hB06⟩
  · exact results_cell1 2 tGra (w.heap.size + 1) Tryd.results30 rfl (loadG_blk hb6 undGra rfl infoGra)
  · have := OwnStr.lies hO46 x hx
    exact ⟨by omega, this.2⟩
  · have := OwnStr.lies hO36 x hx
    exact ⟨by omega, this.2⟩
end Go.Proofs.YtchgpdgigpaloaaDoor
