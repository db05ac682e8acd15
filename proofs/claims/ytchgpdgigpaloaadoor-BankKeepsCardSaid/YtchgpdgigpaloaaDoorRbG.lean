/- The reference's bank: Get. -/
import Derived.Test.YtchgpdgigpaloaaDoorRbA
namespace Go.Proofs.YtchgpdgigpaloaaDoor
set_option linter.unusedSimpArgs false
open Go.RowKit Go.Deep
theorem gra_cells {w : World} {q : Nat} {x : Gra} (h : Blk w q x.arr tGra) : w.cell? ⟨q, 0, none⟩ = some (.bool x.orig.sec) ∧ w.cell? ⟨q, 1, none⟩ = some (.string x.orig.host) ∧ w.cell? ⟨q, 2, none⟩ = some (.int .i64 x.orig.port) ∧ w.cell? ⟨q, 3, none⟩ = some (.bool x.proxy) ∧ w.cell? ⟨q, 7, none⟩ = some (.string x.ask.d.realm) :=
  ⟨h.cell 0 rfl, h.cell 1 rfl, h.cell 2 rfl, h.cell 3 rfl, h.cell 7 rfl⟩
theorem keyG_no {o : Org} {p : Bool} {r : ByteArray} {x : GraD} (h : keyG o p r x = false) : orgE x.orig o = false ∨ (orgE x.orig o = true ∧ (x.proxy == p) = false) ∨ (orgE x.orig o = true ∧ (x.proxy == p) = true ∧ (x.ask.realm.toList == r.toList) = false) := by
  unfold keyG ofB at h
  cases e : orgE x.orig o
  · exact .inl rfl
  · cases e2 : (x.proxy == p)
    · exact .inr (.inl ⟨rfl, rfl⟩)
    · rw [e, e2] at h
      exact .inr (.inr ⟨rfl, rfl, by simpa using h⟩)
theorem keyG_yes {o : Org} {p : Bool} {r : ByteArray} {x : GraD} (h : keyG o p r x = true) : orgE x.orig o = true ∧ (x.proxy == p) = true ∧ (x.ask.realm.toList == r.toList) = true := by
  unfold keyG ofB at h
  simp only [Bool.and_eq_true] at h
  exact ⟨h.1.1, h.1.2, h.2⟩
def zeroGra : Gra := ⟨⟨false, ⟨#[]⟩, 0⟩, false, ⟨#[]⟩, ⟨#[]⟩, ⟨askZero, none, 0⟩, 0, [], none, 0⟩
/-- the grant that is found, as it lies -/
def RbGetPost (r : Option Gra) (w : World) (e : Ending) (w' : World) : Prop := e = .returned (.tuple #[.agg (r.getD zeroGra).arr, .bool r.isSome]) ∧ Below w.heap.size w w'
theorem find_at {α : Type} {f : α → Bool} {l : List α} {k : Nat} (h : k < l.length) (e : f l[k] = true) (h0 : (l.take k).any f = false) : l.find? f = some l[k] := by
  have hs : l = l.take k ++ (l[k] :: l.drop (k + 1)) := by rw [← List.drop_eq_getElem_cons h, List.take_append_drop]
  conv => lhs; rw [hs]
  have h1 : (l.take k).find? f = none := by
    rw [List.find?_eq_none]
    intro x hx
    have := List.any_eq_false.1 h0 x hx
    simpa using this
  rw [List.find?_append, h1, Option.none_or, List.find?_cons, e]
theorem find_no {α : Type} {f : α → Bool} {l : List α} (h0 : l.any f = false) : l.find? f = none := by
  rw [List.find?_eq_none]
  intro x hx
  have := List.any_eq_false.1 h0 x hx
  simpa using this
set_option maxRecDepth 100000 in
set_option maxHeartbeats 4000000 in
theorem refBankGet (a : Option Addr) (cap : Nat) (Gs : List Gra) (wa : Option Addr) (wn wc : Nat) (o : Org) (p : Bool) (r : ByteArray) (w : World) (hS : RowAt 16 encGra w a Gs) (hl : Gs.length ≤ 100000) :
    Calls Tryd.prog 21 #[.agg #[.slice a Gs.length cap, .slice wa wn wc], .agg (orgArr o), .bool p, .string r] w (RbGetPost (Gs.find? (fun x => keyG o p r x.d)) w) := by
  have hal : Below w.heap.size w (((w.alloc (.cells #[.slice a Gs.length cap, .slice wa wn wc] tRBk)).alloc (.cells (orgArr o) 32)).alloc (.cells zGra tGra)) := ((((Below.refl w.heap.size w).alloc (by simp; try omega) (.cells #[.slice a Gs.length cap, .slice wa wn wc] tRBk)).alloc (by simp; try omega) (.cells (orgArr o) 32)).alloc (by simp; try omega) (.cells zGra tGra))
  have hqb := (((Blk.new w #[.slice a Gs.length cap, .slice wa wn wc] tRBk).alloc (.cells (orgArr o) 32)).alloc (.cells zGra tGra))
  have hq0 := ((Blk.new (w.alloc (.cells #[.slice a Gs.length cap, .slice wa wn wc] tRBk)) (orgArr o) 32).alloc (.cells zGra tGra))
  have hqz := (Blk.new ((w.alloc (.cells #[.slice a Gs.length cap, .slice wa wn wc] tRBk)).alloc (.cells (orgArr o) 32)) zGra tGra)
  simp only [World.size_alloc] at hq0 hqz
  have c0 : _ = some (Value.slice a Gs.length cap) := hqb.cell 0 rfl
  have hB0 := Lib.hid hal
  have hq0H := Lib.hid hq0
  have hzH := Lib.hid hqz
  have hrH := Lib.hid hS
  clear hal hq0 hqz hS
  go_enter Tryd.func21, Tryd.ntmps21
  go_wp2
  go_loopw [11, 15] (fun _ vi wr => ∃ k : Nat, k ≤ Gs.length ∧ vi = .int .i64 k ∧ Hid ((Gs.take k).any (fun x => keyG o p r x.d) = false) ∧ Hid (Below w.heap.size w wr) ∧ Hid (Blk wr (w.heap.size + 1) (orgArr o) 32) ∧ Hid (Blk wr (w.heap.size + 1 + 1) zGra tGra)) (fun _ vi _ => Gs.length - (intOf vi).toNat)
  case atStart => exact ⟨0, Nat.zero_le _, rfl, Lib.hid rfl, hB0, hq0H, hzH⟩
  case round =>
    obtain ⟨k, hk, rfl, hN, hB, hq, hzz⟩ := hrel
    by_cases hlt : k < Gs.length
    · obtain ⟨pb, po, rfl, hc⟩ := (hrH.out.later hB.out) k hlt
      have hrg : wr.rangeAt pb (po + k * 16) (encGra Gs[k]) := hc
      have hno := Lib.hid (fun e => any_take_noR (f := fun x : Gra => keyG o p r x.d) hlt hN.out e)
      have hye := Lib.hid (fun e => find_at (f := fun x : Gra => keyG o p r x.d) hlt e hN.out)
      have hZ := Blk.new wr zGra tGra
      have hbs := hB.out.size
      have hgp := hzz.out.lt
      clear hc
      generalize Gs[k] = x at hrg hno hye
      have h1 := fun w => org_eql x.orig o w
      go_upto_region 4 with (first
        | (refine wpList_load_mid rfl tGra _ rfl pb (po + k * 16) rfl (encGra x) _ hrg undGra rfl infoGra ?_)
        | (refine wpList_store_blk rfl tGra _ _ rfl _ rfl hZ x.arr rfl rfl infoGra (gra_one x) ?_; intro wa2 hpas hga))
      have hBa := Lib.hid (below_only (hB.out.alloc hbs (.cells zGra tGra)) hga (by simp; omega) hbs)
      have hqa := (hq.out.alloc (.cells zGra tGra)).grown hga (fun e => by have := Option.some.inj e; omega)
      have hza := (hzz.out.alloc (.cells zGra tGra)).grown hga (fun e => by have := Option.some.inj e; omega)
      have hqaH := Lib.hid hqa
      have hzaH := Lib.hid hza
      obtain ⟨d0, d1, d2, d3, d7⟩ := gra_cells hpas
      clear hrg hZ hga hB hq hzz
      cases hq1 : keyG o p r x.d
      · have hn' := Lib.hid (hno.out hq1)
        rcases keyG_no hq1 with hr1 | ⟨hr1, hr2⟩ | ⟨hr1, hr2, hr4⟩
        all_goals
          clear hq1 hno hye
          simp only [hr1] at h1
          try (have hr3 : (x.proxy == p) = false := hr2)
          try (have hr3 : (x.proxy == p) = true := hr2)
          try (have hr5 : (x.ask.d.realm.toList == r.toList) = false := hr4)
          go_wp2_with (first
            | (refine wpList_load_blk rfl 32 _ rfl _ rfl hqa _ Tryd.underlying32 rfl infoOrgB ?_)
            | ((with_reducible show wpList _ _ _ ({ dst := _, op := Op.binOp _ _ _ _ _, type := _, pos := _, after := _, guard := _ } :: _) _ _); refine wpList_eql_agg _ rfl .eql 32 32 _ _ rfl #[.bool x.orig.sec, .string x.orig.host, .int .i64 x.orig.port] #[.bool o.sec, .string o.host, .int .i64 o.port] (by rfl) (by rfl) noGuardOrg _ (h1 _) ?_))
          go_roundw
          case rel => exact ⟨k + 1, by omega, by go_num, hn', hBa, hqaH, hzaH⟩
          case measure => simp [intOf]; omega
      · have hy' := Lib.hid (hye.out hq1)
        obtain ⟨hr1, hr2, hr4⟩ := keyG_yes hq1
        clear hq1 hno hye
        simp only [hr1] at h1
        have hr3 : (x.proxy == p) = true := hr2
        have hr5 : (x.ask.d.realm.toList == r.toList) = true := hr4
        go_wp2_with (first
          | (refine wpList_load_blk rfl 32 _ rfl _ rfl hqa _ Tryd.underlying32 rfl infoOrgB ?_)
          | ((with_reducible show wpList _ _ _ ({ dst := _, op := Op.binOp _ _ _ _ _, type := _, pos := _, after := _, guard := _ } :: _) _ _); refine wpList_eql_agg _ rfl .eql 32 32 _ _ rfl #[.bool x.orig.sec, .string x.orig.host, .int .i64 x.orig.port] #[.bool o.sec, .string o.host, .int .i64 o.port] (by rfl) (by rfl) noGuardOrg _ (h1 _) ?_)
          | (refine wpList_load_blk rfl tGra _ rfl _ rfl hpas _ undGra rfl infoGra ?_)
          | (refine wpList_store_blk rfl tGra _ _ rfl _ rfl hza x.arr rfl rfl infoGra (gra_one x) ?_; intro w6 hb6 hg6))
        have hB6 := below_only hBa.out hg6 hBa.out.size (by omega)
        refine bodyPost_ret (v := .tuple #[.agg x.arr, .bool true]) ?_ rfl ?_
        · exact results_cell2 8 tGra 9 (w.heap.size + 1 + 1) Tryd.results21 rfl rfl (loadG_blk hb6 undGra rfl infoGra)
        · rw [hy'.out]
          exact ⟨rfl, hB6⟩
    · obtain rfl : Gs.length = k := by omega
      have hnn := Lib.hid (show Gs.find? (fun x => keyG o p r x.d) = none by have := hN.out; rw [List.take_length] at this; exact find_no this)
      have hzo := hzz.out
      go_wp2_with (refine wpList_store_blk rfl tGra _ _ rfl _ rfl hzo zGra rfl rfl infoGra (by simp [Value.oneCell']) ?_; intro w6 hb6 hg6)
      have hB6 := below_only hB.out hg6 hB.out.size (by omega)
      refine bodyPost_ret (v := .tuple #[.agg zGra, .bool false]) ?_ rfl ?_
      · exact results_cell2 8 tGra 9 (w.heap.size + 1 + 1) Tryd.results21 rfl rfl (loadG_blk hb6 undGra rfl infoGra)
      · rw [hnn.out]
        exact ⟨rfl, hB6⟩
end Go.Proofs.YtchgpdgigpaloaaDoor
