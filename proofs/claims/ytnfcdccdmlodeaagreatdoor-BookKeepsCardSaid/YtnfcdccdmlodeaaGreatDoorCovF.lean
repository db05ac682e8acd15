/- cors.Covers: whether passes allow a request. -/
import Derived.Test.YtnfcdccdmlodeaaGreatDoorPass
import Derived.Test.YtnfcdccdmlodeaaGreatDoorAsksF
import Derived.Test.YtnfcdccdmlodeaaGreatDoorMethod
namespace Go.Proofs.YtnfcdccdmlodeaaGreatDoor
open Go.RowKit
abbrev tReq : TypeId := 34
abbrev tPasses : TypeId := 24
set_option maxRecDepth 100000 in
theorem coversHas (g : Nat) (lb : Array Value) (f : Pass → Bool) (a : Option Addr) (cap : Nat) (ps : List Pass) (p : Nat) (w : World) (hc : w.cell? ⟨p, 0, none⟩ = some (.slice a ps.length cap)) (hS : PassAt w a ps) (hl : ps.length ≤ 1048576)
    (eg : ∀ args w, (callFunc g args).run Tryz.prog w = .ok (.enter g args) w) (hp : PredP g lb f ps w) :
    Calls Tryz.prog 62 #[.func (.func g) #[] lb, .pointer (some ⟨p, 0, none⟩)] w fun e w' => e = .returned (.bool (ps.any f)) ∧ Below w.heap.size w w' := by
  have hi := containsFuncP g lb f a cap ps w hS hl eg hp
  clear hp hS eg
  go_enter Tryz.func62, Tryz.ntmps62
  go_wp2_with fail
  refine hi.mono ?_
  rintro e w2 ⟨rfl, hB⟩
  go_wp2
  go_ret
  exact ⟨rfl, hB⟩
set_option maxRecDepth 100000 in
theorem covers2 (x : Pass) (m : ByteArray) (wth : Bool) (p q : Nat) (w : World) (hm : w.cell? ⟨p, 0, none⟩ = some (.string m)) (hw : w.cell? ⟨q, 11, none⟩ = some (.bool wth)) :
    Calls Tryz.prog 66 #[.agg x.arr, .pointer (some ⟨p, 0, none⟩), .pointer (some ⟨q, 0, none⟩)] w fun e w' => e = .returned (.bool (metM wth m.data.toList (pasV x))) ∧ Below w.heap.size w w' := by
  have hal := (Below.refl w.heap.size w).alloc (Nat.le_refl _) (.cells x.arr tPass)
  have hm1 := (hal.cell (World.block_lt_of_cell? w _ hm)).trans hm
  have hw1 := (hal.cell (World.block_lt_of_cell? w _ hw)).trans hw
  have hr : Hid (metM wth m.data.toList (pasV x) = ((x.method.toList == m.toList) || ((x.method.toList == [42]) && !wth))) := Lib.hid (by unfold metM pasV; rw [Lib.toList_data, Lib.toList_data])
  generalize metM wth m.data.toList (pasV x) = res at hr ⊢
  cases e1 : (x.method.toList == m.toList) <;> cases e2 : (x.method.toList == [42]) <;> cases wth <;>
  · rw [e1, e2] at hr
    go_enter Tryz.func66, Tryz.ntmps66
    go_wp2
    go_ret
    exact ⟨ret_bool (by rw [hr.out]; rfl), hal⟩
set_option maxRecDepth 100000 in
theorem covers3 (x : Pass) (h : ByteArray) (wth : Bool) (p q : Nat) (w : World) (hm : w.cell? ⟨p, 0, none⟩ = some (.string h)) (hw : w.cell? ⟨q, 11, none⟩ = some (.bool wth)) :
    Calls Tryz.prog 68 #[.agg x.arr, .pointer (some ⟨p, 0, none⟩), .pointer (some ⟨q, 0, none⟩)] w fun e w' => e = .returned (.bool (metH wth h.data.toList (pasV x))) ∧ Below w.heap.size w w' := by
  have hal := (Below.refl w.heap.size w).alloc (Nat.le_refl _) (.cells x.arr tPass)
  have hm1 := (hal.cell (World.block_lt_of_cell? w _ hm)).trans hm
  have hw1 := (hal.cell (World.block_lt_of_cell? w _ hw)).trans hw
  have hr : Hid (metH wth h.data.toList (pasV x) = ((x.head.toList == h.toList) || ((x.head.toList == [42]) && !wth && !(h.toList == [97, 117, 116, 104, 111, 114, 105, 122, 97, 116, 105, 111, 110])))) := Lib.hid (by unfold metH pasV authL bne; rw [Lib.toList_data, Lib.toList_data])
  generalize metH wth h.data.toList (pasV x) = res at hr ⊢
  cases e1 : (x.head.toList == h.toList) <;> cases e2 : (x.head.toList == [42]) <;> cases e3 : (h.toList == [97, 117, 116, 104, 111, 114, 105, 122, 97, 116, 105, 111, 110]) <;> cases wth <;>
  · rw [e1, e2, e3] at hr
    go_enter Tryz.func68, Tryz.ntmps68
    go_wp2
    go_ret
    exact ⟨ret_bool (by rw [hr.out]; rfl), hal⟩
/-- whether passes allow a request, in plain words -/
def covV (r : Req) (ps : List Pass) : Bool := covProg (simpleB (methodOf r.method)) (methodOf r.method).data.toList (askL (hdl r.heads)) r.creds (ps.map pasV)
theorem covV_eq (r : Req) (ps : List Pass) : covV r ps = ((simpleB (methodOf r.method) || ps.any (fun x => metM r.creds (methodOf r.method).data.toList (pasV x))) && (askL (hdl r.heads)).all (fun h => ps.any (fun x => metH r.creds h (pasV x)))) := by
  unfold covV covProg
  rw [List.any_map]
  congr 2
  funext h
  rw [List.any_map]
  rfl
/-- what stands while the call goes on: the request's box, the list's -/
structure CovW (w : World) (r : Req) (a : Option Addr) (n cap : Nat) (wr : World) : Prop where
  low : Below w.heap.size w wr
  box : Blk wr w.heap.size r.arr tReq
  lst : Blk wr (w.heap.size + 1) #[.slice a n cap] tPasses
theorem CovW.later {w : World} {r : Req} {a : Option Addr} {n cap : Nat} {wr wx : World} (h : CovW w r a n cap wr) (hb : Below wr.heap.size wr wx) : CovW w r a n cap wx :=
  ⟨h.low.then (Nat.le_refl _) hb, h.box.later hb, h.lst.later hb⟩
theorem CovW.new (w : World) (r : Req) (a : Option Addr) (n cap : Nat) : CovW w r a n cap ((w.alloc (.cells r.arr tReq)).alloc (.cells #[.slice a n cap] tPasses)) :=
  ⟨((Below.refl _ _).alloc (Nat.le_refl _) _).alloc (by simp) _, (Blk.new w _ _).alloc _, by simpa using Blk.new (w.alloc (.cells r.arr tReq)) #[.slice a n cap] tPasses⟩
theorem askL_len (l : List Hd) : (askL l).length ≤ l.length := by
  have e1 := compact_len (sortL (askRef l))
  rw [sortL_len] at e1
  have e2 := refGo_len (decide (1024 < plainSz l)) l
  have e3 : askRef l = refGo (decide (1024 < plainSz l)) l := rfl
  rw [e3] at e1
  unfold askL
  rw [e3]
  omega
theorem all_take_yes {f : List UInt8 → Bool} {l : List (List UInt8)} {k : Nat} (h : k < l.length) (h0 : (l.take k).all f = true) (e : f l[k] = true) : (l.take (k + 1)).all f = true := by
  rw [List.take_succ_eq_append_getElem h, List.all_append, h0]; simp [e]
theorem all_no {f : List UInt8 → Bool} {l : List (List UInt8)} {k : Nat} (h : k < l.length) (e : f l[k] = false) : l.all f = false := by
  rw [List.all_eq_false]; exact ⟨_, List.getElem_mem h, by simp [e]⟩
set_option maxRecDepth 100000 in
set_option maxHeartbeats 4000000 in
theorem corsCovers (r : Req) (a : Option Addr) (cap : Nat) (ps : List Pass) (w : World) (hM : MaxL w) (hO : r.Ok w) (hP : PassAt w a ps) (hl : r.heads.length ≤ 1000) (hz : ∀ p ∈ r.heads, p.1.size ≤ 1000 ∧ p.2.size ≤ 1000) (hpl : ps.length ≤ 1048576) :
    Calls Tryz.prog 42 #[.agg r.arr, .slice a ps.length cap] w fun e w' => e = .returned (.bool (covV r ps)) ∧ Below w.heap.size w w' := by
  have hme := fun w' => fetchMethod r.method w' (reach_max hO.method)
  have hask := fun w' hM hP => fetchAsked r.addr r.cap r.heads w' hM hP hl hz
  have hcv := Lib.hid (covV_eq r ps)
  have hal : (askL (hdl r.heads)).length ≤ 1000000 := by
    have h2 := askL_len (hdl r.heads)
    rw [hdl_len] at h2
    omega
  have hPH := Lib.hid hP
  have hOH := Lib.hid hO
  have hW0 := Lib.hid (CovW.new w r a ps.length cap)
  clear hO hP
  generalize methodOf r.method = M at hme hcv
  generalize covV r ps = res at hcv ⊢
  generalize askL (hdl r.heads) = al at hask hcv hal
  have hsi := fun w' => fetchSimple M w'
  go_enter Tryz.func42, Tryz.ntmps42
  go_wp2_with fail
  refine (hme _).mono ?_
  rintro e w1 ⟨rfl, hB1⟩
  have hW1 := Lib.hid (hW0.out.later hB1)
  clear hme hB1
  go_upto_region 3 with (fail)
  have hal1 := (Below.refl w1.heap.size w1).alloc (Nat.le_refl _) (.cells #[.string M] 9)
  have hW2 := Lib.hid (hW1.out.later hal1)
  have hMB := Lib.hid (Blk.new w1 #[.string M] 9)
  clear hal1
  obtain ⟨bb, hbb⟩ : ∃ bb, (simpleB M || ps.any (fun x => metM r.creds M.data.toList (pasV x))) = bb := ⟨_, rfl⟩
  go_cut [21] (fun v wx => v = .bool (!bb) ∧ Hid (CovW w r a ps.length cap wx))
  case first =>
    have hm0 := hMB.out.cell 0 rfl
    go_wp2_with fail
    refine (hsi _).mono ?_
    rintro e w3 ⟨rfl, rfl⟩
    cases hs : simpleB M
    · rw [hs, Bool.false_or] at hbb
      subst hbb
      have hpr : PredP 66 #[.pointer (some ⟨w1.heap.size, 0, none⟩), .pointer (some ⟨w.heap.size, 0, none⟩)] (fun x => metM r.creds M.data.toList (pasV x)) ps (w1.alloc (.cells #[.string M] 9)) := fun W x hb hx =>
        covers2 x M r.creds w1.heap.size w.heap.size W ((hMB.out.later hb).cell 0 rfl) ((hW2.out.later hb).box.cell 11 rfl)
      have hha := coversHas 66 _ _ a cap ps (w.heap.size + 1) _ (hW2.out.lst.cell 0 rfl) (hPH.out.later hW2.out.low) hpl (fun _ _ => rfl) hpr
      clear hpr
      go_wp2_with fail
      refine hha.mono ?_
      rintro e w4 ⟨rfl, hB4⟩
      have hW3 := Lib.hid (hW2.out.later hB4)
      clear hha hB4
      go_wp2
      go_meet
      exact ⟨rfl, hW3⟩
    · rw [hs, Bool.true_or] at hbb
      subst hbb
      go_wp2
      go_meet
      exact ⟨rfl, hW2⟩
  case rest =>
    obtain ⟨rfl, hW3⟩ := hcut
    rw [hbb] at hcv
    clear hbb hsi hMB hW2 hW1 hW0
    cases bb
    · go_wp2
      go_ret
      exact ⟨ret_bool (by rw [hcv.out]; rfl), hW3.out.low⟩
    · have hc10 := hW3.out.box.cell 10 rfl
      go_wp2_with fail
      refine (hask _ (hM.later hW3.out.low) (hOH.out.at_.later hW3.out.low)).mono ?_
      rintro e w5 ⟨⟨a', cap', rfl, hS⟩, hB5⟩
      have hW5 := Lib.hid (hW3.out.later hB5)
      have hS5 := Lib.hid hS
      clear hask hS hB5 hW3 hc10
      go_wp2
      go_loopw [26] (fun i wr => ∃ k : Nat, k ≤ al.length ∧ i = .int .i64 k ∧ Hid (CovW w r a ps.length cap wr) ∧ Hid (Below w5.heap.size w5 wr) ∧ Hid ((al.take k).all (fun h => ps.any (fun x => metH r.creds h (pasV x))) = true)) (fun i _ => al.length - (intOf i).toNat)
      case atStart => exact ⟨0, Nat.zero_le _, rfl, hW5, Lib.hid (Below.refl _ _), Lib.hid rfl⟩
      case round =>
        obtain ⟨k, hk, rfl, hWr, hBr, hN⟩ := hrel
        by_cases hlt : k < al.length
        · obtain ⟨b, off, rfl, hc⟩ := (hS5.out.later hBr.out) k (by rw [mkT_len]; exact hlt)
          obtain ⟨h, hh⟩ : ∃ h : ByteArray, h = (mkT al)[k]'(by rw [mkT_len]; exact hlt) := ⟨_, rfl⟩
          rw [← hh] at hc
          have hhl : h.data.toList = al[k] := by rw [hh]; simp [mkT]
          have hyes := Lib.hid (all_take_yes hlt hN.out)
          have hno := Lib.hid (all_no (f := fun h => ps.any (fun x => metH r.creds h (pasV x))) hlt)
          rw [← hhl] at hyes hno
          clear hh hhl hW5
          have hal2 := (Below.refl wr.heap.size wr).alloc (Nat.le_refl _) (.cells #[.string h] 9)
          have hWa := Lib.hid (hWr.out.later hal2)
          have hBa := Lib.hid (hBr.out.then (Nat.le_refl _) hal2)
          have hHB := Lib.hid (Blk.new wr #[.string h] 9)
          have hpr : PredP 68 #[.pointer (some ⟨wr.heap.size, 0, none⟩), .pointer (some ⟨w.heap.size, 0, none⟩)] (fun x => metH r.creds h.data.toList (pasV x)) ps (wr.alloc (.cells #[.string h] 9)) := fun W x hb hx =>
            covers3 x h r.creds wr.heap.size w.heap.size W ((hHB.out.later hb).cell 0 rfl) ((hWa.out.later hb).box.cell 11 rfl)
          have hha := coversHas 68 _ _ a cap ps (w.heap.size + 1) _ (hWa.out.lst.cell 0 rfl) (hPH.out.later hWa.out.low) hpl (fun _ _ => rfl) hpr
          clear hpr hal2 hHB
          cases hany : ps.any (fun x => metH r.creds h.data.toList (pasV x))
          · rw [hany] at hha
            have hno' := Lib.hid (hno.out hany)
            clear hany hyes hno
            go_wp2_with fail
            refine hha.mono ?_
            rintro e w6 ⟨rfl, hB6⟩
            have hW6 := Lib.hid (hWa.out.later hB6)
            clear hha hB6
            go_wp2
            go_ret
            exact ⟨ret_bool (by rw [hcv.out, hno'.out]; rfl), hW6.out.low⟩
          · rw [hany] at hha
            have hyes' := Lib.hid (hyes.out hany)
            clear hany hyes hno
            go_wp2_with fail
            refine hha.mono ?_
            rintro e w6 ⟨rfl, hB6⟩
            have hW6 := Lib.hid (hWa.out.later hB6)
            have hB7 := Lib.hid (hBa.out.then (Nat.le_refl _) hB6)
            clear hha hB6
            go_wp2
            go_roundw
            case rel => exact ⟨k + 1, by omega, by go_num, hW6, hB7, hyes'⟩
            case measure => simp [intOf]; omega
        · obtain rfl : al.length = k := by omega
          have hN' := Lib.hid (show al.all (fun h => ps.any (fun x => metH r.creds h (pasV x))) = true by have := hN.out; rwa [List.take_length] at this)
          go_wp2
          go_ret
          exact ⟨ret_bool (by rw [hcv.out, hN'.out]; rfl), hWr.out.low⟩
end Go.Proofs.YtnfcdccdmlodeaaGreatDoor
