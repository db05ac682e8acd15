/- The reference's closures of Decode: next, text, origin. -/
import Derived.Test.YtinlahahbhpppaaDecB
import Derived.Test.YtinlahahbhpppaaFound
import Derived.Test.YtinlahahbhpppaaUrlR
namespace Go.Proofs.Ytinlahahbhpppaa
set_option linter.unusedSimpArgs false
open Go.RowKit Go.Deep
abbrev tBy : TypeId := 42
abbrev tF1 : TypeId := 43
abbrev tF2 : TypeId := 45
theorem slice_tail (W : World) (G off q cap : Nat) (h : q + 1 ≤ cap) :
    (Instr.slice tBy (.slice (some ⟨G, off, none⟩) (q + 1) cap) (some (.int .i64 1)) none none).run Try.prog W = .ok (.slice (some ⟨G, if cap = 1 then off else off + 1, none⟩) q (cap - 1)) W := by
  have ht' : Try.prog.underlying tBy = some (.slice (Try.prog.elem tBy)) := by simp [Program.elem, Try.underlying42]
  have he : Try.prog.elem tBy = 5 := by simp [Program.elem, Try.underlying42]
  have hz : (Go.sizeOf 5).run Try.prog W = .ok 1 W := by kernel_rfl
  rw [Go.run_slice_l (w := W) (t := tBy) (a := some ⟨G, off, none⟩) (len := q + 1) (cap := cap) ht' .i64 1 (by omega) (by omega), he, hz]
  by_cases h1 : cap = 1
  · subst h1
    obtain rfl : q = 0 := by omega
    simp [Result.andThen, sliced]
  · simp [Result.andThen, sliced, Addr.add, h1]
/-- the reference's bytes: those that are left -/
structure RfAt (L G : Nat) (l0 l : List UInt8) (w : World) : Prop where
  bs : BytesAt w G l0
  lf : ∃ off cap, Blk w L #[.slice (some ⟨G, off, none⟩) l.length cap] tBy ∧ l.length ≤ cap ∧ (l = [] ∨ l = l0.drop off)
theorem BytesAt.keptD {w w' : World} {g p : Nat} {l : List UInt8} {cs : Array Value} {T : TypeId} (h : BytesAt w g l) (hp : Blk w p cs T) (hT : T ≠ 5) (hg : w.grownBy w' (some p)) : BytesAt w' g l := by
  obtain ⟨cur, fr, h1, h2, h3⟩ := h
  refine ⟨cur, fr, ?_, h2, h3⟩
  rw [hg.block g (Array.getElem?_eq_some_iff.1 h1).1 (fun e => ?_)]
  · exact h1
  · cases e
    unfold Blk at hp
    rw [hp] at h1
    have := Option.some.inj h1
    injection this with _ h4 _
    exact hT h4
theorem BytesAt.laterD {w w' : World} {g : Nat} {l : List UInt8} (h : BytesAt w g l) (hb : Below w.heap.size w w') : BytesAt w' g l := by
  obtain ⟨cur, fr, h1, h2, h3⟩ := h
  exact ⟨cur, fr, (hb.block g (Array.getElem?_eq_some_iff.1 h1).1).trans h1, h2, h3⟩
theorem RfAt.later {L G : Nat} {l0 l : List UInt8} {w w' : World} (h : RfAt L G l0 l w) (hb : Below w.heap.size w w') : RfAt L G l0 l w' := by
  obtain ⟨h1, off, cap, h2, h3⟩ := h
  exact ⟨h1.laterD hb, off, cap, h2.later hb, h3⟩
/-- a block of another type turns -/
theorem RfAt.grown {L G p : Nat} {l0 l : List UInt8} {w w' : World} {cs : Array Value} {T : TypeId} (h : RfAt L G l0 l w) (hp : Blk w p cs T) (h1 : T ≠ 5) (h2 : T ≠ tBy) (hg : w.grownBy w' (some p)) : RfAt L G l0 l w' := by
  obtain ⟨hb, off, cap, hL, h3⟩ := h
  refine ⟨hb.keptD hp h1 hg, off, cap, hL.grown hg (fun e => ?_), h3⟩
  cases e
  unfold Blk at hp hL
  rw [hp] at hL
  have := Option.some.inj hL
  injection this with _ h4 _
  exact h2 h4
theorem RfAt.other {L G p : Nat} {l0 l : List UInt8} {w w' : World} {cs : Array Value} {T : TypeId} (h : RfAt L G l0 l w) (hp : Blk w p cs T) (hT : T ≠ tBy) (hg : w.grownBy w' (some L)) : Blk w' p cs T := by
  obtain ⟨_, off, cap, h2, _⟩ := h
  refine hp.grown hg (fun e => ?_)
  cases e
  unfold Blk at hp h2
  rw [hp] at h2
  have := Option.some.inj h2
  injection this with _ h4 _
  exact hT h4
theorem RfAt.blk {L G : Nat} {l0 l : List UInt8} {w : World} (h : RfAt L G l0 l w) : ∃ cs, Blk w L cs tBy := by
  obtain ⟨_, off, cap, h2, _⟩ := h
  exact ⟨_, h2⟩
set_option maxRecDepth 100000 in
theorem nextP {L G : Nat} {l0 l : List UInt8} {w : World} (h : RfAt L G l0 l w) (n : Nat) (hn : 0 < n) (hn2 : n ≤ 256) :
    Calls Try.prog 7 #[.int .i64 (n : Int), .pointer (some ⟨L, 0, none⟩)] w fun e w' => e = .returned (.int .i64 ((pk l 0 n : Nat) : Int)) ∧ RfAt L G l0 l.tail w' ∧ w.grownBy w' (some L) := by
  obtain ⟨hb, off, cap, hL, hle, hd⟩ := h
  cases l with
  | nil =>
    have c0 : _ = some (Value.slice (some ⟨G, off, none⟩) 0 cap) := hL.cell 0 rfl
    go_enter Try.func7, Try.ntmps7
    go_wp2
    go_ret
    exact ⟨by simp [pk], ⟨hb, off, cap, hL, hle, .inl rfl⟩, only_refl w _⟩
  | cons c r =>
    have hd' : c :: r = l0.drop off := by simpa using hd
    have ho : off < l0.length := by
      have := congrArg List.length hd'
      simp at this; omega
    have hx : l0[off] = c := by
      rw [List.drop_eq_getElem_cons ho] at hd'
      exact (List.cons.inj hd').1.symm
    have hr : r = l0.drop (off + 1) := by
      rw [List.drop_eq_getElem_cons ho] at hd'
      exact (List.cons.inj hd').2
    have hcg := hb.cell off ho
    rw [hx] at hcg
    have hc := bd8 c
    have hpk : Hid (pk (c :: r) 0 n = c.toNat % n) := Lib.hid (by simp [pk])
    rw [hpk.out]
    have hmod : Int.tmod (c.toNat : Int) (n : Int) = ((c.toNat % n : Nat) : Int) := by simp [Int.tmod]; try rfl
    have hlt : c.toNat % n < n := Nat.mod_lt _ hn
    have hn0 : ((n : Int) == 0) = false := by simp; omega
    rw [List.length_cons] at hL hle
    have hrH := Lib.hid hr
    have hbH := Lib.hid hb
    obtain ⟨q, hq⟩ : ∃ q, q = r.length := ⟨_, rfl⟩
    rw [← hq] at hL hle
    have hqH := Lib.hid hq
    have hsl := slice_tail w G off q cap hle
    have hre : r = [] ∨ r = l0.drop (if cap = 1 then off else off + 1) := by
      by_cases h1 : cap = 1
      · refine .inl (List.length_eq_zero_iff.1 ?_)
        rw [← hqH.out]; omega
      · rw [if_neg h1]; exact .inr hrH.out
    obtain ⟨o2, ho2⟩ : ∃ o2, o2 = (if cap = 1 then off else off + 1) := ⟨_, rfl⟩
    rw [← ho2] at hsl hre
    have hreH := Lib.hid hre
    clear ho2 hre
    have c0 : _ = some (Value.slice (some ⟨G, off, none⟩) (q + 1) cap) := hL.cell 0 rfl
    have f0 := hL.free 0
    have hq0 : ((q + 1 : Nat) : Int) ≠ 0 := by omega
    clear hd hd' ho hx hr hb hq
    go_enter Try.func7, Try.ntmps7
    go_wp2
    go_ret
    refine ⟨by simp, ?_, only_setCell (only_refl w _) (.inl rfl) _⟩
    refine ⟨(hbH.out.keptD hL (by decide) (only_setCell (only_refl w _) (.inl rfl) _)), o2, cap - 1, ?_, by show r.length ≤ cap - 1; rw [← hqH.out]; omega, hreH.out⟩
    have := hL.set 0 (.slice (some ⟨G, o2, none⟩) q (cap - 1))
    show Blk _ L #[.slice (some ⟨G, o2, none⟩) r.length (cap - 1)] tBy
    rw [← hqH.out]
    exact this
theorem nextD {L G : Nat} {l0 m : List UInt8} {k : Nat} {w : World} (h : RfAt L G l0 (m.drop k) w) (n : Nat) (hn : 0 < n ∧ n ≤ 256) :
    Calls Try.prog 7 #[.int .i64 (n : Int), .pointer (some ⟨L, 0, none⟩)] w fun e w' => e = .returned (.int .i64 ((pk m k n : Nat) : Int)) ∧ RfAt L G l0 (m.drop (k + 1)) w' ∧ w.grownBy w' (some L) := by
  refine (nextP h n hn.1 hn.2).mono ?_
  rintro e w' ⟨h3, h4, h5⟩
  rw [pk_drop] at h3
  rw [List.tail_drop] at h4
  exact ⟨h3, h4, h5⟩
/-- the boxes of the closures -/
abbrev nxV (L : Nat) : Value := .func (.func 7) #[] #[.pointer (some ⟨L, 0, none⟩)]
abbrev txV (NX : Nat) : Value := .func (.func 8) #[] #[.pointer (some ⟨NX, 0, none⟩)]
abbrev orV' (TX : Nat) : Value := .func (.func 9) #[] #[.pointer (some ⟨TX, 0, none⟩)]
set_option maxRecDepth 100000 in
theorem textR {L G NX N : Nat} {l0 l : List UInt8} {k : Nat} {w : World} (ss : List ByteArray) (h : RfAt L G l0 (l.drop k) w) (hX : Blk w NX #[nxV L] tF1) (hB : Blk w N (ss.map Value.string).toArray 9) (hn : 0 < ss.length ∧ ss.length ≤ 256) :
    Calls Try.prog 8 #[.slice (some ⟨N, 0, none⟩) ss.length ss.length, .pointer (some ⟨NX, 0, none⟩)] w fun e w' => e = .returned (.string (ss.getD (pk l k ss.length) ⟨#[]⟩)) ∧ RfAt L G l0 (l.drop (k + 1)) w' ∧ w.grownBy w' (some L) := by
  have hp := nextD h ss.length hn
  have hlt := pk_lt l k hn.1
  have ho := fun w' hg => h.other (w' := w') hB (by decide) hg
  have cX : _ = some (nxV L) := hX.cell 0 rfl
  obtain ⟨m, hm⟩ : ∃ m, m = pk l k ss.length := ⟨_, rfl⟩
  rw [← hm] at hp hlt
  rw [← hm]
  clear hm
  have hc : ∀ w', w.grownBy w' (some L) → w'.cell? ⟨N, m, none⟩ = some (.string (ss.getD m ⟨#[]⟩)) := fun w' hg => (ho w' hg).cell m (by simp [List.getD_eq_getElem?_getD, List.getElem?_eq_getElem hlt])
  obtain ⟨n, hnn⟩ : ∃ n, n = ss.length := ⟨_, rfl⟩
  rw [← hnn] at hp hlt hn
  rw [← hnn]
  have hc := Lib.hid hc
  clear hnn ho hB
  go_enter Try.func8, Try.ntmps8
  go_wp2_with fail
  refine hp.mono ?_
  rintro e w' ⟨rfl, h1, h2⟩
  have hcell := hc.out w' h2
  clear hp
  go_wp2
  go_ret
  exact ⟨by simp [List.getD_eq_getElem?_getD], h1, h2⟩
def urlsL : List ByteArray := [(⟨#[104, 116, 116, 112, 115, 58, 47, 47, 97, 46, 116, 101, 115, 116]⟩ : ByteArray), (⟨#[104, 116, 116, 112, 115, 58, 47, 47, 98, 46, 116, 101, 115, 116]⟩ : ByteArray), (⟨#[104, 116, 116, 112, 115, 58, 47, 47, 99, 46, 116, 101, 115, 116]⟩ : ByteArray), (⟨#[104, 116, 116, 112, 58, 47, 47, 97, 46, 116, 101, 115, 116]⟩ : ByteArray)]
theorem urls_are {k : Nat} (h : k < 4) : orV (originP (urlsL.getD k ⟨#[]⟩).data.toList) (.int .i64 0) (.int .i64 3) = .tuple #[.agg (ogA (orgK k)), .int .i64 0] ∧ (urlsL.getD k ⟨#[]⟩).size ≤ 1000000 := by
  obtain rfl | rfl | rfl | rfl : k = 0 ∨ k = 1 ∨ k = 2 ∨ k = 3 := by omega
  all_goals exact ⟨by kernel_rfl, by decide⟩
set_option maxRecDepth 100000 in
theorem originR {L G NX TX : Nat} {l0 l : List UInt8} {k : Nat} {w : World} (hM : MaxL w) (h : RfAt L G l0 (l.drop k) w) (hX : Blk w NX #[nxV L] tF1) (hT : Blk w TX #[txV NX] tF2) :
    Calls Try.prog 9 #[.pointer (some ⟨TX, 0, none⟩)] w fun e w' => e = .returned (.agg (ogA (orgK (pk l k 4)))) ∧ RfAt L G l0 (l.drop (k + 1)) w' ∧ w.grownBy w' (some L) := by
  have h4 := pk_lt l k (n := 4) (by omega)
  obtain ⟨hu, hus⟩ := urls_are h4
  have hBz : Below w.heap.size w ((w.alloc (.cells zOg tOg)).alloc (.cells (urlsL.map Value.string).toArray 9)) := ((Below.refl _ _).alloc (Nat.le_refl _) _).alloc (by simp) _
  have hW := h.later hBz
  have hX2 := hX.later hBz
  have hT1 := hT.later ((Below.refl _ _).alloc (Nat.le_refl _) (.cells zOg tOg))
  have cT : _ = some (txV NX) := hT1.cell 0 rfl
  have hb0 : Blk ((w.alloc (.cells zOg tOg)).alloc (.cells (urlsL.map Value.string).toArray 9)) w.heap.size zOg tOg := (Blk.new w zOg tOg).alloc _
  have hbN : Blk ((w.alloc (.cells zOg tOg)).alloc (.cells (urlsL.map Value.string).toArray 9)) (w.heap.size + 1) (urlsL.map Value.string).toArray 9 := by simpa using Blk.new (w.alloc (.cells zOg tOg)) (urlsL.map Value.string).toArray 9
  have hp := textR urlsL hW hX2 hbN ⟨by decide, by decide⟩
  have hg0 : w.grownBy ((w.alloc (.cells zOg tOg)).alloc (.cells (urlsL.map Value.string).toArray 9)) (some L) := only_of_below hBz _
  have hMx := hM.later hBz
  have hMH : Hid (∀ w', ((w.alloc (.cells zOg tOg)).alloc (.cells (urlsL.map Value.string).toArray 9)).grownBy w' (some L) → MaxL w') := Lib.hid (fun w' hg => by
    obtain ⟨m, hm⟩ := hMx
    obtain ⟨_, off, cap, hL, _⟩ := hW
    refine ⟨m, hg.cell hm (fun e => ?_)⟩
    have hc := hL.cell 0 rfl
    have e2 := Option.some.inj e
    simp at e2
    rw [← e2] at hc
    rw [hc] at hm
    cases hm)
  obtain ⟨U, hU⟩ : ∃ U, U = urlsL.getD (pk l k urlsL.length) ⟨#[]⟩ := ⟨_, rfl⟩
  rw [← hU] at hp
  have hU2 : U = urlsL.getD (pk l k 4) ⟨#[]⟩ := hU
  rw [← hU2] at hu hus
  obtain ⟨og, hog⟩ : ∃ og, og = orgK (pk l k 4) := ⟨_, rfl⟩
  rw [← hog] at hu
  rw [← hog]
  have huH := Lib.hid hu
  generalize hwz : (w.alloc (.cells zOg tOg)).alloc (.cells (urlsL.map Value.string).toArray 9) = wz at hBz hW hX2 hb0 hbN hp hg0 hMx hMH
  have hwH := Lib.hid hwz
  clear hwz hu hM hMx hU hU2 hog h4 hX hT hT1 hX2 hbN h
  go_enter Try.func9, Try.ntmps9
  go_wp2_with fail
  change Calls _ _ _ ((w.alloc (.cells zOg tOg)).alloc (.cells (urlsL.map Value.string).toArray 9)) _
  rw [hwH.out]
  refine hp.mono ?_
  rintro e w1 ⟨rfl, h1, h2⟩
  have hb1 := hW.other hb0 (by decide) h2
  have hg1 := only_trans hg0 h2
  have hO := refOrigin U w1 (hMH.out w1 h2) hus
  rw [huH.out] at hO
  clear hp hMH huH hwH cT hb0 hW hg0 h2
  go_wp2_with fail
  refine hO.mono ?_
  rintro e w2 ⟨rfl, hB2⟩
  have hb2 := hb1.later hB2
  have h2 := h1.later hB2
  have hg2 := only_then hg1 hB2
  clear hO hb1 h1 hg1
  go_wp2_with (refine wpList_store_blk rfl tOg _ _ rfl _ rfl (hb2.alloc _) (ogA og) rfl rfl infoOgD (by simp [Value.oneCell']) ?_; intro w3 hb3 hg3)
  have hl3 := hb2.lt
  refine bodyPost_ret (v := .agg (ogA og)) ?_ rfl ⟨rfl, (h2.later ((Below.refl _ _).alloc (Nat.le_refl _) _)).grown (hb2.alloc _) (by decide) (by decide) hg3, only_grown (only_alloc hg2 _) hg3 (fun j e => .inr (by cases e; exact Nat.le_refl _))⟩
  exact results_cellD 1 Try.results9 rfl hb3 Try.underlying27 rfl infoOgD
end Go.Proofs.Ytinlahahbhpppaa
