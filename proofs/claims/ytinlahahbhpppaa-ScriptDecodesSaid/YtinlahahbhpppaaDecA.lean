/- The program's reader: pick, text, origin. -/
import Derived.Test.YtinlahahbhpppaaDecP
import Derived.Test.YtinlahahbhpppaaRowS
import Derived.Test.YtinlahahbhpppaaFoun2
namespace Go.Proofs.Ytinlahahbhpppaa
set_option linter.unusedSimpArgs false
open Go.RowKit Go.Deep
abbrev tRd : TypeId := 55
abbrev tOg : TypeId := 27
abbrev zOg : Array Value := #[.bool false, .string ⟨#[]⟩, .int .i64 0]
abbrev ogA (o : Org) : Array Value := #[.bool o.sec, .string o.host, .int .i64 o.port]
theorem infoOgD : (Try.prog.info? tOg).map (·.size) = some 3 := by kernel_rfl
/-- one result, a struct in a block -/
theorem results_cellD {P : Program} {fn : Func} {tmps : Array Value} {w : World} {p : Nat} {cs : Array Value} {T ty : TypeId} {d : TypeDesc} (a : Nat) (hr : fn.results = #[.cell a ty]) (ht : tmps.getD a undef = .pointer (some ⟨p, 0, none⟩)) (hb : Blk w p cs T) (hu : P.underlying ty = some d) (hd : d.isRow = true) (hi : (P.info? ty).map (·.size) = some cs.size) :
    (results fn tmps).run P w = .ok (.agg cs) w := by
  have hl := run_loadVar_mid (P := P) w p 0 ty cs.toList d hb.range hu hd (by simpa using hi)
  have ha : (asAddr (tmps.getD a undef)).run P w = .ok ⟨p, 0, none⟩ w := by rw [ht]; rfl
  rw [Array.getD_eq_getD_getElem?] at ha
  unfold results
  rw [hr]
  simp at hl
  simp [Sem.run_bind, ha, hl, Result.andThen]
theorem tail_of (t : ByteArray) : (t.extract 1 t.size).data.toList = t.data.toList.tail := by
  rw [Lib.extract_data, sz_len, List.take_of_length_le (by simp)]
  simp
/-- the reader at R has l left -/
def RdAt (R : Nat) (l : List UInt8) (w : World) : Prop := ∃ t : ByteArray, t.data.toList = l ∧ Blk w R #[.string t] tRd
theorem RdAt.later {R : Nat} {l : List UInt8} {w w' : World} (h : RdAt R l w) (hb : Below w.heap.size w w') : RdAt R l w' := by
  obtain ⟨t, h1, h2⟩ := h
  exact ⟨t, h1, h2.later hb⟩
theorem RdAt.grown {R p : Nat} {l : List UInt8} {w w' : World} {cs : Array Value} {T : TypeId} (h : RdAt R l w) (hp : Blk w p cs T) (hT : T ≠ tRd) (hg : w.grownBy w' (some p)) : RdAt R l w' := by
  obtain ⟨t, h1, h2⟩ := h
  refine ⟨t, h1, h2.grown hg (fun e => ?_)⟩
  cases e
  unfold Blk at hp h2
  rw [hp] at h2
  have := Option.some.inj h2
  injection this with _ h4 _
  exact hT h4
/-- another block than the reader's -/
theorem RdAt.other {R p : Nat} {l : List UInt8} {w w' : World} {cs : Array Value} {T : TypeId} (h : RdAt R l w) (hp : Blk w p cs T) (hT : T ≠ tRd) (hg : w.grownBy w' (some R)) : Blk w' p cs T := by
  obtain ⟨t, h1, h2⟩ := h
  refine hp.grown hg (fun e => ?_)
  cases e
  unfold Blk at hp h2
  rw [hp] at h2
  have := Option.some.inj h2
  injection this with _ h4 _
  exact hT h4
set_option maxRecDepth 100000 in
theorem pickP (R : Nat) (t : ByteArray) (n : Nat) (hn : 0 < n) (hn2 : n ≤ 256) (w : World) (hb : Blk w R #[.string t] tRd) :
    Calls Try.prog 19 #[.pointer (some ⟨R, 0, none⟩), .int .i64 (n : Int)] w fun e w' => e = .returned (.int .i64 ((pk t.data.toList 0 n : Nat) : Int)) ∧ RdAt R t.data.toList.tail w' ∧ w.grownBy w' (some R) := by
  have c0 : _ = some (Value.string t) := hb.cell 0 rfl
  have f0 := hb.free 0
  cases hl : t.data.toList with
  | nil =>
    have hE : t = ⟨#[]⟩ := ba_ext hl
    subst hE
    go_enter Try.func19, Try.ntmps19
    go_wp2
    go_ret
    exact ⟨by simp [pk], ⟨⟨#[]⟩, rfl, hb⟩, only_refl w _⟩
  | cons c r =>
    have hs : 0 < t.size := by
      have := sz_len t
      rw [hl] at this
      simp at this; omega
    have h0 : t[0] = c := by
      have := at_list t 0 hs (by rw [hl]; simp)
      rw [← this]
      simp [hl]
    have hne : t.toList.isEmpty = false := by rw [Lib.toList_data, hl]; rfl
    have hc := bd8 c
    have htl := Lib.hid (tail_of t)
    rw [hl] at htl
    have hpk : Hid (pk (c :: r) 0 n = c.toNat % n) := Lib.hid (by simp [pk])
    rw [hpk.out]
    have hmod : Int.tmod (c.toNat : Int) (n : Int) = ((c.toNat % n : Nat) : Int) := by simp [Int.tmod]; try rfl
    have hlt : c.toNat % n < n := Nat.mod_lt _ hn
    have hn0 : ((n : Int) == 0) = false := by simp; omega
    clear hl
    go_enter Try.func19, Try.ntmps19
    go_wp2
    go_ret
    exact ⟨by simp, ⟨_, htl.out, hb.set 0 _⟩, only_setCell (only_refl w _) (.inl rfl) _⟩
theorem pk_drop (l : List UInt8) (k n : Nat) : pk (l.drop k) 0 n = pk l k n := by simp [pk]
theorem pickD {R : Nat} {l : List UInt8} {k : Nat} {w : World} (h : RdAt R (l.drop k) w) (n : Nat) (hn : 0 < n ∧ n ≤ 256) :
    Calls Try.prog 19 #[.pointer (some ⟨R, 0, none⟩), .int .i64 (n : Int)] w fun e w' => e = .returned (.int .i64 ((pk l k n : Nat) : Int)) ∧ RdAt R (l.drop (k + 1)) w' ∧ w.grownBy w' (some R) := by
  obtain ⟨t, h1, h2⟩ := h
  refine (pickP R t n hn.1 hn.2 w h2).mono ?_
  rintro e w' ⟨h3, h4, h5⟩
  rw [h1, pk_drop] at h3
  rw [h1, List.tail_drop] at h4
  exact ⟨h3, h4, h5⟩
set_option maxRecDepth 100000 in
theorem textD {R N : Nat} {l : List UInt8} {k : Nat} {w : World} (ss : List ByteArray) (h : RdAt R (l.drop k) w) (hB : Blk w N (ss.map Value.string).toArray 9) (hn : 0 < ss.length ∧ ss.length ≤ 256) :
    Calls Try.prog 21 #[.pointer (some ⟨R, 0, none⟩), .slice (some ⟨N, 0, none⟩) ss.length ss.length] w fun e w' => e = .returned (.string (ss.getD (pk l k ss.length) ⟨#[]⟩)) ∧ RdAt R (l.drop (k + 1)) w' ∧ w.grownBy w' (some R) := by
  have hp := pickD h ss.length hn
  have hlt := pk_lt l k hn.1
  have ho := fun w' hg => h.other (w' := w') hB (by decide) hg
  obtain ⟨m, hm⟩ : ∃ m, m = pk l k ss.length := ⟨_, rfl⟩
  rw [← hm] at hp hlt
  rw [← hm]
  clear hm
  have hc : ∀ w', w.grownBy w' (some R) → w'.cell? ⟨N, m, none⟩ = some (.string (ss.getD m ⟨#[]⟩)) := fun w' hg => (ho w' hg).cell m (by simp [List.getD_eq_getElem?_getD, List.getElem?_eq_getElem hlt])
  obtain ⟨n, hnn⟩ : ∃ n, n = ss.length := ⟨_, rfl⟩
  rw [← hnn] at hp hlt hn
  rw [← hnn]
  have hc := Lib.hid hc
  clear hnn ho hB
  go_enter Try.func21, Try.ntmps21
  go_wp2_with fail
  refine hp.mono ?_
  rintro e w' ⟨rfl, h1, h2⟩
  have hcell := hc.out w' h2
  clear hp
  go_wp2
  go_ret
  exact ⟨by simp [List.getD_eq_getElem?_getD], h1, h2⟩
set_option maxRecDepth 100000 in
theorem originD {R : Nat} {l : List UInt8} {k : Nat} {w : World} (h : RdAt R (l.drop k) w) :
    Calls Try.prog 20 #[.pointer (some ⟨R, 0, none⟩)] w fun e w' => e = .returned (.agg (ogA (orgK (pk l k 4)))) ∧ RdAt R (l.drop (k + 1)) w' ∧ w.grownBy w' (some R) := by
  have h4 := pk_lt l k (n := 4) (by omega)
  have hW : RdAt R (l.drop k) (w.alloc (.cells zOg tOg)) := h.later ((Below.refl _ _).alloc (Nat.le_refl _) _)
  have hg0 : w.grownBy (w.alloc (.cells zOg tOg)) (some R) := only_alloc (only_refl w _) _
  have hb0 := Blk.new w zOg tOg
  have hp := pickD hW 4 ⟨by omega, by omega⟩
  go_enter Try.func20, Try.ntmps20
  go_wp2_with fail
  refine hp.mono ?_
  rintro e w1 ⟨rfl, h1, h2⟩
  have hb1 := hW.other hb0 (by decide) h2
  have hg1 := only_trans hg0 h2
  obtain hk | hk | hk | hk : pk l k 4 = 0 ∨ pk l k 4 = 1 ∨ pk l k 4 = 2 ∨ pk l k 4 = 3 := by omega
  · rw [hk]
    have hkH := Lib.hid hk
    clear hp hk
    have i0 : ∀ w, (Instr.index 68 (.agg #[.string ⟨#[97, 46, 116, 101, 115, 116]⟩, .string ⟨#[98, 46, 116, 101, 115, 116]⟩, .string ⟨#[99, 46, 116, 101, 115, 116]⟩, .string ⟨#[97, 46, 116, 101, 115, 116]⟩]) (.int .i64 0)).run Try.prog w = .ok (.string ⟨#[97, 46, 116, 101, 115, 116]⟩) w := fun _ => by kernel_rfl
    go_wp2_with (refine wpList_store_blk rfl tOg _ _ rfl _ rfl (hb1.alloc _) (ogA (orgK 0)) rfl rfl infoOgD (by simp [Value.oneCell']) ?_; intro w3 hb3 hg3)
    have hl3 := hb1.lt
    refine bodyPost_ret (v := .agg (ogA (orgK 0))) ?_ rfl ⟨by rw [hkH.out], (h1.later ((Below.refl _ _).alloc (Nat.le_refl _) _)).grown (hb1.alloc _) (by decide) hg3, only_grown (only_alloc hg1 _) hg3 (fun j e => .inr (by cases e; exact Nat.le_refl _))⟩
    exact results_cellD 2 Try.results20 rfl hb3 Try.underlying27 rfl infoOgD
  · rw [hk]
    have hkH := Lib.hid hk
    clear hp hk
    have i0 : ∀ w, (Instr.index 68 (.agg #[.string ⟨#[97, 46, 116, 101, 115, 116]⟩, .string ⟨#[98, 46, 116, 101, 115, 116]⟩, .string ⟨#[99, 46, 116, 101, 115, 116]⟩, .string ⟨#[97, 46, 116, 101, 115, 116]⟩]) (.int .i64 1)).run Try.prog w = .ok (.string ⟨#[98, 46, 116, 101, 115, 116]⟩) w := fun _ => by kernel_rfl
    go_wp2_with (refine wpList_store_blk rfl tOg _ _ rfl _ rfl (hb1.alloc _) (ogA (orgK 1)) rfl rfl infoOgD (by simp [Value.oneCell']) ?_; intro w3 hb3 hg3)
    have hl3 := hb1.lt
    refine bodyPost_ret (v := .agg (ogA (orgK 1))) ?_ rfl ⟨by rw [hkH.out], (h1.later ((Below.refl _ _).alloc (Nat.le_refl _) _)).grown (hb1.alloc _) (by decide) hg3, only_grown (only_alloc hg1 _) hg3 (fun j e => .inr (by cases e; exact Nat.le_refl _))⟩
    exact results_cellD 2 Try.results20 rfl hb3 Try.underlying27 rfl infoOgD
  · rw [hk]
    have hkH := Lib.hid hk
    clear hp hk
    have i0 : ∀ w, (Instr.index 68 (.agg #[.string ⟨#[97, 46, 116, 101, 115, 116]⟩, .string ⟨#[98, 46, 116, 101, 115, 116]⟩, .string ⟨#[99, 46, 116, 101, 115, 116]⟩, .string ⟨#[97, 46, 116, 101, 115, 116]⟩]) (.int .i64 2)).run Try.prog w = .ok (.string ⟨#[99, 46, 116, 101, 115, 116]⟩) w := fun _ => by kernel_rfl
    go_wp2_with (refine wpList_store_blk rfl tOg _ _ rfl _ rfl (hb1.alloc _) (ogA (orgK 2)) rfl rfl infoOgD (by simp [Value.oneCell']) ?_; intro w3 hb3 hg3)
    have hl3 := hb1.lt
    refine bodyPost_ret (v := .agg (ogA (orgK 2))) ?_ rfl ⟨by rw [hkH.out], (h1.later ((Below.refl _ _).alloc (Nat.le_refl _) _)).grown (hb1.alloc _) (by decide) hg3, only_grown (only_alloc hg1 _) hg3 (fun j e => .inr (by cases e; exact Nat.le_refl _))⟩
    exact results_cellD 2 Try.results20 rfl hb3 Try.underlying27 rfl infoOgD
  · rw [hk]
    have hkH := Lib.hid hk
    clear hp hk
    have i0 : ∀ w, (Instr.index 68 (.agg #[.string ⟨#[97, 46, 116, 101, 115, 116]⟩, .string ⟨#[98, 46, 116, 101, 115, 116]⟩, .string ⟨#[99, 46, 116, 101, 115, 116]⟩, .string ⟨#[97, 46, 116, 101, 115, 116]⟩]) (.int .i64 3)).run Try.prog w = .ok (.string ⟨#[97, 46, 116, 101, 115, 116]⟩) w := fun _ => by kernel_rfl
    go_wp2_with (refine wpList_store_blk rfl tOg _ _ rfl _ rfl (hb1.alloc _) (ogA (orgK 3)) rfl rfl infoOgD (by simp [Value.oneCell']) ?_; intro w3 hb3 hg3)
    have hl3 := hb1.lt
    refine bodyPost_ret (v := .agg (ogA (orgK 3))) ?_ rfl ⟨by rw [hkH.out], (h1.later ((Below.refl _ _).alloc (Nat.le_refl _) _)).grown (hb1.alloc _) (by decide) hg3, only_grown (only_alloc hg1 _) hg3 (fun j e => .inr (by cases e; exact Nat.le_refl _))⟩
    exact results_cellD 2 Try.results20 rfl hb3 Try.underlying27 rfl infoOgD
end Go.Proofs.Ytinlahahbhpppaa
