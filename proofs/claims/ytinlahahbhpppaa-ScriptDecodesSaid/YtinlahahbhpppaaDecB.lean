/- The program's reader: an operation. -/
import Derived.Test.YtinlahahbhpppaaDecA
import Derived.Deep.DeepCutAuto
namespace Go.Proofs.Ytinlahahbhpppaa
set_option linter.unusedSimpArgs false
open Go.RowKit Go.Deep
/-- cells with others from o on -/
def arrSet : Array Value → Nat → List Value → Array Value
  | cs, _, [] => cs
  | cs, o, v :: r => arrSet (cs.setIfInBounds o v) (o + 1) r
theorem blkW_cells {T : TypeId} {b : Nat} : ∀ (vs : List Value) (o : Nat) (w : World) (cs : Array Value), Blk w b cs T → Blk (w.setCells b o vs) b (arrSet cs o vs) T
  | [], _, _, _, h => h
  | v :: r, o, w, cs, h => by
    rw [World.setCells]
    exact blkW_cells r (o + 1) _ _ (h.set o v)
theorem wpList_store_sub {P : Program} {w : World} {cs : Array Value} {T : TypeId} {ops : Array Oper} {rest : List Oper} {op : Oper} {a : Act} {Q : Exit → Act → World → Prop} (hgd : op.guard = none) (ty : TypeId) (x y : Operand) (ho : op.op = .store ty x y)
    (b o : Nat) (hx : a.eval x = .pointer (some ⟨b, o, none⟩)) (hb : Blk w b cs T) (vs : Array Value) (hi : o + vs.size ≤ cs.size) (hy : a.eval y = .agg vs) (h1 : vs.all (·.oneCell') = true) (hinfo : (P.info? ty).map (·.size) = some vs.size) (cs' : Array Value) (he : arrSet cs o vs.toList = cs')
    (h : ∀ w', Blk w' b cs' T → w.grownBy w' (some b) → wpList P ops Q rest (a.put op.dst undef) w') : wpList P ops Q (op :: rest) a w := by
  subst he
  exact wpList_store_mid hgd ty x y ho b o vs hx hy (fun j hj => ⟨by rw [hb.cell (o + j) (Array.getElem?_eq_getElem (by omega))]; rfl, hb.free _⟩) hinfo h1 (h _ (blkW_cells vs.toList o w cs hb) (only_setCells b vs.toList o w))
abbrev tOpD : TypeId := 36
abbrev zOpA : Array Value := #[.int .i64 0, .int .i64 0, .bool false, .string ⟨#[]⟩, .int .i64 0, .bool false, .string ⟨#[]⟩, .int .i64 0, .string ⟨#[]⟩, .string ⟨#[]⟩, .string ⟨#[]⟩, .slice none 0 0, .bool false, .string ⟨#[]⟩, .bool false, .string ⟨#[]⟩, .string ⟨#[]⟩, .string ⟨#[]⟩, .string ⟨#[]⟩, .int .i64 0, .bool false, .int .i64 0]
theorem infoOpD : (Try.prog.info? tOpD).map (·.size) = some 22 := by kernel_rfl
theorem infoIntD : (Try.prog.info? 3).map (·.size) = some 1 := by kernel_rfl
theorem infoBoolD : (Try.prog.info? 4).map (·.size) = some 1 := by kernel_rfl
theorem infoStrD : (Try.prog.info? 9).map (·.size) = some 1 := by kernel_rfl
theorem infoPsD : (Try.prog.info? 30).map (·.size) = some 1 := by kernel_rfl
theorem infoCrD : (Try.prog.info? 34).map (·.size) = some 2 := by kernel_rfl
theorem eq1D (a : Nat) : ((a : Int) == 1) = decide (a = 1) := by rw [Bool.eq_iff_iff]; simp; omega
theorem eq3D (a : Nat) : ((a : Int) == 3) = decide (a = 3) := by rw [Bool.eq_iff_iff]; simp; omega
theorem opD_one (o : OpV) : o.arr.all (·.oneCell') = true := by simp [OpV.arr, Value.oneCell']
structure OpW (w0 : World) (R : Nat) (l : List UInt8) (k : Nat) (o : OpV) (cs : Array Value) (w : World) : Prop where
  rd : RdAt R (l.drop k) w
  b0 : Blk w w0.heap.size zOpA tOpD
  b1 : Blk w (w0.heap.size + 1) cs tOpD
  gr : w0.grownBy w (some R)
  hd : HeadsAt w o
section
variable {w0 w w' : World} {R k : Nat} {l : List UInt8} {o : OpV} {cs cs' : Array Value}
theorem OpW.pick (h : OpW w0 R l k o cs w) (h1 : RdAt R (l.drop (k + 1)) w') (h2 : w.grownBy w' (some R)) : OpW w0 R l (k + 1) o cs w' := by
  obtain ⟨t, ht, hR⟩ := h.rd
  exact ⟨h1, h.rd.other h.b0 (by decide) h2, h.rd.other h.b1 (by decide) h2, only_trans h.gr h2, h.hd.grown hR (by decide) h2⟩
theorem OpW.set (h : OpW w0 R l k o cs w) (h1 : Blk w' (w0.heap.size + 1) cs' tOpD) (h2 : w.grownBy w' (some (w0.heap.size + 1))) : OpW w0 R l k o cs' w' :=
  ⟨h.rd.grown h.b1 (by decide) h2, h.b0.grown h2 (fun e => by have := Option.some.inj e; omega), h1, only_grown h.gr h2 (fun j e => .inr (by cases e; omega)), h.hd.grown h.b1 (by decide) h2⟩
theorem OpW.alloc (h : OpW w0 R l k o cs w) (ob : Obj) : OpW w0 R l k o cs (w.alloc ob) := by
  have hb : Below w.heap.size w (w.alloc ob) := (Below.refl _ _).alloc (Nat.le_refl _) _
  exact ⟨h.rd.later hb, h.b0.alloc _, h.b1.alloc _, only_alloc h.gr _, h.hd.later hb⟩
end
theorem RdAt.lt {R : Nat} {l : List UInt8} {w : World} (h : RdAt R l w) : R < w.heap.size := by
  obtain ⟨t, _, h2⟩ := h
  exact h2.lt
set_option maxRecDepth 100000 in
set_option maxHeartbeats 4000000 in
theorem opD {R : Nat} {l : List UInt8} {w : World} (h : RdAt R l w) :
    Calls Try.prog 11 #[.pointer (some ⟨R, 0, none⟩)] w fun e w' => ∃ (a : Option Addr) (c : Nat), e = .returned (.agg (opS l a c).arr) ∧ RdAt R (l.drop 16) w' ∧ HeadsAt w' (opS l a c) ∧ w.grownBy w' (some R) := by
  have n0 := pk_lt l 0 (n := 10) (by omega)
  have n1 := pk_lt l 1 (n := 2) (by omega)
  have n2 := pk_lt l 2 (n := 4) (by omega)
  have n3 := pk_lt l 3 (n := 4) (by omega)
  have n4 := pk_lt l 4 (n := 4) (by omega)
  have n5 := pk_lt l 5 (n := 4) (by omega)
  have n6 := pk_lt l 6 (n := 4) (by omega)
  have n7 := pk_lt l 7 (n := 2) (by omega)
  have n8 := pk_lt l 8 (n := 4) (by omega)
  have n9 := pk_lt l 9 (n := 8) (by omega)
  have n10 := pk_lt l 10 (n := 2) (by omega)
  have n11 := pk_lt l 11 (n := 2) (by omega)
  have n12 := pk_lt l 12 (n := 2) (by omega)
  have n13 := pk_lt l 13 (n := 4) (by omega)
  have n14 := pk_lt l 14 (n := 4) (by omega)
  have n15 := pk_lt l 15 (n := 10) (by omega)
  have hB : Below w.heap.size w ((w.alloc (.cells zOpA tOpD)).alloc (.cells zOpA tOpD)) := ((Below.refl _ _).alloc (Nat.le_refl _) _).alloc (by simp) _
  have hX0 : OpW w R l 0 zOpV zOpA ((w.alloc (.cells zOpA tOpD)).alloc (.cells zOpA tOpD)) :=
    ⟨h.later hB, (Blk.new w zOpA tOpD).alloc _, by simpa using Blk.new (w.alloc (.cells zOpA tOpD)) zOpA tOpD, only_of_below hB _, .inl rfl⟩
  clear hB
  go_enter Try.func11, Try.ntmps11
  go_wp2_with fail
  refine (pickD hX0.rd 10 ⟨by omega, by omega⟩).mono ?_
  rintro e w1 ⟨rfl, h1, h2⟩
  have hX1 := hX0.pick h1 h2
  clear h1 h2
  have hs2 : 0 < (#[.int .i64 (1 + ((pk l 0 10 : Nat) : Int)), .int .i64 0, .bool false, .string ⟨#[]⟩, .int .i64 0, .bool false, .string ⟨#[]⟩, .int .i64 0, .string ⟨#[]⟩, .string ⟨#[]⟩, .string ⟨#[]⟩, .slice none 0 0, .bool false, .string ⟨#[]⟩, .bool false, .string ⟨#[]⟩, .string ⟨#[]⟩, .string ⟨#[]⟩, .string ⟨#[]⟩, .int .i64 0, .bool false, .int .i64 0] : Array Value).size := by simp
  go_wp2_with (refine wpList_store_cell rfl _ _ _ (by rfl) (w.heap.size + 1) 0 (by rfl) hX1.b1 hs2 (.int .i64 (1 + ((pk l 0 10 : Nat) : Int))) (by first | rfl | exact congrArg Value.bool (eq1D _) | exact congrArg Value.bool (eq3D _)) (by rfl) (by rfl) infoIntD ?_; intro w2 hb2 hg2; have hX2 := hX1.set (cs' := #[.int .i64 (1 + ((pk l 0 10 : Nat) : Int)), .int .i64 0, .bool false, .string ⟨#[]⟩, .int .i64 0, .bool false, .string ⟨#[]⟩, .int .i64 0, .string ⟨#[]⟩, .string ⟨#[]⟩, .string ⟨#[]⟩, .slice none 0 0, .bool false, .string ⟨#[]⟩, .bool false, .string ⟨#[]⟩, .string ⟨#[]⟩, .string ⟨#[]⟩, .string ⟨#[]⟩, .int .i64 0, .bool false, .int .i64 0]) hb2 hg2; clear hX1 hb2 hg2)
  refine (pickD hX2.rd 2 ⟨by omega, by omega⟩).mono ?_
  rintro e w3 ⟨rfl, h1, h2⟩
  have hX3 := hX2.pick h1 h2
  clear h1 h2
  have hs4 : 1 < (#[.int .i64 (1 + ((pk l 0 10 : Nat) : Int)), .int .i64 ((pk l 1 2 : Nat) : Int), .bool false, .string ⟨#[]⟩, .int .i64 0, .bool false, .string ⟨#[]⟩, .int .i64 0, .string ⟨#[]⟩, .string ⟨#[]⟩, .string ⟨#[]⟩, .slice none 0 0, .bool false, .string ⟨#[]⟩, .bool false, .string ⟨#[]⟩, .string ⟨#[]⟩, .string ⟨#[]⟩, .string ⟨#[]⟩, .int .i64 0, .bool false, .int .i64 0] : Array Value).size := by simp
  go_wp2_with (refine wpList_store_cell rfl _ _ _ (by rfl) (w.heap.size + 1) 1 (by rfl) hX3.b1 hs4 (.int .i64 ((pk l 1 2 : Nat) : Int)) (by first | rfl | exact congrArg Value.bool (eq1D _) | exact congrArg Value.bool (eq3D _)) (by rfl) (by rfl) infoIntD ?_; intro w4 hb4 hg4; have hX4 := hX3.set (cs' := #[.int .i64 (1 + ((pk l 0 10 : Nat) : Int)), .int .i64 ((pk l 1 2 : Nat) : Int), .bool false, .string ⟨#[]⟩, .int .i64 0, .bool false, .string ⟨#[]⟩, .int .i64 0, .string ⟨#[]⟩, .string ⟨#[]⟩, .string ⟨#[]⟩, .slice none 0 0, .bool false, .string ⟨#[]⟩, .bool false, .string ⟨#[]⟩, .string ⟨#[]⟩, .string ⟨#[]⟩, .string ⟨#[]⟩, .int .i64 0, .bool false, .int .i64 0]) hb4 hg4; clear hX3 hb4 hg4)
  refine (originD hX4.rd).mono ?_
  rintro e w5 ⟨rfl, h1, h2⟩
  have hX5 := hX4.pick h1 h2
  clear h1 h2
  have hs6 : 5 ≤ (#[.int .i64 (1 + ((pk l 0 10 : Nat) : Int)), .int .i64 ((pk l 1 2 : Nat) : Int), .bool (orgK (pk l 2 4)).sec, .string (orgK (pk l 2 4)).host, .int .i64 (orgK (pk l 2 4)).port, .bool false, .string ⟨#[]⟩, .int .i64 0, .string ⟨#[]⟩, .string ⟨#[]⟩, .string ⟨#[]⟩, .slice none 0 0, .bool false, .string ⟨#[]⟩, .bool false, .string ⟨#[]⟩, .string ⟨#[]⟩, .string ⟨#[]⟩, .string ⟨#[]⟩, .int .i64 0, .bool false, .int .i64 0] : Array Value).size := by simp
  go_wp2_with (refine wpList_store_sub rfl _ _ _ (by rfl) (w.heap.size + 1) 2 (by rfl) hX5.b1 #[.bool (orgK (pk l 2 4)).sec, .string (orgK (pk l 2 4)).host, .int .i64 (orgK (pk l 2 4)).port] hs6 (by rfl) (by simp [Value.oneCell']) infoOgD #[.int .i64 (1 + ((pk l 0 10 : Nat) : Int)), .int .i64 ((pk l 1 2 : Nat) : Int), .bool (orgK (pk l 2 4)).sec, .string (orgK (pk l 2 4)).host, .int .i64 (orgK (pk l 2 4)).port, .bool false, .string ⟨#[]⟩, .int .i64 0, .string ⟨#[]⟩, .string ⟨#[]⟩, .string ⟨#[]⟩, .slice none 0 0, .bool false, .string ⟨#[]⟩, .bool false, .string ⟨#[]⟩, .string ⟨#[]⟩, .string ⟨#[]⟩, .string ⟨#[]⟩, .int .i64 0, .bool false, .int .i64 0] (by rfl) ?_; intro w6 hb6 hg6; have hX6 := hX5.set hb6 hg6; clear hX5 hb6 hg6)
  refine (originD hX6.rd).mono ?_
  rintro e w7 ⟨rfl, h1, h2⟩
  have hX7 := hX6.pick h1 h2
  clear h1 h2
  have hs8 : 8 ≤ (#[.int .i64 (1 + ((pk l 0 10 : Nat) : Int)), .int .i64 ((pk l 1 2 : Nat) : Int), .bool (orgK (pk l 2 4)).sec, .string (orgK (pk l 2 4)).host, .int .i64 (orgK (pk l 2 4)).port, .bool (orgK (pk l 3 4)).sec, .string (orgK (pk l 3 4)).host, .int .i64 (orgK (pk l 3 4)).port, .string ⟨#[]⟩, .string ⟨#[]⟩, .string ⟨#[]⟩, .slice none 0 0, .bool false, .string ⟨#[]⟩, .bool false, .string ⟨#[]⟩, .string ⟨#[]⟩, .string ⟨#[]⟩, .string ⟨#[]⟩, .int .i64 0, .bool false, .int .i64 0] : Array Value).size := by simp
  go_wp2_with (refine wpList_store_sub rfl _ _ _ (by rfl) (w.heap.size + 1) 5 (by rfl) hX7.b1 #[.bool (orgK (pk l 3 4)).sec, .string (orgK (pk l 3 4)).host, .int .i64 (orgK (pk l 3 4)).port] hs8 (by rfl) (by simp [Value.oneCell']) infoOgD #[.int .i64 (1 + ((pk l 0 10 : Nat) : Int)), .int .i64 ((pk l 1 2 : Nat) : Int), .bool (orgK (pk l 2 4)).sec, .string (orgK (pk l 2 4)).host, .int .i64 (orgK (pk l 2 4)).port, .bool (orgK (pk l 3 4)).sec, .string (orgK (pk l 3 4)).host, .int .i64 (orgK (pk l 3 4)).port, .string ⟨#[]⟩, .string ⟨#[]⟩, .string ⟨#[]⟩, .slice none 0 0, .bool false, .string ⟨#[]⟩, .bool false, .string ⟨#[]⟩, .string ⟨#[]⟩, .string ⟨#[]⟩, .string ⟨#[]⟩, .int .i64 0, .bool false, .int .i64 0] (by rfl) ?_; intro w8 hb8 hg8; have hX8 := hX7.set hb8 hg8; clear hX7 hb8 hg8)
  refine (textD pathsL (hX8.alloc _).rd (Blk.new _ _ _) ⟨by decide, by decide⟩).mono ?_
  rintro e w9 ⟨rfl, h1, h2⟩
  have hX9 := (hX8.alloc _).pick h1 h2
  clear h1 h2
  have hs10 : 8 < (#[.int .i64 (1 + ((pk l 0 10 : Nat) : Int)), .int .i64 ((pk l 1 2 : Nat) : Int), .bool (orgK (pk l 2 4)).sec, .string (orgK (pk l 2 4)).host, .int .i64 (orgK (pk l 2 4)).port, .bool (orgK (pk l 3 4)).sec, .string (orgK (pk l 3 4)).host, .int .i64 (orgK (pk l 3 4)).port, .string (pathsL.getD (pk l 4 4) ⟨#[]⟩), .string ⟨#[]⟩, .string ⟨#[]⟩, .slice none 0 0, .bool false, .string ⟨#[]⟩, .bool false, .string ⟨#[]⟩, .string ⟨#[]⟩, .string ⟨#[]⟩, .string ⟨#[]⟩, .int .i64 0, .bool false, .int .i64 0] : Array Value).size := by simp
  go_wp2_with (refine wpList_store_cell rfl _ _ _ (by rfl) (w.heap.size + 1) 8 (by rfl) hX9.b1 hs10 (.string (pathsL.getD (pk l 4 4) ⟨#[]⟩)) (by first | rfl | exact congrArg Value.bool (eq1D _) | exact congrArg Value.bool (eq3D _)) (by rfl) (by rfl) infoStrD ?_; intro w10 hb10 hg10; have hX10 := hX9.set (cs' := #[.int .i64 (1 + ((pk l 0 10 : Nat) : Int)), .int .i64 ((pk l 1 2 : Nat) : Int), .bool (orgK (pk l 2 4)).sec, .string (orgK (pk l 2 4)).host, .int .i64 (orgK (pk l 2 4)).port, .bool (orgK (pk l 3 4)).sec, .string (orgK (pk l 3 4)).host, .int .i64 (orgK (pk l 3 4)).port, .string (pathsL.getD (pk l 4 4) ⟨#[]⟩), .string ⟨#[]⟩, .string ⟨#[]⟩, .slice none 0 0, .bool false, .string ⟨#[]⟩, .bool false, .string ⟨#[]⟩, .string ⟨#[]⟩, .string ⟨#[]⟩, .string ⟨#[]⟩, .int .i64 0, .bool false, .int .i64 0]) hb10 hg10; clear hX9 hb10 hg10)
  refine (textD methsL (hX10.alloc _).rd (Blk.new _ _ _) ⟨by decide, by decide⟩).mono ?_
  rintro e w11 ⟨rfl, h1, h2⟩
  have hX11 := (hX10.alloc _).pick h1 h2
  clear h1 h2
  have hs12 : 10 < (#[.int .i64 (1 + ((pk l 0 10 : Nat) : Int)), .int .i64 ((pk l 1 2 : Nat) : Int), .bool (orgK (pk l 2 4)).sec, .string (orgK (pk l 2 4)).host, .int .i64 (orgK (pk l 2 4)).port, .bool (orgK (pk l 3 4)).sec, .string (orgK (pk l 3 4)).host, .int .i64 (orgK (pk l 3 4)).port, .string (pathsL.getD (pk l 4 4) ⟨#[]⟩), .string ⟨#[]⟩, .string (methsL.getD (pk l 5 4) ⟨#[]⟩), .slice none 0 0, .bool false, .string ⟨#[]⟩, .bool false, .string ⟨#[]⟩, .string ⟨#[]⟩, .string ⟨#[]⟩, .string ⟨#[]⟩, .int .i64 0, .bool false, .int .i64 0] : Array Value).size := by simp
  go_wp2_with (refine wpList_store_cell rfl _ _ _ (by rfl) (w.heap.size + 1) 10 (by rfl) hX11.b1 hs12 (.string (methsL.getD (pk l 5 4) ⟨#[]⟩)) (by first | rfl | exact congrArg Value.bool (eq1D _) | exact congrArg Value.bool (eq3D _)) (by rfl) (by rfl) infoStrD ?_; intro w12 hb12 hg12; have hX12 := hX11.set (cs' := #[.int .i64 (1 + ((pk l 0 10 : Nat) : Int)), .int .i64 ((pk l 1 2 : Nat) : Int), .bool (orgK (pk l 2 4)).sec, .string (orgK (pk l 2 4)).host, .int .i64 (orgK (pk l 2 4)).port, .bool (orgK (pk l 3 4)).sec, .string (orgK (pk l 3 4)).host, .int .i64 (orgK (pk l 3 4)).port, .string (pathsL.getD (pk l 4 4) ⟨#[]⟩), .string ⟨#[]⟩, .string (methsL.getD (pk l 5 4) ⟨#[]⟩), .slice none 0 0, .bool false, .string ⟨#[]⟩, .bool false, .string ⟨#[]⟩, .string ⟨#[]⟩, .string ⟨#[]⟩, .string ⟨#[]⟩, .int .i64 0, .bool false, .int .i64 0]) hb12 hg12; clear hX11 hb12 hg12)
  refine (pickD hX12.rd 4 ⟨by omega, by omega⟩).mono ?_
  rintro e w13 ⟨rfl, h1, h2⟩
  have hX13 := hX12.pick h1 h2
  clear h1 h2
  go_upto_if 43 with fail
  go_cut [] (fun wx => ∃ (a : Option Addr) (c : Nat), Hid (OpW w R l 7 (opS l a c) #[.int .i64 (1 + ((pk l 0 10 : Nat) : Int)), .int .i64 ((pk l 1 2 : Nat) : Int), .bool (orgK (pk l 2 4)).sec, .string (orgK (pk l 2 4)).host, .int .i64 (orgK (pk l 2 4)).port, .bool (orgK (pk l 3 4)).sec, .string (orgK (pk l 3 4)).host, .int .i64 (orgK (pk l 3 4)).port, .string (pathsL.getD (pk l 4 4) ⟨#[]⟩), .string ⟨#[]⟩, .string (methsL.getD (pk l 5 4) ⟨#[]⟩), .slice a (headK (pk l 6 4)).length c, .bool false, .string ⟨#[]⟩, .bool false, .string ⟨#[]⟩, .string ⟨#[]⟩, .string ⟨#[]⟩, .string ⟨#[]⟩, .int .i64 0, .bool false, .int .i64 0] wx))
  case first =>
    by_cases hq : pk l 6 4 = 0
    · have hX90 : OpW w R l 7 (opS l none 0) _ _ := ⟨hX13.rd, hX13.b0, hX13.b1, hX13.gr, .inl (by simp [opS, headK, hq])⟩
      have hz := Lib.hid (show (headK (pk l 6 4)).length = 0 by simp [headK, hq])
      have hq2 : decide ((0 : Int) < ((pk l 6 4 : Nat) : Int)) = false := by simp; omega
      go_wp2_with fail
      go_meet
      exact ⟨none, 0, Lib.hid (by rw [hz.out]; exact hX90)⟩
    · have hq2 : decide ((0 : Int) < ((pk l 6 4 : Nat) : Int)) = true := by simp; omega
      have i0 : ∀ w, (Instr.index 64 (.agg #[.string ⟨#[88, 45, 65]⟩, .string ⟨#[67, 111, 110, 116, 101, 110, 116, 45, 84, 121, 112, 101]⟩, .string ⟨#[65, 117, 116, 104, 111, 114, 105, 122, 97, 116, 105, 111, 110]⟩]) (.int .i64 (((pk l 6 4 : Nat) : Int) - 1))).run Try.prog w = .ok (.string (names0.getD (pk l 6 4) ⟨#[]⟩)) w := by
        intro w
        obtain hk | hk | hk : pk l 6 4 = 1 ∨ pk l 6 4 = 2 ∨ pk l 6 4 = 3 := by omega
        all_goals (rw [hk]; kernel_rfl)
      have hz := Lib.hid (show (headK (pk l 6 4)) = [(names0.getD (pk l 6 4) ⟨#[]⟩, htmlS)] by simp [headK, hq])
      have hs90 : 11 < (#[.int .i64 (1 + ((pk l 0 10 : Nat) : Int)), .int .i64 ((pk l 1 2 : Nat) : Int), .bool (orgK (pk l 2 4)).sec, .string (orgK (pk l 2 4)).host, .int .i64 (orgK (pk l 2 4)).port, .bool (orgK (pk l 3 4)).sec, .string (orgK (pk l 3 4)).host, .int .i64 (orgK (pk l 3 4)).port, .string (pathsL.getD (pk l 4 4) ⟨#[]⟩), .string ⟨#[]⟩, .string (methsL.getD (pk l 5 4) ⟨#[]⟩), .slice none 0 0, .bool false, .string ⟨#[]⟩, .bool false, .string ⟨#[]⟩, .string ⟨#[]⟩, .string ⟨#[]⟩, .string ⟨#[]⟩, .int .i64 0, .bool false, .int .i64 0] : Array Value).size := by simp
      go_wp2_with (refine wpList_store_cell rfl _ _ _ (by rfl) (w.heap.size + 1) 11 (by rfl) (hX13.alloc _).b1 hs90 (.slice (some ⟨w13.heap.size, 0, none⟩) 1 1) (by rfl) (by rfl) (by rfl) infoPsD ?_; intro w90 hb90 hg90; have hX90 := (hX13.alloc _).set hb90 hg90)
      go_meet
      refine ⟨some ⟨w13.heap.size, 0, none⟩, 1, Lib.hid ⟨hX90.rd, hX90.b0, ?_, hX90.gr, .inr ⟨names0.getD (pk l 6 4) ⟨#[]⟩, htmlS, w13.heap.size, hz.out, rfl, ?_⟩⟩⟩
      · rw [hz.out]; exact hX90.b1
      · exact (Blk.new _ _ _).grown hg90 (fun e => by have := Option.some.inj e; have := hX13.b1.lt; omega)
  case rest =>
  obtain ⟨a, c, hXH⟩ := hcut
  have hX91 := hXH.out
  clear hXH hX13
  go_wp2_with fail
  refine (pickD hX91.rd 2 ⟨by omega, by omega⟩).mono ?_
  rintro e w14 ⟨rfl, h1, h2⟩
  have hX14 := hX91.pick h1 h2
  clear h1 h2
  have hs15 : 12 < (#[.int .i64 (1 + ((pk l 0 10 : Nat) : Int)), .int .i64 ((pk l 1 2 : Nat) : Int), .bool (orgK (pk l 2 4)).sec, .string (orgK (pk l 2 4)).host, .int .i64 (orgK (pk l 2 4)).port, .bool (orgK (pk l 3 4)).sec, .string (orgK (pk l 3 4)).host, .int .i64 (orgK (pk l 3 4)).port, .string (pathsL.getD (pk l 4 4) ⟨#[]⟩), .string ⟨#[]⟩, .string (methsL.getD (pk l 5 4) ⟨#[]⟩), .slice a (headK (pk l 6 4)).length c, .bool (decide (pk l 7 2 = 1)), .string ⟨#[]⟩, .bool false, .string ⟨#[]⟩, .string ⟨#[]⟩, .string ⟨#[]⟩, .string ⟨#[]⟩, .int .i64 0, .bool false, .int .i64 0] : Array Value).size := by simp
  go_wp2_with (refine wpList_store_cell rfl _ _ _ (by rfl) (w.heap.size + 1) 12 (by rfl) hX14.b1 hs15 (.bool (decide (pk l 7 2 = 1))) (by first | rfl | exact congrArg Value.bool (eq1D _) | exact congrArg Value.bool (eq3D _)) (by rfl) (by rfl) infoBoolD ?_; intro w15 hb15 hg15; have hX15 := hX14.set (cs' := #[.int .i64 (1 + ((pk l 0 10 : Nat) : Int)), .int .i64 ((pk l 1 2 : Nat) : Int), .bool (orgK (pk l 2 4)).sec, .string (orgK (pk l 2 4)).host, .int .i64 (orgK (pk l 2 4)).port, .bool (orgK (pk l 3 4)).sec, .string (orgK (pk l 3 4)).host, .int .i64 (orgK (pk l 3 4)).port, .string (pathsL.getD (pk l 4 4) ⟨#[]⟩), .string ⟨#[]⟩, .string (methsL.getD (pk l 5 4) ⟨#[]⟩), .slice a (headK (pk l 6 4)).length c, .bool (decide (pk l 7 2 = 1)), .string ⟨#[]⟩, .bool false, .string ⟨#[]⟩, .string ⟨#[]⟩, .string ⟨#[]⟩, .string ⟨#[]⟩, .int .i64 0, .bool false, .int .i64 0]) hb15 hg15; clear hX14 hb15 hg15)
  refine (pickD hX15.rd 4 ⟨by omega, by omega⟩).mono ?_
  rintro e w16 ⟨rfl, h1, h2⟩
  have hX16 := hX15.pick h1 h2
  clear h1 h2
  have hs17 : 14 < (#[.int .i64 (1 + ((pk l 0 10 : Nat) : Int)), .int .i64 ((pk l 1 2 : Nat) : Int), .bool (orgK (pk l 2 4)).sec, .string (orgK (pk l 2 4)).host, .int .i64 (orgK (pk l 2 4)).port, .bool (orgK (pk l 3 4)).sec, .string (orgK (pk l 3 4)).host, .int .i64 (orgK (pk l 3 4)).port, .string (pathsL.getD (pk l 4 4) ⟨#[]⟩), .string ⟨#[]⟩, .string (methsL.getD (pk l 5 4) ⟨#[]⟩), .slice a (headK (pk l 6 4)).length c, .bool (decide (pk l 7 2 = 1)), .string ⟨#[]⟩, .bool (decide (pk l 8 4 = 3)), .string ⟨#[]⟩, .string ⟨#[]⟩, .string ⟨#[]⟩, .string ⟨#[]⟩, .int .i64 0, .bool false, .int .i64 0] : Array Value).size := by simp
  go_wp2_with (refine wpList_store_cell rfl _ _ _ (by rfl) (w.heap.size + 1) 14 (by rfl) hX16.b1 hs17 (.bool (decide (pk l 8 4 = 3))) (by first | rfl | exact congrArg Value.bool (eq1D _) | exact congrArg Value.bool (eq3D _)) (by rfl) (by rfl) infoBoolD ?_; intro w17 hb17 hg17; have hX17 := hX16.set (cs' := #[.int .i64 (1 + ((pk l 0 10 : Nat) : Int)), .int .i64 ((pk l 1 2 : Nat) : Int), .bool (orgK (pk l 2 4)).sec, .string (orgK (pk l 2 4)).host, .int .i64 (orgK (pk l 2 4)).port, .bool (orgK (pk l 3 4)).sec, .string (orgK (pk l 3 4)).host, .int .i64 (orgK (pk l 3 4)).port, .string (pathsL.getD (pk l 4 4) ⟨#[]⟩), .string ⟨#[]⟩, .string (methsL.getD (pk l 5 4) ⟨#[]⟩), .slice a (headK (pk l 6 4)).length c, .bool (decide (pk l 7 2 = 1)), .string ⟨#[]⟩, .bool (decide (pk l 8 4 = 3)), .string ⟨#[]⟩, .string ⟨#[]⟩, .string ⟨#[]⟩, .string ⟨#[]⟩, .int .i64 0, .bool false, .int .i64 0]) hb17 hg17; clear hX16 hb17 hg17)
  refine (textD textsL (hX17.alloc _).rd (Blk.new _ _ _) ⟨by decide, by decide⟩).mono ?_
  rintro e w18 ⟨rfl, h1, h2⟩
  have hX18 := (hX17.alloc _).pick h1 h2
  clear h1 h2
  have hs19 : 15 < (#[.int .i64 (1 + ((pk l 0 10 : Nat) : Int)), .int .i64 ((pk l 1 2 : Nat) : Int), .bool (orgK (pk l 2 4)).sec, .string (orgK (pk l 2 4)).host, .int .i64 (orgK (pk l 2 4)).port, .bool (orgK (pk l 3 4)).sec, .string (orgK (pk l 3 4)).host, .int .i64 (orgK (pk l 3 4)).port, .string (pathsL.getD (pk l 4 4) ⟨#[]⟩), .string ⟨#[]⟩, .string (methsL.getD (pk l 5 4) ⟨#[]⟩), .slice a (headK (pk l 6 4)).length c, .bool (decide (pk l 7 2 = 1)), .string ⟨#[]⟩, .bool (decide (pk l 8 4 = 3)), .string (textsL.getD (pk l 9 8) ⟨#[]⟩), .string ⟨#[]⟩, .string ⟨#[]⟩, .string ⟨#[]⟩, .int .i64 0, .bool false, .int .i64 0] : Array Value).size := by simp
  go_wp2_with (refine wpList_store_cell rfl _ _ _ (by rfl) (w.heap.size + 1) 15 (by rfl) hX18.b1 hs19 (.string (textsL.getD (pk l 9 8) ⟨#[]⟩)) (by first | rfl | exact congrArg Value.bool (eq1D _) | exact congrArg Value.bool (eq3D _)) (by rfl) (by rfl) infoStrD ?_; intro w19 hb19 hg19; have hX19 := hX18.set (cs' := #[.int .i64 (1 + ((pk l 0 10 : Nat) : Int)), .int .i64 ((pk l 1 2 : Nat) : Int), .bool (orgK (pk l 2 4)).sec, .string (orgK (pk l 2 4)).host, .int .i64 (orgK (pk l 2 4)).port, .bool (orgK (pk l 3 4)).sec, .string (orgK (pk l 3 4)).host, .int .i64 (orgK (pk l 3 4)).port, .string (pathsL.getD (pk l 4 4) ⟨#[]⟩), .string ⟨#[]⟩, .string (methsL.getD (pk l 5 4) ⟨#[]⟩), .slice a (headK (pk l 6 4)).length c, .bool (decide (pk l 7 2 = 1)), .string ⟨#[]⟩, .bool (decide (pk l 8 4 = 3)), .string (textsL.getD (pk l 9 8) ⟨#[]⟩), .string ⟨#[]⟩, .string ⟨#[]⟩, .string ⟨#[]⟩, .int .i64 0, .bool false, .int .i64 0]) hb19 hg19; clear hX18 hb19 hg19)
  refine (textD uvL (hX19.alloc _).rd (Blk.new _ _ _) ⟨by decide, by decide⟩).mono ?_
  rintro e w20 ⟨rfl, h1, h2⟩
  have hX20 := (hX19.alloc _).pick h1 h2
  clear h1 h2
  go_wp2_with fail
  refine (textD pqL (hX20.alloc _).rd (Blk.new _ _ _) ⟨by decide, by decide⟩).mono ?_
  rintro e w21 ⟨rfl, h1, h2⟩
  have hX21 := (hX20.alloc _).pick h1 h2
  clear h1 h2
  have hs22 : 18 ≤ (#[.int .i64 (1 + ((pk l 0 10 : Nat) : Int)), .int .i64 ((pk l 1 2 : Nat) : Int), .bool (orgK (pk l 2 4)).sec, .string (orgK (pk l 2 4)).host, .int .i64 (orgK (pk l 2 4)).port, .bool (orgK (pk l 3 4)).sec, .string (orgK (pk l 3 4)).host, .int .i64 (orgK (pk l 3 4)).port, .string (pathsL.getD (pk l 4 4) ⟨#[]⟩), .string ⟨#[]⟩, .string (methsL.getD (pk l 5 4) ⟨#[]⟩), .slice a (headK (pk l 6 4)).length c, .bool (decide (pk l 7 2 = 1)), .string ⟨#[]⟩, .bool (decide (pk l 8 4 = 3)), .string (textsL.getD (pk l 9 8) ⟨#[]⟩), .string (uvL.getD (pk l 10 2) ⟨#[]⟩), .string (pqL.getD (pk l 11 2) ⟨#[]⟩), .string ⟨#[]⟩, .int .i64 0, .bool false, .int .i64 0] : Array Value).size := by simp
  go_wp2_with (refine wpList_store_sub rfl _ _ _ (by rfl) (w.heap.size + 1) 16 (by rfl) hX21.b1 #[.string (uvL.getD (pk l 10 2) ⟨#[]⟩), .string (pqL.getD (pk l 11 2) ⟨#[]⟩)] hs22 (by rfl) (by simp [Value.oneCell']) infoCrD #[.int .i64 (1 + ((pk l 0 10 : Nat) : Int)), .int .i64 ((pk l 1 2 : Nat) : Int), .bool (orgK (pk l 2 4)).sec, .string (orgK (pk l 2 4)).host, .int .i64 (orgK (pk l 2 4)).port, .bool (orgK (pk l 3 4)).sec, .string (orgK (pk l 3 4)).host, .int .i64 (orgK (pk l 3 4)).port, .string (pathsL.getD (pk l 4 4) ⟨#[]⟩), .string ⟨#[]⟩, .string (methsL.getD (pk l 5 4) ⟨#[]⟩), .slice a (headK (pk l 6 4)).length c, .bool (decide (pk l 7 2 = 1)), .string ⟨#[]⟩, .bool (decide (pk l 8 4 = 3)), .string (textsL.getD (pk l 9 8) ⟨#[]⟩), .string (uvL.getD (pk l 10 2) ⟨#[]⟩), .string (pqL.getD (pk l 11 2) ⟨#[]⟩), .string ⟨#[]⟩, .int .i64 0, .bool false, .int .i64 0] (by rfl) ?_; intro w22 hb22 hg22; have hX22 := hX21.set hb22 hg22; clear hX21 hb22 hg22)
  refine (textD cdL (hX22.alloc _).rd (Blk.new _ _ _) ⟨by decide, by decide⟩).mono ?_
  rintro e w23 ⟨rfl, h1, h2⟩
  have hX23 := (hX22.alloc _).pick h1 h2
  clear h1 h2
  have hs24 : 18 < (#[.int .i64 (1 + ((pk l 0 10 : Nat) : Int)), .int .i64 ((pk l 1 2 : Nat) : Int), .bool (orgK (pk l 2 4)).sec, .string (orgK (pk l 2 4)).host, .int .i64 (orgK (pk l 2 4)).port, .bool (orgK (pk l 3 4)).sec, .string (orgK (pk l 3 4)).host, .int .i64 (orgK (pk l 3 4)).port, .string (pathsL.getD (pk l 4 4) ⟨#[]⟩), .string ⟨#[]⟩, .string (methsL.getD (pk l 5 4) ⟨#[]⟩), .slice a (headK (pk l 6 4)).length c, .bool (decide (pk l 7 2 = 1)), .string ⟨#[]⟩, .bool (decide (pk l 8 4 = 3)), .string (textsL.getD (pk l 9 8) ⟨#[]⟩), .string (uvL.getD (pk l 10 2) ⟨#[]⟩), .string (pqL.getD (pk l 11 2) ⟨#[]⟩), .string (cdL.getD (pk l 12 2) ⟨#[]⟩), .int .i64 0, .bool false, .int .i64 0] : Array Value).size := by simp
  go_wp2_with (refine wpList_store_cell rfl _ _ _ (by rfl) (w.heap.size + 1) 18 (by rfl) hX23.b1 hs24 (.string (cdL.getD (pk l 12 2) ⟨#[]⟩)) (by first | rfl | exact congrArg Value.bool (eq1D _) | exact congrArg Value.bool (eq3D _)) (by rfl) (by rfl) infoStrD ?_; intro w24 hb24 hg24; have hX24 := hX23.set (cs' := #[.int .i64 (1 + ((pk l 0 10 : Nat) : Int)), .int .i64 ((pk l 1 2 : Nat) : Int), .bool (orgK (pk l 2 4)).sec, .string (orgK (pk l 2 4)).host, .int .i64 (orgK (pk l 2 4)).port, .bool (orgK (pk l 3 4)).sec, .string (orgK (pk l 3 4)).host, .int .i64 (orgK (pk l 3 4)).port, .string (pathsL.getD (pk l 4 4) ⟨#[]⟩), .string ⟨#[]⟩, .string (methsL.getD (pk l 5 4) ⟨#[]⟩), .slice a (headK (pk l 6 4)).length c, .bool (decide (pk l 7 2 = 1)), .string ⟨#[]⟩, .bool (decide (pk l 8 4 = 3)), .string (textsL.getD (pk l 9 8) ⟨#[]⟩), .string (uvL.getD (pk l 10 2) ⟨#[]⟩), .string (pqL.getD (pk l 11 2) ⟨#[]⟩), .string (cdL.getD (pk l 12 2) ⟨#[]⟩), .int .i64 0, .bool false, .int .i64 0]) hb24 hg24; clear hX23 hb24 hg24)
  refine (pickD hX24.rd 4 ⟨by omega, by omega⟩).mono ?_
  rintro e w25 ⟨rfl, h1, h2⟩
  have hX25 := hX24.pick h1 h2
  clear h1 h2
  have hs26 : 19 < (#[.int .i64 (1 + ((pk l 0 10 : Nat) : Int)), .int .i64 ((pk l 1 2 : Nat) : Int), .bool (orgK (pk l 2 4)).sec, .string (orgK (pk l 2 4)).host, .int .i64 (orgK (pk l 2 4)).port, .bool (orgK (pk l 3 4)).sec, .string (orgK (pk l 3 4)).host, .int .i64 (orgK (pk l 3 4)).port, .string (pathsL.getD (pk l 4 4) ⟨#[]⟩), .string ⟨#[]⟩, .string (methsL.getD (pk l 5 4) ⟨#[]⟩), .slice a (headK (pk l 6 4)).length c, .bool (decide (pk l 7 2 = 1)), .string ⟨#[]⟩, .bool (decide (pk l 8 4 = 3)), .string (textsL.getD (pk l 9 8) ⟨#[]⟩), .string (uvL.getD (pk l 10 2) ⟨#[]⟩), .string (pqL.getD (pk l 11 2) ⟨#[]⟩), .string (cdL.getD (pk l 12 2) ⟨#[]⟩), .int .i64 ((pk l 13 4 : Nat) : Int), .bool false, .int .i64 0] : Array Value).size := by simp
  go_wp2_with (refine wpList_store_cell rfl _ _ _ (by rfl) (w.heap.size + 1) 19 (by rfl) hX25.b1 hs26 (.int .i64 ((pk l 13 4 : Nat) : Int)) (by first | rfl | exact congrArg Value.bool (eq1D _) | exact congrArg Value.bool (eq3D _)) (by rfl) (by rfl) infoIntD ?_; intro w26 hb26 hg26; have hX26 := hX25.set (cs' := #[.int .i64 (1 + ((pk l 0 10 : Nat) : Int)), .int .i64 ((pk l 1 2 : Nat) : Int), .bool (orgK (pk l 2 4)).sec, .string (orgK (pk l 2 4)).host, .int .i64 (orgK (pk l 2 4)).port, .bool (orgK (pk l 3 4)).sec, .string (orgK (pk l 3 4)).host, .int .i64 (orgK (pk l 3 4)).port, .string (pathsL.getD (pk l 4 4) ⟨#[]⟩), .string ⟨#[]⟩, .string (methsL.getD (pk l 5 4) ⟨#[]⟩), .slice a (headK (pk l 6 4)).length c, .bool (decide (pk l 7 2 = 1)), .string ⟨#[]⟩, .bool (decide (pk l 8 4 = 3)), .string (textsL.getD (pk l 9 8) ⟨#[]⟩), .string (uvL.getD (pk l 10 2) ⟨#[]⟩), .string (pqL.getD (pk l 11 2) ⟨#[]⟩), .string (cdL.getD (pk l 12 2) ⟨#[]⟩), .int .i64 ((pk l 13 4 : Nat) : Int), .bool false, .int .i64 0]) hb26 hg26; clear hX25 hb26 hg26)
  refine (pickD hX26.rd 4 ⟨by omega, by omega⟩).mono ?_
  rintro e w27 ⟨rfl, h1, h2⟩
  have hX27 := hX26.pick h1 h2
  clear h1 h2
  have hs28 : 20 < (#[.int .i64 (1 + ((pk l 0 10 : Nat) : Int)), .int .i64 ((pk l 1 2 : Nat) : Int), .bool (orgK (pk l 2 4)).sec, .string (orgK (pk l 2 4)).host, .int .i64 (orgK (pk l 2 4)).port, .bool (orgK (pk l 3 4)).sec, .string (orgK (pk l 3 4)).host, .int .i64 (orgK (pk l 3 4)).port, .string (pathsL.getD (pk l 4 4) ⟨#[]⟩), .string ⟨#[]⟩, .string (methsL.getD (pk l 5 4) ⟨#[]⟩), .slice a (headK (pk l 6 4)).length c, .bool (decide (pk l 7 2 = 1)), .string ⟨#[]⟩, .bool (decide (pk l 8 4 = 3)), .string (textsL.getD (pk l 9 8) ⟨#[]⟩), .string (uvL.getD (pk l 10 2) ⟨#[]⟩), .string (pqL.getD (pk l 11 2) ⟨#[]⟩), .string (cdL.getD (pk l 12 2) ⟨#[]⟩), .int .i64 ((pk l 13 4 : Nat) : Int), .bool (decide (pk l 14 4 = 3)), .int .i64 0] : Array Value).size := by simp
  go_wp2_with (refine wpList_store_cell rfl _ _ _ (by rfl) (w.heap.size + 1) 20 (by rfl) hX27.b1 hs28 (.bool (decide (pk l 14 4 = 3))) (by first | rfl | exact congrArg Value.bool (eq1D _) | exact congrArg Value.bool (eq3D _)) (by rfl) (by rfl) infoBoolD ?_; intro w28 hb28 hg28; have hX28 := hX27.set (cs' := #[.int .i64 (1 + ((pk l 0 10 : Nat) : Int)), .int .i64 ((pk l 1 2 : Nat) : Int), .bool (orgK (pk l 2 4)).sec, .string (orgK (pk l 2 4)).host, .int .i64 (orgK (pk l 2 4)).port, .bool (orgK (pk l 3 4)).sec, .string (orgK (pk l 3 4)).host, .int .i64 (orgK (pk l 3 4)).port, .string (pathsL.getD (pk l 4 4) ⟨#[]⟩), .string ⟨#[]⟩, .string (methsL.getD (pk l 5 4) ⟨#[]⟩), .slice a (headK (pk l 6 4)).length c, .bool (decide (pk l 7 2 = 1)), .string ⟨#[]⟩, .bool (decide (pk l 8 4 = 3)), .string (textsL.getD (pk l 9 8) ⟨#[]⟩), .string (uvL.getD (pk l 10 2) ⟨#[]⟩), .string (pqL.getD (pk l 11 2) ⟨#[]⟩), .string (cdL.getD (pk l 12 2) ⟨#[]⟩), .int .i64 ((pk l 13 4 : Nat) : Int), .bool (decide (pk l 14 4 = 3)), .int .i64 0]) hb28 hg28; clear hX27 hb28 hg28)
  refine (pickD hX28.rd 10 ⟨by omega, by omega⟩).mono ?_
  rintro e w29 ⟨rfl, h1, h2⟩
  have hX29 := hX28.pick h1 h2
  clear h1 h2
  have hs30 : 21 < (#[.int .i64 (1 + ((pk l 0 10 : Nat) : Int)), .int .i64 ((pk l 1 2 : Nat) : Int), .bool (orgK (pk l 2 4)).sec, .string (orgK (pk l 2 4)).host, .int .i64 (orgK (pk l 2 4)).port, .bool (orgK (pk l 3 4)).sec, .string (orgK (pk l 3 4)).host, .int .i64 (orgK (pk l 3 4)).port, .string (pathsL.getD (pk l 4 4) ⟨#[]⟩), .string ⟨#[]⟩, .string (methsL.getD (pk l 5 4) ⟨#[]⟩), .slice a (headK (pk l 6 4)).length c, .bool (decide (pk l 7 2 = 1)), .string ⟨#[]⟩, .bool (decide (pk l 8 4 = 3)), .string (textsL.getD (pk l 9 8) ⟨#[]⟩), .string (uvL.getD (pk l 10 2) ⟨#[]⟩), .string (pqL.getD (pk l 11 2) ⟨#[]⟩), .string (cdL.getD (pk l 12 2) ⟨#[]⟩), .int .i64 ((pk l 13 4 : Nat) : Int), .bool (decide (pk l 14 4 = 3)), .int .i64 ((pk l 15 10 : Nat) : Int)] : Array Value).size := by simp
  go_wp2_with (first
    | (refine wpList_store_cell rfl _ _ _ (by rfl) (w.heap.size + 1) 21 (by rfl) hX29.b1 hs30 (.int .i64 ((pk l 15 10 : Nat) : Int)) (by rfl) (by rfl) (by rfl) infoIntD ?_; intro w98 hb98 hg98; have hX98 : OpW w R l 16 (opS l a c) (opS l a c).arr w98 := hX29.set hb98 hg98; clear hX29)
    | (refine wpList_load_blk rfl tOpD _ rfl _ rfl hX98.b1 _ Try.underlying36 rfl infoOpD ?_)
    | (refine wpList_store_blk rfl tOpD _ _ rfl _ rfl hX98.b0 (opS l a c).arr rfl rfl infoOpD (opD_one _) ?_; intro w99 hb99 hg99))
  have hlt := hX98.b1.lt
  refine bodyPost_ret (v := .agg (opS l a c).arr) ?_ rfl ⟨a, c, rfl, hX98.rd.grown hX98.b0 (by decide) hg99, hX98.hd.grown hX98.b0 (by decide) hg99, only_grown hX98.gr hg99 (fun j e => .inr (by cases e; exact Nat.le_refl _))⟩
  exact results_cellD 2 Try.results11 rfl hb99 Try.underlying36 rfl infoOpD
end Go.Proofs.Ytinlahahbhpppaa
