/- errors.As at the program's own error numbers: errors.as, errors.As. -/
import Derived.Test.YtmpgamnpmgedkaaDoorErr
namespace Go.Proofs.YtmpgamnpmgedkaaDoor
open Go.RowKit Go.Extern.Stop Go.Stop Go.Extern

theorem cell_set_same (w : World) (a : Addr) (v old : Value) (h : w.cell? a = some old) : (w.setCell a v).cell? a = some v := by
  obtain ⟨b, off, sp⟩ := a
  unfold World.cell? at h ⊢
  split at h
  case h_2 => cases h
  case h_1 c T fr hb =>
    cases sp with
    | some x => simp at h
    | none =>
      have : (w.setCell ⟨b, off, none⟩ v).heap[b]? = some (.cells (c.setIfInBounds off v) T fr) := by
        show (w.heap.modify b _)[b]? = _
        rw [Array.getElem?_modify, if_pos rfl, hb]; rfl
      simp at h
      rw [this]
      have hlt := (Array.getElem?_eq_some_iff.1 h).1
      simp [hlt]

abbrev rfV (a : Addr) : Value := .agg #[.pointer (some ⟨22, 267, none⟩), .pointer (some a), .int .u64 150]
abbrev rfT : Value := .iface 326 (.agg #[.pointer (some ⟨22, 36, none⟩)])

set_option maxRecDepth 100000 in
set_option maxHeartbeats 4000000 in
theorem as_errno (n : Int) (t a : Addr) (old : Value) (w : World) (ha : w.cell? a = some (.pointer (some t))) (ht : w.cell? t = some old) (hf : w.frozen? t = false) :
    Calls Tryd.prog 264 #[.iface 36 (.int .i64 n), .iface 267 (.pointer (some t)), rfV a, rfT] w fun e w' => e = .returned (.bool true) ∧ w'.cell? t = some (.int .i64 n) ∧ Below t.block w w' := by
  have tl := World.block_lt_of_cell? w _ ht
  have al := World.block_lt_of_cell? w _ ha
  have hT := @run_callFunc_extern Tryd.prog 277 _ ReflectliteType.typeOf Tryd.func277 (by kernel_rfl) (by kernel_rfl) (by kernel_rfl) (by kernel_rfl)
  have hA := @run_callFunc_extern Tryd.prog 317 _ (ReflectliteType.relation "AssignableTo" ReflectliteType.assignableTo) Tryd.func317 (by kernel_rfl) (by kernel_rfl) (by kernel_rfl) (by kernel_rfl)
  have hE := @run_callFunc_extern Tryd.prog 278 _ (ReflectliteValue.method (ReflectliteValue.valueError "reflectlite.Value.Elem" 0) ReflectliteValue.elem) Tryd.func278 (by kernel_rfl) (by kernel_rfl) (by kernel_rfl) (by kernel_rfl)
  have hV := @run_callFunc_extern Tryd.prog 261 _ (fun args => ReflectliteValue.unpack (args.getD 0 (.tuple #[]))) Tryd.func261 (by kernel_rfl) (by kernel_rfl) (by kernel_rfl) (by kernel_rfl)
  have hS := @run_callFunc_extern Tryd.prog 279 _ ReflectliteValue.set Tryd.func279 (by kernel_rfl) (by kernel_rfl) (by kernel_rfl) (by kernel_rfl)
  have f1 := rfTypeOfErr
  have f2 := rfAssignErr
  have f3 := rfValueOfErr
  have el := rfElemV a t (w.alloc (.cells #[.pointer (some ⟨22, 267, none⟩), .pointer (some a), .int .u64 150] 292)) (by rw [World.cell?_alloc_lt _ _ a al]; exact ha)
  have st := rfSet t ⟨w.heap.size + 1, 0, none⟩ n old ((w.alloc (.cells #[.pointer (some ⟨22, 267, none⟩), .pointer (some a), .int .u64 150] 292)).alloc (.cells #[.int .i64 n] 36))
    (by rw [World.cell?_alloc_at _ _ _ _ (by simp)]; rfl)
    (by rw [World.cell?_alloc_lt _ _ t (by simp; omega), World.cell?_alloc_lt _ _ t tl]; exact ht)
    (by rw [World.frozen?_alloc_old _ _ t (by simp; omega), World.frozen?_alloc_old _ _ t (Nat.ne_of_lt tl)]; exact hf)
  go_enter Tryd.func264, Tryd.ntmps264
  go_wp2
  refine wp_loop_rounds 1 ?_
  rw [rounds_succ]
  go_wp2
  go_ret
  refine ⟨rfl, ?_, ?_⟩
  · exact cell_set_same _ t _ old (by rw [World.cell?_alloc_lt _ _ t (by simp; omega), World.cell?_alloc_lt _ _ t tl]; exact ht)
  · exact (((Below.refl t.block w).alloc (by omega) _).alloc (by simp; omega) _).setCell (Nat.le_refl _) _

set_option maxRecDepth 100000 in
set_option maxHeartbeats 4000000 in
theorem as_at (p : Nat) (n : Int) (t a : Addr) (old : Value) (w : World) (hp : w.cell? ⟨p, 0, none⟩ = some (.int .i64 n)) (ha : w.cell? a = some (.pointer (some t))) (ht : w.cell? t = some old) (hf : w.frozen? t = false) :
    Calls Tryd.prog 264 #[.iface 187 (.pointer (some ⟨p, 0, none⟩)), .iface 267 (.pointer (some t)), rfV a, rfT] w fun e w' => e = .returned (.bool true) ∧ w'.cell? t = some (.int .i64 n) ∧ Below t.block w w' := by
  have tl := World.block_lt_of_cell? w _ ht
  have al := World.block_lt_of_cell? w _ ha
  have hT := @run_callFunc_extern Tryd.prog 277 _ ReflectliteType.typeOf Tryd.func277 (by kernel_rfl) (by kernel_rfl) (by kernel_rfl) (by kernel_rfl)
  have hA := @run_callFunc_extern Tryd.prog 317 _ (ReflectliteType.relation "AssignableTo" ReflectliteType.assignableTo) Tryd.func317 (by kernel_rfl) (by kernel_rfl) (by kernel_rfl) (by kernel_rfl)
  have hE := @run_callFunc_extern Tryd.prog 278 _ (ReflectliteValue.method (ReflectliteValue.valueError "reflectlite.Value.Elem" 0) ReflectliteValue.elem) Tryd.func278 (by kernel_rfl) (by kernel_rfl) (by kernel_rfl) (by kernel_rfl)
  have hV := @run_callFunc_extern Tryd.prog 261 _ (fun args => ReflectliteValue.unpack (args.getD 0 (.tuple #[]))) Tryd.func261 (by kernel_rfl) (by kernel_rfl) (by kernel_rfl) (by kernel_rfl)
  have hS := @run_callFunc_extern Tryd.prog 279 _ ReflectliteValue.set Tryd.func279 (by kernel_rfl) (by kernel_rfl) (by kernel_rfl) (by kernel_rfl)
  have f1 := rfTypeOfErr
  have f4 := rfTypeOfAt
  have f5 := rfAssignAt
  have f6 := taAtAs
  have f7 := taAtUnwrap
  have pl := World.block_lt_of_cell? w _ hp
  have f2 := rfAssignErr
  have f3 := rfValueOfErr
  have el := rfElemV a t (w.alloc (.cells #[.pointer (some ⟨22, 267, none⟩), .pointer (some a), .int .u64 150] 292)) (by rw [World.cell?_alloc_lt _ _ a al]; exact ha)
  have st := rfSet t ⟨w.heap.size + 1, 0, none⟩ n old ((w.alloc (.cells #[.pointer (some ⟨22, 267, none⟩), .pointer (some a), .int .u64 150] 292)).alloc (.cells #[.int .i64 n] 36))
    (by rw [World.cell?_alloc_at _ _ _ _ (by simp)]; rfl)
    (by rw [World.cell?_alloc_lt _ _ t (by simp; omega), World.cell?_alloc_lt _ _ t tl]; exact ht)
    (by rw [World.frozen?_alloc_old _ _ t (by simp; omega), World.frozen?_alloc_old _ _ t (Nat.ne_of_lt tl)]; exact hf)
  go_enter Tryd.func264, Tryd.ntmps264
  go_wp2
  refine wp_loop_rounds 2 ?_
  rw [rounds_succ]
  go_wp2
  rw [rounds_succ]
  go_wp2
  go_ret
  refine ⟨rfl, ?_, ?_⟩
  · exact cell_set_same _ t _ old (by rw [World.cell?_alloc_lt _ _ t (by simp; omega), World.cell?_alloc_lt _ _ t tl]; exact ht)
  · exact (((Below.refl t.block w).alloc (by omega) _).alloc (by simp; omega) _).setCell (Nat.le_refl _) _

/-- the library's variable holds error's type -/
def ErrType (w : World) : Prop := w.cell? ⟨10, 0, none⟩ = some (.iface 326 (.agg #[.pointer (some ⟨22, 42, none⟩)]))
theorem ErrType.later {w w' : World} (h : ErrType w) (hb : Below w.heap.size w w') : ErrType w' :=
  (hb.cell (World.block_lt_of_cell? w _ h)).trans h
def AsHit (x : Value) (n : Int) : Prop := ∀ (t a : Addr) (old : Value) (w : World), (w.cell? a = some (.pointer (some t))) → (w.cell? t = some old) → (w.frozen? t = false) →
    Calls Tryd.prog 264 #[x, .iface 267 (.pointer (some t)), rfV a, rfT] w fun e w' => e = .returned (.bool true) ∧ w'.cell? t = some (.int .i64 n) ∧ Below t.block w w'

set_option maxRecDepth 100000 in
set_option maxHeartbeats 4000000 in
theorem As_hit (T : TypeId) (v : Value) (n : Int) (t : Addr) (old : Value) (w : World) (hx : ∀ (a : Addr) (w1 : World), Below w.heap.size w w1 → (w1.cell? a = some (.pointer (some t))) →
      Calls Tryd.prog 264 #[.iface T v, .iface 267 (.pointer (some t)), rfV a, rfT] w1 fun e w' => e = .returned (.bool true) ∧ w'.cell? t = some (.int .i64 n) ∧ Below t.block w1 w')
    (hg : ErrType w) (ht : w.cell? t = some old) :
    Calls Tryd.prog 235 #[.iface T v, .iface 267 (.pointer (some t))] w fun e w' => e = .returned (.bool true) ∧ w'.cell? t = some (.int .i64 n) ∧ Below t.block w w' := by
  have tl := World.block_lt_of_cell? w _ ht
  have gl := World.block_lt_of_cell? w _ hg
  have gl' : 10 < w.heap.size := gl
  have hV := @run_callFunc_extern Tryd.prog 261 _ (fun args => ReflectliteValue.unpack (args.getD 0 (.tuple #[]))) Tryd.func261 (by kernel_rfl) (by kernel_rfl) (by kernel_rfl) (by kernel_rfl)
  have hT := @run_callFunc_extern Tryd.prog 262 _ (ReflectliteValue.methodAny (ReflectliteValue.valueError "reflectlite.Value.Type" 0) (fun t _ _ _ => ReflectliteType.toType t)) Tryd.func262 (by kernel_rfl) (by kernel_rfl) (by kernel_rfl) (by kernel_rfl)
  have hN := @run_callFunc_extern Tryd.prog 263 _ (ReflectliteValue.method (ReflectliteValue.valueError "reflectlite.Value.IsNil" 0) ReflectliteValue.isNil) Tryd.func263 (by kernel_rfl) (by kernel_rfl) (by kernel_rfl) (by kernel_rfl)
  have hK := @run_callFunc_extern Tryd.prog 302 _ (ReflectliteType.abiMethod fun t => do pure (.int .u8 (← Rtype.kind t))) Tryd.func302 (by kernel_rfl) (by kernel_rfl) (by kernel_rfl) (by kernel_rfl)
  have hE := @run_callFunc_extern Tryd.prog 319 _ (ReflectliteType.method ReflectliteType.elem) Tryd.func319 (by kernel_rfl) (by kernel_rfl) (by kernel_rfl) (by kernel_rfl)
  have hI := @run_callFunc_extern Tryd.prog 320 _ (ReflectliteType.relation "Implements" ReflectliteType.implements_) Tryd.func320 (by kernel_rfl) (by kernel_rfl) (by kernel_rfl) (by kernel_rfl)
  have f1 := rfValueOfPtr
  have f2 := rfTypePtr
  have f3 := rfKindPtr
  have f4 := rfKindErr
  have f5 := rfElemType
  have f6 := rfImplements
  have n8 := rfIsNil ⟨w.heap.size, 0, none⟩ t ((w.alloc (.cells #[.pointer (some t)] 267)).alloc (.cells #[.pointer (some ⟨22, 267, none⟩), .pointer (some ⟨w.heap.size, 0, none⟩), .int .u64 150] 292)) (by simp)
  have hg2 : ((w.alloc (.cells #[.pointer (some t)] 267)).alloc (.cells #[.pointer (some ⟨22, 267, none⟩), .pointer (some ⟨w.heap.size, 0, none⟩), .int .u64 150] 292)).cell? ⟨10, 0, none⟩ = some (.iface 326 (.agg #[.pointer (some ⟨22, 42, none⟩)])) := by
    rw [World.cell?_alloc_lt _ _ ⟨10, 0, none⟩ (by rw [World.size_alloc]; exact Nat.lt_succ_of_lt gl'), World.cell?_alloc_lt _ _ ⟨10, 0, none⟩ gl]; exact hg
  go_enter Tryd.func235, Tryd.ntmps235
  go_wp2_with fail
  refine (hx ⟨w.heap.size, 0, none⟩ _ (((Below.refl _ _).alloc (Nat.le_refl _) _).alloc (by simp) _) (by rw [World.cell?_alloc_lt _ _ _ (by simp), World.cell?_alloc_at _ _ _ _ rfl]; rfl)).mono ?_
  rintro e w1 ⟨rfl, hc, hB⟩
  go_wp2
  go_ret
  exact ⟨rfl, hc, (((Below.refl t.block w).alloc (by omega) _).alloc (by simp; omega) _).trans hB⟩

set_option maxRecDepth 100000 in
theorem tell_nil (w : World) : Calls Tryd.prog 195 #[.nilIface] w fun e w' => e = .returned (.int .i64 0) ∧ Below w.heap.size w w' := by
  go_enter Tryd.func195, Tryd.ntmps195
  go_wp2
  go_ret
  exact ⟨rfl, Below.refl _ _⟩

set_option maxRecDepth 100000 in
set_option maxHeartbeats 1000000 in
theorem tell_of (T : TypeId) (v : Value) (n : Int) (w : World) (hg : ErrType w) (hx : ∀ (t a : Addr) (old : Value) (w1 : World), Below w.heap.size w w1 → (w1.cell? a = some (.pointer (some t))) → (w1.cell? t = some old) → (w1.frozen? t = false) →
      Calls Tryd.prog 264 #[.iface T v, .iface 267 (.pointer (some t)), rfV a, rfT] w1 fun e w' => e = .returned (.bool true) ∧ w'.cell? t = some (.int .i64 n) ∧ Below t.block w1 w') :
    Calls Tryd.prog 195 #[.iface T v] w fun e w' => e = .returned (.int .i64 n) ∧ Below w.heap.size w w' := by
  have hB0 : Below w.heap.size w (w.alloc (.cells #[.int .i64 0] 36)) := (Below.refl _ _).alloc (Nat.le_refl _) _
  have hc0 : (w.alloc (.cells #[.int .i64 0] 36)).cell? ⟨w.heap.size, 0, none⟩ = some (.int .i64 0) := by rw [World.cell?_alloc_at _ _ _ _ rfl]; rfl
  have hA := As_hit T v n ⟨w.heap.size, 0, none⟩ (.int .i64 0) _ (fun a w1 hb ha => hx _ a (.int .i64 0) w1 (hB0.then (Nat.le_refl _) hb) ha
    ((hb.cell (p := ⟨w.heap.size, 0, none⟩) (by simp)).trans hc0) ((hb.frozen (p := ⟨w.heap.size, 0, none⟩) (by simp)).trans (by simp [World.frozen?_alloc_mark]))) (hg.later hB0) hc0
  have HA := Lib.hid hA
  clear hA
  go_enter Tryd.func195, Tryd.ntmps195
  go_wp2_with fail
  refine HA.out.mono ?_
  rintro e w1 ⟨rfl, hc, hB⟩
  go_wp2
  go_ret
  exact ⟨rfl, hB0.trans hB⟩

theorem tell_errno (n : Int) (w : World) (hg : ErrType w) : Calls Tryd.prog 195 #[.iface 36 (.int .i64 n)] w fun e w' => e = .returned (.int .i64 n) ∧ Below w.heap.size w w' :=
  tell_of _ _ n w hg fun t a old w1 _ ha ht hf => as_errno n t a old w1 ha ht hf
theorem tell_at (p : Nat) (n : Int) (w : World) (hg : ErrType w) (hp : w.cell? ⟨p, 0, none⟩ = some (.int .i64 n)) : Calls Tryd.prog 195 #[.iface 187 (.pointer (some ⟨p, 0, none⟩))] w fun e w' => e = .returned (.int .i64 n) ∧ Below w.heap.size w w' :=
  tell_of _ _ n w hg fun t a old w1 hb ha ht hf => as_at p n t a old w1 ((hb.cell (p := ⟨p, 0, none⟩) (World.block_lt_of_cell? w _ hp)).trans hp) ha ht hf

end Go.Proofs.YtmpgamnpmgedkaaDoor
