/- Merged out of Err ErrAs Place. -/
import Derived.Test.YtchgpdgigpaloaaDoorFound
import Derived.LaidEql
import Derived.Stop.Asserts
import Derived.RowKitTokens
import Derived.Deep.QuietTactic
import Derived.BigQuiet
/- errors.As at the program's own error numbers; api.Tell and plain.Place at nil, at a number, at a number with a place. (After the kit's worked text on errors.As at a concrete target.) -/
namespace Go.Proofs.YtchgpdgigpaloaaDoor
open Go.RowKit Go.Extern.Stop Go.Stop Go.Extern

set_option maxRecDepth 100000

theorem rfValueOfPtr (t : Addr) (w : World) : (ReflectliteValue.unpack (.iface 107 (.pointer (some t)))).run Tryd.prog w
    = .ok (.agg #[.pointer (some ⟨2, 107, none⟩), .pointer (some ⟨w.heap.size, 0, none⟩), .int .u64 150]) (w.alloc (.cells #[.pointer (some t)] 107)) := by kernel_rfl
theorem rfTypePtr (a : Addr) (w : World) : (ReflectliteValue.methodAny (ReflectliteValue.valueError "reflectlite.Value.Type" 0) (fun t _ _ _ => ReflectliteType.toType t) #[.agg #[.pointer (some ⟨2, 107, none⟩), .pointer (some a), .int .u64 150]]).run Tryd.prog w
    = .ok (.iface 122 (.agg #[.pointer (some ⟨2, 107, none⟩)])) w := by kernel_rfl
theorem rfKindPtr (w : World) : ((ReflectliteType.abiMethod fun t => (fun a : Nat => Value.int IntKind.u8 (a : Int)) <$> Rtype.kind t) #[.pointer (some ⟨2, 107, none⟩)]).run Tryd.prog w = .ok (.int .u8 22) w := by kernel_rfl
theorem rfKindErr (w : World) : ((ReflectliteType.abiMethod fun t => (fun a : Nat => Value.int IntKind.u8 (a : Int)) <$> Rtype.kind t) #[.pointer (some ⟨2, 48, none⟩)]).run Tryd.prog w = .ok (.int .u8 2) w := by kernel_rfl
theorem rlm (z : Sem Value) (f : TypeId → Addr → Nat → Nat → Sem Value) (v : Value) :
    ReflectliteValue.method z f #[v] = (do match ← ReflectliteValue.parts v with | none => z | some (t, a, fl) => f t a fl (fl % 32)) := rfl
theorem rfPartsPtr (a : Addr) (w : World) : (ReflectliteValue.parts (.agg #[.pointer (some ⟨2, 107, none⟩), .pointer (some a), .int .u64 150])).run Tryd.prog w = .ok (some (107, a, 150)) w := by kernel_rfl
theorem rfIsNil (a p : Addr) (W : World) (ha : W.cell? a = some (.pointer (some p))) :
    (ReflectliteValue.method (ReflectliteValue.valueError "reflectlite.Value.IsNil" 0) ReflectliteValue.isNil #[.agg #[.pointer (some ⟨2, 107, none⟩), .pointer (some a), .int .u64 150]]).run Tryd.prog W = .ok (.bool false) W := by
  rw [rlm]
  simp only [Sem.run_bind, rfPartsPtr, Result.andThen]
  simp [ReflectliteValue.isNil, loadVar, isAgg, underlying, Tryd.underlying107, ha, Result.andThen]
theorem rfElemType (w : World) : (ReflectliteType.method ReflectliteType.elem #[.agg #[.pointer (some ⟨2, 107, none⟩)]]).run Tryd.prog w = .ok (.iface 122 (.agg #[.pointer (some ⟨2, 48, none⟩)])) w := by kernel_rfl
theorem rfImplements (w : World) : (ReflectliteType.relation "Implements" ReflectliteType.implements_ #[.agg #[.pointer (some ⟨2, 48, none⟩)], .iface 122 (.agg #[.pointer (some ⟨2, 45, none⟩)])]).run Tryd.prog w = .ok (.bool true) w := by kernel_rfl
theorem rfTypeOfErr (v : Value) (w : World) : (ReflectliteType.typeOf #[.iface 48 v]).run Tryd.prog w = .ok (.iface 122 (.agg #[.pointer (some ⟨2, 48, none⟩)])) w := by kernel_rfl
theorem rfAssignErr (w : World) : (ReflectliteType.relation "AssignableTo" ReflectliteType.assignableTo #[.agg #[.pointer (some ⟨2, 48, none⟩)], .iface 122 (.agg #[.pointer (some ⟨2, 48, none⟩)])]).run Tryd.prog w = .ok (.bool true) w := by kernel_rfl
theorem rfValueOfErr (n : Int) (w : World) : (ReflectliteValue.unpack (.iface 48 (.int .i64 n))).run Tryd.prog w
    = .ok (.agg #[.pointer (some ⟨2, 48, none⟩), .pointer (some ⟨w.heap.size, 0, none⟩), .int .u64 130]) (w.alloc (.cells #[.int .i64 n] 48)) := by kernel_rfl
theorem rfElemOf (w : World) : (Rtype.elem? 107).run Tryd.prog w = .ok (some 48) w := by kernel_rfl
theorem rfMk (p : Addr) (w : World) : (ReflectliteValue.mk 48 p ReflectliteValue.flagAddr).run Tryd.prog w = .ok (.agg #[.pointer (some ⟨2, 48, none⟩), .pointer (some p), .int .u64 386]) w := by kernel_rfl
theorem rfElemV (a p : Addr) (W : World) (ha : W.cell? a = some (.pointer (some p))) :
    (ReflectliteValue.method (ReflectliteValue.valueError "reflectlite.Value.Elem" 0) ReflectliteValue.elem #[.agg #[.pointer (some ⟨2, 107, none⟩), .pointer (some a), .int .u64 150]]).run Tryd.prog W
      = .ok (.agg #[.pointer (some ⟨2, 48, none⟩), .pointer (some p), .int .u64 386]) W := by
  rw [rlm]
  simp only [Sem.run_bind, rfPartsPtr, Result.andThen]
  simp [ReflectliteValue.elem, loadVar, isAgg, underlying, Tryd.underlying107, ha, Result.andThen, rfElemOf, rfMk]
theorem rls : ∃ (z1 : Sem Value) (z2 : Sem Value) (rest : TypeId → TypeId → Addr → Value → Sem Value), ∀ v x, ReflectliteValue.set #[v, x] = (do
    let (some (dst, a, fl), some (src, b, _)) := (← ReflectliteValue.parts v, ← ReflectliteValue.parts x) | z1
    if fl / ReflectliteValue.flagAddr % 2 == 0 then z2
    else
      let val ← loadVar src b
      if ← Rtype.directlyAssignable dst src then (do storeVar dst a val; pure (.tuple #[]))
      else rest dst src a val) := ⟨_, _, _, fun _ _ => rfl⟩
theorem rfPartsA (a : Addr) (w : World) : (ReflectliteValue.parts (.agg #[.pointer (some ⟨2, 48, none⟩), .pointer (some a), .int .u64 386])).run Tryd.prog w = .ok (some (48, a, 386)) w := by kernel_rfl
theorem rfPartsB (a : Addr) (w : World) : (ReflectliteValue.parts (.agg #[.pointer (some ⟨2, 48, none⟩), .pointer (some a), .int .u64 130])).run Tryd.prog w = .ok (some (48, a, 130)) w := by kernel_rfl
theorem rfDirect (w : World) : (Rtype.directlyAssignable 48 48).run Tryd.prog w = .ok true w := by kernel_rfl
theorem rfSet (ta b : Addr) (n : Int) (old : Value) (W : World) (hb : W.cell? b = some (.int .i64 n)) (ht : W.cell? ta = some old) (hf : W.frozen? ta = false) :
    (ReflectliteValue.set #[.agg #[.pointer (some ⟨2, 48, none⟩), .pointer (some ta), .int .u64 386], .agg #[.pointer (some ⟨2, 48, none⟩), .pointer (some b), .int .u64 130]]).run Tryd.prog W
      = .ok (.tuple #[]) (W.setCell ta (.int .i64 n)) := by
  obtain ⟨z1, z2, rest, hr⟩ := rls
  rw [hr]
  simp only [Sem.run_bind, rfPartsA, rfPartsB, Result.andThen]
  simp [ReflectliteValue.flagAddr, loadVar, isAgg, underlying, Tryd.underlying48, hb, Result.andThen, rfDirect, storeVar, Value.cells, storeCells, Addr.add]
  rw [run_store Tryd.prog W ta _ _ (by rfl)]
  simp [ht, hf]

theorem rfTypeOfAt (v : Value) (w : World) : (ReflectliteType.typeOf #[.iface 96 v]).run Tryd.prog w = .ok (.iface 122 (.agg #[.pointer (some ⟨2, 96, none⟩)])) w := by kernel_rfl
theorem rfAssignAt (w : World) : (ReflectliteType.relation "AssignableTo" ReflectliteType.assignableTo #[.agg #[.pointer (some ⟨2, 96, none⟩)], .iface 122 (.agg #[.pointer (some ⟨2, 48, none⟩)])]).run Tryd.prog w = .ok (.bool false) w := by kernel_rfl

theorem taAtAs (v : Value) (xT : TypeId) (w : World) : (Instr.typeAssert (.iface 96 v) xT 127 true).run Tryd.prog w = .ok (.tuple #[.nilIface, .bool false]) w :=
  run_typeAssert_lacksB Tryd.underlying127 (by kernel_rfl) (by kernel_rfl) v xT w
theorem taAtUnwrap (v : Value) (xT : TypeId) (w : World) : (Instr.typeAssert (.iface 96 v) xT 100 true).run Tryd.prog w = .ok (.tuple #[.iface 96 v, .bool true]) w :=
  run_typeAssert_hasB Tryd.underlying100 (by kernel_rfl) v xT w
theorem taErrUnwrap (v : Value) (xT : TypeId) (w : World) : (Instr.typeAssert (.iface 48 v) xT 100 true).run Tryd.prog w = .ok (.tuple #[.nilIface, .bool false]) w :=
  run_typeAssert_lacksB Tryd.underlying100 (by kernel_rfl) (by kernel_rfl) v xT w
theorem taErrAt (v : Value) (xT : TypeId) (w : World) : (Instr.typeAssert (.iface 48 v) xT 96 true).run Tryd.prog w = .ok (.tuple #[.pointer none, .bool false]) w := by kernel_rfl
theorem taAtAt (v : Value) (xT : TypeId) (w : World) : (Instr.typeAssert (.iface 96 v) xT 96 true).run Tryd.prog w = .ok (.tuple #[v, .bool true]) w := by kernel_rfl

end Go.Proofs.YtchgpdgigpaloaaDoor
/- errors.As at the program's own error numbers: errors.as, errors.As. -/
namespace Go.Proofs.YtchgpdgigpaloaaDoor
open Go.RowKit Go.Extern.Stop Go.Stop Go.Extern

theorem cell_set_same (w : World) (a : Addr) (v old : Value) (h : w.cell? a = some old) : (w.setCell a v).cell? a = some v := by
  obtain ⟨b, off, sp⟩ := a
  unfold World.cell? at h ⊢
  split at h
  case h_2 => cases h
  case h_1 c T fr hb =>
    cases sp with
    | some x => simp at h
    | none =>
      have : (w.setCell ⟨b, off, none⟩ v).heap[b]? = some (.cells (c.setIfInBounds off v) T fr) := by
        show (w.heap.modify b _)[b]? = _
        rw [Array.getElem?_modify, if_pos rfl, hb]; rfl
      simp at h
      rw [this]
      have hlt := (Array.getElem?_eq_some_iff.1 h).1
      simp [hlt]

abbrev rfV (a : Addr) : Value := .agg #[.pointer (some ⟨2, 107, none⟩), .pointer (some a), .int .u64 150]
abbrev rfT : Value := .iface 122 (.agg #[.pointer (some ⟨2, 48, none⟩)])

set_option maxRecDepth 100000 in
set_option maxHeartbeats 4000000 in
theorem as_errno (n : Int) (t a : Addr) (old : Value) (w : World) (ha : w.cell? a = some (.pointer (some t))) (ht : w.cell? t = some old) (hf : w.frozen? t = false) :
    Calls Tryd.prog 63 #[.iface 48 (.int .i64 n), .iface 107 (.pointer (some t)), rfV a, rfT] w fun e w' => e = .returned (.bool true) ∧ w'.cell? t = some (.int .i64 n) ∧ Below t.block w w' := by
  have tl := World.block_lt_of_cell? w _ ht
  have al := World.block_lt_of_cell? w _ ha
  have hT := @run_callFunc_extern Tryd.prog 64 _ ReflectliteType.typeOf Tryd.func64 (by kernel_rfl) (by kernel_rfl) (by kernel_rfl) (by kernel_rfl)
  have hA := @run_callFunc_extern Tryd.prog 91 _ (ReflectliteType.relation "AssignableTo" ReflectliteType.assignableTo) Tryd.func91 (by kernel_rfl) (by kernel_rfl) (by kernel_rfl) (by kernel_rfl)
  have hE := @run_callFunc_extern Tryd.prog 65 _ (ReflectliteValue.method (ReflectliteValue.valueError "reflectlite.Value.Elem" 0) ReflectliteValue.elem) Tryd.func65 (by kernel_rfl) (by kernel_rfl) (by kernel_rfl) (by kernel_rfl)
  have hV := @run_callFunc_extern Tryd.prog 60 _ (fun args => ReflectliteValue.unpack (args.getD 0 (.tuple #[]))) Tryd.func60 (by kernel_rfl) (by kernel_rfl) (by kernel_rfl) (by kernel_rfl)
  have hS := @run_callFunc_extern Tryd.prog 66 _ ReflectliteValue.set Tryd.func66 (by kernel_rfl) (by kernel_rfl) (by kernel_rfl) (by kernel_rfl)
  have f1 := rfTypeOfErr
  have f2 := rfAssignErr
  have f3 := rfValueOfErr
  have el := rfElemV a t (w.alloc (.cells #[.pointer (some ⟨2, 107, none⟩), .pointer (some a), .int .u64 150] 111)) (by rw [World.cell?_alloc_lt _ _ a al]; exact ha)
  have st := rfSet t ⟨w.heap.size + 1, 0, none⟩ n old ((w.alloc (.cells #[.pointer (some ⟨2, 107, none⟩), .pointer (some a), .int .u64 150] 111)).alloc (.cells #[.int .i64 n] 48))
    (by rw [World.cell?_alloc_at _ _ _ _ (by simp)]; rfl)
    (by rw [World.cell?_alloc_lt _ _ t (by simp; omega), World.cell?_alloc_lt _ _ t tl]; exact ht)
    (by rw [World.frozen?_alloc_old _ _ t (by simp; omega), World.frozen?_alloc_old _ _ t (Nat.ne_of_lt tl)]; exact hf)
  go_enter Tryd.func63, Tryd.ntmps63
  go_wp2
  refine wp_loop_rounds 1 ?_
  rw [rounds_succ]
  go_wp2
  go_ret
  refine ⟨rfl, ?_, ?_⟩
  · exact cell_set_same _ t _ old (by rw [World.cell?_alloc_lt _ _ t (by simp; omega), World.cell?_alloc_lt _ _ t tl]; exact ht)
  · exact (((Below.refl t.block w).alloc (by omega) _).alloc (by simp; omega) _).setCell (Nat.le_refl _) _

set_option maxRecDepth 100000 in
set_option maxHeartbeats 4000000 in
theorem as_at (p : Nat) (n : Int) (t a : Addr) (old : Value) (w : World) (hp : w.cell? ⟨p, 0, none⟩ = some (.int .i64 n)) (ha : w.cell? a = some (.pointer (some t))) (ht : w.cell? t = some old) (hf : w.frozen? t = false) :
    Calls Tryd.prog 63 #[.iface 96 (.pointer (some ⟨p, 0, none⟩)), .iface 107 (.pointer (some t)), rfV a, rfT] w fun e w' => e = .returned (.bool true) ∧ w'.cell? t = some (.int .i64 n) ∧ Below t.block w w' := by
  have tl := World.block_lt_of_cell? w _ ht
  have al := World.block_lt_of_cell? w _ ha
  have hT := @run_callFunc_extern Tryd.prog 64 _ ReflectliteType.typeOf Tryd.func64 (by kernel_rfl) (by kernel_rfl) (by kernel_rfl) (by kernel_rfl)
  have hA := @run_callFunc_extern Tryd.prog 91 _ (ReflectliteType.relation "AssignableTo" ReflectliteType.assignableTo) Tryd.func91 (by kernel_rfl) (by kernel_rfl) (by kernel_rfl) (by kernel_rfl)
  have hE := @run_callFunc_extern Tryd.prog 65 _ (ReflectliteValue.method (ReflectliteValue.valueError "reflectlite.Value.Elem" 0) ReflectliteValue.elem) Tryd.func65 (by kernel_rfl) (by kernel_rfl) (by kernel_rfl) (by kernel_rfl)
  have hV := @run_callFunc_extern Tryd.prog 60 _ (fun args => ReflectliteValue.unpack (args.getD 0 (.tuple #[]))) Tryd.func60 (by kernel_rfl) (by kernel_rfl) (by kernel_rfl) (by kernel_rfl)
  have hS := @run_callFunc_extern Tryd.prog 66 _ ReflectliteValue.set Tryd.func66 (by kernel_rfl) (by kernel_rfl) (by kernel_rfl) (by kernel_rfl)
  have f1 := rfTypeOfErr
  have f4 := rfTypeOfAt
  have f5 := rfAssignAt
  have f6 := taAtAs
  have f7 := taAtUnwrap
  have pl := World.block_lt_of_cell? w _ hp
  have f2 := rfAssignErr
  have f3 := rfValueOfErr
  have el := rfElemV a t (w.alloc (.cells #[.pointer (some ⟨2, 107, none⟩), .pointer (some a), .int .u64 150] 111)) (by rw [World.cell?_alloc_lt _ _ a al]; exact ha)
  have st := rfSet t ⟨w.heap.size + 1, 0, none⟩ n old ((w.alloc (.cells #[.pointer (some ⟨2, 107, none⟩), .pointer (some a), .int .u64 150] 111)).alloc (.cells #[.int .i64 n] 48))
    (by rw [World.cell?_alloc_at _ _ _ _ (by simp)]; rfl)
    (by rw [World.cell?_alloc_lt _ _ t (by simp; omega), World.cell?_alloc_lt _ _ t tl]; exact ht)
    (by rw [World.frozen?_alloc_old _ _ t (by simp; omega), World.frozen?_alloc_old _ _ t (Nat.ne_of_lt tl)]; exact hf)
  go_enter Tryd.func63, Tryd.ntmps63
  go_wp2
  refine wp_loop_rounds 2 ?_
  rw [rounds_succ]
  go_wp2
  rw [rounds_succ]
  go_wp2
  go_ret
  refine ⟨rfl, ?_, ?_⟩
  · exact cell_set_same _ t _ old (by rw [World.cell?_alloc_lt _ _ t (by simp; omega), World.cell?_alloc_lt _ _ t tl]; exact ht)
  · exact (((Below.refl t.block w).alloc (by omega) _).alloc (by simp; omega) _).setCell (Nat.le_refl _) _

/-- the library's variable holds error's type -/
def ErrType (w : World) : Prop := w.cell? ⟨0, 0, none⟩ = some (.iface 122 (.agg #[.pointer (some ⟨2, 45, none⟩)]))
theorem ErrType.later {w w' : World} (h : ErrType w) (hb : Below w.heap.size w w') : ErrType w' :=
  (hb.cell (World.block_lt_of_cell? w _ h)).trans h
def AsHit (x : Value) (n : Int) : Prop := ∀ (t a : Addr) (old : Value) (w : World), (w.cell? a = some (.pointer (some t))) → (w.cell? t = some old) → (w.frozen? t = false) →
    Calls Tryd.prog 63 #[x, .iface 107 (.pointer (some t)), rfV a, rfT] w fun e w' => e = .returned (.bool true) ∧ w'.cell? t = some (.int .i64 n) ∧ Below t.block w w'

set_option maxRecDepth 100000 in
set_option maxHeartbeats 4000000 in
theorem As_hit (T : TypeId) (v : Value) (n : Int) (t : Addr) (old : Value) (w : World) (hx : ∀ (a : Addr) (w1 : World), Below w.heap.size w w1 → (w1.cell? a = some (.pointer (some t))) →
      Calls Tryd.prog 63 #[.iface T v, .iface 107 (.pointer (some t)), rfV a, rfT] w1 fun e w' => e = .returned (.bool true) ∧ w'.cell? t = some (.int .i64 n) ∧ Below t.block w1 w')
    (hg : ErrType w) (ht : w.cell? t = some old) :
    Calls Tryd.prog 58 #[.iface T v, .iface 107 (.pointer (some t))] w fun e w' => e = .returned (.bool true) ∧ w'.cell? t = some (.int .i64 n) ∧ Below t.block w w' := by
  have tl := World.block_lt_of_cell? w _ ht
  have gl := World.block_lt_of_cell? w _ hg
  have gl' : 0 < w.heap.size := gl
  have hV := @run_callFunc_extern Tryd.prog 60 _ (fun args => ReflectliteValue.unpack (args.getD 0 (.tuple #[]))) Tryd.func60 (by kernel_rfl) (by kernel_rfl) (by kernel_rfl) (by kernel_rfl)
  have hT := @run_callFunc_extern Tryd.prog 61 _ (ReflectliteValue.methodAny (ReflectliteValue.valueError "reflectlite.Value.Type" 0) (fun t _ _ _ => ReflectliteType.toType t)) Tryd.func61 (by kernel_rfl) (by kernel_rfl) (by kernel_rfl) (by kernel_rfl)
  have hN := @run_callFunc_extern Tryd.prog 62 _ (ReflectliteValue.method (ReflectliteValue.valueError "reflectlite.Value.IsNil" 0) ReflectliteValue.isNil) Tryd.func62 (by kernel_rfl) (by kernel_rfl) (by kernel_rfl) (by kernel_rfl)
  have hK := @run_callFunc_extern Tryd.prog 81 _ (ReflectliteType.abiMethod fun t => do pure (.int .u8 (← Rtype.kind t))) Tryd.func81 (by kernel_rfl) (by kernel_rfl) (by kernel_rfl) (by kernel_rfl)
  have hE := @run_callFunc_extern Tryd.prog 93 _ (ReflectliteType.method ReflectliteType.elem) Tryd.func93 (by kernel_rfl) (by kernel_rfl) (by kernel_rfl) (by kernel_rfl)
  have hI := @run_callFunc_extern Tryd.prog 94 _ (ReflectliteType.relation "Implements" ReflectliteType.implements_) Tryd.func94 (by kernel_rfl) (by kernel_rfl) (by kernel_rfl) (by kernel_rfl)
  have f1 := rfValueOfPtr
  have f2 := rfTypePtr
  have f3 := rfKindPtr
  have f4 := rfKindErr
  have f5 := rfElemType
  have f6 := rfImplements
  have n8 := rfIsNil ⟨w.heap.size, 0, none⟩ t ((w.alloc (.cells #[.pointer (some t)] 107)).alloc (.cells #[.pointer (some ⟨2, 107, none⟩), .pointer (some ⟨w.heap.size, 0, none⟩), .int .u64 150] 111)) (by simp)
  have hg2 : ((w.alloc (.cells #[.pointer (some t)] 107)).alloc (.cells #[.pointer (some ⟨2, 107, none⟩), .pointer (some ⟨w.heap.size, 0, none⟩), .int .u64 150] 111)).cell? ⟨0, 0, none⟩ = some (.iface 122 (.agg #[.pointer (some ⟨2, 45, none⟩)])) := by
    rw [World.cell?_alloc_lt _ _ ⟨0, 0, none⟩ (by rw [World.size_alloc]; exact Nat.lt_succ_of_lt gl'), World.cell?_alloc_lt _ _ ⟨0, 0, none⟩ gl]; exact hg
  go_enter Tryd.func58, Tryd.ntmps58
  go_wp2_with fail
  refine (hx ⟨w.heap.size, 0, none⟩ _ (((Below.refl _ _).alloc (Nat.le_refl _) _).alloc (by simp) _) (by rw [World.cell?_alloc_lt _ _ _ (by simp), World.cell?_alloc_at _ _ _ _ rfl]; rfl)).mono ?_
  rintro e w1 ⟨rfl, hc, hB⟩
  go_wp2
  go_ret
  exact ⟨rfl, hc, (((Below.refl t.block w).alloc (by omega) _).alloc (by simp; omega) _).trans hB⟩

set_option maxRecDepth 100000 in
theorem tell_nil (w : World) : Calls Tryd.prog 52 #[.nilIface] w fun e w' => e = .returned (.int .i64 0) ∧ Below w.heap.size w w' := by
  go_enter Tryd.func52, Tryd.ntmps52
  go_wp2
  go_ret
  exact ⟨rfl, Below.refl _ _⟩

set_option maxRecDepth 100000 in
set_option maxHeartbeats 1000000 in
theorem tell_of (T : TypeId) (v : Value) (n : Int) (w : World) (hg : ErrType w) (hx : ∀ (t a : Addr) (old : Value) (w1 : World), Below w.heap.size w w1 → (w1.cell? a = some (.pointer (some t))) → (w1.cell? t = some old) → (w1.frozen? t = false) →
      Calls Tryd.prog 63 #[.iface T v, .iface 107 (.pointer (some t)), rfV a, rfT] w1 fun e w' => e = .returned (.bool true) ∧ w'.cell? t = some (.int .i64 n) ∧ Below t.block w1 w') :
    Calls Tryd.prog 52 #[.iface T v] w fun e w' => e = .returned (.int .i64 n) ∧ Below w.heap.size w w' := by
  have hB0 : Below w.heap.size w (w.alloc (.cells #[.int .i64 0] 48)) := (Below.refl _ _).alloc (Nat.le_refl _) _
  have hc0 : (w.alloc (.cells #[.int .i64 0] 48)).cell? ⟨w.heap.size, 0, none⟩ = some (.int .i64 0) := by rw [World.cell?_alloc_at _ _ _ _ rfl]; rfl
  have hA := As_hit T v n ⟨w.heap.size, 0, none⟩ (.int .i64 0) _ (fun a w1 hb ha => hx _ a (.int .i64 0) w1 (hB0.then (Nat.le_refl _) hb) ha
    ((hb.cell (p := ⟨w.heap.size, 0, none⟩) (by simp)).trans hc0) ((hb.frozen (p := ⟨w.heap.size, 0, none⟩) (by simp)).trans (by simp [World.frozen?_alloc_mark]))) (hg.later hB0) hc0
  have HA := Lib.hid hA
  clear hA
  go_enter Tryd.func52, Tryd.ntmps52
  go_wp2_with fail
  refine HA.out.mono ?_
  rintro e w1 ⟨rfl, hc, hB⟩
  go_wp2
  go_ret
  exact ⟨rfl, hB0.trans hB⟩

theorem tell_errno (n : Int) (w : World) (hg : ErrType w) : Calls Tryd.prog 52 #[.iface 48 (.int .i64 n)] w fun e w' => e = .returned (.int .i64 n) ∧ Below w.heap.size w w' :=
  tell_of _ _ n w hg fun t a old w1 _ ha ht hf => as_errno n t a old w1 ha ht hf
theorem tell_at (p : Nat) (n : Int) (w : World) (hg : ErrType w) (hp : w.cell? ⟨p, 0, none⟩ = some (.int .i64 n)) : Calls Tryd.prog 52 #[.iface 96 (.pointer (some ⟨p, 0, none⟩))] w fun e w' => e = .returned (.int .i64 n) ∧ Below w.heap.size w w' :=
  tell_of _ _ n w hg fun t a old w1 hb ha ht hf => as_at p n t a old w1 ((hb.cell (p := ⟨p, 0, none⟩) (World.block_lt_of_cell? w _ hp)).trans hp) ha ht hf

end Go.Proofs.YtchgpdgigpaloaaDoor
/- plain.Place, and the statements' bare and placed: what an error is. -/
namespace Go.Proofs.YtchgpdgigpaloaaDoor
open Go.RowKit

set_option maxRecDepth 100000 in
theorem place_nil (w : World) : Calls Tryd.prog 34 #[.nilIface] w fun e w' => e = .returned (.tuple #[.int .i64 0, .int .i64 (-1)]) ∧ Below w.heap.size w w' := by
  go_enter Tryd.func34, Tryd.ntmps34
  go_wp2_with fail
  refine (tell_nil w).mono ?_
  rintro e w1 ⟨rfl, hB⟩
  go_wp2
  refine wp_loop_rounds 1 ?_
  rw [rounds_succ]
  go_wp2
  go_ret2
  exact ⟨rfl, hB⟩

set_option maxRecDepth 100000 in
theorem place_errno (n : Int) (w : World) (hg : ErrType w) : Calls Tryd.prog 34 #[.iface 48 (.int .i64 n)] w fun e w' => e = .returned (.tuple #[.int .i64 n, .int .i64 (-1)]) ∧ Below w.heap.size w w' := by
  have f1 := taErrAt
  have f2 := taErrUnwrap
  go_enter Tryd.func34, Tryd.ntmps34
  go_wp2_with fail
  refine (tell_errno n w hg).mono ?_
  rintro e w1 ⟨rfl, hB⟩
  go_wp2
  refine wp_loop_rounds 1 ?_
  rw [rounds_succ]
  go_wp2
  go_ret2
  exact ⟨rfl, hB⟩

set_option maxRecDepth 100000 in
theorem place_at (p : Nat) (n m : Int) (w : World) (hg : ErrType w) (hp : w.cell? ⟨p, 0, none⟩ = some (.int .i64 n)) (hm : w.cell? ⟨p, 1, none⟩ = some (.int .i64 m)) :
    Calls Tryd.prog 34 #[.iface 96 (.pointer (some ⟨p, 0, none⟩))] w fun e w' => e = .returned (.tuple #[.int .i64 n, .int .i64 m]) ∧ Below w.heap.size w w' := by
  have f1 := taAtAt
  go_enter Tryd.func34, Tryd.ntmps34
  go_wp2_with fail
  refine (tell_at p n w hg hp).mono ?_
  rintro e w1 ⟨rfl, hB⟩
  have hm1 := (hB.cell (p := ⟨p, 1, none⟩) (World.block_lt_of_cell? w _ hm)).trans hm
  go_wp2
  refine wp_loop_rounds 1 ?_
  rw [rounds_succ]
  go_wp2
  go_quiet (fail)
  go_wp2
  go_ret2
  exact ⟨rfl, below_drewN hB _⟩

/-- the error x is number n at place m (0 and -1: none) -/
def ErrIs (w : World) (x : Value) (n m : Int) : Prop :=
  (x = .nilIface ∧ n = 0 ∧ m = -1) ∨ (x = .iface 48 (.int .i64 n) ∧ m = -1) ∨
  ∃ p, x = .iface 96 (.pointer (some ⟨p, 0, none⟩)) ∧ w.cell? ⟨p, 0, none⟩ = some (.int .i64 n) ∧ w.cell? ⟨p, 1, none⟩ = some (.int .i64 m)
theorem ErrIs.none (w : World) : ErrIs w .nilIface 0 (-1) := .inl ⟨rfl, rfl, rfl⟩
theorem ErrIs.num (w : World) (n : Int) : ErrIs w (.iface 48 (.int .i64 n)) n (-1) := .inr (.inl ⟨rfl, rfl⟩)
theorem ErrIs.later {w w' : World} {x : Value} {n m : Int} (h : ErrIs w x n m) (hb : Below w.heap.size w w') : ErrIs w' x n m := by
  rcases h with h | h | ⟨p, h, h0, h1⟩
  · exact .inl h
  · exact .inr (.inl h)
  · exact .inr (.inr ⟨p, h, (hb.cell (World.block_lt_of_cell? w _ h0)).trans h0, (hb.cell (World.block_lt_of_cell? w _ h1)).trans h1⟩)
theorem place_is {x : Value} {n m : Int} {w : World} (hg : ErrType w) (hx : ErrIs w x n m) :
    Calls Tryd.prog 34 #[x] w fun e w' => e = .returned (.tuple #[.int .i64 n, .int .i64 m]) ∧ Below w.heap.size w w' := by
  rcases hx with ⟨rfl, rfl, rfl⟩ | ⟨rfl, rfl⟩ | ⟨p, rfl, h0, h1⟩
  · exact place_nil w
  · exact place_errno n w hg
  · exact place_at p n m w hg h0 h1

set_option maxRecDepth 100000 in
theorem bare_is {x : Value} {n m : Int} (k : Int) {w : World} (hg : ErrType w) (hx : ErrIs w x n m) :
    Calls Tryd.prog 8 #[x, .int .i64 k] w fun e w' => e = .returned (.bool ((n == k) && (m == -1))) ∧ Below w.heap.size w w' := by
  go_enter Tryd.func8, Tryd.ntmps8
  go_wp2_with fail
  refine (place_is hg hx).mono ?_
  rintro e w1 ⟨rfl, hB⟩
  go_wp2
  all_goals go_ret
  all_goals exact ⟨ret_bool (by simp [*]), hB⟩

end Go.Proofs.YtchgpdgigpaloaaDoor
