/- errors.As at the program's own error numbers; api.Tell and plain.Place at nil, at a number, at a number with a place. (After the kit's worked text on errors.As at a concrete target.) -/
import Derived.Test.YtmpgamnpmgedkaaDoorBase
import Derived.LaidEql
import Derived.Stop.Asserts
import Derived.RowKitTokens
import Derived.Deep.QuietTactic
import Derived.BigQuiet
namespace Go.Proofs.YtmpgamnpmgedkaaDoor
open Go.RowKit Go.Extern.Stop Go.Stop Go.Extern

set_option maxRecDepth 100000

theorem rfValueOfPtr (t : Addr) (w : World) : (ReflectliteValue.unpack (.iface 267 (.pointer (some t)))).run Tryd.prog w
    = .ok (.agg #[.pointer (some ⟨22, 267, none⟩), .pointer (some ⟨w.heap.size, 0, none⟩), .int .u64 150]) (w.alloc (.cells #[.pointer (some t)] 267)) := by kernel_rfl
theorem rfTypePtr (a : Addr) (w : World) : (ReflectliteValue.methodAny (ReflectliteValue.valueError "reflectlite.Value.Type" 0) (fun t _ _ _ => ReflectliteType.toType t) #[.agg #[.pointer (some ⟨22, 267, none⟩), .pointer (some a), .int .u64 150]]).run Tryd.prog w
    = .ok (.iface 326 (.agg #[.pointer (some ⟨22, 267, none⟩)])) w := by kernel_rfl
theorem rfKindPtr (w : World) : ((ReflectliteType.abiMethod fun t => (fun a : Nat => Value.int IntKind.u8 (a : Int)) <$> Rtype.kind t) #[.pointer (some ⟨22, 267, none⟩)]).run Tryd.prog w = .ok (.int .u8 22) w := by kernel_rfl
theorem rfKindErr (w : World) : ((ReflectliteType.abiMethod fun t => (fun a : Nat => Value.int IntKind.u8 (a : Int)) <$> Rtype.kind t) #[.pointer (some ⟨22, 36, none⟩)]).run Tryd.prog w = .ok (.int .u8 2) w := by kernel_rfl
theorem rlm (z : Sem Value) (f : TypeId → Addr → Nat → Nat → Sem Value) (v : Value) :
    ReflectliteValue.method z f #[v] = (do match ← ReflectliteValue.parts v with | none => z | some (t, a, fl) => f t a fl (fl % 32)) := rfl
theorem rfPartsPtr (a : Addr) (w : World) : (ReflectliteValue.parts (.agg #[.pointer (some ⟨22, 267, none⟩), .pointer (some a), .int .u64 150])).run Tryd.prog w = .ok (some (267, a, 150)) w := by kernel_rfl
theorem rfIsNil (a p : Addr) (W : World) (ha : W.cell? a = some (.pointer (some p))) :
    (ReflectliteValue.method (ReflectliteValue.valueError "reflectlite.Value.IsNil" 0) ReflectliteValue.isNil #[.agg #[.pointer (some ⟨22, 267, none⟩), .pointer (some a), .int .u64 150]]).run Tryd.prog W = .ok (.bool false) W := by
  rw [rlm]
  simp only [Sem.run_bind, rfPartsPtr, Result.andThen]
  simp [ReflectliteValue.isNil, loadVar, isAgg, underlying, Tryd.underlying267, ha, Result.andThen]
theorem rfElemType (w : World) : (ReflectliteType.method ReflectliteType.elem #[.agg #[.pointer (some ⟨22, 267, none⟩)]]).run Tryd.prog w = .ok (.iface 326 (.agg #[.pointer (some ⟨22, 36, none⟩)])) w := by kernel_rfl
theorem rfImplements (w : World) : (ReflectliteType.relation "Implements" ReflectliteType.implements_ #[.agg #[.pointer (some ⟨22, 36, none⟩)], .iface 326 (.agg #[.pointer (some ⟨22, 42, none⟩)])]).run Tryd.prog w = .ok (.bool true) w := by kernel_rfl
theorem rfTypeOfErr (v : Value) (w : World) : (ReflectliteType.typeOf #[.iface 36 v]).run Tryd.prog w = .ok (.iface 326 (.agg #[.pointer (some ⟨22, 36, none⟩)])) w := by kernel_rfl
theorem rfAssignErr (w : World) : (ReflectliteType.relation "AssignableTo" ReflectliteType.assignableTo #[.agg #[.pointer (some ⟨22, 36, none⟩)], .iface 326 (.agg #[.pointer (some ⟨22, 36, none⟩)])]).run Tryd.prog w = .ok (.bool true) w := by kernel_rfl
theorem rfValueOfErr (n : Int) (w : World) : (ReflectliteValue.unpack (.iface 36 (.int .i64 n))).run Tryd.prog w
    = .ok (.agg #[.pointer (some ⟨22, 36, none⟩), .pointer (some ⟨w.heap.size, 0, none⟩), .int .u64 130]) (w.alloc (.cells #[.int .i64 n] 36)) := by kernel_rfl
theorem rfElemOf (w : World) : (Rtype.elem? 267).run Tryd.prog w = .ok (some 36) w := by kernel_rfl
theorem rfMk (p : Addr) (w : World) : (ReflectliteValue.mk 36 p ReflectliteValue.flagAddr).run Tryd.prog w = .ok (.agg #[.pointer (some ⟨22, 36, none⟩), .pointer (some p), .int .u64 386]) w := by kernel_rfl
theorem rfElemV (a p : Addr) (W : World) (ha : W.cell? a = some (.pointer (some p))) :
    (ReflectliteValue.method (ReflectliteValue.valueError "reflectlite.Value.Elem" 0) ReflectliteValue.elem #[.agg #[.pointer (some ⟨22, 267, none⟩), .pointer (some a), .int .u64 150]]).run Tryd.prog W
      = .ok (.agg #[.pointer (some ⟨22, 36, none⟩), .pointer (some p), .int .u64 386]) W := by
  rw [rlm]
  simp only [Sem.run_bind, rfPartsPtr, Result.andThen]
  simp [ReflectliteValue.elem, loadVar, isAgg, underlying, Tryd.underlying267, ha, Result.andThen, rfElemOf, rfMk]
theorem rls : ∃ (z1 : Sem Value) (z2 : Sem Value) (rest : TypeId → TypeId → Addr → Value → Sem Value), ∀ v x, ReflectliteValue.set #[v, x] = (do
    let (some (dst, a, fl), some (src, b, _)) := (← ReflectliteValue.parts v, ← ReflectliteValue.parts x) | z1
    if fl / ReflectliteValue.flagAddr % 2 == 0 then z2
    else
      let val ← loadVar src b
      if ← Rtype.directlyAssignable dst src then (do storeVar dst a val; pure (.tuple #[]))
      else rest dst src a val) := ⟨_, _, _, fun _ _ => rfl⟩
theorem rfPartsA (a : Addr) (w : World) : (ReflectliteValue.parts (.agg #[.pointer (some ⟨22, 36, none⟩), .pointer (some a), .int .u64 386])).run Tryd.prog w = .ok (some (36, a, 386)) w := by kernel_rfl
theorem rfPartsB (a : Addr) (w : World) : (ReflectliteValue.parts (.agg #[.pointer (some ⟨22, 36, none⟩), .pointer (some a), .int .u64 130])).run Tryd.prog w = .ok (some (36, a, 130)) w := by kernel_rfl
theorem rfDirect (w : World) : (Rtype.directlyAssignable 36 36).run Tryd.prog w = .ok true w := by kernel_rfl
theorem rfSet (ta b : Addr) (n : Int) (old : Value) (W : World) (hb : W.cell? b = some (.int .i64 n)) (ht : W.cell? ta = some old) (hf : W.frozen? ta = false) :
    (ReflectliteValue.set #[.agg #[.pointer (some ⟨22, 36, none⟩), .pointer (some ta), .int .u64 386], .agg #[.pointer (some ⟨22, 36, none⟩), .pointer (some b), .int .u64 130]]).run Tryd.prog W
      = .ok (.tuple #[]) (W.setCell ta (.int .i64 n)) := by
  obtain ⟨z1, z2, rest, hr⟩ := rls
  rw [hr]
  simp only [Sem.run_bind, rfPartsA, rfPartsB, Result.andThen]
  simp [ReflectliteValue.flagAddr, loadVar, isAgg, underlying, Tryd.underlying36, hb, Result.andThen, rfDirect, storeVar, Value.cells, storeCells, Addr.add]
  rw [run_store Tryd.prog W ta _ _ (by rfl)]
  simp [ht, hf]

theorem rfTypeOfAt (v : Value) (w : World) : (ReflectliteType.typeOf #[.iface 187 v]).run Tryd.prog w = .ok (.iface 326 (.agg #[.pointer (some ⟨22, 187, none⟩)])) w := by kernel_rfl
theorem rfAssignAt (w : World) : (ReflectliteType.relation "AssignableTo" ReflectliteType.assignableTo #[.agg #[.pointer (some ⟨22, 187, none⟩)], .iface 326 (.agg #[.pointer (some ⟨22, 36, none⟩)])]).run Tryd.prog w = .ok (.bool false) w := by kernel_rfl

theorem taAtAs (v : Value) (xT : TypeId) (w : World) : (Instr.typeAssert (.iface 187 v) xT 331 true).run Tryd.prog w = .ok (.tuple #[.nilIface, .bool false]) w :=
  run_typeAssert_lacksB Tryd.underlying331 (by kernel_rfl) (by kernel_rfl) v xT w
theorem taAtUnwrap (v : Value) (xT : TypeId) (w : World) : (Instr.typeAssert (.iface 187 v) xT 234 true).run Tryd.prog w = .ok (.tuple #[.iface 187 v, .bool true]) w :=
  run_typeAssert_hasB Tryd.underlying234 (by kernel_rfl) v xT w
theorem taErrUnwrap (v : Value) (xT : TypeId) (w : World) : (Instr.typeAssert (.iface 36 v) xT 234 true).run Tryd.prog w = .ok (.tuple #[.nilIface, .bool false]) w :=
  run_typeAssert_lacksB Tryd.underlying234 (by kernel_rfl) (by kernel_rfl) v xT w
theorem taErrAt (v : Value) (xT : TypeId) (w : World) : (Instr.typeAssert (.iface 36 v) xT 187 true).run Tryd.prog w = .ok (.tuple #[.pointer none, .bool false]) w := by kernel_rfl
theorem taAtAt (v : Value) (xT : TypeId) (w : World) : (Instr.typeAssert (.iface 187 v) xT 187 true).run Tryd.prog w = .ok (.tuple #[v, .bool true]) w := by kernel_rfl

end Go.Proofs.YtmpgamnpmgedkaaDoor
