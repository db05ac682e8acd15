/- Merged out of Err ErrAs Place. -/
import Derived.Test.YtnfcdccdmlodeaaGreatDoorFound
import Derived.LaidEql
import Derived.Stop.Asserts
import Derived.RowKitTokens
import Derived.Deep.QuietTactic
import Derived.BigQuiet
/- errors.As at the program's own error numbers; api.Tell and plain.Place at nil, at a number, at a number with a place. (After the kit's worked text on errors.As at a concrete target.) -/
namespace Go.Proofs.YtnfcdccdmlodeaaGreatDoor
open Go.RowKit Go.Extern.Stop Go.Stop Go.Extern

set_option maxRecDepth 100000

theorem rfKindErr (w : World) : ((ReflectliteType.abiMethod fun t => (fun a : Nat => Value.int IntKind.u8 (a : Int)) <$> Rtype.kind t) #[.pointer (some ⟨13, 130, none⟩)]).run Tryz.prog w = .ok (.int .u8 2) w := by kernel_rfl
theorem rlm (z : Sem Value) (f : TypeId → Addr → Nat → Nat → Sem Value) (v : Value) :
    ReflectliteValue.method z f #[v] = (do match ← ReflectliteValue.parts v with | none => z | some (t, a, fl) => f t a fl (fl % 32)) := rfl
theorem rfValueOfErr (n : Int) (w : World) : (ReflectliteValue.unpack (.iface 130 (.int .i64 n))).run Tryz.prog w
    = .ok (.agg #[.pointer (some ⟨13, 130, none⟩), .pointer (some ⟨w.heap.size, 0, none⟩), .int .u64 130]) (w.alloc (.cells #[.int .i64 n] 130)) := by kernel_rfl
theorem rfMk (p : Addr) (w : World) : (ReflectliteValue.mk 130 p ReflectliteValue.flagAddr).run Tryz.prog w = .ok (.agg #[.pointer (some ⟨13, 130, none⟩), .pointer (some p), .int .u64 386]) w := by kernel_rfl
theorem rls : ∃ (z1 : Sem Value) (z2 : Sem Value) (rest : TypeId → TypeId → Addr → Value → Sem Value), ∀ v x, ReflectliteValue.set #[v, x] = (do
    let (some (dst, a, fl), some (src, b, _)) := (← ReflectliteValue.parts v, ← ReflectliteValue.parts x) | z1
    if fl / ReflectliteValue.flagAddr % 2 == 0 then z2
    else
      let val ← loadVar src b
      if ← Rtype.directlyAssignable dst src then (do storeVar dst a val; pure (.tuple #[]))
      else rest dst src a val) := ⟨_, _, _, fun _ _ => rfl⟩
theorem rfPartsA (a : Addr) (w : World) : (ReflectliteValue.parts (.agg #[.pointer (some ⟨13, 130, none⟩), .pointer (some a), .int .u64 386])).run Tryz.prog w = .ok (some (130, a, 386)) w := by kernel_rfl
theorem rfPartsB (a : Addr) (w : World) : (ReflectliteValue.parts (.agg #[.pointer (some ⟨13, 130, none⟩), .pointer (some a), .int .u64 130])).run Tryz.prog w = .ok (some (130, a, 130)) w := by kernel_rfl
theorem rfDirect (w : World) : (Rtype.directlyAssignable 130 130).run Tryz.prog w = .ok true w := by kernel_rfl
theorem rfSet (ta b : Addr) (n : Int) (old : Value) (W : World) (hb : W.cell? b = some (.int .i64 n)) (ht : W.cell? ta = some old) (hf : W.frozen? ta = false) :
    (ReflectliteValue.set #[.agg #[.pointer (some ⟨13, 130, none⟩), .pointer (some ta), .int .u64 386], .agg #[.pointer (some ⟨13, 130, none⟩), .pointer (some b), .int .u64 130]]).run Tryz.prog W
      = .ok (.tuple #[]) (W.setCell ta (.int .i64 n)) := by
  obtain ⟨z1, z2, rest, hr⟩ := rls
  rw [hr]
  simp only [Sem.run_bind, rfPartsA, rfPartsB, Result.andThen]
  simp [ReflectliteValue.flagAddr, loadVar, isAgg, underlying, Tryz.underlying130, hb, Result.andThen, rfDirect, storeVar, Value.cells, storeCells, Addr.add]
  rw [run_store Tryz.prog W ta _ _ (by rfl)]
  simp [ht, hf]

theorem taErrAt (v : Value) (xT : TypeId) (w : World) : (Instr.typeAssert (.iface 130 v) xT 244 true).run Tryz.prog w = .ok (.tuple #[.pointer none, .bool false]) w := by kernel_rfl
theorem taAtAt (v : Value) (xT : TypeId) (w : World) : (Instr.typeAssert (.iface 244 v) xT 244 true).run Tryz.prog w = .ok (.tuple #[v, .bool true]) w := by kernel_rfl

end Go.Proofs.YtnfcdccdmlodeaaGreatDoor
/- errors.As at the program's own error numbers: errors.as, errors.As. -/
namespace Go.Proofs.YtnfcdccdmlodeaaGreatDoor
open Go.RowKit Go.Extern.Stop Go.Stop Go.Extern

theorem cell_set_same (w : World) (a : Addr) (v old : Value) (h : w.cell? a = some old) : (w.setCell a v).cell? a = some v := by
  obtain ⟨b, off, sp⟩ := a
  unfold World.cell? at h ⊢
  split at h
  case h_2 => cases h
  case h_1 c T fr hb =>
    cases sp with
    | some x => simp at h
    | none =>
      have : (w.setCell ⟨b, off, none⟩ v).heap[b]? = some (.cells (c.setIfInBounds off v) T fr) := by
        show (w.heap.modify b _)[b]? = _
        rw [Array.getElem?_modify, if_pos rfl, hb]; rfl
      simp at h
      rw [this]
      have hlt := (Array.getElem?_eq_some_iff.1 h).1
      simp [hlt]

end Go.Proofs.YtnfcdccdmlodeaaGreatDoor
/- plain.Place, and the statements' bare and placed: what an error is. -/
namespace Go.Proofs.YtnfcdccdmlodeaaGreatDoor
open Go.RowKit

/-- the error x is number n at place m (0 and -1: none) -/
def ErrIs (w : World) (x : Value) (n m : Int) : Prop :=
  (x = .nilIface ∧ n = 0 ∧ m = -1) ∨ (x = .iface 130 (.int .i64 n) ∧ m = -1) ∨
  ∃ p, x = .iface 244 (.pointer (some ⟨p, 0, none⟩)) ∧ w.cell? ⟨p, 0, none⟩ = some (.int .i64 n) ∧ w.cell? ⟨p, 1, none⟩ = some (.int .i64 m)
theorem ErrIs.none (w : World) : ErrIs w .nilIface 0 (-1) := .inl ⟨rfl, rfl, rfl⟩
theorem ErrIs.num (w : World) (n : Int) : ErrIs w (.iface 130 (.int .i64 n)) n (-1) := .inr (.inl ⟨rfl, rfl⟩)
theorem ErrIs.later {w w' : World} {x : Value} {n m : Int} (h : ErrIs w x n m) (hb : Below w.heap.size w w') : ErrIs w' x n m := by
  rcases h with h | h | ⟨p, h, h0, h1⟩
  · exact .inl h
  · exact .inr (.inl h)
  · exact .inr (.inr ⟨p, h, (hb.cell (World.block_lt_of_cell? w _ h0)).trans h0, (hb.cell (World.block_lt_of_cell? w _ h1)).trans h1⟩)
end Go.Proofs.YtnfcdccdmlodeaaGreatDoor
