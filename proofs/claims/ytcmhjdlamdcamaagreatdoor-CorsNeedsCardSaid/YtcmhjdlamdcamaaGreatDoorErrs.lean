/- Merged out of Err ErrAs Place. -/
import Derived.Test.YtcmhjdlamdcamaaGreatDoorFound
import Derived.LaidEql
import Derived.Stop.Asserts
import Derived.RowKitTokens
import Derived.Deep.QuietTactic
import Derived.BigQuiet
/- errors.As at the program's own error numbers; api.Tell and plain.Place at nil, at a number, at a number with a place. (After the kit's worked text on errors.As at a concrete target.) -/
namespace Go.Proofs.YtcmhjdlamdcamaaGreatDoor
open Go.RowKit Go.Extern.Stop Go.Stop Go.Extern

set_option maxRecDepth 100000

theorem rlm (z : Sem Value) (f : TypeId → Addr → Nat → Nat → Sem Value) (v : Value) :
    ReflectliteValue.method z f #[v] = (do match ← ReflectliteValue.parts v with | none => z | some (t, a, fl) => f t a fl (fl % 32)) := rfl
theorem rls : ∃ (z1 : Sem Value) (z2 : Sem Value) (rest : TypeId → TypeId → Addr → Value → Sem Value), ∀ v x, ReflectliteValue.set #[v, x] = (do
    let (some (dst, a, fl), some (src, b, _)) := (← ReflectliteValue.parts v, ← ReflectliteValue.parts x) | z1
    if fl / ReflectliteValue.flagAddr % 2 == 0 then z2
    else
      let val ← loadVar src b
      if ← Rtype.directlyAssignable dst src then (do storeVar dst a val; pure (.tuple #[]))
      else rest dst src a val) := ⟨_, _, _, fun _ _ => rfl⟩
end Go.Proofs.YtcmhjdlamdcamaaGreatDoor
/- errors.As at the program's own error numbers: errors.as, errors.As. -/
namespace Go.Proofs.YtcmhjdlamdcamaaGreatDoor
open Go.RowKit Go.Extern.Stop Go.Stop Go.Extern

theorem cell_set_same (w : World) (a : Addr) (v old : Value) (h : w.cell? a = some old) : (w.setCell a v).cell? a = some v := by
  obtain ⟨b, off, sp⟩ := a
  unfold World.cell? at h ⊢
  split at h
  case h_2 => cases h
  case h_1 c T fr hb =>
    cases sp with
    | some x => simp at h
    | none =>
      have : (w.setCell ⟨b, off, none⟩ v).heap[b]? = some (.cells (c.setIfInBounds off v) T fr) := by
        show (w.heap.modify b _)[b]? = _
        rw [Array.getElem?_modify, if_pos rfl, hb]; rfl
      simp at h
      rw [this]
      have hlt := (Array.getElem?_eq_some_iff.1 h).1
      simp [hlt]

end Go.Proofs.YtcmhjdlamdcamaaGreatDoor
/- plain.Place, and the statements' bare and placed: what an error is. -/
namespace Go.Proofs.YtcmhjdlamdcamaaGreatDoor
open Go.RowKit

end Go.Proofs.YtcmhjdlamdcamaaGreatDoor
