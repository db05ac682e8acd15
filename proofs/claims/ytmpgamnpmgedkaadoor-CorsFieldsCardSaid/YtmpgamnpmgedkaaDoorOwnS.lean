/- An append to a row of structs, at a step of a region that draws its order. -/
import Derived.Test.YtmpgamnpmgedkaaDoorOwnG
import Derived.Deep.AppendLies
import Derived.Deep.RegionHeld3
namespace Go.Proofs.YtmpgamnpmgedkaaDoor
open Go.RowKit
theorem step_append_one {α : Type} {T : TypeId} {n : Nat} {enc : α → List Value} {P : Program} {TS : TypeId} {z : Value} {bytes : Nat} (hinfo : (P.info? T).map (fun i => (i.zero, i.size, i.bytes)) = some (some z, n, bytes)) (hU : P.underlying TS = some (.slice T)) (hzs : z.cells.size = n) (h0 : 0 < n)
    (hlen : ∀ x, (enc x).length = n)
    {ops : Array Oper} {o : Oper} {a : Act} {K : Act → World → Prop} {Q : Exit → Act → World → Prop} {E : Prop} (hgd : o.guard = none) (s x : Operand)
    (ho : o.op = .call { callee := .builtin .append, args := #[s, x], argTypes := #[TS, TS] })
    (w : World) (base : Nat) (v : Value) (l : List α) (hs : a.eval s = v) (hown : OwnG T n enc w base v l) (y : α) (hone : ∀ u ∈ enc y, u.oneCell' = true) (cs : Array Value) (hcs : cs = (enc y).toArray)
    (b : Nat) (hx : a.eval x = .slice (some ⟨b, 0, none⟩) 1 1) (hb : b = w.heap.size) (hl : l.length + 1 ≤ maxLen) (hl' : (l.length + 1) * bytes ≤ 140737488355328) (hbase : base ≤ w.heap.size)
    (h : ∀ v' w', OwnG T n enc w' base v' (l ++ [y]) → (w.alloc (.cells cs T)).grownBy w' v.ownBlock → K (a.put o.dst v') w') :
    if Region.wanted o (yielded ops a.tmps) = true then Oper.wp P o a (w.alloc (.cells cs T)) K Q else E := by
  obtain ⟨i0, hi, hz0, hz1, hz2⟩ := info_parts hinfo
  subst hcs hb
  have hw : Region.wanted o (yielded ops a.tmps) = true := by simp [Region.wanted, hgd]
  rw [if_pos hw]
  refine wp_append_own _ s x TS ho base T i0 z n bytes hU hi hz0 hz1 hz2 hzs h0 v _ _ hs (hown.alloc _) ⟨w.heap.size, 0, none⟩ 1 1 (enc y) hx (by rw [hlen, Nat.one_mul])
    (cell_row_new _ _ _) hone hl hl' (by simp; omega) ?_
  intro v' w' hown' hgrow _
  refine h v' w' ?_ hgrow
  unfold OwnG
  rw [List.length_append, List.flatMap_append, List.flatMap_singleton]
  exact hown'
end Go.Proofs.YtmpgamnpmgedkaaDoor
