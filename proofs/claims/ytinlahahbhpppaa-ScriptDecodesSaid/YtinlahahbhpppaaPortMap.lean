/- The reference's Port (a map literal): the port that is meant. -/
import Derived.Test.YtinlahahbhpppaaFound
import Derived.WalkKit
import Derived.Maps.OwnOps
import Derived.Maps.Keyed
namespace Go.Proofs.Ytinlahahbhpppaa
open Go.RowKit Go.Maps

def portOf (sec : Bool) : Int := if sec then 443 else 80
theorem wpList_insert_own {H : Type} {P : Program} (w : World) {ops : Array Oper} {rest : List Oper} {o : Oper} {a : Act} {Q : Exit → Act → World → Prop}
    (hg : o.guard = none) (m x v : Operand) (t : TypeId) (hop : o.op = Op.insert t m x v)
    (k e : TypeId) (K : Keyed P k) (ht : P.underlying t = some (.map k e)) (R : Value → Option (DataW H × List MemPlace)) (b n : Nat) (D : DataW H)
    (hm : a.eval m = .map (some b)) (hown : w.ownsMap P k R b n D) (hn : n < maxLen) (key val : Value) (kl : Lit) (hx : a.eval x = key) (hv : a.eval v = val) (hkey : keyOf P k key = some kl)
    (d : DataW H) (ps : List MemPlace) (hval : R val = some (d, ps))
    (hK : ∀ w', w'.ownsMap P k R b (n + 1) (D.put kl d) → w.grownBy w' (some b) → wpList P ops Q rest (a.put o.dst undef) w') :
    wpList P ops Q (o :: rest) a w := by
  refine wpList_plain hg fun K' hK' => ?_
  obtain ⟨w', hrun, r1, r2⟩ := hown.update K ht hn hkey hval
  unfold Oper.wp
  simp [execOp, hop, hm, hx, hv, hrun, Result.andThen]
  exact hK' _ _ (hK w' r1 r2)

theorem lawBool : Keyed Try.prog 4 := bool_keyed Try.underlying4
theorem zeroInt (w : World) : (zeroValue 3).run Try.prog w = .ok (.int .i64 0) w := by kernel_rfl

set_option maxRecDepth 100000 in
theorem refPort (sec : Bool) (w : World) : Calls Try.prog 15 #[.bool sec] w fun e w' => e = .returned (.int .i64 (portOf sec)) ∧ Below w.heap.size w w' := by
  have hmm := @run_makeMap Try.prog
  have hown : (w.alloc (.map #[] 0)).ownsMap Try.prog 4 (plainElem (H := Unit) Try.prog 3) w.heap.size 0 (.map []) := World.ownsMap_made _ _ _ _
  have hnx : Below w.heap.size w (w.alloc (.map #[] 0)) := (Below.refl _ _).alloc (Nat.le_refl _) _
  go_enter Try.func15, Try.ntmps15
  go_wp2_with (first
    | (refine wpList_insert_own _ rfl (.tmp 3) (.const (.bool true)) (.const (.int .i64 443)) 67 rfl 4 3 lawBool Try.underlying67 _ w.heap.size 0 _ rfl hown (by decide) _ _ _ rfl rfl (keyOf_bool_mk Try.underlying4 _) _ [] (plainElem_int Try.underlying3 (by decide)) ?_; intro w1 hown1 hgrow1)
    | (refine wpList_insert_own _ rfl (.tmp 3) (.const (.bool false)) (.const (.int .i64 80)) 67 rfl 4 3 lawBool Try.underlying67 _ w.heap.size 1 _ rfl hown1 (by decide) _ _ _ rfl rfl (keyOf_bool_mk Try.underlying4 _) _ [] (plainElem_int Try.underlying3 (by decide)) ?_; intro w2 hown2 hgrow2)
    | (at_lookup; refine wpList_lookup_own_int _ rfl _ _ 67 rfl 4 3 .i64 lawBool Try.underlying67 Try.underlying3 (zeroInt _) w.heap.size 2 _ rfl hown2 _ _ rfl (keyOf_bool_mk Try.underlying4 _) ?_; intro c hat hwc))
  go_ret
  have hn1 := hnx.grown hgrow1 hnx.size (fun j hj => by cases hj; exact Nat.le_refl _)
  have hn2 := hn1.grown hgrow2 hn1.size (fun j hj => by cases hj; exact Nat.le_refl _)
  refine ⟨?_, hn2⟩
  cases sec
  · cases hat; rfl
  · cases hat; rfl
end Go.Proofs.Ytinlahahbhpppaa
