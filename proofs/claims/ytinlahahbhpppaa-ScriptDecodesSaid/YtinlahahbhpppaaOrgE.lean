/- Two origins compared, by one step; the last of a list. -/
import Derived.Test.YtinlahahbhpppaaReq
namespace Go.Proofs.Ytinlahahbhpppaa
open Go.RowKit Go.Deep
theorem toList_inj {a b : ByteArray} (h : a.toList = b.toList) : a = b := ba_ext (by rw [Lib.toList_data, Lib.toList_data] at h; exact h)
theorem beq_dec {α : Type} [BEq α] [LawfulBEq α] [DecidableEq α] (a b : α) : (a == b) = decide (a = b) := by
  by_cases h : a = b
  · subst h; simp
  · rw [decide_eq_false h]; exact beq_eq_false_iff_ne.2 h
theorem nest {P : Prop} [Decidable P] (b : Bool) (w : World) : (if P then (Result.ok (Value.bool b) w : Result Value) else Result.ok (Value.bool false) w) = Result.ok (Value.bool (decide P && b)) w := by
  by_cases h : P <;> simp [h]
/-- two origins are one -/
def orgE (o p : Org) : Bool := (o.sec == p.sec) && (o.host.toList == p.host.toList) && (o.port == p.port)
theorem orgE_iff (o p : Org) : orgE o p = true ↔ o = p := by
  constructor
  · intro h
    simp only [orgE, Bool.and_eq_true, beq_iff_eq] at h
    obtain ⟨⟨h1, h2⟩, h3⟩ := h
    obtain ⟨a, b, c⟩ := o
    obtain ⟨a', b', c'⟩ := p
    simp only at h1 h2 h3
    have h2 := toList_inj h2
    subst h1 h2 h3
    rfl
  · rintro rfl
    simp [orgE]
set_option maxRecDepth 100000 in
theorem org_eql (o p : Org) (w : World) : (binOp .eql 27 (.agg #[.bool o.sec, .string o.host, .int .i64 o.port]) (.agg #[.bool p.sec, .string p.host, .int .i64 p.port])).run Try.prog w = .ok (.bool (orgE o p)) w := by
  obtain ⟨s1, h1, p1⟩ := o
  obtain ⟨s1', h1', p1'⟩ := p
  have hr : orgE ⟨s1, h1, p1⟩ ⟨s1', h1', p1'⟩ = ((s1 == s1') && (h1.toList == h1'.toList) && (p1 == p1')) := rfl
  rw [hr]
  go_simp
  simp only [nest, beq_dec, Bool.and_assoc, Bool.and_true]
/-- two structs compared, at the operation -/
theorem wpList_eql_agg {P : Program} {ops : Array Oper} {rest : List Oper} {o : Oper} {a : Act} {Q : Exit → Act → World → Prop} (w : World) (hg : o.guard = none) (bo : BinOp) (T T' : TypeId) (x y : Operand) (hop : o.op = Op.binOp bo T x y T')
    (xs ys : Array Value) (hx : a.eval x = .agg xs) (hy : a.eval y = .agg ys) (hd : P.eqGuardType P.depth T = false) (v : Value) (hr : (binOp bo T (.agg xs) (.agg ys)).run P w = .ok v w)
    (h : wpList P ops Q rest (a.put o.dst v) w) : wpList P ops Q (o :: rest) a w := by
  refine wpList_plain hg fun K' hK' => ?_
  unfold Oper.wp
  simp [execOp, hop, hx, hy, run_eqGuard_agg, hd, hr, Result.andThen]
  exact hK' _ _ h
theorem nestN {P : Prop} [Decidable P] (b : Bool) (w : World) : (if P then (Result.ok (Value.bool b) w : Result Value) else Result.ok (Value.bool true) w) = Result.ok (Value.bool (!decide P || b)) w := by
  by_cases h : P <;> simp [h]
set_option maxRecDepth 100000 in
theorem org_neq (o p : Org) (w : World) : (binOp .neq 27 (.agg #[.bool o.sec, .string o.host, .int .i64 o.port]) (.agg #[.bool p.sec, .string p.host, .int .i64 p.port])).run Try.prog w = .ok (.bool (!orgE o p)) w := by
  obtain ⟨s1, h1, p1⟩ := o
  obtain ⟨s1', h1', p1'⟩ := p
  have hr : (!orgE ⟨s1, h1, p1⟩ ⟨s1', h1', p1'⟩) = (!(s1 == s1') || (!(h1.toList == h1'.toList) || (!(p1 == p1') || false))) := by
    unfold orgE
    simp only
    cases (s1 == s1') <;> cases (h1.toList == h1'.toList) <;> cases (p1 == p1') <;> rfl
  rw [hr]
  go_simp
  simp only [nestN, beq_dec, Bool.or_false]
theorem noGuardOrg : Try.prog.eqGuardType Try.prog.depth 27 = false := by kernel_rfl
/-- the last n -/
def lastB {α : Type} (n : Nat) (b : List α) : List α := b.drop (b.length - n)
end Go.Proofs.Ytinlahahbhpppaa
