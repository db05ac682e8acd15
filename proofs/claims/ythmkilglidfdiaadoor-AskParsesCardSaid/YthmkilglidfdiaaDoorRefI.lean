/- The reference's inside, up to the token that stands alone. -/
import Derived.Test.YthmkilglidfdiaaDoorRefS
import Derived.Test.YthmkilglidfdiaaDoorAskO
import Derived.Test.YthmkilglidfdiaaDoorFound
import Derived.Test.YthmkilglidfdiaaDoorFoun2
import Derived.Deep.DeepCutAuto
namespace Go.Proofs.YthmkilglidfdiaaDoor
open Go.RowKit
abbrev tFl : TypeId := 25
theorem stringsTrimRight (s cut : ByteArray) (w : World) (hs : s.size ≤ 9223372036854775807) (hc : cut.size < 4294967281) (ha : ∀ (j : Nat) b, cut.data.toList[j]? = some b → b.toNat < 128) :
    Calls Tryd.prog 36 #[.string s, .string cut] w fun e w' => e = .returned (.string ⟨(Lib.trimRightS s.data.toList cut.data.toList).toArray⟩) ∧ Below w.heap.size w w' :=
  Any.strings_TrimRight_laid Tryd.lays162 (by kernel_rfl) s cut w hs hc ha
theorem rtrim_cut (p : UInt8 → Bool) (l cut : List UInt8) (hp : ∀ c, cut.contains c = p c) : Lib.trimRightS l cut = rtrim p l := by
  unfold Lib.trimRightS rtrim
  rw [show (fun c : UInt8 => cut.contains c) = p from funext hp]
theorem rtrim_len (p : UInt8 → Bool) (l : List UInt8) : (rtrim p l).length ≤ l.length := by
  unfold rtrim
  rw [List.length_reverse]
  have := (List.dropWhile_sublist p (l := l.reverse)).length_le
  simpa using this
theorem bl_cut (c : UInt8) : (⟨#[32, 9]⟩ : ByteArray).data.toList.contains c = isBl c := byte_all (q := fun c => (⟨#[32, 9]⟩ : ByteArray).data.toList.contains c = isBl c) (by decide +kernel) c
def insL (l : List UInt8) (k : Nat) : Res (Nat × List UInt8 × List PPar) := match loneAt l k with
  | some (t, e) => .inr (e, t, [])
  | none => match paramsGo l (l.length + 1 - k) k [] with
    | .inl e => .inl e
    | .inr (e, ps) => .inr (e, [], ps)
theorem ins_lone {l : List UInt8} {k e : Nat} {t : List UInt8} (h : loneAt l k = some (t, e)) : insL l k = .inr (e, t, []) := by unfold insL; rw [h]
def insOf (r : Res (Nat × List PPar)) : Res (Nat × List UInt8 × List PPar) := match r with
  | .inl e => .inl e
  | .inr (e, ps) => .inr (e, [], ps)
theorem ins_params {l : List UInt8} {k : Nat} (h : loneAt l k = none) : insL l k = insOf (paramsGo l (l.length + 1 - k) k []) := by unfold insL insOf; rw [h]
theorem one_ins {l : List UInt8} {k n : Nat} (h : wordL l k ≠ []) (hn : n ≠ 8) (hs : stopB l (blAt l (wEnd l k)) = false) (hb : blAt l (wEnd l k) ≠ wEnd l k) : oneAt l k n = match insL l (blAt l (wEnd l k)) with
    | .inl e => .inl e
    | .inr (e, t, ps) => .inr (e, ⟨wordL l k, t, ps⟩) := by
  cases hl : loneAt l (blAt l (wEnd l k)) with
  | some x => rw [one_lone h hn hs hb hl, ins_lone (e := x.2) (t := x.1) hl]
  | none =>
    rw [one_params h hn hs hb hl, ins_params hl]
    unfold oneOf insOf
    cases paramsGo l (l.length + 1 - blAt l (wEnd l k)) (blAt l (wEnd l k)) [] <;> rfl
/-- is v in a block of another kind than p -/
theorem own_off {w : World} {base size n p : Nat} {e T : TypeId} {v : Value} {xs : List Value} {cs : Array Value} (h : w.ownsRow base e size v n xs) (hb : Blk w p cs T) (hne : e ≠ T) {g : Nat} (hg : v.ownBlock = some g) : g ≠ p := by
  rintro rfl
  obtain ⟨_, h2⟩ := h
  rcases h2 with ⟨rfl, _⟩ | ⟨g1, cap, cur, rfl, hb1, hh, _⟩
  · cases hg
  · cases hg
    unfold Blk at hb
    rw [hh] at hb
    cases hb
    exact hne rfl
/-- where the reference reads what is inside: its cursor, the challenge's box, its parameters, the fault's box -/
structure PR (w : World) (c q fb : Nat) (s sch tok : ByteArray) (pv : Value) (ps : List (ByteArray × ByteArray)) (k : Nat) (wx : World) : Prop where
  only : Only (fun i => i = c ∨ q ≤ i) w wx
  cur : CurAt tR wx c s k
  box : Blk wx q #[.string sch, .string tok, pv] tCh
  own : OwnPr wx (q + 1) pv ps
  flt : Blk wx fb #[.int .i64 0, .int .i64 0] tFl
section
variable {w wx w' : World} {c q fb : Nat} {s sch tok : ByteArray} {pv : Value} {ps : List (ByteArray × ByteArray)} {k k' : Nat}
theorem PR.step {S : Nat → Prop} (h : PR w c q fb s sch tok pv ps k wx) (hcq : c < q) (ho : Only S wx w') (hS : ∀ i, S i → q < i ∧ i ≠ fb ∧ ∀ g, pv.ownBlock = some g → g ≠ i) : PR w c q fb s sch tok pv ps k w' :=
  ⟨h.only.trans (ho.mono (fun i hi => .inr (Nat.le_of_lt (hS i hi).1))), ho.blk h.cur (fun e => by have := (hS _ e).1; omega),
   ho.blk h.box (fun e => by have := (hS _ e).1; omega), ho.own h.own (fun g hg e => (hS g e).2.2 g hg rfl), ho.blk h.flt (fun e => (hS _ e).2.1 rfl)⟩
theorem PR.later (h : PR w c q fb s sch tok pv ps k wx) (hcq : c < q) (ho : Below wx.heap.size wx w') : PR w c q fb s sch tok pv ps k w' :=
  h.step hcq (Only.of_below (S := fun _ => False) ho) (fun _ e => e.elim)
theorem PR.turn (h : PR w c q fb s sch tok pv ps k wx) (hcq : c < q) (hqf : q < fb) (hC : CurAt tR w' c s k') (hG : wx.grownBy w' (some c)) : PR w c q fb s sch tok pv ps k' w' := by
  have ho : Only (fun i => i = c) wx w' := Only.of_grown hG (fun i e => by cases e; rfl)
  exact ⟨h.only.trans (ho.mono (fun i hi => .inl hi)), hC, ho.blk h.box (fun e => by omega), ho.own h.own (fun g hg e => by have := (h.own.lt g hg).1; omega), ho.blk h.flt (fun e => by omega)⟩
theorem PR.put (h : PR w c q fb s sch tok pv ps k wx) (hcq : c < q) {p : Nat} (hp : q < p) (hpf : p ≠ fb) (hpv : ∀ g, pv.ownBlock = some g → g ≠ p) (i : Nat) (u : Value) : PR w c q fb s sch tok pv ps k (wx.setCell ⟨p, i, none⟩ u) :=
  h.step hcq (Only.set (S := fun i => i = p) (Only.refl _ _) (.inl rfl) u) (fun i hi => by subst hi; exact ⟨hp, hpf, hpv⟩)
end
def InsPost (w : World) (c q : Nat) (s sch : ByteArray) (r : Res (Nat × List UInt8 × List PPar)) (e : Ending) (w' : World) : Prop :=
  Only (fun i => i = c ∨ q ≤ i) w w' ∧ match r with
  | .inl x => e = .returned (.agg #[.int .i64 x.1, .int .i64 (x.2 : Int)])
  | .inr x => e = .returned (.agg #[.int .i64 0, .int .i64 (-1)]) ∧ CurAt tR w' c s x.1 ∧ ∃ T pv ps, T.data.toList = x.2.1 ∧ pdat ps = x.2.2 ∧ ps.length ≤ 16 ∧ Blk w' q #[.string sch, .string T, pv] tCh ∧ OwnPr w' (q + 1) pv ps
theorem lone_bits (c : UInt8) : (((decide (97 ≤ c.toNat) && decide (c.toNat ≤ 122)) || (decide (65 ≤ c.toNat) && decide (c.toNat ≤ 90))) || (decide (48 ≤ c.toNat) && decide (c.toNat ≤ 57)) || [45, 46, 95, 126, 43, 47].contains c) = loneB c :=
  byte_all (q := fun c => (((decide (97 ≤ c.toNat) && decide (c.toNat ≤ 122)) || (decide (65 ≤ c.toNat) && decide (c.toNat ≤ 90))) || (decide (48 ≤ c.toNat) && decide (c.toNat ≤ 57)) || [45, 46, 95, 126, 43, 47].contains c) = loneB c) (by decide +kernel) c
theorem dI (a b : Nat) : decide ((a : Int) ≤ (b : Int)) = decide (a ≤ b) := by simp
end Go.Proofs.YthmkilglidfdiaaDoor
