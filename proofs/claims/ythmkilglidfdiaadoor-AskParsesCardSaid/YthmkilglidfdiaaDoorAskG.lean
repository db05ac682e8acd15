/- A header's challenges: each step goes on; lists of challenges that a call makes for itself. -/
import Derived.Test.YthmkilglidfdiaaDoorAskU
namespace Go.Proofs.YthmkilglidfdiaaDoor
open Go.RowKit
theorem blAt_idem (l : List UInt8) (k : Nat) : blAt l (blAt l k) = blAt l k := by
  have h : spanAt isBl l (k + (spanAt isBl l k).length) = [] := by
    show (l.drop (k + (spanAt isBl l k).length)).takeWhile isBl = []
    rw [takeW_drop]
    cases hd : (l.drop k).dropWhile isBl with
    | nil => rfl
    | cons a r => rw [List.takeWhile_cons, if_neg (by simp [dropWhile_head hd])]
  unfold blAt
  rw [h]; rfl
theorem valAt_bd {l : List UInt8} {k : Nat} {x : List UInt8 × Nat} (hk : k ≤ l.length) (h : valAt l k = some x) : k ≤ x.2 ∧ x.2 ≤ l.length := by
  unfold valAt at h
  split at h
  · have := quotedAt_bd h; omega
  · cases h
    exact ⟨le_wEnd _ _, wEnd_le _ _ hk⟩
theorem paramAt_bd {l : List UInt8} {k : Nat} {ps : List PPar} {x : Nat × List PPar} (_hk : k ≤ l.length) (hl : ps.length ≤ 16) (h : paramAt l k ps = .inr x) : k < x.1 ∧ x.1 ≤ l.length ∧ x.2.length ≤ 16 := by
  by_cases hb : wordL l k = [] ∨ markB l (blAt l (wEnd l k)) 61 = false
  · rw [paramAt_bad ps hb] at h; cases h
  · cases hv : valAt l (blAt l (blAt l (wEnd l k) + 1)) with
    | none => rw [paramAt_none ps hb hv] at h; cases h
    | some z =>
      obtain ⟨v, k4⟩ := z
      rw [paramAt_some ps hb hv] at h
      have hm : markB l (blAt l (wEnd l k)) 61 = true := by
        cases hm : markB l (blAt l (wEnd l k)) 61
        · exact absurd (.inr hm) hb
        · rfl
      have h1 := markB_lt hm
      have h2 := le_wEnd l k
      have h3 := le_blAt l (wEnd l k)
      have h4 := le_blAt l (blAt l (wEnd l k) + 1)
      have h5 := valAt_bd (blAt_le _ _ (show blAt l (wEnd l k) + 1 ≤ l.length from h1)) hv
      split at h
      · cases h
      · split at h
        · cases h
        · cases h
          simp only at h5 ⊢
          refine ⟨by omega, h5.2, ?_⟩
          simp; omega
theorem paramsGo_bd (l : List UInt8) : ∀ (f k : Nat) (ps : List PPar) (x : Nat × List PPar), k ≤ l.length → ps.length ≤ 16 → paramsGo l f k ps = .inr x → k ≤ x.1 ∧ x.1 ≤ l.length
  | 0, k, ps, x, hk, _, h => by
    simp only [paramsGo] at h
    cases h
    exact ⟨Nat.le_refl _, hk⟩
  | f + 1, k, ps, x, hk, hl, h => by
    unfold paramsGo at h
    cases hp : paramAt l k ps with
    | inl e => rw [hp] at h; cases h
    | inr z =>
      obtain ⟨k4, ps'⟩ := z
      rw [hp] at h
      have hb := paramAt_bd hk hl hp
      simp only at h hb
      have h1 := blAt_le l k4 hb.2.1
      have h2 := gapAt_le l _ h1
      have h3 := le_blAt l k4
      have h4 := le_gapAt l (blAt l k4)
      split at h
      · cases h
      · split at h
        · have := paramsGo_bd l f _ ps' x h2 hb.2.2 h
          omega
        · cases h
          simp only
          omega
theorem loneAt_bd {l : List UInt8} {k : Nat} {x : List UInt8 × Nat} (hk : k ≤ l.length) (h : loneAt l k = some x) : k ≤ x.2 ∧ x.2 ≤ l.length ∧ x.1.length ≤ l.length := by
  unfold loneAt at h
  simp only at h
  split at h
  · cases h
    have h1 := spanAt_len loneB l k
    have h2 := spanAt_len (· == 61) l (k + (spanAt loneB l k).length)
    have h3 := blAt_le l (k + (spanAt loneB l k).length + (spanAt (· == 61) l (k + (spanAt loneB l k).length)).length) (by omega)
    have h4 := le_blAt l (k + (spanAt loneB l k).length + (spanAt (· == 61) l (k + (spanAt loneB l k).length)).length)
    simp only [List.length_append]
    omega
  · cases h
theorem oneAt_bd {l : List UInt8} {k n : Nat} {x : Nat × PChal} (hk : k ≤ l.length) (hn : n ≤ 8) (h : oneAt l k n = .inr x) : k < x.1 ∧ x.1 ≤ l.length ∧ n < 8 := by
  unfold oneAt at h
  split at h
  · cases h
  · rename_i hw
    have hk1 : k < wEnd l k := by
      unfold wEnd
      have : 0 < (wordL l k).length := List.length_pos_iff.2 hw
      omega
    have hk2 := wEnd_le l k hk
    have hk3 := blAt_le l _ hk2
    have hk4 := le_blAt l (wEnd l k)
    split at h
    · cases h
    · simp only at h
      split at h
      · cases h; simp only; omega
      · split at h
        · cases h
        · cases hl : loneAt l (blAt l (wEnd l k)) with
          | some z =>
            obtain ⟨t, e⟩ := z
            rw [hl] at h
            cases h
            have := loneAt_bd hk3 hl
            simp only at this ⊢
            omega
          | none =>
            rw [hl] at h
            simp only at h
            cases hp : paramsGo l (l.length + 1 - blAt l (wEnd l k)) (blAt l (wEnd l k)) [] with
            | inl e => rw [hp] at h; cases h
            | inr z =>
              obtain ⟨e, ps⟩ := z
              rw [hp] at h
              cases h
              have := paramsGo_bd l _ _ _ _ hk3 (by decide) hp
              simp only at this ⊢
              omega

theorem own_base {w : World} {b b' : Nat} {e : TypeId} {size n : Nat} {v : Value} {xs : List Value} (h : w.ownsRow b' e size v n xs) (hb : b ≤ b') : w.ownsRow b e size v n xs :=
  ⟨h.1, h.2.imp id fun ⟨g, cap, cur, h1, h2, h3⟩ => ⟨g, cap, cur, h1, Nat.le_trans hb h2, h3⟩⟩
/-- a challenge in memory -/
structure PC where
  sch : ByteArray
  tok : ByteArray
  ad : Option Addr
  cap : Nat
  ps : List (ByteArray × ByteArray)
abbrev PC.pv (x : PC) : Value := .slice x.ad x.ps.length x.cap
def encPC (x : PC) : List Value := [.string x.sch, .string x.tok, .slice x.ad x.ps.length x.cap]
theorem encPC_len (x : PC) : (encPC x).length = 3 := rfl
theorem encPC_one (x : PC) : ∀ u ∈ encPC x, u.oneCell' = true := by
  intro u hu
  simp only [encPC, List.mem_cons, List.not_mem_nil, or_false] at hu
  rcases hu with rfl | rfl | rfl <;> rfl
theorem infoCh : (Tryd.prog.info? 35).map (fun i => (i.zero, i.size, i.bytes)) = some (some (.agg #[.string ⟨#[]⟩, .string ⟨#[]⟩, .slice none 0 0]), 3, 56) := by kernel_rfl
def pcd (x : PC) : PChal := ⟨x.sch.data.toList, x.tok.data.toList, pdat x.ps⟩
/-- v is a list of the call's own that holds these challenges -/
structure Chals (w : World) (base : Nat) (v : Value) (xs : List PC) : Prop where
  row : OwnG tCh 3 encPC w base v xs
  each : ∀ x ∈ xs, OwnPr w base x.pv x.ps
  small : ∀ x ∈ xs, x.ps.length ≤ 16
theorem Chals.nil (w : World) (base : Nat) : Chals w base (.slice none 0 0) [] := ⟨OwnG.nil _ _, fun _ h => by simp at h, fun _ h => by simp at h⟩
theorem own_lt {w : World} {base size n : Nat} {e : TypeId} {v : Value} {xs : List Value} (h : w.ownsRow base e size v n xs) {g : Nat} (hg : v.ownBlock = some g) : base ≤ g ∧ g < w.heap.size := h.lt g hg
theorem own_apart {w : World} {base base' size size' n n' : Nat} {e e' : TypeId} {v v' : Value} {xs xs' : List Value} (h : w.ownsRow base e size v n xs) (h' : w.ownsRow base' e' size' v' n' xs') (hne : e ≠ e') {g : Nat} (hg : v.ownBlock = some g) : v'.ownBlock ≠ some g := by
  intro hg'
  obtain ⟨_, h2⟩ := h
  obtain ⟨_, h2'⟩ := h'
  rcases h2 with ⟨rfl, _⟩ | ⟨g1, cap, cur, rfl, hb, hh, _⟩
  · cases hg
  · rcases h2' with ⟨rfl, _⟩ | ⟨g2, cap', cur', rfl, hb', hh', _⟩
    · cases hg'
    · cases hg
      cases hg'
      rw [hh] at hh'
      cases hh'
      exact hne rfl
theorem Chals.keep {S : Nat → Prop} {w w' : World} {base : Nat} {v : Value} {xs : List PC} (h : Chals w base v xs) (ho : Only S w w') (hS : ∀ i, S i → i < base ∨ w.heap.size ≤ i) : Chals w' base v xs :=
  ⟨Only.own ho h.row (fun g hg e => by have := own_lt h.row hg; rcases hS g e with e | e <;> omega),
   fun x hx => Only.own ho (h.each x hx) (fun g hg e => by have := own_lt (h.each x hx) hg; rcases hS g e with e | e <;> omega), h.small⟩
theorem Chals.later {w w' : World} {base : Nat} {v : Value} {xs : List PC} (h : Chals w base v xs) (hb : Below w.heap.size w w') : Chals w' base v xs :=
  h.keep (Only.of_below (S := fun _ => False) hb) (fun _ e => e.elim)
theorem Chals.base {w : World} {base base' : Nat} {v : Value} {xs : List PC} (h : Chals w base' v xs) (hb : base ≤ base') : Chals w base v xs :=
  ⟨own_base h.row hb, fun x hx => own_base (h.each x hx) hb, h.small⟩
/-- one more -/
theorem Chals.snoc {w w' : World} {base : Nat} {v v' : Value} {xs : List PC} {y : PC} {o : Obj} (h : Chals w base v xs) (hy : OwnPr w base y.pv y.ps) (hl : y.ps.length ≤ 16) (hg : (w.alloc o).grownBy w' v.ownBlock) (hr : OwnG tCh 3 encPC w' base v' (xs ++ [y])) : Chals w' base v' (xs ++ [y]) := by
  have hk : ∀ x : PC, OwnPr w base x.pv x.ps → OwnPr w' base x.pv x.ps := fun x hx => by
    have h1 : OwnPr (w.alloc o) base x.pv x.ps := own_later hx ((Below.refl _ _).alloc (Nat.le_refl _) _)
    refine World.ownsRow.kept h1 hg ?_
    cases hv : x.pv.ownBlock with
    | none => exact .inl rfl
    | some k =>
      right
      intro e
      exact own_apart hx h.row (by decide) hv e.symm
  refine ⟨hr, fun x hx => ?_, fun x hx => ?_⟩
  · rcases List.mem_append.1 hx with hx | hx
    · exact hk x (h.each x hx)
    · cases List.mem_singleton.1 hx
      exact hk y hy
  · rcases List.mem_append.1 hx with hx | hx
    · exact h.small x hx
    · cases List.mem_singleton.1 hx
      exact hl
end Go.Proofs.YthmkilglidfdiaaDoor
