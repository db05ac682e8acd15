/- How arguments read: a value of a type, read as the row reads it, within the form's own reach. Over any program. -/
import Derived.Test.YtfkflgcifddnnaaDoorLaw
import Derived.SizedLaws
import Derived.HandedShaped
import Derived.Deep.Slices
namespace Go.Proofs.YtfkflgcifddnnaaDoor
open Go.ChangeShapes Go.WideShapes Go.ChangeAt Go.RowKit Go.WideElems Go.Deep

/-- These cells read as a value of type t, nothing in it beyond the reach. -/
def Rd (P : Program) (w : World) (t : TypeId) (cs : List Value) : Prop :=
  ∃ (H : Type) (enc : TypeId × Value → H) (fuel : Nat) (d : DataW H) (ps : List MemPlace),
    DataW.trod enc P w 0 (fun _ => true) true fuel t cs = some (d, ps) ∧ (d.weights P t).all (· ≤ reachBytes) = true

section
variable {P : Program} {w : World} {t : TypeId} {cs : List Value}

theorem Rd.string (h : Rd P w t cs) (ht : P.underlying t = some .string) : ∃ s : ByteArray, cs = [.string s] ∧ s.size ≤ reachBytes := by
  obtain ⟨H, enc, fuel, d, ps, h1, h2⟩ := h
  cases fuel with
  | zero => simp [DataW.trod] at h1
  | succ n =>
    unfold DataW.trod at h1
    simp only [ht] at h1
    split at h1 <;> simp_all
    obtain ⟨_, rfl, _⟩ := h1
    rw [Lib.size_eq]
    simpa [DataW.weights] using h2

theorem Rd.bool (h : Rd P w t cs) (ht : P.underlying t = some .bool) : ∃ b, cs = [.bool b] := by
  obtain ⟨H, enc, fuel, d, ps, h1, h2⟩ := h
  obtain ⟨b, h, _⟩ := DataW.trod_bool ht h1
  exact ⟨b, h⟩

theorem Rd.int {k : IntKind} (h : Rd P w t cs) (ht : P.underlying t = some (.int k)) : ∃ n, cs = [.int k n] ∧ (Lit.int k n).wf = true := by
  obtain ⟨H, enc, fuel, d, ps, h1, h2⟩ := h
  obtain ⟨b, h, _, h'⟩ := DataW.trod_int ht h1
  exact ⟨b, h, h'⟩

theorem weightsEach_at {H : Type} : ∀ {ts : List TypeId} {ds : List (DataW H)} {j : Nat} {u : TypeId} {d : DataW H}, ts[j]? = some u → ds[j]? = some d → (DataW.weightsEach P ts ds).all (· ≤ reachBytes) = true → (d.weights P u).all (· ≤ reachBytes) = true := by
  intro ts ds j u d h1 h2 h
  rw [List.all_eq_true] at h ⊢
  exact fun x hx => h x (DataW.weights_mem_each h1 h2 x hx)

theorem weightsAll_at {H : Type} {e : TypeId} : ∀ {ds : List (DataW H)} {d : DataW H}, d ∈ ds → (DataW.weightsAll P e ds).all (· ≤ reachBytes) = true → (d.weights P e).all (· ≤ reachBytes) = true
  | [], _, h, _ => by cases h
  | x :: r, d, h, hw => by
    simp only [DataW.weightsAll, List.all_append, Bool.and_eq_true] at hw
    rcases List.mem_cons.1 h with rfl | h
    · exact hw.1
    · exact weightsAll_at h hw.2

theorem Rd.struct {fs : Array Field} (h : Rd P w t cs) (ht : P.underlying t = some (.struct fs)) :
    cs.length = P.cellsOf t ∧ ∀ (i : Nat) (f : Field), fs[i]? = some f → Rd P w f.type ((cs.drop f.offset).take (P.cellsOf f.type)) := by
  obtain ⟨H, enc, fuel, d, ps, h1, h2⟩ := h
  obtain ⟨xs, n, _, hx, hl, hn, hf⟩ := DataW.trod_struct ht h1
  obtain ⟨rfl, rfl⟩ := Prod.mk.inj hx
  refine ⟨hl, fun i f hi => ?_⟩
  have hlt : i < xs.length := by
    rw [hn]
    rcases Nat.lt_or_ge i fs.size with h | h
    · exact h
    · rw [Array.getElem?_eq_none h] at hi; cases hi
  have h3 := hf i f hi
  rw [List.getElem?_eq_getElem hlt] at h3
  refine ⟨H, enc, n, xs[i].1, xs[i].2, h3, ?_⟩
  simp only [DataW.weights, ht] at h2
  refine weightsEach_at (j := i) ?_ ?_ h2
  · simp [hi]
  · simp [List.getElem?_eq_getElem hlt]

theorem Rd.field {fs : Array Field} (h : Rd P w t cs) (ht : P.underlying t = some (.struct fs)) (i : Nat) {u : TypeId} {off n : Nat} (hf : (fs[i]?).map (fun f => (f.type, f.offset)) = some (u, off)) (hn : P.cellsOf u = n) :
    Rd P w u ((cs.drop off).take n) := by
  cases hfi : fs[i]? with
  | none => simp [hfi] at hf
  | some f =>
    simp [hfi] at hf
    obtain ⟨rfl, rfl⟩ := hf
    have := (h.struct ht).2 i f hfi
    rwa [hn] at this

theorem Rd.slice {e : TypeId} (h : Rd P w t cs) (ht : P.underlying t = some (.slice e)) (hpos : 0 < P.cellsOf e) :
    ∃ (a : Option Addr) (len cap : Nat), cs = [.slice a len cap] ∧ len * P.bytesOf e ≤ reachBytes ∧ len ≤ maxLen ∧ len ≤ cap ∧ cap ≤ maxLen ∧ (a = none → len = 0 ∧ cap = 0) ∧
      ∀ i, i < len → ∃ b off cs', a = some ⟨b, off, none⟩ ∧ cs'.length = P.cellsOf e ∧ Rd P w e cs' ∧ ∀ j, j < P.cellsOf e → w.cell? ⟨b, off + i * P.cellsOf e + j, none⟩ = cs'[j]? := by
  obtain ⟨H, enc, fuel, d, ps, h1, h2⟩ := h
  rcases open_slice ht h1 with ⟨rfl, _⟩ | ⟨a, len, cap, m, n, D, Pl, rfl, _, hl, hm, hmm, hx, hi⟩
  · exact ⟨none, 0, 0, rfl, by simp [reachBytes], by simp, by simp, by simp, by simp, fun i hi => by omega⟩
  · obtain ⟨rfl, rfl⟩ := Prod.mk.inj hx
    simp only [if_true] at hmm
    subst hmm
    simp only [DataW.weights, ht, List.all_cons, Bool.and_eq_true, List.all_append, decide_eq_true_eq] at h2
    obtain ⟨h3, h4, h5⟩ := h2
    refine ⟨some a, len, m, rfl, ?_, by omega, hl, hm, by simp, fun i hlt => ?_⟩
    · refine Nat.le_trans (Nat.mul_le_mul_right _ ?_) h3
      simp
    · obtain ⟨cs', h6, h7⟩ := hi i (by omega)
      obtain ⟨_, hlen, hc⟩ := World.cells?_some h6
      have hd : D i ∈ (List.range len).map D := List.mem_map.2 ⟨i, List.mem_range.2 hlt, rfl⟩
      have hsp : a.spot = none := by
        cases hs : a.spot with
        | none => rfl
        | some x =>
          exfalso
          obtain ⟨c0, g6, _⟩ := hi 0 (by omega)
          obtain ⟨_, glen, gc⟩ := World.cells?_some g6
          have h8 := gc 0 hpos
          have e0 : (a.add (0 * P.cellsOf e)).add 0 = a := by simp [Addr.add]
          rw [e0] at h8
          have : w.cell? a = none := by
            unfold World.cell?
            split
            · simp [hs]
            · rfl
          rw [this] at h8
          have h9 : 0 < c0.length := by omega
          rw [List.getElem?_eq_getElem h9] at h8
          cases h8
      obtain ⟨b, off, sp⟩ := a
      simp only at hsp
      subst hsp
      refine ⟨b, off, cs', rfl, hlen, ⟨H, enc, n, D i, Pl i, h7, weightsAll_at hd h4⟩, fun j hj => ?_⟩
      rw [← hc j hj]
      congr 1
      have ea : ∀ (x n : Nat), (⟨b, x, none⟩ : Addr).add n = ⟨b, x + n, none⟩ := by
        intro x n; unfold Addr.add; split <;> simp_all
      rw [ea, ea]

/-- An argument by its place. -/
theorem Rd.of {H : Type} {enc : TypeId × Value → H} {v : Value} {d : DataW H} {ps : List MemPlace} (h : DataW.Trod enc P w 0 (fun _ => true) true t v d ps) (hs : (d.weights P t).all (· ≤ reachBytes) = true) : Rd P w t v.cells.toList := by
  obtain ⟨fuel, h⟩ := h
  exact ⟨H, enc, fuel, d, ps, h, hs⟩
end

theorem exists_list {α : Type} (p : Nat → α → Prop) : ∀ (n : Nat), (∀ i, i < n → ∃ x, p i x) → ∃ l : List α, l.length = n ∧ ∀ i (h : i < l.length), p i l[i]
  | 0, _ => ⟨[], rfl, fun i h => by simp at h⟩
  | n + 1, h => by
    obtain ⟨l, hl, hp⟩ := exists_list p n (fun i hi => h i (by omega))
    obtain ⟨x, hx⟩ := h n (by omega)
    refine ⟨l ++ [x], by simp [hl], fun i hi => ?_⟩
    by_cases e : i < l.length
    · rw [List.getElem_append_left e]; exact hp i e
    · obtain rfl : i = l.length := by simp at hi; omega
      simp [hl, hx]

section
variable {P : Program} {w : World} {t : TypeId} {v : Value} {r : Reach} {base : Nat}
theorem Rd.string_v (h : Rd P w t v.cells.toList) (hv : Value.okWide P w r base t v) (ht : P.underlying t = some .string) : ∃ s : ByteArray, v = .string s ∧ s.size ≤ reachBytes := by
  obtain ⟨s, rfl⟩ := okWide_string ht hv
  obtain ⟨s', h1, h2⟩ := h.string ht
  simp [Value.cells] at h1
  subst h1
  exact ⟨s, rfl, h2⟩
theorem Rd.int_v {k : IntKind} (h : Rd P w t v.cells.toList) (hv : Value.okWide P w r base t v) (ht : P.underlying t = some (.int k)) : ∃ n, v = .int k n ∧ (Lit.int k n).wf = true := by
  obtain ⟨s, rfl⟩ := okWide_int ht hv
  obtain ⟨s', h1, h2⟩ := h.int ht
  simp [Value.cells] at h1
  subst h1
  exact ⟨s, rfl, h2⟩
theorem Rd.bool_v (h : Rd P w t v.cells.toList) (hv : Value.okWide P w r base t v) (ht : P.underlying t = some .bool) : ∃ b, v = .bool b := by
  obtain ⟨s, rfl⟩ := okWide_bool ht hv
  exact ⟨s, rfl⟩
end

end Go.Proofs.YtfkflgcifddnnaaDoor
