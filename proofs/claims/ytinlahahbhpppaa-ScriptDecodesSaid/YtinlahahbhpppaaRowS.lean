/- Rows of structs of a call's own, changed in place: one element set, cut, cleared, moved together. Over any program. -/
import Derived.Test.YtinlahahbhpppaaFound
import Derived.Lib.SliceRun
namespace Go.Proofs.Ytinlahahbhpppaa
open Go.RowKit
section
variable {α : Type} {T : TypeId} {n : Nat} {enc : α → List Value}
/-- block g holds these structs from its head on, and has room for cap of them -/
structure RowB (T : TypeId) (n : Nat) (enc : α → List Value) (w : World) (g cap : Nat) (l : List α) : Prop where
  heap : ∃ cur, w.heap[g]? = some (.cells cur T (0, 0)) ∧ cur.size = cap * n
  cell : ∀ i (h : i < l.length) j u, (enc l[i])[j]? = some u → w.cell? ⟨g, i * n + j, none⟩ = some u
  len : l.length ≤ cap
  cap_ : cap ≤ maxLen
theorem RowB.lt {w : World} {g cap : Nat} {l : List α} (h : RowB T n enc w g cap l) : g < w.heap.size := by
  obtain ⟨cur, hg, _⟩ := h.heap
  exact (Array.getElem?_eq_some_iff.1 hg).1
theorem mul_row {i c n j : Nat} (h : i < c) (hj : j < n) : i * n + j < c * n := by
  calc i * n + j < i * n + n := by omega
    _ = (i + 1) * n := (Nat.succ_mul i n).symm
    _ ≤ c * n := Nat.mul_le_mul_right _ h
theorem RowB.of_own (hlen : ∀ x, (enc x).length = n) {w : World} {base : Nat} {v : Value} {l : List α} (h : OwnG T n enc w base v l) :
    (v = .slice none 0 0 ∧ l = []) ∨ ∃ g cap, v = .slice (some ⟨g, 0, none⟩) l.length cap ∧ base ≤ g ∧ RowB T n enc w g cap l := by
  obtain ⟨a, cap', hv, hrow, hl1, hl2, _⟩ := OwnG.shape hlen h
  obtain ⟨h1, h2⟩ := h
  rcases h2 with ⟨rfl, h3⟩ | ⟨g, cap, cur, rfl, hb, hg, hn, hm, hs, ht⟩
  · exact .inl ⟨rfl, List.length_eq_zero_iff.1 h3⟩
  · refine .inr ⟨g, cap, rfl, hb, ⟨cur, hg, hs⟩, ?_, hn, hm⟩
    intro i hi j u hu
    simp only [Value.slice.injEq] at hv
    obtain ⟨rfl, _, rfl⟩ := hv
    obtain ⟨b, off, e, hc⟩ := hrow i hi
    cases e
    have := hc j u hu
    rwa [Nat.zero_add] at this
theorem RowB.own (hlen : ∀ x, (enc x).length = n) (h0 : 0 < n) {w : World} {g cap : Nat} {l : List α} (h : RowB T n enc w g cap l) {base : Nat} (hb : base ≤ g) : OwnG T n enc w base (.slice (some ⟨g, 0, none⟩) l.length cap) l := by
  obtain ⟨cur, hg, hs⟩ := h.heap
  refine ⟨by rw [flat_len hlen], .inr ⟨g, cap, cur, rfl, hb, hg, h.len, h.cap_, hs, ?_⟩⟩
  have hcn : l.length * n ≤ cap * n := Nat.mul_le_mul_right _ h.len
  apply List.ext_getElem?
  intro k
  by_cases hk : k < l.length * n
  · rw [List.getElem?_take, if_pos hk]
    have hi : k / n < l.length := (Nat.div_lt_iff_lt_mul h0).2 hk
    have hj : k % n < n := Nat.mod_lt _ h0
    have hkk : k = k / n * n + k % n := by rw [Nat.mul_comm]; exact (Nat.div_add_mod k n).symm
    have hu : (enc l[k / n])[k % n]? = some ((enc l[k / n])[k % n]'(by rw [hlen]; exact hj)) := List.getElem?_eq_getElem _
    have hc := h.cell (k / n) hi (k % n) _ hu
    rw [← hkk, cell_of_row w g k cur T (0, 0) hg] at hc
    have hf := flat_at hlen l (k / n) (k % n) hi hj
    rw [← hkk] at hf
    rw [hf, hu, Array.getElem?_toList, hc]
  · rw [List.getElem?_take, if_neg hk, List.getElem?_eq_none (by rw [flat_len hlen]; omega)]
theorem RowB.range {w : World} {g cap : Nat} {l : List α} (h : RowB T n enc w g cap l) (i : Nat) (hi : i < l.length) : w.rangeAt g (i * n) (enc l[i]) := fun j u hu => h.cell i hi j u hu
theorem RowB.there {w : World} {g cap : Nat} {l : List α} (h : RowB T n enc w g cap l) (o k : Nat) (hk : o + k ≤ cap * n) : w.there g o k := by
  obtain ⟨cur, hg, hs⟩ := h.heap
  intro j hj
  have hlt : o + j < cur.size := by omega
  exact ⟨by rw [cell_of_row w g (o + j) cur T (0, 0) hg, Array.getElem?_eq_getElem hlt]; rfl, Lib.frozen_of_heap hg (o + j)⟩
theorem RowB.kept {w w' : World} {g cap : Nat} {l : List α} {S : Nat → Prop} (h : RowB T n enc w g cap l) (ho : Only S w w') (hS : ¬ S g) : RowB T n enc w' g cap l := by
  obtain ⟨cur, hg, hs⟩ := h.heap
  exact ⟨⟨cur, ho.heap hg hS, hs⟩, fun i hi j u hu => ho.cell (h.cell i hi j u hu) hS, h.len, h.cap_⟩
theorem RowB.later {w w' : World} {g cap : Nat} {l : List α} (h : RowB T n enc w g cap l) (hb : Below w.heap.size w w') : RowB T n enc w' g cap l :=
  h.kept (Only.of_below (S := fun _ => False) hb) (fun e => e)
theorem RowB.rowAt {w : World} {g cap : Nat} {l : List α} (h : RowB T n enc w g cap l) : RowAt n enc w (some ⟨g, 0, none⟩) l := fun i hi => ⟨g, 0, rfl, fun j u hu => by rw [Nat.zero_add]; exact h.cell i hi j u hu⟩
theorem RowB.cut {w : World} {g cap : Nat} {l : List α} (h : RowB T n enc w g cap l) (k : Nat) : RowB T n enc w g cap (l.take k) :=
  ⟨h.heap, fun i hi j u hu => h.cell i (by rw [List.length_take] at hi; omega) j u (by rwa [List.getElem_take] at hu), by have := h.len; rw [List.length_take]; omega, h.cap_⟩
/-- a block's cells, some of them turned -/
theorem heap_setCells {g : Nat} {T : TypeId} {fz : Nat × Nat} : ∀ (vs : List Value) (o : Nat) (w : World) (cur : Array Value), w.heap[g]? = some (.cells cur T fz) → ∃ cur', (w.setCells g o vs).heap[g]? = some (.cells cur' T fz) ∧ cur'.size = cur.size
  | [], _, w, cur, h => ⟨cur, h, rfl⟩
  | v :: r, o, w, cur, h => by
    rw [World.setCells]
    have h1 : (w.setCell ⟨g, o, none⟩ v).heap[g]? = some (.cells (cur.setIfInBounds o v) T fz) := by
      simp [World.setCell, Array.getElem?_modify, h]
    obtain ⟨c, h2, h3⟩ := heap_setCells r (o + 1) _ _ h1
    exact ⟨c, h2, by rw [h3]; simp⟩
theorem only_cells (w : World) (g o : Nat) (vs : List Value) : Only (fun i => i = g) w (w.setCells g o vs) :=
  Only.of_grown (only_setCells g vs o w) (fun _ hi => (Option.some.inj hi).symm)
/-- structs written one behind the other, from the i-th on: what stands ahead stands -/
theorem RowB.lay (hlen : ∀ x, (enc x).length = n) {w : World} {g cap : Nat} {l : List α} (h : RowB T n enc w g cap l) (i : Nat) (xs : List α) (hi : i ≤ l.length) (hc : i + xs.length ≤ cap) :
    RowB T n enc (w.setCells g (i * n) (xs.flatMap enc)) g cap (l.take i ++ xs) := by
  obtain ⟨cur, hg, hs⟩ := h.heap
  obtain ⟨cur', hg', hs'⟩ := heap_setCells (xs.flatMap enc) (i * n) w cur hg
  have hfl := flat_len hlen xs
  have hb : (i + xs.length) * n ≤ cap * n := Nat.mul_le_mul_right _ hc
  rw [Nat.add_mul] at hb
  have hth := h.there (i * n) (xs.flatMap enc).length (by rw [hfl]; exact hb)
  refine ⟨⟨cur', hg', by rw [hs', hs]⟩, ?_, by rw [List.length_append, List.length_take]; omega, h.cap_⟩
  intro k hk j u hu
  have hj : j < n := by
    have := (List.getElem?_eq_some_iff.1 hu).1
    rwa [hlen] at this
  rw [List.length_append, List.length_take, Nat.min_eq_left hi] at hk
  by_cases hki : k < i
  · rw [World.cell?_setCells_out g _ _ _ _ (fun _ _ => .inl (by show k * n + j < i * n; exact mul_row hki hj))]
    refine h.cell k (by omega) j u ?_
    rw [← hu, List.getElem_append_left (by rw [List.length_take]; omega), List.getElem_take]
  · have hkx : k - i < xs.length := by omega
    have hlt : (k - i) * n + j < (xs.flatMap enc).length := by rw [hfl]; exact mul_row hkx hj
    have e : k * n + j = i * n + ((k - i) * n + j) := by
      have h1 : i * n ≤ k * n := Nat.mul_le_mul_right n (show i ≤ k by omega)
      rw [Nat.sub_mul]; omega
    rw [e, World.cell?_setCells_in g _ _ _ (fun t ht => (hth t ht).1) _ hlt, ← List.getElem?_eq_getElem hlt, flat_at hlen xs (k - i) j hkx hj, ← hu]
    congr 1
    rw [List.getElem_append_right (by rw [List.length_take]; omega)]
    congr 1
    simp only [List.length_take]
    congr 1
    omega
theorem RowB.set (hlen : ∀ x, (enc x).length = n) {w : World} {g cap : Nat} {l : List α} (h : RowB T n enc w g cap l) (i : Nat) (x : α) (hi : i < l.length) : RowB T n enc (w.setCells g (i * n) (enc x)) g cap (l.set i x) := by
  obtain ⟨cur, hg, hs⟩ := h.heap
  obtain ⟨cur', hg', hs'⟩ := heap_setCells (enc x) (i * n) w cur hg
  have hl := h.len
  have hb : (i + 1) * n ≤ cap * n := Nat.mul_le_mul_right _ (by omega)
  rw [Nat.succ_mul] at hb
  have hth := h.there (i * n) (enc x).length (by rw [hlen]; exact hb)
  refine ⟨⟨cur', hg', by rw [hs', hs]⟩, ?_, by rw [List.length_set]; exact h.len, h.cap_⟩
  intro k hk j u hu
  rw [List.length_set] at hk
  have hj : j < n := by
    have := (List.getElem?_eq_some_iff.1 hu).1
    rwa [hlen] at this
  rw [List.getElem_set] at hu
  by_cases hki : i = k
  · subst hki
    rw [if_pos rfl] at hu
    have hlt : j < (enc x).length := by rw [hlen]; exact hj
    rw [World.cell?_setCells_in g _ _ _ (fun t ht => (hth t ht).1) _ hlt, ← List.getElem?_eq_getElem hlt, hu]
  · rw [if_neg hki] at hu
    rw [World.cell?_setCells_out g _ _ _ _ (fun _ _ => ?_)]
    · exact h.cell k hk j u hu
    · rw [hlen]
      show k * n + j < i * n ∨ i * n + n ≤ k * n + j
      rcases Nat.lt_or_gt_of_ne hki with h1 | h1
      · right
        have : (i + 1) * n ≤ k * n := Nat.mul_le_mul_right _ h1
        rw [Nat.succ_mul] at this
        omega
      · left; exact mul_row h1 hj
/-- what is written behind the first k structs leaves them -/
theorem RowB.spoil {w : World} {g cap : Nat} {l : List α} (h : RowB T n enc w g cap l) (hlen : ∀ x, (enc x).length = n) (k o : Nat) (vs : List Value) (ho : k * n ≤ o) : RowB T n enc (w.setCells g o vs) g cap (l.take k) := by
  obtain ⟨cur, hg, hs⟩ := h.heap
  obtain ⟨cur', hg', hs'⟩ := heap_setCells vs o w cur hg
  have hl := h.len
  refine ⟨⟨cur', hg', by rw [hs', hs]⟩, ?_, by rw [List.length_take]; omega, h.cap_⟩
  intro i hi j u hu
  rw [List.length_take] at hi
  rw [List.getElem_take] at hu
  have hj : j < n := by
    have := (List.getElem?_eq_some_iff.1 hu).1
    rwa [hlen] at this
  rw [World.cell?_setCells_out g _ _ _ _ (fun _ _ => .inl (by
    show i * n + j < o
    have := mul_row (c := k) (n := n) (i := i) (j := j) (by omega) hj
    omega))]
  exact h.cell i (by omega) j u hu
end
/-- clear of a slice of structs -/
theorem run_clear_row {P : Program} (w : World) (t e : TypeId) (z : Value) (n : Nat) (ht : P.underlying t = some (.slice e)) (hv : ∀ w, (zeroValue e).run P w = .ok z w) (hz : z.cells.size = n) (h1 : z.cells.all (·.oneCell') = true) (h0 : 0 < n) (b o m c : Nat) (hm : 0 < m)
    (hth : w.there b o (m * n)) :
    ∃ zs : List Value, ∀ ty, (Builtin.clear_ #[t] ty #[.slice (some ⟨b, o, none⟩) m c]).run P w = .ok (.tuple #[]) (w.setCells b o zs) := by
  have hl : (Builtin.zeroCells z.cells m).toList.length = m * n := by rw [Array.length_toList, size_zeroCells, hz]
  refine ⟨(Builtin.zeroCells z.cells m).toList, fun ty => ?_⟩
  have hone : ∀ u ∈ (Builtin.zeroCells z.cells m).toList, u.oneCell' = true := by
    intro u hu
    simp only [Builtin.zeroCells, Array.toList_map, Array.toList_range, List.mem_map, List.mem_range] at hu
    obtain ⟨i, _, rfl⟩ := hu
    have hlt : i % z.cells.size < z.cells.size := Nat.mod_lt _ (by omega)
    rw [getElem!_pos z.cells (i % z.cells.size) hlt]
    exact (Array.all_eq_true_iff_forall_mem.1 h1) _ (Array.getElem_mem hlt)
  have hst := run_storeCells_cells (P := P) b o (Builtin.zeroCells z.cells m).toList 0 w (fun j hj => by rw [Nat.add_zero]; exact (hth j (by omega)).1) (fun j hj => by rw [Nat.add_zero]; exact (hth j (by omega)).2) hone
  simp only [Nat.add_zero] at hst
  obtain ⟨k, rfl⟩ : ∃ k, m = k + 1 := ⟨m - 1, by omega⟩
  simp [Builtin.clear_, run_underlying ht, hv, hst]
section
variable {α : Type} {T : TypeId} {n : Nat} {enc : α → List Value}
theorem RowB.grown {w w' : World} {g cap : Nat} {l : List α} {row : Option Nat} (h : RowB T n enc w g cap l) (hg : w.grownBy w' row) (hne : row ≠ some g) : RowB T n enc w' g cap l :=
  h.kept (Only.of_grown (S := fun i => row = some i) hg (fun _ e => e)) hne
/-- what a new block holds does not count -/
theorem Only.new {S : Nat → Prop} {a b c : World} {p : Nat} (h : Only S a b) (hg : b.grownBy c (some p)) (hp : a.heap.size ≤ p) : Only S a c :=
  ⟨hg.os.trans h.os, hg.tape.trans h.tape, hg.output.trans h.output, Nat.le_trans h.size hg.size, fun i hi hn => (hg.block i (Nat.lt_of_lt_of_le hi h.size) (fun e => by have := Option.some.inj e; omega)).trans (h.block i hi hn)⟩
/-- the first of a list that meets f, or -1 -/
def FirstAt (f : α → Bool) (ps : List α) (r : Int) : Prop := (r = -1 ∧ ps.any f = false) ∨ ∃ k : Nat, r = (k : Int) ∧ ∃ h : k < ps.length, f ps[k] = true ∧ (ps.take k).any f = false
theorem first_nil {f : α → Bool} {r : Int} (h : FirstAt f [] r) : r = -1 := by
  rcases h with ⟨h, _⟩ | ⟨k, _, h, _⟩
  · exact h
  · exact absurd h (Nat.not_lt_zero _)
/-- a function value that tells of each of these whether it is such, whatever stands in these blocks, and writes nothing old -/
def PredR (P : Program) (arr : α → Array Value) (g : Nat) (lb : Array Value) (f : α → Bool) (l : List α) (S : Nat → Prop) (w : World) : Prop :=
  ∀ (W : World) (x : α), Only S w W → x ∈ l → Calls P g (#[.agg (arr x)] ++ lb) W fun e w' => e = .returned (.bool (f x)) ∧ Below W.heap.size W w'
def FirstPost (f : α → Bool) (ps : List α) (w : World) (e : Ending) (w' : World) : Prop := ∃ r : Int, e = .returned (.int .i64 r) ∧ FirstAt f ps r ∧ Below w.heap.size w w'
theorem any_take_noR {f : α → Bool} {ps : List α} {k : Nat} (h : k < ps.length) (h0 : (ps.take k).any f = false) (e : f ps[k] = false) : (ps.take (k + 1)).any f = false := by
  rw [List.take_succ_eq_append_getElem h, List.any_append, h0]; simp [e]
/-- a list out of which those that meet f are being taken: i are kept of the first j -/
structure KeptL (f : α → Bool) (l d : List α) (i j : Nat) : Prop where
  len : d.length = l.length
  lt : i < j
  le : j ≤ l.length
  low : d.take i = (l.take j).filter (fun x => !f x)
  high : ∀ k, j ≤ k → d[k]? = l[k]?
theorem KeptL.start {f : α → Bool} {l : List α} {k : Nat} (h : k < l.length) (e : f l[k] = true) (h0 : (l.take k).any f = false) : KeptL f l l k (k + 1) := by
  refine ⟨rfl, by omega, by omega, ?_, fun _ _ => rfl⟩
  rw [List.take_succ_eq_append_getElem h, List.filter_append]
  have : (l.take k).filter (fun x => !f x) = l.take k := by
    rw [List.filter_eq_self]
    intro x hx
    have := List.any_eq_false.1 h0 x hx
    simp at this
    simp [this]
  simp [this, e]
theorem KeptL.at {f : α → Bool} {l d : List α} {i j : Nat} (h : KeptL f l d i j) (hj : j < l.length) : ∃ hd : j < d.length, d[j] = l[j] := by
  have hd : j < d.length := by rw [h.len]; exact hj
  refine ⟨hd, ?_⟩
  have := h.high j (Nat.le_refl _)
  rw [List.getElem?_eq_getElem hd, List.getElem?_eq_getElem hj] at this
  exact Option.some.inj this
theorem KeptL.keep {f : α → Bool} {l d : List α} {i j : Nat} (h : KeptL f l d i j) (hj : j < l.length) (e : f l[j] = false) : KeptL f l (d.set i l[j]) (i + 1) (j + 1) := by
  have h1 := h.len
  have h2 := h.lt
  refine ⟨by rw [List.length_set]; exact h1, by omega, by omega, ?_, fun k hk => ?_⟩
  · rw [List.take_succ_eq_append_getElem (by rw [List.length_set]; omega), List.take_set_of_le (Nat.le_refl _), h.low, List.take_succ_eq_append_getElem hj, List.filter_append]
    simp [e]
  · rw [List.getElem?_set_ne (by omega)]
    exact h.high k (by omega)
theorem KeptL.skip {f : α → Bool} {l d : List α} {i j : Nat} (h : KeptL f l d i j) (hj : j < l.length) (e : f l[j] = true) : KeptL f l d i (j + 1) := by
  have h2 := h.lt
  refine ⟨h.len, by omega, by omega, ?_, fun k hk => h.high k (by omega)⟩
  rw [h.low, List.take_succ_eq_append_getElem hj, List.filter_append]
  simp [e]
theorem KeptL.done {f : α → Bool} {l d : List α} {i : Nat} (h : KeptL f l d i l.length) : d.take i = l.filter (fun x => !f x) ∧ i = (l.filter (fun x => !f x)).length := by
  have h1 := h.low
  rw [List.take_length] at h1
  refine ⟨h1, ?_⟩
  rw [← h1, List.length_take, h.len]
  have := h.lt
  omega
theorem filter_none {f : α → Bool} {l : List α} (h : l.any f = false) : l.filter (fun x => !f x) = l := by
  rw [List.filter_eq_self]
  intro x hx
  have := List.any_eq_false.1 h x hx
  simp at this
  simp [this]
/-- what is left of an own row, cut out of it in place -/
def DelPost (T : TypeId) (n : Nat) (enc : α → List Value) (base : Nat) (v : Value) (l : List α) (w : World) (e : Ending) (w' : World) : Prop :=
  ∃ v', e = .returned v' ∧ OwnG T n enc w' base v' l ∧ Only (fun i => v.ownBlock = some i) w w' ∧ v'.ownBlock = v.ownBlock
/-- one struct of a row is written -/
theorem wpList_store_row {P : Program} (hlen : ∀ x, (enc x).length = n) {ops : Array Oper} {rest : List Oper} {op : Oper} {a : Act} {w : World} {Q : Exit → Act → World → Prop} (hgd : op.guard = none) (x y : Operand) (ho : op.op = .store T x y)
    (g cap i : Nat) (l : List α) (hR : RowB T n enc w g cap l) (hi : i < l.length) (hx : a.eval x = .pointer (some ⟨g, i * n, none⟩)) (z : α) (cells : Array Value) (hz : cells = (enc z).toArray) (hy : a.eval y = .agg cells)
    (hinfo : (P.info? T).map (·.size) = some n) (h1 : ∀ u ∈ enc z, u.oneCell' = true)
    (h : ∀ w', RowB T n enc w' g cap (l.set i z) → Only (fun j => j = g) w w' → wpList P ops Q rest (a.put op.dst undef) w') : wpList P ops Q (op :: rest) a w := by
  subst hz
  have hl := hR.len
  have hb : (i + 1) * n ≤ cap * n := Nat.mul_le_mul_right _ (by omega)
  rw [Nat.succ_mul] at hb
  refine wpList_store_mid hgd T x y ho g (i * n) (enc z).toArray hx hy (hR.there _ _ (by simp [hlen]; exact hb)) (by simp [hlen, hinfo]) (all_oneCell_toArray h1) ?_
  exact h _ (hR.set hlen i z hi) (only_cells w g (i * n) (enc z))
end
section
variable {α : Type} {T : TypeId} {n : Nat} {enc : α → List Value}
/-- a row is no box of another type -/
theorem OwnG.apart {w : World} {B P : Nat} {v : Value} {l : List α} {cs : Array Value} {T' : TypeId} (hT : T' ≠ T) (h : OwnG T n enc w B v l) (hp : Blk w P cs T') : v.ownBlock ≠ some P := by
  obtain ⟨_, h2⟩ := h
  rcases h2 with ⟨rfl, _⟩ | ⟨g, cap, cur, rfl, _, hg, _⟩
  · intro e; cases e
  · intro e
    have e' : g = P := Option.some.inj e
    subst e'
    rw [hp] at hg
    have := Option.some.inj hg
    injection this with _ h3 _
    exact hT h3
theorem OwnG.kept {w w' : World} {B : Nat} {v : Value} {l : List α} {S : Nat → Prop} (h : OwnG T n enc w B v l) (ho : Only S w w') (hS : ∀ g, v.ownBlock = some g → ¬ S g) : OwnG T n enc w' B v l := ho.own h hS
theorem OwnG.base {w : World} {B B' : Nat} {v : Value} {l : List α} (h : OwnG T n enc w B v l) (hb : ∀ g, v.ownBlock = some g → B' ≤ g) : OwnG T n enc w B' v l := by
  obtain ⟨h1, h2⟩ := h
  refine ⟨h1, ?_⟩
  rcases h2 with h2 | ⟨g, cap, cur, rfl, _, hg⟩
  · exact .inl h2
  · exact .inr ⟨g, cap, cur, rfl, hb g rfl, hg⟩
theorem OwnG.lt {w : World} {B : Nat} {v : Value} {l : List α} (h : OwnG T n enc w B v l) : ∀ k, v.ownBlock = some k → B ≤ k ∧ k < w.heap.size := World.ownsRow.lt h
theorem OwnG.put' {w : World} {B P : Nat} {v : Value} {l : List α} {cs : Array Value} {T' : TypeId} (hT : T' ≠ T) (h : OwnG T n enc w B v l) (hp : Blk w P cs T') (i : Nat) (u : Value) : OwnG T n enc (w.setCell ⟨P, i, none⟩ u) B v l :=
  h.kept (Only.of_grown (S := fun i => i = P) (only_setCell (only_refl w (some P)) (.inl rfl) u) (fun _ e => (Option.some.inj e).symm)) (fun g hg e => h.apart hT hp (by rw [hg, e]))
theorem cells_blk {w : World} {b : Nat} {cs : List Value} {T' : TypeId} (h : Blk w b cs.toArray T') : ∀ j u, cs[j]? = some u → w.cell? ((⟨b, 0, none⟩ : Addr).add j) = some u := by
  intro j u hj
  rw [Addr.add_mid, Nat.zero_add]
  exact h.cell j (by simpa using hj)
/-- an append of the one element that lies in block b, wherever that is, and where the new row lies -/
theorem step_append_blk {P : Program} {TS : TypeId} {z : Value} {bytes : Nat} (hinfo : (P.info? T).map (fun i => (i.zero, i.size, i.bytes)) = some (some z, n, bytes)) (hU : P.underlying TS = some (.slice T)) (hzs : z.cells.size = n) (h0 : 0 < n)
    (hlen : ∀ x, (enc x).length = n)
    {ops : Array Oper} {o : Oper} {a : Act} {K : Act → World → Prop} {Q : Exit → Act → World → Prop} {E : Prop} (hgd : o.guard = none) (s x : Operand)
    (ho : o.op = .call { callee := .builtin .append, args := #[s, x], argTypes := #[TS, TS] })
    (w : World) (base : Nat) (v : Value) (l : List α) (hs : a.eval s = v) (hown : OwnG T n enc w base v l) (y : α) (hone : ∀ u ∈ enc y, u.oneCell' = true) (cs : Array Value) (hcs : cs = (enc y).toArray) {T' : TypeId}
    (b : Nat) (hb : Blk w b cs T') (hx : a.eval x = .slice (some ⟨b, 0, none⟩) 1 1) (hl : l.length + 1 ≤ maxLen) (hl' : (l.length + 1) * bytes ≤ 140737488355328) (hbase : base ≤ w.heap.size)
    (h : ∀ g cap w', OwnG T n enc w' base (.slice (some ⟨g, 0, none⟩) (l.length + 1) cap) (l ++ [y]) → w.grownBy w' v.ownBlock → (v.ownBlock = some g ∨ g = w.heap.size) → K (a.put o.dst (.slice (some ⟨g, 0, none⟩) (l.length + 1) cap)) w') :
    if Region.wanted o (yielded ops a.tmps) = true then Oper.wp P o a w K Q else E := by
  obtain ⟨i0, hi, hz0, hz1, hz2⟩ := info_parts hinfo
  subst hcs
  refine step_append_lies w hgd s x TS ho base T i0 z n bytes hU hi hz0 hz1 hz2 hzs h0 v _ _ hs hown ⟨b, 0, none⟩ 1 1 (enc y) hx (by rw [hlen, Nat.one_mul])
    (cells_blk hb) hone Nat.zero_lt_one hl hl' hbase w.heap.size rfl ?_
  intro g cap w' hown' hgrow hat _
  refine h g cap w' ?_ hgrow hat
  unfold OwnG
  rw [List.length_append, List.flatMap_append, List.flatMap_singleton]
  exact hown'
theorem wpList_append_blk {P : Program} {TS : TypeId} {z : Value} {bytes : Nat} (hinfo : (P.info? T).map (fun i => (i.zero, i.size, i.bytes)) = some (some z, n, bytes)) (hU : P.underlying TS = some (.slice T)) (hzs : z.cells.size = n) (h0 : 0 < n)
    (hlen : ∀ x, (enc x).length = n)
    {ops : Array Oper} {rest : List Oper} {o : Oper} {a : Act} {Q : Exit → Act → World → Prop} (hgd : o.guard = none) (s x : Operand)
    (ho : o.op = .call { callee := .builtin .append, args := #[s, x], argTypes := #[TS, TS] })
    (w : World) (base : Nat) (v : Value) (l : List α) (hs : a.eval s = v) (hown : OwnG T n enc w base v l) (y : α) (hone : ∀ u ∈ enc y, u.oneCell' = true) (cs : Array Value) (hcs : cs = (enc y).toArray) {T' : TypeId}
    (b : Nat) (hb : Blk w b cs T') (hx : a.eval x = .slice (some ⟨b, 0, none⟩) 1 1) (hl : l.length + 1 ≤ maxLen) (hl' : (l.length + 1) * bytes ≤ 140737488355328) (hbase : base ≤ w.heap.size)
    (h : ∀ g cap w', OwnG T n enc w' base (.slice (some ⟨g, 0, none⟩) (l.length + 1) cap) (l ++ [y]) → w.grownBy w' v.ownBlock → (v.ownBlock = some g ∨ g = w.heap.size) → wpList P ops Q rest (a.put o.dst (.slice (some ⟨g, 0, none⟩) (l.length + 1) cap)) w') :
    wpList P ops Q (o :: rest) a w := by
  obtain ⟨i0, hi, hz0, hz1, hz2⟩ := info_parts hinfo
  subst hcs
  refine wpList_append_lies w hgd s x TS ho base T i0 z n bytes hU hi hz0 hz1 hz2 hzs h0 v _ _ hs hown ⟨b, 0, none⟩ 1 1 (enc y) hx (by rw [hlen, Nat.one_mul])
    (cells_blk hb) hone Nat.zero_lt_one hl hl' hbase w.heap.size rfl ?_
  intro g cap w' hown' hgrow hat _
  refine h g cap w' ?_ hgrow hat
  unfold OwnG
  rw [List.length_append, List.flatMap_append, List.flatMap_singleton]
  exact hown'
/-- where the row lies behind an append -/
theorem own_app {wz w3 : World} {v v2 : Value} {g4 n4 c4 : Nat} (hs : wz.heap.size ≤ w3.heap.size) (hb : v2.ownBlock = v.ownBlock) (hat : v2.ownBlock = some g4 ∨ g4 = w3.heap.size) : ∀ g, (Value.slice (some ⟨g4, 0, none⟩) n4 c4).ownBlock = some g → v.ownBlock = some g ∨ wz.heap.size ≤ g := by
  intro g hg
  have e : g4 = g := Option.some.inj hg
  subst e
  rcases hat with h | h
  · exact .inl (by rw [← hb]; exact h)
  · exact .inr (by omega)
end
/-- blocks of a thing, and those that were made since -/
def grow (S : Nat → Prop) (w w' : World) (i : Nat) : Prop := (S i ∨ w.heap.size ≤ i) ∧ i < w'.heap.size
theorem grow_trans {S : Nat → Prop} {w w1 w2 : World} (h : w.heap.size ≤ w1.heap.size) : ∀ i, grow (grow S w w1) w1 w2 i → grow S w w2 i := by
  rintro i ⟨h1 | h1, h2⟩
  · exact ⟨h1.1, h2⟩
  · exact ⟨.inr (by omega), h2⟩
theorem grow_later {S : Nat → Prop} {w w1 w2 : World} (h : w1.heap.size ≤ w2.heap.size) : ∀ i, grow S w w1 i → grow S w w2 i := fun _ h' => ⟨h'.1, by have := h'.2; omega⟩
theorem Only.grow_trans {S : Nat → Prop} {w w1 w2 : World} (h : Only S w w1) (k : Only (grow S w w1) w1 w2) : Only S w w2 := by
  refine (h.mono (T := fun i => S i ∨ w.heap.size ≤ i) (fun _ e => .inl e)).trans (k.mono (fun i e => e.1)) |>.old (fun i e => e)
/-- one cell of a block known whole is written: the world behind is a letter -/
theorem wpList_store_cell {P : Program} {w : World} {cs : Array Value} {T : TypeId} {ops : Array Oper} {rest : List Oper} {op : Oper} {a : Act} {Q : Exit → Act → World → Prop} (hgd : op.guard = none) (ty : TypeId) (x y : Operand) (ho : op.op = .store ty x y)
    (b i : Nat) (hx : a.eval x = .pointer (some ⟨b, i, none⟩)) (hb : Blk w b cs T) (hi : i < cs.size) (u : Value) (hy : a.eval y = u) (hu : u.cells = #[u]) (h1 : u.oneCell' = true) (hinfo : (P.info? ty).map (·.size) = some 1)
    (h : ∀ w', Blk w' b (cs.setIfInBounds i u) T → w.grownBy w' (some b) → wpList P ops Q rest (a.put op.dst undef) w') : wpList P ops Q (op :: rest) a w := by
  refine wpList_plain hgd fun K hK => ?_
  have hst := run_storeCells_cells (P := P) b i [u] 0 w (fun j hj => by
    have e : j = 0 := by simpa using hj
    subst e
    show (w.cell? ⟨b, i, none⟩).isSome = true
    rw [hb.cell i (Array.getElem?_eq_getElem hi)]; rfl) (fun j _ => hb.free _) (fun v hv => by rw [List.mem_singleton.1 hv]; exact h1)
  have hrun : (storeVar ty ⟨b, i, none⟩ u).run P w = .ok () (w.setCell ⟨b, i, none⟩ u) := by
    cases hq : P.info? ty with
    | none => simp [hq] at hinfo
    | some t =>
      have hs : t.size = 1 := by simpa [hq] using hinfo
      simp only [Nat.add_zero] at hst
      simp [storeVar, sizeOf, typeInfo, hq, hu, hs, hst, World.setCells]
  unfold Oper.wp execOp
  simp only [ho, hx, hy, Instr.storeAt, Instr.sureAddr, Sem.run_bind, Sem.run_pure, Result.andThen_ok, hrun]
  exact hK _ _ (h _ (hb.set i u) (only_setCell (only_refl w (some b)) (.inl rfl) u))
end Go.Proofs.Ytinlahahbhpppaa
