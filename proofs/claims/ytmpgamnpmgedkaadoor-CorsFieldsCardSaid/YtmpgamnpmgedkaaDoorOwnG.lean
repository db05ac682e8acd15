/- Rows of structs: read, and made by a call for itself. -/
import Derived.Test.YtmpgamnpmgedkaaDoorOwn
namespace Go.Proofs.YtmpgamnpmgedkaaDoor
open Go.RowKit
section
variable {α : Type} {T : TypeId} {n : Nat} {enc : α → List Value}
/-- v is a slice of the call's own, in blocks from base on, that holds these structs (n cells each). -/
def OwnG (T : TypeId) (n : Nat) (enc : α → List Value) (w : World) (base : Nat) (v : Value) (l : List α) : Prop := w.ownsRow base T n v l.length (l.flatMap enc)
/-- these structs lie from a on -/
def RowAt (n : Nat) (enc : α → List Value) (w : World) (a : Option Addr) (l : List α) : Prop :=
  ∀ i (h : i < l.length), ∃ b off, a = some ⟨b, off, none⟩ ∧ ∀ j u, (enc l[i])[j]? = some u → w.cell? ⟨b, off + i * n + j, none⟩ = some u
theorem RowAt.later {w w' : World} {a : Option Addr} {l : List α} (h : RowAt n enc w a l) (hb : Below w.heap.size w w') : RowAt n enc w' a l := by
  intro i hi
  obtain ⟨b, off, e, hc⟩ := h i hi
  exact ⟨b, off, e, fun j u hu => (hb.cell (World.block_lt_of_cell? w _ (hc j u hu))).trans (hc j u hu)⟩
theorem RowAt.nil (w : World) (a : Option Addr) : RowAt n enc w a [] := fun i h => by simp at h
theorem RowAt.grown {w w' : World} {row : Option Nat} {b0 : Nat} {off : Nat} {l : List α} (h : RowAt n enc w (some ⟨b0, off, none⟩) l) (hg : w.grownBy w' row) (hne : row ≠ some b0) : RowAt n enc w' (some ⟨b0, off, none⟩) l := by
  intro i hi
  obtain ⟨b, o, e, hc⟩ := h i hi
  cases e
  exact ⟨b0, off, rfl, fun j u hu => hg.cell (hc j u hu) (fun e => hne e.symm)⟩
theorem OwnG.nil (w : World) (base : Nat) : OwnG T n enc w base (.slice none 0 0) [] := World.ownsRow_nil w base _ _
theorem OwnG.later {w w' : World} {base : Nat} {v : Value} {l : List α} (h : OwnG T n enc w base v l) (hb : Below w.heap.size w w') : OwnG T n enc w' base v l := own_later h hb
theorem flat_at (hlen : ∀ x, (enc x).length = n) : ∀ (l : List α) (i j : Nat) (h : i < l.length), j < n → (l.flatMap enc)[i * n + j]? = (enc l[i])[j]?
  | x :: l, 0, j, _, hj => by
    rw [List.flatMap_cons, Nat.zero_mul, Nat.zero_add, List.getElem?_append_left (by rw [hlen]; exact hj)]
    rfl
  | x :: l, i + 1, j, h, hj => by
    rw [List.flatMap_cons, List.getElem?_append_right (by rw [hlen, Nat.succ_mul]; omega), hlen, show (i + 1) * n + j - n = i * n + j by rw [Nat.succ_mul]; omega]
    exact flat_at hlen l i j (by simpa using h) hj
theorem flat_len (hlen : ∀ x, (enc x).length = n) : ∀ l : List α, (l.flatMap enc).length = l.length * n
  | [] => by simp
  | x :: l => by rw [List.flatMap_cons, List.length_append, hlen, flat_len hlen l, List.length_cons, Nat.succ_mul, Nat.add_comm]
theorem OwnG.shape (hlen : ∀ x, (enc x).length = n) {w : World} {base : Nat} {v : Value} {l : List α} (h : OwnG T n enc w base v l) :
    ∃ a cap, v = .slice a l.length cap ∧ RowAt n enc w a l ∧ l.length ≤ cap ∧ cap ≤ maxLen ∧ (a = none → l = []) := by
  obtain ⟨h1, h2⟩ := h
  rcases h2 with ⟨rfl, h3⟩ | ⟨g, cap, cur, rfl, hb, hg, hn, hm, hs, ht⟩
  · obtain rfl := List.length_eq_zero_iff.1 h3
    exact ⟨none, 0, rfl, RowAt.nil _ _, Nat.le_refl _, Nat.zero_le _, fun _ => rfl⟩
  · refine ⟨_, cap, rfl, ?_, hn, hm, fun e => by cases e⟩
    intro i hi
    refine ⟨g, 0, rfl, fun j u hu => ?_⟩
    have hj : j < n := by
      have := (List.getElem?_eq_some_iff.1 hu).1
      rwa [hlen] at this
    rw [Nat.zero_add, cell_of_row w g _ cur _ _ hg]
    have hlt : i * n + j < l.length * n := by
      calc i * n + j < i * n + n := by omega
        _ = (i + 1) * n := (Nat.succ_mul i n).symm
        _ ≤ l.length * n := Nat.mul_le_mul_right _ hi
    have : (cur.toList.take (l.length * n))[i * n + j]? = (l.flatMap enc)[i * n + j]? := by rw [ht]
    rw [List.getElem?_take, if_pos hlt, flat_at hlen l i j hi hj, hu] at this
    simpa using this
theorem cell_row_new (w : World) (xs : List Value) (t : TypeId) : ∀ j u, xs[j]? = some u → (w.alloc (.cells xs.toArray t)).cell? ((⟨w.heap.size, 0, none⟩ : Addr).add j) = some u := by
  intro j u hj
  have e : (⟨w.heap.size, 0, none⟩ : Addr).add j = ⟨w.heap.size, j, none⟩ := by unfold Addr.add; split <;> simp_all
  rw [e, World.cell?_alloc_mark]
  simpa using hj
theorem wpList_append_one {P : Program} {TS : TypeId} {z : Value} {bytes : Nat} (hinfo : (P.info? T).map (fun i => (i.zero, i.size, i.bytes)) = some (some z, n, bytes)) (hU : P.underlying TS = some (.slice T)) (hzs : z.cells.size = n) (h0 : 0 < n)
    (hlen : ∀ x, (enc x).length = n)
    {ops : Array Oper} {rest : List Oper} {o : Oper} {a : Act} {Q : Exit → Act → World → Prop} (hgd : o.guard = none) (s x : Operand)
    (ho : o.op = .call { callee := .builtin .append, args := #[s, x], argTypes := #[TS, TS] })
    (w : World) (base : Nat) (v : Value) (l : List α) (hs : a.eval s = v) (hown : OwnG T n enc w base v l) (y : α) (hone : ∀ u ∈ enc y, u.oneCell' = true) (cs : Array Value) (hcs : cs = (enc y).toArray)
    (b : Nat) (hx : a.eval x = .slice (some ⟨b, 0, none⟩) 1 1) (hb : b = w.heap.size) (hl : l.length + 1 ≤ maxLen) (hl' : (l.length + 1) * bytes ≤ 140737488355328) (hbase : base ≤ w.heap.size)
    (h : ∀ v' w', OwnG T n enc w' base v' (l ++ [y]) → (w.alloc (.cells cs T)).grownBy w' v.ownBlock → v' ≠ .slice none 0 0 → wpList P ops Q rest (a.put o.dst v') w') :
    wpList P ops Q (o :: rest) a (w.alloc (.cells cs T)) := by
  obtain ⟨i0, hi, hz0, hz1, hz2⟩ := info_parts hinfo
  subst hcs hb
  refine wpList_append_own _ hgd s x TS ho base T i0 z n bytes hU hi hz0 hz1 hz2 hzs h0 v _ _ hs (hown.alloc _) ⟨w.heap.size, 0, none⟩ 1 1 (enc y) hx (by rw [hlen, Nat.one_mul])
    (cell_row_new _ _ _) hone hl hl' (by simp; omega) ?_
  intro v' w' hown' hgrow hnil
  refine h v' w' ?_ hgrow (fun e => by have := (hnil.1 e).2; cases this)
  unfold OwnG
  rw [List.length_append, List.flatMap_append, List.flatMap_singleton]
  exact hown'
end

/-! parameters -/
def encPar (p : ByteArray × ByteArray) : List Value := [.string p.1, .string p.2]
theorem encPar_len (p : ByteArray × ByteArray) : (encPar p).length = 2 := rfl
theorem encPar_one (p : ByteArray × ByteArray) : ∀ u ∈ encPar p, u.oneCell' = true := by
  intro u hu
  simp only [encPar, List.mem_cons, List.not_mem_nil, or_false] at hu
  rcases hu with rfl | rfl <;> rfl
theorem infoPar : (Tryd.prog.info? 25).map (fun i => (i.zero, i.size, i.bytes)) = some (some (.agg #[.string ⟨#[]⟩, .string ⟨#[]⟩]), 2, 32) := by kernel_rfl
end Go.Proofs.YtmpgamnpmgedkaaDoor
