/- A row of bytes whose block may bear a mark that lies on no cell behind its elements (what []byte(s) lays), and appends to it. -/
import Derived.Test.YtfkflgcifddnnaaDoorBlk
import Derived.Test.YtfkflgcifddnnaaDoorOwnB
import Derived.Laws.IdiomStrings
namespace Go.Proofs.YtfkflgcifddnnaaDoor
open Go.RowKit

/-- these values laid one behind the other -/
def laidFrom : Array Value → Nat → List Value → Array Value
  | cur, _, [] => cur
  | cur, k, v :: r => laidFrom (cur.setIfInBounds k v) (k + 1) r
theorem laidFrom_size : ∀ (vs : List Value) (cur : Array Value) (k : Nat), (laidFrom cur k vs).size = cur.size
  | [], _, _ => rfl
  | _ :: r, cur, k => by unfold laidFrom; rw [laidFrom_size r]; simp
theorem laidFrom_take : ∀ (vs : List Value) (cur : Array Value) (k : Nat), k + vs.length ≤ cur.size → (laidFrom cur k vs).toList.take (k + vs.length) = cur.toList.take k ++ vs
  | [], cur, k, _ => by simp [laidFrom]
  | v :: r, cur, k, h => by
    simp only [List.length_cons] at h
    unfold laidFrom
    rw [show k + (v :: r).length = k + 1 + r.length by simp only [List.length_cons]; omega, laidFrom_take r _ (k + 1) (by simp; omega)]
    have e : (cur.setIfInBounds k v).toList.take (k + 1) = cur.toList.take k ++ [v] := by
      rw [Array.toList_setIfInBounds, List.take_succ_eq_append_getElem (by simp; omega), List.take_set_of_le (Nat.le_refl _)]
      simp
    rw [e]
    simp
/-- cells ahead of which nothing is frozen -/
def Bare (fz : Nat × Nat) (lo hi : Nat) : Prop := ∀ j, lo ≤ j → j < hi → ¬ (fz.1 ≤ j ∧ j < fz.2)
theorem run_laidFrom (P : Program) (g o : Nat) (t : TypeId) (fz : Nat × Nat) : ∀ (vs : List Value) (i : Nat) (cur : Array Value) (w : World), w.heap[g]? = some (.cells cur t fz) → Bare fz (o + i) cur.size → o + i + vs.length ≤ cur.size → (∀ v ∈ vs, v.oneCell' = true) →
    (storeCells ⟨g, o, none⟩ vs i).run P w = .ok () (w.setRow g (laidFrom cur (o + i) vs))
  | [], i, cur, w, hg, _, _, _ => by
    show Result.ok () w = _
    rw [show laidFrom cur (o + i) [] = cur from rfl, setRow_self w g cur t fz hg]
  | v :: r, i, cur, w, hg, hfz, hl, h1 => by
    simp only [List.length_cons] at hl
    have hi : o + i < cur.size := by omega
    have hadd : (⟨g, o, none⟩ : Addr).add i = ⟨g, o + i, none⟩ := by unfold Addr.add; split <;> simp_all
    have hcell : w.cell? ⟨g, o + i, none⟩ = some cur[o + i] := by simp [World.cell?, hg, hi]
    have hfro : w.frozen? ⟨g, o + i, none⟩ = false := by
      have := hfz (o + i) (Nat.le_refl _) hi
      obtain ⟨lo, hi'⟩ := fz
      simp only [World.frozen?, hg]
      by_cases hlo : lo ≤ o + i
      · have : ¬ (o + i < hi') := fun h => this ⟨hlo, h⟩
        simp [this]
      · simp [hlo]
    have hst : (store ((⟨g, o, none⟩ : Addr).add i) v).run P w = .ok () (w.setRow g (cur.setIfInBounds (o + i) v)) := by
      rw [hadd, run_store P w _ v _ (h1 v (by simp)), hcell]
      simp [hfro, setCell_eq_setRow w g (o + i) cur t fz v hg]
    have ih := run_laidFrom P g o t fz r (i + 1) (cur.setIfInBounds (o + i) v) (w.setRow g (cur.setIfInBounds (o + i) v)) (setRow_heap w g cur _ t _ hg)
      (fun j h2 h3 => hfz j (by omega) (by simpa using h3)) (by simp; omega) (fun x hx => h1 x (by simp [hx]))
    simp only [storeCells, Sem.run_bind, hst, Result.andThen_ok, ih, setRow_setRow]
    rfl

/-- v is a slice of the call's own that holds these bytes; its block may bear a mark, on no cell behind them -/
def OwnM (w : World) (base : Nat) (v : Value) (l : List UInt8) : Prop :=
  ∃ g cap cur fz, v = .slice (some ⟨g, 0, none⟩) l.length cap ∧ base ≤ g ∧ w.heap[g]? = some (.cells cur 5 fz) ∧ Bare fz l.length cap ∧ l.length ≤ cap ∧ cap ≤ maxLen ∧ cur.size = cap ∧ cur.toList.take l.length = l.map bv
section
variable {w w' : World} {base : Nat} {v : Value} {l : List UInt8}
theorem OwnM.kept {row : Option Nat} (h : OwnM w base v l) (hg : w.grownBy w' row) (hne : v.ownBlock ≠ row) : OwnM w' base v l := by
  obtain ⟨g, cap, cur, fz, rfl, hb, hgg, rest⟩ := h
  exact ⟨g, cap, cur, fz, rfl, hb, (hg.block g (Array.getElem?_eq_some_iff.1 hgg).1 (by simpa [Value.ownBlock] using hne)).trans hgg, rest⟩
theorem OwnM.later (h : OwnM w base v l) (hb : Below w.heap.size w w') : OwnM w' base v l := by
  obtain ⟨g, cap, cur, fz, rfl, hbg, hgg, rest⟩ := h
  exact ⟨g, cap, cur, fz, rfl, hbg, (hb.block g (Array.getElem?_eq_some_iff.1 hgg).1).trans hgg, rest⟩
theorem OwnM.alloc (h : OwnM w base v l) (o : Obj) : OwnM (w.alloc o) base v l := h.later ((Below.refl _ _).alloc (Nat.le_refl _) _)
theorem OwnM.lt (h : OwnM w base v l) : ∀ k, v.ownBlock = some k → base ≤ k ∧ k < w.heap.size := by
  obtain ⟨g, cap, cur, fz, rfl, hbg, hgg, rest⟩ := h
  intro k hk
  simp [Value.ownBlock] at hk
  subst hk
  exact ⟨hbg, (Array.getElem?_eq_some_iff.1 hgg).1⟩
theorem OwnM.shape (h : OwnM w base v l) : ∃ g cap, v = .slice (some ⟨g, 0, none⟩) l.length cap ∧ g < w.heap.size ∧ l.length ≤ cap ∧ base ≤ g ∧ ∀ j (hj : j < l.length), w.cell? ⟨g, j, none⟩ = some (bv l[j]) := by
  obtain ⟨g, cap, cur, fz, rfl, hbg, hgg, hfz, hlc, hcm, hcs, htake⟩ := h
  refine ⟨g, cap, rfl, (Array.getElem?_eq_some_iff.1 hgg).1, hlc, hbg, fun j hj => ?_⟩
  rw [cell_of_row w g j cur _ fz hgg]
  have h2 : (cur.toList.take l.length)[j]? = (l.map bv)[j]? := by rw [htake]
  rw [List.getElem?_take, if_pos hj, List.getElem?_map, List.getElem?_eq_getElem hj] at h2
  simpa using h2
end
theorem bv_one (l : List UInt8) : ∀ u ∈ l.map bv, u.oneCell' = true := by
  intro u hu
  simp only [List.mem_map] at hu
  obtain ⟨c, _, rfl⟩ := hu
  rfl
/-- what []byte(s) lays -/
theorem OwnM.made (w : World) (base cap : Nat) (s : ByteArray) (hb : base ≤ w.heap.size) (hsc : s.size ≤ cap) (hcap : cap ≤ maxLen) :
    OwnM (w.drew.alloc (.cells (bytesRow s cap) 5 ((bytesRow s cap).size, (bytesRow s cap).size + 1))) base (.slice (some ⟨w.heap.size, 0, none⟩) s.size cap) s.data.toList := by
  have hsz : (bytesRow s cap).size = cap := by
    unfold bytesRow
    simp only [Array.size_append, Array.size_map, Array.size_replicate]
    have : s.data.size = s.size := rfl
    omega
  have hl : s.data.toList.length = s.size := rfl
  refine ⟨w.heap.size, cap, bytesRow s cap, _, by rw [hl], hb, heap_alloc_new w.drew _, ?_, by rw [hl]; exact hsc, hcap, hsz, ?_⟩
  · intro j _ h2 h3
    simp only [hsz] at h3
    omega
  · unfold bytesRow
    rw [Array.toList_append, List.take_left' (by simp)]
    simp
    exact fun a _ => rfl
theorem run_append_M (w : World) (base : Nat) (ty : TypeId) (v : Value) (l : List UInt8) (hown : OwnM w base v l) (a : Addr) (c : Nat) (news : List UInt8)
    (hnews : ∀ j u, (news.map bv)[j]? = some u → w.cell? (a.add j) = some u) (hl : l.length + news.length ≤ 140737488355328) (hbase : base ≤ w.heap.size) :
    ∃ v' w', (Builtin.append_ #[134, 134] ty #[v, .slice (some a) news.length c]).run Tryd.prog w = .ok v' w' ∧ OwnM w' base v' (l ++ news) ∧ w.grownBy w' v.ownBlock := by
  obtain ⟨i0, hi, hz0, hz1, hz2⟩ := info_parts infoByte
  have hml : 140737488355328 ≤ maxLen := by unfold maxLen; omega
  have hm : (news.map bv).length = news.length := by simp
  have hq : (l ++ news).length = l.length + news.length := List.length_append
  have hfull := hown
  obtain ⟨g, cap, cur, fz, rfl, hbg, hgg, hfz, hlc, hcm, hcs, htake⟩ := hown
  by_cases hroom : l.length + news.length ≤ cap
  · have hf := run_firstCells_some (P := Tryd.prog) w i0.size news.length a news.length c (news.map bv) (by rw [hz1]; simp) hnews
    have hst := run_laidFrom Tryd.prog g l.length 5 fz (news.map bv) 0 cur w hgg (by rw [hcs]; simpa using hfz) (by rw [hm, hcs]; simpa using hroom) (bv_one news)
    simp only [Nat.add_zero] at hst
    refine ⟨.slice (some ⟨g, 0, none⟩) (l.length + news.length) cap, w.setRow g (laidFrom cur l.length (news.map bv)), ?_, ⟨g, cap, _, fz, by rw [hq], hbg, setRow_heap w g cur _ _ _ hgg, ?_, by rw [hq]; exact hroom, hcm, by rw [laidFrom_size]; exact hcs, ?_⟩,
      ⟨rfl, rfl, rfl, by simp, fun k _ hk => setRow_other w g k _ (fun e => hk (by simp [Value.ownBlock, e]))⟩⟩
    · rw [hz1] at hf
      simp [Builtin.append_, run_underlying Tryd.underlying134, sizeOf, typeInfo, hi, hz1, Builtin.lenOf, hroom, hf, Addr.add_lit, hst]
    · rw [hq]; exact fun j h1 h2 => hfz j (by omega) h2
    · rw [hq, show l.length + news.length = l.length + (news.map bv).length by rw [hm], laidFrom_take _ _ _ (by rw [hm, hcs]; exact hroom), htake, List.map_append]
  · have holds : ∀ j u, (l.map bv)[j]? = some u → w.cell? ((⟨g, 0, none⟩ : Addr).add j) = some u := by
      intro j u hu
      have hadd : (⟨g, 0, none⟩ : Addr).add j = ⟨g, j, none⟩ := by unfold Addr.add; split <;> simp_all
      obtain ⟨g', cap', hv, _, _, _, hc⟩ := hfull.shape
      cases hv
      have hj : j < l.length := by
        have := (List.getElem?_eq_some_iff.1 hu).1
        simpa using this
      rw [hadd, hc j hj]
      rw [List.getElem?_map, List.getElem?_eq_getElem hj] at hu
      simpa using hu
    have hr := run_append_grow (P := Tryd.prog) w 134 ty 5 i0 (.int .u8 0) Tryd.underlying134 hi hz0 ⟨g, 0, none⟩ l.length cap (l.map bv) (by rw [hz1]; simp) holds a news.length c (news.map bv) (by rw [hz1]; simp) hnews (by omega) (by omega) (by rw [hz2]; exact growslice_fits (by omega) (by omega))
    have hge := grownCap_ge w (l.length + news.length) cap 5
    have hcm2 : grownCap w (l.length + news.length) cap 5 ≤ maxLen := grownCap_le_maxLen w (l.length + news.length) cap _ (by omega)
    refine ⟨_, _, hr, ⟨w.heap.size, grownCap w (l.length + news.length) cap 5, _, (0, 0), by rw [hq], hbase, heap_alloc_new w.drew _, fun j _ _ h => by simp at h, by rw [hq]; exact hge, hcm2, ?_, ?_⟩,
      ⟨rfl, rfl, rfl, by simp, fun k hk _ => Below.heap_alloc w.drew _ k hk⟩⟩
    · have hz1 : (Value.int IntKind.u8 0).cells.size = 1 := rfl
      simp only [Array.size_append, List.size_toArray, size_zeroCells, hz1, List.length_map]
      omega
    · simp only [Array.toList_append, List.append_assoc]
      rw [← List.append_assoc, hq, List.map_append]
      exact List.take_left' (by simp)
theorem wpList_append_M {ops : Array Oper} {rest : List Oper} {o : Oper} {a : Act} {Q : Exit → Act → World → Prop} (hgd : o.guard = none) (s x : Operand)
    (ho : o.op = .call { callee := .builtin .append, args := #[s, x], argTypes := #[134, 134] })
    (w : World) (base : Nat) (v : Value) (l : List UInt8) (hs : a.eval s = v) (hown : OwnM w base v l) (ad : Addr) (c : Nat) (news : List UInt8) (n : Nat) (hn : n = news.length)
    (hx : a.eval x = .slice (some ad) n c) (hnews : ∀ j u, (news.map bv)[j]? = some u → w.cell? (ad.add j) = some u) (hl : l.length + news.length ≤ 140737488355328) (hbase : base ≤ w.heap.size)
    (h : ∀ v' w', OwnM w' base v' (l ++ news) → w.grownBy w' v.ownBlock → wpList Tryd.prog ops Q rest (a.put o.dst v') w') :
    wpList Tryd.prog ops Q (o :: rest) a w := by
  subst hn
  refine wpList_plain hgd fun K hK => ?_
  obtain ⟨v', w', hr, h2, h3⟩ := run_append_M w base o.type v l hown ad c news hnews hl hbase
  unfold Oper.wp execOp
  simp only [ho, resolve, invoke, builtin, Sem.run_bind, Sem.run_pure, Result.andThen_ok, List.map_toArray, List.map_cons, List.map_nil, hs, hx, hr]
  exact hK _ _ (h v' w' h2 h3)
theorem wpList_append_byteM {ops : Array Oper} {rest : List Oper} {o : Oper} {a : Act} {Q : Exit → Act → World → Prop} (hgd : o.guard = none) (s x : Operand)
    (ho : o.op = .call { callee := .builtin .append, args := #[s, x], argTypes := #[134, 134] })
    (w : World) (b base : Nat) (hwb : b = w.heap.size) (v : Value) (l : List UInt8) (hs : a.eval s = v) (hown : OwnM w base v l) (c : UInt8) (n : Int) (hn : n = (c.toNat : Int))
    (hx : a.eval x = .slice (some ⟨b, 0, none⟩) 1 1) (hl : l.length + 1 ≤ 140737488355328) (hbase : base ≤ w.heap.size)
    (h : ∀ v' w', OwnM w' base v' (l ++ [c]) → (w.alloc (.cells #[.int .u8 n] 5)).grownBy w' v.ownBlock → wpList Tryd.prog ops Q rest (a.put o.dst v') w') :
    wpList Tryd.prog ops Q (o :: rest) a (w.alloc (.cells #[.int .u8 n] 5)) := by
  subst hn hwb
  exact wpList_append_M hgd s x ho _ base v l hs (hown.alloc _) ⟨w.heap.size, 0, none⟩ 1 [c] 1 rfl hx (cell_one_new _ _ _) hl (by simp; omega) h
theorem below_appendM {base : Nat} {a w w' : World} {o : Obj} {v : Value} {l : List UInt8} (hB : Below base a w) (hO : OwnM w base v l) (hg : (w.alloc o).grownBy w' v.ownBlock) (hb : base ≤ w.heap.size) : Below base a w' :=
  (hB.alloc hb o).grown hg (by simp; omega) (fun k hk => (hO.lt k hk).1)
end Go.Proofs.YtfkflgcifddnnaaDoor
