/- Rows of ints that a call makes for itself: appends, reads, stores. -/
import Derived.Test.YtfkflgcifddnnaaDoorBlk
import Derived.Test.YtfkflgcifddnnaaDoorOwn
import Derived.Deep.AppendLies
import Derived.Deep.RegionHeld3
namespace Go.Proofs.YtfkflgcifddnnaaDoor
open Go.RowKit

theorem infoInt : (Tryd.prog.info? 3).map (fun i => (i.zero, i.size, i.bytes)) = some (some (.int .i64 0), 1, 8) := by kernel_rfl
def iv (n : Nat) : Value := .int .i64 (n : Int)
/-- a block whose first cells are these ints -/
def RowI (w : World) (b : Nat) (l : List Nat) : Prop := ∃ cur, w.heap[b]? = some (.cells cur 3 (0, 0)) ∧ l.length ≤ cur.size ∧ cur.toList.take l.length = l.map iv
section
variable {w w' : World} {b : Nat} {l : List Nat}
theorem RowI.lt (h : RowI w b l) : b < w.heap.size := by
  obtain ⟨cur, h1, _⟩ := h
  exact (Array.getElem?_eq_some_iff.1 h1).1
theorem RowI.cell (h : RowI w b l) (i : Nat) (hi : i < l.length) : w.cell? ⟨b, i, none⟩ = some (.int .i64 (l.getD i 0 : Nat)) := by
  obtain ⟨cur, h1, h2, h3⟩ := h
  rw [cell_of_row w b i cur _ _ h1]
  have h4 : (cur.toList.take l.length)[i]? = (l.map iv)[i]? := by rw [h3]
  rw [List.getElem?_take, if_pos hi, List.getElem?_map, List.getElem?_eq_getElem hi] at h4
  rw [List.getD_eq_getElem?_getD, List.getElem?_eq_getElem hi]
  simpa [iv] using h4
theorem RowI.free (h : RowI w b l) (i : Nat) : w.frozen? ⟨b, i, none⟩ = false := by
  obtain ⟨cur, h1, _⟩ := h
  exact Lib.frozen_of_heap h1 i
theorem RowI.later (h : RowI w b l) (hb : Below w.heap.size w w') : RowI w' b l := by
  obtain ⟨cur, h1, h2⟩ := h
  exact ⟨cur, (hb.block b (Array.getElem?_eq_some_iff.1 h1).1).trans h1, h2⟩
theorem RowI.kept {row : Option Nat} (h : RowI w b l) (hg : w.grownBy w' row) (hne : row ≠ some b) : RowI w' b l := by
  obtain ⟨cur, h1, h2⟩ := h
  exact ⟨cur, (hg.block b (Array.getElem?_eq_some_iff.1 h1).1 (fun e => hne e.symm)).trans h1, h2⟩
theorem RowI.drewN (h : RowI w b l) (n : Nat) : RowI (w.drewN n) b l := h
theorem RowI.drew (h : RowI w b l) : RowI w.drew b l := h
theorem RowI.far (h : RowI w b l) (a : Addr) (v : Value) (hne : a.block ≠ b) : RowI (w.setCell a v) b l := by
  obtain ⟨cur, h1, h2⟩ := h
  exact ⟨cur, (Below.heap_setCell w a v b (fun e => hne e.symm)).trans h1, h2⟩
theorem RowI.set (h : RowI w b l) (i x : Nat) : RowI (w.setCell ⟨b, i, none⟩ (.int .i64 (x : Nat))) b (l.set i x) := by
  obtain ⟨cur, h1, h2, h3⟩ := h
  refine ⟨cur.setIfInBounds i (iv x), ?_, by simpa using h2, ?_⟩
  · simp [World.setCell, Array.getElem?_modify, h1, iv]
  · rw [List.length_set, Array.toList_setIfInBounds, List.take_set, h3, List.map_set]
end
theorem RowI.news {w : World} {b : Nat} {l : List Nat} (h : RowI w b l) (k : Nat) : ∀ j u, ((l.take k).map iv)[j]? = some u → w.cell? ((⟨b, 0, none⟩ : Addr).add j) = some u := by
  intro j u hu
  have hj : j < (l.take k).length := by
    have := (List.getElem?_eq_some_iff.1 hu).1
    simpa using this
  have hj2 : j < l.length := by rw [List.length_take] at hj; omega
  have e : (⟨b, 0, none⟩ : Addr).add j = ⟨b, j, none⟩ := by unfold Addr.add; split <;> simp_all
  rw [e, h.cell j hj2]
  rw [List.getElem?_map, List.getElem?_eq_getElem hj, List.getElem_take] at hu
  rw [List.getD_eq_getElem?_getD, List.getElem?_eq_getElem hj2]
  simpa [iv] using hu
/-- v is a slice of the call's own, in blocks from base on, that holds these ints. -/
def OwnI (w : World) (base : Nat) (v : Value) (l : List Nat) : Prop := w.ownsRow base 3 1 v l.length (l.map iv)
theorem OwnI.nil (w : World) (base : Nat) : OwnI w base (.slice none 0 0) [] := World.ownsRow_nil w base _ _
theorem OwnI.later {w w' : World} {base : Nat} {v : Value} {l : List Nat} (h : OwnI w base v l) (hb : Below w.heap.size w w') : OwnI w' base v l := own_later h hb
theorem OwnI.row {w : World} {base : Nat} {v : Value} {l : List Nat} (h : OwnI w base v l) (h0 : l ≠ []) : ∃ b cap, v = .slice (some ⟨b, 0, none⟩) l.length cap ∧ base ≤ b ∧ RowI w b l ∧ l.length ≤ cap ∧ cap ≤ maxLen := by
  obtain ⟨h1, h2⟩ := h
  rcases h2 with ⟨rfl, h3⟩ | ⟨g, cap, cur, rfl, hb, hg, hn, hm, hs, ht⟩
  · exact absurd (List.length_eq_zero_iff.1 h3) h0
  · exact ⟨g, cap, rfl, hb, ⟨cur, hg, by omega, by simpa using ht⟩, hn, hm⟩
theorem OwnI.one (w : World) (base x : Nat) (hb : base ≤ w.heap.size) : OwnI (w.alloc (.cells #[.int .i64 (x : Nat)] 3)) base (.slice (some ⟨w.heap.size, 0, none⟩) 1 1) [x] :=
  ⟨rfl, .inr ⟨w.heap.size, 1, #[iv x], rfl, hb, heap_alloc_new w _, Nat.le_refl _, by decide, rfl, rfl⟩⟩
theorem iv_one (l : List Nat) : ∀ u ∈ l.map iv, u.oneCell' = true := by
  intro u hu
  simp only [List.mem_map] at hu
  obtain ⟨c, _, rfl⟩ := hu
  rfl
/-- an append of ints that lie somewhere -/
theorem wpList_append_ints {ops : Array Oper} {rest : List Oper} {o : Oper} {a : Act} {Q : Exit → Act → World → Prop} (hgd : o.guard = none) (s x : Operand)
    (ho : o.op = .call { callee := .builtin .append, args := #[s, x], argTypes := #[137, 137] })
    (w : World) (base : Nat) (v : Value) (l : List Nat) (hs : a.eval s = v) (hown : OwnI w base v l) (ad : Addr) (c : Nat) (news : List Nat) (n : Nat) (hn : n = news.length)
    (hx : a.eval x = .slice (some ad) n c) (hnews : ∀ j u, (news.map iv)[j]? = some u → w.cell? (ad.add j) = some u) (hl : (l.length + news.length) * 8 ≤ 140737488355328) (hbase : base ≤ w.heap.size)
    (h : ∀ v' w', OwnI w' base v' (l ++ news) → w.grownBy w' v.ownBlock → wpList Tryd.prog ops Q rest (a.put o.dst v') w') :
    wpList Tryd.prog ops Q (o :: rest) a w := by
  obtain ⟨i0, hi, hz0, hz1, hz2⟩ := info_parts infoInt
  subst hn
  refine wpList_append_own _ hgd s x 137 ho base 3 i0 (.int .i64 0) 1 8 Tryd.underlying137 hi hz0 hz1 hz2 rfl (by decide) v _ _ hs hown ad news.length c (news.map iv) hx (by simp)
    hnews (iv_one news) (by unfold maxLen; omega) hl hbase ?_
  intro v' w' hown' hgrow _
  refine h v' w' ?_ hgrow
  unfold OwnI
  rw [List.length_append, List.map_append]
  exact hown'
theorem one_at (w : World) (x : Nat) : ∀ j u, (([x] : List Nat).map iv)[j]? = some u → (w.alloc (.cells #[.int .i64 (x : Nat)] 3)).cell? ((⟨w.heap.size, 0, none⟩ : Addr).add j) = some u :=
  cell_one_new w (.int .i64 (x : Nat)) 3
theorem wpList_append_int {ops : Array Oper} {rest : List Oper} {o : Oper} {a : Act} {Q : Exit → Act → World → Prop} (hgd : o.guard = none) (s x : Operand)
    (ho : o.op = .call { callee := .builtin .append, args := #[s, x], argTypes := #[137, 137] })
    (w : World) (b base : Nat) (hwb : b = w.heap.size) (v : Value) (l : List Nat) (hs : a.eval s = v) (hown : OwnI w base v l) (c : Nat) (n : Int) (hn : n = (c : Int))
    (hx : a.eval x = .slice (some ⟨b, 0, none⟩) 1 1) (hl : (l.length + 1) * 8 ≤ 140737488355328) (hbase : base ≤ w.heap.size)
    (h : ∀ v' w', OwnI w' base v' (l ++ [c]) → (w.alloc (.cells #[.int .i64 n] 3)).grownBy w' v.ownBlock → wpList Tryd.prog ops Q rest (a.put o.dst v') w') :
    wpList Tryd.prog ops Q (o :: rest) a (w.alloc (.cells #[.int .i64 n] 3)) := by
  subst hn hwb
  exact wpList_append_ints hgd s x ho _ base v l hs (own_later hown ((Below.refl _ _).alloc (Nat.le_refl _) _)) ⟨w.heap.size, 0, none⟩ 1 [c] 1 rfl hx (one_at w c) hl (by simp; omega) h
/-- an append to a row, whose own cells read on as they did -/
theorem run_append_keep (w : World) (base : Nat) (ty : TypeId) (g cap : Nat) (l : List Nat) (hown : OwnI w base (.slice (some ⟨g, 0, none⟩) l.length cap) l) (a : Addr) (c x : Nat)
    (hnews : ∀ j u, (([x] : List Nat).map iv)[j]? = some u → w.cell? (a.add j) = some u) (hl : (l.length + 1) * 8 ≤ 140737488355328) (hbase : base ≤ w.heap.size) :
    ∃ v' w', (Builtin.append_ #[137, 137] ty #[.slice (some ⟨g, 0, none⟩) l.length cap, .slice (some a) 1 c]).run Tryd.prog w = .ok v' w' ∧ OwnI w' base v' (l ++ [x]) ∧ w.grownBy w' (some g) ∧ RowI w' g l := by
  obtain ⟨i0, hi, hz0, hz1, hz2⟩ := info_parts infoInt
  have hml : 140737488355328 ≤ maxLen := by unfold maxLen; omega
  have hq : (l ++ [x]).length = l.length + 1 := by simp
  obtain ⟨_, h2⟩ := hown
  rcases h2 with ⟨hv, _⟩ | ⟨g', cap', cur, hv, hbg, hgg, hlc, hcm, hcs, htake⟩
  · cases hv
  cases hv
  rw [Nat.mul_one] at hcs htake
  by_cases hroom : l.length + 1 ≤ cap
  · have hr := run_append_room (P := Tryd.prog) w 137 ty 3 i0 Tryd.underlying137 hi g l.length cap cur hgg a 1 c (([x] : List Nat).map iv) (by rw [hz1]; rfl) hnews (iv_one [x]) hroom (by rw [hz1, hcs]; simpa using hroom)
    rw [hz1, Nat.mul_one] at hr
    have hset := setRow_heap w g cur (cur.toList.take l.length ++ ([x] : List Nat).map iv ++ cur.toList.drop (l.length + (([x] : List Nat).map iv).length)).toArray 3 (0, 0) hgg
    have hsz : (cur.toList.take l.length ++ ([x] : List Nat).map iv ++ cur.toList.drop (l.length + (([x] : List Nat).map iv).length)).toArray.size = cap := by
      simp only [List.size_toArray, List.length_append, List.length_take, List.length_drop, List.length_map, List.length_cons, List.length_nil, Array.length_toList]
      omega
    refine ⟨_, _, hr, ⟨by simp, .inr ⟨g, cap, _, by rw [hq], hbg, hset, by rw [hq]; exact hroom, hcm, by rw [hsz, Nat.mul_one], ?_⟩⟩, ⟨rfl, rfl, rfl, by simp, fun k _ hk => setRow_other w g k _ (fun e => hk (by rw [e]))⟩, ⟨_, hset, by rw [hsz]; omega, ?_⟩⟩
    · rw [htake, Nat.mul_one]
      show (l.map iv ++ ([x] : List Nat).map iv ++ _).take _ = _
      rw [List.map_append, List.take_left' (by simp)]
    · show (cur.toList.take l.length ++ ([x] : List Nat).map iv ++ _).take _ = _
      rw [htake, List.append_assoc, List.take_left' (by simp)]
  · have hrow : RowI w g l := ⟨cur, hgg, by omega, htake⟩
    have holds : ∀ j u, (l.map iv)[j]? = some u → w.cell? ((⟨g, 0, none⟩ : Addr).add j) = some u := by
      intro j u hu
      have hj : j < l.length := by
        have := (List.getElem?_eq_some_iff.1 hu).1
        simpa using this
      have hadd : (⟨g, 0, none⟩ : Addr).add j = ⟨g, j, none⟩ := by unfold Addr.add; split <;> simp_all
      rw [hadd, hrow.cell j hj]
      rw [List.getElem?_map, List.getElem?_eq_getElem hj] at hu
      rw [List.getD_eq_getElem?_getD, List.getElem?_eq_getElem hj]
      simpa [iv] using hu
    have hr := run_append_grow (P := Tryd.prog) w 137 ty 3 i0 (.int .i64 0) Tryd.underlying137 hi hz0 ⟨g, 0, none⟩ l.length cap (l.map iv) (by rw [hz1]; simp) holds a 1 c (([x] : List Nat).map iv) (by rw [hz1]; rfl) hnews (by omega) (by omega) (by rw [hz2]; exact growslice_fits (by omega) hl)
    have hge := grownCap_ge w (l.length + 1) cap 3
    have hcm2 : grownCap w (l.length + 1) cap 3 ≤ maxLen := grownCap_le_maxLen w (l.length + 1) cap _ (by omega)
    have hglt := hrow.lt
    refine ⟨_, _, hr, ⟨by simp, .inr ⟨w.heap.size, grownCap w (l.length + 1) cap 3, _, by rw [hq], hbase, heap_alloc_new w.drew _, by rw [hq]; exact hge, hcm2, ?_, ?_⟩⟩,
      ⟨rfl, rfl, rfl, by simp, fun k hk _ => Below.heap_alloc w.drew _ k hk⟩, hrow.later (((Below.refl _ _).drew).alloc (Nat.le_refl _) _)⟩
    · have hz1' : (Value.int IntKind.i64 0).cells.size = 1 := rfl
      simp only [Array.size_append, List.size_toArray, size_zeroCells, hz1', List.length_map, List.length_cons, List.length_nil]
      omega
    · simp only [Array.toList_append, List.append_assoc]
      rw [← List.append_assoc, hq, Nat.mul_one, List.map_append]
      exact List.take_left' (by simp)
theorem step_append_keep {ops : Array Oper} {o : Oper} {a : Act} {K : Act → World → Prop} {Q : Exit → Act → World → Prop} {E : Prop} (hgd : o.guard = none) (s x : Operand)
    (ho : o.op = .call { callee := .builtin .append, args := #[s, x], argTypes := #[137, 137] })
    (w : World) (base g cap n : Nat) (l : List Nat) (hnl : n = l.length) (hs : a.eval s = .slice (some ⟨g, 0, none⟩) n cap) (hown : OwnI w base (.slice (some ⟨g, 0, none⟩) l.length cap) l) (ad : Addr) (c y : Nat)
    (hx : a.eval x = .slice (some ad) 1 c) (hnews : ∀ j u, (([y] : List Nat).map iv)[j]? = some u → w.cell? (ad.add j) = some u) (hl : (l.length + 1) * 8 ≤ 140737488355328) (hbase : base ≤ w.heap.size)
    (h : ∀ v' w', OwnI w' base v' (l ++ [y]) → w.grownBy w' (some g) → RowI w' g l → K (a.put o.dst v') w') :
    if Region.wanted o (yielded ops a.tmps) = true then Oper.wp Tryd.prog o a w K Q else E := by
  subst hnl
  have hw : Region.wanted o (yielded ops a.tmps) = true := by simp [Region.wanted, hgd]
  rw [if_pos hw]
  obtain ⟨v', w', hr, h2, h3, h4⟩ := run_append_keep w base o.type g cap l hown ad c y hnews hl hbase
  unfold Oper.wp execOp
  simp only [ho, resolve, invoke, builtin, Sem.run_bind, Sem.run_pure, Result.andThen_ok, List.map_toArray, List.map_cons, List.map_nil, hs, hx, hr]
  exact h v' w' h2 h3 h4
end Go.Proofs.YtfkflgcifddnnaaDoor
