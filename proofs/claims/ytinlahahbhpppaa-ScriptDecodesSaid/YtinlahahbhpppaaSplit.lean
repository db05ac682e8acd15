/- strings.Split at one byte; lists of texts of the call's own: one more, one less. -/
import Derived.Test.YtinlahahbhpppaaFound
import Derived.Test.YtinlahahbhpppaaFoun2
namespace Go.Proofs.Ytinlahahbhpppaa
open Go.RowKit

/-- the library's own number that strings.Index reads -/
def MaxL (w : World) : Prop := ∃ m, w.cell? ⟨0, 0, none⟩ = some (.int .i64 m)
theorem MaxL.later {w w' : World} (h : MaxL w) (hb : Below w.heap.size w w') : MaxL w' :=
  let ⟨m, hm⟩ := h
  ⟨m, (hb.cell (World.block_lt_of_cell? w _ hm)).trans hm⟩
theorem maxL_of {W : World} (h : W.ShapedOpen Try.prog) : MaxL W := Try.laysM143.s1_3 W h
/-- the pieces of a text cut at c -/
def pieces (c : UInt8) (s : ByteArray) : List ByteArray := Lib.splitB ⟨#[c]⟩ 0 (Lib.countB s ⟨#[c]⟩) s
theorem pieces_datas (c : UInt8) (s : ByteArray) : datas (pieces c s) = cutL c s.data.toList := splitB_cut c s
theorem pieces_len (c : UInt8) (s : ByteArray) : (pieces c s).length = Lib.countB s ⟨#[c]⟩ + 1 := Lib.splitB_all ⟨#[c]⟩ (Nat.le_refl _) 0 _ s rfl
theorem datas_inj : ∀ {a b : List ByteArray}, datas a = datas b → a = b
  | [], [], _ => rfl
  | [], _ :: _, h => by simp [datas] at h
  | _ :: _, [], h => by simp [datas] at h
  | x :: a, y :: b, h => by
    simp only [datas, List.map_cons, List.cons.injEq] at h
    rw [ba_ext (show x.data.toList = y.data.toList from h.1), datas_inj (show datas a = datas b from h.2)]
theorem pieces_le (c : UInt8) (s : ByteArray) : (pieces c s).length ≤ s.size + 1 := by
  have := cutL_len c s.data.toList
  rw [← pieces_datas] at this
  simp only [datas, List.length_map] at this
  rw [sz_len]; exact this
theorem pieces_sz (c : UInt8) (s : ByteArray) : ∀ p ∈ pieces c s, p.size ≤ s.size := by
  intro p hp
  have := (cutL_piece c s.data.toList p.data.toList (by rw [← pieces_datas]; exact List.mem_map.2 ⟨p, hp, rfl⟩)).1
  rw [sz_len, sz_len]; exact this
theorem pieces_at (w : World) (ps : List ByteArray) : StrAt (w.alloc (.cells (ps.map Value.string).toArray 9)) (some ⟨w.heap.size, 0, none⟩) ps := by
  intro i hi
  refine ⟨w.heap.size, 0, rfl, ?_⟩
  rw [cell_of_row _ w.heap.size (0 + i) _ _ _ (heap_alloc_new w _)]
  simp [hi]
theorem OwnStr.pop {w : World} {base : Nat} {a : Option Addr} {n cap : Nat} {ss : List ByteArray} (h : OwnStr w base (.slice a (n + 1) cap) ss) : OwnStr w base (.slice a n cap) ss.dropLast := by
  obtain ⟨h1, h2⟩ := h
  rcases h2 with ⟨hv, h3⟩ | ⟨g, cap', cur, hv, hb, hg, hn, hm, hs, ht⟩
  · simp at hv
  · simp only [Value.slice.injEq] at hv
    obtain ⟨rfl, hv2, rfl⟩ := hv
    refine ⟨by simp, .inr ⟨g, cap, cur, ?_, hb, hg, by rw [List.length_dropLast]; omega, hm, hs, ?_⟩⟩
    · rw [List.length_dropLast, ← hv2]; rfl
    · rw [List.length_dropLast, List.map_dropLast, ← ht, List.dropLast_eq_take, List.take_take, List.length_take]
      have hcl : cur.toList.length = cap := by rw [Array.length_toList, hs]; omega
      rw [hcl]
      congr 1
      omega
theorem join_len (m : Nat) (sep : List UInt8) : ∀ (ss : List ByteArray), (∀ s ∈ ss, s.size ≤ m) → (Lib.join (datas ss) sep).length ≤ ss.length * (m + sep.length)
  | [], _ => by simp [datas, Lib.join_nil]
  | x :: r, h => by
    have h1 := join_len m sep r (fun s hs => h s (by simp [hs]))
    have hx := h x (by simp)
    rw [Lib.size_eq] at hx
    cases r with
    | nil =>
      have e : Lib.join (datas [x]) sep = x.data.toList := by simp [datas, Lib.join_one]
      rw [e]; simp only [List.length_cons, List.length_nil, Nat.zero_add, Nat.one_mul]; omega
    | cons y r =>
      have e : Lib.join (datas (x :: y :: r)) sep = x.data.toList ++ sep ++ Lib.join (datas (y :: r)) sep := by simp [datas, Lib.join_cons, Lib.joinTail]
      rw [e]
      simp only [List.length_append, List.length_cons] at *
      rw [Nat.succ_mul]
      omega
theorem wpList_append_str {ops : Array Oper} {rest : List Oper} {o : Oper} {a : Act} {Q : Exit → Act → World → Prop} (hgd : o.guard = none) (s x : Operand)
    (ho : o.op = .call { callee := .builtin .append, args := #[s, x], argTypes := #[44, 44] })
    (w : World) (base : Nat) (v : Value) (l : List ByteArray) (hs : a.eval s = v) (hown : OwnStr w base v l) (c : ByteArray)
    (b : Nat) (hx : a.eval x = .slice (some ⟨b, 0, none⟩) 1 1) (hb : b = w.heap.size) (hl : l.length + 1 ≤ 1099511627776) (hbase : base ≤ w.heap.size)
    (h : ∀ v' w', OwnStr w' base v' (l ++ [c]) → (w.alloc (.cells #[.string c] 9)).grownBy w' v.ownBlock → wpList Try.prog ops Q rest (a.put o.dst v') w') :
    wpList Try.prog ops Q (o :: rest) a (w.alloc (.cells #[.string c] 9)) := by
  obtain ⟨i0, hi, hz0, hz1, hz2⟩ := info_parts infoString
  subst hb
  refine wpList_append_own _ hgd s x 44 ho base 9 i0 (.string ⟨#[]⟩) 1 16 Try.underlying44 hi hz0 hz1 hz2 rfl (by decide) v _ _ hs (World.ownsRow.alloc hown _) ⟨w.heap.size, 0, none⟩ 1 1 [.string c] hx rfl
    (cell_one_new _ _ _) (one_cell_string _) (by unfold maxLen; omega) (by omega) (by simp; omega) ?_
  intro v' w' hown' hgrow _
  exact h v' w' (OwnStr.snoc hown') hgrow

/-- the same, or a row of no element and no room at block e -/
def OwnE (w : World) (base e : Nat) (v : Value) (l : List ByteArray) : Prop := OwnStr w base v l ∨ (l = [] ∧ v = .slice (some ⟨e, 0, none⟩) 0 0)
theorem OwnE.later {w w' : World} {base e : Nat} {v : Value} {l : List ByteArray} (h : OwnE w base e v l) (hb : Below w.heap.size w w') : OwnE w' base e v l := h.imp (fun h => OwnStr.later h hb) id
theorem OwnE.shape {w : World} {base e : Nat} {v : Value} {l : List ByteArray} (h : OwnE w base e v l) : ∃ a cap, v = .slice a l.length cap ∧ StrAt w a l ∧ l.length ≤ cap ∧ cap ≤ maxLen ∧ True := by
  rcases h with h | ⟨rfl, rfl⟩
  · obtain ⟨a, cap, h1, h2, h3, h4, _⟩ := h.shape
    exact ⟨a, cap, h1, h2, h3, h4, trivial⟩
  · exact ⟨_, 0, rfl, StrAt.nil _ _, Nat.le_refl _, Nat.zero_le _, trivial⟩
theorem OwnE.pop {w : World} {base e : Nat} {a : Option Addr} {n cap : Nat} {ss : List ByteArray} (h : OwnE w base e (.slice a (n + 1) cap) ss) : OwnE w base e (.slice a n cap) ss.dropLast := by
  rcases h with h | ⟨rfl, hv⟩
  · exact .inl (OwnStr.pop h)
  · simp at hv
theorem ownsRow_base {w : World} {b b' : Nat} {e : TypeId} {size n : Nat} {v : Value} {xs : List Value} (h : w.ownsRow b' e size v n xs) (hb : b ≤ b') : w.ownsRow b e size v n xs :=
  ⟨h.1, h.2.imp id fun ⟨g, cap, cur, h1, h2, h3⟩ => ⟨g, cap, cur, h1, Nat.le_trans hb h2, h3⟩⟩
theorem wpList_append_strE {ops : Array Oper} {rest : List Oper} {o : Oper} {a : Act} {Q : Exit → Act → World → Prop} (hgd : o.guard = none) (s x : Operand)
    (ho : o.op = .call { callee := .builtin .append, args := #[s, x], argTypes := #[44, 44] })
    (w W : World) (base e : Nat) (v : Value) (l : List ByteArray) (hs : a.eval s = v) (hown : OwnE w base e v l) (hB : Below base W w) (c : ByteArray)
    (b : Nat) (hx : a.eval x = .slice (some ⟨b, 0, none⟩) 1 1) (hb : b = w.heap.size) (hl : l.length + 1 ≤ 1099511627776) (hbase : base ≤ w.heap.size)
    (h : ∀ v' w', OwnStr w' base v' (l ++ [c]) → Below base W w' → wpList Try.prog ops Q rest (a.put o.dst v') w') :
    wpList Try.prog ops Q (o :: rest) a (w.alloc (.cells #[.string c] 9)) := by
  rcases hown with hown | ⟨rfl, rfl⟩
  · exact wpList_append_str hgd s x ho w base v l hs hown c b hx hb hl hbase (fun v' w' h1 h2 => h v' w' h1 (below_append hB hown h2 hbase))
  · obtain ⟨i0, hi, hz0, hz1, hz2⟩ := info_parts infoString
    subst hb
    refine wpList_append_grows _ hgd s x 44 ho 9 i0 (.string ⟨#[]⟩) 1 16 Try.underlying44 hi hz0 hz1 hz2 rfl (by decide) (some ⟨e, 0, none⟩) 0 0 [] hs (by simp) rfl (fun _ _ j u hu => by simp at hu) ⟨w.heap.size, 0, none⟩ 1 1 [.string c] hx rfl
      (cell_one_new _ _ _) (one_cell_string _) (by decide) (by decide) (by decide) ?_
    intro v' w' hown' hgrow
    refine h v' w' ?_ ((hB.alloc hbase _).grown hgrow (by simp; omega) (fun j hj => by cases hj))
    have : w'.ownsRow base 9 1 v' (0 + 1) ([] ++ [.string c]) := ownsRow_base hown' (by simp; omega)
    exact this
end Go.Proofs.Ytinlahahbhpppaa
