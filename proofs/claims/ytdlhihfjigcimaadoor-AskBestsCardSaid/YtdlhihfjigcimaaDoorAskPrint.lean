/- ask.Print and the reference's AskPrint: challenges as a header. -/
import Derived.Test.YtdlhihfjigcimaaDoorFound
import Derived.Test.YtdlhihfjigcimaaDoorCurs
import Derived.Test.YtdlhihfjigcimaaDoorGet
import Derived.Handy
namespace Go.Proofs.YtdlhihfjigcimaaDoor
open Go.RowKit

/-- a value's text, and whether there is one -/
def valOk (s : ByteArray) : Bool := tokW s.data.toList || quotable s.data.toList
def valV (s : ByteArray) : ByteArray := if tokW s.data.toList then s else ⟨(quoted s.data.toList).toArray⟩
theorem valueRes_ok {s : ByteArray} (h : valOk s = true) (bad good : Value) : valueRes s bad good = .tuple #[.string (valV s), good] := by
  unfold valOk at h
  unfold valueRes quoteRes valV
  cases ht : tokW s.data.toList
  · rw [ht, Bool.false_or] at h
    rw [h]; rfl
  · rfl
theorem valueRes_bad {s : ByteArray} (h : valOk s = false) (bad good : Value) : valueRes s bad good = .tuple #[.string ⟨#[]⟩, bad] := by
  unfold valOk at h
  simp only [Bool.or_eq_false_iff] at h
  unfold valueRes quoteRes
  rw [h.1, h.2]; rfl
theorem valV_size (s : ByteArray) : (valV s).size ≤ 2 * s.size + 2 := by
  unfold valV
  split
  · omega
  · have := escs_len' s.data.toList
    rw [Lib.size_eq, Lib.size_eq]
    exact this

/-- one parameter's piece, and the first k of them -/
def piece (k : Nat) (p : ByteArray × ByteArray) : List UInt8 := (if k = 0 then [] else [44]) ++ [32] ++ p.1.data.toList ++ [61] ++ (valV p.2).data.toList
def parL (ps : List (ByteArray × ByteArray)) : Nat → List UInt8
  | 0 => []
  | k + 1 => parL ps k ++ (match ps[k]? with | some p => piece k p | none => [])
theorem parL_succ (ps : List (ByteArray × ByteArray)) (k : Nat) (h : k < ps.length) : parL ps (k + 1) = parL ps k ++ piece k ps[k] := by
  simp [parL, List.getElem?_eq_getElem h]
theorem piece_len (k : Nat) (p : ByteArray × ByteArray) (h : p.1.size + p.2.size ≤ 600) : (piece k p).length ≤ 2000 := by
  have h2 := valV_size p.2
  rw [Lib.size_eq (valV p.2), Lib.size_eq p.2] at h2
  rw [Lib.size_eq, Lib.size_eq] at h
  unfold piece
  split <;> simp only [List.length_append, List.length_cons, List.length_nil] <;> omega
set_option maxRecDepth 10000 in
theorem parL_len (ps : List (ByteArray × ByteArray)) (h : ∀ p ∈ ps, p.1.size + p.2.size ≤ 600) : ∀ k, (parL ps k).length ≤ k * 2000
  | 0 => by simp [parL]
  | k + 1 => by
    have ih := parL_len ps h k
    by_cases hk : k < ps.length
    · have := piece_len k ps[k] (h _ (List.getElem_mem hk))
      rw [parL_succ ps k hk, List.length_append]; omega
    · have e : ps[k]? = none := List.getElem?_eq_none (by omega)
      simp only [parL, e, List.append_nil]; omega

def headL (c : Chal) : List UInt8 := c.scheme.data.toList ++ (if (!c.token.toList.isEmpty) = true then [32] ++ c.token.data.toList else [])
def chalL (c : Chal) : List UInt8 := headL c ++ parL c.params c.params.length
def chalB (c : Chal) : ByteArray := ⟨(chalL c).toArray⟩
def chalOk (c : Chal) : Bool := c.params.all (fun p => valOk p.2)
/-- what both answer -/
def askRes (cs : List Chal) (good : Value) (bad : Nat → Value) : Value := match cs.findIdx? (fun c => !chalOk c) with
  | none => .tuple #[.string ⟨(commas (cs.map chalB)).toArray⟩, good]
  | some i => .tuple #[.string ⟨#[]⟩, bad i]
theorem askRes_good (cs : List Chal) (good : Value) (bad : Nat → Value) (h : ∀ c ∈ cs, chalOk c = true) : askRes cs good bad = .tuple #[.string ⟨(commas (cs.map chalB)).toArray⟩, good] := by
  unfold askRes
  rw [List.findIdx?_eq_none_iff.2 (fun c hc => by simp [h c hc])]
theorem askRes_bad (cs : List Chal) (good : Value) (bad : Nat → Value) (k : Nat) (hk : k < cs.length) (h : ∀ c ∈ cs.take k, chalOk c = true) (hb : chalOk cs[k] = false) : askRes cs good bad = .tuple #[.string ⟨#[]⟩, bad k] := by
  unfold askRes
  rw [(List.findIdx?_eq_some_iff_getElem (i := k)).2 ⟨hk, by simp [hb], fun j hj => by simp [h cs[j] (by rw [List.mem_take_iff_getElem]; exact ⟨j, by omega, rfl⟩)]⟩]
theorem chalOk_bad (c : Chal) (k : Nat) (h : k < c.params.length) (hb : valOk c.params[k].2 = false) : chalOk c = false := by
  unfold chalOk
  rw [Bool.eq_false_iff]
  intro ha
  have := List.all_eq_true.1 ha _ (List.getElem_mem h)
  simp [hb] at this
theorem le_sum_of_mem {x : Nat} {l : List Nat} (h : x ∈ l) : x ≤ l.sum := by
  induction l with
  | nil => cases h
  | cons y r ih =>
    rw [List.sum_cons]
    rcases List.mem_cons.1 h with rfl | h
    · omega
    · have := ih h; omega
theorem light_each {c : Chal} (h : Light c) : ∀ p ∈ c.params, p.1.size + p.2.size ≤ 600 := by
  intro p hp
  have hs := h.short
  unfold wTo at hs
  rw [List.take_length] at hs
  have : p.1.size + p.2.size ≤ (c.params.map (fun p => p.1.size + p.2.size)).sum := le_sum_of_mem (List.mem_map_of_mem hp)
  omega
theorem light_head {c : Chal} (h : Light c) : c.scheme.size + c.token.size ≤ 600 := by
  have hs := h.short
  unfold wTo at hs
  omega

theorem ba_of {s : ByteArray} {L : List UInt8} (h : s.data.toList = L) : s = ⟨L.toArray⟩ := by
  subst h; rfl
/-- what stands ahead of challenge k's parameters -/
def pre (cs : List Chal) (k : Nat) (h : k < cs.length) : List UInt8 := (if k = 0 then [] else commas ((cs.take k).map chalB) ++ [44, 32]) ++ headL cs[k]
theorem pre_next (cs : List Chal) (k : Nat) (h : k < cs.length) : commas ((cs.take (k + 1)).map chalB) = pre cs k h ++ parL cs[k].params cs[k].params.length := by
  rw [List.take_succ_eq_append_getElem h, List.map_append]
  unfold pre
  by_cases h0 : k = 0
  · subst h0
    rw [if_pos rfl, List.take_zero]
    show commas [chalB cs[0]] = _
    rw [commas_one]
    rfl
  · rw [if_neg h0]
    show commas (_ ++ [chalB cs[k]]) = _
    rw [commas_snoc _ _ (by
      intro e
      have e2 := congrArg List.length e
      rw [List.length_map, List.length_take, List.length_nil] at e2
      omega)]
    show _ ++ chalL cs[k] = _
    unfold chalL
    simp only [List.append_assoc]

end Go.Proofs.YtdlhihfjigcimaaDoor
