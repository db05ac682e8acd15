/- What a Digest header tells, item by item. Plain; no program. -/
import Derived.Test.YtdlhihfjigcimaaDoorResp
import Derived.Test.YtdlhihfjigcimaaDoorCurs
namespace Go.Proofs.YtdlhihfjigcimaaDoor
open Go.RowKit
theorem rev_ind2 {α : Type} {P : List α → Prop} (h0 : P []) (h1 : ∀ l x, P l → P (l ++ [x])) (l : List α) : P l := by
  have h : ∀ l : List α, P l.reverse := by
    intro l
    induction l with
    | nil => exact h0
    | cons a l ih => rw [List.reverse_cons]; exact h1 _ _ ih
  simpa using h l.reverse
structure DItem where
  name : ByteArray
  value : ByteArray
  q : Bool
def DItem.bad (it : DItem) : Bool := it.q && !quotable it.value.data.toList
def DItem.val (it : DItem) : List UInt8 := if it.q then (if quotable it.value.data.toList then quoted it.value.data.toList else []) else it.value.data.toList
def DItem.text (it : DItem) : List UInt8 := it.name.data.toList ++ [61] ++ it.val
def dPre (L : List UInt8) : List UInt8 := if 7 < L.length then L ++ [44, 32] else L
def dStep (st : Bool × List UInt8) (it : DItem) : Bool × List UInt8 := (st.1 || it.bad, dPre st.2 ++ it.text)
def dFold (l : List DItem) : Bool × List UInt8 := l.foldl dStep (false, [68, 105, 103, 101, 115, 116, 32])
theorem dFold_snoc (l : List DItem) (it : DItem) : dFold (l ++ [it]) = dStep (dFold l) it := by unfold dFold; rw [List.foldl_append]; rfl
theorem dFold_succ (l : List DItem) (k : Nat) (h : k < l.length) : dFold (l.take (k + 1)) = dStep (dFold (l.take k)) l[k] := by
  rw [List.take_succ_eq_append_getElem h, dFold_snoc]
theorem dVal_len (it : DItem) (h : it.value.size ≤ 100000) : it.val.length ≤ 200002 := by
  unfold DItem.val
  split
  · split
    · have := escs_len it.value.data.toList
      rw [← sz_len] at this
      unfold quoted
      simp; omega
    · simp
  · rw [← sz_len]; omega
def DOk (it : DItem) : Prop := it.name.size ≤ 100 ∧ it.value.size ≤ 100000
theorem dFold_len {l : List DItem} (h : ∀ it ∈ l, DOk it) : (dFold l).2.length ≤ 7 + 300000 * l.length := by
  induction l using rev_ind2 with
  | h0 => decide
  | h1 l it ih =>
    have := ih (fun x hx => h x (by simp [hx]))
    obtain ⟨h1, h2⟩ := h it (by simp)
    have h3 := dVal_len it h2
    rw [dFold_snoc]
    unfold dStep dPre DItem.text
    rw [sz_len] at h1
    simp only [List.length_append, List.length_cons, List.length_nil]
    split <;> (try simp only [List.length_append, List.length_cons, List.length_nil]) <;> omega
theorem dFold_long {l : List DItem} (h : l ≠ []) : 7 < (dFold l).2.length := by
  induction l using rev_ind2 with
  | h0 => exact absurd rfl h
  | h1 l it ih =>
    have h7 : 7 ≤ (dFold l).2.length := by
      cases l with
      | nil => decide
      | cons a r => exact Nat.le_of_lt (ih (by simp))
    rw [dFold_snoc]
    unfold dStep dPre DItem.text
    simp only [List.length_append, List.length_cons, List.length_nil]
    split <;> simp <;> omega
theorem dPre_nil : dPre (dFold []).2 = [68, 105, 103, 101, 115, 116, 32] := rfl
theorem dPre_some {l : List DItem} (h : l ≠ []) : dPre (dFold l).2 = (dFold l).2 ++ [44, 32] := if_pos (dFold_long h)
theorem dFold_bad {l : List DItem} : (dFold l).1 = l.any DItem.bad := by
  induction l using rev_ind2 with
  | h0 => rfl
  | h1 l it ih => rw [dFold_snoc, List.any_append, ← ih]; simp [dStep]
/-- the name of a scheme -/
def schB (k : Int) (sess : Bool) : ByteArray := ⟨((if k = 3 then ([83, 72, 65, 45, 50, 53, 54] : List UInt8) else [77, 68, 53]) ++ (if sess then [45, 115, 101, 115, 115] else [])).toArray⟩
def items5 (d : AskD) (user target resp : ByteArray) : List DItem := [⟨(⟨#[117, 115, 101, 114, 110, 97, 109, 101]⟩ : ByteArray), user, true⟩, ⟨(⟨#[114, 101, 97, 108, 109]⟩ : ByteArray), d.realm, true⟩, ⟨(⟨#[110, 111, 110, 99, 101]⟩ : ByteArray), d.nonce, true⟩, ⟨(⟨#[117, 114, 105]⟩ : ByteArray), target, true⟩, ⟨(⟨#[114, 101, 115, 112, 111, 110, 115, 101]⟩ : ByteArray), resp, true⟩]
def itemsA (d : AskD) : List DItem := [⟨(⟨#[97, 108, 103, 111, 114, 105, 116, 104, 109]⟩ : ByteArray), schB d.scheme d.sess, false⟩]
def itemsQ (d : AskD) (cnt : ByteArray) : List DItem := if d.qop.toList.isEmpty then [] else [⟨(⟨#[113, 111, 112]⟩ : ByteArray), d.qop, false⟩, ⟨(⟨#[110, 99]⟩ : ByteArray), cnt, false⟩]
def itemsC (d : AskD) (cnonce : ByteArray) : List DItem := if d.qop.toList.isEmpty && !d.sess then [] else [⟨(⟨#[99, 110, 111, 110, 99, 101]⟩ : ByteArray), cnonce, true⟩]
def itemsO (d : AskD) : List DItem := if d.opaque_.toList.isEmpty then [] else [⟨(⟨#[111, 112, 97, 113, 117, 101]⟩ : ByteArray), d.opaque_, true⟩]
def digItems (d : AskD) (user target cnonce resp cnt : ByteArray) : List DItem := (((items5 d user target resp ++ itemsA d) ++ itemsQ d cnt) ++ itemsC d cnonce) ++ itemsO d
def schOk (k : Int) : Bool := decide (k = 2) || decide (k = 3)
def qopOk (q : ByteArray) : Bool := q.toList.isEmpty || (q.toList == [97, 117, 116, 104]) || (q.toList == [97, 117, 116, 104, 45, 105, 110, 116])
/-- what a Digest tells: which error (0: none), and the header -/
def digRes (d : AskD) (user target cnonce resp cnt : ByteArray) (n : Int) : Int × ByteArray :=
  if !schOk d.scheme || !qopOk d.qop then (1, ⟨#[]⟩)
  else if n < 1 ∨ 4294967295 < n then (2, ⟨#[]⟩)
  else if (dFold (digItems d user target cnonce resp cnt)).1 then (3, ⟨#[]⟩)
  else (0, ⟨(dFold (digItems d user target cnonce resp cnt)).2.toArray⟩)
theorem schB_size (k : Int) (s : Bool) : (schB k s).size ≤ 100000 := by
  unfold schB
  by_cases h : k = 3
  · cases s <;> simp [h, ByteArray.size]
  · cases s <;> simp [h, ByteArray.size]
theorem digItems_ok {d : AskD} {user target cnonce resp cnt : ByteArray} (z1 : d.realm.size ≤ 20000) (z2 : d.nonce.size ≤ 20000) (z3 : d.qop.size ≤ 20000) (z4 : user.size ≤ 20000) (z5 : d.opaque_.size ≤ 20000) (z6 : target.size ≤ 20000) (z7 : cnonce.size ≤ 20000) (z8 : resp.size ≤ 20000) (z9 : cnt.size ≤ 20000) :
    ∀ it ∈ digItems d user target cnonce resp cnt, DOk it := by
  have hs := schB_size d.scheme d.sess
  intro it h
  unfold digItems items5 itemsA itemsQ itemsC itemsO at h
  simp only [List.mem_append, List.mem_cons, List.not_mem_nil, or_false] at h
  have cs : ∀ (b : Bool) (l : List DItem), it ∈ (if b then [] else l) → it ∈ l := fun b l h => by cases b; exact h; cases h
  rcases h with (((h | h) | h) | h) | h
  · rcases h with rfl | rfl | rfl | rfl | rfl
    · exact ⟨by show (8 : Nat) ≤ 100; decide, by show user.size ≤ _; omega⟩
    · exact ⟨by show (5 : Nat) ≤ 100; decide, by show d.realm.size ≤ _; omega⟩
    · exact ⟨by show (5 : Nat) ≤ 100; decide, by show d.nonce.size ≤ _; omega⟩
    · exact ⟨by show (3 : Nat) ≤ 100; decide, by show target.size ≤ _; omega⟩
    · exact ⟨by show (8 : Nat) ≤ 100; decide, by show resp.size ≤ _; omega⟩
  · subst h; exact ⟨by show (9 : Nat) ≤ 100; decide, hs⟩
  · have := cs _ _ h
    simp only [List.mem_cons, List.not_mem_nil, or_false] at this
    rcases this with rfl | rfl
    · exact ⟨by show (3 : Nat) ≤ 100; decide, by show d.qop.size ≤ _; omega⟩
    · exact ⟨by show (2 : Nat) ≤ 100; decide, by show cnt.size ≤ _; omega⟩
  · have := cs _ _ h
    simp only [List.mem_cons, List.not_mem_nil, or_false] at this
    subst this; exact ⟨by show (6 : Nat) ≤ 100; decide, by show cnonce.size ≤ _; omega⟩
  · have := cs _ _ h
    simp only [List.mem_cons, List.not_mem_nil, or_false] at this
    subst this; exact ⟨by show (6 : Nat) ≤ 100; decide, by show d.opaque_.size ≤ _; omega⟩
end Go.Proofs.YtdlhihfjigcimaaDoor
