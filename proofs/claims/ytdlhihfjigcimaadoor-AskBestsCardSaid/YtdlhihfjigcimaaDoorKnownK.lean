/- Helpers for the walks of both Known: blocks of a question known whole, appends of texts in a region that draws its order. -/
import Derived.Test.YtdlhihfjigcimaaDoorKnownP
import Derived.Test.YtdlhihfjigcimaaDoorFound
import Derived.Test.YtdlhihfjigcimaaDoorListR
namespace Go.Proofs.YtdlhihfjigcimaaDoor
open Go.RowKit
theorem step_append_str {ops : Array Oper} {o : Oper} {a : Act} {K : Act → World → Prop} {Q : Exit → Act → World → Prop} {E : Prop} (hgd : o.guard = none) (s x : Operand)
    (ho : o.op = .call { callee := .builtin .append, args := #[s, x], argTypes := #[24, 24] })
    (w : World) (base : Nat) (v : Value) (l : List ByteArray) (hs : a.eval s = v) (hown : OwnStr w base v l) (c : ByteArray)
    (b : Nat) (hx : a.eval x = .slice (some ⟨b, 0, none⟩) 1 1) (hb : b = w.heap.size) (hl : l.length + 1 ≤ 1099511627776) (hbase : base ≤ w.heap.size)
    (h : ∀ v' w', OwnStr w' base v' (l ++ [c]) → (w.alloc (.cells #[.string c] 9)).grownBy w' v.ownBlock → K (a.put o.dst v') w') :
    if Region.wanted o (yielded ops a.tmps) = true then Oper.wp Tryd.prog o a (w.alloc (.cells #[.string c] 9)) K Q else E := by
  have e : ∀ l : List ByteArray, l.flatMap (fun s => [Value.string s]) = l.map Value.string := fun l => by induction l with
    | nil => rfl
    | cons a l ih => simp [ih]
  refine step_append_one (enc := fun s => [Value.string s]) infoString Tryd.underlying24 (by rfl) (by decide) (fun _ => rfl) hgd s x ho w base v l hs (by unfold OwnG; rw [e]; exact hown) c (one_cell_string c) _ rfl b hx hb (by unfold maxLen; omega) (by omega) hbase ?_
  intro v' w' hO hG
  refine h v' w' ?_ hG
  unfold OwnG at hO
  rw [e] at hO
  exact hO
theorem own_set8 {w : World} {base p : Nat} {v : Value} {ss : List ByteArray} (h : OwnStr w base v ss) (hp : p < base) (y0 y1 y2 y3 y4 y5 y6 y7 : Value) :
    OwnStr ((((((((w.setCell ⟨p, 0, none⟩ y0).setCell ⟨p, 1, none⟩ y1).setCell ⟨p, 2, none⟩ y2).setCell ⟨p, 3, none⟩ y3).setCell ⟨p, 4, none⟩ y4).setCell ⟨p, 5, none⟩ y5).setCell ⟨p, 6, none⟩ y6).setCell ⟨p, 7, none⟩ y7) base v ss :=
  OwnStr.put (OwnStr.put (OwnStr.put (OwnStr.put (OwnStr.put (OwnStr.put (OwnStr.put (OwnStr.put h hp 0 _) hp 1 _) hp 2 _) hp 3 _) hp 4 _) hp 5 _) hp 6 _) hp 7 _
theorem OwnStr.mono {w : World} {base base' : Nat} {v : Value} {ss : List ByteArray} (h : OwnStr w base v ss) (hb : base' ≤ base) : OwnStr w base' v ss := by
  obtain ⟨h1, h2⟩ := h
  rcases h2 with ⟨rfl, h3⟩ | ⟨g, cap, cur, rfl, hb2, r⟩
  · exact ⟨h1, .inl ⟨rfl, h3⟩⟩
  · exact ⟨h1, .inr ⟨g, cap, cur, rfl, Nat.le_trans hb hb2, r⟩⟩
theorem OwnStr.strAt {w : World} {base n cap : Nat} {a : Option Addr} {ss : List ByteArray} (h : OwnStr w base (.slice a n cap) ss) : StrAt w a ss := by
  obtain ⟨a', c', e, hs, _⟩ := h.shape
  cases e; exact hs
abbrev boxCh (sc tk : ByteArray) (ad : Option Addr) (n cap : Nat) : Obj := .cells #[.string sc, .string tk, .slice ad n cap] 32
abbrev boxZ : Obj := .cells zArr tAsk
/-- behind the boxes of a Known, all that is old is as it was -/
def KnB (w : World) (sc tk : ByteArray) (ad : Option Addr) (n cap : Nat) (wx : World) : Prop := Below (w.heap.size + 2) ((w.alloc (boxCh sc tk ad n cap)).alloc boxZ) wx
section
variable {w wx wy : World} {sc tk : ByteArray} {ad : Option Addr} {n cap : Nat}
theorem KnB.then (h : KnB w sc tk ad n cap wx) (h2 : Below wx.heap.size wx wy) : KnB w sc tk ad n cap wy := Below.then h (by simp) h2
theorem KnB.size (h : KnB w sc tk ad n cap wx) : w.heap.size + 2 ≤ wx.heap.size := by have := Below.size h; simpa using this
theorem KnB.res (h : KnB w sc tk ad n cap wx) : Blk wx (w.heap.size + 1) zArr tAsk := by
  have h1 : Blk ((w.alloc (boxCh sc tk ad n cap)).alloc boxZ) (w.heap.size + 1) zArr tAsk := by simpa using Blk.new (w.alloc (boxCh sc tk ad n cap)) zArr tAsk
  exact h1.later (by unfold KnB at h; simpa using h)
theorem KnB.low (h : KnB w sc tk ad n cap wx) : Below w.heap.size w wx := by
  have hb := below_box (w := w.alloc (boxCh sc tk ad n cap)) (by unfold KnB at h; simpa using h)
  exact below_box (by simpa using hb)
theorem KnB.ch (h : KnB w sc tk ad n cap wx) : wx.cell? ⟨w.heap.size, 0, none⟩ = some (.string sc) ∧ wx.cell? ⟨w.heap.size, 1, none⟩ = some (.string tk) ∧ wx.cell? ⟨w.heap.size, 2, none⟩ = some (.slice ad n cap) := by
  have hb := below_box (w := w.alloc (boxCh sc tk ad n cap)) (by unfold KnB at h; simpa using h)
  have hb' : Below (w.heap.size + 1) (w.alloc (boxCh sc tk ad n cap)) wx := by simpa using hb
  exact ⟨box_cell hb' 0 rfl, box_cell hb' 1 rfl, box_cell hb' 2 rfl⟩
theorem KnB.start (w : World) (sc tk : ByteArray) (ad : Option Addr) (n cap : Nat) : KnB w sc tk ad n cap ((w.alloc (boxCh sc tk ad n cap)).alloc boxZ) := Below.refl _ _
end
/-- and the question that is filled in lies in block p -/
structure KS (w : World) (sc tk : ByteArray) (ad : Option Addr) (n cap p : Nat) (arr : Array Value) (wx : World) : Prop where
  b : KnB w sc tk ad n cap wx
  q : Blk wx p arr tAsk
theorem KS.then {w wx wy : World} {sc tk : ByteArray} {ad : Option Addr} {n cap p : Nat} {arr : Array Value} (h : KS w sc tk ad n cap p arr wx) (h2 : Below wx.heap.size wx wy) : KS w sc tk ad n cap p arr wy := ⟨h.b.then h2, h.q.later h2⟩
theorem KS.put {w wx : World} {sc tk : ByteArray} {ad : Option Addr} {n cap p : Nat} {arr : Array Value} (h : KS w sc tk ad n cap p arr wx) (hp : w.heap.size + 2 ≤ p) (i : Nat) (v : Value) : KS w sc tk ad n cap p (arr.setIfInBounds i v) (wx.setCell ⟨p, i, none⟩ v) := ⟨Below.setCell h.b hp _, h.q.set i v⟩
theorem KS.append {w wx wy : World} {sc tk : ByteArray} {ad : Option Addr} {n cap p : Nat} {arr : Array Value} {o : Obj} {row : Option Nat} (h : KS w sc tk ad n cap p arr wx) (hg : (wx.alloc o).grownBy wy row) (hp : w.heap.size + 2 ≤ p) (hr : ∀ g, row = some g → p < g) : KS w sc tk ad n cap p arr wy :=
  ⟨(Below.alloc h.b h.b.size o).grown hg (by have := h.b.size; simp; omega) (fun g e => by have := hr g e; omega), (h.q.alloc o).grown hg (fun e => by have := hr p e; omega)⟩
def KnownPost (w : World) (r : Option AskD) (e : Ending) (w' : World) : Prop :=
  ∃ a : AskV, e = .returned (.tuple #[.agg a.arr, .bool r.isSome]) ∧ a.d = r.getD askZero ∧ OwnStr w' w.heap.size (.slice a.addr a.d.domain.length a.cap) a.d.domain ∧ a.d.domain.length ≤ a.cap ∧ a.cap ≤ maxLen ∧ Below w.heap.size w w'
theorem KnownPost.no {w w' : World} {r : Option AskD} {e : Ending} (hr : r = none) (he : e = .returned (.tuple #[.agg zArr, .bool false])) (hb : Below w.heap.size w w') : KnownPost w r e w' := by
  subst hr; exact ⟨⟨askZero, none, 0⟩, he, rfl, OwnStr.nil _ _, Nat.le_refl _, Nat.zero_le _, hb⟩
/-- cell 7 of a question holds a slice -/
def At7 (p : Nat) (v : Value) (w : World) : Prop := w.cell? ⟨p, 7, none⟩ = some v ∧ w.frozen? ⟨p, 7, none⟩ = false
theorem At7.below {p : Nat} {v : Value} {a b : World} (h : At7 p v a) (hb : Below a.heap.size a b) : At7 p v b := by
  have hl := World.block_lt_of_cell? _ _ h.1
  exact ⟨(hb.cell hl).trans h.1, (hb.frozen hl).trans h.2⟩
theorem getOf_sz {M : Nat} {ps : List (ByteArray × ByteArray)} (h : ∀ p ∈ ps, p.2.size ≤ M) (name : ByteArray) : (getOf ps name).1.size ≤ M := by
  unfold getOf
  cases hf : ps.find? (fun p => same p.1 name) with
  | none => exact Nat.zero_le _
  | some p => exact h p (List.mem_of_find?_eq_some hf)
end Go.Proofs.YtdlhihfjigcimaaDoor
