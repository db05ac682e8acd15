/- Merged out of Base Law Str Strs Own OwnB Blk BlkL OwnG Only OwnS TextB Lower Same AskGet Read Par Heavy CutL BoxR. -/
import Derived.Test.YtinlahahbhpppaaRows
import Derived.WalkKit
import Derived.ProofKit
import Derived.OpenShut
import Derived.Handy
import Derived.WalkLawsBesides
import Derived.WalkSpells
import Derived.Lib.Hide
import Derived.Lib.Strings
import Derived.Laws.IdiomStrings
import Derived.Deep.LoopGhost
import Derived.ShutString
import Derived.Lib.Builder
import Derived.Deep.Draws
import Derived.Deep.MidRow
import Derived.Deep.AppendLies
import Derived.Deep.RegionHeld3
import Derived.Deep.QuietTactic
import Derived.BigQuiet
import Derived.SizedLaws
import Derived.HandedShaped
import Derived.Deep.Slices
import Derived.Lib.SplitLaws
/- Small functions of the reference (within, char), and the two Lowers. -/
namespace Go.Proofs.Ytinlahahbhpppaa
open Go.RowKit

theorem ret_str {a b : ByteArray} (h : a = b) : Ending.returned (.string a) = .returned (.string b) := by rw [h]
theorem ret_int {k : IntKind} {a b : Int} (h : a = b) : Ending.returned (.int k a) = .returned (.int k b) := by rw [h]
theorem ret_bool {a b : Bool} (h : a = b) : Ending.returned (.bool a) = .returned (.bool b) := by rw [h]

theorem _root_.Go.RowKit.Below.then {B : Nat} {w w1 w2 : World} (h : Below B w w1) (hB : B ≤ w.heap.size) (h2 : Below w1.heap.size w1 w2) : Below B w w2 :=
  h.trans (h2.mono (Nat.le_trans hB h.size))
theorem box_cell {w wr : World} {c : Array Value} {T : TypeId} {B : Nat} (h : Below (B + 1) (w.alloc (.cells c T)) wr) (i : Nat) {v : Value} (hv : c[i]? = some v) (hB : B = w.heap.size := by rfl) : wr.cell? ⟨B, i, none⟩ = some v := by
  subst hB
  rw [h.cell (p := ⟨w.heap.size, i, none⟩) (Nat.lt_succ_self _), World.cell?_alloc_mark]; exact hv
theorem below_box {w wr : World} {o : Obj} (h : Below (w.heap.size + 1) (w.alloc o) wr) : Below w.heap.size w wr :=
  ((Below.refl _ _).alloc (Nat.le_refl _) _).trans (h.mono (Nat.le_succ _))

/-- (own name: a module of the shelf has one of this name in the namespace above, of another form) -/
theorem below_drewN {B : Nat} {a w : World} (h : Below B a w) (n : Nat) : Below B a (w.drewN n) := h.trans ⟨rfl, rfl, rfl, Nat.le_refl _, fun _ _ => rfl⟩

theorem within_any (n lo hi : Int) (w : World) :
    Calls Try.prog 17 #[.int .i64 n, .int .i64 lo, .int .i64 hi] w fun e w' => e = .returned (.bool (decide (lo ≤ n) && decide (n ≤ hi))) ∧ w = w' := by
  go_enter Try.func17, Try.ntmps17
  go_wp2
  all_goals go_ret
  · exact ⟨by simp [*], rfl⟩
  · exact ⟨by simp [*]; omega, rfl⟩

/-- byte(n) -/
def chr (n : Int) : UInt8 := UInt8.ofNat (n % 256).toNat

set_option maxRecDepth 100000 in
theorem char_any (n : Int) (w : World) :
    Calls Try.prog 24 #[.int .i64 n] w fun e w' => e = .returned (.string ⟨#[chr n]⟩) ∧ Below w.heap.size w w' := by
  have hcv := run_convert_bytes_arg (P := Try.prog) (w.alloc (Obj.cells #[Value.int IntKind.u8 (n % 256)] 5)) 42 5 Try.underlying42 Try.underlying5 w.heap.size 0 1 1 [n % 256] rfl (by
    intro i hi
    obtain rfl : i = 0 := by omega
    simp [World.cell?_alloc_mark])
    9 Try.underlying9
  go_enter Try.func24, Try.ntmps24
  go_wp2
  go_ret
  exact ⟨rfl, (Below.refl _ _).alloc (Nat.le_refl _) _⟩

end Go.Proofs.Ytinlahahbhpppaa
/- How a law that returns true and writes nothing old closes its row. -/
namespace Go.Proofs.Ytinlahahbhpppaa
open Go.ChangeShapes Go.WideShapes Go.ChangeAt Go.RowKit Go.WideElems

theorem own : ownKnob Try.prog.godebug = none := by kernel_rfl
theorem laidOut : laidOutB Try.prog = true := by kernel_rfl

theorem below_trodAll {H : Type} {enc : TypeId × Value → H} {P : Program} (hl : laidOutB P = true) {W W' : World} (hb : Below W.heap.size W W') :
    ∀ {ts : List TypeId} {vs : List Value} {ds : List (DataW H)} {ps : List MemPlace}, (∀ t ∈ ts, P.readableRec t = true ∧ t < P.types.size) →
      DataW.TrodAll enc P W 0 (fun _ => true) true ts vs ds ps → (∀ x ∈ ps, x.block < W.heap.size) →
      DataW.TrodAll enc P W' 0 (fun b => decide (b < W.heap.size)) true ts vs ds ps
  | [], [], [], _, _, h, _ => h
  | t :: ts, v :: vs, d :: ds, _, hT, ⟨p, q, h1, h2, e⟩, hlt =>
    ⟨p, q, Below.trod hl (hT t (by simp)).1 (hT t (by simp)).2 h1 hb (fun x hx => hlt x (by rw [e]; simp [hx])),
      below_trodAll hl hb (fun u hu => hT u (by simp [hu])) h2 (fun x hx => hlt x (by rw [e]; simp [hx])), e⟩
  | [], _ :: _, _, _, _, h, _ => h.elim
  | [], [], _ :: _, _, _, h, _ => h.elim
  | _ :: _, [], _, _, _, h, _ => h.elim
  | _ :: _, _ :: _, [], _, _, h, _ => h.elim

end Go.Proofs.Ytinlahahbhpppaa
/- Texts as lists of bytes: small laws. -/
namespace Go.Proofs.Ytinlahahbhpppaa
theorem ba_eq {s : ByteArray} {L : List UInt8} (h : s.data.toList = L) : s = ⟨L.toArray⟩ := by subst h; rfl
theorem mk_toList (L : List UInt8) : (⟨L.toArray⟩ : ByteArray).data.toList = L := by simp
theorem mk_len (L : List UInt8) : (⟨L.toArray⟩ : ByteArray).size = L.length := by rw [Lib.size_eq]
theorem add_toList (a b : ByteArray) : (a ++ b).data.toList = a.data.toList ++ b.data.toList := by simp
theorem add_size (a b : ByteArray) : (a ++ b).size = a.size + b.size := ByteArray.size_append
theorem sz_len (s : ByteArray) : s.size = s.data.toList.length := Lib.size_eq s
theorem at_list (s : ByteArray) (k : Nat) (_h : k < s.size) (h' : k < s.data.toList.length) : s.data.toList[k] = s[k] := by simp; rfl
theorem ba_ext {s t : ByteArray} (h : s.data.toList = t.data.toList) : s = t := by
  have := ba_eq h; rw [this]
end Go.Proofs.Ytinlahahbhpppaa
/- Lists of texts in memory. -/
namespace Go.Proofs.Ytinlahahbhpppaa
open Go.RowKit

/-- The slice at a holds these texts. -/
def StrAt (w : World) (a : Option Addr) (ss : List ByteArray) : Prop :=
  ∀ i (h : i < ss.length), ∃ b off, a = some ⟨b, off, none⟩ ∧ w.cell? ⟨b, off + i, none⟩ = some (.string ss[i])
theorem StrAt.later {w w' : World} {a : Option Addr} {ss : List ByteArray} (h : StrAt w a ss) (hb : Below w.heap.size w w') : StrAt w' a ss := by
  intro i hi
  obtain ⟨b, off, ha, h1⟩ := h i hi
  exact ⟨b, off, ha, (hb.cell (World.block_lt_of_cell? w _ h1)).trans h1⟩
theorem StrAt.nil (w : World) (a : Option Addr) : StrAt w a [] := fun i h => by simp at h

def datas (ss : List ByteArray) : List (List UInt8) := ss.map (·.data.toList)

end Go.Proofs.Ytinlahahbhpppaa
/- Lists of texts that a call makes for itself. -/
namespace Go.Proofs.Ytinlahahbhpppaa
open Go.RowKit

theorem grownBy_below {w w' : World} {row : Option Nat} (h : Below w.heap.size w w') : w.grownBy w' row := ⟨h.os, h.tape, h.output, h.size, fun k hk _ => h.block k hk⟩
theorem own_later {w w' : World} {base : Nat} {e : TypeId} {size : Nat} {v : Value} {n : Nat} {xs : List Value} (h : w.ownsRow base e size v n xs) (hb : Below w.heap.size w w') : w'.ownsRow base e size v n xs :=
  h.kept (row := none) (grownBy_below hb) (by cases hv : v.ownBlock <;> simp)

/-- v is a slice of the call's own, in blocks from base on, that holds these texts. -/
def OwnStr (w : World) (base : Nat) (v : Value) (ss : List ByteArray) : Prop := w.ownsRow base 9 1 v ss.length (ss.map Value.string)
theorem OwnStr.nil (w : World) (base : Nat) : OwnStr w base (.slice none 0 0) [] := World.ownsRow_nil w base _ _
theorem OwnStr.later {w w' : World} {base : Nat} {v : Value} {ss : List ByteArray} (h : OwnStr w base v ss) (hb : Below w.heap.size w w') : OwnStr w' base v ss := own_later h hb
theorem OwnStr.shape {w : World} {base : Nat} {v : Value} {ss : List ByteArray} (h : OwnStr w base v ss) : ∃ a cap, v = .slice a ss.length cap ∧ StrAt w a ss ∧ ss.length ≤ cap ∧ cap ≤ maxLen ∧ (ss = [] → v = .slice none 0 0 ∨ a ≠ none) := by
  obtain ⟨h1, h2⟩ := h
  rcases h2 with ⟨rfl, h3⟩ | ⟨g, cap, cur, rfl, hb, hg, hn, hm, hs, ht⟩
  · have : ss = [] := List.length_eq_zero_iff.1 h3
    subst this
    exact ⟨none, 0, rfl, StrAt.nil _ _, Nat.le_refl _, Nat.zero_le _, fun _ => .inl rfl⟩
  · refine ⟨_, cap, rfl, ?_, hn, hm, fun _ => .inr (by simp)⟩
    intro i hi
    refine ⟨g, 0, rfl, ?_⟩
    rw [Nat.zero_add, cell_of_row w g i cur _ _ hg]
    have : (cur.toList.take (ss.length * 1))[i]? = (ss.map Value.string)[i]? := by rw [ht]
    rw [List.getElem?_take, if_pos (by omega)] at this
    simp [hi] at this
    simpa using this

theorem infoString : (Try.prog.info? 9).map (fun i => (i.zero, i.size, i.bytes)) = some (some (.string ⟨#[]⟩), 1, 16) := by kernel_rfl

theorem OwnStr.snoc {w : World} {base : Nat} {v : Value} {ss : List ByteArray} {s : ByteArray} (h : w.ownsRow base 9 1 v (ss.length + 1) (ss.map Value.string ++ [.string s])) : OwnStr w base v (ss ++ [s]) := by
  unfold OwnStr; rw [List.length_append, List.map_append]; exact h
/-- behind an append to a slice of the call's own: its element was laid in a block ahead of it -/
theorem below_append {base : Nat} {a w w' : World} {o : Obj} {e : TypeId} {size : Nat} {v : Value} {n : Nat} {xs : List Value} (hB : Below base a w) (hO : w.ownsRow base e size v n xs) (hg : (w.alloc o).grownBy w' v.ownBlock) (hb : base ≤ w.heap.size) : Below base a w' :=
  (hB.alloc hb o).grown hg (by simp; omega) (fun k hk => (hO.lt k hk).1)
theorem one_cell_string (s : ByteArray) : ∀ u ∈ [Value.string s], u.oneCell' = true := by intro u hu; simp at hu; subst hu; rfl

end Go.Proofs.Ytinlahahbhpppaa
/- Rows of bytes that a call makes for itself: an append of one byte, and the row as a text. -/
namespace Go.Proofs.Ytinlahahbhpppaa
open Go.RowKit

theorem infoByte : (Try.prog.info? 5).map (fun i => (i.zero, i.size, i.bytes)) = some (some (.int .u8 0), 1, 1) := by kernel_rfl
def bv (c : UInt8) : Value := .int .u8 (c.toNat : Int)
/-- v is a slice of the call's own, in blocks from base on, that holds these bytes. -/
def OwnB (w : World) (base : Nat) (v : Value) (l : List UInt8) : Prop := w.ownsRow base 5 1 v l.length (l.map bv)
theorem OwnB.nil (w : World) (base : Nat) : OwnB w base (.slice none 0 0) [] := World.ownsRow_nil w base _ _
theorem OwnB.later {w w' : World} {base : Nat} {v : Value} {l : List UInt8} (h : OwnB w base v l) (hb : Below w.heap.size w w') : OwnB w' base v l := own_later h hb
theorem OwnB.one (w : World) (base : Nat) (c : UInt8) (n : Int) (hn : n = (c.toNat : Int)) (hb : base ≤ w.heap.size) : OwnB (w.alloc (.cells #[.int .u8 n] 5)) base (.slice (some ⟨w.heap.size, 0, none⟩) 1 1) [c] := by
  subst hn
  exact ⟨rfl, .inr ⟨w.heap.size, 1, #[bv c], rfl, hb, heap_alloc_new w _, Nat.le_refl _, by decide, rfl, rfl⟩⟩
theorem OwnB.shape {w : World} {base : Nat} {v : Value} {l : List UInt8} (h : OwnB w base v l) (h0 : l ≠ []) : ∃ g cap, v = .slice (some ⟨g, 0, none⟩) l.length cap ∧ ∀ j (hj : j < l.length), w.cell? ((⟨g, 0, none⟩ : Addr).add j) = some (.int .u8 (l[j].toNat : Int)) := by
  have hc := h
  obtain ⟨h1, h2⟩ := h
  rcases h2 with ⟨rfl, h3⟩ | ⟨g, cap, cur, rfl, hb, hg, hn, hm, hs, ht⟩
  · exact absurd (List.length_eq_zero_iff.1 h3) h0
  · refine ⟨g, cap, rfl, fun j hj => ?_⟩
    exact World.ownsRow.cells hc rfl j _ (by rw [List.getElem?_map, List.getElem?_eq_getElem hj]; rfl)

theorem wpList_append_byte {ops : Array Oper} {rest : List Oper} {o : Oper} {a : Act} {Q : Exit → Act → World → Prop} (hgd : o.guard = none) (s x : Operand)
    (ho : o.op = .call { callee := .builtin .append, args := #[s, x], argTypes := #[42, 42] })
    (w : World) (base : Nat) (v : Value) (l : List UInt8) (hs : a.eval s = v) (hown : OwnB w base v l) (c : UInt8) (n : Int) (hn : n = (c.toNat : Int))
    (hx : a.eval x = .slice (some ⟨w.heap.size, 0, none⟩) 1 1) (hl : l.length + 1 ≤ 140737488355328) (hbase : base ≤ w.heap.size)
    (h : ∀ v' w', OwnB w' base v' (l ++ [c]) → (w.alloc (.cells #[.int .u8 n] 5)).grownBy w' v.ownBlock → wpList Try.prog ops Q rest (a.put o.dst v') w') :
    wpList Try.prog ops Q (o :: rest) a (w.alloc (.cells #[.int .u8 n] 5)) := by
  obtain ⟨i0, hi, hz0, hz1, hz2⟩ := info_parts infoByte
  subst hn
  refine wpList_append_own _ hgd s x 42 ho base 5 i0 (.int .u8 0) 1 1 Try.underlying42 hi hz0 hz1 hz2 rfl (by decide) v _ _ hs (hown.alloc _) ⟨w.heap.size, 0, none⟩ 1 1 [bv c] hx rfl
    (cell_one_new _ _ _) (by intro u hu; simp at hu; subst hu; rfl) (by unfold maxLen; omega) (by omega) (by simp; omega) ?_
  intro v' w' hown' hgrow _
  refine h v' w' ?_ hgrow
  unfold OwnB
  rw [List.length_append, List.map_append]
  exact hown'

end Go.Proofs.Ytinlahahbhpppaa
/- A block of memory known whole; frames behind which one block alone has turned. Over any program. -/
namespace Go.Proofs.Ytinlahahbhpppaa
open Go.RowKit

/-- Block p holds these cells, none of them frozen. -/
def Blk (w : World) (p : Nat) (cs : Array Value) (T : TypeId) : Prop := w.heap[p]? = some (.cells cs T (0, 0))
section
variable {w w' : World} {p q : Nat} {cs : Array Value} {T : TypeId}
theorem Blk.lt (h : Blk w p cs T) : p < w.heap.size := (Array.getElem?_eq_some_iff.1 h).1
theorem Blk.cell (h : Blk w p cs T) (i : Nat) {v : Value} (hv : cs[i]? = some v) : w.cell? ⟨p, i, none⟩ = some v := by rw [Lib.cell_of_heap h]; exact hv
theorem Blk.free (h : Blk w p cs T) (i : Nat) : w.frozen? ⟨p, i, none⟩ = false := Lib.frozen_of_heap h i
theorem Blk.new (w : World) (cs : Array Value) (T : TypeId) : Blk (w.alloc (.cells cs T)) w.heap.size cs T := heap_alloc_new w _
theorem Blk.later (h : Blk w p cs T) (hb : Below w.heap.size w w') : Blk w' p cs T := (hb.block p h.lt).trans h
theorem Blk.grown {row : Option Nat} (h : Blk w p cs T) (hg : w.grownBy w' row) (hne : row ≠ some p) : Blk w' p cs T := (hg.block p h.lt (fun e => hne e.symm)).trans h
theorem Blk.alloc (h : Blk w p cs T) (o : Obj) : Blk (w.alloc o) p cs T := h.later ((Below.refl _ _).alloc (Nat.le_refl _) _)
theorem Blk.drew (h : Blk w p cs T) : Blk w.drew p cs T := h
theorem Blk.drewN (h : Blk w p cs T) (n : Nat) : Blk (w.drewN n) p cs T := h
theorem Blk.set (h : Blk w p cs T) (i : Nat) (v : Value) : Blk (w.setCell ⟨p, i, none⟩ v) p (cs.setIfInBounds i v) T := by
  unfold Blk at *
  simp [World.setCell, Array.getElem?_modify, h]
theorem Blk.far (h : Blk w p cs T) (a : Addr) (v : Value) (hne : a.block ≠ p) : Blk (w.setCell a v) p cs T := by
  unfold Blk at *
  rw [← h]
  exact Below.heap_setCell w a v p (fun e => hne e.symm)
theorem Blk.same {cs' : Array Value} {T' : TypeId} (h : Blk w p cs T) (h' : Blk w p cs' T') : cs = cs' := by
  unfold Blk at *; rw [h] at h'; cases h'; rfl

theorem only_refl (w : World) (row : Option Nat) : w.grownBy w row := ⟨rfl, rfl, rfl, Nat.le_refl _, fun _ _ _ => rfl⟩
theorem only_of_below {a w : World} (h : Below a.heap.size a w) (row : Option Nat) : a.grownBy w row := ⟨h.os, h.tape, h.output, h.size, fun i hi _ => h.block i hi⟩
theorem only_drewN {a w : World} {row : Option Nat} (h : a.grownBy w row) (n : Nat) : a.grownBy (w.drewN n) row := ⟨h.os, h.tape, h.output, h.size, h.block⟩
theorem only_drew {a w : World} {row : Option Nat} (h : a.grownBy w row) : a.grownBy w.drew row := ⟨h.os, h.tape, h.output, h.size, h.block⟩
theorem only_trans {a b c : World} {row : Option Nat} (h : a.grownBy b row) (k : b.grownBy c row) : a.grownBy c row :=
  ⟨k.os.trans h.os, k.tape.trans h.tape, k.output.trans h.output, Nat.le_trans h.size k.size, fun i hi hn => (k.block i (Nat.lt_of_lt_of_le hi h.size) hn).trans (h.block i hi hn)⟩
theorem only_then {a b c : World} {row : Option Nat} (h : a.grownBy b row) (k : Below b.heap.size b c) : a.grownBy c row := only_trans h (only_of_below k row)
theorem only_alloc {a w : World} {row : Option Nat} (h : a.grownBy w row) (o : Obj) : a.grownBy (w.alloc o) row :=
  ⟨h.os, h.tape, h.output, Nat.le_trans h.size (by simp), fun i hi hne => (Below.heap_alloc w o i (Nat.lt_of_lt_of_le hi h.size)).trans (h.block i hi hne)⟩
theorem only_setCell {a w : World} {g : Nat} (h : a.grownBy w (some g)) {p : Addr} (hp : p.block = g ∨ a.heap.size ≤ p.block) (u : Value) : a.grownBy (w.setCell p u) (some g) :=
  ⟨h.os, h.tape, h.output, by simpa [World.setCell] using h.size, fun i hi hne => (Below.heap_setCell w p u i (by
    rintro rfl
    rcases hp with hp | hp
    · exact hne (by rw [hp])
    · omega)).trans (h.block i hi hne)⟩
theorem only_grown {a b c : World} {row row' : Option Nat} (h : a.grownBy b row) (k : b.grownBy c row') (hr : ∀ j, row' = some j → row = some j ∨ a.heap.size ≤ j) : a.grownBy c row :=
  ⟨k.os.trans h.os, k.tape.trans h.tape, k.output.trans h.output, Nat.le_trans h.size k.size, fun i hi hn => (k.block i (Nat.lt_of_lt_of_le hi h.size) (fun e => by
    rcases hr i e.symm with e' | e'
    · exact hn e'.symm
    · omega)).trans (h.block i hi hn)⟩
/-- what was made since base, and turned there, is new to base -/
theorem below_only {B : Nat} {a w w' : World} {g : Nat} (h : Below B a w) (hg : w.grownBy w' (some g)) (hB : B ≤ w.heap.size) (hgB : B ≤ g) : Below B a w' :=
  h.grown hg hB (fun j hj => by cases hj; exact hgB)
end
end Go.Proofs.Ytinlahahbhpppaa
/- Whole structs read from and written into blocks known whole: one step of the walk each, whatever their size. Over any program. -/
namespace Go.Proofs.Ytinlahahbhpppaa
open Go.RowKit
section
variable {P : Program} {w w' : World} {p : Nat} {cs : Array Value} {T : TypeId}
theorem Blk.range (h : Blk w p cs T) : w.rangeAt p 0 cs.toList := fun j v hv => by
  rw [Nat.zero_add]; exact h.cell j (by simpa using hv)
theorem Blk.there (h : Blk w p cs T) : w.there p 0 cs.size := fun j hj => by
  rw [Nat.zero_add]
  exact ⟨by rw [h.cell j (Array.getElem?_eq_getElem hj)]; rfl, h.free j⟩
theorem Blk.setAll {p : Nat} {T : TypeId} : ∀ (vs : List Value) (o : Nat) {w : World} {cs : Array Value}, Blk w p cs T → Blk (w.setCells p o vs) p (vs.foldl (fun (a : Nat × Array Value) v => (a.1 + 1, a.2.setIfInBounds a.1 v)) (o, cs)).2 T
  | [], _, _, _, h => h
  | v :: r, o, w, cs, h => by
    rw [World.setCells, List.foldl_cons]
    exact Blk.setAll r (o + 1) (h.set o v)
theorem fold_set (vs : List Value) : ∀ (o : Nat) (cs : Array Value), o + vs.length = cs.size → (vs.foldl (fun (a : Nat × Array Value) v => (a.1 + 1, a.2.setIfInBounds a.1 v)) (o, cs)).2.toList = cs.toList.take o ++ vs := by
  induction vs with
  | nil =>
    intro o cs h
    rw [List.length_nil, Nat.add_zero] at h
    subst h
    rw [List.foldl_nil, List.append_nil, List.take_of_length_le (by simp)]
  | cons v r ih =>
    intro o cs h
    have ho : o < cs.size := by simp at h; omega
    rw [List.foldl_cons, ih (o + 1) _ (by simp at h ⊢; omega)]
    rw [Array.toList_setIfInBounds, List.take_set, List.take_succ_eq_append_getElem (by simpa using ho)]
    have hl : (cs.toList.take o).length = o := by simp; omega
    rw [List.set_append_right _ _ (Nat.le_of_eq hl), hl, Nat.sub_self]
    simp
theorem Blk.all (h : Blk w p cs T) (vs : Array Value) (hs : vs.size = cs.size) : Blk (w.setCells p 0 vs.toList) p vs T := by
  have := Blk.setAll vs.toList 0 h
  have e := fold_set vs.toList 0 cs (by simpa using hs)
  rw [List.take_zero, List.nil_append] at e
  have e2 : (vs.toList.foldl (fun (a : Nat × Array Value) v => (a.1 + 1, a.2.setIfInBounds a.1 v)) (0, cs)).2 = vs := by
    rw [← Array.toList_inj]; exact e
  rwa [e2] at this
theorem only_setCells (p : Nat) : ∀ (vs : List Value) (o : Nat) (w : World), w.grownBy (w.setCells p o vs) (some p)
  | [], _, w => only_refl w _
  | v :: r, o, w => by
    rw [World.setCells]
    exact only_trans (only_setCell (only_refl w (some p)) (.inl rfl) v) (only_setCells p r (o + 1) _)
/-- the whole of a block is read -/
theorem wpList_load_blk {ops : Array Oper} {rest : List Oper} {op : Oper} {a : Act} {Q : Exit → Act → World → Prop} (hgd : op.guard = none) (ty : TypeId) (x : Operand) (ho : op.op = .load ty x)
    (b : Nat) (hx : a.eval x = .pointer (some ⟨b, 0, none⟩)) (hb : Blk w b cs T) (d : TypeDesc) (hu : P.underlying ty = some d) (hd : d.isRow = true) (hi : (P.info? ty).map (·.size) = some cs.size)
    (h : wpList P ops Q rest (a.put op.dst (.agg cs)) w) : wpList P ops Q (op :: rest) a w :=
  wpList_load_mid hgd ty x ho b 0 hx cs.toList d hb.range hu hd (by simpa using hi) (by simpa using h)
/-- the whole of a block is written -/
theorem wpList_store_blk {ops : Array Oper} {rest : List Oper} {op : Oper} {a : Act} {Q : Exit → Act → World → Prop} (hgd : op.guard = none) (ty : TypeId) (x y : Operand) (ho : op.op = .store ty x y)
    (b : Nat) (hx : a.eval x = .pointer (some ⟨b, 0, none⟩)) (hb : Blk w b cs T) (vs : Array Value) (hy : a.eval y = .agg vs) (hs : vs.size = cs.size) (hi : (P.info? ty).map (·.size) = some vs.size) (h1 : vs.all (·.oneCell') = true)
    (h : ∀ w', Blk w' b vs T → w.grownBy w' (some b) → wpList P ops Q rest (a.put op.dst undef) w') : wpList P ops Q (op :: rest) a w :=
  wpList_store_mid hgd ty x y ho b 0 vs hx hy (by rw [hs]; exact hb.there) hi h1 (h _ (hb.all vs hs) (only_setCells b vs.toList 0 w))
end
end Go.Proofs.Ytinlahahbhpppaa
/- Rows of structs: read, and made by a call for itself. -/
namespace Go.Proofs.Ytinlahahbhpppaa
open Go.RowKit
section
variable {α : Type} {T : TypeId} {n : Nat} {enc : α → List Value}
/-- v is a slice of the call's own, in blocks from base on, that holds these structs (n cells each). -/
def OwnG (T : TypeId) (n : Nat) (enc : α → List Value) (w : World) (base : Nat) (v : Value) (l : List α) : Prop := w.ownsRow base T n v l.length (l.flatMap enc)
/-- these structs lie from a on -/
def RowAt (n : Nat) (enc : α → List Value) (w : World) (a : Option Addr) (l : List α) : Prop :=
  ∀ i (h : i < l.length), ∃ b off, a = some ⟨b, off, none⟩ ∧ ∀ j u, (enc l[i])[j]? = some u → w.cell? ⟨b, off + i * n + j, none⟩ = some u
theorem RowAt.later {w w' : World} {a : Option Addr} {l : List α} (h : RowAt n enc w a l) (hb : Below w.heap.size w w') : RowAt n enc w' a l := by
  intro i hi
  obtain ⟨b, off, e, hc⟩ := h i hi
  exact ⟨b, off, e, fun j u hu => (hb.cell (World.block_lt_of_cell? w _ (hc j u hu))).trans (hc j u hu)⟩
theorem RowAt.nil (w : World) (a : Option Addr) : RowAt n enc w a [] := fun i h => by simp at h
theorem RowAt.grown {w w' : World} {row : Option Nat} {b0 : Nat} {off : Nat} {l : List α} (h : RowAt n enc w (some ⟨b0, off, none⟩) l) (hg : w.grownBy w' row) (hne : row ≠ some b0) : RowAt n enc w' (some ⟨b0, off, none⟩) l := by
  intro i hi
  obtain ⟨b, o, e, hc⟩ := h i hi
  cases e
  exact ⟨b0, off, rfl, fun j u hu => hg.cell (hc j u hu) (fun e => hne e.symm)⟩
theorem OwnG.nil (w : World) (base : Nat) : OwnG T n enc w base (.slice none 0 0) [] := World.ownsRow_nil w base _ _
theorem OwnG.later {w w' : World} {base : Nat} {v : Value} {l : List α} (h : OwnG T n enc w base v l) (hb : Below w.heap.size w w') : OwnG T n enc w' base v l := own_later h hb
theorem flat_at (hlen : ∀ x, (enc x).length = n) : ∀ (l : List α) (i j : Nat) (h : i < l.length), j < n → (l.flatMap enc)[i * n + j]? = (enc l[i])[j]?
  | x :: l, 0, j, _, hj => by
    rw [List.flatMap_cons, Nat.zero_mul, Nat.zero_add, List.getElem?_append_left (by rw [hlen]; exact hj)]
    rfl
  | x :: l, i + 1, j, h, hj => by
    rw [List.flatMap_cons, List.getElem?_append_right (by rw [hlen, Nat.succ_mul]; omega), hlen, show (i + 1) * n + j - n = i * n + j by rw [Nat.succ_mul]; omega]
    exact flat_at hlen l i j (by simpa using h) hj
theorem flat_len (hlen : ∀ x, (enc x).length = n) : ∀ l : List α, (l.flatMap enc).length = l.length * n
  | [] => by simp
  | x :: l => by rw [List.flatMap_cons, List.length_append, hlen, flat_len hlen l, List.length_cons, Nat.succ_mul, Nat.add_comm]
theorem OwnG.shape (hlen : ∀ x, (enc x).length = n) {w : World} {base : Nat} {v : Value} {l : List α} (h : OwnG T n enc w base v l) :
    ∃ a cap, v = .slice a l.length cap ∧ RowAt n enc w a l ∧ l.length ≤ cap ∧ cap ≤ maxLen ∧ (a = none → l = []) := by
  obtain ⟨h1, h2⟩ := h
  rcases h2 with ⟨rfl, h3⟩ | ⟨g, cap, cur, rfl, hb, hg, hn, hm, hs, ht⟩
  · obtain rfl := List.length_eq_zero_iff.1 h3
    exact ⟨none, 0, rfl, RowAt.nil _ _, Nat.le_refl _, Nat.zero_le _, fun _ => rfl⟩
  · refine ⟨_, cap, rfl, ?_, hn, hm, fun e => by cases e⟩
    intro i hi
    refine ⟨g, 0, rfl, fun j u hu => ?_⟩
    have hj : j < n := by
      have := (List.getElem?_eq_some_iff.1 hu).1
      rwa [hlen] at this
    rw [Nat.zero_add, cell_of_row w g _ cur _ _ hg]
    have hlt : i * n + j < l.length * n := by
      calc i * n + j < i * n + n := by omega
        _ = (i + 1) * n := (Nat.succ_mul i n).symm
        _ ≤ l.length * n := Nat.mul_le_mul_right _ hi
    have : (cur.toList.take (l.length * n))[i * n + j]? = (l.flatMap enc)[i * n + j]? := by rw [ht]
    rw [List.getElem?_take, if_pos hlt, flat_at hlen l i j hi hj, hu] at this
    simpa using this
theorem cell_row_new (w : World) (xs : List Value) (t : TypeId) : ∀ j u, xs[j]? = some u → (w.alloc (.cells xs.toArray t)).cell? ((⟨w.heap.size, 0, none⟩ : Addr).add j) = some u := by
  intro j u hj
  have e : (⟨w.heap.size, 0, none⟩ : Addr).add j = ⟨w.heap.size, j, none⟩ := by unfold Addr.add; split <;> simp_all
  rw [e, World.cell?_alloc_mark]
  simpa using hj
theorem wpList_append_one {P : Program} {TS : TypeId} {z : Value} {bytes : Nat} (hinfo : (P.info? T).map (fun i => (i.zero, i.size, i.bytes)) = some (some z, n, bytes)) (hU : P.underlying TS = some (.slice T)) (hzs : z.cells.size = n) (h0 : 0 < n)
    (hlen : ∀ x, (enc x).length = n)
    {ops : Array Oper} {rest : List Oper} {o : Oper} {a : Act} {Q : Exit → Act → World → Prop} (hgd : o.guard = none) (s x : Operand)
    (ho : o.op = .call { callee := .builtin .append, args := #[s, x], argTypes := #[TS, TS] })
    (w : World) (base : Nat) (v : Value) (l : List α) (hs : a.eval s = v) (hown : OwnG T n enc w base v l) (y : α) (hone : ∀ u ∈ enc y, u.oneCell' = true) (cs : Array Value) (hcs : cs = (enc y).toArray)
    (b : Nat) (hx : a.eval x = .slice (some ⟨b, 0, none⟩) 1 1) (hb : b = w.heap.size) (hl : l.length + 1 ≤ maxLen) (hl' : (l.length + 1) * bytes ≤ 140737488355328) (hbase : base ≤ w.heap.size)
    (h : ∀ v' w', OwnG T n enc w' base v' (l ++ [y]) → (w.alloc (.cells cs T)).grownBy w' v.ownBlock → v' ≠ .slice none 0 0 → wpList P ops Q rest (a.put o.dst v') w') :
    wpList P ops Q (o :: rest) a (w.alloc (.cells cs T)) := by
  obtain ⟨i0, hi, hz0, hz1, hz2⟩ := info_parts hinfo
  subst hcs hb
  refine wpList_append_own _ hgd s x TS ho base T i0 z n bytes hU hi hz0 hz1 hz2 hzs h0 v _ _ hs (hown.alloc _) ⟨w.heap.size, 0, none⟩ 1 1 (enc y) hx (by rw [hlen, Nat.one_mul])
    (cell_row_new _ _ _) hone hl hl' (by simp; omega) ?_
  intro v' w' hown' hgrow hnil
  refine h v' w' ?_ hgrow (fun e => by have := (hnil.1 e).2; cases this)
  unfold OwnG
  rw [List.length_append, List.flatMap_append, List.flatMap_singleton]
  exact hown'
end

/-! parameters -/
def encPar (p : ByteArray × ByteArray) : List Value := [.string p.1, .string p.2]
theorem encPar_len (p : ByteArray × ByteArray) : (encPar p).length = 2 := rfl
theorem encPar_one (p : ByteArray × ByteArray) : ∀ u ∈ encPar p, u.oneCell' = true := by
  intro u hu
  simp only [encPar, List.mem_cons, List.not_mem_nil, or_false] at hu
  rcases hu with rfl | rfl <;> rfl
theorem infoPar : (Try.prog.info? 52).map (fun i => (i.zero, i.size, i.bytes)) = some (some (.agg #[.string ⟨#[]⟩, .string ⟨#[]⟩]), 2, 32) := by kernel_rfl
end Go.Proofs.Ytinlahahbhpppaa
/- A frame: what is old is as it was, but for some blocks. Over any program. -/
namespace Go.Proofs.Ytinlahahbhpppaa
open Go.RowKit
structure Only (S : Nat → Prop) (a w : World) : Prop where
  os : w.os = a.os
  tape : w.tape = a.tape
  output : w.output = a.output
  size : a.heap.size ≤ w.heap.size
  block : ∀ i, i < a.heap.size → ¬ S i → w.heap[i]? = a.heap[i]?
section
variable {S T : Nat → Prop} {a b c w : World}
theorem Only.refl (S : Nat → Prop) (a : World) : Only S a a := ⟨rfl, rfl, rfl, Nat.le_refl _, fun _ _ _ => rfl⟩
theorem Only.trans (h : Only S a b) (k : Only S b c) : Only S a c :=
  ⟨k.os.trans h.os, k.tape.trans h.tape, k.output.trans h.output, Nat.le_trans h.size k.size, fun i hi hn => (k.block i (Nat.lt_of_lt_of_le hi h.size) hn).trans (h.block i hi hn)⟩
theorem Only.mono (h : Only S a w) (hs : ∀ i, S i → T i) : Only T a w := ⟨h.os, h.tape, h.output, h.size, fun i hi hn => h.block i hi (fun e => hn (hs i e))⟩
/-- blocks that are new do not count -/
theorem Only.old (h : Only S a w) (hs : ∀ i, S i → T i ∨ a.heap.size ≤ i) : Only T a w := ⟨h.os, h.tape, h.output, h.size, fun i hi hn => h.block i hi (fun e => by
  rcases hs i e with e | e
  · exact hn e
  · omega)⟩
theorem Only.of_below (h : Below a.heap.size a w) : Only S a w := ⟨h.os, h.tape, h.output, h.size, fun i hi _ => h.block i hi⟩
theorem Only.of_grown {row : Option Nat} (h : a.grownBy w row) (hs : ∀ i, row = some i → S i) : Only S a w := ⟨h.os, h.tape, h.output, h.size, fun i hi hn => h.block i hi (fun e => hn (hs i e.symm))⟩
theorem Only.then (h : Only S a b) (k : Below b.heap.size b c) : Only S a c := h.trans (Only.of_below k)
theorem Only.drew (h : Only S a w) : Only S a w.drew := h.then (Below.refl _ _).drew
theorem Only.drewN (h : Only S a w) (n : Nat) : Only S a (w.drewN n) := h.then (below_drewN (Below.refl _ _) n)
theorem Only.alloc (h : Only S a w) (o : Obj) : Only S a (w.alloc o) := h.then ((Below.refl _ _).alloc (Nat.le_refl _) _)
theorem Only.set (h : Only S a w) {p : Addr} (hp : S p.block ∨ a.heap.size ≤ p.block) (u : Value) : Only S a (w.setCell p u) :=
  ⟨h.os, h.tape, h.output, by simpa [World.setCell] using h.size, fun i hi hn => (Below.heap_setCell w p u i (by
    rintro rfl
    rcases hp with hp | hp
    · exact hn hp
    · omega)).trans (h.block i hi hn)⟩
/-- an append to a row that is one of those blocks, or new -/
theorem Only.append (h : Only S a b) {o : Obj} {row : Option Nat} (hg : (b.alloc o).grownBy w row) (hs : ∀ i, row = some i → S i ∨ a.heap.size ≤ i) : Only S a w :=
  ⟨hg.os.trans (h.alloc o).os, hg.tape.trans (h.alloc o).tape, hg.output.trans (h.alloc o).output, Nat.le_trans (h.alloc o).size hg.size, fun i hi hn => (hg.block i (Nat.lt_of_lt_of_le hi (h.alloc o).size) (fun e => by
    rcases hs i e.symm with e | e
    · exact hn e
    · omega)).trans ((h.alloc o).block i hi hn)⟩
theorem Only.blk {p : Nat} {cs : Array Value} {t : TypeId} (h : Only S a w) (hb : Blk a p cs t) (hp : ¬ S p) : Blk w p cs t := (h.block p hb.lt hp).trans hb
theorem Only.heap {p : Nat} {o : Obj} (h : Only S a w) (hb : a.heap[p]? = some o) (hp : ¬ S p) : w.heap[p]? = some o := (h.block p (Array.getElem?_eq_some_iff.1 hb).1 hp).trans hb
theorem Only.cell {x : Addr} {v : Value} (h : Only S a w) (hc : a.cell? x = some v) (hx : ¬ S x.block) : w.cell? x = some v := by
  have hl := World.block_lt_of_cell? _ _ hc
  exact (World.cell?_of_block (w := a) (h.block _ hl hx)).trans hc
theorem Only.frozen {x : Addr} (h : Only S a w) (hl : x.block < a.heap.size) (hx : ¬ S x.block) : w.frozen? x = a.frozen? x := by
  exact World.frozen?_of_block (w := a) (h.block _ hl hx)
theorem Only.below {B : Nat} (h : Only S a w) (hb : Below B b a) (hB : B ≤ a.heap.size) (hs : ∀ i, S i → B ≤ i) : Below B b w :=
  ⟨h.os.trans hb.os, h.tape.trans hb.tape, h.output.trans hb.output, Nat.le_trans hb.size h.size, fun i hi => (h.block i (Nat.lt_of_lt_of_le hi hB) (fun e => by have := hs i e; omega)).trans (hb.block i hi)⟩
theorem Only.own {base size n : Nat} {e : TypeId} {v : Value} {xs : List Value} (h : Only S a w) (ho : a.ownsRow base e size v n xs) (hs : ∀ g, v.ownBlock = some g → ¬ S g) : w.ownsRow base e size v n xs := by
  obtain ⟨h1, h2⟩ := ho
  refine ⟨h1, ?_⟩
  rcases h2 with h2 | ⟨g, cap, cur, rfl, hb, hg, hn, hm, hz, ht⟩
  · exact .inl h2
  · exact .inr ⟨g, cap, cur, rfl, hb, h.heap hg (hs g rfl), hn, hm, hz, ht⟩
theorem Only.rowAt {α : Type} {n : Nat} {enc : α → List Value} {ad : Option Addr} {l : List α} (h : Only S a w) (hr : RowAt n enc a ad l) (hs : ∀ x, ad = some x → ¬ S x.block) : RowAt n enc w ad l := by
  intro i hi
  obtain ⟨bl, off, e, hc⟩ := hr i hi
  exact ⟨bl, off, e, fun j u hu => h.cell (hc j u hu) (show ¬ S bl from hs ⟨bl, off, none⟩ e)⟩
end
end Go.Proofs.Ytinlahahbhpppaa
/- An append to a row of structs, at a step of a region that draws its order. -/
namespace Go.Proofs.Ytinlahahbhpppaa
open Go.RowKit
theorem step_append_one {α : Type} {T : TypeId} {n : Nat} {enc : α → List Value} {P : Program} {TS : TypeId} {z : Value} {bytes : Nat} (hinfo : (P.info? T).map (fun i => (i.zero, i.size, i.bytes)) = some (some z, n, bytes)) (hU : P.underlying TS = some (.slice T)) (hzs : z.cells.size = n) (h0 : 0 < n)
    (hlen : ∀ x, (enc x).length = n)
    {ops : Array Oper} {o : Oper} {a : Act} {K : Act → World → Prop} {Q : Exit → Act → World → Prop} {E : Prop} (hgd : o.guard = none) (s x : Operand)
    (ho : o.op = .call { callee := .builtin .append, args := #[s, x], argTypes := #[TS, TS] })
    (w : World) (base : Nat) (v : Value) (l : List α) (hs : a.eval s = v) (hown : OwnG T n enc w base v l) (y : α) (hone : ∀ u ∈ enc y, u.oneCell' = true) (cs : Array Value) (hcs : cs = (enc y).toArray)
    (b : Nat) (hx : a.eval x = .slice (some ⟨b, 0, none⟩) 1 1) (hb : b = w.heap.size) (hl : l.length + 1 ≤ maxLen) (hl' : (l.length + 1) * bytes ≤ 140737488355328) (hbase : base ≤ w.heap.size)
    (h : ∀ v' w', OwnG T n enc w' base v' (l ++ [y]) → (w.alloc (.cells cs T)).grownBy w' v.ownBlock → K (a.put o.dst v') w') :
    if Region.wanted o (yielded ops a.tmps) = true then Oper.wp P o a (w.alloc (.cells cs T)) K Q else E := by
  obtain ⟨i0, hi, hz0, hz1, hz2⟩ := info_parts hinfo
  subst hcs hb
  have hw : Region.wanted o (yielded ops a.tmps) = true := by simp [Region.wanted, hgd]
  rw [if_pos hw]
  refine wp_append_own _ s x TS ho base T i0 z n bytes hU hi hz0 hz1 hz2 hzs h0 v _ _ hs (hown.alloc _) ⟨w.heap.size, 0, none⟩ 1 1 (enc y) hx (by rw [hlen, Nat.one_mul])
    (cell_row_new _ _ _) hone hl hl' (by simp; omega) ?_
  intro v' w' hown' hgrow _
  refine h v' w' ?_ hgrow
  unfold OwnG
  rw [List.length_append, List.flatMap_append, List.flatMap_singleton]
  exact hown'
end Go.Proofs.Ytinlahahbhpppaa
/- Bytes that may stand between marks. Plain; no program. -/
namespace Go.Proofs.Ytinlahahbhpppaa
/-- a byte that may stand between marks -/
def textB (c : UInt8) : Bool := decide (c.toNat = 9 ∨ 32 ≤ c.toNat ∧ c.toNat ≠ 127)
end Go.Proofs.Ytinlahahbhpppaa
/- coding.Lower and the reference's Lower: each returns the text with small letters for great ones. -/
namespace Go.Proofs.Ytinlahahbhpppaa
open Go.RowKit

def low (c : UInt8) : UInt8 := if 65 ≤ c.toNat ∧ c.toNat ≤ 90 then c + 32 else c
def lower (l : List UInt8) : List UInt8 := l.map low
theorem lower_length (l : List UInt8) : (lower l).length = l.length := by simp [lower]
theorem size_data (s : ByteArray) : s.size = s.data.toList.length := Lib.size_eq s

/-- Block g holds the bytes of l from its head on; no cell of these is frozen. -/
def BytesAt (w : World) (g : Nat) (l : List UInt8) : Prop :=
  ∃ cur fr, w.heap[g]? = some (.cells cur 5 fr) ∧ l.length ≤ fr.1 ∧ ∀ i (h : i < l.length), cur[i]? = some (.int .u8 (l[i].toNat : Int))

theorem BytesAt.cell {w : World} {g : Nat} {l : List UInt8} (h : BytesAt w g l) (i : Nat) (hi : i < l.length) : w.cell? ⟨g, i, none⟩ = some (.int .u8 (l[i].toNat : Int)) := by
  obtain ⟨cur, fr, hg, _, hc⟩ := h
  rw [cell_of_row w g i cur _ fr hg]; exact hc i hi

theorem BytesAt.free {w : World} {g : Nat} {l : List UInt8} (h : BytesAt w g l) (i : Nat) (hi : i < l.length) : w.frozen? ⟨g, i, none⟩ = false := by
  obtain ⟨cur, fr, hg, hf, hc⟩ := h
  simp [World.frozen?, hg]; omega

theorem BytesAt.set {w : World} {g : Nat} {l : List UInt8} (h : BytesAt w g l) (i : Nat) (c : UInt8) : BytesAt (w.setCell ⟨g, i, none⟩ (.int .u8 (c.toNat : Int))) g (l.set i c) := by
  obtain ⟨cur, fr, hg, hf, hc⟩ := h
  refine ⟨cur.setIfInBounds i (.int .u8 (c.toNat : Int)), fr, ?_, by simpa using hf, ?_⟩
  · show (w.heap.modify g _)[g]? = _
    rw [Array.getElem?_modify, if_pos rfl, hg]
    rfl
  · intro j hj
    simp at hj
    have := hc j hj
    rw [Array.getElem?_setIfInBounds, List.getElem_set]
    split
    · subst_vars; split <;> simp_all
    · exact this

theorem BytesAt.made (w : World) (s : ByteArray) (cap : Nat) (n m : Nat) (hn : s.size ≤ n) :
    BytesAt (w.alloc (.cells (bytesRow s cap) 5 (n, m))).drew w.heap.size s.data.toList := by
  refine ⟨_, _, heap_alloc_new w _, by rw [← size_data]; exact hn, ?_⟩
  intro i hi
  rw [bytesRow_at s cap i (by simpa using hi)]
  simp

theorem bytesRow_size (s : ByteArray) (cap : Nat) : s.size ≤ (bytesRow s cap).size := by
  rw [size_data]; simp [bytesRow]

/-- so many bytes lowered -/
def lowTo (l : List UInt8) (k : Nat) : List UInt8 := lower (l.take k) ++ l.drop k
theorem lowTo_length (l : List UInt8) (k : Nat) : (lowTo l k).length = l.length := by simp [lowTo, lower]; omega
theorem lowTo_zero (l : List UInt8) : lowTo l 0 = l := by simp [lowTo, lower]
theorem lowTo_all (l : List UInt8) : lowTo l l.length = lower l := by simp [lowTo]
theorem lowTo_at (l : List UInt8) (k : Nat) (h : k < l.length) : (lowTo l k)[k]'(by rw [lowTo_length]; exact h) = l[k] := by
  simp only [lowTo]
  rw [List.getElem_append_right (by simp [lower]; omega)]
  simp [lower, Nat.min_eq_left (Nat.le_of_lt h)]
theorem lowTo_succ (l : List UInt8) (k : Nat) (h : k < l.length) : lowTo l (k + 1) = (lowTo l k).set k (low l[k]) := by
  apply List.ext_getElem
  · simp [lowTo_length]
  · intro i h1 h2
    simp only [lowTo]
    rw [List.getElem_set]
    simp [lowTo_length] at h1 h2
    by_cases e : k = i
    · subst e
      rw [if_pos rfl, List.getElem_append_left (by simp [lower]; omega)]
      simp [lower]
    · rw [if_neg e]
      by_cases hi : i < k
      · rw [List.getElem_append_left (by simp [lower]; omega), List.getElem_append_left (by simp [lower]; omega)]
        simp [lower]
      · rw [List.getElem_append_right (by simp [lower]; omega), List.getElem_append_right (by simp [lower]; omega)]
        simp [lower, Nat.min_eq_left (Nat.le_of_lt h), Nat.min_eq_left (show k + 1 ≤ l.length from h)]
        congr 1
        omega

theorem mk_append (a b : List UInt8) : (⟨a.toArray⟩ : ByteArray) ++ ⟨b.toArray⟩ = ⟨(a ++ b).toArray⟩ := by
  rw [ByteArray.mk_append_mk]
theorem lower_take_succ (l : List UInt8) (k : Nat) (h : k < l.length) : lower (l.take (k + 1)) = lower (l.take k) ++ [low l[k]] := by
  rw [List.take_succ_eq_append_getElem h]; unfold lower; rw [List.map_append]; rfl
theorem mk_size (a : List UInt8) : (⟨a.toArray⟩ : ByteArray).size = a.length := by rw [size_data]

theorem low_hi (c : UInt8) (h : 65 ≤ (c.toNat : Int) ∧ (c.toNat : Int) ≤ 90) : chr ((c.toNat : Int) + 32) = low c := by
  unfold low chr; rw [if_pos (by omega)]
  apply UInt8.toNat.inj; simp [UInt8.toNat_add]; omega
theorem low_no (c : UInt8) (h : (c.toNat : Int) < 65 ∨ 90 < (c.toNat : Int)) : chr (c.toNat : Int) = low c := by
  unfold low chr; rw [if_neg (by omega)]
  apply UInt8.toNat.inj; have := c.toNat_lt; simp; omega

set_option maxRecDepth 100000 in
set_option maxHeartbeats 400000 in
theorem refLower (s : ByteArray) (w : World) (hs : s.size ≤ maxLen) :
    Calls Try.prog 14 #[.string s] w fun e w' => e = .returned (.string ⟨(lower s.data.toList).toArray⟩) ∧ Below w.heap.size w w' := by
  unfold maxLen at hs
  go_enter Try.func14, Try.ntmps14
  go_wp2
  go_loopw [3, 8] (fun o i wr => ∃ k : Nat, k ≤ s.size ∧ i = .int .i64 k ∧ Below w.heap.size w wr ∧ o = .string ⟨(lower (s.data.toList.take k)).toArray⟩) (fun _ i _ => s.size - (intOf i).toNat)
  case atStart => exact ⟨0, Nat.zero_le _, rfl, Below.refl _ _, rfl⟩
  case round =>
    obtain ⟨k, hk, rfl, hB, rfl⟩ := hrel
    by_cases hlt : k < s.size
    · have hl : k < s.data.toList.length := by rw [← size_data]; exact hlt
      have hsucc := Lib.hid (lower_take_succ s.data.toList k hl)
      have hl2 : s.data.toList[k] = s[k] := by simp; rfl
      have hl3 := Lib.hid hl2; clear hl2
      have hc256 : (s[k].toNat : Int) < 256 := by have := s[k].toNat_lt; omega
      go_wp2_with fail
      refine (within_any _ _ _ _).mono ?_
      rintro e w' ⟨rfl, rfl⟩
      go_wp2_with fail
      all_goals
        refine (char_any _ _).mono ?_
        rintro e w' ⟨rfl, hB'⟩
        have hB2 : Below w.heap.size w w' := hB.trans (hB'.mono hB.size)
        have hadd := fun x => run_string_add_sum (P := Try.prog) w' ⟨(lower (s.data.toList.take k)).toArray⟩ ⟨#[x]⟩ (by rw [mk_size, lower_length]; have : (⟨#[x]⟩ : ByteArray).size = 1 := rfl; rw [this]; simp; omega)
        go_wp2
        go_roundw
        case rel =>
          refine ⟨k + 1, by omega, by go_num, hB2, ?_⟩
          rw [hsucc.out, hl3.out]
          refine congrArg Value.string ?_
          refine (mk_append _ [_]).trans ?_
          first | rw [low_hi _ (by assumption)] | rw [low_no _ (by assumption)]
        case measure => simp [intOf]; omega
    · obtain rfl : s.size = k := by omega
      go_wp2
      go_ret
      exact ⟨ret_str (by rw [size_data, List.take_length]), hB⟩

end Go.Proofs.Ytinlahahbhpppaa
/- token.Same and the reference's Same: whether two texts are one in small letters. -/
namespace Go.Proofs.Ytinlahahbhpppaa
open Go.RowKit

def same (a b : ByteArray) : Bool := lower a.data.toList == lower b.data.toList

end Go.Proofs.Ytinlahahbhpppaa
/- ask.Get and the reference's AskGet: the value of the first parameter of a name. -/
namespace Go.Proofs.Ytinlahahbhpppaa
open Go.RowKit

/-- The slice at a holds these pairs of texts. -/
def ParAt (w : World) (a : Option Addr) (ps : List (ByteArray × ByteArray)) : Prop :=
  ∀ i (h : i < ps.length), ∃ b off, a = some ⟨b, off, none⟩ ∧ w.cell? ⟨b, off + i * 2, none⟩ = some (.string ps[i].1) ∧ w.cell? ⟨b, off + i * 2 + 1, none⟩ = some (.string ps[i].2)
def ParSz (ps : List (ByteArray × ByteArray)) : Prop := ∀ p ∈ ps, p.1.size ≤ maxLen ∧ p.2.size ≤ maxLen

theorem ParAt.later {w w' : World} {a : Option Addr} {ps : List (ByteArray × ByteArray)} (h : ParAt w a ps) (hb : Below w.heap.size w w') : ParAt w' a ps := by
  intro i hi
  obtain ⟨b, off, ha, h1, h2⟩ := h i hi
  exact ⟨b, off, ha, (hb.cell (World.block_lt_of_cell? w _ h1)).trans h1, (hb.cell (World.block_lt_of_cell? w _ h2)).trans h2⟩

/-- the value of the first parameter of a name -/
def getOf (ps : List (ByteArray × ByteArray)) (name : ByteArray) : ByteArray × Bool :=
  match ps.find? (fun p => same p.1 name) with
  | some p => (p.2, true)
  | none => (⟨#[]⟩, false)

def noneTo (ps : List (ByteArray × ByteArray)) (name : ByteArray) (k : Nat) : Prop := ∀ p ∈ ps.take k, same p.1 name = false
theorem noneTo_zero (ps : List (ByteArray × ByteArray)) (name : ByteArray) : noneTo ps name 0 := by intro p hp; simp at hp
theorem noneTo_succ {ps : List (ByteArray × ByteArray)} {name : ByteArray} {k : Nat} (h : noneTo ps name k) (hk : k < ps.length) (hs : same ps[k].1 name = false) : noneTo ps name (k + 1) := by
  intro p hp
  rw [List.take_succ_eq_append_getElem hk] at hp
  rcases List.mem_append.1 hp with h1 | h1
  · exact h p h1
  · simp at h1; subst h1; exact hs
theorem getOf_hit {ps : List (ByteArray × ByteArray)} {name : ByteArray} {k : Nat} (h : noneTo ps name k) (hk : k < ps.length) (hs : same ps[k].1 name = true) : getOf ps name = (ps[k].2, true) := by
  have : ps.find? (fun p => same p.1 name) = some ps[k] := by
    rw [List.find?_eq_some_iff_getElem]
    refine ⟨hs, k, hk, rfl, fun j hj => ?_⟩
    have := h ps[j] (by rw [List.mem_take_iff_getElem]; exact ⟨j, by omega, rfl⟩)
    simp [this]
  unfold getOf
  rw [this]
theorem getOf_miss {ps : List (ByteArray × ByteArray)} {name : ByteArray} (h : noneTo ps name ps.length) : getOf ps name = (⟨#[]⟩, false) := by
  unfold getOf
  rw [List.find?_eq_none.2 (fun p hp => by simp [h p (by simpa using hp)])]

end Go.Proofs.Ytinlahahbhpppaa
/- How arguments read: a value of a type, read as the row reads it, within the form's own reach. Over any program. -/
namespace Go.Proofs.Ytinlahahbhpppaa
open Go.ChangeShapes Go.WideShapes Go.ChangeAt Go.RowKit Go.WideElems Go.Deep

/-- These cells read as a value of type t, nothing in it beyond the reach. -/
def Rd (P : Program) (w : World) (t : TypeId) (cs : List Value) : Prop :=
  ∃ (H : Type) (enc : TypeId × Value → H) (fuel : Nat) (d : DataW H) (ps : List MemPlace),
    DataW.trod enc P w 0 (fun _ => true) true fuel t cs = some (d, ps) ∧ (d.weights P t).all (· ≤ reachBytes) = true

section
variable {P : Program} {w : World} {t : TypeId} {cs : List Value}

theorem Rd.string (h : Rd P w t cs) (ht : P.underlying t = some .string) : ∃ s : ByteArray, cs = [.string s] ∧ s.size ≤ reachBytes := by
  obtain ⟨H, enc, fuel, d, ps, h1, h2⟩ := h
  cases fuel with
  | zero => simp [DataW.trod] at h1
  | succ n =>
    unfold DataW.trod at h1
    simp only [ht] at h1
    split at h1 <;> simp_all
    obtain ⟨_, rfl, _⟩ := h1
    rw [Lib.size_eq]
    simpa [DataW.weights] using h2

theorem Rd.bool (h : Rd P w t cs) (ht : P.underlying t = some .bool) : ∃ b, cs = [.bool b] := by
  obtain ⟨H, enc, fuel, d, ps, h1, h2⟩ := h
  obtain ⟨b, h, _⟩ := DataW.trod_bool ht h1
  exact ⟨b, h⟩

theorem Rd.int {k : IntKind} (h : Rd P w t cs) (ht : P.underlying t = some (.int k)) : ∃ n, cs = [.int k n] ∧ (Lit.int k n).wf = true := by
  obtain ⟨H, enc, fuel, d, ps, h1, h2⟩ := h
  obtain ⟨b, h, _, h'⟩ := DataW.trod_int ht h1
  exact ⟨b, h, h'⟩

theorem weightsEach_at {H : Type} : ∀ {ts : List TypeId} {ds : List (DataW H)} {j : Nat} {u : TypeId} {d : DataW H}, ts[j]? = some u → ds[j]? = some d → (DataW.weightsEach P ts ds).all (· ≤ reachBytes) = true → (d.weights P u).all (· ≤ reachBytes) = true := by
  intro ts ds j u d h1 h2 h
  rw [List.all_eq_true] at h ⊢
  exact fun x hx => h x (DataW.weights_mem_each h1 h2 x hx)

theorem weightsAll_at {H : Type} {e : TypeId} : ∀ {ds : List (DataW H)} {d : DataW H}, d ∈ ds → (DataW.weightsAll P e ds).all (· ≤ reachBytes) = true → (d.weights P e).all (· ≤ reachBytes) = true
  | [], _, h, _ => by cases h
  | x :: r, d, h, hw => by
    simp only [DataW.weightsAll, List.all_append, Bool.and_eq_true] at hw
    rcases List.mem_cons.1 h with rfl | h
    · exact hw.1
    · exact weightsAll_at h hw.2

theorem Rd.struct {fs : Array Field} (h : Rd P w t cs) (ht : P.underlying t = some (.struct fs)) :
    cs.length = P.cellsOf t ∧ ∀ (i : Nat) (f : Field), fs[i]? = some f → Rd P w f.type ((cs.drop f.offset).take (P.cellsOf f.type)) := by
  obtain ⟨H, enc, fuel, d, ps, h1, h2⟩ := h
  obtain ⟨xs, n, _, hx, hl, hn, hf⟩ := DataW.trod_struct ht h1
  obtain ⟨rfl, rfl⟩ := Prod.mk.inj hx
  refine ⟨hl, fun i f hi => ?_⟩
  have hlt : i < xs.length := by
    rw [hn]
    rcases Nat.lt_or_ge i fs.size with h | h
    · exact h
    · rw [Array.getElem?_eq_none h] at hi; cases hi
  have h3 := hf i f hi
  rw [List.getElem?_eq_getElem hlt] at h3
  refine ⟨H, enc, n, xs[i].1, xs[i].2, h3, ?_⟩
  simp only [DataW.weights, ht] at h2
  refine weightsEach_at (j := i) ?_ ?_ h2
  · simp [hi]
  · simp [List.getElem?_eq_getElem hlt]

theorem Rd.field {fs : Array Field} (h : Rd P w t cs) (ht : P.underlying t = some (.struct fs)) (i : Nat) {u : TypeId} {off n : Nat} (hf : (fs[i]?).map (fun f => (f.type, f.offset)) = some (u, off)) (hn : P.cellsOf u = n) :
    Rd P w u ((cs.drop off).take n) := by
  cases hfi : fs[i]? with
  | none => simp [hfi] at hf
  | some f =>
    simp [hfi] at hf
    obtain ⟨rfl, rfl⟩ := hf
    have := (h.struct ht).2 i f hfi
    rwa [hn] at this

theorem Rd.slice {e : TypeId} (h : Rd P w t cs) (ht : P.underlying t = some (.slice e)) (hpos : 0 < P.cellsOf e) :
    ∃ (a : Option Addr) (len cap : Nat), cs = [.slice a len cap] ∧ len * P.bytesOf e ≤ reachBytes ∧ len ≤ maxLen ∧ len ≤ cap ∧ cap ≤ maxLen ∧ (a = none → len = 0 ∧ cap = 0) ∧
      ∀ i, i < len → ∃ b off cs', a = some ⟨b, off, none⟩ ∧ cs'.length = P.cellsOf e ∧ Rd P w e cs' ∧ ∀ j, j < P.cellsOf e → w.cell? ⟨b, off + i * P.cellsOf e + j, none⟩ = cs'[j]? := by
  obtain ⟨H, enc, fuel, d, ps, h1, h2⟩ := h
  rcases open_slice ht h1 with ⟨rfl, _⟩ | ⟨a, len, cap, m, n, D, Pl, rfl, _, hl, hm, hmm, hx, hi⟩
  · exact ⟨none, 0, 0, rfl, by simp [reachBytes], by simp, by simp, by simp, by simp, fun i hi => by omega⟩
  · obtain ⟨rfl, rfl⟩ := Prod.mk.inj hx
    simp only [if_true] at hmm
    subst hmm
    simp only [DataW.weights, ht, List.all_cons, Bool.and_eq_true, List.all_append, decide_eq_true_eq] at h2
    obtain ⟨h3, h4, h5⟩ := h2
    refine ⟨some a, len, m, rfl, ?_, by omega, hl, hm, by simp, fun i hlt => ?_⟩
    · refine Nat.le_trans (Nat.mul_le_mul_right _ ?_) h3
      simp
    · obtain ⟨cs', h6, h7⟩ := hi i (by omega)
      obtain ⟨_, hlen, hc⟩ := World.cells?_some h6
      have hd : D i ∈ (List.range len).map D := List.mem_map.2 ⟨i, List.mem_range.2 hlt, rfl⟩
      have hsp : a.spot = none := by
        cases hs : a.spot with
        | none => rfl
        | some x =>
          exfalso
          obtain ⟨c0, g6, _⟩ := hi 0 (by omega)
          obtain ⟨_, glen, gc⟩ := World.cells?_some g6
          have h8 := gc 0 hpos
          have e0 : (a.add (0 * P.cellsOf e)).add 0 = a := by simp [Addr.add]
          rw [e0] at h8
          have : w.cell? a = none := by
            unfold World.cell?
            split
            · simp [hs]
            · rfl
          rw [this] at h8
          have h9 : 0 < c0.length := by omega
          rw [List.getElem?_eq_getElem h9] at h8
          cases h8
      obtain ⟨b, off, sp⟩ := a
      simp only at hsp
      subst hsp
      refine ⟨b, off, cs', rfl, hlen, ⟨H, enc, n, D i, Pl i, h7, weightsAll_at hd h4⟩, fun j hj => ?_⟩
      rw [← hc j hj]
      congr 1
      have ea : ∀ (x n : Nat), (⟨b, x, none⟩ : Addr).add n = ⟨b, x + n, none⟩ := by
        intro x n; unfold Addr.add; split <;> simp_all
      rw [ea, ea]

/-- An argument by its place. -/
theorem Rd.of {H : Type} {enc : TypeId × Value → H} {v : Value} {d : DataW H} {ps : List MemPlace} (h : DataW.Trod enc P w 0 (fun _ => true) true t v d ps) (hs : (d.weights P t).all (· ≤ reachBytes) = true) : Rd P w t v.cells.toList := by
  obtain ⟨fuel, h⟩ := h
  exact ⟨H, enc, fuel, d, ps, h, hs⟩
end

theorem exists_list {α : Type} (p : Nat → α → Prop) : ∀ (n : Nat), (∀ i, i < n → ∃ x, p i x) → ∃ l : List α, l.length = n ∧ ∀ i (h : i < l.length), p i l[i]
  | 0, _ => ⟨[], rfl, fun i h => by simp at h⟩
  | n + 1, h => by
    obtain ⟨l, hl, hp⟩ := exists_list p n (fun i hi => h i (by omega))
    obtain ⟨x, hx⟩ := h n (by omega)
    refine ⟨l ++ [x], by simp [hl], fun i hi => ?_⟩
    by_cases e : i < l.length
    · rw [List.getElem_append_left e]; exact hp i e
    · obtain rfl : i = l.length := by simp at hi; omega
      simp [hl, hx]

section
variable {P : Program} {w : World} {t : TypeId} {v : Value} {r : Reach} {base : Nat}
theorem Rd.string_v (h : Rd P w t v.cells.toList) (hv : Value.okWide P w r base t v) (ht : P.underlying t = some .string) : ∃ s : ByteArray, v = .string s ∧ s.size ≤ reachBytes := by
  obtain ⟨s, rfl⟩ := okWide_string ht hv
  obtain ⟨s', h1, h2⟩ := h.string ht
  simp [Value.cells] at h1
  subst h1
  exact ⟨s, rfl, h2⟩
theorem Rd.int_v {k : IntKind} (h : Rd P w t v.cells.toList) (hv : Value.okWide P w r base t v) (ht : P.underlying t = some (.int k)) : ∃ n, v = .int k n ∧ (Lit.int k n).wf = true := by
  obtain ⟨s, rfl⟩ := okWide_int ht hv
  obtain ⟨s', h1, h2⟩ := h.int ht
  simp [Value.cells] at h1
  subst h1
  exact ⟨s, rfl, h2⟩
theorem Rd.bool_v (h : Rd P w t v.cells.toList) (hv : Value.okWide P w r base t v) (ht : P.underlying t = some .bool) : ∃ b, v = .bool b := by
  obtain ⟨s, rfl⟩ := okWide_bool ht hv
  exact ⟨s, rfl⟩
end

end Go.Proofs.Ytinlahahbhpppaa
/- Arguments that are lists of parameters, as pairs of texts. -/
namespace Go.Proofs.Ytinlahahbhpppaa
open Go.ChangeShapes Go.WideShapes Go.ChangeAt Go.RowKit Go.WideElems Go.Deep

theorem cellsString : Try.prog.cellsOf 9 = 1 := by kernel_rfl
theorem cellsInt : Try.prog.cellsOf 3 = 1 := by kernel_rfl
theorem cellsBool : Try.prog.cellsOf 4 = 1 := by kernel_rfl
theorem cellsParam : Try.prog.cellsOf 52 = 2 := by kernel_rfl
theorem cellsParams : Try.prog.cellsOf 30 = 1 := by kernel_rfl
theorem bytesParam : Try.prog.bytesOf 52 = 32 := by kernel_rfl

def ParRe (ps : List (ByteArray × ByteArray)) : Prop := ∀ p ∈ ps, p.1.size ≤ reachBytes ∧ p.2.size ≤ reachBytes
theorem reach_max {n : Nat} (h : n ≤ reachBytes) : n ≤ maxLen := Nat.le_trans h (by decide)
theorem ParRe.sz {ps : List (ByteArray × ByteArray)} (h : ParRe ps) : ParSz ps := fun p hp => ⟨reach_max (h p hp).1, reach_max (h p hp).2⟩

set_option maxRecDepth 100000 in
theorem par_open {w : World} {cs : List Value} (h : Rd Try.prog w 52 cs) : ∃ p : ByteArray × ByteArray, cs = [.string p.1, .string p.2] ∧ p.1.size ≤ reachBytes ∧ p.2.size ≤ reachBytes := by
  obtain ⟨hl, _⟩ := h.struct Try.underlying52
  rw [cellsParam] at hl
  match cs, hl with
  | [c0, c1], _ =>
    have r0 : Rd Try.prog w 9 [c0] := h.field Try.underlying52 0 rfl cellsString
    have r1 : Rd Try.prog w 9 [c1] := h.field Try.underlying52 1 rfl cellsString
    obtain ⟨s0, e0, z0⟩ := r0.string Try.underlying9
    obtain ⟨s1, e1, z1⟩ := r1.string Try.underlying9
    simp at e0 e1
    subst e0; subst e1
    exact ⟨(s0, s1), rfl, z0, z1⟩

set_option maxRecDepth 100000 in
theorem pars_open {w : World} {a : Option Addr} {len cap : Nat} (h : Rd Try.prog w 30 [.slice a len cap]) :
    ∃ ps, ps.length = len ∧ ParAt w a ps ∧ ParRe ps ∧ len * 32 ≤ reachBytes ∧ len ≤ cap ∧ cap ≤ maxLen ∧ (a = none → len = 0 ∧ cap = 0) := by
  obtain ⟨a', len', cap', e, hb, _, hl, hc, hn, hi⟩ := h.slice Try.underlying30 (by rw [cellsParam]; decide)
  simp at e
  obtain ⟨rfl, rfl, rfl⟩ := e
  rw [bytesParam] at hb
  rw [cellsParam] at hi
  obtain ⟨ps, hps, hp⟩ := exists_list (fun i (p : ByteArray × ByteArray) => (∃ b off, a = some ⟨b, off, none⟩ ∧ w.cell? ⟨b, off + i * 2, none⟩ = some (.string p.1) ∧ w.cell? ⟨b, off + i * 2 + 1, none⟩ = some (.string p.2)) ∧ p.1.size ≤ reachBytes ∧ p.2.size ≤ reachBytes) len (by
    intro i hil
    obtain ⟨b, off, cs', ha, hl', hR, hcell⟩ := hi i hil
    obtain ⟨p, rfl, z0, z1⟩ := par_open hR
    exact ⟨p, ⟨b, off, ha, by (have h0 := hcell 0 (by decide)); first | (simp; done) | (simpa using h0), by (have h0 := hcell 1 (by decide)); first | (simp; done) | (simpa using h0)⟩, z0, z1⟩)
  refine ⟨ps, hps, fun i hil => (hp i hil).1, ?_, hb, hl, hc, hn⟩
  intro p hpm
  obtain ⟨i, hil, rfl⟩ := List.getElem_of_mem hpm
  exact (hp i hil).2

/-- a challenge: its texts, its parameters, and where they lie -/
structure Chal where
  scheme : ByteArray
  token : ByteArray
  addr : Option Addr
  cap : Nat
  params : List (ByteArray × ByteArray)
def Chal.cells (c : Chal) : List Value := [.string c.scheme, .string c.token, .slice c.addr c.params.length c.cap]
structure Chal.Ok (w : World) (c : Chal) : Prop where
  s1 : c.scheme.size ≤ reachBytes
  s2 : c.token.size ≤ reachBytes
  len : c.params.length * 32 ≤ reachBytes
  at_ : ParAt w c.addr c.params
  re : ParRe c.params

theorem Chal.Ok.later {w w' : World} {c : Chal} (h : c.Ok w) (hb : Below w.heap.size w w') : c.Ok w' := ⟨h.s1, h.s2, h.len, h.at_.later hb, h.re⟩
theorem Chal.Ok.lenMax {w : World} {c : Chal} (h : c.Ok w) : c.params.length ≤ maxLen := reach_max (Nat.le_trans (Nat.le_mul_of_pos_right _ (by decide)) h.len)

end Go.Proofs.Ytinlahahbhpppaa
/- What the statements' 'heavy' says of challenges: if it says no, they are few and short. -/
namespace Go.Proofs.Ytinlahahbhpppaa
open Go.RowKit

/-- The slice at a holds these challenges. -/
def ChalAt (w : World) (a : Option Addr) (cs : List Chal) : Prop :=
  ∀ i (h : i < cs.length), ∃ b off, a = some ⟨b, off, none⟩ ∧ w.cell? ⟨b, off + i * 3, none⟩ = some (.string cs[i].scheme) ∧ w.cell? ⟨b, off + i * 3 + 1, none⟩ = some (.string cs[i].token) ∧
    w.cell? ⟨b, off + i * 3 + 2, none⟩ = some (.slice cs[i].addr cs[i].params.length cs[i].cap)
theorem ChalAt.later {w w' : World} {a : Option Addr} {cs : List Chal} (h : ChalAt w a cs) (hb : Below w.heap.size w w') : ChalAt w' a cs := by
  intro i hi
  obtain ⟨b, off, ha, h1, h2, h3⟩ := h i hi
  exact ⟨b, off, ha, (hb.cell (World.block_lt_of_cell? w _ h1)).trans h1, (hb.cell (World.block_lt_of_cell? w _ h2)).trans h2, (hb.cell (World.block_lt_of_cell? w _ h3)).trans h3⟩

def wTo (c : Chal) (k : Nat) : Nat := c.scheme.size + c.token.size + ((c.params.take k).map (fun p => p.1.size + p.2.size)).sum
theorem wTo_zero (c : Chal) : wTo c 0 = c.scheme.size + c.token.size := by simp [wTo]
theorem wTo_succ (c : Chal) (k : Nat) (h : k < c.params.length) : wTo c (k + 1) = wTo c k + (c.params[k].1.size + c.params[k].2.size) := by
  unfold wTo; rw [List.take_succ_eq_append_getElem h, List.map_append, List.sum_append]; simp only [List.map_cons, List.map_nil, List.sum_cons, List.sum_nil]; omega
theorem wTo_le {w : World} {c : Chal} (h : c.Ok w) : ∀ k, k ≤ c.params.length → wTo c k ≤ (k + 1) * 281474976702464 := by
  have z1 := h.s1; have z2 := h.s2
  simp only [reachBytes] at z1 z2
  intro k
  induction k with
  | zero => intro _; rw [wTo_zero]; omega
  | succ k ih =>
    intro hk
    have := ih (by omega)
    have z := h.re _ (List.getElem_mem (show k < c.params.length by omega))
    simp only [reachBytes] at z
    rw [wTo_succ c k (by omega)]
    omega

structure Light (c : Chal) : Prop where
  few : c.params.length ≤ 20
  short : wTo c c.params.length ≤ 600
def HeavySays (cs : List Chal) (e : Ending) : Prop := ∃ b, e = .returned (.bool b) ∧ (b = false → cs.length ≤ 10 ∧ ∀ c ∈ cs, Light c)

end Go.Proofs.Ytinlahahbhpppaa
/- Texts cut at one byte. Plain lists; no program. -/
namespace Go.Proofs.Ytinlahahbhpppaa

/-- cut at each c -/
def cutL (c : UInt8) : List UInt8 → List (List UInt8)
  | [] => [[]]
  | x :: l => if x = c then [] :: cutL c l else match cutL c l with
    | [] => [[x]]
    | h :: t => (x :: h) :: t
theorem cutL_ne (c : UInt8) : ∀ l, cutL c l ≠ []
  | [] => by simp [cutL]
  | x :: l => by
    unfold cutL
    split
    · simp
    · split <;> simp
theorem cutL_hit (c : UInt8) (l : List UInt8) : cutL c (c :: l) = [] :: cutL c l := by simp [cutL]
theorem cutL_skip {c x : UInt8} (h : x ≠ c) (l : List UInt8) : ∃ p r, cutL c l = p :: r ∧ cutL c (x :: l) = (x :: p) :: r := by
  cases hc : cutL c l with
  | nil => exact absurd hc (cutL_ne c l)
  | cons p r => exact ⟨p, r, rfl, by simp [cutL, h, hc]⟩
theorem index_one_hit (c : UInt8) (l : List UInt8) : Lib.index (c :: l) [c] = 0 :=
  Lib.index_first (i := 0) (Nat.zero_le _) (by simp [Lib.occAt]) (fun _ h => absurd h (Nat.not_lt_zero _))
theorem index_one_skip {c x : UInt8} (h : x ≠ c) (l : List UInt8) : Lib.index (x :: l) [c] = if Lib.index l [c] == -1 then -1 else Lib.index l [c] + 1 := by
  conv => lhs; unfold Lib.index
  have hx : (c == x) = false := by rw [beq_eq_false_iff_ne]; exact fun e => h e.symm
  simp [hx, List.isPrefixOf]
theorem count_one_hit (c : UInt8) (l : List UInt8) : Lib.count (c :: l) [c] = Lib.count l [c] + 1 := by rw [Lib.count_cons_eq]; omega
theorem count_one_skip {c x : UInt8} (h : x ≠ c) (l : List UInt8) : Lib.count (x :: l) [c] = Lib.count l [c] := Lib.count_cons_ne x c l h
theorem splitK_cut (c : UInt8) : ∀ l : List UInt8, Lib.splitK [c] 0 (Lib.count l [c]) l = cutL c l
  | [] => by
    have : Lib.count [] [c] = 0 := by rw [Lib.count_one]; rfl
    rw [this]; rfl
  | x :: l => by
    have ih := splitK_cut c l
    by_cases h : x = c
    · subst h
      rw [count_one_hit, cutL_hit, Lib.splitK, index_one_hit, if_neg (by decide)]
      simp only [Int.toNat_zero, Nat.add_zero, List.take_zero, List.length_cons, List.length_nil, Nat.zero_add, List.drop_succ_cons, List.drop_zero]
      rw [ih]
    · rw [count_one_skip h]
      obtain ⟨p, r, h1, h2⟩ := cutL_skip h l
      rw [h2]
      rw [h1] at ih
      cases hk : Lib.count l [c] with
      | zero =>
        rw [hk] at ih
        simp only [Lib.splitK, List.cons.injEq] at ih ⊢
        exact ⟨⟨trivial, ih.1⟩, ih.2⟩
      | succ k =>
        rw [hk] at ih
        have hne : Lib.index l [c] ≠ -1 := by
          intro e
          have := Lib.count_miss e
          omega
        have hge := Lib.index_ge l [c]
        unfold Lib.splitK at ih ⊢
        rw [if_neg (by simpa using hne)] at ih
        have hix : Lib.index (x :: l) [c] = Lib.index l [c] + 1 := by rw [index_one_skip h, if_neg (by simpa using hne)]
        rw [hix, if_neg (by rw [beq_iff_eq]; omega)]
        have e1 : (Lib.index l [c] + 1).toNat = (Lib.index l [c]).toNat + 1 := by omega
        rw [e1]
        simp only [List.cons.injEq, List.length_cons, List.length_nil] at ih ⊢
        refine ⟨?_, ?_⟩
        · rw [show (Lib.index l [c]).toNat + 1 + 0 = ((Lib.index l [c]).toNat + 0) + 1 by omega, List.take_succ_cons]
          exact congrArg (x :: ·) ih.1
        · rw [show (Lib.index l [c]).toNat + 1 + (0 + 1) = ((Lib.index l [c]).toNat + (0 + 1)) + 1 by omega, List.drop_succ_cons, ih.2]
/-- the pieces as texts -/
theorem splitB_cut (c : UInt8) (s : ByteArray) : (Lib.splitB ⟨#[c]⟩ 0 (Lib.countB s ⟨#[c]⟩) s).map (·.data.toList) = cutL c s.data.toList := by
  rw [Lib.splitB_data]
  exact splitK_cut c _
theorem cutL_len (c : UInt8) : ∀ l : List UInt8, (cutL c l).length ≤ l.length + 1
  | [] => by simp [cutL]
  | x :: l => by
    have ih := cutL_len c l
    by_cases h : x = c
    · subst h; rw [cutL_hit]; simp; omega
    · obtain ⟨p, r, h1, h2⟩ := cutL_skip h l
      rw [h2]; rw [h1] at ih; simp at ih ⊢; omega
theorem cutL_piece (c : UInt8) : ∀ (l p : List UInt8), p ∈ cutL c l → p.length ≤ l.length ∧ c ∉ p
  | [], p, h => by simp [cutL] at h; subst h; simp
  | x :: l, p, h => by
    by_cases hx : x = c
    · subst hx
      rw [cutL_hit] at h
      rcases List.mem_cons.1 h with rfl | h
      · simp
      · have := cutL_piece x l p h; simp; exact ⟨by omega, this.2⟩
    · obtain ⟨q, r, h1, h2⟩ := cutL_skip hx l
      rw [h2] at h
      have ih := cutL_piece c l
      rw [h1] at ih
      rcases List.mem_cons.1 h with rfl | h
      · have := ih q (by simp)
        simp; exact ⟨this.1, fun e => hx e.symm, this.2⟩
      · have := ih p (by simp [h])
        simp; exact ⟨by omega, this.2⟩
end Go.Proofs.Ytinlahahbhpppaa
/- Results in a box (a struct of two cells): the reference's Good and Bare; the box read at the end. -/
namespace Go.Proofs.Ytinlahahbhpppaa
open Go.RowKit
theorem box_free {w wr : World} {c : Array Value} {T : TypeId} {B : Nat} (h : Below (B + 1) (w.alloc (.cells c T)) wr) (i : Nat) (hB : B = w.heap.size := by rfl) : wr.frozen? ⟨B, i, none⟩ = false := by
  subst hB
  rw [h.frozen (p := ⟨w.heap.size, i, none⟩) (Nat.lt_succ_self _)]
  simp [World.frozen?_alloc_mark]
  try omega
theorem blanks_ascii : ∀ (j : Nat) (b : UInt8), (⟨#[32, 9]⟩ : ByteArray).data.toList[j]? = some b → b.toNat < 128 := by
  intro j b h
  match j, h with
  | 0, h => cases h; decide
  | 1, h => cases h; decide
theorem new_cell (w : World) (c : Array Value) (T : TypeId) (b i : Nat) (hb : b = w.heap.size) {v : Value} (hv : c[i]? = some v) : (w.alloc (.cells c T)).cell? ⟨b, i, none⟩ = some v := by
  subst hb; rw [World.cell?_alloc_mark]; exact hv
theorem set_two {wr : World} {B : Nat} {x0 x1 : Value} (y0 y1 : Value) (q0 : wr.cell? ⟨B, 0, none⟩ = some x0) (q1 : wr.cell? ⟨B, 1, none⟩ = some x1) :
    ((wr.setCell ⟨B, 0, none⟩ y0).setCell ⟨B, 1, none⟩ y1).cell? ⟨B, 0, none⟩ = some y0 ∧ ((wr.setCell ⟨B, 0, none⟩ y0).setCell ⟨B, 1, none⟩ y1).cell? ⟨B, 1, none⟩ = some y1 :=
  ⟨by
    rw [World.cell?_setCell_other]
    · exact World.cell?_setCell_same _ _ _ q0
    · simp, World.cell?_setCell_same _ _ _ (by
    rw [World.cell?_setCell_other]
    · exact q1
    · simp)⟩
end Go.Proofs.Ytinlahahbhpppaa
