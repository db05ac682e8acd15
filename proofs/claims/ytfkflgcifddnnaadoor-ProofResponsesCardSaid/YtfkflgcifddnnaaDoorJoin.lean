/- token.Join: texts with a comma and a blank between. -/
import Derived.Test.YtfkflgcifddnnaaDoorStrs
import Derived.Test.YtfkflgcifddnnaaDoorRead
import Derived.Test.YtfkflgcifddnnaaDoorPar
import Derived.Test.YtfkflgcifddnnaaDoorLower
import Derived.Test.YtfkflgcifddnnaaDoorShelf
namespace Go.Proofs.YtfkflgcifddnnaaDoor
open Go.ChangeShapes Go.WideShapes Go.ChangeAt Go.RowKit Go.WideElems Go.Deep

set_option maxRecDepth 100000 in
theorem strs_open {w : World} {a : Option Addr} {len cap : Nat} (h : Rd Tryd.prog w 24 [.slice a len cap]) :
    ∃ ss : List ByteArray, ss.length = len ∧ StrAt w a ss ∧ (∀ s ∈ ss, s.size ≤ reachBytes) ∧ len * 16 ≤ reachBytes ∧ len ≤ cap ∧ cap ≤ maxLen ∧ (a = none → len = 0 ∧ cap = 0) := by
  obtain ⟨a', len', cap', e, hb, _, hl, hc, hn, hi⟩ := h.slice Tryd.underlying24 (by rw [cellsString]; decide)
  simp at e
  obtain ⟨rfl, rfl, rfl⟩ := e
  rw [show Tryd.prog.bytesOf 9 = 16 by kernel_rfl] at hb
  rw [cellsString] at hi
  obtain ⟨ss, hps, hp⟩ := exists_list (fun i (s : ByteArray) => (∃ b off, a = some ⟨b, off, none⟩ ∧ w.cell? ⟨b, off + i, none⟩ = some (.string s)) ∧ s.size ≤ reachBytes) len (by
    intro i hil
    obtain ⟨b, off, cs', ha, hl', hR, hcell⟩ := hi i hil
    obtain ⟨s, rfl, z⟩ := hR.string Tryd.underlying9
    exact ⟨s, ⟨b, off, ha, by simpa using hcell 0 (by decide)⟩, z⟩)
  refine ⟨ss, hps, fun i hil => (hp i hil).1, ?_, hb, hl, hc, hn⟩
  intro p hpm
  obtain ⟨i, hil, rfl⟩ := List.getElem_of_mem hpm
  exact (hp i hil).2

theorem str_app (l : List UInt8) (s : ByteArray) : (⟨l.toArray⟩ : ByteArray) ++ s = ⟨(l ++ s.data.toList).toArray⟩ := by
  obtain ⟨⟨m⟩⟩ := s
  exact mk_append l m

def commas (ss : List ByteArray) : List UInt8 := Lib.join (datas ss) [44, 32]
theorem commas_nil : commas [] = [] := rfl
theorem commas_snoc (ss : List ByteArray) (s : ByteArray) (h : ss ≠ []) : commas (ss ++ [s]) = commas ss ++ [44, 32] ++ s.data.toList := by
  cases ss with
  | nil => exact absurd rfl h
  | cons x r => simp [commas, datas, Lib.join_cons, Lib.joinTail]
theorem commas_one (s : ByteArray) : commas [s] = s.data.toList := by simp [commas, datas, Lib.join_one]
theorem commas_len (m : Nat) : ∀ (ss : List ByteArray), (∀ s ∈ ss, s.size ≤ m) → (commas ss).length ≤ ss.length * (m + 2)
  | [], _ => by simp [commas_nil]
  | x :: r, h => by
    have h1 := commas_len m r (fun s hs => h s (by simp [hs]))
    have hx := h x (by simp)
    rw [Lib.size_eq] at hx
    cases r with
    | nil => rw [commas_one]; simp only [List.length_cons, List.length_nil, Nat.zero_add, Nat.one_mul]; omega
    | cons y r =>
      have e : commas (x :: y :: r) = x.data.toList ++ [44, 32] ++ commas (y :: r) := by simp [commas, datas, Lib.join_cons, Lib.joinTail]
      rw [e]
      simp only [List.length_append, List.length_cons, List.length_nil] at *
      rw [Nat.succ_mul]
      omega

theorem stringsJoin (a : Option Addr) (cap : Nat) (ss : List ByteArray) (sep : ByteArray) (w : World) (hS : StrAt w a ss) (hc : ss.length ≤ cap) (hn : ss.length ≤ 140737488355328) (hl : (Lib.join (datas ss) sep.data.toList).length ≤ 140737488355328) :
    Calls Tryd.prog 142 #[.slice a ss.length cap, .string sep] w fun e w' => e = .returned (.string ⟨(Lib.join (datas ss) sep.data.toList).toArray⟩) ∧ Below w.heap.size w w' := by
  cases ss with
  | nil => exact (Tryd.strings_Join_none a cap sep w).mono fun e w' ⟨he, hw⟩ => ⟨he, hw ▸ Below.refl _ _⟩
  | cons x r =>
    obtain ⟨b, off, rfl, h1⟩ := hS 0 (by simp)
    refine Tryd.strings_Join b off cap (x :: r) sep w ?_ (World.block_lt_of_cell? w _ h1) hn hc hl
    intro j y hj
    have hjl : j < (x :: r).length := by
      rcases Nat.lt_or_ge j (x :: r).length with h | h
      · exact h
      · rw [List.getElem?_eq_none h] at hj; cases hj
    obtain ⟨b', off', e, h2⟩ := hS j hjl
    simp at e
    obtain ⟨rfl, rfl⟩ := e
    rw [List.getElem?_eq_getElem hjl] at hj
    cases hj
    exact h2

end Go.Proofs.YtfkflgcifddnnaaDoor
