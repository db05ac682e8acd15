/- What bytes mean as moves: plain. No program. -/
import Derived.Test.YtinlahahbhpppaaOpV
namespace Go.Proofs.Ytinlahahbhpppaa
open Go.RowKit
/-- the byte at j of what is left, modulo n -/
def pk (l : List UInt8) (j n : Nat) : Nat := ((l.drop j).headD 0).toNat % n
theorem pk_lt (l : List UInt8) (j : Nat) {n : Nat} (h : 0 < n) : pk l j n < n := Nat.mod_lt _ h
def hostsL : List ByteArray := [(⟨#[97, 46, 116, 101, 115, 116]⟩ : ByteArray), (⟨#[98, 46, 116, 101, 115, 116]⟩ : ByteArray), (⟨#[99, 46, 116, 101, 115, 116]⟩ : ByteArray), (⟨#[97, 46, 116, 101, 115, 116]⟩ : ByteArray)]
def orgK (k : Nat) : Org := ⟨decide (k < 3), hostsL.getD k ⟨#[]⟩, if k < 3 then 443 else 80⟩
def pathsL : List ByteArray := [(⟨#[47]⟩ : ByteArray), (⟨#[47, 97, 47]⟩ : ByteArray), (⟨#[47, 97, 47, 98]⟩ : ByteArray), (⟨#[47, 99]⟩ : ByteArray)]
def methsL : List ByteArray := [(⟨#[71, 69, 84]⟩ : ByteArray), (⟨#[80, 79, 83, 84]⟩ : ByteArray), (⟨#[80, 85, 84]⟩ : ByteArray), (⟨#[112, 97, 116, 99, 104]⟩ : ByteArray)]
def namesL : List ByteArray := [(⟨#[88, 45, 65]⟩ : ByteArray), (⟨#[67, 111, 110, 116, 101, 110, 116, 45, 84, 121, 112, 101]⟩ : ByteArray), (⟨#[65, 117, 116, 104, 111, 114, 105, 122, 97, 116, 105, 111, 110]⟩ : ByteArray)]
def names0 : List ByteArray := [(⟨#[]⟩ : ByteArray), (⟨#[88, 45, 65]⟩ : ByteArray), (⟨#[67, 111, 110, 116, 101, 110, 116, 45, 84, 121, 112, 101]⟩ : ByteArray), (⟨#[65, 117, 116, 104, 111, 114, 105, 122, 97, 116, 105, 111, 110]⟩ : ByteArray)]
def textsL : List ByteArray := [(⟨#[66, 97, 115, 105, 99, 32, 114, 101, 97, 108, 109, 61, 114]⟩ : ByteArray), (⟨#[66, 97, 115, 105, 99, 32, 114, 101, 97, 108, 109, 61, 115]⟩ : ByteArray), (⟨#[68, 105, 103, 101, 115, 116, 32, 114, 101, 97, 108, 109, 61, 114, 44, 32, 110, 111, 110, 99, 101, 61, 110, 44, 32, 113, 111, 112, 61, 97, 117, 116, 104]⟩ : ByteArray), (⟨#[68, 105, 103, 101, 115, 116, 32, 114, 101, 97, 108, 109, 61, 114, 44, 32, 110, 111, 110, 99, 101, 61, 109, 44, 32, 113, 111, 112, 61, 97, 117, 116, 104, 44, 32, 115, 116, 97, 108, 101, 61, 116, 114, 117, 101, 44, 32, 97, 108, 103, 111, 114, 105, 116, 104, 109, 61, 83, 72, 65, 45, 50, 53, 54]⟩ : ByteArray), (⟨#[68, 105, 103, 101, 115, 116, 32, 114, 101, 97, 108, 109, 61, 116, 44, 32, 110, 111, 110, 99, 101, 61, 111, 44, 32, 100, 111, 109, 97, 105, 110, 61, 34, 47, 97, 47, 32, 47, 99, 34]⟩ : ByteArray), (⟨#[65, 99, 99, 101, 115, 115, 45, 67, 111, 110, 116, 114, 111, 108, 45, 65, 108, 108, 111, 119, 45, 79, 114, 105, 103, 105, 110, 58, 32, 42, 10, 65, 99, 99, 101, 115, 115, 45, 67, 111, 110, 116, 114, 111, 108, 45, 65, 108, 108, 111, 119, 45, 77, 101, 116, 104, 111, 100, 115, 58, 32, 80, 85, 84, 44, 32, 112, 97, 116, 99, 104, 10, 65, 99, 99, 101, 115, 115, 45, 67, 111, 110, 116, 114, 111, 108, 45, 65, 108, 108, 111, 119, 45, 72, 101, 97, 100, 101, 114, 115, 58, 32, 120, 45, 97, 44, 32, 99, 111, 110, 116, 101, 110, 116, 45, 116, 121, 112, 101]⟩ : ByteArray), (⟨#[65, 99, 99, 101, 115, 115, 45, 67, 111, 110, 116, 114, 111, 108, 45, 65, 108, 108, 111, 119, 45, 79, 114, 105, 103, 105, 110, 58, 32, 104, 116, 116, 112, 115, 58, 47, 47, 97, 46, 116, 101, 115, 116, 10, 65, 99, 99, 101, 115, 115, 45, 67, 111, 110, 116, 114, 111, 108, 45, 65, 108, 108, 111, 119, 45, 67, 114, 101, 100, 101, 110, 116, 105, 97, 108, 115, 58, 32, 116, 114, 117, 101, 10, 65, 99, 99, 101, 115, 115, 45, 67, 111, 110, 116, 114, 111, 108, 45, 65, 108, 108, 111, 119, 45, 77, 101, 116, 104, 111, 100, 115, 58, 32, 80, 85, 84, 10, 65, 99, 99, 101, 115, 115, 45, 67, 111, 110, 116, 114, 111, 108, 45, 77, 97, 120, 45, 65, 103, 101, 58, 32, 50, 48]⟩ : ByteArray), (⟨#[]⟩ : ByteArray)]
def uvL : List ByteArray := [(⟨#[117]⟩ : ByteArray), (⟨#[118]⟩ : ByteArray)]
def pqL : List ByteArray := [(⟨#[112]⟩ : ByteArray), (⟨#[113]⟩ : ByteArray)]
def cdL : List ByteArray := [(⟨#[99]⟩ : ByteArray), (⟨#[100]⟩ : ByteArray)]
def htmlS : ByteArray := (⟨#[116, 101, 120, 116, 47, 104, 116, 109, 108]⟩ : ByteArray)
def headK (k : Nat) : List (ByteArray × ByteArray) := if k = 0 then [] else [(names0.getD k ⟨#[]⟩, htmlS)]
/-- the operation that bytes are; where its header lies -/
def opS (l : List UInt8) (a : Option Addr) (c : Nat) : OpV :=
  ⟨1 + pk l 0 10, ⟨pk l 1 2, orgK (pk l 2 4), orgK (pk l 3 4), pathsL.getD (pk l 4 4) ⟨#[]⟩, ⟨#[]⟩, methsL.getD (pk l 5 4) ⟨#[]⟩, a, c, headK (pk l 6 4), decide (pk l 7 2 = 1), ⟨#[]⟩⟩, decide (pk l 8 4 = 3), textsL.getD (pk l 9 8) ⟨#[]⟩, uvL.getD (pk l 10 2) ⟨#[]⟩, pqL.getD (pk l 11 2) ⟨#[]⟩, cdL.getD (pk l 12 2) ⟨#[]⟩, pk l 13 4, decide (pk l 14 4 = 3), pk l 15 10⟩
def zOpV : OpV := ⟨0, ⟨0, ⟨false, ⟨#[]⟩, 0⟩, ⟨false, ⟨#[]⟩, 0⟩, ⟨#[]⟩, ⟨#[]⟩, ⟨#[]⟩, none, 0, [], false, ⟨#[]⟩⟩, false, ⟨#[]⟩, ⟨#[]⟩, ⟨#[]⟩, ⟨#[]⟩, 0, false, 0⟩
/-- an operation without where its headers lie -/
def OpV.d (o : OpV) : OpV := { o with req := { o.req with addr := none, cap := 0 } }
theorem opS_d (l : List UInt8) (a : Option Addr) (c : Nat) : (opS l a c).d = opS l none 0 := rfl
/-- a move -/
structure Mv where
  kind : Int
  tab : Int
  op : OpV
abbrev Mv.arr (m : Mv) : Array Value := #[.int .i64 m.kind, .int .i64 m.tab, .int .i64 m.op.what, .int .i64 m.op.req.part, .bool m.op.req.orig.sec, .string m.op.req.orig.host, .int .i64 m.op.req.orig.port, .bool m.op.req.dest.sec, .string m.op.req.dest.host, .int .i64 m.op.req.dest.port, .string m.op.req.path, .string m.op.req.query, .string m.op.req.method, .slice m.op.req.addr m.op.req.heads.length m.op.req.cap, .bool m.op.req.creds, .string m.op.req.body, .bool m.op.proxy, .string m.op.text, .string m.op.user, .string m.op.pass, .string m.op.cnonce, .int .i64 m.op.cert, .bool m.op.all, .int .i64 m.op.n]
def encMv (m : Mv) : List Value := m.arr.toList
theorem encMv_len (m : Mv) : (encMv m).length = 24 := rfl
theorem mv_one (m : Mv) : m.arr.all (·.oneCell') = true := by
  simp [Mv.arr, Value.oneCell']
theorem encMv_one (m : Mv) : ∀ u ∈ encMv m, u.oneCell' = true := fun u hu => (Array.all_eq_true_iff_forall_mem.1 (mv_one m)) u (by simpa [encMv] using hu)
def Mv.d (m : Mv) : Mv := { m with op := m.op.d }
/-- what a byte is, and what is behind it -/
def mvOf (c : UInt8) (r : List UInt8) : Mv :=
  if c.toNat / 6 % 4 = 1 then ⟨1, (c.toNat % 6 : Nat), opS r none 0⟩
  else ⟨if c.toNat / 6 % 4 = 2 ∧ 128 ≤ c.toNat then 2 else 0, (c.toNat % 6 : Nat), zOpV⟩
def restOf (c : UInt8) (r : List UInt8) : List UInt8 := if c.toNat / 6 % 4 = 1 then r.drop 16 else r
/-- one more move, if bytes are left -/
def stepL (s : List Mv × List UInt8) : List Mv × List UInt8 := match s.2 with
  | [] => s
  | c :: r => (s.1 ++ [mvOf c r], restOf c r)
def decN : Nat → List UInt8 → List Mv × List UInt8
  | 0, l => ([], l)
  | k + 1, l => stepL (decN k l)
theorem dec_stop {l : List UInt8} {k : Nat} (h : (decN k l).2 = []) : ∀ j, k ≤ j → decN j l = decN k l
  | 0, hj => by
    obtain rfl : k = 0 := by omega
    rfl
  | j + 1, hj => by
    by_cases e : k = j + 1
    · rw [e]
    · have ih := dec_stop h j (by omega)
      rw [decN, ih]
      unfold stepL
      rw [h]
theorem dec_len (l : List UInt8) : ∀ k, (decN k l).1.length ≤ k
  | 0 => Nat.le_refl _
  | k + 1 => by
    have ih := dec_len l k
    rw [decN]
    unfold stepL
    split
    · omega
    · simp; omega
theorem dec_next {l r : List UInt8} {c : UInt8} {k : Nat} (h : (decN k l).2 = c :: r) : decN (k + 1) l = ((decN k l).1 ++ [mvOf c r], restOf c r) := by
  rw [decN]
  unfold stepL
  rw [h]
/-- all moves -/
def movesL (l : List UInt8) : List Mv := (decN 400 l).1
theorem moves_of {l : List UInt8} {k : Nat} (hk : k ≤ 400) (h : (decN k l).2 = [] ∨ k = 400) : (decN k l).1 = movesL l := by
  rcases h with h | h
  · unfold movesL; rw [dec_stop h 400 hk]
  · subst h; rfl
/-- an operation's header lies where it says -/
def HeadsAt (w : World) (o : OpV) : Prop := o.req.heads = [] ∨ ∃ n v H, o.req.heads = [(n, v)] ∧ o.req.addr = some ⟨H, 0, none⟩ ∧ Blk w H #[.string n, .string v] 52
theorem HeadsAt.zero (w : World) : HeadsAt w zOpV := .inl rfl
theorem HeadsAt.later {w w' : World} {o : OpV} (h : HeadsAt w o) (hb : Below w.heap.size w w') : HeadsAt w' o := by
  rcases h with h | ⟨n, v, H, h1, h2, h3⟩
  · exact .inl h
  · exact .inr ⟨n, v, H, h1, h2, h3.later hb⟩
/-- blocks of another type may turn -/
theorem HeadsAt.grown {w w' : World} {o : OpV} {p : Nat} {cs : Array Value} {U : TypeId} (h : HeadsAt w o) (hp : Blk w p cs U) (hU : U ≠ 52) (hg : w.grownBy w' (some p)) : HeadsAt w' o := by
  rcases h with h | ⟨n, v, H, h1, h2, h3⟩
  · exact .inl h
  · refine .inr ⟨n, v, H, h1, h2, h3.grown hg (fun e => ?_)⟩
    cases e
    unfold Blk at hp h3
    rw [hp] at h3
    have := Option.some.inj h3
    injection this with _ h4 _
    exact hU h4
end Go.Proofs.Ytinlahahbhpppaa
