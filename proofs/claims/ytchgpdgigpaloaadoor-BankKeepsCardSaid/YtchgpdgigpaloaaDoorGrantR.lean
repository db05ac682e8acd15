/- Grants, and what is waited for: in memory, and in plain words. -/
import Derived.Test.YtchgpdgigpaloaaDoorAskV
import Derived.Test.YtchgpdgigpaloaaDoorRowS
import Derived.Test.YtchgpdgigpaloaaDoorReq
namespace Go.Proofs.YtchgpdgigpaloaaDoor
open Go.ChangeShapes Go.WideShapes Go.ChangeAt Go.RowKit Go.WideElems Go.Deep
/-- a grant, without where its texts lie -/
structure GraD where
  orig : Org
  proxy : Bool
  user : ByteArray
  pass : ByteArray
  ask : AskD
  count : Int
  paths : List ByteArray
/-- a grant in memory -/
structure Gra where
  orig : Org
  proxy : Bool
  user : ByteArray
  pass : ByteArray
  ask : AskV
  count : Int
  paths : List ByteArray
  addr : Option Addr
  cap : Nat
abbrev Gra.d (g : Gra) : GraD := ⟨g.orig, g.proxy, g.user, g.pass, g.ask.d, g.count, g.paths⟩
abbrev Gra.arr (g : Gra) : Array Value := #[.bool g.orig.sec, .string g.orig.host, .int .i64 g.orig.port, .bool g.proxy, .string g.user, .string g.pass, .int .i64 g.ask.d.scheme, .string g.ask.d.realm, .string g.ask.d.nonce, .string g.ask.d.opaque_, .bool g.ask.d.sess, .string g.ask.d.qop, .bool g.ask.d.stale, .slice g.ask.addr g.ask.d.domain.length g.ask.cap, .int .i64 g.count, .slice g.addr g.paths.length g.cap]
def encGra (g : Gra) : List Value := g.arr.toList
theorem encGra_len (g : Gra) : (encGra g).length = 16 := rfl
theorem gra_one (g : Gra) : g.arr.all (·.oneCell') = true := by
  simp [Gra.arr, Value.oneCell']
theorem encGra_one (g : Gra) : ∀ u ∈ encGra g, u.oneCell' = true := fun u hu => (Array.all_eq_true_iff_forall_mem.1 (gra_one g)) u (by simpa [encGra] using hu)
abbrev tGra : TypeId := 39
theorem infoGra : (Tryd.prog.info? 39).map (·.size) = some 16 := by kernel_rfl
/-- a grant of nothing -/
abbrev zGra : Array Value := #[.bool false, .string ⟨#[]⟩, .int .i64 0, .bool false, .string ⟨#[]⟩, .string ⟨#[]⟩, .int .i64 0, .string ⟨#[]⟩, .string ⟨#[]⟩, .string ⟨#[]⟩, .bool false, .string ⟨#[]⟩, .bool false, .slice none 0 0, .int .i64 0, .slice none 0 0]
/-- what is waited for, without where its texts lie -/
structure WaiD where
  orig : Org
  proxy : Bool
  path : ByteArray
  ask : AskD
structure Wai where
  orig : Org
  proxy : Bool
  path : ByteArray
  ask : AskV
abbrev Wai.d (g : Wai) : WaiD := ⟨g.orig, g.proxy, g.path, g.ask.d⟩
abbrev Wai.arr (g : Wai) : Array Value := #[.bool g.orig.sec, .string g.orig.host, .int .i64 g.orig.port, .bool g.proxy, .string g.path, .int .i64 g.ask.d.scheme, .string g.ask.d.realm, .string g.ask.d.nonce, .string g.ask.d.opaque_, .bool g.ask.d.sess, .string g.ask.d.qop, .bool g.ask.d.stale, .slice g.ask.addr g.ask.d.domain.length g.ask.cap]
def encWai (g : Wai) : List Value := g.arr.toList
theorem encWai_len (g : Wai) : (encWai g).length = 13 := rfl
theorem wai_one (g : Wai) : g.arr.all (·.oneCell') = true := by
  simp [Wai.arr, Value.oneCell']
theorem encWai_one (g : Wai) : ∀ u ∈ encWai g, u.oneCell' = true := fun u hu => (Array.all_eq_true_iff_forall_mem.1 (wai_one g)) u (by simpa [encWai] using hu)
abbrev tWai : TypeId := 57
abbrev tWaiR : TypeId := 59
theorem infoWai : (Tryd.prog.info? 57).map (·.size) = some 13 := by kernel_rfl
theorem infoWaiR : (Tryd.prog.info? 59).map (·.size) = some 13 := by kernel_rfl
abbrev zWai : Array Value := #[.bool false, .string ⟨#[]⟩, .int .i64 0, .bool false, .string ⟨#[]⟩, .int .i64 0, .string ⟨#[]⟩, .string ⟨#[]⟩, .string ⟨#[]⟩, .bool false, .string ⟨#[]⟩, .bool false, .slice none 0 0]
theorem encGra_inj {g h : Gra} (e : encGra g = encGra h) (h1 : g.ask.d.domain = h.ask.d.domain) (h2 : g.paths = h.paths) : g.d = h.d := by
  obtain ⟨⟨_, _, _⟩, _, _, _, ⟨⟨_, _, _, _, _, _, _, _⟩, _, _⟩, _, _, _, _⟩ := g
  obtain ⟨⟨_, _, _⟩, _, _, _, ⟨⟨_, _, _, _, _, _, _, _⟩, _, _⟩, _, _, _, _⟩ := h
  simp_all [encGra]
theorem strAt_only {w w' : World} {a : Option Addr} {ss : List ByteArray} {S : Nat → Prop} (h : StrAt w a ss) (ho : Only S w w') (hS : ∀ x, a = some x → ¬ S x.block) : StrAt w' a ss := by
  intro i hi
  obtain ⟨b, off, e, hc⟩ := h i hi
  exact ⟨b, off, e, ho.cell hc (hS ⟨b, off, none⟩ e)⟩
/-- texts that lie from a on, in a row of texts -/
def TxtAt (w : World) (a : Option Addr) (ss : List ByteArray) : Prop := StrAt w a ss ∧ (ss ≠ [] → ∀ x, a = some x → ∃ cur fz, w.heap[x.block]? = some (.cells cur 9 fz))
theorem TxtAt.nil (w : World) (a : Option Addr) : TxtAt w a [] := ⟨StrAt.nil _ _, fun h => absurd rfl h⟩
/-- blocks that hold no texts -/
def noTxt (w : World) (i : Nat) : Prop := ∀ cur fz, w.heap[i]? ≠ some (.cells cur 9 fz)
theorem TxtAt.kept {w w' : World} {a : Option Addr} {ss : List ByteArray} {S : Nat → Prop} (h : TxtAt w a ss) (ho : Only S w w') (hS : ss ≠ [] → ∀ x, a = some x → ¬ S x.block) : TxtAt w' a ss := by
  cases ss with
  | nil => exact TxtAt.nil _ _
  | cons s r =>
    refine ⟨strAt_only h.1 ho (hS (by simp)), fun hn x hx => ?_⟩
    obtain ⟨cur, fz, hb⟩ := h.2 hn x hx
    exact ⟨cur, fz, ho.heap hb (hS hn x hx)⟩
theorem TxtAt.later {w w' : World} {a : Option Addr} {ss : List ByteArray} (h : TxtAt w a ss) (hb : Below w.heap.size w w') : TxtAt w' a ss := h.kept (Only.of_below (S := fun _ => False) hb) (fun _ _ _ e => e)
/-- a text's row outlives what turns no texts -/
theorem TxtAt.stays {w w' : World} {a : Option Addr} {ss : List ByteArray} {S : Nat → Prop} (h : TxtAt w a ss) (ho : Only (fun i => S i ∧ noTxt w i) w w') : TxtAt w' a ss :=
  h.kept ho (fun hn x hx e => by
    obtain ⟨cur, fz, hb⟩ := h.2 hn x hx
    exact e.2 cur fz hb)
/-- what is told of a bank's Put, Use and the like: which blocks turn -/
abbrev OnlyT (S : Nat → Prop) (w w' : World) : Prop := Only (fun i => S i ∧ noTxt w i) w w'
theorem OnlyT.only {S : Nat → Prop} {w w' : World} (h : OnlyT S w w') : Only S w w' := h.mono (fun _ e => e.1)
theorem OnlyT.trans {S : Nat → Prop} {w w1 w2 : World} (h : OnlyT S w w1) (k : OnlyT (grow S w w1) w1 w2) : OnlyT S w w2 := by
  refine ⟨k.os.trans h.os, k.tape.trans h.tape, k.output.trans h.output, Nat.le_trans h.size k.size, fun i hi hn => ?_⟩
  rw [k.block i (Nat.lt_of_lt_of_le hi h.size) (fun e => ?_), h.block i hi hn]
  obtain ⟨⟨e1, _⟩, e2⟩ := e
  rcases e1 with e1 | e1
  · refine hn ⟨e1, fun cur fz hb => ?_⟩
    have hnn : ¬ (S i ∧ noTxt w i) := fun e => e.2 cur fz hb
    exact e2 cur fz ((h.block i hi hnn).trans hb)
  · omega
theorem OnlyT.of_below {S : Nat → Prop} {w w' : World} (h : Below w.heap.size w w') : OnlyT S w w' := Only.of_below h
end Go.Proofs.YtchgpdgigpaloaaDoor
