/- What an answer grants: passes each once; plain lists. No program. -/
import Derived.Test.YtnfcdccdmlodeaaGreatDoorList
import Derived.Test.YtnfcdccdmlodeaaGreatDoorMethod
namespace Go.Proofs.YtnfcdccdmlodeaaGreatDoor
instance decBA : DecidableEq ByteArray := fun a b => if h : a.data.toList = b.data.toList then isTrue (ba_ext h) else isFalse (fun e => h (by rw [e]))
/-- a pass's method and header, as texts -/
abbrev BP := ByteArray × ByteArray
/-- whether it is there -/
def hasB (acc : List BP) (p : BP) : Bool := acc.any (fun q => decide (q = p))
theorem hasB_iff (acc : List BP) (p : BP) : hasB acc p = true ↔ p ∈ acc := by
  unfold hasB
  rw [List.any_eq_true]
  constructor
  · rintro ⟨q, hq, e⟩; rw [← of_decide_eq_true e]; exact hq
  · intro h; exact ⟨p, h, by simp⟩
theorem hasB_no {acc : List BP} {p : BP} (h : p ∉ acc) : hasB acc p = false := by
  cases e : hasB acc p
  · rfl
  · exact absurd ((hasB_iff acc p).1 e) h
/-- one more, if it is not there -/
def addB (acc : List BP) (p : BP) : List BP := if hasB acc p = true then acc else acc ++ [p]
/-- each once, in their order -/
def onceB (l : List BP) : List BP := l.foldl addB []
theorem onceB_snoc (l : List BP) (p : BP) : onceB (l ++ [p]) = addB (onceB l) p := by unfold onceB; rw [List.foldl_append]; rfl
theorem addB_has {acc : List BP} {p : BP} (h : p ∈ acc) : addB acc p = acc := if_pos ((hasB_iff acc p).2 h)
theorem addB_new {acc : List BP} {p : BP} (h : p ∉ acc) : addB acc p = acc ++ [p] := if_neg (fun e => h ((hasB_iff acc p).1 e))
theorem addB_len (acc : List BP) (p : BP) : (addB acc p).length ≤ acc.length + 1 := by
  unfold addB; split
  · omega
  · simp
theorem addB_mem {acc : List BP} {p q : BP} (h : q ∈ addB acc p) : q ∈ acc ∨ q = p := by
  unfold addB at h
  split at h
  · exact .inl h
  · rcases List.mem_append.1 h with h | h
    · exact .inl h
    · exact .inr (List.mem_singleton.1 h)
theorem fold_mem : ∀ (l acc : List BP) (q : BP), q ∈ l.foldl addB acc → q ∈ acc ∨ q ∈ l
  | [], acc, q, h => .inl h
  | p :: l, acc, q, h => by
    rcases fold_mem l (addB acc p) q h with h | h
    · rcases addB_mem h with h | h
      · exact .inl h
      · exact .inr (by rw [h]; exact List.mem_cons_self)
    · exact .inr (List.mem_cons_of_mem _ h)
theorem onceB_mem {l : List BP} {q : BP} (h : q ∈ onceB l) : q ∈ l := by
  rcases fold_mem l [] q h with h | h
  · cases h
  · exact h
theorem fold_len : ∀ (l acc : List BP), (l.foldl addB acc).length ≤ acc.length + l.length
  | [], acc => by simp
  | p :: l, acc => by
    have h1 := fold_len l (addB acc p)
    have h2 := addB_len acc p
    simp only [List.foldl_cons, List.length_cons]
    omega
theorem onceB_len (l : List BP) : (onceB l).length ≤ l.length := by have := fold_len l []; rw [List.length_nil, Nat.zero_add] at this; exact this
/-- what an answer's words grant: methods, then headers -/
def pairsB (ms hs : List ByteArray) : List BP := ms.map (fun m => (m, ⟨#[]⟩)) ++ hs.map (fun h => (⟨#[]⟩, h))
theorem pairsB_len (ms hs : List ByteArray) : (pairsB ms hs).length = ms.length + hs.length := by simp [pairsB]
/-- the document's key of a pair -/
def keyB (p : BP) : List UInt8 := p.1.data.toList ++ 0 :: p.2.data.toList
/-- a pair that a key tells from every other of its kind: one of its texts is nothing, and no nought stands in the other's, if that is a header -/
def PairOk (p : BP) : Prop := p.2 = ⟨#[]⟩ ∨ (p.1 = ⟨#[]⟩ ∧ (0 : UInt8) ∉ p.2.data.toList)
theorem key_inj {p q : BP} (hp : PairOk p) (hq : PairOk q) (h : keyB p = keyB q) : p = q := by
  obtain ⟨m, a⟩ := p
  obtain ⟨n, b⟩ := q
  unfold keyB at h
  have cross : ∀ (m b : ByteArray), (0 : UInt8) ∉ b.data.toList → m.data.toList ++ [0] = 0 :: b.data.toList → m = ⟨#[]⟩ ∧ b = ⟨#[]⟩ := by
    intro m b hb e
    cases hm : m.data.toList with
    | nil =>
      rw [hm] at e
      have : b.data.toList = [] := by simpa using e.symm
      exact ⟨ba_ext hm, ba_ext this⟩
    | cons c r =>
      rw [hm] at e
      simp only [List.cons_append, List.cons.injEq] at e
      exact absurd (by rw [← e.2]; simp) hb
  rcases hp with hp | ⟨hp, h0⟩ <;> rcases hq with hq | ⟨hq, h0'⟩
  · simp only at hp hq; subst hp hq
    have : m = n := ba_ext (List.append_cancel_right h)
    rw [this]
  · simp only at hp hq h0'; subst hp hq
    obtain ⟨e1, e2⟩ := cross m b h0' h
    rw [e1, e2]
  · simp only at hp hq h0; subst hp hq
    obtain ⟨e1, e2⟩ := cross n a h0 h.symm
    rw [e1, e2]
  · simp only at hp hq; subst hp hq
    have : a = b := ba_ext (by simpa using h)
    rw [this]
theorem tokB_nought : tokB 0 = false := by decide
theorem lower_nought {l : List UInt8} (h : l.all tokB = true) : (0 : UInt8) ∉ lower l := by
  intro h0
  unfold lower at h0
  obtain ⟨c, hc, e⟩ := List.mem_map.1 h0
  have h1 := List.all_eq_true.1 h c hc
  have h2 : ∀ n : Fin 256, tokB (UInt8.ofNat n.val) = true → low (UInt8.ofNat n.val) ≠ 0 := by decide +kernel
  have h3 := h2 ⟨c.toNat, c.toNat_lt⟩
  simp only [UInt8.ofNat_toNat] at h3
  exact h3 h1 e
/-- every word of a list is a word -/
theorem listP_tok : ∀ (ps : List (List UInt8)) (k : Nat) (acc ws : List (List UInt8)), (∀ w ∈ acc, w.all tokB = true) → listP ps k acc = .inl ws → ∀ w ∈ ws, w.all tokB = true
  | [], k, acc, ws, ha, h => by cases h; exact ha
  | p :: ps, k, acc, ws, ha, h => by
    rw [listP] at h
    split at h
    · refine listP_tok ps _ _ ws ?_ h
      intro w hw
      split at hw
      · exact ha w hw
      · rcases List.mem_append.1 hw with hw | hw
        · exact ha w hw
        · rw [List.mem_singleton.1 hw]; exact tw_all _ _
    · cases h
theorem listRes_tok (l : List UInt8) : ∀ w ∈ (listRes l).1, w.all tokB = true := by
  unfold listRes
  cases h : listL l with
  | inr k => intro w hw; cases hw
  | inl ws =>
    simp only
    split
    · intro w hw; cases hw
    · exact listP_tok _ _ _ _ (fun w hw => by cases hw) h
theorem listRes_len (l : List UInt8) : (listRes l).1.length ≤ 40 := by
  unfold listRes
  cases h : listL l with
  | inr k => simp
  | inl ws =>
    simp only
    split
    · simp
    · simp only; omega
end Go.Proofs.YtnfcdccdmlodeaaGreatDoor
