/- A map that the call makes for itself, as a set of texts. -/
import Derived.Test.YtnfcdccdmlodeaaGreatDoorFound
import Derived.Maps.RangeWalk
import Derived.Maps.OwnOps
namespace Go.Proofs.YtnfcdccdmlodeaaGreatDoor
open Go.RowKit Go.Maps
abbrev tSB : TypeId := 121
theorem lawStr : Keyed Tryz.prog 9 := string_keyed Tryz.underlying9
/-- a map's keys are these texts -/
def SetIs (D : DataW Unit) (ks : List (List UInt8)) : Prop := Maps.IsMap D ∧ ∀ kl : Lit, Maps.has D kl = true ↔ ∃ k ∈ ks, kl = .string k
theorem SetIs.nil : SetIs (.map []) [] := by
  refine ⟨Maps.isMap_empty, fun kl => ?_⟩
  constructor
  · intro h
    cases h
  · rintro ⟨k, h, _⟩
    cases h
theorem SetIs.put {D : DataW Unit} {ks : List (List UInt8)} (h : SetIs D ks) (k : List UInt8) (d : DataW Unit) : SetIs (D.put (.string k) d) (ks ++ [k]) := by
  refine ⟨h.1.put _ _, fun kl => ?_⟩
  by_cases e : kl = .string k
  · subst e
    rw [Maps.has_put_same (k := .string k) h.1 trivial]
    exact ⟨fun _ => ⟨k, by simp, rfl⟩, fun _ => rfl⟩
  · rw [Maps.has_put_other e, h.2]
    constructor
    · rintro ⟨x, hx, rfl⟩; exact ⟨x, by simp [hx], rfl⟩
    · rintro ⟨x, hx, rfl⟩
      rcases List.mem_append.1 hx with hx | hx
      · exact ⟨x, hx, rfl⟩
      · cases List.mem_singleton.1 hx; exact absurd rfl e
theorem SetIs.del {D : DataW Unit} {ks : List (List UInt8)} (h : SetIs D ks) (k : List UInt8) : SetIs (D.del (.string k)) (ks.filter (fun x => !(x == k))) := by
  refine ⟨h.1.del _, fun kl => ?_⟩
  by_cases e : kl = .string k
  · subst e
    rw [Maps.has_del_same]
    constructor
    · intro h; cases h
    · rintro ⟨x, hx, e⟩
      cases e
      simp at hx
  · rw [Maps.has_del_other e, h.2]
    constructor
    · rintro ⟨x, hx, rfl⟩
      refine ⟨x, List.mem_filter.2 ⟨hx, ?_⟩, rfl⟩
      have : x ≠ k := fun e' => e (by rw [e'])
      simp [this]
    · rintro ⟨x, hx, rfl⟩; exact ⟨x, (List.mem_filter.1 hx).1, rfl⟩
theorem SetIs.eq {D : DataW Unit} {ks ks' : List (List UInt8)} (h : SetIs D ks) (he : ∀ x, x ∈ ks ↔ x ∈ ks') : SetIs D ks' :=
  ⟨h.1, fun kl => (h.2 kl).trans ⟨fun ⟨x, hx, e⟩ => ⟨x, (he x).1 hx, e⟩, fun ⟨x, hx, e⟩ => ⟨x, (he x).2 hx, e⟩⟩⟩
theorem SetIs.mem {D : DataW Unit} {ks : List (List UInt8)} (h : SetIs D ks) {k : List UInt8} (hk : Maps.has D (.string k) = true) : k ∈ ks := by
  obtain ⟨x, hx, e⟩ := (h.2 _).1 hk
  cases e
  exact hx
theorem SetIs.size {w : World} {R : Value → Option (DataW Unit × List MemPlace)} {b n : Nat} {D : DataW Unit} {ks : List (List UInt8)} (h : SetIs D ks) (ho : w.ownsMap Tryz.prog 9 R b n D) : decide (Maps.size D = 0) = ks.isEmpty := by
  obtain ⟨es, rfl, _, hk⟩ := ho.entries lawStr
  cases es with
  | nil =>
    cases ks with
    | nil => rfl
    | cons k ks => exact absurd ((h.2 (.string k)).2 ⟨k, by simp, rfl⟩) (by simp [Maps.has])
  | cons p es =>
    have h1 : Maps.has (.map (p :: es)) p.1 = true := by
      rw [Maps.has_eq, List.any_cons, WideAt.sameKey_self (hk p (by simp))]; rfl
    obtain ⟨k, hk, _⟩ := (h.2 _).1 h1
    cases ks with
    | nil => cases hk
    | cons k ks => simp [Maps.size]
theorem plainElem_bool_inv {P : Program} {e : TypeId} (he : P.underlying e = some .bool) {v : Value} {z : DataW Unit × List MemPlace} (h : plainElem P e v = some z) : ∃ b, v = .bool b := by
  unfold plainElem at h
  rw [he] at h
  cases v <;> simp at h
  exact ⟨_, rfl⟩
theorem cat_list (c : UInt8) (s : ByteArray) : ((⟨#[c]⟩ : ByteArray) ++ s).data.toList = c :: s.data.toList := by
  rw [add_toList]; rfl
theorem cat_size (c : UInt8) (s : ByteArray) : ((⟨#[c]⟩ : ByteArray) ++ s).size = s.size + 1 := by
  rw [sz_len, cat_list, List.length_cons, ← sz_len]
/-- a map's block is no row -/
theorem cell_no_map {P : Program} {k : TypeId} {R : Value → Option (DataW Unit × List MemPlace)} {w : World} {b n : Nat} {D : DataW Unit} (h : w.ownsMap P k R b n D) {p : Addr} {v : Value} (hc : w.cell? p = some v) : p.block ≠ b := by
  rintro rfl
  obtain ⟨es, clock, hb, _⟩ := h
  simp [World.cell?, hb] at hc
theorem StrAt.map {P : Program} {k : TypeId} {R : Value → Option (DataW Unit × List MemPlace)} {w w' : World} {b n : Nat} {D : DataW Unit} {a : Option Addr} {ss : List ByteArray} (h : StrAt w a ss) (ho : w.ownsMap P k R b n D) (hg : w.grownBy w' (some b)) : StrAt w' a ss := by
  intro i hi
  obtain ⟨c, off, e, hc⟩ := h i hi
  exact ⟨c, off, e, hg.cell hc (fun e => cell_no_map ho hc (Option.some.inj e))⟩
/-- the step of a range over such a map -/
theorem wpList_next_sb {ops : Array Oper} {rest : List Oper} {o : Oper} {a : Act} {Q : Exit → Act → World → Prop} (w : World) (hg : o.guard = none) (it : Operand) (hop : o.op = Op.next it false) (b r n : Nat) (D : DataW Unit) (left : Lit → Bool) (cnt : Nat)
    (hit : a.eval it = .pointer (some ⟨r, 0, none⟩)) (h : w.ranges Tryz.prog 9 (plainElem Tryz.prog 4) b r n D left cnt)
    (hDone : (∀ kl, left kl = false) → wpList Tryz.prog ops Q rest (a.put o.dst (.tuple #[.bool false])) w)
    (hMore : ∀ (s : ByteArray) (c : Bool) (w' : World) (cnt' : Nat), s.size ≤ maxLen → left (.string s.data.toList) = true → Maps.has D (.string s.data.toList) = true →
      w'.ranges Tryz.prog 9 (plainElem Tryz.prog 4) b r n D (fun z => left z && !z.sameKey (.string s.data.toList)) cnt' → cnt' < cnt → w.grownBy w' (some r) → w'.heap.size = w.heap.size →
      (Instr.entry (.pointer (some ⟨r, 0, none⟩))).run Tryz.prog w' = .ok (.tuple #[.string s, .bool c]) w' → wpList Tryz.prog ops Q rest (a.put o.dst (.tuple #[.bool true, .string s, .bool c])) w') :
    wpList Tryz.prog ops Q (o :: rest) a w :=
  wpList_next_ranges w hg it hop 9 lawStr (plainElem Tryz.prog 4) Value.string Value.bool (fun key kl hk => by obtain ⟨s, e, _⟩ := WideMaps.string_of_keyOf Tryz.underlying9 hk; exact ⟨s, e⟩) (fun v y hy => plainElem_bool_inv Tryz.underlying4 hy) b r n D left cnt hit h
    (fun _ hl => hDone hl) (fun s c kl y w' cnt' hkey hlk hv hat hrg hlt hgr hsz hen => by
      obtain ⟨s', e, rfl, hs⟩ := WideMaps.string_of_keyOf Tryz.underlying9 hkey
      cases e
      exact hMore s c w' cnt' hs hlk (Maps.has_true_of_atKey hat) hrg hlt hgr hsz hen)
end Go.Proofs.YtnfcdccdmlodeaaGreatDoor
