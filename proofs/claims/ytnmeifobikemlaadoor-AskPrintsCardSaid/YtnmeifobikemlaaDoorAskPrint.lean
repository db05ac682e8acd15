/- ask.Print and the reference's AskPrint: challenges as a header. -/
import Derived.Test.YtnmeifobikemlaaDoorValue
import Derived.Test.YtnmeifobikemlaaDoorHeavy
import Derived.Test.YtnmeifobikemlaaDoorGet
import Derived.Handy
namespace Go.Proofs.YtnmeifobikemlaaDoor
open Go.RowKit

/-- a value's text, and whether there is one -/
def valOk (s : ByteArray) : Bool := tokW s.data.toList || quotable s.data.toList
def valV (s : ByteArray) : ByteArray := if tokW s.data.toList then s else ⟨(quoted s.data.toList).toArray⟩
theorem valueRes_ok {s : ByteArray} (h : valOk s = true) (bad good : Value) : valueRes s bad good = .tuple #[.string (valV s), good] := by
  unfold valOk at h
  unfold valueRes quoteRes valV
  cases ht : tokW s.data.toList
  · rw [ht, Bool.false_or] at h
    rw [h]; rfl
  · rfl
theorem valueRes_bad {s : ByteArray} (h : valOk s = false) (bad good : Value) : valueRes s bad good = .tuple #[.string ⟨#[]⟩, bad] := by
  unfold valOk at h
  simp only [Bool.or_eq_false_iff] at h
  unfold valueRes quoteRes
  rw [h.1, h.2]; rfl
theorem valV_size (s : ByteArray) : (valV s).size ≤ 2 * s.size + 2 := by
  unfold valV
  split
  · omega
  · have := escs_len' s.data.toList
    rw [Lib.size_eq, Lib.size_eq]
    exact this

/-- one parameter's piece, and the first k of them -/
def piece (k : Nat) (p : ByteArray × ByteArray) : List UInt8 := (if k = 0 then [] else [44]) ++ [32] ++ p.1.data.toList ++ [61] ++ (valV p.2).data.toList
def parL (ps : List (ByteArray × ByteArray)) : Nat → List UInt8
  | 0 => []
  | k + 1 => parL ps k ++ (match ps[k]? with | some p => piece k p | none => [])
theorem parL_succ (ps : List (ByteArray × ByteArray)) (k : Nat) (h : k < ps.length) : parL ps (k + 1) = parL ps k ++ piece k ps[k] := by
  simp [parL, List.getElem?_eq_getElem h]
theorem piece_len (k : Nat) (p : ByteArray × ByteArray) (h : p.1.size + p.2.size ≤ 600) : (piece k p).length ≤ 2000 := by
  have h2 := valV_size p.2
  rw [Lib.size_eq (valV p.2), Lib.size_eq p.2] at h2
  rw [Lib.size_eq, Lib.size_eq] at h
  unfold piece
  split <;> simp only [List.length_append, List.length_cons, List.length_nil] <;> omega
set_option maxRecDepth 10000 in
theorem parL_len (ps : List (ByteArray × ByteArray)) (h : ∀ p ∈ ps, p.1.size + p.2.size ≤ 600) : ∀ k, (parL ps k).length ≤ k * 2000
  | 0 => by simp [parL]
  | k + 1 => by
    have ih := parL_len ps h k
    by_cases hk : k < ps.length
    · have := piece_len k ps[k] (h _ (List.getElem_mem hk))
      rw [parL_succ ps k hk, List.length_append]; omega
    · have e : ps[k]? = none := List.getElem?_eq_none (by omega)
      simp only [parL, e, List.append_nil]; omega

def headL (c : Chal) : List UInt8 := c.scheme.data.toList ++ (if (!c.token.toList.isEmpty) = true then [32] ++ c.token.data.toList else [])
def chalL (c : Chal) : List UInt8 := headL c ++ parL c.params c.params.length
def chalB (c : Chal) : ByteArray := ⟨(chalL c).toArray⟩
def chalOk (c : Chal) : Bool := c.params.all (fun p => valOk p.2)
/-- what both answer -/
def askRes (cs : List Chal) (good : Value) (bad : Nat → Value) : Value := match cs.findIdx? (fun c => !chalOk c) with
  | none => .tuple #[.string ⟨(commas (cs.map chalB)).toArray⟩, good]
  | some i => .tuple #[.string ⟨#[]⟩, bad i]
theorem askRes_good (cs : List Chal) (good : Value) (bad : Nat → Value) (h : ∀ c ∈ cs, chalOk c = true) : askRes cs good bad = .tuple #[.string ⟨(commas (cs.map chalB)).toArray⟩, good] := by
  unfold askRes
  rw [List.findIdx?_eq_none_iff.2 (fun c hc => by simp [h c hc])]
theorem askRes_bad (cs : List Chal) (good : Value) (bad : Nat → Value) (k : Nat) (hk : k < cs.length) (h : ∀ c ∈ cs.take k, chalOk c = true) (hb : chalOk cs[k] = false) : askRes cs good bad = .tuple #[.string ⟨#[]⟩, bad k] := by
  unfold askRes
  rw [(List.findIdx?_eq_some_iff_getElem (i := k)).2 ⟨hk, by simp [hb], fun j hj => by simp [h cs[j] (by rw [List.mem_take_iff_getElem]; exact ⟨j, by omega, rfl⟩)]⟩]
theorem chalOk_bad (c : Chal) (k : Nat) (h : k < c.params.length) (hb : valOk c.params[k].2 = false) : chalOk c = false := by
  unfold chalOk
  rw [Bool.eq_false_iff]
  intro ha
  have := List.all_eq_true.1 ha _ (List.getElem_mem h)
  simp [hb] at this
theorem le_sum_of_mem {x : Nat} {l : List Nat} (h : x ∈ l) : x ≤ l.sum := by
  induction l with
  | nil => cases h
  | cons y r ih =>
    rw [List.sum_cons]
    rcases List.mem_cons.1 h with rfl | h
    · omega
    · have := ih h; omega
theorem light_each {c : Chal} (h : Light c) : ∀ p ∈ c.params, p.1.size + p.2.size ≤ 600 := by
  intro p hp
  have hs := h.short
  unfold wTo at hs
  rw [List.take_length] at hs
  have : p.1.size + p.2.size ≤ (c.params.map (fun p => p.1.size + p.2.size)).sum := le_sum_of_mem (List.mem_map_of_mem hp)
  omega
theorem light_head {c : Chal} (h : Light c) : c.scheme.size + c.token.size ≤ 600 := by
  have hs := h.short
  unfold wTo at hs
  omega

theorem box_free {w wr : World} {c : Array Value} {T : TypeId} {B : Nat} (h : Below (B + 1) (w.alloc (.cells c T)) wr) (i : Nat) (hB : B = w.heap.size := by rfl) : wr.frozen? ⟨B, i, none⟩ = false := by
  subst hB
  rw [h.frozen (p := ⟨w.heap.size, i, none⟩) (Nat.lt_succ_self _)]
  simp [World.frozen?_alloc_mark]
  try omega
theorem ba_of {s : ByteArray} {L : List UInt8} (h : s.data.toList = L) : s = ⟨L.toArray⟩ := by
  subst h; rfl
/-- what stands ahead of challenge k's parameters -/
def pre (cs : List Chal) (k : Nat) (h : k < cs.length) : List UInt8 := (if k = 0 then [] else commas ((cs.take k).map chalB) ++ [44, 32]) ++ headL cs[k]
theorem pre_next (cs : List Chal) (k : Nat) (h : k < cs.length) : commas ((cs.take (k + 1)).map chalB) = pre cs k h ++ parL cs[k].params cs[k].params.length := by
  rw [List.take_succ_eq_append_getElem h, List.map_append]
  unfold pre
  by_cases h0 : k = 0
  · subst h0
    rw [if_pos rfl, List.take_zero]
    show commas [chalB cs[0]] = _
    rw [commas_one]
    rfl
  · rw [if_neg h0]
    show commas (_ ++ [chalB cs[k]]) = _
    rw [commas_snoc _ _ (by
      intro e
      have e2 := congrArg List.length e
      rw [List.length_map, List.length_take, List.length_nil] at e2
      omega)]
    show _ ++ chalL cs[k] = _
    unfold chalL
    simp only [List.append_assoc]

theorem set_two {wr : World} {B : Nat} {x0 x1 : Value} (y0 y1 : Value) (q0 : wr.cell? ⟨B, 0, none⟩ = some x0) (q1 : wr.cell? ⟨B, 1, none⟩ = some x1) :
    ((wr.setCell ⟨B, 0, none⟩ y0).setCell ⟨B, 1, none⟩ y1).cell? ⟨B, 0, none⟩ = some y0 ∧ ((wr.setCell ⟨B, 0, none⟩ y0).setCell ⟨B, 1, none⟩ y1).cell? ⟨B, 1, none⟩ = some y1 :=
  ⟨by
    rw [World.cell?_setCell_other]
    · exact World.cell?_setCell_same _ _ _ q0
    · simp, World.cell?_setCell_same _ _ _ (by
    rw [World.cell?_setCell_other]
    · exact q1
    · simp)⟩
theorem good_is (w : World) : Calls Tryd.prog 75 #[] w fun e w' => e = .returned (.agg #[.int .i64 0, .int .i64 (-1)]) ∧ Below w.heap.size w w' := by
  go_enter Tryd.func75, Tryd.ntmps75
  go_wp2
  go_returns
  exact ⟨rfl, (Below.refl _ _).alloc (Nat.le_refl _) _⟩
set_option maxRecDepth 100000 in
set_option maxHeartbeats 8000000 in
set_option linter.unusedSimpArgs false in
theorem refAskPrint (a : Option Addr) (cap : Nat) (cs : List Chal) (w : World) (hC : ChalAt w a cs) (hO : ∀ c ∈ cs, c.Ok w) (hL : ∀ c ∈ cs, Light c) (hl : cs.length ≤ 10) :
    Calls Tryd.prog 42 #[.slice a cs.length cap] w fun e w' => e = .returned (askRes cs (.agg #[.int .i64 0, .int .i64 (-1)]) (fun i => .agg #[.int .i64 3, .int .i64 i])) ∧ Below w.heap.size w w' := by
  go_enter Tryd.func42, Tryd.ntmps42
  go_wp2
  go_loopw [4, 13] (fun o i wr => ∃ (k : Nat) (s : ByteArray), k ≤ cs.length ∧ i = .int .i64 k ∧ o = .string s ∧ s.size ≤ k * 50000 ∧ Hid (s.data.toList = commas ((cs.take k).map chalB)) ∧ Below (w.heap.size + 1) (w.alloc (.cells #[.int .i64 0, .int .i64 0] 57)) wr ∧ Hid (∀ c ∈ cs.take k, chalOk c = true)) (fun _ i _ => cs.length - (intOf i).toNat)
  case atStart => exact ⟨0, _, Nat.zero_le _, rfl, rfl, Nat.zero_le _, Lib.hid rfl, Below.refl _ _, Lib.hid (by simp)⟩
  case round =>
    obtain ⟨k, s, hk, rfl, rfl, hsz, hs, hBB, ha⟩ := hrel
    have hB := below_box hBB
    have hbs : w.heap.size < wr.heap.size := Nat.lt_of_lt_of_le (by simp) hBB.size
    by_cases hlt : k < cs.length
    · obtain ⟨b, off, rfl, h1, h2, h3⟩ := (hC.later hB) k hlt
      have hLk := hL _ (List.getElem_mem hlt)
      have hhd := light_head hLk
      have hfew := hLk.few
      have hOk := hO _ (List.getElem_mem hlt)
      have hpar := hOk.at_
      have heach := light_each hLk
      obtain ⟨A, hA⟩ : ∃ A, A = cs[k].addr := ⟨_, rfl⟩
      rw [← hA] at h3 hpar
      clear hA
      by_cases h0 : 0 < k <;> cases hte : (!cs[k].token.toList.isEmpty)
      all_goals go_wp2
      all_goals
        go_loopw [4, 37] (fun o i w2 => ∃ (j : Nat) (s : ByteArray), j ≤ cs[k].params.length ∧ i = .int .i64 j ∧ o = .string s ∧ s.size ≤ k * 50000 + 700 + j * 2000 ∧ Hid (s.data.toList = pre cs k hlt ++ parL cs[k].params j) ∧ Below (w.heap.size + 1) (w.alloc (.cells #[.int .i64 0, .int .i64 0] 57)) w2 ∧ Hid (∀ p ∈ cs[k].params.take j, valOk p.2 = true)) (fun _ i _ => cs[k].params.length - (intOf i).toNat)
        case atStart =>
          refine ⟨0, _, Nat.zero_le _, rfl, rfl, ?_, Lib.hid ?_, hBB.alloc hbs _, Lib.hid (by simp)⟩
          · have e1 : (⟨#[44, 32]⟩ : ByteArray).size = 2 := rfl
            have e2 : (⟨#[32]⟩ : ByteArray).size = 1 := rfl
            simp only [ByteArray.size_append, e1, e2]
            omega
          · unfold pre headL
            rw [hte]
            rcases Nat.eq_zero_or_pos k with hz | hz
            · first
                | (exfalso; omega)
                | (subst hz
                   have hs0 : s.data.toList = [] := hs.out
                   simp [ByteArray.data_append, hs0, parL])
            · first
                | (exfalso; omega)
                | (rw [if_neg (by omega)]
                   simp [ByteArray.data_append, hs.out, parL])
        case round =>
          obtain ⟨j, s1, hj, rfl, rfl, hsz1, hs1, hBB1, ha1⟩ := hrel
          have hB1 := below_box hBB1
          have hbs1 : w.heap.size < wr.heap.size := Nat.lt_of_lt_of_le (by simp) hBB1.size
          by_cases hlt1 : j < cs[k].params.length
          · obtain ⟨b1, off1, rfl, g1, g2⟩ := (hpar.later hB1) j hlt1
            have hp := heach _ (List.getElem_mem hlt1)
            have rv := fun w' => refValue cs[k].params[j].2 w' (by omega)
            cases hv : valOk cs[k].params[j].2
            · have rv1 : ∀ w', Calls Tryd.prog 18 #[.string cs[k].params[j].2] w' fun e w2 => e = .returned (.tuple #[.string ⟨#[]⟩, .int .i64 3]) ∧ w' = w2 := fun w' => by
                have := rv w'; rw [valueRes_bad hv] at this; exact this
              clear rv
              have hv' := Lib.hid hv
              clear hv
              go_wp2_with fail
              refine (rv1 _).mono ?_
              rintro e w' ⟨rfl, rfl⟩
              clear rv1
              have q0 := box_cell hBB1 0 (v := .int .i64 0) rfl
              have q1 := box_cell hBB1 1 (v := .int .i64 0) rfl
              have f0 := box_free hBB1 0
              have f1 := box_free hBB1 1
              go_wp2
              obtain ⟨c0, c1⟩ := set_two (.int .i64 3) (.int .i64 (k : Int)) q0 q1
              have hbs2 : w.heap.size < ((wr.setCell ⟨w.heap.size, 0, none⟩ (.int .i64 3)).setCell ⟨w.heap.size, 1, none⟩ (.int .i64 (k : Int))).heap.size := by simpa [World.setCell] using hbs1
              have d0 : (((wr.setCell ⟨w.heap.size, 0, none⟩ (.int .i64 3)).setCell ⟨w.heap.size, 1, none⟩ (.int .i64 (k : Int))).alloc (Obj.cells #[Value.string cs[k].params[j].fst, Value.string cs[k].params[j].snd] 90)).cell? ⟨w.heap.size, 0, none⟩ = some (.int .i64 3) := by
                rw [World.cell?_alloc_past]
                · exact c0
                · exact hbs2
              have d1 : (((wr.setCell ⟨w.heap.size, 0, none⟩ (.int .i64 3)).setCell ⟨w.heap.size, 1, none⟩ (.int .i64 (k : Int))).alloc (Obj.cells #[Value.string cs[k].params[j].fst, Value.string cs[k].params[j].snd] 90)).cell? ⟨w.heap.size, 1, none⟩ = some (.int .i64 k) := by
                rw [World.cell?_alloc_past]
                · exact c1
                · exact hbs2
              (try simp only [Exit.inBlock, Exit.then])
              refine bodyPost_ret (by simp [results, Tryd.results42, go_sem, d0, d1]; try rfl) rfl ?_
              refine ⟨?_, ?_⟩
              · rw [askRes_bad cs _ _ k hlt ha.out (chalOk_bad _ j hlt1 hv'.out)]
              · go_grown
            · have rv1 : ∀ w', Calls Tryd.prog 18 #[.string cs[k].params[j].2] w' fun e w2 => e = .returned (.tuple #[.string (valV cs[k].params[j].2), .int .i64 0]) ∧ w' = w2 := fun w' => by
                have := rv w'; rw [valueRes_ok hv] at this; exact this
              clear rv
              have hv' := Lib.hid hv
              clear hv
              have hvs := valV_size cs[k].params[j].2
              go_wp2_with fail
              refine (rv1 _).mono ?_
              rintro e w' ⟨rfl, rfl⟩
              clear rv1
              by_cases j0 : 0 < j
              all_goals
                go_wp2
                go_roundw
                case rel =>
                  refine ⟨j + 1, _, by omega, by go_num, rfl, ?_, Lib.hid ?_, hBB1.alloc hbs1 _, Lib.hid ?_⟩
                  · have e1 : (⟨#[44]⟩ : ByteArray).size = 1 := rfl
                    have e2 : (⟨#[32]⟩ : ByteArray).size = 1 := rfl
                    have e3 : (⟨#[61]⟩ : ByteArray).size = 1 := rfl
                    simp only [ByteArray.size_append, e1, e2, e3]
                    omega
                  · rw [parL_succ _ j hlt1]
                    unfold piece
                    first
                      | (rw [if_neg (by omega)]; simp [ByteArray.data_append, hs1.out]; done)
                      | (rw [if_pos (by omega)]; simp [ByteArray.data_append, hs1.out])
                  · intro p hp
                    rw [List.take_succ_eq_append_getElem hlt1] at hp
                    rcases List.mem_append.1 hp with hp | hp
                    · exact ha1.out p hp
                    · simp at hp; subst hp; exact hv'.out
                case measure => simp [intOf]; omega
          · obtain rfl : j = cs[k].params.length := by omega
            go_wp2
            go_roundw
            case rel =>
              refine ⟨k + 1, s1, by omega, by go_num, rfl, by omega, Lib.hid ?_, hBB1, Lib.hid ?_⟩
              · rw [pre_next cs k hlt]; exact hs1.out
              · intro c hc
                rw [List.take_succ_eq_append_getElem hlt] at hc
                rcases List.mem_append.1 hc with hc | hc
                · exact ha.out c hc
                · simp at hc; subst hc
                  exact List.all_eq_true.2 (by simpa using ha1.out)
            case measure => simp [intOf]; omega
    · obtain rfl : k = cs.length := by omega
      have q0 := box_cell hBB 0 (v := .int .i64 0) rfl
      have q1 := box_cell hBB 1 (v := .int .i64 0) rfl
      have f0 := box_free hBB 0
      have f1 := box_free hBB 1
      go_wp2_with fail
      refine (good_is _).mono ?_
      rintro e w1 ⟨rfl, hB2⟩
      have hB3 := hB.then (Nat.le_refl _) hB2
      have q0' := (hB2.cell (p := ⟨w.heap.size, 0, none⟩) hbs).trans q0
      have q1' := (hB2.cell (p := ⟨w.heap.size, 1, none⟩) hbs).trans q1
      have f0' := (hB2.frozen (p := ⟨w.heap.size, 0, none⟩) hbs).trans f0
      have f1' := (hB2.frozen (p := ⟨w.heap.size, 1, none⟩) hbs).trans f1
      clear q0 q1 f0 f1
      go_wp2
      obtain ⟨c0, c1⟩ := set_two (.int .i64 0) (.int .i64 (-1)) q0' q1'
      (try simp only [Exit.inBlock, Exit.then])
      refine bodyPost_ret (by simp [results, Tryd.results42, go_sem, c0, c1]; try rfl) rfl ?_
      refine ⟨?_, ?_⟩
      · rw [askRes_good cs _ _ (by have := ha.out; rwa [List.take_length] at this)]
        have e1 := ba_of hs.out
        rw [List.take_length] at e1
        rw [e1]
      · go_grown
end Go.Proofs.YtnmeifobikemlaaDoor
