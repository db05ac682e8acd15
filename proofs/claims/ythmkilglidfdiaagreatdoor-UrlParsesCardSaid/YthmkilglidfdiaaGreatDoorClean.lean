/- url.Clean and the reference's Clean: a path without parts that are points. -/
import Derived.Test.YthmkilglidfdiaaGreatDoorSplit
import Derived.Test.YthmkilglidfdiaaGreatDoorFound
namespace Go.Proofs.YthmkilglidfdiaaGreatDoor
open Go.RowKit

def dot1 (p : ByteArray) : Bool := p.toList == [46]
def dot2 (p : ByteArray) : Bool := p.toList == [46, 46]
/-- one part more; at most 'keep' stay where two points take away -/
def cstep (keep : Nat) (last : Bool) (l : List ByteArray) (p : ByteArray) : List ByteArray :=
  if dot2 p then (if keep < l.length then l.dropLast else l) ++ (if last then [⟨#[]⟩] else [])
  else if dot1 p then l ++ (if last then [⟨#[]⟩] else []) else l ++ [p]
def crun (keep : Nat) (ps : List ByteArray) : Nat → List ByteArray
  | 0 => []
  | n + 1 => cstep keep (n + 1 == ps.length) (crun keep ps n) (ps.getD n ⟨#[]⟩)
theorem cstep_cons (last : Bool) (l : List ByteArray) (p e : ByteArray) : cstep 1 last (e :: l) p = e :: cstep 0 last l p := by
  unfold cstep
  cases l with
  | nil => split <;> simp; split <;> simp
  | cons x r => split <;> simp; split <;> simp
theorem crun_shift (ps : List ByteArray) : ∀ n, crun 1 (⟨#[]⟩ :: ps) (n + 1) = ⟨#[]⟩ :: crun 0 ps n
  | 0 => by simp [crun, cstep, dot1, dot2]
  | n + 1 => by
    rw [crun, crun_shift ps n, cstep_cons]
    simp [crun]
theorem cstep_len (keep : Nat) (last : Bool) (l : List ByteArray) (p : ByteArray) : (cstep keep last l p).length ≤ l.length + 1 := by
  unfold cstep
  split
  · split <;> split <;> simp <;> omega
  · split
    · split <;> simp
    · simp
theorem crun_len (keep : Nat) (ps : List ByteArray) : ∀ n, (crun keep ps n).length ≤ n
  | 0 => Nat.le_refl _
  | n + 1 => Nat.le_trans (cstep_len _ _ _ _) (Nat.succ_le_succ (crun_len keep ps n))
theorem crun_sz (keep m : Nat) (ps : List ByteArray) (h : ∀ p ∈ ps, p.size ≤ m) : ∀ n, ∀ p ∈ crun keep ps n, p.size ≤ m
  | 0, p, hp => by simp [crun] at hp
  | n + 1, p, hp => by
    have ih := crun_sz keep m ps h n
    have h0 : (⟨#[]⟩ : ByteArray).size ≤ m := Nat.zero_le _
    have hg : (ps.getD n ⟨#[]⟩).size ≤ m := by
      rw [List.getD_eq_getElem?_getD]
      cases hq : ps[n]? with
      | none => exact h0
      | some q => exact h q (List.mem_of_getElem? hq)
    unfold crun cstep at hp
    have hlast : ∀ b : Bool, p ∈ (if b then [(⟨#[]⟩ : ByteArray)] else []) → p.size ≤ m := by
      intro b hb; cases b <;> simp at hb; subst hb; exact h0
    split at hp
    · rcases List.mem_append.1 hp with hp | hp
      · split at hp
        · exact ih p (List.dropLast_subset _ hp)
        · exact ih p hp
      · exact hlast _ hp
    · split at hp
      · rcases List.mem_append.1 hp with hp | hp
        · exact ih p hp
        · exact hlast _ hp
      · rcases List.mem_append.1 hp with hp | hp
        · exact ih p hp
        · simp at hp; subst hp; exact hg
theorem crun_end (keep : Nat) (ps : List ByteArray) (h : ps ≠ []) : crun keep ps ps.length ≠ [] := by
  obtain ⟨n, hn⟩ : ∃ n, ps.length = n + 1 := ⟨ps.length - 1, by cases ps with
    | nil => exact absurd rfl h
    | cons a l => simp⟩
  rw [hn, crun, hn]
  unfold cstep
  split
  · simp
  · split <;> simp
/-- a path with / ahead -/
def slashed (s : ByteArray) : ByteArray := if s.data.toList.head? = some 47 then s else ⟨#[47]⟩ ++ s
/-- a path cleaned -/
def cleanB (s : ByteArray) : ByteArray := ⟨(Lib.join (datas (crun 1 (pieces 47 (slashed s)) (pieces 47 (slashed s)).length)) [47]).toArray⟩
theorem slashed_cons (s : ByteArray) : ∃ r, (slashed s).data.toList = 47 :: r := by
  unfold slashed
  split
  · rename_i h
    cases hl : s.data.toList with
    | nil => rw [hl] at h; cases h
    | cons a l => rw [hl] at h; simp at h; subst h; exact ⟨l, rfl⟩
  · exact ⟨s.data.toList, by rw [add_toList]; rfl⟩
/-- the same by the parts behind the first / -/
theorem clean_tail (s t : ByteArray) (ht : (slashed s).data.toList = 47 :: t.data.toList) : cleanB s = ⟨#[47]⟩ ++ ⟨(Lib.join (datas (crun 0 (pieces 47 t) (pieces 47 t).length)) [47]).toArray⟩ := by
  have hp : pieces 47 (slashed s) = ⟨#[]⟩ :: pieces 47 t := datas_inj (by
    rw [pieces_datas, ht, cutL_hit, ← pieces_datas]; simp [datas])
  apply ba_ext
  unfold cleanB
  rw [hp, List.length_cons, crun_shift, mk_toList, add_toList, mk_toList]
  have hne : crun 0 (pieces 47 t) (pieces 47 t).length ≠ [] := crun_end _ _ (by
    intro e; have := pieces_datas 47 t; rw [e] at this; exact cutL_ne 47 _ this.symm)
  cases hc : crun 0 (pieces 47 t) (pieces 47 t).length with
  | nil => exact absurd hc hne
  | cons x r => simp [datas, Lib.join_cons, Lib.joinTail]
theorem slashed_size (s : ByteArray) : (slashed s).size ≤ s.size + 1 := by
  unfold slashed; split
  · omega
  · rw [add_size, show (⟨#[47]⟩ : ByteArray).size = 1 from rfl]; omega

theorem hasPrefix_slash (s : ByteArray) (w : World) : Calls Tryz.prog 40 #[.string s, .string ⟨#[47]⟩] w fun e w' => e = .returned (.bool (s.data.toList.head? == some 47)) ∧ w = w' := by
  refine (Tryz.strings_HasPrefix s ⟨#[47]⟩ w).mono ?_
  rintro e w' ⟨rfl, rfl⟩
  refine ⟨ret_bool ?_, rfl⟩
  cases s.data.toList with
  | nil => rfl
  | cons a l =>
    rw [Bool.eq_iff_iff]
    simp only [Lib.hasPrefix, List.isPrefixOf, List.head?_cons, Bool.and_true, beq_iff_eq, Option.some.injEq]
    exact eq_comm

/-- the loop's state: what has been gathered is a row of the call's own -/
def Gath (B : Nat) (W w : World) (v : Value) (l : List ByteArray) : Prop := OwnStr w B v l ∧ Below B W w
theorem Gath.keep {B : Nat} {W w w' : World} {v v' : Value} {l : List ByteArray} {c : ByteArray} (h : Gath B W w v l) (hB : B ≤ w.heap.size) (hO : OwnStr w' B v' (l ++ [c])) (hg : (w.alloc (.cells #[.string c] 9)).grownBy w' v.ownBlock) : Gath B W w' v' (l ++ [c]) :=
  ⟨hO, below_append h.2 h.1 hg hB⟩

set_option maxRecDepth 100000 in
set_option maxHeartbeats 1000000 in
theorem urlClean (s : ByteArray) (w : World) (hM : MaxL w) (hs : s.size ≤ 100000) :
    Calls Tryz.prog 20 #[.string s] w fun e w' => e = .returned (.string (cleanB s)) ∧ Below w.heap.size w w' := by
  have hS1 := slashed_size s
  have hpl := pieces_le 47 (slashed s)
  have hps := pieces_sz 47 (slashed s)
  have hsp := stringsSplit 47 (slashed s) w hM (by omega)
  have hpx := hasPrefix_slash s w
  have hadd := run_string_add_sum (P := Tryz.prog) w ⟨#[47]⟩ s (by rw [show (⟨#[47]⟩ : ByteArray).size = 1 from rfl]; omega)
  unfold cleanB
  have hne : pieces 47 (slashed s) ≠ [] := by
    intro e; have := pieces_datas 47 (slashed s); rw [e] at this; exact cutL_ne 47 _ this.symm
  have hpos : 0 < (pieces 47 (slashed s)).length := List.length_pos_iff.2 hne
  have hSs : (s.data.toList.head? = some 47 ∧ slashed s = s) ∨ (¬ s.data.toList.head? = some 47 ∧ slashed s = ⟨#[47]⟩ ++ s) := by
    unfold slashed; by_cases h : s.data.toList.head? = some 47
    · exact .inl ⟨h, if_pos h⟩
    · exact .inr ⟨h, if_neg h⟩
  generalize hQ : pieces 47 (slashed s) = ps at hsp hpl hps hne hpos
  clear hQ
  have hpl' : ps.length ≤ 200000 := by omega
  have hps' : ∀ p ∈ ps, p.size ≤ 200000 := fun p h => by have := hps p h; omega
  clear hpl hps
  rcases hSs with ⟨h47, hSe⟩ | ⟨h47, hSe⟩
  all_goals
    rw [hSe] at hsp
    first | (rw [h47] at hpx; simp only [beq_self_eq_true] at hpx) | rw [beq_eq_false_iff_ne.2 h47] at hpx
    clear h47 hSe hS1
    go_enter Tryz.func20, Tryz.ntmps20
    go_wp2_with fail
    refine hpx.mono ?_
    rintro e w1 ⟨rfl, rfl⟩
    go_wp2_with fail
    refine hsp.mono ?_
    rintro e w2 ⟨rfl, rfl⟩
    have hP := pieces_at w ps
    obtain ⟨w1, hw1⟩ : ∃ w1, w1 = w.alloc (.cells (ps.map Value.string).toArray 9) := ⟨_, rfl⟩
    have hB1 : Below w.heap.size w w1 := by rw [hw1]; exact (Below.refl _ _).alloc (Nat.le_refl _) _
    rw [← hw1] at hP ⊢
    have hg1 : w.heap.size < w1.heap.size := by rw [hw1]; simp
    clear hw1 hM
    go_wp2
    go_loopw [3, 17] (fun v i wr => ∃ (k : Nat), k ≤ ps.length ∧ i = .int .i64 k ∧ OwnStr wr w1.heap.size v (crun 1 ps k) ∧ Below w1.heap.size w1 wr) (fun _ i _ => ps.length - (intOf i).toNat)
    case atStart => exact ⟨0, Nat.zero_le _, rfl, OwnStr.nil _ _, Below.refl _ _⟩
    case round =>
      obtain ⟨k, hk, rfl, hO, hB⟩ := hrel
      have hcl := crun_len 1 ps k
      by_cases hlt : k < ps.length
      · obtain ⟨b, off, ha, hcell⟩ := (hP.later hB) k hlt
        simp only [Option.some.injEq, Addr.mk.injEq, and_true] at ha
        obtain ⟨rfl, rfl⟩ := ha
        rw [Nat.zero_add] at hcell
        have hnext : Hid (crun 1 ps (k + 1) = cstep 1 (k + 1 == ps.length) (crun 1 ps k) ps[k]) := Lib.hid (by
          rw [crun]; congr 1; simp [hlt])
        obtain ⟨a, cap, rfl, _, hcap, _, _⟩ := hO.shape
        have hbs := hB.size
        have hcl' : (crun 1 ps k).length + 1 ≤ 1099511627776 := by omega
        have hlastb : (((k : Int) == (ps.length : Int) - 1) = true ∧ (k + 1 == ps.length) = true) ∨ (((k : Int) == (ps.length : Int) - 1) = false ∧ (k + 1 == ps.length) = false) := by
          by_cases h : k + 1 = ps.length
          · exact .inl ⟨by rw [beq_iff_eq]; omega, by rw [beq_iff_eq]; exact h⟩
          · exact .inr ⟨by rw [beq_eq_false_iff_ne]; omega, by rw [beq_eq_false_iff_ne]; exact h⟩
        generalize crun 1 ps k = L at hO hnext hcl hcl' hcap ⊢
        by_cases d2 : dot2 ps[k] = true
        · have b2 : (ps[k].toList == [46, 46]) = true := d2
          have d2' := Lib.hid d2
          clear d2
          by_cases h1 : 1 < L.length
          · obtain ⟨m, hm⟩ : ∃ m, L.length = m + 2 := ⟨L.length - 2, by omega⟩
            have hm' := Lib.hid hm
            have hcl2 : L.dropLast.length + 1 ≤ 1099511627776 := by rw [List.length_dropLast]; omega
            rw [hm] at hO hcl hcl' hcap ⊢
            have h1' := Lib.hid h1
            clear hm h1
            have hO' := OwnStr.pop hO
            rcases hlastb with ⟨bl, bn⟩ | ⟨bl, bn⟩
            · have bn' := Lib.hid bn
              clear bn
              go_wp2_with (at_builtin; refine wpList_append_str rfl _ _ rfl _ w1.heap.size _ L.dropLast rfl ?_ ⟨#[]⟩ _ rfl ?_ ?_ ?_ ?_; exact hO'; exact rfl; exact hcl2; exact hbs; intro v1 w3 hO1 hg3)
              have hB3 := below_append hB hO' hg3 hbs
              go_roundw
              case rel => exact ⟨k + 1, by omega, by go_num, by rw [hnext.out]; unfold cstep; rw [if_pos d2'.out, if_pos h1'.out, bn'.out]; exact hO1, hB3⟩
              case measure => simp [intOf]; omega
            · have bn' := Lib.hid bn
              clear bn
              go_wp2
              go_roundw
              case rel => exact ⟨k + 1, by omega, by go_num, by rw [hnext.out]; unfold cstep; rw [if_pos d2'.out, if_pos h1'.out, bn'.out]; simp only [Bool.false_eq_true, if_false, List.append_nil]; exact hO', hB⟩
              case measure => simp [intOf]; omega
          · have hcl2 := hcl'
            have h1' := Lib.hid h1
            rcases hlastb with ⟨bl, bn⟩ | ⟨bl, bn⟩
            · have bn' := Lib.hid bn
              clear bn
              go_wp2_with (at_builtin; refine wpList_append_str rfl _ _ rfl _ w1.heap.size _ L rfl ?_ ⟨#[]⟩ _ rfl ?_ ?_ ?_ ?_; exact hO; exact rfl; exact hcl2; exact hbs; intro v1 w3 hO1 hg3)
              have hB3 := below_append hB hO hg3 hbs
              go_roundw
              case rel => exact ⟨k + 1, by omega, by go_num, by rw [hnext.out]; unfold cstep; rw [if_pos d2'.out, if_neg h1'.out, bn'.out]; exact hO1, hB3⟩
              case measure => simp [intOf]; omega
            · have bn' := Lib.hid bn
              clear bn
              go_wp2
              go_roundw
              case rel => exact ⟨k + 1, by omega, by go_num, by rw [hnext.out]; unfold cstep; rw [if_pos d2'.out, if_neg h1'.out, bn'.out]; simp only [Bool.false_eq_true, if_false, List.append_nil]; exact hO, hB⟩
              case measure => simp [intOf]; omega
        · have b2 : (ps[k].toList == [46, 46]) = false := by cases h : (ps[k].toList == [46, 46]); rfl; exact absurd h d2
          have d2' := Lib.hid d2
          clear d2
          have hcl2 := hcl'
          by_cases d1 : dot1 ps[k] = true
          · have b1 : (ps[k].toList == [46]) = true := d1
            have d1' := Lib.hid d1
            clear d1
            rcases hlastb with ⟨bl, bn⟩ | ⟨bl, bn⟩
            · have bn' := Lib.hid bn
              clear bn
              go_wp2_with (at_builtin; refine wpList_append_str rfl _ _ rfl _ w1.heap.size _ L rfl ?_ ⟨#[]⟩ _ rfl ?_ ?_ ?_ ?_; exact hO; exact rfl; exact hcl2; exact hbs; intro v1 w3 hO1 hg3)
              have hB3 := below_append hB hO hg3 hbs
              go_roundw
              case rel => exact ⟨k + 1, by omega, by go_num, by rw [hnext.out]; unfold cstep; rw [if_neg d2'.out, if_pos d1'.out, bn'.out]; exact hO1, hB3⟩
              case measure => simp [intOf]; omega
            · have bn' := Lib.hid bn
              clear bn
              go_wp2
              go_roundw
              case rel => exact ⟨k + 1, by omega, by go_num, by rw [hnext.out]; unfold cstep; rw [if_neg d2'.out, if_pos d1'.out, bn'.out]; simp only [Bool.false_eq_true, if_false, List.append_nil]; exact hO, hB⟩
              case measure => simp [intOf]; omega
          · have b1 : (ps[k].toList == [46]) = false := by cases h : (ps[k].toList == [46]); rfl; exact absurd h d1
            have d1' := Lib.hid d1
            clear d1 hlastb
            go_wp2_with (at_builtin; refine wpList_append_str rfl _ _ rfl _ w1.heap.size _ L rfl ?_ ps[k] _ rfl ?_ ?_ ?_ ?_; exact hO; exact rfl; exact hcl2; exact hbs; intro v1 w3 hO1 hg3)
            have hB3 := below_append hB hO hg3 hbs
            go_roundw
            case rel => exact ⟨k + 1, by omega, by go_num, by rw [hnext.out]; unfold cstep; rw [if_neg d2'.out, if_neg d1'.out]; exact hO1, hB3⟩
            case measure => simp [intOf]; omega
      · obtain rfl : k = ps.length := by omega
        obtain ⟨a, cap, rfl, hSt, hc, hm, _⟩ := hO.shape
        have hjl := join_len 200000 [47] (crun 1 ps ps.length) (crun_sz 1 200000 ps hps' ps.length)
        have hj := stringsJoin a cap (crun 1 ps ps.length) ⟨#[47]⟩ wr hSt hc (by omega) (Nat.le_trans hjl (by
          have h1 : (crun 1 ps ps.length).length * (200000 + ([47] : List UInt8).length) ≤ 200000 * 200001 := Nat.mul_le_mul (by omega) (by decide)
          omega))
        go_wp2_with fail
        refine hj.mono ?_
        rintro e w3 ⟨rfl, hB3⟩
        have hBf := (hB1.then (Nat.le_refl _) hB).then (Nat.le_refl _) hB3
        go_wp2
        go_ret
        exact ⟨rfl, hBf⟩

set_option maxRecDepth 100000 in
set_option maxHeartbeats 1000000 in
theorem refClean (s : ByteArray) (w : World) (hM : MaxL w) (hs : s.size ≤ 100000) :
    Calls Tryz.prog 12 #[.string s] w fun e w' => e = .returned (.string (cleanB s)) ∧ Below w.heap.size w w' := by
  have hS1 := slashed_size s
  obtain ⟨r, hr⟩ := slashed_cons s
  have hpos1 : 1 ≤ (slashed s).size := by rw [sz_len, hr]; simp
  obtain ⟨t, ht⟩ : ∃ t : ByteArray, t = (slashed s).extract 1 (slashed s).size := ⟨_, rfl⟩
  have htl : (slashed s).data.toList = 47 :: t.data.toList := by rw [ht, Lib.extract_to_end, hr]; rfl
  have hts : t.size ≤ 100001 := by have := congrArg List.length htl; rw [← sz_len, List.length_cons, ← sz_len] at this; omega
  have hct := clean_tail s t htl
  rw [hct]
  have hpl := pieces_le 47 t
  have hps := pieces_sz 47 t
  have hsp := fun w' hM' => stringsSplit 47 t w' hM' (by omega)
  have hadd := run_string_add_sum (P := Tryz.prog) w ⟨#[47]⟩ s (by rw [show (⟨#[47]⟩ : ByteArray).size = 1 from rfl]; omega)
  have hne : pieces 47 t ≠ [] := by
    intro e; have := pieces_datas 47 t; rw [e] at this; exact cutL_ne 47 _ this.symm
  have hpos : 0 < (pieces 47 t).length := List.length_pos_iff.2 hne
  generalize hQ : pieces 47 t = ps at hsp hpl hps hne hpos
  clear hQ hct htl hr
  have hpl' : ps.length ≤ 200000 := by omega
  have hps' : ∀ p ∈ ps, p.size ≤ 200000 := fun p h => by have := hps p h; omega
  clear hpl hps
  have hSs : (s.toList.isEmpty = true ∧ slashed s = ⟨#[47]⟩ ++ s) ∨ (∃ h0 : 0 < s.size, s.toList.isEmpty = false ∧ ((s[0].toNat : Int) != 47) = true ∧ slashed s = ⟨#[47]⟩ ++ s) ∨ (∃ h0 : 0 < s.size, s.toList.isEmpty = false ∧ ((s[0].toNat : Int) != 47) = false ∧ slashed s = s) := by
    rw [Lib.toList_data]
    cases hl : s.data.toList with
    | nil => exact .inl ⟨rfl, by unfold slashed; rw [hl, if_neg (by simp)]⟩
    | cons a l =>
      have h0 : 0 < s.size := by rw [sz_len, hl]; simp
      have hl0 : 0 < s.data.toList.length := by rw [← sz_len]; exact h0
      have ha : s[0] = a := by rw [← at_list s 0 h0 hl0]; simp [hl]
      right
      by_cases h47 : a = 47
      · exact .inr ⟨h0, rfl, by rw [ha, h47]; rfl, by unfold slashed; rw [hl, h47]; rfl⟩
      · refine .inl ⟨h0, rfl, ?_, by unfold slashed; rw [hl, if_neg (by simpa using h47)]⟩
        rw [ha, bne_iff_ne]; intro e; have e' : a.toNat = 47 := by omega
        exact h47 (UInt8.toNat.inj e')
  rcases hSs with ⟨he, hSe⟩ | ⟨h0, he, h47, hSe⟩ | ⟨h0, he, h47, hSe⟩
  all_goals
    rw [hSe] at ht hpos1
    subst ht
    try rw [show ((⟨#[47]⟩ : ByteArray) ++ s).size = 1 + s.size by rw [add_size]; rfl] at hsp
    clear hSe hS1
    go_enter Tryz.func12, Tryz.ntmps12
    go_wp2_with fail
    refine (hsp _ (hM.later ((Below.refl _ _).alloc (Nat.le_refl _) (.cells #[] 9)))).mono ?_
    rintro e w2 ⟨rfl, rfl⟩
    have hP := pieces_at (w.alloc (.cells #[] 9)) ps
    rw [World.size_alloc] at hP
    obtain ⟨w1, hw1⟩ : ∃ w1, w1 = (w.alloc (.cells #[] 9)).alloc (.cells (ps.map Value.string).toArray 9) := ⟨_, rfl⟩
    have hB1 : Below w.heap.size w w1 := by rw [hw1]; exact ((Below.refl _ _).alloc (Nat.le_refl _) _).alloc (by simp) _
    rw [← hw1] at hP ⊢
    have hg1 : w.heap.size + 1 < w1.heap.size := by rw [hw1]; simp
    clear hw1 hM
    go_wp2
    go_loopw [3, 22] (fun v i wr => ∃ (k : Nat), k ≤ ps.length ∧ i = .int .i64 k ∧ OwnE wr w1.heap.size w.heap.size v (crun 0 ps k) ∧ Below w1.heap.size w1 wr) (fun _ i _ => ps.length - (intOf i).toNat)
    case atStart => exact ⟨0, Nat.zero_le _, rfl, .inr ⟨rfl, rfl⟩, Below.refl _ _⟩
    case round =>
      obtain ⟨k, hk, rfl, hO, hB⟩ := hrel
      have hcl := crun_len 0 ps k
      by_cases hlt : k < ps.length
      · obtain ⟨b, off, ha, hcell⟩ := (hP.later hB) k hlt
        simp only [Option.some.injEq, Addr.mk.injEq, and_true] at ha
        obtain ⟨rfl, rfl⟩ := ha
        rw [Nat.zero_add] at hcell
        have hnext : Hid (crun 0 ps (k + 1) = cstep 0 (k + 1 == ps.length) (crun 0 ps k) ps[k]) := Lib.hid (by
          rw [crun]; congr 1; simp [hlt])
        obtain ⟨a, cap, rfl, _, hcap, _, _⟩ := hO.shape
        have hbs := hB.size
        have hcl' : (crun 0 ps k).length + 1 ≤ 1099511627776 := by omega
        have hlastb : (((k : Int) == (ps.length : Int) - 1) = true ∧ (k + 1 == ps.length) = true) ∨ (((k : Int) == (ps.length : Int) - 1) = false ∧ (k + 1 == ps.length) = false) := by
          by_cases h : k + 1 = ps.length
          · exact .inl ⟨by rw [beq_iff_eq]; omega, by rw [beq_iff_eq]; exact h⟩
          · exact .inr ⟨by rw [beq_eq_false_iff_ne]; omega, by rw [beq_eq_false_iff_ne]; exact h⟩
        generalize crun 0 ps k = L at hO hnext hcl hcl' hcap ⊢
        by_cases d2 : dot2 ps[k] = true
        · have b2 : (ps[k].toList == [46, 46]) = true := d2
          have b1 : (ps[k].toList == [46]) = false := by rw [beq_iff_eq.1 b2]; rfl
          have b2' : (ps[k].toList != [46, 46]) = false := by rw [bne, b2]; rfl
          have b1' : (ps[k].toList != [46]) = true := by rw [bne, b1]; rfl
          have d2' := Lib.hid d2
          clear d2
          by_cases h1 : 0 < L.length
          · obtain ⟨m, hm⟩ : ∃ m, L.length = m + 1 := ⟨L.length - 1, by omega⟩
            have hm' := Lib.hid hm
            have hcl2 : L.dropLast.length + 1 ≤ 1099511627776 := by rw [List.length_dropLast]; omega
            rw [hm] at hO hcl hcl' hcap ⊢
            have h1' := Lib.hid h1
            clear hm h1
            have hO' := OwnE.pop hO
            rcases hlastb with ⟨bl, bn⟩ | ⟨bl, bn⟩
            · have bn' := Lib.hid bn
              clear bn
              go_wp2_with (at_builtin; refine wpList_append_strE rfl _ _ rfl _ w1 w1.heap.size w.heap.size _ L.dropLast rfl ?_ ?_ ⟨#[]⟩ _ rfl ?_ ?_ ?_ ?_; exact hO'; exact hB; exact rfl; exact hcl2; exact hbs; intro v1 w3 hO1 hB3)
              go_roundw
              case rel => exact ⟨k + 1, by omega, by go_num, by rw [hnext.out]; unfold cstep; rw [if_pos d2'.out, if_pos h1'.out, bn'.out]; exact .inl hO1, hB3⟩
              case measure => simp [intOf]; omega
            · have bn' := Lib.hid bn
              clear bn
              go_wp2
              go_roundw
              case rel => exact ⟨k + 1, by omega, by go_num, by rw [hnext.out]; unfold cstep; rw [if_pos d2'.out, if_pos h1'.out, bn'.out]; simp only [Bool.false_eq_true, if_false, List.append_nil]; exact hO', hB⟩
              case measure => simp [intOf]; omega
          · have hcl2 := hcl'
            have h1' := Lib.hid h1
            rcases hlastb with ⟨bl, bn⟩ | ⟨bl, bn⟩
            · have bn' := Lib.hid bn
              clear bn
              go_wp2_with (at_builtin; refine wpList_append_strE rfl _ _ rfl _ w1 w1.heap.size w.heap.size _ L rfl ?_ ?_ ⟨#[]⟩ _ rfl ?_ ?_ ?_ ?_; exact hO; exact hB; exact rfl; exact hcl2; exact hbs; intro v1 w3 hO1 hB3)
              go_roundw
              case rel => exact ⟨k + 1, by omega, by go_num, by rw [hnext.out]; unfold cstep; rw [if_pos d2'.out, if_neg h1'.out, bn'.out]; exact .inl hO1, hB3⟩
              case measure => simp [intOf]; omega
            · have bn' := Lib.hid bn
              clear bn
              go_wp2
              go_roundw
              case rel => exact ⟨k + 1, by omega, by go_num, by rw [hnext.out]; unfold cstep; rw [if_pos d2'.out, if_neg h1'.out, bn'.out]; simp only [Bool.false_eq_true, if_false, List.append_nil]; exact hO, hB⟩
              case measure => simp [intOf]; omega
        · have b2 : (ps[k].toList == [46, 46]) = false := by cases h : (ps[k].toList == [46, 46]); rfl; exact absurd h d2
          have d2' := Lib.hid d2
          clear d2
          have hcl2 := hcl'
          have b2' : (ps[k].toList != [46, 46]) = true := by rw [bne, b2]; rfl
          by_cases d1 : dot1 ps[k] = true
          · have b1 : (ps[k].toList == [46]) = true := d1
            have b1' : (ps[k].toList != [46]) = false := by rw [bne, b1]; rfl
            have d1' := Lib.hid d1
            clear d1
            rcases hlastb with ⟨bl, bn⟩ | ⟨bl, bn⟩
            · have bn' := Lib.hid bn
              clear bn
              go_wp2_with (at_builtin; refine wpList_append_strE rfl _ _ rfl _ w1 w1.heap.size w.heap.size _ L rfl ?_ ?_ ⟨#[]⟩ _ rfl ?_ ?_ ?_ ?_; exact hO; exact hB; exact rfl; exact hcl2; exact hbs; intro v1 w3 hO1 hB3)
              go_roundw
              case rel => exact ⟨k + 1, by omega, by go_num, by rw [hnext.out]; unfold cstep; rw [if_neg d2'.out, if_pos d1'.out, bn'.out]; exact .inl hO1, hB3⟩
              case measure => simp [intOf]; omega
            · have bn' := Lib.hid bn
              clear bn
              go_wp2
              go_roundw
              case rel => exact ⟨k + 1, by omega, by go_num, by rw [hnext.out]; unfold cstep; rw [if_neg d2'.out, if_pos d1'.out, bn'.out]; simp only [Bool.false_eq_true, if_false, List.append_nil]; exact hO, hB⟩
              case measure => simp [intOf]; omega
          · have b1' : (ps[k].toList != [46]) = true := by cases h : (ps[k].toList == [46]); (rw [bne, h]; rfl); exact absurd h d1
            have b1 : (ps[k].toList == [46]) = false := by cases h : (ps[k].toList == [46]); rfl; exact absurd h d1
            have d1' := Lib.hid d1
            clear d1 hlastb
            go_wp2_with (at_builtin; refine wpList_append_strE rfl _ _ rfl _ w1 w1.heap.size w.heap.size _ L rfl ?_ ?_ ps[k] _ rfl ?_ ?_ ?_ ?_; exact hO; exact hB; exact rfl; exact hcl2; exact hbs; intro v1 w3 hO1 hB3)
            go_roundw
            case rel => exact ⟨k + 1, by omega, by go_num, by rw [hnext.out]; unfold cstep; rw [if_neg d2'.out, if_neg d1'.out]; exact .inl hO1, hB3⟩
            case measure => simp [intOf]; omega
      · obtain rfl : k = ps.length := by omega
        obtain ⟨a, cap, rfl, hSt, hc, hm, _⟩ := hO.shape
        have hjl := join_len 200000 [47] (crun 0 ps ps.length) (crun_sz 0 200000 ps hps' ps.length)
        have hj := stringsJoin a cap (crun 0 ps ps.length) ⟨#[47]⟩ wr hSt hc (by omega) (Nat.le_trans hjl (by
          have h1 : (crun 0 ps ps.length).length * (200000 + ([47] : List UInt8).length) ≤ 200000 * 200001 := Nat.mul_le_mul (by omega) (by decide)
          omega))
        go_wp2_with fail
        refine hj.mono ?_
        rintro e w3 ⟨rfl, hB3⟩
        have hBf := (hB1.then (Nat.le_refl _) hB).then (Nat.le_refl _) hB3
        have haddj := run_string_add_sum (P := Tryz.prog) w3 ⟨#[47]⟩ ⟨(Lib.join (datas (crun 0 ps ps.length)) [47]).toArray⟩ (by
          rw [show (⟨#[47]⟩ : ByteArray).size = 1 from rfl, mk_len]
          have h1 : (crun 0 ps ps.length).length * (200000 + ([47] : List UInt8).length) ≤ 200000 * 200001 := Nat.mul_le_mul (by omega) (by decide)
          omega)
        go_wp2
        go_ret
        exact ⟨rfl, hBf⟩
end Go.Proofs.YthmkilglidfdiaaGreatDoor
