/- The reference's lastOf at Wai. (printed by tools/gen_rows.py) -/
import Derived.Test.YtchgpdgigpaloaaDoorRwW
import Derived.Test.YtchgpdgigpaloaaDoorOrgE
namespace Go.Proofs.YtchgpdgigpaloaaDoor
open Go.RowKit Go.Deep
theorem wholeLV : (Tryd.prog.info? 59).map (fun i => (i.zero, i.size, i.bytes)) = some (some (.agg zWai), 13, 168) := by kernel_rfl
def LastPostV (base k : Nat) (l : List Wai) (w : World) (e : Ending) (w' : World) : Prop := (∃ v', e = .returned v' ∧ OwnG 59 13 encWai w' base v' (lastB k l)) ∧ Below w.heap.size w w'
set_option maxRecDepth 100000 in
set_option maxHeartbeats 4000000 in
theorem lastOfV (k : Nat) (base : Nat) (v : Value) (l : List Wai) (w : World) (hO : OwnG 59 13 encWai w base v l) (hb : base ≤ w.heap.size) (hl : l.length ≤ 1048576) (hk : k ≤ 1000) :
    Calls Tryd.prog 43 #[v, .int .i64 (k : Int)] w (LastPostV base k l w) := by
  have hOH := Lib.hid hO
  rcases RowB.of_own encWai_len hO with ⟨rfl, rfl⟩ | ⟨g0, cap, rfl, hb0, hR⟩
  · clear hO
    go_enter Tryd.func43, Tryd.ntmps43
    go_wp2
    go_ret
    exact ⟨⟨_, rfl, by rw [show lastB k ([] : List Wai) = [] by unfold lastB; simp]; exact hOH.out⟩, Below.refl _ _⟩
  · have hlc := hR.len
    have hcm := hR.cap_
    unfold maxLen at hcm
    by_cases hn : k < l.length
    · obtain ⟨i0, hi, hz0, hz1, hz2⟩ := info_parts wholeLV
      have hkl : l.length - k < cap ∨ l.length - k = cap := by omega
      obtain ⟨A, hA, hsrc⟩ : ∃ A : Addr, (if cap = l.length - k then some (⟨g0, 0, none⟩ : Addr) else some ⟨g0, (l.length - k) * 13, none⟩) = some A ∧ Hid (∀ t u, ((l.drop (l.length - k)).flatMap encWai)[t]? = some u → w.cell? (A.add t) = some u) := by
        by_cases h : cap = l.length - k
        · refine ⟨⟨g0, 0, none⟩, by simp [h], fun t u hu => ?_⟩
          rw [List.drop_eq_nil_of_le (by omega)] at hu
          simp at hu
        · refine ⟨⟨g0, (l.length - k) * 13, none⟩, by simp [h], fun t u hu => ?_⟩
          have hdl : (l.drop (l.length - k)).length = k := by rw [List.length_drop]; omega
          have ht : t < k * 13 := by rw [← hdl, ← flat_len encWai_len]; exact (List.getElem?_eq_some_iff.1 hu).1
          have h1 : t / 13 < k := Nat.div_lt_of_lt_mul (by rw [Nat.mul_comm]; exact ht)
          have h2 : t % 13 < 13 := Nat.mod_lt _ (by decide)
          have h3 : t = t / 13 * 13 + t % 13 := by rw [Nat.mul_comm]; exact (Nat.div_add_mod t 13).symm
          rw [h3, flat_at encWai_len _ (t / 13) (t % 13) (by rw [hdl]; exact h1) h2] at hu
          rw [Addr.add_mid, show (l.length - k) * 13 + t = (l.length - k + t / 13) * 13 + t % 13 by rw [Nat.add_mul]; omega]
          refine hR.cell (l.length - k + t / 13) (by omega) (t % 13) u ?_
          rw [← hu]
          congr 1
          rw [List.getElem_drop]
      have s1 := Lib.hid (show ((l.drop (l.length - k)).flatMap encWai).length = (l.length - (l.length - k)) * 13 by rw [flat_len encWai_len, List.length_drop])
      have s2 : Hid (∀ u ∈ (l.drop (l.length - k)).flatMap encWai, u.oneCell' = true) := by
        intro u hu
        rw [List.mem_flatMap] at hu
        obtain ⟨x, _, hx⟩ := hu
        exact encWai_one x u hx
      have hnil := Lib.hid (World.ownsRow_nil w w.heap.size 59 13)
      have hl1 : 0 + (l.length - (l.length - k)) ≤ maxLen := by unfold maxLen; omega
      have hl2 : (0 + (l.length - (l.length - k))) * 168 ≤ 140737488355328 := by omega
      clear hR hO
      go_enter Tryd.func43, Tryd.ntmps43
      go_wp2_with (at_builtin; refine wpList_append_own _ rfl _ _ 28 rfl w.heap.size 59 i0 (.agg zWai) 13 168 Tryd.underlying28 hi hz0 hz1 hz2 rfl (by decide) (.slice none 0 0) 0 [] (by rfl) hnil.out A (l.length - (l.length - k)) (cap - (l.length - k)) ((l.drop (l.length - k)).flatMap encWai) (by first | rfl | (simp [Act.eval, Act.put]; done)) s1.out hsrc.out s2.out hl1 hl2 (Nat.le_refl _) ?_; intro v' w' hown' hgrow _)
      have hB2 := Lib.hid ((Below.refl w.heap.size w).grown hgrow (Nat.le_refl _) (fun k hk => by cases hk))
      have hown2 : OwnG 59 13 encWai w' w.heap.size v' (l.drop (l.length - k)) := by
        have h := hown'
        rw [List.nil_append] at h
        simpa [OwnG] using h
      have hownH := Lib.hid (hown2.base (B' := base) (fun g hg => Nat.le_trans hb (hown2.lt g hg).1))
      clear hown2 hown' hgrow
      go_wp2
      go_ret
      exact ⟨⟨_, rfl, hownH.out⟩, hB2.out⟩
    · have hlast := Lib.hid (show lastB k l = l by unfold lastB; rw [Nat.sub_eq_zero_of_le (by omega)]; rfl)
      clear hR hO
      go_enter Tryd.func43, Tryd.ntmps43
      go_wp2
      go_ret
      exact ⟨⟨_, rfl, by rw [hlast.out]; exact hOH.out⟩, Below.refl _ _⟩
end Go.Proofs.YtchgpdgigpaloaaDoor
