/- ScriptDecodes: the program's Decode and the reference's read the same moves: the walk of the statement. -/
import Derived.Test.YtinlahahbhpppaaDecC
import Derived.Test.YtinlahahbhpppaaDecE
import Derived.Test.YtinlahahbhpppaaDecF
import Derived.OpenShut
namespace Go.Proofs.Ytinlahahbhpppaa.lawScriptDecodes
set_option linter.unusedSimpArgs false
open Go.ChangeShapes Go.WideShapes Go.ChangeAt Go.RowKit Go.WideElems Go.Deep
theorem mv_eq {x y : Mv} (h : x.d = y.d) : encMv y = .int .i64 x.kind :: .int .i64 x.tab :: (arrB x.op y.op.req.addr y.op.req.cap).toList ∧ y.op.req.heads = x.op.req.heads := by
  have e0 : x.kind = y.kind := by have t := congrArg Mv.kind h; exact t
  have e1 : x.tab = y.tab := by have t := congrArg Mv.tab h; exact t
  have f0 : x.op.what = y.op.what := by have t := congrArg (fun m : Mv => m.op.what) h; exact t
  have f1 : x.op.req.part = y.op.req.part := by have t := congrArg (fun m : Mv => m.op.req.part) h; exact t
  have f2 : x.op.req.orig = y.op.req.orig := by have t := congrArg (fun m : Mv => m.op.req.orig) h; exact t
  have f3 : x.op.req.dest = y.op.req.dest := by have t := congrArg (fun m : Mv => m.op.req.dest) h; exact t
  have f4 : x.op.req.path = y.op.req.path := by have t := congrArg (fun m : Mv => m.op.req.path) h; exact t
  have f5 : x.op.req.query = y.op.req.query := by have t := congrArg (fun m : Mv => m.op.req.query) h; exact t
  have f6 : x.op.req.method = y.op.req.method := by have t := congrArg (fun m : Mv => m.op.req.method) h; exact t
  have f7 : x.op.req.heads = y.op.req.heads := by have t := congrArg (fun m : Mv => m.op.req.heads) h; exact t
  have f8 : x.op.req.creds = y.op.req.creds := by have t := congrArg (fun m : Mv => m.op.req.creds) h; exact t
  have f9 : x.op.req.body = y.op.req.body := by have t := congrArg (fun m : Mv => m.op.req.body) h; exact t
  have f10 : x.op.proxy = y.op.proxy := by have t := congrArg (fun m : Mv => m.op.proxy) h; exact t
  have f11 : x.op.text = y.op.text := by have t := congrArg (fun m : Mv => m.op.text) h; exact t
  have f12 : x.op.user = y.op.user := by have t := congrArg (fun m : Mv => m.op.user) h; exact t
  have f13 : x.op.pass = y.op.pass := by have t := congrArg (fun m : Mv => m.op.pass) h; exact t
  have f14 : x.op.cnonce = y.op.cnonce := by have t := congrArg (fun m : Mv => m.op.cnonce) h; exact t
  have f15 : x.op.cert = y.op.cert := by have t := congrArg (fun m : Mv => m.op.cert) h; exact t
  have f16 : x.op.all = y.op.all := by have t := congrArg (fun m : Mv => m.op.all) h; exact t
  have f17 : x.op.n = y.op.n := by have t := congrArg (fun m : Mv => m.op.n) h; exact t
  refine ⟨?_, f7.symm⟩
  simp only [encMv, Mv.arr, arrB, e0, e1, f0, f1, f2, f3, f4, f5, f6, f7, f8, f9, f10, f11, f12, f13, f14, f15, f16, f17]
theorem row_at {w : World} {b o k : Nat} {l : List Mv} (h : RowAt 24 encMv w (some ⟨b, o, none⟩) l) (hk : k < l.length) : w.rangeAt b (o + k * 24) (encMv l[k]) := by
  obtain ⟨b', o', e, hc⟩ := h k hk
  cases e
  exact hc
set_option maxRecDepth 100000 in
set_option maxHeartbeats 8000000 in
theorem walk (W : World) (hsh : W.ShapedOpen Try.prog) (s : ByteArray) (_hs : s.size ≤ reachBytes) :
    Calls Try.prog 3 #[.string s] W fun e w' => e = .returned (.bool true) ∧ Below W.heap.size W w' := by
  simp only [reachBytes] at _hs
  by_cases h : 3000 < s.size
  · go_enter Try.func3, Try.ntmps3
    go_wp2
    go_ret
    exact ⟨rfl, Below.refl _ _⟩
  · have hd1 := decodeR s W (maxL_of hsh)
    go_enter Try.func3, Try.ntmps3
    go_wp2_with fail
    refine hd1.mono ?_
    rintro e w1 ⟨v1, Ns, rfl, hO1, hM1, hH1, hB1⟩
    clear hd1
    have hd2 := decodeP s w1
    go_wp2_with fail
    refine hd2.mono ?_
    rintro e w2 ⟨v2, Ms, rfl, hO2, hM2, hH2, hB2⟩
    clear hd2
    obtain ⟨a1, c1, rfl, hr1, _, _, hn1⟩ := OwnG.shape encMv_len hO1
    obtain ⟨a2, c2, rfl, hr2, _, _, hn2⟩ := OwnG.shape encMv_len hO2
    have hmm : Ns.map Mv.d = Ms.map Mv.d := hM1.trans hM2.symm
    have hll : Ms.length = Ns.length := by
      have := congrArg List.length hmm
      simpa using this.symm
    have hne : ((Ns.length : Int) != (Ms.length : Int)) = false := by rw [hll]; simp
    have h400 : Ns.length ≤ 400 := by
      have := congrArg List.length hM1
      rw [List.length_map] at this
      rw [this]
      exact dec_len _ 400
    have hR1 := Lib.hid (hr1.later hB2)
    have hR2 := Lib.hid hr2
    have hH1' := Lib.hid (fun m hm => (hH1 m hm).later hB2)
    have hH2' := Lib.hid hH2
    have hB := Lib.hid (hB1.then (Nat.le_refl _) hB2)
    have hmH := Lib.hid hmm
    have hlH := Lib.hid hll
    have hl1 : Ns.length ≤ Ms.length := by omega
    have hl2 : Ms.length ≤ Ns.length := by omega
    clear hO1 hM1 hH1 hB1 hO2 hM2 hH2 hB2 hr1 hr2 hmm hll hn1 hn2
    go_wp2_with fail
    go_loopw [5] (fun vi wr => ∃ k : Nat, k ≤ Ns.length ∧ vi = .int .i64 k ∧ Hid (Below w2.heap.size w2 wr)) (fun vi _ => Ns.length - (intOf vi).toNat)
    case atStart => exact ⟨0, Nat.zero_le _, rfl, Lib.hid (Below.refl _ _)⟩
    case round =>
      obtain ⟨k, hk, rfl, hBe⟩ := hrel
      by_cases hlt : k < Ns.length
      · have hlt2 : k < Ms.length := by omega
        obtain ⟨b1, o1, rfl, _⟩ := hR1.out k hlt
        obtain ⟨b2, o2, rfl, _⟩ := hR2.out k hlt2
        have hg1 := row_at (hR1.out.later hBe.out) hlt
        have hg2 := row_at (hR2.out.later hBe.out) hlt2
        have hp1 := heads_par ((hH1'.out _ (List.getElem_mem hlt)).later hBe.out)
        have hpl := heads_lenD (hH1'.out _ (List.getElem_mem hlt))
        have hp2 := heads_par ((hH2'.out _ (List.getElem_mem hlt2)).later hBe.out)
        have hdd : Ns[k].d = Ms[k].d := by
          have := congrArg (fun l : List Mv => l[k]?) hmH.out
          simpa [List.getElem?_eq_getElem hlt, List.getElem?_eq_getElem hlt2] using this
        obtain ⟨hey, hhy⟩ := mv_eq hdd
        rw [hey] at hg2
        rw [hhy] at hp2
        clear hdd hey hhy
        generalize Ms[k].op.req.addr = ad at hg2 hp2
        generalize Ms[k].op.req.cap = cp at hg2
        generalize Ns[k] = x at hg1 hg2 hp1 hp2 hpl
        have hi0 : (0 : Int) ≤ (k : Int) := by omega
        have hi1 : (k : Int) < (Ns.length : Int) := by omega
        have hi2 : (k : Int) < (Ms.length : Int) := by omega
        have hmk0 : ∀ w', Below wr.heap.size wr w' → Below wr.heap.size wr w' ∧ w'.cell? ⟨b1, o1 + k * 24, none⟩ = some (.int .i64 x.kind) ∧ w'.cell? ⟨b2, o2 + k * 24, none⟩ = some (.int .i64 x.kind) ∧ w'.cell? ⟨b1, o1 + k * 24 + 1, none⟩ = some (.int .i64 x.tab) ∧ w'.cell? ⟨b2, o2 + k * 24 + 1, none⟩ = some (.int .i64 x.tab) := fun w' hb =>
          ⟨hb, (Only.of_below (S := fun _ => False) hb).cell (hg1 0 _ rfl) (fun e => e), (Only.of_below (S := fun _ => False) hb).cell (hg2 0 _ rfl) (fun e => e), (Only.of_below (S := fun _ => False) hb).cell (hg1 1 _ rfl) (fun e => e), (Only.of_below (S := fun _ => False) hb).cell (hg2 1 _ rfl) (fun e => e)⟩
        have hq1 : ∀ w', Below wr.heap.size wr w' → w'.rangeAt b1 (o1 + k * 24 + 2) x.op.arr.toList := fun w' hb j u hu => (Only.of_below (S := fun _ => False) hb).cell (by rw [Nat.add_assoc, Nat.add_comm 2 j]; exact hg1 (j + 2) u (by simpa [encMv, Mv.arr] using hu)) (fun e => e)
        have hq2 : ∀ w', Below wr.heap.size wr w' → w'.rangeAt b2 (o2 + k * 24 + 2) (arrB x.op ad cp).toList := fun w' hb j u hu => (Only.of_below (S := fun _ => False) hb).cell (by rw [Nat.add_assoc, Nat.add_comm 2 j]; exact hg2 (j + 2) u (by simpa using hu)) (fun e => e)
        have hso : ∀ w', Below wr.heap.size wr w' → Calls Try.prog 6 #[.agg x.op.arr, .agg (arrB x.op ad cp)] w' fun e w'' => e = .returned (.bool true) ∧ Below w'.heap.size w' w'' := fun w' hb => sameOp_yes x.op ad cp w' (hp1.later hb) (hp2.later hb) hpl
        have hmkH := Lib.hid hmk0
        have hq1H := Lib.hid hq1
        have hq2H := Lib.hid hq2
        have hsoH := Lib.hid hso
        clear hg1 hg2 hp1 hp2 hpl hmk0 hq1 hq2 hso
        go_upto_region 9 with fail
        refine wp_region_held_drew (S := fun w' => Below wr.heap.size wr w' ∧ w'.cell? ⟨b1, o1 + k * 24, none⟩ = some (.int .i64 x.kind) ∧ w'.cell? ⟨b2, o2 + k * 24, none⟩ = some (.int .i64 x.kind) ∧ w'.cell? ⟨b1, o1 + k * 24 + 1, none⟩ = some (.int .i64 x.tab) ∧ w'.cell? ⟨b2, o2 + k * 24 + 1, none⟩ = some (.int .i64 x.tab)) (by kernel_rfl) (by (try dsimp only); exact hmkH.out _ (Below.refl _ _).drew) (fun hHeld => ?_)
        refine wpAnyH_take (i := 0) (v := ?_) rfl (by kernel_rfl) (by kernel_rfl) (by kernel_rfl) (fun _ _ _ h => h) (Or.inl ⟨by rfl, ?_⟩) (by assumption) ?_
        rotate_left
        · intro w hSw; (try dsimp only at hSw); go_simp; (try with_reducible rfl)
        (try simp only [List.getElem_toArray, List.getElem_cons_succ, List.getElem_cons_zero, Act.put, List.setIfInBounds_toArray, List.set_cons_zero, List.set_cons_succ])
        refine wpAnyH_take (i := 1) (v := ?_) rfl (by kernel_rfl) (by kernel_rfl) (by kernel_rfl) (fun _ _ _ h => h) (Or.inl ⟨by rfl, ?_⟩) (by assumption) ?_
        rotate_left
        · intro w hSw; (try dsimp only at hSw); go_simp; (try with_reducible rfl)
        (try simp only [List.getElem_toArray, List.getElem_cons_succ, List.getElem_cons_zero, Act.put, List.setIfInBounds_toArray, List.set_cons_zero, List.set_cons_succ])
        refine wpAnyH_take (i := 2) (v := ?_) rfl (by kernel_rfl) (by kernel_rfl) (by kernel_rfl) (fun _ _ _ h => h) (Or.inl ⟨by rfl, ?_⟩) (by assumption) ?_
        rotate_left
        · intro w hSw; (try dsimp only at hSw); go_simp; (try with_reducible rfl)
        (try simp only [List.getElem_toArray, List.getElem_cons_succ, List.getElem_cons_zero, Act.put, List.setIfInBounds_toArray, List.set_cons_zero, List.set_cons_succ])
        refine wpAnyH_take (i := 3) (v := ?_) rfl (by kernel_rfl) (by kernel_rfl) (by kernel_rfl) (fun _ _ _ h => h) (Or.inl ⟨by rfl, ?_⟩) (by assumption) ?_
        rotate_left
        · intro w hSw; (try dsimp only at hSw); go_simp; (try with_reducible rfl)
        (try simp only [List.getElem_toArray, List.getElem_cons_succ, List.getElem_cons_zero, Act.put, List.setIfInBounds_toArray, List.set_cons_zero, List.set_cons_succ])
        refine wpAnyH_take (i := 4) (v := ?_) rfl (by kernel_rfl) (by kernel_rfl) (by kernel_rfl) (fun _ _ _ h => h) (Or.inl ⟨by rfl, ?_⟩) (by assumption) ?_
        rotate_left
        · intro w hSw; (try dsimp only at hSw); go_simp; (try with_reducible rfl)
        (try simp only [List.getElem_toArray, List.getElem_cons_succ, List.getElem_cons_zero, Act.put, List.setIfInBounds_toArray, List.set_cons_zero, List.set_cons_succ])
        refine wpAnyH_take (i := 5) (v := ?_) rfl (by kernel_rfl) (by kernel_rfl) (by kernel_rfl) (fun _ _ _ h => h) (Or.inl ⟨by rfl, ?_⟩) (by assumption) ?_
        rotate_left
        · intro w hSw; (try dsimp only at hSw); go_simp; (try with_reducible rfl)
        (try simp only [List.getElem_toArray, List.getElem_cons_succ, List.getElem_cons_zero, Act.put, List.setIfInBounds_toArray, List.set_cons_zero, List.set_cons_succ])
        refine wpAnyH_take (i := 6) (v := ?_) rfl (by kernel_rfl) (by kernel_rfl) (by kernel_rfl) (fun _ _ _ h => h) (Or.inl ⟨by rfl, ?_⟩) (by assumption) ?_
        rotate_left
        · intro w hSw; (try dsimp only at hSw); go_simp; (try with_reducible rfl)
        (try simp only [List.getElem_toArray, List.getElem_cons_succ, List.getElem_cons_zero, Act.put, List.setIfInBounds_toArray, List.set_cons_zero, List.set_cons_succ])
        refine wpAnyH_take (i := 7) (v := ?_) rfl (by kernel_rfl) (by kernel_rfl) (by kernel_rfl) (fun _ _ _ h => h) (Or.inl ⟨by rfl, ?_⟩) (by assumption) ?_
        rotate_left
        · intro w hSw; (try dsimp only at hSw); go_simp; (try with_reducible rfl)
        (try simp only [List.getElem_toArray, List.getElem_cons_succ, List.getElem_cons_zero, Act.put, List.setIfInBounds_toArray, List.set_cons_zero, List.set_cons_succ])
        refine wpAnyH_take (i := 8) (v := ?_) rfl (by kernel_rfl) (by kernel_rfl) (by kernel_rfl) (fun _ _ _ h => h) (Or.inl ⟨by rfl, ?_⟩) (by assumption) ?_
        rotate_left
        · intro w hSw; (try dsimp only at hSw); go_simp; (try with_reducible rfl)
        (try simp only [List.getElem_toArray, List.getElem_cons_succ, List.getElem_cons_zero, Act.put, List.setIfInBounds_toArray, List.set_cons_zero, List.set_cons_succ])
        refine wpAnyH_take (i := 9) (v := ?_) rfl (by kernel_rfl) (by kernel_rfl) (by kernel_rfl) (fun _ _ _ h => h) (Or.inl ⟨by rfl, ?_⟩) (by assumption) ?_
        rotate_left
        · intro w hSw; (try dsimp only at hSw); go_simp; (try with_reducible rfl)
        (try simp only [List.getElem_toArray, List.getElem_cons_succ, List.getElem_cons_zero, Act.put, List.setIfInBounds_toArray, List.set_cons_zero, List.set_cons_succ])
        refine wpAnyH_take (i := 10) (v := ?_) rfl (by kernel_rfl) (by kernel_rfl) (by kernel_rfl) (fun _ _ _ h => h) (Or.inl ⟨by rfl, ?_⟩) (by assumption) ?_
        rotate_left
        · intro w hSw; (try dsimp only at hSw); go_simp; (try with_reducible rfl)
        (try simp only [List.getElem_toArray, List.getElem_cons_succ, List.getElem_cons_zero, Act.put, List.setIfInBounds_toArray, List.set_cons_zero, List.set_cons_succ])
        refine wpAnyH_take (i := 11) (v := ?_) rfl (by kernel_rfl) (by kernel_rfl) (by kernel_rfl) (fun _ _ _ h => h) (Or.inl ⟨by rfl, ?_⟩) (by assumption) ?_
        rotate_left
        · intro w hSw; (try dsimp only at hSw); go_simp; (try with_reducible rfl)
        (try simp only [List.getElem_toArray, List.getElem_cons_succ, List.getElem_cons_zero, Act.put, List.setIfInBounds_toArray, List.set_cons_zero, List.set_cons_succ])
        refine wpAnyH_take (i := 12) (v := ?_) rfl (by kernel_rfl) (by kernel_rfl) (by kernel_rfl) (fun _ _ _ h => h) (Or.inl ⟨by rfl, ?_⟩) (by assumption) ?_
        rotate_left
        · intro w hSw; (try dsimp only at hSw); go_simp; (try with_reducible rfl)
        (try simp only [List.getElem_toArray, List.getElem_cons_succ, List.getElem_cons_zero, Act.put, List.setIfInBounds_toArray, List.set_cons_zero, List.set_cons_succ])
        refine wpAnyH_take (i := 13) (v := ?_) rfl (by kernel_rfl) (by kernel_rfl) (by kernel_rfl) (fun _ _ _ h => h) (Or.inl ⟨by rfl, ?_⟩) (by assumption) ?_
        rotate_left
        · intro w hSw; (try dsimp only at hSw); go_simp; (try with_reducible rfl)
        (try simp only [List.getElem_toArray, List.getElem_cons_succ, List.getElem_cons_zero, Act.put, List.setIfInBounds_toArray, List.set_cons_zero, List.set_cons_succ])
        refine wpAnyH_take (i := 14) (v := ?_) rfl (by kernel_rfl) (by kernel_rfl) (by kernel_rfl) (fun _ _ _ h => h) (Or.inl ⟨by rfl, ?_⟩) (by assumption) ?_
        rotate_left
        · intro w hSw; (try dsimp only at hSw); go_simp; (try with_reducible rfl)
        (try simp only [List.getElem_toArray, List.getElem_cons_succ, List.getElem_cons_zero, Act.put, List.setIfInBounds_toArray, List.set_cons_zero, List.set_cons_succ])
        refine wpAnyH_take (i := 15) (v := ?_) rfl (by kernel_rfl) (by kernel_rfl) (by kernel_rfl) (fun _ _ _ h => h) (Or.inl ⟨by rfl, ?_⟩) (by assumption) ?_
        rotate_left
        · intro w hSw; (try dsimp only at hSw); go_simp; (try with_reducible rfl)
        (try simp only [List.getElem_toArray, List.getElem_cons_succ, List.getElem_cons_zero, Act.put, List.setIfInBounds_toArray, List.set_cons_zero, List.set_cons_succ])
        refine wpAnyH_take (i := 16) (v := ?_) rfl (by kernel_rfl) (by kernel_rfl) (by kernel_rfl) (fun _ _ _ h => h) (Or.inl ⟨by rfl, ?_⟩) (by assumption) ?_
        rotate_left
        · intro w hSw; (try dsimp only at hSw); go_simp; (try with_reducible rfl)
        (try simp only [List.getElem_toArray, List.getElem_cons_succ, List.getElem_cons_zero, Act.put, List.setIfInBounds_toArray, List.set_cons_zero, List.set_cons_succ])
        refine wpAnyH_take (i := 17) (v := ?_) rfl (by kernel_rfl) (by kernel_rfl) (by kernel_rfl) (fun _ _ _ h => h) (Or.inl ⟨by rfl, ?_⟩) (by assumption) ?_
        rotate_left
        · intro w hSw; (try dsimp only at hSw); go_simp; (try with_reducible rfl)
        (try simp only [List.getElem_toArray, List.getElem_cons_succ, List.getElem_cons_zero, Act.put, List.setIfInBounds_toArray, List.set_cons_zero, List.set_cons_succ])
        refine wpAnyH_take (i := 18) (v := ?_) rfl (by kernel_rfl) (by kernel_rfl) (by kernel_rfl) (fun _ _ _ h => h) (Or.inl ⟨by rfl, ?_⟩) (by assumption) ?_
        rotate_left
        · intro w hSw; (try dsimp only at hSw); go_simp; (try with_reducible rfl)
        (try simp only [List.getElem_toArray, List.getElem_cons_succ, List.getElem_cons_zero, Act.put, List.setIfInBounds_toArray, List.set_cons_zero, List.set_cons_succ])
        refine wpAnyH_take (i := 19) (v := ?_) rfl (by kernel_rfl) (by kernel_rfl) (by kernel_rfl) (fun _ _ _ h => h) (Or.inl ⟨by rfl, ?_⟩) (by assumption) ?_
        rotate_left
        · intro w hSw; (try dsimp only at hSw); go_simp; (try with_reducible rfl)
        (try simp only [List.getElem_toArray, List.getElem_cons_succ, List.getElem_cons_zero, Act.put, List.setIfInBounds_toArray, List.set_cons_zero, List.set_cons_succ])
        refine wpAnyH_take (i := 20) (v := ?_) rfl (by kernel_rfl) (by kernel_rfl) (by kernel_rfl) (fun _ _ _ h => h) (Or.inl ⟨by rfl, ?_⟩) (by assumption) ?_
        rotate_left
        · intro w hSw; (try dsimp only at hSw); go_simp; (try with_reducible rfl)
        (try simp only [List.getElem_toArray, List.getElem_cons_succ, List.getElem_cons_zero, Act.put, List.setIfInBounds_toArray, List.set_cons_zero, List.set_cons_succ])
        refine wpAnyH_take (i := 21) (v := ?_) rfl (by kernel_rfl) (by kernel_rfl) (by kernel_rfl) (fun _ _ _ h => h) (Or.inl ⟨by rfl, ?_⟩) (by assumption) ?_
        rotate_left
        · intro w hSw; (try dsimp only at hSw); go_simp; (try with_reducible rfl)
        (try simp only [List.getElem_toArray, List.getElem_cons_succ, List.getElem_cons_zero, Act.put, List.setIfInBounds_toArray, List.set_cons_zero, List.set_cons_succ])
        refine wpAnyH_take (i := 22) (v := ?_) rfl (by kernel_rfl) (by kernel_rfl) (by kernel_rfl) (fun _ _ _ h => h) (Or.inl ⟨by rfl, ?_⟩) (by assumption) ?_
        rotate_left
        · intro w hSw; (try dsimp only at hSw); go_simp; (try with_reducible rfl)
        (try simp only [List.getElem_toArray, List.getElem_cons_succ, List.getElem_cons_zero, Act.put, List.setIfInBounds_toArray, List.set_cons_zero, List.set_cons_succ])
        refine wpAnyH_take (i := 23) (v := ?_) rfl (by kernel_rfl) (by kernel_rfl) (by kernel_rfl) (fun _ _ _ h => h) (Or.inl ⟨by rfl, ?_⟩) (by assumption) ?_
        rotate_left
        · intro w hSw; (try dsimp only at hSw); go_simp; (try with_reducible rfl)
        (try simp only [List.getElem_toArray, List.getElem_cons_succ, List.getElem_cons_zero, Act.put, List.setIfInBounds_toArray, List.set_cons_zero, List.set_cons_succ])
        refine wpAnyH_take (i := 24) (v := ?_) rfl (by kernel_rfl) (by kernel_rfl) (by kernel_rfl) (fun _ _ _ h => h) (Or.inl ⟨by rfl, ?_⟩) (by assumption) ?_
        rotate_left
        · intro w hSw; (try dsimp only at hSw); go_simp; (try with_reducible rfl)
        (try simp only [List.getElem_toArray, List.getElem_cons_succ, List.getElem_cons_zero, Act.put, List.setIfInBounds_toArray, List.set_cons_zero, List.set_cons_succ])
        refine wpAnyH_take (i := 25) (v := ?_) rfl (by kernel_rfl) (by kernel_rfl) (by kernel_rfl) (fun _ _ _ h => h) (Or.inl ⟨by rfl, ?_⟩) (by assumption) ?_
        rotate_left
        · intro w hSw; (try dsimp only at hSw); go_simp; (try with_reducible rfl)
        (try simp only [List.getElem_toArray, List.getElem_cons_succ, List.getElem_cons_zero, Act.put, List.setIfInBounds_toArray, List.set_cons_zero, List.set_cons_succ])
        refine wpAnyH_take (i := 26) (v := ?_) rfl (by kernel_rfl) (by kernel_rfl) (by kernel_rfl) (fun _ _ _ h => h) (Or.inl ⟨by rfl, ?_⟩) (by assumption) ?_
        rotate_left
        · intro w hSw; (try dsimp only at hSw); go_simp; (try with_reducible rfl)
        (try simp only [List.getElem_toArray, List.getElem_cons_succ, List.getElem_cons_zero, Act.put, List.setIfInBounds_toArray, List.set_cons_zero, List.set_cons_succ])
        refine wpAnyH_take (i := 27) (v := ?_) rfl (by kernel_rfl) (by kernel_rfl) (by kernel_rfl) (fun _ _ _ h => h) (Or.inl ⟨by rfl, ?_⟩) (by assumption) ?_
        rotate_left
        · intro w hSw; (try dsimp only at hSw); go_simp; (try with_reducible rfl)
        (try simp only [List.getElem_toArray, List.getElem_cons_succ, List.getElem_cons_zero, Act.put, List.setIfInBounds_toArray, List.set_cons_zero, List.set_cons_succ])
        refine wpAnyH_take (i := 28) (v := ?_) rfl (by kernel_rfl) (by kernel_rfl) (by kernel_rfl) (fun _ _ _ h => h) (Or.inl ⟨by rfl, ?_⟩) (by assumption) ?_
        rotate_left
        · intro w hSw; (try dsimp only at hSw); go_simp; (try with_reducible rfl)
        (try simp only [List.getElem_toArray, List.getElem_cons_succ, List.getElem_cons_zero, Act.put, List.setIfInBounds_toArray, List.set_cons_zero, List.set_cons_succ])
        refine wpAnyH_take (i := 29) (v := .agg x.op.arr) rfl (by kernel_rfl) (by kernel_rfl) (by kernel_rfl) (fun _ _ _ h => h) (yieldsIf_load_mid (by rfl) tOpD _ rfl b1 (o1 + k * 24 + 2) (by rfl) x.op.arr.toList _ (fun w h => hq1H.out w h.1) Try.underlying36 rfl infoOpD) (by assumption) ?_
        (try simp only [List.getElem_toArray, List.getElem_cons_succ, List.getElem_cons_zero, Act.put, List.setIfInBounds_toArray, List.set_cons_zero, List.set_cons_succ])
        refine wpAnyH_take (i := 30) (v := ?_) rfl (by kernel_rfl) (by kernel_rfl) (by kernel_rfl) (fun _ _ _ h => h) (Or.inl ⟨by rfl, ?_⟩) (by assumption) ?_
        rotate_left
        · intro w hSw; (try dsimp only at hSw); go_simp; (try with_reducible rfl)
        (try simp only [List.getElem_toArray, List.getElem_cons_succ, List.getElem_cons_zero, Act.put, List.setIfInBounds_toArray, List.set_cons_zero, List.set_cons_succ])
        refine wpAnyH_take (i := 31) (v := ?_) rfl (by kernel_rfl) (by kernel_rfl) (by kernel_rfl) (fun _ _ _ h => h) (Or.inl ⟨by rfl, ?_⟩) (by assumption) ?_
        rotate_left
        · intro w hSw; (try dsimp only at hSw); go_simp; (try with_reducible rfl)
        (try simp only [List.getElem_toArray, List.getElem_cons_succ, List.getElem_cons_zero, Act.put, List.setIfInBounds_toArray, List.set_cons_zero, List.set_cons_succ])
        refine wpAnyH_take (i := 32) (v := ?_) rfl (by kernel_rfl) (by kernel_rfl) (by kernel_rfl) (fun _ _ _ h => h) (Or.inl ⟨by rfl, ?_⟩) (by assumption) ?_
        rotate_left
        · intro w hSw; (try dsimp only at hSw); go_simp; (try with_reducible rfl)
        (try simp only [List.getElem_toArray, List.getElem_cons_succ, List.getElem_cons_zero, Act.put, List.setIfInBounds_toArray, List.set_cons_zero, List.set_cons_succ])
        refine wpAnyH_take (i := 33) (v := ?_) rfl (by kernel_rfl) (by kernel_rfl) (by kernel_rfl) (fun _ _ _ h => h) (Or.inl ⟨by rfl, ?_⟩) (by assumption) ?_
        rotate_left
        · intro w hSw; (try dsimp only at hSw); go_simp; (try with_reducible rfl)
        (try simp only [List.getElem_toArray, List.getElem_cons_succ, List.getElem_cons_zero, Act.put, List.setIfInBounds_toArray, List.set_cons_zero, List.set_cons_succ])
        refine wpAnyH_take (i := 34) (v := .agg (arrB x.op ad cp)) rfl (by kernel_rfl) (by kernel_rfl) (by kernel_rfl) (fun _ _ _ h => h) (yieldsIf_load_mid (by rfl) tOpD _ rfl b2 (o2 + k * 24 + 2) (by rfl) (arrB x.op ad cp).toList _ (fun w h => hq2H.out w h.1) Try.underlying36 rfl infoOpD) (by assumption) ?_
        (try simp only [List.getElem_toArray, List.getElem_cons_succ, List.getElem_cons_zero, Act.put, List.setIfInBounds_toArray, List.set_cons_zero, List.set_cons_succ])
        refine wpAnyH_ready (rs := [35]) (by kernel_rfl) (by simp) ?_
        refine AllReadyH.cons rfl (fun K hK => ?_) AllReadyH.nil
        go_simp
        go_at_call 6
        refine (hsoH.out _ (Below.refl _ _).drew).mono ?_
        rintro e w9 ⟨rfl, hB9⟩
        have hB10 := ((Below.refl wr.heap.size wr).drew).then (Nat.le_refl _) hB9
        refine hK.out _ _ (by (try dsimp only); exact hmkH.out _ hB10) (fun hHeld => ?_)
        clear hK K
        (try simp only [List.getElem_toArray, List.getElem_cons_succ, List.getElem_cons_zero, Act.put, List.setIfInBounds_toArray, List.set_cons_zero, List.set_cons_succ])
        refine wpAnyH_take (i := 36) (v := ?_) rfl (by kernel_rfl) (by kernel_rfl) (by kernel_rfl) (fun _ _ _ h => h) (Or.inl ⟨by rfl, ?_⟩) (by assumption) ?_
        rotate_left
        · intro w hSw; (try dsimp only at hSw); go_simp; (try with_reducible rfl)
        (try simp only [List.getElem_toArray, List.getElem_cons_succ, List.getElem_cons_zero, Act.put, List.setIfInBounds_toArray, List.set_cons_zero, List.set_cons_succ])
        refine wpAnyH_take (i := 37) (v := ?_) rfl (by kernel_rfl) (by kernel_rfl) (by kernel_rfl) (fun _ _ _ h => h) (Or.inl ⟨by rfl, ?_⟩) (by assumption) ?_
        rotate_left
        · intro w hSw; (try dsimp only at hSw); go_simp; (try with_reducible rfl)
        (try simp only [List.getElem_toArray, List.getElem_cons_succ, List.getElem_cons_zero, Act.put, List.setIfInBounds_toArray, List.set_cons_zero, List.set_cons_succ])
        refine wpAnyH_done (by kernel_rfl) ?_ _
        have hBn := Lib.hid (hBe.out.then (Nat.le_refl _) hB10)
        clear hB9 hB10 hHeld
        go_wp2_with fail
        go_roundw
        case rel => exact ⟨k + 1, by omega, by go_num, hBn⟩
        case measure => simp [intOf]; omega
      · obtain rfl : Ns.length = k := by omega
        go_wp2
        go_ret
        exact ⟨rfl, hB.out.then (Nat.le_refl _) hBe.out⟩
end Go.Proofs.Ytinlahahbhpppaa.lawScriptDecodes
