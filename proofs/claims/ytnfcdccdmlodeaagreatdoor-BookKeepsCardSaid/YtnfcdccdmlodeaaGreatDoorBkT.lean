/- Merged out of SamePs BookV BookK. -/
import Derived.Test.YtnfcdccdmlodeaaGreatDoorPass
import Derived.Deep.QuietTactic
import Derived.BigQuiet
import Derived.Test.YtnfcdccdmlodeaaGreatDoorBkM
import Derived.Test.YtnfcdccdmlodeaaGreatDoorFound
import Derived.OpenShut
/- The statements' samePasses at two equal lists. -/
namespace Go.Proofs.YtnfcdccdmlodeaaGreatDoor
open Go.ChangeShapes Go.WideShapes Go.ChangeAt Go.RowKit Go.WideElems Go.Deep
set_option maxRecDepth 100000 in
set_option maxHeartbeats 2000000 in
theorem samePs (a b : Option Addr) (ca cb : Nat) (l : List Pass) (w : World) (hA : PassAt w a l) (hB : PassAt w b l) (hl : l.length ≤ 1048576) :
    Calls Tryz.prog 12 #[.slice a l.length ca, .slice b l.length cb] w fun e w' => e = .returned (.bool true) ∧ Below w.heap.size w w' := by
  go_enter Tryz.func12, Tryz.ntmps12
  go_wp2
  go_loopw [5] (fun i wr => ∃ k : Nat, k ≤ l.length ∧ i = .int .i64 k ∧ Hid (Below w.heap.size w wr)) (fun i _ => l.length - (intOf i).toNat)
  case atStart => exact ⟨0, Nat.zero_le _, rfl, Lib.hid (Below.refl _ _)⟩
  case round =>
    obtain ⟨k, hk, rfl, hBr⟩ := hrel
    by_cases hlt : k < l.length
    · obtain ⟨b1, o1, rfl, hc⟩ := (hA.later hBr.out) k hlt
      obtain ⟨b2, o2, rfl, hd⟩ := (hB.later hBr.out) k hlt
      generalize l[k] = x at hc hd
      obtain ⟨⟨s1, h1, p1⟩, ⟨s2, h2, p2⟩, path, query, creds, m, h, u⟩ := x
      have c0 : wr.cell? ⟨b1, o1 + k * 12, none⟩ = some (.bool s1) := hc 0 _ rfl
      have c1 : wr.cell? ⟨b1, o1 + k * 12 + 1, none⟩ = some (.string h1) := hc 1 _ rfl
      have c2 : wr.cell? ⟨b1, o1 + k * 12 + 2, none⟩ = some (.int .i64 p1) := hc 2 _ rfl
      have c3 : wr.cell? ⟨b1, o1 + k * 12 + 3, none⟩ = some (.bool s2) := hc 3 _ rfl
      have c4 : wr.cell? ⟨b1, o1 + k * 12 + 4, none⟩ = some (.string h2) := hc 4 _ rfl
      have c5 : wr.cell? ⟨b1, o1 + k * 12 + 5, none⟩ = some (.int .i64 p2) := hc 5 _ rfl
      have c6 : wr.cell? ⟨b1, o1 + k * 12 + 6, none⟩ = some (.string path) := hc 6 _ rfl
      have c7 : wr.cell? ⟨b1, o1 + k * 12 + 7, none⟩ = some (.string query) := hc 7 _ rfl
      have c8 : wr.cell? ⟨b1, o1 + k * 12 + 8, none⟩ = some (.bool creds) := hc 8 _ rfl
      have c9 : wr.cell? ⟨b1, o1 + k * 12 + 9, none⟩ = some (.string m) := hc 9 _ rfl
      have c10 : wr.cell? ⟨b1, o1 + k * 12 + 10, none⟩ = some (.string h) := hc 10 _ rfl
      have c11 : wr.cell? ⟨b1, o1 + k * 12 + 11, none⟩ = some (.int .i64 u) := hc 11 _ rfl
      have d0 : wr.cell? ⟨b2, o2 + k * 12, none⟩ = some (.bool s1) := hd 0 _ rfl
      have d1 : wr.cell? ⟨b2, o2 + k * 12 + 1, none⟩ = some (.string h1) := hd 1 _ rfl
      have d2 : wr.cell? ⟨b2, o2 + k * 12 + 2, none⟩ = some (.int .i64 p1) := hd 2 _ rfl
      have d3 : wr.cell? ⟨b2, o2 + k * 12 + 3, none⟩ = some (.bool s2) := hd 3 _ rfl
      have d4 : wr.cell? ⟨b2, o2 + k * 12 + 4, none⟩ = some (.string h2) := hd 4 _ rfl
      have d5 : wr.cell? ⟨b2, o2 + k * 12 + 5, none⟩ = some (.int .i64 p2) := hd 5 _ rfl
      have d6 : wr.cell? ⟨b2, o2 + k * 12 + 6, none⟩ = some (.string path) := hd 6 _ rfl
      have d7 : wr.cell? ⟨b2, o2 + k * 12 + 7, none⟩ = some (.string query) := hd 7 _ rfl
      have d8 : wr.cell? ⟨b2, o2 + k * 12 + 8, none⟩ = some (.bool creds) := hd 8 _ rfl
      have d9 : wr.cell? ⟨b2, o2 + k * 12 + 9, none⟩ = some (.string m) := hd 9 _ rfl
      have d10 : wr.cell? ⟨b2, o2 + k * 12 + 10, none⟩ = some (.string h) := hd 10 _ rfl
      have d11 : wr.cell? ⟨b2, o2 + k * 12 + 11, none⟩ = some (.int .i64 u) := hd 11 _ rfl
      clear hc hd hA hB
      go_wp2_with fail
      go_quiet (fail)
      go_wp2
      go_roundw
      case rel => exact ⟨k + 1, by omega, by go_num, Lib.hid (below_drewN hBr.out _)⟩
      case measure => simp [intOf]; omega
    · obtain rfl : l.length = k := by omega
      go_wp2
      go_ret
      exact ⟨rfl, hBr.out⟩
end Go.Proofs.YtnfcdccdmlodeaaGreatDoor
/- Whether a book covers a request: both sides. -/
namespace Go.Proofs.YtnfcdccdmlodeaaGreatDoor
set_option linter.unusedSimpArgs false
open Go.RowKit Go.Deep
theorem yields_eql {P : Program} {ops : Array Oper} {S : World → Prop} {o : Oper} {a : Act} (hw : Region.wanted o (yielded ops a.tmps) = true) (bo : BinOp) (T T' : TypeId) (x y : Operand) (hop : o.op = Op.binOp bo T x y T') (xs ys : Array Value) (hx : a.eval x = .agg xs) (hy : a.eval y = .agg ys) (hd : P.eqGuardType P.depth T = false) (v : Value) (hr : ∀ w, (binOp bo T (.agg xs) (.agg ys)).run P w = .ok v w) : YieldsIf P ops S o v a :=
  .inl ⟨hw, fun w _ => by simp [execOp, hop, hx, hy, run_eqGuard_agg, hd, hr, Result.andThen]⟩
theorem req_r1 {w : World} {q : Nat} {r : Req} (h : Blk w q r.arr tReq) : w.rangeAt q 1 [.bool r.orig.sec, .string r.orig.host, .int .i64 r.orig.port] := fun j v hv => by
  match j, hv with
  | 0, hv => cases hv; exact h.cell 1 rfl
  | 1, hv => cases hv; exact h.cell 2 rfl
  | 2, hv => cases hv; exact h.cell 3 rfl
theorem req_r4 {w : World} {q : Nat} {r : Req} (h : Blk w q r.arr tReq) : w.rangeAt q 4 [.bool r.dest.sec, .string r.dest.host, .int .i64 r.dest.port] := fun j v hv => by
  match j, hv with
  | 0, hv => cases hv; exact h.cell 4 rfl
  | 1, hv => cases hv; exact h.cell 5 rfl
  | 2, hv => cases hv; exact h.cell 6 rfl
theorem forPost_ok {w w' : World} {l : List Pass} {v : Value} (h : OwnG tPass 12 encPass w' w.heap.size v l) : ∃ a cap, v = .slice a l.length cap ∧ PassAt w' a l := by
  obtain ⟨a, cap, e, hr, _⟩ := OwnG.shape encPass_len h
  exact ⟨a, cap, e, hr⟩
set_option maxRecDepth 100000 in
set_option maxHeartbeats 4000000 in
theorem bookCoversP (b : Nat) (S : Nat → Prop) (bk : List Pass) (r : Req) (now : Int) (w : World) (hB : BookR w b S bk) (hl : bk.length ≤ 100000) (hM : MaxL w) (hO : r.Ok w) (hl2 : r.heads.length ≤ 1000) (hz : ∀ p ∈ r.heads, p.1.size ≤ 1000 ∧ p.2.size ≤ 1000) :
    Calls Tryz.prog 16 #[.pointer (some ⟨b, 0, none⟩), .agg r.arr, .int .i64 now] w fun e w' => e = .returned (.bool (coversV r now bk)) ∧ Below w.heap.size w w' := by
  have hal := (Below.refl w.heap.size w).alloc (Nat.le_refl _) (.cells r.arr tReq)
  have hq0 := Blk.new w r.arr tReq
  obtain ⟨w1, hw1⟩ : ∃ w1, w1 = w.alloc (.cells r.arr tReq) := ⟨_, rfl⟩
  have halw := hal
  rw [← hw1] at hal hq0
  have hne := fun w' (h : Below w1.heap.size w1 w') => corsNeeds r w' ((hM.later hal).later h) ((hO.later hal).later h) hl2 hz
  have hfo := fun w' (h : Below w1.heap.size w1 w') => bookForP b S bk r now w' ((hB.later hal).later h) hl
  have hco := fun w' (h : Below w1.heap.size w1 w') a cap (hP : PassAt w' a (bookFor r now bk)) => corsCovers r a cap (bookFor r now bk) w' ((hM.later hal).later h) ((hO.later hal).later h) hP hl2 hz (Nat.le_trans (List.length_filter_le _ _) (Nat.le_trans hl (by decide)))
  have hmk : ∀ w', Below w1.heap.size w1 w' → Below w1.heap.size w1 w' ∧ Blk w' w.heap.size r.arr tReq := fun w' h => ⟨h, hq0.later h⟩
  have halH := Lib.hid hal
  have hwB : Below w1.heap.size w1 w1.drew := (Below.refl _ _).drew
  have hv : coversV r now bk = (!needV r || covV r (bookFor r now bk)) := rfl
  clear hB hM hO hz hal halw hq0
  obtain ⟨nd, hnd⟩ : ∃ nd, needV r = nd := ⟨_, rfl⟩
  simp only [hnd] at hne hv
  clear hnd
  cases nd
  · have hres := Lib.hid (show coversV r now bk = true from by rw [hv]; rfl)
    clear hv
    go_enter Tryz.func16, Tryz.ntmps16
    go_upto_region 1 with (fail)
    rw [← hw1]; clear hw1
    refine wp_region_held_drew (S := fun w' => Below w1.heap.size w1 w' ∧ Blk w' w.heap.size r.arr tReq) (by kernel_rfl) (by (try dsimp only); exact hmk _ hwB) (fun hHeld => ?_)
    refine wpAnyH_take (i := 0) (v := .agg r.arr) rfl (by kernel_rfl) (by kernel_rfl) (by kernel_rfl) (fun _ _ _ h => h) (yieldsIf_load_mid (by rfl) tReq _ rfl w.heap.size 0 (by rfl) r.arr.toList _ (fun w h => h.2.range) Tryz.underlying34 rfl infoReqG) (by assumption) ?_
    (try simp only [List.getElem_toArray, List.getElem_cons_succ, List.getElem_cons_zero, Act.put, List.setIfInBounds_toArray, List.set_cons_zero, List.set_cons_succ])
    refine wpAnyH_ready (rs := [1]) (by kernel_rfl) (by simp) ?_
    refine AllReadyH.cons rfl (fun K hK => ?_) AllReadyH.nil
    go_simp
    go_at_call 41
    refine (hne _ hwB).mono ?_
    rintro e w2 ⟨rfl, hB9⟩
    have hB2 : Below w1.heap.size w1 w2 := hwB.then (Nat.le_refl _) hB9
    refine hK.out _ _ (by (try dsimp only); exact hmk _ hB2) (fun hHeld => ?_)
    clear hK K
    (try simp only [List.getElem_toArray, List.getElem_cons_succ, List.getElem_cons_zero, Act.put, List.setIfInBounds_toArray, List.set_cons_zero, List.set_cons_succ])
    refine wpAnyH_take (i := 2) (v := ?_) rfl (by kernel_rfl) (by kernel_rfl) (by kernel_rfl) (fun _ _ _ h => h) (Or.inl ⟨by rfl, ?_⟩) (by assumption) ?_
    rotate_left
    · intro w hSw; (try dsimp only at hSw); go_simp; (try with_reducible rfl)
    (try simp only [List.getElem_toArray, List.getElem_cons_succ, List.getElem_cons_zero, Act.put, List.setIfInBounds_toArray, List.set_cons_zero, List.set_cons_succ])
    refine wpAnyH_take (i := 3) (v := ?_) rfl (by kernel_rfl) (by kernel_rfl) (by kernel_rfl) (fun _ _ _ h => h) (Or.inl ⟨by rfl, ?_⟩) (by assumption) ?_
    rotate_left
    · intro w hSw; (try dsimp only at hSw); go_simp; (try with_reducible rfl)
    (try simp only [List.getElem_toArray, List.getElem_cons_succ, List.getElem_cons_zero, Act.put, List.setIfInBounds_toArray, List.set_cons_zero, List.set_cons_succ])
    refine wpAnyH_take (i := 4) (v := undef) rfl (by kernel_rfl) (by kernel_rfl) (by kernel_rfl) (fun _ _ _ h => h) (Or.inr ⟨by rfl, rfl⟩) (by assumption) ?_
    (try simp only [List.getElem_toArray, List.getElem_cons_succ, List.getElem_cons_zero, Act.put, List.setIfInBounds_toArray, List.set_cons_zero, List.set_cons_succ])
    refine wpAnyH_take (i := 5) (v := undef) rfl (by kernel_rfl) (by kernel_rfl) (by kernel_rfl) (fun _ _ _ h => h) (Or.inr ⟨by rfl, rfl⟩) (by assumption) ?_
    (try simp only [List.getElem_toArray, List.getElem_cons_succ, List.getElem_cons_zero, Act.put, List.setIfInBounds_toArray, List.set_cons_zero, List.set_cons_succ])
    refine wpAnyH_take (i := 6) (v := undef) rfl (by kernel_rfl) (by kernel_rfl) (by kernel_rfl) (fun _ _ _ h => h) (Or.inr ⟨by rfl, rfl⟩) (by assumption) ?_
    (try simp only [List.getElem_toArray, List.getElem_cons_succ, List.getElem_cons_zero, Act.put, List.setIfInBounds_toArray, List.set_cons_zero, List.set_cons_succ])
    refine wpAnyH_take (i := 7) (v := undef) rfl (by kernel_rfl) (by kernel_rfl) (by kernel_rfl) (fun _ _ _ h => h) (Or.inr ⟨by rfl, rfl⟩) (by assumption) ?_
    (try simp only [List.getElem_toArray, List.getElem_cons_succ, List.getElem_cons_zero, Act.put, List.setIfInBounds_toArray, List.set_cons_zero, List.set_cons_succ])
    refine wpAnyH_take (i := 8) (v := undef) rfl (by kernel_rfl) (by kernel_rfl) (by kernel_rfl) (fun _ _ _ h => h) (Or.inr ⟨by rfl, rfl⟩) (by assumption) ?_
    (try simp only [List.getElem_toArray, List.getElem_cons_succ, List.getElem_cons_zero, Act.put, List.setIfInBounds_toArray, List.set_cons_zero, List.set_cons_succ])
    refine wpAnyH_take (i := 9) (v := undef) rfl (by kernel_rfl) (by kernel_rfl) (by kernel_rfl) (fun _ _ _ h => h) (Or.inr ⟨by rfl, rfl⟩) (by assumption) ?_
    (try simp only [List.getElem_toArray, List.getElem_cons_succ, List.getElem_cons_zero, Act.put, List.setIfInBounds_toArray, List.set_cons_zero, List.set_cons_succ])
    refine wpAnyH_take (i := 10) (v := ?_) rfl (by kernel_rfl) (by kernel_rfl) (by kernel_rfl) (fun _ _ _ h => h) (Or.inl ⟨by rfl, ?_⟩) (by assumption) ?_
    rotate_left
    · intro w hSw; (try dsimp only at hSw); go_simp; (try with_reducible rfl)
    (try simp only [List.getElem_toArray, List.getElem_cons_succ, List.getElem_cons_zero, Act.put, List.setIfInBounds_toArray, List.set_cons_zero, List.set_cons_succ])
    refine wpAnyH_take (i := 11) (v := ?_) rfl (by kernel_rfl) (by kernel_rfl) (by kernel_rfl) (fun _ _ _ h => h) (Or.inl ⟨by rfl, ?_⟩) (by assumption) ?_
    rotate_left
    · intro w hSw; (try dsimp only at hSw); go_simp; (try with_reducible rfl)
    (try simp only [List.getElem_toArray, List.getElem_cons_succ, List.getElem_cons_zero, Act.put, List.setIfInBounds_toArray, List.set_cons_zero, List.set_cons_succ])
    refine wpAnyH_done (by kernel_rfl) ?_ _
    have hfin := Lib.hid (halH.out.then (Nat.le_refl _) hB2)
    clear hB2 hwB hmk
    go_wp2
    go_ret
    exact ⟨ret_bool hres.out.symm, hfin.out⟩
  · have hres := Lib.hid (show coversV r now bk = covV r (bookFor r now bk) from by rw [hv]; rfl)
    clear hv
    generalize covV r (bookFor r now bk) = cv at hco hres
    generalize bookFor r now bk = bf at hfo hco
    go_enter Tryz.func16, Tryz.ntmps16
    go_upto_region 1 with (fail)
    rw [← hw1]; clear hw1
    refine wp_region_held_drew (S := fun w' => Below w1.heap.size w1 w' ∧ Blk w' w.heap.size r.arr tReq) (by kernel_rfl) (by (try dsimp only); exact hmk _ hwB) (fun hHeld => ?_)
    refine wpAnyH_take (i := 0) (v := .agg r.arr) rfl (by kernel_rfl) (by kernel_rfl) (by kernel_rfl) (fun _ _ _ h => h) (yieldsIf_load_mid (by rfl) tReq _ rfl w.heap.size 0 (by rfl) r.arr.toList _ (fun w h => h.2.range) Tryz.underlying34 rfl infoReqG) (by assumption) ?_
    (try simp only [List.getElem_toArray, List.getElem_cons_succ, List.getElem_cons_zero, Act.put, List.setIfInBounds_toArray, List.set_cons_zero, List.set_cons_succ])
    refine wpAnyH_ready (rs := [1]) (by kernel_rfl) (by simp) ?_
    refine AllReadyH.cons rfl (fun K hK => ?_) AllReadyH.nil
    go_simp
    go_at_call 41
    refine (hne _ hwB).mono ?_
    rintro e w2 ⟨rfl, hB9⟩
    have hB2 : Below w1.heap.size w1 w2 := hwB.then (Nat.le_refl _) hB9
    refine hK.out _ _ (by (try dsimp only); exact hmk _ hB2) (fun hHeld => ?_)
    clear hK K
    (try simp only [List.getElem_toArray, List.getElem_cons_succ, List.getElem_cons_zero, Act.put, List.setIfInBounds_toArray, List.set_cons_zero, List.set_cons_succ])
    refine wpAnyH_take (i := 2) (v := ?_) rfl (by kernel_rfl) (by kernel_rfl) (by kernel_rfl) (fun _ _ _ h => h) (Or.inl ⟨by rfl, ?_⟩) (by assumption) ?_
    rotate_left
    · intro w hSw; (try dsimp only at hSw); go_simp; (try with_reducible rfl)
    (try simp only [List.getElem_toArray, List.getElem_cons_succ, List.getElem_cons_zero, Act.put, List.setIfInBounds_toArray, List.set_cons_zero, List.set_cons_succ])
    refine wpAnyH_take (i := 3) (v := ?_) rfl (by kernel_rfl) (by kernel_rfl) (by kernel_rfl) (fun _ _ _ h => h) (Or.inl ⟨by rfl, ?_⟩) (by assumption) ?_
    rotate_left
    · intro w hSw; (try dsimp only at hSw); go_simp; (try with_reducible rfl)
    (try simp only [List.getElem_toArray, List.getElem_cons_succ, List.getElem_cons_zero, Act.put, List.setIfInBounds_toArray, List.set_cons_zero, List.set_cons_succ])
    refine wpAnyH_take (i := 4) (v := .agg r.arr) rfl (by kernel_rfl) (by kernel_rfl) (by kernel_rfl) (fun _ _ _ h => h) (yieldsIf_load_mid (by rfl) tReq _ rfl w.heap.size 0 (by rfl) r.arr.toList _ (fun w h => h.2.range) Tryz.underlying34 rfl infoReqG) (by assumption) ?_
    (try simp only [List.getElem_toArray, List.getElem_cons_succ, List.getElem_cons_zero, Act.put, List.setIfInBounds_toArray, List.set_cons_zero, List.set_cons_succ])
    refine wpAnyH_take (i := 5) (v := ?_) rfl (by kernel_rfl) (by kernel_rfl) (by kernel_rfl) (fun _ _ _ h => h) (Or.inl ⟨by rfl, ?_⟩) (by assumption) ?_
    rotate_left
    · intro w hSw; (try dsimp only at hSw); go_simp; (try with_reducible rfl)
    (try simp only [List.getElem_toArray, List.getElem_cons_succ, List.getElem_cons_zero, Act.put, List.setIfInBounds_toArray, List.set_cons_zero, List.set_cons_succ])
    refine wpAnyH_take (i := 6) (v := .agg r.arr) rfl (by kernel_rfl) (by kernel_rfl) (by kernel_rfl) (fun _ _ _ h => h) (yieldsIf_load_mid (by rfl) tReq _ rfl w.heap.size 0 (by rfl) r.arr.toList _ (fun w h => h.2.range) Tryz.underlying34 rfl infoReqG) (by assumption) ?_
    (try simp only [List.getElem_toArray, List.getElem_cons_succ, List.getElem_cons_zero, Act.put, List.setIfInBounds_toArray, List.set_cons_zero, List.set_cons_succ])
    refine wpAnyH_take (i := 7) (v := ?_) rfl (by kernel_rfl) (by kernel_rfl) (by kernel_rfl) (fun _ _ _ h => h) (Or.inl ⟨by rfl, ?_⟩) (by assumption) ?_
    rotate_left
    · intro w hSw; (try dsimp only at hSw); go_simp; (try with_reducible rfl)
    (try simp only [List.getElem_toArray, List.getElem_cons_succ, List.getElem_cons_zero, Act.put, List.setIfInBounds_toArray, List.set_cons_zero, List.set_cons_succ])
    refine wpAnyH_ready (rs := [8]) (by kernel_rfl) (by simp) ?_
    refine AllReadyH.cons rfl (fun K hK => ?_) AllReadyH.nil
    go_simp
    go_at_call 14
    refine (hfo _ hB2).mono ?_
    rintro e w3 ⟨⟨v3, rfl, hO3⟩, hB9⟩
    have hB3 : Below w1.heap.size w1 w3 := hB2.then (Nat.le_refl _) hB9
    obtain ⟨a3, c3, rfl, hP3⟩ := forPost_ok hO3
    refine hK.out _ _ (by (try dsimp only); exact hmk _ hB3) (fun hHeld => ?_)
    clear hK K
    (try simp only [List.getElem_toArray, List.getElem_cons_succ, List.getElem_cons_zero, Act.put, List.setIfInBounds_toArray, List.set_cons_zero, List.set_cons_succ])
    refine wpAnyH_ready (rs := [9]) (by kernel_rfl) (by simp) ?_
    refine AllReadyH.cons rfl (fun K hK => ?_) AllReadyH.nil
    go_simp
    go_at_call 42
    refine (hco _ hB3 a3 c3 hP3).mono ?_
    rintro e w4 ⟨rfl, hB9⟩
    have hB4 : Below w1.heap.size w1 w4 := hB3.then (Nat.le_refl _) hB9
    refine hK.out _ _ (by (try dsimp only); exact hmk _ hB4) (fun hHeld => ?_)
    clear hK K
    (try simp only [List.getElem_toArray, List.getElem_cons_succ, List.getElem_cons_zero, Act.put, List.setIfInBounds_toArray, List.set_cons_zero, List.set_cons_succ])
    refine wpAnyH_take (i := 10) (v := ?_) rfl (by kernel_rfl) (by kernel_rfl) (by kernel_rfl) (fun _ _ _ h => h) (Or.inl ⟨by rfl, ?_⟩) (by assumption) ?_
    rotate_left
    · intro w hSw; (try dsimp only at hSw); go_simp; (try with_reducible rfl)
    (try simp only [List.getElem_toArray, List.getElem_cons_succ, List.getElem_cons_zero, Act.put, List.setIfInBounds_toArray, List.set_cons_zero, List.set_cons_succ])
    refine wpAnyH_take (i := 11) (v := ?_) rfl (by kernel_rfl) (by kernel_rfl) (by kernel_rfl) (fun _ _ _ h => h) (Or.inl ⟨by rfl, ?_⟩) (by assumption) ?_
    rotate_left
    · intro w hSw; (try dsimp only at hSw); go_simp; (try with_reducible rfl)
    (try simp only [List.getElem_toArray, List.getElem_cons_succ, List.getElem_cons_zero, Act.put, List.setIfInBounds_toArray, List.set_cons_zero, List.set_cons_succ])
    refine wpAnyH_done (by kernel_rfl) ?_ _
    have hfin := Lib.hid (halH.out.then (Nat.le_refl _) hB4)
    clear hB4 hwB hmk
    go_wp2
    go_ret
    exact ⟨ret_bool hres.out.symm, hfin.out⟩
theorem infoOrgV : (Tryz.prog.info? 29).map (·.size) = some 3 := by kernel_rfl
set_option maxRecDepth 100000 in
set_option maxHeartbeats 4000000 in
theorem refBookCovers (a : Option Addr) (cap : Nat) (bk : List Pass) (r : Req) (now : Int) (w : World) (hP : PassAt w a bk) (hok : ∀ p ∈ bk, p.Ok) (hl : bk.length ≤ 100000) (hM : MaxL w) (hO : r.Ok w) (hl2 : r.heads.length ≤ 1000) (hz : ∀ p ∈ r.heads, p.1.size ≤ 1000 ∧ p.2.size ≤ 1000) :
    Calls Tryz.prog 17 #[.slice a bk.length cap, .agg r.arr, .int .i64 now] w fun e w' => e = .returned (.bool (coversV r now bk)) ∧ Below w.heap.size w w' := by
  have hal := (Below.refl w.heap.size w).alloc (Nat.le_refl _) (.cells r.arr tReq)
  have hq0 := Blk.new w r.arr tReq
  obtain ⟨w1, hw1⟩ : ∃ w1, w1 = w.alloc (.cells r.arr tReq) := ⟨_, rfl⟩
  rw [← hw1] at hal hq0
  have hne := fun w' (h : Below w1.heap.size w1 w') => refCovers r none 0 [] w' ((hM.later hal).later h) ((hO.later hal).later h) (fun i hi => absurd hi (by simp)) (fun p hp => absurd hp (by simp)) hl2 hz (by simp)
  have hfo := fun w' (h : Below w1.heap.size w1 w') => refBookFor a cap bk r now w' ((hP.later hal).later h) hl
  have hco := fun w' (h : Below w1.heap.size w1 w') a cap (hP : PassAt w' a (bookFor r now bk)) => refCovers r a cap (bookFor r now bk) w' ((hM.later hal).later h) ((hO.later hal).later h) hP (fun p hp => hok p (List.mem_filter.1 hp).1) hl2 hz (Nat.le_trans (List.length_filter_le _ _) (Nat.le_trans hl (by decide)))
  have hmk : ∀ w', Below w1.heap.size w1 w' → Below w1.heap.size w1 w' ∧ Blk w' w.heap.size r.arr tReq := fun w' h => ⟨h, hq0.later h⟩
  have halH := Lib.hid hal
  have hwB : Below w1.heap.size w1 w1.drew := (Below.refl _ _).drew
  have h1 : ∀ w, _ = Result.ok (Value.bool (orgE r.orig r.dest)) w := fun w => org_eql r.orig r.dest w
  have hv : coversV r now bk = (!(!orgE r.orig r.dest && !covV r []) || covV r (bookFor r now bk)) := rfl
  clear hP hM hO hz hal hq0 hok
  generalize orgE r.orig r.dest = oe at h1 hv
  generalize covV r [] = c0 at hne hv
  rw [show ([] : List Pass).length = 0 from rfl] at hne
  cases oe
  · cases c0
    · have hres := Lib.hid (show coversV r now bk = covV r (bookFor r now bk) from by rw [hv]; rfl)
      clear hv
      generalize covV r (bookFor r now bk) = cv at hco hres
      generalize bookFor r now bk = bf at hfo hco
      go_enter Tryz.func17, Tryz.ntmps17
      go_upto_region 1 with (fail)
      rw [← hw1]; clear hw1
      refine wp_region_held_drew (S := fun w' => Below w1.heap.size w1 w' ∧ Blk w' w.heap.size r.arr tReq) (by kernel_rfl) (by (try dsimp only); exact hmk _ hwB) (fun hHeld => ?_)
      refine wpAnyH_take (i := 0) (v := ?_) rfl (by kernel_rfl) (by kernel_rfl) (by kernel_rfl) (fun _ _ _ h => h) (Or.inl ⟨by rfl, ?_⟩) (by assumption) ?_
      rotate_left
      · intro w hSw; (try dsimp only at hSw); go_simp; (try with_reducible rfl)
      (try simp only [List.getElem_toArray, List.getElem_cons_succ, List.getElem_cons_zero, Act.put, List.setIfInBounds_toArray, List.set_cons_zero, List.set_cons_succ])
      refine wpAnyH_take (i := 1) (v := .agg #[.bool r.orig.sec, .string r.orig.host, .int .i64 r.orig.port]) rfl (by kernel_rfl) (by kernel_rfl) (by kernel_rfl) (fun _ _ _ h => h) (yieldsIf_load_mid (by rfl) 29 _ rfl w.heap.size 1 (by rfl) [.bool r.orig.sec, .string r.orig.host, .int .i64 r.orig.port] _ (fun w h => req_r1 h.2) Tryz.underlying29 rfl infoOrgV) (by assumption) ?_
      (try simp only [List.getElem_toArray, List.getElem_cons_succ, List.getElem_cons_zero, Act.put, List.setIfInBounds_toArray, List.set_cons_zero, List.set_cons_succ])
      refine wpAnyH_take (i := 2) (v := ?_) rfl (by kernel_rfl) (by kernel_rfl) (by kernel_rfl) (fun _ _ _ h => h) (Or.inl ⟨by rfl, ?_⟩) (by assumption) ?_
      rotate_left
      · intro w hSw; (try dsimp only at hSw); go_simp; (try with_reducible rfl)
      (try simp only [List.getElem_toArray, List.getElem_cons_succ, List.getElem_cons_zero, Act.put, List.setIfInBounds_toArray, List.set_cons_zero, List.set_cons_succ])
      refine wpAnyH_take (i := 3) (v := ?_) rfl (by kernel_rfl) (by kernel_rfl) (by kernel_rfl) (fun _ _ _ h => h) (Or.inl ⟨by rfl, ?_⟩) (by assumption) ?_
      rotate_left
      · intro w hSw; (try dsimp only at hSw); go_simp; (try with_reducible rfl)
      (try simp only [List.getElem_toArray, List.getElem_cons_succ, List.getElem_cons_zero, Act.put, List.setIfInBounds_toArray, List.set_cons_zero, List.set_cons_succ])
      refine wpAnyH_take (i := 4) (v := .agg #[.bool r.dest.sec, .string r.dest.host, .int .i64 r.dest.port]) rfl (by kernel_rfl) (by kernel_rfl) (by kernel_rfl) (fun _ _ _ h => h) (yieldsIf_load_mid (by rfl) 29 _ rfl w.heap.size 4 (by rfl) [.bool r.dest.sec, .string r.dest.host, .int .i64 r.dest.port] _ (fun w h => req_r4 h.2) Tryz.underlying29 rfl infoOrgV) (by assumption) ?_
      (try simp only [List.getElem_toArray, List.getElem_cons_succ, List.getElem_cons_zero, Act.put, List.setIfInBounds_toArray, List.set_cons_zero, List.set_cons_succ])
      refine wpAnyH_take (i := 5) rfl (by kernel_rfl) (by kernel_rfl) (by kernel_rfl) (fun _ _ _ h => h) (yields_eql (by rfl) .eql 29 29 _ _ (by rfl) #[.bool r.orig.sec, .string r.orig.host, .int .i64 r.orig.port] #[.bool r.dest.sec, .string r.dest.host, .int .i64 r.dest.port] (by rfl) (by rfl) noGuardOrg _ h1) (by assumption) ?_
      (try simp only [List.getElem_toArray, List.getElem_cons_succ, List.getElem_cons_zero, Act.put, List.setIfInBounds_toArray, List.set_cons_zero, List.set_cons_succ])
      refine wpAnyH_take (i := 6) (v := ?_) rfl (by kernel_rfl) (by kernel_rfl) (by kernel_rfl) (fun _ _ _ h => h) (Or.inl ⟨by rfl, ?_⟩) (by assumption) ?_
      rotate_left
      · intro w hSw; (try dsimp only at hSw); go_simp; (try with_reducible rfl)
      (try simp only [List.getElem_toArray, List.getElem_cons_succ, List.getElem_cons_zero, Act.put, List.setIfInBounds_toArray, List.set_cons_zero, List.set_cons_succ])
      refine wpAnyH_take (i := 7) (v := .agg r.arr) rfl (by kernel_rfl) (by kernel_rfl) (by kernel_rfl) (fun _ _ _ h => h) (yieldsIf_load_mid (by rfl) tReq _ rfl w.heap.size 0 (by rfl) r.arr.toList _ (fun w h => h.2.range) Tryz.underlying34 rfl infoReqG) (by assumption) ?_
      (try simp only [List.getElem_toArray, List.getElem_cons_succ, List.getElem_cons_zero, Act.put, List.setIfInBounds_toArray, List.set_cons_zero, List.set_cons_succ])
      refine wpAnyH_ready (rs := [8]) (by kernel_rfl) (by simp) ?_
      refine AllReadyH.cons rfl (fun K hK => ?_) AllReadyH.nil
      go_simp
      go_at_call 43
      refine (hne _ hwB).mono ?_
      rintro e w2 ⟨rfl, hB9⟩
      have hB2 : Below w1.heap.size w1 w2 := hwB.then (Nat.le_refl _) hB9
      refine hK.out _ _ (by (try dsimp only); exact hmk _ hB2) (fun hHeld => ?_)
      clear hK K
      (try simp only [List.getElem_toArray, List.getElem_cons_succ, List.getElem_cons_zero, Act.put, List.setIfInBounds_toArray, List.set_cons_zero, List.set_cons_succ])
      refine wpAnyH_take (i := 9) (v := ?_) rfl (by kernel_rfl) (by kernel_rfl) (by kernel_rfl) (fun _ _ _ h => h) (Or.inl ⟨by rfl, ?_⟩) (by assumption) ?_
      rotate_left
      · intro w hSw; (try dsimp only at hSw); go_simp; (try with_reducible rfl)
      (try simp only [List.getElem_toArray, List.getElem_cons_succ, List.getElem_cons_zero, Act.put, List.setIfInBounds_toArray, List.set_cons_zero, List.set_cons_succ])
      refine wpAnyH_take (i := 10) (v := ?_) rfl (by kernel_rfl) (by kernel_rfl) (by kernel_rfl) (fun _ _ _ h => h) (Or.inl ⟨by rfl, ?_⟩) (by assumption) ?_
      rotate_left
      · intro w hSw; (try dsimp only at hSw); go_simp; (try with_reducible rfl)
      (try simp only [List.getElem_toArray, List.getElem_cons_succ, List.getElem_cons_zero, Act.put, List.setIfInBounds_toArray, List.set_cons_zero, List.set_cons_succ])
      refine wpAnyH_take (i := 11) (v := .agg r.arr) rfl (by kernel_rfl) (by kernel_rfl) (by kernel_rfl) (fun _ _ _ h => h) (yieldsIf_load_mid (by rfl) tReq _ rfl w.heap.size 0 (by rfl) r.arr.toList _ (fun w h => h.2.range) Tryz.underlying34 rfl infoReqG) (by assumption) ?_
      (try simp only [List.getElem_toArray, List.getElem_cons_succ, List.getElem_cons_zero, Act.put, List.setIfInBounds_toArray, List.set_cons_zero, List.set_cons_succ])
      refine wpAnyH_take (i := 12) (v := ?_) rfl (by kernel_rfl) (by kernel_rfl) (by kernel_rfl) (fun _ _ _ h => h) (Or.inl ⟨by rfl, ?_⟩) (by assumption) ?_
      rotate_left
      · intro w hSw; (try dsimp only at hSw); go_simp; (try with_reducible rfl)
      (try simp only [List.getElem_toArray, List.getElem_cons_succ, List.getElem_cons_zero, Act.put, List.setIfInBounds_toArray, List.set_cons_zero, List.set_cons_succ])
      refine wpAnyH_take (i := 13) (v := .agg r.arr) rfl (by kernel_rfl) (by kernel_rfl) (by kernel_rfl) (fun _ _ _ h => h) (yieldsIf_load_mid (by rfl) tReq _ rfl w.heap.size 0 (by rfl) r.arr.toList _ (fun w h => h.2.range) Tryz.underlying34 rfl infoReqG) (by assumption) ?_
      (try simp only [List.getElem_toArray, List.getElem_cons_succ, List.getElem_cons_zero, Act.put, List.setIfInBounds_toArray, List.set_cons_zero, List.set_cons_succ])
      refine wpAnyH_take (i := 14) (v := ?_) rfl (by kernel_rfl) (by kernel_rfl) (by kernel_rfl) (fun _ _ _ h => h) (Or.inl ⟨by rfl, ?_⟩) (by assumption) ?_
      rotate_left
      · intro w hSw; (try dsimp only at hSw); go_simp; (try with_reducible rfl)
      (try simp only [List.getElem_toArray, List.getElem_cons_succ, List.getElem_cons_zero, Act.put, List.setIfInBounds_toArray, List.set_cons_zero, List.set_cons_succ])
      refine wpAnyH_ready (rs := [15]) (by kernel_rfl) (by simp) ?_
      refine AllReadyH.cons rfl (fun K hK => ?_) AllReadyH.nil
      go_simp
      go_at_call 15
      refine (hfo _ hB2).mono ?_
      rintro e w3 ⟨⟨v3, rfl, hO3⟩, hB9⟩
      have hB3 : Below w1.heap.size w1 w3 := hB2.then (Nat.le_refl _) hB9
      obtain ⟨a3, c3, rfl, hP3⟩ := forPost_ok hO3
      refine hK.out _ _ (by (try dsimp only); exact hmk _ hB3) (fun hHeld => ?_)
      clear hK K
      (try simp only [List.getElem_toArray, List.getElem_cons_succ, List.getElem_cons_zero, Act.put, List.setIfInBounds_toArray, List.set_cons_zero, List.set_cons_succ])
      refine wpAnyH_ready (rs := [16]) (by kernel_rfl) (by simp) ?_
      refine AllReadyH.cons rfl (fun K hK => ?_) AllReadyH.nil
      go_simp
      go_at_call 43
      refine (hco _ hB3 a3 c3 hP3).mono ?_
      rintro e w4 ⟨rfl, hB9⟩
      have hB4 : Below w1.heap.size w1 w4 := hB3.then (Nat.le_refl _) hB9
      refine hK.out _ _ (by (try dsimp only); exact hmk _ hB4) (fun hHeld => ?_)
      clear hK K
      (try simp only [List.getElem_toArray, List.getElem_cons_succ, List.getElem_cons_zero, Act.put, List.setIfInBounds_toArray, List.set_cons_zero, List.set_cons_succ])
      refine wpAnyH_take (i := 17) (v := ?_) rfl (by kernel_rfl) (by kernel_rfl) (by kernel_rfl) (fun _ _ _ h => h) (Or.inl ⟨by rfl, ?_⟩) (by assumption) ?_
      rotate_left
      · intro w hSw; (try dsimp only at hSw); go_simp; (try with_reducible rfl)
      (try simp only [List.getElem_toArray, List.getElem_cons_succ, List.getElem_cons_zero, Act.put, List.setIfInBounds_toArray, List.set_cons_zero, List.set_cons_succ])
      refine wpAnyH_take (i := 18) (v := ?_) rfl (by kernel_rfl) (by kernel_rfl) (by kernel_rfl) (fun _ _ _ h => h) (Or.inl ⟨by rfl, ?_⟩) (by assumption) ?_
      rotate_left
      · intro w hSw; (try dsimp only at hSw); go_simp; (try with_reducible rfl)
      (try simp only [List.getElem_toArray, List.getElem_cons_succ, List.getElem_cons_zero, Act.put, List.setIfInBounds_toArray, List.set_cons_zero, List.set_cons_succ])
      refine wpAnyH_done (by kernel_rfl) ?_ _
      have hfin := Lib.hid (halH.out.then (Nat.le_refl _) hB4)
      clear hB4 hwB hmk
      go_wp2
      go_ret
      exact ⟨ret_bool hres.out.symm, hfin.out⟩
    · have hres := Lib.hid (show coversV r now bk = true from by rw [hv]; rfl)
      clear hv hfo hco
      go_enter Tryz.func17, Tryz.ntmps17
      go_upto_region 1 with (fail)
      rw [← hw1]; clear hw1
      refine wp_region_held_drew (S := fun w' => Below w1.heap.size w1 w' ∧ Blk w' w.heap.size r.arr tReq) (by kernel_rfl) (by (try dsimp only); exact hmk _ hwB) (fun hHeld => ?_)
      refine wpAnyH_take (i := 0) (v := ?_) rfl (by kernel_rfl) (by kernel_rfl) (by kernel_rfl) (fun _ _ _ h => h) (Or.inl ⟨by rfl, ?_⟩) (by assumption) ?_
      rotate_left
      · intro w hSw; (try dsimp only at hSw); go_simp; (try with_reducible rfl)
      (try simp only [List.getElem_toArray, List.getElem_cons_succ, List.getElem_cons_zero, Act.put, List.setIfInBounds_toArray, List.set_cons_zero, List.set_cons_succ])
      refine wpAnyH_take (i := 1) (v := .agg #[.bool r.orig.sec, .string r.orig.host, .int .i64 r.orig.port]) rfl (by kernel_rfl) (by kernel_rfl) (by kernel_rfl) (fun _ _ _ h => h) (yieldsIf_load_mid (by rfl) 29 _ rfl w.heap.size 1 (by rfl) [.bool r.orig.sec, .string r.orig.host, .int .i64 r.orig.port] _ (fun w h => req_r1 h.2) Tryz.underlying29 rfl infoOrgV) (by assumption) ?_
      (try simp only [List.getElem_toArray, List.getElem_cons_succ, List.getElem_cons_zero, Act.put, List.setIfInBounds_toArray, List.set_cons_zero, List.set_cons_succ])
      refine wpAnyH_take (i := 2) (v := ?_) rfl (by kernel_rfl) (by kernel_rfl) (by kernel_rfl) (fun _ _ _ h => h) (Or.inl ⟨by rfl, ?_⟩) (by assumption) ?_
      rotate_left
      · intro w hSw; (try dsimp only at hSw); go_simp; (try with_reducible rfl)
      (try simp only [List.getElem_toArray, List.getElem_cons_succ, List.getElem_cons_zero, Act.put, List.setIfInBounds_toArray, List.set_cons_zero, List.set_cons_succ])
      refine wpAnyH_take (i := 3) (v := ?_) rfl (by kernel_rfl) (by kernel_rfl) (by kernel_rfl) (fun _ _ _ h => h) (Or.inl ⟨by rfl, ?_⟩) (by assumption) ?_
      rotate_left
      · intro w hSw; (try dsimp only at hSw); go_simp; (try with_reducible rfl)
      (try simp only [List.getElem_toArray, List.getElem_cons_succ, List.getElem_cons_zero, Act.put, List.setIfInBounds_toArray, List.set_cons_zero, List.set_cons_succ])
      refine wpAnyH_take (i := 4) (v := .agg #[.bool r.dest.sec, .string r.dest.host, .int .i64 r.dest.port]) rfl (by kernel_rfl) (by kernel_rfl) (by kernel_rfl) (fun _ _ _ h => h) (yieldsIf_load_mid (by rfl) 29 _ rfl w.heap.size 4 (by rfl) [.bool r.dest.sec, .string r.dest.host, .int .i64 r.dest.port] _ (fun w h => req_r4 h.2) Tryz.underlying29 rfl infoOrgV) (by assumption) ?_
      (try simp only [List.getElem_toArray, List.getElem_cons_succ, List.getElem_cons_zero, Act.put, List.setIfInBounds_toArray, List.set_cons_zero, List.set_cons_succ])
      refine wpAnyH_take (i := 5) rfl (by kernel_rfl) (by kernel_rfl) (by kernel_rfl) (fun _ _ _ h => h) (yields_eql (by rfl) .eql 29 29 _ _ (by rfl) #[.bool r.orig.sec, .string r.orig.host, .int .i64 r.orig.port] #[.bool r.dest.sec, .string r.dest.host, .int .i64 r.dest.port] (by rfl) (by rfl) noGuardOrg _ h1) (by assumption) ?_
      (try simp only [List.getElem_toArray, List.getElem_cons_succ, List.getElem_cons_zero, Act.put, List.setIfInBounds_toArray, List.set_cons_zero, List.set_cons_succ])
      refine wpAnyH_take (i := 6) (v := ?_) rfl (by kernel_rfl) (by kernel_rfl) (by kernel_rfl) (fun _ _ _ h => h) (Or.inl ⟨by rfl, ?_⟩) (by assumption) ?_
      rotate_left
      · intro w hSw; (try dsimp only at hSw); go_simp; (try with_reducible rfl)
      (try simp only [List.getElem_toArray, List.getElem_cons_succ, List.getElem_cons_zero, Act.put, List.setIfInBounds_toArray, List.set_cons_zero, List.set_cons_succ])
      refine wpAnyH_take (i := 7) (v := .agg r.arr) rfl (by kernel_rfl) (by kernel_rfl) (by kernel_rfl) (fun _ _ _ h => h) (yieldsIf_load_mid (by rfl) tReq _ rfl w.heap.size 0 (by rfl) r.arr.toList _ (fun w h => h.2.range) Tryz.underlying34 rfl infoReqG) (by assumption) ?_
      (try simp only [List.getElem_toArray, List.getElem_cons_succ, List.getElem_cons_zero, Act.put, List.setIfInBounds_toArray, List.set_cons_zero, List.set_cons_succ])
      refine wpAnyH_ready (rs := [8]) (by kernel_rfl) (by simp) ?_
      refine AllReadyH.cons rfl (fun K hK => ?_) AllReadyH.nil
      go_simp
      go_at_call 43
      refine (hne _ hwB).mono ?_
      rintro e w2 ⟨rfl, hB9⟩
      have hB2 : Below w1.heap.size w1 w2 := hwB.then (Nat.le_refl _) hB9
      refine hK.out _ _ (by (try dsimp only); exact hmk _ hB2) (fun hHeld => ?_)
      clear hK K
      (try simp only [List.getElem_toArray, List.getElem_cons_succ, List.getElem_cons_zero, Act.put, List.setIfInBounds_toArray, List.set_cons_zero, List.set_cons_succ])
      refine wpAnyH_take (i := 9) (v := ?_) rfl (by kernel_rfl) (by kernel_rfl) (by kernel_rfl) (fun _ _ _ h => h) (Or.inl ⟨by rfl, ?_⟩) (by assumption) ?_
      rotate_left
      · intro w hSw; (try dsimp only at hSw); go_simp; (try with_reducible rfl)
      (try simp only [List.getElem_toArray, List.getElem_cons_succ, List.getElem_cons_zero, Act.put, List.setIfInBounds_toArray, List.set_cons_zero, List.set_cons_succ])
      refine wpAnyH_take (i := 10) (v := ?_) rfl (by kernel_rfl) (by kernel_rfl) (by kernel_rfl) (fun _ _ _ h => h) (Or.inl ⟨by rfl, ?_⟩) (by assumption) ?_
      rotate_left
      · intro w hSw; (try dsimp only at hSw); go_simp; (try with_reducible rfl)
      (try simp only [List.getElem_toArray, List.getElem_cons_succ, List.getElem_cons_zero, Act.put, List.setIfInBounds_toArray, List.set_cons_zero, List.set_cons_succ])
      refine wpAnyH_take (i := 11) (v := undef) rfl (by kernel_rfl) (by kernel_rfl) (by kernel_rfl) (fun _ _ _ h => h) (Or.inr ⟨by rfl, rfl⟩) (by assumption) ?_
      (try simp only [List.getElem_toArray, List.getElem_cons_succ, List.getElem_cons_zero, Act.put, List.setIfInBounds_toArray, List.set_cons_zero, List.set_cons_succ])
      refine wpAnyH_take (i := 12) (v := undef) rfl (by kernel_rfl) (by kernel_rfl) (by kernel_rfl) (fun _ _ _ h => h) (Or.inr ⟨by rfl, rfl⟩) (by assumption) ?_
      (try simp only [List.getElem_toArray, List.getElem_cons_succ, List.getElem_cons_zero, Act.put, List.setIfInBounds_toArray, List.set_cons_zero, List.set_cons_succ])
      refine wpAnyH_take (i := 13) (v := undef) rfl (by kernel_rfl) (by kernel_rfl) (by kernel_rfl) (fun _ _ _ h => h) (Or.inr ⟨by rfl, rfl⟩) (by assumption) ?_
      (try simp only [List.getElem_toArray, List.getElem_cons_succ, List.getElem_cons_zero, Act.put, List.setIfInBounds_toArray, List.set_cons_zero, List.set_cons_succ])
      refine wpAnyH_take (i := 14) (v := undef) rfl (by kernel_rfl) (by kernel_rfl) (by kernel_rfl) (fun _ _ _ h => h) (Or.inr ⟨by rfl, rfl⟩) (by assumption) ?_
      (try simp only [List.getElem_toArray, List.getElem_cons_succ, List.getElem_cons_zero, Act.put, List.setIfInBounds_toArray, List.set_cons_zero, List.set_cons_succ])
      refine wpAnyH_take (i := 15) (v := undef) rfl (by kernel_rfl) (by kernel_rfl) (by kernel_rfl) (fun _ _ _ h => h) (Or.inr ⟨by rfl, rfl⟩) (by assumption) ?_
      (try simp only [List.getElem_toArray, List.getElem_cons_succ, List.getElem_cons_zero, Act.put, List.setIfInBounds_toArray, List.set_cons_zero, List.set_cons_succ])
      refine wpAnyH_take (i := 16) (v := undef) rfl (by kernel_rfl) (by kernel_rfl) (by kernel_rfl) (fun _ _ _ h => h) (Or.inr ⟨by rfl, rfl⟩) (by assumption) ?_
      (try simp only [List.getElem_toArray, List.getElem_cons_succ, List.getElem_cons_zero, Act.put, List.setIfInBounds_toArray, List.set_cons_zero, List.set_cons_succ])
      refine wpAnyH_take (i := 17) (v := ?_) rfl (by kernel_rfl) (by kernel_rfl) (by kernel_rfl) (fun _ _ _ h => h) (Or.inl ⟨by rfl, ?_⟩) (by assumption) ?_
      rotate_left
      · intro w hSw; (try dsimp only at hSw); go_simp; (try with_reducible rfl)
      (try simp only [List.getElem_toArray, List.getElem_cons_succ, List.getElem_cons_zero, Act.put, List.setIfInBounds_toArray, List.set_cons_zero, List.set_cons_succ])
      refine wpAnyH_take (i := 18) (v := ?_) rfl (by kernel_rfl) (by kernel_rfl) (by kernel_rfl) (fun _ _ _ h => h) (Or.inl ⟨by rfl, ?_⟩) (by assumption) ?_
      rotate_left
      · intro w hSw; (try dsimp only at hSw); go_simp; (try with_reducible rfl)
      (try simp only [List.getElem_toArray, List.getElem_cons_succ, List.getElem_cons_zero, Act.put, List.setIfInBounds_toArray, List.set_cons_zero, List.set_cons_succ])
      refine wpAnyH_done (by kernel_rfl) ?_ _
      have hfin := Lib.hid (halH.out.then (Nat.le_refl _) hB2)
      clear hB2 hwB hmk
      go_wp2
      go_ret
      exact ⟨ret_bool hres.out.symm, hfin.out⟩
  · have hres := Lib.hid (show coversV r now bk = true from by rw [hv]; rfl)
    clear hv hfo hco hne
    go_enter Tryz.func17, Tryz.ntmps17
    go_upto_region 1 with (fail)
    rw [← hw1]; clear hw1
    refine wp_region_held_drew (S := fun w' => Below w1.heap.size w1 w' ∧ Blk w' w.heap.size r.arr tReq) (by kernel_rfl) (by (try dsimp only); exact hmk _ hwB) (fun hHeld => ?_)
    refine wpAnyH_take (i := 0) (v := ?_) rfl (by kernel_rfl) (by kernel_rfl) (by kernel_rfl) (fun _ _ _ h => h) (Or.inl ⟨by rfl, ?_⟩) (by assumption) ?_
    rotate_left
    · intro w hSw; (try dsimp only at hSw); go_simp; (try with_reducible rfl)
    (try simp only [List.getElem_toArray, List.getElem_cons_succ, List.getElem_cons_zero, Act.put, List.setIfInBounds_toArray, List.set_cons_zero, List.set_cons_succ])
    refine wpAnyH_take (i := 1) (v := .agg #[.bool r.orig.sec, .string r.orig.host, .int .i64 r.orig.port]) rfl (by kernel_rfl) (by kernel_rfl) (by kernel_rfl) (fun _ _ _ h => h) (yieldsIf_load_mid (by rfl) 29 _ rfl w.heap.size 1 (by rfl) [.bool r.orig.sec, .string r.orig.host, .int .i64 r.orig.port] _ (fun w h => req_r1 h.2) Tryz.underlying29 rfl infoOrgV) (by assumption) ?_
    (try simp only [List.getElem_toArray, List.getElem_cons_succ, List.getElem_cons_zero, Act.put, List.setIfInBounds_toArray, List.set_cons_zero, List.set_cons_succ])
    refine wpAnyH_take (i := 2) (v := ?_) rfl (by kernel_rfl) (by kernel_rfl) (by kernel_rfl) (fun _ _ _ h => h) (Or.inl ⟨by rfl, ?_⟩) (by assumption) ?_
    rotate_left
    · intro w hSw; (try dsimp only at hSw); go_simp; (try with_reducible rfl)
    (try simp only [List.getElem_toArray, List.getElem_cons_succ, List.getElem_cons_zero, Act.put, List.setIfInBounds_toArray, List.set_cons_zero, List.set_cons_succ])
    refine wpAnyH_take (i := 3) (v := ?_) rfl (by kernel_rfl) (by kernel_rfl) (by kernel_rfl) (fun _ _ _ h => h) (Or.inl ⟨by rfl, ?_⟩) (by assumption) ?_
    rotate_left
    · intro w hSw; (try dsimp only at hSw); go_simp; (try with_reducible rfl)
    (try simp only [List.getElem_toArray, List.getElem_cons_succ, List.getElem_cons_zero, Act.put, List.setIfInBounds_toArray, List.set_cons_zero, List.set_cons_succ])
    refine wpAnyH_take (i := 4) (v := .agg #[.bool r.dest.sec, .string r.dest.host, .int .i64 r.dest.port]) rfl (by kernel_rfl) (by kernel_rfl) (by kernel_rfl) (fun _ _ _ h => h) (yieldsIf_load_mid (by rfl) 29 _ rfl w.heap.size 4 (by rfl) [.bool r.dest.sec, .string r.dest.host, .int .i64 r.dest.port] _ (fun w h => req_r4 h.2) Tryz.underlying29 rfl infoOrgV) (by assumption) ?_
    (try simp only [List.getElem_toArray, List.getElem_cons_succ, List.getElem_cons_zero, Act.put, List.setIfInBounds_toArray, List.set_cons_zero, List.set_cons_succ])
    refine wpAnyH_take (i := 5) rfl (by kernel_rfl) (by kernel_rfl) (by kernel_rfl) (fun _ _ _ h => h) (yields_eql (by rfl) .eql 29 29 _ _ (by rfl) #[.bool r.orig.sec, .string r.orig.host, .int .i64 r.orig.port] #[.bool r.dest.sec, .string r.dest.host, .int .i64 r.dest.port] (by rfl) (by rfl) noGuardOrg _ h1) (by assumption) ?_
    (try simp only [List.getElem_toArray, List.getElem_cons_succ, List.getElem_cons_zero, Act.put, List.setIfInBounds_toArray, List.set_cons_zero, List.set_cons_succ])
    refine wpAnyH_take (i := 6) (v := ?_) rfl (by kernel_rfl) (by kernel_rfl) (by kernel_rfl) (fun _ _ _ h => h) (Or.inl ⟨by rfl, ?_⟩) (by assumption) ?_
    rotate_left
    · intro w hSw; (try dsimp only at hSw); go_simp; (try with_reducible rfl)
    (try simp only [List.getElem_toArray, List.getElem_cons_succ, List.getElem_cons_zero, Act.put, List.setIfInBounds_toArray, List.set_cons_zero, List.set_cons_succ])
    refine wpAnyH_take (i := 7) (v := undef) rfl (by kernel_rfl) (by kernel_rfl) (by kernel_rfl) (fun _ _ _ h => h) (Or.inr ⟨by rfl, rfl⟩) (by assumption) ?_
    (try simp only [List.getElem_toArray, List.getElem_cons_succ, List.getElem_cons_zero, Act.put, List.setIfInBounds_toArray, List.set_cons_zero, List.set_cons_succ])
    refine wpAnyH_take (i := 8) (v := undef) rfl (by kernel_rfl) (by kernel_rfl) (by kernel_rfl) (fun _ _ _ h => h) (Or.inr ⟨by rfl, rfl⟩) (by assumption) ?_
    (try simp only [List.getElem_toArray, List.getElem_cons_succ, List.getElem_cons_zero, Act.put, List.setIfInBounds_toArray, List.set_cons_zero, List.set_cons_succ])
    refine wpAnyH_take (i := 9) (v := ?_) rfl (by kernel_rfl) (by kernel_rfl) (by kernel_rfl) (fun _ _ _ h => h) (Or.inl ⟨by rfl, ?_⟩) (by assumption) ?_
    rotate_left
    · intro w hSw; (try dsimp only at hSw); go_simp; (try with_reducible rfl)
    (try simp only [List.getElem_toArray, List.getElem_cons_succ, List.getElem_cons_zero, Act.put, List.setIfInBounds_toArray, List.set_cons_zero, List.set_cons_succ])
    refine wpAnyH_take (i := 10) (v := ?_) rfl (by kernel_rfl) (by kernel_rfl) (by kernel_rfl) (fun _ _ _ h => h) (Or.inl ⟨by rfl, ?_⟩) (by assumption) ?_
    rotate_left
    · intro w hSw; (try dsimp only at hSw); go_simp; (try with_reducible rfl)
    (try simp only [List.getElem_toArray, List.getElem_cons_succ, List.getElem_cons_zero, Act.put, List.setIfInBounds_toArray, List.set_cons_zero, List.set_cons_succ])
    refine wpAnyH_take (i := 11) (v := undef) rfl (by kernel_rfl) (by kernel_rfl) (by kernel_rfl) (fun _ _ _ h => h) (Or.inr ⟨by rfl, rfl⟩) (by assumption) ?_
    (try simp only [List.getElem_toArray, List.getElem_cons_succ, List.getElem_cons_zero, Act.put, List.setIfInBounds_toArray, List.set_cons_zero, List.set_cons_succ])
    refine wpAnyH_take (i := 12) (v := undef) rfl (by kernel_rfl) (by kernel_rfl) (by kernel_rfl) (fun _ _ _ h => h) (Or.inr ⟨by rfl, rfl⟩) (by assumption) ?_
    (try simp only [List.getElem_toArray, List.getElem_cons_succ, List.getElem_cons_zero, Act.put, List.setIfInBounds_toArray, List.set_cons_zero, List.set_cons_succ])
    refine wpAnyH_take (i := 13) (v := undef) rfl (by kernel_rfl) (by kernel_rfl) (by kernel_rfl) (fun _ _ _ h => h) (Or.inr ⟨by rfl, rfl⟩) (by assumption) ?_
    (try simp only [List.getElem_toArray, List.getElem_cons_succ, List.getElem_cons_zero, Act.put, List.setIfInBounds_toArray, List.set_cons_zero, List.set_cons_succ])
    refine wpAnyH_take (i := 14) (v := undef) rfl (by kernel_rfl) (by kernel_rfl) (by kernel_rfl) (fun _ _ _ h => h) (Or.inr ⟨by rfl, rfl⟩) (by assumption) ?_
    (try simp only [List.getElem_toArray, List.getElem_cons_succ, List.getElem_cons_zero, Act.put, List.setIfInBounds_toArray, List.set_cons_zero, List.set_cons_succ])
    refine wpAnyH_take (i := 15) (v := undef) rfl (by kernel_rfl) (by kernel_rfl) (by kernel_rfl) (fun _ _ _ h => h) (Or.inr ⟨by rfl, rfl⟩) (by assumption) ?_
    (try simp only [List.getElem_toArray, List.getElem_cons_succ, List.getElem_cons_zero, Act.put, List.setIfInBounds_toArray, List.set_cons_zero, List.set_cons_succ])
    refine wpAnyH_take (i := 16) (v := undef) rfl (by kernel_rfl) (by kernel_rfl) (by kernel_rfl) (fun _ _ _ h => h) (Or.inr ⟨by rfl, rfl⟩) (by assumption) ?_
    (try simp only [List.getElem_toArray, List.getElem_cons_succ, List.getElem_cons_zero, Act.put, List.setIfInBounds_toArray, List.set_cons_zero, List.set_cons_succ])
    refine wpAnyH_take (i := 17) (v := ?_) rfl (by kernel_rfl) (by kernel_rfl) (by kernel_rfl) (fun _ _ _ h => h) (Or.inl ⟨by rfl, ?_⟩) (by assumption) ?_
    rotate_left
    · intro w hSw; (try dsimp only at hSw); go_simp; (try with_reducible rfl)
    (try simp only [List.getElem_toArray, List.getElem_cons_succ, List.getElem_cons_zero, Act.put, List.setIfInBounds_toArray, List.set_cons_zero, List.set_cons_succ])
    refine wpAnyH_take (i := 18) (v := ?_) rfl (by kernel_rfl) (by kernel_rfl) (by kernel_rfl) (fun _ _ _ h => h) (Or.inl ⟨by rfl, ?_⟩) (by assumption) ?_
    rotate_left
    · intro w hSw; (try dsimp only at hSw); go_simp; (try with_reducible rfl)
    (try simp only [List.getElem_toArray, List.getElem_cons_succ, List.getElem_cons_zero, Act.put, List.setIfInBounds_toArray, List.set_cons_zero, List.set_cons_succ])
    refine wpAnyH_done (by kernel_rfl) ?_ _
    have hfin := Lib.hid (halH.out.then (Nat.le_refl _) hwB)
    clear hwB hmk
    go_wp2
    go_ret
    exact ⟨ret_bool hres.out.symm, hfin.out⟩
end Go.Proofs.YtnfcdccdmlodeaaGreatDoor
/- Operations of a book as arguments; what stands while they are done. -/
namespace Go.Proofs.YtnfcdccdmlodeaaGreatDoor
open Go.ChangeShapes Go.WideShapes Go.ChangeAt Go.RowKit Go.WideElems Go.Deep
abbrev tBOp : TypeId := 36
structure BOp where
  what : Int
  req : Req
  addr : Option Addr
  cap : Nat
  passes : List Pass
  now : Int
abbrev BOp.arr (o : BOp) : Array Value := #[.int .i64 o.what, .int .i64 o.req.part, .bool o.req.orig.sec, .string o.req.orig.host, .int .i64 o.req.orig.port, .bool o.req.dest.sec, .string o.req.dest.host, .int .i64 o.req.dest.port, .string o.req.path, .string o.req.query, .string o.req.method, .slice o.req.addr o.req.heads.length o.req.cap, .bool o.req.creds, .string o.req.body, .slice o.addr o.passes.length o.cap, .int .i64 o.now]
def encBOp (o : BOp) : List Value := o.arr.toList
structure BOp.Ok (w : World) (o : BOp) : Prop where
  req : o.req.Ok w
  row : PassAt w o.addr o.passes
  pok : ∀ p ∈ o.passes, p.Ok
  adr : ∀ x, o.addr = some x → o.passes ≠ [] → x.block < w.heap.size
theorem cellsBOp : Tryz.prog.cellsOf 36 = 16 := by kernel_rfl
theorem infoBOp : (Tryz.prog.info? 36).map (·.size) = some 16 := by kernel_rfl
theorem cellsReqK : Tryz.prog.cellsOf 34 = 13 := by kernel_rfl
theorem cellsPassesK : Tryz.prog.cellsOf 24 = 1 := by kernel_rfl
theorem cellsIntK : Tryz.prog.cellsOf 3 = 1 := by kernel_rfl
abbrev zBOp : Array Value := #[.int .i64 0, .int .i64 0, .bool false, .string ⟨#[]⟩, .int .i64 0, .bool false, .string ⟨#[]⟩, .int .i64 0, .string ⟨#[]⟩, .string ⟨#[]⟩, .string ⟨#[]⟩, .slice none 0 0, .bool false, .string ⟨#[]⟩, .slice none 0 0, .int .i64 0]
theorem bop_one (o : BOp) : o.arr.all (·.oneCell') = true := by
  simp [BOp.arr, Value.oneCell']
set_option maxRecDepth 100000 in
theorem bop_open {w : World} {cs : List Value} (h : Rd Tryz.prog w 36 cs) : ∃ o : BOp, cs = encBOp o ∧ o.Ok w := by
  obtain ⟨hl, _⟩ := h.struct Tryz.underlying36
  rw [cellsBOp] at hl
  match cs, hl with
  | [c0, c1, c2, c3, c4, c5, c6, c7, c8, c9, c10, c11, c12, c13, c14, c15], _ =>
    have r0 : Rd Tryz.prog w 3 [c0] := h.field Tryz.underlying36 0 rfl cellsIntK
    have r1 : Rd Tryz.prog w 34 [c1, c2, c3, c4, c5, c6, c7, c8, c9, c10, c11, c12, c13] := h.field Tryz.underlying36 1 rfl cellsReqK
    have r2 : Rd Tryz.prog w 24 [c14] := h.field Tryz.underlying36 2 rfl cellsPassesK
    have r3 : Rd Tryz.prog w 3 [c15] := h.field Tryz.underlying36 3 rfl cellsIntK
    obtain ⟨what, e0, _⟩ := r0.int Tryz.underlying3
    obtain ⟨r, e1, hr⟩ := req_open r1
    obtain ⟨a, len, cap, e2, _⟩ := r2.slice Tryz.underlying24 (by rw [cellsPass]; decide)
    obtain ⟨now, e3, _⟩ := r3.int Tryz.underlying3
    simp at e0 e2 e3
    subst e0 e2 e3
    obtain ⟨ps, rfl, hp, hok, _⟩ := passes_open r2
    refine ⟨⟨what, r, a, cap, ps, now⟩, ?_, ⟨hr, hp, hok, ?_⟩⟩
    · have e1' : [c1, c2, c3, c4, c5, c6, c7, c8, c9, c10, c11, c12, c13] = r.arr.toList := e1
      simp only [List.cons.injEq, and_true] at e1'
      obtain ⟨rfl, rfl, rfl, rfl, rfl, rfl, rfl, rfl, rfl, rfl, rfl, rfl, rfl⟩ := e1'
      rfl
    · intro x hx hn
      obtain ⟨b, off, e, hc⟩ := hp 0 (List.length_pos_iff.2 hn)
      have hx' : a = some x := hx
      rw [hx'] at e
      cases e
      exact World.block_lt_of_cell? w _ (hc 0 _ rfl)
theorem bops_open {w : World} {a : Option Addr} {len cap : Nat} (h : Rd Tryz.prog w 22 [.slice a len cap]) :
    ∃ os : List BOp, os.length = len ∧ RowAt 16 encBOp w a os ∧ (∀ o ∈ os, o.Ok w) ∧ len ≤ maxLen := by
  obtain ⟨a', len', cap', e, hb, _, hl, hc, hn, hi⟩ := h.slice Tryz.underlying22 (by rw [cellsBOp]; decide)
  simp at e
  obtain ⟨rfl, rfl, rfl⟩ := e
  rw [cellsBOp] at hi
  obtain ⟨es, hes, hp⟩ := exists_list (fun i (o : BOp) => (∃ b off, a = some ⟨b, off, none⟩ ∧ ∀ j u, (encBOp o)[j]? = some u → w.cell? ⟨b, off + i * 16 + j, none⟩ = some u) ∧ o.Ok w) len (by
    intro i hil
    obtain ⟨b, off, cs', ha, hl', hR, hcell⟩ := hi i hil
    obtain ⟨e, rfl, hO⟩ := bop_open hR
    exact ⟨e, ⟨b, off, ha, fun j u hu => by rw [hcell j (List.getElem?_eq_some_iff.1 hu).1, hu]⟩, hO⟩)
  refine ⟨es, hes, fun i hil => (hp i hil).1, ?_, Nat.le_trans hl hc⟩
  intro e hem
  obtain ⟨i, hil, rfl⟩ := List.getElem_of_mem hem
  exact (hp i hil).2
theorem bop_req {w : World} {p : Nat} {o : BOp} {T : TypeId} (h : Blk w p o.arr T) : w.rangeAt p 1 o.req.arr.toList := fun j v hv => by
  refine h.cell (1 + j) ?_
  have hj : j < o.req.arr.toList.length := (List.getElem?_eq_some_iff.1 hv).1
  have he : o.arr.toList = Value.int .i64 o.what :: (o.req.arr.toList ++ [.slice o.addr o.passes.length o.cap, .int .i64 o.now]) := rfl
  rw [← Array.getElem?_toList, he, Nat.add_comm, List.getElem?_cons_succ, List.getElem?_append_left hj]
  exact hv
theorem bop_org {w : World} {p : Nat} {o : BOp} {T : TypeId} (h : Blk w p o.arr T) : w.rangeAt p 2 [.bool o.req.orig.sec, .string o.req.orig.host, .int .i64 o.req.orig.port] := fun j v hv => by
  match j, hv with
  | 0, hv => cases hv; exact h.cell 2 rfl
  | 1, hv => cases hv; exact h.cell 3 rfl
  | 2, hv => cases hv; exact h.cell 4 rfl
/-- what stands while a book and the reference's are changed: the book's list, the reference's -/
structure KeepsI (W : World) (b : Nat) (wr : World) (bp br : List Pass) (ra : Option Addr) (S : Nat → Prop) : Prop where
  low : Below W.heap.size W wr
  book : BookR wr b S bp
  base : ∀ i, S i → W.heap.size ≤ i
  row : PassAt wr ra br
  far : ∀ x, ra = some x → ¬ S x.block ∧ x.block < wr.heap.size
  ok : ∀ p ∈ br, p.Ok
theorem KeepsI.later {W : World} {b : Nat} {wr wx : World} {bp br : List Pass} {ra : Option Addr} {S : Nat → Prop} (h : KeepsI W b wr bp br ra S) (hb : Below wr.heap.size wr wx) : KeepsI W b wx bp br ra S :=
  ⟨h.low.then (Nat.le_refl _) hb, h.book.later hb, h.base, h.row.later hb, fun x hx => ⟨(h.far x hx).1, Nat.lt_of_lt_of_le (h.far x hx).2 hb.size⟩, h.ok⟩
theorem KeepsI.prog {W : World} {b : Nat} {wr wx : World} {bp bp' br : List Pass} {ra : Option Addr} {S : Nat → Prop} (h : KeepsI W b wr bp br ra S) (hB : BookR wx b (grow S wr wx) bp') (ho : Only S wr wx) : KeepsI W b wx bp' br ra (grow S wr wx) := by
  refine ⟨ho.below h.low h.low.size h.base, hB, ?_, ?_, ?_, h.ok⟩
  · rintro i ⟨h1 | h1, _⟩
    · exact h.base i h1
    · exact Nat.le_trans h.low.size h1
  · exact ho.rowAt h.row (fun x hx => (h.far x hx).1)
  · intro x hx
    obtain ⟨h1, h2⟩ := h.far x hx
    refine ⟨?_, Nat.lt_of_lt_of_le h2 ho.size⟩
    rintro ⟨h3 | h3, _⟩
    · exact h1 h3
    · omega
theorem KeepsI.ref {W : World} {b : Nat} {wr wx : World} {bp br br' : List Pass} {ra a' : Option Addr} {S : Nat → Prop} {n c : Nat} (h : KeepsI W b wr bp br ra S) (hb : Below wr.heap.size wr wx) (hO : OwnG tPass 12 encPass wx wr.heap.size (.slice a' n c) br') (hok : ∀ p ∈ br', p.Ok) : KeepsI W b wx bp br' a' S := by
  have h1 := h.later hb
  obtain ⟨a2, c2, e, hr, _⟩ := OwnG.shape encPass_len hO
  simp only [Value.slice.injEq] at e
  obtain ⟨rfl, _, _⟩ := e
  refine ⟨h1.low, h1.book, h1.base, hr, fun x hx => ?_, hok⟩
  have := hO.lt x.block (by rw [hx]; rfl)
  exact ⟨fun hs => by have := h.book.bd _ hs; omega, this.2⟩
theorem KeepsI.start (W : World) : KeepsI W W.heap.size (W.alloc (.cells #[.slice none 0 0] tBook)) [] [] none (fun i => i = W.heap.size) :=
  ⟨(Below.refl _ _).alloc (Nat.le_refl _) _, ⟨⟨_, Blk.new _ _ _, OwnG.nil _ _, fun g hg => by cases hg⟩, rfl, fun i hi => by rw [hi]; simp⟩, fun i hi => by rw [hi]; exact Nat.le_refl _, RowAt.nil _ _, (fun x hx => by cases hx), (fun p hp => by cases hp)⟩
theorem put_ok {bk l : List Pass} {now : Int} (h : ∀ p ∈ bk, p.Ok) (h2 : ∀ p ∈ l, p.Ok) : ∀ p ∈ bookPut 32 bk l now, p.Ok := by
  have hf : ∀ (l b : List Pass), (∀ p ∈ b, p.Ok) → (∀ p ∈ l, p.Ok) → ∀ p ∈ l.foldl putB b, p.Ok := by
    intro l
    induction l with
    | nil => intro b hb _; exact hb
    | cons x r ih =>
      intro b hb hl
      rw [List.foldl_cons]
      refine ih _ ?_ (fun p hp => hl p (List.mem_cons_of_mem _ hp))
      intro p hp
      unfold putB at hp
      rcases List.mem_append.1 hp with hp | hp
      · exact hb p (List.mem_filter.1 hp).1
      · rw [List.mem_singleton.1 hp]; exact hl x (by simp)
  intro p hp
  unfold bookPut lastB at hp
  exact hf l bk h h2 p (List.mem_filter.1 (List.mem_of_mem_drop hp)).1
end Go.Proofs.YtnfcdccdmlodeaaGreatDoor
