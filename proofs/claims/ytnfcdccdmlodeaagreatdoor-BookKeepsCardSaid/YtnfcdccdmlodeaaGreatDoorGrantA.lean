/- What an answer grants: one pass more: the program's closure. -/
import Derived.Test.YtnfcdccdmlodeaaGreatDoorGrantC
import Derived.Test.YtnfcdccdmlodeaaGreatDoorAge
import Derived.Test.YtnfcdccdmlodeaaGreatDoorFound
import Derived.Test.YtnfcdccdmlodeaaGreatDoorCovF
import Derived.Deep.RegionHeld3
namespace Go.Proofs.YtnfcdccdmlodeaaGreatDoor
open Go.RowKit Go.Deep
set_option linter.unusedSimpArgs false
abbrev tParams : TypeId := 32
/-- what stands while passes are listed: the boxes of the request, the fields, the time, the list; the list's row is the call's own -/
structure GrB (W : World) (r : Req) (a : Option Addr) (n cap : Nat) (now u : Int) (R L T P B : Nat) (acc : List BP) (w : World) : Prop where
  low : Below W.heap.size W w
  rb : Blk w R r.arr tReq
  lb : Blk w L #[.slice a n cap] tParams
  tb : Blk w T #[.int .i64 now] 3
  pb : ∃ v, Blk w P #[v] tPasses ∧ OwnG tPass 12 encPass w B v (acc.map (mkP r u))
  rW : W.heap.size ≤ R
  lW : W.heap.size ≤ L
  tW : W.heap.size ≤ T
  pW : W.heap.size ≤ P
  rP : R < P
  lP : L < P
  tP : T < P
  rB : R < B
  lB : L < B
  tB : T < B
  Bw : B ≤ w.heap.size
/-- what a listing may write -/
def GrS (P B : Nat) (i : Nat) : Prop := i = P ∨ B ≤ i
theorem GrB.later {W : World} {r : Req} {a : Option Addr} {n cap : Nat} {now u : Int} {R L T P B : Nat} {acc : List BP} {w w' : World} (h : GrB W r a n cap now u R L T P B acc w) (hb : Below w.heap.size w w') : GrB W r a n cap now u R L T P B acc w' := by
  obtain ⟨v, h1, h2⟩ := h.pb
  exact ⟨h.low.then (Nat.le_refl _) hb, h.rb.later hb, h.lb.later hb, h.tb.later hb, ⟨v, h1.later hb, h2.later hb⟩, h.rW, h.lW, h.tW, h.pW, h.rP, h.lP, h.tP, h.rB, h.lB, h.tB, Nat.le_trans h.Bw hb.size⟩
/-- the list is another now -/
theorem GrB.turn {W : World} {r : Req} {a : Option Addr} {n cap : Nat} {now u : Int} {R L T P B : Nat} {acc acc' : List BP} {w w' : World} (h : GrB W r a n cap now u R L T P B acc w) (ho : Only (GrS P B) w w')
    (hp : ∃ v, Blk w' P #[v] tPasses ∧ OwnG tPass 12 encPass w' B v (acc'.map (mkP r u))) : GrB W r a n cap now u R L T P B acc' w' := by
  have hr := h.rP; have hl := h.lP; have ht := h.tP; have hr' := h.rB; have hl' := h.lB; have ht' := h.tB; have hpw := h.pW; have hrW := h.rW
  have hs := ho.size
  refine ⟨ho.below h.low h.low.size (fun i hi => ?_), ho.blk h.rb (fun e => ?_), ho.blk h.lb (fun e => ?_), ho.blk h.tb (fun e => ?_), hp, h.rW, h.lW, h.tW, h.pW, h.rP, h.lP, h.tP, h.rB, h.lB, h.tB, Nat.le_trans h.Bw hs⟩
  · rcases hi with rfl | hi <;> omega
  all_goals (rcases e with e | e <;> omega)
/-- a row of passes is no box of a list of them -/
theorem own_ne {w : World} {B P : Nat} {v : Value} {l : List Pass} {cs : Array Value} (h : OwnG tPass 12 encPass w B v l) (hp : Blk w P cs tPasses) : v.ownBlock ≠ some P := by
  obtain ⟨_, h2⟩ := h
  rcases h2 with ⟨rfl, _⟩ | ⟨g, cap, cur, rfl, _, hg, _⟩
  · intro e; cases e
  · intro e
    have e' : g = P := Option.some.inj e
    subst e'
    rw [hp] at hg
    have := Option.some.inj hg
    injection this with _ h3 _
    exact absurd h3 (by decide)
theorem own_put {w : World} {B P : Nat} {v : Value} {l : List Pass} {cs : Array Value} (h : OwnG tPass 12 encPass w B v l) (hp : Blk w P cs tPasses) (u : Value) : OwnG tPass 12 encPass (w.setCell ⟨P, 0, none⟩ u) B v l := by
  refine World.ownsRow.kept h (only_setCell (only_refl w (some P)) (.inl rfl) u) ?_
  cases hv : v.ownBlock with
  | none => exact .inl rfl
  | some k => exact .inr (fun e => own_ne h hp (by rw [hv]; exact e))
theorem bytesPass' : (Tryz.prog.info? tPass).map (fun i => (i.zero, i.size, i.bytes)) = some (some (.agg #[.bool false, .string ⟨#[]⟩, .int .i64 0, .bool false, .string ⟨#[]⟩, .int .i64 0, .string ⟨#[]⟩, .string ⟨#[]⟩, .bool false, .string ⟨#[]⟩, .string ⟨#[]⟩, .int .i64 0]), 12, 144) := by kernel_rfl
abbrev zPassG : Array Value := #[.bool false, .string ⟨#[]⟩, .int .i64 0, .bool false, .string ⟨#[]⟩, .int .i64 0, .string ⟨#[]⟩, .string ⟨#[]⟩, .bool false, .string ⟨#[]⟩, .string ⟨#[]⟩, .int .i64 0]
theorem pass_oneG (x : Pass) : x.arr.all (·.oneCell') = true := by
  simp [Pass.arr, Value.oneCell']
/-- a store of a whole block, in a drawn region -/
theorem step_store_blk {P : Program} {ops : Array Oper} {o : Oper} {a : Act} {K : Act → World → Prop} {Q : Exit → Act → World → Prop} {E : Prop} {w : World} {cs : Array Value} {T : TypeId} (hgd : o.guard = none) (ty : TypeId) (x y : Operand) (ho : o.op = .store ty x y)
    (b : Nat) (hx : a.eval x = .pointer (some ⟨b, 0, none⟩)) (hb : Blk w b cs T) (vs : Array Value) (hy : a.eval y = .agg vs) (hs : vs.size = cs.size) (hi : (P.info? ty).map (·.size) = some vs.size) (h1 : vs.all (·.oneCell') = true)
    (h : ∀ w', Blk w' b vs T → w.grownBy w' (some b) → K (a.put o.dst undef) w') : if Region.wanted o (yielded ops a.tmps) = true then Oper.wp P o a w K Q else E := by
  have hw : Region.wanted o (yielded ops a.tmps) = true := by simp [Region.wanted, hgd]
  rw [if_pos hw]
  exact wp_store_mid ty x y ho b 0 vs hx hy (by rw [hs]; exact hb.there) hi h1 (h _ (hb.all vs hs) (only_setCells b vs.toList 0 w))
set_option maxRecDepth 100000 in
set_option maxHeartbeats 4000000 in
theorem grantAdd (W : World) (r : Req) (a : Option Addr) (cap : Nat) (ps : List (ByteArray × ByteArray)) (now g u : Int) (R L T P B : Nat) (acc : List BP) (m h : ByteArray) (w : World)
    (hG : GrB W r a ps.length cap now u R L T P B acc w) (hu : u = now + g) (hn0 : 0 ≤ now) (hn1 : now ≤ 1099511627776) (hg0 : 0 ≤ g) (hg1 : g ≤ 1000) (hl : acc.length ≤ 1000)
    (hage : ∀ w', Below W.heap.size W w' → Calls Tryz.prog 187 #[.slice a ps.length cap] w' fun e w'' => e = .returned (.int .i64 g) ∧ Below w'.heap.size w' w'') :
    Calls Tryz.prog 186 #[.string m, .string h, .pointer (some ⟨R, 0, none⟩), .pointer (some ⟨T, 0, none⟩), .pointer (some ⟨L, 0, none⟩), .pointer (some ⟨P, 0, none⟩)] w
      fun e w' => (e = .returned (.tuple #[]) ∧ GrB W r a ps.length cap now u R L T P B (addB acc (m, h)) w') ∧ Only (GrS P B) w w' := by
  have hwr : IntKind.i64.wrap (now + g) = now + g := by rw [IntKind.wrap_i64]; omega
  have hGH := Lib.hid hG
  subst hu
  have hag := fun w' (hb : Below w.heap.size w w') => hage w' (hG.low.then (Nat.le_refl _) hb)
  clear hage hn0 hn1 hg0 hg1
  obtain ⟨part, ⟨s1, h1, p1⟩, ⟨s2, h2, p2⟩, path, query, method, ad, cp, heads, creds, body⟩ := r
  have hmk : ∀ w', Below w.heap.size w w' → Below w.heap.size w w' ∧ w'.cell? ⟨R, 1, none⟩ = some (.bool s1) ∧ w'.cell? ⟨R, 2, none⟩ = some (.string h1) ∧ w'.cell? ⟨R, 3, none⟩ = some (.int .i64 p1) ∧ w'.cell? ⟨R, 4, none⟩ = some (.bool s2) ∧ w'.cell? ⟨R, 5, none⟩ = some (.string h2) ∧ w'.cell? ⟨R, 6, none⟩ = some (.int .i64 p2) ∧ w'.cell? ⟨R, 7, none⟩ = some (.string path) ∧ w'.cell? ⟨R, 8, none⟩ = some (.string query) ∧ w'.cell? ⟨R, 11, none⟩ = some (.bool creds) ∧ w'.cell? ⟨T, 0, none⟩ = some (.int .i64 now) ∧ w'.cell? ⟨L, 0, none⟩ = some (.slice a ps.length cap) := fun w' hb => by
    have h := hG.rb.later hb
    exact ⟨hb, h.cell 1 rfl, h.cell 2 rfl, h.cell 3 rfl, h.cell 4 rfl, h.cell 5 rfl, h.cell 6 rfl, h.cell 7 rfl, h.cell 8 rfl, h.cell 11 rfl, (hG.tb.later hb).cell 0 rfl, (hG.lb.later hb).cell 0 rfl⟩
  clear hG
  go_enter Tryz.func186, Tryz.ntmps186
  go_upto_region 0 with (fail)
  go_cut [8] (fun v wx => ∃ q, v = .pointer (some ⟨q, 0, none⟩) ∧ Hid (Blk wx q (mkP ⟨part, ⟨s1, h1, p1⟩, ⟨s2, h2, p2⟩, path, query, method, ad, cp, heads, creds, body⟩ (now + g) (m, h)).arr tPass) ∧ Hid (Below w.heap.size w wx))
  case first =>
    have hB0 : Below w.heap.size w w.drew := (Below.refl _ _).drew
    refine wp_region_held_drew (S := (fun w' => Below w.heap.size w w' ∧ w'.cell? ⟨R, 1, none⟩ = some (.bool s1) ∧ w'.cell? ⟨R, 2, none⟩ = some (.string h1) ∧ w'.cell? ⟨R, 3, none⟩ = some (.int .i64 p1) ∧ w'.cell? ⟨R, 4, none⟩ = some (.bool s2) ∧ w'.cell? ⟨R, 5, none⟩ = some (.string h2) ∧ w'.cell? ⟨R, 6, none⟩ = some (.int .i64 p2) ∧ w'.cell? ⟨R, 7, none⟩ = some (.string path) ∧ w'.cell? ⟨R, 8, none⟩ = some (.string query) ∧ w'.cell? ⟨R, 11, none⟩ = some (.bool creds) ∧ w'.cell? ⟨T, 0, none⟩ = some (.int .i64 now) ∧ w'.cell? ⟨L, 0, none⟩ = some (.slice a ps.length cap))) (by kernel_rfl) (by (try dsimp only); exact hmk _ hB0) (fun hHeld => ?_)
    refine wpAnyH_take (i := 0) (v := ?_) rfl (by kernel_rfl) (by kernel_rfl) (by kernel_rfl) (fun _ _ _ h => h) (Or.inl ⟨by rfl, ?_⟩) (by assumption) ?_
    rotate_left
    · intro w hSw; (try dsimp only at hSw); go_simp; (try with_reducible rfl)
    (try simp only [List.getElem_toArray, List.getElem_cons_succ, List.getElem_cons_zero, Act.put, List.setIfInBounds_toArray, List.set_cons_zero, List.set_cons_succ])
    refine wpAnyH_take (i := 1) (v := ?_) rfl (by kernel_rfl) (by kernel_rfl) (by kernel_rfl) (fun _ _ _ h => h) (Or.inl ⟨by rfl, ?_⟩) (by assumption) ?_
    rotate_left
    · intro w hSw; (try dsimp only at hSw); go_simp; (try with_reducible rfl)
    (try simp only [List.getElem_toArray, List.getElem_cons_succ, List.getElem_cons_zero, Act.put, List.setIfInBounds_toArray, List.set_cons_zero, List.set_cons_succ])
    refine wpAnyH_take (i := 2) (v := ?_) rfl (by kernel_rfl) (by kernel_rfl) (by kernel_rfl) (fun _ _ _ h => h) (Or.inl ⟨by rfl, ?_⟩) (by assumption) ?_
    rotate_left
    · intro w hSw; (try dsimp only at hSw); go_simp; (try with_reducible rfl)
    (try simp only [List.getElem_toArray, List.getElem_cons_succ, List.getElem_cons_zero, Act.put, List.setIfInBounds_toArray, List.set_cons_zero, List.set_cons_succ])
    refine wpAnyH_take (i := 3) (v := ?_) rfl (by kernel_rfl) (by kernel_rfl) (by kernel_rfl) (fun _ _ _ h => h) (Or.inl ⟨by rfl, ?_⟩) (by assumption) ?_
    rotate_left
    · intro w hSw; (try dsimp only at hSw); go_simp; (try with_reducible rfl)
    (try simp only [List.getElem_toArray, List.getElem_cons_succ, List.getElem_cons_zero, Act.put, List.setIfInBounds_toArray, List.set_cons_zero, List.set_cons_succ])
    refine wpAnyH_take (i := 4) (v := ?_) rfl (by kernel_rfl) (by kernel_rfl) (by kernel_rfl) (fun _ _ _ h => h) (Or.inl ⟨by rfl, ?_⟩) (by assumption) ?_
    rotate_left
    · intro w hSw; (try dsimp only at hSw); go_simp; (try with_reducible rfl)
    (try simp only [List.getElem_toArray, List.getElem_cons_succ, List.getElem_cons_zero, Act.put, List.setIfInBounds_toArray, List.set_cons_zero, List.set_cons_succ])
    refine wpAnyH_take (i := 5) (v := ?_) rfl (by kernel_rfl) (by kernel_rfl) (by kernel_rfl) (fun _ _ _ h => h) (Or.inl ⟨by rfl, ?_⟩) (by assumption) ?_
    rotate_left
    · intro w hSw; (try dsimp only at hSw); go_simp; (try with_reducible rfl)
    (try simp only [List.getElem_toArray, List.getElem_cons_succ, List.getElem_cons_zero, Act.put, List.setIfInBounds_toArray, List.set_cons_zero, List.set_cons_succ])
    refine wpAnyH_take (i := 6) (v := ?_) rfl (by kernel_rfl) (by kernel_rfl) (by kernel_rfl) (fun _ _ _ h => h) (Or.inl ⟨by rfl, ?_⟩) (by assumption) ?_
    rotate_left
    · intro w hSw; (try dsimp only at hSw); go_simp; (try with_reducible rfl)
    (try simp only [List.getElem_toArray, List.getElem_cons_succ, List.getElem_cons_zero, Act.put, List.setIfInBounds_toArray, List.set_cons_zero, List.set_cons_succ])
    refine wpAnyH_take (i := 7) (v := ?_) rfl (by kernel_rfl) (by kernel_rfl) (by kernel_rfl) (fun _ _ _ h => h) (Or.inl ⟨by rfl, ?_⟩) (by assumption) ?_
    rotate_left
    · intro w hSw; (try dsimp only at hSw); go_simp; (try with_reducible rfl)
    (try simp only [List.getElem_toArray, List.getElem_cons_succ, List.getElem_cons_zero, Act.put, List.setIfInBounds_toArray, List.set_cons_zero, List.set_cons_succ])
    refine wpAnyH_take (i := 8) (v := ?_) rfl (by kernel_rfl) (by kernel_rfl) (by kernel_rfl) (fun _ _ _ h => h) (Or.inl ⟨by rfl, ?_⟩) (by assumption) ?_
    rotate_left
    · intro w hSw; (try dsimp only at hSw); go_simp; (try with_reducible rfl)
    (try simp only [List.getElem_toArray, List.getElem_cons_succ, List.getElem_cons_zero, Act.put, List.setIfInBounds_toArray, List.set_cons_zero, List.set_cons_succ])
    refine wpAnyH_take (i := 9) (v := ?_) rfl (by kernel_rfl) (by kernel_rfl) (by kernel_rfl) (fun _ _ _ h => h) (Or.inl ⟨by rfl, ?_⟩) (by assumption) ?_
    rotate_left
    · intro w hSw; (try dsimp only at hSw); go_simp; (try with_reducible rfl)
    (try simp only [List.getElem_toArray, List.getElem_cons_succ, List.getElem_cons_zero, Act.put, List.setIfInBounds_toArray, List.set_cons_zero, List.set_cons_succ])
    refine wpAnyH_ready (rs := [10, 13]) (by kernel_rfl) (by simp) ?_
    refine AllReadyH.cons rfl (fun K hK => ?_) (AllReadyH.cons rfl (fun K hK => ?_) AllReadyH.nil)
    · go_simp
      go_at_call 187
      refine (hag _ hB0).mono ?_
      rintro e w2 ⟨rfl, hB2⟩
      have hB3 : Below w.heap.size w w2 := Below.then hB0 (Nat.le_refl _) hB2
      refine hK.out _ _ (by (try dsimp only); exact hmk _ hB3) (fun hHeld => ?_)
      clear hK K
      (try simp only [List.getElem_toArray, List.getElem_cons_succ, List.getElem_cons_zero, Act.put, List.setIfInBounds_toArray, List.set_cons_zero, List.set_cons_succ])
      refine wpAnyH_take (i := 11) (v := ?_) rfl (by kernel_rfl) (by kernel_rfl) (by kernel_rfl) (fun _ _ _ h => h) (Or.inl ⟨by rfl, ?_⟩) (by assumption) ?_
      rotate_left
      · intro w hSw; (try dsimp only at hSw); go_simp; (try with_reducible rfl)
      (try simp only [List.getElem_toArray, List.getElem_cons_succ, List.getElem_cons_zero, Act.put, List.setIfInBounds_toArray, List.set_cons_zero, List.set_cons_succ])
      refine wpAnyH_take (i := 12) (v := ?_) rfl (by kernel_rfl) (by kernel_rfl) (by kernel_rfl) (fun _ _ _ h => h) (Or.inl ⟨by rfl, ?_⟩) (by assumption) ?_
      rotate_left
      · intro w hSw; (try dsimp only at hSw); go_simp; (try with_reducible rfl)
      (try simp only [List.getElem_toArray, List.getElem_cons_succ, List.getElem_cons_zero, Act.put, List.setIfInBounds_toArray, List.set_cons_zero, List.set_cons_succ])
      refine wpAnyH_ready (rs := [13]) (by kernel_rfl) (by simp) ?_
      refine AllReadyH.cons rfl (fun K hK => ?_) AllReadyH.nil
      go_simp
      have hB4 : Below w.heap.size w (w2.alloc (.cells zPassG tPass)) := hB3.alloc hB3.size _
      refine hK.out _ _ (by (try dsimp only); exact hmk _ hB4) (fun hHeld => ?_)
      clear hK K
      (try simp only [List.getElem_toArray, List.getElem_cons_succ, List.getElem_cons_zero, Act.put, List.setIfInBounds_toArray, List.set_cons_zero, List.set_cons_succ])
      refine wpAnyH_ready (rs := [14]) (by kernel_rfl) (by simp) ?_
      refine AllReadyH.cons rfl (fun K hK => ?_) AllReadyH.nil
      refine step_store_blk rfl tPass _ _ rfl _ rfl (Blk.new w2 zPassG tPass) (mkP ⟨part, ⟨s1, h1, p1⟩, ⟨s2, h2, p2⟩, path, query, method, ad, cp, heads, creds, body⟩ (now + g) (m, h)).arr rfl rfl infoPass (pass_oneG _) ?_
      intro wz hpz hgz
      have hBz : Below w.heap.size w wz := below_only hB4 hgz (by have := hB3.size; simp; omega) hB3.size
      refine hK.out _ _ (by (try dsimp only); exact hmk _ hBz) (fun hHeld => ?_)
      clear hK K
      (try simp only [List.getElem_toArray, List.getElem_cons_succ, List.getElem_cons_zero, Act.put, List.setIfInBounds_toArray, List.set_cons_zero, List.set_cons_succ])
      refine wpAnyH_done (by kernel_rfl) ?_ _
      go_wp2
      go_meet
      exact ⟨_, rfl, Lib.hid hpz, Lib.hid hBz⟩
    · go_simp
      have hB1 : Below w.heap.size w (w.drew.alloc (.cells zPassG tPass)) := hB0.alloc (Nat.le_refl _) _
      refine hK.out _ _ (by (try dsimp only); exact hmk _ hB1) (fun hHeld => ?_)
      clear hK K
      (try simp only [List.getElem_toArray, List.getElem_cons_succ, List.getElem_cons_zero, Act.put, List.setIfInBounds_toArray, List.set_cons_zero, List.set_cons_succ])
      refine wpAnyH_ready (rs := [10]) (by kernel_rfl) (by simp) ?_
      refine AllReadyH.cons rfl (fun K hK => ?_) AllReadyH.nil
      go_simp
      go_at_call 187
      refine (hag _ hB1).mono ?_
      rintro e w2 ⟨rfl, hB2⟩
      have hB3 : Below w.heap.size w w2 := Below.then hB1 (Nat.le_refl _) hB2
      refine hK.out _ _ (by (try dsimp only); exact hmk _ hB3) (fun hHeld => ?_)
      clear hK K
      (try simp only [List.getElem_toArray, List.getElem_cons_succ, List.getElem_cons_zero, Act.put, List.setIfInBounds_toArray, List.set_cons_zero, List.set_cons_succ])
      refine wpAnyH_take (i := 11) (v := ?_) rfl (by kernel_rfl) (by kernel_rfl) (by kernel_rfl) (fun _ _ _ h => h) (Or.inl ⟨by rfl, ?_⟩) (by assumption) ?_
      rotate_left
      · intro w hSw; (try dsimp only at hSw); go_simp; (try with_reducible rfl)
      (try simp only [List.getElem_toArray, List.getElem_cons_succ, List.getElem_cons_zero, Act.put, List.setIfInBounds_toArray, List.set_cons_zero, List.set_cons_succ])
      refine wpAnyH_take (i := 12) (v := ?_) rfl (by kernel_rfl) (by kernel_rfl) (by kernel_rfl) (fun _ _ _ h => h) (Or.inl ⟨by rfl, ?_⟩) (by assumption) ?_
      rotate_left
      · intro w hSw; (try dsimp only at hSw); go_simp; (try with_reducible rfl)
      (try simp only [List.getElem_toArray, List.getElem_cons_succ, List.getElem_cons_zero, Act.put, List.setIfInBounds_toArray, List.set_cons_zero, List.set_cons_succ])
      refine wpAnyH_ready (rs := [14]) (by kernel_rfl) (by simp) ?_
      refine AllReadyH.cons rfl (fun K hK => ?_) AllReadyH.nil
      refine step_store_blk rfl tPass _ _ rfl _ rfl ((Blk.new w.drew zPassG tPass).later hB2) (mkP ⟨part, ⟨s1, h1, p1⟩, ⟨s2, h2, p2⟩, path, query, method, ad, cp, heads, creds, body⟩ (now + g) (m, h)).arr rfl rfl infoPass (pass_oneG _) ?_
      intro wz hpz hgz
      have hBz : Below w.heap.size w wz := below_only hB3 hgz hB3.size (Nat.le_refl _)
      refine hK.out _ _ (by (try dsimp only); exact hmk _ hBz) (fun hHeld => ?_)
      clear hK K
      (try simp only [List.getElem_toArray, List.getElem_cons_succ, List.getElem_cons_zero, Act.put, List.setIfInBounds_toArray, List.set_cons_zero, List.set_cons_succ])
      refine wpAnyH_done (by kernel_rfl) ?_ _
      go_wp2
      go_meet
      exact ⟨_, rfl, Lib.hid hpz, Lib.hid hBz⟩
  case rest =>
    obtain ⟨q, rfl, hq, hBx⟩ := hcut
    obtain ⟨r, hr⟩ : ∃ r : Req, r = ⟨part, ⟨s1, h1, p1⟩, ⟨s2, h2, p2⟩, path, query, method, ad, cp, heads, creds, body⟩ := ⟨_, rfl⟩
    rw [← hr] at hGH hq
    have hrH := Lib.hid hr
    clear hr hag hmk hwr
    obtain ⟨u, hu⟩ : ∃ u, u = now + g := ⟨_, rfl⟩
    rw [← hu] at hGH hq
    have huH := Lib.hid hu
    clear hu
    have hG1 := Lib.hid (hGH.out.later hBx.out)
    obtain ⟨v, hv, hO⟩ := hG1.out.pb
    obtain ⟨a1, cap1, rfl, hrow, hc1, hm1, hn1⟩ := OwnG.shape encPass_len hO
    have hct := slicesContainsP r u a1 cap1 acc (m, h) _ hrow (by omega)
    have hvH := Lib.hid hv
    have hOH := Lib.hid hO
    have c5 : _ = some (Value.slice a1 (acc.map (mkP r u)).length cap1) := hv.cell 0 rfl
    rw [List.length_map] at c5
    have hqB := hq.out
    clear hv hO hrow hn1 hc1 hm1
    obtain ⟨x, hx⟩ : ∃ x, x = mkP r u (m, h) := ⟨_, rfl⟩
    rw [← hx] at hqB hq hct
    have hxH := Lib.hid hx
    clear hx
    go_wp2_with (refine wpList_load_blk rfl tPass _ rfl q rfl hqB _ Tryz.underlying79 rfl infoPass ?_)
    refine hct.mono ?_
    rintro e w3 ⟨rfl, hB3⟩
    have hB03 := Lib.hid (hBx.out.then (Nat.le_refl _) hB3)
    have hv3 := Lib.hid (hvH.out.later hB3)
    have hO3 := Lib.hid (hOH.out.later hB3)
    have hq3 := hq.out.later hB3
    have hG3 := Lib.hid (hG1.out.later hB3)
    clear hct hB3 hqB c5 hvH hOH hG1 hq
    obtain ⟨hb, hhb⟩ : ∃ hb, hasB acc (m, h) = hb := ⟨_, rfl⟩
    rw [hhb]
    cases hb
    · have hadd := Lib.hid (show addB acc (m, h) = acc ++ [(m, h)] from if_neg (by rw [hhb]; simp))
      clear hhb
      have c5 : _ = some (Value.slice a1 (acc.map (mkP r u)).length cap1) := hv3.out.cell 0 rfl
      rw [List.length_map] at c5
      have hBw := hG3.out.Bw
      have hOr := hO3.out
      have hl1 : (acc.map (mkP r u)).length + 1 ≤ maxLen := by rw [List.length_map]; unfold maxLen; omega
      have hl2 : ((acc.map (mkP r u)).length + 1) * 144 ≤ 140737488355328 := by rw [List.length_map]; omega
      have hfar : ∀ k, (Value.slice a1 (acc.map (mkP r u)).length cap1).ownBlock = some k → B ≤ k := fun k hk => (World.ownsRow.lt hOr k hk).1
      rw [List.length_map] at hOr hfar
      have hnP : (Value.slice a1 acc.length cap1).ownBlock ≠ some P := own_ne hOr hv3.out
      go_wp2_with (first
        | (refine wpList_load_blk rfl tPass _ rfl q rfl hq3 _ Tryz.underlying79 rfl infoPass ?_)
        | (at_builtin; refine wpList_append_one bytesPass' Tryz.underlying24 (by rfl) (by decide) encPass_len (by rfl) _ _ (by rfl) w3 B (.slice a1 acc.length cap1) (acc.map (mkP r u)) (by rfl) hOr x (encPass_one _) _ (by rfl) _ (by rfl) (by rfl) hl1 hl2 hBw ?_; intro v4 w4 hO4 hG4 hne4; obtain ⟨a4, cap4, rfl, hs4⟩ := OwnG.shape encPass_len hO4; clear hs4; have hv4 := (hv3.out.alloc (.cells x.arr tPass)).grown hG4 hnP; have c4 := hv4.cell 0 rfl; have f4 := hv4.free 0))
      have hO5 : World.ownsRow _ B tPass 12 _ _ _ := own_put hO4 hv4 (.slice a4 (acc.map (mkP r u) ++ [x]).length cap4)
      have hv5 := hv4.set 0 (.slice a4 (acc.map (mkP r u) ++ [x]).length cap4)
      have hOn := (((Only.of_below hB03.out : Only (GrS P B) w w3).append hG4 (fun i hi => .inl (.inr (hfar i hi)))).set (p := ⟨P, 0, none⟩) (.inl (.inl rfl)) (.slice a4 (acc.map (mkP r u) ++ [x]).length cap4))
      have hlen : (List.map (mkP r u) acc ++ [x]).length = acc.length + 1 := by simp
      rw [hlen] at hO5 hv5 hOn
      have hv6 : Blk _ P #[.slice a4 (acc.length + 1) cap4] tPasses := hv5
      go_end0
      rw [← hrH.out, ← huH.out]
      refine ⟨⟨rfl, hGH.out.turn hOn ⟨_, hv6, ?_⟩⟩, hOn⟩
      rw [hadd.out, List.map_append, List.map_singleton, ← hxH.out]
      unfold OwnG
      rw [hlen]
      exact hO5
    · have hadd := Lib.hid (show addB acc (m, h) = acc from if_pos hhb)
      clear hhb
      go_wp2
      go_end0
      rw [← hrH.out, ← huH.out]
      exact ⟨⟨rfl, by rw [hadd.out]; exact hG3.out⟩, Only.of_below hB03.out⟩
end Go.Proofs.YtnfcdccdmlodeaaGreatDoor
