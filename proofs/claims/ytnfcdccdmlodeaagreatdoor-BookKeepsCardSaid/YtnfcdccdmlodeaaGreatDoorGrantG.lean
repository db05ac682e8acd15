/- What an answer grants: one pass more: the reference's closure, with a map of those that were seen. -/
import Derived.Test.YtnfcdccdmlodeaaGreatDoorGrantV
import Derived.Test.YtnfcdccdmlodeaaGreatDoorSetM
namespace Go.Proofs.YtnfcdccdmlodeaaGreatDoor
set_option linter.unusedSimpArgs false
open Go.RowKit Go.Deep Go.Maps
/-- a map whose keys are these texts, all of them true -/
def SetT (D : DataW Unit) (ks : List (List UInt8)) : Prop := SetIs D ks ∧ ∀ k ∈ ks, ∀ z, D.atKey (.string k) z = .lit (.bool true)
theorem SetT.nil : SetT (.map []) [] := ⟨SetIs.nil, fun k h => by cases h⟩
theorem SetT.put {D : DataW Unit} {ks : List (List UInt8)} (h : SetT D ks) (k : List UInt8) : SetT (D.put (.string k) (.lit (.bool true))) (ks ++ [k]) := by
  refine ⟨h.1.put k _, fun x hx z => ?_⟩
  by_cases e : x = k
  · subst e
    exact Maps.atKey_put_same (k := .string x) h.1.1 trivial _ _
  · rw [Maps.atKey_put_other (fun e' => e (Lit.string.inj e'))]
    rcases List.mem_append.1 hx with hx | hx
    · exact h.2 x hx z
    · exact absurd (List.mem_singleton.1 hx) e
theorem zeroBool (w : World) : (zeroValue 4).run Tryz.prog w = .ok (.bool false) w := by kernel_rfl
/-- what the map says of a text -/
theorem seen_run {w : World} {b n : Nat} {D : DataW Unit} {ks : List (List UInt8)} (ho : w.ownsMap Tryz.prog 9 (plainElem (H := Unit) Tryz.prog 4) b n D) (hs : SetT D ks) (s : ByteArray) (hl : s.size ≤ maxLen) (hb : Bool) (hh : hb = true ↔ s.data.toList ∈ ks) :
    (Instr.lookup 121 (.map (some b)) (.string s) false).run Tryz.prog w = .ok (.bool hb) w := by
  obtain ⟨v, ps, hrun, hv⟩ := ho.lookup lawStr Tryz.underlying121 (zeroBool w) (plainElem_bool Tryz.underlying4 false) (WideMaps.keyOf_string_mk Tryz.underlying9 hl)
  obtain ⟨c, rfl⟩ := plainElem_bool_inv Tryz.underlying4 hv
  rw [plainElem_bool Tryz.underlying4] at hv
  have hv' := congrArg Prod.fst (Option.some.inj hv)
  simp only at hv'
  cases hb
  · have hn : Maps.has D (.string s.data.toList) = false := by
      cases e : Maps.has D (.string s.data.toList)
      · rfl
      · exact absurd (hh.2 (hs.1.mem e)) (by simp)
    rw [Maps.atKey_of_not_has hn] at hv'
    have : c = false := by simpa using hv'
    rw [hrun, this]
  · rw [hs.2 _ (hh.1 rfl)] at hv'
    have : c = true := by simpa using hv'
    rw [hrun, this]
/-- what stands while the reference lists passes -/
structure GrR (W : World) (r : Req) (a : Option Addr) (n cap : Nat) (now u : Int) (R L T P B Mb Q : Nat) (acc : List BP) (w : World) : Prop where
  base : GrB W r a n cap now u R L T P B acc w
  qb : Blk w Q #[.map (some Mb)] tSB
  mp : ∃ k D, k ≤ acc.length ∧ w.ownsMap Tryz.prog 9 (plainElem (H := Unit) Tryz.prog 4) Mb k D ∧ SetT D (acc.map keyB)
  mB : B ≤ Mb
  QP : Q ≠ P
  MP : Mb ≠ P
  ok : ∀ p ∈ acc, PairOk p
theorem hasB_key {acc : List BP} {p : BP} (hk : ∀ q ∈ acc, PairOk q) (hp : PairOk p) : hasB acc p = true ↔ keyB p ∈ acc.map keyB := by
  rw [hasB_iff]
  constructor
  · intro h; exact List.mem_map_of_mem h
  · intro h
    obtain ⟨q, hq, e⟩ := List.mem_map.1 h
    rw [← key_inj (hk q hq) hp e]; exact hq
theorem key_list (m h : ByteArray) : (m ++ (⟨#[0]⟩ : ByteArray) ++ h).data.toList = keyB (m, h) := by
  rw [add_toList, add_toList]
  unfold keyB
  rw [List.append_assoc]
  rfl
theorem own_no_map {w : World} {b n Bb : Nat} {D : DataW Unit} {v : Value} {l : List Pass} (h : OwnG tPass 12 encPass w Bb v l) (ho : w.ownsMap Tryz.prog 9 (plainElem (H := Unit) Tryz.prog 4) b n D) : v.ownBlock ≠ some b := by
  obtain ⟨es, clock, hm, _⟩ := ho
  obtain ⟨_, h2⟩ := h
  rcases h2 with ⟨rfl, _⟩ | ⟨g, cap, cur, rfl, _, hg, _⟩
  · intro e; cases e
  · intro e
    have e' : g = b := Option.some.inj e
    subst e'
    rw [hm] at hg
    cases hg
theorem own_row_kept {w w' : World} {Bb b : Nat} {v : Value} {l : List Pass} (h : OwnG tPass 12 encPass w Bb v l) (hg : w.grownBy w' (some b)) (hn : v.ownBlock ≠ some b) : OwnG tPass 12 encPass w' Bb v l := by
  refine World.ownsRow.kept h hg ?_
  cases hv : v.ownBlock with
  | none => exact .inl rfl
  | some k => exact .inr (fun e => hn (by rw [hv]; exact e))
theorem own_neT {w : World} {B P : Nat} {v : Value} {l : List Pass} {cs : Array Value} {T : TypeId} (hT : T ≠ tPass) (h : OwnG tPass 12 encPass w B v l) (hp : Blk w P cs T) : v.ownBlock ≠ some P := by
  obtain ⟨_, h2⟩ := h
  rcases h2 with ⟨rfl, _⟩ | ⟨g, cap, cur, rfl, _, hg, _⟩
  · intro e; cases e
  · intro e
    have e' : g = P := Option.some.inj e
    subst e'
    rw [hp] at hg
    have := Option.some.inj hg
    injection this with _ h3 _
    exact hT h3
theorem map_no_cells {w : World} {b n : Nat} {D : DataW Unit} {p : Nat} {cs : Array Value} {T : TypeId} (ho : w.ownsMap Tryz.prog 9 (plainElem (H := Unit) Tryz.prog 4) b n D) (h : Blk w p cs T) : b ≠ p := by
  rintro rfl
  obtain ⟨es, clock, hm, _⟩ := ho
  unfold Blk at h
  rw [hm] at h
  cases h

theorem put_row {w1 X w4 : World} {B P Q Mb k : Nat} {u : Value} {v : Value} {l : List Pass} {D : DataW Unit} {o : Obj} (hB : Below w1.heap.size w1 X) (hP : Blk w1 P #[u] tPasses) (hQ : Blk w1 Q #[.map (some Mb)] tSB) (hM : w1.ownsMap Tryz.prog 9 (plainElem (H := Unit) Tryz.prog 4) Mb k D)
    (hO : OwnG tPass 12 encPass w1 B v l) (hg : (X.alloc o).grownBy w4 v.ownBlock) :
    Blk w4 P #[u] tPasses ∧ Blk w4 Q #[.map (some Mb)] tSB ∧ w4.ownsMap Tryz.prog 9 (plainElem (H := Unit) Tryz.prog 4) Mb k D := by
  refine ⟨((hP.later hB).alloc o).grown hg (own_ne hO hP), ((hQ.later hB).alloc o).grown hg (own_neT (by decide) hO hQ), ?_⟩
  exact ((hM.kept (only_of_below hB none) (by simp)).alloc o).kept hg (fun e => own_no_map hO hM e.symm)
theorem put_end {W : World} {r : Req} {a : Option Addr} {n cap : Nat} {now u : Int} {R L T P B Mb Q k : Nat} {acc : List BP} {p : BP} {w w1 w4 : World} {D : DataW Unit} {u0 v4 : Value} (hG : GrR W r a n cap now u R L T P B Mb Q acc w) (h01 : Only (GrS P B) w w1) (h14 : Only (GrS P B) w1 w4)
    (hP : Blk w4 P #[u0] tPasses) (hQ : Blk w4 Q #[.map (some Mb)] tSB) (hM : w4.ownsMap Tryz.prog 9 (plainElem (H := Unit) Tryz.prog 4) Mb k D) (hk : k ≤ acc.length + 1) (hD : SetT D ((acc ++ [p]).map keyB)) (hO : OwnG tPass 12 encPass w4 B v4 (acc.map (mkP r u) ++ [mkP r u p])) (hp : PairOk p) (ha : addB acc p = acc ++ [p]) :
    GrR W r a n cap now u R L T P B Mb Q (addB acc p) (w4.setCell ⟨P, 0, none⟩ v4) ∧ Only (GrS P B) w (w4.setCell ⟨P, 0, none⟩ v4) := by
  have hOn : Only (GrS P B) w (w4.setCell ⟨P, 0, none⟩ v4) := (h01.trans h14).set (p := ⟨P, 0, none⟩) (.inl (.inl rfl)) v4
  have hP' : Blk (w4.setCell ⟨P, 0, none⟩ v4) P #[v4] tPasses := hP.set 0 v4
  have hO' := own_put hO hP v4
  rw [ha]
  refine ⟨⟨hG.base.turn hOn ⟨v4, hP', ?_⟩, hQ.far _ _ (fun e => hG.QP e.symm), ⟨k, D, by simpa using hk, hM.kept (only_setCell (only_refl w4 (some P)) (.inl rfl) v4) (fun e => hG.MP (Option.some.inj e)), hD⟩, hG.mB, hG.QP, hG.MP, ?_⟩, hOn⟩
  · rw [List.map_append, List.map_singleton]; exact hO'
  · intro q hq
    rcases List.mem_append.1 hq with hq | hq
    · exact hG.ok q hq
    · rw [List.mem_singleton.1 hq]; exact hp
set_option maxRecDepth 100000 in
set_option maxHeartbeats 4000000 in
theorem refPut (W : World) (r : Req) (a : Option Addr) (cap : Nat) (ps : List (ByteArray × ByteArray)) (now g : Int) (R L T P B Mb Q : Nat) (acc : List BP) (m h : ByteArray) (w : World)
    (hG : GrR W r a ps.length cap now (now + g) R L T P B Mb Q acc w) (hn0 : 0 ≤ now) (hn1 : now ≤ 1099511627776) (hg0 : 0 ≤ g) (hg1 : g ≤ 1000) (hl : acc.length ≤ 1000) (hpk : PairOk (m, h)) (hms : m.size ≤ 1000000) (hhs : h.size ≤ 1000000)
    (hage : ∀ w', Below W.heap.size W w' → Calls Tryz.prog 154 #[.slice a ps.length cap] w' fun e w'' => e = .returned (.int .i64 g) ∧ Below w'.heap.size w' w'') :
    Calls Tryz.prog 153 #[.string m, .string h, .pointer (some ⟨Q, 0, none⟩), .pointer (some ⟨P, 0, none⟩), .pointer (some ⟨R, 0, none⟩), .pointer (some ⟨T, 0, none⟩), .pointer (some ⟨L, 0, none⟩)] w
      fun e w' => e = .returned (.tuple #[]) ∧ GrR W r a ps.length cap now (now + g) R L T P B Mb Q (addB acc (m, h)) w' ∧ Only (GrS P B) w w' := by
  have hwr : IntKind.i64.wrap (now + g) = now + g := by rw [IntKind.wrap_i64]; omega
  obtain ⟨k, D, hk, hD, hDs⟩ := hG.mp
  have hsz : (m ++ (⟨#[0]⟩ : ByteArray) ++ h).size ≤ 3000000 := by
    rw [ByteArray.size_append, ByteArray.size_append]
    have : (⟨#[0]⟩ : ByteArray).size = 1 := rfl
    omega
  have hszm : (m ++ (⟨#[0]⟩ : ByteArray)).size ≤ 3000000 := by
    rw [ByteArray.size_append]
    have : (⟨#[0]⟩ : ByteArray).size = 1 := rfl
    omega
  have hrun := seen_run hD hDs (m ++ (⟨#[0]⟩ : ByteArray) ++ h) (by unfold maxLen; omega) (hasB acc (m, h)) (by rw [key_list]; exact hasB_key hG.ok hpk)
  have cq : _ = some (Value.map (some Mb)) := hG.qb.cell 0 rfl
  have hGH := Lib.hid hG
  obtain ⟨hb, hhb⟩ : ∃ hb, hasB acc (m, h) = hb := ⟨_, rfl⟩
  rw [hhb] at hrun
  cases hb
  · have hadd := Lib.hid (show addB acc (m, h) = acc ++ [(m, h)] from if_neg (by rw [hhb]; simp))
    have hDput := Lib.hid (show SetT (D.put (.string (m ++ (⟨#[0]⟩ : ByteArray) ++ h).data.toList) (.lit (.bool true))) ((acc ++ [(m, h)]).map keyB) by
      rw [key_list, List.map_append, List.map_singleton]; exact hDs.put _)
    obtain ⟨part, ⟨s1, h1, p1⟩, ⟨s2, h2, p2⟩, path, query, method, ad, cp, heads, creds, body⟩ := r
    clear hhb hDs hn0 hn1 hg0 hg1
    go_enter Tryz.func153, Tryz.ntmps153
    go_upto_region 2 with (at_mapUpdate; refine wpList_mapUpdate_own _ rfl _ _ _ tSB rfl 9 4 lawStr Tryz.underlying121 _ Mb k D rfl hD (by unfold maxLen; omega) _ _ _ rfl rfl (WideMaps.keyOf_string_mk Tryz.underlying9 (show (m ++ (⟨#[0]⟩ : ByteArray) ++ h).size ≤ maxLen by unfold maxLen; omega)) _ [] (plainElem_bool Tryz.underlying4 true) ?_; intro w1 hown1 hgrow1)
    have hGb := hGH.out.base
    have h01 : Only (GrS P B) w w1 := Only.of_grown hgrow1 (fun i hi => by cases hi; exact .inr hGH.out.mB)
    obtain ⟨v, hv, hO⟩ := hGb.pb
    have hv1 : Blk w1 P #[v] tPasses := hv.grown hgrow1 (fun e => hGH.out.MP (Option.some.inj e))
    have hO1 := own_row_kept hO hgrow1 (own_no_map hO hD)
    have hQ1 := hGH.out.qb.grown hgrow1 (fun e => map_no_cells hD hGH.out.qb (Option.some.inj e))
    have hG1 := hGb.turn h01 ⟨v, hv1, hO1⟩
    obtain ⟨a1, cap1, rfl, hsh⟩ := OwnG.shape encPass_len hO1
    clear hsh hv hO hrun cq hGb
    rw [List.length_map] at hv1 hO1
    have hfar : ∀ k, (Value.slice a1 acc.length cap1).ownBlock = some k → B ≤ k := fun k hk => (World.ownsRow.lt hO1 k hk).1
    have hl1 : (acc.map (mkP ⟨part, ⟨s1, h1, p1⟩, ⟨s2, h2, p2⟩, path, query, method, ad, cp, heads, creds, body⟩ (now + g))).length + 1 ≤ maxLen := by rw [List.length_map]; unfold maxLen; omega
    have hl2 : ((acc.map (mkP ⟨part, ⟨s1, h1, p1⟩, ⟨s2, h2, p2⟩, path, query, method, ad, cp, heads, creds, body⟩ (now + g))).length + 1) * 144 ≤ 140737488355328 := by rw [List.length_map]; omega
    have hBw := hG1.Bw
    have hmk : ∀ w', Only (GrS P B) w1 w' → Only (GrS P B) w1 w' ∧ w'.cell? ⟨R, 1, none⟩ = some (.bool s1) ∧ w'.cell? ⟨R, 2, none⟩ = some (.string h1) ∧ w'.cell? ⟨R, 3, none⟩ = some (.int .i64 p1) ∧ w'.cell? ⟨R, 4, none⟩ = some (.bool s2) ∧ w'.cell? ⟨R, 5, none⟩ = some (.string h2) ∧ w'.cell? ⟨R, 6, none⟩ = some (.int .i64 p2) ∧ w'.cell? ⟨R, 7, none⟩ = some (.string path) ∧ w'.cell? ⟨R, 8, none⟩ = some (.string query) ∧ w'.cell? ⟨R, 11, none⟩ = some (.bool creds) ∧ w'.cell? ⟨T, 0, none⟩ = some (.int .i64 now) ∧ w'.cell? ⟨L, 0, none⟩ = some (.slice a ps.length cap) := fun w' ho => by
      have hr := hG1.rP; have hl := hG1.lP; have ht := hG1.tP; have hr' := hG1.rB; have hl' := hG1.lB; have ht' := hG1.tB
      have hh := ho.blk hG1.rb (fun e => by rcases e with e | e <;> omega)
      exact ⟨ho, hh.cell 1 rfl, hh.cell 2 rfl, hh.cell 3 rfl, hh.cell 4 rfl, hh.cell 5 rfl, hh.cell 6 rfl, hh.cell 7 rfl, hh.cell 8 rfl, hh.cell 11 rfl, (ho.blk hG1.tb (fun e => by rcases e with e | e <;> omega)).cell 0 rfl, (ho.blk hG1.lb (fun e => by rcases e with e | e <;> omega)).cell 0 rfl⟩
    have hag := fun w' (hb : Below w1.heap.size w1 w') => hage w' (hG1.low.then (Nat.le_refl _) hb)
    clear hage
    have hB0 : Below w1.heap.size w1 w1.drew := (Below.refl _ _).drew
    refine wp_region_held_drew (S := fun w' => Only (GrS P B) w1 w' ∧ w'.cell? ⟨R, 1, none⟩ = some (.bool s1) ∧ w'.cell? ⟨R, 2, none⟩ = some (.string h1) ∧ w'.cell? ⟨R, 3, none⟩ = some (.int .i64 p1) ∧ w'.cell? ⟨R, 4, none⟩ = some (.bool s2) ∧ w'.cell? ⟨R, 5, none⟩ = some (.string h2) ∧ w'.cell? ⟨R, 6, none⟩ = some (.int .i64 p2) ∧ w'.cell? ⟨R, 7, none⟩ = some (.string path) ∧ w'.cell? ⟨R, 8, none⟩ = some (.string query) ∧ w'.cell? ⟨R, 11, none⟩ = some (.bool creds) ∧ w'.cell? ⟨T, 0, none⟩ = some (.int .i64 now) ∧ w'.cell? ⟨L, 0, none⟩ = some (.slice a ps.length cap)) (by kernel_rfl) (by (try dsimp only); exact hmk _ (Only.of_below hB0)) (fun hHeld => ?_)
    refine wpAnyH_take (i := 1) (v := ?_) rfl (by kernel_rfl) (by kernel_rfl) (by kernel_rfl) (fun _ _ _ h => h) (Or.inl ⟨by rfl, ?_⟩) (by assumption) ?_
    rotate_left
    · intro w hSw; (try dsimp only at hSw); go_simp; (try with_reducible rfl)
    (try simp only [List.getElem_toArray, List.getElem_cons_succ, List.getElem_cons_zero, Act.put, List.setIfInBounds_toArray, List.set_cons_zero, List.set_cons_succ])
    refine wpAnyH_take (i := 2) (v := ?_) rfl (by kernel_rfl) (by kernel_rfl) (by kernel_rfl) (fun _ _ _ h => h) (Or.inl ⟨by rfl, ?_⟩) (by assumption) ?_
    rotate_left
    · intro w hSw; (try dsimp only at hSw); go_simp; (try with_reducible rfl)
    (try simp only [List.getElem_toArray, List.getElem_cons_succ, List.getElem_cons_zero, Act.put, List.setIfInBounds_toArray, List.set_cons_zero, List.set_cons_succ])
    refine wpAnyH_take (i := 3) (v := ?_) rfl (by kernel_rfl) (by kernel_rfl) (by kernel_rfl) (fun _ _ _ h => h) (Or.inl ⟨by rfl, ?_⟩) (by assumption) ?_
    rotate_left
    · intro w hSw; (try dsimp only at hSw); go_simp; (try with_reducible rfl)
    (try simp only [List.getElem_toArray, List.getElem_cons_succ, List.getElem_cons_zero, Act.put, List.setIfInBounds_toArray, List.set_cons_zero, List.set_cons_succ])
    refine wpAnyH_take (i := 4) (v := ?_) rfl (by kernel_rfl) (by kernel_rfl) (by kernel_rfl) (fun _ _ _ h => h) (Or.inl ⟨by rfl, ?_⟩) (by assumption) ?_
    rotate_left
    · intro w hSw; (try dsimp only at hSw); go_simp; (try with_reducible rfl)
    (try simp only [List.getElem_toArray, List.getElem_cons_succ, List.getElem_cons_zero, Act.put, List.setIfInBounds_toArray, List.set_cons_zero, List.set_cons_succ])
    refine wpAnyH_take (i := 5) (v := ?_) rfl (by kernel_rfl) (by kernel_rfl) (by kernel_rfl) (fun _ _ _ h => h) (Or.inl ⟨by rfl, ?_⟩) (by assumption) ?_
    rotate_left
    · intro w hSw; (try dsimp only at hSw); go_simp; (try with_reducible rfl)
    (try simp only [List.getElem_toArray, List.getElem_cons_succ, List.getElem_cons_zero, Act.put, List.setIfInBounds_toArray, List.set_cons_zero, List.set_cons_succ])
    refine wpAnyH_take (i := 6) (v := ?_) rfl (by kernel_rfl) (by kernel_rfl) (by kernel_rfl) (fun _ _ _ h => h) (Or.inl ⟨by rfl, ?_⟩) (by assumption) ?_
    rotate_left
    · intro w hSw; (try dsimp only at hSw); go_simp; (try with_reducible rfl)
    (try simp only [List.getElem_toArray, List.getElem_cons_succ, List.getElem_cons_zero, Act.put, List.setIfInBounds_toArray, List.set_cons_zero, List.set_cons_succ])
    refine wpAnyH_take (i := 7) (v := ?_) rfl (by kernel_rfl) (by kernel_rfl) (by kernel_rfl) (fun _ _ _ h => h) (Or.inl ⟨by rfl, ?_⟩) (by assumption) ?_
    rotate_left
    · intro w hSw; (try dsimp only at hSw); go_simp; (try with_reducible rfl)
    (try simp only [List.getElem_toArray, List.getElem_cons_succ, List.getElem_cons_zero, Act.put, List.setIfInBounds_toArray, List.set_cons_zero, List.set_cons_succ])
    refine wpAnyH_take (i := 8) (v := ?_) rfl (by kernel_rfl) (by kernel_rfl) (by kernel_rfl) (fun _ _ _ h => h) (Or.inl ⟨by rfl, ?_⟩) (by assumption) ?_
    rotate_left
    · intro w hSw; (try dsimp only at hSw); go_simp; (try with_reducible rfl)
    (try simp only [List.getElem_toArray, List.getElem_cons_succ, List.getElem_cons_zero, Act.put, List.setIfInBounds_toArray, List.set_cons_zero, List.set_cons_succ])
    refine wpAnyH_take (i := 9) (v := ?_) rfl (by kernel_rfl) (by kernel_rfl) (by kernel_rfl) (fun _ _ _ h => h) (Or.inl ⟨by rfl, ?_⟩) (by assumption) ?_
    rotate_left
    · intro w hSw; (try dsimp only at hSw); go_simp; (try with_reducible rfl)
    (try simp only [List.getElem_toArray, List.getElem_cons_succ, List.getElem_cons_zero, Act.put, List.setIfInBounds_toArray, List.set_cons_zero, List.set_cons_succ])
    refine wpAnyH_take (i := 10) (v := ?_) rfl (by kernel_rfl) (by kernel_rfl) (by kernel_rfl) (fun _ _ _ h => h) (Or.inl ⟨by rfl, ?_⟩) (by assumption) ?_
    rotate_left
    · intro w hSw; (try dsimp only at hSw); go_simp; (try with_reducible rfl)
    (try simp only [List.getElem_toArray, List.getElem_cons_succ, List.getElem_cons_zero, Act.put, List.setIfInBounds_toArray, List.set_cons_zero, List.set_cons_succ])
    refine wpAnyH_ready (rs := [0, 11]) (by kernel_rfl) (by simp) ?_
    refine AllReadyH.cons rfl (fun K hK => ?_) (AllReadyH.cons rfl (fun K hK => ?_) AllReadyH.nil)
    · have cP : _ = some (Value.slice a1 acc.length cap1) := (hv1.later hB0).cell 0 rfl
      go_simp
      refine hK.out _ _ (by (try dsimp only); exact hmk _ (Only.of_below hB0)) (fun hHeld => ?_)
      clear hK K
      (try simp only [List.getElem_toArray, List.getElem_cons_succ, List.getElem_cons_zero, Act.put, List.setIfInBounds_toArray, List.set_cons_zero, List.set_cons_succ])
      refine wpAnyH_ready (rs := [11]) (by kernel_rfl) (by simp) ?_
      refine AllReadyH.cons rfl (fun K hK => ?_) AllReadyH.nil
      go_simp
      go_at_call 154
      refine (hag _ hB0).mono ?_
      rintro e w2 ⟨rfl, hB2⟩
      have hB3 : Below w1.heap.size w1 w2 := hB0.then (Nat.le_refl _) hB2
      refine hK.out _ _ (by (try dsimp only); exact hmk _ (Only.of_below hB3)) (fun hHeld => ?_)
      clear hK K
      (try simp only [List.getElem_toArray, List.getElem_cons_succ, List.getElem_cons_zero, Act.put, List.setIfInBounds_toArray, List.set_cons_zero, List.set_cons_succ])
      refine wpAnyH_take (i := 12) (v := ?_) rfl (by kernel_rfl) (by kernel_rfl) (by kernel_rfl) (fun _ _ _ h => h) (Or.inl ⟨by rfl, ?_⟩) (by assumption) ?_
      rotate_left
      · intro w hSw; (try dsimp only at hSw); go_simp; (try with_reducible rfl)
      (try simp only [List.getElem_toArray, List.getElem_cons_succ, List.getElem_cons_zero, Act.put, List.setIfInBounds_toArray, List.set_cons_zero, List.set_cons_succ])
      refine wpAnyH_take (i := 13) (v := ?_) rfl (by kernel_rfl) (by kernel_rfl) (by kernel_rfl) (fun _ _ _ h => h) (Or.inl ⟨by rfl, ?_⟩) (by assumption) ?_
      rotate_left
      · intro w hSw; (try dsimp only at hSw); go_simp; (try with_reducible rfl)
      (try simp only [List.getElem_toArray, List.getElem_cons_succ, List.getElem_cons_zero, Act.put, List.setIfInBounds_toArray, List.set_cons_zero, List.set_cons_succ])
      refine wpAnyH_ready (rs := [14]) (by kernel_rfl) (by simp) ?_
      refine AllReadyH.cons rfl (fun K hK => ?_) AllReadyH.nil
      go_simp
      have hB4 : Below w1.heap.size w1 (w2.alloc (.cells #[.bool s1, .string h1, .int .i64 p1, .bool s2, .string h2, .int .i64 p2, .string path, .string query, .bool creds, .string m, .string h, .int .i64 (now + g)] 79)) := hB3.alloc hB3.size _
      refine hK.out _ _ (by (try dsimp only); exact hmk _ (Only.of_below hB4)) (fun hHeld => ?_)
      clear hK K
      (try simp only [List.getElem_toArray, List.getElem_cons_succ, List.getElem_cons_zero, Act.put, List.setIfInBounds_toArray, List.set_cons_zero, List.set_cons_succ])
      refine wpAnyH_ready (rs := [15]) (by kernel_rfl) (by simp) ?_
      refine AllReadyH.cons rfl (fun K hK => ?_) AllReadyH.nil
      refine step_append_one bytesPass' Tryz.underlying24 (by rfl) (by decide) encPass_len (by rfl) _ _ (by rfl) w2 B (.slice a1 acc.length cap1) (acc.map (mkP ⟨part, ⟨s1, h1, p1⟩, ⟨s2, h2, p2⟩, path, query, method, ad, cp, heads, creds, body⟩ (now + g))) (by rfl) (OwnG.later hO1 hB3) (mkP ⟨part, ⟨s1, h1, p1⟩, ⟨s2, h2, p2⟩, path, query, method, ad, cp, heads, creds, body⟩ (now + g) (m, h)) (encPass_one _) _ (by rfl) _ (by rfl) (by rfl) hl1 hl2 (Nat.le_trans hBw hB3.size) ?_
      intro v4 w4 hO4 hG4
      obtain ⟨a4, cap4, rfl, hs4⟩ := OwnG.shape encPass_len hO4
      clear hs4
      obtain ⟨hP4, hQ4, hM4⟩ := put_row hB3 hv1 hQ1 hown1 hO1 hG4
      have c4 := hP4.cell 0 rfl
      have f4 := hP4.free 0
      have hOn4 : Only (GrS P B) w1 w4 := Only.append (Only.of_below hB3) hG4 (fun i hi => .inl (.inr (hfar i hi)))
      refine hK.out _ _ (by (try dsimp only); exact hmk _ hOn4) (fun hHeld => ?_)
      clear hK K
      (try simp only [List.getElem_toArray, List.getElem_cons_succ, List.getElem_cons_zero, Act.put, List.setIfInBounds_toArray, List.set_cons_zero, List.set_cons_succ])
      refine wpAnyH_ready (rs := [16]) (by kernel_rfl) (by simp) ?_
      refine AllReadyH.cons rfl (fun K hK => ?_) AllReadyH.nil
      go_simp
      have hEnd := put_end hGH.out h01 hOn4 hP4 hQ4 hM4 (Nat.succ_le_succ hk) hDput.out hO4 hpk hadd.out
      have hlen : (List.map (mkP ⟨part, ⟨s1, h1, p1⟩, ⟨s2, h2, p2⟩, path, query, method, ad, cp, heads, creds, body⟩ (now + g)) acc ++ [(mkP ⟨part, ⟨s1, h1, p1⟩, ⟨s2, h2, p2⟩, path, query, method, ad, cp, heads, creds, body⟩ (now + g) (m, h))]).length = acc.length + 1 := by simp
      rw [hlen] at hEnd
      have hEnd' := Lib.hid hEnd
      have hOn5 := hOn4.set (p := ⟨P, 0, none⟩) (.inl (.inl rfl)) (.slice a4 (acc.length + 1) cap4)
      refine hK.out _ _ (by (try dsimp only); exact hmk _ hOn5) (fun hHeld => ?_)
      clear hK K
      (try simp only [List.getElem_toArray, List.getElem_cons_succ, List.getElem_cons_zero, Act.put, List.setIfInBounds_toArray, List.set_cons_zero, List.set_cons_succ])
      refine wpAnyH_done (by kernel_rfl) ?_ _
      clear hEnd
      go_wp2
      go_end0
      exact ⟨rfl, hEnd'.out⟩
    · go_simp
      go_at_call 154
      refine (hag _ hB0).mono ?_
      rintro e w2 ⟨rfl, hB2⟩
      have hB3 : Below w1.heap.size w1 w2 := hB0.then (Nat.le_refl _) hB2
      refine hK.out _ _ (by (try dsimp only); exact hmk _ (Only.of_below hB3)) (fun hHeld => ?_)
      clear hK K
      (try simp only [List.getElem_toArray, List.getElem_cons_succ, List.getElem_cons_zero, Act.put, List.setIfInBounds_toArray, List.set_cons_zero, List.set_cons_succ])
      refine wpAnyH_take (i := 12) (v := ?_) rfl (by kernel_rfl) (by kernel_rfl) (by kernel_rfl) (fun _ _ _ h => h) (Or.inl ⟨by rfl, ?_⟩) (by assumption) ?_
      rotate_left
      · intro w hSw; (try dsimp only at hSw); go_simp; (try with_reducible rfl)
      (try simp only [List.getElem_toArray, List.getElem_cons_succ, List.getElem_cons_zero, Act.put, List.setIfInBounds_toArray, List.set_cons_zero, List.set_cons_succ])
      refine wpAnyH_take (i := 13) (v := ?_) rfl (by kernel_rfl) (by kernel_rfl) (by kernel_rfl) (fun _ _ _ h => h) (Or.inl ⟨by rfl, ?_⟩) (by assumption) ?_
      rotate_left
      · intro w hSw; (try dsimp only at hSw); go_simp; (try with_reducible rfl)
      (try simp only [List.getElem_toArray, List.getElem_cons_succ, List.getElem_cons_zero, Act.put, List.setIfInBounds_toArray, List.set_cons_zero, List.set_cons_succ])
      refine wpAnyH_ready (rs := [0, 14]) (by kernel_rfl) (by simp) ?_
      refine AllReadyH.cons rfl (fun K hK => ?_) (AllReadyH.cons rfl (fun K hK => ?_) AllReadyH.nil)
      · have cP : _ = some (Value.slice a1 acc.length cap1) := (hv1.later hB3).cell 0 rfl
        go_simp
        refine hK.out _ _ (by (try dsimp only); exact hmk _ (Only.of_below hB3)) (fun hHeld => ?_)
        clear hK K
        (try simp only [List.getElem_toArray, List.getElem_cons_succ, List.getElem_cons_zero, Act.put, List.setIfInBounds_toArray, List.set_cons_zero, List.set_cons_succ])
        refine wpAnyH_ready (rs := [14]) (by kernel_rfl) (by simp) ?_
        refine AllReadyH.cons rfl (fun K hK => ?_) AllReadyH.nil
        go_simp
        have hB4 : Below w1.heap.size w1 (w2.alloc (.cells #[.bool s1, .string h1, .int .i64 p1, .bool s2, .string h2, .int .i64 p2, .string path, .string query, .bool creds, .string m, .string h, .int .i64 (now + g)] 79)) := hB3.alloc hB3.size _
        refine hK.out _ _ (by (try dsimp only); exact hmk _ (Only.of_below hB4)) (fun hHeld => ?_)
        clear hK K
        (try simp only [List.getElem_toArray, List.getElem_cons_succ, List.getElem_cons_zero, Act.put, List.setIfInBounds_toArray, List.set_cons_zero, List.set_cons_succ])
        refine wpAnyH_ready (rs := [15]) (by kernel_rfl) (by simp) ?_
        refine AllReadyH.cons rfl (fun K hK => ?_) AllReadyH.nil
        refine step_append_one bytesPass' Tryz.underlying24 (by rfl) (by decide) encPass_len (by rfl) _ _ (by rfl) w2 B (.slice a1 acc.length cap1) (acc.map (mkP ⟨part, ⟨s1, h1, p1⟩, ⟨s2, h2, p2⟩, path, query, method, ad, cp, heads, creds, body⟩ (now + g))) (by rfl) (OwnG.later hO1 hB3) (mkP ⟨part, ⟨s1, h1, p1⟩, ⟨s2, h2, p2⟩, path, query, method, ad, cp, heads, creds, body⟩ (now + g) (m, h)) (encPass_one _) _ (by rfl) _ (by rfl) (by rfl) hl1 hl2 (Nat.le_trans hBw hB3.size) ?_
        intro v4 w4 hO4 hG4
        obtain ⟨a4, cap4, rfl, hs4⟩ := OwnG.shape encPass_len hO4
        clear hs4
        obtain ⟨hP4, hQ4, hM4⟩ := put_row hB3 hv1 hQ1 hown1 hO1 hG4
        have c4 := hP4.cell 0 rfl
        have f4 := hP4.free 0
        have hOn4 : Only (GrS P B) w1 w4 := Only.append (Only.of_below hB3) hG4 (fun i hi => .inl (.inr (hfar i hi)))
        refine hK.out _ _ (by (try dsimp only); exact hmk _ hOn4) (fun hHeld => ?_)
        clear hK K
        (try simp only [List.getElem_toArray, List.getElem_cons_succ, List.getElem_cons_zero, Act.put, List.setIfInBounds_toArray, List.set_cons_zero, List.set_cons_succ])
        refine wpAnyH_ready (rs := [16]) (by kernel_rfl) (by simp) ?_
        refine AllReadyH.cons rfl (fun K hK => ?_) AllReadyH.nil
        go_simp
        have hEnd := put_end hGH.out h01 hOn4 hP4 hQ4 hM4 (Nat.succ_le_succ hk) hDput.out hO4 hpk hadd.out
        have hlen : (List.map (mkP ⟨part, ⟨s1, h1, p1⟩, ⟨s2, h2, p2⟩, path, query, method, ad, cp, heads, creds, body⟩ (now + g)) acc ++ [(mkP ⟨part, ⟨s1, h1, p1⟩, ⟨s2, h2, p2⟩, path, query, method, ad, cp, heads, creds, body⟩ (now + g) (m, h))]).length = acc.length + 1 := by simp
        rw [hlen] at hEnd
        have hEnd' := Lib.hid hEnd
        have hOn5 := hOn4.set (p := ⟨P, 0, none⟩) (.inl (.inl rfl)) (.slice a4 (acc.length + 1) cap4)
        refine hK.out _ _ (by (try dsimp only); exact hmk _ hOn5) (fun hHeld => ?_)
        clear hK K
        (try simp only [List.getElem_toArray, List.getElem_cons_succ, List.getElem_cons_zero, Act.put, List.setIfInBounds_toArray, List.set_cons_zero, List.set_cons_succ])
        refine wpAnyH_done (by kernel_rfl) ?_ _
        clear hEnd
        go_wp2
        go_end0
        exact ⟨rfl, hEnd'.out⟩
      · go_simp
        have hB4 : Below w1.heap.size w1 (w2.alloc (.cells #[.bool s1, .string h1, .int .i64 p1, .bool s2, .string h2, .int .i64 p2, .string path, .string query, .bool creds, .string m, .string h, .int .i64 (now + g)] 79)) := hB3.alloc hB3.size _
        refine hK.out _ _ (by (try dsimp only); exact hmk _ (Only.of_below hB4)) (fun hHeld => ?_)
        clear hK K
        (try simp only [List.getElem_toArray, List.getElem_cons_succ, List.getElem_cons_zero, Act.put, List.setIfInBounds_toArray, List.set_cons_zero, List.set_cons_succ])
        refine wpAnyH_ready (rs := [0]) (by kernel_rfl) (by simp) ?_
        refine AllReadyH.cons rfl (fun K hK => ?_) AllReadyH.nil
        have cP : _ = some (Value.slice a1 acc.length cap1) := (hv1.later hB4).cell 0 rfl
        go_simp
        refine hK.out _ _ (by (try dsimp only); exact hmk _ (Only.of_below hB4)) (fun hHeld => ?_)
        clear hK K
        (try simp only [List.getElem_toArray, List.getElem_cons_succ, List.getElem_cons_zero, Act.put, List.setIfInBounds_toArray, List.set_cons_zero, List.set_cons_succ])
        refine wpAnyH_ready (rs := [15]) (by kernel_rfl) (by simp) ?_
        refine AllReadyH.cons rfl (fun K hK => ?_) AllReadyH.nil
        refine step_append_one bytesPass' Tryz.underlying24 (by rfl) (by decide) encPass_len (by rfl) _ _ (by rfl) w2 B (.slice a1 acc.length cap1) (acc.map (mkP ⟨part, ⟨s1, h1, p1⟩, ⟨s2, h2, p2⟩, path, query, method, ad, cp, heads, creds, body⟩ (now + g))) (by rfl) (OwnG.later hO1 hB3) (mkP ⟨part, ⟨s1, h1, p1⟩, ⟨s2, h2, p2⟩, path, query, method, ad, cp, heads, creds, body⟩ (now + g) (m, h)) (encPass_one _) _ (by rfl) _ (by rfl) (by rfl) hl1 hl2 (Nat.le_trans hBw hB3.size) ?_
        intro v4 w4 hO4 hG4
        obtain ⟨a4, cap4, rfl, hs4⟩ := OwnG.shape encPass_len hO4
        clear hs4
        obtain ⟨hP4, hQ4, hM4⟩ := put_row hB3 hv1 hQ1 hown1 hO1 hG4
        have c4 := hP4.cell 0 rfl
        have f4 := hP4.free 0
        have hOn4 : Only (GrS P B) w1 w4 := Only.append (Only.of_below hB3) hG4 (fun i hi => .inl (.inr (hfar i hi)))
        refine hK.out _ _ (by (try dsimp only); exact hmk _ hOn4) (fun hHeld => ?_)
        clear hK K
        (try simp only [List.getElem_toArray, List.getElem_cons_succ, List.getElem_cons_zero, Act.put, List.setIfInBounds_toArray, List.set_cons_zero, List.set_cons_succ])
        refine wpAnyH_ready (rs := [16]) (by kernel_rfl) (by simp) ?_
        refine AllReadyH.cons rfl (fun K hK => ?_) AllReadyH.nil
        go_simp
        have hEnd := put_end hGH.out h01 hOn4 hP4 hQ4 hM4 (Nat.succ_le_succ hk) hDput.out hO4 hpk hadd.out
        have hlen : (List.map (mkP ⟨part, ⟨s1, h1, p1⟩, ⟨s2, h2, p2⟩, path, query, method, ad, cp, heads, creds, body⟩ (now + g)) acc ++ [(mkP ⟨part, ⟨s1, h1, p1⟩, ⟨s2, h2, p2⟩, path, query, method, ad, cp, heads, creds, body⟩ (now + g) (m, h))]).length = acc.length + 1 := by simp
        rw [hlen] at hEnd
        have hEnd' := Lib.hid hEnd
        have hOn5 := hOn4.set (p := ⟨P, 0, none⟩) (.inl (.inl rfl)) (.slice a4 (acc.length + 1) cap4)
        refine hK.out _ _ (by (try dsimp only); exact hmk _ hOn5) (fun hHeld => ?_)
        clear hK K
        (try simp only [List.getElem_toArray, List.getElem_cons_succ, List.getElem_cons_zero, Act.put, List.setIfInBounds_toArray, List.set_cons_zero, List.set_cons_succ])
        refine wpAnyH_done (by kernel_rfl) ?_ _
        clear hEnd
        go_wp2
        go_end0
        exact ⟨rfl, hEnd'.out⟩
  · have hadd := Lib.hid (show addB acc (m, h) = acc from if_pos hhb)
    have hre := Lib.hid (Only.refl (GrS P B) w)
    clear hhb
    go_enter Tryz.func153, Tryz.ntmps153
    go_wp2
    go_end0
    exact ⟨rfl, by rw [hadd.out]; exact hGH.out, hre.out⟩
end Go.Proofs.YtnfcdccdmlodeaaGreatDoor
