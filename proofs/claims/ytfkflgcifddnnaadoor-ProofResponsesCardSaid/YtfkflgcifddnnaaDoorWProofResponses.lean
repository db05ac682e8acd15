/- ProofResponses: proof.Response returns what the reference's Response returns: the walk of the statement. -/
import Derived.Test.YtfkflgcifddnnaaDoorRespR
import Derived.Test.YtfkflgcifddnnaaDoorRead
import Derived.OpenShut
import Derived.BigRegion
import Derived.Deep.RegionWith
import Derived.Deep.RegionHeld3
namespace Go.Proofs.YtfkflgcifddnnaaDoor.lawProofResponses
set_option linter.unusedSimpArgs false
open Go.ChangeShapes Go.WideShapes Go.ChangeAt Go.RowKit Go.WideElems
set_option maxRecDepth 100000 in
set_option maxHeartbeats 1600000 in
theorem way0 (W : World) (a : AskV) (user pass method target body cnonce : ByteArray) (n : Int) (hn : n < 0) :
    Calls Tryd.prog 5 #[.agg a.arr, .agg #[.string user, .string pass], .string method, .string target, .string body, .string cnonce, .int .i64 n] W fun e w' => e = .returned (.bool true) ∧ Below W.heap.size W w' := by
  have hB0 : Below W.heap.size W ((W.alloc (boxA a)).alloc (boxC user pass)).drew := (((Below.refl _ _).alloc (Nat.le_refl _) _).alloc (by simp) _).drew
  have hd : decide (n < 0) = true := by simp [hn]
  go_enter Tryd.func5, Tryd.ntmps5
  go_wp2_with fail
  go_region
  all_goals
    go_wp2
    go_ret
    exact ⟨rfl, hB0⟩
set_option maxRecDepth 100000 in
set_option maxHeartbeats 1600000 in
theorem way1 (W : World) (a : AskV) (user pass method target body cnonce : ByteArray) (n : Int) (hn : 0 ≤ n) (hL : ∀ w' : World, Below W.heap.size W w' → Calls Tryd.prog 17 #[.agg a.arr, .agg #[.string user, .string pass], .string method, .string target, .string body, .string cnonce] w' fun e w'' => e = .returned (.bool true) ∧ Below w'.heap.size w' w'') :
    Calls Tryd.prog 5 #[.agg a.arr, .agg #[.string user, .string pass], .string method, .string target, .string body, .string cnonce, .int .i64 n] W fun e w' => e = .returned (.bool true) ∧ Below W.heap.size W w' := by
  have hd : decide (n < 0) = false := by simp; omega
  have hA := fun w' h => askAll (a := a) (user := user) (pass := pass) (W := W) (w' := w') h
  have hb := fun w' h => askBelow (a := a) (user := user) (pass := pass) (w := W) (w' := w') h
  obtain ⟨⟨sc, realm, nonce, opq, sess, qop, stale, dom⟩, ad, cap⟩ := a
  go_enter Tryd.func5, Tryd.ntmps5
  go_wp2_with fail
  refine wp_region_held_drew (S := (fun w' => Below (W.heap.size + 2) ((W.alloc (boxA ⟨⟨sc, realm, nonce, opq, sess, qop, stale, dom⟩, ad, cap⟩)).alloc (boxC user pass)) w' ∧ w'.cell? ⟨W.heap.size, 0, none⟩ = some (.int .i64 sc) ∧ w'.cell? ⟨W.heap.size, 1, none⟩ = some (.string realm) ∧ w'.cell? ⟨W.heap.size, 2, none⟩ = some (.string nonce) ∧ w'.cell? ⟨W.heap.size, 3, none⟩ = some (.string opq) ∧ w'.cell? ⟨W.heap.size, 4, none⟩ = some (.bool sess) ∧ w'.cell? ⟨W.heap.size, 5, none⟩ = some (.string qop) ∧ w'.cell? ⟨W.heap.size, 6, none⟩ = some (.bool stale) ∧ w'.cell? ⟨W.heap.size, 7, none⟩ = some (.slice ad dom.length cap) ∧ w'.cell? ⟨W.heap.size + 1, 0, none⟩ = some (.string user) ∧ w'.cell? ⟨W.heap.size + 1, 1, none⟩ = some (.string pass))) (by kernel_rfl) (by (try dsimp only); exact hA _ (Below.refl _ _).drew) (fun hHeld => ?_)
  refine wpAnyH_take (i := 0) (v := ?_) rfl (by kernel_rfl) (by kernel_rfl) (by kernel_rfl) (fun _ _ _ h => h) (Or.inl ⟨by rfl, ?_⟩) (by assumption) ?_
  rotate_left
  · intro w hSw; (try dsimp only at hSw); go_simp; (try with_reducible rfl)
  (try simp only [List.getElem_toArray, List.getElem_cons_succ, List.getElem_cons_zero, Act.put, List.setIfInBounds_toArray, List.set_cons_zero, List.set_cons_succ])
  refine wpAnyH_take (i := 1) (v := ?_) rfl (by kernel_rfl) (by kernel_rfl) (by kernel_rfl) (fun _ _ _ h => h) (Or.inl ⟨by rfl, ?_⟩) (by assumption) ?_
  rotate_left
  · intro w hSw; (try dsimp only at hSw); go_simp; (try with_reducible rfl)
  (try simp only [List.getElem_toArray, List.getElem_cons_succ, List.getElem_cons_zero, Act.put, List.setIfInBounds_toArray, List.set_cons_zero, List.set_cons_succ])
  refine wpAnyH_take (i := 2) (v := ?_) rfl (by kernel_rfl) (by kernel_rfl) (by kernel_rfl) (fun _ _ _ h => h) (Or.inl ⟨by rfl, ?_⟩) (by assumption) ?_
  rotate_left
  · intro w hSw; (try dsimp only at hSw); go_simp; (try with_reducible rfl)
  (try simp only [List.getElem_toArray, List.getElem_cons_succ, List.getElem_cons_zero, Act.put, List.setIfInBounds_toArray, List.set_cons_zero, List.set_cons_succ])
  refine wpAnyH_take (i := 3) (v := ?_) rfl (by kernel_rfl) (by kernel_rfl) (by kernel_rfl) (fun _ _ _ h => h) (Or.inl ⟨by rfl, ?_⟩) (by assumption) ?_
  rotate_left
  · intro w hSw; (try dsimp only at hSw); go_simp; (try with_reducible rfl)
  (try simp only [List.getElem_toArray, List.getElem_cons_succ, List.getElem_cons_zero, Act.put, List.setIfInBounds_toArray, List.set_cons_zero, List.set_cons_succ])
  refine wpAnyH_take (i := 4) (v := ?_) rfl (by kernel_rfl) (by kernel_rfl) (by kernel_rfl) (fun _ _ _ h => h) (Or.inl ⟨by rfl, ?_⟩) (by assumption) ?_
  rotate_left
  · intro w hSw; (try dsimp only at hSw); go_simp; (try with_reducible rfl)
  (try simp only [List.getElem_toArray, List.getElem_cons_succ, List.getElem_cons_zero, Act.put, List.setIfInBounds_toArray, List.set_cons_zero, List.set_cons_succ])
  refine wpAnyH_take (i := 5) (v := ?_) rfl (by kernel_rfl) (by kernel_rfl) (by kernel_rfl) (fun _ _ _ h => h) (Or.inl ⟨by rfl, ?_⟩) (by assumption) ?_
  rotate_left
  · intro w hSw; (try dsimp only at hSw); go_simp; (try with_reducible rfl)
  (try simp only [List.getElem_toArray, List.getElem_cons_succ, List.getElem_cons_zero, Act.put, List.setIfInBounds_toArray, List.set_cons_zero, List.set_cons_succ])
  refine wpAnyH_take (i := 6) (v := ?_) rfl (by kernel_rfl) (by kernel_rfl) (by kernel_rfl) (fun _ _ _ h => h) (Or.inl ⟨by rfl, ?_⟩) (by assumption) ?_
  rotate_left
  · intro w hSw; (try dsimp only at hSw); go_simp; (try with_reducible rfl)
  (try simp only [List.getElem_toArray, List.getElem_cons_succ, List.getElem_cons_zero, Act.put, List.setIfInBounds_toArray, List.set_cons_zero, List.set_cons_succ])
  refine wpAnyH_take (i := 7) (v := ?_) rfl (by kernel_rfl) (by kernel_rfl) (by kernel_rfl) (fun _ _ _ h => h) (Or.inl ⟨by rfl, ?_⟩) (by assumption) ?_
  rotate_left
  · intro w hSw; (try dsimp only at hSw); go_simp; (try with_reducible rfl)
  (try simp only [List.getElem_toArray, List.getElem_cons_succ, List.getElem_cons_zero, Act.put, List.setIfInBounds_toArray, List.set_cons_zero, List.set_cons_succ])
  refine wpAnyH_take (i := 8) (v := ?_) rfl (by kernel_rfl) (by kernel_rfl) (by kernel_rfl) (fun _ _ _ h => h) (Or.inl ⟨by rfl, ?_⟩) (by assumption) ?_
  rotate_left
  · intro w hSw; (try dsimp only at hSw); go_simp; (try with_reducible rfl)
  (try simp only [List.getElem_toArray, List.getElem_cons_succ, List.getElem_cons_zero, Act.put, List.setIfInBounds_toArray, List.set_cons_zero, List.set_cons_succ])
  refine wpAnyH_ready (rs := [9]) (by kernel_rfl) (by simp) ?_
  refine AllReadyH.cons rfl (fun K hK => ?_) AllReadyH.nil
  go_simp
  go_split_ands
  (refine (hL _ (hb _ (by assumption))).mono ?_)
  rintro e w2 ⟨rfl, hB2⟩
  refine hK.out _ _ (by (try dsimp only); exact hA _ (kb_then (by assumption) (by assumption))) (fun hHeld => ?_)
  clear hK K
  (try simp only [List.getElem_toArray, List.getElem_cons_succ, List.getElem_cons_zero, Act.put, List.setIfInBounds_toArray, List.set_cons_zero, List.set_cons_succ])
  refine wpAnyH_take (i := 10) (v := ?_) rfl (by kernel_rfl) (by kernel_rfl) (by kernel_rfl) (fun _ _ _ h => h) (Or.inl ⟨by rfl, ?_⟩) (by assumption) ?_
  rotate_left
  · intro w hSw; (try dsimp only at hSw); go_simp; (try with_reducible rfl)
  (try simp only [List.getElem_toArray, List.getElem_cons_succ, List.getElem_cons_zero, Act.put, List.setIfInBounds_toArray, List.set_cons_zero, List.set_cons_succ])
  refine wpAnyH_take (i := 11) (v := ?_) rfl (by kernel_rfl) (by kernel_rfl) (by kernel_rfl) (fun _ _ _ h => h) (Or.inl ⟨by rfl, ?_⟩) (by assumption) ?_
  rotate_left
  · intro w hSw; (try dsimp only at hSw); go_simp; (try with_reducible rfl)
  (try simp only [List.getElem_toArray, List.getElem_cons_succ, List.getElem_cons_zero, Act.put, List.setIfInBounds_toArray, List.set_cons_zero, List.set_cons_succ])
  refine wpAnyH_take (i := 12) (v := undef) rfl (by kernel_rfl) (by kernel_rfl) (by kernel_rfl) (fun _ _ _ h => h) (Or.inr ⟨by rfl, rfl⟩) (by assumption) ?_
  (try simp only [List.getElem_toArray, List.getElem_cons_succ, List.getElem_cons_zero, Act.put, List.setIfInBounds_toArray, List.set_cons_zero, List.set_cons_succ])
  refine wpAnyH_take (i := 13) (v := undef) rfl (by kernel_rfl) (by kernel_rfl) (by kernel_rfl) (fun _ _ _ h => h) (Or.inr ⟨by rfl, rfl⟩) (by assumption) ?_
  (try simp only [List.getElem_toArray, List.getElem_cons_succ, List.getElem_cons_zero, Act.put, List.setIfInBounds_toArray, List.set_cons_zero, List.set_cons_succ])
  refine wpAnyH_take (i := 14) (v := undef) rfl (by kernel_rfl) (by kernel_rfl) (by kernel_rfl) (fun _ _ _ h => h) (Or.inr ⟨by rfl, rfl⟩) (by assumption) ?_
  (try simp only [List.getElem_toArray, List.getElem_cons_succ, List.getElem_cons_zero, Act.put, List.setIfInBounds_toArray, List.set_cons_zero, List.set_cons_succ])
  refine wpAnyH_take (i := 15) (v := undef) rfl (by kernel_rfl) (by kernel_rfl) (by kernel_rfl) (fun _ _ _ h => h) (Or.inr ⟨by rfl, rfl⟩) (by assumption) ?_
  (try simp only [List.getElem_toArray, List.getElem_cons_succ, List.getElem_cons_zero, Act.put, List.setIfInBounds_toArray, List.set_cons_zero, List.set_cons_succ])
  refine wpAnyH_take (i := 16) (v := undef) rfl (by kernel_rfl) (by kernel_rfl) (by kernel_rfl) (fun _ _ _ h => h) (Or.inr ⟨by rfl, rfl⟩) (by assumption) ?_
  (try simp only [List.getElem_toArray, List.getElem_cons_succ, List.getElem_cons_zero, Act.put, List.setIfInBounds_toArray, List.set_cons_zero, List.set_cons_succ])
  refine wpAnyH_take (i := 17) (v := undef) rfl (by kernel_rfl) (by kernel_rfl) (by kernel_rfl) (fun _ _ _ h => h) (Or.inr ⟨by rfl, rfl⟩) (by assumption) ?_
  (try simp only [List.getElem_toArray, List.getElem_cons_succ, List.getElem_cons_zero, Act.put, List.setIfInBounds_toArray, List.set_cons_zero, List.set_cons_succ])
  refine wpAnyH_take (i := 18) (v := undef) rfl (by kernel_rfl) (by kernel_rfl) (by kernel_rfl) (fun _ _ _ h => h) (Or.inr ⟨by rfl, rfl⟩) (by assumption) ?_
  (try simp only [List.getElem_toArray, List.getElem_cons_succ, List.getElem_cons_zero, Act.put, List.setIfInBounds_toArray, List.set_cons_zero, List.set_cons_succ])
  refine wpAnyH_take (i := 19) (v := undef) rfl (by kernel_rfl) (by kernel_rfl) (by kernel_rfl) (fun _ _ _ h => h) (Or.inr ⟨by rfl, rfl⟩) (by assumption) ?_
  (try simp only [List.getElem_toArray, List.getElem_cons_succ, List.getElem_cons_zero, Act.put, List.setIfInBounds_toArray, List.set_cons_zero, List.set_cons_succ])
  refine wpAnyH_take (i := 20) (v := undef) rfl (by kernel_rfl) (by kernel_rfl) (by kernel_rfl) (fun _ _ _ h => h) (Or.inr ⟨by rfl, rfl⟩) (by assumption) ?_
  (try simp only [List.getElem_toArray, List.getElem_cons_succ, List.getElem_cons_zero, Act.put, List.setIfInBounds_toArray, List.set_cons_zero, List.set_cons_succ])
  refine wpAnyH_take (i := 21) (v := undef) rfl (by kernel_rfl) (by kernel_rfl) (by kernel_rfl) (fun _ _ _ h => h) (Or.inr ⟨by rfl, rfl⟩) (by assumption) ?_
  (try simp only [List.getElem_toArray, List.getElem_cons_succ, List.getElem_cons_zero, Act.put, List.setIfInBounds_toArray, List.set_cons_zero, List.set_cons_succ])
  refine wpAnyH_take (i := 22) (v := undef) rfl (by kernel_rfl) (by kernel_rfl) (by kernel_rfl) (fun _ _ _ h => h) (Or.inr ⟨by rfl, rfl⟩) (by assumption) ?_
  (try simp only [List.getElem_toArray, List.getElem_cons_succ, List.getElem_cons_zero, Act.put, List.setIfInBounds_toArray, List.set_cons_zero, List.set_cons_succ])
  refine wpAnyH_take (i := 23) (v := undef) rfl (by kernel_rfl) (by kernel_rfl) (by kernel_rfl) (fun _ _ _ h => h) (Or.inr ⟨by rfl, rfl⟩) (by assumption) ?_
  (try simp only [List.getElem_toArray, List.getElem_cons_succ, List.getElem_cons_zero, Act.put, List.setIfInBounds_toArray, List.set_cons_zero, List.set_cons_succ])
  refine wpAnyH_take (i := 24) (v := undef) rfl (by kernel_rfl) (by kernel_rfl) (by kernel_rfl) (fun _ _ _ h => h) (Or.inr ⟨by rfl, rfl⟩) (by assumption) ?_
  (try simp only [List.getElem_toArray, List.getElem_cons_succ, List.getElem_cons_zero, Act.put, List.setIfInBounds_toArray, List.set_cons_zero, List.set_cons_succ])
  refine wpAnyH_take (i := 25) (v := undef) rfl (by kernel_rfl) (by kernel_rfl) (by kernel_rfl) (fun _ _ _ h => h) (Or.inr ⟨by rfl, rfl⟩) (by assumption) ?_
  (try simp only [List.getElem_toArray, List.getElem_cons_succ, List.getElem_cons_zero, Act.put, List.setIfInBounds_toArray, List.set_cons_zero, List.set_cons_succ])
  refine wpAnyH_take (i := 26) (v := undef) rfl (by kernel_rfl) (by kernel_rfl) (by kernel_rfl) (fun _ _ _ h => h) (Or.inr ⟨by rfl, rfl⟩) (by assumption) ?_
  (try simp only [List.getElem_toArray, List.getElem_cons_succ, List.getElem_cons_zero, Act.put, List.setIfInBounds_toArray, List.set_cons_zero, List.set_cons_succ])
  refine wpAnyH_take (i := 27) (v := undef) rfl (by kernel_rfl) (by kernel_rfl) (by kernel_rfl) (fun _ _ _ h => h) (Or.inr ⟨by rfl, rfl⟩) (by assumption) ?_
  (try simp only [List.getElem_toArray, List.getElem_cons_succ, List.getElem_cons_zero, Act.put, List.setIfInBounds_toArray, List.set_cons_zero, List.set_cons_succ])
  refine wpAnyH_take (i := 28) (v := undef) rfl (by kernel_rfl) (by kernel_rfl) (by kernel_rfl) (fun _ _ _ h => h) (Or.inr ⟨by rfl, rfl⟩) (by assumption) ?_
  (try simp only [List.getElem_toArray, List.getElem_cons_succ, List.getElem_cons_zero, Act.put, List.setIfInBounds_toArray, List.set_cons_zero, List.set_cons_succ])
  refine wpAnyH_take (i := 29) (v := ?_) rfl (by kernel_rfl) (by kernel_rfl) (by kernel_rfl) (fun _ _ _ h => h) (Or.inl ⟨by rfl, ?_⟩) (by assumption) ?_
  rotate_left
  · intro w hSw; (try dsimp only at hSw); go_simp; (try with_reducible rfl)
  (try simp only [List.getElem_toArray, List.getElem_cons_succ, List.getElem_cons_zero, Act.put, List.setIfInBounds_toArray, List.set_cons_zero, List.set_cons_succ])
  refine wpAnyH_take (i := 30) (v := ?_) rfl (by kernel_rfl) (by kernel_rfl) (by kernel_rfl) (fun _ _ _ h => h) (Or.inl ⟨by rfl, ?_⟩) (by assumption) ?_
  rotate_left
  · intro w hSw; (try dsimp only at hSw); go_simp; (try with_reducible rfl)
  (try simp only [List.getElem_toArray, List.getElem_cons_succ, List.getElem_cons_zero, Act.put, List.setIfInBounds_toArray, List.set_cons_zero, List.set_cons_succ])
  refine wpAnyH_done (by kernel_rfl) ?_ _
  go_split_ands
  go_wp2
  go_ret
  exact ⟨rfl, hb _ (by assumption)⟩
set_option maxRecDepth 100000 in
set_option maxHeartbeats 1600000 in
theorem way3 (W : World) (a : AskV) (user pass method target body cnonce : ByteArray) (n : Int) (hn : 0 ≤ n) (res : ByteArray) (hL : ∀ w' : World, Below W.heap.size W w' → Calls Tryd.prog 17 #[.agg a.arr, .agg #[.string user, .string pass], .string method, .string target, .string body, .string cnonce] w' fun e w'' => e = .returned (.bool false) ∧ Below w'.heap.size w' w'')
    (m1 : ∀ w' : World, Below W.heap.size W w' → Calls Tryd.prog 18 #[.agg a.arr, .agg #[.string user, .string pass], .string method, .string target, .string body, .string cnonce, .int .i64 n] w' fun e w'' => e = .returned (.string res) ∧ Below w'.heap.size w' w'')
    (m2 : ∀ w' : World, Below W.heap.size W w' → Calls Tryd.prog 19 #[.agg a.arr, .agg #[.string user, .string pass], .string method, .string target, .string body, .string cnonce, .int .i64 n] w' fun e w'' => e = .returned (.string res) ∧ Below w'.heap.size w' w'') :
    Calls Tryd.prog 5 #[.agg a.arr, .agg #[.string user, .string pass], .string method, .string target, .string body, .string cnonce, .int .i64 n] W fun e w' => e = .returned (.bool true) ∧ Below W.heap.size W w' := by
  have hd : decide (n < 0) = false := by simp; omega
  have hA := fun w' h => askAll (a := a) (user := user) (pass := pass) (W := W) (w' := w') h
  have hb := fun w' h => askBelow (a := a) (user := user) (pass := pass) (w := W) (w' := w') h
  have hxx : (res.toList == res.toList) = true := by simp
  obtain ⟨⟨sc, realm, nonce, opq, sess, qop, stale, dom⟩, ad, cap⟩ := a
  go_enter Tryd.func5, Tryd.ntmps5
  go_wp2_with fail
  go_region_held3 (fun w' => Below (W.heap.size + 2) ((W.alloc (boxA ⟨⟨sc, realm, nonce, opq, sess, qop, stale, dom⟩, ad, cap⟩)).alloc (boxC user pass)) w' ∧ w'.cell? ⟨W.heap.size, 0, none⟩ = some (.int .i64 sc) ∧ w'.cell? ⟨W.heap.size, 1, none⟩ = some (.string realm) ∧ w'.cell? ⟨W.heap.size, 2, none⟩ = some (.string nonce) ∧ w'.cell? ⟨W.heap.size, 3, none⟩ = some (.string opq) ∧ w'.cell? ⟨W.heap.size, 4, none⟩ = some (.bool sess) ∧ w'.cell? ⟨W.heap.size, 5, none⟩ = some (.string qop) ∧ w'.cell? ⟨W.heap.size, 6, none⟩ = some (.bool stale) ∧ w'.cell? ⟨W.heap.size, 7, none⟩ = some (.slice ad dom.length cap) ∧ w'.cell? ⟨W.heap.size + 1, 0, none⟩ = some (.string user) ∧ w'.cell? ⟨W.heap.size + 1, 1, none⟩ = some (.string pass))
    (first | (exact hA _ (Below.refl _ _).drew) | (go_split_ands; exact hA _ (kb_then (by assumption) (by assumption))))
    (first
      | (go_at_call 17; go_split_ands; refine (hL _ (hb _ (by assumption))).mono ?_; rintro e w2 ⟨rfl, hB2⟩)
      | (go_at_call 18; go_split_ands; refine (m1 _ (hb _ (by assumption))).mono ?_; rintro e w2 ⟨rfl, hB2⟩)
      | (go_at_call 19; go_split_ands; refine (m2 _ (hb _ (by assumption))).mono ?_; rintro e w2 ⟨rfl, hB2⟩))
  all_goals
    go_split_ands
    go_wp2
    go_ret
    exact ⟨ret_bool (by simp), hb _ (by assumption)⟩
set_option maxRecDepth 100000 in
theorem walk (W : World) (_hsh : W.ShapedOpen Tryd.prog) (hM : MdT W) (hS : ShaT W) (hd : Deb W) (cs : List Value) (hR : Rd Tryd.prog W 26 cs) (cs2 : List Value) (hR2 : Rd Tryd.prog W 28 cs2) (method : ByteArray) (z6 : method.size ≤ reachBytes) (target : ByteArray) (z7 : target.size ≤ reachBytes) (body : ByteArray) (z8 : body.size ≤ reachBytes) (cnonce : ByteArray) (z9 : cnonce.size ≤ reachBytes) (n : Int) (hn : (Lit.int .i64 n).wf = true) :
    Calls Tryd.prog 5 #[.agg cs.toArray, .agg cs2.toArray, .string method, .string target, .string body, .string cnonce, .int .i64 n] W fun e w' => e = .returned (.bool true) ∧ Below W.heap.size W w' := by
  obtain ⟨a, rfl, hO⟩ := ask_open hR
  obtain ⟨user, pass, rfl, z4, z5⟩ := creds_open hR2
  have hT : SumT W := ⟨hM, hS, hd⟩
  clear hR hR2 _hsh hM hS hd
  obtain ⟨b0, b1⟩ := bounds_i64 hn
  have hL := fun w' (h : Below W.heap.size W w') => long_says a user pass method target body cnonce w' (hO.later h) z4 z5 z6 z7 z8 z9
  show Calls Tryd.prog 5 #[.agg a.arr, .agg #[.string user, .string pass], .string method, .string target, .string body, .string cnonce, .int .i64 n] W _
  by_cases h0 : n < 0
  · exact way0 W a user pass method target body cnonce n h0
  · by_cases h5 : 500 < longN a.d user pass method target body cnonce
    · rw [show decide (500 < longN a.d user pass method target body cnonce) = true by simp [h5]] at hL
      exact way1 W a user pass method target body cnonce n (by omega) hL
    · rw [show decide (500 < longN a.d user pass method target body cnonce) = false by simp [h5]] at hL
      unfold longN at h5
      obtain ⟨m, rfl⟩ : ∃ m : Nat, n = (m : Int) := ⟨n.toNat, by omega⟩
      exact way3 W a user pass method target body cnonce m (by omega) (respB a.d user pass method target body cnonce m) hL
        (fun w' h => proofResponse a user pass method target body cnonce m w' (hT.later h) (by omega) (by omega) (by omega) (by omega) (by omega) (by omega) (by omega) (by omega) (by omega) (by omega))
        (fun w' h => refResponse a user pass method target body cnonce m w' (hT.later h) (by omega) (by omega) (by omega) (by omega) (by omega) (by omega) (by omega) (by omega) (by omega) (by omega))
end Go.Proofs.YtfkflgcifddnnaaDoor.lawProofResponses
