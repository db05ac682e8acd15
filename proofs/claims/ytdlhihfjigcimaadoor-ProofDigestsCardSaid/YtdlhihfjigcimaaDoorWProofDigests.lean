/- ProofDigests: proof.Digest returns what the reference's Digest returns, for any arguments: the walk of the statement. -/
import Derived.Test.YtdlhihfjigcimaaDoorDigW
import Derived.Test.YtdlhihfjigcimaaDoorDigR
import Derived.Test.YtdlhihfjigcimaaDoorErrs
namespace Go.Proofs.YtdlhihfjigcimaaDoor.lawProofDigests
open Go.ChangeShapes Go.WideShapes Go.ChangeAt Go.RowKit Go.WideElems
theorem errD_is (w : World) (k : Int) : ErrIs w (errD k) k (-1) := by
  unfold errD
  split
  · rename_i h; subst h; exact ErrIs.none _
  · exact ErrIs.num _ k
set_option maxRecDepth 100000 in
set_option maxHeartbeats 4000000 in
theorem walk (W : World) (_hsh : W.ShapedOpen Tryd.prog) (hM : MdT W) (hS : ShaT W) (hd : Deb W) (hg : ErrType W) (cs : List Value) (hR : Rd Tryd.prog W 26 cs) (cs2 : List Value) (hR2 : Rd Tryd.prog W 45 cs2) (method : ByteArray) (y6 : method.size ≤ reachBytes) (target : ByteArray) (y7 : target.size ≤ reachBytes) (body : ByteArray) (y8 : body.size ≤ reachBytes) (cnonce : ByteArray) (y9 : cnonce.size ≤ reachBytes) (n : Int) (hn : (Lit.int .i64 n).wf = true) :
    Calls Tryd.prog 7 #[.agg cs.toArray, .agg cs2.toArray, .string method, .string target, .string body, .string cnonce, .int .i64 n] W fun e w' => e = .returned (.bool true) ∧ Below W.heap.size W w' := by
  obtain ⟨a, rfl, hO⟩ := ask_open hR
  obtain ⟨user, pass, rfl, y4, y5⟩ := creds_open hR2
  have hT : SumT W := ⟨hM, hS, hd⟩
  clear hR hR2 _hsh hM hS hd
  obtain ⟨b0, b1⟩ := bounds_i64 hn
  have hL := fun w' (h : Below W.heap.size W w') => long_says a user pass method target body cnonce w' (hO.later h) y4 y5 y6 y7 y8 y9
  have hkw := hO.scheme
  show Calls Tryd.prog 7 #[.agg a.arr, .agg #[.string user, .string pass], .string method, .string target, .string body, .string cnonce, .int .i64 n] W _
  have hb := fun w' h => askBelow (a := a) (user := user) (pass := pass) (w := W) (w' := w') h
  have hBl := fun w' (h : Below (W.heap.size + 2) ((W.alloc (boxA a)).alloc (boxC user pass)) w') => (show Blk w' W.heap.size a.arr tAsk from ((Blk.new W _ _).alloc _).later (by simpa using h))
  have hCl := fun w' (h : Below (W.heap.size + 2) ((W.alloc (boxA a)).alloc (boxC user pass)) w') => (show Blk w' (W.heap.size + 1) #[.string user, .string pass] tCreds from Blk.later (w := (W.alloc (boxA a)).alloc (boxC user pass)) (by simpa using Blk.new (W.alloc (boxA a)) #[.string user, .string pass] tCreds) (by simpa using h))
  have hW := kb_new W a user pass
  have P1 : ¬ 500 < longN a.d user pass method target body cnonce → ∀ w', Below W.heap.size W w' → Calls Tryd.prog 22 #[.agg a.arr, .agg #[.string user, .string pass], .string method, .string target, .string body, .string cnonce, .int .i64 n] w' fun e w2 => e = .returned (digRV (digRes a.d user target cnonce (respB a.d user pass method target body cnonce n.toNat) (countB n.toNat) n)) ∧ Below w'.heap.size w' w2 := fun h5 w' h => by
    unfold longN at h5
    exact refDigest a user pass method target body cnonce n w' (hT.later h) (by omega) hkw (by omega) (by omega) (by omega) (by omega) (by omega) (by omega) (by omega) (by omega) (by omega) (by omega)
  have P2 : ¬ 500 < longN a.d user pass method target body cnonce → ∀ w', Below W.heap.size W w' → Calls Tryd.prog 23 #[.agg a.arr, .agg #[.string user, .string pass], .string method, .string target, .string body, .string cnonce, .int .i64 n] w' fun e w2 => e = .returned (digV (digRes a.d user target cnonce (respB a.d user pass method target body cnonce n.toNat) (countB n.toNat) n)) ∧ Below w'.heap.size w' w2 := fun h5 w' h => by
    unfold longN at h5
    exact proofDigest a user pass method target body cnonce n w' (hT.later h) (by omega) (by omega) (by omega) (by omega) (by omega) (by omega) (by omega) (by omega) (by omega) (by omega) (by omega)
  unfold digRV at P1
  unfold digV at P2
  generalize (digRes a.d user target cnonce (respB a.d user pass method target body cnonce n.toNat) (countB n.toNat) n).2 = S at P1 P2
  generalize (digRes a.d user target cnonce (respB a.d user pass method target body cnonce n.toNat) (countB n.toNat) n).1 = E at P1 P2
  have hE := fun w' => errD_is w' E
  generalize errD E = X at P2 hE
  have hA0 := hBl _ hW
  have hC0 := hCl _ hW
  have hW' := Lib.hid hW
  by_cases h5 : 500 < longN a.d user pass method target body cnonce
  · rw [show decide (500 < longN a.d user pass method target body cnonce) = true by simp [h5]] at hL
    clear P1 P2 h5
    go_enter Tryd.func7, Tryd.ntmps7
    go_wp2_with (first
      | (refine wpList_load_blk rfl tAsk _ rfl _ rfl hA0 _ Tryd.underlying26 rfl infoAsk ?_)
      | (refine wpList_load_blk rfl tCreds _ rfl _ rfl hC0 _ Tryd.underlying45 rfl infoCreds ?_))
    refine (hL _ (hb _ hW'.out)).mono ?_
    rintro e w1 ⟨rfl, hB1⟩
    have hB2 := hb _ (kb_then hW'.out hB1)
    go_wp2
    go_ret
    exact ⟨rfl, hB2⟩
  · rw [show decide (500 < longN a.d user pass method target body cnonce) = false by simp [h5]] at hL
    have Q1 := P1 h5
    have Q2 := P2 h5
    have hxx : (S.toList == S.toList) = true := by simp
    have hee : ((E == E) && ((-1 : Int) == -1)) = true := by simp
    clear P1 P2 h5
    go_enter Tryd.func7, Tryd.ntmps7
    go_wp2_with (first
      | (refine wpList_load_blk rfl tAsk _ rfl _ rfl hA0 _ Tryd.underlying26 rfl infoAsk ?_)
      | (refine wpList_load_blk rfl tCreds _ rfl _ rfl hC0 _ Tryd.underlying45 rfl infoCreds ?_))
    refine (hL _ (hb _ hW'.out)).mono ?_
    rintro e w1 ⟨rfl, hB1⟩
    have hW1 := Lib.hid (kb_then hW'.out hB1)
    have hA1 := hBl _ hW1.out
    have hC1 := hCl _ hW1.out
    clear hB1 hA0 hC0 hW'
    go_wp2_with (first
      | (refine wpList_load_blk rfl tAsk _ rfl _ rfl hA1 _ Tryd.underlying26 rfl infoAsk ?_)
      | (refine wpList_load_blk rfl tCreds _ rfl _ rfl hC1 _ Tryd.underlying45 rfl infoCreds ?_))
    refine (Q1 _ (hb _ hW1.out)).mono ?_
    rintro e w2 ⟨rfl, hB2⟩
    have hW2 := Lib.hid (kb_then hW1.out hB2)
    have hA2 := hBl _ hW2.out
    have hC2 := hCl _ hW2.out
    clear hB2 hA1 hC1 hW1
    go_wp2_with (first
      | (refine wpList_load_blk rfl tAsk _ rfl _ rfl hA2 _ Tryd.underlying26 rfl infoAsk ?_)
      | (refine wpList_load_blk rfl tCreds _ rfl _ rfl hC2 _ Tryd.underlying45 rfl infoCreds ?_))
    refine (Q2 _ (hb _ hW2.out)).mono ?_
    rintro e w3 ⟨rfl, hB3⟩
    have hW3 := Lib.hid (kb_then hW2.out hB3)
    have hgl := hg.later (hb _ hW3.out)
    have hba := bare_is E hgl (hE w3)
    rw [hee] at hba
    clear hB3 hA2 hC2 hW2
    go_wp2_with fail
    refine hba.mono ?_
    rintro e w4 ⟨rfl, hB4⟩
    have hB5 := hb _ (kb_then hW3.out hB4)
    go_wp2
    go_ret
    exact ⟨rfl, hB5⟩
end Go.Proofs.YtdlhihfjigcimaaDoor.lawProofDigests
