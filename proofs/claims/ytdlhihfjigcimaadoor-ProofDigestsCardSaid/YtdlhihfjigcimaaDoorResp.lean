/- proof.Response: what proves a request. -/
import Derived.Test.YtdlhihfjigcimaaDoorSumZ
import Derived.Test.YtdlhihfjigcimaaDoorSplit
import Derived.Test.YtdlhihfjigcimaaDoorDigs
import Derived.Test.YtdlhihfjigcimaaDoorAskV
import Derived.Test.YtdlhihfjigcimaaDoorFound
import Derived.Test.YtdlhihfjigcimaaDoorFoun2
import Derived.Deep.RegionHeld3
import Derived.Deep.DeepCutAuto
namespace Go.Proofs.YtdlhihfjigcimaaDoor
open Go.RowKit
def hashS (sc : Int) (s : ByteArray) : ByteArray := ⟨(hashL sc s.data.toList).toArray⟩
/-- the sum of texts with colons between -/
def hashB (sc : Int) (ss : List ByteArray) : ByteArray := ⟨(hashL sc (Lib.join (datas ss) [58])).toArray⟩
theorem hashB_size (sc : Int) (ss : List ByteArray) : (hashB sc ss).size ≤ 64 := by
  unfold hashB; rw [mk_len]; exact hashL_len _ _
theorem hashS_size (sc : Int) (s : ByteArray) : (hashS sc s).size ≤ 64 := by
  unfold hashS; rw [mk_len]; exact hashL_len _ _
def HashPost (sc : Int) (ss : List ByteArray) (w : World) (e : Ending) (w' : World) : Prop := e = .returned (.string (hashB sc ss)) ∧ Below w.heap.size w w'
theorem proofHashN (sc : Int) (ss : List ByteArray) (w : World) (hT : SumT w) (hn : ss.length ≤ 10) (hl : ∀ s ∈ ss, s.size ≤ 20000) :
    Calls Tryd.prog 107 #[.int .i64 sc, .slice (some ⟨w.heap.size, 0, none⟩) ss.length ss.length] (w.alloc (.cells (ss.map Value.string).toArray 9)) (HashPost sc ss w) := by
  have hj := join_len 20000 [58] ss hl
  have h2 : ss.length * (20000 + ([58] : List UInt8).length) ≤ 10 * 20001 := Nat.mul_le_mul hn (Nat.le_refl _)
  exact (proofHash sc (some ⟨w.heap.size, 0, none⟩) ss.length ss _ (hT.later ((Below.refl _ _).alloc (Nat.le_refl _) _)) (pieces_at w ss) (Nat.le_refl _) (by omega) (by omega)).mono fun e w' h => ⟨h.1, ((Below.refl _ _).alloc (Nat.le_refl _) _).then (Nat.le_refl _) h.2⟩
theorem strAt_new (w : World) (ss : List ByteArray) (b : Nat) (hb : b = w.heap.size) : StrAt (w.alloc (.cells (ss.map Value.string).toArray 9)) (some ⟨b, 0, none⟩) ss := by subst hb; exact pieces_at w ss
theorem proofHashW (sc : Int) (ss : List ByteArray) (b n : Nat) (W : World) (hT : SumT W) (hS : StrAt W (some ⟨b, 0, none⟩) ss) (hn : n = ss.length) (h10 : ss.length ≤ 10) (hl : ∀ s ∈ ss, s.size ≤ 20000) :
    Calls Tryd.prog 107 #[.int .i64 sc, .slice (some ⟨b, 0, none⟩) n n] W fun e w' => e = .returned (.string (hashB sc ss)) ∧ Below W.heap.size W w' := by
  subst hn
  have hj := join_len 20000 [58] ss hl
  have h2 : ss.length * (20000 + ([58] : List UInt8).length) ≤ 10 * 20001 := Nat.mul_le_mul h10 (Nat.le_refl _)
  exact proofHash sc (some ⟨b, 0, none⟩) ss.length ss W hT hS (Nat.le_refl _) (by omega) (by omega)
theorem strAt1 (w : World) (x : ByteArray) (b : Nat) (hb : b = w.heap.size) : StrAt (w.alloc (.cells #[.string x] 9)) (some ⟨b, 0, none⟩) [x] := strAt_new w [x] b hb
theorem strAt1d (w : World) (x : ByteArray) (b : Nat) (hb : b = w.heap.size) : StrAt (w.alloc (.cells #[.string x] 9)).drew (some ⟨b, 0, none⟩) [x] := strAt_new w [x] b hb
theorem hashC1 (sc : Int) (x : ByteArray) (b : Nat) (W : World) (hT : SumT W) (hS : StrAt W (some ⟨b, 0, none⟩) [x]) (hx : x.size ≤ 20000) :
    Calls Tryd.prog 107 #[.int .i64 sc, .slice (some ⟨b, 0, none⟩) 1 1] W fun e w' => e = .returned (.string (hashB sc [x])) ∧ Below W.heap.size W w' :=
  proofHashW sc [x] b 1 W hT hS rfl (by simp) (by simp; exact hx)
theorem strAt2 (w : World) (x y : ByteArray) (b : Nat) (hb : b = w.heap.size) : StrAt (w.alloc (.cells #[.string x, .string y] 9)) (some ⟨b, 0, none⟩) [x, y] := strAt_new w [x, y] b hb
theorem hashC2 (sc : Int) (x y : ByteArray) (b : Nat) (W : World) (hT : SumT W) (hS : StrAt W (some ⟨b, 0, none⟩) [x, y]) (hx : x.size ≤ 20000) (hy : y.size ≤ 20000) :
    Calls Tryd.prog 107 #[.int .i64 sc, .slice (some ⟨b, 0, none⟩) 2 2] W fun e w' => e = .returned (.string (hashB sc [x, y])) ∧ Below W.heap.size W w' :=
  proofHashW sc [x, y] b 2 W hT hS rfl (by simp) (by simp; exact ⟨hx, hy⟩)
theorem strAt3 (w : World) (x y z : ByteArray) (b : Nat) (hb : b = w.heap.size) : StrAt (w.alloc (.cells #[.string x, .string y, .string z] 9)) (some ⟨b, 0, none⟩) [x, y, z] := strAt_new w [x, y, z] b hb
theorem hashC3 (sc : Int) (x y z : ByteArray) (b : Nat) (W : World) (hT : SumT W) (hS : StrAt W (some ⟨b, 0, none⟩) [x, y, z]) (hx : x.size ≤ 20000) (hy : y.size ≤ 20000) (hz : z.size ≤ 20000) :
    Calls Tryd.prog 107 #[.int .i64 sc, .slice (some ⟨b, 0, none⟩) 3 3] W fun e w' => e = .returned (.string (hashB sc [x, y, z])) ∧ Below W.heap.size W w' :=
  proofHashW sc [x, y, z] b 3 W hT hS rfl (by simp) (by simp; exact ⟨hx, hy, hz⟩)
theorem strAt6 (w : World) (x y z u v t : ByteArray) (b : Nat) (hb : b = w.heap.size) : StrAt (w.alloc (.cells #[.string x, .string y, .string z, .string u, .string v, .string t] 9)) (some ⟨b, 0, none⟩) [x, y, z, u, v, t] := strAt_new w [x, y, z, u, v, t] b hb
theorem hashC6 (sc : Int) (x y z u v t : ByteArray) (b : Nat) (W : World) (hT : SumT W) (hS : StrAt W (some ⟨b, 0, none⟩) [x, y, z, u, v, t]) (hx : x.size ≤ 20000) (hy : y.size ≤ 20000) (hz : z.size ≤ 20000) (hu : u.size ≤ 20000) (hv : v.size ≤ 20000) (ht : t.size ≤ 20000) :
    Calls Tryd.prog 107 #[.int .i64 sc, .slice (some ⟨b, 0, none⟩) 6 6] W fun e w' => e = .returned (.string (hashB sc [x, y, z, u, v, t])) ∧ Below W.heap.size W w' :=
  proofHashW sc [x, y, z, u, v, t] b 6 W hT hS rfl (by simp) (by simp; exact ⟨hx, hy, hz, hu, hv, ht⟩)
def oneB (sc : Int) (realm nonce : ByteArray) (sess : Bool) (user pass cnonce : ByteArray) : ByteArray :=
  if sess then hashB sc [hashB sc [user, realm, pass], nonce, cnonce] else hashB sc [user, realm, pass]
def twoB (sc : Int) (qop method target body : ByteArray) : ByteArray :=
  if qop.toList == [97, 117, 116, 104, 45, 105, 110, 116] then hashB sc [method, target, hashB sc [body]] else hashB sc [method, target]
def endB (sc : Int) (nonce qop cnonce cnt one two : ByteArray) : ByteArray :=
  if qop.toList.isEmpty then hashB sc [one, nonce, two] else hashB sc [one, nonce, cnt, cnonce, qop, two]
def countB (n : Nat) : ByteArray := ⟨(fillD 16 n 8).toArray⟩
/-- what proves a request -/
def respB (a : AskD) (user pass method target body cnonce : ByteArray) (n : Nat) : ByteArray :=
  endB a.scheme a.nonce a.qop cnonce (countB n) (oneB a.scheme a.realm a.nonce a.sess user pass cnonce) (twoB a.scheme a.qop method target body)
theorem countB_size (n : Nat) : (countB n).size ≤ 65 := by
  unfold countB fillD
  rw [mk_len, tailD_length]
  have : nlen 16 n ≤ 65 := nlenF_le 16 64 n
  omega
abbrev boxA (a : AskV) : Obj := .cells a.arr 26
abbrev boxC (user pass : ByteArray) : Obj := .cells #[.string user, .string pass] 45
def AskCells (b : Nat) (a : AskV) (user pass : ByteArray) (w : World) : Prop :=
  w.cell? ⟨b, 0, none⟩ = some (.int .i64 a.d.scheme) ∧ w.cell? ⟨b, 1, none⟩ = some (.string a.d.realm) ∧ w.cell? ⟨b, 2, none⟩ = some (.string a.d.nonce) ∧ w.cell? ⟨b, 3, none⟩ = some (.string a.d.opaque_) ∧ w.cell? ⟨b, 4, none⟩ = some (.bool a.d.sess) ∧ w.cell? ⟨b, 5, none⟩ = some (.string a.d.qop) ∧ w.cell? ⟨b + 1, 0, none⟩ = some (.string user) ∧ w.cell? ⟨b + 1, 1, none⟩ = some (.string pass)
theorem askCells {a : AskV} {user pass : ByteArray} {w w' : World} (h : Below (w.heap.size + 2) ((w.alloc (boxA a)).alloc (boxC user pass)) w') : AskCells w.heap.size a user pass w' := by
  have hb := below_box (w := w.alloc (boxA a)) (by simpa using h)
  have hb' : Below (w.heap.size + 1) (w.alloc (boxA a)) w' := by simpa using hb
  have hc : Below ((w.alloc (boxA a)).heap.size + 1) ((w.alloc (boxA a)).alloc (boxC user pass)) w' := by simpa using h
  have e : (w.alloc (boxA a)).heap.size = w.heap.size + 1 := by simp
  refine ⟨box_cell hb' 0 rfl, box_cell hb' 1 rfl, box_cell hb' 2 rfl, box_cell hb' 3 rfl, box_cell hb' 4 rfl, box_cell hb' 5 rfl, ?_, ?_⟩
  · rw [← e]; exact box_cell hc 0 rfl
  · rw [← e]; exact box_cell hc 1 rfl
theorem askBelow {a : AskV} {user pass : ByteArray} {w w' : World} (h : Below (w.heap.size + 2) ((w.alloc (boxA a)).alloc (boxC user pass)) w') : Below w.heap.size w w' := by
  have hb := below_box (w := w.alloc (boxA a)) (by simpa using h)
  exact below_box (by simpa using hb)
section
variable {a : AskV} {user pass : ByteArray} {w wx wy : World}
theorem kb_size (h : Below (w.heap.size + 2) ((w.alloc (boxA a)).alloc (boxC user pass)) wx) : w.heap.size + 2 ≤ wx.heap.size := by have := h.size; simpa using this
theorem kb_then (h : Below (w.heap.size + 2) ((w.alloc (boxA a)).alloc (boxC user pass)) wx) (h2 : Below wx.heap.size wx wy) : Below (w.heap.size + 2) ((w.alloc (boxA a)).alloc (boxC user pass)) wy := h.then (by simp) h2
theorem kb_alloc (h : Below (w.heap.size + 2) ((w.alloc (boxA a)).alloc (boxC user pass)) wx) (o : Obj) : Below (w.heap.size + 2) ((w.alloc (boxA a)).alloc (boxC user pass)) (wx.alloc o) := h.alloc (kb_size h) o
theorem kb_new (w : World) (a : AskV) (user pass : ByteArray) : Below (w.heap.size + 2) ((w.alloc (boxA a)).alloc (boxC user pass)) ((w.alloc (boxA a)).alloc (boxC user pass)) := Below.refl _ _
end
set_option maxRecDepth 100000 in
set_option maxHeartbeats 16000000 in
theorem proofResponse (a : AskV) (user pass method target body cnonce : ByteArray) (n : Nat) (w : World) (hT : SumT w) (hn : n < 9223372036854775808)
    (z1 : a.d.realm.size ≤ 20000) (z2 : a.d.nonce.size ≤ 20000) (z3 : a.d.qop.size ≤ 20000) (z4 : user.size ≤ 20000) (z5 : pass.size ≤ 20000) (z6 : method.size ≤ 20000) (z7 : target.size ≤ 20000) (z8 : body.size ≤ 20000) (z9 : cnonce.size ≤ 20000) :
    Calls Tryd.prog 65 #[.agg a.arr, .agg #[.string user, .string pass], .string method, .string target, .string body, .string cnonce, .int .i64 n] w fun e w' => e = .returned (.string (respB a.d user pass method target body cnonce n)) ∧ Below w.heap.size w w' := by
  have hW : Below w.heap.size w ((w.alloc (boxA a)).alloc (boxC user pass)) := ((Below.refl _ _).alloc (Nat.le_refl _) _).alloc (by simp) _
  have hc := fun w' h => askCells (a := a) (user := user) (pass := pass) (w := w) (w' := w') h
  have hb := fun w' h => askBelow (a := a) (user := user) (pass := pass) (w := w) (w' := w') h
  obtain ⟨C, hC⟩ : ∃ C, C = countB n := ⟨_, rfl⟩
  have hcs := countB_size n
  have hct := fun w' hd => proofCount n hn w' hd
  rw [show (⟨(fillD 16 n 8).toArray⟩ : ByteArray) = countB n from rfl, ← hC] at hct
  rw [← hC] at hcs
  obtain ⟨one, hone⟩ : ∃ x, x = oneB a.d.scheme a.d.realm a.d.nonce a.d.sess user pass cnonce := ⟨_, rfl⟩
  obtain ⟨two, htwo⟩ : ∃ x, x = twoB a.d.scheme a.d.qop method target body := ⟨_, rfl⟩
  have hones : one.size ≤ 20000 := by
    rw [hone]; unfold oneB
    split <;> exact Nat.le_trans (hashB_size _ _) (by decide)
  have htwos : two.size ≤ 20000 := by
    rw [htwo]; unfold twoB
    split <;> exact Nat.le_trans (hashB_size _ _) (by decide)
  have hfin := Lib.hid (show respB a.d user pass method target body cnonce n = endB a.d.scheme a.d.nonce a.d.qop cnonce C one two by rw [hC, hone, htwo]; rfl)
  have hone' := Lib.hid hone
  have htwo' := Lib.hid htwo
  clear hC hone htwo hn
  obtain ⟨⟨sc, realm, nonce, opq, sess, qop, stale, dom⟩, ad, cap⟩ := a
  simp only at z1 z2 z3 hone' htwo' hfin hW
  generalize hrr : respB _ user pass method target body cnonce n = res at hfin ⊢
  clear hrr
  go_enter Tryd.func65, Tryd.ntmps65
  go_wp2_with fail
  refine (proofHashW sc [user, realm, pass] _ _ _ (hT.later (hW.then (Nat.le_refl _) ((Below.refl _ _).alloc (Nat.le_refl _) _))) (strAt_new _ [user, realm, pass] _ (by simp)) rfl (by simp) (by simp; exact ⟨z4, z1, z5⟩)).mono ?_
  rintro e w1 ⟨rfl, hB1⟩
  have hB1' : Below (w.heap.size + 2) ((w.alloc (boxA ⟨⟨sc, realm, nonce, opq, sess, qop, stale, dom⟩, ad, cap⟩)).alloc (boxC user pass)) w1 := kb_then (kb_alloc (kb_new w _ user pass) _) hB1
  obtain ⟨k0, k1, k2, k3, k4, k5, u0, u1⟩ := hc _ hB1'
  clear hB1
  go_upto_if 28 with (fail)
  go_cut [15] (fun s wx => s = .string one ∧ Hid (Below (w.heap.size + 2) ((w.alloc (boxA ⟨⟨sc, realm, nonce, opq, sess, qop, stale, dom⟩, ad, cap⟩)).alloc (boxC user pass)) wx))
  case first =>
    cases sess
    · have hB1h := Lib.hid hB1'
      clear hB1'
      go_wp2_with fail
      go_meet
      exact ⟨by rw [hone'.out]; rfl, hB1h⟩
    · have hB1h := Lib.hid hB1'
      have hT1 := hT.later (hb _ hB1')
      have hs1 := hashB_size sc [user, realm, pass]
      clear hB1'
      go_wp2_with fail
      refine (proofHashW sc [hashB sc [user, realm, pass], nonce, cnonce] _ _ _ (hT1.later ((Below.refl _ _).alloc (Nat.le_refl _) _)) (strAt_new _ [hashB sc [user, realm, pass], nonce, cnonce] _ (by simp)) rfl (by simp) (by simp; exact ⟨by omega, z2, z9⟩)).mono ?_
      rintro e w2 ⟨rfl, hB2⟩
      go_wp2_with fail
      go_meet
      exact ⟨by rw [hone'.out]; rfl, Lib.hid (kb_then (kb_alloc hB1h.out _) hB2)⟩
  case rest =>
    clear hB1' k0 k1 k2 k3 k4 k5 u0 u1
    obtain ⟨rfl, hBc⟩ := hcut
    obtain ⟨k0, k1, k2, k3, k4, k5, u0, u1⟩ := hc _ hBc.out
    have hTc := hT.later (hb _ hBc.out)
    go_wp2_with fail
    refine (proofHashW sc [method, target] _ _ _ (hTc.later ((Below.refl _ _).alloc (Nat.le_refl _) _)) (strAt_new _ [method, target] _ (by simp)) rfl (by simp) (by simp; exact ⟨z6, z7⟩)).mono ?_
    rintro e w3 ⟨rfl, hB3⟩
    have hB3' := Lib.hid (kb_then (kb_alloc hBc.out _) hB3)
    clear k0 k1 k2 k3 k4 k5 u0 u1 hTc hB3 hBc
    obtain ⟨k0, k1, k2, k3, k4, k5, u0, u1⟩ := hc _ hB3'.out
    have hT3 := Lib.hid (hT.later (hb _ hB3'.out))
    go_upto_if 45 with (fail)
    go_cut [16] (fun s wx => s = .string two ∧ Hid (Below (w.heap.size + 2) ((w.alloc (boxA ⟨⟨sc, realm, nonce, opq, sess, qop, stale, dom⟩, ad, cap⟩)).alloc (boxC user pass)) wx))
    case first =>
      cases hq : (qop.toList == [97, 117, 116, 104, 45, 105, 110, 116])
      · have htt := Lib.hid (show two = hashB sc [method, target] by rw [htwo'.out]; unfold twoB; rw [hq]; rfl)
        go_wp2_with fail
        go_meet
        exact ⟨by rw [htt.out], hB3'⟩
      · have htt := Lib.hid (show two = hashB sc [method, target, hashB sc [body]] by rw [htwo'.out]; unfold twoB; rw [hq]; rfl)
        have z10 : (hashB sc [body]).size ≤ 20000 := Nat.le_trans (hashB_size sc [body]) (by decide)
        have hkk := fun w' h => (⟨h, hc w' h⟩ : _ ∧ AskCells w.heap.size ⟨⟨sc, realm, nonce, opq, sess, qop, stale, dom⟩, ad, cap⟩ user pass w')
        unfold AskCells at hkk
        go_wp2_with fail
        clear k0 k1 k2 k3 k4 k5 u0 u1
        go_region_held3 (fun w' => Below (w.heap.size + 2) ((w.alloc (boxA ⟨⟨sc, realm, nonce, opq, sess, qop, stale, dom⟩, ad, cap⟩)).alloc (boxC user pass)) w' ∧ w'.cell? ⟨w.heap.size, 0, none⟩ = some (.int .i64 sc) ∧ w'.cell? ⟨w.heap.size, 1, none⟩ = some (.string realm) ∧ w'.cell? ⟨w.heap.size, 2, none⟩ = some (.string nonce) ∧ w'.cell? ⟨w.heap.size, 3, none⟩ = some (.string opq) ∧ w'.cell? ⟨w.heap.size, 4, none⟩ = some (.bool sess) ∧ w'.cell? ⟨w.heap.size, 5, none⟩ = some (.string qop) ∧ w'.cell? ⟨w.heap.size + 1, 0, none⟩ = some (.string user) ∧ w'.cell? ⟨w.heap.size + 1, 1, none⟩ = some (.string pass))
          (first | (exact hkk _ hB3'.out.drew) | (go_split_ands; exact hkk _ (kb_alloc (by assumption) _)) | (go_split_ands; exact hkk _ (kb_then (by assumption) (by assumption))))
          (first
            | (go_at_call 107; go_split_ands; (with_reducible refine (hashC1 sc body _ _ (hT.later (hb _ (by assumption))) (strAt1d _ _ _ (by first | rfl | simp)) z8).mono ?_); rintro e w5 ⟨rfl, hB5⟩)
            | (go_at_call 107; go_split_ands; (with_reducible refine (hashC3 sc method target (hashB sc [body]) _ _ (hT.later (hb _ (by assumption))) (strAt3 _ _ _ _ _ (by first | rfl | simp)) z6 z7 z10).mono ?_); rintro e w6 ⟨rfl, hB6⟩)
            | fail)
        all_goals
          go_split_ands
          go_wp2_with fail
          go_meet
          exact ⟨by rw [htt.out], Lib.hid (by assumption)⟩
    case rest =>
      clear k0 k1 k2 k3 k4 k5 u0 u1 hB3' hT3
      obtain ⟨rfl, hBd⟩ := hcut
      have hkk := fun w' h => (⟨h, hc w' h⟩ : _ ∧ AskCells w.heap.size ⟨⟨sc, realm, nonce, opq, sess, qop, stale, dom⟩, ad, cap⟩ user pass w')
      have hTd := hT.later (hb _ hBd.out)
      cases he : qop.toList.isEmpty
      · have hres := Lib.hid (show res = hashB sc [one, nonce, C, cnonce, qop, two] by rw [hfin.out]; unfold endB; rw [he]; rfl)
        obtain ⟨k0, k1, k2, k3, k4, k5, u0, u1⟩ := hc _ hBd.out
        unfold AskCells at hkk
        go_wp2_with fail
        clear k0 k1 k2 k3 k4 k5 u0 u1
        go_region_held3 (fun w' => Below (w.heap.size + 2) ((w.alloc (boxA ⟨⟨sc, realm, nonce, opq, sess, qop, stale, dom⟩, ad, cap⟩)).alloc (boxC user pass)) w' ∧ w'.cell? ⟨w.heap.size, 0, none⟩ = some (.int .i64 sc) ∧ w'.cell? ⟨w.heap.size, 1, none⟩ = some (.string realm) ∧ w'.cell? ⟨w.heap.size, 2, none⟩ = some (.string nonce) ∧ w'.cell? ⟨w.heap.size, 3, none⟩ = some (.string opq) ∧ w'.cell? ⟨w.heap.size, 4, none⟩ = some (.bool sess) ∧ w'.cell? ⟨w.heap.size, 5, none⟩ = some (.string qop) ∧ w'.cell? ⟨w.heap.size + 1, 0, none⟩ = some (.string user) ∧ w'.cell? ⟨w.heap.size + 1, 1, none⟩ = some (.string pass))
          (first | (exact hkk _ hBd.out.drew) | (go_split_ands; exact hkk _ (kb_alloc (by assumption) _)) | (go_split_ands; exact hkk _ (kb_then (by assumption) (by assumption))))
          (first
            | (go_at_call 67; go_split_ands; refine (hct _ (hT.later (hb _ (by assumption))).deb).mono ?_; rintro e w5 ⟨rfl, hB5⟩)
            | (go_at_call 107; go_split_ands; (with_reducible refine (hashC6 sc one nonce C cnonce qop two _ _ (hT.later (hb _ (by assumption))) (strAt6 _ _ _ _ _ _ _ _ (by first | rfl | simp)) hones z2 (by omega) z9 z3 htwos).mono ?_); rintro e w6 ⟨rfl, hB6⟩))
        all_goals
          go_split_ands
          go_wp2
          go_ret
          exact ⟨ret_str (by rw [hres.out]), hb _ (by assumption)⟩
      · have hres := Lib.hid (show res = hashB sc [one, nonce, two] by rw [hfin.out]; unfold endB; rw [he]; rfl)
        obtain ⟨k0, k1, k2, k3, k4, k5, u0, u1⟩ := hc _ hBd.out
        go_wp2_with fail
        refine (proofHashW sc [one, nonce, two] _ _ _ (hTd.later ((Below.refl _ _).alloc (Nat.le_refl _) _)) (strAt_new _ [one, nonce, two] _ (by simp)) rfl (by simp) (by simp; exact ⟨hones, z2, htwos⟩)).mono ?_
        rintro e w6 ⟨rfl, hB6⟩
        have hB7 := Lib.hid ((hb _ hBd.out).then (Nat.le_refl _) (((Below.refl _ _).alloc (Nat.le_refl _) _).then (Nat.le_refl _) hB6))
        go_wp2
        go_ret
        exact ⟨ret_str (by rw [hres.out]), hB7.out⟩
end Go.Proofs.YtdlhihfjigcimaaDoor
