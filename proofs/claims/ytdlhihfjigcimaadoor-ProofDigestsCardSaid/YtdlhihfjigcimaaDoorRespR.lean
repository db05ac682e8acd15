/- The reference's Response. -/
import Derived.Test.YtdlhihfjigcimaaDoorResp
namespace Go.Proofs.YtdlhihfjigcimaaDoor
open Go.RowKit
theorem hashS_B (sc : Int) (ss : List ByteArray) (s : ByteArray) (h : s.data.toList = Lib.join (datas ss) [58]) : hashS sc s = hashB sc ss := by unfold hashS hashB; rw [h]
theorem refHS (sc : Int) (ss : List ByteArray) (s : ByteArray) (w : World) (hT : SumT w) (h : s.data.toList = Lib.join (datas ss) [58]) (hs : s.size ≤ 1000000) :
    Calls Tryd.prog 104 #[.int .i64 sc, .string s] w fun e w' => e = .returned (.string (hashB sc ss)) ∧ Below w.heap.size w w' := by
  have := refH sc s hs w hT
  rw [h] at this; exact this
theorem join2 (x y : ByteArray) : ((x ++ (⟨#[58]⟩ : ByteArray)) ++ y).data.toList = Lib.join (datas [x, y]) [58] := by
  simp [datas, Lib.join_cons, Lib.joinTail]
theorem join3 (x y z : ByteArray) : ((((x ++ (⟨#[58]⟩ : ByteArray)) ++ y) ++ (⟨#[58]⟩ : ByteArray)) ++ z).data.toList = Lib.join (datas [x, y, z]) [58] := by
  simp [datas, Lib.join_cons, Lib.joinTail]
theorem join3' (x y z : ByteArray) : (((x ++ (⟨#[58]⟩ : ByteArray)) ++ y) ++ ((⟨#[58]⟩ : ByteArray) ++ z)).data.toList = Lib.join (datas [x, y, z]) [58] := by
  simp [datas, Lib.join_cons, Lib.joinTail]
theorem join6 (o n c k q t m : ByteArray) (hm : m = n ++ (((((⟨#[58]⟩ : ByteArray) ++ c) ++ ⟨#[58]⟩) ++ k) ++ ⟨#[58]⟩ ++ q)) : ((((o ++ (⟨#[58]⟩ : ByteArray)) ++ m) ++ (⟨#[58]⟩ : ByteArray)) ++ t).data.toList = Lib.join (datas [o, n, c, k, q, t]) [58] := by
  subst hm; simp [datas, Lib.join_cons, Lib.joinTail]
def twoS (sc : Int) (qop method target body : ByteArray) : ByteArray :=
  if qop.toList == [97, 117, 116, 104, 45, 105, 110, 116] then ((method ++ (⟨#[58]⟩ : ByteArray)) ++ target) ++ ((⟨#[58]⟩ : ByteArray) ++ hashB sc [body]) else (method ++ (⟨#[58]⟩ : ByteArray)) ++ target
def midS (qop nonce cnt cnonce : ByteArray) : ByteArray := if qop.toList.isEmpty then nonce else nonce ++ (((((⟨#[58]⟩ : ByteArray) ++ cnt) ++ ⟨#[58]⟩) ++ cnonce) ++ ⟨#[58]⟩ ++ qop)
theorem twoS_is (sc : Int) (qop method target body : ByteArray) : hashS sc (twoS sc qop method target body) = twoB sc qop method target body := by
  unfold twoS twoB
  split
  · exact hashS_B _ _ _ (join3' _ _ _)
  · exact hashS_B _ _ _ (join2 _ _)
theorem end_is (sc : Int) (qop nonce cnt cnonce one two : ByteArray) : hashS sc ((((one ++ (⟨#[58]⟩ : ByteArray)) ++ midS qop nonce cnt cnonce) ++ (⟨#[58]⟩ : ByteArray)) ++ two) = endB sc nonce qop cnonce cnt one two := by
  unfold endB midS
  split
  · exact hashS_B _ _ _ (join3 _ _ _)
  · exact hashS_B _ _ _ (join6 _ _ _ _ _ _ _ rfl)
set_option maxRecDepth 100000 in
set_option maxHeartbeats 3200000 in
theorem refResponse (a : AskV) (user pass method target body cnonce : ByteArray) (n : Nat) (w : World) (hT : SumT w) (hn : n < 9223372036854775808)
    (z1 : a.d.realm.size ≤ 20000) (z2 : a.d.nonce.size ≤ 20000) (z3 : a.d.qop.size ≤ 20000) (z4 : user.size ≤ 20000) (z5 : pass.size ≤ 20000) (z6 : method.size ≤ 20000) (z7 : target.size ≤ 20000) (z8 : body.size ≤ 20000) (z9 : cnonce.size ≤ 20000) :
    Calls Tryd.prog 58 #[.agg a.arr, .agg #[.string user, .string pass], .string method, .string target, .string body, .string cnonce, .int .i64 n] w fun e w' => e = .returned (.string (respB a.d user pass method target body cnonce n)) ∧ Below w.heap.size w w' := by
  have hW : Below w.heap.size w ((w.alloc (boxA a)).alloc (boxC user pass)) := ((Below.refl _ _).alloc (Nat.le_refl _) _).alloc (by simp) _
  have hc := fun w' h => askCells (a := a) (user := user) (pass := pass) (w := w) (w' := w') h
  have hb := fun w' h => askBelow (a := a) (user := user) (pass := pass) (w := w) (w' := w') h
  obtain ⟨C, hC⟩ : ∃ C, C = countB n := ⟨_, rfl⟩
  have hcs := countB_size n
  have hct := fun w' hd => refCount n hn w' hd
  rw [show (⟨(fillD 16 n 8).toArray⟩ : ByteArray) = countB n from rfl, ← hC] at hct
  rw [← hC] at hcs
  obtain ⟨one, hone⟩ : ∃ x, x = oneB a.d.scheme a.d.realm a.d.nonce a.d.sess user pass cnonce := ⟨_, rfl⟩
  obtain ⟨two, htwo⟩ : ∃ x, x = twoS a.d.scheme a.d.qop method target body := ⟨_, rfl⟩
  obtain ⟨mid, hmid⟩ : ∃ x, x = midS a.d.qop a.d.nonce C cnonce := ⟨_, rfl⟩
  have hones : one.size ≤ 64 := by
    rw [hone]; unfold oneB
    split <;> exact hashB_size _ _
  have h1 : (⟨#[58]⟩ : ByteArray).size = 1 := rfl
  have htwos : two.size ≤ 40100 := by
    have := hashB_size a.d.scheme [body]
    rw [htwo]; unfold twoS
    split <;> simp only [add_size, h1] <;> omega
  have hmids : mid.size ≤ 60100 := by
    rw [hmid]; unfold midS
    split <;> (try simp only [add_size, h1]) <;> omega
  have hfin := Lib.hid (show respB a.d user pass method target body cnonce n = hashS a.d.scheme ((((one ++ (⟨#[58]⟩ : ByteArray)) ++ mid) ++ (⟨#[58]⟩ : ByteArray)) ++ hashS a.d.scheme two) by
    rw [hmid, htwo, twoS_is, end_is, hC, hone]; rfl)
  have hone' := Lib.hid hone
  have htwo' := Lib.hid htwo
  have hmid' := Lib.hid hmid
  clear hC hone htwo hmid hn h1
  obtain ⟨⟨sc, realm, nonce, opq, sess, qop, stale, dom⟩, ad, cap⟩ := a
  simp only at z1 z2 z3 hone' htwo' hmid' hfin hW
  generalize hrr : respB _ user pass method target body cnonce n = res at hfin ⊢
  clear hrr
  go_enter Tryd.func58, Tryd.ntmps58
  go_wp2_with fail
  have y1 : ((((user ++ (⟨#[58]⟩ : ByteArray)) ++ realm) ++ (⟨#[58]⟩ : ByteArray)) ++ pass).size ≤ 1000000 := by simp only [add_size]; rw [show (⟨#[58]⟩ : ByteArray).size = 1 from rfl]; omega
  refine (refHS sc [user, realm, pass] _ _ (hT.later hW) (join3 user realm pass) y1).mono ?_
  rintro e w1 ⟨rfl, hB1⟩
  have hB1' : Below (w.heap.size + 2) ((w.alloc (boxA ⟨⟨sc, realm, nonce, opq, sess, qop, stale, dom⟩, ad, cap⟩)).alloc (boxC user pass)) w1 := by simpa using hB1
  obtain ⟨k0, k1, k2, k3, k4, k5, u0, u1⟩ := hc _ hB1'
  clear hB1
  go_upto_if 32 with (fail)
  go_cut [15] (fun s wx => s = .string one ∧ Hid (Below (w.heap.size + 2) ((w.alloc (boxA ⟨⟨sc, realm, nonce, opq, sess, qop, stale, dom⟩, ad, cap⟩)).alloc (boxC user pass)) wx))
  case first =>
    cases sess
    · have hB1h := Lib.hid hB1'
      clear hB1'
      go_wp2_with fail
      go_meet
      exact ⟨by rw [hone'.out]; rfl, hB1h⟩
    · have hB1h := Lib.hid hB1'
      have hT1 := hT.later (hb _ hB1')
      have hs1 := hashB_size sc [user, realm, pass]
      clear hB1'
      generalize hhh : hashB sc [user, realm, pass] = one0 at hs1 ⊢
      have hhh' := Lib.hid hhh
      clear hhh
      go_wp2_with fail
      have y2 : ((((one0 ++ (⟨#[58]⟩ : ByteArray)) ++ nonce) ++ (⟨#[58]⟩ : ByteArray)) ++ cnonce).size ≤ 1000000 := by simp only [add_size]; rw [show (⟨#[58]⟩ : ByteArray).size = 1 from rfl]; omega
      refine (refHS sc [one0, nonce, cnonce] _ _ hT1 (join3 one0 nonce cnonce) y2).mono ?_
      rintro e w2 ⟨rfl, hB2⟩
      go_wp2_with fail
      go_meet
      exact ⟨by rw [hone'.out, ← hhh'.out]; rfl, Lib.hid (kb_then hB1h.out hB2)⟩
  case rest =>
    clear hB1' k0 k1 k2 k3 k4 k5 u0 u1
    obtain ⟨rfl, hBc⟩ := hcut
    obtain ⟨k0, k1, k2, k3, k4, k5, u0, u1⟩ := hc _ hBc.out
    have hTc := Lib.hid (hT.later (hb _ hBc.out))
    go_upto_if 50 with (fail)
    go_cut [16] (fun s wx => s = .string two ∧ Hid (Below (w.heap.size + 2) ((w.alloc (boxA ⟨⟨sc, realm, nonce, opq, sess, qop, stale, dom⟩, ad, cap⟩)).alloc (boxC user pass)) wx))
    case first =>
      cases hq : (qop.toList == [97, 117, 116, 104, 45, 105, 110, 116])
      · have htt := Lib.hid (show two = (method ++ (⟨#[58]⟩ : ByteArray)) ++ target by rw [htwo'.out]; unfold twoS; rw [hq]; rfl)
        go_wp2_with fail
        go_meet
        exact ⟨by rw [htt.out], hBc⟩
      · have htt := Lib.hid (show two = ((method ++ (⟨#[58]⟩ : ByteArray)) ++ target) ++ ((⟨#[58]⟩ : ByteArray) ++ hashB sc [body]) by rw [htwo'.out]; unfold twoS; rw [hq]; rfl)
        have hs1 := hashB_size sc [body]
        go_wp2_with fail
        refine (refHS sc [body] body _ hTc.out (by simp [datas, Lib.join_cons, Lib.joinTail]) (by omega)).mono ?_
        rintro e w4 ⟨rfl, hB4⟩
        generalize hashB sc [body] = hbd at hs1 htt ⊢
        have hB4' := Lib.hid (kb_then hBc.out hB4)
        go_wp2_with fail
        go_meet
        exact ⟨by rw [htt.out], hB4'⟩
    case rest =>
      clear k0 k1 k2 k3 k4 k5 u0 u1 hBc hTc
      obtain ⟨rfl, hBd⟩ := hcut
      have hkk := fun w' h => (⟨h, hc w' h⟩ : _ ∧ AskCells w.heap.size ⟨⟨sc, realm, nonce, opq, sess, qop, stale, dom⟩, ad, cap⟩ user pass w')
      unfold AskCells at hkk
      obtain ⟨k0, k1, k2, k3, k4, k5, u0, u1⟩ := hc _ hBd.out
      go_upto_if 62 with (fail)
      go_cut [17] (fun s wx => s = .string mid ∧ Hid (Below (w.heap.size + 2) ((w.alloc (boxA ⟨⟨sc, realm, nonce, opq, sess, qop, stale, dom⟩, ad, cap⟩)).alloc (boxC user pass)) wx))
      case first =>
        cases he : qop.toList.isEmpty
        · have hmm := Lib.hid (show mid = nonce ++ (((((⟨#[58]⟩ : ByteArray) ++ C) ++ ⟨#[58]⟩) ++ cnonce) ++ ⟨#[58]⟩ ++ qop) by rw [hmid'.out]; unfold midS; rw [he]; rfl)
          go_wp2_with fail
          clear k0 k1 k2 k3 k4 k5 u0 u1
          have hbx := hBd.out
          have ad0 := fun w' => run_string_add_sum (P := Tryd.prog) w' ((⟨#[58]⟩ : ByteArray)) (C) (by (try simp only [add_size]); (try rw [show (⟨#[58]⟩ : ByteArray).size = 1 from rfl]); omega)
          have ad1 := fun w' => run_string_add_sum (P := Tryd.prog) w' ((⟨#[58]⟩ : ByteArray) ++ C) ((⟨#[58]⟩ : ByteArray)) (by (try simp only [add_size]); (try rw [show (⟨#[58]⟩ : ByteArray).size = 1 from rfl]); omega)
          have ad2 := fun w' => run_string_add_sum (P := Tryd.prog) w' (((⟨#[58]⟩ : ByteArray) ++ C) ++ (⟨#[58]⟩ : ByteArray)) (cnonce) (by (try simp only [add_size]); (try rw [show (⟨#[58]⟩ : ByteArray).size = 1 from rfl]); omega)
          have ad3 := fun w' => run_string_add_sum (P := Tryd.prog) w' ((((⟨#[58]⟩ : ByteArray) ++ C) ++ (⟨#[58]⟩ : ByteArray)) ++ cnonce) ((⟨#[58]⟩ : ByteArray)) (by (try simp only [add_size]); (try rw [show (⟨#[58]⟩ : ByteArray).size = 1 from rfl]); omega)
          have ad4 := fun w' => run_string_add_sum (P := Tryd.prog) w' (((((⟨#[58]⟩ : ByteArray) ++ C) ++ (⟨#[58]⟩ : ByteArray)) ++ cnonce) ++ (⟨#[58]⟩ : ByteArray)) (qop) (by (try simp only [add_size]); (try rw [show (⟨#[58]⟩ : ByteArray).size = 1 from rfl]); omega)
          have ad5 := fun w' => run_string_add_sum (P := Tryd.prog) w' (nonce) ((((((⟨#[58]⟩ : ByteArray) ++ C) ++ (⟨#[58]⟩ : ByteArray)) ++ cnonce) ++ (⟨#[58]⟩ : ByteArray)) ++ qop) (by (try simp only [add_size]); (try rw [show (⟨#[58]⟩ : ByteArray).size = 1 from rfl]); omega)
          go_region_held3 (fun w' => Below (w.heap.size + 2) ((w.alloc (boxA ⟨⟨sc, realm, nonce, opq, sess, qop, stale, dom⟩, ad, cap⟩)).alloc (boxC user pass)) w' ∧ w'.cell? ⟨w.heap.size, 0, none⟩ = some (.int .i64 sc) ∧ w'.cell? ⟨w.heap.size, 1, none⟩ = some (.string realm) ∧ w'.cell? ⟨w.heap.size, 2, none⟩ = some (.string nonce) ∧ w'.cell? ⟨w.heap.size, 3, none⟩ = some (.string opq) ∧ w'.cell? ⟨w.heap.size, 4, none⟩ = some (.bool sess) ∧ w'.cell? ⟨w.heap.size, 5, none⟩ = some (.string qop) ∧ w'.cell? ⟨w.heap.size + 1, 0, none⟩ = some (.string user) ∧ w'.cell? ⟨w.heap.size + 1, 1, none⟩ = some (.string pass))
            (first | (exact hkk _ (Below.drew (by assumption))) | (go_split_ands; exact hkk _ (kb_then (by assumption) (by assumption))))
            (first
              | (go_at_call 60; go_split_ands; refine (hct _ (hT.later (hb _ (by assumption))).deb).mono ?_; rintro e w5 ⟨rfl, hB5⟩))
          all_goals
            go_split_ands
            go_wp2_with fail
            go_meet
            exact ⟨by rw [hmm.out], Lib.hid (by assumption)⟩
        · have hmm := Lib.hid (show mid = nonce by rw [hmid'.out]; unfold midS; rw [he]; rfl)
          go_wp2_with fail
          go_meet
          exact ⟨by rw [hmm.out], hBd⟩
      case rest =>
        clear k0 k1 k2 k3 k4 k5 u0 u1 hBd
        obtain ⟨rfl, hBe⟩ := hcut
        have hs2 := hashS_size sc two
        have y3 : two.size ≤ 1000000 := by omega
        have rh := fun w' hT => refH sc two y3 w' hT
        rw [show (⟨(hashL sc two.data.toList).toArray⟩ : ByteArray) = hashS sc two from rfl] at rh
        generalize hashS sc two = h2 at hs2 rh hfin
        have y4 : ((((one ++ (⟨#[58]⟩ : ByteArray)) ++ mid) ++ (⟨#[58]⟩ : ByteArray)) ++ h2).size ≤ 1000000 := by simp only [add_size]; rw [show (⟨#[58]⟩ : ByteArray).size = 1 from rfl]; omega
        have rh2 := fun w' hT => refH sc ((((one ++ (⟨#[58]⟩ : ByteArray)) ++ mid) ++ (⟨#[58]⟩ : ByteArray)) ++ h2) y4 w' hT
        rw [show (⟨(hashL sc ((((one ++ (⟨#[58]⟩ : ByteArray)) ++ mid) ++ (⟨#[58]⟩ : ByteArray)) ++ h2).data.toList).toArray⟩ : ByteArray) = hashS sc ((((one ++ (⟨#[58]⟩ : ByteArray)) ++ mid) ++ (⟨#[58]⟩ : ByteArray)) ++ h2) from rfl] at rh2
        clear y4
        go_wp2_with fail
        have hbx := hBe.out
        have ad0 := fun w' => run_string_add_sum (P := Tryd.prog) w' (one) ((⟨#[58]⟩ : ByteArray)) (by (try simp only [add_size]); (try rw [show (⟨#[58]⟩ : ByteArray).size = 1 from rfl]); omega)
        have ad1 := fun w' => run_string_add_sum (P := Tryd.prog) w' (one ++ (⟨#[58]⟩ : ByteArray)) (mid) (by (try simp only [add_size]); (try rw [show (⟨#[58]⟩ : ByteArray).size = 1 from rfl]); omega)
        have ad2 := fun w' => run_string_add_sum (P := Tryd.prog) w' ((one ++ (⟨#[58]⟩ : ByteArray)) ++ mid) ((⟨#[58]⟩ : ByteArray)) (by (try simp only [add_size]); (try rw [show (⟨#[58]⟩ : ByteArray).size = 1 from rfl]); omega)
        have ad3 := fun w' => run_string_add_sum (P := Tryd.prog) w' (((one ++ (⟨#[58]⟩ : ByteArray)) ++ mid) ++ (⟨#[58]⟩ : ByteArray)) (h2) (by (try simp only [add_size]); (try rw [show (⟨#[58]⟩ : ByteArray).size = 1 from rfl]); omega)
        go_region_held3 (fun w' => Below (w.heap.size + 2) ((w.alloc (boxA ⟨⟨sc, realm, nonce, opq, sess, qop, stale, dom⟩, ad, cap⟩)).alloc (boxC user pass)) w' ∧ w'.cell? ⟨w.heap.size, 0, none⟩ = some (.int .i64 sc) ∧ w'.cell? ⟨w.heap.size, 1, none⟩ = some (.string realm) ∧ w'.cell? ⟨w.heap.size, 2, none⟩ = some (.string nonce) ∧ w'.cell? ⟨w.heap.size, 3, none⟩ = some (.string opq) ∧ w'.cell? ⟨w.heap.size, 4, none⟩ = some (.bool sess) ∧ w'.cell? ⟨w.heap.size, 5, none⟩ = some (.string qop) ∧ w'.cell? ⟨w.heap.size + 1, 0, none⟩ = some (.string user) ∧ w'.cell? ⟨w.heap.size + 1, 1, none⟩ = some (.string pass))
          (first | (exact hkk _ (Below.drew (by assumption))) | (go_split_ands; exact hkk _ (kb_then (by assumption) (by assumption))))
          (first
            | (go_at_call 104; go_split_ands; (with_reducible refine (rh _ (hT.later (hb _ (by assumption)))).mono ?_); rintro e w5 ⟨rfl, hB5⟩; clear rh)
            | (go_at_call 104; go_split_ands; (with_reducible refine (rh2 _ (hT.later (hb _ (by assumption)))).mono ?_); rintro e w6 ⟨rfl, hB6⟩)
            | fail)
        all_goals
          go_split_ands
          go_wp2
          go_ret
          exact ⟨ret_str (by rw [hfin.out]), hb _ (by assumption)⟩
/-! what the statements' 'long' says; an Ask and credentials in their boxes -/
def longN (a : AskD) (user pass method target body cnonce : ByteArray) : Nat := a.realm.size + a.nonce.size + a.opaque_.size + a.qop.size + user.size + pass.size + method.size + target.size + body.size + cnonce.size
theorem askAll {a : AskV} {user pass : ByteArray} {W w' : World} (h : Below (W.heap.size + 2) ((W.alloc (boxA a)).alloc (boxC user pass)) w') : Below (W.heap.size + 2) ((W.alloc (boxA a)).alloc (boxC user pass)) w' ∧ w'.cell? ⟨W.heap.size, 0, none⟩ = some (.int .i64 a.d.scheme) ∧ w'.cell? ⟨W.heap.size, 1, none⟩ = some (.string a.d.realm) ∧ w'.cell? ⟨W.heap.size, 2, none⟩ = some (.string a.d.nonce) ∧ w'.cell? ⟨W.heap.size, 3, none⟩ = some (.string a.d.opaque_) ∧ w'.cell? ⟨W.heap.size, 4, none⟩ = some (.bool a.d.sess) ∧ w'.cell? ⟨W.heap.size, 5, none⟩ = some (.string a.d.qop) ∧ w'.cell? ⟨W.heap.size, 6, none⟩ = some (.bool a.d.stale) ∧ w'.cell? ⟨W.heap.size, 7, none⟩ = some (.slice a.addr a.d.domain.length a.cap) ∧ w'.cell? ⟨W.heap.size + 1, 0, none⟩ = some (.string user) ∧ w'.cell? ⟨W.heap.size + 1, 1, none⟩ = some (.string pass) := by
  have hb := below_box (w := W.alloc (boxA a)) (by simpa using h)
  have hb' : Below (W.heap.size + 1) (W.alloc (boxA a)) w' := by simpa using hb
  have hc : Below ((W.alloc (boxA a)).heap.size + 1) ((W.alloc (boxA a)).alloc (boxC user pass)) w' := by simpa using h
  have e : (W.alloc (boxA a)).heap.size = W.heap.size + 1 := by simp
  refine ⟨h, box_cell hb' 0 rfl, box_cell hb' 1 rfl, box_cell hb' 2 rfl, box_cell hb' 3 rfl, box_cell hb' 4 rfl, box_cell hb' 5 rfl, box_cell hb' 6 rfl, box_cell hb' 7 rfl, ?_, ?_⟩
  · rw [← e]; exact box_cell hc 0 rfl
  · rw [← e]; exact box_cell hc 1 rfl
set_option maxRecDepth 100000 in
set_option maxHeartbeats 800000 in
theorem long_says (a : AskV) (user pass method target body cnonce : ByteArray) (w : World) (hO : a.Ok w) (z4 : user.size ≤ reachBytes) (z5 : pass.size ≤ reachBytes) (z6 : method.size ≤ reachBytes) (z7 : target.size ≤ reachBytes) (z8 : body.size ≤ reachBytes) (z9 : cnonce.size ≤ reachBytes) :
    Calls Tryd.prog 21 #[.agg a.arr, .agg #[.string user, .string pass], .string method, .string target, .string body, .string cnonce] w fun e w' => e = .returned (.bool (decide (500 < longN a.d user pass method target body cnonce))) ∧ Below w.heap.size w w' := by
  have z1 := hO.realm; have z2 := hO.nonce; have z3 := hO.opaque_; have z0 := hO.qop
  clear hO
  obtain ⟨⟨sc, realm, nonce, opq, sess, qop, stale, dom⟩, ad, cap⟩ := a
  simp only [reachBytes] at z0 z1 z2 z3 z4 z5 z6 z7 z8 z9
  unfold longN
  simp only
  go_enter Tryd.func21, Tryd.ntmps21
  go_wp2
  go_ret
  exact ⟨ret_bool (decide_eq_decide.2 (by omega)), ((Below.refl _ _).alloc (Nat.le_refl _) _).alloc (by simp) _⟩
end Go.Proofs.YtdlhihfjigcimaaDoor
