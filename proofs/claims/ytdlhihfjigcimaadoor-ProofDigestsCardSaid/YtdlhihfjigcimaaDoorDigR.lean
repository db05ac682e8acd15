/- the reference's Digest: which error, or the header. -/
import Derived.Test.YtdlhihfjigcimaaDoorDigP
import Derived.Test.YtdlhihfjigcimaaDoorRespR
import Derived.Test.YtdlhihfjigcimaaDoorPortMap
import Derived.Deep.DeepCutAuto
import Derived.BigRegion
import Derived.Deep.RegionHeld3
namespace Go.Proofs.YtdlhihfjigcimaaDoor
open Go.RowKit Go.Maps
def digRV (r : Int × ByteArray) : Value := .tuple #[.string r.2, .int .i64 r.1]
def sch0 (k : Int) : ByteArray := if k = 3 then (⟨#[83, 72, 65, 45, 50, 53, 54]⟩ : ByteArray) else (⟨#[77, 68, 53]⟩ : ByteArray)
theorem sch0_size (k : Int) : (sch0 k).size ≤ 7 := by unfold sch0; split <;> decide
theorem sch0_yes (k : Int) : schB k true = sch0 k ++ (⟨#[45, 115, 101, 115, 115]⟩ : ByteArray) := by
  apply ba_ext
  rw [add_toList]
  unfold schB sch0
  split <;> rfl
theorem sch0_no (k : Int) : schB k false = sch0 k := by
  apply ba_ext
  unfold schB sch0
  split <;> rfl
def strE (v : Value) : Option (DataW Unit × List MemPlace) :=
  match v with
  | .string s => some (.lit (.string s.data.toList), [])
  | _ => none
theorem strE_is {v : Value} {l : List UInt8} {ps : List MemPlace} (h : strE v = some (.lit (.string l), ps)) : v = .string ⟨l.toArray⟩ := by
  unfold strE at h
  split at h
  · rename_i s
    simp at h
    obtain ⟨rfl, _⟩ := h
    rw [← ba_eq rfl]
  · exact absurd h (by simp)
theorem lawIntD : Keyed Tryd.prog 3 := int_keyed Tryd.underlying3
theorem zeroStrD (w : World) : (zeroValue 9).run Tryd.prog w = .ok (.string ⟨#[]⟩) w := by kernel_rfl
def litS (l : List UInt8) : DataW Unit := .lit (.string l)
def schM : DataW Unit := ((.map [] : DataW Unit).put (.int .i64 2) (litS [77, 68, 53])).put (.int .i64 3) (litS [83, 72, 65, 45, 50, 53, 54])
theorem schM_at {k : Int} (h : schOk k = true) : schM.atKey (.int .i64 k) (litS []) = litS (sch0 k).data.toList := by
  unfold schOk at h
  simp at h
  rcases h with rfl | rfl <;> rfl
theorem within_sch (k : Int) : (decide ((2 : Int) ≤ k) && decide (k ≤ 3)) = schOk k := by
  unfold schOk
  rw [Bool.eq_iff_iff]
  simp
  omega
theorem dAdd {l : List DItem} (h : l ≠ []) (it : DItem) : (dFold (l ++ [it])).2 = (dFold l).2 ++ ([44, 32] ++ it.text) := by
  rw [dFold_snoc]
  show dPre (dFold l).2 ++ it.text = _
  rw [dPre_some h, List.append_assoc]
theorem dBad (l : List DItem) (it : DItem) : (dFold (l ++ [it])).1 = ((dFold l).1 || it.bad) := by rw [dFold_snoc]; rfl
theorem any_of {l : List DItem} {it : DItem} (h : it ∈ l) (hb : it.bad = true) : (dFold l).1 = true := by rw [dFold_bad, List.any_eq_true]; exact ⟨it, h, hb⟩
theorem items5_q (d : AskD) (user target resp : ByteArray) : ∀ it ∈ items5 d user target resp, it.q = true := by
  intro it h
  unfold items5 at h
  simp only [List.mem_cons, List.not_mem_nil, or_false] at h
  rcases h with rfl | rfl | rfl | rfl | rfl <;> rfl
abbrev arr5 (d : AskD) (user target resp : ByteArray) : Array Value := #[.string (⟨#[117, 115, 101, 114, 110, 97, 109, 101]⟩ : ByteArray), .string user, .string (⟨#[114, 101, 97, 108, 109]⟩ : ByteArray), .string d.realm, .string (⟨#[110, 111, 110, 99, 101]⟩ : ByteArray), .string d.nonce, .string (⟨#[117, 114, 105]⟩ : ByteArray), .string target, .string (⟨#[114, 101, 115, 112, 111, 110, 115, 101]⟩ : ByteArray), .string resp]
abbrev tPar : TypeId := 76
theorem items5_cells {w : World} {N : Nat} {d : AskD} {user target resp : ByteArray} (h : Blk w N (arr5 d user target resp) tPar) :
    ∀ j (hj : j < (items5 d user target resp).length), w.cell? ⟨N, j * 2, none⟩ = some (.string (items5 d user target resp)[j].name) ∧ w.cell? ⟨N, j * 2 + 1, none⟩ = some (.string (items5 d user target resp)[j].value)
  | 0, _ => ⟨h.cell 0 rfl, h.cell 1 rfl⟩
  | 1, _ => ⟨h.cell 2 rfl, h.cell 3 rfl⟩
  | 2, _ => ⟨h.cell 4 rfl, h.cell 5 rfl⟩
  | 3, _ => ⟨h.cell 6 rfl, h.cell 7 rfl⟩
  | 4, _ => ⟨h.cell 8 rfl, h.cell 9 rfl⟩
  | j + 5, hj => by unfold items5 at hj; simp at hj; omega
theorem two_size : ((⟨#[44, 32]⟩ : ByteArray)).size = 2 := rfl
theorem eq_size : ((⟨#[61]⟩ : ByteArray)).size = 1 := rfl
set_option maxRecDepth 100000 in
set_option maxHeartbeats 8000000 in
theorem refDigest (a : AskV) (user pass method target body cnonce : ByteArray) (n : Int) (w : World) (hT : SumT w) (hn : n < 9223372036854775808) (hkw : (Lit.int .i64 a.d.scheme).wf = true)
    (z1 : a.d.realm.size ≤ 20000) (z2 : a.d.nonce.size ≤ 20000) (z3 : a.d.qop.size ≤ 20000) (z4 : user.size ≤ 20000) (z5 : pass.size ≤ 20000) (z6 : method.size ≤ 20000) (z7 : target.size ≤ 20000) (z8 : body.size ≤ 20000) (z9 : cnonce.size ≤ 20000) (z10 : a.d.opaque_.size ≤ 20000) :
    Calls Tryd.prog 22 #[.agg a.arr, .agg #[.string user, .string pass], .string method, .string target, .string body, .string cnonce, .int .i64 n] w fun e w' => e = .returned (digRV (digRes a.d user target cnonce (respB a.d user pass method target body cnonce n.toNat) (countB n.toNat) n)) ∧ Below w.heap.size w w' := by
  have hR := fun (h0 : 0 ≤ n) w' hT' => refResponse a user pass method target body cnonce n.toNat w' hT' (by omega) z1 z2 z3 z4 z5 z6 z7 z8 z9
  have hCn := fun (h0 : 0 ≤ n) w' hd => refCount n.toNat (by omega) w' hd
  have hkk := fun w' h => askAll (a := a) (user := user) (pass := pass) (W := w) (w' := w') h
  have hb := fun w' h => askBelow (a := a) (user := user) (pass := pass) (w := w) (w' := w') h
  have hcs := countB_size n.toNat
  have hrs : (respB a.d user pass method target body cnonce n.toNat).size ≤ 64 := by
    unfold respB endB
    split <;> exact hashB_size _ _
  have hN2 : ∀ h0 : 0 ≤ n, ((n.toNat : Nat) : Int) = n := fun h0 => Int.toNat_of_nonneg h0
  rw [show (⟨(fillD 16 n.toNat 8).toArray⟩ : ByteArray) = countB n.toNat from rfl] at hCn
  obtain ⟨⟨k, realm, nonce, opq, sess, qop, stale, dom⟩, ad, cap⟩ := a
  simp only at *
  generalize hrr : respB _ user pass method target body cnonce n.toNat = resp at hR hrs ⊢
  clear hrr
  generalize countB n.toNat = cnt at hCn hcs ⊢
  obtain ⟨res, hres⟩ : ∃ r, r = digRes ⟨k, realm, nonce, opq, sess, qop, stale, dom⟩ user target cnonce resp cnt n := ⟨_, rfl⟩
  rw [← hres]
  have hv := Lib.hid (show res = (if (!schOk k || !qopOk qop) = true then ((1 : Int), (⟨#[]⟩ : ByteArray)) else if n < 1 ∨ 4294967295 < n then (2, ⟨#[]⟩) else if (dFold (digItems ⟨k, realm, nonce, opq, sess, qop, stale, dom⟩ user target cnonce resp cnt)).1 = true then (3, ⟨#[]⟩) else (0, ⟨(dFold (digItems ⟨k, realm, nonce, opq, sess, qop, stale, dom⟩ user target cnonce resp cnt)).2.toArray⟩)) from hres)
  clear hres
  have hW := kb_new w ⟨⟨k, realm, nonce, opq, sess, qop, stale, dom⟩, ad, cap⟩ user pass
  have hwk := fun w' => within_any k 2 3 w'
  rw [within_sch] at hwk
  go_enter Tryd.func22, Tryd.ntmps22
  go_upto_region 1 with (fail)
  obtain ⟨_, k0, k1, k2, k3, k4, k5, k6, k7, u0, u1⟩ := hkk _ hW
  clear hW
  generalize hw1 : (w.alloc (boxA ⟨⟨k, realm, nonce, opq, sess, qop, stale, dom⟩, ad, cap⟩)).alloc (boxC user pass) = w1 at k0 k1 k2 k3 k4 k5 k6 k7 u0 u1 ⊢
  have hW : Hid (Below (w.heap.size + 2) ((w.alloc (boxA ⟨⟨k, realm, nonce, opq, sess, qop, stale, dom⟩, ad, cap⟩)).alloc (boxC user pass)) w1) := Lib.hid (by rw [← hw1]; exact kb_new w ⟨⟨k, realm, nonce, opq, sess, qop, stale, dom⟩, ad, cap⟩ user pass)
  clear hw1
  go_cut [44] (fun s wx => s = .bool (!schOk k || !qopOk qop) ∧ w1 = wx)
  case first =>
    go_wp2_with fail
    refine (hwk _).mono ?_
    rintro e w2 ⟨rfl, rfl⟩
    cases hs : schOk k
    · go_wp2_with fail
      go_meet
      exact ⟨by rw [hs]; rfl, rfl⟩
    · cases he : qop.toList.isEmpty
      · cases h1 : (qop.toList == [97, 117, 116, 104])
        · cases h2 : (qop.toList == [97, 117, 116, 104, 45, 105, 110, 116])
          · have hq : qopOk qop = false := by unfold qopOk; rw [he, h1, h2]; rfl
            have h1' : (qop.toList != [97, 117, 116, 104]) = true := by rw [bne, h1]; rfl
            have h2' : (qop.toList != [97, 117, 116, 104, 45, 105, 110, 116]) = true := by rw [bne, h2]; rfl
            go_wp2_with fail
            go_meet
            exact ⟨by rw [hs, hq]; rfl, rfl⟩
          · have hq : qopOk qop = true := by unfold qopOk; rw [he, h1, h2]; rfl
            have h1' : (qop.toList != [97, 117, 116, 104]) = true := by rw [bne, h1]; rfl
            have h2' : (qop.toList != [97, 117, 116, 104, 45, 105, 110, 116]) = false := by rw [bne, h2]; rfl
            go_wp2_with fail
            go_meet
            exact ⟨by rw [hs, hq]; rfl, rfl⟩
        · have hq : qopOk qop = true := by unfold qopOk; rw [he, h1]; rfl
          have h1' : (qop.toList != [97, 117, 116, 104]) = false := by rw [bne, h1]; rfl
          go_wp2_with fail
          go_meet
          exact ⟨by rw [hs, hq]; rfl, rfl⟩
      · have hq : qopOk qop = true := by unfold qopOk; rw [he]; rfl
        go_wp2_with fail
        go_meet
        exact ⟨by rw [hs, hq]; rfl, rfl⟩
  case rest =>
    obtain ⟨rfl, rfl⟩ := hcut
    obtain ⟨sok, hsok⟩ : ∃ b, b = schOk k := ⟨_, rfl⟩
    have hsok' := Lib.hid hsok
    rw [← hsok] at hv ⊢
    generalize qopOk qop = qok at hv ⊢
    clear hsok hwk
    obtain ⟨bad, hbad⟩ : ∃ b, b = (!sok || !qok) := ⟨_, rfl⟩
    rw [← hbad] at hv ⊢
    have hsk := Lib.hid (show bad = false → schOk k = true from fun h => by rw [h] at hbad; cases sok; cases hbad; rw [← hsok'.out])
    clear hbad hsok'
    cases bad
    · have hsk' := Lib.hid (hsk.out rfl)
      have hwn := fun w' => within_any n 1 4294967295 w'
      by_cases hin : 1 ≤ n ∧ n ≤ 4294967295
      · rw [show (decide ((1 : Int) ≤ n) && decide (n ≤ 4294967295)) = true by simp [hin]] at hwn
        have hv1 := Lib.hid (show res = (if (dFold (digItems ⟨k, realm, nonce, opq, sess, qop, stale, dom⟩ user target cnonce resp cnt)).1 = true then (3, ⟨#[]⟩) else (0, ⟨(dFold (digItems ⟨k, realm, nonce, opq, sess, qop, stale, dom⟩ user target cnonce resp cnt)).2.toArray⟩)) by rw [hv.out, if_neg (by decide), if_neg (by omega)])
        have hR1 := hR (by omega)
        have hC1 := hCn (by omega)
        rw [hN2 (by omega)] at hR1 hC1
        clear hR hCn hN2 hv hsk
        go_wp2_with fail
        refine (hwn _).mono ?_
        rintro e w2 ⟨rfl, rfl⟩
        clear hwn
        go_upto_region 5 with (fail)
        go_cut [16] (fun s wx => s = .string (sch0 k) ∧ Hid (Below (w.heap.size + 2) ((w.alloc (boxA ⟨⟨k, realm, nonce, opq, sess, qop, stale, dom⟩, ad, cap⟩)).alloc (boxC user pass)) wx))
        case first =>
          have hmm := @run_makeMap Tryd.prog
          have hown : (w1.alloc (.map #[] 0)).ownsMap Tryd.prog 3 strE w1.heap.size 0 (.map []) := World.ownsMap_made _ _ _ _
          have hnx : Below w1.heap.size w1 (w1.alloc (.map #[] 0)) := (Below.refl _ _).alloc (Nat.le_refl _) _
          have hfx : ∀ u1 u2 : World, (w1.alloc (.map #[] 0)).grownBy u1 (some w1.heap.size) → u1.grownBy u2 (some w1.heap.size) → Below (w.heap.size + 2) ((w.alloc (boxA ⟨⟨k, realm, nonce, opq, sess, qop, stale, dom⟩, ad, cap⟩)).alloc (boxC user pass)) u2 := fun u1 u2 g1 g2 => by
            have hn1 := hnx.grown g1 hnx.size (fun j hj => by cases hj; exact Nat.le_refl _)
            have hn2 := hn1.grown g2 hn1.size (fun j hj => by cases hj; exact Nat.le_refl _)
            exact kb_then hW.out hn2
          have hlk : ∀ u : World, u.ownsMap Tryd.prog 3 strE w1.heap.size 2 schM → (Instr.lookup 109 (.map (some w1.heap.size)) (.int .i64 k) false).run Tryd.prog u = .ok (.string (sch0 k)) u := fun u hu => by
            obtain ⟨v, ps, hrun, hv'⟩ := hu.lookup lawIntD Tryd.underlying109 (zeroStrD _) (zd := litS []) (zp := []) (by rfl) (keyOf_int_mk Tryd.underlying3 hkw)
            rw [schM_at hsk'.out] at hv'
            rw [hrun, strE_is hv', ← ba_eq rfl]
          clear k0 k1 k2 k3 k4 k5 k6 k7 u0 u1
          go_wp2_with (first
            | (refine wpList_insert_own _ rfl (.tmp 48) (.const (.int .i64 2)) (.const (.string (⟨#[77, 68, 53]⟩ : ByteArray))) 109 rfl 3 9 lawIntD Tryd.underlying109 strE w1.heap.size 0 _ rfl hown (by decide) _ _ _ rfl rfl (keyOf_int_mk Tryd.underlying3 (by decide)) _ [] (by rfl) ?_; intro u1' hown1 hgrow1)
            | (refine wpList_insert_own _ rfl (.tmp 48) (.const (.int .i64 3)) (.const (.string (⟨#[83, 72, 65, 45, 50, 53, 54]⟩ : ByteArray))) 109 rfl 3 9 lawIntD Tryd.underlying109 strE w1.heap.size 1 _ rfl hown1 (by decide) _ _ _ rfl rfl (keyOf_int_mk Tryd.underlying3 (by decide)) _ [] (by rfl) ?_; intro u2' hown2 hgrow2; have hB2 := hfx _ _ hgrow1 hgrow2; obtain ⟨_, k0, k1, k2, k3, k4, k5, k6, k7, u0, u1⟩ := hkk _ hB2; have hl2 := hlk _ hown2))
          go_meet
          exact ⟨rfl, Lib.hid hB2⟩
        case rest =>
          obtain ⟨rfl, hW5⟩ := hcut
          clear hW k0 k1 k2 k3 k4 k5 k6 k7 u0 u1 hsk'
          obtain ⟨w5, hw5⟩ : ∃ x, x = wc := ⟨_, rfl⟩
          rw [← hw5] at hW5 ⊢
          clear hw5
          obtain ⟨_, k0, k1, k2, k3, k4, k5, k6, k7, u0, u1⟩ := hkk _ hW5.out
          have hs0 := sch0_size k
          obtain ⟨sch, hsch⟩ : ∃ s, s = schB k sess := ⟨_, rfl⟩
          have hsy := Lib.hid (fun h : sess = true => (show sch0 k ++ (⟨#[45, 115, 101, 115, 115]⟩ : ByteArray) = sch by rw [hsch, h, sch0_yes]))
          have hsn := Lib.hid (fun h : sess = false => (show sch0 k = sch by rw [hsch, h, sch0_no]))
          have hsch' := Lib.hid hsch
          have hschs := schB_size k sess
          rw [← hsch] at hschs
          clear hsch
          generalize sch0 k = s0 at hs0 hsy hsn ⊢
          go_upto_if 54 with (fail)
          go_cut [16] (fun s wx => s = .string sch ∧ w5 = wx)
          case first =>
            cases sess
            · have e := hsn.out rfl
              subst e
              go_wp2_with fail
              go_meet
              exact ⟨rfl, rfl⟩
            · have e := hsy.out rfl
              go_wp2_with fail
              go_meet
              exact ⟨by rw [← e], rfl⟩
          case rest =>
            obtain ⟨rfl, rfl⟩ := hcut
            clear hs0 hsy hsn
            go_upto_region 9 with (fail)
            go_cut [77, 78, 79] (fun s1 s2 s3 wx => ∃ N, s1 = .slice (some ⟨N, 0, none⟩) 5 5 ∧ s2 = .int .i64 5 ∧ s3 = .int .i64 0 ∧ Hid (Blk wx N (arr5 ⟨k, realm, nonce, opq, sess, qop, stale, dom⟩ user target resp) tPar) ∧ Hid (Below (w.heap.size + 2) ((w.alloc (boxA ⟨⟨k, realm, nonce, opq, sess, qop, stale, dom⟩, ad, cap⟩)).alloc (boxC user pass)) wx))
            case first =>
              clear k0 k1 k2 k3 k4 k5 k6 k7 u0 u1
              have hkd := hkk _ hW5.out.drew
              go_region_held3 (fun w' => Below (w.heap.size + 2) ((w.alloc (boxA ⟨⟨k, realm, nonce, opq, sess, qop, stale, dom⟩, ad, cap⟩)).alloc (boxC user pass)) w' ∧ w'.cell? ⟨w.heap.size, 0, none⟩ = some (.int .i64 k) ∧ w'.cell? ⟨w.heap.size, 1, none⟩ = some (.string realm) ∧ w'.cell? ⟨w.heap.size, 2, none⟩ = some (.string nonce) ∧ w'.cell? ⟨w.heap.size, 3, none⟩ = some (.string opq) ∧ w'.cell? ⟨w.heap.size, 4, none⟩ = some (.bool sess) ∧ w'.cell? ⟨w.heap.size, 5, none⟩ = some (.string qop) ∧ w'.cell? ⟨w.heap.size, 6, none⟩ = some (.bool stale) ∧ w'.cell? ⟨w.heap.size, 7, none⟩ = some (.slice ad dom.length cap) ∧ w'.cell? ⟨w.heap.size + 1, 0, none⟩ = some (.string user) ∧ w'.cell? ⟨w.heap.size + 1, 1, none⟩ = some (.string pass))
                (first | (exact hkk _ hW5.out.drew) | (go_split_ands; exact hkk _ (kb_alloc (by assumption) _)) | (go_split_ands; exact hkk _ (kb_then (by assumption) (by assumption))))
                (first
                  | (go_at_call 58; go_split_ands; (with_reducible refine (hR1 _ (hT.later (hb _ (by assumption)))).mono ?_); rintro e w6 ⟨rfl, hB6⟩)
                  | fail)
              go_split_ands
              go_wp2_with fail
              go_meet
              exact ⟨w6.heap.size, rfl, rfl, rfl, Lib.hid (Blk.new w6 _ _), Lib.hid (by assumption)⟩
            case rest =>
              obtain ⟨N, rfl, rfl, rfl, hN, hW7⟩ := hcut
              clear k0 k1 k2 k3 k4 k5 k6 k7 u0 u1
              clear hW5 hR1
              obtain ⟨w7, hw7⟩ : ∃ x, x = wc := ⟨_, rfl⟩
              rw [← hw7] at hN hW7 ⊢
              clear hw7
              have hc5 := fun w' (h : Below w7.heap.size w7 w') => items5_cells (hN.out.later h)
              have hq5 := items5_q ⟨k, realm, nonce, opq, sess, qop, stale, dom⟩ user target resp
              have hall := digItems_ok (d := ⟨k, realm, nonce, opq, sess, qop, stale, dom⟩) (user := user) (target := target) (cnonce := cnonce) (resp := resp) (cnt := cnt) z1 z2 z3 z4 z10 z7 z9 (by omega) (by omega)
              have hin5 : ∀ it ∈ items5 ⟨k, realm, nonce, opq, sess, qop, stale, dom⟩ user target resp, it ∈ digItems ⟨k, realm, nonce, opq, sess, qop, stale, dom⟩ user target cnonce resp cnt := fun it h => by unfold digItems; simp [h]
              obtain ⟨L5, hL5⟩ : ∃ L, L = items5 ⟨k, realm, nonce, opq, sess, qop, stale, dom⟩ user target resp := ⟨_, rfl⟩
              rw [← hL5] at hc5 hq5 hin5
              have hL5n : L5.length = 5 := by rw [hL5]; rfl
              have hL5' := Lib.hid hL5
              have hall' := Lib.hid hall
              clear hL5 hN hall
              go_wp2_with fail
              go_loopw [17, 79] (fun o i wr => ∃ (j : Nat) (S : ByteArray), j ≤ L5.length ∧ o = .string S ∧ i = .int .i64 j ∧ S.size ≤ 7 + 300000 * j ∧ Hid (S.data.toList = (dFold (L5.take j)).2) ∧ Hid ((dFold (L5.take j)).1 = false) ∧ Hid (Below w7.heap.size w7 wr)) (fun _ i _ => L5.length - (intOf i).toNat)
              case atStart => exact ⟨0, _, Nat.zero_le _, rfl, rfl, by decide, Lib.hid rfl, Lib.hid rfl, Lib.hid (Below.refl _ _)⟩
              case round =>
                obtain ⟨j, S, hj, rfl, rfl, hSz, hS, hF, hB⟩ := hrel
                by_cases hlt : j < L5.length
                · obtain ⟨c0, c1⟩ := hc5 _ hB.out j hlt
                  have hnx := Lib.hid (dFold_succ L5 j hlt)
                  have hit := hall'.out _ (hin5 _ (List.getElem_mem hlt))
                  have hbad := Lib.hid (fun h : DItem.bad L5[j] = true => any_of (hin5 _ (List.getElem_mem hlt)) h)
                  have hqq := hq5 _ (List.getElem_mem hlt)
                  have htk : Hid (L5.take j = [] ↔ j = 0) := Lib.hid (by
                    constructor
                    · intro h
                      have := congrArg List.length h
                      rw [List.length_take, List.length_nil] at this
                      omega
                    · rintro rfl; rfl)
                  have hj5 : j < 5 := by omega
                  generalize L5[j] = it at c0 c1 hnx hit hbad hqq
                  obtain ⟨nm, vl, q⟩ := it
                  obtain ⟨hz1, hz2⟩ := hit
                  simp only at hqq hz1 hz2 c0 c1
                  subst hqq
                  have hqt := fun w' => refQuote vl w' (by omega)
                  cases hq : quotable vl.data.toList
                  · have hres := Lib.hid (show res = (3, ⟨#[]⟩) by rw [hv1.out, if_pos (hbad.out (by unfold DItem.bad; rw [hq]; rfl))])
                    unfold quoteRes at hqt
                    rw [hq] at hqt
                    have hqt' : ∀ w', Calls Tryd.prog 59 #[.string vl] w' fun e w'' => e = .returned (.tuple #[.string ⟨#[]⟩, .int .i64 3]) ∧ w' = w'' := hqt
                    clear hqt hq hnx hbad
                    have hlow := Lib.hid (hb _ (kb_then hW7.out hB.out))
                    have hbx := (Below.refl wr.heap.size wr).alloc (Nat.le_refl _) (.cells #[.string nm, .string vl] tPar)
                    go_wp2_with fail
                    refine (hqt' _).mono ?_
                    rintro e w8 ⟨rfl, rfl⟩
                    go_wp2
                    go_ret2
                    exact ⟨by rw [hres.out]; rfl, hlow.out.then (Nat.le_refl _) hbx⟩
                  · obtain ⟨V, hV⟩ : ∃ V : ByteArray, V = ⟨(quoted vl.data.toList).toArray⟩ := ⟨_, rfl⟩
                    unfold quoteRes at hqt
                    rw [hq, if_pos rfl, ← hV] at hqt
                    have hval : DItem.val ⟨nm, vl, true⟩ = V.data.toList := by unfold DItem.val; rw [hV]; simp [hq]
                    have hVs : V.size ≤ 200002 := by rw [sz_len, ← hval]; exact dVal_len _ hz2
                    have hno : DItem.bad ⟨nm, vl, true⟩ = false := by unfold DItem.bad; rw [hq]; rfl
                    have htx : DItem.text ⟨nm, vl, true⟩ = ((nm ++ (⟨#[61]⟩ : ByteArray)) ++ V).data.toList := by
                      unfold DItem.text; rw [hval, add_toList, add_toList]
                    have hF2 := Lib.hid (show (dFold (L5.take (j + 1))).1 = false by rw [hnx.out]; show ((dFold (L5.take j)).1 || _) = false; rw [hF.out, hno]; rfl)
                    have hT2 := Lib.hid (show (dFold (L5.take (j + 1))).2 = dPre (dFold (L5.take j)).2 ++ ((nm ++ (⟨#[61]⟩ : ByteArray)) ++ V).data.toList by rw [hnx.out, ← htx]; rfl)
                    have hnz : (nm ++ (⟨#[61]⟩ : ByteArray)).size = nm.size + 1 := by rw [add_size]; rfl
                    have htz : ((nm ++ (⟨#[61]⟩ : ByteArray)) ++ V).size = nm.size + 1 + V.size := by rw [add_size, hnz]
                    have hSz2 : (S ++ (⟨#[44, 32]⟩ : ByteArray)).size = S.size + 2 := by rw [add_size]; rfl
                    clear hV hq hbad hval hno htx hnx
                    have hbx := (Below.refl wr.heap.size wr).alloc (Nat.le_refl _) (.cells #[.string nm, .string vl] tPar)
                    have hB8 := Lib.hid (hB.out.then (Nat.le_refl _) hbx)
                    clear hbx
                    by_cases h0 : 0 < j
                    · have hS8 := Lib.hid (show ((S ++ (⟨#[44, 32]⟩ : ByteArray)) ++ ((nm ++ (⟨#[61]⟩ : ByteArray)) ++ V)).data.toList = (dFold (L5.take (j + 1))).2 by
                        rw [hT2.out, dPre_some (fun h => by have := htk.out.1 h; omega), add_toList, add_toList, hS.out])
                      have hz8 : ((S ++ (⟨#[44, 32]⟩ : ByteArray)) ++ ((nm ++ (⟨#[61]⟩ : ByteArray)) ++ V)).size ≤ 7 + 300000 * (j + 1) := by rw [add_size, hSz2, htz]; omega
                      have hz8' := Lib.hid hz8
                      clear hz8
                      go_wp2_with fail
                      refine (hqt _).mono ?_
                      rintro e w8 ⟨rfl, rfl⟩
                      go_wp2
                      go_roundw
                      case rel => exact ⟨j + 1, _, by omega, rfl, by go_num, hz8'.out, hS8, hF2, hB8⟩
                      case measure => simp [intOf]; omega
                    · obtain rfl : j = 0 := by omega
                      have hS8 := Lib.hid (show (S ++ ((nm ++ (⟨#[61]⟩ : ByteArray)) ++ V)).data.toList = (dFold (L5.take (0 + 1))).2 by
                        rw [hT2.out, List.take_zero, dPre_nil, add_toList, hS.out]; rfl)
                      have hz8 : (S ++ ((nm ++ (⟨#[61]⟩ : ByteArray)) ++ V)).size ≤ 7 + 300000 * (0 + 1) := by rw [add_size, htz]; omega
                      have hz8' := Lib.hid hz8
                      clear hz8
                      go_wp2_with fail
                      refine (hqt _).mono ?_
                      rintro e w8 ⟨rfl, rfl⟩
                      go_wp2
                      go_roundw
                      case rel => exact ⟨0 + 1, _, by omega, rfl, by go_num, hz8'.out, hS8, hF2, hB8⟩
                      case measure => simp [intOf]; omega
                · obtain rfl : j = L5.length := by omega
                  rw [List.take_length] at hS hF
                  have hW8 := Lib.hid (kb_then hW7.out hB.out)
                  have hSb : S.size ≤ 1500007 := by omega
                  have hne : L5 ≠ [] := fun h => by rw [h] at hL5n; cases hL5n
                  have hS6 := Lib.hid (show (S ++ ((⟨#[44, 32, 97, 108, 103, 111, 114, 105, 116, 104, 109, 61]⟩ : ByteArray) ++ sch)).data.toList = (dFold (L5 ++ itemsA ⟨k, realm, nonce, opq, sess, qop, stale, dom⟩)).2 by
                    unfold itemsA
                    rw [dAdd hne, add_toList, add_toList, hS.out, hsch'.out]; rfl)
                  have hF6 := Lib.hid (show (dFold (L5 ++ itemsA ⟨k, realm, nonce, opq, sess, qop, stale, dom⟩)).1 = false by
                    unfold itemsA
                    rw [dBad, hF.out]; rfl)
                  have hx1 : ((⟨#[44, 32, 97, 108, 103, 111, 114, 105, 116, 104, 109, 61]⟩ : ByteArray) ++ sch).size = 12 + sch.size := by rw [add_size]; rfl
                  have hx2 : (S ++ ((⟨#[44, 32, 97, 108, 103, 111, 114, 105, 116, 104, 109, 61]⟩ : ByteArray) ++ sch)).size ≤ 1600100 := by rw [add_size, hx1]; omega
                  have hne6 : L5 ++ itemsA ⟨k, realm, nonce, opq, sess, qop, stale, dom⟩ ≠ [] := by simp [hne]
                  obtain ⟨L6, hL6⟩ : ∃ L, L = L5 ++ itemsA ⟨k, realm, nonce, opq, sess, qop, stale, dom⟩ := ⟨_, rfl⟩
                  rw [← hL6] at hS6 hF6 hne6
                  have hall6 := Lib.hid (show digItems ⟨k, realm, nonce, opq, sess, qop, stale, dom⟩ user target cnonce resp cnt = ((L6 ++ itemsQ ⟨k, realm, nonce, opq, sess, qop, stale, dom⟩ cnt) ++ itemsC ⟨k, realm, nonce, opq, sess, qop, stale, dom⟩ cnonce) ++ itemsO ⟨k, realm, nonce, opq, sess, qop, stale, dom⟩ by rw [hL6, hL5'.out]; rfl)
                  clear hL6 hne hS hF hc5 hq5 hin5 hL5' hall' hB hW7
                  obtain ⟨_, k0, k1, k2, k3, k4, k5, k6, k7, u0, u1⟩ := hkk _ hW8.out
                  go_upto_region 20 with (fail)
                  obtain ⟨S6, hS6e⟩ : ∃ x, x = S ++ ((⟨#[44, 32, 97, 108, 103, 111, 114, 105, 116, 104, 109, 61]⟩ : ByteArray) ++ sch) := ⟨_, rfl⟩
                  rw [← hS6e] at hS6 hx2 ⊢
                  clear hS6e hx1 hSb
                  go_upto_if 111 with (fail)
                  clear hL5n
                  obtain ⟨w8, hw8⟩ : ∃ x, x = wr := ⟨_, rfl⟩
                  rw [← hw8] at hW8 k0 k1 k2 k3 k4 k5 k6 k7 u0 u1 ⊢
                  clear hw8
                  go_cut [17] (fun s wx => ∃ S : ByteArray, s = .string S ∧ S.size ≤ 1700000 ∧ Hid (S.data.toList = (dFold (L6 ++ itemsQ ⟨k, realm, nonce, opq, sess, qop, stale, dom⟩ cnt)).2) ∧ Hid ((dFold (L6 ++ itemsQ ⟨k, realm, nonce, opq, sess, qop, stale, dom⟩ cnt)).1 = false) ∧ Hid (Below (w.heap.size + 2) ((w.alloc (boxA ⟨⟨k, realm, nonce, opq, sess, qop, stale, dom⟩, ad, cap⟩)).alloc (boxC user pass)) wx))
                  case first =>
                    cases he : qop.toList.isEmpty
                    · have hIq := Lib.hid (show itemsQ ⟨k, realm, nonce, opq, sess, qop, stale, dom⟩ cnt = [⟨(⟨#[113, 111, 112]⟩ : ByteArray), qop, false⟩, ⟨(⟨#[110, 99]⟩ : ByteArray), cnt, false⟩] by unfold itemsQ; simp only [he]; rfl)
                      have e1 : ((⟨#[44, 32, 113, 111, 112, 61]⟩ : ByteArray) ++ qop).size = 6 + qop.size := by rw [add_size]; rfl
                      have e2 : (((⟨#[44, 32, 113, 111, 112, 61]⟩ : ByteArray) ++ qop) ++ (⟨#[44, 32, 110, 99, 61]⟩ : ByteArray)).size = 6 + qop.size + 5 := by rw [add_size, e1]; rfl
                      have e3 : ((((⟨#[44, 32, 113, 111, 112, 61]⟩ : ByteArray) ++ qop) ++ (⟨#[44, 32, 110, 99, 61]⟩ : ByteArray)) ++ cnt).size = 6 + qop.size + 5 + cnt.size := by rw [add_size, e2]
                      have e4 : (S6 ++ ((((⟨#[44, 32, 113, 111, 112, 61]⟩ : ByteArray) ++ qop) ++ (⟨#[44, 32, 110, 99, 61]⟩ : ByteArray)) ++ cnt)).size = S6.size + (6 + qop.size + 5 + cnt.size) := by rw [add_size, e3]
                      have ad0 := fun w' => run_string_add_sum (P := Tryd.prog) w' (⟨#[44, 32, 113, 111, 112, 61]⟩ : ByteArray) qop (by rw [show ((⟨#[44, 32, 113, 111, 112, 61]⟩ : ByteArray)).size = 6 from rfl]; omega)
                      have ad1 := fun w' => run_string_add_sum (P := Tryd.prog) w' ((⟨#[44, 32, 113, 111, 112, 61]⟩ : ByteArray) ++ qop) (⟨#[44, 32, 110, 99, 61]⟩ : ByteArray) (by rw [e1, show ((⟨#[44, 32, 110, 99, 61]⟩ : ByteArray)).size = 5 from rfl]; omega)
                      have ad2 := fun w' => run_string_add_sum (P := Tryd.prog) w' (((⟨#[44, 32, 113, 111, 112, 61]⟩ : ByteArray) ++ qop) ++ (⟨#[44, 32, 110, 99, 61]⟩ : ByteArray)) cnt (by rw [e2]; omega)
                      have ad3 := fun w' => run_string_add_sum (P := Tryd.prog) w' S6 ((((⟨#[44, 32, 113, 111, 112, 61]⟩ : ByteArray) ++ qop) ++ (⟨#[44, 32, 110, 99, 61]⟩ : ByteArray)) ++ cnt) (by rw [e3]; omega)
                      have hz := Lib.hid (show (S6 ++ ((((⟨#[44, 32, 113, 111, 112, 61]⟩ : ByteArray) ++ qop) ++ (⟨#[44, 32, 110, 99, 61]⟩ : ByteArray)) ++ cnt)).size ≤ 1700000 by rw [e4]; omega)
                      have hS7 := Lib.hid (show (S6 ++ ((((⟨#[44, 32, 113, 111, 112, 61]⟩ : ByteArray) ++ qop) ++ (⟨#[44, 32, 110, 99, 61]⟩ : ByteArray)) ++ cnt)).data.toList = (dFold (L6 ++ itemsQ ⟨k, realm, nonce, opq, sess, qop, stale, dom⟩ cnt)).2 by
                        rw [hIq.out, show L6 ++ [⟨(⟨#[113, 111, 112]⟩ : ByteArray), qop, false⟩, ⟨(⟨#[110, 99]⟩ : ByteArray), cnt, false⟩] = (L6 ++ [(⟨(⟨#[113, 111, 112]⟩ : ByteArray), qop, false⟩ : DItem)]) ++ [⟨(⟨#[110, 99]⟩ : ByteArray), cnt, false⟩] by simp]
                        rw [dAdd (by simp), dAdd hne6, ← hS6.out]
                        simp only [add_toList, DItem.text, DItem.val, List.append_assoc]
                        rfl)
                      have hF7 := Lib.hid (show (dFold (L6 ++ itemsQ ⟨k, realm, nonce, opq, sess, qop, stale, dom⟩ cnt)).1 = false by
                        rw [hIq.out, show L6 ++ [⟨(⟨#[113, 111, 112]⟩ : ByteArray), qop, false⟩, ⟨(⟨#[110, 99]⟩ : ByteArray), cnt, false⟩] = (L6 ++ [(⟨(⟨#[113, 111, 112]⟩ : ByteArray), qop, false⟩ : DItem)]) ++ [⟨(⟨#[110, 99]⟩ : ByteArray), cnt, false⟩] by simp]
                        rw [dBad, dBad, hF6.out]; rfl)
                      clear e1 e2 e3 e4
                      go_wp2_with fail
                      clear k0 k1 k2 k3 k4 k5 k6 k7 u0 u1
                      go_region_held3 (fun w' => Below (w.heap.size + 2) ((w.alloc (boxA ⟨⟨k, realm, nonce, opq, sess, qop, stale, dom⟩, ad, cap⟩)).alloc (boxC user pass)) w' ∧ w'.cell? ⟨w.heap.size, 0, none⟩ = some (.int .i64 k) ∧ w'.cell? ⟨w.heap.size, 1, none⟩ = some (.string realm) ∧ w'.cell? ⟨w.heap.size, 2, none⟩ = some (.string nonce) ∧ w'.cell? ⟨w.heap.size, 3, none⟩ = some (.string opq) ∧ w'.cell? ⟨w.heap.size, 4, none⟩ = some (.bool sess) ∧ w'.cell? ⟨w.heap.size, 5, none⟩ = some (.string qop) ∧ w'.cell? ⟨w.heap.size, 6, none⟩ = some (.bool stale) ∧ w'.cell? ⟨w.heap.size, 7, none⟩ = some (.slice ad dom.length cap) ∧ w'.cell? ⟨w.heap.size + 1, 0, none⟩ = some (.string user) ∧ w'.cell? ⟨w.heap.size + 1, 1, none⟩ = some (.string pass))
                        (first | (exact hkk _ hW8.out.drew) | (go_split_ands; exact hkk _ (kb_then (by assumption) (by assumption))))
                        (first
                          | (go_at_call 60; go_split_ands; refine (hC1 _ (hT.later (hb _ (by assumption))).deb).mono ?_; rintro e w9 ⟨rfl, hB9⟩)
                          | fail)
                      all_goals
                        go_split_ands
                        go_wp2_with fail
                        go_meet
                        exact ⟨_, rfl, hz.out, hS7, hF7, Lib.hid (by assumption)⟩
                    · have hIq := Lib.hid (show itemsQ ⟨k, realm, nonce, opq, sess, qop, stale, dom⟩ cnt = [] by unfold itemsQ; simp only [he]; rfl)
                      go_wp2_with fail
                      go_meet
                      exact ⟨_, rfl, by omega, Lib.hid (by rw [hIq.out, List.append_nil]; exact hS6.out), Lib.hid (by rw [hIq.out, List.append_nil]; exact hF6.out), hW8⟩
                  case rest =>
                    obtain ⟨S7, rfl, hz7, hS7, hF7, hW9⟩ := hcut
                    clear k0 k1 k2 k3 k4 k5 k6 k7 u0 u1
                    clear hW8 hS6 hF6 hC1
                    obtain ⟨w9, hw9⟩ : ∃ x, x = wc := ⟨_, rfl⟩
                    rw [← hw9] at hW9 ⊢
                    clear hw9
                    have hne7 : L6 ++ itemsQ ⟨k, realm, nonce, opq, sess, qop, stale, dom⟩ cnt ≠ [] := by simp [hne6]
                    obtain ⟨L7, hL7⟩ : ∃ L, L = L6 ++ itemsQ ⟨k, realm, nonce, opq, sess, qop, stale, dom⟩ cnt := ⟨_, rfl⟩
                    rw [← hL7] at hS7 hF7 hne7 hall6
                    clear hL7 hne6
                    obtain ⟨_, k0, k1, k2, k3, k4, k5, k6, k7, u0, u1⟩ := hkk _ hW9.out
                    go_upto_region 22 with (fail)
                    go_cut [127] (fun s wx => s = .bool (!(qop.toList.isEmpty && !sess)) ∧ w9 = wx)
                    case first =>
                      cases he : qop.toList.isEmpty
                      · go_wp2_with fail
                        go_meet
                        exact ⟨by rw [he]; rfl, rfl⟩
                      · cases sess
                        · go_wp2_with fail
                          go_meet
                          exact ⟨by rw [he]; rfl, rfl⟩
                        · go_wp2_with fail
                          go_meet
                          exact ⟨by rw [he]; rfl, rfl⟩
                    case rest =>
                      obtain ⟨rfl, rfl⟩ := hcut
                      obtain ⟨nb, hnb⟩ : ∃ b, b = (qop.toList.isEmpty && !sess) := ⟨_, rfl⟩
                      rw [← hnb]
                      have hIc := Lib.hid (show itemsC ⟨k, realm, nonce, opq, sess, qop, stale, dom⟩ cnonce = bif nb then [] else [⟨(⟨#[99, 110, 111, 110, 99, 101]⟩ : ByteArray), cnonce, true⟩] by rw [hnb]; unfold itemsC; cases (qop.toList.isEmpty && !sess) <;> rfl)
                      clear hnb
                      go_upto_if 127 with (fail)
                      go_cut [17] (fun s wx => ∃ S : ByteArray, s = .string S ∧ S.size ≤ 1800000 ∧ Hid (S.data.toList = (dFold (L7 ++ itemsC ⟨k, realm, nonce, opq, sess, qop, stale, dom⟩ cnonce)).2) ∧ Hid ((dFold (L7 ++ itemsC ⟨k, realm, nonce, opq, sess, qop, stale, dom⟩ cnonce)).1 = false) ∧ Hid (Below (w.heap.size + 2) ((w.alloc (boxA ⟨⟨k, realm, nonce, opq, sess, qop, stale, dom⟩, ad, cap⟩)).alloc (boxC user pass)) wx))
                      case first =>
                        cases nb
                        · have hqt := fun w' => refQuote cnonce w' (by omega)
                          have hin : (⟨(⟨#[99, 110, 111, 110, 99, 101]⟩ : ByteArray), cnonce, true⟩ : DItem) ∈ digItems ⟨k, realm, nonce, opq, sess, qop, stale, dom⟩ user target cnonce resp cnt := by rw [hall6.out, hIc.out]; simp
                          cases hq : quotable cnonce.data.toList
                          · have hres := Lib.hid (show res = (3, ⟨#[]⟩) by rw [hv1.out, if_pos (any_of hin (by unfold DItem.bad; simp only [hq]; rfl))])
                            unfold quoteRes at hqt
                            rw [hq] at hqt
                            have hqt' : ∀ w', Calls Tryd.prog 59 #[.string cnonce] w' fun e w'' => e = .returned (.tuple #[.string ⟨#[]⟩, .int .i64 3]) ∧ w' = w'' := hqt
                            clear hqt hq hin
                            go_wp2_with fail
                            refine (hqt' _).mono ?_
                            rintro e x8 ⟨rfl, rfl⟩
                            go_wp2
                            go_ret2
                            exact ⟨by rw [hres.out]; rfl, hb _ hW9.out⟩
                          · obtain ⟨V, hV⟩ : ∃ V : ByteArray, V = ⟨(quoted cnonce.data.toList).toArray⟩ := ⟨_, rfl⟩
                            unfold quoteRes at hqt
                            rw [hq, if_pos rfl, ← hV] at hqt
                            have hval : DItem.val ⟨(⟨#[99, 110, 111, 110, 99, 101]⟩ : ByteArray), cnonce, true⟩ = V.data.toList := by unfold DItem.val; rw [hV]; simp [hq]
                            have hVs : V.size ≤ 50000 := by
                              have h2 := escs_len cnonce.data.toList
                              rw [sz_len, hV]
                              rw [← sz_len] at h2
                              unfold quoted
                              simp only [List.length_cons, List.length_append, List.length_nil]
                              omega
                            have hno : DItem.bad ⟨(⟨#[99, 110, 111, 110, 99, 101]⟩ : ByteArray), cnonce, true⟩ = false := by unfold DItem.bad; rw [hq]; rfl
                            have f1 : ((⟨#[44, 32, 99, 110, 111, 110, 99, 101, 61]⟩ : ByteArray) ++ V).size = 9 + V.size := by rw [add_size]; rfl
                            have f2 : (S7 ++ ((⟨#[44, 32, 99, 110, 111, 110, 99, 101, 61]⟩ : ByteArray) ++ V)).size ≤ 1800000 := by rw [add_size, f1]; omega
                            have hSn := Lib.hid (show (S7 ++ ((⟨#[44, 32, 99, 110, 111, 110, 99, 101, 61]⟩ : ByteArray) ++ V)).data.toList = (dFold (L7 ++ itemsC ⟨k, realm, nonce, opq, sess, qop, stale, dom⟩ cnonce)).2 by
                              rw [hIc.out]
                              show _ = (dFold (L7 ++ [⟨(⟨#[99, 110, 111, 110, 99, 101]⟩ : ByteArray), cnonce, true⟩])).2
                              rw [dAdd hne7, ← hS7.out]
                              unfold DItem.text
                              rw [hval]
                              simp only [add_toList, List.append_assoc]
                              rfl)
                            have hFn := Lib.hid (show (dFold (L7 ++ itemsC ⟨k, realm, nonce, opq, sess, qop, stale, dom⟩ cnonce)).1 = false by
                              rw [hIc.out]
                              show (dFold (L7 ++ [⟨(⟨#[99, 110, 111, 110, 99, 101]⟩ : ByteArray), cnonce, true⟩])).1 = false
                              rw [dBad, hF7.out, hno]; rfl)
                            have hz := Lib.hid f2
                            clear hV hq hval hno hin f2
                            go_wp2_with fail
                            refine (hqt _).mono ?_
                            rintro e x8 ⟨rfl, rfl⟩
                            go_wp2
                            go_meet
                            exact ⟨_, rfl, hz.out, hSn, hFn, hW9⟩
                        · go_wp2_with fail
                          go_meet
                          exact ⟨_, rfl, by omega, Lib.hid (by have h := hS7.out; rw [← List.append_nil L7] at h; rw [hIc.out]; exact h), Lib.hid (by have h := hF7.out; rw [← List.append_nil L7] at h; rw [hIc.out]; exact h), hW9⟩
                      case rest =>
                        obtain ⟨S8, rfl, hz8, hS8, hF8, hW10⟩ := hcut
                        clear k0 k1 k2 k3 k4 k5 k6 k7 u0 u1
                        clear hW9 hS7 hF7 hIc
                        obtain ⟨w10, hw10⟩ : ∃ x, x = wc := ⟨_, rfl⟩
                        rw [← hw10] at hW10 ⊢
                        clear hw10
                        have hne8 : L7 ++ itemsC ⟨k, realm, nonce, opq, sess, qop, stale, dom⟩ cnonce ≠ [] := by simp [hne7]
                        obtain ⟨L8, hL8⟩ : ∃ L, L = L7 ++ itemsC ⟨k, realm, nonce, opq, sess, qop, stale, dom⟩ cnonce := ⟨_, rfl⟩
                        rw [← hL8] at hS8 hF8 hne8 hall6
                        clear hL8 hne7
                        obtain ⟨_, k0, k1, k2, k3, k4, k5, k6, k7, u0, u1⟩ := hkk _ hW10.out
                        go_upto_if 142 with (fail)
                        go_cut [17] (fun s wx => ∃ S : ByteArray, s = .string S ∧ S.size ≤ 1900000 ∧ Hid (S.data.toList = (dFold (L8 ++ itemsO ⟨k, realm, nonce, opq, sess, qop, stale, dom⟩)).2) ∧ Hid ((dFold (L8 ++ itemsO ⟨k, realm, nonce, opq, sess, qop, stale, dom⟩)).1 = false) ∧ Hid (Below (w.heap.size + 2) ((w.alloc (boxA ⟨⟨k, realm, nonce, opq, sess, qop, stale, dom⟩, ad, cap⟩)).alloc (boxC user pass)) wx))
                        case first =>
                          cases he : opq.toList.isEmpty
                          · have hIo := Lib.hid (show itemsO ⟨k, realm, nonce, opq, sess, qop, stale, dom⟩ = [⟨(⟨#[111, 112, 97, 113, 117, 101]⟩ : ByteArray), opq, true⟩] by unfold itemsO; simp only [he]; rfl)
                            have hqt := fun w' => refQuote opq w' (by omega)
                            have hin : (⟨(⟨#[111, 112, 97, 113, 117, 101]⟩ : ByteArray), opq, true⟩ : DItem) ∈ digItems ⟨k, realm, nonce, opq, sess, qop, stale, dom⟩ user target cnonce resp cnt := by rw [hall6.out, hIo.out]; simp
                            cases hq : quotable opq.data.toList
                            · have hres := Lib.hid (show res = (3, ⟨#[]⟩) by rw [hv1.out, if_pos (any_of hin (by unfold DItem.bad; simp only [hq]; rfl))])
                              unfold quoteRes at hqt
                              rw [hq] at hqt
                              have hqt' : ∀ w', Calls Tryd.prog 59 #[.string opq] w' fun e w'' => e = .returned (.tuple #[.string ⟨#[]⟩, .int .i64 3]) ∧ w' = w'' := hqt
                              clear hqt hq hin
                              go_wp2_with fail
                              refine (hqt' _).mono ?_
                              rintro e x8 ⟨rfl, rfl⟩
                              go_wp2
                              go_ret2
                              exact ⟨by rw [hres.out]; rfl, hb _ hW10.out⟩
                            · obtain ⟨V, hV⟩ : ∃ V : ByteArray, V = ⟨(quoted opq.data.toList).toArray⟩ := ⟨_, rfl⟩
                              unfold quoteRes at hqt
                              rw [hq, if_pos rfl, ← hV] at hqt
                              have hval : DItem.val ⟨(⟨#[111, 112, 97, 113, 117, 101]⟩ : ByteArray), opq, true⟩ = V.data.toList := by unfold DItem.val; rw [hV]; simp [hq]
                              have hVs : V.size ≤ 50000 := by
                                have h2 := escs_len opq.data.toList
                                rw [sz_len, hV]
                                rw [← sz_len] at h2
                                unfold quoted
                                simp only [List.length_cons, List.length_append, List.length_nil]
                                omega
                              have hno : DItem.bad ⟨(⟨#[111, 112, 97, 113, 117, 101]⟩ : ByteArray), opq, true⟩ = false := by unfold DItem.bad; rw [hq]; rfl
                              have f1 : ((⟨#[44, 32, 111, 112, 97, 113, 117, 101, 61]⟩ : ByteArray) ++ V).size = 9 + V.size := by rw [add_size]; rfl
                              have f2 : (S8 ++ ((⟨#[44, 32, 111, 112, 97, 113, 117, 101, 61]⟩ : ByteArray) ++ V)).size ≤ 1900000 := by rw [add_size, f1]; omega
                              have hSn := Lib.hid (show (S8 ++ ((⟨#[44, 32, 111, 112, 97, 113, 117, 101, 61]⟩ : ByteArray) ++ V)).data.toList = (dFold (L8 ++ itemsO ⟨k, realm, nonce, opq, sess, qop, stale, dom⟩)).2 by
                                rw [hIo.out]
                                show _ = (dFold (L8 ++ [⟨(⟨#[111, 112, 97, 113, 117, 101]⟩ : ByteArray), opq, true⟩])).2
                                rw [dAdd hne8, ← hS8.out]
                                unfold DItem.text
                                rw [hval]
                                simp only [add_toList, List.append_assoc]
                                rfl)
                              have hFn := Lib.hid (show (dFold (L8 ++ itemsO ⟨k, realm, nonce, opq, sess, qop, stale, dom⟩)).1 = false by
                                rw [hIo.out]
                                show (dFold (L8 ++ [⟨(⟨#[111, 112, 97, 113, 117, 101]⟩ : ByteArray), opq, true⟩])).1 = false
                                rw [dBad, hF8.out, hno]; rfl)
                              have hz := Lib.hid f2
                              clear hV hq hval hno hin f2
                              go_wp2_with fail
                              refine (hqt _).mono ?_
                              rintro e x8 ⟨rfl, rfl⟩
                              go_wp2
                              go_meet
                              exact ⟨_, rfl, hz.out, hSn, hFn, hW10⟩
                          · have hIo := Lib.hid (show itemsO ⟨k, realm, nonce, opq, sess, qop, stale, dom⟩ = [] by unfold itemsO; simp only [he]; rfl)
                            go_wp2_with fail
                            go_meet
                            exact ⟨_, rfl, by omega, Lib.hid (by rw [hIo.out, List.append_nil]; exact hS8.out), Lib.hid (by rw [hIo.out, List.append_nil]; exact hF8.out), hW10⟩
                        case rest =>
                          obtain ⟨S9, rfl, hz9, hS9, hF9, hW11⟩ := hcut
                          rw [← hall6.out] at hS9 hF9
                          have hr := Lib.hid (show res = (0, S9) by rw [hv1.out, hF9.out, if_neg (by decide), ← hS9.out, ← ba_eq rfl])
                          go_wp2_with fail
                          go_ret2
                          exact ⟨by rw [hr.out]; rfl, hb _ hW11.out⟩
      · rw [show (decide ((1 : Int) ≤ n) && decide (n ≤ 4294967295)) = false by simp; omega] at hwn
        have hv1 := Lib.hid (show res = (2, ⟨#[]⟩) by rw [hv.out, if_neg (by decide), if_pos (by omega)])
        go_wp2_with fail
        refine (hwn _).mono ?_
        rintro e w2 ⟨rfl, rfl⟩
        go_wp2
        go_ret2
        exact ⟨by rw [hv1.out]; rfl, hb _ hW.out⟩
    · have hv1 := Lib.hid (show res = (1, ⟨#[]⟩) by rw [hv.out, if_pos rfl])
      go_wp2_with fail
      go_ret2
      exact ⟨by rw [hv1.out]; rfl, hb _ hW.out⟩
end Go.Proofs.YtdlhihfjigcimaaDoor
