/- proof.Digest, whole: which error, or the header. -/
import Derived.Test.YtdlhihfjigcimaaDoorDig
namespace Go.Proofs.YtdlhihfjigcimaaDoor
open Go.RowKit
abbrev tCreds : TypeId := 45
theorem infoCreds : (Tryd.prog.info? 45).map (·.size) = some 2 := by kernel_rfl
/-- the boxes of a Digest, behind these items -/
structure DGL (w : World) (p : Nat) (wx : World) (a : AskV) (user pass : ByteArray) (l : List DItem) : Prop where
  ask : Blk wx w.heap.size a.arr tAsk
  cr : Blk wx (w.heap.size + 1) #[.string user, .string pass] tCreds
  bui : IsB (w.heap.size + 2) (w.heap.size + 2) (Lib.byteCells (dFold l).2) wx
  bd : Blk wx p #[.bool (dFold l).1] tBool
  low : Below w.heap.size w wx
  sz : w.heap.size + 3 ≤ wx.heap.size
  pp : w.heap.size + 3 ≤ p
  ok : ∀ it ∈ l, DOk it
theorem DGL.then {w wx wy : World} {p : Nat} {a : AskV} {user pass : ByteArray} {l : List DItem} (h : DGL w p wx a user pass l) (hb : Below wx.heap.size wx wy) : DGL w p wy a user pass l :=
  ⟨h.ask.later hb, h.cr.later hb, h.bui.later hb, h.bd.later hb, h.low.trans (hb.mono (Nat.le_trans (by omega) h.sz)), Nat.le_trans h.sz hb.size, h.pp, h.ok⟩
theorem DGL.call {w wx : World} {p : Nat} {a : AskV} {user pass : ByteArray} {l : List DItem} (h : DGL w p wx a user pass l) (nm vl : ByteArray) (q : Bool) (hn : nm.size ≤ 100) (hv : vl.size ≤ 100000) (hl : l.length ≤ 20) :
    Calls Tryd.prog 62 #[.string nm, .string vl, .bool q, .pointer (some ⟨p, 0, none⟩), .pointer (some ⟨w.heap.size + 2, 0, none⟩)] wx fun e wy => e = .returned (.tuple #[]) ∧ DGL w p wy a user pass (l ++ [⟨nm, vl, q⟩]) := by
  have hlen := dFold_len h.ok
  have hpp := h.pp
  have hsz := h.sz
  refine (digAdd (w.heap.size + 2) (w.heap.size + 2) p ⟨nm, vl, q⟩ (dFold l).1 (dFold l).2 wx h.bui h.bd (by omega) (by omega) (by omega) ⟨hn, hv⟩ (by omega)).mono ?_
  rintro e wy ⟨rfl, hD, hO⟩
  have hD' : DigAt (w.heap.size + 2) (w.heap.size + 2) p (dStep (dFold l) ⟨nm, vl, q⟩) wy := hD
  rw [← dFold_snoc] at hD'
  refine ⟨rfl, (hO.block _ (by omega)).trans h.ask, (hO.block _ (by omega)).trans h.cr, hD'.1, hD'.2, h.low.trans (hO.mono (by omega)), Nat.le_trans hsz hO.size, hpp, ?_⟩
  intro it hit
  rw [List.mem_append, List.mem_singleton] at hit
  rcases hit with hit | rfl
  · exact h.ok it hit
  · exact ⟨hn, hv⟩
def errD (k : Int) : Value := if k = 0 then .nilIface else .iface 35 (.int .i64 k)
def digV (r : Int × ByteArray) : Value := .tuple #[.string r.2, errD r.1]
set_option maxRecDepth 100000 in
set_option maxHeartbeats 8000000 in
theorem proofDigest (a : AskV) (user pass method target body cnonce : ByteArray) (n : Int) (w : World) (hT : SumT w) (hn : n < 9223372036854775808)
    (z1 : a.d.realm.size ≤ 20000) (z2 : a.d.nonce.size ≤ 20000) (z3 : a.d.qop.size ≤ 20000) (z4 : user.size ≤ 20000) (z5 : pass.size ≤ 20000) (z6 : method.size ≤ 20000) (z7 : target.size ≤ 20000) (z8 : body.size ≤ 20000) (z9 : cnonce.size ≤ 20000) (z10 : a.d.opaque_.size ≤ 20000) :
    Calls Tryd.prog 23 #[.agg a.arr, .agg #[.string user, .string pass], .string method, .string target, .string body, .string cnonce, .int .i64 n] w fun e w' => e = .returned (digV (digRes a.d user target cnonce (respB a.d user pass method target body cnonce n.toNat) (countB n.toNat) n)) ∧ Below w.heap.size w w' := by
  have hR := fun (h0 : 0 ≤ n) w' hT' => proofResponse a user pass method target body cnonce n.toNat w' hT' (by omega) z1 z2 z3 z4 z5 z6 z7 z8 z9
  have hCn := fun (h0 : 0 ≤ n) w' hd => proofCount n.toNat (by omega) w' hd
  have hNm := fun w' => proofName a w'
  have hNs := schB_size a.d.scheme a.d.sess
  have hcs := countB_size n.toNat
  have hrs : (respB a.d user pass method target body cnonce n.toNat).size ≤ 64 := by
    unfold respB endB
    split <;> exact hashB_size _ _
  have hN2 : ∀ h0 : 0 ≤ n, ((n.toNat : Nat) : Int) = n := fun h0 => Int.toNat_of_nonneg h0
  rw [show (⟨(fillD 16 n.toNat 8).toArray⟩ : ByteArray) = countB n.toNat from rfl] at hCn
  obtain ⟨⟨k, realm, nonce, opq, sess, qop, stale, dom⟩, ad, cap⟩ := a
  simp only at *
  generalize hrr : respB _ user pass method target body cnonce n.toNat = resp at hR hrs ⊢
  clear hrr
  generalize countB n.toNat = cnt at hCn hcs ⊢
  generalize hsch : schB k sess = sch at hNm hNs
  have hsch' := Lib.hid hsch
  clear hsch
  obtain ⟨res, hres⟩ : ∃ r, r = digRes ⟨k, realm, nonce, opq, sess, qop, stale, dom⟩ user target cnonce resp cnt n := ⟨_, rfl⟩
  rw [← hres]
  have hv := Lib.hid (show res = (if (!schOk k || !qopOk qop) = true then ((1 : Int), (⟨#[]⟩ : ByteArray)) else if n < 1 ∨ 4294967295 < n then (2, ⟨#[]⟩) else if (dFold (digItems ⟨k, realm, nonce, opq, sess, qop, stale, dom⟩ user target cnonce resp cnt)).1 = true then (3, ⟨#[]⟩) else (0, ⟨(dFold (digItems ⟨k, realm, nonce, opq, sess, qop, stale, dom⟩ user target cnonce resp cnt)).2.toArray⟩)) from hres)
  clear hres
  have hW0 : Below w.heap.size w ((w.alloc (boxA ⟨⟨k, realm, nonce, opq, sess, qop, stale, dom⟩, ad, cap⟩)).alloc (boxC user pass)) := ((Below.refl _ _).alloc (Nat.le_refl _) _).alloc (by simp) _
  have hA0 : Blk ((w.alloc (boxA ⟨⟨k, realm, nonce, opq, sess, qop, stale, dom⟩, ad, cap⟩)).alloc (boxC user pass)) w.heap.size (AskV.arr ⟨⟨k, realm, nonce, opq, sess, qop, stale, dom⟩, ad, cap⟩) tAsk := (Blk.new w _ _).alloc _
  have hC0 : Blk ((w.alloc (boxA ⟨⟨k, realm, nonce, opq, sess, qop, stale, dom⟩, ad, cap⟩)).alloc (boxC user pass)) (w.heap.size + 1) #[.string user, .string pass] tCreds := by simpa using Blk.new (w.alloc (boxA ⟨⟨k, realm, nonce, opq, sess, qop, stale, dom⟩, ad, cap⟩)) #[.string user, .string pass] tCreds
  have hZ0 : ((w.alloc (boxA ⟨⟨k, realm, nonce, opq, sess, qop, stale, dom⟩, ad, cap⟩)).alloc (boxC user pass)).heap.size = w.heap.size + 2 := by simp
  go_enter Tryd.func23, Tryd.ntmps23
  go_upto_region 1 with (fail)
  generalize (w.alloc (boxA ⟨⟨k, realm, nonce, opq, sess, qop, stale, dom⟩, ad, cap⟩)).alloc (boxC user pass) = w1 at hW0 hA0 hC0 hZ0 ⊢
  obtain ⟨q0, q1, q2, q3, q4, q5, q6, q7⟩ := blk_cells hA0
  go_cut [41] (fun s wx => s = .bool (!schOk k || !qopOk qop) ∧ w1 = wx)
  case first =>
    by_cases k2 : k = 2
    · have hs : schOk k = true := by unfold schOk; simp [k2]
      subst k2
      cases he : qop.toList.isEmpty
      · cases h1 : (qop.toList == [97, 117, 116, 104])
        · cases h2 : (qop.toList == [97, 117, 116, 104, 45, 105, 110, 116])
          · have hq : qopOk qop = false := by unfold qopOk; rw [he, h1, h2]; rfl
            have h1' : (qop.toList != [97, 117, 116, 104]) = true := by rw [bne, h1]; rfl
            have h2' : (qop.toList != [97, 117, 116, 104, 45, 105, 110, 116]) = true := by rw [bne, h2]; rfl
            go_wp2_with fail
            go_meet
            exact ⟨by rw [hs, hq]; rfl, rfl⟩
          · have hq : qopOk qop = true := by unfold qopOk; rw [he, h1, h2]; rfl
            have h1' : (qop.toList != [97, 117, 116, 104]) = true := by rw [bne, h1]; rfl
            have h2' : (qop.toList != [97, 117, 116, 104, 45, 105, 110, 116]) = false := by rw [bne, h2]; rfl
            go_wp2_with fail
            go_meet
            exact ⟨by rw [hs, hq]; rfl, rfl⟩
        · have hq : qopOk qop = true := by unfold qopOk; rw [he, h1]; rfl
          have h1' : (qop.toList != [97, 117, 116, 104]) = false := by rw [bne, h1]; rfl
          go_wp2_with fail
          go_meet
          exact ⟨by rw [hs, hq]; rfl, rfl⟩
      · have hq : qopOk qop = true := by unfold qopOk; rw [he]; rfl
        go_wp2_with fail
        go_meet
        exact ⟨by rw [hs, hq]; rfl, rfl⟩
    · have g2 : (k == 2) = false := by simpa using k2
      have g2' : (k != 2) = true := by simpa using k2
      by_cases k3 : k = 3
      · have hs : schOk k = true := by unfold schOk; simp [k3]
        subst k3
        cases he : qop.toList.isEmpty
        · cases h1 : (qop.toList == [97, 117, 116, 104])
          · cases h2 : (qop.toList == [97, 117, 116, 104, 45, 105, 110, 116])
            · have hq : qopOk qop = false := by unfold qopOk; rw [he, h1, h2]; rfl
              have h1' : (qop.toList != [97, 117, 116, 104]) = true := by rw [bne, h1]; rfl
              have h2' : (qop.toList != [97, 117, 116, 104, 45, 105, 110, 116]) = true := by rw [bne, h2]; rfl
              go_wp2_with fail
              go_meet
              exact ⟨by rw [hs, hq]; rfl, rfl⟩
            · have hq : qopOk qop = true := by unfold qopOk; rw [he, h1, h2]; rfl
              have h1' : (qop.toList != [97, 117, 116, 104]) = true := by rw [bne, h1]; rfl
              have h2' : (qop.toList != [97, 117, 116, 104, 45, 105, 110, 116]) = false := by rw [bne, h2]; rfl
              go_wp2_with fail
              go_meet
              exact ⟨by rw [hs, hq]; rfl, rfl⟩
          · have hq : qopOk qop = true := by unfold qopOk; rw [he, h1]; rfl
            have h1' : (qop.toList != [97, 117, 116, 104]) = false := by rw [bne, h1]; rfl
            go_wp2_with fail
            go_meet
            exact ⟨by rw [hs, hq]; rfl, rfl⟩
        · have hq : qopOk qop = true := by unfold qopOk; rw [he]; rfl
          go_wp2_with fail
          go_meet
          exact ⟨by rw [hs, hq]; rfl, rfl⟩
      · have g3 : (k == 3) = false := by simpa using k3
        have g3' : (k != 3) = true := by simpa using k3
        have hs : schOk k = false := by unfold schOk; simp [k2, k3]
        go_wp2_with fail
        go_meet
        exact ⟨by rw [hs]; rfl, rfl⟩
  case rest =>
    obtain ⟨rfl, rfl⟩ := hcut
    generalize (!schOk k || !qopOk qop) = bad at hv ⊢
    cases bad
    · by_cases n1 : n < 1
      · have hv1 := Lib.hid (show res = (2, ⟨#[]⟩) by rw [hv.out, if_neg (by decide), if_pos (.inl n1)])
        go_wp2_with fail
        go_ret2
        exact ⟨by rw [hv1.out]; rfl, hW0⟩
      · by_cases n2 : 4294967295 < n
        · have hv1 := Lib.hid (show res = (2, ⟨#[]⟩) by rw [hv.out, if_neg (by decide), if_pos (.inr n2)])
          go_wp2_with fail
          go_ret2
          exact ⟨by rw [hv1.out]; rfl, hW0⟩
        · have hv1 := Lib.hid (show res = (if (dFold (digItems ⟨k, realm, nonce, opq, sess, qop, stale, dom⟩ user target cnonce resp cnt)).1 = true then (3, ⟨#[]⟩) else (0, ⟨(dFold (digItems ⟨k, realm, nonce, opq, sess, qop, stale, dom⟩ user target cnonce resp cnt)).2.toArray⟩)) by rw [hv.out, if_neg (by decide), if_neg (by omega)])
          have hR1 := hR (by omega)
          have hC1 := hCn (by omega)
          rw [hN2 (by omega)] at hR1 hC1
          clear hR hCn hN2 hv q0 q1 q2 q3 q4 q5 q6 q7
          have hTl := fun w' (h : Below w.heap.size w w') => hT.later h
          have hnw := IsB.new w1 (w.heap.size + 2) (by omega)
          have hb0 := (Below.refl w1.heap.size w1).alloc (Nat.le_refl _) (.cells #[.pointer none, .slice none 0 0] 101)
          have hA1 := hA0.later hb0
          have hC2 := hC0.later hb0
          have hl1 := hW0.trans (hb0.mono (by omega))
          have hZ1 : (w1.alloc (.cells #[.pointer none, .slice none 0 0] 101)).heap.size = w.heap.size + 3 := by simp [hZ0]
          rw [hZ0] at hnw
          have hws := writeStringK (w.heap.size + 2) (w.heap.size + 2) [] (⟨#[68, 105, 103, 101, 115, 116, 32]⟩ : ByteArray) _ hnw (by decide) (by rw [hZ1]; omega)
          clear hnw hb0 hA0 hC0
          go_wp2_with fail
          refine hws.mono ?_
          rintro e w2 ⟨rfl, hI2, hB2, hK2⟩
          have hs2 : w.heap.size + 3 ≤ w2.heap.size := by have := hB2.size; rw [hZ1] at this; exact this
          have hb3 := (Below.refl w2.heap.size w2).alloc (Nat.le_refl _) (.cells #[.bool false] tBool)
          have D0 : DGL w w2.heap.size (w2.alloc (.cells #[.bool false] tBool)) ⟨⟨k, realm, nonce, opq, sess, qop, stale, dom⟩, ad, cap⟩ user pass [] :=
            ⟨Blk.later ((hB2.block _ (by omega)).trans hA1) hb3, Blk.later ((hB2.block _ (by omega)).trans hC2) hb3, hI2.later hb3, Blk.new w2 _ _, (hl1.trans (hB2.mono (by omega))).trans (hb3.mono (by omega)), by simp; omega, hs2, fun it h => by simp at h⟩
          have D0' := Lib.hid D0
          clear hI2 hB2 hK2 hA1 hC2 hl1 hZ1 hb3 D0 hws
          go_upto_region 9 with (fail)
          generalize w2.alloc (.cells #[.bool false] tBool) = wa at D0' ⊢
          generalize w2.heap.size = P at D0' ⊢
          clear hs2 hW0 hZ0
          obtain ⟨q0, q1, q2, q3, q4, q5, q6, q7⟩ := blk_cells D0'.out.ask
          have u0 : _ = some (Value.string user) := D0'.out.cr.cell 0 rfl
          have u1 : _ = some (Value.string pass) := D0'.out.cr.cell 1 rfl
          have hI1 := Lib.hid (D0'.out.call (⟨#[117, 115, 101, 114, 110, 97, 109, 101]⟩ : ByteArray) user true (by decide) (by omega) (by simp))
          go_wp2_with fail
          refine hI1.out.mono ?_
          rintro e v1 ⟨rfl, E1⟩
          have D1 := Lib.hid E1
          clear D0' E1 hI1 q0 q1 q2 q3 q4 q5 q6 q7 u0 u1
          obtain ⟨q0, q1, q2, q3, q4, q5, q6, q7⟩ := blk_cells D1.out.ask
          have u0 : _ = some (Value.string user) := D1.out.cr.cell 0 rfl
          have u1 : _ = some (Value.string pass) := D1.out.cr.cell 1 rfl
          have hI2 := Lib.hid (D1.out.call (⟨#[114, 101, 97, 108, 109]⟩ : ByteArray) realm true (by decide) (by omega) (by simp))
          go_wp2_with fail
          refine hI2.out.mono ?_
          rintro e v2 ⟨rfl, E2⟩
          have D2 := Lib.hid E2
          clear D1 E2 hI2 q0 q1 q2 q3 q4 q5 q6 q7 u0 u1
          obtain ⟨q0, q1, q2, q3, q4, q5, q6, q7⟩ := blk_cells D2.out.ask
          have u0 : _ = some (Value.string user) := D2.out.cr.cell 0 rfl
          have u1 : _ = some (Value.string pass) := D2.out.cr.cell 1 rfl
          have hI3 := Lib.hid (D2.out.call (⟨#[110, 111, 110, 99, 101]⟩ : ByteArray) nonce true (by decide) (by omega) (by simp))
          go_wp2_with fail
          refine hI3.out.mono ?_
          rintro e v3 ⟨rfl, E3⟩
          have D3 := Lib.hid E3
          clear D2 E3 hI3 q0 q1 q2 q3 q4 q5 q6 q7 u0 u1
          obtain ⟨q0, q1, q2, q3, q4, q5, q6, q7⟩ := blk_cells D3.out.ask
          have u0 : _ = some (Value.string user) := D3.out.cr.cell 0 rfl
          have u1 : _ = some (Value.string pass) := D3.out.cr.cell 1 rfl
          have hI4 := Lib.hid (D3.out.call (⟨#[117, 114, 105]⟩ : ByteArray) target true (by decide) (by omega) (by simp))
          go_wp2_with fail
          refine hI4.out.mono ?_
          rintro e v4 ⟨rfl, E4⟩
          have D4 := Lib.hid E4
          clear D3 E4 hI4 q0 q1 q2 q3 q4 q5 q6 q7 u0 u1
          have hA4 := D4.out.ask
          have u0 : _ = some (Value.string user) := D4.out.cr.cell 0 rfl
          have u1 : _ = some (Value.string pass) := D4.out.cr.cell 1 rfl
          have hR2 := hR1 _ (hTl _ D4.out.low)
          go_wp2_with (refine wpList_load_blk rfl tAsk _ rfl _ rfl hA4 _ Tryd.underlying26 rfl infoAsk ?_)
          refine hR2.mono ?_
          rintro e x4 ⟨rfl, hBx⟩
          have D4' := Lib.hid (D4.out.then hBx)
          clear hA4 u0 u1 D4 hBx hR2 hR1
          obtain ⟨q0, q1, q2, q3, q4, q5, q6, q7⟩ := blk_cells D4'.out.ask
          have u0 : _ = some (Value.string user) := D4'.out.cr.cell 0 rfl
          have u1 : _ = some (Value.string pass) := D4'.out.cr.cell 1 rfl
          have hI5 := Lib.hid (D4'.out.call (⟨#[114, 101, 115, 112, 111, 110, 115, 101]⟩ : ByteArray) resp true (by decide) (by omega) (by simp))
          go_wp2_with fail
          refine hI5.out.mono ?_
          rintro e v5 ⟨rfl, E5⟩
          have D5 := Lib.hid E5
          clear D4' E5 hI5 q0 q1 q2 q3 q4 q5 q6 q7 u0 u1
          have hA5 := D5.out.ask
          have hN2 := hNm v5
          go_wp2_with (refine wpList_load_blk rfl tAsk _ rfl _ rfl hA5 _ Tryd.underlying26 rfl infoAsk ?_)
          refine hN2.mono ?_
          rintro e x5 ⟨rfl, hBx⟩
          have D5' := Lib.hid (D5.out.then hBx)
          clear hA5 D5 hBx hN2 hNm
          obtain ⟨q0, q1, q2, q3, q4, q5, q6, q7⟩ := blk_cells D5'.out.ask
          have u0 : _ = some (Value.string user) := D5'.out.cr.cell 0 rfl
          have u1 : _ = some (Value.string pass) := D5'.out.cr.cell 1 rfl
          have hI6 := Lib.hid (D5'.out.call (⟨#[97, 108, 103, 111, 114, 105, 116, 104, 109]⟩ : ByteArray) sch false (by decide) (by omega) (by simp))
          go_wp2_with fail
          refine hI6.out.mono ?_
          rintro e v6 ⟨rfl, E6⟩
          have D6 := Lib.hid E6
          clear D5' E6 hI6 q0 q1 q2 q3 q4 q5 q6 q7 u0 u1
          have L6 : Hid (DGL w P v6 ⟨⟨k, realm, nonce, opq, sess, qop, stale, dom⟩, ad, cap⟩ user pass (items5 ⟨k, realm, nonce, opq, sess, qop, stale, dom⟩ user target resp ++ itemsA ⟨k, realm, nonce, opq, sess, qop, stale, dom⟩)) := Lib.hid (by have h := D6.out; rw [← hsch'.out] at h; exact h)
          clear D6 hsch'
          obtain ⟨l6, hl6⟩ : ∃ l, l = items5 ⟨k, realm, nonce, opq, sess, qop, stale, dom⟩ user target resp ++ itemsA ⟨k, realm, nonce, opq, sess, qop, stale, dom⟩ := ⟨_, rfl⟩
          rw [← hl6] at L6
          have hn6 : l6.length ≤ 6 := by rw [hl6]; exact Nat.le_refl _
          have hl6' := Lib.hid hl6
          clear hl6
          obtain ⟨q0, q1, q2, q3, q4, q5, q6, q7⟩ := blk_cells L6.out.ask
          go_upto_if 83 with (fail)
          go_cut [] (fun wx => Hid (DGL w P wx ⟨⟨k, realm, nonce, opq, sess, qop, stale, dom⟩, ad, cap⟩ user pass (l6 ++ itemsQ ⟨k, realm, nonce, opq, sess, qop, stale, dom⟩ cnt)))
          case first =>
            cases he : qop.toList.isEmpty
            · have hIq := Lib.hid (show itemsQ ⟨k, realm, nonce, opq, sess, qop, stale, dom⟩ cnt = [⟨(⟨#[113, 111, 112]⟩ : ByteArray), qop, false⟩, ⟨(⟨#[110, 99]⟩ : ByteArray), cnt, false⟩] by unfold itemsQ; simp only [he]; rfl)
              obtain ⟨q0, q1, q2, q3, q4, q5, q6, q7⟩ := blk_cells L6.out.ask
              have u0 : _ = some (Value.string user) := L6.out.cr.cell 0 rfl
              have u1 : _ = some (Value.string pass) := L6.out.cr.cell 1 rfl
              have hI7 := Lib.hid (L6.out.call (⟨#[113, 111, 112]⟩ : ByteArray) qop false (by decide) (by omega) (by omega))
              go_wp2_with fail
              refine hI7.out.mono ?_
              rintro e v7 ⟨rfl, E7⟩
              have D7 := Lib.hid E7
              clear L6 E7 hI7 q0 q1 q2 q3 q4 q5 q6 q7 u0 u1
              have hC3 := hC1 _ (hTl _ D7.out.low).deb
              go_wp2_with fail
              refine hC3.mono ?_
              rintro e x7 ⟨rfl, hBx⟩
              have D7' := Lib.hid (D7.out.then hBx)
              clear D7 hBx hC3
              obtain ⟨q0, q1, q2, q3, q4, q5, q6, q7⟩ := blk_cells D7'.out.ask
              have u0 : _ = some (Value.string user) := D7'.out.cr.cell 0 rfl
              have u1 : _ = some (Value.string pass) := D7'.out.cr.cell 1 rfl
              have hI8 := Lib.hid (D7'.out.call (⟨#[110, 99]⟩ : ByteArray) cnt false (by decide) (by omega) (by simp; omega))
              go_wp2_with fail
              refine hI8.out.mono ?_
              rintro e v8 ⟨rfl, E8⟩
              have D8 := Lib.hid E8
              clear D7' E8 hI8 q0 q1 q2 q3 q4 q5 q6 q7 u0 u1
              go_wp2_with fail
              go_meet
              exact Lib.hid (by rw [hIq.out]; have h := D8.out; rw [List.append_assoc] at h; exact h)
            · have hIq := Lib.hid (show itemsQ ⟨k, realm, nonce, opq, sess, qop, stale, dom⟩ cnt = [] by unfold itemsQ; simp only [he]; rfl)
              go_wp2_with fail
              go_meet
              exact Lib.hid (by rw [hIq.out, List.append_nil]; exact L6.out)
          case rest =>
            have L7 := hcut
            clear hcut q0 q1 q2 q3 q4 q5 q6 q7 L6 hC1
            obtain ⟨l7, hl7⟩ : ∃ l, l = l6 ++ itemsQ ⟨k, realm, nonce, opq, sess, qop, stale, dom⟩ cnt := ⟨_, rfl⟩
            rw [← hl7] at L7
            have hn7 : l7.length ≤ 8 := by
              rw [hl7, List.length_append]
              have : (itemsQ ⟨k, realm, nonce, opq, sess, qop, stale, dom⟩ cnt).length ≤ 2 := by unfold itemsQ; split <;> simp
              omega
            have hl7' := Lib.hid hl7
            clear hl7 hn6
            obtain ⟨w7, hw7⟩ : ∃ w7, w7 = wc := ⟨_, rfl⟩
            rw [← hw7] at L7 ⊢
            clear hw7
            obtain ⟨q0, q1, q2, q3, q4, q5, q6, q7⟩ := blk_cells L7.out.ask
            go_upto_region 18 with (fail)
            go_cut [98] (fun s wx => s = .bool (!(qop.toList.isEmpty && !sess)) ∧ w7 = wx)
            case first =>
              cases he : qop.toList.isEmpty
              · go_wp2_with fail
                go_meet
                exact ⟨by rw [he]; rfl, rfl⟩
              · cases sess
                · go_wp2_with fail
                  go_meet
                  exact ⟨by rw [he]; rfl, rfl⟩
                · go_wp2_with fail
                  go_meet
                  exact ⟨by rw [he]; rfl, rfl⟩
            case rest =>
              obtain ⟨rfl, rfl⟩ := hcut
              obtain ⟨nb, hnb⟩ : ∃ b, b = (qop.toList.isEmpty && !sess) := ⟨_, rfl⟩
              rw [← hnb]
              have hIc := Lib.hid (show itemsC ⟨k, realm, nonce, opq, sess, qop, stale, dom⟩ cnonce = bif nb then [] else [⟨(⟨#[99, 110, 111, 110, 99, 101]⟩ : ByteArray), cnonce, true⟩] by rw [hnb]; unfold itemsC; cases (qop.toList.isEmpty && !sess) <;> rfl)
              clear hnb
              go_upto_if 98 with (fail)
              go_cut [] (fun wx => Hid (DGL w P wx ⟨⟨k, realm, nonce, opq, sess, qop, stale, dom⟩, ad, cap⟩ user pass (l7 ++ itemsC ⟨k, realm, nonce, opq, sess, qop, stale, dom⟩ cnonce)))
              case first =>
                cases nb
                · skip
                  obtain ⟨q0, q1, q2, q3, q4, q5, q6, q7⟩ := blk_cells L7.out.ask
                  have u0 : _ = some (Value.string user) := L7.out.cr.cell 0 rfl
                  have u1 : _ = some (Value.string pass) := L7.out.cr.cell 1 rfl
                  have hI9 := Lib.hid (L7.out.call (⟨#[99, 110, 111, 110, 99, 101]⟩ : ByteArray) cnonce true (by decide) (by omega) (by omega))
                  go_wp2_with fail
                  refine hI9.out.mono ?_
                  rintro e v9 ⟨rfl, E9⟩
                  have D9 := Lib.hid E9
                  clear L7 E9 hI9 q0 q1 q2 q3 q4 q5 q6 q7 u0 u1
                  go_wp2_with fail
                  go_meet
                  exact Lib.hid (by rw [hIc.out]; exact D9.out)
                · go_wp2_with fail
                  go_meet
                  exact Lib.hid (by have h := L7.out; rw [← List.append_nil l7] at h; rw [hIc.out]; exact h)
              case rest =>
                have L8 := hcut
                clear hcut q0 q1 q2 q3 q4 q5 q6 q7 L7 hIc
                obtain ⟨l8, hl8⟩ : ∃ l, l = l7 ++ itemsC ⟨k, realm, nonce, opq, sess, qop, stale, dom⟩ cnonce := ⟨_, rfl⟩
                rw [← hl8] at L8
                have hn8 : l8.length ≤ 9 := by
                  rw [hl8, List.length_append]
                  have : (itemsC ⟨k, realm, nonce, opq, sess, qop, stale, dom⟩ cnonce).length ≤ 1 := by unfold itemsC; split <;> simp
                  omega
                have hl8' := Lib.hid hl8
                clear hl8 hn7
                obtain ⟨q0, q1, q2, q3, q4, q5, q6, q7⟩ := blk_cells L8.out.ask
                go_upto_if 104 with (fail)
                go_cut [] (fun wx => Hid (DGL w P wx ⟨⟨k, realm, nonce, opq, sess, qop, stale, dom⟩, ad, cap⟩ user pass (l8 ++ itemsO ⟨k, realm, nonce, opq, sess, qop, stale, dom⟩)))
                case first =>
                  cases he : opq.toList.isEmpty
                  · have hIo := Lib.hid (show itemsO ⟨k, realm, nonce, opq, sess, qop, stale, dom⟩ = [⟨(⟨#[111, 112, 97, 113, 117, 101]⟩ : ByteArray), opq, true⟩] by unfold itemsO; simp only [he]; rfl)
                    obtain ⟨q0, q1, q2, q3, q4, q5, q6, q7⟩ := blk_cells L8.out.ask
                    have u0 : _ = some (Value.string user) := L8.out.cr.cell 0 rfl
                    have u1 : _ = some (Value.string pass) := L8.out.cr.cell 1 rfl
                    have hI10 := Lib.hid (L8.out.call (⟨#[111, 112, 97, 113, 117, 101]⟩ : ByteArray) opq true (by decide) (by omega) (by omega))
                    go_wp2_with fail
                    refine hI10.out.mono ?_
                    rintro e v10 ⟨rfl, E10⟩
                    have D10 := Lib.hid E10
                    clear L8 E10 hI10 q0 q1 q2 q3 q4 q5 q6 q7 u0 u1
                    go_wp2_with fail
                    go_meet
                    exact Lib.hid (by rw [hIo.out]; exact D10.out)
                  · have hIo := Lib.hid (show itemsO ⟨k, realm, nonce, opq, sess, qop, stale, dom⟩ = [] by unfold itemsO; simp only [he]; rfl)
                    go_wp2_with fail
                    go_meet
                    exact Lib.hid (by rw [hIo.out, List.append_nil]; exact L8.out)
                case rest =>
                  have L9 := hcut
                  clear hcut q0 q1 q2 q3 q4 q5 q6 q7 L8
                  have hall : l8 ++ itemsO ⟨k, realm, nonce, opq, sess, qop, stale, dom⟩ = digItems ⟨k, realm, nonce, opq, sess, qop, stale, dom⟩ user target cnonce resp cnt := by rw [hl8'.out, hl7'.out, hl6'.out]; rfl
                  rw [hall] at L9
                  have hr := hv1.out
                  generalize digItems ⟨k, realm, nonce, opq, sess, qop, stale, dom⟩ user target cnonce resp cnt = LL at L9 hr
                  have hr' := Lib.hid hr
                  have hlen := dFold_len L9.out.ok
                  have hst := Tryd.Builder_String_any _ _ _ _ L9.out.bui (by have := L9.out.sz; omega)
                  obtain ⟨ob, hob⟩ : ∃ ob : ByteArray, ob = ⟨(dFold LL).2.toArray⟩ := ⟨_, rfl⟩
                  rw [← hob] at hst hr'
                  have c0 : _ = some (Value.bool (dFold LL).1) := L9.out.bd.cell 0 rfl
                  have hlow := Lib.hid L9.out.low
                  clear hr hv1 hall hl6' hl7' hl8' hob hlen L9
                  generalize (dFold LL).1 = bd at hr' c0
                  cases bd
                  · go_wp2_with fail
                    refine hst.mono ?_
                    rintro e w9 ⟨rfl, hB9⟩
                    have hB10 := Lib.hid (hlow.out.trans (hB9.mono (by omega)))
                    go_wp2
                    go_ret2
                    exact ⟨by rw [hr'.out]; rfl, hB10.out⟩
                  · go_wp2_with fail
                    go_ret2
                    exact ⟨by rw [hr'.out]; rfl, hlow.out⟩
    · have hv1 := Lib.hid (show res = (1, ⟨#[]⟩) by rw [hv.out, if_pos rfl])
      go_wp2_with fail
      go_ret2
      exact ⟨by rw [hv1.out]; rfl, hW0⟩
end Go.Proofs.YtdlhihfjigcimaaDoor
