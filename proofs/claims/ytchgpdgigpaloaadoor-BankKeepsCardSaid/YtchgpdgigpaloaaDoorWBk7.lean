/- BankKeeps: case 7 of the walk. -/
import Derived.Test.YtchgpdgigpaloaaDoorWBkS
namespace Go.Proofs.YtchgpdgigpaloaaDoor.lawBankKeeps
set_option linter.unusedSimpArgs false
open Go.ChangeShapes Go.WideShapes Go.ChangeAt Go.RowKit Go.WideElems Go.Deep
set_option maxRecDepth 100000 in
set_option maxHeartbeats 20000000 in
theorem case7 (W : World) (cap : Nat) (os : List BkOp) (_hl : os.length ≤ maxLen) (h40 : ¬ 40 < os.length) :
    (split W cap os _hl h40).t7 := by
  intro hk0 hOH hErrH _ _ _ _ wr _ u6 u7 u8 u9 _ _ _ _ _ _ _ _ _ _ _ _ _ u23 u24 u25 u26 u27 u28 u29 _ _ _ _ _ _ _ _ _ _ _ _ _ _ _ _ _ _ _ _ _ _ _ _ _ _ _ _ _ _ _ _ _ _ _ _ _ _ _ _ _ _ _ _ _ _ _ _ _ u86 _ _ _ _ _ _ _ _ _ _ _ _ _ _ _ _ _ _ _ _ _ _ _ _ _ _ _ _ _ _ _ _ _ _ _ _ _ _ _ _ _ _ _ _ _ _ _ _ _ _ _ _ _ _ _ _ _ _ _ _ _ _ _ _ _ _ _ _ _ _ _ _ _ _ _ _ _ _ _ _ _ _ _ _ _ _ _ _ _ _ _ _ _ _ _ _ _ _ _ _ _ _ _ _ _ _ _ _ _ _ _ _ _ _ _ _ _ _ _ _ _ _ _ _ _ _ _ _ _ _ _ _ _ _ _ _ _ _ _ _ _ _ _ _ _ _ _ _ _ _ _ _ _ _ _ _ _ _ _ _ _ _ _ _ _ _ _ _ _ _ _ _ _ _ _ _ _ _ _ _ _ _ _ _ _ _ _ _ _ _ _ _ _ _ _ _ _ _ _ _ _ _ _ _ _ _ _ k ga gc Gs wa _ Ws S hk hGl hWl h1w hlt pb po hEH x hok _ _ _ wz P hPS hRP hi0 hi1 _ _ wq hHeld hK2 hp2 hcw2 hx2 Q hq2 hQS hQq hPz s1 s2 s3 q1 p7 p13 p15 h300 h10a h10b hx3 hsz _ _ _ _ _ wc u2 u10 u11 u12 u13 u14 u15 u16 u17 u18 u19 u20 u21 u22 u37 u38 u39 u40 u41 u42 u43 u44 u45 u46 u47 u48 u49 u50 u51 u52 u53 u54 u55 u56 u57 u58 u59 u60 u61 u62 u63 u64 u65 u66 u67 u68 u69 u70 u71 u72 u73 u74 u75 u76 u77 u78 u79 u80 u81 u82 u83 u84 u85 u87 u88 u89 u90 u91 u92 u93 u94 u95 u96 u97 u98 u99 u100 u101 u102 u103 u104 u105 u106 u107 u108 u109 u110 u111 u112 u113 u114 u115 u116 u117 u118 u119 u120 u121 u122 u123 u124 u125 u126 u127 u128 u129 u130 u131 u132 u133 u134 u135 u136 u137 u138 u139 u140 u141 u142 u143 u144 u145 u146 u147 u148 u149 u150 u151 u152 u153 u154 u155 u156 u157 u158 u159 u160 u161 u162 u163 u164 u165 u166 u167 u168 u169 u170 u171 u172 u173 u174 u175 u176 u177 u178 u179 u180 u181 u182 u183 u184 u185 u186 u187 u188 u189 u190 u191 u192 u193 u194 u195 u196 u197 u198 u199 u200 u201 u202 u203 u204 u205 u206 u207 u208 u209 u210 u211 u212 u213 u214 u215 u216 u217 u218 u219 u220 u221 u222 u223 u224 u225 u226 u227 u228 u229 u230 u231 u232 u233 u234 u235 u236 u237 u238 u239 u240 u241 u242 u243 u244 u245 u246 u247 u248 u249 u250 u251 u252 u253 u254 u255 u256 u257 u258 u259 u260 u261 u262 u263 u264 u265 u266 u267 u268 u269 u270 u271 u272 u273 u274 u275 u276 u277 u278 u279 u280 u281 u282 u283 u284 u285 u286 u287 u288 u289 u290 u291 u292 u293 hcut
  obtain ⟨ga, gc, Gs, wa, wc, Ws, S, hRB⟩ := hcut
  rename World => wx
  have hK := Lib.hid hRB.out.k
  have h1w := Lib.hid hRB.out.one
  have hGl := hRB.out.lg
  have hWl := hRB.out.lw
  have hp := Lib.hid hRB.out.p
  have hq := Lib.hid hRB.out.q
  clear hRB
  have hbo := hK.out.box
  have hqo := hq.out
  have hfi := refBankFind ga gc Gs wa Ws.length wc x.g.orig x.g.proxy x.path wx hK.out.ref.rg (fun g hg => (hK.out.ref.tg g hg).pth.1) (fun g hg => ⟨(hK.out.ref.tg g hg).ok.l2, (hK.out.ref.tg g hg).ok.sz⟩) (by omega)
  obtain ⟨fb, hfb⟩ : ∃ fb, Hid (findB x.g.orig x.g.proxy x.path (Gs.map Gra.d) = fb) := ⟨_, Lib.hid rfl⟩
  rw [hfb.out] at hfi
  go_wp2_with (first
    | (refine wpList_load_blk rfl 30 _ rfl _ rfl hbo _ undRBk rfl infoRBk ?_)
    | (refine wpList_load_blk rfl 32 _ rfl _ rfl hqo _ Tryd.underlying32 rfl infoOrgB ?_))
  refine hfi.mono ?_
  rintro e w3 ⟨rfl, hB3⟩
  have hK3 := Lib.hid (hK.out.later hB3)
  have hp3 := Lib.hid (hp.out.later hB3)
  have hq3 := Lib.hid (hq.out.later hB3)
  have hqo3 := hq3.out
  have hfp := bankFindP W.heap.size S _ _ x.g.orig x.g.proxy x.path w3 hK3.out.bank (by rw [List.length_map]; omega)
  have hokF : Hid (((bankFound x.g.orig x.g.proxy x.path (Gs.map Gra.d)).getD graZero).Ok) := Lib.hid (by
    rcases findB_range x.g.orig x.g.proxy x.path (Gs.map Gra.d) with h | ⟨h0, h1⟩
    · rw [found_none _ _ _ _ (by omega)]; exact gra_ok_zero
    · rw [List.length_map] at h1
      rw [found_map x.g.orig x.g.proxy x.path Gs (k := (findB x.g.orig x.g.proxy x.path (Gs.map Gra.d)).toNat) (by omega) (by omega)]
      exact (hK3.out.ref.tg _ (List.getElem_mem (by omega))).ok)
  clear hfi hB3 hbo hqo hK hp hq
  go_wp2_with (refine wpList_load_blk rfl 32 _ rfl _ rfl hqo3 _ Tryd.underlying32 rfl infoOrgB ?_)
  refine hfp.mono ?_
  rintro e w4 ⟨gF, hgF, rfl, hB4⟩
  have hK4 := Lib.hid (hK3.out.later hB4)
  have hp4 := Lib.hid (hp3.out.later hB4)
  have hq4 := Lib.hid (hq3.out.later hB4)
  have hgFt := Lib.hid (got_tx hgF hokF.out)
  have hgFd := Lib.hid hgF.1
  have hZ4 := Blk.new w4 zGra tGra
  clear hfp hB4 hqo3 hK3 hp3 hq3 hgF hokF
  go_upto_region 42 with (refine wpList_store_blk rfl tGra _ _ rfl _ rfl hZ4 gF.arr rfl (by rfl) infoGra (gra_one gF) ?_; intro w5 hb5 hg5)
  have hB45 := below_only ((Below.refl w4.heap.size w4).alloc (Nat.le_refl _) (.cells zGra tGra)) hg5 (by simp) (Nat.le_refl _)
  have hK5 := Lib.hid (hK4.out.later hB45)
  have hp5 := Lib.hid (hp4.out.later hB45)
  have hq5 := Lib.hid (hq4.out.later hB45)
  have hgF5 := Lib.hid (hgFt.out.later hB45)
  have hbF5 := Lib.hid hb5
  clear hZ4 hg5 hB45 hK4 hp4 hq4 hgFt hb5
  generalize w4.heap.size = BF at hbF5
  have hbo5 := hK5.out.box
  have hqo5 := hq5.out
  have p7' : _ = some (Value.string x.g.ask.d.realm) := hp5.out.cell 7 rfl
  have hgtK := refBankGet ga gc Gs wa Ws.length wc x.g.orig x.g.proxy x.g.ask.d.realm w5 hK5.out.ref.rg (by omega)
  have hgpK := fun w7 hB => getC W.heap.size S Gs (Ws.map Wai.d) x.g.orig x.g.proxy x.g.ask.d.realm w7 hB (by omega)
  have hokR : Hid (∀ W', (∀ y ∈ Gs, RGr W W' y) → RGr W W' ((Gs.find? (fun y => keyG x.g.orig x.g.proxy x.g.ask.d.realm y.d)).getD zeroGra)) := Lib.hid (fun W' h => by
    cases hq : Gs.find? (fun y => keyG x.g.orig x.g.proxy x.g.ask.d.realm y.d) with
    | none => exact rgr_zero _ _
    | some z => exact h z (List.mem_of_find?_eq_some hq))
  generalize Gs.find? (fun y => keyG x.g.orig x.g.proxy x.g.ask.d.realm y.d) = fR at hgtK hgpK hokR
  have hgt : Calls Tryd.prog 21 #[.agg #[.slice ga Gs.length gc, .slice wa Ws.length wc], .agg (orgArr x.g.orig), .bool x.g.proxy, .string x.g.ask.d.realm] w5 (fun e w' => e = .returned (.tuple #[.agg (fR.getD zeroGra).arr, .bool fR.isSome]) ∧ Below w5.heap.size w5 w') := hgtK
  clear hgtK
  generalize fR.getD zeroGra = gR at hgt hgpK hokR
  generalize fR.isSome = bR at hgt hgpK
  go_wp2_with (first
    | (refine wpList_load_blk rfl 30 _ rfl _ rfl hbo5 _ undRBk rfl infoRBk ?_)
    | (refine wpList_load_blk rfl 32 _ rfl _ rfl hqo5 _ Tryd.underlying32 rfl infoOrgB ?_))
  refine hgt.mono ?_
  rintro e w6 ⟨rfl, hB6⟩
  have hK6 := Lib.hid (hK5.out.later hB6)
  have hp6 := Lib.hid (hp5.out.later hB6)
  have hq6 := Lib.hid (hq5.out.later hB6)
  have hgF6 := Lib.hid (hgF5.out.later hB6)
  have hbF6 := Lib.hid (hbF5.out.later hB6)
  have hZ6 := Blk.new w6 zGra tGra
  clear hgt hB6 hbo5 hqo5 p7' hK5 hp5 hq5 hgF5 hbF5
  go_upto_region 43 with (refine wpList_store_blk rfl tGra _ _ rfl _ rfl hZ6 gR.arr rfl (by rfl) infoGra (gra_one gR) ?_; intro w7 hb7 hg7)
  have hB67 := below_only ((Below.refl w6.heap.size w6).alloc (Nat.le_refl _) (.cells zGra tGra)) hg7 (by simp) (Nat.le_refl _)
  have hK7 := Lib.hid (hK6.out.later hB67)
  have hp7 := Lib.hid (hp6.out.later hB67)
  have hq7 := Lib.hid (hq6.out.later hB67)
  have hgF7 := Lib.hid (hgF6.out.later hB67)
  have hbF7 := Lib.hid (hbF6.out.later hB67)
  have hbR7 := Lib.hid hb7
  clear hZ6 hg7 hB67 hK6 hp6 hq6 hgF6 hbF6 hb7
  generalize w6.heap.size = BR at hbR7
  have hqo7 := hq7.out
  have p7' : _ = some (Value.string x.g.ask.d.realm) := hp7.out.cell 7 rfl
  have hgp := hgpK w7 hK7.out.bank
  go_wp2_with (refine wpList_load_blk rfl 32 _ rfl _ rfl hqo7 _ Tryd.underlying32 rfl infoOrgB ?_)
  refine hgp.mono ?_
  rintro e w8 ⟨gP, hgP, rfl, hB8⟩
  have hK8 := Lib.hid (hK7.out.later hB8)
  have hp8 := Lib.hid (hp7.out.later hB8)
  have hgF8 := Lib.hid (hgF7.out.later hB8)
  have hbF8 := Lib.hid (hbF7.out.later hB8)
  have hbR8 := Lib.hid (hbR7.out.later hB8)
  have hgR8 := Lib.hid (hokR.out w8 (fun y hy => hK8.out.ref.tg y hy))
  have hgPt := Lib.hid (got_tx hgP hgR8.out.ok)
  have hgPd := Lib.hid hgP.1
  have hZ8 := Blk.new w8 zGra tGra
  clear hgp hgpK hB8 hqo7 p7' hK7 hp7 hq7 hgF7 hbF7 hbR7 hgP hokR
  go_upto_region 44 with (refine wpList_store_blk rfl tGra _ _ rfl _ rfl hZ8 gP.arr rfl (by rfl) infoGra (gra_one gP) ?_; intro wy hb9 hg9)
  have hB89 := below_only ((Below.refl w8.heap.size w8).alloc (Nat.le_refl _) (.cells zGra tGra)) hg9 (by simp) (Nat.le_refl _)
  have hKy := Lib.hid (hK8.out.later hB89)
  have hpy := Lib.hid (hp8.out.later hB89)
  have hbF := Lib.hid (hbF8.out.later hB89)
  have hbR := Lib.hid (hbR8.out.later hB89)
  have hbP := Lib.hid hb9
  have hgFy := Lib.hid (hgF8.out.later hB89)
  have hgRy := Lib.hid (hgR8.out.later hB89)
  have hgPy := Lib.hid (hgPt.out.later hB89)
  clear hZ8 hg9 hB89 hK8 hp8 hgF8 hbF8 hbR8 hb9 hgR8 hgPt
  generalize w8.heap.size = BP at hbP
  have hb0 : Below wy.heap.size wy wy.drew := (Below.refl _ _).drew
  have hsP := fun W' (hb : Below wy.heap.size wy W') => sameGrant_yes gP gR W' hgPd.out (hgPy.out.later hb) (hgRy.out.tx.later hb)
  have hgr := fun W' (hb : Below wy.heap.size wy W') => bankGrants W.heap.size S _ _ W' (hKy.out.bank.later hb) (by rw [List.length_map]; omega)
  have hwt := fun W' (hb : Below wy.heap.size wy W') => bankWaits W.heap.size S _ _ W' (hKy.out.bank.later hb) (by rw [List.length_map]; omega)
  have hxy := Lib.hid ((rgr_arg hok.out.1 (by omega) (by omega)).later hKy.out.low)
  have hsp := fun W' (hb : Below wy.heap.size wy W') => bankSpace x.g.ask x.g.proxy x.path W' ((hok.out.1.dom.later hKy.out.low).later hb) (by omega) hsz
  have hsr := fun W' (hb : Below wy.heap.size wy W') => refSpace W x.g.ask x.g.proxy x.path W' (hxy.out.dom.later hb) (by omega) hsz
  have hspl : (spaceL x.g.ask.d x.g.proxy (dirOf x.path)).length ≤ maxLen := by
    unfold spaceL maxLen
    split
    · exact (by decide : (1 : Nat) ≤ 2 ^ 63 - 1)
    · split
      · exact (by decide : (1 : Nat) ≤ 2 ^ 63 - 1)
      · omega
  have hne1 : (bR != bR) = false := by simp
  rcases findB_range x.g.orig x.g.proxy x.path (Gs.map Gra.d) with hfr | ⟨hf0, hf1⟩
  · have hfn : fb = -1 := by rw [← hfb.out]; exact hfr
    subst hfn
    simp only [found_none x.g.orig x.g.proxy x.path Gs (by omega)] at hgFd ⊢
    have hmk : ∀ w', Below wy.heap.size wy w' → Below wy.heap.size wy w' ∧ w'.cell? ⟨W.heap.size + 1, 0, none⟩ = some (.slice ga Gs.length gc) := fun w' hb => ⟨hb, (hKy.out.box.later hb).cell 0 rfl⟩
    as_aux_lemma =>
      refine wp_region_held_drew (S := fun w' => Below wy.heap.size wy w' ∧ w'.cell? ⟨W.heap.size + 1, 0, none⟩ = some (.slice ga Gs.length gc)) (by kernel_rfl) (by (try dsimp only); exact hmk _ hb0) (fun hHeld => ?_)
      refine wpAnyH_take (i := 0) (v := ?_) rfl (by kernel_rfl) (by kernel_rfl) (by kernel_rfl) (fun _ _ _ h => h) (Or.inl ⟨by rfl, ?_⟩) (by assumption) ?_
      rotate_left
      · intro w hSw; (try dsimp only at hSw); go_simp; (try with_reducible rfl)
      (try simp only [List.getElem_toArray, List.getElem_cons_succ, List.getElem_cons_zero, Act.put, List.setIfInBounds_toArray, List.set_cons_zero, List.set_cons_succ])
      refine wpAnyH_take (i := 1) (v := ?_) rfl (by kernel_rfl) (by kernel_rfl) (by kernel_rfl) (fun _ _ _ h => h) (Or.inl ⟨by rfl, ?_⟩) (by assumption) ?_
      rotate_left
      · intro w hSw; (try dsimp only at hSw); go_simp; (try with_reducible rfl)
      (try simp only [List.getElem_toArray, List.getElem_cons_succ, List.getElem_cons_zero, Act.put, List.setIfInBounds_toArray, List.set_cons_zero, List.set_cons_succ])
      refine wpAnyH_take (i := 2) (v := ?_) rfl (by kernel_rfl) (by kernel_rfl) (by kernel_rfl) (fun _ _ _ h => h) (Or.inl ⟨by rfl, ?_⟩) (by assumption) ?_
      rotate_left
      · intro w hSw; (try dsimp only at hSw); go_simp; (try with_reducible rfl)
      (try simp only [List.getElem_toArray, List.getElem_cons_succ, List.getElem_cons_zero, Act.put, List.setIfInBounds_toArray, List.set_cons_zero, List.set_cons_succ])
      refine wpAnyH_take (i := 3) (v := ?_) rfl (by kernel_rfl) (by kernel_rfl) (by kernel_rfl) (fun _ _ _ h => h) (Or.inl ⟨by rfl, ?_⟩) (by assumption) ?_
      rotate_left
      · intro w hSw; (try dsimp only at hSw); go_simp; (try with_reducible rfl)
      (try simp only [List.getElem_toArray, List.getElem_cons_succ, List.getElem_cons_zero, Act.put, List.setIfInBounds_toArray, List.set_cons_zero, List.set_cons_succ])
      refine wpAnyH_take (i := 4) (v := ?_) rfl (by kernel_rfl) (by kernel_rfl) (by kernel_rfl) (fun _ _ _ h => h) (Or.inl ⟨by rfl, ?_⟩) (by assumption) ?_
      rotate_left
      · intro w hSw; (try dsimp only at hSw); go_simp; (try with_reducible rfl)
      (try simp only [List.getElem_toArray, List.getElem_cons_succ, List.getElem_cons_zero, Act.put, List.setIfInBounds_toArray, List.set_cons_zero, List.set_cons_succ])
      refine wpAnyH_take (i := 5) (v := ?_) rfl (by kernel_rfl) (by kernel_rfl) (by kernel_rfl) (fun _ _ _ h => h) (Or.inl ⟨by rfl, ?_⟩) (by assumption) ?_
      rotate_left
      · intro w hSw; (try dsimp only at hSw); go_simp; (try with_reducible rfl)
      (try simp only [List.getElem_toArray, List.getElem_cons_succ, List.getElem_cons_zero, Act.put, List.setIfInBounds_toArray, List.set_cons_zero, List.set_cons_succ])
      refine wpAnyH_take (i := 6) (v := ?_) rfl (by kernel_rfl) (by kernel_rfl) (by kernel_rfl) (fun _ _ _ h => h) (Or.inl ⟨by rfl, ?_⟩) (by assumption) ?_
      rotate_left
      · intro w hSw; (try dsimp only at hSw); go_simp; (try with_reducible rfl)
      (try simp only [List.getElem_toArray, List.getElem_cons_succ, List.getElem_cons_zero, Act.put, List.setIfInBounds_toArray, List.set_cons_zero, List.set_cons_succ])
      refine wpAnyH_take (i := 7) (v := ?_) rfl (by kernel_rfl) (by kernel_rfl) (by kernel_rfl) (fun _ _ _ h => h) (Or.inl ⟨by rfl, ?_⟩) (by assumption) ?_
      rotate_left
      · intro w hSw; (try dsimp only at hSw); go_simp; (try with_reducible rfl)
      (try simp only [List.getElem_toArray, List.getElem_cons_succ, List.getElem_cons_zero, Act.put, List.setIfInBounds_toArray, List.set_cons_zero, List.set_cons_succ])
      refine wpAnyH_take (i := 8) (v := undef) rfl (by kernel_rfl) (by kernel_rfl) (by kernel_rfl) (fun _ _ _ h => h) (Or.inr ⟨by rfl, rfl⟩) (by assumption) ?_
      (try simp only [List.getElem_toArray, List.getElem_cons_succ, List.getElem_cons_zero, Act.put, List.setIfInBounds_toArray, List.set_cons_zero, List.set_cons_succ])
      refine wpAnyH_take (i := 9) (v := undef) rfl (by kernel_rfl) (by kernel_rfl) (by kernel_rfl) (fun _ _ _ h => h) (Or.inr ⟨by rfl, rfl⟩) (by assumption) ?_
      (try simp only [List.getElem_toArray, List.getElem_cons_succ, List.getElem_cons_zero, Act.put, List.setIfInBounds_toArray, List.set_cons_zero, List.set_cons_succ])
      refine wpAnyH_take (i := 10) (v := undef) rfl (by kernel_rfl) (by kernel_rfl) (by kernel_rfl) (fun _ _ _ h => h) (Or.inr ⟨by rfl, rfl⟩) (by assumption) ?_
      (try simp only [List.getElem_toArray, List.getElem_cons_succ, List.getElem_cons_zero, Act.put, List.setIfInBounds_toArray, List.set_cons_zero, List.set_cons_succ])
      refine wpAnyH_take (i := 11) (v := undef) rfl (by kernel_rfl) (by kernel_rfl) (by kernel_rfl) (fun _ _ _ h => h) (Or.inr ⟨by rfl, rfl⟩) (by assumption) ?_
      (try simp only [List.getElem_toArray, List.getElem_cons_succ, List.getElem_cons_zero, Act.put, List.setIfInBounds_toArray, List.set_cons_zero, List.set_cons_succ])
      refine wpAnyH_take (i := 12) (v := undef) rfl (by kernel_rfl) (by kernel_rfl) (by kernel_rfl) (fun _ _ _ h => h) (Or.inr ⟨by rfl, rfl⟩) (by assumption) ?_
      (try simp only [List.getElem_toArray, List.getElem_cons_succ, List.getElem_cons_zero, Act.put, List.setIfInBounds_toArray, List.set_cons_zero, List.set_cons_succ])
      refine wpAnyH_take (i := 13) (v := undef) rfl (by kernel_rfl) (by kernel_rfl) (by kernel_rfl) (fun _ _ _ h => h) (Or.inr ⟨by rfl, rfl⟩) (by assumption) ?_
      (try simp only [List.getElem_toArray, List.getElem_cons_succ, List.getElem_cons_zero, Act.put, List.setIfInBounds_toArray, List.set_cons_zero, List.set_cons_succ])
      refine wpAnyH_take (i := 14) (v := undef) rfl (by kernel_rfl) (by kernel_rfl) (by kernel_rfl) (fun _ _ _ h => h) (Or.inr ⟨by rfl, rfl⟩) (by assumption) ?_
      (try simp only [List.getElem_toArray, List.getElem_cons_succ, List.getElem_cons_zero, Act.put, List.setIfInBounds_toArray, List.set_cons_zero, List.set_cons_succ])
      refine wpAnyH_take (i := 15) (v := undef) rfl (by kernel_rfl) (by kernel_rfl) (by kernel_rfl) (fun _ _ _ h => h) (Or.inr ⟨by rfl, rfl⟩) (by assumption) ?_
      (try simp only [List.getElem_toArray, List.getElem_cons_succ, List.getElem_cons_zero, Act.put, List.setIfInBounds_toArray, List.set_cons_zero, List.set_cons_succ])
      as_aux_lemma =>
        refine wpAnyH_take (i := 16) (v := ?_) rfl (by kernel_rfl) (by kernel_rfl) (by kernel_rfl) (fun _ _ _ h => h) (Or.inl ⟨by rfl, ?_⟩) (by assumption) ?_
        rotate_left
        · intro w hSw; (try dsimp only at hSw); go_simp; (try with_reducible rfl)
        (try simp only [List.getElem_toArray, List.getElem_cons_succ, List.getElem_cons_zero, Act.put, List.setIfInBounds_toArray, List.set_cons_zero, List.set_cons_succ])
        refine wpAnyH_take (i := 17) (v := ?_) rfl (by kernel_rfl) (by kernel_rfl) (by kernel_rfl) (fun _ _ _ h => h) (Or.inl ⟨by rfl, ?_⟩) (by assumption) ?_
        rotate_left
        · intro w hSw; (try dsimp only at hSw); go_simp; (try with_reducible rfl)
        (try simp only [List.getElem_toArray, List.getElem_cons_succ, List.getElem_cons_zero, Act.put, List.setIfInBounds_toArray, List.set_cons_zero, List.set_cons_succ])
        refine wpAnyH_take (i := 18) (v := ?_) rfl (by kernel_rfl) (by kernel_rfl) (by kernel_rfl) (fun _ _ _ h => h) (Or.inl ⟨by rfl, ?_⟩) (by assumption) ?_
        rotate_left
        · intro w hSw; (try dsimp only at hSw); go_simp; (try with_reducible rfl)
        (try simp only [List.getElem_toArray, List.getElem_cons_succ, List.getElem_cons_zero, Act.put, List.setIfInBounds_toArray, List.set_cons_zero, List.set_cons_succ])
        refine wpAnyH_take (i := 19) (v := ?_) rfl (by kernel_rfl) (by kernel_rfl) (by kernel_rfl) (fun _ _ _ h => h) (Or.inl ⟨by rfl, ?_⟩) (by assumption) ?_
        rotate_left
        · intro w hSw; (try dsimp only at hSw); go_simp; (try with_reducible rfl)
        (try simp only [List.getElem_toArray, List.getElem_cons_succ, List.getElem_cons_zero, Act.put, List.setIfInBounds_toArray, List.set_cons_zero, List.set_cons_succ])
        refine wpAnyH_take (i := 20) (v := ?_) rfl (by kernel_rfl) (by kernel_rfl) (by kernel_rfl) (fun _ _ _ h => h) (Or.inl ⟨by rfl, ?_⟩) (by assumption) ?_
        rotate_left
        · intro w hSw; (try dsimp only at hSw); go_simp; (try with_reducible rfl)
        (try simp only [List.getElem_toArray, List.getElem_cons_succ, List.getElem_cons_zero, Act.put, List.setIfInBounds_toArray, List.set_cons_zero, List.set_cons_succ])
        refine wpAnyH_take (i := 21) (v := ?_) rfl (by kernel_rfl) (by kernel_rfl) (by kernel_rfl) (fun _ _ _ h => h) (Or.inl ⟨by rfl, ?_⟩) (by assumption) ?_
        rotate_left
        · intro w hSw; (try dsimp only at hSw); go_simp; (try with_reducible rfl)
        (try simp only [List.getElem_toArray, List.getElem_cons_succ, List.getElem_cons_zero, Act.put, List.setIfInBounds_toArray, List.set_cons_zero, List.set_cons_succ])
        refine wpAnyH_take (i := 22) (v := ?_) rfl (by kernel_rfl) (by kernel_rfl) (by kernel_rfl) (fun _ _ _ h => h) (Or.inl ⟨by rfl, ?_⟩) (by assumption) ?_
        rotate_left
        · intro w hSw; (try dsimp only at hSw); go_simp; (try with_reducible rfl)
        (try simp only [List.getElem_toArray, List.getElem_cons_succ, List.getElem_cons_zero, Act.put, List.setIfInBounds_toArray, List.set_cons_zero, List.set_cons_succ])
        refine wpAnyH_take (i := 23) (v := ?_) rfl (by kernel_rfl) (by kernel_rfl) (by kernel_rfl) (fun _ _ _ h => h) (Or.inl ⟨by rfl, ?_⟩) (by assumption) ?_
        rotate_left
        · intro w hSw; (try dsimp only at hSw); go_simp; (try with_reducible rfl)
        (try simp only [List.getElem_toArray, List.getElem_cons_succ, List.getElem_cons_zero, Act.put, List.setIfInBounds_toArray, List.set_cons_zero, List.set_cons_succ])
        refine wpAnyH_take (i := 24) (v := .agg gP.arr) rfl (by kernel_rfl) (by kernel_rfl) (by kernel_rfl) (fun _ _ _ h => h) (yieldsIf_load_mid (by rfl) tGra _ rfl BP 0 (by rfl) (encGra gP) _ (fun w h => (hbP.out.later h.1).range) undGra rfl infoGra) (by assumption) ?_
        (try simp only [List.getElem_toArray, List.getElem_cons_succ, List.getElem_cons_zero, Act.put, List.setIfInBounds_toArray, List.set_cons_zero, List.set_cons_succ])
        refine wpAnyH_take (i := 25) (v := .agg gR.arr) rfl (by kernel_rfl) (by kernel_rfl) (by kernel_rfl) (fun _ _ _ h => h) (yieldsIf_load_mid (by rfl) tGra _ rfl BR 0 (by rfl) (encGra gR) _ (fun w h => (hbR.out.later h.1).range) undGra rfl infoGra) (by assumption) ?_
        (try simp only [List.getElem_toArray, List.getElem_cons_succ, List.getElem_cons_zero, Act.put, List.setIfInBounds_toArray, List.set_cons_zero, List.set_cons_succ])
        refine wpAnyH_ready (rs := [26]) (by kernel_rfl) (by simp) ?_
        refine AllReadyH.cons rfl (fun K hK => ?_) AllReadyH.nil
        go_simp
        go_at_call 9
        refine (hsP _ hb0).mono ?_
        rintro e w101 ⟨rfl, hB9⟩
        have hb1 : Below wy.heap.size wy w101 := hb0.then (Nat.le_refl _) hB9
        refine hK.out _ _ (by (try dsimp only); exact hmk _ hb1) (fun hHeld => ?_)
        clear hK K
        (try simp only [List.getElem_toArray, List.getElem_cons_succ, List.getElem_cons_zero, Act.put, List.setIfInBounds_toArray, List.set_cons_zero, List.set_cons_succ])
        as_aux_lemma =>
          refine wpAnyH_take (i := 27) (v := ?_) rfl (by kernel_rfl) (by kernel_rfl) (by kernel_rfl) (fun _ _ _ h => h) (Or.inl ⟨by rfl, ?_⟩) (by assumption) ?_
          rotate_left
          · intro w hSw; (try dsimp only at hSw); go_simp; (try with_reducible rfl)
          (try simp only [List.getElem_toArray, List.getElem_cons_succ, List.getElem_cons_zero, Act.put, List.setIfInBounds_toArray, List.set_cons_zero, List.set_cons_succ])
          refine wpAnyH_take (i := 28) (v := ?_) rfl (by kernel_rfl) (by kernel_rfl) (by kernel_rfl) (fun _ _ _ h => h) (Or.inl ⟨by rfl, ?_⟩) (by assumption) ?_
          rotate_left
          · intro w hSw; (try dsimp only at hSw); go_simp; (try with_reducible rfl)
          (try simp only [List.getElem_toArray, List.getElem_cons_succ, List.getElem_cons_zero, Act.put, List.setIfInBounds_toArray, List.set_cons_zero, List.set_cons_succ])
          refine wpAnyH_take (i := 29) (v := ?_) rfl (by kernel_rfl) (by kernel_rfl) (by kernel_rfl) (fun _ _ _ h => h) (Or.inl ⟨by rfl, ?_⟩) (by assumption) ?_
          rotate_left
          · intro w hSw; (try dsimp only at hSw); go_simp; (try with_reducible rfl)
          (try simp only [List.getElem_toArray, List.getElem_cons_succ, List.getElem_cons_zero, Act.put, List.setIfInBounds_toArray, List.set_cons_zero, List.set_cons_succ])
          refine wpAnyH_take (i := 30) (v := ?_) rfl (by kernel_rfl) (by kernel_rfl) (by kernel_rfl) (fun _ _ _ h => h) (Or.inl ⟨by rfl, ?_⟩) (by assumption) ?_
          rotate_left
          · intro w hSw; (try dsimp only at hSw); go_simp; (try with_reducible rfl)
          (try simp only [List.getElem_toArray, List.getElem_cons_succ, List.getElem_cons_zero, Act.put, List.setIfInBounds_toArray, List.set_cons_zero, List.set_cons_succ])
          refine wpAnyH_take (i := 32) (v := ?_) rfl (by kernel_rfl) (by kernel_rfl) (by kernel_rfl) (fun _ _ _ h => h) (Or.inl ⟨by rfl, ?_⟩) (by assumption) ?_
          rotate_left
          · intro w hSw; (try dsimp only at hSw); go_simp; (try with_reducible rfl)
          (try simp only [List.getElem_toArray, List.getElem_cons_succ, List.getElem_cons_zero, Act.put, List.setIfInBounds_toArray, List.set_cons_zero, List.set_cons_succ])
          refine wpAnyH_take (i := 34) (v := .agg #[.slice ga Gs.length gc, .slice wa Ws.length wc]) rfl (by kernel_rfl) (by kernel_rfl) (by kernel_rfl) (fun _ _ _ h => h) (yieldsIf_load_mid (by rfl) 30 _ rfl (W.heap.size + 1) 0 (by rfl) [.slice ga Gs.length gc, .slice wa Ws.length wc] _ (fun w h => (hKy.out.box.later h.1).range) undRBk rfl infoRBk) (by assumption) ?_
          (try simp only [List.getElem_toArray, List.getElem_cons_succ, List.getElem_cons_zero, Act.put, List.setIfInBounds_toArray, List.set_cons_zero, List.set_cons_succ])
          refine wpAnyH_ready (rs := [31]) (by kernel_rfl) (by simp) ?_
          refine AllReadyH.cons rfl (fun K hK => ?_) AllReadyH.nil
          go_simp
          go_at_call 24
          refine (hgr _ hb1).mono ?_
          rintro e w102 ⟨vG, HG, rfl, hOG, hmG, hiG, hB9⟩
          have hb2 : Below wy.heap.size wy w102 := hb1.then (Nat.le_refl _) hB9
          obtain ⟨aG, cG, rfl, hrG, _⟩ := OwnG.shape encGra_len hOG
          refine hK.out _ _ (by (try dsimp only); exact hmk _ hb2) (fun hHeld => ?_)
          clear hK K
          (try simp only [List.getElem_toArray, List.getElem_cons_succ, List.getElem_cons_zero, Act.put, List.setIfInBounds_toArray, List.set_cons_zero, List.set_cons_succ])
          refine wpAnyH_ready (rs := [33]) (by kernel_rfl) (by simp) ?_
          refine AllReadyH.cons rfl (fun K hK => ?_) AllReadyH.nil
          go_simp
          go_at_call 25
          refine (hwt _ hb2).mono ?_
          rintro e w103 ⟨vW, HW, rfl, hOW, hmW, hiW, hB9⟩
          have hBW9 := hB9
          have hb3 : Below wy.heap.size wy w103 := hb2.then (Nat.le_refl _) hB9
          obtain ⟨aW, cW, rfl, hrW, _⟩ := OwnG.shape encWai_len hOW
          refine hK.out _ _ (by (try dsimp only); exact hmk _ hb3) (fun hHeld => ?_)
          clear hK K
          (try simp only [List.getElem_toArray, List.getElem_cons_succ, List.getElem_cons_zero, Act.put, List.setIfInBounds_toArray, List.set_cons_zero, List.set_cons_succ])
          have hE1 := (gra_eq hKy.out hb2 hrG hmG hiG).later hBW9
          have hE2 := wai_eq hKy.out hb3 hrW hmW hiW
          have hlG : HG.length ≤ 8 := by have := congrArg List.length hmG; simp at this; omega
          have hlW : HW.length ≤ 8 := by have := congrArg List.length hmW; simp at this; omega
          refine wpAnyH_ready (rs := [35]) (by kernel_rfl) (by simp) ?_
          refine AllReadyH.cons rfl (fun K hK => ?_) AllReadyH.nil
          go_simp
          go_at_call 23
          refine (sameBank_yes aG ga aW wa cG gc cW wc HG Gs HW Ws _ hE1 hE2 (by omega) (by omega)).mono ?_
          rintro e w104 ⟨rfl, hB9⟩
          have hb4 : Below wy.heap.size wy w104 := hb3.then (Nat.le_refl _) hB9
          refine hK.out _ _ (by (try dsimp only); exact hmk _ hb4) (fun hHeld => ?_)
          clear hK K
          (try simp only [List.getElem_toArray, List.getElem_cons_succ, List.getElem_cons_zero, Act.put, List.setIfInBounds_toArray, List.set_cons_zero, List.set_cons_succ])
          as_aux_lemma =>
            refine wpAnyH_take (i := 36) (v := ?_) rfl (by kernel_rfl) (by kernel_rfl) (by kernel_rfl) (fun _ _ _ h => h) (Or.inl ⟨by rfl, ?_⟩) (by assumption) ?_
            rotate_left
            · intro w hSw; (try dsimp only at hSw); go_simp; (try with_reducible rfl)
            (try simp only [List.getElem_toArray, List.getElem_cons_succ, List.getElem_cons_zero, Act.put, List.setIfInBounds_toArray, List.set_cons_zero, List.set_cons_succ])
            refine wpAnyH_take (i := 37) (v := ?_) rfl (by kernel_rfl) (by kernel_rfl) (by kernel_rfl) (fun _ _ _ h => h) (Or.inl ⟨by rfl, ?_⟩) (by assumption) ?_
            rotate_left
            · intro w hSw; (try dsimp only at hSw); go_simp; (try with_reducible rfl)
            (try simp only [List.getElem_toArray, List.getElem_cons_succ, List.getElem_cons_zero, Act.put, List.setIfInBounds_toArray, List.set_cons_zero, List.set_cons_succ])
            refine wpAnyH_take (i := 38) (v := ?_) rfl (by kernel_rfl) (by kernel_rfl) (by kernel_rfl) (fun _ _ _ h => h) (Or.inl ⟨by rfl, ?_⟩) (by assumption) ?_
            rotate_left
            · intro w hSw; (try dsimp only at hSw); go_simp; (try with_reducible rfl)
            (try simp only [List.getElem_toArray, List.getElem_cons_succ, List.getElem_cons_zero, Act.put, List.setIfInBounds_toArray, List.set_cons_zero, List.set_cons_succ])
            refine wpAnyH_take (i := 39) (v := ?_) rfl (by kernel_rfl) (by kernel_rfl) (by kernel_rfl) (fun _ _ _ h => h) (Or.inl ⟨by rfl, ?_⟩) (by assumption) ?_
            rotate_left
            · intro w hSw; (try dsimp only at hSw); go_simp; (try with_reducible rfl)
            (try simp only [List.getElem_toArray, List.getElem_cons_succ, List.getElem_cons_zero, Act.put, List.setIfInBounds_toArray, List.set_cons_zero, List.set_cons_succ])
            refine wpAnyH_take (i := 40) (v := .agg x.g.ask.arr) rfl (by kernel_rfl) (by kernel_rfl) (by kernel_rfl) (fun _ _ _ h => h) (yieldsIf_load_mid (by rfl) 37 _ rfl P 6 (by rfl) x.g.ask.arr.toList _ (fun w h => gra_ask (hpy.out.later h.1)) Tryd.underlying37 rfl infoAskB) (by assumption) ?_
            (try simp only [List.getElem_toArray, List.getElem_cons_succ, List.getElem_cons_zero, Act.put, List.setIfInBounds_toArray, List.set_cons_zero, List.set_cons_succ])
            refine wpAnyH_take (i := 41) (v := ?_) rfl (by kernel_rfl) (by kernel_rfl) (by kernel_rfl) (fun _ _ _ h => h) (Or.inl ⟨by rfl, ?_⟩) (by assumption) ?_
            rotate_left
            · intro w hSw; (try dsimp only at hSw); go_simp; (try with_reducible rfl)
            (try simp only [List.getElem_toArray, List.getElem_cons_succ, List.getElem_cons_zero, Act.put, List.setIfInBounds_toArray, List.set_cons_zero, List.set_cons_succ])
            refine wpAnyH_take (i := 42) (v := ?_) rfl (by kernel_rfl) (by kernel_rfl) (by kernel_rfl) (fun _ _ _ h => h) (Or.inl ⟨by rfl, ?_⟩) (by assumption) ?_
            rotate_left
            · intro w hSw; (try dsimp only at hSw); go_simp; (try with_reducible rfl)
            (try simp only [List.getElem_toArray, List.getElem_cons_succ, List.getElem_cons_zero, Act.put, List.setIfInBounds_toArray, List.set_cons_zero, List.set_cons_succ])
            refine wpAnyH_take (i := 44) (v := ?_) rfl (by kernel_rfl) (by kernel_rfl) (by kernel_rfl) (fun _ _ _ h => h) (Or.inl ⟨by rfl, ?_⟩) (by assumption) ?_
            rotate_left
            · intro w hSw; (try dsimp only at hSw); go_simp; (try with_reducible rfl)
            (try simp only [List.getElem_toArray, List.getElem_cons_succ, List.getElem_cons_zero, Act.put, List.setIfInBounds_toArray, List.set_cons_zero, List.set_cons_succ])
            refine wpAnyH_take (i := 45) (v := .agg x.g.ask.arr) rfl (by kernel_rfl) (by kernel_rfl) (by kernel_rfl) (fun _ _ _ h => h) (yieldsIf_load_mid (by rfl) 37 _ rfl P 6 (by rfl) x.g.ask.arr.toList _ (fun w h => gra_ask (hpy.out.later h.1)) Tryd.underlying37 rfl infoAskB) (by assumption) ?_
            (try simp only [List.getElem_toArray, List.getElem_cons_succ, List.getElem_cons_zero, Act.put, List.setIfInBounds_toArray, List.set_cons_zero, List.set_cons_succ])
            refine wpAnyH_take (i := 46) (v := ?_) rfl (by kernel_rfl) (by kernel_rfl) (by kernel_rfl) (fun _ _ _ h => h) (Or.inl ⟨by rfl, ?_⟩) (by assumption) ?_
            rotate_left
            · intro w hSw; (try dsimp only at hSw); go_simp; (try with_reducible rfl)
            (try simp only [List.getElem_toArray, List.getElem_cons_succ, List.getElem_cons_zero, Act.put, List.setIfInBounds_toArray, List.set_cons_zero, List.set_cons_succ])
            refine wpAnyH_take (i := 47) (v := ?_) rfl (by kernel_rfl) (by kernel_rfl) (by kernel_rfl) (fun _ _ _ h => h) (Or.inl ⟨by rfl, ?_⟩) (by assumption) ?_
            rotate_left
            · intro w hSw; (try dsimp only at hSw); go_simp; (try with_reducible rfl)
            (try simp only [List.getElem_toArray, List.getElem_cons_succ, List.getElem_cons_zero, Act.put, List.setIfInBounds_toArray, List.set_cons_zero, List.set_cons_succ])
            refine wpAnyH_ready (rs := [43]) (by kernel_rfl) (by simp) ?_
            refine AllReadyH.cons rfl (fun K hK => ?_) AllReadyH.nil
            go_simp
            go_at_call 27
            refine (hsp _ hb4).mono ?_
            rintro e w105 ⟨⟨aS, cS, rfl, hT1, _⟩, hB9⟩
            have hb5 : Below wy.heap.size wy w105 := hb4.then (Nat.le_refl _) hB9
            refine hK.out _ _ (by (try dsimp only); exact hmk _ hb5) (fun hHeld => ?_)
            clear hK K
            (try simp only [List.getElem_toArray, List.getElem_cons_succ, List.getElem_cons_zero, Act.put, List.setIfInBounds_toArray, List.set_cons_zero, List.set_cons_succ])
            refine wpAnyH_ready (rs := [48]) (by kernel_rfl) (by simp) ?_
            refine AllReadyH.cons rfl (fun K hK => ?_) AllReadyH.nil
            go_simp
            go_at_call 28
            refine (hsr _ hb5).mono ?_
            rintro e w106 ⟨⟨aT, cT, rfl, hT2, _⟩, hB9⟩
            have hb6 : Below wy.heap.size wy w106 := hb5.then (Nat.le_refl _) hB9
            have hT3 := hT1.later hB9
            refine hK.out _ _ (by (try dsimp only); exact hmk _ hb6) (fun hHeld => ?_)
            clear hK K
            (try simp only [List.getElem_toArray, List.getElem_cons_succ, List.getElem_cons_zero, Act.put, List.setIfInBounds_toArray, List.set_cons_zero, List.set_cons_succ])
            refine wpAnyH_ready (rs := [49]) (by kernel_rfl) (by simp) ?_
            refine AllReadyH.cons rfl (fun K hK => ?_) AllReadyH.nil
            go_simp
            go_at_call 26
            refine (sameTexts_yes aS aT cS cT _ _ hT3.1 hT2.1 hspl).mono ?_
            rintro e w107 ⟨rfl, hB9⟩
            have hb7 : Below wy.heap.size wy w107 := hb6.then (Nat.le_refl _) hB9
            refine hK.out _ _ (by (try dsimp only); exact hmk _ hb7) (fun hHeld => ?_)
            clear hK K
            (try simp only [List.getElem_toArray, List.getElem_cons_succ, List.getElem_cons_zero, Act.put, List.setIfInBounds_toArray, List.set_cons_zero, List.set_cons_succ])
            refine wpAnyH_take (i := 50) (v := ?_) rfl (by kernel_rfl) (by kernel_rfl) (by kernel_rfl) (fun _ _ _ h => h) (Or.inl ⟨by rfl, ?_⟩) (by assumption) ?_
            rotate_left
            · intro w hSw; (try dsimp only at hSw); go_simp; (try with_reducible rfl)
            (try simp only [List.getElem_toArray, List.getElem_cons_succ, List.getElem_cons_zero, Act.put, List.setIfInBounds_toArray, List.set_cons_zero, List.set_cons_succ])
            refine wpAnyH_take (i := 51) (v := ?_) rfl (by kernel_rfl) (by kernel_rfl) (by kernel_rfl) (fun _ _ _ h => h) (Or.inl ⟨by rfl, ?_⟩) (by assumption) ?_
            rotate_left
            · intro w hSw; (try dsimp only at hSw); go_simp; (try with_reducible rfl)
            (try simp only [List.getElem_toArray, List.getElem_cons_succ, List.getElem_cons_zero, Act.put, List.setIfInBounds_toArray, List.set_cons_zero, List.set_cons_succ])
            refine wpAnyH_done (by kernel_rfl) ?_ _
            have hKf := Lib.hid (hKy.out.later hb7)
            clear hb0 hb1 hb2 hb3 hb4 hb5 hb6 hb7 hmk hE1 hE2
            go_wp2
            go_roundw
            case rel => exact ⟨k + 1, _, gc, Gs, wa, wc, Ws, S, by omega, by go_num, hGl, hWl, h1w, hKf⟩
            case measure => simp [intOf]; omega
  · obtain ⟨kF, hkF⟩ : ∃ kF : Nat, findB x.g.orig x.g.proxy x.path (Gs.map Gra.d) = (kF : Int) := ⟨(findB x.g.orig x.g.proxy x.path (Gs.map Gra.d)).toNat, by omega⟩
    have hlF : kF < Gs.length := by rw [List.length_map] at hf1; omega
    have hfn : fb = (kF : Int) := by rw [← hfb.out]; exact hkF
    subst hfn
    simp only [found_map x.g.orig x.g.proxy x.path Gs hkF hlF] at hgFd ⊢
    obtain ⟨pg, og, rfl, _⟩ := hKy.out.ref.rg kF hlF
    obtain ⟨gK, hgKx⟩ : ∃ gK, Hid (gK = Gs[kF]) := ⟨_, Lib.hid rfl⟩
    have hgK : Hid (∀ W', Below wy.heap.size wy W' → W'.rangeAt pg (og + kF * 16) (encGra gK)) := Lib.hid (fun W' hb => by
      obtain ⟨b', o', e, h⟩ := (hKy.out.ref.rg.later hb) kF hlF
      cases e
      rw [hgKx.out]; exact h)
    have hsF := fun W' (hb : Below wy.heap.size wy W') => sameGrant_yes gF gK W' (by rw [hgKx.out]; exact hgFd.out) (hgFy.out.later hb) (by rw [hgKx.out]; exact (hKy.out.ref.tg _ (List.getElem_mem hlF)).tx.later hb)
    have hmk : ∀ w', Below wy.heap.size wy w' → Below wy.heap.size wy w' ∧ w'.cell? ⟨W.heap.size + 1, 0, none⟩ = some (.slice (some ⟨pg, og, none⟩) Gs.length gc) := fun w' hb => ⟨hb, (hKy.out.box.later hb).cell 0 rfl⟩
    have hk0 : (0 : Int) ≤ (kF : Int) := by omega
    have hk1 : (kF : Int) < (Gs.length : Int) := by omega
    as_aux_lemma =>
      refine wp_region_held_drew (S := fun w' => Below wy.heap.size wy w' ∧ w'.cell? ⟨W.heap.size + 1, 0, none⟩ = some (.slice (some ⟨pg, og, none⟩) Gs.length gc)) (by kernel_rfl) (by (try dsimp only); exact hmk _ hb0) (fun hHeld => ?_)
      refine wpAnyH_take (i := 0) (v := ?_) rfl (by kernel_rfl) (by kernel_rfl) (by kernel_rfl) (fun _ _ _ h => h) (Or.inl ⟨by rfl, ?_⟩) (by assumption) ?_
      rotate_left
      · intro w hSw; (try dsimp only at hSw); go_simp; (try with_reducible rfl)
      (try simp only [List.getElem_toArray, List.getElem_cons_succ, List.getElem_cons_zero, Act.put, List.setIfInBounds_toArray, List.set_cons_zero, List.set_cons_succ])
      refine wpAnyH_take (i := 1) (v := ?_) rfl (by kernel_rfl) (by kernel_rfl) (by kernel_rfl) (fun _ _ _ h => h) (Or.inl ⟨by rfl, ?_⟩) (by assumption) ?_
      rotate_left
      · intro w hSw; (try dsimp only at hSw); go_simp; (try with_reducible rfl)
      (try simp only [List.getElem_toArray, List.getElem_cons_succ, List.getElem_cons_zero, Act.put, List.setIfInBounds_toArray, List.set_cons_zero, List.set_cons_succ])
      refine wpAnyH_take (i := 2) (v := ?_) rfl (by kernel_rfl) (by kernel_rfl) (by kernel_rfl) (fun _ _ _ h => h) (Or.inl ⟨by rfl, ?_⟩) (by assumption) ?_
      rotate_left
      · intro w hSw; (try dsimp only at hSw); go_simp; (try with_reducible rfl)
      (try simp only [List.getElem_toArray, List.getElem_cons_succ, List.getElem_cons_zero, Act.put, List.setIfInBounds_toArray, List.set_cons_zero, List.set_cons_succ])
      refine wpAnyH_take (i := 3) (v := ?_) rfl (by kernel_rfl) (by kernel_rfl) (by kernel_rfl) (fun _ _ _ h => h) (Or.inl ⟨by rfl, ?_⟩) (by assumption) ?_
      rotate_left
      · intro w hSw; (try dsimp only at hSw); go_simp; (try with_reducible rfl)
      (try simp only [List.getElem_toArray, List.getElem_cons_succ, List.getElem_cons_zero, Act.put, List.setIfInBounds_toArray, List.set_cons_zero, List.set_cons_succ])
      refine wpAnyH_take (i := 4) (v := ?_) rfl (by kernel_rfl) (by kernel_rfl) (by kernel_rfl) (fun _ _ _ h => h) (Or.inl ⟨by rfl, ?_⟩) (by assumption) ?_
      rotate_left
      · intro w hSw; (try dsimp only at hSw); go_simp; (try with_reducible rfl)
      (try simp only [List.getElem_toArray, List.getElem_cons_succ, List.getElem_cons_zero, Act.put, List.setIfInBounds_toArray, List.set_cons_zero, List.set_cons_succ])
      refine wpAnyH_take (i := 5) (v := ?_) rfl (by kernel_rfl) (by kernel_rfl) (by kernel_rfl) (fun _ _ _ h => h) (Or.inl ⟨by rfl, ?_⟩) (by assumption) ?_
      rotate_left
      · intro w hSw; (try dsimp only at hSw); go_simp; (try with_reducible rfl)
      (try simp only [List.getElem_toArray, List.getElem_cons_succ, List.getElem_cons_zero, Act.put, List.setIfInBounds_toArray, List.set_cons_zero, List.set_cons_succ])
      refine wpAnyH_take (i := 6) (v := ?_) rfl (by kernel_rfl) (by kernel_rfl) (by kernel_rfl) (fun _ _ _ h => h) (Or.inl ⟨by rfl, ?_⟩) (by assumption) ?_
      rotate_left
      · intro w hSw; (try dsimp only at hSw); go_simp; (try with_reducible rfl)
      (try simp only [List.getElem_toArray, List.getElem_cons_succ, List.getElem_cons_zero, Act.put, List.setIfInBounds_toArray, List.set_cons_zero, List.set_cons_succ])
      refine wpAnyH_take (i := 7) (v := ?_) rfl (by kernel_rfl) (by kernel_rfl) (by kernel_rfl) (fun _ _ _ h => h) (Or.inl ⟨by rfl, ?_⟩) (by assumption) ?_
      rotate_left
      · intro w hSw; (try dsimp only at hSw); go_simp; (try with_reducible rfl)
      (try simp only [List.getElem_toArray, List.getElem_cons_succ, List.getElem_cons_zero, Act.put, List.setIfInBounds_toArray, List.set_cons_zero, List.set_cons_succ])
      refine wpAnyH_take (i := 8) (v := .agg gF.arr) rfl (by kernel_rfl) (by kernel_rfl) (by kernel_rfl) (fun _ _ _ h => h) (yieldsIf_load_mid (by rfl) tGra _ rfl BF 0 (by rfl) (encGra gF) _ (fun w h => (hbF.out.later h.1).range) undGra rfl infoGra) (by assumption) ?_
      (try simp only [List.getElem_toArray, List.getElem_cons_succ, List.getElem_cons_zero, Act.put, List.setIfInBounds_toArray, List.set_cons_zero, List.set_cons_succ])
      refine wpAnyH_take (i := 9) (v := ?_) rfl (by kernel_rfl) (by kernel_rfl) (by kernel_rfl) (fun _ _ _ h => h) (Or.inl ⟨by rfl, ?_⟩) (by assumption) ?_
      rotate_left
      · intro w hSw; (try dsimp only at hSw); go_simp; (try with_reducible rfl)
      (try simp only [List.getElem_toArray, List.getElem_cons_succ, List.getElem_cons_zero, Act.put, List.setIfInBounds_toArray, List.set_cons_zero, List.set_cons_succ])
      refine wpAnyH_take (i := 10) (v := ?_) rfl (by kernel_rfl) (by kernel_rfl) (by kernel_rfl) (fun _ _ _ h => h) (Or.inl ⟨by rfl, ?_⟩) (by assumption) ?_
      rotate_left
      · intro w hSw; (try dsimp only at hSw); go_simp; (try with_reducible rfl)
      (try simp only [List.getElem_toArray, List.getElem_cons_succ, List.getElem_cons_zero, Act.put, List.setIfInBounds_toArray, List.set_cons_zero, List.set_cons_succ])
      refine wpAnyH_take (i := 11) (v := ?_) rfl (by kernel_rfl) (by kernel_rfl) (by kernel_rfl) (fun _ _ _ h => h) (Or.inl ⟨by rfl, ?_⟩) (by assumption) ?_
      rotate_left
      · intro w hSw; (try dsimp only at hSw); go_simp; (try with_reducible rfl)
      (try simp only [List.getElem_toArray, List.getElem_cons_succ, List.getElem_cons_zero, Act.put, List.setIfInBounds_toArray, List.set_cons_zero, List.set_cons_succ])
      refine wpAnyH_take (i := 12) (v := ?_) rfl (by kernel_rfl) (by kernel_rfl) (by kernel_rfl) (fun _ _ _ h => h) (Or.inl ⟨by rfl, ?_⟩) (by assumption) ?_
      rotate_left
      · intro w hSw; (try dsimp only at hSw); go_simp; (try with_reducible rfl)
      (try simp only [List.getElem_toArray, List.getElem_cons_succ, List.getElem_cons_zero, Act.put, List.setIfInBounds_toArray, List.set_cons_zero, List.set_cons_succ])
      refine wpAnyH_take (i := 13) (v := .agg gK.arr) rfl (by kernel_rfl) (by kernel_rfl) (by kernel_rfl) (fun _ _ _ h => h) (yieldsIf_load_mid (by rfl) tGra _ rfl pg (og + kF * 16) (by rfl) (encGra gK) _ (fun w h => hgK.out w h.1) undGra rfl infoGra) (by assumption) ?_
      (try simp only [List.getElem_toArray, List.getElem_cons_succ, List.getElem_cons_zero, Act.put, List.setIfInBounds_toArray, List.set_cons_zero, List.set_cons_succ])
      refine wpAnyH_ready (rs := [14]) (by kernel_rfl) (by simp) ?_
      refine AllReadyH.cons rfl (fun K hK => ?_) AllReadyH.nil
      go_simp
      go_at_call 9
      refine (hsF _ hb0).mono ?_
      rintro e w101 ⟨rfl, hB9⟩
      have hb1 : Below wy.heap.size wy w101 := hb0.then (Nat.le_refl _) hB9
      refine hK.out _ _ (by (try dsimp only); exact hmk _ hb1) (fun hHeld => ?_)
      clear hK K
      (try simp only [List.getElem_toArray, List.getElem_cons_succ, List.getElem_cons_zero, Act.put, List.setIfInBounds_toArray, List.set_cons_zero, List.set_cons_succ])
      refine wpAnyH_take (i := 15) (v := ?_) rfl (by kernel_rfl) (by kernel_rfl) (by kernel_rfl) (fun _ _ _ h => h) (Or.inl ⟨by rfl, ?_⟩) (by assumption) ?_
      rotate_left
      · intro w hSw; (try dsimp only at hSw); go_simp; (try with_reducible rfl)
      (try simp only [List.getElem_toArray, List.getElem_cons_succ, List.getElem_cons_zero, Act.put, List.setIfInBounds_toArray, List.set_cons_zero, List.set_cons_succ])
      as_aux_lemma =>
        refine wpAnyH_take (i := 16) (v := ?_) rfl (by kernel_rfl) (by kernel_rfl) (by kernel_rfl) (fun _ _ _ h => h) (Or.inl ⟨by rfl, ?_⟩) (by assumption) ?_
        rotate_left
        · intro w hSw; (try dsimp only at hSw); go_simp; (try with_reducible rfl)
        (try simp only [List.getElem_toArray, List.getElem_cons_succ, List.getElem_cons_zero, Act.put, List.setIfInBounds_toArray, List.set_cons_zero, List.set_cons_succ])
        refine wpAnyH_take (i := 17) (v := ?_) rfl (by kernel_rfl) (by kernel_rfl) (by kernel_rfl) (fun _ _ _ h => h) (Or.inl ⟨by rfl, ?_⟩) (by assumption) ?_
        rotate_left
        · intro w hSw; (try dsimp only at hSw); go_simp; (try with_reducible rfl)
        (try simp only [List.getElem_toArray, List.getElem_cons_succ, List.getElem_cons_zero, Act.put, List.setIfInBounds_toArray, List.set_cons_zero, List.set_cons_succ])
        refine wpAnyH_take (i := 18) (v := ?_) rfl (by kernel_rfl) (by kernel_rfl) (by kernel_rfl) (fun _ _ _ h => h) (Or.inl ⟨by rfl, ?_⟩) (by assumption) ?_
        rotate_left
        · intro w hSw; (try dsimp only at hSw); go_simp; (try with_reducible rfl)
        (try simp only [List.getElem_toArray, List.getElem_cons_succ, List.getElem_cons_zero, Act.put, List.setIfInBounds_toArray, List.set_cons_zero, List.set_cons_succ])
        refine wpAnyH_take (i := 19) (v := ?_) rfl (by kernel_rfl) (by kernel_rfl) (by kernel_rfl) (fun _ _ _ h => h) (Or.inl ⟨by rfl, ?_⟩) (by assumption) ?_
        rotate_left
        · intro w hSw; (try dsimp only at hSw); go_simp; (try with_reducible rfl)
        (try simp only [List.getElem_toArray, List.getElem_cons_succ, List.getElem_cons_zero, Act.put, List.setIfInBounds_toArray, List.set_cons_zero, List.set_cons_succ])
        refine wpAnyH_take (i := 20) (v := ?_) rfl (by kernel_rfl) (by kernel_rfl) (by kernel_rfl) (fun _ _ _ h => h) (Or.inl ⟨by rfl, ?_⟩) (by assumption) ?_
        rotate_left
        · intro w hSw; (try dsimp only at hSw); go_simp; (try with_reducible rfl)
        (try simp only [List.getElem_toArray, List.getElem_cons_succ, List.getElem_cons_zero, Act.put, List.setIfInBounds_toArray, List.set_cons_zero, List.set_cons_succ])
        refine wpAnyH_take (i := 21) (v := ?_) rfl (by kernel_rfl) (by kernel_rfl) (by kernel_rfl) (fun _ _ _ h => h) (Or.inl ⟨by rfl, ?_⟩) (by assumption) ?_
        rotate_left
        · intro w hSw; (try dsimp only at hSw); go_simp; (try with_reducible rfl)
        (try simp only [List.getElem_toArray, List.getElem_cons_succ, List.getElem_cons_zero, Act.put, List.setIfInBounds_toArray, List.set_cons_zero, List.set_cons_succ])
        refine wpAnyH_take (i := 22) (v := ?_) rfl (by kernel_rfl) (by kernel_rfl) (by kernel_rfl) (fun _ _ _ h => h) (Or.inl ⟨by rfl, ?_⟩) (by assumption) ?_
        rotate_left
        · intro w hSw; (try dsimp only at hSw); go_simp; (try with_reducible rfl)
        (try simp only [List.getElem_toArray, List.getElem_cons_succ, List.getElem_cons_zero, Act.put, List.setIfInBounds_toArray, List.set_cons_zero, List.set_cons_succ])
        refine wpAnyH_take (i := 23) (v := ?_) rfl (by kernel_rfl) (by kernel_rfl) (by kernel_rfl) (fun _ _ _ h => h) (Or.inl ⟨by rfl, ?_⟩) (by assumption) ?_
        rotate_left
        · intro w hSw; (try dsimp only at hSw); go_simp; (try with_reducible rfl)
        (try simp only [List.getElem_toArray, List.getElem_cons_succ, List.getElem_cons_zero, Act.put, List.setIfInBounds_toArray, List.set_cons_zero, List.set_cons_succ])
        refine wpAnyH_take (i := 24) (v := .agg gP.arr) rfl (by kernel_rfl) (by kernel_rfl) (by kernel_rfl) (fun _ _ _ h => h) (yieldsIf_load_mid (by rfl) tGra _ rfl BP 0 (by rfl) (encGra gP) _ (fun w h => (hbP.out.later h.1).range) undGra rfl infoGra) (by assumption) ?_
        (try simp only [List.getElem_toArray, List.getElem_cons_succ, List.getElem_cons_zero, Act.put, List.setIfInBounds_toArray, List.set_cons_zero, List.set_cons_succ])
        refine wpAnyH_take (i := 25) (v := .agg gR.arr) rfl (by kernel_rfl) (by kernel_rfl) (by kernel_rfl) (fun _ _ _ h => h) (yieldsIf_load_mid (by rfl) tGra _ rfl BR 0 (by rfl) (encGra gR) _ (fun w h => (hbR.out.later h.1).range) undGra rfl infoGra) (by assumption) ?_
        (try simp only [List.getElem_toArray, List.getElem_cons_succ, List.getElem_cons_zero, Act.put, List.setIfInBounds_toArray, List.set_cons_zero, List.set_cons_succ])
        refine wpAnyH_ready (rs := [26]) (by kernel_rfl) (by simp) ?_
        refine AllReadyH.cons rfl (fun K hK => ?_) AllReadyH.nil
        go_simp
        go_at_call 9
        refine (hsP _ hb1).mono ?_
        rintro e w102 ⟨rfl, hB9⟩
        have hb2 : Below wy.heap.size wy w102 := hb1.then (Nat.le_refl _) hB9
        refine hK.out _ _ (by (try dsimp only); exact hmk _ hb2) (fun hHeld => ?_)
        clear hK K
        (try simp only [List.getElem_toArray, List.getElem_cons_succ, List.getElem_cons_zero, Act.put, List.setIfInBounds_toArray, List.set_cons_zero, List.set_cons_succ])
        as_aux_lemma =>
          refine wpAnyH_take (i := 27) (v := ?_) rfl (by kernel_rfl) (by kernel_rfl) (by kernel_rfl) (fun _ _ _ h => h) (Or.inl ⟨by rfl, ?_⟩) (by assumption) ?_
          rotate_left
          · intro w hSw; (try dsimp only at hSw); go_simp; (try with_reducible rfl)
          (try simp only [List.getElem_toArray, List.getElem_cons_succ, List.getElem_cons_zero, Act.put, List.setIfInBounds_toArray, List.set_cons_zero, List.set_cons_succ])
          refine wpAnyH_take (i := 28) (v := ?_) rfl (by kernel_rfl) (by kernel_rfl) (by kernel_rfl) (fun _ _ _ h => h) (Or.inl ⟨by rfl, ?_⟩) (by assumption) ?_
          rotate_left
          · intro w hSw; (try dsimp only at hSw); go_simp; (try with_reducible rfl)
          (try simp only [List.getElem_toArray, List.getElem_cons_succ, List.getElem_cons_zero, Act.put, List.setIfInBounds_toArray, List.set_cons_zero, List.set_cons_succ])
          refine wpAnyH_take (i := 29) (v := ?_) rfl (by kernel_rfl) (by kernel_rfl) (by kernel_rfl) (fun _ _ _ h => h) (Or.inl ⟨by rfl, ?_⟩) (by assumption) ?_
          rotate_left
          · intro w hSw; (try dsimp only at hSw); go_simp; (try with_reducible rfl)
          (try simp only [List.getElem_toArray, List.getElem_cons_succ, List.getElem_cons_zero, Act.put, List.setIfInBounds_toArray, List.set_cons_zero, List.set_cons_succ])
          refine wpAnyH_take (i := 30) (v := ?_) rfl (by kernel_rfl) (by kernel_rfl) (by kernel_rfl) (fun _ _ _ h => h) (Or.inl ⟨by rfl, ?_⟩) (by assumption) ?_
          rotate_left
          · intro w hSw; (try dsimp only at hSw); go_simp; (try with_reducible rfl)
          (try simp only [List.getElem_toArray, List.getElem_cons_succ, List.getElem_cons_zero, Act.put, List.setIfInBounds_toArray, List.set_cons_zero, List.set_cons_succ])
          refine wpAnyH_take (i := 32) (v := ?_) rfl (by kernel_rfl) (by kernel_rfl) (by kernel_rfl) (fun _ _ _ h => h) (Or.inl ⟨by rfl, ?_⟩) (by assumption) ?_
          rotate_left
          · intro w hSw; (try dsimp only at hSw); go_simp; (try with_reducible rfl)
          (try simp only [List.getElem_toArray, List.getElem_cons_succ, List.getElem_cons_zero, Act.put, List.setIfInBounds_toArray, List.set_cons_zero, List.set_cons_succ])
          refine wpAnyH_take (i := 34) (v := .agg #[.slice (some ⟨pg, og, none⟩) Gs.length gc, .slice wa Ws.length wc]) rfl (by kernel_rfl) (by kernel_rfl) (by kernel_rfl) (fun _ _ _ h => h) (yieldsIf_load_mid (by rfl) 30 _ rfl (W.heap.size + 1) 0 (by rfl) [.slice (some ⟨pg, og, none⟩) Gs.length gc, .slice wa Ws.length wc] _ (fun w h => (hKy.out.box.later h.1).range) undRBk rfl infoRBk) (by assumption) ?_
          (try simp only [List.getElem_toArray, List.getElem_cons_succ, List.getElem_cons_zero, Act.put, List.setIfInBounds_toArray, List.set_cons_zero, List.set_cons_succ])
          refine wpAnyH_ready (rs := [31]) (by kernel_rfl) (by simp) ?_
          refine AllReadyH.cons rfl (fun K hK => ?_) AllReadyH.nil
          go_simp
          go_at_call 24
          refine (hgr _ hb2).mono ?_
          rintro e w103 ⟨vG, HG, rfl, hOG, hmG, hiG, hB9⟩
          have hb3 : Below wy.heap.size wy w103 := hb2.then (Nat.le_refl _) hB9
          obtain ⟨aG, cG, rfl, hrG, _⟩ := OwnG.shape encGra_len hOG
          refine hK.out _ _ (by (try dsimp only); exact hmk _ hb3) (fun hHeld => ?_)
          clear hK K
          (try simp only [List.getElem_toArray, List.getElem_cons_succ, List.getElem_cons_zero, Act.put, List.setIfInBounds_toArray, List.set_cons_zero, List.set_cons_succ])
          refine wpAnyH_ready (rs := [33]) (by kernel_rfl) (by simp) ?_
          refine AllReadyH.cons rfl (fun K hK => ?_) AllReadyH.nil
          go_simp
          go_at_call 25
          refine (hwt _ hb3).mono ?_
          rintro e w104 ⟨vW, HW, rfl, hOW, hmW, hiW, hB9⟩
          have hBW9 := hB9
          have hb4 : Below wy.heap.size wy w104 := hb3.then (Nat.le_refl _) hB9
          obtain ⟨aW, cW, rfl, hrW, _⟩ := OwnG.shape encWai_len hOW
          refine hK.out _ _ (by (try dsimp only); exact hmk _ hb4) (fun hHeld => ?_)
          clear hK K
          (try simp only [List.getElem_toArray, List.getElem_cons_succ, List.getElem_cons_zero, Act.put, List.setIfInBounds_toArray, List.set_cons_zero, List.set_cons_succ])
          have hE1 := (gra_eq hKy.out hb3 hrG hmG hiG).later hBW9
          have hE2 := wai_eq hKy.out hb4 hrW hmW hiW
          have hlG : HG.length ≤ 8 := by have := congrArg List.length hmG; simp at this; omega
          have hlW : HW.length ≤ 8 := by have := congrArg List.length hmW; simp at this; omega
          refine wpAnyH_ready (rs := [35]) (by kernel_rfl) (by simp) ?_
          refine AllReadyH.cons rfl (fun K hK => ?_) AllReadyH.nil
          go_simp
          go_at_call 23
          refine (sameBank_yes aG _ aW wa cG gc cW wc HG Gs HW Ws _ hE1 hE2 (by omega) (by omega)).mono ?_
          rintro e w105 ⟨rfl, hB9⟩
          have hb5 : Below wy.heap.size wy w105 := hb4.then (Nat.le_refl _) hB9
          refine hK.out _ _ (by (try dsimp only); exact hmk _ hb5) (fun hHeld => ?_)
          clear hK K
          (try simp only [List.getElem_toArray, List.getElem_cons_succ, List.getElem_cons_zero, Act.put, List.setIfInBounds_toArray, List.set_cons_zero, List.set_cons_succ])
          as_aux_lemma =>
            refine wpAnyH_take (i := 36) (v := ?_) rfl (by kernel_rfl) (by kernel_rfl) (by kernel_rfl) (fun _ _ _ h => h) (Or.inl ⟨by rfl, ?_⟩) (by assumption) ?_
            rotate_left
            · intro w hSw; (try dsimp only at hSw); go_simp; (try with_reducible rfl)
            (try simp only [List.getElem_toArray, List.getElem_cons_succ, List.getElem_cons_zero, Act.put, List.setIfInBounds_toArray, List.set_cons_zero, List.set_cons_succ])
            refine wpAnyH_take (i := 37) (v := ?_) rfl (by kernel_rfl) (by kernel_rfl) (by kernel_rfl) (fun _ _ _ h => h) (Or.inl ⟨by rfl, ?_⟩) (by assumption) ?_
            rotate_left
            · intro w hSw; (try dsimp only at hSw); go_simp; (try with_reducible rfl)
            (try simp only [List.getElem_toArray, List.getElem_cons_succ, List.getElem_cons_zero, Act.put, List.setIfInBounds_toArray, List.set_cons_zero, List.set_cons_succ])
            refine wpAnyH_take (i := 38) (v := ?_) rfl (by kernel_rfl) (by kernel_rfl) (by kernel_rfl) (fun _ _ _ h => h) (Or.inl ⟨by rfl, ?_⟩) (by assumption) ?_
            rotate_left
            · intro w hSw; (try dsimp only at hSw); go_simp; (try with_reducible rfl)
            (try simp only [List.getElem_toArray, List.getElem_cons_succ, List.getElem_cons_zero, Act.put, List.setIfInBounds_toArray, List.set_cons_zero, List.set_cons_succ])
            refine wpAnyH_take (i := 39) (v := ?_) rfl (by kernel_rfl) (by kernel_rfl) (by kernel_rfl) (fun _ _ _ h => h) (Or.inl ⟨by rfl, ?_⟩) (by assumption) ?_
            rotate_left
            · intro w hSw; (try dsimp only at hSw); go_simp; (try with_reducible rfl)
            (try simp only [List.getElem_toArray, List.getElem_cons_succ, List.getElem_cons_zero, Act.put, List.setIfInBounds_toArray, List.set_cons_zero, List.set_cons_succ])
            refine wpAnyH_take (i := 40) (v := .agg x.g.ask.arr) rfl (by kernel_rfl) (by kernel_rfl) (by kernel_rfl) (fun _ _ _ h => h) (yieldsIf_load_mid (by rfl) 37 _ rfl P 6 (by rfl) x.g.ask.arr.toList _ (fun w h => gra_ask (hpy.out.later h.1)) Tryd.underlying37 rfl infoAskB) (by assumption) ?_
            (try simp only [List.getElem_toArray, List.getElem_cons_succ, List.getElem_cons_zero, Act.put, List.setIfInBounds_toArray, List.set_cons_zero, List.set_cons_succ])
            refine wpAnyH_take (i := 41) (v := ?_) rfl (by kernel_rfl) (by kernel_rfl) (by kernel_rfl) (fun _ _ _ h => h) (Or.inl ⟨by rfl, ?_⟩) (by assumption) ?_
            rotate_left
            · intro w hSw; (try dsimp only at hSw); go_simp; (try with_reducible rfl)
            (try simp only [List.getElem_toArray, List.getElem_cons_succ, List.getElem_cons_zero, Act.put, List.setIfInBounds_toArray, List.set_cons_zero, List.set_cons_succ])
            refine wpAnyH_take (i := 42) (v := ?_) rfl (by kernel_rfl) (by kernel_rfl) (by kernel_rfl) (fun _ _ _ h => h) (Or.inl ⟨by rfl, ?_⟩) (by assumption) ?_
            rotate_left
            · intro w hSw; (try dsimp only at hSw); go_simp; (try with_reducible rfl)
            (try simp only [List.getElem_toArray, List.getElem_cons_succ, List.getElem_cons_zero, Act.put, List.setIfInBounds_toArray, List.set_cons_zero, List.set_cons_succ])
            refine wpAnyH_take (i := 44) (v := ?_) rfl (by kernel_rfl) (by kernel_rfl) (by kernel_rfl) (fun _ _ _ h => h) (Or.inl ⟨by rfl, ?_⟩) (by assumption) ?_
            rotate_left
            · intro w hSw; (try dsimp only at hSw); go_simp; (try with_reducible rfl)
            (try simp only [List.getElem_toArray, List.getElem_cons_succ, List.getElem_cons_zero, Act.put, List.setIfInBounds_toArray, List.set_cons_zero, List.set_cons_succ])
            refine wpAnyH_take (i := 45) (v := .agg x.g.ask.arr) rfl (by kernel_rfl) (by kernel_rfl) (by kernel_rfl) (fun _ _ _ h => h) (yieldsIf_load_mid (by rfl) 37 _ rfl P 6 (by rfl) x.g.ask.arr.toList _ (fun w h => gra_ask (hpy.out.later h.1)) Tryd.underlying37 rfl infoAskB) (by assumption) ?_
            (try simp only [List.getElem_toArray, List.getElem_cons_succ, List.getElem_cons_zero, Act.put, List.setIfInBounds_toArray, List.set_cons_zero, List.set_cons_succ])
            refine wpAnyH_take (i := 46) (v := ?_) rfl (by kernel_rfl) (by kernel_rfl) (by kernel_rfl) (fun _ _ _ h => h) (Or.inl ⟨by rfl, ?_⟩) (by assumption) ?_
            rotate_left
            · intro w hSw; (try dsimp only at hSw); go_simp; (try with_reducible rfl)
            (try simp only [List.getElem_toArray, List.getElem_cons_succ, List.getElem_cons_zero, Act.put, List.setIfInBounds_toArray, List.set_cons_zero, List.set_cons_succ])
            refine wpAnyH_take (i := 47) (v := ?_) rfl (by kernel_rfl) (by kernel_rfl) (by kernel_rfl) (fun _ _ _ h => h) (Or.inl ⟨by rfl, ?_⟩) (by assumption) ?_
            rotate_left
            · intro w hSw; (try dsimp only at hSw); go_simp; (try with_reducible rfl)
            (try simp only [List.getElem_toArray, List.getElem_cons_succ, List.getElem_cons_zero, Act.put, List.setIfInBounds_toArray, List.set_cons_zero, List.set_cons_succ])
            refine wpAnyH_ready (rs := [43]) (by kernel_rfl) (by simp) ?_
            refine AllReadyH.cons rfl (fun K hK => ?_) AllReadyH.nil
            go_simp
            go_at_call 27
            refine (hsp _ hb5).mono ?_
            rintro e w106 ⟨⟨aS, cS, rfl, hT1, _⟩, hB9⟩
            have hb6 : Below wy.heap.size wy w106 := hb5.then (Nat.le_refl _) hB9
            refine hK.out _ _ (by (try dsimp only); exact hmk _ hb6) (fun hHeld => ?_)
            clear hK K
            (try simp only [List.getElem_toArray, List.getElem_cons_succ, List.getElem_cons_zero, Act.put, List.setIfInBounds_toArray, List.set_cons_zero, List.set_cons_succ])
            refine wpAnyH_ready (rs := [48]) (by kernel_rfl) (by simp) ?_
            refine AllReadyH.cons rfl (fun K hK => ?_) AllReadyH.nil
            go_simp
            go_at_call 28
            refine (hsr _ hb6).mono ?_
            rintro e w107 ⟨⟨aT, cT, rfl, hT2, _⟩, hB9⟩
            have hb7 : Below wy.heap.size wy w107 := hb6.then (Nat.le_refl _) hB9
            have hT3 := hT1.later hB9
            refine hK.out _ _ (by (try dsimp only); exact hmk _ hb7) (fun hHeld => ?_)
            clear hK K
            (try simp only [List.getElem_toArray, List.getElem_cons_succ, List.getElem_cons_zero, Act.put, List.setIfInBounds_toArray, List.set_cons_zero, List.set_cons_succ])
            refine wpAnyH_ready (rs := [49]) (by kernel_rfl) (by simp) ?_
            refine AllReadyH.cons rfl (fun K hK => ?_) AllReadyH.nil
            go_simp
            go_at_call 26
            refine (sameTexts_yes aS aT cS cT _ _ hT3.1 hT2.1 hspl).mono ?_
            rintro e w108 ⟨rfl, hB9⟩
            have hb8 : Below wy.heap.size wy w108 := hb7.then (Nat.le_refl _) hB9
            refine hK.out _ _ (by (try dsimp only); exact hmk _ hb8) (fun hHeld => ?_)
            clear hK K
            (try simp only [List.getElem_toArray, List.getElem_cons_succ, List.getElem_cons_zero, Act.put, List.setIfInBounds_toArray, List.set_cons_zero, List.set_cons_succ])
            refine wpAnyH_take (i := 50) (v := ?_) rfl (by kernel_rfl) (by kernel_rfl) (by kernel_rfl) (fun _ _ _ h => h) (Or.inl ⟨by rfl, ?_⟩) (by assumption) ?_
            rotate_left
            · intro w hSw; (try dsimp only at hSw); go_simp; (try with_reducible rfl)
            (try simp only [List.getElem_toArray, List.getElem_cons_succ, List.getElem_cons_zero, Act.put, List.setIfInBounds_toArray, List.set_cons_zero, List.set_cons_succ])
            refine wpAnyH_take (i := 51) (v := ?_) rfl (by kernel_rfl) (by kernel_rfl) (by kernel_rfl) (fun _ _ _ h => h) (Or.inl ⟨by rfl, ?_⟩) (by assumption) ?_
            rotate_left
            · intro w hSw; (try dsimp only at hSw); go_simp; (try with_reducible rfl)
            (try simp only [List.getElem_toArray, List.getElem_cons_succ, List.getElem_cons_zero, Act.put, List.setIfInBounds_toArray, List.set_cons_zero, List.set_cons_succ])
            refine wpAnyH_done (by kernel_rfl) ?_ _
            have hKf := Lib.hid (hKy.out.later hb8)
            clear hb0 hb1 hb2 hb3 hb4 hb5 hb6 hb7 hb8 hmk hE1 hE2
            go_wp2
            go_roundw
            case rel => exact ⟨k + 1, _, gc, Gs, wa, wc, Ws, S, by omega, by go_num, hGl, hWl, h1w, hKf⟩
            case measure => simp [intOf]; omega
end Go.Proofs.YtchgpdgigpaloaaDoor.lawBankKeeps
