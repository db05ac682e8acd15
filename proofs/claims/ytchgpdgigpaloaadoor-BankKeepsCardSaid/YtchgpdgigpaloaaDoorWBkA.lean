/- BankKeeps: all cases of the walk but what is told behind an operation. -/
import Derived.Test.YtchgpdgigpaloaaDoorWBkS
namespace Go.Proofs.YtchgpdgigpaloaaDoor.lawBankKeeps
set_option linter.unusedSimpArgs false
open Go.ChangeShapes Go.WideShapes Go.ChangeAt Go.RowKit Go.WideElems Go.Deep
set_option maxRecDepth 100000 in
set_option maxHeartbeats 20000000 in
theorem case0 (W : World) (cap : Nat) (os : List BkOp) (_hl : os.length ≤ maxLen) (h40 : ¬ 40 < os.length) :
    (split W cap os _hl h40).t0 := by
  intro hk0 hOH hErrH _ _ _ _ wr u2 u6 u7 u8 u9 u10 u11 u12 u13 u14 u15 u16 u17 u18 u19 u20 u21 u22 u23 u24 u25 u26 u27 u28 u29 u37 u38 u39 u40 u41 u42 u43 u44 u45 u46 u47 u48 u49 u50 u51 u52 u53 u54 u55 u56 u57 u58 u59 u60 u61 u62 u63 u64 u65 u66 u67 u68 u69 u70 u71 u72 u73 u74 u75 u76 u77 u78 u79 u80 u81 u82 u83 u84 u85 u86 u87 u88 u89 u90 u91 u92 u93 u94 u95 u96 u97 u98 u99 u100 u101 u102 u103 u104 u105 u106 u107 u108 u109 u110 u111 u112 u113 u114 u115 u116 u117 u118 u119 u120 u121 u122 u123 u124 u125 u126 u127 u128 u129 u130 u131 u132 u133 u134 u135 u136 u137 u138 u139 u140 u141 u142 u143 u144 u145 u146 u147 u148 u149 u150 u151 u152 u153 u154 u155 u156 u157 u158 u159 u160 u161 u162 u163 u164 u165 u166 u167 u168 u169 u170 u171 u172 u173 u174 u175 u176 u177 u178 u179 u180 u181 u182 u183 u184 u185 u186 u187 u188 u189 u190 u191 u192 u193 u194 u195 u196 u197 u198 u199 u200 u201 u202 u203 u204 u205 u206 u207 u208 u209 u210 u211 u212 u213 u214 u215 u216 u217 u218 u219 u220 u221 u222 u223 u224 u225 u226 u227 u228 u229 u230 u231 u232 u233 u234 u235 u236 u237 u238 u239 u240 u241 u242 u243 u244 u245 u246 u247 u248 u249 u250 u251 u252 u253 u254 u255 u256 u257 u258 u259 u260 u261 u262 u263 u264 u265 u266 u267 u268 u269 u270 u271 u272 u273 u274 u275 u276 u277 u278 u279 u280 u281 u282 u283 u284 u285 u286 u287 u288 u289 u290 u291 u292 u293 k ga gc Gs wa wc Ws S hk hGl hWl h1w hlt pb po hEH x hok _ _ _ wz P hPS hRP hi0 hi1 _ _ wq hHeld hK2 hp2 hcw2 hx2 Q hq2 hQS hQq hPz s1 s2 s3 p7 h300 h10a h10b hx3 hsz _ _ _ _ _ _ _ _ _ e0
  have hpu := putC W.heap.size S Gs _ x.g wq hK2.out.bank (by omega) hx3.out.ok (fun W' ho => ⟨(hx3.out.dom.stays ho hK2.out.base).1, (hx3.out.pth.stays ho hK2.out.base).1⟩)
  have hpo := hp2.out
  go_wp2_with (refine wpList_load_blk rfl tGra _ rfl _ rfl hpo _ undGra rfl infoGra ?_)
  refine hpu.mono ?_
  rintro e w3 ⟨rfl, hB3, ho3⟩
  have hK3 := Lib.hid (hK2.out.prog hB3 ho3)
  have hx4 := Lib.hid (hx3.out.stays ho3 hK2.out.base)
  have hp3 := Lib.hid (ho3.only.blk hp2.out hPS.out)
  have hq3 := Lib.hid (ho3.only.blk hq2.out hQS.out)
  have hrp := refBankPut ga gc Gs wa Ws.length wc x.g w3 hK3.out.ref.rg (by omega)
  have hll := Lib.hid (lastB_len 8 (Gs.filter (fun y => !keyG x.g.orig x.g.proxy x.g.ask.d.realm y.d) ++ [x.g]))
  have hal := Lib.hid (fun (Pr : Gra → Prop) h1 h2 => put_all (P := Pr) (f := (fun y => !keyG x.g.orig x.g.proxy x.g.ask.d.realm y.d)) (Gs := Gs) (g := x.g) h1 h2)
  generalize lastB 8 (Gs.filter (fun y => !keyG x.g.orig x.g.proxy x.g.ask.d.realm y.d) ++ [x.g]) = L at hrp hll hal hK3
  have hpo3 := hp3.out
  have hbo3 := hK3.out.box
  clear hpu hB3 ho3 hpo
  go_wp2_with (first
    | (refine wpList_load_blk rfl 30 _ rfl _ rfl hbo3 _ undRBk rfl infoRBk ?_)
    | (refine wpList_load_blk rfl tGra _ rfl _ rfl hpo3 _ undGra rfl infoGra ?_))
  refine hrp.mono ?_
  rintro e w4 ⟨⟨v4, rfl, hO4⟩, hB4⟩
  obtain ⟨a4, c4, rfl, hr4, hc4, _⟩ := OwnG.shape encGra_len hO4
  have hbx := hbo3.later hB4
  have hB4H := Lib.hid hB4
  have hO4H := Lib.hid hO4
  have hr4H := Lib.hid hr4
  clear hO4 hB4 hr4 hrp hbo3 hpo3
  go_wp2_with (refine wpList_store_blk rfl 30 _ _ rfl _ rfl hbx #[.slice a4 L.length c4, .slice wa Ws.length wc] rfl (by rfl) infoRBk (by simp [Value.oneCell']) ?_; intro w5 hb5 hg5)
  have hT := hK3.out.turn hB4H.out hr4H.out (hK3.out.ref.rw.later hB4H.out) hc4 (.inr (own_far hO4H.out)) (.inl rfl) (hal.out _ (fun y hy => (hK3.out.ref.tg y hy).later hB4H.out) (hx4.out.later hB4H.out)) (fun y hy => (hK3.out.ref.tw y hy).later hB4H.out) hb5 hg5
  have hp5 := (hp3.out.later hB4H.out).grown hg5 (fun e => by have := Option.some.inj e; omega)
  have hq5 := (hq3.out.later hB4H.out).grown hg5 (fun e => by have := Option.some.inj e; omega)
  go_meet
  exact ⟨a4, c4, L, wa, wc, Ws, _, Lib.hid ⟨hT, h1w.out, hll.out, hWl, hp5, hq5⟩⟩
set_option maxRecDepth 100000 in
set_option maxHeartbeats 20000000 in
theorem case1 (W : World) (cap : Nat) (os : List BkOp) (_hl : os.length ≤ maxLen) (h40 : ¬ 40 < os.length) :
    (split W cap os _hl h40).t1 := by
  intro hk0 hOH hErrH _ _ _ _ wr u2 u6 u7 u8 u9 u10 u11 u12 u13 u14 u15 u16 u17 u18 u19 u20 u21 u22 u23 u24 u25 u26 u27 u28 u29 u37 u38 u39 u40 u41 u42 u43 u44 u45 u46 u47 u48 u49 u50 u51 u52 u53 u54 u55 u56 u57 u58 u59 u60 u61 u62 u63 u64 u65 u66 u67 u68 u69 u70 u71 u72 u73 u74 u75 u76 u77 u78 u79 u80 u81 u82 u83 u84 u85 u86 u87 u88 u89 u90 u91 u92 u93 u94 u95 u96 u97 u98 u99 u100 u101 u102 u103 u104 u105 u106 u107 u108 u109 u110 u111 u112 u113 u114 u115 u116 u117 u118 u119 u120 u121 u122 u123 u124 u125 u126 u127 u128 u129 u130 u131 u132 u133 u134 u135 u136 u137 u138 u139 u140 u141 u142 u143 u144 u145 u146 u147 u148 u149 u150 u151 u152 u153 u154 u155 u156 u157 u158 u159 u160 u161 u162 u163 u164 u165 u166 u167 u168 u169 u170 u171 u172 u173 u174 u175 u176 u177 u178 u179 u180 u181 u182 u183 u184 u185 u186 u187 u188 u189 u190 u191 u192 u193 u194 u195 u196 u197 u198 u199 u200 u201 u202 u203 u204 u205 u206 u207 u208 u209 u210 u211 u212 u213 u214 u215 u216 u217 u218 u219 u220 u221 u222 u223 u224 u225 u226 u227 u228 u229 u230 u231 u232 u233 u234 u235 u236 u237 u238 u239 u240 u241 u242 u243 u244 u245 u246 u247 u248 u249 u250 u251 u252 u253 u254 u255 u256 u257 u258 u259 u260 u261 u262 u263 u264 u265 u266 u267 u268 u269 u270 u271 u272 u273 u274 u275 u276 u277 u278 u279 u280 u281 u282 u283 u284 u285 u286 u287 u288 u289 u290 u291 u292 u293 k ga gc Gs wa wc Ws S hk hGl hWl h1w hlt pb po hEH x hok _ _ _ wz P hPS hRP hi0 hi1 _ _ wq hHeld hK2 hp2 hcw2 hx2 Q hq2 hQS hQq hPz s1 s2 s3 p7 h300 h10a h10b hx3 hsz _ _ _ _ _ _ _ _ _ e0 e1
  have hpu := useC W.heap.size S Gs _ x.g.orig x.g.proxy x.path wq hK2.out.bank (by omega)
  have hrpK := Lib.hid (fun w4 h1 h2 => refBankUse ga gc Gs wa Ws.length wc x.g.orig x.g.proxy x.path w4 h1 h2 (fun g hg => (hK2.out.ref.tg g hg).ok) (by omega) hK2.out.ref.cap)
  have huaK := Lib.hid (fun w (h : ∀ y ∈ Gs, RGr W w y) => use_all x.g.orig x.g.proxy x.path h)
  have hul := use_len x.g.orig x.g.proxy x.path Gs
  generalize rbUse x.g.orig x.g.proxy x.path Gs = U at hpu hrpK huaK hul
  obtain ⟨L, gx, nE⟩ := U
  try simp only at hpu hul
  have hqo := hq2.out
  go_wp2_with (refine wpList_load_blk rfl 32 _ rfl _ rfl hqo _ Tryd.underlying32 rfl infoOrgB ?_)
  refine hpu.mono ?_
  rintro e w3 ⟨g1, hgot, rfl, hB3, ho3⟩
  have hK3 := Lib.hid (hK2.out.prog hB3 ho3)
  have hp3 := Lib.hid (ho3.only.blk hp2.out hPS.out)
  have hq3 := Lib.hid (ho3.only.blk hq2.out hQS.out)
  have hgotH := Lib.hid hgot
  have hokx := Lib.hid (huaK.out wq (fun y hy => hK2.out.ref.tg y hy)).2.ok
  have hs23 := ho3.size
  have hZ3 := Blk.new w3 zGra tGra
  clear hpu hB3 ho3 hqo hgot
  go_upto_region 17 with (refine wpList_store_blk rfl tGra _ _ rfl _ rfl hZ3 g1.arr rfl (by rfl) infoGra (gra_one g1) ?_; intro w4 hb4 hg4)
  have hB34 := Lib.hid (below_only ((Below.refl w3.heap.size w3).alloc (Nat.le_refl _) (.cells zGra tGra)) hg4 (by simp) (Nat.le_refl _))
  have hK4 := Lib.hid (hK3.out.later hB34.out)
  have hqo4 := hq3.out.later hB34.out
  have hbo4 := hK4.out.box
  have hrp := hrpK.out w4 hK4.out.ref.rg (fun g hg => (hK4.out.ref.tg g hg).pth.1)
  have hb4H := Lib.hid hb4
  have hs34 := hB34.out.size
  have hl4 := hb4.lt
  clear hZ3 hg4 hb4 hrpK
  go_wp2_with (first
    | (refine wpList_load_blk rfl 30 _ rfl _ rfl hbo4 _ undRBk rfl infoRBk ?_)
    | (refine wpList_load_blk rfl 32 _ rfl _ rfl hqo4 _ Tryd.underlying32 rfl infoOrgB ?_))
  refine hrp.mono ?_
  rintro e w5 ⟨⟨a5, c5, rfl, hr5, hc5, hf5⟩, hB5⟩
  simp only at hr5 hc5
  have hz12 := (Blk.new w5 #[.slice none 0 0, .slice none 0 0] 30).alloc (.cells zGra tGra)
  have hz13 := Blk.new (w5.alloc (.cells #[.slice none 0 0, .slice none 0 0] 30)) zGra tGra
  simp only [World.size_alloc] at hz13
  have hB5H := Lib.hid hB5
  have hr5H := Lib.hid hr5
  have hf5H := Lib.hid hf5
  have hs45 := hB5.size
  clear hB5 hr5 hf5 hrp hbo4 hqo4
  go_upto_region 18 with (first
    | (refine wpList_store_blk rfl 30 _ _ rfl _ rfl hz12 #[.slice a5 L.length c5, .slice wa Ws.length wc] rfl rfl infoRBk (by simp [Value.oneCell']) ?_; intro w6 hb6 hg6; have hz13' := hz13.grown hg6 (fun e => by have := Option.some.inj e; omega))
    | (refine wpList_store_blk rfl tGra _ _ rfl _ rfl hz13' gx.arr rfl rfl infoGra (gra_one gx) ?_; intro w7 hb7 hg7))
  have hB56 := below_only (((Below.refl w5.heap.size w5).alloc (Nat.le_refl _) (.cells #[.slice none 0 0, .slice none 0 0] 30)).alloc (by simp) (.cells zGra tGra)) hg6 (by simp; omega) (Nat.le_refl _)
  have hB57 := Lib.hid (below_only hB56 hg7 hB56.size (by omega))
  have hB47 := Lib.hid (hB5H.out.then (Nat.le_refl _) hB57.out)
  have h127 := hb6.grown hg7 (fun e => by have := Option.some.inj e; omega)
  have hbo7 := hK4.out.box.later hB47.out
  have hb7H := Lib.hid hb7
  have hl7 := hb7.lt
  clear hz12 hz13 hz13' hb6 hg6 hg7 hB56 hb7
  go_upto_region 19 with (first
    | (refine wpList_load_blk rfl 30 _ rfl _ rfl h127 _ undRBk rfl infoRBk ?_)
    | (refine wpList_store_blk rfl 30 _ _ rfl _ rfl hbo7 #[.slice a5 L.length c5, .slice wa Ws.length wc] rfl (by rfl) infoRBk (by simp [Value.oneCell']) ?_; intro w8 hb8 hg8))
  have hT8 : OnlyT (fun i => i = W.heap.size + 1) w7 w8 := (Only.of_grown hg8 (fun i e => (Option.some.inj e).symm)).mono (fun i e => ⟨e, by rw [e]; exact noTxt_blk hbo7 (by decide)⟩)
  have hua7 := huaK.out w7 (fun y hy => (hK4.out.ref.tg y hy).later hB47.out)
  have hK8 := Lib.hid (hK4.out.turn hB47.out (hr5H.out.later hB57.out) (hK4.out.ref.rw.later hB47.out) hc5 (hf5H.out.imp (fun e => e) (fun h y hy => ⟨(h y hy).1, Nat.lt_of_lt_of_le (h y hy).2 hB57.out.size⟩)) (.inl rfl) hua7.1 (fun y hy => (hK4.out.ref.tw y hy).later hB47.out) hb8 hg8)
  have hxt8 := Lib.hid ((hua7.2.stays hT8 (fun i e => by rw [e]; omega)).tx)
  have hB37 := hB34.out.then (Nat.le_refl _) hB47.out
  have hgt8 := Lib.hid (got_tx2 hgotH.out hokx.out hB37 hT8)
  have hgd := Lib.hid hgotH.out.1
  have hp8 := Lib.hid (((hp3.out.later hB34.out).later hB47.out).grown hg8 (fun e => by have := Option.some.inj e; omega))
  have hq8 := Lib.hid (((hq3.out.later hB34.out).later hB47.out).grown hg8 (fun e => by have := Option.some.inj e; omega))
  have h48 := Lib.hid ((hb4H.out.later hB47.out).grown hg8 (fun e => by have := Option.some.inj e; omega))
  have h78 := Lib.hid (hb7H.out.grown hg8 (fun e => by have := Option.some.inj e; omega))
  have hba := bare_is nE (hErrH.out.later hK8.out.low) (errV_is w8 nE)
  rw [show ((nE == nE) && ((-1 : Int) == -1)) = true by simp] at hba
  clear hT8 hua7 hB37 hg8 hb8 hbo7 h127 huaK
  go_wp2_with fail
  refine hba.mono ?_
  rintro e w9 ⟨rfl, hB9⟩
  have h49 := h48.out.later hB9
  have h79 := h78.out.later hB9
  have hK9 := Lib.hid (hK8.out.later hB9)
  have hp9 := Lib.hid (hp8.out.later hB9)
  have hq9 := Lib.hid (hq8.out.later hB9)
  have hsg := sameGrant_yes g1 gx w9 hgd.out (hgt8.out.later hB9) (hxt8.out.later hB9)
  clear hba hB9
  go_wp2_with (first
    | (refine wpList_want_blk (by rfl) tGra _ rfl _ rfl h49 _ undGra rfl infoGra ?_)
    | (refine wpList_want_blk (by rfl) tGra _ rfl _ rfl h79 _ undGra rfl infoGra ?_)
    | (go_at_call 9; refine hsg.mono ?_; rintro e w10 ⟨rfl, hB10⟩))
  go_meet
  exact ⟨a5, c5, L, wa, wc, Ws, _, Lib.hid ⟨hK9.out.later hB10, h1w.out, by omega, hWl, hp9.out.later hB10, hq9.out.later hB10⟩⟩
set_option maxRecDepth 100000 in
set_option maxHeartbeats 20000000 in
theorem case2 (W : World) (cap : Nat) (os : List BkOp) (_hl : os.length ≤ maxLen) (h40 : ¬ 40 < os.length) :
    (split W cap os _hl h40).t2 := by
  intro hk0 hOH hErrH _ _ _ _ wr u2 u6 u7 u8 u9 u10 u11 u12 u13 u14 u15 u16 u17 u18 u19 u20 u21 u22 u23 u24 u25 u26 u27 u28 u29 u37 u38 u39 u40 u41 u42 u43 u44 u45 u46 u47 u48 u49 u50 u51 u52 u53 u54 u55 u56 u57 u58 u59 u60 u61 u62 u63 u64 u65 u66 u67 u68 u69 u70 u71 u72 u73 u74 u75 u76 u77 u78 u79 u80 u81 u82 u83 u84 u85 u86 u87 u88 u89 u90 u91 u92 u93 u94 u95 u96 u97 u98 u99 u100 u101 u102 u103 u104 u105 u106 u107 u108 u109 u110 u111 u112 u113 u114 u115 u116 u117 u118 u119 u120 u121 u122 u123 u124 u125 u126 u127 u128 u129 u130 u131 u132 u133 u134 u135 u136 u137 u138 u139 u140 u141 u142 u143 u144 u145 u146 u147 u148 u149 u150 u151 u152 u153 u154 u155 u156 u157 u158 u159 u160 u161 u162 u163 u164 u165 u166 u167 u168 u169 u170 u171 u172 u173 u174 u175 u176 u177 u178 u179 u180 u181 u182 u183 u184 u185 u186 u187 u188 u189 u190 u191 u192 u193 u194 u195 u196 u197 u198 u199 u200 u201 u202 u203 u204 u205 u206 u207 u208 u209 u210 u211 u212 u213 u214 u215 u216 u217 u218 u219 u220 u221 u222 u223 u224 u225 u226 u227 u228 u229 u230 u231 u232 u233 u234 u235 u236 u237 u238 u239 u240 u241 u242 u243 u244 u245 u246 u247 u248 u249 u250 u251 u252 u253 u254 u255 u256 u257 u258 u259 u260 u261 u262 u263 u264 u265 u266 u267 u268 u269 u270 u271 u272 u273 u274 u275 u276 u277 u278 u279 u280 u281 u282 u283 u284 u285 u286 u287 u288 u289 u290 u291 u292 u293 k ga gc Gs wa wc Ws S hk hGl hWl h1w hlt pb po hEH x hok _ _ _ wz P hPS hRP hi0 hi1 _ _ wq hHeld hK2 hp2 hcw2 hx2 Q hq2 hQS hQq hPz s1 s2 s3 p7 h300 h10a h10b hx3 hsz _ _ _ _ _ _ _ _ _ e0 e1 e2
  have hdrK := fun W' hB => dropC W.heap.size S Gs (Ws.map Wai.d) x.g.orig x.g.proxy x.g.ask.d.realm W' hB (by omega)
  have hlf : (Gs.filter (fun y => !keyG x.g.orig x.g.proxy x.g.ask.d.realm y.d)).length ≤ Gs.length := List.length_filter_le _ _
  have hrp := refBankDrop ga gc Gs wa Ws.length wc x.g.orig x.g.proxy x.g.ask.d.realm wq hK2.out.ref.rg (by omega)
  have hal := Lib.hid (fun (Pr : Gra → Prop) (h1 : ∀ y ∈ Gs, Pr y) => fun y (hy : y ∈ Gs.filter (fun y => !keyG x.g.orig x.g.proxy x.g.ask.d.realm y.d)) => h1 y (List.mem_filter.1 hy).1)
  generalize Gs.filter (fun y => !keyG x.g.orig x.g.proxy x.g.ask.d.realm y.d) = L at hrp hdrK hlf hal
  have hbo := hK2.out.box
  have hqo := hq2.out
  have r0 : _ = some (Value.slice ga Gs.length gc) := hbo.cell 0 rfl
  go_wp2_with (first
    | (refine wpList_load_blk rfl 30 _ rfl _ rfl hbo _ undRBk rfl infoRBk ?_)
    | (refine wpList_load_blk rfl 32 _ rfl _ rfl hqo _ Tryd.underlying32 rfl infoOrgB ?_))
  refine hrp.mono ?_
  rintro e w3 ⟨⟨v3, rfl, hO3⟩, hB3⟩
  obtain ⟨a3, c3, rfl, hr3, hc3, _⟩ := OwnG.shape encGra_len hO3
  have hbx := hbo.later hB3
  have hB3H := Lib.hid hB3
  have hO3H := Lib.hid hO3
  have hr3H := Lib.hid hr3
  clear hO3 hB3 hr3 hrp hbo hqo r0
  go_upto_region 24 with (refine wpList_store_blk rfl 30 _ _ rfl _ rfl hbx #[.slice a3 L.length c3, .slice wa Ws.length wc] rfl (by rfl) infoRBk (by simp [Value.oneCell']) ?_; intro w4 hb4 hg4)
  have hK4 := Lib.hid (hK2.out.turn hB3H.out hr3H.out (hK2.out.ref.rw.later hB3H.out) hc3 (.inr (own_far hO3H.out)) (.inl rfl) (hal.out _ (fun y hy => (hK2.out.ref.tg y hy).later hB3H.out)) (fun y hy => (hK2.out.ref.tw y hy).later hB3H.out) hb4 hg4)
  have hp4 := Lib.hid ((hp2.out.later hB3H.out).grown hg4 (fun e => by have := Option.some.inj e; omega))
  have hq4 := Lib.hid ((hq2.out.later hB3H.out).grown hg4 (fun e => by have := Option.some.inj e; omega))
  have hs4 : wq.heap.size ≤ w4.heap.size := Nat.le_trans hB3H.out.size hg4.size
  obtain ⟨bb, hbd⟩ : ∃ bb : Bool, decide (L.length < Gs.length) = bb := ⟨_, rfl⟩
  have hdr := fun W' (hb : Below w4.heap.size w4 W') => hdrK W' (hK4.out.bank.later hb)
  simp only [hbd] at hdr
  have hne : (bb == bb) = true := by simp
  have hmk : ∀ w', Only S w4 w' → Blk w' Q (orgArr x.g.orig) 32 ∧ w'.cell? ⟨P, 7, none⟩ = some (.string x.g.ask.d.realm) ∧ w'.cell? ⟨W.heap.size + 1, 0, none⟩ = some (.slice a3 L.length c3) := fun w' ho => ⟨ho.blk hq4.out hQS.out, (ho.blk hp4.out hPS.out).cell 7 rfl, (ho.blk hK4.out.box hK4.out.far).cell 0 rfl⟩
  have hb0 : Below w4.heap.size w4 w4.drew := (Below.refl _ _).drew
  clear hb4 hg4 hbx hdrK
  refine wp_region_held_drew (S := fun w' => Blk w' Q (orgArr x.g.orig) 32 ∧ w'.cell? ⟨P, 7, none⟩ = some (.string x.g.ask.d.realm) ∧ w'.cell? ⟨W.heap.size + 1, 0, none⟩ = some (.slice a3 L.length c3)) (by kernel_rfl) (by (try dsimp only); exact hmk _ (Only.of_below hb0)) (fun hHeld => ?_)
  refine wpAnyH_take (i := 0) (v := ?_) rfl (by kernel_rfl) (by kernel_rfl) (by kernel_rfl) (fun _ _ _ h => h) (Or.inl ⟨by rfl, ?_⟩) (by assumption) ?_
  rotate_left
  · intro w hSw; (try dsimp only at hSw); go_simp; (try with_reducible rfl)
  (try simp only [List.getElem_toArray, List.getElem_cons_succ, List.getElem_cons_zero, Act.put, List.setIfInBounds_toArray, List.set_cons_zero, List.set_cons_succ])
  refine wpAnyH_take (i := 1) (v := .agg (orgArr x.g.orig)) rfl (by kernel_rfl) (by kernel_rfl) (by kernel_rfl) (fun _ _ _ h => h) (yieldsIf_load_mid (by rfl) 32 _ rfl Q 0 (by rfl) [.bool x.g.orig.sec, .string x.g.orig.host, .int .i64 x.g.orig.port] _ (fun w h => h.1.range) Tryd.underlying32 rfl infoOrgB) (by assumption) ?_
  (try simp only [List.getElem_toArray, List.getElem_cons_succ, List.getElem_cons_zero, Act.put, List.setIfInBounds_toArray, List.set_cons_zero, List.set_cons_succ])
  refine wpAnyH_take (i := 2) (v := ?_) rfl (by kernel_rfl) (by kernel_rfl) (by kernel_rfl) (fun _ _ _ h => h) (Or.inl ⟨by rfl, ?_⟩) (by assumption) ?_
  rotate_left
  · intro w hSw; (try dsimp only at hSw); go_simp; (try with_reducible rfl)
  (try simp only [List.getElem_toArray, List.getElem_cons_succ, List.getElem_cons_zero, Act.put, List.setIfInBounds_toArray, List.set_cons_zero, List.set_cons_succ])
  refine wpAnyH_take (i := 3) (v := ?_) rfl (by kernel_rfl) (by kernel_rfl) (by kernel_rfl) (fun _ _ _ h => h) (Or.inl ⟨by rfl, ?_⟩) (by assumption) ?_
  rotate_left
  · intro w hSw; (try dsimp only at hSw); go_simp; (try with_reducible rfl)
  (try simp only [List.getElem_toArray, List.getElem_cons_succ, List.getElem_cons_zero, Act.put, List.setIfInBounds_toArray, List.set_cons_zero, List.set_cons_succ])
  refine wpAnyH_take (i := 4) (v := ?_) rfl (by kernel_rfl) (by kernel_rfl) (by kernel_rfl) (fun _ _ _ h => h) (Or.inl ⟨by rfl, ?_⟩) (by assumption) ?_
  rotate_left
  · intro w hSw; (try dsimp only at hSw); go_simp; (try with_reducible rfl)
  (try simp only [List.getElem_toArray, List.getElem_cons_succ, List.getElem_cons_zero, Act.put, List.setIfInBounds_toArray, List.set_cons_zero, List.set_cons_succ])
  refine wpAnyH_take (i := 5) (v := ?_) rfl (by kernel_rfl) (by kernel_rfl) (by kernel_rfl) (fun _ _ _ h => h) (Or.inl ⟨by rfl, ?_⟩) (by assumption) ?_
  rotate_left
  · intro w hSw; (try dsimp only at hSw); go_simp; (try with_reducible rfl)
  (try simp only [List.getElem_toArray, List.getElem_cons_succ, List.getElem_cons_zero, Act.put, List.setIfInBounds_toArray, List.set_cons_zero, List.set_cons_succ])
  refine wpAnyH_take (i := 7) (v := ?_) rfl (by kernel_rfl) (by kernel_rfl) (by kernel_rfl) (fun _ _ _ h => h) (Or.inl ⟨by rfl, ?_⟩) (by assumption) ?_
  rotate_left
  · intro w hSw; (try dsimp only at hSw); go_simp; (try with_reducible rfl)
  (try simp only [List.getElem_toArray, List.getElem_cons_succ, List.getElem_cons_zero, Act.put, List.setIfInBounds_toArray, List.set_cons_zero, List.set_cons_succ])
  refine wpAnyH_take (i := 8) (v := ?_) rfl (by kernel_rfl) (by kernel_rfl) (by kernel_rfl) (fun _ _ _ h => h) (Or.inl ⟨by rfl, ?_⟩) (by assumption) ?_
  rotate_left
  · intro w hSw; (try dsimp only at hSw); go_simp; (try with_reducible rfl)
  (try simp only [List.getElem_toArray, List.getElem_cons_succ, List.getElem_cons_zero, Act.put, List.setIfInBounds_toArray, List.set_cons_zero, List.set_cons_succ])
  refine wpAnyH_take (i := 9) (v := ?_) rfl (by kernel_rfl) (by kernel_rfl) (by kernel_rfl) (fun _ _ _ h => h) (Or.inl ⟨by rfl, ?_⟩) (by assumption) ?_
  rotate_left
  · intro w hSw; (try dsimp only at hSw); go_simp; (try with_reducible rfl)
  (try simp only [List.getElem_toArray, List.getElem_cons_succ, List.getElem_cons_zero, Act.put, List.setIfInBounds_toArray, List.set_cons_zero, List.set_cons_succ])
  refine wpAnyH_take (i := 10) (v := ?_) rfl (by kernel_rfl) (by kernel_rfl) (by kernel_rfl) (fun _ _ _ h => h) (Or.inl ⟨by rfl, ?_⟩) (by assumption) ?_
  rotate_left
  · intro w hSw; (try dsimp only at hSw); go_simp; (try with_reducible rfl)
  (try simp only [List.getElem_toArray, List.getElem_cons_succ, List.getElem_cons_zero, Act.put, List.setIfInBounds_toArray, List.set_cons_zero, List.set_cons_succ])
  refine wpAnyH_take (i := 11) (v := ?_) rfl (by kernel_rfl) (by kernel_rfl) (by kernel_rfl) (fun _ _ _ h => h) (Or.inl ⟨by rfl, ?_⟩) (by assumption) ?_
  rotate_left
  · intro w hSw; (try dsimp only at hSw); go_simp; (try with_reducible rfl)
  (try simp only [List.getElem_toArray, List.getElem_cons_succ, List.getElem_cons_zero, Act.put, List.setIfInBounds_toArray, List.set_cons_zero, List.set_cons_succ])
  refine wpAnyH_ready (rs := [6]) (by kernel_rfl) (by simp) ?_
  refine AllReadyH.cons rfl (fun K hK => ?_) AllReadyH.nil
  go_simp
  go_at_call 11
  refine (hdr _ hb0).mono ?_
  rintro e w5 ⟨rfl, hB5, hT5⟩
  refine hK.out _ _ (by (try dsimp only); exact hmk _ ((Only.of_below hb0).trans hT5.only)) (fun hHeld => ?_)
  clear hK K
  (try simp only [List.getElem_toArray, List.getElem_cons_succ, List.getElem_cons_zero, Act.put, List.setIfInBounds_toArray, List.set_cons_zero, List.set_cons_succ])
  refine wpAnyH_take (i := 12) (v := ?_) rfl (by kernel_rfl) (by kernel_rfl) (by kernel_rfl) (fun _ _ _ h => h) (Or.inl ⟨by rfl, ?_⟩) (by assumption) ?_
  rotate_left
  · intro w hSw; (try dsimp only at hSw); go_simp; (try with_reducible rfl)
  (try simp only [List.getElem_toArray, List.getElem_cons_succ, List.getElem_cons_zero, Act.put, List.setIfInBounds_toArray, List.set_cons_zero, List.set_cons_succ])
  refine wpAnyH_done (by kernel_rfl) ?_ _
  have ho5 : OnlyT S w4.drew w5 := hT5
  have hK5 := ((hK4.out.later hb0).prog hB5 ho5)
  have ho45 := (Only.of_below (S := S) hb0).trans hT5.only
  have hp5 := Lib.hid (ho45.blk hp4.out hPS.out)
  have hq5 := Lib.hid (ho45.blk hq4.out hQS.out)
  have hR5 : Hid (RoundB W w5 P Q x a3 c3 L wa wc Ws (grow S w4.drew w5)) := Lib.hid ⟨hK5, h1w.out, by omega, hWl, hp5.out, hq5.out⟩
  clear hK5 ho45 hB5 hT5 ho5 hmk hdr hb0
  go_wp2
  go_meet
  exact ⟨a3, c3, L, wa, wc, Ws, _, hR5⟩
set_option maxRecDepth 100000 in
set_option maxHeartbeats 20000000 in
theorem case3 (W : World) (cap : Nat) (os : List BkOp) (_hl : os.length ≤ maxLen) (h40 : ¬ 40 < os.length) :
    (split W cap os _hl h40).t3 := by
  intro hk0 hOH hErrH _ _ _ _ wr u2 u6 u7 u8 u9 u10 u11 u12 u13 u14 u15 u16 u17 u18 u19 u20 u21 u22 u23 u24 u25 u26 u27 u28 u29 u37 u38 u39 u40 u41 u42 u43 u44 u45 u46 u47 u48 u49 u50 u51 u52 u53 u54 u55 u56 u57 u58 u59 u60 u61 u62 u63 u64 u65 u66 u67 u68 u69 u70 u71 u72 u73 u74 u75 u76 u77 u78 u79 u80 u81 u82 u83 u84 u85 u86 u87 u88 u89 u90 u91 u92 u93 u94 u95 u96 u97 u98 u99 u100 u101 u102 u103 u104 u105 u106 u107 u108 u109 u110 u111 u112 u113 u114 u115 u116 u117 u118 u119 u120 u121 u122 u123 u124 u125 u126 u127 u128 u129 u130 u131 u132 u133 u134 u135 u136 u137 u138 u139 u140 u141 u142 u143 u144 u145 u146 u147 u148 u149 u150 u151 u152 u153 u154 u155 u156 u157 u158 u159 u160 u161 u162 u163 u164 u165 u166 u167 u168 u169 u170 u171 u172 u173 u174 u175 u176 u177 u178 u179 u180 u181 u182 u183 u184 u185 u186 u187 u188 u189 u190 u191 u192 u193 u194 u195 u196 u197 u198 u199 u200 u201 u202 u203 u204 u205 u206 u207 u208 u209 u210 u211 u212 u213 u214 u215 u216 u217 u218 u219 u220 u221 u222 u223 u224 u225 u226 u227 u228 u229 u230 u231 u232 u233 u234 u235 u236 u237 u238 u239 u240 u241 u242 u243 u244 u245 u246 u247 u248 u249 u250 u251 u252 u253 u254 u255 u256 u257 u258 u259 u260 u261 u262 u263 u264 u265 u266 u267 u268 u269 u270 u271 u272 u273 u274 u275 u276 u277 u278 u279 u280 u281 u282 u283 u284 u285 u286 u287 u288 u289 u290 u291 u292 u293 k ga gc Gs wa wc Ws S hk hGl hWl h1w hlt pb po hEH x hok _ _ _ wz P hPS hRP hi0 hi1 _ _ wq hHeld hK2 hp2 hcw2 hx2 Q hq2 hQS hQq hPz s1 s2 s3 p7 h300 h10a h10b hx3 hsz _ _ _ _ _ _ _ _ _ e0 e1 e2 e3
  obtain ⟨y, hy⟩ : ∃ y : Wai, Hid (y = ⟨x.g.orig, x.g.proxy, x.path, x.g.ask⟩) := ⟨_, Lib.hid rfl⟩
  have hya : y.arr = (⟨x.g.orig, x.g.proxy, x.path, x.g.ask⟩ : Wai).arr := by rw [hy.out]
  have hRy : Hid (RWr W wq y) := Lib.hid (by rw [hy.out]; exact ⟨hx3.out.dom, ⟨hx3.out.ok.l1⟩⟩)
  have hpu := askedC W.heap.size S _ Ws y wq hK2.out.bank (by rw [List.length_map]; omega) (by omega) h1w.out hRy.out.ok (fun W' ho => (hRy.out.dom.stays ho hK2.out.base).1)
  rw [hya] at hpu
  have hm := Lib.hid (asked_map y Ws)
  have hll := Lib.hid (lastB_len 8 (Ws.filter (fun z => !keyW y.orig y.proxy z.d) ++ [y]))
  have hal := Lib.hid (fun (Pr : Wai → Prop) h1 h2 => asked_all (P := Pr) (f := fun z => !keyW y.orig y.proxy z.d) (Gs := Ws) (g := y) h1 h2)
  have hrpK := fun w3 hS => refBankAsked ga Gs.length gc wa wc Ws y w3 hS (by omega)
  generalize lastB 8 (Ws.filter (fun z => !keyW y.orig y.proxy z.d) ++ [y]) = L at hpu hrpK hm hll hal
  rw [hya] at hrpK
  have hpo := hp2.out
  have hqo := hq2.out
  have hra := gra_ask hpo
  go_wp2_with (first
    | (refine wpList_load_blk rfl 32 _ rfl _ rfl hqo _ Tryd.underlying32 rfl infoOrgB ?_)
    | (refine wpList_load_mid rfl 37 _ rfl P 6 rfl x.g.ask.arr.toList _ hra Tryd.underlying37 rfl infoAskB ?_))
  refine hpu.mono ?_
  rintro e w3 ⟨rfl, hB3, ho3⟩
  have hK3 := Lib.hid (hK2.out.prog hB3 ho3)
  have hRy3 := Lib.hid (hRy.out.stays ho3 hK2.out.base)
  have hp3 := Lib.hid (ho3.only.blk hp2.out hPS.out)
  have hq3 := Lib.hid (ho3.only.blk hq2.out hQS.out)
  have hrp := hrpK w3 hK3.out.ref.rw
  have hbo3 := hK3.out.box
  have hqo3 := hq3.out
  have hra3 := gra_ask hp3.out
  clear hpu hB3 ho3 hpo hqo hra hrpK
  go_wp2_with (first
    | (refine wpList_load_blk rfl 30 _ rfl _ rfl hbo3 _ undRBk rfl infoRBk ?_)
    | (refine wpList_load_blk rfl 32 _ rfl _ rfl hqo3 _ Tryd.underlying32 rfl infoOrgB ?_)
    | (refine wpList_load_mid rfl 37 _ rfl P 6 rfl x.g.ask.arr.toList _ hra3 Tryd.underlying37 rfl infoAskB ?_))
  refine hrp.mono ?_
  rintro e w4 ⟨⟨v4, rfl, hO4⟩, hB4⟩
  obtain ⟨a4, c4, rfl, hr4, hc4, _⟩ := OwnG.shape encWai_len hO4
  have hbx := hbo3.later hB4
  have hB4H := Lib.hid hB4
  have hO4H := Lib.hid hO4
  have hr4H := Lib.hid hr4
  clear hO4 hB4 hr4 hrp hbo3 hqo3 hra3
  go_wp2_with (refine wpList_store_blk rfl 30 _ _ rfl _ rfl hbx #[.slice ga Gs.length gc, .slice a4 L.length c4] rfl (by rfl) infoRBk (by simp [Value.oneCell']) ?_; intro w5 hb5 hg5)
  have hT := hK3.out.turn hB4H.out (hK3.out.ref.rg.later hB4H.out) hr4H.out hK3.out.ref.cap (.inl rfl) (.inr (own_far hO4H.out)) (fun y hy => (hK3.out.ref.tg y hy).later hB4H.out) (hal.out _ (fun y hy => (hK3.out.ref.tw y hy).later hB4H.out) (hRy3.out.later hB4H.out)) hb5 hg5
  have hone : OneW (L.map Wai.d) := by rw [hm.out]; exact h1w.out.asked y.d
  have hp5 := (hp3.out.later hB4H.out).grown hg5 (fun e => by have := Option.some.inj e; omega)
  have hq5 := (hq3.out.later hB4H.out).grown hg5 (fun e => by have := Option.some.inj e; omega)
  go_meet
  exact ⟨ga, gc, Gs, a4, c4, L, _, Lib.hid ⟨hT, hone, hGl, hll.out, hp5, hq5⟩⟩
set_option maxRecDepth 100000 in
set_option maxHeartbeats 20000000 in
theorem case4 (W : World) (cap : Nat) (os : List BkOp) (_hl : os.length ≤ maxLen) (h40 : ¬ 40 < os.length) :
    (split W cap os _hl h40).t4 := by
  intro hk0 hOH hErrH _ _ _ _ wr u2 u6 u7 u8 u9 u10 u11 u12 u13 u14 u15 u16 u17 u18 u19 u20 u21 u22 u23 u24 u25 u26 u27 u28 u29 u37 u38 u39 u40 u41 u42 u43 u44 u45 u46 u47 u48 u49 u50 u51 u52 u53 u54 u55 u56 u57 u58 u59 u60 u61 u62 u63 u64 u65 u66 u67 u68 u69 u70 u71 u72 u73 u74 u75 u76 u77 u78 u79 u80 u81 u82 u83 u84 u85 u86 u87 u88 u89 u90 u91 u92 u93 u94 u95 u96 u97 u98 u99 u100 u101 u102 u103 u104 u105 u106 u107 u108 u109 u110 u111 u112 u113 u114 u115 u116 u117 u118 u119 u120 u121 u122 u123 u124 u125 u126 u127 u128 u129 u130 u131 u132 u133 u134 u135 u136 u137 u138 u139 u140 u141 u142 u143 u144 u145 u146 u147 u148 u149 u150 u151 u152 u153 u154 u155 u156 u157 u158 u159 u160 u161 u162 u163 u164 u165 u166 u167 u168 u169 u170 u171 u172 u173 u174 u175 u176 u177 u178 u179 u180 u181 u182 u183 u184 u185 u186 u187 u188 u189 u190 u191 u192 u193 u194 u195 u196 u197 u198 u199 u200 u201 u202 u203 u204 u205 u206 u207 u208 u209 u210 u211 u212 u213 u214 u215 u216 u217 u218 u219 u220 u221 u222 u223 u224 u225 u226 u227 u228 u229 u230 u231 u232 u233 u234 u235 u236 u237 u238 u239 u240 u241 u242 u243 u244 u245 u246 u247 u248 u249 u250 u251 u252 u253 u254 u255 u256 u257 u258 u259 u260 u261 u262 u263 u264 u265 u266 u267 u268 u269 u270 u271 u272 u273 u274 u275 u276 u277 u278 u279 u280 u281 u282 u283 u284 u285 u286 u287 u288 u289 u290 u291 u292 u293 k ga gc Gs wa wc Ws S hk hGl hWl h1w hlt pb po hEH x hok _ _ _ wz P hPS hRP hi0 hi1 _ _ wq hHeld hK2 hp2 hcw2 hx2 Q hq2 hQS hQq hPz s1 s2 s3 p7 h300 h10a h10b hx3 hsz _ _ _ _ _ _ _ _ _ e0 e1 e2 e3 e4
  have hpu := takeC W.heap.size S _ Ws x.g.orig x.g.proxy wq hK2.out.bank (by rw [List.length_map]; omega) (by omega) h1w.out
  have hm := takeW_map x.g.orig x.g.proxy Ws
  have hone : Hid (OneW ((Ws.filter (fun y => !keyW x.g.orig x.g.proxy y.d)).map Wai.d)) := Lib.hid (by rw [hm]; exact h1w.out.take _ _)
  have hlf : (Ws.filter (fun y => !keyW x.g.orig x.g.proxy y.d)).length ≤ Ws.length := List.length_filter_le _ _
  have hal := Lib.hid (fun (Pr : Wai → Prop) (h1 : ∀ y ∈ Ws, Pr y) => fun y (hy : y ∈ Ws.filter (fun y => !keyW x.g.orig x.g.proxy y.d)) => h1 y (List.mem_filter.1 hy).1)
  have hrpK := Lib.hid (fun w4 h1 => refBankTake ga Gs.length gc wa wc Ws x.g.orig x.g.proxy w4 h1 (by omega))
  have hgo : Hid (∀ W', (∀ y ∈ Ws, RWr W W' y) → RWr W W' ((lastW x.g.orig x.g.proxy Ws).getD zeroWai)) := Lib.hid (fun W' h => by
    cases hq : lastW x.g.orig x.g.proxy Ws with
    | none => exact rwr_zero _ _
    | some z => exact h z (lastW_mem hq))
  clear hm
  generalize Ws.filter (fun y => !keyW x.g.orig x.g.proxy y.d) = L at hpu hone hlf hal hrpK
  generalize lastW x.g.orig x.g.proxy Ws = got at hpu hrpK hgo
  have hrpK2 : Hid (∀ w4, RowAt 13 encWai w4 wa Ws → Calls Tryd.prog 15 #[.agg #[.slice ga Gs.length gc, .slice wa Ws.length wc], .agg (orgArr x.g.orig), .bool x.g.proxy] w4 (fun e w' => (∃ v, e = .returned (.tuple #[.agg #[.slice ga Gs.length gc, v], .agg (got.getD zeroWai).arr, .bool got.isSome]) ∧ OwnG tWaiR 13 encWai w' w4.heap.size v L) ∧ Below w4.heap.size w4 w')) := Lib.hid (fun w4 h => hrpK.out w4 h)
  clear hrpK
  generalize got.getD zeroWai = gx at hpu hrpK2 hgo
  generalize got.isSome = bs at hpu hrpK2
  have hqo := hq2.out
  go_wp2_with (refine wpList_load_blk rfl 32 _ rfl _ rfl hqo _ Tryd.underlying32 rfl infoOrgB ?_)
  refine hpu.mono ?_
  rintro e w3 ⟨g1, hgd, rfl, hgt, hB3, ho3⟩
  have hK3 := Lib.hid (hK2.out.prog hB3 ho3)
  have hp3 := Lib.hid (ho3.only.blk hp2.out hPS.out)
  have hq3 := Lib.hid (ho3.only.blk hq2.out hQS.out)
  have hgdH := Lib.hid hgd
  have hgtH := Lib.hid hgt
  have hokx := Lib.hid (hgo.out wq (fun y hy => hK2.out.ref.tw y hy)).ok
  have hs23 := ho3.size
  have hZ3 := Blk.new w3 zWai tWai
  clear hpu hB3 ho3 hqo hgd hgt
  go_upto_region 31 with (refine wpList_store_blk rfl tWai _ _ rfl _ rfl hZ3 g1.arr rfl (by rfl) infoWai (wai_one g1) ?_; intro w4 hb4 hg4)
  have hB34 := Lib.hid (below_only ((Below.refl w3.heap.size w3).alloc (Nat.le_refl _) (.cells zWai tWai)) hg4 (by simp) (Nat.le_refl _))
  have hK4 := Lib.hid (hK3.out.later hB34.out)
  have hqo4 := hq3.out.later hB34.out
  have hbo4 := hK4.out.box
  have hrp := hrpK2.out w4 hK4.out.ref.rw
  have hb4H := Lib.hid hb4
  have hs34 := hB34.out.size
  have hl4 := hb4.lt
  clear hZ3 hg4 hb4 hrpK2
  go_wp2_with (first
    | (refine wpList_load_blk rfl 30 _ rfl _ rfl hbo4 _ undRBk rfl infoRBk ?_)
    | (refine wpList_load_blk rfl 32 _ rfl _ rfl hqo4 _ Tryd.underlying32 rfl infoOrgB ?_))
  refine hrp.mono ?_
  rintro e w5 ⟨⟨v5, rfl, hO5⟩, hB5⟩
  obtain ⟨a5, c5, rfl, hr5, hc5, _⟩ := OwnG.shape encWai_len hO5
  have hz12 := (Blk.new w5 #[.slice none 0 0, .slice none 0 0] 30).alloc (.cells zWai tWaiR)
  have hz13 := Blk.new (w5.alloc (.cells #[.slice none 0 0, .slice none 0 0] 30)) zWai tWaiR
  simp only [World.size_alloc] at hz13
  have hB5H := Lib.hid hB5
  have hr5H := Lib.hid hr5
  have hO5H := Lib.hid hO5
  have hs45 := hB5.size
  clear hB5 hr5 hO5 hrp hbo4 hqo4
  go_upto_region 32 with (first
    | (refine wpList_store_blk rfl 30 _ _ rfl _ rfl hz12 #[.slice ga Gs.length gc, .slice a5 L.length c5] rfl rfl infoRBk (by simp [Value.oneCell']) ?_; intro w6 hb6 hg6; have hz13' := hz13.grown hg6 (fun e => by have := Option.some.inj e; omega))
    | (refine wpList_store_blk rfl tWaiR _ _ rfl _ rfl hz13' gx.arr rfl rfl infoWaiR (wai_one gx) ?_; intro w7 hb7 hg7))
  have hB56 := below_only (((Below.refl w5.heap.size w5).alloc (Nat.le_refl _) (.cells #[.slice none 0 0, .slice none 0 0] 30)).alloc (by simp) (.cells zWai tWaiR)) hg6 (by simp; omega) (Nat.le_refl _)
  have hB57 := Lib.hid (below_only hB56 hg7 hB56.size (by omega))
  have hB47 := Lib.hid (hB5H.out.then (Nat.le_refl _) hB57.out)
  have h127 := hb6.grown hg7 (fun e => by have := Option.some.inj e; omega)
  have hbo7 := hK4.out.box.later hB47.out
  have hb7H := Lib.hid hb7
  have hl7 := hb7.lt
  clear hz12 hz13 hz13' hb6 hg6 hg7 hB56 hb7
  go_upto_region 33 with (first
    | (refine wpList_load_blk rfl 30 _ rfl _ rfl h127 _ undRBk rfl infoRBk ?_)
    | (refine wpList_store_blk rfl 30 _ _ rfl _ rfl hbo7 #[.slice ga Gs.length gc, .slice a5 L.length c5] rfl (by rfl) infoRBk (by simp [Value.oneCell']) ?_; intro w8 hb8 hg8))
  have hT8 : OnlyT (fun i => i = W.heap.size + 1) w7 w8 := (Only.of_grown hg8 (fun i e => (Option.some.inj e).symm)).mono (fun i e => ⟨e, by rw [e]; exact noTxt_blk hbo7 (by decide)⟩)
  have hfar := own_far hO5H.out
  have hua7 := hgo.out w7 (fun y hy => (hK4.out.ref.tw y hy).later hB47.out)
  have hK8 := Lib.hid (hK4.out.turn hB47.out (hK4.out.ref.rg.later hB47.out) (hr5H.out.later hB57.out) hK4.out.ref.cap (.inl rfl) (.inr (fun y hy => ⟨(hfar y hy).1, Nat.lt_of_lt_of_le (hfar y hy).2 hB57.out.size⟩)) (fun y hy => (hK4.out.ref.tg y hy).later hB47.out) (hal.out _ (fun y hy => (hK4.out.ref.tw y hy).later hB47.out)) hb8 hg8)
  have hxt8 := Lib.hid ((hua7.stays hT8 (fun i e => by rw [e]; omega)).tx)
  have hB37 := hB34.out.then (Nat.le_refl _) hB47.out
  have hgt8 : Hid (g1.Tx w8) := Lib.hid ⟨((hgtH.out.later hB37).stays hT8).1, by have h := hokx.out.l1; rw [← hgdH.out] at h; exact h⟩
  have hp8 := Lib.hid (((hp3.out.later hB34.out).later hB47.out).grown hg8 (fun e => by have := Option.some.inj e; omega))
  have hq8 := Lib.hid (((hq3.out.later hB34.out).later hB47.out).grown hg8 (fun e => by have := Option.some.inj e; omega))
  have h48 := (hb4H.out.later hB47.out).grown hg8 (fun e => by have := Option.some.inj e; omega)
  have h78 := hb7H.out.grown hg8 (fun e => by have := Option.some.inj e; omega)
  have hsg := sameWait_yes g1 gx w8 hgdH.out hgt8.out hxt8.out
  have hne : (bs != bs) = false := by simp
  clear hT8 hua7 hB37 hg8 hb8 hbo7 h127 hfar
  go_wp2_with (first
    | (refine wpList_want_blk (by rfl) tWai _ rfl _ rfl h48 _ undWai rfl infoWai ?_)
    | (refine wpList_want_blk (by rfl) tWaiR _ rfl _ rfl h78 _ undWaiR rfl infoWaiR ?_)
    | (go_at_call 16; refine hsg.mono ?_; rintro e w10 ⟨rfl, hB10⟩))
  go_meet
  exact ⟨ga, gc, Gs, a5, c5, L, _, Lib.hid ⟨hK8.out.later hB10, hone.out, hGl, by omega, hp8.out.later hB10, hq8.out.later hB10⟩⟩
set_option maxRecDepth 100000 in
set_option maxHeartbeats 20000000 in
theorem case5 (W : World) (cap : Nat) (os : List BkOp) (_hl : os.length ≤ maxLen) (h40 : ¬ 40 < os.length) :
    (split W cap os _hl h40).t5 := by
  intro hk0 hOH hErrH _ _ _ _ wr u2 u6 u7 u8 u9 u10 u11 u12 u13 u14 u15 u16 u17 u18 u19 u20 u21 u22 u23 u24 u25 u26 u27 u28 u29 u37 u38 u39 u40 u41 u42 u43 u44 u45 u46 u47 u48 u49 u50 u51 u52 u53 u54 u55 u56 u57 u58 u59 u60 u61 u62 u63 u64 u65 u66 u67 u68 u69 u70 u71 u72 u73 u74 u75 u76 u77 u78 u79 u80 u81 u82 u83 u84 u85 u86 u87 u88 u89 u90 u91 u92 u93 u94 u95 u96 u97 u98 u99 u100 u101 u102 u103 u104 u105 u106 u107 u108 u109 u110 u111 u112 u113 u114 u115 u116 u117 u118 u119 u120 u121 u122 u123 u124 u125 u126 u127 u128 u129 u130 u131 u132 u133 u134 u135 u136 u137 u138 u139 u140 u141 u142 u143 u144 u145 u146 u147 u148 u149 u150 u151 u152 u153 u154 u155 u156 u157 u158 u159 u160 u161 u162 u163 u164 u165 u166 u167 u168 u169 u170 u171 u172 u173 u174 u175 u176 u177 u178 u179 u180 u181 u182 u183 u184 u185 u186 u187 u188 u189 u190 u191 u192 u193 u194 u195 u196 u197 u198 u199 u200 u201 u202 u203 u204 u205 u206 u207 u208 u209 u210 u211 u212 u213 u214 u215 u216 u217 u218 u219 u220 u221 u222 u223 u224 u225 u226 u227 u228 u229 u230 u231 u232 u233 u234 u235 u236 u237 u238 u239 u240 u241 u242 u243 u244 u245 u246 u247 u248 u249 u250 u251 u252 u253 u254 u255 u256 u257 u258 u259 u260 u261 u262 u263 u264 u265 u266 u267 u268 u269 u270 u271 u272 u273 u274 u275 u276 u277 u278 u279 u280 u281 u282 u283 u284 u285 u286 u287 u288 u289 u290 u291 u292 u293 k ga gc Gs wa wc Ws S hk hGl hWl h1w hlt pb po hEH x hok _ _ _ wz P hPS hRP hi0 hi1 _ _ wq hHeld hK2 hp2 hcw2 hx2 Q hq2 hQS hQq hPz s1 s2 s3 p7 h300 h10a h10b hx3 hsz _ _ _ _ _ _ _ _ _ e0 e1 e2 e3 e4 e5
  have hmw := Lib.hid (sweepW_map x.g.orig Ws)
  have hlf : (Gs.filter (fun y => !orgE y.orig x.g.orig)).length ≤ Gs.length := List.length_filter_le _ _
  have hlw : ((Ws.filter (fun y => !keyW x.g.orig false y.d)).filter (fun y => !keyW x.g.orig true y.d)).length ≤ Ws.length := Nat.le_trans (List.length_filter_le _ _) (List.length_filter_le _ _)
  have hone : Hid (OneW (((Ws.filter (fun y => !keyW x.g.orig false y.d)).filter (fun y => !keyW x.g.orig true y.d)).map Wai.d)) := Lib.hid (by rw [hmw.out]; exact h1w.out.sweep _)
  have hal := Lib.hid (fun (Pr : Gra → Prop) (h1 : ∀ y ∈ Gs, Pr y) => fun y (hy : y ∈ Gs.filter (fun y => !orgE y.orig x.g.orig)) => h1 y (List.mem_filter.1 hy).1)
  have haw := Lib.hid (fun (Pr : Wai → Prop) (h1 : ∀ y ∈ Ws, Pr y) => fun y (hy : y ∈ (Ws.filter (fun y => !keyW x.g.orig false y.d)).filter (fun y => !keyW x.g.orig true y.d)) => h1 y (List.mem_filter.1 (List.mem_filter.1 hy).1).1)
  have hpuK := fun w5 hB => sweepC W.heap.size S Gs Ws x.g.orig w5 hB (by omega) (by omega)
  have hrp := refBankSweep ga gc Gs wa wc Ws x.g.orig wq hK2.out.ref.rg hK2.out.ref.rw (by omega) (by omega)
  generalize Gs.filter (fun y => !orgE y.orig x.g.orig) = L at hrp hpuK hlf hal
  generalize (Ws.filter (fun y => !keyW x.g.orig false y.d)).filter (fun y => !keyW x.g.orig true y.d) = M at hrp hpuK hmw hlw hone haw
  obtain ⟨nS, hnS⟩ : ∃ nS : Int, Hid ((Gs.length : Int) - (L.length : Int) = nS) := ⟨_, Lib.hid rfl⟩
  rw [hnS.out] at hrp
  have hbo := hK2.out.box
  have hqo := hq2.out
  go_wp2_with (first
    | (refine wpList_load_blk rfl 30 _ rfl _ rfl hbo _ undRBk rfl infoRBk ?_)
    | (refine wpList_load_blk rfl 32 _ rfl _ rfl hqo _ Tryd.underlying32 rfl infoOrgB ?_))
  refine hrp.mono ?_
  rintro e w3 ⟨⟨v3, u3, rfl, hO3, hP3⟩, hB3⟩
  obtain ⟨a3, c3, rfl, hr3, hc3, _⟩ := OwnG.shape encGra_len hO3
  obtain ⟨a4, c4, rfl, hr4, hc4, _⟩ := OwnG.shape encWai_len hP3
  have hz3 := Blk.new w3 #[.slice none 0 0, .slice none 0 0] 30
  have hbx := Lib.hid (hbo.later hB3)
  have hB3H := Lib.hid hB3
  have hO3H := Lib.hid hO3
  have hP3H := Lib.hid hP3
  have hr3H := Lib.hid hr3
  have hr4H := Lib.hid hr4
  have hs3 := hB3.size
  clear hO3 hP3 hB3 hr3 hr4 hrp hbo hqo
  go_upto_region 37 with (refine wpList_store_blk rfl 30 _ _ rfl _ rfl hz3 #[.slice a3 L.length c3, .slice a4 M.length c4] rfl (by rfl) infoRBk (by simp [Value.oneCell']) ?_; intro w4 hb4 hg4)
  have hB34 := Lib.hid (below_only ((Below.refl w3.heap.size w3).alloc (Nat.le_refl _) (.cells #[.slice none 0 0, .slice none 0 0] 30)) hg4 (by simp) (Nat.le_refl _))
  have hB24 := Lib.hid (hB3H.out.then (Nat.le_refl _) hB34.out)
  have hbx4 := hbx.out.later hB34.out
  clear hz3 hg4
  go_upto_region 38 with (first
    | (refine wpList_load_blk rfl 30 _ rfl _ rfl hb4 _ undRBk rfl infoRBk ?_)
    | (refine wpList_store_blk rfl 30 _ _ rfl _ rfl hbx4 #[.slice a3 L.length c3, .slice a4 M.length c4] rfl (by rfl) infoRBk (by simp [Value.oneCell']) ?_; intro w5 hb5 hg5))
  have hfg := own_far hO3H.out
  have hfw := own_far hP3H.out
  have hK5 := Lib.hid (hK2.out.turn hB24.out (hr3H.out.later hB34.out) (hr4H.out.later hB34.out) hc3 (.inr (fun y hy => ⟨(hfg y hy).1, Nat.lt_of_lt_of_le (hfg y hy).2 hB34.out.size⟩)) (.inr (fun y hy => ⟨(hfw y hy).1, Nat.lt_of_lt_of_le (hfw y hy).2 hB34.out.size⟩)) (hal.out _ (fun y hy => (hK2.out.ref.tg y hy).later hB24.out)) (haw.out _ (fun y hy => (hK2.out.ref.tw y hy).later hB24.out)) hb5 hg5)
  have hp5 := Lib.hid ((hp2.out.later hB24.out).grown hg5 (fun e => by have := Option.some.inj e; omega))
  have hq5 := Lib.hid ((hq2.out.later hB24.out).grown hg5 (fun e => by have := Option.some.inj e; omega))
  have hpu := hpuK w5 hK5.out.bank
  have hqo5 := hq5.out
  rw [hnS.out] at hpu
  have hne : (nS != nS) = false := by simp
  clear hb4 hbx4 hb5 hg5 hfg hfw
  go_wp2_with (refine wpList_load_blk rfl 32 _ rfl _ rfl hqo5 _ Tryd.underlying32 rfl infoOrgB ?_)
  refine hpu.mono ?_
  rintro e w6 ⟨rfl, hB6, ho6⟩
  have hK6 := Lib.hid (hK5.out.prog hB6 ho6)
  have hp6 := Lib.hid (ho6.only.blk hp5.out hPS.out)
  have hq6 := Lib.hid (ho6.only.blk hq5.out hQS.out)
  clear hpu hB6 ho6 hqo5
  go_wp2
  go_meet
  exact ⟨a3, c3, L, a4, c4, M, _, Lib.hid ⟨hK6.out, hone.out, by omega, by omega, hp6.out, hq6.out⟩⟩
set_option maxRecDepth 100000 in
set_option maxHeartbeats 20000000 in
theorem case6 (W : World) (cap : Nat) (os : List BkOp) (_hl : os.length ≤ maxLen) (h40 : ¬ 40 < os.length) :
    (split W cap os _hl h40).t6 := by
  intro hk0 hOH hErrH _ _ _ _ wr u2 u6 u7 u8 u9 u10 u11 u12 u13 u14 u15 u16 u17 u18 u19 u20 u21 u22 u23 u24 u25 u26 u27 u28 u29 u37 u38 u39 u40 u41 u42 u43 u44 u45 u46 u47 u48 u49 u50 u51 u52 u53 u54 u55 u56 u57 u58 u59 u60 u61 u62 u63 u64 u65 u66 u67 u68 u69 u70 u71 u72 u73 u74 u75 u76 u77 u78 u79 u80 u81 u82 u83 u84 u85 u86 u87 u88 u89 u90 u91 u92 u93 u94 u95 u96 u97 u98 u99 u100 u101 u102 u103 u104 u105 u106 u107 u108 u109 u110 u111 u112 u113 u114 u115 u116 u117 u118 u119 u120 u121 u122 u123 u124 u125 u126 u127 u128 u129 u130 u131 u132 u133 u134 u135 u136 u137 u138 u139 u140 u141 u142 u143 u144 u145 u146 u147 u148 u149 u150 u151 u152 u153 u154 u155 u156 u157 u158 u159 u160 u161 u162 u163 u164 u165 u166 u167 u168 u169 u170 u171 u172 u173 u174 u175 u176 u177 u178 u179 u180 u181 u182 u183 u184 u185 u186 u187 u188 u189 u190 u191 u192 u193 u194 u195 u196 u197 u198 u199 u200 u201 u202 u203 u204 u205 u206 u207 u208 u209 u210 u211 u212 u213 u214 u215 u216 u217 u218 u219 u220 u221 u222 u223 u224 u225 u226 u227 u228 u229 u230 u231 u232 u233 u234 u235 u236 u237 u238 u239 u240 u241 u242 u243 u244 u245 u246 u247 u248 u249 u250 u251 u252 u253 u254 u255 u256 u257 u258 u259 u260 u261 u262 u263 u264 u265 u266 u267 u268 u269 u270 u271 u272 u273 u274 u275 u276 u277 u278 u279 u280 u281 u282 u283 u284 u285 u286 u287 u288 u289 u290 u291 u292 u293 k ga gc Gs wa wc Ws S hk hGl hWl h1w hlt pb po hEH x hok _ _ _ wz P hPS hRP hi0 hi1 _ _ wq hHeld hK2 hp2 hcw2 hx2 Q hq2 hQS hQq hPz s1 s2 s3 p7 h300 h10a h10b hx3 hsz _ _ _ _ _ _ _ _ _ e0 e1 e2 e3 e4 e5
  go_wp2
  go_meet
  exact ⟨ga, gc, Gs, wa, wc, Ws, S, Lib.hid ⟨hK2.out, h1w.out, hGl, hWl, hp2.out, hq2.out⟩⟩
set_option maxRecDepth 100000 in
set_option maxHeartbeats 20000000 in
theorem case8 (W : World) (cap : Nat) (os : List BkOp) (_hl : os.length ≤ maxLen) (h40 : ¬ 40 < os.length) :
    (split W cap os _hl h40).t8 := by
  intro a hk0 hEH hOH hErrH _ _ _ _ wr u2 u6 u7 u8 u9 u10 u11 u12 u13 u14 u15 u16 u17 u18 u19 u20 u21 u22 u23 u24 u25 u26 u27 u28 u29 u37 u38 u39 u40 u41 u42 u43 u44 u45 u46 u47 u48 u49 u50 u51 u52 u53 u54 u55 u56 u57 u58 u59 u60 u61 u62 u63 u64 u65 u66 u67 u68 u69 u70 u71 u72 u73 u74 u75 u76 u77 u78 u79 u80 u81 u82 u83 u84 u85 u86 u87 u88 u89 u90 u91 u92 u93 u94 u95 u96 u97 u98 u99 u100 u101 u102 u103 u104 u105 u106 u107 u108 u109 u110 u111 u112 u113 u114 u115 u116 u117 u118 u119 u120 u121 u122 u123 u124 u125 u126 u127 u128 u129 u130 u131 u132 u133 u134 u135 u136 u137 u138 u139 u140 u141 u142 u143 u144 u145 u146 u147 u148 u149 u150 u151 u152 u153 u154 u155 u156 u157 u158 u159 u160 u161 u162 u163 u164 u165 u166 u167 u168 u169 u170 u171 u172 u173 u174 u175 u176 u177 u178 u179 u180 u181 u182 u183 u184 u185 u186 u187 u188 u189 u190 u191 u192 u193 u194 u195 u196 u197 u198 u199 u200 u201 u202 u203 u204 u205 u206 u207 u208 u209 u210 u211 u212 u213 u214 u215 u216 u217 u218 u219 u220 u221 u222 u223 u224 u225 u226 u227 u228 u229 u230 u231 u232 u233 u234 u235 u236 u237 u238 u239 u240 u241 u242 u243 u244 u245 u246 u247 u248 u249 u250 u251 u252 u253 u254 u255 u256 u257 u258 u259 u260 u261 u262 u263 u264 u265 u266 u267 u268 u269 u270 u271 u272 u273 u274 u275 u276 u277 u278 u279 u280 u281 u282 u283 u284 u285 u286 u287 u288 u289 u290 u291 u292 u293 k ga gc Gs wa wc Ws S hk hGl hWl h1w hK hlt
  obtain rfl : os.length = k := by omega
  have hcy := bankCopyP W.heap.size S _ _ wr hK.out.bank (by rw [List.length_map]; omega) (by rw [List.length_map]; omega)
  go_wp2_with fail
  refine hcy.mono ?_
  rintro e w2 ⟨bc, rfl, hbc, hB2⟩
  have hKy := Lib.hid (hK.out.later hB2)
  have hb0 : Below w2.heap.size w2 w2.drew := (Below.refl _ _).drew
  have hgr := fun W' (hb : Below w2.heap.size w2 W') => bankGrants bc _ _ _ W' (hbc.later hb) (by rw [List.length_map]; omega)
  have hwt := fun W' (hb : Below w2.heap.size w2 W') => bankWaits bc _ _ _ W' (hbc.later hb) (by rw [List.length_map]; omega)
  have hmk : ∀ w', Below w2.heap.size w2 w' → Below w2.heap.size w2 w' := fun w' hb => hb
  clear hcy hB2
  go_upto_region 47 with (fail)
  refine wp_region_held_drew (S := fun w' => Below w2.heap.size w2 w') (by kernel_rfl) (by (try dsimp only); exact hmk _ hb0) (fun hHeld => ?_)
  refine wpAnyH_take (i := 0) (v := ?_) rfl (by kernel_rfl) (by kernel_rfl) (by kernel_rfl) (fun _ _ _ h => h) (Or.inl ⟨by rfl, ?_⟩) (by assumption) ?_
  rotate_left
  · intro w hSw; (try dsimp only at hSw); go_simp; (try with_reducible rfl)
  (try simp only [List.getElem_toArray, List.getElem_cons_succ, List.getElem_cons_zero, Act.put, List.setIfInBounds_toArray, List.set_cons_zero, List.set_cons_succ])
  refine wpAnyH_take (i := 1) (v := ?_) rfl (by kernel_rfl) (by kernel_rfl) (by kernel_rfl) (fun _ _ _ h => h) (Or.inl ⟨by rfl, ?_⟩) (by assumption) ?_
  rotate_left
  · intro w hSw; (try dsimp only at hSw); go_simp; (try with_reducible rfl)
  (try simp only [List.getElem_toArray, List.getElem_cons_succ, List.getElem_cons_zero, Act.put, List.setIfInBounds_toArray, List.set_cons_zero, List.set_cons_succ])
  refine wpAnyH_take (i := 2) (v := ?_) rfl (by kernel_rfl) (by kernel_rfl) (by kernel_rfl) (fun _ _ _ h => h) (Or.inl ⟨by rfl, ?_⟩) (by assumption) ?_
  rotate_left
  · intro w hSw; (try dsimp only at hSw); go_simp; (try with_reducible rfl)
  (try simp only [List.getElem_toArray, List.getElem_cons_succ, List.getElem_cons_zero, Act.put, List.setIfInBounds_toArray, List.set_cons_zero, List.set_cons_succ])
  refine wpAnyH_take (i := 3) (v := ?_) rfl (by kernel_rfl) (by kernel_rfl) (by kernel_rfl) (fun _ _ _ h => h) (Or.inl ⟨by rfl, ?_⟩) (by assumption) ?_
  rotate_left
  · intro w hSw; (try dsimp only at hSw); go_simp; (try with_reducible rfl)
  (try simp only [List.getElem_toArray, List.getElem_cons_succ, List.getElem_cons_zero, Act.put, List.setIfInBounds_toArray, List.set_cons_zero, List.set_cons_succ])
  refine wpAnyH_take (i := 5) (v := ?_) rfl (by kernel_rfl) (by kernel_rfl) (by kernel_rfl) (fun _ _ _ h => h) (Or.inl ⟨by rfl, ?_⟩) (by assumption) ?_
  rotate_left
  · intro w hSw; (try dsimp only at hSw); go_simp; (try with_reducible rfl)
  (try simp only [List.getElem_toArray, List.getElem_cons_succ, List.getElem_cons_zero, Act.put, List.setIfInBounds_toArray, List.set_cons_zero, List.set_cons_succ])
  refine wpAnyH_take (i := 7) (v := .agg #[.slice ga Gs.length gc, .slice wa Ws.length wc]) rfl (by kernel_rfl) (by kernel_rfl) (by kernel_rfl) (fun _ _ _ h => h) (yieldsIf_load_mid (by rfl) 30 _ rfl (W.heap.size + 1) 0 (by rfl) [.slice ga Gs.length gc, .slice wa Ws.length wc] _ (fun w h => (hKy.out.box.later h).range) undRBk rfl infoRBk) (by assumption) ?_
  (try simp only [List.getElem_toArray, List.getElem_cons_succ, List.getElem_cons_zero, Act.put, List.setIfInBounds_toArray, List.set_cons_zero, List.set_cons_succ])
  refine wpAnyH_ready (rs := [4]) (by kernel_rfl) (by simp) ?_
  refine AllReadyH.cons rfl (fun K hK => ?_) AllReadyH.nil
  go_simp
  go_at_call 24
  refine (hgr _ hb0).mono ?_
  rintro e w3 ⟨vG, HG, rfl, hOG, hmG, hiG, hB9⟩
  obtain ⟨aG, cG, rfl, hrG, _⟩ := OwnG.shape encGra_len hOG
  have hb1 : Below w2.heap.size w2 w3 := hb0.then (Nat.le_refl _) hB9
  refine hK.out _ _ (by (try dsimp only); exact hmk _ hb1) (fun hHeld => ?_)
  clear hK K
  (try simp only [List.getElem_toArray, List.getElem_cons_succ, List.getElem_cons_zero, Act.put, List.setIfInBounds_toArray, List.set_cons_zero, List.set_cons_succ])
  refine wpAnyH_ready (rs := [6]) (by kernel_rfl) (by simp) ?_
  refine AllReadyH.cons rfl (fun K hK => ?_) AllReadyH.nil
  go_simp
  go_at_call 25
  refine (hwt _ hb1).mono ?_
  rintro e w4 ⟨vW, HW, rfl, hOW, hmW, hiW, hB8⟩
  obtain ⟨aW, cW, rfl, hrW, _⟩ := OwnG.shape encWai_len hOW
  have hb2 : Below w2.heap.size w2 w4 := hb1.then (Nat.le_refl _) hB8
  have hE1 := (gra_eq hKy.out hb1 hrG hmG hiG).later hB8
  have hE2 := wai_eq hKy.out hb2 hrW hmW hiW
  have hlG : HG.length ≤ 8 := by have := congrArg List.length hmG; simp at this; omega
  have hlW : HW.length ≤ 8 := by have := congrArg List.length hmW; simp at this; omega
  refine hK.out _ _ (by (try dsimp only); exact hmk _ hb2) (fun hHeld => ?_)
  clear hK K
  (try simp only [List.getElem_toArray, List.getElem_cons_succ, List.getElem_cons_zero, Act.put, List.setIfInBounds_toArray, List.set_cons_zero, List.set_cons_succ])
  refine wpAnyH_ready (rs := [8]) (by kernel_rfl) (by simp) ?_
  refine AllReadyH.cons rfl (fun K hK => ?_) AllReadyH.nil
  go_simp
  go_at_call 23
  refine (sameBank_yes aG ga aW wa cG gc cW wc HG Gs HW Ws _ hE1 hE2 (by omega) (by omega)).mono ?_
  rintro e w5 ⟨rfl, hB7⟩
  have hb3 : Below w2.heap.size w2 w5 := hb2.then (Nat.le_refl _) hB7
  refine hK.out _ _ (by (try dsimp only); exact hmk _ hb3) (fun hHeld => ?_)
  clear hK K
  (try simp only [List.getElem_toArray, List.getElem_cons_succ, List.getElem_cons_zero, Act.put, List.setIfInBounds_toArray, List.set_cons_zero, List.set_cons_succ])
  refine wpAnyH_take (i := 9) (v := ?_) rfl (by kernel_rfl) (by kernel_rfl) (by kernel_rfl) (fun _ _ _ h => h) (Or.inl ⟨by rfl, ?_⟩) (by assumption) ?_
  rotate_left
  · intro w hSw; (try dsimp only at hSw); go_simp; (try with_reducible rfl)
  (try simp only [List.getElem_toArray, List.getElem_cons_succ, List.getElem_cons_zero, Act.put, List.setIfInBounds_toArray, List.set_cons_zero, List.set_cons_succ])
  refine wpAnyH_take (i := 10) (v := ?_) rfl (by kernel_rfl) (by kernel_rfl) (by kernel_rfl) (fun _ _ _ h => h) (Or.inl ⟨by rfl, ?_⟩) (by assumption) ?_
  rotate_left
  · intro w hSw; (try dsimp only at hSw); go_simp; (try with_reducible rfl)
  (try simp only [List.getElem_toArray, List.getElem_cons_succ, List.getElem_cons_zero, Act.put, List.setIfInBounds_toArray, List.set_cons_zero, List.set_cons_succ])
  refine wpAnyH_done (by kernel_rfl) ?_ _
  have hKf := Lib.hid ((hKy.out.later hb3).low)
  clear hb0 hb1 hb2 hb3 hE1 hE2 hmk
  go_wp2
  go_ret
  exact ⟨rfl, hKf.out⟩
end Go.Proofs.YtchgpdgigpaloaaDoor.lawBankKeeps
