/- The reference's bank: Asked. -/
import Derived.Test.YtchgpdgigpaloaaDoorRbB
namespace Go.Proofs.YtchgpdgigpaloaaDoor
set_option linter.unusedSimpArgs false
open Go.RowKit Go.Deep
theorem rngWR {w : World} {q : Nat} {g : Wai} {T : TypeId} (h : Blk w q g.arr T) : w.rangeAt q 0 [.bool g.orig.sec, .string g.orig.host, .int .i64 g.orig.port] := fun j v hv => by
  match j, hv with
  | 0, hv => cases hv; exact h.cell 0 rfl
  | 1, hv => cases hv; exact h.cell 1 rfl
  | 2, hv => cases hv; exact h.cell 2 rfl
/-- the bank that is left: what is waited for in a row of the call's own -/
def RbW (l : List Wai) (ga : Option Addr) (gn gc : Nat) (w : World) (e : Ending) (w' : World) : Prop := (∃ v, e = .returned (.agg #[.slice ga gn gc, v]) ∧ OwnG tWaiR 13 encWai w' w.heap.size v l) ∧ Below w.heap.size w w'
set_option maxRecDepth 100000 in
set_option maxHeartbeats 4000000 in
theorem refBankAsked (ga : Option Addr) (gn gc : Nat) (a : Option Addr) (cap : Nat) (Ws : List Wai) (x : Wai) (w : World) (hS : RowAt 13 encWai w a Ws) (hl : Ws.length ≤ 100000) :
    Calls Tryd.prog 13 #[.agg #[.slice ga gn gc, .slice a Ws.length cap], .agg x.arr] w (RbW (lastB 8 (Ws.filter (fun y => !keyW x.orig x.proxy y.d) ++ [x])) ga gn gc w) := by
  have hal : Below w.heap.size w (((w.alloc (.cells #[.slice ga gn gc, .slice a Ws.length cap] tRBk)).alloc (.cells x.arr tWaiR)).alloc (.cells #[.slice none 0 0, .slice none 0 0] tRBk)) := ((((Below.refl w.heap.size w).alloc (by simp; try omega) (.cells #[.slice ga gn gc, .slice a Ws.length cap] tRBk)).alloc (by simp; try omega) (.cells x.arr tWaiR)).alloc (by simp; try omega) (.cells #[.slice none 0 0, .slice none 0 0] tRBk))
  have hbk := (((Blk.new w #[.slice ga gn gc, .slice a Ws.length cap] tRBk).alloc (.cells x.arr tWaiR)).alloc (.cells #[.slice none 0 0, .slice none 0 0] tRBk))
  have hx := ((Blk.new (w.alloc (.cells #[.slice ga gn gc, .slice a Ws.length cap] tRBk)) x.arr tWaiR).alloc (.cells #[.slice none 0 0, .slice none 0 0] tRBk))
  have hz := (Blk.new ((w.alloc (.cells #[.slice ga gn gc, .slice a Ws.length cap] tRBk)).alloc (.cells x.arr tWaiR)) #[.slice none 0 0, .slice none 0 0] tRBk)
  simp only [World.size_alloc] at hx hz
  have hsmK := fun w5 hS => refBankTake ga gn gc a cap Ws x.orig x.proxy w5 hS hl
  have hlf : (Ws.filter (fun y => !keyW x.orig x.proxy y.d)).length ≤ Ws.length := List.length_filter_le _ _
  generalize Ws.filter (fun y => !keyW x.orig x.proxy y.d) = l2 at hsmK hlf ⊢
  have hl1 : l2.length + 1 ≤ maxLen := by unfold maxLen; omega
  have hl2 : (l2.length + 1) * 168 ≤ 140737488355328 := by omega
  have hl4 : (l2 ++ [x]).length ≤ 1048576 := by rw [List.length_append]; have : [x].length = 1 := rfl; omega
  obtain ⟨l29, hl29⟩ : ∃ l29, Hid (l29 = l2 ++ [x]) := ⟨_, Lib.hid rfl⟩
  rw [← hl29.out] at hl4 ⊢
  obtain ⟨l3, hl3⟩ : ∃ l3, Hid (l3 = lastB 8 l29) := ⟨_, Lib.hid rfl⟩
  rw [← hl3.out]
  go_enter Tryd.func13, Tryd.ntmps13
  go_upto_region 1 with (fail)
  generalize (((w.alloc (.cells #[.slice ga gn gc, .slice a Ws.length cap] tRBk)).alloc (.cells x.arr tWaiR)).alloc (.cells #[.slice none 0 0, .slice none 0 0] tRBk)) = w5 at hal hbk hx hz ⊢
  have hsm := hsmK w5 (hS.later hal)
  have hro := rngWR hx
  have k3 : _ = some (Value.bool x.proxy) := hx.cell 3 rfl
  have halH := Lib.hid hal
  have hzl := hz.lt
  clear hS hal hsmK
  go_wp2_with (first
    | (refine wpList_load_blk rfl tRBk _ rfl _ rfl hbk _ undRBk rfl infoRBk ?_)
    | (refine wpList_load_mid rfl 32 _ rfl (w.heap.size + 1) 0 rfl [.bool x.orig.sec, .string x.orig.host, .int .i64 x.orig.port] _ hro Tryd.underlying32 rfl infoOrgB ?_))
  refine hsm.mono ?_
  rintro e w6 ⟨⟨v, rfl, hO⟩, hB6⟩
  obtain ⟨a2, c2, rfl, _⟩ := OwnG.shape encWai_len hO
  have hbk6 := hbk.later hB6
  have hx6 := hx.later hB6
  have hz6 := hz.later hB6
  have hB06 := Lib.hid (halH.out.then (Nat.le_refl _) hB6)
  have hs56 := hB6.size
  have hOh := Lib.hid hO
  clear hO hB6 hsm k3 hro hbk hz hx
  go_upto_region 2 with (refine wpList_store_blk rfl tRBk _ _ rfl _ rfl hbk6 #[.slice ga gn gc, .slice a2 l2.length c2] rfl rfl infoRBk (by simp [Value.oneCell']) ?_; intro w7 hb7 hg7)
  have hz7 := hz6.grown hg7 (fun e => by have := Option.some.inj e; omega)
  have hx7 := hx6.grown hg7 (fun e => by have := Option.some.inj e; omega)
  have hO7 := hOh.out.past hg7 (by omega)
  have hO7H := Lib.hid hO7
  have hB07 := Lib.hid (below_only hB06.out hg7 hB06.out.size (Nat.le_refl _))
  have hs5 : w5.heap.size ≤ w7.heap.size := Nat.le_trans hs56 hg7.size
  have c0 : _ = some (Value.slice a2 l2.length c2) := hb7.cell 1 rfl
  have hb7H := Lib.hid hb7
  have hz7H := Lib.hid hz7
  clear hz6 hx6 hbk6 hg7 hb7 hz7
  go_wp2_with (first
    | (refine wpList_load_blk rfl tWaiR _ rfl _ rfl hx7 _ undWaiR rfl infoWaiR ?_)
    | (at_builtin; refine wpList_append_one wholeLV Tryd.underlying28 (by rfl) (by decide) encWai_len (by rfl) _ _ (by rfl) w7 w5.heap.size (.slice a2 l2.length c2) l2 (by rfl) hO7 x (encWai_one _) _ (by rfl) _ (by rfl) (by rfl) hl1 hl2 hs5 ?_; intro v9 w9 hO9 hG9 hne9; rw [← hl29.out] at hO9; obtain ⟨a9, c9, rfl, _⟩ := OwnG.shape encWai_len hO9; clear hne9 hx7 c0))
  have hb9 := (hb7H.out.alloc (.cells x.arr tWaiR)).grown hG9 (fun e => by have := (hO7H.out.lt _ e).1; omega)
  have hz9 := (hz7H.out.alloc (.cells x.arr tWaiR)).grown hG9 (fun e => by have := (hO7H.out.lt _ e).1; omega)
  have hB09 := Lib.hid (below_append hB07.out (hO7H.out.base (B' := w.heap.size) (fun k e => by have := (hO7H.out.lt k e).1; omega)) hG9 hB07.out.size)
  have hs9 : w5.heap.size ≤ w9.heap.size := by have := hG9.size; simp at this; omega
  have hla := lastOfV 8 w5.heap.size _ l29 w9 hO9 hs9 hl4 (by decide)
  rw [show ((8 : Nat) : Int) = 8 from rfl] at hla
  clear hO7 hO9 hG9
  go_wp2_with fail
  refine hla.mono ?_
  rintro e w10 ⟨⟨v10, rfl, hO10⟩, hB10⟩
  rw [← hl3.out] at hO10
  obtain ⟨a10, c10, rfl, _⟩ := OwnG.shape encWai_len hO10
  have hb10 := hb9.later hB10
  have hz10 := Lib.hid (hz9.later hB10)
  have hB010 := Lib.hid (hB09.out.then (Nat.le_refl _) hB10)
  have hO10h := Lib.hid hO10
  clear hO10 hB10 hla hb9 hz9
  go_upto_region 3 with (refine wpList_store_cell rfl _ _ _ (by rfl) w.heap.size 1 (by rfl) hb10 (by decide : 1 < 2) (.slice a10 l3.length c10) (by rfl) (by rfl) (by rfl) infoWaitsR ?_; intro w11 hb11 hg11)
  have hb11' : Blk w11 w.heap.size #[.slice ga gn gc, .slice a10 l3.length c10] tRBk := hb11
  have hz11 := hz10.out.grown hg11 (fun e => by have := Option.some.inj e; omega)
  have hO11 := Lib.hid (hO10h.out.past hg11 (by omega))
  have hB011 := Lib.hid (below_only hB010.out hg11 hB010.out.size (Nat.le_refl _))
  clear hb11 hb10 hg11
  go_wp2_with (first
    | (refine wpList_load_blk rfl tRBk _ rfl _ rfl hb11' _ undRBk rfl infoRBk ?_)
    | (refine wpList_store_blk rfl tRBk _ _ rfl _ rfl hz11 #[.slice ga gn gc, .slice a10 l3.length c10] rfl rfl infoRBk (by simp [Value.oneCell']) ?_; intro w12 hb12 hg12))
  refine bodyPost_ret (v := .agg #[.slice ga gn gc, .slice a10 l3.length c10]) ?_ rfl ?_
  · exact results_cell1 4 tRBk (w.heap.size + 1 + 1) Tryd.results13 rfl (loadG_blk hb12 undRBk rfl infoRBk)
  · have hO12 := hO11.out.past hg12 (by omega)
    exact ⟨⟨_, rfl, hO12.base (fun g e => Nat.le_trans halH.out.size (hO12.lt g e).1)⟩, below_only hB011.out hg12 hB011.out.size (by omega)⟩
end Go.Proofs.YtchgpdgigpaloaaDoor
