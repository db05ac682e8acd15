/- The program's bank, told by the reference's lists. -/
import Derived.Test.YtchgpdgigpaloaaDoorBankQ
namespace Go.Proofs.YtchgpdgigpaloaaDoor
set_option linter.unusedSimpArgs false
open Go.RowKit Go.Deep
theorem putC (b : Nat) (S : Nat → Prop) (Gs : List Gra) (ws : List WaiD) (g : Gra) (w : World) (hB : BankR w b S (Gs.map Gra.d) ws) (hl : Gs.length ≤ 1000) (hok : g.d.Ok)
    (htx : ∀ W, OnlyT S w W → StrAt W g.ask.addr g.ask.d.domain ∧ StrAt W g.addr g.paths) :
    Calls Tryd.prog 4 #[.pointer (some ⟨b, 0, none⟩), .agg g.arr] w fun e w' => e = .returned (.tuple #[]) ∧ BankR w' b (grow S w w') ((lastB 8 (Gs.filter (fun x => !keyG g.orig g.proxy g.ask.d.realm x.d) ++ [g])).map Gra.d) ws ∧ OnlyT S w w' := by
  rw [put_map]
  exact bankPutP b S _ ws g w hB (by rw [List.length_map]; exact hl) hok htx
theorem dropC (b : Nat) (S : Nat → Prop) (Gs : List Gra) (ws : List WaiD) (o : Org) (p : Bool) (r : ByteArray) (w : World) (hB : BankR w b S (Gs.map Gra.d) ws) (hl : Gs.length ≤ 100000) :
    Calls Tryd.prog 11 #[.pointer (some ⟨b, 0, none⟩), .agg (orgArr o), .bool p, .string r] w fun e w' => e = .returned (.bool (decide ((Gs.filter (fun x => !keyG o p r x.d)).length < Gs.length))) ∧ BankR w' b (grow S w w') ((Gs.filter (fun x => !keyG o p r x.d)).map Gra.d) ws ∧ OnlyT S w w' := by
  refine (bankDropP b S _ ws o p r w hB (by rw [List.length_map]; exact hl)).mono ?_
  rintro e w' ⟨rfl, h1, h2⟩
  rw [drop_map]
  refine ⟨?_, h1, h2⟩
  rw [← drop_map, List.length_map, List.length_map]
theorem useC (b : Nat) (S : Nat → Prop) (Gs : List Gra) (ws : List WaiD) (o : Org) (p : Bool) (path : ByteArray) (w : World) (hB : BankR w b S (Gs.map Gra.d) ws) (hl : Gs.length ≤ 1000) :
    Calls Tryd.prog 6 #[.pointer (some ⟨b, 0, none⟩), .agg (orgArr o), .bool p, .string path] w fun e w' => ∃ g' : Gra, GotG (rbUse o p path Gs).2.1.d w w' g' ∧ e = .returned (.tuple #[.agg g'.arr, errV (rbUse o p path Gs).2.2]) ∧ BankR w' b (grow S w w') ((rbUse o p path Gs).1.map Gra.d) ws ∧ OnlyT S w w' := by
  obtain ⟨hm1, hm2, hm3⟩ := use_map o p path Gs
  rw [hm1, hm2, hm3]
  exact bankUseP b S _ ws o p path w hB (by rw [List.length_map]; exact hl)
theorem askedC (b : Nat) (S : Nat → Prop) (gs : List GraD) (Ws : List Wai) (x : Wai) (w : World) (hB : BankR w b S gs (Ws.map Wai.d)) (hl : gs.length ≤ 100000) (hl2 : Ws.length ≤ 1000) (h1w : OneW (Ws.map Wai.d)) (hok : x.d.Ok)
    (htx : ∀ W, OnlyT S w W → StrAt W x.ask.addr x.ask.d.domain) :
    Calls Tryd.prog 12 #[.pointer (some ⟨b, 0, none⟩), .agg x.arr] w fun e w' => e = .returned (.tuple #[]) ∧ BankR w' b (grow S w w') gs ((lastB 8 (Ws.filter (fun y => !keyW x.orig x.proxy y.d) ++ [x])).map Wai.d) ∧ OnlyT S w w' := by
  rw [asked_map]
  exact bankAskedP b S gs _ x w hB hl (by rw [List.length_map]; exact hl2) h1w hok htx
theorem takeC (b : Nat) (S : Nat → Prop) (gs : List GraD) (Ws : List Wai) (o : Org) (p : Bool) (w : World) (hB : BankR w b S gs (Ws.map Wai.d)) (hl : gs.length ≤ 100000) (hl2 : Ws.length ≤ 100000) (h1w : OneW (Ws.map Wai.d)) :
    Calls Tryd.prog 14 #[.pointer (some ⟨b, 0, none⟩), .agg (orgArr o), .bool p] w fun e w' => ∃ x : Wai, x.d = ((lastW o p Ws).getD zeroWai).d ∧ e = .returned (.tuple #[.agg x.arr, .bool (lastW o p Ws).isSome]) ∧ TxtAt w' x.ask.addr x.ask.d.domain ∧ BankR w' b (grow S w w') gs ((Ws.filter (fun x => !keyW o p x.d)).map Wai.d) ∧ OnlyT S w w' := by
  have hg := lastW_map o p Ws h1w
  refine (bankTakeP b S gs _ o p w hB hl (by rw [List.length_map]; exact hl2) h1w).mono ?_
  rintro e w' ⟨x, h1, rfl, h2, h3, h4⟩
  rw [takeW_map]
  rw [← hg] at h1 ⊢
  refine ⟨x, ?_, ?_, h2, h3, h4⟩
  · rw [h1]; cases lastW o p Ws <;> rfl
  · cases lastW o p Ws <;> rfl
theorem sweepC (b : Nat) (S : Nat → Prop) (Gs : List Gra) (Ws : List Wai) (o : Org) (w : World) (hB : BankR w b S (Gs.map Gra.d) (Ws.map Wai.d)) (hl : Gs.length ≤ 100000) (hl2 : Ws.length ≤ 100000) :
    Calls Tryd.prog 18 #[.pointer (some ⟨b, 0, none⟩), .agg (orgArr o)] w fun e w' => e = .returned (.int .i64 ((Gs.length : Int) - ((Gs.filter (fun x => !orgE x.orig o)).length : Int))) ∧ BankR w' b (grow S w w') ((Gs.filter (fun x => !orgE x.orig o)).map Gra.d) (((Ws.filter (fun x => !keyW o false x.d)).filter (fun x => !keyW o true x.d)).map Wai.d) ∧ OnlyT S w w' := by
  refine (bankSweepP b S _ _ o w hB (by rw [List.length_map]; exact hl) (by rw [List.length_map]; exact hl2)).mono ?_
  rintro e w' ⟨rfl, h1, h2⟩
  rw [sweepG_map, sweepW_map]
  refine ⟨?_, h1, h2⟩
  rw [← sweepG_map, List.length_map, List.length_map]
theorem getC (b : Nat) (S : Nat → Prop) (Gs : List Gra) (ws : List WaiD) (o : Org) (p : Bool) (r : ByteArray) (w : World) (hB : BankR w b S (Gs.map Gra.d) ws) (hl : Gs.length ≤ 100000) :
    Calls Tryd.prog 22 #[.pointer (some ⟨b, 0, none⟩), .agg (orgArr o), .bool p, .string r] w fun e w' => ∃ g' : Gra, GotG ((Gs.find? (fun x => keyG o p r x.d)).getD zeroGra).d w w' g' ∧ e = .returned (.tuple #[.agg g'.arr, .bool (Gs.find? (fun x => keyG o p r x.d)).isSome]) ∧ Below w.heap.size w w' := by
  refine (bankGetP b S _ ws o p r w hB (by rw [List.length_map]; exact hl)).mono ?_
  rintro e w' ⟨g', h1, rfl, h2⟩
  rw [← get_map] at h1 ⊢
  refine ⟨g', ?_, ?_, h2⟩
  · revert h1; cases Gs.find? (fun x => keyG o p r x.d) <;> exact id
  · cases Gs.find? (fun x => keyG o p r x.d) <;> rfl
end Go.Proofs.YtchgpdgigpaloaaDoor
