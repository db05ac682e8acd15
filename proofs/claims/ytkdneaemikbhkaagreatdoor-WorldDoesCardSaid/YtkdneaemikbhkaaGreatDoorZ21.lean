import Derived.Test.YtkdneaemikbhkaaGreatDoorZ06
import Derived.Test.YtkdneaemikbhkaaGreatDoorZ19
import Derived.Test.YtkdneaemikbhkaaGreatDoorRows
import Derived.Test.YtkdneaemikbhkaaGreatDoorChecked
import Derived.Test.YtkdneaemikbhkaaGreatDoorTie
import Derived.ClosedOfChecked
import Derived.KernelRfl
import Derived.Test.YtkdneaemikbhkaaGreatDoorCards
import Derived.WalkKit
import Derived.ProofKit
import Derived.OpenShut
import Derived.Deep.DeepHandedRow
import Derived.Lib.LaidTab
import Derived.LaidLaws
import Derived.LaidHandle
import Derived.Stop.Joined
import Derived.Lay
import Derived.MakeChecks
set_option linter.all false
set_option maxRecDepth 100000
set_option maxHeartbeats 40000000
namespace Go.Proofs.YtkdneaemikbhkaaGreatDoor
def vv:laidOutB Tryz.pinned.checked.prog=true∧mapsRowed Tryz.pinned.checked.prog=true∧Tryz.pinned.checked.prog.plainKeys=true:=
 Go.ClosedOfChecked.closed_of_checked Tryz.pinned.checked (by kernel_rfl) (by kernel_rfl) (by kernel_rfl)
end Go.Proofs.YtkdneaemikbhkaaGreatDoor
namespace Go.Proofs.YtkdneaemikbhkaaGreatDoor.lawWorldDoes
open Go.ChangeShapes Go.WideShapes Go.ChangeAt Go.RowKit Go.WideElems
def vw {H:Type} {enc:TypeId×Value→H} {C:Checked} {os:Os} {f:FuncId} {fn:Func} {s:OpenSpec} {conds:List PathCond} {apart:Bool} {laid:List (String×DataW Unit)} (modest:Bool) (w0:World) (args:Array Value) (c:w0.os=os)
  (d:(w0.forCall (λ_ _=>0) ⟨#[],args,[]⟩).Shaped C.prog)
  (a:Input.okWideB C.prog (w0.forCall (λ_ _=>0) ⟨#[],args,[]⟩) f ⟨#[],args,[]⟩=true)
  (b:s.preRow enc C.prog fn conds apart laid (w0.forCall (λ_ _=>0) ⟨#[],args,[]⟩).memory args):
  ∃(w:World) (tape:Tape) (i:Input),w.os=os∧(w.forCall tape i).Shaped C.prog∧i.vars=[]∧Input.okWide C.prog (w.forCall tape i) .any w.heap.size f i ∧
   s.preRow enc C.prog fn conds apart laid (w.forCall tape i).memory i.args∧({modest:=modest}:Assume).holds C.prog (lone (Frame.enter C.prog f i.args .normal) [] (w.forCall tape i)):=
 ⟨w0,λ_ _=>0,⟨#[],args,[]⟩,c,d,(Input.okWide_of_okWideB (base:=0) a).1,(Input.okWide_of_okWideB a).2,b,by
  simp only[Assume.holds]
  exact⟨by simp,by simp,λ_=>Modest.zero,by simp,by simp⟩⟩
noncomputable def adp (os:Os):World:=World.laidAll Tryz.prog os Rows.worldDoesRow.laid
def VC(os:Os)(args:Array Value):laidMetH Tryz.prog Rows.worldDoesRow.laid ((adp os).forCall (λ_ _=>0) ⟨#[],args,[]⟩).memory:=by rw[MakeChecks.laidMetH_plain _ _ _ (by kernel_rfl)];exact laidMet_laidAll _ (by kernel_rfl) (by kernel_rfl)
def Su:DataW Unit→List Value
 |.lit (.int k z)=>[.int k z]
 |.agg l=>l.flatMap λx=>match x with
  |.lit (.int k z)=>[Value.int k z]
  |_=>[]
 |_=>[]
def agG:DataW Unit→Array Value
 |.agg l=>(l.flatMap Su).toArray
 |_=>#[]
noncomputable def amD (g:Nat) (d:DataW Unit) (h:Array Obj):Array Obj:=h.modify g fun
 |.cells _ t frozen=>.cells (agG d) t frozen
 |o=>o
def oo {W : World} (h : laidMetH Tryz.prog Rows.worldDoesRow.laid W) : laidMet Tryz.prog [("math/bits.deBruijn32tab", Rows.laid_math_bits_deBruijn32tab), ("math/bits.deBruijn64tab", Rows.laid_math_bits_deBruijn64tab), ("internal/strconv.uint64pow10", Rows.laid_internal_strconv_uint64pow10), ("unicode/utf8.acceptRanges", Rows.laid_unicode_utf8_acceptRanges), ("gatepost/api.Sines", Rows.laid_gatepost_api_Sines), ("gatepost/api.Roots", Rows.laid_gatepost_api_Roots), ("gatepost/api.Begin", Rows.laid_gatepost_api_Begin), ("strconv.ErrRange", Rows.laid_strconv_ErrRange), ("strconv.ErrSyntax", Rows.laid_strconv_ErrSyntax), ("gatepost/sum.turns", Rows.laid_gatepost_sum_turns), ("unicode.CaseRanges", Rows.laid_unicode_CaseRanges), ("unicode/utf8.first", Rows.laid_unicode_utf8_first)] W := h
def oS {W:World} {n:String} {d:DataW Unit}:∀{l:List (String×DataW Unit)} {ps:List MemPlace},DataW.LaidVars Tryz.prog W l ps→(n,d)∈l →
  ∃g t cs fuel p,Tryz.prog.globalNamed n=some g∧(Tryz.prog.globals[g]?).map (·.type)=some t∧W.var? Tryz.prog n=some cs∧DataW.trod (λ_=>()) Tryz.prog W 0 (λ_=>true) false fuel t cs.toList=some (d,p)
 |[],_,_,hm=>by cases hm
 |(j,k)::r,ps,h,hm=>by
  obtain⟨g,t,cs,fuel,p,q,a,b,c,f,i,_⟩:=h
  rcases List.mem_cons.1 hm with e|e
  ·cases e
   exact⟨g,t,cs,fuel,p,a,b,c,f⟩
  ·exact oS i e
def agH:(Rows.laid_internal_strconv_uint64pow10:DataW Unit)=Lib.tabData .u64 Lib.pow10Tab:=by rfl
def Mg{W:World}(h:laidMetH Tryz.prog Rows.worldDoesRow.laid W):yJ W:=by obtain⟨ps,i,_⟩:=oo h;obtain ⟨j, k, cs, fuel, p, e, f, b, g⟩ := oS (n := "internal/strconv.uint64pow10") (d := Rows.laid_internal_strconv_uint64pow10) i (by simp);obtain rfl:=Option.some.inj (YA.symm.trans e);obtain rfl:=Option.some.inj ((show(Tryz.prog.globals[8]?).map (·.type)=some 372 by kernel_rfl).symm.trans f);rw[agH] at g;unfold yJ Lib.TabIs;rw[b,←Lib.cells_of_tab Tryz.underlying372 Tryz.underlying318 (by kernel_rfl) (by kernel_rfl) g]
def adq:List Int:=Su Rows.laid_math_bits_deBruijn64tab|>.map λv=>match v with
 |.int _ z=>z
 |_=>0
def agI:(Rows.laid_math_bits_deBruijn64tab:DataW Unit)=Lib.tabData .u8 adq:=by rfl
def ads : Tryz.prog.globalNamed "math/bits.deBruijn64tab" = some 12 := by kernel_rfl
def Mh{W:World}(h:laidMetH Tryz.prog Rows.worldDoesRow.laid W):Dh W:=by obtain⟨ps,i,_⟩:=oo h;obtain ⟨j, k, cs, fuel, p, c, e, b, f⟩ := oS (n := "math/bits.deBruijn64tab") (d := Rows.laid_math_bits_deBruijn64tab) i (by simp);obtain rfl:=Option.some.inj (ads.symm.trans c);obtain rfl:=Option.some.inj ((show(Tryz.prog.globals[12]?).map (·.type)=some 401 by kernel_rfl).symm.trans e);rw[agI] at f;have g : Lib.TabIs Tryz.prog W "math/bits.deBruijn64tab" .u8 adq := (by unfold Lib.TabIs;rw[b,←Lib.cells_of_tab Tryz.underlying401 Tryz.underlying5 (by kernel_rfl) (by kernel_rfl) f]);exact⟨Lib.TabIs.cell g ads 1 (by decide +kernel),Lib.TabIs.cell g ads 15 (by decide +kernel)⟩
def Sv : Tryz.prog.globalNamed "gatepost/api.Sines" = some 3 := by kernel_rfl
def DE{W:World}(h:laidMetH Tryz.prog Rows.worldDoesRow.laid W):∀i,i<64→W.cell? ⟨3,i,none⟩=some (.int .u32 (fi.getD i 0:Nat)):=by obtain⟨ps,l,_⟩:=oo h;obtain ⟨o, q, cs, fuel, p, e, f, c, j⟩ := oS (n := "gatepost/api.Sines") (d := Rows.laid_gatepost_api_Sines) l (by simp);obtain rfl:=Option.some.inj (Sv.symm.trans e);obtain rfl:=Option.some.inj ((show(Tryz.prog.globals[3]?).map (·.type)=some 331 by kernel_rfl).symm.trans f);rw[UB] at j;have m : Lib.TabIs Tryz.prog W "gatepost/api.Sines" .u32 (fi.map λ(n : Nat) => (n : Int)) := (by unfold Lib.TabIs;rw[c,←Lib.cells_of_tab Tryz.underlying331 Tryz.underlying325 (by kernel_rfl) (by kernel_rfl) j]);intro i k;rw[Lib.TabIs.cell m Sv i (by rw[List.length_map,B2];exact k),tF _ _ (by rw[B2];exact k)]
def Sw : Tryz.prog.globalNamed "gatepost/sum.turns" = some 5 := by kernel_rfl
def DF{W:World}(h:laidMetH Tryz.prog Rows.worldDoesRow.laid W):∀i,i<16→W.cell? ⟨5,i,none⟩=some (.int .i64 (yb.getD i 0:Nat)):=by obtain⟨ps,j,_⟩:=oo h;obtain ⟨l, m, cs, fuel, p, c, e, b, f⟩ := oS (n := "gatepost/sum.turns") (d := Rows.laid_gatepost_sum_turns) j (by simp);obtain rfl:=Option.some.inj (Sw.symm.trans c);obtain rfl:=Option.some.inj ((show(Tryz.prog.globals[5]?).map (·.type)=some 353 by kernel_rfl).symm.trans e);rw[UC] at f;have k : Lib.TabIs Tryz.prog W "gatepost/sum.turns" .i64 (yb.map λ(n : Nat) => (n : Int)) := (by unfold Lib.TabIs;rw[b,←Lib.cells_of_tab Tryz.underlying353 Tryz.underlying3 (by kernel_rfl) (by kernel_rfl) f]);intro i g;rw[Lib.TabIs.cell k Sw i (by rw[List.length_map,B3];exact g),tF _ _ (by rw[B3];exact g)]
def Sx : Tryz.prog.globalNamed "gatepost/api.Roots" = some 2 := by kernel_rfl
def DG{W:World}(h:laidMetH Tryz.prog Rows.worldDoesRow.laid W):∀i,i<64→W.cell? ⟨2,i,none⟩=some (.int .u32 (fu.getD i 0:Nat)):=by obtain⟨ps,l,_⟩:=oo h;obtain ⟨o, q, cs, fuel, p, e, f, c, j⟩ := oS (n := "gatepost/api.Roots") (d := Rows.laid_gatepost_api_Roots) l (by simp);obtain rfl:=Option.some.inj (Sx.symm.trans e);obtain rfl:=Option.some.inj ((show(Tryz.prog.globals[2]?).map (·.type)=some 331 by kernel_rfl).symm.trans f);rw[UE] at j;have m : Lib.TabIs Tryz.prog W "gatepost/api.Roots" .u32 (fu.map λ(n : Nat) => (n : Int)) := (by unfold Lib.TabIs;rw[c,←Lib.cells_of_tab Tryz.underlying331 Tryz.underlying325 (by kernel_rfl) (by kernel_rfl) j]);intro i k;rw[Lib.TabIs.cell m Sx i (by rw[List.length_map,B4];exact k),tF _ _ (by rw[B4];exact k)]
def Sy : Tryz.prog.globalNamed "gatepost/api.Begin" = some 1 := by kernel_rfl
def DH{W:World}(h:laidMetH Tryz.prog Rows.worldDoesRow.laid W):∀i,i<8→W.cell? ⟨1,i,none⟩=some (.int .u32 (lU.getD i 0:Nat)):=by obtain⟨ps,l,_⟩:=oo h;obtain ⟨o, q, cs, fuel, p, e, f, c, j⟩ := oS (n := "gatepost/api.Begin") (d := Rows.laid_gatepost_api_Begin) l (by simp);obtain rfl:=Option.some.inj (Sy.symm.trans e);obtain rfl:=Option.some.inj ((show(Tryz.prog.globals[1]?).map (·.type)=some 326 by kernel_rfl).symm.trans f);rw[UF] at j;have m : Lib.TabIs Tryz.prog W "gatepost/api.Begin" .u32 (lU.map λ(n : Nat) => (n : Int)) := (by unfold Lib.TabIs;rw[c,←Lib.cells_of_tab Tryz.underlying326 Tryz.underlying325 (by kernel_rfl) (by kernel_rfl) j]);intro i k;rw[Lib.TabIs.cell m Sy i (by rw[List.length_map,B5];exact k),tF _ _ (by rw[B5];exact k)]
def alC (os:Os) {H:Type} (enc:TypeId×Value→H):(DataW.whole enc Tryz.prog ((adp os).forCall (λ_ _=>0) ⟨#[],#[.slice none 0 0],[]⟩).memory Tryz.f3.params.toList Rows.worldDoesSpec.vars false #[.slice none 0 0].toList 8).isSome=true:=by kernel_rfl
def agJ:joinedFacts Tryz.pinned.checked.prog 3 Tryz.f3 (OpenSpec.ofChange Rows.worldDoesSpec).bare Rows.worldDoesRow=true:=by unfold joinedFacts;(repeat' (first|(with_reducible refine Bool.and_eq_true_iff.2 ⟨?_,?_⟩)));all_goals first|(with_reducible exact vv.1)|(with_reducible exact vv.2.1)|(rw[vv.2.2];rfl)|(as_aux_lemma=>kernel_rfl)
def alD(f:FuncId)(fn:Func)(d:Tryz.pinned.checked.prog.funcNamed Rows.worldDoesRow.func=some f)(b:Tryz.pinned.checked.prog.funcs[f]?=some fn):true=Tryz.pinned.checked.prog.looks []∧∀(j:Nat) t,fn.params[j]?=some t→Tryz.pinned.checked.prog.wantsStandIn t=false:=by obtain rfl:f=3:=Option.some.inj ((show Tryz.prog.funcNamed Rows.worldDoesRow.func=some 3 by kernel_rfl).symm.trans d)|>.symm;obtain rfl:fn=Tryz.f3:=(Option.some.inj (Tryz.func3.symm.trans b)).symm;refine⟨by kernel_rfl,λj t c=>?_⟩;rw[Tryz.params3] at c;have hm:=Array.mem_of_getElem? c;simp only[List.mem_toArray,List.mem_cons,List.not_mem_nil,or_false] at hm;have a:[22].all (λt=>Tryz.prog.wantsStandIn t==false)=true:=(by kernel_rfl);exact beq_iff_eq.1 (List.all_eq_true.1 a t (by simpa using hm))
end Go.Proofs.YtkdneaemikbhkaaGreatDoor.lawWorldDoes
