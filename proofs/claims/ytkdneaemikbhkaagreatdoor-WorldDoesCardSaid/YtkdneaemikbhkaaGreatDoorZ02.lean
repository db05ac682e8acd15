import Derived.Deep.RegionHeld3
import Derived.Below
import Derived.Calls
import Derived.Test.YtkdneaemikbhkaaGreatDoorProg
set_option linter.all false
set_option maxRecDepth 100000
set_option maxHeartbeats 40000000
namespace Go.Proofs.YtkdneaemikbhkaaGreatDoor
open _root_.Go.Proofs.Tryz
open Go Go.RowKit
theorem pT:(∀(α:Type) (l:List α) (i:Nat) (h:i<l.toArray.size),l.toArray[i]=l[i]'(by simpa using h))∧(∀(α:Type) (v:α) (l:List α) (i:Nat) (h:i+1<(v::l).length),(v::l)[i+1]=l[i]'(by simpa using h))∧(∀(α:Type) (v:α) (l:List α) (h:0<(v::l).length),(v::l)[0]=v)∧(∀(α:Type) (l:List α) (i:Nat) (v:α),l.toArray.setIfInBounds i v=(l.set i v).toArray)∧(∀(α:Type) (v u:α) (l:List α),(v::l).set 0 u=u::l)∧(∀(α:Type) (v u:α) (l:List α) (i:Nat),(v::l).set (i+1) u=v::l.set i u):=⟨fun _ _ _ _=>rfl,fun _ _ _ _ _=>rfl,fun _ _ _ _=>rfl,fun _ l i v=>by simp,fun _ _ _ _=>rfl,fun _ _ _ _ _=>rfl⟩
section
variable {P:Program} {md:Region.Mode} {ops:Array Oper} {Q:Exit→Act→World→Prop} {S:World→Prop} {fuel:Nat} {listed:Array Bool} {a:Act} {w:World}
theorem tK (i:Nat) {oi:Oper} {v:Value} {b:Act} (h:wpAnyH P md ops Q S fuel (listed.setIfInBounds i true) b w) (hi:ops[i]?=some oi:=by rfl) (hs:Region.noSelect ops=true:=by kernel_rfl) (hf:Region.free md ops listed i=true:=by kernel_rfl) (hr:(Region.ready md ops listed).contains i=true:=by kernel_rfl) (hQ:∀c a w,Q (.panic c) (a.put oi.dst v) w→Q (.panic c) a w:=by exact fun _ _ _ h=>h) (hw:Region.wanted oi (yielded ops a.tmps)=true:=by rfl) (hy:∀w,S w→(execOp a.eval oi).run P w=.ok (.value v) w:=by (intro w hSw;(try dsimp only at hSw);go_simp;(try with_reducible rfl))) (hS:S w:=by assumption) (hb:a.put oi.dst v=b:=by ((try simp only[List.getElem_toArray,List.getElem_cons_succ,List.getElem_cons_zero,Act.put,List.setIfInBounds_toArray,List.set_cons_zero,List.set_cons_succ])<;> exact rfl)):wpAnyH P md ops Q S (fuel+1) listed a w:=wpAnyH_take hi hs hf hr hQ (Or.inl ⟨hw,hy⟩) hS (hb▸h)
theorem tL (i:Nat) (v:Array Value) (b o:Nat) (cs:List Value) {oi:Oper} {ty:TypeId} {x:Operand} {d:TypeDesc} {c:Act} (hg:∀w,S w→w.rangeAt b o cs) (hu:P.underlying ty=some d) (hz:(P.info? ty).map (·.size)=some cs.length) (h:wpAnyH P md ops Q S fuel (listed.setIfInBounds i true) c w) (hv:cs.toArray=v:=by rfl) (hi:ops[i]?=some oi:=by rfl) (hs:Region.noSelect ops=true:=by kernel_rfl) (hf:Region.free md ops listed i=true:=by kernel_rfl) (hr:(Region.ready md ops listed).contains i=true:=by kernel_rfl) (hQ:∀c a w,Q (.panic c) (a.put oi.dst (.agg v)) w→Q (.panic c) a w:=by exact fun _ _ _ h=>h) (hw:Region.wanted oi (yielded ops a.tmps)=true:=by rfl) (ho:oi.op=.load ty x:=by rfl) (hx:a.eval x=.pointer (some ⟨b,o,none⟩):=by rfl) (hd:d.isRow=true:=by rfl) (hS:S w:=by assumption) (hc:a.put oi.dst (.agg v)=c:=by ((try simp only[List.getElem_toArray,List.getElem_cons_succ,List.getElem_cons_zero,Act.put,List.setIfInBounds_toArray,List.set_cons_zero,List.set_cons_succ])<;> exact rfl)):wpAnyH P md ops Q S (fuel+1) listed a w:=wpAnyH_take hi hs hf hr hQ (hv▸yieldsIf_load_mid hw ty x ho b o hx cs d hg hu hd hz) hS (hc▸h)
theorem rD (i:Nat) {o:Oper} (h:∀K':Act→World→Prop,Shut (∀a w,S w→(S w→wpAnyH P md ops Q S fuel (listed.setIfInBounds i true) a w)→K' a w)→if Region.wanted o (yielded ops a.tmps)=true then Oper.wp P o a w K' Q else K' (a.put o.dst undef) w) (ho:ops[i]?=some o:=by rfl) (hr:Region.ready md ops listed=[i]:=by kernel_rfl):wpAnyH P md ops Q S (fuel+1) listed a w:=wpAnyH_ready hr (List.cons_ne_nil _ _) (AllReadyH.cons ho h AllReadyH.nil)
theorem rG {id:Nat} (S:World→Prop) (hS:S w.drew) (h:S w.drew→wpAnyH P .any ops Q S ops.size (Array.replicate ops.size false) a w.drew) (hm:P.follows .mixedOrders=true:=by kernel_rfl):(Code.region id ops true).wp P Q a w:=wp_region_held_drew hm hS h
theorem dN (h:Q .normal a w) (hr:Region.ready md ops listed=[]:=by kernel_rfl):wpAnyH P md ops Q S fuel listed a w:=wpAnyH_done hr h fuel
end
theorem lJ {n:Nat}:n≤n:=Nat.le_refl _
theorem nJ {a b:Nat} (h:a≠b:=by omega):some a≠some b:=fun e=>h (Option.some.inj e)
section
variable {P : Program} {md : Region.Mode} {ops : Array Oper} {d : Exit -> Act -> World -> Prop} {S : World -> Prop} {fuel : Nat} {listed : Array Bool} {a : Act} {w : World}
theorem tU (i : Nat) {f : Oper} {b : Act} (h : wpAnyH P md ops d S fuel (listed.setIfInBounds i true) b w) (m : ops[i]? = some f := by rfl) (n : Region.noSelect ops = true := by kernel_rfl) (p : Region.free md ops listed i = true := by kernel_rfl) (k : (Region.ready md ops listed).contains i = true := by kernel_rfl) (q : ∀ c a w, d (.panic c) (a.put f.dst undef) w -> d (.panic c) a w := by exact λ_ _ _ h => h) (hw : Region.wanted f (yielded ops a.tmps) = false := by rfl) (l : S w := by assumption)
    (hb : a.put f.dst undef = b := by ((try simp only [List.getElem_toArray, List.getElem_cons_succ, List.getElem_cons_zero, Act.put, List.setIfInBounds_toArray, List.set_cons_zero, List.set_cons_succ]) <;> exact rfl)) : wpAnyH P md ops d S (fuel + 1) listed a w :=
  wpAnyH_take m n p k q (Or.inr ⟨hw, rfl⟩) l (hb ▸ h)
theorem rF {K : Act -> World -> Prop} {b : Act} (r : Shut (∀ a w, S w -> (S w -> wpAnyH P md ops d S fuel listed a w) -> K a w)) (l : S w) (h : S w -> wpAnyH P md ops d S fuel listed b w) (hb : a = b := by ((try simp only [List.getElem_toArray, List.getElem_cons_succ, List.getElem_cons_zero, Act.put, List.setIfInBounds_toArray, List.set_cons_zero, List.set_cons_succ]) <;> exact rfl)) : K a w := r.out _ _ l λs => hb ▸ h s
theorem rE (i j : Nat) {o u : Oper} (h : ∀ e : Act -> World -> Prop, Shut (∀ a w, S w -> (S w -> wpAnyH P md ops d S fuel (listed.setIfInBounds i true) a w) -> e a w) -> if Region.wanted o (yielded ops a.tmps) = true then Oper.wp P o a w e d else e (a.put o.dst undef) w)
    (g : ∀ e : Act -> World -> Prop, Shut (∀ a w, S w -> (S w -> wpAnyH P md ops d S fuel (listed.setIfInBounds j true) a w) -> e a w) -> if Region.wanted u (yielded ops a.tmps) = true then Oper.wp P u a w e d else e (a.put u.dst undef) w)
    (ho : ops[i]? = some o := by rfl) (hu : ops[j]? = some u := by rfl) (k : Region.ready md ops listed = [i, j] := by kernel_rfl) : wpAnyH P md ops d S (fuel + 1) listed a w :=
  wpAnyH_ready k (List.cons_ne_nil _ _) (AllReadyH.cons ho h (AllReadyH.cons hu g AllReadyH.nil))
end
abbrev I:=@rfl
instance:CoeOut ByteArray (List UInt8):=⟨λb=>b.data.toList⟩
instance:CoeOut ByteArray Value:=⟨λs=>.string s⟩
instance:CoeOut Bool Value:=⟨λb=>.bool b⟩
instance:CoeOut Int Value:=⟨λn=>.int .i64 n⟩
structure cT where
def cL:cT:={}
instance:CoeFun cT (λ_=>FuncId->Array Value->World->(Ending->World->Prop)->Prop):=⟨λ_=>Calls Tryz.prog⟩
structure KK(a:Prop):Prop where
 o:a
instance:CoeOut World Nat:=⟨λw=>w.heap.size⟩
structure akl where
def o5:akl:={}
instance:CoeOut akl Type:=⟨λ_=>List (ByteArray×ByteArray)⟩
instance:CoeSort akl Type:=⟨λ_=>List (ByteArray×ByteArray)⟩
structure akm where
def bs:akm:={}
instance:CoeOut akm Type:=⟨λ_=>List UInt8⟩
instance:CoeSort akm Type:=⟨λ_=>List UInt8⟩
structure akn where
def jm:akn:={}
instance:CoeOut akn Type:=⟨λ_=>List ByteArray⟩
instance:CoeSort akn Type:=⟨λ_=>List ByteArray⟩
structure ako where
def oT:ako:={}
instance:CoeOut ako Type:=⟨λ_=>Option Addr⟩
instance:CoeSort ako Type:=⟨λ_=>Option Addr⟩
structure akp where
def gr:akp:={}
instance:CoeOut akp Type:=⟨λ_=>Array Value⟩
instance:CoeSort akp Type:=⟨λ_=>Array Value⟩
structure akq where
def qD:akq:={}
instance:CoeOut akq Type:=⟨λ_=>List Value⟩
instance:CoeSort akq Type:=⟨λ_=>List Value⟩
structure akr where
def F:akr:={}
instance:CoeOut akr Type:=⟨λ_=>ByteArray⟩
instance:CoeSort akr Type:=⟨λ_=>ByteArray⟩
structure tWT where
def tW:tWT:={}
instance:CoeOut tWT Type:=⟨λ_=>World⟩
instance:CoeSort tWT Type:=⟨λ_=>World⟩
structure tVT where
def tV:tVT:={}
instance:CoeOut tVT Type:=⟨λ_=>Value⟩
instance:CoeSort tVT Type:=⟨λ_=>Value⟩
structure alE(v:Value)(w:World) where
def dx(v:Value)(w:World):alE v w:={}
instance(v:Value)(w:World):CoeOut (alE v w) (Ending->World->Prop):=⟨λ_=>λe w'=>e=.returned v/\Below w.heap.size w w'⟩
structure alF(v:Value)(w:World) where
def mRs(v:Value)(w:World):alF v w:={}
instance(v:Value)(w:World):CoeOut (alF v w) (Ending->World->Prop):=⟨λ_=>λe a=>e=.returned v/\Below w.heap.size w a⟩
structure alG(v:Value)(w:World) where
def mRe(v:Value)(w:World):alG v w:={}
instance(v:Value)(w:World):CoeOut (alG v w) (Ending->World->Prop):=⟨λ_=>λe w'=>e=.returned v/\w'=w⟩
structure alH(v:Value)(w:World) where
def rV(v:Value)(w:World):alH v w:={}
instance(v:Value)(w:World):CoeOut (alH v w) (Ending->World->Prop):=⟨λ_=>λe w'=>e=.returned v/\w=w'⟩
structure alI(v:Value)(w:World) where
def mRg(v:Value)(w:World):alI v w:={}
instance(v:Value)(w:World):CoeOut (alI v w) (Ending->World->Prop):=⟨λ_=>λe a=>e=.returned v/\a=w⟩
structure alJ(v:Value)(w:World) where
def mRh(v:Value)(w:World):alJ v w:={}
instance(v:Value)(w:World):CoeOut (alJ v w) (Ending->World->Prop):=⟨λ_=>λe a=>e=.returned v/\w=a⟩
structure alK(b:Nat) where
def vb(b:Nat):alK b:={}
instance(b:Nat):CoeOut (alK b) (Option Value):=⟨λ_=>some (.pointer (some ⟨b,0,none⟩))⟩
structure alL(b:Nat)(k:Nat) where
def mQk(b:Nat)(k:Nat):alL b k:={}
instance(b:Nat)(k:Nat):CoeOut (alL b k) (Option Value):=⟨λ_=>some (.pointer (some ⟨b,k,none⟩))⟩
structure alM(x:Int) where
def ev(x:Int):alM x:={}
instance(x:Int):CoeOut (alM x) (Option Value):=⟨λ_=>some (.int .i64 x)⟩
structure alN where
def mQ0:alN:={}
instance:CoeOut alN (Option Value):=⟨λ_=>some (.string ⟨#[]⟩)⟩
structure alO where
def mQn:alO:={}
instance:CoeOut alO (Option Value):=⟨λ_=>some (.slice none 0 0)⟩
structure aks(w:World)(v:World) where
def Y(w:World)(v:World):aks w v:={}
instance(w:World)(v:World):CoeOut (aks w v) (Prop):=⟨λ_=>Below w.heap.size w v⟩
instance(w:World)(v:World):CoeSort (aks w v) (Prop):=⟨λ_=>Below w.heap.size w v⟩
structure alP(b:Nat) where
def bR(b:Nat):alP b:={}
instance(b:Nat):CoeOut (alP b) (Value):=⟨λ_=>.pointer (some ⟨b,0,none⟩)⟩
structure alQ(b:Nat)(k:Nat) where
def SV(b:Nat)(k:Nat):alQ b k:={}
instance(b:Nat)(k:Nat):CoeOut (alQ b k) (Value):=⟨λ_=>.pointer (some ⟨b,k,none⟩)⟩
structure alR(b:Nat) where
def fJ(b:Nat):alR b:={}
instance(b:Nat):CoeOut (alR b) (Option Addr):=⟨λ_=>some ⟨b,0,none⟩⟩
structure alS(b:Nat)(k:Nat) where
def vC(b:Nat)(k:Nat):alS b k:={}
instance(b:Nat)(k:Nat):CoeOut (alS b k) (Option Addr):=⟨λ_=>some ⟨b,k,none⟩⟩
structure alT(b:Nat)(k:Nat) where
def U(b:Nat)(k:Nat):alT b k:={}
instance(b:Nat)(k:Nat):CoeOut (alT b k) (Addr):=⟨λ_=>⟨b,k,none⟩⟩
structure alU where
def fm:alU:={}
instance:CoeOut alU (Value):=⟨λ_=>.string ⟨#[]⟩⟩
structure alV where
def bN:alV:={}
instance:CoeOut alV (Value):=⟨λ_=>.slice none 0 0⟩
structure mIT(x:Int) where
def mI(x:Int):mIT x:={}
instance(x:Int):CoeOut (mIT x) (Value):=⟨λ_=>.int .i64 x⟩
abbrev _root_.Go.Calls.Q:=@Go.Calls.mono
theorem cV{x:Option Value}(v:Value)(h:x=some v):x=some v:=h
instance{α}:CoeOut (List α) Nat:=⟨λl=>l.length⟩
instance{α}:CoeOut (Array α) Nat:=⟨λl=>l.size⟩
instance:CoeTail Nat Value:=⟨λn=>.int .i64 n⟩
end Go.Proofs.YtkdneaemikbhkaaGreatDoor
