import Derived.Test.YtkdneaemikbhkaaGreatDoorZ03
import Derived.Test.YtkdneaemikbhkaaGreatDoorRows
set_option linter.all false
set_option maxRecDepth 100000
set_option maxHeartbeats 40000000
namespace Go.Proofs.YtkdneaemikbhkaaGreatDoor
open _root_.Go.Proofs.Tryz Go.RowKit Go.Deep
def dO{a b}(h:a=b):Ending.returned (.string a)=.returned (.string b):=by rw[h]
def s9{k}{a b}(h:a=b):Ending.returned (.int k a)=.returned (.int k b):=by rw[h]
def aW{a b}(h:a=b):Ending.returned (.bool a)=.returned (.bool b):=by rw[h]
def _root_.Go.RowKit.Below.then{B}{w a b}(h:Below B w a)(c:B<=w.heap.size)(d:Y a b):Below B w b:=
 h.trans (d.mono<|de c h.size)
theorem _root_.Go.RowKit.Below.aD{w a b:World}(h:Below w.heap.size w a)(k:Below a.heap.size a b):Below w.heap.size w b:=h.then (Nat.le_refl _) k
def aO{w wr:tW}{c:gr}{T:TypeId}{B:Nat}(h:Below (B+1) (w.alloc<|.cells c T) wr)(i:Nat){v:tV}(a:c[i]?=some v)(b:B=w.heap.size:=by rfl):wr.cell? (U B i)=some v:=by subst b;rw[h.cell (p:=(U w i))<|al1 _,World.cell?_alloc_mark];exact a
def cB{w wr}{o}(h:Below (w.heap.size+1) (w.alloc o) wr):Y w wr:=
 ((aL _ _).alloc lJ _).trans (h.mono<|pV _)
def aN{B}{a w}(h:Below B a w)n:Below B a<|w.drewN n:=h.trans ⟨I,I,I,gK _,λ_ _=>rfl⟩
def dS(n a b:Int)w:cL 31 #[n,a,b] w (rV (.bool<|decide (a<=n)&&decide (n<=b)) w):=by go_enter func31,ntmps31;go_wp2;(all_goals go_ret);(.simp_all);exact⟨by simp [*];omega,rfl⟩
def chr(n:Int):UInt8:=UInt8.ofNat (n%256).toNat
def HC(n:Int)w:cL 193 #[n] w<|dx (.string ⟨#[chr n]⟩) w:=by have a:=run_convert_bytes_arg (P:=prog) (w.alloc (Obj.cells #[Value.int IntKind.u8<|n%256] 5)) 172 5 underlying172 underlying5 w 0 1 1 [n%256] I (by intro i b;obtain rfl:i=0:=O;simp [World.cell?_alloc_mark]) 9 underlying9;go_enter func193,ntmps193;go_wp2;go_ret;exact DI
end Go.Proofs.YtkdneaemikbhkaaGreatDoor
namespace Go.Proofs.YtkdneaemikbhkaaGreatDoor
open _root_.Go.Proofs.Tryz Go.RowKit Go.Deep
open Go.ChangeShapes Go.WideShapes Go.ChangeAt Go.WideElems
def own:ownKnob prog.godebug=none:=dU
def adA:laidOutB Tryz.prog=true:=by kernel_rfl
def t_ {H:Type} {aK:TypeId×Value->H} {P:Program} (hl:laidOutB P=true) {W k:World} (hb:Below W.heap.size W k):
  ∀{ts:List TypeId} {f:List Value} {g:List<|DataW H} {ps:List MemPlace},(∀t∈ts,P.readableRec t=true/\t<P.types.size)->
   DataW.TrodAll aK P W 0 (λ_=>true) true ts f g ps->(∀x∈ps,x.block<W.heap.size)->
   DataW.TrodAll aK P k 0 (λb=>decide (b<W.heap.size)) true ts f g ps
 |[],[],[],_,_,h,_=>h
 |t::ts,v::f,d::g,_,i,⟨p,q,l,m,e⟩,a =>
  ⟨p,q,Below.trod hl (i t<|by simp).1 (i t<|by simp).2 l hb (λx j=>a x<|by rw[e];simp [j]),
   t_ hl hb (λu c=>i u<|by simp [c]) m (λx j=>a x<|by rw[e];simp [j]),e⟩
 |[],_::_,_,_,_,h,_=>h.elim
 |[],[],_::_,_,_,h,_=>h.elim
 |_::_,[],_,_,_,h,_=>h.elim
 |_::_,_::_,[],_,_,h,_=>h.elim
end Go.Proofs.YtkdneaemikbhkaaGreatDoor
namespace Go.Proofs.YtkdneaemikbhkaaGreatDoor
open _root_.Go.Proofs.Tryz Go.RowKit Go.Deep
def o3{s:F}{L}(h:s.data.toList=L):s=⟨L.toArray⟩:=by subst h;rfl
def bD L:(⟨L.toArray⟩:F).data.toList=L:=bT
def nh(L:bs):(⟨L.toArray⟩:F).size=L.length:=by rw[Hp]
def cu(a b:F):(a++b).data.toList=a.data.toList++b.data.toList:=bT
def ei(a b:F):(a++b).size=a.size+b.size:=VG
def an(s:F):s.size=s.data.toList.length:=Hp s
def b8(s:F)k(a:k<s.size)(b:k<s.data.toList.length):s.data.toList[k]=s[k]:=by simp;rfl
def kq{s t:F}(h:s.data.toList=t.data.toList):s=t:=by have:=o3 h;rw[this]
end Go.Proofs.YtkdneaemikbhkaaGreatDoor
namespace Go.Proofs.YtkdneaemikbhkaaGreatDoor
open _root_.Go.Proofs.Tryz Go.RowKit Go.Deep
def bX(w:tW)(a:oT)(ss:jm):Prop:=
 ∀i (h:i<ss.length),∃b aj,a=some ⟨b,aj,none⟩/\w.cell? ⟨b,aj+i,none⟩=some (.string ss[i])
def bX.later{w w'}{a}{ss}(h:bX w a ss)(hb:Y w w'):bX w' a ss:=by intro i d;obtain⟨b,aj,e,c⟩:=h i d;exact⟨b,aj,e,(hb.cell<|rR w _ c).trans c⟩
def bX.nil w a:bX w a []:=λi h=>by simp at h
def aT(ss:jm):List<|bs:=ss.map (·.data.toList)
end Go.Proofs.YtkdneaemikbhkaaGreatDoor
namespace Go.Proofs.YtkdneaemikbhkaaGreatDoor
open _root_.Go.Proofs.Tryz Go.RowKit Go.Deep
def CI{w w'}{a}(h:Y w w'):w.grownBy w' a:=⟨h.os,h.tape,h.output,h.size,λk b _=>h.block k b⟩
def j6{w w'}{af}{e}{size}{v}{n}{bf}(h:w.ownsRow af e size v n bf)(hb:Y w w'):w'.ownsRow af e size v n bf:=
 h.kept (row:=none) (CI hb) (by cases a:v.ownBlock <;> simp)
def ay(w:tW)(af:Nat)(v:tV)(ss:jm):Prop:=w.ownsRow af 9 1 v ss.length<|ss.map Value.string
def ay.nil w af:ay w af (bN) []:=VW w af _ _
def ay.later{w w'}{af}{v}{ss}(h:ay w af v ss)(hb:Y w w'):ay w' af v ss:=j6 h hb
def ay.shape{w}{af}{v}{ss}(h:ay w af v ss):∃a E,v=.slice a ss.length E/\bX w a ss/\ss.length<=E/\E<=maxLen/\(ss=[]->v=bN\/a≠none):=by obtain⟨l,d⟩:=h;rcases d with⟨rfl,e⟩|⟨g,E,b,rfl,hb,f,j,c,m,k⟩;(.have:ss=[]:=VH.1 e;subst this;exact⟨none,0,I,bX.nil _ _,gK _,bt _,λ_=>.inl I⟩);refine⟨_,E,I,?_,j,c,λ_=>.inr bT⟩;intro i n;refine⟨g,0,I,?_⟩;rw[lp,Mv w g i b _ _ f];have:(b.toList.take<|ss.length*1)[i]?=(ss.map Value.string)[i]?:=(by rw[k]);grind
def l_:(prog.info? 9).map (λi=>(i.zero,i.size,i.bytes))=some (some<|.string ⟨#[]⟩,1,16):=dU
def ay.snoc{w}{af}{v}{ss}{s}(h:w.ownsRow af 9 1 v (ss.length+1)<|ss.map Value.string++[.string s]):ay w af v<|ss++[s]:=by unfold ay;grind
def bn{af}{a w w'}{o}{e}{size}{v}{n}{bf}(b:Below af a w)(c:w.ownsRow af e size v n bf)(d:(w.alloc o).grownBy w' v.ownBlock)(hb:af<=w.heap.size):Below af a w':=
 (b.alloc hb o).grown d (by simp;omega) (λk f=>(c.lt k f).1)
def kF s:∀u∈[Value.string s],u.oneCell'=true:=by intro u a;simp at a;subst a;rfl
end Go.Proofs.YtkdneaemikbhkaaGreatDoor
namespace Go.Proofs.YtkdneaemikbhkaaGreatDoor
open _root_.Go.Proofs.Tryz Go.RowKit Go.Deep
def vz:(prog.info? 5).map (λi=>(i.zero,i.size,i.bytes))=some (some<|.int .u8 0,1,1):=dU
def bv(c:UInt8):tV:=.int .u8 (c.toNat:Int)
def js(w:tW)(af:Nat)(v:tV)(l:bs):Prop:=w.ownsRow af 5 1 v l.length<|l.map bv
def js.nil w af:js w af (bN) []:=VW w af _ _
def js.later{w w'}{af}{v}{l}(h:js w af v l)(hb:Y w w'):js w' af v l:=j6 h hb
def js.one(w:tW)af c n(a:n=(c.toNat:Int))(hb:af<=w.heap.size):js (w.alloc<|.cells #[.int .u8 n] 5) af (.slice (fJ w) 1 1) [c]:=by subst a;exact⟨I,.inr ⟨w,1,#[bv c],I,hb,xA w _,gK _,Z,I,I⟩⟩
def js.shape{w}{af}{v}{l}(h:js w af v l)(f:l≠[]):∃g E,v=.slice (fJ g) l.length E/\∀j (b:j<l.length),w.cell? (((U g 0):Addr).add j)=some (.int .u8 (l[j].toNat:Int)):=by have d:=h;obtain⟨i,e⟩:=h;rcases e with⟨rfl,k⟩|⟨g,E,a,rfl,hb,m,n,c,o,p⟩;(.grind);refine⟨g,E,I,λj b=>?_⟩;exact World.ownsRow.cells d I j _ (by rw[CJ,j7 b];rfl)
def e9{d}{rest}{o}{a}{b}(j:o.guard=none)s x(ho:o.op=.call {callee:=.builtin .append,args:=#[s,x],argTypes:=#[172,172]})w af v l(t:a.eval s=v)(g:js w af v l)c n(y:n=(c.toNat:Int))(z:a.eval x=.slice (fJ w) 1 1)(hl:l.length+1<=140737488355328)(k:af<=w.heap.size)(h:∀i w',js w' af i (l++[c])->(w.alloc<|.cells #[.int .u8 n] 5).grownBy w' v.ownBlock->wpList prog d b rest (a.put o.dst i) w'):wpList prog d b (o::rest) a (w.alloc<|.cells #[.int .u8 n] 5):=by obtain⟨i0,B,m,p,q⟩:=ni vz;subst y;refine vA _ j s x 172 ho af 5 i0 (.int .u8 0) 1 1 underlying172 B m p q I Z v _ _ t (g.alloc _) (U w 0) 1 1 [bv c] z I (Fw _ _ _) (by intro u e;simp at e;subst e;rfl) l3 O fK ?_;intro i w' r f _;refine h i w' ?_ f;unfold js;grind
end Go.Proofs.YtkdneaemikbhkaaGreatDoor
namespace Go.Proofs.YtkdneaemikbhkaaGreatDoor
open _root_.Go.Proofs.Tryz Go.RowKit Go.Deep
def A(w:tW)(p:Nat)(cs:gr)(T:TypeId):Prop:=w.heap[p]?=some (.cells cs T (0,0))
section
variable {w w' : World} {p q : Nat} {cs : Array Value} {T : TypeId}
def A.lt(h:A w p cs T):p<w.heap.size:=(uO.1 h).1
def A.cell(h:A w p cs T)i{v}(a:cs[i]?=some v):w.cell? (U p i)=some v:=by rw[adB h];exact a
def A.free(h:A w p cs T)i:w.frozen? (U p i)=false:=VX h i
def A.new(w:tW)cs T:A (w.alloc<|.cells cs T) w cs T:=xA w _
def A.later(h:A w p cs T)(hb:Y w w'):A w' p cs T:=(hb.block p h.lt).trans h
def A.grown{a}(h:A w p cs T)(c:w.grownBy w' a)(b:a≠some p):A w' p cs T:=(c.block p h.lt λe=>b e.symm).trans h
def A.alloc(h:A w p cs T)o:A (w.alloc o) p cs T:=h.later<|(aL _ _).alloc lJ _
def A.drew(h:A w p cs T):A w.drew p cs T:=h
def A.drewN(h:A w p cs T)n:A (w.drewN n) p cs T:=h
def A.set(h:A w p cs T)i v:A (w.setCell (U p i) v) p (cs.setIfInBounds i v) T:=by unfold A at *;simp [World.setCell,adC,h]
def A.kO(h:A w p cs T)a v(b:a.block≠p):A (w.setCell a v) p cs T:=by unfold A at *;rw[<-h];exact VY w a v p λe=>b e.symm
def A.same{a}{T'}(h:A w p cs T)(b:A w p a T'):cs=a:=by unfold A at *;grind
def bW(w:tW)a:w.grownBy w a:=⟨I,I,I,gK _,λ_ _ _=>rfl⟩
def gV{a w}(h:Y a w)b:a.grownBy w b:=⟨h.os,h.tape,h.output,h.size,λi c _=>h.block i c⟩
def cw{a w:tW}{b}(h:a.grownBy w b)n:a.grownBy (w.drewN n) b:=⟨h.os,h.tape,h.output,h.size,h.block⟩
def dy{a b c:tW}{d}(h:a.grownBy b d)(k:b.grownBy c d):a.grownBy c d:=
 ⟨k.os.trans h.os,k.tape.trans h.tape,k.output.trans h.output,de h.size k.size,λi e f=>(k.block i (eP e h.size) f).trans<|h.block i e f⟩
def Mw{a w:tW}{b}(h:a.grownBy w b)o:a.grownBy (w.alloc o) b:=
 ⟨h.os,h.tape,h.output,de h.size<|by simp,λi d c=>(adD w o i<|eP d h.size).trans<|h.block i d c⟩
def aI{a w:tW}{g}(h:a.grownBy w<|some g){p}(c:p.block=g\/a.heap.size<=p.block)u:a.grownBy (w.setCell p u)<|some g:=
 ⟨h.os,h.tape,h.output,by simpa [World.setCell] using h.size,λi d b=>(VY w p u i<|by
  rintro rfl
  rcases c with c|c
  .exact b (by rw[c])
  .omega).trans<|h.block i d b⟩
def Mx{a b c:tW}{d f}(h:a.grownBy b d)(k:b.grownBy c f)(n:∀j,f=some j->d=some j\/a.heap.size<=j):a.grownBy c d:=
 ⟨k.os.trans h.os,k.tape.trans h.tape,k.output.trans h.output,de h.size k.size,λi g l=>(k.block i (eP g h.size) λe=>by
  rcases n i e.symm with m|m
  .exact l m.symm
  .omega).trans<|h.block i g l⟩
def ag{B}{a w w'}{g}(h:Below B a w)(c:w.grownBy w'<|some g)(d:B<=w.heap.size)(b:B<=g):Below B a w':=
 h.grown c d (λj e=>by cases e;exact b)
end
end Go.Proofs.YtkdneaemikbhkaaGreatDoor
namespace Go.Proofs.YtkdneaemikbhkaaGreatDoor
open _root_.Go.Proofs.Tryz Go.RowKit Go.Deep
section
variable {P : Program} {w w' : World} {p : Nat} {cs : Array Value} {T : TypeId}
def A.range(h:A w p cs T):w.rangeAt p 0 cs.toList:=λj v a=>by
 rw[lp];exact h.cell j (by simpa using a)
def A.there(h:A w p cs T):w.there p 0 cs.size:=λj a=>by
 rw[lp]
 exact⟨by rw[h.cell j<|My a];rfl,h.free j⟩
def A.Mz{p:Nat}{T:TypeId}:∀(b:qD) (o:Nat) {w:tW} {cs:gr},A w p cs T->A (w.setCells p o b) p (b.foldl (λ(a:Nat×gr) v=>(a.1+1,a.2.setIfInBounds a.1 v)) (o,cs)).2 T
 |[],_,_,_,h=>h
 |v::r,o,w,cs,h=>by
  rw[World.setCells,vB]
  exact A.Mz r (o+1)<|h.set o v
def VZ b:∀(o:Nat) (cs:gr),o+b.length=cs.size->(b.foldl (λ(a:Nat×gr) v=>(a.1+1,a.2.setIfInBounds a.1 v)) (o,cs)).2.toList=cs.toList.take o++b:=by (induction b with|nil =>intro o cs h;rw[qF,Ad] at h;subst h;rw[V0,oW,Ae bT]|cons v r ih =>intro o cs h;have ho:o<cs.size:=(by simp at h;omega);rw[vB,ih (o+1) _<|by simp at h ⊢;omega];rw[adE,List.take_set,gW<|by simpa using ho];have hl:(cs.toList.take o).length=o:=fK;simp_all)
def A.all(h:A w p cs T)a(b:a.size=cs.size):A (w.setCells p 0 a.toList) p a T:=by have:=A.Mz a.toList 0 h;have e:=VZ a.toList 0 cs (by simpa using b);simp_all
def gX(p:Nat):∀(a:qD) (o:Nat) (w:tW),w.grownBy (w.setCells p o a)<|some p
 |[],_,w=>bW w _
 |v::r,o,w=>by
  rw[World.setCells]
  exact dy (aI (bW w<|some p) (.inl I) v)<|gX p r (o+1) _
def ae{f:Array Oper}{rest:List Oper}{op:Oper}{a:Act}{c:Exit->Act->tW->Prop}(i:op.guard=none)(e:TypeId)(x:Operand)(ho:op.op=.load e x)
  (b:Nat) (j:a.eval x=bR b) (hb:A w b cs T) (d:TypeDesc) (g:P.underlying e=some d) (k:d.isRow=true) (l:(P.info? e).map (·.size)=some cs.size)
  (h:wpList P f c rest (a.put op.dst<|.agg cs) w):wpList P f c (op::rest) a w:=
 cD i e x ho b 0 j cs.toList d hb.range g k (by simpa using l) (by simpa using h)
def aa{d:Array Oper}{rest:List Oper}{op:Oper}{a:Act}{c:Exit->Act->tW->Prop}(g:op.guard=none)(e:TypeId)(x y:Operand)(ho:op.op=.store e x y)
  (b:Nat) (j:a.eval x=bR b) (hb:A w b cs T) (f:gr) (k:a.eval y=.agg f) (i:f.size=cs.size) (l:(P.info? e).map (·.size)=some f.size) (m:f.all (·.oneCell')=true)
  (h:∀w',A w' b f T->w.grownBy w' (some b)->wpList P d c rest (a.put op.dst undef) w'):wpList P d c (op::rest) a w:=
 V1 g e x y ho b 0 f j k (by rw[i];exact hb.there) l m (h _ (hb.all f i)<|gX b f.toList 0 w)
end
end Go.Proofs.YtkdneaemikbhkaaGreatDoor
namespace Go.Proofs.YtkdneaemikbhkaaGreatDoor
open _root_.Go.Proofs.Tryz Go.RowKit Go.Deep
section
variable {α : Type} {T : TypeId} {n : Nat} {aK : α → List Value}
def aq(T:TypeId)(n:Nat)(aK:α->qD)(w:tW)(af:Nat)(v:tV)(l:List α):Prop:=w.ownsRow af T n v l.length<|l.flatMap aK
def cE(n:Nat)(aK:α->qD)(w:tW)(a:oT)(l:List α):Prop:=
 ∀i (h:i<l.length),∃b aj,a=some ⟨b,aj,none⟩/\∀j u,(aK l[i])[j]?=some u->w.cell? ⟨b,aj+i*n+j,none⟩=some u
def cE.later{w w'}{a}{l}(h:cE n aK w a l)(hb:Y w w'):cE n aK w' a l:=by intro i f;obtain⟨b,aj,e,d⟩:=h i f;exact⟨b,aj,e,λj u c=>(hb.cell (rR w _<|d j u c)).trans<|d j u c⟩
def cE.nil w a:cE n aK w a []:=λi h=>by simp at h
def cE.grown{w w'}{a}{d aj}{l}(h:cE n aK w (vC d aj) l)(g:w.grownBy w' a)(f:a≠some d):cE n aK w' (vC d aj) l:=by intro i k;obtain⟨b,o,e,m⟩:=h i k;cases e;exact⟨d,aj,I,λj u c=>g.cell (m j u c) λe=>f e.symm⟩
def aq.nil w af:aq T n aK w af (bN) []:=VW w af _ _
def aq.later{w w'}{af}{v}{l}(h:aq T n aK w af v l)(hb:Y w w'):aq T n aK w' af v l:=j6 h hb
def iM(a:∀x,(aK x).length=n):∀(l:List α) (i j:Nat) (h:i<l.length),j<n->(l.flatMap aK)[i*n+j]?=(aK l[i])[j]?
 |x::l,0,j,_,b=>by
  rw[Af,Nat.zero_mul,lp,List.getElem?_append_left<|by rw[a];exact b]
  rfl
 |x::l,i+1,j,h,b=>by
  rw[Af,List.getElem?_append_right<|by rw[a,HD];omega,a,show(i+1)*n+j - n=i*n+j by rw[HD];omega]
  exact iM a l i j (by simpa using h) b
def dQ(a:∀x,(aK x).length=n):∀l:List α,(l.flatMap aK).length=l.length*n
 |[]=>by simp
 |x::l=>by rw[Af,iG,a,dQ a l,iN,HD,Nat.add_comm]
def aq.shape(c:∀x,(aK x).length=n){w}{af}{v}{l}(h:aq T n aK w af v l):∃a E,v=.slice a l.length E/\cE n aK w a l/\l.length<=E/\E<=maxLen/\(a=none->l=[]):=by obtain⟨o,p⟩:=h;rcases p with⟨rfl,q⟩|⟨g,E,b,rfl,hb,r,s,d,z,t⟩;(.obtain rfl:=VH.1 q;exact⟨none,0,I,cE.nil _ _,gK _,bt _,λ_=>rfl⟩);refine⟨_,E,I,?_,s,d,λe=>by cases e⟩;intro i m;refine⟨g,0,I,λj u f=>?_⟩;have y:j<n:=gA;rw[lp,Mv w g _ b _ _ r];have k:i*n+j<l.length*n:=(by have o:=nj n m;grind);have:(b.toList.take<|l.length*n)[i*n+j]?=(l.flatMap aK)[i*n+j]?:=(by rw[t]);rw[SC,a' k,iM c l i j m y,f] at this;simpa using this
def qG(w:tW)(bf:qD)t:∀j u,bf[j]?=some u->(w.alloc<|.cells bf.toArray t).cell? (((U w 0):Addr).add j)=some u:=by intro j u a;have e:((U w 0):Addr).add j=(U w j):=y9;simp_all
def ck{P}{r}{z}{bytes}(g:(P.info? T).map (λi=>(i.zero,i.size,i.bytes))=some (some z,n,bytes))(N:P.underlying r=some (.slice T))(t:z.cells.size=n)(R:0<n)(f:∀x,(aK x).length=n){d}{rest}{o}{a}{c}(B:o.guard=none)s x(ho:o.op=.call {callee:=.builtin .append,args:=#[s,x],argTypes:=#[r,r]})w af v l(S:a.eval s=v)(k:aq T n aK w af v l)(y:α)(m:∀u∈aK y,u.oneCell'=true)cs(C:cs=(aK y).toArray)b(W:a.eval x=.slice (fJ b) 1 1)(hb:b=w.heap.size)(hl:l.length+1<=maxLen)(D:(l.length+1)*bytes<=140737488355328)(G:af<=w.heap.size)(h:∀p w',aq T n aK w' af p (l++[y])->(w.alloc<|.cells cs T).grownBy w' v.ownBlock->p≠bN->wpList P d c rest (a.put o.dst p) w'):wpList P d c (o::rest) a (w.alloc<|.cells cs T):=by obtain⟨i0,hi,H,K,L⟩:=ni g;subst C hb;refine vA _ B s x r ho af T i0 z n bytes N hi H K L t R v _ _ S (k.alloc _) (U w 0) 1 1 (aK y) W (by rw[f,SD]) (qG _ _ _) m hl D fK ?_;intro p w' M j q;refine h p w' ?_ j (λe=>by have:=(q.1 e).2;cases this);unfold aq;grind
end
def uP(p:F×F):qD:=[.string p.1,.string p.2]
def dr p:(uP p).length=2:=rfl
def oq p:∀u∈uP p,u.oneCell'=true:=by intro u a;simp only[uP,uQ,y',y_] at a;rcases a with rfl|rfl <;> rfl
def vD:(prog.info? 89).map (λi=>(i.zero,i.size,i.bytes))=some (some<|.agg #[fm,fm],2,32):=dU
end Go.Proofs.YtkdneaemikbhkaaGreatDoor
namespace Go.Proofs.YtkdneaemikbhkaaGreatDoor
open _root_.Go.Proofs.Tryz Go.RowKit Go.Deep
structure ak (S:Nat->Prop) (a w:tW):Prop where
 os:w.os=a.os
 tape:w.tape=a.tape
 output:w.output=a.output
 size:a.heap.size<=w.heap.size
 block:∀i,i<a.heap.size->¬S i->w.heap[i]?=a.heap[i]?
section
variable {S T : Nat → Prop} {a b c w : World}
def ak.refl S a:ak S a a:=⟨I,I,I,gK _,λ_ _ _=>rfl⟩
def ak.trans(h:ak S a b)(k:ak S b c):ak S a c:=
 ⟨k.os.trans h.os,k.tape.trans h.tape,k.output.trans h.output,de h.size k.size,λi d e=>(k.block i (eP d h.size) e).trans<|h.block i d e⟩
def ak.mono(h:ak S a w)(b:∀i,S i->T i):ak T a w:=⟨h.os,h.tape,h.output,h.size,λi c d=>h.block i c (λe=>d<|b i e)⟩
def ak.old(h:ak S a w)(b:∀i,S i->T i\/a.heap.size<=i):ak T a w:=⟨h.os,h.tape,h.output,h.size,λi c d=>h.block i c λe=>by
 rcases b i e with e|e
 .exact d e
 .omega⟩
def ak.au(h:Y a w):ak S a w:=⟨h.os,h.tape,h.output,h.size,λi b _=>h.block i b⟩
def ak.aH{b}(h:a.grownBy w b)(c:∀i,b=some i->S i):ak S a w:=⟨h.os,h.tape,h.output,h.size,λi d f=>h.block i d (λe=>f<|c i e.symm)⟩
def ak.then(h:ak S a b)(k:Y b c):ak S a c:=h.trans<|ak.au k
def ak.drew(h:ak S a w):ak S a w.drew:=h.then (aL _ _).drew
def ak.drewN(h:ak S a w)n:ak S a<|w.drewN n:=h.then<|aN (aL _ _) n
def ak.alloc(h:ak S a w)o:ak S a<|w.alloc o:=h.then<|(aL _ _).alloc lJ _
def ak.set(h:ak S a w){p}(b:S p.block\/a.heap.size<=p.block)u:ak S a<|w.setCell p u:=
 ⟨h.os,h.tape,h.output,by simpa [World.setCell] using h.size,λi d c=>(VY w p u i<|by
  rintro rfl
  rcases b with b|b
  .exact c b
  .omega).trans<|h.block i d c⟩
def ak.append(h:ak S a b){o}{c}(d:(b.alloc o).grownBy w c)(j:∀i,c=some i->S i\/a.heap.size<=i):ak S a w:=
 ⟨d.os.trans (h.alloc o).os,d.tape.trans (h.alloc o).tape,d.output.trans (h.alloc o).output,de (h.alloc o).size d.size,λi f g=>(d.block i (eP f (h.alloc o).size) λe=>by
  rcases j i e.symm with e|e
  .exact g e
  .omega).trans<|(h.alloc o).block i f g⟩
def ak.bF{p}{cs}{t}(h:ak S a w)(hb:A a p cs t)(b:¬S p):A w p cs t:=(h.block p hb.lt b).trans hb
def ak.heap{p}{o}(h:ak S a w)(hb:a.heap[p]?=some o)(b:¬S p):w.heap[p]?=some o:=(h.block p (uO.1 hb).1 b).trans hb
def ak.cell{x}{v}(h:ak S a w)(b:a.cell? x=some v)(c:¬S x.block):w.cell? x=some v:=by exact(World.cell?_of_block (w:=a)<|h.block _ (rR _ _ b) c).trans b
def ak.frozen{x}(h:ak S a w)(hl:x.block<a.heap.size)(b:¬S x.block):w.frozen? x=a.frozen? x:=by exact World.frozen?_of_block (w:=a)<|h.block _ hl b
def ak.below{B}(h:ak S a w)(hb:Below B b a)(d:B<=a.heap.size)(f:∀i,S i->B<=i):Below B b w:=
 ⟨h.os.trans hb.os,h.tape.trans hb.tape,h.output.trans hb.output,de hb.size h.size,λi c=>(h.block i (eP c d) λe=>by have:=f i e;omega).trans<|hb.block i c⟩
def ak.own{af size n}{e}{v}{bf}(h:ak S a w)(ho:a.ownsRow af e size v n bf)(f:∀g,v.ownBlock=some g->¬S g):w.ownsRow af e size v n bf:=by obtain⟨i,d⟩:=ho;refine⟨i,?_⟩;rcases d with d|⟨g,E,b,rfl,hb,j,k,c,hz,l⟩;(.exact .inl d);exact .inr ⟨g,E,b,I,hb,h.heap j<|f g I,k,c,hz,l⟩
def ak.rowAt{α}{n}{aK:α->qD}{ad}{l}(h:ak S a w)(d:cE n aK a ad l)(f:∀x,ad=some x->¬S x.block):cE n aK w ad l:=by intro i g;obtain⟨c,aj,e,k⟩:=d i g;exact⟨c,aj,e,λj u b=>h.cell (k j u b)<|show ¬S c from f (U c aj) e⟩
end
end Go.Proofs.YtkdneaemikbhkaaGreatDoor
namespace Go.Proofs.YtkdneaemikbhkaaGreatDoor
open _root_.Go.Proofs.Tryz Go.RowKit Go.Deep
def eb{α}{T}{n}{aK:α->qD}{P}{m}{z}{bytes}(e:(P.info? T).map (λi=>(i.zero,i.size,i.bytes))=some (some z,n,bytes))(L:P.underlying m=some (.slice T))(q:z.cells.size=n)(M:0<n)(d:∀x,(aK x).length=n){l6}{o}{a}{K}{Q}{c:Prop}(Hq:o.guard=none)s x(ho:o.op=.call {callee:=.builtin .append,args:=#[s,x],argTypes:=#[m,m]})w af v l(N:a.eval s=v)(g:aq T n aK w af v l)(y:α)(j:∀u∈aK y,u.oneCell'=true)cs(r:cs=(aK y).toArray)b(R:a.eval x=.slice (fJ b) 1 1)(hb:b=w.heap.size)(hl:l.length+1<=maxLen)(t:(l.length+1)*bytes<=140737488355328)(B:af<=w.heap.size)(h:∀p w',aq T n aK w' af p (l++[y])->(w.alloc<|.cells cs T).grownBy w' v.ownBlock->K (a.put o.dst p) w'):if Region.wanted o (yielded l6 a.tmps)=true then Oper.wp P o a (w.alloc<|.cells cs T) K Q else c:=by obtain⟨i0,S,C,D,G⟩:=ni e;subst r hb;refine Fx ?_;intro iO;refine wp_append_own _ s x m ho af T i0 z n bytes L S C D G q M v _ _ N (g.alloc _) (U w 0) 1 1 (aK y) R (by rw[d,SD]) (qG _ _ _) j hl t fK ?_;intro p w' H f _;refine h p w' ?_ f;unfold aq;grind
end Go.Proofs.YtkdneaemikbhkaaGreatDoor
namespace Go.Proofs.YtkdneaemikbhkaaGreatDoor
open _root_.Go.Proofs.Tryz Go.RowKit Go.Deep
def ib(c:UInt8):Bool:=decide (c.toNat=9\/32<=c.toNat/\c.toNat≠127)
end Go.Proofs.YtkdneaemikbhkaaGreatDoor
namespace Go.Proofs.YtkdneaemikbhkaaGreatDoor
open _root_.Go.Proofs.Tryz Go.RowKit Go.Deep
def low(c:UInt8):UInt8:=if 65<=c.toNat/\c.toNat<=90 then c+32 else c
def bg(l:bs):bs:=l.map low
def nL l:(bg l).length=l.length:=by simp [bg]
def e_(s:F):s.size=s.data.toList.length:=Hp s
def iP(w:tW)(g:Nat)(l:bs):Prop:=
 ∃a b,w.heap[g]?=some (.cells a 5 b)/\l.length<=b.1/\∀i (h:i<l.length),a[i]?=some (.int .u8 (l[i].toNat:Int))
def iP.cell{w}{g}{l}(h:iP w g l)i(b:i<l.length):w.cell? (U g i)=some (.int .u8 (l[i].toNat:Int)):=by obtain⟨a,c,d,_,e⟩:=h;rw[Mv w g i a _ c d];exact e i b
def iP.free{w}{g}{l}(h:iP w g l)i(c:i<l.length):w.frozen? (U g i)=false:=by obtain⟨a,d,b,e,f⟩:=h;simp [World.frozen?,b];omega
def iP.set{w}{g}{l}(h:iP w g l)i c:iP (w.setCell (U g i)<|.int .u8 (c.toNat:Int)) g<|l.set i c:=by obtain⟨a,b,e,d,f⟩:=h;refine⟨a.setIfInBounds i<|.int .u8 (c.toNat:Int),b,?_,by simpa using d,?_⟩;(.show(w.heap.modify g _)[g]?=_;grind);grind
def iP.made(w:tW)s E n m(a:s.size<=n):iP (w.alloc<|.cells (bytesRow s E) 5 (n,m)).drew w s.data.toList:=by refine⟨_,_,xA w _,by rw[<-e_];exact a,?_⟩;intro i b;rw[bytesRow_at s E i<|by simpa using b];simp
def pA s E:s.size<=(bytesRow s E).size:=by rw[e_];simp [bytesRow]
def o4(l:bs)(k:Nat):bs:=bg (l.take k)++l.drop k
def nM l k:(o4 l k).length=l.length:=by simp [o4,bg];omega
def MA l:o4 l 0=l:=by simp [o4,bg]
def SE l:o4 l l.length=bg l:=by simp [o4]
def HE l k(h:k<l.length):(o4 l k)[k]'(by rw[nM];exact h)=l[k]:=by simp only[o4];rw[adF DJ];simp [bg,SF<|ma h]
def MB l k(h:k<l.length):o4 l (k+1)=(o4 l k).set k (low l[k]):=by apply List.ext_getElem;(.simp [nM]);intro i a b;simp only[o4];rw[List.getElem_set];simp [nM] at a b;by_cases e:k=i;(.subst e;rw[a' rfl,SG DJ];simp [bg]);rw[aY e];by_cases c:i<k;(.rw[SG DJ,SG DJ];simp [bg]);rw[adF DJ,adF DJ];simp [bg,SF<|ma h,SF<|show k+1<=l.length from h];congr 1;omega
def k9(s:F)w(t:s.size<=maxLen):cL 167 #[s] w<|dx (.string ⟨(bg s).toArray⟩) w:=by unfold maxLen at t;have p:=λw=>V2 (P:=prog) w 9 172 5 s underlying9 underlying172 underlying5;go_enter func167,ntmps167;go_wp2;have f:=iP.made w s (grownCap w s.size 0 5) ((bytesRow s<|grownCap w s.size 0 5).size) ((bytesRow s<|grownCap w s.size 0 5).size+1)<|pA s _;go_loopw [10] (λi wr=>∃k:Nat,k<=s.size/\i=mI k/\Y w wr/\iP wr w (o4 s k)) (λi _=>s.size - (intOf i).toNat);(.exact⟨0,bt _,I,((aL _ _).alloc lJ _).drew,by rw[MA];exact f⟩);obtain⟨k,v,rfl,q,hb⟩:=hrel;clear p f;by_cases cY:k<s.size;(.refine HF ?_;intro hl;have g:k<(o4 s k).length:=(by rw[nM];exact hl);have b:=hb.cell k g;have r:=hb.free k g;rw[HE _ _ hl] at b;have H:=J hb;have a:=J<|MB s k hl;have c:=J ((hb.set k)<|low s.data.toList[k]);clear hb;have l:s.data.toList[k]=s.data[k]:=bT;have m:=J l;clear l;go_wp2;(.refine bM ?_;refine⟨k+1,O,cJ,q.setCell lJ _,?_⟩;rw[a.out];have e:(s.data[k].toNat:Int)+32=((low s.data.toList[k]).toNat:Int):=(by rw[m.out];unfold low;rw[a' O];simp [UInt8.toNat_add];omega);rw[e];exact c.out);all_goals refine bM ?_;refine⟨k+1,O,cJ,q,?_⟩;have e:low s.data.toList[k]=(o4 s k)[k]:=(by rw[HE _ _ hl,m.out];unfold low;rw[aY O]);rw[a.out,e,List.set_getElem_self];exact H.out);obtain rfl:s.size=k:=O;have n:iP wr w<|bg s:=(by rw[<-SE,<-e_];exact hb);have d:=λE=>HG (P:=prog) wr 172 9 5 (U w 0) E (bg s) underlying172 underlying5 underlying9 (λj u=>by have:((U w 0):Addr).add j=(U w j):=y9;rw[this];exact n.cell j u);rw[nL,<-e_] at d;clear hb n;go_wp2;go_ret;exact⟨I,q⟩
def SH(a b:bs):(⟨a.toArray⟩:F)++⟨b.toArray⟩=⟨(a++b).toArray⟩:=aJ
def za(l:bs)k(h:k<l.length):bg (l.take<|k+1)=bg (l.take k)++[low l[k]]:=by rw[gW h];unfold bg;grind
def zE(a:bs):(⟨a.toArray⟩:F).size=a.length:=by rw[e_]
def ah2 c(h:65<=(c.toNat:Int)/\(c.toNat:Int)<=90):chr ((c.toNat:Int)+32)=low c:=by unfold low chr;rw[a' O];apply Fy;simp [UInt8.toNat_add];omega
def ah3 c(h:(c.toNat:Int)<65\/90<(c.toNat:Int)):chr (c.toNat:Int)=low c:=by unfold low chr;rw[aY O];apply Fy;have:=c.toNat_lt;simp;omega
def jL(s:F)w(m:s.size<=maxLen):cL 98 #[s] w<|dx (.string ⟨(bg s).toArray⟩) w:=by unfold maxLen at m;go_enter func98,ntmps98;go_wp2;go_loopw [3,8] (λo i wr=>∃k:Nat,k<=s.size/\i=mI k/\Y w wr/\o=.string ⟨(bg<|s.data.toList.take k).toArray⟩) (λ_ i _=>s.size - (intOf i).toNat);(.exact⟨0,bt _,I,aL _ _,I⟩);obtain⟨k,n,rfl,c,rfl⟩:=hrel;by_cases cY:k<s.size;(.refine HF ?_;intro hl;have a:=J<|za s k hl;have b:s.data.toList[k]=s[k]:=(by simp;rfl);have d:=J b;clear b;have f:(s[k].toNat:Int)<256:=Pt;go_wp2_with fail;apply(dS _ _ _ _).Q;rintro e w' ⟨rfl,rfl⟩;go_wp2_with fail;all_goals apply(HC _ _).Q;rintro e w' ⟨rfl,g⟩;have j:=c.trans<|g.mono c.size;have l:=λx=>iQ (P:=prog) w' ⟨(bg<|s.data.toList.take k).toArray⟩ ⟨#[x]⟩ (by rw[zE,nL];have:(⟨#[x]⟩:F).size=1:=I;rw[this];simp;omega);go_wp2;refine bM ?_;refine⟨k+1,O,cJ,j,?_⟩;rw[a.out,d.out];refine oX Value.string ?_;refine(SH _ [_]).trans ?_;first|rw[ah2 _ eD]|rw[ah3 _ eD]);obtain rfl:s.size=k:=O;go_wp2;go_ret;exact⟨dO V3,c⟩
end Go.Proofs.YtkdneaemikbhkaaGreatDoor
namespace Go.Proofs.YtkdneaemikbhkaaGreatDoor
open _root_.Go.Proofs.Tryz Go.RowKit Go.Deep
def same(a b:F):Bool:=bg a==bg b
def gG(a b:F)w(c:a.size<=maxLen)(hb:b.size<=maxLen):cL 144 #[a,b] w (dx (.bool<|same a b) w):=by go_enter func144,ntmps144;go_wp2_with fail;apply(k9 _ _ c).Q;rintro e d ⟨rfl,pB⟩;go_wp2_with fail;apply(k9 _ _ hb).Q;exact V4
def zF(a b:F)w(c:a.size<=maxLen)(hb:b.size<=maxLen):cL 217 #[a,b] w (dx (.bool<|same a b) w):=by go_enter func217,ntmps217;go_wp2_with fail;apply(jL _ _ c).Q;rintro e d ⟨rfl,pB⟩;go_wp2_with fail;apply(jL _ _ hb).Q;exact V4
end Go.Proofs.YtkdneaemikbhkaaGreatDoor
namespace Go.Proofs.YtkdneaemikbhkaaGreatDoor
open _root_.Go.Proofs.Tryz Go.RowKit Go.Deep
def jz(w:tW)(a:oT)(ps:o5):Prop:=
 ∀i (h:i<ps.length),∃b aj,a=some ⟨b,aj,none⟩/\w.cell? ⟨b,aj+i*2,none⟩=some (.string ps[i].1)/\w.cell? ⟨b,aj+i*2+1,none⟩=some (.string ps[i].2)
def nu(ps:o5):Prop:=∀p∈ps,p.1.size<=maxLen/\p.2.size<=maxLen
def jz.later{w w'}{a}{ps}(h:jz w a ps)(hb:Y w w'):jz w' a ps:=by intro i e;obtain⟨b,aj,f,c,d⟩:=h i e;exact⟨b,aj,f,(hb.cell<|rR w _ c).trans c,(hb.cell<|rR w _ d).trans d⟩
def dv(ps:o5)(a:F):F×Bool:=
 match ps.find? (λp=>same p.1 a) with
 |some p=>(p.2,true)
 |none=>(⟨#[]⟩,false)
def qH(ps:o5)(a:F)(k:Nat):Prop:=∀p∈ps.take k,same p.1 a=false
def rX ps a:qH ps a 0:=by intro p b;simp at b
def rY{ps}{a}{k}(h:qH ps a k)(hk:k<ps.length)(b:same ps[k].1 a=false):qH ps a<|k+1:=by exact V5
def DK{ps}{a}{k}(h:qH ps a k)(b:k<ps.length)(c:same ps[k].1 a=true):dv ps a=(ps[k].2,true):=by have:ps.find? (λp=>same p.1 a)=some ps[k]:=(by rw[ah4];refine⟨c,k,b,I,λj d=>?_⟩;have:=h ps[j] agQ;simp [this]);unfold dv;rw[this]
def MC{ps}{a}(h:qH ps a ps.length):dv ps a=(⟨#[]⟩,false):=by unfold dv;rw[SI.2 (λp b=>by simp [h p<|by simpa using b])]
def xB sc tk a E ps(c:F)w(r:jz w a ps)(hz:nu ps)(hl:ps.length<=maxLen)(m:c.size<=maxLen):cL 202 #[.agg #[.string sc,.string tk,.slice a ps.length E],c] w<|dx (.tuple #[.string (dv ps c).1,.bool (dv ps c).2]) w:=by unfold maxLen at hl;go_enter func202,ntmps202;go_wp2;go_loopw [6] (λi wr=>∃k:Nat,k<=ps/\i=mI k/\Below (w+1) (w.alloc<|Obj.cells #[Value.string sc,Value.string tk,Value.slice a ps E] 187) wr/\Hid (qH ps c k)) (λi _=>ps.length - (intOf i).toNat);(.exact⟨0,bt _,I,aL _ _,J<|rX _ _⟩);obtain⟨k,u,rfl,l,hN⟩:=hrel;have g:=aO l 2 I;have ua:=cB l;by_cases f:k<ps;(.obtain⟨b,aj,rfl,v,n⟩:=(r.later ua) k f;have j:=(hz _<|ej f).1;cases hb:same ps[k].1 c;(.have HH:=J<|rY hN.out f hb;go_wp2_with fail;apply(zF _ _ _ j m).Q;rintro e s ⟨rfl,d⟩;go_wp2_with fail;refine bM ?_;exact⟨k+1,O,cJ,l.then bT d,HH⟩);have HH:=J<|DK hN f hb;go_wp2_with fail;apply(zF _ _ _ j m).Q;rintro e s ⟨rfl,d⟩;have q:=(d.cell (p:=(U w 2))<|rR wr _ g).trans g;have t:=(d.cell (p:=⟨b,aj+k*2+1,none⟩)<|rR wr _ n).trans n;go_wp2_with fail;go_ret2;exact⟨by rw[HH.out];rfl,ua.aD d⟩);exact V6
def ah5 sc tk a E ps(c:F)w(l:jz w a ps)(hz:nu ps)(hl:ps.length<=maxLen)(j:c.size<=maxLen):cL 238 #[.agg #[.string sc,.string tk,.slice a ps.length E],c] w<|dx (.tuple #[.string (dv ps c).1,.bool (dv ps c).2]) w:=by unfold maxLen at hl;go_enter func238,ntmps238;go_wp2;go_loopw [11] (λi wr=>∃k:Nat,k<=ps/\i=mI k/\Below (w+1) (w.alloc<|Obj.cells #[Value.string sc,Value.string tk,Value.slice a ps E] 187) wr/\Hid (qH ps c k)) (λi _=>ps.length - (intOf i).toNat);(.exact⟨0,bt _,I,aL _ _,J<|rX _ _⟩);obtain⟨k,p,rfl,g,hN⟩:=hrel;have ua:=cB g;by_cases d:k<ps;(.obtain⟨b,aj,rfl,q,r⟩:=(l.later ua) k d;have f:=(hz _<|ej d).1;cases hb:same ps[k].1 c;(.have HH:=J<|rY hN.out d hb;go_wp2_with fail;apply(gG _ _ _ f j).Q;rintro e m ⟨rfl,dZ⟩;go_wp2_with fail;refine bM ?_;exact⟨k+1,O,cJ,(g.alloc (by simpa using g.size) _).then bT dZ,HH⟩);have HH:=J<|DK hN d hb;go_wp2_with fail;apply(gG _ _ _ f j).Q;rintro e m ⟨rfl,dZ⟩;have n:=aO Ag 1 I;go_wp2_with fail;go_ret2;exact⟨by rw[HH.out];rfl,(ua.alloc ua.size _).aD dZ⟩);exact V6
end Go.Proofs.YtkdneaemikbhkaaGreatDoor
namespace Go.Proofs.YtkdneaemikbhkaaGreatDoor
open _root_.Go.Proofs.Tryz Go.RowKit Go.Deep
open Go.ChangeShapes Go.WideShapes Go.ChangeAt Go.WideElems
def Rd(P:Program)(w:tW)(t:TypeId)(cs:qD):Prop:=
 ∃(H:Type) (aK:TypeId×tV->H) (fuel:Nat) (d:DataW H) (ps:List MemPlace),
  DataW.trod aK P w 0 (λ_=>true) true fuel t cs=some (d,ps)/\(d.weights P t).all (·<=reachBytes)=true
section
variable {P : Program} {w : World} {t : TypeId} {cs : List Value}
def Rd.string(h:Rd P w t cs)(b:P.underlying t=some .string):∃s:F,cs=[.string s]/\s.size<=reachBytes:=by obtain⟨H,aK,fuel,d,ps,a,c⟩:=h;(cases fuel with|zero =>simp [DataW.trod] at a|succ n =>unfold DataW.trod at a;simp only[b] at a;split at a <;> simp_all;obtain⟨_,rfl,_⟩:=a;rw[Hp];simpa [DataW.weights] using c)
def Rd.bool(h:Rd P w t cs)(a:P.underlying t=some .bool):∃b,cs=[.bool b]:=by obtain⟨H,aK,fuel,d,ps,c,e⟩:=h;obtain⟨b,h,_⟩:=DataW.trod_bool a c;exact⟨b,h⟩
def Rd.int{k}(h:Rd P w t cs)(a:P.underlying t=some (.int k)):∃n,cs=[.int k n]/\(Lit.int k n).wf=true:=by obtain⟨H,aK,fuel,d,ps,c,f⟩:=h;obtain⟨b,h,_,e⟩:=DataW.trod_int a c;exact⟨b,h,e⟩
def rZ{H}:∀{ts:List TypeId} {a:List<|DataW H} {j:Nat} {u:TypeId} {d:DataW H},ts[j]?=some u->a[j]?=some d->(DataW.weightsEach P ts a).all (·<=reachBytes)=true->(d.weights P u).all (·<=reachBytes)=true:=by intro ts a j u d b c h;rw[pC] at h ⊢;exact λx e=>h x<|DataW.weights_mem_each b c x e
def ub{H:Type}{e:TypeId}:∀{b:List<|DataW H} {d:DataW H},d∈b->(DataW.weightsAll P e b).all (·<=reachBytes)=true->(d.weights P e).all (·<=reachBytes)=true
 |[],_,h,_=>by cases h
 |x::r,d,h,a=>by
  simp only[DataW.weightsAll,vE,xC] at a
  rcases uQ.1 h with rfl|h
  .exact a.1
  .exact ub h a.2
def Rd.struct{b}(h:Rd P w t cs)(c:P.underlying t=some (.struct b)):cs.length=P.cellsOf t/\∀(i:Nat) (f:Field),b[i]?=some f->Rd P w f.type ((cs.drop f.offset).take<|P.cellsOf f.type):=by obtain⟨H,aK,fuel,d,ps,l,e⟩:=h;obtain⟨bf,n,_,m,hl,p,o⟩:=DataW.trod_struct c l;obtain⟨rfl,rfl⟩:=Prod.mk.inj m;refine⟨hl,λi f g=>?_⟩;have a:i<bf:=gA;have k:=o i f g;rw[j7 a] at k;refine⟨H,aK,n,bf[i].1,bf[i].2,k,?_⟩;simp only[DataW.weights,c] at e;refine rZ (j:=i) ?_ ?_ e;(.simp [g]);grind
def Rd.field{b}(h:Rd P w t cs)(d:P.underlying t=some (.struct b))(i:Nat){u}{aj n}(c:(b[i]?).map (λf=>(f.type,f.offset))=some (u,aj))(e:P.cellsOf u=n):Rd P w u<|(cs.drop aj).take n:=by (cases a:b[i]? with|none =>simp [a] at c|some f =>simp [a] at c;obtain⟨rfl,rfl⟩:=c;have:=(h.struct d).2 i f a;rwa [e] at this)
def Rd.slice{e}(h:Rd P w t cs)(r:P.underlying t=some (.slice e))(k:0<P.cellsOf e):∃(a:oT) (c E:Nat),cs=[.slice a c E]/\c*P.bytesOf e<=reachBytes/\c<=maxLen/\c<=E/\E<=maxLen/\(a=none->c=0/\E=0)/\∀i,i<c->∃b aj f,a=some ⟨b,aj,none⟩/\f.length=P.cellsOf e/\Rd P w e f/\∀j,j<P.cellsOf e->w.cell? ⟨b,aj+i*P.cellsOf e+j,none⟩=f[j]?:=by obtain⟨H,aK,fuel,d,ps,z,s⟩:=h;rcases open_slice r z with⟨rfl,_⟩|⟨a,c,E,m,n,D,B,rfl,_,hl,l,o,C,u⟩;(.grind);obtain⟨rfl,rfl⟩:=Prod.mk.inj C;simp only[if_true] at o;subst o;simp only[DataW.weights,r,Fz,xC,vE,MD] at s;obtain⟨h3,G,h5⟩:=s;refine⟨some a,c,m,I,?_,O,hl,l,bT,λi q=>?_⟩;(.grind);obtain⟨f,K,L⟩:=u i O;obtain⟨_,g,M⟩:=World.cells?_some K;have N:D i∈(List.range c).map D:=jM.2 ⟨i,List.mem_range.2 q,I⟩;have p:a.spot=none:=(by (cases R:a.spot with|none =>rfl|some x =>exfalso;obtain⟨c0,g6,_⟩:=u 0 O;obtain⟨_,v,gc⟩:=World.cells?_some g6;have S:=gc 0 k;have T:(a.add<|0*P.cellsOf e).add 0=a:=(by simp [Addr.add]);rw[T] at S;have:w.cell? a=none:=(by unfold World.cell?;split;(.simp [R]);rfl);grind));obtain⟨b,aj,sp⟩:=a;simp only at p;subst p;refine⟨b,aj,f,I,g,⟨H,aK,n,D i,B i,L,ub N G⟩,λj W=>?_⟩;rw[<-M j W];congr 1;have y:∀(x n:Nat),((U b x):Addr).add n=⟨b,x+n,none⟩:=(by intro x n;unfold Addr.add;split <;> simp_all);rw[y,y]
def Rd.of{H:Type}{aK:TypeId×Value->H}{v:Value}{d:DataW H}{ps:List MemPlace}(h:DataW.Trod aK P w 0 (λ_=>true) true t v d ps)(a:(d.weights P t).all (·<=reachBytes)=true):Rd P w t v.cells.toList:=by obtain⟨fuel,h⟩:=h;exact⟨H,aK,fuel,d,ps,h,a⟩
end
def r0{α:Type}(p:Nat->α->Prop):∀(n:Nat),(∀i,i<n->∃x,p i x)->∃l:List α,l.length=n/\∀i (h:i<l.length),p i l[i]
 |0,_=>⟨[],I,λi h=>by simp at h⟩
 |n+1,h=>by
  obtain⟨l,hl,b⟩:=r0 p n (λi a=>h i<|by omega)
  obtain⟨x,c⟩:=h n (by omega)
  refine⟨l++[x],by simp [hl],λi a=>?_⟩
  by_cases e:i<l.length
  .rw[SG e];exact b i e
  .obtain rfl:i=l.length:=by simp at a;omega
   simp [hl,c]
section
variable {P : Program} {w : World} {t : TypeId} {v : Value} {r : Reach} {af : Nat}
end
end Go.Proofs.YtkdneaemikbhkaaGreatDoor
namespace Go.Proofs.YtkdneaemikbhkaaGreatDoor
open _root_.Go.Proofs.Tryz Go.RowKit Go.Deep
open Go.ChangeShapes Go.WideShapes Go.ChangeAt Go.WideElems
def fp:prog.cellsOf 9=1:=dU
def r3:prog.cellsOf 3=1:=dU
def s':prog.cellsOf 4=1:=dU
def qI:prog.cellsOf 89=2:=dU
def HI:prog.cellsOf 42=1:=dU
def ME:prog.bytesOf 89=32:=dU
def HJ(ps:o5):Prop:=∀p∈ps,p.1.size<=reachBytes/\p.2.size<=reachBytes
def jn{n}(h:n<=reachBytes):n<=maxLen:=de h Z
def HJ.sz{ps}(h:HJ ps):nu ps:=λp a=>⟨jn (h p a).1,jn (h p a).2⟩
def V7{w}{cs}(h:Rd prog w 89 cs):∃p:F×F,cs=[.string p.1,.string p.2]/\p.1.size<=reachBytes/\p.2.size<=reachBytes:=by obtain⟨hl,_⟩:=h.struct underlying89;rw[qI] at hl;(match cs,hl with|[c0,c1],_ =>have d:Rd prog w 9 [c0]:=h.field underlying89 0 I fp;have e:Rd prog w 9 [c1]:=h.field underlying89 1 I fp;obtain⟨f,b,z0⟩:=d.string underlying9;obtain⟨a,c,g⟩:=e.string underlying9;simp at b c;subst b;subst c;exact⟨(f,a),I,z0,g⟩)
def SJ{w}{a}{c E}(h:Rd prog w 42 [.slice a c E]):∃ps,ps.length=c/\jz w a ps/\HJ ps/\c*32<=reachBytes/\c<=E/\E<=maxLen/\(a=none->c=0/\E=0):=by obtain⟨x,l,m,e,hb,_,hl,q,r,n⟩:=h.slice underlying42 (by rw[qI];decide);simp at e;obtain⟨rfl,rfl,rfl⟩:=e;rw[ME] at hb;rw[qI] at n;obtain⟨ps,g,o⟩:=r0 (λi (p:F×F)=>(∃b aj,a=some ⟨b,aj,none⟩/\w.cell? ⟨b,aj+i*2,none⟩=some (.string p.1)/\w.cell? ⟨b,aj+i*2+1,none⟩=some (.string p.2))/\p.1.size<=reachBytes/\p.2.size<=reachBytes) c (by intro i d;obtain⟨b,aj,s,t,u,hR,f⟩:=n i d;obtain⟨p,rfl,z0,v⟩:=V7 hR;exact⟨p,⟨b,aj,t,by (have j:=f 0 Z);first|(simp;done)|(simpa using j),by (have j:=f 1 Z);first|(simp;done)|(simpa using j)⟩,z0,v⟩);refine⟨ps,g,λi d=>(o i d).1,?_,hb,hl,q,r⟩;intro p k;obtain⟨i,d,rfl⟩:=List.getElem_of_mem k;exact(o i d).2
structure xD where
 scheme:F
 token:F
 addr:oT
 cap:Nat
 params:o5
def xD.cells(c:xD):qD:=[.string c.scheme,.string c.token,.slice c.addr c.params.length c.cap]
structure xD.Ok (w:tW) (c:xD):Prop where
 s1:c.scheme.size<=reachBytes
 s2:c.token.size<=reachBytes
 len:c.params.length*32<=reachBytes
 at_:jz w c.addr c.params
 re:HJ c.params
def xD.Ok.later{w w'}{c:xD}(h:c.Ok w)(hb:Y w w'):c.Ok w':=⟨h.s1,h.s2,h.len,h.at_.later hb,h.re⟩
def xD.Ok.FA{w}{c:xD}(h:c.Ok w):c.params.length<=maxLen:=jn<|de (Nat.le_mul_of_pos_right _ Z) h.len
end Go.Proofs.YtkdneaemikbhkaaGreatDoor
namespace Go.Proofs.YtkdneaemikbhkaaGreatDoor
open _root_.Go.Proofs.Tryz Go.RowKit Go.Deep
def xE(w:tW)(a:oT)(cs:List xD):Prop:=
 ∀i (h:i<cs.length),∃b aj,a=some ⟨b,aj,none⟩/\w.cell? ⟨b,aj+i*3,none⟩=some (.string cs[i].scheme)/\w.cell? ⟨b,aj+i*3+1,none⟩=some (.string cs[i].token)/\
  w.cell? ⟨b,aj+i*3+2,none⟩=some (.slice cs[i].addr cs[i].params.length cs[i].cap)
def xE.later{w w'}{a}{cs}(h:xE w a cs)(hb:Y w w'):xE w' a cs:=by intro i f;obtain⟨b,aj,g,c,d,e⟩:=h i f;exact⟨b,aj,g,(hb.cell<|rR w _ c).trans c,(hb.cell<|rR w _ d).trans d,(hb.cell<|rR w _ e).trans e⟩
end Go.Proofs.YtkdneaemikbhkaaGreatDoor
namespace Go.Proofs.YtkdneaemikbhkaaGreatDoor
open _root_.Go.Proofs.Tryz Go.RowKit Go.Deep
def dA(c:UInt8):bs->List (bs)
 |[]=>[[]]
 |x::l=>if x=c then []::dA c l else match dA c l with
  |[]=>[[x]]
  |h::t=>(x::h)::t
def s_(c:UInt8):∀l,dA c l≠[]
 |[]=>by simp [dA]
 |x::l=>by
  unfold dA
  split
  .simp
  .split <;> simp
def pX c l:dA c (c::l)=[]::dA c l:=by simp [dA]
def od{c x}(h:x≠c)l:∃p r,dA c l=p::r/\dA c (x::l)=(x::p)::r:=by cases a:dA c l with|nil =>exact absurd a (s_ c l)|cons p r =>exact⟨p,r,I,by simp [dA,h,a]⟩
def CK c l:Lib.index (c::l) [c]=0:=
 Lib.index_first (i:=0) (bt _) (by simp [Lib.occAt]) (λ_ h=>absurd h<|tJ _)
def Ah{c x}(h:x≠c)l:Lib.index (x::l) [c]=if Lib.index l [c]==-1 then -1 else Lib.index l [c]+1:=by (conv=>lhs;unfold Lib.index);grind
def CL c l:Lib.count (c::l) [c]=Lib.count l [c]+1:=by rw[Lib.count_cons_eq];omega
def Ai{c x}(h:x≠c)l:Lib.count (x::l) [c]=Lib.count l [c]:=Lib.count_cons_ne x c l h
def Aj(c:UInt8):∀l:bs,Lib.splitK [c] 0 (Lib.count l [c]) l=dA c l
 |[]=>by
  have:Lib.count [] [c]=0:=by rw[Lib.count_one];rfl
  rw[this];rfl
 |x::l=>by
  have ih:=Aj c l
  by_cases h:x=c
  .subst h
   rw[CL,pX,Lib.splitK,CK,aY<|by decide]
   simp only[Int.toNat_zero,Ad,CM,iN,qF,lp,V8,MF]
   rw[ih]
  .rw[Ai h]
   obtain⟨p,r,f,g⟩:=od h l
   rw[g]
   rw[f] at ih
   cases d:Lib.count l [c] with
   |zero =>
    rw[d] at ih
    simp only[Lib.splitK,MG] at ih ⊢
    exact⟨⟨trivial,ih.1⟩,ih.2⟩
   |succ k =>
    rw[d] at ih
    have a:Lib.index l [c]≠-1:=by
     intro e
     have:=Lib.count_miss e
     omega
    have i:=Lib.index_ge l [c]
    unfold Lib.splitK at ih ⊢
    rw[if_neg<|by simpa using a] at ih
    have b:Lib.index (x::l) [c]=Lib.index l [c]+1:=by rw[Ah h,aY<|by simpa using a]
    rw[b,aY<|by rw[beq_iff_eq];omega]
    have j:(Lib.index l [c]+1).toNat=(Lib.index l [c]).toNat+1:=by omega
    rw[j]
    simp only[MG,iN,qF] at ih ⊢
    refine⟨?_,?_⟩
    .rw[show(Lib.index l [c]).toNat+1+0=((Lib.index l [c]).toNat+0)+1 by omega,List.take_succ_cons]
     exact oX (x::·) ih.1
    .rw[show(Lib.index l [c]).toNat+1+(0+1)=((Lib.index l [c]).toNat+(0+1))+1 by omega,V8,ih.2]
def MH c s:(Lib.splitB ⟨#[c]⟩ 0 (Lib.countB s ⟨#[c]⟩) s).map (·.data.toList)=dA c s.data.toList:=by rw[Lib.splitB_data];exact Aj c _
def HK(c:UInt8):∀l:bs,(dA c l).length<=l.length+1
 |[]=>by simp [dA]
 |x::l=>by
  have ih:=HK c l
  by_cases h:x=c
  .subst h;rw[pX];simp;omega
  .obtain⟨p,r,a,b⟩:=od h l
   rw[b];rw[a] at ih;simp at ih ⊢;omega
def ot(c:UInt8):∀(l p:bs),p∈dA c l->p.length<=l.length/\c∉p
 |[],p,h=>by simp [dA] at h;subst h;simp
 |x::l,p,h=>by
  by_cases a:x=c
  .subst a
   rw[pX] at h
   rcases uQ.1 h with rfl|h
   .simp
   .have:=ot x l p h;simp;exact⟨by omega,this.2⟩
  .obtain⟨q,r,b,d⟩:=od a l
   rw[d] at h
   have ih:=ot c l
   rw[b] at ih
   rcases uQ.1 h with rfl|h
   .have:=ih q (by simp)
    simp;exact⟨this.1,λe=>a e.symm,this.2⟩
   .have:=ih p (by simp [h])
    simp;exact⟨by omega,this.2⟩
end Go.Proofs.YtkdneaemikbhkaaGreatDoor
namespace Go.Proofs.YtkdneaemikbhkaaGreatDoor
open _root_.Go.Proofs.Tryz Go.RowKit Go.Deep
def vF{w wr:tW}{c:gr}{T:TypeId}{B:Nat}(h:Below (B+1) (w.alloc<|.cells c T) wr)(i:Nat)(hB:B=w.heap.size:=by rfl):wr.frozen? (U B i)=false:=by exact V9
def lq:∀(j:Nat) (b:UInt8),(⟨#[32,9]⟩:F).data.toList[j]?=some b->b.toNat<128:=by intro j b h;(match j,h with|0,h =>cases h;decide|1,h =>cases h;decide)
def gL(w:tW)c T b i(hb:b=w.heap.size){v}(a:c[i]?=some v):(w.alloc<|.cells c T).cell? (U b i)=some v:=r4
def eU{wr:tW}{B:Nat}{d e:tV}(b c:tV)(f:wr.cell? (U B 0)=some d)(a:wr.cell? (U B 1)=some e):
  ((wr.setCell (U B 0) b).setCell (U B 1) c).cell? (U B 0)=some b/\((wr.setCell (U B 0) b).setCell (U B 1) c).cell? (U B 1)=some c:=
 ⟨by
  rw[MI]
  .exact adG _ _ _ f
  .simp,adG _ _ _<|by
  rw[MI]
  .exact a
  .simp⟩
def tc w:cL 104 #[] w (dx (.agg #[mI 0,mI<|-1]) w):=by go_enter func104,ntmps104;go_wp2;go_returns;exact DI
def td(n:Int)w:cL 102 #[n] w (dx (.agg #[n,mI<|-1]) w):=by go_enter func102,ntmps102;go_wp2;go_returns;exact DI
end Go.Proofs.YtkdneaemikbhkaaGreatDoor
