import Derived.Test.YtkdneaemikbhkaaGreatDoorZ01
import Derived.Test.YtkdneaemikbhkaaGreatDoorZ04
import Derived.Test.YtkdneaemikbhkaaGreatDoorRows
set_option linter.all false
set_option maxRecDepth 100000
set_option maxHeartbeats 40000000
namespace Go.Proofs.YtkdneaemikbhkaaGreatDoor
open _root_.Go.Proofs.Tryz Go.RowKit Go.Deep
section
variable {α : Type} {T : TypeId} {n : Nat} {aK : α → List Value}
structure eE (T:TypeId) (n:Nat) (enc:α->qD) (w:tW) (g cap:Nat) (l:List α):Prop where
 heap:∃cur,w.heap[g]?=some (.cells cur T (0,0))/\cur.size=cap*n
 cell:∀i (h:i<l.length) j u,(enc l[i])[j]?=some u->w.cell? ⟨g,i*n+j,none⟩=some u
 len:l.length<=cap
 cap_:cap<=maxLen
def eE.lt{w}{g E}{l}(h:eE T n aK w g E l):g<w.heap.size:=by obtain⟨a,b,_⟩:=h.heap;grind
def zJ{i c n j:Nat}(h:i<c)(a:j<n):i*n+j<c*n:=by have b:=nj n h;grind
def eE.kr(c:∀x,(aK x).length=n){w}{af}{v}{l}(h:aq T n aK w af v l):(v=bN/\l=[])\/∃g E,v=.slice (fJ g) l.length E/\af<=g/\eE T n aK w g E l:=by obtain⟨a,m,o,f,q,r,_⟩:=aq.shape c h;obtain⟨C,s⟩:=h;rcases s with⟨rfl,D⟩|⟨g,E,d,rfl,hb,t,y,k,z,G⟩;(.grind);refine .inr ⟨g,E,I,hb,⟨d,t,z⟩,?_,y,k⟩;intro i B j u p;simp only[MU] at o;obtain⟨rfl,_,rfl⟩:=o;obtain⟨b,aj,e,H⟩:=f i B;grind
def eE.own(a:∀x,(aK x).length=n)(f:0<n){w}{g E}{l}(h:eE T n aK w g E l){af}(hb:af<=g):aq T n aK w af (.slice (fJ g) l.length E) l:=by obtain⟨b,i,o⟩:=h.heap;refine⟨by rw[dQ a],.inr ⟨g,E,b,I,hb,i,h.len,h.cap_,o,?_⟩⟩;apply List.ext_getElem?;intro k;by_cases d:k<l.length*n;(.rw[SC,a' d];have j:=(SO f).2 d;have m:k%n<n:=lx _ f;have e:k=k / n*n+k%n:=(by rw[uR];exact(MV k n).symm);have c:(aK l[k / n])[k%n]?=some ((aK l[k / n])[k%n]'(by rw[a];exact m)):=j7 _;have p:=h.cell (k / n) j (k%n) _ c;rw[<-e,Mv w g k b T (0,0) i] at p;have q:=iM a l (k / n) (k%n) j m;grind);rw[SC,aY d,adI<|by rw[dQ a];omega]
def eE.range{w}{g E}{l}(h:eE T n aK w g E l)i(b:i<l.length):w.rangeAt g (i*n)<|aK l[i]:=λj u a=>h.cell i b j u a
def eE.there{w}{g E}{l}(h:eE T n aK w g E l)o k(d:o+k<=E*n):w.there g o k:=by obtain⟨a,c,e⟩:=h.heap;intro j f;have b:o+j<a.size:=O;exact⟨by rw[Mv w g (o+j) a T (0,0) c,My b];rfl,VX c<|o+j⟩
def eE.kept{w w'}{g E}{l}{S}(h:eE T n aK w g E l)(ho:ak S w w')(c:¬S g):eE T n aK w' g E l:=by obtain⟨a,d,e⟩:=h.heap;exact⟨⟨a,ho.heap d c,e⟩,λi f j u b=>ho.cell (h.cell i f j u b) c,h.len,h.cap_⟩
def eE.later{w w'}{g E}{l}(h:eE T n aK w g E l)(hb:Y w w'):eE T n aK w' g E l:=
 h.kept (ak.au (S:=λ_=>False) hb) (λe=>e)
def eE.rowAt{w}{g E}{l}(h:eE T n aK w g E l):cE n aK w (fJ g) l:=λi b=>⟨g,0,I,λj u a=>by rw[lp];exact h.cell i b j u a⟩
def eE.cut{w}{g E}{l}(h:eE T n aK w g E l)k:eE T n aK w g E<|l.take k:=
 ⟨h.heap,λi b j u a=>h.cell i (by rw[ou] at b;omega) j u (by rwa [Wg] at a),by have:=h.len;rw[ou];omega,h.cap_⟩
def mA{g:Nat}{T:TypeId}{d:Nat×Nat}:∀(e:qD) (o:Nat) (w:tW) (a:gr),w.heap[g]?=some (.cells a T d)->∃b,(w.setCells g o e).heap[g]?=some (.cells b T d)/\b.size=a.size
 |[],_,w,a,h=>⟨a,h,I⟩
 |v::r,o,w,a,h=>by
  rw[World.setCells]
  have f:(w.setCell (U g o) v).heap[g]?=some (.cells (a.setIfInBounds o v) T d):=by
   simp [World.setCell,adC,h]
  obtain⟨c,i,j⟩:=mA r (o+1) _ _ f
  exact⟨c,i,by rw[j];simp⟩
def gZ w g o a:ak (λi=>i=g) w<|w.setCells g o a:=
 ak.aH (gX g a o w) (λ_ b=>(cR b).symm)
def eE.lay(a:∀x,(aK x).length=n){w}{g E}{l}(h:eE T n aK w g E l)i bf(y:i<=l.length)(z:i+bf.length<=E):eE T n aK (w.setCells g (i*n)<|bf.flatMap aK) g E<|l.take i++bf:=by obtain⟨b,B,C⟩:=h.heap;obtain⟨c,p,q⟩:=mA (bf.flatMap aK) (i*n) w b B;have d:=dQ a bf;have hb:(i+bf.length)*n<=E*n:=nj _ z;rw[SP] at hb;have r:=h.there (i*n) (bf.flatMap aK).length (by rw[d];exact hb);refine⟨⟨c,p,by rw[q,C]⟩,?_,Wh,h.cap_⟩;intro k D j u f;have s:j<n:=gA;rw[iG,ou,SF y] at D;by_cases v:k<i;(.rw[adJ g _ _ _ _ (λ_ _=>.inl<|by show k*n+j<i*n;exact zJ v s)];refine h.cell k O j u ?_;grind);have m:k - i<bf.length:=O;have o:(k - i)*n+j<(bf.flatMap aK).length:=(by rw[d];exact zJ m s);have e:k*n+j=i*n+((k - i)*n+j):=(by have H:=nj n (show i<=k from O);rw[SQ];omega);rw[e,World.cell?_setCells_in g _ _ _ (λt G=>(r t G).1) _ o,<-j7 o,iM a bf (k - i) j m s,<-f];grind
def eE.set(a:∀x,(aK x).length=n){w}{g E}{l}(h:eE T n aK w g E l)i(x:α)(B:i<l.length):eE T n aK (w.setCells g (i*n)<|aK x) g E<|l.set i x:=by obtain⟨c,v,y⟩:=h.heap;obtain⟨e,m,o⟩:=mA (aK x) (i*n) w c v;have hl:=h.len;have hb:(i+1)*n<=E*n:=nj _ O;rw[HD] at hb;have p:=h.there (i*n) (aK x).length (by rw[a];exact hb);refine⟨⟨e,m,by rw[o,y]⟩,?_,by rw[SR];exact h.len,h.cap_⟩;intro k r j u b;rw[SR] at r;have s:j<n:=gA;rw[List.getElem_set] at b;by_cases d:i=k;(.subst d;rw[a' rfl] at b;have f:j<(aK x).length:=(by rw[a];exact s);rw[World.cell?_setCells_in g _ _ _ (λt z=>(p t z).1) _ f,<-j7 f,b]);rw[aY d] at b;rw[adJ g _ _ _ _ λ_ _=>?_];(.exact h.cell k r j u b);rw[a];show k*n+j<i*n\/i*n+n<=k*n+j;rcases Nat.lt_or_gt_of_ne d with q|q;(.right;have:(i+1)*n<=k*n:=nj _ q;grind);left;exact zJ q s
def eE.yq{w}{g E}{l}(h:eE T n aK w g E l)(e:∀x,(aK x).length=n)k o p(ho:k*n<=o):eE T n aK (w.setCells g o p) g E<|l.take k:=by obtain⟨b,q,r⟩:=h.heap;obtain⟨d,f,m⟩:=mA p o w b q;have hl:=h.len;refine⟨⟨d,f,by rw[m,r]⟩,?_,HR,h.cap_⟩;intro i s j u a;rw[ou] at s;rw[Wg] at a;have t:j<n:=gA;rw[adJ g _ _ _ _ (λ_ _=>.inl<|by show i*n+j<o;have:=zJ (c:=k) (n:=n) (i:=i) (j:=j) O t;omega)];exact h.cell i O j u a
end
def fW{P}w t e z n(p:P.underlying t=some (.slice e))(q:∀w,(zeroValue e).run P w=.ok z w)(hz:z.cells.size=n)(x:z.cells.all (·.oneCell')=true)(y:0<n)b o m c(l:0<m)(f:w.there b o<|m*n):∃r:qD,∀a,(Builtin.clear_ #[t] a #[.slice (vC b o) m c]).run P w=.ok (.tuple #[]) (w.setCells b o r):=by have hl:(Builtin.zeroCells z.cells m).toList.length=m*n:=(by rw[Array.length_toList,size_zeroCells,hz]);refine⟨(Builtin.zeroCells z.cells m).toList,λa=>?_⟩;have g:∀u∈(Builtin.zeroCells z.cells m).toList,u.oneCell'=true:=(by intro u d;simp only[Builtin.zeroCells,Array.toList_map,Array.toList_range,jM,List.mem_range] at d;obtain⟨i,_,rfl⟩:=d;have s:i%z.cells.size<z.cells.size:=lx _ O;grind);have h:=Px (P:=P) b o (Builtin.zeroCells z.cells m).toList 0 w (λj v=>by rw[Ad];exact(f j O).1) (λj v=>by rw[Ad];exact(f j O).2) g;simp only[Ad] at h;obtain⟨k,rfl⟩:∃k,m=k+1:=⟨m - 1,O⟩;simp [Builtin.clear_,run_underlying p,q,h]
section
variable {α : Type} {T : TypeId} {n : Nat} {aK : α → List Value}
def eE.grown{w w'}{g E}{l}{a}(h:eE T n aK w g E l)(c:w.grownBy w' a)(b:a≠some g):eE T n aK w' g E l:=
 h.kept (ak.aH (S:=λi=>a=some i) c λ_ e=>e) b
def ak.new{S}{a b c}{p}(h:ak S a b)(d:b.grownBy c<|some p)(g:a.heap.size<=p):ak S a c:=
 ⟨d.os.trans h.os,d.tape.trans h.tape,d.output.trans h.output,de h.size d.size,λi e f=>(d.block i (eP e h.size) nJ).trans<|h.block i e f⟩
def FB(f:α->Bool)(ps:List α)(r:Int):Prop:=(r=-1/\ps.any f=false)\/∃k:Nat,r=(k:Int)/\∃h:k<ps.length,f ps[k]=true/\(ps.take k).any f=false
def SS{f:α->Bool}{r}(h:FB f [] r):r=-1:=by rcases h with⟨h,_⟩|⟨k,_,h,_⟩;(.exact h);grind
def yr(P:Program)(arr:α->gr)(g:Nat)(lb:gr)(f:α->Bool)(l:List α)(S:Nat->Prop)(w:tW):Prop:=
 ∀(W:tW) (x:α),ak S w W->x∈l->Calls P g (#[.agg<|arr x]++lb) W (dx (.bool<|f x) W)
def ti(f:α->Bool)(ps:List α)(w:tW)(e:Ending)(w':tW):Prop:=∃r:Int,e=.returned (mI r)/\FB f ps r/\Y w w'
def iR{f:α->Bool}{ps:List α}{k}(h:k<ps.length)(h0:(ps.take k).any f=false)(e:f ps[k]=false):(ps.take<|k+1).any f=false:=by exact HS
structure mO (f:α->Bool) (l d:List α) (i j:Nat):Prop where
 len:d.length=l.length
 lt:i<j
 le:j<=l.length
 low:d.take i=(l.take j).filter (λx=>!f x)
 high:∀k,j<=k->d[k]?=l[k]?
def mO.start{f:α->Bool}{l}{k}(h:k<l.length)(e:f l[k]=true)(a:(l.take k).any f=false):mO f l l k<|k+1:=by refine⟨I,O,O,?_,λ_ _=>rfl⟩;rw[gW h,Ar];have:(l.take k).filter (λx=>!f x)=l.take k:=r4;simp [this,e]
def mO.at{f:α->Bool}{l d}{i j}(h:mO f l d i j)(b:j<l.length):∃a:j<d.length,d[j]=l[j]:=by have a:j<d.length:=(by rw[h.len];exact b);refine⟨a,?_⟩;have:=h.high j lJ;grind
def mO.keep{f:α->Bool}{l d}{i j}(h:mO f l d i j)(a:j<l.length)(e:f l[j]=false):mO f l (d.set i l[j]) (i+1)<|j+1:=by have b:=h.len;have c:=h.lt;refine⟨by rw[SR];exact b,O,O,?_,λk g=>?_⟩;(.rw[gW<|by rw[SR];omega,List.take_set_of_le lJ,h.low,gW a,Ar];simp [e]);rw[List.getElem?_set_ne O];exact h.high k O
def mO.skip{f:α->Bool}{l d}{i j}(h:mO f l d i j)(a:j<l.length)(e:f l[j]=true):mO f l d i<|j+1:=by have b:=h.lt;refine⟨h.len,O,O,?_,λk c=>h.high k O⟩;rw[h.low,gW a,Ar];simp [e]
def mO.done{f:α->Bool}{l d}{i}(h:mO f l d i l.length):d.take i=l.filter (λx=>!f x)/\i=(l.filter λx=>!f x).length:=by have a:=h.low;rw[fq] at a;refine⟨a,?_⟩;rw[<-a,ou,h.len];have:=h.lt;omega
def o8{f:α->Bool}{l:List α}(h:l.any f=false):l.filter (λx=>!f x)=l:=r4
def kH(T:TypeId)(n:Nat)(aK:α->qD)(af:Nat)(v:tV)(l:List α)(w:tW)(e:Ending)(w':tW):Prop:=
 ∃a,e=.returned a/\aq T n aK w' af a l/\ak (λi=>v.ownBlock=some i) w w'/\a.ownBlock=v.ownBlock
def j_{P}(c:∀x,(aK x).length=n){d}{rest}{op}{a}{w}{b}(f:op.guard=none)x y(ho:op.op=.store T x y)g E i l(hR:eE T n aK w g E l)(k:i<l.length)(m:a.eval x=.pointer (some ⟨g,i*n,none⟩))(z:α)cells(hz:cells=(aK z).toArray)(o:a.eval y=.agg cells)(e:(P.info? T).map (·.size)=some n)(p:∀u∈aK z,u.oneCell'=true)(h:∀w',eE T n aK w' g E (l.set i z)->ak (λj=>j=g) w w'->wpList P d b rest (a.put op.dst undef) w'):wpList P d b (op::rest) a w:=by subst hz;have hl:=hR.len;have hb:(i+1)*n<=E*n:=nj _ O;rw[HD] at hb;refine V1 f T x y ho g (i*n) (aK z).toArray m o (hR.there _ _<|by simp [c];exact hb) (by simp [c,e]) (all_oneCell_toArray p) ?_;exact h _ (hR.set c i z k) (gZ w g (i*n)<|aK z)
end
section
variable {α : Type} {T : TypeId} {n : Nat} {aK : α → List Value}
def aq.apart{w}{B P}{v}{l}{cs}{T'}(a:T'≠T)(h:aq T n aK w B v l)(hp:A w P cs T'):v.ownBlock≠some P:=by exact Py
def aq.kept{w w'}{B}{v}{l}{S}(h:aq T n aK w B v l)(ho:ak S w w')(a:∀g,v.ownBlock=some g->¬S g):aq T n aK w' B v l:=ho.own h a
def aq.base{w}{B B'}{v}{l}(h:aq T n aK w B v l)(hb:∀g,v.ownBlock=some g->B'<=g):aq T n aK w B' v l:=by obtain⟨c,b⟩:=h;refine⟨c,?_⟩;rcases b with b|⟨g,E,a,rfl,_,d⟩;(.exact .inl b);exact .inr ⟨g,E,a,I,hb g I,d⟩
def aq.lt{w}{B}{v}{l}(h:aq T n aK w B v l):∀k,v.ownBlock=some k->B<=k/\k<w.heap.size:=ld h
def aq.amo{w}{B P}{v}{l}{cs}{T'}(a:T'≠T)(h:aq T n aK w B v l)(b:A w P cs T')i u:aq T n aK (w.setCell (U P i) u) B v l:=
 h.kept (ak.aH (S:=λi=>i=P) (aI (bW w<|some P) (.inl I) u) λ_ e=>(cR e).symm) (λg c e=>h.apart a b<|by rw[c,e])
def SU{w}{b}{cs:qD}{T'}(h:A w b cs.toArray T'):∀j u,cs[j]?=some u->w.cell? (((U b 0):Addr).add j)=some u:=by intro j u a;rw[o9,lp];exact h.cell j (by simpa using a)
def dj{P}{r}{z}{bytes}(f:(P.info? T).map (λi=>(i.zero,i.size,i.bytes))=some (some z,n,bytes))(R:P.underlying r=some (.slice T))(t:z.cells.size=n)(S:0<n)(e:∀x,(aK x).length=n){j}{o}{a}{K}{c}{d:Prop}(B:o.guard=none)s x(ho:o.op=.call {callee:=.builtin .append,args:=#[s,x],argTypes:=#[r,r]})w af v l(W:a.eval s=v)(p:aq T n aK w af v l)(y:α)(q:∀u∈aK y,u.oneCell'=true)cs(C:cs=(aK y).toArray){T'}b(hb:A w b cs T')(hx:a.eval x=.slice (fJ b) 1 1)(hl:l.length+1<=maxLen)(D:(l.length+1)*bytes<=140737488355328)(k:af<=w.heap.size)(h:∀g E w',aq T n aK w' af (.slice (fJ g) (l.length+1) E) (l++[y])->w.grownBy w' v.ownBlock->(v.ownBlock=some g\/g=w.heap.size)->K (a.put o.dst<|.slice (fJ g) (l.length+1) E) w'):if Region.wanted o (yielded j a.tmps)=true then Oper.wp P o a w K c else d:=by obtain⟨i0,hi,G,H,L⟩:=ni f;subst C;refine step_append_lies w B s x r ho af T i0 z n bytes R hi G H L t S v _ _ W p (U b 0) 1 1 (aK y) hx (by rw[e,SD]) (SU hb) q Pz hl D k w I ?_;intro g E w' M m N _;refine h g E w' ?_ m N;unfold aq;grind
def qJ{a b:tW}{v eA:tV}{g4 n4 c4}(f:a.heap.size<=b.heap.size)(hb:eA.ownBlock=v.ownBlock)(c:eA.ownBlock=some g4\/g4=b.heap.size):∀g,(Value.slice (fJ g4) n4 c4).ownBlock=some g->v.ownBlock=some g\/a.heap.size<=g:=by intro g d;have e:g4=g:=cR d;grind
end
def grow(S:Nat->Prop)(w w':tW)(i:Nat):Prop:=(S i\/w.heap.size<=i)/\i<w'.heap.size
def As{S}{w a b}(h:w.heap.size<=a.heap.size):∀i,grow (grow S w a) a b i->grow S w b i:=by rintro i ⟨c|c,d⟩;(.exact⟨c.1,d⟩);exact⟨.inr O,d⟩
def ak.As{S}{w a b}(h:ak S w a)(k:ak (grow S w a) a b):ak S w b:=by refine(h.mono (T:=λi=>S i\/w<=i) λ_ e=>.inl e).trans (k.mono λi e=>e.1)|>.old (λi e=>e)
def aQ{P}{w}{cs}{T}{d}{rest}{op}{a:Act}{c}(g:op.guard=none)uS x y(ho:op.op=.store uS x y)b i(k:a.eval x=SV b i)(hb:A w b cs T)(hi:i<cs.size)u(l:a.eval y=u)(eu:u.cells=#[u])(m:u.oneCell'=true)(Wi:(P.info? uS).map (·.size)=some 1)(h:∀w',A w' b (cs.setIfInBounds i u) T->w.grownBy w' (some b)->wpList P d c rest (a.put op.dst undef) w'):wpList P d c (op::rest) a w:=by refine HT g λK n=>?_;have rS:=Px (P:=P) b i [u] 0 w (λj hj=>akA) (λj _=>hb.free _) (λv o=>by rw[kx.1 o];exact m);have f:(storeVar uS (U b i) u).run P w=.ok () (w.setCell (U b i) u):=agS;unfold Oper.wp execOp;simp only[ho,k,l,Instr.storeAt,Instr.sureAddr,HU,Sem.run_pure,HV,f];exact n _ _ (h _ (hb.set i u) (aI (bW w<|some b) (.inl I) u))
end Go.Proofs.YtkdneaemikbhkaaGreatDoor
namespace Go.Proofs.YtkdneaemikbhkaaGreatDoor
open _root_.Go.Proofs.Tryz Go.RowKit Go.Deep
open Go.Extern.Stop Go.Stop Go.Extern
end Go.Proofs.YtkdneaemikbhkaaGreatDoor
namespace Go.Proofs.YtkdneaemikbhkaaGreatDoor
open _root_.Go.Proofs.Tryz Go.RowKit Go.Deep
open Go.Extern.Stop Go.Stop Go.Extern
end Go.Proofs.YtkdneaemikbhkaaGreatDoor
namespace Go.Proofs.YtkdneaemikbhkaaGreatDoor
open _root_.Go.Proofs.Tryz Go.RowKit Go.Deep
def kj(w:tW)(x:tV)(n m:Int):Prop:=
 (x=.nilIface/\n=0/\m=-1)\/(x=.iface 99 (mI n)/\m=-1)\/
 ∃p,x=.iface 233 (bR p)/\w.cell? (U p 0)=ev n/\w.cell? (U p 1)=ev m
def kj.none w:kj w .nilIface 0<|-1:=.inl ⟨I,I,I⟩
def kj.num w n:kj w (.iface 99<|mI n) n<|-1:=.inr<|.inl ⟨I,I⟩
def kj.later{w w'}{x}{n m}(h:kj w x n m)(hb:Y w w'):kj w' x n m:=by rcases h with h|h|⟨p,h,a,b⟩;(.exact .inl h);(.exact .inr<|.inl h);exact .inr (.inr ⟨p,h,(hb.cell<|rR w _ a).trans a,(hb.cell<|rR w _ b).trans b⟩)
end Go.Proofs.YtkdneaemikbhkaaGreatDoor
namespace Go.Proofs.YtkdneaemikbhkaaGreatDoor
open _root_.Go.Proofs.Tryz Go.RowKit Go.Deep
def C3(ss:jm)(x:F):Bool:=ss.any λy=>x.toList==y.toList
def XU{ss}{x}{k}(h:k<ss.length)(e:(x.toList==ss[k].toList)=true):C3 ss x=true:=
 ys.2 ⟨ss[k],ej h,e⟩
def Tv{ss:jm}{x}{k}(h:k<ss.length)(h0:C3 (ss.take k) x=false)(e:(x.toList==ss[k].toList)=false):C3 (ss.take<|k+1) x=false:=by unfold C3 at *;exact HS
def aiu a E ss(x:F)w(j:bX w a ss)(hl:ss.length<=maxLen):cL 333 #[.slice a ss.length E,x] w λe w'=>∃r:Int,e=.returned (mI r)/\decide (0<=r)=C3 ss x/\w=w':=by unfold maxLen at hl;go_enter func333,ntmps333;go_wp2;go_loopw [8] (λi wr=>∃k:Nat,k<=ss/\i=mI k/\Hid (C3 (ss.take k) x=false)/\w=wr) (λi _=>ss.length - (intOf i).toNat);(.exact⟨0,bt _,I,J<|by simp [C3],I⟩);obtain⟨k,m,rfl,f,rfl⟩:=hrel;by_cases c:k<ss;(.obtain⟨n,p,rfl,g⟩:=j k c;have l:(0:Int)<=(k:Int):=O;cases b:(x.toList==ss[k].toList);(.have d:=J<|Tv c f.out b;generalize ss[k]=y at g b;go_wp2;refine bM ?_;exact⟨k+1,O,cJ,d,sn⟩);have d:=J<|XU c b;generalize ss[k]=y at g b;go_wp2;go_ret;exact⟨(k:Int),I,by rw[d.out];simp,rfl⟩);obtain rfl:ss=k:=O;have d:=J (by have:=f.out;rwa [fq] at this);go_wp2;go_ret;exact⟨-1,I,by rw[d.out];rfl,rfl⟩
def Tw a E ss(x:F)w(b:bX w a ss)(hl:ss.length<=maxLen):cL 294 #[.slice a ss.length E,x] w (rV (.bool<|C3 ss x) w):=by go_enter func294,ntmps294;go_wp2_with fail;apply(aiu a E ss x w b hl).Q;rintro e d ⟨r,rfl,c,rfl⟩;go_wp2;go_ret;exact⟨by rw[<-c];rfl,rfl⟩
end Go.Proofs.YtkdneaemikbhkaaGreatDoor
namespace Go.Proofs.YtkdneaemikbhkaaGreatDoor
open _root_.Go.Proofs.Tryz Go.RowKit Go.Deep
open Go.Maps
abbrev FW:TypeId:=202
def pI:Keyed prog 9:=string_keyed underlying9
def ic(D:DataW Unit)(b:List<|bs):Prop:=Maps.IsMap D/\∀a:Lit,Maps.has D a=true↔∃k∈b,a=.string k
def ic.nil:ic (.map []) []:=by refine⟨Maps.isMap_empty,λa=>?_⟩;constructor;(.intro h;cases h);grind
def ic.put{D}{a}(h:ic D a)k d:ic (D.put (.string k) d)<|a++[k]:=by refine⟨h.1.put _ _,λb=>?_⟩;by_cases e:b=.string k;(.subst e;rw[Maps.has_put_same (k:=.string k) h.1 trivial];grind);rw[Maps.has_put_other e,h.2];grind
def ic.del{D}{a}(h:ic D a)k:ic (D.del<|.string k) (a.filter λx=>!(x==k)):=by refine⟨h.1.del _,λb=>?_⟩;by_cases e:b=.string k;(.subst e;rw[Maps.has_del_same];grind);rw[Maps.has_del_other e,h.2];grind
def ic.eq{D}{d b}(h:ic D d)(a:∀x,x∈d↔x∈b):ic D b:=
 ⟨h.1,λf=>(h.2 f).trans ⟨λ⟨x,c,e⟩=>⟨x,(a x).1 c,e⟩,λ⟨x,c,e⟩=>⟨x,(a x).2 c,e⟩⟩⟩
def ic.mem{D}{a}(h:ic D a){k}(b:Maps.has D (.string k)=true):k∈a:=by obtain⟨x,c,e⟩:=(h.2 _).1 b;cases e;exact c
def ic.size{w:tW}{R}{b n}{D}{a}(h:ic D a)(ho:w.ownsMap prog 9 R b n D):decide (Maps.size D=0)=a.isEmpty:=by obtain⟨es,rfl,_,c⟩:=ho.entries pI;(cases es with|nil =>(cases a with|nil =>rfl|cons k a =>exact absurd ((h.2<|.string k).2 ⟨k,bT,I⟩)<|by simp [Maps.has])|cons p es =>(have d:Maps.has (.map<|p::es) p.1=true:=(by rw[Maps.has_eq,Qa,WideAt.sameKey_self<|c p bT];rfl);obtain⟨k,c,_⟩:=(h.2 _).1 d;cases a with|nil =>cases c|cons k a =>simp [Maps.size]))
def oz{P}{e}(a:P.underlying e=some .bool){v}{z:DataW Unit×List MemPlace}(h:plainElem P e v=some z):∃b,v=.bool b:=by unfold plainElem at h;grind
def Jm c s:((⟨#[c]⟩:F)++s).data.toList=c::s.data.toList:=by rw[cu];rfl
def X8 c s:((⟨#[c]⟩:F)++s).size=s.size+1:=aJ
def Jn{P}{k}{R}{w:tW}{b n}{D:DataW Unit}(h:w.ownsMap P k R b n D){p}{v}(a:w.cell? p=some v):p.block≠b:=by rintro rfl;obtain⟨es,clock,hb,_⟩:=h;simp [World.cell?,hb] at a
def bX.map{P}{k}{R}{w w'}{b n}{D:DataW Unit}{a}{ss}(h:bX w a ss)(ho:w.ownsMap P k R b n D)(f:w.grownBy w'<|some b):bX w' a ss:=by intro i g;obtain⟨c,aj,e,d⟩:=h i g;exact⟨c,aj,e,f.cell d (λe=>Jn ho d<|cR e)⟩
def Bc{f:Array Oper}{rest:List Oper}{o:Oper}{a:Act}{d:Exit->Act->tW->Prop}(w:tW)(K:o.guard=none)(i:Operand)(m:o.op=Op.next i false)(b r n:Nat)(D:DataW Unit)(left:Lit->Bool)(jq:Nat)
  (hit:a.eval i=bR r) (h:w.ranges prog 9 (plainElem prog 4) b r n D left jq)
  (j:(∀p,left p=false)->wpList prog f d rest (a.put o.dst<|.tuple #[false]) w)
  (k:∀(s:F) (c:Bool) (w':tW) (g:Nat),s.size<=maxLen->left (.string s.data.toList)=true->Maps.has D (.string s.data.toList)=true ->
   w'.ranges prog 9 (plainElem prog 4) b r n D (λz=>left z&&!z.sameKey (.string s.data.toList)) g->g<jq->w.grownBy w' (some r)->w'.heap.size=w.heap.size ->
   (Instr.entry<|bR r).run prog w'=.ok (.tuple #[s,c]) w'->wpList prog f d rest (a.put o.dst<|.tuple #[true,s,c]) w'):
  wpList prog f d (o::rest) a w:=
 wpList_next_ranges w K i m 9 pI (plainElem prog 4) Value.string Value.bool (λq p L=>by obtain⟨s,e,_⟩:=WideMaps.string_of_keyOf underlying9 L;exact⟨s,e⟩) (λv y M=>oz underlying4 M) b r n D left jq hit h
  (λ_ hl=>j hl) (λs c p y w' g l t P u x B C G H=>by
   obtain⟨R,e,rfl,N⟩:=WideMaps.string_of_keyOf underlying9 l
   cases e
   exact k s c w' g N t (Maps.has_true_of_atKey u) x B C G H)
end Go.Proofs.YtkdneaemikbhkaaGreatDoor
namespace Go.Proofs.YtkdneaemikbhkaaGreatDoor
open _root_.Go.Proofs.Tryz Go.RowKit Go.Deep
def yJ(w : World): Prop := Lib.TabIs Tryz.prog w "internal/strconv.uint64pow10" .u64 Lib.pow10Tab
def YA: Tryz.prog.globalNamed "internal/strconv.uint64pow10" = some 8 :=dU
def yJ.later{w w'}(h:yJ w)(hb:Y w w'):yJ w':=
 var?_below hb YA (rR w _ (Lib.TabIs.cell h YA 0<|by decide)) h
def NL w cM:Y w<|Go.Sort.grow w cM:=
 ⟨I,I,I,by simp [Go.Sort.grow],λk a=>by simp only[Go.Sort.grow];rw[Array.getElem?_append_left a]⟩
def TP(n:Int)(b:-9223372036854775808<=n)(c:n<=9223372036854775807)w(d:yJ w):cL 262 #[n,mI 10] w<|dx (.string ⟨(Lib.itoa n).toArray⟩) w:=by apply(Tryz.internal_strconv_FormatInt_10 n b c w d).Q;rintro e w' ⟨a,k,cM,rfl⟩;exact⟨a,(aN (aL _ _) k).trans<|show Below w (w.drewN k) _ from NL (w.drewN k) cM⟩
def aeM(n:Int)(a:-9223372036854775808<=n)(b:n<=9223372036854775807)w(c:yJ w):cL 281 #[n] w<|dx (.string ⟨(Lib.itoa n).toArray⟩) w:=by have d:cL 325 #[n] w<|dx (.string ⟨(Lib.itoa n).toArray⟩) w:=(by go_enter func325,ntmps325;go_wp2_with fail;apply(TP n a b w c).Q;exact Es);go_enter func281,ntmps281;go_wp2_with fail;apply d.Q;exact Es
def ZQ(g:Nat)(lb:gr)(p:F->Bool)(ss:jm)(w:tW):Prop:=
 ∀(W:tW) (x:F),Y w W->x∈ss->cL g (#[.string x]++lb) W (dx (.bool<|p x) W)
def ZR(p:F->Bool)(ss:jm)(w:tW)(e:Ending)(w':tW):Prop:=
 ∃r:Int,e=.returned (mI r)/\decide (0<=r)=ss.any p/\Y w w'
def Kh{p}{ss:jm}{k}(h:k<ss.length)(h0:(ss.take k).any p=false)(e:p ss[k]=false):(ss.take<|k+1).any p=false:=by exact HS
def afn{p}{ss:jm}{k}(h:k<ss.length)(e:p ss[k]=true):ss.any p=true:=gA
def Ou(g:Nat)lb p a E ss w(f:bX w a ss)(hl:ss.length<=1048576)(m:∀args w,(callFunc g args).run prog w=.ok (.enter g args) w)(j:ZQ g lb p ss w):cL 290 #[.slice a ss.length E,.func (.func g) #[] lb] w<|ZR p ss w:=by go_enter func290,ntmps290;go_wp2;go_loopw [8] (λi wr=>∃k:Nat,k<=ss/\i=mI k/\Hid (Y w wr)/\Hid ((ss.take k).any p=false)) (λi _=>ss.length - (intOf i).toNat);(.exact⟨0,bt _,I,J<|aL _ _,J I⟩);obtain⟨k,n,rfl,hB,hN⟩:=hrel;by_cases c:k<ss;(.obtain⟨b,aj,rfl,q⟩:=(f.later hB.out) k c;have d:=j wr _ hB.out<|ej c;cases hq:p ss[k];(.rw[hq] at d;have hn:=J<|Kh c hN.out hq;clear hq;go_wp2_with (go_at_fn g;apply d.Q;rintro e l ⟨rfl,dZ⟩);exact Av);rw[hq] at d;have hn:=J<|afn c hq;clear hq;go_wp2_with (go_at_fn g;apply d.Q;rintro e l ⟨rfl,dZ⟩);go_ret;exact⟨_,I,by rw[hn.out];simp,hB.aD dZ⟩);obtain rfl:ss=k:=O;have hn:=J (show ss.any p=false from aeo);go_wp2;go_ret;exact⟨_,I,by rw[hn.out];decide,hB⟩
def Dd(g:Nat)(lb:Array Value)(p:ByteArray->Bool)(a:Option Addr)(E:Nat)(ss:List ByteArray)(w:World)(c:bX w a ss)(hl:ss.length<=1048576)(d:∀args w,(callFunc g args).run Tryz.prog w=.ok (.enter g args) w)(f:ZQ g lb p ss w):Calls Tryz.prog 241 #[.slice a ss.length E,.func (.func g) #[] lb] w λe w'=>e=.returned (.bool<|ss.any p)/\Below w.heap.size w w':=by have i:=Ou g lb p a E ss w c hl d f;clear f c d;go_enter Tryz.func241,Tryz.ntmps241;go_wp2_with fail;apply i.Q;rintro e k ⟨r,rfl,h,j⟩;have b:=Lib.hid h;clear h;go_wp2;go_ret;exact⟨aW b.out,j⟩
end Go.Proofs.YtkdneaemikbhkaaGreatDoor
