import Derived.Test.YtkdneaemikbhkaaGreatDoorZ05
import Derived.Test.YtkdneaemikbhkaaGreatDoorZ06
import Derived.Test.YtkdneaemikbhkaaGreatDoorZ07
set_option linter.all false
set_option maxRecDepth 100000
set_option maxHeartbeats 40000000
namespace Go.Proofs.YtkdneaemikbhkaaGreatDoor
open _root_.Go.Proofs.Tryz Go.RowKit Go.Deep
open Go.ChangeShapes Go.WideShapes Go.ChangeAt Go.WideElems
structure fM where
 ar:pD
 ax:Bool
 user:F
 pass:F
 ask:jt
 count:Int
 paths:jm
structure cj where
 ar:pD
 ax:Bool
 user:F
 pass:F
 ask:nP
 count:Int
 paths:jm
 addr:oT
 cap:Nat
abbrev cj.d(g:cj):fM:=⟨g.ar,g.ax,g.user,g.pass,g.ask.d,g.count,g.paths⟩
abbrev cj.arr(g:cj):gr:=#[.bool g.ar.sec,.string g.ar.host,mI g.ar.port,.bool g.ax,.string g.user,.string g.pass,mI g.ask.d.scheme,.string g.ask.d.al,.string g.ask.d.av,.string g.ask.d.er,.bool g.ask.d.aU,.string g.ask.d.cg,.bool g.ask.d.aP,.slice g.ask.addr g.ask.d.domain.length g.ask.cap,mI g.count,.slice g.addr g.paths.length g.cap]
def bp(g:cj):qD:=g.arr.toList
def aG g:(bp g).length=16:=rfl
def dV(g:cj):g.arr.all (·.oneCell')=true:=by simp [cj.arr,Value.oneCell']
def fB g:∀u∈bp g,u.oneCell'=true:=λu a=>(PB.1<|dV g) u (by simpa [bp] using a)
abbrev aM:TypeId:=98
def aV:(prog.info? 98).map (·.size)=some 16:=dU
abbrev cC:gr:=#[.bool false,fm,mI 0,.bool false,fm,fm,mI 0,fm,fm,fm,.bool false,fm,.bool false,bN,mI 0,bN]
structure ky where
 ar:pD
 ax:Bool
 path:F
 ask:jt
structure dJ where
 ar:pD
 ax:Bool
 path:F
 ask:nP
abbrev dJ.d(g:dJ):ky:=⟨g.ar,g.ax,g.path,g.ask.d⟩
abbrev dJ.arr(g:dJ):gr:=#[.bool g.ar.sec,.string g.ar.host,mI g.ar.port,.bool g.ax,.string g.path,mI g.ask.d.scheme,.string g.ask.d.al,.string g.ask.d.av,.string g.ask.d.er,.bool g.ask.d.aU,.string g.ask.d.cg,.bool g.ask.d.aP,.slice g.ask.addr g.ask.d.domain.length g.ask.cap]
def bS(g:dJ):qD:=g.arr.toList
def bh g:(bS g).length=13:=rfl
def kI(g:dJ):g.arr.all (·.oneCell')=true:=by simp [dJ.arr,Value.oneCell']
def jP g:∀u∈bS g,u.oneCell'=true:=λu a=>(PB.1<|kI g) u (by simpa [bS] using a)
abbrev dY:TypeId:=148
abbrev cz:TypeId:=121
def et:(prog.info? 148).map (·.size)=some 13:=dU
def jQ:(prog.info? 121).map (·.size)=some 13:=dU
abbrev en:gr:=#[.bool false,fm,mI 0,.bool false,fm,mI 0,fm,fm,fm,.bool false,fm,.bool false,bN]
def Au{w w'}{a}{ss}{S}(h:bX w a ss)(ho:ak S w w')(c:∀x,a=some x->¬S x.block):bX w' a ss:=by intro i d;obtain⟨b,aj,e,f⟩:=h i d;exact⟨b,aj,e,ho.cell f<|c (U b aj) e⟩
def f_(w:tW)(a:oT)(ss:jm):Prop:=bX w a ss/\(ss≠[]->∀x,a=some x->∃b c,w.heap[x.block]?=some (.cells b 9 c))
def f_.nil w a:f_ w a []:=⟨bX.nil _ _,λh=>absurd I h⟩
def rm(w:tW)(i:Nat):Prop:=∀a b,w.heap[i]?≠some (.cells a 9 b)
def f_.kept{w w'}{a}{ss}{S}(h:f_ w a ss)(ho:ak S w w')(c:ss≠[]->∀x,a=some x->¬S x.block):f_ w' a ss:=by (cases ss with|nil =>exact f_.nil _ _|cons s r =>refine⟨Au h.1 ho<|c bT,λd x e=>?_⟩;obtain⟨b,f,hb⟩:=h.2 d x e;exact⟨b,f,ho.heap hb<|c d x e⟩)
def f_.later{w w'}{a}{ss}(h:f_ w a ss)(hb:Y w w'):f_ w' a ss:=h.kept (ak.au (S:=λ_=>False) hb) λ_ _ _ e=>e
def f_.stays{w w'}{a}{ss}{S:Nat->Prop}(h:f_ w a ss)(ho:ak (λi=>S i/\rm w i) w w'):f_ w' a ss:=
 h.kept ho (λc x d e=>by
  obtain⟨b,f,hb⟩:=h.2 c x d
  exact e.2 b f hb)
abbrev bU(S:Nat->Prop)(w w':tW):Prop:=ak (λi=>S i/\rm w i) w w'
def bU.only{S}{w w'}(h:bU S w w'):ak S w w':=h.mono λ_ e=>e.1
def bU.trans{S}{w c g}(h:bU S w c)(k:bU (grow S w c) c g):bU S w g:=by refine⟨k.os.trans h.os,k.tape.trans h.tape,k.output.trans h.output,de h.size k.size,λi d j=>?_⟩;rw[k.block i (eP d h.size) λe=>?_,h.block i d j];obtain⟨⟨b,_⟩,m⟩:=e;rcases b with b|b;(.refine j ⟨b,λa l hb=>?_⟩;have f:¬(S i/\rm w i):=λe=>e.2 a l hb;exact m a l<|(h.block i d f).trans hb);omega
def bU.au{S}{w w'}(h:Y w w'):bU S w w':=ak.au h
end Go.Proofs.YtkdneaemikbhkaaGreatDoor
namespace Go.Proofs.YtkdneaemikbhkaaGreatDoor
open _root_.Go.Proofs.Tryz Go.RowKit Go.Deep
def toList_inj{a b:F}(h:a.toList=b.toList):a=b:=kq (by rw[eR,eR] at h;exact h)
def bI(o p:pD):Bool:=(o.sec==p.sec)&&(o.host.toList==p.host.toList)&&(o.port==p.port)
def Ik o p:bI o p=true↔o=p:=by constructor;(.intro h;simp only[bI,xC,beq_iff_eq] at h;obtain⟨⟨e,d⟩,f⟩:=h;obtain⟨a,b,c⟩:=o;obtain⟨g,i,j⟩:=p;simp only at e d f;have d:=toList_inj d;subst e d f;rfl);rintro rfl;simp [bI]
def fN o p w:(binOp .eql 39 (.agg<|pE o) (.agg<|pE p)).run prog w=.ok (.bool<|bI o p) w:=by exact Wu
def bq{P}{c}{rest}{o}{a}{b}w(g:o.guard=none)(bo:BinOp)T T' x y(d:o.op=Op.binOp bo T x y T')bf f(i:a.eval x=.agg bf)(j:a.eval y=.agg f)(k:P.eqGuardType P.depth T=false)v(l:(binOp bo T (.agg bf)<|.agg f).run P w=.ok v w)(h:wpList P c b rest (a.put o.dst v) w):wpList P c b (o::rest) a w:=by refine HT g λm e=>?_;unfold Oper.wp;simp [execOp,d,i,j,run_eqGuard_agg,k,l,Result.andThen];exact e _ _ h
def vS o p w:(binOp .neq 39 (.agg<|pE o) (.agg<|pE p)).run prog w=.ok (.bool<|!bI o p) w:=by obtain⟨a,e,f⟩:=o;obtain⟨b,c,d⟩:=p;have g:(!bI ⟨a,e,f⟩ ⟨b,c,d⟩)=(!(a==b)||(!(e.toList==c.toList)||(!(f==d)||false))):=(by unfold bI;grind);rw[g];go_simp;grind
def b':prog.eqGuardType prog.depth 39=false:=dU
def dH{α:Type}(n:Nat)(b:List α):List α:=b.drop<|b.length - n
def nR(ah p:F):Bool:=Lib.hasPrefix ah.data.toList p.data.toList
def jA:fM:=⟨⟨false,⟨#[]⟩,0⟩,false,⟨#[]⟩,⟨#[]⟩,fL,0,[]⟩
def PI:ky:=⟨⟨false,⟨#[]⟩,0⟩,false,⟨#[]⟩,fL⟩
def ofB(o:pD)(p:Bool)(g:fM):Bool:=bI g.ar o&&(g.ax==p)
def fO(o:pD)(p:Bool)(r:F)(g:fM):Bool:=ofB o p g&&(g.ask.al.toList==r.toList)
def eF(o:pD)(p:Bool)(x:ky):Bool:=bI x.ar o&&(x.ax==p)
def cZ(ah:F)(n:Int)(p:F):Int:=if nR ah p then max n (p.size:Int) else n
def FE(ah:F)(ps:jm):Int:=ps.foldl (cZ ah)<|-1
def ks(o:pD)(p:Bool)(ah:F)(g:fM):Int:=if ofB o p g then FE ah g.paths else -1
def gM(o:pD)(p:Bool)(ah:F)(st:Int×Int)(x:fM×Nat):Int×Int:=
 if 0<=ks o p ah x.1/\st.1<=ks o p ah x.1 then (ks o p ah x.1,(x.2:Int)) else st
def lf(o:pD)(p:Bool)(ah:F)(gs:List fM):Int×Int:=gs.zipIdx.foldl (gM o p ah) (-1,-1)
def iu(o:pD)(p:Bool)(ah:F)(gs:List fM):Int:=(lf o p ah gs).2
def eX(o:pD)(p:Bool)(r:F)(gs:List fM):List fM:=gs.filter λg=>!fO o p r g
def kJ(g:fM)(gs:List fM):List fM:=dH 8<|eX g.ar g.ax g.ask.al gs++[g]
def im(o:pD)(p:Bool)(r:F)(gs:List fM):Option fM:=gs.find?<|fO o p r
def dB(o:pD)(p:Bool)(ws:List ky):List ky:=ws.filter λx=>!eF o p x
def gN(o:pD)(p:Bool)(ws:List ky):Option ky:=ws.find?<|eF o p
def gH(x:ky)(ws:List ky):List ky:=dH 8<|dB x.ar x.ax ws++[x]
def g_(o:pD)(gs:List fM):List fM:=gs.filter λg=>!bI g.ar o
def gb(o:pD)(ws:List ky):List ky:=ws.filter λx=>!bI x.ar o
abbrev fM.more(g:fM):fM:=⟨g.ar,g.ax,g.user,g.pass,g.ask,g.count+1,g.paths⟩
def dI(o:pD)(p:Bool)(ah:F)(gs:List fM):List fM×fM×Int:=
 match gs[(iu o p ah gs).toNat]? with
 |none=>(gs,jA,8)
 |some g=>if iu o p ah gs<0 then (gs,jA,8) else
   if 4294967295<=g.count then (gs.eraseIdx (iu o p ah gs).toNat,jA,12)
   else (gs.eraseIdx (iu o p ah gs).toNat++[g.more],g.more,0)
def fP(a:jt)(p:Bool)(dir:F):jm:=if p ||(a.scheme !=1&&a.domain.isEmpty) then [⟨#[47]⟩] else if a.scheme==1 then [dir] else a.domain
def Ax(ah:F):∀(ps:jm) (n:Int),n<=ps.foldl (cZ ah) n
 |[],n=>Iw n
 |p::r,n=>by
  refine Int.le_trans ?_ (Ax ah r _)
  unfold cZ
  split <;> omega
def Ay o p ah l g:lf o p ah (l++[g])=gM o p ah (lf o p ah l) (g,l.length):=by unfold lf;grind
def Ix o p ah:∀(n:Nat) (l:List fM),l.length=n->-1<=(lf o p ah l).1/\((lf o p ah l).2=-1\/(0<=(lf o p ah l).2/\(lf o p ah l).2<(l.length:Int))):=by intro n;(induction n with|zero =>intro l hl;rw[VH.1 hl];exact⟨Iw<|-1,.inl I⟩|succ n ih =>intro l hl;have a:l≠[]:=(by rintro rfl;simp at hl);have e:=List.dropLast_concat_getLast a;have b:l.dropLast=n:=PJ;obtain⟨c,d⟩:=ih l.dropLast b;rw[<-e,Ay];rw[iG];generalize lf o p ah l.dropLast=st at c d ⊢;unfold gM;grind)
def mQ o p ah l:iu o p ah l=-1\/(0<=iu o p ah l/\iu o p ah l<(l.length:Int)):=(Ix o p ah l.length l I).2
def iS(ok:Bool)(ah:F)(i:Nat)(st:Int×Int)(p:F):Int×Int:=if ok&&nR ah p&&decide (st.1<=(p.size:Int)) then ((p.size:Int),(i:Int)) else st
def Ww(ah:F)(i:Nat):∀(ps:jm) (st:Int×Int),ps.foldl (iS false ah i) st=st
 |[],_=>rfl
 |p::r,st=>by
  rw[vB]
  exact Ww ah i r st
def Wx(ah:F)(i:Nat)(st:Int×Int):∀(ps:jm) (n:Int),-1<=n ->
  ps.foldl (iS true ah i) (if 0<=n/\st.1<=n then (n,(i:Int)) else st)=(if 0<=ps.foldl (cZ ah) n/\st.1<=ps.foldl (cZ ah) n then (ps.foldl (cZ ah) n,(i:Int)) else st)
 |[],n,_=>rfl
 |p::r,n,e=>by
  rw[vB,vB]
  have d:iS true ah i (if 0<=n/\st.1<=n then (n,(i:Int)) else st) p=(if 0<=cZ ah n p/\st.1<=cZ ah n p then (cZ ah n p,(i:Int)) else st):=by
   unfold iS cZ
   cases b:nR ah p
   .simp
   .simp only[Bool.true_and,if_true]
    by_cases c:0<=n/\st.1<=n
    .rw[if_pos c]
     simp only
     by_cases a:n<=(p.size:Int)
     .rw[a'<|by simpa using a,a'<|by omega,Int.max_eq_right a]
     .rw[aY<|by simpa using a,a'<|by omega,Int.max_eq_left<|by omega]
    .rw[aY c]
     by_cases a:st.1<=(p.size:Int)
     .rw[a'<|by simpa using a]
      have:max n (p.size:Int)=p.size:=by omega
      rw[this,a'<|by omega]
     .rw[aY<|by simpa using a,aY<|by omega]
  rw[d]
  refine Wx ah i st r _ ?_
  have:=Ax ah [p] n
  simp only[vB,V0] at this
  omega
def aia o p ah i st g:g.paths.foldl (iS (ofB o p g) ah i) st=gM o p ah st (g,i):=by unfold gM ks;cases h:ofB o p g;(.rw[Ww];simp);have:=Wx ah i st g.paths (-1) O;assumption
def oY(ws:List ky):Prop:=ws.Pairwise λa b=>eF a.ar a.ax b=false
def vT o p x:eF o p x=true↔x.ar=o/\x.ax=p:=by unfold eF;rw[xC,Ik,beq_iff_eq]
def oY.nil:oY []:=List.Pairwise.nil
def oY.take{ws}(h:oY ws)o p:oY<|dB o p ws:=List.Pairwise.filter _ h
def oY.agY{ws}(h:oY ws)o:oY<|gb o ws:=List.Pairwise.filter _ h
def oY.asked{ws}(h:oY ws)x:oY<|gH x ws:=by unfold gH dH;refine List.Pairwise.drop ?_;refine List.pairwise_append.2 ⟨h.take _ _,List.pairwise_singleton _ _,?_⟩;intro a d b hb;obtain rfl:=kx.1 hb;have:=(fY.1 d).2;cases e:eF a.ar a.ax b;(.rfl);have c:=(vT _ _ _).1 e;have f:=(vT _ _ _).2 ⟨c.1.symm,c.2.symm⟩;grind
def S3 o ws:dB o true (dB o false ws)=gb o ws:=by unfold dB gb;rw[PK];apply PL;intro x _;unfold eF;grind
def Wy{ws}(h:oY ws){k}(c:k<ws.length){o}{p}(d:eF o p ws[k]=true)(g:(ws.take k).any (eF o p)=false):ws.take k++ws.drop (k+1)=dB o p ws/\gN o p ws=some ws[k]:=by have a:ws=ws.take k++(ws[k]::ws.drop (k+1)):=(by rw[<-rK c,PM]);have i:(ws.take k).filter (λx=>!eF o p x)=ws.take k:=(by rw[Iy];grind);have j:(ws.drop<|k+1).filter (λx=>!eF o p x)=ws.drop (k+1):=(by rw[Iy];intro x f;have b:=h;unfold oY at b;rw[a,List.pairwise_append] at b;have:=(PN.1 b.2.1).1 x f;have e:=(vT _ _ _).1 d;grind);constructor;(.unfold dB;grind);unfold gN;grind
def S4{ws}{o}{p}(a:ws.any (eF o p)=false):dB o p ws=ws/\gN o p ws=none:=by constructor;(.unfold dB;simp_all);unfold gN;grind
def ug a b ca cb ss w(e:bX w a ss)(f:bX w b ss)(hl:ss.length<=maxLen):cL 184 #[.slice a ss.length ca,.slice b ss.length cb] w<|dx (.bool true) w:=by unfold maxLen at hl;go_enter func184,ntmps184;go_wp2;go_loopw [5] (λi wr=>∃k:Nat,k<=ss/\i=mI k/\Y w wr) (λi _=>ss.length - (intOf i).toNat);(.exact⟨0,bt _,I,aL _ _⟩);obtain⟨k,n,rfl,c⟩:=hrel;by_cases d:k<ss;(.obtain⟨p,q,rfl,g⟩:=(e.later c) k d;obtain⟨r,s,rfl,j⟩:=(f.later c) k d;generalize ss[k]=x at g j;have l:(0:Int)<=(k:Int):=O;have m:(k:Int)<(ss.length:Int):=O;go_wp2;go_quiet (fail);go_wp2;refine bM ?_;exact⟨k+1,O,cJ,aN c _⟩);obtain rfl:ss=k:=O;go_wp2;go_ret;exact⟨I,c⟩
end Go.Proofs.YtkdneaemikbhkaaGreatDoor
namespace Go.Proofs.YtkdneaemikbhkaaGreatDoor
open _root_.Go.Proofs.Tryz Go.RowKit Go.Deep
open Go.Shelf
def U0(c:Nat)(a d:List (bs)->tW->Prop)(bf:List<|bs)(W:tW):Exit->Act->tW->Prop
 |.normal,_,b=>KeepsOthers W b/\b.cell? (U c 0)=W.cell? (U c 0)/\a bf b
 |.ret,_,b=>KeepsOthers W b/\d bf b
 |_,_,_=>False
def pw{W:tW}{l a}{o}(h:a≠l):(W.putObj l o).cell? (U a 0)=W.cell? (U a 0):=by simp only[World.cell?,ahQ h]
def Ln{g:Operand}{ps:Array Tmp}{assign body:Code}{b:Exit->Act->World->Prop}{a:Act}{w:World}(c:UInt8)(r N bk:Nat)(hg:a.eval g=.func (.func 326) #[] #[.pointer<|some ⟨N,0,none⟩,.pointer<|some ⟨r,0,none⟩,.pointer<|some ⟨bk,0,none⟩])(aS:ps.size=1)(b1:r<w.heap.size)(z:ByteArray)(a1:z.size<4294967281)(R:w.cell? ⟨r,0,none⟩=some (.string z))(d Ix:List (List UInt8)->World->Prop)(S:OwnFrom w.heap.size d)(T:OwnFrom w.heap.size Ix)(h0:d [] w)(a6:∀f W v,d f W->d f (W.setCell ⟨r,0,none⟩ v))(a8:∀f W,d f W->W.cell? ⟨N,0,none⟩=some (.string ⟨#[c]⟩)/\W.cell? ⟨bk,0,none⟩=some (.int .i64 0)/\W.frozen? ⟨r,0,none⟩=false)(y:ByteArray->Act)(m:∀(l:Nat) (x:ByteArray) (W:World) (K:Act->World->Prop),K (y x) W->assign.wpIn (Fence.wide.inRound l) 2 Tryz.prog (Exit.then K λ_ _ _=>False) {tmps:=(ps.zip #[.string x]).foldl (λt (p,v)=>t.setIfInBounds p v) a.tmps,defers:=[]} W)(B:∀(l:Nat) (f:List<|List UInt8) (x:ByteArray) (W:World),d f W->x.size<=z.size->body.wpIn (Fence.wide.inRound l) 2 Tryz.prog (U0 r d Ix (f++[x.data.toList]) W) (y x) W)(C:∀(D:Nat) (W:World),w.heap.size<=D->d (dA c z.data.toList) W->W.heap[D]?=some (.deferred<|some [])->b .normal {a with defers:={target:=.collected D,args:=#[]}::a.defers} W)(G:∀(D:Nat) (f:List<|List UInt8) (W:World),w.heap.size<=D->f <+: dA c z.data.toList->Ix f W->W.heap[D]?=some (.deferred<|some [])->Code.ret.wpIn Fence.wide 4 Tryz.prog b {a with defers:={target:=.collected D,args:=#[]}::a.defers} W):(Code.rangeFunc g ps assign body).wpIn Fence.wide 4 Tryz.prog b a w:=by refine wpIn_rangeFunc ?_;intro fn ba;let k:LoopState->Option Code->Loop:=λst pe=>{state:=st,pending:=pe,fn,tmps:=a.tmps,params:=ps,assign,body,defers:=w.heap.size};obtain⟨rec,i⟩:∃rec,rec=k:=⟨_,rfl⟩;obtain⟨s,n⟩:∃s,(w.alloc (.deferred<|some [])).alloc (.loop<|rec .ready none)=s:=⟨_,rfl⟩;have bb:s.heap[w.heap.size+1]?=some (.loop<|rec .ready none):=(by rw[<-n];have:=World.alloc_heap_new (w.alloc (.deferred<|some [])) (.loop<|rec .ready none);rwa [World.size_alloc] at this);have bc:s.heap[w.heap.size]?=some (.deferred<|some []):=(by rw[<-n];exact(Below.heap_alloc _ _ _<|by simp).trans (World.alloc_heap_new w _));have bd:d [] s:=(by rw[<-n];exact S.alloc _<|S.alloc _ h0);have bo:s.cell? ⟨r,0,none⟩=some (.string z):=(by rw[<-n,World.cell?_alloc_old _ _ _<|by simp;omega,World.cell?_alloc_old _ _ _<|by simp;omega];exact R);refine⟨w+1,[{target:=.collected w.heap.size,args:=#[]}],s,{target:=.fn (.func 326) #[.pointer<|some ⟨N,0,none⟩,.pointer<|some ⟨r,0,none⟩,.pointer<|some ⟨bk,0,none⟩],args:=#[.func (.yield<|w+1) #[] #[]]},s,326,#[.func (.yield<|w+1) #[] #[],.pointer<|some ⟨N,0,none⟩,.pointer<|some ⟨r,0,none⟩,.pointer<|some ⟨bk,0,none⟩],s,?_,?_,λ_ _=>trivial,?_,λ_=>by decide,?_⟩;(.rw[<-n,i];exact run_enterLoop_outer _ _ _ _ _);(.simp only[resolve,hg];simp [go_sem]);(.simp [invoke,go_sem]);refine(G1 c (w+1) r N bk (λf W=>d f W/\W.heap[w.heap.size+1]?=some (.loop<|rec .ready none)/\W.heap[w.heap.size]?=some (.deferred<|some [])) (λf W=>Ix f W/\W.heap[w.heap.size+1]?=some (.loop (rec .done<|some .ret))/\W.heap[w.heap.size]?=some (.deferred<|some [])) z a1 (λf W v h=>⟨a6 _ _ _ h.1,(Below.heap_setCell W _ v _<|by simp;omega).trans h.2.1,(Below.heap_setCell W _ v _<|by simp;omega).trans h.2.2⟩) (λf W h=>a8 _ _ h.1) ?_ s bo ⟨bd,bb,bc⟩).mono ?_;(.rintro f x W ⟨hi,hl,hd⟩ hx;have bv:w.heap.size+1<W:=(Array.getElem?_eq_some_iff.1 hl).1;have hy:=run_yield (P:=Tryz.prog) (args:=#[.string x]) hl (by rw[i];simp [k,aS]);rw[i] at hy;refine⟨fn,_,assign,body,hy,roundIn_of_wpIn ba (m _ x W _ ⟨_,run_beginRound hl<|by rw[i],?_⟩)⟩;have ab:(W.putObj (w+1)<|.loop {rec .ready none with state:=.busy}).heap[w.heap.size+1]?=some (.loop {rec .ready none with state:=.busy}):=World.putObj_heap_same bv;have ad:(W.putObj (w+1)<|.loop {rec .ready none with state:=.busy}).heap[w.heap.size]?=some (.deferred<|some []):=(World.putObj_heap_other<|by omega).trans hd;refine wpIn_mono (B _ f x _ (S.putObj _ hi (by omega) hl rfl) hx) ?_;rintro e a3 W3 M;(cases e with|normal =>obtain⟨o,b0,H⟩:=M;have j:=o.same _ _ ab rfl;have L:=o.same _ _ ad rfl;have q:=(Array.getElem?_eq_some_iff.1 j).1;have u:=run_endRound (P:=Tryz.prog) none j;refine⟨_,_,u,.inl ⟨rfl,⟨S.putObj _ H (by omega) j rfl,?_,(World.putObj_heap_other<|by omega).trans L⟩,?_⟩⟩;(.rw[World.putObj_heap_same q,i];rfl);rw[pw<|by omega,b0,pw<|by omega]|ret =>obtain⟨o,H⟩:=M;have j:=o.same _ _ ab rfl;have L:=o.same _ _ ad rfl;have q:=(Array.getElem?_eq_some_iff.1 j).1;have u:=run_endRound (P:=Tryz.prog) (some .ret) j;refine⟨_,_,u,.inr ⟨rfl,T.putObj _ H (by omega) j rfl,?_,(World.putObj_heap_other<|by omega).trans L⟩⟩;rw[World.putObj_heap_same q,i];rfl|exit id =>exact M.elim|goto t =>exact M.elim|panic ch =>exact M.elim|outgrown =>exact M.elim));rintro e W2 ⟨⟨v,rfl⟩,(⟨hi,hl,hd⟩|⟨f,_,aD,hi,hl,hd⟩)⟩;(.have u:=run_endLoop (P:=Tryz.prog) hl (by rw[i];simp [k]);rw[i] at u;exact⟨none,_,u,C _ _ lJ (S.putObj _ hi (by omega) hl rfl) ((World.putObj_heap_other<|by omega).trans hd)⟩);have u:=run_endLoop (P:=Tryz.prog) hl (by rw[i];simp [k]);rw[i] at u;exact⟨some .ret,_,u,G _ _ _ lJ aD (T.putObj _ hi (by omega) hl rfl) ((World.putObj_heap_other<|by omega).trans hd)⟩
end Go.Proofs.YtkdneaemikbhkaaGreatDoor
