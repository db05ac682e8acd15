import Derived.Test.YtkdneaemikbhkaaGreatDoorZ31
import Derived.Test.YtkdneaemikbhkaaGreatDoorZ35
import Derived.Test.YtkdneaemikbhkaaGreatDoorZ36
set_option linter.all false
set_option maxRecDepth 100000
set_option maxHeartbeats 40000000
namespace Go.Proofs.YtkdneaemikbhkaaGreatDoor
open _root_.Go.Proofs.Tryz Go.RowKit Go.Deep
open Go.ChangeShapes Go.WideShapes Go.ChangeAt Go.WideElems
def aiM a b ca cb l w(t:fa w a l)(v:fa w b l)(hl:l.length<=1048576):cL 26 #[.slice a l.length ca,.slice b l.length cb] w<|dx (.bool true) w:=by go_enter func26,ntmps26;go_wp2;go_loopw [5] (λi wr=>∃k:Nat,k<=l/\i=mI k/\Hid (Y w wr)) (λi _=>l.length - (intOf i).toNat);(.exact⟨0,bt _,I,J<|aL _ _⟩);obtain⟨k,H,rfl,p⟩:=hrel;by_cases s:k<l;(.obtain⟨f,g,rfl,d⟩:=(t.later p.out) k s;obtain⟨j,n,rfl,e⟩:=(v.later p.out) k s;generalize l[k]=x at d e;obtain⟨⟨q,y,z⟩,⟨r,B,C⟩,ah,c,bB,m,h,u⟩:=x;have c0:wr.cell? ⟨f,g+k*12,none⟩=some (.bool q):=d 0 _ I;have c1:wr.cell? ⟨f,g+k*12+1,none⟩=some (.string y):=d 1 _ I;have c2:wr.cell? ⟨f,g+k*12+2,none⟩=ev z:=d 2 _ I;have c3:wr.cell? ⟨f,g+k*12+3,none⟩=some (.bool r):=d 3 _ I;have c4:wr.cell? ⟨f,g+k*12+4,none⟩=some (.string B):=d 4 _ I;have c5:wr.cell? ⟨f,g+k*12+5,none⟩=ev C:=d 5 _ I;have K:wr.cell? ⟨f,g+k*12+6,none⟩=some (.string ah):=d 6 _ I;have L:wr.cell? ⟨f,g+k*12+7,none⟩=some (.string c):=d 7 _ I;have M:wr.cell? ⟨f,g+k*12+8,none⟩=some (.bool bB):=d 8 _ I;have N:wr.cell? ⟨f,g+k*12+9,none⟩=some (.string m):=d 9 _ I;have D:wr.cell? ⟨f,g+k*12+10,none⟩=some (.string h):=d 10 _ I;have G:wr.cell? ⟨f,g+k*12+11,none⟩=ev u:=d 11 _ I;have d0:wr.cell? ⟨j,n+k*12,none⟩=some (.bool q):=e 0 _ I;have d1:wr.cell? ⟨j,n+k*12+1,none⟩=some (.string y):=e 1 _ I;have d2:wr.cell? ⟨j,n+k*12+2,none⟩=ev z:=e 2 _ I;have d3:wr.cell? ⟨j,n+k*12+3,none⟩=some (.bool r):=e 3 _ I;have d4:wr.cell? ⟨j,n+k*12+4,none⟩=some (.string B):=e 4 _ I;have d5:wr.cell? ⟨j,n+k*12+5,none⟩=ev C:=e 5 _ I;have d6:wr.cell? ⟨j,n+k*12+6,none⟩=some (.string ah):=e 6 _ I;have d7:wr.cell? ⟨j,n+k*12+7,none⟩=some (.string c):=e 7 _ I;have d8:wr.cell? ⟨j,n+k*12+8,none⟩=some (.bool bB):=e 8 _ I;have d9:wr.cell? ⟨j,n+k*12+9,none⟩=some (.string m):=e 9 _ I;have d10:wr.cell? ⟨j,n+k*12+10,none⟩=some (.string h):=e 10 _ I;have d11:wr.cell? ⟨j,n+k*12+11,none⟩=ev u:=e 11 _ I;clear d e t v;go_wp2_with fail;go_quiet (fail);go_wp2;refine bM ?_;exact⟨k+1,O,cJ,J<|aN p.out _⟩);obtain rfl:l=k:=O;go_wp2;go_ret;exact⟨I,p⟩
end Go.Proofs.YtkdneaemikbhkaaGreatDoor
namespace Go.Proofs.YtkdneaemikbhkaaGreatDoor
open _root_.Go.Proofs.Tryz Go.RowKit Go.Deep
def u_{P}{b}{S}{o}{a}(c:Region.wanted o (yielded b a.tmps)=true)(bo:BinOp)T T' x y(d:o.op=Op.binOp bo T x y T')bf e(f:a.eval x=.agg bf)(g:a.eval y=.agg e)(h:P.eqGuardType P.depth T=false)v(i:∀w,(binOp bo T (.agg bf)<|.agg e).run P w=.ok v w):YieldsIf P b S o v a:=
 .inl ⟨c,λw _=>by simp [execOp,d,f,g,run_eqGuard_agg,h,i,Result.andThen]⟩
def N4{w}{q}{r:l4}(h:A w q r.arr cq):w.rangeAt q 1<|mP r.ar:=λj v a=>by
 match j,a with
 |0,a=>cases a;exact h.cell 1 I
 |1,a=>cases a;exact h.cell 2 I
 |2,a=>cases a;exact h.cell 3 I
def N5{w}{q}{r:l4}(h:A w q r.arr cq):w.rangeAt q 4<|mP r.dest:=λj v a=>by
 match j,a with
 |0,a=>cases a;exact h.cell 4 I
 |1,a=>cases a;exact h.cell 5 I
 |2,a=>cases a;exact h.cell 6 I
def Bu{w w':tW}{l}{v}(h:aq aZ 12 aX w' w v l):∃a E,v=.slice a l.length E/\fa w' a l:=by obtain⟨a,E,e,b,_⟩:=aq.shape aE h;exact⟨a,E,e,b⟩
def JO b S bk r(V:Int)w(D:fD w b S bk)(hl:bk.length<=100000)(x:iU w)(y:r.Ok w)(q:r.bA.length<=1000)(hz:∀p∈r.bA,p.1.size<=1000/\p.2.size<=1000):cL 17 #[bR b,.agg r.arr,V] w (dx (.bool<|kL r V bk) w):=by have c:=(aL w w).alloc lJ<|.cells r.arr cq;have j:=A.new w r.arr cq;obtain⟨w1,hw1⟩:∃w1,w1=w.alloc (.cells r.arr cq):=⟨_,I⟩;rw[<-hw1] at c j;have l:=λw' (h:Y w1 w')=>TT r w' ((x.later c).later h) ((y.later c).later h) q hz;have s:=λw' (h:Y w1 w')=>YY b S bk r V w' ((D.later c).later h) hl;have m:=λw' (h:Y w1 w') a E (G:fa w' a<|gP r V bk)=>uY r a E (gP r V bk) w' ((x.later c).later h) ((y.later c).later h) G q hz (de (fx _ _)<|de hl Z);have cF:∀w',Y w1 w'->Y w1 w'/\A w' w r.arr cq:=λw' h=>⟨h,j.later h⟩;have i:=J c;have ny:Y w1 w1.drew:=(aL _ _).drew;have t:kL r V bk=(!Ew r ||nZ r (gP r V bk)):=I;clear D x y hz c j;obtain⟨z,u⟩:∃z,Ew r=z:=⟨_,I⟩;simp only[u] at l t;clear u;cases z;(.have f:=J (show kL r V bk=true from by rw[t];rfl);clear t;refine Y4 ?_;intro _ _ _ ai K hK;clear hw1;go_simp;apply(l _ ny).Q;rintro e H ⟨rfl,d⟩;have g:=ny.aD d;refine rF hK (cF _ g) λai=>?_;refine tK 2 ?_;refine tK 3 ?_;refine tU 4 ?_;refine tU 5 ?_;refine tU 6 ?_;refine tU 7 ?_;refine tU 8 ?_;refine tU 9 ?_;refine tK 10 ?_;refine tK 11 ?_;refine dN ?_;clear ny cF;go_wp2;go_ret;exact⟨aW f.symm,i.aD g⟩);have f:=J (show kL r V bk=nZ r (gP r V bk) from by rw[t];rfl);clear t;generalize nZ r (gP r V bk)=cv at m f;generalize gP r V bk=L at s m;refine Y4 ?_;intro _ _ _ ai K hK;clear hw1;go_simp;apply(l _ ny).Q;rintro e H ⟨rfl,d⟩;have g:=ny.aD d;refine rF hK (cF _ g) λai=>?_;refine tK 2 ?_;refine tK 3 ?_;refine tL 4 r.arr w 0 r.arr.toList (λw h=>h.2.range) underlying44 bK ?_;refine tK 5 ?_;refine tL 6 r.arr w 0 r.arr.toList (λw h=>h.2.range) underlying44 bK ?_;refine tK 7 ?_;refine rD 8 λK hK=>?_;go_simp;apply(s _ g).Q;rintro e M ⟨⟨v3,rfl,B⟩,d⟩;have n:=g.aD d;obtain⟨a3,c3,rfl,C⟩:=Bu B;refine rF hK (cF _ n) λai=>?_;refine rD 9 λK hK=>?_;go_simp;apply(m _ n a3 c3 C).Q;rintro e N ⟨rfl,d⟩;have v:=n.aD d;refine rF hK (cF _ v) λai=>?_;refine tK 10 ?_;refine tK 11 ?_;refine dN ?_;clear ny cF;go_wp2;go_ret;exact⟨aW f.symm,i.aD v⟩
def qj:(prog.info? 39).map (·.size)=some 3:=dU
def Db a E bk r(V:Int)w(C:fa w a bk)(y:∀p∈bk,p.Ok)(hl:bk.length<=100000)(G:iU w)(H:r.Ok w)(z:r.bA.length<=1000)(hz:∀p∈r.bA,p.1.size<=1000/\p.2.size<=1000):cL 50 #[.slice a bk.length E,.agg r.arr,V] w (dx (.bool<|kL r V bk) w):=by have f:=(aL w w).alloc lJ<|.cells r.arr cq;have t:=A.new w r.arr cq;obtain⟨m,g⟩:∃m,m=w.alloc (.cells r.arr cq):=⟨_,I⟩;rw[<-g] at f t;have n:=λw' (h:Y m w')=>xQ r none 0 [] w' ((G.later f).later h) ((H.later f).later h) (λi P=>absurd P bT) (λp L=>absurd L bT) z hz bT;have s:=λw' (h:Y m w')=>N1 a E bk r V w' ((C.later f).later h) hl;have o:=λw' (h:Y m w') a E (C:fa w' a<|gP r V bk)=>xQ r a E (gP r V bk) w' ((G.later f).later h) ((H.later f).later h) C (λp L=>y p (fY.1 L).1) z hz (de (fx _ _)<|de hl Z);have c:∀w',Y m w'->Y m w'/\A w' w r.arr cq:=λw' h=>⟨h,t.later h⟩;have q:=J f;have d:Y m m.drew:=(aL _ _).drew;have D:=λw=>fN r.ar r.dest w;have u:kL r V bk=(!(!bI r.ar r.dest&&!nZ r [])||nZ r (gP r V bk)):=I;clear C G H hz f t y;generalize bI r.ar r.dest=R at D u;generalize nZ r []=c0 at n u;rw[show([]:List dL).length=0 from I] at n;cases R;(.cases c0;(.have k:=J (show kL r V bk=nZ r (gP r V bk) from by rw[u];rfl);clear u;generalize nZ r (gP r V bk)=cv at o k;generalize gP r V bk=T at s o;go_enter func50,ntmps50;go_upto_region 1 with(fail);rw[<-g];clear g;refine rG (λw'=>Y m w'/\A w' w r.arr cq) (c _ d) λb=>?_;refine tK 0 ?_;refine tL 1 _ w 1 (mP r.ar) (λw h=>N4 h.2) underlying39 qj ?_;refine tK 2 ?_;refine tK 3 ?_;refine tL 4 _ w 4 (mP r.dest) (λw h=>N5 h.2) underlying39 qj ?_;refine wP (i:=5) I dU dU dU (λ_ _ _ h=>h) (u_ aJ .eql 39 39 _ _ aJ (pE r.ar) (pE r.dest) aJ aJ b' _ D) eD ?_;(try simp only[pT,Act.put]);refine tK 6 ?_;refine tL 7 r.arr w 0 r.arr.toList (λw h=>h.2.range) underlying44 bK ?_;refine rD 8 λK v=>?_;go_simp;apply(n _ d).Q;rintro e S ⟨rfl,j⟩;have l:=d.aD j;refine rF v (c _ l) λb=>?_;refine tK 9 ?_;refine tK 10 ?_;refine tL 11 r.arr w 0 r.arr.toList (λw h=>h.2.range) underlying44 bK ?_;refine tK 12 ?_;refine tL 13 r.arr w 0 r.arr.toList (λw h=>h.2.range) underlying44 bK ?_;refine tK 14 ?_;refine rD 15 λK v=>?_;go_simp;apply(s _ l).Q;rintro e W ⟨⟨v3,rfl,M⟩,j⟩;have x:=l.aD j;obtain⟨a3,c3,rfl,N⟩:=Bu M;refine rF v (c _ x) λb=>?_;refine rD 16 λK v=>?_;go_simp;apply(o _ x a3 c3 N).Q;rintro e w4 ⟨rfl,j⟩;have B:=x.aD j;refine rF v (c _ B) λb=>?_;refine tK 17 ?_;refine tK 18 ?_;refine dN ?_;clear d c;go_wp2;go_ret;exact⟨aW k.symm,q.aD B⟩);have k:=J (show kL r V bk=true from by rw[u];rfl);clear u s o;go_enter func50,ntmps50;go_upto_region 1 with(fail);rw[<-g];clear g;refine rG (λw'=>Y m w'/\A w' w r.arr cq) (c _ d) λb=>?_;refine tK 0 ?_;refine tL 1 _ w 1 (mP r.ar) (λw h=>N4 h.2) underlying39 qj ?_;refine tK 2 ?_;refine tK 3 ?_;refine tL 4 _ w 4 (mP r.dest) (λw h=>N5 h.2) underlying39 qj ?_;refine wP (i:=5) I dU dU dU (λ_ _ _ h=>h) (u_ aJ .eql 39 39 _ _ aJ (pE r.ar) (pE r.dest) aJ aJ b' _ D) eD ?_;(try simp only[pT,Act.put]);refine tK 6 ?_;refine tL 7 r.arr w 0 r.arr.toList (λw h=>h.2.range) underlying44 bK ?_;refine rD 8 λK v=>?_;go_simp;apply(n _ d).Q;rintro e S ⟨rfl,j⟩;have l:=d.aD j;refine rF v (c _ l) λb=>?_;refine tK 9 ?_;refine tK 10 ?_;refine tU 11 ?_;refine tU 12 ?_;refine tU 13 ?_;refine tU 14 ?_;refine tU 15 ?_;refine tU 16 ?_;refine tK 17 ?_;refine tK 18 ?_;refine dN ?_;clear d c;go_wp2;go_ret;exact⟨aW k.symm,q.aD l⟩);clear s o n;go_enter func50,ntmps50;go_upto_region 1 with(fail);rw[<-g];clear g;refine rG (λw'=>Y m w'/\A w' w r.arr cq) (c _ d) λb=>?_;refine tK 0 ?_;refine tL 1 _ w 1 (mP r.ar) (λw h=>N4 h.2) underlying39 qj ?_;refine tK 2 ?_;refine tK 3 ?_;refine tL 4 _ w 4 (mP r.dest) (λw h=>N5 h.2) underlying39 qj ?_;refine wP (i:=5) I dU dU dU (λ_ _ _ h=>h) (u_ aJ .eql 39 39 _ _ aJ (pE r.ar) (pE r.dest) aJ aJ b' _ D) eD ?_;(try simp only[pT,Act.put]);refine tK 6 ?_;refine tU 7 ?_;refine tU 8 ?_;refine tK 9 ?_;refine tK 10 ?_;refine tU 11 ?_;refine tU 12 ?_;refine tU 13 ?_;refine tU 14 ?_;refine tU 15 ?_;refine tU 16 ?_;refine tK 17 ?_;refine tK 18 ?_;refine dN ?_;clear c;go_wp2;go_ret;exact⟨aW (show kL r V bk=true from by rw[u];rfl).symm,q.aD d⟩
end Go.Proofs.YtkdneaemikbhkaaGreatDoor
namespace Go.Proofs.YtkdneaemikbhkaaGreatDoor
open _root_.Go.Proofs.Tryz Go.RowKit Go.Deep
open Go.ChangeShapes Go.WideShapes Go.ChangeAt Go.WideElems
structure BOp where
 bE:Int
 X:l4
 addr:oT
 cap:Nat
 Ga:List dL
 now:Int
abbrev BOp.arr(o:BOp):gr:=#[mI o.bE,mI o.X.part,.bool o.X.ar.sec,.string o.X.ar.host,mI o.X.ar.port,.bool o.X.dest.sec,.string o.X.dest.host,mI o.X.dest.port,.string o.X.path,.string o.X.query,.string o.X.method,.slice o.X.addr o.X.bA.length o.X.cap,.bool o.X.bB,.string o.X.body,.slice o.addr o.Ga.length o.cap,mI o.now]
structure BOp.Ok (w:tW) (o:BOp):Prop where
 X:o.X.Ok w
 row:fa w o.addr o.Ga
 pok:∀p∈o.Ga,p.Ok
 adr:∀x,o.addr=some x->o.Ga≠[]->x.block<w.heap.size
structure oJ (W:tW) (b:Nat) (wr:tW) (c a:List dL) (ra:oT) (S:Nat->Prop):Prop where
 low:Y W wr
 book:fD wr b S c
 base:∀i,S i->W.heap.size<=i
 row:fa wr ra a
 kO:∀x,ra=some x->¬S x.block/\x.block<wr.heap.size
 ok:∀p∈a,p.Ok
def oJ.later{W}{b}{wr wx}{a c}{ra}{S}(h:oJ W b wr a c ra S)(hb:Y wr wx):oJ W b wx a c ra S:=
 ⟨h.low.aD hb,h.book.later hb,h.base,h.row.later hb,λx d=>⟨(h.kO x d).1,eP (h.kO x d).2 hb.size⟩,h.ok⟩
def oJ.prog{W}{b}{wr wx}{e a d}{ra}{S}(h:oJ W b wr e d ra S)(f:fD wx b (grow S wr wx) a)(ho:ak S wr wx):oJ W b wx a d ra<|grow S wr wx:=by refine⟨ho.below h.low h.low.size h.base,f,?_,?_,?_,h.ok⟩;(.exact XB);(.exact ho.rowAt h.row λx c=>(h.kO x c).1);intro x c;obtain⟨h1,h2⟩:=h.kO x c;exact P2
def oJ.ref{W}{b}{wr wx}{g k a}{ra i}{S}{n c}(h:oJ W b wr g k ra S)(hb:Y wr wx)(j:aq aZ 12 aX wx wr (.slice i n c) a)(d:∀p∈a,p.Ok):oJ W b wx g a i S:=by have f:=h.later hb;obtain⟨a2,c2,e,l,_⟩:=aq.shape aE j;simp only[MU] at e;obtain⟨rfl,_,_⟩:=e;refine⟨f.low,f.book,f.base,l,λx m=>?_,d⟩;have:=j.lt x.block (by rw[m];rfl);exact⟨λo=>by have:=h.book.bd _ o;omega,this.2⟩
def oJ.start W:oJ W W (W.alloc<|.cells #[bN] nC) [] [] none λi=>i=W.heap.size:=
 ⟨(aL _ _).alloc lJ _,⟨⟨_,A.new _ _ _,aq.nil _ _,λg b=>by cases b⟩,rfl,λi a=>by rw[a];simp⟩,λi a=>by rw[a];exact gK _,cE.nil _ _,(λx c=>by cases c),(λp d=>by cases d)⟩
def aiN{bk l}{V}(h:∀p∈bk,p.Ok)(c:∀p∈l,p.Ok):∀p∈ir 32 bk l V,p.Ok:=by have d:∀(l b:List dL),(∀p∈b,p.Ok)->(∀p∈l,p.Ok)->∀p∈l.foldl qh b,p.Ok:=(by intro l;(induction l with|nil =>intro b hb _;exact hb|cons x r ih =>intro b hb hl;rw[vB];refine ih _ ?_ (λp a=>hl p<|DR _ a);intro p a;unfold qh at a;grind));intro p a;unfold ir dH at a;grind
end Go.Proofs.YtkdneaemikbhkaaGreatDoor
namespace Go.Proofs.YtkdneaemikbhkaaGreatDoor
open _root_.Go.Proofs.Tryz Go.RowKit Go.Deep
abbrev lK:TypeId:=63
abbrev Qz:TypeId:=60
structure ey where
 bb:Nat
 ob:Nat
 cv:tV
 Sb:Nat->Prop
 So:Nat->Prop
 Sc:Nat->Prop
def ey.S(B:ey)(i:Nat):Prop:=B.Sb i\/B.So i\/B.Sc i
structure dM where
 gs:List fM
 ws:List ky
 bk:List dL
 cs:List nm
structure dX (w:tW) (b:Nat) (ca:gr) (off:Nat) (B:ey) (D:dM):Prop where
 bF:A w b ca lK
 sz:ca.size=13
 ho:off+2<13
 c0:ca[off]?=vb B.bb
 c1:ca[off+1]?=vb B.ob
 c2:ca[off+2]?=some B.cv
 l5:eQ w B.bb B.Sb D.gs D.ws
 book:fD w B.ob B.So D.bk
 cert:aq zl 4 cI w 0 B.cv D.cs
 cs:∀g,B.cv.ownBlock=some g->B.Sc g
 cb:∀i,B.Sc i->i<w.heap.size
 bo:∀i,B.Sb i->¬B.So i
 bc:∀i,B.Sb i->¬B.Sc i
 oc:∀i,B.So i->¬B.Sc i
 nb:¬B.S b
def dX.bd{w}{b}{ca}{aj}{B}{D}(h:dX w b ca aj B D):∀i,B.S i->i<w.heap.size:=λi a=>by
 rcases a with e|e|e
 .exact h.l5.bd i e
 .exact h.book.bd i e
 .exact h.cb i e
def dX.kept{w w'}{b}{ca}{aj}{B}{D}{S}(h:dX w b ca aj B D)(ho:ak S w w')(c:∀i,B.S i->¬S i)(hb:¬S b):dX w' b ca aj B D:=
 ⟨ho.bF h.bF hb,h.sz,h.ho,h.c0,h.c1,h.c2,h.l5.kept ho (λi a=>c i<|.inl a),h.book.kept ho (λi a=>c i (.inr<|.inl a)),h.cert.kept ho (λg d=>c g (.inr (.inr<|h.cs g d))),h.cs,λi a=>eP (h.cb i a) ho.size,h.bo,h.bc,h.oc,h.nb⟩
def dX.later{w w'}{b}{ca}{aj}{B}{D}(h:dX w b ca aj B D)(hb:Y w w'):dX w' b ca aj B D:=
 h.kept (ak.au (S:=λ_=>False) hb) (λ_ _ e=>e) (λe=>e)
structure cN (w w':tW) (b off:Nat) (ca Hw:gr) (B B':ey):Prop where
 only:bU (λi=>B.S i\/i=b) w w'
 jv:∀i,B'.S i->B.S i\/w.heap.size<=i
 same:∀j,(j<off\/off+2<j)->Hw[j]?=ca[j]?
def cN.below{w w'}{b aj}{ca}{B}(h:Y w w'):cN w w' b aj ca ca B B:=⟨bU.au h,λ_ a=>.inl a,λ_ _=>rfl⟩
def cN.trans{w c f}{b aj}{ca c1 c2}{B d g}{n}(h:cN w c b aj ca c1 B d)(l:dX c b c1 aj d n)(k:cN c f b aj c1 c2 d g):cN w f b aj ca c2 B g:=by refine⟨h.only.trans<|k.only.mono ?_,?_,λj m=>(k.same j m).trans<|h.same j m⟩;(.rintro i ⟨a,o⟩;refine⟨?_,o⟩;rcases a with a|rfl;(.refine⟨?_,l.bd i a⟩;rcases h.jv i a with e|e;(.exact nD);exact .inr e);exact⟨.inl<|.inr I,l.bF.lt⟩);intro i p;rcases k.jv i p with e|e;(.exact h.jv i e);exact .inr<|de h.only.size e
def dX.lj{w w'}{b}{ca}{aj}{B}{D}{a}{c}(h:dX w b ca aj B D)(j:eQ w' B.bb (grow B.Sb w w') a c)(ho:bU B.Sb w w'):dX w' b ca aj {B with Sb:=grow B.Sb w w'} {D with gs:=a,ws:=c}/\cN w w' b aj ca ca B {B with Sb:=grow B.Sb w w'}:=by refine⟨⟨ho.only.bF h.bF (λe=>h.nb<|.inl e),h.sz,h.ho,h.c0,h.c1,h.c2,j,h.book.kept ho.only λi f e=>h.bo i e f,h.cert.kept ho.only (λg k e=>h.bc g e<|h.cs g k),h.cs,λi f=>eP (h.cb i f) ho.size,?_,?_,h.oc,?_⟩,⟨ho.mono (λi e=>⟨.inl<|.inl e.1,e.2⟩),?_,λ_ _=>rfl⟩⟩;(.rintro i ⟨e|e,_⟩ d;(.exact h.bo i e d);have:=h.book.bd i d;omega);(.rintro i ⟨e|e,_⟩ d;(.exact h.bc i e d);have:=h.cb i d;omega);(.rintro(⟨e|e,_⟩|e|e);(.exact h.nb<|.inl e);(.have:=h.bF.lt;omega);(.exact h.nb (.inr<|.inl e));exact h.nb (.inr<|.inr e));rintro i (⟨e|e,_⟩|e|e);(.exact nD);(.exact .inr e);(.exact .inl (.inr<|.inl e));exact .inl (.inr<|.inr e)
def fD.tight{w}{b}{S}{l}(h:fD w b S l):∃a:Nat->Prop,fD w b a l/\(∀i,a i->S i)/\∀i,a i->rm w i:=by obtain⟨v,c,d,j⟩:=h.box;refine⟨λi=>i=b\/v.ownBlock=some i,⟨⟨v,c,d,λg k=>.inr k⟩,.inl I,?_⟩,?_,?_⟩;(.rintro i (rfl|e);(.exact c.lt);exact(d.lt i e).2);(.rintro i (rfl|e);(.exact h.sb);exact j i e);rintro i (rfl|e);(.exact dP c Z);exact λf n m=>me Z d m e
def dX.Y8{w w'}{b}{ca}{aj}{B}{D}{c}{d}(h:dX w b ca aj B D)(a:∀i,c i->B.So i)(j:∀i,c i->rm w i)(l:fD w' B.ob (grow c w w') d)(ho:ak c w w'):dX w' b ca aj {B with So:=grow c w w'} {D with bk:=d}/\cN w w' b aj ca ca B {B with So:=grow c w w'}:=by refine⟨⟨ho.bF h.bF (λe=>h.nb (.inr (.inl<|a _ e))),h.sz,h.ho,h.c0,h.c1,h.c2,h.l5.kept ho (λi k e=>h.bo i k<|a i e),l,h.cert.kept ho (λg m e=>h.oc g (a g e)<|h.cs g m),h.cs,λi k=>eP (h.cb i k) ho.size,?_,h.bc,?_,?_⟩,⟨ho.mono (λi e=>⟨.inl (.inr (.inl<|a i e)),j i e⟩),?_,λ_ _=>rfl⟩⟩;(.rintro i f ⟨e|e,_⟩;(.exact h.bo i f<|a i e);have:=h.l5.bd i f;omega);(.rintro i ⟨e|e,_⟩ f;(.exact h.oc i (a i e) f);have:=h.cb i f;omega);(.rintro(e|⟨e|e,_⟩|e);(.exact h.nb<|.inl e);(.exact h.nb (.inr (.inl<|a _ e)));(.have:=h.bF.lt;omega);exact h.nb (.inr<|.inr e));rintro i (e|⟨e|e,_⟩|e);(.exact nD);(.exact .inl (.inr (.inl<|a i e)));(.exact .inr e);exact .inl (.inr<|.inr e)
def dX.EA{w wx w'}{b}{ca}{aj}{B}{D}{f}{n}(h:dX w b ca aj B D)(ho:ak (λi=>B.cv.ownBlock=some i) w wx)(p:aq zl 4 cI wx 0 f n)(o:∀g,f.ownBlock=some g->B.cv.ownBlock=some g\/w.heap.size<=g)(hb:A w' b (ca.setIfInBounds (aj+2) f) lK)(q:wx.grownBy w'<|some b):dX w' b (ca.setIfInBounds (aj+2) f) aj {B with cv:=f,Sc:=λi=>f.ownBlock=some i} {D with cs:=n}/\cN w w' b aj ca (ca.setIfInBounds (aj+2) f) B {B with cv:=f,Sc:=λi=>f.ownBlock=some i}:=by have d:=ak.aH q λi e=>(cR e).symm;have s:=d.size;have l:=ho.bF h.bF<|h.cert.apart Z h.bF;have y:=h.ho;have hz:=h.sz;have m:∀j,j≠aj+2->(ca.setIfInBounds (aj+2) f)[j]?=ca[j]?:=λj t=>gA;have k:∀i,B.Sb i\/B.So i->¬i=b:=λi a e=>(by subst e;exact h.nb (a.imp (λx=>x) λx=>.inl x));refine⟨⟨hb,wQ,h.ho,by rw[m aj O];exact h.c0,by rw[m (aj+1) O];exact h.c1,ahu,(h.l5.kept ho (λi a e=>h.bc i a<|h.cs i e)).kept d (λi a=>k i<|.inl a),(h.book.kept ho (λi a e=>h.oc i a<|h.cs i e)).kept d (λi a=>k i<|.inr a),p.kept d (λg u c=>p.apart Z l<|by rw[u,c]),λg q=>q,λi a=>by have:=(p.lt i a).2;omega,h.bo,?_,?_,?_⟩,⟨?_,?_,λj t=>m j O⟩⟩;(.intro i a e;rcases o i e with c|c;(.exact h.bc i a<|h.cs i c);have:=h.l5.bd i a;omega);(.intro i a e;rcases o i e with c|c;(.exact h.oc i a<|h.cs i c);have:=h.book.bd i a;omega);(.rintro(e|e|e);(.exact h.nb<|.inl e);(.grind);rcases o b e with c|c;(.exact h.nb (.inr (.inr<|h.cs b c)));have:=h.bF.lt;omega);(.refine bU.trans (ho.mono (λi e=>⟨.inl (.inr (.inr<|h.cs i e)),λr z v=>me Z h.cert v e⟩)) (d.mono (λi e=>⟨⟨.inl<|.inr e,by rw[e];exact l.lt⟩,by rw[e];exact dP l Z⟩)));rintro i (e|e|e);(.exact nD);(.exact .inl (.inr<|.inl e));rcases o i e with c|c;(.exact .inl (.inr (.inr<|h.cs i c)));exact .inr c
structure xz where
 bE:Int
 head:F
 cert:Int
abbrev xz.arr(r:xz):gr:=#[mI r.bE,.string r.head,mI r.cert]
abbrev bC(n:Int):xz:=⟨n,⟨#[]⟩,0⟩
abbrev bG:TypeId:=50
abbrev kv:TypeId:=48
abbrev dK:gr:=#[mI 0,fm,mI 0]
def aR:(prog.info? 50).map (·.size)=some 3:=dU
def jw:prog.underlying 50=some (.struct<|(match prog.underlying 50 with|some (.struct a)=>a|_=>#[])):=dU
def bQ(r:xz):r.arr.all (·.oneCell')=true:=by simp [xz.arr,Value.oneCell']
def Bv:(prog.info? 58).map (·.size)=some 1:=dU
def ae8:(prog.info? 76).map (λi=>(i.zero,i.size,i.bytes))=some (some<|.agg pK,4,40):=dU
def iz(w:tW)(b aj:Nat)(ca:gr)(B:ey)(a:dM)(r:tV)(e:Ending)(w':tW):Prop:=
 e=.returned r/\∃Hw B',dX w' b Hw aj B' a/\cN w w' b aj ca Hw B B'
def tu{w}{q}{o:wR}{T}(h:A w q o.arr T):w.rangeAt q 5<|mP o.X.dest:=λj v a=>by
 match j,a with
 |0,a=>cases a;exact h.cell 5 I
 |1,a=>cases a;exact h.cell 6 I
 |2,a=>cases a;exact h.cell 7 I
def T2(x:nm)o a w(b:A w a (aw o) 39):cL 178 #[.agg x.arr,bR a] w (dx (.bool<|bI x.ar o) w):=by have cf:=J ((aL w w).alloc lJ<|.cells x.arr zl);have hq0:=b.later cf.out;have ik:=λw=>fN x.ar o w;clear b;obtain⟨⟨ka,g1,p1⟩,num⟩:=x;obtain⟨so,ho,po⟩:=o;simp only at ik ⊢;generalize bI ⟨ka,g1,p1⟩ ⟨so,ho,po⟩=c at ik ⊢;go_enter func178,ntmps178;refine ad8 ?_;exact AM
def JQ b aj ca B D o w(h:dX w b ca aj B D)(hl:D.cs.length<=100000):cL 81 #[SV b aj,.agg<|aw o] w (iz w b aj ca B {D with cs:=D.cs.filter λc=>!bI c.ar o}<|.tuple #[]):=by have f:=(aL w w).alloc lJ<|.cells (aw o) 39;have hq:=A.new w (aw o) 39;obtain⟨L,q⟩:∃L,Hid<|L=D.cs.filter (λc=>!bI c.ar o):=⟨_,J I⟩;rw[<-q.out];go_enter func81,ntmps81;go_upto_region 1 with(fail);generalize w.alloc (.cells (aw o) 39)=s at f hq ⊢;have a:=J<|h.later f;have j:=J f;have c2:=a.bF.cell (aj+2) a.c2;have d:=JP 178 #[bR w] (λx=>bI x.ar o) 0 B.cv D.cs s a.cert O (λ_ _=>rfl) (λW x ho _=>T2 x o _ W (ho.bF hq<|a.cert.apart Z hq));rw[<-q.out] at d;clear h f hq;go_wp2_with fail;apply d.Q;rintro e t ⟨eA,rfl,g,i,k⟩;obtain⟨a2,l,rfl,_⟩:=aq.shape bw g;have m:aj+2<ca.size:=(by have:=a.ho;have:=a.sz;omega);clear d c2;go_wp2_with (refine aQ I _ _ _ aJ b (aj+2) aJ (i.bF a.bF<|a.cert.apart Z a.bF) m (.slice a2 L l) aJ aJ aJ Bv ?_;intro u n p);have r:=a.EA i g (ly k) n p;clear k;clear i;clear g;go_end0;exact⟨I,_,_,r.1,(cN.below j.out).trans a.out r.2⟩
def eH{w c d}{b aj p}{ca c1 cs}{T}{B a}{g}(h:dX c b c1 aj a g)(t:cN w c b aj ca c1 B a)(ho:ak (λi=>i=p) c d)(hp:w.heap.size<=p)(j:¬a.S p)(f:b≠p)(hx:A c p cs T)(hT:T≠9):dX d b c1 aj a g/\cN w d b aj ca c1 B a:=by refine⟨h.kept ho (λi k e=>j<|by rw[<-e];exact k) f,⟨?_,t.jv,t.same⟩⟩;exact Y9
def qT(o:pD)(n:Int)(cs:List nm):List nm:=dH 8<|cs.filter (λc=>!bI c.ar o)++[⟨o,n⟩]
def N8 b aj ca B D(o:wR)w(h:dX w b ca aj B D)(hl:D.cs.length<=1000):cL 19 #[SV b aj,.agg o.arr] w (iz w b aj ca B (if o.cert<0 then D else {D with cs:=qT o.X.dest o.cert D.cs})<|.agg (if o.cert<0 then bC 7 else bC 1).arr):=by refine kk4 ?_;intro cf dz hz;by_cases hc:o.cert<0;(.rw[a' hc,a' hc];go_enter func19,ntmps19;go_upto_region 1 with(fail);generalize((w.alloc<|.cells o.arr kv).alloc<|.cells dK bG)=w5 at cf dz hz ⊢;have T:=cV o.cert<|dz.cell 19 I;have g:=J cf;have hH:=J h;clear cf h;go_wp2_with (refine aa I bG _ _ I _ I hz (bC 7).arr I I aR (bQ _) ?_;intro w8 r b6);have W:=ag g b6 g.size<|pV _;refine bL (v:=.agg (bC 7).arr) ?_ I ?_;(.exact cK 4 bG (w+1) results19 I<|bH r jw I aR);exact⟨I,ca,B,hH.later W,cN.below W⟩);rw[aY hc,aY hc];have z:Hid<|qT o.X.dest o.cert D.cs=dH 8 (D.cs.filter (λc=>!bI c.ar o.X.dest)++[⟨o.X.dest,o.cert⟩]):=J I;go_enter func19,ntmps19;go_upto_region 1 with(fail);generalize((w.alloc<|.cells o.arr kv).alloc<|.cells dK bG)=w5 at cf dz hz ⊢;have T:=cV o.cert<|dz.cell 19 I;have ab:=tu dz;have h5:=J<|h.later cf;have g:=J cf;have C:=J h.bd;have ad:=J dz;have aD:=J hz;have c8:=h.bF.lt;have G:=JQ b aj ca B D o.X.dest w5 h5 O;have b7:(D.cs.filter λc=>!bI c.ar o.X.dest).length<=D.cs.length:=fx _ _;generalize cb:D.cs.filter (λc=>!bI c.ar o.X.dest)=L at G b7 z;clear cb cf hz h dz;go_wp2_with (refine cD I 39 _ I w 5 I (mP o.X.dest) _ ab underlying39 I aB ?_);apply G.Q;rintro e w6 ⟨rfl,cc,B6,aS,j⟩;have a6:=J (j.only.only.bF ad.out λe=>by rcases e with e|e;(.have:=C.out _ e;omega);omega);have ba:=J (j.only.only.bF aD.out λe=>by rcases e with e|e;(.have:=C.out _ e;omega);omega);have h6:=J aS;have bb:=J<|(cN.below g.out).trans h5.out j;have l:∀i,B6.S i->i=w.heap.size\/i=w.heap.size+1->False:=λi hi e=>(by rcases j.jv i hi with H|H;(.have:=C.out i H;omega);have:=aD.lt;omega);clear G ab T aS j;obtain⟨D6,m⟩:∃D6:dM,Hid<|D6={D with cs:=L}:=⟨_,J I⟩;rw[<-m.out] at h6;have c6:D6.cs.length<=1000:=(by rw[m.out];show L.length<=1000;omega);obtain⟨a1,ew,bc,_⟩:=aq.shape bw h6.cert;obtain⟨ch,cp,c9,bk,bo,bv⟩:=B6;simp only at bc;subst bc;have nQ:D6.cs.length+1<=maxLen:=l3;have IJ:(D6.cs.length+1)*40<=140737488355328:=O;have cF:∀w',ak (sd (.slice a1 D6.cs ew) b) w6 w'->ak (sd (.slice a1 D6.cs ew) b) w6 w'/\A w' w o.arr kv/\w'.cell? (U w 19)=ev o.cert:=λw' ho=>have hb:=ho.bF a6 (λe=>by rcases e with e|e;(.exact l _ (.inr (.inr<|h6.cs _ e))<|.inl I);omega);⟨ho,hb,hb.cell 19 rfl⟩;have f:Y w6 w6.drew:=(aL _ _).drew;go_upto_region 4 with(fail);go_cut [] (λwx=>∃(s:gr) (B7:ey),Hid (dX wx b s aj B7 {D6 with cs:=D6.cs++[(⟨o.X.dest,o.cert⟩:nm)]}/\cN w6 wx b aj cc s ⟨ch,cp,(.slice a1 D6.cs ew),bk,bo,bv⟩ B7)/\Hid (ak (sd (.slice a1 D6.cs ew) b) w6 wx/\A wx w o.arr kv/\wx.cell? (U w 19)=ev o.cert));(case first =>refine rG (λw'=>ak (sd (.slice a1 D6.cs ew) b) w6 w'/\A w' w o.arr kv/\w'.cell? (U w 19)=ev o.cert) (cF _<|ak.au f) λai=>?_;refine tM ?_;refine tK 5 ?_;refine tK 6 ?_;refine tK 7 ?_;refine tL 8 (aw o.X.dest) w.heap.size 5 (mP o.X.dest) (λw h=>tu h.2.1) underlying39 aB ?_;refine wK ?_;refine tK 11 ?_;refine rE 4 12 (λK hK=>?_) λK hK=>?_;(.have cP:=cV (.slice a1 D6.cs ew)<|(h6.bF.later f).cell (aj+2) h6.c2;refine Y' ?_;clear cP;refine rF hK (cF _<|ak.au f) λai=>?_;refine rD 12 λK hK=>?_;go_simp;have nT:Y w6 (w6.drew.alloc<|.cells (⟨o.X.dest,o.cert⟩:nm).arr zl):=f.alloc f.size _;exact aiO);go_simp;have nT:Y w6 (w6.drew.alloc<|.cells (⟨o.X.dest,o.cert⟩:nm).arr zl):=f.alloc f.size _;refine rF hK (cF _<|ak.au nT) λai=>?_;refine rD 4 λK hK=>?_;have cP:=cV (.slice a1 D6.cs ew)<|(h6.bF.later nT).cell (aj+2) h6.c2;refine Y' ?_;clear cP;exact aiO);case rest =>obtain⟨s,B7,hE,hO7⟩:=hcut;rename World=>w7;have t:=J (hO7.out.1.bF ba.out (λe=>by rcases e with e|e;(.exact l _ (.inr (.inr<|h6.cs _ e))<|.inr I);omega));have h7:=hE.out.1;have n:Hid<|¬B7.S (w+1):=J (λe=>by rcases hE.out.2.jv _ e with H|H;(.grind);have:=ba.lt;omega);have y:=J<|bb.trans h6.out hE.out.2;obtain⟨a7,Y_,a,_⟩:=aq.shape bw h7.cert;have cr:({D6 with cs:=D6.cs++[(⟨o.X.dest,o.cert⟩:nm)]}:dM).cs.length=D6.cs.length+1:=gA;rw[cr] at a;have c7:=a▸h7.bF.cell (aj+2) h7.c2;have d:=J h7;clear cF f h7 l;by_cases hn:8<D6.cs.length+1;(.have hd:=ae4 0 (D6.cs.length+1 - 8) 0 _ (D6.cs++[(⟨o.X.dest,o.cert⟩:nm)]) w7 d.cert (by rw[iG];show D6.cs.length+1<=_;omega) O (by rw[iG];show D6.cs.length+1 - 8<=D6.cs.length+1;omega);rw[CM,p4,show((0:Nat):Int)=0 from I,show(((D6.cs.length+1 - 8:Nat)):Int)=(D6.cs.length:Int)+1 - 8 from O,a] at hd;go_wp2_with fail;apply hd.Q;rintro e w8 ⟨v8,rfl,M,u,r⟩;obtain⟨a8,b0,e8,_⟩:=aq.shape bw M;have b1:=u.bF d.bF (by rw[<-a];exact d.cert.apart Z d.bF);have cv:aj+2<s.size:=(by have:=d.ho;have:=d.sz;omega);have cx:=J (u.bF t.out (λe=>n.out (.inr (.inr (d.cs _<|by rw[a];exact e)))));obtain⟨n8,cS⟩:∃n8,Hid (n8=((D6.cs++[(⟨o.X.dest,o.cert⟩:nm)]).drop<|D6.cs.length+1 - 8).length):=⟨_,J I⟩;rw[<-cS.out] at e8;subst e8;clear hd c7;go_upto_region 8 with(refine aQ I _ _ _ aJ b (aj+2) aJ b1 cv (.slice a8 n8 b0) aJ aJ aJ Bv ?_;intro w9 b2 N);have x:=d.EA (by rw[a];exact u) M (by rw[a];exact ly r) b2 N;clear r;clear u;clear M;have b3:=cx.grown N nJ;have b4:=J<|y.trans d.out x.2;have cT:=J x.1;have b5:=J (λe=>by rcases x.2.jv _ e with H|H;(.exact n.out H);have:=t.lt;omega);clear b2 N b1 x;go_wp2_with (refine aa I bG _ _ I _ I b3 (bC 1).arr I I aR (bQ _) ?_;intro c0 oZ q);refine bL (v:=.agg (bC 1).arr) ?_ I ?_;(.exact Za);have R:({D with cs:=qT o.X.dest o.cert D.cs}:dM)={{D6 with cs:=D6.cs++[(⟨o.X.dest,o.cert⟩:nm)]} with cs:=(D6.cs++[(⟨o.X.dest,o.cert⟩:nm)]).drop<|D6.cs.length+1 - 8}:=(by rw[z.out,m.out];unfold dH;grind);rw[R];exact⟨I,_,_,eH cT.out b4.out (ak.aH q λi e=>(cR e).symm) (pV _) b5.out O b3 Z⟩);go_wp2_with (refine aa I bG _ _ I _ I t.out (bC 1).arr I I aR (bQ _) ?_;intro c0 oZ q);refine bL (v:=.agg (bC 1).arr) ?_ I ?_;(.exact Za);have R:({D with cs:=qT o.X.dest o.cert D.cs}:dM)={D6 with cs:=D6.cs++[(⟨o.X.dest,o.cert⟩:nm)]}:=(by rw[z.out,m.out];unfold dH;rw[iG,IM<|by have:([⟨o.X.dest,o.cert⟩]:List nm).length=1:=I;rw[m.out] at hn;simp only at hn;omega];rfl);rw[R];exact⟨I,_,_,eH d.out y.out (ak.aH q λi e=>(cR e).symm) (pV _) n.out O t.out Z⟩
def JR{S}{w a b}(h:ak S w a)(k:ak (λi=>i=w.heap.size) a b):ak S w b:=by refine⟨k.os.trans h.os,k.tape.trans h.tape,k.output.trans h.output,de h.size k.size,λi c d=>?_⟩;rw[k.block i (eP c h.size) O,h.block i c d]
def eN(D:dM)(o:wR):dM×xz:=
 match gN o.X.dest o.ax D.ws with
 |none=>({D with ws:=dB o.X.dest o.ax D.ws},bC 2)
 |some x=>({D with ws:=dB o.X.dest o.ax D.ws,gs:=kJ ⟨x.ar,x.ax,o.user,o.pass,x.ask,0,fP x.ask x.ax<|jB x.path⟩ D.gs},bC 1)
structure ky.il (x:ky):Prop where
 path:x.path.size<=100000
 nv:∀s∈x.ask.domain,s.size<=100000000
 len:x.ask.domain.length<=100000
def N9 s:(jB s).size<=s.size:=by unfold jB;rw[Bx];omega
def qU{x:ky}(h:x.il):(fP x.ask x.ax<|jB x.path).length<=100000/\∀s∈fP x.ask x.ax (jB x.path),s.size<=140737488351232:=by unfold fP;split;(.exact⟨Z,λs a=>by rw[kx.1 a];decide⟩);split;(.refine⟨by show 1<=100000;decide,λs a=>?_⟩;rw[kx.1 a];have:=N9 x.path;have:=h.path;omega);exact⟨h.len,λs a=>by have:=h.nv s a;omega⟩
def JS{w}{q}{o:wR}{T}(h:A w q o.arr T):w.rangeAt q 16 [.string o.user,.string o.pass]:=λj v a=>by
 match j,a with
 |0,a=>cases a;exact h.cell 16 I
 |1,a=>cases a;exact h.cell 17 I
def kW:(prog.info? 46).map (·.size)=some 2:=dU
def Gd b aj ca B D o w(h:dX w b ca aj B D)(e1:D.gs.length<=1000)(fg:D.ws.length<=1000)(e4:oY D.ws)(bo:∀x∈D.ws,x.il):cL 16 #[SV b aj,.agg o.arr] w (iz w b aj ca B (eN D o).1<|.agg (eN D o).2.arr):=by refine kk4 ?_;intro cf dz hz;obtain⟨R,hR⟩:∃R,Hid<|eN D o=R:=⟨_,J I⟩;rw[hR.out];go_enter func16,ntmps16;go_upto_region 1 with(fail);generalize((w.alloc<|.cells o.arr kv).alloc<|.cells dK bG)=p at cf dz hz ⊢;have u:=J<|h.later cf;have b6:=J cf;have nz:=J h.bd;have b7:=J dz;have cc:=J hz;have fw:=h.bF.lt;have ga:=hz.lt;have a6:=λW' (hb:Y p W')=>DW B.bb B.Sb D.gs D.ws o.X.dest o.ax W' (u.l5.later hb) O O e4;have j:∀w',ak B.Sb p w'->A w' w o.arr kv/\w'.cell? (U w 14)=some (.bool o.ax)/\w'.cell? (U b aj)=vb B.bb:=λw' ho=>have hb:=ho.bF b7 λe=>pL;⟨hb,hb.cell 14 rfl,(ho.bF u.bF (λe=>u.nb<|.inl e)).cell aj u.c0⟩;have l:Y p p.drew:=(aL _ _).drew;clear cf dz hz h;go_cut [5,6] (λv5 v6 wx=>∃(x:dJ) (q:Nat) (r:Nat->Prop),v5=bR q/\v6=.bool (gN o.X.dest o.ax D.ws).isSome/\Hid (x.d=(gN o.X.dest o.ax D.ws).getD PI)/\Hid (f_ wx x.ask.addr x.ask.d.domain)/\Hid (A wx q x.arr dY)/\Hid (dX wx b ca aj {B with Sb:=r} {D with ws:=dB o.X.dest o.ax D.ws,gs:=D.gs})/\Hid (cN p wx b aj ca ca B {B with Sb:=r})/\Hid (A wx w o.arr kv)/\Hid (A wx (w+1) dK bG)/\Hid (¬({B with Sb:=r}:ey).S q/\p<=q/\b≠q)/\p.heap.size<=wx);(case first =>refine rG (λw'=>A w' w o.arr kv/\w'.cell? (U w 14)=some (.bool o.ax)/\w'.cell? (U b aj)=vb B.bb) (j _<|ak.au l) λa=>?_;refine tM ?_;refine ur ?_;refine tK 6 ?_;refine tL 7 (aw o.X.dest) w.heap.size 5 (mP o.X.dest) (λw h=>tu h.1) underlying39 aB ?_;refine tK 8 ?_;refine tK 9 ?_;refine rE 10 14 (λK C=>?_) λK C=>?_;(.go_simp;apply(a6 _ l).Q;rintro e w6 ⟨x,G,rfl,z,f,m⟩;have c:=(ak.au l).trans m.only;refine rF C (j _ c) λa=>?_;refine tK 11 ?_;refine tK 12 ?_;refine tK 13 ?_;refine rD 14 λK C=>?_;go_simp;have ch:Y w6 (w6.alloc<|.cells en dY):=(aL _ _).alloc lJ _;refine rF C (j _<|c.then ch) λa=>?_;refine rD 15 λK C=>?_;refine bj I dY _ _ I _ I (A.new w6 en dY) x.arr I I et (kI x) ?_;intro wx N s;have n:=ag ch s bT lJ;refine rF C (j _<|c.then n) λa=>?_;refine tK 16 ?_;refine dN ?_;have e5:=J<|((u.later l).lj f m).1.later n;have cp:=J<|(cN.below l).trans (u.later l) ((u.later l).lj f m).2|>.trans ((u.later l).lj f m).1 (cN.below n);have bv:Hid<|¬({B with Sb:=grow B.Sb p.drew w6}:ey).S w6.heap.size/\p.heap.size<=w6/\b≠w6:=J ⟨λe=>by have:=((u.later l).lj f m).1.bd _ e;omega,c.size,λe=>by have:=u.bF.lt;have:=c.size;omega⟩;have cr:=J G;have cv:=J<|z.later n;have b0:=J N;have T:=J (j _<|c.then n).1;have W:=J ((c.then n).bF cc.out λe=>pL);have cx:=(c.then n).size;clear s N j a6 c m f G z;exact yL);go_simp;have hZ:=A.new p.drew en dY;have M:Y p (p.drew.alloc<|.cells en dY):=l.alloc l.size _;refine rF C (j _<|ak.au M) λa=>?_;refine rD 10 λK C=>?_;go_simp;apply(a6 _ M).Q;rintro e w6 ⟨x,G,rfl,z,f,m⟩;have c:=(ak.au M).trans m.only;refine rF C (j _ c) λa=>?_;refine tK 11 ?_;refine tK 12 ?_;refine tK 13 ?_;refine rD 15 λK C=>?_;have b1:=m.only.bF hZ (λe=>by have:=u.l5.bd _ e;exact Ba _ this);refine bj I dY _ _ I _ I b1 x.arr I I et (kI x) ?_;intro wx N s;have b2:=ak.aH s λi e=>(cR e).symm;have H:=JR c b2;refine rF C (j _ H) λa=>?_;refine tK 16 ?_;refine dN ?_;have fc:(p.drew.alloc<|.cells en dY).heap.size=p.heap.size+1:=(by rw[b9];rfl);have cA:¬({B with Sb:=grow B.Sb (p.drew.alloc<|.cells en dY) w6}:ey).S p.heap.size:=λe=>(by rcases e with⟨e|e,_⟩|e|e;(.have:=u.l5.bd _ e;omega);(.omega);(.have:=u.book.bd _ e;omega);have:=u.cb _ e;omega);have bk:=(u.later M).lj f m;have gv:=u.bF.lt;have cT:=eH bk.1 ((cN.below M).trans (u.later M) bk.2) b2 lJ cA O b1 Z;have e5:=J cT.1;have cp:=J cT.2;have bv:Hid (¬({B with Sb:=grow B.Sb (p.drew.alloc<|.cells en dY) w6}:ey).S p.heap.size/\p.heap.size<=p/\b≠p):=J ⟨cA,gK _,O⟩;have cr:=J G;have cv:=J (z.stays (S:=λi=>i=p) (b2.mono λi e=>⟨e,by rw[e];exact dP b1 Z⟩));have b0:=J N;have T:=J (j _<|H).1;have W:=J ((H).bF cc λe=>pL);have cx:=(H).size;clear hZ s N j a6 c m f G z;exact yL);case rest =>obtain⟨x,q,r,rfl,rfl,G,z,b0,hP,ab,T,W,bv,cx⟩:=hcut;rename World=>wx;have b3:=J<|(cN.below b6).trans u ab;have b4:¬({B with Sb:=r}:ey).S (w+1):=λe=>(by rcases b3.jv _ e with e2|e2;(.have:=nz.out _ e2;omega);rcases ab.jv _ e with e3|e3;(.have:=nz.out _ e3;omega);omega);have e6:¬({B with Sb:=r}:ey).S w.heap.size:=λe=>(by rcases ab.jv _ e with e3|e3;(.have:=nz.out _ e3;omega);omega);(cases s:gN o.X.dest o.ax D.ws with|none =>have cV:=W.out;go_wp2_with (refine aa I bG _ _ I _ I cV (bC 2).arr I I aR (bQ _) ?_;intro e7 oZ ad);refine bL (v:=.agg (bC 2).arr) ?_ I ?_;(.exact Zb);have hD:eN D o=({D with ws:=dB o.X.dest o.ax D.ws},bC 2):=(by unfold eN;rw[s]);rw[<-hR.out,hD];exact⟨I,_,_,eH hP.out b3.out (ak.aH ad λi e=>(cR e).symm) (pV _) b4 O cV Z⟩|some y =>(have c6:x.d=y:=(by rw[G.out,s];rfl);have a1:x.d.il:=(by rw[c6];exact bo y<|su s);subst c6;have L:∀w',ak r wx w'->A w' q x.arr dY/\A w' w o.arr kv/\w'.cell? (U q 3)=some (.bool x.ax)/\w'.cell? (U q 4)=some (.string x.path)/\w'.cell? (U b aj)=vb B.bb:=λw' ho=>have hb:=ho.bF b0.out (λe=>bv.out.1<|.inl e);⟨hb,ho.bF T.out (λe=>e6<|.inl e),hb.cell 3 I,hb.cell 4 I,(ho.bF hP.bF (λe=>hP.nb<|.inl e)).cell aj hP.c0⟩;have a8:Y wx wx.drew:=(aL _ _).drew;go_upto_region 4 with(fail);refine rG (λw'=>A w' q x.arr dY/\A w' w o.arr kv/\w'.cell? (U q 3)=some (.bool x.ax)/\w'.cell? (U q 4)=some (.string x.path)/\w'.cell? (U b aj)=vb B.bb) (L _<|ak.au a8) λa=>?_;refine tM ?_;refine tK 4 ?_;refine tL 5 (aw x.ar) q 0 (mP x.ar) (λw h=>XA h.1) underlying39 aB ?_;refine wS ?_;refine tL 9 _ w 16 [.string o.user,.string o.pass] (λw h=>JS h.2.1) underlying46 kW ?_;refine tK 10 ?_;refine tL 11 x.ask.arr q 5 x.ask.arr.toList (λw h=>zN h.1) underlying96 v_ ?_;refine tK 12 ?_;refine tL 13 x.ask.arr q 5 x.ask.arr.toList (λw h=>zN h.1) underlying96 v_ ?_;refine tK 14 ?_;refine tK 15 ?_;refine tK 16 ?_;refine tK 17 ?_;refine rD 18 λK C=>?_;go_simp;apply((λW' (hb:Y wx W')=>Tg x.ask x.ax x.path W' (z.later hb).1 a1.len<|by have h1:x.path.size<=100000:=a1.path;simp only[reachBytes];omega) _ a8).Q;rintro e w7 ⟨⟨aS,cS,rfl,c7,fb⟩,c8⟩;have t:=a8.aD c8;refine rF C (L _<|ak.au t) λa=>?_;refine tK 19 ?_;refine Zc ?_;intro g hg vV;have c9:g.d=⟨x.ar,x.ax,o.user,o.pass,x.ask.d,0,fP x.ask.d x.ax<|jB x.path⟩:=(by rw[hg.out]);have db:g.d.Ok:=(by rw[c9];exact⟨a1.len,(qU a1).1,(qU a1).2,ae9,afa⟩);have b5:=II B.bb r D.gs (dB o.X.dest o.ax D.ws) g w7 (hP.l5.later t) e1 db (λW' ho=>by rw[hg.out];exact⟨((z.later t).stays ho).1,(c7.stays ho).1⟩);rw[vV,c9] at b5;refine rD 20 λK C=>?_;go_simp;apply b5.Q;rintro e w8 ⟨rfl,dc,ba⟩;have bc:=(hP.later t).lj dc ba;refine rF C (L _<|(ak.au t).trans ba.only) λa=>?_;refine dN ?_;have dw:=ba.only.bF (W.later t) (λe=>b4<|.inl e);have eg:=J (((b3.trans hP.out<|cN.below t).trans (hP.later t) bc.2));have eB:=J bc.1;have gx:=t.size;have eG:Hid<|¬({{B with Sb:=r} with Sb:=grow r w7 w8}:ey).S (w+1):=J (λe=>by rcases bc.2.jv _ e with e2|e2;(.exact b4 e2);have:=W.lt;omega);clear L b5 dc ba bc a8 t c7 fb c8;go_wp2_with (refine aa I bG _ _ I _ I dw (bC 1).arr I I aR (bQ _) ?_;intro e7 oZ ad);refine bL (v:=.agg (bC 1).arr) ?_ I ?_;(.exact Zb);have hD:eN D o=({D with ws:=dB o.X.dest o.ax D.ws,gs:=kJ ⟨x.ar,x.ax,o.user,o.pass,x.ask.d,0,fP x.ask.d x.ax<|jB x.path⟩ D.gs},bC 1):=(by unfold eN;rw[s]);rw[<-hR.out,hD];exact⟨I,_,_,eH eB.out eg.out (ak.aH ad λi e=>(cR e).symm) (pV _) eG.out O dw Z⟩))
abbrev ahv:gr:=#[.bool false,fm,mI 0]
def oK{P:Program}{w:tW}{cs:gr}{T:TypeId}{d:Array Oper}{rest:List Oper}{op:Oper}{a:Act}{c:Exit->Act->tW->Prop}(g:op.guard=none)(e:TypeId)(x y:Operand)(ho:op.op=.store e x y)
  (b i:Nat) (k:a.eval x=SV b i) (hb:A w b cs T) (p:i+2<cs.size) (v0 eS eA:tV) (l:a.eval y=.agg #[v0,eS,eA]) (m:(#[v0,eS,eA]:gr).all (·.oneCell')=true) (f:(P.info? e).map (·.size)=some 3)
  (h:∀w',A w' b (((cs.setIfInBounds i v0).setIfInBounds (i+1) eS).setIfInBounds (i+2) eA) T->w.grownBy w' (some b)->wpList P d c rest (a.put op.dst undef) w'):wpList P d c (op::rest) a w:=
 V1 g e x y ho b i #[v0,eS,eA] k l (λj n=>by
  have o:j<3:=n
  exact⟨by rw[hb.cell (i+j) (My<|by omega)];rfl,hb.free<|i+j⟩) f m (h _ (hb.Mz [v0,eS,eA] i)<|gX b [v0,eS,eA] i w)
def xZ:(prog.info? 60).map (·.size)=some 3:=dU
def nE(D:dM)(o:wR):dM:=
 if o.all=true/\o.bE=9 then ⟨[],[],[],[]⟩
 else if o.bE=9 then ⟨g_ o.X.dest D.gs,gb o.X.dest D.ws,gI o.X.dest D.bk,D.cs.filter λc=>!bI c.ar o.X.dest⟩
 else {D with gs:=g_ o.X.dest D.gs,ws:=gb o.X.dest D.ws}
def dX.fresh{w j w'}{b aj}{ca}{B}{D}(h:dX w b ca aj B D)(a:Y w j)p q(s:w.heap.size<=p)(hq:w.heap.size<=q)(l:p≠q)(m:A j p #[bN,bN] gu)(n:A j q #[bN] nC)(hb:A w' b (((ca.setIfInBounds aj<|bR p).setIfInBounds (aj+1)<|bR q).setIfInBounds (aj+2)<|bN) lK)(hg:j.grownBy w'<|some b):dX w' b (((ca.setIfInBounds aj<|bR p).setIfInBounds (aj+1)<|bR q).setIfInBounds (aj+2)<|bN) aj ⟨p,q,bN,λi=>i=p,λi=>i=q,λ_=>False⟩ ⟨[],[],[],[]⟩/\cN w w' b aj ca (((ca.setIfInBounds aj<|bR p).setIfInBounds (aj+1)<|bR q).setIfInBounds (aj+2)<|bN) B ⟨p,q,bN,λi=>i=p,λi=>i=q,λ_=>False⟩:=by refine D3 ?_;intro ho;have r:=h.bF.lt;have t:=h.ho;have hz:=h.sz;have c:=ho.bF m O;have d:=ho.bF n O;refine⟨⟨hb,wQ,h.ho,?_,?_,?_,⟨⟨_,_,[],[],c,aq.nil _ _,aq.nil _ _,λg hg=>mf,λg hg=>mf,rfl,rfl,λg hg=>mf,λg hg=>mf⟩,rfl,λi f=>(by have e:i=p:=f;rw[e];exact c.lt),λg hg=>mf,λg hg=>mf⟩,⟨⟨_,d,aq.nil _ _,λg hg=>mf⟩,rfl,λi f=>(by have e:i=q:=f;rw[e];exact d.lt)⟩,aq.nil _ _,λg hg=>mf,λi f=>f.elim,λi f e=>l ((show i=p from f).symm.trans<|show i=q from e),λi _ e=>e,λi _ e=>e,?_⟩,⟨?_,?_,?_⟩⟩;(.grind);(.grind);(.grind);(.rintro(e|e|e);(.omega);(.omega);exact e);(.refine bU.trans (bU.au a) (ho.mono (λi e=>⟨⟨.inl<|.inr e,by rw[e];exact(h.later a).bF.lt⟩,by rw[e];exact dP (h.later a).bF Z⟩)));(.rintro i (e|e|e);(.omega);(.omega);exact e.elim);grind
def yM{w w'}{i}(h:rm w i)(b:i<w.heap.size)(hb:Y w w'):rm w' i:=λa c d=>h a c<|(hb.block i b).symm.trans d
def Zd b aj ca B D o w(h:dX w b ca aj B D)(b4:D.gs.length<=1000)(b5:D.ws.length<=1000)(b6:D.bk.length<=1000)(b7:D.cs.length<=1000):cL 20 #[SV b aj,.agg o.arr] w (iz w b aj ca B (nE D o)<|.agg (bC 1).arr):=by refine kk4 ?_;intro cf dz hz;obtain⟨R,hR⟩:∃R,Hid<|nE D o=R:=⟨_,J I⟩;rw[hR.out];go_enter func20,ntmps20;go_upto_region 1 with(fail);generalize((w.alloc<|.cells o.arr kv).alloc<|.cells dK bG)=w5 at cf dz hz ⊢;have N:=tu dz;have hZ:=A.new w5 ahv 39;have nz:=J h.bd;have cb:=h.bF.lt;have a1:=hz.lt;go_upto_region 2 with(first|(refine cD I 39 _ I w 5 I (mP o.X.dest) _ N underlying39 I aB ?_)|(refine aa I 39 _ _ I _ I hZ (aw o.X.dest) I I aB nx ?_;intro w6 z T));have a:=ag ((aL _ _).alloc lJ<|.cells ahv 39) T bT lJ;have h6:=J<|(h.later cf).later a;clear h;have aiP:=J (cN.below (b:=b) (aj:=aj) (ca:=ca) (B:=B)<|cf.aD a);clear cf;have afb:=J<|dz.later a;clear dz;have hz6:=J<|hz.later a;clear hz;have t:=J z;have a6:=z.lt;have a8:=cV (.bool o.all)<|afb.cell 20 I;have k0:=cV o.bE<|afb.cell 0 I;clear N hZ T z a;by_cases hA:o.all=true/\o.bE=9;(.have hD:nE D o=⟨[],[],[],[]⟩:=(by unfold nE;rw[a' hA]);obtain⟨e1,e2⟩:=hA;have e3:(o.bE==9)=true:=(by simp [e2]);clear e2;have C:=A.new (w6.alloc<|.cells #[bN,bN] gu) #[bN] nC;rw[b9] at C;have d:Y w6 ((w6.alloc<|.cells #[bN,bN] gu).alloc<|.cells #[bN] nC):=((aL _ _).alloc lJ _).alloc bT _;have ba:aj+2<ca.size:=(by have:=h6.ho;have:=h6.sz;omega);go_upto_region 4 with(refine oK I _ _ _ aJ b aj aJ ((h6.later d).bF) ba (bR w6) (.pointer<|some ⟨w6+1,0,none⟩) (bN) aJ nx xZ ?_;intro w9 W l);have hF:=h6.fresh d w6 (w6+1) lJ (pV _) O ((A.new w6 #[bN,bN] gu).alloc<|.cells #[bN] nC) C W l;have n:=J hF.1;have m:=J<|aiP.trans h6.out hF.2;have p:=(hz6.later d).grown l nJ;have b2:=hz6.lt;clear C d W l hF a8 k0 e1 e3;go_wp2_with (refine aa I bG _ _ I _ I p (bC 1).arr I I aR (bQ _) ?_;intro w20 N' Dc);refine bL (v:=.agg (bC 1).arr) ?_ I ?_;(.exact QA);rw[<-hR.out,hD];exact⟨I,_,_,eH n.out m.out (ak.aH Dc λi e=>(cR e).symm) (pV _) (λe=>by rcases e with e|e|e;(.omega);(.omega);exact e) O p Z⟩);have G:o.all=false\/(o.all=true/\(o.bE==9)=false):=gA;generalize bc:w5.heap.size=q at t a6 a1;clear bc;have Ze:∀w',ak B.Sb w6 w'->A w' q (aw o.X.dest) 39/\w'.cell? (U b aj)=vb B.bb:=λw' ho=>⟨ho.bF t λe=>pL,(ho.bF h6.bF (λe=>h6.nb<|.inl e)).cell aj h6.c0⟩;have dR:Y w6 w6.drew:=(aL _ _).drew;have N_:=M6 B.bb B.Sb D.gs D.ws o.X.dest w6.drew (h6.l5.later dR) O O;rcases G with bo|⟨bo,bv⟩;(.by_cases h9:o.bE=9;(.have e9:(o.bE==9)=true:=(by simp [h9]);have hD:nE D o=⟨g_ o.X.dest D.gs,gb o.X.dest D.ws,gI o.X.dest D.bk,D.cs.filter λc=>!bI c.ar o.X.dest⟩:=(by unfold nE;grind);clear h9 hA;go_upto_region 5 with(fail);refine Zf ?_;intro ai;refine tM ?_;refine QB ?_;intro K hK;rintro e w7 ⟨rfl,QC,hT7⟩;refine Zg ?_;intro By ai VO hq7;have b0:=J (VO.bF hz6.out λe=>pL);have hP7:=J By.1;have aiQ:=J ((aiP.trans h6.out<|cN.below dR).trans (h6.later dR) By.2);have hg7:=J By.2.jv;have hs7:=VO.size;clear Ze N_ QC hT7 By dR;have k7:=cV o.bE<|(VO.bF afb.out λe=>pL).cell 0 rfl;clear VO;obtain⟨S0,u,JT,ab⟩:=hP7.book.tight;have f:∀w',ak S0 w7 w'->A w' q (aw o.X.dest) 39/\w'.cell? ⟨b,aj+1,none⟩=vb B.ob:=λw' ho=>⟨ho.bF hq7.out λe=>Zh,(ho.bF hP7.bF (λe=>hP7.nb (.inr (.inl<|JT _ e)))).cell (aj+1) hP7.c1⟩;refine EB ?_;intro dR;have N_:=N3 B.ob S0 D.bk o.X.dest w7.drew (u.later dR) O;have ad:D.cs.length<=100000:=O;go_upto_region 7 with(fail);refine rG (λw'=>A w' q (aw o.X.dest) 39/\w'.cell? ⟨b,aj+1,none⟩=vb B.ob) (f _<|ak.au dR) λai=>?_;refine tM ?_;refine QB ?_;intro K hK;rintro e w9 ⟨rfl,aS,r⟩;have g:=(hP7.later dR).Y8 JT (λi hi=>yM (ab i hi) (u.bd i hi) dR) aS r;refine rF hK (f _<|(ak.au dR).trans r) λai=>?_;refine dN ?_;have s:=(ak.au (S:=S0) dR).trans r;have p:=J (s.bF b0.out λe=>Zh);have n:=J g.1;have m:=J ((aiQ.trans hP7.out<|cN.below dR).trans (hP7.later dR) g.2);have l:=J g.2.jv;have cc:=s.size;clear N_ aS r g dR;go_wp2_with (refine ae I 39 _ I _ I ((J (f _ s).1).out) _ underlying39 I aB ?_);clear f s;apply(JQ b aj ca _ _ o.X.dest w9 n.out ad).Q;rintro e ch ⟨rfl,b3,b1,x,j⟩;have y:=j.only.only.bF p (λe=>by rcases e with e|e;(.rcases l.out _ e with e2|e2;(.exact Zi);exact QD);omega);have H:=J x;have L:=J<|m.trans n.out j;have M:¬b1.S (w+1):=λe=>(by rcases j.jv _ e with e1|e1;(.rcases l.out _ e1 with e2|e2;(.exact Zi);exact QD);omega);clear x j;go_wp2_with (refine aa I bG _ _ I _ I y (bC 1).arr I I aR (bQ _) ?_;intro w20 N' Dc);refine bL (v:=.agg (bC 1).arr) ?_ I ?_;(.exact QA);rw[<-hR.out,hD];exact⟨I,_,_,eH H.out L.out (ak.aH Dc λi e=>(cR e).symm) (pV _) M O y Z⟩);have e9:(o.bE==9)=false:=(by simp [h9]);exact aiR);have h9:¬o.bE=9:=(by simpa using bv);exact aiR
def vy{α:Type}(f:Nat->α)(i:Nat)(v:α):Nat->α:=λj=>if j=i then v else f j
def fE{α}f i(v:α):vy f i v i=v:=a' I
def d'{α}f i(v:α){j}(h:j≠i):vy f i v j=f j:=aY h
def WS(Bs:Nat->ey)(b x:Nat):Prop:=(∃i,i<4/\(Bs i).S x)\/x=b
structure bY (W w:tW) (b:Nat) (ca:gr) (Bs:Nat->ey) (Ds:Nat->dM) (now:Int):Prop where
 low:Y W w
 hb:W.heap.size<=b
 part:∀i,i<4->dX w b ca (i*3) (Bs i) (Ds i)
 now:ca[12]?=ev now
 kO:∀i,i<4->∀x,(Bs i).S x->W.heap.size<=x
 two:∀i j,i<4->j<4->i≠j->∀x,(Bs i).S x->¬(Bs j).S x
section
variable {W w w' : World} {b : Nat} {ca Hw : Array Value} {Bs : Nat → ey} {Ds : Nat → dM} {V : Int}
def bY.bF(h:bY W w b ca Bs Ds V):A w b ca lK:=(h.part 0 Z).bF
def bY.sz(h:bY W w b ca Bs Ds V):ca.size=13:=(h.part 0 Z).sz
def bY.Ge(h:bY W w b ca Bs Ds V):∀x,WS Bs b x->W.heap.size<=x:=by rintro x (⟨i,a,c⟩|rfl);(.exact h.kO i a x c);exact h.hb
def bY.QE(h:bY W w b ca Bs Ds V):∀x,WS Bs b x->x<w.heap.size:=by rintro x (⟨i,a,c⟩|rfl);(.exact(h.part i a).bd x c);exact h.bF.lt
def dX.kT{aj}{B}{D}(h:dX w b ca aj B D){S}(ho:ak S w w')(c:∀i,B.S i->¬S i)(hb:A w' b Hw lK)(hz:Hw.size=13)(d:∀j,aj<=j->j<=aj+2->Hw[j]?=ca[j]?):dX w' b Hw aj B D:=
 ⟨hb,hz,h.ho,by rw[d aj (by omega)<|by omega];exact h.c0,by rw[d (aj+1) (by omega)<|by omega];exact h.c1,by rw[d (aj+2) (by omega)<|by omega];exact h.c2,
  h.l5.kept ho (λi a=>c i<|.inl a),h.book.kept ho (λi a=>c i (.inr<|.inl a)),h.cert.kept ho (λg e=>c g (.inr (.inr<|h.cs g e))),h.cs,λi a=>eP (h.cb i a) ho.size,h.bo,h.bc,h.oc,h.nb⟩
def bY.kept{S}(h:bY W w b ca Bs Ds V)(ho:ak S w w')(c:∀x,WS Bs b x->¬S x)(a:∀x,S x->W.heap.size<=x):bY W w' b ca Bs Ds V:=
 ⟨ho.below h.low h.low.size a,h.hb,λi d=>(h.part i d).kept ho (λx e=>c x<|.inl ⟨i,d,e⟩) (c b<|.inr I),h.now,h.kO,h.two⟩
def bY.later(h:bY W w b ca Bs Ds V)(hb:Y w w'):bY W w' b ca Bs Ds V:=
 ⟨h.low.aD hb,h.hb,λi a=>(h.part i a).later hb,h.now,h.kO,h.two⟩
structure eI (w w':tW) (b:Nat) (Bs a:Nat->ey):Prop where
 only:bU (WS Bs b) w w'
 jv:∀x,WS a b x->WS Bs b x\/w.heap.size<=x
def eI.below(h:Y w w'):eI w w' b Bs Bs:=⟨bU.au h,λ_ a=>.inl a⟩
def bY.eC(h:bY W w b ca Bs Ds V){i}(q:i<4){B'}{r}(p:dX w' b Hw (i*3) B' r)(g:cN w w' b (i*3) ca Hw (Bs i) B'):bY W w' b Hw (vy Bs i B') (vy Ds i r) V/\eI w w' b Bs (vy Bs i B'):=by have n:∀x,((Bs i).S x\/x=b)->WS Bs b x:=λx a=>a.imp (λe=>⟨i,q,e⟩) λe=>e;have t:=h.low.size;refine⟨⟨g.only.only.below h.low h.low.size (λx a=>h.Ge x<|n x a),h.hb,λj f=>?_,(g.same 12<|.inr O).trans h.now,λj f x a=>?_,λj k f o m x a d=>?_⟩,⟨g.only.mono λx e=>⟨n x e.1,e.2⟩,?_⟩⟩;(.by_cases e:j=i;(.subst e;rw[fE,fE];exact p);rw[d' _ _ _ e,d' _ _ _ e];refine(h.part j f).kT g.only.only (λx a c=>?_) p.bF p.sz (λl u v=>g.same l O);rcases c with c|rfl;(.exact h.two j i f q e x a c);exact(h.part j f).nb a);(.by_cases e:j=i;(.subst e;rw[fE] at a;rcases g.jv x a with c|c;(.exact h.kO j f x c);omega);rw[d' _ _ _ e] at a;exact h.kO j f x a);(.by_cases e:j=i;(.subst e;rw[fE] at a;rw[d' _ _ _ λe=>m e.symm] at d;rcases g.jv x a with c|c;(.exact h.two j k f o m x c d);have:=(h.part k o).bd x d;omega);rw[d' _ _ _ e] at a;by_cases s:k=i;(.subst s;rw[fE] at d;rcases g.jv x d with c|c;(.exact h.two j k f o m x a c);have:=(h.part j f).bd x a;omega);rw[d' _ _ _ s] at d;exact h.two j k f o m x a d);rintro x (⟨j,f,a⟩|rfl);(.by_cases e:j=i;(.subst e;rw[fE] at a;exact(g.jv x a).imp (λc=>.inl ⟨j,f,c⟩) (λc=>c));rw[d' _ _ _ e] at a;exact .inl<|.inl ⟨j,f,a⟩);exact .inl<|.inr I
def eI.trans{a d}{c f}{i}{c1}{n1}(h:eI w a b Bs c)(j:bY W a b c1 c i n1)(k:eI a d b c f):eI w d b Bs f:=by refine⟨h.only.trans<|k.only.mono ?_,?_⟩;(.rintro x ⟨g,l⟩;exact⟨⟨h.jv x g,j.QE x g⟩,l⟩);intro x m;rcases k.jv x m with e|e;(.exact h.jv x e);exact .inr<|de h.only.size e
def bY.tick(h:bY W w b ca Bs Ds V)n(hb:A w' b (ca.setIfInBounds 12<|mI n) lK)(hg:w.grownBy w'<|some b):bY W w' b (ca.setIfInBounds 12<|mI n) Bs Ds n/\eI w w' b Bs Bs:=by refine D3 ?_;intro ho;have hz:=h.sz;refine⟨⟨ho.below h.low h.low.size (λx a=>by rw[a];exact h.hb),h.hb,λi c=>?_,ahu,h.kO,h.two⟩,⟨ho.mono λx e=>⟨.inr e,WL⟩,λx a=>.inl a⟩⟩;refine(h.part i c).kT ho (λx a e=>?_) hb wQ (λl d f=>?_);(.subst e;exact(h.part i c).nb a);grind
end
def lL:gr->Nat->qD->gr
 |cs,_,[]=>cs
 |cs,o,v::r=>lL (cs.setIfInBounds o v) (o+1) r
def vc{T:TypeId}{b:Nat}:∀(a:qD) (o:Nat) (w:tW) (cs:gr),A w b cs T->A (w.setCells b o a) b (lL cs o a) T
 |[],_,_,_,h=>h
 |v::r,o,w,cs,h=>by
  rw[World.setCells]
  exact vc r (o+1) _ _<|h.set o v
def ep{P}{w}{cs}{T}{d}{rest}{op}{a:Act}{c}(l:op.guard=none)e x y(ho:op.op=.store e x y)b o(m:a.eval x=SV b o)(hb:A w b cs T)f(q:o+f.size<=cs.size)(n:a.eval y=.agg f)(p:f.all (·.oneCell')=true)(g:(P.info? e).map (·.size)=some f.size)i(k:lL cs o f.toList=i)(h:∀w',A w' b i T->w.grownBy w' (some b)->wpList P d c rest (a.put op.dst undef) w'):wpList P d c (op::rest) a w:=by subst k;exact V1 l e x y ho b o f m n (λj r=>⟨by rw[hb.cell (o+j)<|My O];rfl,hb.free _⟩) g p (h _ (vc f.toList o w cs hb)<|gX b f.toList o w)
def xe p l k:(a_ p l k).length<=l.length:=by unfold a_;refine de (MM _).length_le ?_;grind
structure rv.Q1 (N:Nat) (c:rv):Prop where
 jj:c.scheme.length<=N
 len:c.params.length<=16
 par:∀p∈c.params,p.1.length<=N/\p.2.length<=N
def De{l}{k}{ps}{x}(h:eL l k ps=.inr x)(hl:ps.length<=16)(d:∀p∈ps,p.1.length<=l.length/\p.2.length<=l.length):x.2.length<=16/\∀p∈x.2,p.1.length<=l.length/\p.2.length<=l.length:=by unfold eL at h;simp only at h;split at h;(.cases h);split at h;(.cases h);rename_i v k4 b;split at h;(.cases h);split at h;(.cases h);rename_i e;cases h;refine⟨by simp only[iG,iN,qF];omega,λp c=>?_⟩;rcases ek.1 c with a|a;(.exact d p a);rw[kx.1 a];refine⟨xe _ _ _,?_⟩;split at b;(.exact(o7 b).1);cases b;exact xe _ _ _
def sH{l:bs}:∀(f k:Nat) (ps:List ql) (x:Nat×List ql),cX l f k ps=.inr x->ps.length<=16->(∀p∈ps,p.1.length<=l.length/\p.2.length<=l.length)->
  x.2.length<=16/\∀p∈x.2,p.1.length<=l.length/\p.2.length<=l.length
 |0,k,ps,x,h,hl,a=>by
  simp only[cX,Sum.inr.injEq] at h
  subst h
  exact⟨hl,a⟩
 |f+1,k,ps,x,h,hl,a=>by
  unfold cX at h
  split at h
  .cases h
  .rename_i k4 d b
   have c:=De b hl a
   split at h
   .cases h
   split at h
   .exact sH f _ _ x h c.1 c.2
   .cases h;exact c
def Km{l}{k jq}{x}(h:iK l k jq=.inr x):x.2.Q1 l.length:=by unfold iK at h;simp only at h;split at h;(.cases h);split at h;(.cases h);split at h;(.cases h;exact⟨xe _ _ _,bt _,λp a=>by cases a⟩);split at h;(.cases h);split at h;(.cases h;exact⟨xe _ _ _,bt _,λp a=>by cases a⟩);split at h;(.cases h);rename_i e ps b;cases h;have c:=sH _ _ _ _ b (bt _) (λp a=>by cases a);exact⟨xe _ _ _,c.1,c.2⟩
def Un{l}{k jq}{x}(h:iK l k jq=.inr x):jq≠8:=by unfold iK at h;grind
def uw{l:bs}:∀(f k:Nat) (a r:List rv),jE l f k a=.inr r->a.length<=8->(∀c∈a,c.Q1 l.length)->r.length<=8/\∀c∈r,c.Q1 l.length
 |0,k,a,r,h,hl,d=>by
  simp only[jE,Sum.inr.injEq] at h
  subst h
  exact⟨hl,d⟩
 |f+1,k,a,r,h,hl,d=>by
  unfold jE at h
  split at h
  .simp only[Sum.inr.injEq] at h
   subst h
   exact⟨hl,d⟩
  split at h
  .cases h
  .rename_i k' x g
   have i:=Un g
   refine uw f k' _ r h (by simp only[List.length_append,List.length_cons,List.length_nil];omega) (λc e=>?_)
   rcases ek.1 e with b|b
   .exact d c b
   .rw[kx.1 b];exact Km g
def jX l:(da l).1.length<=8/\∀c∈(da l).1,c.Q1 l.length:=by unfold da;split;(.grind);split;(.grind);rename_i bf a;exact uw _ _ _ _ a (bt _) (λc b=>by cases b)
def afu(c:rv):Option jt:=cO ⟨c.scheme.toArray⟩ (c.params.map λp=>((⟨p.1.toArray⟩,⟨p.2.toArray⟩):F×F))
def jY(s:F):jt:=oN<|(da s).1.map afu
structure jt.il (a:jt):Prop where
 al:a.al.size<=1000
 av:a.av.size<=1000
 dn:a.er.size<=1000
 cg:a.cg.size<=1000
 len:a.domain.length<=100000
 nv:∀s∈a.domain,s.size<=100000000
 jj:0<=a.scheme/\a.scheme<=3
def jr:fL.il:=⟨Z,Z,Z,Z,Z,(λs a=>(by cases a)),Z⟩
def Kn s(h:s.size<=1000):(lO s).size<=100000000:=by unfold lO;have b:=q2 s;have c:=kb 47<|dh s;have d:=wY 1 (bu 47<|dh s) (bu 47<|dh s).length;have e:=sl 2000 [47] (jx 1 (bu 47<|dh s) (bu 47<|dh s).length) (zY 1 2000 _ (λp a=>by have:=(kc 47<|dh s) p a;omega) _);rw[an];grind
def lk{ps}(h:∀p∈ps,p.2.size<=1000)a:(dv ps a).1.size<=1000:=BL h a
def Gw{ps}{q}(h:hQ ps=some q):q.size<=1000:=by have hq:∀ws,(pj ws).size<=1000:=λws=>(by rw[BI];split;(.decide);split;(.decide);decide);unfold hQ at h;split at h;(.grind);cases h;decide
def Ko{sc}{ps}{a}(c:∀p∈ps,p.2.size<=1000)(h:cO sc ps=some a):a.il:=by have b:=uv h;unfold cO at h;split at h;(.cases h);split at h;(.cases h;exact⟨lk c _,jr.av,jr.dn,jr.cg,jr.len,(λs b=>(by cases b)),⟨by have:=b.1;omega,b.2⟩⟩);unfold mr at h;split at h;(.cases h);split at h;(.cases h);split at h;(.cases h);split at h;(.cases h);rename_i q hq;cases h;refine⟨lk c _,lk c _,lk c _,Gw hq,?_,?_,⟨by have:=b.1;omega,b.2⟩⟩;(.show(mZ _).length<=_;unfold mZ;rw[ct];have i:=fx oM<|bu 32 (dv ps (⟨#[100,111,109,97,105,110]⟩:F)).1;have f:=kb 32 (dv ps (⟨#[100,111,109,97,105,110]⟩:F)).1;have g:=lk c (⟨#[100,111,109,97,105,110]⟩:F);omega);intro s b;have d:s∈mZ (dv ps (⟨#[100,111,109,97,105,110]⟩:F)).1:=b;unfold mZ at d;obtain⟨p,e,rfl⟩:=jM.1 d;have f:=kc 32 (dv ps (⟨#[100,111,109,97,105,110]⟩:F)).1 p (fY.1 e).1;have g:=lk c (⟨#[100,111,109,97,105,110]⟩:F);exact Kn p O
def OC:∀(l:List<|Option jt),(∀a,some a∈l->a.il)->(oN l).il:=by intro l;(induction l using Gl with|hZa =>exact λ_=>jr|hZb l x ih =>intro h;have c:=ih (λa b=>h a<|List.mem_append_left _ b);rw[vd];grind)
def vg{s}(h:s.size<=1000):(jY s).il:=by refine OC _ λa b=>?_;obtain⟨c,d,e⟩:=jM.1 b;have f:=(jX s).2 c d;refine Ko (λp g=>?_) e;obtain⟨q,hq,rfl⟩:=jM.1 g;have:=(f.par q hq).2;rw[an] at h ⊢;simp only at *;omega
def x7(G:Option fM)(a:jt):Bool:=match G with
 |some g=>a.aP&&(a.scheme==g.ask.scheme)&&!(a.av.toList==g.ask.av.toList)
 |none=>false
def dp(D:dM)(o:wR):dM×xz:=
 if (da o.text).2.1=0 then
  if 0<(jY o.text).scheme then
   if x7 (im o.X.dest o.ax (jY o.text).al D.gs) (jY o.text)=true then
    ({D with gs:=kJ {(im o.X.dest o.ax (jY o.text).al D.gs).getD jA with ask:=jY o.text,count:=0} D.gs},bC 1)
   else ({D with gs:=eX o.X.dest o.ax (jY o.text).al D.gs,ws:=gH ⟨o.X.dest,o.ax,o.X.path,jY o.text⟩ D.ws},bC 3)
  else (D,bC 2)
 else (D,bC 7)
def pN(N:Nat):∀(ps:List<|bs) (i:Nat) (a r:List<|bs×bs),(∀p∈a,p.1.length<=N/\p.2.length<=N)->(∀p∈ps,p.length<=N)->di ps i a=.ok r->∀p∈r,p.1.length<=N/\p.2.length<=N
 |[],i,a,r,c,_,e=>by
  simp only[di,Gy.ok.injEq] at e
  rw[<-e];exact c
 |q::ps,i,a,r,c,d,e=>by
  unfold di at e
  split at e
  .exact pN N ps _ _ r c (λp b=>d p<|List.mem_cons_of_mem _ b) e
  split at e
  .cases e
  split at e
  .cases e
  .refine pN N ps _ _ r ?_ (λp b=>d p<|DR _ b) e
   intro p b
   rcases ek.1 b with h|h
   .exact c p h
   .rw[kx.1 h]
    have f:=d q (Qk ..)
    have g:=Kp q
    exact⟨de (BO _)<|de g f,de (Kq _)<|de g f⟩
def zo l:∀p∈(cQ l).1,p.1.length<=l.length/\p.2.length<=l.length:=by unfold cQ;split;(.intro p a;cases a);(cases e:di (dA 10 l) 0 [] with|ok r =>exact pN l _ _ _ r (λp a=>by cases a) (λp a=>(ot 10 l p a).1) e|form i =>intro p a;cases a|amS =>intro p a;cases a)
def ee(s:F):o5:=(cQ s).1.map λp=>(⟨p.1.toArray⟩,⟨p.2.toArray⟩)
def Dg s:iB (ee s)=(cQ s).1:=by simp [iB,ee,wB,Q6]
def BV{s:F}{ps}(h:iB ps=(cQ s).1):ps=ee s:=BR<|h.trans (Dg s).symm
def sL s:(ee s).length<=40:=by have:=Df s;simpa [ee] using this
def kE s:∀p∈ee s,p.1.size<=s.size/\p.2.size<=s.size:=by intro p a;obtain⟨q,hq,rfl⟩:=jM.1 a;have h:=zo s q hq;assumption
def eY(D:dM)(o:wR)(V:Int):dM×xz:=
 if (cQ o.text).2.1=0 then
  if (oH o.X (ee o.text) V).2=0 then ({D with bk:=ir 32 D.bk ((oH o.X (ee o.text) V).1.map (nf o.X<|V+tS (ee o.text))) V},bC 1)
  else ({D with bk:=fe o.X D.bk},bC 2)
 else (D,bC 7)
def BW{w}{x}{n m}(h:kj w x n m)(a:n≠0):∃T v,x=.iface T v:=by rcases h with⟨_,e,_⟩|⟨e,_⟩|⟨p,e,_⟩;(.exact absurd e a);(.exact⟨_,_,e⟩);exact⟨_,_,e⟩
def x8{w}{q}{o:wR}{T}(h:A w q o.arr T):w.rangeAt q 1 o.X.arr.toList:=λj v a=>by
 match j,a with
 |0,a=>cases a;exact h.cell 1 I
 |1,a=>cases a;exact h.cell 2 I
 |2,a=>cases a;exact h.cell 3 I
 |3,a=>cases a;exact h.cell 4 I
 |4,a=>cases a;exact h.cell 5 I
 |5,a=>cases a;exact h.cell 6 I
 |6,a=>cases a;exact h.cell 7 I
 |7,a=>cases a;exact h.cell 8 I
 |8,a=>cases a;exact h.cell 9 I
 |9,a=>cases a;exact h.cell 10 I
 |10,a=>cases a;exact h.cell 11 I
 |11,a=>cases a;exact h.cell 12 I
 |12,a=>cases a;exact h.cell 13 I
def q5{w}{a}{ps}(h:cE 2 uP w a ps):jz w a ps:=by exact Zq
def Ks b aj ca B D o(V:Int)w(h:dX w b ca aj B D)(db:D.bk.length<=1000)(hM:iU w)(hp:yJ w)(hO:o.X.Ok w)(ht:o.text.size<=1000)(cS:o.X.bA.length<=1000)(b0:∀p∈o.X.bA,p.1.size<=1000/\p.2.size<=1000)(hh:o.X.ar.host.size<=1000)(cT:0<=V)(c0:V<=1099511627776):cL 18 #[SV b aj,.agg o.arr,V] w (iz w b aj ca B (eY D o V).1<|.agg (eY D o V).2.arr):=by refine kk4 ?_;intro cf dz hz;obtain⟨R,hR⟩:∃R,Hid<|eY D o V=R:=⟨_,J I⟩;rw[hR.out];go_enter func18,ntmps18;go_upto_region 1 with(fail);generalize((w.alloc<|.cells o.arr kv).alloc<|.cells dK bG)=w5 at cf dz hz ⊢;have h5:=J<|h.later cf;have b1:=J cf;have nz:=J h.bd;have C:=J dz;have b2:=J hz;have dc:=h.bF.lt;have dw:=hz.lt;have c6:=J hM;have c7:=J hp;have c8:=J hO;have b3:=J b0;have c9:=cV (.string o.text)<|dz.cell 15 I;clear dz hz h hp hO b0;go_wp2_with fail;apply(OF o.text w5 (hM.later cf) O).Q;clear cf hM;rintro e w6 ⟨v,x,ps,rfl,b4,b5,b6,b7,j⟩;obtain rfl:ps=ee o.text:=BV b5;obtain⟨a6,cb,rfl,m,_,_,_⟩:=aq.shape dr b4;have g:=J<|q5 m;have h6:=J<|h5.later j;have c:=J<|b1.aD j;have n:=J<|C.later j;have ab:=J<|b2.later j;have ad:=J b6;have aS:=J b7;have eg:=j.size;clear b4 m b5 j C b2 c9 b6 b7 h5;by_cases hn:(cQ o.text).2.1=0;(.obtain rfl:=aS.out hn;have cc:=J hn;clear ad aS hn;have G:nu<|ee o.text:=λp hp=>(by have:=kE o.text p hp;simp only[maxLen];omega);have ch:=x8 n.out;have y:=TW w6 o.X a6 cb (ee o.text) V (c6.later c.out) (c7.later c.out) (c8.later c.out) g.out G (by have:=sL o.text;omega) (λp hp=>by have:=(kE o.text p hp).2;omega) cS b3.out hh cT c0;refine Z7 ?_;intro Mq gv xy u eu;rw[xy.out,eu.out] at y;rw[xy.out] at Mq;generalize(ee o.text).length=nl at y;clear G g;go_wp2_with (refine cD I cq _ I w 1 I o.X.arr.toList _ ch underlying44 I bK ?_);apply y.Q;rintro e w7 ⟨⟨a7,cp,x,rfl,q,a1,a8,H⟩,f⟩;have r:=J<|h6.later f;have L:=J (cN.below (b:=b) (aj:=aj) (ca:=ca) (B:=B)<|c.aD f);have cr:=J<|n.later f;have cv:=J<|ab.later f;have eB:=f.size;have z:=J q;have ba:=J H;obtain⟨S0,M,JT,N⟩:=r.book.tight;have s:=J M;clear y ch n ab q H c;by_cases l:gv.2=0;(.obtain rfl:=a8 l;have hD:eY D o V=({D with bk:=ir 32 D.bk (gv.1.map<|nf o.X u) V},bC 1):=(by unfold eY;rw[a' cc.out,xy.out,a' l,eu.out]);clear a8 a1 l;have c1:=r.bF.cell (aj+1) r.c1;have bb:=Y2 B.ob S0 D.bk a7 cp (gv.1.map<|nf o.X u) V w7 s.out z.out (λ_ x e hx=>by have h1:=ba.out x e;have h2:=nz.out _ (.inr (.inl<|JT _ hx));omega) O TO;rw[ct] at bb;clear f;go_wp2_with fail;apply bb.Q;rintro e w8 ⟨rfl,t,d⟩;have a:=r.Y8 JT N t d;have xf:=d.bF cv λe=>Zh;have hP8:=J a.1;have ak2:=J<|L.trans r.out a.2;have bc:=J a.2.jv;have ak3:¬({B with So:=grow S0 w7 w8}:ey).S (w+1):=λe=>(by rcases bc.out _ e with e2|e2;(.have:=nz.out _ e2;omega);omega);clear bb c1 t d a;go_wp2_with (refine aa I bG _ _ I _ I xf (bC 1).arr I I aR (bQ _) ?_;intro cx N' Dc);refine bL (v:=.agg (bC 1).arr) ?_ I ?_;(.exact Q7);exact Z8);obtain⟨T,v,rfl⟩:=BW a1 l;have hD:eY D o V=({D with bk:=fe o.X D.bk},bC 2):=(by unfold eY;rw[a' cc.out,xy.out,aY l]);clear a8 a1 l;have bo:∀w',ak S0 w7 w'->A w' w o.arr kv/\w'.cell? ⟨b,aj+1,none⟩=vb B.ob:=λw' ho=>⟨ho.bF cr λe=>Zh,(ho.bF r.bF (λe=>r.nb (.inr (.inl<|JT _ e)))).cell (aj+1) r.c1⟩;refine EB ?_;intro dR;clear f;go_upto_region 6 with(fail);refine rG (λw'=>A w' w o.arr kv/\w'.cell? ⟨b,aj+1,none⟩=vb B.ob) (bo _<|ak.au dR) λbv=>?_;refine tM ?_;refine tK 4 ?_;refine tL 5 o.X.arr w 1 o.X.arr.toList (λw h=>x8 h.1) underlying44 bK ?_;refine rD 6 λK hK=>?_;go_simp;apply(JN B.ob S0 D.bk o.X w7.drew (s.later dR) O).Q;rintro e w8 ⟨rfl,t,d⟩;have a:=(r.later dR).Y8 JT (λi hi=>yM (N i hi) (M.bd i hi) dR) t d;refine rF hK (bo _<|(ak.au dR).trans d) λbv=>?_;refine dN ?_;have xf:=((ak.au (S:=S0) dR).trans d).bF cv λe=>Zh;have hP8:=J a.1;have ak2:=J ((L.trans r.out<|cN.below dR).trans (r.later dR) a.2);have bc:=J a.2.jv;have ak3:¬({B with So:=grow S0 w7.drew w8}:ey).S (w+1):=λe=>(by rcases bc.out _ e with e2|e2;(.have:=nz.out _ e2;omega);exact QD);clear bo t d a dR;go_wp2_with (refine aa I bG _ _ I _ I xf (bC 2).arr I I aR (bQ _) ?_;intro cx N' Dc);refine bL (v:=.agg (bC 2).arr) ?_ I ?_;(.exact Q7);exact Z8);obtain⟨T,v,rfl⟩:=BW ad hn;have hD:eY D o V=(D,bC 7):=(by unfold eY;rw[aY hn]);have W:=ab.out;have cA:¬B.S (w+1):=λe=>Q8;clear ad aS hn;go_wp2_with (refine aa I bG _ _ I _ I W (bC 7).arr I I aR (bQ _) ?_;intro cx N' Dc);refine bL (v:=.agg (bC 7).arr) ?_ I ?_;(.exact Q7);rw[<-hR.out,hD];exact⟨I,_,_,eH h6.out (cN.below (b:=b) (aj:=aj) (ca:=ca) (B:=B) c.out) (ak.aH Dc λi e=>(cR e).symm) (pV _) cA O W Z⟩
end Go.Proofs.YtkdneaemikbhkaaGreatDoor
