import Derived.Test.YtkdneaemikbhkaaGreatDoorZ38
import Derived.Test.YtkdneaemikbhkaaGreatDoorZ41
set_option linter.all false
set_option maxRecDepth 100000
set_option maxHeartbeats 40000000
namespace Go.Proofs.YtkdneaemikbhkaaGreatDoor
open _root_.Go.Proofs.Tryz Go.RowKit Go.Deep
def bz(o:wR)(V:Int)(D:dM):dM×xz:=
 if o.bE=1 then fU D o
 else if o.bE=2 then dp D o
 else if o.bE=3 then eN D o
 else if o.bE=4 then (D,bC<|if kL o.X V D.bk=true then 5 else 4)
 else if o.bE=5 then eY D o V
 else if o.bE=6 then (D,y6 o.X.dest D.cs)
 else if o.bE=7 then (if o.cert<0 then (D,bC 7) else ({D with cs:=qT o.X.dest o.cert D.cs},bC 1))
 else (nE D o,bC 1)
structure dF (D:dM):Prop where
 lg:D.gs.length<=8
 lw:D.ws.length<=8
 lb:D.bk.length<=32
 lc:D.cs.length<=8
 one:oY D.ws
 fg:∀g∈D.gs,g.il
 fw:∀x∈D.ws,x.il/\x.ask.il
def dF.zero:dF ⟨[],[],[],[]⟩:=⟨Z,Z,Z,Z,oY.nil,(λ_ h=>(by cases h)),(λ_ h=>(by cases h))⟩
structure wR.il (o:wR):Prop where
 text:o.text.size<=1000
 user:o.user.size<=1000
 pass:o.pass.size<=1000
 aA:o.aA.size<=1000
 method:o.X.method.size<=1000
 path:o.X.path.size<=1000
 query:o.X.query.size<=1000
 body:o.X.body.size<=1000
 host:o.X.ar.host.size<=1000
 hl:o.X.bA.length<=1000
 hz:∀p∈o.X.bA,p.1.size<=1000/\p.2.size<=1000
def yl{α}n(l:List α):(dH n l).length<=n:=by unfold dH;grind
def Ff{α}{n}{l}{y:α}(h:y∈dH n l):y∈l:=yu h
def dF.put{D}(h:dF D){g}(c:g.il):dF {D with gs:=kJ g D.gs}:=by refine⟨yl _ _,h.lw,h.lb,h.lc,h.one,λy b=>?_,h.fw⟩;rcases ek.1 (Ff b) with a|a;(.exact h.fg y (fY.1 a).1);grind
def dF.drop{D}(h:dF D)o p r:dF {D with gs:=eX o p r D.gs}:=
 ⟨de (fx _ _) h.lg,h.lw,h.lb,h.lc,h.one,λy a=>h.fg y (fY.1 a).1,h.fw⟩
def dF.asked{D}(h:dF D){x}(c:x.il/\x.ask.il):dF {D with ws:=gH x D.ws}:=by refine⟨h.lg,yl _ _,h.lb,h.lc,h.one.asked x,h.fg,λy b=>?_⟩;rcases ek.1 (Ff b) with a|a;(.exact h.fw y (fY.1 a).1);grind
def dF.taken{D}(h:dF D)o p:dF {D with ws:=dB o p D.ws}:=
 ⟨h.lg,de (fx _ _) h.lw,h.lb,h.lc,h.one.take o p,h.fg,λy a=>h.fw y (fY.1 a).1⟩
def af8{o}{p}{ah}{gs}(h:∀g∈gs,g.il):∀g∈(dI o p ah gs).1,g.il:=by have b:=Cb (o:=o) (p:=p) (ah:=ah) h;revert b;unfold dI;split;(.exact λ_=>h);rename_i g d;split;(.exact λ_=>h);split;(.exact λ_ y a=>h y<|List.mem_of_mem_eraseIdx a);intro b y a;rcases ek.1 a with c|c;(.exact h y<|List.mem_of_mem_eraseIdx c);grind
def dF.used{D}(h:dF D)o p ah:dF {D with gs:=(dI o p ah D.gs).1}:=
 ⟨de (E9 _ _ _ _) h.lg,h.lw,h.lb,h.lc,h.one,af8 h.fg,h.fw⟩
def LA{D}{o}(h:dF D):dF (fU D o).1:=by have a:=h.used o.X.dest o.ax o.X.path;unfold fU;split;(.split;(.exact a);exact a.drop _ _ _);exact a
def abX{D}(h:dF D)o p r:((im o p r D.gs).getD jA).il:=by cases hq:im o p r D.gs with|none =>exact mK|some g =>exact h.fg g<|su hq
def G5{D}{o}(h:dF D)(a:o.il):dF (dp D o).1:=by have hb:=vg a.text;unfold dp;split;(.split;(.split;(.have b:=abX h o.X.dest o.ax (jY o.text).al;exact h.put ⟨b.user,b.pass,hb,(by show(0:Int)<=4294967295;decide)⟩);refine(h.drop _ _ _).asked ⟨⟨?_,hb.nv,hb.len⟩,hb⟩;have:=a.path;grind);exact h);exact h
def Dt{D}{o}(h:dF D)(a:o.il):dF (eN D o).1:=by unfold eN;(cases hq:gN o.X.dest o.ax D.ws with|none =>exact h.taken _ _|some x =>have b:=h.fw x<|su hq;exact(h.taken o.X.dest o.ax).put ⟨a.user,a.pass,b.2,(by show(0:Int)<=4294967295;decide)⟩)
def G6{D}{o}{V}(h:dF D):dF (eY D o V).1:=by unfold eY;split;(.split;(.exact⟨h.lg,h.lw,Js _ _ _ _,h.lc,h.one,h.fg,h.fw⟩);exact⟨h.lg,h.lw,de (fx _ _) h.lb,h.lc,h.one,h.fg,h.fw⟩);exact h
def U5{D}{o}(h:dF D):dF<|nE D o:=by unfold nE;split;(.exact dF.zero);split;(.exact⟨de (fx _ _) h.lg,de (fx _ _) h.lw,de (fx _ _) h.lb,de (fx _ _) h.lc,h.one.agY _,λy a=>h.fg y (fY.1 a).1,λy a=>h.fw y (fY.1 a).1⟩);exact⟨de (fx _ _) h.lg,de (fx _ _) h.lw,h.lb,h.lc,h.one.agY _,λy a=>h.fg y (fY.1 a).1,λy a=>h.fw y (fY.1 a).1⟩
def LB{D}{o}{V}(h:dF D)(a:o.il):dF (bz o V D).1:=by unfold bz;split;(.exact LA h);split;(.exact G5 h a);split;(.exact Dt h a);split;(.exact h);split;(.exact G6 h);split;(.exact h);split;(.split;(.exact h);exact⟨h.lg,h.lw,h.lb,yl _ _,h.one,h.fg,h.fw⟩);exact U5 h
def eV(o:wR)(Ds:Nat->dM)(V:Int):(Nat->dM)×Int×xz:=
 if ea o=false then (Ds,V,bC 7)
 else if o.bE=10 then (if o.n<0\/1099511627776 - V<o.n then (Ds,V,bC 7) else (Ds,V+o.n,bC 1))
 else (vy Ds o.X.part.toNat (bz o V<|Ds o.X.part.toNat).1,V,(bz o V<|Ds o.X.part.toNat).2)
structure gF (Ds:Nat->dM) (now:Int):Prop where
 part:∀i,dF (Ds i)
 n0:0<=now
 n1:now<=1099511627776
def gF.zero:gF (λ_=>⟨[],[],[],[]⟩) 0:=⟨λ_=>dF.zero,Z,Z⟩
def G7{o}{Ds}{V}(h:gF Ds V)(a:o.il):gF (eV o Ds V).1 (eV o Ds V).2.1:=by have b:=h.n0;have c:=h.n1;unfold eV;split;(.exact h);split;(.split;(.exact h);exact⟨h.part,by show 0<=V+o.n;omega,by show V+o.n<=1099511627776;omega⟩);refine⟨λi=>?_,h.n0,h.n1⟩;show dF<|vy Ds _ _ i;unfold vy;split;(.exact LB (h.part _) a);exact h.part i
def q_{P}{l6}{o}{a:Act}{K}{Q}{c:Prop}{w}{cs}{T}(Hq:o.guard=none)d x y(ho:o.op=.store d x y)b i(l:a.eval x=SV b i)(hb:A w b cs T)e(m:a.eval y=.agg e)(q:i+e.size<=cs.size)(n:(P.info? d).map (·.size)=some e.size)(p:e.all (·.oneCell')=true)f(g:lL cs i e.toList=f)(h:∀w',A w' b f T->w.grownBy w' (some b)->K (a.put o.dst undef) w'):if Region.wanted o (yielded l6 a.tmps)=true then Oper.wp P o a w K Q else c:=by subst g;refine Fx ?_;intro iO;exact wp_store_mid d x y ho b i e l m (λj r=>⟨by rw[hb.cell (i+j)<|My O];rfl,hb.free _⟩) n p (h _ (vc e.toList i w cs hb)<|gX b e.toList i w)
def ym(p:oV)a3 c3 L:lL p.arr 0 (#[.slice a3 L.length c3,.slice p.wa p.Ws.length p.wc]:gr).toList=({p with ga:=a3,gc:=c3,Gs:=L}:oV).arr:=by simp [lL,oV.arr]
def Dv{o}{p}{ws}(h:gN o p ws=none):dB o p ws=ws:=by unfold dB;rw[Iy];intro x a;have:=SI.1 h x a;simpa using this
def ajB W S p D o(V:Int)w(hR:c_ W w S p D)(hS:∀i,S i->i<w.heap.size)(hk:o.bE=3)(hW:W.heap.size<=w.heap.size)(hF:dF D):cL 12 #[.agg p.arr,.agg o.arr,V] w (jD W w S<|bz o V D):=by refine G' ?_;intro hSH _ _ w5 cf hp dz ko j5 u9 rf Aa rh;clear hS;go_upto_region 2 with(first|(refine cD I cq _ I (w+1) 1 I o.X.arr.toList _ rf underlying44 I bK ?_)|(refine aa I cq _ _ I _ I rh o.X.arr I I bK (ji _) ?_;intro w6 b2 ca));have cb:=gJ b2;have cc:=A.new w6 (aw ⟨false,⟨#[]⟩,0⟩) 39;have ch:=b2.lt;clear rf rh b2;go_upto_region 4 with(first|(refine cD I 39 _ I w5 4 I (mP o.X.dest) _ cb underlying39 I aB ?_)|(refine aa I 39 _ _ I _ I cc (aw o.X.dest) I I aB nx ?_;intro w7 rT cp));have j:=(ag ((aL w5 w5).alloc lJ<|.cells ph cq) ca bT lJ).aD (ag ((aL w6 w6).alloc lJ<|.cells (aw ⟨false,⟨#[]⟩,0⟩) 39) cp bT lJ);clear ca;have hJ:=J<|cf.aD j;have jl:=J<|(hR.zm.later cf).later j;clear cf hR;have b3:=J<|hp.later j;clear hp;have e8:=J<|dz.later j;clear dz;have bb:=J<|ko.later j;clear ko;have t:=J<|j5.later j;clear j5;refine xt ?_;intro lZ;generalize fb:w5.heap.size=qr at ch;generalize a1:w6.heap.size=qo at lZ;refine xr ?_;intro k0;clear cb cc cp rT j fb a1 ch;refine abR ?_;intro e1 e2;have e3:(o.bE==3)=true:=iD;refine RY ?_;intro Ms hlw;have a6:=pe p.ga p.Gs p.gc p.wa p.wc p.Ws o.X.dest o.ax w7 jl.rw hlw;have a8:=J (Tm o.X.dest o.ax p.Ws<|by rw[jl.dw];exact hF.one);have cr:=J<|tn o.X.dest o.ax p.Ws;have bc:Hid<|∀g∈p.Ws.filter (λx=>!eF o.X.dest o.ax x.d),g∈p.Ws:=J λg hg=>(fY.1 hg).1;generalize p.Ws.filter (λx=>!eF o.X.dest o.ax x.d)=L at a6 cr bc;have u:Hid<|∀x,p6 o.X.dest o.ax p.Ws=some x->x.d∈D.ws/\Ni W w7 x:=J (λx hx=>by have h1:=a8.out;rw[hx,jl.dw] at h1;exact⟨su h1.symm,jl.tw x<|Tn hx⟩);generalize hG:p6 o.X.dest o.ax p.Ws=G at a6 a8 u;clear hG;have cv:Hid<|∀R,eN D o=R->bz o V D=R:=J λR h=>O';have cx:=lM b3.out;have a1:=lZ.out;have hc:=cV (.bool o.ax)<|e8.cell 14 I;clear hk;go_upto_region 33 with(first|(refine cD I bx _ I w 0 I [.slice p.ga p.Gs p.gc,.slice p.wa p.Ws p.wc] _ cx dT I bJ ?_)|(refine ae I 39 _ I _ I a1 _ underlying39 I aB ?_)|(go_at_call 48;apply a6.Q;rintro e w8 ⟨⟨v,rfl,hO⟩,b4⟩;obtain⟨a4,c4,rfl,cA,hd,_⟩:=aq.shape bh hO;have cT:=(A.new w8 #[bN,bN] bx).alloc<|.cells en cz;have b5:=A.new (w8.alloc<|.cells #[bN,bN] bx) en cz;simp only[b9] at b5)|(refine aa I bx _ _ I _ I cT #[.slice p.ga p.Gs p.gc,.slice a4 L c4] I I bJ nx ?_;intro w9 c0 G_;have bd:=b5.grown G_ nJ)|(refine aa I cz _ _ I _ I bd (G.getD vZ).arr I I jQ (kI _) ?_;intro m z s));have bk:=b4.size;have mc:Y w7 ((w8.alloc<|.cells #[bN,bN] bx).alloc<|.cells en cz):=(b4.alloc bk _).alloc fK _;have hf:w8.heap.size+2<=w9:=ahS;have b:=J<|ag (ag mc G_ mc.size bk) s O O;have B:=J z;have C:=J<|c0.grown s nJ;have b6:=ag (ag (((aL w8 w8).alloc lJ<|.cells #[bN,bN] bx).alloc bT<|.cells en cz) G_ TV lJ) s O O;have c6:=J<|aq.later hO b6;have c7:=J<|cA.later b6;have gB:=z.lt;generalize hh:w8.heap.size=qb at B C;clear cx a1 a6 hO cA cT b5 bd c0 G_ z s mc b4 b6;(cases G with|none =>(have hD:bz o V D=(D,bC 2):=(by refine cv.out _ ?_;have h1:=a8.out;rw[jl.dw] at h1;unfold eN;rw[show gN o.X.dest o.ax D.ws=none from h1.symm,Dv<|show gN o.X.dest o.ax D.ws=none from h1.symm]);have kh:=J<|bb.later b.out;have gl:=J<|t.later b.out;have rN:=J<|jl.later b.out;have ri:=J<|hJ.aD b.out;go_upto_region 34 with(fail);have oR:Y m m.drew:=(aL _ _).drew;have Mt:=gl.lt;have fI:∀w',Y m w'->A w' w p.arr fo:=λw' hb=>(b3.later b.out).later hb;exact ajC)|some x =>(obtain⟨fc,c8⟩:=u.out x I;have bo:=J<|c8.later b;have H:=hF.fw x.d fc;have c9:=J (show gN o.X.dest o.ax D.ws=some x.d by have h1:=a8.out;rw[jl.dw] at h1;exact h1.symm);have ba:Y m m.drew:=(aL _ _).drew;have db:=λW' (hb:Y m W') (g:cj)=>AS p.ga p.gc p.Gs a4 L c4 g W' ((jl.rg.later b).later hb) Ms;have l:∀w',Y m w'->A w' qb #[.slice p.ga p.Gs p.gc,.slice a4 L c4] bx/\A w' (qb+1) x.arr cz/\A w' (w+1) o.arr kv/\w'.cell? ⟨qb+1,3,none⟩=some (.bool x.ax)/\w'.cell? ⟨qb+1,4,none⟩=some (.string x.path):=λw' hb=>have b7:A w' (qb+1) x.arr cz:=B.later hb;⟨C.later hb,b7,(e8.later b).later hb,b7.cell 3 rfl,b7.cell 4 rfl⟩;go_upto_region 35 with(fail);refine rG (λw'=>A w' qb #[.slice p.ga p.Gs p.gc,.slice a4 L c4] bx/\A w' (qb+1) x.arr cz/\A w' (w+1) o.arr kv/\w'.cell? ⟨qb+1,3,none⟩=some (.bool x.ax)/\w'.cell? ⟨qb+1,4,none⟩=some (.string x.path)) (l _ ba) λai=>?_;refine tL 0 _ qb 0 [.slice p.ga p.Gs p.gc,.slice a4 L c4] (λw h=>h.1.range) dT bJ ?_;refine tK 1 ?_;refine tL 2 (aw x.ar) (qb+1) 0 (mP x.ar) (λw h=>XA h.2.1) underlying39 aB ?_;refine tK 3 ?_;refine ur ?_;refine tL 6 _ (w+1) 16 [.string o.user,.string o.pass] (λw h=>JS h.2.2.1) underlying46 kW ?_;refine tK 7 ?_;refine tL 8 x.ask.arr (qb+1) 5 x.ask.arr.toList (λw h=>zN h.2.1) underlying96 v_ ?_;refine tK 9 ?_;refine tL 10 x.ask.arr (qb+1) 5 x.ask.arr.toList (λw h=>zN h.2.1) underlying96 v_ ?_;refine tK 11 ?_;refine tK 12 ?_;refine tK 13 ?_;refine tK 14 ?_;refine rD 15 λK hK=>?_;go_simp;apply((λW' (hb:Y m W')=>Xi W x.ask x.ax x.path W' (bo.nv.later hb) H.1.len<|by have h1:x.path.size<=100000:=H.1.path;simp only[reachBytes];omega) _ ba).Q;rintro e fg ⟨⟨aS,cS,rfl,dc,_⟩,bv⟩;have n:=ba.aD bv;refine rF hK (l _ n) λai=>?_;refine tK 16 ?_;refine Zc ?_;intro g hg vV;have M:=db fg n g;have eg:=J<|P3 g p.Gs;obtain⟨N,hN⟩:∃N,Hid<|dH 8 (p.Gs.filter (λy=>!fO g.ar g.ax g.ask.d.al y.d)++[g])=N:=⟨_,J I⟩;rw[hN.out,vV] at M;rw[hN.out] at eg;refine rD 17 λK hK=>?_;go_simp;apply M.Q;rintro e eB ⟨⟨v,rfl,T⟩,ab⟩;obtain⟨a5,c5,rfl,eG,gv,_⟩:=aq.shape aG T;have a:=n.aD ab;refine rF hK (l _ a) λai=>?_;refine tK 18 ?_;refine rD 19 λK hK=>?_;have r:=(b3.later b.out).later a;obtain⟨b0,jJ⟩:∃b0:oV,Hid<|b0={p with wa:=a4,wc:=c4,Ws:=L}:=⟨_,J I⟩;have gx:0+2<=p.arr.size:=x0;refine q_ I bx _ _ I w 0 I r #[.slice a5 N c5,.slice a4 L c4] I gx bJ nx _ (wT p a5 c5 N a4 c4 L) ?_;intro RZ b1 c;have ha:=t.lt;refine rF hK (⟨(l _ a).1.grown c nJ,(l _ a).2.1.grown c nJ,(l _ a).2.2.1.grown c nJ,((l _ a).2.1.grown c nJ).cell 3 I,((l _ a).2.1.grown c nJ).cell 4 I⟩) λai=>?_;refine dN ?_;obtain⟨q,hq⟩:∃q:oV,Hid<|q={{p with ga:=a5,gc:=c5,Gs:=N} with wa:=a4,wc:=c4,Ws:=L}:=⟨_,J I⟩;have zu:Hid<|A RZ w q.arr fo:=J (by rw[hq.out];exact b1);have e4:=a.size;refine Fg ?_;intro Dw;have e5:g.d.Ok:=(by rw[hg.out];exact⟨H.1.len,(qU H.1).1,(qU H.1).2,ae9,afa⟩);have e6:CC W eB g:=⟨by rw[hg.out];exact(bo.later a).nv,by rw[hg.out];exact dc.later ab,e5⟩;have f:=b.aD a;have e7:∀y∈N,CC W eB y:=(by rw[<-hN.out];exact P4 (λy hy=>(jl.tg y hy).later f) e6);have ad:=(((jl.later f).o_ a5 c5 N eG gv (gD.own T (λi e=>eP (Dw i e)<|by have:=n.size;omega)) e7).vW a4 c4 L (c7.later a) ((gD.own c6 λi e=>by have:=Dw i e;omega).later e4) (λy hy=>(jl.tw y<|bc y hy).later f)).box r Z c (.inr ⟨O,O⟩) O;rw[<-hq.out] at ad;have rN:=J ad;have ri:=J<|ag (hJ.aD f) c LF lJ;have kh:=J<|(bb.later f).grown c nJ;have gl:=J<|(t.later f).grown c nJ;have hD:bz o V D=({{D with gs:=N.map cj.d} with ws:=L.map dJ.d},bC 1):=(by refine cv _ ?_;unfold eN;rw[c9.out,eg.out,cr.out,jl.dg,jl.dw,hg.out]);clear l db M T eG b1 c r n a bv ab ba ad e7 e6 f c8 dc;go_upto_region 69 with(fail);refine ab9 ?_;intro oR Mt fI;exact aca))
end Go.Proofs.YtkdneaemikbhkaaGreatDoor
