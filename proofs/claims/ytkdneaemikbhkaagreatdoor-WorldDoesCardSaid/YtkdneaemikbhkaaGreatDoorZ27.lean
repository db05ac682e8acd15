import Derived.Test.YtkdneaemikbhkaaGreatDoorZ15
import Derived.Test.YtkdneaemikbhkaaGreatDoorZ23
import Derived.Test.YtkdneaemikbhkaaGreatDoorZ24
import Derived.Test.YtkdneaemikbhkaaGreatDoorZ26
set_option linter.all false
set_option maxRecDepth 100000
set_option maxHeartbeats 40000000
namespace Go.Proofs.YtkdneaemikbhkaaGreatDoor
open _root_.Go.Proofs.Tryz Go.RowKit Go.Deep
def xL(W w:tW)(a:oT)(ss:jm):Prop:=bX w a ss/\(ss≠[]->∀x,a=some x->x.block<W.heap.size\/∃b c,w.heap[x.block]?=some (.cells b 9 c))
def xL.later{W w w'}{a}{ss}(h:xL W w a ss)(hb:Y w w'):xL W w' a ss:=
 ⟨h.1.later hb,λd x e=>by
  rcases h.2 d x e with c|⟨b,f,c⟩
  .exact .inl c
  .exact .inr ⟨b,f,(hb.block _ (uO.1 c).1).trans c⟩⟩
def xL.stays{W w w'}{a}{ss}{S}(h:xL W w a ss)(ho:bU S w w')(k:∀i,S i->W.heap.size<=i):xL W w' a ss:=by (cases ss with|nil =>exact⟨bX.nil _ _,λg=>absurd I g⟩|cons s r =>(have d:∀x,a=some x->¬(S x.block/\rm w x.block):=λx f e=>(by rcases h.2 bT x f with c|⟨b,j,c⟩;(.have:=k _ e.1;omega);exact e.2 b j c);refine⟨Au h.1 ho d,λg x f=>?_⟩;rcases h.2 g x f with c|⟨b,j,c⟩;(.exact .inl c);exact .inr ⟨b,j,ho.heap c<|d x f⟩))
def xL.Nb{W w}{a}{ss}(h:f_ w a ss):xL W w a ss:=⟨h.1,λb x c=>.inr<|h.2 b x c⟩
def tl(a0:oT)(l:jm)(w:tW)(e:Ending)(w':tW):Prop:=
 (∃a c,e=.returned (.slice a l.length c)/\f_ w' a l/\(a=a0\/∀x,a=some x->w.heap.size<=x.block/\x.block<w'.heap.size))/\Y w w'
def aeb(w:tW)(s:F):f_ (w.alloc<|.cells #[s] 9) (fJ w) [s]:=
 ⟨λi a=>by
  have b:i<1:=a
  obtain rfl:i=0:=by omega
  exact⟨w.heap.size,0,I,(A.new w #[s] 9).cell 0 I⟩,
  λ_ x c=>by cases c;exact⟨_,_,xA w _⟩⟩
def xM a0 w a s b(hb:b=a.heap.size)(h:Y w a):tl a0 [s] w (.returned<|.slice (fJ b) 1 1) (a.alloc<|.cells #[s] 9):=by subst hb;exact⟨⟨_,_,I,aeb a s,.inr λx c=>by cases c;exact⟨h.size,bT⟩⟩,h.alloc h.size _⟩
def Tg(a:nP)(p:Bool)(ah:F)w(g:bX w a.addr a.d.domain)(hl:a.d.domain.length<=100000)(m:ah.size<=reachBytes):cL 73 #[.agg a.arr,p,ah] w (tl none (fP a.d p<|jB ah) w):=by obtain⟨⟨sc,al,av,dn,aU,cg,aP,bm⟩,ad,cp⟩:=a;simp only at g hl ⊢;refine Xg ?_;intro cf p7;by_cases l:p=true\/(sc≠1/\bm=[]);(.have b:fP ⟨sc,al,av,dn,aU,cg,aP,bm⟩ p (jB ah)=[⟨#[47]⟩]:=(by unfold fP;grind);rw[b];clear b g;rcases l with rfl|⟨h,rfl⟩;(.go_enter func73,ntmps73;exact PZ);have r:(sc !=1)=true:=vJ;cases p;all_goals go_enter func73,ntmps73;exact PZ);have n:p=false:=(by cases p <;> simp_all);subst n;by_cases i:sc=1;(.subst i;have b:fP ⟨1,al,av,dn,aU,cg,aP,bm⟩ false (jB ah)=[jB ah]:=(by unfold fP;simp);rw[b];clear b g;go_enter func73,ntmps73;go_wp2_with fail;apply((λw=>aib ah w m) _).Q;rintro e w' ⟨rfl,rfl⟩;exact PZ);have s:bm≠[]:=λe=>l<|.inr ⟨i,e⟩;have b:fP ⟨sc,al,av,dn,aU,cg,aP,bm⟩ false (jB ah)=bm:=(by unfold fP;grind);rw[b];have t:(sc !=1)=true:=(by simpa using i);have u:(sc==1)=false:=(by simpa using i);have v:((bm.length:Int)==0)=false:=r4;clear b;go_enter func73,ntmps73;go_wp2_with fail;apply(Az ad cp bm _ (g.later cf) O).Q;clear g cf;rintro e y ⟨eA,rfl,f,j⟩;obtain⟨a2,c2,rfl,_⟩:=ay.shape f;have c:=J f;clear f;go_wp2;go_ret;exact⟨⟨_,_,I,c.txt,.inr λx q=>by have:=ay.Iz c.out x q;have:=p7.size;exact⟨O,O⟩⟩,p7.aD j⟩
def Xh(W:tW)(a0:oT)(l:jm)(w:tW)(e:Ending)(w':tW):Prop:=
 (∃a c,e=.returned (.slice a l.length c)/\xL W w' a l/\(a=a0\/∀x,a=some x->w.heap.size<=x.block/\x.block<w'.heap.size))/\Y w w'
def tl.k{W}{a0}{l}{w w'}{e}(h:tl a0 l w e w'):Xh W a0 l w e w':=by obtain⟨⟨a,c,b,d,f⟩,g⟩:=h;exact⟨⟨a,c,b,.Nb d,f⟩,g⟩
def Xi W(a:nP)(p:Bool)(ah:F)w(b:xL W w a.addr a.d.domain)(hl:a.d.domain.length<=100000)(i:ah.size<=reachBytes):cL 49 #[.agg a.arr,p,ah] w (Xh W a.addr (fP a.d p<|jB ah) w):=by obtain⟨⟨sc,al,av,dn,aU,cg,aP,bm⟩,ad,cp⟩:=a;simp only at b hl ⊢;refine Xg ?_;intro cf p7;have c:=J<|b.later cf;clear b cf;cases p;(.by_cases f:sc=1;(.subst f;have ik:fP ⟨1,al,av,dn,aU,cg,aP,bm⟩ false (jB ah)=[jB ah]:=(by unfold fP;simp);rw[ik];clear ik;go_enter func49,ntmps49;go_wp2_with fail;apply((λw=>aie ah w i) _).Q;rintro e w' ⟨rfl,rfl⟩;go_wp2;go_ret;exact(xM _ _ _ _ _ bT p7.out).k);have j:(sc==1)=false:=(by simpa using f);by_cases g:bm=[];(.subst g;have ik:fP ⟨sc,al,av,dn,aU,cg,aP,[]⟩ false (jB ah)=[⟨#[47]⟩]:=(by unfold fP;simp [f]);exact Xj);have ik:fP ⟨sc,al,av,dn,aU,cg,aP,bm⟩ false (jB ah)=bm:=(by unfold fP;grind);rw[ik];have l:((bm.length:Int)>0):=(by have:=IQ.2 g;omega);clear ik g;go_enter func49,ntmps49;go_wp2;go_ret;exact⟨⟨_,_,I,c,.inl I⟩,p7⟩);have ik:fP ⟨sc,al,av,dn,aU,cg,aP,bm⟩ true (jB ah)=[⟨#[47]⟩]:=(by unfold fP;simp);exact Xj
def XA{w}{q}{g:dJ}{T}(h:A w q g.arr T):w.rangeAt q 0<|mP g.ar:=λj v a=>by
 match j,a with
 |0,a=>cases a;exact h.cell 0 I
 |1,a=>cases a;exact h.cell 1 I
 |2,a=>cases a;exact h.cell 2 I
def RbW(l:List dJ)(ga:oT)(a gc:Nat)(w:tW)(e:Ending)(w':tW):Prop:=(∃v,e=.returned (.agg #[.slice ga a gc,v])/\aq cz 13 bS w' w v l)/\Y w w'
def FL ga l gc a E Ws x w(hS:cE 13 bS w a Ws)(hl:Ws.length<=100000):cL 47 #[.agg #[.slice ga l gc,.slice a Ws.length E],.agg x.arr] w (RbW (dH 8<|Ws.filter (λy=>!eF x.ar x.ax y.d)++[x]) ga l gc w):=by have p:=((((aL w w).alloc mS<|.cells #[.slice ga l gc,.slice a Ws E] bx).alloc mS<|.cells x.arr cz).alloc mS<|.cells #[bN,bN] bx);have q:=(((A.new w #[.slice ga l gc,.slice a Ws E] bx).alloc<|.cells x.arr cz).alloc<|.cells #[bN,bN] bx);have L:=((A.new (w.alloc<|.cells #[.slice ga l gc,.slice a Ws E] bx) x.arr cz).alloc<|.cells #[bN,bN] bx);have hz:=(A.new ((w.alloc<|.cells #[.slice ga l gc,.slice a Ws E] bx).alloc<|.cells x.arr cz) #[bN,bN] bx);simp only[b9] at L hz;have m:=λw5 hS=>pe ga l gc a E Ws x.ar x.ax w5 hS hl;have a6:(Ws.filter λy=>!eF x.ar x.ax y.d).length<=Ws.length:=fx _ _;generalize Ws.filter (λy=>!eF x.ar x.ax y.d)=l2 at m a6 ⊢;have a8:l2.length+1<=maxLen:=l3;have ba:(l2.length+1)*168<=140737488355328:=O;have N:(l2++[x]).length<=1048576:=(by rw[iG];have:[x].length=1:=I;omega);obtain⟨r,z⟩:∃r,Hid<|r=l2++[x]:=⟨_,J I⟩;rw[<-z.out] at N ⊢;obtain⟨M,R⟩:∃M,Hid<|M=dH 8 r:=⟨_,J I⟩;rw[<-R.out];go_enter func47,ntmps47;go_upto_region 1 with(fail);generalize(((w.alloc<|.cells #[.slice ga l gc,.slice a Ws E] bx).alloc<|.cells x.arr cz).alloc<|.cells #[bN,bN] bx)=w5 at p q L hz ⊢;have S:=XA L;have k3:=cV (.bool x.ax)<|L.cell 3 I;have p7:=J p;have bd:=hz.lt;go_wp2_with (first|(refine ae I bx _ I _ I q _ dT I bJ ?_)|(refine cD I 39 _ I (w+1) 0 I (mP x.ar) _ S underlying39 I aB ?_));apply(m w5<|hS.later p).Q;clear hS p m;rintro e w6 ⟨⟨v,rfl,hO⟩,i⟩;obtain⟨a2,c2,rfl,_⟩:=aq.shape bh hO;have B:=J<|p7.aD i;clear k3 S;go_upto_region 2 with(refine aa I bx _ _ I _ I (q.later i) #[.slice ga l gc,.slice a2 l2 c2] I I bJ nx ?_;intro w7 D j);clear q;have T:=(L.later i).grown j nJ;clear L;have G:=hO.past j O;clear hO;have aef:=J G;have hJ:=J<|ag B.out j B.size lJ;have bb:=de i.size j.size;have c0:=cV (.slice a2 l2 c2)<|D.cell 1 I;go_wp2_with (first|(refine ae I cz _ I _ I T _ qM I jQ ?_)|(at_builtin;refine ck FD underlying26 aJ Z bh aJ _ _ aJ w7 w5 (.slice a2 l2 c2) l2 aJ G x (jP _) _ aJ _ aJ aJ a8 ba bb ?_;intro v9 w9 s wi W;rw[<-z.out] at s;obtain⟨a9,c9,rfl,_⟩:=aq.shape bh s;clear W T c0));have ab:=(D.alloc<|.cells x.arr cz).grown wi λe=>P1;clear D;have ad:=(((hz.later i).grown j nJ).alloc<|.cells x.arr cz).grown wi λe=>P1;clear hz i j;refine Xw ?_;intro Xx hs9;have H:=adQ 8 w5 _ r w9 s hs9 N Z;rw[show((8:Nat):Int)=8 from I] at H;clear G s wi;apply H.Q;rintro e bk ⟨⟨v10,rfl,b⟩,c⟩;rw[<-R.out] at b;obtain⟨t,u,rfl,_⟩:=aq.shape bh b;have n:=J<|Xx.aD c;clear H;go_upto_region 3 with(refine aQ I _ _ _ aJ w.heap.size 1 aJ (ab.later c) (by decide:1<2) (.slice t M u) aJ aJ aJ AJ ?_;intro bc C f);clear ab;have K:A bc w #[.slice ga l gc,.slice t M u] bx:=C;have aS:=(ad.later c).grown f nJ;clear ad c;have Nh:=J<|b.past f O;clear b;have Xy:=J<|ag n.out f n.size lJ;clear C f;go_wp2_with (first|(refine ae I bx _ I _ I K _ dT I bJ ?_)|(refine aa I bx _ _ I _ I aS #[.slice ga l gc,.slice t M u] I I bJ nx ?_;intro bo a1 IX));refine bL (v:=.agg #[.slice ga l gc,.slice t M u]) ?_ I ?_;(.exact cK 4 bx (w.heap.size+1+1) results47 I<|bH a1 dT I bJ);exact Xz
def ml(p q:dL):Bool:=
 (p.ar.sec==q.ar.sec)&&(p.ar.host.toList==q.ar.host.toList)&&(p.ar.port==q.ar.port)&&(p.dest.sec==q.dest.sec)&&(p.dest.host.toList==q.dest.host.toList)&&(p.dest.port==q.dest.port)&&(p.path.toList==q.path.toList)&&(p.query.toList==q.query.toList)&&(p.bB==q.bB)&&(p.method.toList==q.method.toList)&&(p.head.toList==q.head.toList)&&(p.ju==q.ju)
def zzA p q:ml p q=true↔p=q:=by constructor;(.intro h;simp only[ml,xC,beq_iff_eq] at h;obtain⟨⟨⟨⟨⟨⟨⟨⟨⟨⟨⟨o,j⟩,r⟩,s⟩,k⟩,t⟩,l⟩,m⟩,u⟩,a⟩,b⟩,n⟩:=h;obtain⟨⟨C,a2,a3⟩,⟨D,G,H⟩,c,d,e,f,g,i⟩:=p;obtain⟨⟨v,w,x⟩,⟨y,z,B⟩,K,L,M,N,P,R⟩:=q;simp only at o j r s k t l m u a b n;have j:=toList_inj j;have k:=toList_inj k;have l:=toList_inj l;have m:=toList_inj m;have a:=toList_inj a;have b:=toList_inj b;grind);rintro rfl;simp [ml]
def Yg p q w:(binOp .eql aZ (.agg p.arr)<|.agg q.arr).run prog w=.ok (.bool<|ml p q) w:=by obtain⟨⟨e,o,r⟩,⟨f,s,t⟩,ah,a,bB,m,h,u⟩:=p;obtain⟨⟨g,i,j⟩,⟨k,l,n⟩,d,b,c,v,x,y⟩:=q;have z:ml ⟨⟨e,o,r⟩,⟨f,s,t⟩,ah,a,bB,m,h,u⟩ ⟨⟨g,i,j⟩,⟨k,l,n⟩,d,b,c,v,x,y⟩=((e==g)&&(o.toList==i.toList)&&(r==j)&&(f==k)&&(s.toList==l.toList)&&(t==n)&&(ah.toList==d.toList)&&(a.toList==b.toList)&&(bB==c)&&(m.toList==v.toList)&&(h.toList==x.toList)&&(u==y)):=I;rw[z];go_simp;grind
def Qi o p(a b c d:F)w:(binOp .eql 41 (.agg #[o.sec,o.host,o.port,a,b])<|.agg #[p.sec,p.host,p.port,c,d]).run prog w=.ok (.bool<|bI o p&&(a.toList==c.toList)&&(b.toList==d.toList)) w:=by exact Wu
def yF:prog.eqGuardType prog.depth aZ=false:=dU
def wZ(s:F):jm->Int->Option (Int×Bool)
 |[],_=>none
 |n::r,k=>if same s n then some (k,false) else if same s (n++(⟨#[45,115,101,115,115]⟩:F)) then some (k,true) else wZ s r (k+1)
def gT:jm:=[(⟨#[77,68,53]⟩:F),(⟨#[83,72,65,45,50,53,54]⟩:F)]
def gj(s:F):Option<|Int×Bool:=wZ s gT 2
def Oi(ws:List<|bs)(n:F):Bool:=ws.any λl=>bg l==bg n
def n_(ws:List<|bs)(a n:F):F:=if Oi ws n then n else a
def eM:jm:=[(⟨#[97,117,116,104,45,105,110,116]⟩:F),(⟨#[97,117,116,104]⟩:F)]
def pj(ws:List<|bs):F:=eM.foldl (n_ ws) ⟨#[]⟩
def kN(a:F)(l:bs):F:=
 if bg l==[97,117,116,104] then (⟨#[97,117,116,104]⟩:F) else if bg l==[97,117,116,104,45,105,110,116] then (if a.toList.isEmpty then (⟨#[97,117,116,104,45,105,110,116]⟩:F) else a) else a
def BI ws:pj ws=if Oi ws (⟨#[97,117,116,104]⟩:F) then (⟨#[97,117,116,104]⟩:F) else if Oi ws (⟨#[97,117,116,104,45,105,110,116]⟩:F) then (⟨#[97,117,116,104,45,105,110,116]⟩:F) else ⟨#[]⟩:=aJ
def Oj:bg ((⟨#[97,117,116,104]⟩:F)).data.toList=[97,117,116,104]:=jN
def Uf:bg ((⟨#[97,117,116,104,45,105,110,116]⟩:F)).data.toList=[97,117,116,104,45,105,110,116]:=jN
def Gl{α:Type}{P:List α->Prop}(hZa:P [])(hZb:∀l x,P l->P (l++[x]))l:P l:=by have h:∀l:List α,P l.reverse:=(by intro l;induction l with|nil =>exact hZa|cons a l ih =>grind);simpa using h l.reverse
def afk ws:ws.foldl kN ⟨#[]⟩=pj ws:=by (induction ws using Gl with|hZa =>rfl|hZb ws l ih =>rw[Bl,vB,V0,ih,BI,BI];unfold kN Oi;rw[Oj,Uf,yQ,yQ];simp only[Qa,List.any_nil,Bool.or_false];cases a:(bg l==[97,117,116,104]);(.cases b:(bg l==[97,117,116,104,45,105,110,116]);(.simp);cases c:ws.any λl=>bg l==[97,117,116,104];(.cases d:ws.any λl=>bg l==[97,117,116,104,45,105,110,116];(.simp);simp);simp);simp)
def oM(p:F):Bool:=p.data.toList.head?==some 47
def mZ(d:F):jm:=((bu 32 d).filter oM).map lO
def hQ(ps:o5):Option ByteArray:=
 if (dv ps (⟨#[113,111,112]⟩:F)).2 then
  match bP (dv ps (⟨#[113,111,112]⟩:F)).1.data.toList with
  |(ws,e,_)=>if e≠0 then none else if (pj ws).toList.isEmpty then none else some (pj ws)
 else some ⟨#[]⟩
def w_(ps:o5):F:=if (dv ps (⟨#[97,108,103,111,114,105,116,104,109]⟩:F)).2 then (dv ps (⟨#[97,108,103,111,114,105,116,104,109]⟩:F)).1 else (⟨#[77,68,53]⟩:F)
def mr(sc:F)(ps:o5)(a:Option<|Int×Bool)(q:Option ByteArray):Option jt:=
 match a with
 |none=>none
 |some (k,aU)=>
  if same sc (⟨#[100,105,103,101,115,116]⟩:F)=false then none
  else if (dv ps (⟨#[110,111,110,99,101]⟩:F)).2=false then none
  else match q with
   |none=>none
   |some q=>some ⟨k,(dv ps (⟨#[114,101,97,108,109]⟩:F)).1,(dv ps (⟨#[110,111,110,99,101]⟩:F)).1,(dv ps (⟨#[111,112,97,113,117,101]⟩:F)).1,aU,q,same (dv ps (⟨#[115,116,97,108,101]⟩:F)).1 (⟨#[116,114,117,101]⟩:F),mZ (dv ps (⟨#[100,111,109,97,105,110]⟩:F)).1⟩
def cO(sc:F)(ps:o5):Option jt:=
 if (dv ps (⟨#[114,101,97,108,109]⟩:F)).2=false then none
 else if same sc (⟨#[98,97,115,105,99]⟩:F) then some {fL with scheme:=1,al:=(dv ps (⟨#[114,101,97,108,109]⟩:F)).1}
 else mr sc ps (gj<|w_ ps) (hQ ps)
def yR{s:F}{k:Int}{b:Bool}:∀{l:jm} {j:Int},wZ s l j=some (k,b)->j<=k/\k<j+l.length
 |[],_,h=>by cases h
 |n::r,j,h=>by
  unfold wZ at h
  rw[List.length_cons]
  split at h
  .cases h;omega
  .split at h
   .cases h;omega
   .have:=yR h;omega
def Gm{s}{k}{b}(h:gj s=some (k,b)):2<=k/\k<=3:=by have:=yR h;simp only[gT,iN,qF] at this;omega
def uv{sc}{ps}{a}(h:cO sc ps=some a):1<=a.scheme/\a.scheme<=3:=by unfold cO at h;split at h;(.cases h);split at h;(.grind);unfold mr at h;split at h;(.cases h);rename_i k aU b;have:=Gm b;grind
def oN(l:List<|Option jt):jt:=l.foldl (λb x=>match x with
 |some a=>if b.scheme<a.scheme then a else b
 |none=>b) fL
def h_(l:List<|Option jt)(s:Int):Option jt:=(l.find? λx=>match x with
 |some a=>a.scheme==s
 |none=>false).join
def vd(l:List<|Option jt)(x:Option jt):oN (l++[x])=match x with|some a=>if (oN l).scheme<a.scheme then a else oN l|none=>oN l:=by unfold oN;grind
def m'(l:List<|Option jt)(x:Option jt)(s:Int):h_ (l++[x]) s=match h_ l s with|some a=>some a|none=>match x with|some a=>if a.scheme=s then some a else none|none=>none:=by unfold h_;rw[Kc];(cases h:l.find? (λx=>match x with|some a=>a.scheme==s|none=>false) with|none =>(cases x with|none =>simp|some a =>grind)|some y =>(have:=QZ h;cases y with|none =>simp at this|some a =>simp))
def x3{l}{s}{a}(h:h_ l s=some a):a.scheme=s/\some a∈l:=by unfold h_ at h;(cases c:l.find? (λx=>match x with|some a=>a.scheme==s|none=>false) with|none =>rw[c] at h;cases h|some y =>(rw[c] at h;have d:=QZ c;have e:=su c;cases y with|none =>cases h|some b =>grind))
def Kd:∀(l:List<|Option jt),(∀a,some a∈l->1<=a.scheme/\a.scheme<=3)->oN l=(match h_ l 3 with|some a=>a|none=>match h_ l 2 with|some a=>a|none=>match h_ l 1 with|some a=>a|none=>fL):=by intro l;(induction l using Gl with|hZa =>intro _;rfl|hZb l x ih =>intro h;have c:=ih (λa g=>h a<|by simp [g]);rw[vd,m',m',m'];(cases d:h_ l 3 with|some a =>(rw[d] at c;simp only at c;have:=(x3 d).1;cases x with|none =>simpa using c|some b =>grind)|none =>rw[d] at c;simp only at c;(cases e:h_ l 2 with|some a =>(rw[e] at c;simp only at c;have:=(x3 e).1;cases x with|none =>simpa using c|some b =>grind)|none =>rw[e] at c;simp only at c;(cases f:h_ l 1 with|some a =>(rw[f] at c;simp only at c;have:=(x3 f).1;cases x with|none =>simpa using c|some b =>grind)|none =>rw[f] at c;simp only at c;(cases x with|none =>simpa using c|some b =>have:=(h b bT);simp only;rw[c,a'<|by show(0:Int)<_;omega];grind)))))
def yS l:(bP l).1.length<=40:=by unfold bP;grind
def Ol p:(fR p).length<=p.length:=by unfold fR;exact de (MM _).length_le (CN _).length_le
def Ke{M:Nat}:∀{ps:List<|bs} {k:Nat} {b c:List<|bs},kl ps k b=.inl c->(∀p∈ps,p.length<=M)->(∀a∈b,a.length<=M)->∀r∈c,r.length<=M
 |[],_,b,c,h,_,e=>by cases h;exact e
 |p::ps,k,b,c,h,g,e=>by
  unfold kl at h
  split at h
  .refine Ke h (λq hq=>g q<|by simp [hq]) ?_
   split
   .exact e
   .intro a d
    rcases ek.1 d with f|f
    .exact e a f
    .simp only[kx] at f
     subst f
     exact de (Ol p) (g p<|by simp)
  .cases h
def BJ(s:F):∀r∈(bP s).1,r.length<=s.size:=by unfold bP l8;split;(.intro r a;simp at a);rename_i ws h;split;(.intro r a;simp at a);refine Ke h ?_ bT;intro p b;rw[<-fl] at b;obtain⟨q,hq,rfl⟩:=jM.1 b;have:=kc 44 s q hq;simp_all
def Kf{ss}{M}(h:∀r∈aT ss,r.length<=M):∀s∈ss,s.size<=M:=λs a=>by
 rw[an];exact h _<|jM.2 ⟨s,a,I⟩
def ZK ss n:ss.any (λx=>same x n)=Oi (aT ss) n:=by unfold Oi aT;rw[DV];rfl
def EN{f}(a:jm)k(h:k<a.length)(z:F):(a.take<|k+1).foldl f z=f ((a.take k).foldl f z) a[k]:=by exact IE
def fF(d:F)(k:Nat):jm:=(((bu 32 d).take k).filter oM).map lO
def Kg d k(h:k<(bu 32 d).length)(hs:oM (bu 32 d)[k]=false):fF d (k+1)=fF d k:=by exact ZL
def EO d k(h:k<(bu 32 d).length)(hs:oM (bu 32 d)[k]=true):fF d (k+1)=fF d k++[lO (bu 32 d)[k]]:=by exact ZL
def EP d k:(fF d k).length<=k:=by unfold fF;grind
def ER d:fF d (bu 32 d).length=mZ d:=by unfold fF mZ;rw[fq]
def Gn(ss:jm)k(h:k<ss.length):(ss.map Value.string).toArray[k]?=some (.string ss[k]):=uT
end Go.Proofs.YtkdneaemikbhkaaGreatDoor
