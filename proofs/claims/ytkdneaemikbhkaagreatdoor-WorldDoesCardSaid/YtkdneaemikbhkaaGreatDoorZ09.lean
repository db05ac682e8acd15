import Derived.Test.YtkdneaemikbhkaaGreatDoorZ08
set_option linter.all false
set_option maxRecDepth 100000
set_option maxHeartbeats 40000000
namespace Go.Proofs.YtkdneaemikbhkaaGreatDoor
open _root_.Go.Proofs.Tryz Go.RowKit Go.Deep
def MZ:prog.underlying 148=some (.struct<|(match prog.underlying 148 with|some (.struct a)=>a|_=>#[])):=dU
def agW w:(zeroValue 148).run prog w=.ok (.agg en) w:=dU
def agX:(Value.agg en).cells.all (·.oneCell')=true:=adK
def ah9:(prog.info? 148).map (λi=>(i.zero,i.size,i.bytes))=some (some<|.agg en,13,168):=dU
def SZ(g:Nat)lb f a E ps S w(l:cE 13 bS w a ps)(hl:ps.length<=1048576)(n:∀args w,(callFunc g args).run prog w=.ok (.enter g args) w)(hp:yr prog dJ.arr g lb f ps S w):cL 256 #[.slice a ps.length E,.func (.func g) #[] lb] w<|ti f ps w:=by go_enter func256,ntmps256;go_wp2;go_loopw [8] (λi wr=>∃k:Nat,k<=ps/\i=mI k/\Hid (Y w wr)/\Hid ((ps.take k).any f=false)) (λi _=>ps.length - (intOf i).toNat);(.exact⟨0,bt _,I,J<|aL _ _,J I⟩);obtain⟨k,p,rfl,hB,hN⟩:=hrel;by_cases cY:k<ps;(.obtain⟨b,aj,rfl,j⟩:=(l.later hB.out) k cY;refine H0 ?_;intro l0;have c:wr.rangeAt b (aj+k*13)<|bS ps[k]:=j;have d:(Value.agg (bS ps[k]).toArray)=.agg (dJ.arr ps[k]):=I;cases hq:f ps[k];(.rw[hq] at l0;have hn:=J<|iR cY hN.out hq;clear hq j;generalize ps[k]=x at l0 c d;go_wp2_with (first|(refine cD I 148 _ I b (aj+k*13) I (bS x) _ c MZ I et ?_)|(go_at_fn g;apply l0.Q;rintro e m ⟨rfl,dZ⟩));exact Av);rw[hq] at l0;refine H2 ?_;intro hn;clear j hq;generalize ps[k]=x at l0 c d;go_wp2_with (first|(refine cD I 148 _ I b (aj+k*13) I (bS x) _ c MZ I et ?_)|(go_at_fn g;apply l0.Q;rintro e m ⟨rfl,dZ⟩));exact H3);exact Wm
def Iv(g:Nat)lb f af v ps w(B:aq 148 13 bS w af v ps)(hl:ps.length<=1048576)(L:∀args w,(callFunc g args).run prog w=.ok (.enter g args) w)(hp:yr prog dJ.arr g lb f ps (λi=>v.ownBlock=some i) w):cL 180 #[v,.func (.func g) #[] lb] w (kH 148 13 bS af v (ps.filter λx=>!f x) w):=by obtain⟨a,y,G,q,_⟩:=aq.shape bh B;have hI:=SZ g lb f a y ps _ w q hl L hp;rw[<-G] at hI;have hR:=eE.kr bh B;have H4:=J B;clear q G B;rcases hR with⟨rfl,rfl⟩|⟨g0,E,rfl,hb,hR⟩;(.go_enter func180,ntmps180;exact H5);have hRH:=J hR;refine pZ ?_;intro CO PD;clear hR;go_enter func180,ntmps180;go_wp2_with fail;apply hI.Q;rintro e w1 ⟨r,rfl,hr,hB⟩;rcases hr with⟨rfl,H6⟩|⟨k0,rfl,hk0,H7,H6⟩;(.go_wp2;go_ret;refine⟨_,I,?_,ak.au hB,I⟩;rw[o8 H6];exact H8);refine Wn ?_;intro hK0 Hr Wo pB hPH;clear hp hI hB H7 H6;go_wp2;go_loopw [5,6,7] (λM C _ wr=>∃(i j:Nat) (d:List dJ),M=mI i/\C=mI j/\i<j/\j<=ps/\Hid (mO f ps d i j)/\Hid (eE 148 13 bS wr g0 E d)/\Hid (ak (λi=>i=g0) w wr)) (λ_ C _ _=>ps.length - (intOf C).toNat);(.exact⟨k0,k0+1,ps,I,cJ,O,O,hK0,Hr,J<|ak.au pB.out⟩);obtain⟨i,j,d,rfl,rfl,D,N,hK,zK,p⟩:=hrel;by_cases cY:j<ps;(.obtain⟨hjd,hdj⟩:=hK.at cY;have hid:i<d:=O;have s:wr.rangeAt g0 (j*13)<|bS ps[j]:=adL;refine Wp ?_;intro l0 CP CQ;have H:=A.new wr en 148;have z:=p.size;have R:=zK.lt;clear hdj hjd;generalize ps[j]=x at s l0 CP CQ;cases hq:f x;(.have hk':=J<|CP.out hq;simp only[hq] at l0;clear hq CP CQ;go_wp2_with (first|(refine cD I 148 _ I g0 (j*13) I (bS x) _ s MZ I et ?_)|(refine aa I 148 _ _ I _ I H (dJ.arr x) I I et (kI x) ?_;intro wa b l;have m:=J ((p.alloc<|.cells en 148).new l z);have t:=J ((zK.later ((aL _ _).alloc lJ<|.cells en 148)).grown l nJ);have n:=l0 wa m.out)|(refine ae I 148 _ I _ I b _ MZ I et ?_)|(go_at_fn g;apply n.Q;rintro e S ⟨rfl,c⟩;have u:=b.later c;have VI:=t.later c;have pU:=J<|m.then c)|(refine ae I 148 _ I _ I u _ MZ I et ?_)|(refine j_ bh I _ _ I g0 E i d VI hid I x _ I I et (jP x) ?_;intro W hR3 vQ));exact H9);have hk':=J<|CQ hq;simp only[hq] at l0;clear hq CP CQ;go_wp2_with (first|(refine cD I 148 _ I g0 (j*13) I (bS x) _ s MZ I et ?_)|(refine aa I 148 _ _ I _ I H (dJ.arr x) I I et (kI x) ?_;intro wa b l;have m:=J ((p.alloc<|.cells en 148).new l z);have t:=J ((zK.later ((aL _ _).alloc lJ<|.cells en 148)).grown l nJ);have n:=l0 wa m.out)|(refine ae I 148 _ I _ I b _ MZ I et ?_)|(go_at_fn g;apply n.Q;rintro e S ⟨rfl,c⟩;have VI:=J<|t.later c;have pU:=J<|m.then c));exact H');obtain rfl:ps=j:=O;refine H_ ?_;intro gp hd1 Ia FC vR;obtain⟨K,T⟩:=fW (P:=prog) wr 64 148 (.agg en) 13 underlying64 agW I agX Z g0 (i*13) (ps.length - i) (E - i) O (zK.there _ _ (by have:=nj 13 CO;have:=nj 13<|ma D;rw[SQ];omega));clear hd1 Ia gp;go_wp2;go_ret;refine⟨_,I,?_,(p.trans<|gZ wr g0 (i*13) K).mono λi e=>uc,rfl⟩;have hr:=zK.yq bh i (i*13) K lJ;rw[FC.out] at hr;have:=hr.own bh Z hb;exact Ib
def PH i j af v ps w(n:aq 148 13 bS w af v ps)(hl:ps.length<=1048576)(r:i<j)(s:j<=ps.length):cL 154 #[v,mI (i:Int),mI (j:Int)] w<|kH 148 13 bS af v (ps.take i++ps.drop j) w:=by rcases eE.kr bh n with⟨rfl,rfl⟩|⟨g0,E,rfl,hb,hR⟩;(.simp at s;omega);obtain⟨i0,y,z,m,B⟩:=ni ah9;refine pZ ?_;intro CO PD;obtain⟨cU,b⟩:∃cU,cU=(ps.drop j).flatMap bS:=⟨_,I⟩;have SX:cU.length=(ps.length - j)*13:=(by rw[b,dQ bh,fX]);obtain⟨a,L,d⟩:∃a:Addr,(if E=j then some ((U g0 0):Addr) else some ⟨g0,j*13,none⟩)=some a/\Hid (∀t u,cU[t]?=some u->w.drew.cell? (a.add t)=some u):=(by by_cases h:E=j;(.exact Ic);refine⟨⟨g0,j*13,none⟩,uT,λt u eu=>?_⟩;have ht:t<(ps.length - j)*13:=adM;refine Wv ?_;intro h1 h2 h3;rw[b,h3,iM bh (ps.drop j) (t / 13) (t%13) PF h2] at eu;rw[o9,show j*13+t=(j+t / 13)*13+t%13 from Ie];refine hR.cell (j+t / 13) O (t%13) u ?_;grind);have f:Hid<|∀u∈cU,u.oneCell'=true:=(by intro u eu;rw[b,DP] at eu;obtain⟨x,_,C⟩:=eu;exact jP x u C);have Ig:(i+(ps.length - j))*13<=E*13:=nj _ O;have g:Hid<|∀t,t<cU.length->(w.drew.cell? ⟨g0,0+i*13+t,none⟩).isSome=true/\w.drew.frozen? ⟨g0,0+i*13+t,none⟩=false:=(by intro t ht;have:=hR.there (i*13) cU.length adN t ht;simp_all);obtain⟨W1,Aw⟩:∃W1,W1=w.drew.setCells g0 (0+i*13) cU:=⟨_,I⟩;have c:eE 148 13 bS W1 g0 E<|ps.take i++ps.drop j:=(by rw[Aw,b,lp];exact(hR.later (aL _ _).drew).lay bh i (ps.drop j) O Wr);refine Wt ?_;intro CB p3;obtain⟨p,D⟩:=fW (P:=prog) W1 64 148 (.agg en) 13 underlying64 agW I agX Z g0 ((i+(ps.length - j))*13) (ps.length - (i+(ps.length - j))) (E - (i+(ps.length - j))) O (c.there _ _<|by have h:=nj 13 CO;refine Ih ?_;exact h);have l:=J p3;have G:Hid<|W1=w.drew.setCells g0 (0+i*13) cU:=Aw;have H:i<=E:=O;have K:j<=E:=O;clear Aw hR n b p3 Ig;go_enter func154,ntmps154;go_wp2_with fail;go_region_law (refine Ii I (.tmp 22) (.tmp 25) 64 I 148 i0 13 underlying64 y m g0 0 i E Ij a (ps.length - j) (E - j) cU Ij SX d.out f.out O g.out ?_;rw[<-G.out]);clear SX;go_wp2;go_ret;refine⟨_,I,?_,(CB.trans<|gZ W1 g0 ((i+(ps.length - j))*13) p).mono λi e=>uc,rfl⟩;clear CB;have q:=c.yq bh (i+(ps.length - j)) ((i+(ps.length - j))*13) p lJ;clear c;rw[<-l.out,fq] at q;have:=q.own bh Z hb;rw[l.out] at this;exact this
def FD:(prog.info? 121).map (λi=>(i.zero,i.size,i.bytes))=some (some<|.agg en,13,168):=dU
def S1(af k:Nat)(l:List dJ)(w:tW)(e:Ending)(w':tW):Prop:=(∃a,e=.returned a/\aq 121 13 bS w' af a (dH k l))/\Y w w'
def adQ(k af:Nat)v l w(b:aq 121 13 bS w af v l)(hb:af<=w.heap.size)(hl:l.length<=1048576)(hk:k<=1000):cL 111 #[v,mI (k:Int)] w<|S1 af k l w:=by have H4:=J b;rcases eE.kr bh b with⟨rfl,rfl⟩|⟨g0,E,rfl,n,hR⟩;(.clear b;go_enter func111,ntmps111;go_wp2;go_ret;exact⟨⟨_,I,by rw[show dH k ([]:List dJ)=[] from Il];exact H4⟩,aL _ _⟩);refine pZ ?_;intro CO PD;by_cases r:k<l;(.obtain⟨i0,p,f,i,j⟩:=ni FD;obtain⟨a,s,c⟩:∃a:Addr,(if E=l.length - k then some ((U g0 0):Addr) else some ⟨g0,(l.length - k)*13,none⟩)=some a/\Hid (∀t u,((l.drop<|l.length - k).flatMap bS)[t]?=some u->w.cell? (a.add t)=some u):=(by by_cases h:E=l.length - k;(.exact Im);refine⟨⟨g0,(l.length - k)*13,none⟩,uT,λt u eu=>?_⟩;refine Io ?_;intro gp;have ht:t<k*13:=(by rw[<-gp,<-dQ bh];exact(o'.1 eu).1);refine Wv ?_;intro h1 h2 h3;rw[h3,iM bh _ (t / 13) (t%13) (by rw[gp];exact h1) h2] at eu;rw[o9,show(l.length - k)*13+t=(l.length - k+t / 13)*13+t%13 from Ie];refine hR.cell (l.length - k+t / 13) O (t%13) u ?_;grind);have d:=J (show((l.drop<|l.length - k).flatMap bS).length=(l.length - (l.length - k))*13 by rw[dQ bh,fX]);have e:Hid (∀u∈(l.drop<|l.length - k).flatMap bS,u.oneCell'=true):=(by refine Ip ?_;intro u x _ hx;exact jP x u hx);refine Iq ?_;intro nQ;have m:(0+(l.length - (l.length - k)))*168<=140737488355328:=O;clear hR b;go_enter func111,ntmps111;go_wp2_with (at_builtin;refine vA _ I _ _ 26 I w 121 i0 (.agg en) 13 168 underlying26 p f i j I Z (bN) 0 [] aJ (VW w w 121 13) a (l.length - (l.length - k)) (E - (l.length - k)) ((l.drop<|l.length - k).flatMap bS) MY d.out c.out e.out nQ m lJ ?_;intro q w' ud PG _);have Ir:aq 121 13 bS w' w q (l.drop<|l.length - k):=(by exact Is);exact It);clear hR b;go_enter func111,ntmps111;exact Iu
def yx(a b:nP)w(h:a.d=b.d)(i:bX w a.addr a.d.domain)(hb:bX w b.addr b.d.domain)(hl:a.d.domain.length<=maxLen):cL 183 #[.agg a.arr,.agg b.arr] w<|dx (.bool true) w:=by obtain⟨⟨sc,al,av,dn,aU,cg,aP,c⟩,ad,E⟩:=a;obtain⟨d2,g,f⟩:=b;simp only at h i hb hl;subst h;simp only at hb;have j:Y w ((w.alloc<|.cells #[sc,al,av,dn,aU,cg,aP,.slice ad c E] 96).alloc<|.cells #[sc,al,av,dn,aU,cg,aP,.slice g c f] 96):=((aL _ _).alloc lJ _).alloc bT _;go_enter func183,ntmps183;go_wp2_with fail;apply(ug ad g E f c _ (i.later j) (hb.later j) hl).Q;clear i hb hl;rintro e l ⟨rfl,k⟩;go_wp2;go_ret;exact⟨I,j.aD k⟩
def fR(p:bs):bs:=(p.dropWhile cl).takeWhile ds
def eT(p:bs):bs:=((p.dropWhile cl).dropWhile ds).dropWhile cl
def kl:List (bs)->Nat->List (bs)->(List<|bs) ⊕ Nat
 |[],_,a=>.inl a
 |p::ps,k,a=>if eT p=[] then kl ps (k+p.length+1) (if fR p=[] then a else a++[fR p]) else .inr (k+(p.length - (eT p).length))
def u1(p:UInt8->Bool):∀l:bs,l.drop (l.takeWhile p).length=l.dropWhile p
 |[]=>rfl
 |a::l=>by
  rw[r7,An]
  cases p a
  .rfl
  .simpa using u1 p l
def kS p(l:bs)k:(l.drop<|k+(a_ p l k).length)=(l.drop k).dropWhile p:=by unfold a_;rw[<-Ej,u1]
def Be(p:UInt8->Bool):∀l:bs,(l.takeWhile p).length+(l.dropWhile p).length=l.length
 |[]=>rfl
 |a::l=>by
  rw[r7,An]
  have:=Be p l
  cases p a
  .simp
  .simp only[if_true,iN];omega
def mm{p:UInt8->Bool}{c:UInt8}(h:p c=false)(y:bs):∀x:bs,(x++c::y).dropWhile p=x.dropWhile p++c::y
 |[]=>by simp [h]
 |a::x=>by
  rw[Bf,An,An]
  cases p a
  .simp
  .simpa using mm h y x
def u2{p:UInt8->Bool}{c:UInt8}(h:p c=false)(y:bs):∀x:bs,(x++c::y).takeWhile p=x.takeWhile p
 |[]=>by simp [h]
 |a::x=>by
  rw[Bf,r7,r7]
  cases p a
  .simp
  .simpa using u2 h y x
def mn{p}{c}{l:bs}(h:c∈l.dropWhile p):c∈l:=(CN _).subset h
def Bg(c:UInt8):∀r:bs,(dA c r=[r]/\c∉r)\/∃p a,r=p++c::a/\c∉p/\dA c r=p::dA c a
 |[]=>.inl ⟨I,by simp⟩
 |x::l=>by
  by_cases b:x=c
  .subst b
   exact .inr ⟨[],l,I,by simp,pX x l⟩
  .obtain⟨p,r,d,g⟩:=od b l
   rcases Bg c l with⟨e,f⟩|⟨i,a,e,f,h⟩
   .rw[e] at d;cases d
    exact .inl ⟨g,by simp [f,Ne.symm b]⟩
   .rw[h] at d;cases d
    exact .inr ⟨x::p,a,by rw[e];rfl,by simp [f,Ne.symm b],g⟩
def sv:cl 44=false:=Z
def Ek:ds 44=false:=Z
def n3(r:bs):bs:=((r.dropWhile cl).dropWhile ds).dropWhile cl
def TI r:∃p ps,dA 44 r=p::ps/\fR p=(r.dropWhile cl).takeWhile ds/\p.length - (eT p).length=r.length - (n3 r).length/\((eT p=[]/\ps=[]/\n3 r=[]/\p.length=r.length)\/(eT p=[]/\∃b,n3 r=44::b/\ps=dA 44 b/\p.length+1+b.length=r.length)\/(eT p≠[]/\∃c t,n3 r=c::t/\c≠44)):=by rcases Bg 44 r with⟨e,d⟩|⟨p,b,e,d,i⟩;(.refine⟨r,[],e,I,I,?_⟩;(cases h:eT r with|nil =>exact .inl ⟨I,I,h,I⟩|cons c t =>refine .inr<|.inr ⟨bT,c,t,h,?_⟩;intro f;have:c∈eT r:=(by rw[h];simp);exact d (f▸mn (mn<|mn this))));have g:n3 r=eT p++44::b:=(by unfold n3 eT;rw[e,mm sv,mm Ek,mm sv]);have a:r=p.length+1+b.length:=(by rw[e];simp;omega);have j:(eT p).length<=p.length:=((CN _).trans ((CN _).trans<|CN _)).length_le;refine⟨p,dA 44 b,i,?_,?_,?_⟩;(.unfold fR;rw[e,mm sv,u2 Ek]);(.rw[g,a];simp;omega);(cases h:eT p with|nil =>grind|cons c t =>refine .inr<|.inr ⟨bT,c,t++44::b,by rw[g,h];rfl,?_⟩;intro f;have:c∈eT p:=(by rw[h];simp);exact d (f▸mn (mn<|mn this)))
def ahj:(λc=>([32,9]:bs).contains c)=cl:=by funext c;have:∀n:Fin 256,([32,9]:bs).contains (UInt8.ofNat n.val)=cl (UInt8.ofNat n.val):=jN;have h:=this ⟨c.toNat,c.toNat_lt⟩;simpa using h
def aiB c(h:cl c=true):ds c=false:=by have:∀n:Fin 256,cl (UInt8.ofNat n.val)=true->ds (UInt8.ofNat n.val)=false:=jN;have a:=this ⟨c.toNat,c.toNat_lt⟩;simp_all
def xR{p}{x:bs}(h:x.all p=true):x.dropWhile p=[]:=fk.2 h
def tt{p}{x y:bs}(h:x.all p=true):(x++y).dropWhile p=y.dropWhile p:=r4
def Bh{p}{x y:bs}(h:x.dropWhile p≠[]):(x++y).dropWhile p=x.dropWhile p++y:=by rw[List.dropWhile_append];cases b:x.dropWhile p with|nil =>exact absurd b h|cons a l =>rfl
def sx(p:UInt8->Bool):∀x:bs,(x.takeWhile p).all p=true
 |[]=>rfl
 |a::l=>by
  rw[r7]
  cases h:p a
  .rfl
  .simp only[if_true,Fz,h,Bool.true_and];exact sx p l
def NF p:∃b d,p=b++Lib.trimS p [32,9]++d/\b.all cl=true/\d.all cl=true/\(∀c,(Lib.trimS p [32,9]).head?=some c->cl c=false)/\(∀c,(Lib.trimS p [32,9]).getLast?=some c->cl c=false):=by have e:Lib.trimS p [32,9]=((p.reverse.dropWhile cl).reverse).dropWhile cl:=(by unfold Lib.trimS Lib.trimLeftS Lib.trimRightS;rw[ahj]);obtain⟨q,hq⟩:∃q,q=(p.reverse.dropWhile cl).reverse:=⟨_,I⟩;have i:p=q++(p.reverse.takeWhile cl).reverse:=(by rw[hq,<-Qj,ui,List.reverse_reverse]);refine⟨q.takeWhile cl,(p.reverse.takeWhile cl).reverse,?_,sx _ _,by rw[SM];exact sx _ _,?_,?_⟩;(.rw[e,<-hq,ui];exact i);(.intro c f;rw[e,<-hq] at f;(cases g:q.dropWhile cl with|nil =>rw[g] at f;cases f|cons a r =>rw[g] at f;cases f;exact f' g));intro c f;rw[e,<-hq] at f;have h:q=q.takeWhile cl++q.dropWhile cl:=(ui).symm;have hl:q.getLast?=some c:=gA;rw[hq,List.getLast?_reverse] at hl;(cases g:p.reverse.dropWhile cl with|nil =>rw[g] at hl;cases hl|cons a r =>rw[g] at hl;cases hl;exact f' g)
def El p:∃a b,p=a++Lib.trimS p [32,9]++b/\a.all cl=true/\b.all cl=true/\(Lib.trimS p [32,9]=[]\/(p.dropWhile cl=Lib.trimS p [32,9]++b/\∃c r,Lib.trimS p [32,9]=c::r/\cl c=false))/\(∀c,(Lib.trimS p [32,9]).getLast?=some c->cl c=false):=by obtain⟨a,b,d,e,f,h,g⟩:=NF p;refine⟨a,b,d,e,f,?_,g⟩;cases i:Lib.trimS p [32,9] with|nil =>exact .inl I|cons c r =>simp_all
def Jt{p}(h:Lib.trimS p [32,9]=[]):fR p=[]/\eT p=[]:=by have a:p.all cl=true:=(by have:=(DL p [32,9]).1 h;rwa [ahj] at this);unfold fR eT;rw[xR a];exact⟨I,I⟩
def Yj{p q}{x:bs}(h:x.all p=true)(b:∀c,q c=true->p c=false):x.takeWhile q=[]:=by (cases x with|nil =>rfl|cons a r =>simp only[Fz,xC] at h;rw[r7];grind)
def Yk c(h:ds c=true):cl c=false:=by cases hb:cl c;(.rfl);rw[aiB c hb] at h;cases h
def Em{p q}{x:bs}(h:x.all p=true)(a:∀c,q c=true->p c=false):x.dropWhile q=x:=by have:=@List.takeWhile_append_dropWhile _ q x;rw[Yj h a] at this;exact this
def Yl{p}{x y:bs}(h:x.all p=true):(x++y).takeWhile p=x++y.takeWhile p:=r4
def NG{p}(a:j9 (Lib.trimS p [32,9])=true):fR p=Lib.trimS p [32,9]/\eT p=[]:=by obtain⟨b,e,g,h,f,d,i⟩:=El p;unfold j9 at a;rw[xC] at a;rcases d with d|⟨d,c,r,j,k⟩;(.grind);unfold fR eT;rw[d,Yl a.2,Yj f Yk,oW,tt a.2,Em f Yk,xR f];exact⟨I,I⟩
def n7(t:bs):Nat:=if (t.takeWhile ds).length=0 then 0 else (t.takeWhile ds).length+((t.dropWhile ds).takeWhile cl).length
def uo{p:UInt8->Bool}:∀{t:bs},t.dropWhile p≠[]->(t.dropWhile p).getLast?=t.getLast?
 |[],h=>absurd I h
 |a::l,h=>by
  rw[An] at h ⊢
  cases c:p a
  .rw[c] at h;rfl
  .rw[c] at h
   rw[a' rfl] at h ⊢
   rw[uo h]
   cases l with
   |nil=>exact absurd I h
   |cons b r=>rw[List.getLast?_cons_cons]
def aeF{t:bs}(b:t.dropWhile ds≠[])(hl:∀c,t.getLast?=some c->cl c=false):(t.dropWhile ds).dropWhile cl≠[]:=by intro e;have f:=fk.1 e;obtain⟨c,d⟩:∃c,(t.dropWhile ds).getLast?=some c:=(by cases h:t.dropWhile ds with|nil =>exact absurd h b|cons a r =>grind);have g:=hl c (by rw[<-uo b];exact d);grind
def NH a t b(f:a.all cl=true)c r(e:t=c::r)(g:cl c=false):Lib.index (a++t++b) t=(a.length:Int):=by refine Lib.index_first bT ?_ ?_;(.unfold Lib.occAt;grind);intro j h;unfold Lib.occAt;rw[e];(cases hb:(c::r).isPrefixOf ((a++c::r++b).drop j) with|false =>rfl|true =>exfalso;rw[List.isPrefixOf_iff_prefix] at hb;obtain⟨z,hz⟩:=hb;have d:j<(a++c::r++b).length:=fK;rw[rK d] at hz;grind)
def TJ{p}(i:Lib.trimS p [32,9]≠[])(d:j9 (Lib.trimS p [32,9])=false):eT p≠[]/\∃k:Nat,Lib.index p (Lib.trimS p [32,9])=(k:Int)/\k<=p.length/\p.length - (eT p).length=k+n7 (Lib.trimS p [32,9]):=by obtain⟨a,b,h,s,z,f,j⟩:=El p;obtain⟨t,u⟩:∃t,t=Lib.trimS p [32,9]:=⟨_,I⟩;rw[<-u] at i d h f j ⊢;rcases f with f|⟨f,c,r,g,l⟩;(.exact absurd f i);have m:t.all ds=false:=(by unfold j9 at d;grind);have n:t.dropWhile ds≠[]:=(by intro e;rw[fk] at e;grind);have o:=aeF n j;have q:eT p=(t.dropWhile ds).dropWhile cl++b:=(by unfold eT;rw[f,Bh n,Bh o]);refine⟨by rw[q];simp [o],a.length,?_,by rw[h];simp,?_⟩;(·(conv=>lhs;rw[h]);exact NH a t b s c r g l);have l1:=Be ds t;have l2:=Be cl<|t.dropWhile ds;have v:p=a.length+t.length+b.length:=gA;rw[q,iG,v];unfold n7;split;(.rename_i w;have B:=VH.1 w;have x:t.dropWhile ds=t:=(by have:=@List.takeWhile_append_dropWhile _ ds t;grind);have y:(t.dropWhile ds).dropWhile cl=t:=(by rw[x,g,An,aY<|by simp [l]]);rw[y];omega);omega
def uu(c:UInt8):Bool:=cl c ||c==44
def d_(l:bs)(k:Nat):Nat:=k+(a_ uu l k).length
def cP(l:bs)(k:Nat):Nat:=k+(a_ cl l k).length
def eJ(l:bs)(k:Nat):bs:=a_ ds l k
def eK(l:bs)(k:Nat):Nat:=k+(eJ l k).length
def ie(l:bs)(k:Nat):Bool:=match l.drop k with
 |[]=>true
 |c::_=>c==44
def fs(l:bs)(k:Nat)(c:UInt8):Bool:=match l.drop k with
 |[]=>false
 |x::_=>x==c
def dD(c:UInt8):Bool:=decide (97<=c.toNat/\c.toNat<=122\/65<=c.toNat/\c.toNat<=90\/48<=c.toNat/\c.toNat<=57)||[45,46,95,126,43,47].contains c
def iA(l:bs)(k:Nat):Option<|bs×Nat:=
 let x:=a_ dD l k
 let e:=a_ (·==61) l (k+x.length)
 let j:=cP l (k+x.length+e.length)
 if x≠[]/\ie l j=true then some (x++e,j) else none
def nF(p:UInt8->Bool)(l:bs):bs:=(l.reverse.dropWhile p).reverse
def Gg(l:bs)(k:Nat):Option<|bs×Nat:=
 let a:=(l.drop k).takeWhile (λc=>c !=44)
 let w:=nF cl a
 let body:=nF (·==61) w
 if body≠[]/\body.all dD=true then some (w,k+a.length) else none
def yN p l:∃y,l=nF p l++y/\y.all p=true:=by refine⟨(l.reverse.takeWhile p).reverse,?_,by rw[SM];exact sx _ _⟩;unfold nF;rw[<-Qj,ui,List.reverse_reverse]
def ED{p}{x y}(a:y.all p=true)(b:∀c,x.getLast?=some c->p c=false):nF p (x++y)=x:=by unfold nF;rw[Qj,tt<|by rw[SM];exact a];have:x.reverse.dropWhile p=x.reverse:=(by cases h:x.reverse with|nil =>rfl|cons c r =>simp_all);grind
def lN{q}[DecidablePred q](h:∀n:Fin 256,q<|UInt8.ofNat n.val)c:q c:=by have:=h ⟨c.toNat,c.toNat_lt⟩;simpa using this
def afc c(h:(c==61)=true):dD c=false:=lN (q:=λc=>(c==61)=true->dD c=false) jN c h
def afd c(h:cl c=true):dD c=false:=lN (q:=λc=>cl c=true->dD c=false) jN c h
def JZ c(h:(c==61)=true):cl c=false:=lN (q:=λc=>(c==61)=true->cl c=false) jN c h
def Ob c(h:dD c=true):cl c=false:=lN (q:=λc=>dD c=true->cl c=false) jN c h
def Oc c(h:dD c=true):(c==61)=false:=lN (q:=λc=>dD c=true->(c==61)=false) jN c h
def J0{x:bs}{c}(h:x.getLast?=some c):c∈x:=List.mem_of_getLast? h
def afe(r:bs):∃t,r=r.takeWhile (λc=>c !=44)++t/\(t=[]\/∃b,t=44::b):=by refine⟨r.dropWhile λc=>c !=44,(ui).symm,?_⟩;(cases h:r.dropWhile (λc=>c !=44) with|nil =>exact .inl I|cons a t =>have:=f' h;grind)
def qk{p}(a:p 44=false){s t:bs}(c:t=[]\/∃b,t=44::b):(s++t).takeWhile p=s.takeWhile p/\(s++t).dropWhile p=s.dropWhile p++t:=by rcases c with rfl|⟨b,rfl⟩;(.simp);exact⟨u2 a _ _,mm a _ _⟩
def T3 l k:Gg l k=iA l k:=by obtain⟨t,T,C⟩:=afe<|l.drop k;obtain⟨b,f⟩:∃b,b=(l.drop k).takeWhile (λc=>c !=44):=⟨_,I⟩;rw[<-f] at T;have bc:44∉b:=(by intro h;rw[f] at h;have:=pC.1 (sx (λc=>c !=44)<|l.drop k) 44 h;simp at this);have hx:a_ dD l k=b.takeWhile dD:=(by unfold a_;rw[T];exact(qk Z C).1);have D:l.drop (k+(a_ dD l k).length)=b.dropWhile dD++t:=(by rw[kS,T];exact(qk Z C).2);have d:a_ (·==61) l (k+(a_ dD l k).length)=(b.dropWhile dD).takeWhile (·==61):=(by unfold a_ at D ⊢;rw[D];exact(qk Z C).1);have G:l.drop (k+(a_ dD l k).length+(a_ (·==61) l<|k+(a_ dD l k).length).length)=(b.dropWhile dD).dropWhile (·==61)++t:=(by rw[kS,D];exact(qk Z C).2);obtain⟨x,g⟩:∃x,x=b.takeWhile dD:=⟨_,I⟩;obtain⟨y,m⟩:∃y,y=b.dropWhile dD:=⟨_,I⟩;have n:b=x++y:=(by rw[g,m,ui]);obtain⟨e,o⟩:∃e,e=y.takeWhile (·==61):=⟨_,I⟩;obtain⟨z,p⟩:∃z,z=y.dropWhile (·==61):=⟨_,I⟩;have q:y=e++z:=(by rw[o,p,ui]);rw[hx,<-g] at D d G;rw[<-m] at D d G;rw[<-o] at d;rw[d,<-p] at G;have H:x.all dD=true:=(by rw[g];exact sx _ _);have K:e.all (·==61)=true:=(by rw[o];exact sx _ _);unfold iA Gg;simp only;rw[<-f,hx,<-g,d];have hb:a_ cl l (k+x.length+e.length)=z.takeWhile cl:=(by unfold a_;rw[G];exact(qk sv C).1);have W:ie l (cP l<|k+x.length+e.length)=(z.dropWhile cl).isEmpty:=(by unfold ie cP;rw[kS,G,(qk sv C).2];(cases hz:z.dropWhile cl with|nil =>grind|cons a r =>have ha:a∈b:=(by rw[n,q];have:a∈z.dropWhile cl:=(by rw[hz];simp);exact QF _ (QF _<|mn this));grind));have s:b=x.length+e.length+z.length:=(by rw[n,q];simp;omega);by_cases i:x≠[]/\(z.dropWhile cl).isEmpty=true;(.obtain⟨bk,ab⟩:=i;have bb:nF cl b=x++e:=(by rw[n,q,<-l7];refine ED (fk.1<|QG.1 ab) ?_;intro c u;rcases ek.1 (J0 u) with h|h;(.exact Ob c<|pC.1 H c h);exact JZ c<|pC.1 K c h);have ad:=ED K (λc u=>Oc c (pC.1 H c<|J0 u));have hj:cP l (k+x.length+e.length)=k+b.length:=(by unfold cP;rw[hb,s];have:=Be cl z;grind);grind);rw[aY (show ¬(x≠[]/\ie l (cP l<|k+x.length+e.length)=true) by rw[W];exact i),aY];rintro⟨L,v⟩;apply i;obtain⟨j,aD,w⟩:=yN cl b;obtain⟨B,M,N⟩:=yN (·==61)<|nF cl b;obtain⟨bd,aS⟩:∃bd,bd=nF (·==61) (nF cl b):=⟨_,I⟩;rw[<-aS] at L v M;have P:b=bd++(B++j):=(by rw[aD,M];simp);have a1:∀c,c∈B++j->dD c=false:=(by intro c u;rcases ek.1 u with h|h;(.exact afc c<|pC.1 N c h);exact afd c<|pC.1 w c h);have R:(B++j).takeWhile dD=[]/\(B++j).dropWhile dD=B++j:=(by (cases h:B++j with|nil =>exact⟨I,I⟩|cons a r =>have:=a1 a (by rw[h];simp);rw[r7,An,this];exact⟨I,I⟩));have a6:x=bd:=(by rw[g,P,Yl v,R.1,oW]);have a8:y=B++j:=(by rw[m,P,tt v,R.2]);have ba:z=j.dropWhile (·==61):=(by rw[p,a8,tt N]);have S:z=j:=(by rw[ba];exact Em w λc u=>JZ c u);refine⟨by rw[a6];exact L,?_⟩;rw[S,xR w];rfl
abbrev ql:=List UInt8×bs
structure rv where
 scheme:bs
 token:bs
 params:List ql
abbrev Od(α:Type):=(Int×Nat) ⊕ α
def EE(a b:bs):Bool:=bg a==bg b
def eL(l:bs)(k:Nat)(ps:List ql):Od<|Nat×List ql:=
 let b:=cP l (eK l k)
 if eJ l k=[]\/fs l b 61=false then .inl (3,b)
 else
  let a:=cP l (b+1)
  let v:Option<|bs×Nat:=if eJ l a=[] then cm l a else some (eJ l a,eK l a)
  match v with
  |none=>.inl (3,a)
  |some (v,k4)=>
   if ps.any (λq=>EE q.1<|eJ l k)=true then .inl (9,k)
   else if ps.length=16 then .inl (4,k)
   else .inr (k4,ps++[(eJ l k,v)])
def pM(l:bs)(k:Nat):Bool:=eJ l k !=[]&&fs l (cP l<|eK l k) 61
def cX(l:bs):Nat->Nat->List ql->Od (Nat×List ql)
 |0,k,ps=>.inr (k,ps)
 |f+1,k,ps=>match eL l k ps with
  |.inl e=>.inl e
  |.inr (k4,a)=>
   if ie l (cP l k4)=false then .inl (3,cP l k4)
   else if pM l (d_ l<|cP l k4)=true then cX l f (d_ l<|cP l k4) a
   else .inr (d_ l<|cP l k4,a)
def iK(l:bs)(k jq:Nat):Od<|Nat×rv:=
 if eJ l k=[] then .inl (3,k)
 else if jq=8 then .inl (4,k)
 else
  let a:=cP l (eK l k)
  if ie l a=true then .inr (a,⟨eJ l k,[],[]⟩)
  else if a=eK l k then .inl (3,a)
  else match iA l a with
   |some (t,e)=>.inr (e,⟨eJ l k,t,[]⟩)
   |none=>match cX l (l.length+1 - a) a [] with
    |.inl e=>.inl e
    |.inr (e,ps)=>.inr (e,⟨eJ l k,[],ps⟩)
def jE(l:bs):Nat->Nat->List rv->Od (List rv)
 |0,_,a=>.inr a
 |f+1,k,a =>
  if l.length<=d_ l k then .inr a
  else match iK l (d_ l k) a.length with
   |.inl e=>.inl e
   |.inr (k',x)=>jE l f k'<|a++[x]
def BB(l:bs):Od<|List rv:=jE l (l.length+1) 0 []
def qm l k(h:k<=l.length):d_ l k<=l.length:=by have:=gY uu l k;unfold d_;omega
def wU l k(h:k<=l.length):cP l k<=l.length:=by have:=gY cl l k;unfold cP;omega
def QH l k(h:k<=l.length):eK l k<=l.length:=by have:=gY ds l k;unfold eK eJ;omega
def tv l k:k<=cP l k:=QI _ _
def qn l k:k<=d_ l k:=QI _ _
def QJ l k:k<=eK l k:=QI _ _
def oL{l}{k}{c}(h:fs l k c=true):k<l.length:=by unfold fs at h;by_cases a:k<l.length;(.exact a);rw[zb O] at h;cases h
def wV{l}{k}c(h:k<l.length):fs l k c=(l[k]==c):=by unfold fs;rw[rK h]
def Zk{l}{k}(h:k<l.length):ie l k=(l[k]==44):=by unfold ie;rw[rK h]
def EF{l}{k}(h:l.length<=k):ie l k=true:=by unfold ie;rw[zb h]
def eh(ps:o5):Bool:=ps.all λp=>j9 p.1.data.toList
def e0(r:l4):Bool:=decide (0<=r.part/\r.part<=3)&&j9 r.method&&decide (r.bA.length<=40)&&eh r.bA
def Cc{ps}{k}(h:k<ps.length)(hb:j9 ps[k].1.data.toList=false):eh ps=false:=by unfold eh;grind
def zr{ps:o5}{k}(h:k<ps.length)(a:eh (ps.take k)=true)(hb:j9 ps[k].1.data.toList=true):eh (ps.take<|k+1)=true:=by unfold eh at *;rw[gW h,vE,a];simp [hb]
def O4 r w(g:r.Ok w):cL 59 #[.agg r.arr] w (dx (.bool<|e0 r) w):=by have z5:=jn g.method;have n:=g.FA;unfold maxLen at n;by_cases t:0<=r.part/\r.part<=3;(case neg =>have hr:Hid<|e0 r=false:=J (by unfold e0;simp [t]);by_cases v:r.part<0;(.go_enter func59,ntmps59;go_wp2;exact RP);have j:4<=r.part:=O;go_enter func59,ntmps59;go_wp2;exact RP);obtain⟨p,j⟩:=t;cases c:j9 r.method;(.have hr:Hid<|e0 r=false:=J (by unfold e0;simp [c]);exact abF);by_cases x:40<r.bA.length;(.have hr:Hid<|e0 r=false:=J (by unfold e0;simp [show ¬r.bA.length<=40 from O]);exact abF);have hr:Hid<|e0 r=eh r.bA:=J (by unfold e0;simp [c,p,j,show r.bA.length<=40 from O]);have q:=g.at_;have s:=g.re;clear g;generalize e0 r=z at *;obtain⟨part,ar,dest,ah,l,method,m,E,bA,bB,body⟩:=r;dsimp only[l4.arr] at *;go_enter func59,ntmps59;go_wp2_with (go_at_call 129;apply(vH _ _ z5).Q;rintro e w' ⟨rfl,rfl⟩);go_loopw [28] (λi wr=>∃k:Nat,k<=bA/\i=mI k/\Y w wr/\Hid (eh (bA.take k)=true)) (λi _=>bA.length - (intOf i).toNat);(.exact⟨0,bt _,I,(aL _ _).alloc lJ _,J<|by simp [eh]⟩);obtain⟨k,B,rfl,d,u⟩:=hrel;by_cases a:k<bA;(.obtain⟨b,aj,rfl,C,D⟩:=(q.later d) k a;have y:=(s.sz _<|ej a).1;cases hb:j9 bA[k].1.data.toList;(.have f:=J<|Cc a hb;go_wp2_with (go_at_call 129;apply(vH _ _ y).Q;rintro e w' ⟨rfl,rfl⟩);go_ret;exact⟨aW<|by rw[hr.out,f.out],d.alloc d.size _⟩);have f:=J<|zr a u hb;go_wp2_with (go_at_call 129;apply(vH _ _ y).Q;rintro e w' ⟨rfl,rfl⟩);refine bM ?_;exact⟨k+1,O,cJ,d.alloc d.size _,f⟩);obtain rfl:k=bA:=O;have f:=u.out;rw[fq] at f;go_wp2;go_ret;exact⟨aW<|by rw[hr.out,f],d⟩
def yj(r:l4):Bool:=decide (0<=r.part/\r.part<=3)&&j9 r.method&&decide (r.bA.length<=40)
def Lm r:e0 r=(yj r&&eh r.bA):=rfl
def zs r w(d:r.Ok w):cL 32 #[.agg r.arr] w (dx (.bool<|e0 r) w):=by have z5:=jn d.method;have m:=d.FA;unfold maxLen at m;have t:=J<|Lm r;have n:=d.at_;have p:=d.re;clear d;have u:Hid<|yj r=(decide (0<=r.part/\r.part<=3)&&j9 r.method&&decide (r.bA.length<=40)):=J I;generalize yj r=q at *;generalize e0 r=x at *;obtain⟨part,ar,dest,ah,f,method,l,E,bA,bB,body⟩:=r;dsimp only[l4.arr] at *;go_enter func32,ntmps32;go_wp2_with (first|(go_at_call 31;apply(dS _ _ _ _).Q;rintro e w' ⟨rfl,rfl⟩)|(go_at_call 90;apply(r6 _ _ z5).Q;rintro e w' ⟨rfl,rfl⟩));all_goals go_loopw [3,23] (λv i wr=>∃(k:Nat) (b:Bool),k<=bA/\i=mI k/\v=.bool b/\Y w wr/\Hid (b=(q&&eh (bA.take k)))) (λ_ i _=>bA.length - (intOf i).toNat);(.exact⟨0,_,bt _,I,I,(aL _ _).alloc lJ _,J<|by rw[u.out];simp [*,eh]<;> omega⟩);obtain⟨k,b,z,rfl,rfl,c,s⟩:=hrel;by_cases a:k<bA;(.obtain⟨g,aj,rfl,B,C⟩:=(n.later c) k a;have y:=(p.sz _<|ej a).1;have j:Hid ((q&&eh (bA.take<|k+1))=((q&&eh (bA.take k))&&j9 bA[k].1.data.toList)):=J (by unfold eh;rw[gW a,vE];simp [Bool.and_assoc]);cases b;(.go_wp2;refine bM ?_;exact⟨k+1,false,O,cJ,I,c.alloc c.size _,J<|by rw[j.out,<-s.out];rfl⟩);go_wp2_with (go_at_call 90;apply(r6 _ _ y).Q;rintro e w' ⟨rfl,rfl⟩);refine bM ?_;exact⟨k+1,j9 bA[k].1.data.toList,O,cJ,I,c.alloc c.size _,J<|by rw[j.out,<-s.out];rfl⟩);obtain rfl:k=bA:=O;have j:=s.out;rw[fq] at j;go_wp2;go_ret;exact⟨aW<|by rw[t.out,j],c⟩
end Go.Proofs.YtkdneaemikbhkaaGreatDoor
