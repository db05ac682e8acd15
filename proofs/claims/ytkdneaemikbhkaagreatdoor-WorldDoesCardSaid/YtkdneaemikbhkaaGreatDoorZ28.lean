import Derived.Test.YtkdneaemikbhkaaGreatDoorZ27
set_option linter.all false
set_option maxRecDepth 100000
set_option maxHeartbeats 40000000
namespace Go.Proofs.YtkdneaemikbhkaaGreatDoor
open _root_.Go.Proofs.Tryz Go.RowKit Go.Deep
abbrev dL.until(p:dL)(t:Int):dL:=⟨p.ar,p.dest,p.path,p.query,p.bB,p.method,p.head,t⟩
def jg(p q:dL):Bool:=ml (p.until q.ju) q
def Yh p q w:cL 174 #[.agg p.arr,.agg q.arr] w (dx (.bool<|jg p q) w):=by have cf:=J (((aL w w).alloc lJ<|.cells (p.until q.ju).arr aZ).alloc bT<|.cells q.arr aZ);have b:=(A.new w (p.until q.ju).arr aZ).alloc<|.cells q.arr aZ;have a:=A.new (w.alloc<|.cells (p.until q.ju).arr aZ) q.arr aZ;rw[b9] at a;have heq:=λw=>Yg (p.until q.ju) q w;have hl:ml (p.until q.ju) q=jg p q:=I;rw[hl] at heq;generalize jg p q=c at heq ⊢;clear hl;go_enter func174,ntmps174;go_wp2_with (first|(refine ae I aZ _ I _ I b _ underlying167 I bV ?_)|(refine ae I aZ _ I _ I a _ underlying167 I bV ?_)|(refine bq _ I .eql aZ aZ _ _ I (p.until q.ju).arr q.arr aJ aJ yF _ (heq _) ?_));go_ret;exact AM
def Ei(p:dL)(V:Int)w:cL 162 #[.agg p.arr,V] w (dx (.bool<|decide (V<p.ju)) w):=by go_enter func162,ntmps162;go_wp2;go_ret;exact⟨I,(aL w w).alloc lJ<|.cells p.arr aZ⟩
def wF{p q}(h:p≠q):ml p q=false:=by cases e:ml p q;(.rfl);exact absurd ((zzA p q).1 e) h
def Yi p q:ml (q.until p.ju) p=jg p q:=by unfold jg;by_cases h:p.until q.ju=q;(.rw[(zzA _ _).2 h,(zzA _ _).2];rw[<-h]);rw[wF h,wF];intro e;apply h;rw[<-e]
def qh(b:List dL)(p:dL):List dL:=b.filter (λq=>!jg p q)++[p]
def ir(max:Nat)(b l:List dL)(V:Int):List dL:=dH max ((l.foldl qh b).filter λp=>decide (V<p.ju))
def gP(r:l4)(V:Int)(b:List dL):List dL:=
 b.filter (λp=>decide (V<p.ju)&&bI p.ar r.ar&&(bI p.dest r.dest&&(p.path.toList==r.path.toList)&&(p.query.toList==r.query.toList))&&(p.bB ||!r.bB))
def fe(r:l4)(b:List dL):List dL:=b.filter λp=>!(bI p.ar r.ar&&(bI p.dest r.dest&&(p.path.toList==r.path.toList)&&(p.query.toList==r.query.toList)))
def gI(o:pD)(b:List dL):List dL:=b.filter λp=>!(bI p.ar o ||bI p.dest o)
def mF:∀(l b:List dL),(l.foldl qh b).length<=b.length+l.length
 |[],b=>by simp
 |p::l,b=>by
  have a:=mF l (qh b p)
  have c:(qh b p).length<=b.length+1:=by
   unfold qh
   rw[List.length_append]
   have:=List.length_filter_le (λq=>!jg p q) b
   simp;omega
  simp only[vB,iN]
  omega
def Js max b l V:(ir max b l V).length<=max:=by unfold ir dH;grind
instance amM:DecidableEq ByteArray:=λa b=>if h:a.data.toList=b.data.toList then isTrue (kq h) else isFalse (λe=>h<|by rw[e])
abbrev BP:=ByteArray×F
def zi(a:List BP)(p:BP):Bool:=a.any λq=>decide (q=p)
def Bj a(p:BP):zi a p=true↔p∈a:=by unfold zi;grind
def aeG{a}{p:BP}(h:p∉a):zi a p=false:=by cases e:zi a p;(.rfl);exact absurd ((Bj a p).1 e) h
def nk(a:List BP)(p:BP):List BP:=if zi a p=true then a else a++[p]
def gQ(l:List BP):List BP:=l.foldl nk []
def u4 l(p:BP):gQ (l++[p])=nk (gQ l) p:=by unfold gQ;rw[Bl];rfl
def Yr a(p:BP):(nk a p).length<=a.length+1:=by unfold nk;split;(.omega);simp
def Ys{a}{p q:BP}(h:q∈nk a p):q∈a\/q=p:=by unfold nk at h;grind
def Jv:∀(l a:List BP) (q:BP),q∈l.foldl nk a->q∈a\/q∈l
 |[],a,q,h=>.inl h
 |p::l,a,q,h=>by
  rcases Jv l (nk a p) q h with h|h
  .rcases Ys h with h|h
   .exact .inl h
   .exact .inr (by rw[h];exact Qk)
  .exact .inr<|DR _ h
def TL{l}{q:BP}(h:q∈gQ l):q∈l:=by rcases Jv l [] q h with h|h;(.cases h);exact h
def Jw:∀(l a:List BP),(l.foldl nk a).length<=a.length+l.length
 |[],a=>by simp
 |p::l,a=>by
  have b:=Jw l (nk a p)
  have c:=Yr a p
  simp only[vB,iN]
  omega
def oi l:(gQ l).length<=l.length:=by have:=Jw l [];rw[qF,lp] at this;exact this
def gg(ms a:jm):List BP:=ms.map (λm=>(m,⟨#[]⟩))++a.map (λh=>(⟨#[]⟩,h))
def qS ms a:(gg ms a).length=ms.length+a.length:=by simp [gg]
def C6(p:BP):bs:=p.1.data.toList++0::p.2.data.toList
def sy(p:BP):Prop:=p.2=⟨#[]⟩\/(p.1=⟨#[]⟩/\(0:UInt8)∉p.2.data.toList)
def aeH{p q:BP}(f:sy p)(hq:sy q)(h:C6 p=C6 q):p=q:=by obtain⟨m,a⟩:=p;obtain⟨n,b⟩:=q;unfold C6 at h;have g:∀(m b:F),(0:UInt8)∉b.data.toList->m.data.toList++[0]=0::b.data.toList->m=⟨#[]⟩/\b=⟨#[]⟩:=(by intro m b hb e;(cases d:m.data.toList with|nil =>rw[d] at e;have:b.data.toList=[]:=(by simpa using e.symm);exact⟨kq d,kq this⟩|cons c r =>grind));rcases f with f|⟨f,j⟩<;> rcases hq with hq|⟨hq,i⟩;(.simp only at f hq;subst f hq;have:m=n:=kq<|List.append_cancel_right h;rw[this]);(.grind);(.grind);simp only at f hq;subst f hq;have:a=b:=kq vJ;rw[this]
def FY{l}(h:l.all ds=true):(0:UInt8)∉bg l:=by intro a;unfold bg at a;obtain⟨c,d,e⟩:=jM.1 a;have b:∀n:Fin 256,ds (UInt8.ofNat n.val)=true->low (UInt8.ofNat n.val)≠0:=jN;have f:=b ⟨c.toNat,c.toNat_lt⟩;simp_all
def Ep:∀(ps:List<|bs) (k:Nat) (b ws:List<|bs),(∀w∈b,w.all ds=true)->kl ps k b=.inl ws->∀w∈ws,w.all ds=true
 |[],k,b,ws,c,h=>by cases h;exact c
 |p::ps,k,b,ws,c,h=>by
  rw[kl] at h
  split at h
  .refine Ep ps _ _ ws ?_ h
   intro w a
   split at a
   .exact c w a
   .rcases ek.1 a with a|a
    .exact c w a
    .rw[kx.1 a];exact sx _ _
  .cases h
def Jx l:∀w∈(bP l).1,w.all ds=true:=by unfold bP;(cases h:l8 l with|inr k =>intro w a;cases a|inl ws =>simp only;split;(.intro w a;cases a);exact Ep _ _ _ _ (λw a=>by cases a) h)
def yH l:(bP l).1.length<=40:=by unfold bP;cases h:l8 l with|inr k =>simp|inl ws =>grind
def nf(r:l4)(u:Int)(p:BP):dL:=⟨r.ar,r.dest,r.path,r.query,r.bB,p.1,p.2,u⟩
def Jy{a:List BP}{p:BP}{k}(h:k<a.length)(b:p∉a.take k)(e:p≠a[k]):p∉a.take (k+1):=by rw[gW h,ek];grind
def aeI{m h a b}(e:((m,h):BP)≠(a,b)):¬m=a\/(m=a/\¬h=b):=gA
def aeJ{m a:F}(e:¬m=a):¬m.toList=a.toList:=by rw[eR,eR];exact λh=>e<|kq h
def FZ r u a E c(p:BP)w(S:fa w a (c.map<|nf r u))(hl:c.length<=1048576):cL 254 #[.slice a c.length E,.agg (nf r u p).arr] w λe w'=>(∃k:Int,e=.returned (mI k)/\decide (0<=k)=zi c p)/\Y w w':=by obtain⟨part,⟨n,G,H⟩,⟨s,K,L⟩,ah,d,method,ad,T,bA,bB,body⟩:=r;obtain⟨m,h⟩:=p;go_enter func254,ntmps254;go_wp2;go_loopw [8] (λi wr=>∃k:Nat,k<=c/\i=mI k/\Hid (Below (w+1) (w.alloc<|.cells (nf ⟨part,⟨n,G,H⟩,⟨s,K,L⟩,ah,d,method,ad,T,bA,bB,body⟩ u (m,h)).arr aZ) wr)/\Hid ((m,h)∉c.take k)) (λi _=>c.length - (intOf i).toNat);(.exact⟨0,bt _,I,J<|aL _ _,J bT⟩);obtain⟨k,hk,rfl,f,M⟩:=hrel;by_cases t:k<c;(.obtain⟨b,aj,rfl,g⟩:=(S.later<|cB f.out) k (by simpa using t);rw[vY] at g;have j:=J (show(m,h)=c[k]->(m,h)∈c from λe=>e▸ej t);have l:=J (show(m,h)≠c[k]->(m,h)∉c.take (k+1) from λe=>Jy t M.out e);generalize hq:c[k]=q at g j l;obtain⟨N,R⟩:=q;clear hq;have W:=aO f.out 0 I;have b1:=aO f.out 1 I;have b2:=aO f.out 2 I;have b3:=aO f.out 3 I;have b4:=aO f.out 4 I;have b5:=aO f.out 5 I;have b6:=aO f.out 6 I;have b7:=aO f.out 7 I;have b8:=aO f.out 8 I;have b9:=aO f.out 9 I;have x:=aO f.out 10 I;have y:=aO f.out 11 I;have c0:wr.cell? ⟨b,aj+k*12,none⟩=some (.bool n):=g 0 _ I;have c1:wr.cell? ⟨b,aj+k*12+1,none⟩=some (.string G):=g 1 _ I;have c2:wr.cell? ⟨b,aj+k*12+2,none⟩=ev H:=g 2 _ I;have c3:wr.cell? ⟨b,aj+k*12+3,none⟩=some (.bool s):=g 3 _ I;have c4:wr.cell? ⟨b,aj+k*12+4,none⟩=some (.string K):=g 4 _ I;have c5:wr.cell? ⟨b,aj+k*12+5,none⟩=ev L:=g 5 _ I;have c6:wr.cell? ⟨b,aj+k*12+6,none⟩=some (.string ah):=g 6 _ I;have c7:wr.cell? ⟨b,aj+k*12+7,none⟩=some (.string d):=g 7 _ I;have c8:wr.cell? ⟨b,aj+k*12+8,none⟩=some (.bool bB):=g 8 _ I;have c9:wr.cell? ⟨b,aj+k*12+9,none⟩=some (.string N):=g 9 _ I;have ab:wr.cell? ⟨b,aj+k*12+10,none⟩=some (.string R):=g 10 _ I;have aD:wr.cell? ⟨b,aj+k*12+11,none⟩=ev u:=g 11 _ I;simp only[nf] at W b1 b2 b3 b4 b5 b6 b7 b8 b9 x y;have z:=J<|cB f.out;clear g;by_cases v:((m,h):BP)=(N,R);(.have B:=J<|j.out v;cases v;clear j l;go_wp2_with fail;go_quiet (fail);go_wp2;go_ret;exact⟨⟨_,I,by rw[(Bj _ _).2 B.out];simp⟩,aN z.out _⟩);have C:=J<|l v;rcases aeI v with D|⟨rfl,D⟩;all_goals have e2:=aeJ D;clear j l v D;go_wp2_with fail;go_quiet (fail);go_wp2;refine bM ?_;exact⟨k+1,O,cJ,J<|aN f.out _,C⟩);obtain rfl:k=c:=O;have C:=J (show(m,h)∉c by have:=M.out;rwa [fq] at this);go_wp2;go_ret;exact⟨⟨_,I,by rw[aeG C.out];decide⟩,cB f⟩
def zj r u a E b(p:BP)w(l:fa w a (b.map<|nf r u))(hl:b.length<=1048576):cL 170 #[.slice a b.length E,.agg (nf r u p).arr] w (dx (.bool<|zi b p) w):=by have f:=(aL w w).alloc lJ<|.cells (nf r u p).arr aZ;have i:=FZ r u a E b p _ (l.later f) hl;have c:=J f;clear f l;generalize zi b p=d at i ⊢;generalize nf r u p=x at i c ⊢;obtain⟨⟨n,q,s⟩,⟨o,t,v⟩,ah,g,bB,m,h,u2⟩:=x;go_enter func170,ntmps170;go_wp2_with fail;apply i.Q;rintro e y ⟨⟨k,rfl,z⟩,j⟩;clear i;go_wp2;go_ret;exact⟨I,c.aD j⟩
end Go.Proofs.YtkdneaemikbhkaaGreatDoor
namespace Go.Proofs.YtkdneaemikbhkaaGreatDoor
open _root_.Go.Proofs.Tryz Go.RowKit Go.Deep
open Go.ChangeShapes Go.WideShapes Go.ChangeAt Go.WideElems
def Jz(a b c:F)(h:bg b=bg c):same a b=same a c:=by unfold same;rw[h]
def oE ps(b c:F)(h:bg b=bg c):a7 ps b=a7 ps c:=by have:dG ps b=dG ps c:=(by unfold dG;congr 1;exact PL λp _=>Jz _ _ _ h);unfold a7;rw[this]
def zzD:F:=⟨#[97,99,99,101,115,115,45,99,111,110,116,114,111,108,45,109,97,120,45,97,103,101]⟩
def Yy:F:=⟨#[65,99,99,101,115,115,45,67,111,110,116,114,111,108,45,77,97,120,45,65,103,101]⟩
def TN ps:a7 ps Yy=a7 ps zzD:=oE _ _ _ jN
def Bn(s:F)(ok:Bool):Int:=if ok&&oC s then min (C7 s:Int) 600 else 5
def kd ps a M(b:∀p∈ps,p.2.size<=M):(a7 ps a).1.size<=ps.length*(M+2):=by have:=oD M ps a ps b;rw[fq] at this;assumption
def aeL a E ps M w(k:jz w a ps)(hz:nu ps)(hl:ps.length<=1048576)(h:∀p∈ps,p.2.size<=M)(d:ps.length*(M+2)<=1099511627776):cL 169 #[.slice a ps.length E] w (dx (mI<|Bn (a7 ps zzD).1 (a7 ps zzD).2) w):=by have g1:=λw' i=>zT a E ps Yy M w' i hz hl Z h O;rw[TN] at g1;have f:=de (kd ps zzD M h) d;clear h d hl hz;generalize(a7 ps zzD).1=o at g1 f ⊢;generalize(a7 ps zzD).2=ok at g1 ⊢;unfold Yy at g1;have ts:=λw'=>F0 o w' f;cases ok;(.go_enter func169,ntmps169;go_wp2_with fail;apply(g1 _ k).Q;rintro e l ⟨rfl,b⟩;go_wp2;go_ret;exact⟨by unfold Bn;simp,b⟩);unfold mG at ts;cases c:oC o;all_goals rw[c] at ts;have g:=J c;clear c;go_enter func169,ntmps169;go_wp2_with fail;apply(g1 _ k).Q;rintro e l ⟨rfl,b⟩;go_wp2_with fail;apply(ts _).Q;rintro e m ⟨rfl,j⟩;go_wp2;go_ret;exact⟨by unfold Bn;rw[g.out];simp,b.aD j⟩
def aiG a E ps M w(l:jz w a ps)(hz:nu ps)(hl:ps.length<=1048576)(g:∀p∈ps,p.2.size<=M)(c:ps.length*(M+2)<=1099511627776)(h:M<=1099511627776):cL 121 #[.slice a ps.length E] w (dx (mI<|Bn (a7 ps zzD).1 (a7 ps zzD).2) w):=by have g1:=λw' i=>mW a E ps zzD M w' i hz hl Z g O O;have d:=de (kd ps zzD M g) c;clear g c hl hz h;generalize(a7 ps zzD).1=o at g1 d ⊢;generalize(a7 ps zzD).2=ok at g1 ⊢;unfold zzD at g1;have ts:=λw'=>NJ o w' d;have j:(C7 o:Int)<=2147483648:=(by have:=aeK o o.data.toList.length;rw[fq] at this;omega);unfold mG at ts;cases ok;all_goals cases b:oC o;all_goals rw[b] at ts;have f:=J b;clear b;go_enter func121,ntmps121;go_wp2_with fail;apply(g1 _ l).Q;rintro e m ⟨rfl,k⟩;go_wp2_with fail;apply(ts _).Q;rintro e n ⟨rfl,rfl⟩;go_wp2;all_goals go_ret;exact⟨s9 (by unfold Bn;rw[f.out];simp;try omega),k⟩
end Go.Proofs.YtkdneaemikbhkaaGreatDoor
namespace Go.Proofs.YtkdneaemikbhkaaGreatDoor
open _root_.Go.Proofs.Tryz Go.RowKit Go.Deep
def OF(s:F)w(hM:iU w)(hs:s.size<=1000000):cL 77 #[s] w<|OE w s:=by go_enter func77,ntmps77;by_cases hl:3000<s.size;(.have hr:=J<|Q2 (l:=s.data.toList) A5;go_wp2;go_ret2;exact⟨_,_,[],I,aq.nil _ _,tQ,ZG,(λh=>Q3),aL _ _⟩);have H:¬3000<s.data.toList.length:=A5;go_wp2_with fail;apply(gO 10 s w hM hs).Q;rintro e K ⟨rfl,D⟩;have hP:bX K (fJ w)<|bu 10 s:=(by rw[<-D];exact jo w _);have B:Y w K:=(by rw[<-D];exact(aL _ _).alloc lJ _);have T:=hM.later B;have L:=J B;have BU:=J H;have a8:=B.size;clear D B H;have bd:=kb 10 s;go_wp2;go_loopw [4,17] (λv i wr=>∃(k:Nat) (ps:o5),k<=(bu 10 s).length/\i=mI k/\ps.length<=40/\Hid (BT wr K v ps)/\Hid (Y K wr)/\Hid (di (dA 10 s.data.toList) 0 []=di ((dA 10 s.data.toList).drop k) k (iB ps))) (λ_ i _=>(bu 10 s).length - (intOf i).toNat);(.exact⟨0,[],bt _,I,Z,J<|aq.nil _ _,J<|aL _ _,J I⟩);obtain⟨k,ps,hk,rfl,hpl,hO,hB,hinv⟩:=hrel;obtain⟨a3,ba,rfl,_,W,bb,_⟩:=aq.shape dr hO.out;have n:=J<|L.aD hB.out;by_cases cY:k<(bu 10 s).length;(.obtain⟨b,aj,ab,G⟩:=(hP.later hB.out) k cY;cases ab;refine Z2 ?_;intro hxs lA;rw[lp] at G;generalize hx:(bu 10 s)[k]=x at G hxs lA;clear hx;have mv:=J lA;clear lA;obtain⟨m,g⟩:=T.later hB.out;have ht:=Tryz.strings_TrimSuffix x ⟨#[13]⟩ wr O;obtain⟨y,hy⟩:∃y:F,y=⟨(Lib.trimSuffix x.data.toList [13]).toArray⟩:=⟨_,I⟩;have tT:y.data.toList=gq x:=(by rw[hy,bD,Uo]);have bk:y.size<=1000000:=ahF;rw[show(⟨#[13]⟩:F).data.toList=[13] from I,<-hy] at ht;clear hy;go_wp2_with fail;apply ht.Q;clear ht;rintro e w2 ⟨rfl,rfl⟩;by_cases h0:gq x=[];(.have ad:y.toList.isEmpty=true:=(by rw[eR,tT,h0];rfl);have hn:=J<|hinv.trans Z3;clear tT h0 g G;exact Q4);have ad:y.toList.isEmpty=false:=ahG;have hcut:=Tryz.strings_Cut y ⟨#[58]⟩ m w2 O g;rw[show(⟨#[58]⟩:F).data.toList=[58] from I,tT] at hcut;cases ln:oO<|gq x;(.rw[Wd (c:=58) ln] at hcut;have hr:=J (tA BU.out (hinv.trans (by rw[mv.out,kf h0<|.inl ln])));clear tT h0 g G ln;go_wp2_with fail;apply hcut.Q;rintro e w3 ⟨rfl,C,rfl⟩;have q:=n.size;go_wp2;go_ret2;refine⟨_,_,[],I,aq.nil _ _,tQ,?_,(λh=>Q3),(aN n.out C).alloc (by simpa using q) _⟩;rw[hr.out];exact Z4);rw[Pw (c:=58) ln] at hcut;obtain⟨N,hN⟩:∃N:F,N=⟨(kP 58<|gq x).toArray⟩:=⟨_,I⟩;obtain⟨d,hV⟩:∃d:F,d=⟨((gq x).drop ((kP 58<|gq x).length+1)).toArray⟩:=⟨_,I⟩;have p:N.data.toList=jy (gq x):=(by rw[hN,bD];rfl);have t:d.data.toList=(gq x).drop ((jy<|gq x).length+1):=(by rw[hV,bD];rfl);simp only[] at hcut;rw[<-hN,<-hV] at hcut;clear hN hV;have bo:N.size<=1000000:=(by rw[an,p];have:=BO<|gq x;rw[<-tT,<-an] at this;rw[<-tT];omega);have bv:d.size<=1000000:=(by rw[an,t,<-tT,fX,<-an];omega);have j:=λw'=>vH N w' l3;rw[p] at j;cases iO:j9 (jy<|gq x);(.have hr:=J (tA BU (hinv.trans (by rw[mv.out,kf h0<|.inr iO])));rw[iO] at j;clear tT h0 g G ln iO p t;go_wp2_with fail;apply hcut.Q;rintro e w3 ⟨rfl,C,rfl⟩;have u:=J<|aN n.out C;have q:=n.size;go_wp2_with fail;apply(j _).Q;rintro e w4 ⟨rfl,rfl⟩;go_wp2;go_ret2;refine⟨_,_,[],I,aq.nil _ _,tQ,?_,(λh=>Q3),u.alloc (by simpa using q) _⟩;rw[hr.out];exact Z4);rw[iO] at j;by_cases h40:ps.length=40;(.refine Z5 ?_;intro hr GC;clear tT h0 g G ln iO p t h40;go_wp2_with fail;apply hcut.Q;rintro e w3 ⟨rfl,C,rfl⟩;have u:=J<|aN n.out C;go_wp2_with fail;apply(j _).Q;rintro e w4 ⟨rfl,rfl⟩;go_wp2;go_ret2;exact⟨_,_,[],I,aq.nil _ _,tQ,ZG,(λh=>Q3),u.out⟩);refine Q5 ?_;intro GC afv;have M:=λw'=>jO d ⟨#[32,9]⟩ w' O Z lq;obtain⟨f,hY⟩:∃f:F,f=⟨(Lib.trimS d.data.toList [32,9]).toArray⟩:=⟨_,I⟩;rw[show(⟨#[32,9]⟩:F).data.toList=[32,9] from I,<-hY] at M;have hn:Hid (di (dA 10 s.data.toList) 0 []=di ((dA 10 s.data.toList).drop<|k+1) (k+1) (iB<|ps++[(N,f)])):=J (hinv.trans<|by rw[mv.out,vh h0 ln iO Z6,sI];rw[p,hY,bD,t];rfl);clear tT h0 g G ln iO p t hY h40;go_wp2_with fail;apply hcut.Q;rintro e w3 ⟨rfl,C,rfl⟩;have u:=aN hB C;have aS:=hO.later<|aN (aL _ _) C;go_wp2_with fail;apply(j _).Q;rintro e w4 ⟨rfl,rfl⟩;go_wp2_with fail;apply(M _).Q;rintro e w5 ⟨rfl,R⟩;have S:=aS.later R;have z:=u.aD R;refine J3 ?_;intro nQ u9;go_wp2_with (at_builtin;refine ck vD underlying42 I Z dr I _ _ I _ K _ ps I ?_ (N,f) (oq _) _ I _ I ?_ ?_ ?_ ?_ ?_;exact S;exact I;exact nQ;exact u9;exact z.size;intro v6 w6 a1 a6 bc);refine bM ?_;exact⟨k+1,ps++[(N,f)],O,cJ,fK,J a1,J<|bn z S a6 z.size,hn⟩);obtain rfl:(bu 10 s).length=k:=O;have hr:=J (ahD BU<|hinv.trans aiV);go_wp2;go_ret2;exact⟨_,_,ps,I,hO.ahE O,BG,by rw[hr.out];exact kj.none _,λ_=>rfl,n⟩
def G3(s:F)w(hl:60<s.size):cL 130 #[s] w (dx (.bool<|gE s) w):=by have a:Hid<|gE s=false:=J (by unfold gE;rw[<-an];simp;omega);go_enter func130,ntmps130;go_wp2;go_returns;exact⟨by rw[a.out],by go_grown⟩
def Lr(s:F)w:cL 130 #[s] w (dx (.bool<|gE s) w):=by by_cases h:s.size<=60;(.exact af3 s w h);exact G3 s w O
def Ls(eo:Bool)(aF:F)(bl:Int)w:cL 60 #[.agg #[eo,aF,bl]] w (dx (.bool<|gE aF&&k5 bl) w):=by unfold k5;have b:=(aL w w).alloc lJ<|Obj.cells #[eo,aF,bl] 39;go_enter func60,ntmps60;go_wp2_with fail;apply(Lr aF _).Q;rintro e g ⟨rfl,pB⟩;have c2:=aO (c:=#[.bool eo,.string aF,mI bl]) JD 2 I;have a:=b.aD pB;cases d:gE aF;(.go_wp2;go_ret;simp_all);cases f:decide (1<=bl);(.go_wp2;go_ret;exact⟨aW<|by rw[d,f];rfl,a⟩);cases h:decide (bl<=65535);all_goals go_wp2;go_ret;simp_all
def ea(o:wR):Bool:=decide (1<=o.bE)&&decide (o.bE<=10)&&e0 o.X&&(gE o.X.ar.host&&k5 o.X.ar.port)&&(gE o.X.dest.host&&k5 o.X.dest.port)&&decide (o.X.path.size<=200)&&(o.X.path.data.toList.head?==some 47)&&decide (o.text.size<=3000)
def tH{w wr:tW}{c d}{T a}(h:Below (w.heap.size+2) ((w.alloc<|.cells c T).alloc<|.cells d a) wr):(∀(i:Nat) (v:tV),c[i]?=some v->wr.cell? (U w i)=some v)/\(∀(i:Nat) (v:tV),d[i]?=some v->wr.cell? ⟨w.heap.size+1,i,none⟩=some v):=by constructor;(.intro i v b;exact aO (w:=w) (((aL _ _).alloc bT _).trans<|h.mono O) i b);intro i v b;exact aO (w:=w.alloc<|.cells c T) (B:=w.heap.size+1) h i b bT
def oj{w wr:tW}{o p:Obj}(h:Below (w.heap.size+2) ((w.alloc o).alloc p) wr):
  Below (w.heap.size+2) ((w.alloc o).alloc p) wr/\Y w wr/\w.heap.size+2<=wr.heap.size:=
 ⟨h,(((aL w w).alloc lJ o).alloc (by simp) p).trans (h.mono<|by omega),by have:=h.size;simp at this;omega⟩
def af4(s:F)(h:0<s.size):(s.data.toList.head?==some 47)=(s[0]==47):=by exact Ye
def abL(s:F)(h:s.size=0):(s.data.toList.head?==some 47)=false:=r4
def vo o w(m:o.Ok w):cL 13 #[.agg o.arr] w (dx (.bool<|ea o) w):=by have H:=m.text;have z2:=m.X.path;have z3:=m.X.DN;have z4:=m.X.DO;simp only[reachBytes] at H z2 z3 z4;have c:=λ(w':tW) (h:Y w w')=>O4 o.X w'<|m.X.later h;have p:=λw'=>Ls o.X.ar.sec o.X.ar.host o.X.ar.port w';have q:=λw'=>Ls o.X.dest.sec o.X.dest.host o.X.dest.port w';refine abM ?_;intro RB hr;generalize e0 o.X=K at hr c;generalize(gE o.X.ar.host&&k5 o.X.ar.port)=L at hr p;generalize(gE o.X.dest.host&&k5 o.X.dest.port)=M at hr q;clear m;obtain⟨bE,⟨part,⟨C,S,T⟩,⟨D,W,p2⟩,ah,r,method,x,E,bA,bB,body⟩,ax,text,ao,az,cn,cert,all,n⟩:=o;dsimp only[l4.arr,wR.arr] at *;cases i:decide (1<=bE);(.rw[i] at hr;exact abN);cases s:decide (bE<=10);(.rw[i,s] at hr;exact abN);rw[i,s] at hr;go_enter func13,ntmps13;go_wp2_with fail;apply(c _<|((aL _ _).alloc lJ _).alloc bT _).Q;rintro e w1 ⟨rfl,pB⟩;obtain⟨j,d,y⟩:=oj JD;obtain⟨f,a⟩:=tH j;have b:=f 15 _ I;have m1:=a 1 _ I;have m2:=a 2 _ I;have m3:=a 3 _ I;have m4:=a 4 _ I;have m5:=a 5 _ I;have m6:=a 6 _ I;have m7:=a 7 _ I;clear f a;cases K;(.go_wp2;go_ret;exact⟨aW Cj,d⟩);go_wp2_with fail;apply(p _).Q;rintro e w2 ⟨rfl,t⟩;obtain⟨l,g,z⟩:=oj<|j.then bT t;obtain⟨f,a⟩:=tH l;clear b m1 m2 m3 m4 m5 m6 m7 pB j d y t;have b:=f 15 _ I;have m4:=a 4 _ I;have m5:=a 5 _ I;have m6:=a 6 _ I;have m7:=a 7 _ I;clear f a;cases L;(.go_wp2;go_ret;exact⟨aW Cj,g⟩);go_wp2_with fail;apply(q _).Q;rintro e w3 ⟨rfl,u⟩;obtain⟨B,abO,N⟩:=oj<|l.then bT u;obtain⟨f,a⟩:=tH B;clear b m4 m5 m6 m7 l g z u;have b:=f 15 _ I;have m7:=a 7 _ I;clear f a;cases M;(.exact Fc);by_cases hp:ah.size<=200;(.by_cases R:0<ah.size;(.have v:=Ce ah[0] 47 47 I;rw[af4 ah R] at hr;cases G:(ah[0]==47);(.rw[G] at hr v;exact Fc);rw[G] at hr v;by_cases ht:text.size<=3000;all_goals exact abP);rw[abL ah O] at hr;exact Fc);go_wp2;go_ret;exact⟨aW<|by rw[hr.out];simp [hp],abO⟩
def Ck o w(m:o.Ok w)(p:o.X.ar.host.size<=1099511627776)(q:o.X.dest.host.size<=1099511627776):cL 11 #[.agg o.arr] w (dx (.bool<|ea o) w):=by have M:=m.text;have z2:=m.X.path;have z3:=m.X.DN;have z4:=m.X.DO;simp only[reachBytes] at M z2 z3 z4;have f:=λ(w':tW) (h:Y w w')=>zs o.X w'<|m.X.later h;have r:=λw'=>sX o.X.ar.sec o.X.ar.host o.X.ar.port p w';have s:=λw'=>sX o.X.dest.sec o.X.dest.host o.X.dest.port q w';refine abM ?_;intro RB hr;generalize e0 o.X=N at hr f;generalize(gE o.X.ar.host&&k5 o.X.ar.port)=R at hr r;generalize(gE o.X.dest.host&&k5 o.X.dest.port)=S at hr s;clear m p q;obtain⟨bE,⟨part,⟨K,h1,p1⟩,⟨L,h2,p2⟩,ah,t,method,C,E,bA,bB,body⟩,ax,text,ao,az,cn,cert,all,n⟩:=o;dsimp only[l4.arr,wR.arr] at *;have u:=λw'=>dS bE 1 10 w';have v:=λw'=>nn ah w';obtain⟨T,x⟩:∃b,(decide (1<=bE)&&decide (bE<=10))=b:=⟨_,I⟩;rw[x] at hr u;obtain⟨W,y⟩:∃b,(ah.data.toList.head?==some 47)=b:=⟨_,I⟩;rw[y] at hr v;clear x y;go_enter func11,ntmps11;go_wp2_with fail;apply(u _).Q;rintro e w0 ⟨rfl,rfl⟩;cases T;(.go_wp2;go_ret;exact⟨aW Cj,by go_grown⟩);go_wp2_with fail;apply(f _<|((aL _ _).alloc lJ _).alloc bT _).Q;rintro e w1 ⟨rfl,pB⟩;obtain⟨j,g,D⟩:=oj JD;obtain⟨c,a⟩:=tH j;have d:=c 15 _ I;have k2:=c 2 _ I;have k3:=c 3 _ I;have k4:=c 4 _ I;have m0:=a 0 _ I;have m1:=a 1 _ I;have m2:=a 2 _ I;have m3:=a 3 _ I;clear c a;cases N;(.go_wp2;go_ret;exact⟨aW Cj,g⟩);go_wp2_with fail;apply(r _).Q;rintro e w2 ⟨rfl,z⟩;obtain⟨l,i,G⟩:=oj<|j.then bT z;obtain⟨c,a⟩:=tH l;clear d k2 k3 k4 m0 m1 m2 m3 pB j g D z;have d:=c 15 _ I;have m0:=a 0 _ I;have m1:=a 1 _ I;have m2:=a 2 _ I;have m3:=a 3 _ I;clear c a;cases R;(.go_wp2;go_ret;exact⟨aW Cj,i⟩);go_wp2_with fail;apply(s _).Q;rintro e w3 ⟨rfl,B⟩;obtain⟨H,abO,ab⟩:=oj<|l.then bT B;obtain⟨c,a⟩:=tH H;clear d m0 m1 m2 m3 l i G B;have d:=c 15 _ I;have m3:=a 3 _ I;clear c a;cases S;(.exact Fc);go_wp2_with fail;apply(v _).Q;rintro e w4 ⟨rfl,rfl⟩;cases W;(.exact Fc);by_cases hp:ah.size<=200;(.by_cases ht:text.size<=3000;all_goals exact abP);go_wp2;go_ret;exact⟨aW<|by rw[hr.out];simp [hp],abO⟩
end Go.Proofs.YtkdneaemikbhkaaGreatDoor
