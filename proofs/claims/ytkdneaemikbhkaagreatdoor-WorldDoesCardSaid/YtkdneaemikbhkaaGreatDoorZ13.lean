import Derived.Test.YtkdneaemikbhkaaGreatDoorZ09
import Derived.Test.YtkdneaemikbhkaaGreatDoorZ11
import Derived.Test.YtkdneaemikbhkaaGreatDoorZ18
import Derived.Test.YtkdneaemikbhkaaGreatDoorZ20
set_option linter.all false
set_option maxRecDepth 100000
set_option maxHeartbeats 40000000
namespace Go.Proofs.YtkdneaemikbhkaaGreatDoor
open _root_.Go.Proofs.Tryz Go.RowKit Go.Deep
structure iI (w:tW) (b:Nat) (S:Nat->Prop) (a c:tV) (Gs:List cj) (Ws:List dJ):Prop where
 bF:A w b #[a,c] gu
 og:aq aM 16 bp w 0 a Gs
 ow:aq dY 13 bS w 0 c Ws
 sg:∀g,a.ownBlock=some g->S g
 sw:∀g,c.ownBlock=some g->S g
 WK:∀g∈Gs,g.In w S
 inw:∀x∈Ws,x.In w S
 sb:S b
 bd:∀i,S i->i<w.heap.size
def eQ.x{w}{b}{S}{gs}{ws}(h:eQ w b S gs ws):∃a c Gs Ws,iI w b S a c Gs Ws/\Gs.map cj.d=gs/\Ws.map dJ.d=ws:=by obtain⟨a,c,Gs,Ws,e,f,g,i,j,k,l,m,n⟩:=h.box;exact⟨a,c,Gs,Ws,⟨e,f,g,i,j,m,n,h.sb,h.bd⟩,k,l⟩
def iI.r{w}{b}{S}{c e}{Gs}{Ws}(h:iI w b S c e Gs Ws)(f:∀g∈Gs.map cj.d,g.Ok)(a:∀x∈Ws.map dJ.d,x.Ok):eQ w b S (Gs.map cj.d)<|Ws.map dJ.d:=
 ⟨⟨c,e,Gs,Ws,h.bF,h.og,h.ow,h.sg,h.sw,I,I,h.WK,h.inw⟩,h.sb,h.bd,f,a⟩
def iI.later{w w'}{b}{S}{c d}{Gs}{Ws}(h:iI w b S c d Gs Ws)(hb:Y w w'):iI w' b S c d Gs Ws:=
 ⟨h.bF.later hb,h.og.later hb,h.ow.later hb,h.sg,h.sw,λg a=>(h.WK g a).later hb,λg a=>(h.inw g a).later hb,h.sb,λi e=>eP (h.bd i e) hb.size⟩
def iI.mono{w}{b}{S S'}{d e}{Gs}{Ws}(h:iI w b S d e Gs Ws)(c:∀i,S i->S' i)(f:∀i,S' i->i<w.heap.size):iI w b S' d e Gs Ws:=
 ⟨h.bF,h.og,h.ow,λg a=>c g<|h.sg g a,λg a=>c g<|h.sw g a,λg a=>(h.WK g a).mono c,λg a=>(h.inw g a).mono c,c b h.sb,f⟩
def dP{w}{p}{cs}{T}(hb:A w p cs T)(b:T≠9):rm w p:=by intro a c d;unfold A at hb;grind
def iI.o_{wr wx w3}{b}{S}{o c p}{Gs j}{Ws}(h:iI wr b S o p Gs Ws)(ho:ak (λi=>o.ownBlock=some i) wr wx)(k:aq aM 16 bp wx 0 c j)(l:∀g,c.ownBlock=some g->o.ownBlock=some g\/wr.heap.size<=g)(hin:∀g∈j,g.In wx<|grow S wr wx)(hb:A w3 b #[c,p] gu)(s:wx.grownBy w3<|some b):iI w3 b (grow S wr w3) c p j Ws/\bU S wr w3:=by have lo:=ho.bF h.bF<|h.og.apart Z h.bF;have ho3:=ak.aH s λi e=>(cR e).symm;have t:=ho.size;have u:=ho3.size;have m:bU S wr w3:=(ho.mono (T:=λi=>S i/\rm wr i) λi e=>⟨h.sg i e,λa x v=>me Z h.og v e⟩).trans (ho3.mono λi e=>⟨by rw[e];exact h.sb,WL⟩);have q:grow S wr w3 b:=⟨.inl h.sb,hb.lt⟩;refine⟨⟨hb,k.kept ho3 (λg n d=>k.apart Z lo<|by rw[n,d]),?_,?_,?_,?_,?_,q,λi hi=>hi.2⟩,m⟩;(.refine(h.ow.kept ho λg n d=>?_).kept ho3 (λg n d=>h.ow.apart Z h.bF<|by rw[n,d]);rcases eE.kr aG h.og with⟨r,_⟩|⟨g0,E,r,_,hR⟩;(.rw[r] at d;cases d);rw[r] at d;have w:g0=g:=cR d;obtain⟨a,f,_⟩:=hR.heap;rw[w] at f;exact h.ow.apart (T':=aM) Z (show A wr g a aM from f) n);(.intro g IG;refine⟨?_,?_⟩;(.rcases l g IG with e|e;(.exact .inl<|h.sg g e);exact .inr e);have:=(k.lt g IG).2;omega);(.intro g IG;exact⟨.inl<|h.sw g IG,by have:=h.bd g<|h.sw g IG;omega⟩);(.exact WM);intro g IG;exact(h.inw g IG).stays m (λi hi hl=>⟨.inl hi,O⟩)
def iI.vW{wr wx w3}{b}{S}{o p c}{Gs}{Ws j}(h:iI wr b S o p Gs Ws)(ho:ak (λi=>p.ownBlock=some i) wr wx)(k:aq dY 13 bS wx 0 c j)(l:∀g,c.ownBlock=some g->p.ownBlock=some g\/wr.heap.size<=g)(hin:∀g∈j,g.In wx<|grow S wr wx)(hb:A w3 b #[o,c] gu)(s:wx.grownBy w3<|some b):iI w3 b (grow S wr w3) o c Gs j/\bU S wr w3:=by have lo:=ho.bF h.bF<|h.ow.apart Z h.bF;have ho3:=ak.aH s λi e=>(cR e).symm;have t:=ho.size;have u:=ho3.size;have m:bU S wr w3:=(ho.mono (T:=λi=>S i/\rm wr i) λi e=>⟨h.sw i e,λa x v=>me Z h.ow v e⟩).trans (ho3.mono λi e=>⟨by rw[e];exact h.sb,WL⟩);have q:grow S wr w3 b:=⟨.inl h.sb,hb.lt⟩;refine⟨⟨hb,?_,k.kept ho3 (λg n d=>k.apart Z lo<|by rw[n,d]),?_,?_,?_,?_,q,λi hi=>hi.2⟩,m⟩;(.refine(h.og.kept ho λg n d=>?_).kept ho3 (λg n d=>h.og.apart Z h.bF<|by rw[n,d]);rcases eE.kr bh h.ow with⟨r,_⟩|⟨g0,E,r,_,hR⟩;(.rw[r] at d;cases d);rw[r] at d;have w:g0=g:=cR d;obtain⟨a,f,_⟩:=hR.heap;rw[w] at f;exact h.og.apart (T':=dY) Z (show A wr g a dY from f) n);(.intro g IG;exact⟨.inl<|h.sg g IG,by have:=h.bd g<|h.sg g IG;omega⟩);(.intro g IG;refine⟨?_,?_⟩;(.rcases l g IG with e|e;(.exact .inl<|h.sw g e);exact .inr e);have:=(k.lt g IG).2;omega);(.intro g IG;exact(h.WK g IG).stays m (λi hi hl=>⟨.inl hi,O⟩));exact WM
def Tb(x:cj)o(p:Bool)(r:F)k b c w(l:A w k (aw o) 39)(m:A w b #[p] 4)(n:A w c #[r] 9):cL 146 #[.agg x.arr,bR k,bR b,bR c] w (dx (.bool<|fO o p r x.d) w):=by have a:=(aL w w).alloc lJ<|.cells x.arr aM;have g:=A.new w x.arr aM;have h:=l.later a;have c1:=cV (.bool p)<|(m.later a).cell 0 I;have c2:=cV (.string r)<|(n.later a).cell 0 I;have f:=IC x o p r (w.alloc<|.cells x.arr aM);have q:=J a;generalize fO o p r x.d=i at f ⊢;clear a l m n;go_enter func146,ntmps146;go_wp2_with (first|(refine ae I aM _ I _ I g _ dk I aV ?_)|(refine ae I 39 _ I _ I h _ underlying39 I aB ?_)|(go_at_call 147;apply f.Q;rintro e s ⟨rfl,j⟩));go_ret;exact⟨I,q.aD j⟩
def AY:bs:=[34,40,41,58,60,62,63,64,91,92,93,123,125]
def sj:bs:=[32,42,44,45,46,59,61]
def oy(c:UInt8):Bool:=ib c&&decide (Lib.indexByte AY c<0)
def iT(c:UInt8):Bool:=decide (48<=c.toNat/\c.toNat<=57\/97<=c.toNat/\c.toNat<=122\/65<=c.toNat/\c.toNat<=90\/0<=Lib.indexByte sj c)
def wu:bs:=[97,99,99,101,112,116]
def mU:bs:=[97,99,99,101,112,116,45,108,97,110,103,117,97,103,101]
def lC:bs:=[99,111,110,116,101,110,116,45,108,97,110,103,117,97,103,101]
def lD:bs:=[99,111,110,116,101,110,116,45,116,121,112,101]
def xN:List<|bs:=[[97,112,112,108,105,99,97,116,105,111,110,47,120,45,119,119,119,45,102,111,114,109,45,117,114,108,101,110,99,111,100,101,100],[109,117,108,116,105,112,97,114,116,47,102,111,114,109,45,100,97,116,97],[116,101,120,116,47,112,108,97,105,110]]
def AZ(v:bs):bs:=bg<|Lib.trimS (kP 59 v) [32,9]
def gf(n v:bs):Bool:=
 if 128<v.length then false
 else if bg n==wu then v.all oy
 else if bg n==mU ||bg n==lC then v.all iT
 else if bg n==lD then v.all oy&&xN.contains (AZ v)
 else false
def I9 c w:cL 292 #[.int .u8 c.toNat] w (rV (.bool<|!oy c) w):=by have hb:=V' c;by_cases a:c=9;(.subst a;go_enter func292,ntmps292;go_wp2_with (go_at_call 93;apply(Tryz.strings_IndexByte _ _ _).Q;rintro e w' ⟨rfl,rfl⟩);go_ret;exact⟨aW Z,I⟩);have b:¬(c.toNat:Int)=9:=(by intro h;apply a;apply Fy;show c.toNat=9;omega);clear a;go_enter func292,ntmps292;go_wp2_with (go_at_call 93;apply(Tryz.strings_IndexByte _ _ _).Q;rintro e w' ⟨rfl,rfl⟩);(all_goals go_ret);all_goals refine⟨aW ?_,I⟩;unfold oy ib AY;grind
def nX(l:bs):Bool:=l.all iT
def CY(s:F)w(f:s.size<=maxLen):cL 293 #[s] w (rV (.bool<|nX s) w):=by unfold maxLen at f;go_enter func293,ntmps293;go_wp2;go_loop [7] (λi=>∃k:Nat,k<=s.size/\i=mI k/\Hid ((s.data.toList.take k).all iT=true)) (λi=>s.size - (intOf i).toNat);(.exact⟨0,bt _,I,J bT⟩);obtain⟨k,n,rfl,d⟩:=hrel;by_cases a:k<s.size;(.have hb:=V' s[k];cases ht:iT s[k];(.have b:=J<|vG iT s k a ht;have c:¬(0:Int)<=Lib.indexByte sj s[k]:=aen;have g:¬(48<=s[k].toNat/\s[k].toNat<=57):=aen;have j:¬(97<=s[k].toNat/\s[k].toNat<=122):=aen;have l:¬(65<=s[k].toNat/\s[k].toNat<=90):=aen;refine XM ?_;intro hi ix hix;rw[<-hix] at hi c;clear ht hix;go_wp2_with (go_at_call 93;apply(hi _).Q;rintro e w' ⟨rfl,rfl⟩);(all_goals go_ret);all_goals exact⟨by unfold nX;rw[b.out];first|done|rfl,rfl⟩);have b:=J<|mz iT s k a d ht;have m:48<=s[k].toNat/\s[k].toNat<=57\/97<=s[k].toNat/\s[k].toNat<=122\/65<=s[k].toNat/\s[k].toNat<=90\/0<=Lib.indexByte sj s[k]:=(by unfold iT at ht;simpa using ht);refine XM ?_;intro hi ix hix;rw[<-hix] at hi m;clear ht hix;go_wp2_with (go_at_call 93;apply(hi _).Q;rintro e w' ⟨rfl,rfl⟩);all_goals first|(exfalso;omega)|(go_round;(case rel=>exact⟨k+1,O,cJ,b⟩);(case measure=>simp[intOf];omega)));obtain rfl:s.size=k:=O;have b:=J<|lr iT s d;go_wp2;go_ret;exact⟨by unfold nX;rw[b.out];first|done|rfl,rfl⟩
def iU(w:tW):Prop:=∃m,w.cell? (U 0 0)=ev m
def iU.later{w w'}(h:iU w)(hb:Y w w'):iU w':=
 let ⟨m,a⟩:=h
 ⟨m,(hb.cell<|rR w _ a).trans a⟩
def aep{W}(h:W.ShapedOpen prog):iU W:=Tryz.M146.s1_3 W h
def bu(c:UInt8)(s:F):jm:=Lib.splitB ⟨#[c]⟩ 0 (Lib.countB s ⟨#[c]⟩) s
def fl c s:aT (bu c s)=dA c s.data.toList:=MH c s
def Nq c s:(bu c s).length=Lib.countB s ⟨#[c]⟩+1:=Lib.splitB_all ⟨#[c]⟩ lJ 0 _ s I
def Eb:∀{a b:jm},aT a=aT b->a=b
 |[],[],_=>rfl
 |[],_::_,h=>by simp [aT] at h
 |_::_,[],h=>by simp [aT] at h
 |x::a,y::b,h=>by
  simp only[aT,Jc,MG] at h
  rw[kq (show x.data.toList=y.data.toList from h.1),Eb<|show aT a=aT b from h.2]
def kb c s:(bu c s).length<=s.size+1:=by have:=HK c s.data.toList;rw[<-fl] at this;simp only[aT,ct] at this;rw[an];exact this
def kc c s:∀p∈bu c s,p.size<=s.size:=by intro p a;have:=(ot c s.data.toList p.data.toList<|by rw[<-fl];exact jM.2 ⟨p,a,I⟩).1;simp_all
def gO c(s:F)w(b:iU w)(d:s.size<=1000000):cL 115 #[s,.string ⟨#[c]⟩] w λe w'=>e=.returned (.slice (fJ w) (bu c s).length (bu c s).length)/\w.alloc (.cells ((bu c s).map Value.string).toArray 9)=w':=by obtain⟨m,a⟩:=b;apply(Tryz.strings_Split s ⟨#[c]⟩ m w O a lJ).Q;rintro e w' ⟨rfl,rfl⟩;exact⟨by rw[Nq],I⟩
def jo(w:tW)ps:bX (w.alloc<|.cells (ps.map Value.string).toArray 9) (fJ w) ps:=by intro i a;refine⟨w,0,I,?_⟩;simp
def ay.pop{w}{af}{a}{n E}{ss}(h:ay w af (.slice a (n+1) E) ss):ay w af (.slice a n E) ss.dropLast:=by obtain⟨m,f⟩:=h;rcases f with⟨d,o⟩|⟨g,e,b,d,hb,i,p,c,j,k⟩;(.simp at d);simp only[MU] at d;obtain⟨rfl,l,rfl⟩:=d;refine⟨bT,.inr ⟨g,E,b,?_,hb,i,PJ,c,j,?_⟩⟩;(.grind);rw[List.length_dropLast,List.map_dropLast,<-k,P',List.take_take,ou];grind
def sl(m:Nat)(sep:bs):∀(ss:jm),(∀s∈ss,s.size<=m)->(Lib.join (aT ss) sep).length<=ss.length*(m+sep.length)
 |[],_=>by simp [aT,Lib.join_nil]
 |x::r,h=>by
  have c:=sl m sep r (λs a=>h s<|by simp [a])
  have b:=h x (by simp)
  rw[Hp] at b
  cases r with
  |nil =>
   have e:Lib.join (aT [x]) sep=x.data.toList:=by simp [aT,Lib.join_one]
   rw[e];simp only[iN,qF,lp,SD];omega
  |cons y r =>
   have e:Lib.join (aT<|x::y::r) sep=x.data.toList++sep++Lib.join (aT<|y::r) sep:=by simp [aT,SL,Lib.joinTail]
   rw[e]
   simp only[iG,iN] at *
   rw[HD]
   omega
def cW{e}{rest}{o}{a}{d}(k:o.guard=none)s x(ho:o.op=.call {callee:=.builtin .append,args:=#[s,x],argTypes:=#[94,94]})w af v l(r:a.eval s=v)(i:ay w af v l)(c:F)b(t:a.eval x=.slice (fJ b) 1 1)(hb:b=w.heap.size)(hl:l.length+1<=1099511627776)(m:af<=w.heap.size)(h:∀j w',ay w' af j (l++[c])->(w.alloc<|.cells #[c] 9).grownBy w' v.ownBlock->wpList prog e d rest (a.put o.dst j) w'):wpList prog e d (o::rest) a (w.alloc<|.cells #[c] 9):=by obtain⟨i0,u,n,p,q⟩:=ni l_;subst hb;refine vA _ k s x 94 ho af 9 i0 (fm) 1 16 underlying94 u n p q I Z v _ _ r (World.ownsRow.alloc i _) (U w 0) 1 1 [.string c] t I (Fw _ _ _) (kF _) l3 O fK ?_;intro j w' f g _;exact h j w' (ay.snoc f) g
def A1(w:tW)(af e:Nat)(v:tV)(l:jm):Prop:=ay w af v l\/(l=[]/\v=.slice (fJ e) 0 0)
def A1.later{w w'}{af e}{v}{l}(h:A1 w af e v l)(hb:Y w w'):A1 w' af e v l:=h.imp (λh=>ay.later h hb) id
def A1.shape{w}{af e}{v}{l}(h:A1 w af e v l):∃a E,v=.slice a l.length E/\bX w a l/\l.length<=E/\E<=maxLen/\True:=by rcases h with h|⟨rfl,rfl⟩;(.obtain⟨a,E,b,c,d,f,_⟩:=h.shape;grind);exact⟨_,0,I,bX.nil _ _,gK _,bt _,trivial⟩
def A1.pop{w}{af e}{a}{n E}{ss}(h:A1 w af e (.slice a (n+1) E) ss):A1 w af e (.slice a n E) ss.dropLast:=by rcases h with h|⟨rfl,b⟩;(.exact .inl<|ay.pop h);simp at b
def nY{w:tW}{b c}{e}{size n}{v}{bf}(h:w.ownsRow c e size v n bf)(hb:b<=c):w.ownsRow b e size v n bf:=
 ⟨h.1,h.2.imp id λ⟨g,E,a,d,f,i⟩=>⟨g,E,a,d,de hb f,i⟩⟩
def iV{i}{rest}{o}{a}{d}(p:o.guard=none)s x(ho:o.op=.call {callee:=.builtin .append,args:=#[s,x],argTypes:=#[94,94]})w W af e v l(z:a.eval s=v)(g:A1 w af e v l)(B:Below af W w)(c:F)b(C:a.eval x=.slice (fJ b) 1 1)(hb:b=w.heap.size)(hl:l.length+1<=1099511627776)(f:af<=w.heap.size)(h:∀k w',ay w' af k (l++[c])->Below af W w'->wpList prog i d rest (a.put o.dst k) w'):wpList prog i d (o::rest) a (w.alloc<|.cells #[c] 9):=by rcases g with g|⟨rfl,rfl⟩;(.exact cW p s x ho w af v l z g c b C hb hl f (λk w' D G=>h k w' D<|bn B g G f));obtain⟨i0,H,r,t,y⟩:=ni l_;subst hb;refine wpList_append_grows _ p s x 94 ho 9 i0 (fm) 1 16 underlying94 H r t y I Z (fJ e) 0 0 [] z bT I (λ_ _ j u q=>by simp at q) (U w 0) 1 1 [.string c] C I (Fw _ _ _) (kF _) Z Z Z ?_;intro k w' m n;refine h k w' ?_ ((B.alloc f _).grown n fK λj K=>by cases K);have:w'.ownsRow af 9 1 k (0+1)<|[]++[.string c]:=nY m fK;exact this
def Nr{n v}(h:128<v.length):gf n v=false:=by unfold gf;rw[a' h]
def aeq{n v}(h:¬128<v.length)(e:bg n=wu):gf n v=v.all oy:=by unfold gf;rw[aY h,e];rfl
def aer{n v}(h:¬128<v.length)(e:bg n=mU):gf n v=nX v:=by unfold gf nX;rw[aY h,e];rfl
def aes{n v}(h:¬128<v.length)(e:bg n=lC):gf n v=nX v:=by unfold gf nX;rw[aY h,e];rfl
def aet{n v}(h:¬128<v.length)(e:bg n=lD):gf n v=(v.all oy&&xN.contains (AZ v)):=by unfold gf;rw[aY h,e];rfl
def aeu{n v}(h:¬128<v.length)(a:bg n≠wu)(b:bg n≠mU)(c:bg n≠lC)(d:bg n≠lD):gf n v=false:=by unfold gf;grind
def aev v:∃b c,Lib.cut v [59]=(kP 59 v,b,c)/\b.length<=v.length:=by cases h:v.contains 59;(.exact⟨[],false,by rw[Wd h,MQ _ _ h],bt _⟩);exact⟨_,true,Pw h,bT⟩
def A4:jm:=[⟨#[97,112,112,108,105,99,97,116,105,111,110,47,120,45,119,119,119,45,102,111,114,109,45,117,114,108,101,110,99,111,100,101,100]⟩,⟨#[109,117,108,116,105,112,97,114,116,47,102,111,114,109,45,100,97,116,97]⟩,⟨#[116,101,120,116,47,112,108,97,105,110]⟩]
def Ty x l(h:x.data.toList=l):C3 A4 x=xN.contains l:=by unfold C3 A4 xN;simp only[Qa,List.any_nil,List.contains_cons,List.contains_nil,eR,h]
abbrev aew(n v:F):Obj:=.cells #[n,v] 89
def Ns(n v:F)w(hM:iU w)(hn:n.size<=1000000)(hv:v.size<=1000000):cL 246 #[.agg #[n,v]] w (dx (.bool<|gf n v) w):=by have aex:Y w (w.alloc<|aew n v):=(aL _ _).alloc lJ _;go_enter func246,ntmps246;by_cases hl:128<v.size;(.exact XV);have hl':=J (show ¬128<v.data.toList.length from A5);clear aex;go_wp2;go_loopw [3,15] (λb i wr=>∃(k:Nat) (bb:Bool),k<=v.size/\i=mI k/\b=.bool bb/\Hid (bb=(v.data.toList.take k).all oy)/\Below (w+1) (w.alloc<|aew n v) wr) (λ_ i _=>v.size - (intOf i).toNat);(.exact⟨0,true,bt _,I,I,J I,aL _ _⟩);obtain⟨k,bb,hk,rfl,rfl,q,c⟩:=hrel;have q0:=aO c 0 (v:=.string n) I;have r:=aO c 1 (v:=.string v) I;by_cases cY:k<v.size;(.have s:k<v.data.toList:=Tz;have a:(v.data.toList.take<|k+1).all oy=(bb&&oy v[k]):=(by rw[gW s,vE,<-q.out,b8 v k cY s];simp);have t:=λw'=>I9 v[k] w';generalize H:oy v[k]=sc at a t;have u:=J a.symm;clear H a;cases bb;(.go_wp2;refine bM ?_;exact⟨k+1,false,O,cJ,I,J<|by rw[<-u.out];rfl,c⟩);go_wp2_with fail;apply(t _).Q;rintro e w1 ⟨rfl,rfl⟩;go_wp2;refine bM ?_;exact⟨k+1,sc,O,cJ,bT,J<|by rw[<-u.out];rfl,c⟩);obtain rfl:v.size=k:=O;have hbf:Hid<|bb=v.data.toList.all oy:=J (by rw[q.out,an,fq]);have d:=λw'=>k9 n w' l3;obtain⟨L,M⟩:∃L:F,L=⟨(bg n).toArray⟩:=⟨_,I⟩;rw[<-M] at d;have A6:L.toList=bg n:=(by rw[M,eR,bD]);clear M;go_wp2_with fail;apply(d _).Q;rintro e w1 ⟨rfl,N⟩;have g:=c.then bT N;have a1:=aO g 1 (v:=.string v) I;have dZ:=J<|cB g;clear q0 r d;by_cases c0:bg n=wu;(.exact XW);by_cases c1:bg n=mU;(.refine XX ?_;intro hr b0 b1;clear A6 c1;exact XY);by_cases c2:bg n=lC;(.refine XZ ?_;intro hr b0 b1 b2;clear A6 c2;exact XY);by_cases c3:bg n=lD;(.refine X0 ?_;intro hr b0 b1 b2 b3;clear A6 c3;obtain⟨B,C,hcut,R⟩:=aev v;obtain⟨m,j⟩:=(hM.later dZ.out);have f:=Tryz.strings_Cut v ⟨#[59]⟩ m w1 O j;rw[show(⟨#[59]⟩:F).data.toList=[59] from I,hcut] at f;obtain⟨K,S⟩:∃K:F,K=⟨(kP 59 v).toArray⟩:=⟨_,I⟩;obtain⟨B',x⟩:∃B':F,B'=⟨B.toArray⟩:=⟨_,I⟩;simp only[] at f;rw[<-S,<-x] at f;have hKl:K.data.toList=kP 59 v:=(by rw[S,bD]);refine aiv ?_;intro hKs T htr hT D8 hTs;have l:=λw'=>k9 T w' l3;obtain⟨Q,W⟩:∃Q:F,Q=⟨(bg T).toArray⟩:=⟨_,I⟩;rw[<-W] at l;have y:Q.data.toList=AZ v:=(by rw[W,bD,D8];rfl);have z:=J<|Ty Q _ y;have hC:=λb w' hA=>Tw (fJ b) 3 A4 Q w' hA Z;clear hcut S x hT W hKl D8 y j R;go_wp2_with fail;apply f.Q;rintro e w2 ⟨rfl,nq,rfl⟩;have ab:=aN dZ nq;go_wp2_with fail;apply(htr _).Q;rintro e w3 ⟨rfl,D⟩;have ad:=ab.aD D;go_wp2_with fail;apply(l _).Q;rintro e w4 ⟨rfl,G⟩;have p:=ad.aD G;have aS:=p.alloc p.size<|.cells (A4.map Value.string).toArray 9;have hA:=jo w4 A4;clear f htr l;cases bb;(.go_wp2;go_ret;exact⟨by rw[hr.out,<-hbf.out];rfl,p⟩);go_wp2_with fail;apply(hC _ _ hA).Q;rintro e w5 ⟨rfl,rfl⟩;go_wp2;go_ret;exact⟨by rw[hr.out,<-hbf.out,z.out];rfl,aS⟩);exact aiw
def afT x j(hj:j<4):((cy true x).getD j 0).toNat=x / 2 ^ (8*j)%256:=ahL
def aa4 x j(hj:j<4):((cy false x).getD j 0).toNat=x / 2 ^ (24 - 8*j)%256:=ahL
def y3 a x j(b:j<4):(cy a x).take (j+1)=(cy a x).take j++[(cy a x).getD j 0]:=by have h:j<(cy a x).length:=(by rw[uz];exact b);simp_all
def aa5 B o E(ws:List Nat)(hws:∀x∈ws,x<4294967296)(G:0<ws.length)(q:ws.length<=8)w(s:B<w.heap.size)(hc:∀i (h:i<ws.length),w.cell? ⟨B,o+i,none⟩=some (.int .u32 (ws[i]:Nat))):cL 330 #[.slice (vC B o) ws.length E,true] w (dx (.string ⟨(q7 (ws.flatMap<|cy true)).toArray⟩) w):=by go_enter func330,ntmps330;go_wp2;go_loopw [5,7,8,11] (λv _ _ i wr=>∃k:Nat,k<=ws/\i=mI k/\js wr w v ((ws.take k).flatMap<|cy true)/\Y w wr) (λ_ _ _ i _=>ws.length - (intOf i).toNat);(.exact⟨0,bt _,I,js.nil _ _,aL _ _⟩);obtain⟨k,H,rfl,hO,hB⟩:=hrel;by_cases cY:k<ws;(.have uF:=(hB.cell (p:=⟨B,o+k,none⟩) s).trans<|hc k cY;have D:(ws.take<|k+1).flatMap (cy true)=(ws.take k).flatMap (cy true)++cy true ws[k]:=(by exact aa6);have t:((ws.take k).flatMap<|cy true).length<=100:=(by have:∀l:List Nat,(l.flatMap<|cy true).length=4*l.length:=(by exact K4);grind);have d:=J D;clear D;generalize(ws.take k).flatMap (cy true)=L at hO t d;generalize ws[k]=x at uF d;go_wp2;go_loopw [5,8,15] (λeA _ b m=>∃j:Nat,j<=4/\b=mI j/\js m w eA (L++(cy true x).take j)/\Y w m) (λ_ _ b _=>4 - (intOf b).toNat);(.exact⟨0,bt _,I,by simpa using hO,hB⟩);obtain⟨j,K,rfl,pU,dZ⟩:=hrel;by_cases n:j<4;(.have hb:=afT x j n;have f:=J<|y3 true x j n;have u:(L++(cy true x).take j).length<=104:=Wh;generalize(cy true x).getD j 0=c at hb f;obtain⟨M,y⟩:∃M,M=L++(cy true x).take j:=⟨_,I⟩;rw[<-y] at pU u;have hM':=J (show L++(cy true x).take (j+1)=M++[c] by rw[f.out,y,l7]);clear y f;have Mm:=dZ.size;have hb':=J (show(x:Int) / 2 ^ (8*j)%256=(c.toNat:Int) by rw[hb];have h:((2 ^ (8*j):Nat):Int)=(2:Int) ^ (8*j):=RD;rw[<-h];first|rfl|simp);clear hb;exact aa7);obtain rfl:j=4:=O;have z:js wr w u5 ((ws.take<|k+1).flatMap<|cy true):=(by rw[d.out];exact pU);go_wp2;refine bM ?_;exact⟨k+1,O,cJ,z,dZ⟩);obtain rfl:k=ws:=O;rw[fq] at hO;have C:(ws.flatMap<|cy true).length<=100:=(by have:∀l:List Nat,(l.flatMap<|cy true).length=4*l.length:=(by exact K4);rw[this];omega);have hT0:ws.flatMap (cy true)≠[]:=ahM;generalize Nn:ws.flatMap (cy true)=T at hO C hT0;exact aa8
def aa9 B o E(ws:List Nat)(hws:∀x∈ws,x<4294967296)(G:0<ws.length)(q:ws.length<=8)w(s:B<w.heap.size)(hc:∀i (h:i<ws.length),w.cell? ⟨B,o+i,none⟩=some (.int .u32 (ws[i]:Nat))):cL 330 #[.slice (vC B o) ws.length E,false] w (dx (.string ⟨(q7 (ws.flatMap<|cy false)).toArray⟩) w):=by go_enter func330,ntmps330;go_wp2;go_loopw [5,7,8,11] (λv _ _ i wr=>∃k:Nat,k<=ws/\i=mI k/\js wr w v ((ws.take k).flatMap<|cy false)/\Y w wr) (λ_ _ _ i _=>ws.length - (intOf i).toNat);(.exact⟨0,bt _,I,js.nil _ _,aL _ _⟩);obtain⟨k,K,rfl,hO,hB⟩:=hrel;by_cases cY:k<ws;(.have uF:=(hB.cell (p:=⟨B,o+k,none⟩) s).trans<|hc k cY;have D:(ws.take<|k+1).flatMap (cy false)=(ws.take k).flatMap (cy false)++cy false ws[k]:=(by exact aa6);have t:((ws.take k).flatMap<|cy false).length<=100:=(by have:∀l:List Nat,(l.flatMap<|cy false).length=4*l.length:=(by exact K4);grind);have d:=J D;clear D;generalize(ws.take k).flatMap (cy false)=L at hO t d;generalize ws[k]=x at uF d;go_wp2;go_loopw [5,8,15] (λeA _ b m=>∃j:Nat,j<=4/\b=mI j/\js m w eA (L++(cy false x).take j)/\Y w m) (λ_ _ b _=>4 - (intOf b).toNat);(.exact⟨0,bt _,I,by simpa using hO,hB⟩);obtain⟨j,N,rfl,pU,dZ⟩:=hrel;by_cases n:j<4;(.have hb:=aa4 x j n;have f:=J<|y3 false x j n;have u:(L++(cy false x).take j).length<=104:=Wh;generalize(cy false x).getD j 0=c at hb f;obtain⟨M,y⟩:∃M,M=L++(cy false x).take j:=⟨_,I⟩;rw[<-y] at pU u;have hM':=J (show L++(cy false x).take (j+1)=M++[c] by rw[f.out,y,l7]);clear y f;have Mm:=dZ.size;have hb':=J (show(x:Int) / 2 ^ (24 - 8*j)%256=(c.toNat:Int) by rw[hb];have h:((2 ^ (24 - 8*j):Nat):Int)=(2:Int) ^ (24 - 8*j):=RD;rw[<-h];first|rfl|simp);clear hb;have H:(24 - 8*(j:Int)).toNat=24 - 8*j:=O;exact aa7);obtain rfl:j=4:=O;have z:js wr w u5 ((ws.take<|k+1).flatMap<|cy false):=(by rw[d.out];exact pU);go_wp2;refine bM ?_;exact⟨k+1,O,cJ,z,dZ⟩);obtain rfl:k=ws:=O;rw[fq] at hO;have C:(ws.flatMap<|cy false).length<=100:=(by have:∀l:List Nat,(l.flatMap<|cy false).length=4*l.length:=(by exact K4);rw[this];omega);have hT0:ws.flatMap (cy false)≠[]:=ahM;generalize Nn:ws.flatMap (cy false)=T at hO C hT0;exact aa8
end Go.Proofs.YtkdneaemikbhkaaGreatDoor
