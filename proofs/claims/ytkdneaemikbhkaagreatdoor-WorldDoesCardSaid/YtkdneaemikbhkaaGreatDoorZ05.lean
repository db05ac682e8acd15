import Derived.Test.YtkdneaemikbhkaaGreatDoorZ01
import Derived.Test.YtkdneaemikbhkaaGreatDoorZ04
set_option linter.all false
set_option maxRecDepth 100000
set_option maxHeartbeats 40000000
namespace Go.Proofs.YtkdneaemikbhkaaGreatDoor
open _root_.Go.Proofs.Tryz Go.RowKit Go.Deep
def V'(c:UInt8):(0:Int)<=c.toNat/\(c.toNat:Int)<256:=⟨O,by have:=c.toNat_lt;omega⟩
def Pu c:((c.toNat:Int).toNat).toUInt8=c:=bT
def V_:bs:=[33,35,36,37,38,39,42,43,45,46,94,95,124,126,96]
def MJ:bs:=[34,40,41,44,47,58,59,60,61,62,63,64,91,92,93,123,125]
def ds(c:UInt8):Bool:=decide (48<=c.toNat/\c.toNat<=57\/97<=c.toNat/\c.toNat<=122\/65<=c.toNat/\c.toNat<=90\/0<=Lib.indexByte V_ c)
def Wa c:(decide (33<=c.toNat/\c.toNat<=126/\Lib.indexByte MJ c<0))=ds c:=by have h:∀n:Fin 256,(decide (33<=(UInt8.ofNat n).toNat/\(UInt8.ofNat n).toNat<=126/\Lib.indexByte MJ (UInt8.ofNat n)<0))=ds (UInt8.ofNat n):=jN;simpa using h ⟨c.toNat,c.toNat_lt⟩
def te c w:cL 221 #[.int .u8 c.toNat] w (rV (.bool<|ds c) w):=by have hb:=V' c;go_enter func221,ntmps221;go_wp2_with (go_at_call 93;apply(Tryz.strings_IndexByte _ _ _).Q;rintro e w' ⟨rfl,rfl⟩);(all_goals go_ret);all_goals refine⟨aW ?_,I⟩;unfold ds V_;grind
def j8 c w:cL 186 #[.int .u8 c.toNat] w (rV (.bool<|ds c) w):=by have hb:=V' c;go_enter func186,ntmps186;go_wp2_with fail;apply(dS _ _ _ _).Q;rintro e w' ⟨rfl,rfl⟩;go_wp2_with (go_at_call 93;apply(Tryz.strings_IndexByte _ _ _).Q;rintro e w' ⟨rfl,rfl⟩);(all_goals go_ret);all_goals refine⟨aW ?_,I⟩;rw[<-Wa];unfold MJ;grind
def j9(l:bs):Bool:=l !=[]&&l.all ds
def nN(s:F)k(a:k<s.size)(b:k<s.data.toList.length):s.data.toList[k]=s[k]:=by simp;rfl
def mz p(s:F)k(h:k<s.size)(b:(s.data.toList.take k).all p=true)(hb:p s[k]=true):(s.data.toList.take<|k+1).all p=true:=by have a:k<s.data.toList:=(by rw[<-e_];exact h);rw[gW a,vE,b,nN s k h a];simp [hb]
def vG p(s:F)k(h:k<s.size)(hb:p s[k]=false):s.data.toList.all p=false:=by have a:k<s.data.toList:=(by rw[<-e_];exact h);rw[List.all_eq_false];exact⟨s[k],by rw[<-nN s k h a];exact ej _,by simp [hb]⟩
def lr p(s:F)(a:(s.data.toList.take s.size).all p=true):s.data.toList.all p=true:=by rwa [e_,fq] at a
def vH(s:F)w(c:s.size<=maxLen):cL 129 #[s] w (rV (.bool<|j9 s) w):=by unfold maxLen at c;go_enter func129,ntmps129;go_wp2;go_loop [6] (λi=>∃k:Nat,k<=s.size/\i=mI k/\Hid ((s.data.toList.take k).all ds=true)) (λi=>s.size - (intOf i).toNat);(.exact⟨0,bt _,I,J bT⟩);obtain⟨k,d,rfl,b⟩:=hrel;by_cases a:k<s.size;(.cases hb:ds s[k];(.have hn:=J<|vG ds s k a hb;go_wp2_with (go_at_call 221;apply(te _ _).Q;rintro e w' ⟨rfl,rfl⟩);go_ret;exact⟨aW<|by unfold j9;rw[hn.out];simp,rfl⟩);have hn:=J<|mz ds s k a b hb;go_wp2_with (go_at_call 221;apply(te _ _).Q;rintro e w' ⟨rfl,rfl⟩);exact HL);obtain rfl:s.size=k:=O;go_wp2;go_ret;exact⟨aW (by unfold j9;rw[lr ds s b.out,eR];cases s.data.toList <;> rfl),rfl⟩
def MK(s:F)k(h:k<s.size)(hb:ds s[k]=false):j9 s=false:=by unfold j9;rw[vG ds s k h hb];simp
def SK(s:F)(h:0<s.size)(b:(s.data.toList.take s.size).all ds=true):j9 s=true:=by unfold j9;rw[lr ds s b];rw[e_] at h;(cases hl:s.data.toList with|nil =>rw[hl] at h;simp at h|cons a l =>rfl)
def r6(s:F)w(g:s.size<=maxLen):cL 90 #[s] w (rV (.bool<|j9 s) w):=by unfold maxLen at g;go_enter func90,ntmps90;go_wp2;go_loop [3] (λi=>∃k:Nat,k<=s.size/\i=mI k/\Hid ((s.data.toList.take k).all ds=true)) (λi=>s.size - (intOf i).toNat);(.exact⟨0,bt _,I,J bT⟩);obtain⟨k,j,rfl,f⟩:=hrel;by_cases b:k<s.size;(.cases hb:ds s[k];(.have hn:=J<|MK s k b hb;by_cases c:0<k;all_goals go_wp2_with (go_at_call 186;apply(j8 _ _).Q;rintro e w' ⟨rfl,rfl⟩);go_ret;exact⟨aW (by (rw[hn.out])<;> (first|rfl|(simp;omega))),rfl⟩);have hn:=J<|mz ds s k b f hb;go_wp2_with (go_at_call 186;apply(j8 _ _).Q;rintro e w' ⟨rfl,rfl⟩);exact HL);obtain rfl:s.size=k:=O;by_cases c:0<s.size;(.go_wp2;go_ret;exact⟨aW (by (rw[SK s c f.out])<;> (first|rfl|(simp;done)|(simp;omega))),rfl⟩);have d:Hid<|j9 s=false:=J (by have:s.data.toList=[]:=(by rw[e_] at c;cases hl:s.data.toList with|nil=>rfl|cons a l=>rw[hl] at c;simp at c);rw[this];rfl);go_wp2;go_ret;exact⟨aW (by (rw[d.out])<;> (first|rfl|(simp;done)|(simp;omega))),rfl⟩
end Go.Proofs.YtkdneaemikbhkaaGreatDoor
namespace Go.Proofs.YtkdneaemikbhkaaGreatDoor
open _root_.Go.Proofs.Tryz Go.RowKit Go.Deep
open Go.ChangeShapes Go.WideShapes Go.ChangeAt Go.WideElems
def tf l s:(⟨l.toArray⟩:F)++s=⟨(l++s.data.toList).toArray⟩:=aJ
def gC(ss:jm):bs:=Lib.join (aT ss) [44,32]
def ML:gC []=[]:=rfl
def HM ss s(h:ss≠[]):gC (ss++[s])=gC ss++[44,32]++s.data.toList:=by cases ss with|nil =>exact absurd I h|cons x r =>simp [gC,aT,SL,Lib.joinTail]
def Ak s:gC [s]=s.data.toList:=by simp [gC,aT,Lib.join_one]
def Al(m:Nat):∀(ss:jm),(∀s∈ss,s.size<=m)->(gC ss).length<=ss.length*(m+2)
 |[],_=>by simp [ML]
 |x::r,h=>by
  have c:=Al m r (λs a=>h s<|by simp [a])
  have b:=h x (by simp)
  rw[Hp] at b
  cases r with
  |nil=>rw[Ak];simp only[iN,qF,lp,SD];omega
  |cons y r =>
   have e:gC (x::y::r)=x.data.toList++[44,32]++gC (y::r):=by simp [gC,aT,SL,Lib.joinTail]
   rw[e]
   simp only[iG,iN,qF] at *
   rw[HD]
   omega
def o6 a E ss(sep:F)w(g:bX w a ss)(i:ss.length<=E)(k:ss.length<=140737488355328)(hl:(Lib.join (aT ss) sep.data.toList).length<=140737488355328):cL 271 #[.slice a ss.length E,sep] w<|dx (.string ⟨(Lib.join (aT ss) sep.data.toList).toArray⟩) w:=by (cases ss with|nil =>exact(Tryz.strings_Join_none a E sep w).mono λe w' ⟨c,d⟩=>⟨c,d▸aL _ _⟩|cons x r =>obtain⟨b,aj,rfl,l⟩:=g 0 bT;refine Tryz.strings_Join b aj E (x::r) sep w ?_ (rR w _ l) k i hl;intro j y m;have f:j<(x::r).length:=gA;obtain⟨n,h,e,o⟩:=g j f;grind)
end Go.Proofs.YtkdneaemikbhkaaGreatDoor
namespace Go.Proofs.YtkdneaemikbhkaaGreatDoor
open _root_.Go.Proofs.Tryz Go.RowKit Go.Deep
def cl(c:UInt8):Bool:=decide (c.toNat=32\/c.toNat=9)
def a_(p:UInt8->Bool)(l:bs)(k:Nat):bs:=(l.drop k).takeWhile p
def k_{p}{l}{k}(h:k<l.length)(a:p l[k]=false):a_ p l k=[]:=by unfold a_;rw[rK h,r7,aY<|by simp [a]]
def mb{p}{l}{k}(h:l.length<=k):a_ p l k=[]:=by unfold a_;rw[zb h];rfl
def oe{p}{l}{k}(h:k<l.length)(a:p l[k]=true):a_ p l k=l[k]::a_ p l (k+1):=by unfold a_;rw[rK h,r7,a' a]
def Am p(l:bs):l.takeWhile p=l.take (l.takeWhile p).length:=by (induction l with|nil =>rfl|cons a l ih =>rw[r7];grind)
def gY p l k:(a_ p l k).length<=l.length - k:=by unfold a_;have:=(MM p (l:=l.drop k)).length_le;simpa using this
def r8 p l k:(l.drop k).take (a_ p l k).length=a_ p l k:=(Am p _).symm
def vx:bs->bs->Option (bs×Nat)
 |[],_=>none
 |[c],a=>if c.toNat=34 then some (a,0) else none
 |c::x::r,a=>if c.toNat=34 then some (a,r.length+1) else if c.toNat=92 then (if ib x then vx r (a++[x]) else none) else if ib c then vx (x::r) (a++[c]) else none
def Wb{c}r a(h:c.toNat=34):vx (c::r) a=some (a,r.length):=by cases r <;> simp [vx,h]
def Wc{c}a(h:c.toNat=92):vx [c] a=none:=by simp [vx,h]
def Pv{c x}r a(h:c.toNat=92)(b:ib x=true):vx (c::x::r) a=vx r (a++[x]):=by simp [vx,h,b]
def MN{c x}r a(h:c.toNat=92)(b:ib x=false):vx (c::x::r) a=none:=by simp [vx,h,b]
def HN{c}r a(h:c.toNat≠34)(b:c.toNat≠92)(d:ib c=true):vx (c::r) a=vx r (a++[c]):=by cases r <;> simp [vx,h,b,d]
def ah6{c}r a(h:c.toNat≠34)(b:c.toNat≠92)(d:ib c=false):vx (c::r) a=none:=by cases r <;> simp [vx,h,b,d]
def zH:∀(n:Nat) (l a:bs) (x:bs×Nat),l.length<=n->vx l a=some x->x.1.length<=a.length+l.length/\x.2<l.length
 |0,[],_,_,_,h=>by simp [vx] at h
 |0,_::_,_,_,b,_=>by simp at b
 |n+1,[],_,_,_,h=>by simp [vx] at h
 |n+1,[c],a,x,_,h=>by
  unfold vx at h;split at h
  .cases h;simp
  .cases h
 |n+1,c::y::r,a,x,b,h=>by
  unfold vx at h
  simp only[List.length_cons] at b
  split at h
  .cases h;simp
  .split at h
   .split at h
    .have:=zH n r (a++[y]) x (by omega) h;simp at this ⊢;omega
    .cases h
   .split at h
    .have:=zH n (y::r) (a++[c]) x (by simp;omega) h;simp at this ⊢;omega
    .cases h
def cm(l:bs)(k:Nat):Option<|bs×Nat:=
 match l.drop k with
 |c::r=>if c.toNat=34 then (vx r []).map (λx=>(x.1,l.length - x.2)) else none
 |[]=>none
def vI{l}{k}(h:l.length<=k):cm l k=none:=by unfold cm;rw[zb h]
def r9{l}{k}(h:k<l.length)(hc:l[k].toNat≠34):cm l k=none:=agR
def r'{l}{k}(h:k<l.length)(hc:l[k].toNat=34):cm l k=(vx (l.drop<|k+1) []).map (λx=>(x.1,l.length - x.2)):=agR
def o7{l}{k}{x}(h:cm l k=some x):x.1.length<=l.length/\k<x.2/\x.2<=l.length:=by by_cases a:k<l.length;(.by_cases b:l[k].toNat=34;(.rw[r' a b] at h;obtain⟨y,c,rfl⟩:=adH.1 h;have:=zH _ _ _ _ lJ c;grind);rw[r9 a b] at h;cases h);rw[vI O] at h;cases h
end Go.Proofs.YtkdneaemikbhkaaGreatDoor
namespace Go.Proofs.YtkdneaemikbhkaaGreatDoor
open _root_.Go.Proofs.Tryz Go.RowKit Go.Deep
open Go.Shelf
def jO(s cut:F)(w:tW)(a:s.size<=9223372036854775807)(c:cut.size<4294967281)(d:∀(j:Nat) b,cut.data.toList[j]?=some b->b.toNat<128):
  cL 116 #[s,cut] w (dx (.string ⟨(Lib.trimS s.data.toList cut.data.toList).toArray⟩) w):=
 Any.strings_Trim_laid Tryz.L160 (by kernel_rfl) s cut w a c d
def kG(s cut:F)(w:tW)(a:cut.size<4294967281)(c:∀(j:Nat) b,cut.data.toList[j]?=some b->b.toNat<128):
  cL 198 #[s,cut] w (dx (.string ⟨(Lib.trimLeftS s.data.toList cut.data.toList).toArray⟩) w):=
 Any.strings_TrimLeft_laid Tryz.L161 (by kernel_rfl) s cut w a c
def fk{p:UInt8->Bool}:∀{l:bs},l.dropWhile p=[]↔l.all p=true
 |[]=>by simp
 |a::l=>by
  rw[An]
  cases h:p a
  .simp [h]
  .simp [h,fk (l:=l)]
def f'{p:UInt8->Bool}{a:UInt8}:∀{l r:bs},l.dropWhile p=a::r->p a=false
 |[],_,h=>by simp at h
 |b::l,r,h=>by
  rw[An] at h
  cases hb:p b
  .rw[aY<|by simp [hb]] at h;cases h;exact hb
  .rw[a' hb] at h;exact f' h
def DL l cs:Lib.trimS l cs=[]↔l.all (cs.contains ·)=true:=by unfold Lib.trimS Lib.trimLeftS Lib.trimRightS;rw[fk,SM];constructor;(.intro h;(cases b:l.reverse.dropWhile (cs.contains ·) with|nil =>have:=fk.1 b;grind|cons a r =>have c:=f' b;grind));intro h;have:l.reverse.dropWhile (cs.contains ·)=[]:=fk.2 (by rwa [SM]);rw[this];rfl
def DM l cs p(a:∀c,cs.contains c=p c):Lib.trimS l cs=[]↔l.all p=true:=by rw[DL,show(λc=>cs.contains c)=p from funext a]
def xF l cs:(Lib.trimS l cs).length<=l.length:=by unfold Lib.trimS Lib.trimLeftS Lib.trimRightS;refine de (CN _).length_le ?_;rw[List.length_reverse];refine de (CN _).length_le ?_;grind
end Go.Proofs.YtkdneaemikbhkaaGreatDoor
namespace Go.Proofs.YtkdneaemikbhkaaGreatDoor
open _root_.Go.Proofs.Tryz Go.RowKit Go.Deep
def kP(c:UInt8)(l:bs):bs:=l.takeWhile λx=>x !=c
def Ao c l:kP c (c::l)=[]:=by simp [kP]
def th{a c}(h:a≠c)l:kP c (a::l)=a::kP c l:=by unfold kP;rw[r7,a' vJ]
def HO c l:(kP c l).length<=l.length:=(MM _).length_le
def vL{a c}(h:a≠c)(l:bs):(a::l).contains c=l.contains c:=gA
def vN(c:UInt8):∀l:bs,l.contains c=true->Lib.indexByte l c=((kP c l).length:Int)
 |[],h=>by simp at h
 |a::l,h=>by
  by_cases b:a=c
  .subst b
   rw[Ao];simp [Lib.indexByte]
  .rw[vL b] at h
   have ih:=vN c l h
   rw[th b,Lib.indexByte,ih]
   simp only[beq_iff_eq,b,if_false,iN]
   rw[aY<|by omega]
   omega
def Ap(c:UInt8):∀l:bs,l.contains c=false->Lib.indexByte l c=-1
 |[],_=>rfl
 |a::l,h=>by
  have b:a≠c:=by rintro rfl;simp at h
  rw[vL b] at h
  have ih:=Ap c l h
  rw[Lib.indexByte,ih]
  simp [b]
def MO(c:UInt8):∀l:bs,l.contains c=true->(kP c l).length<l.length
 |[],h=>by simp at h
 |a::l,h=>by
  by_cases b:a=c
  .subst b
   rw[Ao];simp
  .rw[vL b] at h
   have ih:=MO c l h
   rw[th b,iN,iN];omega
def Aq c l:l.take (kP c l).length=kP c l:=by unfold kP;(induction l with|nil =>rfl|cons a l ih =>rw[r7];grind)
def MQ(c:UInt8):∀l:bs,l.contains c=false->kP c l=l
 |[],_=>rfl
 |a::l,h=>by
  have b:a≠c:=by rintro rfl;simp at h
  rw[vL b] at h
  rw[th b,MQ c l h]
def Pw{c}{l}(h:l.contains c=true):Lib.cut l [c]=(kP c l,l.drop<|(kP c l).length+1,true):=by unfold Lib.cut;rw[Lib.index_one,vN c l h,a' O,HP,Aq];rfl
def Wd{c}{l}(h:l.contains c=false):Lib.cut l [c]=(l,[],false):=by unfold Lib.cut;rw[Lib.index_one,Ap c l h,aY Z]
end Go.Proofs.YtkdneaemikbhkaaGreatDoor
namespace Go.Proofs.YtkdneaemikbhkaaGreatDoor
open _root_.Go.Proofs.Tryz Go.RowKit Go.Deep
def yp:(prog.info? 212).map (·.size)=some 2:=dU
def HQ:liesAt prog prog.depth 212 (2 / prog.cellsOf 212) 0 212 1=true:=dU
abbrev zI(B b:Nat)(a:qD)(w:tW):Prop:=Lib.IsBuilder 212 5 B b a w
abbrev AtB(B b:Nat)(a:qD)(w:tW):Prop:=Lib.BuilderAt 212 5 B b (bR b) a w
def zI.later{B b}{d}{w w'}(h:zI B b d w)(hb:Y w w'):zI B b d w':=by have go:∀p,Lib.BuilderAt 212 5 B b p d w->Lib.BuilderAt 212 5 B b p d w':=(by intro p h;obtain⟨f,v,a,c,e⟩:=h;exact⟨f,v,(hb.block b (uO.1 a).1).trans a,j6 c hb,e⟩);exact h.elim (λx=>.inl<|go _ x) (λx=>.inr<|go _ x)
def zI.new(w:tW)B(a:B<=w.heap.size):zI B w [] (w.alloc<|.cells #[.pointer none,bN] 212):=
 .inl ⟨a,_,xA w _,VW _ _ _ _,by simp [Value.ownBlock]⟩
def SN B b a w(h:zI B b a w):cL 224 #[bR b] w λe w'=>e=.returned (.tuple #[])/\(AtB B b a w'/\Below B w w'):=by obtain⟨j,hj,hjs⟩:=adH.1 yp;rcases h with h|h;(.refine ah7 ?_;intro h0 hsh hfz;exact⟨I,h.used _,(aL B w).setCell (p:=(U b 0)) h.1 _⟩);refine We ?_;intro h0;exact⟨I,h,aL B _⟩
def xG B b n c w(h:zI B b n w)(o:n.length+1<=140737488355328)(G:B<=w.heap.size):cL 195 #[bR b,.int .u8 c] w λe w'=>e=.returned .nilIface/\(AtB B b (n++[.int .u8 c]) w'/\Below B w w'):=by obtain⟨i0,H,r,s,t⟩:=ni vz;go_enter func195,ntmps195;go_wp2_with fail;apply(SN B b n _ h).Q;rintro e q ⟨rfl,K,f⟩;obtain⟨C,v,l,i,x⟩:=K;have c1:q.cell? (U b 1)=some v:=(by rw[adB l];rfl);go_wp2_with (at_builtin;refine vA _ I _ _ 172 I B 5 i0 (.int .u8 0) 1 1 underlying172 H r s t I Z _ _ _ I (i.alloc _) (U q 0) 1 1 [.int .u8 c] I I ?c1 ?c2 ?c3 ?c4 ?c5 ?_);(case c1=>exact Fw _ _ _);(case c2=>intro u j;simp at j;subst j;rfl);(case c3=>unfold maxLen;omega);(case c4=>omega);(case c5=>have:=f.size;simp;omega);intro L D a d _;have y:b<q:=(uO.1 l).1;have m:D.heap[b]?=some (.cells #[bR b,v] 212 (0,0)):=(by rw[d.block b fK λe=>x e.symm,Lib.alloc_old q _ b y];exact l);have d1:D.cell? (U b 1)=some v:=(by rw[adB m];rfl);have f1:=VX m 1;obtain⟨g,E,rfl⟩:∃g E,L=.slice (fJ g) (n.length+1) E:=(by rcases a.2 with⟨_,P⟩|⟨g,E,z,M,_⟩;(.omega);exact⟨g,E,M⟩);go_wp2;go_ret;refine⟨I,?_,?_⟩;(.exact Lib.BuilderAt.put (T:=212) (e:=5) C m (bs':=n++[.int .u8 c]) (by simpa using a) Z);exact((f.alloc (by have:=f.size;omega) _).grown d (by have:=f.size;simp;omega) λk N=>(i.lt k N).1).setCell (p:=(U b 1)) C _
end Go.Proofs.YtkdneaemikbhkaaGreatDoor
namespace Go.Proofs.YtkdneaemikbhkaaGreatDoor
open _root_.Go.Proofs.Tryz Go.RowKit Go.Deep
def lu(b:Nat)(w w':tW):Prop:=∀p cs T,T≠5->p≠b->A w p cs T->A w' p cs T
def lu.refl b w:lu b w w:=λ_ _ _ _ _ h=>h
def lu.trans{b}{w a c}(h:lu b w a)(k:lu b a c):lu b w c:=λp cs T d e hb=>k p cs T d e<|h p cs T d e hb
def lu.below{b}{w w'}(h:Y w w'):lu b w w':=λ_ _ _ _ _ hb=>hb.later h
def lu.set{b}{w w'}(h:lu b w w')i x:lu b w<|w'.setCell (U b i) x:=λp cs T c a hb=>(h p cs T c a hb).kO _ _ λe=>a e.symm
def lu.grown{b B n}{w a i}{v}{bf}(h:lu b w a)(ho:a.ownsRow B 5 1 v n bf)(l:a.grownBy i v.ownBlock):lu b w i:=λp cs T j m hb=>by
 have c:=h p cs T j m hb
 refine c.grown l (λe=>?_)
 rcases ho.2 with⟨d,_⟩|⟨g,E,f,d,_,k,_⟩
 .rw[d] at e;cases e
 .rw[d] at e
  cases e
  unfold A at c
  rw[c] at k
  cases k
  exact j I
def MR B b a w(h:zI B b a w):cL 224 #[bR b] w λe w'=>e=.returned (.tuple #[])/\(AtB B b a w'/\Below B w w'/\lu b w w'):=by obtain⟨j,hj,hjs⟩:=adH.1 yp;rcases h with h|h;(.refine ah7 ?_;intro h0 hsh hfz;exact⟨I,h.used _,(aL B w).setCell (p:=(U b 0)) h.1 _,(lu.refl b w).set _ _⟩);refine We ?_;intro h0;exact⟨I,h,aL B _,lu.refl _ _⟩
def nO(B b:Nat)(l:List Value)(s:ByteArray)(w:World)(h:zI B b l w)(m:l.length+s.size<=140737488355328)(L:B<=w.heap.size):Calls Tryz.prog 136 #[.pointer<|some ⟨b,0,none⟩,.string s] w λe w'=>e=.returned (.tuple #[.int .i64 s.size,.nilIface])/\(zI B b (l++Lib.strCells s) w'/\Below B w w'/\lu b w w'):=by obtain⟨i0,M,o,q,r⟩:=info_parts vz;go_enter Tryz.func136,Tryz.ntmps136;go_wp2_with fail;apply(MR B b l _ h).Q;rintro e t ⟨rfl,N,j,u⟩;obtain⟨G,v,f,c,x⟩:=N;have c0:t.cell? ⟨b,0,none⟩=some (.pointer<|some ⟨b,0,none⟩):=(by rw[Lib.cell_of_heap f];rfl);have c1:t.cell? ⟨b,1,none⟩=some v:=(by rw[Lib.cell_of_heap f];rfl);go_wp2_with (at_builtin;refine Lib.wpList_append_own_string _ rfl _ _ 172 9 rfl B 5 i0 Tryz.underlying172 Tryz.underlying9 M o q r _ _ _ rfl c s rfl ?c3 ?c4 ?c5 ?_);(case c3=>unfold maxLen;omega);(case c4=>omega);(case c5=>have:=j.size;omega);intro P n d a _;have y:b<t:=(Array.getElem?_eq_some_iff.1 f).1;have i:n.heap[b]?=some (.cells #[.pointer<|some ⟨b,0,none⟩,v] 212 (0,0)):=(by rw[a.block b y λe=>x e.symm];exact f);have d0:n.cell? ⟨b,0,none⟩=some (.pointer<|some ⟨b,0,none⟩):=(by rw[Lib.cell_of_heap i];rfl);have d1:n.cell? ⟨b,1,none⟩=some v:=(by rw[Lib.cell_of_heap i];rfl);have f1:n.frozen? ⟨b,1,none⟩=false:=Lib.frozen_of_heap i 1;obtain⟨H,K,E,rfl⟩:∃H K E,P=.slice H K E:=(by rcases d.2 with⟨z,_⟩|⟨g,E,C,z,_⟩;(.exact⟨_,_,_,z⟩);exact⟨_,_,_,z⟩);have D:=lu.grown u c a;go_wp2;go_ret2;refine⟨rfl,.inr ?_,?_,D.set _ _⟩;(.exact Lib.BuilderAt.put (T:=212) (e:=5) G i (bs':=l++Lib.strCells s) (by simpa [Lib.strCells_length] using d)<|by decide);exact(j.grown a (by have:=j.size;omega) λk R=>(c.lt k R).1).setCell (p:=⟨b,1,none⟩) G _
def zI.kO{B b p i}{c}{w}{cs}{T}(h:zI B b c w)(m:p≠b)(o:T≠5)(hb:A w p cs T)x:zI B b c<|w.setCell (U p i) x:=by have go:∀q,Lib.BuilderAt 212 5 B b q c w->Lib.BuilderAt 212 5 B b q c (w.setCell (U p i) x):=(by intro q h;obtain⟨n,v,f,a,j⟩:=h;refine⟨n,v,A.kO f _ _ λe=>m e,?_,j⟩;refine(ak.set (ak.refl (λi=>i=p) w) (.inl I) x).own a (λg d e=>?_);subst e;rcases a.2 with⟨k,_⟩|⟨r,E,l,k,_,s,_⟩;(.rw[k] at d;cases d);rw[k] at d;cases d;unfold A at hb;grind);exact h.elim (λh=>.inl<|go _ h) (λh=>.inr<|go _ h)
def MS B b a w(h:zI B b a w):cL 139 #[bR b] w<|rV (mI a.length) w:=by obtain⟨p,v,j,ho⟩:∃p v,A w b #[p,v] 212/\w.ownsRow B 5 1 v a a:=(by rcases h with⟨_,v,c,d,_⟩|⟨_,v,c,d,_⟩;(.exact⟨_,v,c,d⟩);exact⟨_,v,c,d⟩);obtain⟨e,E,rfl⟩:∃e E,v=.slice e a E:=(by rcases ho.2 with⟨i,k⟩|⟨g,E,f,i,_⟩;(.grind);exact⟨_,_,i⟩);have c1:w.cell? (U b 1)=some (.slice e a E):=j.cell 1 I;go_enter func139,ntmps139;exact pY
end Go.Proofs.YtkdneaemikbhkaaGreatDoor
namespace Go.Proofs.YtkdneaemikbhkaaGreatDoor
open _root_.Go.Proofs.Tryz Go.RowKit Go.Deep
open Go.ChangeShapes Go.WideShapes Go.ChangeAt Go.WideElems
structure jt where
 scheme:Int
 al:F
 av:F
 er:F
 aU:Bool
 cg:F
 aP:Bool
 domain:jm
def fL:jt:=⟨0,⟨#[]⟩,⟨#[]⟩,⟨#[]⟩,false,⟨#[]⟩,false,[]⟩
structure nP where
 d:jt
 addr:oT
 cap:Nat
abbrev nP.arr(a:nP):gr:=#[mI a.d.scheme,.string a.d.al,.string a.d.av,.string a.d.er,.bool a.d.aU,.string a.d.cg,.bool a.d.aP,.slice a.addr a.d.domain.length a.cap]
structure nP.Ok (w:tW) (a:nP):Prop where
 scheme:(Lit.int .i64 a.d.scheme).wf=true
 al:a.d.al.size<=reachBytes
 av:a.d.av.size<=reachBytes
 er:a.d.er.size<=reachBytes
 cg:a.d.cg.size<=reachBytes
 at_:bX w a.addr a.d.domain
 len:a.d.domain.length*16<=reachBytes
 cap:a.d.domain.length<=a.cap/\a.cap<=maxLen
def nP.Ok.later{w w'}{a:nP}(h:a.Ok w)(hb:Y w w'):a.Ok w':=⟨h.scheme,h.al,h.av,h.er,h.cg,h.at_.later hb,h.len,h.cap⟩
section
variable {w : World} {p : Nat} {v0 eS eA v3 v4 v5 v6 v7 : Value} {T : TypeId}
def br(h:A w p #[v0,eS,eA,v3,v4,v5,v6,v7] T):
  w.cell? (U p 0)=some v0/\w.cell? (U p 1)=some eS/\w.cell? (U p 2)=some eA/\w.cell? (U p 3)=some v3/\w.cell? (U p 4)=some v4/\w.cell? (U p 5)=some v5/\w.cell? (U p 6)=some v6/\w.cell? (U p 7)=some v7:=
 ⟨h.cell 0 I,h.cell 1 I,h.cell 2 I,h.cell 3 I,h.cell 4 I,h.cell 5 I,h.cell 6 I,h.cell 7 I⟩
def jd(h:A w p #[v0,eS,eA,v3,v4,v5,v6,v7] T):
  w.frozen? (U p 0)=false/\w.frozen? (U p 1)=false/\w.frozen? (U p 2)=false/\w.frozen? (U p 3)=false/\w.frozen? (U p 4)=false/\w.frozen? (U p 5)=false/\w.frozen? (U p 6)=false/\w.frozen? (U p 7)=false:=
 ⟨h.free 0,h.free 1,h.free 2,h.free 3,h.free 4,h.free 5,h.free 6,h.free 7⟩
def Wf(h:A w p #[v0,eS,eA,v3,v4,v5,v6,v7] T)a b c d e f g i:A ((((((((w.setCell (U p 0) a).setCell (U p 1) b).setCell (U p 2) c).setCell (U p 3) d).setCell (U p 4) e).setCell (U p 5) f).setCell (U p 6) g).setCell (U p 7) i) p #[a,b,c,d,e,f,g,i] T:=by have:=(((((((h.set 0 a).set 1 b).set 2 c).set 3 d).set 4 e).set 5 f).set 6 g).set 7 i;simpa using this
def MT{B:Nat}{a:tW}(h:Below B a w)(b:B<=p)(c d e f g i j k:tV):
  Below B a ((((((((w.setCell (U p 0) c).setCell (U p 1) d).setCell (U p 2) e).setCell (U p 3) f).setCell (U p 4) g).setCell (U p 5) i).setCell (U p 6) j).setCell (U p 7) k):=
 (((((((h.setCell b _).setCell b _).setCell b _).setCell b _).setCell b _).setCell b _).setCell b _).setCell b _
end
abbrev j':gr:=#[mI 0,fm,fm,fm,.bool false,fm,.bool false,bN]
abbrev eW:TypeId:=96
def df:(prog.info? 96).map (·.size)=some 8:=dU
def gm k r n o q s t a m c:(#[mI k,.string r,.string n,.string o,.bool s,.string q,.bool t,.slice a m c]:gr).all (·.oneCell')=true:=
 all_oneCell_toArray (cs:=[mI k,.string r,.string n,.string o,.bool s,.string q,.bool t,.slice a m c]) (by
  intro v b
  simp only[uQ,y',y_] at b
  rcases b with rfl|rfl|rfl|rfl|rfl|rfl|rfl|rfl <;> rfl)
end Go.Proofs.YtkdneaemikbhkaaGreatDoor
