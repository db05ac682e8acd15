import Derived.Test.YtkdneaemikbhkaaGreatDoorZ17
import Derived.Test.YtkdneaemikbhkaaGreatDoorRows
set_option linter.all false
set_option maxRecDepth 100000
set_option maxHeartbeats 40000000
namespace Go.Proofs.YtkdneaemikbhkaaGreatDoor
open _root_.Go.Proofs.Tryz Go.RowKit Go.Deep
def OI(a:Nat)(h:a<4294967296):(BitVec.ofInt 32 (a:Int)).toNat=a:=gA
def Uv(a:Nat)(h:a<9223372036854775808):(BitVec.ofInt 64 (a:Int)).toNat=a:=gA
def zZ(x:Nat)(h:x<4294967296):IntKind.u32.wrap (x:Int)=(x:Int):=ai3
def GD(x:Nat)(h:x<9223372036854775808):IntKind.i64.wrap (x:Int)=(x:Int):=ai3
def afA(a b n:Nat)(c:a<n):a&&&b<n:=yZ Nat.and_le_left c
def KD a b(c:a<4294967296)(hb:b<4294967296):a |||b<4294967296:=Nat.or_lt_two_pow (n:=32) c hb
def ig a b(c:a<4294967296)(hb:b<4294967296):a^^^b<4294967296:=Nat.xor_lt_two_pow (n:=32) c hb
def fG a b(c:a<4294967296):a&&&b<4294967296:=afA a b _ c
def oa(a b:Nat)(c:a<4294967296)(hb:b<4294967296):bits .and .u32 (a:Int) (b:Int)=((a&&&b:Nat):Int):=by show IntKind.u32.wrap ((BitVec.ofInt 32 (a:Int)&&&BitVec.ofInt 32 (b:Int)).toNat:Int)=_;rw[Ra,OI a c,OI b hb,zZ _<|fG a b c]
def vk(a b:Nat)(c:a<4294967296)(hb:b<4294967296):bits .or .u32 (a:Int) (b:Int)=((a |||b:Nat):Int):=by show IntKind.u32.wrap ((BitVec.ofInt 32 (a:Int)|||BitVec.ofInt 32 (b:Int)).toNat:Int)=_;rw[BitVec.toNat_or,OI a c,OI b hb,zZ _<|KD a b c hb]
def jF(a b:Nat)(c:a<4294967296)(hb:b<4294967296):bits .xor .u32 (a:Int) (b:Int)=((a^^^b:Nat):Int):=by show IntKind.u32.wrap ((BitVec.ofInt 32 (a:Int)^^^BitVec.ofInt 32 (b:Int)).toNat:Int)=_;rw[BitVec.toNat_xor,OI a c,OI b hb,zZ _<|ig a b c hb]
def z6(a:Nat)(b:a<4294967296):bits .xor .u32 4294967295 (a:Int)=((4294967295 - a:Nat):Int):=by show IntKind.u32.wrap ((BitVec.ofInt 32 4294967295^^^BitVec.ofInt 32 (a:Int)).toNat:Int)=_;rw[show BitVec.ofInt 32 4294967295=BitVec.allOnes 32 from Z,BitVec.allOnes_xor,BitVec.toNat_not,OI a b];exact zZ _ O
def mJ(a b:Nat)(c:a<4294967296)(hb:b<4294967296):bits .and .i64 (a:Int) (b:Int)=((a&&&b:Nat):Int):=by have:=fG a b c;show IntKind.i64.wrap ((BitVec.ofInt 64 (a:Int)&&&BitVec.ofInt 64 (b:Int)).toNat:Int)=_;rw[Ra,Uv a O,Uv b O,GD _ O]
def GF(a b:Nat)(c:a<4294967296)(hb:b<4294967296):bits .or .i64 (a:Int) (b:Int)=((a |||b:Nat):Int):=by have:=KD a b c hb;show IntKind.i64.wrap ((BitVec.ofInt 64 (a:Int)|||BitVec.ofInt 64 (b:Int)).toNat:Int)=_;rw[BitVec.toNat_or,Uv a O,Uv b O,GD _ O]
def jG(a b:Nat)(c:a<4294967296)(hb:b<4294967296):bits .xor .i64 (a:Int) (b:Int)=((a^^^b:Nat):Int):=by have:=ig a b c hb;show IntKind.i64.wrap ((BitVec.ofInt 64 (a:Int)^^^BitVec.ofInt 64 (b:Int)).toNat:Int)=_;rw[BitVec.toNat_xor,Uv a O,Uv b O,GD _ O]
def ya(n k:Nat):Nat:=n*2 ^ k%4294967296+n*2 ^ k / 4294967296
def Uw n k(a:k<=32):n*2 ^ k%4294967296=2 ^ k*(n%2 ^ (32 - k))/\n*2 ^ k / 4294967296=n / 2 ^ (32 - k):=by have e:4294967296=2 ^ (32 - k)*2 ^ k:=(by rw[<-Nat.pow_add,show 32 - k+k=32 from O]);constructor;(.rw[e,Nat.mul_mod_mul_right,uR]);rw[e,Nat.mul_div_mul_right _ _<|Nat.two_pow_pos k]
def aas n k(h:n<4294967296)(a:k<=32):n / 2 ^ (32 - k)<2 ^ k:=by rw[SO<|Nat.two_pow_pos _,<-Nat.pow_add,show k+(32 - k)=32 from O];exact h
def aat n k(h:n<4294967296)(a:k<=32):(n*2 ^ k%4294967296)|||(n / 2 ^ (32 - k))=ya n k:=by unfold ya;obtain⟨b,c⟩:=Uw n k a;rw[b,c];exact(Ri (aas n k h a) _).symm
def Rj n k(h:n<4294967296)(a:k<=32):ya n k<4294967296:=by rw[<-aat n k h a];refine KD _ _ (lx _ Z)<|yZ (E0 _ _) h
def tX(n:Nat):Nat:=4294967295 - n
def q8 n:tX n<4294967296:=by unfold tX;omega
def ns(a:Bool)(l:bs)(k:Nat):Nat:=
 if a then (l.getD k 0).toNat+(l.getD (k+1) 0).toNat*256+(l.getD (k+2) 0).toNat*65536+(l.getD (k+3) 0).toNat*16777216
 else (l.getD (k+3) 0).toNat+(l.getD (k+2) 0).toNat*256+(l.getD (k+1) 0).toNat*65536+(l.getD k 0).toNat*16777216
def Rk a l k:ns a l k<4294967296:=by have b:=(l.getD k 0).toNat_lt;have c:=(l.getD (k+1) 0).toNat_lt;have d:=(l.getD (k+2) 0).toNat_lt;have e:=(l.getD (k+3) 0).toNat_lt;unfold ns;split <;> omega
def fT(n:Nat):Nat:=(119 - n%64)%64
def ij(a:Bool)(n:Nat):bs:=
 let l:=[UInt8.ofNat<|n%256,UInt8.ofNat<|n / 256%256,UInt8.ofNat<|n / 65536%256,UInt8.ofNat<|n / 16777216%256,UInt8.ofNat<|n / 4294967296%256,UInt8.ofNat<|n / 1099511627776%256,UInt8.ofNat<|n / 281474976710656%256,UInt8.ofNat<|n / 72057594037927936%256]
 if a then l else l.reverse
def gU a n:(ij a n).length=8:=by cases a <;> rfl
def mw(a:Bool)(l:bs):bs:=l++[128]++List.replicate (fT l.length) 0++ij a (8*l.length)
def pk a l:(mw a l).length%64=0:=by unfold mw;simp only[iG,Rh,gU,iN,qF];unfold fT;omega
structure W4 where
 a:Nat
 b:Nat
 c:Nat
 d:Nat
def W4.ok(v:W4):Prop:=v.a<4294967296/\v.b<4294967296/\v.c<4294967296/\v.d<4294967296
def GG(i x c d:Nat):Nat:=
 if i<16 then (x&&&c)|||(tX x&&&d) else if i<32 then (d&&&x)|||(tX d&&&c) else if i<48 then (x^^^c)^^^d else c^^^(x |||tX d)
def Di(i:Nat):Nat:=if i<16 then i else if i<32 then (5*i+1)%16 else if i<48 then (3*i+5)%16 else 7*i%16
def xj(i:Nat):Nat:=[7,12,17,22,5,9,14,20,4,11,16,23,6,10,15,21].getD (i / 16*4+i%4) 0
def Rl i(h:i<64):xj i<=23:=by have:∀n:Fin 64,xj n.val<=23:=Z;exact this ⟨i,h⟩
def Rm i:Di i<16:=by unfold Di;grind
def afB i x c d(a:x<4294967296)(b:c<4294967296)(e:d<4294967296):GG i x c d<4294967296:=by unfold GG;split;(.exact KD _ _ (fG _ _ a) (fG _ _<|q8 _));split;(.exact KD _ _ (fG _ _ e) (fG _ _<|q8 _));split;(.exact ig _ _ (ig _ _ a b) e);exact ig _ _ b (KD _ _ a<|q8 _)
def xk(S:List Nat)(t:bs)(i:Nat)(v:W4):W4:=
 ⟨v.d,(v.b+ya ((GG i v.b v.c v.d+v.a+S.getD i 0+ns true t (4*Di i))%4294967296) (xj i))%4294967296,v.b,v.c⟩
def sP(S:List Nat)(t:bs)(h:W4):Nat->W4
 |0=>h
 |n+1=>xk S t n<|sP S t h n
def KE(S:List Nat)(t:bs)(h:W4)(a:h.ok):∀n,(sP S t h n).ok
 |0=>a
 |n+1=>by
  obtain⟨d,hb,b,c⟩:=KE S t h a n
  exact⟨c,lx _<|by decide,hb,b⟩
def W4.plus(v u:W4):W4:=⟨(v.a+u.a)%4294967296,(v.b+u.b)%4294967296,(v.c+u.c)%4294967296,(v.d+u.d)%4294967296⟩
def W4.GH(v u:W4):(v.plus u).ok:=⟨lx _ Z,lx _ Z,lx _ Z,lx _ Z⟩
def rC(S:List Nat)(l:bs):Nat->W4
 |0=>⟨0x67452301,0xefcdab89,0x98badcfe,0x10325476⟩
 |k+1=>(rC S l k).plus (sP S (l.drop<|64*k) (rC S l k) 64)
def KF(S:List Nat)(l:bs):∀k,(rC S l k).ok
 |0=>by unfold rC W4.ok;decide
 |_+1=>W4.GH _ _
structure W8 where
 a:Nat
 b:Nat
 c:Nat
 d:Nat
 e:Nat
 f:Nat
 g:Nat
 h:Nat
def W8.ok(v:W8):Prop:=v.a<4294967296/\v.b<4294967296/\v.c<4294967296/\v.d<4294967296/\v.e<4294967296/\v.f<4294967296/\v.g<4294967296/\v.h<4294967296
def dq(n k:Nat):Nat:=ya n<|32 - k
def cn n k(h:n<4294967296):dq n k<4294967296:=Rj n _ h<|Nat.sub_le _ _
def Ux(x:Nat):Nat:=(dq x 7^^^dq x 18)^^^x / 8
def Uy(x:Nat):Nat:=(dq x 17^^^dq x 19)^^^x / 1024
def aau(x:Nat):Nat:=(dq x 6^^^dq x 11)^^^dq x 25
def aav(x:Nat):Nat:=(dq x 2^^^dq x 13)^^^dq x 22
def aaw(e f g:Nat):Nat:=(e&&&f)^^^(tX e&&&g)
def aax(a b c:Nat):Nat:=((a&&&b)^^^(a&&&c))^^^(b&&&c)
def afC x(h:x<4294967296):Ux x<4294967296:=ig _ _ (ig _ _ (cn _ _ h)<|cn _ _ h)<|yZ (E0 _ _) h
def afD x(h:x<4294967296):Uy x<4294967296:=ig _ _ (ig _ _ (cn _ _ h)<|cn _ _ h)<|yZ (E0 _ _) h
def afE x(h:x<4294967296):aau x<4294967296:=ig _ _ (ig _ _ (cn _ _ h)<|cn _ _ h)<|cn _ _ h
def afF x(h:x<4294967296):aav x<4294967296:=ig _ _ (ig _ _ (cn _ _ h)<|cn _ _ h)<|cn _ _ h
def afG e f g(a:e<4294967296):aaw e f g<4294967296:=ig _ _ (fG _ _ a) (fG _ _<|q8 _)
def afH a b c(d:a<4294967296)(hb:b<4294967296):aax a b c<4294967296:=ig _ _ (ig _ _ (fG _ _ d)<|fG _ _ d)<|fG _ _ hb
def iZ(t:bs)(l:List Nat):Nat:=
 if l.length<16 then ns false t (4*l.length)
 else (l.getD (l.length - 16) 0+l.getD (l.length - 7) 0+Ux (l.getD (l.length - 15) 0)+Uy (l.getD (l.length - 2) 0))%4294967296
def B0 t l:iZ t l<4294967296:=by unfold iZ;split;(.exact Rk _ _ _);omega
def cH(t:bs):Nat->List Nat
 |0=>[]
 |n+1=>cH t n++[iZ t<|cH t n]
def lS(t:bs):∀n,(cH t n).length=n
 |0=>rfl
 |n+1=>by simp [cH,lS t n]
def m_(t:bs):∀n,∀x∈cH t n,x<4294967296
 |0,_,h=>by simp [cH] at h
 |n+1,x,h=>by
  simp only[cH,ek,kx] at h
  rcases h with h|rfl
  .exact m_ t n x h
  .exact B0 t _
def lT(l:List Nat)(h:∀x∈l,x<4294967296)i:l.getD i 0<4294967296:=by rw[rz];by_cases a:i<l;(.simp_all);grind
def xl(R w:List Nat)(i:Nat)(v:W8):W8:=
 let p:=v.h+aau v.e+aaw v.e v.f v.g+R.getD i 0+w.getD i 0
 let q:=aav v.a+aax v.a v.b v.c
 ⟨(p+q)%4294967296,v.a,v.b,v.c,(v.d+p)%4294967296,v.e,v.f,v.g⟩
def xm(R w:List Nat)(v:W8):Nat->W8
 |0=>v
 |n+1=>xl R w n<|xm R w v n
def B1(R w:List Nat)(v:W8)(b:v.ok):∀n,(xm R w v n).ok
 |0=>b
 |n+1=>by
  obtain⟨c,hb,d,g,a,e,f,h⟩:=B1 R w v b n
  exact⟨lx _<|by decide,c,hb,d,lx _<|by decide,a,e,f⟩
def W8.plus(v u:W8):W8:=⟨(v.a+u.a)%4294967296,(v.b+u.b)%4294967296,(v.c+u.c)%4294967296,(v.d+u.d)%4294967296,(v.e+u.e)%4294967296,(v.f+u.f)%4294967296,(v.g+u.g)%4294967296,(v.h+u.h)%4294967296⟩
def W8.GH(v u:W8):(v.plus u).ok:=⟨lx _ Z,lx _ Z,lx _ Z,lx _ Z,lx _ Z,lx _ Z,lx _ Z,lx _ Z⟩
def rH(R:List Nat)(v:W8)(l:bs):Nat->W8
 |0=>v
 |k+1=>(rH R v l k).plus (xm R (cH (l.drop<|64*k) 64) (rH R v l k) 64)
def KG(R:List Nat)(v:W8)(a:v.ok)(l:bs):∀k,(rH R v l k).ok
 |0=>a
 |_+1=>W8.GH _ _
end Go.Proofs.YtkdneaemikbhkaaGreatDoor
namespace Go.Proofs.YtkdneaemikbhkaaGreatDoor
open _root_.Go.Proofs.Tryz Go.RowKit Go.Deep
def OJ(n:Nat)(a:n<4294967296)(w:tW):cL 306 #[n] w<|rV (mI (tX n:Nat)) w:=by go_enter func306,ntmps306;go_wp2;go_ret;exact⟨s9<|by unfold tX;omega,rfl⟩
def aay(n k:Nat)(l:n<4294967296)(r:k<=31)(w:tW):cL 308 #[n,k] w<|rV (mI (ya n k:Nat)) w:=by go_enter func308,ntmps308;go_wp2;go_loop [5,7] (λp i=>∃j q:Nat,j<=k/\i=mI j/\p=mI q/\Hid (q=2 ^ j)/\q<=2147483648) (λ_ i=>k - (intOf i).toNat);(.exact⟨0,1,bt _,I,I,J I,Z⟩);obtain⟨j,q,s,rfl,rfl,hq,hb⟩:=hrel;by_cases g:j<k;(.have d:q*2<=2147483648:=(by have t:=hq.out;have u:2 ^ (j+1)<=2 ^ 31:=EW Z O;omega);go_wp2;refine vU ?_;exact⟨j+1,q*2,O,cJ,cJ,J<|by rw[hq.out,sM],d⟩);have a:j=k:=O;have b:n*q<=4294967295*2147483648:=wL O hb;have e:(n:Int)*(q:Int)=((n*q:Nat):Int):=bT;have f:=J (show ya n k=n*q%4294967296+n*q / 4294967296 by unfold ya;rw[<-a,<-hq.out]);clear a;obtain⟨m,c⟩:∃m,m=n*q:=⟨_,I⟩;rw[<-c] at f b e;clear c;go_wp2;go_ret;exact⟨s9<|by rw[f.out];omega,rfl⟩
def pO(n k:Nat)(b:n<4294967296)(d:1<=k)(c:k<=32)(w:tW):cL 305 #[n,k] w<|rV (mI (ya n (32 - k):Nat)) w:=by have a:=aay n (32 - k) b O w;rw[show((32 - k:Nat):Int)=32 - (k:Int) from O] at a;go_enter func305,ntmps305;go_wp2_with fail;apply a.Q;exact IA
end Go.Proofs.YtkdneaemikbhkaaGreatDoor
namespace Go.Proofs.YtkdneaemikbhkaaGreatDoor
open _root_.Go.Proofs.Tryz Go.RowKit Go.Deep
def GI x y i(h:x<2 ^ i):x |||y*2 ^ i=x+y*2 ^ i:=by rw[Nat.or_comm,uR,<-Ri h];omega
def E1(a b c d:Nat)(e:a<256)(hb:b<256)(f:c<256)(g:d<256):bits .or .u32 (bits .or .u32 (bits .or .u32 ((a:Int)%4294967296)<|(b:Int)%4294967296*256%4294967296)<|(c:Int)%4294967296*65536%4294967296) ((d:Int)%4294967296*16777216%4294967296)=((a+b*256+c*65536+d*16777216:Nat):Int):=by rw[show(a:Int)%4294967296=((a:Nat):Int) from O,show(b:Int)%4294967296*256%4294967296=((b*2 ^ 8:Nat):Int) from O,show(c:Int)%4294967296*65536%4294967296=((c*2 ^ 16:Nat):Int) from O,show(d:Int)%4294967296*16777216%4294967296=((d*2 ^ 24:Nat):Int) from O];rw[vk _ _ O O,GI a b 8 O,vk _ _ O O,GI _ c 16 O,vk _ _ O O,GI _ d 24 O]
def tE(s:F)k(h:k<s.size):s.data.toList.getD k 0=s[k]:=by have hl:k<s.data.toList:=I3;rw[rz,j7 hl,b8 s k h hl];rfl
def Uz(s:F)(a:4<=s.size)w:cL 328 #[s,true] w λe w'=>e=.returned (.int .u32 (ns true s 0:Nat))/\∃m,w'=w.drewN m:=by refine aaz ?_;intro i0 afI afJ i3 j1 j2 j3;have iO:=J<|E1 s[0].toNat s[1].toNat s[2].toNat s[3].toNat s[0].toNat_lt s[1].toNat_lt s[2].toNat_lt s[3].toNat_lt;exact aaA
def UA(s:F)(a:4<=s.size)w:cL 328 #[s,false] w λe w'=>e=.returned (.int .u32 (ns false s 0:Nat))/\∃m,w'=w.drewN m:=by refine aaz ?_;intro i0 afI afJ i3 j1 j2 j3;have iO:=J<|E1 s[3].toNat s[2].toNat s[1].toNat s[0].toNat s[3].toNat_lt s[2].toNat_lt s[1].toNat_lt s[0].toNat_lt;exact aaA
end Go.Proofs.YtkdneaemikbhkaaGreatDoor
namespace Go.Proofs.YtkdneaemikbhkaaGreatDoor
open _root_.Go.Proofs.Tryz Go.RowKit Go.Deep
def ak6(k:Nat)(a:k<=31):bits .and .u64 (k:Int) 31=(k:Int):=by have:∀n:Fin 32,bits .and .u64 ((n.val:Nat):Int) 31=((n.val:Nat):Int):=Z;exact this ⟨k,O⟩
def KH(n k:Nat)(a:n<4294967296)(d:k<=31):bits .or .u32 ((n:Int)*2 ^ k%4294967296) ((n:Int) / 2 ^ (32 - k))=((ya n k:Nat):Int):=by have b:(n:Int)*2 ^ k%4294967296=((n*2 ^ k%4294967296:Nat):Int):=gA;have c:(n:Int) / 2 ^ (32 - k)=((n / 2 ^ (32 - k):Nat):Int):=gA;rw[b,c,vk _ _ (lx _ Z)<|yZ (E0 _ _) a,aat n k a O]
def afK(n k:Nat)(b:n<4294967296)(a:k<=31)(w:tW):cL 329 #[.int .u32 n,k] w<|rV (.int .u32 (ya n k:Nat)) w:=by have c:=ak6 k a;go_enter func329,ntmps329;go_wp2;go_ret;refine⟨s9 ?_,I⟩;rw[KH n k b a]
end Go.Proofs.YtkdneaemikbhkaaGreatDoor
namespace Go.Proofs.YtkdneaemikbhkaaGreatDoor
open _root_.Go.Proofs.Tryz Go.RowKit Go.Deep
def fi:List Nat:=match (Rows.laid_gatepost_api_Sines:DataW Unit) with
 |.agg l=>l.map λx=>match x with
  |.lit (.int _ z)=>z.toNat
  |_=>0
 |_=>[]
def yb:List Nat:=[7,12,17,22,5,9,14,20,4,11,16,23,6,10,15,21]
def UB:(Rows.laid_gatepost_api_Sines:DataW Unit)=Lib.tabData .u32 (fi.map λ(n:Nat)=>(n:Int)):=by kernel_rfl
def UC:(Rows.laid_gatepost_sum_turns:DataW Unit)=Lib.tabData .i64 (yb.map λ(n:Nat)=>(n:Int)):=by kernel_rfl
def B2:fi.length=64:=by kernel_rfl
def B3:yb.length=16:=rfl
def tF(l:List Nat)(i:Nat)(h:i<l.length):(l.map λ(n:Nat)=>(n:Int)).getD i 0=((l.getD i 0:Nat):Int):=by rw[List.getD_eq_getElem?_getD,List.getElem?_map,List.getD_eq_getElem?_getD,List.getElem?_eq_getElem h];rfl
structure MdT (w:tW):Prop where
 Rn:∀i,i<64->w.cell? (U 3 i)=some (.int .u32 (fi.getD i 0:Nat))
 turns:∀i,i<16->w.cell? (U 5 i)=ev (yb.getD i 0:Nat)
def MdT.later{w w'}(h:MdT w)(hb:Y w w'):MdT w':=
 ⟨λi a=>(hb.cell (rR w _<|h.Rn i a)).trans<|h.Rn i a,λi a=>(hb.cell (rR w _<|h.turns i a)).trans<|h.turns i a⟩
end Go.Proofs.YtkdneaemikbhkaaGreatDoor
namespace Go.Proofs.YtkdneaemikbhkaaGreatDoor
open _root_.Go.Proofs.Tryz Go.RowKit Go.Deep
def aaB w:(Instr.makeSlice 172 (mI 8)<|mI 8).run prog w=.ok (.slice (fJ w) 8 8) (w.alloc<|.cells #[.int .u8 0,.int .u8 0,.int .u8 0,.int .u8 0,.int .u8 0,.int .u8 0,.int .u8 0,.int .u8 0] 5):=dU
def eB(n k:Nat):Nat:=n / 2 ^ (8*k)%256
def vK(n k i:Nat):tV:=.int .u8 (if i<k then (eB n i:Nat) else (0:Int))
def pP(n k:Nat):gr:=#[vK n k 0,vK n k 1,vK n k 2,vK n k 3,vK n k 4,vK n k 5,vK n k 6,vK n k 7]
def z7 n k i(hi:i<8):(pP n k)[i]?=some (vK n k i):=ai4
def KI n k(a:k<8):(pP n k).setIfInBounds k (.int .u8 (eB n k:Nat))=pP n (k+1):=by match k,a with|0,_ =>simp [pP,vK]|1,_ =>simp [pP,vK]|2,_ =>simp [pP,vK]|3,_ =>simp [pP,vK]|4,_ =>simp [pP,vK]|5,_ =>simp [pP,vK]|6,_ =>simp [pP,vK]|7,_ =>simp [pP,vK]
def KJ n j(hj:j<(ij true n).length):(ij true n)[j].toNat=eB n j:=ak7
def vM(n k i:Nat):tV:=.int .u8 (if i<k then (eB n (7 - i):Nat) else (0:Int))
def vl(n k:Nat):gr:=#[vM n k 0,vM n k 1,vM n k 2,vM n k 3,vM n k 4,vM n k 5,vM n k 6,vM n k 7]
def Ro n k i(hi:i<8):(vl n k)[i]?=some (vM n k i):=ai4
def aaC n k(a:k<8):(vl n k).setIfInBounds k (.int .u8 (eB n (7 - k):Nat))=vl n (k+1):=by match k,a with|0,_ =>simp [vl,vM]|1,_ =>simp [vl,vM]|2,_ =>simp [vl,vM]|3,_ =>simp [vl,vM]|4,_ =>simp [vl,vM]|5,_ =>simp [vl,vM]|6,_ =>simp [vl,vM]|7,_ =>simp [vl,vM]
def E2 n j(hj:j<(ij false n).length):(ij false n)[j].toNat=eB n (7 - j):=ak7
end Go.Proofs.YtkdneaemikbhkaaGreatDoor
namespace Go.Proofs.YtkdneaemikbhkaaGreatDoor
open _root_.Go.Proofs.Tryz Go.RowKit Go.Deep
def cy(a:Bool)(n:Nat):bs:=
 if a then [UInt8.ofNat<|n%256,UInt8.ofNat<|n / 256%256,UInt8.ofNat<|n / 65536%256,UInt8.ofNat<|n / 16777216%256]
 else [UInt8.ofNat<|n / 16777216%256,UInt8.ofNat<|n / 65536%256,UInt8.ofNat<|n / 256%256,UInt8.ofNat<|n%256]
def uz a n:(cy a n).length=4:=by cases a <;> rfl
def dm(a:Bool)(n:Nat):bs:=
 let s:=du 16 n 8
 if a then s.drop 6++(s.drop 4).take 2++(s.drop 2).take 2++s.take 2 else s
def aaD n(h:n<4294967296):du 16 n 8=[bZ<|n / 16777216%256 / 16,bZ<|n / 16777216%256%16,bZ<|n / 65536%256 / 16,bZ<|n / 65536%256%16,bZ<|n / 256%256 / 16,bZ<|n / 256%256%16,bZ<|n%256 / 16,bZ<|n%256%16]:=by simp only[du];rw[show n / 16 ^ 7%16=n / 16777216%256 / 16 from O,show n / 16 ^ 6%16=n / 16777216%256%16 from O,show n / 16 ^ 5%16=n / 65536%256 / 16 from O,show n / 16 ^ 4%16=n / 65536%256%16 from O,show n / 16 ^ 3%16=n / 256%256 / 16 from O,show n / 16 ^ 2%16=n / 256%256%16 from O,show n / 16 ^ 1%16=n%256 / 16 from O,show n / 16 ^ 0%16=n%256%16 from O]
def OK a n(h:n<4294967296):q7 (cy a n)=dm a n:=by unfold dm;rw[aaD n h];cases a <;> simp [cy,q7,aal]
def ak8 n(h:n<4294967296):l9 16 n 8=du 16 n 8:=yV Z Z O
def KL a b:q7 (a++b)=q7 a++q7 b:=by simp [q7]
end Go.Proofs.YtkdneaemikbhkaaGreatDoor
namespace Go.Proofs.YtkdneaemikbhkaaGreatDoor
open _root_.Go.Proofs.Tryz Go.RowKit Go.Deep
def q9(g:Nat->Nat):Nat->Nat
 |0=>0
 |j+1=>q9 g j*256+g j
def Rp g(a:∀i,g i<256)j(h:j<=4):q9 g j<=4294967295:=by have b:=a 0;have c:=a 1;have d:=a 2;have e:=a 3;(match j,h with|0,_ =>simp [q9]|1,_ =>simp only[q9];omega|2,_ =>simp only[q9];omega|3,_ =>simp only[q9];omega|4,_ =>simp only[q9];omega)
def OL B o a E(b:Nat->Nat)(hb:∀i,b i<256)w(hl:4<=a)(hc:∀i,i<4->w.cell? ⟨B,o+i,none⟩=some (.int .u8 (b i:Nat))):cL 304 #[.slice (vC B o) a E,true] w (rV (mI (q9 (λj=>b<|3 - j) 4:Nat)) w):=by go_enter func304,ntmps304;go_wp2;go_loop [5,6,7,8] (λc _ _ i=>∃j q:Nat,j<=4/\i=mI j/\c=mI q/\Hid (q=q9 (λj=>b<|3 - j) j)/\q<=4294967295) (λ_ _ _ i=>4 - (intOf i).toNat);(.exact⟨0,0,bt _,I,I,J I,Z⟩);obtain⟨j,q,n,rfl,rfl,hq,d⟩:=hrel;by_cases e:j<4;(.have c1:=hc j e;have c2:=hc (3 - j) O;have f:=hb<|3 - j;have g:=hb j;have l:(3 - (j:Int)).toNat=3 - j:=O;have m:=Rp (λj=>b<|3 - j) (λi=>hb<|3 - i) (j+1) O;have HH:q*256+b (3 - j)<=4294967295:=(by have:q9 (λj=>b<|3 - j) (j+1)=q*256+b (3 - j):=(by rw[hq.out];rfl);omega);have NM:=J (show q*256+b (3 - j)=q9 (λj=>b<|3 - j) (j+1) by rw[hq.out];rfl);clear m;generalize b (3 - j)=y at c2 f HH NM;generalize b j=x at c1 g;exact aaE);exact aaF
def OM B o a E b(hb:∀i,b i<256)w(hl:4<=a)(hc:∀i,i<4->w.cell? ⟨B,o+i,none⟩=some (.int .u8 (b i:Nat))):cL 304 #[.slice (vC B o) a E,false] w<|rV (mI (q9 b 4:Nat)) w:=by go_enter func304,ntmps304;go_wp2;go_loop [5,6,7,8] (λc _ _ i=>∃j q:Nat,j<=4/\i=mI j/\c=mI q/\Hid (q=q9 b j)/\q<=4294967295) (λ_ _ _ i=>4 - (intOf i).toNat);(.exact⟨0,0,bt _,I,I,J I,Z⟩);obtain⟨j,q,l,rfl,rfl,hq,d⟩:=hrel;by_cases e:j<4;(.have c1:=hc j e;have f:=hb j;have g:=Rp (b) hb (j+1) O;have HH:q*256+b j<=4294967295:=(by have:q9 b (j+1)=q*256+b j:=(by rw[hq.out];rfl);omega);have NM:=J (show q*256+b j=q9 b (j+1) by rw[hq.out];rfl);clear g;generalize b j=y at c1 f HH NM;exact aaE);exact aaF
def UD l k:q9 (λj=>(l.getD (k+(3 - j)) 0).toNat) 4=ns true l k:=by simp only[q9,ns];simp;omega
def ON l k:q9 (λj=>(l.getD (k+j) 0).toNat) 4=ns false l k:=by simp only[q9,ns];simp;omega
end Go.Proofs.YtkdneaemikbhkaaGreatDoor
namespace Go.Proofs.YtkdneaemikbhkaaGreatDoor
open _root_.Go.Proofs.Tryz Go.RowKit Go.Deep
def qw(a:Bool)(n:Nat)(g:n<4294967296)(w:tW)(i:Dh w):cL 307 #[n,a] w<|dx (.string ⟨(dm a n).toArray⟩) w:=by have b:=Ur n 8 O Z w i;rw[ak8 n g,show((8:Nat):Int)=8 from I] at b;have d:=J (show dm a n=(if a then (du 16 n 8).drop 6++((du 16 n 8).drop 4).take 2++((du 16 n 8).drop 2).take 2++(du 16 n 8).take 2 else du 16 n 8) from I);have hl:(du 16 n 8).length=8:=(by rw[aaD n g];rfl);generalize du 16 n 8=T at b d hl;generalize dm a n=D at d ⊢;obtain⟨S,f⟩:∃S:F,S=⟨T.toArray⟩:=⟨_,I⟩;have j:S.size=8:=(by rw[f];show T.toArray.size=8;simpa using hl);have c:Hid<|S.data.toList=T:=J (by rw[f]);rw[<-f] at b;clear f hl i g;have g1:(6:Int)<=8:=Z;cases a;(.go_enter func307,ntmps307;go_wp2_with fail;apply b.Q;rintro e k ⟨rfl,h⟩;go_wp2;go_ret;exact⟨dO<|by apply E3;rw[d.out,<-c.out];simp,h⟩);go_enter func307,ntmps307;go_wp2_with fail;apply b.Q;rintro e k ⟨rfl,h⟩;have l:(S.extract 6 8).size=2:=GJ;have m:(S.extract 4 6).size=2:=GJ;have o:(S.extract 2 4).size=2:=GJ;have p:(S.extract 0 2).size=2:=GJ;have q:=λw'=>iQ (P:=prog) w' (S.extract 6 8) (S.extract 4 6) O;have a2:=λw'=>iQ (P:=prog) w' (S.extract 6 8++S.extract 4 6) (S.extract 2 4) (by rw[VG];omega);have a3:=λw'=>iQ (P:=prog) w' (S.extract 6 8++S.extract 4 6++S.extract 2 4) (S.extract 0 2) (by rw[VG,VG];omega);go_wp2;go_region;go_wp2;go_ret;refine⟨dO ?_,h.drew⟩;apply E3;rw[d.out,<-c.out];simp [List.extract];exact Ae (by rw[fX,<-an];omega)
end Go.Proofs.YtkdneaemikbhkaaGreatDoor
namespace Go.Proofs.YtkdneaemikbhkaaGreatDoor
open _root_.Go.Proofs.Tryz Go.RowKit Go.Deep
def fu:List Nat:=match (Rows.laid_gatepost_api_Roots:DataW Unit) with
 |.agg l=>l.map λx=>match x with
  |.lit (.int _ z)=>z.toNat
  |_=>0
 |_=>[]
def lU:List Nat:=[0x6a09e667,0xbb67ae85,0x3c6ef372,0xa54ff53a,0x510e527f,0x9b05688c,0x1f83d9ab,0x5be0cd19]
def UE:(Rows.laid_gatepost_api_Roots:DataW Unit)=Lib.tabData .u32 (fu.map λ(n:Nat)=>(n:Int)):=by kernel_rfl
def UF:(Rows.laid_gatepost_api_Begin:DataW Unit)=Lib.tabData .u32 (lU.map λ(n:Nat)=>(n:Int)):=by kernel_rfl
def B4:fu.length=64:=by kernel_rfl
def B5:lU.length=8:=rfl
def OO:fu.all (λn=>decide (n<4294967296))=true:=dU
def UG i:fu.getD i 0<4294967296:=lT _ (λx a=>by have:=pC.1 OO x a;simpa using this) i
def vm:W8:=⟨0x6a09e667,0xbb67ae85,0x3c6ef372,0xa54ff53a,0x510e527f,0x9b05688c,0x1f83d9ab,0x5be0cd19⟩
def Rq:vm.ok:=by unfold vm W8.ok;decide
structure KM (w:tW):Prop where
 roots:∀i,i<64->w.cell? (U 2 i)=some (.int .u32 (fu.getD i 0:Nat))
 pQ:∀i,i<8->w.cell? (U 1 i)=some (.int .u32 (lU.getD i 0:Nat))
def KM.later{w w'}(h:KM w)(hb:Y w w'):KM w':=
 ⟨λi a=>(hb.cell (rR w _<|h.roots i a)).trans<|h.roots i a,λi a=>(hb.cell (rR w _<|h.pQ i a)).trans<|h.pQ i a⟩
def amx(k:Nat)(a:1<=k)(b:k<=31):bits .and .u64 (IntKind.u64.wrap<|-(k:Int)) 31=((32 - k:Nat):Int):=by have:∀n:Fin 32,1<=n.val->bits .and .u64 (IntKind.u64.wrap<|-((n.val:Nat):Int)) 31=((32 - n.val:Nat):Int):=Z;exact this ⟨k,O⟩ a
def aaG(n k:Nat)(b:n<4294967296)(c:1<=k)(a:k<=31)w:cL 329 #[.int .u32 n,mI<|-(k:Int)] w<|rV (.int .u32 (dq n k:Nat)) w:=by have hb:=amx k c a;have d:=KH n (32 - k) b O;unfold dq;go_enter func329,ntmps329;exact pY
end Go.Proofs.YtkdneaemikbhkaaGreatDoor
namespace Go.Proofs.YtkdneaemikbhkaaGreatDoor
open _root_.Go.Proofs.Tryz Go.RowKit Go.Deep
def lV:gr->Nat->qD->gr
 |a,_,[]=>a
 |a,k,v::r=>lV (a.setIfInBounds k v) (k+1) r
def uA:∀(b:qD) (a:gr) (k:Nat),(lV a k b).size=a.size
 |[],_,_=>rfl
 |_::r,a,k=>by unfold lV;rw[uA r];simp
def uB:∀(b:qD) (a:gr) (k:Nat),k+b.length<=a.size->(lV a k b).toList.take (k+b.length)=a.toList.take k++b
 |[],a,k,_=>by simp [lV]
 |v::r,a,k,h=>by
  simp only[iN] at h
  unfold lV
  rw[show k+(v::r).length=k+1+r.length by simp only[iN];omega,uB r _ (k+1)<|by simp;omega]
  have e:(a.setIfInBounds k v).toList.take (k+1)=a.toList.take k++[v]:=by
   rw[adE,gW<|by simp;omega,List.take_set_of_le lJ]
   simp
  rw[e]
  simp
def ak9(a:Nat×Nat)(b c:Nat):Prop:=∀j,b<=j->j<c->¬(a.1<=j/\j<a.2)
def xn(P:Program)(g o:Nat)(t:TypeId)(c:Nat×Nat):∀(m:qD) (i:Nat) (a:gr) (w:tW),w.heap[g]?=some (.cells a t c)->ak9 c (o+i) a.size->o+i+m.length<=a.size->(∀v∈m,v.oneCell'=true)->
  (storeCells (U g o) m i).run P w=.ok () (w.setRow g<|lV a (o+i) m)
 |[],i,a,w,d,_,_,_=>by
  show Result.ok () w=_
  rw[show lV a (o+i) []=a from I,setRow_self w g a t c d]
 |v::r,i,a,w,d,e,hl,q=>by
  simp only[iN] at hl
  have s:o+i<a.size:=by omega
  have f:((U g o):Addr).add i=⟨g,o+i,none⟩:=by unfold Addr.add;split <;> simp_all
  have b:w.cell? ⟨g,o+i,none⟩=some a[o+i]:=by simp [World.cell?,d,s]
  have k:w.frozen? ⟨g,o+i,none⟩=false:=by
   have:=e (o+i) lJ s
   obtain⟨u,n⟩:=c
   simp only[World.frozen?,d]
   by_cases l:u<=o+i
   .have:¬(o+i<n):=λh=>this ⟨l,h⟩
    simp [this]
   .simp [l]
  have p:(store (((U g o):Addr).add i) v).run P w=.ok () (w.setRow g<|a.setIfInBounds (o+i) v):=by
   rw[f,run_store P w _ v _ (q v<|by simp),b]
   simp [k,setCell_eq_setRow w g (o+i) a t c v d]
  have ih:=xn P g o t c r (i+1) (a.setIfInBounds (o+i) v) (w.setRow g<|a.setIfInBounds (o+i) v) (setRow_heap w g a _ t _ d)
   (λj B y=>e j (by omega)<|by simpa using y) (by simp;omega) (λx z=>q x<|by simp [z])
  simp only[storeCells,HU,p,HV,ih,setRow_setRow]
  rfl
def lX(w:tW)(af:Nat)(v:tV)(l:bs):Prop:=
 ∃g E a b,v=.slice (fJ g) l.length E/\af<=g/\w.heap[g]?=some (.cells a 5 b)/\ak9 b l.length E/\l.length<=E/\E<=maxLen/\a.size=E/\a.toList.take l.length=l.map bv
section
variable {w w' : World} {af : Nat} {v : Value} {l : List UInt8}
def lX.kept{a}(h:lX w af v l)(e:w.grownBy w' a)(d:v.ownBlock≠a):lX w' af v l:=by obtain⟨g,E,b,f,rfl,hb,c,rest⟩:=h;exact⟨g,E,b,f,I,hb,(e.block g (uO.1 c).1<|by simpa [Value.ownBlock] using d).trans c,rest⟩
def lX.later(h:lX w af v l)(hb:Y w w'):lX w' af v l:=by obtain⟨g,E,a,d,rfl,c,b,rest⟩:=h;exact⟨g,E,a,d,I,c,(hb.block g (uO.1 b).1).trans b,rest⟩
def lX.alloc(h:lX w af v l)o:lX (w.alloc o) af v l:=h.later<|(aL _ _).alloc lJ _
def lX.lt(h:lX w af v l):∀k,v.ownBlock=some k->af<=k/\k<w.heap.size:=by obtain⟨g,E,a,e,rfl,b,c,rest⟩:=h;intro k d;simp [Value.ownBlock] at d;grind
def lX.shape(h:lX w af v l):∃g E,v=.slice (some ⟨g,0,none⟩) l.length E/\g<w.heap.size/\l.length<=E/\af<=g/\∀j (d:j<l.length),w.cell? ⟨g,j,none⟩=some (bv l[j]):=by obtain⟨g,E,a,k,rfl,e,c,m,f,n,o,b⟩:=h;refine⟨g,E,rfl,(Array.getElem?_eq_some_iff.1 c).1,f,e,λj d=>?_⟩;rw[cell_of_row w g j a _ k c];have i:(a.toList.take l)[j]?=(l.map bv)[j]?:=(by rw[b]);rw[List.getElem?_take,if_pos d,List.getElem?_map,List.getElem?_eq_getElem d] at i;simpa using i
end
def ai5(l:bs):∀u∈l.map bv,u.oneCell'=true:=ahJ
def lX.made(w:tW)af E s(hb:af<=w.heap.size)(c:s.size<=E)(b:E<=maxLen):lX (w.drew.alloc<|.cells (bytesRow s E) 5 ((bytesRow s E).size,(bytesRow s E).size+1)) af (.slice (fJ w) s.size E) s:=by have d:(bytesRow s E).size=E:=(by unfold bytesRow;simp_all);have hl:s.data.toList=s.size:=I;refine⟨w,E,bytesRow s E,_,by rw[hl],hb,xA w.drew _,?_,by rw[hl];exact c,b,d,?_⟩;(.intro j _ e f;omega);unfold bytesRow;rw[Array.toList_append,List.take_left' bT];simp;exact λa _=>rfl
def GK w af p v l(q:lX w af v l)a c b(m:∀j u,(b.map bv)[j]?=some u->w.cell? (a.add j)=some u)(hl:l.length+b.length<=140737488355328)(r:af<=w.heap.size):∃M w',(Builtin.append_ #[172,172] p #[v,.slice (some a) b.length c]).run prog w=.ok M w'/\lX w' af M (l++b)/\w.grownBy w' v.ownBlock:=by obtain⟨i0,N,C,f,D⟩:=ni vz;have ad:140737488355328<=maxLen:=l3;have n:(b.map bv).length=b.length:=bT;have hq:(l++b).length=l.length+b.length:=iG;have s:=q;obtain⟨g,E,i,R,rfl,G,x,y,aD,H,o,t⟩:=q;by_cases d:l.length+b.length<=E;(.have S:=run_firstCells_some (P:=prog) w i0.size b a b c (b.map bv) (by rw[f];simp) m;have z:=xn prog g l 5 R (b.map bv) 0 i w x (by rw[o];simpa using y) (by rw[n,o];simpa using d)<|ai5 b;simp only[Ad] at z;refine⟨.slice (fJ g) (l.length+b.length) E,w.setRow g (lV i l<|b.map bv),?_,⟨g,E,_,R,by rw[hq],G,setRow_heap w g i _ _ _ x,?_,by rw[hq];exact d,H,by rw[uA];exact o,?_⟩,⟨I,I,I,bT,λk _ K=>setRow_other w g k _ (λe=>K<|by simp [Value.ownBlock,e])⟩⟩;(.rw[f] at S;simp [Builtin.append_,run_underlying underlying172,sizeOf,typeInfo,N,f,Builtin.lenOf,d,S,Addr.add_lit,z]);(.rw[hq];exact λj h1 h2=>y j O h2);rw[hq,show l.length+b.length=l.length+(b.map bv).length by rw[n],uB _ _ _<|by rw[n,o];exact d,t,je]);have holds:∀j u,(l.map bv)[j]?=some u->w.cell? (((U g 0):Addr).add j)=some u:=(by intro j u T;have W:((U g 0):Addr).add j=(U g j):=y9;obtain⟨g',ab,hv,_,_,_,hc⟩:=s.shape;grind);have hr:=run_append_grow (P:=prog) w 172 p 5 i0 (.int .u8 0) underlying172 N C (U g 0) l.length E (l.map bv) (by rw[f];simp) holds a b c (b.map bv) (by rw[f];simp) m O O (by rw[D];exact growslice_fits O O);have L:=grownCap_ge w (l.length+b.length) E 5;have B:grownCap w (l.length+b.length) E 5<=maxLen:=Rr w (l.length+b.length) E _ O;refine⟨_,_,hr,⟨w,grownCap w (l.length+b.length) E 5,_,(0,0),by rw[hq],r,xA w.drew _,λj _ _ h=>by simp at h,by rw[hq];exact L,B,?_,?_⟩,⟨I,I,I,bT,λk K _=>adD w.drew _ k K⟩⟩;(.have f:(Value.int IntKind.u8 0).cells.size=1:=I;simp only[Array.size_append,KN,size_zeroCells,f,ct];omega);grind
def jk{d}{rest}{o}{a}{Q}(m:o.guard=none)s x(ho:o.op=.call {callee:=.builtin .append,args:=#[s,x],argTypes:=#[172,172]})w af v l(hs:a.eval s=v)(g:lX w af v l)ad c b n(p:n=b.length)(hx:a.eval x=.slice (some ad) n c)(e:∀j u,(b.map bv)[j]?=some u->w.cell? (ad.add j)=some u)(hl:l.length+b.length<=140737488355328)(f:af<=w.heap.size)(h:∀i w',lX w' af i (l++b)->w.grownBy w' v.ownBlock->wpList prog d Q rest (a.put o.dst i) w'):wpList prog d Q (o::rest) a w:=by subst p;refine HT m λK q=>?_;obtain⟨i,w',hr,r,t⟩:=GK w af o.type v l g ad c b e hl f;refine aaH ?_;exact q _ _<|h i w' r t
def nH{e}{rest}{o}{a}{d}(g:o.guard=none)s x(ho:o.op=.call {callee:=.builtin .append,args:=#[s,x],argTypes:=#[172,172]})w b af(i:b=w.heap.size)v l(m:a.eval s=v)(f:lX w af v l)c n(p:n=(c.toNat:Int))(q:a.eval x=.slice (fJ b) 1 1)(hl:l.length+1<=140737488355328)(j:af<=w.heap.size)(h:∀k w',lX w' af k (l++[c])->(w.alloc<|.cells #[.int .u8 n] 5).grownBy w' v.ownBlock->wpList prog e d rest (a.put o.dst k) w'):wpList prog e d (o::rest) a (w.alloc<|.cells #[.int .u8 n] 5):=by subst p i;exact jk g s x ho _ af v l m (f.alloc _) (U w 0) 1 [c] 1 I q (Fw _ _ _) hl fK h
def uC{af}{a w w'}{o}{v}{l}(b:Below af a w)(c:lX w af v l)(d:(w.alloc o).grownBy w' v.ownBlock)(hb:af<=w.heap.size):Below af a w':=
 (b.alloc hb o).grown d (by simp;omega) (λk e=>(c.lt k e).1)
end Go.Proofs.YtkdneaemikbhkaaGreatDoor
namespace Go.Proofs.YtkdneaemikbhkaaGreatDoor
open _root_.Go.Proofs.Tryz Go.RowKit Go.Deep
def Rs:(prog.info? 3).map (λi=>(i.zero,i.size,i.bytes))=some (some<|.int .i64 0,1,8):=dU
def iv(n:Nat):tV:=mI (n:Int)
def i'(w:tW)(b:Nat)(l:List Nat):Prop:=∃a,w.heap[b]?=some (.cells a 3 (0,0))/\l.length<=a.size/\a.toList.take l.length=l.map iv
section
variable {w w' : World} {b : Nat} {l : List Nat}
def i'.lt(h:i' w b l):b<w.heap.size:=by obtain⟨a,c,_⟩:=h;grind
def i'.cell(h:i' w b l)i(c:i<l.length):w.cell? (U b i)=ev (l.getD i 0:Nat):=by obtain⟨a,e,g,f⟩:=h;rw[Mv w b i a _ _ e];have d:(a.toList.take l)[i]?=(l.map iv)[i]?:=(by rw[f]);rw[SC,a' c,CJ,j7 c] at d;rw[rz,j7 c];simpa [iv] using d
def i'.free(h:i' w b l)i:w.frozen? (U b i)=false:=by obtain⟨a,c,_⟩:=h;exact VX c i
def i'.later(h:i' w b l)(hb:Y w w'):i' w' b l:=by obtain⟨a,c,d⟩:=h;exact⟨a,(hb.block b (uO.1 c).1).trans c,d⟩
def i'.kept{a}(h:i' w b l)(g:w.grownBy w' a)(d:a≠some b):i' w' b l:=by obtain⟨c,f,i⟩:=h;exact⟨c,(g.block b (uO.1 f).1 λe=>d e.symm).trans f,i⟩
def i'.drewN(h:i' w b l)n:i' (w.drewN n) b l:=h
def i'.drew(h:i' w b l):i' w.drew b l:=h
def i'.kO(h:i' w b l)a v(d:a.block≠b):i' (w.setCell a v) b l:=by obtain⟨c,f,g⟩:=h;exact⟨c,(VY w a v b λe=>d e.symm).trans f,g⟩
def i'.set(h:i' w b l)i x:i' (w.setCell (U b i)<|mI (x:Nat)) b<|l.set i x:=by obtain⟨a,c,d,e⟩:=h;refine⟨a.setIfInBounds i<|iv x,?_,by simpa using d,?_⟩;(.simp [World.setCell,adC,c,iv]);rw[SR,adE,List.take_set,e,EZ]
end
def i'.news{w}{b}{l}(h:i' w b l)k:∀j u,((l.take k).map iv)[j]?=some u->w.cell? (((U b 0):Addr).add j)=some u:=by intro j u a;have d:j<(l.take k).length:=gA;have c:j<l:=(by rw[ou] at d;omega);have e:((U b 0):Addr).add j=(U b j):=y9;rw[e,h.cell j c];rw[CJ,j7 d,Wg] at a;rw[rz,j7 c];simpa [iv] using a
def lY(w:tW)(af:Nat)(v:tV)(l:List Nat):Prop:=w.ownsRow af 3 1 v l.length<|l.map iv
def lY.nil w af:lY w af (bN) []:=VW w af _ _
def lY.later{w w'}{af}{v}{l}(h:lY w af v l)(hb:Y w w'):lY w' af v l:=j6 h hb
def lY.row{w}{af}{v}{l}(h:lY w af v l)(j:l≠[]):∃b E,v=.slice (fJ b) l.length E/\af<=b/\i' w b l/\l.length<=E/\E<=maxLen:=by obtain⟨k,d⟩:=h;rcases d with⟨rfl,m⟩|⟨g,E,a,rfl,hb,e,f,c,n,i⟩;(.grind);exact⟨g,E,I,hb,⟨a,e,O,by simpa using i⟩,f,c⟩
def lY.one(w:tW)af x(hb:af<=w.heap.size):lY (w.alloc<|.cells #[mI (x:Nat)] 3) af (.slice (fJ w) 1 1) [x]:=
 ⟨I,.inr ⟨w.heap.size,1,#[iv x],I,hb,xA w _,gK _,by decide,I,I⟩⟩
def aaI(l:List Nat):∀u∈l.map iv,u.oneCell'=true:=ahJ
def kX{e}{rest}{o}{a}{b}(p:o.guard=none)s x(ho:o.op=.call {callee:=.builtin .append,args:=#[s,x],argTypes:=#[324,324]})w af v l(z:a.eval s=v)(k:lY w af v l)ad c d n(B:n=d.length)(C:a.eval x=.slice (some ad) n c)(f:∀j u,(d.map iv)[j]?=some u->w.cell? (ad.add j)=some u)(hl:(l.length+d.length)*8<=140737488355328)(g:af<=w.heap.size)(h:∀m w',lY w' af m (l++d)->w.grownBy w' v.ownBlock->wpList prog e b rest (a.put o.dst m) w'):wpList prog e b (o::rest) a w:=by obtain⟨i0,D,q,r,t⟩:=ni Rs;subst B;refine vA _ p s x 324 ho af 3 i0 (mI 0) 1 8 underlying324 D q r t I Z v _ _ z k ad d c (d.map iv) C bT f (aaI d) l3 hl g ?_;intro m w' y i _;refine h m w' ?_ i;unfold lY;grind
def aaJ(w:tW)x:∀j u,(([x]:List Nat).map iv)[j]?=some u->(w.alloc<|.cells #[mI (x:Nat)] 3).cell? (((U w 0):Addr).add j)=some u:=
 Fw w (mI (x:Nat)) 3
def pn{e}{rest}{o}{a}{d}(g:o.guard=none)s x(ho:o.op=.call {callee:=.builtin .append,args:=#[s,x],argTypes:=#[324,324]})w b af(i:b=w.heap.size)v l(m:a.eval s=v)(f:lY w af v l)(c:Nat)n(p:n=(c:Int))(q:a.eval x=.slice (fJ b) 1 1)(hl:(l.length+1)*8<=140737488355328)(j:af<=w.heap.size)(h:∀k w',lY w' af k (l++[c])->(w.alloc<|.cells #[n] 3).grownBy w' v.ownBlock->wpList prog e d rest (a.put o.dst k) w'):wpList prog e d (o::rest) a (w.alloc<|.cells #[n] 3):=by subst p i;exact kX g s x ho _ af v l m (j6 f<|(aL _ _).alloc lJ _) (U w 0) 1 [c] 1 I q (aaJ w c) hl fK h
def zq w af f g E l(r:lY w af (.slice (fJ g) l.length E) l)a c x(h:∀j u,(([x]:List Nat).map iv)[j]?=some u->w.cell? (a.add j)=some u)(hl:(l.length+1)*8<=140737488355328)(p:af<=w.heap.size):∃R w',(Builtin.append_ #[324,324] f #[.slice (fJ g) l.length E,.slice (some a) 1 c]).run prog w=.ok R w'/\lY w' af R (l++[x])/\w.grownBy w' (some g)/\i' w' g l:=by obtain⟨i0,S,C,i,D⟩:=ni Rs;have ab:140737488355328<=maxLen:=l3;have hq:(l++[x]).length=l.length+1:=bT;obtain⟨_,h2⟩:=r;rcases h2 with⟨G,_⟩|⟨g',T,b,G,H,q,ad,K,s,m⟩;(.cases G);cases G;rw[Ey] at s m;by_cases d:l.length+1<=E;(.have B:=run_append_room (P:=prog) w 324 f 3 i0 underlying324 S g l E b q a 1 c (([x]:List Nat).map iv) (by rw[i];rfl) h (aaI [x]) d (by rw[i,s];simpa using d);rw[i,Ey] at B;have hset:=setRow_heap w g b (b.toList.take l.length++([x]:List Nat).map iv++b.toList.drop (l.length+(([x]:List Nat).map iv).length)).toArray 3 (0,0) q;have t:(b.toList.take l.length++([x]:List Nat).map iv++b.toList.drop (l.length+(([x]:List Nat).map iv).length)).toArray.size=E:=gA;refine⟨_,_,B,⟨bT,.inr ⟨g,E,_,by rw[hq],H,hset,by rw[hq];exact d,K,by rw[t,Ey],?_⟩⟩,⟨I,I,I,bT,λk _ L=>setRow_other w g k _ (λe=>L<|by rw[e])⟩,⟨_,hset,by rw[t];omega,?_⟩⟩;(.grind);grind);have n:i' w g l:=⟨b,q,O,m⟩;have holds:∀j u,(l.map iv)[j]?=some u->w.cell? (((U g 0):Addr).add j)=some u:=(by intro j u o;have M:j<l.length:=gA;have v:((U g 0):Addr).add j=(U g j):=y9;rw[v,n.cell j M];rw[CJ,j7 M] at o;rw[rz,j7 M];simpa [iv] using o);have B:=run_append_grow (P:=prog) w 324 f 3 i0 (mI 0) underlying324 S C (U g 0) l.length E (l.map iv) (by rw[i];simp) holds a 1 c (([x]:List Nat).map iv) (by rw[i];rfl) h O O (by rw[D];exact growslice_fits O hl);have N:=grownCap_ge w (l.length+1) E 3;have y:grownCap w (l.length+1) E 3<=maxLen:=Rr w (l.length+1) E _ O;have W:=n.lt;refine⟨_,_,B,⟨bT,.inr ⟨w,grownCap w (l.length+1) E 3,_,by rw[hq],p,xA w.drew _,by rw[hq];exact N,y,?_,?_⟩⟩,⟨I,I,I,bT,λk L _=>adD w.drew _ k L⟩,n.later<|((aL _ _).drew).alloc lJ _⟩;(.have z:(Value.int IntKind.i64 0).cells.size=1:=I;simp only[Array.size_append,KN,size_zeroCells,z,ct,iN,qF];omega);grind
def yc{l6}{o}{a}{K}{Q}{b:Prop}(Hq:o.guard=none)s x(ho:o.op=.call {callee:=.builtin .append,args:=#[s,x],argTypes:=#[324,324]})w af g E n l(m:n=l.length)(hs:a.eval s=.slice (fJ g) n E)(f:lY w af (.slice (fJ g) l.length E) l)ad c y(hx:a.eval x=.slice (some ad) 1 c)(d:∀j u,(([y]:List Nat).map iv)[j]?=some u->w.cell? (ad.add j)=some u)(hl:(l.length+1)*8<=140737488355328)(e:af<=w.heap.size)(h:∀i w',lY w' af i (l++[y])->w.grownBy w' (some g)->i' w' g l->K (a.put o.dst i) w'):if Region.wanted o (yielded l6 a.tmps)=true then Oper.wp prog o a w K Q else b:=by subst m;refine Fx ?_;intro iO;obtain⟨i,w',hr,p,q,r⟩:=zq w af o.type g E l f ad c y d hl e;refine aaH ?_;exact h i w' p q r
end Go.Proofs.YtkdneaemikbhkaaGreatDoor
