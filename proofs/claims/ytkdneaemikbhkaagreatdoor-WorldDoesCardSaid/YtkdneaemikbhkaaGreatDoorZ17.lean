import Derived.Test.YtkdneaemikbhkaaGreatDoorZ05
set_option linter.all false
set_option maxRecDepth 100000
set_option maxHeartbeats 40000000
namespace Go.Proofs.YtkdneaemikbhkaaGreatDoor
open _root_.Go.Proofs.Tryz Go.RowKit Go.Deep
def bZ(d:Nat):UInt8:=if d<10 then UInt8.ofNat (48+d) else UInt8.ofNat (87+d)
def du(b n:Nat):Nat->bs
 |0=>[]
 |m+1=>bZ (n / b ^ m%b)::du b n m
def fS(b n:Nat):∀m,(du b n m).length=m
 |0=>rfl
 |m+1=>by simp [du,fS b n m]
def xg(n b k:Nat):n / b ^ (k+1)=n / b ^ k / b:=by rw[sM,Kt]
def sN(b:Nat):Nat->Nat->Nat
 |0,_=>1
 |f+1,n=>if n<b then 1 else sN b f (n / b)+1
def kg(b n:Nat):Nat:=sN b 64 n
def Ku(b:Nat):∀(f n k:Nat),k<f->n / b ^ k<b->(∀j,j<k->b<=n / b ^ j)->sN b f n=k+1
 |0,_,_,h,_,_=>by omega
 |f+1,n,0,_,h,_=>by simp only[Nat.pow_zero,Nat.div_one] at h;simp [sN,h]
 |f+1,n,k+1,e,h,a=>by
  have c:=a 0 (by omega)
  simp only[Nat.pow_zero,Nat.div_one] at c
  unfold sN
  rw[if_neg<|by omega]
  congr 1
  refine Ku b f (n / b) k (by omega) ?_ ?_
  .rw[Kt,uR,<-sM];exact h
  .intro j d
   have:=a (j+1) (by omega)
   rw[Kt,uR,<-sM];exact this
def Q9 b n k(a:k<64)(h:n / b ^ k<b)(c:∀j,j<k->b<=n / b ^ j):kg b n=k+1:=Ku b 64 n k a h c
def xh(b:Nat):∀(f n:Nat),sN b f n<=f+1
 |0,_=>gK _
 |f+1,n=>by
  have:=xh b f (n / b)
  unfold sN;split <;> omega
def yU(b:Nat)(hb:2<=b):∀(f n m:Nat),1<=m->n<b ^ m->sN b f n<=m
 |0,_,_,a,_=>a
 |f+1,n,m,a,h=>by
  unfold sN;split
  .exact a
  .rename_i c
   match m,a with
   |1,_=>simp at h;omega
   |m+2,_ =>
    have:=yU b hb f (n / b) (m+1) (by omega) ((SO<|by omega).2<|by rw[<-sM];exact h)
    omega
def OG{b n m}(hb:2<=b)(a:1<=m)(h:n<b ^ m):kg b n<=m:=yU b hb 64 n m a h
def Kv(b:Nat)(hb:2<=b):∀(f n:Nat),n<b ^ (f+1)->n<b ^ sN b f n
 |0,n,h=>h
 |f+1,n,h=>by
  unfold sN;split
  .simpa
  .have:=Kv b hb f (n / b) ((SO<|by omega).2<|by rw[<-sM];exact h)
   rw[sM]
   exact(SO<|by omega).1 this
def Q'{b n}(hb:2<=b)(h:n<b ^ 65):n<b ^ kg b n:=Kv b hb 64 n h
def EV{b n m}(h:n<b ^ m):du b n (m+1)=48::du b n m:=by have e:bZ (n / b ^ m%b)=48:=(by rw[Nat.div_eq_of_lt h,Nat.zero_mod];rfl);simp only[du];rw[e]
def BX{b n m:Nat}(hb:2<=b)(h:n<b ^ m):∀j,du b n (m+j)=List.replicate j 48++du b n m
 |0=>rfl
 |j+1=>by
  have:n<b ^ (m+j):=eP h (EW (by omega)<|by omega)
  rw[<-Nat.add_assoc,EV this,BX hb h j];rfl
def qt(b n:Nat):bs:=du b n<|kg b n
def l9(b n least:Nat):bs:=du b n<|max (kg b n) least
def yV{b n m}(hb:2<=b)(a:1<=m)(h:n<b ^ m):l9 b n m=du b n m:=by unfold l9;rw[Nat.max_eq_right<|OG hb a h]
def rM(b n k:Nat):bs:=List.replicate (65 - k) 0++du b n k
def yW b n k(h:k<=65):(rM b n k).length=65:=by simp [rM,fS];omega
def Up b n:rM b n 0=List.replicate 65 0:=by simp [rM,du]
def tD b n k(h:k<65):rM b n (k+1)=(rM b n k).set (64 - k) (bZ<|n / b ^ k%b):=by unfold rM;rw[List.set_append_left _ _ fK];obtain⟨j,f,rfl⟩:∃j,j<=64/\k=64 - j:=⟨64 - k,O,O⟩;have e:(List.replicate (65 - (64 - j)) (0:UInt8)).set (64 - (64 - j)) (bZ<|n / b ^ (64 - j)%b)=List.replicate (65 - (64 - j+1)) 0++[bZ<|n / b ^ (64 - j)%b]:=(by have a:65 - (64 - j)=j+1:=O;have c:64 - (64 - j)=j:=O;have d:65 - (64 - j+1)=j:=O;rw[a,c,d,Q_,List.set_append_right _ _ bT];simp);rw[e];simp [du]
def EX b n k:(rM b n k).drop (65 - k)=du b n k:=by unfold rM;rw[Z9 bT];simp
end Go.Proofs.YtkdneaemikbhkaaGreatDoor
namespace Go.Proofs.YtkdneaemikbhkaaGreatDoor
open _root_.Go.Proofs.Tryz Go.RowKit Go.Deep
def EY(a:Nat)(b:a<18446744073709551616):(BitVec.ofInt 64 (a:Int)).toNat=a:=gA
def yX(a b:Nat)(c:a<18446744073709551616)(hb:b<18446744073709551616):bits .and .u64 (a:Int) (b:Int)=((a&&&b:Nat):Int):=by have d:a&&&b<2 ^ 64:=Nat.and_lt_two_pow _ O;show IntKind.u64.wrap ((BitVec.ofInt 64 (a:Int)&&&BitVec.ofInt 64 (b:Int)).toNat:Int)=_;rw[Ra,EY a c,EY b hb];exact IntWalk.u64_in _ ⟨O,O⟩
def aiY(a:Nat)(b:a<18446744073709551616):bits .and .u64 (a:Int) 15=((a%16:Nat):Int):=by have:=yX a 15 b Z;rw[show(15:Nat)=2 ^ 4 - 1 from I,Z'] at this;exact this
def ak4(a:Nat)(b:a<18446744073709551616):bits .and .u64 (a:Int) 1=((a%2:Nat):Int):=by have:=yX a 1 b Z;grind
def Rb{b n}:((rM b n 0).map bv).toArray=Tryz.zeroCells373:=by rw[Up];kernel_rfl
def Rc d(h:d<36):(⟨#[48,49,50,51,52,53,54,55,56,57,97,98,99,100,101,102,103,104,105,106,107,108,109,110,111,112,113,114,115,116,117,118,119,120,121,122]⟩:F)[d]'h=bZ d:=by have:∀x:Fin 36,(⟨#[48,49,50,51,52,53,54,55,56,57,97,98,99,100,101,102,103,104,105,106,107,108,109,110,111,112,113,114,115,116,117,118,119,120,121,122]⟩:F)[x.val]'x.isLt=bZ x.val:=jN;exact this ⟨d,h⟩
def vi{b n k}(hb:2<=b)(c:n<18446744073709551616)(h:b<=n / b ^ k):k<=62:=by have d:=(Nat.le_div_iff_mul_le<|Nat.pow_pos O).1 h;have e:2 ^ (k+1)<=b*b ^ k:=(by rw[sM,uR];exact wL hb<|Nat.pow_le_pow_left hb k);have a:2 ^ (k+1)<2 ^ 64:=O;have:=(Nat.pow_lt_pow_iff_right O).1 a;omega
def yY{b n k}(hb:2<=b)(a:n<18446744073709551616)(h:∀x,x<k->b<=n / b ^ x):k<=63:=by by_cases c:k=0;(.omega);have:=vi hb a<|h (k - 1) O;omega
def afw(B j:Nat)(h:j<65)w:(Instr.sliceAt 373 (bR B) (ev (j:Int)) none none).run prog w=.ok (.slice (vC B j) (65 - j)<|65 - j) w:=by have a:prog.arrayLen 373=65:=dU;have b:∀w,(sizeOf<|prog.elem 373).run prog w=.ok 1 w:=λw=>dU;rw[run_sliceAt_array_l w 373 (U B 0) dU .i64 (j:Int) O<|by rw[a];omega,b];simp only[Result.andThen,slicedAt,a,HP,Ey];rw[aY O];have:((U B 0):Addr).add j=(U B j):=y9;rw[this]
structure Dh (w:tW):Prop where
 one:w.cell? (U 12 1)=some (.int .u8 1)
 four:w.cell? (U 12 15)=some (.int .u8 4)
def Dh.later{w w'}(h:Dh w)(hb:Y w w'):Dh w':=
 ⟨(hb.cell<|rR w _ h.one).trans h.one,(hb.cell<|rR w _ h.four).trans h.four⟩
def Z_ w(a:Dh w):cL 352 #[.int .u64 16] w<|rV (mI 4) w:=by have b:=a.four;clear a;have d:bits BinOp.and IntKind.u64 16 (IntKind.u64.wrap<|-16)=16:=dU;have c:cL 366 #[.int .u64 16] w<|rV (mI 4) w:=(by go_enter func366,ntmps366;exact pY);exact aaa
def afx w:cL 351 #[mI 16] w<|rV (.bool true) w:=by go_enter func351,ntmps351;exact pY
def OH(n:Nat)(l:n<18446744073709551616)w(p:Dh w):cL 312 #[bN,.int .u64 n,mI 16,false,false] w<|dx (.tuple #[bN,.string ⟨(qt 16 n).toArray⟩]) w:=by go_enter func312,ntmps312;go_wp2_with (first|(go_at_call 351;apply(afx _).Q;rintro e w' ⟨rfl,rfl⟩)|(go_at_call 352;apply(Z_ _ (p.later<|(aL _ _).alloc lJ _)).Q;rintro e w' ⟨rfl,rfl⟩));have a:Y w (w.alloc<|Obj.cells Tryz.zeroCells373 373):=(aL _ _).alloc lJ _;have c:A (w.alloc<|Obj.cells Tryz.zeroCells373 373) w ((rM 16 n 0).map bv).toArray 373:=(by rw[Rb];exact A.new _ _ _);go_loopw [1,13] (λu i wr=>∃(m k j:Nat),j+k=64/\m<18446744073709551616/\u=.int .u64 m/\i=mI (j+1:Nat)/\Hid (m=n / 16 ^ k)/\Hid (∀x,x<k->16<=n / 16 ^ x)/\A wr w ((rM 16 n k).map bv).toArray 373/\Y w wr) (λ_ i _=>(intOf i).toNat);(.exact⟨n,0,64,I,l,I,I,J bT,J (λx hx=>absurd hx<|tJ x),c,a⟩);obtain⟨m,k,j,z,d,rfl,rfl,cF,x9,hb,hB⟩:=hrel;clear c a p;obtain⟨v0,B⟩:∃v,wr.cell? (U w j)=some v:=(by have hj:j<((rM 16 n k).map bv).length:=(by rw[ct,yW 16 n k O];omega);exact aab);have C:=hb.free j;by_cases h:16<=m;(.have hand:=aiY m d;have f:m%16<16:=lx _ Z;have q:=vi (b:=16) Z l (by rw[<-cF.out];exact h);go_wp2;go_roundw;(case rel =>refine⟨m / 16,k+1,j - 1,O,O,cJ,by rw[show j - 1+1=j from O],J<|by rw[cF.out,xg],J ?_,?_,hB.setCell lJ _⟩;(.exact aac);have e:(j,(⟨#[48,49,50,51,52,53,54,55,56,57,97,98,99,100,101,102,103,104,105,106,107,108,109,110,111,112,113,114,115,116,117,118,119,120,121,122]⟩:F)[m%16]'(eP f Z))=(64 - k,bZ<|n / 16 ^ k%16):=(by rw[Rc (m%16) O,cF.out,show j=64 - k from O]);have r:=oX Prod.fst e;have s:=oX Prod.snd e;simp only at r s;rw[s,r,tD 16 n k O,EZ];have t:=hb.set (64 - k) (bv (bZ<|n / 16 ^ k%16));rw[Kw] at t;exact t);case measure=>simp [intOf]);have o:m<16:=O;have aiZ:=Rc m O;have y:=yY (b:=16) Z l x9.out;have D:∀w',(Instr.sliceAt 373 (bR w) (ev (j:Int)) none none).run prog w'=.ok (.slice (vC w j) (du 16 n<|k+1).length (du 16 n<|k+1).length) w':=(by exact aad);have Kx:=hb.set j (bv (bZ<|n / 16 ^ k%16));rw[Kw,<-EZ,show j=64 - k from O,<-tD 16 n k O,show 64 - k=j from O] at Kx;have g:Hid<|n / 16 ^ k%16=m:=(by rw[<-cF.out];exact J<|Nat.mod_eq_of_lt o);rw[g.out] at Kx;have aae:=λE=>HG (P:=prog) (wr.setCell (U w j) (bv<|bZ m)) 172 9 5 (U w j) E (du 16 n<|k+1) underlying172 underlying5 underlying9 (λx hx=>by have:((U w j):Addr).add x=⟨w,j+x,none⟩:=y9;rw[this];refine Kx.cell (j+x) ?_;rw[Ji,CJ];have e:(rM 16 n<|k+1)[j+x]?=(du 16 n<|k+1)[x]?:=(by rw[<-EX 16 n (k+1),Ky,show 65 - (k+1)+x=j+x from O]);rw[e,j7 hx];rfl);have ak5:Hid<|qt 16 n=du 16 n (k+1):=J (by unfold qt;rw[Q9 16 n k O (by rw[<-cF.out];omega) x9.out]);exact aaf
def q6(n:Nat)(b:n<9223372036854775808)(w:tW)(a:Dh w):cL 192 #[n,mI 16] w<|dx (.string ⟨(qt 16 n).toArray⟩) w:=by have c:cL 262 #[n,mI 16] w<|dx (.string ⟨(qt 16 n).toArray⟩) w:=(by go_enter func262,ntmps262;go_wp2_with fail;apply(OH n O w a).Q;exact Es);exact aag
def afy w(a:Dh w):cL 352 #[.int .u64 2] w<|rV (mI 1) w:=by have b:=a.one;clear a;have d:bits BinOp.and IntKind.u64 2 (IntKind.u64.wrap<|-2)=2:=dU;have c:cL 366 #[.int .u64 2] w<|rV (mI 1) w:=(by go_enter func366,ntmps366;exact pY);exact aaa
def ai0 w:cL 351 #[mI 2] w<|rV (.bool true) w:=by go_enter func351,ntmps351;exact pY
def Uq(n:Nat)(l:n<18446744073709551616)w(p:Dh w):cL 312 #[bN,.int .u64 n,mI 2,false,false] w<|dx (.tuple #[bN,.string ⟨(qt 2 n).toArray⟩]) w:=by go_enter func312,ntmps312;go_wp2_with (first|(go_at_call 351;apply(ai0 _).Q;rintro e w' ⟨rfl,rfl⟩)|(go_at_call 352;apply(afy _ (p.later<|(aL _ _).alloc lJ _)).Q;rintro e w' ⟨rfl,rfl⟩));have a:Y w (w.alloc<|Obj.cells Tryz.zeroCells373 373):=(aL _ _).alloc lJ _;have c:A (w.alloc<|Obj.cells Tryz.zeroCells373 373) w ((rM 2 n 0).map bv).toArray 373:=(by rw[Rb];exact A.new _ _ _);go_loopw [1,13] (λu i wr=>∃(m k j:Nat),j+k=64/\m<18446744073709551616/\u=.int .u64 m/\i=mI (j+1:Nat)/\Hid (m=n / 2 ^ k)/\Hid (∀x,x<k->2<=n / 2 ^ x)/\A wr w ((rM 2 n k).map bv).toArray 373/\Y w wr) (λ_ i _=>(intOf i).toNat);(.exact⟨n,0,64,I,l,I,I,J bT,J (λx hx=>absurd hx<|tJ x),c,a⟩);obtain⟨m,k,j,z,d,rfl,rfl,cF,x9,hb,hB⟩:=hrel;clear c a p;obtain⟨v0,B⟩:∃v,wr.cell? (U w j)=some v:=(by have hj:j<((rM 2 n k).map bv).length:=(by rw[ct,yW 2 n k O];omega);exact aab);have C:=hb.free j;by_cases h:2<=m;(.have hand:=ak4 m d;have f:m%2<2:=lx _ Z;have q:=vi (b:=2) Z l (by rw[<-cF.out];exact h);go_wp2;go_roundw;(case rel =>refine⟨m / 2,k+1,j - 1,O,O,cJ,by rw[show j - 1+1=j from O],J<|by rw[cF.out,xg],J ?_,?_,hB.setCell lJ _⟩;(.exact aac);have e:(j,(⟨#[48,49,50,51,52,53,54,55,56,57,97,98,99,100,101,102,103,104,105,106,107,108,109,110,111,112,113,114,115,116,117,118,119,120,121,122]⟩:F)[m%2]'(eP f Z))=(64 - k,bZ<|n / 2 ^ k%2):=(by rw[Rc (m%2) O,cF.out,show j=64 - k from O]);have r:=oX Prod.fst e;have s:=oX Prod.snd e;simp only at r s;rw[s,r,tD 2 n k O,EZ];have t:=hb.set (64 - k) (bv (bZ<|n / 2 ^ k%2));rw[Kw] at t;exact t);case measure=>simp [intOf]);have o:m<2:=O;have aiZ:=Rc m O;have y:=yY (b:=2) Z l x9.out;have D:∀w',(Instr.sliceAt 373 (bR w) (ev (j:Int)) none none).run prog w'=.ok (.slice (vC w j) (du 2 n<|k+1).length (du 2 n<|k+1).length) w':=(by exact aad);have Kx:=hb.set j (bv (bZ<|n / 2 ^ k%2));rw[Kw,<-EZ,show j=64 - k from O,<-tD 2 n k O,show 64 - k=j from O] at Kx;have g:Hid<|n / 2 ^ k%2=m:=(by rw[<-cF.out];exact J<|Nat.mod_eq_of_lt o);rw[g.out] at Kx;have aae:=λE=>HG (P:=prog) (wr.setCell (U w j) (bv<|bZ m)) 172 9 5 (U w j) E (du 2 n<|k+1) underlying172 underlying5 underlying9 (λx hx=>by have:((U w j):Addr).add x=⟨w,j+x,none⟩:=y9;rw[this];refine Kx.cell (j+x) ?_;rw[Ji,CJ];have e:(rM 2 n<|k+1)[j+x]?=(du 2 n<|k+1)[x]?:=(by rw[<-EX 2 n (k+1),Ky,show 65 - (k+1)+x=j+x from O]);rw[e,j7 hx];rfl);have ak5:Hid<|qt 2 n=du 2 n (k+1):=J (by unfold qt;rw[Q9 2 n k O (by rw[<-cF.out];omega) x9.out]);exact aaf
def Kz(n:Nat)(b:n<9223372036854775808)(w:tW)(a:Dh w):cL 192 #[n,mI 2] w<|dx (.string ⟨(qt 2 n).toArray⟩) w:=by have c:cL 262 #[n,mI 2] w<|dx (.string ⟨(qt 2 n).toArray⟩) w:=(by go_enter func262,ntmps262;go_wp2_with fail;apply(Uq n O w a).Q;exact Es);exact aag
end Go.Proofs.YtkdneaemikbhkaaGreatDoor
namespace Go.Proofs.YtkdneaemikbhkaaGreatDoor
open _root_.Go.Proofs.Tryz Go.RowKit Go.Deep
def Ur(n L:Nat)(hn:n<9223372036854775808)(i:L<=1000)(w:tW)(d:Dh w):cL 188 #[n,mI 16,L] w<|dx (.string ⟨(l9 16 n L).toArray⟩) w:=by refine Re ?_;intro cY;go_enter func188,ntmps188;go_wp2_with fail;apply(q6 n hn w d).Q;rintro e j ⟨rfl,a⟩;refine aah ?_;intro S0 aai hd';clear cY;go_wp2;go_loopg [7] (L - kg 16 n) (λg s wr=>∃(S:F) (m:Nat),g=L - m/\s=.string S/\Hid (S.data.toList=du 16 n m)/\kg 16 n<=m/\(m<=kg 16 n\/m<=L)/\Y w wr);(.exact⟨S0,kg 16 n,I,I,aai,gK _,.inl lJ,a⟩);obtain⟨S,m,rfl,rfl,hS,jI,f,c⟩:=hrel;refine Rf ?_;intro AH zM;by_cases h:S.size<L;(.refine Rg ?_;intro JH;go_wp2;go_roundg (L - (m+1));(case rel=>exact⟨_,m+1,I,I,J ai1,O,.inr O,c⟩);case measure=>omega);go_wp2;go_ret;exact⟨dO (o3<|by rw[hS.out];unfold l9;rw[show max (kg 16 n) L=m from O]),c⟩
def aaj(n L:Nat)(i:n<9223372036854775808)(q:L<=1000)(w:tW)(l:Dh w):cL 188 #[n,mI 2,L] w<|dx (.string ⟨(l9 2 n L).toArray⟩) w:=by have a:=Q' (b:=2) (n:=n) Z<|eP i Z;go_enter func188,ntmps188;go_wp2_with fail;apply(Kz n i w l).Q;rintro e r ⟨rfl,f⟩;unfold qt;obtain⟨d,hS0⟩:∃d:F,d=⟨(du 2 n<|kg 2 n).toArray⟩:=⟨_,I⟩;rw[<-hS0];have c:Hid<|d.data.toList=du 2 n (kg 2 n):=aak;clear hS0;have hd':=J a;clear a;go_wp2;go_loopg [7] (L - kg 2 n) (λg s wr=>∃(S:F) (m:Nat),g=L - m/\s=.string S/\Hid (S.data.toList=du 2 n m)/\kg 2 n<=m/\(m<=kg 2 n\/m<=L)/\Y w wr);(.exact⟨d,kg 2 n,I,I,c,gK _,.inl lJ,f⟩);obtain⟨S,m,rfl,rfl,hS,jI,p,j⟩:=hrel;refine Rf ?_;intro AH zM;by_cases h:S.size<L;(.refine Rg ?_;intro JH;go_wp2;go_roundg (L - (m+1));(case rel=>exact⟨_,m+1,I,I,J ai1,O,.inr O,j⟩);case measure=>omega);go_wp2;go_ret;exact⟨dO (o3<|by rw[hS.out];unfold l9;rw[show max (kg 2 n) L=m from O]),j⟩
def aal(c:UInt8):bs:=[bZ<|c.toNat / 16,bZ<|c.toNat%16]
def q7(l:bs):bs:=l.flatMap aal
def KA l:(q7 l).length=2*l.length:=by (induction l with|nil =>rfl|cons c l ih =>simp only[q7,Af,iG,iN] at *;rw[ih];simp [aal];omega)
def Us(l:bs)k(h:k<l.length):q7 (l.take<|k+1)=q7 (l.take k)++aal l[k]:=by unfold q7;exact P5
def Ut(c:UInt8):bits .and .u8 (c.toNat:Int) 15=((c.toNat%16:Nat):Int):=by have h:∀n:Fin 256,bits .and .u8 (n.val:Int) 15=((n.val%16:Nat):Int):=jN;exact h ⟨c.toNat,c.toNat_lt⟩
def ahH d(h:d<16):(⟨#[48,49,50,51,52,53,54,55,56,57,97,98,99,100,101,102]⟩:F)[d]'h=bZ d:=by have:∀x:Fin 16,(⟨#[48,49,50,51,52,53,54,55,56,57,97,98,99,100,101,102]⟩:F)[x.val]'x.isLt=bZ x.val:=jN;exact this ⟨d,h⟩
def lQ l c:Lib.byteCells (l++[c])=Lib.byteCells l++[.int .u8 (c.toNat:Int)]:=by simp [Lib.byteCells]
def uy l:(Lib.byteCells l).length=l.length:=by simp [Lib.byteCells]
def Uu(s:F)w(v:s.size<=1099511627776):cL 358 #[s] w<|dx (.string ⟨(q7 s).toArray⟩) w:=by have b:=zI.new w w lJ;have f:=(aL w w).alloc lJ<|.cells #[.pointer none,bN] 212;go_enter func358,ntmps358;go_wp2;go_loopw [7] (λi wr=>∃(k:Nat),k<=s.size/\i=mI k/\zI w w (Lib.byteCells (q7<|s.data.toList.take k)) wr/\Y w wr) (λi _=>s.size - (intOf i).toNat);(.exact⟨0,bt _,I,b,f⟩);obtain⟨k,x,rfl,m,l⟩:=hrel;clear b f;by_cases cY:k<s.size;(.refine yz ?_;intro hl;have t:(Lib.byteCells (q7<|s.data.toList.take k)).length<=2*k:=(by rw[uy,KA];simp;omega);have a:=J<|Us s k hl;rw[b8 s k cY hl] at a;have n:(s[k].toNat:Int)<256:=Pt;have hand:=Ut s[k];have g:s[k].toNat%16<16:=lx _ Z;go_wp2_with fail;apply(xG _ _ _ _ _ m O l.size).Q;rintro e u ⟨rfl,p,d⟩;have c:=l.trans d;go_wp2_with fail;apply(xG _ _ _ _ _ (.inr p) fK c.size).Q;rintro e y ⟨rfl,q,r⟩;have j:=c.trans r;go_wp2;refine bM ?_;refine⟨k+1,O,cJ,?_,j⟩;refine .inr ?_;rw[a.out,aal,show q7 (s.data.toList.take k)++[bZ<|s[k].toNat / 16,bZ<|s[k].toNat%16]=(q7 (s.data.toList.take k)++[bZ<|s[k].toNat / 16])++[bZ<|s[k].toNat%16] by simp,lQ,lQ,<-ahH (s[k].toNat / 16) O,<-ahH (s[k].toNat%16) g];exact q);obtain rfl:s.size=k:=O;rw[show s.data.toList.take s.size=s.data.toList from Yv] at m;go_wp2_with fail;apply(Tryz.Builder_String_any _ _ _ _ m l.size).Q;rintro e u ⟨rfl,d⟩;go_wp2;go_ret;exact⟨I,l.trans d⟩
end Go.Proofs.YtkdneaemikbhkaaGreatDoor
namespace Go.Proofs.YtkdneaemikbhkaaGreatDoor
open _root_.Go.Proofs.Tryz Go.RowKit Go.Deep
def KB(n:Nat)(hn:n<9223372036854775808)(w:tW)(d:Dh w):cL 97 #[n] w<|dx (.string ⟨(l9 16 n 8).toArray⟩) w:=by refine Re ?_;intro cY;have f:kg 16 n<=65:=xh 16 64 n;go_enter func97,ntmps97;go_wp2_with fail;apply(q6 n hn w d).Q;rintro e j ⟨rfl,a⟩;refine aah ?_;intro S0 aai hd';clear cY;go_wp2;go_loopg [3] (8 - kg 16 n) (λg s wr=>∃(S:F) (m:Nat),g=8 - m/\s=.string S/\Hid (S.data.toList=du 16 n m)/\kg 16 n<=m/\(m<=kg 16 n\/m<=8)/\Y w wr);(.exact⟨S0,kg 16 n,I,I,aai,gK _,.inl lJ,a⟩);obtain⟨S,m,rfl,rfl,hS,jI,i,c⟩:=hrel;refine Rf ?_;intro AH zM;by_cases h:S.size<8;(.refine Rg ?_;intro JH;go_wp2;go_roundg (8 - (m+1));(case rel=>exact⟨_,m+1,I,I,J ai1,O,.inr O,c⟩);case measure=>omega);go_wp2;go_ret;exact⟨dO (o3<|by rw[hS.out];unfold l9;rw[show max (kg 16 n) 8=m from O]),c⟩
def xi c:Lib.repeatL [48] c=List.replicate c 48:=by (induction c with|zero =>rfl|succ c ih =>simp [Lib.repeatL,List.replicate_succ] at ih ⊢;try exact ih)
def BY(n:Nat)(hn:n<9223372036854775808)(w:tW)(v:Dh w):cL 142 #[n] w<|dx (.string ⟨(l9 16 n 8).toArray⟩) w:=by refine Re ?_;intro cY;have g:kg 16 n<=65:=xh 16 64 n;have f:=q6 n hn w v;unfold qt at f;obtain⟨S,hS0⟩:∃S:F,S=⟨(du 16 n<|kg 16 n).toArray⟩:=⟨_,I⟩;rw[<-hS0] at f;have i:Hid<|S.data.toList=du 16 n (kg 16 n):=aak;clear hS0;have j:=J cY;clear cY;have a:Hid<|S.size=kg 16 n:=J (by rw[an,i.out,fS]);have x:S.size<=65:=(by rw[a.out];exact g);by_cases y:S.size<8;(.obtain⟨c,q⟩:∃c,c+S.size=8:=⟨8 - S.size,O⟩;have r:(8:Int) - (S.size:Int)=(c:Int):=O;have l:=J q;clear q;go_enter func142,ntmps142;go_wp2_with fail;apply f.Q;rintro e m ⟨rfl,d⟩;go_wp2_with fail;apply(Tryz.strings_Repeat ⟨#[48]⟩ c m O aam).Q;rintro e s ⟨rfl,p⟩;have t:=iQ (P:=prog) s ⟨(Lib.repeatL (⟨#[48]⟩:F).data.toList c).toArray⟩ S (by rw[nh,show(⟨#[48]⟩:F).data.toList=[48] from I,xi,Rh];omega);go_wp2;go_ret;refine⟨dO<|o3 ?_,d.aD p⟩;rw[cu,bD,i.out,xi];have:=l.out;rw[a.out] at this;unfold l9;rw[show max (kg 16 n) 8=kg 16 n+c from O,BX Z j.out]);have u:max (0:Int) (8 - (S.size:Int))=0:=O;go_enter func142,ntmps142;go_wp2_with fail;apply f.Q;rintro e m ⟨rfl,d⟩;go_wp2_with fail;apply(Tryz.strings_Repeat_zero ⟨#[48]⟩ m).Q;rintro e s ⟨rfl,rfl⟩;go_wp2;go_ret;refine⟨dO<|o3 ?_,d⟩;have:=a.out;simp [i.out,l9,show max (kg 16 n) 8=kg 16 n from O]
end Go.Proofs.YtkdneaemikbhkaaGreatDoor
namespace Go.Proofs.YtkdneaemikbhkaaGreatDoor
open _root_.Go.Proofs.Tryz Go.RowKit Go.Deep
def aan:bs:=[65,66,67,68,69,70,71,72,73,74,75,76,77,78,79,80,81,82,83,84,85,86,87,88,89,90,97,98,99,100,101,102,103,104,105,106,107,108,109,110,111,112,113,114,115,116,117,118,119,120,121,122,48,49,50,51,52,53,54,55,56,57,43,47]
def qu(n:Nat):UInt8:=aan.getD n 0
def x_:bs->bs
 |[]=>[]
 |[a]=>let v:=a.toNat*65536;[qu<|v / 262144%64,qu<|v / 4096%64,61,61]
 |[a,b]=>let v:=a.toNat*65536+b.toNat*256;[qu<|v / 262144%64,qu<|v / 4096%64,qu<|v / 64%64,61]
 |a::b::c::r=>let v:=a.toNat*65536+b.toNat*256+c.toNat;qu (v / 262144%64)::qu (v / 4096%64)::qu (v / 64%64)::qu (v%64)::x_ r
def km(l:bs):Nat:=l.foldl (λn c=>n*2+(c.toNat - 48)) 0
def ft(l:bs):bs:=l.flatMap λc=>du 2 c.toNat 8
def sO(l:bs):bs:=l++List.replicate ((6 - l.length%6)%6) 48
def lR:bs->bs
 |a::b::c::d::e::f::r=>qu (km [a,b,c,d,e,f])::lR r
 |_=>[]
def aao(l:bs):bs:=l++List.replicate ((4 - l.length%4)%4) 61
def afz n:(bZ<|n%2).toNat - 48=n%2:=by rcases aap n with h|h <;> rw[h]<;> rfl
def BZ(c:UInt8):du 2 c.toNat 8=[bZ<|c.toNat / 128%2,bZ<|c.toNat / 64%2,bZ<|c.toNat / 32%2,bZ<|c.toNat / 16%2,bZ<|c.toNat / 8%2,bZ<|c.toNat / 4%2,bZ<|c.toNat / 2%2,bZ<|c.toNat%2]:=by simp [du]
def jZ c l:ft (c::l)=du 2 c.toNat 8++ft l:=by simp [ft]
def vj l:(ft l).length=8*l.length:=by (induction l with|nil =>rfl|cons c l ih =>rw[jZ,iG,fS,ih,iN];omega)
def aaq x y(h:x.length=24):sO (x++y)=x++sO y:=by unfold sO;grind
def aar a b c d y:aao (a::b::c::d::y)=a::b::c::d::aao y:=by unfold aao;grind
def ai2 a b c d e f:km [bZ<|a%2,bZ<|b%2,bZ<|c%2,bZ<|d%2,bZ<|e%2,bZ<|f%2]=32*(a%2)+16*(b%2)+8*(c%2)+4*(d%2)+2*(e%2)+f%2:=by simp only[km,vB,V0,afz];omega
def ahI:(48:UInt8)=bZ (0%2):=rfl
def KC:∀l:bs,aao (lR (sO<|ft l))=x_ l
 |[]=>rfl
 |[a]=>by
  have d:=a.toNat_lt
  have e:sO (ft [a])=[bZ<|a.toNat / 128%2,bZ<|a.toNat / 64%2,bZ<|a.toNat / 32%2,bZ<|a.toNat / 16%2,bZ<|a.toNat / 8%2,bZ<|a.toNat / 4%2,bZ<|a.toNat / 2%2,bZ<|a.toNat%2,bZ<|0%2,bZ<|0%2,bZ<|0%2,bZ<|0%2]:=by
   unfold sO
   rw[vj,jZ,BZ,show(6 - 8*[a].length%6)%6=4 by simp]
   simp [ft,List.replicate,ahI]
  rw[e]
  simp only[lR,ai2,x_]
  rw[show 32*(a.toNat / 128%2)+16*(a.toNat / 64%2)+8*(a.toNat / 32%2)+4*(a.toNat / 16%2)+2*(a.toNat / 8%2)+a.toNat / 4%2=a.toNat*65536 / 262144%64 by omega,
   show 32*(a.toNat / 2%2)+16*(a.toNat%2)+8*(0%2)+4*(0%2)+2*(0%2)+0%2=a.toNat*65536 / 4096%64 by omega]
  rfl
 |[a,b]=>by
  have d:=a.toNat_lt
  have hb:=b.toNat_lt
  have e:sO (ft [a,b])=[bZ<|a.toNat / 128%2,bZ<|a.toNat / 64%2,bZ<|a.toNat / 32%2,bZ<|a.toNat / 16%2,bZ<|a.toNat / 8%2,bZ<|a.toNat / 4%2,bZ<|a.toNat / 2%2,bZ<|a.toNat%2,
    bZ (b.toNat / 128%2),bZ<|b.toNat / 64%2,bZ<|b.toNat / 32%2,bZ<|b.toNat / 16%2,bZ<|b.toNat / 8%2,bZ<|b.toNat / 4%2,bZ<|b.toNat / 2%2,bZ<|b.toNat%2,bZ<|0%2,bZ<|0%2]:=by
   unfold sO
   rw[vj,jZ,jZ,BZ,BZ,show(6 - 8*[a,b].length%6)%6=2 by simp]
   simp [ft,List.replicate,ahI]
  rw[e]
  simp only[lR,ai2,x_]
  rw[show 32*(a.toNat / 128%2)+16*(a.toNat / 64%2)+8*(a.toNat / 32%2)+4*(a.toNat / 16%2)+2*(a.toNat / 8%2)+a.toNat / 4%2=(a.toNat*65536+b.toNat*256) / 262144%64 by omega,
   show 32*(a.toNat / 2%2)+16*(a.toNat%2)+8*(b.toNat / 128%2)+4*(b.toNat / 64%2)+2*(b.toNat / 32%2)+b.toNat / 16%2=(a.toNat*65536+b.toNat*256) / 4096%64 by omega,
   show 32*(b.toNat / 8%2)+16*(b.toNat / 4%2)+8*(b.toNat / 2%2)+4*(b.toNat%2)+2*(0%2)+0%2=(a.toNat*65536+b.toNat*256) / 64%64 by omega]
  rfl
 |a::b::c::r=>by
  have d:=a.toNat_lt
  have hb:=b.toNat_lt
  have f:=c.toNat_lt
  have ih:=KC r
  rw[jZ,jZ,jZ,<-l7,<-l7,aaq _ _<|by simp [fS],BZ,BZ,BZ]
  simp only[Bf,p4,lR,ai2,x_]
  rw[aar,ih,
   show 32*(a.toNat / 128%2)+16*(a.toNat / 64%2)+8*(a.toNat / 32%2)+4*(a.toNat / 16%2)+2*(a.toNat / 8%2)+a.toNat / 4%2=(a.toNat*65536+b.toNat*256+c.toNat) / 262144%64 by omega,
   show 32*(a.toNat / 2%2)+16*(a.toNat%2)+8*(b.toNat / 128%2)+4*(b.toNat / 64%2)+2*(b.toNat / 32%2)+b.toNat / 16%2=(a.toNat*65536+b.toNat*256+c.toNat) / 4096%64 by omega,
   show 32*(b.toNat / 8%2)+16*(b.toNat / 4%2)+8*(b.toNat / 2%2)+4*(b.toNat%2)+2*(c.toNat / 128%2)+c.toNat / 64%2=(a.toNat*65536+b.toNat*256+c.toNat) / 64%64 by omega,
   show 32*(c.toNat / 32%2)+16*(c.toNat / 16%2)+8*(c.toNat / 8%2)+4*(c.toNat / 4%2)+2*(c.toNat / 2%2)+c.toNat%2=(a.toNat*65536+b.toNat*256+c.toNat)%64 by omega]
end Go.Proofs.YtkdneaemikbhkaaGreatDoor
