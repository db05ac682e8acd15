import Derived.Test.YtkdneaemikbhkaaGreatDoorZ12
import Derived.Test.YtkdneaemikbhkaaGreatDoorZ22
set_option linter.all false
set_option maxRecDepth 100000
set_option maxHeartbeats 40000000
namespace Go.Proofs.YtkdneaemikbhkaaGreatDoor
open _root_.Go.Proofs.Tryz Go.RowKit Go.Deep
abbrev D9:=List UInt8×bs
def D':bs:=[97,117,116,104,111,114,105,122,97,116,105,111,110]
def A0(a:Bool)(m:bs)(p:D9):Bool:=p.1==m ||(p.1==[42]&&!a)
def wA(a:Bool)(h:bs)(p:D9):Bool:=p.2==h ||(p.2==[42]&&!a&&h !=D')
def zQ(simple:Bool)(m:bs)(asked:List<|bs)(a:Bool)(l:List D9):Bool:=
 (simple ||l.any (A0 a m))&&asked.all (λh=>l.any<|wA a h)
def yC(simple:Bool)(m:bs)(asked:List<|bs):List<|bs:=(if simple=true then [] else [109::m])++asked.map (λh=>104::h)
def sk(a:Bool)(p:D9)(k:bs):Bool:=
 k==109::p.1 ||k==104::p.2 ||(!a&&((p.1==[42]&&k.head?==some 109)||(p.2==[42]&&k.head?==some 104&&k !=104::D')))
def nB(a:Bool)(l:List D9)(b:List<|bs):List<|bs:=l.foldl (λb p=>b.filter λk=>!sk a p k) b
def XO(simple:Bool)(m:bs)(asked:List<|bs)(a:Bool)(l:List D9):Bool:=(nB a l<|yC simple m asked).isEmpty
def left_eq(a:Bool):∀(l:List D9) (b:List<|bs),nB a l b=b.filter (λk=>!l.any (λp=>sk a p k))
 |[],b=>by
  unfold nB
  rw[List.foldl_nil]
  exact(List.filter_eq_self.2 λ_ _=>rfl).symm
 |p::l,b=>by
  have ih:=left_eq a l (b.filter λk=>!sk a p k)
  unfold nB at *
  rw[List.foldl_cons,ih,List.filter_filter]
  congr 1
  funext k
  rw[List.any_cons]
  cases sk a p k <;> cases l.any (λp=>sk a p k)<;> rfl
def ais a m(p:D9):sk a p (109::m)=A0 a m p:=by have b:(109::m==104::p.2)=false:=(by rw[beq_eq_false_iff_ne];intro h;exact absurd (List.cons.inj h).1 Z);have c:(109::m==109::p.1)=(p.1==m):=gA;have d:((109::m).head?==some 104)=false:=(by rw[beq_eq_false_iff_ne];intro h;exact absurd (cR h) Z);have e:((109::m).head?==some 109)=true:=bT;unfold sk A0;grind
def ait a h(p:D9):sk a p (104::h)=wA a h p:=by have b:(104::h==109::p.1)=false:=(by rw[beq_eq_false_iff_ne];intro e;exact absurd (List.cons.inj e).1 Z);have c:(104::h==104::p.2)=(p.2==h):=gA;have d:((104::h).head?==some 109)=false:=(by rw[beq_eq_false_iff_ne];intro e;exact absurd (cR e) Z);have f:((104::h).head?==some 104)=true:=bT;have g:(104::h !=104::D')=(h !=D'):=gA;unfold sk wA;grind
def XP simple m asked a l:XO simple m asked a l=zQ simple m asked a l:=by unfold XO zQ;rw[left_eq];have e:∀b:List<|bs,(b.filter λk=>!l.any (λp=>sk a p k)).isEmpty=b.all (λk=>l.any λp=>sk a p k):=(by intro b;induction b with|nil =>rfl|cons k b ih =>grind);rw[e];unfold yC;rw[vE,List.all_map];have c:(λk=>l.any λp=>sk a p k) ∘ (λh=>104::h)=λh=>l.any<|wA a h:=(by funext h;simp only[Function.comp];congr 1;funext p;exact ait a h p);rw[c];cases simple;(.simp only[D_,if_false,Fz,List.all_nil,Bool.and_true,Bool.false_or];rw[show(λp=>sk a p<|109::m)=A0 a m from funext<|ais a m]);simp
end Go.Proofs.YtkdneaemikbhkaaGreatDoor
namespace Go.Proofs.YtkdneaemikbhkaaGreatDoor
open _root_.Go.Proofs.Tryz Go.RowKit Go.Deep
open Go.ChangeShapes Go.WideShapes Go.ChangeAt Go.WideElems
abbrev aZ:TypeId:=167
structure dL where
 ar:pD
 dest:pD
 path:F
 query:F
 bB:Bool
 method:F
 head:F
 ju:Int
abbrev dL.arr(p:dL):gr:=#[.bool p.ar.sec,.string p.ar.host,mI p.ar.port,.bool p.dest.sec,.string p.dest.host,mI p.dest.port,.string p.path,.string p.query,.bool p.bB,.string p.method,.string p.head,mI p.ju]
def aX(p:dL):qD:=p.arr.toList
structure dL.Ok (p:dL):Prop where
 DN:p.ar.host.size<=reachBytes
 HW:(Lit.int .i64 p.ar.port).wf=true
 DO:p.dest.host.size<=reachBytes
 Wj:(Lit.int .i64 p.dest.port).wf=true
 path:p.path.size<=reachBytes
 query:p.query.size<=reachBytes
 method:p.method.size<=reachBytes
 head:p.head.size<=reachBytes
 ju:(Lit.int .i64 p.ju).wf=true
def aE p:(aX p).length=12:=rfl
def fr p:∀u∈aX p,u.oneCell'=true:=by intro u a;simp only[aX,uQ,y',y_] at a;rcases a with rfl|rfl|rfl|rfl|rfl|rfl|rfl|rfl|rfl|rfl|rfl|rfl <;> rfl
def bV:(prog.info? 167).map (·.size)=some 12:=dU
abbrev fa(w:tW)(a:oT)(ps:List dL):Prop:=cE 12 aX w a ps
def kt(p:dL):D9:=(p.method.data.toList,p.head.data.toList)
def Ea(g:Nat)(lb:gr)(f:dL->Bool)(ps:List dL)(w:tW):Prop:=
 ∀(W:tW) (x:dL),Y w W->x∈ps->cL g (#[.agg x.arr]++lb) W (dx (.bool<|f x) W)
def XQ(f:dL->Bool)(ps:List dL)(w:tW)(e:Ending)(w':tW):Prop:=
 ∃r:Int,e=.returned (mI r)/\decide (0<=r)=ps.any f/\Y w w'
def FQ{f}{ps:List dL}{k}(h:k<ps.length)(h0:(ps.take k).any f=false)(e:f ps[k]=false):(ps.take<|k+1).any f=false:=by exact HS
def XR{f}{ps:List dL}{k}(h:k<ps.length)(e:f ps[k]=true):ps.any f=true:=gA
def Np(g:Nat)lb f a E ps w(n:fa w a ps)(hl:ps.length<=1048576)(r:∀args w,(callFunc g args).run prog w=.ok (.enter g args) w)(p:Ea g lb f ps w):cL 245 #[.slice a ps.length E,.func (.func g) #[] lb] w<|XQ f ps w:=by go_enter func245,ntmps245;go_wp2;go_loopw [8] (λi wr=>∃k:Nat,k<=ps/\i=mI k/\Hid (Y w wr)/\Hid ((ps.take k).any f=false)) (λi _=>ps.length - (intOf i).toNat);(.exact⟨0,bt _,I,J<|aL _ _,J I⟩);obtain⟨k,s,rfl,hB,hN⟩:=hrel;by_cases d:k<ps;(.obtain⟨b,aj,rfl,m⟩:=(n.later hB.out) k d;have c:=p wr _ hB.out<|ej d;have j:wr.rangeAt b (aj+k*12)<|aX ps[k]:=m;have l:(Value.agg (aX ps[k]).toArray)=.agg ps[k].arr:=I;cases hq:f ps[k];(.rw[hq] at c;have hn:=J<|FQ d hN.out hq;clear hq m;generalize ps[k]=x at c j l;go_wp2_with (first|(refine cD I 167 _ I b (aj+k*12) I (aX x) _ j underlying167 I bV ?_)|(go_at_fn g;apply c.Q;rintro e q ⟨rfl,dZ⟩));exact Av);rw[hq] at c;have hn:=J<|XR d hq;clear hq m;generalize ps[k]=x at c j l;go_wp2_with (first|(refine cD I 167 _ I b (aj+k*12) I (aX x) _ j underlying167 I bV ?_)|(go_at_fn g;apply c.Q;rintro e q ⟨rfl,dZ⟩));go_ret;exact⟨_,I,by rw[hn.out];simp,hB.aD dZ⟩);obtain rfl:ps=k:=O;have hn:=J (show ps.any f=false from aeo);go_wp2;go_ret;exact⟨_,I,by rw[hn.out];decide,hB⟩
def CZ(g:Nat)(lb:Array Value)(f:dL->Bool)(a:Option Addr)(E:Nat)(ps:List dL)(w:World)(c:fa w a ps)(hl:ps.length<=1048576)(d:∀args w,(callFunc g args).run Tryz.prog w=.ok (.enter g args) w)(h:Ea g lb f ps w):Calls Tryz.prog 157 #[.slice a ps.length E,.func (.func g) #[] lb] w λe w'=>e=.returned (.bool<|ps.any f)/\Below w.heap.size w w':=by have j:=Np g lb f a E ps w c hl d h;clear h c d;go_enter Tryz.func157,Tryz.ntmps157;go_wp2_with fail;apply j.Q;rintro e l ⟨r,rfl,i,k⟩;have b:=Lib.hid i;clear i;go_wp2;go_ret;exact⟨aW b.out,k⟩
def NN(a b c:F)(h:bg b=bg c):same a b=same a c:=by unfold same;rw[h]
def uq ps(b c:F)(h:bg b=bg c):a7 ps b=a7 ps c:=by have:dG ps b=dG ps c:=(by unfold dG;congr 1;exact PL λp _=>NN _ _ _ h);unfold a7;rw[this]
def gS:F:=⟨#[97,99,99,101,115,115,45,99,111,110,116,114,111,108,45,97,108,108,111,119,45,111,114,105,103,105,110]⟩
def Bo:F:=⟨#[65,99,99,101,115,115,45,67,111,110,116,114,111,108,45,65,108,108,111,119,45,79,114,105,103,105,110]⟩
def pJ:F:=⟨#[97,99,99,101,115,115,45,99,111,110,116,114,111,108,45,97,108,108,111,119,45,99,114,101,100,101,110,116,105,97,108,115]⟩
def F6:F:=⟨#[65,99,99,101,115,115,45,67,111,110,116,114,111,108,45,65,108,108,111,119,45,67,114,101,100,101,110,116,105,97,108,115]⟩
def F7 ps:a7 ps Bo=a7 ps gS:=uq _ _ _ jN
def JC ps:a7 ps F6=a7 ps pJ:=uq _ _ _ jN
def TR(bB:Bool)(o:F)(ok:Bool)(c t:F):Bool:=
 ok&&(if bB then (o.toList==t.toList)&&(c.toList==[116,114,117,101]) else (o.toList==[42])||(o.toList==t.toList))
def aeQ(r:l4)a E ps M w(t:r.Ok w)(n:yJ w)(u:jz w a ps)(hz:nu ps)(hl:ps.length<=1048576)(q:∀p∈ps,p.2.size<=M)(g:ps.length*(M+2)<=140737488355328)(v:r.ar.host.size<=1099511627776):cL 166 #[.agg r.arr,.slice a ps.length E] w (dx (.bool<|TR r.bB (a7 ps gS).1 (a7 ps gS).2 (a7 ps pJ).1 ⟨(gR r.ar.sec r.ar.host r.ar.port).toArray⟩) w):=by obtain⟨x,y⟩:=bounds_i64 t.HW;have g1:=λw' h=>zT a E ps Bo M w' h hz hl Z q g;have g2:=λw' h=>zT a E ps F6 M w' h hz hl Z q g;have tx:=λw' n=>aeO r.ar.sec r.ar.host r.ar.port x y v w' n;rw[F7] at g1;rw[JC] at g2;clear x y t v q g hl hz;generalize(a7 ps gS).1=o at g1 ⊢;generalize(a7 ps gS).2=ok at g1 ⊢;generalize(a7 ps pJ).1=c at g2 ⊢;generalize(⟨(gR r.ar.sec r.ar.host r.ar.port).toArray⟩:F)=T at tx ⊢;have s:Y w (w.alloc<|.cells r.arr 44):=(aL _ _).alloc lJ _;unfold Bo at g1;unfold F6 at g2;go_enter func166,ntmps166;go_wp2_with fail;apply(g1 _<|u.later s).Q;rintro e j ⟨rfl,pB⟩;have b:Below (w+1) (w.alloc<|.cells r.arr 44) j:=JD;have d:=cB b;have B:j.cell? (U w 1)=some (.bool r.ar.sec):=aO b 1 I;have C:j.cell? (U w 2)=some (.string r.ar.host):=aO b 2 I;have D:j.cell? (U w 3)=ev r.ar.port:=aO b 3 I;have k:j.cell? (U w 11)=some (.bool r.bB):=aO b 11 I;go_wp2_with fail;(.go_ret;exact⟨aW JE,d⟩);(.go_ret;exact⟨aW JE,d⟩);all_goals apply(tx _<|n.later d).Q;rintro e G ⟨rfl,i⟩;have f:=d.aD i;go_wp2_with fail;(.go_ret;exact⟨aW JE,f⟩);apply(g2 _<|u.later f).Q;rintro e H ⟨rfl,l⟩;have z:=(l.cell (p:=(U w 11))<|by have:=pB.size;have:=i.size;simp at *;omega).trans ((i.cell (p:=(U w 11))<|rR _ _ k).trans k);have m:=f.aD l;go_wp2_with fail;all_goals go_ret;exact⟨aW JE,m⟩
def aiH(r:l4)a E ps M w(u:r.Ok w)(n:yJ w)(v:jz w a ps)(hz:nu ps)(hl:ps.length<=1048576)(s:∀p∈ps,p.2.size<=M)(i:ps.length*(M+2)<=140737488355328)(j:M<=140737488355328)(x:r.ar.host.size<=1099511627776):cL 119 #[.agg r.arr,.slice a ps.length E] w (dx (.bool<|TR r.bB (a7 ps gS).1 (a7 ps gS).2 (a7 ps pJ).1 ⟨(gR r.ar.sec r.ar.host r.ar.port).toArray⟩) w):=by obtain⟨y,z⟩:=bounds_i64 u.HW;have g1:=λw' k=>mW a E ps gS M w' k hz hl Z s i j;have g2:=λw' k=>mW a E ps pJ M w' k hz hl Z s i j;have tx:=λw' n=>aeP r.ar.sec r.ar.host r.ar.port y z x w' n;clear y z u x s i hl hz j;generalize(a7 ps gS).1=o at g1 ⊢;generalize(a7 ps gS).2=ok at g1 ⊢;generalize(a7 ps pJ).1=c at g2 ⊢;generalize(⟨(gR r.ar.sec r.ar.host r.ar.port).toArray⟩:F)=T at tx ⊢;have t:Y w (w.alloc<|.cells r.arr 44):=(aL _ _).alloc lJ _;unfold gS at g1;unfold pJ at g2;go_enter func119,ntmps119;go_wp2_with fail;apply(g1 _<|v.later t).Q;rintro e B ⟨rfl,pB⟩;have g:Below (w+1) (w.alloc<|.cells r.arr 44) B:=JD;have h:=cB g;go_wp2_with fail;apply(g2 _<|v.later h).Q;rintro e q ⟨rfl,m⟩;have d:=g.then bT m;have b:=h.aD m;have G:q.cell? (U w 1)=some (.bool r.ar.sec):=aO d 1 I;have H:q.cell? (U w 2)=some (.string r.ar.host):=aO d 2 I;have K:q.cell? (U w 3)=ev r.ar.port:=aO d 3 I;have C:q.cell? (U w 11)=some (.bool r.bB):=aO d 11 I;go_wp2_with fail;(.go_ret;exact⟨aW JE,b⟩);(.apply(tx _<|n.later b).Q;rintro e D ⟨rfl,l⟩;have f:=b.aD l;go_wp2_with fail;all_goals go_ret;exact⟨aW JE,f⟩);(.go_ret;exact⟨aW JE,b⟩);apply(tx _<|n.later b).Q;rintro e D ⟨rfl,l⟩;have f:=b.aD l;go_wp2_with fail;all_goals go_ret;exact⟨aW JE,f⟩
end Go.Proofs.YtkdneaemikbhkaaGreatDoor
namespace Go.Proofs.YtkdneaemikbhkaaGreatDoor
open _root_.Go.Proofs.Tryz Go.RowKit Go.Deep
def G2(c:UInt8):Bool:=(decide ((97:Int)<=(c.toNat:Int))&&decide ((c.toNat:Int)<=122))||(decide ((48:Int)<=(c.toNat:Int))&&decide ((c.toNat:Int)<=57))
def fC(a c:UInt8):Bool:=(c==46&&(a==46 ||a==45))||(c==45&&a==46)||(c !=46&&c !=45&&!G2 c)
def ku(a:UInt8):bs->Bool
 |[]=>true
 |c::r=>!fC a c&&ku c r
def gE(l:bs):Bool:=decide (l.length<=60)&&ku 46 (l++[46])
def k5(n:Int):Bool:=decide (1<=n)&&decide (n<=65535)
def Ce(c d:UInt8)n(h:(d.toNat:Int)=n):((c.toNat:Int)==n)=(c==d):=by exact Yc
def Cf(c:UInt8)(a d:Int)(b:Bool)(h:(decide (a<=(c.toNat:Int))&&decide ((c.toNat:Int)<=d))=b)(w:tW):cL 31 #[c.toNat,a,d] w<|rV (.bool b) w:=by subst h;exact dS _ a d w
def sX(eo:Bool)(aF:F)(bl:Int)(hh:aF.size<=1099511627776)w:cL 33 #[.agg #[eo,aF,bl]] w (dx (.bool<|gE aF&&k5 bl) w):=by obtain⟨x,N,R,S⟩:=mkO (eo:=eo) (aF:=aF) (bl:=bl) _ (aL (w+1) (w.alloc<|Obj.cells #[eo,aF,bl] 39));go_enter func33,ntmps33;have j:=J (an aF).symm;by_cases hl:aF.size<=60;(.by_cases M:1<=bl/\bl<=65535;(.obtain⟨D,G⟩:=M;have y:Hid<|k5 bl=true:=J (by simp [k5,D,G]);have Nu:Hid<|gE aF=ku 46 (aF.data.toList++[46]):=J (by unfold gE;rw[j.out];simp [hl]);go_wp2_with (go_at_call 31;apply(dS _ _ _ _).Q;rintro e w' ⟨rfl,rfl⟩);go_loopw [3,4] (λH i wr=>∃(k:Nat) (wa:UInt8),k<=aF.size+1/\i=mI k/\H=.int .u8 wa.toNat/\Hid (ku 46 (aF.data.toList++[46])=ku wa ((aF.data.toList++[46]).drop k))/\Below (w+1) (w.alloc<|Obj.cells #[eo,aF,bl] 39) wr) (λ_ i _=>aF.size+1 - (intOf i).toNat);(.exact⟨0,46,O,I,I,J I,x⟩);obtain⟨k,wa,hk,rfl,rfl,n,pB⟩:=hrel;obtain⟨_,T,W,ab⟩:=mkO (eo:=eo) (aF:=aF) (bl:=bl) _ pB;by_cases B:k<aF.size;(.have C:k<aF.data.toList:=(by rw[j.out];exact B);have p:Hid<|(aF.data.toList++[46]).drop k=aF[k]::(aF.data.toList++[46]).drop (k+1):=J (by rw[rK fK,SG C,b8 aF k B C]);have s:=Ce aF[k] 46 46 I;have t:=Ce aF[k] 45 45 I;have f46:=Ce wa 46 46 I;have f45:=Ce wa 45 45 I;have K:(aF[k].toNat:Int)<256:=(by have:=aF[k].toNat_lt;omega);have c:∀b,fC wa aF[k]=b->Hid (ku 46 (aF.data.toList++[46])=(!b&&ku aF[k] ((aF.data.toList++[46]).drop<|k+1))):=λb hb=>J (by rw[n.out,p.out,ku,hb]);obtain⟨a,q⟩:∃a,(decide ((97:Int)<=(aF[k].toNat:Int))&&decide ((aF[k].toNat:Int)<=122))=a:=⟨_,I⟩;obtain⟨d,r⟩:∃d,(decide ((48:Int)<=(aF[k].toNat:Int))&&decide ((aF[k].toNat:Int)<=57))=d:=⟨_,I⟩;have m:G2 aF[k]=(a ||d):=(by unfold G2;rw[q,r]);have hwa:=Cf aF[k] 97 122 a q;have hwd:=Cf aF[k] 48 57 d r;clear n p;by_cases f:aF[k]=46;(.have a0:a=false:=(by rw[<-q,f];rfl);have d0:d=false:=(by rw[<-r,f];rfl);rw[show(aF[k]==46)=true by rw[f];rfl] at s;rw[show(aF[k]==45)=false by rw[f];rfl] at t;have z:Hid<|(aF[k].toNat:Int)=46:=J (by rw[f];rfl);subst a0;subst d0;by_cases HA:wa=46;(.have hz:=c true (by rw[f,HA];rfl);rw[show(wa==46)=true by rw[HA];rfl] at f46;rw[show(wa==45)=false by rw[HA];rfl] at f45;clear f HA c m q r;exact abG);by_cases g:wa=45;(.have hz:=c true (by rw[f,g];rfl);rw[show(wa==46)=false by rw[g];rfl] at f46;rw[show(wa==45)=true by rw[g];rfl] at f45;clear f g HA c m q r;exact abG);rw[show(wa==46)=false from E_] at f46;rw[show(wa==45)=false by simpa using g] at f45;have L:=J f;have hz:=c false (by unfold fC;rw[f,show(wa==46)=false from E_,show(wa==45)=false by simpa using g];rfl);clear f g HA c m q r;go_wp2_with (first|(go_at_call 31;apply(hwa _).Q;clear hwa;rintro e w' ⟨rfl,rfl⟩)|(go_at_call 31;apply(hwd _).Q;rintro e w' ⟨rfl,rfl⟩));refine bM ?_;exact⟨k+1,46,O,cJ,I,J<|by rw[hz.out,L.out];rfl,pB⟩);by_cases l:aF[k]=45;(.have a0:a=false:=(by rw[<-q,l];rfl);have d0:d=false:=(by rw[<-r,l];rfl);rw[show(aF[k]==46)=false by rw[l];rfl] at s;rw[show(aF[k]==45)=true by rw[l];rfl] at t;have z:Hid<|(aF[k].toNat:Int)=45:=J (by rw[l];rfl);subst a0;subst d0;by_cases HA:wa=46;(.have hz:=c true (by rw[l,HA];rfl);rw[show(wa==46)=true by rw[HA];rfl] at f46;clear f45 f l HA c m q r;exact abG);rw[show(wa==46)=false from E_] at f46;have L:=J l;have hz:=c false (by unfold fC;rw[l,show(wa==46)=false from E_];cases (wa==45)<;> rfl);clear f45 f l HA c m q r;go_wp2_with (first|(go_at_call 31;apply(hwa _).Q;clear hwa;rintro e w' ⟨rfl,rfl⟩)|(go_at_call 31;apply(hwd _).Q;rintro e w' ⟨rfl,rfl⟩));(all_goals (try (exfalso;have:=z.out;omega)));refine bM ?_;exact⟨k+1,45,O,cJ,I,J<|by rw[hz.out,L.out];rfl,pB⟩);have z:Hid<|(aF[k].toNat:Int)≠46/\(aF[k].toNat:Int)≠45:=J ⟨λe=>f (Lo.1<|by simpa using Int.ofNat.inj e),λe=>l (Lo.1<|by simpa using Int.ofNat.inj e)⟩;have u:(aF[k]==46)=false:=(by simpa using f);have v:(aF[k]==45)=false:=(by simpa using l);have hb:fC wa aF[k]=!(a ||d):=(by unfold fC;rw[m,u,v];cases a <;> cases d <;> simp [bne,u,v]);rw[u] at s;rw[v] at t;have hz:=c _ hb;have ad:((aF[k].toNat:Int)!=46)=true:=(by simp [bne,s]);have aD:((aF[k].toNat:Int)!=45)=true:=(by simp [bne,t]);clear f45 f46 f l u v c m q r hb;cases a;(.cases d;(.exact abG);exact abH);exact abH);by_cases heq:k=aF.size;(.subst heq;have p:Hid<|(aF.data.toList++[46]).drop aF.size=[46]:=J (by rw[Z9<|by rw[j.out];exact gK _,<-j.out,List.drop_length];rfl);have f46:=Ce wa 46 46 I;have f45:=Ce wa 45 45 I;by_cases HA:wa=46;(.have hz:Hid<|ku 46 (aF.data.toList++[46])=false:=J (by rw[n.out,p.out,HA];rfl);rw[show(wa==46)=true by rw[HA];rfl] at f46;clear f45 HA;exact abI);by_cases g:wa=45;(.have hz:Hid<|ku 46 (aF.data.toList++[46])=false:=J (by rw[n.out,p.out,g];rfl);rw[show(wa==46)=false by rw[g];rfl] at f46;rw[show(wa==45)=true by rw[g];rfl] at f45;clear g HA;exact abI);rw[show(wa==46)=false from E_] at f46;rw[show(wa==45)=false by simpa using g] at f45;have hz:Hid<|ku 46 (aF.data.toList++[46])=true:=J (by rw[n.out,p.out];simp only[ku,fC];rw[show(wa==46)=false from E_,show(wa==45)=false by simpa using g];rfl);clear g HA;go_wp2_with (go_at_call 31;apply(dS _ _ _ _).Q;rintro e w' ⟨rfl,rfl⟩);go_roundw;(case rel=>exact⟨aF.size+1,46,O,cJ,I,J<|by rw[hz.out,List.drop_of_length_le bT];rfl,pB⟩);case measure=>simp [intOf]);obtain rfl:k=aF.size+1:=O;have hz:Hid<|ku 46 (aF.data.toList++[46])=true:=J (by rw[n.out,List.drop_of_length_le bT];rfl);go_wp2;go_ret;exact⟨by rw[Nu.out,hz.out,y.out];rfl,cB pB⟩);have y:Hid<|k5 bl=false:=J (by simp [k5];omega);have aS:(decide ((1:Int)<=bl)&&decide (bl<=65535))=false:=fK;clear M;go_wp2_with (go_at_call 31;apply(dS _ _ _ _).Q;rintro e w' ⟨rfl,rfl⟩);go_ret;exact⟨by rw[y.out,RQ];rfl,cB x⟩);have Nu:Hid<|gE aF=false:=J (by unfold gE;rw[j.out];simp [hl]);go_wp2;go_ret;exact⟨by rw[Nu.out];rfl,cB x⟩
def oQ(c:UInt8):Bool:=G2 c ||c==45
def chk(a:UInt8)(p:bs):Bool:=
 (a !=46 ||(!p.isEmpty&&p.head? !=some 45))&&p.all oQ&&(a::p).getLast? !=some 45
def fV(p:bs):Bool:=!p.isEmpty&&p.head? !=some 45&&p.getLast? !=some 45&&p.all oQ
def abJ p:chk 46 p=fV p:=by unfold chk fV;cases p with|nil =>rfl|cons c r =>grind
def RR a:(!fC a 46)=chk a []:=by unfold fC chk;grind
def abK a c p(h:c≠46):chk a (c::p)=(!fC a c&&chk c p):=by have b:(c==46)=false:=vJ;unfold fC chk;rw[show(a::c::p).getLast?=(c::p).getLast? by simp [List.getLast?_cons_cons],show(a !=46)=!(a==46) from I,show(c !=46)=true from uT,b,Fz,oQ];grind
def Cg:∀(l:bs) (a:UInt8),ku a (l++[46])=match dA 46 l with
  |[]=>true
  |p::r=>chk a p&&r.all fV
 |[],a=>by
  simp only[p4,dA,ku,List.all_nil,Bool.and_true]
  exact RR a
 |c::l,a=>by
  have ih:=Cg l
  rw[Bf,ku]
  by_cases h:c=46
  .subst h
   rw[dA,a' rfl,RR,ih 46]
   cases hq:dA 46 l with
   |nil=>exact absurd hq<|s_ _ _
   |cons p r=>simp only[Fz,abJ]
  .rw[dA,aY h,ih c]
   cases hq:dA 46 l with
   |nil=>exact absurd hq<|s_ _ _
   |cons p r=>simp only[abK a c p h,Bool.and_assoc]
def uI l:gE l=(decide (l.length<=60)&&(dA 46 l).all fV):=by unfold gE;rw[Cg];cases hq:dA 46 l with|nil =>grind|cons p r =>simp only[Fz,abJ]
end Go.Proofs.YtkdneaemikbhkaaGreatDoor
namespace Go.Proofs.YtkdneaemikbhkaaGreatDoor
open _root_.Go.Proofs.Tryz Go.RowKit Go.Deep
open Go.Shelf
attribute [local go_sem] Oper.semAt_some
def Fa{w wr:tW}{c:gr}{T:TypeId}{B:Nat}(h:Below (B+1) (w.alloc<|.cells c T) wr)(i:Nat)(hB:B=w.heap.size:=by rfl):wr.frozen? (U B i)=false:=by exact V9
def mL:bs:=[97,98,99,100,101,102,103,104,105,106,107,108,109,110,111,112,113,114,115,116,117,118,119,120,121,122,48,49,50,51,52,53,54,55,56,57,45]
def O5 c:mL.contains c=oQ c:=by have h:∀n:Fin 256,mL.contains (UInt8.ofNat n)=oQ (UInt8.ofNat n):=jN;have:=h ⟨c.toNat,c.toNat_lt⟩;simpa using this
def Dq(j:Nat)b(h:(⟨mL.toArray⟩:F).data.toList[j]?=some b):b.toNat<128:=
 (by decide:∀b∈mL,b.toNat<128) b (um h)
def Ch{w w'}{a}(h:Y w w'):w.grownBy w' a:=⟨h.os,h.tape,h.output,h.size,λk b _=>h.block k b⟩
def y4{W a}(h:Y W a):KeepsOthers W a:=KeepsOthers.of_grownBy (row:=none) (Ch h) (λj o e=>by cases e)
def af3(s:F)w(hl:s.size<=60):cL 130 #[s] w (dx (.bool<|gE s) w):=by refine(callsIn_wide (n:=4)).1 ?_;refine callsIn_of_wp_marks func130 I trivial ?_ I;simp only[ntmps130,KN,iN,qF,Nat.reduceAdd,Nat.reduceSub,Array.replicate_succ,Array.replicate_zero,List.push_toArray,List.append_toArray,p4,Bf];gi_wp2_with (refine⟨trivial,?_⟩;gi_at_call 222;refine(callsIn_wide.2<|Dn _ _ _).mono ?_;rintro e w' ⟨rfl,rfl⟩);obtain⟨m,f⟩:∃m,((((w.alloc<|.cells #[false] 4).alloc<|.cells #[s] 9).alloc<|.cells #[.string ⟨#[46]⟩] 9).alloc<|.cells #[mI 0] 3)=m:=⟨_,I⟩;rw[f];have bk:m=w.heap.size+4:=(by rw[<-f];simp);have hB:Y w m:=(by rw[<-f];exact((((aL _ w).alloc lJ _).alloc bT _).alloc Ci _).alloc fK _);have c0:m.cell? (U w 0)=some (.bool false):=(by rw[<-f];exact aO (((((aL _ _).alloc bT _).alloc Ci _)).alloc Ci _) 0 rfl rfl);have c1:m.cell? ⟨w+1,0,none⟩=some (.string s):=(by rw[<-f];exact aO (((aL _ _).alloc bT _).alloc Ci _) 0 rfl bT);have c2:m.cell? ⟨w.heap.size+1+1,0,none⟩=some (.string ⟨#[46]⟩):=(by rw[<-f];exact aO ((aL _ _).alloc bT _) 0 I bT);have c3:m.cell? ⟨w.heap.size+1+2,0,none⟩=ev 0:=(by rw[<-f];exact aO (aL _ _) 0 I bT);have f0:m.frozen? (U w 0)=false:=(by rw[<-f];exact Fa (((((aL _ _).alloc bT _).alloc Ci _)).alloc Ci _) 0 rfl);have f1:m.frozen? ⟨w+1,0,none⟩=false:=(by rw[<-f];exact Fa (((aL _ _).alloc bT _).alloc Ci _) 0 bT);clear f;refine Ln 46 (w+1) (w.heap.size+1+1) (w.heap.size+1+2) I I O s O c1 (λd W=>Y w W/\(W.cell? (U w 0)=some (.bool false)/\W.frozen? (U w 0)=false/\W.cell? ⟨w.heap.size+1+1,0,none⟩=some (.string ⟨#[46]⟩)/\W.cell? ⟨w.heap.size+1+2,0,none⟩=ev 0/\(∃t,W.cell? ⟨w+1,0,none⟩=some t)/\W.frozen? ⟨w+1,0,none⟩=false/\d.all fV=true)) (λd W=>Y w W/\(W.cell? (U w 0)=some (.bool false)/\W.frozen? (U w 0)=false/\d.all fV=false)) (OwnFrom.and (ownFrom_below lJ O)<|Own.from (λp b B z i q u=>⟨Fb i.1 q u,(frozen_kept i.1 q u).trans i.2.1,Fb i.2.2.1 q u,Fb i.2.2.2.1 q u,i.2.2.2.2.1.elim λt h=>⟨t,Fb h q u⟩,i.2.2.2.2.1.elim λt h=>(frozen_kept h q u).trans i.2.2.2.2.2.1,i.2.2.2.2.2.2⟩) _) (OwnFrom.and (ownFrom_below lJ O)<|Own.from (λp b B z i q u=>⟨Fb i.1 q u,(frozen_kept i.1 q u).trans i.2.1,i.2.2⟩) _) ⟨hB,c0,f0,c2,c3,⟨_,c1⟩,f1,I⟩ ?hset (λd W h=>⟨h.2.2.2.1,h.2.2.2.2.1,h.2.2.2.2.2.2.1⟩) ?act ?assign ?body ?done ?stop;(case assign =>intro l x W K M;gi_wp2;exact M);(case hset =>rintro d W v ⟨h1,h2,h3,R,S,⟨t,h6⟩,h7,N⟩;exact⟨h1.setCell (p:=⟨w+1,0,none⟩) bT _,by rw[MI _ _ _ _ bT];exact h2,by rw[Lp];exact h3,by rw[MI _ _ _ _ bT];exact R,by rw[MI _ _ _ _ bT];exact S,⟨v,Cd _ _ _<|by rw[h6];rfl⟩,by rw[Lp];exact h7,N⟩);(case done =>rintro D W hD ⟨h1,h2,h3,R,S,h6,h7,N⟩ M;gi_wp2;have ab:=(RT W (U w 0)<|.bool true).same D _ M I;refine⟨bT,.inl ⟨_,_,I,run_takeDeferred ab,?_⟩⟩;have hc:(W.setCell (U w 0)<|.bool true).cell? (U w 0)=some (.bool true):=Cd _ _ _ (by rw[h2];rfl);refine⟨_,(by simp [results,results130,go_sem,(pw (o:=.deferred none)<|show w.heap.size≠D from O).trans hc];try rfl),?_,(h1.setCell (p:=(U w 0)) lJ _).trans<|belowK_b (w:=w) lJ _ D _ _ O ab I I⟩;rw[uI,N];simp [hl]);(case stop =>rintro D d W hD bb ⟨h1,h2,h3,N⟩ M;gi_wp2;refine⟨bT,.inl ⟨_,_,I,run_takeDeferred M,?_⟩⟩;have x9:(dA 46 s.data.toList).all fV=false:=gA;refine⟨_,(by simp [results,results130,go_sem,(pw (o:=.deferred none)<|show w.heap.size≠D from O).trans h2];try rfl),?_,h1.trans<|belowK_b (w:=w) lJ _ D _ _ O M I I⟩;rw[uI,x9,RQ]);case body =>rintro l d x W ⟨h1,h2,h3,R,S,h6,h7,N⟩ hx;have x9:(d++[x.data.toList]).all fV=fV x:=(by rw[vE,N];simp);by_cases j:x.toList.isEmpty=true;(.have fC:fV x=false:=(by rw[eR] at j;unfold fV;rw[j];rfl);exact RU);have ad:x.toList.isEmpty=false:=(by simpa using j);have h0:0<x.size:=(by rw[eR] at ad;rw[an];cases hq:x.data.toList with|nil =>grind|cons a r =>simp);clear j;by_cases C:x[0]'h0=45;(.have fC:fV x=false:=(by have:x.data.toList.head?=some 45:=(by rw[Kj,j7 Gj,b8 x 0 h0 Gj,C]);unfold fV;rw[this];simp);have hq:=Ce (x[0]'h0) 45 45 I;rw[show(x[0]'h0==45)=true by rw[C];rfl] at hq;clear C;exact RU);have hq:=Ce (x[0]'h0) 45 45 I;rw[show(x[0]'h0==45)=false by simpa using C] at hq;have jI:x.size - 1<x.size:=O;have bo:((x.size:Int) - 1)=((x.size - 1:Nat):Int):=O;have bc:((x.size:Int) - 1).toNat=x.size - 1:=O;by_cases hz:x[x.size - 1]'jI=45;(.have fC:fV x=false:=(by have:x.data.toList.getLast?=some 45:=(by rw[Lq,<-an,j7 RV,b8 x (x.size - 1) jI RV,hz]);unfold fV;rw[this];simp);have G:=Ce (x[x.size - 1]'jI) 45 45 I;rw[show(x[x.size - 1]'jI==45)=true by rw[hz];rfl] at G;clear C hz;exact RU);have G:=Ce (x[x.size - 1]'jI) 45 45 I;rw[show(x[x.size - 1]'jI==45)=false by simpa using hz] at G;have hn:=DM x mL oQ O5;have bd:x.size<=60:=O;have H:=λw'=>jO x ⟨mL.toArray⟩ w' O Z Dq;obtain⟨T,y⟩:∃T:F,T=⟨(Lib.trimS x.data.toList mL).toArray⟩:=⟨_,I⟩;rw[show(⟨mL.toArray⟩:F).data.toList=mL by rw[bD],<-y] at H;cases hA:x.data.toList.all oQ;(.have hT:T.toList.isEmpty=false:=(by rw[y,eR,bD];cases bv:Lib.trimS x.data.toList mL with|nil =>grind|cons a r =>rfl);have fC:fV x=false:=(by unfold fV;rw[hA,RQ]);clear C hz hn hA y;have k:w.heap.size<W:=rR W _ h2;have aS:=λg (c:Y W g)=>(c.cell (p:=(U w 0)) k).trans h2;have a1:=λg (c:Y W g)=>(c.frozen (p:=(U w 0)) k).trans h3;gi_wp2_with (refine⟨trivial,?_⟩;gi_at_call 116;refine(CallsIn.inRound l (callsIn_wide.2<|H _)).mono ?_;rintro e g ⟨rfl,c⟩;have a6:=aS g c;have a8:=a1 g c);exact⟨(y4 c).trans<|RT _ _ _,(h1.aD c).setCell (p:=(U w 0)) lJ _,Cd _ _ _<|by rw[a6];rfl,by rw[Lp];exact a8,by rw[x9,fC]⟩);have hT:T.toList.isEmpty=true:=r4;have L:fV x=true:=(by unfold fV;have e1:x.data.toList.isEmpty=false:=(by rw[<-eR];exact ad);have e2:x.data.toList.head?=some (x[0]'h0):=(by rw[Kj,j7 Gj,b8 x 0 h0 Gj]);have e3:x.data.toList.getLast?=some (x[x.size - 1]'jI):=(by rw[Lq,<-an,j7 RV,b8 x (x.size - 1) jI RV]);simp_all);have k:w.heap.size<W:=rR W _ h2;have hk:∀g,Y W g->g.cell? (U w 0)=some (.bool false)/\g.frozen? (U w 0)=false/\g.cell? ⟨w.heap.size+1+1,0,none⟩=some (.string ⟨#[46]⟩)/\g.cell? ⟨w.heap.size+1+2,0,none⟩=ev 0/\g.cell? ⟨w+1,0,none⟩=W.cell? ⟨w+1,0,none⟩/\g.frozen? ⟨w+1,0,none⟩=false:=λg c=>(by have b4:=rR W _ R;have b5:=rR W _ S;exact⟨(c.cell (p:=(U w 0)) k).trans h2,(c.frozen (p:=(U w 0)) k).trans h3,(c.cell (p:=⟨w.heap.size+1+1,0,none⟩) b4).trans R,(c.cell (p:=⟨w.heap.size+1+2,0,none⟩) b5).trans S,c.cell (p:=⟨w+1,0,none⟩)<|Nat.lt_trans (al1 _) b4,(c.frozen (p:=⟨w+1,0,none⟩)<|Nat.lt_trans (al1 _) b4).trans h7⟩);clear C hz hn hA y;gi_wp2_with (refine⟨trivial,?_⟩;gi_at_call 116;refine(CallsIn.inRound l (callsIn_wide.2<|H _)).mono ?_;rintro e g ⟨rfl,c⟩;have ba:=hk g c);obtain⟨g2,g3,g4,g5,g6,g7⟩:=ba;exact⟨y4 c,g6,h1.aD c,g2,g3,g4,g5,by rw[g6];exact h6,g7,by rw[x9,L]⟩
end Go.Proofs.YtkdneaemikbhkaaGreatDoor
