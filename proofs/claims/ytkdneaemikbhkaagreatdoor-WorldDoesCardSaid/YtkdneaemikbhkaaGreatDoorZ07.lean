import Derived.Test.YtkdneaemikbhkaaGreatDoorZ01
import Derived.Test.YtkdneaemikbhkaaGreatDoorZ04
set_option linter.all false
set_option maxRecDepth 100000
set_option maxHeartbeats 40000000
namespace Go.Proofs.YtkdneaemikbhkaaGreatDoor
open _root_.Go.Proofs.Tryz Go.RowKit Go.Deep
open Go.ChangeShapes Go.WideShapes Go.ChangeAt Go.WideElems
structure pD where
 sec:Bool
 host:F
 port:Int
structure alW(o:pD) where
def mP(o:pD):alW o:={}
instance(o:pD):CoeOut (alW o) (List Value):=⟨λ_=>[.bool o.sec,.string o.host,.int .i64 o.port]⟩
structure alX(o:pD) where
def pE(o:pD):alX o:={}
instance(o:pD):CoeOut (alX o) (Array Value):=⟨λ_=>#[.bool o.sec,.string o.host,.int .i64 o.port]⟩
structure l4 where
 part:Int
 ar:pD
 dest:pD
 path:F
 query:F
 method:F
 addr:oT
 cap:Nat
 bA:o5
 bB:Bool
 body:F
abbrev l4.arr(r:l4):gr:=#[mI r.part,.bool r.ar.sec,.string r.ar.host,mI r.ar.port,.bool r.dest.sec,.string r.dest.host,mI r.dest.port,.string r.path,.string r.query,.string r.method,.slice r.addr r.bA.length r.cap,.bool r.bB,.string r.body]
structure l4.Ok (w:tW) (r:l4):Prop where
 part:(Lit.int .i64 r.part).wf=true
 DN:r.ar.host.size<=reachBytes
 HW:(Lit.int .i64 r.ar.port).wf=true
 DO:r.dest.host.size<=reachBytes
 Wj:(Lit.int .i64 r.dest.port).wf=true
 path:r.path.size<=reachBytes
 query:r.query.size<=reachBytes
 method:r.method.size<=reachBytes
 len:r.bA.length*32<=reachBytes
 at_:jz w r.addr r.bA
 re:HJ r.bA
 body:r.body.size<=reachBytes
def l4.Ok.later{w w'}{r:l4}(h:r.Ok w)(hb:Y w w'):r.Ok w':=⟨h.part,h.DN,h.HW,h.DO,h.Wj,h.path,h.query,h.method,h.len,h.at_.later hb,h.re,h.body⟩
def l4.Ok.FA{w}{r:l4}(h:r.Ok w):r.bA.length<=maxLen:=jn<|de (Nat.le_mul_of_pos_right _ Z) h.len
def r_:prog.cellsOf 39=3:=dU
def Wk:prog.cellsOf 41=5:=dU
def vO:prog.cellsOf 44=13:=dU
def HX{w}{cs}(h:Rd prog w 39 cs):∃o:pD,cs=(mP o)/\o.host.size<=reachBytes/\(Lit.int .i64 o.port).wf=true:=by obtain⟨hl,_⟩:=h.struct underlying39;rw[r_] at hl;(match cs,hl with|[c0,c1,c2],_ =>have e:Rd prog w 4 [c0]:=h.field underlying39 0 I s';have f:Rd prog w 9 [c1]:=h.field underlying39 1 I fp;have g:Rd prog w 3 [c2]:=h.field underlying39 2 I r3;obtain⟨b,a⟩:=e.bool underlying4;obtain⟨s,c,i⟩:=f.string underlying9;obtain⟨n,d,z2⟩:=g.int underlying3;simp at a c d;subst a;subst c;subst d;exact⟨⟨b,s,n⟩,I,i,z2⟩)
def Wl{w}{cs}(h:Rd prog w 44 cs):∃r:l4,cs=r.arr.toList/\r.Ok w:=by obtain⟨hl,_⟩:=h.struct underlying44;rw[vO] at hl;(match cs,hl with|[c0,c1,c2,c3,c4,c5,q,s,t,K,c,d,e],_ =>have L:Rd prog w 3 [c0]:=h.field underlying44 0 I r3;have M:Rd prog w 39 [c1,c2,c3]:=h.field underlying44 1 I r_;have f:Rd prog w 41 [c4,c5,q,s,t]:=h.field underlying44 2 I Wk;have N:Rd prog w 39 [c4,c5,q]:=f.field underlying41 0 I r_;have P:Rd prog w 9 [s]:=f.field underlying41 1 I fp;have R:Rd prog w 9 [t]:=f.field underlying41 2 I fp;have S:Rd prog w 9 [K]:=h.field underlying44 3 I fp;have u:Rd prog w 42 [c]:=h.field underlying44 4 I HI;have T:Rd prog w 4 [d]:=h.field underlying44 5 I s';have W:Rd prog w 9 [e]:=h.field underlying44 6 I fp;obtain⟨part,v,z0⟩:=L.int underlying3;obtain⟨o1,x,z1,g⟩:=HX M;obtain⟨o2,y,z2,i⟩:=HX N;obtain⟨ah,z,z3⟩:=P.string underlying9;obtain⟨b,B,z4⟩:=R.string underlying9;obtain⟨method,C,z5⟩:=S.string underlying9;obtain⟨a,j,E,D,_⟩:=u.slice underlying42 (by rw[qI];decide);obtain⟨bB,G⟩:=T.bool underlying4;obtain⟨body,H,z8⟩:=W.string underlying9;simp at v x y z B C D G H;obtain⟨k,l,m⟩:=x;obtain⟨n,o,p⟩:=y;subst v k l m n o p z B C D G H;obtain⟨ps,rfl,hp,hz,hb,_⟩:=SJ u;exact⟨⟨part,o1,o2,ah,b,method,a,E,ps,bB,body⟩,I,⟨z0,z1,g,z2,i,z3,z4,z5,hb,hp,hz,z8⟩⟩)
def l4.total(r:l4):Nat:=r.method.size+r.path.size+r.query.size+r.dest.host.size+r.ar.host.size+r.body.size
structure agT (r:l4):Prop where
 few:r.bA.length<=45
 total:r.total<=900
 short:∀p∈r.bA,p.1.size+p.2.size<=300
def qK(r:l4):Bool:=decide (45<r.bA.length)||decide (900<r.total)||r.bA.any (λp=>decide (300<p.1.size+p.2.size))
def HY{r}(h:qK r=false):agT r:=by simp only[qK,PA,decide_eq_false_iff_not,HZ,MD] at h;exact⟨O,O,λp a=>by have:=h.2 p a;omega⟩
def vP{w wr:tW}{c}{T}(h:Below (w.heap.size+1) (w.alloc<|.cells c T) wr):∀(i:Nat) (v:tV),c[i]?=some v->wr.cell? (U w i)=some v:=
 λi _ a=>aO h i a
def MW r w(a:r.Ok w):cL 10 #[.agg r.arr] w (dx (.bool<|qK r) w):=by have u:=a.DN;have z2:=a.DO;have z3:=a.path;have z4:=a.query;have z5:=a.method;have v:=a.body;have l:=a.FA;simp only[reachBytes,maxLen] at u z2 z3 z4 z5 v l;have q:=J (show r.total=r.method.size+r.path.size+r.query.size+r.dest.host.size+r.ar.host.size+r.body.size from I);by_cases m:45<r.bA.length;(.go_enter func10,ntmps10;go_wp2;go_ret;exact⟨aW<|by simp [qK,m],(aL _ _).alloc lJ _⟩);by_cases d:900<r.method.size+r.path.size+r.query.size+r.dest.host.size+r.ar.host.size+r.body.size;(.go_enter func10,ntmps10;go_wp2;go_ret;exact⟨aW<|by unfold qK;rw[q.out];simp [d],(aL _ _).alloc lJ _⟩);go_enter func10,ntmps10;go_wp2;go_loopw [4] (λi wr=>∃k:Nat,k<=r.bA/\i=mI k/\Below (w+1) (w.alloc<|Obj.cells r.arr 44) wr/\Hid (∀p∈r.bA.take k,p.1.size+p.2.size<=300)) (λi _=>r.bA.length - (intOf i).toNat);(.exact⟨0,bt _,I,aL _ _,J bT⟩);obtain⟨k,z,rfl,n,s⟩:=hrel;have e:=cB n;have g:wr.cell? (U w 10)=some (.slice r.addr r.bA r.cap):=vP n 10 _ I;by_cases c:k<r.bA;(.obtain⟨b,aj,x,B,C⟩:=(a.at_.later e) k c;rw[x] at g;have y:=a.re _<|ej c;simp only[reachBytes] at y;obtain⟨D,G⟩:=y;by_cases j:300<r.bA[k].1.size+r.bA[k].2.size;(.go_wp2;go_quiet (fail);go_wp2;go_ret;refine⟨aW ?_,aN e _⟩;have:r.bA.any (λp=>decide (300<p.1.size+p.2.size))=true:=ys.2 ⟨_,ej c,by simpa using j⟩;simp [qK,this]);go_wp2;go_quiet (fail);go_wp2;refine bM ?_;refine⟨k+1,O,cJ,aN n _,J ?_⟩;intro p f;rw[gW c] at f;rcases ek.1 f with f|f;(.exact s.out p f);grind);obtain rfl:k=r.bA:=O;go_wp2;go_ret;refine⟨aW ?_,e⟩;have t:=s.out;rw[fq] at t;have:r.bA.any (λp=>decide (300<p.1.size+p.2.size))=false:=HZ.2 (λp f=>by have:=t p f;simp;omega);unfold qK;rw[this,q.out];simp [d];omega
end Go.Proofs.YtkdneaemikbhkaaGreatDoor
namespace Go.Proofs.YtkdneaemikbhkaaGreatDoor
open _root_.Go.Proofs.Tryz Go.RowKit Go.Deep
def jB(s:F):F:=s.extract 0 (Lib.lastIndexByte s 47+1).toNat
def aib(s:F)w(a:s.size<=reachBytes):cL 155 #[s] w (rV (.string<|jB s) w):=by simp only[reachBytes] at a;have hb:-1<=Lib.lastIndexByte s 47/\Lib.lastIndexByte s 47<s.size:=(by rcases Lib.lastIndexByte_spec s 47 with⟨h,_⟩|⟨i,h,b,_⟩<;> omega);obtain⟨c,b⟩:=hb;go_enter func155,ntmps155;go_wp2_with fail;apply(Tryz.strings_LastIndexByte s 47 O _).Q;exact IA
def aic:tV->Nat
 |.string s=>s.size
 |_=>0
def WA(s:F)n(h:n<=s.size):(s.extract 0 n).size=n:=fK
def aid(s p:F)n(a:p=s.extract 0 p.size)(h:n<p.size)(c:p.size<=s.size):p[n]=s.data[n]!:=by have b:p.data[n]' vJ=(s.extract 0 p.size).data[n]'(by rw[<-a];simpa using h):=(by congr 2);show p.data[n]' vJ=_;rw[b];have d:n<s.data.size:=(by have:s.data.size=s.size:=I;omega);simp [ByteArray.data_extract];grind
def adR(s p:F)n(a:p=s.extract 0 p.size)(h:n<=p.size):p.extract 0 n=s.extract 0 n:=by rw[a];simp [ByteArray.extract_extract,SF h]
def aie(s:F)w(r:s.size<=reachBytes):cL 112 #[s] w (rV (.string<|jB s) w):=by simp only[reachBytes] at r;go_enter func112,ntmps112;go_wp2;go_loop [0] (λv=>∃p:F,v=.string p/\p.size<=s.size/\Hid (p=s.extract 0 p.size/\Lib.lastIdx s 47 p.size=Lib.lastIndexByte s 47)) (λv=>aic v);(.exact⟨s,I,gK _,J ⟨bT,I⟩⟩);obtain⟨p,rfl,t,c⟩:=hrel;by_cases k:p.size=0;(.have f:p.toList.isEmpty=true:=r4;have o:=J k;clear k;go_wp2;go_ret;refine⟨dO ?_,I⟩;unfold jB;rw[<-c.out.2,o.out];exact c.out.1.trans<|by rw[o.out];rfl);have b:p.size - 1<p.size:=O;obtain⟨n,d⟩:∃n,p.size=n+1:=⟨p.size - 1,O⟩;have f:p.toList.isEmpty=false:=(by rw[eR];rw[Hp] at k;cases hl:p.data.toList with|nil =>grind|cons a l =>rfl);have i:=aid s p _ c.out.1 O t;by_cases g:(p[p.size - 1]'b).toNat=47;(.have q:((p[p.size - 1]'b).toNat:Int)=47:=O;have h:Lib.lastIndexByte s 47=n:=(by rw[<-c.out.2,d];exact Lib.lastIdx_hit s 47 n<|by rw[show n=p.size - 1 from O,<-i];exact q);have m:=J h;have j:=J d;clear h i d g;go_wp2;go_ret;refine⟨dO ?_,I⟩;unfold jB;rw[m.out];exact c.out.1.trans<|by rw[j.out];rfl);have q:(((p[p.size - 1]'b).toNat:Int)==47)=false:=adS;have u:(((p[p.size - 1]'b).toNat:Int)!=47)=true:=(by simp only[bne_iff_ne,ne_eq];omega);have h:Lib.lastIdx s 47 n=Lib.lastIndexByte s 47:=(by rw[<-c.out.2,d];exact(Lib.lastIdx_miss s 47 n<|by rw[show n=p.size - 1 from O,<-i];omega).symm);have m:=J h;have j:=J d;clear h i d g;go_wp2;go_round;(case rel =>have x:=j.out;have e:p.size - 1=n:=O;rw[e];have y:=WA p n O;exact⟨_,I,O,J<|by rw[y];exact⟨adR s p n c.out.1 O,m.out⟩⟩);case measure =>have x:=j.out;show(p.extract 0<|p.size - 1).size<p.size;simp_all
def S5(s p:F)w:cL 283 #[s,p] w (rV (.bool<|Lib.hasPrefix s.data.toList p.data.toList) w):=by go_enter func283,ntmps283;go_wp2_with fail;apply(Tryz.strings_HasPrefix _ _ _).Q;exact IA
def zS:F:=⟨#[68,69,76,69,84,69]⟩
def aey:F:=⟨#[71,69,84]⟩
def Qc:F:=⟨#[72,69,65,68]⟩
def wD:F:=⟨#[79,80,84,73,79,78,83]⟩
def Qd:F:=⟨#[80,79,83,84]⟩
def aez:F:=⟨#[80,85,84]⟩
def kz:jm:=[zS,aey,Qc,wD,Qd,aez]
def b_(s:F):F:=match kz.find? (λm=>same s m) with
 |some m=>m
 |none=>s
def Bb(s:F)(k:Nat):Prop:=∀m∈kz.take k,same s m=false
def Jh{s}{k}(h:Bb s k)(hk:k<kz.length)(a:same s kz[k]=false):Bb s<|k+1:=by exact V5
def FU{s}{k}(h:Bb s k)(a:k<kz.length)(b:same s kz[k]=true):b_ s=kz[k]:=by have:kz.find? (λm=>same s m)=some kz[k]:=(by rw[ah4];refine⟨b,k,a,I,λj c=>?_⟩;have:=h kz[j] agQ;simp [this]);unfold b_;rw[this]
def C4{s}(h:Bb s 6):b_ s=s:=by unfold b_;rw[SI.2 (λp a=>by simp [h p<|show p∈kz.take 6 from a])]
def sr(s:F)w(r:s.size<=maxLen):cL 64 #[s] w (dx (.string<|b_ s) w):=by go_enter func64,ntmps64;go_wp2;go_loopw [7] (λi wr=>∃k:Nat,k<=6/\i=mI k/\Below (w+1) (w.alloc<|Obj.cells (kz.map Value.string).toArray 9) wr/\Hid (Bb s k)) (λi _=>6 - (intOf i).toNat);(.exact⟨0,bt _,I,aL _ _,J λm a=>by simp at a⟩);obtain⟨k,u,rfl,l,n⟩:=hrel;have j:=cB l;by_cases p:k<6;(.have b:k<kz:=p;have c:wr.cell? (U w k)=some (.string kz[k]):=aO l k (by rw[Ji,CJ,j7 b];rfl);have a:kz[k].size<=maxLen:=(by have:∀m∈kz,m.size<=maxLen:=(by unfold maxLen;decide);grind);have H1:=J λh=>FU n.out b h;have q:=J λh=>Jh n.out b h;generalize kz[k]=m at c a H1 q;have ts:=λw'=>gG s m w' r a;cases hb:same s m;(.rw[hb] at ts;have d:=J hb;clear hb;go_wp2_with fail;apply(ts _).Q;rintro e t ⟨rfl,f⟩;have g:=l.then bT f;go_wp2;refine bM ?_;exact⟨k+1,O,cJ,g,J<|q.out d.out⟩);rw[hb] at ts;have d:=J hb;clear hb;go_wp2_with fail;apply(ts _).Q;rintro e t ⟨rfl,f⟩;have g:=j.aD f;go_wp2;go_ret;exact⟨dO<|by rw[H1.out d.out],g⟩);obtain rfl:k=6:=O;go_wp2;go_ret;exact⟨dO<|by rw[C4 n.out],j⟩
def Ny s:b_ s=if bg s=[100,101,108,101,116,101] then zS else if bg s=[103,101,116] then aey else if bg s=[104,101,97,100] then Qc else if bg s=[111,112,116,105,111,110,115] then wD else if bg s=[112,111,115,116] then Qd else if bg s=[112,117,116] then aez else s:=by have a:bg zS=[100,101,108,101,116,101]:=Z;have b:bg aey=[103,101,116]:=Z;have c:bg Qc=[104,101,97,100]:=Z;have d:bg wD=[111,112,116,105,111,110,115]:=Z;have e:bg Qd=[112,111,115,116]:=Z;have f:bg aez=[112,117,116]:=Z;unfold b_ kz same;simp only[List.find?,a,b,c,d,e,f];grind
def TB c(M L:F)(a:L.data.toList=c)(d:∀(j:Nat) b,c[j]?=some b->b.toNat<128)(f:c.length<=100)(e:(⟨(Lib.toUpperA c).toArray⟩:F)=M)w:cL 99 #[L] w<|dx (.string M) w:=by subst a;subst e;exact Tryz.strings_ToUpper_ascii L w (by rw[an];omega) d
def xP(s:F)w(q:s.size<=maxLen):cL 39 #[s] w (dx (.string<|b_ s) w):=by have hr:=λw'=>jL s w' q;rw[Ny s];obtain⟨L,n⟩:∃L:F,L=⟨(bg s).toArray⟩:=⟨_,I⟩;rw[<-n] at hr;have hl:L.data.toList=bg s:=(by rw[n,bD]);clear n;generalize bg s.data.toList=l at hl ⊢;have hT:L.toList=l:=(by rw[eR];exact hl);by_cases c:l=[100,101,108,101,116,101];(.have u:=TB [100,101,108,101,116,101] zS L (by rw[hl,c]) (by have a:[100,101,108,101,116,101].all (λb:UInt8=>decide (b.toNat<128))=true:=Z;intro j b hb;exact qe (pC.1 a b<|um hb)) Z jN;rw[a' c];have i:(L.toList==[100,101,108,101,116,101])=true:=(by rw[hT,c];decide);clear hT hl c;exact Nz);rw[aY c];by_cases d:l=[103,101,116];(.have u:=TB [103,101,116] aey L (by rw[hl,d]) (by have a:[103,101,116].all (λb:UInt8=>decide (b.toNat<128))=true:=Z;intro j b hb;exact qe (pC.1 a b<|um hb)) Z jN;rw[a' d];have i:(L.toList==[100,101,108,101,116,101])=false:=(by rw[hT,d];decide);have k:(L.toList==[103,101,116])=true:=(by rw[hT,d];decide);clear hT hl c d;exact Nz);rw[aY d];by_cases f:l=[104,101,97,100];(.have u:=TB [104,101,97,100] Qc L (by rw[hl,f]) (by have a:[104,101,97,100].all (λb:UInt8=>decide (b.toNat<128))=true:=Z;intro j b hb;exact qe (pC.1 a b<|um hb)) Z jN;rw[a' f];have i:(L.toList==[100,101,108,101,116,101])=false:=(by rw[hT,f];decide);have k:(L.toList==[103,101,116])=false:=(by rw[hT,f];decide);have m:(L.toList==[104,101,97,100])=true:=(by rw[hT,f];decide);clear hT hl c d f;exact Nz);rw[aY f];by_cases g:l=[111,112,116,105,111,110,115];(.have u:=TB [111,112,116,105,111,110,115] wD L (by rw[hl,g]) (by have a:[111,112,116,105,111,110,115].all (λb:UInt8=>decide (b.toNat<128))=true:=Z;intro j b hb;exact qe (pC.1 a b<|um hb)) Z jN;rw[a' g];have i:(L.toList==[100,101,108,101,116,101])=false:=(by rw[hT,g];decide);have k:(L.toList==[103,101,116])=false:=(by rw[hT,g];decide);have m:(L.toList==[104,101,97,100])=false:=(by rw[hT,g];decide);have o:(L.toList==[111,112,116,105,111,110,115])=true:=(by rw[hT,g];decide);clear hT hl c d f g;exact Nz);rw[aY g];by_cases h4:l=[112,111,115,116];(.have u:=TB [112,111,115,116] Qd L (by rw[hl,h4]) (by have a:[112,111,115,116].all (λb:UInt8=>decide (b.toNat<128))=true:=Z;intro j b hb;exact qe (pC.1 a b<|um hb)) Z jN;rw[a' h4];have i:(L.toList==[100,101,108,101,116,101])=false:=Jj;have k:(L.toList==[103,101,116])=false:=Jj;have m:(L.toList==[104,101,97,100])=false:=Jj;have o:(L.toList==[111,112,116,105,111,110,115])=false:=Jj;have p:(L.toList==[112,111,115,116])=true:=Jj;clear hT hl c d f g h4;exact Nz);rw[aY h4];by_cases h5:l=[112,117,116];(.have u:=TB [112,117,116] aez L (by rw[hl,h5]) (by have a:[112,117,116].all (λb:UInt8=>decide (b.toNat<128))=true:=Z;intro j b hb;exact qe (pC.1 a b<|um hb)) Z jN;rw[a' h5];have i:(L.toList==[100,101,108,101,116,101])=false:=Ed;have k:(L.toList==[103,101,116])=false:=Ed;have m:(L.toList==[104,101,97,100])=false:=Ed;have o:(L.toList==[111,112,116,105,111,110,115])=false:=Ed;have p:(L.toList==[112,111,115,116])=false:=Ed;have r:(L.toList==[112,117,116])=true:=Ed;clear hT hl c d f g h4 h5;exact Nz);rw[aY h5];have i:(L.toList==[100,101,108,101,116,101])=false:=(by rw[hT,beq_eq_false_iff_ne];exact c);have k:(L.toList==[103,101,116])=false:=(by rw[hT,beq_eq_false_iff_ne];exact d);have m:(L.toList==[104,101,97,100])=false:=(by rw[hT,beq_eq_false_iff_ne];exact f);have o:(L.toList==[111,112,116,105,111,110,115])=false:=(by rw[hT,beq_eq_false_iff_ne];exact g);have p:(L.toList==[112,111,115,116])=false:=(by rw[hT,beq_eq_false_iff_ne];exact h4);have r:(L.toList==[112,117,116])=false:=(by rw[hT,beq_eq_false_iff_ne];exact h5);clear hT hl c d f g h4 h5;go_enter func39,ntmps39;go_wp2_with fail;apply(hr _).Q;rintro e w1 ⟨rfl,pB⟩;go_wp2;go_ret;exact⟨I,pB⟩
def mE(m:F):Bool:=m.toList==[71,69,84]||m.toList==[72,69,65,68]||m.toList==[80,79,83,84]
def Jk(m:F)w:cL 158 #[m] w (rV (.bool<|mE m) w):=by go_enter func158,ntmps158;go_wp2;all_goals go_ret;exact⟨aW (by simp_all [mE]),I⟩
def TC(m:F)w:cL 206 #[m] w (rV (.bool<|mE m) w):=by go_enter func206,ntmps206;go_wp2;all_goals go_ret;exact⟨aW (by simp_all [mE]),I⟩
end Go.Proofs.YtkdneaemikbhkaaGreatDoor
namespace Go.Proofs.YtkdneaemikbhkaaGreatDoor
open _root_.Go.Proofs.Tryz Go.RowKit Go.Deep
open Go.Maps
def u7(eo:Bool):Int:=if eo then 443 else 80
def jC{H}{P}w{f}{rest}{o}{a}{c}(u:o.guard=none)m x v t(q:o.op=Op.insert t m x v)k e(K:Keyed P k)(y:P.underlying t=some (.map k e))R b n D(h:a.eval m=.map (some b))(i:w.ownsMap P k R b n D)(z:n<maxLen)g km s(B:a.eval x=g)(C:a.eval v=km)(j:keyOf P k g=some s)(d:DataW H)ps(l:R km=some (d,ps))(G:∀w',w'.ownsMap P k R b (n+1) (D.put s d)->w.grownBy w' (some b)->wpList P f c rest (a.put o.dst undef) w'):wpList P f c (o::rest) a w:=by refine HT u λN r=>?_;obtain⟨w',p,L,M⟩:=i.update K y z j l;unfold Oper.wp;simp [execOp,q,h,B,C,p,Result.andThen];exact r _ _<|G w' L M
def F3:Keyed prog 4:=bool_keyed underlying4
def aeN w:(zeroValue 3).run prog w=.ok (mI 0) w:=dU
def Qm(eo:Bool)w:cL 280 #[eo] w (dx (mI<|u7 eo) w):=by have k:=@run_makeMap prog;have f:(w.alloc<|.map #[] 0).ownsMap prog 4 (plainElem (H:=Unit) prog 3) w.heap.size 0<|.map []:=Jq _ _ _ _;have g:Y w (w.alloc<|.map #[] 0):=(aL _ _).alloc lJ _;go_enter func280,ntmps280;go_wp2_with (first|(refine jC _ I (.tmp 3) (.const<|.bool true) (.const<|mI 443) 346 I 4 3 F3 underlying346 _ w 0 _ I f Z _ _ _ I I (keyOf_bool_mk underlying4 _) _ [] (plainElem_int underlying3 Z) ?_;intro m d a)|(refine jC _ I (.tmp 3) (.const<|.bool false) (.const<|mI 80) 346 I 4 3 F3 underlying346 _ w 1 _ I d Z _ _ _ I I (keyOf_bool_mk underlying4 _) _ [] (plainElem_int underlying3 Z) ?_;intro n e b)|(at_lookup;refine wpList_lookup_own_int _ I _ _ 346 I 4 3 .i64 F3 underlying346 underlying3 (aeN _) w.heap.size 2 _ I e _ _ I (keyOf_bool_mk underlying4 _) ?_;intro c h l));go_ret;have i:=g.grown a g.size λj hj=>Qn;refine⟨?_,i.grown b i.size λj hj=>Qn⟩;cases eo;(.cases h;rfl);cases h;rfl
end Go.Proofs.YtkdneaemikbhkaaGreatDoor
namespace Go.Proofs.YtkdneaemikbhkaaGreatDoor
open _root_.Go.Proofs.Tryz Go.RowKit Go.Deep
open Go.Shelf
attribute [local go_sem] Oper.semAt_some
def G0(a:Nat)(W:tW):Nat:=match W.cell? (U a 0) with|some (.string s)=>s.size|_=>0
def E'(c:UInt8):∀(l:bs),(Lib.indexByte l c=-1/\dA c l=[l])\/(∃k:Nat,Lib.indexByte l c=k/\k<l.length/\dA c l=l.take k::dA c (l.drop<|k+1))
 |[]=>.inl ⟨I,I⟩
 |x::l=>by
  by_cases h:x=c
  .subst h
   exact .inr ⟨0,by simp [Lib.indexByte],by simp,by simp [dA]⟩
  .obtain⟨p,r,a,f⟩:=od h l
   have hb:(x==c)=false:=by simpa using h
   rcases E' c l with⟨i,e⟩|⟨k,i,g,e⟩
   .refine .inl ⟨by simp [Lib.indexByte,hb,i],?_⟩
    rw[e] at a
    injection a with b d
    rw[f,<-b,<-d]
   .refine .inr ⟨k+1,?_,by simp;omega,?_⟩
    .have:((k:Int)==-1)=false:=by simp
     simp [Lib.indexByte,hb,i,this]
    .rw[e] at a
     injection a with b d
     rw[f,<-b,<-d]
     simp
def G1 c l g y bk(a z:List (bs)->tW->Prop)i(K:i.size<4294967281)(q:∀b W v,a b W->a b (W.setCell (U g 0) v))(j:∀b W,a b W->W.cell? (U y 0)=some (.string ⟨#[c]⟩)/\W.cell? (U bk 0)=ev 0/\W.frozen? (U g 0)=false)(B:∀b (x:F) W,a b W->x.size<=i.size->YieldAt Fence.wide 2 prog l #[x] W λe m=>(e=.returned (.bool true)/\a (b++[x.data.toList]) m/\m.cell? (U g 0)=W.cell? (U g 0))\/(e=.returned (.bool false)/\z (b++[x.data.toList]) m))W(L:W.cell? (U g 0)=some (.string i))(C:a [] W):CallsIn Fence.wide 3 prog 326 #[.func (.yield l) #[] #[],bR y,bR g,bR bk] W λe m=>(∃v,e=.returned v)/\(a (dA c i.data.toList) m\/(∃b,b≠[]/\b <+: dA c i.data.toList/\z b m)):=by refine callsIn_of_wp func326 I trivial ?_ I;simp only[ntmps326,KN,iN,qF,Nat.reduceAdd,Nat.reduceSub,Array.replicate_succ,Array.replicate_zero,List.push_toArray,List.append_toArray,p4,Bf];obtain⟨M,N,P⟩:=j _ _ C;gi_wp2;gi_loopw [7] (λ_ wr=>∃(b:List<|bs) (s:F),s.size<=i.size/\Hid (dA c i.data.toList=b++dA c s.data.toList)/\a b wr/\wr.cell? (U g 0)=some (.string s)) (λ_ wr=>G0 g wr);(.exact⟨[],i,gK _,J I,C,L⟩);obtain⟨b,s,r,hcut,t,D⟩:=hrel;obtain⟨M,N,P⟩:=j _ _ t;have R:=(an s).symm;rcases E' c s.data.toList with⟨u,n⟩|⟨k,u,S,n⟩;(.have d:=J n;clear n;obtain⟨fn,tmps,assign,body,T,hR⟩:=B b s wr t r;gi_wp2_with (refine⟨trivial,?_⟩;gi_at_call 218;apply(callsIn_wide.2<|Tryz.strings_Index_one _ _ _).mono;rintro e w' ⟨rfl,rfl⟩;rw[u]);apply hR.mono;rintro e G (⟨rfl,h,o⟩|⟨rfl,f⟩);(.gi_wp2;go_end0;exact⟨⟨_,I⟩,.inl<|by rw[hcut.out,d.out];exact h⟩);gi_wp2;go_end0;exact⟨⟨_,I⟩,.inr ⟨_,bT,by rw[hcut.out,d.out];exact List.prefix_refl _,f⟩⟩);have d:=J n;clear n;have w:Hid<|G0 g wr=s.size:=J (by unfold G0;rw[D]);have H:(s.extract 0 k).data.toList=s.data.toList.take k:=(by rw[sf];simp);have hr:(s.extract (k+1) s.size).data.toList=s.data.toList.drop (k+1):=(by rw[sf,Ae bT]);obtain⟨fn,tmps,assign,body,T,hR⟩:=B b (s.extract 0 k) wr t GJ;gi_wp2_with (refine⟨trivial,?_⟩;gi_at_call 218;apply(callsIn_wide.2<|Tryz.strings_Index_one _ _ _).mono;rintro e w' ⟨rfl,rfl⟩;rw[u]);apply hR.mono;rintro e G (⟨rfl,h,o⟩|⟨rfl,f⟩);(.obtain⟨ab,ad,aD⟩:=j _ _ h;have p:G.cell? (U g 0)=some (.string s):=(by rw[o];exact D);gi_wp2;go_roundw;(case rel =>refine⟨b++[(s.extract 0 k).data.toList],s.extract (k+1) s.size,?_,?_,q _ _ _ h,?_⟩;(.rw[Bx];omega);(.exact J<|by rw[hcut.out,d.out,H,hr];simp);exact Cd _ _ _<|by rw[p];rfl);case measure =>rw[w.out];unfold G0;rw[Cd _ _ _<|by rw[p];rfl];simp only[Bx];omega);gi_wp2;refine bL (results_none I _ _ _) I ?_;exact⟨⟨_,I⟩,.inr ⟨_,bT,⟨dA c (s.data.toList.drop<|k+1),by rw[hcut.out,d.out,H];simp⟩,f⟩⟩
def Dn(s sep:F)w:cL 222 #[s,sep] w λe w'=>e=.returned (.func (.func 326) #[] #[.pointer<|some ⟨w.heap.size+1,0,none⟩,bR w,.pointer<|some ⟨w.heap.size+2,0,none⟩])/\((w.alloc<|.cells #[s] 9).alloc<|.cells #[sep] 9).alloc (.cells #[mI 0] 3)=w':=by have a:cL 282 #[s,sep,mI 0] w λe w'=>e=.returned (.func (.func 326) #[] #[.pointer<|some ⟨w+1,0,none⟩,bR w,.pointer<|some ⟨w+2,0,none⟩])/\((w.alloc<|.cells #[s] 9).alloc<|.cells #[sep] 9).alloc (.cells #[mI 0] 3)=w':=(by go_enter func282,ntmps282;go_wp2;go_ret;exact⟨bT,bT⟩);go_enter func222,ntmps222;go_wp2_with fail;apply a.Q;rintro e b ⟨rfl,rfl⟩;exact pY
end Go.Proofs.YtkdneaemikbhkaaGreatDoor
