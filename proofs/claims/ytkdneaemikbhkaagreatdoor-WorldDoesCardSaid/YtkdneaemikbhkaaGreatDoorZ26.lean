import Derived.Test.YtkdneaemikbhkaaGreatDoorZ13
set_option linter.all false
set_option maxRecDepth 100000
set_option maxHeartbeats 40000000
namespace Go.Proofs.YtkdneaemikbhkaaGreatDoor
open _root_.Go.Proofs.Tryz Go.RowKit Go.Deep
open Go.ChangeShapes Go.WideShapes Go.ChangeAt Go.WideElems
structure wR where
 bE:Int
 X:l4
 ax:Bool
 text:F
 user:F
 pass:F
 aA:F
 cert:Int
 all:Bool
 n:Int
abbrev wR.arr(o:wR):gr:=#[mI o.bE,mI o.X.part,.bool o.X.ar.sec,.string o.X.ar.host,mI o.X.ar.port,.bool o.X.dest.sec,.string o.X.dest.host,mI o.X.dest.port,.string o.X.path,.string o.X.query,.string o.X.method,.slice o.X.addr o.X.bA.length o.X.cap,.bool o.X.bB,.string o.X.body,.bool o.ax,.string o.text,.string o.user,.string o.pass,.string o.aA,mI o.cert,.bool o.all,mI o.n]
structure wR.Ok (w:tW) (o:wR):Prop where
 bE:(Lit.int .i64 o.bE).wf=true
 X:o.X.Ok w
 text:o.text.size<=reachBytes
 user:o.user.size<=reachBytes
 pass:o.pass.size<=reachBytes
 aA:o.aA.size<=reachBytes
 cert:(Lit.int .i64 o.cert).wf=true
 n:(Lit.int .i64 o.n).wf=true
def wR.Ok.later{w w'}{o:wR}(h:o.Ok w)(hb:Y w w'):o.Ok w':=⟨h.bE,h.X.later hb,h.text,h.user,h.pass,h.aA,h.cert,h.n⟩
def Gc:prog.cellsOf 48=22:=dU
def N7:prog.cellsOf 46=2:=dU
def ae7{w}{cs}(h:Rd prog w 48 cs):∃o:wR,cs=o.arr.toList/\o.Ok w:=by obtain⟨hl,_⟩:=h.struct underlying48;rw[Gc] at hl;(match cs,hl with|[c0,c1,c2,c3,c4,c5,H,K,L,M,c,d,e,f,g,i,a,b,j,k,l,m],_ =>have N:Rd prog w 3 [c0]:=h.field underlying48 0 I r3;have P:Rd prog w 44 [c1,c2,c3,c4,c5,H,K,L,M,c,d,e,f]:=h.field underlying48 1 I vO;have R:Rd prog w 4 [g]:=h.field underlying48 2 I s';have S:Rd prog w 9 [i]:=h.field underlying48 3 I fp;have s:Rd prog w 46 [a,b]:=h.field underlying48 4 I N7;have p:Rd prog w 9 [a]:=s.field underlying46 0 I fp;have q:Rd prog w 9 [b]:=s.field underlying46 1 I fp;have T:Rd prog w 9 [j]:=h.field underlying48 5 I fp;have W:Rd prog w 3 [k]:=h.field underlying48 6 I r3;have r7:Rd prog w 4 [l]:=h.field underlying48 7 I s';have r8:Rd prog w 3 [m]:=h.field underlying48 8 I r3;obtain⟨bE,t,z0⟩:=N.int underlying3;obtain⟨r,u,z1⟩:=Wl P;obtain⟨ax,v⟩:=R.bool underlying4;obtain⟨text,x,z3⟩:=S.string underlying9;obtain⟨ao,y,z4⟩:=p.string underlying9;obtain⟨az,z,z5⟩:=q.string underlying9;obtain⟨cn,B,z6⟩:=T.string underlying9;obtain⟨cert,C,z7⟩:=W.int underlying3;obtain⟨all,D⟩:=r7.bool underlying4;obtain⟨n,G,z9⟩:=r8.int underlying3;simp at t u v x y z B C D G;obtain⟨f1,f2,f3,f4,f5,f6,f7,f8,f9,f10,f11,f12,f13⟩:=u;subst t f1 f2 f3 f4 f5 f6 f7 f8 f9 f10 f11 f12 f13 v x y z B C D G;exact⟨⟨bE,r,ax,text,ao,az,cn,cert,all,n⟩,I,⟨z0,z1,z3,z4,z5,z6,z7,z9⟩⟩)
def rr(o:wR):Bool:=qK o.X ||decide (700<o.text.size/\o.text.size<=3000)||decide (3009<o.text.size)||decide (200<o.user.size+o.pass.size+o.aA.size)
def T1 o w(b:o.Ok w):cL 5 #[.agg o.arr] w (dx (.bool<|rr o) w):=by have g:=b.text;have z2:=b.user;have z3:=b.pass;have z4:=b.aA;simp only[reachBytes] at g z2 z3 z4;have d:Y w (w.alloc<|.cells o.arr 48):=(aL _ _).alloc lJ _;unfold rr;go_enter func5,ntmps5;go_wp2_with fail;apply(MW o.X _<|b.X.later d).Q;rintro e c ⟨rfl,pB⟩;have a:Below (w+1) (w.alloc<|.cells o.arr 48) c:=JD;have f:=cB a;have h:c.cell? (U w 15)=some (.string o.text):=vP a 15 _ I;have i:c.cell? (U w 16)=some (.string o.user):=vP a 16 _ I;have j:c.cell? (U w 17)=some (.string o.pass):=vP a 17 _ I;have k:c.cell? (U w 18)=some (.string o.aA):=vP a 18 _ I;cases l:qK o.X;(.by_cases m:700<o.text.size <;> by_cases n:o.text.size<=3000 <;> by_cases p:3009<o.text.size <;> by_cases q:200<o.user.size+o.pass.size+o.aA.size;(all_goals first|(exfalso;omega)|skip);all_goals go_wp2;go_ret;refine⟨aW ?_,f⟩;grind);go_wp2;go_ret;simp_all
end Go.Proofs.YtkdneaemikbhkaaGreatDoor
namespace Go.Proofs.YtkdneaemikbhkaaGreatDoor
open _root_.Go.Proofs.Tryz Go.RowKit Go.Deep
def afi(p:F):Bool:=p.toList==[46]
def afj(p:F):Bool:=p.toList==[46,46]
def kn(keep:Nat)(last:Bool)(l:jm)(p:F):jm:=
 if afj p then (if keep<l.length then l.dropLast else l)++(if last then [⟨#[]⟩] else [])
 else if afi p then l++(if last then [⟨#[]⟩] else []) else l++[p]
def jx(keep:Nat)(ps:jm):Nat->jm
 |0=>[]
 |n+1=>kn keep (n+1==ps.length) (jx keep ps n)<|ps.getD n ⟨#[]⟩
def Og last l p e:kn 1 last (e::l) p=e::kn 0 last l p:=by unfold kn;cases l with|nil =>grind|cons x r =>grind
def BH(ps:jm):∀n,jx 1 (⟨#[]⟩::ps) (n+1)=⟨#[]⟩::jx 0 ps n
 |0=>by simp [jx,kn,afi,afj]
 |n+1=>by
  rw[jx,BH ps n,Og]
  simp [jx]
def Ue keep last l p:(kn keep last l p).length<=l.length+1:=by unfold kn;grind
def wY(keep:Nat)(ps:jm):∀n,(jx keep ps n).length<=n
 |0=>gK _
 |n+1=>de (Ue _ _ _ _) (Nat.succ_le_succ<|wY keep ps n)
def zY(keep m:Nat)(ps:jm)(h:∀p∈ps,p.size<=m):∀n,∀p∈jx keep ps n,p.size<=m
 |0,p,a=>by simp [jx] at a
 |n+1,p,a=>by
  have ih:=zY keep m ps h n
  have d:(⟨#[]⟩:F).size<=m:=bt _
  have e:(ps.getD n ⟨#[]⟩).size<=m:=by
   rw[rz]
   cases hq:ps[n]? with
   |none=>exact d
   |some q=>exact h q (um hq)
  unfold jx kn at a
  have c:∀b:Bool,p∈(if b then [(⟨#[]⟩:F)] else [])->p.size<=m:=by
   intro b hb;cases b <;> simp at hb;subst hb;exact d
  split at a
  .rcases ek.1 a with a|a
   .split at a
    .exact ih p (List.dropLast_subset _ a)
    .exact ih p a
   .exact c _ a
  .split at a
   .rcases ek.1 a with a|a
    .exact ih p a
    .exact c _ a
   .rcases ek.1 a with a|a
    .exact ih p a
    .simp at a;subst a;exact e
def ZH keep ps(h:ps≠[]):jx keep ps ps.length≠[]:=by obtain⟨n,b⟩:∃n,ps.length=n+1:=⟨ps.length - 1,by cases ps with|nil=>exact absurd I h|cons a l=>simp⟩;rw[b,jx,b];unfold kn;split;(.simp);split <;> simp
def dh(s:F):F:=if s.data.toList.head?=some 47 then s else ⟨#[47]⟩++s
def lO(s:F):F:=⟨(Lib.join (aT (jx 1 (bu 47<|dh s) (bu 47<|dh s).length)) [47]).toArray⟩
def Gi s:∃r,(dh s).data.toList=47::r:=by unfold dh;split;(.rename_i h;(cases hl:s.data.toList with|nil =>rw[hl] at h;cases h|cons a l =>grind));simp
def Oh s t(b:(dh s).data.toList=47::t.data.toList):lO s=⟨#[47]⟩++⟨(Lib.join (aT<|jx 0 (bu 47 t) (bu 47 t).length) [47]).toArray⟩:=by have c:bu 47 (dh s)=⟨#[]⟩::bu 47 t:=Eb (by rw[fl,b,pX,<-fl];simp [aT]);apply kq;unfold lO;rw[c,iN,BH,bD,cu,bD];have a:jx 0 (bu 47 t) (bu 47 t).length≠[]:=ZH _ _ ahy;cases d:jx 0 (bu 47 t) (bu 47 t).length with|nil =>exact absurd d a|cons x r =>rfl
def q2 s:(dh s).size<=s.size+1:=by unfold dh;split;(.omega);rw[ei,show(⟨#[47]⟩:F).size=1 from I];omega
def nn(s:F)w:cL 34 #[s,.string ⟨#[47]⟩] w (rV (.bool<|s.data.toList.head?==some 47) w):=by apply(Tryz.strings_HasPrefix s ⟨#[47]⟩ w).Q;rintro e w' ⟨rfl,rfl⟩;refine⟨aW ?_,I⟩;(cases s.data.toList with|nil =>rfl|cons a l =>rw[D7];simp only[Lib.hasPrefix,List.isPrefixOf,List.head?_cons,Bool.and_true,beq_iff_eq,Kb];exact eq_comm)
def aiU(B:Nat)(W w:tW)(v:tV)(l:jm):Prop:=ay w B v l/\Below B W w
def aiU.keep{B}{W w w'}{v a}{l}{c:F}(h:aiU B W w v l)(b:B<=w.heap.size)(d:ay w' B a<|l++[c])(e:(w.alloc<|.cells #[c] 9).grownBy w' v.ownBlock):aiU B W w' a<|l++[c]:=
 ⟨d,bn h.2 h.1 e b⟩
def ZI(s:F)w(hM:iU w)(hs:s.size<=100000):cL 243 #[s] w (dx (.string<|lO s) w):=by have ab:=q2 s;have H:=kb 47<|dh s;have z:=kc 47<|dh s;have B:=gO 47 (dh s) w hM O;have u:=nn s w;have a8:=iQ (P:=prog) w ⟨#[47]⟩ s (by rw[show(⟨#[47]⟩:F).size=1 from I];omega);unfold lO;have K:bu 47 (dh s)≠[]:=(by intro e;have:=fl 47<|dh s;rw[e] at this;exact s_ 47 _ this.symm);have M:=IQ.2 K;have ad:(s.data.toList.head?=some 47/\dh s=s)\/(¬s.data.toList.head?=some 47/\dh s=⟨#[47]⟩++s):=(by unfold dh;grind);generalize hQ:bu 47 (dh s)=ps at B H z K M;clear hQ;have ba:ps.length<=200000:=O;have N:∀p∈ps,p.size<=200000:=λp h=>(by have:=z p h;omega);clear H z;rcases ad with⟨x,C⟩|⟨x,C⟩;all_goals rw[C] at B;(first|(rw[x] at u;simp only[beq_self_eq_true] at u)|rw[beq_eq_false_iff_ne.2 x] at u);clear x C ab;go_enter func243,ntmps243;go_wp2_with fail;apply u.Q;rintro e r ⟨rfl,rfl⟩;go_wp2_with fail;apply B.Q;rintro e w2 ⟨rfl,rfl⟩;have hP:=jo w ps;obtain⟨r,D⟩:∃r,r=w.alloc (.cells (ps.map Value.string).toArray 9):=⟨_,I⟩;have aS:Y w r:=(by rw[D];exact(aL _ _).alloc lJ _);rw[<-D] at hP ⊢;clear D hM;go_wp2;go_loopw [3,17] (λv i wr=>∃(k:Nat),k<=ps/\i=mI k/\ay wr r v (jx 1 ps k)/\Y r wr) (λ_ i _=>ps.length - (intOf i).toNat);(.exact⟨0,bt _,I,ay.nil _ _,aL _ _⟩);obtain⟨k,hk,rfl,hO,t⟩:=hrel;have R:=wY 1 ps k;by_cases S:k<ps;(.obtain⟨b,aj,ha,G⟩:=(hP.later t) k S;simp only[Kb,Addr.mk.injEq,and_true] at ha;obtain⟨rfl,rfl⟩:=ha;rw[lp] at G;have gw:Hid<|jx 1 ps (k+1)=kn 1 (k+1==ps.length) (jx 1 ps k) ps[k]:=J (by rw[jx];congr 1;simp [S]);obtain⟨a,E,rfl,_,y,_,_⟩:=hO.shape;have f:=t.size;have n:(jx 1 ps k).length+1<=1099511627776:=O;have c:(((k:Int)==(ps.length:Int) - 1)=true/\(k+1==ps.length)=true)\/(((k:Int)==(ps.length:Int) - 1)=false/\(k+1==ps.length)=false):=gA;generalize jx 1 ps k=L at hO gw R n y ⊢;by_cases d2:afj ps[k]=true;(.have b2:(ps[k].toList==[46,46])=true:=d2;have QY:=J d2;clear d2;by_cases W:1<L.length;(.obtain⟨m,q⟩:∃m,L.length=m+2:=⟨L.length - 2,O⟩;have d:L.dropLast.length+1<=1099511627776:=PJ;rw[q] at hO R n y ⊢;have VR:=J W;clear q W;have hO':=ay.pop hO;rcases c with⟨T,g⟩|⟨T,g⟩;(.have EM:=J g;clear g;go_wp2_with (at_builtin;refine cW I _ _ I _ r _ L.dropLast I ?_ ⟨#[]⟩ _ I ?_ ?_ ?_ ?_;exact hO';exact I;exact d;exact f;intro eS w3 j l);refine bM ?_;exact⟨k+1,O,cJ,by rw[gw.out];unfold kn;rw[a' QY.out,a' VR.out,EM.out];exact j,bn t hO' l f⟩);have EM:=J g;clear g;go_wp2;refine bM ?_;exact⟨k+1,O,cJ,akO,t⟩);have d:=n;have VR:=J W;rcases c with⟨T,g⟩|⟨T,g⟩;(.have EM:=J g;clear g;go_wp2_with (at_builtin;refine cW I _ _ I _ r _ L I ?_ ⟨#[]⟩ _ I ?_ ?_ ?_ ?_;exact hO;exact I;exact d;exact f;intro eS w3 j l);refine bM ?_;exact⟨k+1,O,cJ,by rw[gw.out];unfold kn;rw[a' QY.out,aY VR.out,EM.out];exact j,bn t hO l f⟩);have EM:=J g;clear g;go_wp2;refine bM ?_;exact⟨k+1,O,cJ,akP,t⟩);have b2:(ps[k].toList==[46,46])=false:=ahz;have QY:=J d2;clear d2;have d:=n;by_cases d1:afi ps[k]=true;(.have b1:(ps[k].toList==[46])=true:=d1;have d1':=J d1;clear d1;rcases c with⟨T,g⟩|⟨T,g⟩;(.have EM:=J g;clear g;go_wp2_with (at_builtin;refine cW I _ _ I _ r _ L I ?_ ⟨#[]⟩ _ I ?_ ?_ ?_ ?_;exact hO;exact I;exact d;exact f;intro eS w3 j l);refine bM ?_;exact⟨k+1,O,cJ,by rw[gw.out];unfold kn;rw[aY QY.out,a' d1'.out,EM.out];exact j,bn t hO l f⟩);have EM:=J g;clear g;go_wp2;refine bM ?_;exact⟨k+1,O,cJ,akQ,t⟩);have b1:(ps[k].toList==[46])=false:=(by cases h:(ps[k].toList==[46]);rfl;exact absurd h d1);have d1':=J d1;clear d1 c;go_wp2_with (at_builtin;refine cW I _ _ I _ r _ L I ?_ ps[k] _ I ?_ ?_ ?_ ?_;exact hO;exact I;exact d;exact f;intro eS w3 j l);refine bM ?_;exact⟨k+1,O,cJ,by rw[gw.out];unfold kn;rw[aY QY.out,aY d1'.out];exact j,bn t hO l f⟩);obtain rfl:k=ps:=O;obtain⟨a,E,rfl,a1,hc,q,_⟩:=hO.shape;have hj:=o6 a E (jx 1 ps ps) ⟨#[47]⟩ wr a1 hc O (de (sl 200000 [47] (jx 1 ps ps)<|zY 1 200000 ps N ps)<|by have W:(jx 1 ps ps).length*(200000+([47]:bs).length)<=200000*200001:=wL O Z;omega);go_wp2_with fail;apply hj.Q;rintro e w3 ⟨rfl,a6⟩;go_wp2;go_ret;exact⟨I,(aS.aD t).aD a6⟩
def ZJ(s:F)w(hM:iU w)(hs:s.size<=100000):cL 205 #[s] w (dx (.string<|lO s) w):=by have a1:=q2 s;obtain⟨r,hr⟩:=Gi s;have G:1<=(dh s).size:=(by rw[an,hr];simp);obtain⟨t,ht⟩:∃t:F,t=(dh s).extract 1 (dh s).size:=⟨_,I⟩;have H:(dh s).data.toList=47::t.data.toList:=(by rw[ht,mT,hr];rfl);have b0:t.size<=100001:=(by have:=oX List.length H;rw[<-an,iN,<-an] at this;omega);rw[Oh s t H];have S:=kb 47 t;have K:=kc 47 t;have M:=λw' a6=>gO 47 t w' a6 O;have bo:=iQ (P:=prog) w ⟨#[47]⟩ s (by rw[show(⟨#[47]⟩:F).size=1 from I];omega);have T:bu 47 t≠[]:=ahy;have W:=IQ.2 T;generalize hQ:bu 47 t=ps at M S K T W;clear hQ H hr;have bv:ps.length<=200000:=O;have ab:∀p∈ps,p.size<=200000:=λp h=>(by have:=K p h;omega);clear S K;have a8:(s.toList.isEmpty=true/\dh s=⟨#[47]⟩++s)\/(∃h0:0<s.size,s.toList.isEmpty=false/\((s[0].toNat:Int)!=47)=true/\dh s=⟨#[47]⟩++s)\/(∃h0:0<s.size,s.toList.isEmpty=false/\((s[0].toNat:Int)!=47)=false/\dh s=s):=(by rw[eR];(cases hl:s.data.toList with|nil =>exact .inl ⟨I,by unfold dh;rw[hl,aY bT]⟩|cons a l =>have h0:0<s.size:=(by rw[an,hl];simp);have ba:0<s.data.toList.length:=Gj;have ha:s[0]=a:=(by rw[<-b8 s 0 h0 ba];simp [hl]);right;by_cases q:a=47;(.exact .inr ⟨h0,I,by rw[ha,q];rfl,by unfold dh;rw[hl,q];rfl⟩);refine .inl ⟨h0,I,?_,by unfold dh;rw[hl,aY<|by simpa using q]⟩;rw[ha,bne_iff_ne];intro e;have e':a.toNat=47:=O;exact q<|Fy e'));rcases a8 with⟨C,z⟩|⟨h0,C,q,z⟩|⟨h0,C,q,z⟩;all_goals rw[z] at ht G;subst ht;(try rw[show((⟨#[47]⟩:F)++s).size=1+s.size from Gk] at M);clear z a1;go_enter func205,ntmps205;go_wp2_with fail;apply(M _ (hM.later ((aL _ _).alloc lJ<|.cells #[] 9))).Q;rintro e w2 ⟨rfl,rfl⟩;have hP:=jo (w.alloc<|.cells #[] 9) ps;rw[b9] at hP;obtain⟨u,N⟩:∃u,u=(w.alloc<|.cells #[] 9).alloc (.cells (ps.map Value.string).toArray 9):=⟨_,I⟩;have bb:Y w u:=(by rw[N];exact((aL _ _).alloc lJ _).alloc bT _);rw[<-N] at hP ⊢;clear N hM;go_wp2;go_loopw [3,22] (λv i wr=>∃(k:Nat),k<=ps/\i=mI k/\A1 wr u w v (jx 0 ps k)/\Y u wr) (λ_ i _=>ps.length - (intOf i).toNat);(.exact⟨0,bt _,I,.inr ⟨I,I⟩,aL _ _⟩);obtain⟨k,hk,rfl,hO,y⟩:=hrel;have ad:=wY 0 ps k;by_cases aS:k<ps;(.obtain⟨b,aj,ha,R⟩:=(hP.later y) k aS;simp only[Kb,Addr.mk.injEq,and_true] at ha;obtain⟨rfl,rfl⟩:=ha;rw[lp] at R;have gw:Hid<|jx 0 ps (k+1)=kn 0 (k+1==ps.length) (jx 0 ps k) ps[k]:=J (by rw[jx];congr 1;simp [aS]);obtain⟨a,E,rfl,_,D,_,_⟩:=hO.shape;have B:=y.size;have n:(jx 0 ps k).length+1<=1099511627776:=O;have c:(((k:Int)==(ps.length:Int) - 1)=true/\(k+1==ps.length)=true)\/(((k:Int)==(ps.length:Int) - 1)=false/\(k+1==ps.length)=false):=gA;generalize jx 0 ps k=L at hO gw ad n D ⊢;by_cases d2:afj ps[k]=true;(.have b2:(ps[k].toList==[46,46])=true:=d2;have b1:(ps[k].toList==[46])=false:=(by rw[beq_iff_eq.1 b2];rfl);have QY:=J d2;clear d2;by_cases h1:0<L.length;(.obtain⟨m,x⟩:∃m,L.length=m+1:=⟨L.length - 1,O⟩;have d:L.dropLast.length+1<=1099511627776:=PJ;rw[x] at hO ad n D ⊢;have VR:=J h1;clear x h1;have hO':=A1.pop hO;rcases c with⟨bl,g⟩|⟨bl,g⟩;(.have EM:=J g;clear g;go_wp2_with (at_builtin;refine iV I _ _ I _ u u w _ L.dropLast I ?_ ?_ ⟨#[]⟩ _ I ?_ ?_ ?_ ?_;exact hO';exact y;exact I;exact d;exact B;intro eS w3 j f);refine bM ?_;exact⟨k+1,O,cJ,by rw[gw.out];unfold kn;rw[a' QY.out,a' VR.out,EM.out];exact .inl j,f⟩);have EM:=J g;clear g;go_wp2;refine bM ?_;exact⟨k+1,O,cJ,akO,y⟩);have d:=n;have VR:=J h1;rcases c with⟨bl,g⟩|⟨bl,g⟩;(.have EM:=J g;clear g;go_wp2_with (at_builtin;refine iV I _ _ I _ u u w _ L I ?_ ?_ ⟨#[]⟩ _ I ?_ ?_ ?_ ?_;exact hO;exact y;exact I;exact d;exact B;intro eS w3 j f);refine bM ?_;exact⟨k+1,O,cJ,by rw[gw.out];unfold kn;rw[a' QY.out,aY VR.out,EM.out];exact .inl j,f⟩);have EM:=J g;clear g;go_wp2;refine bM ?_;exact⟨k+1,O,cJ,akP,y⟩);have b2:(ps[k].toList==[46,46])=false:=ahz;have QY:=J d2;clear d2;have d:=n;by_cases d1:afi ps[k]=true;(.have b1:(ps[k].toList==[46])=true:=d1;have d1':=J d1;clear d1;rcases c with⟨bl,g⟩|⟨bl,g⟩;(.have EM:=J g;clear g;go_wp2_with (at_builtin;refine iV I _ _ I _ u u w _ L I ?_ ?_ ⟨#[]⟩ _ I ?_ ?_ ?_ ?_;exact hO;exact y;exact I;exact d;exact B;intro eS w3 j f);refine bM ?_;exact⟨k+1,O,cJ,by rw[gw.out];unfold kn;rw[aY QY.out,a' d1'.out,EM.out];exact .inl j,f⟩);have EM:=J g;clear g;go_wp2;refine bM ?_;exact⟨k+1,O,cJ,akQ,y⟩);have b1:(ps[k].toList==[46])=false:=(by cases h:(ps[k].toList==[46]);rfl;exact absurd h d1);have d1':=J d1;clear d1 c;go_wp2_with (at_builtin;refine iV I _ _ I _ u u w _ L I ?_ ?_ ps[k] _ I ?_ ?_ ?_ ?_;exact hO;exact y;exact I;exact d;exact B;intro eS w3 j f);refine bM ?_;exact⟨k+1,O,cJ,by rw[gw.out];unfold kn;rw[aY QY.out,aY d1'.out];exact .inl j,f⟩);obtain rfl:k=ps:=O;obtain⟨a,E,rfl,bc,hc,x,_⟩:=hO.shape;have bd:=sl 200000 [47] (jx 0 ps ps)<|zY 0 200000 ps ab ps;have hj:=o6 a E (jx 0 ps ps) ⟨#[47]⟩ wr bc hc O (de bd<|by have h1:(jx 0 ps ps).length*(200000+([47]:bs).length)<=200000*200001:=wL O Z;omega);go_wp2_with fail;apply hj.Q;rintro e w3 ⟨rfl,f⟩;have bk:=iQ (P:=prog) w3 ⟨#[47]⟩ ⟨(Lib.join (aT<|jx 0 ps ps) [47]).toArray⟩ (by rw[show(⟨#[47]⟩:F).size=1 from I,nh];have h1:(jx 0 ps ps).length*(200000+([47]:bs).length)<=200000*200001:=wL O Z;omega);go_wp2;go_ret;exact⟨I,(bb.aD y).aD f⟩
end Go.Proofs.YtkdneaemikbhkaaGreatDoor
