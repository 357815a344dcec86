/- Part 8 of what the proofs of this seat share: the executor, data in memory, walks.
-/
import Derived.Test.YtjaibbcbjfapaaaGreatDoorK7
import Derived.Test.YtjaibbcbjfapaaaGreatDoorK4
import Derived.Test.YtjaibbcbjfapaaaGreatDoorK5
import Derived.Test.YtjaibbcbjfapaaaGreatDoorK2
import Derived.Test.YtjaibbcbjfapaaaGreatDoorK3
set_option linter.all false
set_option maxHeartbeats 8000000
set_option maxRecDepth 100000
namespace Go.V
open Go
def s3:=@List.map_singleton
def AW:=@List.mem_map_of_mem
def FP:=@List.length_eq_one_iff
def Dg:=@List.flatMap_assoc
def TC:=@List.count_eq_zero_of_not_mem
def TD:=@List.perm_ext_iff_of_nodup
def TE:=@List.append_cancel_left
def Jk:=@Bool.decide_and
def M3:=@List.Sublist.refl
def TF:=@List.map_reverse
def M4:=@List.map_id
variable{pl:List (ByteArray×Int)}{F:List a0}{jz eh ds':List ak}{i n e c' c da u:Nat}{l bq qe:List Nat}{α:Type}{K:dK->aI->List aD->Prop}{s:Operand}{t:bf}{dd aH:dV}{xs cb:List Value}{ad:Addr}{Mr M:List aD}{r:Int}{I J:aI}{a:Option Addr}{ks aB:List Int}{os:aO}
structure TG{α:Type}(F:ak->List α->α):Prop where
 ao:∀ d l,F (d.dJ l)=F d
 one:∀ d x,d.k=4\/d.k=5->F d [x]=x
 nest:∀ d d' xs ys fo,d.k=4\/d.k=5->d'.k=d.k->F d (xs++F d' ys::fo)=F d (xs++(ys++fo))
 drop:∀ d d' xs fo,d.k=4->d'.k=0->F d (xs++F d' []::fo)=F d (xs++fo)
 aqC:∀ d d',d.k=4->d'.k=0->F d []=F d' []
 aqD:∀ d d',d.k=5->d'.k=1->d'.b0=0->d'.s1=0->d'.s2=0->d'.cg=0->F d []=F d' []
def Jl(xs ys:List (a0×List Nat)):kp (xs++ys)=kp xs++bif xs.all (·.1.z)then kp ys else []:=by
 induction xs with
 |nil=>rfl
 |cons x xs aX=>
  rw[pP,kp,kp,aX,xD];cases x.1.z<;>simp
def aqE(ks:List a0)(a2:a0×Bool):(ks.foldl lb a2).1.z=(a2.1.z&&ks.all (·.z)):=by
 induction ks generalizing a2 with
 |nil=>simp| cons k ks aX=>rw[kw,aX,xD];simp[lb,Bool.and_assoc]
def adj(ks:List a0)(a2:a0×Bool):(ks.foldl lb a2).1.s=(a2.1.s||ks.any (·.s)):=by
 induction ks generalizing a2 with
 |nil=>simp| cons k ks aX=>rw[kw,aX,List.any_cons];simp[lb,Bool.or_assoc]
def Jm(ks:List a0)(a2:a0×Bool):(ks.foldl lb a2).2=(a2.2&&ks.all (·.jZ)):=by
 induction ks generalizing a2 with
 |nil=>simp| cons k ks aX=>rw[kw,aX,xD];simp[lb,Bool.and_assoc]
def aqF(ks:List a0):∀ a2:a0×Bool,(ks.foldl lb a2).1.f=(a2.1.f||(a2.2&&(hO ks).1.f)):=by
 unfold hO
 induction ks with
 |nil=>intro a2;simp
 |cons k ks aX=>
  intro a2;rw[kw,kw,aX,aX (lb _ k)];simp only[lb];cases a2.1.f<;>cases a2.2<;>cases k.f<;>cases k.jZ<;>simp
def Jn(ks:List a0):(hC ks).z=ks.all (·.z):=by show(hO ks).1.z=_;unfold hO;rw[aqE,m5]
theorem TH(ks:List a0):(hC ks).jZ=ks.all (·.jZ):=by
 have aa:=Jn ks;have ab:(hC ks).s=(ks.any (·.s)&&ks.all (·.jZ)):=by show((hO ks).1.s&&(hO ks).2)=_;unfold hO;rw[adj,Jm,zg,m5]
 have al:(hC ks).jZ=((hC ks).z||(hC ks).s):=rfl;rw[al,aa,ab];clear aa ab al
 induction ks with
 |nil=>rfl
 |cons k ks aX=>
  rw[xD,List.any_cons,xD];have h:k.jZ=(k.z||k.s):=rfl;rw[h,<-aX];cases k.z<;>cases k.s<;>cases ks.all (·.z)<;>cases ks.any (·.s)<;>simp_all
def adk(xs ys fo:List a0):hC (xs++hC ys::fo)=hC (xs++(ys++fo)):=by
 have bg:(hC (xs++hC ys::fo)).z=(hC (xs++(ys++fo))).z:=by rw[Jn,Jn];simp[Jn]
 have hu:(hO (xs++hC ys::fo)).2=(hO (xs++(ys++fo))).2:=by unfold hO;rw[Jm,Jm];simp[TH]
 have aC:(hC (xs++hC ys::fo)).f=(hC (xs++(ys++fo))).f:=by
  show(hO _).1.f=(hO _).1.f;have e:∀ a b:List a0,(hO (a++b)).1.f=((hO a).1.f||((hO a).2&&(hO b).1.f)):=by intro a b;show((a++b).foldl lb (⟨true,false,false⟩,true)).1.f=_;rw[sL,aqF];rfl
  have aN:∀ (y:a0) (b:List a0),(hO (y::b)).1.f=(y.f||(y.jZ&&(hO b).1.f)):=by intro y b;have:=e [y] b;rw[qJ]at this;rw[this];show((false||(true&&y.f))||((true&&y.jZ)&&_))=_;rw[zg,m5,m5]
  rw[e,e xs,aN,e ys,TH];have bc:(hO ys).2=ys.all (·.jZ):=by unfold hO;rw[Jm,m5]
  rw[bc];rfl
 have aw:(hC (xs++hC ys::fo)).s=(hC (xs++(ys++fo))).s:=by
  have aa:∀ ks,(hC ks).s=(ks.any (·.s)&&ks.all (·.jZ)):=by intro ks;show((hO ks).1.s&&(hO ks).2)=_;unfold hO;rw[adj,Jm,zg,m5]
  rw[aa,aa];simp only[List.any_append,List.any_cons,He,xD,TH,aa];cases xs.any (·.s)<;>cases ys.any (·.s)<;>cases fo.any (·.s)<;>cases xs.all (·.jZ)<;>cases ys.all (·.jZ)<;>cases fo.all (·.jZ)<;>rfl
 cases a8:hC (xs++hC ys::fo);cases ah:hC (xs++(ys++fo));rw[a8,ah]at bg aC aw;simp only at bg aC aw;rw[bg,aC,aw]
def aqG(ks:List a0):∀ f:a0,ks.foldl pf f=pf f (p1 ks):=by
 unfold p1
 induction ks with
 |nil=>intro f;simp[pf]
 |cons k ks aX=>
  intro f;rw[kw,kw,aX,aX (pf _ k)];simp only[pf,a0.mk.injEq];refine⟨?_,?_,?_⟩<;>cases f.z<;>cases f.s<;>cases f.f<;>cases k.z<;>cases k.s<;>cases k.f<;>simp
def aqH(xs ys fo:List a0):p1 (xs++p1 ys::fo)=p1 (xs++(ys++fo)):=by show(xs++p1 ys::fo).foldl pf _=(xs++(ys++fo)).foldl pf _;rw[sL,sL,sL,kw,<-aqG ys]
def aqI(x:a0):hC [x]=x:=by cases x with | mk z s f=>cases z<;>cases s<;>cases f<;>rfl
def aqJ(x:a0):p1 [x]=x:=by cases x with | mk z s f=>cases z<;>cases s<;>cases f<;>rfl
def aqK{d:ak}(h:d.k=4)(ks:List a0):gL d ks=hC ks:=by unfold gL;simp[h]
def aqL{d:ak}(h:d.k=5)(ks:List a0):gL d ks=p1 ks:=by unfold gL;simp[h]
def AX{d:ak}(h:d.k=4)(xs:List xq):hZ pl F d xs=((hC (xs.map (·.1.1)),kp (xs.map (·.1))),xs.any (·.2)):=by unfold hZ rP lM yS;simp only[aqK h,h,gE];simp;rfl
def FQ{d:ak}(h:d.k=5)(xs:List xq):hZ pl F d xs=((p1 (xs.map (·.1.1)),(xs.map (·.1)).flatMap (·.2)),xs.any (·.2)):=by unfold hZ rP lM yS;simp only[aqL h,h,gE];simp;rfl
def adl{d:ak}(h:d.k=0):hZ pl F d []=((⟨true,false,false⟩,[]),false):=by unfold hZ rP lM yS gL;simp[h]
def aqM{d:ak}(h:d.k=1)(ax:d.jW=true):hZ pl F d []=((⟨false,false,true⟩,[]),false):=by unfold hZ rP lM yS gL;simp[h,ax]
def TI(pl:List (ByteArray×Int))(F:List a0):TG (hZ pl F):=by
 refine⟨λd l=>rfl,?_,?_,?_,?_,?_⟩
 ·rintro d x (h | h)
  ·rw[AX h];simp[aqI,kp]
  ·rw[FQ h];simp[aqJ]
 ·rintro d d' xs ys fo (h | h) bu
  ·rw[h]at bu;rw[AX h,AX h,AX bu];have e:(xs++((hC (ys.map (·.1.1)),kp (ys.map (·.1))),ys.any (·.2))::fo).map (·.1.1)=xs.map (·.1.1)++hC (ys.map (·.1.1))::fo.map (·.1.1):=by simp
   rw[e,adk];have bc:kp ((xs++((hC (ys.map (·.1.1)),kp (ys.map (·.1))),ys.any (·.2))::fo).map (·.1))=kp ((xs++(ys++fo)).map (·.1)):=by rw[cJ,ch,cJ,cJ,Jl,Jl (xs.map _),Jl (ys.map _),kp];rw[Jn];simp only[Lh];rfl
   rw[bc];simp
  ·rw[h]at bu;rw[FQ h,FQ h,FQ bu];have e:(xs++((p1 (ys.map (·.1.1)),(ys.map (·.1)).flatMap (·.2)),ys.any (·.2))::fo).map (·.1.1)=xs.map (·.1.1)++p1 (ys.map (·.1.1))::fo.map (·.1.1):=by simp
   rw[e,aqH];simp
 ·rintro d d' xs fo h bu;rw[AX h,AX h,adl bu];have e:(xs++((⟨true,false,false⟩,[]),false)::fo:List xq).map (·.1.1)=xs.map (·.1.1)++hC []::fo.map (·.1.1):=by simp;rfl
  rw[e,adk];have bc:kp ((xs++((⟨true,false,false⟩,[]),false)::fo:List xq).map (·.1))=kp ((xs++fo).map (·.1)):=by rw[cJ,ch,cJ,Jl,Jl,kp];rfl
  rw[bc];simp
 ·rintro d d' h bu;rw[AX h,adl bu];rfl
 ·rintro d d' h bu ax aa ab al;rw[FQ h,aqM bu (by unfold ak.jW;simp[ax,aa,ab,al])];rfl
open Go Go.Proofs
inductive aP where
 |mk:Nat->List aP->aP
namespace aP
def bs:aP->Nat
 |mk k _=>k
def sub:aP->List aP
 |mk _ ks=>ks
mutual
def c5:aP->List Nat
 |mk k ks=>M5 ks++[k]
def M5:List aP->List Nat
 |[]=>[]| a::l=>c5 a++M5 l
end
def adm:∀ l:List aP,M5 l=l.flatMap c5
 |[]=>rfl| a::l=>by rw[M5,adm l];rfl
def mT(k:Nat)(ks:List aP):c5 (mk k ks)=ks.flatMap c5++[k]:=by rw[c5,adm]
def ind{P:aP->Prop}(h:∀ k ks,(∀ c∈ks,P c)->P (mk k ks)):∀ T,P T
 |mk k ks=>h k ks (λc ar=>ind h c)
def FR:∀ T:aP,T.bs∈T.c5
 |mk k ks=>by rw[mT];exact sf _ (.head _)
end aP
inductive cI(ns:List ak):aP->Prop
 |mk {k:Nat} {ks:List aP}:k<ns.length->(nodeAt ns k).ao=ks.map (λc=>(c.bs:Int))->(∀ c∈ks,cI ns c)->cI ns (.mk k ks)
def r2(ns:List ak):Prop:=∀ j (h:j<ns.length),∀ k∈ns[j].ao,0<=k/\k<j
def cI.inv{ns:List ak}{k:Nat}{ks:List aP}(h:cI ns (.mk k ks)):k<ns.length/\(nodeAt ns k).ao=ks.map (λc=>(c.bs:Int))/\∀ c∈ks,cI ns c:=by
 cases h with
 |mk aa ab al=>exact⟨aa,ab,al⟩
def cI.nz{ns:List ak}:∀ {T:aP},cI ns T->T.bs<ns.length
 | .mk k ks,h=>h.inv.1
def r2.node{ns:List ak}(af:r2 ns){j:Nat}(ai:j<ns.length){k:Int}(h:k∈(nodeAt ns j).ao):0<=k/\k<j:=by rw[fw ai]at h;exact af j ai k h
def Jo{α β:Type}{R:α->β->Prop}:∀ {l:List α},(∀ x∈l,∃ y,R x y)->∃ m:List β,m.length=l.length/\∀ i (h:i<l.length) (bu:i<m.length),R l[i] m[i]
 |[],_=>⟨[],rfl,λi h=>absurd h (mO _)⟩
 |x::l,h=>by
  obtain⟨y,aF⟩:=h x (.head _);obtain⟨m,hm,ag⟩:=Jo λa a8=>h a (.tail _ a8);refine⟨y::m,by simp[hm],λi hi ck=>?_⟩;cases i with
  |zero=>exact aF| succ i=>exact ag i i7 (by simpa using ck)
def cI.ex{ns:List ak}(af:r2 ns):∀ k,k<ns.length->∃ T:aP,T.bs=k/\cI ns T:=by
 intro k
 induction k using Nat.strongRecOn with
 |_ k aX=>
  intro ay;obtain⟨ks,aa,ab⟩:=Jo (R:=λ(x:Int) (T:aP)=>(T.bs:Int)=x/\cI ns T) (l:=(nodeAt ns k).ao) λx ae=>by obtain⟨ax,aa⟩:=af.node ay ae;obtain⟨T,bm,dz⟩:=aX x.toNat Z Z;exact⟨T,Z,dz⟩
  refine⟨.mk k ks,rfl,.mk ay ?_ λc ar=>?_⟩;·refine oV ayP λi hi ck=>?_;rw[gl];exact(ab i hi Z).1.symm
  ·obtain⟨i,hi,rfl⟩:=hL ar;exact(ab i Z hi).2
def cI.aqN{ns:List ak}:∀ {S:aP},cI ns S->∀ {T:aP},cI ns T->S.bs=T.bs->S=T:=by
 intro S
 induction S using aP.ind with
 |h k ks aX=>
  intro cQ T bm e;cases T with
  |mk fI Jp=>
  obtain rfl:k=fI:=e;obtain⟨-,ab,al⟩:=cQ.inv;obtain⟨-,hn,tF⟩:=bm.inv;rw[ab]at hn;have ay:ks.length=Jp.length:=by simpa using congrArg List.length hn
  congr 1;refine oV ay λi hi ck=>?_;have aL:(ks.map (λc=>(c.bs:Int)))[i]?=(Jp.map (λc=>(c.bs:Int)))[i]?:=by rw[hn]
  rw[jJ,jJ,du hi,du ck]at aL;have bB:(ks[i].bs:Int)=Jp[i].bs:=eX aL;exact aX _ (bD hi) (al _ (bD hi)) (tF _ (bD ck)) Z
def cI.lt{ns:List ak}:∀ {T:aP},cI ns T->∀ x∈T.c5,x<ns.length:=by
 intro T
 induction T using aP.ind with
 |h k ks aX=>
  intro h x ae;obtain⟨aa,-,al⟩:=h.inv;rw[aP.mT]at ae;rcases cW.1 ae with ae | ae;·obtain⟨c,ar,ae⟩:=hB.1 ae;exact aX c ar (al c ar) x ae
  ·rw[ep.1 ae];exact aa
def cI.TJ{ns:List ak}(af:r2 ns){k:Nat}{ks:List aP}(h:cI ns (.mk k ks)){c:aP}(ar:c∈ks):c.bs<k:=by
 obtain⟨aa,ab,al⟩:=h.inv;have:(c.bs:Int)∈(nodeAt ns k).ao:=by rw[ab];exact c6.2 ⟨c,ar,rfl⟩
 have:=af.node aa this;omega
def cI.le{ns:List ak}(af:r2 ns):∀ {T:aP},cI ns T->∀ x∈T.c5,x<=T.bs:=by
 intro T
 induction T using aP.ind with
 |h k ks aX=>
  intro h x ae;obtain⟨aa,-,al⟩:=h.inv;rw[aP.mT]at ae;rcases cW.1 ae with ae | ae;·obtain⟨c,ar,ae⟩:=hB.1 ae;have aL:=aX c ar (al c ar) x ae;have bB:=h.TJ af ar;show x<=k;omega
  ·rw[ep.1 ae];exact cf _
def cI.congr{ns:List ak}:∀ {T:aP},cI ns T->(∀ x∈T.c5,x<jz.length/\(nodeAt jz x).ao=(nodeAt ns x).ao)->cI jz T:=by
 intro T
 induction T using aP.ind with
 |h k ks aX=>intro h ae;obtain⟨aa,ab,al⟩:=h.inv;have eR:=ae k (aP.FR (.mk k ks));refine .mk eR.1 (by rw[eR.2,ab]) λc ar=>aX c ar (al c ar) λx yX=>ae x ?_;rw[aP.mT];exact iy _ (hB.2 ⟨c,ar,yX⟩)
def adn{ns m:List ak}{k:Nat}(af:k<ns.length):nodeAt (ns++m) k=nodeAt ns k:=by unfold nodeAt;rw[bP,bP,sv af]
def FT{ns:List ak}{d:ak}:nodeAt (ns++[d]) ns.length=d:=by unfold nodeAt;rw[bP,l4 (cf _),mK];rfl
def cI.app{ns:List ak}{T:aP}(h:cI ns T)(m:List ak):cI (ns++m) T:=h.congr λx ae=>by have:=h.lt x ae;exact⟨ay3,by rw[adn this]⟩
def aqO{ns:List ak}(aj:hP (eI ns)){j:Nat}(hi:i<ns.length)(ai:j<ns.length)(bH:i≠j){k:Int}(aa:k∈(nodeAt ns i).ao)(ab:k∈(nodeAt ns j).ao):False:=by
 rw[fw hi]at aa;rw[fw ai]at ab;have:=(Ev.1 aj).2;rw[P8]at this;rcases Nat.lt_or_gt_of_ne bH with h | h
 ·exact this i j hi ai h k aa k ab rfl
 ·exact this j i ai hi h k ab k aa rfl
def ado{ns:List ak}(aj:hP (eI ns)){j:Nat}(ai:j<ns.length):hP (nodeAt ns j).ao:=by rw[fw ai];exact(Ev.1 aj).1 _ (bD ai)
def adp{α:Type}(f g:α->Nat):∀ l:List α,(l.map λx=>f x+g x).sum=(l.map f).sum+(l.map g).sum
 |[]=>rfl| a::l=>by simp only[ch,hx,adp f g l];omega
def adq{α β:Type}(g:β->Nat)(f:α->List β):∀ l:List α,((l.flatMap f).map g).sum=(l.map λa=>((f a).map g).sum).sum
 |[]=>rfl| a::l=>by rw[iS,cJ,pW,adq g f l];rfl
def adr{α:Type}(x:Nat)(f:α->List Nat):∀ l:List α,(l.flatMap f).count x=(l.map λa=>(f a).count x).sum
 |[]=>rfl| a::l=>by rw[iS,List.count_append,adr x f l];rfl
def xr(ns:List ak)(x y:Nat):Nat:=(nodeAt ns y).ao.count (x:Int)
def ads(x:Nat):∀ ks:List aP,(ks.map (λc=>(c.bs:Int))).count (x:Int)=(ks.map λc=>if c.bs=x then 1 else 0).sum
 |[]=>rfl
 |c::ks=>by
  rw[ch,List.count_cons,ads x ks,ch,hx];by_cases e:c.bs=x;·subst e;simp;omega
  ·have:¬ ((c.bs:Int)=x):=by omega
   simp[e,this]
def cI.count{ns:List ak}(x:Nat):∀ {T:aP},cI ns T->T.c5.count x=(if T.bs=x then 1 else 0)+(T.c5.map (xr ns x)).sum:=by
 intro T
 induction T using aP.ind with
 |h k ks aX=>
  intro h;obtain⟨aa,ab,al⟩:=h.inv;have aN:(ks.map λc=>c.c5.count x)=ks.map λc=>(if c.bs=x then 1 else 0)+(c.c5.map (xr ns x)).sum:=fX λc ar=>aX c ar (al c ar);have bc:xr ns x k=(ks.map λc=>if c.bs=x then 1 else 0).sum:=by unfold xr;rw[ab,ads]
  rw[aP.mT,List.count_append,adr,aN,adp,cJ,pW,adq,s3,List.sum_singleton,bc,List.count_singleton];show _+(if k == x then 1 else 0)=(if k=x then 1 else 0)+_;by_cases e:k=x;·simp[e];omega
  ·simp[e];omega
def cI.count_le{ns:List ak}(af:r2 ns)(aj:hP (eI ns)){T:aP}(h:cI ns T):∀ (m x:Nat),ns.length-x<=m->T.c5.count x<=1
 |0,x,hm=>by
  have:x ∉ T.c5:=λae=>by have:=h.lt x ae;omega
  rw[TC this];omega
 |m+1,x,hm=>by
  rw[h.count x];by_cases aK:∃ p∈T.c5,(x:Int)∈(nodeAt ns p).ao
  ·obtain⟨p,adt,x4⟩:=aK;have rD:=h.lt p adt;have axC:=h.le af p adt;have axD:=af.node rD x4;have e:T.c5.map (xr ns x)=T.c5.map λy=>if y=p then 1 else 0:=fX λy aF=>by
    by_cases e:y=p;·subst e;rw[bY rfl];unfold xr;exact Nat.le_antisymm (List.nodup_iff_count.1 (ado aj rD) _) (List.count_pos_iff.2 x4)
    ·rw[bK e];unfold xr;exact TC λti=>aqO aj (h.lt y aF) rD e ti x4
   have bc:∀ l:List Nat,(l.map λy=>if y=p then 1 else 0).sum=l.count p:=λl=>by
    induction l with
    |nil=>rfl
    |cons a l aX=>
     rw[ch,hx,aX,List.count_cons];by_cases e:a=p;·simp[e];omega
     ·simp[e]
   rw[e,bc,bK Z,dg];exact cI.count_le af aj h m p Z
  ·have e:(T.c5.map (xr ns x)).sum=0:=by
    have:∀ l:List Nat,(∀ y∈l,(x:Int) ∉ (nodeAt ns y).ao)->(l.map (xr ns x)).sum=0:=λl=>by
     induction l with
     |nil=>intro _;rfl| cons a l aX=>intro ay;rw[ch,hx,aX λy aF=>ay y (.tail _ aF)];unfold xr;rw[TC (ay a (.head _))]
    exact this _ λy aF QB=>aK ⟨y,aF,QB⟩
   rw[e];split<;>omega
def cI.nodup{ns:List ak}(af:r2 ns)(aj:hP (eI ns)){T:aP}(h:cI ns T):T.c5.Nodup:=
 List.nodup_iff_count.2 λx=>h.count_le af aj (ns.length-x) x (cf _)
def M6(h:l.Nodup)(ay:∀ x∈l,x<n):l.length<=n:=by have ab:=List.Nodup.length_le_of_subset h (l₂:=List.range n) λx ae=>kx.2 (ay x ae);rwa [w1]at ab
def FU{α β:Type}{f g:α->List β}:∀ {l:List α},(∀ c∈l,(f c).Sublist (g c))->(l.flatMap f).Sublist (l.flatMap g)
 |[],_=>.slnil| a::l,h=>by rw[iS,iS];exact(h a (.head _)).append (FU λc ar=>h c (.tail _ ar))
def iM(d:ak):Option Int:=if d.k=4\/d.k=5 then some d.k else none
namespace aP
section
variable(ns:List ak)
mutual
def pA(b3:Option Int):aP->List aP
 |mk k ks=>if some (nodeAt ns k).k=b3 then M7 b3 ks else [mk k ks]
def M7(b3:Option Int):List aP->List aP
 |[]=>[]| a::l=>pA b3 a++M7 b3 l
end
mutual
def ga(b3:Option Int):aP->List aP
 |mk k ks=>if some (nodeAt ns k).k=b3 then vI b3 ks else [mk k (vI (iM (nodeAt ns k)) ks)]
def vI(b3:Option Int):List aP->List aP
 |[]=>[]| a::l=>ga b3 a++vI b3 l
end
def adu(b3:Option Int):∀ l,M7 ns b3 l=l.flatMap (pA ns b3)
 |[]=>rfl| a::l=>by rw[M7,adu b3 l];rfl
def Dh(b3:Option Int):∀ l,vI ns b3 l=l.flatMap (ga ns b3)
 |[]=>rfl| a::l=>by rw[vI,Dh b3 l];rfl
def parts(T:aP):List aP:=T.sub.flatMap (pA ns (iM (nodeAt ns T.bs)))
def bw:aP->aP
 |mk k ks=>mk k (ks.flatMap (ga ns (iM (nodeAt ns k))))
def yY(b3:Option Int)(k:Nat)(ks:List aP):pA ns b3 (mk k ks)=if some (nodeAt ns k).k=b3 then ks.flatMap (pA ns b3)else [mk k ks]:=by rw[pA,adu]
def qZ(b3:Option Int)(k:Nat)(ks:List aP):ga ns b3 (mk k ks)=if some (nodeAt ns k).k=b3 then ks.flatMap (ga ns b3)else [bw ns (mk k ks)]:=by rw[ga,Dh,Dh];rfl
def adv:∀ T,(bw ns T).bs=T.bs
 |mk k ks=>rfl
def aqP(b3:Option Int):∀ T,(pA ns b3 T).map (bw ns)=ga ns b3 T:=by
 intro T
 induction T using aP.ind generalizing b3 with
 |h k ks aX=>
  rw[yY,qZ];split;·rw[AN];exact rO λc ar=>aX c ar b3
  ·rfl
def adw:∀ T,(bw ns T).sub=(parts ns T).map (bw ns)
 |mk k ks=>by show ks.flatMap _=(ks.flatMap _).map _;rw[AN];exact rO λc ar=>(aqP ns _ c).symm
def aqQ(b3:Option Int):∀ T,((pA ns b3 T).flatMap c5).Sublist T.c5:=by
 intro T
 induction T using aP.ind with
 |h k ks aX=>
  rw[yY,mT];split;·rw[Dg];exact(FU λc ar=>aX c ar).trans (tK _ _)
  ·rw[o9,mT];exact .refl _
def aqR(b3:Option Int):∀ T,((ga ns b3 T).flatMap c5).Sublist T.c5:=by
 intro T
 induction T using aP.ind generalizing b3 with
 |h k ks aX=>
  rw[qZ,mT];split;·rw[Dg];exact(FU λc ar=>aX c ar b3).trans (tK _ _)
  ·rw[o9];show((mk k (ks.flatMap (ga ns _))).c5).Sublist _;rw[mT,Dg];exact(FU λc ar=>aX c ar _).append (.refl _)
def aqS:∀ T,((bw ns T).c5).Sublist T.c5
 |mk k ks=>by show((mk k (ks.flatMap (ga ns _))).c5).Sublist _;rw[mT,mT,Dg];exact(FU λc ar=>aqR ns _ c).append (.refl _)
def aqT(b3:Option Int):∀ {T},cI jz T->∀ S∈pA ns b3 T,cI jz S:=by
 intro T
 induction T using aP.ind with
 |h k ks aX=>
  intro h S cQ;rw[yY]at cQ;split at cQ;·obtain⟨c,ar,cQ⟩:=hB.1 cQ;exact aX c ar (h.inv.2.2 c ar) S cQ
  ·rw[ep.1 cQ];exact h
def adx{T:aP}(h:cI ns T):∀ S∈parts ns T,cI ns S:=by
 intro S cQ;cases T with
 |mk k ks=>
 obtain⟨c,ar,cQ⟩:=hB.1 cQ;exact aqT ns _ (h.inv.2.2 c ar) S cQ
def aqU:∀ {T},cI ns T->∀ b3,(∀ S,cI ns S->S.bs∈(ga ns b3 T).flatMap c5->S.bs<jz.length/\(nodeAt jz S.bs).ao=(parts ns S).map λc=>(c.bs:Int))->∀ U∈ga ns b3 T,cI jz U:=by
 intro T
 induction T using aP.ind with
 |h k ks aX=>
  intro h b3 H U eP;rw[qZ]at eP H;split at eP;·rename_i e;rw[bY e]at H;obtain⟨c,ar,eP⟩:=hB.1 eP;refine aX c ar (h.inv.2.2 c ar) b3 (λS cQ hm=>H S cQ ?_) U eP;rw[Dg];exact hB.2 ⟨c,ar,hm⟩
  ·rename_i e;rw[bK e]at H;rw[ep.1 eP];have ax:=H (mk k ks) h (by simp;exact FR (bw ns (mk k ks)));have he:=adw ns (mk k ks);refine .mk ax.1 ?_ λaqV TK=>?_
   ·rw[show(aP.mk k ks).bs=k from rfl]at ax;rw[ax.2];show _=List.map _ (bw ns (mk k ks)).sub;rw[he,gE];exact fX λc ar=>by simp[adv]
   ·obtain⟨c,ar,TK⟩:=hB.1 TK;refine aX c ar (h.inv.2.2 c ar) _ (λS cQ hm=>H S cQ ?_) aqV TK;rw[o9];show S.bs∈(mk k (ks.flatMap (ga ns _))).c5;rw[mT,Dg];exact iy _ (hB.2 ⟨c,ar,hm⟩)
def aqW{T:aP}(h:cI ns T)(H:∀ S,cI ns S->S.bs∈(bw ns T).c5->S.bs<jz.length/\(nodeAt jz S.bs).ao=(parts ns S).map λc=>(c.bs:Int)):cI jz (bw ns T):=by
 cases T with
 |mk k ks=>
 have e:ga ns none (mk k ks)=[bw ns (mk k ks)]:=by rw[qZ,bK am]
 refine aqU ns h none (λS cQ hm=>H S cQ ?_) _ (by rw[e];exact .head _);rw[e,o9]at hm;exact hm
end
end aP
inductive aU where
 |mk:ak->List aU->aU
def ak.bare(d:ak):ak:=d.dJ []
def ak.ady(d:ak):d.bare.k=d.k:=rfl
def adz(d:ak):iM d.bare=iM d:=rfl
namespace aU
def d:aU->ak
 |mk d _=>d
def sub:aU->List aU
 |mk _ ks=>ks
def ind{P:aU->Prop}(h:∀ d ks,(∀ c∈ks,P c)->P (mk d ks)):∀ T,P T
 |mk d ks=>h d ks (λc ar=>ind h c)
section
variable{α:Type}(F:ak->List α->α)
mutual
def fold:aU->α
 |mk d ks=>F d (M8 ks)
def M8:List aU->List α
 |[]=>[]| a::l=>fold a::M8 l
end
def adA:∀ l,M8 F l=l.map (fold F)
 |[]=>rfl| a::l=>by rw[M8,adA l];rfl
def fold_eq(d:ak)(ks:List aU):fold F (mk d ks)=F d (ks.map (fold F)):=by rw[fold,adA]
end
mutual
def ga(b3:Option Int):aU->List aU
 |mk d ks=>if some d.k=b3 then vI b3 ks else [mk d (vI (iM d) ks)]
def vI(b3:Option Int):List aU->List aU
 |[]=>[]| a::l=>ga b3 a++vI b3 l
end
def Dh(b3:Option Int):∀ l,vI b3 l=l.flatMap (ga b3)
 |[]=>rfl| a::l=>by rw[vI,Dh b3 l];rfl
def bw:aU->aU
 |mk d ks=>mk d (ks.flatMap (ga (iM d)))
def qZ(b3:Option Int)(d:ak)(ks:List aU):ga b3 (mk d ks)=if some d.k=b3 then ks.flatMap (ga b3)else [bw (mk d ks)]:=by rw[ga,Dh,Dh];rfl
end aU
namespace aP
section
variable(ns:List ak)
mutual
def bare:aP->aU
 |mk k ks=>.mk (nodeAt ns k).bare (M9 ks)
def M9:List aP->List aU
 |[]=>[]| a::l=>bare a::M9 l
end
def adB:∀ l,M9 ns l=l.map (bare ns)
 |[]=>rfl| a::l=>by rw[M9,adB l];rfl
def nA(k:Nat)(ks:List aP):bare ns (mk k ks)=.mk (nodeAt ns k).bare (ks.map (bare ns)):=by rw[bare,adB]
def aqX(b3:Option Int):∀ T,(ga ns b3 T).map (bare ns)=(bare ns T).ga b3:=by
 intro T
 induction T using aP.ind generalizing b3 with
 |h k ks aX=>
  rw[qZ,nA,aU.qZ,ak.ady];split;·rw[AN,yj];exact rO λc ar=>aX c ar b3
  ·show [bare ns (mk k (ks.flatMap (ga ns _)))]=[aU.mk _ ((ks.map (bare ns)).flatMap (aU.ga (iM (nodeAt ns k).bare)))];rw[nA,AN,yj,adz];congr 2;exact rO λc ar=>aX c ar _
def aqY:∀ T,bare ns (bw ns T)=(bare ns T).bw
 |mk k ks=>by show bare ns (mk k (ks.flatMap (ga ns _)))=_;rw[nA,nA];show _=aU.mk _ ((ks.map (bare ns)).flatMap (aU.ga (iM (nodeAt ns k).bare)));rw[AN,yj,adz];congr 1;exact rO λc ar=>aqX ns _ c
def adC:∀ T,(∀ x∈c5 T,(nodeAt jz x).bare=(nodeAt ns x).bare)->bare jz T=bare ns T:=by
 intro T
 induction T using aP.ind with
 |h k ks aX=>intro h;rw[nA,nA,h k (FR (mk k ks))];congr 1;refine fX λc ar=>aX c ar λx ae=>h x ?_;rw[mT];exact iy _ (hB.2 ⟨c,ar,ae⟩)
def Di{T:aP}(h:cI ns T)(m:List ak):bare (ns++m) T=bare ns T:=adC ns T λx ae=>by rw[adn (h.lt x ae)]
end
end aP
def adD{z:α}{F:ak->List α->α}(bC:∀ d l,F (d.dJ l)=F d){ns:List ak}(af:r2 ns):∀ {T:aP},cI ns T->mH z (λd g=>F d (d.ao.map g)) ns T.bs=(T.bare ns).fold F:=by
 intro T
 induction T using aP.ind with
 |h k ks aX=>intro bm;obtain⟨aa,ab,al⟩:=bm.inv;have h:=Pk (z:=z) (f:=λd g=>F d (d.ao.map g)) ns [] k aa;simp only[hl,dg]at h;rw[aP.nA,aU.fold_eq];show(gS z _ ns []).getD (k:Int).toNat z=F ((nodeAt ns k).dJ []) _;rw[bC,bP,h2,h,kX,<-fw aa,ab,gE,gE];congr 1;refine fX λc ar=>?_;rw[Function.comp,Function.comp,<-aX c ar (al c ar)];have:=bm.TJ af ar;unfold mH;rw[bP,bP,lv,bY Z]
section
variable{X:c3}{F:Fr}{C:dB}{I:aI}{M:List aD}{o:Oper}
theorem kZ.adE(aQ:cX X.P X.E){x:Operand}{t:Nat}(aG:o.op=.call { callee:=.builtin .append,args:=#[s,x],argTypes:=#[t,t] })
 (au:X.E t=some dd) (dA:dd.bM=.slice e) (he:X.E e=some aH)
  (os:aO) (bl:os.ok aH.size xs) (aw:bI F s=.val os.val)
 {m:Nat} (ae:bI F x=.val (.slice (some ad) m c')) (hm:0<m) (aE:cG I M ad (m*aH.size) cb) (aa:fG cb=true)
 (bd:M.Perm (os.aq e++Mr)) (b1:os.n+m<=maxLen) (b8:(os.n+m)*aH.bytes<=140737488355328)
  (M':aO->List aD) (yH:∀ br:aO,(br.aq e++Mr).Perm (M' br))
  (k:∀ br:aO,br.n=os.n+m->(∀ g,br.a=some g->I g=none/\(os.a=none->g ∉ X.foot))->br.ok aH.size (xs++cb)->K (.val br.val) I (M' br)):kZ X o F C I M K:=by
 refine⟨fun β a w Q iT=>?_⟩;have yZ:cb.length=m*aH.size:=by obtain⟨_,_,_,_,_,_,h⟩:=aE;exact h
 have e3:∀ w,eJ I M w->(Builtin.firstCells aH.size m (.slice (some ad) m c')).run X.P w=.ok cb.toArray w:=λw hw=>by
  obtain⟨de,cs,T,ap,eF,an,ay⟩:=aE;refine run_firstCells_some (P:=X.P) w aH.size m ad m c' cb ay λj v ai=>?_;rw[eK _ de,th (eF.heap hw)];rw[<-an,lv]at ai;split at ai;·rw[nC]at ai;simpa using ai
  ·cases ai
 have aZ:cT X β a w F C I (os.aq e++Mr):=iT.h6 (.perm bd .refl);obtain⟨inf,z,hi,fp,hs,h8,j'⟩:=(aQ _ _ he).inf;obtain⟨g7,iu,k2⟩:=(aQ _ _ au).fA;have oY:g7=.slice e:=by rw[dA]at k2;cases g7<;>simp_all[fz]
 subst oY;have qB:z.cells.size=inf.size:=by rw[fp,<-(aQ _ _ he).len,<-j'];simp
 have aqZ:=bl;rw[<-fp]at bl yZ e3;obtain⟨g,c,aR,w',fk,bb,bh,b2,gg,oc⟩:=O0 (P:=X.P) (w:=w) t t o.type e inf z iu iu (λk cY=>by cases cY) hi h8 qB bl (λg az=>aZ.holds.m ⟨g,.cells os.aR.toArray e (0,0)⟩ lm) (x:=.slice (some ad) m c') hm yZ (zh aa) (λ_=>rfl) (λw' xX=>e3 w' (iT.holds.heap xX)) b1 as';rw[fp]at bb gg yZ;have zK:I g=none:=by
  rcases oc with⟨az,_⟩ | ⟨rfl,_⟩;·exact aZ.holds.d ⟨g,.cells os.aR.toArray e (0,0)⟩ lm
  ·cases bG:I w.heap.size with
   |none=>rfl| some nM=>have:=aZ.holds.i _ _ bG;simp at this
 have aq0:os.a=none->g ∉ X.foot:=λax hm=>by
  rcases oc with⟨az,_⟩ | ⟨rfl,_⟩;·rw[ax]at az;cases az
  ·have aa:=aZ.fH _ hm;have ab:=aZ.sz;omega
 have es:=dt aZ.ap aw;have ex:=dt aZ.ap ae;have kU:(⟨some g,os.n+m,c,aR⟩:aO).ok aH.size (xs++cb):=by
  refine⟨?_,(λh=>ci),λet az=>?_⟩;·rw[ct,aqZ.len,yZ,kD]
  ·cases az;exact⟨bb,bh,b2,gg⟩
 refine iQ f9 (v:=.slice (some ⟨g,0,none⟩) (os.n+m) c) (w':=w') ?_ ⟨_,.val (.slice (some ⟨g,0,none⟩) (os.n+m) c),I,M' ⟨some g,os.n+m,c,aR⟩,rfl,rfl,?_,k ⟨some g,os.n+m,c,aR⟩ rfl (λet az=>by cases az;exact⟨zK,aq0⟩) kU,rfl⟩
 ·unfold execOp;simp only[aG,resolve,invoke,builtin,cz,dn,cd,rs,ch,hd,es,ex,fk]
 ·refine cT.h6 ?_ (.perm (yH _) .refl);rcases oc with⟨az,rfl⟩ | ⟨rfl,rfl⟩
  ·have ah:os.aq e=[⟨g,.cells os.aR.toArray e (0,0)⟩]:=by simp[aO.aq,az]
   rw[ah]at aZ;exact aZ.xK (ba:=[]) (post:=Mr) rfl
  ·have ab:cT X β a w.drew F C I (os.aq e++Mr):=aZ.world rfl;have al:=ab.n' (.cells aR.toArray e (0,0));refine al.h6 (.sub ?_ .refl);exact List.Sublist.cons_cons _ (m4 _ _)
def kZ.adF(aQ:cX X.P X.E){x:Operand}{t:Nat}(aG:o.op=.call { callee:=.builtin .append,args:=#[s,x],argTypes:=#[t,t] })
 (au:X.E t=some dd) (dA:dd.bM=.slice e) (he:X.E e=some aH)
  (os:aO) (bl:os.ok aH.size xs) (aw:bI F s=.val os.val)
 {m:Nat} (ae:bI F x=.val (.slice (some ad) m c')) (hm:0<m) (aE:cG I M ad (m*aH.size) cb) (aa:fG cb=true)
 (bd:M.Perm (os.aq e++Mr)) (b1:os.n+m<=maxLen) (b8:(os.n+m)*aH.bytes<=140737488355328)
  (M':aO->List aD) (yH:∀ br:aO,(br.aq e++Mr).Perm (M' br))
  (k:∀ br:aO,br.n=os.n+m->(∀ g,br.a=some g->I g=none)->br.ok aH.size (xs++cb)->K (.val br.val) I (M' br)):kZ X o F C I M K:=
 kZ.adE aQ aG au dA he os bl aw ae hm aE aa bd b1 b8 M' yH λbr aa ab al=>k br aa (λg az=>(ab g az).1) al
def kZ.lh(aQ:cX X.P X.E){x:Operand}{t:Nat}(aG:o.op=.call { callee:=.builtin .append,args:=#[s,x],argTypes:=#[t,t] })
 (au:X.E t=some dd) (dA:dd.bM=.slice e) (he:X.E e=some aH)
  (os:aO) (bl:os.ok aH.size xs) (aw:bI F s=.val os.val)
  {b9:Nat} {cs:List Value} (ae:bI F x=.val (.slice (some ⟨b9,0,none⟩) 1 c')) (ay:cs.length=aH.size) (aa:fG cs=true)
  (ba post:List aD) (bd:M=⟨b9,.cells cs.toArray e (0,0)⟩::(ba++(os.aq e++post))) (b1:os.n+1<=9223372036854775807) (b8:(os.n+1)*aH.bytes<=140737488355328)
  (k:∀ br:aO,br.n=os.n+1->(∀ g,br.a=some g->I g=none)->br.ok aH.size (xs++cs)->K (.val br.val) I (⟨b9,.cells cs.toArray e (0,0)⟩::(ba++(br.aq e++post)))):kZ X o F C I M K:=by
 have aK:∀ br:aO,(br.aq e++(⟨b9,.cells cs.toArray e (0,0)⟩::(ba++post)):List aD).Perm (⟨b9,.cells cs.toArray e (0,0)⟩::(ba++(br.aq e++post))):=λbr=>
  lL.trans (.cons _ (wM _ _ _))
 refine .adF aQ aG au dA he os bl aw (m:=1) (cb:=cs) ae bv ?_ aa (Mr:=⟨b9,.cells cs.toArray e (0,0)⟩::(ba++post)) ?_ t9 b8 _ aK k
 ·rw[m6];refine⟨rfl,_,_,_,.inr ⟨⟨b9,.cells cs.toArray e (0,0)⟩,ayX,rfl,rfl⟩,?_,ay⟩;simp only[tq];exact fE Z
 ·rw[bd];exact(aK os).symm
end
def Na{G F:Fr}{y:Operand}{r:dK}(h:dG G y=dG F y)(bu:bI F y=r):bI G y=r:=by simp only[bI,dL,h];exact bu
structure cu where
 b:Nat
 os:aO
 ds:List ak
def cu.aj(A:cu):aD:=⟨A.b,.cells #[A.os.val] 172 (0,0)⟩
def cu.aq(A:cu):List aD:=A.aj::A.os.aq 88
structure cu.ok(I:aI)(A:cu):Prop where
 os:A.os.ok 9 (A.ds.flatMap ak.cells)
 n:A.os.n=A.ds.length
 ds:∀ d∈A.ds,d.ok I
def cu.ok.mono{I':aI}{A:cu}(h:A.ok I)(bG:∀ b o,I b=some o->I' b=some o):A.ok I':=⟨h.os,h.n,λd aj=>(h.ds d aj).mono bG⟩
def adG{A:cu}(dz:A.ok I)(aE:A.ds.length<=1099511627776){d:ak}(aj:d.ok I) :
  Spec Tryz.prog 293 [ptr A.b,d.val] I A.aq λv I' M'=>v=.int .i64 A.ds.length/\I'=I/\∃ os,M'=cu.aq ⟨A.b,os,A.ds++[d]⟩/\cu.ok I ⟨A.b,os,A.ds++[d]⟩:=by
 refine bR [] aT Tryz.func293 rfl rfl rfl ?_;intro B ax;obtain⟨k,b0,s1,s2,cg,s,lo,hi,bX,aA,b5,ao⟩:=d;have bV:=dz.os;have bj:∀ (os:aO) (M:List aD),(⟨A.b,.cells #[os.val] 172 (0,0)⟩:aD)∈M->cG I M ((⟨A.b,0,none⟩:Addr).add 0) 1 [os.val]:=λos M hm=>dj (cs:=[os.val]) (k:=0) (n:=1) (T:=172) hm am;refine cN.draw aT rfl rfl rfl ?_;refine aJ.mk _ (bj A.os _ (.head _)) ?_;refine bN.mk λb9 kI r3=>?_;intro G hc;refine kZ.lh aT rfl (e:=88) rfl rfl rfl A.os bV (Na (hc _ d9) rfl) (Na (hc _ d9) rfl) (cs:=ak.cells ⟨k,b0,s1,s2,cg,s,lo,hi,bX,aA,b5,ao⟩) rfl rfl [A.aj] [] ar' (by have:=dz.n;omega) (by have:=dz.n;show(A.os.n+1)*96<=_;omega) ?_;intro br aa ab al;refine b'.mk [_] (br.aq _++[]) #[A.os.val] 172 rfl rfl (bJ rfl) rfl ?_;refine aJ.mk _ (bj br _ (.tail _ (.head _))) ?_;have xR:=dz.n;refine⟨(A.ds.length:Int),?_,?_⟩
 ·rw[wrap_i64 (by unfold hy;omega)];omega
 refine⟨_,_,.sub (M1:=cu.aq ⟨A.b,br,A.ds++[⟨k,b0,s1,s2,cg,s,lo,hi,bX,aA,b5,ao⟩]⟩) ?_ .refl,rfl,rfl,br,rfl,?_⟩
 ·show List.Sublist (_::(br.aq _)) (_::_::(br.aq _++[]));rw[dE];exact .cons _ (.refl _)
 ·refine⟨?_,?_,λx ae=>?_⟩
  ·rw[fL];simpa using al
  ·rw[aa,ct,dz.n];rfl
  ·rcases cW.1 ae with ae | ae
   ·exact dz.ds x ae
   ·rw[ep.1 ae];exact aj
def ak.row(d:ak)(a:Option Addr)(n c:Nat)(ks:List Int):ak:=⟨d.k,d.b0,d.s1,d.s2,d.cg,d.t,d.lo,d.hi,a,n,c,ks⟩
def ak.ok.row{d:ak}(h:d.ok I)(ag:cZ I a n c 1 8 (ks.map (.int .i64 ·)))(af:∀ x∈ks,hy x):(d.row a n c ks).ok I:=⟨h.k,h.b0,h.s1,h.s2,h.cg,h.t,h.lo,h.hi,ag,af⟩
def aq1(A:cu)(d:ak)(I:aI)(v:Value)(I':aI)(M':List aD):Prop:=v=.int .i64 A.ds.length/\I'=I/\∃ os,M'=cu.aq ⟨A.b,os,A.ds++[d]⟩/\cu.ok I ⟨A.b,os,A.ds++[d]⟩
def adH{A:cu}(dz:A.ok I)(aE:A.ds.length<=1099511627776){d:ak}(aj:d.ok I)(ag:cZ I a n c 1 8 (ks.map (.int .i64 ·)))(af:∀ x∈ks,hy x) :
  Spec Tryz.prog 224 [ptr A.b,d.val,.slice a n c] I A.aq (aq1 A (d.row a n c ks) I):=by
 refine bR [] aT Tryz.func224 rfl rfl rfl ?_;intro B ax;have fW:=aj.row ag af;obtain⟨k,b0,s1,s2,cg,s,lo,hi,bX,aA,b5,ao⟩:=d;have de:=adG dz aE fW;refine a9.mk A.aq [] _ Do de ?_;rintro v I' M' -⟨rfl,rfl,os,rfl,h⟩;exact⟨_,_,.sub (M1:=cu.aq ⟨A.b,os,A.ds++[_]⟩) am .refl,rfl,rfl,os,rfl,h⟩
def pB(d:ak)(x:ak):Bool:=!decide (d.k=4) || !decide (x.k=0)
def r4(A:cu)(d:ak)(os:aO)(p5 p4 p9:Nat):List aD:=⟨p5,.cells d.cells.toArray 88 (0,0)⟩::⟨p4,.cells #[ptr A.b] 176 (0,0)⟩::⟨p9,.cells #[os.val] 42 (0,0)⟩::(os.aq 3++A.aq)
def aq2{A:cu}(dz:A.ok I)(aE:A.ds.length<=1099511627776){d:ak}(aj:d.ok I){l:List Int}(bV:os.ok 1 (l.map (.int .i64 ·)))(ay:os.n<=1099511627776){p5 p4 p9 k:Nat}(af:k<A.ds.length) :
  Spec Tryz.prog 330 [.int .i64 k,ptr p5,ptr p4,ptr p9] I (r4 A d os p5 p4 p9) λv I' M'=>I'=I/\∃ br,M'=r4 A d br p5 p4 p9/\br.ok 1 ((l++bif pB d A.ds[k]then [(k:Int)]else []).map (.int .i64 ·)):=by
 refine bR [] aT Tryz.func330 rfl rfl rfl ?_;intro B ax;obtain⟨ad,bt,bj⟩:=aO.ok.row (I:=I) (M:=r4 A d os p5 p4 p9) ak.cq bv dz.os (e:=88) (λx ae=>by simp[r4,cu.aq,ae]) (j:=k) af;obtain⟨dQ,b0,s1,s2,cg,s,lo,hi,bX,aA,b5,ao⟩:=d;refine aJ.mk [.int .u8 dQ] (dj (cs:=ak.cells ⟨dQ,b0,s1,s2,cg,s,lo,hi,bX,aA,b5,ao⟩) (k:=0) (n:=1) (T:=88) (.head _) (by simp[ak.cells])) ?_;refine bZ.mk (λaL=>?_) (λaL=>?_)
 ·have dX:dQ=4:=by simpa using aL
  refine aJ.mk [ptr A.b] (dj (cs:=[ptr A.b]) (k:=0) (n:=1) (T:=176) (.tail _ (.head _)) am) ?_;refine aJ.mk [A.os.val] (dj (cs:=[A.os.val]) (k:=0) (n:=1) (T:=172) (by simp[r4,cu.aq,cu.aj]) am) ?_;refine bi.mk ad k bt rfl (by have:=dz.n;omega) ?_;refine aJ.mk [.int .u8 A.ds[k].k] (cG.part (k:=0) (m:=1) bj bv) ?_;refine aS.mk (λax=>?_) (λax=>?_)
  ·have af:pB ⟨dQ,b0,s1,s2,cg,s,lo,hi,bX,aA,b5,ao⟩ A.ds[k]=true:=by unfold pB;have jk:(!decide (A.ds[k].k=0))=true:=ax;rw[jk,Li]
   refine aJ.mk [os.val] (dj (cs:=[os.val]) (k:=0) (n:=1) (T:=42) (.tail _ (.tail _ (.head _))) am) ?_;refine bN.mk λb9 kI r3=>?_;refine bz.lh aT rfl am (e:=3) rfl rfl rfl os bV rfl (cs:=[.int .i64 k]) rfl rfl rfl [_,_,_] A.aq rfl Z ayM ?_;intro br aa ab al;refine b'.mk [_,_] (br.aq 3++A.aq) #[os.val] 42 rfl rfl (bJ rfl) rfl ?_;refine⟨_,_,.refl,rfl,br,rfl,?_⟩;rw[af,cJ];exact al
  ·have af:pB ⟨dQ,b0,s1,s2,cg,s,lo,hi,bX,aA,b5,ao⟩ A.ds[k]=false:=by unfold pB;have Cc:(!decide (dQ=4))=false:=aL;have jk:(!decide (A.ds[k].k=0))=false:=ax;rw[Cc,jk];rfl
   refine⟨_,_,.refl,rfl,os,rfl,?_⟩;rw[af];simpa using bV
 ·have af:pB ⟨dQ,b0,s1,s2,cg,s,lo,hi,bX,aA,b5,ao⟩ A.ds[k]=true:=by unfold pB;have Cc:(!decide (dQ=4))=true:=aL;rw[Cc,Bool.true_or]
  refine aJ.mk [os.val] (dj (cs:=[os.val]) (k:=0) (n:=1) (T:=42) (.tail _ (.tail _ (.head _))) am) ?_;refine bN.mk λb9 kI r3=>?_;refine bz.lh aT rfl am (e:=3) rfl rfl rfl os bV rfl (cs:=[.int .i64 k]) rfl rfl rfl [_,_,_] A.aq rfl Z ayM ?_;intro br aa ab al;refine b'.mk [_,_] (br.aq 3++A.aq) #[os.val] 42 rfl rfl (bJ rfl) rfl ?_;refine⟨_,_,.refl,rfl,br,rfl,?_⟩;rw[af,cJ];exact al
def oB:ak:=⟨0,0,0,0,0,⟨#[]⟩,0,0,none,0,0,[]⟩
def jR(d:ak)(ds:List ak)(l:List Nat):List Int:=l.flatMap λk=>bif pB d (ds.getD k oB)then [(k:Int)]else []
structure aq3(A:cu)(d:ak)(l:List Nat)(x:Nat×aO):Prop where
 i:x.1<=l.length
 os:x.2.ok 1 ((jR d A.ds (l.take x.1)).map (.int .i64 ·))
def adI{A:cu}(dz:A.ok I)(aE:A.ds.length<=1099511627776){d z:ak}(aj:d.ok I)(bg:z.ok I)(ay:∀ k∈l,k<A.ds.length)(sR:l.length<=1099511627776)(ag:cZ I a n c 1 8 ((l.map Int.ofNat).map (.int .i64 ·))) :
  Spec Tryz.prog 294 [ptr A.b,d.val,.slice a n c,z.val] I A.aq λv I' M'=>(∀ b o,I b=some o->I' b=some o)/\∃ br ds' r,M'=cu.aq ⟨A.b,br,ds'⟩/\cu.ok I' ⟨A.b,br,ds'⟩/\v=.int .i64 r /\
   ((jR d A.ds l=[]/\r=(A.ds.length:Int)/\ds'=A.ds++[z])\/(jR d A.ds l=[r]/\ds'=A.ds)\/(2<=(jR d A.ds l).length/\r=(A.ds.length:Int)/\∃ bT i' c',ds'=A.ds++[d.row bT i' c' (jR d A.ds l)])):=by
 refine bR [4,5,9] aT Tryz.func294 rfl rfl rfl ?_;intro B ax;obtain⟨dQ,b0,s1,s2,cg,s,lo,hi,bX,aA,b5,ao⟩:=d;obtain⟨aq4,aq5,yD,R2,aq6,fo,aq7,aq8,aq9,ara,arb,arc⟩:=z;refine bN.mk λp4 y0 yO=>?_;refine bN.mk λp5 axE Nb=>?_;refine bN.mk λp9 axF r3=>?_;have ID:l.length=n:=by have aa:=ag.len;simpa using aa
 refine c2.inv (ι:=Nat×aO) (λx=>{ bn:=[(4,.val (ptr p4)),(5,.val (ptr p5)),(7,.ref 7 0),(9,.val (ptr p9)),(10,.val (.func (.func 330) #[] #[ptr p5,ptr p4,ptr p9])),(14,.val (.slice a n c)),(15,.val (.int .i64 n)),(16,.val (.int .i64 x.1))],cl:=[(7,ak.cells ⟨aq4,aq5,yD,R2,aq6,fo,aq7,aq8,aq9,ara,arb,arc⟩)],cm:=I,cK:=r4 A ⟨dQ,b0,s1,s2,cg,s,lo,hi,bX,aA,b5,ao⟩ x.2 p5 p4 p9 }) (aq3 A ⟨dQ,b0,s1,s2,cg,s,lo,hi,bX,aA,b5,ao⟩ l) (λx=>l.length-x.1) ?_ ?_
 ·refine⟨(0,⟨none,0,0,[]⟩),⟨dh _,⟨rfl,λ_=>⟨rfl,rfl⟩,λg h=>ci⟩⟩,.perm ?_ .refl,kd,.cons rfl (.nil)⟩;exact(lL (l₁:=[_,_])).symm
 ·rintro⟨i,os⟩⟨ck,bV⟩;simp only at ck bV;have g4:cZ I a n c 1 8 ((l.map Int.ofNat).flatMap iK):=by rw[oA];exact ag
  have c0:(jR ⟨dQ,b0,s1,s2,cg,s,lo,hi,bX,aA,b5,ao⟩ A.ds (l.take i)).length<=i:=by
   refine iO ?_ (zA i l);generalize l.take i=e';unfold jR
   induction e' with
   |nil=>exact cf _
   |cons x e' aX=>
    rw[iS,ct,ey];have:(bif pB ⟨dQ,b0,s1,s2,cg,s,lo,hi,bX,aA,b5,ao⟩ (A.ds.getD x oB)then [(x:Int)]else []).length<=1:=by cases pB ⟨dQ,b0,s1,s2,cg,s,lo,hi,bX,aA,b5,ao⟩ (A.ds.getD x oB)<;>simp
    omega
  have gK:=bV.nX;refine aS.mk (λh=>?_) (λh=>?_)
  ·have aV:(i:Int)<n:=cv h;have dP:i<l.length:=by omega
   obtain⟨ad,bt,bj⟩:=g4.row (f:=iK) (λ_=>rfl) (j:=i) Z (by simpa using dP);rw[gl]at bj;refine bi.mk ad i bt rfl Z ?_;refine aJ.mk _ (bj _) ?_;have FM:=ay _ (bD dP);have de:=aq2 (p5:=p5) (p4:=p4) (p9:=p9) dz aE aj bV Z FM;refine a9.mk (r4 A ⟨dQ,b0,s1,s2,cg,s,lo,hi,bX,aA,b5,ao⟩ os p5 p4 p9) [] _ Do de ?_;rintro v I' M' -⟨rfl,br,rfl,B7⟩;refine a3.mk ((i+1:Nat):Int) (iY ce Z) ?_;refine⟨(i+1,br),⟨⟨ce,?_⟩,ce⟩,.perm Do .refl,kd,.cons rfl (.nil)⟩
   ·show br.ok 1 ((jR ⟨dQ,b0,s1,s2,cg,s,lo,hi,bX,aA,b5,ao⟩ A.ds (l.take (i+1))).map (.int .i64 ·));have e:jR ⟨dQ,b0,s1,s2,cg,s,lo,hi,bX,aA,b5,ao⟩ A.ds (l.take (i+1))=jR ⟨dQ,b0,s1,s2,cg,s,lo,hi,bX,aA,b5,ao⟩ A.ds (l.take i)++bif pB ⟨dQ,b0,s1,s2,cg,s,lo,hi,bX,aA,b5,ao⟩ A.ds[l[i]]then [((l[i]:Nat):Int)]else []:=by unfold jR;rw[gi dP,fL];congr 1;simp[bP,FM]
    rw[e];exact B7
  ·have cM:¬ (i:Int)<n:=db h;obtain rfl:i=l.length:=by omega
   rw[DZ]at bV c0 gK;refine aJ.mk [os.val] (dj (cs:=[os.val]) (k:=0) (n:=1) (T:=42) (.tail _ (.tail _ (.head _))) am) ?_;have mN:(r4 A ⟨dQ,b0,s1,s2,cg,s,lo,hi,bX,aA,b5,ao⟩ os p5 p4 p9).Perm (A.aq++([⟨p5,.cells (ak.cells ⟨dQ,b0,s1,s2,cg,s,lo,hi,bX,aA,b5,ao⟩).toArray 88 (0,0)⟩,⟨p4,.cells #[ptr A.b] 176 (0,0)⟩,⟨p9,.cells #[os.val] 42 (0,0)⟩]++os.aq 3)):=by
    have:r4 A ⟨dQ,b0,s1,s2,cg,s,lo,hi,bX,aA,b5,ao⟩ os p5 p4 p9=([⟨p5,.cells (ak.cells ⟨dQ,b0,s1,s2,cg,s,lo,hi,bX,aA,b5,ao⟩).toArray 88 (0,0)⟩,⟨p4,.cells #[ptr A.b] 176 (0,0)⟩,⟨p9,.cells #[os.val] 42 (0,0)⟩]++os.aq 3)++A.aq:=by simp[r4]
    rw[this];exact eM
   refine aS.mk (λax=>?_) (λax=>?_)
   ·have dC:os.n=0:=by simpa using ax
    refine aJ.mk [ptr A.b] (dj (cs:=[ptr A.b]) (k:=0) (n:=1) (T:=176) (.tail _ (.head _)) am) ?_;refine a9.mk A.aq _ _ mN (adG dz aE bg) ?_;rintro v I' M' -⟨rfl,rfl,hD,rfl,bl⟩;exact⟨_,_,.sub (tK _ _) .refl,λ_ _ h=>h,hD,_,_,rfl,bl,rfl,.inl ⟨iB Z,rfl,rfl⟩⟩
   ·refine aS.mk (λaa=>?_) (λaa=>?_)
    ·have aN:os.n=1:=by
      have:(os.n:Int)=1:=by simpa using aa
      omega
     have uL:(jR ⟨dQ,b0,s1,s2,cg,s,lo,hi,bX,aA,b5,ao⟩ A.ds l).length=1:=by omega
     obtain⟨r,hI⟩:=FP.1 uL;refine aJ.mk [os.val] (dj (cs:=[os.val]) (k:=0) (n:=1) (T:=42) (.tail _ (.tail _ (.head _))) am) ?_;rw[<-oA]at bV;obtain⟨ad,bt,bj⟩:=aO.ok.row (I:=I) (M:=r4 A ⟨dQ,b0,s1,s2,cg,s,lo,hi,bX,aA,b5,ao⟩ os p5 p4 p9) (e:=3) (f:=iK) (size:=1) (λ_=>rfl) bv bV (λx ae=>by simp[r4,ae]) (j:=0) Z;refine bi.mk ad 0 bt rfl Z ?_;refine aJ.mk _ bj ?_;refine⟨_,_,.sub (M1:=A.aq) (.cons _ (.cons _ (.cons _ (m4 _ _)))) .refl,λ_ _ h=>h,A.os,A.ds,r,rfl,dz,?_,.inr (.inl ⟨hI,rfl⟩)⟩;simp[hI];rfl
    ·refine aJ.mk [ptr A.b] (dj (cs:=[ptr A.b]) (k:=0) (n:=1) (T:=176) (.tail _ (.head _)) am) ?_;refine aJ.mk (ak.cells ⟨dQ,b0,s1,s2,cg,s,lo,hi,bX,aA,b5,ao⟩) (dj (cs:=ak.cells ⟨dQ,b0,s1,s2,cg,s,lo,hi,bX,aA,b5,ao⟩) (k:=0) (n:=9) (T:=88) (.head _) (by simp[ak.cells])) ?_;refine aJ.mk [os.val] (dj (cs:=[os.val]) (k:=0) (n:=1) (T:=42) (.tail _ (.tail _ (.head _))) am) ?_;have jk:¬ os.n=0:=λe=>by have ab:decide ((os.n:Int)=0)=false:=ax;simp[e]at ab
     have hz:¬ os.n=1:=λe=>by have ab:decide ((os.n:Int)=1)=false:=aa;simp[e]at ab
     refine a9.v0 λew=>?_;have mo:(r4 A ⟨dQ,b0,s1,s2,cg,s,lo,hi,bX,aA,b5,ao⟩ os p5 p4 p9).Perm (os.aq 3++(A.aq++[⟨p5,.cells (ak.cells ⟨dQ,b0,s1,s2,cg,s,lo,hi,bX,aA,b5,ao⟩).toArray 88 (0,0)⟩,⟨p4,.cells #[ptr A.b] 176 (0,0)⟩,⟨p9,.cells #[os.val] 42 (0,0)⟩])):=by have e:r4 A ⟨dQ,b0,s1,s2,cg,s,lo,hi,bX,aA,b5,ao⟩ os p5 p4 p9=[⟨p5,.cells (ak.cells ⟨dQ,b0,s1,s2,cg,s,lo,hi,bX,aA,b5,ao⟩).toArray 88 (0,0)⟩,⟨p4,.cells #[ptr A.b] 176 (0,0)⟩,⟨p9,.cells #[os.val] 42 (0,0)⟩]++(os.aq 3++A.aq):=rfl;rw[e,<-ej (os.aq 3)];exact eM
     have az:∀ g,os.a=some g->I g=none/\g ∉ A.aq.map (·.num):=λg az=>by
      have ah:os.aq 3=[⟨g,.cells os.aR.toArray 3 (0,0)⟩]:=by unfold aO.aq;rw[az]
      have bW:=(mo.map (·.num)).nodup_iff.1 ew.bO;rw[ah]at bW mo;refine⟨ew.d _ (mo.mem_iff.2 (.head _)),λhm=>?_⟩;rw[cJ]at bW;simp only[ch,hd,qJ,mw,cJ]at bW;exact bW.1 (iy _ hm)
     obtain⟨ed,hw,gq,dM,-⟩:=aO.z7 (b:=8) bV Z az (A.aq++[⟨p5,.cells (ak.cells ⟨dQ,b0,s1,s2,cg,s,lo,hi,bX,aA,b5,ao⟩).toArray 88 (0,0)⟩,⟨p4,.cells #[ptr A.b] 176 (0,0)⟩,⟨p9,.cells #[os.val] 42 (0,0)⟩]);have SU:∀ x∈jR ⟨dQ,b0,s1,s2,cg,s,lo,hi,bX,aA,b5,ao⟩ A.ds l,hy x:=λx ae=>by
      obtain⟨k,af,ae⟩:=hB.1 ae;have:=ay k af;cases aM:pB ⟨dQ,b0,s1,s2,cg,s,lo,hi,bX,aA,b5,ao⟩ (A.ds.getD k oB)with
      |false=>rw[aM]at ae;cases ae| true=>rw[aM]at ae;rw[ep.1 ae];unfold hy;omega
     have de:=adH (dz.mono gq) aE (aj.mono gq) dM SU;refine a9.xF ed A.aq [⟨p5,.cells (ak.cells ⟨dQ,b0,s1,s2,cg,s,lo,hi,bX,aA,b5,ao⟩).toArray 88 (0,0)⟩,⟨p4,.cells #[ptr A.b] 176 (0,0)⟩,⟨p9,.cells #[os.val] 42 (0,0)⟩] _ (.perm mo (hw _ _ .refl)) de ?_;rintro v I' M' bo -⟨rfl,rfl,hD,rfl,bl⟩;exact⟨_,_,.sub (tK _ _) .refl,gq,hD,_,_,rfl,bl,rfl,.inr (.inr ⟨Z,rfl,_,_,_,rfl⟩)⟩
namespace aU
mutual
def post:aU->List ak
 |mk d ks=>sO d (Nc ks)
def Nc:List aU->List (List ak)
 |[]=>[]| a::l=>post a::Nc l
end
def adJ:∀ l,Nc l=l.map post
 |[]=>rfl| a::l=>by rw[Nc,adJ l];rfl
def ld(d:ak)(ks:List aU):post (mk d ks)=sO d (ks.map post):=by rw[post,adJ]
end aU
inductive e0:aU->Prop
 |mk{d:ak}{ks:List aU}:fits d ks.length=true->(∀ c∈ks,e0 c)->e0 (.mk d ks)
def e0.inv{d:ak}{ks:List aU}(h:e0 (.mk d ks)):fits d ks.length=true/\∀ c∈ks,e0 c:=by
 cases h with
 |mk aa ab=>exact⟨aa,ab⟩
def adK:∀ {T:aU},e0 T->hg (jM T.post):=by
 intro T
 induction T using aU.ind with
 |h d ks aX=>intro h;rw[aU.ld];refine aqx (λl ay=>?_) (by rw[bA];exact h.inv.1);obtain⟨c,ar,rfl⟩:=c6.1 ay;exact aX c ar (h.inv.2 c ar)
def ard{l:List ak}(h:hg (jM l)):0<l.length/\∀ d∈l,∀ k∈d.ao,0<=k:=by
 have:=h.bp;refine⟨?_,λd aj k af=>?_⟩
 ·have aa:(0:Int)<=(l.length:Int)-1:=this.1;omega
 ·obtain⟨j,ai,rfl⟩:=hL aj;exact(h.ao j ai k af).1
def are{z:α}{F:ak->List α->α}(bC:∀ d l,F (d.dJ l)=F d):∀ {T:aU},e0 T->AU z F T.post=T.fold F:=by
 intro T
 induction T using aU.ind with
 |h d ks aX=>
  intro h;rw[aU.ld,aU.fold_eq,aqv bC,gE];·congr 1;exact fX λc ar=>aX c ar (h.inv.2 c ar)
  ·intro l ay;obtain⟨c,ar,rfl⟩:=c6.1 ay;exact ard (adK (h.inv.2 c ar))
def aP.hq(T:aP):List Int:=T.c5.map λx:Nat=>(x:Int)
def aP.Jq(k:Nat)(ks:List aP):(aP.mk k ks).hq=ks.flatMap aP.hq++[(k:Int)]:=by unfold aP.hq;rw[aP.mT,cJ,AN];rfl
def aP.arf(T:aP):∃ K,T.hq=K++[(T.bs:Int)]:=by
 cases T with
 |mk k ks=>exact⟨_,aP.Jq k ks⟩
structure Jr(ns:List ak)(A rb:List Int)(oC:List aP)(a2:List ak×List Int):Prop where
 len:a2.1.length=(oC.flatMap aP.hq).length
 nodes:a2.1.map (jQ (A.length:Int))=(oC.flatMap aP.hq).map (nl ns rb)
 roots:a2.2.map (·+(A.length:Int))=oC.map λc=>kN rb (c.bs:Int)
def arh(n:Nat)(a:Int)(x:ak):jQ a (x.dJ (x.ao.map λk=>(n:Int)+k))=jQ (a+(n:Int)) x:=by unfold jQ;show x.dJ ((x.ao.map λk=>(n:Int)+k).map (·+a))=_;rw[gE];congr 1;refine fX λk af=>?_;show(n:Int)+k+a=k+(a+n);omega
def Jr.step{ns:List ak}{A B rb:List Int}{oC:List aP}{a2:List ak×List Int}(h:Jr ns A rb oC a2){c:aP}{l:List ak}
  (mS:rb=(A++oC.flatMap aP.hq)++(c.hq++B)) (aj:hP rb) (ay:c.hq.map (nl ns rb)=l.map (jQ ((A++oC.flatMap aP.hq).length:Int))):Jr ns A rb (oC++[c]) (ju a2 l):=by
 have oa:c.hq.length=l.length:=by simpa using congrArg List.length ay
 obtain⟨aa,ab,al⟩:=h;have aN:(oC++[c]).flatMap aP.hq=oC.flatMap aP.hq++c.hq:=by rw[fL,o9]
 refine⟨?_,?_,?_⟩
 ·rw[aN];show(a2.1++l.map _).length=_;rw[ct,bA,ct,aa,oa]
 ·rw[aN,cJ,ay,<-ab];show(a2.1++l.map λx=>x.dJ (x.ao.map λk=>(a2.1.length:Int)+k)).map _=_;rw[cJ,gE];congr 1;refine fX λx ae=>?_;show jQ _ (x.dJ _)=_;rw[arh,aa,ct];congr 1
 ·rw[cJ,<-al];show(a2.2++[((a2.1.length+l.length:Nat):Int)-1]).map _=_;rw[cJ];congr 1;obtain⟨K,c7⟩:=c.arf;have hm:(c.bs:Int)∈c.hq:=by rw[c7];simp
  have FV:hP c.hq:=by rw[mS]at aj;exact(rK.1 (rK.1 aj).2.1).1
  have aK:kN rb (c.bs:Int)=kN c.hq (c.bs:Int)+((A++oC.flatMap aP.hq).length:Int):=by rw[mS]at aj |-;exact Tu aj hm
  have iH:kN c.hq (c.bs:Int)=(c.hq.length:Int)-1:=by rw[c7]at FV |-;rw[ac6 FV,ct];simp
  rw[s3,s3,aK,iH,ct,<-aa,<-oa];congr 1;omega
def ari{ns:List ak}:∀ {S:aP},cI ns S->∀ (A B rb:List Int),rb=A++(S.hq++B)->hP rb->S.hq.map (nl ns rb)=(S.bare ns).post.map (jQ (A.length:Int)):=by
 intro S
 induction S using aP.ind with
 |h k ks aX=>
  intro cQ A B rb mS aj;obtain⟨aa,ab,al⟩:=cQ.inv;have key:∀ (wW oC:List aP) (a2:List ak×List Int),oC++wW=ks->Jr ns A rb oC a2->Jr ns A rb ks ((wW.map λc=>(c.bare ns).post).foldl ju a2):=by
   intro wW
   induction wW with
   |nil=>intro oC a2 e h;rw[dE]at e;rw[<-e];exact h
   |cons c wW SY=>
    intro oC a2 e h;have ar:c∈ks:=by rw[<-e];simp
    have adL:rb=(A++oC.flatMap aP.hq)++(c.hq++(wW.flatMap aP.hq++([(k:Int)]++B))):=by rw[mS,aP.Jq,<-e];simp
    rw[ch,kw];exact SY (oC++[c]) _ (by rw[<-e];simp) (h.step adL aj (aX c ar (al c ar) _ _ _ adL aj))
  have h:=key ks [] ([],[]) rfl ⟨rfl,rfl,rfl⟩;obtain⟨bb,bh,b2⟩:=h;rw[aP.Jq,aP.nA,aU.ld,gE];show _=(sO (nodeAt ns k).bare (ks.map λc=>(c.bare ns).post)).map _;unfold sO;generalize(ks.map λc=>(c.bare ns).post).foldl ju ([],[])=a2 at bb bh b2;rw[cJ,cJ,bh];congr 1;rw[s3,s3];congr 1;show(nodeAt ns (k:Int).toNat).dJ _=(nodeAt ns k).dJ (a2.2.map (·+(A.length:Int)));rw[b2,h2,ab,gE];rfl
def adM:∀ (fZ:List (List ak)) (a2:List ak×List Int),(∀ x∈a2.1,x.aW=x)->∀ x∈(fZ.foldl ju a2).1,x.aW=x
 |[],_,h=>h
 |l::fZ,a2,h=>adM fZ (ju a2 l) λx ae=>by
  rcases cW.1 (show x∈a2.1++l.map (λx=>x.dJ (x.ao.map λk=>(a2.1.length:Int)+k))from ae)with ae | ae;·exact h x ae
  ·obtain⟨y,aF,rfl⟩:=c6.1 ae;rfl
def adN(T:aU):∀ x∈T.post,x.aW=x:=by
 cases T with
 |mk d ks=>
 intro x ae;rw[aU.ld]at ae;rcases cW.1 ae with ae | ae
 ·exact adM _ _ (λx ae=>wt) x ae
 ·rw[ep.1 ae];rfl
def adO{ns:List ak}{S:aP}(h:cI ns S)(aE:S.c5.Nodup):S.hq.map (nl ns S.hq)=(S.bare ns).post:=by
 have aj:hP S.hq:=Cp.2 (List.Pairwise.imp (fun {a b} bH e=>bH Z) aE);have:=ari h [] [] S.hq am aj;rw[this];refine(fX λx ae=>?_).trans (M4 _);have e:=adN _ x ae;have bc:jQ (([]:List Int).length:Int) x=x.aW:=by show x.dJ (x.ao.map (·+(0:Int)))=x.dJ x.ao;congr 1;refine(fX λk af=>?_).trans (M4 _);show k+0=k;omega
 rw[bc,e];rfl
def fs(ns:List ak)(k:Int):aU:=mH (aU.mk oB []) (λd g=>(λ(d:ak) (xs:List aU)=>aU.mk d.bare xs) d (d.ao.map g)) ns k
def b4(t:bf):aU:=fs t.ns t.bp
def arj(ns:List ak):∀ S:aP,(S.bare ns).fold (λ(d:ak) (xs:List aU)=>aU.mk d.bare xs)=S.bare ns:=by
 intro S
 induction S using aP.ind with
 |h k ks aX=>rw[aP.nA,aU.fold_eq,gE];congr 1;exact fX λc ar=>aX c ar
def Nd{ns:List ak}(af:r2 ns){T:aP}(h:cI ns T):fs ns T.bs=T.bare ns:=by unfold fs;rw[adD (λd l=>rfl) af h,arj]
def hg.xt(h:hg t):r2 t.ns:=h.ao
def hg.lt(h:hg t){j:Nat}(ai:j<t.ns.length):∃ T:aP,T.bs=j/\cI t.ns T/\fs t.ns j=T.bare t.ns/\T.c5.Nodup:=by obtain⟨T,bm,dz⟩:=cI.ex h.xt j ai;refine⟨T,bm,dz,?_,dz.nodup h.xt h.diff⟩;rw[<-bm];exact Nd h.xt dz
def Nf{ns:List ak}(aC:∀ d∈ns,fits d d.ao.length=true):∀ {T:aP},cI ns T->e0 (T.bare ns):=by
 intro T
 induction T using aP.ind with
 |h k ks aX=>
  intro h;obtain⟨aa,ab,al⟩:=h.inv;rw[aP.nA];refine .mk ?_ λc ar=>?_;·have:=aC _ (bD aa);rw[<-fw aa]at this;show fits ((nodeAt ns k).dJ []) _=true;rw[TB,bA];rw[ab,bA]at this;exact this
  ·obtain⟨c',zs,rfl⟩:=c6.1 ar;exact aX c' zs (al c' zs)
def hg.fit(h:hg t):∀ d∈t.ns,Go.V.fits d d.ao.length=true:=λd aj=>by obtain⟨j,ai,rfl⟩:=hL aj;exact h.fits j ai
def adP(h:hg t){j:Nat}(ai:j<t.ns.length):e0 (fs t.ns j):=by obtain⟨T,bm,dz,he,-⟩:=h.lt ai;rw[he];exact Nf h.fit dz
def ark{z:α}{F:ak->List α->α}(bC:∀ d l,F (d.dJ l)=F d)(h:hg t){j:Nat}(ai:j<t.ns.length):mH z (λd g=>F d (d.ao.map g)) t.ns j=(fs t.ns j).fold F:=by obtain⟨T,bm,dz,he,-⟩:=h.lt ai;rw[he,<-bm];exact adD bC h.xt dz
def arl(h:hg t):∀ {T:aP},cI t.ns T->ek t.ns (T.bs:Int)=T.hq:=by
 intro T
 induction T using aP.ind with
 |h k ks aX=>intro bm;obtain⟨aa,ab,al⟩:=bm.inv;show ek t.ns (k:Int)=_;rw[Go.V.ld h aa,ab,aP.Jq,yj];congr 1;exact rO λc ar=>aX c ar (al c ar)
def adQ(h:hg t){j:Nat}(ai:j<t.ns.length):tL t.ns j=(fs t.ns j).post:=by obtain⟨T,bm,dz,he,aE⟩:=h.lt ai;rw[CB h ai,he,<-adO dz aE,<-bm,arl h dz]
structure mq(t:bf)(T:aU):Prop where
 aW:t.ns.map ak.aW=T.post
 bp:t.bp=(t.ns.length:Int)-1
def adR(h:hg t){j:Nat}(ai:j<t.ns.length){be:bf}(aw:lg t j be):mq be (fs t.ns j):=⟨by rw[aw.aW,adQ h ai],aw.bp⟩
def adS(ns:List ak)(k:Int):fs (ns.map ak.aW) k=fs ns k:=by unfold fs mH;rw[HW (f:=λd g=>(λ(d:ak) (xs:List aU)=>aU.mk d.bare xs) d (d.ao.map g)) (g:=λd g=>(λ(d:ak) (xs:List aU)=>aU.mk d.bare xs) d (d.ao.map g)) (λd q=>rfl)]
inductive jA:aU->Prop
 |mk{d:ak}{ks:List aU}:d.bare=d->(∀ c∈ks,jA c)->jA (.mk d ks)
def jA.inv{d:ak}{ks:List aU}(h:jA (.mk d ks)):d.bare=d/\∀ c∈ks,jA c:=by
 cases h with
 |mk aa ab=>exact⟨aa,ab⟩
def jA.fold:∀ {T:aU},jA T->T.fold (λ(d:ak) (xs:List aU)=>aU.mk d.bare xs)=T:=by
 intro T
 induction T using aU.ind with
 |h d ks aX=>intro h;rw[aU.fold_eq,h.inv.1];congr 1;exact(fX λc ar=>aX c ar (h.inv.2 c ar)).trans (M4 _)
def adT(ns:List ak):∀ S:aP,jA (S.bare ns):=by
 intro S
 induction S using aP.ind with
 |h k ks aX=>rw[aP.nA];refine .mk rfl λc ar=>?_;obtain⟨c',zs,rfl⟩:=c6.1 ar;exact aX c' zs
def adU(h:hg t){j:Nat}(ai:j<t.ns.length):jA (fs t.ns j):=by obtain⟨T,bm,dz,he,-⟩:=h.lt ai;rw[he];exact adT _ _
def mq.right{T:aU}(h:mq t T)(bm:e0 T):right t=true:=by
 have aa:=adK bm;rw[<-h.aW]at aa;have ab:=aa.bp;refine ix.2 ⟨?_,λj ai=>?_,λj ai k af=>?_,?_,λj ai=>?_⟩
 ·rw[h.bp];have:(0:Int)<=((t.ns.map ak.aW).length:Int)-1/\((t.ns.map ak.aW).length:Int)-1<((t.ns.map ak.aW).length:Int):=ab;rw[bA]at this;exact this
 ·have:=aa.fits j v4;simp only[jM,gl]at this;exact this
 ·refine aa.ao j v4 k ?_;simp only[jM,gl];exact af
 ·have:hP (eI (t.ns.map ak.aW)):=aa.diff;unfold eI at this;rw[yj]at this;exact this
 ·have:=aa.all j v4;have e:eI (jM (t.ns.map ak.aW)).ns=eI t.ns:=by show eI (t.ns.map ak.aW)=_;unfold eI;rw[yj];rfl
  have bc:(jM (t.ns.map ak.aW)).bp=t.bp:=by show(((t.ns.map ak.aW).length:Nat):Int)-1=_;rw[bA,h.bp]
  rw[e,bc]at this;exact this
def mq.b4{T:aU}(h:mq t T)(bm:e0 T)(ah:jA T):Go.V.b4 t=T:=by unfold Go.V.b4;rw[h.bp,<-adS,h.aW];have:=are (z:=aU.mk oB []) (F:=λ(d:ak) (xs:List aU)=>aU.mk d.bare xs) (λd l=>rfl) bm;rw[ah.fold]at this;unfold AU at this;rw[<-h.aW]at this |-;rw[bA]at this;exact this
def TL(A:cu)(d z:ak)(l:List Nat)(I:aI)(v:Value)(I':aI)(M':List aD):Prop:=(∀ b o,I b=some o->I' b=some o)/\∃ br ds' r,M'=cu.aq ⟨A.b,br,ds'⟩/\cu.ok I' ⟨A.b,br,ds'⟩/\v=.int .i64 r /\ ((jR d A.ds l=[]/\r=(A.ds.length:Int)/\ds'=A.ds++[z])\/(jR d A.ds l=[r]/\ds'=A.ds)\/(2<=(jR d A.ds l).length/\r=(A.ds.length:Int)/\∃ bT i' c',ds'=A.ds++[d.row bT i' c' (jR d A.ds l)]))
def nothing(k:Int):ak:=⟨k,0,0,0,0,⟨#[]⟩,0,0,none,0,0,[]⟩
def Ng(I:aI){k:Int}(af:0<=k/\k<256):(nothing k).ok I:=⟨af,ae',ae',ae',ae',by show 0<=_;decide,by unfold nothing hy;simp,by unfold nothing hy;simp,⟨rfl,⟨cf _,by simp[nothing]⟩,.inl rfl⟩,λx ae=>wt⟩
def arm{A:cu}(dz:A.ok I)(aE:A.ds.length<=1099511627776){d:ak}(aj:d.ok I)(ay:∀ k∈l,k<A.ds.length)(sR:l.length<=1099511627776)(ag:cZ I a n c 1 8 ((l.map Int.ofNat).map (.int .i64 ·))) :
  Spec Tryz.prog 225 [ptr A.b,d.val,.slice a n c] I A.aq (TL A d (nothing 0) l I):=by
 refine bR [] aT Tryz.func225 rfl rfl rfl ?_;intro B ax;have de:=adI (z:=nothing 0) dz aE aj (Ng I bv) ay sR ag;obtain⟨dQ,b0,s1,s2,cg,s,lo,hi,bX,aA,b5,ao⟩:=d;refine a9.mk A.aq [] _ Do de ?_;rintro v I' M'-h;obtain⟨k5,br,ds',r,rfl,bl,rfl,h⟩:=h;exact⟨_,_,.sub am .refl,k5,br,ds',r,rfl,bl,rfl,h⟩
def arn{A:cu}(dz:A.ok I)(aE:A.ds.length<=1099511627776){d:ak}(aj:d.ok I)(ay:∀ k∈l,k<A.ds.length)(sR:l.length<=1099511627776)(ag:cZ I a n c 1 8 ((l.map Int.ofNat).map (.int .i64 ·))) :
  Spec Tryz.prog 226 [ptr A.b,d.val,.slice a n c] I A.aq (TL A d (nothing 1) l I):=by
 refine bR [] aT Tryz.func226 rfl rfl rfl ?_;intro B ax;have de:=adI (z:=nothing 1) dz aE aj (Ng I bv) ay sR ag;obtain⟨dQ,b0,s1,s2,cg,s,lo,hi,bX,aA,b5,ao⟩:=d;refine a9.mk A.aq [] _ Do de ?_;rintro v I' M'-h;obtain⟨k5,br,ds',r,rfl,bl,rfl,h⟩:=h;exact⟨_,_,.sub am .refl,k5,br,ds',r,rfl,bl,rfl,h⟩
def q0(l:List Int)(m:Nat):List (List Value):=(List.range m).reverse.map λi:Nat=>[.int .i64 (i:Int),.int .i64 (l.getD i 0)]
def aro(l:List Int)(m:Nat):q0 l (m+1)=[.int .i64 m,.int .i64 (l.getD m 0)]::q0 l m:=by unfold q0;rw[Ey,yh,zU,qJ,ch]
def arp(a:Option Addr)(n c:Nat):Spec Tryz.prog 295 [.slice a n c] I [] λr I' M'=>∃ b,r=.func (.func 331) #[] #[ptr b]/\I' b=some (.cells #[.slice a n c] 42 (0,0))/\(∀ b o,I b=some o->I' b=some o)/\M'=[]:=by refine bR [1] aT Tryz.func295 rfl rfl rfl ?_;intro B ax;refine bN.mk λg az Ea=>?_;exact⟨_,_,.nG rfl am .refl,g,rfl,o3 ..,l9 az,rfl⟩
def arq{l:List Int}(ag:cZ I a n c 1 8 (l.map (.int .i64 ·))){b:Nat}(ah:I b=some (.cells #[.slice a n c] 42 (0,0))) :
  Iter Tryz.prog 331 [ptr b] I (q0 l n):=by
 intro y R lE rA dU M0 oh iT;refine BA [] aT Tryz.func331 rfl rfl rfl ?_;intro B ax;have g8:=ag.cap;have sR:l.length=n:=by have aa:=ag.len;simpa using aa
 have g4:cZ I a n c 1 8 (l.flatMap iK):=by rw[oA];exact ag
 have bj:∀ (I1:aI) (M:List aD),(∀ b o,I b=some o->I1 b=some o)->cG I1 M ((⟨b,0,none⟩:Addr).add 0) 1 [.slice a n c]:=λI1 M di=>⟨rfl,_,_,_,.inl (di _ _ ah),rfl,rfl⟩;refine aJ.mk _ (bj _ _ oh) ?_;refine a3.mk ((n:Int)-1) (by rw[wrap_i64 (by unfold hy;omega)]) ?_;refine c2.inv (ι:=Nat×Nat×aI×List aD) (λx=>{ bn:=[(0,.val (.func (.yield y) #[] #[])),(1,.val (ptr b)),(3,.val (.int .i64 ((x.1:Int)-1)))],cm:=x.2.2.1,cK:=x.2.2.2 }) (λx=>x.1<=n/\(∀ b o,I b=some o->x.2.2.1 b=some o)/\R x.2.1 x.2.2.1 x.2.2.2/\x.2.1<=(q0 l n).length/\(q0 l n).drop x.2.1=q0 l x.1) (λx=>x.1) ?_ ?_
 ·exact⟨(n,0,dU,M0),⟨am,oh,iT,am,rfl⟩,.refl,e2,.nil⟩
 ·rintro⟨m,k,I1,M1⟩⟨hm,di,h',cL,iW⟩;simp only at hm di h' cL iW;refine aS.mk (λh=>?_) (λh=>?_)
  ·have aV:(0:Int)<=(m:Int)-1:=cv h;obtain⟨m,rfl⟩:∃ q,m=q+1:=⟨m-1,Z⟩;have aN:((m+1:Nat):Int)-1=(m:Int):=by omega
   obtain⟨ad,bt,PN⟩:=(g4.mono di).row (f:=iK) (λ_=>rfl) (j:=m) Z Z;rw[aro]at iW;obtain⟨af,an,sI⟩:=drop_cons iW;refine aJ.mk _ (bj _ _ di) ?_;refine bi.mk ad m bt aN Z ?_;refine aJ.mk _ (PN _) ?_;refine bz.yield rfl am rfl rfl ?_;have aF:=rA k af I1 M1 di h';rw[an]at aF;have bc:l.getD m 0=l[m]:=by simp[bP,show m<l.length by omega]
   rw[bc,<-aN]at aF;refine BK.mk M1 [] _ am aF ?_;rintro v ed dp gq (⟨rfl,nb⟩ | ⟨rfl,ae⟩);·refine aS.mk (λh=>d5) (λ_=>?_);refine a3.mk ((m:Int)-1) (by rw[wrap_i64 (by unfold hy;omega)];omega) ?_;exact⟨(m,k+1,ed,dp),⟨⟨ce,λb o h=>gq b o (di b o h),nb,af,sI⟩,ce⟩,.perm am .refl,e2,.nil⟩
   ·refine aS.mk (λ_=>?_) (λh=>d5);exact⟨_,_,.perm am .refl,.inr ae⟩
  ·have cM:¬ (0:Int)<=(m:Int)-1:=db h;obtain rfl:m=0:=by omega
   refine⟨_,_,.refl,.inl ?_⟩;have x3:k=(q0 l n).length:=by have:(q0 l n).drop k=[]:=iW.trans (by simp[q0]);have:=GV.1 this;omega
   rw[<-x3];exact h'
def Spec.Nh{P:Program}{f:Nat}{args:List Value}{p q:Value->aI->List aD->Prop}(h:Spec P f args I M p)(m3:∀ v I' M',p v I' M'->q v I' M'):Spec P f args I M q:=by
 rcases h with⟨aa,ab⟩ | ab
 ·refine .inl ⟨aa,λw hw=>(ab w hw).mono ?_⟩;rintro e w'⟨v,I',M',al,aL,bB⟩;exact⟨v,I',M',al,m3 _ _ _ aL,bB⟩
 ·refine .inr λw hw=>?_;obtain⟨v,w',I',M',al,aL,bB⟩:=ab w hw;exact⟨v,w',I',M',al,m3 _ _ _ aL,bB⟩
def y1:Nat:=224
def adV:List Nat:=[y1,y1,y1,y1,225,226,y1,y1,y1,y1]
def TM:List Value:=adV.map λf=>.func (.func f) #[] #[]
def ars:Spec Tryz.prog 150 [] I [] λv I' M'=>v=.agg TM.toArray/\I'=I/\M'=[]:=by refine bR [] aT Tryz.func150 rfl rfl rfl ?_;intro B ax;exact⟨_,_,.refl,rfl,rfl,rfl⟩
def xu(d:ak)(l:List Nat)(ds ds':List ak)(r:Int):Prop:=
 if d.k=4\/d.k=5 then
  (jR d ds l=[]/\r=(ds.length:Int)/\ds'=ds++[nothing (d.k-4)])\/(jR d ds l=[r]/\ds'=ds)\/(2<=(jR d ds l).length/\r=(ds.length:Int)/\∃ bT i' c',ds'=ds++[d.row bT i' c' (jR d ds l)])
 else r=(ds.length:Int)/\∃ bT i' c',ds'=ds++[d.row bT i' c' (l.map Int.ofNat)]
def TN(A:cu)(d:ak)(l:List Nat)(I:aI)(v:Value)(I':aI)(M':List aD):Prop:=(∀ b o,I b=some o->I' b=some o)/\∃ br ds' r,M'=cu.aq ⟨A.b,br,ds'⟩/\cu.ok I' ⟨A.b,br,ds'⟩/\v=.int .i64 r/\xu d l A.ds ds' r
def art{A:cu}(dz:A.ok I)(aE:A.ds.length<=1099511627776){d:ak}(aj:d.ok I)(ay:∀ k∈l,k<A.ds.length)(sR:l.length<=1099511627776)(ag:cZ I a n c 1 8 ((l.map Int.ofNat).map (.int .i64 ·)))(j:Nat)(ai:j<10)(af:d.k=j) :
  Spec Tryz.prog (adV.getD j 0) [ptr A.b,d.val,.slice a n c] I A.aq (TN A d l I):=by
 have aru:∀ x∈l.map Int.ofNat,hy x:=λx ae=>by obtain⟨k,af,rfl⟩:=c6.1 ae;have:=ay k af;unfold hy;simp only[B0];omega
 have nK:¬ (d.k=4\/d.k=5)->Spec Tryz.prog y1 [ptr A.b,d.val,.slice a n c] I A.aq (TN A d l I):=λbH=>by refine Spec.Nh (adH dz aE aj ag aru) ?_;rintro v I' M'⟨rfl,rfl,os,rfl,bl⟩;refine⟨λ_ _ h=>h,os,_,_,rfl,bl,rfl,?_⟩;unfold xu;rw[bK bH];exact⟨rfl,_,_,_,rfl⟩
 have adW:∀ {k:Int},d.k=k+4->(k=0\/k=1)->∀ {f:Nat},Spec Tryz.prog f [ptr A.b,d.val,.slice a n c] I A.aq (TL A d (nothing k) l I)->Spec Tryz.prog f [ptr A.b,d.val,.slice a n c] I A.aq (TN A d l I):=fun {k} af hQ {f} h=>by refine Spec.Nh h ?_;rintro v I' M'⟨k5,os,ds',r,rfl,bl,rfl,h⟩;refine⟨k5,os,ds',r,rfl,bl,rfl,?_⟩;unfold xu;rw[bY Z,show d.k-4=k by omega];exact h
 match j,ai with
 |0,_=>exact nK Z| 1,_=>exact nK Z| 2,_=>exact nK Z| 3,_=>exact nK Z| 4,_=>exact adW Z (.inl rfl) (arm dz aE aj ay sR ag)| 5,_=>exact adW Z (.inr rfl) (arn dz aE aj ay sR ag)| 6,_=>exact nK Z| 7,_=>exact nK Z| 8,_=>exact nK Z| 9,_=>exact nK Z
def e7(l:List aP):List Int:=l.map λS=>(S.bs:Int)
def FW(a b:List aP):e7 (a++b)=e7 a++e7 b:=cJ
def arv{ns:List ak}{T:aP}(h:iM (nodeAt ns T.bs)=none):T.parts ns=T.sub:=by
 unfold aP.parts;rw[h];have:∀ c:aP,aP.pA ns none c=[c]:=λc=>by
  cases c with
  |mk k ks=>rw[aP.yY,bK am]
 refine(rO λc _=>this c).trans ?_;simp
def cI.AY{ns:List ak}:∀ {T:aP},cI ns T->(nodeAt ns T.bs).ao=e7 T.sub
 | .mk k ks,h=>h.inv.2.1
def cI.AZ{ns:List ak}:∀ {T:aP},cI ns T->∀ c∈T.sub,cI ns c
 | .mk k ks,h=>h.inv.2.2
def hF(l:List aP):Nat:=(l.map λS=>S.c5.length).sum
def A0(a b:List aP):hF (a++b)=hF a+hF b:=by unfold hF;rw[cJ,pW]
def FX:∀ T:aP,T.c5.length=hF T.sub+1
 | .mk k ks=>by rw[aP.mT,ct,yg];rfl
def adX(a:List aP):hF a.reverse=hF a:=by unfold hF;rw[TF,List.sum_reverse]
def A1:∀ l:List aP,l.length<=hF l
 |[]=>dh _| c::l=>by have:=A1 l;have ab:=FX c;show l.length+1<=c.c5.length+hF l;omega
structure arw(I:aI)(A:cu)(b3:Option Int)(arx:List aP)(sz:Nat)(lo dr:aO)(hk a2:List aP)(J:aI):Prop where
 a6:∀ b o,I b=some o->J b=some o
 lo:lo.ok 1 ((e7 hk).map (.int .i64 ·))
 dr:dr.ok 1 ((e7 a2).map (.int .i64 ·))
 bF:∀ S∈a2,cI A.ds S
 same:hk++a2.reverse.flatMap (aP.pA A.ds b3)=arx
 sz:hk.length+hF a2<=sz
def Js(l:List Int)(n:Nat):(q0 l n).length=n:=by simp[q0]
def ary(l:List Int){k:Nat}(h:k<(q0 l n).length)(af:n-1-k<l.length):(q0 l n)[k]=[.int .i64 ((n-1-k:Nat):Int),.int .i64 l[n-1-k]]:=by simp only[q0,gl,P9,wN,w1];rw[bP,du af];rfl
def arz{A:cu}(dz:A.ok I)(aE:A.ds.length<=1099511627776){T:aP}(bm:cI A.ds T)(dy:T.c5.length<=1099511627776) :
  Spec Tryz.prog 227 [ptr A.b,.int .i64 T.bs] I A.aq λv I' M'=>(∀ b o,I b=some o->I' b=some o)/\M'=A.aq/\∃ a n c,v=.slice a n c/\cZ I' a n c 1 8 ((e7 (T.parts A.ds)).map (.int .i64 ·)):=by
 refine wg [7] aT Tryz.func227 rfl rfl rfl ?_;intro B ax;have cL:=bm.nz;have adY:=dz.n;obtain⟨ad,bt,bj⟩:=aO.ok.row (I:=I) (M:=A.aq) ak.cq bv dz.os (e:=88) (λx ae=>ayZ) (j:=T.bs) cL;have h0:=dz.ds _ (bD cL);have jL:=fw cL;have qD:=bm.AY;generalize eZ:A.ds[T.bs]=d at bj h0 jL;rw[jL]at qD;obtain⟨dQ,b0,s1,s2,cg,s,lo,hi,bX,aA,b5,ao⟩:=d;refine aJ.mk [A.os.val] (dj (cs:=[A.os.val]) (k:=0) (n:=1) (T:=172) H1 am) ?_;refine bi.mk ad T.bs bt rfl Z ?_;refine aJ.mk _ bj ?_;refine bZ.mk (λaL=>?_) (λaL=>?_)
 case' refine_1=>
  have arA:dQ≠4:=by simpa using aL
  refine aS.mk (λbB=>?_) (λbB=>?_)
  case' refine_1=>
   have arB:dQ≠5:=by simpa using bB
   intro _;refine⟨_,_,.refl,λ_ _ h=>h,rfl,bX,aA,b5,rfl,?_⟩;rw[arv (by rw[jL];unfold iM;rw[bK];simp[arA,arB]),<-qD];exact h0.a'
  have gM:dQ=4\/dQ=5:=.inr ayY
 case' refine_2=>have gM:dQ=4\/dQ=5:=.inl AC
 all_goals
  have r5:iM (nodeAt A.ds T.bs)=some dQ:=by rw[jL];unfold iM;rw[bY gM]
  have wS:T.parts A.ds=T.sub.flatMap (aP.pA A.ds (some dQ)):=by unfold aP.parts;rw[r5]
  refine bN.mk λb1 iU TO=>?_;refine bN.mk λb7 Cz adZ=>?_;refine b'.mk [] (⟨b1,_⟩::A.aq) _ _ rfl rfl (bJ rfl) rfl ?_;clear bt bj;refine c2.rc (ι:=aO×aO×List aP×List aP×aI) (λx=>{ bn:=[(0,.val (ptr A.b)),(5,.ref 5 0),(6,.val x.1.val),(7,.val (ptr b7))],cl:=[(5,ak.cells ⟨dQ,b0,s1,s2,cg,s,lo,hi,bX,aA,b5,ao⟩)],cm:=x.2.2.2.2,cK:=⟨b7,.cells #[x.2.1.val] 42 (0,0)⟩::(x.2.1.aq 3++(x.1.aq 3++A.aq)) }) (λx=>arw I A (some dQ) (T.parts A.ds) T.c5.length x.1 x.2.1 x.2.2.1 x.2.2.2.1 x.2.2.2.2) (λx=>hF x.2.2.2.1) ?_ ?_
  ·intro _;refine⟨(⟨none,0,0,[]⟩,⟨some b1,1,1,[.int .i64 T.bs]⟩,[],[T],I),⟨λ_ _ h=>h,⟨rfl,(λ_=>⟨rfl,rfl⟩),λg h=>ci⟩,⟨rfl,(λh=>ci),λet jF=>⟨rfl,cf _,ayU,rfl⟩⟩,λS cQ=>?_,?_,?_⟩,.refl,dS,.cons rfl (.nil)⟩
   ·rw[ep.1 cQ];exact bm
   ·rw[hW,zU,o9,wS];cases T with
    |mk k ks=>
    rw[aP.yY,bY (by rw[show nodeAt A.ds k=_ from jL])];rfl
   ·simp[hF]
  rintro⟨lo,dr,hk,a2,J⟩⟨a6,ft,nu,fa,s4,ad0⟩;simp only at a6 ft nu fa s4 ad0;have oa:=ft.nX;have sM:=nu.nX;have gJ:=A1 a2;simp only[e7,bA]at oa sM;refine aJ.mk [dr.val] (dj (cs:=[dr.val]) (k:=0) (n:=1) (T:=42) (.head _) am) ?_;refine aS.mk (λh=>?_) (λh=>?_)
  ·have Qg:0<dr.n:=by have:(0:Int)<(dr.n:Int):=cv h;omega
   obtain⟨gb,S,rfl⟩:∃ r p,a2=r++[p]:=by
    rcases xS a2 with aa | ⟨r,p,aa⟩;·subst aa;simp at sM;omega
    ·exact⟨r,p,ol⟩
   have cQ:=fa S am;have qf:=cQ.nz;have TP:=FX S;have u4:hF [S]=S.c5.length:=by simp[hF]
   have arC:=A1 S.sub;rw[A0,u4,TP]at ad0 gJ;have gK:dr.n=gb.length+1:=by have dW:=sM;simp only[ct,pi]at dW;omega
   rw[yh,zU,qJ,iS]at s4;obtain⟨ad,bt,bj⟩:=aO.yf (I:=J) (e:=3) (M:=⟨b7,.cells #[dr.val] 42 (0,0)⟩::(dr.aq 3++(lo.aq 3++A.aq))) nu (λx ae=>f0) (j:=gb.length) (by simp[e7]);have y2:(e7 (gb++[S]))[gb.length]'(by simp[e7])=(S.bs:Int):=by simp[e7]
   rw[y2]at bj;have k':=nu;rw[FW,cJ]at k';have k':aO.ok ⟨dr.a,dr.n-1,dr.c,dr.aR⟩ 1 ((e7 gb).map (.int .i64 ·)):=aO.pop k';have he:dr.n-1=gb.length:=by omega
   rw[he]at k';have Jc:gb.length<=dr.c:=by
    cases AS:dr.a with
    |none=>have:=(nu.nil AS).1;omega| some yk=>have:=(nu.cap yk AS).2.1;omega
   refine aJ.mk [dr.val] (dj (cs:=[dr.val]) (k:=0) (n:=1) (T:=42) (.head _) am) ?_;refine aJ.mk [dr.val] (dj (cs:=[dr.val]) (k:=0) (n:=1) (T:=42) (.head _) am) ?_;refine a3.mk ((gb.length:Nat):Int) ii ?_;refine bi.mk ad gb.length bt rfl (show gb.length<dr.n by omega) ?_;refine aJ.mk _ bj ?_;refine aJ.mk [dr.val] (dj (cs:=[dr.val]) (k:=0) (n:=1) (T:=42) (.head _) am) ?_;refine aJ.mk [dr.val] (dj (cs:=[dr.val]) (k:=0) (n:=1) (T:=42) (.head _) am) ?_;refine a3.mk ((gb.length:Nat):Int) ii ?_;refine j7.mk 0 gb.length rfl rfl (dh _) Jc ?_;refine b'.mk [] (dr.aq 3++(lo.aq 3++A.aq)) #[dr.val] 42 rfl rfl (bJ rfl) rfl ?_;have ad1:=dz.mono a6;obtain⟨Ad,ym,y3⟩:=aO.ok.row (I:=J) (M:=⟨b7,.cells #[(⟨dr.a,gb.length,dr.c,dr.aR⟩:aO).val] 42 (0,0)⟩::(dr.aq 3++(lo.aq 3++A.aq))) ak.cq bv ad1.os (e:=88) (λx ae=>ayZ) (j:=S.bs) qf;have Ni:=fw qf;have Nj:=ad1.ds _ (bD qf);have Nk:=cQ.AY;rw[Ni]at Nk;generalize ad2:A.ds[S.bs]=r6 at y3 Ni Nj Nk;refine cN.draw aT rfl rfl rfl ?_;refine aJ.mk [A.os.val] (dj (cs:=[A.os.val]) (k:=0) (n:=1) (T:=172) H1 am) ?_;refine bi.mk Ad S.bs ym rfl Z ?_;refine aJ.mk _ (cG.part (k:=0) (m:=1) y3 bv) ?_;refine aS.mk (λcA=>?_) (λcA=>?_)
   ·have bH:r6.k≠dQ:=by simpa using cA
    have TQ:aP.pA A.ds (some dQ) S=[S]:=by
     cases S with
     |mk k ks=>
     rw[aP.yY,bK];intro e;rw[show nodeAt A.ds k=r6 from Ni]at e;exact bH (eX e)
    rw[TQ,qJ]at s4;refine bN.mk λb9 kI r3=>?_;refine bz.lh aT rfl am (e:=3) rfl rfl rfl lo ft rfl (cs:=[.int .i64 S.bs]) rfl rfl rfl (⟨b7,.cells #[(⟨dr.a,gb.length,dr.c,dr.aR⟩:aO).val] 42 (0,0)⟩::dr.aq 3) A.aq rfl Z (by show(lo.n+1)*8<=_;omega) ?_;intro L9 aa ab al;intro _;refine⟨(L9,⟨dr.a,gb.length,dr.c,dr.aR⟩,hk++[S],gb,J),⟨⟨a6,?_,k',λx ae=>fa x f0,?_,?_⟩,?_⟩,.refl,dS,.cons rfl (.nil)⟩;·rw[FW,cJ];exact al
    ·rw[ej,qJ];exact s4
    ·show(hk++[S]).length+hF gb<=T.c5.length;rw[ct,pi];omega
    ·show hF gb<hF (gb++[S]);rw[A0,u4];omega
   ·have he:r6.k=dQ:=by simpa using cA
    have TQ:aP.pA A.ds (some dQ) S=S.sub.flatMap (aP.pA A.ds (some dQ)):=by
     cases S with
     |mk k ks=>
     rw[aP.yY,bY];·rfl
     ·rw[show nodeAt A.ds k=r6 from Ni,he]
    have eF:=Nj.aA;have mL:=Nj.a'.cap;have Nl:r6.ao.length=S.sub.length:=by rw[Nk];simp[e7]
    refine aJ.mk [A.os.val] (dj (cs:=[A.os.val]) (k:=0) (n:=1) (T:=172) H1 am) ?_;refine bi.mk Ad S.bs ym rfl Z ?_;refine aJ.mk _ (cG.part (k:=8) (m:=1) y3 bv) ?_;refine a9.mk [] _ _ (.refl _) (arp r6.bX r6.aA r6.b5) ?_;rintro v iL M1 -⟨c9,rfl,yb,h1,rfl⟩;have arD:∀ b o,I b=some o->iL b=some o:=λb o h=>h1 _ _ (a6 _ _ h);refine cN.range aT rfl rfl rfl .refl (arq (Nj.a'.mono h1) yb) (λvs h=>?_) (λk I' M'=>∃ e8:aO,(∀ b o,iL b=some o->I' b=some o)/\e8.ok 1 ((e7 (gb++S.sub.reverse.take k)).map (.int .i64 ·))/\M'=⟨b7,.cells #[e8.val] 42 (0,0)⟩::(e8.aq 3++(lo.aq 3++A.aq))) (λex I' M'=>False) ⟨⟨dr.a,gb.length,dr.c,dr.aR⟩,λ_ _ h=>h,by simpa using k',rfl⟩ ?_ ?_ (λex I' M' _ h=>h.elim);·obtain⟨p,_,rfl⟩:=c6.1 h;rfl
    ·rintro k af I' M' -⟨e8,k5,kV,rfl⟩l B ax jk;have e4:k<S.sub.length:=by rw[Js]at af;omega
     have an:=ary r6.ao af (by rw[Js]at af;omega);have eR:r6.ao[r6.aA-1-k]'(by rw[Js]at af;omega)=((S.sub.reverse[k]'(by rw[ve];exact e4)).bs:Int):=by
      have aa:r6.ao[r6.aA-1-k]?=(e7 S.sub)[r6.aA-1-k]?:=by rw[Nk]
      rw[du (by rw[Js]at af;omega)]at aa;unfold e7 at aa;rw[jJ,du Z]at aa;rw[eX aa,P9];congr 3;omega
     rw[eR]at an;rw[an];have arE:=kV.nX;simp only[e7,bA,ct,fF,ve]at arE;refine aJ.mk [e8.val] (dj (cs:=[e8.val]) (k:=0) (n:=1) (T:=42) (.head _) am) ?_;refine bN.mk λb9 kI r3=>?_;refine bz.lh aT rfl am (e:=3) rfl rfl rfl e8 kV rfl (cs:=[.int .i64 (S.sub.reverse[k]'(by rw[ve];exact e4)).bs]) rfl rfl rfl [_] (lo.aq 3++A.aq) rfl Z (by show(e8.n+1)*8<=_;omega) ?_;intro fS aa ab al;refine b'.mk [] (fS.aq 3++(lo.aq 3++A.aq)) #[e8.val] 42 rfl rfl (bJ rfl) rfl ?_;refine⟨_,_,.refl,fS,k5,?_,rfl⟩;rw[gi (by rw[ve];exact e4),<-ej,FW,cJ];exact al
    ·rintro I' M' -⟨e8,k5,kV,rfl⟩;rw[Js,fE (by rw[ve];omega)]at kV;intro _;refine⟨(lo,e8,hk,gb++S.sub.reverse,I'),⟨⟨λb o h=>k5 _ _ (arD _ _ h),ft,kV,λx ae=>?_,?_,?_⟩,?_⟩,.refl,dS,.cons rfl (.nil)⟩
     ·rcases cW.1 ae with ae | ae
      ·exact fa x f0
      ·exact cQ.AZ x (SX.1 ae)
     ·rw[yh,R4,fL,<-TQ];exact s4
     ·show hk.length+hF (gb++S.sub.reverse)<=T.c5.length;rw[A0,adX];omega
     ·show hF (gb++S.sub.reverse)<hF (gb++[S]);rw[A0,A0,adX,u4];omega
  ·have ax:dr.n=0:=by have:¬ (0:Int)<(dr.n:Int):=db h;omega
   obtain rfl:a2=[]:=iB Z;intro ew;have ew:mA J (⟨b7,.cells #[dr.val] 42 (0,0)⟩::(dr.aq 3++(lo.aq 3++A.aq))):=ew;have Fo:hk=T.parts A.ds:=by simpa using s4
   subst Fo;have mo:(⟨b7,.cells #[dr.val] 42 (0,0)⟩::(dr.aq 3++(lo.aq 3++A.aq)):List aD).Perm (lo.aq 3++(A.aq++([⟨b7,.cells #[dr.val] 42 (0,0)⟩]++dr.aq 3))):=by have:=eM (l₁:=([⟨b7,.cells #[dr.val] 42 (0,0)⟩]++dr.aq 3:List aD)) (l₂:=lo.aq 3++A.aq);simpa using this
   have az:∀ g,lo.a=some g->J g=none/\g ∉ A.aq.map (·.num):=λg az=>by
    have ah:lo.aq 3=[⟨g,.cells lo.aR.toArray 3 (0,0)⟩]:=by unfold aO.aq;rw[az]
    have bW:=(mo.map (·.num)).nodup_iff.1 ew.bO;rw[ah]at bW;refine⟨ew.d ⟨g,.cells lo.aR.toArray 3 (0,0)⟩ (by simp[ah]),λhm=>?_⟩;rw[cJ]at bW;simp only[ch,hd,qJ,mw,cJ]at bW;exact bW.1 (iy _ hm)
   obtain⟨ed,hw,gq,dM,-⟩:=aO.z7 (b:=8) (e:=3) ft Z az (A.aq++([⟨b7,.cells #[dr.val] 42 (0,0)⟩]++dr.aq 3));exact⟨ed,A.aq,.perm mo (hw _ _ (.sub (tK _ _) .refl)),λb o h=>gq _ _ (a6 _ _ h),rfl,_,_,_,rfl,dM⟩
def y4(l:List Nat):List Int:=l.map λx:Nat=>(x:Int)
structure Nm(I:aI)(A:cu)(T:aP)(lo dr:aO)(hk:List Nat)(a2:List aP)(os:aO)(ds:List ak)(J:aI):Prop where
 a6:∀ b o,I b=some o->J b=some o
 ok:cu.ok J ⟨A.b,os,ds⟩
 lo:lo.ok 1 ((y4 hk).map (.int .i64 ·))
 dr:dr.ok 1 ((e7 a2).map (.int .i64 ·))
 bF:∀ S∈a2,cI A.ds S
 bO:(hk++a2.flatMap aP.c5).Nodup
 len:ds.length=A.ds.length
 a:os.a=A.os.a
 same:∀ w,w ∉ hk->nodeAt ds w=nodeAt A.ds w
 done:∀ w∈hk,∃ S a n c,cI A.ds S/\S.bs=w/\nodeAt ds w=(nodeAt A.ds w).row a n c (e7 (S.parts A.ds))
 out:hk++a2.reverse.flatMap (λS=>(S.bw A.ds).c5.reverse)=(T.bw A.ds).c5.reverse
def Nm.lt{A:cu}{T:aP}{lo dr:aO}{hk:List Nat}{a2:List aP}{ds:List ak}(h:Nm I A T lo dr hk a2 os ds J):hk.length+hF a2<=A.ds.length:=by
 have aa:=M6 (n:=A.ds.length) h.bO λx ae=>by
  rcases cW.1 ae with ae | ae;·obtain⟨S,-,-,-,cQ,rfl,-⟩:=h.done x ae;exact cQ.nz
  ·obtain⟨S,cQ,ae⟩:=hB.1 ae;exact(h.bF S cQ).lt x ae
 rw[ct,yg]at aa;exact aa
def mA.FY{foot:List Nat}(ew:mA J M)(aK:M.Perm (os.aq e++Mr))(aC:∀ x∈foot,x∈Mr.map (·.num)):∀ g,os.a=some g->J g=none/\g ∉ foot:=λg az=>by
 have ah:os.aq e=[⟨g,.cells os.aR.toArray e (0,0)⟩]:=by unfold aO.aq;rw[az]
 have bW:=(aK.map (·.num)).nodup_iff.1 ew.bO;refine⟨ew.d ⟨g,.cells os.aR.toArray e (0,0)⟩ (aK.mem_iff.2 (by rw[ah];exact .head _)),λhm=>?_⟩;rw[ah,cJ]at bW;simp only[ch,hd,qJ,mw]at bW;exact bW.1 (aC g hm)
def arF{br:aO}(h:os.val=br.val):os.a.map (λg=>(⟨g,0,none⟩:Addr))=br.a.map (λg=>(⟨g,0,none⟩:Addr)):=by unfold aO.val at h;injection h
structure ad3(d:ak)(dc:List Int)(y:Nat×aO×List Int):Prop where
 k:y.1<=d.aA
 ok:y.2.1.ok 1 (y.2.2.map (.int .i64 ·))
 eq:y.2.2=(d.ao.take y.1).map (λk=>dc.getD k.toNat 0)
def arG{ns:List ak}(h:∀ w,(nodeAt eh w).k=(nodeAt ns w).k)(b3:Option Int):∀ S:aP,S.pA eh b3=S.pA ns b3:=by
 intro S
 induction S using aP.ind with
 |h k ks aX=>
  rw[aP.yY,aP.yY,h k];split;·exact rO λc ar=>aX c ar
  ·rfl
def arH{d e:ak}(h:d.k=e.k):iM d=iM e:=by unfold iM;rw[h]
def arI{ns:List ak}(h:∀ w,(nodeAt eh w).k=(nodeAt ns w).k)(S:aP):S.parts eh=S.parts ns:=by unfold aP.parts;rw[arH (h S.bs)];exact rO λc ar=>arG h _ c
def ak.arJ(d:ak)(a:Option Addr)(n c:Nat)(ks:List Int):cp d.cells 8 [.slice a n c]=(d.row a n c ks).cells:=rfl
def arK{ns:List ak}:∀ {T:aP},cI ns T->p2 ns T.hq:=by
 intro T
 induction T using aP.ind with
 |h k ks aX=>
  intro h;obtain⟨aa,ab,al⟩:=h.inv;have aC:p2 ns (ks.flatMap aP.hq):=by
   have:∀ l:List aP,(∀ c∈l,p2 ns c.hq)->p2 ns (l.flatMap aP.hq):=λl=>by
    induction l with
    |nil=>intro _ i h;simp at h| cons c l TR=>intro ay;rw[iS];exact(ay c (.head _)).append (TR λx ae=>ay x (.tail _ ae))
   exact this ks λc ar=>aX c ar (al c ar)
  rw[aP.Jq];intro i hi x ae;by_cases e:i<(ks.flatMap aP.hq).length;·rw[wE e]at ae;rw[BJ Z];exact aC i e x ae
  ·rw[ct,pi]at hi;have aH:i=(ks.flatMap aP.hq).length:=by omega
   subst aH;rw[Cl (cf _)]at ae;simp only[mK,List.getElem_singleton,h2]at ae;rw[wy];rw[ab]at ae;obtain⟨c,ar,rfl⟩:=c6.1 ae;exact hB.2 ⟨c,ar,c6.2 ⟨c.bs,c.FR,rfl⟩⟩
def arL{ns:List ak}:∀ {T:aP},cI ns T->∀ x∈T.c5,∀ q∈(nodeAt ns x).ao,0<=q/\q<ns.length:=by
 intro T
 induction T using aP.ind with
 |h k ks aX=>
  intro h x ae q aM;obtain⟨aa,ab,al⟩:=h.inv;rw[aP.mT]at ae;rcases cW.1 ae with ae | ae;·obtain⟨c,ar,ae⟩:=hB.1 ae;exact aX c ar (al c ar) x ae q aM
  ·rw[ep.1 ae,ab]at aM;obtain⟨c,ar,rfl⟩:=c6.1 aM;have:=(al c ar).nz;omega
def aP.arM(ns:List ak)(S:aP):((S.parts ns).flatMap aP.c5).Sublist (S.sub.flatMap aP.c5):=by unfold aP.parts;rw[Dg];exact FU λc ar=>aP.aqQ ns _ c
def arN{ds:List ak}{j:Nat}(ai:j<ds.length)(x:ak)(w:Nat):nodeAt (ds.set j x) w=if w=j then x else nodeAt ds w:=by
 unfold nodeAt;rw[bP,bP,iq];by_cases e:w=j
 ·subst e;rw[bY rfl,bY ai,bY rfl];rfl
 ·rw[bK (λh=>e h.symm),bK e]
def arO(ns:List ak)(S:aP):(S.bw ns).c5.reverse=S.bs::(S.parts ns).reverse.flatMap λc=>(c.bw ns).c5.reverse:=by
 have h:=aP.adw ns S;have ay:=aP.adv ns S;generalize S.bw ns=O at h ay;cases O with
 |mk k ks=>
 obtain rfl:k=S.bs:=ay;rw[aP.mT,show ks=_ from h,yh,zU,qJ,List.reverse_flatMap,<-TF,yj];rfl
def arP{A:cu}(dz:A.ok I)(aE:A.ds.length<=1099511627776)(af:r2 A.ds)(aj:hP (eI A.ds)){T:aP}(bm:cI A.ds T) :
  Spec Tryz.prog 151 [ptr A.b,.int .i64 T.bs] I A.aq λv I' M'=>(∀ b o,I b=some o->I' b=some o)/\M'=[]/\∃ be:bf,v=be.val/\be.ok I'/\mq be (T.bare A.ds).bw:=by
 refine wg [] aT Tryz.func151 rfl rfl rfl ?_;intro B ax;refine bN.mk λb1 iU TO=>?_;refine c2.inv (ι:=aO×aO×List Nat×List aP×aO×List ak×aI) (λx=>{ bn:=[(0,.val (ptr A.b)),(4,.ref 4 0),(5,.val x.1.val),(6,.val x.2.1.val)],cl:=[(4,[.slice none 0 0,.int .i64 0])],cm:=x.2.2.2.2.2.2,cK:=x.2.1.aq 3++(x.1.aq 3++cu.aq ⟨A.b,x.2.2.2.2.1,x.2.2.2.2.2.1⟩) }) (λx=>Nm I A T x.1 x.2.1 x.2.2.1 x.2.2.2.1 x.2.2.2.2.1 x.2.2.2.2.2.1 x.2.2.2.2.2.2) (λx=>hF x.2.2.2.1) ?_ ?_
 ·refine⟨(⟨none,0,0,[]⟩,⟨some b1,1,1,[.int .i64 T.bs]⟩,[],[T],A.os,A.ds,I),⟨λ_ _ h=>h,dz,⟨rfl,(λ_=>⟨rfl,rfl⟩),λg h=>ci⟩,⟨rfl,(λh=>ci),λet jF=>⟨rfl,cf _,ayU,rfl⟩⟩,λS cQ=>?_,?_,rfl,rfl,λw _=>rfl,(λw hw=>by cases hw),?_⟩,.refl,dS,.cons rfl (.nil)⟩
  ·rw[ep.1 cQ];exact bm
  ·rw[hW,o9];exact bm.nodup af aj
  ·rw[hW,zU,o9]
 rintro⟨lo,dr,hk,a2,os,ds,J⟩bG;have bG:Nm I A T lo dr hk a2 os ds J:=bG;have aV:=bG.lt;obtain⟨a6,bl,ft,nu,fa,bW,c0,ad4,s4,Fw,nj⟩:=bG;have oa:=ft.nX;have sM:=nu.nX;have gJ:=A1 a2;simp only[e7,y4,bA]at oa sM;refine aS.mk (λh=>?_) (λh=>?_)
 ·have Qg:0<dr.n:=by have:(0:Int)<(dr.n:Int):=cv h;omega
  obtain⟨gb,S,rfl⟩:∃ r p,a2=r++[p]:=by
   rcases xS a2 with aa | ⟨r,p,aa⟩;·subst aa;simp at sM;omega
   ·exact⟨r,p,ol⟩
  have cQ:=fa S am;have qf:=cQ.nz;have TP:=FX S;have u4:hF [S]=S.c5.length:=by simp[hF]
  have arC:=A1 S.sub;rw[A0,u4,TP]at aV gJ;have gK:dr.n=gb.length+1:=by have dW:=sM;simp only[ct,pi]at dW;omega
  have TS:∀ w∈S.c5,w ∉ hk:=λw hw Nn=>by have:=(uw.1 bW).2.2 w Nn w (by rw[fL,o9];exact sf _ hw);exact this rfl
  have ad2:cI ds S:=cQ.congr λw hw=>⟨by rw[c0];exact cQ.lt w hw,by rw[s4 w (TS w hw)]⟩;have eR:∀ w,(nodeAt ds w).k=(nodeAt A.ds w).k:=λw=>by
   by_cases hw:w∈hk;·obtain⟨ll,a,n,c,-,-,e⟩:=Fw w hw;rw[e];rfl
   ·rw[s4 w hw]
  have SG:S.parts ds=S.parts A.ds:=arI eR S;obtain⟨ad,bt,bj⟩:=aO.yf (I:=J) (e:=3) (M:=dr.aq 3++(lo.aq 3++cu.aq ⟨A.b,os,ds⟩)) nu (λx ae=>f0) (j:=gb.length) (by simp[e7]);have y2:(e7 (gb++[S]))[gb.length]'(by simp[e7])=(S.bs:Int):=by simp[e7]
  rw[y2]at bj;have k':=nu;rw[FW,cJ]at k';have k':aO.ok ⟨dr.a,dr.n-1,dr.c,dr.aR⟩ 1 ((e7 gb).map (.int .i64 ·)):=aO.pop k';have he:dr.n-1=gb.length:=by omega
  rw[he]at k';have Jc:gb.length<=dr.c:=by
   cases AS:dr.a with
   |none=>have:=(nu.nil AS).1;omega| some yk=>have:=(nu.cap yk AS).2.1;omega
  refine a3.mk ((gb.length:Nat):Int) ii ?_;refine bi.mk ad gb.length bt rfl (show gb.length<dr.n by omega) ?_;refine aJ.mk _ bj ?_;refine cN.draw aT rfl rfl rfl ?_;refine aJ.mk [os.val] (dj (cs:=[os.val]) (k:=0) (n:=1) (T:=172) H1 am) ?_;refine er.oR (cu.aq ⟨A.b,os,ds⟩) (dr.aq 3++(lo.aq 3++[])) _ ?_ (arz (A:=⟨A.b,os,ds⟩) bl ce ad2 Z) ?_ ?_;·have:=eM (l₁:=(dr.aq 3++lo.aq 3)) (l₂:=cu.aq ⟨A.b,os,ds⟩);simpa using this
  ·rintro v I' M'⟨-,rfl,-⟩x ae;exact ae
  rintro v iL M1 -⟨h1,rfl,a,n,c,rfl,dM⟩;simp only at dM;rw[SG]at dM;have z0:S.bs<ds.length:=by omega
  have xV:=bl.mono h1;obtain⟨Ad,ym,y3⟩:=aO.ok.row (I:=iL) (M:=cu.aq ⟨A.b,os,ds⟩++(dr.aq 3++(lo.aq 3++[]))) ak.cq bv xV.os (e:=88) (λx ae=>ayZ) (j:=S.bs) z0;refine bi.mk Ad S.bs ym rfl (by have:=xV.n;simp only at this |-;omega) ?_;refine aO.CR ak.cells 9 ak.cq (e:=88) xV.os z0 8 (vs:=[.slice a n c]) (bJ rfl) rfl (ds[S.bs].row a n c (e7 (S.parts A.ds))) (ak.arJ _ _ _ _ _) [⟨A.b,.cells #[os.val] 172 (0,0)⟩] (dr.aq 3++(lo.aq 3++[])) rfl ym ?_;intro hD jg mm kQ TT;obtain⟨A2,No⟩:∃ A2,ds.set S.bs (ds[S.bs].row a n c (e7 (S.parts A.ds)))=A2:=⟨_,rfl⟩;rw[No]at TT;have rU:A2.length=ds.length:=by rw[<-No,rL]
  have TU:∀ w,nodeAt A2 w=if w=S.bs then(nodeAt A.ds S.bs).row a n c (e7 (S.parts A.ds))else nodeAt ds w:=λw=>by rw[<-No,arN z0,<-fw z0,s4 _ (TS _ S.FR)]
  have iD:=S.arM A.ds;have axG:hF (S.parts A.ds)<=hF S.sub:=by have:=iD.length_le;rw[yg,yg]at this;exact this
  have rD:=A1 (S.parts A.ds);have pM:n=(S.parts A.ds).length:=by have:=dM.len;simp only[e7,bA]at this;omega
  have Ku:(ds[S.bs].row a n c (e7 (S.parts A.ds))).ok iL:=by
   have aa:=(xV.ds _ (bD z0)).row dM λx ae=>by obtain⟨c',zs,rfl⟩:=c6.1 ae;have:=(aP.adx A.ds cQ c' zs).nz;unfold hy;omega
   exact aa
  have dW:hD.n=A2.length:=by rw[kQ,rU];exact xV.n
  have h9:cu.ok iL ⟨A.b,hD,A2⟩:=⟨TT,dW,λx ae=>by
   rw[<-No]at ae;rcases sD ae with ae | rfl;·exact xV.ds x ae
   ·exact Ku⟩
  obtain⟨arQ,ad5,Np⟩:=aO.ok.row (I:=iL) (M:=[⟨A.b,.cells #[os.val] 172 (0,0)⟩]++(hD.aq 88++(dr.aq 3++(lo.aq 3++[])))) ak.cq bv TT (e:=88) (λx ae=>f0) (j:=S.bs) Z;have sQ:A2[S.bs]' Z=ds[S.bs].row a n c (e7 (S.parts A.ds)):=by have aa:=TU S.bs;rw[bY rfl,fw Z,<-s4 _ (TS _ S.FR),fw z0]at aa;exact aa
  rw[sQ]at Np;have ad6:=dM.cap;refine cN.draw aT rfl rfl rfl ?_;refine a3.mk ((gb.length:Nat):Int) ii ?_;refine j7.mk 0 gb.length rfl rfl (dh _) Jc ?_;refine aJ.mk [os.val] (dj (cs:=[os.val]) (k:=0) (n:=1) (T:=172) am am) ?_;refine bi.mk arQ S.bs (by rw[mm]at ad5;exact ad5) rfl (by have:=xV.n;simp only at this |-;omega) ?_;refine aJ.mk _ (Np.part (k:=8) (m:=1) bv) ?_;refine bz.w0 aT rfl am (e:=3) rfl rfl rfl ⟨dr.a,gb.length,dr.c,dr.aR⟩ k' rfl (sa:=a) (m:=n) (c':=c) (cb:=(e7 (S.parts A.ds)).map (.int .i64 ·)) rfl (by rw[bA,pM];simp[e7]) (λax=>dM.vD _ ax) (Dd _) ([⟨A.b,.cells #[os.val] 172 (0,0)⟩]++hD.aq 88) (lo.aq 3++[]) rfl ce (by show(gb.length+n)*8<=_;omega) ?_;intro pd acO acP iu;rw[<-cJ,<-FW]at iu;refine bN.mk λb8 iR K4=>?_;refine bz.lh aT rfl am (e:=3) rfl rfl rfl lo ft rfl (cs:=[.int .i64 S.bs]) rfl rfl rfl ([⟨A.b,.cells #[os.val] 172 (0,0)⟩]++hD.aq 88++pd.aq 3) [] (congrArg (List.cons _) (ej _ _ _).symm) Z (by show(lo.n+1)*8<=_;omega) ?_;intro Nq axH axI arR;refine⟨(Nq,pd,hk++[S.bs],gb++S.parts A.ds,hD,A2,iL),⟨⟨λb o h=>h1 _ _ (a6 _ _ h),h9,?_,iu,λx ae=>?_,?_,rU.trans c0,mm.trans ad4,λw hw=>?_,λw hw=>?_,?_⟩,?_⟩,.perm ?_ .refl,dS,.cons rfl (.nil)⟩;·show Nq.ok 1 ((y4 (hk++[S.bs])).map (.int .i64 ·));unfold y4;rw[cJ,cJ];exact arR
  ·rcases cW.1 ae with ae | ae
   ·exact fa x f0
   ·exact aP.adx A.ds cQ x ae
  ·have aa:((hk++[S.bs])++(gb++S.parts A.ds).flatMap aP.c5).Perm (hk++(gb.flatMap aP.c5++((S.parts A.ds).flatMap aP.c5++[S.bs]))):=by rw[ej,fL];refine Lf hk ?_;have:=eM (l₁:=[S.bs]) (l₂:=gb.flatMap aP.c5++(S.parts A.ds).flatMap aP.c5);simpa using this
   refine aa.nodup_iff.2 (List.Nodup.sublist ?_ bW);rw[fL,o9];refine(M3 _).append ((M3 _).append ?_);have:S.c5=S.sub.flatMap aP.c5++[S.bs]:=by cases S;exact aP.mT _ _
   rw[this];exact iD.append (.refl _)
  ·rw[TU,bK (λe=>hw (by rw[e];simp)),s4 w (λh=>hw (iy _ h))]
  ·rw[TU];by_cases e:w=S.bs
   ·subst e;rw[bY rfl];exact⟨S,a,n,c,cQ,rfl,rfl⟩
   ·rw[bK e];rcases cW.1 hw with hw | hw
    ·exact Fw w hw
    ·exact absurd (ep.1 hw) e
  ·rw[<-nj,yh,yh,fL,fL,zU,o9,arO A.ds S,ej];rfl
  ·show hF (gb++S.parts A.ds)<hF (gb++[S]);rw[A0,A0,u4];omega
  ·show List.Perm _ (pd.aq 3++(Nq.aq 3++(⟨A.b,.cells #[hD.val] 172 (0,0)⟩::hD.aq 88)));rw[jg];have:=eM (l₁:=(⟨A.b,.cells #[os.val] 172 (0,0)⟩::hD.aq 88)) (l₂:=pd.aq 3++Nq.aq 3);simpa using this
 ·have ax:dr.n=0:=by have:¬ (0:Int)<(dr.n:Int):=db h;omega
  obtain rfl:a2=[]:=iB Z;have Fo:hk.reverse=(T.bw A.ds).c5:=by rw[List.reverse_nil,KT,dE]at nj;rw[nj,R4]
  obtain⟨rb,mS⟩:∃ rb,(T.bw A.ds).hq=rb:=⟨_,rfl⟩;have arS:y4 hk.reverse=rb:=by rw[Fo,<-mS];rfl
  have eR:∀ w,(nodeAt ds w).bare=(nodeAt A.ds w).bare:=λw=>by
   by_cases hw:w∈hk;·obtain⟨ll,a,n,c,-,-,e⟩:=Fw w hw;rw[e];rfl
   ·rw[s4 w hw]
  have ad7:(T.bw A.ds).c5.Nodup:=(bm.nodup af aj).sublist (aP.aqS _ T);have vJ:cI ds (T.bw A.ds):=aP.aqW A.ds bm λS cQ hm=>by rw[<-Fo]at hm;obtain⟨ll,a,n,c,Mk,e,bc⟩:=Fw S.bs (SX.1 hm);obtain rfl:=Mk.aqN cQ e;exact⟨by rw[c0];exact cQ.nz,by rw[bc];rfl⟩
  have arT:(T.bw A.ds).bare ds=(T.bare A.ds).bw:=by rw[aP.adC A.ds _ λx ae=>eR x,aP.aqY]
  have ad8:=adO vJ ad7;rw[mS,arT]at ad8;have pe:=sub_fold (t:=jM ds) (rb:=rb) (by
   rw[<-mS];exact Cp.2 (List.Pairwise.imp (fun {a b} bH e=>bH Z) ad7)) (by
   rw[<-mS];exact arK vJ) (λk af=>by
   rw[<-mS]at af;obtain⟨x,ae,rfl⟩:=c6.1 af;have:=vJ.lt x ae;exact⟨Z,by show(x:Int)<ds.length;omega⟩)
  have uE:lo.ok 1 ((y4 hk).map (.int .i64 ·)):=ft;have adY:os.n=ds.length:=bl.n;refine a9.mk (lo.aq 3++[]) (dr.aq 3++cu.aq ⟨A.b,os,ds⟩) _ ?_ (acN (M0:=[]) uE (by show lo.n<=_;omega)) ?_;·have:=(eM (l₁:=lo.aq 3) (l₂:=dr.aq 3)).append_right (cu.aq ⟨A.b,os,ds⟩);simpa using this.symm
  rintro v iL M1 -⟨h1,back,ad9,oo,rfl⟩;subst iL;have kf:(y4 hk).reverse=rb:=by rw[<-arS];unfold y4;rw[TF]
  rw[kf]at oo;have DV:=oo.nX;have sR:lo.n=back.n:=(xo ad9).1.symm;have dw:rb.length=lo.n:=by rw[<-kf,ve];unfold y4;rw[bA];omega
  refine aJ.mk [os.val] (dj (cs:=[os.val]) (k:=0) (n:=1) (T:=172) H1 am) ?_;refine n9.mk os.n os.n rfl rfl (cf _) (by show 8*os.n<=_;omega) Z ?_;refine bN.mk λb9 kI x'=>?_;refine n9.mk 0 lo.n rfl rfl (dh _) (by show 96*lo.n<=_;omega) Z ?_;refine bN.mk λb7 Cz Lr=>?_;have xh:(rowOf [Value.int .i64 0] (os.n*1))=(List.replicate ds.length (0:Int)).map (Value.int .i64):=by rw[xY,xT,gm,adY]
  have TV:∀ (P:List Int) (out dk:aO),∀ x∈A.aq.map (·.num),x∈(cV b9 P::(out.aq 88++(back.aq 3++cu.aq ⟨A.b,os,ds⟩))).map (·.num):=λP out dk x ae=>by
   have e:(cu.aq ⟨A.b,os,ds⟩).map (·.num)=A.aq.map (·.num):=by
    show A.b::(os.aq 88).map (·.num)=A.b::(A.os.aq 88).map (·.num);unfold aO.aq;rw[ad4];cases A.os.a<;>rfl
   rw[<-e]at ae;simp only[ch,cJ];exact n2 _ (sf _ (sf _ ae))
  refine c2.rc (ι:=Nat×List Int×aO×List ak×aI) (λx=>{ bn:=[(0,.val (ptr A.b)),(4,.ref 4 0),(8,.val (.slice (some ⟨b9,0,none⟩) os.n os.n)),(9,.val x.2.2.1.val),(66,.val lo.val),(67,.val (.int .i64 lo.n)),(68,.val (.int .i64 x.1))],cl:=[(4,[.slice none 0 0,.int .i64 0])],cm:=x.2.2.2.2,cK:=cV b9 x.2.1::(x.2.2.1.aq 88++(back.aq 3++cu.aq ⟨A.b,os,ds⟩)) }) (Qe J (jM ds) rb) (λx=>rb.length-x.1) ?_ ?_
  ·intro _;refine⟨(0,List.replicate ds.length 0,⟨some b7,0,lo.n,rowOf [.int .u8 0,.int .u64 0,.int .u64 0,.int .u64 0,.int .u64 0,.string ⟨#[]⟩,.int .i64 0,.int .i64 0,.slice none 0 0] (lo.n*9)⟩,[],J),⟨dh _,by rw[zx];rfl,⟨rfl,(λh=>ci),λet jF=>⟨by simp[td,madeCells],dh _,jp,am⟩⟩,rfl,rfl,(λd aj=>t7),λ_ _ h=>h,(λc ar=>by have:=Hd ar;omega),(λd aj=>t7)⟩,?_,pJ,.cons rfl (.nil)⟩;refine .perm (List.Perm.swap _ _ _) ?_;refine .perm (List.Perm.cons _ (List.Perm.cons _ (?_:List.Perm _ ((back.aq 3++cu.aq ⟨A.b,os,ds⟩)++dr.aq 3)))) ?_
   ·rw[dE,ej];exact Lf _ eM
   refine .sub (.cons₂ _ (.cons₂ _ (tK _ _))) (.mc ?_);rw[xh];rfl
  rintro⟨j,P,out,gh,cS⟩⟨ai,tJ,AT,gK,Nr,tN,c1,yl,iv⟩;simp only at ai tJ AT gK Nr tN c1 yl iv;have tJ:P.length=ds.length:=tJ;have arU:out.n=j:=by have:=AT.len;rw[gz _ 9 ak.cq,gK]at this;omega
  subst arU;refine aS.mk (λh=>?_) (λh=>?_)
  ·have vg:out.n<rb.length:=by have:(out.n:Int)<(lo.n:Int):=cv h;omega
   have hm:∀ y∈rb,0<=y/\y<ds.length:=λy aF=>by rw[<-mS]at aF;obtain⟨x,ae,rfl⟩:=c6.1 aF;have:=vJ.lt x ae;omega
   have hm:=hm _ (bD vg);obtain⟨m,sN⟩:=dZ hm.1;rw[sN]at hm;have gn:m<ds.length:=by omega
   obtain⟨ad,bt,Ct⟩:=aO.yf (I:=cS) (e:=3) (M:=cV b9 P::(out.aq 88++(back.aq 3++cu.aq ⟨A.b,os,ds⟩))) oo (λx ae=>f0) vg;rw[sN]at Ct;have Ns:=bl.mono c1;have fW:ds[m].ok cS:=Ns.ds _ (bD gn);have jL:nodeAt ds m=ds[m]:=fw gn;have gy:=nO P m Z (out.n:Int);generalize p0:P.set m (out.n:Int)=dc at gy;have EB:dc.length=ds.length:=by rw[<-p0];simpa using tJ
   obtain⟨k8,k9,hv⟩:=aO.ok.row (I:=cS) (M:=cV b9 dc::(out.aq 88++(back.aq 3++cu.aq ⟨A.b,os,ds⟩))) ak.cq bv Ns.os (e:=88) (λx ae=>ayZ) (j:=m) gn;have hv:cG cS (cV b9 dc::(out.aq 88++(back.aq 3++cu.aq ⟨A.b,os,ds⟩))) (k8.add (m*9)) 9 ds[m].cells:=hv;generalize eZ:ds[m]=d at fW hv jL;have eF:=fW.aA;have mL:=fW.a'.cap;have wT:∀ c∈dc,0<=c/\c<=rb.length:=λc ar=>by
    rw[<-p0]at ar;rcases sD ar with ar | rfl;·exact yl c ar
    ·omega
   refine bi.mk ad out.n (by have:=(arF ad9);rw[this]at bt;exact bt) rfl (show _<lo.n by omega) ?_;refine aJ.mk _ Ct ?_;refine bi.mk ⟨b9,0,none⟩ m rfl rfl Z ?_;refine b'.iC [] (out.aq 88++(back.aq 3++cu.aq ⟨A.b,os,ds⟩)) (P.map (Value.int .i64)) 3 rfl (by rw[nY,bA];show 0+m*1+1<=_;omega) rfl (dc.map (Value.int .i64)) (by rw[dg,gm];exact gy) ?_;refine aJ.mk [os.val] (dj (cs:=[os.val]) (k:=0) (n:=1) (T:=172) H1 am) ?_;refine bi.mk k8 m k9 rfl Z ?_;refine aJ.mk _ hv ?_;have uO:(out.n+1)*96<=140737488355328:=by omega
   have gp:∀ q∈d.ao,0<=q/\q<dc.length:=λq aM=>by
    have aa:q∈(nodeAt ds m).ao:=by rw[jL];exact aM
    have A3:(m:Int)∈rb:=by rw[<-sN];exact bD vg
    rw[<-mS]at A3;obtain⟨x,ae,e⟩:=c6.1 A3;obtain rfl:x=m:=Int.ofNat.inj e;have:=arL vJ x ae q aa;omega
   refine c2.inv (ι:=Nat×aO×List Int) (λy=>{ bn:=[(0,.val (ptr A.b)),(4,.ref 4 0),(8,.val (.slice (some ⟨b9,0,none⟩) os.n os.n)),(9,.val out.val),(10,.val (.int .i64 out.n)),(12,.ref 12 0),(13,.val y.2.1.val),(66,.val lo.val),(67,.val (.int .i64 lo.n)),(68,.val (.int .i64 out.n)),(85,.val (.slice d.bX d.aA d.b5)),(86,.val (.int .i64 d.aA)),(87,.val (.int .i64 y.1))],cl:=[(4,[.slice none 0 0,.int .i64 0]),(12,d.cells)],cm:=cS,cK:=y.2.1.aq 3++(cV b9 dc::(out.aq 88++(back.aq 3++cu.aq ⟨A.b,os,ds⟩))) }) (λy=>ad3 d dc y) (λy=>d.aA-y.1) ?_ ?_;·exact⟨(0,gV,[]),⟨dh _,jt 1,am⟩,.refl,VC,.cons rfl (.cons rfl (.nil))⟩
   rintro⟨k,dk,ff⟩⟨hQ,hN,cL⟩;simp only at hQ hN cL;have Yk:=hN.nX;have EE:ff.length=k:=by rw[cL,bA,fF];omega
   refine aS.mk (λab=>?_) (λab=>?_)
   ·have Nt:k<d.aA:=by have:(k:Int)<(d.aA:Int):=cv ab;omega
    have h7:k<d.ao.length:=by omega
    have an:=gp _ (bD h7);have rM:d.ao[k].toNat<dc.length:=by omega
    have yn:dc.getD d.ao[k].toNat 0=dc[d.ao[k].toNat]:=by simp[bP,rM]
    have Dj:cZ cS d.bX d.aA d.b5 1 8 (d.ao.flatMap iK):=by rw[oA];exact fW.a'
    obtain⟨fq,eN,eL⟩:=Dj.row (f:=iK) (λ_=>rfl) (j:=k) Z h7;refine bi.mk fq k eN rfl (show k<d.aA by omega) ?_;refine aJ.mk _ (eL _) ?_;refine bi.mk ⟨b9,0,none⟩ d.ao[k].toNat rfl Z Z ?_;refine aJ.mk _ (zM am rM) ?_;refine bN.mk λs5 Dk arV=>?_;refine bz.lh aT rfl am (e:=3) rfl rfl rfl dk hN rfl (cs:=[.int .i64 dc[d.ao[k].toNat]]) rfl rfl rfl [] (cV b9 dc::(out.aq 88++(back.aq 3++cu.aq ⟨A.b,os,ds⟩))) rfl Z ayL ?_;intro pg aea arW TW;refine a3.mk _ (cC (i:=k) Z) ?_;refine⟨(k+1,pg,ff++[dc[d.ao[k].toNat]]),⟨⟨Nt,?_,?_⟩,ce⟩,.refl,VC,.cons rfl (.cons rfl (.nil))⟩;·rw[cJ];exact TW
    ·rw[cL,gi h7,cJ,s3,yn]
   have cM:k=d.aA:=by have:¬ (k:Int)<(d.aA:Int):=db ab;omega
   subst cM;rw[fE Z]at cL;refine bN.mk λAe Qk Ql=>?_;have bW:∃ bO:ak,bO=⟨d.k,d.b0,d.s1,d.s2,d.cg,d.t,d.lo,d.hi,dk.a.map λg=>⟨g,0,none⟩,dk.n,dk.c,ff⟩:=⟨_,rfl⟩;obtain⟨bO,bW⟩:=bW;have Cv:bO.cells=[.int .u8 d.k,.int .u64 d.b0,.int .u64 d.s1,.int .u64 d.s2,.int .u64 d.cg,.string d.t,.int .i64 d.lo,.int .i64 d.hi,.slice (dk.a.map λg=>⟨g,0,none⟩) dk.n dk.c]:=by rw[bW];rfl
   refine bz.lh aT rfl am (e:=88) rfl rfl rfl out AT rfl (cs:=[.int .u8 d.k,.int .u64 d.b0,.int .u64 d.s1,.int .u64 d.s2,.int .u64 d.cg,.string d.t,.int .i64 d.lo,.int .i64 d.hi,.slice (dk.a.map λg=>⟨g,0,none⟩) dk.n dk.c]) rfl rfl rfl (dk.aq 3++[cV b9 dc]) (back.aq 3++cu.aq ⟨A.b,os,ds⟩) (congrArg (List.cons _) (ej _ [_] _).symm) Z ww ?_;intro nx To acT arX;refine a3.mk _ (cC (i:=out.n) Z) ?_;have vh:∀ c∈ff,0<=c/\c<=rb.length:=λc ar=>by
    rw[cL]at ar;obtain⟨q,aM,rfl⟩:=c6.1 ar;have rJ:=gp q aM;have Cw:q.toNat<dc.length:=by omega
    exact wT (dc.getD q.toNat 0) wn
   intro ew;have mo:((dk.aq 3++[cV b9 dc])++(nx.aq 88++(back.aq 3++cu.aq ⟨A.b,os,ds⟩))).Perm (dk.aq 3++(cV b9 dc::(nx.aq 88++(back.aq 3++cu.aq ⟨A.b,os,ds⟩)))):=by rw[ej];exact List.Perm.refl _
   have az:=mA.FY (J:=cS) (os:=dk) (e:=3) ew mo (TV dc nx dk);obtain⟨kM,hw,bo,dM,-⟩:=aO.z7 (b:=8) (e:=3) hN Z az (cV b9 dc::(nx.aq 88++(back.aq 3++cu.aq ⟨A.b,os,ds⟩)));refine⟨(out.n+1,dc,nx,gh++[bO],kM),⟨⟨ce,EB,?_,by simp[gK],?_,?_,λb o h=>bo _ _ (c1 _ _ h),wT,?_⟩,ce⟩,.perm mo (hw _ _ .refl),pJ,.cons rfl (.nil)⟩
   ·simp only;rw[fL];have:([bO].flatMap ak.cells)=bO.cells:=by simp
    rw[this,Cv];exact arX
   ·simp only;rw[gi vg,sL,Nr,kw,Ez,sN];show(P.set m ((gh.map ak.aW).length:Int),gh.map ak.aW++[(nodeAt ds m).dJ ((nodeAt ds m).ao.map λk=>(P.set m ((gh.map ak.aW).length:Int)).getD k.toNat 0)])=_;rw[bA,gK,p0,jL,<-cL,cJ,bW];rfl
   ·simp only;intro x ae;rcases cW.1 ae with ae | ae
    ·exact(tN x ae).mono bo
    ·simp only[ep]at ae;rw[ae,bW];refine⟨fW.k,fW.b0,fW.s1,fW.s2,fW.cg,fW.t,fW.lo,fW.hi,dM,λc ar=>?_⟩;have:=vh c ar;exact⟨Z,Z⟩
   ·simp only;intro x ae;rcases cW.1 ae with ae | ae
    ·exact iv x ae
    ·simp only[ep]at ae;rw[ae,bW];exact vh
  ·have cM:out.n=rb.length:=by have:¬ (out.n:Int)<(lo.n:Int):=db h;omega
   refine a3.mk ((gh.length:Int)-1) t8 ?_;intro ew;have mo:(cV b9 P::(out.aq 88++(back.aq 3++cu.aq ⟨A.b,os,ds⟩))).Perm (out.aq 88++(cV b9 P::(gV.aq 88++(back.aq 3++cu.aq ⟨A.b,os,ds⟩)))):=lL.symm;have az:=mA.FY (J:=cS) (os:=out) (e:=88) ew mo (TV P gV gV);obtain⟨kM,hw,bo,dM,-⟩:=aO.z7 (b:=96) (e:=88) AT Z az (cV b9 P::(gV.aq 88++(back.aq 3++cu.aq ⟨A.b,os,ds⟩)));rw[fE Z]at Nr;obtain⟨Ff,mJ,-,-⟩:=pe rb.length (cf _);rw[DZ]at mJ;have dI:gh.map ak.aW=(T.bare A.ds).bw.post:=by rw[<-ad8];exact congrArg Prod.snd (Nr.symm.trans mJ)
   exact⟨kM,[],.perm mo (hw _ _ (.sub (eY _) .refl)),λb o h=>bo _ _ (c1 _ _ (a6 _ _ h)),rfl,⟨gh,out.a.map λg=>⟨g,0,none⟩,out.n,out.c,(gh.length:Int)-1⟩,rfl,⟨dM,λd aj=>(tN d aj).mono bo,⟨ce,ce⟩⟩,⟨dI,rfl⟩⟩
structure r7(ds:List ak)(Jt:List Nat):Prop where
 fits:∀ d∈ds,fits d d.ao.length=true
 ao:∀ j (h:j<ds.length),∀ k∈ds[j].ao,0<=k/\k<j
 diff:hP (eI ds)
 gY:∀ k∈Jt,k<ds.length/\(k:Int) ∉ eI ds
 pd:Jt.Nodup
def Nu(a b:List ak):eI (a++b)=eI a++eI b:=by unfold eI;rw[fL]
def r7.add{ds:List ak}(h:r7 ds (l++bq)){x:ak}(ae:Go.V.fits x x.ao.length=true)(af:x.ao.Sublist (l.map Int.ofNat)):r7 (ds++[x]) (ds.length::bq):=by
 have fx:∀ k∈x.ao,∃ q∈l,k=(q:Int):=λk aM=>by obtain⟨q,aa,ab⟩:=c6.1 (af.subset aM);exact⟨q,aa,ab.symm⟩
 have eN:eI (ds++[x])=eI ds++x.ao:=by rw[Nu];simp[eI]
 have bW:=uw.1 h.pd;refine⟨λd aj=>?_,λj ai k aM=>?_,?_,λk aM=>?_,?_⟩
 ·rcases cW.1 aj with aj | aj
  ·exact h.fits d aj
  ·rw[ep.1 aj];exact ae
 ·by_cases e:j<ds.length
  ·rw[wE e]at aM;exact h.ao j e k aM
  ·rw[ct,pi]at ai;have arY:j=ds.length:=by omega
   subst arY;rw[Cl (cf _)]at aM;simp only[mK,List.getElem_singleton]at aM;obtain⟨q,aa,rfl⟩:=fx k aM;have:=(h.gY q (iy _ aa)).1;omega
 ·rw[eN];refine rK.2 ⟨h.diff,?_,λa a8 b ah=>?_⟩
  ·refine List.Pairwise.sublist af ?_;refine Cp.2 (bW.1.imp λbH e=>bH ?_);exact Int.ofNat.inj e
  ·rintro rfl;obtain⟨q,aa,rfl⟩:=fx _ ah;exact(h.gY q (iy _ aa)).2 a8
 ·rw[eN];rw[ct,pi];rcases ez.1 aM with rfl | aM
  ·refine⟨Z,λhm=>?_⟩;rcases cW.1 hm with hm | hm
   ·have:=MZ h.ao _ hm;omega
   ·obtain⟨q,aa,e⟩:=fx _ hm;have:=(h.gY q (iy _ aa)).1;omega
  ·obtain⟨aa,ab⟩:=h.gY k (sf _ aM);refine⟨Z,λhm=>?_⟩;rcases cW.1 hm with hm | hm
   ·exact ab hm
   ·obtain⟨q,al,e⟩:=fx _ hm;have:k=q:=by omega
    subst this;exact bW.2.2 k al k aM rfl
 ·refine mw.2 ⟨λhm=>?_,bW.2.1⟩;have:=(h.gY _ (sf _ hm)).1;omega
def r7.pick{ds:List ak}(h:r7 ds (l++bq)){r:Nat}(ag:r∈l):r7 ds (r::bq):=by
 have bW:=uw.1 h.pd;refine⟨h.fits,h.ao,h.diff,λk af=>?_,mw.2 ⟨λhm=>bW.2.2 r ag r hm rfl,bW.2.1⟩⟩;rcases ez.1 af with rfl | af
 ·exact h.gY _ (iy _ ag)
 ·exact h.gY _ (sf _ af)
def Ju(d:ak)(ds:List ak):∀ l:List Nat,(jR d ds l).Sublist (l.map Int.ofNat)
 |[]=>.slnil
 |k::l=>by
  show List.Sublist ((bif pB d (ds.getD k oB)then [(k:Int)]else [])++jR d ds l) (Int.ofNat k::l.map Int.ofNat);cases pB d (ds.getD k oB)with
  |true=>exact(Ju d ds l).cons₂ _| false=>exact(Ju d ds l).cons _
def TX{d:ak}(h:d.k=4\/d.k=5){n m:Int}(aE:2<=n)(hm:2<=m)(aC:Go.V.fits d n=true):Go.V.fits d m=true:=by
 unfold Go.V.fits at aC |-;rcases h with e | e<;>rw[e]at aC |-<;>simp[oe,nc]at aC |-<;>exact⟨⟨hm,.inl bv⟩,aC.2⟩
def r7.join{ds:List ak}(h:r7 ds (l++bq)){d:ak}(aj:Go.V.fits d l.length=true)(ai:xu d l ds ds' r):0<=r/\r7 ds' (r.toNat::bq):=by
 unfold xu at ai;split at ai
 ·rename_i gM;rcases ai with⟨aa,rfl,ab⟩ | ⟨aa,ab⟩ | ⟨aa,rfl,bT,i',c',ab⟩
  ·refine⟨Z,?_⟩;rw[ab,h2];refine h.add ?_ (eY _);rcases gM with e | e
   ·rw[show d.k-4=0 by omega];rfl
   ·rw[show d.k-4=1 by omega];rfl
  ·have ag:r∈l.map Int.ofNat:=(Ju d ds l).subset (by rw[aa];exact .head _);obtain⟨q,aM,rfl⟩:=c6.1 ag;rw[ab];exact⟨ER _,h.pick aM⟩
  ·refine⟨Z,?_⟩;rw[ab,h2];refine h.add ?_ (Ju d ds l);show Go.V.fits d ((jR d ds l).length:Nat)=true;have hn:(2:Int)<=((jR d ds l).length:Nat):=by omega
   have tF:(2:Int)<=(l.length:Nat):=by have:=(Ju d ds l).length_le;rw[bA]at this;omega
   exact TX gM tF hn aj
 ·obtain⟨rfl,bT,i',c',ab⟩:=ai;refine⟨Z,?_⟩;rw[ab,h2];refine h.add ?_ (M3 _);show Go.V.fits d ((l.map Int.ofNat).length:Nat)=true;rw[bA];exact aj
def ku(d:ak)(x:aU):Bool:=!decide (d.k=4) || !decide (x.d.k=0)
def Jv(d:ak)(xs:List aU):aU:=
 if d.k=4\/d.k=5 then match xs.filter (ku d)with
  |[]=>.mk (nothing (d.k-4)).bare []| [y]=>y| ys=>.mk d ys
 else .mk d xs
def n6(d:ak)(xs:List aU):aU:=Jv d.bare xs
def aU.lU(T:aU):aU:=(T.fold n6).bw
def aeb(ns:List ak)(T:aP):(T.bare ns).d=(nodeAt ns T.bs).bare:=by
 cases T with
 |mk k ks=>
 rw[aP.nA];rfl
def arZ{ns:List ak}{k:Nat}(h:k<ns.length):ns.getD k oB=nodeAt ns k:=by rw[fw h];simp[bP,h]
def aec{d:ak}{ds:List ak}:∀ {ks:List aP},(∀ c∈ks,cI ds c)->jR d ds (ks.map aP.bs)=e7 (ks.filter λc=>ku d (c.bare ds))/\(ks.filter λc=>ku d (c.bare ds)).map (aP.bare ds)=(ks.map (aP.bare ds)).filter (ku d)
 |[],_=>⟨rfl,rfl⟩
 |c::ks,h=>by
  obtain⟨aa,ab⟩:=aec (d:=d) (ks:=ks) λx ae=>h x (.tail _ ae);have ar:=(h c (.head _)).nz;have e:pB d (ds.getD c.bs oB)=ku d (c.bare ds):=by unfold pB ku;rw[aeb,ak.ady,arZ ar]
  have ai:jR d ds ((c::ks).map aP.bs)=(bif pB d (ds.getD c.bs oB)then [(c.bs:Int)]else [])++jR d ds (ks.map aP.bs):=rfl;rw[ai,aa,e,CY,ch,CY];cases ku d (c.bare ds)with
  |true=>exact⟨rfl,ah'⟩| false=>exact⟨rfl,In⟩
def Jw(d:ak)(xs:List aU):n6 d xs=if d.k=4\/d.k=5 then(match xs.filter (ku d)with
  |[]=>.mk (nothing (d.k-4)).bare []| [y]=>y| ys=>.mk d.bare ys)else .mk d.bare xs:=rfl
def xu.lt{d:ak}{ds:List ak}{ks:List aP}(eH:∀ c∈ks,cI ds c)(h:xu d (ks.map aP.bs) ds ds' r) :
  (∃ m,ds'=ds++m)/\∃ T:aP,(T.bs:Int)=r/\cI ds' T/\T.bare ds'=n6 d (ks.map (aP.bare ds)):=by
 obtain⟨ai,aC⟩:=aec (d:=d) eH;have new:∀ (x:ak) (l:List aP),(∀ c∈l,cI ds c)->x.ao=e7 l->cI (ds++[x]) (.mk ds.length l)/\(aP.mk ds.length l).bare (ds++[x])=.mk x.bare (l.map (aP.bare ds)):=λx l ay ae=>by refine⟨.mk am (by rw[FT,ae];rfl) λc ar=>(ay c ar).app _,?_⟩;rw[aP.nA,FT];congr 1;exact fX λc ar=>aP.Di ds (ay c ar) _
 unfold xu at h;rw[Jw,<-aC];split at h
 ·rename_i gM;rw[bY gM];rw[ai]at h;have ma:∀ c∈ks.filter (λc=>ku d (c.bare ds)),cI ds c:=λc ar=>eH c (n8.1 ar).1;generalize ks.filter (λc=>ku d (c.bare ds))=bn at h ma;rcases h with⟨aa,rfl,rfl⟩ | ⟨aa,rfl⟩ | ⟨aa,rfl,bT,i',c',rfl⟩
  ·obtain rfl:bn=[]:=List.map_eq_nil_iff.1 aa;obtain⟨ee,eO⟩:=new (nothing (d.k-4)) [] (λc ar=>by cases ar) rfl;exact⟨⟨_,rfl⟩,_,rfl,ee,eO⟩
  ·match bn,aa with
   |[c],aa=>refine⟨⟨[],am⟩,c,?_,ma c (.head _),rfl⟩;simpa[e7]using aa
  ·obtain⟨ee,eO⟩:=new (d.row bT i' c' (e7 bn)) bn ma rfl;refine⟨⟨_,rfl⟩,_,rfl,ee,eO.trans ?_⟩
   match bn,aa with
   |fg::e1::l,aa=>rfl
 ·rename_i gM;rw[bK gM];obtain⟨rfl,bT,i',c',rfl⟩:=h;obtain⟨ee,eO⟩:=new (d.row bT i' c' ((ks.map aP.bs).map Int.ofNat)) ks eH (by rw[gE];rfl);exact⟨⟨_,rfl⟩,_,rfl,ee,eO⟩
def r7.perm{ds:List ak}{a b:List Nat}(h:r7 ds a)(aK:a.Perm b):r7 ds b:=⟨h.fits,h.ao,h.diff,λk af=>h.gY k (aK.mem_iff.2 af),aK.nodup_iff.1 h.pd⟩
def vK(ns:List ak)(i:Nat):List Nat:=(List.range i).filter λj=>!decide ((j:Int)∈eI (ns.take i))
def ig(P:List Int)(j:Nat):Nat:=(P.getD j 0).toNat
structure Dl(t:bf)(i:Nat)(ds:List ak)(P:List Int):Prop where
 hi:i<=t.ns.length
 nh:P.length=t.ns.length
 len:ds.length<=i
 jO:∀ j,j<i->∃ T:aP,(T.bs:Int)=P.getD j 0/\cI ds T/\T.bare ds=(fs t.ns j).fold n6
 wd:r7 ds ((vK t.ns i).map (ig P))
def ar0(h:hg t){j:Nat}(ai:j<t.ns.length):fs t.ns j=.mk t.ns[j].bare (t.ns[j].ao.map (fs t.ns)):=by
 obtain⟨T,bm,dz,he,-⟩:=h.lt ai;cases T with
 |mk k ks=>
 obtain rfl:k=j:=bm;obtain⟨aa,ab,al⟩:=dz.inv;rw[he,aP.nA,fw aa];rw[fw aa]at ab;rw[ab,gE];congr 1;exact fX λc ar=>(Nd h.xt (al c ar)).symm
def aed{ns:List ak}(hi:i<ns.length):eI (ns.take (i+1))=eI (ns.take i)++ns[i].ao:=by rw[gi hi,Nu];simp[eI]
def Jx{ns:List ak}{j:Nat}:j∈vK ns i ↔ j<i/\(j:Int) ∉ eI (ns.take i):=by unfold vK;rw[n8,kx];simp
def Dl.step(ag:hg t){ds:List ak}{P:List Int}(h:Dl t i ds P)(hi:i<t.ns.length)(ai:xu t.ns[i] (t.ns[i].ao.map λk=>ig P k.toNat) ds ds' r) :
  Dl t (i+1) ds' (P.set i r):=by
 have ot:=ag.ao i hi;obtain⟨ks,ki,e4⟩:=Jo (R:=λ(x:Int) (T:aP)=>T.bs=ig P x.toNat/\cI ds T/\T.bare ds=(fs t.ns x).fold n6) (l:=t.ns[i].ao) λx ae=>by have:=ot x ae;obtain⟨T,aa,ab,al⟩:=h.jO x.toNat Z;refine⟨T,by unfold ig;omega,ab,?_⟩;rw[show((x.toNat:Nat):Int)=x by omega]at al;exact al
 have eH:∀ c∈ks,cI ds c:=λc ar=>by obtain⟨q,aM,rfl⟩:=hL ar;exact(e4 q Z aM).2.1
 have y2:(t.ns[i].ao.map λk=>ig P k.toNat)=ks.map aP.bs:=by refine oV ayQ λq aM rJ=>?_;rw[gl,gl];exact(e4 q (by simpa using aM) (by simpa using rJ)).1.symm
 have x2:ks.map (aP.bare ds)=t.ns[i].ao.map λx=>(fs t.ns x).fold n6:=by refine oV ayQ λq aM rJ=>?_;rw[gl,gl];exact(e4 q (by simpa using rJ) (by simpa using aM)).2.2
 have jT:=ai;rw[y2]at jT;obtain⟨⟨m,rfl⟩,T,lI,hY,qg⟩:=jT.lt eH;have hold:∀ j,j≠i->(P.set i r).getD j 0=P.getD j 0:=λj bH=>by rw[bP,bP,iq,bK (λe=>bH e.symm)]
 have e3:(P.set i r).getD i 0=r:=by rw[bP,iq,bY rfl,bY (by have:=h.nh;omega)];rfl
 have eF:∀ x∈t.ns[i].ao,0<=x/\x<i:=ot;have gB:hP (eI (t.ns.take (i+1))):=by
  have e:eI t.ns=eI (t.ns.take (i+1))++eI (t.ns.drop (i+1)):=by rw[<-Nu,pO]
  have:=ag.diff;rw[e]at this;exact(rK.1 this).1
 rw[aed hi]at gB;obtain⟨d1,d2,d3⟩:=rK.1 gB;have Dm:(t.ns[i].ao.map Int.toNat).Nodup:=by refine Cp.2 (d2.imp_of_mem ?_);intro a b a8 ah bH e;have:=eF a a8;have:=eF b ah;exact bH Z
 obtain⟨bq,rn⟩:∃ bq,(vK t.ns i).filter (λj=>!decide (j∈t.ns[i].ao.map Int.toNat))=bq:=⟨_,rfl⟩;have z1:(vK t.ns i).Nodup:=Fl.sublist zz;have ar1:(vK t.ns (i+1)).Nodup:=Fl.sublist zz;have A3:∀ j,j∈bq ↔ j∈vK t.ns i/\j ∉ t.ns[i].ao.map Int.toNat:=λj=>by rw[<-rn,n8];simp
 have ar2:(vK t.ns i).Perm (t.ns[i].ao.map Int.toNat++bq):=by
  refine(TD z1 (uw.2 ⟨Dm,by rw[<-rn];exact z1.sublist zz,λa a8 b ah e=>?_⟩)).2 λj=>?_;·subst e;exact((A3 a).1 ah).2 a8
  ·rw[cW,A3];constructor
   ·intro ai;by_cases e:j∈t.ns[i].ao.map Int.toNat
    ·exact .inl e
    ·exact .inr ⟨ai,e⟩
   ·rintro(ai | ai)
    ·obtain⟨x,ae,rfl⟩:=c6.1 ai;have:=eF x ae;refine Jx.2 ⟨Z,λhm=>?_⟩;rw[show((x.toNat:Nat):Int)=x by omega]at hm;exact d3 x hm x ae rfl
    ·exact ai.1
 have R3:(vK t.ns (i+1)).Perm (i::bq):=by
  refine(TD ar1 (mw.2 ⟨λhm=>?_,by rw[<-rn];exact z1.sublist zz⟩)).2 λj=>?_;·have:=(Jx.1 ((A3 i).1 hm).1).1;omega
  ·rw[ez,A3,Jx,Jx,aed hi,cW];constructor
   ·rintro⟨aa,ab⟩;by_cases e:j=i
    ·exact .inl e
    ·refine .inr ⟨⟨Z,λal=>ab (.inl al)⟩,λal=>ab (.inr ?_)⟩;obtain⟨x,ae,rfl⟩:=c6.1 al;have:=eF x ae;rw[show((x.toNat:Nat):Int)=x by omega];exact ae
   ·rintro(rfl | ⟨⟨aa,ab⟩,al⟩)
    ·refine⟨Z,λaL=>?_⟩;rcases aL with aL | aL
     ·obtain⟨d,aj,ae⟩:=hB.1 aL;obtain⟨q,aM,rfl⟩:=hL aj;rw[fF]at aM;rw[Qa]at ae;have:=ag.ao q Z _ ae;omega
     ·have:=eF _ aL;omega
    ·refine⟨Z,λaL=>?_⟩;rcases aL with aL | aL
     ·exact ab aL
     ·exact al (c6.2 ⟨(j:Int),aL,Z⟩)
 have hw:=h.wd.perm ((ar2.map (ig P)).trans (by rw[cJ,gE]));have ir:Go.V.fits t.ns[i] ((t.ns[i].ao.map λk=>ig P k.toNat).length:Nat)=true:=by rw[bA];exact ag.fits i hi
 obtain⟨og,Nv⟩:=hw.join ir ai;refine⟨hi,by rw[rL];exact h.nh,?_,λj ai=>?_,?_⟩
 ·have:m.length<=1:=by
   unfold xu at ai;split at ai
   ·rcases ai with⟨-,-,e⟩ | ⟨-,e⟩ | ⟨-,-,bT,i',c',e⟩
    ·rw[TE e];simp
    ·have:m=[]:=by simpa using e
     rw[this];simp
    ·rw[TE e];simp
   ·obtain⟨-,bT,i',c',e⟩:=ai;rw[TE e];simp
  have:=h.len;rw[ct];omega
 ·by_cases e:j=i
  ·subst e;refine⟨T,by rw[e3];exact lI,hY,?_⟩;rw[qg,x2,ar0 ag hi,aU.fold_eq,gE];rfl
  ·obtain⟨S,aa,ab,al⟩:=h.jO j Z;exact⟨S,by rw[hold j e];exact aa,ab.app m,by rw[aP.Di ds ab];exact al⟩
 ·refine Nv.perm ?_;have aN:(i::bq).map (ig (P.set i r))=r.toNat::bq.map (ig P):=by
   rw[ch];congr 1;·unfold ig;rw[e3]
   ·refine fX λj ai=>?_;have:=(Jx.1 ((A3 j).1 ai).1).1;unfold ig;rw[hold j Z]
  rw[<-aN];exact(R3.map _).symm
def Dl.start(t:bf):Dl t 0 [] (List.replicate t.ns.length 0):=⟨dh _,zx,cf _,λj ai=>absurd ai (mO _),⟨(λd aj=>t7),λj h=>absurd h (mO _),List.Pairwise.nil,(λk af=>by simp[vK]at af),by simp[vK]⟩⟩
def cZ.ar3(I:aI):cZ I (gV.a.map λg=>⟨g,0,none⟩) gV.n gV.c 1 8 (([]:List Int).map (.int .i64 ·)):=⟨rfl,⟨cf _,dh _⟩,.inl rfl⟩
def ar4(ag:hg t)(hi:i<t.ns.length):t.ns[i].ao.length<=i:=by
 have af:=ag.ao i hi;have aj:hP t.ns[i].ao:=by rw[<-fw hi];exact ado ag.diff hi
 have aa:(t.ns[i].ao.map Int.toNat).Nodup:=by refine Cp.2 (aj.imp_of_mem ?_);intro a b a8 ah bH e;have:=af a a8;have:=af b ah;exact bH Z
 have:=M6 (n:=i) aa λx ae=>by obtain⟨y,aF,rfl⟩:=c6.1 ae;have:=af y aF;omega
 rwa [bA]at this
def ar5(bm:fr I aB)(au:t.ok I)(ag:right t=true)(aE:t.n<=1099511627776) :
  Spec Tryz.prog 72 [t.val] I [] λv I' M'=>(∀ b o,I b=some o->I' b=some o)/\M'=[]/\∃ be:bf,v=.tuple #[be.val,.bool true]/\be.ok I'/\mq be (b4 t).lU:=by
 refine wg [4] aT Tryz.func72 rfl rfl rfl ?_;intro B ax;have aZ:=ix.1 ag;have gu:=au.n;have g8:=au.a'.cap;refine a9.mk [] [] _ (.refl _) (o0 bm.c au) ?_;rintro v J N -⟨rfl,a6,rfl⟩;subst J;rw[ag];refine aS.mk (λh=>ci) (λ_=>?_);refine bN.mk λp4 Fg yO=>?_;refine a9.mk [] _ _ (.refl _) ars ?_;rintro v J N -⟨rfl,a6,rfl⟩;subst J;refine n9.mk t.n t.n rfl rfl (cf _) WP Z ?_;refine bN.mk λb6 Em TY=>?_;have mg:(rowOf [Value.int .i64 0] (t.n*1))=(List.replicate t.ns.length (0:Int)).map (Value.int .i64):=by rw[xY,xT,gm,gu]
 have TV:∀ x∈(([]:List aD).map (·.num)),False:=λx ae=>by cases ae
 refine c2.rc (ι:=Nat×List Int×aO×List ak×aI) (λx=>{ bn:=[(1,.ref 1 0),(2,.ref 2 0),(4,.val (ptr p4)),(5,.ref 5 0),(6,.val (.slice (some ⟨b6,0,none⟩) t.n t.n)),(22,.val (.slice t.a t.n t.c)),(23,.val (.int .i64 t.n)),(24,.val (.int .i64 x.1))],cl:=[(1,t.cells),(2,[.slice none 0 0,.int .i64 0]),(5,TM)],cm:=x.2.2.2.2,cK:=cV b6 x.2.1::cu.aq ⟨p4,x.2.2.1,x.2.2.2.1⟩ }) (λx=>Dl t x.1 x.2.2.2.1 x.2.1/\cu.ok x.2.2.2.2 ⟨p4,x.2.2.1,x.2.2.2.1⟩/\∀ b o,I b=some o->x.2.2.2.2 b=some o) (λx=>t.n-x.1) ?_ ?_
 ·intro _;refine⟨(0,List.replicate t.ns.length 0,gV,[],I),⟨Dl.start t,⟨jt 9,rfl,(λd aj=>t7)⟩,λ_ _ h=>h⟩,.mc ?_,kd,.cons rfl (.cons rfl (.cons rfl (.nil)))⟩;rw[mg];rfl
 rintro⟨i,P,os,ds,J⟩⟨bG,bl,a6⟩;simp only at bG bl a6;have tJ:=bG.nh;have dP:=bG.hi;have z0:=bG.len;refine aS.mk (λh=>?_) (λh=>?_)
 ·have aV:(i:Int)<t.n:=cv h;have fx:i<t.ns.length:=by omega
  obtain⟨k8,k9,hv⟩:=(au.a'.mono a6).row ak.cq (j:=i) Z fx;have aj:=(au.ns _ (bD fx)).mono a6;have gp:=aZ.ao i fx;have iv:=ar4 aZ fx;have iX:=λds' r=>bG.step aZ fx (ds':=ds') (r:=r);generalize eZ:t.ns[i]=d at aj hv gp iv iX;have eF:=aj.aA;have mL:=aj.a'.cap;refine bi.mk k8 i k9 rfl Z ?_;refine aJ.mk _ (hv _) ?_;refine c2.rc (ι:=Nat×aO×List Int×aI×List aD) (λy=>{ bn:=[(1,.ref 1 0),(2,.ref 2 0),(4,.val (ptr p4)),(5,.ref 5 0),(6,.val (.slice (some ⟨b6,0,none⟩) t.n t.n)),(7,.val (.int .i64 i)),(8,.ref 8 0),(9,.val y.2.1.val),(22,.val (.slice t.a t.n t.c)),(23,.val (.int .i64 t.n)),(24,.val (.int .i64 i)),(30,.val (.slice d.bX d.aA d.b5)),(31,.val (.int .i64 d.aA)),(32,.val (.int .i64 y.1))],cl:=[(1,t.cells),(2,[.slice none 0 0,.int .i64 0]),(5,TM),(8,d.cells)],cm:=y.2.2.2.1,cK:=y.2.2.2.2++(cV b6 P::cu.aq ⟨p4,os,ds⟩) }) (λy=>ad3 d P (y.1,y.2.1,y.2.2.1)/\((y.1<d.aA/\y.2.2.2.1=J/\y.2.2.2.2=y.2.1.aq 3)\/(y.1=d.aA/\(∀ b o,J b=some o->y.2.2.2.1 b=some o)/\y.2.2.2.2=[]/\cZ y.2.2.2.1 (y.2.1.a.map λg=>⟨g,0,none⟩) y.2.1.n y.2.1.c 1 8 (y.2.2.1.map (.int .i64 ·))))) (λy=>d.aA-y.1) ?_ ?_
  ·intro _;refine⟨(0,gV,[],J,[]),⟨⟨dh _,jt 1,am⟩,?_⟩,.refl,GJ,.cons rfl (.cons rfl (.cons rfl (.cons rfl (.nil))))⟩;by_cases dC:0<d.aA
   ·exact .inl ⟨dC,rfl,rfl⟩
   ·exact .inr ⟨ce,λ_ _ h=>h,rfl,cZ.ar3 _⟩
  rintro⟨k,dk,ff,iL,aee⟩⟨⟨hQ,hN,cL⟩,TZ⟩;simp only at hQ hN cL TZ;have Yk:=hN.nX;have EE:ff.length=k:=by rw[cL,bA,fF];omega
  refine aS.mk (λab=>?_) (λab=>?_)
  ·have Nt:k<d.aA:=by have:(k:Int)<(d.aA:Int):=cv ab;omega
   obtain⟨rfl,rfl⟩:iL=J/\aee=dk.aq 3:=by
    rcases TZ with⟨-,aa,al⟩ | ⟨aa,-⟩;·exact⟨aa,al⟩
    ·omega
   have h7:k<d.ao.length:=by omega
   have an:=gp _ (bD h7);have rM:d.ao[k].toNat<P.length:=by omega
   have yn:P.getD d.ao[k].toNat 0=P[d.ao[k].toNat]:=by simp[bP,rM]
   have Dj:cZ iL d.bX d.aA d.b5 1 8 (d.ao.flatMap iK):=by rw[oA];exact aj.a'
   obtain⟨fq,eN,eL⟩:=Dj.row (f:=iK) (λ_=>rfl) (j:=k) Z h7;refine bi.mk fq k eN rfl (show k<d.aA by omega) ?_;refine aJ.mk _ (eL _) ?_;refine bi.mk ⟨b6,0,none⟩ d.ao[k].toNat rfl Z Z ?_;refine aJ.mk _ (zM am rM) ?_;refine bN.mk λs5 Dk arV=>?_;refine bz.lh aT rfl am (e:=3) rfl rfl rfl dk hN rfl (cs:=[.int .i64 P[d.ao[k].toNat]]) rfl rfl rfl [] (cV b6 P::cu.aq ⟨p4,os,ds⟩) rfl Z ayL ?_;intro pg aea arW TW;refine a3.mk _ (cC (i:=k) Z) ?_;have T0:pg.ok 1 ((ff++[P[d.ao[k].toNat]]).map (.int .i64 ·)):=by rw[cJ];exact TW
   have aef:ff++[P[d.ao[k].toNat]]=(d.ao.take (k+1)).map (λk=>P.getD k.toNat 0):=by rw[cL,gi h7,cJ,s3,yn]
   intro ew;by_cases dC:k+1<d.aA;·exact⟨(k+1,pg,ff++[P[d.ao[k].toNat]],iL,pg.aq 3),⟨⟨⟨Nt,T0,aef⟩,.inl ⟨dC,rfl,rfl⟩⟩,ce⟩,.refl,GJ,.cons rfl (.cons rfl (.cons rfl (.cons rfl (.nil))))⟩
   ·have az:=mA.FY (os:=pg) (e:=3) (foot:=[]) ew (.refl _) (λx ae=>wt);obtain⟨kM,hw,bo,dM,-⟩:=aO.z7 (b:=8) (e:=3) T0 (by rw[aea];omega) az (cV b6 P::cu.aq ⟨p4,os,ds⟩);exact⟨(k+1,pg,ff++[P[d.ao[k].toNat]],kM,[]),⟨⟨⟨Nt,T0,aef⟩,.inr ⟨ce,bo,rfl,dM⟩⟩,ce⟩,hw _ _ .refl,GJ,.cons rfl (.cons rfl (.cons rfl (.cons rfl (.nil))))⟩
  have cM:k=d.aA:=by have:¬ (k:Int)<(d.aA:Int):=db ab;omega
  obtain⟨h1,rfl,dM⟩:(∀ b o,J b=some o->iL b=some o)/\aee=[]/\cZ iL (dk.a.map λg=>⟨g,0,none⟩) dk.n dk.c 1 8 (ff.map (.int .i64 ·)):=by
   rcases TZ with⟨aa,-⟩ | ⟨-,aa,al,aL⟩;·omega
   ·exact⟨aa,al,aL⟩
  subst cM;rw[fE Z]at cL;have lD:∀ x∈d.ao.map (λk=>ig P k.toNat),x<ds.length:=λx ae=>by obtain⟨y,aF,rfl⟩:=c6.1 ae;have:=gp y aF;obtain⟨T,aa,ab,-⟩:=bG.jO y.toNat Z;have:=ab.nz;unfold ig;omega
  have Nl:ff=(d.ao.map (λk=>ig P k.toNat)).map Int.ofNat:=by rw[cL,gE];refine fX λy aF=>?_;have:=gp y aF;obtain⟨T,aa,ab,-⟩:=bG.jO y.toNat Z;show P.getD y.toNat 0=((ig P y.toNat:Nat):Int);unfold ig;omega
  rw[Nl]at dM;have Ns:=bl.mono h1;have ug:=aj.mono h1;have nf:=λj ai af=>art (A:=⟨p4,os,ds⟩) Ns ce ug lD au' dM j ai af;clear cL Nl;obtain⟨dQ,b0,s1,s2,cg,g7,axJ,axK,tR,tS,tT,tU⟩:=d;have z5:dQ=0\/dQ=1\/dQ=2\/dQ=3\/dQ=4\/dQ=5\/dQ=6\/dQ=7\/dQ=8\/dQ=9:=by have aa:=Qv (aZ.fits i fx);rw[eZ]at aa;have ab:=aj.k;simp only at aa ab;omega
  rcases z5 with rfl | rfl | rfl | rfl | rfl | rfl | rfl | rfl | rfl | rfl
  ·refine cN.draw aT rfl rfl rfl ?_;refine cj.mk 0 rfl bv ?_;refine er.uG rfl (cu.aq ⟨p4,os,ds⟩) [cV b6 P] _ ?_ (nf 0 bv rfl) ?_
   ·exact(eM (l₁:=[cV b6 P]))
   rintro v cS dp c1⟨-,br,ds',r,rfl,kU,rfl,ny⟩;refine bi.mk ⟨b6,0,none⟩ i rfl rfl Z ?_;refine b'.iC (cu.aq ⟨p4,br,ds'⟩) [] (P.map (Value.int .i64)) 3 rfl fd rfl ((P.set i r).map (Value.int .i64)) f8 ?_;refine a3.mk _ (cC (i:=i) Z) ?_;intro _;exact⟨(i+1,P.set i r,br,ds',cS),⟨⟨iX _ _ ny,kU,λb o h=>c1 _ _ (h1 _ _ (a6 _ _ h))⟩,ce⟩,.perm (eM (l₁:=cu.aq ⟨p4,br,ds'⟩)) .refl,kd,.cons rfl (.cons rfl (.cons rfl (.nil)))⟩
  ·refine cN.draw aT rfl rfl rfl ?_;refine cj.mk 1 rfl bv ?_;refine er.uG rfl (cu.aq ⟨p4,os,ds⟩) [cV b6 P] _ ?_ (nf 1 bv rfl) ?_
   ·exact(eM (l₁:=[cV b6 P]))
   rintro v cS dp c1⟨-,br,ds',r,rfl,kU,rfl,ny⟩;refine bi.mk ⟨b6,0,none⟩ i rfl rfl Z ?_;refine b'.iC (cu.aq ⟨p4,br,ds'⟩) [] (P.map (Value.int .i64)) 3 rfl fd rfl ((P.set i r).map (Value.int .i64)) f8 ?_;refine a3.mk _ (cC (i:=i) Z) ?_;intro _;exact⟨(i+1,P.set i r,br,ds',cS),⟨⟨iX _ _ ny,kU,λb o h=>c1 _ _ (h1 _ _ (a6 _ _ h))⟩,ce⟩,.perm (eM (l₁:=cu.aq ⟨p4,br,ds'⟩)) .refl,kd,.cons rfl (.cons rfl (.cons rfl (.nil)))⟩
  ·refine cN.draw aT rfl rfl rfl ?_;refine cj.mk 2 rfl bv ?_;refine er.uG rfl (cu.aq ⟨p4,os,ds⟩) [cV b6 P] _ ?_ (nf 2 bv rfl) ?_
   ·exact(eM (l₁:=[cV b6 P]))
   rintro v cS dp c1⟨-,br,ds',r,rfl,kU,rfl,ny⟩;refine bi.mk ⟨b6,0,none⟩ i rfl rfl Z ?_;refine b'.iC (cu.aq ⟨p4,br,ds'⟩) [] (P.map (Value.int .i64)) 3 rfl fd rfl ((P.set i r).map (Value.int .i64)) f8 ?_;refine a3.mk _ (cC (i:=i) Z) ?_;intro _;exact⟨(i+1,P.set i r,br,ds',cS),⟨⟨iX _ _ ny,kU,λb o h=>c1 _ _ (h1 _ _ (a6 _ _ h))⟩,ce⟩,.perm (eM (l₁:=cu.aq ⟨p4,br,ds'⟩)) .refl,kd,.cons rfl (.cons rfl (.cons rfl (.nil)))⟩
  ·refine cN.draw aT rfl rfl rfl ?_;refine cj.mk 3 rfl bv ?_;refine er.uG rfl (cu.aq ⟨p4,os,ds⟩) [cV b6 P] _ ?_ (nf 3 bv rfl) ?_
   ·exact(eM (l₁:=[cV b6 P]))
   rintro v cS dp c1⟨-,br,ds',r,rfl,kU,rfl,ny⟩;refine bi.mk ⟨b6,0,none⟩ i rfl rfl Z ?_;refine b'.iC (cu.aq ⟨p4,br,ds'⟩) [] (P.map (Value.int .i64)) 3 rfl fd rfl ((P.set i r).map (Value.int .i64)) f8 ?_;refine a3.mk _ (cC (i:=i) Z) ?_;intro _;exact⟨(i+1,P.set i r,br,ds',cS),⟨⟨iX _ _ ny,kU,λb o h=>c1 _ _ (h1 _ _ (a6 _ _ h))⟩,ce⟩,.perm (eM (l₁:=cu.aq ⟨p4,br,ds'⟩)) .refl,kd,.cons rfl (.cons rfl (.cons rfl (.nil)))⟩
  ·refine cN.draw aT rfl rfl rfl ?_;refine cj.mk 4 rfl bv ?_;refine er.uG rfl (cu.aq ⟨p4,os,ds⟩) [cV b6 P] _ ?_ (nf 4 bv rfl) ?_
   ·exact(eM (l₁:=[cV b6 P]))
   rintro v cS dp c1⟨-,br,ds',r,rfl,kU,rfl,ny⟩;refine bi.mk ⟨b6,0,none⟩ i rfl rfl Z ?_;refine b'.iC (cu.aq ⟨p4,br,ds'⟩) [] (P.map (Value.int .i64)) 3 rfl fd rfl ((P.set i r).map (Value.int .i64)) f8 ?_;refine a3.mk _ (cC (i:=i) Z) ?_;intro _;exact⟨(i+1,P.set i r,br,ds',cS),⟨⟨iX _ _ ny,kU,λb o h=>c1 _ _ (h1 _ _ (a6 _ _ h))⟩,ce⟩,.perm (eM (l₁:=cu.aq ⟨p4,br,ds'⟩)) .refl,kd,.cons rfl (.cons rfl (.cons rfl (.nil)))⟩
  ·refine cN.draw aT rfl rfl rfl ?_;refine cj.mk 5 rfl bv ?_;refine er.uG rfl (cu.aq ⟨p4,os,ds⟩) [cV b6 P] _ ?_ (nf 5 bv rfl) ?_
   ·exact(eM (l₁:=[cV b6 P]))
   rintro v cS dp c1⟨-,br,ds',r,rfl,kU,rfl,ny⟩;refine bi.mk ⟨b6,0,none⟩ i rfl rfl Z ?_;refine b'.iC (cu.aq ⟨p4,br,ds'⟩) [] (P.map (Value.int .i64)) 3 rfl fd rfl ((P.set i r).map (Value.int .i64)) f8 ?_;refine a3.mk _ (cC (i:=i) Z) ?_;intro _;exact⟨(i+1,P.set i r,br,ds',cS),⟨⟨iX _ _ ny,kU,λb o h=>c1 _ _ (h1 _ _ (a6 _ _ h))⟩,ce⟩,.perm (eM (l₁:=cu.aq ⟨p4,br,ds'⟩)) .refl,kd,.cons rfl (.cons rfl (.cons rfl (.nil)))⟩
  ·refine cN.draw aT rfl rfl rfl ?_;refine cj.mk 6 rfl bv ?_;refine er.uG rfl (cu.aq ⟨p4,os,ds⟩) [cV b6 P] _ ?_ (nf 6 bv rfl) ?_
   ·exact(eM (l₁:=[cV b6 P]))
   rintro v cS dp c1⟨-,br,ds',r,rfl,kU,rfl,ny⟩;refine bi.mk ⟨b6,0,none⟩ i rfl rfl Z ?_;refine b'.iC (cu.aq ⟨p4,br,ds'⟩) [] (P.map (Value.int .i64)) 3 rfl fd rfl ((P.set i r).map (Value.int .i64)) f8 ?_;refine a3.mk _ (cC (i:=i) Z) ?_;intro _;exact⟨(i+1,P.set i r,br,ds',cS),⟨⟨iX _ _ ny,kU,λb o h=>c1 _ _ (h1 _ _ (a6 _ _ h))⟩,ce⟩,.perm (eM (l₁:=cu.aq ⟨p4,br,ds'⟩)) .refl,kd,.cons rfl (.cons rfl (.cons rfl (.nil)))⟩
  ·refine cN.draw aT rfl rfl rfl ?_;refine cj.mk 7 rfl bv ?_;refine er.uG rfl (cu.aq ⟨p4,os,ds⟩) [cV b6 P] _ ?_ (nf 7 bv rfl) ?_
   ·exact(eM (l₁:=[cV b6 P]))
   rintro v cS dp c1⟨-,br,ds',r,rfl,kU,rfl,ny⟩;refine bi.mk ⟨b6,0,none⟩ i rfl rfl Z ?_;refine b'.iC (cu.aq ⟨p4,br,ds'⟩) [] (P.map (Value.int .i64)) 3 rfl fd rfl ((P.set i r).map (Value.int .i64)) f8 ?_;refine a3.mk _ (cC (i:=i) Z) ?_;intro _;exact⟨(i+1,P.set i r,br,ds',cS),⟨⟨iX _ _ ny,kU,λb o h=>c1 _ _ (h1 _ _ (a6 _ _ h))⟩,ce⟩,.perm (eM (l₁:=cu.aq ⟨p4,br,ds'⟩)) .refl,kd,.cons rfl (.cons rfl (.cons rfl (.nil)))⟩
  ·refine cN.draw aT rfl rfl rfl ?_;refine cj.mk 8 rfl bv ?_;refine er.uG rfl (cu.aq ⟨p4,os,ds⟩) [cV b6 P] _ ?_ (nf 8 bv rfl) ?_
   ·exact(eM (l₁:=[cV b6 P]))
   rintro v cS dp c1⟨-,br,ds',r,rfl,kU,rfl,ny⟩;refine bi.mk ⟨b6,0,none⟩ i rfl rfl Z ?_;refine b'.iC (cu.aq ⟨p4,br,ds'⟩) [] (P.map (Value.int .i64)) 3 rfl fd rfl ((P.set i r).map (Value.int .i64)) f8 ?_;refine a3.mk _ (cC (i:=i) Z) ?_;intro _;exact⟨(i+1,P.set i r,br,ds',cS),⟨⟨iX _ _ ny,kU,λb o h=>c1 _ _ (h1 _ _ (a6 _ _ h))⟩,ce⟩,.perm (eM (l₁:=cu.aq ⟨p4,br,ds'⟩)) .refl,kd,.cons rfl (.cons rfl (.cons rfl (.nil)))⟩
  ·refine cN.draw aT rfl rfl rfl ?_;refine cj.mk 9 rfl bv ?_;refine er.uG rfl (cu.aq ⟨p4,os,ds⟩) [cV b6 P] _ ?_ (nf 9 bv rfl) ?_
   ·exact(eM (l₁:=[cV b6 P]))
   rintro v cS dp c1⟨-,br,ds',r,rfl,kU,rfl,ny⟩;refine bi.mk ⟨b6,0,none⟩ i rfl rfl Z ?_;refine b'.iC (cu.aq ⟨p4,br,ds'⟩) [] (P.map (Value.int .i64)) 3 rfl fd rfl ((P.set i r).map (Value.int .i64)) f8 ?_;refine a3.mk _ (cC (i:=i) Z) ?_;intro _;exact⟨(i+1,P.set i r,br,ds',cS),⟨⟨iX _ _ ny,kU,λb o h=>c1 _ _ (h1 _ _ (a6 _ _ h))⟩,ce⟩,.perm (eM (l₁:=cu.aq ⟨p4,br,ds'⟩)) .refl,kd,.cons rfl (.cons rfl (.cons rfl (.nil)))⟩
 ·have cM:i=t.ns.length:=by have:¬ (i:Int)<(t.n:Int):=db h;omega
  subst cM;obtain⟨gH,fT⟩:=aZ.bp;obtain⟨r,dD⟩:=dZ gH;have dw:r<t.ns.length:=by omega
  obtain⟨T,lI,hY,qg⟩:=bG.jO r dw;have ar6:P[r]' Z=(T.bs:Int):=by rw[lI,bP,du Z];rfl
  refine bi.mk ⟨b6,0,none⟩ r rfl dD Z ?_;refine aJ.mk _ (G4 Z ar6 (.head _)) ?_;have lG:=arP bl ce bG.wd.ao bG.wd.diff hY;refine a9.mk (cu.aq ⟨p4,os,ds⟩) [cV b6 P] _ (eM (l₁:=[cV b6 P])) lG ?_;rintro v cS dp -⟨c1,rfl,be,rfl,hR,dN⟩;intro _;refine⟨_,_,.sub (eY _) .refl,λb o h=>c1 _ _ (a6 _ _ h),rfl,be,rfl,hR,?_⟩;rw[show(b4 t).lU=(T.bare ds).bw from by rw[qg];unfold aU.lU b4;rw[dD]];exact dN
section
end
def ar7{d:ak}(h:d.k=0)(aC:Go.V.fits d n=true):n=0:=by unfold Go.V.fits at aC;rw[h]at aC;simp[oe,nc]at aC;have aa:jl[0]?.getD 0=0:=rfl;have ab:jl[1]?.getD 0=0:=rfl;rw[aa,ab]at aC;omega
def Nw{M0:List aD}(bm:fr I aB)(au:t.ok I)(ag:right t=true)(aE:t.n<=1099511627776) :
  Spec Tryz.prog 72 [t.val] I M0 λv I' M'=>(∀ b o,I b=some o->I' b=some o)/\M'=M0/\∃ be:bf,v=.tuple #[be.val,.bool true]/\be.ok I'/\mq be (b4 t).lU:=by
 refine(Spec.frame (ar5 bm au ag aE)).Nh ?_;rintro v I' M'⟨M1,rfl,-,-,aa,rfl,ab⟩;exact⟨aa,rfl,ab⟩
def T1{d:ak}(h:d.k=4\/d.k=5)(aC:Go.V.fits d n=true):2<=n:=by
 unfold Go.V.fits at aC;rcases h with e | e<;>rw[e]at aC<;>simp[oe,nc]at aC<;>have:=aC.1.1<;>simp[jl]at this<;>omega
def aeg{d:ak}(h:d.k=4\/d.k=5):e0 (.mk (nothing (d.k-4)).bare []):=by
 refine .mk ?_ λc ar=>by cases ar
 rcases h with e | e
 ·rw[show d.k-4=0 by omega];rfl
 ·rw[show d.k-4=1 by omega];rfl
def ar8{d:ak}{xs:List aU}(aC:Go.V.fits d xs.length=true)(ae:∀ x∈xs,e0 x):e0 (Jv d xs):=by
 unfold Jv;split
 ·rename_i gM;have ab:=T1 gM aC;have aw:∀ y∈xs.filter (ku d),e0 y:=λy aF=>ae y (n8.1 aF).1;generalize xs.filter (ku d)=bn at aw
  match bn,aw with
  |[],_=>exact aeg gM| [y],aw=>exact aw y (.head _)| Jy::Jz::l,aw=>exact .mk (TX gM (n:=(xs.length:Nat)) Z d7 aC) aw
 ·exact .mk aC ae
def aeh:∀ {T:aU},e0 T->e0 (T.fold n6):=by
 intro T
 induction T using aU.ind with
 |h d ks aX=>intro h;rw[aU.fold_eq];refine ar8 (by rw[bA];exact h.inv.1) λx ae=>?_;obtain⟨c,ar,rfl⟩:=c6.1 ae;exact aX c ar (h.inv.2 c ar)
def T2(b3:Option Int):Prop:=b3=none\/b3=some 4\/b3=some 5
def aei(d:ak):T2 (iM d):=by
 unfold iM T2;split
 ·rename_i h;rcases h with e | e<;>rw[e]<;>simp
 ·exact .inl rfl
def T3{α β:Type}{f:α->β}:∀ l:List α,l.map f=l.flatMap λc=>[f c]
 |[]=>rfl| a::l=>by rw[ch,T3 l];rfl
def T4{α β:Type}{f:α->List β}:∀ {l:List α},(∀ x∈l,1<=(f x).length)->l.length<=(l.flatMap f).length
 |[],_=>cf _| a::l,h=>by have:=T4 (l:=l) λx ae=>h x (.tail _ ae);have:=h a (.head _);rw[iS,ct,ey];omega
def ar9:∀ {T:aU},e0 T->(∀ b3,T2 b3->1<=(T.ga b3).length/\∀ U∈T.ga b3,e0 U)/\e0 T.bw:=by
 intro T
 induction T using aU.ind with
 |h d ks aX=>
  intro h;obtain⟨aC,af⟩:=h.inv;have pC:e0 (aU.mk d ks).bw:=by
   show e0 (.mk d (ks.flatMap (aU.ga (iM d))));have aa:=T4 (f:=aU.ga (iM d)) λc ar=>((aX c ar (af c ar)).1 _ (aei d)).1;refine .mk ?_ λU eP=>?_
   ·by_cases gM:d.k=4\/d.k=5
    ·have:=T1 gM aC;exact TX gM (n:=(ks.length:Nat)) Z Z aC
    ·have e:iM d=none:=bK gM;have bc:ks.flatMap (aU.ga (iM d))=ks.map aU.bw:=by
      rw[e];rw[T3];refine rO λc _=>?_;cases c with
      |mk d' Jp=>rw[aU.qZ,bK am]
     rw[bc,bA];exact aC
   ·obtain⟨c,ar,eP⟩:=hB.1 eP;exact((aX c ar (af c ar)).1 _ (aei d)).2 U eP
  refine⟨λb3 iV=>?_,pC⟩;rw[aU.qZ];split
  ·rename_i e;have gM:d.k=4\/d.k=5:=by
    rcases iV with h | h | h<;>rw[h]at e
    ·cases e
    ·exact .inl (eX e)
    ·exact .inr (eX e)
   have ab:=T1 gM aC;have aa:=T4 (f:=aU.ga b3) λc ar=>((aX c ar (af c ar)).1 _ iV).1;refine⟨Z,λU eP=>?_⟩;obtain⟨c,ar,eP⟩:=hB.1 eP;exact((aX c ar (af c ar)).1 _ iV).2 U eP
  ·refine⟨cf _,λU eP=>?_⟩;rw[ep.1 eP];exact pC
def Dn{T:aU}(h:e0 T):e0 T.lU:=(ar9 (aeh h)).2
def asa{d:ak}{xs:List aU}(ae:∀ x∈xs,jA x)(aj:d.bare=d):jA (Jv d xs):=by
 unfold Jv;split
 ·have aw:∀ y∈xs.filter (ku d),jA y:=λy aF=>ae y (n8.1 aF).1;generalize xs.filter (ku d)=bn at aw
  match bn,aw with
  |[],_=>exact .mk rfl λc ar=>by cases ar
  |[y],aw=>exact aw y (.head _)| Jy::Jz::l,aw=>exact .mk aj aw
 ·exact .mk aj ae
def asb:∀ (T:aU),jA (T.fold n6):=by
 intro T
 induction T using aU.ind with
 |h d ks aX=>rw[aU.fold_eq];refine asa (λx ae=>?_) rfl;obtain⟨c,ar,rfl⟩:=c6.1 ae;exact aX c ar
def asc:∀ {T:aU},jA T->(∀ b3,∀ U∈T.ga b3,jA U)/\jA T.bw:=by
 intro T
 induction T using aU.ind with
 |h d ks aX=>
  intro h;obtain⟨aC,af⟩:=h.inv;have pC:jA (aU.mk d ks).bw:=by show jA (.mk d (ks.flatMap (aU.ga (iM d))));refine .mk aC λU eP=>?_;obtain⟨c,ar,eP⟩:=hB.1 eP;exact(aX c ar (af c ar)).1 _ U eP
  refine⟨λb3 U eP=>?_,pC⟩;rw[aU.qZ]at eP;split at eP;·obtain⟨c,ar,eP⟩:=hB.1 eP;exact(aX c ar (af c ar)).1 _ U eP
  ·rw[ep.1 eP];exact pC
def JA(T:aU):jA T.lU:=(asc (asb T)).2
section
variable{α:Type}{F:ak->List α->α}(bC:TG F)
include bC
theorem fold_filter{d:ak}(xs:List aU)(ae:∀ x∈xs,e0 x):∀ ys:List α,F d (ys++xs.map (aU.fold F))=F d (ys++(xs.filter (ku d)).map (aU.fold F)):=by
 induction xs with
 |nil=>intro ys;rfl
 |cons x xs aX=>
  intro ys;have aX:=aX λy aF=>ae y (.tail _ aF);rw[CY,ch];cases h:ku d x with
  |true=>have:=aX (ys++[x.fold F]);simpa using this
  |false=>
   unfold ku at h;have aL:d.k=4:=by
    cases e:decide (d.k=4)with
    |true=>exact cv e| false=>rw[e]at h;cases h
   have ax:x.d.k=0:=by
    cases e:decide (x.d.k=0)with
    |true=>exact cv e| false=>rw[e,aL]at h;cases h
   have qS:=ae x (.head _);cases x with
   |mk d' ks=>
   have af:ks=[]:=iB (ar7 ax qS.inv.1);subst af;rw[aU.fold_eq,hd,bC.drop d d' ys _ aL ax,aX];rfl
theorem asd{d:ak}{xs:List aU}(ae:∀ x∈xs,e0 x):(n6 d xs).fold F=F d (xs.map (aU.fold F)):=by
 have ah:F d.bare=F d:=bC.ao d [];rw[Jw];have h:=fold_filter bC (d:=d) xs ae [];rw[hW,hW]at h;split
 ·rename_i gM;rw[h];generalize xs.filter (ku d)=bn
  match bn with
  |[]=>
   rw[aU.fold_eq];rcases gM with e | e;·rw[show d.k-4=0 by omega];exact(bC.aqC d (nothing 0).bare e rfl).symm
   ·rw[show d.k-4=1 by omega];exact(bC.aqD d (nothing 1).bare e rfl rfl rfl rfl rfl).symm
  |[y]=>exact(bC.one d _ gM).symm| Jy::Jz::l=>rw[aU.fold_eq,ah]
 ·rw[aU.fold_eq,ah]
theorem ase:∀ {T:aU},e0 T->(T.fold n6).fold F=T.fold F:=by
 intro T
 induction T using aU.ind with
 |h d ks aX=>
  intro h;obtain⟨aC,af⟩:=h.inv;rw[aU.fold_eq,asd bC (λx ae=>?_),aU.fold_eq,gE];·congr 1;exact fX λc ar=>aX c ar (af c ar)
  ·obtain⟨c,ar,rfl⟩:=c6.1 ae;exact aeh (af c ar)
theorem asf:∀ (T:aU),(∀ d,d.k=4\/d.k=5->∀ xs fo:List α,F d (xs++((T.ga (some d.k)).map (aU.fold F)++fo))=F d (xs++(T.fold F::fo)))/\T.bw.fold F=T.fold F:=by
 intro T
 induction T using aU.ind with
 |h d ks aX=>
  have flat:∀ (e:ak),e.k=4\/e.k=5->∀ (l:List aU),(∀ c∈l,c∈ks)->∀ xs fo:List α,F e (xs++((l.flatMap (aU.ga (some e.k))).map (aU.fold F)++fo))=F e (xs++(l.map (aU.fold F)++fo)):=by
   intro e he l
   induction l with
   |nil=>intro _ xs fo;rfl| cons c l TR=>intro ay xs fo;rw[iS,cJ,ej,(aX c (ay c (.head _))).1 e he];have:=TR (λx ae=>ay x (.tail _ ae)) (xs++[c.fold F]) fo;simpa using this
  have pC:(aU.mk d ks).bw.fold F=(aU.mk d ks).fold F:=by
   show(aU.mk d (ks.flatMap (aU.ga (iM d)))).fold F=_;rw[aU.fold_eq,aU.fold_eq];by_cases gM:d.k=4\/d.k=5;·have e:iM d=some d.k:=bY gM;have:=flat d gM ks (λc ar=>ar) [] [];rw[e];simpa using this
   ·have e:iM d=none:=bK gM;congr 1;rw[e,AN];rw[T3 (f:=aU.fold F)];refine rO λc ar=>?_;have ab:=(aX c ar).2;cases c with
    |mk d' Jp=>
    rw[aU.qZ,bK am,s3,ab]
  refine⟨λe he xs fo=>?_,pC⟩;rw[aU.qZ];split;·rename_i af;have af:d.k=e.k:=eX af;rw[flat e he ks (λc ar=>ar),aU.fold_eq];exact(bC.nest e d xs (ks.map (aU.fold F)) fo he af).symm
  ·rw[s3,pC];rfl
theorem T5{T:aU}(h:e0 T):T.lU.fold F=T.fold F:=(asf bC _).2.trans (ase bC h)
end
namespace aP
def go:aP->List Int->Option aP
 |T,[]=>some T| T,i::p=>if 0<=i/\i<(T.sub.length:Int)then(T.sub.getD i.toNat T).go p else none
def pD:aP->List Int->List (Nat×Int)
 |_,[]=>[]| T,i::p=>(T.bs,i)::(T.sub.getD i.toNat T).pD p
end aP
namespace aU
def go:aU->List Int->Option aU
 |T,[]=>some T| T,i::p=>if 0<=i/\i<(T.sub.length:Int)then(T.sub.getD i.toNat T).go p else none
def put:aU->List Int->aU->aU
 |_,[],X=>X| T,i::p,X=>.mk T.d (T.sub.set i.toNat ((T.sub.getD i.toNat T).put p X))
end aU
def aej(ns:List ak)(T:aP):(T.bare ns).sub=T.sub.map (aP.bare ns):=by
 cases T with
 |mk k ks=>
 rw[aP.nA];rfl
def getD_map{β:Type}(f:α->β)(l:List α)(i:Nat)(a:α):(l.map f).getD i (f a)=f (l.getD i a):=by rw[bP,bP,jJ];cases l[i]?<;>rfl
def bare_go(ns:List ak):∀ (p:List Int) (T:aP),(T.bare ns).go p=(T.go p).map (aP.bare ns)
 |[],T=>rfl
 |i::p,T=>by
  rw[aU.go,aP.go,aej,bA];split;·rw[getD_map,bare_go ns p]
  ·rfl
def cI.getD{ns:List ak}{T:aP}(h:cI ns T)(i:Nat):cI ns (T.sub.getD i T):=by
 rw[bP];cases e:T.sub[i]? with
 |none=>exact h| some c=>exact h.AZ c (sg e)
def cI.go{ns:List ak}:∀ (p:List Int) {T:aP},cI ns T->∀ {S},T.go p=some S->cI ns S
 |[],T,h,S,e=>by obtain rfl:=eX e;exact h
 |i::p,T,h,S,e=>by
  rw[aP.go]at e;split at e;·exact cI.go p (h.getD _) e
  ·cases e
structure mr(ds:List ak)(Jt:List Nat):Prop where
 wd:r7 ds Jt
 all:∀ j,j<ds.length->(j:Int)∈eI ds\/j∈Jt
def mr.perm{ds:List ak}{a b:List Nat}(h:mr ds a)(aK:a.Perm b):mr ds b:=⟨h.wd.perm aK,λj ai=>(h.all j ai).imp id λh=>aK.mem_iff.1 h⟩
def mr.add{ds:List ak}(h:mr ds (l++bq)){x:ak}(ae:Go.V.fits x l.length=true)(af:x.ao=l.map Int.ofNat):mr (ds++[x]) (ds.length::bq):=by
 refine⟨h.wd.add (by rw[af,bA];exact ae) (by rw[af];exact .refl _),λj ai=>?_⟩;have eN:eI (ds++[x])=eI ds++l.map Int.ofNat:=by rw[Nu,<-af];simp[eI]
 rw[ct,pi]at ai;rw[eN,cW];by_cases e:j=ds.length
 ·exact .inr (by rw[e];exact .head _)
 ·rcases h.all j Z with aa | aa
  ·exact .inl (.inl aa)
  ·rcases cW.1 aa with aa | aa
   ·exact .inl (.inr (c6.2 ⟨j,aa,rfl⟩))
   ·exact .inr (.tail _ aa)
def mr.nil:mr [] []:=⟨⟨(λd aj=>t7),λj h=>absurd h (mO _),List.Pairwise.nil,(λk af=>aig),.nil⟩,λj h=>absurd h (mO _)⟩
def mr.right{ds:List ak}{r:Nat}(h:mr ds [r])(aE:t.ns=ds)(ag:t.bp=(r:Int)):hg t:=by
 subst aE;obtain⟨aa,ab⟩:=h.wd.gY r (.head _);refine⟨by rw[ag];omega,λj ai=>h.wd.fits _ (bD ai),h.wd.ao,h.wd.diff,λj ai=>?_⟩;rw[ag];constructor
 ·intro hm e;obtain rfl:j=r:=by omega
  exact ab hm
 ·intro bH;rcases h.all j ai with al | al
  ·exact al
  ·exact absurd (by rw[ep.1 al]) bH
def fl(q:List aP)(i:Nat):Nat:=1+((q.take i).flatMap aP.sub).length
structure vL(S:aP)(q:List aP)(i:Nat):Prop where
 hi:i<=q.length
 eq:q=S::(q.take i).flatMap aP.sub
 lt:∀ j,j<i->j<fl q j
 pm:S.c5.Perm ((q.take i).map aP.bs++(q.drop i).flatMap aP.c5)
def vL.start(S:aP):vL S [S] 0:=⟨dh _,rfl,(λj h=>absurd h (mO _)),am⟩
def vL.len{S:aP}{q:List aP}(h:vL S q i):i+hF (q.drop i)=S.c5.length/\q.length<=S.c5.length:=by have aa:=h.pm.length_eq;have ab:=h.hi;have al:=A1 (q.drop i);rw[ct,bA,fF,yg]at aa;rw[oU]at al;unfold hF at al |-;omega
def vL.step{S:aP}{q:List aP}(h:vL S q i)(hi:i<q.length):vL S (q++q[i].sub) (i+1):=by
 have lG:(q++q[i].sub).take (i+1)=q.take i++[q[i]]:=by rw[BJ Z,gi hi]
 have Jd:∀ j,j<=i->fl (q++q[i].sub) j=fl q j:=λj ai=>by unfold fl;rw[BJ Z]
 refine⟨ay3,?_,λj ai=>?_,?_⟩
 ·rw[lG,fL,o9]
  conv=>lhs;lhs;rw[h.eq]
  rfl
 ·rw[Jd j Z];by_cases e:j=i
  ·subst e;have:=congrArg List.length h.eq;rw[ey]at this;unfold fl;omega
  ·exact h.lt j Z
 ·rw[lG];refine h.pm.trans ?_;have aN:q.drop i=q[i]::q.drop (i+1):=e9 hi;have bc:(q++q[i].sub).drop (i+1)=q.drop (i+1)++q[i].sub:=by rw[Q0 Z]
  have cy:q[i].c5=q[i].sub.flatMap aP.c5++[q[i].bs]:=by
   cases q[i]with
   |mk k ks=>exact aP.mT k ks
  rw[aN,bc,iS,cy,cJ,fL,s3,ej,ej];refine Lf _ ?_;have aa:=eM (l₁:=q[i].sub.flatMap aP.c5) (l₂:=[q[i].bs]++(q.drop (i+1)).flatMap aP.c5);simpa using aa
def vL.done{S:aP}{q:List aP}(h:vL S q q.length):q=S::q.flatMap aP.sub/\(∀ j,j<q.length->j<fl q j)/\q.length=S.c5.length:=by
 obtain⟨aa,ab⟩:=h.len;refine⟨?_,h.lt,?_⟩
 ·have:=h.eq;rwa [DZ]at this
 ·rw[KV]at aa;simpa[hF]using aa
def aek{q:List aP}(hi:i<q.length):fl q (i+1)=fl q i+q[i].sub.length:=by unfold fl;rw[gi hi,fL,ct,o9];omega
def ael{S:aP}{q:List aP}(h:q=S::q.flatMap aP.sub):fl q q.length=q.length:=by unfold fl;rw[DZ];have:=congrArg List.length h;rw[ey]at this;omega
def aem{S:aP}{q:List aP}(h:q=S::q.flatMap aP.sub){j:Nat}(hi:i<q.length)(ai:j<q[i].sub.length):q[fl q i+j]?=some q[i].sub[j]:=by
 have e:q.flatMap aP.sub=(q.take i).flatMap aP.sub++(q[i].sub++(q.drop (i+1)).flatMap aP.sub):=by
  conv=>lhs;rw[<-pO i q,e9 hi]
  rw[fL,iS]
 have aa:q[fl q i+j]?=(S::q.flatMap aP.sub)[fl q i+j]?:=congrArg (λl:List aP=>l[fl q i+j]?) h;rw[aa];unfold fl;rw[show 1+((q.take i).flatMap aP.sub).length+j=(((q.take i).flatMap aP.sub).length+j)+1 by omega,Gl,e,l4 Z,show((q.take i).flatMap aP.sub).length+j-((q.take i).flatMap aP.sub).length=j by omega,sv ai,du ai]
structure xv(ns:List ak)(da:Nat)(qe:List Nat)(q:List aP)(i:Nat)(eh:List ak):Prop where
 hi:i<=q.length
 len:eh.length=da+(q.length-i)
 EU:mr eh ((List.range (fl q i-i)).map (λz=>da+q.length-1-(i+z))++qe)
 jO:∀ p,i<=p->(h:p<q.length)->∃ T:aP,T.bs=da+q.length-1-p/\cI eh T/\T.bare eh=q[p].bare ns
def xv.start{ns:List ak}{S:aP}{q:List aP}(h:q=S::q.flatMap aP.sub)(az:mr eh qe):xv ns eh.length qe q q.length eh:=by refine⟨cf _,Z,?_,λp aa ab=>absurd ab Z⟩;rw[ael h,mK];exact az
def xv.step{ns:List ak}{S:aP}{q:List aP}(aM:q=S::q.flatMap aP.sub)(aV:∀ j,j<q.length->j<fl q j)(h:xv ns da qe q (i+1) eh)(fa:cI ns (q[i]'(by have:=h.hi;omega)))(aC:∀ d∈ns,fits d d.ao.length=true){x:ak}(kH:x.bare=(nodeAt ns (q[i]'(by have:=h.hi;omega)).bs).bare)(vM:x.ao=(List.range (fl q (i+1)-fl q i)).map λz=>((da+q.length-1-(fl q i+z):Nat):Int)) :
  xv ns da qe q i (eh++[x]):=by
 have hi:i<q.length:=by have:=h.hi;omega
 have aw:=aek hi;have axL:=aV i hi;have gn:=h.len;have kf:∀ j,j<q[i].sub.length->fl q i+j<q.length:=λj ai=>by have:=aem aM hi ai;exact(jd.1 this).1
 have e3:eh.length=da+q.length-1-i:=by omega
 refine⟨Z,by rw[ct,pi];omega,?_,λp CQ iH=>?_⟩
 ·have gJ:fl q (i+1)-fl q i=q[i].sub.length:=by omega
  have ay:((List.range (fl q (i+1)-(i+1))).map (λz=>da+q.length-1-(i+1+z))++qe).Perm ((List.range q[i].sub.length).map (λz=>da+q.length-1-(fl q i+z))++((List.range (fl q i-(i+1))).map (λz=>da+q.length-1-(i+1+z))++qe)):=by
   rw[<-ej];refine List.Perm.append_right _ ?_;have e:fl q (i+1)-(i+1)=(fl q i-(i+1))+q[i].sub.length:=by omega
   rw[e,List.range_add,cJ,gE];refine eM.trans (List.Perm.append_right _ ?_);refine List.Perm.of_eq (fX λz bg=>?_);show da+q.length-1-(i+1+(fl q i-(i+1)+z))=_;omega
  have y5:Go.V.fits x ((List.range q[i].sub.length).map (λz=>da+q.length-1-(fl q i+z))).length=true:=by
   rw[bA,w1];have aa:=aC _ (bD fa.nz);rw[<-fw fa.nz,fa.AY]at aa;unfold e7 at aa;rw[bA]at aa;have ab:Go.V.fits x.bare (q[i].sub.length:Nat)=true:=by rw[kH];exact aa
   exact ab
  have az:=(h.EU.perm ay).add (x:=x) y5 (by rw[vM,gJ,gE];rfl);refine az.perm ?_;rw[e3];have e:fl q i-i=(fl q i-(i+1))+1:=by omega
  rw[e,List.range_succ_eq_map,ch,gE,pP];refine List.Perm.of_eq ?_;congr 1;congr 1;refine fX λz bg=>?_;show _=da+q.length-1-(i+(z+1));omega
 ·by_cases e:p=i
  ·subst e;obtain⟨ks,ki,e4⟩:=Jo (R:=λ(z:Nat) (T:aP)=>T.bs=da+q.length-1-(fl q p+z)/\cI eh T/\∃ bg:z<q[p].sub.length,T.bare eh=q[p].sub[z].bare ns) (l:=List.range q[p].sub.length) λz bg=>by have bg:z<q[p].sub.length:=kx.1 bg;have ah:=kf z bg;obtain⟨T,aa,ab,al⟩:=h.jO (fl q p+z) Z ah;refine⟨T,aa,ab,bg,?_⟩;have aL:=aem aM hi bg;rw[du ah]at aL;rw[al,eX aL]
   rw[w1]at ki;have eH:∀ c∈ks,cI eh c:=λc ar=>by obtain⟨z,bg,rfl⟩:=hL ar;exact(e4 z (by simpa using by omega) bg).2.1
   refine⟨.mk eh.length ks,by show eh.length=_;omega,.mk am ?_ λc ar=>(eH c ar).app _,?_⟩;·rw[FT,vM];refine oV d7 λz bg gU=>?_;rw[gl,gl,wN];have:=(e4 z (by simpa using by simpa[ki]using gU) (by simpa using gU)).1;rw[wN]at this;omega
   ·rw[aP.nA,FT,kH];have tQ:q[p].bare ns=.mk (nodeAt ns q[p].bs).bare (q[p].sub.map (aP.bare ns)):=by
     cases q[p]with
     |mk k l=>exact aP.nA ns k l
    rw[tQ];congr 1;refine oV ayQ λz bg gU=>?_;rw[gl,gl];have u4:z<ks.length:=by simpa using bg
    obtain⟨-,bh,axM,b2⟩:=e4 z (by simpa using by omega) u4;simp only[wN]at b2;rw[aP.Di eh (eH _ (bD u4)),b2]
  ·obtain⟨T,aa,ab,al⟩:=h.jO p Z iH;exact⟨T,aa,ab.app _,by rw[aP.Di eh ab];exact al⟩
def xv.done{ns:List ak}{S:aP}{q:List aP}(aM:q=S::q.flatMap aP.sub)(h:xv ns da qe q 0 eh):mr eh ((eh.length-1)::qe)/\∃ T:aP,T.bs=eh.length-1/\cI eh T/\T.bare eh=S.bare ns:=by
 have ay:=h.len;have ax:0<q.length:=by rw[aM];simp
 refine⟨?_,?_⟩
 ·have az:=h.EU;have e:fl q 0-0=1:=by unfold fl;simp
  rw[e]at az;have bc:da+q.length-1-(0+0)=eh.length-1:=by omega
  simpa[bc,ay]using az
 ·obtain⟨T,aa,ab,al⟩:=h.jO 0 (cf _) ax;refine⟨T,Z,ab,?_⟩;rw[al];congr 1;have:=congrArg (λl:List aP=>l[0]?) aM;rw[du ax]at this;exact eX this
def lq:a4:=⟨⟨#[]⟩,⟨[],none,0,0,0⟩⟩
def aen:∀ (ds ds':List a4) (a7:List (ByteArray×Int)) (i:Nat),ds.map a4.name=ds'.map a4.name->oq a7 i ds=oq a7 i ds'
 |[],[],_,_,_=>rfl| [],_::_,_,_,h=>by simp at h
 |_::_,[],_,_,h=>by simp at h
 |d::ds,d'::ds',a7,i,h=>by rw[ch,ch,wF]at h;rw[oq,oq,h.1,aen ds ds' _ _ h.2]
def eQ(ds:List a4)(u:Nat)(y:bf):List a4:=ds.set u ⟨(ds.getD u lq).name,y⟩
def r8(ds:List a4)(u:Nat)(y:bf):(eQ ds u y).length=ds.length:=by simp[eQ]
def aeo(ds:List a4)(u:Nat)(y:bf):(eQ ds u y).map a4.name=ds.map a4.name:=by
 unfold eQ;rw[qx];refine zB λi=>?_;rw[iq];split
 ·rename_i h;subst h;rw[bA,jJ];by_cases h:u<ds.length
  ·simp[h,bP]
  ·simp[h]
 ·rfl
def T6(ds:List a4)(u:Nat)(y:bf):bL (eQ ds u y)=bL ds:=aen _ _ _ _ (aeo ds u y)
def T7{ds:List a4}{y:bf}(h:i≠u):(eQ ds u y)[i]?=ds[i]?:=by unfold eQ;rw[iq,bK (λe=>h e.symm)]
def Nx{ds:List a4}{y:bf}(h:u<ds.length):(eQ ds u y)[u]?=some ⟨ds[u].name,y⟩:=by unfold eQ;rw[iq,bY rfl,bY h];simp[bP,h]
def aep{d:a4}(ag:right d.t=true):iZ pl F d=(uh pl F d.t).1.1:=(aqA ag).symm
def aeq(ag:right t=true):(uh pl F t).1=gF pl F t.ns t.bp:=by obtain⟨gH,fT⟩:=kh ag;obtain⟨r,dD⟩:=dZ gH;rw[adi,dD,MH ag (r+1) r Z Z]
section
end
inductive q1:aU->Prop
 |mk{d:ak}{ks:List aU}:(d.k=4\/d.k=5->∀ c∈ks,c.d.k≠d.k/\¬ (c.d.k=0/\d.k=4))->(∀ c∈ks,q1 c)->q1 (.mk d ks)
def q1.inv{d:ak}{ks:List aU}(h:q1 (.mk d ks)):(d.k=4\/d.k=5->∀ c∈ks,c.d.k≠d.k/\¬ (c.d.k=0/\d.k=4))/\∀ c∈ks,q1 c:=by
 cases h with
 |mk aa ab=>exact⟨aa,ab⟩
inductive xw:aU->Prop
 |mk{d:ak}{ks:List aU}:(d.k=4->∀ c∈ks,c.d.k≠0)->(∀ c∈ks,xw c)->xw (.mk d ks)
def xw.inv{d:ak}{ks:List aU}(h:xw (.mk d ks)):(d.k=4->∀ c∈ks,c.d.k≠0)/\∀ c∈ks,xw c:=by
 cases h with
 |mk aa ab=>exact⟨aa,ab⟩
def asg{d:ak}{x:aU}(h:ku d x=true)(aL:d.k=4):x.d.k≠0:=by unfold ku at h;intro ax;rw[hM aL,hM ax]at h;cases h
def ash{d:ak}{xs:List aU}(ae:∀ x∈xs,xw x):xw (n6 d xs):=by
 rw[Jw];split
 ·have aw:∀ y∈xs.filter (ku d),xw y/\(d.k=4->y.d.k≠0):=λy aF=>⟨ae y (n8.1 aF).1,asg (n8.1 aF).2⟩;generalize xs.filter (ku d)=bn at aw
  match bn,aw with
  |[],_=>exact .mk (λ_ c ar=>by cases ar) λc ar=>by cases ar
  |[y],aw=>exact(aw y (.head _)).1| Jy::Jz::l,aw=>exact .mk (λaL c ar=>(aw c ar).2 aL) λc ar=>(aw c ar).1
 ·rename_i gM;exact .mk (λaL=>absurd (.inl aL) gM) ae
def asi:∀ (T:aU),xw (T.fold n6):=by
 intro T
 induction T using aU.ind with
 |h d ks aX=>rw[aU.fold_eq];refine ash λx ae=>?_;obtain⟨c,ar,rfl⟩:=c6.1 ae;exact aX c ar
def asj:∀ {T:aU},xw T->q1 T.bw/\∀ b3,∀ U∈T.ga b3,q1 U/\some U.d.k≠b3/\(b3=some 4->T.d.k≠0->U.d.k≠0):=by
 intro T
 induction T using aU.ind with
 |h d ks aX=>
  intro h;obtain⟨ax,af⟩:=h.inv;have pC:q1 (aU.mk d ks).bw:=by
   show q1 (.mk d (ks.flatMap (aU.ga (iM d))));refine .mk (λgM U eP=>?_) λU eP=>?_;·obtain⟨c,ar,eP⟩:=hB.1 eP;have e:iM d=some d.k:=bY gM;rw[e]at eP;obtain⟨-,ab,al⟩:=(aX c ar (af c ar)).2 _ U eP;exact⟨λe=>ab (by rw[e]),λe=>al (by rw[e.2]) (ax e.2 c ar) e.1⟩
   ·obtain⟨c,ar,eP⟩:=hB.1 eP;exact((aX c ar (af c ar)).2 _ U eP).1
  refine⟨pC,λb3 U eP=>?_⟩;rw[aU.qZ]at eP;split at eP;·rename_i e;obtain⟨c,ar,eP⟩:=hB.1 eP;obtain⟨aa,ab,al⟩:=(aX c ar (af c ar)).2 _ U eP;refine⟨aa,ab,λdX bH=>al dX (ax ?_ c ar)⟩;rw[dX]at e;exact eX e
  ·rename_i e;rw[ep.1 eP];exact⟨pC,e,λ_ bH=>bH⟩
def asl(T:aU):q1 T.lU:=(asj (asi T)).1
def asm{ns:List ak}{j:Int}(h:j∈eI ns):∃ p,∃ aK:p<ns.length,j∈ns[p].ao:=by unfold eI at h;obtain⟨d,aj,ai⟩:=hB.1 h;obtain⟨p,aK,rfl⟩:=hL aj;exact⟨p,aK,ai⟩
def hg.down(h:hg t){P:Nat->Prop}(ax:∀ r:Nat,t.bp=(r:Int)->P r)(step:∀ p (aK:p<t.ns.length),P p->∀ j:Nat,(j:Int)∈t.ns[p].ao->P j):∀ m j,j<t.ns.length->t.ns.length-j<=m->P j
 |0,j,ai,hm=>absurd hm Z
 |m+1,j,ai,hm=>by
  by_cases e:(j:Int)=t.bp;·exact ax j e.symm
  ·obtain⟨p,aK,r5⟩:=asm ((h.all j ai).2 e);have:=h.ao p aK _ r5;exact step p aK (h.down ax step m p aK Z) j r5
def y6(ag:right t=true){j:Nat}(ai:j<t.ns.length):fs t.ns j=.mk t.ns[j].bare (t.ns[j].ao.map (fs t.ns)):=
 D9 (λd g et h=>by rw[fX h]) ag ai
def aer(ag:right t=true){j:Int}(ax:0<=j)(aa:j<t.ns.length):(fs t.ns j).d.k=iE t.ns j:=by
 obtain⟨q,rfl⟩:=dZ ax;have aM:q<t.ns.length:=by omega
 rw[y6 ag aM];show t.ns[q].k=_;simp[iE,bP,aM]
def T8{ns:List ak}{kind:Int}:∀ {ks:List Int},kJ ns kind ks=true ↔ ∀ k∈ks,iE ns k≠kind/\¬ (iE ns k=0/\kind=4)
 |[]=>by simp[kJ]
 |k::ks=>by
  have aX:=T8 (ns:=ns) (kind:=kind) (ks:=ks);rw[kJ];constructor
  ·intro h;cases ah:decide (iE ns k=kind)||(decide (iE ns k=0)&&decide (kind=4))with
   |true=>rw[ah]at h;cases h
   |false=>
    rw[ah]at h;intro x ae;rcases ez.1 ae with rfl | ae;·simp only[rq,Pw,pN]at ah;exact⟨ah.1,λe=>ah.2.elim (λh=>h e.1) λh=>h e.2⟩
    ·exact aX.1 h x ae
  ·intro h;have aa:=h k (.head _);have ah:(decide (iE ns k=kind)||(decide (iE ns k=0)&&decide (kind=4)))=false:=by rw[fb aa.1,zg,<-Jk];exact fb aa.2
   rw[ah];exact aX.2 λx ae=>h x (.tail _ ae)
def aes{ns:List ak}:∀ {l:List ak},k7 ns l=true ↔ ∀ d∈l,d.k=4\/d.k=5->∀ k∈d.ao,iE ns k≠d.k/\¬ (iE ns k=0/\d.k=4)
 |[]=>by simp[k7]
 |d::l=>by
  have aX:=aes (ns:=ns) (l:=l);rw[k7];by_cases gM:d.k=4\/d.k=5
  ·have ah:(!decide (d.k=4) && !decide (d.k=5))=false:=by
    rcases gM with e | e<;>simp[e]
   rw[ah,cw];constructor
   ·intro h;cases af:kJ ns d.k d.ao with
    |false=>rw[af]at h;cases h
    |true=>
     rw[af]at h;intro x ae;rcases ez.1 ae with rfl | ae;·exact λ_=>T8.1 af
     ·exact aX.1 h x ae
   ·intro h;rw[T8.2 (h d (.head _) gM)];exact aX.2 λx ae=>h x (.tail _ ae)
  ·have ah:(!decide (d.k=4) && !decide (d.k=5))=true:=by rw[fb λe=>gM (.inl e),fb λe=>gM (.inr e)];rfl
   rw[ah,cD,aX];constructor
   ·intro h x ae;rcases ez.1 ae with rfl | ae
    ·exact λe=>absurd e gM
    ·exact h x ae
   ·exact λh x ae=>h x (.tail _ ae)
def T9:normal t=true ↔ right t=true/\q1 (b4 t):=by
 unfold normal;rw[cH];refine and_congr_right λag=>?_;have aZ:=ix.1 ag;rw[aes];constructor
 ·intro h;have key:∀ m j,j<m->j<t.ns.length->q1 (fs t.ns j):=by
   intro m
   induction m with
   |zero=>exact λj h=>absurd h (mO _)
   |succ m aX=>
    intro j ab5 ai;rw[y6 ag ai];refine .mk (λgM c ar=>?_) λc ar=>?_;·obtain⟨k,af,rfl⟩:=c6.1 ar;have eR:=aZ.ao j ai k af;rw[aer ag eR.1 Z];exact h _ (bD ai) gM k af
    ·obtain⟨k,af,rfl⟩:=c6.1 ar;have eR:=aZ.ao j ai k af;obtain⟨q,rfl⟩:=dZ eR.1;exact aX q Z Z
  obtain⟨gH,fT⟩:=aZ.bp;obtain⟨r,dD⟩:=dZ gH;unfold b4;rw[dD];exact key _ r (Bj _) Z
 ·intro h;have key:∀ j,j<t.ns.length->q1 (fs t.ns j):=λj ai=>aZ.down (P:=λj=>q1 (fs t.ns j)) (λr dD=>by rw[<-dD];exact h) (λp aK nh j r5=>av') _ j ai (cf _);intro d aj gM k af;obtain⟨j,ai,rfl⟩:=hL aj;have aa:=key j ai;rw[y6 ag ai]at aa;have ab:=aa.inv.1 gM _ (AW af);have eR:=aZ.ao j ai k af;rw[aer ag eR.1 Z]at ab;exact ab
inductive ih(P:ak->Prop):aU->Prop
 |mk{d:ak}{ks:List aU}:P d->(∀ c∈ks,ih P c)->ih P (.mk d ks)
def ih.inv{P:ak->Prop}{d:ak}{ks:List aU}(h:ih P (.mk d ks)):P d/\∀ c∈ks,ih P c:=by
 cases h with
 |mk aa ab=>exact⟨aa,ab⟩
section
variable{P:ak->Prop}
def aet(ag:right t=true):ih P (b4 t) ↔ ∀ d∈t.ns,P d.bare:=by
 have aZ:=ix.1 ag;constructor
 ·intro h d aj;obtain⟨j,ai,rfl⟩:=hL aj;have aa:=aZ.down (P:=λj=>ih P (fs t.ns j)) (λr dD=>by rw[<-dD];exact h) (λp aK nh j r5=>av') _ j ai (cf _);rw[y6 ag ai]at aa;exact aa.inv.1
 ·intro h;have key:∀ m j,j<m->j<t.ns.length->ih P (fs t.ns j):=by
   intro m
   induction m with
   |zero=>exact λj h=>absurd h (mO _)
   |succ m aX=>intro j ab5 ai;rw[y6 ag ai];refine .mk (h _ (bD ai)) λc ar=>?_;obtain⟨k,af,rfl⟩:=c6.1 ar;have eR:=aZ.ao j ai k af;obtain⟨q,rfl⟩:=dZ eR.1;exact aX q Z Z
  obtain⟨gH,fT⟩:=aZ.bp;obtain⟨r,dD⟩:=dZ gH;unfold b4;rw[dD];exact key _ r (Bj _) Z
def asn(ah:∀ d,P d->P d.bare)(ax:P (nothing 0).bare)(aa:P (nothing 1).bare):∀ {T:aU},ih P T->ih P (T.fold n6):=by
 intro T
 induction T using aU.ind with
 |h d ks aX=>
  intro h;obtain⟨aj,af⟩:=h.inv;rw[aU.fold_eq,Jw];have ae:∀ x∈ks.map (aU.fold n6),ih P x:=λx ae=>by obtain⟨c,ar,rfl⟩:=c6.1 ae;exact aX c ar (af c ar)
  split
  ·rename_i gM;have aw:∀ y∈(ks.map (aU.fold n6)).filter (ku d),ih P y:=λy aF=>ae y (n8.1 aF).1;generalize(ks.map (aU.fold n6)).filter (ku d)=bn at aw
   match bn,aw with
   |[],_=>
    refine .mk ?_ λc ar=>by cases ar
    rcases gM with e | e;·rw[show d.k-4=0 by omega];exact ax
    ·rw[show d.k-4=1 by omega];exact aa
   |[y],aw=>exact aw y (.head _)| Jy::Jz::l,aw=>exact .mk (ah _ aj) aw
  ·exact .mk (ah _ aj) ae
def aso:∀ {T:aU},ih P T->(∀ b3,∀ U∈T.ga b3,ih P U)/\ih P T.bw:=by
 intro T
 induction T using aU.ind with
 |h d ks aX=>
  intro h;obtain⟨aC,af⟩:=h.inv;have pC:ih P (aU.mk d ks).bw:=by show ih P (.mk d (ks.flatMap (aU.ga (iM d))));refine .mk aC λU eP=>?_;obtain⟨c,ar,eP⟩:=hB.1 eP;exact(aX c ar (af c ar)).1 _ U eP
  refine⟨λb3 U eP=>?_,pC⟩;rw[aU.qZ]at eP;split at eP;·obtain⟨c,ar,eP⟩:=hB.1 eP;exact(aX c ar (af c ar)).1 _ U eP
  ·rw[ep.1 eP];exact pC
def T'(ah:∀ d,P d->P d.bare)(ax:P (nothing 0).bare)(aa:P (nothing 1).bare){T:aU}(h:ih P T):ih P T.lU:=(aso (asn ah ax aa h)).2
def aeu{X:aU}(oD:ih P X):∀ (p:List Int) {T:aU},ih P T->ih P (T.put p X)
 |[],T,h=>oD
 |i::p,.mk d ks,h=>by
  obtain⟨aj,af⟩:=h.inv;rw[aU.put];show ih P (aU.mk d (ks.set i.toNat ((ks.getD i.toNat (.mk d ks)).put p X)));refine .mk aj λc ar=>?_;rcases sD ar with ar | rfl;·exact af c ar
  ·refine aeu oD p ?_;rw[bP];cases e:ks[i.toNat]? with
   |none=>exact h| some c=>exact af c (sg e)
end
def Ua(nm:ByteArray):∀ (ds ds':List a4) (i:Nat),ds.map a4.name=ds'.map a4.name->eT nm ds i=eT nm ds' i
 |[],[],_,_=>rfl| [],_::_,_,h=>by simp at h
 |_::_,[],_,h=>by simp at h
 |d::ds,d'::ds',i,h=>by rw[ch,ch,wF]at h;rw[eT,eT,h.1,Ua nm ds ds' _ h.2]
def A4(ds:List a4)(d:ak):Prop:=d.k=3->0<=eT d.t ds 0
def asp{g:cR}(ib:g.ds.length=g.n)(hm:ea aB g=0)(hu:u<g.ds.length){y:bf}(aF:normal y=true)(aE:∀ d∈y.ns,A4 g.ds d){h:cR}(s6:h.n=g.n)(ar:h.ds.map a4.aW=(eQ g.ds u y).map a4.aW) :
  ea aB h=0\/ea aB h=40:=by
 have aN:ea aB h=ea aB (r1 (eQ g.ds u y)):=by rw[<-CA,<-CA aB (r1 _)];congr 1;unfold cR.aW r1;rw[ar,s6,r8,ib]
 rw[aN];obtain⟨aa,ab,al,aL,bB⟩:=Ji.1 hm;have ay:=r8 g.ds u y;have kY:=aeo g.ds u y;have jD:∀ d∈eQ g.ds u y,d∈g.ds\/d=⟨g.ds[u].name,y⟩:=λd aj=>by
  obtain⟨i,hi,rfl⟩:=hL aj;by_cases e:i=u;·subst e;have al:=Nx (y:=y) hu;rw[du hi]at al;exact .inr (eX al)
  ·have al:=T7 (ds:=g.ds) (y:=y) e;rw[du hi,du Z]at al;rw[eX al];exact .inl (bD _)
 have bl:=fV.1 ab;have ui:om (eQ g.ds u y)=true:=fV.2 λd aj=>by
  rcases jD d aj with h | rfl;·exact bl d h
  ·have:=bl _ (bD hu);rw[cH]at this |-;exact⟨this.1,aF⟩
 have e8:(List.range (eQ g.ds u y).length).all (p' (eQ g.ds u y))=true:=fV.2 λi hi=>by
  rw[kx,ay]at hi;have cA:=aL i hi;unfold p' at cA |-;have bc:((eQ g.ds u y)[i]' Z).name=g.ds[i].name:=by
   have eB:((eQ g.ds u y).map a4.name)[i]?=(g.ds.map a4.name)[i]?:=by rw[kY]
   rw[jJ,jJ,du Z,du hi]at eB;exact eX eB
  rw[du hi]at cA;rw[du Z];show decide (eT ((eQ g.ds u y)[i]' Z).name _ 0=_)=true;rw[bc,Ua _ _ _ _ kY];exact cA
 have fS:((eQ g.ds u y).all λd=>d.t.ns.all (yP (eQ g.ds u y)))=true:=fV.2 λd aj=>fV.2 λn xR=>by
  unfold yP;rw[Ua _ _ _ _ kY];have:A4 g.ds n:=by
   rcases jD d aj with h | rfl;·exact bB d h n xR
   ·exact aE n xR
  by_cases e:n.k=3;·rw[hM (this e),Li]
  ·rw[fb e];rfl
 rw[<-abZ];unfold MB;have asq:om (r1 (eQ g.ds u y)).ds=true:=ui;have asr:(List.range (r1 (eQ g.ds u y)).ds.length).all (p' (r1 (eQ g.ds u y)).ds)=true:=e8;have ass:((r1 (eQ g.ds u y)).ds.all λd=>d.t.ns.all (yP (r1 (eQ g.ds u y)).ds))=true:=fS;rw[asq,asr,ass,fb (by show ¬ (((eQ g.ds u y).length:Nat):Int)=0;omega)];cases pZ aB (r1 (eQ g.ds u y))with
 |true=>exact .inr rfl| false=>exact .inl rfl
def ast(n b:Nat):Value:=.slice (some ⟨b,0,none⟩) n n
def asu(n:Nat)(cE:List Nat):List Value:=cE.map (ast n)++List.replicate (n-cE.length) (.slice none 0 0)
def lp(od n:Nat)(cE:List Nat):aD:=⟨od,.cells (asu n cE).toArray 189 (0,0)⟩
section
end
def uj(x:Nat×Int):List Value:=[.int .i64 x.1,.int .i64 x.2]
structure asv(t:bf)(T:aP)(path:List Int)(x:Nat×aO×List (Nat×Int)×aP):Prop where
 hi:x.1<=path.length
 os:x.2.1.ok 2 (x.2.2.1.flatMap uj)
 len:x.2.2.1.length=x.1
 pD:x.2.2.1++x.2.2.2.pD (path.drop x.1)=T.pD path
 go:x.2.2.2.go (path.drop x.1)=T.go path
 bF:cI t.ns x.2.2.2
 I3:x.1+x.2.2.2.bs<=T.bs
def asw(T:aP)(path:List Int)(I:aI)(v:Value)(I':aI)(M':List aD):Prop:=I'=I/\∃ (os:aO) (l:List (Nat×Int)) (k:Nat) (b:Bool),v=.tuple #[os.val,.int .i64 k,.bool b]/\M'=os.aq 296/\os.ok 2 (l.flatMap uj) /\
 match T.go path with
 |none=>b=false| some S=>b=true/\k=S.bs/\l=T.pD path/\l.length<=T.bs
def asx(au:t.ok I)(af:r2 t.ns){T:aP}(bm:cI t.ns T)(pS:t.bp=(T.bs:Int))(aE:t.n<=1099511627776){pa:Option Addr}{pn pc:Nat}{path:List Int}(aK:cZ I pa pn pc 1 8 (path.map (.int .i64 ·))) :
  Spec Tryz.prog 214 [t.val,.slice pa pn pc] I [] (asw T path I):=by
 refine bR [] aT Tryz.func214 rfl rfl rfl ?_;intro B ax;have gu:=au.n;have rD:path.length=pn:=by have:=aK.len;simpa using this
 have u':cZ I pa pn pc 1 8 (path.flatMap iK):=by rw[oA];exact aK
 have asy:=bm.nz;refine c2.inv (ι:=Nat×aO×List (Nat×Int)×aP) (λx=>{ bn:=[(2,.ref 2 0),(7,.val x.2.1.val),(8,.val (.int .i64 x.2.2.2.bs)),(14,.val (.slice pa pn pc)),(15,.val (.int .i64 pn)),(16,.val (.int .i64 x.1))],cl:=[(2,t.cells)],cm:=I,cK:=x.2.1.aq 296 }) (asv t T path) (λx=>path.length-x.1) ?_ ?_
 ·refine⟨(0,gV,[],T),⟨dh _,jt 2,rfl,rfl,rfl,bm,ce⟩,.refl,.cons .refl (.cons .refl (.cons ?_ (e2))),.cons rfl (.nil)⟩;simp only;rw[<-pS];exact .refl
 rintro⟨i,os,l,S⟩⟨hi,bV,oa,A5,fy,fa,jE⟩;simp only at hi bV oa A5 fy fa jE;have gK:os.n=i:=by have:=bV.len;rw[gz uj 2 (λ_=>rfl),oa]at this;omega
 have qf:=fa.nz;refine aS.mk (λh=>?_) (λh=>?_)
 ·have aV:i<path.length:=by have:(i:Int)<(pn:Int):=cv h;omega
  have lp:path.drop i=path[i]::path.drop (i+1):=e9 aV;rw[lp]at A5 fy;obtain⟨asz,ad6,qh⟩:=u'.row (f:=iK) (λ_=>rfl) (j:=i) Z aV;obtain⟨k8,k9,hv⟩:=au.a'.row ak.cq (j:=S.bs) Z qf;have aj:=au.ns _ (bD qf);have eH:=fa.AY;rw[fw qf]at eH;generalize t.ns[S.bs]=d at aj hv eH;have eF:=aj.aA;have cL:d.ao.length=S.sub.length:=by rw[eH];simp[e7]
  generalize su:path[i]=k4 at qh A5 fy;refine bi.mk asz i ad6 rfl Z ?_;refine aJ.mk _ (qh _) ?_;refine bi.mk k8 S.bs k9 rfl Z ?_;refine aJ.mk _ ((hv _).part (k:=8) (m:=1) bv) ?_;refine bZ.mk (λaL=>?_) (λaL=>?_)
  ·have asA:0<=k4:=by have:¬ k4<0:=db aL;omega
   refine aS.mk (λbB=>?_) (λbB=>?_);·have cM:(d.aA:Int)<=k4:=cv bB;refine⟨_,_,.sub (eY _) .refl,rfl,gV,[],0,false,rfl,rfl,jt 2,?_⟩;rw[<-fy,aP.go,bK Z]
   ·have aev:k4<(d.aA:Int):=by have:¬ (d.aA:Int)<=k4:=db bB;omega
    obtain⟨z,rfl⟩:=dZ asA;have bg:z<S.sub.length:=by omega
    have rv:S.sub.getD z S=S.sub[z]:=by simp[bP,bg]
    rw[aP.go,bY Z,h2,rv]at fy;rw[aP.pD,h2,rv]at A5;have asB:d.ao[z]' Z=((S.sub[z]).bs:Int):=by
     have:d.ao[z]?=(e7 S.sub)[z]?:=by rw[eH]
     rw[du Z]at this;unfold e7 at this;rw[jJ,du bg]at this;exact eX this
    have Nl:(S.sub[z]).bs<S.bs:=by
     cases S with
     |mk k ks=>exact fa.TJ af (bD bg)
    have Dj:cZ I d.bX d.aA d.b5 1 8 (d.ao.flatMap iK):=by rw[oA];exact aj.a'
    obtain⟨fq,eN,eL⟩:=Dj.row (f:=iK) (λ_=>rfl) (j:=z) Z Z;rw[asB]at eL;refine bN.mk λb9 kI r3=>?_;refine bz.lh aT rfl am (e:=296) rfl rfl rfl os bV rfl (cs:=[.int .i64 S.bs,.int .i64 z]) rfl rfl rfl [] [] (by simp;rfl) Z (by show(os.n+1)*16<=_;omega) ?_;intro hD aa ab al;refine bi.mk fq z eN rfl Z ?_;refine aJ.mk _ (eL _) ?_;refine a3.mk _ (cC (i:=i) Z) ?_;refine⟨(i+1,hD,l++[(S.bs,(z:Int))],S.sub[z]),⟨⟨aV,?_,by simp[oa],?_,fy,fa.AZ _ (bD bg),ce⟩,ce⟩,.mc am,uF,.cons rfl (.nil)⟩;·rw[fL];exact al
    ·rw[ej];exact A5
  ·have axN:k4<0:=cv aL;refine⟨_,_,.sub (eY _) .refl,rfl,gV,[],0,false,rfl,rfl,jt 2,?_⟩;rw[<-fy,aP.go,bK Z]
 ·have cM:i=path.length:=by have:¬ (i:Int)<(pn:Int):=db h;omega
  subst cM;rw[KV]at A5 fy;refine⟨_,_,.refl,rfl,os,l,S.bs,true,rfl,rfl,bV,?_⟩;rw[<-fy];rw[aP.pD,dE]at A5;exact⟨rfl,rfl,A5,Z⟩
end Go.V
