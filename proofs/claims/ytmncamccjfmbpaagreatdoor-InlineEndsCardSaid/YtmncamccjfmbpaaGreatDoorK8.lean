/- Part 8 of what the proofs of this seat share: the executor, data in memory, walks.
-/
import Derived.Test.YtmncamccjfmbpaaGreatDoorK7
import Derived.Test.YtmncamccjfmbpaaGreatDoorK5
import Derived.Test.YtmncamccjfmbpaaGreatDoorK2
import Derived.Test.YtmncamccjfmbpaaGreatDoorK4
set_option linter.all false
set_option maxHeartbeats 8000000
set_option maxRecDepth 100000
namespace Go.V
open Go
def te:=@List.map_singleton
def y3:=@List.mem_map_of_mem
def Dn:=@List.flatMap_assoc
def ND:=@List.perm_ext_iff_of_nodup
def T5:=@List.count_eq_zero_of_not_mem
def T6:=@List.append_cancel_left
def NE:=@List.Sublist.refl
def T7:=@List.Perm.append_left
def adf:=@List.eq_nil_iff_forall_not_mem
def FU:=@List.map_id
def NF:=@List.any_cons
def T8:=@List.map_reverse
variable{pl:List (ByteArray×Int)}{F dr:List aW}{jB dQ ds':List ap}{i n e c' c cS u:Nat}{l bk qn lO:List Nat}{α:Type}{K:dD->aM->List aE->Prop}{s:Operand}{t:bP}{c7 aI:dH}{xs ch:List Value}{aU:Addr}{Mr M:List aE}{r:Int}{I J:aM}{a:Option Addr}{ks al:List Int}{os:aY}{sf:Bool}
structure T9{α:Type}(F:ap->List α->α):Prop where
 aw:∀ d l,F (d.eQ l)=F d
 one:∀ d x,d.k=4\/d.k=5->F d [x]=x
 nest:∀ d gO xs ys e',d.k=4\/d.k=5->gO.k=d.k->F d (xs++F gO ys::e')=F d (xs++(ys++e'))
 drop:∀ d gO xs e',d.k=4->gO.k=0->F d (xs++F gO []::e')=F d (xs++e')
 aqa:∀ d gO,d.k=4->gO.k=0->F d []=F gO []
 aqb:∀ d gO,d.k=5->gO.k=1->gO.cC=0->gO.s1=0->gO.s2=0->gO.c0=0->F d []=F gO []
def JF(xs ys:List (aW×List Nat)):j3 (xs++ys)=j3 xs++bif xs.all (·.1.z)then j3 ys else []:=by
 induction xs with
 |nil=>rfl
 |cons x xs aF=>
  rw[mF,j3,j3,aF,xI];cases x.1.z<;>simp
def aqc(ks:List aW)(aX:aW×Bool):(ks.foldl ll aX).1.z=(aX.1.z&&ks.all (·.z)):=by
 induction ks generalizing aX with
 |nil=>simp| cons k ks aF=>rw[jE,aF,xI];simp[ll,Bool.and_assoc]
def adg(ks:List aW)(aX:aW×Bool):(ks.foldl ll aX).1.s=(aX.1.s||ks.any (·.s)):=by
 induction ks generalizing aX with
 |nil=>simp| cons k ks aF=>rw[jE,aF,NF];simp[ll,Bool.or_assoc]
def JG(ks:List aW)(aX:aW×Bool):(ks.foldl ll aX).2=(aX.2&&ks.all (·.kS)):=by
 induction ks generalizing aX with
 |nil=>simp| cons k ks aF=>rw[jE,aF,xI];simp[ll,Bool.and_assoc]
def aqd(ks:List aW):∀ aX:aW×Bool,(ks.foldl ll aX).1.f=(aX.1.f||(aX.2&&(hM ks).1.f)):=by
 unfold hM
 induction ks with
 |nil=>intro aX;simp
 |cons k ks aF=>
  intro aX;rw[jE,jE,aF,aF (ll _ k)];simp only[ll];cases aX.1.f<;>cases aX.2<;>cases k.f<;>cases k.kS<;>simp
def JH(ks:List aW):(hN ks).z=ks.all (·.z):=by show(hM ks).1.z=_;unfold hM;rw[aqc,om]
def T'(ks:List aW):(hN ks).kS=ks.all (·.kS):=by
 have aa:=JH ks;have ab:(hN ks).s=(ks.any (·.s)&&ks.all (·.kS)):=by show((hM ks).1.s&&(hM ks).2)=_;unfold hM;rw[adg,JG,uX,om]
 have aj:(hN ks).kS=((hN ks).z||(hN ks).s):=rfl;rw[aj,aa,ab];clear aa ab aj
 induction ks with
 |nil=>rfl
 |cons k ks aF=>
  rw[xI,NF,xI];have h:k.kS=(k.z||k.s):=rfl;rw[h,<-aF];cases k.z<;>cases k.s<;>cases ks.all (·.z)<;>cases ks.any (·.s)<;>simp_all
def adh(xs ys e':List aW):hN (xs++hN ys::e')=hN (xs++(ys++e')):=by
 have bb:(hN (xs++hN ys::e')).z=(hN (xs++(ys++e'))).z:=by rw[JH,JH];simp[JH]
 have hu:(hM (xs++hN ys::e')).2=(hM (xs++(ys++e'))).2:=by unfold hM;rw[JG,JG];simp[T']
 have aA:(hN (xs++hN ys::e')).f=(hN (xs++(ys++e'))).f:=by
  show(hM _).1.f=(hM _).1.f;have e:∀ a b:List aW,(hM (a++b)).1.f=((hM a).1.f||((hM a).2&&(hM b).1.f)):=by intro a b;show((a++b).foldl ll (⟨true,false,false⟩,true)).1.f=_;rw[r4,aqd];rfl
  have aJ:∀ (y:aW) (b:List aW),(hM (y::b)).1.f=(y.f||(y.kS&&(hM b).1.f)):=by intro y b;have:=e [y] b;rw[r']at this;rw[this];show((false||(true&&y.f))||((true&&y.kS)&&_))=_;rw[uX,om,om]
  rw[e,e xs,aJ,e ys,T'];have a4:(hM ys).2=ys.all (·.kS):=by unfold hM;rw[JG,om]
  rw[a4];rfl
 have au:(hN (xs++hN ys::e')).s=(hN (xs++(ys++e'))).s:=by
  have aa:∀ ks,(hN ks).s=(ks.any (·.s)&&ks.all (·.kS)):=by intro ks;show((hM ks).1.s&&(hM ks).2)=_;unfold hM;rw[adg,JG,uX,om]
  rw[aa,aa];simp only[List.any_append,NF,Ho,xI,T',aa];cases xs.any (·.s)<;>cases ys.any (·.s)<;>cases e'.any (·.s)<;>cases xs.all (·.kS)<;>cases ys.all (·.kS)<;>cases e'.all (·.kS)<;>rfl
 cases a6:hN (xs++hN ys::e');cases ag:hN (xs++(ys++e'));rw[a6,ag]at bb aA au;simp only at bb aA au;rw[bb,aA,au]
def aqe(ks:List aW):∀ f:aW,ks.foldl pq f=pq f (qZ ks):=by
 unfold qZ
 induction ks with
 |nil=>intro f;simp[pq]
 |cons k ks aF=>
  intro f;rw[jE,jE,aF,aF (pq _ k)];simp only[pq,aW.mk.injEq];refine⟨?_,?_,?_⟩<;>cases f.z<;>cases f.s<;>cases f.f<;>cases k.z<;>cases k.s<;>cases k.f<;>simp
def aqf(xs ys e':List aW):qZ (xs++qZ ys::e')=qZ (xs++(ys++e')):=by show(xs++qZ ys::e').foldl pq _=(xs++(ys++e')).foldl pq _;rw[r4,r4,r4,jE,<-aqe ys]
def aqg(x:aW):hN [x]=x:=by cases x with | mk z s f=>cases z<;>cases s<;>cases f<;>rfl
def aqh(x:aW):qZ [x]=x:=by cases x with | mk z s f=>cases z<;>cases s<;>cases f<;>rfl
def aqi{d:ap}(h:d.k=4)(ks:List aW):gW d ks=hN ks:=by unfold gW;simp[h]
def aqj{d:ap}(h:d.k=5)(ks:List aW):gW d ks=qZ ks:=by unfold gW;simp[h]
def Dp{d:ap}(h:d.k=4)(xs:List vS):lZ pl F d xs=((hN (xs.map (·.1.1)),j3 (xs.map (·.1))),xs.any (·.2)):=by unfold lZ q4 kp yW;simp only[aqi h,h,gh];simp;rfl
def JI{d:ap}(h:d.k=5)(xs:List vS):lZ pl F d xs=((qZ (xs.map (·.1.1)),(xs.map (·.1)).flatMap (·.2)),xs.any (·.2)):=by unfold lZ q4 kp yW;simp only[aqj h,h,gh];simp;rfl
def adi{d:ap}(h:d.k=0):lZ pl F d []=((⟨true,false,false⟩,[]),false):=by unfold lZ q4 kp yW gW;simp[h]
def aqk{d:ap}(h:d.k=1)(az:d.qL=true):lZ pl F d []=((⟨false,false,true⟩,[]),false):=by unfold lZ q4 kp yW gW;simp[h,az]
def aql(pl:List (ByteArray×Int))(F:List aW):T9 (lZ pl F):=by
 refine⟨λd l=>rfl,?_,?_,?_,?_,?_⟩
 ·rintro d x (h | h)
  ·rw[Dp h];simp[aqg,j3]
  ·rw[JI h];simp[aqh]
 ·rintro d gO xs ys e' (h | h) bc
  ·rw[h]at bc;rw[Dp h,Dp h,Dp bc];have e:(xs++((hN (ys.map (·.1.1)),j3 (ys.map (·.1))),ys.any (·.2))::e').map (·.1.1)=xs.map (·.1.1)++hN (ys.map (·.1.1))::e'.map (·.1.1):=by simp
   rw[e,adh];have a4:j3 ((xs++((hN (ys.map (·.1.1)),j3 (ys.map (·.1))),ys.any (·.2))::e').map (·.1))=j3 ((xs++(ys++e')).map (·.1)):=by rw[cP,bX,cP,cP,JF,JF (xs.map _),JF (ys.map _),j3];rw[JH];simp only[L1];rfl
   rw[a4];simp
  ·rw[h]at bc;rw[JI h,JI h,JI bc];have e:(xs++((qZ (ys.map (·.1.1)),(ys.map (·.1)).flatMap (·.2)),ys.any (·.2))::e').map (·.1.1)=xs.map (·.1.1)++qZ (ys.map (·.1.1))::e'.map (·.1.1):=by simp
   rw[e,aqf];simp
 ·rintro d gO xs e' h bc;rw[Dp h,Dp h,adi bc];have e:(xs++((⟨true,false,false⟩,[]),false)::e':List vS).map (·.1.1)=xs.map (·.1.1)++hN []::e'.map (·.1.1):=by simp;rfl
  rw[e,adh];have a4:j3 ((xs++((⟨true,false,false⟩,[]),false)::e':List vS).map (·.1))=j3 ((xs++e').map (·.1)):=by rw[cP,bX,cP,JF,JF,j3];rfl
  rw[a4];simp
 ·rintro d gO h bc;rw[Dp h,adi bc];rfl
 ·rintro d gO h bc az aa ab aj;rw[JI h,aqk bc (by unfold ap.qL;simp[az,aa,ab,aj])];rfl
open Go Go.Proofs
inductive aL where
 |mk:Nat->List aL->aL
namespace aL
def bh:aL->Nat
 |mk k _=>k
def sub:aL->List aL
 |mk _ ks=>ks
mutual
def cG:aL->List Nat
 |mk k ks=>NG ks++[k]
def NG:List aL->List Nat
 |[]=>[]| a::l=>cG a++NG l
end
def adj:∀ l:List aL,NG l=l.flatMap cG
 |[]=>rfl| a::l=>by rw[NG,adj l];rfl
def kY(k:Nat)(ks:List aL):cG (mk k ks)=ks.flatMap cG++[k]:=by rw[cG,adj]
def ind{P:aL->Prop}(h:∀ k ks,(∀ c∈ks,P c)->P (mk k ks)):∀ T,P T
 |mk k ks=>h k ks (λc an=>ind h c)
def FV:∀ T:aL,T.bh∈T.cG
 |mk k ks=>by rw[kY];exact oY _ (.head _)
end aL
inductive cy(ns:List ap):aL->Prop
 |mk {k:Nat} {ks:List aL}:k<ns.length->(nodeAt ns k).aw=ks.map (λc=>(c.bh:Int))->(∀ c∈ks,cy ns c)->cy ns (.mk k ks)
def ss(ns:List ap):Prop:=∀ j (h:j<ns.length),∀ k∈ns[j].aw,0<=k/\k<j
def cy.inv{ns:List ap}{k:Nat}{ks:List aL}(h:cy ns (.mk k ks)):k<ns.length/\(nodeAt ns k).aw=ks.map (λc=>(c.bh:Int))/\∀ c∈ks,cy ns c:=by
 cases h with
 |mk aa ab aj=>exact⟨aa,ab,aj⟩
def cy.mV{ns:List ap}:∀ {T:aL},cy ns T->T.bh<ns.length
 | .mk k ks,h=>h.inv.1
def ss.node{ns:List ap}(ae:ss ns){j:Nat}(ai:j<ns.length){k:Int}(h:k∈(nodeAt ns j).aw):0<=k/\k<j:=by rw[gg ai]at h;exact ae j ai k h
def JJ{α β:Type}{R:α->β->Prop}:∀ {l:List α},(∀ x∈l,∃ y,R x y)->∃ m:List β,m.length=l.length/\∀ i (h:i<l.length) (bc:i<m.length),R l[i] m[i]
 |[],_=>⟨[],rfl,λi h=>absurd h (mS _)⟩
 |x::l,h=>by
  obtain⟨y,aH⟩:=h x (.head _);obtain⟨m,hm,af⟩:=JJ λa a6=>h a (.tail _ a6);refine⟨y::m,by simp[hm],λi hi cZ=>?_⟩;cases i with
  |zero=>exact aH| succ i=>exact af i (by simpa using hi) (by simpa using cZ)
def cy.ex{ns:List ap}(ae:ss ns):∀ k,k<ns.length->∃ T:aL,T.bh=k/\cy ns T:=by
 intro k
 induction k using Nat.strongRecOn with
 |_ k aF=>
  intro ay;obtain⟨ks,aa,ab⟩:=JJ (R:=λ(x:Int) (T:aL)=>(T.bh:Int)=x/\cy ns T) (l:=(nodeAt ns k).aw) λx ad=>by obtain⟨az,aa⟩:=ae.node ay ad;obtain⟨T,bp,dv⟩:=aF x.toNat (by omega) (by omega);exact⟨T,by omega,dv⟩
  refine⟨.mk k ks,rfl,.mk ay ?_ λc an=>?_⟩;·refine lC (by simp[aa]) λi hi cZ=>?_;rw[fr];exact(ab i hi (by omega)).1.symm
  ·obtain⟨i,hi,rfl⟩:=jv an;exact(ab i (by omega) hi).2
def cy.aqm{ns:List ap}:∀ {S:aL},cy ns S->∀ {T:aL},cy ns T->S.bh=T.bh->S=T:=by
 intro S
 induction S using aL.ind with
 |h k ks aF=>
  intro cB T bp e;cases T with
  |mk e9 st=>
  obtain rfl:k=e9:=e;obtain⟨-,ab,aj⟩:=cB.inv;obtain⟨-,ma,pg⟩:=bp.inv;rw[ab]at ma;have ay:ks.length=st.length:=by simpa using congrArg List.length ma
  congr 1;refine lC ay λi hi cZ=>?_;have aG:(ks.map (λc=>(c.bh:Int)))[i]?=(st.map (λc=>(c.bh:Int)))[i]?:=by rw[ma]
  rw[jR,jR,db hi,db cZ]at aG;have bx:(ks[i].bh:Int)=st[i].bh:=fm aG;exact aF _ (bi hi) (aj _ (bi hi)) (pg _ (bi cZ)) (by omega)
def cy.lt{ns:List ap}:∀ {T:aL},cy ns T->∀ x∈T.cG,x<ns.length:=by
 intro T
 induction T using aL.ind with
 |h k ks aF=>
  intro h x ad;obtain⟨aa,-,aj⟩:=h.inv;rw[aL.kY]at ad;rcases cF.1 ad with ad | ad;·obtain⟨c,an,ad⟩:=g6.1 ad;exact aF c an (aj c an) x ad
  ·rw[ec.1 ad];exact aa
def cy.Ua{ns:List ap}(ae:ss ns){k:Nat}{ks:List aL}(h:cy ns (.mk k ks)){c:aL}(an:c∈ks):c.bh<k:=by
 obtain⟨aa,ab,aj⟩:=h.inv;have:(c.bh:Int)∈(nodeAt ns k).aw:=by rw[ab];exact cA.2 ⟨c,an,rfl⟩
 have:=ae.node aa this;omega
def cy.le{ns:List ap}(ae:ss ns):∀ {T:aL},cy ns T->∀ x∈T.cG,x<=T.bh:=by
 intro T
 induction T using aL.ind with
 |h k ks aF=>
  intro h x ad;obtain⟨aa,-,aj⟩:=h.inv;rw[aL.kY]at ad;rcases cF.1 ad with ad | ad;·obtain⟨c,an,ad⟩:=g6.1 ad;have aG:=aF c an (aj c an) x ad;have bx:=h.Ua ae an;show x<=k;omega
  ·rw[ec.1 ad];exact b2 _
def cy.congr{ns:List ap}:∀ {T:aL},cy ns T->(∀ x∈T.cG,x<jB.length/\(nodeAt jB x).aw=(nodeAt ns x).aw)->cy jB T:=by
 intro T
 induction T using aL.ind with
 |h k ks aF=>intro h ad;obtain⟨aa,ab,aj⟩:=h.inv;have eX:=ad k (aL.FV (.mk k ks));refine .mk eX.1 (by rw[eX.2,ab]) λc an=>aF c an (aj c an) λx aqn=>ad x ?_;rw[aL.kY];exact iD _ (g6.2 ⟨c,an,aqn⟩)
def adk{ns m:List ap}{k:Nat}(ae:k<ns.length):nodeAt (ns++m) k=nodeAt ns k:=by unfold nodeAt;rw[bt,bt,rE ae]
def FW{ns:List ap}{d:ap}:nodeAt (ns++[d]) ns.length=d:=by unfold nodeAt;rw[bt,nj (b2 _),p3];rfl
def cy.app{ns:List ap}{T:aL}(h:cy ns T)(m:List ap):cy (ns++m) T:=h.congr λx ad=>by have:=h.lt x ad;exact⟨by rw[b3];omega,by rw[adk this]⟩
def aqo{ns:List ap}(ak:h1 (eT ns)){j:Nat}(hi:i<ns.length)(ai:j<ns.length)(bs:i≠j){k:Int}(aa:k∈(nodeAt ns i).aw)(ab:k∈(nodeAt ns j).aw):False:=by
 rw[gg hi]at aa;rw[gg ai]at ab;have:=(If.1 ak).2;rw[Rd]at this;rcases Nat.lt_or_gt_of_ne bs with h | h
 ·exact this i j hi ai h k aa k ab rfl
 ·exact this j i ai hi h k ab k aa rfl
def adl{ns:List ap}(ak:h1 (eT ns)){j:Nat}(ai:j<ns.length):h1 (nodeAt ns j).aw:=by rw[gg ai];exact(If.1 ak).1 _ (bi ai)
def adm{α:Type}(f g:α->Nat):∀ l:List α,(l.map λx=>f x+g x).sum=(l.map f).sum+(l.map g).sum
 |[]=>rfl| a::l=>by simp only[bX,hI,adm f g l];omega
def adn{α β:Type}(g:β->Nat)(f:α->List β):∀ l:List α,((l.flatMap f).map g).sum=(l.map λa=>((f a).map g).sum).sum
 |[]=>rfl| a::l=>by rw[jT,cP,rZ,adn g f l];rfl
def ado{α:Type}(x:Nat)(f:α->List Nat):∀ l:List α,(l.flatMap f).count x=(l.map λa=>(f a).count x).sum
 |[]=>rfl| a::l=>by rw[jT,List.count_append,ado x f l];rfl
def xq(ns:List ap)(x y:Nat):Nat:=(nodeAt ns y).aw.count (x:Int)
def adp(x:Nat):∀ ks:List aL,(ks.map (λc=>(c.bh:Int))).count (x:Int)=(ks.map λc=>if c.bh=x then 1 else 0).sum
 |[]=>rfl
 |c::ks=>by
  rw[bX,List.count_cons,adp x ks,bX,hI];by_cases e:c.bh=x;·subst e;simp;omega
  ·have:¬ ((c.bh:Int)=x):=by omega
   simp[e,this]
def cy.count{ns:List ap}(x:Nat):∀ {T:aL},cy ns T->T.cG.count x=(if T.bh=x then 1 else 0)+(T.cG.map (xq ns x)).sum:=by
 intro T
 induction T using aL.ind with
 |h k ks aF=>
  intro h;obtain⟨aa,ab,aj⟩:=h.inv;have aJ:(ks.map λc=>c.cG.count x)=ks.map λc=>(if c.bh=x then 1 else 0)+(c.cG.map (xq ns x)).sum:=fO λc an=>aF c an (aj c an);have a4:xq ns x k=(ks.map λc=>if c.bh=x then 1 else 0).sum:=by unfold xq;rw[ab,adp]
  rw[aL.kY,List.count_append,ado,aJ,adm,cP,rZ,adn,te,List.sum_singleton,a4,List.count_singleton];show _+(if k == x then 1 else 0)=(if k=x then 1 else 0)+_;by_cases e:k=x;·simp[e];omega
  ·simp[e];omega
def cy.count_le{ns:List ap}(ae:ss ns)(ak:h1 (eT ns)){T:aL}(h:cy ns T):∀ (m x:Nat),ns.length-x<=m->T.cG.count x<=1
 |0,x,hm=>by
  have:x ∉ T.cG:=λad=>by have:=h.lt x ad;omega
  rw[T5 this];omega
 |m+1,x,hm=>by
  rw[h.count x];by_cases aB:∃ p∈T.cG,(x:Int)∈(nodeAt ns p).aw
  ·obtain⟨p,adq,yh⟩:=aB;have iO:=h.lt p adq;have axp:=h.le ae p adq;have axq:=ae.node iO yh;have e:T.cG.map (xq ns x)=T.cG.map λy=>if y=p then 1 else 0:=fO λy aH=>by
    by_cases e:y=p;·subst e;rw[bN rfl];unfold xq;exact Nat.le_antisymm (List.nodup_iff_count.1 (adl ak iO) _) (List.count_pos_iff.2 yh)
    ·rw[bS e];unfold xq;exact T5 λtx=>aqo ak (h.lt y aH) iO e tx yh
   have a4:∀ l:List Nat,(l.map λy=>if y=p then 1 else 0).sum=l.count p:=λl=>by
    induction l with
    |nil=>rfl
    |cons a l aF=>
     rw[bX,hI,aF,List.count_cons];by_cases e:a=p;·simp[e];omega
     ·simp[e]
   rw[e,a4,bS (by omega),cX];exact cy.count_le ae ak h m p (by omega)
  ·have e:(T.cG.map (xq ns x)).sum=0:=by
    have:∀ l:List Nat,(∀ y∈l,(x:Int) ∉ (nodeAt ns y).aw)->(l.map (xq ns x)).sum=0:=λl=>by
     induction l with
     |nil=>intro _;rfl| cons a l aF=>intro ay;rw[bX,hI,aF λy aH=>ay y (.tail _ aH)];unfold xq;rw[T5 (ay a (.head _))]
    exact this _ λy aH Rl=>aB ⟨y,aH,Rl⟩
   rw[e];split<;>omega
def cy.nodup{ns:List ap}(ae:ss ns)(ak:h1 (eT ns)){T:aL}(h:cy ns T):T.cG.Nodup:=
 List.nodup_iff_count.2 λx=>h.count_le ae ak (ns.length-x) x (b2 _)
def NH(h:l.Nodup)(ay:∀ x∈l,x<n):l.length<=n:=by have ab:=List.Nodup.length_le_of_subset h (l₂:=List.range n) λx ad=>g8.2 (ay x ad);rwa [wU]at ab
def FX{α β:Type}{f g:α->List β}:∀ {l:List α},(∀ c∈l,(f c).Sublist (g c))->(l.flatMap f).Sublist (l.flatMap g)
 |[],_=>.slnil| a::l,h=>by rw[jT,jT];exact(h a (.head _)).append (FX λc an=>h c (.tail _ an))
def gR(d:ap):Option Int:=if d.k=4\/d.k=5 then some d.k else none
namespace aL
section
variable(ns:List ap)
mutual
def pI(cd:Option Int):aL->List aL
 |mk k ks=>if some (nodeAt ns k).k=cd then NI cd ks else [mk k ks]
def NI(cd:Option Int):List aL->List aL
 |[]=>[]| a::l=>pI cd a++NI cd l
end
mutual
def e0(cd:Option Int):aL->List aL
 |mk k ks=>if some (nodeAt ns k).k=cd then vT cd ks else [mk k (vT (gR (nodeAt ns k)) ks)]
def vT(cd:Option Int):List aL->List aL
 |[]=>[]| a::l=>e0 cd a++vT cd l
end
def adr(cd:Option Int):∀ l,NI ns cd l=l.flatMap (pI ns cd)
 |[]=>rfl| a::l=>by rw[NI,adr cd l];rfl
def Dq(cd:Option Int):∀ l,vT ns cd l=l.flatMap (e0 ns cd)
 |[]=>rfl| a::l=>by rw[vT,Dq cd l];rfl
def parts(T:aL):List aL:=T.sub.flatMap (pI ns (gR (nodeAt ns T.bh)))
def bn:aL->aL
 |mk k ks=>mk k (ks.flatMap (e0 ns (gR (nodeAt ns k))))
def y4(cd:Option Int)(k:Nat)(ks:List aL):pI ns cd (mk k ks)=if some (nodeAt ns k).k=cd then ks.flatMap (pI ns cd)else [mk k ks]:=by rw[pI,adr]
def oH(cd:Option Int)(k:Nat)(ks:List aL):e0 ns cd (mk k ks)=if some (nodeAt ns k).k=cd then ks.flatMap (e0 ns cd)else [bn ns (mk k ks)]:=by rw[e0,Dq,Dq];rfl
def ads:∀ T,(bn ns T).bh=T.bh
 |mk k ks=>rfl
def aqp(cd:Option Int):∀ T,(pI ns cd T).map (bn ns)=e0 ns cd T:=by
 intro T
 induction T using aL.ind generalizing cd with
 |h k ks aF=>
  rw[y4,oH];split;·rw[AS];exact se λc an=>aF c an cd
  ·rfl
def adt:∀ T,(bn ns T).sub=(parts ns T).map (bn ns)
 |mk k ks=>by show ks.flatMap _=(ks.flatMap _).map _;rw[AS];exact se λc an=>(aqp ns _ c).symm
def aqq(cd:Option Int):∀ T,((pI ns cd T).flatMap cG).Sublist T.cG:=by
 intro T
 induction T using aL.ind with
 |h k ks aF=>
  rw[y4,kY];split;·rw[Dn];exact(FX λc an=>aF c an).trans (ua _ _)
  ·rw[p7,kY];exact .refl _
def aqr(cd:Option Int):∀ T,((e0 ns cd T).flatMap cG).Sublist T.cG:=by
 intro T
 induction T using aL.ind generalizing cd with
 |h k ks aF=>
  rw[oH,kY];split;·rw[Dn];exact(FX λc an=>aF c an cd).trans (ua _ _)
  ·rw[p7];show((mk k (ks.flatMap (e0 ns _))).cG).Sublist _;rw[kY,Dn];exact(FX λc an=>aF c an _).append (.refl _)
def aqs:∀ T,((bn ns T).cG).Sublist T.cG
 |mk k ks=>by show((mk k (ks.flatMap (e0 ns _))).cG).Sublist _;rw[kY,kY,Dn];exact(FX λc an=>aqr ns _ c).append (.refl _)
def aqt(cd:Option Int):∀ {T},cy jB T->∀ S∈pI ns cd T,cy jB S:=by
 intro T
 induction T using aL.ind with
 |h k ks aF=>
  intro h S cB;rw[y4]at cB;split at cB;·obtain⟨c,an,cB⟩:=g6.1 cB;exact aF c an (h.inv.2.2 c an) S cB
  ·rw[ec.1 cB];exact h
def adu{T:aL}(h:cy ns T):∀ S∈parts ns T,cy ns S:=by
 intro S cB;cases T with
 |mk k ks=>
 obtain⟨c,an,cB⟩:=g6.1 cB;exact aqt ns _ (h.inv.2.2 c an) S cB
def aqu:∀ {T},cy ns T->∀ cd,(∀ S,cy ns S->S.bh∈(e0 ns cd T).flatMap cG->S.bh<jB.length/\(nodeAt jB S.bh).aw=(parts ns S).map λc=>(c.bh:Int))->∀ U∈e0 ns cd T,cy jB U:=by
 intro T
 induction T using aL.ind with
 |h k ks aF=>
  intro h cd H U ef;rw[oH]at ef H;split at ef;·rename_i e;rw[bN e]at H;obtain⟨c,an,ef⟩:=g6.1 ef;refine aF c an (h.inv.2.2 c an) cd (λS cB hm=>H S cB ?_) U ef;rw[Dn];exact g6.2 ⟨c,an,hm⟩
  ·rename_i e;rw[bS e]at H;rw[ec.1 ef];have az:=H (mk k ks) h (by simp;exact FV (bn ns (mk k ks)));have he:=adt ns (mk k ks);refine .mk az.1 ?_ λaqv Ub=>?_
   ·rw[show(aL.mk k ks).bh=k from rfl]at az;rw[az.2];show _=List.map _ (bn ns (mk k ks)).sub;rw[he,gh];exact fO λc an=>by simp[ads]
   ·obtain⟨c,an,Ub⟩:=g6.1 Ub;refine aF c an (h.inv.2.2 c an) _ (λS cB hm=>H S cB ?_) aqv Ub;rw[p7];show S.bh∈(mk k (ks.flatMap (e0 ns _))).cG;rw[kY,Dn];exact iD _ (g6.2 ⟨c,an,hm⟩)
def aqw{T:aL}(h:cy ns T)(H:∀ S,cy ns S->S.bh∈(bn ns T).cG->S.bh<jB.length/\(nodeAt jB S.bh).aw=(parts ns S).map λc=>(c.bh:Int)):cy jB (bn ns T):=by
 cases T with
 |mk k ks=>
 have e:e0 ns none (mk k ks)=[bn ns (mk k ks)]:=by rw[oH,bS (by simp)]
 refine aqu ns h none (λS cB hm=>H S cB ?_) _ (by rw[e];exact .head _);rw[e,p7]at hm;exact hm
end
end aL
inductive aD where
 |mk:ap->List aD->aD
def ap.bare(d:ap):ap:=d.eQ []
def ap.adv(d:ap):d.bare.k=d.k:=rfl
def adw(d:ap):gR d.bare=gR d:=rfl
namespace aD
def d:aD->ap
 |mk d _=>d
def sub:aD->List aD
 |mk _ ks=>ks
def ind{P:aD->Prop}(h:∀ d ks,(∀ c∈ks,P c)->P (mk d ks)):∀ T,P T
 |mk d ks=>h d ks (λc an=>ind h c)
section
variable{α:Type}(F:ap->List α->α)
mutual
def fold:aD->α
 |mk d ks=>F d (NJ ks)
def NJ:List aD->List α
 |[]=>[]| a::l=>fold a::NJ l
end
def adx:∀ l,NJ F l=l.map (fold F)
 |[]=>rfl| a::l=>by rw[NJ,adx l];rfl
def fold_eq(d:ap)(ks:List aD):fold F (mk d ks)=F d (ks.map (fold F)):=by rw[fold,adx]
end
mutual
def e0(cd:Option Int):aD->List aD
 |mk d ks=>if some d.k=cd then vT cd ks else [mk d (vT (gR d) ks)]
def vT(cd:Option Int):List aD->List aD
 |[]=>[]| a::l=>e0 cd a++vT cd l
end
def Dq(cd:Option Int):∀ l,vT cd l=l.flatMap (e0 cd)
 |[]=>rfl| a::l=>by rw[vT,Dq cd l];rfl
def bn:aD->aD
 |mk d ks=>mk d (ks.flatMap (e0 (gR d)))
def oH(cd:Option Int)(d:ap)(ks:List aD):e0 cd (mk d ks)=if some d.k=cd then ks.flatMap (e0 cd)else [bn (mk d ks)]:=by rw[e0,Dq,Dq];rfl
end aD
namespace aL
section
variable(ns:List ap)
mutual
def bare:aL->aD
 |mk k ks=>.mk (nodeAt ns k).bare (NK ks)
def NK:List aL->List aD
 |[]=>[]| a::l=>bare a::NK l
end
def ady:∀ l,NK ns l=l.map (bare ns)
 |[]=>rfl| a::l=>by rw[NK,ady l];rfl
def mo(k:Nat)(ks:List aL):bare ns (mk k ks)=.mk (nodeAt ns k).bare (ks.map (bare ns)):=by rw[bare,ady]
def aqx(cd:Option Int):∀ T,(e0 ns cd T).map (bare ns)=(bare ns T).e0 cd:=by
 intro T
 induction T using aL.ind generalizing cd with
 |h k ks aF=>
  rw[oH,mo,aD.oH,ap.adv];split;·rw[AS,AR];exact se λc an=>aF c an cd
  ·show [bare ns (mk k (ks.flatMap (e0 ns _)))]=[aD.mk _ ((ks.map (bare ns)).flatMap (aD.e0 (gR (nodeAt ns k).bare)))];rw[mo,AS,AR,adw];congr 2;exact se λc an=>aF c an _
def aqy:∀ T,bare ns (bn ns T)=(bare ns T).bn
 |mk k ks=>by show bare ns (mk k (ks.flatMap (e0 ns _)))=_;rw[mo,mo];show _=aD.mk _ ((ks.map (bare ns)).flatMap (aD.e0 (gR (nodeAt ns k).bare)));rw[AS,AR,adw];congr 1;exact se λc an=>aqx ns _ c
def adz:∀ T,(∀ x∈cG T,(nodeAt jB x).bare=(nodeAt ns x).bare)->bare jB T=bare ns T:=by
 intro T
 induction T using aL.ind with
 |h k ks aF=>intro h;rw[mo,mo,h k (FV (mk k ks))];congr 1;refine fO λc an=>aF c an λx ad=>h x ?_;rw[kY];exact iD _ (g6.2 ⟨c,an,ad⟩)
def Dr{T:aL}(h:cy ns T)(m:List ap):bare (ns++m) T=bare ns T:=adz ns T λx ad=>by rw[adk (h.lt x ad)]
end
end aL
def adA{z:α}{F:ap->List α->α}(bG:∀ d l,F (d.eQ l)=F d){ns:List ap}(ae:ss ns):∀ {T:aL},cy ns T->lH z (λd g=>F d (d.aw.map g)) ns T.bh=(T.bare ns).fold F:=by
 intro T
 induction T using aL.ind with
 |h k ks aF=>intro bp;obtain⟨aa,ab,aj⟩:=bp.inv;have h:=PY (z:=z) (f:=λd g=>F d (d.aw.map g)) ns [] k aa;simp only[fs,cX]at h;rw[aL.mo,aD.fold_eq];show(gK z _ ns []).getD (k:Int).toNat z=F ((nodeAt ns k).eQ []) _;rw[bG,bt,gz,h,j',<-gg aa,ab,gh,gh];congr 1;refine fO λc an=>?_;rw[Function.comp,Function.comp,<-aF c an (aj c an)];have:=bp.Ua ae an;unfold lH;rw[bt,bt,lu,bN (by omega)]
section
variable{X:cV}{F:Fr}{C:dF}{I:aM}{M:List aE}{o:Oper}
def qE.adB(aQ:cU X.P X.E){x:Operand}{t:Nat}(aK:o.op=.call { callee:=.builtin .append,args:=#[s,x],argTypes:=#[t,t] })
 (ax:X.E t=some c7) (dT:c7.bM=.slice e) (he:X.E e=some aI)
  (os:aY) (bw:os.ok aI.size xs) (au:bF F s=.val os.val)
 {m:Nat} (ad:bF F x=.val (.slice (some aU) m c')) (hm:0<m) (aC:cO I M aU (m*aI.size) ch) (aa:gA ch=true)
 (a':M.Perm (os.ar e++Mr)) (b1:os.n+m<=maxLen) (bT:(os.n+m)*aI.bytes<=140737488355328)
  (M':aY->List aE) (yL:∀ bu:aY,(bu.ar e++Mr).Perm (M' bu))
  (k:∀ bu:aY,bu.n=os.n+m->(∀ g,bu.a=some g->I g=none/\(os.a=none->g ∉ X.foot))->bu.ok aI.size (xs++ch)->K (.val bu.val) I (M' bu)):qE X o F C I M K:=by
 refine⟨fun β a w Q iH=>?_⟩;have y5:ch.length=m*aI.size:=by obtain⟨_,_,_,_,_,_,h⟩:=aC;exact h
 have fg:∀ w,eF I M w->(Builtin.firstCells aI.size m (.slice (some aU) m c')).run X.P w=.ok ch.toArray w:=λw hw=>by
  obtain⟨dO,cs,T,ao,ff,ah,ay⟩:=aC;refine run_firstCells_some (P:=X.P) w aI.size m aU m c' ch ay λj v ai=>?_;rw[eU _ dO,tw (ff.heap hw)];rw[<-ah,lu]at ai;split at ai;·rw[od]at ai;simpa using ai
  ·cases ai
 have aV:cN X β a w F C I (os.ar e++Mr):=iH.h5 (.perm a' .refl);obtain⟨inf,z,hi,ft,iW,iB,kE⟩:=(aQ _ _ he).inf;obtain⟨gp,jV,kj⟩:=(aQ _ _ ax).fx;have qI:gp=.slice e:=by rw[dT]at kj;cases gp<;>simp_all[fw]
 subst qI;have qH:z.cells.size=inf.size:=by rw[ft,<-(aQ _ _ he).len,<-kE];simp
 have aqz:=bw;rw[<-ft]at bw y5 fg;obtain⟨g,c,aS,w',fj,a8,ba,bR,fq,k9⟩:=PA (P:=X.P) (w:=w) t t o.type e inf z jV jV (λk cQ=>by cases cQ) hi iB qH bw (λg av=>aV.holds.m ⟨g,.cells os.aS.toArray e (0,0)⟩ (by simp[aY.ar,av])) (x:=.slice (some aU) m c') hm y5 (zj aa) (λ_=>rfl) (λw' x9=>fg w' (iH.holds.heap x9)) b1 (by rw[iW];exact bT);rw[ft]at a8 fq y5;have zJ:I g=none:=by
  rcases k9 with⟨av,_⟩ | ⟨rfl,_⟩;·exact aV.holds.d ⟨g,.cells os.aS.toArray e (0,0)⟩ (by simp[aY.ar,av])
  ·cases bz:I w.heap.size with
   |none=>rfl| some nY=>have:=aV.holds.i _ _ bz;simp at this
 have aqA:os.a=none->g ∉ X.foot:=λaz hm=>by
  rcases k9 with⟨av,_⟩ | ⟨rfl,_⟩;·rw[az]at av;cases av
  ·have aa:=aV.fy _ hm;have ab:=aV.sz;omega
 have es:=df aV.ao au;have ex:=df aV.ao ad;have kZ:(⟨some g,os.n+m,c,aS⟩:aY).ok aI.size (xs++ch):=by
  refine⟨?_,(λh=>by cases h),λdM av=>?_⟩;·rw[b3,aqz.len,y5,l8]
  ·cases av;exact⟨a8,ba,bR,fq⟩
 refine jg (by rw[aK];simp) (v:=.slice (some ⟨g,0,none⟩) (os.n+m) c) (w':=w') ?_ ⟨_,.val (.slice (some ⟨g,0,none⟩) (os.n+m) c),I,M' ⟨some g,os.n+m,c,aS⟩,rfl,rfl,?_,k ⟨some g,os.n+m,c,aS⟩ rfl (λdM av=>by cases av;exact⟨zJ,aqA⟩) kZ,rfl⟩
 ·unfold execOp;simp only[aK,resolve,invoke,builtin,ct,c3,bY,sG,bX,hx,es,ex,fj]
 ·refine cN.h5 ?_ (.perm (yL _) .refl);rcases k9 with⟨av,rfl⟩ | ⟨rfl,rfl⟩
  ·have ag:os.ar e=[⟨g,.cells os.aS.toArray e (0,0)⟩]:=by simp[aY.ar,av]
   rw[ag]at aV;exact aV.xQ (a9:=[]) (post:=Mr) rfl
  ·have ab:cN X β a w.drew F C I (os.ar e++Mr):=aV.world rfl;have aj:=ab.oe (.cells aS.toArray e (0,0));refine aj.h5 (.sub ?_ .refl);exact List.Sublist.cons_cons _ (mw _ _)
def qE.aqB(aQ:cU X.P X.E){x:Operand}{t:Nat}(aK:o.op=.call { callee:=.builtin .append,args:=#[s,x],argTypes:=#[t,t] })
 (ax:X.E t=some c7) (dT:c7.bM=.slice e) (he:X.E e=some aI)
  (os:aY) (bw:os.ok aI.size xs) (au:bF F s=.val os.val)
 {m:Nat} (ad:bF F x=.val (.slice (some aU) m c')) (hm:0<m) (aC:cO I M aU (m*aI.size) ch) (aa:gA ch=true)
 (a':M.Perm (os.ar e++Mr)) (b1:os.n+m<=maxLen) (bT:(os.n+m)*aI.bytes<=140737488355328)
  (M':aY->List aE) (yL:∀ bu:aY,(bu.ar e++Mr).Perm (M' bu))
  (k:∀ bu:aY,bu.n=os.n+m->(∀ g,bu.a=some g->I g=none)->bu.ok aI.size (xs++ch)->K (.val bu.val) I (M' bu)):qE X o F C I M K:=
 qE.adB aQ aK ax dT he os bw au ad hm aC aa a' b1 bT M' yL λbu aa ab aj=>k bu aa (λg av=>(ab g av).1) aj
def qE.pw(aQ:cU X.P X.E){x:Operand}{t:Nat}(aK:o.op=.call { callee:=.builtin .append,args:=#[s,x],argTypes:=#[t,t] })
 (ax:X.E t=some c7) (dT:c7.bM=.slice e) (he:X.E e=some aI)
  (os:aY) (bw:os.ok aI.size xs) (au:bF F s=.val os.val)
  {b9:Nat} {cs:List Value} (ad:bF F x=.val (.slice (some ⟨b9,0,none⟩) 1 c')) (ay:cs.length=aI.size) (aa:gA cs=true)
  (a9 post:List aE) (a':M=⟨b9,.cells cs.toArray e (0,0)⟩::(a9++(os.ar e++post))) (b1:os.n+1<=9223372036854775807) (bT:(os.n+1)*aI.bytes<=140737488355328)
  (k:∀ bu:aY,bu.n=os.n+1->(∀ g,bu.a=some g->I g=none)->bu.ok aI.size (xs++cs)->K (.val bu.val) I (⟨b9,.cells cs.toArray e (0,0)⟩::(a9++(bu.ar e++post)))):qE X o F C I M K:=by
 have aB:∀ bu:aY,(bu.ar e++(⟨b9,.cells cs.toArray e (0,0)⟩::(a9++post)):List aE).Perm (⟨b9,.cells cs.toArray e (0,0)⟩::(a9++(bu.ar e++post))):=λbu=>
  mN.trans (.cons _ (Cn _ _ _))
 refine .aqB aQ aK ax dT he os bw au (m:=1) (ch:=cs) ad (by decide) ?_ aa (Mr:=⟨b9,.cells cs.toArray e (0,0)⟩::(a9++post)) ?_ (by unfold maxLen;exact b1) bT _ aB k
 ·rw[o2];refine⟨rfl,_,_,_,.inr ⟨⟨b9,.cells cs.toArray e (0,0)⟩,by rw[a'];exact .head _,rfl,rfl⟩,?_,ay⟩;simp only[wu];exact fN (by omega)
 ·rw[a'];exact(aB os).symm
end
def NL{G F:Fr}{y:Operand}{r:dD}(h:dq G y=dq F y)(bc:bF F y=r):bF G y=r:=by simp only[bF,dC,h];exact bc
structure cp where
 b:Nat
 os:aY
 ds:List ap
def cp.ak(A:cp):aE:=⟨A.b,.cells #[A.os.val] 94 (0,0)⟩
def cp.ar(A:cp):List aE:=A.ak::A.os.ar 66
structure cp.ok(I:aM)(A:cp):Prop where
 os:A.os.ok 9 (A.ds.flatMap ap.cells)
 n:A.os.n=A.ds.length
 ds:∀ d∈A.ds,d.ok I
def cp.ok.mono{I':aM}{A:cp}(h:A.ok I)(bz:∀ b o,I b=some o->I' b=some o):A.ok I':=⟨h.os,h.n,λd ak=>(h.ds d ak).mono bz⟩
def adC{A:cp}(dv:A.ok I)(aC:A.ds.length<=1099511627776){d:ap}(ak:d.ok I) :
  Spec Tryz.prog 163 [ptr A.b,d.val] I A.ar λv I' M'=>v=.int .i64 A.ds.length/\I'=I/\∃ os,M'=cp.ar ⟨A.b,os,A.ds++[d]⟩/\cp.ok I ⟨A.b,os,A.ds++[d]⟩:=by
 refine cg [] a7 Tryz.func163 rfl rfl rfl ?_;intro B az;obtain⟨k,cC,s1,s2,c0,s,lo,hi,dE,aO,du,aw⟩:=d;have bU:=dv.os;have bm:∀ (os:aY) (M:List aE),(⟨A.b,.cells #[os.val] 94 (0,0)⟩:aE)∈M->cO I M ((⟨A.b,0,none⟩:Addr).add 0) 1 [os.val]:=λos M hm=>c5 (cs:=[os.val]) (k:=0) (n:=1) (T:=94) hm (by simp);refine c4.draw a7 rfl rfl rfl ?_;refine aR.mk _ (bm A.os _ (.head _)) ?_;refine b'.mk λb9 lf xr=>?_;intro G jk;refine qE.pw a7 rfl (e:=66) rfl rfl rfl A.os bU (NL (jk _ (by simp[Op.operands,Call.operands])) rfl) (NL (jk _ (by simp[Op.operands,Call.operands])) rfl) (cs:=ap.cells ⟨k,cC,s1,s2,c0,s,lo,hi,dE,aO,du,aw⟩) rfl rfl [A.ak] [] (by rw[ed];rfl) (by have:=dv.n;omega) (by have:=dv.n;show(A.os.n+1)*96<=_;omega) ?_;intro bu aa ab aj;refine b8.mk [_] (bu.ar _++[]) #[A.os.val] 94 rfl rfl (bI rfl) rfl ?_;refine aR.mk _ (bm bu _ (.tail _ (.head _))) ?_;have BX:=dv.n;refine⟨(A.ds.length:Int),?_,?_⟩
 ·rw[wrap_i64 (by unfold iZ;omega)];omega
 refine⟨_,_,.sub (M1:=cp.ar ⟨A.b,bu,A.ds++[⟨k,cC,s1,s2,c0,s,lo,hi,dE,aO,du,aw⟩]⟩) ?_ .refl,rfl,rfl,bu,rfl,?_⟩
 ·show List.Sublist (_::(bu.ar _)) (_::_::(bu.ar _++[]));rw[ed];exact .cons _ (.refl _)
 ·refine⟨?_,?_,λx ad=>?_⟩
  ·rw[hn];simpa using aj
  ·rw[aa,b3,dv.n];rfl
  ·rcases cF.1 ad with ad | ad
   ·exact dv.ds x ad
   ·rw[ec.1 ad];exact ak
def ap.row(d:ap)(a:Option Addr)(n c:Nat)(ks:List Int):ap:=⟨d.k,d.cC,d.s1,d.s2,d.c0,d.t,d.lo,d.hi,a,n,c,ks⟩
def ap.ok.row{d:ap}(h:d.ok I)(af:dh I a n c 1 8 (ks.map (.int .i64 ·)))(ae:∀ x∈ks,iZ x):(d.row a n c ks).ok I:=⟨h.k,h.cC,h.s1,h.s2,h.c0,h.t,h.lo,h.hi,af,ae⟩
def aqC(A:cp)(d:ap)(I:aM)(v:Value)(I':aM)(M':List aE):Prop:=v=.int .i64 A.ds.length/\I'=I/\∃ os,M'=cp.ar ⟨A.b,os,A.ds++[d]⟩/\cp.ok I ⟨A.b,os,A.ds++[d]⟩
def adD{A:cp}(dv:A.ok I)(aC:A.ds.length<=1099511627776){d:ap}(ak:d.ok I)(af:dh I a n c 1 8 (ks.map (.int .i64 ·)))(ae:∀ x∈ks,iZ x) :
  Spec Tryz.prog 110 [ptr A.b,d.val,.slice a n c] I A.ar (aqC A (d.row a n c ks) I):=by
 refine cg [] a7 Tryz.func110 rfl rfl rfl ?_;intro B az;have fD:=ak.row af ae;obtain⟨k,cC,s1,s2,c0,s,lo,hi,dE,aO,du,aw⟩:=d;have dO:=adC dv aC fD;refine bd.mk A.ar [] _ (by rw[ed]) dO ?_;rintro v I' M' -⟨rfl,rfl,os,rfl,h⟩;exact⟨_,_,.sub (M1:=cp.ar ⟨A.b,os,A.ds++[_]⟩) (by simp) .refl,rfl,rfl,os,rfl,h⟩
def pJ(d:ap)(x:ap):Bool:=!decide (d.k=4) || !decide (x.k=0)
def su(A:cp)(d:ap)(os:aY)(p5 p4 p9:Nat):List aE:=⟨p5,.cells d.cells.toArray 66 (0,0)⟩::⟨p4,.cells #[ptr A.b] 98 (0,0)⟩::⟨p9,.cells #[os.val] 55 (0,0)⟩::(os.ar 3++A.ar)
def aqD{A:cp}(dv:A.ok I)(aC:A.ds.length<=1099511627776){d:ap}(ak:d.ok I){l:List Int}(bU:os.ok 1 (l.map (.int .i64 ·)))(ay:os.n<=1099511627776){p5 p4 p9 k:Nat}(ae:k<A.ds.length) :
  Spec Tryz.prog 200 [.int .i64 k,ptr p5,ptr p4,ptr p9] I (su A d os p5 p4 p9) λv I' M'=>I'=I/\∃ bu,M'=su A d bu p5 p4 p9/\bu.ok 1 ((l++bif pJ d A.ds[k]then [(k:Int)]else []).map (.int .i64 ·)):=by
 refine cg [] a7 Tryz.func200 rfl rfl rfl ?_;intro B az;obtain⟨aU,bK,bm⟩:=aY.ok.row (I:=I) (M:=su A d os p5 p4 p9) ap.cT (by decide) dv.os (e:=66) (λx ad=>by simp[su,cp.ar,ad]) (j:=k) ae;obtain⟨di,cC,s1,s2,c0,s,lo,hi,dE,aO,du,aw⟩:=d;refine aR.mk [.int .u8 di] (c5 (cs:=ap.cells ⟨di,cC,s1,s2,c0,s,lo,hi,dE,aO,du,aw⟩) (k:=0) (n:=1) (T:=66) (.head _) (by simp[ap.cells])) ?_;refine cj.mk (λaG=>?_) (λaG=>?_)
 ·have dc:di=4:=by simpa using aG
  refine aR.mk [ptr A.b] (c5 (cs:=[ptr A.b]) (k:=0) (n:=1) (T:=98) (.tail _ (.head _)) (by simp)) ?_;refine aR.mk [A.os.val] (c5 (cs:=[A.os.val]) (k:=0) (n:=1) (T:=94) (by simp[su,cp.ar,cp.ak]) (by simp)) ?_;refine bf.mk aU k bK rfl (by have:=dv.n;omega) ?_;refine aR.mk [.int .u8 A.ds[k].k] (cO.part (k:=0) (m:=1) bm (by decide)) ?_;refine a3.mk (λaz=>?_) (λaz=>?_)
  ·have ae:pJ ⟨di,cC,s1,s2,c0,s,lo,hi,dE,aO,du,aw⟩ A.ds[k]=true:=by unfold pJ;have iG:(!decide (A.ds[k].k=0))=true:=az;rw[iG,ET]
   refine aR.mk [os.val] (c5 (cs:=[os.val]) (k:=0) (n:=1) (T:=55) (.tail _ (.tail _ (.head _))) (by simp)) ?_;refine b'.mk λb9 lf xr=>?_;refine bB.pw a7 rfl (by simp) (e:=3) rfl rfl rfl os bU rfl (cs:=[.int .i64 k]) rfl rfl rfl [_,_,_] A.ar rfl (by omega) (by show(os.n+1)*8<=_;omega) ?_;intro bu aa ab aj;refine b8.mk [_,_] (bu.ar 3++A.ar) #[os.val] 55 rfl rfl (bI rfl) rfl ?_;refine⟨_,_,.refl,rfl,bu,rfl,?_⟩;rw[ae,cP];exact aj
  ·have ae:pJ ⟨di,cC,s1,s2,c0,s,lo,hi,dE,aO,du,aw⟩ A.ds[k]=false:=by unfold pJ;have Cq:(!decide (di=4))=false:=aG;have iG:(!decide (A.ds[k].k=0))=false:=az;rw[Cq,iG];rfl
   refine⟨_,_,.refl,rfl,os,rfl,?_⟩;rw[ae];simpa using bU
 ·have ae:pJ ⟨di,cC,s1,s2,c0,s,lo,hi,dE,aO,du,aw⟩ A.ds[k]=true:=by unfold pJ;have Cq:(!decide (di=4))=true:=aG;rw[Cq,M8]
  refine aR.mk [os.val] (c5 (cs:=[os.val]) (k:=0) (n:=1) (T:=55) (.tail _ (.tail _ (.head _))) (by simp)) ?_;refine b'.mk λb9 lf xr=>?_;refine bB.pw a7 rfl (by simp) (e:=3) rfl rfl rfl os bU rfl (cs:=[.int .i64 k]) rfl rfl rfl [_,_,_] A.ar rfl (by omega) (by show(os.n+1)*8<=_;omega) ?_;intro bu aa ab aj;refine b8.mk [_,_] (bu.ar 3++A.ar) #[os.val] 55 rfl rfl (bI rfl) rfl ?_;refine⟨_,_,.refl,rfl,bu,rfl,?_⟩;rw[ae,cP];exact aj
def uz:ap:=⟨0,0,0,0,0,⟨#[]⟩,0,0,none,0,0,[]⟩
def jQ(d:ap)(ds:List ap)(l:List Nat):List Int:=l.flatMap λk=>bif pJ d (ds.getD k uz)then [(k:Int)]else []
structure aqE(A:cp)(d:ap)(l:List Nat)(x:Nat×aY):Prop where
 i:x.1<=l.length
 os:x.2.ok 1 ((jQ d A.ds (l.take x.1)).map (.int .i64 ·))
def adE{A:cp}(dv:A.ok I)(aC:A.ds.length<=1099511627776){d z:ap}(ak:d.ok I)(bb:z.ok I)(ay:∀ k∈l,k<A.ds.length)(sc:l.length<=1099511627776)(af:dh I a n c 1 8 ((l.map Int.ofNat).map (.int .i64 ·))) :
  Spec Tryz.prog 164 [ptr A.b,d.val,.slice a n c,z.val] I A.ar λv I' M'=>(∀ b o,I b=some o->I' b=some o)/\∃ bu ds' r,M'=cp.ar ⟨A.b,bu,ds'⟩/\cp.ok I' ⟨A.b,bu,ds'⟩/\v=.int .i64 r /\
   ((jQ d A.ds l=[]/\r=(A.ds.length:Int)/\ds'=A.ds++[z])\/(jQ d A.ds l=[r]/\ds'=A.ds)\/(2<=(jQ d A.ds l).length/\r=(A.ds.length:Int)/\∃ bO h2 c',ds'=A.ds++[d.row bO h2 c' (jQ d A.ds l)])):=by
 refine cg [4,5,9] a7 Tryz.func164 rfl rfl rfl ?_;intro B az;obtain⟨di,cC,s1,s2,c0,s,lo,hi,dE,aO,du,aw⟩:=d;obtain⟨aqF,aqG,AA,SE,aqH,e',aqI,aqJ,aqK,aqL,aqM,aqN⟩:=z;refine b'.mk λp4 y6 yR=>?_;refine b'.mk λp5 Uc Ud=>?_;refine b'.mk λp9 axr xr=>?_;have MP:l.length=n:=by have aa:=af.len;simpa using aa
 refine dg.inv (ι:=Nat×aY) (λx=>{ bj:=[(4,.val (ptr p4)),(5,.val (ptr p5)),(7,.ref 7 0),(9,.val (ptr p9)),(10,.val (.func (.func 200) #[] #[ptr p5,ptr p4,ptr p9])),(14,.val (.slice a n c)),(15,.val (.int .i64 n)),(16,.val (.int .i64 x.1))],cl:=[(7,ap.cells ⟨aqF,aqG,AA,SE,aqH,e',aqI,aqJ,aqK,aqL,aqM,aqN⟩)],cI:=I,de:=su A ⟨di,cC,s1,s2,c0,s,lo,hi,dE,aO,du,aw⟩ x.2 p5 p4 p9 }) (aqE A ⟨di,cC,s1,s2,c0,s,lo,hi,dE,aO,du,aw⟩ l) (λx=>l.length-x.1) ?_ ?_
 ·refine⟨(0,⟨none,0,0,[]⟩),⟨dw _,⟨rfl,λ_=>⟨rfl,rfl⟩,λg h=>by cases h⟩⟩,.perm ?_ .refl,k5,.cons rfl (.nil)⟩;exact(mN (l₁:=[_,_])).symm
 ·rintro⟨i,os⟩⟨cZ,bU⟩;simp only at cZ bU;have e6:dh I a n c 1 8 ((l.map Int.ofNat).flatMap kx):=by rw[rh];exact af
  have c1:(jQ ⟨di,cC,s1,s2,c0,s,lo,hi,dE,aO,du,aw⟩ A.ds (l.take i)).length<=i:=by
   refine jf ?_ (B5 i l);generalize l.take i=eB;unfold jQ
   induction eB with
   |nil=>exact b2 _
   |cons x eB aF=>
    rw[jT,b3,c2];have:(bif pJ ⟨di,cC,s1,s2,c0,s,lo,hi,dE,aO,du,aw⟩ (A.ds.getD x uz)then [(x:Int)]else []).length<=1:=by cases pJ ⟨di,cC,s1,s2,c0,s,lo,hi,dE,aO,du,aw⟩ (A.ds.getD x uz)<;>simp
    omega
  have jA:=bU.nt;refine a3.mk (λh=>?_) (λh=>?_)
  ·have a1:(i:Int)<n:=dB h;have dL:i<l.length:=by omega
   obtain⟨aU,bK,bm⟩:=e6.row (f:=kx) (λ_=>rfl) (j:=i) (by omega) (by simpa using dL);rw[fr]at bm;refine bf.mk aU i bK rfl (by omega) ?_;refine aR.mk _ (bm _) ?_;have adF:=ay _ (bi dL);have dO:=aqD (p5:=p5) (p4:=p4) (p9:=p9) dv aC ak bU (by omega) adF;refine bd.mk (su A ⟨di,cC,s1,s2,c0,s,lo,hi,dE,aO,du,aw⟩ os p5 p4 p9) [] _ (by rw[ed]) dO ?_;rintro v I' M' -⟨rfl,bu,rfl,Cl⟩;refine bg.mk ((i+1:Nat):Int) (vp (by simp only;omega) (by omega)) ?_;refine⟨(i+1,bu),⟨⟨by simp only;omega,?_⟩,by simp only;omega⟩,.perm (by rw[ed]) .refl,k5,.cons rfl (.nil)⟩
   ·show bu.ok 1 ((jQ ⟨di,cC,s1,s2,c0,s,lo,hi,dE,aO,du,aw⟩ A.ds (l.take (i+1))).map (.int .i64 ·));have e:jQ ⟨di,cC,s1,s2,c0,s,lo,hi,dE,aO,du,aw⟩ A.ds (l.take (i+1))=jQ ⟨di,cC,s1,s2,c0,s,lo,hi,dE,aO,du,aw⟩ A.ds (l.take i)++bif pJ ⟨di,cC,s1,s2,c0,s,lo,hi,dE,aO,du,aw⟩ A.ds[l[i]]then [((l[i]:Nat):Int)]else []:=by unfold jQ;rw[gy dL,hn];congr 1;simp[bt,adF]
    rw[e];exact Cl
  ·have cJ:¬ (i:Int)<n:=eu h;obtain rfl:i=l.length:=by omega
   rw[D']at bU c1 jA;refine aR.mk [os.val] (c5 (cs:=[os.val]) (k:=0) (n:=1) (T:=55) (.tail _ (.tail _ (.head _))) (by simp)) ?_;have mQ:(su A ⟨di,cC,s1,s2,c0,s,lo,hi,dE,aO,du,aw⟩ os p5 p4 p9).Perm (A.ar++([⟨p5,.cells (ap.cells ⟨di,cC,s1,s2,c0,s,lo,hi,dE,aO,du,aw⟩).toArray 66 (0,0)⟩,⟨p4,.cells #[ptr A.b] 98 (0,0)⟩,⟨p9,.cells #[os.val] 55 (0,0)⟩]++os.ar 3)):=by
    have:su A ⟨di,cC,s1,s2,c0,s,lo,hi,dE,aO,du,aw⟩ os p5 p4 p9=([⟨p5,.cells (ap.cells ⟨di,cC,s1,s2,c0,s,lo,hi,dE,aO,du,aw⟩).toArray 66 (0,0)⟩,⟨p4,.cells #[ptr A.b] 98 (0,0)⟩,⟨p9,.cells #[os.val] 55 (0,0)⟩]++os.ar 3)++A.ar:=by simp[su]
    rw[this];exact eI
   refine a3.mk (λaz=>?_) (λaz=>?_)
   ·have dd:os.n=0:=by simpa using az
    refine aR.mk [ptr A.b] (c5 (cs:=[ptr A.b]) (k:=0) (n:=1) (T:=98) (.tail _ (.head _)) (by simp)) ?_;refine bd.mk A.ar _ _ mQ (adC dv aC bb) ?_;rintro v I' M' -⟨rfl,rfl,kq,rfl,bw⟩;exact⟨_,_,.sub (ua _ _) .refl,λ_ _ h=>h,kq,_,_,rfl,bw,rfl,.inl ⟨iq (by omega),rfl,rfl⟩⟩
   ·refine a3.mk (λaa=>?_) (λaa=>?_)
    ·have aJ:os.n=1:=by
      have:(os.n:Int)=1:=by simpa using aa
      omega
     have x8:(jQ ⟨di,cC,s1,s2,c0,s,lo,hi,dE,aO,du,aw⟩ A.ds l).length=1:=by omega
     obtain⟨r,hU⟩:=List.length_eq_one_iff.1 x8;refine aR.mk [os.val] (c5 (cs:=[os.val]) (k:=0) (n:=1) (T:=55) (.tail _ (.tail _ (.head _))) (by simp)) ?_;rw[<-rh]at bU;obtain⟨aU,bK,bm⟩:=aY.ok.row (I:=I) (M:=su A ⟨di,cC,s1,s2,c0,s,lo,hi,dE,aO,du,aw⟩ os p5 p4 p9) (e:=3) (f:=kx) (size:=1) (λ_=>rfl) (by decide) bU (λx ad=>by simp[su,ad]) (j:=0) (by omega);refine bf.mk aU 0 bK rfl (by omega) ?_;refine aR.mk _ bm ?_;refine⟨_,_,.sub (M1:=A.ar) (.cons _ (.cons _ (.cons _ (mw _ _)))) .refl,λ_ _ h=>h,A.os,A.ds,r,rfl,dv,?_,.inr (.inl ⟨hU,rfl⟩)⟩;simp[hU];rfl
    ·refine aR.mk [ptr A.b] (c5 (cs:=[ptr A.b]) (k:=0) (n:=1) (T:=98) (.tail _ (.head _)) (by simp)) ?_;refine aR.mk (ap.cells ⟨di,cC,s1,s2,c0,s,lo,hi,dE,aO,du,aw⟩) (c5 (cs:=ap.cells ⟨di,cC,s1,s2,c0,s,lo,hi,dE,aO,du,aw⟩) (k:=0) (n:=9) (T:=66) (.head _) (by simp[ap.cells])) ?_;refine aR.mk [os.val] (c5 (cs:=[os.val]) (k:=0) (n:=1) (T:=55) (.tail _ (.tail _ (.head _))) (by simp)) ?_;have iG:¬ os.n=0:=λe=>by have ab:decide ((os.n:Int)=0)=false:=az;simp[e]at ab
     have tO:¬ os.n=1:=λe=>by have ab:decide ((os.n:Int)=1)=false:=aa;simp[e]at ab
     refine bd.GD λfJ=>?_;have lr:(su A ⟨di,cC,s1,s2,c0,s,lo,hi,dE,aO,du,aw⟩ os p5 p4 p9).Perm (os.ar 3++(A.ar++[⟨p5,.cells (ap.cells ⟨di,cC,s1,s2,c0,s,lo,hi,dE,aO,du,aw⟩).toArray 66 (0,0)⟩,⟨p4,.cells #[ptr A.b] 98 (0,0)⟩,⟨p9,.cells #[os.val] 55 (0,0)⟩])):=by have e:su A ⟨di,cC,s1,s2,c0,s,lo,hi,dE,aO,du,aw⟩ os p5 p4 p9=[⟨p5,.cells (ap.cells ⟨di,cC,s1,s2,c0,s,lo,hi,dE,aO,du,aw⟩).toArray 66 (0,0)⟩,⟨p4,.cells #[ptr A.b] 98 (0,0)⟩,⟨p9,.cells #[os.val] 55 (0,0)⟩]++(os.ar 3++A.ar):=rfl;rw[e,<-dY (os.ar 3)];exact eI
     have av:∀ g,os.a=some g->I g=none/\g ∉ A.ar.map (·.num):=λg av=>by
      have ag:os.ar 3=[⟨g,.cells os.aS.toArray 3 (0,0)⟩]:=by unfold aY.ar;rw[av]
      have bH:=(lr.map (·.num)).nodup_iff.1 fJ.ca;rw[ag]at bH lr;refine⟨fJ.d _ (lr.mem_iff.2 (.head _)),λhm=>?_⟩;rw[cP]at bH;simp only[bX,hx,r',l5,cP]at bH;exact bH.1 (iD _ hm)
     obtain⟨dz,hw,et,ei,-⟩:=aY.Ad (b:=8) bU (by omega) av (A.ar++[⟨p5,.cells (ap.cells ⟨di,cC,s1,s2,c0,s,lo,hi,dE,aO,du,aw⟩).toArray 66 (0,0)⟩,⟨p4,.cells #[ptr A.b] 98 (0,0)⟩,⟨p9,.cells #[os.val] 55 (0,0)⟩]);have Tt:∀ x∈jQ ⟨di,cC,s1,s2,c0,s,lo,hi,dE,aO,du,aw⟩ A.ds l,iZ x:=λx ad=>by
      obtain⟨k,ae,ad⟩:=g6.1 ad;have:=ay k ae;cases aN:pJ ⟨di,cC,s1,s2,c0,s,lo,hi,dE,aO,du,aw⟩ (A.ds.getD k uz)with
      |false=>rw[aN]at ad;cases ad| true=>rw[aN]at ad;rw[ec.1 ad];unfold iZ;omega
     have dO:=adD (dv.mono et) aC (ak.mono et) ei Tt;refine bd.DX dz A.ar [⟨p5,.cells (ap.cells ⟨di,cC,s1,s2,c0,s,lo,hi,dE,aO,du,aw⟩).toArray 66 (0,0)⟩,⟨p4,.cells #[ptr A.b] 98 (0,0)⟩,⟨p9,.cells #[os.val] 55 (0,0)⟩] _ (.perm lr (hw _ _ .refl)) dO ?_;rintro v I' M' bq -⟨rfl,rfl,kq,rfl,bw⟩;exact⟨_,_,.sub (ua _ _) .refl,et,kq,_,_,rfl,bw,rfl,.inr (.inr ⟨by omega,rfl,_,_,_,rfl⟩)⟩
namespace aD
mutual
def post:aD->List ap
 |mk d ks=>wP d (NM ks)
def NM:List aD->List (List ap)
 |[]=>[]| a::l=>post a::NM l
end
def adG:∀ l,NM l=l.map post
 |[]=>rfl| a::l=>by rw[NM,adG l];rfl
def qa(d:ap)(ks:List aD):post (mk d ks)=wP d (ks.map post):=by rw[post,adG]
end aD
inductive fG:aD->Prop
 |mk{d:ap}{ks:List aD}:fits d ks.length=true->(∀ c∈ks,fG c)->fG (.mk d ks)
def fG.inv{d:ap}{ks:List aD}(h:fG (.mk d ks)):fits d ks.length=true/\∀ c∈ks,fG c:=by
 cases h with
 |mk aa ab=>exact⟨aa,ab⟩
def adH:∀ {T:aD},fG T->hP (ko T.post):=by
 intro T
 induction T using aD.ind with
 |h d ks aF=>intro h;rw[aD.qa];refine ap5 (λl ay=>?_) (by rw[bE];exact h.inv.1);obtain⟨c,an,rfl⟩:=cA.1 ay;exact aF c an (h.inv.2 c an)
def aqO{l:List ap}(h:hP (ko l)):0<l.length/\∀ d∈l,∀ k∈d.aw,0<=k:=by
 have:=h.bA;refine⟨?_,λd ak k ae=>?_⟩
 ·have aa:(0:Int)<=(l.length:Int)-1:=this.1;omega
 ·obtain⟨j,ai,rfl⟩:=jv ak;exact(h.aw j ai k ae).1
def aqP{z:α}{F:ap->List α->α}(bG:∀ d l,F (d.eQ l)=F d):∀ {T:aD},fG T->A4 z F T.post=T.fold F:=by
 intro T
 induction T using aD.ind with
 |h d ks aF=>
  intro h;rw[aD.qa,aD.fold_eq,ap3 bG,gh];·congr 1;exact fO λc an=>aF c an (h.inv.2 c an)
  ·intro l ay;obtain⟨c,an,rfl⟩:=cA.1 ay;exact aqO (adH (h.inv.2 c an))
def aL.ho(T:aL):List Int:=T.cG.map λx:Nat=>(x:Int)
def aL.JK(k:Nat)(ks:List aL):(aL.mk k ks).ho=ks.flatMap aL.ho++[(k:Int)]:=by unfold aL.ho;rw[aL.kY,cP,AS];rfl
def aL.aqQ(T:aL):∃ K,T.ho=K++[(T.bh:Int)]:=by
 cases T with
 |mk k ks=>exact⟨_,aL.JK k ks⟩
structure JL(ns:List ap)(A rb:List Int)(oI:List aL)(aX:List ap×List Int):Prop where
 len:aX.1.length=(oI.flatMap aL.ho).length
 nodes:aX.1.map (A3 (A.length:Int))=(oI.flatMap aL.ho).map (Ak ns rb)
 roots:aX.2.map (·+(A.length:Int))=oI.map λc=>vv rb (c.bh:Int)
def aqR(n:Nat)(a:Int)(x:ap):A3 a (x.eQ (x.aw.map λk=>(n:Int)+k))=A3 (a+(n:Int)) x:=by unfold A3;show x.eQ ((x.aw.map λk=>(n:Int)+k).map (·+a))=_;rw[gh];congr 1;refine fO λk ae=>?_;show(n:Int)+k+a=k+(a+n);omega
def JL.step{ns:List ap}{A B rb:List Int}{oI:List aL}{aX:List ap×List Int}(h:JL ns A rb oI aX){c:aL}{l:List ap}
  (nF:rb=(A++oI.flatMap aL.ho)++(c.ho++B)) (ak:h1 rb) (ay:c.ho.map (Ak ns rb)=l.map (A3 ((A++oI.flatMap aL.ho).length:Int))):JL ns A rb (oI++[c]) (jN aX l):=by
 have gC:c.ho.length=l.length:=by simpa using congrArg List.length ay
 obtain⟨aa,ab,aj⟩:=h;have aJ:(oI++[c]).flatMap aL.ho=oI.flatMap aL.ho++c.ho:=by rw[hn,p7]
 refine⟨?_,?_,?_⟩
 ·rw[aJ];show(aX.1++l.map _).length=_;rw[b3,bE,b3,aa,gC]
 ·rw[aJ,cP,ay,<-ab];show(aX.1++l.map λx=>x.eQ (x.aw.map λk=>(aX.1.length:Int)+k)).map _=_;rw[cP,gh];congr 1;refine fO λx ad=>?_;show A3 _ (x.eQ _)=_;rw[aqR,aa,b3];congr 1
 ·rw[cP,<-aj];show(aX.2++[((aX.1.length+l.length:Nat):Int)-1]).map _=_;rw[cP];congr 1;obtain⟨K,eG⟩:=c.aqQ;have hm:(c.bh:Int)∈c.ho:=by rw[eG];simp
  have FY:h1 c.ho:=by rw[nF]at ak;exact(sb.1 (sb.1 ak).2.1).1
  have aB:vv rb (c.bh:Int)=vv c.ho (c.bh:Int)+((A++oI.flatMap aL.ho).length:Int):=by rw[nF]at ak |-;exact ap0 ak hm
  have lU:vv c.ho (c.bh:Int)=(c.ho.length:Int)-1:=by rw[eG]at FY |-;rw[ap1 FY,b3];simp
  rw[te,te,aB,lU,b3,<-aa,<-gC];congr 1;omega
def aqS{ns:List ap}:∀ {S:aL},cy ns S->∀ (A B rb:List Int),rb=A++(S.ho++B)->h1 rb->S.ho.map (Ak ns rb)=(S.bare ns).post.map (A3 (A.length:Int)):=by
 intro S
 induction S using aL.ind with
 |h k ks aF=>
  intro cB A B rb nF ak;obtain⟨aa,ab,aj⟩:=cB.inv;have key:∀ (wS oI:List aL) (aX:List ap×List Int),oI++wS=ks->JL ns A rb oI aX->JL ns A rb ks ((wS.map λc=>(c.bare ns).post).foldl jN aX):=by
   intro wS
   induction wS with
   |nil=>intro oI aX e h;rw[ed]at e;rw[<-e];exact h
   |cons c wS Tu=>
    intro oI aX e h;have an:c∈ks:=by rw[<-e];simp
    have adI:rb=(A++oI.flatMap aL.ho)++(c.ho++(wS.flatMap aL.ho++([(k:Int)]++B))):=by rw[nF,aL.JK,<-e];simp
    rw[bX,jE];exact Tu (oI++[c]) _ (by rw[<-e];simp) (h.step adI ak (aF c an (aj c an) _ _ _ adI ak))
  have h:=key ks [] ([],[]) rfl ⟨rfl,rfl,rfl⟩;obtain⟨a8,ba,bR⟩:=h;rw[aL.JK,aL.mo,aD.qa,gh];show _=(wP (nodeAt ns k).bare (ks.map λc=>(c.bare ns).post)).map _;unfold wP;generalize(ks.map λc=>(c.bare ns).post).foldl jN ([],[])=aX at a8 ba bR;rw[cP,cP,ba];congr 1;rw[te,te];congr 1;show(nodeAt ns (k:Int).toNat).eQ _=(nodeAt ns k).eQ (aX.2.map (·+(A.length:Int)));rw[bR,gz,ab,gh];rfl
def adJ:∀ (fY:List (List ap)) (aX:List ap×List Int),(∀ x∈aX.1,x.a0=x)->∀ x∈(fY.foldl jN aX).1,x.a0=x
 |[],_,h=>h
 |l::fY,aX,h=>adJ fY (jN aX l) λx ad=>by
  rcases cF.1 (show x∈aX.1++l.map (λx=>x.eQ (x.aw.map λk=>(aX.1.length:Int)+k))from ad)with ad | ad;·exact h x ad
  ·obtain⟨y,aH,rfl⟩:=cA.1 ad;rfl
def Ue(T:aD):∀ x∈T.post,x.a0=x:=by
 cases T with
 |mk d ks=>
 intro x ad;rw[aD.qa]at ad;rcases cF.1 ad with ad | ad
 ·exact adJ _ _ (λx ad=>by cases ad) x ad
 ·rw[ec.1 ad];rfl
def adK{ns:List ap}{S:aL}(h:cy ns S)(aC:S.cG.Nodup):S.ho.map (Ak ns S.ho)=(S.bare ns).post:=by
 have ak:h1 S.ho:=FD.2 (List.Pairwise.imp (fun {a b} bs e=>bs (by omega)) aC);have:=aqS h [] [] S.ho (by simp) ak;rw[this];refine(fO λx ad=>?_).trans (FU _);have e:=Ue _ x ad;have a4:A3 (([]:List Int).length:Int) x=x.a0:=by show x.eQ (x.aw.map (·+(0:Int)))=x.eQ x.aw;congr 1;refine(fO λk ae=>?_).trans (FU _);show k+0=k;omega
 rw[a4,e];rfl
def gE(ns:List ap)(k:Int):aD:=lH (aD.mk uz []) (λd g=>(λ(d:ap) (xs:List aD)=>aD.mk d.bare xs) d (d.aw.map g)) ns k
def bV(t:bP):aD:=gE t.ns t.bA
def aqT(ns:List ap):∀ S:aL,(S.bare ns).fold (λ(d:ap) (xs:List aD)=>aD.mk d.bare xs)=S.bare ns:=by
 intro S
 induction S using aL.ind with
 |h k ks aF=>rw[aL.mo,aD.fold_eq,gh];congr 1;exact fO λc an=>aF c an
def NN{ns:List ap}(ae:ss ns){T:aL}(h:cy ns T):gE ns T.bh=T.bare ns:=by unfold gE;rw[adA (λd l=>rfl) ae h,aqT]
def hP.y7(h:hP t):ss t.ns:=h.aw
def hP.lt(h:hP t){j:Nat}(ai:j<t.ns.length):∃ T:aL,T.bh=j/\cy t.ns T/\gE t.ns j=T.bare t.ns/\T.cG.Nodup:=by obtain⟨T,bp,dv⟩:=cy.ex h.y7 j ai;refine⟨T,bp,dv,?_,dv.nodup h.y7 h.diff⟩;rw[<-bp];exact NN h.y7 dv
def Uf{ns:List ap}(aA:∀ d∈ns,fits d d.aw.length=true):∀ {T:aL},cy ns T->fG (T.bare ns):=by
 intro T
 induction T using aL.ind with
 |h k ks aF=>
  intro h;obtain⟨aa,ab,aj⟩:=h.inv;rw[aL.mo];refine .mk ?_ λc an=>?_;·have:=aA _ (bi aa);rw[<-gg aa]at this;show fits ((nodeAt ns k).eQ []) _=true;rw[T3,bE];rw[ab,bE]at this;exact this
  ·obtain⟨c',zA,rfl⟩:=cA.1 an;exact aF c' zA (aj c' zA)
def hP.fit(h:hP t):∀ d∈t.ns,Go.V.fits d d.aw.length=true:=λd ak=>by obtain⟨j,ai,rfl⟩:=jv ak;exact h.fits j ai
def adL{z:α}{F:ap->List α->α}(bG:∀ d l,F (d.eQ l)=F d)(h:hP t){j:Nat}(ai:j<t.ns.length):lH z (λd g=>F d (d.aw.map g)) t.ns j=(gE t.ns j).fold F:=by obtain⟨T,bp,dv,he,-⟩:=h.lt ai;rw[he,<-bp];exact adA bG h.y7 dv
def aqU(h:hP t):∀ {T:aL},cy t.ns T->j2 t.ns (T.bh:Int)=T.ho:=by
 intro T
 induction T using aL.ind with
 |h k ks aF=>intro bp;obtain⟨aa,ab,aj⟩:=bp.inv;show j2 t.ns (k:Int)=_;rw[Go.V.qa h aa,ab,aL.JK,AR];congr 1;exact se λc an=>aF c an (aj c an)
def aqV(h:hP t){j:Nat}(ai:j<t.ns.length):r8 t.ns j=(gE t.ns j).post:=by obtain⟨T,bp,dv,he,aC⟩:=h.lt ai;rw[alz h ai,he,<-adK dv aC,<-bp,aqU h dv]
structure oJ(t:bP)(T:aD):Prop where
 a0:t.ns.map ap.a0=T.post
 bA:t.bA=(t.ns.length:Int)-1
def aqW(h:hP t){j:Nat}(ai:j<t.ns.length){bo:bP}(au:Ma t j bo):oJ bo (gE t.ns j):=⟨by rw[au.a0,aqV h ai],au.bA⟩
def adM(ns:List ap)(k:Int):gE (ns.map ap.a0) k=gE ns k:=by unfold gE lH;rw[Im (f:=λd g=>(λ(d:ap) (xs:List aD)=>aD.mk d.bare xs) d (d.aw.map g)) (g:=λd g=>(λ(d:ap) (xs:List aD)=>aD.mk d.bare xs) d (d.aw.map g)) (λd q=>rfl)]
inductive jd:aD->Prop
 |mk{d:ap}{ks:List aD}:d.bare=d->(∀ c∈ks,jd c)->jd (.mk d ks)
def jd.inv{d:ap}{ks:List aD}(h:jd (.mk d ks)):d.bare=d/\∀ c∈ks,jd c:=by
 cases h with
 |mk aa ab=>exact⟨aa,ab⟩
def jd.fold:∀ {T:aD},jd T->T.fold (λ(d:ap) (xs:List aD)=>aD.mk d.bare xs)=T:=by
 intro T
 induction T using aD.ind with
 |h d ks aF=>intro h;rw[aD.fold_eq,h.inv.1];congr 1;exact(fO λc an=>aF c an (h.inv.2 c an)).trans (FU _)
def Ug(ns:List ap):∀ S:aL,jd (S.bare ns):=by
 intro S
 induction S using aL.ind with
 |h k ks aF=>rw[aL.mo];refine .mk rfl λc an=>?_;obtain⟨c',zA,rfl⟩:=cA.1 an;exact aF c' zA
def oJ.right{T:aD}(h:oJ t T)(bp:fG T):right t=true:=by
 have aa:=adH bp;rw[<-h.a0]at aa;have ab:=aa.bA;refine lP.2 ⟨?_,λj ai=>?_,λj ai k ae=>?_,?_,λj ai=>?_⟩
 ·rw[h.bA];have:(0:Int)<=((t.ns.map ap.a0).length:Int)-1/\((t.ns.map ap.a0).length:Int)-1<((t.ns.map ap.a0).length:Int):=ab;rw[bE]at this;exact this
 ·have:=aa.fits j (by show j<(t.ns.map ap.a0).length;rw[bE];exact ai);simp only[ko,fr]at this;exact this
 ·refine aa.aw j (by show j<(t.ns.map ap.a0).length;rw[bE];exact ai) k ?_;simp only[ko,fr];exact ae
 ·have:h1 (eT (t.ns.map ap.a0)):=aa.diff;unfold eT at this;rw[AR]at this;exact this
 ·have:=aa.all j (by show j<(t.ns.map ap.a0).length;rw[bE];exact ai);have e:eT (ko (t.ns.map ap.a0)).ns=eT t.ns:=by show eT (t.ns.map ap.a0)=_;unfold eT;rw[AR];rfl
  have a4:(ko (t.ns.map ap.a0)).bA=t.bA:=by show(((t.ns.map ap.a0).length:Nat):Int)-1=_;rw[bE,h.bA]
  rw[e,a4]at this;exact this
def oJ.bV{T:aD}(h:oJ t T)(bp:fG T)(ag:jd T):Go.V.bV t=T:=by unfold Go.V.bV;rw[h.bA,<-adM,h.a0];have:=aqP (z:=aD.mk uz []) (F:=λ(d:ap) (xs:List aD)=>aD.mk d.bare xs) (λd l=>rfl) bp;rw[ag.fold]at this;unfold A4 at this;rw[<-h.a0]at this |-;rw[bE]at this;exact this
def Uh(A:cp)(d z:ap)(l:List Nat)(I:aM)(v:Value)(I':aM)(M':List aE):Prop:=(∀ b o,I b=some o->I' b=some o)/\∃ bu ds' r,M'=cp.ar ⟨A.b,bu,ds'⟩/\cp.ok I' ⟨A.b,bu,ds'⟩/\v=.int .i64 r /\ ((jQ d A.ds l=[]/\r=(A.ds.length:Int)/\ds'=A.ds++[z])\/(jQ d A.ds l=[r]/\ds'=A.ds)\/(2<=(jQ d A.ds l).length/\r=(A.ds.length:Int)/\∃ bO h2 c',ds'=A.ds++[d.row bO h2 c' (jQ d A.ds l)]))
def nothing(k:Int):ap:=⟨k,0,0,0,0,⟨#[]⟩,0,0,none,0,0,[]⟩
def adN(I:aM){k:Int}(ae:0<=k/\k<256):(nothing k).ok I:=⟨ae,by unfold nothing hc;simp,by unfold nothing hc;simp,by unfold nothing hc;simp,by unfold nothing hc;simp,by show 0<=_;decide,by unfold nothing iZ;simp,by unfold nothing iZ;simp,⟨rfl,⟨b2 _,by simp[nothing]⟩,.inl rfl⟩,λx ad=>by cases ad⟩
def aqX{A:cp}(dv:A.ok I)(aC:A.ds.length<=1099511627776){d:ap}(ak:d.ok I)(ay:∀ k∈l,k<A.ds.length)(sc:l.length<=1099511627776)(af:dh I a n c 1 8 ((l.map Int.ofNat).map (.int .i64 ·))) :
  Spec Tryz.prog 111 [ptr A.b,d.val,.slice a n c] I A.ar (Uh A d (nothing 0) l I):=by
 refine cg [] a7 Tryz.func111 rfl rfl rfl ?_;intro B az;have dO:=adE (z:=nothing 0) dv aC ak (adN I (by decide)) ay sc af;obtain⟨di,cC,s1,s2,c0,s,lo,hi,dE,aO,du,aw⟩:=d;refine bd.mk A.ar [] _ (by rw[ed]) dO ?_;rintro v I' M'-h;obtain⟨jt,bu,ds',r,rfl,bw,rfl,h⟩:=h;exact⟨_,_,.sub (by simp) .refl,jt,bu,ds',r,rfl,bw,rfl,h⟩
def aqY{A:cp}(dv:A.ok I)(aC:A.ds.length<=1099511627776){d:ap}(ak:d.ok I)(ay:∀ k∈l,k<A.ds.length)(sc:l.length<=1099511627776)(af:dh I a n c 1 8 ((l.map Int.ofNat).map (.int .i64 ·))) :
  Spec Tryz.prog 112 [ptr A.b,d.val,.slice a n c] I A.ar (Uh A d (nothing 1) l I):=by
 refine cg [] a7 Tryz.func112 rfl rfl rfl ?_;intro B az;have dO:=adE (z:=nothing 1) dv aC ak (adN I (by decide)) ay sc af;obtain⟨di,cC,s1,s2,c0,s,lo,hi,dE,aO,du,aw⟩:=d;refine bd.mk A.ar [] _ (by rw[ed]) dO ?_;rintro v I' M'-h;obtain⟨jt,bu,ds',r,rfl,bw,rfl,h⟩:=h;exact⟨_,_,.sub (by simp) .refl,jt,bu,ds',r,rfl,bw,rfl,h⟩
def ri(l:List Int)(m:Nat):List (List Value):=(List.range m).reverse.map λi:Nat=>[.int .i64 (i:Int),.int .i64 (l.getD i 0)]
def aqZ(l:List Int)(m:Nat):ri l (m+1)=[.int .i64 m,.int .i64 (l.getD m 0)]::ri l m:=by unfold ri;rw[Co,yx,zK,r',bX]
def aq0(a:Option Addr)(n c:Nat):Spec Tryz.prog 165 [.slice a n c] I [] λr I' M'=>∃ b,r=.func (.func 201) #[] #[ptr b]/\I' b=some (.cells #[.slice a n c] 55 (0,0))/\(∀ b o,I b=some o->I' b=some o)/\M'=[]:=by refine cg [1] a7 Tryz.func165 rfl rfl rfl ?_;intro B az;refine b'.mk λg av B9=>?_;exact⟨_,_,.k3 rfl (by simp) .refl,g,rfl,mI ..,hW av,rfl⟩
def aq1{l:List Int}(af:dh I a n c 1 8 (l.map (.int .i64 ·))){b:Nat}(ag:I b=some (.cells #[.slice a n c] 55 (0,0))) :
  Iter Tryz.prog 201 [ptr b] I (ri l n):=by
 intro y R k8 qQ dt M0 lI iH;refine zr [] a7 Tryz.func201 rfl rfl rfl ?_;intro B az;have jJ:=af.cap;have sc:l.length=n:=by have aa:=af.len;simpa using aa
 have e6:dh I a n c 1 8 (l.flatMap kx):=by rw[rh];exact af
 have bm:∀ (I1:aM) (M:List aE),(∀ b o,I b=some o->I1 b=some o)->cO I1 M ((⟨b,0,none⟩:Addr).add 0) 1 [.slice a n c]:=λI1 M cu=>⟨rfl,_,_,_,.inl (cu _ _ ag),rfl,rfl⟩;refine aR.mk _ (bm _ _ lI) ?_;refine bg.mk ((n:Int)-1) (by rw[wrap_i64 (by unfold iZ;omega)]) ?_;refine dg.inv (ι:=Nat×Nat×aM×List aE) (λx=>{ bj:=[(0,.val (.func (.yield y) #[] #[])),(1,.val (ptr b)),(3,.val (.int .i64 ((x.1:Int)-1)))],cI:=x.2.2.1,de:=x.2.2.2 }) (λx=>x.1<=n/\(∀ b o,I b=some o->x.2.2.1 b=some o)/\R x.2.1 x.2.2.1 x.2.2.2/\x.2.1<=(ri l n).length/\(ri l n).drop x.2.1=ri l x.1) (λx=>x.1) ?_ ?_
 ·exact⟨(n,0,dt,M0),⟨by simp,lI,iH,by simp,rfl⟩,.refl,ht,.nil⟩
 ·rintro⟨m,k,I1,M1⟩⟨hm,cu,g5,cv,hd⟩;simp only at hm cu g5 cv hd;refine a3.mk (λh=>?_) (λh=>?_)
  ·have a1:(0:Int)<=(m:Int)-1:=dB h;obtain⟨m,rfl⟩:∃ q,m=q+1:=⟨m-1,by omega⟩;have aJ:((m+1:Nat):Int)-1=(m:Int):=by omega
   obtain⟨aU,bK,Ql⟩:=(e6.mono cu).row (f:=kx) (λ_=>rfl) (j:=m) (by omega) (by omega);rw[aqZ]at hd;obtain⟨ae,ah,qU⟩:=drop_cons hd;refine aR.mk _ (bm _ _ cu) ?_;refine bf.mk aU m bK aJ (by omega) ?_;refine aR.mk _ (Ql _) ?_;refine bB.yield rfl (by simp) rfl rfl ?_;have aH:=qQ k ae I1 M1 cu g5;rw[ah]at aH;have a4:l.getD m 0=l[m]:=by simp[bt,show m<l.length by omega]
   rw[a4,<-aJ]at aH;refine zD.mk M1 [] _ (by simp) aH ?_;rintro v dz dm et (⟨rfl,lG⟩ | ⟨rfl,ad⟩);·refine a3.mk (λh=>by simp at h) (λ_=>?_);refine bg.mk ((m:Int)-1) (by rw[wrap_i64 (by unfold iZ;omega)];omega) ?_;exact⟨(m,k+1,dz,dm),⟨⟨by simp only;omega,λb o h=>et b o (cu b o h),lG,ae,qU⟩,by simp only;omega⟩,.perm (by simp) .refl,ht,.nil⟩
   ·refine a3.mk (λ_=>?_) (λh=>by simp at h);exact⟨_,_,.perm (by simp) .refl,.inr ad⟩
  ·have cJ:¬ (0:Int)<=(m:Int)-1:=eu h;obtain rfl:m=0:=by omega
   refine⟨_,_,.refl,.inl ?_⟩;have yg:k=(ri l n).length:=by have:(ri l n).drop k=[]:=hd.trans (by simp[ri]);have:=Eo.1 this;omega
   rw[<-yg];exact g5
def Spec.NO{P:Program}{f:Nat}{args:List Value}{p q:Value->aM->List aE->Prop}(h:Spec P f args I M p)(nb:∀ v I' M',p v I' M'->q v I' M'):Spec P f args I M q:=by
 rcases h with⟨aa,ab⟩ | ab
 ·refine .inl ⟨aa,λw hw=>(ab w hw).mono ?_⟩;rintro e w'⟨v,I',M',aj,aG,bx⟩;exact⟨v,I',M',aj,nb _ _ _ aG,bx⟩
 ·refine .inr λw hw=>?_;obtain⟨v,w',I',M',aj,aG,bx⟩:=ab w hw;exact⟨v,w',I',M',aj,nb _ _ _ aG,bx⟩
def y8:Nat:=110
def adO:List Nat:=[y8,y8,y8,y8,111,112,y8,y8,y8,y8]
def Ui:List Value:=adO.map λf=>.func (.func f) #[] #[]
def aq2:Spec Tryz.prog 61 [] I [] λv I' M'=>v=.agg Ui.toArray/\I'=I/\M'=[]:=by refine cg [] a7 Tryz.func61 rfl rfl rfl ?_;intro B az;exact⟨_,_,.refl,rfl,rfl,rfl⟩
def xt(d:ap)(l:List Nat)(ds ds':List ap)(r:Int):Prop:=
 if d.k=4\/d.k=5 then
  (jQ d ds l=[]/\r=(ds.length:Int)/\ds'=ds++[nothing (d.k-4)])\/(jQ d ds l=[r]/\ds'=ds)\/(2<=(jQ d ds l).length/\r=(ds.length:Int)/\∃ bO h2 c',ds'=ds++[d.row bO h2 c' (jQ d ds l)])
 else r=(ds.length:Int)/\∃ bO h2 c',ds'=ds++[d.row bO h2 c' (l.map Int.ofNat)]
def Uj(A:cp)(d:ap)(l:List Nat)(I:aM)(v:Value)(I':aM)(M':List aE):Prop:=(∀ b o,I b=some o->I' b=some o)/\∃ bu ds' r,M'=cp.ar ⟨A.b,bu,ds'⟩/\cp.ok I' ⟨A.b,bu,ds'⟩/\v=.int .i64 r/\xt d l A.ds ds' r
def aq3{A:cp}(dv:A.ok I)(aC:A.ds.length<=1099511627776){d:ap}(ak:d.ok I)(ay:∀ k∈l,k<A.ds.length)(sc:l.length<=1099511627776)(af:dh I a n c 1 8 ((l.map Int.ofNat).map (.int .i64 ·)))(j:Nat)(ai:j<10)(ae:d.k=j) :
  Spec Tryz.prog (adO.getD j 0) [ptr A.b,d.val,.slice a n c] I A.ar (Uj A d l I):=by
 have aq4:∀ x∈l.map Int.ofNat,iZ x:=λx ad=>by obtain⟨k,ae,rfl⟩:=cA.1 ad;have:=ay k ae;unfold iZ;simp only[x'];omega
 have nW:¬ (d.k=4\/d.k=5)->Spec Tryz.prog y8 [ptr A.b,d.val,.slice a n c] I A.ar (Uj A d l I):=λbs=>by refine Spec.NO (adD dv aC ak af aq4) ?_;rintro v I' M'⟨rfl,rfl,os,rfl,bw⟩;refine⟨λ_ _ h=>h,os,_,_,rfl,bw,rfl,?_⟩;unfold xt;rw[bS bs];exact⟨rfl,_,_,_,rfl⟩
 have adP:∀ {k:Int},d.k=k+4->(k=0\/k=1)->∀ {f:Nat},Spec Tryz.prog f [ptr A.b,d.val,.slice a n c] I A.ar (Uh A d (nothing k) l I)->Spec Tryz.prog f [ptr A.b,d.val,.slice a n c] I A.ar (Uj A d l I):=fun {k} ae hg {f} h=>by refine Spec.NO h ?_;rintro v I' M'⟨jt,os,ds',r,rfl,bw,rfl,h⟩;refine⟨jt,os,ds',r,rfl,bw,rfl,?_⟩;unfold xt;rw[bN (by omega),show d.k-4=k by omega];exact h
 match j,ai with
 |0,_=>exact nW (by omega)| 1,_=>exact nW (by omega)| 2,_=>exact nW (by omega)| 3,_=>exact nW (by omega)| 4,_=>exact adP (by omega) (.inl rfl) (aqX dv aC ak ay sc af)| 5,_=>exact adP (by omega) (.inr rfl) (aqY dv aC ak ay sc af)| 6,_=>exact nW (by omega)| 7,_=>exact nW (by omega)| 8,_=>exact nW (by omega)| 9,_=>exact nW (by omega)
def eM(l:List aL):List Int:=l.map λS=>(S.bh:Int)
def FZ(a b:List aL):eM (a++b)=eM a++eM b:=cP
def aq5{ns:List ap}{T:aL}(h:gR (nodeAt ns T.bh)=none):T.parts ns=T.sub:=by
 unfold aL.parts;rw[h];have:∀ c:aL,aL.pI ns none c=[c]:=λc=>by
  cases c with
  |mk k ks=>rw[aL.y4,bS (by simp)]
 refine(se λc _=>this c).trans ?_;simp
def cy.xu{ns:List ap}:∀ {T:aL},cy ns T->(nodeAt ns T.bh).aw=eM T.sub
 | .mk k ks,h=>h.inv.2.1
def cy.Ds{ns:List ap}:∀ {T:aL},cy ns T->∀ c∈T.sub,cy ns c
 | .mk k ks,h=>h.inv.2.2
def hD(l:List aL):Nat:=(l.map λS=>S.cG.length).sum
def A7(a b:List aL):hD (a++b)=hD a+hD b:=by unfold hD;rw[cP,rZ]
def F0:∀ T:aL,T.cG.length=hD T.sub+1
 | .mk k ks=>by rw[aL.kY,b3,yw];rfl
def adQ(a:List aL):hD a.reverse=hD a:=by unfold hD;rw[T8,List.sum_reverse]
def A8:∀ l:List aL,l.length<=hD l
 |[]=>dw _| c::l=>by have:=A8 l;have ab:=F0 c;show l.length+1<=c.cG.length+hD l;omega
structure aq6(I:aM)(A:cp)(cd:Option Int)(aq7:List aL)(sz:Nat)(lo c9:aY)(hl aX:List aL)(J:aM):Prop where
 bl:∀ b o,I b=some o->J b=some o
 lo:lo.ok 1 ((eM hl).map (.int .i64 ·))
 c9:c9.ok 1 ((eM aX).map (.int .i64 ·))
 dX:∀ S∈aX,cy A.ds S
 same:hl++aX.reverse.flatMap (aL.pI A.ds cd)=aq7
 sz:hl.length+hD aX<=sz
def JM(l:List Int)(n:Nat):(ri l n).length=n:=by simp[ri]
def aq8(l:List Int){k:Nat}(h:k<(ri l n).length)(ae:n-1-k<l.length):(ri l n)[k]=[.int .i64 ((n-1-k:Nat):Int),.int .i64 l[n-1-k]]:=by simp only[ri,fr,List.getElem_reverse,vl,wU];rw[bt,db ae];rfl
def aq9{A:cp}(dv:A.ok I)(aC:A.ds.length<=1099511627776){T:aL}(bp:cy A.ds T)(da:T.cG.length<=1099511627776) :
  Spec Tryz.prog 113 [ptr A.b,.int .i64 T.bh] I A.ar λv I' M'=>(∀ b o,I b=some o->I' b=some o)/\M'=A.ar/\∃ a n c,v=.slice a n c/\dh I' a n c 1 8 ((eM (T.parts A.ds)).map (.int .i64 ·)):=by
 refine zt [7] a7 Tryz.func113 rfl rfl rfl ?_;intro B az;have cv:=bp.mV;have adR:=dv.n;obtain⟨aU,bK,bm⟩:=aY.ok.row (I:=I) (M:=A.ar) ap.cT (by decide) dv.os (e:=66) (λx ad=>by simp[cp.ar,ad]) (j:=T.bh) cv;have AY:=dv.ds _ (bi cv);have mU:=gg cv;have sP:=bp.xu;generalize fu:A.ds[T.bh]=d at bm AY mU;rw[mU]at sP;obtain⟨di,cC,s1,s2,c0,s,lo,hi,dE,aO,du,aw⟩:=d;refine aR.mk [A.os.val] (c5 (cs:=[A.os.val]) (k:=0) (n:=1) (T:=94) (by simp[cp.ar,cp.ak]) (by simp)) ?_;refine bf.mk aU T.bh bK rfl (by omega) ?_;refine aR.mk _ bm ?_;refine cj.mk (λaG=>?_) (λaG=>?_)
 case' refine_1=>
  have ara:di≠4:=by simpa using aG
  refine a3.mk (λbx=>?_) (λbx=>?_)
  case' refine_1=>
   have arb:di≠5:=by simpa using bx
   intro _;refine⟨_,_,.refl,λ_ _ h=>h,rfl,dE,aO,du,rfl,?_⟩;rw[aq5 (by rw[mU];unfold gR;rw[bS];simp[ara,arb]),<-sP];exact AY.a2
  have ew:di=4\/di=5:=.inr (by simpa using bx)
 case' refine_2=>have ew:di=4\/di=5:=.inl (by simpa using aG)
 all_goals
  have tf:gR (nodeAt A.ds T.bh)=some di:=by rw[mU];unfold gR;rw[bN ew]
  have xn:T.parts A.ds=T.sub.flatMap (aL.pI A.ds (some di)):=by unfold aL.parts;rw[tf]
  refine b'.mk λb1 hb NP=>?_;refine b'.mk λb7 Il axs=>?_;refine b8.mk [] (⟨b1,_⟩::A.ar) _ _ rfl rfl (bI rfl) rfl ?_;clear bK bm;refine dg.wo (ι:=aY×aY×List aL×List aL×aM) (λx=>{ bj:=[(0,.val (ptr A.b)),(5,.ref 5 0),(6,.val x.1.val),(7,.val (ptr b7))],cl:=[(5,ap.cells ⟨di,cC,s1,s2,c0,s,lo,hi,dE,aO,du,aw⟩)],cI:=x.2.2.2.2,de:=⟨b7,.cells #[x.2.1.val] 55 (0,0)⟩::(x.2.1.ar 3++(x.1.ar 3++A.ar)) }) (λx=>aq6 I A (some di) (T.parts A.ds) T.cG.length x.1 x.2.1 x.2.2.1 x.2.2.2.1 x.2.2.2.2) (λx=>hD x.2.2.2.1) ?_ ?_
  ·intro _;refine⟨(⟨none,0,0,[]⟩,⟨some b1,1,1,[.int .i64 T.bh]⟩,[],[T],I),⟨λ_ _ h=>h,⟨rfl,(λ_=>⟨rfl,rfl⟩),λg h=>by cases h⟩,⟨rfl,(λh=>by cases h),λdM kF=>⟨rfl,b2 _,by simp[maxLen],rfl⟩⟩,λS cB=>?_,?_,?_⟩,.refl,ej,.cons rfl (.nil)⟩
   ·rw[ec.1 cB];exact bp
   ·rw[iF,zK,p7,xn];cases T with
    |mk k ks=>
    rw[aL.y4,bN (by rw[show nodeAt A.ds k=_ from mU])];rfl
   ·simp[hD]
  rintro⟨lo,c9,hl,aX,J⟩⟨bl,e2,nD,e7,rj,adS⟩;simp only at bl e2 nD e7 rj adS;have gC:=e2.nt;have ub:=nD.nt;have fc:=A8 aX;simp only[eM,bE]at gC ub;refine aR.mk [c9.val] (c5 (cs:=[c9.val]) (k:=0) (n:=1) (T:=55) (.head _) (by simp)) ?_;refine a3.mk (λh=>?_) (λh=>?_)
  ·have acT:0<c9.n:=by have:(0:Int)<(c9.n:Int):=dB h;omega
   obtain⟨f',S,rfl⟩:∃ r p,aX=r++[p]:=by
    rcases wG aX with aa | ⟨r,p,aa⟩;·subst aa;simp at ub;omega
    ·exact⟨r,p,by simpa using aa⟩
   have cB:=e7 S (by simp);have qo:=cB.mV;have Uk:=F0 S;have vj:hD [S]=S.cG.length:=by simp[hD]
   have Dt:=A8 S.sub;rw[A7,vj,Uk]at adS fc;have jA:c9.n=f'.length+1:=by have dZ:=ub;simp only[b3,p8]at dZ;omega
   rw[yx,zK,r',jT]at rj;obtain⟨aU,bK,bm⟩:=aY.Cz (I:=J) (e:=3) (M:=⟨b7,.cells #[c9.val] 55 (0,0)⟩::(c9.ar 3++(lo.ar 3++A.ar))) nD (λx ad=>by simp[ad]) (j:=f'.length) (by simp[eM]);have y9:(eM (f'++[S]))[f'.length]'(by simp[eM])=(S.bh:Int):=by simp[eM]
   rw[y9]at bm;have oG:=nD;rw[FZ,cP]at oG;have oG:aY.ok ⟨c9.a,c9.n-1,c9.c,c9.aS⟩ 1 ((eM f').map (.int .i64 ·)):=aY.pop oG;have he:c9.n-1=f'.length:=by omega
   rw[he]at oG;have Jw:f'.length<=c9.c:=by
    cases xo:c9.a with
    |none=>have:=(nD.nil xo).1;omega| some Jx=>have:=(nD.cap Jx xo).2.1;omega
   refine aR.mk [c9.val] (c5 (cs:=[c9.val]) (k:=0) (n:=1) (T:=55) (.head _) (by simp)) ?_;refine aR.mk [c9.val] (c5 (cs:=[c9.val]) (k:=0) (n:=1) (T:=55) (.head _) (by simp)) ?_;refine bg.mk ((f'.length:Nat):Int) (by show IntKind.i64.wrap ((c9.n:Int)-1)=_;rw[wrap_i64 ⟨by omega,by omega⟩];omega) ?_;refine bf.mk aU f'.length bK rfl (show f'.length<c9.n by omega) ?_;refine aR.mk _ bm ?_;refine aR.mk [c9.val] (c5 (cs:=[c9.val]) (k:=0) (n:=1) (T:=55) (.head _) (by simp)) ?_;refine aR.mk [c9.val] (c5 (cs:=[c9.val]) (k:=0) (n:=1) (T:=55) (.head _) (by simp)) ?_;refine bg.mk ((f'.length:Nat):Int) (by show IntKind.i64.wrap ((c9.n:Int)-1)=_;rw[wrap_i64 ⟨by omega,by omega⟩];omega) ?_;refine ms.mk 0 f'.length rfl rfl (dw _) Jw ?_;refine b8.mk [] (c9.ar 3++(lo.ar 3++A.ar)) #[c9.val] 55 rfl rfl (bI rfl) rfl ?_;have adT:=dv.mono bl;obtain⟨NQ,JN,F1⟩:=aY.ok.row (I:=J) (M:=⟨b7,.cells #[(⟨c9.a,f'.length,c9.c,c9.aS⟩:aY).val] 55 (0,0)⟩::(c9.ar 3++(lo.ar 3++A.ar))) ap.cT (by decide) adT.os (e:=66) (λx ad=>by simp[cp.ar,ad]) (j:=S.bh) qo;have NR:=gg qo;have NS:=adT.ds _ (bi qo);have NT:=cB.xu;rw[NR]at NT;generalize JO:A.ds[S.bh]=sv at F1 NR NS NT;refine c4.draw a7 rfl rfl rfl ?_;refine aR.mk [A.os.val] (c5 (cs:=[A.os.val]) (k:=0) (n:=1) (T:=94) (by simp[cp.ar,cp.ak]) (by simp)) ?_;refine bf.mk NQ S.bh JN rfl (by omega) ?_;refine aR.mk _ (cO.part (k:=0) (m:=1) F1 (by decide)) ?_;refine a3.mk (λbZ=>?_) (λbZ=>?_)
   ·have bs:sv.k≠di:=by simpa using bZ
    have Ul:aL.pI A.ds (some di) S=[S]:=by
     cases S with
     |mk k ks=>
     rw[aL.y4,bS];intro e;rw[show nodeAt A.ds k=sv from NR]at e;exact bs (fm e)
    rw[Ul,r']at rj;refine b'.mk λb9 lf xr=>?_;refine bB.pw a7 rfl (by simp) (e:=3) rfl rfl rfl lo e2 rfl (cs:=[.int .i64 S.bh]) rfl rfl rfl (⟨b7,.cells #[(⟨c9.a,f'.length,c9.c,c9.aS⟩:aY).val] 55 (0,0)⟩::c9.ar 3) A.ar rfl (by omega) (by show(lo.n+1)*8<=_;omega) ?_;intro AB aa ab aj;intro _;refine⟨(AB,⟨c9.a,f'.length,c9.c,c9.aS⟩,hl++[S],f',J),⟨⟨bl,?_,oG,λx ad=>e7 x (by simp[ad]),?_,?_⟩,?_⟩,.refl,ej,.cons rfl (.nil)⟩;·rw[FZ,cP];exact aj
    ·rw[dY,r'];exact rj
    ·show(hl++[S]).length+hD f'<=T.cG.length;rw[b3,p8];omega
    ·show hD f'<hD (f'++[S]);rw[A7,vj];omega
   ·have he:sv.k=di:=by simpa using bZ
    have Ul:aL.pI A.ds (some di) S=S.sub.flatMap (aL.pI A.ds (some di)):=by
     cases S with
     |mk k ks=>
     rw[aL.y4,bN];·rfl
     ·rw[show nodeAt A.ds k=sv from NR,he]
    have ff:=NS.aO;have r9:=NS.a2.cap;have NU:sv.aw.length=S.sub.length:=by rw[NT];simp[eM]
    refine aR.mk [A.os.val] (c5 (cs:=[A.os.val]) (k:=0) (n:=1) (T:=94) (by simp[cp.ar,cp.ak]) (by simp)) ?_;refine bf.mk NQ S.bh JN rfl (by omega) ?_;refine aR.mk _ (cO.part (k:=8) (m:=1) F1 (by decide)) ?_;refine bd.mk [] _ _ (.refl _) (aq0 sv.dE sv.aO sv.du) ?_;rintro v iy M1 -⟨cK,rfl,EB,h3,rfl⟩;have arc:∀ b o,I b=some o->iy b=some o:=λb o h=>h3 _ _ (bl _ _ h);refine c4.range a7 rfl rfl rfl .refl (aq1 (NS.a2.mono h3) EB) (λvs h=>?_) (λk I' M'=>∃ fR:aY,(∀ b o,iy b=some o->I' b=some o)/\fR.ok 1 ((eM (f'++S.sub.reverse.take k)).map (.int .i64 ·))/\M'=⟨b7,.cells #[fR.val] 55 (0,0)⟩::(fR.ar 3++(lo.ar 3++A.ar))) (λex I' M'=>False) ⟨⟨c9.a,f'.length,c9.c,c9.aS⟩,λ_ _ h=>h,by simpa using oG,rfl⟩ ?_ ?_ (λex I' M' _ h=>h.elim);·obtain⟨p,_,rfl⟩:=cA.1 h;rfl
    ·rintro k ae I' M' -⟨fR,jt,rk,rfl⟩l B az iG;have eS:k<S.sub.length:=by rw[JM]at ae;omega
     have ah:=aq8 sv.aw ae (by rw[JM]at ae;omega);have eX:sv.aw[sv.aO-1-k]'(by rw[JM]at ae;omega)=((S.sub.reverse[k]'(by rw[Db];exact eS)).bh:Int):=by
      have aa:sv.aw[sv.aO-1-k]?=(eM S.sub)[sv.aO-1-k]?:=by rw[NT]
      rw[db (by rw[JM]at ae;omega)]at aa;unfold eM at aa;rw[jR,db (by omega)]at aa;rw[fm aa,List.getElem_reverse];congr 3;omega
     rw[eX]at ah;rw[ah];have ard:=rk.nt;simp only[eM,bE,b3,hT,Db]at ard;refine aR.mk [fR.val] (c5 (cs:=[fR.val]) (k:=0) (n:=1) (T:=55) (.head _) (by simp)) ?_;refine b'.mk λb9 lf xr=>?_;refine bB.pw a7 rfl (by simp) (e:=3) rfl rfl rfl fR rk rfl (cs:=[.int .i64 (S.sub.reverse[k]'(by rw[Db];exact eS)).bh]) rfl rfl rfl [_] (lo.ar 3++A.ar) rfl (by omega) (by show(fR.n+1)*8<=_;omega) ?_;intro xv aa ab aj;refine b8.mk [] (xv.ar 3++(lo.ar 3++A.ar)) #[fR.val] 55 rfl rfl (bI rfl) rfl ?_;refine⟨_,_,.refl,xv,jt,?_,rfl⟩;rw[gy (by rw[Db];exact eS),<-dY,FZ,cP];exact aj
    ·rintro I' M' -⟨fR,jt,rk,rfl⟩;rw[JM,fN (by rw[Db];omega)]at rk;intro _;refine⟨(lo,fR,hl,f'++S.sub.reverse,I'),⟨⟨λb o h=>jt _ _ (arc _ _ h),e2,rk,λx ad=>?_,?_,?_⟩,?_⟩,.refl,ej,.cons rfl (.nil)⟩
     ·rcases cF.1 ad with ad | ad
      ·exact e7 x (by simp[ad])
      ·exact cB.Ds x (Tg.1 ad)
     ·rw[yx,Su,hn,<-Ul];exact rj
     ·show hl.length+hD (f'++S.sub.reverse)<=T.cG.length;rw[A7,adQ];omega
     ·show hD (f'++S.sub.reverse)<hD (f'++[S]);rw[A7,A7,adQ,vj];omega
  ·have az:c9.n=0:=by have:¬ (0:Int)<(c9.n:Int):=eu h;omega
   obtain rfl:aX=[]:=iq (by omega);intro fJ;have fJ:mu J (⟨b7,.cells #[c9.val] 55 (0,0)⟩::(c9.ar 3++(lo.ar 3++A.ar))):=fJ;have Fv:hl=T.parts A.ds:=by simpa using rj
   subst Fv;have lr:(⟨b7,.cells #[c9.val] 55 (0,0)⟩::(c9.ar 3++(lo.ar 3++A.ar)):List aE).Perm (lo.ar 3++(A.ar++([⟨b7,.cells #[c9.val] 55 (0,0)⟩]++c9.ar 3))):=by have:=eI (l₁:=([⟨b7,.cells #[c9.val] 55 (0,0)⟩]++c9.ar 3:List aE)) (l₂:=lo.ar 3++A.ar);simpa using this
   have av:∀ g,lo.a=some g->J g=none/\g ∉ A.ar.map (·.num):=λg av=>by
    have ag:lo.ar 3=[⟨g,.cells lo.aS.toArray 3 (0,0)⟩]:=by unfold aY.ar;rw[av]
    have bH:=(lr.map (·.num)).nodup_iff.1 fJ.ca;rw[ag]at bH;refine⟨fJ.d ⟨g,.cells lo.aS.toArray 3 (0,0)⟩ (by simp[ag]),λhm=>?_⟩;rw[cP]at bH;simp only[bX,hx,r',l5,cP]at bH;exact bH.1 (iD _ hm)
   obtain⟨dz,hw,et,ei,-⟩:=aY.Ad (b:=8) (e:=3) e2 (by omega) av (A.ar++([⟨b7,.cells #[c9.val] 55 (0,0)⟩]++c9.ar 3));exact⟨dz,A.ar,.perm lr (hw _ _ (.sub (ua _ _) .refl)),λb o h=>et _ _ (bl _ _ h),rfl,_,_,_,rfl,ei⟩
def y'(l:List Nat):List Int:=l.map λx:Nat=>(x:Int)
structure NV(I:aM)(A:cp)(T:aL)(lo c9:aY)(hl:List Nat)(aX:List aL)(os:aY)(ds:List ap)(J:aM):Prop where
 bl:∀ b o,I b=some o->J b=some o
 ok:cp.ok J ⟨A.b,os,ds⟩
 lo:lo.ok 1 ((y' hl).map (.int .i64 ·))
 c9:c9.ok 1 ((eM aX).map (.int .i64 ·))
 dX:∀ S∈aX,cy A.ds S
 ca:(hl++aX.flatMap aL.cG).Nodup
 len:ds.length=A.ds.length
 a:os.a=A.os.a
 same:∀ w,w ∉ hl->nodeAt ds w=nodeAt A.ds w
 done:∀ w∈hl,∃ S a n c,cy A.ds S/\S.bh=w/\nodeAt ds w=(nodeAt A.ds w).row a n c (eM (S.parts A.ds))
 out:hl++aX.reverse.flatMap (λS=>(S.bn A.ds).cG.reverse)=(T.bn A.ds).cG.reverse
def NV.lt{A:cp}{T:aL}{lo c9:aY}{hl:List Nat}{aX:List aL}{ds:List ap}(h:NV I A T lo c9 hl aX os ds J):hl.length+hD aX<=A.ds.length:=by
 have aa:=NH (n:=A.ds.length) h.ca λx ad=>by
  rcases cF.1 ad with ad | ad;·obtain⟨S,-,-,-,cB,rfl,-⟩:=h.done x ad;exact cB.mV
  ·obtain⟨S,cB,ad⟩:=g6.1 ad;exact(h.dX S cB).lt x ad
 rw[b3,yw]at aa;exact aa
def mu.F2{foot:List Nat}(fJ:mu J M)(aB:M.Perm (os.ar e++Mr))(aA:∀ x∈foot,x∈Mr.map (·.num)):∀ g,os.a=some g->J g=none/\g ∉ foot:=λg av=>by
 have ag:os.ar e=[⟨g,.cells os.aS.toArray e (0,0)⟩]:=by unfold aY.ar;rw[av]
 have bH:=(aB.map (·.num)).nodup_iff.1 fJ.ca;refine⟨fJ.d ⟨g,.cells os.aS.toArray e (0,0)⟩ (aB.mem_iff.2 (by rw[ag];exact .head _)),λhm=>?_⟩;rw[ag,cP]at bH;simp only[bX,hx,r',l5]at bH;exact bH.1 (aA g hm)
def are{bu:aY}(h:os.val=bu.val):os.a.map (λg=>(⟨g,0,none⟩:Addr))=bu.a.map (λg=>(⟨g,0,none⟩:Addr)):=by unfold aY.val at h;injection h
structure adU(d:ap)(ep:List Int)(y:Nat×aY×List Int):Prop where
 k:y.1<=d.aO
 ok:y.2.1.ok 1 (y.2.2.map (.int .i64 ·))
 eq:y.2.2=(d.aw.take y.1).map (λk=>ep.getD k.toNat 0)
def arf{ns:List ap}(h:∀ w,(nodeAt dQ w).k=(nodeAt ns w).k)(cd:Option Int):∀ S:aL,S.pI dQ cd=S.pI ns cd:=by
 intro S
 induction S using aL.ind with
 |h k ks aF=>
  rw[aL.y4,aL.y4,h k];split;·exact se λc an=>aF c an
  ·rfl
def arh{d e:ap}(h:d.k=e.k):gR d=gR e:=by unfold gR;rw[h]
def ari{ns:List ap}(h:∀ w,(nodeAt dQ w).k=(nodeAt ns w).k)(S:aL):S.parts dQ=S.parts ns:=by unfold aL.parts;rw[arh (h S.bh)];exact se λc an=>arf h _ c
def ap.arj(d:ap)(a:Option Addr)(n c:Nat)(ks:List Int):ck d.cells 8 [.slice a n c]=(d.row a n c ks).cells:=rfl
def ark{ns:List ap}:∀ {T:aL},cy ns T->qb ns T.ho:=by
 intro T
 induction T using aL.ind with
 |h k ks aF=>
  intro h;obtain⟨aa,ab,aj⟩:=h.inv;have aA:qb ns (ks.flatMap aL.ho):=by
   have:∀ l:List aL,(∀ c∈l,qb ns c.ho)->qb ns (l.flatMap aL.ho):=λl=>by
    induction l with
    |nil=>intro _ i h;simp at h| cons c l JP=>intro ay;rw[jT];exact(ay c (.head _)).append (JP λx ad=>ay x (.tail _ ad))
   exact this ks λc an=>aF c an (aj c an)
  rw[aL.JK];intro i hi x ad;by_cases e:i<(ks.flatMap aL.ho).length;·rw[z3 e]at ad;rw[BO (by omega)];exact aA i e x ad
  ·rw[b3,p8]at hi;have aI:i=(ks.flatMap aL.ho).length:=by omega
   subst aI;rw[ER (b2 _)]at ad;simp only[p3,List.getElem_singleton,gz]at ad;rw[zv];rw[ab]at ad;obtain⟨c,an,rfl⟩:=cA.1 ad;exact g6.2 ⟨c,an,cA.2 ⟨c.bh,c.FV,rfl⟩⟩
def arl{ns:List ap}:∀ {T:aL},cy ns T->∀ x∈T.cG,∀ q∈(nodeAt ns x).aw,0<=q/\q<ns.length:=by
 intro T
 induction T using aL.ind with
 |h k ks aF=>
  intro h x ad q aN;obtain⟨aa,ab,aj⟩:=h.inv;rw[aL.kY]at ad;rcases cF.1 ad with ad | ad;·obtain⟨c,an,ad⟩:=g6.1 ad;exact aF c an (aj c an) x ad q aN
  ·rw[ec.1 ad,ab]at aN;obtain⟨c,an,rfl⟩:=cA.1 aN;have:=(aj c an).mV;omega
def aL.arm(ns:List ap)(S:aL):((S.parts ns).flatMap aL.cG).Sublist (S.sub.flatMap aL.cG):=by unfold aL.parts;rw[Dn];exact FX λc an=>aL.aqq ns _ c
def arn{ds:List ap}{j:Nat}(ai:j<ds.length)(x:ap)(w:Nat):nodeAt (ds.set j x) w=if w=j then x else nodeAt ds w:=by
 unfold nodeAt;rw[bt,bt,iu];by_cases e:w=j
 ·subst e;rw[bN rfl,bN ai,bN rfl];rfl
 ·rw[bS (λh=>e h.symm),bS e]
def aro(ns:List ap)(S:aL):(S.bn ns).cG.reverse=S.bh::(S.parts ns).reverse.flatMap λc=>(c.bn ns).cG.reverse:=by
 have h:=aL.adt ns S;have ay:=aL.ads ns S;generalize S.bn ns=O at h ay;cases O with
 |mk k ks=>
 obtain rfl:k=S.bh:=ay;rw[aL.kY,show ks=_ from h,yx,zK,r',List.reverse_flatMap,<-T8,AR];rfl
def arp{A:cp}(dv:A.ok I)(aC:A.ds.length<=1099511627776)(ae:ss A.ds)(ak:h1 (eT A.ds)){T:aL}(bp:cy A.ds T) :
  Spec Tryz.prog 62 [ptr A.b,.int .i64 T.bh] I A.ar λv I' M'=>(∀ b o,I b=some o->I' b=some o)/\M'=[]/\∃ bo:bP,v=bo.val/\bo.ok I'/\oJ bo (T.bare A.ds).bn:=by
 refine zt [] a7 Tryz.func62 rfl rfl rfl ?_;intro B az;refine b'.mk λb1 hb NP=>?_;refine dg.inv (ι:=aY×aY×List Nat×List aL×aY×List ap×aM) (λx=>{ bj:=[(0,.val (ptr A.b)),(4,.ref 4 0),(5,.val x.1.val),(6,.val x.2.1.val)],cl:=[(4,[.slice none 0 0,.int .i64 0])],cI:=x.2.2.2.2.2.2,de:=x.2.1.ar 3++(x.1.ar 3++cp.ar ⟨A.b,x.2.2.2.2.1,x.2.2.2.2.2.1⟩) }) (λx=>NV I A T x.1 x.2.1 x.2.2.1 x.2.2.2.1 x.2.2.2.2.1 x.2.2.2.2.2.1 x.2.2.2.2.2.2) (λx=>hD x.2.2.2.1) ?_ ?_
 ·refine⟨(⟨none,0,0,[]⟩,⟨some b1,1,1,[.int .i64 T.bh]⟩,[],[T],A.os,A.ds,I),⟨λ_ _ h=>h,dv,⟨rfl,(λ_=>⟨rfl,rfl⟩),λg h=>by cases h⟩,⟨rfl,(λh=>by cases h),λdM kF=>⟨rfl,b2 _,by simp[maxLen],rfl⟩⟩,λS cB=>?_,?_,rfl,rfl,λw _=>rfl,(λw hw=>by cases hw),?_⟩,.refl,ej,.cons rfl (.nil)⟩
  ·rw[ec.1 cB];exact bp
  ·rw[iF,p7];exact bp.nodup ae ak
  ·rw[iF,zK,p7]
 rintro⟨lo,c9,hl,aX,os,ds,J⟩bz;have bz:NV I A T lo c9 hl aX os ds J:=bz;have a1:=bz.lt;obtain⟨bl,bw,e2,nD,e7,bH,c1,adV,rj,AP,y0⟩:=bz;have gC:=e2.nt;have ub:=nD.nt;have fc:=A8 aX;simp only[eM,y',bE]at gC ub;refine a3.mk (λh=>?_) (λh=>?_)
 ·have acT:0<c9.n:=by have:(0:Int)<(c9.n:Int):=dB h;omega
  obtain⟨f',S,rfl⟩:∃ r p,aX=r++[p]:=by
   rcases wG aX with aa | ⟨r,p,aa⟩;·subst aa;simp at ub;omega
   ·exact⟨r,p,by simpa using aa⟩
  have cB:=e7 S (by simp);have qo:=cB.mV;have Uk:=F0 S;have vj:hD [S]=S.cG.length:=by simp[hD]
  have Dt:=A8 S.sub;rw[A7,vj,Uk]at a1 fc;have jA:c9.n=f'.length+1:=by have dZ:=ub;simp only[b3,p8]at dZ;omega
  have Um:∀ w∈S.cG,w ∉ hl:=λw hw yo=>by have:=(uJ.1 bH).2.2 w yo w (by rw[hn,p7];exact oY _ hw);exact this rfl
  have JO:cy ds S:=cB.congr λw hw=>⟨by rw[c1];exact cB.lt w hw,by rw[rj w (Um w hw)]⟩;have eX:∀ w,(nodeAt ds w).k=(nodeAt A.ds w).k:=λw=>by
   by_cases hw:w∈hl;·obtain⟨kr,a,n,c,-,-,e⟩:=AP w hw;rw[e];rfl
   ·rw[rj w hw]
  have Te:S.parts ds=S.parts A.ds:=ari eX S;obtain⟨aU,bK,bm⟩:=aY.Cz (I:=J) (e:=3) (M:=c9.ar 3++(lo.ar 3++cp.ar ⟨A.b,os,ds⟩)) nD (λx ad=>by simp[ad]) (j:=f'.length) (by simp[eM]);have y9:(eM (f'++[S]))[f'.length]'(by simp[eM])=(S.bh:Int):=by simp[eM]
  rw[y9]at bm;have oG:=nD;rw[FZ,cP]at oG;have oG:aY.ok ⟨c9.a,c9.n-1,c9.c,c9.aS⟩ 1 ((eM f').map (.int .i64 ·)):=aY.pop oG;have he:c9.n-1=f'.length:=by omega
  rw[he]at oG;have Jw:f'.length<=c9.c:=by
   cases xo:c9.a with
   |none=>have:=(nD.nil xo).1;omega| some Jx=>have:=(nD.cap Jx xo).2.1;omega
  refine bg.mk ((f'.length:Nat):Int) (by show IntKind.i64.wrap ((c9.n:Int)-1)=_;rw[wrap_i64 ⟨by omega,by omega⟩];omega) ?_;refine bf.mk aU f'.length bK rfl (show f'.length<c9.n by omega) ?_;refine aR.mk _ bm ?_;refine c4.draw a7 rfl rfl rfl ?_;refine aR.mk [os.val] (c5 (cs:=[os.val]) (k:=0) (n:=1) (T:=94) (by simp[cp.ar,cp.ak]) (by simp)) ?_;refine eR.o3 (cp.ar ⟨A.b,os,ds⟩) (c9.ar 3++(lo.ar 3++[])) _ ?_ (aq9 (A:=⟨A.b,os,ds⟩) bw (by simp only;omega) JO (by omega)) ?_ ?_;·have:=eI (l₁:=(c9.ar 3++lo.ar 3)) (l₂:=cp.ar ⟨A.b,os,ds⟩);simpa using this
  ·rintro v I' M'⟨-,rfl,-⟩x ad;exact ad
  rintro v iy M1 -⟨h3,rfl,a,n,c,rfl,ei⟩;simp only at ei;rw[Te]at ei;have z1:S.bh<ds.length:=by omega
  have x6:=bw.mono h3;obtain⟨NQ,JN,F1⟩:=aY.ok.row (I:=iy) (M:=cp.ar ⟨A.b,os,ds⟩++(c9.ar 3++(lo.ar 3++[]))) ap.cT (by decide) x6.os (e:=66) (λx ad=>by simp[cp.ar,ad]) (j:=S.bh) z1;refine bf.mk NQ S.bh JN rfl (by have:=x6.n;simp only at this |-;omega) ?_;refine aY.MH ap.cells 9 ap.cT (e:=66) x6.os z1 8 (vs:=[.slice a n c]) (bI rfl) rfl (ds[S.bh].row a n c (eM (S.parts A.ds))) (ap.arj _ _ _ _ _) [⟨A.b,.cells #[os.val] 94 (0,0)⟩] (c9.ar 3++(lo.ar 3++[])) rfl JN ?_;intro kq nQ pj oC JQ;obtain⟨A9,Du⟩:∃ A9,ds.set S.bh (ds[S.bh].row a n c (eM (S.parts A.ds)))=A9:=⟨_,rfl⟩;rw[Du]at JQ;have sk:A9.length=ds.length:=by rw[<-Du,n4]
  have Un:∀ w,nodeAt A9 w=if w=S.bh then(nodeAt A.ds S.bh).row a n c (eM (S.parts A.ds))else nodeAt ds w:=λw=>by rw[<-Du,arn z1,<-gg z1,rj _ (Um _ S.FV)]
  have jY:=S.arm A.ds;have axt:hD (S.parts A.ds)<=hD S.sub:=by have:=jY.length_le;rw[yw,yw]at this;exact this
  have iO:=A8 (S.parts A.ds);have rQ:n=(S.parts A.ds).length:=by have:=ei.len;simp only[eM,bE]at this;omega
  have Hd:(ds[S.bh].row a n c (eM (S.parts A.ds))).ok iy:=by
   have aa:=(x6.ds _ (bi z1)).row ei λx ad=>by obtain⟨c',zA,rfl⟩:=cA.1 ad;have:=(aL.adu A.ds cB c' zA).mV;unfold iZ;omega
   exact aa
  have dZ:kq.n=A9.length:=by rw[oC,sk];exact x6.n
  have mA:cp.ok iy ⟨A.b,kq,A9⟩:=⟨JQ,dZ,λx ad=>by
   rw[<-Du]at ad;rcases xj ad with ad | rfl;·exact x6.ds x ad
   ·exact Hd⟩
  obtain⟨arq,adW,F3⟩:=aY.ok.row (I:=iy) (M:=[⟨A.b,.cells #[os.val] 94 (0,0)⟩]++(kq.ar 66++(c9.ar 3++(lo.ar 3++[])))) ap.cT (by decide) JQ (e:=66) (λx ad=>by simp[ad]) (j:=S.bh) (by omega);have p6:A9[S.bh]'(by omega)=ds[S.bh].row a n c (eM (S.parts A.ds)):=by have aa:=Un S.bh;rw[bN rfl,gg (by omega),<-rj _ (Um _ S.FV),gg z1]at aa;exact aa
  rw[p6]at F3;have NW:=ei.cap;refine c4.draw a7 rfl rfl rfl ?_;refine bg.mk ((f'.length:Nat):Int) (by show IntKind.i64.wrap ((c9.n:Int)-1)=_;rw[wrap_i64 ⟨by omega,by omega⟩];omega) ?_;refine ms.mk 0 f'.length rfl rfl (dw _) Jw ?_;refine aR.mk [os.val] (c5 (cs:=[os.val]) (k:=0) (n:=1) (T:=94) (by simp) (by simp)) ?_;refine bf.mk arq S.bh (by rw[pj]at adW;exact adW) rfl (by have:=x6.n;simp only at this |-;omega) ?_;refine aR.mk _ (F3.part (k:=8) (m:=1) (by decide)) ?_;refine bB.E3 a7 rfl (by simp) (e:=3) rfl rfl rfl ⟨c9.a,f'.length,c9.c,c9.aS⟩ oG rfl (sa:=a) (m:=n) (c':=c) (ch:=(eM (S.parts A.ds)).map (.int .i64 ·)) rfl (by rw[bE,rQ];simp[eM]) (λaz=>ei.Dg _ az) (Ju _) ([⟨A.b,.cells #[os.val] 94 (0,0)⟩]++kq.ar 66) (lo.ar 3++[]) rfl (by simp only;omega) (by show(f'.length+n)*8<=_;omega) ?_;intro tc acV acW jV;rw[<-cP,<-FZ]at jV;refine b'.mk λbT gS Lz=>?_;refine bB.pw a7 rfl (by simp) (e:=3) rfl rfl rfl lo e2 rfl (cs:=[.int .i64 S.bh]) rfl rfl rfl ([⟨A.b,.cells #[os.val] 94 (0,0)⟩]++kq.ar 66++tc.ar 3) [] (congrArg (List.cons _) (dY _ _ _).symm) (by omega) (by show(lo.n+1)*8<=_;omega) ?_;intro NX axu axv ars;refine⟨(NX,tc,hl++[S.bh],f'++S.parts A.ds,kq,A9,iy),⟨⟨λb o h=>h3 _ _ (bl _ _ h),mA,?_,jV,λx ad=>?_,?_,sk.trans c1,pj.trans adV,λw hw=>?_,λw hw=>?_,?_⟩,?_⟩,.perm ?_ .refl,ej,.cons rfl (.nil)⟩;·show NX.ok 1 ((y' (hl++[S.bh])).map (.int .i64 ·));unfold y';rw[cP,cP];exact ars
  ·rcases cF.1 ad with ad | ad
   ·exact e7 x (by simp[ad])
   ·exact aL.adu A.ds cB x ad
  ·have aa:((hl++[S.bh])++(f'++S.parts A.ds).flatMap aL.cG).Perm (hl++(f'.flatMap aL.cG++((S.parts A.ds).flatMap aL.cG++[S.bh]))):=by rw[dY,hn];refine T7 hl ?_;have:=eI (l₁:=[S.bh]) (l₂:=f'.flatMap aL.cG++(S.parts A.ds).flatMap aL.cG);simpa using this
   refine aa.nodup_iff.2 (List.Nodup.sublist ?_ bH);rw[hn,p7];refine(NE _).append ((NE _).append ?_);have:S.cG=S.sub.flatMap aL.cG++[S.bh]:=by cases S;exact aL.kY _ _
   rw[this];exact jY.append (.refl _)
  ·rw[Un,bS (λe=>hw (by rw[e];simp)),rj w (λh=>hw (iD _ h))]
  ·rw[Un];by_cases e:w=S.bh
   ·subst e;rw[bN rfl];exact⟨S,a,n,c,cB,rfl,rfl⟩
   ·rw[bS e];rcases cF.1 hw with hw | hw
    ·exact AP w hw
    ·exact absurd (ec.1 hw) e
  ·rw[<-y0,yx,yx,hn,hn,zK,p7,aro A.ds S,dY];rfl
  ·show hD (f'++S.parts A.ds)<hD (f'++[S]);rw[A7,A7,vj];omega
  ·show List.Perm _ (tc.ar 3++(NX.ar 3++(⟨A.b,.cells #[kq.val] 94 (0,0)⟩::kq.ar 66)));rw[nQ];have:=eI (l₁:=(⟨A.b,.cells #[os.val] 94 (0,0)⟩::kq.ar 66)) (l₂:=tc.ar 3++NX.ar 3);simpa using this
 ·have az:c9.n=0:=by have:¬ (0:Int)<(c9.n:Int):=eu h;omega
  obtain rfl:aX=[]:=iq (by omega);have Fv:hl.reverse=(T.bn A.ds).cG:=by rw[List.reverse_nil,List.flatMap_nil,ed]at y0;rw[y0,Su]
  obtain⟨rb,nF⟩:∃ rb,(T.bn A.ds).ho=rb:=⟨_,rfl⟩;have art:y' hl.reverse=rb:=by rw[Fv,<-nF];rfl
  have eX:∀ w,(nodeAt ds w).bare=(nodeAt A.ds w).bare:=λw=>by
   by_cases hw:w∈hl;·obtain⟨kr,a,n,c,-,-,e⟩:=AP w hw;rw[e];rfl
   ·rw[rj w hw]
  have adX:(T.bn A.ds).cG.Nodup:=(bp.nodup ae ak).sublist (aL.aqs _ T);have vU:cy ds (T.bn A.ds):=aL.aqw A.ds bp λS cB hm=>by rw[<-Fv]at hm;obtain⟨kr,a,n,c,MV,e,a4⟩:=AP S.bh (Tg.1 hm);obtain rfl:=MV.aqm cB e;exact⟨by rw[c1];exact cB.mV,by rw[a4];rfl⟩
  have aru:(T.bn A.ds).bare ds=(T.bare A.ds).bn:=by rw[aL.adz A.ds _ λx ad=>eX x,aL.aqy]
  have adY:=adK vU adX;rw[nF,aru]at adY;have Dj:=sub_fold (t:=ko ds) (rb:=rb) (by
   rw[<-nF];exact FD.2 (List.Pairwise.imp (fun {a b} bs e=>bs (by omega)) adX)) (by
   rw[<-nF];exact ark vU) (λk ae=>by
   rw[<-nF]at ae;obtain⟨x,ad,rfl⟩:=cA.1 ae;have:=vU.lt x ad;exact⟨by omega,by show(x:Int)<ds.length;omega⟩)
  have uS:lo.ok 1 ((y' hl).map (.int .i64 ·)):=e2;have adR:os.n=ds.length:=bw.n;refine bd.mk (lo.ar 3++[]) (c9.ar 3++cp.ar ⟨A.b,os,ds⟩) _ ?_ (acS (M0:=[]) uS (by show lo.n<=_;omega)) ?_;·have:=(eI (l₁:=lo.ar 3) (l₂:=c9.ar 3)).append_right (cp.ar ⟨A.b,os,ds⟩);simpa using this.symm
  rintro v iy M1 -⟨h3,back,adZ,ux,rfl⟩;subst iy;have nc:(y' hl).reverse=rb:=by rw[<-art];unfold y';rw[T8]
  rw[nc]at ux;have D7:=ux.nt;have sc:lo.n=back.n:=(Jv adZ).1.symm;have fC:rb.length=lo.n:=by rw[<-nc,Db];unfold y';rw[bE];omega
  refine aR.mk [os.val] (c5 (cs:=[os.val]) (k:=0) (n:=1) (T:=94) (by simp[cp.ar,cp.ak]) (by simp)) ?_;refine m0.mk os.n os.n rfl rfl (b2 _) (by show 8*os.n<=_;omega) (by omega) ?_;refine b'.mk λb9 lf vh=>?_;refine m0.mk 0 lo.n rfl rfl (dw _) (by show 96*lo.n<=_;omega) (by omega) ?_;refine b'.mk λb7 Il L6=>?_;have xf:(rowOf [Value.int .i64 0] (os.n*1))=(List.replicate ds.length (0:Int)).map (Value.int .i64):=by rw[tL,xY,fa,adR]
  have Uo:∀ (P:List Int) (out eo:aY),∀ x∈A.ar.map (·.num),x∈(dG b9 P::(out.ar 66++(back.ar 3++cp.ar ⟨A.b,os,ds⟩))).map (·.num):=λP out eo x ad=>by
   have e:(cp.ar ⟨A.b,os,ds⟩).map (·.num)=A.ar.map (·.num):=by
    show A.b::(os.ar 66).map (·.num)=A.b::(A.os.ar 66).map (·.num);unfold aY.ar;rw[adV];cases A.os.a<;>rfl
   rw[<-e]at ad;simp only[bX,cP];exact n9 _ (oY _ (oY _ ad))
  refine dg.wo (ι:=Nat×List Int×aY×List ap×aM) (λx=>{ bj:=[(0,.val (ptr A.b)),(4,.ref 4 0),(8,.val (.slice (some ⟨b9,0,none⟩) os.n os.n)),(9,.val x.2.2.1.val),(66,.val lo.val),(67,.val (.int .i64 lo.n)),(68,.val (.int .i64 x.1))],cl:=[(4,[.slice none 0 0,.int .i64 0])],cI:=x.2.2.2.2,de:=dG b9 x.2.1::(x.2.2.1.ar 66++(back.ar 3++cp.ar ⟨A.b,os,ds⟩)) }) (YB J (ko ds) rb) (λx=>rb.length-x.1) ?_ ?_
  ·intro _;refine⟨(0,List.replicate ds.length 0,⟨some b7,0,lo.n,rowOf [.int .u8 0,.int .u64 0,.int .u64 0,.int .u64 0,.int .u64 0,.string ⟨#[]⟩,.int .i64 0,.int .i64 0,.slice none 0 0] (lo.n*9)⟩,[],J),⟨dw _,by rw[sO];rfl,⟨rfl,(λh=>by cases h),λdM kF=>⟨by simp[wg,madeCells],dw _,by unfold maxLen;simp only;omega,by simp⟩⟩,rfl,rfl,(λd ak=>by cases ak),λ_ _ h=>h,(λc an=>by have:=Qo an;omega),(λd ak=>by cases ak)⟩,?_,tB,.cons rfl (.nil)⟩;refine .perm (List.Perm.swap _ _ _) ?_;refine .perm (List.Perm.cons _ (List.Perm.cons _ (?_:List.Perm _ ((back.ar 3++cp.ar ⟨A.b,os,ds⟩)++c9.ar 3)))) ?_
   ·rw[ed,dY];exact T7 _ eI
   refine .sub (.cons₂ _ (.cons₂ _ (ua _ _))) (.pu ?_);rw[xf];rfl
  rintro⟨j,P,out,nG,dp⟩⟨ai,AZ,A1,jA,NY,A0,dW,Jz,ml⟩;simp only at ai AZ A1 jA NY A0 dW Jz ml;have AZ:P.length=ds.length:=AZ;have arv:out.n=j:=by have:=A1.len;rw[jm _ 9 ap.cT,jA]at this;omega
  subst arv;refine a3.mk (λh=>?_) (λh=>?_)
  ·have kn:out.n<rb.length:=by have:(out.n:Int)<(lo.n:Int):=dB h;omega
   have hm:∀ y∈rb,0<=y/\y<ds.length:=λy aH=>by rw[<-nF]at aH;obtain⟨x,ad,rfl⟩:=cA.1 aH;have:=vU.lt x ad;omega
   have hm:=hm _ (bi kn);obtain⟨m,y1⟩:=ea hm.1;rw[y1]at hm;have jq:m<ds.length:=by omega
   obtain⟨aU,bK,JA⟩:=aY.Cz (I:=dp) (e:=3) (M:=dG b9 P::(out.ar 66++(back.ar 3++cp.ar ⟨A.b,os,ds⟩))) ux (λx ad=>by simp[ad]) kn;rw[y1]at JA;have NZ:=bw.mono dW;have fD:ds[m].ok dp:=NZ.ds _ (bi jq);have mU:nodeAt ds m=ds[m]:=gg jq;have g2:=o8 P m (by omega) (out.n:Int);generalize uj:P.set m (out.n:Int)=ep at g2;have Ny:ep.length=ds.length:=by rw[<-uj];simpa using AZ
   obtain⟨lK,lL,hy⟩:=aY.ok.row (I:=dp) (M:=dG b9 ep::(out.ar 66++(back.ar 3++cp.ar ⟨A.b,os,ds⟩))) ap.cT (by decide) NZ.os (e:=66) (λx ad=>by simp[cp.ar,ad]) (j:=m) jq;have hy:cO dp (dG b9 ep::(out.ar 66++(back.ar 3++cp.ar ⟨A.b,os,ds⟩))) (lK.add (m*9)) 9 ds[m].cells:=hy;generalize fu:ds[m]=d at fD hy mU;have ff:=fD.aO;have r9:=fD.a2.cap;have Dk:∀ c∈ep,0<=c/\c<=rb.length:=λc an=>by
    rw[<-uj]at an;rcases xj an with an | rfl;·exact Jz c an
    ·omega
   refine bf.mk aU out.n (by have:=(are adZ);rw[this]at bK;exact bK) rfl (show _<lo.n by omega) ?_;refine aR.mk _ JA ?_;refine bf.mk ⟨b9,0,none⟩ m rfl rfl (by omega) ?_;refine b8.iJ [] (out.ar 66++(back.ar 3++cp.ar ⟨A.b,os,ds⟩)) (P.map (Value.int .i64)) 3 rfl (by rw[n5,bE];show 0+m*1+1<=_;omega) rfl (ep.map (Value.int .i64)) (by rw[cX,fa];exact g2) ?_;refine aR.mk [os.val] (c5 (cs:=[os.val]) (k:=0) (n:=1) (T:=94) (by simp[cp.ar,cp.ak]) (by simp)) ?_;refine bf.mk lK m lL rfl (by omega) ?_;refine aR.mk _ hy ?_;have sN:(out.n+1)*96<=140737488355328:=by omega
   have js:∀ q∈d.aw,0<=q/\q<ep.length:=λq aN=>by
    have aa:q∈(nodeAt ds m).aw:=by rw[mU];exact aN
    have A':(m:Int)∈rb:=by rw[<-y1];exact bi kn
    rw[<-nF]at A';obtain⟨x,ad,e⟩:=cA.1 A';obtain rfl:x=m:=Int.ofNat.inj e;have:=arl vU x ad q aa;omega
   refine dg.inv (ι:=Nat×aY×List Int) (λy=>{ bj:=[(0,.val (ptr A.b)),(4,.ref 4 0),(8,.val (.slice (some ⟨b9,0,none⟩) os.n os.n)),(9,.val out.val),(10,.val (.int .i64 out.n)),(12,.ref 12 0),(13,.val y.2.1.val),(66,.val lo.val),(67,.val (.int .i64 lo.n)),(68,.val (.int .i64 out.n)),(85,.val (.slice d.dE d.aO d.du)),(86,.val (.int .i64 d.aO)),(87,.val (.int .i64 y.1))],cl:=[(4,[.slice none 0 0,.int .i64 0]),(12,d.cells)],cI:=dp,de:=y.2.1.ar 3++(dG b9 ep::(out.ar 66++(back.ar 3++cp.ar ⟨A.b,os,ds⟩))) }) (λy=>adU d ep y) (λy=>d.aO-y.1) ?_ ?_;·exact⟨(0,ib,[]),⟨dw _,lM 1,by simp⟩,.refl,V3,.cons rfl (.cons rfl (.nil))⟩
   rintro⟨k,eo,gH⟩⟨hg,kQ,cv⟩;simp only at hg kQ cv;have arw:=kQ.nt;have EG:gH.length=k:=by rw[cv,bE,hT];omega
   refine a3.mk (λab=>?_) (λab=>?_)
   ·have N0:k<d.aO:=by have:(k:Int)<(d.aO:Int):=dB ab;omega
    have k4:k<d.aw.length:=by omega
    have ah:=js _ (bi k4);have vR:d.aw[k].toNat<ep.length:=by omega
    have Dm:ep.getD d.aw[k].toNat 0=ep[d.aw[k].toNat]:=by simp[bt,vR]
    have Dv:dh dp d.dE d.aO d.du 1 8 (d.aw.flatMap kx):=by rw[rh];exact fD.a2
    obtain⟨gr,fB,eY⟩:=Dv.row (f:=kx) (λ_=>rfl) (j:=k) (by omega) k4;refine bf.mk gr k fB rfl (show k<d.aO by omega) ?_;refine aR.mk _ (eY _) ?_;refine bf.mk ⟨b9,0,none⟩ d.aw[k].toNat rfl (by omega) (by omega) ?_;refine aR.mk _ (Hp (by simp) vR) ?_;refine b'.mk λUp Uq arx=>?_;refine bB.pw a7 rfl (by simp) (e:=3) rfl rfl rfl eo kQ rfl (cs:=[.int .i64 ep[d.aw[k].toNat]]) rfl rfl rfl [] (dG b9 ep::(out.ar 66++(back.ar 3++cp.ar ⟨A.b,os,ds⟩))) rfl (by omega) (by show(eo.n+1)*8<=_;omega) ?_;intro q2 ad0 ary Ur;refine bg.mk _ (cL (i:=k) (by omega)) ?_;refine⟨(k+1,q2,gH++[ep[d.aw[k].toNat]]),⟨⟨N0,?_,?_⟩,by simp only;omega⟩,.refl,V3,.cons rfl (.cons rfl (.nil))⟩;·rw[cP];exact Ur
    ·rw[cv,gy k4,cP,te,Dm]
   have cJ:k=d.aO:=by have:¬ (k:Int)<(d.aO:Int):=eu ab;omega
   subst cJ;rw[fN (by omega)]at cv;refine b'.mk λac0 ac1 ac2=>?_;have bH:∃ ca:ap,ca=⟨d.k,d.cC,d.s1,d.s2,d.c0,d.t,d.lo,d.hi,eo.a.map λg=>⟨g,0,none⟩,eo.n,eo.c,gH⟩:=⟨_,rfl⟩;obtain⟨ca,bH⟩:=bH;have JC:ca.cells=[.int .u8 d.k,.int .u64 d.cC,.int .u64 d.s1,.int .u64 d.s2,.int .u64 d.c0,.string d.t,.int .i64 d.lo,.int .i64 d.hi,.slice (eo.a.map λg=>⟨g,0,none⟩) eo.n eo.c]:=by rw[bH];rfl
   refine bB.pw a7 rfl (by simp) (e:=66) rfl rfl rfl out A1 rfl (cs:=[.int .u8 d.k,.int .u64 d.cC,.int .u64 d.s1,.int .u64 d.s2,.int .u64 d.c0,.string d.t,.int .i64 d.lo,.int .i64 d.hi,.slice (eo.a.map λg=>⟨g,0,none⟩) eo.n eo.c]) rfl rfl rfl (eo.ar 3++[dG b9 ep]) (back.ar 3++cp.ar ⟨A.b,os,ds⟩) (congrArg (List.cons _) (dY _ [_] _).symm) (by omega) (by show(out.n+1)*96<=_;omega) ?_;intro td ac3 ac4 arz;refine bg.mk _ (cL (i:=out.n) (by omega)) ?_;have A2:∀ c∈gH,0<=c/\c<=rb.length:=λc an=>by
    rw[cv]at an;obtain⟨q,aN,rfl⟩:=cA.1 an;have vq:=js q aN;have JD:q.toNat<ep.length:=by omega
    exact Dk (ep.getD q.toNat 0) (by simp only[bt,db JD,j'];exact bi _)
   intro fJ;have lr:((eo.ar 3++[dG b9 ep])++(td.ar 66++(back.ar 3++cp.ar ⟨A.b,os,ds⟩))).Perm (eo.ar 3++(dG b9 ep::(td.ar 66++(back.ar 3++cp.ar ⟨A.b,os,ds⟩)))):=by rw[dY];exact List.Perm.refl _
   have av:=mu.F2 (J:=dp) (os:=eo) (e:=3) fJ lr (Uo ep td eo);obtain⟨l0,hw,bq,ei,-⟩:=aY.Ad (b:=8) (e:=3) kQ (by omega) av (dG b9 ep::(td.ar 66++(back.ar 3++cp.ar ⟨A.b,os,ds⟩)));refine⟨(out.n+1,ep,td,nG++[ca],l0),⟨⟨by simp only;omega,Ny,?_,by simp[jA],?_,?_,λb o h=>bq _ _ (dW _ _ h),Dk,?_⟩,by simp only;omega⟩,.perm lr (hw _ _ .refl),tB,.cons rfl (.nil)⟩
   ·simp only;rw[hn];have:([ca].flatMap ap.cells)=ca.cells:=by simp
    rw[this,JC];exact arz
   ·simp only;rw[gy kn,r4,NY,jE,L0,y1];show(P.set m ((nG.map ap.a0).length:Int),nG.map ap.a0++[(nodeAt ds m).eQ ((nodeAt ds m).aw.map λk=>(P.set m ((nG.map ap.a0).length:Int)).getD k.toNat 0)])=_;rw[bE,jA,uj,mU,<-cv,cP,bH];rfl
   ·simp only;intro x ad;rcases cF.1 ad with ad | ad
    ·exact(A0 x ad).mono bq
    ·simp only[ec]at ad;rw[ad,bH];refine⟨fD.k,fD.cC,fD.s1,fD.s2,fD.c0,fD.t,fD.lo,fD.hi,ei,λc an=>?_⟩;have:=A2 c an;exact⟨by omega,by omega⟩
   ·simp only;intro x ad;rcases cF.1 ad with ad | ad
    ·exact ml x ad
    ·simp only[ec]at ad;rw[ad,bH];exact A2
  ·have cJ:out.n=rb.length:=by have:¬ (out.n:Int)<(lo.n:Int):=eu h;omega
   refine bg.mk ((nG.length:Int)-1) (by show IntKind.i64.wrap ((out.n:Int)-1)=_;rw[wrap_i64 ⟨by omega,by omega⟩,jA]) ?_;intro fJ;have lr:(dG b9 P::(out.ar 66++(back.ar 3++cp.ar ⟨A.b,os,ds⟩))).Perm (out.ar 66++(dG b9 P::(ib.ar 66++(back.ar 3++cp.ar ⟨A.b,os,ds⟩)))):=mN.symm;have av:=mu.F2 (J:=dp) (os:=out) (e:=66) fJ lr (Uo P ib ib);obtain⟨l0,hw,bq,ei,-⟩:=aY.Ad (b:=96) (e:=66) A1 (by omega) av (dG b9 P::(ib.ar 66++(back.ar 3++cp.ar ⟨A.b,os,ds⟩)));rw[fN (by omega)]at NY;obtain⟨Fq,mM,-,-⟩:=Dj rb.length (b2 _);rw[D']at mM;have eW:nG.map ap.a0=(T.bare A.ds).bn.post:=by rw[<-adY];exact congrArg Prod.snd (NY.symm.trans mM)
   exact⟨l0,[],.perm lr (hw _ _ (.sub (fk _) .refl)),λb o h=>bq _ _ (dW _ _ (bl _ _ h)),rfl,⟨nG,out.a.map λg=>⟨g,0,none⟩,out.n,out.c,(nG.length:Int)-1⟩,rfl,⟨ei,λd ak=>(A0 d ak).mono bq,⟨by simp only;omega,by simp only;omega⟩⟩,⟨eW,rfl⟩⟩
structure sw(ds:List ap)(JR:List Nat):Prop where
 fits:∀ d∈ds,fits d d.aw.length=true
 aw:∀ j (h:j<ds.length),∀ k∈ds[j].aw,0<=k/\k<j
 diff:h1 (eT ds)
 gL:∀ k∈JR,k<ds.length/\(k:Int) ∉ eT ds
 tc:JR.Nodup
def N1(a b:List ap):eT (a++b)=eT a++eT b:=by unfold eT;rw[hn]
def sw.add{ds:List ap}(h:sw ds (l++bk)){x:ap}(ad:Go.V.fits x x.aw.length=true)(ae:x.aw.Sublist (l.map Int.ofNat)):sw (ds++[x]) (ds.length::bk):=by
 have e8:∀ k∈x.aw,∃ q∈l,k=(q:Int):=λk aN=>by obtain⟨q,aa,ab⟩:=cA.1 (ae.subset aN);exact⟨q,aa,ab.symm⟩
 have fB:eT (ds++[x])=eT ds++x.aw:=by rw[N1];simp[eT]
 have bH:=uJ.1 h.tc;refine⟨λd ak=>?_,λj ai k aN=>?_,?_,λk aN=>?_,?_⟩
 ·rcases cF.1 ak with ak | ak
  ·exact h.fits d ak
  ·rw[ec.1 ak];exact ad
 ·by_cases e:j<ds.length
  ·rw[z3 e]at aN;exact h.aw j e k aN
  ·rw[b3,p8]at ai;have arA:j=ds.length:=by omega
   subst arA;rw[ER (b2 _)]at aN;simp only[p3,List.getElem_singleton]at aN;obtain⟨q,aa,rfl⟩:=e8 k aN;have:=(h.gL q (iD _ aa)).1;omega
 ·rw[fB];refine sb.2 ⟨h.diff,?_,λa a6 b ag=>?_⟩
  ·refine List.Pairwise.sublist ae ?_;refine FD.2 (bH.1.imp λbs e=>bs ?_);exact Int.ofNat.inj e
  ·rintro rfl;obtain⟨q,aa,rfl⟩:=e8 _ ag;exact(h.gL q (iD _ aa)).2 a6
 ·rw[fB];rw[b3,p8];rcases eg.1 aN with rfl | aN
  ·refine⟨by omega,λhm=>?_⟩;rcases cF.1 hm with hm | hm
   ·have:=NA h.aw _ hm;omega
   ·obtain⟨q,aa,e⟩:=e8 _ hm;have:=(h.gL q (iD _ aa)).1;omega
  ·obtain⟨aa,ab⟩:=h.gL k (oY _ aN);refine⟨by omega,λhm=>?_⟩;rcases cF.1 hm with hm | hm
   ·exact ab hm
   ·obtain⟨q,aj,e⟩:=e8 _ hm;have:k=q:=by omega
    subst this;exact bH.2.2 k aj k aN rfl
 ·refine l5.2 ⟨λhm=>?_,bH.2.1⟩;have:=(h.gL _ (oY _ hm)).1;omega
def sw.pick{ds:List ap}(h:sw ds (l++bk)){r:Nat}(af:r∈l):sw ds (r::bk):=by
 have bH:=uJ.1 h.tc;refine⟨h.fits,h.aw,h.diff,λk ae=>?_,l5.2 ⟨λhm=>bH.2.2 r af r hm rfl,bH.2.1⟩⟩;rcases eg.1 ae with rfl | ae
 ·exact h.gL _ (iD _ af)
 ·exact h.gL _ (oY _ ae)
def JS(d:ap)(ds:List ap):∀ l:List Nat,(jQ d ds l).Sublist (l.map Int.ofNat)
 |[]=>.slnil
 |k::l=>by
  show List.Sublist ((bif pJ d (ds.getD k uz)then [(k:Int)]else [])++jQ d ds l) (Int.ofNat k::l.map Int.ofNat);cases pJ d (ds.getD k uz)with
  |true=>exact(JS d ds l).cons₂ _| false=>exact(JS d ds l).cons _
def Us{d:ap}(h:d.k=4\/d.k=5){n m:Int}(aC:2<=n)(hm:2<=m)(aA:Go.V.fits d n=true):Go.V.fits d m=true:=by
 unfold Go.V.fits at aA |-;rcases h with e | e<;>rw[e]at aA |-<;>simp[oj,rT]at aA |-<;>exact⟨⟨hm,.inl (by decide)⟩,aA.2⟩
def sw.join{ds:List ap}(h:sw ds (l++bk)){d:ap}(ak:Go.V.fits d l.length=true)(ai:xt d l ds ds' r):0<=r/\sw ds' (r.toNat::bk):=by
 unfold xt at ai;split at ai
 ·rename_i ew;rcases ai with⟨aa,rfl,ab⟩ | ⟨aa,ab⟩ | ⟨aa,rfl,bO,h2,c',ab⟩
  ·refine⟨by omega,?_⟩;rw[ab,gz];refine h.add ?_ (fk _);rcases ew with e | e
   ·rw[show d.k-4=0 by omega];rfl
   ·rw[show d.k-4=1 by omega];rfl
  ·have af:r∈l.map Int.ofNat:=(JS d ds l).subset (by rw[aa];exact .head _);obtain⟨q,aN,rfl⟩:=cA.1 af;rw[ab];exact⟨ES _,h.pick aN⟩
  ·refine⟨by omega,?_⟩;rw[ab,gz];refine h.add ?_ (JS d ds l);show Go.V.fits d ((jQ d ds l).length:Nat)=true;have ma:(2:Int)<=((jQ d ds l).length:Nat):=by omega
   have pg:(2:Int)<=(l.length:Nat):=by have:=(JS d ds l).length_le;rw[bE]at this;omega
   exact Us ew pg ma ak
 ·obtain⟨rfl,bO,h2,c',ab⟩:=ai;refine⟨by omega,?_⟩;rw[ab,gz];refine h.add ?_ (NE _);show Go.V.fits d ((l.map Int.ofNat).length:Nat)=true;rw[bE];exact ak
def hh(d:ap)(x:aD):Bool:=!decide (d.k=4) || !decide (x.d.k=0)
def JT(d:ap)(xs:List aD):aD:=
 if d.k=4\/d.k=5 then match xs.filter (hh d)with
  |[]=>.mk (nothing (d.k-4)).bare []| [y]=>y| ys=>.mk d ys
 else .mk d xs
def hj(d:ap)(xs:List aD):aD:=JT d.bare xs
def aD.iS(T:aD):aD:=(T.fold hj).bn
def Ut(ns:List ap)(T:aL):(T.bare ns).d=(nodeAt ns T.bh).bare:=by
 cases T with
 |mk k ks=>
 rw[aL.mo];rfl
def arB{ns:List ap}{k:Nat}(h:k<ns.length):ns.getD k uz=nodeAt ns k:=by rw[gg h];simp[bt,h]
def ad1{d:ap}{ds:List ap}:∀ {ks:List aL},(∀ c∈ks,cy ds c)->jQ d ds (ks.map aL.bh)=eM (ks.filter λc=>hh d (c.bare ds))/\(ks.filter λc=>hh d (c.bare ds)).map (aL.bare ds)=(ks.map (aL.bare ds)).filter (hh d)
 |[],_=>⟨rfl,rfl⟩
 |c::ks,h=>by
  obtain⟨aa,ab⟩:=ad1 (d:=d) (ks:=ks) λx ad=>h x (.tail _ ad);have an:=(h c (.head _)).mV;have e:pJ d (ds.getD c.bh uz)=hh d (c.bare ds):=by unfold pJ hh;rw[Ut,ap.adv,arB an]
  have ai:jQ d ds ((c::ks).map aL.bh)=(bif pJ d (ds.getD c.bh uz)then [(c.bh:Int)]else [])++jQ d ds (ks.map aL.bh):=rfl;rw[ai,aa,e,o0,bX,o0];cases hh d (c.bare ds)with
  |true=>exact⟨rfl,by simp[ab]⟩| false=>exact⟨rfl,by simpa using ab⟩
def za(d:ap)(xs:List aD):hj d xs=if d.k=4\/d.k=5 then(match xs.filter (hh d)with
  |[]=>.mk (nothing (d.k-4)).bare []| [y]=>y| ys=>.mk d.bare ys)else .mk d.bare xs:=rfl
def xt.lt{d:ap}{ds:List ap}{ks:List aL}(eZ:∀ c∈ks,cy ds c)(h:xt d (ks.map aL.bh) ds ds' r) :
  (∃ m,ds'=ds++m)/\∃ T:aL,(T.bh:Int)=r/\cy ds' T/\T.bare ds'=hj d (ks.map (aL.bare ds)):=by
 obtain⟨ai,aA⟩:=ad1 (d:=d) eZ;have new:∀ (x:ap) (l:List aL),(∀ c∈l,cy ds c)->x.aw=eM l->cy (ds++[x]) (.mk ds.length l)/\(aL.mk ds.length l).bare (ds++[x])=.mk x.bare (l.map (aL.bare ds)):=λx l ay ad=>by refine⟨.mk (by simp) (by rw[FW,ad];rfl) λc an=>(ay c an).app _,?_⟩;rw[aL.mo,FW];congr 1;exact fO λc an=>aL.Dr ds (ay c an) _
 unfold xt at h;rw[za,<-aA];split at h
 ·rename_i ew;rw[bN ew];rw[ai]at h;have me:∀ c∈ks.filter (λc=>hh d (c.bare ds)),cy ds c:=λc an=>eZ c (iE.1 an).1;generalize ks.filter (λc=>hh d (c.bare ds))=bj at h me;rcases h with⟨aa,rfl,rfl⟩ | ⟨aa,rfl⟩ | ⟨aa,rfl,bO,h2,c',rfl⟩
  ·obtain rfl:bj=[]:=List.map_eq_nil_iff.1 aa;obtain⟨dJ,eO⟩:=new (nothing (d.k-4)) [] (λc an=>by cases an) rfl;exact⟨⟨_,rfl⟩,_,rfl,dJ,eO⟩
  ·match bj,aa with
   |[c],aa=>refine⟨⟨[],by simp⟩,c,?_,me c (.head _),rfl⟩;simpa[eM]using aa
  ·obtain⟨dJ,eO⟩:=new (d.row bO h2 c' (eM bj)) bj me rfl;refine⟨⟨_,rfl⟩,_,rfl,dJ,eO.trans ?_⟩
   match bj,aa with
   |gf::gn::l,aa=>rfl
 ·rename_i ew;rw[bS ew];obtain⟨rfl,bO,h2,c',rfl⟩:=h;obtain⟨dJ,eO⟩:=new (d.row bO h2 c' ((ks.map aL.bh).map Int.ofNat)) ks eZ (by rw[gh];rfl);exact⟨⟨_,rfl⟩,_,rfl,dJ,eO⟩
def sw.perm{ds:List ap}{a b:List Nat}(h:sw ds a)(aB:a.Perm b):sw ds b:=⟨h.fits,h.aw,h.diff,λk ae=>h.gL k (aB.mem_iff.2 ae),aB.nodup_iff.1 h.tc⟩
def vV(ns:List ap)(i:Nat):List Nat:=(List.range i).filter λj=>!decide ((j:Int)∈eT (ns.take i))
def ih(P:List Int)(j:Nat):Nat:=(P.getD j 0).toNat
structure Dw(t:bP)(i:Nat)(ds:List ap)(P:List Int):Prop where
 hi:i<=t.ns.length
 nA:P.length=t.ns.length
 len:ds.length<=i
 iQ:∀ j,j<i->∃ T:aL,(T.bh:Int)=P.getD j 0/\cy ds T/\T.bare ds=(gE t.ns j).fold hj
 wd:sw ds ((vV t.ns i).map (ih P))
def arC(h:hP t){j:Nat}(ai:j<t.ns.length):gE t.ns j=.mk t.ns[j].bare (t.ns[j].aw.map (gE t.ns)):=by
 obtain⟨T,bp,dv,he,-⟩:=h.lt ai;cases T with
 |mk k ks=>
 obtain rfl:k=j:=bp;obtain⟨aa,ab,aj⟩:=dv.inv;rw[he,aL.mo,gg aa];rw[gg aa]at ab;rw[ab,gh];congr 1;exact fO λc an=>(NN h.y7 (aj c an)).symm
def ad2{ns:List ap}(hi:i<ns.length):eT (ns.take (i+1))=eT (ns.take i)++ns[i].aw:=by rw[gy hi,N1];simp[eT]
def JU{ns:List ap}{j:Nat}:j∈vV ns i ↔ j<i/\(j:Int) ∉ eT (ns.take i):=by unfold vV;rw[iE,g8];simp
def Dw.step(af:hP t){ds:List ap}{P:List Int}(h:Dw t i ds P)(hi:i<t.ns.length)(ai:xt t.ns[i] (t.ns[i].aw.map λk=>ih P k.toNat) ds ds' r) :
  Dw t (i+1) ds' (P.set i r):=by
 have qc:=af.aw i hi;obtain⟨ks,tW,eS⟩:=JJ (R:=λ(x:Int) (T:aL)=>T.bh=ih P x.toNat/\cy ds T/\T.bare ds=(gE t.ns x).fold hj) (l:=t.ns[i].aw) λx ad=>by have:=qc x ad;obtain⟨T,aa,ab,aj⟩:=h.iQ x.toNat (by omega);refine⟨T,by unfold ih;omega,ab,?_⟩;rw[show((x.toNat:Nat):Int)=x by omega]at aj;exact aj
 have eZ:∀ c∈ks,cy ds c:=λc an=>by obtain⟨q,aN,rfl⟩:=jv an;exact(eS q (by omega) aN).2.1
 have y9:(t.ns[i].aw.map λk=>ih P k.toNat)=ks.map aL.bh:=by refine lC (by simp[tW]) λq aN vq=>?_;rw[fr,fr];exact(eS q (by simpa using aN) (by simpa using vq)).1.symm
 have tV:ks.map (aL.bare ds)=t.ns[i].aw.map λx=>(gE t.ns x).fold hj:=by refine lC (by simp[tW]) λq aN vq=>?_;rw[fr,fr];exact(eS q (by simpa using vq) (by simpa using aN)).2.2
 have iC:=ai;rw[y9]at iC;obtain⟨⟨m,rfl⟩,T,jK,iw,oK⟩:=iC.lt eZ;have hold:∀ j,j≠i->(P.set i r).getD j 0=P.getD j 0:=λj bs=>by rw[bt,bt,iu,bS (λe=>bs e.symm)]
 have fg:(P.set i r).getD i 0=r:=by rw[bt,iu,bN rfl,bN (by have:=h.nA;omega)];rfl
 have ff:∀ x∈t.ns[i].aw,0<=x/\x<i:=qc;have hV:h1 (eT (t.ns.take (i+1))):=by
  have e:eT t.ns=eT (t.ns.take (i+1))++eT (t.ns.drop (i+1)):=by rw[<-N1,rY]
  have:=af.diff;rw[e]at this;exact(sb.1 this).1
 rw[ad2 hi]at hV;obtain⟨d1,d2,d3⟩:=sb.1 hV;have arD:(t.ns[i].aw.map Int.toNat).Nodup:=by refine FD.2 (d2.imp_of_mem ?_);intro a b a6 ag bs e;have:=ff a a6;have:=ff b ag;exact bs (by omega)
 obtain⟨bk,tH⟩:∃ bk,(vV t.ns i).filter (λj=>!decide (j∈t.ns[i].aw.map Int.toNat))=bk:=⟨_,rfl⟩;have z2:(vV t.ns i).Nodup:=xZ.sublist zM;have arE:(vV t.ns (i+1)).Nodup:=xZ.sublist zM;have A':∀ j,j∈bk ↔ j∈vV t.ns i/\j ∉ t.ns[i].aw.map Int.toNat:=λj=>by rw[<-tH,iE];simp
 have arF:(vV t.ns i).Perm (t.ns[i].aw.map Int.toNat++bk):=by
  refine(ND z2 (uJ.2 ⟨arD,by rw[<-tH];exact z2.sublist zM,λa a6 b ag e=>?_⟩)).2 λj=>?_;·subst e;exact((A' a).1 ag).2 a6
  ·rw[cF,A'];constructor
   ·intro ai;by_cases e:j∈t.ns[i].aw.map Int.toNat
    ·exact .inl e
    ·exact .inr ⟨ai,e⟩
   ·rintro(ai | ai)
    ·obtain⟨x,ad,rfl⟩:=cA.1 ai;have:=ff x ad;refine JU.2 ⟨by omega,λhm=>?_⟩;rw[show((x.toNat:Nat):Int)=x by omega]at hm;exact d3 x hm x ad rfl
    ·exact ai.1
 have SF:(vV t.ns (i+1)).Perm (i::bk):=by
  refine(ND arE (l5.2 ⟨λhm=>?_,by rw[<-tH];exact z2.sublist zM⟩)).2 λj=>?_;·have:=(JU.1 ((A' i).1 hm).1).1;omega
  ·rw[eg,A',JU,JU,ad2 hi,cF];constructor
   ·rintro⟨aa,ab⟩;by_cases e:j=i
    ·exact .inl e
    ·refine .inr ⟨⟨by omega,λaj=>ab (.inl aj)⟩,λaj=>ab (.inr ?_)⟩;obtain⟨x,ad,rfl⟩:=cA.1 aj;have:=ff x ad;rw[show((x.toNat:Nat):Int)=x by omega];exact ad
   ·rintro(rfl | ⟨⟨aa,ab⟩,aj⟩)
    ·refine⟨by omega,λaG=>?_⟩;rcases aG with aG | aG
     ·obtain⟨d,ak,ad⟩:=g6.1 aG;obtain⟨q,aN,rfl⟩:=jv ak;rw[hT]at aN;rw[List.getElem_take]at ad;have:=af.aw q (by omega) _ ad;omega
     ·have:=ff _ aG;omega
    ·refine⟨by omega,λaG=>?_⟩;rcases aG with aG | aG
     ·exact ab aG
     ·exact aj (cA.2 ⟨(j:Int),aG,by omega⟩)
 have hw:=h.wd.perm ((arF.map (ih P)).trans (by rw[cP,gh]));have jH:Go.V.fits t.ns[i] ((t.ns[i].aw.map λk=>ih P k.toNat).length:Nat)=true:=by rw[bE];exact af.fits i hi
 obtain⟨pV,arG⟩:=hw.join jH ai;refine⟨hi,by rw[n4];exact h.nA,?_,λj ai=>?_,?_⟩
 ·have:m.length<=1:=by
   unfold xt at ai;split at ai
   ·rcases ai with⟨-,-,e⟩ | ⟨-,e⟩ | ⟨-,-,bO,h2,c',e⟩
    ·rw[T6 e];simp
    ·have:m=[]:=by simpa using e
     rw[this];simp
    ·rw[T6 e];simp
   ·obtain⟨-,bO,h2,c',e⟩:=ai;rw[T6 e];simp
  have:=h.len;rw[b3];omega
 ·by_cases e:j=i
  ·subst e;refine⟨T,by rw[fg];exact jK,iw,?_⟩;rw[oK,tV,arC af hi,aD.fold_eq,gh];rfl
  ·obtain⟨S,aa,ab,aj⟩:=h.iQ j (by omega);exact⟨S,by rw[hold j e];exact aa,ab.app m,by rw[aL.Dr ds ab];exact aj⟩
 ·refine arG.perm ?_;have aJ:(i::bk).map (ih (P.set i r))=r.toNat::bk.map (ih P):=by
   rw[bX];congr 1;·unfold ih;rw[fg]
   ·refine fO λj ai=>?_;have:=(JU.1 ((A' j).1 ai).1).1;unfold ih;rw[hold j (by omega)]
  rw[<-aJ];exact(SF.map _).symm
def Dw.start(t:bP):Dw t 0 [] (List.replicate t.ns.length 0):=⟨dw _,sO,b2 _,λj ai=>absurd ai (mS _),⟨(λd ak=>by cases ak),λj h=>absurd h (mS _),List.Pairwise.nil,(λk ae=>by simp[vV]at ae),by simp[vV]⟩⟩
def dh.arH(I:aM):dh I (ib.a.map λg=>⟨g,0,none⟩) ib.n ib.c 1 8 (([]:List Int).map (.int .i64 ·)):=⟨rfl,⟨b2 _,dw _⟩,.inl rfl⟩
def arI(af:hP t)(hi:i<t.ns.length):t.ns[i].aw.length<=i:=by
 have ae:=af.aw i hi;have ak:h1 t.ns[i].aw:=by rw[<-gg hi];exact adl af.diff hi
 have aa:(t.ns[i].aw.map Int.toNat).Nodup:=by refine FD.2 (ak.imp_of_mem ?_);intro a b a6 ag bs e;have:=ae a a6;have:=ae b ag;exact bs (by omega)
 have:=NH (n:=i) aa λx ad=>by obtain⟨y,aH,rfl⟩:=cA.1 ad;have:=ae y aH;omega
 rwa [bE]at this
def arJ(bp:fW I al)(ax:t.ok I)(af:right t=true)(aC:t.n<=1099511627776) :
  Spec Tryz.prog 15 [t.val] I [] λv I' M'=>(∀ b o,I b=some o->I' b=some o)/\M'=[]/\∃ bo:bP,v=.tuple #[bo.val,.bool true]/\bo.ok I'/\oJ bo (bV t).iS:=by
 refine zt [4] a7 Tryz.func15 rfl rfl rfl ?_;intro B az;have aV:=lP.1 af;have hK:=ax.n;have jJ:=ax.a2.cap;refine bd.mk [] [] _ (.refl _) (qM bp.c ax) ?_;rintro v J N -⟨rfl,bl,rfl⟩;subst J;rw[af];refine a3.mk (λh=>by cases h) (λ_=>?_);refine b'.mk λp4 IL yR=>?_;refine bd.mk [] _ _ (.refl _) aq2 ?_;rintro v J N -⟨rfl,bl,rfl⟩;subst J;refine m0.mk t.n t.n rfl rfl (b2 _) (by show 8*t.n<=_;omega) (by omega) ?_;refine b'.mk λb6 Ck Uu=>?_;have kt:(rowOf [Value.int .i64 0] (t.n*1))=(List.replicate t.ns.length (0:Int)).map (Value.int .i64):=by rw[tL,xY,fa,hK]
 have Uo:∀ x∈(([]:List aE).map (·.num)),False:=λx ad=>by cases ad
 refine dg.wo (ι:=Nat×List Int×aY×List ap×aM) (λx=>{ bj:=[(1,.ref 1 0),(2,.ref 2 0),(4,.val (ptr p4)),(5,.ref 5 0),(6,.val (.slice (some ⟨b6,0,none⟩) t.n t.n)),(22,.val (.slice t.a t.n t.c)),(23,.val (.int .i64 t.n)),(24,.val (.int .i64 x.1))],cl:=[(1,t.cells),(2,[.slice none 0 0,.int .i64 0]),(5,Ui)],cI:=x.2.2.2.2,de:=dG b6 x.2.1::cp.ar ⟨p4,x.2.2.1,x.2.2.2.1⟩ }) (λx=>Dw t x.1 x.2.2.2.1 x.2.1/\cp.ok x.2.2.2.2 ⟨p4,x.2.2.1,x.2.2.2.1⟩/\∀ b o,I b=some o->x.2.2.2.2 b=some o) (λx=>t.n-x.1) ?_ ?_
 ·intro _;refine⟨(0,List.replicate t.ns.length 0,ib,[],I),⟨Dw.start t,⟨lM 9,rfl,(λd ak=>by cases ak)⟩,λ_ _ h=>h⟩,.pu ?_,k5,.cons rfl (.cons rfl (.cons rfl (.nil)))⟩;rw[kt];rfl
 rintro⟨i,P,os,ds,J⟩⟨bz,bw,bl⟩;simp only at bz bw bl;have AZ:=bz.nA;have dL:=bz.hi;have z1:=bz.len;refine a3.mk (λh=>?_) (λh=>?_)
 ·have a1:(i:Int)<t.n:=dB h;have e8:i<t.ns.length:=by omega
  obtain⟨lK,lL,hy⟩:=(ax.a2.mono bl).row ap.cT (j:=i) (by omega) e8;have ak:=(ax.ns _ (bi e8)).mono bl;have js:=aV.aw i e8;have ml:=arI aV e8;have iM:=λds' r=>bz.step aV e8 (ds':=ds') (r:=r);generalize fu:t.ns[i]=d at ak hy js ml iM;have ff:=ak.aO;have r9:=ak.a2.cap;refine bf.mk lK i lL rfl (by omega) ?_;refine aR.mk _ (hy _) ?_;refine dg.wo (ι:=Nat×aY×List Int×aM×List aE) (λy=>{ bj:=[(1,.ref 1 0),(2,.ref 2 0),(4,.val (ptr p4)),(5,.ref 5 0),(6,.val (.slice (some ⟨b6,0,none⟩) t.n t.n)),(7,.val (.int .i64 i)),(8,.ref 8 0),(9,.val y.2.1.val),(22,.val (.slice t.a t.n t.c)),(23,.val (.int .i64 t.n)),(24,.val (.int .i64 i)),(30,.val (.slice d.dE d.aO d.du)),(31,.val (.int .i64 d.aO)),(32,.val (.int .i64 y.1))],cl:=[(1,t.cells),(2,[.slice none 0 0,.int .i64 0]),(5,Ui),(8,d.cells)],cI:=y.2.2.2.1,de:=y.2.2.2.2++(dG b6 P::cp.ar ⟨p4,os,ds⟩) }) (λy=>adU d P (y.1,y.2.1,y.2.2.1)/\((y.1<d.aO/\y.2.2.2.1=J/\y.2.2.2.2=y.2.1.ar 3)\/(y.1=d.aO/\(∀ b o,J b=some o->y.2.2.2.1 b=some o)/\y.2.2.2.2=[]/\dh y.2.2.2.1 (y.2.1.a.map λg=>⟨g,0,none⟩) y.2.1.n y.2.1.c 1 8 (y.2.2.1.map (.int .i64 ·))))) (λy=>d.aO-y.1) ?_ ?_
  ·intro _;refine⟨(0,ib,[],J,[]),⟨⟨dw _,lM 1,by simp⟩,?_⟩,.refl,GV,.cons rfl (.cons rfl (.cons rfl (.cons rfl (.nil))))⟩;by_cases dd:0<d.aO
   ·exact .inl ⟨dd,rfl,rfl⟩
   ·exact .inr ⟨by simp only;omega,λ_ _ h=>h,rfl,dh.arH _⟩
  rintro⟨k,eo,gH,iy,ad3⟩⟨⟨hg,kQ,cv⟩,Uv⟩;simp only at hg kQ cv Uv;have arw:=kQ.nt;have EG:gH.length=k:=by rw[cv,bE,hT];omega
  refine a3.mk (λab=>?_) (λab=>?_)
  ·have N0:k<d.aO:=by have:(k:Int)<(d.aO:Int):=dB ab;omega
   obtain⟨rfl,rfl⟩:iy=J/\ad3=eo.ar 3:=by
    rcases Uv with⟨-,aa,aj⟩ | ⟨aa,-⟩;·exact⟨aa,aj⟩
    ·omega
   have k4:k<d.aw.length:=by omega
   have ah:=js _ (bi k4);have vR:d.aw[k].toNat<P.length:=by omega
   have Dm:P.getD d.aw[k].toNat 0=P[d.aw[k].toNat]:=by simp[bt,vR]
   have Dv:dh iy d.dE d.aO d.du 1 8 (d.aw.flatMap kx):=by rw[rh];exact ak.a2
   obtain⟨gr,fB,eY⟩:=Dv.row (f:=kx) (λ_=>rfl) (j:=k) (by omega) k4;refine bf.mk gr k fB rfl (show k<d.aO by omega) ?_;refine aR.mk _ (eY _) ?_;refine bf.mk ⟨b6,0,none⟩ d.aw[k].toNat rfl (by omega) (by omega) ?_;refine aR.mk _ (Hp (by simp) vR) ?_;refine b'.mk λUp Uq arx=>?_;refine bB.pw a7 rfl (by simp) (e:=3) rfl rfl rfl eo kQ rfl (cs:=[.int .i64 P[d.aw[k].toNat]]) rfl rfl rfl [] (dG b6 P::cp.ar ⟨p4,os,ds⟩) rfl (by omega) (by show(eo.n+1)*8<=_;omega) ?_;intro q2 ad0 ary Ur;refine bg.mk _ (cL (i:=k) (by omega)) ?_;have Uw:q2.ok 1 ((gH++[P[d.aw[k].toNat]]).map (.int .i64 ·)):=by rw[cP];exact Ur
   have ad4:gH++[P[d.aw[k].toNat]]=(d.aw.take (k+1)).map (λk=>P.getD k.toNat 0):=by rw[cv,gy k4,cP,te,Dm]
   intro fJ;by_cases dd:k+1<d.aO;·exact⟨(k+1,q2,gH++[P[d.aw[k].toNat]],iy,q2.ar 3),⟨⟨⟨N0,Uw,ad4⟩,.inl ⟨dd,rfl,rfl⟩⟩,by simp only;omega⟩,.refl,GV,.cons rfl (.cons rfl (.cons rfl (.cons rfl (.nil))))⟩
   ·have av:=mu.F2 (os:=q2) (e:=3) (foot:=[]) fJ (.refl _) (λx ad=>by cases ad);obtain⟨l0,hw,bq,ei,-⟩:=aY.Ad (b:=8) (e:=3) Uw (by rw[ad0];omega) av (dG b6 P::cp.ar ⟨p4,os,ds⟩);exact⟨(k+1,q2,gH++[P[d.aw[k].toNat]],l0,[]),⟨⟨⟨N0,Uw,ad4⟩,.inr ⟨by simp only;omega,bq,rfl,ei⟩⟩,by simp only;omega⟩,hw _ _ .refl,GV,.cons rfl (.cons rfl (.cons rfl (.cons rfl (.nil))))⟩
  have cJ:k=d.aO:=by have:¬ (k:Int)<(d.aO:Int):=eu ab;omega
  obtain⟨h3,rfl,ei⟩:(∀ b o,J b=some o->iy b=some o)/\ad3=[]/\dh iy (eo.a.map λg=>⟨g,0,none⟩) eo.n eo.c 1 8 (gH.map (.int .i64 ·)):=by
   rcases Uv with⟨aa,-⟩ | ⟨-,aa,aj,aG⟩;·omega
   ·exact⟨aa,aj,aG⟩
  subst cJ;rw[fN (by omega)]at cv;have kG:∀ x∈d.aw.map (λk=>ih P k.toNat),x<ds.length:=λx ad=>by obtain⟨y,aH,rfl⟩:=cA.1 ad;have:=js y aH;obtain⟨T,aa,ab,-⟩:=bz.iQ y.toNat (by omega);have:=ab.mV;unfold ih;omega
  have NU:gH=(d.aw.map (λk=>ih P k.toNat)).map Int.ofNat:=by rw[cv,gh];refine fO λy aH=>?_;have:=js y aH;obtain⟨T,aa,ab,-⟩:=bz.iQ y.toNat (by omega);show P.getD y.toNat 0=((ih P y.toNat:Nat):Int);unfold ih;omega
  rw[NU]at ei;have NZ:=bw.mono h3;have Ux:=ak.mono h3;have nq:=λj ai ae=>aq3 (A:=⟨p4,os,ds⟩) NZ (by simp only;omega) Ux kG (by rw[bE];omega) ei j ai ae;clear cv NU;obtain⟨di,cC,s1,s2,c0,gp,Uy,Uz,uf,ug,uh,ui⟩:=d;have EO:di=0\/di=1\/di=2\/di=3\/di=4\/di=5\/di=6\/di=7\/di=8\/di=9:=by have aa:=Q8 (aV.fits i e8);rw[fu]at aa;have ab:=ak.k;simp only at aa ab;omega
  rcases EO with rfl | rfl | rfl | rfl | rfl | rfl | rfl | rfl | rfl | rfl
  ·refine c4.draw a7 rfl rfl rfl ?_;refine eH.mk 0 rfl (by decide) ?_;refine eR.uZ rfl (cp.ar ⟨p4,os,ds⟩) [dG b6 P] _ ?_ (nq 0 (by decide) rfl) ?_
   ·exact(eI (l₁:=[dG b6 P]))
   rintro v dp dm dW⟨-,bu,ds',r,rfl,kZ,rfl,nI⟩;refine bf.mk ⟨b6,0,none⟩ i rfl rfl (by omega) ?_;refine b8.iJ (cp.ar ⟨p4,bu,ds'⟩) [] (P.map (Value.int .i64)) 3 rfl (by rw[n5,bE];show 0+i*1+1<=_;omega) rfl ((P.set i r).map (Value.int .i64)) (by rw[cX,fa];exact o8 P i (by omega) r) ?_;refine bg.mk _ (cL (i:=i) (by omega)) ?_;intro _;exact⟨(i+1,P.set i r,bu,ds',dp),⟨⟨iM _ _ nI,kZ,λb o h=>dW _ _ (h3 _ _ (bl _ _ h))⟩,by simp only;omega⟩,.perm (eI (l₁:=cp.ar ⟨p4,bu,ds'⟩)) .refl,k5,.cons rfl (.cons rfl (.cons rfl (.nil)))⟩
  ·refine c4.draw a7 rfl rfl rfl ?_;refine eH.mk 1 rfl (by decide) ?_;refine eR.uZ rfl (cp.ar ⟨p4,os,ds⟩) [dG b6 P] _ ?_ (nq 1 (by decide) rfl) ?_
   ·exact(eI (l₁:=[dG b6 P]))
   rintro v dp dm dW⟨-,bu,ds',r,rfl,kZ,rfl,nI⟩;refine bf.mk ⟨b6,0,none⟩ i rfl rfl (by omega) ?_;refine b8.iJ (cp.ar ⟨p4,bu,ds'⟩) [] (P.map (Value.int .i64)) 3 rfl (by rw[n5,bE];show 0+i*1+1<=_;omega) rfl ((P.set i r).map (Value.int .i64)) (by rw[cX,fa];exact o8 P i (by omega) r) ?_;refine bg.mk _ (cL (i:=i) (by omega)) ?_;intro _;exact⟨(i+1,P.set i r,bu,ds',dp),⟨⟨iM _ _ nI,kZ,λb o h=>dW _ _ (h3 _ _ (bl _ _ h))⟩,by simp only;omega⟩,.perm (eI (l₁:=cp.ar ⟨p4,bu,ds'⟩)) .refl,k5,.cons rfl (.cons rfl (.cons rfl (.nil)))⟩
  ·refine c4.draw a7 rfl rfl rfl ?_;refine eH.mk 2 rfl (by decide) ?_;refine eR.uZ rfl (cp.ar ⟨p4,os,ds⟩) [dG b6 P] _ ?_ (nq 2 (by decide) rfl) ?_
   ·exact(eI (l₁:=[dG b6 P]))
   rintro v dp dm dW⟨-,bu,ds',r,rfl,kZ,rfl,nI⟩;refine bf.mk ⟨b6,0,none⟩ i rfl rfl (by omega) ?_;refine b8.iJ (cp.ar ⟨p4,bu,ds'⟩) [] (P.map (Value.int .i64)) 3 rfl (by rw[n5,bE];show 0+i*1+1<=_;omega) rfl ((P.set i r).map (Value.int .i64)) (by rw[cX,fa];exact o8 P i (by omega) r) ?_;refine bg.mk _ (cL (i:=i) (by omega)) ?_;intro _;exact⟨(i+1,P.set i r,bu,ds',dp),⟨⟨iM _ _ nI,kZ,λb o h=>dW _ _ (h3 _ _ (bl _ _ h))⟩,by simp only;omega⟩,.perm (eI (l₁:=cp.ar ⟨p4,bu,ds'⟩)) .refl,k5,.cons rfl (.cons rfl (.cons rfl (.nil)))⟩
  ·refine c4.draw a7 rfl rfl rfl ?_;refine eH.mk 3 rfl (by decide) ?_;refine eR.uZ rfl (cp.ar ⟨p4,os,ds⟩) [dG b6 P] _ ?_ (nq 3 (by decide) rfl) ?_
   ·exact(eI (l₁:=[dG b6 P]))
   rintro v dp dm dW⟨-,bu,ds',r,rfl,kZ,rfl,nI⟩;refine bf.mk ⟨b6,0,none⟩ i rfl rfl (by omega) ?_;refine b8.iJ (cp.ar ⟨p4,bu,ds'⟩) [] (P.map (Value.int .i64)) 3 rfl (by rw[n5,bE];show 0+i*1+1<=_;omega) rfl ((P.set i r).map (Value.int .i64)) (by rw[cX,fa];exact o8 P i (by omega) r) ?_;refine bg.mk _ (cL (i:=i) (by omega)) ?_;intro _;exact⟨(i+1,P.set i r,bu,ds',dp),⟨⟨iM _ _ nI,kZ,λb o h=>dW _ _ (h3 _ _ (bl _ _ h))⟩,by simp only;omega⟩,.perm (eI (l₁:=cp.ar ⟨p4,bu,ds'⟩)) .refl,k5,.cons rfl (.cons rfl (.cons rfl (.nil)))⟩
  ·refine c4.draw a7 rfl rfl rfl ?_;refine eH.mk 4 rfl (by decide) ?_;refine eR.uZ rfl (cp.ar ⟨p4,os,ds⟩) [dG b6 P] _ ?_ (nq 4 (by decide) rfl) ?_
   ·exact(eI (l₁:=[dG b6 P]))
   rintro v dp dm dW⟨-,bu,ds',r,rfl,kZ,rfl,nI⟩;refine bf.mk ⟨b6,0,none⟩ i rfl rfl (by omega) ?_;refine b8.iJ (cp.ar ⟨p4,bu,ds'⟩) [] (P.map (Value.int .i64)) 3 rfl (by rw[n5,bE];show 0+i*1+1<=_;omega) rfl ((P.set i r).map (Value.int .i64)) (by rw[cX,fa];exact o8 P i (by omega) r) ?_;refine bg.mk _ (cL (i:=i) (by omega)) ?_;intro _;exact⟨(i+1,P.set i r,bu,ds',dp),⟨⟨iM _ _ nI,kZ,λb o h=>dW _ _ (h3 _ _ (bl _ _ h))⟩,by simp only;omega⟩,.perm (eI (l₁:=cp.ar ⟨p4,bu,ds'⟩)) .refl,k5,.cons rfl (.cons rfl (.cons rfl (.nil)))⟩
  ·refine c4.draw a7 rfl rfl rfl ?_;refine eH.mk 5 rfl (by decide) ?_;refine eR.uZ rfl (cp.ar ⟨p4,os,ds⟩) [dG b6 P] _ ?_ (nq 5 (by decide) rfl) ?_
   ·exact(eI (l₁:=[dG b6 P]))
   rintro v dp dm dW⟨-,bu,ds',r,rfl,kZ,rfl,nI⟩;refine bf.mk ⟨b6,0,none⟩ i rfl rfl (by omega) ?_;refine b8.iJ (cp.ar ⟨p4,bu,ds'⟩) [] (P.map (Value.int .i64)) 3 rfl (by rw[n5,bE];show 0+i*1+1<=_;omega) rfl ((P.set i r).map (Value.int .i64)) (by rw[cX,fa];exact o8 P i (by omega) r) ?_;refine bg.mk _ (cL (i:=i) (by omega)) ?_;intro _;exact⟨(i+1,P.set i r,bu,ds',dp),⟨⟨iM _ _ nI,kZ,λb o h=>dW _ _ (h3 _ _ (bl _ _ h))⟩,by simp only;omega⟩,.perm (eI (l₁:=cp.ar ⟨p4,bu,ds'⟩)) .refl,k5,.cons rfl (.cons rfl (.cons rfl (.nil)))⟩
  ·refine c4.draw a7 rfl rfl rfl ?_;refine eH.mk 6 rfl (by decide) ?_;refine eR.uZ rfl (cp.ar ⟨p4,os,ds⟩) [dG b6 P] _ ?_ (nq 6 (by decide) rfl) ?_
   ·exact(eI (l₁:=[dG b6 P]))
   rintro v dp dm dW⟨-,bu,ds',r,rfl,kZ,rfl,nI⟩;refine bf.mk ⟨b6,0,none⟩ i rfl rfl (by omega) ?_;refine b8.iJ (cp.ar ⟨p4,bu,ds'⟩) [] (P.map (Value.int .i64)) 3 rfl (by rw[n5,bE];show 0+i*1+1<=_;omega) rfl ((P.set i r).map (Value.int .i64)) (by rw[cX,fa];exact o8 P i (by omega) r) ?_;refine bg.mk _ (cL (i:=i) (by omega)) ?_;intro _;exact⟨(i+1,P.set i r,bu,ds',dp),⟨⟨iM _ _ nI,kZ,λb o h=>dW _ _ (h3 _ _ (bl _ _ h))⟩,by simp only;omega⟩,.perm (eI (l₁:=cp.ar ⟨p4,bu,ds'⟩)) .refl,k5,.cons rfl (.cons rfl (.cons rfl (.nil)))⟩
  ·refine c4.draw a7 rfl rfl rfl ?_;refine eH.mk 7 rfl (by decide) ?_;refine eR.uZ rfl (cp.ar ⟨p4,os,ds⟩) [dG b6 P] _ ?_ (nq 7 (by decide) rfl) ?_
   ·exact(eI (l₁:=[dG b6 P]))
   rintro v dp dm dW⟨-,bu,ds',r,rfl,kZ,rfl,nI⟩;refine bf.mk ⟨b6,0,none⟩ i rfl rfl (by omega) ?_;refine b8.iJ (cp.ar ⟨p4,bu,ds'⟩) [] (P.map (Value.int .i64)) 3 rfl (by rw[n5,bE];show 0+i*1+1<=_;omega) rfl ((P.set i r).map (Value.int .i64)) (by rw[cX,fa];exact o8 P i (by omega) r) ?_;refine bg.mk _ (cL (i:=i) (by omega)) ?_;intro _;exact⟨(i+1,P.set i r,bu,ds',dp),⟨⟨iM _ _ nI,kZ,λb o h=>dW _ _ (h3 _ _ (bl _ _ h))⟩,by simp only;omega⟩,.perm (eI (l₁:=cp.ar ⟨p4,bu,ds'⟩)) .refl,k5,.cons rfl (.cons rfl (.cons rfl (.nil)))⟩
  ·refine c4.draw a7 rfl rfl rfl ?_;refine eH.mk 8 rfl (by decide) ?_;refine eR.uZ rfl (cp.ar ⟨p4,os,ds⟩) [dG b6 P] _ ?_ (nq 8 (by decide) rfl) ?_
   ·exact(eI (l₁:=[dG b6 P]))
   rintro v dp dm dW⟨-,bu,ds',r,rfl,kZ,rfl,nI⟩;refine bf.mk ⟨b6,0,none⟩ i rfl rfl (by omega) ?_;refine b8.iJ (cp.ar ⟨p4,bu,ds'⟩) [] (P.map (Value.int .i64)) 3 rfl (by rw[n5,bE];show 0+i*1+1<=_;omega) rfl ((P.set i r).map (Value.int .i64)) (by rw[cX,fa];exact o8 P i (by omega) r) ?_;refine bg.mk _ (cL (i:=i) (by omega)) ?_;intro _;exact⟨(i+1,P.set i r,bu,ds',dp),⟨⟨iM _ _ nI,kZ,λb o h=>dW _ _ (h3 _ _ (bl _ _ h))⟩,by simp only;omega⟩,.perm (eI (l₁:=cp.ar ⟨p4,bu,ds'⟩)) .refl,k5,.cons rfl (.cons rfl (.cons rfl (.nil)))⟩
  ·refine c4.draw a7 rfl rfl rfl ?_;refine eH.mk 9 rfl (by decide) ?_;refine eR.uZ rfl (cp.ar ⟨p4,os,ds⟩) [dG b6 P] _ ?_ (nq 9 (by decide) rfl) ?_
   ·exact(eI (l₁:=[dG b6 P]))
   rintro v dp dm dW⟨-,bu,ds',r,rfl,kZ,rfl,nI⟩;refine bf.mk ⟨b6,0,none⟩ i rfl rfl (by omega) ?_;refine b8.iJ (cp.ar ⟨p4,bu,ds'⟩) [] (P.map (Value.int .i64)) 3 rfl (by rw[n5,bE];show 0+i*1+1<=_;omega) rfl ((P.set i r).map (Value.int .i64)) (by rw[cX,fa];exact o8 P i (by omega) r) ?_;refine bg.mk _ (cL (i:=i) (by omega)) ?_;intro _;exact⟨(i+1,P.set i r,bu,ds',dp),⟨⟨iM _ _ nI,kZ,λb o h=>dW _ _ (h3 _ _ (bl _ _ h))⟩,by simp only;omega⟩,.perm (eI (l₁:=cp.ar ⟨p4,bu,ds'⟩)) .refl,k5,.cons rfl (.cons rfl (.cons rfl (.nil)))⟩
 ·have cJ:i=t.ns.length:=by have:¬ (i:Int)<(t.n:Int):=eu h;omega
  subst cJ;obtain⟨kw,hO⟩:=aV.bA;obtain⟨r,fE⟩:=ea kw;have fC:r<t.ns.length:=by omega
  obtain⟨T,jK,iw,oK⟩:=bz.iQ r fC;have arK:P[r]'(by omega)=(T.bh:Int):=by rw[jK,bt,db (by omega)];rfl
  refine bf.mk ⟨b6,0,none⟩ r rfl fE (by omega) ?_;refine aR.mk _ (Hq (by omega) arK (.head _)) ?_;have ng:=arp bw (by simp only;omega) bz.wd.aw bz.wd.diff iw;refine bd.mk (cp.ar ⟨p4,os,ds⟩) [dG b6 P] _ (eI (l₁:=[dG b6 P])) ng ?_;rintro v dp dm -⟨dW,rfl,bo,rfl,tb,dK⟩;intro _;refine⟨_,_,.sub (fk _) .refl,λb o h=>dW _ _ (bl _ _ h),rfl,bo,rfl,tb,?_⟩;rw[show(bV t).iS=(T.bare ds).bn from by rw[oK];unfold aD.iS bV;rw[fE]];exact dK
section
end
def ad5{d:ap}(h:d.k=0)(aA:Go.V.fits d n=true):n=0:=by unfold Go.V.fits at aA;rw[h]at aA;simp[oj,rT]at aA;have aa:kJ[0]?.getD 0=0:=rfl;have ab:kJ[1]?.getD 0=0:=rfl;rw[aa,ab]at aA;omega
def arL{M0:List aE}(bp:fW I al)(ax:t.ok I)(af:right t=true)(aC:t.n<=1099511627776) :
  Spec Tryz.prog 15 [t.val] I M0 λv I' M'=>(∀ b o,I b=some o->I' b=some o)/\M'=M0/\∃ bo:bP,v=.tuple #[bo.val,.bool true]/\bo.ok I'/\oJ bo (bV t).iS:=by
 refine(Spec.frame (arJ bp ax af aC)).NO ?_;rintro v I' M'⟨M1,rfl,-,-,aa,rfl,ab⟩;exact⟨aa,rfl,ab⟩
def F4{d:ap}(h:d.k=4\/d.k=5)(aA:Go.V.fits d n=true):2<=n:=by
 unfold Go.V.fits at aA;rcases h with e | e<;>rw[e]at aA<;>simp[oj,rT]at aA<;>have:=aA.1.1<;>simp[kJ]at this<;>omega
def arM{d:ap}(h:d.k=4\/d.k=5):fG (.mk (nothing (d.k-4)).bare []):=by
 refine .mk ?_ λc an=>by cases an
 rcases h with e | e
 ·rw[show d.k-4=0 by omega];rfl
 ·rw[show d.k-4=1 by omega];rfl
def arN{d:ap}{xs:List aD}(aA:Go.V.fits d xs.length=true)(ad:∀ x∈xs,fG x):fG (JT d xs):=by
 unfold JT;split
 ·rename_i ew;have ab:=F4 ew aA;have au:∀ y∈xs.filter (hh d),fG y:=λy aH=>ad y (iE.1 aH).1;generalize xs.filter (hh d)=bj at au
  match bj,au with
  |[],_=>exact arM ew| [y],au=>exact au y (.head _)| tg::th::l,au=>exact .mk (Us ew (n:=(xs.length:Nat)) (by omega) (by simp;omega) aA) au
 ·exact .mk aA ad
def ad6:∀ {T:aD},fG T->fG (T.fold hj):=by
 intro T
 induction T using aD.ind with
 |h d ks aF=>intro h;rw[aD.fold_eq];refine arN (by rw[bE];exact h.inv.1) λx ad=>?_;obtain⟨c,an,rfl⟩:=cA.1 ad;exact aF c an (h.inv.2 c an)
def N2(cd:Option Int):Prop:=cd=none\/cd=some 4\/cd=some 5
def UA(d:ap):N2 (gR d):=by
 unfold gR N2;split
 ·rename_i h;rcases h with e | e<;>rw[e]<;>simp
 ·exact .inl rfl
def UB{α β:Type}{f:α->β}:∀ l:List α,l.map f=l.flatMap λc=>[f c]
 |[]=>rfl| a::l=>by rw[bX,UB l];rfl
def UC{α β:Type}{f:α->List β}:∀ {l:List α},(∀ x∈l,1<=(f x).length)->l.length<=(l.flatMap f).length
 |[],_=>b2 _| a::l,h=>by have:=UC (l:=l) λx ad=>h x (.tail _ ad);have:=h a (.head _);rw[jT,b3,c2];omega
def arO:∀ {T:aD},fG T->(∀ cd,N2 cd->1<=(T.e0 cd).length/\∀ U∈T.e0 cd,fG U)/\fG T.bn:=by
 intro T
 induction T using aD.ind with
 |h d ks aF=>
  intro h;obtain⟨aA,ae⟩:=h.inv;have ky:fG (aD.mk d ks).bn:=by
   show fG (.mk d (ks.flatMap (aD.e0 (gR d))));have aa:=UC (f:=aD.e0 (gR d)) λc an=>((aF c an (ae c an)).1 _ (UA d)).1;refine .mk ?_ λU ef=>?_
   ·by_cases ew:d.k=4\/d.k=5
    ·have:=F4 ew aA;exact Us ew (n:=(ks.length:Nat)) (by omega) (by omega) aA
    ·have e:gR d=none:=bS ew;have a4:ks.flatMap (aD.e0 (gR d))=ks.map aD.bn:=by
      rw[e];rw[UB];refine se λc _=>?_;cases c with
      |mk gO st=>rw[aD.oH,bS (by simp)]
     rw[a4,bE];exact aA
   ·obtain⟨c,an,ef⟩:=g6.1 ef;exact((aF c an (ae c an)).1 _ (UA d)).2 U ef
  refine⟨λcd jo=>?_,ky⟩;rw[aD.oH];split
  ·rename_i e;have ew:d.k=4\/d.k=5:=by
    rcases jo with h | h | h<;>rw[h]at e
    ·cases e
    ·exact .inl (fm e)
    ·exact .inr (fm e)
   have ab:=F4 ew aA;have aa:=UC (f:=aD.e0 cd) λc an=>((aF c an (ae c an)).1 _ jo).1;refine⟨by omega,λU ef=>?_⟩;obtain⟨c,an,ef⟩:=g6.1 ef;exact((aF c an (ae c an)).1 _ jo).2 U ef
  ·refine⟨b2 _,λU ef=>?_⟩;rw[ec.1 ef];exact ky
def ad7{T:aD}(h:fG T):fG T.iS:=(arO (ad6 h)).2
def arP{d:ap}{xs:List aD}(ad:∀ x∈xs,jd x)(ak:d.bare=d):jd (JT d xs):=by
 unfold JT;split
 ·have au:∀ y∈xs.filter (hh d),jd y:=λy aH=>ad y (iE.1 aH).1;generalize xs.filter (hh d)=bj at au
  match bj,au with
  |[],_=>exact .mk rfl λc an=>by cases an
  |[y],au=>exact au y (.head _)| tg::th::l,au=>exact .mk ak au
 ·exact .mk ak ad
def arQ:∀ (T:aD),jd (T.fold hj):=by
 intro T
 induction T using aD.ind with
 |h d ks aF=>rw[aD.fold_eq];refine arP (λx ad=>?_) rfl;obtain⟨c,an,rfl⟩:=cA.1 ad;exact aF c an
def arR:∀ {T:aD},jd T->(∀ cd,∀ U∈T.e0 cd,jd U)/\jd T.bn:=by
 intro T
 induction T using aD.ind with
 |h d ks aF=>
  intro h;obtain⟨aA,ae⟩:=h.inv;have ky:jd (aD.mk d ks).bn:=by show jd (.mk d (ks.flatMap (aD.e0 (gR d))));refine .mk aA λU ef=>?_;obtain⟨c,an,ef⟩:=g6.1 ef;exact(aF c an (ae c an)).1 _ U ef
  refine⟨λcd U ef=>?_,ky⟩;rw[aD.oH]at ef;split at ef;·obtain⟨c,an,ef⟩:=g6.1 ef;exact(aF c an (ae c an)).1 _ U ef
  ·rw[ec.1 ef];exact ky
def ad8(T:aD):jd T.iS:=(arR (arQ T)).2
section
variable{α:Type}{F:ap->List α->α}(bG:T9 F)
include bG
theorem fold_filter{d:ap}(xs:List aD)(ad:∀ x∈xs,fG x):∀ ys:List α,F d (ys++xs.map (aD.fold F))=F d (ys++(xs.filter (hh d)).map (aD.fold F)):=by
 induction xs with
 |nil=>intro ys;rfl
 |cons x xs aF=>
  intro ys;have aF:=aF λy aH=>ad y (.tail _ aH);rw[o0,bX];cases h:hh d x with
  |true=>have:=aF (ys++[x.fold F]);simpa using this
  |false=>
   unfold hh at h;have aG:d.k=4:=by
    cases e:decide (d.k=4)with
    |true=>exact dB e| false=>rw[e]at h;cases h
   have az:x.d.k=0:=by
    cases e:decide (x.d.k=0)with
    |true=>exact dB e| false=>rw[e,aG]at h;cases h
   have CW:=ad x (.head _);cases x with
   |mk gO ks=>
   have ae:ks=[]:=iq (ad5 az CW.inv.1);subst ae;rw[aD.fold_eq,hx,bG.drop d gO ys _ aG az,aF];rfl
theorem arS{d:ap}{xs:List aD}(ad:∀ x∈xs,fG x):(hj d xs).fold F=F d (xs.map (aD.fold F)):=by
 have ag:F d.bare=F d:=bG.aw d [];rw[za];have h:=fold_filter bG (d:=d) xs ad [];rw[iF,iF]at h;split
 ·rename_i ew;rw[h];generalize xs.filter (hh d)=bj
  match bj with
  |[]=>
   rw[aD.fold_eq];rcases ew with e | e;·rw[show d.k-4=0 by omega];exact(bG.aqa d (nothing 0).bare e rfl).symm
   ·rw[show d.k-4=1 by omega];exact(bG.aqb d (nothing 1).bare e rfl rfl rfl rfl rfl).symm
  |[y]=>exact(bG.one d _ ew).symm| tg::th::l=>rw[aD.fold_eq,ag]
 ·rw[aD.fold_eq,ag]
theorem arT:∀ {T:aD},fG T->(T.fold hj).fold F=T.fold F:=by
 intro T
 induction T using aD.ind with
 |h d ks aF=>
  intro h;obtain⟨aA,ae⟩:=h.inv;rw[aD.fold_eq,arS bG (λx ad=>?_),aD.fold_eq,gh];·congr 1;exact fO λc an=>aF c an (ae c an)
  ·obtain⟨c,an,rfl⟩:=cA.1 ad;exact ad6 (ae c an)
theorem arU:∀ (T:aD),(∀ d,d.k=4\/d.k=5->∀ xs e':List α,F d (xs++((T.e0 (some d.k)).map (aD.fold F)++e'))=F d (xs++(T.fold F::e')))/\T.bn.fold F=T.fold F:=by
 intro T
 induction T using aD.ind with
 |h d ks aF=>
  have flat:∀ (e:ap),e.k=4\/e.k=5->∀ (l:List aD),(∀ c∈l,c∈ks)->∀ xs e':List α,F e (xs++((l.flatMap (aD.e0 (some e.k))).map (aD.fold F)++e'))=F e (xs++(l.map (aD.fold F)++e')):=by
   intro e he l
   induction l with
   |nil=>intro _ xs e';rfl| cons c l JP=>intro ay xs e';rw[jT,cP,dY,(aF c (ay c (.head _))).1 e he];have:=JP (λx ad=>ay x (.tail _ ad)) (xs++[c.fold F]) e';simpa using this
  have ky:(aD.mk d ks).bn.fold F=(aD.mk d ks).fold F:=by
   show(aD.mk d (ks.flatMap (aD.e0 (gR d)))).fold F=_;rw[aD.fold_eq,aD.fold_eq];by_cases ew:d.k=4\/d.k=5;·have e:gR d=some d.k:=bN ew;have:=flat d ew ks (λc an=>an) [] [];rw[e];simpa using this
   ·have e:gR d=none:=bS ew;congr 1;rw[e,AS];rw[UB (f:=aD.fold F)];refine se λc an=>?_;have ab:=(aF c an).2;cases c with
    |mk gO st=>
    rw[aD.oH,bS (by simp),te,ab]
  refine⟨λe he xs e'=>?_,ky⟩;rw[aD.oH];split;·rename_i ae;have ae:d.k=e.k:=fm ae;rw[flat e he ks (λc an=>an),aD.fold_eq];exact(bG.nest e d xs (ks.map (aD.fold F)) e' he ae).symm
  ·rw[te,ky];rfl
theorem ad9{T:aD}(h:fG T):T.iS.fold F=T.fold F:=(arU bG _).2.trans (arT bG h)
end
namespace aL
def go:aL->List Int->Option aL
 |T,[]=>some T| T,i::p=>if 0<=i/\i<(T.sub.length:Int)then(T.sub.getD i.toNat T).go p else none
def pK:aL->List Int->List (Nat×Int)
 |_,[]=>[]| T,i::p=>(T.bh,i)::(T.sub.getD i.toNat T).pK p
end aL
namespace aD
def go:aD->List Int->Option aD
 |T,[]=>some T| T,i::p=>if 0<=i/\i<(T.sub.length:Int)then(T.sub.getD i.toNat T).go p else none
def put:aD->List Int->aD->aD
 |_,[],X=>X| T,i::p,X=>.mk T.d (T.sub.set i.toNat ((T.sub.getD i.toNat T).put p X))
end aD
def aea(ns:List ap)(T:aL):(T.bare ns).sub=T.sub.map (aL.bare ns):=by
 cases T with
 |mk k ks=>
 rw[aL.mo];rfl
def getD_map{β:Type}(f:α->β)(l:List α)(i:Nat)(a:α):(l.map f).getD i (f a)=f (l.getD i a):=by rw[bt,bt,jR];cases l[i]?<;>rfl
def bare_go(ns:List ap):∀ (p:List Int) (T:aL),(T.bare ns).go p=(T.go p).map (aL.bare ns)
 |[],T=>rfl
 |i::p,T=>by
  rw[aD.go,aL.go,aea,bE];split;·rw[getD_map,bare_go ns p]
  ·rfl
def cy.getD{ns:List ap}{T:aL}(h:cy ns T)(i:Nat):cy ns (T.sub.getD i T):=by
 rw[bt];cases e:T.sub[i]? with
 |none=>exact h| some c=>exact h.Ds c (rF e)
def cy.go{ns:List ap}:∀ (p:List Int) {T:aL},cy ns T->∀ {S},T.go p=some S->cy ns S
 |[],T,h,S,e=>by obtain rfl:=fm e;exact h
 |i::p,T,h,S,e=>by
  rw[aL.go]at e;split at e;·exact cy.go p (h.getD _) e
  ·cases e
structure mq(ds:List ap)(JR:List Nat):Prop where
 wd:sw ds JR
 all:∀ j,j<ds.length->(j:Int)∈eT ds\/j∈JR
def mq.perm{ds:List ap}{a b:List Nat}(h:mq ds a)(aB:a.Perm b):mq ds b:=⟨h.wd.perm aB,λj ai=>(h.all j ai).imp id λh=>aB.mem_iff.1 h⟩
def mq.add{ds:List ap}(h:mq ds (l++bk)){x:ap}(ad:Go.V.fits x l.length=true)(ae:x.aw=l.map Int.ofNat):mq (ds++[x]) (ds.length::bk):=by
 refine⟨h.wd.add (by rw[ae,bE];exact ad) (by rw[ae];exact .refl _),λj ai=>?_⟩;have fB:eT (ds++[x])=eT ds++l.map Int.ofNat:=by rw[N1,<-ae];simp[eT]
 rw[b3,p8]at ai;rw[fB,cF];by_cases e:j=ds.length
 ·exact .inr (by rw[e];exact .head _)
 ·rcases h.all j (by omega)with aa | aa
  ·exact .inl (.inl aa)
  ·rcases cF.1 aa with aa | aa
   ·exact .inl (.inr (cA.2 ⟨j,aa,rfl⟩))
   ·exact .inr (.tail _ aa)
def mq.nil:mq [] []:=⟨⟨(λd ak=>by cases ak),λj h=>absurd h (mS _),List.Pairwise.nil,(λk ae=>by cases ae),.nil⟩,λj h=>absurd h (mS _)⟩
def mq.right{ds:List ap}{r:Nat}(h:mq ds [r])(aC:t.ns=ds)(af:t.bA=(r:Int)):hP t:=by
 subst aC;obtain⟨aa,ab⟩:=h.wd.gL r (.head _);refine⟨by rw[af];omega,λj ai=>h.wd.fits _ (bi ai),h.wd.aw,h.wd.diff,λj ai=>?_⟩;rw[af];constructor
 ·intro hm e;obtain rfl:j=r:=by omega
  exact ab hm
 ·intro bs;rcases h.all j ai with aj | aj
  ·exact aj
  ·exact absurd (by rw[ec.1 aj]) bs
def fe(q:List aL)(i:Nat):Nat:=1+((q.take i).flatMap aL.sub).length
structure vW(S:aL)(q:List aL)(i:Nat):Prop where
 hi:i<=q.length
 eq:q=S::(q.take i).flatMap aL.sub
 lt:∀ j,j<i->j<fe q j
 pm:S.cG.Perm ((q.take i).map aL.bh++(q.drop i).flatMap aL.cG)
def vW.start(S:aL):vW S [S] 0:=⟨dw _,rfl,(λj h=>absurd h (mS _)),by simp⟩
def vW.len{S:aL}{q:List aL}(h:vW S q i):i+hD (q.drop i)=S.cG.length/\q.length<=S.cG.length:=by have aa:=h.pm.length_eq;have ab:=h.hi;have aj:=A8 (q.drop i);rw[b3,bE,hT,yw]at aa;rw[tD]at aj;unfold hD at aj |-;omega
def vW.step{S:aL}{q:List aL}(h:vW S q i)(hi:i<q.length):vW S (q++q[i].sub) (i+1):=by
 have ng:(q++q[i].sub).take (i+1)=q.take i++[q[i]]:=by rw[BO (by omega),gy hi]
 have Jy:∀ j,j<=i->fe (q++q[i].sub) j=fe q j:=λj ai=>by unfold fe;rw[BO (by omega)]
 refine⟨by rw[b3];omega,?_,λj ai=>?_,?_⟩
 ·rw[ng,hn,p7]
  conv=>lhs;lhs;rw[h.eq]
  rfl
 ·rw[Jy j (by omega)];by_cases e:j=i
  ·subst e;have:=congrArg List.length h.eq;rw[c2]at this;unfold fe;omega
  ·exact h.lt j (by omega)
 ·rw[ng];refine h.pm.trans ?_;have aJ:q.drop i=q[i]::q.drop (i+1):=e1 hi;have a4:(q++q[i].sub).drop (i+1)=q.drop (i+1)++q[i].sub:=by rw[Rc (by omega)]
  have cn:q[i].cG=q[i].sub.flatMap aL.cG++[q[i].bh]:=by
   cases q[i]with
   |mk k ks=>exact aL.kY k ks
  rw[aJ,a4,jT,cn,cP,hn,te,dY,dY];refine T7 _ ?_;have aa:=eI (l₁:=q[i].sub.flatMap aL.cG) (l₂:=[q[i].bh]++(q.drop (i+1)).flatMap aL.cG);simpa using aa
def vW.done{S:aL}{q:List aL}(h:vW S q q.length):q=S::q.flatMap aL.sub/\(∀ j,j<q.length->j<fe q j)/\q.length=S.cG.length:=by
 obtain⟨aa,ab⟩:=h.len;refine⟨?_,h.lt,?_⟩
 ·have:=h.eq;rwa [D']at this
 ·rw[List.drop_length]at aa;simpa[hD]using aa
def aeb{q:List aL}(hi:i<q.length):fe q (i+1)=fe q i+q[i].sub.length:=by unfold fe;rw[gy hi,hn,b3,p7];omega
def aec{S:aL}{q:List aL}(h:q=S::q.flatMap aL.sub):fe q q.length=q.length:=by unfold fe;rw[D'];have:=congrArg List.length h;rw[c2]at this;omega
def aed{S:aL}{q:List aL}(h:q=S::q.flatMap aL.sub){j:Nat}(hi:i<q.length)(ai:j<q[i].sub.length):q[fe q i+j]?=some q[i].sub[j]:=by
 have e:q.flatMap aL.sub=(q.take i).flatMap aL.sub++(q[i].sub++(q.drop (i+1)).flatMap aL.sub):=by
  conv=>lhs;rw[<-rY i q,e1 hi]
  rw[hn,jT]
 have aa:q[fe q i+j]?=(S::q.flatMap aL.sub)[fe q i+j]?:=congrArg (λl:List aL=>l[fe q i+j]?) h;rw[aa];unfold fe;rw[show 1+((q.take i).flatMap aL.sub).length+j=(((q.take i).flatMap aL.sub).length+j)+1 by omega,Gy,e,nj (by omega),show((q.take i).flatMap aL.sub).length+j-((q.take i).flatMap aL.sub).length=j by omega,rE ai,db ai]
structure xw(ns:List ap)(cS:Nat)(qn:List Nat)(q:List aL)(i:Nat)(dQ:List ap):Prop where
 hi:i<=q.length
 len:dQ.length=cS+(q.length-i)
 E4:mq dQ ((List.range (fe q i-i)).map (λz=>cS+q.length-1-(i+z))++qn)
 iQ:∀ p,i<=p->(h:p<q.length)->∃ T:aL,T.bh=cS+q.length-1-p/\cy dQ T/\T.bare dQ=q[p].bare ns
def xw.start{ns:List ap}{S:aL}{q:List aL}(h:q=S::q.flatMap aL.sub)(av:mq dQ qn):xw ns dQ.length qn q q.length dQ:=by refine⟨b2 _,by omega,?_,λp aa ab=>absurd ab (by omega)⟩;rw[aec h,p3];exact av
def xw.step{ns:List ap}{S:aL}{q:List aL}(aN:q=S::q.flatMap aL.sub)(a1:∀ j,j<q.length->j<fe q j)(h:xw ns cS qn q (i+1) dQ)(e7:cy ns (q[i]'(by have:=h.hi;omega)))(aA:∀ d∈ns,fits d d.aw.length=true){x:ap}(kL:x.bare=(nodeAt ns (q[i]'(by have:=h.hi;omega)).bh).bare)(Ba:x.aw=(List.range (fe q (i+1)-fe q i)).map λz=>((cS+q.length-1-(fe q i+z):Nat):Int)) :
  xw ns cS qn q i (dQ++[x]):=by
 have hi:i<q.length:=by have:=h.hi;omega
 have au:=aeb hi;have axw:=a1 i hi;have jq:=h.len;have nc:∀ j,j<q[i].sub.length->fe q i+j<q.length:=λj ai=>by have:=aed aN hi ai;exact(ij.1 this).1
 have fg:dQ.length=cS+q.length-1-i:=by omega
 refine⟨by omega,by rw[b3,p8];omega,?_,λp w4 lU=>?_⟩
 ·have fc:fe q (i+1)-fe q i=q[i].sub.length:=by omega
  have ay:((List.range (fe q (i+1)-(i+1))).map (λz=>cS+q.length-1-(i+1+z))++qn).Perm ((List.range q[i].sub.length).map (λz=>cS+q.length-1-(fe q i+z))++((List.range (fe q i-(i+1))).map (λz=>cS+q.length-1-(i+1+z))++qn)):=by
   rw[<-dY];refine List.Perm.append_right _ ?_;have e:fe q (i+1)-(i+1)=(fe q i-(i+1))+q[i].sub.length:=by omega
   rw[e,List.range_add,cP,gh];refine eI.trans (List.Perm.append_right _ ?_);refine List.Perm.of_eq (fO λz bb=>?_);show cS+q.length-1-(i+1+(fe q i-(i+1)+z))=_;omega
  have arV:Go.V.fits x ((List.range q[i].sub.length).map (λz=>cS+q.length-1-(fe q i+z))).length=true:=by
   rw[bE,wU];have aa:=aA _ (bi e7.mV);rw[<-gg e7.mV,e7.xu]at aa;unfold eM at aa;rw[bE]at aa;have ab:Go.V.fits x.bare (q[i].sub.length:Nat)=true:=by rw[kL];exact aa
   exact ab
  have av:=(h.E4.perm ay).add (x:=x) arV (by rw[Ba,fc,gh];rfl);refine av.perm ?_;rw[fg];have e:fe q i-i=(fe q i-(i+1))+1:=by omega
  rw[e,List.range_succ_eq_map,bX,gh,mF];refine List.Perm.of_eq ?_;congr 1;congr 1;refine fO λz bb=>?_;show _=cS+q.length-1-(i+(z+1));omega
 ·by_cases e:p=i
  ·subst e;obtain⟨ks,tW,eS⟩:=JJ (R:=λ(z:Nat) (T:aL)=>T.bh=cS+q.length-1-(fe q p+z)/\cy dQ T/\∃ bb:z<q[p].sub.length,T.bare dQ=q[p].sub[z].bare ns) (l:=List.range q[p].sub.length) λz bb=>by have bb:z<q[p].sub.length:=g8.1 bb;have ag:=nc z bb;obtain⟨T,aa,ab,aj⟩:=h.iQ (fe q p+z) (by omega) ag;refine⟨T,aa,ab,bb,?_⟩;have aG:=aed aN hi bb;rw[db ag]at aG;rw[aj,fm aG]
   rw[wU]at tW;have eZ:∀ c∈ks,cy dQ c:=λc an=>by obtain⟨z,bb,rfl⟩:=jv an;exact(eS z (by simpa using by omega) bb).2.1
   refine⟨.mk dQ.length ks,by show dQ.length=_;omega,.mk (by simp) ?_ λc an=>(eZ c an).app _,?_⟩;·rw[FW,Ba];refine lC (by simp;omega) λz bb ha=>?_;rw[fr,fr,vl];have:=(eS z (by simpa using by simpa[tW]using ha) (by simpa using ha)).1;rw[vl]at this;omega
   ·rw[aL.mo,FW,kL];have vr:q[p].bare ns=.mk (nodeAt ns q[p].bh).bare (q[p].sub.map (aL.bare ns)):=by
     cases q[p]with
     |mk k l=>exact aL.mo ns k l
    rw[vr];congr 1;refine lC (by simp[tW]) λz bb ha=>?_;rw[fr,fr];have vj:z<ks.length:=by simpa using bb
    obtain⟨-,ba,axx,bR⟩:=eS z (by simpa using by omega) vj;simp only[vl]at bR;rw[aL.Dr dQ (eZ _ (bi vj)),bR]
  ·obtain⟨T,aa,ab,aj⟩:=h.iQ p (by omega) lU;exact⟨T,aa,ab.app _,by rw[aL.Dr dQ ab];exact aj⟩
def xw.done{ns:List ap}{S:aL}{q:List aL}(aN:q=S::q.flatMap aL.sub)(h:xw ns cS qn q 0 dQ):mq dQ ((dQ.length-1)::qn)/\∃ T:aL,T.bh=dQ.length-1/\cy dQ T/\T.bare dQ=S.bare ns:=by
 have ay:=h.len;have az:0<q.length:=by rw[aN];simp
 refine⟨?_,?_⟩
 ·have av:=h.E4;have e:fe q 0-0=1:=by unfold fe;simp
  rw[e]at av;have a4:cS+q.length-1-(0+0)=dQ.length-1:=by omega
  simpa[a4,ay]using av
 ·obtain⟨T,aa,ab,aj⟩:=h.iQ 0 (b2 _) az;refine⟨T,by omega,ab,?_⟩;rw[aj];congr 1;have:=congrArg (λl:List aL=>l[0]?) aN;rw[db az]at this;exact fm this
def gd:aP:=⟨⟨#[]⟩,⟨[],none,0,0,0⟩⟩
def aee:∀ (ds ds':List aP) (aZ:List (ByteArray×Int)) (i:Nat),ds.map aP.name=ds'.map aP.name->oA aZ i ds=oA aZ i ds'
 |[],[],_,_,_=>rfl| [],_::_,_,_,h=>by simp at h
 |_::_,[],_,_,h=>by simp at h
 |d::ds,gO::ds',aZ,i,h=>by rw[bX,bX,ya]at h;rw[oA,oA,h.1,aee ds ds' _ _ h.2]
def eN(ds:List aP)(u:Nat)(y:bP):List aP:=ds.set u ⟨(ds.getD u gd).name,y⟩
def xx(ds:List aP)(u:Nat)(y:bP):(eN ds u y).length=ds.length:=by simp[eN]
def aef(ds:List aP)(u:Nat)(y:bP):(eN ds u y).map aP.name=ds.map aP.name:=by
 unfold eN;rw[o1];refine zN λi=>?_;rw[iu];split
 ·rename_i h;subst h;rw[bE,jR];by_cases h:u<ds.length
  ·simp[h,bt]
  ·simp[h]
 ·rfl
def JV(ds:List aP)(u:Nat)(y:bP):bD (eN ds u y)=bD ds:=aee _ _ _ _ (aef ds u y)
def Dx{ds:List aP}{y:bP}(h:i≠u):(eN ds u y)[i]?=ds[i]?:=by unfold eN;rw[iu,bS (λe=>h e.symm)]
def Dy{ds:List aP}{y:bP}(h:u<ds.length):(eN ds u y)[u]?=some ⟨ds[u].name,y⟩:=by unfold eN;rw[iu,bN rfl,bN h];simp[bt,h]
def F5{d:aP}(af:right d.t=true):ix pl F d=(ob pl F d.t).1.1:=(ap8 af).symm
def UD(af:right t=true):(ob pl F t).1=gj pl F t.ns t.bA:=by obtain⟨kw,hO⟩:=qP af;obtain⟨r,fE⟩:=ea kw;rw[adb,fE,Nm af (r+1) r (by omega) (by omega)]
structure ti(ds:List aP)(u a:Nat)(y:bP):Prop where
 ul:u<ds.length
 hf:a<ds.length
 ne:a≠u
 r:right y=true
 rel:∀ F:List aW,F.getD a b4=(ob (bD ds) F (ds.getD a gd).t).1.1->xp a (ob (bD ds) F (ds.getD a gd).t).1.2 (ob (bD ds) F (ds.getD a gd).t).2 (ob (bD ds) F y) (ob (bD ds) F (ds.getD u gd).t)
section
variable{ds:List aP}{u a:Nat}{y:bP}(h:ti ds u a y)(af:∀ d∈ds,right d.t=true)
include h af
theorem ti.N3:ds.getD u gd=ds[u]'h.ul:=by have:=h.ul;simp[bt,this]
theorem ti.N4:ds.getD a gd=ds[a]'h.hf:=by have:=h.hf;simp[bt,this]
theorem ti.UE(bG:∀ i (h:i<ds.length),F.getD i b4=ix (bD ds) F ds[i]):F.getD a b4=(ob (bD ds) F (ds.getD a gd).t).1.1:=by rw[bG a h.hf,F5 (af _ (bi h.hf)),h.N4 af]
theorem ti.FO(bG:j1 ds F)(oS:j1 (eN ds u y) dr):dr=F:=by
 have iO:=JV ds u y;have hu:=h.ul;have a6:=h.hf;have ay:=xx ds u y;have aeg:∀ i (hi:i<ds.length),i≠u->dr.getD i b4=ix (bD ds) dr ds[i]:=λi hi bs=>by
  have aa:=oS.fix i (by omega);have ab:(eN ds u y)[i]'(by omega)=ds[i]:=by have aj:=Dx (ds:=ds) (y:=y) bs;rw[db (by omega),db hi]at aj;exact fm aj
  rw[ab,iO]at aa;exact aa
 have ef:(eN ds u y)[u]'(by omega)=⟨ds[u].name,y⟩:=by have aj:=Dy (y:=y) hu;rw[db (by omega)]at aj;exact fm aj
 refine eE.antisymm ?_ ?_
 ·refine oS.least F (by rw[ay];exact bG.len) λi hi=>?_;rw[iO];by_cases e:i=u
  ·subst e;rw[ef,F5 h.r,bG.fix i hu,F5 (af _ (bi hu))];have aa:=(h.rel F (h.UE af bG.fix)).bj;rw[h.N3 af]at aa;rw[aa];exact aW.le_refl _
  ·have ab:(eN ds u y)[i]=ds[i]'(by omega):=by have aj:=Dx (ds:=ds) (y:=y) e;rw[db hi,db (by omega)]at aj;exact fm aj
   rw[ab,<-bG.fix i (by omega)];exact aW.le_refl _
 ·refine bG.least dr (by rw[oS.len,ay]) λi hi=>?_;by_cases e:i=u
  ·subst e;have aa:=oS.fix i (by omega);rw[ef,iO,F5 h.r]at aa;have ab:dr.getD a b4=(ob (bD ds) dr (ds.getD a gd).t).1.1:=by rw[aeg a a6 h.ne,F5 (af _ (bi a6)),h.N4 af]
   have aj:=(h.rel dr ab).bj;rw[h.N3 af]at aj;rw[aa,F5 (af _ (bi hi)),aj];exact aW.le_refl _
  ·rw[<-aeg i hi e];exact aW.le_refl _
theorem ti.arW:jO ds F a=(ob (bD ds) F (ds.getD a gd).t).1.2:=by have a6:=h.hf;unfold jO;rw[db a6];show(gj _ _ ds[a].t.ns _).2=_;rw[h.N4 af,<-UD (af _ (bi a6))]
theorem ti.aeh(bG:j1 ds F){k:Nat}(ae:k∈jO (eN ds u y) F i):kv (jO ds F) i k:=by
 by_cases e:i=u
 ·subst e;have aa:=h.rel F (h.UE af bG.fix);have ab:jO (eN ds i y) F i=(ob (bD ds) F y).1.2:=by unfold jO;rw[Dy h.ul,JV];show(gj _ _ y.ns _).2=_;rw[UD h.r]
  have aj:jO ds F i=(ob (bD ds) F (ds.getD i gd).t).1.2:=by have hu:=h.ul;unfold jO;rw[db hu];show(gj _ _ ds[i].t.ns _).2=_;rw[h.N3 af,<-UD (af _ (bi hu))]
  rw[ab]at ae;rcases aa.T4 k ae with aG | ⟨aG,bx⟩;·exact .one (by rw[aj];exact aG)
  ·exact .step (by rw[aj];exact aG) (.one (by rw[h.arW af];exact bx))
 ·refine .one ?_;unfold jO at ae |-;rw[Dx e,JV]at ae;exact ae
theorem ti.comes(bG:j1 ds F){k:Nat}(an:kv (jO (eN ds u y) F) i k):kv (jO ds F) i k:=by
 induction an with
 |one ae=>exact h.aeh af bG ae| step ai _ aF=>exact(h.aeh af bG ai).trans aF
theorem ti.arX(bG:j1 ds F)(he:qj (eN ds u y) F i=true):qj ds F i=true\/qj ds F a=true:=by
 by_cases e:i=u
 ·subst e;have aa:=h.rel F (h.UE af bG.fix);have ab:qj (eN ds i y) F i=(ob (bD ds) F y).2:=by unfold qj;rw[Dy h.ul,JV];rfl
  have aj:qj ds F i=(ob (bD ds) F (ds.getD i gd).t).2:=by unfold qj;rw[db h.ul,h.N3 af];rfl
  have aG:qj ds F a=(ob (bD ds) F (ds.getD a gd).t).2:=by unfold qj;rw[db h.hf,h.N4 af];rfl
  rw[ab]at he;rw[aj,aG];exact aa.fh he
 ·refine .inl ?_;unfold qj at he |-;rw[Dx e,JV]at he;exact he
theorem ti.F6(bG:j1 ds F)(ay:(sq ds F).length=0)(e2:(qk ds F).length=0){ds':List aP}(an:ds'.map aP.a0=(eN ds u y).map aP.a0)(oS:j1 ds' dr):dr=F/\(sq ds' dr).length=0/\(qk ds' dr).length=0:=by
 have S':j1 (eN ds u y) dr:=acK (by rw[<-an];exact aln oS);have e:=h.FO af bG S';subst e;have c1:ds'.length=ds.length:=by have:=congrArg List.length an;rw[bE,bE,xx]at this;exact this
 refine⟨rfl,?_,?_⟩
 ·rw[List.length_eq_zero_iff,adf]at ay |-;intro i hi;rw[ac5]at hi;refine ay i (ac5.2 ⟨by omega,h.comes af bG ?_⟩);have e:jO ds' dr=jO (eN ds u y) dr:=by funext i;rw[<-TR,an,TR]
  rw[<-e];exact hi.2
 ·rw[List.length_eq_zero_iff,adf]at e2 |-;intro i hi;rw[<-TS,an,TS]at hi;unfold qk at hi e2;rw[iE,g8,xx]at hi;rcases h.arX af bG hi.2 with aa | aa
  ·exact e2 i (iE.2 ⟨g8.2 hi.1,aa⟩)
  ·exact e2 a (iE.2 ⟨g8.2 h.hf,aa⟩)
end
def arY{a:Nat}(d:ap){xs ys:List vS}(ay:xs.length=ys.length)(h:∀ i (ad:i<xs.length) (aH:i<ys.length),xp a lO sf xs[i] ys[i]):xp a lO sf (lZ pl F d xs) (lZ pl F d ys):=by
 have hm:(xs.map (·.1)).map (·.1)=(ys.map (·.1)).map (·.1):=by refine lC (by simpa using ay) λi aa ab=>?_;simp only[fr];exact(h i (by simpa using aa) (by simpa using ab)).bj
 have Ty:∀ k∈(xs.map (·.1)).flatMap (·.2),k∈(ys.map (·.1)).flatMap (·.2)\/(a∈(ys.map (·.1)).flatMap (·.2)/\k∈lO):=by
  intro k ae;obtain⟨x,ad,ae⟩:=g6.1 ae;obtain⟨q,aN,rfl⟩:=jv ad;simp only[fr]at ae;have aN:q<xs.length:=by simpa using aN
  have e8:(ys[q]'(by omega)).1∈ys.map (·.1):=y3 (bi _);rcases(h q aN (by omega)).T4 k ae with aa | ⟨aa,ab⟩;·exact .inl (g6.2 ⟨_,e8,aa⟩)
  ·exact .inr ⟨g6.2 ⟨_,e8,aa⟩,ab⟩
 refine⟨?_,?_,?_⟩
 ·show gW d ((xs.map (·.1)).map (·.1)++_)=gW d ((ys.map (·.1)).map (·.1)++_);rw[hm]
 ·show ∀ k∈kp pl d (xs.map (·.1)),k∈kp pl d (ys.map (·.1))\/(a∈kp pl d (ys.map (·.1))/\k∈lO);unfold kp;by_cases cn:d.k=3
  ·rw[eV cn];exact λk ae=>.inl ae
  rw[dU cn];by_cases dc:d.k=4;·rw[eV dc];refine ade (by simpa using ay) λi aa ab=>?_;simp only[fr];have:=h i (by simpa using aa) (by simpa using ab);exact⟨this.bj,this.T4⟩
  rw[dU dc];by_cases kt:d.k=6/\d.hi=0;·rw[eV kt.1,eV kt.2];exact λk ae=>.inl ae
  ·have e:(decide (d.k=6)&&decide (d.hi=0))=false:=by rw[<-Bool.decide_and];exact dU kt
   rw[e];exact Ty
 ·show yW pl F d xs=true->yW pl F d ys=true\/sf=true;intro az;obtain⟨x,ad,az⟩:=vM.1 az;obtain⟨q,aN,rfl⟩:=jv ad;have aV:=h q aN (by omega);rcases ap9 az with aa | aa
  ·refine .inl (vM.2 ⟨_,bi (show q<ys.length by omega),?_⟩);rw[<-aV.bj,aa,M8]
  ·rcases aV.fh aa with ab | ab
   ·exact .inl (vM.2 ⟨_,bi (show q<ys.length by omega),by rw[ab,ET]⟩)
   ·exact .inr ab
def xp.rfl'{a:Nat}(x:vS):xp a lO sf x x:=⟨rfl,λk ae=>.inl ae,λh=>.inl h⟩
def arZ{a:Nat}{b:vS}{d:ap}(aj:d.k=3)(IG:((eD d.t pl).getD 0).toNat=a)(ar0:F.getD a b4=b.1.1):xp a b.1.2 b.2 b (lZ pl F d []):=by
 unfold lZ q4;have aJ:gW d ((([]:List vS).map (·.1)).map (·.1)++bif decide (d.k=3)then [F.getD ((eD d.t pl).getD 0).toNat b4]else [])=b.1.1:=by rw[eV aj,cb,IG,ar0];unfold gW;simp[aj]
 refine⟨aJ.symm,λk ae=>.inr ⟨?_,ae⟩,λh=>.inr h⟩;show a∈kp pl d _;rw[kp,eV aj,cb,IG];exact .head _
def aei{pl:List (ByteArray×Int)}{F:List aW}{a:Nat}{lO:List Nat}{sf:Bool}{X S:aD}(hk:xp a lO sf (X.fold (lZ pl F)) (S.fold (lZ pl F))):∀ (p:List Int) (T:aD),T.go p=some S->xp a lO sf ((T.put p X).fold (lZ pl F)) (T.fold (lZ pl F))
 |[],T,h=>by rw[aD.go]at h;cases h;exact hk
 |i::p,.mk d ks,h=>by
  rw[aD.go]at h;split at h
  ·rename_i hi;have hi:0<=i/\i<(ks.length:Int):=hi;obtain⟨q,rfl⟩:=ea hi.1;have aN:q<ks.length:=by omega
   have aF:=aei hk p _ h;rw[aD.put];show xp a lO sf ((aD.mk d (ks.set q ((ks.getD q (.mk d ks)).put p X))).fold _) _;rw[aD.fold_eq,aD.fold_eq];refine arY d (by simp) λj aa ab=>?_;rw[fr,fr,Hn];split
   ·rename_i e;subst e;have a4:(aD.mk d ks).sub.getD ((q:Int)).toNat (.mk d ks)=ks[q]:=by show ks.getD q _=_;simp[bt,aN]
    rw[a4]at aF;have cn:ks.getD q (.mk d ks)=ks[q]:=by simp[bt,aN]
    rw[cn];exact aF
   ·exact xp.rfl' _
  ·cases h
inductive l1:aD->Prop
 |mk{d:ap}{ks:List aD}:(d.k=4\/d.k=5->∀ c∈ks,c.d.k≠d.k/\¬ (c.d.k=0/\d.k=4))->(∀ c∈ks,l1 c)->l1 (.mk d ks)
def l1.inv{d:ap}{ks:List aD}(h:l1 (.mk d ks)):(d.k=4\/d.k=5->∀ c∈ks,c.d.k≠d.k/\¬ (c.d.k=0/\d.k=4))/\∀ c∈ks,l1 c:=by
 cases h with
 |mk aa ab=>exact⟨aa,ab⟩
inductive xy:aD->Prop
 |mk{d:ap}{ks:List aD}:(d.k=4->∀ c∈ks,c.d.k≠0)->(∀ c∈ks,xy c)->xy (.mk d ks)
def xy.inv{d:ap}{ks:List aD}(h:xy (.mk d ks)):(d.k=4->∀ c∈ks,c.d.k≠0)/\∀ c∈ks,xy c:=by
 cases h with
 |mk aa ab=>exact⟨aa,ab⟩
def ar1{d:ap}{x:aD}(h:hh d x=true)(aG:d.k=4):x.d.k≠0:=by unfold hh at h;intro az;rw[eV aG,eV az]at h;cases h
def ar2{d:ap}{xs:List aD}(ad:∀ x∈xs,xy x):xy (hj d xs):=by
 rw[za];split
 ·have au:∀ y∈xs.filter (hh d),xy y/\(d.k=4->y.d.k≠0):=λy aH=>⟨ad y (iE.1 aH).1,ar1 (iE.1 aH).2⟩;generalize xs.filter (hh d)=bj at au
  match bj,au with
  |[],_=>exact .mk (λ_ c an=>by cases an) λc an=>by cases an
  |[y],au=>exact(au y (.head _)).1| tg::th::l,au=>exact .mk (λaG c an=>(au c an).2 aG) λc an=>(au c an).1
 ·rename_i ew;exact .mk (λaG=>absurd (.inl aG) ew) ad
def ar3:∀ (T:aD),xy (T.fold hj):=by
 intro T
 induction T using aD.ind with
 |h d ks aF=>rw[aD.fold_eq];refine ar2 λx ad=>?_;obtain⟨c,an,rfl⟩:=cA.1 ad;exact aF c an
def ar4:∀ {T:aD},xy T->l1 T.bn/\∀ cd,∀ U∈T.e0 cd,l1 U/\some U.d.k≠cd/\(cd=some 4->T.d.k≠0->U.d.k≠0):=by
 intro T
 induction T using aD.ind with
 |h d ks aF=>
  intro h;obtain⟨az,ae⟩:=h.inv;have ky:l1 (aD.mk d ks).bn:=by
   show l1 (.mk d (ks.flatMap (aD.e0 (gR d))));refine .mk (λew U ef=>?_) λU ef=>?_;·obtain⟨c,an,ef⟩:=g6.1 ef;have e:gR d=some d.k:=bN ew;rw[e]at ef;obtain⟨-,ab,aj⟩:=(aF c an (ae c an)).2 _ U ef;exact⟨λe=>ab (by rw[e]),λe=>aj (by rw[e.2]) (az e.2 c an) e.1⟩
   ·obtain⟨c,an,ef⟩:=g6.1 ef;exact((aF c an (ae c an)).2 _ U ef).1
  refine⟨ky,λcd U ef=>?_⟩;rw[aD.oH]at ef;split at ef;·rename_i e;obtain⟨c,an,ef⟩:=g6.1 ef;obtain⟨aa,ab,aj⟩:=(aF c an (ae c an)).2 _ U ef;refine⟨aa,ab,λdc bs=>aj dc (az ?_ c an)⟩;rw[dc]at e;exact fm e
  ·rename_i e;rw[ec.1 ef];exact⟨ky,e,λ_ bs=>bs⟩
def ar5(T:aD):l1 T.iS:=(ar4 (ar3 T)).1
def ar6{ns:List ap}{j:Int}(h:j∈eT ns):∃ p,∃ aB:p<ns.length,j∈ns[p].aw:=by unfold eT at h;obtain⟨d,ak,ai⟩:=g6.1 h;obtain⟨p,aB,rfl⟩:=jv ak;exact⟨p,aB,ai⟩
def hP.down(h:hP t){P:Nat->Prop}(az:∀ r:Nat,t.bA=(r:Int)->P r)(step:∀ p (aB:p<t.ns.length),P p->∀ j:Nat,(j:Int)∈t.ns[p].aw->P j):∀ m j,j<t.ns.length->t.ns.length-j<=m->P j
 |0,j,ai,hm=>absurd hm (by omega)
 |m+1,j,ai,hm=>by
  by_cases e:(j:Int)=t.bA;·exact az j e.symm
  ·obtain⟨p,aB,tf⟩:=ar6 ((h.all j ai).2 e);have:=h.aw p aB _ tf;exact step p aB (h.down az step m p aB (by omega)) j tf
def zb(af:right t=true){j:Nat}(ai:j<t.ns.length):gE t.ns j=.mk t.ns[j].bare (t.ns[j].aw.map (gE t.ns)):=
 B8 (λd g dM h=>by rw[fO h]) af ai
def aej(af:right t=true){j:Int}(az:0<=j)(aa:j<t.ns.length):(gE t.ns j).d.k=hA t.ns j:=by
 obtain⟨q,rfl⟩:=ea az;have aN:q<t.ns.length:=by omega
 rw[zb af aN];show t.ns[q].k=_;simp[hA,bt,aN]
def UF{ns:List ap}{kind:Int}:∀ {ks:List Int},kP ns kind ks=true ↔ ∀ k∈ks,hA ns k≠kind/\¬ (hA ns k=0/\kind=4)
 |[]=>by simp[kP]
 |k::ks=>by
  have aF:=UF (ns:=ns) (kind:=kind) (ks:=ks);rw[kP];constructor
  ·intro h;cases ag:decide (hA ns k=kind)||(decide (hA ns k=0)&&decide (kind=4))with
   |true=>rw[ag]at h;cases h
   |false=>
    rw[ag]at h;intro x ad;rcases eg.1 ad with rfl | ad;·simp only[qN,Bool.and_eq_false_iff,qz]at ag;exact⟨ag.1,λe=>ag.2.elim (λh=>h e.1) λh=>h e.2⟩
    ·exact aF.1 h x ad
  ·intro h;have aa:=h k (.head _);have ag:(decide (hA ns k=kind)||(decide (hA ns k=0)&&decide (kind=4)))=false:=by rw[dU aa.1,uX,<-Bool.decide_and];exact dU aa.2
   rw[ag];exact aF.2 λx ad=>h x (.tail _ ad)
def aek{ns:List ap}:∀ {l:List ap},lg ns l=true ↔ ∀ d∈l,d.k=4\/d.k=5->∀ k∈d.aw,hA ns k≠d.k/\¬ (hA ns k=0/\d.k=4)
 |[]=>by simp[lg]
 |d::l=>by
  have aF:=aek (ns:=ns) (l:=l);rw[lg];by_cases ew:d.k=4\/d.k=5
  ·have ag:(!decide (d.k=4) && !decide (d.k=5))=false:=by
    rcases ew with e | e<;>simp[e]
   rw[ag,b5];constructor
   ·intro h;cases ae:kP ns d.k d.aw with
    |false=>rw[ae]at h;cases h
    |true=>
     rw[ae]at h;intro x ad;rcases eg.1 ad with rfl | ad;·exact λ_=>UF.1 ae
     ·exact aF.1 h x ad
   ·intro h;rw[UF.2 (h d (.head _) ew)];exact aF.2 λx ad=>h x (.tail _ ad)
  ·have ag:(!decide (d.k=4) && !decide (d.k=5))=true:=by rw[dU λe=>ew (.inl e),dU λe=>ew (.inr e)];rfl
   rw[ag,cb,aF];constructor
   ·intro h x ad;rcases eg.1 ad with rfl | ad
    ·exact λe=>absurd e ew
    ·exact h x ad
   ·exact λh x ad=>h x (.tail _ ad)
def JW:normal t=true ↔ right t=true/\l1 (bV t):=by
 unfold normal;rw[cz];refine and_congr_right λaf=>?_;have aV:=lP.1 af;rw[aek];constructor
 ·intro h;have key:∀ m j,j<m->j<t.ns.length->l1 (gE t.ns j):=by
   intro m
   induction m with
   |zero=>exact λj h=>absurd h (mS _)
   |succ m aF=>
    intro j acc ai;rw[zb af ai];refine .mk (λew c an=>?_) λc an=>?_;·obtain⟨k,ae,rfl⟩:=cA.1 an;have eX:=aV.aw j ai k ae;rw[aej af eX.1 (by omega)];exact h _ (bi ai) ew k ae
    ·obtain⟨k,ae,rfl⟩:=cA.1 an;have eX:=aV.aw j ai k ae;obtain⟨q,rfl⟩:=ea eX.1;exact aF q (by omega) (by omega)
  obtain⟨kw,hO⟩:=aV.bA;obtain⟨r,fE⟩:=ea kw;unfold bV;rw[fE];exact key _ r (Bw _) (by omega)
 ·intro h;have key:∀ j,j<t.ns.length->l1 (gE t.ns j):=λj ai=>aV.down (P:=λj=>l1 (gE t.ns j)) (λr fE=>by rw[<-fE];exact h) (λp aB nA j tf=>by rw[zb af aB]at nA;exact nA.inv.2 _ (y3 tf)) _ j ai (b2 _);intro d ak ew k ae;obtain⟨j,ai,rfl⟩:=jv ak;have aa:=key j ai;rw[zb af ai]at aa;have ab:=aa.inv.1 ew _ (y3 ae);have eX:=aV.aw j ai k ae;rw[aej af eX.1 (by omega)]at ab;exact ab
inductive hp(P:ap->Prop):aD->Prop
 |mk{d:ap}{ks:List aD}:P d->(∀ c∈ks,hp P c)->hp P (.mk d ks)
def hp.inv{P:ap->Prop}{d:ap}{ks:List aD}(h:hp P (.mk d ks)):P d/\∀ c∈ks,hp P c:=by
 cases h with
 |mk aa ab=>exact⟨aa,ab⟩
section
variable{P:ap->Prop}
def Dz(af:right t=true):hp P (bV t) ↔ ∀ d∈t.ns,P d.bare:=by
 have aV:=lP.1 af;constructor
 ·intro h d ak;obtain⟨j,ai,rfl⟩:=jv ak;have aa:=aV.down (P:=λj=>hp P (gE t.ns j)) (λr fE=>by rw[<-fE];exact h) (λp aB nA j tf=>by rw[zb af aB]at nA;exact nA.inv.2 _ (y3 tf)) _ j ai (b2 _);rw[zb af ai]at aa;exact aa.inv.1
 ·intro h;have key:∀ m j,j<m->j<t.ns.length->hp P (gE t.ns j):=by
   intro m
   induction m with
   |zero=>exact λj h=>absurd h (mS _)
   |succ m aF=>intro j acc ai;rw[zb af ai];refine .mk (h _ (bi ai)) λc an=>?_;obtain⟨k,ae,rfl⟩:=cA.1 an;have eX:=aV.aw j ai k ae;obtain⟨q,rfl⟩:=ea eX.1;exact aF q (by omega) (by omega)
  obtain⟨kw,hO⟩:=aV.bA;obtain⟨r,fE⟩:=ea kw;unfold bV;rw[fE];exact key _ r (Bw _) (by omega)
def ar7(ag:∀ d,P d->P d.bare)(az:P (nothing 0).bare)(aa:P (nothing 1).bare):∀ {T:aD},hp P T->hp P (T.fold hj):=by
 intro T
 induction T using aD.ind with
 |h d ks aF=>
  intro h;obtain⟨ak,ae⟩:=h.inv;rw[aD.fold_eq,za];have ad:∀ x∈ks.map (aD.fold hj),hp P x:=λx ad=>by obtain⟨c,an,rfl⟩:=cA.1 ad;exact aF c an (ae c an)
  split
  ·rename_i ew;have au:∀ y∈(ks.map (aD.fold hj)).filter (hh d),hp P y:=λy aH=>ad y (iE.1 aH).1;generalize(ks.map (aD.fold hj)).filter (hh d)=bj at au
   match bj,au with
   |[],_=>
    refine .mk ?_ λc an=>by cases an
    rcases ew with e | e;·rw[show d.k-4=0 by omega];exact az
    ·rw[show d.k-4=1 by omega];exact aa
   |[y],au=>exact au y (.head _)| tg::th::l,au=>exact .mk (ag _ ak) au
  ·exact .mk (ag _ ak) ad
def ar8:∀ {T:aD},hp P T->(∀ cd,∀ U∈T.e0 cd,hp P U)/\hp P T.bn:=by
 intro T
 induction T using aD.ind with
 |h d ks aF=>
  intro h;obtain⟨aA,ae⟩:=h.inv;have ky:hp P (aD.mk d ks).bn:=by show hp P (.mk d (ks.flatMap (aD.e0 (gR d))));refine .mk aA λU ef=>?_;obtain⟨c,an,ef⟩:=g6.1 ef;exact(aF c an (ae c an)).1 _ U ef
  refine⟨λcd U ef=>?_,ky⟩;rw[aD.oH]at ef;split at ef;·obtain⟨c,an,ef⟩:=g6.1 ef;exact(aF c an (ae c an)).1 _ U ef
  ·rw[ec.1 ef];exact ky
def ael(ag:∀ d,P d->P d.bare)(az:P (nothing 0).bare)(aa:P (nothing 1).bare){T:aD}(h:hp P T):hp P T.iS:=(ar8 (ar7 ag az aa h)).2
def UG{X:aD}(hk:hp P X):∀ (p:List Int) {T:aD},hp P T->hp P (T.put p X)
 |[],T,h=>hk
 |i::p,.mk d ks,h=>by
  obtain⟨ak,ae⟩:=h.inv;rw[aD.put];show hp P (aD.mk d (ks.set i.toNat ((ks.getD i.toNat (.mk d ks)).put p X)));refine .mk ak λc an=>?_;rcases xj an with an | rfl;·exact ae c an
  ·refine UG hk p ?_;rw[bt];cases e:ks[i.toNat]? with
   |none=>exact h| some c=>exact ae c (rF e)
end
def JX(nm:ByteArray):∀ (ds ds':List aP) (i:Nat),ds.map aP.name=ds'.map aP.name->cr nm ds i=cr nm ds' i
 |[],[],_,_=>rfl| [],_::_,_,h=>by simp at h
 |_::_,[],_,h=>by simp at h
 |d::ds,gO::ds',i,h=>by rw[bX,bX,ya]at h;rw[cr,cr,h.1,JX nm ds ds' _ h.2]
def JY(ds:List aP)(d:ap):Prop:=d.k=3->0<=cr d.t ds 0
def ar9{g:cD}(fl:g.ds.length=g.n)(hm:dj al g=0)(hu:u<g.ds.length){y:bP}(aH:normal y=true)(aC:∀ d∈y.ns,JY g.ds d){h:cD}(rl:h.n=g.n)(an:h.ds.map aP.a0=(eN g.ds u y).map aP.a0) :
  dj al h=0\/dj al h=40:=by
 have aJ:dj al h=dj al (nH (eN g.ds u y)):=by rw[<-Aj,<-Aj al (nH _)];congr 1;unfold cD.a0 nH;rw[an,rl,xx,fl]
 rw[aJ];obtain⟨aa,ab,aj,aG,bx⟩:=y2.1 hm;have ay:=xx g.ds u y;have h7:=aef g.ds u y;have fo:∀ d∈eN g.ds u y,d∈g.ds\/d=⟨g.ds[u].name,y⟩:=λd ak=>by
  obtain⟨i,hi,rfl⟩:=jv ak;by_cases e:i=u;·subst e;have aj:=Dy (y:=y) hu;rw[db hi]at aj;exact .inr (fm aj)
  ·have aj:=Dx (ds:=g.ds) (y:=y) e;rw[db hi,db (by omega)]at aj;rw[fm aj];exact .inl (bi _)
 have bw:=fi.1 ab;have zc:nr (eN g.ds u y)=true:=fi.2 λd ak=>by
  rcases fo d ak with h | rfl;·exact bw d h
  ·have:=bw _ (bi hu);rw[cz]at this |-;exact⟨this.1,aH⟩
 have fR:(List.range (eN g.ds u y).length).all (nE (eN g.ds u y))=true:=fi.2 λi hi=>by
  rw[g8,ay]at hi;have bZ:=aG i hi;unfold nE at bZ |-;have a4:((eN g.ds u y)[i]'(by omega)).name=g.ds[i].name:=by
   have ek:((eN g.ds u y).map aP.name)[i]?=(g.ds.map aP.name)[i]?:=by rw[h7]
   rw[jR,jR,db (by omega),db hi]at ek;exact fm ek
  rw[db hi]at bZ;rw[db (by omega)];show decide (cr ((eN g.ds u y)[i]'(by omega)).name _ 0=_)=true;rw[a4,JX _ _ _ _ h7];exact bZ
 have xv:((eN g.ds u y).all λd=>d.t.ns.all (yT (eN g.ds u y)))=true:=fi.2 λd ak=>fi.2 λn BX=>by
  unfold yT;rw[JX _ _ _ _ h7];have:JY g.ds n:=by
   rcases fo d ak with h | rfl;·exact bx d h n BX
   ·exact aC n BX
  by_cases e:n.k=3;·rw[eV (this e),ET]
  ·rw[dU e];rfl
 rw[<-Tv];unfold Jj;have asa:nr (nH (eN g.ds u y)).ds=true:=zc;have asb:(List.range (nH (eN g.ds u y)).ds.length).all (nE (nH (eN g.ds u y)).ds)=true:=fR;have asc:((nH (eN g.ds u y)).ds.all λd=>d.t.ns.all (yT (nH (eN g.ds u y)).ds))=true:=xv;rw[asa,asb,asc,dU (by show ¬ (((eN g.ds u y).length:Nat):Int)=0;omega)];cases mL al (nH (eN g.ds u y))with
 |true=>exact .inr rfl| false=>exact .inl rfl
def asd(n b:Nat):Value:=.slice (some ⟨b,0,none⟩) n n
def ase(n:Nat)(bJ:List Nat):List Value:=bJ.map (asd n)++List.replicate (n-bJ.length) (.slice none 0 0)
def ku(o6 n:Nat)(bJ:List Nat):aE:=⟨o6,.cells (ase n bJ).toArray 138 (0,0)⟩
end Go.V
