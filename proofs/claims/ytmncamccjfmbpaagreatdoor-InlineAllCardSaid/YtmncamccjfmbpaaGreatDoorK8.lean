/- Part 8 of what the proofs of this seat share: the executor, data in memory, walks.
-/
import Derived.Test.YtmncamccjfmbpaaGreatDoorK7
import Derived.Test.YtmncamccjfmbpaaGreatDoorK5
import Derived.Test.YtmncamccjfmbpaaGreatDoorK2
import Derived.Test.YtmncamccjfmbpaaGreatDoorK4
set_option linter.all false
set_option maxHeartbeats 8000000
set_option maxRecDepth 100000
namespace Go.V
open Go
def sT:=@List.map_singleton
def CF:=@List.flatMap_assoc
def IM:=@List.mem_map_of_mem
def SR:=@List.count_eq_zero_of_not_mem
def SS:=@List.perm_ext_iff_of_nodup
def SU:=@List.append_cancel_left
def Mz:=@List.Sublist.refl
def SV:=@List.Perm.append_left
def abS:=@List.eq_nil_iff_forall_not_mem
def MA:=@List.any_cons
def SW:=@List.map_reverse
def MB:=@List.map_id
variable{pl:List (ByteArray×Int)}{F dk:List aU}{jk dP ds':List an}{i n e c' c cQ u:Nat}{l bi pY ly:List Nat}{α:Type}{K:dA->aI->List aD->Prop}{s:Operand}{t:bR}{c7 aF:dD}{xs b8:List Value}{aS:Addr}{Mr M:List aD}{r:Int}{I J:aI}{a:Option Addr}{ks aw:List Int}{os:aX}{rQ:Bool}
structure abT{α:Type}(F:an->List α->α):Prop where
 ax:∀ d l,F (d.eC l)=F d
 one:∀ d x,d.k=4\/d.k=5->F d [x]=x
 nest:∀ d ig xs ys e7,d.k=4\/d.k=5->ig.k=d.k->F d (xs++F ig ys::e7)=F d (xs++(ys++e7))
 drop:∀ d ig xs e7,d.k=4->ig.k=0->F d (xs++F ig []::e7)=F d (xs++e7)
 aov:∀ d ig,d.k=4->ig.k=0->F d []=F ig []
 aow:∀ d ig,d.k=5->ig.k=1->ig.cz=0->ig.s1=0->ig.s2=0->ig.cZ=0->F d []=F ig []
def IN(xs ys:List (aU×List Nat)):jO (xs++ys)=jO xs++bif xs.all (·.1.z)then jO ys else []:=by
 induction xs with
 |nil=>rfl
 |cons x xs aN=>
  rw[mU,jO,jO,aN,w4];cases x.1.z<;>simp
def aox(ks:List aU)(aY:aU×Bool):(ks.foldl k2 aY).1.z=(aY.1.z&&ks.all (·.z)):=by
 induction ks generalizing aY with
 |nil=>simp| cons k ks aN=>rw[jn,aN,w4];simp[k2,Bool.and_assoc]
def abU(ks:List aU)(aY:aU×Bool):(ks.foldl k2 aY).1.s=(aY.1.s||ks.any (·.s)):=by
 induction ks generalizing aY with
 |nil=>simp| cons k ks aN=>rw[jn,aN,MA];simp[k2,Bool.or_assoc]
def IP(ks:List aU)(aY:aU×Bool):(ks.foldl k2 aY).2=(aY.2&&ks.all (·.kC)):=by
 induction ks generalizing aY with
 |nil=>simp| cons k ks aN=>rw[jn,aN,w4];simp[k2,Bool.and_assoc]
def aoy(ks:List aU):∀ aY:aU×Bool,(ks.foldl k2 aY).1.f=(aY.1.f||(aY.2&&(hz ks).1.f)):=by
 unfold hz
 induction ks with
 |nil=>intro aY;simp
 |cons k ks aN=>
  intro aY;rw[jn,jn,aN,aN (k2 _ k)];simp only[k2];cases aY.1.f<;>cases aY.2<;>cases k.f<;>cases k.kC<;>simp
def IQ(ks:List aU):(hA ks).z=ks.all (·.z):=by show(hz ks).1.z=_;unfold hz;rw[aox,nW]
def SX(ks:List aU):(hA ks).kC=ks.all (·.kC):=by
 have aa:=IQ ks;have ab:(hA ks).s=(ks.any (·.s)&&ks.all (·.kC)):=by show((hz ks).1.s&&(hz ks).2)=_;unfold hz;rw[abU,IP,ur,nW]
 have ak:(hA ks).kC=((hA ks).z||(hA ks).s):=rfl;rw[ak,aa,ab];clear aa ab ak
 induction ks with
 |nil=>rfl
 |cons k ks aN=>
  rw[w4,MA,w4];have h:k.kC=(k.z||k.s):=rfl;rw[h,<-aN];cases k.z<;>cases k.s<;>cases ks.all (·.z)<;>cases ks.any (·.s)<;>simp_all
def abV(xs ys e7:List aU):hA (xs++hA ys::e7)=hA (xs++(ys++e7)):=by
 have bb:(hA (xs++hA ys::e7)).z=(hA (xs++(ys++e7))).z:=by rw[IQ,IQ];simp[IQ]
 have hu:(hz (xs++hA ys::e7)).2=(hz (xs++(ys++e7))).2:=by unfold hz;rw[IP,IP];simp[SX]
 have aA:(hA (xs++hA ys::e7)).f=(hA (xs++(ys++e7))).f:=by
  show(hz _).1.f=(hz _).1.f;have e:∀ a b:List aU,(hz (a++b)).1.f=((hz a).1.f||((hz a).2&&(hz b).1.f)):=by intro a b;show((a++b).foldl k2 (⟨true,false,false⟩,true)).1.f=_;rw[rE,aoy];rfl
  have aG:∀ (y:aU) (b:List aU),(hz (y::b)).1.f=(y.f||(y.kC&&(hz b).1.f)):=by intro y b;have:=e [y] b;rw[rL]at this;rw[this];show((false||(true&&y.f))||((true&&y.kC)&&_))=_;rw[ur,nW,nW]
  rw[e,e xs,aG,e ys,SX];have a7:(hz ys).2=ys.all (·.kC):=by unfold hz;rw[IP,nW]
  rw[a7];rfl
 have ar:(hA (xs++hA ys::e7)).s=(hA (xs++(ys++e7))).s:=by
  have aa:∀ ks,(hA ks).s=(ks.any (·.s)&&ks.all (·.kC)):=by intro ks;show((hz ks).1.s&&(hz ks).2)=_;unfold hz;rw[abU,IP,ur,nW]
  rw[aa,aa];simp only[List.any_append,MA,Gw,w4,SX,aa];cases xs.any (·.s)<;>cases ys.any (·.s)<;>cases e7.any (·.s)<;>cases xs.all (·.kC)<;>cases ys.all (·.kC)<;>cases e7.all (·.kC)<;>rfl
 cases a2:hA (xs++hA ys::e7);cases ag:hA (xs++(ys++e7));rw[a2,ag]at bb aA ar;simp only at bb aA ar;rw[bb,aA,ar]
def aoz(ks:List aU):∀ f:aU,ks.foldl oW f=oW f (qC ks):=by
 unfold qC
 induction ks with
 |nil=>intro f;simp[oW]
 |cons k ks aN=>
  intro f;rw[jn,jn,aN,aN (oW _ k)];simp only[oW,aU.mk.injEq];refine⟨?_,?_,?_⟩<;>cases f.z<;>cases f.s<;>cases f.f<;>cases k.z<;>cases k.s<;>cases k.f<;>simp
def aoA(xs ys e7:List aU):qC (xs++qC ys::e7)=qC (xs++(ys++e7)):=by show(xs++qC ys::e7).foldl oW _=(xs++(ys++e7)).foldl oW _;rw[rE,rE,rE,jn,<-aoz ys]
def aoB(x:aU):hA [x]=x:=by cases x with | mk z s f=>cases z<;>cases s<;>cases f<;>rfl
def aoC(x:aU):qC [x]=x:=by cases x with | mk z s f=>cases z<;>cases s<;>cases f<;>rfl
def aoD{d:an}(h:d.k=4)(ks:List aU):gP d ks=hA ks:=by unfold gP;simp[h]
def aoE{d:an}(h:d.k=5)(ks:List aU):gP d ks=qC ks:=by unfold gP;simp[h]
def CG{d:an}(h:d.k=4)(xs:List vm):lG pl F d xs=((hA (xs.map (·.1.1)),jO (xs.map (·.1))),xs.any (·.2)):=by unfold lG qG kb yj;simp only[aoD h,h,gO];simp;rfl
def IR{d:an}(h:d.k=5)(xs:List vm):lG pl F d xs=((qC (xs.map (·.1.1)),(xs.map (·.1)).flatMap (·.2)),xs.any (·.2)):=by unfold lG qG kb yj;simp only[aoE h,h,gO];simp;rfl
def abW{d:an}(h:d.k=0):lG pl F d []=((⟨true,false,false⟩,[]),false):=by unfold lG qG kb yj gP;simp[h]
def aoF{d:an}(h:d.k=1)(az:d.rs=true):lG pl F d []=((⟨false,false,true⟩,[]),false):=by unfold lG qG kb yj gP;simp[h,az]
def aoG(pl:List (ByteArray×Int))(F:List aU):abT (lG pl F):=by
 refine⟨λd l=>rfl,?_,?_,?_,?_,?_⟩
 ·rintro d x (h | h)
  ·rw[CG h];simp[aoB,jO]
  ·rw[IR h];simp[aoC]
 ·rintro d ig xs ys e7 (h | h) bd
  ·rw[h]at bd;rw[CG h,CG h,CG bd];have e:(xs++((hA (ys.map (·.1.1)),jO (ys.map (·.1))),ys.any (·.2))::e7).map (·.1.1)=xs.map (·.1.1)++hA (ys.map (·.1.1))::e7.map (·.1.1):=by simp
   rw[e,abV];have a7:jO ((xs++((hA (ys.map (·.1.1)),jO (ys.map (·.1))),ys.any (·.2))::e7).map (·.1))=jO ((xs++(ys++e7)).map (·.1)):=by rw[cP,cb,cP,cP,IN,IN (xs.map _),IN (ys.map _),jO];rw[IQ];simp only[K0];rfl
   rw[a7];simp
  ·rw[h]at bd;rw[IR h,IR h,IR bd];have e:(xs++((qC (ys.map (·.1.1)),(ys.map (·.1)).flatMap (·.2)),ys.any (·.2))::e7).map (·.1.1)=xs.map (·.1.1)++qC (ys.map (·.1.1))::e7.map (·.1.1):=by simp
   rw[e,aoA];simp
 ·rintro d ig xs e7 h bd;rw[CG h,CG h,abW bd];have e:(xs++((⟨true,false,false⟩,[]),false)::e7:List vm).map (·.1.1)=xs.map (·.1.1)++hA []::e7.map (·.1.1):=by simp;rfl
  rw[e,abV];have a7:jO ((xs++((⟨true,false,false⟩,[]),false)::e7:List vm).map (·.1))=jO ((xs++e7).map (·.1)):=by rw[cP,cb,cP,IN,IN,jO];rfl
  rw[a7];simp
 ·rintro d ig h bd;rw[CG h,abW bd];rfl
 ·rintro d ig h bd az aa ab ak;rw[IR h,aoF bd (by unfold an.rs;simp[az,aa,ab,ak])];rfl
open Go Go.Proofs
inductive aK where
 |mk:Nat->List aK->aK
namespace aK
def bh:aK->Nat
 |mk k _=>k
def sub:aK->List aK
 |mk _ ks=>ks
mutual
def cT:aK->List Nat
 |mk k ks=>MC ks++[k]
def MC:List aK->List Nat
 |[]=>[]| a::l=>cT a++MC l
end
def abX:∀ l:List aK,MC l=l.flatMap cT
 |[]=>rfl| a::l=>by rw[MC,abX l];rfl
def mD(k:Nat)(ks:List aK):cT (mk k ks)=ks.flatMap cT++[k]:=by rw[cT,abX]
def ind{P:aK->Prop}(h:∀ k ks,(∀ c∈ks,P c)->P (mk k ks)):∀ T,P T
 |mk k ks=>h k ks (λc ap=>ind h c)
def E8:∀ T:aK,T.bh∈T.cT
 |mk k ks=>by rw[mD];exact ra _ (.head _)
end aK
inductive cu(ns:List an):aK->Prop
 |mk {k:Nat} {ks:List aK}:k<ns.length->(nodeAt ns k).ax=ks.map (λc=>(c.bh:Int))->(∀ c∈ks,cu ns c)->cu ns (.mk k ks)
def r0(ns:List an):Prop:=∀ j (h:j<ns.length),∀ k∈ns[j].ax,0<=k/\k<j
def cu.inv{ns:List an}{k:Nat}{ks:List aK}(h:cu ns (.mk k ks)):k<ns.length/\(nodeAt ns k).ax=ks.map (λc=>(c.bh:Int))/\∀ c∈ks,cu ns c:=by
 cases h with
 |mk aa ab ak=>exact⟨aa,ab,ak⟩
def cu.mE{ns:List an}:∀ {T:aK},cu ns T->T.bh<ns.length
 | .mk k ks,h=>h.inv.1
def r0.node{ns:List an}(ae:r0 ns){j:Nat}(ai:j<ns.length){k:Int}(h:k∈(nodeAt ns j).ax):0<=k/\k<j:=by rw[gD ai]at h;exact ae j ai k h
def IS{α β:Type}{R:α->β->Prop}:∀ {l:List α},(∀ x∈l,∃ y,R x y)->∃ m:List β,m.length=l.length/\∀ i (h:i<l.length) (bd:i<m.length),R l[i] m[i]
 |[],_=>⟨[],rfl,λi h=>absurd h (nM _)⟩
 |x::l,h=>by
  obtain⟨y,aE⟩:=h x (.head _);obtain⟨m,hm,af⟩:=IS λa a2=>h a (.tail _ a2);refine⟨y::m,by simp[hm],λi hi cX=>?_⟩;cases i with
  |zero=>exact aE| succ i=>exact af i (by simpa using hi) (by simpa using cX)
def cu.ex{ns:List an}(ae:r0 ns):∀ k,k<ns.length->∃ T:aK,T.bh=k/\cu ns T:=by
 intro k
 induction k using Nat.strongRecOn with
 |_ k aN=>
  intro ay;obtain⟨ks,aa,ab⟩:=IS (R:=λ(x:Int) (T:aK)=>(T.bh:Int)=x/\cu ns T) (l:=(nodeAt ns k).ax) λx ad=>by obtain⟨az,aa⟩:=ae.node ay ad;obtain⟨T,bs,dH⟩:=aN x.toNat (by omega) (by omega);exact⟨T,by omega,dH⟩
  refine⟨.mk k ks,rfl,.mk ay ?_ λc ap=>?_⟩;·refine nU (by simp[aa]) λi hi cX=>?_;rw[g7];exact(ab i hi (by omega)).1.symm
  ·obtain⟨i,hi,rfl⟩:=j9 ap;exact(ab i (by omega) hi).2
def cu.aoH{ns:List an}:∀ {S:aK},cu ns S->∀ {T:aK},cu ns T->S.bh=T.bh->S=T:=by
 intro S
 induction S using aK.ind with
 |h k ks aN=>
  intro cR T bs e;cases T with
  |mk eZ IT=>
  obtain rfl:k=eZ:=e;obtain⟨-,ab,ak⟩:=cR.inv;obtain⟨-,lO,oQ⟩:=bs.inv;rw[ab]at lO;have ay:ks.length=IT.length:=by simpa using congrArg List.length lO
  congr 1;refine nU ay λi hi cX=>?_;have aJ:(ks.map (λc=>(c.bh:Int)))[i]?=(IT.map (λc=>(c.bh:Int)))[i]?:=by rw[lO]
  rw[iG,iG,da hi,da cX]at aJ;have bB:(ks[i].bh:Int)=IT[i].bh:=fw aJ;exact aN _ (bx hi) (ak _ (bx hi)) (oQ _ (bx cX)) (by omega)
def cu.lt{ns:List an}:∀ {T:aK},cu ns T->∀ x∈T.cT,x<ns.length:=by
 intro T
 induction T using aK.ind with
 |h k ks aN=>
  intro h x ad;obtain⟨aa,-,ak⟩:=h.inv;rw[aK.mD]at ad;rcases cE.1 ad with ad | ad;·obtain⟨c,ap,ad⟩:=hy.1 ad;exact aN c ap (ak c ap) x ad
  ·rw[ek.1 ad];exact aa
def cu.SY{ns:List an}(ae:r0 ns){k:Nat}{ks:List aK}(h:cu ns (.mk k ks)){c:aK}(ap:c∈ks):c.bh<k:=by
 obtain⟨aa,ab,ak⟩:=h.inv;have:(c.bh:Int)∈(nodeAt ns k).ax:=by rw[ab];exact cC.2 ⟨c,ap,rfl⟩
 have:=ae.node aa this;omega
def cu.le{ns:List an}(ae:r0 ns):∀ {T:aK},cu ns T->∀ x∈T.cT,x<=T.bh:=by
 intro T
 induction T using aK.ind with
 |h k ks aN=>
  intro h x ad;obtain⟨aa,-,ak⟩:=h.inv;rw[aK.mD]at ad;rcases cE.1 ad with ad | ad;·obtain⟨c,ap,ad⟩:=hy.1 ad;have aJ:=aN c ap (ak c ap) x ad;have bB:=h.SY ae ap;show x<=k;omega
  ·rw[ek.1 ad];exact cc _
def cu.congr{ns:List an}:∀ {T:aK},cu ns T->(∀ x∈T.cT,x<jk.length/\(nodeAt jk x).ax=(nodeAt ns x).ax)->cu jk T:=by
 intro T
 induction T using aK.ind with
 |h k ks aN=>intro h ad;obtain⟨aa,ab,ak⟩:=h.inv;have fc:=ad k (aK.E8 (.mk k ks));refine .mk fc.1 (by rw[fc.2,ab]) λc ap=>aN c ap (ak c ap) λx aoI=>ad x ?_;rw[aK.mD];exact jr _ (hy.2 ⟨c,ap,aoI⟩)
def abY{ns m:List an}{k:Nat}(ae:k<ns.length):nodeAt (ns++m) k=nodeAt ns k:=by unfold nodeAt;rw[bz,bz,q' ae]
def E9{ns:List an}{d:an}:nodeAt (ns++[d]) ns.length=d:=by unfold nodeAt;rw[bz,mT (cc _),pI];rfl
def cu.app{ns:List an}{T:aK}(h:cu ns T)(m:List an):cu (ns++m) T:=h.congr λx ad=>by have:=h.lt x ad;exact⟨by rw[cm];omega,by rw[abY this]⟩
def aoJ{ns:List an}(aj:hO (eO ns)){j:Nat}(hi:i<ns.length)(ai:j<ns.length)(bn:i≠j){k:Int}(aa:k∈(nodeAt ns i).ax)(ab:k∈(nodeAt ns j).ax):False:=by
 rw[gD hi]at aa;rw[gD ai]at ab;have:=(Hu.1 aj).2;rw[PX]at this;rcases Nat.lt_or_gt_of_ne bn with h | h
 ·exact this i j hi ai h k aa k ab rfl
 ·exact this j i ai hi h k ab k aa rfl
def abZ{ns:List an}(aj:hO (eO ns)){j:Nat}(ai:j<ns.length):hO (nodeAt ns j).ax:=by rw[gD ai];exact(Hu.1 aj).1 _ (bx ai)
def ab0{α:Type}(f g:α->Nat):∀ l:List α,(l.map λx=>f x+g x).sum=(l.map f).sum+(l.map g).sum
 |[]=>rfl| a::l=>by simp only[cb,jK,ab0 f g l];omega
def ab1{α β:Type}(g:β->Nat)(f:α->List β):∀ l:List α,((l.flatMap f).map g).sum=(l.map λa=>((f a).map g).sum).sum
 |[]=>rfl| a::l=>by rw[kr,cP,uD,ab1 g f l];rfl
def ab2{α:Type}(x:Nat)(f:α->List Nat):∀ l:List α,(l.flatMap f).count x=(l.map λa=>(f a).count x).sum
 |[]=>rfl| a::l=>by rw[kr,List.count_append,ab2 x f l];rfl
def wQ(ns:List an)(x y:Nat):Nat:=(nodeAt ns y).ax.count (x:Int)
def ab3(x:Nat):∀ ks:List aK,(ks.map (λc=>(c.bh:Int))).count (x:Int)=(ks.map λc=>if c.bh=x then 1 else 0).sum
 |[]=>rfl
 |c::ks=>by
  rw[cb,List.count_cons,ab3 x ks,cb,jK];by_cases e:c.bh=x;·subst e;simp;omega
  ·have:¬ ((c.bh:Int)=x):=by omega
   simp[e,this]
def cu.count{ns:List an}(x:Nat):∀ {T:aK},cu ns T->T.cT.count x=(if T.bh=x then 1 else 0)+(T.cT.map (wQ ns x)).sum:=by
 intro T
 induction T using aK.ind with
 |h k ks aN=>
  intro h;obtain⟨aa,ab,ak⟩:=h.inv;have aG:(ks.map λc=>c.cT.count x)=ks.map λc=>(if c.bh=x then 1 else 0)+(c.cT.map (wQ ns x)).sum:=gM λc ap=>aN c ap (ak c ap);have a7:wQ ns x k=(ks.map λc=>if c.bh=x then 1 else 0).sum:=by unfold wQ;rw[ab,ab3]
  rw[aK.mD,List.count_append,ab2,aG,ab0,cP,uD,ab1,sT,List.sum_singleton,a7,List.count_singleton];show _+(if k == x then 1 else 0)=(if k=x then 1 else 0)+_;by_cases e:k=x;·simp[e];omega
  ·simp[e];omega
def cu.count_le{ns:List an}(ae:r0 ns)(aj:hO (eO ns)){T:aK}(h:cu ns T):∀ (m x:Nat),ns.length-x<=m->T.cT.count x<=1
 |0,x,hm=>by
  have:x ∉ T.cT:=λad=>by have:=h.lt x ad;omega
  rw[SR this];omega
 |m+1,x,hm=>by
  rw[h.count x];by_cases aC:∃ p∈T.cT,(x:Int)∈(nodeAt ns p).ax
  ·obtain⟨p,ab4,xF⟩:=aC;have jw:=h.lt p ab4;have avd:=h.le ae p ab4;have ave:=ae.node jw xF;have e:T.cT.map (wQ ns x)=T.cT.map λy=>if y=p then 1 else 0:=gM λy aE=>by
    by_cases e:y=p;·subst e;rw[bQ rfl];unfold wQ;exact Nat.le_antisymm (List.nodup_iff_count.1 (abZ aj jw) _) (List.count_pos_iff.2 xF)
    ·rw[bU e];unfold wQ;exact SR λs8=>aoJ aj (h.lt y aE) jw e s8 xF
   have a7:∀ l:List Nat,(l.map λy=>if y=p then 1 else 0).sum=l.count p:=λl=>by
    induction l with
    |nil=>rfl
    |cons a l aN=>
     rw[cb,jK,aN,List.count_cons];by_cases e:a=p;·simp[e];omega
     ·simp[e]
   rw[e,a7,bU (by omega),db];exact cu.count_le ae aj h m p (by omega)
  ·have e:(T.cT.map (wQ ns x)).sum=0:=by
    have:∀ l:List Nat,(∀ y∈l,(x:Int) ∉ (nodeAt ns y).ax)->(l.map (wQ ns x)).sum=0:=λl=>by
     induction l with
     |nil=>intro _;rfl| cons a l aN=>intro ay;rw[cb,jK,aN λy aE=>ay y (.tail _ aE)];unfold wQ;rw[SR (ay a (.head _))]
    exact this _ λy aE P5=>aC ⟨y,aE,P5⟩
   rw[e];split<;>omega
def cu.nodup{ns:List an}(ae:r0 ns)(aj:hO (eO ns)){T:aK}(h:cu ns T):T.cT.Nodup:=
 List.nodup_iff_count.2 λx=>h.count_le ae aj (ns.length-x) x (cc _)
def MD(h:l.Nodup)(ay:∀ x∈l,x<n):l.length<=n:=by have ab:=List.Nodup.length_le_of_subset h (l₂:=List.range n) λx ad=>g'.2 (ay x ad);rwa [wj]at ab
def E'{α β:Type}{f g:α->List β}:∀ {l:List α},(∀ c∈l,(f c).Sublist (g c))->(l.flatMap f).Sublist (l.flatMap g)
 |[],_=>.slnil| a::l,h=>by rw[kr,kr];exact(h a (.head _)).append (E' λc ap=>h c (.tail _ ap))
def iE(d:an):Option Int:=if d.k=4\/d.k=5 then some d.k else none
namespace aK
section
variable(ns:List an)
mutual
def pe(cO:Option Int):aK->List aK
 |mk k ks=>if some (nodeAt ns k).k=cO then ME cO ks else [mk k ks]
def ME(cO:Option Int):List aK->List aK
 |[]=>[]| a::l=>pe cO a++ME cO l
end
mutual
def fV(cO:Option Int):aK->List aK
 |mk k ks=>if some (nodeAt ns k).k=cO then vn cO ks else [mk k (vn (iE (nodeAt ns k)) ks)]
def vn(cO:Option Int):List aK->List aK
 |[]=>[]| a::l=>fV cO a++vn cO l
end
def ab5(cO:Option Int):∀ l,ME ns cO l=l.flatMap (pe ns cO)
 |[]=>rfl| a::l=>by rw[ME,ab5 cO l];rfl
def CH(cO:Option Int):∀ l,vn ns cO l=l.flatMap (fV ns cO)
 |[]=>rfl| a::l=>by rw[vn,CH cO l];rfl
def parts(T:aK):List aK:=T.sub.flatMap (pe ns (iE (nodeAt ns T.bh)))
def bq:aK->aK
 |mk k ks=>mk k (ks.flatMap (fV ns (iE (nodeAt ns k))))
def yr(cO:Option Int)(k:Nat)(ks:List aK):pe ns cO (mk k ks)=if some (nodeAt ns k).k=cO then ks.flatMap (pe ns cO)else [mk k ks]:=by rw[pe,ab5]
def qT(cO:Option Int)(k:Nat)(ks:List aK):fV ns cO (mk k ks)=if some (nodeAt ns k).k=cO then ks.flatMap (fV ns cO)else [bq ns (mk k ks)]:=by rw[fV,CH,CH];rfl
def ab6:∀ T,(bq ns T).bh=T.bh
 |mk k ks=>rfl
def aoK(cO:Option Int):∀ T,(pe ns cO T).map (bq ns)=fV ns cO T:=by
 intro T
 induction T using aK.ind generalizing cO with
 |h k ks aN=>
  rw[yr,qT];split;·rw[Ag];exact rP λc ap=>aN c ap cO
  ·rfl
def ab7:∀ T,(bq ns T).sub=(parts ns T).map (bq ns)
 |mk k ks=>by show ks.flatMap _=(ks.flatMap _).map _;rw[Ag];exact rP λc ap=>(aoK ns _ c).symm
def aoL(cO:Option Int):∀ T,((pe ns cO T).flatMap cT).Sublist T.cT:=by
 intro T
 induction T using aK.ind with
 |h k ks aN=>
  rw[yr,mD];split;·rw[CF];exact(E' λc ap=>aN c ap).trans (tw _ _)
  ·rw[pK,mD];exact .refl _
def aoM(cO:Option Int):∀ T,((fV ns cO T).flatMap cT).Sublist T.cT:=by
 intro T
 induction T using aK.ind generalizing cO with
 |h k ks aN=>
  rw[qT,mD];split;·rw[CF];exact(E' λc ap=>aN c ap cO).trans (tw _ _)
  ·rw[pK];show((mk k (ks.flatMap (fV ns _))).cT).Sublist _;rw[mD,CF];exact(E' λc ap=>aN c ap _).append (.refl _)
def aoN:∀ T,((bq ns T).cT).Sublist T.cT
 |mk k ks=>by show((mk k (ks.flatMap (fV ns _))).cT).Sublist _;rw[mD,mD,CF];exact(E' λc ap=>aoM ns _ c).append (.refl _)
def aoO(cO:Option Int):∀ {T},cu jk T->∀ S∈pe ns cO T,cu jk S:=by
 intro T
 induction T using aK.ind with
 |h k ks aN=>
  intro h S cR;rw[yr]at cR;split at cR;·obtain⟨c,ap,cR⟩:=hy.1 cR;exact aN c ap (h.inv.2.2 c ap) S cR
  ·rw[ek.1 cR];exact h
def ab8{T:aK}(h:cu ns T):∀ S∈parts ns T,cu ns S:=by
 intro S cR;cases T with
 |mk k ks=>
 obtain⟨c,ap,cR⟩:=hy.1 cR;exact aoO ns _ (h.inv.2.2 c ap) S cR
def aoP:∀ {T},cu ns T->∀ cO,(∀ S,cu ns S->S.bh∈(fV ns cO T).flatMap cT->S.bh<jk.length/\(nodeAt jk S.bh).ax=(parts ns S).map λc=>(c.bh:Int))->∀ U∈fV ns cO T,cu jk U:=by
 intro T
 induction T using aK.ind with
 |h k ks aN=>
  intro h cO H U ed;rw[qT]at ed H;split at ed;·rename_i e;rw[bQ e]at H;obtain⟨c,ap,ed⟩:=hy.1 ed;refine aN c ap (h.inv.2.2 c ap) cO (λS cR hm=>H S cR ?_) U ed;rw[CF];exact hy.2 ⟨c,ap,hm⟩
  ·rename_i e;rw[bU e]at H;rw[ek.1 ed];have az:=H (mk k ks) h (by simp;exact E8 (bq ns (mk k ks)));have he:=ab7 ns (mk k ks);refine .mk az.1 ?_ λaoQ SZ=>?_
   ·rw[show(aK.mk k ks).bh=k from rfl]at az;rw[az.2];show _=List.map _ (bq ns (mk k ks)).sub;rw[he,gO];exact gM λc ap=>by simp[ab6]
   ·obtain⟨c,ap,SZ⟩:=hy.1 SZ;refine aN c ap (h.inv.2.2 c ap) _ (λS cR hm=>H S cR ?_) aoQ SZ;rw[pK];show S.bh∈(mk k (ks.flatMap (fV ns _))).cT;rw[mD,CF];exact jr _ (hy.2 ⟨c,ap,hm⟩)
def aoR{T:aK}(h:cu ns T)(H:∀ S,cu ns S->S.bh∈(bq ns T).cT->S.bh<jk.length/\(nodeAt jk S.bh).ax=(parts ns S).map λc=>(c.bh:Int)):cu jk (bq ns T):=by
 cases T with
 |mk k ks=>
 have e:fV ns none (mk k ks)=[bq ns (mk k ks)]:=by rw[qT,bU (by simp)]
 refine aoP ns h none (λS cR hm=>H S cR ?_) _ (by rw[e];exact .head _);rw[e,pK]at hm;exact hm
end
end aK
inductive a1 where
 |mk:an->List a1->a1
def an.bare(d:an):an:=d.eC []
def an.ab9(d:an):d.bare.k=d.k:=rfl
def aca(d:an):iE d.bare=iE d:=rfl
namespace a1
def d:a1->an
 |mk d _=>d
def sub:a1->List a1
 |mk _ ks=>ks
def ind{P:a1->Prop}(h:∀ d ks,(∀ c∈ks,P c)->P (mk d ks)):∀ T,P T
 |mk d ks=>h d ks (λc ap=>ind h c)
section
variable{α:Type}(F:an->List α->α)
mutual
def fold:a1->α
 |mk d ks=>F d (MF ks)
def MF:List a1->List α
 |[]=>[]| a::l=>fold a::MF l
end
def acb:∀ l,MF F l=l.map (fold F)
 |[]=>rfl| a::l=>by rw[MF,acb l];rfl
def fold_eq(d:an)(ks:List a1):fold F (mk d ks)=F d (ks.map (fold F)):=by rw[fold,acb]
end
mutual
def fV(cO:Option Int):a1->List a1
 |mk d ks=>if some d.k=cO then vn cO ks else [mk d (vn (iE d) ks)]
def vn(cO:Option Int):List a1->List a1
 |[]=>[]| a::l=>fV cO a++vn cO l
end
def CH(cO:Option Int):∀ l,vn cO l=l.flatMap (fV cO)
 |[]=>rfl| a::l=>by rw[vn,CH cO l];rfl
def bq:a1->a1
 |mk d ks=>mk d (ks.flatMap (fV (iE d)))
def qT(cO:Option Int)(d:an)(ks:List a1):fV cO (mk d ks)=if some d.k=cO then ks.flatMap (fV cO)else [bq (mk d ks)]:=by rw[fV,CH,CH];rfl
end a1
namespace aK
section
variable(ns:List an)
mutual
def bare:aK->a1
 |mk k ks=>.mk (nodeAt ns k).bare (MG ks)
def MG:List aK->List a1
 |[]=>[]| a::l=>bare a::MG l
end
def acc:∀ l,MG ns l=l.map (bare ns)
 |[]=>rfl| a::l=>by rw[MG,acc l];rfl
def nc(k:Nat)(ks:List aK):bare ns (mk k ks)=.mk (nodeAt ns k).bare (ks.map (bare ns)):=by rw[bare,acc]
def aoS(cO:Option Int):∀ T,(fV ns cO T).map (bare ns)=(bare ns T).fV cO:=by
 intro T
 induction T using aK.ind generalizing cO with
 |h k ks aN=>
  rw[qT,nc,a1.qT,an.ab9];split;·rw[Ag,Af];exact rP λc ap=>aN c ap cO
  ·show [bare ns (mk k (ks.flatMap (fV ns _)))]=[a1.mk _ ((ks.map (bare ns)).flatMap (a1.fV (iE (nodeAt ns k).bare)))];rw[nc,Ag,Af,aca];congr 2;exact rP λc ap=>aN c ap _
def aoT:∀ T,bare ns (bq ns T)=(bare ns T).bq
 |mk k ks=>by show bare ns (mk k (ks.flatMap (fV ns _)))=_;rw[nc,nc];show _=a1.mk _ ((ks.map (bare ns)).flatMap (a1.fV (iE (nodeAt ns k).bare)));rw[Ag,Af,aca];congr 1;exact rP λc ap=>aoS ns _ c
def acd:∀ T,(∀ x∈cT T,(nodeAt jk x).bare=(nodeAt ns x).bare)->bare jk T=bare ns T:=by
 intro T
 induction T using aK.ind with
 |h k ks aN=>intro h;rw[nc,nc,h k (E8 (mk k ks))];congr 1;refine gM λc ap=>aN c ap λx ad=>h x ?_;rw[mD];exact jr _ (hy.2 ⟨c,ap,ad⟩)
def CI{T:aK}(h:cu ns T)(m:List an):bare (ns++m) T=bare ns T:=acd ns T λx ad=>by rw[abY (h.lt x ad)]
end
end aK
def ace{z:α}{F:an->List α->α}(bG:∀ d l,F (d.eC l)=F d){ns:List an}(ae:r0 ns):∀ {T:aK},cu ns T->mo z (λd g=>F d (d.ax.map g)) ns T.bh=(T.bare ns).fold F:=by
 intro T
 induction T using aK.ind with
 |h k ks aN=>intro bs;obtain⟨aa,ab,ak⟩:=bs.inv;have h:=OL (z:=z) (f:=λd g=>F d (d.ax.map g)) ns [] k aa;simp only[fL,db]at h;rw[aK.nc,a1.fold_eq];show(gC z _ ns []).getD (k:Int).toNat z=F ((nodeAt ns k).eC []) _;rw[bG,bz,gl,h,jV,<-gD aa,ab,gO,gO];congr 1;refine gM λc ap=>?_;rw[Function.comp,Function.comp,<-aN c ap (ak c ap)];have:=bs.SY ae ap;unfold mo;rw[bz,bz,k6,bQ (by omega)]
section
variable{X:cV}{F:Fr}{C:dB}{I:aI}{M:List aD}{o:Oper}
def qe.acf(aM:cU X.P X.E){x:Operand}{t:Nat}(aH:o.op=.call { callee:=.builtin .append,args:=#[s,x],argTypes:=#[t,t] })
 (av:X.E t=some c7) (dR:c7.bL=.slice e) (he:X.E e=some aF)
  (os:aX) (bu:os.ok aF.size xs) (ar:bE F s=.val os.val)
 {m:Nat} (ad:bE F x=.val (.slice (some aS) m c')) (hm:0<m) (aB:cM I M aS (m*aF.size) b8) (aa:gm b8=true)
 (a':M.Perm (os.aq e++Mr)) (b1:os.n+m<=maxLen) (b0:(os.n+m)*aF.bytes<=140737488355328)
  (M':aX->List aD) (x9:∀ br:aX,(br.aq e++Mr).Perm (M' br))
  (k:∀ br:aX,br.n=os.n+m->(∀ g,br.a=some g->I g=none/\(os.a=none->g ∉ X.foot))->br.ok aF.size (xs++b8)->K (.val br.val) I (M' br)):qe X o F C I M K:=by
 refine⟨fun β a w Q iu=>?_⟩;have yt:b8.length=m*aF.size:=by obtain⟨_,_,_,_,_,_,h⟩:=aB;exact h
 have e4:∀ w,ey I M w->(Builtin.firstCells aF.size m (.slice (some aS) m c')).run X.P w=.ok b8.toArray w:=λw hw=>by
  obtain⟨dK,cs,T,al,e8,ah,ay⟩:=aB;refine run_firstCells_some (P:=X.P) w aF.size m aS m c' b8 ay λj v ai=>?_;rw[eP _ dK,s7 (e8.heap hw)];rw[<-ah,k6]at ai;split at ai;·rw[nj]at ai;simpa using ai
  ·cases ai
 have aW:cH X β a w F C I (os.aq e++Mr):=iu.hS (.perm a' .refl);obtain⟨inf,z,hi,fh,iJ,il,ko⟩:=(aM _ _ he).inf;obtain⟨fK,jJ,j4⟩:=(aM _ _ av).fl;have qi:fK=.slice e:=by rw[dR]at j4;cases fK<;>simp_all[fk]
 subst qi;have qh:z.cells.size=inf.size:=by rw[fh,<-(aM _ _ he).len,<-ko];simp
 have aoU:=bu;rw[<-fh]at bu yt e4;obtain⟨g,c,aR,w',e9,a8,ba,bP,fr,lk⟩:=Ok (P:=X.P) (w:=w) t t o.type e inf z jJ jJ (λk cW=>by cases cW) hi il qh bu (λg au=>aW.holds.m ⟨g,.cells os.aR.toArray e (0,0)⟩ (by simp[aX.aq,au])) (x:=.slice (some aS) m c') hm yt (yJ aa) (λ_=>rfl) (λw' xx=>e4 w' (iu.holds.heap xx)) b1 (by rw[iJ];exact b0);rw[fh]at a8 fr yt;have zb:I g=none:=by
  rcases lk with⟨au,_⟩ | ⟨rfl,_⟩;·exact aW.holds.d ⟨g,.cells os.aR.toArray e (0,0)⟩ (by simp[aX.aq,au])
  ·cases bt:I w.heap.size with
   |none=>rfl| some nx=>have:=aW.holds.i _ _ bt;simp at this
 have aoV:os.a=none->g ∉ X.foot:=λaz hm=>by
  rcases lk with⟨au,_⟩ | ⟨rfl,_⟩;·rw[az]at au;cases au
  ·have aa:=aW.fm _ hm;have ab:=aW.sz;omega
 have es:=dc aW.al ar;have ex:=dc aW.al ad;have kI:(⟨some g,os.n+m,c,aR⟩:aX).ok aF.size (xs++b8):=by
  refine⟨?_,(λh=>by cases h),λdJ au=>?_⟩;·rw[cm,aoU.len,yt,lL]
  ·cases au;exact⟨a8,ba,bP,fr⟩
 refine iV (by rw[aH];simp) (v:=.slice (some ⟨g,0,none⟩) (os.n+m) c) (w':=w') ?_ ⟨_,.val (.slice (some ⟨g,0,none⟩) (os.n+m) c),I,M' ⟨some g,os.n+m,c,aR⟩,rfl,rfl,?_,k ⟨some g,os.n+m,c,aR⟩ rfl (λdJ au=>by cases au;exact⟨zb,aoV⟩) kI,rfl⟩
 ·unfold execOp;simp only[aH,resolve,invoke,builtin,cj,c0,bV,sc,cb,hr,es,ex,e9]
 ·refine cH.hS ?_ (.perm (x9 _) .refl);rcases lk with⟨au,rfl⟩ | ⟨rfl,rfl⟩
  ·have ag:os.aq e=[⟨g,.cells os.aR.toArray e (0,0)⟩]:=by simp[aX.aq,au]
   rw[ag]at aW;exact aW.xe (a9:=[]) (post:=Mr) rfl
  ·have ab:cH X β a w.drew F C I (os.aq e++Mr):=aW.world rfl;have ak:=ab.nS (.cells aR.toArray e (0,0));refine ak.hS (.sub ?_ .refl);exact List.Sublist.cons_cons _ (mb _ _)
def qe.aoW(aM:cU X.P X.E){x:Operand}{t:Nat}(aH:o.op=.call { callee:=.builtin .append,args:=#[s,x],argTypes:=#[t,t] })
 (av:X.E t=some c7) (dR:c7.bL=.slice e) (he:X.E e=some aF)
  (os:aX) (bu:os.ok aF.size xs) (ar:bE F s=.val os.val)
 {m:Nat} (ad:bE F x=.val (.slice (some aS) m c')) (hm:0<m) (aB:cM I M aS (m*aF.size) b8) (aa:gm b8=true)
 (a':M.Perm (os.aq e++Mr)) (b1:os.n+m<=maxLen) (b0:(os.n+m)*aF.bytes<=140737488355328)
  (M':aX->List aD) (x9:∀ br:aX,(br.aq e++Mr).Perm (M' br))
  (k:∀ br:aX,br.n=os.n+m->(∀ g,br.a=some g->I g=none)->br.ok aF.size (xs++b8)->K (.val br.val) I (M' br)):qe X o F C I M K:=
 qe.acf aM aH av dR he os bu ar ad hm aB aa a' b1 b0 M' x9 λbr aa ab ak=>k br aa (λg au=>(ab g au).1) ak
def qe.o0(aM:cU X.P X.E){x:Operand}{t:Nat}(aH:o.op=.call { callee:=.builtin .append,args:=#[s,x],argTypes:=#[t,t] })
 (av:X.E t=some c7) (dR:c7.bL=.slice e) (he:X.E e=some aF)
  (os:aX) (bu:os.ok aF.size xs) (ar:bE F s=.val os.val)
  {b9:Nat} {cs:List Value} (ad:bE F x=.val (.slice (some ⟨b9,0,none⟩) 1 c')) (ay:cs.length=aF.size) (aa:gm cs=true)
  (a9 post:List aD) (a':M=⟨b9,.cells cs.toArray e (0,0)⟩::(a9++(os.aq e++post))) (b1:os.n+1<=9223372036854775807) (b0:(os.n+1)*aF.bytes<=140737488355328)
  (k:∀ br:aX,br.n=os.n+1->(∀ g,br.a=some g->I g=none)->br.ok aF.size (xs++cs)->K (.val br.val) I (⟨b9,.cells cs.toArray e (0,0)⟩::(a9++(br.aq e++post)))):qe X o F C I M K:=by
 have aC:∀ br:aX,(br.aq e++(⟨b9,.cells cs.toArray e (0,0)⟩::(a9++post)):List aD).Perm (⟨b9,.cells cs.toArray e (0,0)⟩::(a9++(br.aq e++post))):=λbr=>
  mv.trans (.cons _ (BI _ _ _))
 refine .aoW aM aH av dR he os bu ar (m:=1) (b8:=cs) ad (by decide) ?_ aa (Mr:=⟨b9,.cells cs.toArray e (0,0)⟩::(a9++post)) ?_ (by unfold maxLen;exact b1) b0 _ aC k
 ·rw[oy];refine⟨rfl,_,_,_,.inr ⟨⟨b9,.cells cs.toArray e (0,0)⟩,by rw[a'];exact .head _,rfl,rfl⟩,?_,ay⟩;simp only[vM];exact ft (by omega)
 ·rw[a'];exact(aC os).symm
end
def MH{G F:Fr}{y:Operand}{r:dA}(h:di G y=di F y)(bd:bE F y=r):bE G y=r:=by simp only[bE,dw,h];exact bd
structure cg where
 b:Nat
 os:aX
 ds:List an
def cg.aj(A:cg):aD:=⟨A.b,.cells #[A.os.val] 94 (0,0)⟩
def cg.aq(A:cg):List aD:=A.aj::A.os.aq 66
structure cg.ok(I:aI)(A:cg):Prop where
 os:A.os.ok 9 (A.ds.flatMap an.cells)
 n:A.os.n=A.ds.length
 ds:∀ d∈A.ds,d.ok I
def cg.ok.mono{I':aI}{A:cg}(h:A.ok I)(bt:∀ b o,I b=some o->I' b=some o):A.ok I':=⟨h.os,h.n,λd aj=>(h.ds d aj).mono bt⟩
def acg{A:cg}(dH:A.ok I)(aB:A.ds.length<=1099511627776){d:an}(aj:d.ok I) :
  Spec Tryz.prog 163 [ptr A.b,d.val] I A.aq λv I' M'=>v=.int .i64 A.ds.length/\I'=I/\∃ os,M'=cg.aq ⟨A.b,os,A.ds++[d]⟩/\cg.ok I ⟨A.b,os,A.ds++[d]⟩:=by
 refine bZ [] a5 Tryz.func163 rfl rfl rfl ?_;intro B az;obtain⟨k,cz,s1,s2,cZ,s,lo,hi,dy,aL,dq,ax⟩:=d;have bS:=dH.os;have bl:∀ (os:aX) (M:List aD),(⟨A.b,.cells #[os.val] 94 (0,0)⟩:aD)∈M->cM I M ((⟨A.b,0,none⟩:Addr).add 0) 1 [os.val]:=λos M hm=>c4 (cs:=[os.val]) (k:=0) (n:=1) (T:=94) hm (by simp);refine cY.draw a5 rfl rfl rfl ?_;refine aO.mk _ (bl A.os _ (.head _)) ?_;refine bX.mk λb9 kX wR=>?_;intro G iZ;refine qe.o0 a5 rfl (e:=66) rfl rfl rfl A.os bS (MH (iZ _ (by simp[Op.operands,Call.operands])) rfl) (MH (iZ _ (by simp[Op.operands,Call.operands])) rfl) (cs:=an.cells ⟨k,cz,s1,s2,cZ,s,lo,hi,dy,aL,dq,ax⟩) rfl rfl [A.aj] [] (by rw[ef];rfl) (by have:=dH.n;omega) (by have:=dH.n;show(A.os.n+1)*96<=_;omega) ?_;intro br aa ab ak;refine b2.mk [_] (br.aq _++[]) #[A.os.val] 94 rfl rfl (bJ rfl) rfl ?_;refine aO.mk _ (bl br _ (.tail _ (.head _))) ?_;have Bi:=dH.n;refine⟨(A.ds.length:Int),?_,?_⟩
 ·rw[wrap_i64 (by unfold iM;omega)];omega
 refine⟨_,_,.sub (M1:=cg.aq ⟨A.b,br,A.ds++[⟨k,cz,s1,s2,cZ,s,lo,hi,dy,aL,dq,ax⟩]⟩) ?_ .refl,rfl,rfl,br,rfl,?_⟩
 ·show List.Sublist (_::(br.aq _)) (_::_::(br.aq _++[]));rw[ef];exact .cons _ (.refl _)
 ·refine⟨?_,?_,λx ad=>?_⟩
  ·rw[hd];simpa using ak
  ·rw[aa,cm,dH.n];rfl
  ·rcases cE.1 ad with ad | ad
   ·exact dH.ds x ad
   ·rw[ek.1 ad];exact aj
def an.row(d:an)(a:Option Addr)(n c:Nat)(ks:List Int):an:=⟨d.k,d.cz,d.s1,d.s2,d.cZ,d.t,d.lo,d.hi,a,n,c,ks⟩
def an.ok.row{d:an}(h:d.ok I)(af:c3 I a n c 1 8 (ks.map (.int .i64 ·)))(ae:∀ x∈ks,iM x):(d.row a n c ks).ok I:=⟨h.k,h.cz,h.s1,h.s2,h.cZ,h.t,h.lo,h.hi,af,ae⟩
def aoX(A:cg)(d:an)(I:aI)(v:Value)(I':aI)(M':List aD):Prop:=v=.int .i64 A.ds.length/\I'=I/\∃ os,M'=cg.aq ⟨A.b,os,A.ds++[d]⟩/\cg.ok I ⟨A.b,os,A.ds++[d]⟩
def ach{A:cg}(dH:A.ok I)(aB:A.ds.length<=1099511627776){d:an}(aj:d.ok I)(af:c3 I a n c 1 8 (ks.map (.int .i64 ·)))(ae:∀ x∈ks,iM x) :
  Spec Tryz.prog 110 [ptr A.b,d.val,.slice a n c] I A.aq (aoX A (d.row a n c ks) I):=by
 refine bZ [] a5 Tryz.func110 rfl rfl rfl ?_;intro B az;have fy:=aj.row af ae;obtain⟨k,cz,s1,s2,cZ,s,lo,hi,dy,aL,dq,ax⟩:=d;have dK:=acg dH aB fy;refine bc.mk A.aq [] _ (by rw[ef]) dK ?_;rintro v I' M' -⟨rfl,rfl,os,rfl,h⟩;exact⟨_,_,.sub (M1:=cg.aq ⟨A.b,os,A.ds++[_]⟩) (by simp) .refl,rfl,rfl,os,rfl,h⟩
def pf(d:an)(x:an):Bool:=!decide (d.k=4) || !decide (x.k=0)
def r1(A:cg)(d:an)(os:aX)(p5 p4 p9:Nat):List aD:=⟨p5,.cells d.cells.toArray 66 (0,0)⟩::⟨p4,.cells #[ptr A.b] 98 (0,0)⟩::⟨p9,.cells #[os.val] 55 (0,0)⟩::(os.aq 3++A.aq)
def aoY{A:cg}(dH:A.ok I)(aB:A.ds.length<=1099511627776){d:an}(aj:d.ok I){l:List Int}(bS:os.ok 1 (l.map (.int .i64 ·)))(ay:os.n<=1099511627776){p5 p4 p9 k:Nat}(ae:k<A.ds.length) :
  Spec Tryz.prog 200 [.int .i64 k,ptr p5,ptr p4,ptr p9] I (r1 A d os p5 p4 p9) λv I' M'=>I'=I/\∃ br,M'=r1 A d br p5 p4 p9/\br.ok 1 ((l++bif pf d A.ds[k]then [(k:Int)]else []).map (.int .i64 ·)):=by
 refine bZ [] a5 Tryz.func200 rfl rfl rfl ?_;intro B az;obtain⟨aS,bH,bl⟩:=aX.ok.row (I:=I) (M:=r1 A d os p5 p4 p9) an.cS (by decide) dH.os (e:=66) (λx ad=>by simp[r1,cg.aq,ad]) (j:=k) ae;obtain⟨dd,cz,s1,s2,cZ,s,lo,hi,dy,aL,dq,ax⟩:=d;refine aO.mk [.int .u8 dd] (c4 (cs:=an.cells ⟨dd,cz,s1,s2,cZ,s,lo,hi,dy,aL,dq,ax⟩) (k:=0) (n:=1) (T:=66) (.head _) (by simp[an.cells])) ?_;refine cq.mk (λaJ=>?_) (λaJ=>?_)
 ·have ea:dd=4:=by simpa using aJ
  refine aO.mk [ptr A.b] (c4 (cs:=[ptr A.b]) (k:=0) (n:=1) (T:=98) (.tail _ (.head _)) (by simp)) ?_;refine aO.mk [A.os.val] (c4 (cs:=[A.os.val]) (k:=0) (n:=1) (T:=94) (by simp[r1,cg.aq,cg.aj]) (by simp)) ?_;refine bf.mk aS k bH rfl (by have:=dH.n;omega) ?_;refine aO.mk [.int .u8 A.ds[k].k] (cM.part (k:=0) (m:=1) bl (by decide)) ?_;refine aZ.mk (λaz=>?_) (λaz=>?_)
  ·have ae:pf ⟨dd,cz,s1,s2,cZ,s,lo,hi,dy,aL,dq,ax⟩ A.ds[k]=true:=by unfold pf;have g5:(!decide (A.ds[k].k=0))=true:=az;rw[g5,D7]
   refine aO.mk [os.val] (c4 (cs:=[os.val]) (k:=0) (n:=1) (T:=55) (.tail _ (.tail _ (.head _))) (by simp)) ?_;refine bX.mk λb9 kX wR=>?_;refine bw.o0 a5 rfl (by simp) (e:=3) rfl rfl rfl os bS rfl (cs:=[.int .i64 k]) rfl rfl rfl [_,_,_] A.aq rfl (by omega) (by show(os.n+1)*8<=_;omega) ?_;intro br aa ab ak;refine b2.mk [_,_] (br.aq 3++A.aq) #[os.val] 55 rfl rfl (bJ rfl) rfl ?_;refine⟨_,_,.refl,rfl,br,rfl,?_⟩;rw[ae,cP];exact ak
  ·have ae:pf ⟨dd,cz,s1,s2,cZ,s,lo,hi,dy,aL,dq,ax⟩ A.ds[k]=false:=by unfold pf;have BL:(!decide (dd=4))=false:=aJ;have g5:(!decide (A.ds[k].k=0))=false:=az;rw[BL,g5];rfl
   refine⟨_,_,.refl,rfl,os,rfl,?_⟩;rw[ae];simpa using bS
 ·have ae:pf ⟨dd,cz,s1,s2,cZ,s,lo,hi,dy,aL,dq,ax⟩ A.ds[k]=true:=by unfold pf;have BL:(!decide (dd=4))=true:=aJ;rw[BL,L5]
  refine aO.mk [os.val] (c4 (cs:=[os.val]) (k:=0) (n:=1) (T:=55) (.tail _ (.tail _ (.head _))) (by simp)) ?_;refine bX.mk λb9 kX wR=>?_;refine bw.o0 a5 rfl (by simp) (e:=3) rfl rfl rfl os bS rfl (cs:=[.int .i64 k]) rfl rfl rfl [_,_,_] A.aq rfl (by omega) (by show(os.n+1)*8<=_;omega) ?_;intro br aa ab ak;refine b2.mk [_,_] (br.aq 3++A.aq) #[os.val] 55 rfl rfl (bJ rfl) rfl ?_;refine⟨_,_,.refl,rfl,br,rfl,?_⟩;rw[ae,cP];exact ak
def tS:an:=⟨0,0,0,0,0,⟨#[]⟩,0,0,none,0,0,[]⟩
def jE(d:an)(ds:List an)(l:List Nat):List Int:=l.flatMap λk=>bif pf d (ds.getD k tS)then [(k:Int)]else []
structure aoZ(A:cg)(d:an)(l:List Nat)(x:Nat×aX):Prop where
 i:x.1<=l.length
 os:x.2.ok 1 ((jE d A.ds (l.take x.1)).map (.int .i64 ·))
def aci{A:cg}(dH:A.ok I)(aB:A.ds.length<=1099511627776){d z:an}(aj:d.ok I)(bb:z.ok I)(ay:∀ k∈l,k<A.ds.length)(rN:l.length<=1099511627776)(af:c3 I a n c 1 8 ((l.map Int.ofNat).map (.int .i64 ·))) :
  Spec Tryz.prog 164 [ptr A.b,d.val,.slice a n c,z.val] I A.aq λv I' M'=>(∀ b o,I b=some o->I' b=some o)/\∃ br ds' r,M'=cg.aq ⟨A.b,br,ds'⟩/\cg.ok I' ⟨A.b,br,ds'⟩/\v=.int .i64 r /\
   ((jE d A.ds l=[]/\r=(A.ds.length:Int)/\ds'=A.ds++[z])\/(jE d A.ds l=[r]/\ds'=A.ds)\/(2<=(jE d A.ds l).length/\r=(A.ds.length:Int)/\∃ bM fT c',ds'=A.ds++[d.row bM fT c' (jE d A.ds l)])):=by
 refine bZ [4,5,9] a5 Tryz.func164 rfl rfl rfl ?_;intro B az;obtain⟨dd,cz,s1,s2,cZ,s,lo,hi,dy,aL,dq,ax⟩:=d;obtain⟨ao0,ao1,z0,Rl,ao2,e7,ao3,ao4,ao5,ao6,ao7,ao8⟩:=z;refine bX.mk λp4 yu ye=>?_;refine bX.mk λp5 S0 S1=>?_;refine bX.mk λp9 avf wR=>?_;have LP:l.length=n:=by have aa:=af.len;simpa using aa
 refine de.inv (ι:=Nat×aX) (λx=>{ bj:=[(4,.val (ptr p4)),(5,.val (ptr p5)),(7,.ref 7 0),(9,.val (ptr p9)),(10,.val (.func (.func 200) #[] #[ptr p5,ptr p4,ptr p9])),(14,.val (.slice a n c)),(15,.val (.int .i64 n)),(16,.val (.int .i64 x.1))],cl:=[(7,an.cells ⟨ao0,ao1,z0,Rl,ao2,e7,ao3,ao4,ao5,ao6,ao7,ao8⟩)],cI:=I,c1:=r1 A ⟨dd,cz,s1,s2,cZ,s,lo,hi,dy,aL,dq,ax⟩ x.2 p5 p4 p9 }) (aoZ A ⟨dd,cz,s1,s2,cZ,s,lo,hi,dy,aL,dq,ax⟩ l) (λx=>l.length-x.1) ?_ ?_
 ·refine⟨(0,⟨none,0,0,[]⟩),⟨dz _,⟨rfl,λ_=>⟨rfl,rfl⟩,λg h=>by cases h⟩⟩,.perm ?_ .refl,kq,.cons rfl (.nil)⟩;exact(mv (l₁:=[_,_])).symm
 ·rintro⟨i,os⟩⟨cX,bS⟩;simp only at cX bS;have eY:c3 I a n c 1 8 ((l.map Int.ofNat).flatMap kh):=by rw[qS];exact af
  have c2:(jE ⟨dd,cz,s1,s2,cZ,s,lo,hi,dy,aL,dq,ax⟩ A.ds (l.take i)).length<=i:=by
   refine k9 ?_ (Br i l);generalize l.take i=dL;unfold jE
   induction dL with
   |nil=>exact cc _
   |cons x dL aN=>
    rw[kr,cm,dx];have:(bif pf ⟨dd,cz,s1,s2,cZ,s,lo,hi,dy,aL,dq,ax⟩ (A.ds.getD x tS)then [(x:Int)]else []).length<=1:=by cases pf ⟨dd,cz,s1,s2,cZ,s,lo,hi,dy,aL,dq,ax⟩ (A.ds.getD x tS)<;>simp
    omega
  have jj:=bS.mX;refine aZ.mk (λh=>?_) (λh=>?_)
  ·have aV:(i:Int)<n:=dh h;have dI:i<l.length:=by omega
   obtain⟨aS,bH,bl⟩:=eY.row (f:=kh) (λ_=>rfl) (j:=i) (by omega) (by simpa using dI);rw[g7]at bl;refine bf.mk aS i bH rfl (by omega) ?_;refine aO.mk _ (bl _) ?_;have acj:=ay _ (bx dI);have dK:=aoY (p5:=p5) (p4:=p4) (p9:=p9) dH aB aj bS (by omega) acj;refine bc.mk (r1 A ⟨dd,cz,s1,s2,cZ,s,lo,hi,dy,aL,dq,ax⟩ os p5 p4 p9) [] _ (by rw[ef]) dK ?_;rintro v I' M' -⟨rfl,br,rfl,BG⟩;refine bg.mk ((i+1:Nat):Int) (zC (by simp only;omega) (by omega)) ?_;refine⟨(i+1,br),⟨⟨by simp only;omega,?_⟩,by simp only;omega⟩,.perm (by rw[ef]) .refl,kq,.cons rfl (.nil)⟩
   ·show br.ok 1 ((jE ⟨dd,cz,s1,s2,cZ,s,lo,hi,dy,aL,dq,ax⟩ A.ds (l.take (i+1))).map (.int .i64 ·));have e:jE ⟨dd,cz,s1,s2,cZ,s,lo,hi,dy,aL,dq,ax⟩ A.ds (l.take (i+1))=jE ⟨dd,cz,s1,s2,cZ,s,lo,hi,dy,aL,dq,ax⟩ A.ds (l.take i)++bif pf ⟨dd,cz,s1,s2,cZ,s,lo,hi,dy,aL,dq,ax⟩ A.ds[l[i]]then [((l[i]:Nat):Int)]else []:=by unfold jE;rw[fZ dI,hd];congr 1;simp[bz,acj]
    rw[e];exact BG
  ·have cA:¬ (i:Int)<n:=dO h;obtain rfl:i=l.length:=by omega
   rw[Dh]at bS c2 jj;refine aO.mk [os.val] (c4 (cs:=[os.val]) (k:=0) (n:=1) (T:=55) (.tail _ (.tail _ (.head _))) (by simp)) ?_;have mz:(r1 A ⟨dd,cz,s1,s2,cZ,s,lo,hi,dy,aL,dq,ax⟩ os p5 p4 p9).Perm (A.aq++([⟨p5,.cells (an.cells ⟨dd,cz,s1,s2,cZ,s,lo,hi,dy,aL,dq,ax⟩).toArray 66 (0,0)⟩,⟨p4,.cells #[ptr A.b] 98 (0,0)⟩,⟨p9,.cells #[os.val] 55 (0,0)⟩]++os.aq 3)):=by
    have:r1 A ⟨dd,cz,s1,s2,cZ,s,lo,hi,dy,aL,dq,ax⟩ os p5 p4 p9=([⟨p5,.cells (an.cells ⟨dd,cz,s1,s2,cZ,s,lo,hi,dy,aL,dq,ax⟩).toArray 66 (0,0)⟩,⟨p4,.cells #[ptr A.b] 98 (0,0)⟩,⟨p9,.cells #[os.val] 55 (0,0)⟩]++os.aq 3)++A.aq:=by simp[r1]
    rw[this];exact eF
   refine aZ.mk (λaz=>?_) (λaz=>?_)
   ·have dF:os.n=0:=by simpa using az
    refine aO.mk [ptr A.b] (c4 (cs:=[ptr A.b]) (k:=0) (n:=1) (T:=98) (.tail _ (.head _)) (by simp)) ?_;refine bc.mk A.aq _ _ mz (acg dH aB bb) ?_;rintro v I' M' -⟨rfl,rfl,kd,rfl,bu⟩;exact⟨_,_,.sub (tw _ _) .refl,λ_ _ h=>h,kd,_,_,rfl,bu,rfl,.inl ⟨iK (by omega),rfl,rfl⟩⟩
   ·refine aZ.mk (λaa=>?_) (λaa=>?_)
    ·have aG:os.n=1:=by
      have:(os.n:Int)=1:=by simpa using aa
      omega
     have xw:(jE ⟨dd,cz,s1,s2,cZ,s,lo,hi,dy,aL,dq,ax⟩ A.ds l).length=1:=by omega
     obtain⟨r,ir⟩:=List.length_eq_one_iff.1 xw;refine aO.mk [os.val] (c4 (cs:=[os.val]) (k:=0) (n:=1) (T:=55) (.tail _ (.tail _ (.head _))) (by simp)) ?_;rw[<-qS]at bS;obtain⟨aS,bH,bl⟩:=aX.ok.row (I:=I) (M:=r1 A ⟨dd,cz,s1,s2,cZ,s,lo,hi,dy,aL,dq,ax⟩ os p5 p4 p9) (e:=3) (f:=kh) (size:=1) (λ_=>rfl) (by decide) bS (λx ad=>by simp[r1,ad]) (j:=0) (by omega);refine bf.mk aS 0 bH rfl (by omega) ?_;refine aO.mk _ bl ?_;refine⟨_,_,.sub (M1:=A.aq) (.cons _ (.cons _ (.cons _ (mb _ _)))) .refl,λ_ _ h=>h,A.os,A.ds,r,rfl,dH,?_,.inr (.inl ⟨ir,rfl⟩)⟩;simp[ir];rfl
    ·refine aO.mk [ptr A.b] (c4 (cs:=[ptr A.b]) (k:=0) (n:=1) (T:=98) (.tail _ (.head _)) (by simp)) ?_;refine aO.mk (an.cells ⟨dd,cz,s1,s2,cZ,s,lo,hi,dy,aL,dq,ax⟩) (c4 (cs:=an.cells ⟨dd,cz,s1,s2,cZ,s,lo,hi,dy,aL,dq,ax⟩) (k:=0) (n:=9) (T:=66) (.head _) (by simp[an.cells])) ?_;refine aO.mk [os.val] (c4 (cs:=[os.val]) (k:=0) (n:=1) (T:=55) (.tail _ (.tail _ (.head _))) (by simp)) ?_;have g5:¬ os.n=0:=λe=>by have ab:decide ((os.n:Int)=0)=false:=az;simp[e]at ab
     have tk:¬ os.n=1:=λe=>by have ab:decide ((os.n:Int)=1)=false:=aa;simp[e]at ab
     refine bc.FM λfC=>?_;have l1:(r1 A ⟨dd,cz,s1,s2,cZ,s,lo,hi,dy,aL,dq,ax⟩ os p5 p4 p9).Perm (os.aq 3++(A.aq++[⟨p5,.cells (an.cells ⟨dd,cz,s1,s2,cZ,s,lo,hi,dy,aL,dq,ax⟩).toArray 66 (0,0)⟩,⟨p4,.cells #[ptr A.b] 98 (0,0)⟩,⟨p9,.cells #[os.val] 55 (0,0)⟩])):=by have e:r1 A ⟨dd,cz,s1,s2,cZ,s,lo,hi,dy,aL,dq,ax⟩ os p5 p4 p9=[⟨p5,.cells (an.cells ⟨dd,cz,s1,s2,cZ,s,lo,hi,dy,aL,dq,ax⟩).toArray 66 (0,0)⟩,⟨p4,.cells #[ptr A.b] 98 (0,0)⟩,⟨p9,.cells #[os.val] 55 (0,0)⟩]++(os.aq 3++A.aq):=rfl;rw[e,<-dT (os.aq 3)];exact eF
     have au:∀ g,os.a=some g->I g=none/\g ∉ A.aq.map (·.num):=λg au=>by
      have ag:os.aq 3=[⟨g,.cells os.aR.toArray 3 (0,0)⟩]:=by unfold aX.aq;rw[au]
      have bI:=(l1.map (·.num)).nodup_iff.1 fC.cd;rw[ag]at bI l1;refine⟨fC.d _ (l1.mem_iff.2 (.head _)),λhm=>?_⟩;rw[cP]at bI;simp only[cb,hr,rL,kM,cP]at bI;exact bI.1 (jr _ hm)
     obtain⟨dv,hw,en,er,-⟩:=aX.zD (b:=8) bS (by omega) au (A.aq++[⟨p5,.cells (an.cells ⟨dd,cz,s1,s2,cZ,s,lo,hi,dy,aL,dq,ax⟩).toArray 66 (0,0)⟩,⟨p4,.cells #[ptr A.b] 98 (0,0)⟩,⟨p9,.cells #[os.val] 55 (0,0)⟩]);have Sc:∀ x∈jE ⟨dd,cz,s1,s2,cZ,s,lo,hi,dy,aL,dq,ax⟩ A.ds l,iM x:=λx ad=>by
      obtain⟨k,ae,ad⟩:=hy.1 ad;have:=ay k ae;cases aP:pf ⟨dd,cz,s1,s2,cZ,s,lo,hi,dy,aL,dq,ax⟩ (A.ds.getD k tS)with
      |false=>rw[aP]at ad;cases ad| true=>rw[aP]at ad;rw[ek.1 ad];unfold iM;omega
     have dK:=ach (dH.mono en) aB (aj.mono en) er Sc;refine bc.C6 dv A.aq [⟨p5,.cells (an.cells ⟨dd,cz,s1,s2,cZ,s,lo,hi,dy,aL,dq,ax⟩).toArray 66 (0,0)⟩,⟨p4,.cells #[ptr A.b] 98 (0,0)⟩,⟨p9,.cells #[os.val] 55 (0,0)⟩] _ (.perm l1 (hw _ _ .refl)) dK ?_;rintro v I' M' bp -⟨rfl,rfl,kd,rfl,bu⟩;exact⟨_,_,.sub (tw _ _) .refl,en,kd,_,_,rfl,bu,rfl,.inr (.inr ⟨by omega,rfl,_,_,_,rfl⟩)⟩
namespace a1
mutual
def post:a1->List an
 |mk d ks=>wb d (MI ks)
def MI:List a1->List (List an)
 |[]=>[]| a::l=>post a::MI l
end
def ack:∀ l,MI l=l.map post
 |[]=>rfl| a::l=>by rw[MI,ack l];rfl
def pN(d:an)(ks:List a1):post (mk d ks)=wb d (ks.map post):=by rw[post,ack]
end a1
inductive g2:a1->Prop
 |mk{d:an}{ks:List a1}:fits d ks.length=true->(∀ c∈ks,g2 c)->g2 (.mk d ks)
def g2.inv{d:an}{ks:List a1}(h:g2 (.mk d ks)):fits d ks.length=true/\∀ c∈ks,g2 c:=by
 cases h with
 |mk aa ab=>exact⟨aa,ab⟩
def acm:∀ {T:a1},g2 T->hP (my T.post):=by
 intro T
 induction T using a1.ind with
 |h d ks aN=>intro h;rw[a1.pN];refine aoq (λl ay=>?_) (by rw[bF];exact h.inv.1);obtain⟨c,ap,rfl⟩:=cC.1 ay;exact aN c ap (h.inv.2 c ap)
def ao9{l:List an}(h:hP (my l)):0<l.length/\∀ d∈l,∀ k∈d.ax,0<=k:=by
 have:=h.bA;refine⟨?_,λd aj k ae=>?_⟩
 ·have aa:(0:Int)<=(l.length:Int)-1:=this.1;omega
 ·obtain⟨j,ai,rfl⟩:=j9 aj;exact(h.ax j ai k ae).1
def apa{z:α}{F:an->List α->α}(bG:∀ d l,F (d.eC l)=F d):∀ {T:a1},g2 T->Aq z F T.post=T.fold F:=by
 intro T
 induction T using a1.ind with
 |h d ks aN=>
  intro h;rw[a1.pN,a1.fold_eq,aoo bG,gO];·congr 1;exact gM λc ap=>aN c ap (h.inv.2 c ap)
  ·intro l ay;obtain⟨c,ap,rfl⟩:=cC.1 ay;exact ao9 (acm (h.inv.2 c ap))
def aK.hf(T:aK):List Int:=T.cT.map λx:Nat=>(x:Int)
def aK.IU(k:Nat)(ks:List aK):(aK.mk k ks).hf=ks.flatMap aK.hf++[(k:Int)]:=by unfold aK.hf;rw[aK.mD,cP,Ag];rfl
def aK.apb(T:aK):∃ K,T.hf=K++[(T.bh:Int)]:=by
 cases T with
 |mk k ks=>exact⟨_,aK.IU k ks⟩
structure IV(ns:List an)(A rb:List Int)(ob:List aK)(aY:List an×List Int):Prop where
 len:aY.1.length=(ob.flatMap aK.hf).length
 nodes:aY.1.map (Ap (A.length:Int))=(ob.flatMap aK.hf).map (zK ns rb)
 roots:aY.2.map (·+(A.length:Int))=ob.map λc=>u1 rb (c.bh:Int)
def apc(n:Nat)(a:Int)(x:an):Ap a (x.eC (x.ax.map λk=>(n:Int)+k))=Ap (a+(n:Int)) x:=by unfold Ap;show x.eC ((x.ax.map λk=>(n:Int)+k).map (·+a))=_;rw[gO];congr 1;refine gM λk ae=>?_;show(n:Int)+k+a=k+(a+n);omega
def IV.step{ns:List an}{A B rb:List Int}{ob:List aK}{aY:List an×List Int}(h:IV ns A rb ob aY){c:aK}{l:List an}
  (m9:rb=(A++ob.flatMap aK.hf)++(c.hf++B)) (aj:hO rb) (ay:c.hf.map (zK ns rb)=l.map (Ap ((A++ob.flatMap aK.hf).length:Int))):IV ns A rb (ob++[c]) (jB aY l):=by
 have hF:c.hf.length=l.length:=by simpa using congrArg List.length ay
 obtain⟨aa,ab,ak⟩:=h;have aG:(ob++[c]).flatMap aK.hf=ob.flatMap aK.hf++c.hf:=by rw[hd,pK]
 refine⟨?_,?_,?_⟩
 ·rw[aG];show(aY.1++l.map _).length=_;rw[cm,bF,cm,aa,hF]
 ·rw[aG,cP,ay,<-ab];show(aY.1++l.map λx=>x.eC (x.ax.map λk=>(aY.1.length:Int)+k)).map _=_;rw[cP,gO];congr 1;refine gM λx ad=>?_;show Ap _ (x.eC _)=_;rw[apc,aa,cm];congr 1
 ·rw[cP,<-ak];show(aY.2++[((aY.1.length+l.length:Nat):Int)-1]).map _=_;rw[cP];congr 1;obtain⟨K,dX⟩:=c.apb;have hm:(c.bh:Int)∈c.hf:=by rw[dX];simp
  have As:hO c.hf:=by rw[m9]at aj;exact(rM.1 (rM.1 aj).2.1).1
  have aC:u1 rb (c.bh:Int)=u1 c.hf (c.bh:Int)+((A++ob.flatMap aK.hf).length:Int):=by rw[m9]at aj |-;exact aol aj hm
  have kc:u1 c.hf (c.bh:Int)=(c.hf.length:Int)-1:=by rw[dX]at As |-;rw[aom As,cm];simp
  rw[sT,sT,aC,kc,cm,<-aa,<-hF];congr 1;omega
def apd{ns:List an}:∀ {S:aK},cu ns S->∀ (A B rb:List Int),rb=A++(S.hf++B)->hO rb->S.hf.map (zK ns rb)=(S.bare ns).post.map (Ap (A.length:Int)):=by
 intro S
 induction S using aK.ind with
 |h k ks aN=>
  intro cR A B rb m9 aj;obtain⟨aa,ab,ak⟩:=cR.inv;have key:∀ (wg ob:List aK) (aY:List an×List Int),ob++wg=ks->IV ns A rb ob aY->IV ns A rb ks ((wg.map λc=>(c.bare ns).post).foldl jB aY):=by
   intro wg
   induction wg with
   |nil=>intro ob aY e h;rw[ef]at e;rw[<-e];exact h
   |cons c wg Sd=>
    intro ob aY e h;have ap:c∈ks:=by rw[<-e];simp
    have acn:rb=(A++ob.flatMap aK.hf)++(c.hf++(wg.flatMap aK.hf++([(k:Int)]++B))):=by rw[m9,aK.IU,<-e];simp
    rw[cb,jn];exact Sd (ob++[c]) _ (by rw[<-e];simp) (h.step acn aj (aN c ap (ak c ap) _ _ _ acn aj))
  have h:=key ks [] ([],[]) rfl ⟨rfl,rfl,rfl⟩;obtain⟨a8,ba,bP⟩:=h;rw[aK.IU,aK.nc,a1.pN,gO];show _=(wb (nodeAt ns k).bare (ks.map λc=>(c.bare ns).post)).map _;unfold wb;generalize(ks.map λc=>(c.bare ns).post).foldl jB ([],[])=aY at a8 ba bP;rw[cP,cP,ba];congr 1;rw[sT,sT];congr 1;show(nodeAt ns (k:Int).toNat).eC _=(nodeAt ns k).eC (aY.2.map (·+(A.length:Int)));rw[bP,gl,ab,gO];rfl
def aco:∀ (fS:List (List an)) (aY:List an×List Int),(∀ x∈aY.1,x.a4=x)->∀ x∈(fS.foldl jB aY).1,x.a4=x
 |[],_,h=>h
 |l::fS,aY,h=>aco fS (jB aY l) λx ad=>by
  rcases cE.1 (show x∈aY.1++l.map (λx=>x.eC (x.ax.map λk=>(aY.1.length:Int)+k))from ad)with ad | ad;·exact h x ad
  ·obtain⟨y,aE,rfl⟩:=cC.1 ad;rfl
def acp(T:a1):∀ x∈T.post,x.a4=x:=by
 cases T with
 |mk d ks=>
 intro x ad;rw[a1.pN]at ad;rcases cE.1 ad with ad | ad
 ·exact aco _ _ (λx ad=>by cases ad) x ad
 ·rw[ek.1 ad];rfl
def acq{ns:List an}{S:aK}(h:cu ns S)(aB:S.cT.Nodup):S.hf.map (zK ns S.hf)=(S.bare ns).post:=by
 have aj:hO S.hf:=ER.2 (List.Pairwise.imp (fun {a b} bn e=>bn (by omega)) aB);have:=apd h [] [] S.hf (by simp) aj;rw[this];refine(gM λx ad=>?_).trans (MB _);have e:=acp _ x ad;have a7:Ap (([]:List Int).length:Int) x=x.a4:=by show x.eC (x.ax.map (·+(0:Int)))=x.eC x.ax;congr 1;refine(gM λk ae=>?_).trans (MB _);show k+0=k;omega
 rw[a7,e];rfl
def gk(ns:List an)(k:Int):a1:=mo (a1.mk tS []) (λd g=>(λ(d:an) (xs:List a1)=>a1.mk d.bare xs) d (d.ax.map g)) ns k
def cw(t:bR):a1:=gk t.ns t.bA
def ape(ns:List an):∀ S:aK,(S.bare ns).fold (λ(d:an) (xs:List a1)=>a1.mk d.bare xs)=S.bare ns:=by
 intro S
 induction S using aK.ind with
 |h k ks aN=>rw[aK.nc,a1.fold_eq,gO];congr 1;exact gM λc ap=>aN c ap
def MJ{ns:List an}(ae:r0 ns){T:aK}(h:cu ns T):gk ns T.bh=T.bare ns:=by unfold gk;rw[ace (λd l=>rfl) ae h,ape]
def hP.yv(h:hP t):r0 t.ns:=h.ax
def hP.lt(h:hP t){j:Nat}(ai:j<t.ns.length):∃ T:aK,T.bh=j/\cu t.ns T/\gk t.ns j=T.bare t.ns/\T.cT.Nodup:=by obtain⟨T,bs,dH⟩:=cu.ex h.yv j ai;refine⟨T,bs,dH,?_,dH.nodup h.yv h.diff⟩;rw[<-bs];exact MJ h.yv dH
def S2{ns:List an}(aA:∀ d∈ns,fits d d.ax.length=true):∀ {T:aK},cu ns T->g2 (T.bare ns):=by
 intro T
 induction T using aK.ind with
 |h k ks aN=>
  intro h;obtain⟨aa,ab,ak⟩:=h.inv;rw[aK.nc];refine .mk ?_ λc ap=>?_;·have:=aA _ (bx aa);rw[<-gD aa]at this;show fits ((nodeAt ns k).eC []) _=true;rw[SP,bF];rw[ab,bF]at this;exact this
  ·obtain⟨c',y3,rfl⟩:=cC.1 ap;exact aN c' y3 (ak c' y3)
def hP.fit(h:hP t):∀ d∈t.ns,Go.V.fits d d.ax.length=true:=λd aj=>by obtain⟨j,ai,rfl⟩:=j9 aj;exact h.fits j ai
def apf{z:α}{F:an->List α->α}(bG:∀ d l,F (d.eC l)=F d)(h:hP t){j:Nat}(ai:j<t.ns.length):mo z (λd g=>F d (d.ax.map g)) t.ns j=(gk t.ns j).fold F:=by obtain⟨T,bs,dH,he,-⟩:=h.lt ai;rw[he,<-bs];exact ace bG h.yv dH
def apg(h:hP t):∀ {T:aK},cu t.ns T->jN t.ns (T.bh:Int)=T.hf:=by
 intro T
 induction T using aK.ind with
 |h k ks aN=>intro bs;obtain⟨aa,ab,ak⟩:=bs.inv;show jN t.ns (k:Int)=_;rw[Go.V.pN h aa,ab,aK.IU,Af];congr 1;exact rP λc ap=>aN c ap (ak c ap)
def aph(h:hP t){j:Nat}(ai:j<t.ns.length):rI t.ns j=(gk t.ns j).post:=by obtain⟨T,bs,dH,he,aB⟩:=h.lt ai;rw[ajT h ai,he,<-acq dH aB,<-bs,apg h dH]
structure pZ(t:bR)(T:a1):Prop where
 a4:t.ns.map an.a4=T.post
 bA:t.bA=(t.ns.length:Int)-1
def api(h:hP t){j:Nat}(ai:j<t.ns.length){bm:bR}(ar:K' t j bm):pZ bm (gk t.ns j):=⟨by rw[ar.a4,aph h ai],ar.bA⟩
def acr(ns:List an)(k:Int):gk (ns.map an.a4) k=gk ns k:=by unfold gk mo;rw[HA (f:=λd g=>(λ(d:an) (xs:List a1)=>a1.mk d.bare xs) d (d.ax.map g)) (g:=λd g=>(λ(d:an) (xs:List a1)=>a1.mk d.bare xs) d (d.ax.map g)) (λd q=>rfl)]
inductive l2:a1->Prop
 |mk{d:an}{ks:List a1}:d.bare=d->(∀ c∈ks,l2 c)->l2 (.mk d ks)
def l2.inv{d:an}{ks:List a1}(h:l2 (.mk d ks)):d.bare=d/\∀ c∈ks,l2 c:=by
 cases h with
 |mk aa ab=>exact⟨aa,ab⟩
def l2.fold:∀ {T:a1},l2 T->T.fold (λ(d:an) (xs:List a1)=>a1.mk d.bare xs)=T:=by
 intro T
 induction T using a1.ind with
 |h d ks aN=>intro h;rw[a1.fold_eq,h.inv.1];congr 1;exact(gM λc ap=>aN c ap (h.inv.2 c ap)).trans (MB _)
def apj(ns:List an):∀ S:aK,l2 (S.bare ns):=by
 intro S
 induction S using aK.ind with
 |h k ks aN=>rw[aK.nc];refine .mk rfl λc ap=>?_;obtain⟨c',y3,rfl⟩:=cC.1 ap;exact aN c' y3
def pZ.right{T:a1}(h:pZ t T)(bs:g2 T):right t=true:=by
 have aa:=acm bs;rw[<-h.a4]at aa;have ab:=aa.bA;refine oZ.2 ⟨?_,λj ai=>?_,λj ai k ae=>?_,?_,λj ai=>?_⟩
 ·rw[h.bA];have:(0:Int)<=((t.ns.map an.a4).length:Int)-1/\((t.ns.map an.a4).length:Int)-1<((t.ns.map an.a4).length:Int):=ab;rw[bF]at this;exact this
 ·have:=aa.fits j (by show j<(t.ns.map an.a4).length;rw[bF];exact ai);simp only[my,g7]at this;exact this
 ·refine aa.ax j (by show j<(t.ns.map an.a4).length;rw[bF];exact ai) k ?_;simp only[my,g7];exact ae
 ·have:hO (eO (t.ns.map an.a4)):=aa.diff;unfold eO at this;rw[Af]at this;exact this
 ·have:=aa.all j (by show j<(t.ns.map an.a4).length;rw[bF];exact ai);have e:eO (my (t.ns.map an.a4)).ns=eO t.ns:=by show eO (t.ns.map an.a4)=_;unfold eO;rw[Af];rfl
  have a7:(my (t.ns.map an.a4)).bA=t.bA:=by show(((t.ns.map an.a4).length:Nat):Int)-1=_;rw[bF,h.bA]
  rw[e,a7]at this;exact this
def pZ.cw{T:a1}(h:pZ t T)(bs:g2 T)(ag:l2 T):Go.V.cw t=T:=by unfold Go.V.cw;rw[h.bA,<-acr,h.a4];have:=apa (z:=a1.mk tS []) (F:=λ(d:an) (xs:List a1)=>a1.mk d.bare xs) (λd l=>rfl) bs;rw[ag.fold]at this;unfold Aq at this;rw[<-h.a4]at this |-;rw[bF]at this;exact this
def S3(A:cg)(d z:an)(l:List Nat)(I:aI)(v:Value)(I':aI)(M':List aD):Prop:=(∀ b o,I b=some o->I' b=some o)/\∃ br ds' r,M'=cg.aq ⟨A.b,br,ds'⟩/\cg.ok I' ⟨A.b,br,ds'⟩/\v=.int .i64 r /\ ((jE d A.ds l=[]/\r=(A.ds.length:Int)/\ds'=A.ds++[z])\/(jE d A.ds l=[r]/\ds'=A.ds)\/(2<=(jE d A.ds l).length/\r=(A.ds.length:Int)/\∃ bM fT c',ds'=A.ds++[d.row bM fT c' (jE d A.ds l)]))
def nothing(k:Int):an:=⟨k,0,0,0,0,⟨#[]⟩,0,0,none,0,0,[]⟩
def acs(I:aI){k:Int}(ae:0<=k/\k<256):(nothing k).ok I:=⟨ae,by unfold nothing g6;simp,by unfold nothing g6;simp,by unfold nothing g6;simp,by unfold nothing g6;simp,by show 0<=_;decide,by unfold nothing iM;simp,by unfold nothing iM;simp,⟨rfl,⟨cc _,by simp[nothing]⟩,.inl rfl⟩,λx ad=>by cases ad⟩
def apk{A:cg}(dH:A.ok I)(aB:A.ds.length<=1099511627776){d:an}(aj:d.ok I)(ay:∀ k∈l,k<A.ds.length)(rN:l.length<=1099511627776)(af:c3 I a n c 1 8 ((l.map Int.ofNat).map (.int .i64 ·))) :
  Spec Tryz.prog 111 [ptr A.b,d.val,.slice a n c] I A.aq (S3 A d (nothing 0) l I):=by
 refine bZ [] a5 Tryz.func111 rfl rfl rfl ?_;intro B az;have dK:=aci (z:=nothing 0) dH aB aj (acs I (by decide)) ay rN af;obtain⟨dd,cz,s1,s2,cZ,s,lo,hi,dy,aL,dq,ax⟩:=d;refine bc.mk A.aq [] _ (by rw[ef]) dK ?_;rintro v I' M'-h;obtain⟨je,br,ds',r,rfl,bu,rfl,h⟩:=h;exact⟨_,_,.sub (by simp) .refl,je,br,ds',r,rfl,bu,rfl,h⟩
def apl{A:cg}(dH:A.ok I)(aB:A.ds.length<=1099511627776){d:an}(aj:d.ok I)(ay:∀ k∈l,k<A.ds.length)(rN:l.length<=1099511627776)(af:c3 I a n c 1 8 ((l.map Int.ofNat).map (.int .i64 ·))) :
  Spec Tryz.prog 112 [ptr A.b,d.val,.slice a n c] I A.aq (S3 A d (nothing 1) l I):=by
 refine bZ [] a5 Tryz.func112 rfl rfl rfl ?_;intro B az;have dK:=aci (z:=nothing 1) dH aB aj (acs I (by decide)) ay rN af;obtain⟨dd,cz,s1,s2,cZ,s,lo,hi,dy,aL,dq,ax⟩:=d;refine bc.mk A.aq [] _ (by rw[ef]) dK ?_;rintro v I' M'-h;obtain⟨je,br,ds',r,rfl,bu,rfl,h⟩:=h;exact⟨_,_,.sub (by simp) .refl,je,br,ds',r,rfl,bu,rfl,h⟩
def qU(l:List Int)(m:Nat):List (List Value):=(List.range m).reverse.map λi:Nat=>[.int .i64 (i:Int),.int .i64 (l.getD i 0)]
def apm(l:List Int)(m:Nat):qU l (m+1)=[.int .i64 m,.int .i64 (l.getD m 0)]::qU l m:=by unfold qU;rw[BJ,xU,zd,rL,cb]
def apn(a:Option Addr)(n c:Nat):Spec Tryz.prog 165 [.slice a n c] I [] λr I' M'=>∃ b,r=.func (.func 201) #[] #[ptr b]/\I' b=some (.cells #[.slice a n c] 55 (0,0))/\(∀ b o,I b=some o->I' b=some o)/\M'=[]:=by refine bZ [1] a5 Tryz.func165 rfl rfl rfl ?_;intro B az;refine bX.mk λg au Bt=>?_;exact⟨_,_,.kN rfl (by simp) .refl,g,rfl,mr ..,hI au,rfl⟩
def apo{l:List Int}(af:c3 I a n c 1 8 (l.map (.int .i64 ·))){b:Nat}(ag:I b=some (.cells #[.slice a n c] 55 (0,0))) :
  Iter Tryz.prog 201 [ptr b] I (qU l n):=by
 intro y R kS qp dp M0 lu iu;refine yT [] a5 Tryz.func201 rfl rfl rfl ?_;intro B az;have ju:=af.cap;have rN:l.length=n:=by have aa:=af.len;simpa using aa
 have eY:c3 I a n c 1 8 (l.flatMap kh):=by rw[qS];exact af
 have bl:∀ (I1:aI) (M:List aD),(∀ b o,I b=some o->I1 b=some o)->cM I1 M ((⟨b,0,none⟩:Addr).add 0) 1 [.slice a n c]:=λI1 M cn=>⟨rfl,_,_,_,.inl (cn _ _ ag),rfl,rfl⟩;refine aO.mk _ (bl _ _ lu) ?_;refine bg.mk ((n:Int)-1) (by rw[wrap_i64 (by unfold iM;omega)]) ?_;refine de.inv (ι:=Nat×Nat×aI×List aD) (λx=>{ bj:=[(0,.val (.func (.yield y) #[] #[])),(1,.val (ptr b)),(3,.val (.int .i64 ((x.1:Int)-1)))],cI:=x.2.2.1,c1:=x.2.2.2 }) (λx=>x.1<=n/\(∀ b o,I b=some o->x.2.2.1 b=some o)/\R x.2.1 x.2.2.1 x.2.2.2/\x.2.1<=(qU l n).length/\(qU l n).drop x.2.1=qU l x.1) (λx=>x.1) ?_ ?_
 ·exact⟨(n,0,dp,M0),⟨by simp,lu,iu,by simp,rfl⟩,.refl,hG,.nil⟩
 ·rintro⟨m,k,I1,M1⟩⟨hm,cn,g0,cy,g8⟩;simp only at hm cn g0 cy g8;refine aZ.mk (λh=>?_) (λh=>?_)
  ·have aV:(0:Int)<=(m:Int)-1:=dh h;obtain⟨m,rfl⟩:∃ q,m=q+1:=⟨m-1,by omega⟩;have aG:((m+1:Nat):Int)-1=(m:Int):=by omega
   obtain⟨aS,bH,O7⟩:=(eY.mono cn).row (f:=kh) (λ_=>rfl) (j:=m) (by omega) (by omega);rw[apm]at g8;obtain⟨ae,ah,qy⟩:=drop_cons g8;refine aO.mk _ (bl _ _ cn) ?_;refine bf.mk aS m bH aG (by omega) ?_;refine aO.mk _ (O7 _) ?_;refine bw.yield rfl (by simp) rfl rfl ?_;have aE:=qp k ae I1 M1 cn g0;rw[ah]at aE;have a7:l.getD m 0=l[m]:=by simp[bz,show m<l.length by omega]
   rw[a7,<-aG]at aE;refine y6.mk M1 [] _ (by simp) aE ?_;rintro v dv df en (⟨rfl,lp⟩ | ⟨rfl,ad⟩);·refine aZ.mk (λh=>by simp at h) (λ_=>?_);refine bg.mk ((m:Int)-1) (by rw[wrap_i64 (by unfold iM;omega)];omega) ?_;exact⟨(m,k+1,dv,df),⟨⟨by simp only;omega,λb o h=>en b o (cn b o h),lp,ae,qy⟩,by simp only;omega⟩,.perm (by simp) .refl,hG,.nil⟩
   ·refine aZ.mk (λ_=>?_) (λh=>by simp at h);exact⟨_,_,.perm (by simp) .refl,.inr ad⟩
  ·have cA:¬ (0:Int)<=(m:Int)-1:=dO h;obtain rfl:m=0:=by omega
   refine⟨_,_,.refl,.inl ?_⟩;have xE:k=(qU l n).length:=by have:(qU l n).drop k=[]:=g8.trans (by simp[qU]);have:=Bq.1 this;omega
   rw[<-xE];exact g0
def Spec.MK{P:Program}{f:Nat}{args:List Value}{p q:Value->aI->List aD->Prop}(h:Spec P f args I M p)(mN:∀ v I' M',p v I' M'->q v I' M'):Spec P f args I M q:=by
 rcases h with⟨aa,ab⟩ | ab
 ·refine .inl ⟨aa,λw hw=>(ab w hw).mono ?_⟩;rintro e w'⟨v,I',M',ak,aJ,bB⟩;exact⟨v,I',M',ak,mN _ _ _ aJ,bB⟩
 ·refine .inr λw hw=>?_;obtain⟨v,w',I',M',ak,aJ,bB⟩:=ab w hw;exact⟨v,w',I',M',ak,mN _ _ _ aJ,bB⟩
def yw:Nat:=110
def acu:List Nat:=[yw,yw,yw,yw,111,112,yw,yw,yw,yw]
def S4:List Value:=acu.map λf=>.func (.func f) #[] #[]
def apq:Spec Tryz.prog 61 [] I [] λv I' M'=>v=.agg S4.toArray/\I'=I/\M'=[]:=by refine bZ [] a5 Tryz.func61 rfl rfl rfl ?_;intro B az;exact⟨_,_,.refl,rfl,rfl,rfl⟩
def wS(d:an)(l:List Nat)(ds ds':List an)(r:Int):Prop:=
 if d.k=4\/d.k=5 then
  (jE d ds l=[]/\r=(ds.length:Int)/\ds'=ds++[nothing (d.k-4)])\/(jE d ds l=[r]/\ds'=ds)\/(2<=(jE d ds l).length/\r=(ds.length:Int)/\∃ bM fT c',ds'=ds++[d.row bM fT c' (jE d ds l)])
 else r=(ds.length:Int)/\∃ bM fT c',ds'=ds++[d.row bM fT c' (l.map Int.ofNat)]
def S5(A:cg)(d:an)(l:List Nat)(I:aI)(v:Value)(I':aI)(M':List aD):Prop:=(∀ b o,I b=some o->I' b=some o)/\∃ br ds' r,M'=cg.aq ⟨A.b,br,ds'⟩/\cg.ok I' ⟨A.b,br,ds'⟩/\v=.int .i64 r/\wS d l A.ds ds' r
def apr{A:cg}(dH:A.ok I)(aB:A.ds.length<=1099511627776){d:an}(aj:d.ok I)(ay:∀ k∈l,k<A.ds.length)(rN:l.length<=1099511627776)(af:c3 I a n c 1 8 ((l.map Int.ofNat).map (.int .i64 ·)))(j:Nat)(ai:j<10)(ae:d.k=j) :
  Spec Tryz.prog (acu.getD j 0) [ptr A.b,d.val,.slice a n c] I A.aq (S5 A d l I):=by
 have aps:∀ x∈l.map Int.ofNat,iM x:=λx ad=>by obtain⟨k,ae,rfl⟩:=cC.1 ad;have:=ay k ae;unfold iM;simp only[xy];omega
 have nv:¬ (d.k=4\/d.k=5)->Spec Tryz.prog yw [ptr A.b,d.val,.slice a n c] I A.aq (S5 A d l I):=λbn=>by refine Spec.MK (ach dH aB aj af aps) ?_;rintro v I' M'⟨rfl,rfl,os,rfl,bu⟩;refine⟨λ_ _ h=>h,os,_,_,rfl,bu,rfl,?_⟩;unfold wS;rw[bU bn];exact⟨rfl,_,_,_,rfl⟩
 have acv:∀ {k:Int},d.k=k+4->(k=0\/k=1)->∀ {f:Nat},Spec Tryz.prog f [ptr A.b,d.val,.slice a n c] I A.aq (S3 A d (nothing k) l I)->Spec Tryz.prog f [ptr A.b,d.val,.slice a n c] I A.aq (S5 A d l I):=fun {k} ae iP {f} h=>by refine Spec.MK h ?_;rintro v I' M'⟨je,os,ds',r,rfl,bu,rfl,h⟩;refine⟨je,os,ds',r,rfl,bu,rfl,?_⟩;unfold wS;rw[bQ (by omega),show d.k-4=k by omega];exact h
 match j,ai with
 |0,_=>exact nv (by omega)| 1,_=>exact nv (by omega)| 2,_=>exact nv (by omega)| 3,_=>exact nv (by omega)| 4,_=>exact acv (by omega) (.inl rfl) (apk dH aB aj ay rN af)| 5,_=>exact acv (by omega) (.inr rfl) (apl dH aB aj ay rN af)| 6,_=>exact nv (by omega)| 7,_=>exact nv (by omega)| 8,_=>exact nv (by omega)| 9,_=>exact nv (by omega)
def eK(l:List aK):List Int:=l.map λS=>(S.bh:Int)
def Fa(a b:List aK):eK (a++b)=eK a++eK b:=cP
def apt{ns:List an}{T:aK}(h:iE (nodeAt ns T.bh)=none):T.parts ns=T.sub:=by
 unfold aK.parts;rw[h];have:∀ c:aK,aK.pe ns none c=[c]:=λc=>by
  cases c with
  |mk k ks=>rw[aK.yr,bU (by simp)]
 refine(rP λc _=>this c).trans ?_;simp
def cu.yx{ns:List an}:∀ {T:aK},cu ns T->(nodeAt ns T.bh).ax=eK T.sub
 | .mk k ks,h=>h.inv.2.1
def cu.Fb{ns:List an}:∀ {T:aK},cu ns T->∀ c∈T.sub,cu ns c
 | .mk k ks,h=>h.inv.2.2
def hn(l:List aK):Nat:=(l.map λS=>S.cT.length).sum
def At(a b:List aK):hn (a++b)=hn a+hn b:=by unfold hn;rw[cP,uD]
def Fc:∀ T:aK,T.cT.length=hn T.sub+1
 | .mk k ks=>by rw[aK.mD,cm,xT];rfl
def acw(a:List aK):hn a.reverse=hn a:=by unfold hn;rw[SW,List.sum_reverse]
def Au:∀ l:List aK,l.length<=hn l
 |[]=>dz _| c::l=>by have:=Au l;have ab:=Fc c;show l.length+1<=c.cT.length+hn l;omega
structure apu(I:aI)(A:cg)(cO:Option Int)(apv:List aK)(sz:Nat)(lo c9:aX)(hb aY:List aK)(J:aI):Prop where
 bk:∀ b o,I b=some o->J b=some o
 lo:lo.ok 1 ((eK hb).map (.int .i64 ·))
 c9:c9.ok 1 ((eK aY).map (.int .i64 ·))
 dU:∀ S∈aY,cu A.ds S
 same:hb++aY.reverse.flatMap (aK.pe A.ds cO)=apv
 sz:hb.length+hn aY<=sz
def IW(l:List Int)(n:Nat):(qU l n).length=n:=by simp[qU]
def apw(l:List Int){k:Nat}(h:k<(qU l n).length)(ae:n-1-k<l.length):(qU l n)[k]=[.int .i64 ((n-1-k:Nat):Int),.int .i64 l[n-1-k]]:=by simp only[qU,g7,List.getElem_reverse,v7,wj];rw[bz,da ae];rfl
def apx{A:cg}(dH:A.ok I)(aB:A.ds.length<=1099511627776){T:aK}(bs:cu A.ds T)(dj:T.cT.length<=1099511627776) :
  Spec Tryz.prog 113 [ptr A.b,.int .i64 T.bh] I A.aq λv I' M'=>(∀ b o,I b=some o->I' b=some o)/\M'=A.aq/\∃ a n c,v=.slice a n c/\c3 I' a n c 1 8 ((eK (T.parts A.ds)).map (.int .i64 ·)):=by
 refine yV [7] a5 Tryz.func113 rfl rfl rfl ?_;intro B az;have cy:=bs.mE;have acx:=dH.n;obtain⟨aS,bH,bl⟩:=aX.ok.row (I:=I) (M:=A.aq) an.cS (by decide) dH.os (e:=66) (λx ad=>by simp[cg.aq,ad]) (j:=T.bh) cy;have Al:=dH.ds _ (bx cy);have mC:=gD cy;have v0:=bs.yx;generalize fi:A.ds[T.bh]=d at bl Al mC;rw[mC]at v0;obtain⟨dd,cz,s1,s2,cZ,s,lo,hi,dy,aL,dq,ax⟩:=d;refine aO.mk [A.os.val] (c4 (cs:=[A.os.val]) (k:=0) (n:=1) (T:=94) (by simp[cg.aq,cg.aj]) (by simp)) ?_;refine bf.mk aS T.bh bH rfl (by omega) ?_;refine aO.mk _ bl ?_;refine cq.mk (λaJ=>?_) (λaJ=>?_)
 case' refine_1=>
  have apz:dd≠4:=by simpa using aJ
  refine aZ.mk (λbB=>?_) (λbB=>?_)
  case' refine_1=>
   have apA:dd≠5:=by simpa using bB
   intro _;refine⟨_,_,.refl,λ_ _ h=>h,rfl,dy,aL,dq,rfl,?_⟩;rw[apt (by rw[mC];unfold iE;rw[bU];simp[apz,apA]),<-v0];exact Al.a0
  have gu:dd=4\/dd=5:=.inr (by simpa using bB)
 case' refine_2=>have gu:dd=4\/dd=5:=.inl (by simpa using aJ)
 all_goals
  have vo:iE (nodeAt A.ds T.bh)=some dd:=by rw[mC];unfold iE;rw[bQ gu]
  have sQ:T.parts A.ds=T.sub.flatMap (aK.pe A.ds (some dd)):=by unfold aK.parts;rw[vo]
  refine bX.mk λb1 hk ML=>?_;refine bX.mk λb7 Hz avh=>?_;refine b2.mk [] (⟨b1,_⟩::A.aq) _ _ rfl rfl (bJ rfl) rfl ?_;clear bH bl;refine de.vK (ι:=aX×aX×List aK×List aK×aI) (λx=>{ bj:=[(0,.val (ptr A.b)),(5,.ref 5 0),(6,.val x.1.val),(7,.val (ptr b7))],cl:=[(5,an.cells ⟨dd,cz,s1,s2,cZ,s,lo,hi,dy,aL,dq,ax⟩)],cI:=x.2.2.2.2,c1:=⟨b7,.cells #[x.2.1.val] 55 (0,0)⟩::(x.2.1.aq 3++(x.1.aq 3++A.aq)) }) (λx=>apu I A (some dd) (T.parts A.ds) T.cT.length x.1 x.2.1 x.2.2.1 x.2.2.2.1 x.2.2.2.2) (λx=>hn x.2.2.2.1) ?_ ?_
  ·intro _;refine⟨(⟨none,0,0,[]⟩,⟨some b1,1,1,[.int .i64 T.bh]⟩,[],[T],I),⟨λ_ _ h=>h,⟨rfl,(λ_=>⟨rfl,rfl⟩),λg h=>by cases h⟩,⟨rfl,(λh=>by cases h),λdJ kp=>⟨rfl,cc _,by simp[maxLen],rfl⟩⟩,λS cR=>?_,?_,?_⟩,.refl,eE,.cons rfl (.nil)⟩
   ·rw[ek.1 cR];exact bs
   ·rw[iq,zd,pK,sQ];cases T with
    |mk k ks=>
    rw[aK.yr,bQ (by rw[show nodeAt A.ds k=_ from mC])];rfl
   ·simp[hn]
  rintro⟨lo,c9,hb,aY,J⟩⟨bk,eT,m6,fb,qV,acy⟩;simp only at bk eT m6 fb qV acy;have hF:=eT.mX;have tx:=m6.mX;have e2:=Au aY;simp only[eK,bF]at hF tx;refine aO.mk [c9.val] (c4 (cs:=[c9.val]) (k:=0) (n:=1) (T:=55) (.head _) (by simp)) ?_;refine aZ.mk (λh=>?_) (λh=>?_)
  ·have aby:0<c9.n:=by have:(0:Int)<(c9.n:Int):=dh h;omega
   obtain⟨fW,S,rfl⟩:∃ r p,aY=r++[p]:=by
    rcases vY aY with aa | ⟨r,p,aa⟩;·subst aa;simp at tx;omega
    ·exact⟨r,p,by simpa using aa⟩
   have cR:=fb S (by simp);have p0:=cR.mE;have S6:=Fc S;have uT:hn [S]=S.cT.length:=by simp[hn]
   have CJ:=Au S.sub;rw[At,uT,S6]at acy e2;have jj:c9.n=fW.length+1:=by have dN:=tx;simp only[cm,pL]at dN;omega
   rw[xU,zd,rL,kr]at qV;obtain⟨aS,bH,bl⟩:=aX.BS (I:=J) (e:=3) (M:=⟨b7,.cells #[c9.val] 55 (0,0)⟩::(c9.aq 3++(lo.aq 3++A.aq))) m6 (λx ad=>by simp[ad]) (j:=fW.length) (by simp[eK]);have yy:(eK (fW++[S]))[fW.length]'(by simp[eK])=(S.bh:Int):=by simp[eK]
   rw[yy]at bl;have oa:=m6;rw[Fa,cP]at oa;have oa:aX.ok ⟨c9.a,c9.n-1,c9.c,c9.aR⟩ 1 ((eK fW).map (.int .i64 ·)):=aX.pop oa;have he:c9.n-1=fW.length:=by omega
   rw[he]at oa;have IE:fW.length<=c9.c:=by
    cases wO:c9.a with
    |none=>have:=(m6.nil wO).1;omega| some IF=>have:=(m6.cap IF wO).2.1;omega
   refine aO.mk [c9.val] (c4 (cs:=[c9.val]) (k:=0) (n:=1) (T:=55) (.head _) (by simp)) ?_;refine aO.mk [c9.val] (c4 (cs:=[c9.val]) (k:=0) (n:=1) (T:=55) (.head _) (by simp)) ?_;refine bg.mk ((fW.length:Nat):Int) (by show IntKind.i64.wrap ((c9.n:Int)-1)=_;rw[wrap_i64 ⟨by omega,by omega⟩];omega) ?_;refine bf.mk aS fW.length bH rfl (show fW.length<c9.n by omega) ?_;refine aO.mk _ bl ?_;refine aO.mk [c9.val] (c4 (cs:=[c9.val]) (k:=0) (n:=1) (T:=55) (.head _) (by simp)) ?_;refine aO.mk [c9.val] (c4 (cs:=[c9.val]) (k:=0) (n:=1) (T:=55) (.head _) (by simp)) ?_;refine bg.mk ((fW.length:Nat):Int) (by show IntKind.i64.wrap ((c9.n:Int)-1)=_;rw[wrap_i64 ⟨by omega,by omega⟩];omega) ?_;refine l7.mk 0 fW.length rfl rfl (dz _) IE ?_;refine b2.mk [] (c9.aq 3++(lo.aq 3++A.aq)) #[c9.val] 55 rfl rfl (bJ rfl) rfl ?_;have acz:=dH.mono bk;obtain⟨Fe,CK,Av⟩:=aX.ok.row (I:=J) (M:=⟨b7,.cells #[(⟨c9.a,fW.length,c9.c,c9.aR⟩:aX).val] 55 (0,0)⟩::(c9.aq 3++(lo.aq 3++A.aq))) an.cS (by decide) acz.os (e:=66) (λx ad=>by simp[cg.aq,ad]) (j:=S.bh) p0;have MM:=gD p0;have MN:=acz.ds _ (bx p0);have MO:=cR.yx;rw[MM]at MO;generalize acA:A.ds[S.bh]=r2 at Av MM MN MO;refine cY.draw a5 rfl rfl rfl ?_;refine aO.mk [A.os.val] (c4 (cs:=[A.os.val]) (k:=0) (n:=1) (T:=94) (by simp[cg.aq,cg.aj]) (by simp)) ?_;refine bf.mk Fe S.bh CK rfl (by omega) ?_;refine aO.mk _ (cM.part (k:=0) (m:=1) Av (by decide)) ?_;refine aZ.mk (λb5=>?_) (λb5=>?_)
   ·have bn:r2.k≠dd:=by simpa using b5
    have S7:aK.pe A.ds (some dd) S=[S]:=by
     cases S with
     |mk k ks=>
     rw[aK.yr,bU];intro e;rw[show nodeAt A.ds k=r2 from MM]at e;exact bn (fw e)
    rw[S7,rL]at qV;refine bX.mk λb9 kX wR=>?_;refine bw.o0 a5 rfl (by simp) (e:=3) rfl rfl rfl lo eT rfl (cs:=[.int .i64 S.bh]) rfl rfl rfl (⟨b7,.cells #[(⟨c9.a,fW.length,c9.c,c9.aR⟩:aX).val] 55 (0,0)⟩::c9.aq 3) A.aq rfl (by omega) (by show(lo.n+1)*8<=_;omega) ?_;intro z1 aa ab ak;intro _;refine⟨(z1,⟨c9.a,fW.length,c9.c,c9.aR⟩,hb++[S],fW,J),⟨⟨bk,?_,oa,λx ad=>fb x (by simp[ad]),?_,?_⟩,?_⟩,.refl,eE,.cons rfl (.nil)⟩;·rw[Fa,cP];exact ak
    ·rw[dT,rL];exact qV
    ·show(hb++[S]).length+hn fW<=T.cT.length;rw[cm,pL];omega
    ·show hn fW<hn (fW++[S]);rw[At,uT];omega
   ·have he:r2.k=dd:=by simpa using b5
    have S7:aK.pe A.ds (some dd) S=S.sub.flatMap (aK.pe A.ds (some dd)):=by
     cases S with
     |mk k ks=>
     rw[aK.yr,bQ];·rfl
     ·rw[show nodeAt A.ds k=r2 from MM,he]
    have e8:=MN.aL;have rJ:=MN.a0.cap;have MP:r2.ax.length=S.sub.length:=by rw[MO];simp[eK]
    refine aO.mk [A.os.val] (c4 (cs:=[A.os.val]) (k:=0) (n:=1) (T:=94) (by simp[cg.aq,cg.aj]) (by simp)) ?_;refine bf.mk Fe S.bh CK rfl (by omega) ?_;refine aO.mk _ (cM.part (k:=8) (m:=1) Av (by decide)) ?_;refine bc.mk [] _ _ (.refl _) (apn r2.dy r2.aL r2.dq) ?_;rintro v iF M1 -⟨cG,rfl,DO,hQ,rfl⟩;have apB:∀ b o,I b=some o->iF b=some o:=λb o h=>hQ _ _ (bk _ _ h);refine cY.range a5 rfl rfl rfl .refl (apo (MN.a0.mono hQ) DO) (λvs h=>?_) (λk I' M'=>∃ fX:aX,(∀ b o,iF b=some o->I' b=some o)/\fX.ok 1 ((eK (fW++S.sub.reverse.take k)).map (.int .i64 ·))/\M'=⟨b7,.cells #[fX.val] 55 (0,0)⟩::(fX.aq 3++(lo.aq 3++A.aq))) (λex I' M'=>False) ⟨⟨c9.a,fW.length,c9.c,c9.aR⟩,λ_ _ h=>h,by simpa using oa,rfl⟩ ?_ ?_ (λex I' M' _ h=>h.elim);·obtain⟨p,_,rfl⟩:=cC.1 h;rfl
    ·rintro k ae I' M' -⟨fX,je,qW,rfl⟩l B az g5;have eN:k<S.sub.length:=by rw[IW]at ae;omega
     have ah:=apw r2.ax ae (by rw[IW]at ae;omega);have fc:r2.ax[r2.aL-1-k]'(by rw[IW]at ae;omega)=((S.sub.reverse[k]'(by rw[Ct];exact eN)).bh:Int):=by
      have aa:r2.ax[r2.aL-1-k]?=(eK S.sub)[r2.aL-1-k]?:=by rw[MO]
      rw[da (by rw[IW]at ae;omega)]at aa;unfold eK at aa;rw[iG,da (by omega)]at aa;rw[fw aa,List.getElem_reverse];congr 3;omega
     rw[fc]at ah;rw[ah];have apC:=qW.mX;simp only[eK,bF,cm,hU,Ct]at apC;refine aO.mk [fX.val] (c4 (cs:=[fX.val]) (k:=0) (n:=1) (T:=55) (.head _) (by simp)) ?_;refine bX.mk λb9 kX wR=>?_;refine bw.o0 a5 rfl (by simp) (e:=3) rfl rfl rfl fX qW rfl (cs:=[.int .i64 (S.sub.reverse[k]'(by rw[Ct];exact eN)).bh]) rfl rfl rfl [_] (lo.aq 3++A.aq) rfl (by omega) (by show(fX.n+1)*8<=_;omega) ?_;intro wT aa ab ak;refine b2.mk [] (wT.aq 3++(lo.aq 3++A.aq)) #[fX.val] 55 rfl rfl (bJ rfl) rfl ?_;refine⟨_,_,.refl,wT,je,?_,rfl⟩;rw[fZ (by rw[Ct];exact eN),<-dT,Fa,cP];exact ak
    ·rintro I' M' -⟨fX,je,qW,rfl⟩;rw[IW,ft (by rw[Ct];omega)]at qW;intro _;refine⟨(lo,fX,hb,fW++S.sub.reverse,I'),⟨⟨λb o h=>je _ _ (apB _ _ h),eT,qW,λx ad=>?_,?_,?_⟩,?_⟩,.refl,eE,.cons rfl (.nil)⟩
     ·rcases cE.1 ad with ad | ad
      ·exact fb x (by simp[ad])
      ·exact cR.Fb x (R0.1 ad)
     ·rw[xU,Rb,hd,<-S7];exact qV
     ·show hb.length+hn (fW++S.sub.reverse)<=T.cT.length;rw[At,acw];omega
     ·show hn (fW++S.sub.reverse)<hn (fW++[S]);rw[At,At,acw,uT];omega
  ·have az:c9.n=0:=by have:¬ (0:Int)<(c9.n:Int):=dO h;omega
   obtain rfl:aY=[]:=iK (by omega);intro fC;have fC:l8 J (⟨b7,.cells #[c9.val] 55 (0,0)⟩::(c9.aq 3++(lo.aq 3++A.aq))):=fC;have EJ:hb=T.parts A.ds:=by simpa using qV
   subst EJ;have l1:(⟨b7,.cells #[c9.val] 55 (0,0)⟩::(c9.aq 3++(lo.aq 3++A.aq)):List aD).Perm (lo.aq 3++(A.aq++([⟨b7,.cells #[c9.val] 55 (0,0)⟩]++c9.aq 3))):=by have:=eF (l₁:=([⟨b7,.cells #[c9.val] 55 (0,0)⟩]++c9.aq 3:List aD)) (l₂:=lo.aq 3++A.aq);simpa using this
   have au:∀ g,lo.a=some g->J g=none/\g ∉ A.aq.map (·.num):=λg au=>by
    have ag:lo.aq 3=[⟨g,.cells lo.aR.toArray 3 (0,0)⟩]:=by unfold aX.aq;rw[au]
    have bI:=(l1.map (·.num)).nodup_iff.1 fC.cd;rw[ag]at bI;refine⟨fC.d ⟨g,.cells lo.aR.toArray 3 (0,0)⟩ (by simp[ag]),λhm=>?_⟩;rw[cP]at bI;simp only[cb,hr,rL,kM,cP]at bI;exact bI.1 (jr _ hm)
   obtain⟨dv,hw,en,er,-⟩:=aX.zD (b:=8) (e:=3) eT (by omega) au (A.aq++([⟨b7,.cells #[c9.val] 55 (0,0)⟩]++c9.aq 3));exact⟨dv,A.aq,.perm l1 (hw _ _ (.sub (tw _ _) .refl)),λb o h=>en _ _ (bk _ _ h),rfl,_,_,_,rfl,er⟩
def yz(l:List Nat):List Int:=l.map λx:Nat=>(x:Int)
structure MQ(I:aI)(A:cg)(T:aK)(lo c9:aX)(hb:List Nat)(aY:List aK)(os:aX)(ds:List an)(J:aI):Prop where
 bk:∀ b o,I b=some o->J b=some o
 ok:cg.ok J ⟨A.b,os,ds⟩
 lo:lo.ok 1 ((yz hb).map (.int .i64 ·))
 c9:c9.ok 1 ((eK aY).map (.int .i64 ·))
 dU:∀ S∈aY,cu A.ds S
 cd:(hb++aY.flatMap aK.cT).Nodup
 len:ds.length=A.ds.length
 a:os.a=A.os.a
 same:∀ w,w ∉ hb->nodeAt ds w=nodeAt A.ds w
 done:∀ w∈hb,∃ S a n c,cu A.ds S/\S.bh=w/\nodeAt ds w=(nodeAt A.ds w).row a n c (eK (S.parts A.ds))
 out:hb++aY.reverse.flatMap (λS=>(S.bq A.ds).cT.reverse)=(T.bq A.ds).cT.reverse
def MQ.lt{A:cg}{T:aK}{lo c9:aX}{hb:List Nat}{aY:List aK}{ds:List an}(h:MQ I A T lo c9 hb aY os ds J):hb.length+hn aY<=A.ds.length:=by
 have aa:=MD (n:=A.ds.length) h.cd λx ad=>by
  rcases cE.1 ad with ad | ad;·obtain⟨S,-,-,-,cR,rfl,-⟩:=h.done x ad;exact cR.mE
  ·obtain⟨S,cR,ad⟩:=hy.1 ad;exact(h.dU S cR).lt x ad
 rw[cm,xT]at aa;exact aa
def l8.Ff{foot:List Nat}(fC:l8 J M)(aC:M.Perm (os.aq e++Mr))(aA:∀ x∈foot,x∈Mr.map (·.num)):∀ g,os.a=some g->J g=none/\g ∉ foot:=λg au=>by
 have ag:os.aq e=[⟨g,.cells os.aR.toArray e (0,0)⟩]:=by unfold aX.aq;rw[au]
 have bI:=(aC.map (·.num)).nodup_iff.1 fC.cd;refine⟨fC.d ⟨g,.cells os.aR.toArray e (0,0)⟩ (aC.mem_iff.2 (by rw[ag];exact .head _)),λhm=>?_⟩;rw[ag,cP]at bI;simp only[cb,hr,rL,kM]at bI;exact bI.1 (aA g hm)
def apD{br:aX}(h:os.val=br.val):os.a.map (λg=>(⟨g,0,none⟩:Addr))=br.a.map (λg=>(⟨g,0,none⟩:Addr)):=by unfold aX.val at h;injection h
structure acB(d:an)(eh:List Int)(y:Nat×aX×List Int):Prop where
 k:y.1<=d.aL
 ok:y.2.1.ok 1 (y.2.2.map (.int .i64 ·))
 eq:y.2.2=(d.ax.take y.1).map (λk=>eh.getD k.toNat 0)
def apE{ns:List an}(h:∀ w,(nodeAt dP w).k=(nodeAt ns w).k)(cO:Option Int):∀ S:aK,S.pe dP cO=S.pe ns cO:=by
 intro S
 induction S using aK.ind with
 |h k ks aN=>
  rw[aK.yr,aK.yr,h k];split;·exact rP λc ap=>aN c ap
  ·rfl
def apF{d e:an}(h:d.k=e.k):iE d=iE e:=by unfold iE;rw[h]
def apG{ns:List an}(h:∀ w,(nodeAt dP w).k=(nodeAt ns w).k)(S:aK):S.parts dP=S.parts ns:=by unfold aK.parts;rw[apF (h S.bh)];exact rP λc ap=>apE h _ c
def an.apH(d:an)(a:Option Addr)(n c:Nat)(ks:List Int):ck d.cells 8 [.slice a n c]=(d.row a n c ks).cells:=rfl
def apI{ns:List an}:∀ {T:aK},cu ns T->pO ns T.hf:=by
 intro T
 induction T using aK.ind with
 |h k ks aN=>
  intro h;obtain⟨aa,ab,ak⟩:=h.inv;have aA:pO ns (ks.flatMap aK.hf):=by
   have:∀ l:List aK,(∀ c∈l,pO ns c.hf)->pO ns (l.flatMap aK.hf):=λl=>by
    induction l with
    |nil=>intro _ i h;simp at h| cons c l S8=>intro ay;rw[kr];exact(ay c (.head _)).append (S8 λx ad=>ay x (.tail _ ad))
   exact this ks λc ap=>aN c ap (ak c ap)
  rw[aK.IU];intro i hi x ad;by_cases e:i<(ks.flatMap aK.hf).length;·rw[zt e]at ad;rw[A9 (by omega)];exact aA i e x ad
  ·rw[cm,pL]at hi;have aF:i=(ks.flatMap aK.hf).length:=by omega
   subst aF;rw[D5 (cc _)]at ad;simp only[pI,List.getElem_singleton,gl]at ad;rw[yY];rw[ab]at ad;obtain⟨c,ap,rfl⟩:=cC.1 ad;exact hy.2 ⟨c,ap,cC.2 ⟨c.bh,c.E8,rfl⟩⟩
def apJ{ns:List an}:∀ {T:aK},cu ns T->∀ x∈T.cT,∀ q∈(nodeAt ns x).ax,0<=q/\q<ns.length:=by
 intro T
 induction T using aK.ind with
 |h k ks aN=>
  intro h x ad q aP;obtain⟨aa,ab,ak⟩:=h.inv;rw[aK.mD]at ad;rcases cE.1 ad with ad | ad;·obtain⟨c,ap,ad⟩:=hy.1 ad;exact aN c ap (ak c ap) x ad q aP
  ·rw[ek.1 ad,ab]at aP;obtain⟨c,ap,rfl⟩:=cC.1 aP;have:=(ak c ap).mE;omega
def aK.apK(ns:List an)(S:aK):((S.parts ns).flatMap aK.cT).Sublist (S.sub.flatMap aK.cT):=by unfold aK.parts;rw[CF];exact E' λc ap=>aK.aoL ns _ c
def apL{ds:List an}{j:Nat}(ai:j<ds.length)(x:an)(w:Nat):nodeAt (ds.set j x) w=if w=j then x else nodeAt ds w:=by
 unfold nodeAt;rw[bz,bz,ia];by_cases e:w=j
 ·subst e;rw[bQ rfl,bQ ai,bQ rfl];rfl
 ·rw[bU (λh=>e h.symm),bU e]
def apM(ns:List an)(S:aK):(S.bq ns).cT.reverse=S.bh::(S.parts ns).reverse.flatMap λc=>(c.bq ns).cT.reverse:=by
 have h:=aK.ab7 ns S;have ay:=aK.ab6 ns S;generalize S.bq ns=O at h ay;cases O with
 |mk k ks=>
 obtain rfl:k=S.bh:=ay;rw[aK.mD,show ks=_ from h,xU,zd,rL,List.reverse_flatMap,<-SW,Af];rfl
def apN{A:cg}(dH:A.ok I)(aB:A.ds.length<=1099511627776)(ae:r0 A.ds)(aj:hO (eO A.ds)){T:aK}(bs:cu A.ds T) :
  Spec Tryz.prog 62 [ptr A.b,.int .i64 T.bh] I A.aq λv I' M'=>(∀ b o,I b=some o->I' b=some o)/\M'=[]/\∃ bm:bR,v=bm.val/\bm.ok I'/\pZ bm (T.bare A.ds).bq:=by
 refine yV [] a5 Tryz.func62 rfl rfl rfl ?_;intro B az;refine bX.mk λb1 hk ML=>?_;refine de.inv (ι:=aX×aX×List Nat×List aK×aX×List an×aI) (λx=>{ bj:=[(0,.val (ptr A.b)),(4,.ref 4 0),(5,.val x.1.val),(6,.val x.2.1.val)],cl:=[(4,[.slice none 0 0,.int .i64 0])],cI:=x.2.2.2.2.2.2,c1:=x.2.1.aq 3++(x.1.aq 3++cg.aq ⟨A.b,x.2.2.2.2.1,x.2.2.2.2.2.1⟩) }) (λx=>MQ I A T x.1 x.2.1 x.2.2.1 x.2.2.2.1 x.2.2.2.2.1 x.2.2.2.2.2.1 x.2.2.2.2.2.2) (λx=>hn x.2.2.2.1) ?_ ?_
 ·refine⟨(⟨none,0,0,[]⟩,⟨some b1,1,1,[.int .i64 T.bh]⟩,[],[T],A.os,A.ds,I),⟨λ_ _ h=>h,dH,⟨rfl,(λ_=>⟨rfl,rfl⟩),λg h=>by cases h⟩,⟨rfl,(λh=>by cases h),λdJ kp=>⟨rfl,cc _,by simp[maxLen],rfl⟩⟩,λS cR=>?_,?_,rfl,rfl,λw _=>rfl,(λw hw=>by cases hw),?_⟩,.refl,eE,.cons rfl (.nil)⟩
  ·rw[ek.1 cR];exact bs
  ·rw[iq,pK];exact bs.nodup ae aj
  ·rw[iq,zd,pK]
 rintro⟨lo,c9,hb,aY,os,ds,J⟩bt;have bt:MQ I A T lo c9 hb aY os ds J:=bt;have aV:=bt.lt;obtain⟨bk,bu,eT,m6,fb,bI,c2,acC,qV,EP,yp⟩:=bt;have hF:=eT.mX;have tx:=m6.mX;have e2:=Au aY;simp only[eK,yz,bF]at hF tx;refine aZ.mk (λh=>?_) (λh=>?_)
 ·have aby:0<c9.n:=by have:(0:Int)<(c9.n:Int):=dh h;omega
  obtain⟨fW,S,rfl⟩:∃ r p,aY=r++[p]:=by
   rcases vY aY with aa | ⟨r,p,aa⟩;·subst aa;simp at tx;omega
   ·exact⟨r,p,by simpa using aa⟩
  have cR:=fb S (by simp);have p0:=cR.mE;have S6:=Fc S;have uT:hn [S]=S.cT.length:=by simp[hn]
  have CJ:=Au S.sub;rw[At,uT,S6]at aV e2;have jj:c9.n=fW.length+1:=by have dN:=tx;simp only[cm,pL]at dN;omega
  have S9:∀ w∈S.cT,w ∉ hb:=λw hw xM=>by have:=(r5.1 bI).2.2 w xM w (by rw[hd,pK];exact ra _ hw);exact this rfl
  have acA:cu ds S:=cR.congr λw hw=>⟨by rw[c2];exact cR.lt w hw,by rw[qV w (S9 w hw)]⟩;have fc:∀ w,(nodeAt ds w).k=(nodeAt A.ds w).k:=λw=>by
   by_cases hw:w∈hb;·obtain⟨k4,a,n,c,-,-,e⟩:=EP w hw;rw[e];rfl
   ·rw[qV w hw]
  have RX:S.parts ds=S.parts A.ds:=apG fc S;obtain⟨aS,bH,bl⟩:=aX.BS (I:=J) (e:=3) (M:=c9.aq 3++(lo.aq 3++cg.aq ⟨A.b,os,ds⟩)) m6 (λx ad=>by simp[ad]) (j:=fW.length) (by simp[eK]);have yy:(eK (fW++[S]))[fW.length]'(by simp[eK])=(S.bh:Int):=by simp[eK]
  rw[yy]at bl;have oa:=m6;rw[Fa,cP]at oa;have oa:aX.ok ⟨c9.a,c9.n-1,c9.c,c9.aR⟩ 1 ((eK fW).map (.int .i64 ·)):=aX.pop oa;have he:c9.n-1=fW.length:=by omega
  rw[he]at oa;have IE:fW.length<=c9.c:=by
   cases wO:c9.a with
   |none=>have:=(m6.nil wO).1;omega| some IF=>have:=(m6.cap IF wO).2.1;omega
  refine bg.mk ((fW.length:Nat):Int) (by show IntKind.i64.wrap ((c9.n:Int)-1)=_;rw[wrap_i64 ⟨by omega,by omega⟩];omega) ?_;refine bf.mk aS fW.length bH rfl (show fW.length<c9.n by omega) ?_;refine aO.mk _ bl ?_;refine cY.draw a5 rfl rfl rfl ?_;refine aO.mk [os.val] (c4 (cs:=[os.val]) (k:=0) (n:=1) (T:=94) (by simp[cg.aq,cg.aj]) (by simp)) ?_;refine eL.oz (cg.aq ⟨A.b,os,ds⟩) (c9.aq 3++(lo.aq 3++[])) _ ?_ (apx (A:=⟨A.b,os,ds⟩) bu (by simp only;omega) acA (by omega)) ?_ ?_;·have:=eF (l₁:=(c9.aq 3++lo.aq 3)) (l₂:=cg.aq ⟨A.b,os,ds⟩);simpa using this
  ·rintro v I' M'⟨-,rfl,-⟩x ad;exact ad
  rintro v iF M1 -⟨hQ,rfl,a,n,c,rfl,er⟩;simp only at er;rw[RX]at er;have zr:S.bh<ds.length:=by omega
  have xu:=bu.mono hQ;obtain⟨Fe,CK,Av⟩:=aX.ok.row (I:=iF) (M:=cg.aq ⟨A.b,os,ds⟩++(c9.aq 3++(lo.aq 3++[]))) an.cS (by decide) xu.os (e:=66) (λx ad=>by simp[cg.aq,ad]) (j:=S.bh) zr;refine bf.mk Fe S.bh CK rfl (by have:=xu.n;simp only at this |-;omega) ?_;refine aX.LG an.cells 9 an.cS (e:=66) xu.os zr 8 (vs:=[.slice a n c]) (bJ rfl) rfl (ds[S.bh].row a n c (eK (S.parts A.ds))) (an.apH _ _ _ _ _) [⟨A.b,.cells #[os.val] 94 (0,0)⟩] (c9.aq 3++(lo.aq 3++[])) rfl CK ?_;intro kd np oT n7 IX;obtain⟨Aw,CL⟩:∃ Aw,ds.set S.bh (ds[S.bh].row a n c (eK (S.parts A.ds)))=Aw:=⟨_,rfl⟩;rw[CL]at IX;have rV:Aw.length=ds.length:=by rw[<-CL,oP]
  have S':∀ w,nodeAt Aw w=if w=S.bh then(nodeAt A.ds S.bh).row a n c (eK (S.parts A.ds))else nodeAt ds w:=λw=>by rw[<-CL,apL zr,<-gD zr,qV _ (S9 _ S.E8)]
  have kx:=S.apK A.ds;have avi:hn (S.parts A.ds)<=hn S.sub:=by have:=kx.length_le;rw[xT,xT]at this;exact this
  have jw:=Au (S.parts A.ds);have nw:n=(S.parts A.ds).length:=by have:=er.len;simp only[eK,bF]at this;omega
  have Gl:(ds[S.bh].row a n c (eK (S.parts A.ds))).ok iF:=by
   have aa:=(xu.ds _ (bx zr)).row er λx ad=>by obtain⟨c',y3,rfl⟩:=cC.1 ad;have:=(aK.ab8 A.ds cR c' y3).mE;unfold iM;omega
   exact aa
  have dN:kd.n=Aw.length:=by rw[n7,rV];exact xu.n
  have mg:cg.ok iF ⟨A.b,kd,Aw⟩:=⟨IX,dN,λx ad=>by
   rw[<-CL]at ad;rcases Ae ad with ad | rfl;·exact xu.ds x ad
   ·exact Gl⟩
  obtain⟨apO,acD,Fg⟩:=aX.ok.row (I:=iF) (M:=[⟨A.b,.cells #[os.val] 94 (0,0)⟩]++(kd.aq 66++(c9.aq 3++(lo.aq 3++[])))) an.cS (by decide) IX (e:=66) (λx ad=>by simp[ad]) (j:=S.bh) (by omega);have pJ:Aw[S.bh]'(by omega)=ds[S.bh].row a n c (eK (S.parts A.ds)):=by have aa:=S' S.bh;rw[bQ rfl,gD (by omega),<-qV _ (S9 _ S.E8),gD zr]at aa;exact aa
  rw[pJ]at Fg;have MR:=er.cap;refine cY.draw a5 rfl rfl rfl ?_;refine bg.mk ((fW.length:Nat):Int) (by show IntKind.i64.wrap ((c9.n:Int)-1)=_;rw[wrap_i64 ⟨by omega,by omega⟩];omega) ?_;refine l7.mk 0 fW.length rfl rfl (dz _) IE ?_;refine aO.mk [os.val] (c4 (cs:=[os.val]) (k:=0) (n:=1) (T:=94) (by simp) (by simp)) ?_;refine bf.mk apO S.bh (by rw[oT]at acD;exact acD) rfl (by have:=xu.n;simp only at this |-;omega) ?_;refine aO.mk _ (Fg.part (k:=8) (m:=1) (by decide)) ?_;refine bw.Eg a5 rfl (by simp) (e:=3) rfl rfl rfl ⟨c9.a,fW.length,c9.c,c9.aR⟩ oa rfl (sa:=a) (m:=n) (c':=c) (b8:=(eK (S.parts A.ds)).map (.int .i64 ·)) rfl (by rw[bF,nw];simp[eK]) (λaz=>er.Cy _ az) (IC _) ([⟨A.b,.cells #[os.val] 94 (0,0)⟩]++kd.aq 66) (lo.aq 3++[]) rfl (by simp only;omega) (by show(fW.length+n)*8<=_;omega) ?_;intro sR abA abB jJ;rw[<-cP,<-Fa]at jJ;refine bX.mk λb0 gU Kt=>?_;refine bw.o0 a5 rfl (by simp) (e:=3) rfl rfl rfl lo eT rfl (cs:=[.int .i64 S.bh]) rfl rfl rfl ([⟨A.b,.cells #[os.val] 94 (0,0)⟩]++kd.aq 66++sR.aq 3) [] (congrArg (List.cons _) (dT _ _ _).symm) (by omega) (by show(lo.n+1)*8<=_;omega) ?_;intro MS avj avk apP;refine⟨(MS,sR,hb++[S.bh],fW++S.parts A.ds,kd,Aw,iF),⟨⟨λb o h=>hQ _ _ (bk _ _ h),mg,?_,jJ,λx ad=>?_,?_,rV.trans c2,oT.trans acC,λw hw=>?_,λw hw=>?_,?_⟩,?_⟩,.perm ?_ .refl,eE,.cons rfl (.nil)⟩;·show MS.ok 1 ((yz (hb++[S.bh])).map (.int .i64 ·));unfold yz;rw[cP,cP];exact apP
  ·rcases cE.1 ad with ad | ad
   ·exact fb x (by simp[ad])
   ·exact aK.ab8 A.ds cR x ad
  ·have aa:((hb++[S.bh])++(fW++S.parts A.ds).flatMap aK.cT).Perm (hb++(fW.flatMap aK.cT++((S.parts A.ds).flatMap aK.cT++[S.bh]))):=by rw[dT,hd];refine SV hb ?_;have:=eF (l₁:=[S.bh]) (l₂:=fW.flatMap aK.cT++(S.parts A.ds).flatMap aK.cT);simpa using this
   refine aa.nodup_iff.2 (List.Nodup.sublist ?_ bI);rw[hd,pK];refine(Mz _).append ((Mz _).append ?_);have:S.cT=S.sub.flatMap aK.cT++[S.bh]:=by cases S;exact aK.mD _ _
   rw[this];exact kx.append (.refl _)
  ·rw[S',bU (λe=>hw (by rw[e];simp)),qV w (λh=>hw (jr _ h))]
  ·rw[S'];by_cases e:w=S.bh
   ·subst e;rw[bQ rfl];exact⟨S,a,n,c,cR,rfl,rfl⟩
   ·rw[bU e];rcases cE.1 hw with hw | hw
    ·exact EP w hw
    ·exact absurd (ek.1 hw) e
  ·rw[<-yp,xU,xU,hd,hd,zd,pK,apM A.ds S,dT];rfl
  ·show hn (fW++S.parts A.ds)<hn (fW++[S]);rw[At,At,uT];omega
  ·show List.Perm _ (sR.aq 3++(MS.aq 3++(⟨A.b,.cells #[kd.val] 94 (0,0)⟩::kd.aq 66)));rw[np];have:=eF (l₁:=(⟨A.b,.cells #[os.val] 94 (0,0)⟩::kd.aq 66)) (l₂:=sR.aq 3++MS.aq 3);simpa using this
 ·have az:c9.n=0:=by have:¬ (0:Int)<(c9.n:Int):=dO h;omega
  obtain rfl:aY=[]:=iK (by omega);have EJ:hb.reverse=(T.bq A.ds).cT:=by rw[List.reverse_nil,List.flatMap_nil,ef]at yp;rw[yp,Rb]
  obtain⟨rb,m9⟩:∃ rb,(T.bq A.ds).hf=rb:=⟨_,rfl⟩;have apQ:yz hb.reverse=rb:=by rw[EJ,<-m9];rfl
  have fc:∀ w,(nodeAt ds w).bare=(nodeAt A.ds w).bare:=λw=>by
   by_cases hw:w∈hb;·obtain⟨k4,a,n,c,-,-,e⟩:=EP w hw;rw[e];rfl
   ·rw[qV w hw]
  have acE:(T.bq A.ds).cT.Nodup:=(bs.nodup ae aj).sublist (aK.aoN _ T);have vp:cu ds (T.bq A.ds):=aK.aoR A.ds bs λS cR hm=>by rw[<-EJ]at hm;obtain⟨k4,a,n,c,LW,e,a7⟩:=EP S.bh (R0.1 hm);obtain rfl:=LW.aoH cR e;exact⟨by rw[c2];exact cR.mE,by rw[a7];rfl⟩
  have apR:(T.bq A.ds).bare ds=(T.bare A.ds).bq:=by rw[aK.acd A.ds _ λx ad=>fc x,aK.aoT]
  have acF:=acq vp acE;rw[m9,apR]at acF;have CB:=sub_fold (t:=my ds) (rb:=rb) (by
   rw[<-m9];exact ER.2 (List.Pairwise.imp (fun {a b} bn e=>bn (by omega)) acE)) (by
   rw[<-m9];exact apI vp) (λk ae=>by
   rw[<-m9]at ae;obtain⟨x,ad,rfl⟩:=cC.1 ae;have:=vp.lt x ad;exact⟨by omega,by show(x:Int)<ds.length;omega⟩)
  have uk:lo.ok 1 ((yz hb).map (.int .i64 ·)):=eT;have acx:os.n=ds.length:=bu.n;refine bc.mk (lo.aq 3++[]) (c9.aq 3++cg.aq ⟨A.b,os,ds⟩) _ ?_ (abx (M0:=[]) uk (by show lo.n<=_;omega)) ?_;·have:=(eF (l₁:=lo.aq 3) (l₂:=c9.aq 3)).append_right (cg.aq ⟨A.b,os,ds⟩);simpa using this.symm
  rintro v iF M1 -⟨hQ,back,acG,tQ,rfl⟩;subst iF;have mO:(yz hb).reverse=rb:=by rw[<-apQ];unfold yz;rw[SW]
  rw[mO]at tQ;have Df:=tQ.mX;have rN:lo.n=back.n:=(ID acG).1.symm;have fa:rb.length=lo.n:=by rw[<-mO,Ct];unfold yz;rw[bF];omega
  refine aO.mk [os.val] (c4 (cs:=[os.val]) (k:=0) (n:=1) (T:=94) (by simp[cg.aq,cg.aj]) (by simp)) ?_;refine mG.mk os.n os.n rfl rfl (cc _) (by show 8*os.n<=_;omega) (by omega) ?_;refine bX.mk λb9 kX uR=>?_;refine mG.mk 0 lo.n rfl rfl (dz _) (by show 96*lo.n<=_;omega) (by omega) ?_;refine bX.mk λb7 Hz K5=>?_;have wG:(rowOf [Value.int .i64 0] (os.n*1))=(List.replicate ds.length (0:Int)).map (Value.int .i64):=by rw[th,xm,e0,acx]
  have Ta:∀ (P:List Int) (out eg:aX),∀ x∈A.aq.map (·.num),x∈(dC b9 P::(out.aq 66++(back.aq 3++cg.aq ⟨A.b,os,ds⟩))).map (·.num):=λP out eg x ad=>by
   have e:(cg.aq ⟨A.b,os,ds⟩).map (·.num)=A.aq.map (·.num):=by
    show A.b::(os.aq 66).map (·.num)=A.b::(A.os.aq 66).map (·.num);unfold aX.aq;rw[acC];cases A.os.a<;>rfl
   rw[<-e]at ad;simp only[cb,cP];exact nJ _ (ra _ (ra _ ad))
  refine de.vK (ι:=Nat×List Int×aX×List an×aI) (λx=>{ bj:=[(0,.val (ptr A.b)),(4,.ref 4 0),(8,.val (.slice (some ⟨b9,0,none⟩) os.n os.n)),(9,.val x.2.2.1.val),(66,.val lo.val),(67,.val (.int .i64 lo.n)),(68,.val (.int .i64 x.1))],cl:=[(4,[.slice none 0 0,.int .i64 0])],cI:=x.2.2.2.2,c1:=dC b9 x.2.1::(x.2.2.1.aq 66++(back.aq 3++cg.aq ⟨A.b,os,ds⟩)) }) (Xg J (my ds) rb) (λx=>rb.length-x.1) ?_ ?_
  ·intro _;refine⟨(0,List.replicate ds.length 0,⟨some b7,0,lo.n,rowOf [.int .u8 0,.int .u64 0,.int .u64 0,.int .u64 0,.int .u64 0,.string ⟨#[]⟩,.int .i64 0,.int .i64 0,.slice none 0 0] (lo.n*9)⟩,[],J),⟨dz _,by rw[sm];rfl,⟨rfl,(λh=>by cases h),λdJ kp=>⟨by simp[vF,madeCells],dz _,by unfold maxLen;simp only;omega,by simp⟩⟩,rfl,rfl,(λd aj=>by cases aj),λ_ _ h=>h,(λc ap=>by have:=O' ap;omega),(λd aj=>by cases aj)⟩,?_,p',.cons rfl (.nil)⟩;refine .perm (List.Perm.swap _ _ _) ?_;refine .perm (List.Perm.cons _ (List.Perm.cons _ (?_:List.Perm _ ((back.aq 3++cg.aq ⟨A.b,os,ds⟩)++c9.aq 3)))) ?_
   ·rw[ef,dT];exact SV _ eF
   refine .sub (.cons₂ _ (.cons₂ _ (tw _ _))) (.n5 ?_);rw[wG];rfl
  rintro⟨j,P,out,na,dn⟩⟨ai,yo,An,jj,MT,Am,dV,E5,l0⟩;simp only at ai yo An jj MT Am dV E5 l0;have yo:P.length=ds.length:=yo;have apS:out.n=j:=by have:=An.len;rw[iv _ 9 an.cS,jj]at this;omega
  subst apS;refine aZ.mk (λh=>?_) (λh=>?_)
  ·have ka:out.n<rb.length:=by have:(out.n:Int)<(lo.n:Int):=dh h;omega
   have hm:∀ y∈rb,0<=y/\y<ds.length:=λy aE=>by rw[<-m9]at aE;obtain⟨x,ad,rfl⟩:=cC.1 aE;have:=vp.lt x ad;omega
   have hm:=hm _ (bx ka);obtain⟨m,yq⟩:=eA hm.1;rw[yq]at hm;have jb:m<ds.length:=by omega
   obtain⟨aS,bH,IH⟩:=aX.BS (I:=dn) (e:=3) (M:=dC b9 P::(out.aq 66++(back.aq 3++cg.aq ⟨A.b,os,ds⟩))) tQ (λx ad=>by simp[ad]) ka;rw[yq]at IH;have MU:=bu.mono dV;have fy:ds[m].ok dn:=MU.ds _ (bx jb);have mC:nodeAt ds m=ds[m]:=gD jb;have gW:=oF P m (by omega) (out.n:Int);generalize tI:P.set m (out.n:Int)=eh at gW;have Mv:eh.length=ds.length:=by rw[<-tI];simpa using yo
   obtain⟨j7,j8,gL⟩:=aX.ok.row (I:=dn) (M:=dC b9 eh::(out.aq 66++(back.aq 3++cg.aq ⟨A.b,os,ds⟩))) an.cS (by decide) MU.os (e:=66) (λx ad=>by simp[cg.aq,ad]) (j:=m) jb;have gL:cM dn (dC b9 eh::(out.aq 66++(back.aq 3++cg.aq ⟨A.b,os,ds⟩))) (j7.add (m*9)) 9 ds[m].cells:=gL;generalize fi:ds[m]=d at fy gL mC;have e8:=fy.aL;have rJ:=fy.a0.cap;have CC:∀ c∈eh,0<=c/\c<=rb.length:=λc ap=>by
    rw[<-tI]at ap;rcases Ae ap with ap | rfl;·exact E5 c ap
    ·omega
   refine bf.mk aS out.n (by have:=(apD acG);rw[this]at bH;exact bH) rfl (show _<lo.n by omega) ?_;refine aO.mk _ IH ?_;refine bf.mk ⟨b9,0,none⟩ m rfl rfl (by omega) ?_;refine b2.ix [] (out.aq 66++(back.aq 3++cg.aq ⟨A.b,os,ds⟩)) (P.map (Value.int .i64)) 3 rfl (by rw[nE,bF];show 0+m*1+1<=_;omega) rfl (eh.map (Value.int .i64)) (by rw[db,e0];exact gW) ?_;refine aO.mk [os.val] (c4 (cs:=[os.val]) (k:=0) (n:=1) (T:=94) (by simp[cg.aq,cg.aj]) (by simp)) ?_;refine bf.mk j7 m j8 rfl (by omega) ?_;refine aO.mk _ gL ?_;have sj:(out.n+1)*96<=140737488355328:=by omega
   have jd:∀ q∈d.ax,0<=q/\q<eh.length:=λq aP=>by
    have aa:q∈(nodeAt ds m).ax:=by rw[mC];exact aP
    have Ax:(m:Int)∈rb:=by rw[<-yq];exact bx ka
    rw[<-m9]at Ax;obtain⟨x,ad,e⟩:=cC.1 Ax;obtain rfl:x=m:=Int.ofNat.inj e;have:=apJ vp x ad q aa;omega
   refine de.inv (ι:=Nat×aX×List Int) (λy=>{ bj:=[(0,.val (ptr A.b)),(4,.ref 4 0),(8,.val (.slice (some ⟨b9,0,none⟩) os.n os.n)),(9,.val out.val),(10,.val (.int .i64 out.n)),(12,.ref 12 0),(13,.val y.2.1.val),(66,.val lo.val),(67,.val (.int .i64 lo.n)),(68,.val (.int .i64 out.n)),(85,.val (.slice d.dy d.aL d.dq)),(86,.val (.int .i64 d.aL)),(87,.val (.int .i64 y.1))],cl:=[(4,[.slice none 0 0,.int .i64 0]),(12,d.cells)],cI:=dn,c1:=y.2.1.aq 3++(dC b9 eh::(out.aq 66++(back.aq 3++cg.aq ⟨A.b,os,ds⟩))) }) (λy=>acB d eh y) (λy=>d.aL-y.1) ?_ ?_;·exact⟨(0,hZ,[]),⟨dz _,lv 1,by simp⟩,.refl,UH,.cons rfl (.cons rfl (.nil))⟩
   rintro⟨k,eg,gy⟩⟨iP,kA,cy⟩;simp only at iP kA cy;have apT:=kA.mX;have DT:gy.length=k:=by rw[cy,bF,hU];omega
   refine aZ.mk (λab=>?_) (λab=>?_)
   ·have MV:k<d.aL:=by have:(k:Int)<(d.aL:Int):=dh ab;omega
    have kO:k<d.ax.length:=by omega
    have ah:=jd _ (bx kO);have vl:d.ax[k].toNat<eh.length:=by omega
    have CE:eh.getD d.ax[k].toNat 0=eh[d.ax[k].toNat]:=by simp[bz,vl]
    have CM:c3 dn d.dy d.aL d.dq 1 8 (d.ax.flatMap kh):=by rw[qS];exact fy.a0
    obtain⟨gg,fs,e'⟩:=CM.row (f:=kh) (λ_=>rfl) (j:=k) (by omega) kO;refine bf.mk gg k fs rfl (show k<d.aL by omega) ?_;refine aO.mk _ (e' _) ?_;refine bf.mk ⟨b9,0,none⟩ d.ax[k].toNat rfl (by omega) (by omega) ?_;refine aO.mk _ (Gy (by simp) vl) ?_;refine bX.mk λTb Tc apU=>?_;refine bw.o0 a5 rfl (by simp) (e:=3) rfl rfl rfl eg kA rfl (cs:=[.int .i64 eh[d.ax[k].toNat]]) rfl rfl rfl [] (dC b9 eh::(out.aq 66++(back.aq 3++cg.aq ⟨A.b,os,ds⟩))) rfl (by omega) (by show(eg.n+1)*8<=_;omega) ?_;intro qE acH apV Td;refine bg.mk _ (cK (i:=k) (by omega)) ?_;refine⟨(k+1,qE,gy++[eh[d.ax[k].toNat]]),⟨⟨MV,?_,?_⟩,by simp only;omega⟩,.refl,UH,.cons rfl (.cons rfl (.nil))⟩;·rw[cP];exact Td
    ·rw[cy,fZ kO,cP,sT,CE]
   have cA:k=d.aL:=by have:¬ (k:Int)<(d.aL:Int):=dO ab;omega
   subst cA;rw[ft (by omega)]at cy;refine bX.mk λabE abF abG=>?_;have bI:∃ cd:an,cd=⟨d.k,d.cz,d.s1,d.s2,d.cZ,d.t,d.lo,d.hi,eg.a.map λg=>⟨g,0,none⟩,eg.n,eg.c,gy⟩:=⟨_,rfl⟩;obtain⟨cd,bI⟩:=bI;have IJ:cd.cells=[.int .u8 d.k,.int .u64 d.cz,.int .u64 d.s1,.int .u64 d.s2,.int .u64 d.cZ,.string d.t,.int .i64 d.lo,.int .i64 d.hi,.slice (eg.a.map λg=>⟨g,0,none⟩) eg.n eg.c]:=by rw[bI];rfl
   refine bw.o0 a5 rfl (by simp) (e:=66) rfl rfl rfl out An rfl (cs:=[.int .u8 d.k,.int .u64 d.cz,.int .u64 d.s1,.int .u64 d.s2,.int .u64 d.cZ,.string d.t,.int .i64 d.lo,.int .i64 d.hi,.slice (eg.a.map λg=>⟨g,0,none⟩) eg.n eg.c]) rfl rfl rfl (eg.aq 3++[dC b9 eh]) (back.aq 3++cg.aq ⟨A.b,os,ds⟩) (congrArg (List.cons _) (dT _ [_] _).symm) (by omega) (by show(out.n+1)*96<=_;omega) ?_;intro sS abH abI apW;refine bg.mk _ (cK (i:=out.n) (by omega)) ?_;have Ao:∀ c∈gy,0<=c/\c<=rb.length:=λc ap=>by
    rw[cy]at ap;obtain⟨q,aP,rfl⟩:=cC.1 ap;have tD:=jd q aP;have IK:q.toNat<eh.length:=by omega
    exact CC (eh.getD q.toNat 0) (by simp only[bz,da IK,jV];exact bx _)
   intro fC;have l1:((eg.aq 3++[dC b9 eh])++(sS.aq 66++(back.aq 3++cg.aq ⟨A.b,os,ds⟩))).Perm (eg.aq 3++(dC b9 eh::(sS.aq 66++(back.aq 3++cg.aq ⟨A.b,os,ds⟩)))):=by rw[dT];exact List.Perm.refl _
   have au:=l8.Ff (J:=dn) (os:=eg) (e:=3) fC l1 (Ta eh sS eg);obtain⟨lH,hw,bp,er,-⟩:=aX.zD (b:=8) (e:=3) kA (by omega) au (dC b9 eh::(sS.aq 66++(back.aq 3++cg.aq ⟨A.b,os,ds⟩)));refine⟨(out.n+1,eh,sS,na++[cd],lH),⟨⟨by simp only;omega,Mv,?_,by simp[jj],?_,?_,λb o h=>bp _ _ (dV _ _ h),CC,?_⟩,by simp only;omega⟩,.perm l1 (hw _ _ .refl),p',.cons rfl (.nil)⟩
   ·simp only;rw[hd];have:([cd].flatMap an.cells)=cd.cells:=by simp
    rw[this,IJ];exact apW
   ·simp only;rw[fZ ka,rE,MT,jn,KZ,yq];show(P.set m ((na.map an.a4).length:Int),na.map an.a4++[(nodeAt ds m).eC ((nodeAt ds m).ax.map λk=>(P.set m ((na.map an.a4).length:Int)).getD k.toNat 0)])=_;rw[bF,jj,tI,mC,<-cy,cP,bI];rfl
   ·simp only;intro x ad;rcases cE.1 ad with ad | ad
    ·exact(Am x ad).mono bp
    ·simp only[ek]at ad;rw[ad,bI];refine⟨fy.k,fy.cz,fy.s1,fy.s2,fy.cZ,fy.t,fy.lo,fy.hi,er,λc ap=>?_⟩;have:=Ao c ap;exact⟨by omega,by omega⟩
   ·simp only;intro x ad;rcases cE.1 ad with ad | ad
    ·exact l0 x ad
    ·simp only[ek]at ad;rw[ad,bI];exact Ao
  ·have cA:out.n=rb.length:=by have:¬ (out.n:Int)<(lo.n:Int):=dO h;omega
   refine bg.mk ((na.length:Int)-1) (by show IntKind.i64.wrap ((out.n:Int)-1)=_;rw[wrap_i64 ⟨by omega,by omega⟩,jj]) ?_;intro fC;have l1:(dC b9 P::(out.aq 66++(back.aq 3++cg.aq ⟨A.b,os,ds⟩))).Perm (out.aq 66++(dC b9 P::(hZ.aq 66++(back.aq 3++cg.aq ⟨A.b,os,ds⟩)))):=mv.symm;have au:=l8.Ff (J:=dn) (os:=out) (e:=66) fC l1 (Ta P hZ hZ);obtain⟨lH,hw,bp,er,-⟩:=aX.zD (b:=96) (e:=66) An (by omega) au (dC b9 P::(hZ.aq 66++(back.aq 3++cg.aq ⟨A.b,os,ds⟩)));rw[ft (by omega)]at MT;obtain⟨EE,mu,-,-⟩:=CB rb.length (cc _);rw[Dh]at mu;have eb:na.map an.a4=(T.bare A.ds).bq.post:=by rw[<-acF];exact congrArg Prod.snd (MT.symm.trans mu)
   exact⟨lH,[],.perm l1 (hw _ _ (.sub (fp _) .refl)),λb o h=>bp _ _ (dV _ _ (bk _ _ h)),rfl,⟨na,out.a.map λg=>⟨g,0,none⟩,out.n,out.c,(na.length:Int)-1⟩,rfl,⟨er,λd aj=>(Am d aj).mono bp,⟨by simp only;omega,by simp only;omega⟩⟩,⟨eb,rfl⟩⟩
structure r3(ds:List an)(IY:List Nat):Prop where
 fits:∀ d∈ds,fits d d.ax.length=true
 ax:∀ j (h:j<ds.length),∀ k∈ds[j].ax,0<=k/\k<j
 diff:hO (eO ds)
 gE:∀ k∈IY,k<ds.length/\(k:Int) ∉ eO ds
 sR:IY.Nodup
def MW(a b:List an):eO (a++b)=eO a++eO b:=by unfold eO;rw[hd]
def r3.add{ds:List an}(h:r3 ds (l++bi)){x:an}(ad:Go.V.fits x x.ax.length=true)(ae:x.ax.Sublist (l.map Int.ofNat)):r3 (ds++[x]) (ds.length::bi):=by
 have fv:∀ k∈x.ax,∃ q∈l,k=(q:Int):=λk aP=>by obtain⟨q,aa,ab⟩:=cC.1 (ae.subset aP);exact⟨q,aa,ab.symm⟩
 have fs:eO (ds++[x])=eO ds++x.ax:=by rw[MW];simp[eO]
 have bI:=r5.1 h.sR;refine⟨λd aj=>?_,λj ai k aP=>?_,?_,λk aP=>?_,?_⟩
 ·rcases cE.1 aj with aj | aj
  ·exact h.fits d aj
  ·rw[ek.1 aj];exact ad
 ·by_cases e:j<ds.length
  ·rw[zt e]at aP;exact h.ax j e k aP
  ·rw[cm,pL]at ai;have apX:j=ds.length:=by omega
   subst apX;rw[D5 (cc _)]at aP;simp only[pI,List.getElem_singleton]at aP;obtain⟨q,aa,rfl⟩:=fv k aP;have:=(h.gE q (jr _ aa)).1;omega
 ·rw[fs];refine rM.2 ⟨h.diff,?_,λa a2 b ag=>?_⟩
  ·refine List.Pairwise.sublist ae ?_;refine ER.2 (bI.1.imp λbn e=>bn ?_);exact Int.ofNat.inj e
  ·rintro rfl;obtain⟨q,aa,rfl⟩:=fv _ ag;exact(h.gE q (jr _ aa)).2 a2
 ·rw[fs];rw[cm,pL];rcases ee.1 aP with rfl | aP
  ·refine⟨by omega,λhm=>?_⟩;rcases cE.1 hm with hm | hm
   ·have:=Mx h.ax _ hm;omega
   ·obtain⟨q,aa,e⟩:=fv _ hm;have:=(h.gE q (jr _ aa)).1;omega
  ·obtain⟨aa,ab⟩:=h.gE k (ra _ aP);refine⟨by omega,λhm=>?_⟩;rcases cE.1 hm with hm | hm
   ·exact ab hm
   ·obtain⟨q,ak,e⟩:=fv _ hm;have:k=q:=by omega
    subst this;exact bI.2.2 k ak k aP rfl
 ·refine kM.2 ⟨λhm=>?_,bI.2.1⟩;have:=(h.gE _ (ra _ hm)).1;omega
def r3.pick{ds:List an}(h:r3 ds (l++bi)){r:Nat}(af:r∈l):r3 ds (r::bi):=by
 have bI:=r5.1 h.sR;refine⟨h.fits,h.ax,h.diff,λk ae=>?_,kM.2 ⟨λhm=>bI.2.2 r af r hm rfl,bI.2.1⟩⟩;rcases ee.1 ae with rfl | ae
 ·exact h.gE _ (jr _ af)
 ·exact h.gE _ (ra _ ae)
def IZ(d:an)(ds:List an):∀ l:List Nat,(jE d ds l).Sublist (l.map Int.ofNat)
 |[]=>.slnil
 |k::l=>by
  show List.Sublist ((bif pf d (ds.getD k tS)then [(k:Int)]else [])++jE d ds l) (Int.ofNat k::l.map Int.ofNat);cases pf d (ds.getD k tS)with
  |true=>exact(IZ d ds l).cons₂ _| false=>exact(IZ d ds l).cons _
def Te{d:an}(h:d.k=4\/d.k=5){n m:Int}(aB:2<=n)(hm:2<=m)(aA:Go.V.fits d n=true):Go.V.fits d m=true:=by
 unfold Go.V.fits at aA |-;rcases h with e | e<;>rw[e]at aA |-<;>simp[uC,sk]at aA |-<;>exact⟨⟨hm,.inl (by decide)⟩,aA.2⟩
def r3.join{ds:List an}(h:r3 ds (l++bi)){d:an}(aj:Go.V.fits d l.length=true)(ai:wS d l ds ds' r):0<=r/\r3 ds' (r.toNat::bi):=by
 unfold wS at ai;split at ai
 ·rename_i gu;rcases ai with⟨aa,rfl,ab⟩ | ⟨aa,ab⟩ | ⟨aa,rfl,bM,fT,c',ab⟩
  ·refine⟨by omega,?_⟩;rw[ab,gl];refine h.add ?_ (fp _);rcases gu with e | e
   ·rw[show d.k-4=0 by omega];rfl
   ·rw[show d.k-4=1 by omega];rfl
  ·have af:r∈l.map Int.ofNat:=(IZ d ds l).subset (by rw[aa];exact .head _);obtain⟨q,aP,rfl⟩:=cC.1 af;rw[ab];exact⟨D6 _,h.pick aP⟩
  ·refine⟨by omega,?_⟩;rw[ab,gl];refine h.add ?_ (IZ d ds l);show Go.V.fits d ((jE d ds l).length:Nat)=true;have lO:(2:Int)<=((jE d ds l).length:Nat):=by omega
   have oQ:(2:Int)<=(l.length:Nat):=by have:=(IZ d ds l).length_le;rw[bF]at this;omega
   exact Te gu oQ lO aj
 ·obtain⟨rfl,bM,fT,c',ab⟩:=ai;refine⟨by omega,?_⟩;rw[ab,gl];refine h.add ?_ (Mz _);show Go.V.fits d ((l.map Int.ofNat).length:Nat)=true;rw[bF];exact aj
def ki(d:an)(x:a1):Bool:=!decide (d.k=4) || !decide (x.d.k=0)
def I0(d:an)(xs:List a1):a1:=
 if d.k=4\/d.k=5 then match xs.filter (ki d)with
  |[]=>.mk (nothing (d.k-4)).bare []| [y]=>y| ys=>.mk d ys
 else .mk d xs
def nP(d:an)(xs:List a1):a1:=I0 d.bare xs
def a1.jF(T:a1):a1:=(T.fold nP).bq
def Tf(ns:List an)(T:aK):(T.bare ns).d=(nodeAt ns T.bh).bare:=by
 cases T with
 |mk k ks=>
 rw[aK.nc];rfl
def apY{ns:List an}{k:Nat}(h:k<ns.length):ns.getD k tS=nodeAt ns k:=by rw[gD h];simp[bz,h]
def acI{d:an}{ds:List an}:∀ {ks:List aK},(∀ c∈ks,cu ds c)->jE d ds (ks.map aK.bh)=eK (ks.filter λc=>ki d (c.bare ds))/\(ks.filter λc=>ki d (c.bare ds)).map (aK.bare ds)=(ks.map (aK.bare ds)).filter (ki d)
 |[],_=>⟨rfl,rfl⟩
 |c::ks,h=>by
  obtain⟨aa,ab⟩:=acI (d:=d) (ks:=ks) λx ad=>h x (.tail _ ad);have ap:=(h c (.head _)).mE;have e:pf d (ds.getD c.bh tS)=ki d (c.bare ds):=by unfold pf ki;rw[Tf,an.ab9,apY ap]
  have ai:jE d ds ((c::ks).map aK.bh)=(bif pf d (ds.getD c.bh tS)then [(c.bh:Int)]else [])++jE d ds (ks.map aK.bh):=rfl;rw[ai,aa,e,ox,cb,ox];cases ki d (c.bare ds)with
  |true=>exact⟨rfl,by simp[ab]⟩| false=>exact⟨rfl,by simpa using ab⟩
def I2(d:an)(xs:List a1):nP d xs=if d.k=4\/d.k=5 then(match xs.filter (ki d)with
  |[]=>.mk (nothing (d.k-4)).bare []| [y]=>y| ys=>.mk d.bare ys)else .mk d.bare xs:=rfl
def wS.lt{d:an}{ds:List an}{ks:List aK}(eW:∀ c∈ks,cu ds c)(h:wS d (ks.map aK.bh) ds ds' r) :
  (∃ m,ds'=ds++m)/\∃ T:aK,(T.bh:Int)=r/\cu ds' T/\T.bare ds'=nP d (ks.map (aK.bare ds)):=by
 obtain⟨ai,aA⟩:=acI (d:=d) eW;have new:∀ (x:an) (l:List aK),(∀ c∈l,cu ds c)->x.ax=eK l->cu (ds++[x]) (.mk ds.length l)/\(aK.mk ds.length l).bare (ds++[x])=.mk x.bare (l.map (aK.bare ds)):=λx l ay ad=>by refine⟨.mk (by simp) (by rw[E9,ad];rfl) λc ap=>(ay c ap).app _,?_⟩;rw[aK.nc,E9];congr 1;exact gM λc ap=>aK.CI ds (ay c ap) _
 unfold wS at h;rw[I2,<-aA];split at h
 ·rename_i gu;rw[bQ gu];rw[ai]at h;have mZ:∀ c∈ks.filter (λc=>ki d (c.bare ds)),cu ds c:=λc ap=>eW c (iX.1 ap).1;generalize ks.filter (λc=>ki d (c.bare ds))=bj at h mZ;rcases h with⟨aa,rfl,rfl⟩ | ⟨aa,rfl⟩ | ⟨aa,rfl,bM,fT,c',rfl⟩
  ·obtain rfl:bj=[]:=List.map_eq_nil_iff.1 aa;obtain⟨dG,eI⟩:=new (nothing (d.k-4)) [] (λc ap=>by cases ap) rfl;exact⟨⟨_,rfl⟩,_,rfl,dG,eI⟩
  ·match bj,aa with
   |[c],aa=>refine⟨⟨[],by simp⟩,c,?_,mZ c (.head _),rfl⟩;simpa[eK]using aa
  ·obtain⟨dG,eI⟩:=new (d.row bM fT c' (eK bj)) bj mZ rfl;refine⟨⟨_,rfl⟩,_,rfl,dG,eI.trans ?_⟩
   match bj,aa with
   |gz::gJ::l,aa=>rfl
 ·rename_i gu;rw[bU gu];obtain⟨rfl,bM,fT,c',rfl⟩:=h;obtain⟨dG,eI⟩:=new (d.row bM fT c' ((ks.map aK.bh).map Int.ofNat)) ks eW (by rw[gO];rfl);exact⟨⟨_,rfl⟩,_,rfl,dG,eI⟩
def r3.perm{ds:List an}{a b:List Nat}(h:r3 ds a)(aC:a.Perm b):r3 ds b:=⟨h.fits,h.ax,h.diff,λk ae=>h.gE k (aC.mem_iff.2 ae),aC.nodup_iff.1 h.sR⟩
def vq(ns:List an)(i:Nat):List Nat:=(List.range i).filter λj=>!decide ((j:Int)∈eO (ns.take i))
def h4(P:List Int)(j:Nat):Nat:=(P.getD j 0).toNat
structure CN(t:bR)(i:Nat)(ds:List an)(P:List Int):Prop where
 hi:i<=t.ns.length
 oY:P.length=t.ns.length
 len:ds.length<=i
 ih:∀ j,j<i->∃ T:aK,(T.bh:Int)=P.getD j 0/\cu ds T/\T.bare ds=(gk t.ns j).fold nP
 wd:r3 ds ((vq t.ns i).map (h4 P))
def apZ(h:hP t){j:Nat}(ai:j<t.ns.length):gk t.ns j=.mk t.ns[j].bare (t.ns[j].ax.map (gk t.ns)):=by
 obtain⟨T,bs,dH,he,-⟩:=h.lt ai;cases T with
 |mk k ks=>
 obtain rfl:k=j:=bs;obtain⟨aa,ab,ak⟩:=dH.inv;rw[he,aK.nc,gD aa];rw[gD aa]at ab;rw[ab,gO];congr 1;exact gM λc ap=>(MJ h.yv (ak c ap)).symm
def acJ{ns:List an}(hi:i<ns.length):eO (ns.take (i+1))=eO (ns.take i)++ns[i].ax:=by rw[fZ hi,MW];simp[eO]
def I3{ns:List an}{j:Nat}:j∈vq ns i ↔ j<i/\(j:Int) ∉ eO (ns.take i):=by unfold vq;rw[iX,g'];simp
def CN.step(af:hP t){ds:List an}{P:List Int}(h:CN t i ds P)(hi:i<t.ns.length)(ai:wS t.ns[i] (t.ns[i].ax.map λk=>h4 P k.toNat) ds ds' r) :
  CN t (i+1) ds' (P.set i r):=by
 have pP:=af.ax i hi;obtain⟨ks,tr,eN⟩:=IS (R:=λ(x:Int) (T:aK)=>T.bh=h4 P x.toNat/\cu ds T/\T.bare ds=(gk t.ns x).fold nP) (l:=t.ns[i].ax) λx ad=>by have:=pP x ad;obtain⟨T,aa,ab,ak⟩:=h.ih x.toNat (by omega);refine⟨T,by unfold h4;omega,ab,?_⟩;rw[show((x.toNat:Nat):Int)=x by omega]at ak;exact ak
 have eW:∀ c∈ks,cu ds c:=λc ap=>by obtain⟨q,aP,rfl⟩:=j9 ap;exact(eN q (by omega) aP).2.1
 have yy:(t.ns[i].ax.map λk=>h4 P k.toNat)=ks.map aK.bh:=by refine nU (by simp[tr]) λq aP tD=>?_;rw[g7,g7];exact(eN q (by simpa using aP) (by simpa using tD)).1.symm
 have tq:ks.map (aK.bare ds)=t.ns[i].ax.map λx=>(gk t.ns x).fold nP:=by refine nU (by simp[tr]) λq aP tD=>?_;rw[g7,g7];exact(eN q (by simpa using tD) (by simpa using aP)).2.2
 have im:=ai;rw[yy]at im;obtain⟨⟨m,rfl⟩,T,jx,ib,oc⟩:=im.lt eW;have hold:∀ j,j≠i->(P.set i r).getD j 0=P.getD j 0:=λj bn=>by rw[bz,bz,ia,bU (λe=>bn e.symm)]
 have e4:(P.set i r).getD i 0=r:=by rw[bz,ia,bQ rfl,bQ (by have:=h.oY;omega)];rfl
 have e8:∀ x∈t.ns[i].ax,0<=x/\x<i:=pP;have hH:hO (eO (t.ns.take (i+1))):=by
  have e:eO t.ns=eO (t.ns.take (i+1))++eO (t.ns.drop (i+1)):=by rw[<-MW,sp]
  have:=af.diff;rw[e]at this;exact(rM.1 this).1
 rw[acJ hi]at hH;obtain⟨d1,d2,d3⟩:=rM.1 hH;have ap0:(t.ns[i].ax.map Int.toNat).Nodup:=by refine ER.2 (d2.imp_of_mem ?_);intro a b a2 ag bn e;have:=e8 a a2;have:=e8 b ag;exact bn (by omega)
 obtain⟨bi,te⟩:∃ bi,(vq t.ns i).filter (λj=>!decide (j∈t.ns[i].ax.map Int.toNat))=bi:=⟨_,rfl⟩;have zs:(vq t.ns i).Nodup:=yX.sublist zf;have ap1:(vq t.ns (i+1)).Nodup:=yX.sublist zf;have Ax:∀ j,j∈bi ↔ j∈vq t.ns i/\j ∉ t.ns[i].ax.map Int.toNat:=λj=>by rw[<-te,iX];simp
 have ap2:(vq t.ns i).Perm (t.ns[i].ax.map Int.toNat++bi):=by
  refine(SS zs (r5.2 ⟨ap0,by rw[<-te];exact zs.sublist zf,λa a2 b ag e=>?_⟩)).2 λj=>?_;·subst e;exact((Ax a).1 ag).2 a2
  ·rw[cE,Ax];constructor
   ·intro ai;by_cases e:j∈t.ns[i].ax.map Int.toNat
    ·exact .inl e
    ·exact .inr ⟨ai,e⟩
   ·rintro(ai | ai)
    ·obtain⟨x,ad,rfl⟩:=cC.1 ai;have:=e8 x ad;refine I3.2 ⟨by omega,λhm=>?_⟩;rw[show((x.toNat:Nat):Int)=x by omega]at hm;exact d3 x hm x ad rfl
    ·exact ai.1
 have Rm:(vq t.ns (i+1)).Perm (i::bi):=by
  refine(SS ap1 (kM.2 ⟨λhm=>?_,by rw[<-te];exact zs.sublist zf⟩)).2 λj=>?_;·have:=(I3.1 ((Ax i).1 hm).1).1;omega
  ·rw[ee,Ax,I3,I3,acJ hi,cE];constructor
   ·rintro⟨aa,ab⟩;by_cases e:j=i
    ·exact .inl e
    ·refine .inr ⟨⟨by omega,λak=>ab (.inl ak)⟩,λak=>ab (.inr ?_)⟩;obtain⟨x,ad,rfl⟩:=cC.1 ak;have:=e8 x ad;rw[show((x.toNat:Nat):Int)=x by omega];exact ad
   ·rintro(rfl | ⟨⟨aa,ab⟩,ak⟩)
    ·refine⟨by omega,λaJ=>?_⟩;rcases aJ with aJ | aJ
     ·obtain⟨d,aj,ad⟩:=hy.1 aJ;obtain⟨q,aP,rfl⟩:=j9 aj;rw[hU]at aP;rw[List.getElem_take]at ad;have:=af.ax q (by omega) _ ad;omega
     ·have:=e8 _ aJ;omega
    ·refine⟨by omega,λaJ=>?_⟩;rcases aJ with aJ | aJ
     ·exact ab aJ
     ·exact ak (cC.2 ⟨(j:Int),aJ,by omega⟩)
 have hw:=h.wd.perm ((ap2.map (h4 P)).trans (by rw[cP,gO]));have js:Go.V.fits t.ns[i] ((t.ns[i].ax.map λk=>h4 P k.toNat).length:Nat)=true:=by rw[bF];exact af.fits i hi
 obtain⟨rz,ap3⟩:=hw.join js ai;refine⟨hi,by rw[oP];exact h.oY,?_,λj ai=>?_,?_⟩
 ·have:m.length<=1:=by
   unfold wS at ai;split at ai
   ·rcases ai with⟨-,-,e⟩ | ⟨-,e⟩ | ⟨-,-,bM,fT,c',e⟩
    ·rw[SU e];simp
    ·have:m=[]:=by simpa using e
     rw[this];simp
    ·rw[SU e];simp
   ·obtain⟨-,bM,fT,c',e⟩:=ai;rw[SU e];simp
  have:=h.len;rw[cm];omega
 ·by_cases e:j=i
  ·subst e;refine⟨T,by rw[e4];exact jx,ib,?_⟩;rw[oc,tq,apZ af hi,a1.fold_eq,gO];rfl
  ·obtain⟨S,aa,ab,ak⟩:=h.ih j (by omega);exact⟨S,by rw[hold j e];exact aa,ab.app m,by rw[aK.CI ds ab];exact ak⟩
 ·refine ap3.perm ?_;have aG:(i::bi).map (h4 (P.set i r))=r.toNat::bi.map (h4 P):=by
   rw[cb];congr 1;·unfold h4;rw[e4]
   ·refine gM λj ai=>?_;have:=(I3.1 ((Ax j).1 ai).1).1;unfold h4;rw[hold j (by omega)]
  rw[<-aG];exact(Rm.map _).symm
def CN.start(t:bR):CN t 0 [] (List.replicate t.ns.length 0):=⟨dz _,sm,cc _,λj ai=>absurd ai (nM _),⟨(λd aj=>by cases aj),λj h=>absurd h (nM _),List.Pairwise.nil,(λk ae=>by simp[vq]at ae),by simp[vq]⟩⟩
def c3.ap4(I:aI):c3 I (hZ.a.map λg=>⟨g,0,none⟩) hZ.n hZ.c 1 8 (([]:List Int).map (.int .i64 ·)):=⟨rfl,⟨cc _,dz _⟩,.inl rfl⟩
def ap5(af:hP t)(hi:i<t.ns.length):t.ns[i].ax.length<=i:=by
 have ae:=af.ax i hi;have aj:hO t.ns[i].ax:=by rw[<-gD hi];exact abZ af.diff hi
 have aa:(t.ns[i].ax.map Int.toNat).Nodup:=by refine ER.2 (aj.imp_of_mem ?_);intro a b a2 ag bn e;have:=ae a a2;have:=ae b ag;exact bn (by omega)
 have:=MD (n:=i) aa λx ad=>by obtain⟨y,aE,rfl⟩:=cC.1 ad;have:=ae y aE;omega
 rwa [bF]at this
def ap6(bs:fQ I aw)(av:t.ok I)(af:right t=true)(aB:t.n<=1099511627776) :
  Spec Tryz.prog 15 [t.val] I [] λv I' M'=>(∀ b o,I b=some o->I' b=some o)/\M'=[]/\∃ bm:bR,v=.tuple #[bm.val,.bool true]/\bm.ok I'/\pZ bm (cw t).jF:=by
 refine yV [4] a5 Tryz.func15 rfl rfl rfl ?_;intro B az;have aW:=oZ.1 af;have ic:=av.n;have ju:=av.a0.cap;refine bc.mk [] [] _ (.refl _) (qm bs.c av) ?_;rintro v J N -⟨rfl,bk,rfl⟩;subst J;rw[af];refine aZ.mk (λh=>by cases h) (λ_=>?_);refine bX.mk λp4 HX ye=>?_;refine bc.mk [] _ _ (.refl _) apq ?_;rintro v J N -⟨rfl,bk,rfl⟩;subst J;refine mG.mk t.n t.n rfl rfl (cc _) (by show 8*t.n<=_;omega) (by omega) ?_;refine bX.mk λb6 BF Tg=>?_;have lY:(rowOf [Value.int .i64 0] (t.n*1))=(List.replicate t.ns.length (0:Int)).map (Value.int .i64):=by rw[th,xm,e0,ic]
 have Ta:∀ x∈(([]:List aD).map (·.num)),False:=λx ad=>by cases ad
 refine de.vK (ι:=Nat×List Int×aX×List an×aI) (λx=>{ bj:=[(1,.ref 1 0),(2,.ref 2 0),(4,.val (ptr p4)),(5,.ref 5 0),(6,.val (.slice (some ⟨b6,0,none⟩) t.n t.n)),(22,.val (.slice t.a t.n t.c)),(23,.val (.int .i64 t.n)),(24,.val (.int .i64 x.1))],cl:=[(1,t.cells),(2,[.slice none 0 0,.int .i64 0]),(5,S4)],cI:=x.2.2.2.2,c1:=dC b6 x.2.1::cg.aq ⟨p4,x.2.2.1,x.2.2.2.1⟩ }) (λx=>CN t x.1 x.2.2.2.1 x.2.1/\cg.ok x.2.2.2.2 ⟨p4,x.2.2.1,x.2.2.2.1⟩/\∀ b o,I b=some o->x.2.2.2.2 b=some o) (λx=>t.n-x.1) ?_ ?_
 ·intro _;refine⟨(0,List.replicate t.ns.length 0,hZ,[],I),⟨CN.start t,⟨lv 9,rfl,(λd aj=>by cases aj)⟩,λ_ _ h=>h⟩,.n5 ?_,kq,.cons rfl (.cons rfl (.cons rfl (.nil)))⟩;rw[lY];rfl
 rintro⟨i,P,os,ds,J⟩⟨bt,bu,bk⟩;simp only at bt bu bk;have yo:=bt.oY;have dI:=bt.hi;have zr:=bt.len;refine aZ.mk (λh=>?_) (λh=>?_)
 ·have aV:(i:Int)<t.n:=dh h;have fv:i<t.ns.length:=by omega
  obtain⟨j7,j8,gL⟩:=(av.a0.mono bk).row an.cS (j:=i) (by omega) fv;have aj:=(av.ns _ (bx fv)).mono bk;have jd:=aW.ax i fv;have l0:=ap5 aW fv;have iz:=λds' r=>bt.step aW fv (ds':=ds') (r:=r);generalize fi:t.ns[i]=d at aj gL jd l0 iz;have e8:=aj.aL;have rJ:=aj.a0.cap;refine bf.mk j7 i j8 rfl (by omega) ?_;refine aO.mk _ (gL _) ?_;refine de.vK (ι:=Nat×aX×List Int×aI×List aD) (λy=>{ bj:=[(1,.ref 1 0),(2,.ref 2 0),(4,.val (ptr p4)),(5,.ref 5 0),(6,.val (.slice (some ⟨b6,0,none⟩) t.n t.n)),(7,.val (.int .i64 i)),(8,.ref 8 0),(9,.val y.2.1.val),(22,.val (.slice t.a t.n t.c)),(23,.val (.int .i64 t.n)),(24,.val (.int .i64 i)),(30,.val (.slice d.dy d.aL d.dq)),(31,.val (.int .i64 d.aL)),(32,.val (.int .i64 y.1))],cl:=[(1,t.cells),(2,[.slice none 0 0,.int .i64 0]),(5,S4),(8,d.cells)],cI:=y.2.2.2.1,c1:=y.2.2.2.2++(dC b6 P::cg.aq ⟨p4,os,ds⟩) }) (λy=>acB d P (y.1,y.2.1,y.2.2.1)/\((y.1<d.aL/\y.2.2.2.1=J/\y.2.2.2.2=y.2.1.aq 3)\/(y.1=d.aL/\(∀ b o,J b=some o->y.2.2.2.1 b=some o)/\y.2.2.2.2=[]/\c3 y.2.2.2.1 (y.2.1.a.map λg=>⟨g,0,none⟩) y.2.1.n y.2.1.c 1 8 (y.2.2.1.map (.int .i64 ·))))) (λy=>d.aL-y.1) ?_ ?_
  ·intro _;refine⟨(0,hZ,[],J,[]),⟨⟨dz _,lv 1,by simp⟩,?_⟩,.refl,F2,.cons rfl (.cons rfl (.cons rfl (.cons rfl (.nil))))⟩;by_cases dF:0<d.aL
   ·exact .inl ⟨dF,rfl,rfl⟩
   ·exact .inr ⟨by simp only;omega,λ_ _ h=>h,rfl,c3.ap4 _⟩
  rintro⟨k,eg,gy,iF,acK⟩⟨⟨iP,kA,cy⟩,Th⟩;simp only at iP kA cy Th;have apT:=kA.mX;have DT:gy.length=k:=by rw[cy,bF,hU];omega
  refine aZ.mk (λab=>?_) (λab=>?_)
  ·have MV:k<d.aL:=by have:(k:Int)<(d.aL:Int):=dh ab;omega
   obtain⟨rfl,rfl⟩:iF=J/\acK=eg.aq 3:=by
    rcases Th with⟨-,aa,ak⟩ | ⟨aa,-⟩;·exact⟨aa,ak⟩
    ·omega
   have kO:k<d.ax.length:=by omega
   have ah:=jd _ (bx kO);have vl:d.ax[k].toNat<P.length:=by omega
   have CE:P.getD d.ax[k].toNat 0=P[d.ax[k].toNat]:=by simp[bz,vl]
   have CM:c3 iF d.dy d.aL d.dq 1 8 (d.ax.flatMap kh):=by rw[qS];exact aj.a0
   obtain⟨gg,fs,e'⟩:=CM.row (f:=kh) (λ_=>rfl) (j:=k) (by omega) kO;refine bf.mk gg k fs rfl (show k<d.aL by omega) ?_;refine aO.mk _ (e' _) ?_;refine bf.mk ⟨b6,0,none⟩ d.ax[k].toNat rfl (by omega) (by omega) ?_;refine aO.mk _ (Gy (by simp) vl) ?_;refine bX.mk λTb Tc apU=>?_;refine bw.o0 a5 rfl (by simp) (e:=3) rfl rfl rfl eg kA rfl (cs:=[.int .i64 P[d.ax[k].toNat]]) rfl rfl rfl [] (dC b6 P::cg.aq ⟨p4,os,ds⟩) rfl (by omega) (by show(eg.n+1)*8<=_;omega) ?_;intro qE acH apV Td;refine bg.mk _ (cK (i:=k) (by omega)) ?_;have Ti:qE.ok 1 ((gy++[P[d.ax[k].toNat]]).map (.int .i64 ·)):=by rw[cP];exact Td
   have acL:gy++[P[d.ax[k].toNat]]=(d.ax.take (k+1)).map (λk=>P.getD k.toNat 0):=by rw[cy,fZ kO,cP,sT,CE]
   intro fC;by_cases dF:k+1<d.aL;·exact⟨(k+1,qE,gy++[P[d.ax[k].toNat]],iF,qE.aq 3),⟨⟨⟨MV,Ti,acL⟩,.inl ⟨dF,rfl,rfl⟩⟩,by simp only;omega⟩,.refl,F2,.cons rfl (.cons rfl (.cons rfl (.cons rfl (.nil))))⟩
   ·have au:=l8.Ff (os:=qE) (e:=3) (foot:=[]) fC (.refl _) (λx ad=>by cases ad);obtain⟨lH,hw,bp,er,-⟩:=aX.zD (b:=8) (e:=3) Ti (by rw[acH];omega) au (dC b6 P::cg.aq ⟨p4,os,ds⟩);exact⟨(k+1,qE,gy++[P[d.ax[k].toNat]],lH,[]),⟨⟨⟨MV,Ti,acL⟩,.inr ⟨by simp only;omega,bp,rfl,er⟩⟩,by simp only;omega⟩,hw _ _ .refl,F2,.cons rfl (.cons rfl (.cons rfl (.cons rfl (.nil))))⟩
  have cA:k=d.aL:=by have:¬ (k:Int)<(d.aL:Int):=dO ab;omega
  obtain⟨hQ,rfl,er⟩:(∀ b o,J b=some o->iF b=some o)/\acK=[]/\c3 iF (eg.a.map λg=>⟨g,0,none⟩) eg.n eg.c 1 8 (gy.map (.int .i64 ·)):=by
   rcases Th with⟨aa,-⟩ | ⟨-,aa,ak,aJ⟩;·omega
   ·exact⟨aa,ak,aJ⟩
  subst cA;rw[ft (by omega)]at cy;have kt:∀ x∈d.ax.map (λk=>h4 P k.toNat),x<ds.length:=λx ad=>by obtain⟨y,aE,rfl⟩:=cC.1 ad;have:=jd y aE;obtain⟨T,aa,ab,-⟩:=bt.ih y.toNat (by omega);have:=ab.mE;unfold h4;omega
  have MP:gy=(d.ax.map (λk=>h4 P k.toNat)).map Int.ofNat:=by rw[cy,gO];refine gM λy aE=>?_;have:=jd y aE;obtain⟨T,aa,ab,-⟩:=bt.ih y.toNat (by omega);show P.getD y.toNat 0=((h4 P y.toNat:Nat):Int);unfold h4;omega
  rw[MP]at er;have MU:=bu.mono hQ;have Tj:=aj.mono hQ;have mW:=λj ai ae=>apr (A:=⟨p4,os,ds⟩) MU (by simp only;omega) Tj kt (by rw[bF];omega) er j ai ae;clear cy MP;obtain⟨dd,cz,s1,s2,cZ,fK,Tk,Tl,tE,tF,tG,tH⟩:=d;have D2:dd=0\/dd=1\/dd=2\/dd=3\/dd=4\/dd=5\/dd=6\/dd=7\/dd=8\/dd=9:=by have aa:=PR (aW.fits i fv);rw[fi]at aa;have ab:=aj.k;simp only at aa ab;omega
  rcases D2 with rfl | rfl | rfl | rfl | rfl | rfl | rfl | rfl | rfl | rfl
  ·refine cY.draw a5 rfl rfl rfl ?_;refine eD.mk 0 rfl (by decide) ?_;refine eL.uw rfl (cg.aq ⟨p4,os,ds⟩) [dC b6 P] _ ?_ (mW 0 (by decide) rfl) ?_
   ·exact(eF (l₁:=[dC b6 P]))
   rintro v dn df dV⟨-,br,ds',r,rfl,kI,rfl,nb⟩;refine bf.mk ⟨b6,0,none⟩ i rfl rfl (by omega) ?_;refine b2.ix (cg.aq ⟨p4,br,ds'⟩) [] (P.map (Value.int .i64)) 3 rfl (by rw[nE,bF];show 0+i*1+1<=_;omega) rfl ((P.set i r).map (Value.int .i64)) (by rw[db,e0];exact oF P i (by omega) r) ?_;refine bg.mk _ (cK (i:=i) (by omega)) ?_;intro _;exact⟨(i+1,P.set i r,br,ds',dn),⟨⟨iz _ _ nb,kI,λb o h=>dV _ _ (hQ _ _ (bk _ _ h))⟩,by simp only;omega⟩,.perm (eF (l₁:=cg.aq ⟨p4,br,ds'⟩)) .refl,kq,.cons rfl (.cons rfl (.cons rfl (.nil)))⟩
  ·refine cY.draw a5 rfl rfl rfl ?_;refine eD.mk 1 rfl (by decide) ?_;refine eL.uw rfl (cg.aq ⟨p4,os,ds⟩) [dC b6 P] _ ?_ (mW 1 (by decide) rfl) ?_
   ·exact(eF (l₁:=[dC b6 P]))
   rintro v dn df dV⟨-,br,ds',r,rfl,kI,rfl,nb⟩;refine bf.mk ⟨b6,0,none⟩ i rfl rfl (by omega) ?_;refine b2.ix (cg.aq ⟨p4,br,ds'⟩) [] (P.map (Value.int .i64)) 3 rfl (by rw[nE,bF];show 0+i*1+1<=_;omega) rfl ((P.set i r).map (Value.int .i64)) (by rw[db,e0];exact oF P i (by omega) r) ?_;refine bg.mk _ (cK (i:=i) (by omega)) ?_;intro _;exact⟨(i+1,P.set i r,br,ds',dn),⟨⟨iz _ _ nb,kI,λb o h=>dV _ _ (hQ _ _ (bk _ _ h))⟩,by simp only;omega⟩,.perm (eF (l₁:=cg.aq ⟨p4,br,ds'⟩)) .refl,kq,.cons rfl (.cons rfl (.cons rfl (.nil)))⟩
  ·refine cY.draw a5 rfl rfl rfl ?_;refine eD.mk 2 rfl (by decide) ?_;refine eL.uw rfl (cg.aq ⟨p4,os,ds⟩) [dC b6 P] _ ?_ (mW 2 (by decide) rfl) ?_
   ·exact(eF (l₁:=[dC b6 P]))
   rintro v dn df dV⟨-,br,ds',r,rfl,kI,rfl,nb⟩;refine bf.mk ⟨b6,0,none⟩ i rfl rfl (by omega) ?_;refine b2.ix (cg.aq ⟨p4,br,ds'⟩) [] (P.map (Value.int .i64)) 3 rfl (by rw[nE,bF];show 0+i*1+1<=_;omega) rfl ((P.set i r).map (Value.int .i64)) (by rw[db,e0];exact oF P i (by omega) r) ?_;refine bg.mk _ (cK (i:=i) (by omega)) ?_;intro _;exact⟨(i+1,P.set i r,br,ds',dn),⟨⟨iz _ _ nb,kI,λb o h=>dV _ _ (hQ _ _ (bk _ _ h))⟩,by simp only;omega⟩,.perm (eF (l₁:=cg.aq ⟨p4,br,ds'⟩)) .refl,kq,.cons rfl (.cons rfl (.cons rfl (.nil)))⟩
  ·refine cY.draw a5 rfl rfl rfl ?_;refine eD.mk 3 rfl (by decide) ?_;refine eL.uw rfl (cg.aq ⟨p4,os,ds⟩) [dC b6 P] _ ?_ (mW 3 (by decide) rfl) ?_
   ·exact(eF (l₁:=[dC b6 P]))
   rintro v dn df dV⟨-,br,ds',r,rfl,kI,rfl,nb⟩;refine bf.mk ⟨b6,0,none⟩ i rfl rfl (by omega) ?_;refine b2.ix (cg.aq ⟨p4,br,ds'⟩) [] (P.map (Value.int .i64)) 3 rfl (by rw[nE,bF];show 0+i*1+1<=_;omega) rfl ((P.set i r).map (Value.int .i64)) (by rw[db,e0];exact oF P i (by omega) r) ?_;refine bg.mk _ (cK (i:=i) (by omega)) ?_;intro _;exact⟨(i+1,P.set i r,br,ds',dn),⟨⟨iz _ _ nb,kI,λb o h=>dV _ _ (hQ _ _ (bk _ _ h))⟩,by simp only;omega⟩,.perm (eF (l₁:=cg.aq ⟨p4,br,ds'⟩)) .refl,kq,.cons rfl (.cons rfl (.cons rfl (.nil)))⟩
  ·refine cY.draw a5 rfl rfl rfl ?_;refine eD.mk 4 rfl (by decide) ?_;refine eL.uw rfl (cg.aq ⟨p4,os,ds⟩) [dC b6 P] _ ?_ (mW 4 (by decide) rfl) ?_
   ·exact(eF (l₁:=[dC b6 P]))
   rintro v dn df dV⟨-,br,ds',r,rfl,kI,rfl,nb⟩;refine bf.mk ⟨b6,0,none⟩ i rfl rfl (by omega) ?_;refine b2.ix (cg.aq ⟨p4,br,ds'⟩) [] (P.map (Value.int .i64)) 3 rfl (by rw[nE,bF];show 0+i*1+1<=_;omega) rfl ((P.set i r).map (Value.int .i64)) (by rw[db,e0];exact oF P i (by omega) r) ?_;refine bg.mk _ (cK (i:=i) (by omega)) ?_;intro _;exact⟨(i+1,P.set i r,br,ds',dn),⟨⟨iz _ _ nb,kI,λb o h=>dV _ _ (hQ _ _ (bk _ _ h))⟩,by simp only;omega⟩,.perm (eF (l₁:=cg.aq ⟨p4,br,ds'⟩)) .refl,kq,.cons rfl (.cons rfl (.cons rfl (.nil)))⟩
  ·refine cY.draw a5 rfl rfl rfl ?_;refine eD.mk 5 rfl (by decide) ?_;refine eL.uw rfl (cg.aq ⟨p4,os,ds⟩) [dC b6 P] _ ?_ (mW 5 (by decide) rfl) ?_
   ·exact(eF (l₁:=[dC b6 P]))
   rintro v dn df dV⟨-,br,ds',r,rfl,kI,rfl,nb⟩;refine bf.mk ⟨b6,0,none⟩ i rfl rfl (by omega) ?_;refine b2.ix (cg.aq ⟨p4,br,ds'⟩) [] (P.map (Value.int .i64)) 3 rfl (by rw[nE,bF];show 0+i*1+1<=_;omega) rfl ((P.set i r).map (Value.int .i64)) (by rw[db,e0];exact oF P i (by omega) r) ?_;refine bg.mk _ (cK (i:=i) (by omega)) ?_;intro _;exact⟨(i+1,P.set i r,br,ds',dn),⟨⟨iz _ _ nb,kI,λb o h=>dV _ _ (hQ _ _ (bk _ _ h))⟩,by simp only;omega⟩,.perm (eF (l₁:=cg.aq ⟨p4,br,ds'⟩)) .refl,kq,.cons rfl (.cons rfl (.cons rfl (.nil)))⟩
  ·refine cY.draw a5 rfl rfl rfl ?_;refine eD.mk 6 rfl (by decide) ?_;refine eL.uw rfl (cg.aq ⟨p4,os,ds⟩) [dC b6 P] _ ?_ (mW 6 (by decide) rfl) ?_
   ·exact(eF (l₁:=[dC b6 P]))
   rintro v dn df dV⟨-,br,ds',r,rfl,kI,rfl,nb⟩;refine bf.mk ⟨b6,0,none⟩ i rfl rfl (by omega) ?_;refine b2.ix (cg.aq ⟨p4,br,ds'⟩) [] (P.map (Value.int .i64)) 3 rfl (by rw[nE,bF];show 0+i*1+1<=_;omega) rfl ((P.set i r).map (Value.int .i64)) (by rw[db,e0];exact oF P i (by omega) r) ?_;refine bg.mk _ (cK (i:=i) (by omega)) ?_;intro _;exact⟨(i+1,P.set i r,br,ds',dn),⟨⟨iz _ _ nb,kI,λb o h=>dV _ _ (hQ _ _ (bk _ _ h))⟩,by simp only;omega⟩,.perm (eF (l₁:=cg.aq ⟨p4,br,ds'⟩)) .refl,kq,.cons rfl (.cons rfl (.cons rfl (.nil)))⟩
  ·refine cY.draw a5 rfl rfl rfl ?_;refine eD.mk 7 rfl (by decide) ?_;refine eL.uw rfl (cg.aq ⟨p4,os,ds⟩) [dC b6 P] _ ?_ (mW 7 (by decide) rfl) ?_
   ·exact(eF (l₁:=[dC b6 P]))
   rintro v dn df dV⟨-,br,ds',r,rfl,kI,rfl,nb⟩;refine bf.mk ⟨b6,0,none⟩ i rfl rfl (by omega) ?_;refine b2.ix (cg.aq ⟨p4,br,ds'⟩) [] (P.map (Value.int .i64)) 3 rfl (by rw[nE,bF];show 0+i*1+1<=_;omega) rfl ((P.set i r).map (Value.int .i64)) (by rw[db,e0];exact oF P i (by omega) r) ?_;refine bg.mk _ (cK (i:=i) (by omega)) ?_;intro _;exact⟨(i+1,P.set i r,br,ds',dn),⟨⟨iz _ _ nb,kI,λb o h=>dV _ _ (hQ _ _ (bk _ _ h))⟩,by simp only;omega⟩,.perm (eF (l₁:=cg.aq ⟨p4,br,ds'⟩)) .refl,kq,.cons rfl (.cons rfl (.cons rfl (.nil)))⟩
  ·refine cY.draw a5 rfl rfl rfl ?_;refine eD.mk 8 rfl (by decide) ?_;refine eL.uw rfl (cg.aq ⟨p4,os,ds⟩) [dC b6 P] _ ?_ (mW 8 (by decide) rfl) ?_
   ·exact(eF (l₁:=[dC b6 P]))
   rintro v dn df dV⟨-,br,ds',r,rfl,kI,rfl,nb⟩;refine bf.mk ⟨b6,0,none⟩ i rfl rfl (by omega) ?_;refine b2.ix (cg.aq ⟨p4,br,ds'⟩) [] (P.map (Value.int .i64)) 3 rfl (by rw[nE,bF];show 0+i*1+1<=_;omega) rfl ((P.set i r).map (Value.int .i64)) (by rw[db,e0];exact oF P i (by omega) r) ?_;refine bg.mk _ (cK (i:=i) (by omega)) ?_;intro _;exact⟨(i+1,P.set i r,br,ds',dn),⟨⟨iz _ _ nb,kI,λb o h=>dV _ _ (hQ _ _ (bk _ _ h))⟩,by simp only;omega⟩,.perm (eF (l₁:=cg.aq ⟨p4,br,ds'⟩)) .refl,kq,.cons rfl (.cons rfl (.cons rfl (.nil)))⟩
  ·refine cY.draw a5 rfl rfl rfl ?_;refine eD.mk 9 rfl (by decide) ?_;refine eL.uw rfl (cg.aq ⟨p4,os,ds⟩) [dC b6 P] _ ?_ (mW 9 (by decide) rfl) ?_
   ·exact(eF (l₁:=[dC b6 P]))
   rintro v dn df dV⟨-,br,ds',r,rfl,kI,rfl,nb⟩;refine bf.mk ⟨b6,0,none⟩ i rfl rfl (by omega) ?_;refine b2.ix (cg.aq ⟨p4,br,ds'⟩) [] (P.map (Value.int .i64)) 3 rfl (by rw[nE,bF];show 0+i*1+1<=_;omega) rfl ((P.set i r).map (Value.int .i64)) (by rw[db,e0];exact oF P i (by omega) r) ?_;refine bg.mk _ (cK (i:=i) (by omega)) ?_;intro _;exact⟨(i+1,P.set i r,br,ds',dn),⟨⟨iz _ _ nb,kI,λb o h=>dV _ _ (hQ _ _ (bk _ _ h))⟩,by simp only;omega⟩,.perm (eF (l₁:=cg.aq ⟨p4,br,ds'⟩)) .refl,kq,.cons rfl (.cons rfl (.cons rfl (.nil)))⟩
 ·have cA:i=t.ns.length:=by have:¬ (i:Int)<(t.n:Int):=dO h;omega
  subst cA;obtain⟨k5,iO⟩:=aW.bA;obtain⟨r,fz⟩:=eA k5;have fa:r<t.ns.length:=by omega
  obtain⟨T,jx,ib,oc⟩:=bt.ih r fa;have ap7:P[r]'(by omega)=(T.bh:Int):=by rw[jx,bz,da (by omega)];rfl
  refine bf.mk ⟨b6,0,none⟩ r rfl fz (by omega) ?_;refine aO.mk _ (Gz (by omega) ap7 (.head _)) ?_;have mR:=apN bu (by simp only;omega) bt.wd.ax bt.wd.diff ib;refine bc.mk (cg.aq ⟨p4,os,ds⟩) [dC b6 P] _ (eF (l₁:=[dC b6 P])) mR ?_;rintro v dn df -⟨dV,rfl,bm,rfl,sP,d'⟩;intro _;refine⟨_,_,.sub (fp _) .refl,λb o h=>dV _ _ (bk _ _ h),rfl,bm,rfl,sP,?_⟩;rw[show(cw t).jF=(T.bare ds).bq from by rw[oc];unfold a1.jF cw;rw[fz]];exact d'
section
end
def ap8{d:an}(h:d.k=0)(aA:Go.V.fits d n=true):n=0:=by unfold Go.V.fits at aA;rw[h]at aA;simp[uC,sk]at aA;have aa:lq[0]?.getD 0=0:=rfl;have ab:lq[1]?.getD 0=0:=rfl;rw[aa,ab]at aA;omega
def ap9{M0:List aD}(bs:fQ I aw)(av:t.ok I)(af:right t=true)(aB:t.n<=1099511627776) :
  Spec Tryz.prog 15 [t.val] I M0 λv I' M'=>(∀ b o,I b=some o->I' b=some o)/\M'=M0/\∃ bm:bR,v=.tuple #[bm.val,.bool true]/\bm.ok I'/\pZ bm (cw t).jF:=by
 refine(Spec.frame (ap6 bs av af aB)).MK ?_;rintro v I' M'⟨M1,rfl,-,-,aa,rfl,ab⟩;exact⟨aa,rfl,ab⟩
def Tm{d:an}(h:d.k=4\/d.k=5)(aA:Go.V.fits d n=true):2<=n:=by
 unfold Go.V.fits at aA;rcases h with e | e<;>rw[e]at aA<;>simp[uC,sk]at aA<;>have:=aA.1.1<;>simp[lq]at this<;>omega
def aqa{d:an}(h:d.k=4\/d.k=5):g2 (.mk (nothing (d.k-4)).bare []):=by
 refine .mk ?_ λc ap=>by cases ap
 rcases h with e | e
 ·rw[show d.k-4=0 by omega];rfl
 ·rw[show d.k-4=1 by omega];rfl
def aqb{d:an}{xs:List a1}(aA:Go.V.fits d xs.length=true)(ad:∀ x∈xs,g2 x):g2 (I0 d xs):=by
 unfold I0;split
 ·rename_i gu;have ab:=Tm gu aA;have ar:∀ y∈xs.filter (ki d),g2 y:=λy aE=>ad y (iX.1 aE).1;generalize xs.filter (ki d)=bj at ar
  match bj,ar with
  |[],_=>exact aqa gu| [y],ar=>exact ar y (.head _)| I4::I5::l,ar=>exact .mk (Te gu (n:=(xs.length:Nat)) (by omega) (by simp;omega) aA) ar
 ·exact .mk aA ad
def acM:∀ {T:a1},g2 T->g2 (T.fold nP):=by
 intro T
 induction T using a1.ind with
 |h d ks aN=>intro h;rw[a1.fold_eq];refine aqb (by rw[bF];exact h.inv.1) λx ad=>?_;obtain⟨c,ap,rfl⟩:=cC.1 ad;exact aN c ap (h.inv.2 c ap)
def Tn(cO:Option Int):Prop:=cO=none\/cO=some 4\/cO=some 5
def acN(d:an):Tn (iE d):=by
 unfold iE Tn;split
 ·rename_i h;rcases h with e | e<;>rw[e]<;>simp
 ·exact .inl rfl
def To{α β:Type}{f:α->β}:∀ l:List α,l.map f=l.flatMap λc=>[f c]
 |[]=>rfl| a::l=>by rw[cb,To l];rfl
def Tp{α β:Type}{f:α->List β}:∀ {l:List α},(∀ x∈l,1<=(f x).length)->l.length<=(l.flatMap f).length
 |[],_=>cc _| a::l,h=>by have:=Tp (l:=l) λx ad=>h x (.tail _ ad);have:=h a (.head _);rw[kr,cm,dx];omega
def aqc:∀ {T:a1},g2 T->(∀ cO,Tn cO->1<=(T.fV cO).length/\∀ U∈T.fV cO,g2 U)/\g2 T.bq:=by
 intro T
 induction T using a1.ind with
 |h d ks aN=>
  intro h;obtain⟨aA,ae⟩:=h.inv;have od:g2 (a1.mk d ks).bq:=by
   show g2 (.mk d (ks.flatMap (a1.fV (iE d))));have aa:=Tp (f:=a1.fV (iE d)) λc ap=>((aN c ap (ae c ap)).1 _ (acN d)).1;refine .mk ?_ λU ed=>?_
   ·by_cases gu:d.k=4\/d.k=5
    ·have:=Tm gu aA;exact Te gu (n:=(ks.length:Nat)) (by omega) (by omega) aA
    ·have e:iE d=none:=bU gu;have a7:ks.flatMap (a1.fV (iE d))=ks.map a1.bq:=by
      rw[e];rw[To];refine rP λc _=>?_;cases c with
      |mk ig IT=>rw[a1.qT,bU (by simp)]
     rw[a7,bF];exact aA
   ·obtain⟨c,ap,ed⟩:=hy.1 ed;exact((aN c ap (ae c ap)).1 _ (acN d)).2 U ed
  refine⟨λcO lr=>?_,od⟩;rw[a1.qT];split
  ·rename_i e;have gu:d.k=4\/d.k=5:=by
    rcases lr with h | h | h<;>rw[h]at e
    ·cases e
    ·exact .inl (fw e)
    ·exact .inr (fw e)
   have ab:=Tm gu aA;have aa:=Tp (f:=a1.fV cO) λc ap=>((aN c ap (ae c ap)).1 _ lr).1;refine⟨by omega,λU ed=>?_⟩;obtain⟨c,ap,ed⟩:=hy.1 ed;exact((aN c ap (ae c ap)).1 _ lr).2 U ed
  ·refine⟨cc _,λU ed=>?_⟩;rw[ek.1 ed];exact od
def acO{T:a1}(h:g2 T):g2 T.jF:=(aqc (acM h)).2
def aqd{d:an}{xs:List a1}(ad:∀ x∈xs,l2 x)(aj:d.bare=d):l2 (I0 d xs):=by
 unfold I0;split
 ·have ar:∀ y∈xs.filter (ki d),l2 y:=λy aE=>ad y (iX.1 aE).1;generalize xs.filter (ki d)=bj at ar
  match bj,ar with
  |[],_=>exact .mk rfl λc ap=>by cases ap
  |[y],ar=>exact ar y (.head _)| I4::I5::l,ar=>exact .mk aj ar
 ·exact .mk aj ad
def aqe:∀ (T:a1),l2 (T.fold nP):=by
 intro T
 induction T using a1.ind with
 |h d ks aN=>rw[a1.fold_eq];refine aqd (λx ad=>?_) rfl;obtain⟨c,ap,rfl⟩:=cC.1 ad;exact aN c ap
def aqf:∀ {T:a1},l2 T->(∀ cO,∀ U∈T.fV cO,l2 U)/\l2 T.bq:=by
 intro T
 induction T using a1.ind with
 |h d ks aN=>
  intro h;obtain⟨aA,ae⟩:=h.inv;have od:l2 (a1.mk d ks).bq:=by show l2 (.mk d (ks.flatMap (a1.fV (iE d))));refine .mk aA λU ed=>?_;obtain⟨c,ap,ed⟩:=hy.1 ed;exact(aN c ap (ae c ap)).1 _ U ed
  refine⟨λcO U ed=>?_,od⟩;rw[a1.qT]at ed;split at ed;·obtain⟨c,ap,ed⟩:=hy.1 ed;exact(aN c ap (ae c ap)).1 _ U ed
  ·rw[ek.1 ed];exact od
def acP(T:a1):l2 T.jF:=(aqf (aqe T)).2
section
variable{α:Type}{F:an->List α->α}(bG:abT F)
include bG
theorem fold_filter{d:an}(xs:List a1)(ad:∀ x∈xs,g2 x):∀ ys:List α,F d (ys++xs.map (a1.fold F))=F d (ys++(xs.filter (ki d)).map (a1.fold F)):=by
 induction xs with
 |nil=>intro ys;rfl
 |cons x xs aN=>
  intro ys;have aN:=aN λy aE=>ad y (.tail _ aE);rw[ox,cb];cases h:ki d x with
  |true=>have:=aN (ys++[x.fold F]);simpa using this
  |false=>
   unfold ki at h;have aJ:d.k=4:=by
    cases e:decide (d.k=4)with
    |true=>exact dh e| false=>rw[e]at h;cases h
   have az:x.d.k=0:=by
    cases e:decide (x.d.k=0)with
    |true=>exact dh e| false=>rw[e,aJ]at h;cases h
   have Ce:=ad x (.head _);cases x with
   |mk ig ks=>
   have ae:ks=[]:=iK (ap8 az Ce.inv.1);subst ae;rw[a1.fold_eq,hr,bG.drop d ig ys _ aJ az,aN];rfl
theorem aqg{d:an}{xs:List a1}(ad:∀ x∈xs,g2 x):(nP d xs).fold F=F d (xs.map (a1.fold F)):=by
 have ag:F d.bare=F d:=bG.ax d [];rw[I2];have h:=fold_filter bG (d:=d) xs ad [];rw[iq,iq]at h;split
 ·rename_i gu;rw[h];generalize xs.filter (ki d)=bj
  match bj with
  |[]=>
   rw[a1.fold_eq];rcases gu with e | e;·rw[show d.k-4=0 by omega];exact(bG.aov d (nothing 0).bare e rfl).symm
   ·rw[show d.k-4=1 by omega];exact(bG.aow d (nothing 1).bare e rfl rfl rfl rfl rfl).symm
  |[y]=>exact(bG.one d _ gu).symm| I4::I5::l=>rw[a1.fold_eq,ag]
 ·rw[a1.fold_eq,ag]
theorem aqh:∀ {T:a1},g2 T->(T.fold nP).fold F=T.fold F:=by
 intro T
 induction T using a1.ind with
 |h d ks aN=>
  intro h;obtain⟨aA,ae⟩:=h.inv;rw[a1.fold_eq,aqg bG (λx ad=>?_),a1.fold_eq,gO];·congr 1;exact gM λc ap=>aN c ap (ae c ap)
  ·obtain⟨c,ap,rfl⟩:=cC.1 ad;exact acM (ae c ap)
theorem aqi:∀ (T:a1),(∀ d,d.k=4\/d.k=5->∀ xs e7:List α,F d (xs++((T.fV (some d.k)).map (a1.fold F)++e7))=F d (xs++(T.fold F::e7)))/\T.bq.fold F=T.fold F:=by
 intro T
 induction T using a1.ind with
 |h d ks aN=>
  have flat:∀ (e:an),e.k=4\/e.k=5->∀ (l:List a1),(∀ c∈l,c∈ks)->∀ xs e7:List α,F e (xs++((l.flatMap (a1.fV (some e.k))).map (a1.fold F)++e7))=F e (xs++(l.map (a1.fold F)++e7)):=by
   intro e he l
   induction l with
   |nil=>intro _ xs e7;rfl| cons c l S8=>intro ay xs e7;rw[kr,cP,dT,(aN c (ay c (.head _))).1 e he];have:=S8 (λx ad=>ay x (.tail _ ad)) (xs++[c.fold F]) e7;simpa using this
  have od:(a1.mk d ks).bq.fold F=(a1.mk d ks).fold F:=by
   show(a1.mk d (ks.flatMap (a1.fV (iE d)))).fold F=_;rw[a1.fold_eq,a1.fold_eq];by_cases gu:d.k=4\/d.k=5;·have e:iE d=some d.k:=bQ gu;have:=flat d gu ks (λc ap=>ap) [] [];rw[e];simpa using this
   ·have e:iE d=none:=bU gu;congr 1;rw[e,Ag];rw[To (f:=a1.fold F)];refine rP λc ap=>?_;have ab:=(aN c ap).2;cases c with
    |mk ig IT=>
    rw[a1.qT,bU (by simp),sT,ab]
  refine⟨λe he xs e7=>?_,od⟩;rw[a1.qT];split;·rename_i ae;have ae:d.k=e.k:=fw ae;rw[flat e he ks (λc ap=>ap),a1.fold_eq];exact(bG.nest e d xs (ks.map (a1.fold F)) e7 he ae).symm
  ·rw[sT,od];rfl
theorem aqj{T:a1}(h:g2 T):T.jF.fold F=T.fold F:=(aqi bG _).2.trans (aqh bG h)
end
namespace aK
def go:aK->List Int->Option aK
 |T,[]=>some T| T,i::p=>if 0<=i/\i<(T.sub.length:Int)then(T.sub.getD i.toNat T).go p else none
def pg:aK->List Int->List (Nat×Int)
 |_,[]=>[]| T,i::p=>(T.bh,i)::(T.sub.getD i.toNat T).pg p
end aK
namespace a1
def go:a1->List Int->Option a1
 |T,[]=>some T| T,i::p=>if 0<=i/\i<(T.sub.length:Int)then(T.sub.getD i.toNat T).go p else none
def put:a1->List Int->a1->a1
 |_,[],X=>X| T,i::p,X=>.mk T.d (T.sub.set i.toNat ((T.sub.getD i.toNat T).put p X))
end a1
def acQ(ns:List an)(T:aK):(T.bare ns).sub=T.sub.map (aK.bare ns):=by
 cases T with
 |mk k ks=>
 rw[aK.nc];rfl
def getD_map{β:Type}(f:α->β)(l:List α)(i:Nat)(a:α):(l.map f).getD i (f a)=f (l.getD i a):=by rw[bz,bz,iG];cases l[i]?<;>rfl
def bare_go(ns:List an):∀ (p:List Int) (T:aK),(T.bare ns).go p=(T.go p).map (aK.bare ns)
 |[],T=>rfl
 |i::p,T=>by
  rw[a1.go,aK.go,acQ,bF];split;·rw[getD_map,bare_go ns p]
  ·rfl
def cu.getD{ns:List an}{T:aK}(h:cu ns T)(i:Nat):cu ns (T.sub.getD i T):=by
 rw[bz];cases e:T.sub[i]? with
 |none=>exact h| some c=>exact h.Fb c (rc e)
def cu.go{ns:List an}:∀ (p:List Int) {T:aK},cu ns T->∀ {S},T.go p=some S->cu ns S
 |[],T,h,S,e=>by obtain rfl:=fw e;exact h
 |i::p,T,h,S,e=>by
  rw[aK.go]at e;split at e;·exact cu.go p (h.getD _) e
  ·cases e
structure l3(ds:List an)(IY:List Nat):Prop where
 wd:r3 ds IY
 all:∀ j,j<ds.length->(j:Int)∈eO ds\/j∈IY
def l3.perm{ds:List an}{a b:List Nat}(h:l3 ds a)(aC:a.Perm b):l3 ds b:=⟨h.wd.perm aC,λj ai=>(h.all j ai).imp id λh=>aC.mem_iff.1 h⟩
def l3.add{ds:List an}(h:l3 ds (l++bi)){x:an}(ad:Go.V.fits x l.length=true)(ae:x.ax=l.map Int.ofNat):l3 (ds++[x]) (ds.length::bi):=by
 refine⟨h.wd.add (by rw[ae,bF];exact ad) (by rw[ae];exact .refl _),λj ai=>?_⟩;have fs:eO (ds++[x])=eO ds++l.map Int.ofNat:=by rw[MW,<-ae];simp[eO]
 rw[cm,pL]at ai;rw[fs,cE];by_cases e:j=ds.length
 ·exact .inr (by rw[e];exact .head _)
 ·rcases h.all j (by omega)with aa | aa
  ·exact .inl (.inl aa)
  ·rcases cE.1 aa with aa | aa
   ·exact .inl (.inr (cC.2 ⟨j,aa,rfl⟩))
   ·exact .inr (.tail _ aa)
def l3.nil:l3 [] []:=⟨⟨(λd aj=>by cases aj),λj h=>absurd h (nM _),List.Pairwise.nil,(λk ae=>by cases ae),.nil⟩,λj h=>absurd h (nM _)⟩
def l3.right{ds:List an}{r:Nat}(h:l3 ds [r])(aB:t.ns=ds)(af:t.bA=(r:Int)):hP t:=by
 subst aB;obtain⟨aa,ab⟩:=h.wd.gE r (.head _);refine⟨by rw[af];omega,λj ai=>h.wd.fits _ (bx ai),h.wd.ax,h.wd.diff,λj ai=>?_⟩;rw[af];constructor
 ·intro hm e;obtain rfl:j=r:=by omega
  exact ab hm
 ·intro bn;rcases h.all j ai with ak | ak
  ·exact ak
  ·exact absurd (by rw[ek.1 ak]) bn
def e3(q:List aK)(i:Nat):Nat:=1+((q.take i).flatMap aK.sub).length
structure vr(S:aK)(q:List aK)(i:Nat):Prop where
 hi:i<=q.length
 eq:q=S::(q.take i).flatMap aK.sub
 lt:∀ j,j<i->j<e3 q j
 pm:S.cT.Perm ((q.take i).map aK.bh++(q.drop i).flatMap aK.cT)
def vr.start(S:aK):vr S [S] 0:=⟨dz _,rfl,(λj h=>absurd h (nM _)),by simp⟩
def vr.len{S:aK}{q:List aK}(h:vr S q i):i+hn (q.drop i)=S.cT.length/\q.length<=S.cT.length:=by have aa:=h.pm.length_eq;have ab:=h.hi;have ak:=Au (q.drop i);rw[cm,bF,hU,xT]at aa;rw[tb]at ak;unfold hn at ak |-;omega
def vr.step{S:aK}{q:List aK}(h:vr S q i)(hi:i<q.length):vr S (q++q[i].sub) (i+1):=by
 have mR:(q++q[i].sub).take (i+1)=q.take i++[q[i]]:=by rw[A9 (by omega),fZ hi]
 have IG:∀ j,j<=i->e3 (q++q[i].sub) j=e3 q j:=λj ai=>by unfold e3;rw[A9 (by omega)]
 refine⟨by rw[cm];omega,?_,λj ai=>?_,?_⟩
 ·rw[mR,hd,pK]
  conv=>lhs;lhs;rw[h.eq]
  rfl
 ·rw[IG j (by omega)];by_cases e:j=i
  ·subst e;have:=congrArg List.length h.eq;rw[dx]at this;unfold e3;omega
  ·exact h.lt j (by omega)
 ·rw[mR];refine h.pm.trans ?_;have aG:q.drop i=q[i]::q.drop (i+1):=eR hi;have a7:(q++q[i].sub).drop (i+1)=q.drop (i+1)++q[i].sub:=by rw[PW (by omega)]
  have cr:q[i].cT=q[i].sub.flatMap aK.cT++[q[i].bh]:=by
   cases q[i]with
   |mk k ks=>exact aK.mD k ks
  rw[aG,a7,kr,cr,cP,hd,sT,dT,dT];refine SV _ ?_;have aa:=eF (l₁:=q[i].sub.flatMap aK.cT) (l₂:=[q[i].bh]++(q.drop (i+1)).flatMap aK.cT);simpa using aa
def vr.done{S:aK}{q:List aK}(h:vr S q q.length):q=S::q.flatMap aK.sub/\(∀ j,j<q.length->j<e3 q j)/\q.length=S.cT.length:=by
 obtain⟨aa,ab⟩:=h.len;refine⟨?_,h.lt,?_⟩
 ·have:=h.eq;rwa [Dh]at this
 ·rw[List.drop_length]at aa;simpa[hn]using aa
def acR{q:List aK}(hi:i<q.length):e3 q (i+1)=e3 q i+q[i].sub.length:=by unfold e3;rw[fZ hi,hd,cm,pK];omega
def acS{S:aK}{q:List aK}(h:q=S::q.flatMap aK.sub):e3 q q.length=q.length:=by unfold e3;rw[Dh];have:=congrArg List.length h;rw[dx]at this;omega
def acT{S:aK}{q:List aK}(h:q=S::q.flatMap aK.sub){j:Nat}(hi:i<q.length)(ai:j<q[i].sub.length):q[e3 q i+j]?=some q[i].sub[j]:=by
 have e:q.flatMap aK.sub=(q.take i).flatMap aK.sub++(q[i].sub++(q.drop (i+1)).flatMap aK.sub):=by
  conv=>lhs;rw[<-sp i q,eR hi]
  rw[hd,kr]
 have aa:q[e3 q i+j]?=(S::q.flatMap aK.sub)[e3 q i+j]?:=congrArg (λl:List aK=>l[e3 q i+j]?) h;rw[aa];unfold e3;rw[show 1+((q.take i).flatMap aK.sub).length+j=(((q.take i).flatMap aK.sub).length+j)+1 by omega,FH,e,mT (by omega),show((q.take i).flatMap aK.sub).length+j-((q.take i).flatMap aK.sub).length=j by omega,q' ai,da ai]
structure wU(ns:List an)(cQ:Nat)(pY:List Nat)(q:List aK)(i:Nat)(dP:List an):Prop where
 hi:i<=q.length
 len:dP.length=cQ+(q.length-i)
 Eh:l3 dP ((List.range (e3 q i-i)).map (λz=>cQ+q.length-1-(i+z))++pY)
 ih:∀ p,i<=p->(h:p<q.length)->∃ T:aK,T.bh=cQ+q.length-1-p/\cu dP T/\T.bare dP=q[p].bare ns
def wU.start{ns:List an}{S:aK}{q:List aK}(h:q=S::q.flatMap aK.sub)(au:l3 dP pY):wU ns dP.length pY q q.length dP:=by refine⟨cc _,by omega,?_,λp aa ab=>absurd ab (by omega)⟩;rw[acS h,pI];exact au
def wU.step{ns:List an}{S:aK}{q:List aK}(aP:q=S::q.flatMap aK.sub)(aV:∀ j,j<q.length->j<e3 q j)(h:wU ns cQ pY q (i+1) dP)(fb:cu ns (q[i]'(by have:=h.hi;omega)))(aA:∀ d∈ns,fits d d.ax.length=true){x:an}(ky:x.bare=(nodeAt ns (q[i]'(by have:=h.hi;omega)).bh).bare)(Ay:x.ax=(List.range (e3 q (i+1)-e3 q i)).map λz=>((cQ+q.length-1-(e3 q i+z):Nat):Int)) :
  wU ns cQ pY q i (dP++[x]):=by
 have hi:i<q.length:=by have:=h.hi;omega
 have ar:=acR hi;have avl:=aV i hi;have jb:=h.len;have mO:∀ j,j<q[i].sub.length->e3 q i+j<q.length:=λj ai=>by have:=acT aP hi ai;exact(h5.1 this).1
 have e4:dP.length=cQ+q.length-1-i:=by omega
 refine⟨by omega,by rw[cm,pL];omega,?_,λp sK kc=>?_⟩
 ·have e2:e3 q (i+1)-e3 q i=q[i].sub.length:=by omega
  have ay:((List.range (e3 q (i+1)-(i+1))).map (λz=>cQ+q.length-1-(i+1+z))++pY).Perm ((List.range q[i].sub.length).map (λz=>cQ+q.length-1-(e3 q i+z))++((List.range (e3 q i-(i+1))).map (λz=>cQ+q.length-1-(i+1+z))++pY)):=by
   rw[<-dT];refine List.Perm.append_right _ ?_;have e:e3 q (i+1)-(i+1)=(e3 q i-(i+1))+q[i].sub.length:=by omega
   rw[e,List.range_add,cP,gO];refine eF.trans (List.Perm.append_right _ ?_);refine List.Perm.of_eq (gM λz bb=>?_);show cQ+q.length-1-(i+1+(e3 q i-(i+1)+z))=_;omega
  have aqk:Go.V.fits x ((List.range q[i].sub.length).map (λz=>cQ+q.length-1-(e3 q i+z))).length=true:=by
   rw[bF,wj];have aa:=aA _ (bx fb.mE);rw[<-gD fb.mE,fb.yx]at aa;unfold eK at aa;rw[bF]at aa;have ab:Go.V.fits x.bare (q[i].sub.length:Nat)=true:=by rw[ky];exact aa
   exact ab
  have au:=(h.Eh.perm ay).add (x:=x) aqk (by rw[Ay,e2,gO];rfl);refine au.perm ?_;rw[e4];have e:e3 q i-i=(e3 q i-(i+1))+1:=by omega
  rw[e,List.range_succ_eq_map,cb,gO,mU];refine List.Perm.of_eq ?_;congr 1;congr 1;refine gM λz bb=>?_;show _=cQ+q.length-1-(i+(z+1));omega
 ·by_cases e:p=i
  ·subst e;obtain⟨ks,tr,eN⟩:=IS (R:=λ(z:Nat) (T:aK)=>T.bh=cQ+q.length-1-(e3 q p+z)/\cu dP T/\∃ bb:z<q[p].sub.length,T.bare dP=q[p].sub[z].bare ns) (l:=List.range q[p].sub.length) λz bb=>by have bb:z<q[p].sub.length:=g'.1 bb;have ag:=mO z bb;obtain⟨T,aa,ab,ak⟩:=h.ih (e3 q p+z) (by omega) ag;refine⟨T,aa,ab,bb,?_⟩;have aJ:=acT aP hi bb;rw[da ag]at aJ;rw[ak,fw aJ]
   rw[wj]at tr;have eW:∀ c∈ks,cu dP c:=λc ap=>by obtain⟨z,bb,rfl⟩:=j9 ap;exact(eN z (by simpa using by omega) bb).2.1
   refine⟨.mk dP.length ks,by show dP.length=_;omega,.mk (by simp) ?_ λc ap=>(eW c ap).app _,?_⟩;·rw[E9,Ay];refine nU (by simp;omega) λz bb g4=>?_;rw[g7,g7,v7];have:=(eN z (by simpa using by simpa[tr]using g4) (by simpa using g4)).1;rw[v7]at this;omega
   ·rw[aK.nc,E9,ky];have uZ:q[p].bare ns=.mk (nodeAt ns q[p].bh).bare (q[p].sub.map (aK.bare ns)):=by
     cases q[p]with
     |mk k l=>exact aK.nc ns k l
    rw[uZ];congr 1;refine nU (by simp[tr]) λz bb g4=>?_;rw[g7,g7];have uT:z<ks.length:=by simpa using bb
    obtain⟨-,ba,avm,bP⟩:=eN z (by simpa using by omega) uT;simp only[v7]at bP;rw[aK.CI dP (eW _ (bx uT)),bP]
  ·obtain⟨T,aa,ab,ak⟩:=h.ih p (by omega) kc;exact⟨T,aa,ab.app _,by rw[aK.CI dP ab];exact ak⟩
def wU.done{ns:List an}{S:aK}{q:List aK}(aP:q=S::q.flatMap aK.sub)(h:wU ns cQ pY q 0 dP):l3 dP ((dP.length-1)::pY)/\∃ T:aK,T.bh=dP.length-1/\cu dP T/\T.bare dP=S.bare ns:=by
 have ay:=h.len;have az:0<q.length:=by rw[aP];simp
 refine⟨?_,?_⟩
 ·have au:=h.Eh;have e:e3 q 0-0=1:=by unfold e3;simp
  rw[e]at au;have a7:cQ+q.length-1-(0+0)=dP.length-1:=by omega
  simpa[a7,ay]using au
 ·obtain⟨T,aa,ab,ak⟩:=h.ih 0 (cc _) az;refine⟨T,by omega,ab,?_⟩;rw[ak];congr 1;have:=congrArg (λl:List aK=>l[0]?) aP;rw[da az]at this;exact fw this
def gv:aQ:=⟨⟨#[]⟩,⟨[],none,0,0,0⟩⟩
def acU:∀ (ds ds':List aQ) (a6:List (ByteArray×Int)) (i:Nat),ds.map aQ.name=ds'.map aQ.name->n4 a6 i ds=n4 a6 i ds'
 |[],[],_,_,_=>rfl| [],_::_,_,_,h=>by simp at h
 |_::_,[],_,_,h=>by simp at h
 |d::ds,ig::ds',a6,i,h=>by rw[cb,cb,xz]at h;rw[n4,n4,h.1,acU ds ds' _ _ h.2]
def eS(ds:List aQ)(u:Nat)(y:bR):List aQ:=ds.set u ⟨(ds.getD u gv).name,y⟩
def yA(ds:List aQ)(u:Nat)(y:bR):(eS ds u y).length=ds.length:=by simp[eS]
def acV(ds:List aQ)(u:Nat)(y:bR):(eS ds u y).map aQ.name=ds.map aQ.name:=by
 unfold eS;rw[sd];refine zg λi=>?_;rw[ia];split
 ·rename_i h;subst h;rw[bF,iG];by_cases h:u<ds.length
  ·simp[h,bz]
  ·simp[h]
 ·rfl
def I6(ds:List aQ)(u:Nat)(y:bR):bD (eS ds u y)=bD ds:=acU _ _ _ _ (acV ds u y)
def Fh{ds:List aQ}{y:bR}(h:i≠u):(eS ds u y)[i]?=ds[i]?:=by unfold eS;rw[ia,bU (λe=>h e.symm)]
def CO{ds:List aQ}{y:bR}(h:u<ds.length):(eS ds u y)[u]?=some ⟨ds[u].name,y⟩:=by unfold eS;rw[ia,bQ rfl,bQ h];simp[bz,h]
def Fi{d:aQ}(af:right d.t=true):ie pl F d=(nO pl F d.t).1.1:=(aot af).symm
def Tq(af:right t=true):(nO pl F t).1=ga pl F t.ns t.bA:=by obtain⟨k5,iO⟩:=qo af;obtain⟨r,fz⟩:=eA k5;rw[abQ,fz,Mh af (r+1) r (by omega) (by omega)]
structure sU(ds:List aQ)(u a:Nat)(y:bR):Prop where
 ul:u<ds.length
 g9:a<ds.length
 ne:a≠u
 r:right y=true
 rel:∀ F:List aU,F.getD a bY=(nO (bD ds) F (ds.getD a gv).t).1.1->wP a (nO (bD ds) F (ds.getD a gv).t).1.2 (nO (bD ds) F (ds.getD a gv).t).2 (nO (bD ds) F y) (nO (bD ds) F (ds.getD u gv).t)
section
variable{ds:List aQ}{u a:Nat}{y:bR}(h:sU ds u a y)(af:∀ d∈ds,right d.t=true)
include h af
theorem sU.MX:ds.getD u gv=ds[u]'h.ul:=by have:=h.ul;simp[bz,this]
theorem sU.MY:ds.getD a gv=ds[a]'h.g9:=by have:=h.g9;simp[bz,this]
theorem sU.Tr(bG:∀ i (h:i<ds.length),F.getD i bY=ie (bD ds) F ds[i]):F.getD a bY=(nO (bD ds) F (ds.getD a gv).t).1.1:=by rw[bG a h.g9,Fi (af _ (bx h.g9)),h.MY af]
theorem sU.IA(bG:jM ds F)(oj:jM (eS ds u y) dk):dk=F:=by
 have jw:=I6 ds u y;have hu:=h.ul;have a2:=h.g9;have ay:=yA ds u y;have acW:∀ i (hi:i<ds.length),i≠u->dk.getD i bY=ie (bD ds) dk ds[i]:=λi hi bn=>by
  have aa:=oj.fix i (by omega);have ab:(eS ds u y)[i]'(by omega)=ds[i]:=by have ak:=Fh (ds:=ds) (y:=y) bn;rw[da (by omega),da hi]at ak;exact fw ak
  rw[ab,jw]at aa;exact aa
 have ed:(eS ds u y)[u]'(by omega)=⟨ds[u].name,y⟩:=by have ak:=CO (y:=y) hu;rw[da (by omega)]at ak;exact fw ak
 refine ew.antisymm ?_ ?_
 ·refine oj.least F (by rw[ay];exact bG.len) λi hi=>?_;rw[jw];by_cases e:i=u
  ·subst e;rw[ed,Fi h.r,bG.fix i hu,Fi (af _ (bx hu))];have aa:=(h.rel F (h.Tr af bG.fix)).bj;rw[h.MX af]at aa;rw[aa];exact aU.le_refl _
  ·have ab:(eS ds u y)[i]=ds[i]'(by omega):=by have ak:=Fh (ds:=ds) (y:=y) e;rw[da hi,da (by omega)]at ak;exact fw ak
   rw[ab,<-bG.fix i (by omega)];exact aU.le_refl _
 ·refine bG.least dk (by rw[oj.len,ay]) λi hi=>?_;by_cases e:i=u
  ·subst e;have aa:=oj.fix i (by omega);rw[ed,jw,Fi h.r]at aa;have ab:dk.getD a bY=(nO (bD ds) dk (ds.getD a gv).t).1.1:=by rw[acW a a2 h.ne,Fi (af _ (bx a2)),h.MY af]
   have ak:=(h.rel dk ab).bj;rw[h.MX af]at ak;rw[aa,Fi (af _ (bx hi)),ak];exact aU.le_refl _
  ·rw[<-acW i hi e];exact aU.le_refl _
theorem sU.aql:jC ds F a=(nO (bD ds) F (ds.getD a gv).t).1.2:=by have a2:=h.g9;unfold jC;rw[da a2];show(ga _ _ ds[a].t.ns _).2=_;rw[h.MY af,<-Tq (af _ (bx a2))]
theorem sU.acX(bG:jM ds F){k:Nat}(ae:k∈jC (eS ds u y) F i):kg (jC ds F) i k:=by
 by_cases e:i=u
 ·subst e;have aa:=h.rel F (h.Tr af bG.fix);have ab:jC (eS ds i y) F i=(nO (bD ds) F y).1.2:=by unfold jC;rw[CO h.ul,I6];show(ga _ _ y.ns _).2=_;rw[Tq h.r]
  have ak:jC ds F i=(nO (bD ds) F (ds.getD i gv).t).1.2:=by have hu:=h.ul;unfold jC;rw[da hu];show(ga _ _ ds[i].t.ns _).2=_;rw[h.MX af,<-Tq (af _ (bx hu))]
  rw[ab]at ae;rcases aa.SQ k ae with aJ | ⟨aJ,bB⟩;·exact .one (by rw[ak];exact aJ)
  ·exact .step (by rw[ak];exact aJ) (.one (by rw[h.aql af];exact bB))
 ·refine .one ?_;unfold jC at ae |-;rw[Fh e,I6]at ae;exact ae
theorem sU.comes(bG:jM ds F){k:Nat}(ap:kg (jC (eS ds u y) F) i k):kg (jC ds F) i k:=by
 induction ap with
 |one ae=>exact h.acX af bG ae| step ai _ aN=>exact(h.acX af bG ai).trans aN
theorem sU.aqm(bG:jM ds F)(he:pU (eS ds u y) F i=true):pU ds F i=true\/pU ds F a=true:=by
 by_cases e:i=u
 ·subst e;have aa:=h.rel F (h.Tr af bG.fix);have ab:pU (eS ds i y) F i=(nO (bD ds) F y).2:=by unfold pU;rw[CO h.ul,I6];rfl
  have ak:pU ds F i=(nO (bD ds) F (ds.getD i gv).t).2:=by unfold pU;rw[da h.ul,h.MX af];rfl
  have aJ:pU ds F a=(nO (bD ds) F (ds.getD a gv).t).2:=by unfold pU;rw[da h.g9,h.MY af];rfl
  rw[ab]at he;rw[ak,aJ];exact aa.e5 he
 ·refine .inl ?_;unfold pU at he |-;rw[Fh e,I6]at he;exact he
theorem sU.I7(bG:jM ds F)(ay:(rY ds F).length=0)(eT:(pV ds F).length=0){ds':List aQ}(ap:ds'.map aQ.a4=(eS ds u y).map aQ.a4)(oj:jM ds' dk):dk=F/\(rY ds' dk).length=0/\(pV ds' dk).length=0:=by
 have RS:jM (eS ds u y) dk:=abn (by rw[<-ap];exact ajH oj);have e:=h.IA af bG RS;subst e;have c2:ds'.length=ds.length:=by have:=congrArg List.length ap;rw[bF,bF,yA]at this;exact this
 refine⟨rfl,?_,?_⟩
 ·rw[List.length_eq_zero_iff,abS]at ay |-;intro i hi;rw[abJ]at hi;refine ay i (abJ.2 ⟨by omega,h.comes af bG ?_⟩);have e:jC ds' dk=jC (eS ds u y) dk:=by funext i;rw[<-SC,ap,SC]
  rw[<-e];exact hi.2
 ·rw[List.length_eq_zero_iff,abS]at eT |-;intro i hi;rw[<-SD,ap,SD]at hi;unfold pV at hi eT;rw[iX,g',yA]at hi;rcases h.aqm af bG hi.2 with aa | aa
  ·exact eT i (iX.2 ⟨g'.2 hi.1,aa⟩)
  ·exact eT a (iX.2 ⟨g'.2 h.g9,aa⟩)
end
def aqn{a:Nat}(d:an){xs ys:List vm}(ay:xs.length=ys.length)(h:∀ i (ad:i<xs.length) (aE:i<ys.length),wP a ly rQ xs[i] ys[i]):wP a ly rQ (lG pl F d xs) (lG pl F d ys):=by
 have hm:(xs.map (·.1)).map (·.1)=(ys.map (·.1)).map (·.1):=by refine nU (by simpa using ay) λi aa ab=>?_;simp only[g7];exact(h i (by simpa using aa) (by simpa using ab)).bj
 have Sh:∀ k∈(xs.map (·.1)).flatMap (·.2),k∈(ys.map (·.1)).flatMap (·.2)\/(a∈(ys.map (·.1)).flatMap (·.2)/\k∈ly):=by
  intro k ae;obtain⟨x,ad,ae⟩:=hy.1 ae;obtain⟨q,aP,rfl⟩:=j9 ad;simp only[g7]at ae;have aP:q<xs.length:=by simpa using aP
  have fv:(ys[q]'(by omega)).1∈ys.map (·.1):=IM (bx _);rcases(h q aP (by omega)).SQ k ae with aa | ⟨aa,ab⟩;·exact .inl (hy.2 ⟨_,fv,aa⟩)
  ·exact .inr ⟨hy.2 ⟨_,fv,aa⟩,ab⟩
 refine⟨?_,?_,?_⟩
 ·show gP d ((xs.map (·.1)).map (·.1)++_)=gP d ((ys.map (·.1)).map (·.1)++_);rw[hm]
 ·show ∀ k∈kb pl d (xs.map (·.1)),k∈kb pl d (ys.map (·.1))\/(a∈kb pl d (ys.map (·.1))/\k∈ly);unfold kb;by_cases cr:d.k=3
  ·rw[fu cr];exact λk ae=>.inl ae
  rw[eB cr];by_cases ea:d.k=4;·rw[fu ea];refine abR (by simpa using ay) λi aa ab=>?_;simp only[g7];have:=h i (by simpa using aa) (by simpa using ab);exact⟨this.bj,this.SQ⟩
  rw[eB ea];by_cases lY:d.k=6/\d.hi=0;·rw[fu lY.1,fu lY.2];exact λk ae=>.inl ae
  ·have e:(decide (d.k=6)&&decide (d.hi=0))=false:=by rw[<-Bool.decide_and];exact eB lY
   rw[e];exact Sh
 ·show yj pl F d xs=true->yj pl F d ys=true\/rQ=true;intro az;obtain⟨x,ad,az⟩:=wK.1 az;obtain⟨q,aP,rfl⟩:=j9 ad;have aW:=h q aP (by omega);rcases aou az with aa | aa
  ·refine .inl (wK.2 ⟨_,bx (show q<ys.length by omega),?_⟩);rw[<-aW.bj,aa,L5]
  ·rcases aW.e5 aa with ab | ab
   ·exact .inl (wK.2 ⟨_,bx (show q<ys.length by omega),by rw[ab,D7]⟩)
   ·exact .inr ab
def wP.rfl'{a:Nat}(x:vm):wP a ly rQ x x:=⟨rfl,λk ae=>.inl ae,λh=>.inl h⟩
def aqo{a:Nat}{b:vm}{d:an}(ak:d.k=3)(HS:((ev d.t pl).getD 0).toNat=a)(aqp:F.getD a bY=b.1.1):wP a b.1.2 b.2 b (lG pl F d []):=by
 unfold lG qG;have aG:gP d ((([]:List vm).map (·.1)).map (·.1)++bif decide (d.k=3)then [F.getD ((ev d.t pl).getD 0).toNat bY]else [])=b.1.1:=by rw[fu ak,ca,HS,aqp];unfold gP;simp[ak]
 refine⟨aG.symm,λk ae=>.inr ⟨?_,ae⟩,λh=>.inr h⟩;show a∈kb pl d _;rw[kb,fu ak,ca,HS];exact .head _
def acY{pl:List (ByteArray×Int)}{F:List aU}{a:Nat}{ly:List Nat}{rQ:Bool}{X S:a1}(kJ:wP a ly rQ (X.fold (lG pl F)) (S.fold (lG pl F))):∀ (p:List Int) (T:a1),T.go p=some S->wP a ly rQ ((T.put p X).fold (lG pl F)) (T.fold (lG pl F))
 |[],T,h=>by rw[a1.go]at h;cases h;exact kJ
 |i::p,.mk d ks,h=>by
  rw[a1.go]at h;split at h
  ·rename_i hi;have hi:0<=i/\i<(ks.length:Int):=hi;obtain⟨q,rfl⟩:=eA hi.1;have aP:q<ks.length:=by omega
   have aN:=acY kJ p _ h;rw[a1.put];show wP a ly rQ ((a1.mk d (ks.set q ((ks.getD q (.mk d ks)).put p X))).fold _) _;rw[a1.fold_eq,a1.fold_eq];refine aqn d (by simp) λj aa ab=>?_;rw[g7,g7,OF];split
   ·rename_i e;subst e;have a7:(a1.mk d ks).sub.getD ((q:Int)).toNat (.mk d ks)=ks[q]:=by show ks.getD q _=_;simp[bz,aP]
    rw[a7]at aN;have cr:ks.getD q (.mk d ks)=ks[q]:=by simp[bz,aP]
    rw[cr];exact aN
   ·exact wP.rfl' _
  ·cases h
inductive qX:a1->Prop
 |mk{d:an}{ks:List a1}:(d.k=4\/d.k=5->∀ c∈ks,c.d.k≠d.k/\¬ (c.d.k=0/\d.k=4))->(∀ c∈ks,qX c)->qX (.mk d ks)
def qX.inv{d:an}{ks:List a1}(h:qX (.mk d ks)):(d.k=4\/d.k=5->∀ c∈ks,c.d.k≠d.k/\¬ (c.d.k=0/\d.k=4))/\∀ c∈ks,qX c:=by
 cases h with
 |mk aa ab=>exact⟨aa,ab⟩
inductive wV:a1->Prop
 |mk{d:an}{ks:List a1}:(d.k=4->∀ c∈ks,c.d.k≠0)->(∀ c∈ks,wV c)->wV (.mk d ks)
def wV.inv{d:an}{ks:List a1}(h:wV (.mk d ks)):(d.k=4->∀ c∈ks,c.d.k≠0)/\∀ c∈ks,wV c:=by
 cases h with
 |mk aa ab=>exact⟨aa,ab⟩
def aqq{d:an}{x:a1}(h:ki d x=true)(aJ:d.k=4):x.d.k≠0:=by unfold ki at h;intro az;rw[fu aJ,fu az]at h;cases h
def aqr{d:an}{xs:List a1}(ad:∀ x∈xs,wV x):wV (nP d xs):=by
 rw[I2];split
 ·have ar:∀ y∈xs.filter (ki d),wV y/\(d.k=4->y.d.k≠0):=λy aE=>⟨ad y (iX.1 aE).1,aqq (iX.1 aE).2⟩;generalize xs.filter (ki d)=bj at ar
  match bj,ar with
  |[],_=>exact .mk (λ_ c ap=>by cases ap) λc ap=>by cases ap
  |[y],ar=>exact(ar y (.head _)).1| I4::I5::l,ar=>exact .mk (λaJ c ap=>(ar c ap).2 aJ) λc ap=>(ar c ap).1
 ·rename_i gu;exact .mk (λaJ=>absurd (.inl aJ) gu) ad
def aqs:∀ (T:a1),wV (T.fold nP):=by
 intro T
 induction T using a1.ind with
 |h d ks aN=>rw[a1.fold_eq];refine aqr λx ad=>?_;obtain⟨c,ap,rfl⟩:=cC.1 ad;exact aN c ap
def aqt:∀ {T:a1},wV T->qX T.bq/\∀ cO,∀ U∈T.fV cO,qX U/\some U.d.k≠cO/\(cO=some 4->T.d.k≠0->U.d.k≠0):=by
 intro T
 induction T using a1.ind with
 |h d ks aN=>
  intro h;obtain⟨az,ae⟩:=h.inv;have od:qX (a1.mk d ks).bq:=by
   show qX (.mk d (ks.flatMap (a1.fV (iE d))));refine .mk (λgu U ed=>?_) λU ed=>?_;·obtain⟨c,ap,ed⟩:=hy.1 ed;have e:iE d=some d.k:=bQ gu;rw[e]at ed;obtain⟨-,ab,ak⟩:=(aN c ap (ae c ap)).2 _ U ed;exact⟨λe=>ab (by rw[e]),λe=>ak (by rw[e.2]) (az e.2 c ap) e.1⟩
   ·obtain⟨c,ap,ed⟩:=hy.1 ed;exact((aN c ap (ae c ap)).2 _ U ed).1
  refine⟨od,λcO U ed=>?_⟩;rw[a1.qT]at ed;split at ed;·rename_i e;obtain⟨c,ap,ed⟩:=hy.1 ed;obtain⟨aa,ab,ak⟩:=(aN c ap (ae c ap)).2 _ U ed;refine⟨aa,ab,λea bn=>ak ea (az ?_ c ap)⟩;rw[ea]at e;exact fw e
  ·rename_i e;rw[ek.1 ed];exact⟨od,e,λ_ bn=>bn⟩
def aqu(T:a1):qX T.jF:=(aqt (aqs T)).1
def aqv{ns:List an}{j:Int}(h:j∈eO ns):∃ p,∃ aC:p<ns.length,j∈ns[p].ax:=by unfold eO at h;obtain⟨d,aj,ai⟩:=hy.1 h;obtain⟨p,aC,rfl⟩:=j9 aj;exact⟨p,aC,ai⟩
def hP.down(h:hP t){P:Nat->Prop}(az:∀ r:Nat,t.bA=(r:Int)->P r)(step:∀ p (aC:p<t.ns.length),P p->∀ j:Nat,(j:Int)∈t.ns[p].ax->P j):∀ m j,j<t.ns.length->t.ns.length-j<=m->P j
 |0,j,ai,hm=>absurd hm (by omega)
 |m+1,j,ai,hm=>by
  by_cases e:(j:Int)=t.bA;·exact az j e.symm
  ·obtain⟨p,aC,vo⟩:=aqv ((h.all j ai).2 e);have:=h.ax p aC _ vo;exact step p aC (h.down az step m p aC (by omega)) j vo
def wW(af:right t=true){j:Nat}(ai:j<t.ns.length):gk t.ns j=.mk t.ns[j].bare (t.ns[j].ax.map (gk t.ns)):=
 Dz (λd g dJ h=>by rw[gM h]) af ai
def acZ(af:right t=true){j:Int}(az:0<=j)(aa:j<t.ns.length):(gk t.ns j).d.k=iB t.ns j:=by
 obtain⟨q,rfl⟩:=eA az;have aP:q<t.ns.length:=by omega
 rw[wW af aP];show t.ns[q].k=_;simp[iB,bz,aP]
def Ts{ns:List an}{kind:Int}:∀ {ks:List Int},kz ns kind ks=true ↔ ∀ k∈ks,iB ns k≠kind/\¬ (iB ns k=0/\kind=4)
 |[]=>by simp[kz]
 |k::ks=>by
  have aN:=Ts (ns:=ns) (kind:=kind) (ks:=ks);rw[kz];constructor
  ·intro h;cases ag:decide (iB ns k=kind)||(decide (iB ns k=0)&&decide (kind=4))with
   |true=>rw[ag]at h;cases h
   |false=>
    rw[ag]at h;intro x ad;rcases ee.1 ad with rfl | ad;·simp only[sq,Bool.and_eq_false_iff,sb]at ag;exact⟨ag.1,λe=>ag.2.elim (λh=>h e.1) λh=>h e.2⟩
    ·exact aN.1 h x ad
  ·intro h;have aa:=h k (.head _);have ag:(decide (iB ns k=kind)||(decide (iB ns k=0)&&decide (kind=4)))=false:=by rw[eB aa.1,ur,<-Bool.decide_and];exact eB aa.2
   rw[ag];exact aN.2 λx ad=>h x (.tail _ ad)
def ac0{ns:List an}:∀ {l:List an},kY ns l=true ↔ ∀ d∈l,d.k=4\/d.k=5->∀ k∈d.ax,iB ns k≠d.k/\¬ (iB ns k=0/\d.k=4)
 |[]=>by simp[kY]
 |d::l=>by
  have aN:=ac0 (ns:=ns) (l:=l);rw[kY];by_cases gu:d.k=4\/d.k=5
  ·have ag:(!decide (d.k=4) && !decide (d.k=5))=false:=by
    rcases gu with e | e<;>simp[e]
   rw[ag,b'];constructor
   ·intro h;cases ae:kz ns d.k d.ax with
    |false=>rw[ae]at h;cases h
    |true=>
     rw[ae]at h;intro x ad;rcases ee.1 ad with rfl | ad;·exact λ_=>Ts.1 ae
     ·exact aN.1 h x ad
   ·intro h;rw[Ts.2 (h d (.head _) gu)];exact aN.2 λx ad=>h x (.tail _ ad)
  ·have ag:(!decide (d.k=4) && !decide (d.k=5))=true:=by rw[eB λe=>gu (.inl e),eB λe=>gu (.inr e)];rfl
   rw[ag,ca,aN];constructor
   ·intro h x ad;rcases ee.1 ad with rfl | ad
    ·exact λe=>absurd e gu
    ·exact h x ad
   ·exact λh x ad=>h x (.tail _ ad)
def Tt:normal t=true ↔ right t=true/\qX (cw t):=by
 unfold normal;rw[cB];refine and_congr_right λaf=>?_;have aW:=oZ.1 af;rw[ac0];constructor
 ·intro h;have key:∀ m j,j<m->j<t.ns.length->qX (gk t.ns j):=by
   intro m
   induction m with
   |zero=>exact λj h=>absurd h (nM _)
   |succ m aN=>
    intro j aaR ai;rw[wW af ai];refine .mk (λgu c ap=>?_) λc ap=>?_;·obtain⟨k,ae,rfl⟩:=cC.1 ap;have fc:=aW.ax j ai k ae;rw[acZ af fc.1 (by omega)];exact h _ (bx ai) gu k ae
    ·obtain⟨k,ae,rfl⟩:=cC.1 ap;have fc:=aW.ax j ai k ae;obtain⟨q,rfl⟩:=eA fc.1;exact aN q (by omega) (by omega)
  obtain⟨k5,iO⟩:=aW.bA;obtain⟨r,fz⟩:=eA k5;unfold cw;rw[fz];exact key _ r (AR _) (by omega)
 ·intro h;have key:∀ j,j<t.ns.length->qX (gk t.ns j):=λj ai=>aW.down (P:=λj=>qX (gk t.ns j)) (λr fz=>by rw[<-fz];exact h) (λp aC oY j vo=>by rw[wW af aC]at oY;exact oY.inv.2 _ (IM vo)) _ j ai (cc _);intro d aj gu k ae;obtain⟨j,ai,rfl⟩:=j9 aj;have aa:=key j ai;rw[wW af ai]at aa;have ab:=aa.inv.1 gu _ (IM ae);have fc:=aW.ax j ai k ae;rw[acZ af fc.1 (by omega)]at ab;exact ab
inductive iT(P:an->Prop):a1->Prop
 |mk{d:an}{ks:List a1}:P d->(∀ c∈ks,iT P c)->iT P (.mk d ks)
def iT.inv{P:an->Prop}{d:an}{ks:List a1}(h:iT P (.mk d ks)):P d/\∀ c∈ks,iT P c:=by
 cases h with
 |mk aa ab=>exact⟨aa,ab⟩
section
variable{P:an->Prop}
def MZ(af:right t=true):iT P (cw t) ↔ ∀ d∈t.ns,P d.bare:=by
 have aW:=oZ.1 af;constructor
 ·intro h d aj;obtain⟨j,ai,rfl⟩:=j9 aj;have aa:=aW.down (P:=λj=>iT P (gk t.ns j)) (λr fz=>by rw[<-fz];exact h) (λp aC oY j vo=>by rw[wW af aC]at oY;exact oY.inv.2 _ (IM vo)) _ j ai (cc _);rw[wW af ai]at aa;exact aa.inv.1
 ·intro h;have key:∀ m j,j<m->j<t.ns.length->iT P (gk t.ns j):=by
   intro m
   induction m with
   |zero=>exact λj h=>absurd h (nM _)
   |succ m aN=>intro j aaR ai;rw[wW af ai];refine .mk (h _ (bx ai)) λc ap=>?_;obtain⟨k,ae,rfl⟩:=cC.1 ap;have fc:=aW.ax j ai k ae;obtain⟨q,rfl⟩:=eA fc.1;exact aN q (by omega) (by omega)
  obtain⟨k5,iO⟩:=aW.bA;obtain⟨r,fz⟩:=eA k5;unfold cw;rw[fz];exact key _ r (AR _) (by omega)
def aqw(ag:∀ d,P d->P d.bare)(az:P (nothing 0).bare)(aa:P (nothing 1).bare):∀ {T:a1},iT P T->iT P (T.fold nP):=by
 intro T
 induction T using a1.ind with
 |h d ks aN=>
  intro h;obtain⟨aj,ae⟩:=h.inv;rw[a1.fold_eq,I2];have ad:∀ x∈ks.map (a1.fold nP),iT P x:=λx ad=>by obtain⟨c,ap,rfl⟩:=cC.1 ad;exact aN c ap (ae c ap)
  split
  ·rename_i gu;have ar:∀ y∈(ks.map (a1.fold nP)).filter (ki d),iT P y:=λy aE=>ad y (iX.1 aE).1;generalize(ks.map (a1.fold nP)).filter (ki d)=bj at ar
   match bj,ar with
   |[],_=>
    refine .mk ?_ λc ap=>by cases ap
    rcases gu with e | e;·rw[show d.k-4=0 by omega];exact az
    ·rw[show d.k-4=1 by omega];exact aa
   |[y],ar=>exact ar y (.head _)| I4::I5::l,ar=>exact .mk (ag _ aj) ar
  ·exact .mk (ag _ aj) ad
def aqx:∀ {T:a1},iT P T->(∀ cO,∀ U∈T.fV cO,iT P U)/\iT P T.bq:=by
 intro T
 induction T using a1.ind with
 |h d ks aN=>
  intro h;obtain⟨aA,ae⟩:=h.inv;have od:iT P (a1.mk d ks).bq:=by show iT P (.mk d (ks.flatMap (a1.fV (iE d))));refine .mk aA λU ed=>?_;obtain⟨c,ap,ed⟩:=hy.1 ed;exact(aN c ap (ae c ap)).1 _ U ed
  refine⟨λcO U ed=>?_,od⟩;rw[a1.qT]at ed;split at ed;·obtain⟨c,ap,ed⟩:=hy.1 ed;exact(aN c ap (ae c ap)).1 _ U ed
  ·rw[ek.1 ed];exact od
def aqy(ag:∀ d,P d->P d.bare)(az:P (nothing 0).bare)(aa:P (nothing 1).bare){T:a1}(h:iT P T):iT P T.jF:=(aqx (aqw ag az aa h)).2
def ac1{X:a1}(kJ:iT P X):∀ (p:List Int) {T:a1},iT P T->iT P (T.put p X)
 |[],T,h=>kJ
 |i::p,.mk d ks,h=>by
  obtain⟨aj,ae⟩:=h.inv;rw[a1.put];show iT P (a1.mk d (ks.set i.toNat ((ks.getD i.toNat (.mk d ks)).put p X)));refine .mk aj λc ap=>?_;rcases Ae ap with ap | rfl;·exact ae c ap
  ·refine ac1 kJ p ?_;rw[bz];cases e:ks[i.toNat]? with
   |none=>exact h| some c=>exact ae c (rc e)
end
def M2(nm:ByteArray):∀ (ds ds':List aQ) (i:Nat),ds.map aQ.name=ds'.map aQ.name->ct nm ds i=ct nm ds' i
 |[],[],_,_=>rfl| [],_::_,_,h=>by simp at h
 |_::_,[],_,h=>by simp at h
 |d::ds,ig::ds',i,h=>by rw[cb,cb,xz]at h;rw[ct,ct,h.1,M2 nm ds ds' _ h.2]
def CP(ds:List aQ)(d:an):Prop:=d.k=3->0<=ct d.t ds 0
def aqz{g:cx}(fM:g.ds.length=g.n)(hm:dm aw g=0)(hu:u<g.ds.length){y:bR}(aE:normal y=true)(aB:∀ d∈y.ns,CP g.ds d){h:cx}(nQ:h.n=g.n)(ap:h.ds.map aQ.a4=(eS g.ds u y).map aQ.a4) :
  dm aw h=0\/dm aw h=40:=by
 have aG:dm aw h=dm aw (nN (eS g.ds u y)):=by rw[<-zJ,<-zJ aw (nN _)];congr 1;unfold cx.a4 nN;rw[ap,nQ,yA,fM]
 rw[aG];obtain⟨aa,ab,ak,aJ,bB⟩:=E6.1 hm;have ay:=yA g.ds u y;have h9:=acV g.ds u y;have e6:∀ d∈eS g.ds u y,d∈g.ds\/d=⟨g.ds[u].name,y⟩:=λd aj=>by
  obtain⟨i,hi,rfl⟩:=j9 aj;by_cases e:i=u;·subst e;have ak:=CO (y:=y) hu;rw[da hi]at ak;exact .inr (fw ak)
  ·have ak:=Fh (ds:=g.ds) (y:=y) e;rw[da hi,da (by omega)]at ak;rw[fw ak];exact .inl (bx _)
 have bu:=fx.1 ab;have M3:nF (eS g.ds u y)=true:=fx.2 λd aj=>by
  rcases e6 d aj with h | rfl;·exact bu d h
  ·have:=bu _ (bx hu);rw[cB]at this |-;exact⟨this.1,aE⟩
 have fX:(List.range (eS g.ds u y).length).all (m7 (eS g.ds u y))=true:=fx.2 λi hi=>by
  rw[g',ay]at hi;have b5:=aJ i hi;unfold m7 at b5 |-;have a7:((eS g.ds u y)[i]'(by omega)).name=g.ds[i].name:=by
   have dZ:((eS g.ds u y).map aQ.name)[i]?=(g.ds.map aQ.name)[i]?:=by rw[h9]
   rw[iG,iG,da (by omega),da hi]at dZ;exact fw dZ
  rw[da hi]at b5;rw[da (by omega)];show decide (ct ((eS g.ds u y)[i]'(by omega)).name _ 0=_)=true;rw[a7,M2 _ _ _ _ h9];exact b5
 have wT:((eS g.ds u y).all λd=>d.t.ns.all (yg (eS g.ds u y)))=true:=fx.2 λd aj=>fx.2 λn Bi=>by
  unfold yg;rw[M2 _ _ _ _ h9];have:CP g.ds n:=by
   rcases e6 d aj with h | rfl;·exact bB d h n Bi
   ·exact aB n Bi
  by_cases e:n.k=3;·rw[fu (this e),D7]
  ·rw[eB e];rfl
 rw[<-Se];unfold Ir;have aqA:nF (nN (eS g.ds u y)).ds=true:=M3;have aqB:(List.range (nN (eS g.ds u y)).ds.length).all (m7 (nN (eS g.ds u y)).ds)=true:=fX;have aqC:((nN (eS g.ds u y)).ds.all λd=>d.t.ns.all (yg (nN (eS g.ds u y)).ds))=true:=wT;rw[aqA,aqB,aqC,eB (by show ¬ (((eS g.ds u y).length:Nat):Int)=0;omega)];cases oN aw (nN (eS g.ds u y))with
 |true=>exact .inr rfl| false=>exact .inl rfl
def aqD(n b:Nat):Value:=.slice (some ⟨b,0,none⟩) n n
def aqE(n:Nat)(bK:List Nat):List Value:=bK.map (aqD n)++List.replicate (n-bK.length) (.slice none 0 0)
def hB(oD n:Nat)(bK:List Nat):aD:=⟨oD,.cells (aqE n bK).toArray 138 (0,0)⟩
end Go.V
