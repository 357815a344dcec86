/- Part 8 of what the proofs of this seat share: the executor, data in memory, walks.
-/
import Derived.Test.YtmncamccjfmbpaaGreatDoorK7
import Derived.Test.YtmncamccjfmbpaaGreatDoorK5
import Derived.Test.YtmncamccjfmbpaaGreatDoorK2
import Derived.Test.YtmncamccjfmbpaaGreatDoorK4
set_option linter.all false
set_option maxHeartbeats 8000000
set_option maxRecDepth 100000
namespace Go.V
open Go
def s7:=@List.map_singleton
def CZ:=@List.flatMap_assoc
def Fx:=@List.mem_map_of_mem
def M2:=@List.perm_ext_iff_of_nodup
def Tt:=@List.count_eq_zero_of_not_mem
def Tu:=@List.append_cancel_left
def M3:=@List.Sublist.refl
def Tv:=@List.Perm.append_left
def acw:=@List.eq_nil_iff_forall_not_mem
def Fy:=@List.map_id
def M4:=@List.any_cons
def Tw:=@List.map_reverse
variable{pl:List (ByteArray×Int)}{F dm:List aW}{jn dO ds':List ao}{i n e c' c cR u:Nat}{l bj p2 ly:List Nat}{α:Type}{K:dA->aJ->List aD->Prop}{s:Operand}{t:bS}{c7 aF:dG}{xs b8:List Value}{aS:Addr}{Mr M:List aD}{r:Int}{I J:aJ}{a:Option Addr}{ks ax:List Int}{os:aY}{r1:Bool}
structure Tx{α:Type}(F:ao->List α->α):Prop where
 aw:∀ d l,F (d.eB l)=F d
 one:∀ d x,d.k=4\/d.k=5->F d [x]=x
 nest:∀ d gM xs ys e1,d.k=4\/d.k=5->gM.k=d.k->F d (xs++F gM ys::e1)=F d (xs++(ys++e1))
 drop:∀ d gM xs e1,d.k=4->gM.k=0->F d (xs++F gM []::e1)=F d (xs++e1)
 ao2:∀ d gM,d.k=4->gM.k=0->F d []=F gM []
 ao3:∀ d gM,d.k=5->gM.k=1->gM.cx=0->gM.s1=0->gM.s2=0->gM.c1=0->F d []=F gM []
def Jc(xs ys:List (aW×List Nat)):jQ (xs++ys)=jQ xs++bif xs.all (·.1.z)then jQ ys else []:=by
 induction xs with
 |nil=>rfl
 |cons x xs aL=>
  rw[m4,jQ,jQ,aL,xr];cases x.1.z<;>simp
def ao4(ks:List aW)(aZ:aW×Bool):(ks.foldl k1 aZ).1.z=(aZ.1.z&&ks.all (·.z)):=by
 induction ks generalizing aZ with
 |nil=>simp| cons k ks aL=>rw[js,aL,xr];simp[k1,Bool.and_assoc]
def acx(ks:List aW)(aZ:aW×Bool):(ks.foldl k1 aZ).1.s=(aZ.1.s||ks.any (·.s)):=by
 induction ks generalizing aZ with
 |nil=>simp| cons k ks aL=>rw[js,aL,M4];simp[k1,Bool.or_assoc]
def Jd(ks:List aW)(aZ:aW×Bool):(ks.foldl k1 aZ).2=(aZ.2&&ks.all (·.kD)):=by
 induction ks generalizing aZ with
 |nil=>simp| cons k ks aL=>rw[js,aL,xr];simp[k1,Bool.and_assoc]
def ao5(ks:List aW):∀ aZ:aW×Bool,(ks.foldl k1 aZ).1.f=(aZ.1.f||(aZ.2&&(hE ks).1.f)):=by
 unfold hE
 induction ks with
 |nil=>intro aZ;simp
 |cons k ks aL=>
  intro aZ;rw[js,js,aL,aL (k1 _ k)];simp only[k1];cases aZ.1.f<;>cases aZ.2<;>cases k.f<;>cases k.kD<;>simp
def Je(ks:List aW):(hF ks).z=ks.all (·.z):=by show(hE ks).1.z=_;unfold hE;rw[ao4,n2]
def Ty(ks:List aW):(hF ks).kD=ks.all (·.kD):=by
 have aa:=Je ks;have ab:(hF ks).s=(ks.any (·.s)&&ks.all (·.kD)):=by show((hE ks).1.s&&(hE ks).2)=_;unfold hE;rw[acx,Jd,uF,n2]
 have aj:(hF ks).kD=((hF ks).z||(hF ks).s):=rfl;rw[aj,aa,ab];clear aa ab aj
 induction ks with
 |nil=>rfl
 |cons k ks aL=>
  rw[xr,M4,xr];have h:k.kD=(k.z||k.s):=rfl;rw[h,<-aL];cases k.z<;>cases k.s<;>cases ks.all (·.z)<;>cases ks.any (·.s)<;>simp_all
def acy(xs ys e1:List aW):hF (xs++hF ys::e1)=hF (xs++(ys++e1)):=by
 have bb:(hF (xs++hF ys::e1)).z=(hF (xs++(ys++e1))).z:=by rw[Je,Je];simp[Je]
 have hu:(hE (xs++hF ys::e1)).2=(hE (xs++(ys++e1))).2:=by unfold hE;rw[Jd,Jd];simp[Ty]
 have aA:(hF (xs++hF ys::e1)).f=(hF (xs++(ys++e1))).f:=by
  show(hE _).1.f=(hE _).1.f;have e:∀ a b:List aW,(hE (a++b)).1.f=((hE a).1.f||((hE a).2&&(hE b).1.f)):=by intro a b;show((a++b).foldl k1 (⟨true,false,false⟩,true)).1.f=_;rw[rO,ao5];rfl
  have aG:∀ (y:aW) (b:List aW),(hE (y::b)).1.f=(y.f||(y.kD&&(hE b).1.f)):=by intro y b;have:=e [y] b;rw[rW]at this;rw[this];show((false||(true&&y.f))||((true&&y.kD)&&_))=_;rw[uF,n2,n2]
  rw[e,e xs,aG,e ys,Ty];have a7:(hE ys).2=ys.all (·.kD):=by unfold hE;rw[Jd,n2]
  rw[a7];rfl
 have ar:(hF (xs++hF ys::e1)).s=(hF (xs++(ys++e1))).s:=by
  have aa:∀ ks,(hF ks).s=(ks.any (·.s)&&ks.all (·.kD)):=by intro ks;show((hE ks).1.s&&(hE ks).2)=_;unfold hE;rw[acx,Jd,uF,n2]
  rw[aa,aa];simp only[List.any_append,M4,GW,xr,Ty,aa];cases xs.any (·.s)<;>cases ys.any (·.s)<;>cases e1.any (·.s)<;>cases xs.all (·.kD)<;>cases ys.all (·.kD)<;>cases e1.all (·.kD)<;>rfl
 cases a4:hF (xs++hF ys::e1);cases ag:hF (xs++(ys++e1));rw[a4,ag]at bb aA ar;simp only at bb aA ar;rw[bb,aA,ar]
def ao6(ks:List aW):∀ f:aW,ks.foldl oX f=oX f (qJ ks):=by
 unfold qJ
 induction ks with
 |nil=>intro f;simp[oX]
 |cons k ks aL=>
  intro f;rw[js,js,aL,aL (oX _ k)];simp only[oX,aW.mk.injEq];refine⟨?_,?_,?_⟩<;>cases f.z<;>cases f.s<;>cases f.f<;>cases k.z<;>cases k.s<;>cases k.f<;>simp
def ao7(xs ys e1:List aW):qJ (xs++qJ ys::e1)=qJ (xs++(ys++e1)):=by show(xs++qJ ys::e1).foldl oX _=(xs++(ys++e1)).foldl oX _;rw[rO,rO,rO,js,<-ao6 ys]
def ao8(x:aW):hF [x]=x:=by cases x with | mk z s f=>cases z<;>cases s<;>cases f<;>rfl
def ao9(x:aW):qJ [x]=x:=by cases x with | mk z s f=>cases z<;>cases s<;>cases f<;>rfl
def apa{d:ao}(h:d.k=4)(ks:List aW):gT d ks=hF ks:=by unfold gT;simp[h]
def apb{d:ao}(h:d.k=5)(ks:List aW):gT d ks=qJ ks:=by unfold gT;simp[h]
def C0{d:ao}(h:d.k=4)(xs:List vw):lG pl F d xs=((hF (xs.map (·.1.1)),jQ (xs.map (·.1))),xs.any (·.2)):=by unfold lG qN kc yD;simp only[apa h,h,gA];simp;rfl
def Jf{d:ao}(h:d.k=5)(xs:List vw):lG pl F d xs=((qJ (xs.map (·.1.1)),(xs.map (·.1)).flatMap (·.2)),xs.any (·.2)):=by unfold lG qN kc yD;simp only[apb h,h,gA];simp;rfl
def acz{d:ao}(h:d.k=0):lG pl F d []=((⟨true,false,false⟩,[]),false):=by unfold lG qN kc yD gT;simp[h]
def apc{d:ao}(h:d.k=1)(az:d.rC=true):lG pl F d []=((⟨false,false,true⟩,[]),false):=by unfold lG qN kc yD gT;simp[h,az]
def apd(pl:List (ByteArray×Int))(F:List aW):Tx (lG pl F):=by
 refine⟨λd l=>rfl,?_,?_,?_,?_,?_⟩
 ·rintro d x (h | h)
  ·rw[C0 h];simp[ao8,jQ]
  ·rw[Jf h];simp[ao9]
 ·rintro d gM xs ys e1 (h | h) bc
  ·rw[h]at bc;rw[C0 h,C0 h,C0 bc];have e:(xs++((hF (ys.map (·.1.1)),jQ (ys.map (·.1))),ys.any (·.2))::e1).map (·.1.1)=xs.map (·.1.1)++hF (ys.map (·.1.1))::e1.map (·.1.1):=by simp
   rw[e,acy];have a7:jQ ((xs++((hF (ys.map (·.1.1)),jQ (ys.map (·.1))),ys.any (·.2))::e1).map (·.1))=jQ ((xs++(ys++e1)).map (·.1)):=by rw[cM,b0,cM,cM,Jc,Jc (xs.map _),Jc (ys.map _),jQ];rw[Je];simp only[Ls];rfl
   rw[a7];simp
  ·rw[h]at bc;rw[Jf h,Jf h,Jf bc];have e:(xs++((qJ (ys.map (·.1.1)),(ys.map (·.1)).flatMap (·.2)),ys.any (·.2))::e1).map (·.1.1)=xs.map (·.1.1)++qJ (ys.map (·.1.1))::e1.map (·.1.1):=by simp
   rw[e,ao7];simp
 ·rintro d gM xs e1 h bc;rw[C0 h,C0 h,acz bc];have e:(xs++((⟨true,false,false⟩,[]),false)::e1:List vw).map (·.1.1)=xs.map (·.1.1)++hF []::e1.map (·.1.1):=by simp;rfl
  rw[e,acy];have a7:jQ ((xs++((⟨true,false,false⟩,[]),false)::e1:List vw).map (·.1))=jQ ((xs++e1).map (·.1)):=by rw[cM,b0,cM,Jc,Jc,jQ];rfl
  rw[a7];simp
 ·rintro d gM h bc;rw[C0 h,acz bc];rfl
 ·rintro d gM h bc az aa ab aj;rw[Jf h,apc bc (by unfold ao.rC;simp[az,aa,ab,aj])];rfl
open Go Go.Proofs
inductive aK where
 |mk:Nat->List aK->aK
namespace aK
def bh:aK->Nat
 |mk k _=>k
def sub:aK->List aK
 |mk _ ks=>ks
mutual
def cE:aK->List Nat
 |mk k ks=>M5 ks++[k]
def M5:List aK->List Nat
 |[]=>[]| a::l=>cE a++M5 l
end
def acA:∀ l:List aK,M5 l=l.flatMap cE
 |[]=>rfl| a::l=>by rw[M5,acA l];rfl
def kJ(k:Nat)(ks:List aK):cE (mk k ks)=ks.flatMap cE++[k]:=by rw[cE,acA]
def ind{P:aK->Prop}(h:∀ k ks,(∀ c∈ks,P c)->P (mk k ks)):∀ T,P T
 |mk k ks=>h k ks (λc an=>ind h c)
def Fz:∀ T:aK,T.bh∈T.cE
 |mk k ks=>by rw[kJ];exact qg _ (.head _)
end aK
inductive cq(ns:List ao):aK->Prop
 |mk {k:Nat} {ks:List aK}:k<ns.length->(nodeAt ns k).aw=ks.map (λc=>(c.bh:Int))->(∀ c∈ks,cq ns c)->cq ns (.mk k ks)
def sc(ns:List ao):Prop:=∀ j (h:j<ns.length),∀ k∈ns[j].aw,0<=k/\k<j
def cq.inv{ns:List ao}{k:Nat}{ks:List aK}(h:cq ns (.mk k ks)):k<ns.length/\(nodeAt ns k).aw=ks.map (λc=>(c.bh:Int))/\∀ c∈ks,cq ns c:=by
 cases h with
 |mk aa ab aj=>exact⟨aa,ab,aj⟩
def cq.mJ{ns:List ao}:∀ {T:aK},cq ns T->T.bh<ns.length
 | .mk k ks,h=>h.inv.1
def sc.node{ns:List ao}(ae:sc ns){j:Nat}(ai:j<ns.length){k:Int}(h:k∈(nodeAt ns j).aw):0<=k/\k<j:=by rw[gm ai]at h;exact ae j ai k h
def Jg{α β:Type}{R:α->β->Prop}:∀ {l:List α},(∀ x∈l,∃ y,R x y)->∃ m:List β,m.length=l.length/\∀ i (h:i<l.length) (bc:i<m.length),R l[i] m[i]
 |[],_=>⟨[],rfl,λi h=>absurd h (nT _)⟩
 |x::l,h=>by
  obtain⟨y,aE⟩:=h x (.head _);obtain⟨m,hm,af⟩:=Jg λa a4=>h a (.tail _ a4);refine⟨y::m,by simp[hm],λi hi cZ=>?_⟩;cases i with
  |zero=>exact aE| succ i=>exact af i (by simpa using hi) (by simpa using cZ)
def cq.ex{ns:List ao}(ae:sc ns):∀ k,k<ns.length->∃ T:aK,T.bh=k/\cq ns T:=by
 intro k
 induction k using Nat.strongRecOn with
 |_ k aL=>
  intro ay;obtain⟨ks,aa,ab⟩:=Jg (R:=λ(x:Int) (T:aK)=>(T.bh:Int)=x/\cq ns T) (l:=(nodeAt ns k).aw) λx ad=>by obtain⟨az,aa⟩:=ae.node ay ad;obtain⟨T,bu,dJ⟩:=aL x.toNat (by omega) (by omega);exact⟨T,by omega,dJ⟩
  refine⟨.mk k ks,rfl,.mk ay ?_ λc an=>?_⟩;·refine mT (by simp[aa]) λi hi cZ=>?_;rw[f'];exact(ab i hi (by omega)).1.symm
  ·obtain⟨i,hi,rfl⟩:=ka an;exact(ab i (by omega) hi).2
def cq.ape{ns:List ao}:∀ {S:aK},cq ns S->∀ {T:aK},cq ns T->S.bh=T.bh->S=T:=by
 intro S
 induction S using aK.ind with
 |h k ks aL=>
  intro cO T bu e;cases T with
  |mk eZ C1=>
  obtain rfl:k=eZ:=e;obtain⟨-,ab,aj⟩:=cO.inv;obtain⟨-,oK,sR⟩:=bu.inv;rw[ab]at oK;have ay:ks.length=C1.length:=by simpa using congrArg List.length oK
  congr 1;refine mT ay λi hi cZ=>?_;have aI:(ks.map (λc=>(c.bh:Int)))[i]?=(C1.map (λc=>(c.bh:Int)))[i]?:=by rw[oK]
  rw[jH,jH,dg hi,dg cZ]at aI;have bB:(ks[i].bh:Int)=C1[i].bh:=fh aI;exact aL _ (br hi) (aj _ (br hi)) (sR _ (br cZ)) (by omega)
def cq.lt{ns:List ao}:∀ {T:aK},cq ns T->∀ x∈T.cE,x<ns.length:=by
 intro T
 induction T using aK.ind with
 |h k ks aL=>
  intro h x ad;obtain⟨aa,-,aj⟩:=h.inv;rw[aK.kJ]at ad;rcases cB.1 ad with ad | ad;·obtain⟨c,an,ad⟩:=hb.1 ad;exact aL c an (aj c an) x ad
  ·rw[ed.1 ad];exact aa
def cq.Tz{ns:List ao}(ae:sc ns){k:Nat}{ks:List aK}(h:cq ns (.mk k ks)){c:aK}(an:c∈ks):c.bh<k:=by
 obtain⟨aa,ab,aj⟩:=h.inv;have:(c.bh:Int)∈(nodeAt ns k).aw:=by rw[ab];exact cN.2 ⟨c,an,rfl⟩
 have:=ae.node aa this;omega
def cq.le{ns:List ao}(ae:sc ns):∀ {T:aK},cq ns T->∀ x∈T.cE,x<=T.bh:=by
 intro T
 induction T using aK.ind with
 |h k ks aL=>
  intro h x ad;obtain⟨aa,-,aj⟩:=h.inv;rw[aK.kJ]at ad;rcases cB.1 ad with ad | ad;·obtain⟨c,an,ad⟩:=hb.1 ad;have aI:=aL c an (aj c an) x ad;have bB:=h.Tz ae an;show x<=k;omega
  ·rw[ed.1 ad];exact ca _
def cq.congr{ns:List ao}:∀ {T:aK},cq ns T->(∀ x∈T.cE,x<jn.length/\(nodeAt jn x).aw=(nodeAt ns x).aw)->cq jn T:=by
 intro T
 induction T using aK.ind with
 |h k ks aL=>intro h ad;obtain⟨aa,ab,aj⟩:=h.inv;have ff:=ad k (aK.Fz (.mk k ks));refine .mk ff.1 (by rw[ff.2,ab]) λc an=>aL c an (aj c an) λx apf=>ad x ?_;rw[aK.kJ];exact hY _ (hb.2 ⟨c,an,apf⟩)
def acB{ns m:List ao}{k:Nat}(ae:k<ns.length):nodeAt (ns++m) k=nodeAt ns k:=by unfold nodeAt;rw[bA,bA,rj ae]
def FA{ns:List ao}{d:ao}:nodeAt (ns++[d]) ns.length=d:=by unfold nodeAt;rw[bA,m3 (ca _),pL];rfl
def cq.app{ns:List ao}{T:aK}(h:cq ns T)(m:List ao):cq (ns++m) T:=h.congr λx ad=>by have:=h.lt x ad;exact⟨by rw[ch];omega,by rw[acB this]⟩
def apg{ns:List ao}(ak:hR (eO ns)){j:Nat}(hi:i<ns.length)(ai:j<ns.length)(bt:i≠j){k:Int}(aa:k∈(nodeAt ns i).aw)(ab:k∈(nodeAt ns j).aw):False:=by
 rw[gm hi]at aa;rw[gm ai]at ab;have:=(HQ.1 ak).2;rw[QA]at this;rcases Nat.lt_or_gt_of_ne bt with h | h
 ·exact this i j hi ai h k aa k ab rfl
 ·exact this j i ai hi h k ab k aa rfl
def acC{ns:List ao}(ak:hR (eO ns)){j:Nat}(ai:j<ns.length):hR (nodeAt ns j).aw:=by rw[gm ai];exact(HQ.1 ak).1 _ (br ai)
def acD{α:Type}(f g:α->Nat):∀ l:List α,(l.map λx=>f x+g x).sum=(l.map f).sum+(l.map g).sum
 |[]=>rfl| a::l=>by simp only[b0,h4,acD f g l];omega
def acE{α β:Type}(g:β->Nat)(f:α->List β):∀ l:List α,((l.flatMap f).map g).sum=(l.map λa=>((f a).map g).sum).sum
 |[]=>rfl| a::l=>by rw[j6,cM,qv,acE g f l];rfl
def acF{α:Type}(x:Nat)(f:α->List Nat):∀ l:List α,(l.flatMap f).count x=(l.map λa=>(f a).count x).sum
 |[]=>rfl| a::l=>by rw[j6,List.count_append,acF x f l];rfl
def w5(ns:List ao)(x y:Nat):Nat:=(nodeAt ns y).aw.count (x:Int)
def acG(x:Nat):∀ ks:List aK,(ks.map (λc=>(c.bh:Int))).count (x:Int)=(ks.map λc=>if c.bh=x then 1 else 0).sum
 |[]=>rfl
 |c::ks=>by
  rw[b0,List.count_cons,acG x ks,b0,h4];by_cases e:c.bh=x;·subst e;simp;omega
  ·have:¬ ((c.bh:Int)=x):=by omega
   simp[e,this]
def cq.count{ns:List ao}(x:Nat):∀ {T:aK},cq ns T->T.cE.count x=(if T.bh=x then 1 else 0)+(T.cE.map (w5 ns x)).sum:=by
 intro T
 induction T using aK.ind with
 |h k ks aL=>
  intro h;obtain⟨aa,ab,aj⟩:=h.inv;have aG:(ks.map λc=>c.cE.count x)=ks.map λc=>(if c.bh=x then 1 else 0)+(c.cE.map (w5 ns x)).sum:=fR λc an=>aL c an (aj c an);have a7:w5 ns x k=(ks.map λc=>if c.bh=x then 1 else 0).sum:=by unfold w5;rw[ab,acG]
  rw[aK.kJ,List.count_append,acF,aG,acD,cM,qv,acE,s7,List.sum_singleton,a7,List.count_singleton];show _+(if k == x then 1 else 0)=(if k=x then 1 else 0)+_;by_cases e:k=x;·simp[e];omega
  ·simp[e];omega
def cq.count_le{ns:List ao}(ae:sc ns)(ak:hR (eO ns)){T:aK}(h:cq ns T):∀ (m x:Nat),ns.length-x<=m->T.cE.count x<=1
 |0,x,hm=>by
  have:x ∉ T.cE:=λad=>by have:=h.lt x ad;omega
  rw[Tt this];omega
 |m+1,x,hm=>by
  rw[h.count x];by_cases aC:∃ p∈T.cE,(x:Int)∈(nodeAt ns p).aw
  ·obtain⟨p,acH,x0⟩:=aC;have jz:=h.lt p acH;have avT:=h.le ae p acH;have avU:=ae.node jz x0;have e:T.cE.map (w5 ns x)=T.cE.map λy=>if y=p then 1 else 0:=fR λy aE=>by
    by_cases e:y=p;·subst e;rw[bN rfl];unfold w5;exact Nat.le_antisymm (List.nodup_iff_count.1 (acC ak jz) _) (List.count_pos_iff.2 x0)
    ·rw[bR e];unfold w5;exact Tt λtl=>apg ak (h.lt y aE) jz e tl x0
   have a7:∀ l:List Nat,(l.map λy=>if y=p then 1 else 0).sum=l.count p:=λl=>by
    induction l with
    |nil=>rfl
    |cons a l aL=>
     rw[b0,h4,aL,List.count_cons];by_cases e:a=p;·simp[e];omega
     ·simp[e]
   rw[e,a7,bR (by omega),c8];exact cq.count_le ae ak h m p (by omega)
  ·have e:(T.cE.map (w5 ns x)).sum=0:=by
    have:∀ l:List Nat,(∀ y∈l,(x:Int) ∉ (nodeAt ns y).aw)->(l.map (w5 ns x)).sum=0:=λl=>by
     induction l with
     |nil=>intro _;rfl| cons a l aL=>intro ay;rw[b0,h4,aL λy aE=>ay y (.tail _ aE)];unfold w5;rw[Tt (ay a (.head _))]
    exact this _ λy aE QI=>aC ⟨y,aE,QI⟩
   rw[e];split<;>omega
def cq.nodup{ns:List ao}(ae:sc ns)(ak:hR (eO ns)){T:aK}(h:cq ns T):T.cE.Nodup:=
 List.nodup_iff_count.2 λx=>h.count_le ae ak (ns.length-x) x (ca _)
def M6(h:l.Nodup)(ay:∀ x∈l,x<n):l.length<=n:=by have ab:=List.Nodup.length_le_of_subset h (l₂:=List.range n) λx ad=>g7.2 (ay x ad);rwa [wB]at ab
def FB{α β:Type}{f g:α->List β}:∀ {l:List α},(∀ c∈l,(f c).Sublist (g c))->(l.flatMap f).Sublist (l.flatMap g)
 |[],_=>.slnil| a::l,h=>by rw[j6,j6];exact(h a (.head _)).append (FB λc an=>h c (.tail _ an))
def hq(d:ao):Option Int:=if d.k=4\/d.k=5 then some d.k else none
namespace aK
section
variable(ns:List ao)
mutual
def pb(cw:Option Int):aK->List aK
 |mk k ks=>if some (nodeAt ns k).k=cw then M7 cw ks else [mk k ks]
def M7(cw:Option Int):List aK->List aK
 |[]=>[]| a::l=>pb cw a++M7 cw l
end
mutual
def fx(cw:Option Int):aK->List aK
 |mk k ks=>if some (nodeAt ns k).k=cw then vx cw ks else [mk k (vx (hq (nodeAt ns k)) ks)]
def vx(cw:Option Int):List aK->List aK
 |[]=>[]| a::l=>fx cw a++vx cw l
end
def acI(cw:Option Int):∀ l,M7 ns cw l=l.flatMap (pb ns cw)
 |[]=>rfl| a::l=>by rw[M7,acI cw l];rfl
def C2(cw:Option Int):∀ l,vx ns cw l=l.flatMap (fx ns cw)
 |[]=>rfl| a::l=>by rw[vx,C2 cw l];rfl
def parts(T:aK):List aK:=T.sub.flatMap (pb ns (hq (nodeAt ns T.bh)))
def bo:aK->aK
 |mk k ks=>mk k (ks.flatMap (fx ns (hq (nodeAt ns k))))
def yK(cw:Option Int)(k:Nat)(ks:List aK):pb ns cw (mk k ks)=if some (nodeAt ns k).k=cw then ks.flatMap (pb ns cw)else [mk k ks]:=by rw[pb,acI]
def p3(cw:Option Int)(k:Nat)(ks:List aK):fx ns cw (mk k ks)=if some (nodeAt ns k).k=cw then ks.flatMap (fx ns cw)else [bo ns (mk k ks)]:=by rw[fx,C2,C2];rfl
def acJ:∀ T,(bo ns T).bh=T.bh
 |mk k ks=>rfl
def aph(cw:Option Int):∀ T,(pb ns cw T).map (bo ns)=fx ns cw T:=by
 intro T
 induction T using aK.ind generalizing cw with
 |h k ks aL=>
  rw[yK,p3];split;·rw[Ay];exact r0 λc an=>aL c an cw
  ·rfl
def acK:∀ T,(bo ns T).sub=(parts ns T).map (bo ns)
 |mk k ks=>by show ks.flatMap _=(ks.flatMap _).map _;rw[Ay];exact r0 λc an=>(aph ns _ c).symm
def api(cw:Option Int):∀ T,((pb ns cw T).flatMap cE).Sublist T.cE:=by
 intro T
 induction T using aK.ind with
 |h k ks aL=>
  rw[yK,kJ];split;·rw[CZ];exact(FB λc an=>aL c an).trans (tK _ _)
  ·rw[pM,kJ];exact .refl _
def apj(cw:Option Int):∀ T,((fx ns cw T).flatMap cE).Sublist T.cE:=by
 intro T
 induction T using aK.ind generalizing cw with
 |h k ks aL=>
  rw[p3,kJ];split;·rw[CZ];exact(FB λc an=>aL c an cw).trans (tK _ _)
  ·rw[pM];show((mk k (ks.flatMap (fx ns _))).cE).Sublist _;rw[kJ,CZ];exact(FB λc an=>aL c an _).append (.refl _)
def apk:∀ T,((bo ns T).cE).Sublist T.cE
 |mk k ks=>by show((mk k (ks.flatMap (fx ns _))).cE).Sublist _;rw[kJ,kJ,CZ];exact(FB λc an=>apj ns _ c).append (.refl _)
def apl(cw:Option Int):∀ {T},cq jn T->∀ S∈pb ns cw T,cq jn S:=by
 intro T
 induction T using aK.ind with
 |h k ks aL=>
  intro h S cO;rw[yK]at cO;split at cO;·obtain⟨c,an,cO⟩:=hb.1 cO;exact aL c an (h.inv.2.2 c an) S cO
  ·rw[ed.1 cO];exact h
def acL{T:aK}(h:cq ns T):∀ S∈parts ns T,cq ns S:=by
 intro S cO;cases T with
 |mk k ks=>
 obtain⟨c,an,cO⟩:=hb.1 cO;exact apl ns _ (h.inv.2.2 c an) S cO
def apm:∀ {T},cq ns T->∀ cw,(∀ S,cq ns S->S.bh∈(fx ns cw T).flatMap cE->S.bh<jn.length/\(nodeAt jn S.bh).aw=(parts ns S).map λc=>(c.bh:Int))->∀ U∈fx ns cw T,cq jn U:=by
 intro T
 induction T using aK.ind with
 |h k ks aL=>
  intro h cw H U eb;rw[p3]at eb H;split at eb;·rename_i e;rw[bN e]at H;obtain⟨c,an,eb⟩:=hb.1 eb;refine aL c an (h.inv.2.2 c an) cw (λS cO hm=>H S cO ?_) U eb;rw[CZ];exact hb.2 ⟨c,an,hm⟩
  ·rename_i e;rw[bR e]at H;rw[ed.1 eb];have az:=H (mk k ks) h (by simp;exact Fz (bo ns (mk k ks)));have he:=acK ns (mk k ks);refine .mk az.1 ?_ λapn TA=>?_
   ·rw[show(aK.mk k ks).bh=k from rfl]at az;rw[az.2];show _=List.map _ (bo ns (mk k ks)).sub;rw[he,gA];exact fR λc an=>by simp[acJ]
   ·obtain⟨c,an,TA⟩:=hb.1 TA;refine aL c an (h.inv.2.2 c an) _ (λS cO hm=>H S cO ?_) apn TA;rw[pM];show S.bh∈(mk k (ks.flatMap (fx ns _))).cE;rw[kJ,CZ];exact hY _ (hb.2 ⟨c,an,hm⟩)
def apo{T:aK}(h:cq ns T)(H:∀ S,cq ns S->S.bh∈(bo ns T).cE->S.bh<jn.length/\(nodeAt jn S.bh).aw=(parts ns S).map λc=>(c.bh:Int)):cq jn (bo ns T):=by
 cases T with
 |mk k ks=>
 have e:fx ns none (mk k ks)=[bo ns (mk k ks)]:=by rw[p3,bR (by simp)]
 refine apm ns h none (λS cO hm=>H S cO ?_) _ (by rw[e];exact .head _);rw[e,pM]at hm;exact hm
end
end aK
inductive aQ where
 |mk:ao->List aQ->aQ
def ao.bare(d:ao):ao:=d.eB []
def ao.acM(d:ao):d.bare.k=d.k:=rfl
def acN(d:ao):hq d.bare=hq d:=rfl
namespace aQ
def d:aQ->ao
 |mk d _=>d
def sub:aQ->List aQ
 |mk _ ks=>ks
def ind{P:aQ->Prop}(h:∀ d ks,(∀ c∈ks,P c)->P (mk d ks)):∀ T,P T
 |mk d ks=>h d ks (λc an=>ind h c)
section
variable{α:Type}(F:ao->List α->α)
mutual
def fold:aQ->α
 |mk d ks=>F d (M8 ks)
def M8:List aQ->List α
 |[]=>[]| a::l=>fold a::M8 l
end
def acO:∀ l,M8 F l=l.map (fold F)
 |[]=>rfl| a::l=>by rw[M8,acO l];rfl
def fold_eq(d:ao)(ks:List aQ):fold F (mk d ks)=F d (ks.map (fold F)):=by rw[fold,acO]
end
mutual
def fx(cw:Option Int):aQ->List aQ
 |mk d ks=>if some d.k=cw then vx cw ks else [mk d (vx (hq d) ks)]
def vx(cw:Option Int):List aQ->List aQ
 |[]=>[]| a::l=>fx cw a++vx cw l
end
def C2(cw:Option Int):∀ l,vx cw l=l.flatMap (fx cw)
 |[]=>rfl| a::l=>by rw[vx,C2 cw l];rfl
def bo:aQ->aQ
 |mk d ks=>mk d (ks.flatMap (fx (hq d)))
def p3(cw:Option Int)(d:ao)(ks:List aQ):fx cw (mk d ks)=if some d.k=cw then ks.flatMap (fx cw)else [bo (mk d ks)]:=by rw[fx,C2,C2];rfl
end aQ
namespace aK
section
variable(ns:List ao)
mutual
def bare:aK->aQ
 |mk k ks=>.mk (nodeAt ns k).bare (M9 ks)
def M9:List aK->List aQ
 |[]=>[]| a::l=>bare a::M9 l
end
def acP:∀ l,M9 ns l=l.map (bare ns)
 |[]=>rfl| a::l=>by rw[M9,acP l];rfl
def mK(k:Nat)(ks:List aK):bare ns (mk k ks)=.mk (nodeAt ns k).bare (ks.map (bare ns)):=by rw[bare,acP]
def apq(cw:Option Int):∀ T,(fx ns cw T).map (bare ns)=(bare ns T).fx cw:=by
 intro T
 induction T using aK.ind generalizing cw with
 |h k ks aL=>
  rw[p3,mK,aQ.p3,ao.acM];split;·rw[Ay,Ax];exact r0 λc an=>aL c an cw
  ·show [bare ns (mk k (ks.flatMap (fx ns _)))]=[aQ.mk _ ((ks.map (bare ns)).flatMap (aQ.fx (hq (nodeAt ns k).bare)))];rw[mK,Ay,Ax,acN];congr 2;exact r0 λc an=>aL c an _
def apr:∀ T,bare ns (bo ns T)=(bare ns T).bo
 |mk k ks=>by show bare ns (mk k (ks.flatMap (fx ns _)))=_;rw[mK,mK];show _=aQ.mk _ ((ks.map (bare ns)).flatMap (aQ.fx (hq (nodeAt ns k).bare)));rw[Ay,Ax,acN];congr 1;exact r0 λc an=>apq ns _ c
def acQ:∀ T,(∀ x∈cE T,(nodeAt jn x).bare=(nodeAt ns x).bare)->bare jn T=bare ns T:=by
 intro T
 induction T using aK.ind with
 |h k ks aL=>intro h;rw[mK,mK,h k (Fz (mk k ks))];congr 1;refine fR λc an=>aL c an λx ad=>h x ?_;rw[kJ];exact hY _ (hb.2 ⟨c,an,ad⟩)
def C3{T:aK}(h:cq ns T)(m:List ao):bare (ns++m) T=bare ns T:=acQ ns T λx ad=>by rw[acB (h.lt x ad)]
end
end aK
def acR{z:α}{F:ao->List α->α}(bG:∀ d l,F (d.eB l)=F d){ns:List ao}(ae:sc ns):∀ {T:aK},cq ns T->ml z (λd g=>F d (d.aw.map g)) ns T.bh=(T.bare ns).fold F:=by
 intro T
 induction T using aK.ind with
 |h k ks aL=>intro bu;obtain⟨aa,ab,aj⟩:=bu.inv;have h:=Pl (z:=z) (f:=λd g=>F d (d.aw.map g)) ns [] k aa;simp only[fS,c8]at h;rw[aK.mK,aQ.fold_eq];show(gI z _ ns []).getD (k:Int).toNat z=F ((nodeAt ns k).eB []) _;rw[bG,bA,g6,h,kk,<-gm aa,ab,gA,gA];congr 1;refine fR λc an=>?_;rw[Function.comp,Function.comp,<-aL c an (aj c an)];have:=bu.Tz ae an;unfold ml;rw[bA,bA,k7,bN (by omega)]
section
variable{X:cU}{F:Fr}{C:dC}{I:aJ}{M:List aD}{o:Oper}
def qk.acS(aO:cT X.P X.E){x:Operand}{t:Nat}(aH:o.op=.call { callee:=.builtin .append,args:=#[s,x],argTypes:=#[t,t] })
 (av:X.E t=some c7) (dR:c7.bL=.slice e) (he:X.E e=some aF)
  (os:aY) (bx:os.ok aF.size xs) (ar:bE F s=.val os.val)
 {m:Nat} (ad:bE F x=.val (.slice (some aS) m c')) (hm:0<m) (aB:cF I M aS (m*aF.size) b8) (aa:gv b8=true)
 (a':M.Perm (os.aq e++Mr)) (b1:os.n+m<=maxLen) (bW:(os.n+m)*aF.bytes<=140737488355328)
  (M':aY->List aD) (yq:∀ bs:aY,(bs.aq e++Mr).Perm (M' bs))
  (k:∀ bs:aY,bs.n=os.n+m->(∀ g,bs.a=some g->I g=none/\(os.a=none->g ∉ X.foot))->bs.ok aF.size (xs++b8)->K (.val bs.val) I (M' bs)):qk X o F C I M K:=by
 refine⟨fun β a w Q iA=>?_⟩;have yL:b8.length=m*aF.size:=by obtain⟨_,_,_,_,_,_,h⟩:=aB;exact h
 have e7:∀ w,eE I M w->(Builtin.firstCells aF.size m (.slice (some aS) m c')).run X.P w=.ok b8.toArray w:=λw hw=>by
  obtain⟨dL,cs,T,al,e',ah,ay⟩:=aB;refine run_firstCells_some (P:=X.P) w aF.size m aS m c' b8 ay λj v ai=>?_;rw[eP _ dL,tk (e'.heap hw)];rw[<-ah,k7]at ai;split at ai;·rw[nX]at ai;simpa using ai
  ·cases ai
 have aV:cK X β a w F C I (os.aq e++Mr):=iA.hW (.perm a' .refl);obtain⟨inf,z,hi,fr,iN,iw,kp⟩:=(aO _ _ he).inf;obtain⟨fL,jL,j7⟩:=(aO _ _ av).fo;have qp:fL=.slice e:=by rw[dR]at j7;cases fL<;>simp_all[fm]
 subst qp;have qo:z.cells.size=inf.size:=by rw[fr,<-(aO _ _ he).len,<-kp];simp
 have aps:=bx;rw[<-fr]at bx yL e7;obtain⟨g,c,aT,w',fa,a8,ba,bQ,ft,lj⟩:=OZ (P:=X.P) (w:=w) t t o.type e inf z jL jL (λk cX=>by cases cX) hi iw qo bx (λg au=>aV.holds.m ⟨g,.cells os.aT.toArray e (0,0)⟩ (by simp[aY.aq,au])) (x:=.slice (some aS) m c') hm yL (y2 aa) (λ_=>rfl) (λw' xT=>e7 w' (iA.holds.heap xT)) b1 (by rw[iN];exact bW);rw[fr]at a8 ft yL;have zs:I g=none:=by
  rcases lj with⟨au,_⟩ | ⟨rfl,_⟩;·exact aV.holds.d ⟨g,.cells os.aT.toArray e (0,0)⟩ (by simp[aY.aq,au])
  ·cases bw:I w.heap.size with
   |none=>rfl| some nC=>have:=aV.holds.i _ _ bw;simp at this
 have apt:os.a=none->g ∉ X.foot:=λaz hm=>by
  rcases lj with⟨au,_⟩ | ⟨rfl,_⟩;·rw[az]at au;cases au
  ·have aa:=aV.fp _ hm;have ab:=aV.sz;omega
 have es:=dd aV.al ar;have ex:=dd aV.al ad;have kK:(⟨some g,os.n+m,c,aT⟩:aY).ok aF.size (xs++b8):=by
  refine⟨?_,(λh=>by cases h),λdK au=>?_⟩;·rw[ch,aps.len,yL,lO]
  ·cases au;exact⟨a8,ba,bQ,ft⟩
 refine iY (by rw[aH];simp) (v:=.slice (some ⟨g,0,none⟩) (os.n+m) c) (w':=w') ?_ ⟨_,.val (.slice (some ⟨g,0,none⟩) (os.n+m) c),I,M' ⟨some g,os.n+m,c,aT⟩,rfl,rfl,?_,k ⟨some g,os.n+m,c,aT⟩ rfl (λdK au=>by cases au;exact⟨zs,apt⟩) kK,rfl⟩
 ·unfold execOp;simp only[aH,resolve,invoke,builtin,ck,c3,bV,su,b0,hy,es,ex,fa]
 ·refine cK.hW ?_ (.perm (yq _) .refl);rcases lj with⟨au,rfl⟩ | ⟨rfl,rfl⟩
  ·have ag:os.aq e=[⟨g,.cells os.aT.toArray e (0,0)⟩]:=by simp[aY.aq,au]
   rw[ag]at aV;exact aV.xA (a9:=[]) (post:=Mr) rfl
  ·have ab:cK X β a w.drew F C I (os.aq e++Mr):=aV.world rfl;have aj:=ab.nY (.cells aT.toArray e (0,0));refine aj.hW (.sub ?_ .refl);exact List.Sublist.cons_cons _ (l' _ _)
def qk.apu(aO:cT X.P X.E){x:Operand}{t:Nat}(aH:o.op=.call { callee:=.builtin .append,args:=#[s,x],argTypes:=#[t,t] })
 (av:X.E t=some c7) (dR:c7.bL=.slice e) (he:X.E e=some aF)
  (os:aY) (bx:os.ok aF.size xs) (ar:bE F s=.val os.val)
 {m:Nat} (ad:bE F x=.val (.slice (some aS) m c')) (hm:0<m) (aB:cF I M aS (m*aF.size) b8) (aa:gv b8=true)
 (a':M.Perm (os.aq e++Mr)) (b1:os.n+m<=maxLen) (bW:(os.n+m)*aF.bytes<=140737488355328)
  (M':aY->List aD) (yq:∀ bs:aY,(bs.aq e++Mr).Perm (M' bs))
  (k:∀ bs:aY,bs.n=os.n+m->(∀ g,bs.a=some g->I g=none)->bs.ok aF.size (xs++b8)->K (.val bs.val) I (M' bs)):qk X o F C I M K:=
 qk.acS aO aH av dR he os bx ar ad hm aB aa a' b1 bW M' yq λbs aa ab aj=>k bs aa (λg au=>(ab g au).1) aj
def qk.oZ(aO:cT X.P X.E){x:Operand}{t:Nat}(aH:o.op=.call { callee:=.builtin .append,args:=#[s,x],argTypes:=#[t,t] })
 (av:X.E t=some c7) (dR:c7.bL=.slice e) (he:X.E e=some aF)
  (os:aY) (bx:os.ok aF.size xs) (ar:bE F s=.val os.val)
  {b9:Nat} {cs:List Value} (ad:bE F x=.val (.slice (some ⟨b9,0,none⟩) 1 c')) (ay:cs.length=aF.size) (aa:gv cs=true)
  (a9 post:List aD) (a':M=⟨b9,.cells cs.toArray e (0,0)⟩::(a9++(os.aq e++post))) (b1:os.n+1<=9223372036854775807) (bW:(os.n+1)*aF.bytes<=140737488355328)
  (k:∀ bs:aY,bs.n=os.n+1->(∀ g,bs.a=some g->I g=none)->bs.ok aF.size (xs++cs)->K (.val bs.val) I (⟨b9,.cells cs.toArray e (0,0)⟩::(a9++(bs.aq e++post)))):qk X o F C I M K:=by
 have aC:∀ bs:aY,(bs.aq e++(⟨b9,.cells cs.toArray e (0,0)⟩::(a9++post)):List aD).Perm (⟨b9,.cells cs.toArray e (0,0)⟩::(a9++(bs.aq e++post))):=λbs=>
  mw.trans (.cons _ (B2 _ _ _))
 refine .apu aO aH av dR he os bx ar (m:=1) (b8:=cs) ad (by decide) ?_ aa (Mr:=⟨b9,.cells cs.toArray e (0,0)⟩::(a9++post)) ?_ (by unfold maxLen;exact b1) bW _ aC k
 ·rw[oD];refine⟨rfl,_,_,_,.inr ⟨⟨b9,.cells cs.toArray e (0,0)⟩,by rw[a'];exact .head _,rfl,rfl⟩,?_,ay⟩;simp only[vW];exact fA (by omega)
 ·rw[a'];exact(aC os).symm
end
def Na{G F:Fr}{y:Operand}{r:dA}(h:dk G y=dk F y)(bc:bE F y=r):bE G y=r:=by simp only[bE,dy,h];exact bc
structure cg where
 b:Nat
 os:aY
 ds:List ao
def cg.ak(A:cg):aD:=⟨A.b,.cells #[A.os.val] 94 (0,0)⟩
def cg.aq(A:cg):List aD:=A.ak::A.os.aq 66
structure cg.ok(I:aJ)(A:cg):Prop where
 os:A.os.ok 9 (A.ds.flatMap ao.cells)
 n:A.os.n=A.ds.length
 ds:∀ d∈A.ds,d.ok I
def cg.ok.mono{I':aJ}{A:cg}(h:A.ok I)(bw:∀ b o,I b=some o->I' b=some o):A.ok I':=⟨h.os,h.n,λd ak=>(h.ds d ak).mono bw⟩
def acT{A:cg}(dJ:A.ok I)(aB:A.ds.length<=1099511627776){d:ao}(ak:d.ok I) :
  Spec Tryz.prog 163 [ptr A.b,d.val] I A.aq λv I' M'=>v=.int .i64 A.ds.length/\I'=I/\∃ os,M'=cg.aq ⟨A.b,os,A.ds++[d]⟩/\cg.ok I ⟨A.b,os,A.ds++[d]⟩:=by
 refine cb [] a6 Tryz.func163 rfl rfl rfl ?_;intro B az;obtain⟨k,cx,s1,s2,c1,s,lo,hi,dB,aN,dp,aw⟩:=d;have bT:=dJ.os;have bl:∀ (os:aY) (M:List aD),(⟨A.b,.cells #[os.val] 94 (0,0)⟩:aD)∈M->cF I M ((⟨A.b,0,none⟩:Addr).add 0) 1 [os.val]:=λos M hm=>c4 (cs:=[os.val]) (k:=0) (n:=1) (T:=94) hm (by simp);refine cV.draw a6 rfl rfl rfl ?_;refine aM.mk _ (bl A.os _ (.head _)) ?_;refine bX.mk λb9 jM s8=>?_;intro G jc;refine qk.oZ a6 rfl (e:=66) rfl rfl rfl A.os bT (Na (jc _ (by simp[Op.operands,Call.operands])) rfl) (Na (jc _ (by simp[Op.operands,Call.operands])) rfl) (cs:=ao.cells ⟨k,cx,s1,s2,c1,s,lo,hi,dB,aN,dp,aw⟩) rfl rfl [A.ak] [] (by rw[ee];rfl) (by have:=dJ.n;omega) (by have:=dJ.n;show(A.os.n+1)*96<=_;omega) ?_;intro bs aa ab aj;refine b2.mk [_] (bs.aq _++[]) #[A.os.val] 94 rfl rfl (bJ rfl) rfl ?_;refine aM.mk _ (bl bs _ (.tail _ (.head _))) ?_;have BC:=dJ.n;refine⟨(A.ds.length:Int),?_,?_⟩
 ·rw[wrap_i64 (by unfold iR;omega)];omega
 refine⟨_,_,.sub (M1:=cg.aq ⟨A.b,bs,A.ds++[⟨k,cx,s1,s2,c1,s,lo,hi,dB,aN,dp,aw⟩]⟩) ?_ .refl,rfl,rfl,bs,rfl,?_⟩
 ·show List.Sublist (_::(bs.aq _)) (_::_::(bs.aq _++[]));rw[ee];exact .cons _ (.refl _)
 ·refine⟨?_,?_,λx ad=>?_⟩
  ·rw[hg];simpa using aj
  ·rw[aa,ch,dJ.n];rfl
  ·rcases cB.1 ad with ad | ad
   ·exact dJ.ds x ad
   ·rw[ed.1 ad];exact ak
def ao.row(d:ao)(a:Option Addr)(n c:Nat)(ks:List Int):ao:=⟨d.k,d.cx,d.s1,d.s2,d.c1,d.t,d.lo,d.hi,a,n,c,ks⟩
def ao.ok.row{d:ao}(h:d.ok I)(af:de I a n c 1 8 (ks.map (.int .i64 ·)))(ae:∀ x∈ks,iR x):(d.row a n c ks).ok I:=⟨h.k,h.cx,h.s1,h.s2,h.c1,h.t,h.lo,h.hi,af,ae⟩
def apv(A:cg)(d:ao)(I:aJ)(v:Value)(I':aJ)(M':List aD):Prop:=v=.int .i64 A.ds.length/\I'=I/\∃ os,M'=cg.aq ⟨A.b,os,A.ds++[d]⟩/\cg.ok I ⟨A.b,os,A.ds++[d]⟩
def acU{A:cg}(dJ:A.ok I)(aB:A.ds.length<=1099511627776){d:ao}(ak:d.ok I)(af:de I a n c 1 8 (ks.map (.int .i64 ·)))(ae:∀ x∈ks,iR x) :
  Spec Tryz.prog 110 [ptr A.b,d.val,.slice a n c] I A.aq (apv A (d.row a n c ks) I):=by
 refine cb [] a6 Tryz.func110 rfl rfl rfl ?_;intro B az;have fz:=ak.row af ae;obtain⟨k,cx,s1,s2,c1,s,lo,hi,dB,aN,dp,aw⟩:=d;have dL:=acT dJ aB fz;refine be.mk A.aq [] _ (by rw[ee]) dL ?_;rintro v I' M' -⟨rfl,rfl,os,rfl,h⟩;exact⟨_,_,.sub (M1:=cg.aq ⟨A.b,os,A.ds++[_]⟩) (by simp) .refl,rfl,rfl,os,rfl,h⟩
def pc(d:ao)(x:ao):Bool:=!decide (d.k=4) || !decide (x.k=0)
def sd(A:cg)(d:ao)(os:aY)(p5 p4 p9:Nat):List aD:=⟨p5,.cells d.cells.toArray 66 (0,0)⟩::⟨p4,.cells #[ptr A.b] 98 (0,0)⟩::⟨p9,.cells #[os.val] 55 (0,0)⟩::(os.aq 3++A.aq)
def apw{A:cg}(dJ:A.ok I)(aB:A.ds.length<=1099511627776){d:ao}(ak:d.ok I){l:List Int}(bT:os.ok 1 (l.map (.int .i64 ·)))(ay:os.n<=1099511627776){p5 p4 p9 k:Nat}(ae:k<A.ds.length) :
  Spec Tryz.prog 200 [.int .i64 k,ptr p5,ptr p4,ptr p9] I (sd A d os p5 p4 p9) λv I' M'=>I'=I/\∃ bs,M'=sd A d bs p5 p4 p9/\bs.ok 1 ((l++bif pc d A.ds[k]then [(k:Int)]else []).map (.int .i64 ·)):=by
 refine cb [] a6 Tryz.func200 rfl rfl rfl ?_;intro B az;obtain⟨aS,bH,bl⟩:=aY.ok.row (I:=I) (M:=sd A d os p5 p4 p9) ao.cP (by decide) dJ.os (e:=66) (λx ad=>by simp[sd,cg.aq,ad]) (j:=k) ae;obtain⟨dc,cx,s1,s2,c1,s,lo,hi,dB,aN,dp,aw⟩:=d;refine aM.mk [.int .u8 dc] (c4 (cs:=ao.cells ⟨dc,cx,s1,s2,c1,s,lo,hi,dB,aN,dp,aw⟩) (k:=0) (n:=1) (T:=66) (.head _) (by simp[ao.cells])) ?_;refine ct.mk (λaI=>?_) (λaI=>?_)
 ·have dr:dc=4:=by simpa using aI
  refine aM.mk [ptr A.b] (c4 (cs:=[ptr A.b]) (k:=0) (n:=1) (T:=98) (.tail _ (.head _)) (by simp)) ?_;refine aM.mk [A.os.val] (c4 (cs:=[A.os.val]) (k:=0) (n:=1) (T:=94) (by simp[sd,cg.aq,cg.ak]) (by simp)) ?_;refine bd.mk aS k bH rfl (by have:=dJ.n;omega) ?_;refine aM.mk [.int .u8 A.ds[k].k] (cF.part (k:=0) (m:=1) bl (by decide)) ?_;refine a2.mk (λaz=>?_) (λaz=>?_)
  ·have ae:pc ⟨dc,cx,s1,s2,c1,s,lo,hi,dB,aN,dp,aw⟩ A.ds[k]=true:=by unfold pc;have iO:(!decide (A.ds[k].k=0))=true:=az;rw[iO,Ex]
   refine aM.mk [os.val] (c4 (cs:=[os.val]) (k:=0) (n:=1) (T:=55) (.tail _ (.tail _ (.head _))) (by simp)) ?_;refine bX.mk λb9 jM s8=>?_;refine bz.oZ a6 rfl (by simp) (e:=3) rfl rfl rfl os bT rfl (cs:=[.int .i64 k]) rfl rfl rfl [_,_,_] A.aq rfl (by omega) (by show(os.n+1)*8<=_;omega) ?_;intro bs aa ab aj;refine b2.mk [_,_] (bs.aq 3++A.aq) #[os.val] 55 rfl rfl (bJ rfl) rfl ?_;refine⟨_,_,.refl,rfl,bs,rfl,?_⟩;rw[ae,cM];exact aj
  ·have ae:pc ⟨dc,cx,s1,s2,c1,s,lo,hi,dB,aN,dp,aw⟩ A.ds[k]=false:=by unfold pc;have B5:(!decide (dc=4))=false:=aI;have iO:(!decide (A.ds[k].k=0))=false:=az;rw[B5,iO];rfl
   refine⟨_,_,.refl,rfl,os,rfl,?_⟩;rw[ae];simpa using bT
 ·have ae:pc ⟨dc,cx,s1,s2,c1,s,lo,hi,dB,aN,dp,aw⟩ A.ds[k]=true:=by unfold pc;have B5:(!decide (dc=4))=true:=aI;rw[B5,My]
  refine aM.mk [os.val] (c4 (cs:=[os.val]) (k:=0) (n:=1) (T:=55) (.tail _ (.tail _ (.head _))) (by simp)) ?_;refine bX.mk λb9 jM s8=>?_;refine bz.oZ a6 rfl (by simp) (e:=3) rfl rfl rfl os bT rfl (cs:=[.int .i64 k]) rfl rfl rfl [_,_,_] A.aq rfl (by omega) (by show(os.n+1)*8<=_;omega) ?_;intro bs aa ab aj;refine b2.mk [_,_] (bs.aq 3++A.aq) #[os.val] 55 rfl rfl (bJ rfl) rfl ?_;refine⟨_,_,.refl,rfl,bs,rfl,?_⟩;rw[ae,cM];exact aj
def uf:ao:=⟨0,0,0,0,0,⟨#[]⟩,0,0,none,0,0,[]⟩
def jG(d:ao)(ds:List ao)(l:List Nat):List Int:=l.flatMap λk=>bif pc d (ds.getD k uf)then [(k:Int)]else []
structure apx(A:cg)(d:ao)(l:List Nat)(x:Nat×aY):Prop where
 i:x.1<=l.length
 os:x.2.ok 1 ((jG d A.ds (l.take x.1)).map (.int .i64 ·))
def acV{A:cg}(dJ:A.ok I)(aB:A.ds.length<=1099511627776){d z:ao}(ak:d.ok I)(bb:z.ok I)(ay:∀ k∈l,k<A.ds.length)(rY:l.length<=1099511627776)(af:de I a n c 1 8 ((l.map Int.ofNat).map (.int .i64 ·))) :
  Spec Tryz.prog 164 [ptr A.b,d.val,.slice a n c,z.val] I A.aq λv I' M'=>(∀ b o,I b=some o->I' b=some o)/\∃ bs ds' r,M'=cg.aq ⟨A.b,bs,ds'⟩/\cg.ok I' ⟨A.b,bs,ds'⟩/\v=.int .i64 r /\
   ((jG d A.ds l=[]/\r=(A.ds.length:Int)/\ds'=A.ds++[z])\/(jG d A.ds l=[r]/\ds'=A.ds)\/(2<=(jG d A.ds l).length/\r=(A.ds.length:Int)/\∃ bO hS c',ds'=A.ds++[d.row bO hS c' (jG d A.ds l)])):=by
 refine cb [4,5,9] a6 Tryz.func164 rfl rfl rfl ?_;intro B az;obtain⟨dc,cx,s1,s2,c1,s,lo,hi,dB,aN,dp,aw⟩:=d;obtain⟨apy,apz,Ah,R0,apA,e1,apB,apC,apD,apE,apF,apG⟩:=z;refine bX.mk λp4 yM yx=>?_;refine bX.mk λp5 TB TC=>?_;refine bX.mk λp9 avV s8=>?_;have Mh:l.length=n:=by have aa:=af.len;simpa using aa
 refine di.inv (ι:=Nat×aY) (λx=>{ bi:=[(4,.val (ptr p4)),(5,.val (ptr p5)),(7,.ref 7 0),(9,.val (ptr p9)),(10,.val (.func (.func 200) #[] #[ptr p5,ptr p4,ptr p9])),(14,.val (.slice a n c)),(15,.val (.int .i64 n)),(16,.val (.int .i64 x.1))],cl:=[(7,ao.cells ⟨apy,apz,Ah,R0,apA,e1,apB,apC,apD,apE,apF,apG⟩)],cD:=I,c0:=sd A ⟨dc,cx,s1,s2,c1,s,lo,hi,dB,aN,dp,aw⟩ x.2 p5 p4 p9 }) (apx A ⟨dc,cx,s1,s2,c1,s,lo,hi,dB,aN,dp,aw⟩ l) (λx=>l.length-x.1) ?_ ?_
 ·refine⟨(0,⟨none,0,0,[]⟩),⟨dD _,⟨rfl,λ_=>⟨rfl,rfl⟩,λg h=>by cases h⟩⟩,.perm ?_ .refl,jJ,.cons rfl (.nil)⟩;exact(mw (l₁:=[_,_])).symm
 ·rintro⟨i,os⟩⟨cZ,bT⟩;simp only at cZ bT;have eY:de I a n c 1 8 ((l.map Int.ofNat).flatMap kh):=by rw[qY];exact af
  have c2:(jG ⟨dc,cx,s1,s2,c1,s,lo,hi,dB,aN,dp,aw⟩ A.ds (l.take i)).length<=i:=by
   refine k' ?_ (BM i l);generalize l.take i=ev;unfold jG
   induction ev with
   |nil=>exact ca _
   |cons x ev aL=>
    rw[j6,ch,dx];have:(bif pc ⟨dc,cx,s1,s2,c1,s,lo,hi,dB,aN,dp,aw⟩ (A.ds.getD x uf)then [(x:Int)]else []).length<=1:=by cases pc ⟨dc,cx,s1,s2,c1,s,lo,hi,dB,aN,dp,aw⟩ (A.ds.getD x uf)<;>simp
    omega
  have jm:=bT.m7;refine a2.mk (λh=>?_) (λh=>?_)
  ·have aX:(i:Int)<n:=dw h;have dM:i<l.length:=by omega
   obtain⟨aS,bH,bl⟩:=eY.row (f:=kh) (λ_=>rfl) (j:=i) (by omega) (by simpa using dM);rw[f']at bl;refine bd.mk aS i bH rfl (by omega) ?_;refine aM.mk _ (bl _) ?_;have acW:=ay _ (br dM);have dL:=apw (p5:=p5) (p4:=p4) (p9:=p9) dJ aB ak bT (by omega) acW;refine be.mk (sd A ⟨dc,cx,s1,s2,c1,s,lo,hi,dB,aN,dp,aw⟩ os p5 p4 p9) [] _ (by rw[ee]) dL ?_;rintro v I' M' -⟨rfl,bs,rfl,B1⟩;refine bg.mk ((i+1:Nat):Int) (rS (by simp only;omega) (by omega)) ?_;refine⟨(i+1,bs),⟨⟨by simp only;omega,?_⟩,by simp only;omega⟩,.perm (by rw[ee]) .refl,jJ,.cons rfl (.nil)⟩
   ·show bs.ok 1 ((jG ⟨dc,cx,s1,s2,c1,s,lo,hi,dB,aN,dp,aw⟩ A.ds (l.take (i+1))).map (.int .i64 ·));have e:jG ⟨dc,cx,s1,s2,c1,s,lo,hi,dB,aN,dp,aw⟩ A.ds (l.take (i+1))=jG ⟨dc,cx,s1,s2,c1,s,lo,hi,dB,aN,dp,aw⟩ A.ds (l.take i)++bif pc ⟨dc,cx,s1,s2,c1,s,lo,hi,dB,aN,dp,aw⟩ A.ds[l[i]]then [((l[i]:Nat):Int)]else []:=by unfold jG;rw[gg dM,hg];congr 1;simp[bA,acW]
    rw[e];exact B1
  ·have cI:¬ (i:Int)<n:=ek h;obtain rfl:i=l.length:=by omega
   rw[DI]at bT c2 jm;refine aM.mk [os.val] (c4 (cs:=[os.val]) (k:=0) (n:=1) (T:=55) (.tail _ (.tail _ (.head _))) (by simp)) ?_;have mE:(sd A ⟨dc,cx,s1,s2,c1,s,lo,hi,dB,aN,dp,aw⟩ os p5 p4 p9).Perm (A.aq++([⟨p5,.cells (ao.cells ⟨dc,cx,s1,s2,c1,s,lo,hi,dB,aN,dp,aw⟩).toArray 66 (0,0)⟩,⟨p4,.cells #[ptr A.b] 98 (0,0)⟩,⟨p9,.cells #[os.val] 55 (0,0)⟩]++os.aq 3)):=by
    have:sd A ⟨dc,cx,s1,s2,c1,s,lo,hi,dB,aN,dp,aw⟩ os p5 p4 p9=([⟨p5,.cells (ao.cells ⟨dc,cx,s1,s2,c1,s,lo,hi,dB,aN,dp,aw⟩).toArray 66 (0,0)⟩,⟨p4,.cells #[ptr A.b] 98 (0,0)⟩,⟨p9,.cells #[os.val] 55 (0,0)⟩]++os.aq 3)++A.aq:=by simp[sd]
    rw[this];exact eI
   refine a2.mk (λaz=>?_) (λaz=>?_)
   ·have db:os.n=0:=by simpa using az
    refine aM.mk [ptr A.b] (c4 (cs:=[ptr A.b]) (k:=0) (n:=1) (T:=98) (.tail _ (.head _)) (by simp)) ?_;refine be.mk A.aq _ _ mE (acT dJ aB bb) ?_;rintro v I' M' -⟨rfl,rfl,kd,rfl,bx⟩;exact⟨_,_,.sub (tK _ _) .refl,λ_ _ h=>h,kd,_,_,rfl,bx,rfl,.inl ⟨iy (by omega),rfl,rfl⟩⟩
   ·refine a2.mk (λaa=>?_) (λaa=>?_)
    ·have aG:os.n=1:=by
      have:(os.n:Int)=1:=by simpa using aa
      omega
     have xS:(jG ⟨dc,cx,s1,s2,c1,s,lo,hi,dB,aN,dp,aw⟩ A.ds l).length=1:=by omega
     obtain⟨r,h0⟩:=List.length_eq_one_iff.1 xS;refine aM.mk [os.val] (c4 (cs:=[os.val]) (k:=0) (n:=1) (T:=55) (.tail _ (.tail _ (.head _))) (by simp)) ?_;rw[<-qY]at bT;obtain⟨aS,bH,bl⟩:=aY.ok.row (I:=I) (M:=sd A ⟨dc,cx,s1,s2,c1,s,lo,hi,dB,aN,dp,aw⟩ os p5 p4 p9) (e:=3) (f:=kh) (size:=1) (λ_=>rfl) (by decide) bT (λx ad=>by simp[sd,ad]) (j:=0) (by omega);refine bd.mk aS 0 bH rfl (by omega) ?_;refine aM.mk _ bl ?_;refine⟨_,_,.sub (M1:=A.aq) (.cons _ (.cons _ (.cons _ (l' _ _)))) .refl,λ_ _ h=>h,A.os,A.ds,r,rfl,dJ,?_,.inr (.inl ⟨h0,rfl⟩)⟩;simp[h0];rfl
    ·refine aM.mk [ptr A.b] (c4 (cs:=[ptr A.b]) (k:=0) (n:=1) (T:=98) (.tail _ (.head _)) (by simp)) ?_;refine aM.mk (ao.cells ⟨dc,cx,s1,s2,c1,s,lo,hi,dB,aN,dp,aw⟩) (c4 (cs:=ao.cells ⟨dc,cx,s1,s2,c1,s,lo,hi,dB,aN,dp,aw⟩) (k:=0) (n:=9) (T:=66) (.head _) (by simp[ao.cells])) ?_;refine aM.mk [os.val] (c4 (cs:=[os.val]) (k:=0) (n:=1) (T:=55) (.tail _ (.tail _ (.head _))) (by simp)) ?_;have iO:¬ os.n=0:=λe=>by have ab:decide ((os.n:Int)=0)=false:=az;simp[e]at ab
     have tz:¬ os.n=1:=λe=>by have ab:decide ((os.n:Int)=1)=false:=aa;simp[e]at ab
     refine be.Gb λfD=>?_;have k5:(sd A ⟨dc,cx,s1,s2,c1,s,lo,hi,dB,aN,dp,aw⟩ os p5 p4 p9).Perm (os.aq 3++(A.aq++[⟨p5,.cells (ao.cells ⟨dc,cx,s1,s2,c1,s,lo,hi,dB,aN,dp,aw⟩).toArray 66 (0,0)⟩,⟨p4,.cells #[ptr A.b] 98 (0,0)⟩,⟨p9,.cells #[os.val] 55 (0,0)⟩])):=by have e:sd A ⟨dc,cx,s1,s2,c1,s,lo,hi,dB,aN,dp,aw⟩ os p5 p4 p9=[⟨p5,.cells (ao.cells ⟨dc,cx,s1,s2,c1,s,lo,hi,dB,aN,dp,aw⟩).toArray 66 (0,0)⟩,⟨p4,.cells #[ptr A.b] 98 (0,0)⟩,⟨p9,.cells #[os.val] 55 (0,0)⟩]++(os.aq 3++A.aq):=rfl;rw[e,<-dV (os.aq 3)];exact eI
     have au:∀ g,os.a=some g->I g=none/\g ∉ A.aq.map (·.num):=λg au=>by
      have ag:os.aq 3=[⟨g,.cells os.aT.toArray 3 (0,0)⟩]:=by unfold aY.aq;rw[au]
      have bF:=(k5.map (·.num)).nodup_iff.1 fD.cd;rw[ag]at bF k5;refine⟨fD.d _ (k5.mem_iff.2 (.head _)),λhm=>?_⟩;rw[cM]at bF;simp only[b0,hy,rW,lL,cM]at bF;exact bF.1 (hY _ hm)
     obtain⟨dI,hw,e4,ep,-⟩:=aY.zV (b:=8) bT (by omega) au (A.aq++[⟨p5,.cells (ao.cells ⟨dc,cx,s1,s2,c1,s,lo,hi,dB,aN,dp,aw⟩).toArray 66 (0,0)⟩,⟨p4,.cells #[ptr A.b] 98 (0,0)⟩,⟨p9,.cells #[os.val] 55 (0,0)⟩]);have SP:∀ x∈jG ⟨dc,cx,s1,s2,c1,s,lo,hi,dB,aN,dp,aw⟩ A.ds l,iR x:=λx ad=>by
      obtain⟨k,ae,ad⟩:=hb.1 ad;have:=ay k ae;cases aR:pc ⟨dc,cx,s1,s2,c1,s,lo,hi,dB,aN,dp,aw⟩ (A.ds.getD k uf)with
      |false=>rw[aR]at ad;cases ad| true=>rw[aR]at ad;rw[ed.1 ad];unfold iR;omega
     have dL:=acU (dJ.mono e4) aB (ak.mono e4) ep SP;refine be.Dx dI A.aq [⟨p5,.cells (ao.cells ⟨dc,cx,s1,s2,c1,s,lo,hi,dB,aN,dp,aw⟩).toArray 66 (0,0)⟩,⟨p4,.cells #[ptr A.b] 98 (0,0)⟩,⟨p9,.cells #[os.val] 55 (0,0)⟩] _ (.perm k5 (hw _ _ .refl)) dL ?_;rintro v I' M' bm -⟨rfl,rfl,kd,rfl,bx⟩;exact⟨_,_,.sub (tK _ _) .refl,e4,kd,_,_,rfl,bx,rfl,.inr (.inr ⟨by omega,rfl,_,_,_,rfl⟩)⟩
namespace aQ
mutual
def post:aQ->List ao
 |mk d ks=>wu d (Nb ks)
def Nb:List aQ->List (List ao)
 |[]=>[]| a::l=>post a::Nb l
end
def acX:∀ l,Nb l=l.map post
 |[]=>rfl| a::l=>by rw[Nb,acX l];rfl
def pP(d:ao)(ks:List aQ):post (mk d ks)=wu d (ks.map post):=by rw[post,acX]
end aQ
inductive fN:aQ->Prop
 |mk{d:ao}{ks:List aQ}:fits d ks.length=true->(∀ c∈ks,fN c)->fN (.mk d ks)
def fN.inv{d:ao}{ks:List aQ}(h:fN (.mk d ks)):fits d ks.length=true/\∀ c∈ks,fN c:=by
 cases h with
 |mk aa ab=>exact⟨aa,ab⟩
def acY:∀ {T:aQ},fN T->hG (mB T.post):=by
 intro T
 induction T using aQ.ind with
 |h d ks aL=>intro h;rw[aQ.pP];refine aoX (λl ay=>?_) (by rw[bI];exact h.inv.1);obtain⟨c,an,rfl⟩:=cN.1 ay;exact aL c an (h.inv.2 c an)
def apH{l:List ao}(h:hG (mB l)):0<l.length/\∀ d∈l,∀ k∈d.aw,0<=k:=by
 have:=h.bn;refine⟨?_,λd ak k ae=>?_⟩
 ·have aa:(0:Int)<=(l.length:Int)-1:=this.1;omega
 ·obtain⟨j,ai,rfl⟩:=ka ak;exact(h.aw j ai k ae).1
def apI{z:α}{F:ao->List α->α}(bG:∀ d l,F (d.eB l)=F d):∀ {T:aQ},fN T->AL z F T.post=T.fold F:=by
 intro T
 induction T using aQ.ind with
 |h d ks aL=>
  intro h;rw[aQ.pP,aQ.fold_eq,aoV bG,gA];·congr 1;exact fR λc an=>aL c an (h.inv.2 c an)
  ·intro l ay;obtain⟨c,an,rfl⟩:=cN.1 ay;exact apH (acY (h.inv.2 c an))
def aK.hh(T:aK):List Int:=T.cE.map λx:Nat=>(x:Int)
def aK.Jh(k:Nat)(ks:List aK):(aK.mk k ks).hh=ks.flatMap aK.hh++[(k:Int)]:=by unfold aK.hh;rw[aK.kJ,cM,Ay];rfl
def aK.apJ(T:aK):∃ K,T.hh=K++[(T.bh:Int)]:=by
 cases T with
 |mk k ks=>exact⟨_,aK.Jh k ks⟩
structure Ji(ns:List ao)(A rb:List Int)(oi:List aK)(aZ:List ao×List Int):Prop where
 len:aZ.1.length=(oi.flatMap aK.hh).length
 nodes:aZ.1.map (AK (A.length:Int))=(oi.flatMap aK.hh).map (z2 ns rb)
 roots:aZ.2.map (·+(A.length:Int))=oi.map λc=>vb rb (c.bh:Int)
def apK(n:Nat)(a:Int)(x:ao):AK a (x.eB (x.aw.map λk=>(n:Int)+k))=AK (a+(n:Int)) x:=by unfold AK;show x.eB ((x.aw.map λk=>(n:Int)+k).map (·+a))=_;rw[gA];congr 1;refine fR λk ae=>?_;show(n:Int)+k+a=k+(a+n);omega
def Ji.step{ns:List ao}{A B rb:List Int}{oi:List aK}{aZ:List ao×List Int}(h:Ji ns A rb oi aZ){c:aK}{l:List ao}
  (nj:rb=(A++oi.flatMap aK.hh)++(c.hh++B)) (ak:hR rb) (ay:c.hh.map (z2 ns rb)=l.map (AK ((A++oi.flatMap aK.hh).length:Int))):Ji ns A rb (oi++[c]) (jD aZ l):=by
 have gX:c.hh.length=l.length:=by simpa using congrArg List.length ay
 obtain⟨aa,ab,aj⟩:=h;have aG:(oi++[c]).flatMap aK.hh=oi.flatMap aK.hh++c.hh:=by rw[hg,pM]
 refine⟨?_,?_,?_⟩
 ·rw[aG];show(aZ.1++l.map _).length=_;rw[ch,bI,ch,aa,gX]
 ·rw[aG,cM,ay,<-ab];show(aZ.1++l.map λx=>x.eB (x.aw.map λk=>(aZ.1.length:Int)+k)).map _=_;rw[cM,gA];congr 1;refine fR λx ad=>?_;show AK _ (x.eB _)=_;rw[apK,aa,ch];congr 1
 ·rw[cM,<-aj];show(aZ.2++[((aZ.1.length+l.length:Nat):Int)-1]).map _=_;rw[cM];congr 1;obtain⟨K,dZ⟩:=c.apJ;have hm:(c.bh:Int)∈c.hh:=by rw[dZ];simp
  have FC:hR c.hh:=by rw[nj]at ak;exact(rX.1 (rX.1 ak).2.1).1
  have aC:vb rb (c.bh:Int)=vb c.hh (c.bh:Int)+((A++oi.flatMap aK.hh).length:Int):=by rw[nj]at ak |-;exact aoS ak hm
  have mC:vb c.hh (c.bh:Int)=(c.hh.length:Int)-1:=by rw[dZ]at FC |-;rw[aoT FC,ch];simp
  rw[s7,s7,aC,mC,ch,<-aa,<-gX];congr 1;omega
def apL{ns:List ao}:∀ {S:aK},cq ns S->∀ (A B rb:List Int),rb=A++(S.hh++B)->hR rb->S.hh.map (z2 ns rb)=(S.bare ns).post.map (AK (A.length:Int)):=by
 intro S
 induction S using aK.ind with
 |h k ks aL=>
  intro cO A B rb nj ak;obtain⟨aa,ab,aj⟩:=cO.inv;have key:∀ (wz oi:List aK) (aZ:List ao×List Int),oi++wz=ks->Ji ns A rb oi aZ->Ji ns A rb ks ((wz.map λc=>(c.bare ns).post).foldl jD aZ):=by
   intro wz
   induction wz with
   |nil=>intro oi aZ e h;rw[ee]at e;rw[<-e];exact h
   |cons c wz SQ=>
    intro oi aZ e h;have an:c∈ks:=by rw[<-e];simp
    have acZ:rb=(A++oi.flatMap aK.hh)++(c.hh++(wz.flatMap aK.hh++([(k:Int)]++B))):=by rw[nj,aK.Jh,<-e];simp
    rw[b0,js];exact SQ (oi++[c]) _ (by rw[<-e];simp) (h.step acZ ak (aL c an (aj c an) _ _ _ acZ ak))
  have h:=key ks [] ([],[]) rfl ⟨rfl,rfl,rfl⟩;obtain⟨a8,ba,bQ⟩:=h;rw[aK.Jh,aK.mK,aQ.pP,gA];show _=(wu (nodeAt ns k).bare (ks.map λc=>(c.bare ns).post)).map _;unfold wu;generalize(ks.map λc=>(c.bare ns).post).foldl jD ([],[])=aZ at a8 ba bQ;rw[cM,cM,ba];congr 1;rw[s7,s7];congr 1;show(nodeAt ns (k:Int).toNat).eB _=(nodeAt ns k).eB (aZ.2.map (·+(A.length:Int)));rw[bQ,g6,ab,gA];rfl
def ac0:∀ (fV:List (List ao)) (aZ:List ao×List Int),(∀ x∈aZ.1,x.a1=x)->∀ x∈(fV.foldl jD aZ).1,x.a1=x
 |[],_,h=>h
 |l::fV,aZ,h=>ac0 fV (jD aZ l) λx ad=>by
  rcases cB.1 (show x∈aZ.1++l.map (λx=>x.eB (x.aw.map λk=>(aZ.1.length:Int)+k))from ad)with ad | ad;·exact h x ad
  ·obtain⟨y,aE,rfl⟩:=cN.1 ad;rfl
def ac1(T:aQ):∀ x∈T.post,x.a1=x:=by
 cases T with
 |mk d ks=>
 intro x ad;rw[aQ.pP]at ad;rcases cB.1 ad with ad | ad
 ·exact ac0 _ _ (λx ad=>by cases ad) x ad
 ·rw[ed.1 ad];rfl
def ac2{ns:List ao}{S:aK}(h:cq ns S)(aB:S.cE.Nodup):S.hh.map (z2 ns S.hh)=(S.bare ns).post:=by
 have ak:hR S.hh:=Fg.2 (List.Pairwise.imp (fun {a b} bt e=>bt (by omega)) aB);have:=apL h [] [] S.hh (by simp) ak;rw[this];refine(fR λx ad=>?_).trans (Fy _);have e:=ac1 _ x ad;have a7:AK (([]:List Int).length:Int) x=x.a1:=by show x.eB (x.aw.map (·+(0:Int)))=x.eB x.aw;congr 1;refine(fR λk ae=>?_).trans (Fy _);show k+0=k;omega
 rw[a7,e];rfl
def gr(ns:List ao)(k:Int):aQ:=ml (aQ.mk uf []) (λd g=>(λ(d:ao) (xs:List aQ)=>aQ.mk d.bare xs) d (d.aw.map g)) ns k
def cr(t:bS):aQ:=gr t.ns t.bn
def apM(ns:List ao):∀ S:aK,(S.bare ns).fold (λ(d:ao) (xs:List aQ)=>aQ.mk d.bare xs)=S.bare ns:=by
 intro S
 induction S using aK.ind with
 |h k ks aL=>rw[aK.mK,aQ.fold_eq,gA];congr 1;exact fR λc an=>aL c an
def Nc{ns:List ao}(ae:sc ns){T:aK}(h:cq ns T):gr ns T.bh=T.bare ns:=by unfold gr;rw[acR (λd l=>rfl) ae h,apM]
def hG.yN(h:hG t):sc t.ns:=h.aw
def hG.lt(h:hG t){j:Nat}(ai:j<t.ns.length):∃ T:aK,T.bh=j/\cq t.ns T/\gr t.ns j=T.bare t.ns/\T.cE.Nodup:=by obtain⟨T,bu,dJ⟩:=cq.ex h.yN j ai;refine⟨T,bu,dJ,?_,dJ.nodup h.yN h.diff⟩;rw[<-bu];exact Nc h.yN dJ
def TD{ns:List ao}(aA:∀ d∈ns,fits d d.aw.length=true):∀ {T:aK},cq ns T->fN (T.bare ns):=by
 intro T
 induction T using aK.ind with
 |h k ks aL=>
  intro h;obtain⟨aa,ab,aj⟩:=h.inv;rw[aK.mK];refine .mk ?_ λc an=>?_;·have:=aA _ (br aa);rw[<-gm aa]at this;show fits ((nodeAt ns k).eB []) _=true;rw[Tr,bI];rw[ab,bI]at this;exact this
  ·obtain⟨c',zj,rfl⟩:=cN.1 an;exact aL c' zj (aj c' zj)
def hG.fit(h:hG t):∀ d∈t.ns,Go.V.fits d d.aw.length=true:=λd ak=>by obtain⟨j,ai,rfl⟩:=ka ak;exact h.fits j ai
def apN{z:α}{F:ao->List α->α}(bG:∀ d l,F (d.eB l)=F d)(h:hG t){j:Nat}(ai:j<t.ns.length):ml z (λd g=>F d (d.aw.map g)) t.ns j=(gr t.ns j).fold F:=by obtain⟨T,bu,dJ,he,-⟩:=h.lt ai;rw[he,<-bu];exact acR bG h.yN dJ
def apO(h:hG t):∀ {T:aK},cq t.ns T->jP t.ns (T.bh:Int)=T.hh:=by
 intro T
 induction T using aK.ind with
 |h k ks aL=>intro bu;obtain⟨aa,ab,aj⟩:=bu.inv;show jP t.ns (k:Int)=_;rw[Go.V.pP h aa,ab,aK.Jh,Ax];congr 1;exact r0 λc an=>aL c an (aj c an)
def apP(h:hG t){j:Nat}(ai:j<t.ns.length):rT t.ns j=(gr t.ns j).post:=by obtain⟨T,bu,dJ,he,aB⟩:=h.lt ai;rw[akq h ai,he,<-ac2 dJ aB,<-bu,apO h dJ]
structure pd(t:bS)(T:aQ):Prop where
 a1:t.ns.map ao.a1=T.post
 bn:t.bn=(t.ns.length:Int)-1
def apQ(h:hG t){j:Nat}(ai:j<t.ns.length){bq:bS}(ar:LC t j bq):pd bq (gr t.ns j):=⟨by rw[ar.a1,apP h ai],ar.bn⟩
def ac3(ns:List ao)(k:Int):gr (ns.map ao.a1) k=gr ns k:=by unfold gr ml;rw[HX (f:=λd g=>(λ(d:ao) (xs:List aQ)=>aQ.mk d.bare xs) d (d.aw.map g)) (g:=λd g=>(λ(d:ao) (xs:List aQ)=>aQ.mk d.bare xs) d (d.aw.map g)) (λd q=>rfl)]
inductive iI:aQ->Prop
 |mk{d:ao}{ks:List aQ}:d.bare=d->(∀ c∈ks,iI c)->iI (.mk d ks)
def iI.inv{d:ao}{ks:List aQ}(h:iI (.mk d ks)):d.bare=d/\∀ c∈ks,iI c:=by
 cases h with
 |mk aa ab=>exact⟨aa,ab⟩
def iI.fold:∀ {T:aQ},iI T->T.fold (λ(d:ao) (xs:List aQ)=>aQ.mk d.bare xs)=T:=by
 intro T
 induction T using aQ.ind with
 |h d ks aL=>intro h;rw[aQ.fold_eq,h.inv.1];congr 1;exact(fR λc an=>aL c an (h.inv.2 c an)).trans (Fy _)
def TE(ns:List ao):∀ S:aK,iI (S.bare ns):=by
 intro S
 induction S using aK.ind with
 |h k ks aL=>rw[aK.mK];refine .mk rfl λc an=>?_;obtain⟨c',zj,rfl⟩:=cN.1 an;exact aL c' zj
def pd.right{T:aQ}(h:pd t T)(bu:fN T):right t=true:=by
 have aa:=acY bu;rw[<-h.a1]at aa;have ab:=aa.bn;refine nc.2 ⟨?_,λj ai=>?_,λj ai k ae=>?_,?_,λj ai=>?_⟩
 ·rw[h.bn];have:(0:Int)<=((t.ns.map ao.a1).length:Int)-1/\((t.ns.map ao.a1).length:Int)-1<((t.ns.map ao.a1).length:Int):=ab;rw[bI]at this;exact this
 ·have:=aa.fits j (by show j<(t.ns.map ao.a1).length;rw[bI];exact ai);simp only[mB,f']at this;exact this
 ·refine aa.aw j (by show j<(t.ns.map ao.a1).length;rw[bI];exact ai) k ?_;simp only[mB,f'];exact ae
 ·have:hR (eO (t.ns.map ao.a1)):=aa.diff;unfold eO at this;rw[Ax]at this;exact this
 ·have:=aa.all j (by show j<(t.ns.map ao.a1).length;rw[bI];exact ai);have e:eO (mB (t.ns.map ao.a1)).ns=eO t.ns:=by show eO (t.ns.map ao.a1)=_;unfold eO;rw[Ax];rfl
  have a7:(mB (t.ns.map ao.a1)).bn=t.bn:=by show(((t.ns.map ao.a1).length:Nat):Int)-1=_;rw[bI,h.bn]
  rw[e,a7]at this;exact this
def pd.cr{T:aQ}(h:pd t T)(bu:fN T)(ag:iI T):Go.V.cr t=T:=by unfold Go.V.cr;rw[h.bn,<-ac3,h.a1];have:=apI (z:=aQ.mk uf []) (F:=λ(d:ao) (xs:List aQ)=>aQ.mk d.bare xs) (λd l=>rfl) bu;rw[ag.fold]at this;unfold AL at this;rw[<-h.a1]at this |-;rw[bI]at this;exact this
def TF(A:cg)(d z:ao)(l:List Nat)(I:aJ)(v:Value)(I':aJ)(M':List aD):Prop:=(∀ b o,I b=some o->I' b=some o)/\∃ bs ds' r,M'=cg.aq ⟨A.b,bs,ds'⟩/\cg.ok I' ⟨A.b,bs,ds'⟩/\v=.int .i64 r /\ ((jG d A.ds l=[]/\r=(A.ds.length:Int)/\ds'=A.ds++[z])\/(jG d A.ds l=[r]/\ds'=A.ds)\/(2<=(jG d A.ds l).length/\r=(A.ds.length:Int)/\∃ bO hS c',ds'=A.ds++[d.row bO hS c' (jG d A.ds l)]))
def nothing(k:Int):ao:=⟨k,0,0,0,0,⟨#[]⟩,0,0,none,0,0,[]⟩
def ac4(I:aJ){k:Int}(ae:0<=k/\k<256):(nothing k).ok I:=⟨ae,by unfold nothing g';simp,by unfold nothing g';simp,by unfold nothing g';simp,by unfold nothing g';simp,by show 0<=_;decide,by unfold nothing iR;simp,by unfold nothing iR;simp,⟨rfl,⟨ca _,by simp[nothing]⟩,.inl rfl⟩,λx ad=>by cases ad⟩
def apR{A:cg}(dJ:A.ok I)(aB:A.ds.length<=1099511627776){d:ao}(ak:d.ok I)(ay:∀ k∈l,k<A.ds.length)(rY:l.length<=1099511627776)(af:de I a n c 1 8 ((l.map Int.ofNat).map (.int .i64 ·))) :
  Spec Tryz.prog 111 [ptr A.b,d.val,.slice a n c] I A.aq (TF A d (nothing 0) l I):=by
 refine cb [] a6 Tryz.func111 rfl rfl rfl ?_;intro B az;have dL:=acV (z:=nothing 0) dJ aB ak (ac4 I (by decide)) ay rY af;obtain⟨dc,cx,s1,s2,c1,s,lo,hi,dB,aN,dp,aw⟩:=d;refine be.mk A.aq [] _ (by rw[ee]) dL ?_;rintro v I' M'-h;obtain⟨jh,bs,ds',r,rfl,bx,rfl,h⟩:=h;exact⟨_,_,.sub (by simp) .refl,jh,bs,ds',r,rfl,bx,rfl,h⟩
def apS{A:cg}(dJ:A.ok I)(aB:A.ds.length<=1099511627776){d:ao}(ak:d.ok I)(ay:∀ k∈l,k<A.ds.length)(rY:l.length<=1099511627776)(af:de I a n c 1 8 ((l.map Int.ofNat).map (.int .i64 ·))) :
  Spec Tryz.prog 112 [ptr A.b,d.val,.slice a n c] I A.aq (TF A d (nothing 1) l I):=by
 refine cb [] a6 Tryz.func112 rfl rfl rfl ?_;intro B az;have dL:=acV (z:=nothing 1) dJ aB ak (ac4 I (by decide)) ay rY af;obtain⟨dc,cx,s1,s2,c1,s,lo,hi,dB,aN,dp,aw⟩:=d;refine be.mk A.aq [] _ (by rw[ee]) dL ?_;rintro v I' M'-h;obtain⟨jh,bs,ds',r,rfl,bx,rfl,h⟩:=h;exact⟨_,_,.sub (by simp) .refl,jh,bs,ds',r,rfl,bx,rfl,h⟩
def qZ(l:List Int)(m:Nat):List (List Value):=(List.range m).reverse.map λi:Nat=>[.int .i64 (i:Int),.int .i64 (l.getD i 0)]
def apT(l:List Int)(m:Nat):qZ l (m+1)=[.int .i64 m,.int .i64 (l.getD m 0)]::qZ l m:=by unfold qZ;rw[B3,ya,zt,rW,b0]
def apU(a:Option Addr)(n c:Nat):Spec Tryz.prog 165 [.slice a n c] I [] λr I' M'=>∃ b,r=.func (.func 201) #[] #[ptr b]/\I' b=some (.cells #[.slice a n c] 55 (0,0))/\(∀ b o,I b=some o->I' b=some o)/\M'=[]:=by refine cb [1] a6 Tryz.func165 rfl rfl rfl ?_;intro B az;refine bX.mk λg au BO=>?_;exact⟨_,_,.kN rfl (by simp) .refl,g,rfl,mo ..,hL au,rfl⟩
def apV{l:List Int}(af:de I a n c 1 8 (l.map (.int .i64 ·))){b:Nat}(ag:I b=some (.cells #[.slice a n c] 55 (0,0))) :
  Iter Tryz.prog 201 [ptr b] I (qZ l n):=by
 intro y R kS qx dn M0 lr iA;refine za [] a6 Tryz.func201 rfl rfl rfl ?_;intro B az;have jx:=af.cap;have rY:l.length=n:=by have aa:=af.len;simpa using aa
 have eY:de I a n c 1 8 (l.flatMap kh):=by rw[qY];exact af
 have bl:∀ (I1:aJ) (M:List aD),(∀ b o,I b=some o->I1 b=some o)->cF I1 M ((⟨b,0,none⟩:Addr).add 0) 1 [.slice a n c]:=λI1 M cH=>⟨rfl,_,_,_,.inl (cH _ _ ag),rfl,rfl⟩;refine aM.mk _ (bl _ _ lr) ?_;refine bg.mk ((n:Int)-1) (by rw[wrap_i64 (by unfold iR;omega)]) ?_;refine di.inv (ι:=Nat×Nat×aJ×List aD) (λx=>{ bi:=[(0,.val (.func (.yield y) #[] #[])),(1,.val (ptr b)),(3,.val (.int .i64 ((x.1:Int)-1)))],cD:=x.2.2.1,c0:=x.2.2.2 }) (λx=>x.1<=n/\(∀ b o,I b=some o->x.2.2.1 b=some o)/\R x.2.1 x.2.2.1 x.2.2.2/\x.2.1<=(qZ l n).length/\(qZ l n).drop x.2.1=qZ l x.1) (λx=>x.1) ?_ ?_
 ·exact⟨(n,0,dn,M0),⟨by simp,lr,iA,by simp,rfl⟩,.refl,hl,.nil⟩
 ·rintro⟨m,k,I1,M1⟩⟨hm,cH,g4,cA,ha⟩;simp only at hm cH g4 cA ha;refine a2.mk (λh=>?_) (λh=>?_)
  ·have aX:(0:Int)<=(m:Int)-1:=dw h;obtain⟨m,rfl⟩:∃ q,m=q+1:=⟨m-1,by omega⟩;have aG:((m+1:Nat):Int)-1=(m:Int):=by omega
   obtain⟨aS,bH,PI⟩:=(eY.mono cH).row (f:=kh) (λ_=>rfl) (j:=m) (by omega) (by omega);rw[apT]at ha;obtain⟨ae,ah,qD⟩:=drop_cons ha;refine aM.mk _ (bl _ _ cH) ?_;refine bd.mk aS m bH aG (by omega) ?_;refine aM.mk _ (PI _) ?_;refine bz.yield rfl (by simp) rfl rfl ?_;have aE:=qx k ae I1 M1 cH g4;rw[ah]at aE;have a7:l.getD m 0=l[m]:=by simp[bA,show m<l.length by omega]
   rw[a7,<-aG]at aE;refine zm.mk M1 [] _ (by simp) aE ?_;rintro v dI dq e4 (⟨rfl,ll⟩ | ⟨rfl,ad⟩);·refine a2.mk (λh=>by simp at h) (λ_=>?_);refine bg.mk ((m:Int)-1) (by rw[wrap_i64 (by unfold iR;omega)];omega) ?_;exact⟨(m,k+1,dI,dq),⟨⟨by simp only;omega,λb o h=>e4 b o (cH b o h),ll,ae,qD⟩,by simp only;omega⟩,.perm (by simp) .refl,hl,.nil⟩
   ·refine a2.mk (λ_=>?_) (λh=>by simp at h);exact⟨_,_,.perm (by simp) .refl,.inr ad⟩
  ·have cI:¬ (0:Int)<=(m:Int)-1:=ek h;obtain rfl:m=0:=by omega
   refine⟨_,_,.refl,.inl ?_⟩;have xZ:k=(qZ l n).length:=by have:(qZ l n).drop k=[]:=ha.trans (by simp[qZ]);have:=DX.1 this;omega
   rw[<-xZ];exact g4
def Spec.Nd{P:Program}{f:Nat}{args:List Value}{p q:Value->aJ->List aD->Prop}(h:Spec P f args I M p)(mX:∀ v I' M',p v I' M'->q v I' M'):Spec P f args I M q:=by
 rcases h with⟨aa,ab⟩ | ab
 ·refine .inl ⟨aa,λw hw=>(ab w hw).mono ?_⟩;rintro e w'⟨v,I',M',aj,aI,bB⟩;exact⟨v,I',M',aj,mX _ _ _ aI,bB⟩
 ·refine .inr λw hw=>?_;obtain⟨v,w',I',M',aj,aI,bB⟩:=ab w hw;exact⟨v,w',I',M',aj,mX _ _ _ aI,bB⟩
def yO:Nat:=110
def ac5:List Nat:=[yO,yO,yO,yO,111,112,yO,yO,yO,yO]
def TG:List Value:=ac5.map λf=>.func (.func f) #[] #[]
def apW:Spec Tryz.prog 61 [] I [] λv I' M'=>v=.agg TG.toArray/\I'=I/\M'=[]:=by refine cb [] a6 Tryz.func61 rfl rfl rfl ?_;intro B az;exact⟨_,_,.refl,rfl,rfl,rfl⟩
def w6(d:ao)(l:List Nat)(ds ds':List ao)(r:Int):Prop:=
 if d.k=4\/d.k=5 then
  (jG d ds l=[]/\r=(ds.length:Int)/\ds'=ds++[nothing (d.k-4)])\/(jG d ds l=[r]/\ds'=ds)\/(2<=(jG d ds l).length/\r=(ds.length:Int)/\∃ bO hS c',ds'=ds++[d.row bO hS c' (jG d ds l)])
 else r=(ds.length:Int)/\∃ bO hS c',ds'=ds++[d.row bO hS c' (l.map Int.ofNat)]
def TH(A:cg)(d:ao)(l:List Nat)(I:aJ)(v:Value)(I':aJ)(M':List aD):Prop:=(∀ b o,I b=some o->I' b=some o)/\∃ bs ds' r,M'=cg.aq ⟨A.b,bs,ds'⟩/\cg.ok I' ⟨A.b,bs,ds'⟩/\v=.int .i64 r/\w6 d l A.ds ds' r
def apX{A:cg}(dJ:A.ok I)(aB:A.ds.length<=1099511627776){d:ao}(ak:d.ok I)(ay:∀ k∈l,k<A.ds.length)(rY:l.length<=1099511627776)(af:de I a n c 1 8 ((l.map Int.ofNat).map (.int .i64 ·)))(j:Nat)(ai:j<10)(ae:d.k=j) :
  Spec Tryz.prog (ac5.getD j 0) [ptr A.b,d.val,.slice a n c] I A.aq (TH A d l I):=by
 have apY:∀ x∈l.map Int.ofNat,iR x:=λx ad=>by obtain⟨k,ae,rfl⟩:=cN.1 ad;have:=ay k ae;unfold iR;simp only[BL];omega
 have nB:¬ (d.k=4\/d.k=5)->Spec Tryz.prog yO [ptr A.b,d.val,.slice a n c] I A.aq (TH A d l I):=λbt=>by refine Spec.Nd (acU dJ aB ak af apY) ?_;rintro v I' M'⟨rfl,rfl,os,rfl,bx⟩;refine⟨λ_ _ h=>h,os,_,_,rfl,bx,rfl,?_⟩;unfold w6;rw[bR bt];exact⟨rfl,_,_,_,rfl⟩
 have ac6:∀ {k:Int},d.k=k+4->(k=0\/k=1)->∀ {f:Nat},Spec Tryz.prog f [ptr A.b,d.val,.slice a n c] I A.aq (TF A d (nothing k) l I)->Spec Tryz.prog f [ptr A.b,d.val,.slice a n c] I A.aq (TH A d l I):=fun {k} ae hd {f} h=>by refine Spec.Nd h ?_;rintro v I' M'⟨jh,os,ds',r,rfl,bx,rfl,h⟩;refine⟨jh,os,ds',r,rfl,bx,rfl,?_⟩;unfold w6;rw[bN (by omega),show d.k-4=k by omega];exact h
 match j,ai with
 |0,_=>exact nB (by omega)| 1,_=>exact nB (by omega)| 2,_=>exact nB (by omega)| 3,_=>exact nB (by omega)| 4,_=>exact ac6 (by omega) (.inl rfl) (apR dJ aB ak ay rY af)| 5,_=>exact ac6 (by omega) (.inr rfl) (apS dJ aB ak ay rY af)| 6,_=>exact nB (by omega)| 7,_=>exact nB (by omega)| 8,_=>exact nB (by omega)| 9,_=>exact nB (by omega)
def eL(l:List aK):List Int:=l.map λS=>(S.bh:Int)
def FD(a b:List aK):eL (a++b)=eL a++eL b:=cM
def apZ{ns:List ao}{T:aK}(h:hq (nodeAt ns T.bh)=none):T.parts ns=T.sub:=by
 unfold aK.parts;rw[h];have:∀ c:aK,aK.pb ns none c=[c]:=λc=>by
  cases c with
  |mk k ks=>rw[aK.yK,bR (by simp)]
 refine(r0 λc _=>this c).trans ?_;simp
def cq.w7{ns:List ao}:∀ {T:aK},cq ns T->(nodeAt ns T.bh).aw=eL T.sub
 | .mk k ks,h=>h.inv.2.1
def cq.C4{ns:List ao}:∀ {T:aK},cq ns T->∀ c∈T.sub,cq ns c
 | .mk k ks,h=>h.inv.2.2
def hr(l:List aK):Nat:=(l.map λS=>S.cE.length).sum
def AN(a b:List aK):hr (a++b)=hr a+hr b:=by unfold hr;rw[cM,qv]
def FE:∀ T:aK,T.cE.length=hr T.sub+1
 | .mk k ks=>by rw[aK.kJ,ch,x'];rfl
def ac7(a:List aK):hr a.reverse=hr a:=by unfold hr;rw[Tw,List.sum_reverse]
def AO:∀ l:List aK,l.length<=hr l
 |[]=>dD _| c::l=>by have:=AO l;have ab:=FE c;show l.length+1<=c.cE.length+hr l;omega
structure ap0(I:aJ)(A:cg)(cw:Option Int)(ap1:List aK)(sz:Nat)(lo da:aY)(hf aZ:List aK)(J:aJ):Prop where
 bk:∀ b o,I b=some o->J b=some o
 lo:lo.ok 1 ((eL hf).map (.int .i64 ·))
 da:da.ok 1 ((eL aZ).map (.int .i64 ·))
 dU:∀ S∈aZ,cq A.ds S
 same:hf++aZ.reverse.flatMap (aK.pb A.ds cw)=ap1
 sz:hf.length+hr aZ<=sz
def Jj(l:List Int)(n:Nat):(qZ l n).length=n:=by simp[qZ]
def ap2(l:List Int){k:Nat}(h:k<(qZ l n).length)(ae:n-1-k<l.length):(qZ l n)[k]=[.int .i64 ((n-1-k:Nat):Int),.int .i64 l[n-1-k]]:=by simp only[qZ,f',List.getElem_reverse,u5,wB];rw[bA,dg ae];rfl
def ap3{A:cg}(dJ:A.ok I)(aB:A.ds.length<=1099511627776){T:aK}(bu:cq A.ds T)(df:T.cE.length<=1099511627776) :
  Spec Tryz.prog 113 [ptr A.b,.int .i64 T.bh] I A.aq λv I' M'=>(∀ b o,I b=some o->I' b=some o)/\M'=A.aq/\∃ a n c,v=.slice a n c/\de I' a n c 1 8 ((eL (T.parts A.ds)).map (.int .i64 ·)):=by
 refine zc [7] a6 Tryz.func113 rfl rfl rfl ?_;intro B az;have cA:=bu.mJ;have ac8:=dJ.n;obtain⟨aS,bH,bl⟩:=aY.ok.row (I:=I) (M:=A.aq) ao.cP (by decide) dJ.os (e:=66) (λx ad=>by simp[cg.aq,ad]) (j:=T.bh) cA;have AF:=dJ.ds _ (br cA);have mI:=gm cA;have we:=bu.w7;generalize fk:A.ds[T.bh]=d at bl AF mI;rw[mI]at we;obtain⟨dc,cx,s1,s2,c1,s,lo,hi,dB,aN,dp,aw⟩:=d;refine aM.mk [A.os.val] (c4 (cs:=[A.os.val]) (k:=0) (n:=1) (T:=94) (by simp[cg.aq,cg.ak]) (by simp)) ?_;refine bd.mk aS T.bh bH rfl (by omega) ?_;refine aM.mk _ bl ?_;refine ct.mk (λaI=>?_) (λaI=>?_)
 case' refine_1=>
  have ap4:dc≠4:=by simpa using aI
  refine a2.mk (λbB=>?_) (λbB=>?_)
  case' refine_1=>
   have ap5:dc≠5:=by simpa using bB
   intro _;refine⟨_,_,.refl,λ_ _ h=>h,rfl,dB,aN,dp,rfl,?_⟩;rw[apZ (by rw[mI];unfold hq;rw[bR];simp[ap4,ap5]),<-we];exact AF.a0
  have eD:dc=4\/dc=5:=.inr (by simpa using bB)
 case' refine_2=>have eD:dc=4\/dc=5:=.inl (by simpa using aI)
 all_goals
  have s9:hq (nodeAt A.ds T.bh)=some dc:=by rw[mI];unfold hq;rw[bN eD]
  have w2:T.parts A.ds=T.sub.flatMap (aK.pb A.ds (some dc)):=by unfold aK.parts;rw[s9]
  refine bX.mk λb1 ho Nf=>?_;refine bX.mk λb7 yd Ng=>?_;refine b2.mk [] (⟨b1,_⟩::A.aq) _ _ rfl rfl (bJ rfl) rfl ?_;clear bH bl;refine di.vU (ι:=aY×aY×List aK×List aK×aJ) (λx=>{ bi:=[(0,.val (ptr A.b)),(5,.ref 5 0),(6,.val x.1.val),(7,.val (ptr b7))],cl:=[(5,ao.cells ⟨dc,cx,s1,s2,c1,s,lo,hi,dB,aN,dp,aw⟩)],cD:=x.2.2.2.2,c0:=⟨b7,.cells #[x.2.1.val] 55 (0,0)⟩::(x.2.1.aq 3++(x.1.aq 3++A.aq)) }) (λx=>ap0 I A (some dc) (T.parts A.ds) T.cE.length x.1 x.2.1 x.2.2.1 x.2.2.2.1 x.2.2.2.2) (λx=>hr x.2.2.2.1) ?_ ?_
  ·intro _;refine⟨(⟨none,0,0,[]⟩,⟨some b1,1,1,[.int .i64 T.bh]⟩,[],[T],I),⟨λ_ _ h=>h,⟨rfl,(λ_=>⟨rfl,rfl⟩),λg h=>by cases h⟩,⟨rfl,(λh=>by cases h),λdK kq=>⟨rfl,ca _,by simp[maxLen],rfl⟩⟩,λS cO=>?_,?_,?_⟩,.refl,ew,.cons rfl (.nil)⟩
   ·rw[ed.1 cO];exact bu
   ·rw[iz,zt,pM,w2];cases T with
    |mk k ks=>
    rw[aK.yK,bN (by rw[show nodeAt A.ds k=_ from mI])];rfl
   ·simp[hr]
  rintro⟨lo,da,hf,aZ,J⟩⟨bk,eS,ng,fc,q0,ac9⟩;simp only at bk eS ng fc q0 ac9;have gX:=eS.m7;have tL:=ng.m7;have e5:=AO aZ;simp only[eL,bI]at gX tL;refine aM.mk [da.val] (c4 (cs:=[da.val]) (k:=0) (n:=1) (T:=55) (.head _) (by simp)) ?_;refine a2.mk (λh=>?_) (λh=>?_)
  ·have ab9:0<da.n:=by have:(0:Int)<(da.n:Int):=dw h;omega
   obtain⟨fX,S,rfl⟩:∃ r p,aZ=r++[p]:=by
    rcases wb aZ with aa | ⟨r,p,aa⟩;·subst aa;simp at tL;omega
    ·exact⟨r,p,by simpa using aa⟩
   have cO:=fc S (by simp);have p6:=cO.mJ;have TI:=FE S;have u3:hr [S]=S.cE.length:=by simp[hr]
   have C5:=AO S.sub;rw[AN,u3,TI]at ac9 e5;have jm:da.n=fX.length+1:=by have dW:=tL;simp only[ch,pN]at dW;omega
   rw[ya,zt,rW,j6]at q0;obtain⟨aS,bH,bl⟩:=aY.Ca (I:=J) (e:=3) (M:=⟨b7,.cells #[da.val] 55 (0,0)⟩::(da.aq 3++(lo.aq 3++A.aq))) ng (λx ad=>by simp[ad]) (j:=fX.length) (by simp[eL]);have yP:(eL (fX++[S]))[fX.length]'(by simp[eL])=(S.bh:Int):=by simp[eL]
   rw[yP]at bl;have oh:=ng;rw[FD,cM]at oh;have oh:aY.ok ⟨da.a,da.n-1,da.c,da.aT⟩ 1 ((eL fX).map (.int .i64 ·)):=aY.pop oh;have he:da.n-1=fX.length:=by omega
   rw[he]at oh;have I3:fX.length<=da.c:=by
    cases w3:da.a with
    |none=>have:=(ng.nil w3).1;omega| some I4=>have:=(ng.cap I4 w3).2.1;omega
   refine aM.mk [da.val] (c4 (cs:=[da.val]) (k:=0) (n:=1) (T:=55) (.head _) (by simp)) ?_;refine aM.mk [da.val] (c4 (cs:=[da.val]) (k:=0) (n:=1) (T:=55) (.head _) (by simp)) ?_;refine bg.mk ((fX.length:Nat):Int) (by show IntKind.i64.wrap ((da.n:Int)-1)=_;rw[wrap_i64 ⟨by omega,by omega⟩];omega) ?_;refine bd.mk aS fX.length bH rfl (show fX.length<da.n by omega) ?_;refine aM.mk _ bl ?_;refine aM.mk [da.val] (c4 (cs:=[da.val]) (k:=0) (n:=1) (T:=55) (.head _) (by simp)) ?_;refine aM.mk [da.val] (c4 (cs:=[da.val]) (k:=0) (n:=1) (T:=55) (.head _) (by simp)) ?_;refine bg.mk ((fX.length:Nat):Int) (by show IntKind.i64.wrap ((da.n:Int)-1)=_;rw[wrap_i64 ⟨by omega,by omega⟩];omega) ?_;refine l6.mk 0 fX.length rfl rfl (dD _) I3 ?_;refine b2.mk [] (da.aq 3++(lo.aq 3++A.aq)) #[da.val] 55 rfl rfl (bJ rfl) rfl ?_;have ada:=dJ.mono bk;obtain⟨Nh,Jk,FF⟩:=aY.ok.row (I:=J) (M:=⟨b7,.cells #[(⟨da.a,fX.length,da.c,da.aT⟩:aY).val] 55 (0,0)⟩::(da.aq 3++(lo.aq 3++A.aq))) ao.cP (by decide) ada.os (e:=66) (λx ad=>by simp[cg.aq,ad]) (j:=S.bh) p6;have Ni:=gm p6;have Nj:=ada.ds _ (br p6);have Nk:=cO.w7;rw[Ni]at Nk;generalize adb:A.ds[S.bh]=se at FF Ni Nj Nk;refine cV.draw a6 rfl rfl rfl ?_;refine aM.mk [A.os.val] (c4 (cs:=[A.os.val]) (k:=0) (n:=1) (T:=94) (by simp[cg.aq,cg.ak]) (by simp)) ?_;refine bd.mk Nh S.bh Jk rfl (by omega) ?_;refine aM.mk _ (cF.part (k:=0) (m:=1) FF (by decide)) ?_;refine a2.mk (λb4=>?_) (λb4=>?_)
   ·have bt:se.k≠dc:=by simpa using b4
    have TJ:aK.pb A.ds (some dc) S=[S]:=by
     cases S with
     |mk k ks=>
     rw[aK.yK,bR];intro e;rw[show nodeAt A.ds k=se from Ni]at e;exact bt (fh e)
    rw[TJ,rW]at q0;refine bX.mk λb9 jM s8=>?_;refine bz.oZ a6 rfl (by simp) (e:=3) rfl rfl rfl lo eS rfl (cs:=[.int .i64 S.bh]) rfl rfl rfl (⟨b7,.cells #[(⟨da.a,fX.length,da.c,da.aT⟩:aY).val] 55 (0,0)⟩::da.aq 3) A.aq rfl (by omega) (by show(lo.n+1)*8<=_;omega) ?_;intro Ai aa ab aj;intro _;refine⟨(Ai,⟨da.a,fX.length,da.c,da.aT⟩,hf++[S],fX,J),⟨⟨bk,?_,oh,λx ad=>fc x (by simp[ad]),?_,?_⟩,?_⟩,.refl,ew,.cons rfl (.nil)⟩;·rw[FD,cM];exact aj
    ·rw[dV,rW];exact q0
    ·show(hf++[S]).length+hr fX<=T.cE.length;rw[ch,pN];omega
    ·show hr fX<hr (fX++[S]);rw[AN,u3];omega
   ·have he:se.k=dc:=by simpa using b4
    have TJ:aK.pb A.ds (some dc) S=S.sub.flatMap (aK.pb A.ds (some dc)):=by
     cases S with
     |mk k ks=>
     rw[aK.yK,bN];·rfl
     ·rw[show nodeAt A.ds k=se from Ni,he]
    have e':=Nj.aN;have rU:=Nj.a0.cap;have Nl:se.aw.length=S.sub.length:=by rw[Nk];simp[eL]
    refine aM.mk [A.os.val] (c4 (cs:=[A.os.val]) (k:=0) (n:=1) (T:=94) (by simp[cg.aq,cg.ak]) (by simp)) ?_;refine bd.mk Nh S.bh Jk rfl (by omega) ?_;refine aM.mk _ (cF.part (k:=8) (m:=1) FF (by decide)) ?_;refine be.mk [] _ _ (.refl _) (apU se.dB se.aN se.dp) ?_;rintro v iJ M1 -⟨cJ,rfl,Ef,hT,rfl⟩;have ap6:∀ b o,I b=some o->iJ b=some o:=λb o h=>hT _ _ (bk _ _ h);refine cV.range a6 rfl rfl rfl .refl (apV (Nj.a0.mono hT) Ef) (λvs h=>?_) (λk I' M'=>∃ fI:aY,(∀ b o,iJ b=some o->I' b=some o)/\fI.ok 1 ((eL (fX++S.sub.reverse.take k)).map (.int .i64 ·))/\M'=⟨b7,.cells #[fI.val] 55 (0,0)⟩::(fI.aq 3++(lo.aq 3++A.aq))) (λex I' M'=>False) ⟨⟨da.a,fX.length,da.c,da.aT⟩,λ_ _ h=>h,by simpa using oh,rfl⟩ ?_ ?_ (λex I' M' _ h=>h.elim);·obtain⟨p,_,rfl⟩:=cN.1 h;rfl
    ·rintro k ae I' M' -⟨fI,jh,q1,rfl⟩l B az iO;have eN:k<S.sub.length:=by rw[Jj]at ae;omega
     have ah:=ap2 se.aw ae (by rw[Jj]at ae;omega);have ff:se.aw[se.aN-1-k]'(by rw[Jj]at ae;omega)=((S.sub.reverse[k]'(by rw[CM];exact eN)).bh:Int):=by
      have aa:se.aw[se.aN-1-k]?=(eL S.sub)[se.aN-1-k]?:=by rw[Nk]
      rw[dg (by rw[Jj]at ae;omega)]at aa;unfold eL at aa;rw[jH,dg (by omega)]at aa;rw[fh aa,List.getElem_reverse];congr 3;omega
     rw[ff]at ah;rw[ah];have ap7:=q1.m7;simp only[eL,bI,ch,hx,CM]at ap7;refine aM.mk [fI.val] (c4 (cs:=[fI.val]) (k:=0) (n:=1) (T:=55) (.head _) (by simp)) ?_;refine bX.mk λb9 jM s8=>?_;refine bz.oZ a6 rfl (by simp) (e:=3) rfl rfl rfl fI q1 rfl (cs:=[.int .i64 (S.sub.reverse[k]'(by rw[CM];exact eN)).bh]) rfl rfl rfl [_] (lo.aq 3++A.aq) rfl (by omega) (by show(fI.n+1)*8<=_;omega) ?_;intro w8 aa ab aj;refine b2.mk [] (w8.aq 3++(lo.aq 3++A.aq)) #[fI.val] 55 rfl rfl (bJ rfl) rfl ?_;refine⟨_,_,.refl,w8,jh,?_,rfl⟩;rw[gg (by rw[CM];exact eN),<-dV,FD,cM];exact aj
    ·rintro I' M' -⟨fI,jh,q1,rfl⟩;rw[Jj,fA (by rw[CM];omega)]at q1;intro _;refine⟨(lo,fI,hf,fX++S.sub.reverse,I'),⟨⟨λb o h=>jh _ _ (ap6 _ _ h),eS,q1,λx ad=>?_,?_,?_⟩,?_⟩,.refl,ew,.cons rfl (.nil)⟩
     ·rcases cB.1 ad with ad | ad
      ·exact fc x (by simp[ad])
      ·exact cO.C4 x (SD.1 ad)
     ·rw[ya,RQ,hg,<-TJ];exact q0
     ·show hf.length+hr (fX++S.sub.reverse)<=T.cE.length;rw[AN,ac7];omega
     ·show hr (fX++S.sub.reverse)<hr (fX++[S]);rw[AN,AN,ac7,u3];omega
  ·have az:da.n=0:=by have:¬ (0:Int)<(da.n:Int):=ek h;omega
   obtain rfl:aZ=[]:=iy (by omega);intro fD;have fD:l7 J (⟨b7,.cells #[da.val] 55 (0,0)⟩::(da.aq 3++(lo.aq 3++A.aq))):=fD;have E9:hf=T.parts A.ds:=by simpa using q0
   subst E9;have k5:(⟨b7,.cells #[da.val] 55 (0,0)⟩::(da.aq 3++(lo.aq 3++A.aq)):List aD).Perm (lo.aq 3++(A.aq++([⟨b7,.cells #[da.val] 55 (0,0)⟩]++da.aq 3))):=by have:=eI (l₁:=([⟨b7,.cells #[da.val] 55 (0,0)⟩]++da.aq 3:List aD)) (l₂:=lo.aq 3++A.aq);simpa using this
   have au:∀ g,lo.a=some g->J g=none/\g ∉ A.aq.map (·.num):=λg au=>by
    have ag:lo.aq 3=[⟨g,.cells lo.aT.toArray 3 (0,0)⟩]:=by unfold aY.aq;rw[au]
    have bF:=(k5.map (·.num)).nodup_iff.1 fD.cd;rw[ag]at bF;refine⟨fD.d ⟨g,.cells lo.aT.toArray 3 (0,0)⟩ (by simp[ag]),λhm=>?_⟩;rw[cM]at bF;simp only[b0,hy,rW,lL,cM]at bF;exact bF.1 (hY _ hm)
   obtain⟨dI,hw,e4,ep,-⟩:=aY.zV (b:=8) (e:=3) eS (by omega) au (A.aq++([⟨b7,.cells #[da.val] 55 (0,0)⟩]++da.aq 3));exact⟨dI,A.aq,.perm k5 (hw _ _ (.sub (tK _ _) .refl)),λb o h=>e4 _ _ (bk _ _ h),rfl,_,_,_,rfl,ep⟩
def yQ(l:List Nat):List Int:=l.map λx:Nat=>(x:Int)
structure Nm(I:aJ)(A:cg)(T:aK)(lo da:aY)(hf:List Nat)(aZ:List aK)(os:aY)(ds:List ao)(J:aJ):Prop where
 bk:∀ b o,I b=some o->J b=some o
 ok:cg.ok J ⟨A.b,os,ds⟩
 lo:lo.ok 1 ((yQ hf).map (.int .i64 ·))
 da:da.ok 1 ((eL aZ).map (.int .i64 ·))
 dU:∀ S∈aZ,cq A.ds S
 cd:(hf++aZ.flatMap aK.cE).Nodup
 len:ds.length=A.ds.length
 a:os.a=A.os.a
 same:∀ w,w ∉ hf->nodeAt ds w=nodeAt A.ds w
 done:∀ w∈hf,∃ S a n c,cq A.ds S/\S.bh=w/\nodeAt ds w=(nodeAt A.ds w).row a n c (eL (S.parts A.ds))
 out:hf++aZ.reverse.flatMap (λS=>(S.bo A.ds).cE.reverse)=(T.bo A.ds).cE.reverse
def Nm.lt{A:cg}{T:aK}{lo da:aY}{hf:List Nat}{aZ:List aK}{ds:List ao}(h:Nm I A T lo da hf aZ os ds J):hf.length+hr aZ<=A.ds.length:=by
 have aa:=M6 (n:=A.ds.length) h.cd λx ad=>by
  rcases cB.1 ad with ad | ad;·obtain⟨S,-,-,-,cO,rfl,-⟩:=h.done x ad;exact cO.mJ
  ·obtain⟨S,cO,ad⟩:=hb.1 ad;exact(h.dU S cO).lt x ad
 rw[ch,x']at aa;exact aa
def l7.FG{foot:List Nat}(fD:l7 J M)(aC:M.Perm (os.aq e++Mr))(aA:∀ x∈foot,x∈Mr.map (·.num)):∀ g,os.a=some g->J g=none/\g ∉ foot:=λg au=>by
 have ag:os.aq e=[⟨g,.cells os.aT.toArray e (0,0)⟩]:=by unfold aY.aq;rw[au]
 have bF:=(aC.map (·.num)).nodup_iff.1 fD.cd;refine⟨fD.d ⟨g,.cells os.aT.toArray e (0,0)⟩ (aC.mem_iff.2 (by rw[ag];exact .head _)),λhm=>?_⟩;rw[ag,cM]at bF;simp only[b0,hy,rW,lL]at bF;exact bF.1 (aA g hm)
def ap8{bs:aY}(h:os.val=bs.val):os.a.map (λg=>(⟨g,0,none⟩:Addr))=bs.a.map (λg=>(⟨g,0,none⟩:Addr)):=by unfold aY.val at h;injection h
structure ade(d:ao)(ei:List Int)(y:Nat×aY×List Int):Prop where
 k:y.1<=d.aN
 ok:y.2.1.ok 1 (y.2.2.map (.int .i64 ·))
 eq:y.2.2=(d.aw.take y.1).map (λk=>ei.getD k.toNat 0)
def ap9{ns:List ao}(h:∀ w,(nodeAt dO w).k=(nodeAt ns w).k)(cw:Option Int):∀ S:aK,S.pb dO cw=S.pb ns cw:=by
 intro S
 induction S using aK.ind with
 |h k ks aL=>
  rw[aK.yK,aK.yK,h k];split;·exact r0 λc an=>aL c an
  ·rfl
def aqa{d e:ao}(h:d.k=e.k):hq d=hq e:=by unfold hq;rw[h]
def aqb{ns:List ao}(h:∀ w,(nodeAt dO w).k=(nodeAt ns w).k)(S:aK):S.parts dO=S.parts ns:=by unfold aK.parts;rw[aqa (h S.bh)];exact r0 λc an=>ap9 h _ c
def ao.aqc(d:ao)(a:Option Addr)(n c:Nat)(ks:List Int):cm d.cells 8 [.slice a n c]=(d.row a n c ks).cells:=rfl
def aqd{ns:List ao}:∀ {T:aK},cq ns T->pQ ns T.hh:=by
 intro T
 induction T using aK.ind with
 |h k ks aL=>
  intro h;obtain⟨aa,ab,aj⟩:=h.inv;have aA:pQ ns (ks.flatMap aK.hh):=by
   have:∀ l:List aK,(∀ c∈l,pQ ns c.hh)->pQ ns (l.flatMap aK.hh):=λl=>by
    induction l with
    |nil=>intro _ i h;simp at h| cons c l Jl=>intro ay;rw[j6];exact(ay c (.head _)).append (Jl λx ad=>ay x (.tail _ ad))
   exact this ks λc an=>aL c an (aj c an)
  rw[aK.Jh];intro i hi x ad;by_cases e:i<(ks.flatMap aK.hh).length;·rw[zL e]at ad;rw[Bt (by omega)];exact aA i e x ad
  ·rw[ch,pN]at hi;have aF:i=(ks.flatMap aK.hh).length:=by omega
   subst aF;rw[Ev (ca _)]at ad;simp only[pL,List.getElem_singleton,g6]at ad;rw[ze];rw[ab]at ad;obtain⟨c,an,rfl⟩:=cN.1 ad;exact hb.2 ⟨c,an,cN.2 ⟨c.bh,c.Fz,rfl⟩⟩
def aqe{ns:List ao}:∀ {T:aK},cq ns T->∀ x∈T.cE,∀ q∈(nodeAt ns x).aw,0<=q/\q<ns.length:=by
 intro T
 induction T using aK.ind with
 |h k ks aL=>
  intro h x ad q aR;obtain⟨aa,ab,aj⟩:=h.inv;rw[aK.kJ]at ad;rcases cB.1 ad with ad | ad;·obtain⟨c,an,ad⟩:=hb.1 ad;exact aL c an (aj c an) x ad q aR
  ·rw[ed.1 ad,ab]at aR;obtain⟨c,an,rfl⟩:=cN.1 aR;have:=(aj c an).mJ;omega
def aK.aqf(ns:List ao)(S:aK):((S.parts ns).flatMap aK.cE).Sublist (S.sub.flatMap aK.cE):=by unfold aK.parts;rw[CZ];exact FB λc an=>aK.api ns _ c
def aqg{ds:List ao}{j:Nat}(ai:j<ds.length)(x:ao)(w:Nat):nodeAt (ds.set j x) w=if w=j then x else nodeAt ds w:=by
 unfold nodeAt;rw[bA,bA,ih];by_cases e:w=j
 ·subst e;rw[bN rfl,bN ai,bN rfl];rfl
 ·rw[bR (λh=>e h.symm),bR e]
def aqh(ns:List ao)(S:aK):(S.bo ns).cE.reverse=S.bh::(S.parts ns).reverse.flatMap λc=>(c.bo ns).cE.reverse:=by
 have h:=aK.acK ns S;have ay:=aK.acJ ns S;generalize S.bo ns=O at h ay;cases O with
 |mk k ks=>
 obtain rfl:k=S.bh:=ay;rw[aK.kJ,show ks=_ from h,ya,zt,rW,List.reverse_flatMap,<-Tw,Ax];rfl
def aqi{A:cg}(dJ:A.ok I)(aB:A.ds.length<=1099511627776)(ae:sc A.ds)(ak:hR (eO A.ds)){T:aK}(bu:cq A.ds T) :
  Spec Tryz.prog 62 [ptr A.b,.int .i64 T.bh] I A.aq λv I' M'=>(∀ b o,I b=some o->I' b=some o)/\M'=[]/\∃ bq:bS,v=bq.val/\bq.ok I'/\pd bq (T.bare A.ds).bo:=by
 refine zc [] a6 Tryz.func62 rfl rfl rfl ?_;intro B az;refine bX.mk λb1 ho Nf=>?_;refine di.inv (ι:=aY×aY×List Nat×List aK×aY×List ao×aJ) (λx=>{ bi:=[(0,.val (ptr A.b)),(4,.ref 4 0),(5,.val x.1.val),(6,.val x.2.1.val)],cl:=[(4,[.slice none 0 0,.int .i64 0])],cD:=x.2.2.2.2.2.2,c0:=x.2.1.aq 3++(x.1.aq 3++cg.aq ⟨A.b,x.2.2.2.2.1,x.2.2.2.2.2.1⟩) }) (λx=>Nm I A T x.1 x.2.1 x.2.2.1 x.2.2.2.1 x.2.2.2.2.1 x.2.2.2.2.2.1 x.2.2.2.2.2.2) (λx=>hr x.2.2.2.1) ?_ ?_
 ·refine⟨(⟨none,0,0,[]⟩,⟨some b1,1,1,[.int .i64 T.bh]⟩,[],[T],A.os,A.ds,I),⟨λ_ _ h=>h,dJ,⟨rfl,(λ_=>⟨rfl,rfl⟩),λg h=>by cases h⟩,⟨rfl,(λh=>by cases h),λdK kq=>⟨rfl,ca _,by simp[maxLen],rfl⟩⟩,λS cO=>?_,?_,rfl,rfl,λw _=>rfl,(λw hw=>by cases hw),?_⟩,.refl,ew,.cons rfl (.nil)⟩
  ·rw[ed.1 cO];exact bu
  ·rw[iz,pM];exact bu.nodup ae ak
  ·rw[iz,zt,pM]
 rintro⟨lo,da,hf,aZ,os,ds,J⟩bw;have bw:Nm I A T lo da hf aZ os ds J:=bw;have aX:=bw.lt;obtain⟨bk,bx,eS,ng,fc,bF,c2,adf,q0,Av,yI⟩:=bw;have gX:=eS.m7;have tL:=ng.m7;have e5:=AO aZ;simp only[eL,yQ,bI]at gX tL;refine a2.mk (λh=>?_) (λh=>?_)
 ·have ab9:0<da.n:=by have:(0:Int)<(da.n:Int):=dw h;omega
  obtain⟨fX,S,rfl⟩:∃ r p,aZ=r++[p]:=by
   rcases wb aZ with aa | ⟨r,p,aa⟩;·subst aa;simp at tL;omega
   ·exact⟨r,p,by simpa using aa⟩
  have cO:=fc S (by simp);have p6:=cO.mJ;have TI:=FE S;have u3:hr [S]=S.cE.length:=by simp[hr]
  have C5:=AO S.sub;rw[AN,u3,TI]at aX e5;have jm:da.n=fX.length+1:=by have dW:=tL;simp only[ch,pN]at dW;omega
  have TK:∀ w∈S.cE,w ∉ hf:=λw hw x5=>by have:=(uq.1 bF).2.2 w x5 w (by rw[hg,pM];exact qg _ hw);exact this rfl
  have adb:cq ds S:=cO.congr λw hw=>⟨by rw[c2];exact cO.lt w hw,by rw[q0 w (TK w hw)]⟩;have ff:∀ w,(nodeAt ds w).k=(nodeAt A.ds w).k:=λw=>by
   by_cases hw:w∈hf;·obtain⟨ke,a,n,c,-,-,e⟩:=Av w hw;rw[e];rfl
   ·rw[q0 w hw]
  have SB:S.parts ds=S.parts A.ds:=aqb ff S;obtain⟨aS,bH,bl⟩:=aY.Ca (I:=J) (e:=3) (M:=da.aq 3++(lo.aq 3++cg.aq ⟨A.b,os,ds⟩)) ng (λx ad=>by simp[ad]) (j:=fX.length) (by simp[eL]);have yP:(eL (fX++[S]))[fX.length]'(by simp[eL])=(S.bh:Int):=by simp[eL]
  rw[yP]at bl;have oh:=ng;rw[FD,cM]at oh;have oh:aY.ok ⟨da.a,da.n-1,da.c,da.aT⟩ 1 ((eL fX).map (.int .i64 ·)):=aY.pop oh;have he:da.n-1=fX.length:=by omega
  rw[he]at oh;have I3:fX.length<=da.c:=by
   cases w3:da.a with
   |none=>have:=(ng.nil w3).1;omega| some I4=>have:=(ng.cap I4 w3).2.1;omega
  refine bg.mk ((fX.length:Nat):Int) (by show IntKind.i64.wrap ((da.n:Int)-1)=_;rw[wrap_i64 ⟨by omega,by omega⟩];omega) ?_;refine bd.mk aS fX.length bH rfl (show fX.length<da.n by omega) ?_;refine aM.mk _ bl ?_;refine cV.draw a6 rfl rfl rfl ?_;refine aM.mk [os.val] (c4 (cs:=[os.val]) (k:=0) (n:=1) (T:=94) (by simp[cg.aq,cg.ak]) (by simp)) ?_;refine d'.oE (cg.aq ⟨A.b,os,ds⟩) (da.aq 3++(lo.aq 3++[])) _ ?_ (ap3 (A:=⟨A.b,os,ds⟩) bx (by simp only;omega) adb (by omega)) ?_ ?_;·have:=eI (l₁:=(da.aq 3++lo.aq 3)) (l₂:=cg.aq ⟨A.b,os,ds⟩);simpa using this
  ·rintro v I' M'⟨-,rfl,-⟩x ad;exact ad
  rintro v iJ M1 -⟨hT,rfl,a,n,c,rfl,ep⟩;simp only at ep;rw[SB]at ep;have zI:S.bh<ds.length:=by omega
  have xQ:=bx.mono hT;obtain⟨Nh,Jk,FF⟩:=aY.ok.row (I:=iJ) (M:=cg.aq ⟨A.b,os,ds⟩++(da.aq 3++(lo.aq 3++[]))) ao.cP (by decide) xQ.os (e:=66) (λx ad=>by simp[cg.aq,ad]) (j:=S.bh) zI;refine bd.mk Nh S.bh Jk rfl (by have:=xQ.n;simp only at this |-;omega) ?_;refine aY.L' ao.cells 9 ao.cP (e:=66) xQ.os zI 8 (vs:=[.slice a n c]) (bJ rfl) rfl (ds[S.bh].row a n c (eL (S.parts A.ds))) (ao.aqc _ _ _ _ _) [⟨A.b,.cells #[os.val] 94 (0,0)⟩] (da.aq 3++(lo.aq 3++[])) rfl Jk ?_;intro kd nw nM ob Jm;obtain⟨AP,C6⟩:∃ AP,ds.set S.bh (ds[S.bh].row a n c (eL (S.parts A.ds)))=AP:=⟨_,rfl⟩;rw[C6]at Jm;have r7:AP.length=ds.length:=by rw[<-C6,n5]
  have TL:∀ w,nodeAt AP w=if w=S.bh then(nodeAt A.ds S.bh).row a n c (eL (S.parts A.ds))else nodeAt ds w:=λw=>by rw[<-C6,aqg zI,<-gm zI,q0 _ (TK _ S.Fz)]
  have kx:=S.aqf A.ds;have avW:hr (S.parts A.ds)<=hr S.sub:=by have:=kx.length_le;rw[x',x']at this;exact this
  have jz:=AO (S.parts A.ds);have ry:n=(S.parts A.ds).length:=by have:=ep.len;simp only[eL,bI]at this;omega
  have GN:(ds[S.bh].row a n c (eL (S.parts A.ds))).ok iJ:=by
   have aa:=(xQ.ds _ (br zI)).row ep λx ad=>by obtain⟨c',zj,rfl⟩:=cN.1 ad;have:=(aK.acL A.ds cO c' zj).mJ;unfold iR;omega
   exact aa
  have dW:kd.n=AP.length:=by rw[ob,r7];exact xQ.n
  have mc:cg.ok iJ ⟨A.b,kd,AP⟩:=⟨Jm,dW,λx ad=>by
   rw[<-C6]at ad;rcases yy ad with ad | rfl;·exact xQ.ds x ad
   ·exact GN⟩
  obtain⟨aqj,adg,FH⟩:=aY.ok.row (I:=iJ) (M:=[⟨A.b,.cells #[os.val] 94 (0,0)⟩]++(kd.aq 66++(da.aq 3++(lo.aq 3++[])))) ao.cP (by decide) Jm (e:=66) (λx ad=>by simp[ad]) (j:=S.bh) (by omega);have my:AP[S.bh]'(by omega)=ds[S.bh].row a n c (eL (S.parts A.ds)):=by have aa:=TL S.bh;rw[bN rfl,gm (by omega),<-q0 _ (TK _ S.Fz),gm zI]at aa;exact aa
  rw[my]at FH;have Nn:=ep.cap;refine cV.draw a6 rfl rfl rfl ?_;refine bg.mk ((fX.length:Nat):Int) (by show IntKind.i64.wrap ((da.n:Int)-1)=_;rw[wrap_i64 ⟨by omega,by omega⟩];omega) ?_;refine l6.mk 0 fX.length rfl rfl (dD _) I3 ?_;refine aM.mk [os.val] (c4 (cs:=[os.val]) (k:=0) (n:=1) (T:=94) (by simp) (by simp)) ?_;refine bd.mk aqj S.bh (by rw[nM]at adg;exact adg) rfl (by have:=xQ.n;simp only at this |-;omega) ?_;refine aM.mk _ (FH.part (k:=8) (m:=1) (by decide)) ?_;refine bz.EG a6 rfl (by simp) (e:=3) rfl rfl rfl ⟨da.a,fX.length,da.c,da.aT⟩ oh rfl (sa:=a) (m:=n) (c':=c) (b8:=(eL (S.parts A.ds)).map (.int .i64 ·)) rfl (by rw[bI,ry];simp[eL]) (λaz=>ep.CR _ az) (I0 _) ([⟨A.b,.cells #[os.val] 94 (0,0)⟩]++kd.aq 66) (lo.aq 3++[]) rfl (by simp only;omega) (by show(fX.length+n)*8<=_;omega) ?_;intro s5 acb acc jL;rw[<-cM,<-FD]at jL;refine bX.mk λbW gY KY=>?_;refine bz.oZ a6 rfl (by simp) (e:=3) rfl rfl rfl lo eS rfl (cs:=[.int .i64 S.bh]) rfl rfl rfl ([⟨A.b,.cells #[os.val] 94 (0,0)⟩]++kd.aq 66++s5.aq 3) [] (congrArg (List.cons _) (dV _ _ _).symm) (by omega) (by show(lo.n+1)*8<=_;omega) ?_;intro No avX avY aqk;refine⟨(No,s5,hf++[S.bh],fX++S.parts A.ds,kd,AP,iJ),⟨⟨λb o h=>hT _ _ (bk _ _ h),mc,?_,jL,λx ad=>?_,?_,r7.trans c2,nM.trans adf,λw hw=>?_,λw hw=>?_,?_⟩,?_⟩,.perm ?_ .refl,ew,.cons rfl (.nil)⟩;·show No.ok 1 ((yQ (hf++[S.bh])).map (.int .i64 ·));unfold yQ;rw[cM,cM];exact aqk
  ·rcases cB.1 ad with ad | ad
   ·exact fc x (by simp[ad])
   ·exact aK.acL A.ds cO x ad
  ·have aa:((hf++[S.bh])++(fX++S.parts A.ds).flatMap aK.cE).Perm (hf++(fX.flatMap aK.cE++((S.parts A.ds).flatMap aK.cE++[S.bh]))):=by rw[dV,hg];refine Tv hf ?_;have:=eI (l₁:=[S.bh]) (l₂:=fX.flatMap aK.cE++(S.parts A.ds).flatMap aK.cE);simpa using this
   refine aa.nodup_iff.2 (List.Nodup.sublist ?_ bF);rw[hg,pM];refine(M3 _).append ((M3 _).append ?_);have:S.cE=S.sub.flatMap aK.cE++[S.bh]:=by cases S;exact aK.kJ _ _
   rw[this];exact kx.append (.refl _)
  ·rw[TL,bR (λe=>hw (by rw[e];simp)),q0 w (λh=>hw (hY _ h))]
  ·rw[TL];by_cases e:w=S.bh
   ·subst e;rw[bN rfl];exact⟨S,a,n,c,cO,rfl,rfl⟩
   ·rw[bR e];rcases cB.1 hw with hw | hw
    ·exact Av w hw
    ·exact absurd (ed.1 hw) e
  ·rw[<-yI,ya,ya,hg,hg,zt,pM,aqh A.ds S,dV];rfl
  ·show hr (fX++S.parts A.ds)<hr (fX++[S]);rw[AN,AN,u3];omega
  ·show List.Perm _ (s5.aq 3++(No.aq 3++(⟨A.b,.cells #[kd.val] 94 (0,0)⟩::kd.aq 66)));rw[nw];have:=eI (l₁:=(⟨A.b,.cells #[os.val] 94 (0,0)⟩::kd.aq 66)) (l₂:=s5.aq 3++No.aq 3);simpa using this
 ·have az:da.n=0:=by have:¬ (0:Int)<(da.n:Int):=ek h;omega
  obtain rfl:aZ=[]:=iy (by omega);have E9:hf.reverse=(T.bo A.ds).cE:=by rw[List.reverse_nil,List.flatMap_nil,ee]at yI;rw[yI,RQ]
  obtain⟨rb,nj⟩:∃ rb,(T.bo A.ds).hh=rb:=⟨_,rfl⟩;have aql:yQ hf.reverse=rb:=by rw[E9,<-nj];rfl
  have ff:∀ w,(nodeAt ds w).bare=(nodeAt A.ds w).bare:=λw=>by
   by_cases hw:w∈hf;·obtain⟨ke,a,n,c,-,-,e⟩:=Av w hw;rw[e];rfl
   ·rw[q0 w hw]
  have adh:(T.bo A.ds).cE.Nodup:=(bu.nodup ae ak).sublist (aK.apk _ T);have vy:cq ds (T.bo A.ds):=aK.apo A.ds bu λS cO hm=>by rw[<-E9]at hm;obtain⟨ke,a,n,c,Mn,e,a7⟩:=Av S.bh (SD.1 hm);obtain rfl:=Mn.ape cO e;exact⟨by rw[c2];exact cO.mJ,by rw[a7];rfl⟩
  have aqm:(T.bo A.ds).bare ds=(T.bare A.ds).bo:=by rw[aK.acQ A.ds _ λx ad=>ff x,aK.apr]
  have adi:=ac2 vy adh;rw[nj,aqm]at adi;have CU:=sub_fold (t:=mB ds) (rb:=rb) (by
   rw[<-nj];exact Fg.2 (List.Pairwise.imp (fun {a b} bt e=>bt (by omega)) adh)) (by
   rw[<-nj];exact aqd vy) (λk ae=>by
   rw[<-nj]at ae;obtain⟨x,ad,rfl⟩:=cN.1 ae;have:=vy.lt x ad;exact⟨by omega,by show(x:Int)<ds.length;omega⟩)
  have uB:lo.ok 1 ((yQ hf).map (.int .i64 ·)):=eS;have ac8:os.n=ds.length:=bx.n;refine be.mk (lo.aq 3++[]) (da.aq 3++cg.aq ⟨A.b,os,ds⟩) _ ?_ (ab8 (M0:=[]) uB (by show lo.n<=_;omega)) ?_;·have:=(eI (l₁:=lo.aq 3) (l₂:=da.aq 3)).append_right (cg.aq ⟨A.b,os,ds⟩);simpa using this.symm
  rintro v iJ M1 -⟨hT,back,adj,ud,rfl⟩;subst iJ;have mf:(yQ hf).reverse=rb:=by rw[<-aql];unfold yQ;rw[Tw]
  rw[mf]at ud;have Br:=ud.m7;have rY:lo.n=back.n:=(I2 adj).1.symm;have fv:rb.length=lo.n:=by rw[<-mf,CM];unfold yQ;rw[bI];omega
  refine aM.mk [os.val] (c4 (cs:=[os.val]) (k:=0) (n:=1) (T:=94) (by simp[cg.aq,cg.ak]) (by simp)) ?_;refine mO.mk os.n os.n rfl rfl (ca _) (by show 8*os.n<=_;omega) (by omega) ?_;refine bX.mk λb9 jM u1=>?_;refine mO.mk 0 lo.n rfl rfl (dD _) (by show 96*lo.n<=_;omega) (by omega) ?_;refine bX.mk λb7 yd Lx=>?_;have wT:(rowOf [Value.int .i64 0] (os.n*1))=(List.replicate ds.length (0:Int)).map (Value.int .i64):=by rw[tv,xI,e2,ac8]
  have TM:∀ (P:List Int) (out eh:aY),∀ x∈A.aq.map (·.num),x∈(dE b9 P::(out.aq 66++(back.aq 3++cg.aq ⟨A.b,os,ds⟩))).map (·.num):=λP out eh x ad=>by
   have e:(cg.aq ⟨A.b,os,ds⟩).map (·.num)=A.aq.map (·.num):=by
    show A.b::(os.aq 66).map (·.num)=A.b::(A.os.aq 66).map (·.num);unfold aY.aq;rw[adf];cases A.os.a<;>rfl
   rw[<-e]at ad;simp only[b0,cM];exact nQ _ (qg _ (qg _ ad))
  refine di.vU (ι:=Nat×List Int×aY×List ao×aJ) (λx=>{ bi:=[(0,.val (ptr A.b)),(4,.ref 4 0),(8,.val (.slice (some ⟨b9,0,none⟩) os.n os.n)),(9,.val x.2.2.1.val),(66,.val lo.val),(67,.val (.int .i64 lo.n)),(68,.val (.int .i64 x.1))],cl:=[(4,[.slice none 0 0,.int .i64 0])],cD:=x.2.2.2.2,c0:=dE b9 x.2.1::(x.2.2.1.aq 66++(back.aq 3++cg.aq ⟨A.b,os,ds⟩)) }) (XT J (mB ds) rb) (λx=>rb.length-x.1) ?_ ?_
  ·intro _;refine⟨(0,List.replicate ds.length 0,⟨some b7,0,lo.n,rowOf [.int .u8 0,.int .u64 0,.int .u64 0,.int .u64 0,.int .u64 0,.string ⟨#[]⟩,.int .i64 0,.int .i64 0,.slice none 0 0] (lo.n*9)⟩,[],J),⟨dD _,by rw[sE];rfl,⟨rfl,(λh=>by cases h),λdK kq=>⟨by simp[vP,madeCells],dD _,by unfold maxLen;simp only;omega,by simp⟩⟩,rfl,rfl,(λd ak=>by cases ak),λ_ _ h=>h,(λc an=>by have:=PL an;omega),(λd ak=>by cases ak)⟩,?_,ri,.cons rfl (.nil)⟩;refine .perm (List.Perm.swap _ _ _) ?_;refine .perm (List.Perm.cons _ (List.Perm.cons _ (?_:List.Perm _ ((back.aq 3++cg.aq ⟨A.b,os,ds⟩)++da.aq 3)))) ?_
   ·rw[ee,dV];exact Tv _ eI
   refine .sub (.cons₂ _ (.cons₂ _ (tK _ _))) (.n' ?_);rw[wT];rfl
  rintro⟨j,P,out,nk,dh⟩⟨ai,AG,AI,jm,Np,AH,dY,I6,l2⟩;simp only at ai AG AI jm Np AH dY I6 l2;have AG:P.length=ds.length:=AG;have aqn:out.n=j:=by have:=AI.len;rw[iQ _ 9 ao.cP,jm]at this;omega
  subst aqn;refine a2.mk (λh=>?_) (λh=>?_)
  ·have mA:out.n<rb.length:=by have:(out.n:Int)<(lo.n:Int):=dw h;omega
   have hm:∀ y∈rb,0<=y/\y<ds.length:=λy aE=>by rw[<-nj]at aE;obtain⟨x,ad,rfl⟩:=cN.1 aE;have:=vy.lt x ad;omega
   have hm:=hm _ (br mA);obtain⟨m,yJ⟩:=eH hm.1;rw[yJ]at hm;have je:m<ds.length:=by omega
   obtain⟨aS,bH,I7⟩:=aY.Ca (I:=dh) (e:=3) (M:=dE b9 P::(out.aq 66++(back.aq 3++cg.aq ⟨A.b,os,ds⟩))) ud (λx ad=>by simp[ad]) mA;rw[yJ]at I7;have Nq:=bx.mono dY;have fz:ds[m].ok dh:=Nq.ds _ (br je);have mI:nodeAt ds m=ds[m]:=gm je;have g0:=oL P m (by omega) (out.n:Int);generalize tU:P.set m (out.n:Int)=ei at g0;have MW:ei.length=ds.length:=by rw[<-tU];simpa using AG
   obtain⟨ls,lu,hZ⟩:=aY.ok.row (I:=dh) (M:=dE b9 ei::(out.aq 66++(back.aq 3++cg.aq ⟨A.b,os,ds⟩))) ao.cP (by decide) Nq.os (e:=66) (λx ad=>by simp[cg.aq,ad]) (j:=m) je;have hZ:cF dh (dE b9 ei::(out.aq 66++(back.aq 3++cg.aq ⟨A.b,os,ds⟩))) (ls.add (m*9)) 9 ds[m].cells:=hZ;generalize fk:ds[m]=d at fz hZ mI;have e':=fz.aN;have rU:=fz.a0.cap;have CV:∀ c∈ei,0<=c/\c<=rb.length:=λc an=>by
    rw[<-tU]at an;rcases yy an with an | rfl;·exact I6 c an
    ·omega
   refine bd.mk aS out.n (by have:=(ap8 adj);rw[this]at bH;exact bH) rfl (show _<lo.n by omega) ?_;refine aM.mk _ I7 ?_;refine bd.mk ⟨b9,0,none⟩ m rfl rfl (by omega) ?_;refine b2.iC [] (out.aq 66++(back.aq 3++cg.aq ⟨A.b,os,ds⟩)) (P.map (Value.int .i64)) 3 rfl (by rw[nK,bI];show 0+m*1+1<=_;omega) rfl (ei.map (Value.int .i64)) (by rw[c8,e2];exact g0) ?_;refine aM.mk [os.val] (c4 (cs:=[os.val]) (k:=0) (n:=1) (T:=94) (by simp[cg.aq,cg.ak]) (by simp)) ?_;refine bd.mk ls m lu rfl (by omega) ?_;refine aM.mk _ hZ ?_;have sB:(out.n+1)*96<=140737488355328:=by omega
   have jg:∀ q∈d.aw,0<=q/\q<ei.length:=λq aR=>by
    have aa:q∈(nodeAt ds m).aw:=by rw[mI];exact aR
    have AQ:(m:Int)∈rb:=by rw[<-yJ];exact br mA
    rw[<-nj]at AQ;obtain⟨x,ad,e⟩:=cN.1 AQ;obtain rfl:x=m:=Int.ofNat.inj e;have:=aqe vy x ad q aa;omega
   refine di.inv (ι:=Nat×aY×List Int) (λy=>{ bi:=[(0,.val (ptr A.b)),(4,.ref 4 0),(8,.val (.slice (some ⟨b9,0,none⟩) os.n os.n)),(9,.val out.val),(10,.val (.int .i64 out.n)),(12,.ref 12 0),(13,.val y.2.1.val),(66,.val lo.val),(67,.val (.int .i64 lo.n)),(68,.val (.int .i64 out.n)),(85,.val (.slice d.dB d.aN d.dp)),(86,.val (.int .i64 d.aN)),(87,.val (.int .i64 y.1))],cl:=[(4,[.slice none 0 0,.int .i64 0]),(12,d.cells)],cD:=dh,c0:=y.2.1.aq 3++(dE b9 ei::(out.aq 66++(back.aq 3++cg.aq ⟨A.b,os,ds⟩))) }) (λy=>ade d ei y) (λy=>d.aN-y.1) ?_ ?_;·exact⟨(0,h6,[]),⟨dD _,lv 1,by simp⟩,.refl,Vn,.cons rfl (.cons rfl (.nil))⟩
   rintro⟨k,eh,gD⟩⟨hd,kB,cA⟩;simp only at hd kB cA;have aqo:=kB.m7;have Ej:gD.length=k:=by rw[cA,bI,hx];omega
   refine a2.mk (λab=>?_) (λab=>?_)
   ·have Nr:k<d.aN:=by have:(k:Int)<(d.aN:Int):=dw ab;omega
    have kO:k<d.aw.length:=by omega
    have ah:=jg _ (br kO);have vv:d.aw[k].toNat<ei.length:=by omega
    have CX:ei.getD d.aw[k].toNat 0=ei[d.aw[k].toNat]:=by simp[bA,vv]
    have C7:de dh d.dB d.aN d.dp 1 8 (d.aw.flatMap kh):=by rw[qY];exact fz.a0
    obtain⟨gk,fu,fb⟩:=C7.row (f:=kh) (λ_=>rfl) (j:=k) (by omega) kO;refine bd.mk gk k fu rfl (show k<d.aN by omega) ?_;refine aM.mk _ (fb _) ?_;refine bd.mk ⟨b9,0,none⟩ d.aw[k].toNat rfl (by omega) (by omega) ?_;refine aM.mk _ (GX (by simp) vv) ?_;refine bX.mk λTN TO aqp=>?_;refine bz.oZ a6 rfl (by simp) (e:=3) rfl rfl rfl eh kB rfl (cs:=[.int .i64 ei[d.aw[k].toNat]]) rfl rfl rfl [] (dE b9 ei::(out.aq 66++(back.aq 3++cg.aq ⟨A.b,os,ds⟩))) rfl (by omega) (by show(eh.n+1)*8<=_;omega) ?_;intro qL adk aqq TP;refine bg.mk _ (cL (i:=k) (by omega)) ?_;refine⟨(k+1,qL,gD++[ei[d.aw[k].toNat]]),⟨⟨Nr,?_,?_⟩,by simp only;omega⟩,.refl,Vn,.cons rfl (.cons rfl (.nil))⟩;·rw[cM];exact TP
    ·rw[cA,gg kO,cM,s7,CX]
   have cI:k=d.aN:=by have:¬ (k:Int)<(d.aN:Int):=ek ab;omega
   subst cI;rw[fA (by omega)]at cA;refine bX.mk λacg ach aci=>?_;have bF:∃ cd:ao,cd=⟨d.k,d.cx,d.s1,d.s2,d.c1,d.t,d.lo,d.hi,eh.a.map λg=>⟨g,0,none⟩,eh.n,eh.c,gD⟩:=⟨_,rfl⟩;obtain⟨cd,bF⟩:=bF;have I9:cd.cells=[.int .u8 d.k,.int .u64 d.cx,.int .u64 d.s1,.int .u64 d.s2,.int .u64 d.c1,.string d.t,.int .i64 d.lo,.int .i64 d.hi,.slice (eh.a.map λg=>⟨g,0,none⟩) eh.n eh.c]:=by rw[bF];rfl
   refine bz.oZ a6 rfl (by simp) (e:=66) rfl rfl rfl out AI rfl (cs:=[.int .u8 d.k,.int .u64 d.cx,.int .u64 d.s1,.int .u64 d.s2,.int .u64 d.c1,.string d.t,.int .i64 d.lo,.int .i64 d.hi,.slice (eh.a.map λg=>⟨g,0,none⟩) eh.n eh.c]) rfl rfl rfl (eh.aq 3++[dE b9 ei]) (back.aq 3++cg.aq ⟨A.b,os,ds⟩) (congrArg (List.cons _) (dV _ [_] _).symm) (by omega) (by show(out.n+1)*96<=_;omega) ?_;intro s6 acj ack aqr;refine bg.mk _ (cL (i:=out.n) (by omega)) ?_;have AJ:∀ c∈gD,0<=c/\c<=rb.length:=λc an=>by
    rw[cA]at an;obtain⟨q,aR,rfl⟩:=cN.1 an;have wy:=jg q aR;have Ja:q.toNat<ei.length:=by omega
    exact CV (ei.getD q.toNat 0) (by simp only[bA,dg Ja,kk];exact br _)
   intro fD;have k5:((eh.aq 3++[dE b9 ei])++(s6.aq 66++(back.aq 3++cg.aq ⟨A.b,os,ds⟩))).Perm (eh.aq 3++(dE b9 ei::(s6.aq 66++(back.aq 3++cg.aq ⟨A.b,os,ds⟩)))):=by rw[dV];exact List.Perm.refl _
   have au:=l7.FG (J:=dh) (os:=eh) (e:=3) fD k5 (TM ei s6 eh);obtain⟨lH,hw,bm,ep,-⟩:=aY.zV (b:=8) (e:=3) kB (by omega) au (dE b9 ei::(s6.aq 66++(back.aq 3++cg.aq ⟨A.b,os,ds⟩)));refine⟨(out.n+1,ei,s6,nk++[cd],lH),⟨⟨by simp only;omega,MW,?_,by simp[jm],?_,?_,λb o h=>bm _ _ (dY _ _ h),CV,?_⟩,by simp only;omega⟩,.perm k5 (hw _ _ .refl),ri,.cons rfl (.nil)⟩
   ·simp only;rw[hg];have:([cd].flatMap ao.cells)=cd.cells:=by simp
    rw[this,I9];exact aqr
   ·simp only;rw[gg mA,rO,Np,js,Lr,yJ];show(P.set m ((nk.map ao.a1).length:Int),nk.map ao.a1++[(nodeAt ds m).eB ((nodeAt ds m).aw.map λk=>(P.set m ((nk.map ao.a1).length:Int)).getD k.toNat 0)])=_;rw[bI,jm,tU,mI,<-cA,cM,bF];rfl
   ·simp only;intro x ad;rcases cB.1 ad with ad | ad
    ·exact(AH x ad).mono bm
    ·simp only[ed]at ad;rw[ad,bF];refine⟨fz.k,fz.cx,fz.s1,fz.s2,fz.c1,fz.t,fz.lo,fz.hi,ep,λc an=>?_⟩;have:=AJ c an;exact⟨by omega,by omega⟩
   ·simp only;intro x ad;rcases cB.1 ad with ad | ad
    ·exact l2 x ad
    ·simp only[ed]at ad;rw[ad,bF];exact AJ
  ·have cI:out.n=rb.length:=by have:¬ (out.n:Int)<(lo.n:Int):=ek h;omega
   refine bg.mk ((nk.length:Int)-1) (by show IntKind.i64.wrap ((out.n:Int)-1)=_;rw[wrap_i64 ⟨by omega,by omega⟩,jm]) ?_;intro fD;have k5:(dE b9 P::(out.aq 66++(back.aq 3++cg.aq ⟨A.b,os,ds⟩))).Perm (out.aq 66++(dE b9 P::(h6.aq 66++(back.aq 3++cg.aq ⟨A.b,os,ds⟩)))):=mw.symm;have au:=l7.FG (J:=dh) (os:=out) (e:=66) fD k5 (TM P h6 h6);obtain⟨lH,hw,bm,ep,-⟩:=aY.zV (b:=96) (e:=66) AI (by omega) au (dE b9 P::(h6.aq 66++(back.aq 3++cg.aq ⟨A.b,os,ds⟩)));rw[fA (by omega)]at Np;obtain⟨E3,mv,-,-⟩:=CU rb.length (ca _);rw[DI]at mv;have ey:nk.map ao.a1=(T.bare A.ds).bo.post:=by rw[<-adi];exact congrArg Prod.snd (Np.symm.trans mv)
   exact⟨lH,[],.perm k5 (hw _ _ (.sub (fO _) .refl)),λb o h=>bm _ _ (dY _ _ (bk _ _ h)),rfl,⟨nk,out.a.map λg=>⟨g,0,none⟩,out.n,out.c,(nk.length:Int)-1⟩,rfl,⟨ep,λd ak=>(AH d ak).mono bm,⟨by simp only;omega,by simp only;omega⟩⟩,⟨ey,rfl⟩⟩
structure sf(ds:List ao)(Jn:List Nat):Prop where
 fits:∀ d∈ds,fits d d.aw.length=true
 aw:∀ j (h:j<ds.length),∀ k∈ds[j].aw,0<=k/\k<j
 diff:hR (eO ds)
 gJ:∀ k∈Jn,k<ds.length/\(k:Int) ∉ eO ds
 s5:Jn.Nodup
def Ns(a b:List ao):eO (a++b)=eO a++eO b:=by unfold eO;rw[hg]
def sf.add{ds:List ao}(h:sf ds (l++bj)){x:ao}(ad:Go.V.fits x x.aw.length=true)(ae:x.aw.Sublist (l.map Int.ofNat)):sf (ds++[x]) (ds.length::bj):=by
 have fw:∀ k∈x.aw,∃ q∈l,k=(q:Int):=λk aR=>by obtain⟨q,aa,ab⟩:=cN.1 (ae.subset aR);exact⟨q,aa,ab.symm⟩
 have fu:eO (ds++[x])=eO ds++x.aw:=by rw[Ns];simp[eO]
 have bF:=uq.1 h.s5;refine⟨λd ak=>?_,λj ai k aR=>?_,?_,λk aR=>?_,?_⟩
 ·rcases cB.1 ak with ak | ak
  ·exact h.fits d ak
  ·rw[ed.1 ak];exact ad
 ·by_cases e:j<ds.length
  ·rw[zL e]at aR;exact h.aw j e k aR
  ·rw[ch,pN]at ai;have aqs:j=ds.length:=by omega
   subst aqs;rw[Ev (ca _)]at aR;simp only[pL,List.getElem_singleton]at aR;obtain⟨q,aa,rfl⟩:=fw k aR;have:=(h.gJ q (hY _ aa)).1;omega
 ·rw[fu];refine rX.2 ⟨h.diff,?_,λa a4 b ag=>?_⟩
  ·refine List.Pairwise.sublist ae ?_;refine Fg.2 (bF.1.imp λbt e=>bt ?_);exact Int.ofNat.inj e
  ·rintro rfl;obtain⟨q,aa,rfl⟩:=fw _ ag;exact(h.gJ q (hY _ aa)).2 a4
 ·rw[fu];rw[ch,pN];rcases ec.1 aR with rfl | aR
  ·refine⟨by omega,λhm=>?_⟩;rcases cB.1 hm with hm | hm
   ·have:=MY h.aw _ hm;omega
   ·obtain⟨q,aa,e⟩:=fw _ hm;have:=(h.gJ q (hY _ aa)).1;omega
  ·obtain⟨aa,ab⟩:=h.gJ k (qg _ aR);refine⟨by omega,λhm=>?_⟩;rcases cB.1 hm with hm | hm
   ·exact ab hm
   ·obtain⟨q,aj,e⟩:=fw _ hm;have:k=q:=by omega
    subst this;exact bF.2.2 k aj k aR rfl
 ·refine lL.2 ⟨λhm=>?_,bF.2.1⟩;have:=(h.gJ _ (qg _ hm)).1;omega
def sf.pick{ds:List ao}(h:sf ds (l++bj)){r:Nat}(af:r∈l):sf ds (r::bj):=by
 have bF:=uq.1 h.s5;refine⟨h.fits,h.aw,h.diff,λk ae=>?_,lL.2 ⟨λhm=>bF.2.2 r af r hm rfl,bF.2.1⟩⟩;rcases ec.1 ae with rfl | ae
 ·exact h.gJ _ (hY _ af)
 ·exact h.gJ _ (qg _ ae)
def Jo(d:ao)(ds:List ao):∀ l:List Nat,(jG d ds l).Sublist (l.map Int.ofNat)
 |[]=>.slnil
 |k::l=>by
  show List.Sublist ((bif pc d (ds.getD k uf)then [(k:Int)]else [])++jG d ds l) (Int.ofNat k::l.map Int.ofNat);cases pc d (ds.getD k uf)with
  |true=>exact(Jo d ds l).cons₂ _| false=>exact(Jo d ds l).cons _
def TQ{d:ao}(h:d.k=4\/d.k=5){n m:Int}(aB:2<=n)(hm:2<=m)(aA:Go.V.fits d n=true):Go.V.fits d m=true:=by
 unfold Go.V.fits at aA |-;rcases h with e | e<;>rw[e]at aA |-<;>simp[uN,sC]at aA |-<;>exact⟨⟨hm,.inl (by decide)⟩,aA.2⟩
def sf.join{ds:List ao}(h:sf ds (l++bj)){d:ao}(ak:Go.V.fits d l.length=true)(ai:w6 d l ds ds' r):0<=r/\sf ds' (r.toNat::bj):=by
 unfold w6 at ai;split at ai
 ·rename_i eD;rcases ai with⟨aa,rfl,ab⟩ | ⟨aa,ab⟩ | ⟨aa,rfl,bO,hS,c',ab⟩
  ·refine⟨by omega,?_⟩;rw[ab,g6];refine h.add ?_ (fO _);rcases eD with e | e
   ·rw[show d.k-4=0 by omega];rfl
   ·rw[show d.k-4=1 by omega];rfl
  ·have af:r∈l.map Int.ofNat:=(Jo d ds l).subset (by rw[aa];exact .head _);obtain⟨q,aR,rfl⟩:=cN.1 af;rw[ab];exact⟨Ew _,h.pick aR⟩
  ·refine⟨by omega,?_⟩;rw[ab,g6];refine h.add ?_ (Jo d ds l);show Go.V.fits d ((jG d ds l).length:Nat)=true;have oK:(2:Int)<=((jG d ds l).length:Nat):=by omega
   have sR:(2:Int)<=(l.length:Nat):=by have:=(Jo d ds l).length_le;rw[bI]at this;omega
   exact TQ eD sR oK ak
 ·obtain⟨rfl,bO,hS,c',ab⟩:=ai;refine⟨by omega,?_⟩;rw[ab,g6];refine h.add ?_ (M3 _);show Go.V.fits d ((l.map Int.ofNat).length:Nat)=true;rw[bI];exact ak
def iK(d:ao)(x:aQ):Bool:=!decide (d.k=4) || !decide (x.d.k=0)
def Jp(d:ao)(xs:List aQ):aQ:=
 if d.k=4\/d.k=5 then match xs.filter (iK d)with
  |[]=>.mk (nothing (d.k-4)).bare []| [y]=>y| ys=>.mk d ys
 else .mk d xs
def ir(d:ao)(xs:List aQ):aQ:=Jp d.bare xs
def aQ.ki(T:aQ):aQ:=(T.fold ir).bo
def TR(ns:List ao)(T:aK):(T.bare ns).d=(nodeAt ns T.bh).bare:=by
 cases T with
 |mk k ks=>
 rw[aK.mK];rfl
def aqt{ns:List ao}{k:Nat}(h:k<ns.length):ns.getD k uf=nodeAt ns k:=by rw[gm h];simp[bA,h]
def adl{d:ao}{ds:List ao}:∀ {ks:List aK},(∀ c∈ks,cq ds c)->jG d ds (ks.map aK.bh)=eL (ks.filter λc=>iK d (c.bare ds))/\(ks.filter λc=>iK d (c.bare ds)).map (aK.bare ds)=(ks.map (aK.bare ds)).filter (iK d)
 |[],_=>⟨rfl,rfl⟩
 |c::ks,h=>by
  obtain⟨aa,ab⟩:=adl (d:=d) (ks:=ks) λx ad=>h x (.tail _ ad);have an:=(h c (.head _)).mJ;have e:pc d (ds.getD c.bh uf)=iK d (c.bare ds):=by unfold pc iK;rw[TR,ao.acM,aqt an]
  have ai:jG d ds ((c::ks).map aK.bh)=(bif pc d (ds.getD c.bh uf)then [(c.bh:Int)]else [])++jG d ds (ks.map aK.bh):=rfl;rw[ai,aa,e,pu,b0,pu];cases iK d (c.bare ds)with
  |true=>exact⟨rfl,by simp[ab]⟩| false=>exact⟨rfl,by simpa using ab⟩
def C8(d:ao)(xs:List aQ):ir d xs=if d.k=4\/d.k=5 then(match xs.filter (iK d)with
  |[]=>.mk (nothing (d.k-4)).bare []| [y]=>y| ys=>.mk d.bare ys)else .mk d.bare xs:=rfl
def w6.lt{d:ao}{ds:List ao}{ks:List aK}(eR:∀ c∈ks,cq ds c)(h:w6 d (ks.map aK.bh) ds ds' r) :
  (∃ m,ds'=ds++m)/\∃ T:aK,(T.bh:Int)=r/\cq ds' T/\T.bare ds'=ir d (ks.map (aK.bare ds)):=by
 obtain⟨ai,aA⟩:=adl (d:=d) eR;have new:∀ (x:ao) (l:List aK),(∀ c∈l,cq ds c)->x.aw=eL l->cq (ds++[x]) (.mk ds.length l)/\(aK.mk ds.length l).bare (ds++[x])=.mk x.bare (l.map (aK.bare ds)):=λx l ay ad=>by refine⟨.mk (by simp) (by rw[FA,ad];rfl) λc an=>(ay c an).app _,?_⟩;rw[aK.mK,FA];congr 1;exact fR λc an=>aK.C3 ds (ay c an) _
 unfold w6 at h;rw[C8,<-aA];split at h
 ·rename_i eD;rw[bN eD];rw[ai]at h;have m8:∀ c∈ks.filter (λc=>iK d (c.bare ds)),cq ds c:=λc an=>eR c (ja.1 an).1;generalize ks.filter (λc=>iK d (c.bare ds))=bi at h m8;rcases h with⟨aa,rfl,rfl⟩ | ⟨aa,rfl⟩ | ⟨aa,rfl,bO,hS,c',rfl⟩
  ·obtain rfl:bi=[]:=List.map_eq_nil_iff.1 aa;obtain⟨dF,eJ⟩:=new (nothing (d.k-4)) [] (λc an=>by cases an) rfl;exact⟨⟨_,rfl⟩,_,rfl,dF,eJ⟩
  ·match bi,aa with
   |[c],aa=>refine⟨⟨[],by simp⟩,c,?_,m8 c (.head _),rfl⟩;simpa[eL]using aa
  ·obtain⟨dF,eJ⟩:=new (d.row bO hS c' (eL bi)) bi m8 rfl;refine⟨⟨_,rfl⟩,_,rfl,dF,eJ.trans ?_⟩
   match bi,aa with
   |gy::gE::l,aa=>rfl
 ·rename_i eD;rw[bR eD];obtain⟨rfl,bO,hS,c',rfl⟩:=h;obtain⟨dF,eJ⟩:=new (d.row bO hS c' ((ks.map aK.bh).map Int.ofNat)) ks eR (by rw[gA];rfl);exact⟨⟨_,rfl⟩,_,rfl,dF,eJ⟩
def sf.perm{ds:List ao}{a b:List Nat}(h:sf ds a)(aC:a.Perm b):sf ds b:=⟨h.fits,h.aw,h.diff,λk ae=>h.gJ k (aC.mem_iff.2 ae),aC.nodup_iff.1 h.s5⟩
def vz(ns:List ao)(i:Nat):List Nat:=(List.range i).filter λj=>!decide ((j:Int)∈eO (ns.take i))
def h'(P:List Int)(j:Nat):Nat:=(P.getD j 0).toNat
structure C9(t:bS)(i:Nat)(ds:List ao)(P:List Int):Prop where
 hi:i<=t.ns.length
 n9:P.length=t.ns.length
 len:ds.length<=i
 gq:∀ j,j<i->∃ T:aK,(T.bh:Int)=P.getD j 0/\cq ds T/\T.bare ds=(gr t.ns j).fold ir
 wd:sf ds ((vz t.ns i).map (h' P))
def aqu(h:hG t){j:Nat}(ai:j<t.ns.length):gr t.ns j=.mk t.ns[j].bare (t.ns[j].aw.map (gr t.ns)):=by
 obtain⟨T,bu,dJ,he,-⟩:=h.lt ai;cases T with
 |mk k ks=>
 obtain rfl:k=j:=bu;obtain⟨aa,ab,aj⟩:=dJ.inv;rw[he,aK.mK,gm aa];rw[gm aa]at ab;rw[ab,gA];congr 1;exact fR λc an=>(Nc h.yN (aj c an)).symm
def adm{ns:List ao}(hi:i<ns.length):eO (ns.take (i+1))=eO (ns.take i)++ns[i].aw:=by rw[gg hi,Ns];simp[eO]
def Jq{ns:List ao}{j:Nat}:j∈vz ns i ↔ j<i/\(j:Int) ∉ eO (ns.take i):=by unfold vz;rw[ja,g7];simp
def C9.step(af:hG t){ds:List ao}{P:List Int}(h:C9 t i ds P)(hi:i<t.ns.length)(ai:w6 t.ns[i] (t.ns[i].aw.map λk=>h' P k.toNat) ds ds' r) :
  C9 t (i+1) ds' (P.set i r):=by
 have pR:=af.aw i hi;obtain⟨ks,tG,eN⟩:=Jg (R:=λ(x:Int) (T:aK)=>T.bh=h' P x.toNat/\cq ds T/\T.bare ds=(gr t.ns x).fold ir) (l:=t.ns[i].aw) λx ad=>by have:=pR x ad;obtain⟨T,aa,ab,aj⟩:=h.gq x.toNat (by omega);refine⟨T,by unfold h';omega,ab,?_⟩;rw[show((x.toNat:Nat):Int)=x by omega]at aj;exact aj
 have eR:∀ c∈ks,cq ds c:=λc an=>by obtain⟨q,aR,rfl⟩:=ka an;exact(eN q (by omega) aR).2.1
 have yP:(t.ns[i].aw.map λk=>h' P k.toNat)=ks.map aK.bh:=by refine mT (by simp[tG]) λq aR wy=>?_;rw[f',f'];exact(eN q (by simpa using aR) (by simpa using wy)).1.symm
 have tF:ks.map (aK.bare ds)=t.ns[i].aw.map λx=>(gr t.ns x).fold ir:=by refine mT (by simp[tG]) λq aR wy=>?_;rw[f',f'];exact(eN q (by simpa using wy) (by simpa using aR)).2.2
 have ix:=ai;rw[yP]at ix;obtain⟨⟨m,rfl⟩,T,jA,il,oj⟩:=ix.lt eR;have hold:∀ j,j≠i->(P.set i r).getD j 0=P.getD j 0:=λj bt=>by rw[bA,bA,ih,bR (λe=>bt e.symm)]
 have e7:(P.set i r).getD i 0=r:=by rw[bA,ih,bN rfl,bN (by have:=h.n9;omega)];rfl
 have e':∀ x∈t.ns[i].aw,0<=x/\x<i:=pR;have hK:hR (eO (t.ns.take (i+1))):=by
  have e:eO t.ns=eO (t.ns.take (i+1))++eO (t.ns.drop (i+1)):=by rw[<-Ns,rG]
  have:=af.diff;rw[e]at this;exact(rX.1 this).1
 rw[adm hi]at hK;obtain⟨d1,d2,d3⟩:=rX.1 hK;have aqv:(t.ns[i].aw.map Int.toNat).Nodup:=by refine Fg.2 (d2.imp_of_mem ?_);intro a b a4 ag bt e;have:=e' a a4;have:=e' b ag;exact bt (by omega)
 obtain⟨bj,ts⟩:∃ bj,(vz t.ns i).filter (λj=>!decide (j∈t.ns[i].aw.map Int.toNat))=bj:=⟨_,rfl⟩;have zJ:(vz t.ns i).Nodup:=xJ.sublist zv;have aqw:(vz t.ns (i+1)).Nodup:=xJ.sublist zv;have AQ:∀ j,j∈bj ↔ j∈vz t.ns i/\j ∉ t.ns[i].aw.map Int.toNat:=λj=>by rw[<-ts,ja];simp
 have aqx:(vz t.ns i).Perm (t.ns[i].aw.map Int.toNat++bj):=by
  refine(M2 zJ (uq.2 ⟨aqv,by rw[<-ts];exact zJ.sublist zv,λa a4 b ag e=>?_⟩)).2 λj=>?_;·subst e;exact((AQ a).1 ag).2 a4
  ·rw[cB,AQ];constructor
   ·intro ai;by_cases e:j∈t.ns[i].aw.map Int.toNat
    ·exact .inl e
    ·exact .inr ⟨ai,e⟩
   ·rintro(ai | ai)
    ·obtain⟨x,ad,rfl⟩:=cN.1 ai;have:=e' x ad;refine Jq.2 ⟨by omega,λhm=>?_⟩;rw[show((x.toNat:Nat):Int)=x by omega]at hm;exact d3 x hm x ad rfl
    ·exact ai.1
 have R1:(vz t.ns (i+1)).Perm (i::bj):=by
  refine(M2 aqw (lL.2 ⟨λhm=>?_,by rw[<-ts];exact zJ.sublist zv⟩)).2 λj=>?_;·have:=(Jq.1 ((AQ i).1 hm).1).1;omega
  ·rw[ec,AQ,Jq,Jq,adm hi,cB];constructor
   ·rintro⟨aa,ab⟩;by_cases e:j=i
    ·exact .inl e
    ·refine .inr ⟨⟨by omega,λaj=>ab (.inl aj)⟩,λaj=>ab (.inr ?_)⟩;obtain⟨x,ad,rfl⟩:=cN.1 aj;have:=e' x ad;rw[show((x.toNat:Nat):Int)=x by omega];exact ad
   ·rintro(rfl | ⟨⟨aa,ab⟩,aj⟩)
    ·refine⟨by omega,λaI=>?_⟩;rcases aI with aI | aI
     ·obtain⟨d,ak,ad⟩:=hb.1 aI;obtain⟨q,aR,rfl⟩:=ka ak;rw[hx]at aR;rw[List.getElem_take]at ad;have:=af.aw q (by omega) _ ad;omega
     ·have:=e' _ aI;omega
    ·refine⟨by omega,λaI=>?_⟩;rcases aI with aI | aI
     ·exact ab aI
     ·exact aj (cN.2 ⟨(j:Int),aI,by omega⟩)
 have hw:=h.wd.perm ((aqx.map (h' P)).trans (by rw[cM,gA]));have jv:Go.V.fits t.ns[i] ((t.ns[i].aw.map λk=>h' P k.toNat).length:Nat)=true:=by rw[bI];exact af.fits i hi
 obtain⟨rH,aqy⟩:=hw.join jv ai;refine⟨hi,by rw[n5];exact h.n9,?_,λj ai=>?_,?_⟩
 ·have:m.length<=1:=by
   unfold w6 at ai;split at ai
   ·rcases ai with⟨-,-,e⟩ | ⟨-,e⟩ | ⟨-,-,bO,hS,c',e⟩
    ·rw[Tu e];simp
    ·have:m=[]:=by simpa using e
     rw[this];simp
    ·rw[Tu e];simp
   ·obtain⟨-,bO,hS,c',e⟩:=ai;rw[Tu e];simp
  have:=h.len;rw[ch];omega
 ·by_cases e:j=i
  ·subst e;refine⟨T,by rw[e7];exact jA,il,?_⟩;rw[oj,tF,aqu af hi,aQ.fold_eq,gA];rfl
  ·obtain⟨S,aa,ab,aj⟩:=h.gq j (by omega);exact⟨S,by rw[hold j e];exact aa,ab.app m,by rw[aK.C3 ds ab];exact aj⟩
 ·refine aqy.perm ?_;have aG:(i::bj).map (h' (P.set i r))=r.toNat::bj.map (h' P):=by
   rw[b0];congr 1;·unfold h';rw[e7]
   ·refine fR λj ai=>?_;have:=(Jq.1 ((AQ j).1 ai).1).1;unfold h';rw[hold j (by omega)]
  rw[<-aG];exact(R1.map _).symm
def C9.start(t:bS):C9 t 0 [] (List.replicate t.ns.length 0):=⟨dD _,sE,ca _,λj ai=>absurd ai (nT _),⟨(λd ak=>by cases ak),λj h=>absurd h (nT _),List.Pairwise.nil,(λk ae=>by simp[vz]at ae),by simp[vz]⟩⟩
def de.aqz(I:aJ):de I (h6.a.map λg=>⟨g,0,none⟩) h6.n h6.c 1 8 (([]:List Int).map (.int .i64 ·)):=⟨rfl,⟨ca _,dD _⟩,.inl rfl⟩
def aqA(af:hG t)(hi:i<t.ns.length):t.ns[i].aw.length<=i:=by
 have ae:=af.aw i hi;have ak:hR t.ns[i].aw:=by rw[<-gm hi];exact acC af.diff hi
 have aa:(t.ns[i].aw.map Int.toNat).Nodup:=by refine Fg.2 (ak.imp_of_mem ?_);intro a b a4 ag bt e;have:=ae a a4;have:=ae b ag;exact bt (by omega)
 have:=M6 (n:=i) aa λx ad=>by obtain⟨y,aE,rfl⟩:=cN.1 ad;have:=ae y aE;omega
 rwa [bI]at this
def aqB(bu:ga I ax)(av:t.ok I)(af:right t=true)(aB:t.n<=1099511627776) :
  Spec Tryz.prog 15 [t.val] I [] λv I' M'=>(∀ b o,I b=some o->I' b=some o)/\M'=[]/\∃ bq:bS,v=.tuple #[bq.val,.bool true]/\bq.ok I'/\pd bq (cr t).ki:=by
 refine zc [4] a6 Tryz.func15 rfl rfl rfl ?_;intro B az;have aV:=nc.1 af;have hD:=av.n;have jx:=av.a0.cap;refine be.mk [] [] _ (.refl _) (qt bu.c av) ?_;rintro v J N -⟨rfl,bk,rfl⟩;subst J;rw[af];refine a2.mk (λh=>by cases h) (λ_=>?_);refine bX.mk λp4 Il yx=>?_;refine be.mk [] _ _ (.refl _) apW ?_;rintro v J N -⟨rfl,bk,rfl⟩;subst J;refine mO.mk t.n t.n rfl rfl (ca _) (by show 8*t.n<=_;omega) (by omega) ?_;refine bX.mk λb6 B0 TS=>?_;have l0:(rowOf [Value.int .i64 0] (t.n*1))=(List.replicate t.ns.length (0:Int)).map (Value.int .i64):=by rw[tv,xI,e2,hD]
 have TM:∀ x∈(([]:List aD).map (·.num)),False:=λx ad=>by cases ad
 refine di.vU (ι:=Nat×List Int×aY×List ao×aJ) (λx=>{ bi:=[(1,.ref 1 0),(2,.ref 2 0),(4,.val (ptr p4)),(5,.ref 5 0),(6,.val (.slice (some ⟨b6,0,none⟩) t.n t.n)),(22,.val (.slice t.a t.n t.c)),(23,.val (.int .i64 t.n)),(24,.val (.int .i64 x.1))],cl:=[(1,t.cells),(2,[.slice none 0 0,.int .i64 0]),(5,TG)],cD:=x.2.2.2.2,c0:=dE b6 x.2.1::cg.aq ⟨p4,x.2.2.1,x.2.2.2.1⟩ }) (λx=>C9 t x.1 x.2.2.2.1 x.2.1/\cg.ok x.2.2.2.2 ⟨p4,x.2.2.1,x.2.2.2.1⟩/\∀ b o,I b=some o->x.2.2.2.2 b=some o) (λx=>t.n-x.1) ?_ ?_
 ·intro _;refine⟨(0,List.replicate t.ns.length 0,h6,[],I),⟨C9.start t,⟨lv 9,rfl,(λd ak=>by cases ak)⟩,λ_ _ h=>h⟩,.n' ?_,jJ,.cons rfl (.cons rfl (.cons rfl (.nil)))⟩;rw[l0];rfl
 rintro⟨i,P,os,ds,J⟩⟨bw,bx,bk⟩;simp only at bw bx bk;have AG:=bw.n9;have dM:=bw.hi;have zI:=bw.len;refine a2.mk (λh=>?_) (λh=>?_)
 ·have aX:(i:Int)<t.n:=dw h;have fw:i<t.ns.length:=by omega
  obtain⟨ls,lu,hZ⟩:=(av.a0.mono bk).row ao.cP (j:=i) (by omega) fw;have ak:=(av.ns _ (br fw)).mono bk;have jg:=aV.aw i fw;have l2:=aqA aV fw;have iF:=λds' r=>bw.step aV fw (ds':=ds') (r:=r);generalize fk:t.ns[i]=d at ak hZ jg l2 iF;have e':=ak.aN;have rU:=ak.a0.cap;refine bd.mk ls i lu rfl (by omega) ?_;refine aM.mk _ (hZ _) ?_;refine di.vU (ι:=Nat×aY×List Int×aJ×List aD) (λy=>{ bi:=[(1,.ref 1 0),(2,.ref 2 0),(4,.val (ptr p4)),(5,.ref 5 0),(6,.val (.slice (some ⟨b6,0,none⟩) t.n t.n)),(7,.val (.int .i64 i)),(8,.ref 8 0),(9,.val y.2.1.val),(22,.val (.slice t.a t.n t.c)),(23,.val (.int .i64 t.n)),(24,.val (.int .i64 i)),(30,.val (.slice d.dB d.aN d.dp)),(31,.val (.int .i64 d.aN)),(32,.val (.int .i64 y.1))],cl:=[(1,t.cells),(2,[.slice none 0 0,.int .i64 0]),(5,TG),(8,d.cells)],cD:=y.2.2.2.1,c0:=y.2.2.2.2++(dE b6 P::cg.aq ⟨p4,os,ds⟩) }) (λy=>ade d P (y.1,y.2.1,y.2.2.1)/\((y.1<d.aN/\y.2.2.2.1=J/\y.2.2.2.2=y.2.1.aq 3)\/(y.1=d.aN/\(∀ b o,J b=some o->y.2.2.2.1 b=some o)/\y.2.2.2.2=[]/\de y.2.2.2.1 (y.2.1.a.map λg=>⟨g,0,none⟩) y.2.1.n y.2.1.c 1 8 (y.2.2.1.map (.int .i64 ·))))) (λy=>d.aN-y.1) ?_ ?_
  ·intro _;refine⟨(0,h6,[],J,[]),⟨⟨dD _,lv 1,by simp⟩,?_⟩,.refl,Gs,.cons rfl (.cons rfl (.cons rfl (.cons rfl (.nil))))⟩;by_cases db:0<d.aN
   ·exact .inl ⟨db,rfl,rfl⟩
   ·exact .inr ⟨by simp only;omega,λ_ _ h=>h,rfl,de.aqz _⟩
  rintro⟨k,eh,gD,iJ,adn⟩⟨⟨hd,kB,cA⟩,TT⟩;simp only at hd kB cA TT;have aqo:=kB.m7;have Ej:gD.length=k:=by rw[cA,bI,hx];omega
  refine a2.mk (λab=>?_) (λab=>?_)
  ·have Nr:k<d.aN:=by have:(k:Int)<(d.aN:Int):=dw ab;omega
   obtain⟨rfl,rfl⟩:iJ=J/\adn=eh.aq 3:=by
    rcases TT with⟨-,aa,aj⟩ | ⟨aa,-⟩;·exact⟨aa,aj⟩
    ·omega
   have kO:k<d.aw.length:=by omega
   have ah:=jg _ (br kO);have vv:d.aw[k].toNat<P.length:=by omega
   have CX:P.getD d.aw[k].toNat 0=P[d.aw[k].toNat]:=by simp[bA,vv]
   have C7:de iJ d.dB d.aN d.dp 1 8 (d.aw.flatMap kh):=by rw[qY];exact ak.a0
   obtain⟨gk,fu,fb⟩:=C7.row (f:=kh) (λ_=>rfl) (j:=k) (by omega) kO;refine bd.mk gk k fu rfl (show k<d.aN by omega) ?_;refine aM.mk _ (fb _) ?_;refine bd.mk ⟨b6,0,none⟩ d.aw[k].toNat rfl (by omega) (by omega) ?_;refine aM.mk _ (GX (by simp) vv) ?_;refine bX.mk λTN TO aqp=>?_;refine bz.oZ a6 rfl (by simp) (e:=3) rfl rfl rfl eh kB rfl (cs:=[.int .i64 P[d.aw[k].toNat]]) rfl rfl rfl [] (dE b6 P::cg.aq ⟨p4,os,ds⟩) rfl (by omega) (by show(eh.n+1)*8<=_;omega) ?_;intro qL adk aqq TP;refine bg.mk _ (cL (i:=k) (by omega)) ?_;have TU:qL.ok 1 ((gD++[P[d.aw[k].toNat]]).map (.int .i64 ·)):=by rw[cM];exact TP
   have ado:gD++[P[d.aw[k].toNat]]=(d.aw.take (k+1)).map (λk=>P.getD k.toNat 0):=by rw[cA,gg kO,cM,s7,CX]
   intro fD;by_cases db:k+1<d.aN;·exact⟨(k+1,qL,gD++[P[d.aw[k].toNat]],iJ,qL.aq 3),⟨⟨⟨Nr,TU,ado⟩,.inl ⟨db,rfl,rfl⟩⟩,by simp only;omega⟩,.refl,Gs,.cons rfl (.cons rfl (.cons rfl (.cons rfl (.nil))))⟩
   ·have au:=l7.FG (os:=qL) (e:=3) (foot:=[]) fD (.refl _) (λx ad=>by cases ad);obtain⟨lH,hw,bm,ep,-⟩:=aY.zV (b:=8) (e:=3) TU (by rw[adk];omega) au (dE b6 P::cg.aq ⟨p4,os,ds⟩);exact⟨(k+1,qL,gD++[P[d.aw[k].toNat]],lH,[]),⟨⟨⟨Nr,TU,ado⟩,.inr ⟨by simp only;omega,bm,rfl,ep⟩⟩,by simp only;omega⟩,hw _ _ .refl,Gs,.cons rfl (.cons rfl (.cons rfl (.cons rfl (.nil))))⟩
  have cI:k=d.aN:=by have:¬ (k:Int)<(d.aN:Int):=ek ab;omega
  obtain⟨hT,rfl,ep⟩:(∀ b o,J b=some o->iJ b=some o)/\adn=[]/\de iJ (eh.a.map λg=>⟨g,0,none⟩) eh.n eh.c 1 8 (gD.map (.int .i64 ·)):=by
   rcases TT with⟨aa,-⟩ | ⟨-,aa,aj,aI⟩;·omega
   ·exact⟨aa,aj,aI⟩
  subst cI;rw[fA (by omega)]at cA;have kt:∀ x∈d.aw.map (λk=>h' P k.toNat),x<ds.length:=λx ad=>by obtain⟨y,aE,rfl⟩:=cN.1 ad;have:=jg y aE;obtain⟨T,aa,ab,-⟩:=bw.gq y.toNat (by omega);have:=ab.mJ;unfold h';omega
  have Nl:gD=(d.aw.map (λk=>h' P k.toNat)).map Int.ofNat:=by rw[cA,gA];refine fR λy aE=>?_;have:=jg y aE;obtain⟨T,aa,ab,-⟩:=bw.gq y.toNat (by omega);show P.getD y.toNat 0=((h' P y.toNat:Nat):Int);unfold h';omega
  rw[Nl]at ep;have Nq:=bx.mono hT;have TV:=ak.mono hT;have m6:=λj ai ae=>apX (A:=⟨p4,os,ds⟩) Nq (by simp only;omega) TV kt (by rw[bI];omega) ep j ai ae;clear cA Nl;obtain⟨dc,cx,s1,s2,c1,fL,Nt,Nu,tQ,tR,tS,tT⟩:=d;have Es:dc=0\/dc=1\/dc=2\/dc=3\/dc=4\/dc=5\/dc=6\/dc=7\/dc=8\/dc=9:=by have aa:=Qu (aV.fits i fw);rw[fk]at aa;have ab:=ak.k;simp only at aa ab;omega
  rcases Es with rfl | rfl | rfl | rfl | rfl | rfl | rfl | rfl | rfl | rfl
  ·refine cV.draw a6 rfl rfl rfl ?_;refine eG.mk 0 rfl (by decide) ?_;refine d'.uI rfl (cg.aq ⟨p4,os,ds⟩) [dE b6 P] _ ?_ (m6 0 (by decide) rfl) ?_
   ·exact(eI (l₁:=[dE b6 P]))
   rintro v dh dq dY⟨-,bs,ds',r,rfl,kK,rfl,nl⟩;refine bd.mk ⟨b6,0,none⟩ i rfl rfl (by omega) ?_;refine b2.iC (cg.aq ⟨p4,bs,ds'⟩) [] (P.map (Value.int .i64)) 3 rfl (by rw[nK,bI];show 0+i*1+1<=_;omega) rfl ((P.set i r).map (Value.int .i64)) (by rw[c8,e2];exact oL P i (by omega) r) ?_;refine bg.mk _ (cL (i:=i) (by omega)) ?_;intro _;exact⟨(i+1,P.set i r,bs,ds',dh),⟨⟨iF _ _ nl,kK,λb o h=>dY _ _ (hT _ _ (bk _ _ h))⟩,by simp only;omega⟩,.perm (eI (l₁:=cg.aq ⟨p4,bs,ds'⟩)) .refl,jJ,.cons rfl (.cons rfl (.cons rfl (.nil)))⟩
  ·refine cV.draw a6 rfl rfl rfl ?_;refine eG.mk 1 rfl (by decide) ?_;refine d'.uI rfl (cg.aq ⟨p4,os,ds⟩) [dE b6 P] _ ?_ (m6 1 (by decide) rfl) ?_
   ·exact(eI (l₁:=[dE b6 P]))
   rintro v dh dq dY⟨-,bs,ds',r,rfl,kK,rfl,nl⟩;refine bd.mk ⟨b6,0,none⟩ i rfl rfl (by omega) ?_;refine b2.iC (cg.aq ⟨p4,bs,ds'⟩) [] (P.map (Value.int .i64)) 3 rfl (by rw[nK,bI];show 0+i*1+1<=_;omega) rfl ((P.set i r).map (Value.int .i64)) (by rw[c8,e2];exact oL P i (by omega) r) ?_;refine bg.mk _ (cL (i:=i) (by omega)) ?_;intro _;exact⟨(i+1,P.set i r,bs,ds',dh),⟨⟨iF _ _ nl,kK,λb o h=>dY _ _ (hT _ _ (bk _ _ h))⟩,by simp only;omega⟩,.perm (eI (l₁:=cg.aq ⟨p4,bs,ds'⟩)) .refl,jJ,.cons rfl (.cons rfl (.cons rfl (.nil)))⟩
  ·refine cV.draw a6 rfl rfl rfl ?_;refine eG.mk 2 rfl (by decide) ?_;refine d'.uI rfl (cg.aq ⟨p4,os,ds⟩) [dE b6 P] _ ?_ (m6 2 (by decide) rfl) ?_
   ·exact(eI (l₁:=[dE b6 P]))
   rintro v dh dq dY⟨-,bs,ds',r,rfl,kK,rfl,nl⟩;refine bd.mk ⟨b6,0,none⟩ i rfl rfl (by omega) ?_;refine b2.iC (cg.aq ⟨p4,bs,ds'⟩) [] (P.map (Value.int .i64)) 3 rfl (by rw[nK,bI];show 0+i*1+1<=_;omega) rfl ((P.set i r).map (Value.int .i64)) (by rw[c8,e2];exact oL P i (by omega) r) ?_;refine bg.mk _ (cL (i:=i) (by omega)) ?_;intro _;exact⟨(i+1,P.set i r,bs,ds',dh),⟨⟨iF _ _ nl,kK,λb o h=>dY _ _ (hT _ _ (bk _ _ h))⟩,by simp only;omega⟩,.perm (eI (l₁:=cg.aq ⟨p4,bs,ds'⟩)) .refl,jJ,.cons rfl (.cons rfl (.cons rfl (.nil)))⟩
  ·refine cV.draw a6 rfl rfl rfl ?_;refine eG.mk 3 rfl (by decide) ?_;refine d'.uI rfl (cg.aq ⟨p4,os,ds⟩) [dE b6 P] _ ?_ (m6 3 (by decide) rfl) ?_
   ·exact(eI (l₁:=[dE b6 P]))
   rintro v dh dq dY⟨-,bs,ds',r,rfl,kK,rfl,nl⟩;refine bd.mk ⟨b6,0,none⟩ i rfl rfl (by omega) ?_;refine b2.iC (cg.aq ⟨p4,bs,ds'⟩) [] (P.map (Value.int .i64)) 3 rfl (by rw[nK,bI];show 0+i*1+1<=_;omega) rfl ((P.set i r).map (Value.int .i64)) (by rw[c8,e2];exact oL P i (by omega) r) ?_;refine bg.mk _ (cL (i:=i) (by omega)) ?_;intro _;exact⟨(i+1,P.set i r,bs,ds',dh),⟨⟨iF _ _ nl,kK,λb o h=>dY _ _ (hT _ _ (bk _ _ h))⟩,by simp only;omega⟩,.perm (eI (l₁:=cg.aq ⟨p4,bs,ds'⟩)) .refl,jJ,.cons rfl (.cons rfl (.cons rfl (.nil)))⟩
  ·refine cV.draw a6 rfl rfl rfl ?_;refine eG.mk 4 rfl (by decide) ?_;refine d'.uI rfl (cg.aq ⟨p4,os,ds⟩) [dE b6 P] _ ?_ (m6 4 (by decide) rfl) ?_
   ·exact(eI (l₁:=[dE b6 P]))
   rintro v dh dq dY⟨-,bs,ds',r,rfl,kK,rfl,nl⟩;refine bd.mk ⟨b6,0,none⟩ i rfl rfl (by omega) ?_;refine b2.iC (cg.aq ⟨p4,bs,ds'⟩) [] (P.map (Value.int .i64)) 3 rfl (by rw[nK,bI];show 0+i*1+1<=_;omega) rfl ((P.set i r).map (Value.int .i64)) (by rw[c8,e2];exact oL P i (by omega) r) ?_;refine bg.mk _ (cL (i:=i) (by omega)) ?_;intro _;exact⟨(i+1,P.set i r,bs,ds',dh),⟨⟨iF _ _ nl,kK,λb o h=>dY _ _ (hT _ _ (bk _ _ h))⟩,by simp only;omega⟩,.perm (eI (l₁:=cg.aq ⟨p4,bs,ds'⟩)) .refl,jJ,.cons rfl (.cons rfl (.cons rfl (.nil)))⟩
  ·refine cV.draw a6 rfl rfl rfl ?_;refine eG.mk 5 rfl (by decide) ?_;refine d'.uI rfl (cg.aq ⟨p4,os,ds⟩) [dE b6 P] _ ?_ (m6 5 (by decide) rfl) ?_
   ·exact(eI (l₁:=[dE b6 P]))
   rintro v dh dq dY⟨-,bs,ds',r,rfl,kK,rfl,nl⟩;refine bd.mk ⟨b6,0,none⟩ i rfl rfl (by omega) ?_;refine b2.iC (cg.aq ⟨p4,bs,ds'⟩) [] (P.map (Value.int .i64)) 3 rfl (by rw[nK,bI];show 0+i*1+1<=_;omega) rfl ((P.set i r).map (Value.int .i64)) (by rw[c8,e2];exact oL P i (by omega) r) ?_;refine bg.mk _ (cL (i:=i) (by omega)) ?_;intro _;exact⟨(i+1,P.set i r,bs,ds',dh),⟨⟨iF _ _ nl,kK,λb o h=>dY _ _ (hT _ _ (bk _ _ h))⟩,by simp only;omega⟩,.perm (eI (l₁:=cg.aq ⟨p4,bs,ds'⟩)) .refl,jJ,.cons rfl (.cons rfl (.cons rfl (.nil)))⟩
  ·refine cV.draw a6 rfl rfl rfl ?_;refine eG.mk 6 rfl (by decide) ?_;refine d'.uI rfl (cg.aq ⟨p4,os,ds⟩) [dE b6 P] _ ?_ (m6 6 (by decide) rfl) ?_
   ·exact(eI (l₁:=[dE b6 P]))
   rintro v dh dq dY⟨-,bs,ds',r,rfl,kK,rfl,nl⟩;refine bd.mk ⟨b6,0,none⟩ i rfl rfl (by omega) ?_;refine b2.iC (cg.aq ⟨p4,bs,ds'⟩) [] (P.map (Value.int .i64)) 3 rfl (by rw[nK,bI];show 0+i*1+1<=_;omega) rfl ((P.set i r).map (Value.int .i64)) (by rw[c8,e2];exact oL P i (by omega) r) ?_;refine bg.mk _ (cL (i:=i) (by omega)) ?_;intro _;exact⟨(i+1,P.set i r,bs,ds',dh),⟨⟨iF _ _ nl,kK,λb o h=>dY _ _ (hT _ _ (bk _ _ h))⟩,by simp only;omega⟩,.perm (eI (l₁:=cg.aq ⟨p4,bs,ds'⟩)) .refl,jJ,.cons rfl (.cons rfl (.cons rfl (.nil)))⟩
  ·refine cV.draw a6 rfl rfl rfl ?_;refine eG.mk 7 rfl (by decide) ?_;refine d'.uI rfl (cg.aq ⟨p4,os,ds⟩) [dE b6 P] _ ?_ (m6 7 (by decide) rfl) ?_
   ·exact(eI (l₁:=[dE b6 P]))
   rintro v dh dq dY⟨-,bs,ds',r,rfl,kK,rfl,nl⟩;refine bd.mk ⟨b6,0,none⟩ i rfl rfl (by omega) ?_;refine b2.iC (cg.aq ⟨p4,bs,ds'⟩) [] (P.map (Value.int .i64)) 3 rfl (by rw[nK,bI];show 0+i*1+1<=_;omega) rfl ((P.set i r).map (Value.int .i64)) (by rw[c8,e2];exact oL P i (by omega) r) ?_;refine bg.mk _ (cL (i:=i) (by omega)) ?_;intro _;exact⟨(i+1,P.set i r,bs,ds',dh),⟨⟨iF _ _ nl,kK,λb o h=>dY _ _ (hT _ _ (bk _ _ h))⟩,by simp only;omega⟩,.perm (eI (l₁:=cg.aq ⟨p4,bs,ds'⟩)) .refl,jJ,.cons rfl (.cons rfl (.cons rfl (.nil)))⟩
  ·refine cV.draw a6 rfl rfl rfl ?_;refine eG.mk 8 rfl (by decide) ?_;refine d'.uI rfl (cg.aq ⟨p4,os,ds⟩) [dE b6 P] _ ?_ (m6 8 (by decide) rfl) ?_
   ·exact(eI (l₁:=[dE b6 P]))
   rintro v dh dq dY⟨-,bs,ds',r,rfl,kK,rfl,nl⟩;refine bd.mk ⟨b6,0,none⟩ i rfl rfl (by omega) ?_;refine b2.iC (cg.aq ⟨p4,bs,ds'⟩) [] (P.map (Value.int .i64)) 3 rfl (by rw[nK,bI];show 0+i*1+1<=_;omega) rfl ((P.set i r).map (Value.int .i64)) (by rw[c8,e2];exact oL P i (by omega) r) ?_;refine bg.mk _ (cL (i:=i) (by omega)) ?_;intro _;exact⟨(i+1,P.set i r,bs,ds',dh),⟨⟨iF _ _ nl,kK,λb o h=>dY _ _ (hT _ _ (bk _ _ h))⟩,by simp only;omega⟩,.perm (eI (l₁:=cg.aq ⟨p4,bs,ds'⟩)) .refl,jJ,.cons rfl (.cons rfl (.cons rfl (.nil)))⟩
  ·refine cV.draw a6 rfl rfl rfl ?_;refine eG.mk 9 rfl (by decide) ?_;refine d'.uI rfl (cg.aq ⟨p4,os,ds⟩) [dE b6 P] _ ?_ (m6 9 (by decide) rfl) ?_
   ·exact(eI (l₁:=[dE b6 P]))
   rintro v dh dq dY⟨-,bs,ds',r,rfl,kK,rfl,nl⟩;refine bd.mk ⟨b6,0,none⟩ i rfl rfl (by omega) ?_;refine b2.iC (cg.aq ⟨p4,bs,ds'⟩) [] (P.map (Value.int .i64)) 3 rfl (by rw[nK,bI];show 0+i*1+1<=_;omega) rfl ((P.set i r).map (Value.int .i64)) (by rw[c8,e2];exact oL P i (by omega) r) ?_;refine bg.mk _ (cL (i:=i) (by omega)) ?_;intro _;exact⟨(i+1,P.set i r,bs,ds',dh),⟨⟨iF _ _ nl,kK,λb o h=>dY _ _ (hT _ _ (bk _ _ h))⟩,by simp only;omega⟩,.perm (eI (l₁:=cg.aq ⟨p4,bs,ds'⟩)) .refl,jJ,.cons rfl (.cons rfl (.cons rfl (.nil)))⟩
 ·have cI:i=t.ns.length:=by have:¬ (i:Int)<(t.n:Int):=ek h;omega
  subst cI;obtain⟨k4,iT⟩:=aV.bn;obtain⟨r,fJ⟩:=eH k4;have fv:r<t.ns.length:=by omega
  obtain⟨T,jA,il,oj⟩:=bw.gq r fv;have aqC:P[r]'(by omega)=(T.bh:Int):=by rw[jA,bA,dg (by omega)];rfl
  refine bd.mk ⟨b6,0,none⟩ r rfl fJ (by omega) ?_;refine aM.mk _ (GY (by omega) aqC (.head _)) ?_;have m0:=aqi bx (by simp only;omega) bw.wd.aw bw.wd.diff il;refine be.mk (cg.aq ⟨p4,os,ds⟩) [dE b6 P] _ (eI (l₁:=[dE b6 P])) m0 ?_;rintro v dh dq -⟨dY,rfl,bq,rfl,s4,dX⟩;intro _;refine⟨_,_,.sub (fO _) .refl,λb o h=>dY _ _ (bk _ _ h),rfl,bq,rfl,s4,?_⟩;rw[show(cr t).ki=(T.bare ds).bo from by rw[oj];unfold aQ.ki cr;rw[fJ]];exact dX
section
end
def adp{d:ao}(h:d.k=0)(aA:Go.V.fits d n=true):n=0:=by unfold Go.V.fits at aA;rw[h]at aA;simp[uN,sC]at aA;have aa:lp[0]?.getD 0=0:=rfl;have ab:lp[1]?.getD 0=0:=rfl;rw[aa,ab]at aA;omega
def aqD{M0:List aD}(bu:ga I ax)(av:t.ok I)(af:right t=true)(aB:t.n<=1099511627776) :
  Spec Tryz.prog 15 [t.val] I M0 λv I' M'=>(∀ b o,I b=some o->I' b=some o)/\M'=M0/\∃ bq:bS,v=.tuple #[bq.val,.bool true]/\bq.ok I'/\pd bq (cr t).ki:=by
 refine(Spec.frame (aqB bu av af aB)).Nd ?_;rintro v I' M'⟨M1,rfl,-,-,aa,rfl,ab⟩;exact⟨aa,rfl,ab⟩
def FI{d:ao}(h:d.k=4\/d.k=5)(aA:Go.V.fits d n=true):2<=n:=by
 unfold Go.V.fits at aA;rcases h with e | e<;>rw[e]at aA<;>simp[uN,sC]at aA<;>have:=aA.1.1<;>simp[lp]at this<;>omega
def aqE{d:ao}(h:d.k=4\/d.k=5):fN (.mk (nothing (d.k-4)).bare []):=by
 refine .mk ?_ λc an=>by cases an
 rcases h with e | e
 ·rw[show d.k-4=0 by omega];rfl
 ·rw[show d.k-4=1 by omega];rfl
def aqF{d:ao}{xs:List aQ}(aA:Go.V.fits d xs.length=true)(ad:∀ x∈xs,fN x):fN (Jp d xs):=by
 unfold Jp;split
 ·rename_i eD;have ab:=FI eD aA;have ar:∀ y∈xs.filter (iK d),fN y:=λy aE=>ad y (ja.1 aE).1;generalize xs.filter (iK d)=bi at ar
  match bi,ar with
  |[],_=>exact aqE eD| [y],ar=>exact ar y (.head _)| w9::xb::l,ar=>exact .mk (TQ eD (n:=(xs.length:Nat)) (by omega) (by simp;omega) aA) ar
 ·exact .mk aA ad
def adq:∀ {T:aQ},fN T->fN (T.fold ir):=by
 intro T
 induction T using aQ.ind with
 |h d ks aL=>intro h;rw[aQ.fold_eq];refine aqF (by rw[bI];exact h.inv.1) λx ad=>?_;obtain⟨c,an,rfl⟩:=cN.1 ad;exact aL c an (h.inv.2 c an)
def Nv(cw:Option Int):Prop:=cw=none\/cw=some 4\/cw=some 5
def TW(d:ao):Nv (hq d):=by
 unfold hq Nv;split
 ·rename_i h;rcases h with e | e<;>rw[e]<;>simp
 ·exact .inl rfl
def TX{α β:Type}{f:α->β}:∀ l:List α,l.map f=l.flatMap λc=>[f c]
 |[]=>rfl| a::l=>by rw[b0,TX l];rfl
def TY{α β:Type}{f:α->List β}:∀ {l:List α},(∀ x∈l,1<=(f x).length)->l.length<=(l.flatMap f).length
 |[],_=>ca _| a::l,h=>by have:=TY (l:=l) λx ad=>h x (.tail _ ad);have:=h a (.head _);rw[j6,ch,dx];omega
def aqG:∀ {T:aQ},fN T->(∀ cw,Nv cw->1<=(T.fx cw).length/\∀ U∈T.fx cw,fN U)/\fN T.bo:=by
 intro T
 induction T using aQ.ind with
 |h d ks aL=>
  intro h;obtain⟨aA,ae⟩:=h.inv;have nn:fN (aQ.mk d ks).bo:=by
   show fN (.mk d (ks.flatMap (aQ.fx (hq d))));have aa:=TY (f:=aQ.fx (hq d)) λc an=>((aL c an (ae c an)).1 _ (TW d)).1;refine .mk ?_ λU eb=>?_
   ·by_cases eD:d.k=4\/d.k=5
    ·have:=FI eD aA;exact TQ eD (n:=(ks.length:Nat)) (by omega) (by omega) aA
    ·have e:hq d=none:=bR eD;have a7:ks.flatMap (aQ.fx (hq d))=ks.map aQ.bo:=by
      rw[e];rw[TX];refine r0 λc _=>?_;cases c with
      |mk gM C1=>rw[aQ.p3,bR (by simp)]
     rw[a7,bI];exact aA
   ·obtain⟨c,an,eb⟩:=hb.1 eb;exact((aL c an (ae c an)).1 _ (TW d)).2 U eb
  refine⟨λcw j9=>?_,nn⟩;rw[aQ.p3];split
  ·rename_i e;have eD:d.k=4\/d.k=5:=by
    rcases j9 with h | h | h<;>rw[h]at e
    ·cases e
    ·exact .inl (fh e)
    ·exact .inr (fh e)
   have ab:=FI eD aA;have aa:=TY (f:=aQ.fx cw) λc an=>((aL c an (ae c an)).1 _ j9).1;refine⟨by omega,λU eb=>?_⟩;obtain⟨c,an,eb⟩:=hb.1 eb;exact((aL c an (ae c an)).1 _ j9).2 U eb
  ·refine⟨ca _,λU eb=>?_⟩;rw[ed.1 eb];exact nn
def adr{T:aQ}(h:fN T):fN T.ki:=(aqG (adq h)).2
def aqH{d:ao}{xs:List aQ}(ad:∀ x∈xs,iI x)(ak:d.bare=d):iI (Jp d xs):=by
 unfold Jp;split
 ·have ar:∀ y∈xs.filter (iK d),iI y:=λy aE=>ad y (ja.1 aE).1;generalize xs.filter (iK d)=bi at ar
  match bi,ar with
  |[],_=>exact .mk rfl λc an=>by cases an
  |[y],ar=>exact ar y (.head _)| w9::xb::l,ar=>exact .mk ak ar
 ·exact .mk ak ad
def aqI:∀ (T:aQ),iI (T.fold ir):=by
 intro T
 induction T using aQ.ind with
 |h d ks aL=>rw[aQ.fold_eq];refine aqH (λx ad=>?_) rfl;obtain⟨c,an,rfl⟩:=cN.1 ad;exact aL c an
def aqJ:∀ {T:aQ},iI T->(∀ cw,∀ U∈T.fx cw,iI U)/\iI T.bo:=by
 intro T
 induction T using aQ.ind with
 |h d ks aL=>
  intro h;obtain⟨aA,ae⟩:=h.inv;have nn:iI (aQ.mk d ks).bo:=by show iI (.mk d (ks.flatMap (aQ.fx (hq d))));refine .mk aA λU eb=>?_;obtain⟨c,an,eb⟩:=hb.1 eb;exact(aL c an (ae c an)).1 _ U eb
  refine⟨λcw U eb=>?_,nn⟩;rw[aQ.p3]at eb;split at eb;·obtain⟨c,an,eb⟩:=hb.1 eb;exact(aL c an (ae c an)).1 _ U eb
  ·rw[ed.1 eb];exact nn
def ads(T:aQ):iI T.ki:=(aqJ (aqI T)).2
section
variable{α:Type}{F:ao->List α->α}(bG:Tx F)
include bG
theorem fold_filter{d:ao}(xs:List aQ)(ad:∀ x∈xs,fN x):∀ ys:List α,F d (ys++xs.map (aQ.fold F))=F d (ys++(xs.filter (iK d)).map (aQ.fold F)):=by
 induction xs with
 |nil=>intro ys;rfl
 |cons x xs aL=>
  intro ys;have aL:=aL λy aE=>ad y (.tail _ aE);rw[pu,b0];cases h:iK d x with
  |true=>have:=aL (ys++[x.fold F]);simpa using this
  |false=>
   unfold iK at h;have aI:d.k=4:=by
    cases e:decide (d.k=4)with
    |true=>exact dw e| false=>rw[e]at h;cases h
   have az:x.d.k=0:=by
    cases e:decide (x.d.k=0)with
    |true=>exact dw e| false=>rw[e,aI]at h;cases h
   have Cw:=ad x (.head _);cases x with
   |mk gM ks=>
   have ae:ks=[]:=iy (adp az Cw.inv.1);subst ae;rw[aQ.fold_eq,hy,bG.drop d gM ys _ aI az,aL];rfl
theorem aqK{d:ao}{xs:List aQ}(ad:∀ x∈xs,fN x):(ir d xs).fold F=F d (xs.map (aQ.fold F)):=by
 have ag:F d.bare=F d:=bG.aw d [];rw[C8];have h:=fold_filter bG (d:=d) xs ad [];rw[iz,iz]at h;split
 ·rename_i eD;rw[h];generalize xs.filter (iK d)=bi
  match bi with
  |[]=>
   rw[aQ.fold_eq];rcases eD with e | e;·rw[show d.k-4=0 by omega];exact(bG.ao2 d (nothing 0).bare e rfl).symm
   ·rw[show d.k-4=1 by omega];exact(bG.ao3 d (nothing 1).bare e rfl rfl rfl rfl rfl).symm
  |[y]=>exact(bG.one d _ eD).symm| w9::xb::l=>rw[aQ.fold_eq,ag]
 ·rw[aQ.fold_eq,ag]
theorem aqL:∀ {T:aQ},fN T->(T.fold ir).fold F=T.fold F:=by
 intro T
 induction T using aQ.ind with
 |h d ks aL=>
  intro h;obtain⟨aA,ae⟩:=h.inv;rw[aQ.fold_eq,aqK bG (λx ad=>?_),aQ.fold_eq,gA];·congr 1;exact fR λc an=>aL c an (ae c an)
  ·obtain⟨c,an,rfl⟩:=cN.1 ad;exact adq (ae c an)
theorem aqM:∀ (T:aQ),(∀ d,d.k=4\/d.k=5->∀ xs e1:List α,F d (xs++((T.fx (some d.k)).map (aQ.fold F)++e1))=F d (xs++(T.fold F::e1)))/\T.bo.fold F=T.fold F:=by
 intro T
 induction T using aQ.ind with
 |h d ks aL=>
  have flat:∀ (e:ao),e.k=4\/e.k=5->∀ (l:List aQ),(∀ c∈l,c∈ks)->∀ xs e1:List α,F e (xs++((l.flatMap (aQ.fx (some e.k))).map (aQ.fold F)++e1))=F e (xs++(l.map (aQ.fold F)++e1)):=by
   intro e he l
   induction l with
   |nil=>intro _ xs e1;rfl| cons c l Jl=>intro ay xs e1;rw[j6,cM,dV,(aL c (ay c (.head _))).1 e he];have:=Jl (λx ad=>ay x (.tail _ ad)) (xs++[c.fold F]) e1;simpa using this
  have nn:(aQ.mk d ks).bo.fold F=(aQ.mk d ks).fold F:=by
   show(aQ.mk d (ks.flatMap (aQ.fx (hq d)))).fold F=_;rw[aQ.fold_eq,aQ.fold_eq];by_cases eD:d.k=4\/d.k=5;·have e:hq d=some d.k:=bN eD;have:=flat d eD ks (λc an=>an) [] [];rw[e];simpa using this
   ·have e:hq d=none:=bR eD;congr 1;rw[e,Ay];rw[TX (f:=aQ.fold F)];refine r0 λc an=>?_;have ab:=(aL c an).2;cases c with
    |mk gM C1=>
    rw[aQ.p3,bR (by simp),s7,ab]
  refine⟨λe he xs e1=>?_,nn⟩;rw[aQ.p3];split;·rename_i ae;have ae:d.k=e.k:=fh ae;rw[flat e he ks (λc an=>an),aQ.fold_eq];exact(bG.nest e d xs (ks.map (aQ.fold F)) e1 he ae).symm
  ·rw[s7,nn];rfl
theorem adt{T:aQ}(h:fN T):T.ki.fold F=T.fold F:=(aqM bG _).2.trans (aqL bG h)
end
namespace aK
def go:aK->List Int->Option aK
 |T,[]=>some T| T,i::p=>if 0<=i/\i<(T.sub.length:Int)then(T.sub.getD i.toNat T).go p else none
def pe:aK->List Int->List (Nat×Int)
 |_,[]=>[]| T,i::p=>(T.bh,i)::(T.sub.getD i.toNat T).pe p
end aK
namespace aQ
def go:aQ->List Int->Option aQ
 |T,[]=>some T| T,i::p=>if 0<=i/\i<(T.sub.length:Int)then(T.sub.getD i.toNat T).go p else none
def put:aQ->List Int->aQ->aQ
 |_,[],X=>X| T,i::p,X=>.mk T.d (T.sub.set i.toNat ((T.sub.getD i.toNat T).put p X))
end aQ
def adu(ns:List ao)(T:aK):(T.bare ns).sub=T.sub.map (aK.bare ns):=by
 cases T with
 |mk k ks=>
 rw[aK.mK];rfl
def getD_map{β:Type}(f:α->β)(l:List α)(i:Nat)(a:α):(l.map f).getD i (f a)=f (l.getD i a):=by rw[bA,bA,jH];cases l[i]?<;>rfl
def bare_go(ns:List ao):∀ (p:List Int) (T:aK),(T.bare ns).go p=(T.go p).map (aK.bare ns)
 |[],T=>rfl
 |i::p,T=>by
  rw[aQ.go,aK.go,adu,bI];split;·rw[getD_map,bare_go ns p]
  ·rfl
def cq.getD{ns:List ao}{T:aK}(h:cq ns T)(i:Nat):cq ns (T.sub.getD i T):=by
 rw[bA];cases e:T.sub[i]? with
 |none=>exact h| some c=>exact h.C4 c (st e)
def cq.go{ns:List ao}:∀ (p:List Int) {T:aK},cq ns T->∀ {S},T.go p=some S->cq ns S
 |[],T,h,S,e=>by obtain rfl:=fh e;exact h
 |i::p,T,h,S,e=>by
  rw[aK.go]at e;split at e;·exact cq.go p (h.getD _) e
  ·cases e
structure l3(ds:List ao)(Jn:List Nat):Prop where
 wd:sf ds Jn
 all:∀ j,j<ds.length->(j:Int)∈eO ds\/j∈Jn
def l3.perm{ds:List ao}{a b:List Nat}(h:l3 ds a)(aC:a.Perm b):l3 ds b:=⟨h.wd.perm aC,λj ai=>(h.all j ai).imp id λh=>aC.mem_iff.1 h⟩
def l3.add{ds:List ao}(h:l3 ds (l++bj)){x:ao}(ad:Go.V.fits x l.length=true)(ae:x.aw=l.map Int.ofNat):l3 (ds++[x]) (ds.length::bj):=by
 refine⟨h.wd.add (by rw[ae,bI];exact ad) (by rw[ae];exact .refl _),λj ai=>?_⟩;have fu:eO (ds++[x])=eO ds++l.map Int.ofNat:=by rw[Ns,<-ae];simp[eO]
 rw[ch,pN]at ai;rw[fu,cB];by_cases e:j=ds.length
 ·exact .inr (by rw[e];exact .head _)
 ·rcases h.all j (by omega)with aa | aa
  ·exact .inl (.inl aa)
  ·rcases cB.1 aa with aa | aa
   ·exact .inl (.inr (cN.2 ⟨j,aa,rfl⟩))
   ·exact .inr (.tail _ aa)
def l3.nil:l3 [] []:=⟨⟨(λd ak=>by cases ak),λj h=>absurd h (nT _),List.Pairwise.nil,(λk ae=>by cases ae),.nil⟩,λj h=>absurd h (nT _)⟩
def l3.right{ds:List ao}{r:Nat}(h:l3 ds [r])(aB:t.ns=ds)(af:t.bn=(r:Int)):hG t:=by
 subst aB;obtain⟨aa,ab⟩:=h.wd.gJ r (.head _);refine⟨by rw[af];omega,λj ai=>h.wd.fits _ (br ai),h.wd.aw,h.wd.diff,λj ai=>?_⟩;rw[af];constructor
 ·intro hm e;obtain rfl:j=r:=by omega
  exact ab hm
 ·intro bt;rcases h.all j ai with aj | aj
  ·exact aj
  ·exact absurd (by rw[ed.1 aj]) bt
def e6(q:List aK)(i:Nat):Nat:=1+((q.take i).flatMap aK.sub).length
structure vA(S:aK)(q:List aK)(i:Nat):Prop where
 hi:i<=q.length
 eq:q=S::(q.take i).flatMap aK.sub
 lt:∀ j,j<i->j<e6 q j
 pm:S.cE.Perm ((q.take i).map aK.bh++(q.drop i).flatMap aK.cE)
def vA.start(S:aK):vA S [S] 0:=⟨dD _,rfl,(λj h=>absurd h (nT _)),by simp⟩
def vA.len{S:aK}{q:List aK}(h:vA S q i):i+hr (q.drop i)=S.cE.length/\q.length<=S.cE.length:=by have aa:=h.pm.length_eq;have ab:=h.hi;have aj:=AO (q.drop i);rw[ch,bI,hx,x']at aa;rw[tp]at aj;unfold hr at aj |-;omega
def vA.step{S:aK}{q:List aK}(h:vA S q i)(hi:i<q.length):vA S (q++q[i].sub) (i+1):=by
 have m0:(q++q[i].sub).take (i+1)=q.take i++[q[i]]:=by rw[Bt (by omega),gg hi]
 have I5:∀ j,j<=i->e6 (q++q[i].sub) j=e6 q j:=λj ai=>by unfold e6;rw[Bt (by omega)]
 refine⟨by rw[ch];omega,?_,λj ai=>?_,?_⟩
 ·rw[m0,hg,pM]
  conv=>lhs;lhs;rw[h.eq]
  rfl
 ·rw[I5 j (by omega)];by_cases e:j=i
  ·subst e;have:=congrArg List.length h.eq;rw[dx]at this;unfold e6;omega
  ·exact h.lt j (by omega)
 ·rw[m0];refine h.pm.trans ?_;have aG:q.drop i=q[i]::q.drop (i+1):=eV hi;have a7:(q++q[i].sub).drop (i+1)=q.drop (i+1)++q[i].sub:=by rw[Qz (by omega)]
  have cn:q[i].cE=q[i].sub.flatMap aK.cE++[q[i].bh]:=by
   cases q[i]with
   |mk k ks=>exact aK.kJ k ks
  rw[aG,a7,j6,cn,cM,hg,s7,dV,dV];refine Tv _ ?_;have aa:=eI (l₁:=q[i].sub.flatMap aK.cE) (l₂:=[q[i].bh]++(q.drop (i+1)).flatMap aK.cE);simpa using aa
def vA.done{S:aK}{q:List aK}(h:vA S q q.length):q=S::q.flatMap aK.sub/\(∀ j,j<q.length->j<e6 q j)/\q.length=S.cE.length:=by
 obtain⟨aa,ab⟩:=h.len;refine⟨?_,h.lt,?_⟩
 ·have:=h.eq;rwa [DI]at this
 ·rw[List.drop_length]at aa;simpa[hr]using aa
def adv{q:List aK}(hi:i<q.length):e6 q (i+1)=e6 q i+q[i].sub.length:=by unfold e6;rw[gg hi,hg,ch,pM];omega
def adw{S:aK}{q:List aK}(h:q=S::q.flatMap aK.sub):e6 q q.length=q.length:=by unfold e6;rw[DI];have:=congrArg List.length h;rw[dx]at this;omega
def adx{S:aK}{q:List aK}(h:q=S::q.flatMap aK.sub){j:Nat}(hi:i<q.length)(ai:j<q[i].sub.length):q[e6 q i+j]?=some q[i].sub[j]:=by
 have e:q.flatMap aK.sub=(q.take i).flatMap aK.sub++(q[i].sub++(q.drop (i+1)).flatMap aK.sub):=by
  conv=>lhs;rw[<-rG i q,eV hi]
  rw[hg,j6]
 have aa:q[e6 q i+j]?=(S::q.flatMap aK.sub)[e6 q i+j]?:=congrArg (λl:List aK=>l[e6 q i+j]?) h;rw[aa];unfold e6;rw[show 1+((q.take i).flatMap aK.sub).length+j=(((q.take i).flatMap aK.sub).length+j)+1 by omega,F7,e,m3 (by omega),show((q.take i).flatMap aK.sub).length+j-((q.take i).flatMap aK.sub).length=j by omega,rj ai,dg ai]
structure xd(ns:List ao)(cR:Nat)(p2:List Nat)(q:List aK)(i:Nat)(dO:List ao):Prop where
 hi:i<=q.length
 len:dO.length=cR+(q.length-i)
 EH:l3 dO ((List.range (e6 q i-i)).map (λz=>cR+q.length-1-(i+z))++p2)
 gq:∀ p,i<=p->(h:p<q.length)->∃ T:aK,T.bh=cR+q.length-1-p/\cq dO T/\T.bare dO=q[p].bare ns
def xd.start{ns:List ao}{S:aK}{q:List aK}(h:q=S::q.flatMap aK.sub)(au:l3 dO p2):xd ns dO.length p2 q q.length dO:=by refine⟨ca _,by omega,?_,λp aa ab=>absurd ab (by omega)⟩;rw[adw h,pL];exact au
def xd.step{ns:List ao}{S:aK}{q:List aK}(aR:q=S::q.flatMap aK.sub)(aX:∀ j,j<q.length->j<e6 q j)(h:xd ns cR p2 q (i+1) dO)(fc:cq ns (q[i]'(by have:=h.hi;omega)))(aA:∀ d∈ns,fits d d.aw.length=true){x:ao}(ky:x.bare=(nodeAt ns (q[i]'(by have:=h.hi;omega)).bh).bare)(AR:x.aw=(List.range (e6 q (i+1)-e6 q i)).map λz=>((cR+q.length-1-(e6 q i+z):Nat):Int)) :
  xd ns cR p2 q i (dO++[x]):=by
 have hi:i<q.length:=by have:=h.hi;omega
 have ar:=adv hi;have avZ:=aX i hi;have je:=h.len;have mf:∀ j,j<q[i].sub.length->e6 q i+j<q.length:=λj ai=>by have:=adx aR hi ai;exact(ia.1 this).1
 have e7:dO.length=cR+q.length-1-i:=by omega
 refine⟨by omega,by rw[ch,pN];omega,?_,λp wL mC=>?_⟩
 ·have e5:e6 q (i+1)-e6 q i=q[i].sub.length:=by omega
  have ay:((List.range (e6 q (i+1)-(i+1))).map (λz=>cR+q.length-1-(i+1+z))++p2).Perm ((List.range q[i].sub.length).map (λz=>cR+q.length-1-(e6 q i+z))++((List.range (e6 q i-(i+1))).map (λz=>cR+q.length-1-(i+1+z))++p2)):=by
   rw[<-dV];refine List.Perm.append_right _ ?_;have e:e6 q (i+1)-(i+1)=(e6 q i-(i+1))+q[i].sub.length:=by omega
   rw[e,List.range_add,cM,gA];refine eI.trans (List.Perm.append_right _ ?_);refine List.Perm.of_eq (fR λz bb=>?_);show cR+q.length-1-(i+1+(e6 q i-(i+1)+z))=_;omega
  have aqN:Go.V.fits x ((List.range q[i].sub.length).map (λz=>cR+q.length-1-(e6 q i+z))).length=true:=by
   rw[bI,wB];have aa:=aA _ (br fc.mJ);rw[<-gm fc.mJ,fc.w7]at aa;unfold eL at aa;rw[bI]at aa;have ab:Go.V.fits x.bare (q[i].sub.length:Nat)=true:=by rw[ky];exact aa
   exact ab
  have au:=(h.EH.perm ay).add (x:=x) aqN (by rw[AR,e5,gA];rfl);refine au.perm ?_;rw[e7];have e:e6 q i-i=(e6 q i-(i+1))+1:=by omega
  rw[e,List.range_succ_eq_map,b0,gA,m4];refine List.Perm.of_eq ?_;congr 1;congr 1;refine fR λz bb=>?_;show _=cR+q.length-1-(i+(z+1));omega
 ·by_cases e:p=i
  ·subst e;obtain⟨ks,tG,eN⟩:=Jg (R:=λ(z:Nat) (T:aK)=>T.bh=cR+q.length-1-(e6 q p+z)/\cq dO T/\∃ bb:z<q[p].sub.length,T.bare dO=q[p].sub[z].bare ns) (l:=List.range q[p].sub.length) λz bb=>by have bb:z<q[p].sub.length:=g7.1 bb;have ag:=mf z bb;obtain⟨T,aa,ab,aj⟩:=h.gq (e6 q p+z) (by omega) ag;refine⟨T,aa,ab,bb,?_⟩;have aI:=adx aR hi bb;rw[dg ag]at aI;rw[aj,fh aI]
   rw[wB]at tG;have eR:∀ c∈ks,cq dO c:=λc an=>by obtain⟨z,bb,rfl⟩:=ka an;exact(eN z (by simpa using by omega) bb).2.1
   refine⟨.mk dO.length ks,by show dO.length=_;omega,.mk (by simp) ?_ λc an=>(eR c an).app _,?_⟩;·rw[FA,AR];refine mT (by simp;omega) λz bb g9=>?_;rw[f',f',u5];have:=(eN z (by simpa using by simpa[tG]using g9) (by simpa using g9)).1;rw[u5]at this;omega
   ·rw[aK.mK,FA,ky];have u':q[p].bare ns=.mk (nodeAt ns q[p].bh).bare (q[p].sub.map (aK.bare ns)):=by
     cases q[p]with
     |mk k l=>exact aK.mK ns k l
    rw[u'];congr 1;refine mT (by simp[tG]) λz bb g9=>?_;rw[f',f'];have u3:z<ks.length:=by simpa using bb
    obtain⟨-,ba,av0,bQ⟩:=eN z (by simpa using by omega) u3;simp only[u5]at bQ;rw[aK.C3 dO (eR _ (br u3)),bQ]
  ·obtain⟨T,aa,ab,aj⟩:=h.gq p (by omega) mC;exact⟨T,aa,ab.app _,by rw[aK.C3 dO ab];exact aj⟩
def xd.done{ns:List ao}{S:aK}{q:List aK}(aR:q=S::q.flatMap aK.sub)(h:xd ns cR p2 q 0 dO):l3 dO ((dO.length-1)::p2)/\∃ T:aK,T.bh=dO.length-1/\cq dO T/\T.bare dO=S.bare ns:=by
 have ay:=h.len;have az:0<q.length:=by rw[aR];simp
 refine⟨?_,?_⟩
 ·have au:=h.EH;have e:e6 q 0-0=1:=by unfold e6;simp
  rw[e]at au;have a7:cR+q.length-1-(0+0)=dO.length-1:=by omega
  simpa[a7,ay]using au
 ·obtain⟨T,aa,ab,aj⟩:=h.gq 0 (ca _) az;refine⟨T,by omega,ab,?_⟩;rw[aj];congr 1;have:=congrArg (λl:List aK=>l[0]?) aR;rw[dg az]at this;exact fh this
def gP:aP:=⟨⟨#[]⟩,⟨[],none,0,0,0⟩⟩
def ady:∀ (ds ds':List aP) (a5:List (ByteArray×Int)) (i:Nat),ds.map aP.name=ds'.map aP.name->n8 a5 i ds=n8 a5 i ds'
 |[],[],_,_,_=>rfl| [],_::_,_,_,h=>by simp at h
 |_::_,[],_,_,h=>by simp at h
 |d::ds,gM::ds',a5,i,h=>by rw[b0,b0,xU]at h;rw[n8,n8,h.1,ady ds ds' _ _ h.2]
def eQ(ds:List aP)(u:Nat)(y:bS):List aP:=ds.set u ⟨(ds.getD u gP).name,y⟩
def yR(ds:List aP)(u:Nat)(y:bS):(eQ ds u y).length=ds.length:=by simp[eQ]
def adz(ds:List aP)(u:Nat)(y:bS):(eQ ds u y).map aP.name=ds.map aP.name:=by
 unfold eQ;rw[pw];refine zw λi=>?_;rw[ih];split
 ·rename_i h;subst h;rw[bI,jH];by_cases h:u<ds.length
  ·simp[h,bA]
  ·simp[h]
 ·rfl
def Jr(ds:List aP)(u:Nat)(y:bS):bD (eQ ds u y)=bD ds:=ady _ _ _ _ (adz ds u y)
def Da{ds:List aP}{y:bS}(h:i≠u):(eQ ds u y)[i]?=ds[i]?:=by unfold eQ;rw[ih,bR (λe=>h e.symm)]
def Db{ds:List aP}{y:bS}(h:u<ds.length):(eQ ds u y)[u]?=some ⟨ds[u].name,y⟩:=by unfold eQ;rw[ih,bN rfl,bN h];simp[bA,h]
def FJ{d:aP}(af:right d.t=true):iq pl F d=(nV pl F d.t).1.1:=(ao0 af).symm
def TZ(af:right t=true):(nV pl F t).1=gd pl F t.ns t.bn:=by obtain⟨k4,iT⟩:=qw af;obtain⟨r,fJ⟩:=eH k4;rw[acu,fJ,ML af (r+1) r (by omega) (by omega)]
structure s'(ds:List aP)(u a:Nat)(y:bS):Prop where
 ul:u<ds.length
 hc:a<ds.length
 ne:a≠u
 r:right y=true
 rel:∀ F:List aW,F.getD a bZ=(nV (bD ds) F (ds.getD a gP).t).1.1->w4 a (nV (bD ds) F (ds.getD a gP).t).1.2 (nV (bD ds) F (ds.getD a gP).t).2 (nV (bD ds) F y) (nV (bD ds) F (ds.getD u gP).t)
section
variable{ds:List aP}{u a:Nat}{y:bS}(h:s' ds u a y)(af:∀ d∈ds,right d.t=true)
include h af
theorem s'.Nw:ds.getD u gP=ds[u]'h.ul:=by have:=h.ul;simp[bA,this]
theorem s'.Nx:ds.getD a gP=ds[a]'h.hc:=by have:=h.hc;simp[bA,this]
theorem s'.T0(bG:∀ i (h:i<ds.length),F.getD i bZ=iq (bD ds) F ds[i]):F.getD a bZ=(nV (bD ds) F (ds.getD a gP).t).1.1:=by rw[bG a h.hc,FJ (af _ (br h.hc)),h.Nx af]
theorem s'.IX(bG:jO ds F)(ov:jO (eQ ds u y) dm):dm=F:=by
 have jz:=Jr ds u y;have hu:=h.ul;have a4:=h.hc;have ay:=yR ds u y;have adA:∀ i (hi:i<ds.length),i≠u->dm.getD i bZ=iq (bD ds) dm ds[i]:=λi hi bt=>by
  have aa:=ov.fix i (by omega);have ab:(eQ ds u y)[i]'(by omega)=ds[i]:=by have aj:=Da (ds:=ds) (y:=y) bt;rw[dg (by omega),dg hi]at aj;exact fh aj
  rw[ab,jz]at aa;exact aa
 have eb:(eQ ds u y)[u]'(by omega)=⟨ds[u].name,y⟩:=by have aj:=Db (y:=y) hu;rw[dg (by omega)]at aj;exact fh aj
 refine eC.antisymm ?_ ?_
 ·refine ov.least F (by rw[ay];exact bG.len) λi hi=>?_;rw[jz];by_cases e:i=u
  ·subst e;rw[eb,FJ h.r,bG.fix i hu,FJ (af _ (br hu))];have aa:=(h.rel F (h.T0 af bG.fix)).bi;rw[h.Nw af]at aa;rw[aa];exact aW.le_refl _
  ·have ab:(eQ ds u y)[i]=ds[i]'(by omega):=by have aj:=Da (ds:=ds) (y:=y) e;rw[dg hi,dg (by omega)]at aj;exact fh aj
   rw[ab,<-bG.fix i (by omega)];exact aW.le_refl _
 ·refine bG.least dm (by rw[ov.len,ay]) λi hi=>?_;by_cases e:i=u
  ·subst e;have aa:=ov.fix i (by omega);rw[eb,jz,FJ h.r]at aa;have ab:dm.getD a bZ=(nV (bD ds) dm (ds.getD a gP).t).1.1:=by rw[adA a a4 h.ne,FJ (af _ (br a4)),h.Nx af]
   have aj:=(h.rel dm ab).bi;rw[h.Nw af]at aj;rw[aa,FJ (af _ (br hi)),aj];exact aW.le_refl _
  ·rw[<-adA i hi e];exact aW.le_refl _
theorem s'.aqO:jE ds F a=(nV (bD ds) F (ds.getD a gP).t).1.2:=by have a4:=h.hc;unfold jE;rw[dg a4];show(gd _ _ ds[a].t.ns _).2=_;rw[h.Nx af,<-TZ (af _ (br a4))]
theorem s'.adB(bG:jO ds F){k:Nat}(ae:k∈jE (eQ ds u y) F i):kg (jE ds F) i k:=by
 by_cases e:i=u
 ·subst e;have aa:=h.rel F (h.T0 af bG.fix);have ab:jE (eQ ds i y) F i=(nV (bD ds) F y).1.2:=by unfold jE;rw[Db h.ul,Jr];show(gd _ _ y.ns _).2=_;rw[TZ h.r]
  have aj:jE ds F i=(nV (bD ds) F (ds.getD i gP).t).1.2:=by have hu:=h.ul;unfold jE;rw[dg hu];show(gd _ _ ds[i].t.ns _).2=_;rw[h.Nw af,<-TZ (af _ (br hu))]
  rw[ab]at ae;rcases aa.Ts k ae with aI | ⟨aI,bB⟩;·exact .one (by rw[aj];exact aI)
  ·exact .step (by rw[aj];exact aI) (.one (by rw[h.aqO af];exact bB))
 ·refine .one ?_;unfold jE at ae |-;rw[Da e,Jr]at ae;exact ae
theorem s'.comes(bG:jO ds F){k:Nat}(an:kg (jE (eQ ds u y) F) i k):kg (jE ds F) i k:=by
 induction an with
 |one ae=>exact h.adB af bG ae| step ai _ aL=>exact(h.adB af bG ai).trans aL
theorem s'.aqP(bG:jO ds F)(he:pY (eQ ds u y) F i=true):pY ds F i=true\/pY ds F a=true:=by
 by_cases e:i=u
 ·subst e;have aa:=h.rel F (h.T0 af bG.fix);have ab:pY (eQ ds i y) F i=(nV (bD ds) F y).2:=by unfold pY;rw[Db h.ul,Jr];rfl
  have aj:pY ds F i=(nV (bD ds) F (ds.getD i gP).t).2:=by unfold pY;rw[dg h.ul,h.Nw af];rfl
  have aI:pY ds F a=(nV (bD ds) F (ds.getD a gP).t).2:=by unfold pY;rw[dg h.hc,h.Nx af];rfl
  rw[ab]at he;rw[aj,aI];exact aa.e8 he
 ·refine .inl ?_;unfold pY at he |-;rw[Da e,Jr]at he;exact he
theorem s'.Js(bG:jO ds F)(ay:(r' ds F).length=0)(eS:(pZ ds F).length=0){ds':List aP}(an:ds'.map aP.a1=(eQ ds u y).map aP.a1)(ov:jO ds' dm):dm=F/\(r' ds' dm).length=0/\(pZ ds' dm).length=0:=by
 have Sx:jO (eQ ds u y) dm:=abZ (by rw[<-an];exact ake ov);have e:=h.IX af bG Sx;subst e;have c2:ds'.length=ds.length:=by have:=congrArg List.length an;rw[bI,bI,yR]at this;exact this
 refine⟨rfl,?_,?_⟩
 ·rw[List.length_eq_zero_iff,acw]at ay |-;intro i hi;rw[acm]at hi;refine ay i (acm.2 ⟨by omega,h.comes af bG ?_⟩);have e:jE ds' dm=jE (eQ ds u y) dm:=by funext i;rw[<-Tf,an,Tf]
  rw[<-e];exact hi.2
 ·rw[List.length_eq_zero_iff,acw]at eS |-;intro i hi;rw[<-Tg,an,Tg]at hi;unfold pZ at hi eS;rw[ja,g7,yR]at hi;rcases h.aqP af bG hi.2 with aa | aa
  ·exact eS i (ja.2 ⟨g7.2 hi.1,aa⟩)
  ·exact eS a (ja.2 ⟨g7.2 h.hc,aa⟩)
end
def aqQ{a:Nat}(d:ao){xs ys:List vw}(ay:xs.length=ys.length)(h:∀ i (ad:i<xs.length) (aE:i<ys.length),w4 a ly r1 xs[i] ys[i]):w4 a ly r1 (lG pl F d xs) (lG pl F d ys):=by
 have hm:(xs.map (·.1)).map (·.1)=(ys.map (·.1)).map (·.1):=by refine mT (by simpa using ay) λi aa ab=>?_;simp only[f'];exact(h i (by simpa using aa) (by simpa using ab)).bi
 have SV:∀ k∈(xs.map (·.1)).flatMap (·.2),k∈(ys.map (·.1)).flatMap (·.2)\/(a∈(ys.map (·.1)).flatMap (·.2)/\k∈ly):=by
  intro k ae;obtain⟨x,ad,ae⟩:=hb.1 ae;obtain⟨q,aR,rfl⟩:=ka ad;simp only[f']at ae;have aR:q<xs.length:=by simpa using aR
  have fw:(ys[q]'(by omega)).1∈ys.map (·.1):=Fx (br _);rcases(h q aR (by omega)).Ts k ae with aa | ⟨aa,ab⟩;·exact .inl (hb.2 ⟨_,fw,aa⟩)
  ·exact .inr ⟨hb.2 ⟨_,fw,aa⟩,ab⟩
 refine⟨?_,?_,?_⟩
 ·show gT d ((xs.map (·.1)).map (·.1)++_)=gT d ((ys.map (·.1)).map (·.1)++_);rw[hm]
 ·show ∀ k∈kc pl d (xs.map (·.1)),k∈kc pl d (ys.map (·.1))\/(a∈kc pl d (ys.map (·.1))/\k∈ly);unfold kc;by_cases cn:d.k=3
  ·rw[e9 cn];exact λk ae=>.inl ae
  rw[et cn];by_cases dr:d.k=4;·rw[e9 dr];refine acv (by simpa using ay) λi aa ab=>?_;simp only[f'];have:=h i (by simpa using aa) (by simpa using ab);exact⟨this.bi,this.Ts⟩
  rw[et dr];by_cases l0:d.k=6/\d.hi=0;·rw[e9 l0.1,e9 l0.2];exact λk ae=>.inl ae
  ·have e:(decide (d.k=6)&&decide (d.hi=0))=false:=by rw[<-Bool.decide_and];exact et l0
   rw[e];exact SV
 ·show yD pl F d xs=true->yD pl F d ys=true\/r1=true;intro az;obtain⟨x,ad,az⟩:=wY.1 az;obtain⟨q,aR,rfl⟩:=ka ad;have aV:=h q aR (by omega);rcases ao1 az with aa | aa
  ·refine .inl (wY.2 ⟨_,br (show q<ys.length by omega),?_⟩);rw[<-aV.bi,aa,My]
  ·rcases aV.e8 aa with ab | ab
   ·exact .inl (wY.2 ⟨_,br (show q<ys.length by omega),by rw[ab,Ex]⟩)
   ·exact .inr ab
def w4.rfl'{a:Nat}(x:vw):w4 a ly r1 x x:=⟨rfl,λk ae=>.inl ae,λh=>.inl h⟩
def aqR{a:Nat}{b:vw}{d:ao}(aj:d.k=3)(Ig:((ez d.t pl).getD 0).toNat=a)(aqS:F.getD a bZ=b.1.1):w4 a b.1.2 b.2 b (lG pl F d []):=by
 unfold lG qN;have aG:gT d ((([]:List vw).map (·.1)).map (·.1)++bif decide (d.k=3)then [F.getD ((ez d.t pl).getD 0).toNat bZ]else [])=b.1.1:=by rw[e9 aj,b5,Ig,aqS];unfold gT;simp[aj]
 refine⟨aG.symm,λk ae=>.inr ⟨?_,ae⟩,λh=>.inr h⟩;show a∈kc pl d _;rw[kc,e9 aj,b5,Ig];exact .head _
def adC{pl:List (ByteArray×Int)}{F:List aW}{a:Nat}{ly:List Nat}{r1:Bool}{X S:aQ}(jW:w4 a ly r1 (X.fold (lG pl F)) (S.fold (lG pl F))):∀ (p:List Int) (T:aQ),T.go p=some S->w4 a ly r1 ((T.put p X).fold (lG pl F)) (T.fold (lG pl F))
 |[],T,h=>by rw[aQ.go]at h;cases h;exact jW
 |i::p,.mk d ks,h=>by
  rw[aQ.go]at h;split at h
  ·rename_i hi;have hi:0<=i/\i<(ks.length:Int):=hi;obtain⟨q,rfl⟩:=eH hi.1;have aR:q<ks.length:=by omega
   have aL:=adC jW p _ h;rw[aQ.put];show w4 a ly r1 ((aQ.mk d (ks.set q ((ks.getD q (.mk d ks)).put p X))).fold _) _;rw[aQ.fold_eq,aQ.fold_eq];refine aqQ d (by simp) λj aa ab=>?_;rw[f',f',Kx];split
   ·rename_i e;subst e;have a7:(aQ.mk d ks).sub.getD ((q:Int)).toNat (.mk d ks)=ks[q]:=by show ks.getD q _=_;simp[bA,aR]
    rw[a7]at aL;have cn:ks.getD q (.mk d ks)=ks[q]:=by simp[bA,aR]
    rw[cn];exact aL
   ·exact w4.rfl' _
  ·cases h
inductive lI:aQ->Prop
 |mk{d:ao}{ks:List aQ}:(d.k=4\/d.k=5->∀ c∈ks,c.d.k≠d.k/\¬ (c.d.k=0/\d.k=4))->(∀ c∈ks,lI c)->lI (.mk d ks)
def lI.inv{d:ao}{ks:List aQ}(h:lI (.mk d ks)):(d.k=4\/d.k=5->∀ c∈ks,c.d.k≠d.k/\¬ (c.d.k=0/\d.k=4))/\∀ c∈ks,lI c:=by
 cases h with
 |mk aa ab=>exact⟨aa,ab⟩
inductive xe:aQ->Prop
 |mk{d:ao}{ks:List aQ}:(d.k=4->∀ c∈ks,c.d.k≠0)->(∀ c∈ks,xe c)->xe (.mk d ks)
def xe.inv{d:ao}{ks:List aQ}(h:xe (.mk d ks)):(d.k=4->∀ c∈ks,c.d.k≠0)/\∀ c∈ks,xe c:=by
 cases h with
 |mk aa ab=>exact⟨aa,ab⟩
def aqT{d:ao}{x:aQ}(h:iK d x=true)(aI:d.k=4):x.d.k≠0:=by unfold iK at h;intro az;rw[e9 aI,e9 az]at h;cases h
def aqU{d:ao}{xs:List aQ}(ad:∀ x∈xs,xe x):xe (ir d xs):=by
 rw[C8];split
 ·have ar:∀ y∈xs.filter (iK d),xe y/\(d.k=4->y.d.k≠0):=λy aE=>⟨ad y (ja.1 aE).1,aqT (ja.1 aE).2⟩;generalize xs.filter (iK d)=bi at ar
  match bi,ar with
  |[],_=>exact .mk (λ_ c an=>by cases an) λc an=>by cases an
  |[y],ar=>exact(ar y (.head _)).1| w9::xb::l,ar=>exact .mk (λaI c an=>(ar c an).2 aI) λc an=>(ar c an).1
 ·rename_i eD;exact .mk (λaI=>absurd (.inl aI) eD) ad
def aqV:∀ (T:aQ),xe (T.fold ir):=by
 intro T
 induction T using aQ.ind with
 |h d ks aL=>rw[aQ.fold_eq];refine aqU λx ad=>?_;obtain⟨c,an,rfl⟩:=cN.1 ad;exact aL c an
def aqW:∀ {T:aQ},xe T->lI T.bo/\∀ cw,∀ U∈T.fx cw,lI U/\some U.d.k≠cw/\(cw=some 4->T.d.k≠0->U.d.k≠0):=by
 intro T
 induction T using aQ.ind with
 |h d ks aL=>
  intro h;obtain⟨az,ae⟩:=h.inv;have nn:lI (aQ.mk d ks).bo:=by
   show lI (.mk d (ks.flatMap (aQ.fx (hq d))));refine .mk (λeD U eb=>?_) λU eb=>?_;·obtain⟨c,an,eb⟩:=hb.1 eb;have e:hq d=some d.k:=bN eD;rw[e]at eb;obtain⟨-,ab,aj⟩:=(aL c an (ae c an)).2 _ U eb;exact⟨λe=>ab (by rw[e]),λe=>aj (by rw[e.2]) (az e.2 c an) e.1⟩
   ·obtain⟨c,an,eb⟩:=hb.1 eb;exact((aL c an (ae c an)).2 _ U eb).1
  refine⟨nn,λcw U eb=>?_⟩;rw[aQ.p3]at eb;split at eb;·rename_i e;obtain⟨c,an,eb⟩:=hb.1 eb;obtain⟨aa,ab,aj⟩:=(aL c an (ae c an)).2 _ U eb;refine⟨aa,ab,λdr bt=>aj dr (az ?_ c an)⟩;rw[dr]at e;exact fh e
  ·rename_i e;rw[ed.1 eb];exact⟨nn,e,λ_ bt=>bt⟩
def aqX(T:aQ):lI T.ki:=(aqW (aqV T)).1
def aqY{ns:List ao}{j:Int}(h:j∈eO ns):∃ p,∃ aC:p<ns.length,j∈ns[p].aw:=by unfold eO at h;obtain⟨d,ak,ai⟩:=hb.1 h;obtain⟨p,aC,rfl⟩:=ka ak;exact⟨p,aC,ai⟩
def hG.down(h:hG t){P:Nat->Prop}(az:∀ r:Nat,t.bn=(r:Int)->P r)(step:∀ p (aC:p<t.ns.length),P p->∀ j:Nat,(j:Int)∈t.ns[p].aw->P j):∀ m j,j<t.ns.length->t.ns.length-j<=m->P j
 |0,j,ai,hm=>absurd hm (by omega)
 |m+1,j,ai,hm=>by
  by_cases e:(j:Int)=t.bn;·exact az j e.symm
  ·obtain⟨p,aC,s9⟩:=aqY ((h.all j ai).2 e);have:=h.aw p aC _ s9;exact step p aC (h.down az step m p aC (by omega)) j s9
def xf(af:right t=true){j:Nat}(ai:j<t.ns.length):gr t.ns j=.mk t.ns[j].bare (t.ns[j].aw.map (gr t.ns)):=
 D2 (λd g dK h=>by rw[fR h]) af ai
def adD(af:right t=true){j:Int}(az:0<=j)(aa:j<t.ns.length):(gr t.ns j).d.k=iG t.ns j:=by
 obtain⟨q,rfl⟩:=eH az;have aR:q<t.ns.length:=by omega
 rw[xf af aR];show t.ns[q].k=_;simp[iG,bA,aR]
def T1{ns:List ao}{kind:Int}:∀ {ks:List Int},kA ns kind ks=true ↔ ∀ k∈ks,iG ns k≠kind/\¬ (iG ns k=0/\kind=4)
 |[]=>by simp[kA]
 |k::ks=>by
  have aL:=T1 (ns:=ns) (kind:=kind) (ks:=ks);rw[kA];constructor
  ·intro h;cases ag:decide (iG ns k=kind)||(decide (iG ns k=0)&&decide (kind=4))with
   |true=>rw[ag]at h;cases h
   |false=>
    rw[ag]at h;intro x ad;rcases ec.1 ad with rfl | ad;·simp only[sF,Bool.and_eq_false_iff,ss]at ag;exact⟨ag.1,λe=>ag.2.elim (λh=>h e.1) λh=>h e.2⟩
    ·exact aL.1 h x ad
  ·intro h;have aa:=h k (.head _);have ag:(decide (iG ns k=kind)||(decide (iG ns k=0)&&decide (kind=4)))=false:=by rw[et aa.1,uF,<-Bool.decide_and];exact et aa.2
   rw[ag];exact aL.2 λx ad=>h x (.tail _ ad)
def adE{ns:List ao}:∀ {l:List ao},kZ ns l=true ↔ ∀ d∈l,d.k=4\/d.k=5->∀ k∈d.aw,iG ns k≠d.k/\¬ (iG ns k=0/\d.k=4)
 |[]=>by simp[kZ]
 |d::l=>by
  have aL:=adE (ns:=ns) (l:=l);rw[kZ];by_cases eD:d.k=4\/d.k=5
  ·have ag:(!decide (d.k=4) && !decide (d.k=5))=false:=by
    rcases eD with e | e<;>simp[e]
   rw[ag,b'];constructor
   ·intro h;cases ae:kA ns d.k d.aw with
    |false=>rw[ae]at h;cases h
    |true=>
     rw[ae]at h;intro x ad;rcases ec.1 ad with rfl | ad;·exact λ_=>T1.1 ae
     ·exact aL.1 h x ad
   ·intro h;rw[T1.2 (h d (.head _) eD)];exact aL.2 λx ad=>h x (.tail _ ad)
  ·have ag:(!decide (d.k=4) && !decide (d.k=5))=true:=by rw[et λe=>eD (.inl e),et λe=>eD (.inr e)];rfl
   rw[ag,b5,aL];constructor
   ·intro h x ad;rcases ec.1 ad with rfl | ad
    ·exact λe=>absurd e eD
    ·exact h x ad
   ·exact λh x ad=>h x (.tail _ ad)
def Jt:normal t=true ↔ right t=true/\lI (cr t):=by
 unfold normal;rw[cz];refine and_congr_right λaf=>?_;have aV:=nc.1 af;rw[adE];constructor
 ·intro h;have key:∀ m j,j<m->j<t.ns.length->lI (gr t.ns j):=by
   intro m
   induction m with
   |zero=>exact λj h=>absurd h (nT _)
   |succ m aL=>
    intro j abt ai;rw[xf af ai];refine .mk (λeD c an=>?_) λc an=>?_;·obtain⟨k,ae,rfl⟩:=cN.1 an;have ff:=aV.aw j ai k ae;rw[adD af ff.1 (by omega)];exact h _ (br ai) eD k ae
    ·obtain⟨k,ae,rfl⟩:=cN.1 an;have ff:=aV.aw j ai k ae;obtain⟨q,rfl⟩:=eH ff.1;exact aL q (by omega) (by omega)
  obtain⟨k4,iT⟩:=aV.bn;obtain⟨r,fJ⟩:=eH k4;unfold cr;rw[fJ];exact key _ r (A' _) (by omega)
 ·intro h;have key:∀ j,j<t.ns.length->lI (gr t.ns j):=λj ai=>aV.down (P:=λj=>lI (gr t.ns j)) (λr fJ=>by rw[<-fJ];exact h) (λp aC n9 j s9=>by rw[xf af aC]at n9;exact n9.inv.2 _ (Fx s9)) _ j ai (ca _);intro d ak eD k ae;obtain⟨j,ai,rfl⟩:=ka ak;have aa:=key j ai;rw[xf af ai]at aa;have ab:=aa.inv.1 eD _ (Fx ae);have ff:=aV.aw j ai k ae;rw[adD af ff.1 (by omega)]at ab;exact ab
inductive jo(P:ao->Prop):aQ->Prop
 |mk{d:ao}{ks:List aQ}:P d->(∀ c∈ks,jo P c)->jo P (.mk d ks)
def jo.inv{P:ao->Prop}{d:ao}{ks:List aQ}(h:jo P (.mk d ks)):P d/\∀ c∈ks,jo P c:=by
 cases h with
 |mk aa ab=>exact⟨aa,ab⟩
section
variable{P:ao->Prop}
def T2(af:right t=true):jo P (cr t) ↔ ∀ d∈t.ns,P d.bare:=by
 have aV:=nc.1 af;constructor
 ·intro h d ak;obtain⟨j,ai,rfl⟩:=ka ak;have aa:=aV.down (P:=λj=>jo P (gr t.ns j)) (λr fJ=>by rw[<-fJ];exact h) (λp aC n9 j s9=>by rw[xf af aC]at n9;exact n9.inv.2 _ (Fx s9)) _ j ai (ca _);rw[xf af ai]at aa;exact aa.inv.1
 ·intro h;have key:∀ m j,j<m->j<t.ns.length->jo P (gr t.ns j):=by
   intro m
   induction m with
   |zero=>exact λj h=>absurd h (nT _)
   |succ m aL=>intro j abt ai;rw[xf af ai];refine .mk (h _ (br ai)) λc an=>?_;obtain⟨k,ae,rfl⟩:=cN.1 an;have ff:=aV.aw j ai k ae;obtain⟨q,rfl⟩:=eH ff.1;exact aL q (by omega) (by omega)
  obtain⟨k4,iT⟩:=aV.bn;obtain⟨r,fJ⟩:=eH k4;unfold cr;rw[fJ];exact key _ r (A' _) (by omega)
def aqZ(ag:∀ d,P d->P d.bare)(az:P (nothing 0).bare)(aa:P (nothing 1).bare):∀ {T:aQ},jo P T->jo P (T.fold ir):=by
 intro T
 induction T using aQ.ind with
 |h d ks aL=>
  intro h;obtain⟨ak,ae⟩:=h.inv;rw[aQ.fold_eq,C8];have ad:∀ x∈ks.map (aQ.fold ir),jo P x:=λx ad=>by obtain⟨c,an,rfl⟩:=cN.1 ad;exact aL c an (ae c an)
  split
  ·rename_i eD;have ar:∀ y∈(ks.map (aQ.fold ir)).filter (iK d),jo P y:=λy aE=>ad y (ja.1 aE).1;generalize(ks.map (aQ.fold ir)).filter (iK d)=bi at ar
   match bi,ar with
   |[],_=>
    refine .mk ?_ λc an=>by cases an
    rcases eD with e | e;·rw[show d.k-4=0 by omega];exact az
    ·rw[show d.k-4=1 by omega];exact aa
   |[y],ar=>exact ar y (.head _)| w9::xb::l,ar=>exact .mk (ag _ ak) ar
  ·exact .mk (ag _ ak) ad
def aq0:∀ {T:aQ},jo P T->(∀ cw,∀ U∈T.fx cw,jo P U)/\jo P T.bo:=by
 intro T
 induction T using aQ.ind with
 |h d ks aL=>
  intro h;obtain⟨aA,ae⟩:=h.inv;have nn:jo P (aQ.mk d ks).bo:=by show jo P (.mk d (ks.flatMap (aQ.fx (hq d))));refine .mk aA λU eb=>?_;obtain⟨c,an,eb⟩:=hb.1 eb;exact(aL c an (ae c an)).1 _ U eb
  refine⟨λcw U eb=>?_,nn⟩;rw[aQ.p3]at eb;split at eb;·obtain⟨c,an,eb⟩:=hb.1 eb;exact(aL c an (ae c an)).1 _ U eb
  ·rw[ed.1 eb];exact nn
def aq1(ag:∀ d,P d->P d.bare)(az:P (nothing 0).bare)(aa:P (nothing 1).bare){T:aQ}(h:jo P T):jo P T.ki:=(aq0 (aqZ ag az aa h)).2
def adF{X:aQ}(jW:jo P X):∀ (p:List Int) {T:aQ},jo P T->jo P (T.put p X)
 |[],T,h=>jW
 |i::p,.mk d ks,h=>by
  obtain⟨ak,ae⟩:=h.inv;rw[aQ.put];show jo P (aQ.mk d (ks.set i.toNat ((ks.getD i.toNat (.mk d ks)).put p X)));refine .mk ak λc an=>?_;rcases yy an with an | rfl;·exact ae c an
  ·refine adF jW p ?_;rw[bA];cases e:ks[i.toNat]? with
   |none=>exact h| some c=>exact ae c (st e)
end
def Ny(nm:ByteArray):∀ (ds ds':List aP) (i:Nat),ds.map aP.name=ds'.map aP.name->cu nm ds i=cu nm ds' i
 |[],[],_,_=>rfl| [],_::_,_,h=>by simp at h
 |_::_,[],_,h=>by simp at h
 |d::ds,gM::ds',i,h=>by rw[b0,b0,xU]at h;rw[cu,cu,h.1,Ny nm ds ds' _ h.2]
def Ju(ds:List aP)(d:ao):Prop:=d.k=3->0<=cu d.t ds 0
def aq2{g:cv}(fT:g.ds.length=g.n)(hm:dz ax g=0)(hu:u<g.ds.length){y:bS}(aE:normal y=true)(aB:∀ d∈y.ns,Ju g.ds d){h:cv}(ta:h.n=g.n)(an:h.ds.map aP.a1=(eQ g.ds u y).map aP.a1) :
  dz ax h=0\/dz ax h=40:=by
 have aG:dz ax h=dz ax (nU (eQ g.ds u y)):=by rw[<-z1,<-z1 ax (nU _)];congr 1;unfold cv.a1 nU;rw[an,ta,yR,fT]
 rw[aG];obtain⟨aa,ab,aj,aI,bB⟩:=CY.1 hm;have ay:=yR g.ds u y;have hv:=adz g.ds u y;have eX:∀ d∈eQ g.ds u y,d∈g.ds\/d=⟨g.ds[u].name,y⟩:=λd ak=>by
  obtain⟨i,hi,rfl⟩:=ka ak;by_cases e:i=u;·subst e;have aj:=Db (y:=y) hu;rw[dg hi]at aj;exact .inr (fh aj)
  ·have aj:=Da (ds:=g.ds) (y:=y) e;rw[dg hi,dg (by omega)]at aj;rw[fh aj];exact .inl (br _)
 have bx:=fy.1 ab;have yS:nL (eQ g.ds u y)=true:=fy.2 λd ak=>by
  rcases eX d ak with h | rfl;·exact bx d h
  ·have:=bx _ (br hu);rw[cz]at this |-;exact⟨this.1,aE⟩
 have fI:(List.range (eQ g.ds u y).length).all (nh (eQ g.ds u y))=true:=fy.2 λi hi=>by
  rw[g7,ay]at hi;have b4:=aI i hi;unfold nh at b4 |-;have a7:((eQ g.ds u y)[i]'(by omega)).name=g.ds[i].name:=by
   have ef:((eQ g.ds u y).map aP.name)[i]?=(g.ds.map aP.name)[i]?:=by rw[hv]
   rw[jH,jH,dg (by omega),dg hi]at ef;exact fh ef
  rw[dg hi]at b4;rw[dg (by omega)];show decide (cu ((eQ g.ds u y)[i]'(by omega)).name _ 0=_)=true;rw[a7,Ny _ _ _ _ hv];exact b4
 have w8:((eQ g.ds u y).all λd=>d.t.ns.all (yA (eQ g.ds u y)))=true:=fy.2 λd ak=>fy.2 λn BC=>by
  unfold yA;rw[Ny _ _ _ _ hv];have:Ju g.ds n:=by
   rcases eX d ak with h | rfl;·exact bB d h n BC
   ·exact aB n BC
  by_cases e:n.k=3;·rw[e9 (this e),Ex]
  ·rw[et e];rfl
 rw[<-SR];unfold IN;have aq3:nL (nU (eQ g.ds u y)).ds=true:=yS;have aq4:(List.range (nU (eQ g.ds u y)).ds.length).all (nh (nU (eQ g.ds u y)).ds)=true:=fI;have aq5:((nU (eQ g.ds u y)).ds.all λd=>d.t.ns.all (yA (nU (eQ g.ds u y)).ds))=true:=w8;rw[aq3,aq4,aq5,et (by show ¬ (((eQ g.ds u y).length:Nat):Int)=0;omega)];cases oQ ax (nU (eQ g.ds u y))with
 |true=>exact .inr rfl| false=>exact .inl rfl
def aq6(n b:Nat):Value:=.slice (some ⟨b,0,none⟩) n n
def aq7(n:Nat)(bK:List Nat):List Value:=bK.map (aq6 n)++List.replicate (n-bK.length) (.slice none 0 0)
def kf(oI n:Nat)(bK:List Nat):aD:=⟨oI,.cells (aq7 n bK).toArray 138 (0,0)⟩
end Go.V
