/- Part 4 of what the proofs of this seat share: the executor, data in memory, walks.
-/
import Derived.Test.YtjaibbcbjfapaaaGreatDoorK3
import Derived.Test.YtjaibbcbjfapaaaGreatDoorK2
import Derived.Laws.IdiomStrings
set_option linter.all false
set_option maxHeartbeats 8000000
set_option maxRecDepth 100000
namespace Go.V
open Go
def iI:=@List.getElem_of_mem
def jJ:=@List.getElem?_map
def oN:=@List.flatMap_singleton
def mm:=@List.perm_middle
def qy:=@List.singleton_append
def rC:=@List.pairwise_append
def rD:=@List.length_set
def B4:=@List.getElem_append_right
def x':=@List.length_flatMap
def ya:=@List.reverse_append
def yb:=@List.flatMap_map
def Ea:=@List.pairwise_flatMap
def Eb:=@Nat.ble_eq_true_of_le
def B5:=@List.pairwise_map
def B6:=@BitVec.getLsbD_or
def KW:=@List.idxOf_lt_length_of_mem
def Ec:=@BitVec.toNat_ofNat
def Ed:=@List.filter_append
def Hl:=@List.drop_succ_cons
def Ee:=@Nat.mod_eq_of_lt
def PQ:=@List.drop_append_of_le_length
def KX:=@List.length_take_of_le
def Hm:=@Int.natCast_nonneg
def Ef:=@List.range_succ
def KY:=@List.getElem?_of_mem
def PR:=@List.pairwise_iff_getElem
def Hn:=@List.take_append
def KZ:=@List.getElem_idxOf
def PS:=@BitVec.eq_of_getLsbD_eq
def Ho:=@List.foldl_nil
def K0:=@decide_eq_decide
def PT:=@Nat.pow_lt_pow_right
def PU:=@BitVec.getLsbD_and
def XK:=@List.getLast?_eq_getElem?
def PV:=@List.getElem_take
def K1:=@List.all_map
def K2:=@Bool.or_true
def K3:=@decide_true
variable{pl:List (ByteArray×Int)}{bp B7:List aX}{ns:List al}{ay:List Int}{g:cE}{I:aH}{M M0:List aA}{t bi:bs}{α R:Type}{f src dst c':Nat}{vs args xs:List Value}{K:List aA->Prop}{y:BitVec 64}{cS aB K4:dH}{aR:Addr}{foot:List Nat}{P:Program}{s:Operand}{os:aT}
structure aX.le(a b:aX):Prop where
 z:a.z=true->b.z=true
 s:a.s=true->b.s=true
 f:a.f=true->b.f=true
def aX.le_refl(a:aX):a.le a:=⟨id,id,id⟩
def aX.le.trans{a b c:aX}(h:a.le b)(bd:b.le c):a.le c:=⟨λx=>bd.z (h.z x),λx=>bd.s (h.s x),λx=>bd.f (h.f x)⟩
theorem aX.le.antisymm{a b:aX}(h:a.le b)(bd:b.le a):a=b:=by
 obtain⟨cP,ek,ez⟩:=a;obtain⟨b1,bH,cJ⟩:=b;have e:∀ {x y:Bool},(x=true->y=true)->(y=true->x=true)->x=y:=fun {x y} h bd=>by cases x<;>cases y<;>simp_all
 have aK:cP=b1:=e h.z bd.z;have ba:ek=bH:=e h.s bd.s;have cA:ez=cJ:=e h.f bd.f;subst aK ba cA;rfl
def aX.qz(a:aX):cg.le a:=⟨(λh=>ci),(λh=>ci),(λh=>ci)⟩
def aX.PW{a b:aX}(h:a.le b):a.jI=true->b.jI=true:=by intro av;simp only[aX.jI,nj]at av |-;exact av.imp h.z h.s
inductive dP:List aX->List aX->Prop
 |nil:dP [] []| cons {a b l m} (h:aX.le a b) (t:dP l m):dP (a::l) (b::m)
def dP.refl:∀ l,dP l l
 |[]=>.nil| a::l=>.cons a.le_refl (dP.refl l)
def dP.trans:∀ {a b c},dP a b->dP b c->dP a c
 |_,_,_,.nil,.nil=>.nil| _,_,_,.cons h t,.cons bd bi=>.cons (h.trans bd) (t.trans bi)
def dP.antisymm:∀ {a b},dP a b->dP b a->a=b
 |_,_,.nil,_=>rfl| _,_,.cons h t,.cons bd bi=>by rw[h.antisymm bd,t.antisymm bi]
def dP.len:∀ {a b},dP a b->a.length=b.length
 |_,_,.nil=>rfl| _,_,.cons h t=>by simp[t.len]
def dP.append:∀ {a b c d},dP a b->dP c d->dP (a++c) (b++d)
 |_,_,_,_,.nil,h=>h| _,_,_,_,.cons h t,bd=>.cons h (t.append bd)
def dP.getD:∀ {a b},dP a b->∀ i,(a.getD i cg).le (b.getD i cg)
 |_,_,.nil,i=>by simp;exact aX.le_refl _
 |_,_,.cons h t,0=>h| _,_,.cons h t,i+1=>by simpa using t.getD i
def dP.of:∀ {a b:List aX},a.length=b.length->(∀ i,i<a.length->(a.getD i cg).le (b.getD i cg))->dP a b
 |[],[],_,_=>.nil| x::a,y::b,az,h=>.cons (by simpa using h 0 am) (dP.of pp λi hi=>by simpa using h (i+1) i6)
def dP.map{α:Type}{f g:α->aX}:∀ {l:List α},(∀ x∈l,(f x).le (g x))->dP (l.map f) (l.map g)
 |[],_=>.nil| x::l,h=>.cons (h x (.head _)) (dP.map λy aG=>h y (.tail _ aG))
def dP.head{a b:List aX}(h:dP a b):(a.headD cg).le (b.headD cg):=by
 cases h with
 |nil=>exact aX.le_refl _| cons h _=>exact h
def dP.qz:∀ l:List aX,dP (List.replicate l.length cg) l
 |[]=>.nil| a::l=>.cons a.qz (dP.qz l)
def XL:∀ {a b:List aX},dP a b->∀ {x y:aX×Bool},x.1.le y.1->(x.2=true->y.2=true)->(a.foldl kM x).1.le (b.foldl kM y).1/\((a.foldl kM x).2=true->(b.foldl kM y).2=true)
 |_,_,.nil,_,_,aa,ad=>⟨aa,ad⟩
 |_,_,.cons h t,x,y,aa,ad=>by
  refine XL t ⟨?_,?_,?_⟩ ?_;·simp only[kM,cC];exact λg=>⟨aa.z g.1,h.z g.2⟩
  ·simp only[kM,nj];exact λg=>g.imp aa.s h.s
  ·simp only[kM,nj,cC];exact λg=>g.imp aa.f λg=>⟨ad g.1,h.f g.2⟩
  ·simp only[kM,cC];exact λg=>⟨ad g.1,aX.PW h g.2⟩
def XM:∀ {a b:List aX},dP a b->∀ {x y:aX},x.le y->(a.foldl oL x).le (b.foldl oL y)
 |_,_,.nil,_,_,aa=>aa
 |_,_,.cons h t,x,y,aa=>by
  refine XM t ⟨?_,?_,?_⟩;·simp only[oL,nj,cC];exact λg=>g.imp aa.z λg=>⟨aa.f g.1,h.z g.2⟩
  ·simp only[oL,nj,cC];exact λg=>g.imp aa.s λg=>⟨aa.f g.1,h.s g.2⟩
  ·simp only[oL,cC];exact λg=>⟨aa.f g.1,h.f g.2⟩
def ajK(d:al){a b:aX}(h:a.le b):(x9 d a).le (x9 d b):=by
 unfold x9;cases decide (d.hi=0)with
 |true=>exact aX.le_refl _
 |false=>
  refine⟨?_,h.s,?_⟩;·simp only[cD,nj,cC];exact λg=>g.imp h.z λg=>⟨g.1,h.f g.2⟩
  ·simp only[cD,cC];exact λg=>⟨g.1,h.f g.2⟩
def XN(d:al){a b:List aX}(h:dP a b):(gz d a).le (gz d b):=by
 have dg:=h.head;unfold gz;cases decide (d.k=0)with
 |true=>exact aX.le_refl _| false=>
 cases decide (d.k=1)with
 |true=>exact aX.le_refl _| false=>
 cases decide (d.k=2)with
 |true=>exact aX.le_refl _| false=>
 cases decide (d.k=3)with
 |true=>exact dg| false=>
 cases decide (d.k=4)with
 |true=>have av:=XL h (x:=(⟨true,false,false⟩,true)) (y:=(⟨true,false,false⟩,true)) (aX.le_refl _) id;refine⟨av.1.z,?_,av.1.f⟩;simp only[cF,cD,hn,hv,cC];exact λg=>⟨av.1.s g.1,av.2 g.2⟩
 |false=>
 cases decide (d.k=5)with
 |true=>exact XM h (aX.le_refl _)| false=>
 cases decide (d.k=6)with
 |true=>exact ajK d dg| false=>
 cases decide (d.k=7)with
 |true=>exact⟨aX.PW dg,id,dg.f⟩| false=>
 cases decide (d.k=8)with
 |true=>exact⟨dg.f,id,aX.PW dg⟩| false=>exact dg
def ajL{a5 Eg:List aX}(h:dP bp B7)(a7:dP a5 Eg)(d:al):dP (sK pl bp a5 d) (sK pl B7 Eg d):=by
 unfold sK;refine(dP.map λk _=>a7.getD _).append ?_;cases decide (d.k=3)with
 |true=>exact .cons (h.getD _) .nil| false=>exact .nil
def XO{pl:List (ByteArray×Int)}{bp B7:List aX}(h:dP bp B7):∀ (ds:List al) {a5 Eg:List aX},dP a5 Eg->dP (ey pl bp ds a5) (ey pl B7 ds Eg)
 |[],_,_,a7=>a7| d::ds,_,_,a7=>XO h ds (a7.append (.cons (XN d (ajL h a7 d)) .nil))
def iJ(pl:List (ByteArray×Int))(bp:List aX)(d:a3):aX:=(ey pl bp d.t.ns []).getD d.t.bx.toNat cg
def Hp(h:dP bp B7)(d:a3):(iJ pl bp d).le (iJ pl B7 d):=(XO h d.t.ns .nil).getD _
def nJ(pl:List (ByteArray×Int)):Nat->List a3->List aX->List aX
 |_,[],l=>l| i,d::ds,l=>nJ pl (i+1) ds (l.set i (iJ pl l d))
structure oO(ds:List a3)(l:List aX):Prop where
 len:l.length=ds.length
 up:∀ i (h:i<ds.length),(l.getD i cg).le (iJ (bM ds) l ds[i])
 least:∀ m:List aX,m.length=ds.length->(∀ i (h:i<ds.length),(iJ (bM ds) m ds[i]).le (m.getD i cg))->dP l m
def Hq(l:List aX)(i j:Nat)(x:aX)(hi:i<l.length):(l.set i x).getD j cg=if i=j then x else l.getD j cg:=by
 simp only[bT,iB];by_cases e:i=j
 ·subst e;simp[hi]
 ·rw[bS e,bS e]
def oO.start(ds:List a3):oO ds (List.replicate ds.length cg):=by
 refine⟨am,λi h=>?_,λm hm _=>by rw[<-hm];exact dP.qz m⟩;have:(List.replicate ds.length cg).getD i cg=cg:=by simp[bT,h]
 rw[this];exact aX.qz _
def oO.step{ds:List a3}{l:List aX}(h:oO ds l){i:Nat}(hi:i<ds.length):oO ds (l.set i (iJ (bM ds) l ds[i]))/\dP l (l.set i (iJ (bM ds) l ds[i])):=by
 have dN:i<l.length:=by rw[h.len];exact hi
 have bn:dP l (l.set i (iJ (bM ds) l ds[i])):=dP.of am λj ah=>by
  rw[Hq _ _ _ _ dN];by_cases e:i=j;·subst e;rw[b2 rfl];exact h.up i hi
  ·rw[bS e];exact aX.le_refl _
 refine⟨⟨by simpa using h.len,λj ah=>?_,λm hm ao=>?_⟩,bn⟩
 ·rw[Hq _ _ _ _ dN];by_cases e:i=j
  ·subst e;rw[b2 rfl];exact Hp bn _
  ·rw[bS e];exact(h.up j ah).trans (Hp bn _)
 ·have XP:=h.least m hm ao;refine dP.of (by simp[h.len,hm]) λj ah=>?_;rw[Hq _ _ _ _ dN];by_cases e:i=j
  ·subst e;rw[b2 rfl];exact(Hp XP _).trans (ao i hi)
  ·rw[bS e];exact XP.getD j
def PX{ds:List a3}:∀ (bm a9:List a3) {l:List aX},ds=a9++bm->oO ds l->oO ds (nJ (bM ds) a9.length bm l)/\dP l (nJ (bM ds) a9.length bm l) /\ (nJ (bM ds) a9.length bm l=l->∀ i (h:i<ds.length),a9.length<=i->l.getD i cg=iJ (bM ds) l ds[i])
 |[],a9,l,fE,h=>⟨h,dP.refl l,λ_ i hi cV=>by rw[fE,dK]at hi;omega⟩
 |d::bm,a9,l,fE,h=>by
  have hi:a9.length<ds.length:=by rw[fE];simp
  have ai:ds[a9.length]=d:=by simp[fE]
  have dN:a9.length<l.length:=by rw[h.len];exact hi
  obtain⟨s1,s2⟩:=h.step hi;rw[ai]at s1 s2;obtain⟨hy,rB,tI⟩:=PX bm (a9++[d]) (by rw[fE];simp) s1;rw[cn,ep,hj,dn]at hy rB tI;refine⟨hy,s2.trans rB,λe i iy cV=>?_⟩;have aK:l.set a9.length (iJ (bM ds) l d)=l:=by refine dP.antisymm ?_ s2;have:nJ (bM ds) a9.length (d::bm) l=nJ (bM ds) (a9.length+1) bm (l.set a9.length (iJ (bM ds) l d)):=rfl;rw[this]at e;rw[e]at rB;exact rB
  have ba:nJ (bM ds) (a9.length+1) bm l=l:=by have:nJ (bM ds) a9.length (d::bm) l=nJ (bM ds) (a9.length+1) bm (l.set a9.length (iJ (bM ds) l d)):=rfl;rw[this,aK]at e;exact e
  rw[aK]at tI;by_cases aI:i=a9.length;·subst aI;have aJ:=Hq l a9.length a9.length (iJ (bM ds) l d) dN;rw[aK,b2 rfl]at aJ;rw[aJ,ai]
  ·exact tI ba i iy Z
structure ie(ds:List a3)(l:List aX):Prop where
 len:l.length=ds.length
 fix:∀ i (h:i<ds.length),l.getD i cg=iJ (bM ds) l ds[i]
 least:∀ m:List aX,m.length=ds.length->(∀ i (h:i<ds.length),(iJ (bM ds) m ds[i]).le (m.getD i cg))->dP l m
def oO.done{ds:List a3}{l:List aX}(h:oO ds l)(aE:nJ (bM ds) 0 ds l=l):ie ds l:=
 ⟨h.len,λi hi=>(PX ds [] rfl h).2.2 aE i hi (dQ _),h.least⟩
def ie.unique{ds:List a3}{l eF:List aX}(h:ie ds l)(bd:ie ds eF):l=eF:=
 dP.antisymm (h.least eF bd.len λi hi=>by rw[<-bd.fix i hi];exact aX.le_refl _) (bd.least l h.len λi hi=>by rw[<-h.fix i hi];exact aX.le_refl _)
def Eh(x:aX):Nat:=(bif x.z then 0 else 1)+((bif x.s then 0 else 1)+(bif x.f then 0 else 1))
def zP(l:List aX):Nat:=(l.map Eh).sum
theorem ajM{a b:aX}(h:a.le b):Eh b<=Eh a/\(Eh a<=Eh b->a=b):=by
 obtain⟨cP,ek,ez⟩:=a;obtain⟨b1,bH,cJ⟩:=b;obtain⟨aa,ad,aj⟩:=h;cases cP<;>cases b1<;>cases ek<;>cases bH<;>cases ez<;>cases cJ<;>simp_all[Eh]
def XQ:∀ {l m:List aX},dP l m->zP m<=zP l/\(zP l<=zP m->l=m)
 |_,_,.nil=>⟨cc _,λ_=>rfl⟩| _,_,.cons h t=>by obtain⟨aa,ad⟩:=ajM h;obtain⟨t1,t2⟩:=XQ t;simp only[zP,b0,hr]at t1 t2 |-;refine⟨Z,λh=>?_⟩;rw[ad Z,t2 Z]
def ajN{l m:List aX}(h:dP l m)(bz:m≠l):zP m<zP l:=by obtain⟨aa,ad⟩:=XQ h;apply Nat.lt_of_le_of_ne aa;intro e;exact bz (ad Z).symm
def yc(nm:ByteArray):List a3->Nat->Option Int
 |[],_=>none| d::ds,i=>bif decide (nm=d.name)then some (i:Int)else yc nm ds (i+1)
def XR(s n:ByteArray)(v:Int):∀ l:List (ByteArray×Int),eP s (l++[(n,v)])=match eP s l with
  |some x=>some x| none=>bif decide (s=n)then some v else none
 |[]=>rfl
 |p::l=>by
  have aQ:=XR s n v l;simp only[pz,eP];cases decide (s=p.1)with
  |true=>rfl| false=>simpa using aQ
def XS:∀ (ds:List a3) (a5:List (ByteArray×Int)) (i:Nat) (nm:ByteArray),eP nm (n7 a5 i ds)=match eP nm a5 with
  |some x=>some x| none=>yc nm ds i
 |[],a5,i,nm=>by rw[n7,yc];cases eP nm a5<;>rfl
 |d::ds,a5,i,nm=>by
  rw[n7,XS ds,yc];cases ai:(eP d.name a5).isSome with
  |true=>
   simp only[cF];cases az:eP nm a5 with
   |some x=>rfl
   |none=>
    have:decide (nm=d.name)=false:=by rw[ss];intro e;rw[<-e,az]at ai;cases ai
    rw[this];rfl
  |false=>
   simp only[cD,XR];cases az:eP nm a5 with
   |some x=>rfl| none=>cases decide (nm=d.name)<;>rfl
def PY(ds:List a3)(nm:ByteArray):eP nm (bM ds)=yc nm ds 0:=XS ds [] 0 nm
def PZ:∀ {ds:List a3} {i:Nat} {nm:ByteArray} {v:Int},yc nm ds i=some v->∃ j:Nat,v=((i+j:Nat):Int)/\j<ds.length
 |d::ds,i,nm,v,h=>by
  unfold yc at h;cases ai:decide (nm=d.name)with
  |true=>rw[ai]at h;simp only[cF,kr]at h;exact⟨0,by rw[<-h];rfl,am⟩| false=>rw[ai]at h;obtain⟨j,aa,ad⟩:=PZ h;exact⟨j+1,by rw[aa];congr 1;omega,wf⟩
def wH(pl:List (ByteArray×Int))(ns:List al):Bool:=ns.all λd=>!decide (d.k=3)||(eP d.t pl).isSome
def XT{ds:List a3}(h:wH (bM ds) ns=true):XE (bM ds) ds.length ns:=by intro d ai ae;have:=fN.1 h d ai;simp only[ae,K3,zi,yY]at this;obtain⟨v,ak⟩:=Option.isSome_iff_exists.1 this;have k2:=ak;rw[PY]at k2;obtain⟨j,aa,ad⟩:=PZ k2;rw[dn]at aa;exact⟨j,by rw[ak,aa],ad⟩
def XU:∀ (ds:List a3) {a5 r:List (ByteArray×Int)} {i:Nat},lR a5 i ds=some r->n7 a5 i ds=r
 |[],a5,r,i,h=>by simp only[lR,kr]at h;exact h
 |d::ds,a5,r,i,h=>by
  unfold lR at h;cases ai:(eP d.name a5).isSome with
  |true=>rw[ai]at h;cases h| false=>rw[ai]at h;rw[n7,ai];exact XU ds h
def ajO{d:a3}{cu:al}(aC:cu∈d.t.ns):∀ (ds:List a3) (i:Nat),d∈ds->∃ j,(j,cu)∈qx i ds:=by
 intro ds
 induction ds with
 |nil=>intro i ai;cases ai
 |cons x ds aQ=>
  intro i ai;rcases er.1 ai with e | ai;·subst e;exact⟨i,c1.2 (.inl (c3.2 ⟨cu,aC,rfl⟩))⟩
  ·obtain⟨j,ah⟩:=aQ (i+1) ai;exact⟨j,c1.2 (.inr ah)⟩
def ajP(h:dO ay g=0):∀ d∈g.ds,wH (bM g.ds) d.t.ns=true:=by
 unfold dO at h;cases aa:decide ((g.n:Int)=0)with
 |true=>rw[aa]at h;cases h| false=>
 cases ad:n6 g.ds with
 |false=>rw[aa,ad]at h;cases h| true=>
 cases aj:pJ ay g with
 |true=>rw[aa,ad,aj]at h;cases h| false=>
 rw[aa,ad,aj]at h;simp only[cD,zi]at h;split at h
 ·cases h
 ·rename_i a5 mI;have aI:bM g.ds=a5:=XU g.ds mI;cases aJ:rA a5 g.ds with
  |false=>rw[aJ]at h;cases h| true=>intro d ai;rw[aI,wH,fN];intro cu b';obtain⟨j,ah⟩:=ajO b' g.ds 0 ai;exact fN.1 aJ _ ah
def ajQ(h:dO ay g=0):n6 g.ds=true:=by
 unfold dO at h;cases aa:decide ((g.n:Int)=0)with
 |true=>rw[aa]at h;cases h| false=>
 cases ad:n6 g.ds with
 |false=>rw[aa,ad]at h;cases h| true=>rfl
open Go Go.Proofs
def lT.mono{I':aH}{a:Option Addr}{n:Nat}{ks:List aX}(h:lT I M a n ks)(bE:∀ b o,I b=some o->I' b=some o):lT I' M a n ks:=
 ⟨h.n,λj ah=>by
  obtain⟨aR,aa,ad⟩:=h.rd j ah;exact⟨aR,aa,ad.mono bE⟩⟩
def lT.sub{I:aH}{M M':List aA}{a:Option Addr}{n:Nat}{ks:List aX}(h:lT I M a n ks)(bc:∀ x∈M,x∈M'):lT I M' a n ks:=
 ⟨h.n,λj ah=>by
  obtain⟨aR,aa,ad⟩:=h.rd j ah;exact⟨aR,aa,ad.sub bc⟩⟩
def K5{b:Nat}{l:List aX}(bc:fM b l∈M):lT I M (some ⟨b,0,none⟩) l.length l:=
 ⟨rfl,λj ah=>⟨_,rfl,D7 bc ah⟩⟩
def zQ(g:cE)(bp:List aX)(t:bs):Option (List aX):=bif decide (bp.length=g.n)&&(right t&&wH (bM g.ds) t.ns)then some (ey (bM g.ds) bp t.ns [])else none
def ajR(a6:en I ay)(aw:g.ok I)(au:t.ok I){zN:Option Addr}{ln lc:Nat}(mY:lT I M0 zN ln bp) :
  Spec Tryz.prog 263 [g.val,.slice zN ln lc,t.val] I M0 λv I' M'=>(∀ b o,I b=some o->I' b=some o) /\
   ((zQ g bp t=none/\v=.tuple #[.slice none 0 0,.bool false]/\M'=M0)\/∃ r b,zQ g bp t=some r/\v=.tuple #[.slice (some ⟨b,0,none⟩) t.n t.n,.bool true]/\M'=fM b r::M0):=by
 refine bU [] a0 Tryz.func263 rfl rfl rfl ?_;intro B ax;have ic:=aw.n;have g7:=au.n;have hk:=au.bb.cap;have yd:=mY.n;refine b5.mk (λh=>?_) (λh=>?_)
 rotate_left
 ·refine⟨_,_,.refl,λ_ _ h=>h,.inl ⟨?_,rfl,rfl⟩⟩;have bz:¬ (ln:Int)=(g.n:Int):=by simpa using h
  have:decide (bp.length=g.n)=false:=e8 Z;simp[zQ,this]
 have rE:ln=g.n:=by
  have:(ln:Int)=(g.n:Int):=by simpa using h
  omega
 have iF:decide (bp.length=g.n)=true:=gy Z;refine a8.mk [] M0 _ (.refl _) (nx a6.c au) ?_;rintro v I1 M1 -⟨rfl,rfl,rfl⟩;refine aZ.mk (λh=>?_) (λh=>?_)
 ·refine⟨_,_,.refl,λ_ _ h=>h,.inl ⟨?_,rfl,rfl⟩⟩;have:right t=false:=by simpa using h
  simp[zQ,this]
 have af:right t=true:=by simpa using h
 refine a8.mk [] M0 _ (.refl _) (XB aw) ?_;rintro v ew dv -⟨gq,rfl,hx,rfl,zR⟩;have nH:=au.mono gq;refine du.inv (ι:=Nat) (λx=>{ bp:=[(1,.val (.slice zN ln lc)),(3,.ref 3 0),(5,.ref 5 0),(8,.val (.map (some hx))),(27,.val (.slice t.a t.n t.c)),(28,.val (.int .i64 t.n)),(29,.val (.int .i64 x))],cl:=[(3,[.slice g.a g.n g.c]),(5,t.cells)],cO:=ew,c5:=M0 }) (λx=>x<=t.n/\∀ d∈t.ns.take x,(!decide (d.k=3)||(eP d.t (bM g.ds)).isSome)=true) (λx=>t.n-x) ?_ ?_
 ·exact⟨0,⟨dQ _,λd ai=>by simp at ai⟩,.refl,q6,.cons rfl (.cons rfl .nil)⟩
 rintro i⟨hi,nn⟩;refine aZ.mk (λh=>?_) (λh=>?_)
 ·have a1:i<t.n:=by have:(i:Int)<(t.n:Int):=cT h;omega
  have cI:i<t.ns.length:=by omega
  obtain⟨aR,bI,bo⟩:=nH.bb.row al.cL a1 cI;have mP:t.ns.take (i+1)=t.ns.take i++[t.ns[i]]:=gk cI;have ka:=bK cI;have next:(!decide (t.ns[i].k=3)||(eP t.ns[i].t (bM g.ds)).isSome)=true->∀ d∈t.ns.take (i+1),(!decide (d.k=3)||(eP d.t (bM g.ds)).isSome)=true:=λh d ai=>by
   rw[mP]at ai;rcases c1.1 ai with ai | ai;·exact nn d ai
   ·simp only[eL]at ai;rw[ai];exact h
  refine bt.mk aR i bI rfl a1 ?_;refine aU.mk _ (bo _) ?_;refine aZ.mk (λaj=>?_) (λaj=>?_);·refine be.mk _ (c9 (i:=i) Z) ?_;refine⟨i+1,⟨⟨Z,next ?_⟩,Z⟩,.refl,q6,.cons rfl (.cons rfl .nil)⟩;rw[show(!decide (t.ns[i].k=3))=true from aj];rfl
  ·refine bC.XA a0 rfl am rfl rfl rfl rfl (λw=>G8 w) (l:=bM g.ds) (g:=hx) rfl rfl (.inl zR) ?_;refine aZ.mk (λaJ=>?_) (λaJ=>?_)
   ·refine⟨_,_,.refl,gq,.inl ⟨?_,rfl,rfl⟩⟩;have bD:wH (bM g.ds) t.ns=false:=by
     rw[wH,Kx];refine⟨_,ka,?_⟩;have cG:(eP t.ns[i].t (bM g.ds)).isSome=false:=by simpa using aJ
     rw[cG,show(!decide (t.ns[i].k=3))=false from aj];simp
    simp[zQ,bD]
   ·refine be.mk _ (c9 (i:=i) Z) ?_;refine⟨i+1,⟨⟨Z,next ?_⟩,Z⟩,.refl,q6,.cons rfl (.cons rfl .nil)⟩;have cG:(eP t.ns[i].t (bM g.ds)).isSome=true:=by simpa using aJ
    rw[cG];simp
 have cV:i=t.n:=by have:¬ (i:Int)<(t.n:Int):=dU h;omega
 rw[fD Z]at nn;have ed:wH (bM g.ds) t.ns=true:=fN.2 nn;have Ei:=XT ed;rw[ic,<-rE]at Ei;refine a8.mk M0 [] _ perm_nil (XH nH af zR (mY.mono gq) Ei) ?_;rintro v k8 oB -⟨rfl,b,rfl,rfl⟩;rw[dK];exact⟨_,_,.refl,gq,.inr ⟨_,b,by rw[zQ,iF,af,ed];rfl,rfl,rfl⟩⟩
structure wI(g:cE):Prop where
 n:g.ds.length=g.n
 right:∀ d∈g.ds,right d.t=true
 named:∀ d∈g.ds,wH (bM g.ds) d.t.ns=true
def K6(aC:g.ds.length=g.n)(h:dO ay g=0):wI g:=by refine⟨aC,λd ai=>?_,ajP h⟩;have:=fN.1 (ajQ h) d ai;simp only[normal,cC]at this;exact this.2.1
def ofM(b6 hx dR gG b1:Nat)(g:cE)(l:List aX):List aA:=[⟨b6,.cells #[.map (some hx)] 167 (0,0)⟩,⟨dR,.cells #[.slice (some ⟨gG,0,none⟩) g.n g.n] 271 (0,0)⟩,fM gG l,⟨b1,.cells #[.slice g.a g.n g.c] 28 (0,0)⟩]
def Hr(a b c d:α):[a,b,c,d].Perm ([c]++[a,b,d]):=mm (l₁:=[a,b]) (l₂:=[d])
def ajS(x a b c d:α):[x,a,b,c,d].Perm ([c]++[x,a,b,d]):=mm (l₁:=[x,a,b]) (l₂:=[d])
def K7{b:Nat}{f:aX}(bc:(⟨b,.cells f.cells.toArray 333 (0,0)⟩:aA)∈M):c6 I M (⟨b,0,none⟩:Addr) 3 f.cells:=⟨rfl,_,_,_,.inr ⟨_,bc,rfl,rfl⟩,rfl,rfl⟩
def XV{l:List aX}{i:Nat}(hi:i<l.length){x:aX}:Nat.ble (0+i*3+x.cells.length) (l.flatMap aX.cells).length=true:=by rw[mT,B2,aX.cL];omega
def b4.rF{a:Addr}(a9 post:List aA)(cs:Array Value)(T:Nat)(bc:M=a9++⟨a.block,.cells cs T (0,0)⟩::post)(av:a.spot=none)(ag:Nat.ble (a.off+vs.length) cs.size=true)(aa:fH vs=true)(cs':List Value)(he:cd cs.toList a.off vs=cs')(k:K (a9++⟨a.block,.cells cs'.toArray T (0,0)⟩::post)):b4 M a vs K:=
 ⟨a9,post,cs,T,bc,av,bJ ag,aa,by rw[he];exact k⟩
def ajT(aw:g.ok I)(hm:wI g){b6 hx dR gG b1:Nat}(zR:I hx=some (jt (bM g.ds))){fC:List aX}(v0:oO g.ds fC) :
  Spec Tryz.prog 321 [ptr b1,ptr b6,ptr dR] I (ofM b6 hx dR gG b1 g fC) λv I' M'=>v=.bool (decide (nJ (bM g.ds) 0 g.ds fC≠fC))/\I'=I/\M'=ofM b6 hx dR gG b1 g (nJ (bM g.ds) 0 g.ds fC):=by
 refine bU [] a0 Tryz.func321 rfl rfl rfl ?_;intro B ax;have ic:=aw.n;have hk:=aw.bb.cap;have K8:∀ {M:List aA},(⟨b1,.cells #[.slice g.a g.n g.c] 28 (0,0)⟩:aA)∈M->c6 I M ((⟨b1,0,none⟩:Addr).add 0) 1 [.slice g.a g.n g.c]:=λbc=>dm (cs:=[.slice g.a g.n g.c]) (k:=0) (n:=1) bc am;have ajU:∀ {M:List aA},(⟨b6,.cells #[.map (some hx)] 167 (0,0)⟩:aA)∈M->c6 I M (⟨b6,0,none⟩:Addr) 1 [.map (some hx)]:=λbc=>⟨rfl,_,_,_,.inr ⟨_,bc,rfl,rfl⟩,rfl,rfl⟩;have B8:∀ {M:List aA},(⟨dR,.cells #[.slice (some ⟨gG,0,none⟩) g.n g.n] 271 (0,0)⟩:aA)∈M->c6 I M (⟨dR,0,none⟩:Addr) 1 [.slice (some ⟨gG,0,none⟩) g.n g.n]:=λbc=>⟨rfl,_,_,_,.inr ⟨_,bc,rfl,rfl⟩,rfl,rfl⟩;refine aU.mk _ (K8 (by simp[ofM])) ?_;refine du.inv (ι:=Nat×List aX) (λx=>{ bp:=[(0,.val (ptr b1)),(1,.val (ptr b6)),(2,.val (ptr dR)),(4,.val (.bool (decide (x.2≠fC)))),(9,.val (.slice g.a g.n g.c)),(10,.val (.int .i64 g.n)),(11,.val (.int .i64 x.1))],cO:=I,c5:=ofM b6 hx dR gG b1 g x.2 }) (λx=>x.1<=g.n/\oO g.ds x.2/\dP fC x.2/\nJ (bM g.ds) 0 g.ds fC=nJ (bM g.ds) x.1 (g.ds.drop x.1) x.2) (λx=>g.n-x.1) ?_ ?_
 ·refine⟨(0,fC),⟨dQ _,v0,dP.refl _,rfl⟩,.refl,.cons .refl (.cons .refl (.cons .refl (.cons ?_ (fQ)))),.nil⟩;exact KV am
 rintro⟨i,l⟩⟨hi,qA,bn,eW⟩;simp only at hi qA bn eW;have sh:=qA.len;refine aZ.mk (λh=>?_) (λh=>?_)
 rotate_left
 ·have cV:i=g.n:=by have:¬ (i:Int)<(g.n:Int):=dU h;omega
  rw[mc Z,nJ]at eW;exact⟨_,_,.refl,by rw[eW],rfl,by rw[eW]⟩
 have a1:i<g.n:=by have:(i:Int)<(g.n:Int):=cT h;omega
 have cI:i<g.ds.length:=by omega
 have dN:i<l.length:=by omega
 obtain⟨aR,bI,bo⟩:=aw.bb.row a3.cL a1 cI;have g6:=bK cI;have ai:=aw.ds _ g6;have af:=hm.right _ g6;have Ei:=XT (hm.named _ g6);rw[show g.ds.length=l.length from sh.symm]at Ei;obtain⟨tN,gf⟩:=qA.step cI;have ye:nJ (bM g.ds) 0 g.ds fC=nJ (bM g.ds) (i+1) (g.ds.drop (i+1)) (l.set i (iJ (bM g.ds) l g.ds[i])):=by rw[eW,e2 cI,nJ]
 have Hs:iJ (bM g.ds) l g.ds[i]=(ey (bM g.ds) l g.ds[i].t.ns []).getD g.ds[i].t.bx.toNat cg:=rfl;generalize iJ (bM g.ds) l g.ds[i]=f at tN gf ye Hs;generalize g.ds[i]=d at bo ai af Ei Hs;have pB:=kE af;have g7:=ai.t.n;have pw:=Hi (bM g.ds) l d.t.ns [];simp only[hj,dn]at pw;have eD:d.t.bx.toNat<(ey (bM g.ds) l d.t.ns []).length:=by omega
 have xA:(ey (bM g.ds) l d.t.ns [])[d.t.bx.toNat]=f:=by rw[Hs];simp[bT,eD]
 have P0:=XH (M0:=[fM gG l]) (ln:=l.length) (lc:=g.n) ai.t af zR (K5 (I:=I) (eL.2 rfl)) Ei;rw[show l.length=g.n by omega]at P0;refine bt.mk aR i bI rfl a1 ?_;refine aU.mk _ (bo _) ?_;have ajV:l.getD i cg=l[i]:=by simp[bT,dN]
 have more:(!decide (f=l[i]))=true->decide (l.set i f≠fC)=true:=λh=>by
  have bz:f≠l[i]:=by simpa using h
  rw[h3];intro e;have ba:l.set i f=l:=by refine dP.antisymm ?_ gf;rw[e];exact bn
  have aj:=Hq l i i f dN;rw[ba,b2 rfl,ajV]at aj;exact bz aj.symm
 have same:(!decide (f=l[i]))=false->l.set i f=l:=λh=>by
  have he:f=l[i]:=by simpa using h
  rw[he];exact List.set_getElem_self dN
 refine cY.draw a0 rfl rfl rfl ?_;refine aU.mk _ (ajU (by simp[ofM])) ?_;refine aU.mk _ (B8 (by simp[ofM])) ?_;refine⟨?_,?_⟩
 ·refine ev.oy [fM gG l] [⟨b6,.cells #[.map (some hx)] 167 (0,0)⟩,⟨dR,.cells #[.slice (some ⟨gG,0,none⟩) g.n g.n] 271 (0,0)⟩,⟨b1,.cells #[.slice g.a g.n g.c] 28 (0,0)⟩] _ (Hr ..) P0 (λv I' M' h x ab=>ao') ?_;rintro v ew dv -⟨rfl,b,rfl,rfl⟩;refine bt.mk ⟨b,0,none⟩ d.t.bx.toNat rfl Z Z ?_;refine aU.mk _ (D7 (.head _) eD) ?_;rw[xA];refine bQ.mk λb7 Ht K9=>?_;refine b4.rF [] [fM b (ey (bM g.ds) l d.t.ns []),fM gG l,⟨b6,.cells #[.map (some hx)] 167 (0,0)⟩,⟨dR,.cells #[.slice (some ⟨gG,0,none⟩) g.n g.n] 271 (0,0)⟩,⟨b1,.cells #[.slice g.a g.n g.c] 28 (0,0)⟩] _ _ rfl rfl rfl rfl f.cells rfl ?_;refine cY.draw a0 rfl rfl rfl ?_;refine aU.mk f.cells (K7 am) ?_;refine aU.mk _ (B8 am) ?_;refine bt.mk ⟨gG,0,none⟩ i rfl rfl a1 ?_;refine aU.mk _ (D7 am dN) ?_;refine fL.Xu (p:=f) (q:=l[i]) ?_;refine aZ.mk (λh=>?_) (λh=>?_)
  ·refine aU.mk _ (B8 am) ?_;refine aU.mk f.cells (K7 am) ?_;refine bt.mk ⟨gG,0,none⟩ i rfl rfl a1 ?_;refine b4.iE [(⟨b7,.cells f.cells.toArray 333 (0,0)⟩:aA),fM b (ey (bM g.ds) l d.t.ns [])] [⟨b6,.cells #[.map (some hx)] 167 (0,0)⟩,⟨dR,.cells #[.slice (some ⟨gG,0,none⟩) g.n g.n] 271 (0,0)⟩,⟨b1,.cells #[.slice g.a g.n g.c] 28 (0,0)⟩] (l.flatMap aX.cells) _ rfl (XV dN) rfl ((l.set i f).flatMap aX.cells) (by rw[dn];exact PO l i dN f) ?_;refine be.mk _ (c9 (i:=i) Z) ?_;refine⟨(i+1,l.set i f),⟨⟨ce,tN,bn.trans gf,ye⟩,ce⟩,.sub (M1:=[fM gG (l.set i f),⟨b6,.cells #[.map (some hx)] 167 (0,0)⟩,⟨dR,.cells #[.slice (some ⟨gG,0,none⟩) g.n g.n] 271 (0,0)⟩,⟨b1,.cells #[.slice g.a g.n g.c] 28 (0,0)⟩]) (by exact .cons _ (.cons _ (.refl _))) (.perm (Hr ..).symm .refl),.cons .refl (.cons .refl (.cons .refl (.cons (KV (more h).symm) (fQ)))),.nil⟩
  ·have he:l.set i f=l:=same h;rw[he]at ye;refine be.mk _ (c9 (i:=i) Z) ?_;exact⟨(i+1,l),⟨⟨ce,qA,bn,ye⟩,ce⟩,.sub (M1:=[fM gG l,⟨b6,.cells #[.map (some hx)] 167 (0,0)⟩,⟨dR,.cells #[.slice (some ⟨gG,0,none⟩) g.n g.n] 271 (0,0)⟩,⟨b1,.cells #[.slice g.a g.n g.c] 28 (0,0)⟩]) (by exact .cons _ (.cons _ (.refl _))) (.perm (Hr ..).symm .refl),q6,.nil⟩
 ·refine bQ.mk λb7 Ht K9=>?_;refine ev.oy [fM gG l] [(⟨b7,.cells cg.cells.toArray 333 (0,0)⟩:aA),⟨b6,.cells #[.map (some hx)] 167 (0,0)⟩,⟨dR,.cells #[.slice (some ⟨gG,0,none⟩) g.n g.n] 271 (0,0)⟩,⟨b1,.cells #[.slice g.a g.n g.c] 28 (0,0)⟩] _ (ajS ..) P0 (λv I' M' h x ab=>ao') ?_;rintro v ew dv -⟨rfl,b,rfl,rfl⟩;refine bt.mk ⟨b,0,none⟩ d.t.bx.toNat rfl Z Z ?_;refine aU.mk _ (D7 (.head _) eD) ?_;rw[xA];refine b4.rF [fM b (ey (bM g.ds) l d.t.ns []),fM gG l] [⟨b6,.cells #[.map (some hx)] 167 (0,0)⟩,⟨dR,.cells #[.slice (some ⟨gG,0,none⟩) g.n g.n] 271 (0,0)⟩,⟨b1,.cells #[.slice g.a g.n g.c] 28 (0,0)⟩] _ _ rfl rfl rfl rfl f.cells rfl ?_;refine cY.draw a0 rfl rfl rfl ?_;refine aU.mk f.cells (K7 am) ?_;refine aU.mk _ (B8 am) ?_;refine bt.mk ⟨gG,0,none⟩ i rfl rfl a1 ?_;refine aU.mk _ (D7 am dN) ?_;refine fL.Xu (p:=f) (q:=l[i]) ?_;refine aZ.mk (λh=>?_) (λh=>?_)
  ·refine aU.mk _ (B8 am) ?_;refine aU.mk f.cells (K7 am) ?_;refine bt.mk ⟨gG,0,none⟩ i rfl rfl a1 ?_;refine b4.iE [fM b (ey (bM g.ds) l d.t.ns [])] [(⟨b7,.cells f.cells.toArray 333 (0,0)⟩:aA),⟨b6,.cells #[.map (some hx)] 167 (0,0)⟩,⟨dR,.cells #[.slice (some ⟨gG,0,none⟩) g.n g.n] 271 (0,0)⟩,⟨b1,.cells #[.slice g.a g.n g.c] 28 (0,0)⟩] (l.flatMap aX.cells) _ rfl (XV dN) rfl ((l.set i f).flatMap aX.cells) (by rw[dn];exact PO l i dN f) ?_;refine be.mk _ (c9 (i:=i) Z) ?_;refine⟨(i+1,l.set i f),⟨⟨ce,tN,bn.trans gf,ye⟩,ce⟩,.sub (M1:=[fM gG (l.set i f),⟨b6,.cells #[.map (some hx)] 167 (0,0)⟩,⟨dR,.cells #[.slice (some ⟨gG,0,none⟩) g.n g.n] 271 (0,0)⟩,⟨b1,.cells #[.slice g.a g.n g.c] 28 (0,0)⟩]) ST (.perm (Hr ..).symm .refl),.cons .refl (.cons .refl (.cons .refl (.cons (KV (more h).symm) (fQ)))),.nil⟩
  ·have he:l.set i f=l:=same h;rw[he]at ye;refine be.mk _ (c9 (i:=i) Z) ?_;exact⟨(i+1,l),⟨⟨ce,qA,bn,ye⟩,ce⟩,.sub (M1:=[fM gG l,⟨b6,.cells #[.map (some hx)] 167 (0,0)⟩,⟨dR,.cells #[.slice (some ⟨gG,0,none⟩) g.n g.n] 271 (0,0)⟩,⟨b1,.cells #[.slice g.a g.n g.c] 28 (0,0)⟩]) ST (.perm (Hr ..).symm .refl),q6,.nil⟩
def ajW(a6:en I ay)(aw:g.ok I):Spec Tryz.prog 262 [g.val] I [] λv I' M'=>(∀ b o,I b=some o->I' b=some o) /\
  ((dO ay g≠0/\v=.tuple #[.slice none 0 0,.int .i64 (dO ay g)]/\M'=[])\/(dO ay g=0/\∃ b l,v=.tuple #[.slice (some ⟨b,0,none⟩) g.n g.n,.int .i64 0]/\M'=[fM b l]/\ie g.ds l)):=by
 refine bU [1,5,6] a0 Tryz.func262 rfl rfl rfl ?_;intro B ax;have ic:=aw.n;have hk:=aw.bb.cap;refine bQ.mk λb1 ia P1=>?_;refine aU.mk [.slice g.a g.n g.c] ⟨rfl,_,_,_,.inr ⟨_,.head _,rfl,rfl⟩,rfl,rfl⟩ ?_;refine a8.mk [] [⟨b1,.cells #[.slice g.a g.n g.c] 28 (0,0)⟩] _ (.refl _) (W3 a6 aw) ?_;rintro v I1 M1 -⟨rfl,c8,rfl⟩;refine aZ.mk (λh=>?_) (λh=>?_)
 ·have hm:dO ay g≠0:=by simpa using h
  exact⟨_,_,.sub (fs _) .refl,c8,.inl ⟨hm,rfl,rfl⟩⟩
 have hm:dO ay g=0:=by simpa using h
 have bc:=K6 ic hm;refine aU.mk _ (dm (b:=b1) (cs:=[.slice g.a g.n g.c]) (k:=0) (n:=1) (T:=28) (.head _) am) ?_;refine pi.mk g.n g.n rfl rfl (cc _) (by show 3*g.n<=_;omega) Z ?_;refine bQ.mk λgG kA aw4=>?_;have e:rowOf cg.cells (g.n*3)=(List.replicate g.ds.length cg).flatMap aX.cells:=by rw[ic];exact XG g.n
 refine bQ.mk λdR BW KK=>?_;refine b4.rF [] _ _ _ rfl rfl rfl rfl [.slice (some ⟨gG,0,none⟩) g.n g.n] rfl ?_;refine aU.mk [.slice g.a g.n g.c] ⟨rfl,_,_,_,.inr ⟨_,.tail _ (.tail _ (.head _)),rfl,rfl⟩,rfl,rfl⟩ ?_;refine a8.mk [] _ _ (.refl _) (XB (aw.mono c8)) ?_;rintro v ew dv -⟨gq,rfl,hx,rfl,zR⟩;refine bQ.mk λb6 KH WT=>?_;refine b4.rF [] _ _ _ rfl rfl rfl rfl [.map (some hx)] rfl ?_;refine du.inv (ι:=List aX) (λl=>{ bp:=[(5,.val (ptr dR)),(7,.val (.func (.func 321) #[] #[ptr b1,ptr b6,ptr dR]))],cO:=ew,c5:=ofM b6 hx dR gG b1 g l }) (oO g.ds) zP ?_ ?_
 ·refine⟨List.replicate g.ds.length cg,.start g.ds,?_,xG,.nil⟩;simp only[ofM,fM];rw[<-e];exact .refl
 intro l az;refine a8.mk (ofM b6 hx dR gG b1 g l) [] _ (.refl _) (ajT ((aw.mono c8).mono gq) bc zR az) ?_;rintro v k8 oB -⟨rfl,rfl,rfl⟩;obtain⟨hy,rB,-⟩:=PX g.ds [] rfl az;refine aZ.mk (λh=>?_) (λh=>?_)
 ·exact⟨_,⟨hy,ajN rB (cT h)⟩,.refl,xG,.nil⟩
 ·have aE:nJ (bM g.ds) 0 g.ds l=l:=by have:=dU h;exact Classical.not_not.1 this
  rw[aE];refine aU.mk [.slice (some ⟨gG,0,none⟩) g.n g.n] ⟨rfl,_,_,_,.inr ⟨_,.tail _ (.head _),rfl,rfl⟩,rfl,rfl⟩ ?_;refine⟨k8,[fM gG l],.sub (.cons _ (.cons _ (.cons_cons _ (fs _)))) .refl,λb o h=>gq _ _ (c8 _ _ h),.inr ⟨hm,gG,l,rfl,rfl,az.done aE⟩⟩
def bs.aW(t:bs):bs:=⟨t.ns.map al.aW,none,t.n,0,t.bx⟩
def a3.aW(d:a3):a3:=⟨d.name,d.t.aW⟩
def cE.aW(g:cE):cE:=⟨g.ds.map a3.aW,none,g.n,0⟩
def XW:∀ (ds:List al) (i:Nat) (s:List Bool),jr i (ds.map al.aW) s=jr i ds s
 |[],i,s=>rfl| d::ds,i,s=>by have h:∀ cq,jr (i+1) (ds.map al.aW) cq=jr (i+1) ds cq:=λcq=>XW ds (i+1) cq;rw[b0,jr,jr];simp only[h];rfl
def tO(t:bs):right t.aW=right t:=by unfold right bs.aW;simp only[XW,bB]
def XX(ns:List al)(k:Int):iq (ns.map al.aW) k=iq ns k:=by unfold iq;rw[gj];rfl
def XY(ns:List al)(kind:Int):∀ ks,kh (ns.map al.aW) kind ks=kh ns kind ks
 |[]=>rfl| k::ks=>by rw[kh,kh,XX,XY ns kind ks]
def XZ(ns:List al):∀ ds:List al,kJ (ns.map al.aW) (ds.map al.aW)=kJ ns ds
 |[]=>rfl| d::ds=>by have h:=XY ns d.k d.ap;rw[b0,kJ,kJ,XZ ns ds];show(bif !decide (d.k=4) && !decide (d.k=5)then kJ ns ds else bif kh (ns.map al.aW) d.k d.ap then kJ ns ds else false)=_;rw[h]
def ajX(t:bs):normal t.aW=normal t:=by unfold normal;rw[tO];congr 1;exact XZ t.ns t.ns
def X0:∀ (ds:List al) (i:Nat) (gW:List Int),wv i (ds.map al.aW) gW=wv i ds gW
 |[],i,gW=>rfl| d::ds,i,gW=>by rw[b0,wv,wv,X0 ds];rfl
def ajY(t:bs):depth t.aW=depth t:=by unfold depth;rw[tO];simp only[bs.aW,X0,bB]
def ajZ(t:bs):pA t.aW=pA t:=by unfold pA;rw[tO,ajY];rfl
def Hu{α:Type}{z:α}{f g:al->(Int->α)->α}(h:∀ d q,f d.aW q=g d q):∀ (ds:List al) (a5:List α),gF z f (ds.map al.aW) a5=gF z g ds a5
 |[],a5=>rfl| d::ds,a5=>by rw[b0,gF,gF,h,Hu h ds]
def aj0(ay:List Int)(ns:List al)(k:Int):kI ay (ns.map al.aW) k=kI ay ns k:=by unfold kI mf;rw[Hu (g:=DW ay ns) (λd q=>?_)];show rs ay d++(uX (DV d) (λk=>paren (ht d.k (iq (ns.map al.aW) k)) (q k)) false d.ap++pH d)=_;simp only[XX];rfl
def aj1(ay:List Int)(t:bs):nE ay t.aW=nE ay t:=by unfold nE;rw[tO];have:kI ay t.aW.ns t.aW.bx=kI ay t.ns t.bx:=aj0 ay t.ns t.bx;rw[this]
def aj2(ay:List Int)(d:a3):qv ay d.aW=qv ay d:=by unfold qv;have:nE ay d.aW.t=nE ay d.t:=aj1 ay d.t;rw[this];rfl
def X1(ay:List Int):∀ (ds:List a3) (a5:List UInt8),qw ay (ds.map a3.aW) a5=qw ay ds a5
 |[],a5=>rfl| d::ds,a5=>by rw[b0,qw,qw,aj2,X1 ay ds]
def aj3(g:cE):u3 g.aW=u3 g:=by unfold u3 cE.aW;rw[gj];congr 1;refine fR λd _=>?_;show sG d.t.aW=sG d.t;unfold sG;rw[tO];rfl
def X2{q:a3->Bool}(h:∀ d,q d.aW=q d)(ds:List a3):(ds.map a3.aW).all q=ds.all q:=by rw[K1];congr 1;funext d;exact h d
def aj4(ay:List Int)(g:cE):pJ ay g.aW=pJ ay g:=by unfold pJ;rw[aj3];have aa:(g.aW.ds.all λd=>pA d.t)=g.ds.all λd=>pA d.t:=X2 (λd=>ajZ d.t) g.ds;have ad:qw ay g.aW.ds []=qw ay g.ds []:=X1 ay g.ds [];rw[aa,ad];rfl
def aj5(ds:List a3):n6 (ds.map a3.aW)=n6 ds:=X2 (q:=λd=>nv d.name&&normal d.t) (λd=>by
 show(nv d.name&&normal d.t.aW)=_;rw[ajX]) ds
def X3:∀ (ds:List a3) (a5:List (ByteArray×Int)) (i:Nat),lR a5 i (ds.map a3.aW)=lR a5 i ds
 |[],a5,i=>rfl| d::ds,a5,i=>by rw[b0,lR,lR];show(bif (eP d.name a5).isSome then none else lR (a5++[(d.name,(i:Int))]) (i+1) (ds.map a3.aW))=_;rw[X3 ds]
def X4:∀ (ds:List a3) (i:Nat),qx i (ds.map a3.aW)=(qx i ds).map λp=>(p.1,p.2.aW)
 |[],i=>rfl| d::ds,i=>by rw[b0,qx,qx,X4 ds,cR,gj];show(d.t.ns.map al.aW).map (λn=>(i,n))++_=_;rw[gj];rfl
def aj6(a5:List (ByteArray×Int))(ds:List a3):rA a5 (ds.map a3.aW)=rA a5 ds:=by unfold rA;rw[X4,K1];rfl
def B9(ay:List Int)(g:cE):dO ay g.aW=dO ay g:=by unfold dO;rw[aj4];have aa:n6 g.aW.ds=n6 g.ds:=aj5 g.ds;have ad:lR [] 0 g.aW.ds=lR [] 0 g.ds:=X3 g.ds [] 0;have aj:∀ a5,rA a5 g.aW.ds=rA a5 g.ds:=λa5=>aj6 a5 g.ds;rw[aa,ad];simp only[aj];rfl
def X5(ns:List al)(j:Nat):(nodeAt (ns.map al.aW) j).aW=(nodeAt ns j).aW:=by
 unfold nodeAt;simp only[bT,jJ];cases ns[j]?<;>rfl
def X6(ns:List al)(j:Nat):(nodeAt (ns.map al.aW) j).ap=(nodeAt ns j).ap:=by have h:=congrArg al.ap (X5 ns j);exact h
def X7(ns:List al):∀ (f:Nat) (todo b:List Int),tF (ns.map al.aW) f todo b=tF ns f todo b
 |0,todo,b=>rfl
 |f+1,todo,b=>by
  unfold tF;cases todo.getLast? with
  |none=>rfl| some n=>simp only;rw[X6,X7 ns f]
def X8(d:al)(l:List Int):d.aW.dX l=d.dX l:=rfl
def aj7(ns:List al):B1 (ns.map al.aW)=B1 ns:=by funext a2 b;unfold B1;rw[X6,<-X8 (nodeAt (ns.map al.aW) b.toNat),X5,X8]
def X9(ns:List al)(node:Int):nI (ns.map al.aW) node=nI ns node:=by unfold nI zM;rw[aj7,X7,bB]
def X'(pl:List (ByteArray×Int))(bp:List aX):∀ (ds:List al) (a5:List aX),ey pl bp (ds.map al.aW) a5=ey pl bp ds a5
 |[],a5=>rfl| d::ds,a5=>by rw[b0,ey,ey,X' pl bp ds];rfl
def Ya:∀ (ds:List a3) (a5:List (ByteArray×Int)) (i:Nat),n7 a5 i (ds.map a3.aW)=n7 a5 i ds
 |[],a5,i=>rfl| d::ds,a5,i=>by rw[b0,n7,n7,Ya ds];rfl
def Ej(ds:List a3):bM (ds.map a3.aW)=bM ds:=Ya ds [] 0
def K'(pl:List (ByteArray×Int))(bp:List aX)(d:a3):iJ pl bp d.aW=iJ pl bp d:=by unfold iJ;have:ey pl bp d.aW.t.ns []=ey pl bp d.t.ns []:=X' pl bp d.t.ns [];rw[this];rfl
def aj8{ds:List a3}{l:List aX}(h:ie ds l):ie (ds.map a3.aW) l:=by
 refine⟨by rw[h.len,bB],λi hi=>?_,λm hm ao=>?_⟩
 ·have cz:i<ds.length:=by simpa using hi
  rw[Ej,gh,K'];exact h.fix i cz
 ·refine h.least m (by rw[hm,bB]) λi hi=>?_;have:=ao i i6;rwa [Ej,gh,K']at this
def iK(l:List al):bs:=⟨l,none,l.length,0,(l.length:Int)-1⟩
structure Yb(I:aH)(t:bs)(l:List al):Prop where
 ok:t.ok I
 aW:t.ns.map al.aW=l
 bx:t.bx=(l.length:Int)-1
def Yb.len{l:List al}(h:Yb I t l):t.n=l.length:=by rw[<-h.ok.n,<-h.aW,bB]
def eI(ns:List al):List Int:=ns.flatMap (·.ap)
def hz(l:List Int):Prop:=l.Pairwise (·≠·)
def Ek(s:List Bool)(l:List Int):Prop:=∀ j,s.getD j false=true ↔ ((j:Int)∈l/\j<s.length)
def Yc{i:Nat}:∀ {ks seen:List Int} {s:List Bool},i<=s.length->Ek s seen->hz seen -> ((∃ cq,kD i ks s=some cq) ↔ ((∀ k∈ks,0<=k/\k<i)/\hz (seen++ks)))/\∀ cq,kD i ks s=some cq->cq.length=s.length/\Ek cq (seen++ks)
 |[],seen,s,hi,hm,ai=>by refine⟨⟨λ_=>⟨λk ae=>by(cases ae),by simpa using ai⟩,λ_=>⟨s,rfl⟩⟩,λcq h=>?_⟩;simp only[kD,kr]at h;subst h;exact⟨rfl,by simpa using hm⟩
 |k::ks,seen,s,hi,hm,ai=>by
  unfold kD;cases ag:decide (k<0)||(decide ((i:Int)<=k)||s.getD k.toNat false)with
  |true=>
   refine⟨⟨λ⟨cq,h⟩=>ci,λ⟨aa,ad⟩=>?_⟩,λcq h=>ci⟩;exfalso;have aj:=aa k (.head _);simp only[nj,h3]at ag;rcases ag with ag | ag | ag;·omega
   ·omega
   ·have:=(hm _).1 ag;rw[zf aj.1]at this;exact(rC.1 ad).2.2 k this.1 k (.head _) rfl
  |false=>
   simp only[tk,ss]at ag;obtain⟨b1,bH,cJ⟩:=ag;have ae:k.toNat<s.length:=by omega
   have eH:k ∉ seen:=λh=>by have:=(hm k.toNat).2 ⟨by rw[zf Z];exact h,ae⟩;rw[cJ]at this;cases this
   have u9:Ek (s.set k.toNat true) (seen++[k]):=λj=>by
    have:=hm j;simp only[bT,iB,rD,c1,eL]at this |-;by_cases e:k.toNat=j;·subst e;rw[b2 rfl,b2 ae];simp only[lF,true_iff];exact⟨.inr Z,ae⟩
    ·rw[bS e,this];constructor
     ·rintro⟨aa,ad⟩;exact⟨.inl aa,ad⟩
     ·rintro⟨aa | aa,ad⟩
      ·exact⟨aa,ad⟩
      ·omega
   have fO:hz (seen++[k]):=rC.2 ⟨ai,am,λa a7 b ag e=>by
    simp only[eL]at ag;subst ag;subst e;exact eH a7⟩
   have aQ:=Yc (i:=i) (ks:=ks) (seen:=seen++[k]) (s:=s.set k.toNat true) i6 u9 fO;simp only[cD];rw[dW,qy]at aQ;refine⟨aQ.1.trans ⟨λ⟨aa,ad⟩=>⟨λx ab=>?_,ad⟩,λ⟨aa,ad⟩=>⟨λx ab=>aa x (.tail _ ab),ad⟩⟩,λcq h=>?_⟩
   ·rcases er.1 ab with rfl | ab
    ·omega
    ·exact aa x ab
   ·have:=aQ.2 cq h;simpa using this
def Yd:∀ {ds:List al} {i:Nat} {seen:List Int} {s:List Bool},i+ds.length<=s.length->Ek s seen->hz seen -> ((∃ cq,jr i ds s=some cq) ↔ ((∀ j (h:j<ds.length),fits ds[j] ds[j].ap.length=true/\∀ k∈ds[j].ap,0<=k/\k<i+j)/\hz (seen++eI ds)))/\∀ cq,jr i ds s=some cq->cq.length=s.length/\Ek cq (seen++eI ds)
 |[],i,seen,s,hi,hm,ai=>by refine⟨⟨λ_=>⟨λj ah=>by simp at ah,by simpa[eI]using ai⟩,λ_=>⟨s,rfl⟩⟩,λcq h=>?_⟩;simp only[jr,kr]at h;subst h;exact⟨rfl,by simpa[eI]using hm⟩
 |d::ds,i,seen,s,hi,hm,ai=>by
  unfold jr;have ae:=Yc (i:=i) (ks:=d.ap) (by simp at hi;omega) hm ai;have eG:eI (d::ds)=d.ap++eI ds:=rfl;cases aE:fits d d.ap.length with
  |false=>refine⟨⟨λ⟨cq,h⟩=>ci,λ⟨aa,ad⟩=>?_⟩,λcq h=>ci⟩;have:=(aa 0 am).1;simp only[ti]at this;rw[aE]at this;cases this
  |true=>
   simp only[cF];cases aO:kD i d.ap s with
   |none=>
    refine⟨⟨λ⟨cq,h⟩=>ci,λ⟨aa,ad⟩=>?_⟩,λcq h=>ci⟩;exfalso;have:∃ cq,kD i d.ap s=some cq:=ae.1.2 ⟨λk ae=>by
     have:=(aa 0 am).2 k ae;omega,by
     rw[eG,<-dW]at ad;exact(rC.1 ad).1⟩
    obtain⟨cq,h⟩:=this;rw[aO]at h;cases h
   |some s1=>
    obtain⟨aj9,cW⟩:=ae.2 s1 aO;obtain⟨hy,d1⟩:=ae.1.1 ⟨s1,aO⟩;have aQ:=Yd (ds:=ds) (i:=i+1) (seen:=seen++d.ap) (s:=s1) (by simp at hi;omega) cW d1;rw[dW,<-eG]at aQ;simp only;refine⟨aQ.1.trans ⟨λ⟨aa,ad⟩=>⟨λj ah=>?_,ad⟩,λ⟨aa,ad⟩=>⟨λj ah=>?_,ad⟩⟩,λcq h=>?_⟩
    ·cases j with
     |zero=>exact⟨aE,λk ae=>by have:=hy k ae;omega⟩| succ j=>have:=aa j lm;refine⟨this.1,λk ae=>?_⟩;have:=this.2 k ae;omega
    ·have:=aa (j+1) lm;refine⟨this.1,λk ae=>?_⟩;have:=this.2 k ae;omega
    ·have:=aQ.2 cq h;exact⟨this.1.trans aj9,this.2⟩
def aka(n:Nat):Ek (List.replicate n false) []:=λj=>by
 by_cases h:j<n<;>simp[bT,List.getElem?_replicate,h]
structure g8(t:bs):Prop where
 bx:0<=t.bx/\t.bx<t.ns.length
 fits:∀ j (h:j<t.ns.length),fits t.ns[j] t.ns[j].ap.length=true
 ap:∀ j (h:j<t.ns.length),∀ k∈t.ns[j].ap,0<=k/\k<j
 diff:hz (eI t.ns)
 all:∀ j:Nat,j<t.ns.length->((j:Int)∈eI t.ns ↔ (j:Int)≠t.bx)
def jd:right t=true ↔ g8 t:=by
 have h:=Yd (ds:=t.ns) (i:=0) (seen:=[]) (s:=List.replicate t.ns.length false) am (aka _) (by simp[hz]);simp only[hI,dn,zd]at h;unfold right;constructor
 ·intro af;simp only[cC,h3]at af;obtain⟨hy,rB,tI⟩:=af;split at tI
  ·rename_i s av;obtain⟨eg,eV⟩:=h.1.1 ⟨s,av⟩;obtain⟨cW,m2⟩:=h.2 s av;refine⟨⟨hy,rB⟩,λj ah=>(eg j ah).1,λj ah k ae=>(by have:=(eg j ah).2 k ae;omega),eV,λj ah=>?_⟩;have ag:(s.getD j false == decide (((0+j:Nat):Int)=t.bx))=false:=by
    cases ag:(s.getD j false == decide (((0+j:Nat):Int)=t.bx))with
    |false=>rfl| true=>have:=PF Z ag;rw[this]at tI;cases tI
   rw[dn]at ag;have hm:=m2 j;constructor;·intro ab e;have:=hm.2 ⟨ab,Z⟩;rw[this,gy e]at ag;cases ag
   ·intro bz;rw[e8 bz]at ag;have:s.getD j false=true:=by
     revert ag;cases s.getD j false<;>simp
    exact(hm.1 this).1
  ·cases tI
 ·intro af;obtain⟨s,av⟩:=h.1.2 ⟨λj ah=>⟨af.fits j ah,λk ae=>by have:=af.ap j ah k ae;omega⟩,af.diff⟩;obtain⟨cW,m2⟩:=h.2 s av;rw[av];simp only[cC,h3];refine⟨af.bx.1,af.bx.2,Xk λj ah=>?_⟩;rw[dn];have a7:=af.all j Z;have hm:=m2 j;by_cases e:(j:Int)=t.bx
  ·have aE:s.getD j false=false:=by
    cases ag:s.getD j false with
    |false=>rfl| true=>exact absurd e (a7.1 (hm.1 ag).1)
   rw[aE,gy e];rfl
  ·have:=hm.2 ⟨a7.2 e,Z⟩;rw[this,e8 e];rfl
def g8.node(af:g8 t){j:Nat}(ah:j<t.ns.length){k:Int}(ae:k∈(nodeAt t.ns j).ap):0<=k/\k<j:=by rw[gr ah]at ae;exact af.ap j ah k ae
def g8.two(af:g8 t){i j:Nat}(hi:i<t.ns.length)(ah:j<t.ns.length)(bz:i≠j){k:Int}(aa:k∈(nodeAt t.ns i).ap)(ad:k∈(nodeAt t.ns j).ap):False:=by
 rw[gr hi]at aa;rw[gr ah]at ad;have:=(Ea.1 af.diff).2;rw[PR]at this;rcases Nat.lt_or_gt_of_ne bz with h | h
 ·exact this i j hi ah h k aa k ad rfl
 ·exact this j i ah hi h k ad k aa rfl
def g8.Ye(af:g8 t){j:Nat}(ah:j<t.ns.length):hz (nodeAt t.ns j).ap:=by rw[gr ah];exact(Ea.1 af.diff).1 _ (bK ah)
def El(ns:List al):Nat->Int->List Int
 |0,_=>[]| f+1,n=>(nodeAt ns n.toNat).ap.flatMap (El ns f)++[n]
def ef(ns:List al)(n:Int):List Int:=El ns (n.toNat+1) n
def rG{α β:Type}{f g:α->List β}:∀ {l:List α},(∀ x∈l,f x=g x)->l.flatMap f=l.flatMap g
 |[],_=>rfl| a::l,h=>by rw[iA,iA,h a (.head _),rG λx ab=>h x (.tail _ ab)]
section
variable{t:bs}(af:g8 t)
include af
theorem akb:∀ (f j:Nat),j<t.ns.length->j<f->El t.ns f j=ef t.ns j:=by
 intro f
 induction f using Nat.strongRecOn with
 |_ f aQ=>
  intro j ah aE
  match f,aE,aQ with
  |f+1,aE,aQ=>unfold ef;rw[El,El];congr 1;refine rG λk ae=>?_;obtain⟨ax,aa⟩:=af.node ah ae;obtain⟨k,rfl⟩:=eh ax;have aK:=aQ f Z k Z Z;have ba:=aQ j Z k Z Z;exact aK.trans ba.symm
theorem kN{j:Nat}(ah:j<t.ns.length):ef t.ns j=(nodeAt t.ns j).ap.flatMap (ef t.ns)++[(j:Int)]:=by unfold ef;rw[El];congr 1;refine rG λk ae=>?_;obtain⟨ax,aa⟩:=af.node ah ae;obtain⟨k,rfl⟩:=eh ax;exact akb af _ k Z Z
theorem zS:∀ (j:Nat),j<t.ns.length->∀ x∈ef t.ns j,(0<=x/\x<=j)/\(x=j\/∃ y:Nat,(y:Int)∈ef t.ns j/\y<t.ns.length/\x∈(nodeAt t.ns y).ap):=by
 intro j
 induction j using Nat.strongRecOn with
 |_ j aQ=>
  intro ah x ab;rw[kN af ah]at ab;rcases c1.1 ab with ab | ab
  ·obtain⟨k,ae,ab⟩:=hl.1 ab;obtain⟨ax,aa⟩:=af.node ah ae;obtain⟨k,rfl⟩:=eh ax;obtain⟨b,c⟩:=aQ k Z Z x ab;refine⟨Z,.inr ?_⟩;rcases c with rfl | ⟨y,aG,GP,P2⟩
   ·exact⟨j,by rw[kN af ah];simp,ah,ae⟩
   ·exact⟨y,by rw[kN af ah];exact c1.2 (.inl (hl.2 ⟨k,ae,aG⟩)),GP,P2⟩
  ·simp only[eL]at ab;subst ab;exact⟨Z,.inl rfl⟩
theorem akc{j:Nat}(ah:j<t.ns.length){a b:Nat}(a7:(a:Int)∈(nodeAt t.ns j).ap)(ag:(b:Int)∈(nodeAt t.ns j).ap)(bz:a≠b):∀ (m:Nat) (x:Int),x∈ef t.ns a->x∈ef t.ns b->t.ns.length-x.toNat<=m->False:=by
 have aa:=af.node ah a7;have ad:=af.node ah ag;intro m
 induction m with
 |zero=>intro x P3 kg hm;have:=(zS af a Z x P3).1;omega
 |succ m aQ=>
  intro x P3 kg hm;obtain⟨aw5,akd⟩:=zS af a Z x P3;obtain⟨aw6,Yf⟩:=zS af b Z x kg;rcases akd with P4 | ⟨P5,Yg,P6,P7⟩
  ·rcases Yf with La | ⟨P8,gX,P9,P'⟩
   ·omega
   ·have:=(zS af b Z P8 gX).1;subst P4;exact af.two ah P9 Z a7 P'
  ·rcases Yf with La | ⟨P8,gX,P9,P'⟩
   ·have:=(zS af a Z P5 Yg).1;subst La;exact af.two ah P6 Z ag P7
   ·by_cases e:P5=P8
    ·subst e;have:=af.node P6 P7;exact aQ P5 Yg gX Z
    ·exact af.two P6 P9 e P7 P'
theorem Hv:∀ (j:Nat),j<t.ns.length->hz (ef t.ns j):=by
 intro j
 induction j using Nat.strongRecOn with
 |_ j aQ=>
  intro ah;rw[kN af ah];have cb:=af.Ye ah;refine rC.2 ⟨Ea.2 ⟨λk ae=>?_,?_⟩,am,λx ab y aG=>?_⟩;·obtain⟨ax,aa⟩:=af.node ah ae;obtain⟨k,rfl⟩:=eh ax;exact aQ k Z Z
  ·refine cb.imp_of_mem ?_;intro a b a7 ag bz x ab y aG e;subst e;obtain⟨ax,aa⟩:=af.node ah a7;obtain⟨ad,aj⟩:=af.node ah ag;obtain⟨a,rfl⟩:=eh ax;obtain⟨b,rfl⟩:=eh ad;exact akc af ah a7 ag (by intro e;subst e;exact bz rfl) _ x ab aG (cc _)
  ·simp only[eL]at aG;subst aG;obtain⟨k,ae,ab⟩:=hl.1 ab;obtain⟨ax,aa⟩:=af.node ah ae;obtain⟨k,rfl⟩:=eh ax;have:=(zS af k Z x ab).1;omega
def pO(ns:List al)(l:List Int):Prop:=∀ i (h:i<l.length),∀ k∈(nodeAt ns (l[i]).toNat).ap,k∈l.take i
omit af in
theorem pO.append{l m:List Int}(h:pO ns l)(bd:pO ns m):pO ns (l++m):=by
 intro i hi k ae;by_cases az:i<l.length
 ·rw[zy az]at ae;rw[Bo Z];exact h i az k ae
 ·rw[B4 Z]at ae;have:=bd (i-l.length) (by simp at hi;omega) k ae;rw[Hn,fD Z];exact c1.2 (.inr this)
omit af in
theorem pO.flat{ns:List al}{f:Int->List Int}:∀ {ks:List Int},(∀ k∈ks,pO ns (f k))->pO ns (ks.flatMap f)
 |[],_=>λi h=>by simp at h
 |k::ks,h=>by rw[iA];exact(h k (.head _)).append (pO.flat λx ab=>h x (.tail _ ab))
theorem Yh{j:Nat}(ah:j<t.ns.length):(j:Int)∈ef t.ns j:=by rw[kN af ah];simp
theorem Qa:∀ (j:Nat),j<t.ns.length->pO t.ns (ef t.ns j):=by
 intro j
 induction j using Nat.strongRecOn with
 |_ j aQ=>
  intro ah;have ae:∀ k∈(nodeAt t.ns j).ap,∃ q:Nat,k=q/\q<j:=λk ae=>by obtain⟨ax,aa⟩:=af.node ah ae;exact⟨k.toNat,Z,Z⟩
  have aa:pO t.ns ((nodeAt t.ns j).ap.flatMap (ef t.ns)):=pO.flat λk hA=>by obtain⟨q,rfl,aO⟩:=ae k hA;exact aQ q aO Z
  rw[kN af ah];intro i hi k n8;by_cases az:i<((nodeAt t.ns j).ap.flatMap (ef t.ns)).length;·rw[zy az]at n8;rw[Bo Z];exact aa i az k n8
  ·rw[B4 Z]at n8;have e:i-((nodeAt t.ns j).ap.flatMap (ef t.ns)).length=0:=by simp only[cn,ep,hj]at hi;omega
   simp only[e,ti,hC]at n8;rw[Hn,fD Z];refine c1.2 (.inl (hl.2 ⟨k,n8,?_⟩));obtain⟨q,rfl,aO⟩:=ae k n8;exact Yh af Z
theorem Yi{j:Nat}(ah:j<t.ns.length):(ef t.ns j).getLast?=some (j:Int):=by rw[kN af ah];simp
theorem Qb:∀ (j:Nat),j<t.ns.length->(ef t.ns j).length=lS t.ns j:=by
 intro j
 induction j using Nat.strongRecOn with
 |_ j aQ=>
  intro ah;rw[kN af ah,D6 (jd.2 af) ah,<-gr ah];simp only[cn,x',ep,hj,gO];have:(nodeAt t.ns j).ap.map (λa=>(ef t.ns a).length)=(nodeAt t.ns j).ap.map (lS t.ns):=fR λk ae=>by obtain⟨ax,aa⟩:=af.node ah ae;obtain⟨k,rfl⟩:=eh ax;exact aQ k Z Z
  rw[this];omega
theorem Yj:∀ (f:Nat) (todo b:List Int),(∀ k∈todo,0<=k/\k<t.ns.length)->(todo.map λn=>(ef t.ns n).length).sum<=f->tF t.ns f todo b=b++todo.reverse.flatMap (λn=>(ef t.ns n).reverse)
 |0,todo,b,ak,aE=>by
  rcases ze todo with h | ⟨r,p,h⟩;·subst h;simp[tF]
  ·subst h;obtain⟨ax,aa⟩:=ak p am;obtain⟨p,rfl⟩:=eh ax;have:=congrArg List.length (kN af (j:=p) Z);simp at aE this;have ad:(ef t.ns (p:Int)).length=0:=by rw[aE.2];rfl
   omega
 |f+1,todo,b,ak,aE=>by
  rcases ze todo with h | ⟨r,p,h⟩;·subst h;rw[Xr];simp
  ·rw[List.concat_eq_append]at h;subst h;obtain⟨ax,aa⟩:=ak p am;obtain⟨p,rfl⟩:=eh ax;have aI:p<t.ns.length:=by omega
   have he:=kN af aI;have az:=congrArg List.length he;simp only[cn,x',ep,hj]at az;have k2:∀ k∈r++(nodeAt t.ns p).ap,0<=k/\k<t.ns.length:=λk ae=>by
    rcases c1.1 ae with ae | ae;·exact ak k (by simp[ae])
    ·have:=af.node aI ae;omega
   have wi:((r++(nodeAt t.ns p).ap).map λn=>(ef t.ns n).length).sum<=f:=by simp only[cR,pG,b0,hs,hr,BK]at aE |-;omega
   rw[Xs,hC,Yj f _ _ k2 wi];rw[ya,ya,fS,fS,zz,oN,he,ya,dW];congr 1;rw[<-dW];congr 1;simp[List.reverse_flatMap];rfl
theorem ake{j:Nat}(ah:j<t.ns.length):(zM t.ns j).reverse=ef t.ns j:=by unfold zM;have aa:=Qb af j ah;have ad:=Hf (jd.2 af) t.ns.length j ah Z;rw[Yj af _ _ _ (λk ae=>by simp only[eL]at ae;omega) d4];simp
def kO(rb:List Int)(k:Int):Int:=(rb.idxOf k:Nat)
def nK(ns:List al)(rb:List Int)(b:Int):al:=(nodeAt ns b.toNat).dX ((nodeAt ns b.toNat).ap.map (kO rb))
omit af in
theorem hz.idx{l:List Int}(h:hz l){i:Nat}(hi:i<l.length):l.idxOf l[i]=i:=by
 have aa:=KW (bK hi);have ad:=KZ aa;have aj:=PR.1 h;rcases Nat.lt_trichotomy (l.idxOf l[i]) i with aJ | aJ | aJ
 ·exact absurd ad (aj _ _ aa hi aJ)
 ·exact aJ
 ·exact absurd ad.symm (aj _ _ hi aa aJ)
omit af in
theorem hz.nodup{l:List Int}(h:hz l){i j:Nat}(hi:i<l.length)(ah:j<l.length)(e:l[i]=l[j]):i=j:=by rw[<-h.idx hi,<-h.idx ah,e]
omit af in
theorem sub_fold{rb:List Int}(ai:hz rb)(aI:pO t.ns rb)(ak:∀ k∈rb,0<=k/\k<t.ns.length):∀ i,i<=rb.length->∃ P:List Int,(rb.take i).foldl (B1 t.ns) (List.replicate t.ns.length 0,[])=(P,(rb.take i).map (nK t.ns rb))/\P.length=t.ns.length/\∀ q (h:q<rb.length),q<i->P.getD rb[q].toNat 0=(q:Int)
 |0,_=>⟨List.replicate t.ns.length 0,rfl,am,λq h aO=>Z⟩
 |i+1,hi=>by
  obtain⟨P,aa,ad,aj⟩:=sub_fold ai aI ak i Z;have dN:i<rb.length:=by omega
  have aw7:=ak _ (bK dN);have key:∀ q (h:q<rb.length),q<i+1->(P.set rb[i].toNat (i:Nat)).getD rb[q].toNat 0=(q:Int):=λq h aO=>by
   have Vo:=ak _ (bK h);by_cases e:q=i;·subst e;simp[bT,iB,show rb[q].toNat<P.length by omega]
   ·have bz:rb[i].toNat≠rb[q].toNat:=λc2=>e (ai.nodup h dN Z);have:=aj q h Z;simp only[bT,iB]at this |-;rw[bS bz];exact this
  refine⟨P.set rb[i].toNat (i:Nat),?_,wf,key⟩;rw[gk dN,tB,aa,cR];simp only[kt,Ho,B1,bB,fT,pf (Nat.le_of_lt dN),b0,hs];have:nK t.ns rb rb[i]=(nodeAt t.ns rb[i].toNat).dX ((nodeAt t.ns rb[i].toNat).ap.map λk=>(P.set rb[i].toNat (i:Nat)).getD k.toNat 0):=by unfold nK;congr 1;refine fR λk ae=>?_;have hm:=aI i dN k ae;obtain⟨q,aO,e⟩:=iI hm;rw[fT]at aO;rw[PV]at e;rw[<-e,key q Z Z];unfold kO;rw[ai.idx]
  rw[this]
theorem Em{j:Nat}(ah:j<t.ns.length):nI t.ns j=(ef t.ns j).map (nK t.ns (ef t.ns j)):=by obtain⟨P,aa,-,-⟩:=sub_fold (Hv af j ah) (Qa af j ah) (λk ae=>by have:=(zS af j ah k ae).1;omega) (ef t.ns j).length (cc _);rw[Dx]at aa;unfold nI;rw[ake af ah,aa]
theorem akf{j:Nat}(ah:j<t.ns.length):g8 (iK (nI t.ns j)):=by
 have ai:=Hv af j ah;have aI:=Qa af j ah;have hm:=zS af j ah;have En:=Yi af ah;rw[Em af ah];generalize ef t.ns j=rb at *;have cQ:0<rb.length:=by
  cases rb with
  |nil=>simp at En| cons a l=>simp
 have Eo:rb[rb.length-1]=(j:Int):=by rw[XK,dy Z]at En;exact e1 En
 have aC:∀ i (h:i<rb.length),rb[i].toNat<t.ns.length:=λi h=>by have:=(hm _ (bK h)).1;omega
 have lK:∀ i (h:i<rb.length),∀ k∈(nodeAt t.ns rb[i].toNat).ap,k∈rb/\rb.idxOf k<i:=λi h k ae=>by have:=aI i h k ae;refine⟨uU this,?_⟩;obtain⟨q,aO,e⟩:=iI this;rw[fT]at aO;rw[PV]at e;rw[<-e,ai.idx];omega
 have BU:∀ a∈rb,∀ b∈rb,kO rb a=kO rb b->a=b:=λa a7 b ag e=>by
  unfold kO at e;have c2:rb.idxOf a=rb.idxOf b:=by omega
  rw[<-KZ (KW a7),<-KZ (KW ag)];simp only[c2]
 have eG:eI (rb.map (nK t.ns rb))=rb.flatMap λb=>(nodeAt t.ns b.toNat).ap.map (kO rb):=by unfold eI;rw[yb];rfl
 have fv:∀ b∈rb,∀ k∈(nodeAt t.ns b.toNat).ap,k∈rb:=λb ag k ae=>by obtain⟨i,hi,rfl⟩:=iI ag;exact(lK i hi k ae).1
 refine⟨by simp[iK];omega,λi hi=>?_,λi hi k ae=>?_,?_,λi hi=>?_⟩
 ·have cz:i<rb.length:=by simpa[iK]using hi
  have aE:=af.fits _ (aC i cz);rw[<-gr (aC i cz)]at aE;simp only[iK,gh];have e:(nK t.ns rb rb[i]).ap.length=(nodeAt t.ns rb[i].toNat).ap.length:=by show((nodeAt t.ns rb[i].toNat).ap.map (kO rb)).length=_;rw[bB]
  rw[e];exact aE
 ·have cz:i<rb.length:=by simpa[iK]using hi
  simp only[iK,gh]at ae;obtain⟨q,aO,rfl⟩:=c3.1 ae;have:=(lK i cz q aO).2;unfold kO;omega
 ·show hz (eI (rb.map (nK t.ns rb)));rw[eG];refine Ea.2 ⟨λb ag=>?_,?_⟩
  ·have ha:=(hm b ag).1;refine B5.2 ((af.Ye (j:=b.toNat) Z).imp_of_mem ?_);intro x y ab aG bz e;exact bz (BU x (fv b ag x ab) y (fv b ag y aG) e)
  ·refine ai.imp_of_mem ?_;intro a b a7 ag bz x ab y aG e;obtain⟨p,x5,rfl⟩:=c3.1 ab;obtain⟨q,wF,rfl⟩:=c3.1 aG;have aK:=BU p (fv a a7 p x5) q (fv b ag q wF) e;subst aK;have sM:=(hm a a7).1;have ha:=(hm b ag).1;exact af.two (i:=a.toNat) (j:=b.toNat) Z Z Z x5 wF
 ·have cz:i<rb.length:=by simpa[iK]using hi
  show(i:Int)∈eI (rb.map (nK t.ns rb)) ↔ (i:Int)≠((rb.map (nK t.ns rb)).length:Int)-1;rw[eG,bB];constructor
  ·intro h e;obtain⟨b,ag,h⟩:=hl.1 h;obtain⟨k,ae,ba⟩:=c3.1 h;have akg:=fv b ag k ae;have cA:k=rb[i]:=by
    rw[<-KZ (KW akg)];unfold kO at ba;have:rb.idxOf k=i:=by omega
    simp only[this]
   have ee:i=rb.length-1:=by omega
   subst ee;rw[Eo]at cA;have ha:=(hm b ag).1;have:=af.node (j:=b.toNat) Z ae;omega
  ·intro h;obtain⟨ag,ao⟩:=hm _ (bK cz);rcases ao with e | ⟨y,aG,GP,akh⟩
   ·have:=ai.nodup cz (show rb.length-1<rb.length by omega) (e.trans Eo.symm);omega
   ·refine hl.2 ⟨y,aG,c3.2 ⟨rb[i],by simpa using akh,?_⟩⟩;unfold kO;rw[ai.idx]
end
structure bj where
 a:BitVec 64
 b:BitVec 64
 c:BitVec 64
 d:BitVec 64
 deriving DecidableEq
def bj.zero:bj:=⟨0,0,0,0⟩
def bj.or(x y:bj):bj:=⟨x.a ||| y.a,x.b ||| y.b,x.c ||| y.c,x.d ||| y.d⟩
def bj.and(x y:bj):bj:=⟨x.a &&& y.a,x.b &&& y.b,x.c &&& y.c,x.d &&& y.d⟩
def bj.sub(x y:bj):Bool:=decide (x.and y=x)
def bj.cells(x:bj):List Value:=[.int .u64 x.a.toNat,.int .u64 x.b.toNat,.int .u64 x.c.toNat,.int .u64 x.d.toNat]
def bj.val(x:bj):Value:=.agg #[.int .u64 x.a.toNat,.int .u64 x.b.toNat,.int .u64 x.c.toNat,.int .u64 x.d.toNat]
structure kP where
 w:bj
 f:Bool
 deriving DecidableEq
def kP.cells(x:kP):List Value:=[.int .u64 x.w.a.toNat,.int .u64 x.w.b.toNat,.int .u64 x.w.c.toNat,.int .u64 x.w.d.toNat,.bool x.f]
def Qc:kP:=⟨.zero,false⟩
def bj.ext'{x y:bj}(aa:x.a=y.a)(ad:x.b=y.b)(aj:x.c=y.c)(aJ:x.d=y.d):x=y:=by obtain⟨a,b,c,d⟩:=x;obtain⟨bN,ik,c',d'⟩:=y;simp only at aa ad aj aJ;subst aa ad aj aJ;rfl
def bj.or_assoc(x y z:bj):(x.or y).or z=x.or (y.or z):=by simp only[bj.or,BitVec.or_assoc]
def bj.or_comm(x y:bj):x.or y=y.or x:=by simp only[bj.or,BitVec.or_comm]
def bj.or_self(x:bj):x.or x=x:=by simp[bj.or]
def bj.zero_or(x:bj):bj.zero.or x=x:=by simp[bj.or,bj.zero]
def zT{x:BitVec 64}:x &&& y=x ↔ x ||| y=y:=by
 constructor
 ·intro h;apply BitVec.eq_of_getElem_eq;intro i hi;have:=congrArg (λw:BitVec 64=>w[i]) h;simp only[BitVec.getElem_and,BitVec.getElem_or]at this |-;revert this;cases x[i]<;>cases y[i]<;>simp
 ·intro h;apply BitVec.eq_of_getElem_eq;intro i hi;have:=congrArg (λw:BitVec 64=>w[i]) h;simp only[BitVec.getElem_and,BitVec.getElem_or]at this |-;revert this;cases x[i]<;>cases y[i]<;>simp
def bj.Lb{x y:bj}:x.sub y=true ↔ x.or y=y:=by
 unfold bj.sub;rw[h3];constructor
 ·intro h;have aa:=congrArg bj.a h;have ad:=congrArg bj.b h;have aj:=congrArg bj.c h;have aJ:=congrArg bj.d h;exact bj.ext' (zT.1 aa) (zT.1 ad) (zT.1 aj) (zT.1 aJ)
 ·intro h;have aa:=congrArg bj.a h;have ad:=congrArg bj.b h;have aj:=congrArg bj.c h;have aJ:=congrArg bj.d h;exact bj.ext' (zT.2 aa) (zT.2 ad) (zT.2 aj) (zT.2 aJ)
def bj.aki(x:bj):x.sub x=true:=bj.Lb.2 x.or_self
def bj.akj{x y z:bj}(h:x.sub y=true)(bd:y.sub z=true):x.sub z=true:=by rw[bj.Lb]at h bd |-;rw[<-bd,<-bj.or_assoc,h]
def bj.akk{x y:bj}(h:x.sub y=true)(bd:y.sub x=true):x=y:=by rw[bj.Lb]at h bd;exact bd.symm.trans ((bj.or_comm y x).trans h)
def bj.zero_sub(x:bj):bj.zero.sub x=true:=by rw[bj.Lb,bj.zero_or]
structure kP.le(a b:kP):Prop where
 w:a.w.sub b.w=true
 f:a.f=true->b.f=true
def kP.le_refl(a:kP):a.le a:=⟨bj.aki _,id⟩
def kP.le.trans{a b c:kP}(h:a.le b)(bd:b.le c):a.le c:=⟨bj.akj h.w bd.w,λx=>bd.f (h.f x)⟩
theorem kP.le.antisymm{a b:kP}(h:a.le b)(bd:b.le a):a=b:=by
 have aa:=bj.akk h.w bd.w;obtain⟨aw8,akl⟩:=a;obtain⟨aw9,tP⟩:=b;simp only at aa;subst aa;have aE:=h.f;have wi:=bd.f;cases akl<;>cases tP<;>simp_all
def kP.qz(a:kP):Qc.le a:=⟨bj.zero_sub _,λh=>ci⟩
def B'(x:BitVec 64):BitVec.ofInt 64 (x.toNat:Int)=x:=by rw[BitVec.ofInt_natCast,BitVec.ofNat_toNat,BitVec.setWidth_eq]
def Qd(x:BitVec 64):IntKind.u64.wrap (x.toNat:Int)=(x.toNat:Int):=by have:=x.isLt;unfold IntKind.wrap;simp only[IntKind.bits,IntKind.signed];simp;omega
def Ep{x:BitVec 64}:((x.toNat:Int) == (y.toNat:Int))=decide (x=y):=by rw[r8];simp[BitVec.toNat_eq];omega
def bj.lI(x y:bj):(((x.a.toNat:Int) == y.a.toNat)&&(((x.b.toNat:Int) == y.b.toNat)&&(((x.c.toNat:Int) == y.c.toNat)&&((x.d.toNat:Int) == y.d.toNat))))=decide (x=y):=by obtain⟨a,b,c,d⟩:=x;obtain⟨bN,ik,c',d'⟩:=y;rw[Ep,Ep,Ep,Ep,r8];simp[and_assoc]
def akm{x:Int}(h:0<=x/\x<18446744073709551616):∃ w:BitVec 64,x=(w.toNat:Int):=by refine⟨BitVec.ofNat 64 x.toNat,?_⟩;rw[Ec,Ee Z];omega
structure Qe(α:Type) where
 le:α->α->Prop
 qz:α
 refl:∀ a,le a a
 trans:∀ {a b c},le a b->le b c->le a c
 Yk:∀ {a b},le a b->le b a->a=b
 low:∀ a,le qz a
structure Ca{α:Type}(O:Qe α)(l m:List α):Prop where
 len:l.length=m.length
 at':∀ i,O.le (l.getD i O.qz) (m.getD i O.qz)
section
variable{α:Type}{O:Qe α}
def Ca.trans{a b c:List α}(h:Ca O a b)(bd:Ca O b c):Ca O a c:=⟨h.len.trans bd.len,λi=>O.trans (h.at' i) (bd.at' i)⟩
def Ca.of{a b:List α}(az:a.length=b.length)(h:∀ i,i<a.length->O.le (a.getD i O.qz) (b.getD i O.qz)):Ca O a b:=⟨az,λi=>by
 by_cases hi:i<a.length
 ·exact h i hi
 ·have e:a.getD i O.qz=O.qz:=by simp[bT,tj (Nat.le_of_not_lt hi)]
  rw[e];exact O.low _⟩
section
end
end
theorem Yl{α:Type}{p q:α->Bool}:∀ {l:List α},(∀ x∈l,p x=true->q x=true)->l.countP q<=l.countP p->∀ x∈l,q x=true->p x=true
 |[],_,_,x,ab,_=>by cases ab
 |y::l,h,bn,x,ab,aO=>by
  have hm:=List.countP_mono_left (p:=p) (q:=q) (l:=l) (λx ab=>h x (.tail _ ab));rw[List.countP_cons,List.countP_cons]at bn;have aG:=h y (.head _);have key:(q y=true->p y=true)/\l.countP q<=l.countP p:=by cases aI:p y<;>cases axa:q y<;>simp_all<;>omega
  rcases er.1 ab with rfl | ab;·exact key.1 aO
  ·exact Yl (λx ab=>h x (.tail _ ab)) key.2 x ab aO
def Hw(x:BitVec 64):Nat:=(List.range 64).countP λi=>!x.getLsbD i
theorem akn{x:BitVec 64}(h:x &&& y=x):Hw y<=Hw x/\(Hw x<=Hw y->x=y):=by
 have ag:∀ i,x.getLsbD i=true->y.getLsbD i=true:=λi ab=>by have:=congrArg (λw:BitVec 64=>w.getLsbD i) h;simp only[PU,ab,nY]at this;exact this
 have aI:∀ i∈List.range 64,(!y.getLsbD i)=true->(!x.getLsbD i)=true:=λi _ hi=>by
  have aa:=ag i;cases ab:x.getLsbD i with
  |false=>rfl| true=>rw[aa ab]at hi;cases hi
 refine⟨List.countP_mono_left aI,λbn=>?_⟩;have:=Yl aI bn;apply PS;intro i hi;have aa:=ag i;have ad:=this i (j9.2 hi);cases ab:x.getLsbD i<;>cases aG:y.getLsbD i<;>simp_all
def Ym:Qe kP:=⟨kP.le,Qc,kP.le_refl,λh bd=>h.trans bd,λh bd=>h.antisymm bd,kP.qz⟩
def bj.one(i:Nat)(x:BitVec 64):bj:=⟨bif decide (i=0)then x else 0,bif decide (i=1)then x else 0,bif decide (i=2)then x else 0,bif decide (i=3)then x else 0⟩
def u'(b:UInt8):bj:=.one (b.toNat/64) (1#64 <<< (b.toNat%64))
def oP(l:List UInt8):bj:=l.foldl (λw b=>w.or (u' b)) .zero
def al.ws(d:al):bj:=⟨BitVec.ofInt 64 d.cf,BitVec.ofInt 64 d.s1,BitVec.ofInt 64 d.s2,BitVec.ofInt 64 d.cH⟩
def axb.map{f g:α->kP}{l:List α}(h:∀ x∈l,(f x).le (g x)):Ca Ym (l.map f) (l.map g):=.of am λi hi=>by
 have cz:i<l.length:=by simpa using hi
 have:=h _ (bK cz);simpa[bT,cz]using(show Ym.le _ _ from this)
structure Er(x:aX)(k:kP):Prop where
 z:x.z=true->k.f=true
 s:x.s=true->k.w≠.zero
def Er.none(k:kP):Er cg k:=⟨λh=>ci,λh=>ci⟩
inductive zU:List aX->List kP->Prop
 |nil:zU [] []| cons {x k l m} (h:Er x k) (t:zU l m):zU (x::l) (k::m)
def zU.head{l:List aX}{m:List kP}(h:zU l m):Er (l.headD cg) (m.headD Qc):=by
 cases h with
 |nil=>exact Er.none _| cons h t=>exact h
def zU.map{α:Type}{f:α->aX}{g:α->kP}:∀ {l:List α},(∀ x∈l,Er (f x) (g x))->zU (l.map f) (l.map g)
 |[],_=>.nil| x::l,h=>.cons (h x (.head _)) (zU.map λy aG=>h y (.tail _ aG))
structure pP(t:bs)(k:Int)(bi:bs):Prop where
 aW:bi.ns.map al.aW=nI t.ns k
 bx:bi.bx=(bi.ns.length:Int)-1
def Yn(af:right t=true){j:Nat}(ah:j<t.ns.length)(h:pP t j bi):right bi=true:=by
 have aa:=jd.2 (akf (jd.1 af) ah);have az:=congrArg List.length h.aW;rw[bB]at az;have ad:right bi.aW=right (iK (nI t.ns j)):=by unfold right bs.aW iK;simp only[h.aW,h.bx,az]
 rw[tO]at ad;rw[ad,aa]
def Yo(af:right t=true){j:Nat}(ah:j<t.ns.length)(h:pP t j bi):bi.ns.length=lS t.ns j:=by have az:=congrArg List.length h.aW;rw[bB,Em (jd.1 af) ah,bB,Qb (jd.1 af) j ah]at az;exact az
def j4:List (aX×List Nat)->List Nat
 |[]=>[]| x::xs=>x.2++bif x.1.z then j4 xs else []
def lg(pl:List (ByteArray×Int))(d:al)(xs:List (aX×List Nat)):List Nat:=
 bif decide (d.k=3)then [((eP d.t pl).getD 0).toNat]else
 bif decide (d.k=4)then j4 xs else
 bif decide (d.k=6)&&decide (d.hi=0)then []else xs.flatMap (·.2)
def rH(pl:List (ByteArray×Int))(F:List aX)(d:al)(xs:List (aX×List Nat)):aX×List Nat:=
 (gz d (xs.map (·.1)++bif decide (d.k=3)then [F.getD ((eP d.t pl).getD 0).toNat cg]else []),lg pl d xs)
def gu(pl:List (ByteArray×Int))(F:List aX)(ns:List al)(j:Int):aX×List Nat:=mf (cg,[]) (λd g=>rH pl F d (d.ap.map g)) ns j
def Qf{F:List aX}(af:right t=true){j:Nat}(ah:j<t.ns.length):gu pl F t.ns j=rH pl F t.ns[j] (t.ns[j].ap.map (gu pl F t.ns)):=
 DF (λd g ei h=>by rw[fR h]) af ah
def ako(pl:List (ByteArray×Int))(F:List aX)(ns:List al)(j:Int):gu pl F (ns.map al.aW) j=gu pl F ns j:=by unfold gu mf;rw[Hu (f:=λd g=>rH pl F d (d.ap.map g)) (g:=λd g=>rH pl F d (d.ap.map g)) (λd q=>rfl)]
def Yp(a5:List (aX×List Nat))(i:Nat):(a5.getD i (cg,[])).1=(a5.map (·.1)).getD i cg:=by
 simp only[bT,jJ];cases a5[i]?<;>rfl
def Yq(pl:List (ByteArray×Int))(F:List aX):∀ (ds:List al) (a5:List (aX×List Nat)),(gF (cg,[]) (λd g=>rH pl F d (d.ap.map g)) ds a5).map (·.1)=ey pl F ds (a5.map (·.1))
 |[],a5=>rfl
 |d::ds,a5=>by
  have aK:(rH pl F d (d.ap.map λk=>a5.getD k.toNat (cg,[]))).1=gz d (sK pl F (a5.map (·.1)) d):=by unfold rH sK;simp only[gj,Function.comp_def,Yp]
  have aa:=Yq pl F ds (a5++[rH pl F d (d.ap.map λk=>a5.getD k.toNat (cg,[]))]);rw[cR,b0,hs,aK]at aa;rw[gF,aa,ey]
def Qg(pl:List (ByteArray×Int))(F:List aX)(ns:List al)(j:Int):(gu pl F ns j).1=(ey pl F ns []).getD j.toNat cg:=by have h:=Yq pl F ns [];unfold gu mf;rw[Yp,h];rfl
abbrev dw:=BitVec 64
def lh(k:Nat):dw:=1#64 <<< k
def Lc{k i:Nat}(hi:i<64):(lh k).getLsbD i=decide (i=k):=by
 unfold lh;rw[BitVec.getLsbD_shiftLeft];simp only[hi,K3,nY];by_cases h:i<k
 ·have bz:¬ i=k:=by omega
  simp[h,bz]
 ·simp only[h,decide_false,Bool.not_false,nY];by_cases e:i=k
  ·subst e;simp
  ·rw[e8 e];have ad:0<i-k:=by omega
   rw[BitVec.getLsbD_one];simp;omega
def akp(l:List Nat):∀ (w:dw) {i:Nat},i<64->(l.foldl (λw k=>w ||| lh k) w).getLsbD i=(w.getLsbD i||l.contains i):=by
 induction l with
 |nil=>intro w i hi;simp| cons k l aQ=>intro w i hi;rw[kt,aQ _ hi,B6,Lc hi,List.contains_cons,Bool.or_assoc];rfl
def m0(m:List dw):Nat->Nat->dw->dw
 |_,0,w=>w| k,f+1,w=>m0 m (k+1) f (bif w.getLsbD k then w ||| m.getD k 0 else w)
def rI(m:List dw):List dw:=(List.range 64).map λi=>m0 m 0 64 (m.getD i 0)
inductive qB(m:List dw):Nat->Nat->Prop
 |one{i k}(ae:k<64)(h:(m.getD i 0).getLsbD k=true):qB m i k| step {i j k} (h:(m.getD i 0).getLsbD j=true) (ah:j<64) (t:qB m j k):qB m i k
def qB.trans{m:List dw}{i j k:Nat}(h:qB m i j)(bd:qB m j k):qB m i k:=by
 induction h with
 |one ae h=>exact .step h ae bd| step h ah t aQ=>exact .step h ah (aQ bd)
def jK(x y:dw):Prop:=∀ i,i<64->x.getLsbD i=true->y.getLsbD i=true
def jK.refl(x:dw):jK x x:=λ_ _ h=>h
def jK.trans{x y z:dw}(h:jK x y)(bd:jK y z):jK x z:=λi hi ab=>bd i hi (h i hi ab)
def jK.or(x y:dw):jK x (x ||| y):=λi hi h=>by rw[B6,h];rfl
def jK.or'(x y:dw):jK y (x ||| y):=λi hi h=>by rw[B6,h,K2]
theorem jK.Yk{x y:dw}(h:jK x y)(bd:jK y x):x=y:=PS λi hi=>by
 have aa:=h i hi;have ad:=bd i hi;cases ab:x.getLsbD i<;>cases aG:y.getLsbD i<;>simp_all
theorem jK.and{x y:dw}(h:jK x y):x &&& y=x:=PS λi hi=>by
 have aa:=h i hi;rw[PU];cases ab:x.getLsbD i<;>simp_all
def Hx(m:List dw):∀ (f k:Nat) (w:dw),jK w (m0 m k f w)
 |0,k,w=>jK.refl w
 |f+1,k,w=>by
  rw[m0];cases w.getLsbD k with
  |true=>exact(jK.or _ _).trans (Hx m f (k+1) _)| false=>exact Hx m f (k+1) _
def Qh{m:List dw}{P:Nat->Prop}(hm:∀ j,P j->∀ x,x<64->(m.getD j 0).getLsbD x=true->P x):∀ (f k:Nat) (w:dw),k+f<=64->(∀ x,x<64->w.getLsbD x=true->P x)->∀ x,x<64->(m0 m k f w).getLsbD x=true->P x
 |0,k,w,_,hw=>hw
 |f+1,k,w,ae,hw=>by
  rw[m0];cases ag:w.getLsbD k with
  |true=>
   refine Qh hm f (k+1) _ Z λx ab h=>?_;rw[cF,B6,nj]at h;rcases h with h | h;·exact hw x ab h
   ·exact hm k (hw k Z ag) x ab h
  |false=>exact Qh hm f (k+1) _ Z hw
def Qi{m:List dw}:∀ (f k:Nat) {w:dw},m0 m k f w=w->∀ j,k<=j->j<k+f->w.getLsbD j=true->jK (m.getD j 0) w
 |0,k,w,_,j,aa,ad,_=>by omega
 |f+1,k,w,h,j,aa,ad,ah=>by
  rw[m0]at h;cases ag:w.getLsbD k with
  |true=>
   rw[ag,cF]at h;have e:w ||| m.getD k 0=w:=by refine jK.Yk ?_ (jK.or _ _);have:=Hx m f (k+1) (w ||| m.getD k 0);rwa [h]at this
   by_cases Qj:j=k;·subst Qj;have:=jK.or' w (m.getD j 0);rwa [e]at this
   ·rw[e]at h;exact Qi f (k+1) h j Z Z ah
  |false=>
   rw[ag,cD]at h;by_cases Qj:j=k;·subst Qj;rw[ag]at ah;cases ah
   ·exact Qi f (k+1) h j Z Z ah
def Yr(m:List dw):(rI m).length=64:=by simp[rI]
def Ld(m:List dw){i:Nat}(h:i<64):(rI m).getD i 0=m0 m 0 64 (m.getD i 0):=by simp[rI,bT,h]
structure zV(je m:List dw):Prop where
 len:m.length=64
 le:∀ i,i<64->jK (je.getD i 0) (m.getD i 0)
 ok:∀ i,i<64->∀ k,k<64->(m.getD i 0).getLsbD k=true->qB je i k
def zV.start{je:List dw}(h:je.length=64):zV je je:=⟨h,λi _=>jK.refl _,λi _ k ae ag=>.one ae ag⟩
def zV.next{je m:List dw}(h:zV je m):zV je (rI m):=by
 refine⟨Yr m,λi hi=>?_,λi hi k ae ag=>?_⟩
 ·rw[Ld m hi];exact(h.le i hi).trans (Hx m 64 0 _)
 ·rw[Ld m hi]at ag;refine Qh (P:=λx=>x<64/\qB je i x) (λj ah x ab ag=>⟨ab,ah.2.trans (h.ok j ah.1 x ab ag)⟩) 64 0 _ (cc _) (λx ab ag=>⟨ab,h.ok i hi x ab ag⟩) k ae ag |>.2
def zV.done{je m:List dw}(h:zV je m)(aE:rI m=m){i k:Nat}(hi:i<64)(ae:k<64):(m.getD i 0).getLsbD k=true ↔ qB je i k:=by
 refine⟨h.ok i hi k ae,λao=>?_⟩;have dp:∀ i,i<64->∀ j,j<64->(m.getD i 0).getLsbD j=true->jK (m.getD j 0) (m.getD i 0):=λi hi j ah ag=>by have:=Ld m hi;rw[aE]at this;exact Qi 64 0 this.symm j (dQ _) Z ag
 revert hi
 induction ao with
 |one hA ag=>exact λhi=>h.le _ hi _ hA ag
 |step ag ah t aQ=>exact λhi=>dp _ hi _ ah (h.le _ hi _ ah ag) _ ae (aQ ae ah)
def zW(m:List dw):Nat:=(m.map Hw).sum
def Ys:∀ {m n:List dw},m.length=n.length->(∀ i,i<m.length->jK (m.getD i 0) (n.getD i 0))->zW n<=zW m/\(zW m<=zW n->m=n)
 |[],[],_,_=>⟨cc _,λ_=>rfl⟩| [],_::_,h,_=>by simp at h
 |_::_,[],h,_=>by simp at h
 |a::m,b::n,h,av=>by
  have ax:jK a b:=by simpa using av 0 am
  obtain⟨aa,ad⟩:=akn ax.and;obtain⟨t1,t2⟩:=Ys (m:=m) (n:=n) i5 λi hi=>by simpa using av (i+1) i6
  simp only[zW,b0,hr]at t1 t2 |-;refine⟨Z,λbn=>?_⟩;rw[ad Z,t2 Z]
def akq{m:List dw}(az:m.length=64)(h:rI m≠m):zW (rI m)<zW m:=by
 have av:=Ys (m:=m) (n:=rI m) (by rw[az,Yr]) λi hi=>by rw[Ld m Z];exact Hx m 64 0 _
 refine Nat.lt_of_le_of_ne av.1 λe=>h (av.2 Z).symm
def Qk(m:List dw):dw:=(List.range 64).foldl (λw i=>w ||| ((m.getD i 0) &&& lh i)) 0
def Yt(m:List dw):∀ (l:List Nat) (w:dw) {i:Nat},i<64->(∀ k∈l,k<64)->(l.foldl (λw i=>w ||| ((m.getD i 0) &&& lh i)) w).getLsbD i=(w.getLsbD i||(l.contains i&&(m.getD i 0).getLsbD i))
 |[],w,i,hi,_=>by simp
 |k::l,w,i,hi,az=>by
  rw[kt,Yt m l _ hi λk ae=>az k (.tail _ ae),B6,PU,Lc hi,List.contains_cons];by_cases e:i=k
  ·subst e;simp;cases w.getLsbD i<;>cases(m.getD i 0).getLsbD i<;>simp
  ·have c2:(i == k)=false:=by simpa using e
   rw[e8 e,c2];simp
def akr(m:List dw){i:Nat}(hi:i<64):(Qk m).getLsbD i=(m.getD i 0).getLsbD i:=by
 unfold Qk;rw[Yt m _ _ hi λk ae=>j9.1 ae];have:(List.range 64).contains i=true:=by simpa using hi
 rw[this];simp
def bitsOf(w:dw)(n:Nat):List Nat:=(List.range n).filter λi=>w.getLsbD i
def Yu(w:dw)(n:Nat):bitsOf w (n+1)=bitsOf w n++(bif w.getLsbD n then [n]else []):=by
 unfold bitsOf;rw[Ef,Ed];cases h:w.getLsbD n<;>simp[h]
def aks(w:dw)(n:Nat):(bitsOf w n).length<=n:=by unfold bitsOf;have:=Kg (λi=>w.getLsbD i) (List.range n);simpa using this
section
variable{X:cN}{o:Oper}{F:Fr}{C:de}{I:aH}{M:List aA}{K:fz}
theorem bC.akt(aL:cU X.P X.E){x:Operand}{e:Nat}(aD:o.op=.convert src dst x)(ai:∀ d,o.dst=some d->d<X.n)
 (au:X.E src=some cS) (dt:cS.bL=.slice e) (he:X.E e=some aB) (ke:aB.bL=.int .u8) (kB:X.E dst=some K4) (fE:K4.bL=.string)
 {n c:Nat} {l:List UInt8} (ab:bG F x=.val (.slice (some aR) n c)) (aC:l.length=n) (bo:c6 I M aR n (l.map λb=>.int .u8 b.toNat))
  (h:K (put o.dst (.val (.string ⟨l.toArray⟩)) F) C I M):bC X o F C I M K:=by
 subst aC;refine⟨λa w Q ⟨β,aM⟩=>?_⟩;obtain⟨av,cs,T,an,ae,ak,az⟩:=bo;have aw:=ae.heap aM.holds;obtain⟨d,fJ,fj⟩:=(aL _ _ au).fp;have aa:d=.slice e:=by rw[dt]at fj;cases d<;>simp_all[fo]
 subst aa;obtain⟨d2,Ql,sH⟩:=(aL _ _ he).fp;have ad:d2=.int .u8:=by rw[ke]at sH;cases d2<;>simp_all[fo]
 subst ad;obtain⟨d3,Qm,KP⟩:=(aL _ _ kB).fp;have aj:d3=.string:=by rw[fE]at KP;cases d3<;>simp_all[fo]
 subst aj;have ao:∀ j (ah:j<l.length),w.cell? (aR.add j)=some (.int .u8 (l[j].toNat:Int)):=by
  intro j ah;rw[eM aR av,td aw];have jA:(l.map λb=>Value.int .u8 b.toNat)[j]?=some (.int .u8 (l[j].toNat:Int)):=by simp[ah]
  rw[<-ak,l5,b2 ah,oq]at jA;simpa using jA
 have ex:=df aM.an ab;refine vY aM ai f7 ?_ h;unfold execOp;simp only[aD,cp,db,ex,run_convert_bytes_back w src dst e aR c l fJ Ql Qm ao,bY]
end
section
variable{X:cN}{F:Fr}{C:de}{I:aH}{M:List aA}{o:Oper}{K:fz}
theorem bC.aku(aL:cU X.P X.E){x:Operand}{e:Nat}(aD:o.op=.convert src dst x)(ai:∀ d,o.dst=some d->d<X.n)
 (au:X.E src=some cS) (dt:cS.bL=.slice e) (he:X.E e=some aB) (ke:aB.bL=.int .u8) (kB:X.E dst=some K4) (fE:K4.bL=.string)
  {c:Nat} (ab:bG F x=.val (.slice none 0 c))
  (h:K (put o.dst (.val (.string ⟨#[]⟩)) F) C I M):bC X o F C I M K:=by
 refine⟨λa w Q ⟨β,aM⟩=>?_⟩;obtain⟨d,fJ,fj⟩:=(aL _ _ au).fp;have aa:d=.slice e:=by rw[dt]at fj;cases d<;>simp_all[fo]
 subst aa;obtain⟨d2,Ql,sH⟩:=(aL _ _ he).fp;have ad:d2=.int .u8:=by rw[ke]at sH;cases d2<;>simp_all[fo]
 subst ad;obtain⟨d3,Qm,KP⟩:=(aL _ _ kB).fp;have aj:d3=.string:=by rw[fE]at KP;cases d3<;>simp_all[fo]
 subst aj;have ex:=df aM.an ab;refine vY aM ai f7 ?_ h;unfold execOp;have e':(convert src dst (.slice none 0 c)).run X.P w=.ok (.string ⟨#[]⟩) w:=by rw[run_convert_bytes_string w src dst e none 0 c fJ Ql Qm];rfl
 simp only[aD,cp,db,ex,e',bY]
end
def a8.whole{K:Value->aH->List aA->Prop}(post:Value->aH->List aA->Prop)(av:Spec P f args I M post)(k:∀ v I' M',(∀ b o,I b=some o->I' b=some o)->post v I' M'->K v I' M'):a8 foot P f args I M K:=
 .mk M [] post am av λv I' M' aa ad=>by rw[dK];exact k v I' M' aa ad
def ev.whole{soft:Bool}{K:Value->aH->List aA->Prop}(post:Value->aH->List aA->Prop)(av:Spec P f args I M post)(v9:∀ v I' M',post v I' M'->∀ x∈M,x∈M')(k:∀ v I' M',(∀ b o,I b=some o->I' b=some o)->post v I' M'->K v I' M'):ev soft foot P f args I M K:=
 .oy M [] post am av v9 λv I' M' aa ad=>by rw[dK];exact k v I' M' aa ad
section
variable{X:cN}{β:Nat->Nat}{a:Act}{w:World}{F:Fr}{C:de}{I:aH}{M:List aA}{o:Oper}{K:fz}
def hS.m1{I:aH}{M M':List aA}(h:M=M'):hS foot I M I M':=by subst h;exact .refl
def bC.hT(h:bC X o F C I M λF C I M=>∃ I' M',hS X.foot I M I' M'/\K F C I' M'):bC X o F C I M K:=by obtain⟨h⟩:=h;refine⟨λa w Q aM=>s6 ?_ (h a w Q aM)⟩;rintro bN w'⟨c7,C',I',M',⟨β,af⟩,ew,dv,hw,ae⟩;exact⟨c7,C',ew,dv,⟨β,af.hT hw⟩,ae⟩
def bC.lU(aL:cU X.P X.E){x:Operand}{t:Nat}(aD:o.op=.call { callee:=.builtin .append,args:=#[s,x],argTypes:=#[t,t] })(ai:∀ d,o.dst=some d->d<X.n)
  {e:Nat} (au:X.E t=some cS) (dt:cS.bL=.slice e) (he:X.E e=some aB)
  (os:aT) (bf:os.ok aB.size xs) (av:bG F s=.val os.val)
  {b9:Nat} {cs:List Value} (ab:bG F x=.val (.slice (some ⟨b9,0,none⟩) 1 c')) (az:cs.length=aB.size) (aa:fH cs=true)
  (a9 post:List aA) (bc:M=⟨b9,.cells cs.toArray e (0,0)⟩::(a9++(os.ar e++post))) (b1:os.n+1<=9223372036854775807) (bH:(os.n+1)*aB.bytes<=140737488355328)
  (k:∀ bq:aT,bq.n=os.n+1->(∀ g,bq.a=some g->I g=none)->bq.ok aB.size (xs++cs)->K (put o.dst (.val bq.val) F) C I (a9++(bq.ar e++post))):bC X o F C I M K:=by
 refine .hT (.VG aL aD ai au dt he os bf av (m:=1) (b8:=cs) ab bv ?_ aa (Mr:=⟨b9,.cells cs.toArray e (0,0)⟩::(a9++post)) ?_ t7 bH ?_)
 ·rw[nt];refine⟨rfl,_,_,_,.inr ⟨⟨b9,.cells cs.toArray e (0,0)⟩,ayx,rfl,rfl⟩,?_,az⟩;simp only[tl];exact fD Z
 ·rw[bc];have ad:(⟨b9,.cells cs.toArray e (0,0)⟩::(a9++(os.ar e++post)):List aA).Perm (⟨b9,.cells cs.toArray e (0,0)⟩::(os.ar e++(a9++post))):=.cons _ (xV _ _ _);exact ad.trans mm.symm
 ·intro g c aS bE eg eV e0 iZ;refine⟨I,a9++((⟨some g,os.n+1,c,aS⟩:aT).ar e++post),.sub (M1:=⟨g,.cells aS.toArray e (0,0)⟩::(a9++post)) (.cons_cons _ (.cons _ (.refl _))) (.perm ?_ .refl),k ⟨some g,os.n+1,c,aS⟩ rfl (λei aw=>by cases aw;exact bE) ⟨?_,(λh=>ci),λei aw=>?_⟩⟩
  ·exact mm.symm
  ·rw[cn,bf.len,az,kx,nt]
  ·cases aw;exact⟨eg,eV,e0,iZ⟩
def bC.zX(aL:cU X.P X.E){x:Operand}{t:Nat}(aD:o.op=.call { callee:=.builtin .append,args:=#[s,x],argTypes:=#[t,t] })(ai:∀ d,o.dst=some d->d<X.n)
  {e:Nat} (au:X.E t=some cS) (dt:cS.bL=.slice e) (he:X.E e=some aB)
  (os:aT) (bf:os.ok aB.size xs) (av:bG F s=.val os.val)
  {sa:Option Addr} {m:Nat} {b8:List Value} (ab:bG F x=.val (.slice sa m c')) (az:b8.length=m*aB.size) (aC:0<m->∃ aR,sa=some aR/\c6 I M aR (m*aB.size) b8) (aa:fH b8=true)
  (a9 post:List aA) (bc:M=a9++(os.ar e++post)) (b1:os.n+m<=9223372036854775807) (bH:(os.n+m)*aB.bytes<=140737488355328)
  (k:∀ bq:aT,bq.n=os.n+m->(0<m->∀ g,bq.a=some g->I g=none)->bq.ok aB.size (xs++b8)->K (put o.dst (.val bq.val) F) C I (a9++(bq.ar e++post))):bC X o F C I M K:=by
 by_cases ax:m=0
 ·subst ax;have nq:b8=[]:=im pp;subst nq;refine .OZ aL aD ai au dt au (λk=>by rw[dt];simp) he (sa:=os.a.map λg=>⟨g,0,none⟩) (n:=os.n) (c:=os.c) av ?_ ab (.inl ⟨_,_,rfl⟩) ?_
  ·cases a7:os.a with
   |none=>obtain⟨eg,eV⟩:=bf.nil a7;omega
   |some g=>exact(bf.cap g a7).2.1
  ·have:=k os rfl (λh=>Z) (by rw[dK];exact bf);rw[bc];exact this
 obtain⟨aR,rfl,bo⟩:=aC Z;refine .hT (.VG aL aD ai au dt he os bf av (m:=m) (b8:=b8) ab Z bo aa (Mr:=a9++post) ?_ t7 bH ?_)
 ·rw[bc];exact(xV _ _ _)
 ·intro g c aS bE eg eV e0 iZ;refine⟨I,a9++((⟨some g,os.n+m,c,aS⟩:aT).ar e++post),.perm ?_ .refl,k ⟨some g,os.n+m,c,aS⟩ rfl (λ_ ei aw=>by cases aw;exact bE) ⟨?_,(λh=>ci),λei aw=>?_⟩⟩
  ·exact mm.symm
  ·rw[cn,bf.len,az,kx]
  ·cases aw;exact⟨eg,eV,e0,iZ⟩
end
noncomputable section
inductive bk(α:Type) where
 |nil| node (x:Option α) (l r:bk α)
def bX{α:Type}(b:Bool)(x y:α):α:=@Bool.rec (λ_=>α) y x b
def bu{α R:Type}(o:Option α)(x:R)(f:α->R):R:=@Option.rec α (λ_=>R) x f o
section
variable{α R:Type}
def bk.get(t:bk α):Nat->Option α:=@bk.rec α (λ_=>Nat->Option α) (λ_=>none) (λx _ _ Yv Es k=>bX (Nat.beq k 0) x (bX (Nat.beq (Nat.mod k 2) 1) (Yv (Nat.div k 2)) (Es (Nat.sub (Nat.div k 2) 1)))) t
def bk.nL(v:Option α)(t:bk α):Nat->(bk α->R)->R:=@bk.rec α (λ_=>Nat->(bk α->R)->R) (λk K=>bX (Nat.beq k 0) (K (.node v .nil .nil)) (K .nil)) (λx l r sl akv k K=>bX (Nat.beq k 0) (K (.node v l r)) (bX (Nat.beq (Nat.mod k 2) 1) (sl (Nat.div k 2) λl=>K (.node x l r)) (akv (Nat.sub (Nat.div k 2) 1) λr=>K (.node x l r)))) t
def bk.Et(t:bk α)(off n:Nat):(List α->Option R)->Option R:=@Nat.rec (λ_=>Nat->(List α->Option R)->Option R) (λ_ K=>K []) (λ_ aQ off K=>bu (t.get off) none λv=>aQ (Nat.add off 1) λl=>K (v::l)) n off
def bk.yf(l:List α)(t:bk α)(off:Nat)(K:bk α->R):R:=@List.rec α (λ_=>bk α->Nat->R) (λt _=>K t) (λv _ aQ t off=>t.nL (some v) off λt=>aQ t (Nat.add off 1)) l t off
def bk.bare:Nat->bk α
 |0=>.nil| n+1=>.node none (bk.bare n) (bk.bare n)
end
inductive aq where
 |b(x:Bool) | i (k:IntKind) (n:Int) | s (l:List UInt8)| pn | p (id off:Nat) | g (n off:Nat)| sn | sl (id off n c:Nat) | sx (id off e n:Nat) | gs (g off n c:Nat) | so| mn | m (id:Nat)| f (g:Nat) (l r:List aq) | y (id:Nat) | fn| ni | Hy (t:Nat) (v:aq)| t (l:List aq) | a (l:List aq)
def aq.cells:aq->List aq
 | .a l=>l| v=>[v]
def aq.one:aq->Bool
 | .a _ | .t _=>false| _=>true
def Hz:Value->Option aq
 | .bool x=>some (.b x)| .int k n=>some (.i k n)| .string q=>some (.s q.data.toList)| .pointer none=>some .pn| .slice none 0 0=>some .sn| .map none=>some .mn| .nilFunc=>some .fn| .nilIface=>some .ni| _=>none
def yg:List Value->Option (List aq)
 |[]=>some []
 |v::vs=>match Hz v,yg vs with
  |some x,some l=>some (x::l)| _,_=>none
def Eu:Value->Option aq
 | .agg cs=>match yg cs.toList with
  |some l=>some (.a l)| none=>none
 |v=>Hz v
def aq.nat:aq->Option Nat
 | .i _ (.ofNat n)=>some n| _=>none
inductive fF where
 |cells(cs:bk aq)(T fK:Nat)| map (es:List (aq×aq))| loop (busy:Bool) (n:Nat) (an:bk aq) (ps:List Nat) (fi body:Code)| done (c:Code) (n:Nat) (an:bk aq) (ps:List Nat) (fi body:Code)
structure bA where
 t:bk fF
 n:Nat
def sN:Int->Int->Bool
 | .ofNat a,.ofNat b=>Nat.beq a b| .negSucc a,.negSucc b=>Nat.beq a b| _,_=>false
def Cb:Int->Int->Bool
 | .ofNat a,.ofNat b=>Nat.ble a b| .negSucc a,.negSucc b=>Nat.ble b a| .negSucc _,.ofNat _=>true| .ofNat _,.negSucc _=>false
def Di(a b:Int):Bool:=!Cb b a
def Qn(op:BinOp)(x y:Int):Option Bool:=match op with
 | .eql=>some (sN x y)| .neq=>some (!sN x y)| .lss=>some (Di x y)| .leq=>some (Cb x y)| .gtr=>some (Di y x)| .geq=>some (Cb y x)| _=>none
def Le:IntKind->Nat
 | .i8=>127 | .i16=>32767 | .i32=>2147483647 | .i64=>9223372036854775807| .u8=>255 | .u16=>65535 | .u32=>4294967295 | .u64=>18446744073709551615
def wJ(k:IntKind):Int->Int
 | .ofNat n=>bif Nat.ble n (Le k)then .ofNat n else k.wrap (.ofNat n)| n=>k.wrap n
def Yw:Int->Int->Int
 | .ofNat a,.ofNat b=>.ofNat (Nat.add a b)| a,b=>a+b
def Qo:Int->Int->Int
 | .ofNat a,.ofNat b=>bif Nat.ble b a then .ofNat (Nat.sub a b)else(.ofNat a:Int) - .ofNat b| a,b=>a-b
def Yx:Int->Int->Int
 | .ofNat a,.ofNat b=>.ofNat (Nat.mul a b)| a,b=>a*b
def Yy:Int->Int->Int
 | .ofNat a,.ofNat b=>.ofNat (Nat.div a b)| a,b=>a.tdiv b
def Yz:Int->Int->Int
 | .ofNat a,.ofNat b=>.ofNat (Nat.mod a b)| a,b=>a.tmod b
def YA:Int->Nat->Int
 | .ofNat a,j=>.ofNat (Nat.mul a (Nat.pow 2 j))| a,j=>a*2^j
def YB:Int->Nat->Int
 | .ofNat a,j=>.ofNat (Nat.div a (Nat.pow 2 j))| a,j=>a.fdiv (2^j)
def Ev(op:BinOp)(k:IntKind)(x y:Int):Option Int:=
 match k,x,y with
 | .u64,.ofNat a,.ofNat b=>
  bif Nat.ble a 18446744073709551615&&Nat.ble b 18446744073709551615 then
   (match op with
   | .and=>some (.ofNat (Nat.land a b))| .or=>some (.ofNat (Nat.lor a b))| .xor=>some (.ofNat (Nat.xor a b))| .andNot=>some (.ofNat (Nat.land a (Nat.sub 18446744073709551615 b)))| _=>none)
  else none
 |_,_,_=>A4 op k x y
def Qp(a b:UInt8):Bool:=Nat.beq a.toNat b.toNat
def va:List UInt8->List UInt8->Bool
 |[],[]=>true| a::l,b::m=>bif Qp a b then va l m else false| _,_=>false
def Ew:aq->aq->Option Bool
 | .b x,.b w=>some (x == w)| .i k x,.i l w=>bX (IntKind.lI k l) (some (sN x w)) none| .s x,.s w=>some (va x w)| _,_=>none
def YC:List aq->List aq->Option Bool
 |[],[]=>some true
 |x::l,w::m=>match Ew x w with
  |some true=>YC l m
  |some false=>(match YC l m with
   |some _=>some false| none=>none)
  |none=>none
 |_,_=>none
def axc:aq->aq->Option Bool
 | .pn,.pn=>some true| .pn,.p _ _=>some false| .p _ _,.pn=>some false| .pn,.g _ _=>some false| .g _ _,.pn=>some false| _,_=>none
def Qq(op:BinOp)(k e4:IntKind)(a b:Int):Option aq:=match op with
 | .shl=>(match b with
  | .ofNat j=>some (.i k (wJ k (YA a (bX (Nat.ble j k.bits) j k.bits))))| _=>none)
 | .shr=>(match b with
  | .ofNat j=>some (.i k (YB a (bX (Nat.ble j k.bits) j k.bits)))| _=>none)
 | .add=>bX (IntKind.lI k e4) (some (.i k (wJ k (Yw a b)))) none| .sub=>bX (IntKind.lI k e4) (some (.i k (wJ k (Qo a b)))) none| .mul=>bX (IntKind.lI k e4) (some (.i k (wJ k (Yx a b)))) none| .quo=>bX (IntKind.lI k e4) (bX (sN b 0) none (some (.i k (wJ k (Yy a b))))) none| .rem=>bX (IntKind.lI k e4) (bX (sN b 0) none (some (.i k (Yz a b)))) none| .and=>bX (IntKind.lI k e4) (bu (Ev .and k a b) none λr=>some (.i k r)) none| .or=>bX (IntKind.lI k e4) (bu (Ev .or k a b) none λr=>some (.i k r)) none| .xor=>bX (IntKind.lI k e4) (bu (Ev .xor k a b) none λr=>some (.i k r)) none| .andNot=>bX (IntKind.lI k e4) (bu (Ev .andNot k a b) none λr=>some (.i k r)) none| op=>bX (IntKind.lI k e4) (bu (Qn op a b) none λr=>some (.b r)) none
def Qr(op:BinOp)(a b:List UInt8):Option aq:=match op with
 | .eql=>some (.b (va a b))| .neq=>some (.b (bX (va a b) false true))| .add=>bX (Nat.ble (Nat.add a.length b.length) 9223372036854775807) (some (.s (a++b))) none| _=>none
def Qs(op:BinOp)(cS:Option dH)(a b:Bool):Option aq:=match cS with
 |some { bL:=.bool,.. }=>
  (match op with
  | .eql=>some (.b (a == b))| .neq=>some (.b (!(a == b)))| _=>none)
 |_=>none
def Ex(agg:Bool)(l:List aq):Option aq:=bif agg then some (.a l)else match l with
 |[v]=>some v| _=>none
def Cc:Nat->List aq->Option (List aq)
 |0,_=>some []| _+1,[]=>none
 |n+1,v::l=>match Cc n l with
  |some r=>some (v::r)| none=>none
def Cd{α:Type}:List α->Nat->List α
 |[],_=>[]| v::l,n=>bif Nat.beq n 0 then v::l else Cd l (Nat.sub n 1)
def zY(E:Env)(t o:Nat)(l:List aq):Option aq:=bu (E t) none λi=>bX (Nat.beq i.size 0) none <| bu (Cc i.size (Cd l o)) none λr=>Ex i.bL.agg r
def Ce(F:Nat->aq->aq->Option Bool)(E:Env)(l m:List aq):List (Nat×Nat)->Option Bool
 |[]=>some true|(t,o)::r=>bu (zY E t o l) none λx=>bu (zY E t o m) none λy=>bu (F t x y) none λb=>bX b (Ce F E l m r) (some false)
def YD(P:Program)(t:Nat):Bool:=match P.underlying t with
 |some (.struct et)=>!P.stoodInHeld t&&et.toList.all λf=>decide (f.name ≠ "_")
 |_=>false
def yh(P:Program)(E:Env):Nat->Nat->aq->aq->Option Bool
 |0,_,_,_=>none
 |d+1,t,x,y=>bu (E t) none λi=>match i.bL,x,y with
  | .bool,.b a,.b b=>some (a == b)| .int _,.i k a,.i e4 b=>bX (IntKind.lI k e4) (some (sN a b)) none| .string,.s a,.s b=>some (va a b)| .struct et,.a l,.a m=>bX (YD P t) (Ce (yh P E d) E l m et) none| .array n e,.a l,.a m=>bu (E e) none λaB=>Ce (yh P E d) E l m ((List.range n).map λi=>(e,i*aB.size))
  |_,_,_=>none
def HA(P:Program)(E:Env)(op:BinOp)(t:Nat)(l m:List aq):Option aq:=bX (P.eqGuardType P.depth t) none (bu (yh P E 8 t (.a l) (.a m)) none λb=>match op with
 | .eql=>some (.b b)| .neq=>some (.b (!b))| _=>none)
def Qt:aq->Option Bool
 | .sn=>some true| .sl .. | .sx .. | .gs .. | .so=>some false| _=>none
def Qu:aq->Option Bool
 | .pn=>some true| .p .. | .g ..=>some false| _=>none
def Lf(op:BinOp)(b:Bool):Option aq:=match op with
 | .eql=>some (.b b)| .neq=>some (.b (!b))| _=>none
def Qv(P:Program)(E:Env)(op:BinOp)(t:Nat)(x y:aq):Option aq:=
 match x,y with
 | .i k a,.i e4 b=>Qq op k e4 a b| .s a,.s b=>Qr op a b| .b a,.b b=>Qs op (E t) a b| .a l,.a m=>HA P E op t l m
 |x,.sn=>bu (E t) none λi=>(match i.bL with
  | .slice _=>bu (Qt x) none λb=>Lf op b
  |_=>none)
 |x,.pn=>bu (E t) none λi=>(match i.bL with
  | .pointer _=>bu (Qu x) none λb=>Lf op b
  |_=>none)
 |_,_=>none
def wK{α:Type}:List α->Nat->Option α
 |[],_=>none| v::l,n=>bif Nat.beq n 0 then some v else wK l (Nat.sub n 1)
def yi:List aq->Nat->List aq->Option (List aq)
 |cs,0,[]=>some cs
 |_::cs,0,v::vs=>match yi cs 0 vs with
  |some r=>some (v::r)| none=>none
 |c::cs,n+1,vs=>match yi cs n vs with
  |some r=>some (c::r)| none=>none
 |[],_,_=>none
def zZ(place:Nat->Option (Nat×Nat)):List aq->List (Nat×aq)->Option (List aq)
 |cells,[]=>some cells
 |cells,(i,v)::bm=>match place i with
  |none=>none
  |some (off,size)=>bif Nat.beq v.cells.length size then(match yi cells off v.cells with
   |some cs=>zZ place cs bm| none=>none)else none
def dq(an:bk aq):Operand->Option aq
 | .tmp t=>an.get t| .const v=>Eu v| .global g=>some (.g g 0)| .func f=>some (.f f [] [])
def n9(an:bk aq):List Operand->Option (List aq)
 |[]=>some []
 |x::xs=>match dq an x,n9 an xs with
  |some v,some l=>some (v::l)| _,_=>none
def Ey(an:bk aq):List (Nat×Operand)->Option (List (Nat×aq))
 |[]=>some []
 |(i,x)::xs=>match dq an x,Ey an xs with
  |some v,some l=>some ((i,v)::l)| _,_=>none
abbrev GT:=Nat->Option (bk aq)
def tQ{R:Type}(G:GT)(m:bk fF)(x:aq)(n:Nat)(K:List aq->Option R):Option R:=match x with
 | .p id off=>(match m.get id with
  |some (.cells cs _ fK)=>bif Nat.ble (Nat.add off n) fK then cs.Et off n K else none| _=>none)
 | .g g off=>(match G g with
  |some cs=>cs.Et off n K| none=>none)
 |_=>none
def HB(x:aq)(n:Nat):Option aq:=match x with
 | .p id off=>some (.p id (Nat.add off n))| .g g off=>some (.g g (Nat.add off n))| _=>none
def Lg(x:aq)(j sz:Nat):Option aq:=match x with
 | .sl id off n _=>bif Nat.blt j n then some (.p id (Nat.add off (Nat.mul j sz)))else none| .sx id off _ n=>bif Nat.blt j n then some (.p id (Nat.add off (Nat.mul j sz)))else none| .gs g off n _=>bif Nat.blt j n then some (.g g (Nat.add off (Nat.mul j sz)))else none| _=>none
def wL:aq->Option Nat
 | .sn | .so=>some 0| .sl _ _ n _ | .sx _ _ _ n | .gs _ _ n _=>some n| _=>none
def sO(v:aq):Option Nat:=match v with
 | .s l=>some l.length| v=>wL v
def Qw(x:aq)(sz l:Nat)(h:Option Nat):Option aq:=match x with
 | .sn=>bif Nat.beq l 0&&Nat.beq (h.getD 0) 0 then some .sn else none
 | .sl id off n c=>let h:=h.getD n
  bif Nat.ble l h&&Nat.ble h c then bif Nat.beq c l then some (.sl id off (Nat.sub h l) 0)else some (.sl id (Nat.add off (Nat.mul l sz)) (Nat.sub h l) (Nat.sub c l))else none
 | .sx id off e n=>let h:=h.getD n
  bif Nat.ble l h&&Nat.ble h n then(bif Nat.beq l 0||Nat.blt l n then some (.sx id (Nat.add off (Nat.mul l sz)) (Nat.add e l) (Nat.sub h l))else some .so)else none
 |_=>none
def Cf(o:Option (Option aq)):Option (Option Nat):=match o with
 |none=>some none
 |some (some v)=>(match v.nat with
  |some n=>some (some n)| none=>none)
 |some none=>none
def Qx(l:List UInt8)(lo hi:Nat):List UInt8:=(Cd l lo).take (Nat.sub hi lo)
def YE(c a b:Option aq):Option aq:=match c,a,b with
 |some (.b c),some u,some v=>some (bX c u v)| _,_,_=>none
def YF(op:UnOp)(x:Option aq):Option aq:=match op,x with
 | .not,some (.b b)=>some (.b (bX b false true))| .neg,some (.i k n)=>some (.i k (wJ k (0-n)))| _,_=>none
def YG(P:Program)(E:Env)(op:BinOp)(t:Nat)(x y:Option aq):Option aq:=bu x none λx=>bu y none λy=>Qv P E op t x y
def YH(G:GT)(m:bk fF)(i:Option dH)(x:Option aq):Option aq:=bu i none λi=>bu x none λx=>tQ G m x i.size λl=>Ex i.bL.agg l
def YI(x:Option aq):Option aq:=match x with
 |some (.p id off)=>some (.p id off)| some (.g g off)=>some (.g g off)| _=>none
def Lh(E:Env)(t i:Nat):Option (Nat×dH):=match E t with
 |some { bL:=.struct et,.. }=>(match wK et i with
  |some (fA,off)=>(match E fA with
   |some iw=>some (off,iw)| none=>none)
  |none=>none)
 |_=>none
def YJ(r:Option (Nat×dH))(x:Option aq):Option aq:=bu r none λr=>bu x none λx=>bX (Nat.beq r.2.size 0) none (HB x r.1)
def Li(aB:dH)(cs:List aq)(off:Nat):Option aq:=bX (Nat.beq aB.size 0) none <| bu (Cc aB.size (Cd cs off)) none λl=>Ex aB.bL.agg l
def YK(r:Option (Nat×dH))(x:Option aq):Option aq:=match r,x with
 |some (off,iw),some (.a cs)=>Li iw cs off| _,_=>none
def Qy(E:Env)(t:Nat):Option (Option Nat×dH):=match E t with
 |some { bL:=.slice e,.. }=>(match E e with
  |some aB=>some (none,aB)| none=>none)
 |some { bL:=.array n e,.. }=>(match E e with
  |some aB=>some (some n,aB)| none=>none)
 |_=>none
def YL(r:Option (Option Nat×dH))(x i:Option aq):Option aq:=bu r none λr=>bu x none λx=>bu i none λi=>bu i.nat none λj=>
 bu r.1 (Lg x j r.2.size) λn=>bX (Nat.blt j n) (HB x (Nat.mul j r.2.size)) none
def Qz(l:List UInt8)(j:Nat):Option aq:=bu (wK l j) none λb=>some (.i .u8 (.ofNat b.toNat))
def YM(cs:List aq)(j n:Nat)(aB:dH):Option aq:=bX (Nat.beq (Nat.mul n aB.size) cs.length&&Nat.blt j n) (Li aB cs (Nat.mul j aB.size)) none
def HC(E:Env)(t:Nat)(x i:Option aq):Option aq:=match E t,x,i with
 |some { bL:=.string,.. },some (.s l),some i=>bu i.nat none λj=>Qz l j
 |some { bL:=.array n e,.. },some (.a cs),some i=>bu (E e) none λaB=>bu i.nat none λj=>YM cs j n aB
 |_,_,_=>none
def HD(o:Option (List aq)):Option aq:=bu o none λl=>some (.a l)
def YN(E:Env)(t:Nat)(ps:Option (List (Nat×aq))):Option aq:=match E t,ps with
 |some i,some vs=>bu (yg i.zero) none λz=>(match i.bL with
  | .struct et=>bX (F8 E et) (HD (zZ (places E et) z vs)) none| .array _ e=>bu (E e) none λaB=>HD (zZ (λj=>some (j*aB.size,aB.size)) z vs)
  |_=>none)
 |_,_=>none
def YO(f:Fn)(et cs:Option (List aq)):Option aq:=match f,et,cs with
 | .func g,some et,some cs=>some (.f g et cs)| _,_,_=>none
def QA(aB:dH)(x:aq)(lo hi:Option Nat):Option aq:=match lo,hi with
 |none,none=>(match x with
  | .sn | .sl .. | .sx .. | .so=>some x| _=>none)
 |lo,hi=>Qw x aB.size (lo.getD 0) hi
def QB(l:List UInt8)(lo hi:Option Nat):Option aq:=match lo,hi with
 |none,none=>some (.s l)| lo,hi=>bX (Nat.ble (lo.getD 0) (hi.getD l.length)&&Nat.ble (hi.getD l.length) l.length) (some (.s (Qx l (lo.getD 0) (hi.getD l.length)))) none
def HE(E:Env)(t:Nat)(x:Option aq)(lo hi:Option (Option Nat)):Option aq:=match E t,x,lo,hi with
 |some { bL:=.slice e,.. },some x,some lo,some hi=>bu (E e) none λaB=>QA aB x lo hi
 |some { bL:=.string,.. },some (.s l),some lo,some hi=>QB l lo hi| _,_,_,_=>none
def YP(x:Option aq)(i:Nat):Option aq:=match x with
 |some (.t vs)=>wK vs i| _=>none
def YQ(E:Env)(s d:Nat)(x:Option aq):Option aq:=match E s,E d,x with
 |some _,some { bL:=.int k,.. },some (.i _ n)=>some (.i k (wJ k n))| _,_,_=>none
def Lj(o:Option Nat):Option aq:=bu o none λn=>some (.i .i64 (.ofNat n))
def YR(E:Env)(fb:List Nat)(l:Option (List aq)):Option aq:=match fb,l with
 |[t],some [v]=>(match E t,v with
  |some { bL:=.slice _,.. },v=>Lj (wL v)| some { bL:=.string,.. },.s l=>Lj (some l.length)| some { bL:=.array n _,.. },_=>Lj (some n)| _,_=>none)
 |_,_=>none
def YS(l:Option (List aq)):Option aq:=match l with
 |some [.i k a,.i _ b]=>some (.i k (bX (Cb a b) b a))| _=>none
def YT(l:Option (List aq)):Option aq:=match l with
 |some [.i k a,.i _ b]=>some (.i k (bX (Cb a b) a b))| _=>none
def YU(E:Env)(fb:List Nat)(l:Option (List aq)):Option aq:=match fb,l with
 |[t],some [.sl _ _ _ c]=>(match E t with
  |some { bL:=.slice _,.. }=>some (.i .i64 (.ofNat c))| _=>none)
 |_,_=>none
def YV(l:Option (List aq)):Option aq:=match l with
 |some [.sn]=>some .pn| some [.sl id off n c]=>bX (Nat.beq c 0) none (some (.p id off))| some [.sx id off e n]=>bX (Nat.beq n 0) none (some (.p id off))| _=>none
def QC(E:Env)(b:Builtin)(fb:List Nat)(l:Option (List aq)):Option aq:=match b with
 | .len=>YR E fb l| .max=>YS l| .min=>YT l| .cap=>YU E fb l| .unsafeSliceData=>YV l| _=>none
def QD(P:Program)(E:Env)(G:GT)(m:bk fF)(op:Op)(an:bk aq):Option aq:=
 match op with
 | .move x=>dq an x| .assign x=>dq an x| .pick c a b=>YE (dq an c) (dq an a) (dq an b)| .unOp op _ x=>YF op (dq an x)| .binOp op t x y _=>YG P E op t (dq an x) (dq an y)| .load t x=>YH G m (E t) (dq an x)| .nilCheck x=>YI (dq an x)| .fieldAddr t x i=>YJ (Lh E t i) (dq an x)| .field t x i=>YK (Lh E t i) (dq an x)| .indexAddr t x i=>YL (Qy E t) (dq an x) (dq an i)| .index t x i=>HC E t (dq an x) (dq an i)| .build t parts=>YN E t (Ey an parts.toList)| .makeFunc f first captured=>YO f (n9 an first.toList) (n9 an captured.toList)
 | .slice t x lo hi none=>HE E t (dq an x) (Cf (lo.map (dq an))) (Cf (hi.map (dq an)))| .extract x i=>YP (dq an x) i| .convert s d x=>YQ E s d (dq an x)| .call { callee:=.builtin b,args,argTypes }=>QC E b argTypes.toList (n9 an args.toList)| _=>none
def QE(E:Env)(t:Nat)(x hi mx:Option aq):Option aq:=match E t,x,hi,mx with
 |some { bL:=.slice e,.. },some (.sl id off n c),some (.i _ (.ofNat h)),some (.i _ (.ofNat k))=>bu (E e) none λaB=>
  bX (Nat.ble h k&&(Nat.ble k c&&Nat.blt 0 k)) (some (.sl id off h k)) none
 |some { bL:=.slice e,.. },some (.sx id off ba n),some (.i _ (.ofNat h)),some (.i _ (.ofNat k))=>bu (E e) none λaB=>
  bX (Nat.ble h k&&(Nat.ble k n&&Nat.blt 0 k)) (some (.sl id off h k)) none
 |_,_,_,_=>none
def QF(E:Env)(t:Nat)(x lo hi mx:Option aq):Option aq:=match E t,x,lo,hi,mx with
 |some { bL:=.slice e,.. },some (.sl id off n c),some (.i _ (.ofNat l)),some (.i _ (.ofNat h)),some (.i _ (.ofNat k))=>bu (E e) none λaB=>
  bX (Nat.ble l h&&(Nat.ble h k&&(Nat.ble k c&&Nat.blt l k))) (some (.sl id (Nat.add off (Nat.mul l aB.size)) (Nat.sub h l) (Nat.sub k l))) none
 |_,_,_,_,_=>none
def QG(x:Option aq):Option aq:=match x with
 |some (.i .u64 n)=>some (.i .u64 (js n))| _=>none
def vb(P:Program)(E:Env)(G:GT)(m:bk fF)(op:Op)(an:bk aq):Option aq:=
 match op with
 | .unOp .xor t x=>QG (dq an x)| .slice t x (some lo) (some hi) (some mx)=>QF E t (dq an x) (dq an lo) (dq an hi) (dq an mx)| .slice t x none (some hi) (some mx)=>QE E t (dq an x) (dq an hi) (dq an mx)| op=>QD P E G m op an
def rJ{R:Type}(n:Nat)(K:Nat->R):R:=Nat.casesOn (Nat.add n 1) (K 0) K
def YW{R:Type}(n:Int)(K:Int->R):R:=match n with
 | .ofNat n=>rJ n λn=>K (.ofNat n)
 | .negSucc n=>rJ n λn=>K (.negSucc n)
def YX{R:Type}(b:Bool)(K:Bool->R):R:=bX b (K true) (K false)
def QH{R:Type}(v:aq)(K:aq->R):R:=match v with
 | .b x=>YX x λx=>K (.b x)
 | .i k n=>YW n λn=>K (.i k n)
 | .p id off=>rJ off λoff=>K (.p id off)
 | .g id off=>rJ off λoff=>K (.g id off)
 | .sl id off n c=>rJ off λoff=>rJ n λn=>rJ c λc=>K (.sl id off n c)
 | .sx id off e n=>rJ off λoff=>rJ e λe=>rJ n λn=>K (.sx id off e n)
 |v=>K v
def Cg{R:Type}(m:bA)(e:fF)(K:Nat->bA->R):R:=rJ m.n λn=>m.t.nL (some e) n λt=>K n ⟨t,Nat.add n 1⟩
def vc{R:Type}(m:bA)(l:List aq)(T:Nat)(K:Nat->bA->R):R:=bk.yf l .nil 0 λcs=>Cg m (.cells cs T l.length) K
def yj{R:Type}(m:bA)(x:aq)(l:List aq)(K:bA->Option R):Option R:=match x with
 | .p id off=>(match m.t.get id with
  |some (.cells cs T fK)=>bif Nat.ble (Nat.add off l.length) fK&&l.all aq.one then bk.yf l cs off λcs=>m.t.nL (some (.cells cs T fK)) id λt=>K ⟨t,m.n⟩else none
  |_=>none)
 |_=>none
def Ch:Nat->List aq->List aq
 |0,_=>[]| n+1,z=>z++Ch n z
def Ez(i:Option dH):Bool:=match i with
 |some { bL:=.int .u8,.. }=>true| _=>false
def wM(u:Option dH)(aB:dH)(x:aq):Bool:=match u,x with
 |some { bL:=.slice _,.. },.sn=>true| some { bL:=.slice _,.. },.so=>true| some { bL:=.slice _,.. },.sl ..=>true| some { bL:=.slice _,.. },.sx ..=>true| some { bL:=.string,.. },.s _=>Nat.beq aB.size 1| _,_=>false
def EA(G:GT)(m:bk fF)(x:aq)(sz:Nat){R:Type}(K:List aq->Option R):Option R:=match x with
 | .sn | .so=>K []| .sl id off n _ | .sx id off _ n=>tQ G m (.p id off) (Nat.mul n sz) K| .s l=>K (l.map λb=>.i .u8 (.ofNat b.toNat))| _=>none
def QI(G:GT)(m:bA)(id off n c:Nat)(l:List aq)(k sz T:Nat):Option (aq×bA):=
 bX (Nat.ble (Nat.add n k) c) (yj m (.p id (Nat.add off (Nat.mul n sz))) l λm=>some (.sl id off (Nat.add n k) c,m)) (tQ G m.t (.p id off) (Nat.mul n sz) λdI=>vc m (dI++l) T λid m=>some (.sx id 0 0 (Nat.add n k),m))
def QJ(m:bA)(id:Nat)(n:Nat)(cs:bk aq)(fK:Nat)(l:List aq)(k sz T:Nat):Option (aq×bA):=
 bX (Nat.ble (Nat.mul n sz) fK) (m.t.nL none id λt=>bk.yf l cs (Nat.mul n sz) λcs=>Cg ⟨t,m.n⟩ (.cells cs T (Nat.mul (Nat.add n k) sz)) λid m=>some (.sx id 0 0 (Nat.add n k),m)) none
def HF(G:GT)(m:bA)(s:aq)(l:List aq)(k sz bytes T:Nat):Option (aq×bA):=match s with
 | .sn=>bX (Nat.ble (Nat.mul k bytes) 140737488355328&&Nat.ble k 9223372036854775807) (vc m l T λid m=>some (.sx id 0 0 k,m)) none| .sl id off n c=>bX (Nat.ble (Nat.mul (Nat.add n k) bytes) 140737488355328&&Nat.ble (Nat.add n k) 9223372036854775807) (QI G m id off n c l k sz T) none
 | .sx id off e n=>(match m.t.get id with
  |some (.cells cs l8 fK)=>bX ((Nat.beq off 0&&Nat.beq e 0)&&(Nat.beq l8 T&&(Nat.ble (Nat.mul (Nat.add n k) bytes) 140737488355328&&Nat.ble (Nat.add n k) 9223372036854775807))) (QJ m id n cs fK l k sz T) none| _=>none)
 |_=>none
def HG:List aq->List UInt8->Option (List UInt8)
 |[],a5=>some a5.reverse| .i .u8 (.ofNat n)::l,a5=>bif Nat.ble n 255 then HG l (UInt8.ofNat n::a5)else none| _,_=>none
def QK(l:List aq):Option (List UInt8):=HG l []
def HH:aq->List (aq×aq)->Option (Option aq)
 |_,[]=>some none
 |k,(x,v)::l=>match Ew k x with
  |some true=>some (some v)| some false=>HH k l| none=>none
def HI(k v:aq):List (aq×aq)->Option (List (aq×aq))
 |[]=>some [(k,v)]
 |(x,u)::l=>match Ew k x with
  |some true=>some ((k,v)::l)
  |some false=>(match HI k v l with
   |some r=>some ((x,u)::r)| none=>none)
  |none=>none
abbrev lV:=Nat->List aq->bA->Option (aq×bA)
structure gH where
 P:Program
 E:Env
 G:GT
 pr:lV
def YY(i:Option dH)(t:Nat)(x:Option aq):Option (List aq×Nat×Nat×(Nat->aq)):=bu i none λi=>bu x none λv=>bX (Nat.beq v.cells.length i.size) (some (v.cells,t,1,λid=>.p id 0)) none
def YZ(i:Option dH)(t:Nat):Option (List aq×Nat×Nat×(Nat->aq)):=bu i none λi=>bu (yg i.zero) none λz=>some (z,t,1,λid=>.p id 0)
def Y0(E:Env)(t len:Nat)(ps:Option (List (Nat×aq))):Option (List aq×Nat×Nat×(Nat->aq)):=match E t,ps with
 |some { bL:=.slice e,.. },some vs=>bu (E e) none λaB=>bu (yg aB.zero) none λz=>
  bX (Nat.ble (Nat.mul len aB.size) 16777216&&Nat.blt 0 (Nat.mul len aB.size)) (bu (zZ (λj=>some (j*aB.size,aB.size)) (Ch len z) vs) none λcs=>some (cs,e,len,λid=>.sl id 0 len len)) (bX (Nat.beq len 0&&vs.isEmpty) (some ([],e,0,λid=>.sl id 0 0 0)) none)
 |_,_=>none
def Y1(E:Env)(t:Nat)(l c:Option aq):Option (List aq×Nat×Nat×(Nat->aq)):=match E t,l,c with
 |some { bL:=.slice e,.. },some l,some c=>bu (E e) none λaB=>bu l.nat none λn=>bu c.nat none λk=>bu (yg aB.zero) none λz=>
  bX (Nat.ble n k&&(Nat.ble (Nat.mul aB.bytes k) 140737488355328&&Nat.ble k 9223372036854775807)) (some (Ch k z,e,k,λid=>.sl id 0 n k)) none
 |_,_,_=>none
def Ci(E:Env)(o:Oper)(an:bk aq):Option (List aq×Nat×Nat×(Nat->aq)):=
 match o.op with
 | .box t x=>YY (E t) t (dq an x)| .alloc t=>YZ (E t) t| .buildSlice t len parts=>Y0 E t len (Ey an parts.toList)| .makeSlice t l c=>Y1 E t (dq an l) (dq an c)| _=>none
def Lk(i:Option dH)(m:bA)(x y:Option aq):Option (aq×bA):=bu i none λi=>bu x none λx=>bu y none λv=>bX (Nat.beq v.cells.length i.size) (yj m x v.cells λm=>some (.t [],m)) none
def Ll(i:Option dH)(m:bA):Option (aq×bA):=match i with
 |some { bL:=.map k e,.. }=>Cg m (.map []) λid m=>some (.m id,m)
 |_=>none
def Lm(i:Option dH)(v:aq):Bool:=match i,v with
 |some { bL:=.int k,.. },.i e4 _=>IntKind.lI k e4| some { bL:=.string,.. },.s _=>true| _,_=>false
def Y2(ok:Bool)(z:aq)(r:Option aq):aq:=bX ok (bu r (.t [z,.b false]) λv=>.t [v,.b true]) (bu r z λv=>v)
def QL(P:Program)(E:Env)(t:Nat)(m:bA)(x y:Option aq)(ok:Bool):Option (aq×bA):=match E t,x,y with
 |some { bL:=.map k e,.. },some (.m id),some y=>bX (Lm (E k) y) (match m.t.get id with
  |some (.map es)=>bu (HH y es) none λr=>bu (P.info? e) none λinf=>bu inf.zero none λz=>bu (Eu z) none λz=>some (Y2 ok z r,m)
  |_=>none) none
 |_,_,_=>none
def HJ(E:Env)(t:Nat)(m:bA)(x y z:Option aq):Option (aq×bA):=match E t,x,y,z with
 |some { bL:=.map k e,.. },some (.m id),some y,some v=>bX (Lm (E k) y) (match m.t.get id with
  |some (.map es)=>bu (HI y v es) none λes=>m.t.nL (some (.map es)) id λt=>some (.t [],⟨t,m.n⟩)
  |_=>none) none
 |_,_,_,_=>none
def Ln(G:GT)(m:bA)(id off n:Nat):Option (aq×bA):=tQ G m.t (.p id off) n λl=>bu (QK l) none λl=>some (.s l,m)
def Lo(Y:gH)(m:bA)(s d:Nat)(x:Option aq):Option (aq×bA):=match Y.E s,Y.E d,x with
 |some { bL:=.slice e,.. },some { bL:=.string,.. },some (.sl id off n _)=>bX (Ez (Y.E e)) (Ln Y.G m id off n) none| some { bL:=.slice e,.. },some { bL:=.string,.. },some (.sx id off _ n)=>bX (Ez (Y.E e)) (Ln Y.G m id off n) none| some { bL:=.slice e,.. },some { bL:=.string,.. },some .sn=>bX (Ez (Y.E e)) (some (.s [],m)) none| _,_,_=>none
def EB:aq->Bool
 | .sn | .so | .sx ..=>true| .sl _ _ n c=>Nat.ble n c| _=>false
def QM(Y:gH)(m:bA)(fb:List Nat)(l:Option (List aq)):Option (aq×bA):=match fb,l with
 |[t,u],some [s,x]=>(match Y.E t with
  |some { bL:=.slice e,.. }=>bu (Y.E e) none λaB=>bX (wM (Y.E u) aB x) (EA Y.G m.t x aB.size λl=>bu (sO x) none λk=>
    bX (Nat.beq k 0) (bX (EB s) (some (s,m)) none) (bX (l.all aq.one) (HF Y.G m s l k aB.size aB.bytes e) none)) none
  |_=>none)
 |_,_=>none
def QN(Y:gH)(m:bA)(fb:List Nat)(l:Option (List aq)):Option (aq×bA):=match fb,l with
 |[t,u],some [.sl id off n c,.s q]=>(match Y.E t with
  |some { bL:=.slice e,.. }=>bu (Y.E e) none λaB=>bX (Nat.beq aB.size 1&&Nat.ble q.length n) (yj m (.p id off) (q.map λb=>.i .u8 (.ofNat b.toNat)) λm=>some (.i .i64 (.ofNat q.length),m)) none
  |_=>none)
 |_,_=>none
def QO(Y:gH)(m:bA)(fb:List Nat)(l:Option (List aq)):Option (aq×bA):=match fb,l with
 |[uH,it],some [.pn,.i .i64 (.ofNat 0)]=>some (.s [],m)
 |[uH,it],some [.p id 0,.i .i64 (.ofNat n)]=>(match Y.E uH,m.t.get id with
  |some { bL:=.pointer e,.. },some (.cells cs T fK)=>bu (Y.E e) none λaB=>
   bX (Nat.beq aB.size 1&&(Nat.beq T e&&Nat.blt 0 n)) (tQ Y.G m.t (.p id 0) n λl=>bu (QK l) none λl=>bX (Nat.ble n 9223372036854775807) (m.t.nL none id λt=>some (.s l,⟨t,m.n⟩)) none) none
  |_,_=>none)
 |_,_=>none
def Y3(Y:gH)(m:bA)(b:Builtin)(fb:List Nat)(l:Option (List aq)):Option (aq×bA):=match b with
 | .append=>QM Y m fb l| .copy=>QN Y m fb l| .unsafeString=>QO Y m fb l| _=>none
def QP(Y:gH)(m:bA)(o:Oper)(an:bk aq):Option (aq×bA):=
 match o.op with
 | .store t x y=>bu o.dst (Lk (Y.E t) m (dq an x) (dq an y)) λ_=>none
 | .makeMap t none=>Ll (Y.E t) m
 | .makeMap t (some x)=>(match dq an x with
  |some (.i _ _)=>Ll (Y.E t) m| _=>none)
 | .lookup t x y ok=>QL Y.P Y.E t m (dq an x) (dq an y) ok| .mapUpdate t x y z=>bu o.dst (HJ Y.E t m (dq an x) (dq an y) (dq an z)) λ_=>none
 | .insert t x y z=>bu o.dst (HJ Y.E t m (dq an x) (dq an y) (dq an z)) λ_=>none
 | .convert s d x=>Lo Y m s d (dq an x)| .call { callee:=.builtin b,args,argTypes }=>Y3 Y m b argTypes.toList (n9 an args.toList)| _=>none
def lj(E:Env)(op:Op):Nat:=match op with
 | .move _ | .assign _ | .pick .. | .binOp .. | .load .. | .nilCheck _ | .fieldAddr .. | .field .. | .indexAddr .. | .index .. | .build .. | .makeFunc .. | .extract .. | .unOp .. | .slice ..=>0| .alloc _ | .box .. | .buildSlice .. | .makeSlice ..=>1
 | .convert s d _=>(match E d with
  |some { bL:=.int _,.. }=>0| _=>2)
 | .call { callee:=.builtin .len,argTypes,.. }=>(match argTypes.toList with
  |[t]=>(match E t with
   |some { bL:=.map ..,.. }=>2| _=>0)
  |_=>2)
 | .call { callee:=.builtin .cap,.. }=>0| .call { callee:=.builtin .max,.. }=>0| .call { callee:=.builtin .min,.. }=>0| .call { callee:=.builtin .unsafeSliceData,.. }=>0| _=>2
def pQ{R:Type}(dst:Option Nat)(an:bk aq)(v:aq)(K:bk aq->Option R):Option R:=bu dst (K an) λd=>QH v λv=>an.nL (some v) d K
def Y4{R:Type}(call:aq->List aq->bA->Option (aq×bA))(dst:Option Nat)(f:Option aq)(l:Option (List aq))(an:bk aq)(m:bA)(K:bk aq->bA->Option R):Option R:=
 bu f none λf=>bu l none λl=>bu (call f l m) none λr=>bX (Nat.ble m.n r.2.n) (pQ dst an r.1 λan=>K an r.2) none
def Y5{R:Type}(dst:Option Nat)(r:Option (List aq×Nat×Nat×(Nat->aq)))(an:bk aq)(m:bA)(K:bk aq->bA->Option R):Option R:=
 bu dst none λd=>bu r none λr=>vc m r.1 r.2.1 λid m=>pQ (some d) an (r.2.2.2 id) λan=>K an m
def Y6{R:Type}(dst:Option Nat)(v:Option aq)(an:bk aq)(m:bA)(K:bk aq->bA->Option R):Option R:=
 bu v none λv=>pQ dst an v λan=>K an m
def Y7{R:Type}(dst:Option Nat)(n:Nat)(r:Option (aq×bA))(an:bk aq)(K:bk aq->bA->Option R):Option R:=
 bu r none λr=>bX (Nat.ble n r.2.n) (pQ dst an r.1 λan=>K an r.2) none
def Y8{R:Type}(Y:gH)(k:Nat)(o:Oper)(an:bk aq)(m:bA)(K:bk aq->bA->Option R):Option R:=match k with
 |0=>Y6 o.dst (vb Y.P Y.E Y.G m.t o.op an) an m K| 1=>Y5 o.dst (Ci Y.E o an) an m K| _=>Y7 o.dst m.n (QP Y m o an) an K
def z0{R:Type}(Y:gH)(call:aq->List aq->bA->Option (aq×bA))(o:Oper)(an:bk aq)(m:bA)(K:bk aq->bA->Option R):Option R:=
 match o.op with
 | .call { callee:=.value f,args,.. }=>Y4 call o.dst (dq an f) (n9 an args.toList) an m K| op=>Y8 Y (lj Y.E op) o an m K
def Cj{R:Type}(o:Oper)(an:bk aq)(K:bk aq->Option R):Option R:=match o.dst with
 |none=>K an| some d=>an.nL (some (.t [])) d K
def vd(ops:List Oper)(o:Oper)(an:bk aq):Option Bool:=match o.guard with
 |none=>some true
 |some (j,b)=>match(wK ops j).bind (·.dst)with
  |none=>none
  |some d=>match an.get d with
   |some (.b c)=>some (c == b)| some (.t _)=>some false| _=>none
def EC(Y:gH)(call:aq->List aq->bA->Option (aq×bA))(ops:List Oper)(l:List Oper):bk aq->bA->Option (bk aq×bA):=
 @List.rec Oper (λ_=>bk aq->bA->Option (bk aq×bA)) (λan m=>some (an,m)) (λo _ aQ an m=>bu (vd ops o an) none λw=>bX w (z0 Y call o an m aQ) (Cj o an λan=>aQ an m)) l
def Ck(E:Env)(ops:List Oper)(i:Nat):Nat:=bu (wK ops i) 2 λo=>lj E o.op
def yk(E:Env)(ops:List Oper):List Nat:=(List.range ops.length).filter λi=>Nat.beq (Ck E ops i) 2
def ED(es gT:List Nat)(i:Nat):Nat:=(es.filter λe=>(gT.getD i 0).testBit e).length
def lk(es gT:List Nat)(i:Nat):Nat:=(es.filter λe=>!(gT.getD e 0).testBit i).length
def Y9(E:Env)(ops:List Oper)(es gT:List Nat)(j:Nat):List (Nat×Nat):=((List.range ops.length).filter λi=>!Nat.beq (Ck E ops i) 2&&Nat.beq (ED es gT i) j).map λi=>(i,Ck E ops i)
def Y'(E:Env)(ops:List Oper)(es gT:List Nat):List Nat->Nat->List (Nat×Nat)
 |[],j=>Y9 E ops es gT j| e::l,j=>Y9 E ops es gT j++(e,2)::Y' E ops es gT l (j+1)
def HK(E:Env)(ops:List Oper):List (Nat×Nat):=Y' E ops (yk E ops) (k5 ops) (yk E ops) 0
def wN(ops:List Oper):List (Nat×Nat)->Nat->Bool
 |[],k=>Nat.beq k (2^ops.length-1)
 |(i,_)::l,k=>!k.testBit i&&(match ops[i]? with
  |some o=>Gr o k&&wN ops l (k ||| 2^i)| none=>false)
def Lp(gT:List Nat):List Nat->Bool
 |[]=>true| x::l=>l.all (λy=>(gT.getD y 0).testBit x)&&Lp gT l
def Za(E:Env)(ops:List Oper):Bool:=Bh ops&&(wN ops (HK E ops) 0&&(Lp (k5 ops) (yk E ops)&&(((HK E ops).filter λr=>Nat.beq r.2 2).map (·.1) == yk E ops)))
mutual
def EE:aq->aq->Bool
 | .b x,.b w=>x == w| .i k x,.i l w=>IntKind.lI k l&&sN x w| .s x,.s w=>va x w| .pn,.pn=>true| .p i x,.p j w=>Nat.beq i j&&Nat.beq x w| .g i x,.g j w=>Nat.beq i j&&Nat.beq x w| .sn,.sn=>true| .sl i x n c,.sl j w m d=>Nat.beq i j&&(Nat.beq x w&&(Nat.beq n m&&Nat.beq c d))| .sx i x n c,.sx j w m d=>Nat.beq i j&&(Nat.beq x w&&(Nat.beq n m&&Nat.beq c d))| .gs i x n c,.gs j w m d=>Nat.beq i j&&(Nat.beq x w&&(Nat.beq n m&&Nat.beq c d))| .mn,.mn=>true| .m i,.m j=>Nat.beq i j| .f g l r,.f h m s=>Nat.beq g h&&(wO l m&&wO r s)| .y i,.y j=>Nat.beq i j| .fn,.fn=>true| .ni,.ni=>true| .t l,.t m=>wO l m| .a l,.a m=>wO l m| _,_=>false
def wO:List aq->List aq->Bool
 |[],[]=>true| x::l,w::m=>EE x w&&wO l m| _,_=>false
end
inductive qC where
 |made(i id:Nat)(l:List aq)(T:Nat)| load (i:Nat) (o:Oper) (an:bk aq) (v:aq)
def oQ(Y:gH)(call:aq->List aq->bA->Option (aq×bA))(ops:List Oper):List (Nat×Nat)->bk aq->bA->List bA->List qC->Option (bk aq×bA×List bA×List qC)
 |[],an,m,S,A=>some (an,m,m::S,A)|(i,k)::bm,an,m,S,A=>bu (wK ops i) none λo=>bu (vd ops o an) none λw=>bX (Nat.beq (lj Y.E o.op) k) (bX w (bX (Nat.beq k 0) (bu (vb Y.P Y.E Y.G m.t o.op an) none λv=>pQ o.dst an v λda=>oQ Y call ops bm da m S (bX (qf o.op) (.load i o an v::A) A)) (bX (Nat.beq k 1) (bu o.dst none λd=>bu (Ci Y.E o an) none λr=>vc m r.1 r.2.1 λid m=>pQ (some d) an (r.2.2.2 id) λan=>oQ Y call ops bm an m S (.made i id r.1 r.2.1::A)) (z0 Y call o an m λan m'=>oQ Y call ops bm an m' (m::S) A))) (Cj o an λan=>oQ Y call ops bm an m (bX (Nat.beq k 2) (m::S) S) A)) none
def EF(S:List bA)(lo hi:Nat)(p:bA->Bool):Bool:=((S.drop lo).take (hi+1-lo)).all p
def QQ(Y:gH)(o:Oper)(an:bk aq)(v:aq)(m:bA):Bool:=match vb Y.P Y.E Y.G m.t o.op an with
 |some u=>EE u v| none=>false
def QR(id:Nat)(l:List aq)(T:Nat)(m:bA):Bool:=Nat.blt id m.n&&(match m.t.get id with
 |some (.cells cs l8 fK)=>Nat.beq l8 T&&(Nat.beq fK l.length&&(match cs.Et 0 l.length (λeF=>some eF)with
  |some eF=>wO l eF| none=>false))
 |_=>false)
def QS(Y:gH)(es gT:List Nat)(S:List bA):qC->Bool
 | .made i id l T=>EF S (ED es gT i) (lk es gT i) (QR id l T)| .load i o an v=>EF S (ED es gT i) (lk es gT i) (QQ Y o an v)
def QT(Y:gH)(call:aq->List aq->bA->Option (aq×bA))(ops:List Oper)(an:bk aq)(m:bA):Option (bk aq×bA):=
 bX (Za Y.E ops) (match oQ Y call ops (HK Y.E ops) an m [] []with
  |none=>none| some (an,m,S,A)=>bX (A.all (QS Y (yk Y.E ops) (k5 ops) S.reverse)) (some (an,m)) none) none
def EG{R:Type}:List Nat->List aq->bk aq->(bk aq->Option R)->Option R
 |[],[],an,K=>K an| t::ps,v::vs,an,K=>an.nL (some v) t λan=>EG ps vs an K
 |_,_,_,_=>none
def z1(Y:gH)(an:bk aq)(m:bk fF):List ResultVar->Option (List aq)
 |[]=>some []
 | .tmp t::l=>(match an.get t,z1 Y an m l with
  |some v,some vs=>some (v::vs)| _,_=>none)
 | .cell t ty::l=>(match an.get t,Y.E ty,z1 Y an m l with
  |some x,some i,some vs=>(match tQ Y.G m x i.size λl=>Ex i.bL.agg l with
   |some v=>some (v::vs)| none=>none)
  |_,_,_=>none)
abbrev pR:=sj×bk aq×bA
abbrev tR:=Bool->Nat->Code->bk aq->bA->Option pR
def Zb:List aq->aq
 |[v]=>v| vs=>.t vs
def Lq(Y:gH)(an:bk aq)(m:bA)(bb:List ResultVar):Option (aq×bA):=bu (z1 Y an m.t bb) none λvs=>some (Zb vs,m)
def Zc(Y:gH)(r:Option pR)(bb:List ResultVar):Option (aq×bA):=match r with
 |some (.normal,an,m)=>Lq Y an m bb| some (.ret,an,m)=>Lq Y an m bb| _=>none
def Lr(Y:gH)(rec:tR)(g:Nat)(args:List aq)(m:bA):Option (aq×bA):=
 bu (Y.P.funcs[g]?) none λfn=>bu fn.body none λc=>bX (Nat.ble args.length fn.ntmps) (bk.yf args (bk.bare 12) 0 λan=>Zc Y (rec true fn.ntmps c an m) fn.results.toList) none
def yl(Y:gH)(rec:tR)(g:Nat)(args:List aq)(m:bA):Option (aq×bA):=bu (Y.pr g args m) (Lr Y rec g args m) some
def QU(l:Nat)(e:Option fF)(jump:Option Code)(m:bA):Option (aq×bA):=match e with
 |some (.loop true n m3 ps fi body)=>m.t.nL (some (bu jump (.loop false n m3 ps fi body) λc=>.done c n m3 ps fi body)) l λt=>some (.b jump.isNone,⟨t,m.n⟩)
 |_=>none
def Zd(l:Nat)(r:Option pR):Option (aq×bA):=bu r none λr=>QU l (r.2.2.t.get l) (DC r.1) r.2.2
def QV(rec:tR)(l n:Nat)(body:Code)(e:Option fF)(an:bk aq)(m:bA):Option (aq×bA):=match e with
 |some (.loop false hM m3 ps fi QW)=>m.t.nL (some (.loop true hM m3 ps fi QW)) l λt=>Zd l (rec false n body an ⟨t,m.n⟩)
 |_=>none
def Ze(rec:tR)(l n:Nat)(body:Code)(r:Option pR):Option (aq×bA):=match r with
 |some (.normal,an,m)=>QV rec l n body (m.t.get l) an m| _=>none
def QX(rec:tR)(l:Nat)(args:List aq)(m:bA):Option (aq×bA):=match m.t.get l with
 |some (.loop false n m3 ps fi body)=>EG ps args m3 λan=>Ze rec l n body (rec false n fi an m)
 |_=>none
def Ls(Y:gH)(rec:tR)(f:aq)(args:List aq)(m:bA):Option (aq×bA):=match f with
 | .f g l r=>yl Y rec g (l++(args++r)) m| .y l=>QX rec l args m| _=>none
def QY:Code->Option sj
 | .exit id=>some (.exit id)| .goto l=>some (.goto l)| .ret=>some .ret| _=>none
def HL(r:Option pR)(k:bk aq->bA->Option pR):Option pR:=match r with
 |some (.normal,an,m)=>k an m| r=>r
def Zf(id:Nat)(r:Option pR):Option pR:=match r with
 |some (.exit j,an,m)=>bX (Nat.beq j id) (some (.normal,an,m)) (some (.exit j,an,m))| r=>r
def Lt(r:Option (bk aq×bA)):Option pR:=bu r none λr=>some (.normal,r.1,r.2)
def Zg(v:Option aq)(x y:Option pR):Option pR:=match v with
 |some (.b b)=>bX b x y| _=>none
def HM(rec:tR)(gP:Bool)(n:Nat)(c:Code)(k:Nat):Code->bk aq->bA->Option pR:=@Nat.rec (λ_=>Code->bk aq->bA->Option pR) (λ_ _ _=>none)
 (λ_ aQ x an m=>match rec gP n x an m with
  |some (.goto l,an,m)=>bu (findLabel c l) none λbm=>aQ bm an m
  |r=>r) k
def Zh(l:Nat)(an:bk aq)(r:Option (aq×bA)):Option pR:=bu r none λr=>match r.2.t.get l with
 |some (.loop false ..)=>r.2.t.nL none l λt=>some (.normal,an,⟨t,r.2.n⟩)
 |some (.done c ..)=>bu (QY c) none λex=>r.2.t.nL none l λt=>some (ex,an,⟨t,r.2.n⟩)
 |_=>none
def QZ(Y:gH)(rec:tR)(gP:Bool)(n:Nat)(v:Option aq)(ps:List Nat)(fi body:Code)(an:bk aq)(m:bA):Option pR:=match gP,v with
 |true,some (.f g [] r)=>Cg m (.loop false n an ps fi body) λl m=>Zh l an (Lr Y rec g (.y l::r) m)
 |_,_=>none
def Q0(Y:gH)(f:Nat)(rec:tR):tR:=λgP n c an m=>match c with
 | .skip=>some (.normal,an,m)| .label _=>some (.normal,an,m)| .ret=>some (.ret,an,m)| .exit id=>some (.exit id,an,m)| .goto l=>some (.goto l,an,m)| .seq x y=>HL (rec gP n x an m) (rec gP n y)| .block id c=>Zf id (rec gP n c an m)| .cond c x y=>Zg (dq an c) (rec gP n x an m) (rec gP n y an m)| .loop c=>HL (rec gP n c an m) (rec gP n (.loop c))| .region _ ops false=>Lt (EC Y (Ls Y rec) ops.toList ops.toList an m)| .region _ ops true=>Lt (QT Y (Ls Y rec) ops.toList an m)| .scope c=>HM rec gP n c f c an m| .rangeFunc x ps fi body=>QZ Y rec gP n (dq an x) ps.toList fi body an m| .refuse _=>none
def ll(Y:gH)(f:Nat):tR:=@Nat.rec (λ_=>tR) (λ_ _ _ _ _=>none) (λf aQ=>Q0 Y f aQ) f
end
section
variable{α R:Type}
def ki{α:Type}(b:Bool)(x y:α):bX b x y=bif b then x else y:=by cases b<;>rfl
def ct{α R:Type}{o:Option α}{f:α->Option R}{r:R}(h:bu o none f=some r):∃ v,o=some v/\f v=some r:=by
 cases o with
 |none=>cases h| some v=>exact⟨v,rfl,h⟩
def fV{α:Type}{b:Bool}{x:Option α}{r:α}(h:bX b x none=some r):b=true/\x=some r:=by
 cases b with
 |true=>exact⟨rfl,h⟩| false=>cases h
def z2{α:Type}{b:Bool}{x:Option α}{r:α}(h:bX b none x=some r):b=false/\x=some r:=by
 cases b with
 |false=>exact⟨rfl,h⟩| true=>cases h
def bk.HN(x:Option α)(l r:bk α)(k:Nat):(bk.node x l r).get k=bif Nat.beq k 0 then x else bif Nat.beq (k%2) 1 then l.get (k/2)else r.get (k/2-1):=by show bX _ _ (bX _ _ _)=_;rw[ki,ki];rfl
def bk.oR(v:Option α):∀ (t:bk α) (k:Nat),∃ bi:bk α,(∀ {R:Type} (K:bk α->R),t.nL v k K=K bi)/\∀ j x,bi.get j=some x->(j=k/\v=some x)\/(j≠k/\t.get j=some x)
 | .nil,k=>by
  cases ae:Nat.beq k 0 with
  |true=>
   have:=ea ae;subst this;refine⟨.node v .nil .nil,λK=>rfl,λj x h=>?_⟩;rw[bk.HN]at h;cases ah:Nat.beq j 0 with
   |true=>rw[ah]at h;exact .inl ⟨ea ah,h⟩
   |false=>
    rw[ah]at h;cases hm:Nat.beq (j%2) 1<;>(rw[hm]at h;cases h)
  |false=>refine⟨.nil,λK=>?_,λj x h=>ci⟩;show bX _ _ _=_;rw[ki,ae];rfl
 | .node x l r,k=>by
  cases ae:Nat.beq k 0 with
  |true=>
   have:=ea ae;subst this;refine⟨.node v l r,λK=>rfl,λj y h=>?_⟩;rw[bk.HN]at h |-;cases ah:Nat.beq j 0 with
   |true=>rw[ah]at h;exact .inl ⟨ea ah,h⟩| false=>rw[ah]at h;exact .inr ⟨(λe=>by subst e;cases ah),h⟩
  |false=>
   have la:k≠0:=λe=>by subst e;cases ae
   cases hm:Nat.beq (k%2) 1 with
   |true=>
    have u9:=ea hm;obtain⟨eF,aa,ad⟩:=bk.oR v l (k/2);refine⟨.node x eF r,λK=>?_,λj y h=>?_⟩;·show bX _ _ (bX _ _ _)=_;rw[ki,ki,ae];show(bif Nat.beq (k%2) 1 then _ else _)=_;rw[hm];exact aa _
    ·rw[bk.HN]at h |-;cases ah:Nat.beq j 0 with
     |true=>rw[ah]at h;exact .inr ⟨λe=>by have:=ea ah;omega,h⟩
     |false=>
      rw[ah]at h;have Q1:j≠0:=λe=>by subst e;cases ah
      cases tS:Nat.beq (j%2) 1 with
      |true=>
       have akw:=ea tS;rw[tS]at h;rcases ad _ _ h with⟨e,ak⟩ | ⟨e,ak⟩;·exact .inl ⟨Z,ak⟩
       ·exact .inr ⟨λc2=>e (by rw[c2]),ak⟩
      |false=>rw[tS]at h;exact .inr ⟨(λe=>by subst e;rw[hm]at tS;cases tS),h⟩
   |false=>
    have u9:k%2≠1:=λe=>by rw[e]at hm;cases hm
    obtain⟨v8,aa,ad⟩:=bk.oR v r (k/2-1);refine⟨.node x l v8,λK=>?_,λj y h=>?_⟩;·show bX _ _ (bX _ _ _)=_;rw[ki,ki,ae];show(bif Nat.beq (k%2) 1 then _ else _)=_;rw[hm];exact aa _
    ·rw[bk.HN]at h |-;cases ah:Nat.beq j 0 with
     |true=>rw[ah]at h;exact .inr ⟨λe=>by have:=ea ah;omega,h⟩
     |false=>
      rw[ah]at h;have Q1:j≠0:=λe=>by subst e;cases ah
      cases tS:Nat.beq (j%2) 1 with
      |true=>rw[tS]at h;exact .inr ⟨(λe=>by subst e;rw[hm]at tS;cases tS),h⟩
      |false=>
       have akw:j%2≠1:=λe=>by rw[e]at tS;cases tS
       rw[tS]at h;rcases ad _ _ h with⟨e,ak⟩ | ⟨e,ak⟩;·exact .inl ⟨Z,ak⟩
       ·exact .inr ⟨λc2=>e (by rw[c2]),ak⟩
def bk.EH(t:bk α):∀ (n off:Nat) (K:List α->Option R) (r:R),t.Et off n K=some r->∃ l,l.length=n/\(∀ i,i<n->t.get (off+i)=l[i]?)/\K l=some r
 |0,off,K,r,h=>⟨[],rfl,λi hi=>Z,h⟩
 |n+1,off,K,r,h=>by
  have bd:bu (t.get off) none (λv=>t.Et (off+1) n λl=>K (v::l))=some r:=h;obtain⟨v,ak,bd⟩:=ct bd;obtain⟨l,aa,ad,aj⟩:=bk.EH t n (off+1) _ r bd;refine⟨v::l,WP,λi hi=>?_,aj⟩;cases i with
  |zero=>simpa using ak| succ i=>have:=ad i Z;rw[show off+(i+1)=off+1+i by omega,this];simp
def bk.ym:∀ (l:List α) (t:bk α) (off:Nat),∃ bi:bk α,(∀ {R:Type} (K:bk α->R),bk.yf l t off K=K bi) /\ ∀ j x,bi.get j=some x->(off<=j/\l[j-off]?=some x)\/((j<off\/off+l.length<=j)/\t.get j=some x)
 |[],t,off=>⟨t,λK=>rfl,λj x h=>.inr ⟨d4,h⟩⟩
 |v::l,t,off=>by
  obtain⟨t1,aa,ad⟩:=bk.oR (some v) t off;obtain⟨t2,aj,aJ⟩:=bk.ym l t1 (off+1);refine⟨t2,λK=>(aa _).trans (aj K),λj x h=>?_⟩;rcases aJ j x h with⟨a',bh⟩ | ⟨a',bh⟩;·exact .inl ⟨Z,by rw[show j-off=(j-(off+1))+1 by omega];simpa using bh⟩
  ·rcases ad j x bh with⟨rfl,e⟩ | ⟨e,bW⟩
   ·exact .inl ⟨cc _,by simp at e;simp[e]⟩
   ·exact .inr ⟨by simp only[ep];omega,bW⟩
end
def Q2(n:Nat)(K:Nat->R):rJ n K=K n:=rfl
def akx(n:Int)(K:Int->R):YW n K=K n:=by cases n<;>rfl
def aky(b:Bool)(K:Bool->R):YX b K=K b:=by cases b<;>rfl
def akz(v:aq)(K:aq->R):QH v K=K v:=by
 cases v with
 |b x=>exact aky x λx=>K (.b x)
 |i k n=>exact akx n λn=>K (.i k n)
 |_=>rfl
def Q3(a b:Nat):Nat.beq a b=decide (a=b):=by
 by_cases h:a=b
 ·subst h;simp
 ·rw[hF h];simp[h]
def Lu(a b:Nat):Nat.ble a b=decide (a<=b):=by
 by_cases h:a<=b
 ·rw[Eb h];simp[h]
 ·cases ag:Nat.ble a b with
  |false=>simp[h]| true=>exact absurd (bJ ag) h
def Cl(a b:Int):sN a b=decide (a=b):=by
 cases a<;>cases b<;>simp only[sN,Q3]<;>simp
 omega
def Lv(a b:Int):Cb a b=decide (a<=b):=by
 cases a<;>cases b<;>simp only[Cb]
 ·rw[Lu];simp only[K0];exact Int.ofNat_le.symm
 ·symm;simp only[ss];rename_i a b;have:=Int.negSucc_lt_zero b;have:(0:Int)<=Int.ofNat a:=Hm a;omega
 ·symm;simp only[h3];rename_i a b;have:=Int.negSucc_lt_zero a;have:(0:Int)<=Int.ofNat b:=Hm b;omega
 ·rw[Lu];simp only[K0,Int.negSucc_eq];omega
def akA(a b:Int):Di a b=decide (a<b):=by
 unfold Di;rw[Lv];by_cases h:a<b
 ·simp[h]
 ·simp[h];omega
def akB(op:BinOp)(x y:Int):Qn op x y=NQ op x y:=by cases op<;>simp only[Qn,NQ,Cl,akA,Lv]
def z3(k:IntKind)(n:Int):wJ k n=k.wrap n:=by
 cases n with
 |negSucc n=>rfl
 |ofNat n=>
  simp only[wJ];cases h:Nat.ble n (Le k)with
  |false=>rfl
  |true=>
   have bd:=bJ h;simp only[cF];cases k<;>simp only[Le]at bd<;>simp only[IntKind.wrap,IntKind.signed,IntKind.bits]<;>simp<;>omega
def akC(a b:Int):Yw a b=a+b:=by cases a<;>cases b<;>rfl
def akD(a b:Int):Qo a b=a-b:=by
 cases a<;>cases b<;>try rfl
 rename_i a b;simp only[Qo];cases h:Nat.ble b a with
 |false=>rfl| true=>have:=bJ h;show((a-b:Nat):Int)=(a:Int)-b;omega
def akE(a b:Int):Yx a b=a*b:=by cases a<;>cases b<;>rfl
def akF(a b:Int):Yy a b=a.tdiv b:=by cases a<;>cases b<;>rfl
def akG(a b:Int):Yz a b=a.tmod b:=by cases a<;>cases b<;>rfl
def akH(a:Int)(j:Nat):YA a j=a*2^j:=by
 cases a with
 |negSucc a=>rfl| ofNat a=>show((a*2^j:Nat):Int)=(a:Int)*2^j;simp
def akI(a:Int)(j:Nat):YB a j=a.fdiv (2^j):=by
 cases a with
 |negSucc a=>rfl| ofNat a=>show((a/2^j:Nat):Int)=(a:Int).fdiv (2^j);rw[show(2:Int)^j=((2^j:Nat):Int) by simp];rw[Kf _ (Hm _)];simp
def Zi(j b:Nat):(bif Nat.ble j b then j else b)=min j b:=by
 rw[Lu];by_cases h:j<=b
 ·simp[h,pf h]
 ·simp[h];omega
def z4{a:Nat}(h:a<=18446744073709551615):(BitVec.ofInt IntKind.u64.bits (Int.ofNat a)).toNat=a:=by show(BitVec.ofInt 64 (a:Int)).toNat=a;rw[BitVec.ofInt_natCast,Ec];omega
def wrap64{a:Nat}(h:a<=18446744073709551615):IntKind.u64.wrap (a:Int)=Int.ofNat a:=by show IntKind.u64.wrap (.ofNat a)=_;rw[<-z3];simp only[wJ,Le,Eb h,cF]
def Lw{op:BinOp}{k:IntKind}{x y r:Int}(h:Ev op k x y=some r):A4 op k x y=some r:=by
 unfold Ev at h;split at h
 ·rename_i a b;cases ao:(Nat.ble a 18446744073709551615&&Nat.ble b 18446744073709551615)with
  |false=>rw[ao]at h;cases h
  |true=>
   rw[ao]at h;rw[cC]at ao;have a7:=bJ ao.1;have ag:=bJ ao.2;have En:a<2^64:=by omega
   have Lx:b<2^64:=by omega
   simp only[cF]at h;split at h;·rw[<-h];simp only[A4,Kh,z4 a7,z4 ag];rw[wrap64 (by have:=Nat.and_lt_two_pow a Lx;omega)];rfl
   ·rw[<-h];simp only[A4,BitVec.toNat_or,z4 a7,z4 ag];rw[wrap64 (by have:=Nat.or_lt_two_pow En Lx;omega)];rfl
   ·rw[<-h];simp only[A4,BitVec.toNat_xor,z4 a7,z4 ag];rw[wrap64 (by have:=Nat.xor_lt_two_pow En Lx;omega)];rfl
   ·rw[<-h];have aC:(~~~(BitVec.ofInt IntKind.u64.bits (Int.ofNat b))).toNat=18446744073709551615-b:=by rw[BitVec.toNat_not,z4 ag];rfl
    simp only[A4,Kh,z4 a7,aC];rw[wrap64 (by have:=Nat.and_lt_two_pow a (show 18446744073709551615-b<2^64 by omega);omega)];rfl
   ·cases h
 ·exact h
def akJ(a b:UInt8):Qp a b=decide (a=b):=by unfold Qp;rw[Q3];simp only[K0];exact UInt8.toNat_inj
def EI:∀ (l m:List UInt8),va l m=decide (l=m)
 |[],[]=>by simp[va]
 |[],_::_=>by simp[va]
 |_::_,[]=>by simp[va]
 |a::l,b::m=>by
  simp only[va,akJ,EI l m];by_cases h:a=b;·subst h;simp
  ·simp[h]
def z5{α:Type}:∀ (l:List α) (n:Nat),wK l n=l[n]?
 |[],n=>by simp[wK]
 |v::l,n=>by
  unfold wK;cases n with
  |zero=>rfl| succ n=>exact(z5 l n).trans am
def HO{α:Type}:∀ (l:List α) (n:Nat),Cd l n=l.drop n
 |[],n=>by simp[Cd]
 |v::l,n=>by
  unfold Cd;cases n with
  |zero=>rfl| succ n=>exact(HO l n).trans am
def Zj{n:Nat}{l r:List aq}(h:Cc n l=some r):r=l.take n/\r.length=n:=by
 induction n generalizing l r with
 |zero=>simp[Cc]at h;subst h;simp
 |succ n aQ=>
  cases l with
  |nil=>simp[Cc]at h
  |cons v l=>
   simp only[Cc]at h;split at h;·rename_i q aO;obtain⟨rfl,ad⟩:=aQ aO;cases h;simp at ad |-;omega
   ·cases h
structure Loc where
 b:Nat
 o:Nat
 c:Nat
abbrev bR:=Nat->Option Loc
def bR.le(D bF:bR):Prop:=∀ i a,D i=some a->bF i=some a
mutual
def aV(D:bR):aq->Value->Prop
 | .b x,u=>u=.bool x| .i k n,u=>u=.int k n| .s l,u=>u=.string ⟨l.toArray⟩| .pn,u=>u=.pointer none| .p id off,u=>∃ a,D id=some a/\u=.pointer (some ⟨a.b,a.o+off,none⟩)| .g n off,u=>u=.pointer (some ⟨n,off,none⟩)| .sn,u=>u=.slice none 0 0| .sl id off n c,u=>∃ a,D id=some a/\u=.slice (some ⟨a.b,a.o+off,none⟩) n c| .sx id off e n,u=>∃ a,D id=some a/\e+n<=a.c/\u=.slice (some ⟨a.b,a.o+off,none⟩) n (a.c-e)| .gs n off k c,u=>u=.slice (some ⟨n,off,none⟩) k c| .so,u=>∃ a c,u=.slice (some a) 0 c| .mn,u=>u=.map none| .m id,u=>∃ a,D id=some a/\u=.map (some a.b)| .f g l r,u=>∃ vs ws,bO D l vs/\bO D r ws/\u=.func (.func g) vs.toArray ws.toArray| .y id,u=>∃ a,D id=some a/\u=.func (.yield a.b) #[] #[]| .fn,u=>u=.nilFunc| .ni,u=>u=.nilIface| .Hy t v,u=>∃ x,aV D v x/\u=.iface t x| .t l,u=>∃ vs,bO D l vs/\u=.tuple vs.toArray| .a l,u=>∃ vs,bO D l vs/\u=.agg vs.toArray
def bO(D:bR):List aq->List Value->Prop
 |[],us=>us=[]| v::l,us=>∃ x xs,aV D v x/\bO D l xs/\us=x::xs
end
section
variable{D bF:bR}
mutual
def aV.mono(h:D.le bF):∀ {v:aq} {u:Value},aV D v u->aV bF v u
 | .b _,_,ak | .i _ _,_,ak | .s _,_,ak | .pn,_,ak | .g _ _,_,ak | .sn,_,ak | .gs ..,_,ak | .so,_,ak | .mn,_,ak | .fn,_,ak | .ni,_,ak=>by simpa only[aV]using ak
 | .p ..,_,ak | .sl ..,_,ak | .m _,_,ak | .y _,_,ak=>by simp only[aV]at ak |-;obtain⟨a,aa,ad⟩:=ak;exact⟨a,h _ _ aa,ad⟩
 | .sx ..,_,ak=>by simp only[aV]at ak |-;obtain⟨a,aa,ad⟩:=ak;exact⟨a,h _ _ aa,ad⟩
 | .f _ l r,_,ak=>by simp only[aV]at ak |-;obtain⟨vs,ws,aa,ad,aj⟩:=ak;exact⟨vs,ws,bO.mono h aa,bO.mono h ad,aj⟩
 | .Hy _ v,_,ak=>by simp only[aV]at ak |-;obtain⟨x,aa,ad⟩:=ak;exact⟨x,aV.mono h aa,ad⟩
 | .t l,_,ak=>by simp only[aV]at ak |-;obtain⟨x,aa,ad⟩:=ak;exact⟨x,bO.mono h aa,ad⟩
 | .a l,_,ak=>by simp only[aV]at ak |-;obtain⟨x,aa,ad⟩:=ak;exact⟨x,bO.mono h aa,ad⟩
def bO.mono(h:D.le bF):∀ {l:List aq} {us:List Value},bO D l us->bO bF l us
 |[],_,ak=>by simpa only[bO]using ak
 |v::l,_,ak=>by simp only[bO]at ak |-;obtain⟨x,xs,aa,ad,aj⟩:=ak;exact⟨x,xs,aV.mono h aa,bO.mono h ad,aj⟩
end
def bO.nil:bO D [] []:=by simp[bO]
def bO.cons{v:aq}{l:List aq}{x:Value}{xs:List Value}(h:aV D v x)(k:bO D l xs):bO D (v::l) (x::xs):=by simp only[bO];exact⟨x,xs,h,k,rfl⟩
def bO.kj{v:aq}{l:List aq}{us:List Value}(h:bO D (v::l) us):∃ x xs,aV D v x/\bO D l xs/\us=x::xs:=by simpa only[bO]using h
def bO.nM{us:List Value}(h:bO D [] us):us=[]:=by simpa only[bO]using h
def bO.len:∀ {l:List aq} {us:List Value},bO D l us->us.length=l.length
 |[],_,h=>by rw[h.nM];rfl
 |v::l,_,h=>by obtain⟨x,xs,aa,ad,rfl⟩:=h.kj;simp[bO.len ad]
def bO.get:∀ {l:List aq} {us:List Value} {i:Nat} {v:aq},bO D l us->l[i]?=some v->∃ x,us[i]?=some x/\aV D v x
 |[],_,i,v,h,hi=>by simp at hi
 |w::l,_,i,v,h,hi=>by
  obtain⟨x,xs,aa,ad,rfl⟩:=h.kj;cases i with
  |zero=>simp at hi;subst hi;exact⟨x,rfl,aa⟩| succ i=>simpa using bO.get ad i6
def bO.HP:∀ {l:List aq} {us:List Value},us.length=l.length->(∀ (i:Nat) (v:aq),l[i]?=some v->∃ x,us[i]?=some x/\aV D v x)->bO D l us
 |[],us,az,h=>by have:us=[]:=im pp;subst this;exact .nil
 |w::l,us,az,h=>by
  cases us with
  |nil=>simp at az| cons x xs=>obtain⟨y,aG,aa⟩:=h 0 w rfl;simp at aG;subst aG;exact .cons aa (bO.HP pp λi v hi=>by simpa using h (i+1) v i6)
def bO.append:∀ {l:List aq} {us:List Value} {m:List aq} {ws:List Value},bO D l us->bO D m ws->bO D (l++m) (us++ws)
 |[],_,m,ws,h,k=>by rw[h.nM];exact k
 |w::l,_,m,ws,h,k=>by obtain⟨x,xs,aa,ad,rfl⟩:=h.kj;exact .cons aa (bO.append ad k)
def bO.take:∀ {l:List aq} {us:List Value} (n:Nat),bO D l us->bO D (l.take n) (us.take n)
 |[],_,n,h=>by rw[h.nM];simpa using bO.nil
 |w::l,_,n,h=>by
  obtain⟨x,xs,aa,ad,rfl⟩:=h.kj;cases n with
  |zero=>simpa using bO.nil| succ n=>simpa using bO.cons aa (bO.take n ad)
def bO.drop:∀ {l:List aq} {us:List Value} (n:Nat),bO D l us->bO D (l.drop n) (us.drop n)
 |[],_,n,h=>by rw[h.nM];simpa using bO.nil
 |w::l,us,n,h=>by
  cases n with
  |zero=>simpa using h| succ n=>obtain⟨x,xs,aa,ad,rfl⟩:=h.kj;simpa using bO.drop n ad
def bO.GW{l:List aq}{us:List Value}(h:bO D l us):∀ n,bO D (Ch n l) ((List.replicate n us).flatten)
 |0=>by simpa[Ch]using bO.nil
 |n+1=>by rw[O9,O'];exact h.append (bO.GW h n)
def aV.bool{x:Bool}{u:Value}(h:aV D (.b x) u):u=.bool x:=by simpa only[aV]using h
def aV.int{k:IntKind}{n:Int}{u:Value}(h:aV D (.i k n) u):u=.int k n:=by simpa only[aV]using h
def aV.str{l:List UInt8}{u:Value}(h:aV D (.s l) u):u=.string ⟨l.toArray⟩:=by simpa only[aV]using h
def aV.ptr{id off:Nat}{u:Value}(h:aV D (.p id off) u):∃ a,D id=some a/\u=.pointer (some ⟨a.b,a.o+off,none⟩):=by simpa only[aV]using h
def aV.qD{id off:Nat}{u:Value}(h:aV D (.g id off) u):u=.pointer (some ⟨id,off,none⟩):=by simpa only[aV]using h
def aV.sP{id off n c:Nat}{u:Value}(h:aV D (.sl id off n c) u):∃ a,D id=some a/\u=.slice (some ⟨a.b,a.o+off,none⟩) n c:=by simpa only[aV]using h
def aV.ve{id off e n:Nat}{u:Value}(h:aV D (.sx id off e n) u):∃ a,D id=some a/\e+n<=a.c/\u=.slice (some ⟨a.b,a.o+off,none⟩) n (a.c-e):=by simpa only[aV]using h
def aV.Q4{id off n c:Nat}{u:Value}(h:aV D (.gs id off n c) u):u=.slice (some ⟨id,off,none⟩) n c:=by simpa only[aV]using h
def aV.Ly{u:Value}(h:aV D .so u):∃ a c,u=.slice (some a) 0 c:=by simpa only[aV]using h
def aV.Cm{u:Value}(h:aV D .sn u):u=.slice none 0 0:=by simpa only[aV]using h
def aV.agg{l:List aq}{u:Value}(h:aV D (.a l) u):∃ vs,bO D l vs/\u=.agg vs.toArray:=by simpa only[aV]using h
def aV.Q5{l:List aq}{u:Value}(h:aV D (.t l) u):∃ vs,bO D l vs/\u=.tuple vs.toArray:=by simpa only[aV]using h
def aV.Lz{l:List aq}(h:bO D l vs):aV D (.a l) (.agg vs.toArray):=by simp only[aV];exact⟨vs,h,rfl⟩
def aV.LA{l:List aq}(h:bO D l vs):aV D (.t l) (.tuple vs.toArray):=by simp only[aV];exact⟨vs,h,rfl⟩
def aV.undef:aV D (.t []) undef:=by simp only[aV];exact⟨[],.nil,rfl⟩
def aV.cells{v:aq}{u:Value}(h:aV D v u):bO D v.cells u.cells.toList:=by
 cases v<;>simp only[aq.cells]
 case a l=>obtain⟨vs,aa,rfl⟩:=h.agg;simpa[Value.cells]using aa
 all_goals
  have key:∀ w:Value,(∀ cs,w≠.agg cs)->w.cells.toList=[w]:=λw hw=>by cases w<;>first | rfl | exact(hw _ rfl).elim
  rw[key u ?_];·exact .cons h .nil
  ·rintro cs rfl;simp[aV]at h
def aV.one{v:aq}{u:Value}(h:aV D v u)(aD:v.one=true):u.oneCell'=true:=by
 cases v<;>simp only[aq.one,lE]at aD<;>simp only[aV]at h
 all_goals first
  |(subst h;rfl)|(obtain⟨_,_,rfl⟩:=h;rfl)|(obtain⟨_,_,_,rfl⟩:=h;rfl)|(obtain⟨_,_,_,_,rfl⟩:=h;rfl)
def bO.one{l:List aq}{us:List Value}(h:bO D l us)(aD:l.all aq.one=true):fH us=true:=by refine fN.2 λx ab=>?_;obtain⟨i,hi⟩:=KY ab;have a1:=(iP.1 hi).1;rw[h.len]at a1;obtain⟨y,aG,ak⟩:=h.get (dy a1);rw[hi]at aG;cases aG;exact ak.one (fN.1 aD _ (bK a1))
def aV.Zk{u:Value}{v:aq}(h:Hz u=some v):aV D v u:=by
 unfold Hz at h;split at h<;>cases h<;>simp[aV]
def bO.EJ:∀ {us:List Value} {l:List aq},yg us=some l->bO D l us
 |[],l,h=>by simp only[yg]at h;cases h;exact .nil
 |u::us,l,h=>by
  simp only[yg]at h;split at h;·rename_i x m aa ad;cases h;exact .cons (.Zk aa) (bO.EJ ad)
  ·cases h
def aV.of{u:Value}{v:aq}(h:Eu u=some v):aV D v u:=by
 unfold Eu at h;split at h
 ·split at h
  ·rename_i l az;cases h;have:=bO.EJ (D:=D) az;simpa using aV.Lz this
  ·cases h
 ·exact .Zk h
def LB{agg:Bool}{l:List aq}{v:aq}(h:Ex agg l=some v)(az:bO D l vs):aV D v (pack agg vs):=by
 unfold Ex at h;cases agg with
 |true=>simp only[cF]at h;cases h;exact .Lz az
 |false=>
  simp only[cD]at h;split at h;·cases h;obtain⟨x,xs,aa,ad,rfl⟩:=az.kj;rw[ad.nM];exact aa
  ·cases h
def Q6:∀ {cs:List aq} {off:Nat} {vs r:List aq} {us xs:List Value},yi cs off vs=some r->bO D cs us->bO D vs xs->bO D r (cd us off xs)/\off+xs.length<=us.length
 |cs,0,[],r,us,xs,h,ao,ak=>by simp[yi]at h;subst h;rw[ak.nM];exact⟨by simpa[cd]using ao,am⟩
 |[],0,_::_,r,us,xs,h,ao,ak=>by simp[yi]at h
 |[],_+1,_,r,us,xs,h,ao,ak=>by simp[yi]at h
 |c::cs,0,v::vs,r,us,xs,h,ao,ak=>by
  simp only[yi]at h;split at h
  ·rename_i q aO;cases h;obtain⟨x,us,aa,ad,rfl⟩:=ao.kj;obtain⟨y,xs,aj,aJ,rfl⟩:=ak.kj;obtain⟨bD,cG⟩:=Q6 aO ad aJ;refine⟨?_,by simp at cG |-;omega⟩;have e:cd (x::us) 0 (y::xs)=y::cd us 0 xs:=by simp[cd]
   rw[e];exact .cons aj bD
  ·cases h
 |c::cs,n+1,vs,r,us,xs,h,ao,ak=>by
  simp only[yi]at h;split at h
  ·rename_i q aO;cases h;obtain⟨x,us,aa,ad,rfl⟩:=ao.kj;obtain⟨bD,cG⟩:=Q6 aO ad ak;refine⟨?_,d4⟩;have e:cd (x::us) (n+1) xs=x::cd us n xs:=by simp only[cd,rf,pz,zA,true_and];rw[show n+1+xs.length=(n+xs.length)+1 by omega,Hl]
   rw[e];exact .cons aa bD
  ·cases h
inductive HQ(D:bR):List (Nat×aq)->List (Nat×Value)->Prop
 |nil:HQ D [] []| cons {i v u l us} (h:aV D v u) (k:HQ D l us):HQ D ((i,v)::l) ((i,u)::us)
def LC{place:Nat->Option (Nat×Nat)}:∀ {vs:List (Nat×aq)} {cells r:List aq} {us:List Value} {xs:List (Nat×Value)},zZ place cells vs=some r->bO D cells us->HQ D vs xs -> ∃ bb,qY place us xs=some bb/\bO D r bb
 |[],cells,r,us,_,h,ao,.nil=>by simp only[zZ]at h;cases h;exact⟨us,rfl,ao⟩
 |(i,v)::vs,cells,r,us,_,h,ao,.cons (u:=u) (us:=xs) ak ij=>by
  simp only[zZ]at h;split at h;·cases h
  ·rename_i off size aI;cases ag:Nat.beq v.cells.length size with
   |false=>rw[ag]at h;cases h
   |true=>
    rw[ag]at h;simp only[cF]at h;split at h
    ·rename_i cs lM;obtain⟨aa,ad⟩:=Q6 lM ao ak.cells;obtain⟨bb,aj,aJ⟩:=LC h aa ij;refine⟨bb,?_,aJ⟩;have az:u.cells.size=v.cells.length:=by simpa using ak.cells.len
     simp only[qY,aI,az,ag];rw[show Nat.ble (off+size) us.length=true by rw[Lu,h3];have:=ea ag;simp at ad;omega];exact aj
    ·cases h
end
def gv(D:bR)(x:dx)(v:aq):Prop:=(∃ u,x=.val u/\aV D v u)\/∃ q,v=.b q/\x=.lit q
def gv.val{D:bR}{u:Value}{v:aq}(h:aV D v u):gv D (.val u) v:=.inl ⟨u,rfl,h⟩
def gv.mono{D bF:bR}(dh:D.le bF){x:dx}{v:aq}(h:gv D x v):gv bF x v:=by
 rcases h with⟨u,rfl,h⟩ | ⟨q,rfl,rfl⟩
 ·exact .val (h.mono dh)
 ·exact .inr ⟨q,rfl,rfl⟩
def qE(D:bR)(F:Fr)(an:bk aq):Prop:=∀ t v,an.get t=some v->gv D (F t) v
def jf(D:bR)(F:Fr)(an:bk aq)(xs:List Operand):Prop:=∀ x∈xs,∀ v,dq an x=some v->gv D (dr F x) v
def qE.op{D:bR}{F:Fr}{an:bk aq}(h:qE D F an)(xs:List Operand):jf D F an xs:=λx _ v ak=>by
 cases x with
 |tmp t=>exact h t v ak
 |const c=>
  have k2:Eu c=some v:=ak;cases c with
  |bool q=>
   have:v=.b q:=by simp[Eu,Hz]at k2;exact k2.symm
   exact .inr ⟨q,this,rfl⟩
  |_=>exact .val (.of k2)
 |global g=>
  have:v=.g g 0:=by simpa[dq]using ak.symm
  subst this;exact .val (by simp[aV])
 |func f=>
  have:v=.f f [] []:=by simpa[dq]using ak.symm
  subst this;exact .val (by simp only[aV];exact⟨[],[],.nil,.nil,rfl⟩)
section
variable{D:bR}{F:Fr}{an:bk aq}{xs:List Operand}
def gv.dz{x:Operand}{v:aq}(h:gv D (dr F x) v):∃ u,bG F x=.val u/\aV D v u:=by
 unfold bG Go.V.dz;rcases h with⟨u,h,ak⟩ | ⟨q,rfl,h⟩
 ·rw[h];exact⟨u,rfl,ak⟩
 ·rw[h];exact⟨.bool q,rfl,by simp[aV]⟩
def gv.wP{x:dx}{v:aq}(h:gv D x v)(ak:∀ q,v≠.b q):∃ u,x=.val u/\aV D v u:=by
 rcases h with h | ⟨q,h,_⟩
 ·exact h
 ·exact(ak q h).elim
def jf.bG(h:jf D F an xs){x:Operand}(ab:x∈xs){v:aq}(ak:dq an x=some v):∃ u,bG F x=.val u/\aV D v u:=(h x ab v ak).dz
def jf.mC(h:jf D F an xs):∀ {l:List Operand} {vs:List aq},(∀ x∈l,x∈xs)->n9 an l=some vs->∃ us,mC F l=some us/\bO D vs us
 |[],vs,_,ak=>by simp only[n9]at ak;cases ak;exact⟨[],rfl,.nil⟩
 |x::l,vs,az,ak=>by
  simp only[n9]at ak;split at ak;·rename_i v vs aa ad;cases ak;obtain⟨u,aK,a'⟩:=h.bG (az x am) aa;obtain⟨us,ba,bh⟩:=jf.mC h (λy aG=>az y au') ad;refine⟨u::us,?_,.cons a' bh⟩;show jW (dr F) (x::l)=_;rw[jW];have eu:dz (dr F) x=.val u:=aK;have q2:jW (dr F) l=some us:=ba;rw[eu,q2]
  ·cases ak
def jf.parts(h:jf D F an xs):∀ {l:List (Nat×Operand)} {vs:List (Nat×aq)},(∀ x∈l.map (·.2),x∈xs)->Ey an l=some vs->∃ us,xv F l=some us/\HQ D vs us
 |[],vs,_,ak=>by simp only[Ey]at ak;cases ak;exact⟨[],rfl,.nil⟩
 |(i,x)::l,vs,az,ak=>by
  simp only[Ey]at ak;split at ak;·rename_i v vs aa ad;cases ak;obtain⟨u,aK,a'⟩:=h.bG (az x am) aa;obtain⟨us,ba,bh⟩:=jf.parts h (λy aG=>az y (by simp only[b0,er];exact .inr aG)) ad;refine⟨(i,u)::us,?_,.cons a' bh⟩;show s9 (dr F) ((i,x)::l)=_;rw[s9];have eu:dz (dr F) x=.val u:=aK;have q2:s9 (dr F) l=some us:=ba;rw[eu,q2]
  ·cases ak
end
inductive qF(D:bR):List (aq×aq)->List MapEntry->Prop
 |nil:qF D [] []| cons {k v es e l} (ae:aV D k e.key) (ak:aV D v e.val) (t:qF D es l):qF D ((k,v)::es) (e::l)
def hW(n:Nat):Code->Bool
 | .seq x y=>hW n x&&hW n y| .block _ c=>hW n c| .cond _ x y=>hW n x&&hW n y| .loop c=>hW n c| .scope c=>hW n c| .region _ ops _=>xC n ops| .rangeFunc _ ps fi body=>hW n fi&&(hW n body&&ps.toList.all λt=>Nat.blt t n)| _=>true
structure Zl(D:bR)(busy:Bool)(n:Nat)(an:bk aq)(ps:List Nat)(fi body:Code)(L:Loop):Prop where
 a2:L.state=bif busy then .busy else .ready
 q':L.pending=none
 sz:L.tmps.size=n
 an:∀ t v,an.get t=some v->aV D v (L.tmps.getD t undef)
 ps:L.params.toList=ps
 fi:L.assign=fi
 body:L.body=body
 BE:hW n L.assign=true
 nu:hW n L.body=true
 op:∀ t∈L.params.toList,t<n
inductive lp(D:bR)(E:Env)(M:List aA)(a:Loc):fF->Prop
 |cells{cs:bk aq}{T fK:Nat}(arr:Array Value)(aD:a.o=0)(bc:(⟨a.b,.cells arr T (0,0)⟩:aA)∈M)(az:a.o+fK<=arr.size)(ao:∀ i v,i<fK->cs.get i=some v->∃ x,arr[a.o+i]?=some x/\aV D v x)(ae:∀ i,E T=some i->arr.size=a.o+a.c*i.size)(hm:a.c<=maxLen):lp D E M a (.cells cs T fK)| map {es:List (aq×aq)} (l:List MapEntry) (clock:Nat) (bc:(⟨a.b,.map l.toArray clock⟩:aA)∈M) (he:qF D es l):lp D E M a (.map es)| loop {busy n an ps fi body} (L:Loop) (bc:(⟨a.b,.loop L⟩:aA)∈M) (bZ:Zl D busy n an ps fi body L):lp D E M a (.loop busy n an ps fi body)| done {c n an ps fi body} (L:Loop) (bc:(⟨a.b,.loop L⟩:aA)∈M) (av:L.state=.done) (aI:L.pending=some c):lp D E M a (.done c n an ps fi body)
def qF.mono{D bF:bR}(dh:D.le bF){es:List (aq×aq)}{l:List MapEntry}(h:qF D es l):qF bF es l:=by
 induction h with
 |nil=>exact .nil| cons ae ak t aQ=>exact .cons (ae.mono dh) (ak.mono dh) aQ
def lp.mono{D bF:bR}{E:Env}{M':List aA}{a:Loc}(dh:D.le bF)(bc:∀ x∈M,x.num=a.b->x∈M'){e:fF}(h:lp D E M a e):lp bF E M' a e:=by
 cases h with
 |cells arr ax aa ad aj aJ bD=>exact .cells arr ax (bc _ aa rfl) ad (λi v hi aw=>by obtain⟨x,a',bh⟩:=aj i v hi aw;exact⟨x,a',bh.mono dh⟩) aJ bD| map l clock aa ad=>exact .map l clock (bc _ aa rfl) (ad.mono dh)| loop L aa ad=>exact .loop L (bc _ aa rfl) { ad with an:=λt v au=>(ad.an t v au).mono dh }| done L aa ad aj=>exact .done L (bc _ aa rfl) ad aj
def HR(G:GT)(I:aH):Prop:=∀ g cs,G g=some cs->∃ (arr:Array Value) (T:Nat) (f:Nat×Nat),I g=some (.cells arr T f)/\∀ i v,cs.get i=some v->∃ x,arr[i]?=some x/\∀ D,aV D v x
structure dc(Y:gH)(D:bR)(m:bA)(I:aH)(M:List aA):Prop where
 iL:∀ id e a,m.t.get id=some e->D id=some a->lp D Y.E M a e
 inj:∀ id iM e c2 a bN,m.t.get id=some e->m.t.get iM=some c2->D id=some a->D iM=some bN->a.b=bN.b->id=iM
 jL:∀ id a,D id=some a->id<m.n
 qD:HR Y.G I
section
variable{Y:gH}{D:bR}{m:bA}{I:aH}{M:List aA}{R:Type}
def wQ(h:dc Y D m I M){x:aq}{u:Value}(ab:aV D x u){n:Nat}{K:List aq->Option R}{r:R}(af:tQ Y.G m.t x n K=some r) :
  ∃ aR l vs,u=.pointer (some aR)/\c6 I M aR n vs/\bO D l vs/\K l=some r:=by
 have key:∀ (arr:Array Value) (dJ off:Nat) (l:List aq),l.length=n->dJ+off+n<=arr.size->(∀ i,i<n->∀ v,l[i]?=some v->∃ x,arr[dJ+off+i]?=some x/\aV D v x) ->
   ((arr.toList.drop (dJ+off)).take n).length=n/\bO D l ((arr.toList.drop (dJ+off)).take n):=by
  intro arr dJ off l az dk aw;have cQ:((arr.toList.drop (dJ+off)).take n).length=n:=by simp;omega
  refine⟨cQ,bO.HP (by rw[cQ,az]) λi v hi=>?_⟩;have fv:i<n:=by rw[<-az];exact(iP.1 hi).1
  obtain⟨x,aa,ad⟩:=aw i fv v hi;refine⟨x,?_,ad⟩;rw[l5,b2 fv,oq];simpa using aa
 unfold tQ at af;split at af
 ·rename_i id off;split at af
  ·rename_i cs T fK aw;cases ag:Nat.ble (Nat.add off n) fK with
   |false=>rw[ag]at af;cases af
   |true=>
    rw[ag]at af;have ha:off+n<=fK:=bJ ag;simp only[cF]at af;obtain⟨l,aa,ad,aj⟩:=bk.EH cs n off K r af;obtain⟨a,a7,hu⟩:=ab.ptr;have he:=h.iL _ _ _ aw a7;obtain⟨arr,-,bc,az,ao,-,-⟩:=he;obtain⟨eQ,cZ⟩:=key arr a.o off l aa Z λi hi v ak=>by have:=ao (off+i) v Z (by rw[ad i hi,ak]);rw[<-ux]at this;exact this
    exact⟨_,l,_,hu,⟨rfl,arr,T,(0,0),.inr ⟨_,bc,rfl,rfl⟩,rfl,eQ⟩,cZ,aj⟩
  ·cases af
 ·rename_i g off;split at af
  ·rename_i cs aw;obtain⟨l,aa,ad,aj⟩:=bk.EH cs n off K r af;obtain⟨arr,T,f,bE,ao⟩:=h.qD _ _ aw;have hu:=ab.qD;have eG:∀ i,i<n->∀ v,l[i]?=some v->∃ x,arr[0+off+i]?=some x/\aV D v x:=λi hi v ak=>by obtain⟨x,a',bh⟩:=ao (off+i) v (by rw[ad i hi,ak]);exact⟨x,by simpa using a',bh D⟩
   by_cases aC:n=0;·subst aC;have:l=[]:=im aa;subst this;exact⟨_,[],[],hu,⟨rfl,arr,T,f,.inl bE,am,rfl⟩,.nil,aj⟩
   ·have dk:0+off+n<=arr.size:=by
     have a1:n-1<l.length:=by omega
     obtain⟨x,a',_⟩:=eG (n-1) Z l[n-1] (dy a1);have:=(l4.1 a').1;omega
    obtain⟨eQ,cZ⟩:=key arr 0 off l aa dk eG;simp only[dn]at eQ cZ;exact⟨_,l,_,hu,⟨rfl,arr,T,f,.inl bE,rfl,eQ⟩,cZ,aj⟩
  ·cases af
 ·cases af
end
def akK{k e4:IntKind}(h:IntKind.lI k e4=true):k=e4:=IntKind.Dj h
def LD(l m:List UInt8):decide ((⟨l.toArray⟩:ByteArray)=⟨m.toArray⟩)=decide (l=m):=by
 simp only[K0];constructor
 ·intro h;simpa using h
 ·rintro rfl;rfl
def akL(a b:ByteArray):(a == b)=decide (a=b):=by
 rw[r8];simp only[h3];constructor
 ·intro h
  first | exact eq_of_beq h | exact xL (eq_of_beq (a:=a.data) (b:=b.data) h)
 ·rintro rfl
  first | exact Ky _ | exact Ky a.data
section
variable{P:Program}{E:Env}{D:bR}
def LF(aL:cU P E){t o:Nat}{l:List aq}{x:aq}(h:zY E t o l=some x){us:List Value}(az:bO D l us):∃ u,aV D x u/\∀ w,(part t us.toArray o).run P w=.ok u w:=by
 unfold zY at h;obtain⟨i,aa,h⟩:=ct h;obtain⟨ax,h⟩:=z2 h;have iC:i.size≠0:=λe=>by rw[e]at ax;cases ax
 obtain⟨r,ad,h⟩:=ct h;obtain⟨aK,ba⟩:=Zj ad;rw[HO]at aK;have cQ:=az.len;subst aK;refine⟨_,LB h ((az.drop o).take _),λw=>?_⟩;have:=N2 (aL _ _ aa) (cs:=us.toArray) (off:=o) (by rw[fT,py]at ba;simp;omega) w;simpa using this
def Q7{F:Nat->aq->aq->Option Bool}{l m:List aq}{α β:Type}{pl:α->Nat×Nat}{g:α->β->Sem (ForInStep β)}{cf s1:β}{w:World}:∀ (L:List α) {b:Bool},Ce F E l m (L.map pl)=some b -> (∀ a∈L,∀ x y c,zY E (pl a).1 (pl a).2 l=some x->zY E (pl a).1 (pl a).2 m=some y->F (pl a).1 x y=some c->(g a cf).run P w=.ok (if c then .yield cf else .done s1) w) -> (forIn L cf g).run P w=.ok (if b then cf else s1) w
 |[],b,h,_=>by cases h;simp[db]
 |a::L,b,h,aw=>by
  simp only[b0]at h;unfold Ce at h;obtain⟨x,aa,h⟩:=ct h;obtain⟨y,ad,h⟩:=ct h;obtain⟨c,aj,h⟩:=ct h;simp only[List.forIn_cons,cp];rw[aw a am x y c aa ad aj];rw[ki]at h;cases c with
  |true=>simp only[s7,bY];exact Q7 L h λbN a7=>aw bN (by simp[a7])
  |false=>cases h;simp[bY,db]
theorem Q8(aL:cU P E):∀ (d:Nat) {t:Nat} {x y:aq} {b:Bool} {u v:Value},yh P E d t x y=some b->aV D x u->aV D y v->∀ n,d<=n->∀ w,(Op.equalIn n t u v).run P w=.ok b w
 |0,t,x,y,b,u,v,h,ab,aG,n,aC,w=>by cases h
 |d+1,t,x,y,b,u,v,h,ab,aG,0,aC,w=>by omega
 |d+1,t,x,y,b,u,v,h,ab,aG,n+1,aC,w=>by
  unfold yh at h;obtain⟨i,hi,h⟩:=ct h;obtain⟨qq,fJ,ox⟩:=(aL _ _ hi).fp;rw[Op.equalIn];simp only[cp,run_underlying fJ,bY];split at h
  ·rename_i a bN av _;cases h;have a':qq=.bool:=by cases qq<;>simp_all[fo]
   subst a';rw[ab.bool,aG.bool];rfl
  ·rename_i e4 k a cZ bN av _;obtain⟨aK,h⟩:=fV h;cases h;have a':qq=.int e4:=by cases qq<;>simp_all[fo]
   subst a';rw[ab.int,aG.int];rw[akK aK];have ag:(a == bN)=sN a bN:=by
    rw[Cl];by_cases e:a=bN;·subst e;simp
    ·simp[e]
   simp[ag]
  ·rename_i a bN av _;cases h;have a':qq=.string:=by cases qq<;>simp_all[fo]
   subst a';rw[ab.str,aG.str];show Result.ok _ _=_;rw[EI,<-LD];congr 1;exact akL _ _
  ·rename_i et l m av _;obtain⟨aK,h⟩:=fV h;unfold YD at aK;rw[fJ]at aK;cases qq with
   |struct fields=>
    simp only[cC,xo,fN,h3]at aK;obtain⟨aK,ba⟩:=aK;rw[av]at ox;simp only[fo,F7.struct.injEq]at ox;subst ox;obtain⟨us,aa,rfl⟩:=ab.agg;obtain⟨ws,ad,rfl⟩:=aG.agg;simp only[cp,run_program,bY,aK,lE,mB];rw[<-Array.forIn_toList];rw[Q7 (P:=P) (s1:=⟨some false,⟨⟩⟩) fields.toList h (λf aE x y c Cn nN ao=>by
     obtain⟨p,eQ,cZ⟩:=LF aL Cn aa;obtain⟨q,hq,nA⟩:=LF aL nN ad;have aO:=Q8 aL d ao eQ hq n Z w;simp only[ba f aE,s7,ne_eq,not_false_eq_true,cp,cZ,nA,bY,aO];cases c<;>simp[db])]
    cases b<;>simp[bY,db]
   |_=>cases aK
  ·rename_i len e l m av _;obtain⟨aB,hp,h⟩:=ct h;have a':qq=.array len e:=by cases qq<;>simp_all[fo]
   subst a';obtain⟨us,aa,rfl⟩:=ab.agg;obtain⟨ws,ad,rfl⟩:=aG.agg;simp only[cp,(aL _ _ hp).run_sizeOf,bY,Vu];have af:List.range' 0 ([:len]:Std.Legacy.Range).size=List.range len:=by simp[Std.Legacy.Range.size,Df]
   rw[af];rw[Q7 (P:=P) (s1:=⟨some false,⟨⟩⟩) (List.range len) h (λf aE x y c Cn nN ao=>by
    obtain⟨p,eQ,cZ⟩:=LF aL Cn aa;obtain⟨q,hq,nA⟩:=LF aL nN ad;have aO:=Q8 aL d ao eQ hq n Z w;simp only[cp,cZ,nA,bY,aO];cases c<;>simp[db])]
   cases b<;>simp[bY,db]
  ·cases h
end
section
variable{X:cN}{D:bR}
def Zm(aL:cU X.P X.E){op:BinOp}{t:Nat}{l m:List aq}{v:aq}{x y:Operand}{us ws:List Value}{K:Value->Prop}{O:Prop}(h:HA X.P X.E op t l m=some v)(az:bO D l us)(hm:bO D m ws)(ae:∀ u,aV D v u->K u) :
  fL X.P op t x y (.val (.agg us.toArray)) (.val (.agg ws.toArray)) K O:=by
 unfold HA at h;obtain⟨aw,h⟩:=z2 h;obtain⟨b,aa,h⟩:=ct h;have aO:=Q8 (D:=D) aL 8 aa (u:=.agg us.toArray) (v:=.agg ws.toArray) (by simp only[aV];exact⟨us,az,rfl⟩) (by simp only[aV];exact⟨ws,hm,rfl⟩) Op.maxDepth bv;split at h
 ·cases h;refine .mk _ _ _ rfl rfl (λw=>?_) (ae _ lw);simp only[cp,run_eqGuard_agg (hm:=aw),bY,binOp,Op.equal,aO,db]
 ·cases h;refine .mk _ _ _ rfl rfl (λw=>?_) (ae _ lw);simp only[cp,run_eqGuard_agg (hm:=aw),bY,binOp,Op.equal,aO,db]
 ·cases h
end
def kQ(x y:Int):Int:=IntKind.u64.wrap ((BitVec.ofInt 64 x ||| BitVec.ofInt 64 y).toNat:Int)
def tT(x y:BitVec 64):kQ x.toNat y.toNat=((x ||| y).toNat:Int):=by unfold kQ;rw[B',B',Qd]
def akM(x y:bj):Nat->List Value
 |0=>[.int .u64 x.a.toNat,.int .u64 x.b.toNat,.int .u64 x.c.toNat,.int .u64 x.d.toNat]| 1=>[.int .u64 (kQ x.a.toNat y.a.toNat),.int .u64 x.b.toNat,.int .u64 x.c.toNat,.int .u64 x.d.toNat]| 2=>[.int .u64 (kQ x.a.toNat y.a.toNat),.int .u64 (kQ x.b.toNat y.b.toNat),.int .u64 x.c.toNat,.int .u64 x.d.toNat]| 3=>[.int .u64 (kQ x.a.toNat y.a.toNat),.int .u64 (kQ x.b.toNat y.b.toNat),.int .u64 (kQ x.c.toNat y.c.toNat),.int .u64 x.d.toNat]| _=>[.int .u64 (kQ x.a.toNat y.a.toNat),.int .u64 (kQ x.b.toNat y.b.toNat),.int .u64 (kQ x.c.toNat y.c.toNat),.int .u64 (kQ x.d.toNat y.d.toNat)]
def akN(x y:bj):Spec Tryz.prog 162 [x.val,y.val] I M λr I' M'=>r=(x.or y).val/\I'=I/\M'=M:=by
 refine bU [] a0 Tryz.func162 rfl rfl rfl ?_;intro B ax;refine du.inv (ι:=Nat) (λi=>{ bp:=[(2,.ref 2 0),(4,.ref 4 0),(7,.val y.val),(8,.val (.int .i64 i))],cl:=[(2,akM x y i),(4,bj.zero.cells)],cO:=I,c5:=M }) (λi=>i<=4) (λi=>4-i) ?_ ?_
 ·exact⟨0,am,.refl,dM,.cons rfl (.cons rfl .nil)⟩
 ·intro i hi
  match i,hi with
  |0,_=>refine aZ.mk (λ_=>?_) (λh=>d7);refine cw.mk 0 rfl bv ?_;refine cw.mk 0 rfl bv ?_;refine cw.mk 0 rfl bv ?_;refine be.mk 1 bv ?_;exact⟨1,⟨am,am⟩,.refl,dM,.cons rfl (.cons rfl .nil)⟩| 1,_=>refine aZ.mk (λ_=>?_) (λh=>d7);refine cw.mk 1 rfl bv ?_;refine cw.mk 1 rfl bv ?_;refine cw.mk 1 rfl bv ?_;refine be.mk 2 bv ?_;exact⟨2,⟨am,am⟩,.refl,dM,.cons rfl (.cons rfl .nil)⟩| 2,_=>refine aZ.mk (λ_=>?_) (λh=>d7);refine cw.mk 2 rfl bv ?_;refine cw.mk 2 rfl bv ?_;refine cw.mk 2 rfl bv ?_;refine be.mk 3 bv ?_;exact⟨3,⟨am,am⟩,.refl,dM,.cons rfl (.cons rfl .nil)⟩| 3,_=>refine aZ.mk (λ_=>?_) (λh=>d7);refine cw.mk 3 rfl bv ?_;refine cw.mk 3 rfl bv ?_;refine cw.mk 3 rfl bv ?_;refine be.mk 4 bv ?_;exact⟨4,⟨am,am⟩,.refl,dM,.cons rfl (.cons rfl .nil)⟩| 4,_=>refine aZ.mk (λh=>d7) (λ_=>?_);refine⟨_,_,.refl,?_,rfl,rfl⟩;show Value.agg #[.int .u64 (kQ x.a.toNat y.a.toNat),.int .u64 (kQ x.b.toNat y.b.toNat),.int .u64 (kQ x.c.toNat y.c.toNat),.int .u64 (kQ x.d.toNat y.d.toNat)]=_;rw[tT,tT,tT,tT];rfl
def oS(x y:Int):Int:=IntKind.u64.wrap ((BitVec.ofInt 64 x &&& BitVec.ofInt 64 y).toNat:Int)
def HS(x y:BitVec 64):oS x.toNat y.toNat=((x &&& y).toNat:Int):=by unfold oS;rw[B',B',Qd]
def akO(x y:bj):Nat->List Value
 |0=>[.int .u64 x.a.toNat,.int .u64 x.b.toNat,.int .u64 x.c.toNat,.int .u64 x.d.toNat]| 1=>[.int .u64 (oS x.a.toNat y.a.toNat),.int .u64 x.b.toNat,.int .u64 x.c.toNat,.int .u64 x.d.toNat]| 2=>[.int .u64 (oS x.a.toNat y.a.toNat),.int .u64 (oS x.b.toNat y.b.toNat),.int .u64 x.c.toNat,.int .u64 x.d.toNat]| 3=>[.int .u64 (oS x.a.toNat y.a.toNat),.int .u64 (oS x.b.toNat y.b.toNat),.int .u64 (oS x.c.toNat y.c.toNat),.int .u64 x.d.toNat]| _=>[.int .u64 (oS x.a.toNat y.a.toNat),.int .u64 (oS x.b.toNat y.b.toNat),.int .u64 (oS x.c.toNat y.c.toNat),.int .u64 (oS x.d.toNat y.d.toNat)]
def akP(x y:bj):Spec Tryz.prog 168 [x.val,y.val] I M λr I' M'=>r=(x.and y).val/\I'=I/\M'=M:=by
 refine bU [] a0 Tryz.func168 rfl rfl rfl ?_;intro B ax;refine du.inv (ι:=Nat) (λi=>{ bp:=[(2,.ref 2 0),(4,.ref 4 0),(7,.val y.val),(8,.val (.int .i64 i))],cl:=[(2,akO x y i),(4,bj.zero.cells)],cO:=I,c5:=M }) (λi=>i<=4) (λi=>4-i) ?_ ?_
 ·exact⟨0,am,.refl,dM,.cons rfl (.cons rfl .nil)⟩
 ·intro i hi
  match i,hi with
  |0,_=>refine aZ.mk (λ_=>?_) (λh=>d7);refine cw.mk 0 rfl bv ?_;refine cw.mk 0 rfl bv ?_;refine cw.mk 0 rfl bv ?_;refine be.mk 1 bv ?_;exact⟨1,⟨am,am⟩,.refl,dM,.cons rfl (.cons rfl .nil)⟩| 1,_=>refine aZ.mk (λ_=>?_) (λh=>d7);refine cw.mk 1 rfl bv ?_;refine cw.mk 1 rfl bv ?_;refine cw.mk 1 rfl bv ?_;refine be.mk 2 bv ?_;exact⟨2,⟨am,am⟩,.refl,dM,.cons rfl (.cons rfl .nil)⟩| 2,_=>refine aZ.mk (λ_=>?_) (λh=>d7);refine cw.mk 2 rfl bv ?_;refine cw.mk 2 rfl bv ?_;refine cw.mk 2 rfl bv ?_;refine be.mk 3 bv ?_;exact⟨3,⟨am,am⟩,.refl,dM,.cons rfl (.cons rfl .nil)⟩| 3,_=>refine aZ.mk (λ_=>?_) (λh=>d7);refine cw.mk 3 rfl bv ?_;refine cw.mk 3 rfl bv ?_;refine cw.mk 3 rfl bv ?_;refine be.mk 4 bv ?_;exact⟨4,⟨am,am⟩,.refl,dM,.cons rfl (.cons rfl .nil)⟩| 4,_=>refine aZ.mk (λh=>d7) (λ_=>?_);refine⟨_,_,.refl,?_,rfl,rfl⟩;show Value.agg #[.int .u64 (oS x.a.toNat y.a.toNat),.int .u64 (oS x.b.toNat y.b.toNat),.int .u64 (oS x.c.toNat y.c.toNat),.int .u64 (oS x.d.toNat y.d.toNat)]=_;rw[HS,HS,HS,HS];rfl
def fL.Zn{x y:Operand}{p q:bj}{V:Value->Prop}{other:Prop}(h:V (.bool (decide (p=q)))) :
  fL Tryz.prog .eql 36 x y (.val (.agg #[.int .u64 p.a.toNat,.int .u64 p.b.toNat,.int .u64 p.c.toNat,.int .u64 p.d.toNat])) (.val (.agg #[.int .u64 q.a.toNat,.int .u64 q.b.toNat,.int .u64 q.c.toNat,.int .u64 q.d.toNat])) V other:=by
 refine fL.Km a0 (e:=34) rfl rfl rfl rfl d0 ?_;rw[bj.lI];exact h
def akQ(x y:BitVec 64):sN (x.toNat:Int) (y.toNat:Int)=decide (x=y):=by rw[Cl,<-Ep,r8];simp
def EK(v:α)(x:R)(f:α->R):bu (some v) x f=f v:=rfl
def Zo(a9 mid post:List Value)(k:Nat)(vs:List Value)(h:k+vs.length<=mid.length):cd (a9++(mid++post)) (a9.length+k) vs=a9++(cd mid k vs++post):=by
 unfold cd;have aa:(a9++(mid++post)).take (a9.length+k)=a9++mid.take k:=by rw[Hn,Nat.add_sub_cancel_left,fD Z,Bo Z]
 have ad:(a9++(mid++post)).drop (a9.length+k+vs.length)=mid.drop (k+vs.length)++post:=by rw[ux,Ov,PQ h]
 rw[aa,ad];simp
def akR(f:α->List Value)(size:Nat)(aE:∀ x,(f x).length=size)(l:List α)(i:Nat)(hi:i<l.length)(k:Nat)(vs:List Value)(ae:k+vs.length<=size)(l':α)(ab:cd (f l[i]) k vs=f l') :
  cd (l.flatMap f) (i*size+k) vs=(l.set i l').flatMap f:=by
 have e:l=l.take i++l[i]::l.drop (i+1):=by rw[<-e2 hi,px]
 have aK:l.flatMap f=(l.take i).flatMap f++(f l[i]++(l.drop (i+1)).flatMap f):=by
  calc l.flatMap f=(l.take i++l[i]::l.drop (i+1)).flatMap f:=congrArg _ e
   _=_:=by rw[fS,iA]
 have ba:((l.take i).flatMap f).length=i*size:=by rw[hc f size aE,KX Z]
 rw[aK,<-ba,Zo _ _ _ _ _ (by rw[aE];exact ae),Gy,b2 hi,fS,iA,ab]
def akS{aS:List Value}{j m:Nat}(h:j+vs.length<=m)(hm:m<=aS.length):(cd aS j vs).take m=cd (aS.take m) j vs:=by
 unfold cd;have aa:(aS.take m).take j=aS.take j:=by rw[zh,pf Z]
 have ad:(aS.take m).drop (j+vs.length)=(aS.drop (j+vs.length)).take (m-(j+vs.length)):=by rw[Dy]
 have aj:(aS.take j).length=j:=by rw[fT];omega
 rw[aa,ad,dW,dW,Hn,aj,fD Z,Hn,fD (by omega:vs.length<=m-j)];congr 3;omega
def aT.put(f:α->List Value)(size:Nat)(aE:∀ x,(f x).length=size){l:List α}{e:Nat}(h:os.ok size (l.flatMap f)){i:Nat}(hi:i<l.length)(k:Nat)(ae:k+vs.length<=size)(aa:fH vs=true)(l':α)(ab:cd (f l[i]) k vs=f l')(a9 post:List aA)(bc:M=a9++(os.ar e++post)){g off:Nat}(aw:os.a=some g)(akT:off=i*size+k)
  (gl:∀ (bq:aT),bq.val=os.val->bq.a=os.a->bq.n=os.n->bq.ok size ((l.set i l').flatMap f)->K (a9++(bq.ar e++post))):b4 M ⟨g,off,none⟩ vs K:=by
 have v0:=h.len;rw[hc f size aE]at v0;obtain⟨a,n,c,aS⟩:=os;have az:l.length*size=n*size:=v0;simp only at aw;subst aw;obtain⟨eg,eV,e0,iZ⟩:=h.cap g rfl;simp only at eg eV e0 iZ;have ag:n*size<=c*size:=p' _ eV;have iy:i*size+size<=l.length*size:=by have:=p' size (show i+1<=l.length from hi);rwa [kx,nt]at this
 subst bc;subst akT;refine b4.mk a9 post aS.toArray e rfl rfl ?_ aa ?_
 ·simp only[s5];omega
 ·have:=gl ⟨some g,n,c,cd aS (i*size+k) vs⟩ rfl rfl rfl ⟨?_,(λh=>ci),λei aw=>?_⟩
  ·simpa[aT.ar]using this
  ·rw[hc f size aE,rD];exact az
  ·cases aw;refine⟨?_,eV,e0,?_⟩
   ·simp only[cd,cn,fT,py];omega
   ·simp only;rw[akS Z Z,iZ,akR f size aE l i hi k vs ae l' ab]
def akU(l:List Value)(k:Nat)(v:Value)(h:k<l.length):cd l k [v]=l.set k v:=by rw[Gy,b2 h];simp[cd]
def aT.HT(f:α->List Value)(size:Nat)(aE:∀ x,(f x).length=size){l:List α}{e:Nat}(h:os.ok size (l.flatMap f)){i:Nat}(hi:i<l.length)(l':α)(aa:fH (f l')=true)(a9 post:List aA)(bc:M=a9++(os.ar e++post))(bI:(os.a.map λg=>(⟨g,0,none⟩:Addr))=some aR)
  (gl:∀ (bq:aT),bq.val=os.val->bq.a=os.a->bq.n=os.n->bq.ok size ((l.set i l').flatMap f)->K (a9++(bq.ar e++post))):b4 M (aR.add (i*size)) (f l') K:=by
 obtain⟨g,aw,rfl⟩:∃ g,os.a=some g/\aR=⟨g,0,none⟩:=by
  cases a7:os.a with
  |none=>rw[a7]at bI;cases bI| some g=>rw[a7]at bI;cases bI;exact⟨g,rfl,rfl⟩
 rw[eM (⟨g,0,none⟩:Addr) rfl];refine aT.put f size aE h hi 0 (vs:=f l') (by rw[aE];omega) aa l' ?_ a9 post bc aw am gl;unfold cd;simp[aE]
def aT.EL(f:α->List Value)(size:Nat)(aE:∀ x,(f x).length=size){l:List α}{e:Nat}(h:os.ok size (l.flatMap f)){i:Nat}(hi:i<l.length)(k:Nat)(ae:k+vs.length<=size)(aa:fH vs=true)(l':α)(ab:cd (f l[i]) k vs=f l')(a9 post:List aA)(bc:M=a9++(os.ar e++post))(bI:(os.a.map λg=>(⟨g,0,none⟩:Addr))=some aR)
  (gl:∀ (bq:aT),bq.val=os.val->bq.a=os.a->bq.n=os.n->bq.ok size ((l.set i l').flatMap f)->K (a9++(bq.ar e++post))):b4 M ((aR.add (i*size)).add k) vs K:=by
 obtain⟨g,aw,rfl⟩:∃ g,os.a=some g/\aR=⟨g,0,none⟩:=by
  cases a7:os.a with
  |none=>rw[a7]at bI;cases bI| some g=>rw[a7]at bI;cases bI;exact⟨g,rfl,rfl⟩
 rw[eM (⟨g,0,none⟩:Addr) rfl,eM _ rfl];exact aT.put f size aE h hi k ae aa l' ab a9 post bc aw am gl
def Zp(w:dw){k:Nat}(ae:k<64):IntKind.u64.wrap ((BitVec.ofInt 64 ((w.toNat:Int).fdiv (2^(min k 64))) &&& BitVec.ofInt 64 1).toNat:Int)=bif w.getLsbD k then 1 else 0:=by
 have aC:w.toNat<18446744073709551616:=w.isLt;have eB:min k 64=k:=by omega
 have aK:(w.toNat:Int).fdiv (2^k)=((w.toNat/2^k:Nat):Int):=by rw[Kf _ (by exact Int.le_of_lt (Int.pow_pos bv))];simp
 rw[eB,aK];have ba:(BitVec.ofInt 64 ((w.toNat/2^k:Nat):Int) &&& BitVec.ofInt 64 1).toNat=w.toNat/2^k%2:=by
  have aa:BitVec.ofInt 64 ((w.toNat/2^k:Nat):Int)=BitVec.ofNat 64 (w.toNat/2^k):=(show ∀ m:Nat,BitVec.ofInt 64 (m:Int)=BitVec.ofNat 64 m from λm=>am) _;have ad:BitVec.ofInt 64 1=BitVec.ofNat 64 1:=by decide
  rw[aa,ad,Kh,Ec,Ec];have aj:w.toNat/2^k%2^64=w.toNat/2^k:=Ee (Nat.lt_of_le_of_lt (Nat.div_le_self _ _) aC);rw[aj,show 1%2^64=1 by decide,Nat.and_one_is_mod]
 rw[ba];have cA:IntKind.u64.wrap ((w.toNat/2^k%2:Nat):Int)=((w.toNat/2^k%2:Nat):Int):=by have:w.toNat/2^k%2<2:=Nat.mod_lt _ bv;unfold IntKind.wrap;simp only[IntKind.bits,IntKind.signed];simp;omega
 rw[cA];have ee:w.getLsbD k=w.toNat.testBit k:=rfl;rw[ee,Nat.testBit_eq_decide_div_mod_eq];have:w.toNat/2^k%2<2:=Nat.mod_lt _ bv;by_cases h:w.toNat/2^k%2=1
 ·rw[h];rfl
 ·have ax:w.toNat/2^k%2=0:=by omega
  rw[ax];rfl
def Q9{k:Nat}(ae:k<64):IntKind.u64.wrap (1*2^(min k 64))=((lh k).toNat:Int):=by
 have eB:min k 64=k:=by omega
 have aa:(2:Nat)^k<2^64:=PT bv ae;have e:(lh k).toNat=2^k:=by unfold lh;rw[BitVec.toNat_shiftLeft];simp only[Ec];rw[Nat.shiftLeft_eq,show 1%2^64=1 by decide,nt,Ee aa]
 rw[eB,e,Int.one_mul];have ba:((2:Int)^k)=((2^k:Nat):Int):=by simp
 rw[ba];unfold IntKind.wrap;simp only[IntKind.bits,IntKind.signed];simp;omega
def oT(w:dw):Value:=.int .u64 w.toNat
def Zq{w:dw}{i:Nat}(a1:i<64)(ad:¬ IntKind.u64.wrap ((BitVec.ofInt 64 ((w.toNat:Int).fdiv (2^(min i 64))) &&& BitVec.ofInt 64 1).toNat:Int)=0):w.getLsbD i=true:=by
 have ag:=Zp w a1;cases aw:w.getLsbD i with
 |true=>rfl| false=>rw[aw]at ag;exact absurd ag ad
def Zr{w:dw}{i:Nat}(a1:i<64)(ad:IntKind.u64.wrap ((BitVec.ofInt 64 ((w.toNat:Int).fdiv (2^(min i 64))) &&& BitVec.ofInt 64 1).toNat:Int)=0):w.getLsbD i=false:=by
 have ag:=Zp w a1;cases aw:w.getLsbD i with
 |false=>rfl| true=>rw[aw,ad]at ag;cases ag
def Zs{a b:Int}(h:(!decide (a=b))=true):¬ a=b:=by simpa using h
def Zt{a b:Int}(h:(!decide (a=b))=false):a=b:=by simpa using h
def Zu(w:dw):Spec Tryz.prog 192 [.int .u64 w.toNat] I M0 λv I' M'=>I'=I/\∃ os:aT,os.ok 1 ((bitsOf w 64).map λn:Nat=>Value.int .i64 n)/\v=os.val/\M'=os.ar 3++M0:=by
 refine bU [] a0 Tryz.func192 rfl rfl rfl ?_;intro B ax;refine du.inv (ι:=Nat×aT) (λx=>{ bp:=[(0,.val (.int .u64 w.toNat)),(3,.val x.2.val),(5,.val (.int .i64 x.1))],cO:=I,c5:=x.2.ar 3++M0 }) (λx=>x.1<=64/\x.2.ok 1 ((bitsOf w x.1).map λn:Nat=>Value.int .i64 n)) (λx=>64-x.1) ?_ ?_
 ·exact⟨(0,hL),⟨am,kL 1⟩,.refl,fQ,.nil⟩
 rintro⟨i,os⟩⟨hi,b3⟩;simp only at hi b3;have hX:os.n<=64:=by have aa:=b3.len;rw[bB]at aa;have:=aks w i;omega
 refine aZ.mk (λh=>?_) (λh=>?_)
 rotate_left
 ·have cV:i=64:=by have:¬ (i:Int)<64:=dU h;omega
  rw[cV]at b3;exact⟨_,_,.refl,rfl,os,b3,rfl,rfl⟩
 have a1:i<64:=by have:(i:Int)<64:=cT h;omega
 refine sc.mk i rfl ?_;refine aZ.mk (λad=>?_) (λad=>?_)
 ·have hw:=Zq (w:=w) a1 (Zs ad);refine bQ.mk λb9 mU BR=>?_;refine bC.lU a0 rfl am (e:=3) rfl rfl rfl os b3 rfl (cs:=[.int .i64 i]) rfl rfl rfl [] M0 rfl Z at8 ?_;intro ig lq gq iX;refine be.mk _ (c9 (i:=i) Z) ?_;refine⟨(i+1,ig),⟨⟨a1,?_⟩,ce⟩,.refl,fQ,.nil⟩;simp only;rw[Yu,hw,cR];exact iX
 ·have hw:=Zr (w:=w) a1 (Zt ad);refine be.mk _ (c9 (i:=i) Z) ?_;refine⟨(i+1,os),⟨⟨a1,?_⟩,ce⟩,.refl,fQ,.nil⟩;simp only;rw[Yu,hw,cD,dK];exact b3
end Go.V
