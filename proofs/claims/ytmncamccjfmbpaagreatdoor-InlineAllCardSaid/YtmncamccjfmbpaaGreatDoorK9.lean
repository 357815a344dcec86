/- Part 9 of what the proofs of this seat share: the executor, data in memory, walks.
-/
import Derived.Test.YtmncamccjfmbpaaGreatDoorK8
import Derived.Test.YtmncamccjfmbpaaGreatDoorK7
import Derived.Test.YtmncamccjfmbpaaGreatDoorK5
import Derived.Test.YtmncamccjfmbpaaGreatDoorK2
import Derived.Test.YtmncamccjfmbpaaGreatDoorK4
import Derived.Lib.SliceRun
import Derived.Test.YtmncamccjfmbpaaGreatDoorK6
set_option linter.all false
set_option maxHeartbeats 16000000
set_option maxRecDepth 100000
namespace Go.V
open Go Go.Proofs
def ac2:=@Int.tdiv_eq_ediv_of_nonneg
def Tu:=@List.filter_nil
variable{n pn jl u m b9 c' c size b j b1 cD bK:Nat}{p aw path:List Int}{s:List Bool}{g h:cx}{I J I':aI}{t bm:bR}{T S:aK}{pa a:Option Addr}{x:Operand}{c7 aF:dD}{xs b8 cs:List Value}{Mr M M0:List aD}{os:aX}{ns dP:List an}{r:Int×Int}{X:a1}{v:Value}{rule pass Az dU:Int}{F:List aU}{o:Obj}{K:dA->aI->List aD->Prop}{aS:Addr}
def ph(R:List (List Bool))(i k:Nat):Bool:=m0 R i k&&m0 R k i
def AA{R:List (List Bool)}{i k:Nat}:ph R i k=true ↔ kB R i k:=by unfold ph kB;rw[cB]
def CQ(R:List (List Bool))(n i:Nat):Bool:=(List.range n).all λk=>!ph R i k||decide (i<=k)
def Tv(R:List (List Bool))(n:Nat):List (List Int):=((List.range n).filter (CQ R n)).map λi=>Ak (ph R i) n
def Tw(R:List (List Bool))(i:Nat):∀ (f k:Nat) (p:List Bool) (q:List Int),(j' R i f k p q).2=q++((List.range' k f).filter (ph R i)).map λ(a:Nat)=>(a:Int)
 |0,k,p,q=>by simp[j']
 |f+1,k,p,q=>by
  unfold j';rw[FI,ox];cases h:m0 R i k&&m0 R k i with
  |true=>have bd:ph R i k=true:=h;rw[ca,Tw R i f,bd];simp| false=>have bd:ph R i k=false:=h;rw[b',Tw R i f,bd];simp
def Tx{R:List (List Bool)}{n:Nat}(aW:WJ R n):∀ (f i:Nat) (p:List Bool) (ps:List (List Int)),i+f=n->p.length=n->(∀ a,a<n->(h0 p a ↔ ∃ j,j<i/\kB R j a)) -> v9 R n f i p ps=ps++((List.range' i f).filter (CQ R n)).map λi=>Ak (ph R i) n
 |0,i,p,ps,_,_,_=>by simp[v9]
 |f+1,i,p,ps,hi,aC,jw=>by
  unfold v9;rw[FI,ox];cases ag:p.getD i false with
  |true=>
   obtain⟨ac3,a8,ba⟩:=(jw i (by omega)).1 ag;have lb:CQ R n i=false:=by rw[L4];intro h;unfold CQ at h;rw[fx]at h;have:=h ac3 (g'.2 (by omega));rw[AA.2 ba.symm]at this;simp at this;omega
   rw[ca,lb];refine Tx aW f (i+1) p ps (by omega) aC λa a2=>?_;rw[jw a a2];constructor;·rintro⟨j,aa,ab⟩;exact⟨j,by omega,ab⟩
   ·rintro⟨j,aa,ab⟩;by_cases e:j=i
    ·subst e;exact⟨ac3,a8,aW.trans _ _ _ ba ab⟩
    ·exact⟨j,by omega,ab⟩
  |false=>
   have aqF:¬ h0 p i:=by simpa[h0]using ag
   have dY:∀ j,j<i->¬ kB R j i:=λj ai hm=>aqF ((jw i (by omega)).2 ⟨j,ai,hm⟩);have Mc:∀ a,i<=a->a<n->kB R i a->¬ h0 p a:=λa aa ab ak aJ=>by obtain⟨j,a8,ba⟩:=(jw a ab).1 aJ;exact dY j a8 (aW.trans _ _ _ ba ak.symm)
   obtain⟨dG,eI,eG⟩:=Pq (n:=n) (n-i) i p [] (by omega) aC Mc;have ay:=(Pp R i (n-i) i p []).1;have lb:CQ R n i=true:=by
    unfold CQ;rw[fx];intro k ae;by_cases e:i<=k;·simp[e]
    ·have:ph R i k=false:=by rw[L4];intro h;exact dY k (by omega) (AA.1 h).symm
     simp[this]
   have JY:(j' R i (n-i) i p []).2=Ak (ph R i) n:=by
    rw[Tw,iq];unfold Ak;have af:List.range n=List.range i++List.range' i (n-i):=by rw[w3,w3];have:=List.range'_append (s:=0) (m:=i) (n:=n-i) (step:=1);rw[oy,db]at this;rw[this];congr 1;omega
    have bb:(List.range i).filter (ph R i)=[]:=by rw[Ra];intro k ae h;exact dY k (g'.1 ae) (AA.1 h).symm
    rw[af,BY,bb,iq]
   rw[b',lb,JY];simp only[p2,cb];rw[Tx aW f (i+1) _ _ (by omega) (by rw[ay];exact aC) λa a2=>?_];·simp
   ·rw[dG,jw a a2];constructor
    ·rintro(⟨j,aa,ab⟩ | ⟨aa,ab,ak⟩)
     ·exact⟨j,by omega,ab⟩
     ·exact⟨i,by omega,ak⟩
    ·rintro⟨j,aa,ab⟩;by_cases e:j=i
     ·subst e;by_cases a7:j<=a
      ·exact .inr ⟨a7,a2,ab⟩
      ·exact absurd ab.symm (dY a (by omega))
     ·exact .inl ⟨j,by omega,ab⟩
def ac4{L:List (List Int)}(b4:∀ l∈L,valid L.length l):mw L=Tv (gF L) L.length:=by
 unfold mw Tv;rw[Tx (WK b4) L.length 0 _ _ (by omega) (by simp) λa a2=>?_]
 ·rw[iq,w3]
 ·constructor
  ·intro h;exfalso;simp[h0,bz,a2]at h
  ·rintro⟨j,h,_⟩;omega
def Fj(p:List Int)(s:List Bool):List Bool:=p.foldl (λs i=>s.set i.toNat (decide (1<p.length))) s
def wX(ps:List (List Int))(s:List Bool):List Bool:=ps.foldl (λs p=>Fj p s) s
def ac5(b:Bool):∀ (p:List Int) (s:List Bool),(p.foldl (λs i=>s.set i.toNat b) s).length=s.length
 |[],s=>rfl| i::p,s=>by rw[jn,ac5 b p,oP]
def ac6(b:Bool):∀ (p:List Int) (s:List Bool) (i:Nat),i<s.length->(∀ x∈p,0<=x)->(p.foldl (λs i=>s.set i.toNat b) s).getD i false=if(i:Int)∈p then b else s.getD i false
 |[],s,i,_,_=>by simp
 |x::p,s,i,hi,az=>by
  rw[jn,ac6 b p _ i (by rw[oP];exact hi) λy aE=>az y (.tail _ aE)];have ad:=az x (.head _);by_cases aC:(i:Int)∈p;·rw[bQ aC,bQ (.tail _ aC)]
  ·rw[bU aC];by_cases e:(i:Int)=x
   ·rw[bQ (by rw[e];exact .head _)];have:x.toNat=i:=by omega
    rw[this];simp[bz,hi]
   ·rw[bU (λh=>(ee.1 h).elim e aC)];have:x.toNat≠i:=by omega
    simp[bz,List.getElem?_set_ne this]
def ac7{v:Nat->Bool}:∀ (ps:List (List Int)) (s:List Bool) (i:Nat),i<s.length->(∀ p∈ps,∀ x∈p,0<=x)->(∀ p∈ps,(i:Int)∈p->decide (1<p.length)=v i)->(∃ p∈ps,(i:Int)∈p)\/s.getD i false=v i->(wX ps s).getD i false=v i
 |[],s,i,_,_,_,h=>h.elim (λ⟨_,h,_⟩=>by cases h) id
 |p::ps,s,i,hi,az,ah,h=>by
  show(wX ps (Fj p s)).getD i false=_;have fb:=ac6 (decide (1<p.length)) p s i hi (az p (.head _));refine ac7 ps _ i (by rw[Fj,ac5];exact hi) (λq aP=>az q (.tail _ aP)) (λq aP=>ah q (.tail _ aP)) ?_;by_cases aC:(i:Int)∈p;·refine .inr ?_;unfold Fj;rw[fb,bQ aC,ah p (.head _) aC]
  ·rcases h with⟨q,aP,nu⟩ | h
   ·rcases ee.1 aP with rfl | aP
    ·exact absurd nu aC
    ·exact .inl ⟨q,aP,nu⟩
   ·refine .inr ?_;unfold Fj;rw[fb,bU aC,h]
def aqG{p:Nat->Bool}{i:Nat}(hi:i<n)(aC:p i=true):1<((List.range n).filter p).length ↔ ∃ j,j<n/\j≠i/\p j=true:=by
 have hm:i∈(List.range n).filter p:=iX.2 ⟨g'.2 hi,aC⟩;have bI:((List.range n).filter p).Nodup:=yX.filter _;constructor
 ·intro h;generalize ay:(List.range n).filter p=l at h hm bI;have e6:∀ x∈l,x<n/\p x=true:=λx ad=>by rw[<-ay,iX,g']at ad;exact ad
  match l,h,hm,bI,e6 with
  |a::b::l,_,hm,bI,e6=>
   have jf:a≠b:=λe=>by rw[kM]at bI;exact bI.1 (by rw[e];exact .head _)
   by_cases e:a=i;·exact⟨b,(e6 b (.tail _ (.head _))).1,λa7=>jf (by rw[e,a7]),(e6 b (.tail _ (.head _))).2⟩
   ·exact⟨a,(e6 a (.head _)).1,e,(e6 a (.head _)).2⟩
 ·rintro⟨j,ai,bn,p8⟩;have ml:j∈(List.range n).filter p:=iX.2 ⟨g'.2 ai,p8⟩;generalize(List.range n).filter p=l at hm ml
  match l,hm,ml with
  |[a],hm,ml=>rw[ek]at hm ml;exact absurd (ml.trans hm.symm) bn| a::b::l,_,_=>simp
open Classical in
def aqH{P:Nat->Prop}:∀ n,P n->∃ q,q<=n/\P q/\∀ k,k<q->¬ P k:=by
 intro n
 induction n using Nat.strongRecOn with
 |_ n aN=>
  intro h;by_cases ad:∃ k,k<n/\P k;·obtain⟨k,ae,aC⟩:=ad;obtain⟨q,aa,ab,ak⟩:=aN k ae aC;exact⟨q,by omega,ab,ak⟩
  ·exact⟨n,cc _,h,λk ae aC=>ad ⟨k,ae,aC⟩⟩
section
variable{L:List (List Int)}(b4:∀ l∈L,valid L.length l)
include b4
open Classical in
theorem aqI{i:Nat}(hi:i<L.length)(ar:s.length=L.length):(wX (mw L) s).getD i false=decide (∃ j,j<L.length/\j≠i/\kB (gF L) i j):=by
 have aM:=WK b4;rw[ac4 b4];refine ac7 (v:=λi=>decide (∃ j,j<L.length/\j≠i/\kB (gF L) i j)) _ s i (by omega) (λp aC x ad=>?_) (λp aC aqJ=>?_) (.inl ?_)
 ·obtain⟨q,-,rfl⟩:=cC.1 aC;obtain⟨k,-,rfl⟩:=cC.1 ad;exact D6 _
 ·obtain⟨q,aP,rfl⟩:=cC.1 aC;obtain⟨k,ae,e⟩:=cC.1 aqJ;have e:k=i:=by omega
  subst e;rw[iX,g']at ae;have G':=AA.1 ae.2;have aa:=aqG (p:=ph (gF L) q) ae.1 ae.2;have ab:(Ak (ph (gF L) q) L.length).length=((List.range L.length).filter (ph (gF L) q)).length:=by simp[Ak]
  have ak:(1<(Ak (ph (gF L) q) L.length).length) ↔ ∃ j,j<L.length/\j≠k/\kB (gF L) k j:=by
   rw[ab,aa];constructor;·rintro⟨j,a,b,c⟩;exact⟨j,a,b,aM.trans _ _ _ G'.symm (AA.1 c)⟩
   ·rintro⟨j,a,b,c⟩;exact⟨j,a,b,AA.2 (aM.trans _ _ _ G' c)⟩
  by_cases ap:1<(Ak (ph (gF L) q) L.length).length;·rw[fu ap,fu (ak.1 ap)]
  ·rw[eB ap,eB λh=>ap (ak.2 h)]
 ·
  obtain⟨q,BW,uZ,Is⟩:∃ q,q<L.length/\kB (gF L) q i/\∀ k,k<q->¬ kB (gF L) k i:=by obtain⟨q,aa,ab,ak⟩:=aqH (P:=λq=>kB (gF L) q i) i (aM.refl i hi);exact⟨q,by omega,ab,ak⟩
  refine⟨_,cC.2 ⟨q,iX.2 ⟨g'.2 BW,?_⟩,rfl⟩,?_⟩
  ·unfold CQ;refine fx.2 λk ae=>?_;by_cases e:q<=k
   ·rw[fu e,D7]
   ·have:ph (gF L) q k=false:=by rw[L4];intro h;exact Is k (by omega) (aM.trans _ _ _ (AA.1 h).symm uZ)
    rw[this];rfl
  ·exact cC.2 ⟨i,iX.2 ⟨g'.2 hi,AA.2 uZ⟩,rfl⟩
theorem aqK{i:Nat}(hi:i<L.length):((L.getD i []).any λk=>(n2 L k.toNat).getD i false)=true ↔ (i:Int)∈L.getD i []\/∃ j,j<L.length/\j≠i/\kB (gF L) i j:=by
 have Ty:L.getD i []=L[i]:=by simp[bz,hi]
 rw[wK,Ty];have ah:=b4 _ (bx hi);constructor
 ·rintro⟨k,ae,aA⟩;have eN:=ah k ae;obtain⟨j,rfl⟩:=eA eN.1;have ai:j<L.length:=by omega
  have ap:Comes L j i:=((G9 b4 ai).iff i).1 aA;by_cases e:j=i;·subst e;exact .inl ae
  ·exact .inr ⟨j,ai,e,(tz b4 hi).2 (.next .self (by rw[Ty];exact ae)),(tz b4 ai).2 ap⟩
 ·rintro(h | ⟨j,ai,bn,VG,ml⟩)
  ·exact⟨i,h,((G9 b4 hi).iff i).2 .self⟩
  ·have gz:=(tz b4 hi).1 VG;have gJ:=(tz b4 ai).1 ml;have key:∀ {k},Comes L i k->k=i\/∃ a:Nat,(a:Int)∈L[i]/\Comes L a k:=fun {k} h=>by
    induction h with
    |self=>exact .inl rfl
    | @next a k h ae aN=>
     rcases aN with rfl | ⟨b,ag,ap⟩;·rw[Ty]at ae;exact .inr ⟨k,ae,.self⟩
     ·exact .inr ⟨b,ag,.next ap ae⟩
   have ih:∀ {a b c:Nat},Comes L a b->Comes L b c->Comes L a c:=fun {a b c} aa ab=>by
    induction ab with
    |self=>exact aa| next _ ae aN=>exact .next aN ae
   rcases key gz with e | ⟨a,a2,ap⟩;·exact absurd e bn
   ·have oT:=ah _ a2;exact⟨(a:Int),a2,((G9 b4 (by omega)).iff i).2 (ih ap gJ)⟩
end
def CR(d:aQ):Bool:=d.t.ns.any λn=>decide (n.k=3)&&decide (n.t=d.name)
def aqL{aw:List Int}(aB:g.ds.length=g.n){i q:Nat}(hi:i<g.ds.length)(aP:q<g.ds.length):(q:Int)∈(h1 g).getD i [] ↔ ∃ cd∈g.ds[i].t.ns,cd.k=3/\ct cd.t g.ds 0=(q:Int):=by
 rw[h1,bz,iG,da hi];show(q:Int)∈lx true 0 (oR g.ds g.n (hK g.ds[i].t.ns)) ↔ _;rw[ahI];unfold h0;rw[oR,abq aB _ _ (by simp) q (by omega)];constructor
 ·rintro(h | ⟨nm,h9,aA⟩)
  ·simp[bz]at h;rw[PY]at h;split at h<;>simp at h
  ·obtain⟨cd,bI,rfl⟩:=cC.1 h9;obtain⟨aa,ab⟩:=iX.1 bI;exact⟨cd,aa,dh ab,aA⟩
 ·rintro⟨cd,bI,ak,aA⟩;exact .inr ⟨cd.t,cC.2 ⟨cd,iX.2 ⟨bI,fu ak⟩,rfl⟩,aA⟩
open Classical in
def ac8(aB:g.ds.length=g.n)(hm:dm aw g=0){i:Nat}(hi:i<g.ds.length)(ar:s.length=g.ds.length):((wX (mw (h1 g)) s).getD i false||CR g.ds[i])=k1 aw g (i:Int):=by
 have hF:(h1 g).length=g.ds.length:=by simp[h1]
 have b4:=KB aB;have fv:DQ (i:Int) g.n=true:=by unfold DQ;simp;omega
 have aG:k1 aw g (i:Int)=((h1 g).getD i []).any λk=>(n2 (h1 g) k.toNat).getD i false:=by unfold k1;rw[fv,fu hm];rfl
 have a7:=aqK b4 (i:=i) (by omega);have aqM:=anW aB hm i hi;have cr:CR g.ds[i]=true ↔ (i:Int)∈(h1 g).getD i []:=by
  rw[aqL (aw:=aw) aB hi hi];unfold CR;rw[wK];constructor;·rintro⟨cd,bI,h⟩;rw[cB]at h;exact⟨cd,bI,dh h.1,by rw[dh h.2];exact aqM⟩
  ·rintro⟨cd,bI,ak,aA⟩;obtain⟨j,ai,ea,ls⟩:=E2 g.ds 0 i aA;have:j=i:=by omega
   subst this;exact⟨cd,bI,by rw[fu ak,fu ls.symm];rfl⟩
 rw[aqI b4 (by omega) (by omega),aG,r6,a7,kQ,cr,RY];exact Or.comm
def tT(x:Nat×Int):List Value:=[.int .i64 x.1,.int .i64 x.2]
structure aqN(t:bR)(T:aK)(path:List Int)(x:Nat×aX×List (Nat×Int)×aK):Prop where
 hi:x.1<=path.length
 os:x.2.1.ok 2 (x.2.2.1.flatMap tT)
 len:x.2.2.1.length=x.1
 pg:x.2.2.1++x.2.2.2.pg (path.drop x.1)=T.pg path
 go:x.2.2.2.go (path.drop x.1)=T.go path
 dU:cu t.ns x.2.2.2
 pb:x.1+x.2.2.2.bh<=T.bh
def aqO(T:aK)(path:List Int)(I:aI)(v:Value)(I':aI)(M':List aD):Prop:=I'=I/\∃ (os:aX) (l:List (Nat×Int)) (k:Nat) (b:Bool),v=.tuple #[os.val,.int .i64 k,.bool b]/\M'=os.aq 255/\os.ok 2 (l.flatMap tT) /\
 match T.go path with
 |none=>b=false| some S=>b=true/\k=S.bh/\l=T.pg path/\l.length<=T.bh
def aqP(av:t.ok I)(ae:r0 t.ns)(bs:cu t.ns T)(tl:t.bA=(T.bh:Int))(aB:t.n<=1099511627776)(aC:c3 I pa pn jl 1 8 (path.map (.int .i64 ·))) :
  Spec Tryz.prog 133 [t.val,.slice pa pn jl] I [] (aqO T path I):=by
 refine bZ [] a5 Tryz.func133 rfl rfl rfl ?_;intro B az;have ic:=av.n;have jw:path.length=pn:=by have:=aC.len;simpa using this
 have DV:c3 I pa pn jl 1 8 (path.flatMap kh):=by rw[qS];exact aC
 have aqQ:=bs.mE;refine de.inv (ι:=Nat×aX×List (Nat×Int)×aK) (λx=>{ bj:=[(2,.ref 2 0),(7,.val x.2.1.val),(8,.val (.int .i64 x.2.2.2.bh)),(14,.val (.slice pa pn jl)),(15,.val (.int .i64 pn)),(16,.val (.int .i64 x.1))],cl:=[(2,t.cells)],cI:=I,c1:=x.2.1.aq 255 }) (aqN t T path) (λx=>path.length-x.1) ?_ ?_
 ·refine⟨(0,hZ,[],T),⟨dz _,lv 2,rfl,rfl,rfl,bs,by simp only;omega⟩,.refl,.cons .refl (.cons .refl (.cons ?_ (hG))),.cons rfl (.nil)⟩;simp only;rw[<-tl];exact .refl
 rintro⟨i,os,l,S⟩⟨hi,bS,hF,AB,et,fb,hj⟩;simp only at hi bS hF AB et fb hj;have jj:os.n=i:=by have:=bS.len;rw[iv tT 2 (λ_=>rfl),hF]at this;omega
 have p0:=fb.mE;refine aZ.mk (λh=>?_) (λh=>?_)
 ·have aV:i<path.length:=by have:(i:Int)<(pn:Int):=dh h;omega
  have hB:path.drop i=path[i]::path.drop (i+1):=eR aV;rw[hB]at AB et;obtain⟨Tz,MR,mF⟩:=DV.row (f:=kh) (λ_=>rfl) (j:=i) (by omega) aV;obtain⟨j7,j8,gL⟩:=av.a0.row an.cS (j:=S.bh) (by omega) p0;have aj:=av.ns _ (bx p0);have eW:=fb.yx;rw[gD p0]at eW;generalize t.ns[S.bh]=d at aj gL eW;have e8:=aj.aL;have cy:d.ax.length=S.sub.length:=by rw[eW];simp[eK]
  generalize se:path[i]=mV at mF AB et;refine bf.mk Tz i MR rfl (by omega) ?_;refine aO.mk _ (mF _) ?_;refine bf.mk j7 S.bh j8 rfl (by omega) ?_;refine aO.mk _ ((gL _).part (k:=8) (m:=1) (by decide)) ?_;refine cq.mk (λaJ=>?_) (λaJ=>?_)
  ·have aqR:0<=mV:=by have:¬ mV<0:=dO aJ;omega
   refine aZ.mk (λbB=>?_) (λbB=>?_);·have cA:(d.aL:Int)<=mV:=dh bB;refine⟨_,_,.sub (fp _) .refl,rfl,hZ,[],0,false,rfl,rfl,lv 2,?_⟩;rw[<-et,aK.go,bU (by omega)]
   ·have vt:mV<(d.aL:Int):=by have:¬ (d.aL:Int)<=mV:=dO bB;omega
    obtain⟨z,rfl⟩:=eA aqR;have bb:z<S.sub.length:=by omega
    have oC:S.sub.getD z S=S.sub[z]:=by simp[bz,bb]
    rw[aK.go,bQ (by omega),gl,oC]at et;rw[aK.pg,gl,oC]at AB;have TA:d.ax[z]'(by omega)=((S.sub[z]).bh:Int):=by
     have:d.ax[z]?=(eK S.sub)[z]?:=by rw[eW]
     rw[da (by omega)]at this;unfold eK at this;rw[iG,da bb]at this;exact fw this
    have MP:(S.sub[z]).bh<S.bh:=by
     cases S with
     |mk k ks=>exact fb.SY ae (bx bb)
    have CM:c3 I d.dy d.aL d.dq 1 8 (d.ax.flatMap kh):=by rw[qS];exact aj.a0
    obtain⟨gg,fs,e'⟩:=CM.row (f:=kh) (λ_=>rfl) (j:=z) (by omega) (by omega);rw[TA]at e';refine bX.mk λb9 kX wR=>?_;refine bw.o0 a5 rfl (by simp) (e:=255) rfl rfl rfl os bS rfl (cs:=[.int .i64 S.bh,.int .i64 z]) rfl rfl rfl [] [] (by simp;rfl) (by omega) (by show(os.n+1)*16<=_;omega) ?_;intro kd aa ab ak;refine bf.mk gg z fs rfl (by omega) ?_;refine aO.mk _ (e' _) ?_;refine bg.mk _ (cK (i:=i) (by omega)) ?_;refine⟨(i+1,kd,l++[(S.bh,(z:Int))],S.sub[z]),⟨⟨aV,?_,by simp[hF],?_,et,fb.Fb _ (bx bb),by simp only;omega⟩,by simp only;omega⟩,.n5 (by simp),ov,.cons rfl (.nil)⟩;·rw[hd];exact ak
    ·rw[dT];exact AB
  ·have avn:mV<0:=dh aJ;refine⟨_,_,.sub (fp _) .refl,rfl,hZ,[],0,false,rfl,rfl,lv 2,?_⟩;rw[<-et,aK.go,bU (by omega)]
 ·have cA:i=path.length:=by have:¬ (i:Int)<(pn:Int):=dO h;omega
  subst cA;rw[List.drop_length]at AB et;refine⟨_,_,.refl,rfl,os,l,S.bh,true,rfl,rfl,bS,?_⟩;rw[<-et];rw[aK.pg,ef]at AB;exact⟨rfl,rfl,AB,by omega⟩
section
variable{X:cV}{β:Nat->Nat}{a:Act}{w:World}{F:Fr}{C:dB}{I:aI}{M:List aD}{o:Oper}{K:gd}
def aqS(aM:cU X.P X.E){s:Operand}{t:Nat}(aH:o.op=.call { callee:=.builtin .append,args:=#[s,x],argTypes:=#[t,u] })(aj:∀ d,o.dst=some d->d<X.n)
  {e:Nat} {lM:dD} (av:X.E t=some c7) (dR:c7.bL=.slice e) (hu:X.E u=some lM) (fE:∀ k,lM.bL≠.int k) (he:X.E e=some aF)
  (os:aX) (bu:os.ok aF.size xs) (ar:bE F s=.val os.val)
  {pz:Value} (ad:bE F x=.val pz) (hm:0<m) (ay:b8.length=m*aF.size) (aa:gm b8=true)
  (c2:∀ w',(Builtin.lenOf pz).run X.P w'=.ok m w') (e4:∀ w,ey I M w->(Builtin.firstCells aF.size m pz).run X.P w=.ok b8.toArray w)
 (a':M.Perm (os.aq e++Mr)) (b1:os.n+m<=maxLen) (b0:(os.n+m)*aF.bytes<=140737488355328)
  (k:∀ (g c:Nat) (aR:List Value) (J:List aD),I g=none->aR.length=c*aF.size->os.n+m<=c->c<=maxLen->aR.take ((os.n+m)*aF.size)=xs++b8->((os.a=some g/\J=[])\/J=os.aq e) ->
   K (put o.dst (.val (.slice (some ⟨g,0,none⟩) (os.n+m) c)) F) C I (⟨g,.cells aR.toArray e (0,0)⟩::(J++Mr))):bw X o F C I M K:=by
 refine⟨λa w Q ⟨β,iu⟩=>?_⟩;have aW:cH X β a w F C I (os.aq e++Mr):=iu.hS (.perm a' .refl);obtain⟨inf,z,hi,fh,iJ,il,ko⟩:=(aM _ _ he).inf;obtain⟨d,fF,fi⟩:=(aM _ _ hu).fl;obtain⟨fK,jJ,j4⟩:=(aM _ _ av).fl;have qi:fK=.slice e:=by rw[dR]at j4;cases fK<;>simp_all[fk]
 subst qi;have qh:z.cells.size=inf.size:=by rw[fh,<-(aM _ _ he).len,<-ko];simp
 rw[<-fh]at bu ay e4;obtain⟨g,c,aR,w',e9,a8,ba,bP,fr,lk⟩:=Ok (P:=X.P) (w:=w) t u o.type e inf z jJ fF (λk cW=>fE k (by rw[<-fi,cW];rfl)) hi il qh bu (λg au=>aW.holds.m ⟨g,.cells os.aR.toArray e (0,0)⟩ (by simp[aX.aq,au])) (x:=pz) hm ay (yJ aa) c2 (λw' xx=>e4 w' (iu.holds.heap xx)) b1 (by rw[iJ];exact b0);rw[fh]at a8 fr;have zb:I g=none:=by
  rcases lk with⟨au,_⟩ | ⟨rfl,_⟩;·exact aW.holds.d ⟨g,.cells os.aR.toArray e (0,0)⟩ (by simp[aX.aq,au])
  ·cases bt:I w.heap.size with
   |none=>rfl| some nx=>have:=aW.holds.i _ _ bt;simp at this
 have es:=dc aW.al ar;have ex:=dc aW.al ad;rcases lk with⟨au,hw⟩ | ⟨rfl,hw⟩
 ·refine iV (by rw[aH];simp) (v:=.slice (some ⟨g,0,none⟩) (os.n+m) c) (w':=w') ?_ ⟨_,_,_,_,⟨β,cH.put (x:=.val (.slice (some ⟨g,0,none⟩) (os.n+m) c)) ?_ aj rfl⟩,k g c aR [] zb a8 ba bP fr (.inl ⟨au,rfl⟩)⟩
  ·unfold execOp;simp only[aH,resolve,invoke,builtin,cj,c0,bV,sc,cb,hr,es,ex,e9]
  ·subst hw;have ag:os.aq e=[⟨g,.cells os.aR.toArray e (0,0)⟩]:=by simp[aX.aq,au]
   rw[ag]at aW;exact aW.xe (a9:=[]) (post:=Mr) rfl
 ·refine iV (by rw[aH];simp) (v:=.slice (some ⟨_,0,none⟩) (os.n+m) c) (w':=w') ?_ ⟨_,_,_,_,⟨β,cH.put (x:=.val (.slice (some ⟨_,0,none⟩) (os.n+m) c)) ?_ aj rfl⟩,k _ c aR (os.aq e) zb a8 ba bP fr (.inr rfl)⟩
  ·unfold execOp;simp only[aH,resolve,invoke,builtin,cj,c0,bV,sc,cb,hr,es,ex,e9]
  ·subst hw;have ab:cH X β a w.drew F C I (os.aq e++Mr):=aW.world rfl;exact ab.nS (.cells aR.toArray e (0,0))
def bw.ac9(aM:cU X.P X.E){s:Operand}{t:Nat}(aH:o.op=.call { callee:=.builtin .append,args:=#[s,x],argTypes:=#[t,t] })(aj:∀ d,o.dst=some d->d<X.n)
  {e:Nat} (av:X.E t=some c7) (dR:c7.bL=.slice e) (he:X.E e=some aF)
  (os:aX) (bu:os.ok aF.size xs) (ar:bE F s=.val os.val)
 (ad:bE F x=.val (.slice (some ⟨b9,0,none⟩) 1 c')) (ay:cs.length=aF.size) (aa:gm cs=true)
  (a9 post:List aD) (a':M=⟨b9,.cells cs.toArray e (0,0)⟩::(a9++(os.aq e++post))) (b1:os.n+1<=9223372036854775807) (b0:(os.n+1)*aF.bytes<=140737488355328)
  (k:∀ (br:aX) (J:List aD),br.n=os.n+1->(∀ g,br.a=some g->I g=none)->br.ok aF.size (xs++cs)->(∀ g∈(os.aq e).map (·.num),g∈(br.aq e++J).map (·.num))->K (put o.dst (.val br.val) F) C I (a9++(br.aq e++(J++post)))):bw X o F C I M K:=by
 refine .hS (aqS aM aH aj av dR av (λk=>by rw[dR];simp) he os bu ar ad (m:=1) (b8:=cs) (by decide) (by rw[oy];exact ay) aa (λ_=>rfl) (λw hw=>?_) (Mr:=⟨b9,.cells cs.toArray e (0,0)⟩::(a9++post)) ?_ (by unfold maxLen;exact b1) b0 ?_)
 ·refine run_firstCells_some (P:=X.P) w aF.size 1 ⟨b9,0,none⟩ 1 c' cs (by rw[oy];exact ay) λj v ai=>?_;have ag:w.heap[b9]?=some (.cells cs.toArray e (0,0)):=hw.m ⟨b9,.cells cs.toArray e (0,0)⟩ (by rw[a'];exact .head _);rw[eP _ rfl,s7 ag];simpa using ai
 ·rw[a'];have ab:(⟨b9,.cells cs.toArray e (0,0)⟩::(a9++(os.aq e++post)):List aD).Perm (⟨b9,.cells cs.toArray e (0,0)⟩::(os.aq e++(a9++post))):=.cons _ (BI _ _ _);exact ab.trans mv.symm
 ·intro g c aR J bt dG eI eG iA bk;refine⟨I,a9++((⟨some g,os.n+1,c,aR⟩:aX).aq e++(J++post)),.perm (M1:=⟨b9,.cells cs.toArray e (0,0)⟩::(a9++((⟨some g,os.n+1,c,aR⟩:aX).aq e++(J++post)))) ?_ (.sub (.cons _ (.refl _)) .refl),k ⟨some g,os.n+1,c,aR⟩ J rfl (λdJ au=>by cases au;exact bt) ⟨?_,(λh=>by cases h),λdJ au=>?_⟩ λx ad=>?_⟩
  ·have aG:((⟨some g,os.n+1,c,aR⟩:aX).aq e)=[⟨g,.cells aR.toArray e (0,0)⟩]:=rfl;rw[aG];have Bv:(⟨g,.cells aR.toArray e (0,0)⟩::(J++(⟨b9,.cells cs.toArray e (0,0)⟩::(a9++post))):List aD).Perm (⟨b9,.cells cs.toArray e (0,0)⟩::(⟨g,.cells aR.toArray e (0,0)⟩::(J++(a9++post)))):=(List.Perm.cons _ mv).trans (List.Perm.swap _ _ _);refine Bv.trans (List.Perm.cons _ ?_);have DD:(⟨g,.cells aR.toArray e (0,0)⟩::(J++(a9++post)):List aD).Perm (⟨g,.cells aR.toArray e (0,0)⟩::(a9++(J++post))):=List.Perm.cons _ (BI _ _ _);exact DD.trans mv.symm
  ·rw[cm,bu.len,ay,lL,oy]
  ·cases au;exact⟨dG,eI,eG,iA⟩
  ·rw[cP,cE];rcases bk with⟨aa,rfl⟩ | rfl
   ·left
    have:os.aq e=[⟨g,.cells os.aR.toArray e (0,0)⟩]:=by simp[aX.aq,aa]
    rw[this]at ad;simpa[aX.aq]using ad
   ·exact .inr ad
end
structure I8(ns:List an)(I:aI)(os:aX)(dP:List an)(J:aI):Prop where
 bk:∀ b o,I b=some o->J b=some o
 os:os.ok 9 (dP.flatMap an.cells)
 ok:∀ d∈dP,d.ok J
 a9:∃ m,dP=ns++m
def yB(os br:aX)(iU:List aD):Prop:=∀ g∈(os.aq 66).map (·.num),g∈(br.aq 66++iU).map (·.num)
def aqT(S:aK)(tns ns:List an)(pY:List Nat)(os:aX)(I:aI)(v:Value)(I':aI)(M':List aD):Prop:=
 ∃ (br:aX) (jk:List an) (iU:List aD),v=.tuple #[br.val,.int .i64 ((jk.length-1:Nat):Int)]/\M'=br.aq 66++iU/\yB os br iU/\I8 ns I br jk I'/\l3 jk ((jk.length-1)::pY)/\jk.length=ns.length+S.cT.length/\∃ l':aK,l'.bh=jk.length-1/\cu jk l'/\l'.bare jk=S.bare tns
def Fk(cQ len e j:Nat):Int:=((cQ+len-1-(e+j):Nat):Int)
def aqU{q:List aK}(h:q=S::q.flatMap aK.sub)(i:Nat):e3 q i<=q.length:=by
 have aa:=congrArg List.length h;have e:q.flatMap aK.sub=(q.take i).flatMap aK.sub++(q.drop i).flatMap aK.sub:=by rw[<-hd,sp]
 rw[dx,e,cm]at aa;unfold e3;omega
structure aqV(cQ len e aL:Nat)(y:Nat×List Int):Prop where
 j:y.1<=aL
 L:y.2.length=aL
 eq:y.2.take y.1=(List.range y.1).map (Fk cQ len e)
def ada(av:t.ok I)(aA:∀ d∈t.ns,fits d d.ax.length=true)(cR:cu t.ns S)(bS:os.ok 9 (ns.flatMap an.cells))(me:∀ d∈ns,d.ok I){pY:List Nat}(au:l3 ns pY)(ag:ns.length+S.cT.length<=1099511627776) :
  Spec Tryz.prog 153 [os.val,t.val,.int .i64 S.bh] I (os.aq 66) (aqT S t.ns ns pY os I):=by
 refine yV [] a5 Tryz.func153 rfl rfl rfl ?_;intro B az;have ic:=av.n;have jj:os.n=ns.length:=by have:=bS.len;rw[iv _ 9 an.cS]at this;omega
 refine bX.mk λb1 hk ML=>?_;refine de.inv (ι:=Nat×aX×List aK) (λx=>{ bj:=[(0,.val os.val),(4,.ref 4 0),(8,.val x.2.1.val),(9,.val (.int .i64 x.1))],cl:=[(4,t.cells)],cI:=I,c1:=x.2.1.aq 3++os.aq 66 }) (λx=>vr S x.2.2 x.1/\x.2.1.ok 1 ((eK x.2.2).map (.int .i64 ·))/\∀ c∈x.2.2,cu t.ns c) (λx=>S.cT.length-x.1) ?_ ?_
 ·refine⟨(0,⟨some b1,1,1,[.int .i64 S.bh]⟩,[S]),⟨vr.start S,⟨rfl,(λh=>by cases h),λdJ kp=>⟨rfl,cc _,by simp[maxLen],rfl⟩⟩,λc ap=>?_⟩,.refl,eE,.cons rfl (.nil)⟩;rw[ek.1 ap];exact cR
 rintro⟨i,ro,q⟩⟨bt,gp,fb⟩;simp only at bt gp fb;obtain⟨xw,v3⟩:=bt.len;have gL:=gp.mX;simp only[eK,bF]at gL;refine aZ.mk (λh=>?_) (λh=>?_)
 ·have aV:i<q.length:=by have:(i:Int)<(ro.n:Int):=dh h;omega
  have lg:=fb _ (bx aV);have CS:=lg.mE;obtain⟨BO,BP,fz⟩:=aX.BS (I:=I) (e:=3) (M:=ro.aq 3++os.aq 66) gp (λx ad=>by simp[ad]) (j:=i) (by simp[eK,aV]);have yy:(eK q)[i]'(by simp[eK,aV])=(q[i].bh:Int):=by simp[eK]
  rw[yy]at fz;obtain⟨j7,j8,AD⟩:=av.a0.row an.cS (j:=q[i].bh) (by omega) CS;have aj:=av.ns _ (bx CS);have eW:=lg.yx;rw[gD CS]at eW;generalize t.ns[q[i].bh]=d at aj AD eW;have e8:=aj.aL;have rJ:=aj.a0.cap;have cy:d.ax.length=q[i].sub.length:=by rw[eW];simp[eK]
  have eu:=bt.step aV;obtain⟨y9,L1⟩:=eu.len;rw[cm]at L1;refine cY.draw a5 rfl rfl rfl ?_;refine bf.mk BO i BP rfl (by show i<ro.n;omega) ?_;refine aO.mk _ fz ?_;refine bf.mk j7 q[i].bh j8 rfl (by omega) ?_;refine aO.mk _ ((AD _).part (k:=8) (m:=1) (by decide)) ?_;refine bw.Eg a5 rfl (by simp) (e:=3) rfl rfl rfl ro gp rfl (sa:=d.dy) (m:=d.aL) (c':=d.dq) (b8:=d.ax.map (.int .i64 ·)) rfl (by rw[bF,e8];show _=d.aL*1;omega) (λaz=>aj.a0.Cy _ az) (IC _) [] (os.aq 66) rfl (by omega) (by show(ro.n+d.aL)*8<=_;omega) ?_;intro sR abA abB jJ;rw[<-cP,eW,<-Fa]at jJ;refine bg.mk _ (cK (i:=i) (by omega)) ?_;refine⟨(i+1,sR,q++q[i].sub),⟨⟨eu,jJ,λc ap=>?_⟩,by simp only;omega⟩,.refl,eE,.cons rfl (.nil)⟩;rcases cE.1 ap with ap | ap;·exact fb c ap
  ·exact lg.Fb c ap
 ·have cA:i=q.length:=by have:¬ (i:Int)<(ro.n:Int):=dO h;have:=bt.hi;omega
  subst cA;obtain⟨aP,aV,ff⟩:=bt.done;have xI:0<q.length:=by rw[aP];simp
  refine bg.mk ((q.length:Int)-1) (by show IntKind.i64.wrap ((ro.n:Int)-1)=_;rw[wrap_i64 ⟨by omega,by omega⟩,gL]) ?_;refine de.vK (ι:=Nat×aX×List an×aI×List aD) (λx=>{ bj:=[(0,.val x.2.1.val),(4,.ref 4 0),(8,.val ro.val),(10,.val (.int .i64 (e3 q x.1))),(11,.val (.int .i64 ((x.1:Int)-1)))],cl:=[(4,t.cells)],cI:=x.2.2.2.1,c1:=x.2.1.aq 66++(x.2.2.2.2++ro.aq 3) }) (λx=>wU t.ns ns.length pY q x.1 x.2.2.1/\I8 ns I x.2.1 x.2.2.1 x.2.2.2.1/\yB os x.2.1 x.2.2.2.2) (λx=>x.1) ?_ ?_;·intro _;refine⟨(q.length,os,ns,I,[]),⟨wU.start aP au,⟨λ_ _ h=>h,bS,me,[],by simp⟩,λg au=>by rw[ef];exact au⟩,.perm eF .refl,.cons .refl (.cons .refl (.cons .refl (.cons ?_ (.cons .refl (.nil))))),.cons rfl (.nil)⟩;simp only;rw[acS aP,<-gL];exact .refl
  rintro⟨i,no,dP,J,iU⟩⟨iZ,eu,sC⟩;simp only at iZ eu sC;have jb:=iZ.len;have dY:=eu.os;have TB:no.n=dP.length:=by have:=dY.len;rw[iv _ 9 an.cS]at this;omega
  refine aZ.mk (λh=>?_) (λh=>?_)
  ·have adb:(0:Int)<=(i:Int)-1:=dh h;obtain⟨z,rfl⟩:∃ z,i=z+1:=⟨i-1,by omega⟩;have xC:z<q.length:=iZ.hi;have lg:=fb _ (bx xC);have CS:=lg.mE;obtain⟨BO,BP,fz⟩:=aX.BS (I:=J) (e:=3) (M:=no.aq 66++(iU++ro.aq 3)) gp (λx ad=>by simp[ad]) (j:=z) (by simp[eK,xC]);have yy:(eK q)[z]'(by simp[eK,xC])=(q[z].bh:Int):=by simp[eK]
   rw[yy]at fz;obtain⟨j7,j8,AD⟩:=(av.a0.mono eu.bk).row an.cS (j:=q[z].bh) (by omega) CS;have aj:=(av.ns _ (bx CS)).mono eu.bk;have eW:=lg.yx;have mC:=gD CS;rw[mC]at eW;generalize t.ns[q[z].bh]=d at aj AD eW mC;have e8:=aj.aL;have rJ:=aj.a0.cap;have cy:d.ax.length=q[z].sub.length:=by rw[eW];simp[eK]
   refine cY.draw a5 rfl rfl rfl ?_;refine bf.mk BO z BP (by show((z+1:Nat):Int)-1=z;omega) (by show z<ro.n;omega) ?_;refine aO.mk _ fz ?_;refine bf.mk j7 q[z].bh j8 rfl (by omega) ?_;refine aO.mk _ (AD _) ?_;refine bX.mk λjm aqW aqX=>?_;refine b2.mk [] (no.aq 66++(iU++ro.aq 3)) _ _ rfl rfl (bJ rfl) rfl ?_;refine aO.mk [.slice d.dy d.aL d.dq] (c4 (cs:=d.cells) (k:=8) (n:=1) (T:=66) (.head _) (bJ rfl)) ?_;have pC:=acR xC;have avo:=aqU aP (z+1);refine mG.mk d.aL d.aL rfl rfl (cc _) (by show 8*d.aL<=_;omega) (by omega) ?_;refine bX.mk λlI avp avq=>?_;refine bg.mk ((e3 q z:Nat):Int) (by show IntKind.i64.wrap (((e3 q (z+1):Nat):Int)-(d.aL:Int))=_;rw[wrap_i64 ⟨by omega,by omega⟩];omega) ?_;have SA:(rowOf [Value.int .i64 0] (d.aL*1))=(List.replicate d.aL (0:Int)).map (Value.int .i64):=by rw[th,xm,e0]
   refine de.inv (ι:=Nat×List Int) (λy=>{ bj:=[(0,.val no.val),(4,.ref 4 0),(8,.val ro.val),(10,.val (.int .i64 (e3 q z))),(11,.val (.int .i64 (((z+1:Nat):Int)-1))),(12,.val (ptr jm)),(13,.val (.slice (some ⟨lI,0,none⟩) d.aL d.aL)),(60,.val (.int .i64 d.aL)),(61,.val (.int .i64 y.1))],cl:=[(4,t.cells)],cI:=J,c1:=dC lI y.2::⟨jm,.cells d.cells.toArray 66 (0,0)⟩::(no.aq 66++(iU++ro.aq 3)) }) (aqV ns.length q.length (e3 q z) d.aL) (λy=>d.aL-y.1) ?_ ?_;·refine⟨(0,List.replicate d.aL 0),⟨dz _,sm,rfl⟩,.n5 ?_,j3,.cons rfl (.nil)⟩;rw[SA];rfl
   rintro⟨j,L⟩⟨ai,b4,Co⟩;simp only at ai b4 Co;refine aZ.mk (λab=>?_) (λab=>?_)
   ·have eM:j<d.aL:=by have:(j:Int)<(d.aL:Int):=dh ab;omega
    refine bg.mk (((no.n+z:Nat)):Int) (by show IntKind.i64.wrap ((no.n:Int)+(((z+1:Nat):Int)-1))=_;rw[wrap_i64 ⟨by omega,by omega⟩];omega) ?_;refine bg.mk (((e3 q z+j:Nat)):Int) (by show IntKind.i64.wrap (((e3 q z:Nat):Int)+(j:Int))=_;rw[wrap_i64 ⟨by omega,by omega⟩];omega) ?_;refine bg.mk (Fk ns.length q.length (e3 q z) j) (by show IntKind.i64.wrap (((no.n+z:Nat):Int)-((e3 q z+j:Nat):Int))=_;rw[wrap_i64 ⟨by omega,by omega⟩];unfold Fk;omega) ?_;refine bf.mk ⟨lI,0,none⟩ j rfl rfl eM ?_;refine b2.ix [] (⟨jm,.cells d.cells.toArray 66 (0,0)⟩::(no.aq 66++(iU++ro.aq 3))) (L.map (Value.int .i64)) 3 rfl (by rw[nE,bF];show 0+j*1+1<=_;omega) rfl ((L.set j (Fk ns.length q.length (e3 q z) j)).map (Value.int .i64)) (by rw[db,e0];exact oF L j (by omega) _) ?_;refine bg.mk _ (cK (i:=j) (by omega)) ?_;refine⟨(j+1,L.set j (Fk ns.length q.length (e3 q z) j)),⟨⟨eM,by rw[oP];exact b4,?_⟩,by simp only;omega⟩,.refl,j3,.cons rfl (.nil)⟩;rw[BJ,cP,<-Co,fZ (by rw[oP];omega),List.getElem_set_self,List.take_set_of_le (cc _)];rfl
   have cA:j=d.aL:=by have:¬ (j:Int)<(d.aL:Int):=dO ab;omega
   subst cA;rw[ft (by omega)]at Co;refine b2.ix [dC lI L] (no.aq 66++(iU++ro.aq 3)) d.cells 66 rfl rfl rfl (d.row (some ⟨lI,0,none⟩) d.aL d.aL L).cells rfl ?_;refine aO.mk (d.row (some ⟨lI,0,none⟩) d.aL d.aL L).cells (c4 (cs:=(d.row (some ⟨lI,0,none⟩) d.aL d.aL L).cells) (k:=0) (n:=9) (T:=66) (.tail _ (.head _)) (bJ rfl)) ?_;refine bX.mk λTb Tc aqY=>?_;refine bw.ac9 a5 rfl (by simp) (e:=66) rfl rfl rfl no dY rfl (cs:=(d.row (some ⟨lI,0,none⟩) d.aL d.aL L).cells) rfl rfl rfl [dC lI L,⟨jm,.cells (d.row (some ⟨lI,0,none⟩) d.aL d.aL L).cells.toArray 66 (0,0)⟩] (iU++ro.aq 3) rfl (by omega) (by show(no.n+1)*96<=_;omega) ?_;intro I9 dn aa ab ak eN;refine bg.mk ((z:Int)-1) (by show IntKind.i64.wrap ((((z+1:Nat):Int)-1)-1)=_;rw[wrap_i64 ⟨by omega,by omega⟩];omega) ?_;intro fC;have CT:yB os I9 (dn++iU):=λg au=>by
    have dN:=sC g au;rw[cP,cE]at dN;rw[<-dT,cP,cE];rcases dN with dN | dN;·exact .inl (eN g dN)
    ·exact .inr dN
   have l1:([dC lI L,⟨jm,.cells (d.row (some ⟨lI,0,none⟩) d.aL d.aL L).cells.toArray 66 (0,0)⟩]++(I9.aq 66++(dn++(iU++ro.aq 3)))).Perm ((⟨some lI,d.aL,d.aL,L.map (Value.int .i64)⟩:aX).aq 3++(⟨jm,.cells (d.row (some ⟨lI,0,none⟩) d.aL d.aL L).cells.toArray 66 (0,0)⟩::(I9.aq 66++((dn++iU)++ro.aq 3)))):=by rw[dT dn];exact .refl _
   have kV:=l8.Ff (J:=J) (os:=⟨some lI,d.aL,d.aL,L.map (Value.int .i64)⟩) (e:=3) (foot:=(os.aq 66).map (·.num)) fC l1 (λx ad=>by
    have dN:=CT x ad;rw[<-dT,cb,cP];exact .tail _ (jr _ dN))
   have aqZ:(⟨some lI,d.aL,d.aL,L.map (Value.int .i64)⟩:aX).ok 1 (L.map (.int .i64 ·)):=⟨by rw[bF];simp only;omega,(λh=>by cases h),λdJ kp=>⟨by simp only[bF];omega,cc _,by unfold maxLen;simp only;omega,ft (by rw[bF];simp only;omega)⟩⟩;obtain⟨lH,hw,bp,er,-⟩:=aX.zD (b:=8) (e:=3) aqZ (by simp only;omega) kV (⟨jm,.cells (d.row (some ⟨lI,0,none⟩) d.aL d.aL L).cells.toArray 66 (0,0)⟩::(I9.aq 66++((dn++iU)++ro.aq 3)));have Ay:(d.row (some ⟨lI,0,none⟩) d.aL d.aL L).ax=(List.range (e3 q (z+1)-e3 q z)).map λj=>((ns.length+q.length-1-(e3 q z+j):Nat):Int):=by rw[show e3 q (z+1)-e3 q z=d.aL by omega];exact Co
   have aq0:=wU.step aP aV iZ lg aA (x:=d.row (some ⟨lI,0,none⟩) d.aL d.aL L) (by rw[mC];rfl) Ay;have TC:(d.row (some ⟨lI,0,none⟩) d.aL d.aL L).ok lH:=(aj.mono bp).row er λx ad=>by rw[Co]at ad;obtain⟨y,aE,rfl⟩:=cC.1 ad;unfold Fk iM;omega
   obtain⟨jh,qP⟩:=eu.a9;refine⟨(z,I9,dP++[d.row (some ⟨lI,0,none⟩) d.aL d.aL L],lH,dn++iU),⟨⟨aq0,⟨λb o h=>bp _ _ (eu.bk _ _ h),?_,λx ad=>?_,jh++[_],by rw[qP,dT]⟩,CT⟩,by simp only;omega⟩,.perm l1 (hw _ _ (.sub (.cons _ (.refl _)) .refl)),gf,.cons rfl (.nil)⟩
   ·rw[hd];have:([d.row (some ⟨lI,0,none⟩) d.aL d.aL L].flatMap an.cells)=(d.row (some ⟨lI,0,none⟩) d.aL d.aL L).cells:=by simp
    rw[this];exact ak
   ·rcases cE.1 ad with ad | ad
    ·exact(eu.ok x ad).mono bp
    ·rw[ek.1 ad];exact TC
  ·have adb:i=0:=by have:¬ (0:Int)<=(i:Int)-1:=dO h;omega
   subst adb;obtain⟨yC,l',jx,ib,oc⟩:=iZ.done aP;refine bg.mk ((dP.length-1:Nat):Int) (by show IntKind.i64.wrap ((no.n:Int)-1)=_;rw[wrap_i64 ⟨by omega,by omega⟩];omega) ?_;intro _;refine⟨_,_,.sub (M1:=no.aq 66++iU) ((Mz _).append (tw _ _)) .refl,no,dP,iU,rfl,rfl,sC,eu,yC,by omega,l',jx,ib,oc⟩
def c3.a9{ys:List Value}(h:c3 I a n c size b (xs++ys))(hm:m<=n)(ad:xs.length=m*size)(c':Nat)(ap:m<=c'):c3 I a m c' size b xs:=by
 refine⟨ad,⟨ap,k9 (vA _ hm) h.cap.2⟩,?_⟩;by_cases az:m=0
 ·exact .inl az
 rcases h.rd with aa | ⟨aS,aa,ab,cs,T,al,ak,aJ⟩
 ·omega
 ·refine .inr ⟨aS,aa,ab,cs,T,al,ak,?_⟩;have bB:((cs.toList.drop aS.off).take (n*size)).take (m*size)=xs:=by rw[aJ,<-ad,yY]
  rw[Bb,ud (vA _ hm)]at bB;exact bB
def aq1{l:List (Nat×Int)}{x:Nat×Int}(h:c3 I a n c 2 16 ((l++[x]).flatMap tT)) :
  Spec Tryz.prog 193 [.slice a n c] I [] λv I' M'=>v=.tuple #[.agg #[.int .i64 x.1,.int .i64 x.2],.slice a l.length l.length]/\I'=I/\M'=[]:=by
 refine bZ [] a5 Tryz.func193 rfl rfl rfl ?_;intro B az;have ay:n=l.length+1:=by have:=h.len;rw[iv tT 2 (λ_=>rfl),cm,pL]at this;omega
 have ju:=h.cap;obtain⟨aS,bH,bl⟩:=h.row (f:=tT) (λ_=>rfl) (j:=l.length) (by omega) (by simp);rw[aau rfl]at bl;refine bg.mk ((l.length:Nat):Int) (by show IntKind.i64.wrap ((n:Int)-1)=_;rw[wrap_i64 ⟨by omega,by omega⟩];omega) ?_;refine cY.draw a5 rfl rfl rfl ?_;refine bf.mk aS l.length bH rfl (by omega) ?_;refine aO.mk _ (bl _) ?_;refine NM.mk l.length l.length rfl rfl (cc _) (by omega) ?_;have dF:(if l.length=0 then a else a.map (·.add (0*2)))=a:=by
  split;·rfl
  ·rcases h.rd with aa | ⟨aS,rfl,dK,-⟩
   ·omega
   ·rw[k8,eP _ dK];obtain⟨b,o,fO⟩:=aS;simp only at dK;subst dK;rfl
 refine⟨_,_,.refl,?_,rfl,rfl⟩;show Value.tuple #[Value.agg #[.int .i64 x.1,.int .i64 x.2],.slice (if l.length=0 then a else a.map (·.add (0*2))) (l.length-0) (l.length-0)]=_;rw[dF];rfl
def oe(z n:Nat):List Nat:=(List.range n).filter λj=>!decide (j=z)
def Ja(z n:Nat):oe z (n+1)=if n=z then oe z n else oe z n++[n]:=by
 unfold oe;rw[BJ,BY,ox,Tu];by_cases e:n=z<;>simp[e]
def M4{z:Nat}:j∈oe z n ↔ j<n/\j≠z:=by unfold oe;rw[iX,g'];simp
def ade{z:Nat}(h:z<n):(oe z n++[z]).Perm (List.range n):=by
 have zs:(oe z n++[z]).Nodup:=by refine r5.2 ⟨yX.sublist zf,by simp,λa a2 b ag e=>?_⟩;rw[ek]at ag;subst ag;exact(M4.1 a2).2 e
 refine(SS zs yX).2 λj=>?_;rw[cE,M4,ek,g'];omega
def tU(l:List aK)(z n:Nat):Nat:=((oe z n).map λj=>(l.getD j (.mk 0 [])).cT.length).sum
def aq2(l:List aK):hn l=((List.range l.length).map λj=>(l.getD j (.mk 0 [])).cT.length).sum:=by unfold hn;congr 1;refine nU (by simp) λi hi cX=>?_;rw[g7,g7,v7,bz,da (by simpa using hi)];rfl
def adf{l:List aK}{z:Nat}(bb:z<l.length):tU l z l.length+(l[z]).cT.length=hn l:=by have h:=((ade bb).map λj=>(l.getD j (.mk 0 [])).cT.length).sum_nat;rw[cP,uD,<-aq2]at h;rw[<-h];unfold tU;simp[bz,bb]
def adg(l:List aK)(z:Nat){i:Nat}(h:i<=n):tU l z i<=tU l z n:=by
 induction n with
 |zero=>
  obtain rfl:i=0:=by omega
  exact cc _
 |succ n aN=>
  by_cases e:i=n+1;·subst e;exact cc _
  ·refine k9 (aN (by omega)) ?_;unfold tU;rw[Ja];split
   ·exact cc _
   ·rw[cP,uD];omega
def adh:∀ (p:List Int) (T:aK) (i:Int),T.go (p++[i])=(T.go p).bind λS=>if 0<=i/\i<(S.sub.length:Int)then some (S.sub.getD i.toNat S)else none
 |[],T,i=>by simp[aK.go]
 |j::p,T,i=>by
  rw[mU,aK.go,aK.go];split;·exact adh p _ i
  ·rfl
def adi:∀ (p:List Int) {T S:aK} (i:Int),T.go p=some S->T.pg (p++[i])=T.pg p++[(S.bh,i)]
 |[],T,S,i,h=>by obtain rfl:=fw h;rfl
 |j::p,T,S,i,h=>by
  rw[aK.go]at h;split at h;·rw[mU,aK.pg,aK.pg,adi p i h];rfl
  ·cases h
def Jb:∀ (p:List Int) (T:aK),(T.pg p).length=p.length
 |[],_=>rfl| i::p,T=>by rw[aK.pg,dx,Jb p];rfl
def aq3{tns:List an}{R:aK}{z:Nat}(bb:z<S.sub.length){L:List Int}(b4:L.length=S.sub.length){Y:a1}(aW:cu dP R)(AE:R.bare dP=Y)(TD:L.getD z 0=(R.bh:Int))(aq4:∀ j,j<S.sub.length->j≠z->∃ T:aK,(T.bh:Int)=L.getD j 0/\cu dP T/\T.bare dP=(S.sub.getD j S).bare tns){x:an}(Ay:x.ax=L)(ky:x.bare=(nodeAt tns S.bh).bare) :
  ∃ xv:aK,xv.bh=dP.length/\cu (dP++[x]) xv/\xv.bare (dP++[x])=.mk (nodeAt tns S.bh).bare ((S.sub.map (aK.bare tns)).set z Y):=by
 obtain⟨ks,aa,ab⟩:=IS (R:=λ(j:Nat) (T:aK)=>(T.bh:Int)=L.getD j 0/\cu dP T/\T.bare dP=if j=z then Y else(S.sub.getD j S).bare tns) (l:=List.range S.sub.length) λj ai=>by
  have ai:=g'.1 ai;by_cases e:j=z;·subst e;exact⟨R,TD.symm,aW,by rw[bQ rfl];exact AE⟩
  ·obtain⟨T,dG,eI,eG⟩:=aq4 j ai e;exact⟨T,dG,eI,by rw[bU e];exact eG⟩
 rw[wj]at aa;have eW:∀ c∈ks,cu dP c:=λc ap=>by obtain⟨j,ai,rfl⟩:=j9 ap;exact(ab j (by rw[wj];omega) ai).2.1
 refine⟨.mk dP.length ks,rfl,.mk (by simp) ?_ λc ap=>(eW c ap).app _,?_⟩
 ·rw[E9,Ay];refine nU (by rw[bF];omega) λj ai im=>?_;rw[g7];have:=(ab j (by rw[wj];omega) (by omega)).1;rw[v7,bz,da ai]at this;exact this.symm
 ·rw[aK.nc,E9,ky];congr 1;refine nU (by simp[aa]) λj ai im=>?_;have vo:j<ks.length:=by simpa using ai
  rw[g7,aK.CI dP (eW _ (bx vo)),(ab j (by rw[wj];omega) vo).2.2,OF,v7];by_cases e:j=z;·subst e;rw[bQ rfl,bQ rfl]
  ·rw[bU e,bU (λa7=>e a7.symm),g7];congr 1;simp[bz,show j<S.sub.length by omega]
def aq5{z r:Nat}{L:List Int}(bb:z<L.length)(M5:∀ k∈L,0<=k)(TD:L.getD z 0=(r:Int))(h:l3 dP ((oe z L.length).map (h4 L)++[r])){x:an}(Ay:x.ax=L)(aq6:fits x L.length=true):l3 (dP++[x]) [dP.length]:=by
 have aG:(List.range L.length).map (h4 L)=L.map Int.toNat:=by refine nU (by simp) λj ai im=>?_;rw[g7,g7,v7];unfold h4;rw[bz,da (by simpa using ai)];rfl
 have aC:((oe z L.length).map (h4 L)++[r]).Perm (L.map Int.toNat++[]):=by
  rw[ef,<-aG];have:=(ade bb).map (h4 L);rw[cP,sT]at this;have a7:h4 L z=r:=by unfold h4;rw[TD];exact gl r
  rwa [a7]at this
 refine(h.perm aC).add (by rw[bF];exact aq6) ?_;rw[Ay,gO];refine((gM λk ae=>?_).trans (MB _)).symm;have:=M5 k ae;show((k.toNat:Nat):Int)=k;omega
def adj:∀ (p:List Int) {T S:aK},T.go p=some S->S.cT.length<=T.cT.length
 |[],T,S,h=>by obtain rfl:=fw h;exact cc _
 |i::p,T,S,h=>by
  rw[aK.go]at h;split at h
  ·rename_i hi;have aa:=adj p h;have ab:=Fc T;have ak:(T.sub.getD i.toNat T).cT.length<=hn T.sub:=by
    have ay:i.toNat<T.sub.length:=by omega
    rw[bz,da ay];have:=adf ay;simp only[jV];omega
   omega
  ·cases h
structure adk(tns ns:List an)(I:aI)(os:aX)(S R:aK)(z:Nat)(Y:a1)(i:Nat)(L:List Int)(no:aX)(dP:List an)(J:aI)(iU:List aD):Prop where
 hi:i<=S.sub.length
 b4:L.length=S.sub.length
 aY:I8 ns I no dP J
 JN:yB os no iU
 Eh:l3 dP ((oe z i).map (h4 L)++[R.bh])
 dU:cu dP R
 bare:R.bare dP=Y
 oe:∀ j,j<i->j≠z->∃ T:aK,(T.bh:Int)=L.getD j 0/\cu dP T/\T.bare dP=(S.sub.getD j S).bare tns
 avr:z<i->L.getD z 0=(R.bh:Int)
 len:dP.length<=ns.length+(S.sub.getD z S).cT.length+tU S.sub z i
structure adl(tns ns:List an)(I:aI)(os:aX)(T:aK)(path:List Int)(X:a1)(p:List Int)(sV:Option Addr)(gB:Nat)(R:aK)(no:aX)(dP:List an)(J:aI)(iU:List aD):Prop where
 row:c3 I sV p.length gB 2 16 ((T.pg p).flatMap tT)
 aY:I8 ns I no dP J
 JN:yB os no iU
 Eh:l3 dP [R.bh]
 dU:cu dP R
 go:∃ S q,path=p++q/\T.go p=some S/\R.bare dP=(S.bare tns).put q X/\dP.length<=ns.length+S.cT.length
def aq7(T:aK)(tns ns:List an)(path:List Int)(X:a1)(os:aX)(I:aI)(v:Value)(I':aI)(M':List aD):Prop:=
 ∃ (br:aX) (jk:List an) (iU:List aD) (R:aK),v=.tuple #[br.val,.int .i64 R.bh]/\M'=br.aq 66++iU/\I8 ns I br jk I'/\l3 jk [R.bh]/\cu jk R/\R.bare jk=(T.bare tns).put path X/\jk.length<=ns.length+T.cT.length
def adm{M3 fX:aX}{iF dn:List aD}(aa:yB os M3 iF)(ab:yB M3 fX dn):yB os fX (dn++iF):=λg au=>by
 have dN:=aa g au;rw[cP,cE]at dN;rw[<-dT,cP,cE];rcases dN with dN | dN
 ·exact .inl (ab g dN)
 ·exact .inr dN
def aq8(av:t.ok I)(aA:∀ d∈t.ns,fits d d.ax.length=true)(ae:r0 t.ns)(bs:cu t.ns T){mA:aK}(et:T.go path=some mA)(pJ:c3 I a path.length c 2 16 ((T.pg path).flatMap tT))
 (bS:os.ok 9 (ns.flatMap an.cells)) (me:∀ d∈ns,d.ok I) {vu:aK} (au:l3 ns [vu.bh]) (aW:cu ns vu) (ag:ns.length+T.cT.length<=1099511627776) (aB:t.n<=1099511627776) :
  Spec Tryz.prog 154 [os.val,t.val,.slice a path.length c,.int .i64 vu.bh] I (os.aq 66) (aq7 T t.ns ns path (vu.bare ns) os I):=by
 refine yV [] a5 Tryz.func154 rfl rfl rfl ?_;intro B az;have ic:=av.n;refine de.vK (ι:=List Int×Option Addr×Nat×aK×aX×List an×aI×List aD) (λx=>{ bj:=[(0,.val x.2.2.2.2.1.val),(2,.val (.slice x.2.1 x.1.length x.2.2.1)),(3,.val (.int .i64 x.2.2.2.1.bh)),(5,.ref 5 0)],cl:=[(5,t.cells)],cI:=x.2.2.2.2.2.2.1,c1:=x.2.2.2.2.1.aq 66++x.2.2.2.2.2.2.2 }) (λx=>adl t.ns ns I os T path (vu.bare ns) x.1 x.2.1 x.2.2.1 x.2.2.2.1 x.2.2.2.2.1 x.2.2.2.2.2.1 x.2.2.2.2.2.2.1 x.2.2.2.2.2.2.2) (λx=>x.1.length) ?_ ?_
 ·intro _;exact⟨(path,a,c,vu,os,ns,I,[]),⟨pJ,⟨λ_ _ h=>h,bS,me,[],by simp⟩,(λg au=>by rw[ef];exact au),au,aW,mA,[],by simp,et,rfl,by simp only;omega⟩,.n5 (by simp),eE,.cons rfl (.nil)⟩
 rintro⟨p,sV,gB,R,no,dP,J,iU⟩ed;have ed:adl t.ns ns I os T path (vu.bare ns) p sV gB R no dP J iU:=ed;obtain⟨Ie,eu,sC,yC,fb,Fl,q,mN,AF,AE,jb⟩:=ed;refine aZ.mk (λh=>?_) (λh=>?_)
 ·have gN:0<p.length:=by have:(0:Int)<(p.length:Int):=dh h;omega
  obtain⟨l9,mV,rfl⟩:∃ l9 k,p=l9++[k]:=by
   rcases vY p with aa | ⟨r,k,aa⟩;·subst aa;simp at gN
   ·exact⟨r,k,by simpa using aa⟩
  rw[adh]at AF;obtain⟨S,M6,AF⟩:=JI.1 AF;have Ah:0<=mV/\mV<(S.sub.length:Int):=by
   by_cases e:0<=mV/\mV<(S.sub.length:Int);·exact e
   ·rw[bU e]at AF;cases AF
  rw[bQ Ah]at AF;obtain⟨z,rfl⟩:=eA Ah.1;have bb:z<S.sub.length:=by omega
  have Fm:S.sub.getD z S=Fl:=by have:=fw AF;rwa [gl]at this
  rw[adi l9 _ M6]at Ie;have TE:=cu.go l9 bs M6;have p0:=TE.mE;refine bc.mk [] _ _ (.refl _) (aq1 (Ie.mono eu.bk)) ?_;rintro v lH M' -⟨ah,xr,rfl⟩;subst lH;rw[Jb]at ah;subst ah;have aq9:c3 I sV l9.length l9.length 2 16 ((T.pg l9).flatMap tT):=by rw[hd]at Ie;exact Ie.a9 (by rw[cm];omega) (by rw[iv tT 2 (λ_=>rfl),Jb]) _ (cc _)
  obtain⟨j7,j8,AD⟩:=(av.a0.mono eu.bk).row an.cS (j:=S.bh) (by omega) p0;have aj:=(av.ns _ (bx p0)).mono eu.bk;have eW:=TE.yx;have mC:=gD p0;have Fo:=aA _ (bx p0);rw[mC]at eW;have fy:=av.ns _ (bx p0);generalize t.ns[S.bh]=d at aj AD eW mC Fo fy;have e8:=aj.aL;have rJ:=aj.a0.cap;have cy:d.ax.length=S.sub.length:=by rw[eW];simp[eK]
  refine bf.mk j7 S.bh j8 rfl (by omega) ?_;refine aO.mk _ (AD _) ?_;refine mG.mk d.aL d.aL rfl rfl (cc _) (by show 8*d.aL<=_;omega) (by omega) ?_;refine bX.mk λjm aqW aqX=>?_;have Sz:(rowOf [Value.int .i64 0] (d.aL*1))=(List.replicate d.aL (0:Int)).map (Value.int .i64):=by rw[th,xm,e0]
  have oC:∀ j (h:j<S.sub.length),S.sub.getD j S=S.sub[j]:=λj h=>by simp[bz,h]
  have ara:∀ j (h:j<S.sub.length),S.sub.getD j (.mk 0 [])=S.sub[j]:=λj h=>by simp[bz,h]
  have avs:=Fc S;have avt:=adf bb;have avu:Fl.cT.length=(S.sub[z]).cT.length:=by rw[<-Fm,oC z bb]
  have avv:S.cT.length<=T.cT.length:=adj l9 M6;refine de.vK (ι:=Nat×List Int×aX×List an×aI×List aD) (λy=>{ bj:=[(0,.val y.2.2.1.val),(2,.val (.slice sV l9.length l9.length)),(3,.val (.int .i64 R.bh)),(5,.ref 5 0),(10,.ref 10 0),(11,.ref 11 0),(12,.val (.slice (some ⟨jm,0,none⟩) d.aL d.aL)),(34,.val (.slice d.dy d.aL d.dq)),(35,.val (.int .i64 d.aL)),(36,.val (.int .i64 y.1))],cl:=[(5,t.cells),(10,[.int .i64 S.bh,.int .i64 z]),(11,d.cells)],cI:=y.2.2.2.2.1,c1:=y.2.2.1.aq 66++(y.2.2.2.2.2++[dC jm y.2.1]) }) (λy=>adk t.ns ns I os S R z ((Fl.bare t.ns).put q (vu.bare ns)) y.1 y.2.1 y.2.2.1 y.2.2.2.1 y.2.2.2.2.1 y.2.2.2.2.2) (λy=>d.aL-y.1) ?_ ?_
  ·intro _;refine⟨(0,List.replicate d.aL 0,no,dP,J,iU),⟨dz _,by rw[sm];omega,eu,sC,yC,fb,AE,λj ai=>absurd ai (nM _),λai=>absurd ai (nM _),?_⟩,.perm (M1:=no.aq 66++(iU++[⟨jm,.cells (rowOf [Value.int .i64 0] (d.aL*1)).toArray 3 (0,0)⟩])) ?_ (.n5 ?_),A8,.cons rfl (.cons rfl (.cons rfl (.nil)))⟩
   ·rw[Fm];simp only;omega
   ·have:=eF (l₁:=([⟨jm,.cells (rowOf [Value.int .i64 0] (d.aL*1)).toArray 3 (0,0)⟩]:List aD)) (l₂:=no.aq 66++iU);rw[dT]at this;exact this
   ·rw[Sz];rfl
  clear yC fb AE jb sC;have avw:=eu.bk;rintro⟨i,L,qq,c5,iF,iS⟩ed;have ed:adk t.ns ns I os S R z ((Fl.bare t.ns).put q (vu.bare ns)) i L qq c5 iF iS:=ed;obtain⟨hi,b4,qY,M7,CU,vp,TF,M8,M9,TG⟩:=ed;rw[Fm]at TG;have qt:qq.n=c5.length:=by have:=qY.os.len;rw[iv _ 9 an.cS]at this;omega
  have Ga:=adg S.sub z hi;refine aZ.mk (λab=>?_) (λab=>?_)
  ·have KG:i<d.aL:=by have:(i:Int)<(d.aL:Int):=dh ab;omega
   have dI:i<S.sub.length:=by omega
   have CM:c3 iF d.dy d.aL d.dq 1 8 (d.ax.flatMap kh):=by rw[qS];exact(fy.a0).mono qY.bk
   have pP:d.ax[i]'(by omega)=((S.sub[i]).bh:Int):=by
    have:d.ax[i]?=(eK S.sub)[i]?:=by rw[eW]
    rw[da (by omega)]at this;unfold eK at this;rw[iG,da dI]at this;exact fw this
   obtain⟨gg,fs,e'⟩:=CM.row (f:=kh) (λ_=>rfl) (j:=i) (by omega) (by omega);rw[pP]at e';refine bf.mk gg i fs rfl (by omega) ?_;refine aO.mk _ (e' _) ?_;refine aZ.mk (λak=>?_) (λak=>?_)
   ·obtain rfl:i=z:=by have:(i:Int)=(z:Int):=dh ak;omega
    refine bf.mk ⟨jm,0,none⟩ i rfl rfl KG ?_;refine b2.ix (qq.aq 66++iS) [] (L.map (Value.int .i64)) 3 (dT _ _ _).symm (by rw[nE,bF];show 0+i*1+1<=_;omega) rfl ((L.set i (R.bh:Int)).map (Value.int .i64)) (by rw[db,e0];exact oF L i (by omega) _) ?_;refine bg.mk _ (cK (i:=i) (by omega)) ?_;intro _;refine⟨(i+1,L.set i (R.bh:Int),qq,c5,iF,iS),⟨⟨dI,by rw[oP];exact b4,qY,M7,?_,vp,TF,λj ai bn=>?_,λ_=>?_,?_⟩,by simp only;omega⟩,.n5 (dT _ _ _),A8,.cons rfl (.cons rfl (.cons rfl (.nil)))⟩
    ·rw[Ja,bQ rfl];have e:(oe i i).map (h4 (L.set i (R.bh:Int)))=(oe i i).map (h4 L):=gM λj ai=>by have:=(M4.1 ai).2;unfold h4;rw[bz,bz,ia,bU (λe=>this e.symm)]
     rw[e];exact CU
    ·obtain⟨l',dG,eI,eG⟩:=M8 j (by simp only at ai;omega) bn;refine⟨l',?_,eI,eG⟩;rw[bz,ia,bU (λe=>bn e.symm),<-bz];exact dG
    ·rw[bz,ia,bQ rfl,bQ (by omega)];rfl
    ·rw[Fm];show c5.length<=_+_+tU S.sub i (i+1);unfold tU at TG |-;rw[Ja,bQ rfl];exact TG
   ·have bn:i≠z:=λe=>by have:¬ (i:Int)=(z:Int):=dO ak;omega
    have arb:=TE.Fb _ (bx dI);have avx:tU S.sub z (i+1)=tU S.sub z i+(S.sub[i]).cT.length:=by unfold tU;rw[Ja,bU bn,cP,uD,sT,List.sum_singleton,ara i dI]
    have avy:=adg S.sub z (show i+1<=S.sub.length by omega);have dK:=ada (av.mono (λb o h=>qY.bk _ _ h)) aA arb qY.os qY.ok CU (by omega);refine bc.mk (qq.aq 66) (iS++[dC jm L]) _ (.refl _) dK ?_;rintro v dn df -⟨j5,m2,tV,rfl,rfl,CT,wY,Fp,rV,l',jx,ib,oc⟩;refine bf.mk ⟨jm,0,none⟩ i rfl rfl KG ?_;refine b2.ix ((j5.aq 66++tV)++iS) [] (L.map (Value.int .i64)) 3 (dT _ _ _).symm (by rw[nE,bF];show 0+i*1+1<=_;omega) rfl ((L.set i ((m2.length-1:Nat):Int)).map (Value.int .i64)) (by rw[db,e0];exact oF L i (by omega) _) ?_;refine bg.mk _ (cK (i:=i) (by omega)) ?_;intro _;obtain⟨jh,qP⟩:=wY.a9;obtain⟨GL,rX⟩:=qY.a9;refine⟨(i+1,L.set i ((m2.length-1:Nat):Int),j5,m2,dn,tV++iS),⟨⟨dI,by rw[oP];exact b4,⟨λb o h=>wY.bk _ _ (qY.bk _ _ h),wY.os,wY.ok,GL++jh,by rw[qP,rX,dT]⟩,adm M7 CT,?_,?_,?_,λj ai arc=>?_,λadn=>?_,?_⟩,by simp only;omega⟩,.n5 ?_,A8,.cons rfl (.cons rfl (.cons rfl (.nil)))⟩
    ·rw[Ja,bU bn];have e:(oe z i).map (h4 (L.set i ((m2.length-1:Nat):Int)))=(oe z i).map (h4 L):=gM λj ai=>by have:=(M4.1 ai).1;unfold h4;rw[bz,bz,ia,bU (by omega)]
     have a7:h4 (L.set i ((m2.length-1:Nat):Int)) i=m2.length-1:=by unfold h4;rw[bz,ia,bQ rfl,bQ (by omega)];rfl
     rw[cP,e,sT,a7];refine Fp.perm ?_;have:=mv (a:=m2.length-1) (l₁:=(oe z i).map (h4 L)) (l₂:=[R.bh]);simpa using this.symm
    ·show cu m2 R;rw[qP];exact vp.app jh
    ·show R.bare m2=_;rw[qP,aK.CI c5 vp];exact TF
    ·by_cases e:j=i
     ·subst e;refine⟨l',?_,ib,by rw[oc,oC j dI]⟩;rw[bz,ia,bQ rfl,bQ (by omega),jx];rfl
     ·obtain⟨U,dG,eI,eG⟩:=M8 j (by simp only at ai;omega) arc;refine⟨U,?_,?_,?_⟩
      ·rw[bz,ia,bU (λa7=>e a7.symm),<-bz];exact dG
      ·show cu m2 U;rw[qP];exact eI.app jh
      ·show U.bare m2=_;rw[qP,aK.CI c5 eI];exact eG
    ·have adn:z<i+1:=adn;rw[bz,ia,bU (by omega),<-bz];exact M9 (by omega)
    ·rw[Fm];show m2.length<=_+_+tU S.sub z (i+1);omega
    ·show((j5.aq 66++tV)++iS)++_=j5.aq 66++((tV++iS)++_);rw[dT,dT,dT];rfl
  ·have cA:i=S.sub.length:=by have:¬ (i:Int)<(d.aL:Int):=dO ab;omega
   subst cA;have A7:∀ b o,I b=some o->iF b=some o:=qY.bk;have Tj:d.ok iF:=fy.mono A7;refine bX.mk λTb Tc aqY=>?_;refine bw.ac9 a5 rfl (by simp) (e:=66) rfl rfl rfl qq qY.os rfl (cs:=(d.row (some ⟨jm,0,none⟩) d.aL d.aL L).cells) rfl rfl rfl [] (iS++[dC jm L]) rfl (by omega) (by show(qq.n+1)*96<=_;omega) ?_;intro j5 dn bB b5 dZ eN;refine bg.mk ((c5.length:Nat):Int) (by show IntKind.i64.wrap ((j5.n:Int)-1)=_;rw[wrap_i64 ⟨by omega,by omega⟩];omega) ?_;intro fC;have CT:yB os j5 (dn++iS):=adm M7 eN;have l1:([]++(j5.aq 66++(dn++(iS++[dC jm L])))).Perm ((⟨some jm,d.aL,d.aL,L.map (Value.int .i64)⟩:aX).aq 3++(j5.aq 66++(dn++iS))):=by have:=eF (l₁:=j5.aq 66++(dn++iS)) (l₂:=[dC jm L]);rw[iq];rw[dT,dT]at this;exact this
   have kV:=l8.Ff (J:=iF) (os:=⟨some jm,d.aL,d.aL,L.map (Value.int .i64)⟩) (e:=3) (foot:=(os.aq 66).map (·.num)) fC l1 (λx ad=>CT x ad);have ard:(⟨some jm,d.aL,d.aL,L.map (Value.int .i64)⟩:aX).ok 1 (L.map (.int .i64 ·)):=⟨by rw[bF];simp only;omega,(λh=>by cases h),λdJ kp=>⟨by simp only[bF];omega,cc _,by unfold maxLen;simp only;omega,ft (by rw[bF];simp only;omega)⟩⟩;obtain⟨lH,hw,bp,er,-⟩:=aX.zD (b:=8) (e:=3) ard (by simp only;omega) kV (j5.aq 66++(dn++iS));have are:∀ j,j<L.length->∃ U:aK,(U.bh:Int)=L.getD j 0/\cu c5 U:=λj ai=>by
    by_cases e:j=z;·subst e;exact⟨R,(M9 (by omega)).symm,vp⟩
    ·obtain⟨U,dG,eI,-⟩:=M8 j (by omega) e;exact⟨U,dG,eI⟩
   have M5:∀ k∈L,0<=k/\k<c5.length:=λk ae=>by obtain⟨j,ai,rfl⟩:=j9 ae;obtain⟨U,dG,eI⟩:=are j ai;rw[bz,da ai]at dG;have:=eI.mE;have dG:(U.bh:Int)=L[j]:=dG;omega
   have TC:(d.row (some ⟨jm,0,none⟩) d.aL d.aL L).ok lH:=(Tj.mono bp).row er λx ad=>by have:=M5 x ad;unfold iM;omega
   have arf:c5.length+1<=ns.length+S.cT.length:=by omega
   rw[<-b4]at CU;have Fp:=aq5 (x:=d.row (some ⟨jm,0,none⟩) d.aL d.aL L) (by omega) (λk ae=>(M5 k ae).1) (M9 (by omega)) CU rfl (by
    have dN:fits d d.ax.length=true:=Fo;show fits (d.row (some ⟨jm,0,none⟩) d.aL d.aL L) (L.length:Nat)=true;rw[b4,<-cy];exact dN)
   obtain⟨xv,g0,lp,v'⟩:=aq3 (tns:=t.ns) bb b4 vp TF (M9 (by omega)) (λj ai bn=>M8 j (by omega) bn) (x:=d.row (some ⟨jm,0,none⟩) d.aL d.aL L) rfl (by rw[mC];rfl);have Jc:a1.mk (nodeAt t.ns S.bh).bare ((S.sub.map (aK.bare t.ns)).set z ((Fl.bare t.ns).put q (vu.bare ns)))=(S.bare t.ns).put ((z:Int)::q) (vu.bare ns):=by rw[a1.put,Tf,acQ,gl,getD_map,Fm]
   rw[Jc]at v';obtain⟨GL,rX⟩:=qY.a9;refine⟨(l9,sV,l9.length,xv,j5,c5++[d.row (some ⟨jm,0,none⟩) d.aL d.aL L],lH,dn++iS),⟨⟨aq9,⟨λb o h=>bp _ _ (A7 _ _ h),?_,λx ad=>?_,GL++[_],by rw[rX,dT]⟩,CT,by rw[g0];exact Fp,lp,S,(z:Int)::q,by rw[mN,dT];rfl,M6,v',by rw[cm,pL];exact arf⟩,by simp only[cm,pL];omega⟩,.perm l1 (hw _ _ .refl),.cons .refl (.cons .refl (.cons ?_ (.cons .refl (.nil)))),.cons rfl (.nil)⟩
   ·rw[hd];have:([d.row (some ⟨jm,0,none⟩) d.aL d.aL L].flatMap an.cells)=(d.row (some ⟨jm,0,none⟩) d.aL d.aL L).cells:=by simp
    rw[this];exact dZ
   ·rcases cE.1 ad with ad | ad
    ·exact(qY.ok x ad).mono bp
    ·rw[ek.1 ad];exact TC
   ·simp only;rw[g0];exact .refl
 ·have arh:p.length=0:=by have:¬ (0:Int)<(p.length:Int):=dO h;omega
  obtain rfl:p=[]:=iK arh;obtain rfl:T=Fl:=fw AF;rw[iq]at mN;subst mN;intro _;exact⟨_,_,.refl,no,dP,iU,R,rfl,rfl,eu,yC,fb,AE,jb⟩
section
end
section
end
section
section
end
end
section
end
section
end
section
end
section
end
section
end
section
end
section
end
section
end
section
end
section
end
section
end
section
end
def Fq(J:aI)(os:aX)(e:Nat):aI:=match os.a with
 |some g=>ins J g (.cells os.aR.toArray e (0,0))| none=>J
def ari{foot:List Nat}{e:Nat}{post:List aD}(aA:∀ g,os.a=some g->g ∉ foot):h7 foot J (os.aq e++post) (Fq J os e) post:=by
 obtain⟨a,n,c,aR⟩:=os;cases a with
 |none=>exact .refl| some g=>exact .kN rfl (aA g rfl) .refl
def arj{e:Nat}(h:∀ x∈os.aq e++M,J x.num=none):∀ b o,J b=some o->Fq J os e b=some o:=by
 obtain⟨a,n,c,aR⟩:=os;cases a with
 |none=>exact λ_ _ h=>h
 |some g=>exact hI (h ⟨g,_⟩ (.head _))
def ark{e:Nat}(h:os.ok size xs)(ag:os.n*b<=140737488355328):c3 (Fq J os e) (os.a.map λg=>⟨g,0,none⟩) os.n os.c size b xs:=by
 obtain⟨a,n,c,aR⟩:=os;cases a with
 |none=>obtain⟨aa,ab⟩:=h.nil rfl;exact⟨h.len,⟨by simp only at aa ab |-;omega,ag⟩,.inl aa⟩
 |some g=>obtain⟨aa,ab,ak,aJ⟩:=h.cap g rfl;exact⟨h.len,⟨ab,ag⟩,.inr ⟨⟨g,0,none⟩,rfl,rfl,aR.toArray,e,(0,0),mr ..,by simpa using aJ⟩⟩
section
end
section
end
def arl(ap:mS I)(av:t.ok I)(af:right t=true)(aB:t.n<=1099511627776){node:Nat}(yn:node<t.n) :
  Spec Tryz.prog 134 [t.val,.int .i64 node] I M0 λv I' M'=>(∀ b o,I b=some o->I' b=some o)/\M'=M0/\∃ bm:bR,v=.tuple #[bm.val,.bool true]/\bm.ok I'/\K' t node bm:=by
 refine bZ [] a5 Tryz.func134 rfl rfl rfl ?_;intro B az;refine bc.mk [] M0 _ (.refl _) (qm ap av) ?_;rintro v J N -⟨rfl,bk,rfl⟩;subst J;refine cq.mk (λ_=>?_) (λh=>absurd h (by simp[af]));have eT:decide (((node:Nat):Int)<0)=false:=eB (by omega);have gw:decide (((t.n:Nat):Int)<=((node:Nat):Int))=false:=eB (by omega);refine cq.mk (λ_=>?_) (λh=>absurd (eT.symm.trans h) (by simp));refine aZ.mk (λh=>absurd (gw.symm.trans h) (by simp)) (λ_=>?_);refine bc.whole _ (SN av af aB yn) ?_;rintro v J N -⟨bk,rfl,bm,rfl,sP,ar⟩;exact⟨_,_,.refl,bk,rfl,bm,rfl,sP,ar⟩
def ado(av:t.ok I)(ae:r0 t.ns)(bs:cu t.ns T)(tl:t.bA=(T.bh:Int))(aB:t.n<=1099511627776)(aC:c3 I pa pn jl 1 8 (path.map (.int .i64 ·))) :
  Spec Tryz.prog 133 [t.val,.slice pa pn jl] I M0 λv I' M'=>(∀ b o,I b=some o->I' b=some o)/\M'=M0/\∃ (sV:Option Addr) (HY gB k:Nat) (b:Bool),v=.tuple #[.slice sV HY gB,.int .i64 k,.bool b] /\
   match T.go path with
   |none=>b=false| some S=>b=true/\k=S.bh/\HY=path.length/\c3 I' sV path.length gB 2 16 ((T.pg path).flatMap tT):=by
 refine Spec.qN (Spec.frame (Spec.lE (aqP av ae bs tl aB aC))) ?_;rintro v J M⟨M',rfl,-,bk,rfl,-,I',M1,⟨rfl,os,l,k,b,rfl,rfl,bS,h⟩,bG⟩;have aqQ:=bs.mE;have ic:=av.n;refine⟨bk,rfl,os.a.map λg=>⟨g,0,none⟩,os.n,os.c,k,b,rfl,?_⟩;cases au:T.go path with
 |none=>rw[au]at h;exact h
 |some S=>
  rw[au]at h;obtain⟨aa,ab,rfl,aJ⟩:=h;have jj:os.n=path.length:=by have:=bS.len;rw[iv tT 2 (λ_=>rfl),Jb]at this;omega
  have:=aX.lE (b:=16) (e:=255) bG bS (λz bb=>bb) (by rw[Jb]at aJ;omega);rw[jj]at this;exact⟨aa,ab,jj,this⟩
def hP.CV(h:hP t):∃ T:aK,t.bA=(T.bh:Int)/\cu t.ns T/\cw t=T.bare t.ns/\T.cT.Nodup/\T.cT.length<=t.ns.length:=by obtain⟨k5,iO⟩:=h.bA;obtain⟨r,fz⟩:=eA k5;obtain⟨T,aa,ab,ak,aJ⟩:=h.lt (j:=r) (by omega);refine⟨T,by rw[aa];exact fz,ab,by unfold cw;rw[fz];exact ak,aJ,MD aJ λx ad=>ab.lt x ad⟩
def mS.mono(h:mS I)(bt:∀ b o,I b=some o->I' b=some o):mS I':=by obtain⟨T,al,h⟩:=h;exact⟨T,al,bt _ _ h⟩
def TH:Value:=.agg #[.slice none 0 0,.int .i64 0]
def CW(X:Option a1)(I:aI)(M0:List aD)(v:Value)(I':aI)(M':List aD):Prop:=(∀ b o,I b=some o->I' b=some o)/\M'=M0 /\
 match X with
 |none=>v=.tuple #[TH,.bool false]| some X=>∃ bm:bR,v=.tuple #[bm.val,.bool true]/\bm.ok I'/\pZ bm X/\g2 X/\l2 X
def arm(ap:mS I)(av:t.ok I)(af:right t=true)(aB:t.n<=1099511627776)(aC:c3 I pa pn jl 1 8 (path.map (.int .i64 ·))) :
  Spec Tryz.prog 79 [t.val,.slice pa pn jl] I M0 (CW ((cw t).go path) I M0):=by
 have aW:=oZ.1 af;obtain⟨T,jx,ib,oc,Jd,Na⟩:=aW.CV;have ic:=av.n;rw[show(cw t).go path=(T.go path).map (aK.bare t.ns)from by rw[oc,bare_go]];refine bZ [] a5 Tryz.func79 rfl rfl rfl ?_;intro B az;have er:=qm ap av;rw[af]at er;refine bc.mk [] M0 _ (.refl _) er ?_;rintro v J N -⟨rfl,bk,rfl⟩;subst J;refine aZ.mk (λh=>by cases h) (λ_=>?_);refine bc.mk [] M0 _ (.refl _) (ado (M0:=[]) av aW.yv ib jx aB aC) ?_;rintro v J M1 -⟨bk,rfl,sV,HY,gB,k,b,rfl,h⟩;refine aZ.mk (λag=>?_) (λag=>?_)
 ·have ag:(!b)=true:=ag;refine⟨_,_,.refl,bk,rfl,?_⟩;cases au:T.go path with
  |none=>rfl| some S=>rw[au]at h;obtain⟨rfl,-⟩:=h;cases ag
 ·have ag:(!b)=false:=ag;obtain⟨S,au⟩:∃ S,T.go path=some S:=by
   cases au:T.go path with
   |none=>rw[au]at h;have h:b=false:=h;rw[h]at ag;cases ag| some S=>exact⟨S,rfl⟩
  rw[au]at h;obtain⟨rfl,rfl,-,-⟩:=h;have cR:=cu.go path ib au;have p0:=cR.mE;refine bc.mk [] M0 _ (.refl _) (arl (M0:=[]) (ap.mono bk) (av.mono bk) af aB (show S.bh<t.n by omega)) ?_;rintro v dn df -⟨dV,rfl,bm,rfl,sP,ar⟩;refine⟨_,_,.refl,λb o h=>dV _ _ (bk _ _ h),rfl,?_⟩;rw[au];refine⟨bm,rfl,sP,?_,?_,?_⟩;·have:=api aW p0 ar;rwa [MJ aW.yv cR]at this
  ·exact S2 aW.fit cR
  ·exact apj _ _
def arn(CX:fQ I aw){x:bR}(av:t.ok I)(ad:x.ok I)(af:right t=true)(mB:right x=true)(aB:t.n+x.n<=1099511627776)(aC:c3 I pa pn jl 1 8 (path.map (.int .i64 ·))) :
  Spec Tryz.prog 99 [t.val,.slice pa pn jl,x.val] I [] (CW (((cw t).go path).map λ_=>((cw t).put path (cw x)).jF) I []):=by
 have aW:=oZ.1 af;have adp:=oZ.1 mB;obtain⟨T,jx,ib,oc,Jd,Na⟩:=aW.CV;obtain⟨X,aro,arp,adq,avz,avA⟩:=adp.CV;have ic:=av.n;have mY:=ad.n;rw[show((cw t).go path).map (λ_=>((cw t).put path (cw x)).jF)=(T.go path).map (λ_=>((cw t).put path (cw x)).jF)from by rw[show(cw t).go path=(T.go path).map (aK.bare t.ns)from by rw[oc,bare_go],Option.map_map];rfl];refine bZ [] a5 Tryz.func99 rfl rfl rfl ?_;intro B az;have er:=qm CX.c av;rw[af]at er;have adr:=qm CX.c ad;rw[mB]at adr;refine bc.mk [] [] _ (.refl _) er ?_;rintro v J N -⟨rfl,bk,rfl⟩;subst J;refine cq.mk (λh=>?_) (λh=>by cases h);refine bc.mk [] [] _ (.refl _) adr ?_;rintro v J N -⟨rfl,bk,rfl⟩;subst J;refine aZ.mk (λh=>by cases h) (λ_=>?_);refine bc.mk [] [] _ (.refl _) (ado (M0:=[]) av aW.yv ib jx (by omega) aC) ?_;rintro v J M1 -⟨bk,rfl,sV,HY,gB,k,b,rfl,h⟩;refine aZ.mk (λag=>?_) (λag=>?_)
 ·have ag:(!b)=true:=ag;refine⟨_,_,.refl,bk,rfl,?_⟩;cases au:T.go path with
  |none=>rfl| some S=>rw[au]at h;obtain⟨rfl,-⟩:=h;cases ag
 ·have ag:(!b)=false:=ag;obtain⟨S,au⟩:∃ S,T.go path=some S:=by
   cases au:T.go path with
   |none=>rw[au]at h;have h:b=false:=h;rw[h]at ag;cases ag| some S=>exact⟨S,rfl⟩
  rw[au]at h;obtain⟨rfl,rfl,rfl,pJ⟩:=h;have yK:=ada (ad.mono bk) adp.fit arp (os:=hZ) (ns:=[]) (lv 9) (λd aj=>by cases aj) l3.nil (by simp only[fL];omega);rw[<-aro]at yK;refine bc.mk [] [] _ (.refl _) yK ?_;rintro v iF M1 hQ⟨qq,c5,iS,rfl,rfl,M7,qY,CU,Nb,avB,g0,WO,AE⟩;have avC:c5.length=X.cT.length:=by simpa using Nb
  rw[<-g0]at CU;have fE:=aq8 (av.mono (λb o h=>hQ _ _ (bk _ _ h))) aW.fit aW.yv ib au (pJ.mono hQ) qY.os qY.ok CU WO (by omega) (by omega);rw[g0]at fE;refine bc.mk (qq.aq 66) iS _ (by rw[ef]) fE ?_;rintro v dn df dV⟨j5,m2,tV,TI,rfl,rfl,wY,Fp,TJ,ads,rV⟩;have n7:j5.n=m2.length:=by have:=wY.os.len;rw[iv _ 9 an.cS]at this;omega
  refine bc.FM λfC=>?_;have l1:((j5.aq 66++tV)++iS).Perm (j5.aq 66++(tV++iS)):=by rw[dT]
  have arq:=l8.Ff (os:=j5) (e:=66) (foot:=[]) fC l1 (λx ad=>by cases ad);obtain⟨o8,hw,bp,ars,-⟩:=aX.zD (b:=96) (e:=66) wY.os (by omega) arq (tV++iS);have avD:=TJ.mE;obtain⟨t3,xQ⟩:∃ t3:bR,t3=⟨m2,j5.a.map λg=>⟨g,0,none⟩,j5.n,j5.c,TI.bh⟩:=⟨_,rfl⟩;have Gp:t3.ok o8:=by rw[xQ];exact⟨ars,λd aj=>(wY.ok d aj).mono bp,⟨by simp only;omega,by simp only;omega⟩⟩
  have v':hP t3:=Fp.right (by rw[xQ]) (by rw[xQ]);have rp:cw t3=(cw t).put path (cw x):=by rw[oc,adq,<-AE,<-ads,xQ];exact MJ Fp.wd.ax TJ
  have Nc:g2 (cw t3):=by have:=S2 v'.fit (T:=TI) (by rw[xQ];exact TJ);rw[rp,oc,adq,<-AE,<-ads];rw[xQ]at this;exact this
  have BM:=ap9 (M0:=[]) ((CX.mono (λb o h=>bp _ _ (dV _ _ (hQ _ _ (bk _ _ h)))))) Gp (oZ.2 v') (by rw[xQ];simp only;omega);rw[show t3.val=.agg #[j5.val,.int .i64 TI.bh]from by rw[xQ];rfl]at BM;refine bc.C6 o8 [] (tV++iS) _ (.perm l1 (hw _ _ .refl)) BM ?_;rintro v jU rq hg -⟨-,rfl,bm,rfl,sP,d'⟩;refine⟨_,_,.sub (fp _) .refl,λb o h=>hg _ _ (bp _ _ (dV _ _ (hQ _ _ (bk _ _ h)))),rfl,?_⟩;rw[au];refine⟨bm,rfl,sP,?_,?_,acP _⟩;·rw[<-rp];exact d'
  ·rw[<-rp];exact acO Nc
def art(CX:fQ I aw){x:bR}(av:t.ok I)(ad:x.ok I)(af:right t=true)(mB:right x=true)(aB:t.n+x.n<=1099511627776)(aC:c3 I pa pn jl 1 8 (path.map (.int .i64 ·))) :
  Spec Tryz.prog 99 [t.val,.slice pa pn jl,x.val] I M0 (CW (((cw t).go path).map λ_=>((cw t).put path (cw x)).jF) I M0):=by
 refine(Spec.frame (arn CX av ad af mB aB aC)).MK ?_;rintro v I' M'⟨M1,rfl,-,-,aa,rfl,ab⟩;exact⟨aa,rfl,ab⟩
def p1(g:cx)(rule:Int)(path:List Int):Option a1:=if 0<=rule/\rule<(g.ds.length:Int)then(cw (g.ds.getD rule.toNat gv).t).go path else none
structure TK(g:cx):Prop where
 r:∀ d∈g.ds,right d.t=true
 n:∀ d∈g.ds,d.t.n<=549755813888
def Fs(rule:Int)(pa:Option Addr)(pn jl:Nat):Value:=.agg #[.int .i64 rule,.slice pa pn jl]
def CW.shape{X:Option a1}{M':List aD}(h:CW X I M0 v I' M'):∃ a n c r b,v=.tuple #[.agg #[.slice a n c,.int .i64 r],.bool b]/\b=X.isSome:=by
 obtain⟨-,-,h⟩:=h;cases X with
 |none=>exact⟨none,0,0,0,false,h,rfl⟩| some X=>obtain⟨bm,rfl,-⟩:=h;exact⟨_,_,_,_,true,rfl,rfl⟩
def adt(ap:mS I)(au:g.ok I)(iZ:TK g)(aC:c3 I pa pn jl 1 8 (path.map (.int .i64 ·))) :
  Spec Tryz.prog 30 [g.val,Fs rule pa pn jl] I M0 (CW (p1 g rule path) I M0):=by
 have fM:=au.n;refine bZ [] a5 Tryz.func30 rfl rfl rfl ?_;intro B az;refine cq.mk (λh=>?_) (λh=>?_)
 ·have aa:¬ rule<0:=dO h;refine aZ.mk (λab=>?_) (λab=>?_)
  ·have ab:(g.n:Int)<=rule:=dh ab;refine⟨_,_,.refl,λ_ _ h=>h,rfl,?_⟩;unfold p1;rw[bU (by omega)];rfl
  ·have ab:¬ (g.n:Int)<=rule:=dO ab;obtain⟨u,rfl⟩:=eA (show 0<=rule by omega);have hu:u<g.ds.length:=by omega
   obtain⟨aS,bH,bl⟩:=au.a0.row aQ.cS (j:=u) (by omega) hu;have aj:=au.ds _ (bx hu);have af:=iZ.r _ (bx hu);have TB:=iZ.n _ (bx hu);have et:p1 g (u:Int) path=(cw g.ds[u].t).go path:=by unfold p1;rw[bQ (by omega),gl];simp[bz,hu]
   have fb:=arm (M0:=[]) ap aj.t af (by omega) aC;rw[<-et]at fb;refine cY.draw a5 rfl rfl rfl ?_;refine bf.mk aS u bH rfl (by omega) ?_;refine aO.mk _ ((bl _).part (k:=1) (m:=2) (by decide)) ?_;refine bc.mk [] M0 _ (.refl _) fb ?_;rintro v J M1-h;obtain⟨a,n,c,r,b,rfl,-⟩:=h.shape;obtain⟨dG,rfl,eG⟩:=h;exact⟨_,_,.refl,dG,rfl,eG⟩
 ·have aa:rule<0:=dh h;refine⟨_,_,.refl,λ_ _ h=>h,rfl,?_⟩;unfold p1;rw[bU (by omega)];rfl
def aru(g:cx)(rule:Int)(X:Option a1)(I:aI)(M0:List aD)(v:Value)(I':aI)(M':List aD):Prop:=(∀ b o,I b=some o->I' b=some o)/\M'=M0 /\
 match X with
 |none=>v=.tuple #[.agg #[.slice none 0 0],.bool false]| some X=>∃ (h:cx) (bm:bR),v=.tuple #[h.val,.bool true]/\h.ok I'/\h.n=g.n/\h.ds.map aQ.a4=(g.ds.set rule.toNat ⟨(g.ds.getD rule.toNat gv).name,bm⟩).map aQ.a4/\pZ bm X/\g2 X/\l2 X
def sW(g:cx)(rule:Int)(path:List Int)(x:a1):Option a1:=(p1 g rule path).map λ_=>((cw (g.ds.getD rule.toNat gv).t).put path x).jF
def adu(CX:fQ I aw)(au:g.ok I)(iZ:TK g)(DO:g.n<=1000000){x:bR}(ad:x.ok I)(mB:right x=true)(mY:x.n<=549755813888)(aC:c3 I pa pn jl 1 8 (path.map (.int .i64 ·))) :
  Spec Tryz.prog 53 [g.val,Fs rule pa pn jl,x.val] I M0 (aru g rule (sW g rule path (cw x)) I M0):=by
 have fM:=au.n;refine bZ [] a5 Tryz.func53 rfl rfl rfl ?_;intro B az;refine cq.mk (λh=>?_) (λh=>?_)
 ·have aa:¬ rule<0:=dO h;refine aZ.mk (λab=>?_) (λab=>?_)
  ·have ab:(g.n:Int)<=rule:=dh ab;refine⟨_,_,.refl,λ_ _ h=>h,rfl,?_⟩;unfold sW p1;rw[bU (by omega)];rfl
  ·have ab:¬ (g.n:Int)<=rule:=dO ab;obtain⟨u,rfl⟩:=eA (show 0<=rule by omega);have hu:u<g.ds.length:=by omega
   obtain⟨aS,bH,bl⟩:=au.a0.row aQ.cS (j:=u) (by omega) hu;have aj:=au.ds _ (bx hu);have af:=iZ.r _ (bx hu);have TB:=iZ.n _ (bx hu);have oC:g.ds.getD u gv=g.ds[u]:=by simp[bz,hu]
   have et:sW g (u:Int) path (cw x)=((cw g.ds[u].t).go path).map λ_=>((cw g.ds[u].t).put path (cw x)).jF:=by unfold sW p1;rw[bQ (by omega),gl,oC]
   have fb:=art (M0:=[]) CX aj.t ad af mB (by omega) aC;rw[<-et]at fb;refine cY.Gm a5 rfl rfl rfl (ι:=Nat×Option Addr×Nat×Nat×Int×Bool×aI) (λy=>{ bj:=[(3,.ref 3 0),(4,.ref 4 0),(6,.ref 6 0),(8,.val (ptr y.1)),(9,.val (.bool y.2.2.2.2.2.1))],cl:=[(3,[.slice g.a g.n g.c]),(4,[.int .i64 u,.slice pa pn jl]),(6,[.slice none 0 0])],cI:=y.2.2.2.2.2.2,c1:=⟨y.1,.cells #[.slice y.2.1 y.2.2.1 y.2.2.2.1,.int .i64 y.2.2.2.2.1] 31 (0,0)⟩::M0 }) (λy=>CW (sW g (u:Int) path (cw x)) I [] (.tuple #[.agg #[.slice y.2.1 y.2.2.1 y.2.2.2.1,.int .i64 y.2.2.2.2.1],.bool y.2.2.2.2.2.1]) y.2.2.2.2.2.2 []) ?_ ?_
   ·refine bf.mk aS u bH rfl (by omega) ?_;refine aO.mk _ ((bl _).part (k:=1) (m:=2) (by decide)) ?_;refine⟨?_,?_⟩
    ·refine bc.mk [] M0 _ (.refl _) fb ?_;rintro v J M1 bk h;obtain⟨a,n,c,r,b,rfl,-⟩:=h.shape;obtain⟨dG,rfl,eG⟩:=h;refine bX.mk λfR DR adv=>?_;refine b2.mk [] M0 _ _ rfl rfl (bJ rfl) rfl ?_;exact⟨(fR,a,n,c,r,b,J),⟨dG,rfl,eG⟩,.refl,gf,.cons rfl (.cons rfl (.cons rfl (.nil)))⟩
    ·refine bX.mk λfR DR adv=>?_;refine eL.mk _ fb ?_;rintro v J M1 bk h;obtain⟨a,n,c,r,b,rfl,-⟩:=h.shape;obtain⟨dG,rfl,eG⟩:=h;refine b2.mk [] M0 _ _ rfl rfl (bJ rfl) rfl ?_;exact⟨(fR,a,n,c,r,b,J),⟨dG,rfl,eG⟩,.refl,gf,.cons rfl (.cons rfl (.cons rfl (.nil)))⟩
   rintro⟨fR,a,n,c,r,b,J⟩arv;obtain⟨dG,-,eG⟩:=arv;simp only at dG eG;refine aZ.mk (λag=>?_) (λag=>?_)
   ·have ag:(!b)=true:=ag;refine⟨_,_,.sub (.cons _ (.refl _)) .refl,dG,rfl,?_⟩;cases kJ:sW g (u:Int) path (cw x)with
    |none=>rfl
    |some X=>
     rw[kJ]at eG;obtain⟨bm,e,-⟩:=eG;injection e with e
     simp at e;rw[e.2]at ag;cases ag
   ·have ag:(!b)=false:=ag;obtain⟨X,kJ⟩:∃ X,sW g (u:Int) path (cw x)=some X:=by
     cases kJ:sW g (u:Int) path (cw x)with
     |none=>
      rw[kJ]at eG;have eG:Value.tuple #[.agg #[.slice a n c,.int .i64 r],.bool b]=.tuple #[TH,.bool false]:=eG;injection eG with e
      simp[TH]at e;rw[e.2]at ag;cases ag
     |some X=>exact⟨X,rfl⟩
    rw[kJ]at eG;obtain⟨bm,e,sP,d',bu,Ft⟩:=eG;have a7:Value.agg #[.slice a n c,.int .i64 r]=bm.val:=by
     injection e with e
     simp at e;rw[<-e.1]
    have ss:=aoa (M0:=[]) (au.mono dG) hu (by omega) sP;rw[<-a7]at ss;refine aO.mk [.slice a n c,.int .i64 r] ⟨rfl,_,_,_,.inr ⟨_,.head _,rfl,rfl⟩,rfl,rfl⟩ ?_;refine bc.mk [] _ _ (.refl _) ss ?_;rintro v dn df -⟨dV,rfl,bd,rfl,kI,Bi,eb⟩;refine⟨_,_,.sub (.cons _ (.refl _)) .refl,λb o h=>dV _ _ (dG _ _ h),rfl,?_⟩;rw[kJ];refine⟨bd,bm,rfl,kI,Bi,?_,d',bu,Ft⟩;rw[gl,oC];exact eb
 ·have aa:rule<0:=dh h;refine⟨_,_,.refl,λ_ _ h=>h,rfl,?_⟩;unfold sW p1;rw[bU (by omega)];rfl
def arw{d:an}(h:d.k=3)(aA:Go.V.fits d n=true):n=0:=by unfold Go.V.fits at aA;rw[h]at aA;simp[uC,sk]at aA;have aa:lq[6]?.getD 0=0:=rfl;have ab:lq[7]?.getD 0=0:=rfl;rw[aa,ab]at aA;omega
def TL{X:a1}(kJ:g2 X):∀ (p:List Int) {T:a1},g2 T->g2 (T.put p X)
 |[],T,h=>kJ
 |i::p,.mk d ks,h=>by
  obtain⟨aA,ae⟩:=h.inv;rw[a1.put];show g2 (a1.mk d (ks.set i.toNat ((ks.getD i.toNat (.mk d ks)).put p X)));refine .mk (by rw[oP];exact aA) λc ap=>?_;rcases Ae ap with ap | rfl;·exact ae c ap
  ·refine TL kJ p ?_;rw[bz];cases e:ks[i.toNat]? with
   |none=>exact h| some c=>exact ae c (rc e)
def TM{P:an->Prop}:∀ (p:List Int) {T S:a1},iT P T->T.go p=some S->iT P S
 |[],T,S,h,e=>by rw[a1.go]at e;cases e;exact h
 |i::p,.mk d ks,S,h,e=>by
  rw[a1.go]at e;split at e
  ·refine TM p ?_ e;show iT P (ks.getD i.toNat (.mk d ks));rw[bz];cases e:ks[i.toNat]? with
   |none=>exact h| some c=>exact h.inv.2 c (rc e)
  ·cases e
def adw:∀ (p:List Int) {T S:a1},g2 T->T.go p=some S->g2 S
 |[],T,S,h,e=>by rw[a1.go]at e;cases e;exact h
 |i::p,.mk d ks,S,h,e=>by
  rw[a1.go]at e;split at e
  ·refine adw p ?_ e;show g2 (ks.getD i.toNat (.mk d ks));rw[bz];cases e:ks[i.toNat]? with
   |none=>exact h| some c=>exact h.inv.2 c (rc e)
  ·cases e
def Je(h:right t=true):g2 (cw t):=by obtain⟨T,aa,ab,ak,aJ,bB⟩:=(oZ.1 h).CV;rw[ak];exact S2 (oZ.1 h).fit ab
def TN{pl:List (ByteArray×Int)}(h:right t=true):nO pl F t=(cw t).fold (lG pl F):=by obtain⟨k5,iO⟩:=qo h;obtain⟨r,af⟩:=eA k5;unfold nO abM cw;rw[af];exact apf (λd l=>rfl) (oZ.1 h) (by omega)
def pi(aw:List Int)(g:cx)(nm:ByteArray):Option Nat:=if ct nm g.ds 0<0\/k1 aw g (ct nm g.ds 0)=true then none else some (ct nm g.ds 0).toNat
def nd(aw:List Int)(g:cx)(u:Nat)(p:List Int)(d:an):Option a1:=if d.k=3 then(pi aw g d.t).map λq=>((cw (g.ds.getD u gv).t).put p (cw (g.ds.getD q gv).t)).jF else none
def tW(aw:List Int)(g:cx)(u:Nat)(X:a1):Bool:=decide (dm aw (nN (eS g.ds u (my X.post)))=0)
def nf(aw:List Int)(g:cx)(u:Nat)(p:List Int):Option a1:=((cw (g.ds.getD u gv).t).go p).bind λS=>nd aw g u p S.d
def ho(aw:List Int)(g:cx)(x:Nat×List Int):Bool:=match nf aw g x.1 x.2 with
 |some X=>tW aw g x.1 X| none=>false
structure CY(aw:List Int)(g:cx)(F:List aU):Prop where
 n:g.ds.length=g.n
 m:dm aw g=0
 IA:jM g.ds F
 left:(rY g.ds F).length=0
 loops:(pV g.ds F).length=0
def m8.I7(aB:g.ds.length=g.n)(h:m8 aw g r)(az:r.2=0):∃ F,CY aw g F:=by
 have hm:dm aw g=0:=by
  rcases h with⟨a,e⟩ | ⟨a,-⟩;·rw[e]at az;exact az
  ·exact a
 obtain⟨aa,ab⟩:=(h.get hm).1 az;rcases h with⟨a,-⟩ | ⟨-,F,bG,-⟩
 ·exact absurd hm a
 rw[Sr bG]at aa ab;exact⟨F,aB,hm,bG,aa,ab⟩
def arx(hm:dm aw g=0){d:aQ}(aj:d∈g.ds):normal d.t=true:=by have:=fx.1 (E6.1 hm).2.1 d aj;rw[cB]at this;exact this.2
def nR(hm:dm aw g=0){d:aQ}(aj:d∈g.ds):right d.t=true:=(Tt.1 (arx hm aj)).1
def adx(h:pZ t X)(aB:t.ns.length=t.n):t.a4=(my X.post).a4:=by
 have ay:X.post.length=t.ns.length:=by rw[<-h.a4,bF]
 have e:X.post.map an.a4=X.post:=by refine nU (by simp) λi aa ab=>?_;rw[g7];exact acp X _ (bx _)
 unfold bR.a4 my;simp only[h.a4,e,h.bA,ay,aB]
def ady{ds:List aQ}{y Gc:bR}(h:y.a4=Gc.a4):(eS ds u y).map aQ.a4=(eS ds u Gc).map aQ.a4:=by unfold eS;rw[sd,sd];congr 1;unfold aQ.a4;rw[h]
def ary(fM:g.ds.length=g.n)(d':pZ bm X)(aB:bm.ns.length=bm.n)(nQ:h.n=g.n)(ap:h.ds.map aQ.a4=(eS g.ds u bm).map aQ.a4):tW aw g u X=decide (dm aw h=0):=by
 unfold tW;congr 1;have:dm aw (nN (eS g.ds u (my X.post)))=dm aw h:=by rw[<-zJ,<-zJ aw h];congr 1;unfold cx.a4 nN;rw[ap,nQ,yA,fM,ady (adx d' aB)]
 rw[this]
section
variable{aw:List Int}{g:cx}{F:List aU}(hw:CY aw g F)
include hw
theorem adz{nm:ByteArray}{q:Nat}(h:pi aw g nm=some q):q<g.ds.length/\ct nm g.ds 0=(q:Int)/\k1 aw g (q:Int)=false:=by
 unfold pi at h;split at h
 ·cases h
 ·rename_i aB;have h:=fw h;obtain⟨z,bb⟩:=eA (show 0<=ct nm g.ds 0 by omega);have arz:q=z:=by rw[<-h,bb];rfl
  subst arz;obtain⟨j,ai,e,-⟩:=E2 g.ds 0 q bb;refine⟨by omega,bb,?_⟩;rw[<-bb];cases ar:k1 aw g (ct nm g.ds 0)with
  |true=>exact absurd (.inr ar) aB| false=>rfl
theorem adA(hu:u<g.ds.length)(h:nf aw g u p=some X):∃ (S:a1) (q:Nat),(cw g.ds[u].t).go p=some S/\S.d.k=3/\q<g.ds.length/\ct S.d.t g.ds 0=(q:Int)/\k1 aw g (q:Int)=false/\S.sub=[]/\q≠u/\X=((cw g.ds[u].t).put p (cw (g.ds.getD q gv).t)).jF:=by
 have ng:g.ds.getD u gv=g.ds[u]:=by simp[bz,hu]
 unfold nf at h;rw[ng]at h;cases cR:(cw g.ds[u].t).go p with
 |none=>rw[cR]at h;cases h
 |some S=>
  rw[cR]at h;have h:nd aw g u p S.d=some X:=h;unfold nd at h;split at h
  ·rename_i ak;cases aP:pi aw g S.d.t with
   |none=>rw[aP]at h;cases h
   |some q=>
    rw[aP,ng]at h;obtain⟨dG,eI,eG⟩:=adz hw aP;have af:=nR hw.m (bx hu);have arA:=adw p (Je af) cR;have kx:S.sub=[]:=by
     cases S with
     |mk d ks=>exact iK (arw ak arA.inv.1)
    refine⟨S,q,rfl,ak,dG,eI,eG,kx,λe=>?_,(fw h).symm⟩;subst e;have e6:iT (λd=>∃ e∈g.ds[q].t.ns,e.bare=d) (cw g.ds[q].t):=(MZ af).2 λd aj=>⟨d,aj,rfl⟩;have RC:=TM p e6 cR;obtain⟨e,he,oH⟩:∃ e∈g.ds[q].t.ns,e.bare=S.d:=by
     cases S with
     |mk d ks=>exact RC.inv.1
    have ar:=ac8 (aw:=aw) hw.n hw.m hu (s:=List.replicate g.ds.length false) (by simp);rw[eG,sq]at ar;have aJ:CR g.ds[q]=true:=by
     unfold CR;refine wK.2 ⟨e,he,?_⟩;have cr:e.k=3:=by
      have:e.bare.k=3:=by rw[oH];exact ak
      exact this
     have ea:e.t=S.d.t:=by rw[<-oH];rfl
     obtain⟨j,ai,ls,lY⟩:=E2 g.ds 0 q eI;have Aa:j=q:=by omega
     subst Aa;rw[fu cr,fu (ea.trans lY.symm)];rfl
    rw[ar.2]at aJ;cases aJ
  ·cases h
theorem arB(hu:u<g.ds.length)(h:nf aw g u p=some X):g2 X/\l2 X/\qX X:=by
 obtain⟨S,q,aa,ab,ak,aJ,bB,b5,dZ,rfl⟩:=adA hw hu h;have rK:g.ds.getD q gv=g.ds[q]:=by simp[bz,ak]
 rw[rK];exact⟨acO (TL (Je (nR hw.m (bx ak))) p (Je (nR hw.m (bx hu)))),acP _,aqu _⟩
theorem adB(hu:u<g.ds.length)(kJ:nf aw g u p=some X)(d':pZ bm X)(ic:bm.ns.length=bm.n)(nQ:h.n=g.n)(arC:h.ds.length=h.n)(ap:h.ds.map aQ.a4=(eS g.ds u bm).map aQ.a4) :
  (dm aw h=0\/dm aw h=40)/\tW aw g u X=decide (dm aw h=0)/\sU g.ds u (match(cw g.ds[u].t).go p with
   |some S=>(ct S.d.t g.ds 0).toNat| none=>0) bm/\∀ r,m8 aw h r->(r.2=0 ↔ dm aw h=0):=by
 obtain⟨bu,ag,D3⟩:=arB hw hu kJ;obtain⟨S,q,aa,ab,ak,aJ,bB,b5,dZ,AG⟩:=adA hw hu kJ;have rK:g.ds.getD q gv=g.ds[q]:=by simp[bz,ak]
 have ng:g.ds.getD u gv=g.ds[u]:=by simp[bz,hu]
 have tX:=d'.right bu;have rp:=d'.cw bu ag;have adC:=nR hw.m (bx hu);have qu:=nR hw.m (bx ak);have KE:∀ d∈g.ds,right d.t=true:=λd aj=>nR hw.m aj;have dY:normal bm=true:=Tt.2 ⟨tX,by rw[rp];exact D3⟩;have h9:∀ d∈bm.ns,CP g.ds d:=by
  have fj:=(E6.1 hw.m).2.2.2.2;have a2:∀ e∈g.ds,iT (CP g.ds) (cw e.t):=λe he=>(MZ (KE e he)).2 λd aj=>fj e he d aj;have:iT (CP g.ds) (cw bm):=by rw[rp,AG,rK];exact aqy (λd aj=>aj) (λh=>by cases h) (λh=>by cases h) (ac1 (a2 _ (bx ak)) p (a2 _ (bx hu)))
  exact(MZ tX).1 this
 have Pm:=aqz hw.n hw.m hu dY h9 nQ ap;have aW:sU g.ds u q bm:=by
  refine⟨hu,ak,dZ,tX,λdk oj=>?_⟩;rw[rK]at oj |-;rw[ng,TN tX,rp,AG,rK,aqj (aoG _ _) (TL (Je qu) p (Je adC)),TN adC];refine acY ?_ p _ aa;rw[<-TN qu];cases S with
  |mk d ks=>
  have b5:ks=[]:=b5;subst b5;rw[a1.fold_eq];refine aqo ab ?_ oj;have aG:=aon aJ;have a7:a1.d (.mk d [])=d:=rfl;rw[a7]at aG;rw[aG];rfl
 refine⟨Pm,ary hw.n d' ic nQ ap,?_,λr af=>?_⟩
 ·rw[aa];show sU g.ds u (ct S.d.t g.ds 0).toNat bm;rw[aJ];exact aW
 ·constructor
  ·intro az;rcases af with⟨a,e⟩ | ⟨a,-⟩
   ·rw[e]at az;exact az
   ·exact a
  ·intro hm;rw[af.get hm];rcases af with⟨a,-⟩ | ⟨-,dk,oj,-⟩
   ·exact absurd hm a
   ·obtain⟨-,aG,a7⟩:=aW.I7 KE hw.IA hw.left hw.loops ap oj;rw[Sr oj];exact⟨aG,a7⟩
end
def arD{a0:List k0}(bS:os.ok 1 (a0.map k0.val))(er:∀ r∈a0,r.ok I){e:Nat}(aj:∀ x∈os.aq e++Mr,I x.num=none)(aB:os.n<=1099511627776) :
  ∃ (I':aI),h7 [] I (os.aq e++Mr) I' Mr/\(∀ b o,I b=some o->I' b=some o)/\(⟨a0,os.a.map λg=>⟨g,0,none⟩,os.n,os.c⟩:jA).ok I':=by
 obtain⟨I',aa,ab,ak⟩:=aX.G5 (b:=24) (e:=e) bS (by omega) (λg au=>aj ⟨g,.cells os.aR.toArray e (0,0)⟩ (by simp[aX.aq,au])) Mr;exact⟨I',aa,ab,ak,λr af=>(er r af).mono ab⟩
def TO(h:c≠b):ins I b o c=I c:=by unfold ins;rw[hp h];rfl
def tY(d:aQ)(i:Nat)(s:List Bool):List an->List Bool
 |[]=>s| n::ns=>tY d i (bif decide (n.k=3)&&decide (n.t=d.name)then s.set i true else s) ns
def adD(d:aQ)(i:Nat):∀ (ns:List an) (s:List Bool),(tY d i s ns).length=s.length
 |[],s=>rfl| n::ns,s=>by rw[tY,adD d i ns];cases decide (n.k=3)&&decide (n.t=d.name)<;>simp
def adE(d:aQ)(i:Nat):∀ (ns:List an) (s:List Bool) (k:Nat),i<s.length->(tY d i s ns).getD k false=if k=i then(s.getD i false||ns.any λn=>decide (n.k=3)&&decide (n.t=d.name))else s.getD k false
 |[],s,k,hi=>by
  rw[tY,List.any_nil,Bool.or_false];split;·rename_i e;rw[e]
  ·rfl
 |n::ns,s,k,hi=>by
  rw[tY,adE d i ns _ k (by cases decide (n.k=3)&&decide (n.t=d.name)<;>simpa using hi),MA];cases h:decide (n.k=3)&&decide (n.t=d.name)with
  |false=>simp
  |true=>
   simp only[ca,L5,D7];split;·simp[bz,hi]
   ·rename_i e;simp[bz,List.getElem?_set_ne (λh=>e h.symm)]
def wZ:Nat->List aQ->List Bool->List Bool
 |_,[],s=>s| i,d::ds,s=>wZ (i+1) ds (tY d i s d.t.ns)
def adF:∀ (ds:List aQ) (d:aQ) (i:Nat) (s:List Bool),wZ i (ds++[d]) s=tY d (i+ds.length) (wZ i ds s) d.t.ns
 |[],d,i,s=>rfl| e::ds,d,i,s=>by rw[mU,wZ,wZ,adF ds d (i+1),dx,show i+1+ds.length=i+(ds.length+1) by omega]
def adG:∀ (ds:List aQ) (i:Nat) (s:List Bool) (k:Nat),i+ds.length<=s.length->(wZ i ds s).getD k false=(s.getD k false||(if h:i<=k/\k<i+ds.length then CR (ds[k-i]'(by omega))else false))
 |[],i,s,k,_=>by rw[wZ,dif_neg (by simp)];simp
 |d::ds,i,s,k,ay=>by
  rw[dx]at ay;rw[wZ,adG ds (i+1) _ k (by rw[adD];omega),adE d i _ _ k (by omega)];by_cases e:k=i;·subst e;rw[bQ rfl,dif_neg (by omega),dif_pos ⟨cc _,by rw[dx];omega⟩];simp[CR]
  ·rw[bU e];congr 1;by_cases h:i+1<=k/\k<i+1+ds.length
   ·rw[dif_pos h,dif_pos ⟨by omega,by rw[dx];omega⟩];congr 1;have:k-i=(k-(i+1))+1:=by omega
    simp[this]
   ·rw[dif_neg h,dif_neg λab=>h ⟨by omega,by rw[dx]at ab;omega⟩]
def arE(a':I b=some (.cells (s.map Value.bool).toArray 4 (0,0)))(ai:j<s.length):cM I M ((⟨b,0,none⟩:Addr).add (j*1)) 1 [.bool s[j]]:=by
 rw[eP _ rfl];refine⟨rfl,_,4,(0,0),.inl a',?_,rfl⟩;have aa:j<(s.map Value.bool).length:=by simpa using ai
 simp only[db,e0];rw[eR aa,qb,re];simp
def b2.adH{K:List aD->Prop}(a9 post:List aD)(bK:Nat)(s:List Bool){i:Nat}(hi:i<s.length)(v:Bool)(a':M=a9++iw bK s::post)(h:K (a9++iw bK (s.set i v)::post)):b2 M ((⟨bK,0,none⟩:Addr).add (i*1)) [.bool v] K:=
 b2.ix a9 post (s.map Value.bool) _ a' (BX (by rw[bF];show 0+i*1+1<=_;omega)) rfl _ (by rw[db,e0];exact Dt s i hi v) h
structure Fu(aw:List Int)(I:aI)(g:cx)(v:Value):Prop where
 ex:∃ (b1 cD bK:Nat) (s:List Bool),v=.func (.func 132) #[] #[ptr b1,ptr cD]/\I b1=some (.cells #[.slice g.a g.n g.c] 24 (0,0))/\I cD=some (.cells #[.slice (some ⟨bK,0,none⟩) g.n g.n] 138 (0,0))/\I bK=some (.cells (s.map Value.bool).toArray 4 (0,0))/\s.length=g.n/\∀ i,i<g.n->s.getD i false=k1 aw g (i:Int)
def Fu.mono(h:Fu aw I g v)(bt:∀ b o,I b=some o->I' b=some o):Fu aw I' g v:=by obtain⟨b1,cD,bK,s,aa,ab,ak,aJ,bB,b5⟩:=h.ex;exact⟨b1,cD,bK,s,aa,bt _ _ ab,bt _ _ ak,bt _ _ aJ,bB,b5⟩
def arF(hw:CY aw g F)(au:g.ok I)(hk:I b1=some (.cells #[.slice g.a g.n g.c] 24 (0,0)))(sD:I cD=some (.cells #[.slice (some ⟨bK,0,none⟩) g.n g.n] 138 (0,0)))(pC:I bK=some (.cells (s.map Value.bool).toArray 4 (0,0)))(e2:s.length=g.n)(ar:∀ i,i<g.n->s.getD i false=k1 aw g (i:Int))(nm:ByteArray) :
  Spec Tryz.prog 132 [.string nm,ptr b1,ptr cD] I M0 λv I' M'=>I'=I/\M'=M0/\∃ (Nd:bR) (b:Bool),v=.tuple #[Nd.val,.bool b]/\b=(pi aw g nm).isSome/\∀ q,pi aw g nm=some q->Nd=(g.ds.getD q gv).t:=by
 refine bZ [] a5 Tryz.func132 rfl rfl rfl ?_;intro B az;have fM:=au.n;have Fv:∀ M,cM I M ⟨b1,0,none⟩ 1 [.slice g.a g.n g.c]:=λM=>⟨rfl,_,_,_,.inl hk,rfl,rfl⟩;have arG:∀ M,cM I M ((⟨b1,0,none⟩:Addr).add 0) 1 [.slice g.a g.n g.c]:=λM=>⟨rfl,_,_,_,.inl hk,rfl,rfl⟩;have Fg:∀ M,cM I M ⟨cD,0,none⟩ 1 [.slice (some ⟨bK,0,none⟩) g.n g.n]:=λM=>⟨rfl,_,_,_,.inl sD,rfl,rfl⟩;refine aO.mk _ (Fv _) ?_;refine bc.mk [] M0 _ (.refl _) (GX au nm) ?_;rintro v J N -⟨rfl,bk,rfl⟩;subst J;by_cases Nf:ct nm g.ds 0<0
 ·have aA:pi aw g nm=none:=bQ (.inl Nf);refine cq.mk (λh=>absurd h (by simp[Nf])) (λ_=>?_);refine⟨_,_,.refl,rfl,rfl,⟨[],none,0,0,0⟩,false,rfl,by rw[aA];rfl,λq aP=>?_⟩;rw[aA]at aP;cases aP
 ·obtain⟨q,aP⟩:=eA (show 0<=ct nm g.ds 0 by omega);obtain⟨j,ai,aG,a7⟩:=E2 g.ds 0 q aP;have Ng:q<g.n:=by omega
  have ff:q<g.ds.length:=by omega
  have arH:=ar q Ng;have DF:s.getD q false=s[q]'(by omega):=by simp[bz,show q<s.length by omega]
  have rK:g.ds.getD q gv=g.ds[q]:=by simp[bz,ff]
  refine cq.mk (λ_=>?_) (λh=>absurd h (by simp[Nf]));refine aO.mk _ (Fg _) ?_;refine bf.mk ⟨bK,0,none⟩ q rfl aP Ng ?_;refine aO.mk [.bool (k1 aw g (q:Int))] ?_ ?_;·have:=arE (M:=M0) pC (j:=q) (by omega);rw[<-DF,arH]at this;exact this
  cases Bc:k1 aw g (q:Int)with
  |true=>have aA:pi aw g nm=none:=bQ (.inr (by rw[aP];exact Bc));refine aZ.mk (λ_=>?_) (λh=>by cases h);refine⟨_,_,.refl,rfl,rfl,⟨[],none,0,0,0⟩,false,rfl,by rw[aA];rfl,λq aP=>?_⟩;rw[aA]at aP;cases aP
  |false=>
   have aA:pi aw g nm=some q:=by unfold pi;rw[bU (λh=>h.elim Nf λh=>by rw[aP]at h;have h:k1 aw g (q:Int)=true:=h;rw[Bc]at h;cases h),aP];rfl
   refine aZ.mk (λh=>by cases h) (λ_=>?_);obtain⟨aS,bH,bl⟩:=au.a0.row aQ.cS Ng ff;refine aO.mk _ (arG _) ?_;refine bf.mk aS q bH aP Ng ?_;refine aO.mk _ ((bl _).part (k:=1) (m:=2) (by decide)) ?_;refine⟨_,_,.refl,rfl,rfl,g.ds[q].t,true,rfl,by rw[aA];rfl,λfD tD=>?_⟩;rw[aA]at tD;cases tD;rw[rK]
def arI{L:List (List Int)}(b4:∀ l∈L,valid L.length l):(∀ p∈mw L,∀ x∈p,0<=x/\x<(L.length:Int))/\(mw L).length<=L.length:=by
 rw[ac4 b4];refine⟨λp aC x ad=>?_,?_⟩
 ·obtain⟨q,-,rfl⟩:=cC.1 aC;obtain⟨k,ae,rfl⟩:=cC.1 ad;rw[iX,g']at ae;exact⟨D6 _,by omega⟩
 ·unfold Tv;rw[bF];exact k9 (Ba _ _) (by simp)
def arJ(ps:List (List Int))(p:List Int)(s:List Bool):wX (ps++[p]) s=Fj p (wX ps s):=by unfold wX;rw[rE];rfl
def yD(b1 cD bK:Nat)(g:cx)(s:List Bool):List aD:=[⟨cD,.cells #[.slice (some ⟨bK,0,none⟩) g.n g.n] 138 (0,0)⟩,iw bK s,⟨b1,.cells #[.slice g.a g.n g.c] 24 (0,0)⟩]
def TP:cM I (yD b1 cD bK g s) ⟨cD,0,none⟩ 1 [.slice (some ⟨bK,0,none⟩) g.n g.n]/\cM I (yD b1 cD bK g s) ⟨b1,0,none⟩ 1 [.slice g.a g.n g.c]/\cM I (yD b1 cD bK g s) ((⟨b1,0,none⟩:Addr).add 0) 1 [.slice g.a g.n g.c]:=
 ⟨⟨rfl,_,_,_,.inr ⟨_,.head _,rfl,rfl⟩,rfl,rfl⟩,⟨rfl,_,_,_,.inr ⟨_,.tail _ (.tail _ (.head _)),rfl,rfl⟩,rfl,rfl⟩,⟨rfl,_,_,_,.inr ⟨_,.tail _ (.tail _ (.head _)),rfl,rfl⟩,rfl,rfl⟩⟩
def adI(bs:fQ I aw)(hw:CY aw g F)(au:g.ok I)(arK:g.n<=1099511627776)(hj:∀ d∈g.ds,d.t.n<=1099511627776):Spec Tryz.prog 78 [g.val] I [] λv I' M'=>(∀ b o,I b=some o->I' b=some o)/\M'=[]/\Fu aw I' g v:=by
 refine yV [1,3] a5 Tryz.func78 rfl rfl rfl ?_;intro B az;have fM:=au.n;refine bX.mk λb1 hk ML=>?_;refine aO.mk _ ⟨rfl,_,_,_,.inr ⟨_,.head _,rfl,rfl⟩,rfl,rfl⟩ ?_;refine mG.mk g.n g.n rfl rfl (cc _) (by show 1*g.n<=_;omega) (by omega) ?_;refine bX.mk λbK pC avE=>?_;refine bX.mk λcD sD TQ=>?_;refine b2.mk [] _ #[.slice none 0 0] 138 rfl rfl (bJ rfl) rfl ?_;have arL:(rowOf [Value.bool false] (g.n*1)).toArray=((List.replicate g.n false).map Value.bool).toArray:=by congr 1;refine nU (by simp[rowOf]) λi aa ab=>?_;simp[rowOf,Nat.mod_one]
 rw[arL];refine aO.mk _ ⟨rfl,_,_,_,.inr ⟨_,.tail _ (.tail _ (.head _)),rfl,rfl⟩,rfl,rfl⟩ ?_;refine bc.yI [] (yD b1 cD bK g (List.replicate g.n false)) _ (.refl _) (ahW bs au arK) ?_;rintro v J py bk dr⟨-,os,a0,rfl,bS,er,fa,rfl⟩;have arM:=KB fM;have d':(h1 g).length=g.n:=by simp[h1,fM]
 have fa:a0.map (·.l)=mw (h1 g):=by rw[fa];unfold Hb;rw[fu hw.m];rfl
 have KF:os.n=a0.length:=by have:=bS.len;simp only[bF]at this;omega
 obtain⟨aV,c2⟩:=arI arM;have avF:a0.length=(mw (h1 g)).length:=by rw[<-fa,bF]
 obtain⟨tu,arN,Nh,ad⟩:=arD bS er dr (by omega);have adJ:∀ b o,I b=some o->tu b=some o:=λb o h=>Nh _ _ (bk _ _ h);have Hi:=au.mono adJ;refine de.inv (ι:=Nat×List Bool) (λx=>{ bj:=[(1,.val (ptr b1)),(3,.val (ptr cD)),(17,.val os.val),(18,.val (.int .i64 os.n)),(19,.val (.int .i64 (x.1:Int)))],cl:=[],cI:=tu,c1:=yD b1 cD bK g x.2 }) (λx=>x.1<=os.n/\x.2.length=g.n/\x.2=wX ((mw (h1 g)).take x.1) (List.replicate g.n false)) (λx=>os.n-x.1) ?_ ?_
 ·exact⟨(0,_),⟨dz _,by simp,rfl⟩,arN,gf,.nil⟩
 rintro⟨k,s⟩⟨ae,e2,ar⟩;simp only at ae e2 ar;refine aZ.mk (λh=>?_) (λh=>?_)
 ·have cy:k<os.n:=by have:(k:Int)<(os.n:Int):=dh h;omega
  have Hd:k<a0.length:=by omega
  obtain⟨aS,bH,bl⟩:=ad.a0.one cy Hd;have e':=er _ (bx Hd);have gp:=e'.mono Nh;have gL:=e'.n;have xN:=e'.a0.cap;have kt:(mw (h1 g))[k]'(by omega)=a0[k].l:=by
   have aa:(a0.map (·.l))[k]?=(mw (h1 g))[k]?:=by rw[fa]
   rw[iG,da Hd,da (by omega)]at aa;exact(fw aa).symm
  have mR:(mw (h1 g)).take (k+1)=(mw (h1 g)).take k++[a0[k].l]:=by rw[fZ (by omega),kt]
  have tq:=aV _ (bx (show k<(mw (h1 g)).length by omega));rw[kt]at tq;generalize a0[k]=r at *;have arO:decide ((1:Int)<(r.n:Int))=decide (1<r.l.length):=by
   rw[gL];by_cases e:1<r.n;·rw[fu e,fu (by omega)]
   ·rw[eB e,eB (by omega)]
  refine bf.mk aS k bH rfl cy ?_;refine aO.mk _ (bl _) ?_;refine de.inv (ι:=Nat×List Bool) (λx=>{ bj:=[(1,.val (ptr b1)),(3,.val (ptr cD)),(5,.val r.val),(17,.val os.val),(18,.val (.int .i64 os.n)),(19,.val (.int .i64 (k:Int))),(23,.val r.val),(24,.val (.int .i64 r.n)),(25,.val (.int .i64 (x.1:Int)))],cl:=[],cI:=tu,c1:=yD b1 cD bK g x.2 }) (λx=>x.1<=r.n/\x.2.length=g.n/\x.2=(r.l.take x.1).foldl (λs i=>s.set i.toNat (decide (1<r.l.length))) s) (λx=>r.n-x.1) ?_ ?_;·exact⟨(0,s),⟨dz _,e2,rfl⟩,.refl,j3,.nil⟩
  rintro⟨j,b3⟩⟨ai,TR,om⟩;simp only at ai TR om;refine aZ.mk (λh=>?_) (λh=>?_)
  ·have eM:j<r.n:=by have:(j:Int)<(r.n:Int):=dh h;omega
   have iy:j<r.l.length:=by omega
   obtain⟨Ni,TS,Cz⟩:=gp.a0.one eM iy;have ah:=tq _ (bx iy);have arP:r.l.take (j+1)=r.l.take j++[r.l[j]]:=fZ iy;generalize r.l[j]=z at *;obtain⟨z,rfl⟩:=eA ah.1;have bb:z<g.n:=by omega
   refine bf.mk Ni j TS rfl eM ?_;refine aO.mk _ (Cz _) ?_;refine aO.mk _ TP.1 ?_;refine bf.mk ⟨bK,0,none⟩ z rfl rfl bb ?_;refine b2.adH [⟨cD,.cells #[.slice (some ⟨bK,0,none⟩) g.n g.n] 138 (0,0)⟩] [⟨b1,.cells #[.slice g.a g.n g.c] 24 (0,0)⟩] bK b3 (by omega) (decide ((1:Int)<(r.n:Int))) rfl ?_;refine bg.mk _ (cK (i:=j) (by omega)) ?_;refine⟨(j+1,b3.set z (decide (1<r.l.length))),⟨⟨eM,by simp[TR],?_⟩,by simp only;omega⟩,.n5 (by rw[arO];rfl),j3,.nil⟩;simp only;rw[arP,rE,<-om];rfl
  ·have cA:¬ (j:Int)<(r.n:Int):=dO h;refine bg.mk _ (cK (i:=k) (by omega)) ?_;refine⟨(k+1,b3),⟨⟨cy,TR,?_⟩,by simp only;omega⟩,.refl,gf,.nil⟩;simp only;rw[mR,arJ,<-ar,om,ft (by omega)];rfl
 have cA:¬ (k:Int)<(os.n:Int):=dO h;have ar:s=wX (mw (h1 g)) (List.replicate g.n false):=by rw[ar,ft (by omega)]
 refine aO.mk _ TP.2.2 ?_;refine de.inv (ι:=Nat×List Bool) (λx=>{ bj:=[(1,.val (ptr b1)),(3,.val (ptr cD)),(38,.val (.slice g.a g.n g.c)),(39,.val (.int .i64 g.n)),(40,.val (.int .i64 (x.1:Int)))],cl:=[],cI:=tu,c1:=yD b1 cD bK g x.2 }) (λx=>x.1<=g.n/\x.2.length=g.n/\x.2=wZ 0 (g.ds.take x.1) s) (λx=>g.n-x.1) ?_ ?_
 ·exact⟨(0,s),⟨dz _,e2,rfl⟩,.refl,gf,.nil⟩
 rintro⟨i,s1⟩⟨hi,TT,fo⟩;simp only at hi TT fo;refine aZ.mk (λh=>?_) (λh=>?_)
 ·have dI:i<g.n:=by have:(i:Int)<(g.n:Int):=dh h;omega
  have lR:i<g.ds.length:=by omega
  obtain⟨aS,bH,bl⟩:=Hi.a0.row aQ.cS dI lR;have aj:=Hi.ds _ (bx lR);have mR:g.ds.take (i+1)=g.ds.take i++[g.ds[i]]:=fZ lR;have arQ:=hj _ (bx lR);have uP:(g.ds.take i).length=i:=by rw[hU];omega
  generalize g.ds[i]=d at *;have arR:=aj.t.n;obtain⟨pb,⟨ns,nZ,jy,oM,ih⟩⟩:=d;simp only at arR arQ;refine bf.mk aS i bH rfl dI ?_;refine aO.mk _ (bl _) ?_;refine de.inv (ι:=Nat×List Bool) (λx=>{ bj:=[(1,.val (ptr b1)),(3,.val (ptr cD)),(8,.val (.int .i64 (i:Int))),(9,.ref 9 0),(38,.val (.slice g.a g.n g.c)),(39,.val (.int .i64 g.n)),(40,.val (.int .i64 (i:Int))),(47,.val (.slice nZ jy oM)),(48,.val (.int .i64 jy)),(49,.val (.int .i64 (x.1:Int)))],cl:=[(9,[.string pb,.slice nZ jy oM,.int .i64 ih])],cI:=tu,c1:=yD b1 cD bK g x.2 }) (λx=>x.1<=jy/\x.2.length=g.n/\tY ⟨pb,⟨ns,nZ,jy,oM,ih⟩⟩ i x.2 (ns.drop x.1)=tY ⟨pb,⟨ns,nZ,jy,oM,ih⟩⟩ i s1 ns) (λx=>jy-x.1) ?_ ?_;·exact⟨(0,s1),⟨dz _,TT,rfl⟩,.refl,A8,.cons rfl (.nil)⟩
  rintro⟨j,s2⟩⟨ai,CJ,ik⟩;simp only at ai CJ ik;refine aZ.mk (λh=>?_) (λh=>?_)
  ·have eM:j<jy:=by have:(j:Int)<(jy:Int):=dh h;omega
   have iy:j<ns.length:=by omega
   obtain⟨Ni,TS,Cz⟩:=aj.t.a0.row an.cS (j:=j) eM iy;have ja:ns.drop j=ns[j]::ns.drop (j+1):=eR iy;rw[ja,tY]at ik;generalize f':ns[j]=x at *;have Cz:∀ M,cM tu M (Ni.add (j*9)) 9 x.cells:=Cz;obtain⟨Nj,sg,adK,avG,avH,Nk,avI,avJ,xa,Fw,xc,avK⟩:=x;refine bf.mk Ni j TS rfl eM ?_;refine aO.mk _ (Cz _) ?_;have vv:=cK (i:=j) (by omega);by_cases ak:Nj=3
   ·refine cq.mk (λ_=>?_) (λh=>absurd h (by simp[ak]));by_cases h9:Nk=pb
    ·refine aZ.mk (λ_=>?_) (λh=>absurd h (by simp[h9]));have eu:(bif decide (Nj=3)&&decide (Nk=pb)then s2.set i true else s2)=s2.set i true:=by rw[fu ak,fu h9];rfl
     simp only at ik;rw[eu]at ik;refine aO.mk _ TP.1 ?_;refine bf.mk ⟨bK,0,none⟩ i rfl rfl dI ?_;refine b2.adH [⟨cD,.cells #[.slice (some ⟨bK,0,none⟩) g.n g.n] 138 (0,0)⟩] [⟨b1,.cells #[.slice g.a g.n g.c] 24 (0,0)⟩] bK s2 (by omega) true rfl ?_;refine bg.mk _ vv ?_;exact⟨(j+1,s2.set i true),⟨⟨eM,by simp[CJ],ik⟩,by simp only;omega⟩,.refl,A8,.cons rfl (.nil)⟩
    ·refine aZ.mk (λh=>absurd h (by simp[h9])) (λ_=>?_);have eu:(bif decide (Nj=3)&&decide (Nk=pb)then s2.set i true else s2)=s2:=by rw[eB h9,DM];rfl
     simp only at ik;rw[eu]at ik;refine bg.mk _ vv ?_;exact⟨(j+1,s2),⟨⟨eM,CJ,ik⟩,by simp only;omega⟩,.refl,A8,.cons rfl (.nil)⟩
   ·refine cq.mk (λh=>absurd h (by simp[ak])) (λ_=>?_);have eu:(bif decide (Nj=3)&&decide (Nk=pb)then s2.set i true else s2)=s2:=by rw[eB ak];rfl
    simp only at ik;rw[eu]at ik;refine bg.mk _ vv ?_;exact⟨(j+1,s2),⟨⟨eM,CJ,ik⟩,by simp only;omega⟩,.refl,A8,.cons rfl (.nil)⟩
  ·have cA:¬ (j:Int)<(jy:Int):=dO h;rw[jH (by omega),tY]at ik;refine bg.mk _ (cK (i:=i) (by omega)) ?_;refine⟨(i+1,s2),⟨⟨dI,CJ,?_⟩,by simp only;omega⟩,.refl,gf,.nil⟩;simp only;rw[mR,adF,<-fo,ik,uP,db]
 have Wt:¬ (i:Int)<(g.n:Int):=dO h;have fo:s1=wZ 0 g.ds s:=by rw[fo,ft (by omega)]
 have nD:∀ q,q<g.n->s1.getD q false=k1 aw g (q:Int):=λq aP=>by rw[fo,adG g.ds 0 s q (by omega),dif_pos ⟨dz _,by omega⟩];have:=ac8 (aw:=aw) hw.n hw.m (i:=q) (by omega) (s:=List.replicate g.n false) (by simp[fM]);rw[<-this];show(s.getD q false||_)=((wX (mw (h1 g)) (List.replicate g.n false)).getD q false||_);rw[<-ar];rfl
 intro fC;have d3:=fC.d _ (.head _);have ds:=fC.d _ (.tail _ (.head _));have d1:=fC.d _ (.tail _ (.tail _ (.head _)));have bI:=fC.cd;simp only[yD,iw,cb,hr,kM,ee,List.not_mem_nil,or_false,not_or]at bI;obtain⟨⟨qq,j5⟩,KP,-⟩:=bI;simp only[iw]at d3 ds d1;have aG:ins tu cD (.cells #[.slice (some ⟨bK,0,none⟩) g.n g.n] 138 (0,0)) bK=none:=by rw[TO (po qq)];exact ds
 have a7:ins (ins tu cD (.cells #[.slice (some ⟨bK,0,none⟩) g.n g.n] 138 (0,0))) bK (.cells (s1.map Value.bool).toArray 4 (0,0)) b1=none:=by rw[TO (po KP),TO (po j5)];exact d1
 refine⟨_,[],.kN rfl (by simp) (.kN rfl (by simp) (.kN rfl (by simp) .refl)),λb o h=>hI a7 _ _ (hI aG _ _ (hI d3 _ _ (adJ _ _ h))),rfl,⟨b1,cD,bK,s1,rfl,mr ..,?_,?_,TT,nD⟩⟩
 ·exact hI a7 _ _ (hI aG _ _ (mr ..))
 ·exact hI a7 _ _ (mr ..)
section
variable{P:Program}{w:World}
def arS(t u ty e:Nat)(i:TypeInfo)(z:Value)(av:P.underlying t=some (.slice e)){mi:TypeDesc}(hu:P.underlying u=some mi)(nV:∀ k,mi≠.int k)(hi:P.info? e=some i)(bb:i.zero=some z)(qh:z.cells.size=i.size)
 (hl:xs.length=n*i.size) (Hj:∀ w':World,w'.heap=w.heap->∀ j v,xs[j]?=some v->w'.cell? (aS.add j)=some v)
  {x:Value} (hm:0<m) (ay:b8.length=m*i.size)
  (c2:∀ w',(Builtin.lenOf x).run P w'=.ok m w') (e4:∀ w':World,w'.heap=w.heap->(Builtin.firstCells i.size m x).run P w'=.ok b8.toArray w')
  (b1:n+m<=maxLen) (b0:(n+m)*i.bytes<=140737488355328) :
  ∃ (c:Nat) (aR:List Value),(Builtin.append_ #[t,u] ty #[.slice (some aS) n n,x]).run P w=.ok (.slice (some ⟨w.heap.size,0,none⟩) (n+m) c) (w.drew.alloc (.cells aR.toArray e (0,0)))/\aR.length=c*i.size/\n+m<=c/\c<=maxLen/\aR.take ((n+m)*i.size)=xs++b8:=by
 have Dr:(xs++b8).length=(n+m)*i.size:=by rw[cm,hl,ay,lL]
 have JX:∀ dE,(xs++b8++(Builtin.zeroCells z.cells (grownCap w (n+m) dE e-(n+m))).toList).length=grownCap w (n+m) dE e*i.size/\n+m<=grownCap w (n+m) dE e/\grownCap w (n+m) dE e<=maxLen /\
   (xs++b8++(Builtin.zeroCells z.cells (grownCap w (n+m) dE e-(n+m))).toList).take ((n+m)*i.size)=xs++b8:=by
  intro dE;have cA:=grownCap_ge w (n+m) dE e;have kv:grownCap w (n+m) dE e<=maxLen:=grownCap_le_maxLen w (n+m) dE e b1;refine⟨?_,cA,kv,?_⟩;·rw[cm,Dr,yW,size_zeroCells,qh,<-lL];congr 1;omega
  ·rw[<-Dr];exact yY
 have hk:n+m<=9223372036854775807:=by simp only[maxLen]at b1;exact b1
 have aB:m≠0:=by omega
 have uA:¬ (n+m<=n):=by omega
 have Bm:¬ (9223372036854775807<((n:Int)+(m:Int))):=by omega
 have Bn:¬ (281474976710656<Builtin.nextslicecap (n+m) n*i.bytes):=by have:=growslice_fits (by omega:n<n+m) b0;omega
 have aA:=e4 w.drew rfl;have Om:=run_firstCells_some (P:=P) w.drew i.size n aS n n xs hl (Hj w.drew rfl);obtain⟨a8,ba,bP,fr⟩:=JX n;refine⟨grownCap w (n+m) n e,_,?_,a8,ba,bP,fr⟩;simp[Builtin.append_,run_underlying av,run_underlying hu,sizeOf,typeInfo,zeroValue,hi,bb,c2,aB,uA,Bm,Bn,Question.forced,aA,Om,newRow,grownCap];congr 2;apply gS;simp
end
section
variable{X:cV}{β:Nat->Nat}{a:Act}{w:World}{F:Fr}{C:dB}{I:aI}{M:List aD}{o:Oper}{K:gd}
def arT{P:Program}(aB:cM I M aS (m*size) b8){w:World}(hw:ey I M w):(Builtin.firstCells size m (.slice (some aS) m c')).run P w=.ok b8.toArray w:=by
 obtain⟨dK,cs,T,al,e8,ah,ay⟩:=aB;refine run_firstCells_some (P:=P) w size m aS m c' b8 ay λj v ai=>?_;rw[eP _ dK,s7 (e8.heap hw)];rw[<-ah,k6]at ai;split at ai
 ·rw[nj]at ai;simpa using ai
 ·cases ai
def adL(h:cM I M aS n xs):xs.length=n:=by obtain⟨_,_,_,_,_,_,h⟩:=h;exact h
def qe.arU{K:dA->aI->List aD->Prop}(aM:cU X.P X.E){s:Operand}{t:Nat}(aH:o.op=.call { callee:=.builtin .append,args:=#[s,x],argTypes:=#[t,t] })
  {e:Nat} (av:X.E t=some c7) (dR:c7.bL=.slice e) (he:X.E e=some aF)
  {sa:Addr} (ar:bE F s=.val (.slice (some sa) n n)) (bl:cM I M sa (n*aF.size) xs)
 (ad:bE F x=.val (.slice (some aS) m c')) (hm:0<m) (aB:cM I M aS (m*aF.size) b8) (b1:n+m<=maxLen) (b0:(n+m)*aF.bytes<=140737488355328)
  (M':aX->List aD) (x9:∀ br:aX,(br.aq e++M).Perm (M' br))
  (k:∀ br:aX,br.n=n+m->(∀ g,br.a=some g->I g=none/\g ∉ X.foot)->br.ok aF.size (xs++b8)->K (.val br.val) I (M' br)):qe X o F C I M K:=by
 refine⟨fun β a w Q aW=>?_⟩;have hl:=adL bl;have yt:=adL aB;have e4:∀ w,ey I M w->(Builtin.firstCells aF.size m (.slice (some aS) m c')).run X.P w=.ok b8.toArray w:=λw hw=>arT aB hw;obtain⟨inf,z,hi,fh,iJ,il,ko⟩:=(aM _ _ he).inf;obtain⟨fK,jJ,j4⟩:=(aM _ _ av).fl;have qi:fK=.slice e:=by rw[dR]at j4;cases fK<;>simp_all[fk]
 subst qi;have qh:z.cells.size=inf.size:=by rw[fh,<-(aM _ _ he).len,<-ko];simp
 rw[<-fh]at hl yt e4;obtain⟨c,aR,e9,a8,ba,bP,fr⟩:=arS (P:=X.P) (w:=w) t t o.type e inf z jJ jJ (λk cW=>by cases cW) hi il qh hl (λw' xx j v ai=>bl.LM (aW.holds.heap xx) j v ai) (x:=.slice (some aS) m c') hm yt (λ_=>rfl) (λw' xx=>e4 w' (aW.holds.heap xx)) b1 (by rw[iJ];exact b0);rw[fh]at a8 fr hl yt;have zb:I w.heap.size=none:=by
  cases bt:I w.heap.size with
  |none=>rfl| some nx=>have:=aW.holds.i _ _ bt;simp at this
 have es:=dc aW.al ar;have ex:=dc aW.al ad;have kI:(⟨some w.heap.size,n+m,c,aR⟩:aX).ok aF.size (xs++b8):=by
  refine⟨?_,(λh=>by cases h),λdJ au=>?_⟩;·rw[cm,hl,yt,<-lL]
  ·cases au;exact⟨a8,ba,bP,fr⟩
 refine iV (by rw[aH];simp) (v:=.slice (some ⟨w.heap.size,0,none⟩) (n+m) c) (w':=w.drew.alloc (.cells aR.toArray e (0,0))) ?_ ⟨_,.val (.slice (some ⟨w.heap.size,0,none⟩) (n+m) c),I,M' ⟨some w.heap.size,n+m,c,aR⟩,rfl,rfl,?_,k ⟨some w.heap.size,n+m,c,aR⟩ rfl (λdJ au=>by cases au;exact⟨zb,λhm=>by have aa:=aW.fm _ hm;have ab:=aW.sz;omega⟩) kI,rfl⟩
 ·unfold execOp;simp only[aH,resolve,invoke,builtin,cj,c0,bV,sc,cb,hr,es,ex,e9]
 ·refine cH.hS ?_ (.perm (x9 _) .refl);have ab:cH X β a w.drew F C I M:=aW.world rfl;exact ab.nS (.cells aR.toArray e (0,0))
end
namespace a1
mutual
def paths:a1->List (List Int)
 |mk _ ks=>[]::sX 0 ks
def sX:Nat->List a1->List (List Int)
 |_,[]=>[]| i,c::cs=>c.paths.map (λp=>(i:Int)::p)++sX (i+1) cs
end
def Fx(d:an)(ks:List a1):(mk d ks).paths=[]::sX 0 ks:=by rw[paths]
def Nl(i:Nat)(c:a1)(cs:List a1):sX i (c::cs)=c.paths.map (λp=>(i:Int)::p)++sX (i+1) cs:=by rw[sX]
def Nm(i:Nat):sX i []=[]:=by rw[sX]
def adM(T:a1):0<T.paths.length:=by
 cases T with
 |mk d ks=>rw[Fx];simp
end a1
def kj(l:List Int):List Value:=l.map (.int .i64 ·)
def arV(I:aI)(p:List Int)(v:Value):Prop:=∃ a c,v=.slice a p.length c/\c3 I a p.length c 1 8 (kj p)/\(p.length=0->a=none)
def TU(h:c≠b):ins I b o c=I c:=by unfold ins;rw[hp h];rfl
def adN(t:bR)(k:Int)(a:Option Addr)(n c:Nat):Spec Tryz.prog 98 [t.val,.int .i64 k,.slice a n c] I [] λr I' M'=>∃ b1 b0 cD,r=.func (.func 152) #[] #[ptr b1,ptr b0,ptr cD]/\I' b1=some (.cells #[.slice a n c] 55 (0,0))/\I' b0=some (.cells #[.slice t.a t.n t.c,.int .i64 t.bA] 31 (0,0))/\I' cD=some (.cells #[.int .i64 k] 3 (0,0))/\(∀ b o,I b=some o->I' b=some o)/\M'=[]:=by
 refine bZ [3,4,5] a5 Tryz.func98 rfl rfl rfl ?_;intro B az;refine bX.mk λcD sD TQ=>?_;refine bX.mk λhM HX ye=>?_;refine bX.mk λeQ zv S1=>?_;have arW:cD≠hM:=ye _ (.head _);have arX:hM≠eQ:=S1 _ (.head _);have arY:cD≠eQ:=S1 _ (.tail _ (.head _));have aJ:ins I eQ (.cells #[.slice a n c] 55 (0,0)) hM=none:=by rw[TU arX];exact HX
 have ak:ins (ins I eQ (.cells #[.slice a n c] 55 (0,0))) hM (.cells #[.int .i64 k] 3 (0,0)) cD=none:=by rw[TU arW,TU arY];exact sD
 refine⟨_,_,.kN rfl (by simp) (.kN rfl (by simp) (.kN rfl (by simp) .refl)),eQ,cD,hM,rfl,?_,mr ..,?_,λb o h=>hI ak _ _ (hI aJ _ _ (hI zv _ _ h)),rfl⟩
 ·exact hI ak _ _ (hI aJ _ _ (mr ..))
 ·exact hI ak _ _ (mr ..)
def arZ(a9:List Int)(T:a1)(j:Nat)(vs:List Value)(I:aI):Prop:=∃ p v,T.paths[j]?=some p/\vs=[v]/\arV I (a9++p) v
def qe.ar0{X:cV}{F:Fr}{C:dB}{o:Oper}(aM:cU X.P X.E){s:Operand}{t:Nat}(aH:o.op=.call { callee:=.builtin .append,args:=#[s,x],argTypes:=#[t,t] })
  {e:Nat} (av:X.E t=some c7) (dR:c7.bL=.slice e) (he:X.E e=some aF) (kw:aF.size=1)
 (af:c3 I a n c 1 8 (kj p)) (az:n=0->a=none) (ar:bE F s=.val (.slice (if n=0 then a else a.map (·.add (0*1))) (n-0) (n-0)))
 (ad:bE F x=.val (.slice (some ⟨b9,0,none⟩) 1 c')) (ay:cs.length=aF.size) (aa:gm cs=true)
  (a':(⟨b9,.cells cs.toArray e (0,0)⟩:aD)∈M) (b1:n+1<=9223372036854775807) (b0:(n+1)*aF.bytes<=140737488355328)
  (k:∀ br:aX,br.n=n+1->(∀ g,br.a=some g->I g=none/\g ∉ X.foot)->br.ok 1 (kj p++cs)->K (.val br.val) I (br.aq e++M)):qe X o F C I M K:=by
 have ou:=af.len;have adO:cM I M ⟨b9,0,none⟩ (1*aF.size) cs:=by rw[oy];refine⟨rfl,_,_,_,.inr ⟨⟨b9,.cells cs.toArray e (0,0)⟩,a',rfl,rfl⟩,?_,ay⟩;simp only[vM];exact ft (by omega)
 by_cases aB:n=0
 ·subst aB;have aC:kj p=[]:=iK (by omega);rw[aC]at k;rw[az rfl]at ar;refine .acf aM aH av dR he hZ (xs:=[]) (lv _) (ar.trans rfl) ad (by decide) adO aa (Mr:=M) (.refl _) (by unfold maxLen;exact b1) b0 _ (λ_=>.refl _) λbr ab ak aJ=>k br ab (λg au=>⟨(ak g au).1,(ak g au).2 rfl⟩) (by rw[kw]at aJ;exact aJ)
 ·rcases af.rd with h | ⟨aS,bH,dK,Px,T,al,bt,ah⟩
  ·exact absurd h aB
  rw[bU aB,bH]at ar;refine .arU aM aH av dR he (sa:=aS.add (0*1)) (n:=n) (xs:=kj p) (ar.trans rfl) ?_ ad (by decide) adO (by unfold maxLen;exact b1) b0 _ (λ_=>.refl _) λbr ab ak aJ=>k br ab ak (by rw[kw]at aJ;exact aJ);rw[kw];exact⟨dK,Px,T,al,.inl bt,by simpa[Addr.add]using ah,ou⟩
def adP{t:bR}(af:right t=true)(ic:t.n<=1099511627776):∀ (m k:Nat),k<m->(ae:k<t.ns.length)->∀ {I:aI} (av:t.ok I) {a9:List Int} {a:Option Addr} {n c:Nat} (jw:a9.length=n) (c2:n+k<=1099511627776) (Nn:c3 I a n c 1 8 (kj a9)) (gN:n=0->a=none) {b1 b0 cD:Nat} (hk:I b1=some (.cells #[.slice a n c] 55 (0,0))) (gU:I b0=some (.cells #[.slice t.a t.n t.c,.int .i64 t.bA] 31 (0,0))) (sD:I cD=some (.cells #[.int .i64 (k:Int)] 3 (0,0))),U' Tryz.prog 152 [ptr b1,ptr b0,ptr cD] I (gk t.ns k).paths.length (arZ a9 (gk t.ns k))
 |0,k,h,_,_,_,_,_,_,_,_,_,_,_,_,_,_,_,_,_=>absurd h (nM _)
 |m+1,k,avL,ae,I,av,a9,a,n,c,jw,c2,Nn,gN,b1,b0,cD,hk,gU,sD=>by
  intro y R kS xt qp dp M0 lu iu;have TB:=av.n;refine yT [4] a5 Tryz.func152 rfl rfl rfl ?_;intro B az;have Fv:∀ (I1:aI) (M:List aD),(∀ b o,I b=some o->I1 b=some o)->cM I1 M ⟨b1,0,none⟩ 1 [.slice a n c]:=λI1 M cn=>⟨rfl,_,_,_,.inl (cn _ _ hk),rfl,rfl⟩;have Av:∀ (I1:aI) (M:List aD),(∀ b o,I b=some o->I1 b=some o)->cM I1 M ⟨b0,0,none⟩ 2 [.slice t.a t.n t.c,.int .i64 t.bA]:=λI1 M cn=>⟨rfl,_,_,_,.inl (cn _ _ gU),rfl,rfl⟩;have ar1:∀ (I1:aI) (M:List aD),(∀ b o,I b=some o->I1 b=some o)->cM I1 M ((⟨b0,0,none⟩:Addr).add 0) 1 [.slice t.a t.n t.c]:=λI1 M cn=>⟨rfl,_,_,_,.inl (cn _ _ gU),rfl,rfl⟩;have Fg:∀ (I1:aI) (M:List aD),(∀ b o,I b=some o->I1 b=some o)->cM I1 M ⟨cD,0,none⟩ 1 [.int .i64 (k:Int)]:=λI1 M cn=>⟨rfl,_,_,_,.inl (cn _ _ sD),rfl,rfl⟩;have bs:=wW af ae;have ot:=a1.adM (gk t.ns k);have ar2:(gk t.ns k).paths[0]?=some []:=by rw[bs,a1.Fx];rfl
  refine bX.mk λhM HX ye=>?_;refine aO.mk [.func (.yield y) #[] #[]] (c4 (cs:=[.func (.yield y) #[] #[]]) (k:=0) (n:=1) (.head _) (by simp)) ?_;refine aO.mk _ (Fv _ _ lu) ?_;refine bw.yield rfl (by simp) rfl rfl ?_;have aE:=qp 0 ot [.slice a n c] dp M0 lu ⟨[],_,ar2,rfl,a,c,by rw[ef,jw],by rw[ef,jw];exact Nn.mono lu,by rw[ef,jw];exact gN⟩ iu;refine y6.mk M0 [_] _ (J4 _ _).symm aE ?_;rintro v dv df en (⟨rfl,lp⟩ | ⟨rfl,ad⟩)
  rotate_left
  ·refine aZ.mk (λ_=>?_) (λh=>by simp at h);exact⟨_,_,.sub (tw _ _) .refl,.inr ad⟩
  refine aZ.mk (λh=>by simp at h) (λ_=>?_);have Fy:∀ b o,I b=some o->dv b=some o:=λb o h=>en _ _ (lu _ _ h);obtain⟨aS,bH,ar3⟩:=av.a0.row an.cS (j:=k) (by omega) ae;have hH:=av.ns _ (bx ae);have e8:=hH.aL;have rJ:=hH.a0.cap;refine aO.mk _ (ar1 _ _ Fy) ?_;refine aO.mk _ (Fg _ _ Fy) ?_;refine bf.mk aS k bH rfl (by omega) ?_;refine aO.mk _ (((ar3 _).mono Fy).part (k:=8) (m:=1) (by decide)) ?_;have ar4:hM ∉ M0.map (·.num):=λhm=>by obtain⟨x,ad,e⟩:=cC.1 hm;exact ye x ad e
  refine de.vK (ι:=Nat×Nat×aI×List aD) (λx=>{ bj:=[(1,.val (ptr b1)),(2,.val (ptr b0)),(3,.val (ptr cD)),(4,.val (ptr hM)),(17,.val (.slice t.ns[k].dy t.ns[k].aL t.ns[k].dq)),(18,.val (.int .i64 t.ns[k].aL)),(19,.val (.int .i64 (x.1:Int)))],cI:=x.2.2.1,c1:=x.2.2.2 }) (λx=>x.1<=t.ns[k].aL/\(∀ b o,I b=some o->x.2.2.1 b=some o)/\x.2.2.1 hM=some (.cells #[.func (.yield y) #[] #[]] 216 (0,0))/\R x.2.1 x.2.2.1 x.2.2.2/\x.2.1<=(gk t.ns k).paths.length/\(gk t.ns k).paths.drop x.2.1=a1.sX x.1 ((t.ns[k].ax.map (gk t.ns)).drop x.1)) (λx=>t.ns[k].aL-x.1) ?_ ?_;·intro fC;have adQ:dv hM=none:=fC.d _ (ra _ (.head _));refine⟨(0,1,ins dv hM _,df),⟨dz _,λb o h=>hI adQ _ _ (Fy _ _ h),mr ..,xt _ _ _ _ (hI adQ) lp,by simp only;omega,?_⟩,.perm (J4 _ _) (.kN rfl ar4 .refl),p',.nil⟩;simp only[vM];rw[bs,a1.Fx];rfl
  rintro⟨i,pW,J,M1⟩⟨hi,bk,hg,g0,EN,hB⟩;simp only at hi bk hg g0 EN hB;refine aZ.mk (λh=>?_) (λh=>?_)
  rotate_left
  ·have cA:¬ (i:Int)<(t.ns[k].aL:Int):=dO h;have aG:(t.ns[k].ax.map (gk t.ns)).drop i=[]:=jH (by rw[bF];omega);rw[aG,a1.Nm,Bq]at hB;have:pW=(gk t.ns k).paths.length:=by omega
   subst this;exact⟨_,_,.refl,.inl g0⟩
  have aV:i<t.ns[k].aL:=by have:(i:Int)<(t.ns[k].aL:Int):=dh h;omega
  have ch:i<t.ns[k].ax.length:=by omega
  obtain⟨ac,ar5,xN⟩:=hH.a0.one aV ch;have Ah:=mm af k ae _ (bx ch);obtain⟨q,aP⟩:=eA Ah.1;have avM:q<k:=by omega
  rw[aP]at xN;have As:(t.ns[k].ax.map (gk t.ns)).drop i=gk t.ns q::(t.ns[k].ax.map (gk t.ns)).drop (i+1):=by rw[eR (by rw[bF];exact ch),g7,aP]
  rw[As,a1.Nl]at hB;refine bf.mk ac i ar5 rfl aV ?_;refine aO.mk _ ((xN _).mono bk) ?_;refine cY.agb (λi=>Nat.beq i 0) a5 rfl rfl rfl ?_;refine aO.mk _ (Av _ _ bk) ?_;refine aO.mk _ (Fv _ _ bk) ?_;refine aO.mk _ (Fv _ _ bk) ?_;refine aO.mk _ (Fv _ _ bk) ?_;refine NM.mk n n rfl rfl (cc _) Nn.cap.1 ?_;refine bX.mk λb9 kX wR=>?_;intro G iZ;refine qe.ar0 a5 rfl (e:=3) rfl rfl rfl rfl (Nn.mono bk) gN (MH (iZ _ (by simp[Op.operands,Call.operands])) rfl) (b9:=b9) (cs:=[.int .i64 (i:Int)]) (MH (iZ _ (by simp[Op.operands,Call.operands])) rfl) rfl rfl (.head _) (by omega) (by show(n+1)*8<=_;omega) ?_;intro os KF ar6 bS;refine bc.yI [] _ _ (.refl _) (adN t q (os.a.map λg=>⟨g,0,none⟩) os.n os.c) ?_;rintro v dn sh dV um⟨gz,gJ,qx,rfl,x6,x7,Fz,-,rfl⟩;have ar7:∀ b o,I b=some o->dn b=some o:=λb o h=>dV _ _ (bk _ _ h);have CZ:∀ b o,dn b=some o->Fq dn os 3 b=some o:=arj (M:=[]) λx ad=>um x (by
   simp only[ef]at ad;simp[ad])
  have kf:∀ b o,I b=some o->Fq dn os 3 b=some o:=λb o h=>CZ _ _ (ar7 _ _ h);have ar8:kj a9++[.int .i64 (i:Int)]=kj (a9++[(i:Int)]):=by simp[kj]
  rw[ar8]at bS;have ar9:(a9++[(i:Int)]).length=os.n:=by rw[cm,pL];omega
  have Bj:=adP af ic m q (by omega) (by omega) (av.mono kf) (a9:=a9++[(i:Int)]) (a:=os.a.map λg=>⟨g,0,none⟩) (n:=os.n) (c:=os.c) ar9 (by omega) (ark bS (by omega)) (λh=>by omega) (CZ _ _ x6) (CZ _ _ x7) (CZ _ _ Fz);refine cY.JW (A:=vU) vU.cons a5 rfl rfl rfl (I1:=Fq dn os 3) (M1:=M1) (.sub ((zc _ _).append_left _) (ari λg au=>(ar6 g au).2)) Bj (λk vs I h aP=>by
    obtain⟨p,v,-,rfl,-⟩:=aP;rfl) (λj I M=>R (pW+j) I M) (λex I M=>ex=.ret/\kS I M) (λk I I' M h aW=>xt _ _ _ _ h aW) (xt _ _ _ _ (λb o h=>CZ _ _ (dV _ _ h)) g0) ?_ ?_ ?_
  ·rintro j ai vs I' M' kP⟨p,v,aC,rfl,Cq⟩rn l B az g5;refine aO.mk [.func (.yield y) #[] #[]] ⟨rfl,_,_,_,.inl (kP _ _ (CZ _ _ (dV _ _ hg))),rfl,rfl⟩ ?_;refine bw.yield rfl (by simp) rfl rfl ?_;have fb:(gk t.ns k).paths[pW+j]?=some ((i:Int)::p):=by rw[<-nj,hB,q' (by rw[bF];exact ai),iG,aC];rfl
   have vt:=(h5.1 fb).1;have aE:=qp (pW+j) vt [v] I' M' (λb o h=>kP _ _ (kf _ _ h)) ⟨_,v,fb,rfl,by rw[dT,rL]at Cq;exact Cq⟩ rn;refine y6.mk M' [] _ (by simp) aE ?_;rintro w hW rq iC (⟨rfl,h⟩ | ⟨rfl,h⟩);·refine aZ.mk (λh=>by simp at h) (λ_=>?_);exact⟨_,_,.perm (by simp) .refl,h⟩
   ·refine aZ.mk (λ_=>?_) (λh=>by simp at h);exact⟨_,_,.perm (by simp) .refl,rfl,h⟩
  ·intro I' M' kP rn;refine bg.mk _ (cK (i:=i) (by omega)) ?_;intro _;refine⟨(i+1,pW+(gk t.ns q).paths.length,I',M'),⟨⟨aV,λb o h=>kP _ _ (kf _ _ h),kP _ _ (CZ _ _ (dV _ _ hg)),rn,?_,?_⟩,by simp only;omega⟩,.refl,p',.nil⟩
   ·have:=congrArg List.length hB;rw[tb,cm,bF]at this;have:=(gk t.ns q).adM;simp only;omega
   ·simp only;rw[<-Di,hB,Bs (by rw[bF])]
  ·rintro ex I' M' kP⟨rfl,h⟩;exact⟨by simp,_,_,.refl,.inr h⟩
structure fg where
 rule:Nat
 path:List Int
 a:Option Addr
 c:Nat
def fg.cells(x:fg):List Value:=[.int .i64 x.rule,.slice x.a x.path.length x.c]
def fg.cS(x:fg):x.cells.length=2:=rfl
structure fg.ok(I:aI)(x:fg):Prop where
 a0:c3 I x.a x.path.length x.c 1 8 (kj x.path)
def fg.ok.mono{x:fg}(h:x.ok I)(bt:∀ b o,I b=some o->I' b=some o):x.ok I':=⟨h.a0.mono bt⟩
def fg.l4(x:fg):Nat×List Int:=(x.rule,x.path)
def fI:Nat->List aQ->List (Nat×List Int)
 |_,[]=>[]| i,d::ds=>(cw d.t).paths.map (λp=>(i,p))++fI (i+1) ds
def TV:∀ (ds:List aQ) (d:aQ) (i:Nat),fI i (ds++[d])=fI i ds++(cw d.t).paths.map (λp=>(i+ds.length,p))
 |[],d,i=>by simp[fI]
 |e::ds,d,i=>by rw[mU,fI,fI,TV ds d (i+1),dT,dx,show i+1+ds.length=i+(ds.length+1) by omega]
def asa(l:List aK):(l.flatMap aK.cT).length=(l.map λc=>c.cT.length).sum:=by rw[xT]
def adR:∀ (i:Nat) (l:List a1),(a1.sX i l).length=(l.map λc=>c.paths.length).sum
 |_,[]=>by rw[a1.Nm];rfl
 |i,c::l=>by rw[a1.Nl,cm,bF,adR (i+1) l];rfl
def asb(ns:List an):∀ T:aK,(T.bare ns).paths.length=T.cT.length:=by
 intro T
 induction T using aK.ind with
 |h k ks aN=>rw[aK.nc,a1.Fx,aK.mD,dx,adR,cm,asa,gO,pL];congr 2;exact gM λc ap=>aN c ap
def asc(h:hP t):(cw t).paths.length<=t.ns.length:=by obtain⟨T,aa,ab,ak,aJ,bB⟩:=h.CV;rw[ak,asb];exact bB
def Jf:∀ (ds:List aQ) (i:Nat),(∀ d∈ds,right d.t=true)->(fI i ds).length<=(ds.map λd=>d.t.ns.length).sum
 |[],_,_=>cc _| d::ds,i,h=>by have aa:=asc (oZ.1 (h d (.head _)));have ab:=Jf ds (i+1) λe he=>h e (.tail _ he);rw[fI,cm,bF,cb,jK];omega
def asd(ds:List aQ)(n:Nat):((ds.take n).map λd=>d.t.ns.length).sum<=(ds.map λd=>d.t.ns.length).sum:=by
 conv=>rhs;rw[<-sp n ds,cP,uD]
 omega
def adS(bs:fQ I aw)(au:g.ok I)(ag:(g.ds.map λd=>d.t.ns.length).sum<=1048576):Spec Tryz.prog 52 [g.val] I [] λv I' M'=>(∀ b o,I b=some o->I' b=some o) /\
  ∃ (os:aX) (L:List fg),v=os.val/\os.ok 2 (L.flatMap fg.cells)/\(∀ x∈L,x.ok I')/\M'=os.aq 60/\L.map fg.l4=if dm aw g=0 then fI 0 g.ds else []:=by
 refine bZ [3,4] a5 Tryz.func52 rfl rfl rfl ?_;intro B az;have fM:=au.n;have ju:=au.a0.cap;refine bc.mk [] [] _ (.refl _) (G4 bs au) ?_;rintro v J N -⟨rfl,bk,rfl⟩;refine aZ.mk (λh=>?_) (λh=>?_)
 ·have hm:dm aw g≠0:=by have:(!decide (dm aw g=0))=true:=h;simpa using this
  refine⟨_,_,.refl,bk,hZ,[],rfl,lv 2,(λx ad=>by cases ad),rfl,?_⟩;rw[bU hm];rfl
 have hm:dm aw g=0:=by have:(!decide (dm aw g=0))=false:=h;simpa using this
 have af:∀ d∈g.ds,right d.t=true:=λd aj=>by have:=fx.1 (E6.1 hm).2.1 d aj;rw[cB]at this;exact(Tt.1 this.2).1
 refine bX.mk λcD sD TQ=>?_;refine de.inv (ι:=Nat×aX×List fg×aI) (λx=>{ bj:=[(1,.ref 1 0),(3,.val (ptr cD)),(11,.val (.slice g.a g.n g.c)),(12,.val (.int .i64 g.n)),(13,.val (.int .i64 (x.1:Int)))],cl:=[(1,[.slice g.a g.n g.c])],cI:=x.2.2.2,c1:=⟨cD,.cells #[x.2.1.val] 82 (0,0)⟩::x.2.1.aq 60 }) (λx=>x.1<=g.n/\(∀ b o,I b=some o->x.2.2.2 b=some o)/\x.2.1.ok 2 (x.2.2.1.flatMap fg.cells)/\(∀ y∈x.2.2.1,y.ok x.2.2.2)/\x.2.2.1.map fg.l4=fI 0 (g.ds.take x.1)) (λx=>g.n-x.1) ?_ ?_
 ·exact⟨(0,hZ,[],J),⟨dz _,bk,lv 2,(λy aE=>by cases aE),rfl⟩,.refl,gf,.cons rfl (.nil)⟩
 rintro⟨i,os,L,K⟩⟨hi,dX,bS,b4,mF⟩;simp only at hi dX bS b4 mF;refine aZ.mk (λh=>?_) (λh=>?_)
 rotate_left
 ·have cA:¬ (i:Int)<(g.n:Int):=dO h;refine aO.mk [os.val] (c4 (cs:=[os.val]) (k:=0) (n:=1) (T:=82) (.head _) (by simp)) ?_;refine⟨_,_,.sub (zc _ _) .refl,dX,os,L,rfl,bS,b4,rfl,?_⟩;rw[bQ hm,mF,ft (by omega)]
 have aV:i<g.n:=by have:(i:Int)<(g.n:Int):=dh h;omega
 have ch:i<g.ds.length:=by omega
 obtain⟨aS,bH,bl⟩:=au.a0.row aQ.cS aV ch;have aj:=au.ds _ (bx ch);have o7:=af _ (bx ch);have mR:g.ds.take (i+1)=g.ds.take i++[g.ds[i]]:=fZ ch;have Nb:=Jf (g.ds.take (i+1)) 0 λd aj=>af d (OE aj);have rV:=asd g.ds (i+1);rw[mR,TV,cm,bF,<-mF,bF]at Nb;rw[mR]at rV;have ic:=aj.t.n;obtain⟨k5,iO⟩:=qo o7;obtain⟨r,fz⟩:=eA k5;have avN:g.ds[i].t.ns.length<=1048576:=by rw[cP,uD]at rV;simp only[cb,hr,jK,Dy]at rV;omega
 generalize oC:g.ds[i]=d at *;obtain⟨pb,⟨ns,nZ,jy,oM,ih⟩⟩:=d;refine bf.mk aS i bH rfl aV ?_;refine aO.mk _ ((bl _).mono dX) ?_;refine bX.mk λhM HX ye=>?_;refine b2.mk [] (⟨cD,.cells #[os.val] 82 (0,0)⟩::os.aq 60) #[.int .i64 0] 3 rfl rfl (bJ rfl) rfl ?_;refine bc.yI [] _ _ (.refl _) (adN ⟨ns,nZ,jy,oM,ih⟩ ih none 0 0) ?_;rintro v dn sh dV um⟨gz,gJ,qx,rfl,x6,x7,Fz,-,rfl⟩;have hg:dn hM=none:=um _ (.head _);have yu:∀ b o,dn b=some o->ins dn hM (.cells #[.int .i64 (i:Int)] 3 (0,0)) b=some o:=hI hg;have adT:∀ b o,I b=some o->ins dn hM (.cells #[.int .i64 (i:Int)] 3 (0,0)) b=some o:=λb o h=>yu _ _ (dV _ _ (dX _ _ h));have j4:=aj.t.mono adT;have TW:ns.length=jy:=ic;have fa:r<ns.length:=by have avO:ih<(ns.length:Int):=iO;have avP:ih=(r:Int):=fz;omega
 rw[show ih=(r:Int)from fz]at Fz;have Bj:=adP o7 (by omega) (r+1) r (AR _) fa j4 (a9:=[]) (a:=none) (n:=0) (c:=0) rfl (by omega) ⟨rfl,⟨cc _,by omega⟩,.inl rfl⟩ (λ_=>rfl) (yu _ _ x6) (yu _ _ x7) (yu _ _ Fz);have rp:cw ⟨ns,nZ,jy,oM,ih⟩=gk ns (r:Int):=by unfold cw;rw[show ih=(r:Int)from fz]
 have avQ:L.length+(gk ns (r:Int)).paths.length<=1048576:=by have aa:L.length+(cw ⟨ns,nZ,jy,oM,ih⟩).paths.length<=_:=Nb;rw[rp]at aa;omega
 refine cY.JW (A:=vU) vU.cons a5 rfl rfl rfl (I1:=ins dn hM (.cells #[.int .i64 (i:Int)] 3 (0,0))) (M1:=⟨cD,.cells #[os.val] 82 (0,0)⟩::os.aq 60) (.kN rfl (by simp) .refl) Bj (λk vs I h aP=>by
   obtain⟨p,v,-,rfl,-⟩:=aP;rfl) (λj I' M'=>∃ (fX:aX) (hL:List fg),M'=⟨cD,.cells #[fX.val] 82 (0,0)⟩::fX.aq 60/\fX.ok 2 (hL.flatMap fg.cells)/\(∀ y∈hL,y.ok I')/\hL.map fg.l4=fI 0 (g.ds.take i)++((gk ns (r:Int)).paths.take j).map λp=>(i,p)) (λex I M=>False)
  (λk I I' M h ⟨fX,hL,aa,ab,ak,aJ⟩=>⟨fX,hL,aa,ab,λy aE=>(ak y aE).mono h,aJ⟩) ⟨os,L,rfl,bS,λy aE=>(b4 y aE).mono (λb o h=>yu _ _ (dV _ _ h)),by simpa using mF⟩ ?_ ?_ (λex I' M' _ h=>h.elim)
 ·rintro j ai vs I' M' kP⟨p,v,aC,rfl,a,c,rfl,adU,gN⟩⟨fX,hL,rfl,qW,nL,tZ⟩l B az g5;rw[iq]at adU gN;simp only[iq];have bB:=congrArg List.length tZ;rw[bF,cm,bF,hU,<-mF,bF]at bB;have b5:=qW.len;rw[iv _ 2 fg.cS]at b5;refine aO.mk [fX.val] (c4 (cs:=[fX.val]) (k:=0) (n:=1) (T:=82) (.head _) (by simp)) ?_;refine aO.mk [.int .i64 (i:Int)] ⟨rfl,_,_,_,.inl (kP _ _ (mr ..)),rfl,rfl⟩ ?_;refine bX.mk λb9 kX wR=>?_;refine bw.o0 a5 rfl (by simp) (e:=60) rfl rfl rfl fX qW rfl (cs:=[.int .i64 (i:Int),.slice a p.length c]) rfl rfl rfl [_] [] (by rw[ef];rfl) (by omega) (by show(fX.n+1)*32<=_;omega) ?_;intro wT aa ab ak;refine b2.mk [] (wT.aq 60++[]) #[fX.val] 82 rfl rfl (bJ rfl) rfl ?_;refine⟨_,_,.n5 (by rw[ef];rfl),wT,hL++[⟨i,p,a,c⟩],rfl,?_,?_,?_⟩
  ·rw[hd,pK];exact ak
  ·intro y aE;rcases cE.1 aE with aE | aE
   ·exact nL y aE
   ·rw[ek.1 aE];exact⟨adU⟩
  ·obtain⟨ti,kc⟩:=h5.1 aC;rw[cP,tZ,fZ ti,cP,kc,dT];rfl
 ·rintro I' M' kP⟨fX,hL,rfl,qW,nL,tZ⟩;refine bg.mk _ (cK (i:=i) (by omega)) ?_;refine⟨(i+1,fX,hL,I'),⟨⟨aV,λb o h=>kP _ _ (adT _ _ h),qW,nL,?_⟩,by simp only;omega⟩,.refl,gf,.cons rfl (.nil)⟩;simp only;rw[tZ,mR,TV,ft (cc _),<-rp,hU,db,ud (by omega)]
def ase(_:an)(xs:List Nat):Nat:=xs.sum+1
def gR(T:a1):Nat:=T.fold ase
def vw(d:an)(ks:List a1):gR (.mk d ks)=(ks.map gR).sum+1:=by unfold gR;rw[a1.fold_eq];rfl
def asf:∀ T:a1,T.post.length=gR T:=by
 intro T
 induction T using a1.ind with
 |h d ks aN=>rw[a1.pN,aor,vw,gO];congr 2;exact gM λc ap=>aN c ap
def asg(ns:List an):∀ T:aK,gR (T.bare ns)=T.cT.length:=by
 intro T
 induction T using aK.ind with
 |h k ks aN=>rw[aK.nc,vw,aK.mD,cm,xT,gO,pL];congr 2;exact gM λc ap=>aN c ap
def adV{α:Type}(f:α->Nat)(p:α->Bool):∀ l:List α,((l.filter p).map f).sum<=(l.map f).sum
 |[]=>cc _
 |a::l=>by
  have:=adV f p l;rw[ox];split<;>simp only[cb,jK]<;>omega
def ash(d:an)(xs:List a1):gR (nP d xs)<=(xs.map gR).sum+1:=by
 rw[I2];split
 ·have h:=adV gR (ki d) xs;generalize xs.filter (ki d)=bj at h
  match bj,h with
  |[],_=>rw[vw];simp| [y],h=>simp only[cb,hr,jK,Dy]at h;show gR y<=_;omega| I4::I5::l,h=>rw[vw];omega
 ·rw[vw];exact cc _
def asi:∀ T:a1,gR (T.fold nP)<=gR T:=by
 intro T
 induction T using a1.ind with
 |h d ks aN=>rw[a1.fold_eq,vw];refine k9 (ash d _) ?_;rw[gO];have:=My (l:=ks) (f:=gR ∘ a1.fold nP) (g:=gR) λc ap=>aN c ap;omega
def TX(f:a1->List a1):∀ l:List a1,((l.flatMap f).map gR).sum=(l.map λc=>((f c).map gR).sum).sum
 |[]=>rfl| a::l=>by rw[kr,cP,uD,TX f l];rfl
def asj:∀ T:a1,gR T.bq<=gR T/\∀ cO,((T.fV cO).map gR).sum<=gR T:=by
 intro T
 induction T using a1.ind with
 |h d ks aN=>
  have od:gR (a1.mk d ks).bq<=gR (.mk d ks):=by show gR (.mk d (ks.flatMap (a1.fV (iE d))))<=_;rw[vw,vw,TX];have:=My (l:=ks) (f:=λc=>((c.fV (iE d)).map gR).sum) (g:=gR) λc ap=>(aN c ap).2 _;omega
  refine⟨od,λcO=>?_⟩;rw[a1.qT];split;·rw[TX,vw];have:=My (l:=ks) (f:=λc=>((c.fV cO).map gR).sum) (g:=gR) λc ap=>(aN c ap).2 _;omega
  ·simpa using od
def asl(T:a1):gR T.jF<=gR T:=k9 (asj _).1 (asi T)
def adW:∀ (l:List Nat) (i x:Nat) (h:i<l.length),(l.set i x).sum+l[i]=l.sum+x
 |[],i,x,h=>by simp at h
 |a::l,0,x,h=>by simp;omega
 |a::l,i+1,x,h=>by have:=adW l i x (by simpa using h);simp only[List.set_cons_succ,jK,F5];omega
def adX{X S:a1}:∀ (p:List Int) (T:a1),T.go p=some S->gR (T.put p X)+gR S=gR T+gR X
 |[],T,h=>by rw[a1.go]at h;cases h;rw[a1.put];omega
 |i::p,.mk d ks,h=>by
  rw[a1.go]at h;split at h
  ·rename_i hi;have hi:0<=i/\i<(ks.length:Int):=hi;obtain⟨q,rfl⟩:=eA hi.1;have aP:q<ks.length:=by omega
   have a7:ks.getD q (.mk d ks)=ks[q]:=by simp[bz,aP]
   have aN:=adX (X:=X) p _ h;rw[a1.put];show gR (a1.mk d (ks.set q ((ks.getD q (.mk d ks)).put p X)))+_=_;have aN:gR ((ks.getD q (.mk d ks)).put p X)+gR S=gR (ks.getD q (.mk d ks))+gR X:=aN;rw[a7]at aN |-;rw[vw,vw,sd];have ak:=adW (ks.map gR) q (gR (ks[q].put p X)) (by rw[bF];exact aP);rw[g7]at ak;omega
  ·cases h
def adY(h:right t=true):gR (cw t)<=t.ns.length:=by obtain⟨T,aa,ab,ak,aJ,bB⟩:=(oZ.1 h).CV;rw[ak,asg];exact bB
def adZ(av:t.ok I)(af:right t=true)(aB:t.n<=1099511627776):u7 t:=λd aj=>by have aW:=oZ.1 af;obtain⟨j,ai,rfl⟩:=j9 aj;obtain⟨T,aa,ab,-,aJ⟩:=aW.lt ai;have ae:=ab.yx;rw[aa,gD ai]at ae;have bB:=MD aJ λx ad=>ab.lt x ad;have b5:=Fc T;have dZ:=Au T.sub;have fj:=(av.ns _ (bx ai)).aL;have dN:=av.n;rw[ae]at fj;simp only[eK,bF]at fj;omega
def asm(au:g.ok I)(hu:u<g.ds.length)(af:right g.ds[u].t=true)(aC:c3 I pa pn jl 1 8 (kj path)){S:a1}(cR:(cw g.ds[u].t).go path=some S) :
  Spec Tryz.prog 89 [g.val,Fs (u:Int) pa pn jl] I M0 λv I' M'=>I'=I/\M'=M0/\∃ d∈g.ds[u].t.ns,v=.agg d.cells.toArray/\d.bare=S.d:=by
 have aW:=oZ.1 af;obtain⟨T,jx,ib,oc,Jd,Na⟩:=aW.CV;rw[oc,bare_go]at cR;obtain⟨U,ed,rfl⟩:=r4.1 cR;have fM:=au.n;obtain⟨aS,bH,bl⟩:=au.a0.row aQ.cS (j:=u) (by omega) hu;have aj:=au.ds _ (bx hu);generalize g.ds[u]=d at *;obtain⟨pb,⟨ns,nZ,jy,oM,ih⟩⟩:=d;have j4:=aj.t;simp only at jx ib ed aW;have ic:ns.length=jy:=j4.n;have jw:path.length=pn:=by have:=aC.len;simpa[kj]using this
 have LY:=aC.cap;refine bZ [] a5 Tryz.func89 rfl rfl rfl ?_;intro B az;refine bf.mk aS u bH rfl (by omega) ?_;refine aO.mk [.slice nZ jy oM,.int .i64 ih] ((bl _).part (k:=1) (m:=2) (by decide)) ?_;refine de.inv (ι:=Nat×aK) (λx=>{ bj:=[(4,.ref 4 0),(5,.ref 5 0),(6,.val (.int .i64 x.2.bh)),(19,.val (.slice pa pn jl)),(20,.val (.int .i64 pn)),(21,.val (.int .i64 (x.1:Int)))],cl:=[(4,tS.cells),(5,[.slice nZ jy oM,.int .i64 ih])],cI:=I,c1:=M0 }) (λx=>x.1<=pn/\cu ns x.2/\x.2.go (path.drop x.1)=some U) (λx=>pn-x.1) ?_ ?_
 ·refine⟨(0,T),⟨dz _,ib,ed⟩,.refl,?_,.cons rfl (.cons rfl (.nil))⟩;rw[<-jx];exact ov
 rintro⟨i,W⟩⟨hi,hT,AH⟩;simp only at hi hT AH;have Jg:=hT.mE;obtain⟨j7,j8,gL⟩:=j4.a0.row an.cS (j:=W.bh) (show W.bh<jy by omega) Jg;have yn:=j4.ns _ (bx Jg);have v0:=hT.yx;rw[gD Jg]at v0;refine aZ.mk (λh=>?_) (λh=>?_)
 ·have dI:i<pn:=by have:(i:Int)<(pn:Int):=dh h;omega
  have lR:i<path.length:=by omega
  obtain⟨Tz,MR,mF⟩:=aC.one dI lR;have ja:path.drop i=path[i]::path.drop (i+1):=eR lR;rw[ja,aK.go]at AH;split at AH
  rotate_left
  ·cases AH
  rename_i pP;generalize path[i]=z at *;obtain⟨z,rfl⟩:=eA pP.1;have bb:z<W.sub.length:=by omega
  have e8:=yn.aL;have cy:ns[W.bh].ax.length=W.sub.length:=by rw[v0];simp[eK]
  obtain⟨gg,fs,e'⟩:=yn.a0.one (j:=z) (by omega) (by omega);have TA:ns[W.bh].ax[z]'(by omega)=((W.sub[z]).bh:Int):=by
   have aa:ns[W.bh].ax[z]?=(eK W.sub)[z]?:=by rw[v0]
   rw[da (by omega)]at aa;unfold eK at aa;rw[iG,da bb]at aa;exact fw aa
  rw[TA]at e';have dj:W.sub.getD ((z:Nat):Int).toNat W=W.sub[z]:=by show W.sub.getD z W=_;simp[bz,bb]
  rw[dj]at AH;refine bf.mk Tz i MR rfl dI ?_;refine aO.mk _ (mF _) ?_;refine bf.mk j7 W.bh j8 rfl (show W.bh<jy by omega) ?_;refine aO.mk _ ((gL _).part (k:=8) (m:=1) (by decide)) ?_;refine bf.mk gg z fs rfl (show z<ns[W.bh].aL by omega) ?_;refine aO.mk _ (e' _) ?_;refine bg.mk _ (cK (i:=i) (by omega)) ?_;exact⟨(i+1,W.sub[z]),⟨⟨dI,hT.Fb _ (bx bb),AH⟩,by simp only;omega⟩,.refl,ov,.cons rfl (.cons rfl (.nil))⟩
 ·have cA:¬ (i:Int)<(pn:Int):=dO h;rw[jH (by omega),aK.go]at AH;cases AH;refine bf.mk j7 U.bh j8 rfl (show U.bh<jy by omega) ?_;refine aO.mk _ (gL _) ?_;refine⟨_,_,.refl,rfl,rfl,ns[U.bh],bx Jg,rfl,?_⟩;rw[Tf,gD Jg]
structure No(aw:List Int)(g:cx)(u:Nat)(p:List Int)(d:an)(I':aI)(h:cx)(b:Bool):Prop where
 is:b=match nd aw g u p d with
  |some X=>tW aw g u X| none=>false
 ok:b=true->h.ok I'/\h.n=g.n/\∃ X bm,nd aw g u p d=some X/\pZ bm X/\bm.ns.length=bm.n/\h.ds.map aQ.a4=(eS g.ds u bm).map aQ.a4/\dm aw h=0/\∃ r,m8 aw h r/\r.2=0
def Np(hm:dm aw g=0)(aB:∀ d∈g.ds,d.t.n<=549755813888):TK g:=⟨λd aj=>nR hm aj,aB⟩
def ad0(bs:fQ I aw)(hw:CY aw g F)(au:g.ok I)(aB:∀ d∈g.ds,d.t.n<=549755813888)(DO:g.n<=1000000)(hu:u<g.ds.length)(aC:c3 I pa pn jl 1 8 (kj path)){S:a1}(cR:(cw g.ds[u].t).go path=some S){d:an}(aj:d.bare=S.d){tO:Value}(aA:Fu aw I g tO) :
  Spec Tryz.prog 77 [g.val,Fs (u:Int) pa pn jl,.agg d.cells.toArray,tO] I [] λv I' M'=>(∀ b o,I b=some o->I' b=some o)/\M'=[]/\∃ (h:cx) (b:Bool),v=.tuple #[h.val,.bool b]/\No aw g u path d I' h b:=by
 obtain⟨b1,cD,bK,s,rfl,hk,sD,pC,e2,ar⟩:=aA.ex;have fM:=au.n;obtain⟨dd,d0,d1,d2,d3,fK,Tk,Tl,ad1,pb,Gu,ad2⟩:=d;refine bZ [] a5 Tryz.func77 rfl rfl rfl ?_;intro B az;refine aZ.mk (λh=>?_) (λh=>?_)
 ·have ak:¬ dd=3:=by have:(!decide (dd=3))=true:=h;simpa using this
  exact⟨_,_,.refl,λ_ _ h=>h,rfl,⟨[],none,0,0⟩,false,rfl,by unfold nd;rw[bU ak],λh=>by cases h⟩
 have ak:dd=3:=by have:(!decide (dd=3))=false:=h;simpa using this
 refine bc.mk [] [] _ (.refl _) (arF hw au hk sD pC e2 ar fK) ?_;rintro v J N -⟨bk,rfl,Nd,b,rfl,ag,asn⟩;subst J;obtain⟨tns,FA,FB,FC,FD⟩:=Nd;cases aP:pi aw g fK with
 |none=>
  have C0:b=false:=by rw[ag,aP];rfl
  subst C0;refine aZ.mk (λ_=>?_) (λh=>by cases h);exact⟨_,_,.refl,λ_ _ h=>h,rfl,⟨[],none,0,0⟩,false,rfl,by unfold nd;rw[bQ ak,aP];rfl,λh=>by cases h⟩
 |some q=>
 have AI:b=true:=by rw[ag,aP];rfl
 subst AI;obtain⟨dG,eI,eG⟩:=adz hw aP;have rK:g.ds.getD q gv=g.ds[q]:=by simp[bz,dG]
 have ng:g.ds.getD u gv=g.ds[u]:=by simp[bz,hu]
 have ad3:=asn q aP;rw[rK]at ad3;have ad:=(au.ds _ (bx dG)).t;have mB:=nR hw.m (bx dG);have mY:=aB _ (bx dG);have e6:g.ds[q]∈g.ds:=bx dG;have AG:nd aw g u path ⟨dd,d0,d1,d2,d3,fK,Tk,Tl,ad1,pb,Gu,ad2⟩=some (((cw g.ds[u].t).put path (cw g.ds[q].t)).jF):=by unfold nd;rw[bQ ak,aP,ng];show some (((cw g.ds[u].t).put path (cw (g.ds.getD q gv).t)).jF)=_;rw[rK]
 rw[<-ad3]at ad mB mY AG;have iz:nf aw g u path=some (((cw g.ds[u].t).put path (cw ⟨tns,FA,FB,FC,FD⟩)).jF):=by unfold nf;rw[ng,cR];show nd aw g u path S.d=_;rw[<-aj];exact AG
 have Jc:sW g (u:Int) path (cw ⟨tns,FA,FB,FC,FD⟩)=some (((cw g.ds[u].t).put path (cw ⟨tns,FA,FB,FC,FD⟩)).jF):=by unfold sW p1;rw[bQ (by omega),gl,ng,cR];rfl
 have AJ:=adu (M0:=[]) bs au (Np hw.m aB) DO ad mB mY (rule:=(u:Int)) aC;rw[Jc]at AJ;generalize aso:((cw g.ds[u].t).put path (cw ⟨tns,FA,FB,FC,FD⟩)).jF=X at *;refine aZ.mk (λh=>by cases h) (λ_=>?_);refine bc.mk [] [] _ (.refl _) AJ ?_;rintro v J N bk⟨-,rfl,h,bm,rfl,cv,nQ,eb,d',bu,Ft⟩;rw[gl]at eb;have Nq:h.ds.map aQ.a4=(eS g.ds u bm).map aQ.a4:=eb;have TW:bm.ns.length=bm.n:=by
  have hm:=congrArg (λl:List aQ=>l[u]?) Nq;simp only[iG]at hm;have xH:u<h.ds.length:=by have:=cv.n;omega
  rw[CO hu,da xH]at hm;have hm:=fw hm;have aa:=(cv.ds _ (bx xH)).t.n;have ab:h.ds[u].t.a4=bm.a4:=congrArg aQ.t hm;have ak:h.ds[u].t.ns.length=bm.ns.length:=by have:=congrArg (λt:bR=>t.ns.length) ab;simpa[bR.a4]using this
  have aJ:h.ds[u].t.a4.n=bm.a4.n:=congrArg bR.n ab;have aJ:h.ds[u].t.n=bm.n:=aJ;omega
 obtain⟨s1,s2,-,ad4⟩:=adB hw hu iz d' TW nQ cv.n Nq;have l0:∀ e∈h.ds,u7 e.t:=λe he=>by
  have bB:e.a4∈(eS g.ds u bm).map aQ.a4:=by rw[<-Nq];exact cC.2 ⟨e,he,rfl⟩
  obtain⟨cW,rf,b5⟩:=cC.1 bB;have dZ:e.t.a4=cW.t.a4:=(congrArg aQ.t b5).symm;have fj:right cW.t=true/\cW.t.n<=1099511627776:=by
   obtain⟨i,hi,rfl⟩:=j9 rf;by_cases aF:i=u;·subst aF;have dN:=CO (y:=bm) hu;rw[da hi]at dN;rw[fw dN];refine⟨d'.right bu,?_⟩;have ql:=congrArg List.length d'.a4;rw[bF,asf,<-aso]at ql;have EI:=asl ((cw g.ds[i].t).put path (cw ⟨tns,FA,FB,FC,FD⟩));have avR:=adX (X:=cw ⟨tns,FA,FB,FC,FD⟩) path _ cR;have avS:=adY (nR hw.m (bx hu));have asp:=adY mB;have avT:=(au.ds _ (bx hu)).t.n;have avU:=aB _ (bx hu);have asq:=ad.n;show bm.n<=_;simp only at asp asq mY;omega
   ·have dN:=Fh (ds:=g.ds) (y:=bm) aF;have dI:i<g.ds.length:=by rw[yA]at hi;exact hi
    rw[da hi,da dI]at dN;rw[fw dN];exact⟨nR hw.m (bx dI),by have:=aB _ (bx dI);omega⟩
  refine adZ (cv.ds e he).t ?_ ?_;·rw[<-xW,dZ,xW];exact fj.1
  ·have dN:e.t.a4.n=cW.t.a4.n:=congrArg bR.n dZ;have dN:e.t.n=cW.t.n:=dN;omega
 refine cq.mk (λ_=>?_) (λh=>by cases h);refine bc.mk [] [] _ (.refl _) (Mk (bs.mono bk) cv l0) ?_;rintro v dn N -⟨dV,rfl,r,rfl,af⟩;have bp:∀ b o,I b=some o->dn b=some o:=λb o h=>dV _ _ (bk _ _ h);refine aZ.mk (λbB=>?_) (λbB=>?_)
 ·have bB:¬ r.2=0:=by have:(!decide (r.2=0))=true:=bB;simpa using this
  refine⟨_,_,.refl,bp,rfl,⟨[],none,0,0⟩,false,rfl,?_,λh=>by cases h⟩;rw[AG];show false=tW aw g u X;rw[s2,eB λe=>bB ((ad4 r af).2 e)]
 ·have bB:r.2=0:=by have:(!decide (r.2=0))=false:=bB;simpa using this
  have qP:=(ad4 r af).1 bB;refine⟨_,_,.refl,bp,rfl,h,true,rfl,?_,λ_=>⟨cv.mono dV,nQ,X,bm,AG,d',TW,Nq,qP,r,af,bB⟩⟩;rw[AG];show true=tW aw g u X;rw[s2,fu qP]
def ad5(asr:a1):∀ (i:Nat) (l:List a1),(∀ c∈l,∀ p∈c.paths,∃ S,c.go p=some S)->∀ q∈a1.sX i l,∃ j p S,∃ h:j<l.length,q=((i+j:Nat):Int)::p/\l[j].go p=some S
 |_,[],_,q,h=>by rw[a1.Nm]at h;cases h
 |i,c::l,aN,q,h=>by
  rw[a1.Nl]at h;rcases cE.1 h with h | h;·obtain⟨p,aC,rfl⟩:=cC.1 h;obtain⟨S,cR⟩:=aN c (.head _) p aC;exact⟨0,p,S,by simp,rfl,cR⟩
  ·obtain⟨j,p,S,ai,rfl,cR⟩:=ad5 asr (i+1) l (λc ap=>aN c (.tail _ ap)) q h;exact⟨j+1,p,S,by simp;omega,by rw[show i+1+j=i+(j+1) by omega],by simpa using cR⟩
def ass:∀ (T:a1),∀ p∈T.paths,∃ S,T.go p=some S:=by
 intro T
 induction T using a1.ind with
 |h d ks aN=>
  intro p aC;rw[a1.Fx]at aC;rcases ee.1 aC with rfl | aC;·exact⟨_,rfl⟩
  ·obtain⟨j,q,S,ai,rfl,cR⟩:=ad5 (.mk d ks) 0 ks aN p aC;refine⟨S,?_⟩;rw[a1.go];have im:j<(a1.mk d ks).sub.length:=ai;rw[bQ (by omega)];have e:(a1.mk d ks).sub.getD (((0+j:Nat):Int)).toNat (.mk d ks)=ks[j]:=by rw[db];show ks.getD j _=_;rw[bz,da ai];rfl
   rw[e];exact cR
def ad6:∀ (ds:List aQ) (i:Nat),∀ x∈fI i ds,∃ j,∃ h:j<ds.length,x.1=i+j/\x.2∈(cw ds[j].t).paths
 |[],i,x,h=>by cases h
 |d::ds,i,x,h=>by
  rw[fI]at h;rcases cE.1 h with h | h;·obtain⟨p,aC,rfl⟩:=cC.1 h;exact⟨0,by simp,rfl,aC⟩
  ·obtain⟨j,ai,e,aC⟩:=ad6 ds (i+1) x h;exact⟨j+1,by simp;omega,by omega,by simpa using aC⟩
def ad7{x:Nat×List Int}(h:x∈fI 0 g.ds):∃ hu:x.1<g.ds.length,∃ S,(cw g.ds[x.1].t).go x.2=some S:=by
 obtain⟨j,ai,e,aC⟩:=ad6 g.ds 0 x h;obtain⟨u,p⟩:=x;simp only at e aC;obtain rfl:u=j:=by omega
 exact⟨ai,ass _ _ aC⟩
def kK(aw:List Int)(g:cx):List (Nat×List Int):=(fI 0 g.ds).filter (ho aw g)
def ad8{d e:an}(h:d.bare=e):nd aw g u p d=nd aw g u p e:=by rw[<-h];rfl
def ad9(hu:u<g.ds.length){S:a1}(cR:(cw g.ds[u].t).go p=some S){d:an}(aj:d.bare=S.d){b:Bool}(av:No aw g u p d I h b):ho aw g (u,p)=b:=by
 rw[av.is];unfold ho nf;have ng:g.ds.getD u gv=g.ds[u]:=by simp[bz,hu]
 simp only[ng,cR];rw[ad8 aj];rfl
def aea(x:Nat×List Int)(a:Option Addr)(c:Nat):Value:=.agg #[.int .u8 1,.int .u8 1,.int .i64 x.1,.slice a x.2.length c,.int .i64 0]
def ast(l:List (Nat×List Int))(k:Nat)(vs:List Value)(I:aI):Prop:=∃ x a c,l[k]?=some x/\vs=[aea x a c]/\c3 I a x.2.length c 1 8 (kj x.2)
def asu(g:cx):Spec Tryz.prog 76 [g.val] I [] λr I' M'=>∃ b1,r=.func (.func 130) #[] #[ptr b1]/\I' b1=some (.cells #[.slice g.a g.n g.c] 24 (0,0))/\(∀ b o,I b=some o->I' b=some o)/\M'=[]:=by refine bZ [1] a5 Tryz.func76 rfl rfl rfl ?_;intro B az;refine bX.mk λb1 hk ML=>?_;exact⟨_,_,.kN rfl (by simp) .refl,b1,rfl,mr ..,hI hk,rfl⟩
structure Jh(aw:List Int)(I:aI)(g:cx)(F:List aU):Prop where
 av:fQ I aw
 hw:CY aw g F
 au:g.ok I
 aB:∀ d∈g.ds,d.t.n<=549755813888
 ag:g.n<=1000000
 sQ:(g.ds.map λd=>d.t.ns.length).sum<=1048576
def Jh.mono(h:Jh aw I g F)(bt:∀ b o,I b=some o->I' b=some o):Jh aw I' g F:=⟨h.av.mono bt,h.hw,h.au.mono bt,h.aB,h.ag,h.sQ⟩
def asv(aC:Jh aw I g F)(hk:I b1=some (.cells #[.slice g.a g.n g.c] 24 (0,0))) :
  U' Tryz.prog 130 [ptr b1] I (kK aw g).length (ast (kK aw g)):=by
 intro y R kS xt qp dp M0 lu iu;refine yT [] a5 Tryz.func130 rfl rfl rfl ?_;intro B az;have hw:=aC.hw;have fM:=hw.n;have bl:∀ (I1:aI) (M:List aD),(∀ b o,I b=some o->I1 b=some o)->cM I1 M ⟨b1,0,none⟩ 1 [.slice g.a g.n g.c]:=λI1 M cn=>⟨rfl,_,_,_,.inl (cn _ _ hk),rfl,rfl⟩;have gN:=aC.mono lu;refine aO.mk _ (bl _ _ lu) ?_;refine bc.mk [] M0 _ (.refl _) (adI gN.av hw gN.au (by have:=aC.ag;omega) λd aj=>by have:=aC.aB d aj;omega) ?_;rintro tO I1 N cn⟨-,rfl,nn⟩;have TY:∀ b o,I b=some o->I1 b=some o:=λb o h=>cn _ _ (lu _ _ h);have sK:=aC.mono TY;refine aO.mk _ (bl _ _ TY) ?_;refine bc.mk [] M0 _ (.refl _) (adS sK.av sK.au aC.sQ) ?_;rintro v dv N en⟨-,os,L,rfl,bS,b4,rfl,mF⟩;rw[bQ hw.m]at mF;have Fy:∀ b o,I b=some o->dv b=some o:=λb o h=>en _ _ (TY _ _ h);have KF:os.n=L.length:=by have:=bS.len;rw[iv _ 2 fg.cS]at this;omega
 have asw:L.length<=1048576:=by have aa:=Jf g.ds 0 λd aj=>nR hw.m aj;have ab:=congrArg List.length mF;rw[bF]at ab;have:=aC.sQ;omega
 refine de.inv (ι:=Nat×Nat×aI×List aD) (λx=>{ bj:=[(0,.val (.func (.yield y) #[] #[])),(1,.val (ptr b1)),(3,.val tO),(11,.val os.val),(12,.val (.int .i64 os.n)),(13,.val (.int .i64 (x.1:Int)))],cl:=[],cI:=x.2.2.1,c1:=os.aq 60++x.2.2.2 }) (λx=>x.1<=os.n/\(∀ b o,dv b=some o->x.2.2.1 b=some o)/\R x.2.1 x.2.2.1 x.2.2.2/\x.2.1<=(kK aw g).length/\(kK aw g).drop x.2.1=((L.map fg.l4).drop x.1).filter (ho aw g)) (λx=>os.n-x.1) ?_ ?_
 ·exact⟨(0,0,dv,M0),⟨dz _,λ_ _ h=>h,xt _ _ _ _ (λb o h=>en _ _ (cn _ _ h)) iu,dz _,by simp only[vM];rw[mF];rfl⟩,.refl,ov,.nil⟩
 rintro⟨i,pW,J,M1⟩⟨hi,bk,g0,EN,hB⟩;simp only at hi bk g0 EN hB;refine aZ.mk (λh=>?_) (λh=>?_)
 rotate_left
 ·have cA:¬ (i:Int)<(os.n:Int):=dO h;have aG:(L.map fg.l4).drop i=[]:=jH (by rw[bF];omega);rw[aG,Tu,Bq]at hB;have:pW=(kK aw g).length:=by omega
  subst this;exact⟨_,_,.sub (mb _ _) .refl,.inl g0⟩
 have aV:i<os.n:=by have:(i:Int)<(os.n:Int):=dh h;omega
 have ch:i<L.length:=by omega
 have Nr:∀ b o,I b=some o->J b=some o:=λb o h=>bk _ _ (Fy _ _ h);have vx:=aC.mono Nr;obtain⟨aS,bH,TZ⟩:=aX.ok.row (I:=J) (M:=os.aq 60++M1) fg.cS (by decide) bS (e:=60) (λx ad=>jr _ ad) ch;have Ce:=(b4 _ (bx ch)).mono bk;have As:(L.map fg.l4).drop i=L[i].l4::(L.map fg.l4).drop (i+1):=by rw[eR (by rw[bF];exact ch),g7]
 have e6:L[i].l4∈fI 0 g.ds:=by rw[<-mF];exact IM (bx ch)
 rw[As]at hB;generalize L[i]=x at *;obtain⟨u,path,xa,xc⟩:=x;obtain⟨hu,S,cR⟩:=ad7 e6;simp only[fg.l4]at hu cR hB e6;have xO:c3 J xa path.length xc 1 8 (kj path):=Ce.a0;refine bf.mk aS i bH rfl aV ?_;refine aO.mk [.int .i64 (u:Int),.slice xa path.length xc] TZ ?_;have dY:=asm (M0:=[]) vx.au hu (nR hw.m (bx hu)) xO cR;refine cY.Gm a5 rfl rfl rfl (ι:=Nat×cx×Bool×aI×an) (λz=>{ bj:=[(0,.val (.func (.yield y) #[] #[])),(1,.val (ptr b1)),(3,.val tO),(5,.ref 5 0),(6,.val (ptr z.1)),(7,.val (.bool z.2.2.1)),(11,.val os.val),(12,.val (.int .i64 os.n)),(13,.val (.int .i64 (i:Int)))],cl:=[(5,[.int .i64 (u:Int),.slice xa path.length xc])],cI:=z.2.2.2.1,c1:=⟨z.1,.cells #[.slice z.2.1.a z.2.1.n z.2.1.c] 24 (0,0)⟩::(os.aq 60++M1) }) (λz=>(∀ b o,J b=some o->z.2.2.2.1 b=some o)/\z.2.2.2.2.bare=S.d/\No aw g u path z.2.2.2.2 z.2.2.2.1 z.2.1 z.2.2.1) ?_ ?_
 ·refine aO.mk _ (bl _ _ Nr) ?_;refine aO.mk _ (bl _ _ Nr) ?_;have AK:=λ(d:an) (aj:d.bare=S.d)=>ad0 vx.av hw vx.au vx.aB vx.ag hu xO cR aj (nn.mono (λb o h=>bk _ _ (en _ _ h)));refine⟨?_,?_⟩
  ·refine eL.mk _ dY ?_;rintro v o8 N -⟨kf,asx,d,gr,rfl,lQ⟩;subst o8;subst N;refine⟨?_,?_⟩
   ·refine bc.mk [] _ _ (.refl _) (AK d lQ) ?_;rintro v jU N hg⟨-,rfl,h,b,rfl,kF⟩;refine bX.mk λb6 BF Tg=>?_;refine b2.mk [] (os.aq 60++M1) _ _ rfl rfl (bJ rfl) rfl ?_;exact⟨(b6,h,b,jU,d),⟨hg,lQ,kF⟩,.refl,j3,.cons rfl (.nil)⟩
   ·refine bX.mk λb6 BF Tg=>?_;refine eL.mk _ (AK d lQ) ?_;rintro v jU N hg⟨-,rfl,h,b,rfl,kF⟩;refine b2.mk [] (os.aq 60++M1) _ _ rfl rfl (bJ rfl) rfl ?_;exact⟨(b6,h,b,jU,d),⟨hg,lQ,kF⟩,.refl,j3,.cons rfl (.nil)⟩
  ·refine bX.mk λb6 BF Tg=>?_;refine eL.mk _ dY ?_;rintro v o8 N -⟨kf,asx,d,gr,rfl,lQ⟩;subst o8;subst N;refine eL.mk _ (AK d lQ) ?_;rintro v jU N hg⟨-,rfl,h,b,rfl,kF⟩;refine b2.mk [] (os.aq 60++M1) _ _ rfl rfl (bJ rfl) rfl ?_;exact⟨(b6,h,b,jU,d),⟨hg,lQ,kF⟩,.refl,j3,.cons rfl (.nil)⟩
 rintro⟨b6,h,b,jU,d⟩⟨hg,lQ,kF⟩;simp only at hg lQ kF;have sY:=ad9 hu cR lQ kF;have asy:∀ b o,I b=some o->jU b=some o:=λb o h=>hg _ _ (Nr _ _ h);have vv:=cK (i:=i) (by omega);refine aZ.mk (λag=>?_) (λag=>?_)
 ·have C0:b=false:=by have:(!b)=true:=ag;simpa using this
  rw[ox,sY,C0]at hB;refine bg.mk _ vv ?_;exact⟨(i+1,pW,jU,M1),⟨⟨aV,λb o h=>hg _ _ (bk _ _ h),xt _ _ _ _ hg g0,EN,hB⟩,by simp only;omega⟩,.sub (zc _ _) .refl,ov,.nil⟩
 have AI:b=true:=by have:(!b)=false:=ag;simpa using this
 rw[ox,sY,AI,bQ rfl]at hB;have BQ:pW<(kK aw g).length:=by have:=congrArg List.length hB;rw[tb,dx]at this;omega
 have fb:(kK aw g)[pW]?=some (u,path):=by
  have aa:((kK aw g).drop pW)[0]?=some (u,path):=by rw[hB];rfl
  rwa [nj,pk]at aa
 refine bw.yield rfl (by simp) rfl rfl ?_;have aE:=qp pW BQ [aea (u,path) xa xc] jU M1 asy ⟨(u,path),xa,xc,fb,rfl,xO.mono hg⟩ (xt _ _ _ _ hg g0);refine y6.mk M1 (⟨b6,.cells #[.slice h.a h.n h.c] 24 (0,0)⟩::os.aq 60) _ (by
  show(_::(os.aq 60++M1)).Perm (M1++(_::os.aq 60));exact eF (l₁:=_::os.aq 60) (l₂:=M1)) aE ?_
 rintro w asz py asA (⟨rfl,L3⟩ | ⟨rfl,ad⟩)
 ·refine aZ.mk (λh=>by simp at h) (λ_=>?_);refine bg.mk _ vv ?_;refine⟨(i+1,pW+1,asz,py),⟨⟨aV,λb o h=>asA _ _ (hg _ _ (bk _ _ h)),L3,BQ,?_⟩,by simp only;omega⟩,.perm eF (.sub (zc _ _) .refl),ov,.nil⟩;simp only;rw[<-Di,hB];rfl
 ·refine aZ.mk (λ_=>?_) (λh=>by simp at h);exact⟨_,_,.sub (tw _ _) .refl,.inr ad⟩
def fg.step(x:fg):List Value:=[.int .u8 1,.int .u8 1,.int .i64 x.rule,.slice x.a x.path.length x.c,.int .i64 0]
def fg.C1(x:fg):x.step.length=5:=rfl
def FE(aw:List Int)(g:cx)(r:Int×Int):List (Nat×List Int):=if r.2=0 then kK aw g else []
structure yE(aw:List Int)(I:aI)(g:cx):Prop where
 av:fQ I aw
 au:g.ok I
 aB:∀ d∈g.ds,d.t.n<=549755813888
 ag:g.n<=1000000
 sQ:(g.ds.map λd=>d.t.ns.length).sum<=1048576
 ae:∀ d∈g.ds,u7 d.t
def yE.mono(h:yE aw I g)(bt:∀ b o,I b=some o->I' b=some o):yE aw I' g:=⟨h.av.mono bt,h.au.mono bt,h.aB,h.ag,h.sQ,h.ae⟩
def yE.with(h:yE aw I g)(hw:CY aw g F):Jh aw I g F:=⟨h.av,hw,h.au,h.aB,h.ag,h.sQ⟩
def aeb(af:∀ d∈g.ds,right d.t=true)(av:(g.ds.map λd=>d.t.ns.length).sum<=1048576):(kK aw g).length<=1048576:=by have aa:=Jf g.ds 0 af;have ab:=Ba (ho aw g) (fI 0 g.ds);unfold kK;omega
def T0(aC:yE aw I g):Spec Tryz.prog 28 [g.val] I [] λv I' M'=>(∀ b o,I b=some o->I' b=some o) /\
  ∃ (os:aX) (L:List fg) (r:Int×Int),m8 aw g r/\v=os.val/\os.ok 5 (L.flatMap fg.step)/\(∀ x∈L,x.ok I')/\M'=os.aq 57/\L.map fg.l4=FE aw g r:=by
 refine bZ [3] a5 Tryz.func28 rfl rfl rfl ?_;intro B az;refine bc.mk [] [] _ (.refl _) (Mk aC.av aC.au aC.ae) ?_;rintro v J N -⟨bk,rfl,r,rfl,af⟩;refine aZ.mk (λh=>?_) (λh=>?_)
 ·have hm:r.2≠0:=by have:(!decide (r.2=0))=true:=h;simpa using this
  refine⟨_,_,.refl,bk,hZ,[],r,af,rfl,lv 5,(λx ad=>by cases ad),rfl,?_⟩;unfold FE;rw[bU hm];rfl
 have hm:r.2=0:=by have:(!decide (r.2=0))=false:=h;simpa using this
 obtain⟨F,hw⟩:=af.I7 aC.au.n hm;have vx:=aC.mono bk;have e2:=aeb (aw:=aw) (g:=g) (λd aj=>nR hw.m aj) aC.sQ;refine bX.mk λcD sD TQ=>?_;refine bc.mk [] [_] _ (.refl _) (asu g) ?_;rintro v dn N dV⟨b1,rfl,hk,-,rfl⟩;have kc:=vx.mono dV;refine cY.JW (A:=vU) vU.cons a5 rfl rfl rfl (I1:=dn) (M1:=[⟨cD,.cells #[hZ.val] 51 (0,0)⟩]) .refl (asv (kc.with hw) hk) (λk vs I h aP=>by
   obtain⟨x,a,c,-,rfl,-⟩:=aP;rfl) (λj I' M'=>∃ (fX:aX) (hL:List fg),M'=⟨cD,.cells #[fX.val] 51 (0,0)⟩::fX.aq 57/\fX.ok 5 (hL.flatMap fg.step)/\(∀ y∈hL,y.ok I')/\hL.map fg.l4=(kK aw g).take j) (λex I M=>False)
  (λk I I' M h ⟨fX,hL,aa,ab,ak,aJ⟩=>⟨fX,hL,aa,ab,λy aE=>(ak y aE).mono h,aJ⟩) ⟨hZ,[],rfl,lv 5,(λy aE=>by cases aE),rfl⟩ ?_ ?_ (λex I' M' _ h=>h.elim)
 ·rintro j ai vs I' M' kP⟨x,a,c,ad,rfl,er⟩⟨fX,hL,rfl,qW,nL,tZ⟩l B az g5;have bB:=congrArg List.length tZ;rw[bF,hU]at bB;have b5:=qW.len;rw[iv _ 5 fg.C1]at b5;obtain⟨AL,aec⟩:=x;refine aO.mk [fX.val] (c4 (cs:=[fX.val]) (k:=0) (n:=1) (T:=51) (.head _) (by simp)) ?_;refine bX.mk λb9 kX wR=>?_;refine bw.o0 a5 rfl (by simp) (e:=57) rfl rfl rfl fX qW rfl (cs:=(⟨AL,aec,a,c⟩:fg).step) rfl rfl rfl [_] [] (by rw[ef];rfl) (by omega) (by show(fX.n+1)*48<=_;omega) ?_;intro wT aa ab ak;refine b2.mk [] (wT.aq 57++[]) #[fX.val] 51 rfl rfl (bJ rfl) rfl ?_;refine⟨_,_,.n5 (by rw[ef];rfl),wT,hL++[⟨AL,aec,a,c⟩],rfl,?_,?_,?_⟩
  ·rw[hd,pK];exact ak
  ·intro y aE;rcases cE.1 aE with aE | aE
   ·exact nL y aE
   ·rw[ek.1 aE];exact⟨er⟩
  ·obtain⟨ti,Ab⟩:=h5.1 ad;rw[cP,tZ,fZ ti,Ab];rfl
 ·rintro I' M' kP⟨fX,hL,rfl,qW,nL,tZ⟩;refine aO.mk [fX.val] (c4 (cs:=[fX.val]) (k:=0) (n:=1) (T:=51) (.head _) (by simp)) ?_;refine⟨_,_,.sub (zc _ _) .refl,λb o h=>kP _ _ (dV _ _ (bk _ _ h)),fX,hL,r,af,rfl,qW,nL,rfl,?_⟩;rw[tZ,ft (cc _)];unfold FE;rw[bQ hm]
def yF:cx:=⟨[],none,0,0⟩
structure AM(aw:List Int)(g:cx)(pass Az:Int)(rule:Int)(path:List Int)(dU:Int)(I':aI)(h:cx)(e:Int):Prop where
 bad:∀ r,m8 aw g r->r.2≠0->e=r.2/\h=yF
 no:∀ r,m8 aw g r->r.2=0->¬ (pass=1/\Az=1/\dU=0/\0<=rule/\rule<(g.ds.length:Int)/\ho aw g (rule.toNat,path)=true)->e=47/\h=yF
 asB:∀ r,m8 aw g r->r.2=0->(pass=1/\Az=1/\dU=0/\0<=rule/\rule<(g.ds.length:Int)/\ho aw g (rule.toNat,path)=true)->e=0/\h.ok I'/\h.n=g.n/\∃ X bm,nf aw g rule.toNat path=some X/\pZ bm X/\bm.ns.length=bm.n/\h.ds.map aQ.a4=(eS g.ds rule.toNat bm).map aQ.a4/\dm aw h=0/\∃ r,m8 aw h r/\r.2=0
def AM.Ji(af:m8 aw g r)(az:r.2=0)(aB:¬ (pass=1/\Az=1/\dU=0/\0<=rule/\rule<(g.ds.length:Int)/\ho aw g (rule.toNat,path)=true)):AM aw g pass Az rule path dU I' yF 47:=
 ⟨λr' eY bn=>by rw[eY.eq af]at bn;exact absurd az bn,λ_ _ _ _=>⟨rfl,rfl⟩,λ_ _ _ aE=>absurd aE aB⟩
def asC(aC:yE aw I g)(lZ:c3 I pa pn jl 1 8 (kj path)) :
  Spec Tryz.prog 29 [g.val,.agg #[.int .u8 pass,.int .u8 Az,.int .i64 rule,.slice pa pn jl,.int .i64 dU]] I [] λv I' M'=>(∀ b o,I b=some o->I' b=some o)/\M'=[]/\∃ (h:cx) (e:Int),v=.tuple #[h.val,.int .i64 e]/\AM aw g pass Az rule path dU I' h e:=by
 refine bZ [] a5 Tryz.func29 rfl rfl rfl ?_;intro B az;have fM:=aC.au.n;refine bc.mk [] [] _ (.refl _) (Mk aC.av aC.au aC.ae) ?_;rintro v J N -⟨bk,rfl,r,rfl,af⟩;refine aZ.mk (λh=>?_) (λh=>?_)
 ·have hm:r.2≠0:=by have:(!decide (r.2=0))=true:=h;simpa using this
  exact⟨_,_,.refl,bk,rfl,yF,r.2,rfl,λr' eY _=>by rw[eY.eq af];exact⟨rfl,rfl⟩,λr' eY az=>by rw[eY.eq af]at az;exact absurd az hm,λr' eY az=>by rw[eY.eq af]at az;exact absurd az hm⟩
 have hm:r.2=0:=by have:(!decide (r.2=0))=false:=h;simpa using this
 obtain⟨F,hw⟩:=af.I7 fM hm;have vx:=aC.mono bk;have aed:=lZ.mono bk;by_cases aa:pass=1
 rotate_left
 ·refine cq.mk (λh=>absurd h (by simp[aa])) (λ_=>?_);exact⟨_,_,.refl,bk,rfl,yF,47,rfl,AM.Ji af hm λh=>aa h.1⟩
 refine cq.mk (λ_=>?_) (λh=>absurd h (by simp[aa]));by_cases ab:Az=1
 rotate_left
 ·refine cq.mk (λh=>absurd h (by simp[ab])) (λ_=>?_);exact⟨_,_,.refl,bk,rfl,yF,47,rfl,AM.Ji af hm λh=>ab h.2.1⟩
 refine cq.mk (λ_=>?_) (λh=>absurd h (by simp[ab]));by_cases ak:dU=0
 rotate_left
 ·refine aZ.mk (λ_=>?_) (λh=>absurd h (by simp[ak]));exact⟨_,_,.refl,bk,rfl,yF,47,rfl,AM.Ji af hm λh=>ak h.2.2.1⟩
 refine aZ.mk (λh=>absurd h (by simp[ak])) (λ_=>?_);refine bc.mk [] [] _ (.refl _) (adt (M0:=[]) vx.av.c vx.au (Np hw.m aC.aB) aed) ?_;rintro v dn N dV va;obtain⟨xa,Fw,xc,AL,b,rfl,pC⟩:=va.shape;obtain⟨-,rfl,va⟩:=va;have xi:∀ b o,I b=some o->dn b=some o:=λb o h=>dV _ _ (bk _ _ h);cases et:p1 g rule path with
 |none=>rw[et]at pC;have C0:b=false:=pC;refine aZ.mk (λ_=>?_) (λh=>absurd h (by rw[C0];simp));refine⟨_,_,.refl,xi,rfl,yF,47,rfl,AM.Ji af hm λh=>?_⟩;have b5:=h.2.2.2.2.2;unfold p1 at et;rw[bQ ⟨h.2.2.2.1,h.2.2.2.2.1⟩]at et;unfold ho nf at b5;simp only[et]at b5;cases b5| some S=>
 rw[et]at pC va;have AI:b=true:=pC;refine aZ.mk (λh=>absurd h (by rw[AI];simp)) (λ_=>?_);obtain⟨x,Ib,ad,d',bu,Ft⟩:=va;have aee:0<=rule/\rule<(g.ds.length:Int):=by
  unfold p1 at et;split at et;·assumption
  ·cases et
 obtain⟨u,rfl⟩:=eA aee.1;have hu:u<g.ds.length:=by omega
 have ng:g.ds.getD u gv=g.ds[u]:=by simp[bz,hu]
 have cR:(cw g.ds[u].t).go path=some S:=by unfold p1 at et;rw[bQ aee,gl,ng]at et;exact et
 have asD:Value.agg #[.slice xa Fw xc,.int .i64 AL]=x.val:=by
  injection Ib with e
  simp at e;exact e.1
 obtain⟨FF,aef,aeg,aeh,aei⟩:=x;have asE:xa=aef/\Fw=aeg/\xc=aeh/\AL=aei:=by
  have e:Value.agg #[.slice xa Fw xc,.int .i64 AL]=.agg #[.slice aef aeg aeh,.int .i64 aei]:=asD;injection e with e
  simp at e;exact⟨e.1.1,e.1.2.1,e.1.2.2,e.2⟩
 obtain⟨rfl,rfl,rfl,rfl⟩:=asE;have mB:=d'.right bu;obtain⟨k5,iO⟩:=qo mB;obtain⟨yG,fz⟩:=eA k5;have fa:yG<FF.length:=by simp only at iO fz;omega
 have kc:=vx.mono dV;have tX:=abr (M0:=[]) kc.av ad mB fz fa;have lQ:(FF[yG].eC []).bare=S.d:=by
  have dZ:=d'.cw bu Ft;have fj:cw ⟨FF,xa,Fw,xc,AL⟩=gk FF (yG:Int):=by unfold cw;simp only at fz;rw[fz]
  rw[fj,wW (t:=⟨FF,xa,Fw,xc,AL⟩) mB fa]at dZ;rw[<-dZ];rfl
 generalize fi:FF[yG].eC []=d at tX lQ;have T1:=adI kc.av hw kc.au (by have:=aC.ag;omega) λd aj=>by have:=aC.aB d aj;omega
 have AK:=fun {K:aI} (dX:∀ b o,dn b=some o->K b=some o) {tO:Value} (nn:Fu aw K g tO)=>ad0 ((kc.mono dX).av) hw ((kc.mono dX).au) aC.aB aC.ag hu ((aed.mono dV).mono dX) cR lQ nn;refine cY.Gm a5 rfl rfl rfl (ι:=Nat×cx×Bool×aI) (λz=>{ bj:=[(4,.ref 4 0),(5,.val (.int .i64 0)),(9,.val (.bool z.2.2.1)),(10,.val (ptr z.1))],cl:=[(4,[.slice none 0 0])],cI:=z.2.2.2,c1:=[⟨z.1,.cells #[.slice z.2.1.a z.2.1.n z.2.1.c] 24 (0,0)⟩] }) (λz=>(∀ b o,dn b=some o->z.2.2.2 b=some o)/\No aw g u path d z.2.2.2 z.2.1 z.2.2.1) ?_ ?_
 ·refine⟨?_,?_⟩
  ·refine eL.mk _ tX ?_;rintro v lH N -⟨rfl,xr,aej⟩;subst lH;subst N;refine⟨?_,?_⟩
   ·refine eL.mk _ T1 ?_;rintro tO o8 N kf⟨-,rfl,nn⟩;refine⟨?_,?_⟩
    ·refine bc.mk [] _ _ (.refl _) (AK kf nn) ?_;rintro v jU N hg⟨-,rfl,h,b,rfl,kF⟩;refine bX.mk λAN T2 T3=>?_;refine b2.mk [] [] _ _ rfl rfl (bJ rfl) rfl ?_;exact⟨(AN,h,b,jU),⟨λb o h=>hg _ _ (kf _ _ h),kF⟩,.refl,eE,.cons rfl (.nil)⟩
    ·refine bX.mk λAN T2 T3=>?_;refine eL.mk _ (AK kf nn) ?_;rintro v jU N hg⟨-,rfl,h,b,rfl,kF⟩;refine b2.mk [] [] _ _ rfl rfl (bJ rfl) rfl ?_;exact⟨(AN,h,b,jU),⟨λb o h=>hg _ _ (kf _ _ h),kF⟩,.refl,eE,.cons rfl (.nil)⟩
   ·refine bX.mk λAN T2 T3=>?_;refine eL.mk _ T1 ?_;rintro tO o8 N kf⟨-,rfl,nn⟩;refine eL.mk _ (AK kf nn) ?_;rintro v jU N hg⟨-,rfl,h,b,rfl,kF⟩;refine b2.mk [] [] _ _ rfl rfl (bJ rfl) rfl ?_;exact⟨(AN,h,b,jU),⟨λb o h=>hg _ _ (kf _ _ h),kF⟩,.refl,eE,.cons rfl (.nil)⟩
  ·refine bX.mk λAN T2 T3=>?_;refine eL.mk _ tX ?_;rintro v lH N -⟨rfl,xr,aej⟩;subst lH;subst N;refine eL.mk _ T1 ?_;rintro tO o8 N kf⟨-,rfl,nn⟩;refine eL.mk _ (AK kf nn) ?_;rintro v jU N hg⟨-,rfl,h,b,rfl,kF⟩;refine b2.mk [] [] _ _ rfl rfl (bJ rfl) rfl ?_;exact⟨(AN,h,b,jU),⟨λb o h=>hg _ _ (kf _ _ h),kF⟩,.refl,eE,.cons rfl (.nil)⟩
 rintro⟨AN,h,b,jU⟩⟨hg,kF⟩;simp only at hg kF;have sY:=ad9 hu cR lQ kF;have Jj:∀ b o,I b=some o->jU b=some o:=λb o h=>hg _ _ (xi _ _ h);have Ns:((u:Nat):Int).toNat=u:=gl u;refine aZ.mk (λag=>?_) (λag=>?_)
 ·have C0:b=false:=by have:(!b)=true:=ag;simpa using this
  refine⟨_,_,.sub (fp _) .refl,Jj,rfl,yF,47,rfl,AM.Ji af hm λh=>?_⟩;have b5:=h.2.2.2.2.2;rw[Ns,sY,C0]at b5;cases b5
 ·have AI:b=true:=by have:(!b)=false:=ag;simpa using this
  refine aO.mk [.slice h.a h.n h.c] ⟨rfl,_,_,_,.inr ⟨_,.head _,rfl,rfl⟩,rfl,rfl⟩ ?_;refine⟨_,_,.sub (fp _) .refl,Jj,rfl,h,0,rfl,?_⟩;obtain⟨ez,cJ,X,bm,hc,mq,Ip,Sw,Sx,Sy⟩:=kF.ok AI;refine⟨λr' eY bn=>by rw[eY.eq af]at bn;exact absurd hm bn,λ_ _ _ aB=>absurd ⟨aa,ab,ak,by omega,by omega,by rw[Ns,sY];exact AI⟩ aB,λ_ _ _ _=>⟨rfl,ez,cJ,X,bm,?_,mq,Ip,?_,Sx,Sy⟩⟩;·rw[Ns];unfold nf;rw[ng,cR];show nd aw g u path S.d=_;rw[<-ad8 lQ];exact hc
  ·rw[Ns];exact Sw
structure aek(g:cx)(x:Nat×Nat):Prop where
 k:x.2<=g.n
 n:x.1<=2000
 small:x.1<200->x.2<=x.1/\∀ i (h:i<g.ds.length),i<x.2->Sp g.ds[i]
structure asF(g:cx)(t:bR)(k:Nat)(x:Nat×Nat):Prop where
 j:x.2<=t.n
 n:x.1<=2000
 small:x.1<200->t.n<200/\k+1<=x.1/\(∀ i (h:i<g.ds.length),i<k->Sp g.ds[i])/\(∀ h:k<g.ds.length,g.ds[k].name.size<8020)/\∀ i (h:i<t.ns.length),i<x.2->So t.ns[i]
def asG(au:sF I g) :
  Spec Tryz.prog 26 [g.val] I [] λv I' M'=>(∃ r,v=.bool r/\(r=false->Mi g))/\I'=I/\M'=[]:=by
 refine bZ [] a5 Tryz.func26 rfl rfl rfl ?_;intro B az;have fM:=au.n;refine de.inv (ι:=Nat×Nat) (λx=>{ bj:=[(1,.ref 1 0),(3,.val (.int .i64 x.1)),(4,.val (.int .i64 x.2))],cl:=[(1,[.slice g.a g.n g.c])],cI:=I }) (λx=>aek g x/\0<=x.1) (λx=>g.n-x.2) ?_ ?_
 ·exact⟨(0,0),⟨⟨dz _,dz _,λ_=>⟨dz _,λi _ h=>by simp at h⟩⟩,cc _⟩,.refl,hG,.cons rfl (.nil)⟩
 rintro⟨m,k⟩⟨⟨ae,hm,T4⟩,cA⟩;simp only at ae hm T4 cA;have fin:(m<200->k=g.n)->∀ c,c=decide ((200:Int)<=(m:Int))->(c=false->Mi g):=λaa c ap ael=>by
  rw[ap]at ael;have Ik:m<200:=by have:=dO ael;omega
  obtain⟨s1,s2⟩:=T4 Ik;have ak:=aa Ik;refine⟨by omega,λd aj=>?_⟩;obtain⟨y,aE,rfl⟩:=j9 aj;exact s2 y aE (by omega)
 refine cq.mk (λak=>aZ.mk (λaJ=>?_) (λaJ=>?_)) (λak=>?_)
 ·have cy:k<g.n:=by simpa using ak
  have ml:m<200:=by have:=dh aJ;omega
  obtain⟨s1,s2⟩:=T4 ml;have mj:k<g.ds.length:=by omega
  obtain⟨aS,bH,bl⟩:=au.a0.row aQ.cS cy mj;have aj:=au.ds _ (bx mj);have h9:=aj.name;have hT:=aj.t;have asH:=hT.n;have iO:∀ M,cM I M ((aS.add (k*3)).add 0) 1 [.string g.ds[k].name]:=λM=>(bl M).part (k:=0) (m:=1) (by decide);have n3:∀ M,cM I M ((aS.add (k*3)).add 1) 2 g.ds[k].t.cells:=λM=>(bl M).part (k:=1) (m:=2) (by decide);have Ka:∀ (q:Nat),q<8020->g.ds[k].name.size=q->∀ h:k<g.ds.length,g.ds[k].name.size<8020:=λq aP e h=>by rw[e];exact aP
  generalize hj:g.ds[k].name=nm at h9 iO Ka;generalize asI:g.ds[k].t=u at hT asH n3;refine bf.mk aS k bH rfl cy ?_;refine aO.mk _ (n3 _) ?_;refine cY.draw a5 rfl rfl rfl ?_;refine bg.mk ((m+5:Nat):Int) (zC (by omega) (by omega)) ?_;refine bg.mk ((m+5+min 200 u.n:Nat):Int) (zC (by omega) (by omega)) ?_;refine bf.mk aS k bH rfl cy ?_;refine aO.mk _ (iO _) ?_;refine C5.mk (by decide) ?_;refine bg.mk ((nm.size/20:Nat):Int) (zC (by rw[ac2 (by omega)];omega) (by omega)) ?_;refine bg.mk ((m+5+min 200 u.n+min 200 (nm.size/20):Nat):Int) (zC (by omega) (by omega)) ?_;refine de.inv (ι:=Nat×Nat) (λx=>{ bj:=[(1,.ref 1 0),(3,.val (.int .i64 x.1)),(4,.val (.int .i64 k)),(5,.ref 5 0),(6,.val (.int .i64 x.2))],cl:=[(1,[.slice g.a g.n g.c]),(5,u.cells)],cI:=I }) (λx=>asF g u k x/\0<=x.1) (λx=>u.n-x.2) ?_ ?_;·exact⟨(_,0),⟨⟨dz _,by simp only;omega,λh=>by simp only at h;exact⟨by omega,by simp only;omega,s2,λh=>Ka nm.size (by omega) rfl h,λi _ h=>by simp at h⟩⟩,by simp only;omega⟩,.refl,gf,.cons rfl (.cons rfl (.nil))⟩
  rintro⟨p,q⟩⟨⟨aP,aC,T5⟩,Ig⟩;simp only at aP aC Ig T5;have out:(p<200->q=u.n)->aek g (p,k+1):=λaa=>by
   refine⟨by simp only;omega,aC,λab=>?_⟩;simp only at ab;obtain⟨wB,rT,z7,T6,T7⟩:=T5 ab;have avV:=aa ab;refine⟨rT,λi hi iJ=>?_⟩;by_cases e:i=k
   ·subst e;refine⟨T6 hi,?_⟩;rw[asI];exact⟨by omega,λcd bI=>by
     obtain⟨y,aE,rfl⟩:=j9 bI;exact T7 y aE (by omega)⟩
   ·exact z7 i hi (by simp only at iJ;omega)
  refine cq.mk (λbB=>aZ.mk (λb5=>?_) (λb5=>?_)) (λbB=>?_)
  ·have ff:q<u.n:=by simpa using bB
   have kc:p<200:=by have:=dh b5;omega
   obtain⟨wB,rT,z7,T6,T7⟩:=T5 kc;have oK:q<u.ns.length:=by omega
   obtain⟨Ho,aem,m9⟩:=hT.a0.row an.cS ff oK;have bI:=hT.ns _ (bx oK);have dR:=bI.fJ;have qD:∀ M,cM I M ((Ho.add (q*9)).add 8) 1 [.slice u.ns[q].dy u.ns[q].aL u.ns[q].dq]:=λM=>(m9 M).part (k:=8) (m:=1) (by decide);have zA:∀ M,cM I M ((Ho.add (q*9)).add 5) 1 [.string u.ns[q].t]:=λM=>(m9 M).part (k:=5) (m:=1) (by decide);generalize asJ:u.ns[q]=cd at bI dR qD zA;refine cY.draw a5 rfl rfl rfl ?_;refine bf.mk Ho q aem rfl ff ?_;refine aO.mk _ (qD _) ?_;refine bg.mk ((p+min 200 cd.aL:Nat):Int) (zC (by omega) (by omega)) ?_;refine bf.mk Ho q aem rfl ff ?_;refine aO.mk _ (zA _) ?_;refine C5.mk (by decide) ?_;refine bg.mk ((cd.t.size/20:Nat):Int) (zC (by rw[ac2 (by omega)];omega) (by omega)) ?_;refine bg.mk ((p+min 200 cd.aL+min 200 (cd.t.size/20):Nat):Int) (zC (by omega) (by omega)) ?_;refine bg.mk _ (cK (i:=q) (by omega)) ?_;refine⟨(_,q+1),⟨⟨⟨by simp only;omega,by simp only;omega,λdZ=>?_⟩,by simp only;omega⟩,by simp only;omega⟩,.refl,gf,.cons rfl (.cons rfl (.nil))⟩;simp only at dZ |-;refine⟨wB,by omega,z7,T6,λi hi iJ=>?_⟩;by_cases e:i=q;·subst e;rw[asJ];exact⟨by omega,by omega⟩
   ·exact T7 i hi (by omega)
  ·have kc:200<=p:=by have:=dO b5;omega
   refine bg.mk _ (cK (i:=k) (by omega)) ?_;exact⟨(p,k+1),⟨⟨out λh=>by omega,Ig⟩,by simp only;omega⟩,.refl,hG,.cons rfl (.nil)⟩
  ·have ff:u.n<=q:=by simpa using bB
   refine bg.mk _ (cK (i:=k) (by omega)) ?_;exact⟨(p,k+1),⟨⟨out λh=>by omega,Ig⟩,by simp only;omega⟩,.refl,hG,.cons rfl (.nil)⟩
 ·have ml:200<=m:=by have:=dO aJ;omega
  exact⟨_,_,.refl,⟨_,rfl,fin (λh=>by omega) _ rfl⟩,rfl,rfl⟩
 ·have Wt:g.n<=k:=by simpa using ak
  exact⟨_,_,.refl,⟨_,rfl,fin (λh=>by omega) _ rfl⟩,rfl,rfl⟩
section
end
section
end
section
end
def asK(g:cx):h1 g.a4=h1 g:=by
 have aA:∀ (nm:ByteArray) (ds:List aQ) (i:Nat),ct nm (ds.map aQ.a4) i=ct nm ds i:=λnm ds=>by
  induction ds with
  |nil=>intro i;rfl| cons d ds aN=>intro i;rw[cb,ct,ct,aN];rfl
 have h9:∀ d:aQ,hK d.a4.t.ns=hK d.t.ns:=λd=>by show hK (d.t.ns.map an.a4)=_;unfold hK;rw[List.filter_map,gO];rfl
 unfold h1;show(g.ds.map aQ.a4).map _=_;rw[gO];refine gM λd _=>?_;show lx true 0 (oR (g.ds.map aQ.a4) g.n (hK d.a4.t.ns))=lx true 0 (oR g.ds g.n (hK d.t.ns));rw[h9];unfold oR;congr 1;congr 1;funext s nm;rw[aA]
end Go.V
