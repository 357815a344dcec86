/- Part 9 of what the proofs of this seat share: the executor, data in memory, walks.
-/
import Derived.Test.YtmncamccjfmbpaaGreatDoorK8
import Derived.Test.YtmncamccjfmbpaaGreatDoorK7
import Derived.Test.YtmncamccjfmbpaaGreatDoorK5
import Derived.Test.YtmncamccjfmbpaaGreatDoorK2
import Derived.Test.YtmncamccjfmbpaaGreatDoorK4
import Derived.Lib.SliceRun
import Derived.Test.YtmncamccjfmbpaaGreatDoorK6
set_option linter.all false
set_option maxHeartbeats 16000000
set_option maxRecDepth 100000
namespace Go.V
open Go Go.Proofs
def N5:=@List.getElem?_set_ne
variable{n pn jC u m b9 c' c size b j b1 cw bJ:Nat}{p al path:List Int}{s:List Bool}{g h:cD}{I J I':aM}{t bo:bP}{T S:aL}{pa a:Option Addr}{x:Operand}{c7 aI:dH}{xs ch cs:List Value}{Mr M M0:List aE}{os:aY}{ns dQ:List ap}{r:Int×Int}{X:aD}{v:Value}{rule pass way dX:Int}{F:List aW}{o:Obj}{aU:Addr}
def pL(R:List (List Bool))(i k:Nat):Bool:=nv R i k&&nv R k i
def Bb{R:List (List Bool)}{i k:Nat}:pL R i k=true ↔ kR R i k:=by unfold pL kR;rw[cz]
def DA(R:List (List Bool))(n i:Nat):Bool:=(List.range n).all λk=>!pL R i k||decide (i<=k)
def UH(R:List (List Bool))(n:Nat):List (List Int):=((List.range n).filter (DA R n)).map λi=>AX (pL R i) n
def UI(R:List (List Bool))(i:Nat):∀ (f k:Nat) (p:List Bool) (q:List Int),(km R i f k p q).2=q++((List.range' k f).filter (pL R i)).map λ(a:Nat)=>(a:Int)
 |0,k,p,q=>by simp[km]
 |f+1,k,p,q=>by
  unfold km;rw[Gz,o0];cases h:nv R i k&&nv R k i with
  |true=>have bc:pL R i k=true:=h;rw[cb,UI R i f,bc];simp| false=>have bc:pL R i k=false:=h;rw[b5,UI R i f,bc];simp
def UJ{R:List (List Bool)}{n:Nat}(aV:X4 R n):∀ (f i:Nat) (p:List Bool) (ps:List (List Int)),i+f=n->p.length=n->(∀ a,a<n->(ic p a ↔ ∃ j,j<i/\kR R j a)) -> wM R n f i p ps=ps++((List.range' i f).filter (DA R n)).map λi=>AX (pL R i) n
 |0,i,p,ps,_,_,_=>by simp[wM]
 |f+1,i,p,ps,hi,aB,iO=>by
  unfold wM;rw[Gz,o0];cases ag:p.getD i false with
  |true=>
   obtain⟨aem,a8,ba⟩:=(iO i (by omega)).1 ag;have m5:DA R n i=false:=by rw[M7];intro h;unfold DA at h;rw[fi]at h;have:=h aem (g8.2 (by omega));rw[Bb.2 ba.symm]at this;simp at this;omega
   rw[cb,m5];refine UJ aV f (i+1) p ps (by omega) aB λa a6=>?_;rw[iO a a6];constructor;·rintro⟨j,aa,ab⟩;exact⟨j,by omega,ab⟩
   ·rintro⟨j,aa,ab⟩;by_cases e:j=i
    ·subst e;exact⟨aem,a8,aV.trans _ _ _ ba ab⟩
    ·exact⟨j,by omega,ab⟩
  |false=>
   have asf:¬ ic p i:=by simpa[ic]using ag
   have dN:∀ j,j<i->¬ kR R j i:=λj ai hm=>asf ((iO i (by omega)).2 ⟨j,ai,hm⟩);have Nh:∀ a,i<=a->a<n->kR R i a->¬ ic p a:=λa aa ab aj aG=>by obtain⟨j,a8,ba⟩:=(iO a ab).1 aG;exact dN j a8 (aV.trans _ _ _ ba aj.symm)
   obtain⟨dJ,eO,eJ⟩:=QF (n:=n) (n-i) i p [] (by omega) aB Nh;have ay:=(QE R i (n-i) i p []).1;have m5:DA R n i=true:=by
    unfold DA;rw[fi];intro k ae;by_cases e:i<=k;·simp[e]
    ·have:pL R i k=false:=by rw[M7];intro h;exact dN k (by omega) (Bb.1 h).symm
     simp[this]
   have K0:(km R i (n-i) i p []).2=AX (pL R i) n:=by
    rw[UI,iF];unfold AX;have af:List.range n=List.range i++List.range' i (n-i):=by rw[xH,xH];have:=List.range'_append (s:=0) (m:=i) (n:=n-i) (step:=1);rw[o2,cX]at this;rw[this];congr 1;omega
    have bb:(List.range i).filter (pL R i)=[]:=by rw[St];intro k ae h;exact dN k (g8.1 ae) (Bb.1 h).symm
    rw[af,yy,bb,iF]
   rw[b5,m5,K0];simp only[pO,bX];rw[UJ aV f (i+1) _ _ (by omega) (by rw[ay];exact aB) λa a6=>?_];·simp
   ·rw[dJ,iO a a6];constructor
    ·rintro(⟨j,aa,ab⟩ | ⟨aa,ab,aj⟩)
     ·exact⟨j,by omega,ab⟩
     ·exact⟨i,by omega,aj⟩
    ·rintro⟨j,aa,ab⟩;by_cases e:j=i
     ·subst e;by_cases a4:j<=a
      ·exact .inr ⟨a4,a6,ab⟩
      ·exact absurd ab.symm (dN a (by omega))
     ·exact .inl ⟨j,by omega,ab⟩
def aen{L:List (List Int)}(cc:∀ l∈L,valid L.length l):mO L=UH (gM L) L.length:=by
 unfold mO UH;rw[UJ (X5 cc) L.length 0 _ _ (by omega) (by simp) λa a6=>?_]
 ·rw[iF,xH]
 ·constructor
  ·intro h;exfalso;simp[ic,bt,a6]at h
  ·rintro⟨j,h,_⟩;omega
def F7(p:List Int)(s:List Bool):List Bool:=p.foldl (λs i=>s.set i.toNat (decide (1<p.length))) s
def xz(ps:List (List Int))(s:List Bool):List Bool:=ps.foldl (λs p=>F7 p s) s
def aeo(b:Bool):∀ (p:List Int) (s:List Bool),(p.foldl (λs i=>s.set i.toNat b) s).length=s.length
 |[],s=>rfl| i::p,s=>by rw[jE,aeo b p,n4]
def aep(b:Bool):∀ (p:List Int) (s:List Bool) (i:Nat),i<s.length->(∀ x∈p,0<=x)->(p.foldl (λs i=>s.set i.toNat b) s).getD i false=if(i:Int)∈p then b else s.getD i false
 |[],s,i,_,_=>by simp
 |x::p,s,i,hi,az=>by
  rw[jE,aep b p _ i (by rw[n4];exact hi) λy aH=>az y (.tail _ aH)];have ad:=az x (.head _);by_cases aB:(i:Int)∈p;·rw[bN aB,bN (.tail _ aB)]
  ·rw[bS aB];by_cases e:(i:Int)=x
   ·rw[bN (by rw[e];exact .head _)];have:x.toNat=i:=by omega
    rw[this];simp[bt,hi]
   ·rw[bS (λh=>(eg.1 h).elim e aB)];have:x.toNat≠i:=by omega
    simp[bt,N5 this]
def aeq{v:Nat->Bool}:∀ (ps:List (List Int)) (s:List Bool) (i:Nat),i<s.length->(∀ p∈ps,∀ x∈p,0<=x)->(∀ p∈ps,(i:Int)∈p->decide (1<p.length)=v i)->(∃ p∈ps,(i:Int)∈p)\/s.getD i false=v i->(xz ps s).getD i false=v i
 |[],s,i,_,_,_,h=>h.elim (λ⟨_,h,_⟩=>by cases h) id
 |p::ps,s,i,hi,az,ah,h=>by
  show(xz ps (F7 p s)).getD i false=_;have e7:=aep (decide (1<p.length)) p s i hi (az p (.head _));refine aeq ps _ i (by rw[F7,aeo];exact hi) (λq aN=>az q (.tail _ aN)) (λq aN=>ah q (.tail _ aN)) ?_;by_cases aB:(i:Int)∈p;·refine .inr ?_;unfold F7;rw[e7,bN aB,ah p (.head _) aB]
  ·rcases h with⟨q,aN,nU⟩ | h
   ·rcases eg.1 aN with rfl | aN
    ·exact absurd nU aB
    ·exact .inl ⟨q,aN,nU⟩
   ·refine .inr ?_;unfold F7;rw[e7,bS aB,h]
def asg{p:Nat->Bool}{i:Nat}(hi:i<n)(aB:p i=true):1<((List.range n).filter p).length ↔ ∃ j,j<n/\j≠i/\p j=true:=by
 have hm:i∈(List.range n).filter p:=iE.2 ⟨g8.2 hi,aB⟩;have bH:((List.range n).filter p).Nodup:=xZ.filter _;constructor
 ·intro h;generalize ay:(List.range n).filter p=l at h hm bH;have fo:∀ x∈l,x<n/\p x=true:=λx ad=>by rw[<-ay,iE,g8]at ad;exact ad
  match l,h,hm,bH,fo with
  |a::b::l,_,hm,bH,fo=>
   have kN:a≠b:=λe=>by rw[l5]at bH;exact bH.1 (by rw[e];exact .head _)
   by_cases e:a=i;·exact⟨b,(fo b (.tail _ (.head _))).1,λa4=>kN (by rw[e,a4]),(fo b (.tail _ (.head _))).2⟩
   ·exact⟨a,(fo a (.head _)).1,e,(fo a (.head _)).2⟩
 ·rintro⟨j,ai,bs,qy⟩;have mE:j∈(List.range n).filter p:=iE.2 ⟨g8.2 ai,qy⟩;generalize(List.range n).filter p=l at hm mE
  match l,hm,mE with
  |[a],hm,mE=>rw[ec]at hm mE;exact absurd (mE.trans hm.symm) bs| a::b::l,_,_=>simp
open Classical in
def ash{P:Nat->Prop}:∀ n,P n->∃ q,q<=n/\P q/\∀ k,k<q->¬ P k:=by
 intro n
 induction n using Nat.strongRecOn with
 |_ n aF=>
  intro h;by_cases ad:∃ k,k<n/\P k;·obtain⟨k,ae,aB⟩:=ad;obtain⟨q,aa,ab,aj⟩:=aF k ae aB;exact⟨q,by omega,ab,aj⟩
  ·exact⟨n,b2 _,h,λk ae aB=>ad ⟨k,ae,aB⟩⟩
section
variable{L:List (List Int)}(cc:∀ l∈L,valid L.length l)
include cc
open Classical in
theorem asi{i:Nat}(hi:i<L.length)(au:s.length=L.length):(xz (mO L) s).getD i false=decide (∃ j,j<L.length/\j≠i/\kR (gM L) i j):=by
 have aQ:=X5 cc;rw[aen cc];refine aeq (v:=λi=>decide (∃ j,j<L.length/\j≠i/\kR (gM L) i j)) _ s i (by omega) (λp aB x ad=>?_) (λp aB asj=>?_) (.inl ?_)
 ·obtain⟨q,-,rfl⟩:=cA.1 aB;obtain⟨k,-,rfl⟩:=cA.1 ad;exact ES _
 ·obtain⟨q,aN,rfl⟩:=cA.1 aB;obtain⟨k,ae,e⟩:=cA.1 asj;have e:k=i:=by omega
  subst e;rw[iE,g8]at ae;have yq:=Bb.1 ae.2;have aa:=asg (p:=pL (gM L) q) ae.1 ae.2;have ab:(AX (pL (gM L) q) L.length).length=((List.range L.length).filter (pL (gM L) q)).length:=by simp[AX]
  have aj:(1<(AX (pL (gM L) q) L.length).length) ↔ ∃ j,j<L.length/\j≠k/\kR (gM L) k j:=by
   rw[ab,aa];constructor;·rintro⟨j,a,b,c⟩;exact⟨j,a,b,aQ.trans _ _ _ yq.symm (Bb.1 c)⟩
   ·rintro⟨j,a,b,c⟩;exact⟨j,a,b,Bb.2 (aQ.trans _ _ _ yq c)⟩
  by_cases an:1<(AX (pL (gM L) q) L.length).length;·rw[eV an,eV (aj.1 an)]
  ·rw[dU an,dU λh=>an (aj.2 h)]
 ·
  obtain⟨q,CE,vr,Jk⟩:∃ q,q<L.length/\kR (gM L) q i/\∀ k,k<q->¬ kR (gM L) k i:=by obtain⟨q,aa,ab,aj⟩:=ash (P:=λq=>kR (gM L) q i) i (aQ.refl i hi);exact⟨q,by omega,ab,aj⟩
  refine⟨_,cA.2 ⟨q,iE.2 ⟨g8.2 CE,?_⟩,rfl⟩,?_⟩
  ·unfold DA;refine fi.2 λk ae=>?_;by_cases e:q<=k
   ·rw[eV e,ET]
   ·have:pL (gM L) q k=false:=by rw[M7];intro h;exact Jk k (by omega) (aQ.trans _ _ _ (Bb.1 h).symm vr)
    rw[this];rfl
  ·exact cA.2 ⟨i,iE.2 ⟨g8.2 hi,Bb.2 vr⟩,rfl⟩
theorem asl{i:Nat}(hi:i<L.length):((L.getD i []).any λk=>(oy L k.toNat).getD i false)=true ↔ (i:Int)∈L.getD i []\/∃ j,j<L.length/\j≠i/\kR (gM L) i j:=by
 have UK:L.getD i []=L[i]:=by simp[bt,hi]
 rw[vM,UK];have ah:=cc _ (bi hi);constructor
 ·rintro⟨k,ae,aA⟩;have eS:=ah k ae;obtain⟨j,rfl⟩:=ea eS.1;have ai:j<L.length:=by omega
  have an:Comes L j i:=((Cr cc ai).iff i).1 aA;by_cases e:j=i;·subst e;exact .inl ae
  ·exact .inr ⟨j,ai,e,(uc cc hi).2 (.next .self (by rw[UK];exact ae)),(uc cc ai).2 an⟩
 ·rintro(h | ⟨j,ai,bs,K5,mE⟩)
  ·exact⟨i,h,((Cr cc hi).iff i).2 .self⟩
  ·have gf:=(uc cc hi).1 K5;have gn:=(uc cc ai).1 mE;have key:∀ {k},Comes L i k->k=i\/∃ a:Nat,(a:Int)∈L[i]/\Comes L a k:=fun {k} h=>by
    induction h with
    |self=>exact .inl rfl
    | @next a k h ae aF=>
     rcases aF with rfl | ⟨b,ag,an⟩;·rw[UK]at ae;exact .inr ⟨k,ae,.self⟩
     ·exact .inr ⟨b,ag,.next an ae⟩
   have iQ:∀ {a b c:Nat},Comes L a b->Comes L b c->Comes L a c:=fun {a b c} aa ab=>by
    induction ab with
    |self=>exact aa| next _ ae aF=>exact .next aF ae
   rcases key gf with e | ⟨a,a6,an⟩;·exact absurd e bs
   ·have pj:=ah _ a6;exact⟨(a:Int),a6,((Cr cc (by omega)).iff i).2 (iQ an gn)⟩
end
def DB(d:aP):Bool:=d.t.ns.any λn=>decide (n.k=3)&&decide (n.t=d.name)
def F8{al:List Int}(aC:g.ds.length=g.n){i q:Nat}(hi:i<g.ds.length)(aN:q<g.ds.length):(q:Int)∈(gi g).getD i [] ↔ ∃ ca∈g.ds[i].t.ns,ca.k=3/\cr ca.t g.ds 0=(q:Int):=by
 rw[gi,bt,jR,db hi];show(q:Int)∈lN true 0 (ph g.ds g.n (hY g.ds[i].t.ns)) ↔ _;rw[ajo];unfold ic;rw[ph,acN aC _ _ (by simp) q (by omega)];constructor
 ·rintro(h | ⟨nm,h7,aA⟩)
  ·simp[bt]at h;rw[Re]at h;split at h<;>simp at h
  ·obtain⟨ca,bH,rfl⟩:=cA.1 h7;obtain⟨aa,ab⟩:=iE.1 bH;exact⟨ca,aa,dB ab,aA⟩
 ·rintro⟨ca,bH,aj,aA⟩;exact .inr ⟨ca.t,cA.2 ⟨ca,iE.2 ⟨bH,eV aj⟩,rfl⟩,aA⟩
open Classical in
def aer(aC:g.ds.length=g.n)(hm:dj al g=0){i:Nat}(hi:i<g.ds.length)(au:s.length=g.ds.length):((xz (mO (gi g)) s).getD i false||DB g.ds[i])=jx al g (i:Int):=by
 have gC:(gi g).length=g.ds.length:=by simp[gi]
 have cc:=ED aC;have e8:z8 (i:Int) g.n=true:=by unfold z8;simp;omega
 have aJ:jx al g (i:Int)=((gi g).getD i []).any λk=>(oy (gi g) k.toNat).getD i false:=by unfold jx;rw[e8,eV hm];rfl
 have a4:=asl cc (i:=i) (by omega);have asm:=apA aC hm i hi;have cn:DB g.ds[i]=true ↔ (i:Int)∈(gi g).getD i []:=by
  rw[F8 (al:=al) aC hi hi];unfold DB;rw[vM];constructor;·rintro⟨ca,bH,h⟩;rw[cz]at h;exact⟨ca,bH,dB h.1,by rw[dB h.2];exact asm⟩
  ·rintro⟨ca,bH,aj,aA⟩;obtain⟨j,ai,dc,jX⟩:=FQ g.ds 0 i aA;have:j=i:=by omega
   subst this;exact⟨ca,bH,by rw[eV aj,eV jX.symm];rfl⟩
 rw[asi cc (by omega) (by omega),aJ,sC,a4,k6,cn,M6];exact Or.comm
def uA(x:Nat×Int):List Value:=[.int .i64 x.1,.int .i64 x.2]
structure asn(t:bP)(T:aL)(path:List Int)(x:Nat×aY×List (Nat×Int)×aL):Prop where
 hi:x.1<=path.length
 os:x.2.1.ok 2 (x.2.2.1.flatMap uA)
 len:x.2.2.1.length=x.1
 pK:x.2.2.1++x.2.2.2.pK (path.drop x.1)=T.pK path
 go:x.2.2.2.go (path.drop x.1)=T.go path
 dX:cy t.ns x.2.2.2
 pF:x.1+x.2.2.2.bh<=T.bh
def aso(T:aL)(path:List Int)(I:aM)(v:Value)(I':aM)(M':List aE):Prop:=I'=I/\∃ (os:aY) (l:List (Nat×Int)) (k:Nat) (b:Bool),v=.tuple #[os.val,.int .i64 k,.bool b]/\M'=os.ar 255/\os.ok 2 (l.flatMap uA) /\
 match T.go path with
 |none=>b=false| some S=>b=true/\k=S.bh/\l=T.pK path/\l.length<=T.bh
def asp(ax:t.ok I)(ae:ss t.ns)(bp:cy t.ns T)(tP:t.bA=(T.bh:Int))(aC:t.n<=1099511627776)(aB:dh I pa pn jC 1 8 (path.map (.int .i64 ·))) :
  Spec Tryz.prog 133 [t.val,.slice pa pn jC] I [] (aso T path I):=by
 refine cg [] a7 Tryz.func133 rfl rfl rfl ?_;intro B az;have hK:=ax.n;have iO:path.length=pn:=by have:=aB.len;simpa using this
 have EI:dh I pa pn jC 1 8 (path.flatMap kx):=by rw[rh];exact aB
 have asq:=bp.mV;refine dg.inv (ι:=Nat×aY×List (Nat×Int)×aL) (λx=>{ bj:=[(2,.ref 2 0),(7,.val x.2.1.val),(8,.val (.int .i64 x.2.2.2.bh)),(14,.val (.slice pa pn jC)),(15,.val (.int .i64 pn)),(16,.val (.int .i64 x.1))],cl:=[(2,t.cells)],cI:=I,de:=x.2.1.ar 255 }) (asn t T path) (λx=>path.length-x.1) ?_ ?_
 ·refine⟨(0,ib,[],T),⟨dw _,lM 2,rfl,rfl,rfl,bp,by simp only;omega⟩,.refl,.cons .refl (.cons .refl (.cons ?_ (ht))),.cons rfl (.nil)⟩;simp only;rw[<-tP];exact .refl
 rintro⟨i,os,l,S⟩⟨hi,bU,gC,Bc,eK,e7,hs⟩;simp only at hi bU gC Bc eK e7 hs;have jA:os.n=i:=by have:=bU.len;rw[jm uA 2 (λ_=>rfl),gC]at this;omega
 have qo:=e7.mV;refine a3.mk (λh=>?_) (λh=>?_)
 ·have a1:i<path.length:=by have:(i:Int)<(pn:Int):=dB h;omega
  have ku:path.drop i=path[i]::path.drop (i+1):=e1 a1;rw[ku]at Bc eK;obtain⟨UL,NW,oL⟩:=EI.row (f:=kx) (λ_=>rfl) (j:=i) (by omega) a1;obtain⟨lK,lL,hy⟩:=ax.a2.row ap.cT (j:=S.bh) (by omega) qo;have ak:=ax.ns _ (bi qo);have eZ:=e7.xu;rw[gg qo]at eZ;generalize t.ns[S.bh]=d at ak hy eZ;have ff:=ak.aO;have cv:d.aw.length=S.sub.length:=by rw[eZ];simp[eM]
  generalize sH:path[i]=nn at oL Bc eK;refine bf.mk UL i NW rfl (by omega) ?_;refine aR.mk _ (oL _) ?_;refine bf.mk lK S.bh lL rfl (by omega) ?_;refine aR.mk _ ((hy _).part (k:=8) (m:=1) (by decide)) ?_;refine cj.mk (λaG=>?_) (λaG=>?_)
  ·have asr:0<=nn:=by have:¬ nn<0:=eu aG;omega
   refine a3.mk (λbx=>?_) (λbx=>?_);·have cJ:(d.aO:Int)<=nn:=dB bx;refine⟨_,_,.sub (fk _) .refl,rfl,ib,[],0,false,rfl,rfl,lM 2,?_⟩;rw[<-eK,aL.go,bS (by omega)]
   ·have aes:nn<(d.aO:Int):=by have:¬ (d.aO:Int)<=nn:=eu bx;omega
    obtain⟨z,rfl⟩:=ea asr;have bb:z<S.sub.length:=by omega
    have o5:S.sub.getD z S=S.sub[z]:=by simp[bt,bb]
    rw[aL.go,bN (by omega),gz,o5]at eK;rw[aL.pK,gz,o5]at Bc;have UM:d.aw[z]'(by omega)=((S.sub[z]).bh:Int):=by
     have:d.aw[z]?=(eM S.sub)[z]?:=by rw[eZ]
     rw[db (by omega)]at this;unfold eM at this;rw[jR,db bb]at this;exact fm this
    have NU:(S.sub[z]).bh<S.bh:=by
     cases S with
     |mk k ks=>exact e7.Ua ae (bi bb)
    have Dv:dh I d.dE d.aO d.du 1 8 (d.aw.flatMap kx):=by rw[rh];exact ak.a2
    obtain⟨gr,fB,eY⟩:=Dv.row (f:=kx) (λ_=>rfl) (j:=z) (by omega) (by omega);rw[UM]at eY;refine b'.mk λb9 lf xr=>?_;refine bB.pw a7 rfl (by simp) (e:=255) rfl rfl rfl os bU rfl (cs:=[.int .i64 S.bh,.int .i64 z]) rfl rfl rfl [] [] (by simp;rfl) (by omega) (by show(os.n+1)*16<=_;omega) ?_;intro kq aa ab aj;refine bf.mk gr z fB rfl (by omega) ?_;refine aR.mk _ (eY _) ?_;refine bg.mk _ (cL (i:=i) (by omega)) ?_;refine⟨(i+1,kq,l++[(S.bh,(z:Int))],S.sub[z]),⟨⟨a1,?_,by simp[gC],?_,eK,e7.Ds _ (bi bb),by simp only;omega⟩,by simp only;omega⟩,.pu (by simp),oX,.cons rfl (.nil)⟩;·rw[hn];exact aj
    ·rw[dY];exact Bc
  ·have axy:nn<0:=dB aG;refine⟨_,_,.sub (fk _) .refl,rfl,ib,[],0,false,rfl,rfl,lM 2,?_⟩;rw[<-eK,aL.go,bS (by omega)]
 ·have cJ:i=path.length:=by have:¬ (i:Int)<(pn:Int):=eu h;omega
  subst cJ;rw[List.drop_length]at Bc eK;refine⟨_,_,.refl,rfl,os,l,S.bh,true,rfl,rfl,bU,?_⟩;rw[<-eK];rw[aL.pK,ed]at Bc;exact⟨rfl,rfl,Bc,by omega⟩
section
variable{X:cV}{β:Nat->Nat}{a:Act}{w:World}{F:Fr}{C:dF}{I:aM}{M:List aE}{o:Oper}{K:gm}
def ass(aQ:cU X.P X.E){s:Operand}{t:Nat}(aK:o.op=.call { callee:=.builtin .append,args:=#[s,x],argTypes:=#[t,u] })(ak:∀ d,o.dst=some d->d<X.n)
  {e:Nat} {l9:dH} (ax:X.E t=some c7) (dT:c7.bM=.slice e) (hu:X.E u=some l9) (fL:∀ k,l9.bM≠.int k) (he:X.E e=some aI)
  (os:aY) (bw:os.ok aI.size xs) (au:bF F s=.val os.val)
  {pU:Value} (ad:bF F x=.val pU) (hm:0<m) (ay:ch.length=m*aI.size) (aa:gA ch=true)
  (c1:∀ w',(Builtin.lenOf pU).run X.P w'=.ok m w') (fg:∀ w,eF I M w->(Builtin.firstCells aI.size m pU).run X.P w=.ok ch.toArray w)
 (a':M.Perm (os.ar e++Mr)) (b1:os.n+m<=maxLen) (bT:(os.n+m)*aI.bytes<=140737488355328)
  (k:∀ (g c:Nat) (aS:List Value) (J:List aE),I g=none->aS.length=c*aI.size->os.n+m<=c->c<=maxLen->aS.take ((os.n+m)*aI.size)=xs++ch->((os.a=some g/\J=[])\/J=os.ar e) ->
   K (put o.dst (.val (.slice (some ⟨g,0,none⟩) (os.n+m) c)) F) C I (⟨g,.cells aS.toArray e (0,0)⟩::(J++Mr))):bB X o F C I M K:=by
 refine⟨λa w Q ⟨β,iH⟩=>?_⟩;have aV:cN X β a w F C I (os.ar e++Mr):=iH.h5 (.perm a' .refl);obtain⟨inf,z,hi,ft,iW,iB,kE⟩:=(aQ _ _ he).inf;obtain⟨d,fM,fu⟩:=(aQ _ _ hu).fx;obtain⟨gp,jV,kj⟩:=(aQ _ _ ax).fx;have qI:gp=.slice e:=by rw[dT]at kj;cases gp<;>simp_all[fw]
 subst qI;have qH:z.cells.size=inf.size:=by rw[ft,<-(aQ _ _ he).len,<-kE];simp
 rw[<-ft]at bw ay fg;obtain⟨g,c,aS,w',fj,a8,ba,bR,fq,k9⟩:=PA (P:=X.P) (w:=w) t u o.type e inf z jV fM (λk cQ=>fL k (by rw[<-fu,cQ];rfl)) hi iB qH bw (λg av=>aV.holds.m ⟨g,.cells os.aS.toArray e (0,0)⟩ (by simp[aY.ar,av])) (x:=pU) hm ay (zj aa) c1 (λw' x9=>fg w' (iH.holds.heap x9)) b1 (by rw[iW];exact bT);rw[ft]at a8 fq;have zJ:I g=none:=by
  rcases k9 with⟨av,_⟩ | ⟨rfl,_⟩;·exact aV.holds.d ⟨g,.cells os.aS.toArray e (0,0)⟩ (by simp[aY.ar,av])
  ·cases bz:I w.heap.size with
   |none=>rfl| some nY=>have:=aV.holds.i _ _ bz;simp at this
 have es:=df aV.ao au;have ex:=df aV.ao ad;rcases k9 with⟨av,hw⟩ | ⟨rfl,hw⟩
 ·refine jg (by rw[aK];simp) (v:=.slice (some ⟨g,0,none⟩) (os.n+m) c) (w':=w') ?_ ⟨_,_,_,_,⟨β,cN.put (x:=.val (.slice (some ⟨g,0,none⟩) (os.n+m) c)) ?_ ak rfl⟩,k g c aS [] zJ a8 ba bR fq (.inl ⟨av,rfl⟩)⟩
  ·unfold execOp;simp only[aK,resolve,invoke,builtin,ct,c3,bY,sG,bX,hx,es,ex,fj]
  ·subst hw;have ag:os.ar e=[⟨g,.cells os.aS.toArray e (0,0)⟩]:=by simp[aY.ar,av]
   rw[ag]at aV;exact aV.xQ (a9:=[]) (post:=Mr) rfl
 ·refine jg (by rw[aK];simp) (v:=.slice (some ⟨_,0,none⟩) (os.n+m) c) (w':=w') ?_ ⟨_,_,_,_,⟨β,cN.put (x:=.val (.slice (some ⟨_,0,none⟩) (os.n+m) c)) ?_ ak rfl⟩,k _ c aS (os.ar e) zJ a8 ba bR fq (.inr rfl)⟩
  ·unfold execOp;simp only[aK,resolve,invoke,builtin,ct,c3,bY,sG,bX,hx,es,ex,fj]
  ·subst hw;have ab:cN X β a w.drew F C I (os.ar e++Mr):=aV.world rfl;exact ab.oe (.cells aS.toArray e (0,0))
def bB.aet(aQ:cU X.P X.E){s:Operand}{t:Nat}(aK:o.op=.call { callee:=.builtin .append,args:=#[s,x],argTypes:=#[t,t] })(ak:∀ d,o.dst=some d->d<X.n)
  {e:Nat} (ax:X.E t=some c7) (dT:c7.bM=.slice e) (he:X.E e=some aI)
  (os:aY) (bw:os.ok aI.size xs) (au:bF F s=.val os.val)
 (ad:bF F x=.val (.slice (some ⟨b9,0,none⟩) 1 c')) (ay:cs.length=aI.size) (aa:gA cs=true)
  (a9 post:List aE) (a':M=⟨b9,.cells cs.toArray e (0,0)⟩::(a9++(os.ar e++post))) (b1:os.n+1<=9223372036854775807) (bT:(os.n+1)*aI.bytes<=140737488355328)
  (k:∀ (bu:aY) (J:List aE),bu.n=os.n+1->(∀ g,bu.a=some g->I g=none)->bu.ok aI.size (xs++cs)->(∀ g∈(os.ar e).map (·.num),g∈(bu.ar e++J).map (·.num))->K (put o.dst (.val bu.val) F) C I (a9++(bu.ar e++(J++post)))):bB X o F C I M K:=by
 refine .h5 (ass aQ aK ak ax dT ax (λk=>by rw[dT];simp) he os bw au ad (m:=1) (ch:=cs) (by decide) (by rw[o2];exact ay) aa (λ_=>rfl) (λw hw=>?_) (Mr:=⟨b9,.cells cs.toArray e (0,0)⟩::(a9++post)) ?_ (by unfold maxLen;exact b1) bT ?_)
 ·refine run_firstCells_some (P:=X.P) w aI.size 1 ⟨b9,0,none⟩ 1 c' cs (by rw[o2];exact ay) λj v ai=>?_;have ag:w.heap[b9]?=some (.cells cs.toArray e (0,0)):=hw.m ⟨b9,.cells cs.toArray e (0,0)⟩ (by rw[a'];exact .head _);rw[eU _ rfl,tw ag];simpa using ai
 ·rw[a'];have ab:(⟨b9,.cells cs.toArray e (0,0)⟩::(a9++(os.ar e++post)):List aE).Perm (⟨b9,.cells cs.toArray e (0,0)⟩::(os.ar e++(a9++post))):=.cons _ (Cn _ _ _);exact ab.trans mN.symm
 ·intro g c aS J bz dJ eO eJ iN bl;refine⟨I,a9++((⟨some g,os.n+1,c,aS⟩:aY).ar e++(J++post)),.perm (M1:=⟨b9,.cells cs.toArray e (0,0)⟩::(a9++((⟨some g,os.n+1,c,aS⟩:aY).ar e++(J++post)))) ?_ (.sub (.cons _ (.refl _)) .refl),k ⟨some g,os.n+1,c,aS⟩ J rfl (λdM av=>by cases av;exact bz) ⟨?_,(λh=>by cases h),λdM av=>?_⟩ λx ad=>?_⟩
  ·have aJ:((⟨some g,os.n+1,c,aS⟩:aY).ar e)=[⟨g,.cells aS.toArray e (0,0)⟩]:=rfl;rw[aJ];have tT:(⟨g,.cells aS.toArray e (0,0)⟩::(J++(⟨b9,.cells cs.toArray e (0,0)⟩::(a9++post))):List aE).Perm (⟨b9,.cells cs.toArray e (0,0)⟩::(⟨g,.cells aS.toArray e (0,0)⟩::(J++(a9++post)))):=(List.Perm.cons _ mN).trans (List.Perm.swap _ _ _);refine tT.trans (List.Perm.cons _ ?_);have yf:(⟨g,.cells aS.toArray e (0,0)⟩::(J++(a9++post)):List aE).Perm (⟨g,.cells aS.toArray e (0,0)⟩::(a9++(J++post))):=List.Perm.cons _ (Cn _ _ _);exact yf.trans mN.symm
  ·rw[b3,bw.len,ay,l8,o2]
  ·cases av;exact⟨dJ,eO,eJ,iN⟩
  ·rw[cP,cF];rcases bl with⟨aa,rfl⟩ | rfl
   ·left
    have:os.ar e=[⟨g,.cells os.aS.toArray e (0,0)⟩]:=by simp[aY.ar,aa]
    rw[this]at ad;simpa[aY.ar]using ad
   ·exact .inr ad
end
structure JZ(ns:List ap)(I:aM)(os:aY)(dQ:List ap)(J:aM):Prop where
 bl:∀ b o,I b=some o->J b=some o
 os:os.ok 9 (dQ.flatMap ap.cells)
 ok:∀ d∈dQ,d.ok J
 a9:∃ m,dQ=ns++m
def zd(os bu:aY)(je:List aE):Prop:=∀ g∈(os.ar 66).map (·.num),g∈(bu.ar 66++je).map (·.num)
def ast(S:aL)(tns ns:List ap)(qn:List Nat)(os:aY)(I:aM)(v:Value)(I':aM)(M':List aE):Prop:=
 ∃ (bu:aY) (jB:List ap) (je:List aE),v=.tuple #[bu.val,.int .i64 ((jB.length-1:Nat):Int)]/\M'=bu.ar 66++je/\zd os bu je/\JZ ns I bu jB I'/\mq jB ((jB.length-1)::qn)/\jB.length=ns.length+S.cG.length/\∃ kB:aL,kB.bh=jB.length-1/\cy jB kB/\kB.bare jB=S.bare tns
def F9(cS len e j:Nat):Int:=((cS+len-1-(e+j):Nat):Int)
def asu{q:List aL}(h:q=S::q.flatMap aL.sub)(i:Nat):fe q i<=q.length:=by
 have aa:=congrArg List.length h;have e:q.flatMap aL.sub=(q.take i).flatMap aL.sub++(q.drop i).flatMap aL.sub:=by rw[<-hn,rY]
 rw[c2,e,b3]at aa;unfold fe;omega
structure asv(cS len e aO:Nat)(y:Nat×List Int):Prop where
 j:y.1<=aO
 L:y.2.length=aO
 eq:y.2.take y.1=(List.range y.1).map (F9 cS len e)
def aeu(ax:t.ok I)(aA:∀ d∈t.ns,fits d d.aw.length=true)(cB:cy t.ns S)(bU:os.ok 9 (ns.flatMap ap.cells))(rJ:∀ d∈ns,d.ok I){qn:List Nat}(av:mq ns qn)(ag:ns.length+S.cG.length<=1099511627776) :
  Spec Tryz.prog 153 [os.val,t.val,.int .i64 S.bh] I (os.ar 66) (ast S t.ns ns qn os I):=by
 refine zt [] a7 Tryz.func153 rfl rfl rfl ?_;intro B az;have hK:=ax.n;have jA:os.n=ns.length:=by have:=bU.len;rw[jm _ 9 ap.cT]at this;omega
 refine b'.mk λb1 hb NP=>?_;refine dg.inv (ι:=Nat×aY×List aL) (λx=>{ bj:=[(0,.val os.val),(4,.ref 4 0),(8,.val x.2.1.val),(9,.val (.int .i64 x.1))],cl:=[(4,t.cells)],cI:=I,de:=x.2.1.ar 3++os.ar 66 }) (λx=>vW S x.2.2 x.1/\x.2.1.ok 1 ((eM x.2.2).map (.int .i64 ·))/\∀ c∈x.2.2,cy t.ns c) (λx=>S.cG.length-x.1) ?_ ?_
 ·refine⟨(0,⟨some b1,1,1,[.int .i64 S.bh]⟩,[S]),⟨vW.start S,⟨rfl,(λh=>by cases h),λdM kF=>⟨rfl,b2 _,by simp[maxLen],rfl⟩⟩,λc an=>?_⟩,.refl,ej,.cons rfl (.nil)⟩;rw[ec.1 an];exact cB
 rintro⟨i,ro,q⟩⟨bz,g0,e7⟩;simp only at bz g0 e7;obtain⟨x8,wH⟩:=bz.len;have hy:=g0.nt;simp only[eM,bE]at hy;refine a3.mk (λh=>?_) (λh=>?_)
 ·have a1:i<q.length:=by have:(i:Int)<(ro.n:Int):=dB h;omega
  have lB:=e7 _ (bi a1);have DC:=lB.mV;obtain⟨Ct,Cu,fE⟩:=aY.Cz (I:=I) (e:=3) (M:=ro.ar 3++os.ar 66) g0 (λx ad=>by simp[ad]) (j:=i) (by simp[eM,a1]);have y9:(eM q)[i]'(by simp[eM,a1])=(q[i].bh:Int):=by simp[eM]
  rw[y9]at fE;obtain⟨lK,lL,Bd⟩:=ax.a2.row ap.cT (j:=q[i].bh) (by omega) DC;have ak:=ax.ns _ (bi DC);have eZ:=lB.xu;rw[gg DC]at eZ;generalize t.ns[q[i].bh]=d at ak Bd eZ;have ff:=ak.aO;have r9:=ak.a2.cap;have cv:d.aw.length=q[i].sub.length:=by rw[eZ];simp[eM]
  have dS:=bz.step a1;obtain⟨zG,M3⟩:=dS.len;rw[b3]at M3;refine c4.draw a7 rfl rfl rfl ?_;refine bf.mk Ct i Cu rfl (by show i<ro.n;omega) ?_;refine aR.mk _ fE ?_;refine bf.mk lK q[i].bh lL rfl (by omega) ?_;refine aR.mk _ ((Bd _).part (k:=8) (m:=1) (by decide)) ?_;refine bB.E3 a7 rfl (by simp) (e:=3) rfl rfl rfl ro g0 rfl (sa:=d.dE) (m:=d.aO) (c':=d.du) (ch:=d.aw.map (.int .i64 ·)) rfl (by rw[bE,ff];show _=d.aO*1;omega) (λaz=>ak.a2.Dg _ az) (Ju _) [] (os.ar 66) rfl (by omega) (by show(ro.n+d.aO)*8<=_;omega) ?_;intro tc acV acW jV;rw[<-cP,eZ,<-FZ]at jV;refine bg.mk _ (cL (i:=i) (by omega)) ?_;refine⟨(i+1,tc,q++q[i].sub),⟨⟨dS,jV,λc an=>?_⟩,by simp only;omega⟩,.refl,ej,.cons rfl (.nil)⟩;rcases cF.1 an with an | an;·exact e7 c an
  ·exact lB.Ds c an
 ·have cJ:i=q.length:=by have:¬ (i:Int)<(ro.n:Int):=eu h;have:=bz.hi;omega
  subst cJ;obtain⟨aN,a1,eb⟩:=bz.done;have wJ:0<q.length:=by rw[aN];simp
  refine bg.mk ((q.length:Int)-1) (by show IntKind.i64.wrap ((ro.n:Int)-1)=_;rw[wrap_i64 ⟨by omega,by omega⟩,hy]) ?_;refine dg.wo (ι:=Nat×aY×List ap×aM×List aE) (λx=>{ bj:=[(0,.val x.2.1.val),(4,.ref 4 0),(8,.val ro.val),(10,.val (.int .i64 (fe q x.1))),(11,.val (.int .i64 ((x.1:Int)-1)))],cl:=[(4,t.cells)],cI:=x.2.2.2.1,de:=x.2.1.ar 66++(x.2.2.2.2++ro.ar 3) }) (λx=>xw t.ns ns.length qn q x.1 x.2.2.1/\JZ ns I x.2.1 x.2.2.1 x.2.2.2.1/\zd os x.2.1 x.2.2.2.2) (λx=>x.1) ?_ ?_;·intro _;refine⟨(q.length,os,ns,I,[]),⟨xw.start aN av,⟨λ_ _ h=>h,bU,rJ,[],by simp⟩,λg av=>by rw[ed];exact av⟩,.perm eI .refl,.cons .refl (.cons .refl (.cons .refl (.cons ?_ (.cons .refl (.nil))))),.cons rfl (.nil)⟩;simp only;rw[aec aN,<-hy];exact .refl
  rintro⟨i,no,dQ,J,je⟩⟨jk,dS,sZ⟩;simp only at jk dS sZ;have jq:=jk.len;have dN:=dS.os;have UN:no.n=dQ.length:=by have:=dN.len;rw[jm _ 9 ap.cT]at this;omega
  refine a3.mk (λh=>?_) (λh=>?_)
  ·have aev:(0:Int)<=(i:Int)-1:=dB h;obtain⟨z,rfl⟩:∃ z,i=z+1:=⟨i-1,by omega⟩;have yd:z<q.length:=jk.hi;have lB:=e7 _ (bi yd);have DC:=lB.mV;obtain⟨Ct,Cu,fE⟩:=aY.Cz (I:=J) (e:=3) (M:=no.ar 66++(je++ro.ar 3)) g0 (λx ad=>by simp[ad]) (j:=z) (by simp[eM,yd]);have y9:(eM q)[z]'(by simp[eM,yd])=(q[z].bh:Int):=by simp[eM]
   rw[y9]at fE;obtain⟨lK,lL,Bd⟩:=(ax.a2.mono dS.bl).row ap.cT (j:=q[z].bh) (by omega) DC;have ak:=(ax.ns _ (bi DC)).mono dS.bl;have eZ:=lB.xu;have mU:=gg DC;rw[mU]at eZ;generalize t.ns[q[z].bh]=d at ak Bd eZ mU;have ff:=ak.aO;have r9:=ak.a2.cap;have cv:d.aw.length=q[z].sub.length:=by rw[eZ];simp[eM]
   refine c4.draw a7 rfl rfl rfl ?_;refine bf.mk Ct z Cu (by show((z+1:Nat):Int)-1=z;omega) (by show z<ro.n;omega) ?_;refine aR.mk _ fE ?_;refine bf.mk lK q[z].bh lL rfl (by omega) ?_;refine aR.mk _ (Bd _) ?_;refine b'.mk λjD asw asx=>?_;refine b8.mk [] (no.ar 66++(je++ro.ar 3)) _ _ rfl rfl (bI rfl) rfl ?_;refine aR.mk [.slice d.dE d.aO d.du] (c5 (cs:=d.cells) (k:=8) (n:=1) (T:=66) (.head _) (bI rfl)) ?_;have pX:=aeb yd;have axz:=asu aN (z+1);refine m0.mk d.aO d.aO rfl rfl (b2 _) (by show 8*d.aO<=_;omega) (by omega) ?_;refine b'.mk λl2 axA axB=>?_;refine bg.mk ((fe q z:Nat):Int) (by show IntKind.i64.wrap (((fe q (z+1):Nat):Int)-(d.aO:Int))=_;rw[wrap_i64 ⟨by omega,by omega⟩];omega) ?_;have TP:(rowOf [Value.int .i64 0] (d.aO*1))=(List.replicate d.aO (0:Int)).map (Value.int .i64):=by rw[tL,xY,fa]
   refine dg.inv (ι:=Nat×List Int) (λy=>{ bj:=[(0,.val no.val),(4,.ref 4 0),(8,.val ro.val),(10,.val (.int .i64 (fe q z))),(11,.val (.int .i64 (((z+1:Nat):Int)-1))),(12,.val (ptr jD)),(13,.val (.slice (some ⟨l2,0,none⟩) d.aO d.aO)),(60,.val (.int .i64 d.aO)),(61,.val (.int .i64 y.1))],cl:=[(4,t.cells)],cI:=J,de:=dG l2 y.2::⟨jD,.cells d.cells.toArray 66 (0,0)⟩::(no.ar 66++(je++ro.ar 3)) }) (asv ns.length q.length (fe q z) d.aO) (λy=>d.aO-y.1) ?_ ?_;·refine⟨(0,List.replicate d.aO 0),⟨dw _,sO,rfl⟩,.pu ?_,kh,.cons rfl (.nil)⟩;rw[TP];rfl
   rintro⟨j,L⟩⟨ai,cc,C5⟩;simp only at ai cc C5;refine a3.mk (λab=>?_) (λab=>?_)
   ·have ez:j<d.aO:=by have:(j:Int)<(d.aO:Int):=dB ab;omega
    refine bg.mk (((no.n+z:Nat)):Int) (by show IntKind.i64.wrap ((no.n:Int)+(((z+1:Nat):Int)-1))=_;rw[wrap_i64 ⟨by omega,by omega⟩];omega) ?_;refine bg.mk (((fe q z+j:Nat)):Int) (by show IntKind.i64.wrap (((fe q z:Nat):Int)+(j:Int))=_;rw[wrap_i64 ⟨by omega,by omega⟩];omega) ?_;refine bg.mk (F9 ns.length q.length (fe q z) j) (by show IntKind.i64.wrap (((no.n+z:Nat):Int)-((fe q z+j:Nat):Int))=_;rw[wrap_i64 ⟨by omega,by omega⟩];unfold F9;omega) ?_;refine bf.mk ⟨l2,0,none⟩ j rfl rfl ez ?_;refine b8.iJ [] (⟨jD,.cells d.cells.toArray 66 (0,0)⟩::(no.ar 66++(je++ro.ar 3))) (L.map (Value.int .i64)) 3 rfl (by rw[n5,bE];show 0+j*1+1<=_;omega) rfl ((L.set j (F9 ns.length q.length (fe q z) j)).map (Value.int .i64)) (by rw[cX,fa];exact o8 L j (by omega) _) ?_;refine bg.mk _ (cL (i:=j) (by omega)) ?_;refine⟨(j+1,L.set j (F9 ns.length q.length (fe q z) j)),⟨⟨ez,by rw[n4];exact cc,?_⟩,by simp only;omega⟩,.refl,kh,.cons rfl (.nil)⟩;rw[Co,cP,<-C5,gy (by rw[n4];omega),List.getElem_set_self,List.take_set_of_le (b2 _)];rfl
   have cJ:j=d.aO:=by have:¬ (j:Int)<(d.aO:Int):=eu ab;omega
   subst cJ;rw[fN (by omega)]at C5;refine b8.iJ [dG l2 L] (no.ar 66++(je++ro.ar 3)) d.cells 66 rfl rfl rfl (d.row (some ⟨l2,0,none⟩) d.aO d.aO L).cells rfl ?_;refine aR.mk (d.row (some ⟨l2,0,none⟩) d.aO d.aO L).cells (c5 (cs:=(d.row (some ⟨l2,0,none⟩) d.aO d.aO L).cells) (k:=0) (n:=9) (T:=66) (.tail _ (.head _)) (bI rfl)) ?_;refine b'.mk λUp Uq asy=>?_;refine bB.aet a7 rfl (by simp) (e:=66) rfl rfl rfl no dN rfl (cs:=(d.row (some ⟨l2,0,none⟩) d.aO d.aO L).cells) rfl rfl rfl [dG l2 L,⟨jD,.cells (d.row (some ⟨l2,0,none⟩) d.aO d.aO L).cells.toArray 66 (0,0)⟩] (je++ro.ar 3) rfl (by omega) (by show(no.n+1)*96<=_;omega) ?_;intro J0 dp aa ab aj eS;refine bg.mk ((z:Int)-1) (by show IntKind.i64.wrap ((((z+1:Nat):Int)-1)-1)=_;rw[wrap_i64 ⟨by omega,by omega⟩];omega) ?_;intro fJ;have DD:zd os J0 (dp++je):=λg av=>by
    have dZ:=sZ g av;rw[cP,cF]at dZ;rw[<-dY,cP,cF];rcases dZ with dZ | dZ;·exact .inl (eS g dZ)
    ·exact .inr dZ
   have lr:([dG l2 L,⟨jD,.cells (d.row (some ⟨l2,0,none⟩) d.aO d.aO L).cells.toArray 66 (0,0)⟩]++(J0.ar 66++(dp++(je++ro.ar 3)))).Perm ((⟨some l2,d.aO,d.aO,L.map (Value.int .i64)⟩:aY).ar 3++(⟨jD,.cells (d.row (some ⟨l2,0,none⟩) d.aO d.aO L).cells.toArray 66 (0,0)⟩::(J0.ar 66++((dp++je)++ro.ar 3)))):=by rw[dY dp];exact .refl _
   have ld:=mu.F2 (J:=J) (os:=⟨some l2,d.aO,d.aO,L.map (Value.int .i64)⟩) (e:=3) (foot:=(os.ar 66).map (·.num)) fJ lr (λx ad=>by
    have dZ:=DD x ad;rw[<-dY,bX,cP];exact .tail _ (iD _ dZ))
   have asz:(⟨some l2,d.aO,d.aO,L.map (Value.int .i64)⟩:aY).ok 1 (L.map (.int .i64 ·)):=⟨by rw[bE];simp only;omega,(λh=>by cases h),λdM kF=>⟨by simp only[bE];omega,b2 _,by unfold maxLen;simp only;omega,fN (by rw[bE];simp only;omega)⟩⟩;obtain⟨l0,hw,bq,ei,-⟩:=aY.Ad (b:=8) (e:=3) asz (by simp only;omega) ld (⟨jD,.cells (d.row (some ⟨l2,0,none⟩) d.aO d.aO L).cells.toArray 66 (0,0)⟩::(J0.ar 66++((dp++je)++ro.ar 3)));have Ba:(d.row (some ⟨l2,0,none⟩) d.aO d.aO L).aw=(List.range (fe q (z+1)-fe q z)).map λj=>((ns.length+q.length-1-(fe q z+j):Nat):Int):=by rw[show fe q (z+1)-fe q z=d.aO by omega];exact C5
   have asA:=xw.step aN a1 jk lB aA (x:=d.row (some ⟨l2,0,none⟩) d.aO d.aO L) (by rw[mU];rfl) Ba;have UO:(d.row (some ⟨l2,0,none⟩) d.aO d.aO L).ok l0:=(ak.mono bq).row ei λx ad=>by rw[C5]at ad;obtain⟨y,aH,rfl⟩:=cA.1 ad;unfold F9 iZ;omega
   obtain⟨jy,sp⟩:=dS.a9;refine⟨(z,J0,dQ++[d.row (some ⟨l2,0,none⟩) d.aO d.aO L],l0,dp++je),⟨⟨asA,⟨λb o h=>bq _ _ (dS.bl _ _ h),?_,λx ad=>?_,jy++[_],by rw[sp,dY]⟩,DD⟩,by simp only;omega⟩,.perm lr (hw _ _ (.sub (.cons _ (.refl _)) .refl)),hv,.cons rfl (.nil)⟩
   ·rw[hn];have:([d.row (some ⟨l2,0,none⟩) d.aO d.aO L].flatMap ap.cells)=(d.row (some ⟨l2,0,none⟩) d.aO d.aO L).cells:=by simp
    rw[this];exact aj
   ·rcases cF.1 ad with ad | ad
    ·exact(dS.ok x ad).mono bq
    ·rw[ec.1 ad];exact UO
  ·have aev:i=0:=by have:¬ (0:Int)<=(i:Int)-1:=eu h;omega
   subst aev;obtain⟨ze,kB,jK,iw,oK⟩:=jk.done aN;refine bg.mk ((dQ.length-1:Nat):Int) (by show IntKind.i64.wrap ((no.n:Int)-1)=_;rw[wrap_i64 ⟨by omega,by omega⟩];omega) ?_;intro _;refine⟨_,_,.sub (M1:=no.ar 66++je) ((NE _).append (ua _ _)) .refl,no,dQ,je,rfl,rfl,sZ,dS,ze,by omega,kB,jK,iw,oK⟩
def dh.a9{ys:List Value}(h:dh I a n c size b (xs++ys))(hm:m<=n)(ad:xs.length=m*size)(c':Nat)(an:m<=c'):dh I a m c' size b xs:=by
 refine⟨ad,⟨an,jf (v' _ hm) h.cap.2⟩,?_⟩;by_cases az:m=0
 ·exact .inl az
 rcases h.rd with aa | ⟨aU,aa,ab,cs,T,ao,aj,aG⟩
 ·omega
 ·refine .inr ⟨aU,aa,ab,cs,T,ao,aj,?_⟩;have bx:((cs.toList.drop aU.off).take (n*size)).take (m*size)=xs:=by rw[aG,<-ad,zv]
  rw[BR,uL (v' _ hm)]at bx;exact bx
def asB{l:List (Nat×Int)}{x:Nat×Int}(h:dh I a n c 2 16 ((l++[x]).flatMap uA)) :
  Spec Tryz.prog 193 [.slice a n c] I [] λv I' M'=>v=.tuple #[.agg #[.int .i64 x.1,.int .i64 x.2],.slice a l.length l.length]/\I'=I/\M'=[]:=by
 refine cg [] a7 Tryz.func193 rfl rfl rfl ?_;intro B az;have ay:n=l.length+1:=by have:=h.len;rw[jm uA 2 (λ_=>rfl),b3,p8]at this;omega
 have jJ:=h.cap;obtain⟨aU,bK,bm⟩:=h.row (f:=uA) (λ_=>rfl) (j:=l.length) (by omega) (by simp);rw[abP rfl]at bm;refine bg.mk ((l.length:Nat):Int) (by show IntKind.i64.wrap ((n:Int)-1)=_;rw[wrap_i64 ⟨by omega,by omega⟩];omega) ?_;refine c4.draw a7 rfl rfl rfl ?_;refine bf.mk aU l.length bK rfl (by omega) ?_;refine aR.mk _ (bm _) ?_;refine O2.mk l.length l.length rfl rfl (b2 _) (by omega) ?_;have dd:(if l.length=0 then a else a.map (·.add (0*2)))=a:=by
  split;·rfl
  ·rcases h.rd with aa | ⟨aU,rfl,dO,-⟩
   ·omega
   ·rw[lx,eU _ dO];obtain⟨b,o,fV⟩:=aU;simp only at dO;subst dO;rfl
 refine⟨_,_,.refl,?_,rfl,rfl⟩;show Value.tuple #[Value.agg #[.int .i64 x.1,.int .i64 x.2],.slice (if l.length=0 then a else a.map (·.add (0*2))) (l.length-0) (l.length-0)]=_;rw[dd];rfl
def oM(z n:Nat):List Nat:=(List.range n).filter λj=>!decide (j=z)
def J1(z n:Nat):oM z (n+1)=if n=z then oM z n else oM z n++[n]:=by
 unfold oM;rw[Co,yy,o0,List.filter_nil];by_cases e:n=z<;>simp[e]
def N6{z:Nat}:j∈oM z n ↔ j<n/\j≠z:=by unfold oM;rw[iE,g8];simp
def aew{z:Nat}(h:z<n):(oM z n++[z]).Perm (List.range n):=by
 have z2:(oM z n++[z]).Nodup:=by refine uJ.2 ⟨xZ.sublist zM,by simp,λa a6 b ag e=>?_⟩;rw[ec]at ag;subst ag;exact(N6.1 a6).2 e
 refine(ND z2 xZ).2 λj=>?_;rw[cF,N6,ec,g8];omega
def uB(l:List aL)(z n:Nat):Nat:=((oM z n).map λj=>(l.getD j (.mk 0 [])).cG.length).sum
def asC(l:List aL):hD l=((List.range l.length).map λj=>(l.getD j (.mk 0 [])).cG.length).sum:=by unfold hD;congr 1;refine lC (by simp) λi hi cZ=>?_;rw[fr,fr,vl,bt,db (by simpa using hi)];rfl
def aex{l:List aL}{z:Nat}(bb:z<l.length):uB l z l.length+(l[z]).cG.length=hD l:=by have h:=((aew bb).map λj=>(l.getD j (.mk 0 [])).cG.length).sum_nat;rw[cP,rZ,<-asC]at h;rw[<-h];unfold uB;simp[bt,bb]
def aey(l:List aL)(z:Nat){i:Nat}(h:i<=n):uB l z i<=uB l z n:=by
 induction n with
 |zero=>
  obtain rfl:i=0:=by omega
  exact b2 _
 |succ n aF=>
  by_cases e:i=n+1;·subst e;exact b2 _
  ·refine jf (aF (by omega)) ?_;unfold uB;rw[J1];split
   ·exact b2 _
   ·rw[cP,rZ];omega
def aez:∀ (p:List Int) (T:aL) (i:Int),T.go (p++[i])=(T.go p).bind λS=>if 0<=i/\i<(S.sub.length:Int)then some (S.sub.getD i.toNat S)else none
 |[],T,i=>by simp[aL.go]
 |j::p,T,i=>by
  rw[mF,aL.go,aL.go];split;·exact aez p _ i
  ·rfl
def aeA:∀ (p:List Int) {T S:aL} (i:Int),T.go p=some S->T.pK (p++[i])=T.pK p++[(S.bh,i)]
 |[],T,S,i,h=>by obtain rfl:=fm h;rfl
 |j::p,T,S,i,h=>by
  rw[aL.go]at h;split at h;·rw[mF,aL.pK,aL.pK,aeA p i h];rfl
  ·cases h
def J2:∀ (p:List Int) (T:aL),(T.pK p).length=p.length
 |[],_=>rfl| i::p,T=>by rw[aL.pK,c2,J2 p];rfl
def asD{tns:List ap}{R:aL}{z:Nat}(bb:z<S.sub.length){L:List Int}(cc:L.length=S.sub.length){Y:aD}(aV:cy dQ R)(Be:R.bare dQ=Y)(UP:L.getD z 0=(R.bh:Int))(asE:∀ j,j<S.sub.length->j≠z->∃ T:aL,(T.bh:Int)=L.getD j 0/\cy dQ T/\T.bare dQ=(S.sub.getD j S).bare tns){x:ap}(Ba:x.aw=L)(kL:x.bare=(nodeAt tns S.bh).bare) :
  ∃ x7:aL,x7.bh=dQ.length/\cy (dQ++[x]) x7/\x7.bare (dQ++[x])=.mk (nodeAt tns S.bh).bare ((S.sub.map (aL.bare tns)).set z Y):=by
 obtain⟨ks,aa,ab⟩:=JJ (R:=λ(j:Nat) (T:aL)=>(T.bh:Int)=L.getD j 0/\cy dQ T/\T.bare dQ=if j=z then Y else(S.sub.getD j S).bare tns) (l:=List.range S.sub.length) λj ai=>by
  have ai:=g8.1 ai;by_cases e:j=z;·subst e;exact⟨R,UP.symm,aV,by rw[bN rfl];exact Be⟩
  ·obtain⟨T,dJ,eO,eJ⟩:=asE j ai e;exact⟨T,dJ,eO,by rw[bS e];exact eJ⟩
 rw[wU]at aa;have eZ:∀ c∈ks,cy dQ c:=λc an=>by obtain⟨j,ai,rfl⟩:=jv an;exact(ab j (by rw[wU];omega) ai).2.1
 refine⟨.mk dQ.length ks,rfl,.mk (by simp) ?_ λc an=>(eZ c an).app _,?_⟩
 ·rw[FW,Ba];refine lC (by rw[bE];omega) λj ai iC=>?_;rw[fr];have:=(ab j (by rw[wU];omega) (by omega)).1;rw[vl,bt,db ai]at this;exact this.symm
 ·rw[aL.mo,FW,kL];congr 1;refine lC (by simp[aa]) λj ai iC=>?_;have tf:j<ks.length:=by simpa using ai
  rw[fr,aL.Dr dQ (eZ _ (bi tf)),(ab j (by rw[wU];omega) tf).2.2,Hn,vl];by_cases e:j=z;·subst e;rw[bN rfl,bN rfl]
  ·rw[bS e,bS (λa4=>e a4.symm),fr];congr 1;simp[bt,show j<S.sub.length by omega]
def asF{z r:Nat}{L:List Int}(bb:z<L.length)(N7:∀ k∈L,0<=k)(UP:L.getD z 0=(r:Int))(h:mq dQ ((oM z L.length).map (ih L)++[r])){x:ap}(Ba:x.aw=L)(asG:fits x L.length=true):mq (dQ++[x]) [dQ.length]:=by
 have aJ:(List.range L.length).map (ih L)=L.map Int.toNat:=by refine lC (by simp) λj ai iC=>?_;rw[fr,fr,vl];unfold ih;rw[bt,db (by simpa using ai)];rfl
 have aB:((oM z L.length).map (ih L)++[r]).Perm (L.map Int.toNat++[]):=by
  rw[ed,<-aJ];have:=(aew bb).map (ih L);rw[cP,te]at this;have a4:ih L z=r:=by unfold ih;rw[UP];exact gz r
  rwa [a4]at this
 refine(h.perm aB).add (by rw[bE];exact asG) ?_;rw[Ba,gh];refine((fO λk ae=>?_).trans (FU _)).symm;have:=N7 k ae;show((k.toNat:Nat):Int)=k;omega
def aeB:∀ (p:List Int) {T S:aL},T.go p=some S->S.cG.length<=T.cG.length
 |[],T,S,h=>by obtain rfl:=fm h;exact b2 _
 |i::p,T,S,h=>by
  rw[aL.go]at h;split at h
  ·rename_i hi;have aa:=aeB p h;have ab:=F0 T;have aj:(T.sub.getD i.toNat T).cG.length<=hD T.sub:=by
    have ay:i.toNat<T.sub.length:=by omega
    rw[bt,db ay];have:=aex ay;simp only[j'];omega
   omega
  ·cases h
structure aeC(tns ns:List ap)(I:aM)(os:aY)(S R:aL)(z:Nat)(Y:aD)(i:Nat)(L:List Int)(no:aY)(dQ:List ap)(J:aM)(je:List aE):Prop where
 hi:i<=S.sub.length
 cc:L.length=S.sub.length
 aX:JZ ns I no dQ J
 KO:zd os no je
 E4:mq dQ ((oM z i).map (ih L)++[R.bh])
 dX:cy dQ R
 bare:R.bare dQ=Y
 oM:∀ j,j<i->j≠z->∃ T:aL,(T.bh:Int)=L.getD j 0/\cy dQ T/\T.bare dQ=(S.sub.getD j S).bare tns
 axC:z<i->L.getD z 0=(R.bh:Int)
 len:dQ.length<=ns.length+(S.sub.getD z S).cG.length+uB S.sub z i
structure aeD(tns ns:List ap)(I:aM)(os:aY)(T:aL)(path:List Int)(X:aD)(p:List Int)(tj:Option Addr)(gJ:Nat)(R:aL)(no:aY)(dQ:List ap)(J:aM)(je:List aE):Prop where
 row:dh I tj p.length gJ 2 16 ((T.pK p).flatMap uA)
 aX:JZ ns I no dQ J
 KO:zd os no je
 E4:mq dQ [R.bh]
 dX:cy dQ R
 go:∃ S q,path=p++q/\T.go p=some S/\R.bare dQ=(S.bare tns).put q X/\dQ.length<=ns.length+S.cG.length
def asH(T:aL)(tns ns:List ap)(path:List Int)(X:aD)(os:aY)(I:aM)(v:Value)(I':aM)(M':List aE):Prop:=
 ∃ (bu:aY) (jB:List ap) (je:List aE) (R:aL),v=.tuple #[bu.val,.int .i64 R.bh]/\M'=bu.ar 66++je/\JZ ns I bu jB I'/\mq jB [R.bh]/\cy jB R/\R.bare jB=(T.bare tns).put path X/\jB.length<=ns.length+T.cG.length
def aeE{zc fR:aY}{iy dp:List aE}(aa:zd os zc iy)(ab:zd zc fR dp):zd os fR (dp++iy):=λg av=>by
 have dZ:=aa g av;rw[cP,cF]at dZ;rw[<-dY,cP,cF];rcases dZ with dZ | dZ
 ·exact .inl (ab g dZ)
 ·exact .inr dZ
def asI(ax:t.ok I)(aA:∀ d∈t.ns,fits d d.aw.length=true)(ae:ss t.ns)(bp:cy t.ns T){mR:aL}(eK:T.go path=some mR)(p6:dh I a path.length c 2 16 ((T.pK path).flatMap uA))
 (bU:os.ok 9 (ns.flatMap ap.cells)) (rJ:∀ d∈ns,d.ok I) {vX:aL} (av:mq ns [vX.bh]) (aV:cy ns vX) (ag:ns.length+T.cG.length<=1099511627776) (aC:t.n<=1099511627776) :
  Spec Tryz.prog 154 [os.val,t.val,.slice a path.length c,.int .i64 vX.bh] I (os.ar 66) (asH T t.ns ns path (vX.bare ns) os I):=by
 refine zt [] a7 Tryz.func154 rfl rfl rfl ?_;intro B az;have hK:=ax.n;refine dg.wo (ι:=List Int×Option Addr×Nat×aL×aY×List ap×aM×List aE) (λx=>{ bj:=[(0,.val x.2.2.2.2.1.val),(2,.val (.slice x.2.1 x.1.length x.2.2.1)),(3,.val (.int .i64 x.2.2.2.1.bh)),(5,.ref 5 0)],cl:=[(5,t.cells)],cI:=x.2.2.2.2.2.2.1,de:=x.2.2.2.2.1.ar 66++x.2.2.2.2.2.2.2 }) (λx=>aeD t.ns ns I os T path (vX.bare ns) x.1 x.2.1 x.2.2.1 x.2.2.2.1 x.2.2.2.2.1 x.2.2.2.2.2.1 x.2.2.2.2.2.2.1 x.2.2.2.2.2.2.2) (λx=>x.1.length) ?_ ?_
 ·intro _;exact⟨(path,a,c,vX,os,ns,I,[]),⟨p6,⟨λ_ _ h=>h,bU,rJ,[],by simp⟩,(λg av=>by rw[ed];exact av),av,aV,mR,[],by simp,eK,rfl,by simp only;omega⟩,.pu (by simp),ej,.cons rfl (.nil)⟩
 rintro⟨p,tj,gJ,R,no,dQ,J,je⟩ef;have ef:aeD t.ns ns I os T path (vX.bare ns) p tj gJ R no dQ J je:=ef;obtain⟨I4,dS,sZ,ze,e7,F',q,nb,Bf,Be,jq⟩:=ef;refine a3.mk (λh=>?_) (λh=>?_)
 ·have gV:0<p.length:=by have:(0:Int)<(p.length:Int):=dB h;omega
  obtain⟨m4,nn,rfl⟩:∃ m4 k,p=m4++[k]:=by
   rcases wG p with aa | ⟨r,k,aa⟩;·subst aa;simp at gV
   ·exact⟨r,k,by simpa using aa⟩
  rw[aez]at Bf;obtain⟨S,N8,Bf⟩:=KJ.1 Bf;have AT:0<=nn/\nn<(S.sub.length:Int):=by
   by_cases e:0<=nn/\nn<(S.sub.length:Int);·exact e
   ·rw[bS e]at Bf;cases Bf
  rw[bN AT]at Bf;obtain⟨z,rfl⟩:=ea AT.1;have bb:z<S.sub.length:=by omega
  have Ga:S.sub.getD z S=F':=by have:=fm Bf;rwa [gz]at this
  rw[aeA m4 _ N8]at I4;have UQ:=cy.go m4 bp N8;have qo:=UQ.mV;refine bd.mk [] _ _ (.refl _) (asB (I4.mono dS.bl)) ?_;rintro v l0 M' -⟨ah,x4,rfl⟩;subst l0;rw[J2]at ah;subst ah;have asJ:dh I tj m4.length m4.length 2 16 ((T.pK m4).flatMap uA):=by rw[hn]at I4;exact I4.a9 (by rw[b3];omega) (by rw[jm uA 2 (λ_=>rfl),J2]) _ (b2 _)
  obtain⟨lK,lL,Bd⟩:=(ax.a2.mono dS.bl).row ap.cT (j:=S.bh) (by omega) qo;have ak:=(ax.ns _ (bi qo)).mono dS.bl;have eZ:=UQ.xu;have mU:=gg qo;have J3:=aA _ (bi qo);rw[mU]at eZ;have fD:=ax.ns _ (bi qo);generalize t.ns[S.bh]=d at ak Bd eZ mU J3 fD;have ff:=ak.aO;have r9:=ak.a2.cap;have cv:d.aw.length=S.sub.length:=by rw[eZ];simp[eM]
  refine bf.mk lK S.bh lL rfl (by omega) ?_;refine aR.mk _ (Bd _) ?_;refine m0.mk d.aO d.aO rfl rfl (b2 _) (by show 8*d.aO<=_;omega) (by omega) ?_;refine b'.mk λjD asw asx=>?_;have TO:(rowOf [Value.int .i64 0] (d.aO*1))=(List.replicate d.aO (0:Int)).map (Value.int .i64):=by rw[tL,xY,fa]
  have o5:∀ j (h:j<S.sub.length),S.sub.getD j S=S.sub[j]:=λj h=>by simp[bt,h]
  have asK:∀ j (h:j<S.sub.length),S.sub.getD j (.mk 0 [])=S.sub[j]:=λj h=>by simp[bt,h]
  have axD:=F0 S;have axE:=aex bb;have axF:F'.cG.length=(S.sub[z]).cG.length:=by rw[<-Ga,o5 z bb]
  have axG:S.cG.length<=T.cG.length:=aeB m4 N8;refine dg.wo (ι:=Nat×List Int×aY×List ap×aM×List aE) (λy=>{ bj:=[(0,.val y.2.2.1.val),(2,.val (.slice tj m4.length m4.length)),(3,.val (.int .i64 R.bh)),(5,.ref 5 0),(10,.ref 10 0),(11,.ref 11 0),(12,.val (.slice (some ⟨jD,0,none⟩) d.aO d.aO)),(34,.val (.slice d.dE d.aO d.du)),(35,.val (.int .i64 d.aO)),(36,.val (.int .i64 y.1))],cl:=[(5,t.cells),(10,[.int .i64 S.bh,.int .i64 z]),(11,d.cells)],cI:=y.2.2.2.2.1,de:=y.2.2.1.ar 66++(y.2.2.2.2.2++[dG jD y.2.1]) }) (λy=>aeC t.ns ns I os S R z ((F'.bare t.ns).put q (vX.bare ns)) y.1 y.2.1 y.2.2.1 y.2.2.2.1 y.2.2.2.2.1 y.2.2.2.2.2) (λy=>d.aO-y.1) ?_ ?_
  ·intro _;refine⟨(0,List.replicate d.aO 0,no,dQ,J,je),⟨dw _,by rw[sO];omega,dS,sZ,ze,e7,Be,λj ai=>absurd ai (mS _),λai=>absurd ai (mS _),?_⟩,.perm (M1:=no.ar 66++(je++[⟨jD,.cells (rowOf [Value.int .i64 0] (d.aO*1)).toArray 3 (0,0)⟩])) ?_ (.pu ?_),BN,.cons rfl (.cons rfl (.cons rfl (.nil)))⟩
   ·rw[Ga];simp only;omega
   ·have:=eI (l₁:=([⟨jD,.cells (rowOf [Value.int .i64 0] (d.aO*1)).toArray 3 (0,0)⟩]:List aE)) (l₂:=no.ar 66++je);rw[dY]at this;exact this
   ·rw[TO];rfl
  clear ze e7 Be jq sZ;have axH:=dS.bl;rintro⟨i,L,kK,cY,iy,iR⟩ef;have ef:aeC t.ns ns I os S R z ((F'.bare t.ns).put q (vX.bare ns)) i L kK cY iy iR:=ef;obtain⟨hi,cc,rm,N9,DE,vU,UR,N',Oa,US⟩:=ef;rw[Ga]at US;have qS:kK.n=cY.length:=by have:=rm.os.len;rw[jm _ 9 ap.cT]at this;omega
  have G4:=aey S.sub z hi;refine a3.mk (λab=>?_) (λab=>?_)
  ·have LJ:i<d.aO:=by have:(i:Int)<(d.aO:Int):=dB ab;omega
   have dL:i<S.sub.length:=by omega
   have Dv:dh iy d.dE d.aO d.du 1 8 (d.aw.flatMap kx):=by rw[rh];exact(fD.a2).mono rm.bl
   have qc:d.aw[i]'(by omega)=((S.sub[i]).bh:Int):=by
    have:d.aw[i]?=(eM S.sub)[i]?:=by rw[eZ]
    rw[db (by omega)]at this;unfold eM at this;rw[jR,db dL]at this;exact fm this
   obtain⟨gr,fB,eY⟩:=Dv.row (f:=kx) (λ_=>rfl) (j:=i) (by omega) (by omega);rw[qc]at eY;refine bf.mk gr i fB rfl (by omega) ?_;refine aR.mk _ (eY _) ?_;refine a3.mk (λaj=>?_) (λaj=>?_)
   ·obtain rfl:i=z:=by have:(i:Int)=(z:Int):=dB aj;omega
    refine bf.mk ⟨jD,0,none⟩ i rfl rfl LJ ?_;refine b8.iJ (kK.ar 66++iR) [] (L.map (Value.int .i64)) 3 (dY _ _ _).symm (by rw[n5,bE];show 0+i*1+1<=_;omega) rfl ((L.set i (R.bh:Int)).map (Value.int .i64)) (by rw[cX,fa];exact o8 L i (by omega) _) ?_;refine bg.mk _ (cL (i:=i) (by omega)) ?_;intro _;refine⟨(i+1,L.set i (R.bh:Int),kK,cY,iy,iR),⟨⟨dL,by rw[n4];exact cc,rm,N9,?_,vU,UR,λj ai bs=>?_,λ_=>?_,?_⟩,by simp only;omega⟩,.pu (dY _ _ _),BN,.cons rfl (.cons rfl (.cons rfl (.nil)))⟩
    ·rw[J1,bN rfl];have e:(oM i i).map (ih (L.set i (R.bh:Int)))=(oM i i).map (ih L):=fO λj ai=>by have:=(N6.1 ai).2;unfold ih;rw[bt,bt,iu,bS (λe=>this e.symm)]
     rw[e];exact DE
    ·obtain⟨kB,dJ,eO,eJ⟩:=N' j (by simp only at ai;omega) bs;refine⟨kB,?_,eO,eJ⟩;rw[bt,iu,bS (λe=>bs e.symm),<-bt];exact dJ
    ·rw[bt,iu,bN rfl,bN (by omega)];rfl
    ·rw[Ga];show cY.length<=_+_+uB S.sub i (i+1);unfold uB at US |-;rw[J1,bN rfl];exact US
   ·have bs:i≠z:=λe=>by have:¬ (i:Int)=(z:Int):=eu aj;omega
    have asL:=UQ.Ds _ (bi dL);have axI:uB S.sub z (i+1)=uB S.sub z i+(S.sub[i]).cG.length:=by unfold uB;rw[J1,bS bs,cP,rZ,te,List.sum_singleton,asK i dL]
    have axJ:=aey S.sub z (show i+1<=S.sub.length by omega);have dO:=aeu (ax.mono (λb o h=>rm.bl _ _ h)) aA asL rm.os rm.ok DE (by omega);refine bd.mk (kK.ar 66) (iR++[dG jD L]) _ (.refl _) dO ?_;rintro v dp dm -⟨iL,m2,tk,rfl,rfl,DD,xA,Gb,sk,kB,jK,iw,oK⟩;refine bf.mk ⟨jD,0,none⟩ i rfl rfl LJ ?_;refine b8.iJ ((iL.ar 66++tk)++iR) [] (L.map (Value.int .i64)) 3 (dY _ _ _).symm (by rw[n5,bE];show 0+i*1+1<=_;omega) rfl ((L.set i ((m2.length-1:Nat):Int)).map (Value.int .i64)) (by rw[cX,fa];exact o8 L i (by omega) _) ?_;refine bg.mk _ (cL (i:=i) (by omega)) ?_;intro _;obtain⟨jy,sp⟩:=xA.a9;obtain⟨Hz,qg⟩:=rm.a9;refine⟨(i+1,L.set i ((m2.length-1:Nat):Int),iL,m2,dp,tk++iR),⟨⟨dL,by rw[n4];exact cc,⟨λb o h=>xA.bl _ _ (rm.bl _ _ h),xA.os,xA.ok,Hz++jy,by rw[sp,qg,dY]⟩,aeE N9 DD,?_,?_,?_,λj ai asM=>?_,λaeF=>?_,?_⟩,by simp only;omega⟩,.pu ?_,BN,.cons rfl (.cons rfl (.cons rfl (.nil)))⟩
    ·rw[J1,bS bs];have e:(oM z i).map (ih (L.set i ((m2.length-1:Nat):Int)))=(oM z i).map (ih L):=fO λj ai=>by have:=(N6.1 ai).1;unfold ih;rw[bt,bt,iu,bS (by omega)]
     have a4:ih (L.set i ((m2.length-1:Nat):Int)) i=m2.length-1:=by unfold ih;rw[bt,iu,bN rfl,bN (by omega)];rfl
     rw[cP,e,te,a4];refine Gb.perm ?_;have:=mN (a:=m2.length-1) (l₁:=(oM z i).map (ih L)) (l₂:=[R.bh]);simpa using this.symm
    ·show cy m2 R;rw[sp];exact vU.app jy
    ·show R.bare m2=_;rw[sp,aL.Dr cY vU];exact UR
    ·by_cases e:j=i
     ·subst e;refine⟨kB,?_,iw,by rw[oK,o5 j dL]⟩;rw[bt,iu,bN rfl,bN (by omega),jK];rfl
     ·obtain⟨U,dJ,eO,eJ⟩:=N' j (by simp only at ai;omega) asM;refine⟨U,?_,?_,?_⟩
      ·rw[bt,iu,bS (λa4=>e a4.symm),<-bt];exact dJ
      ·show cy m2 U;rw[sp];exact eO.app jy
      ·show U.bare m2=_;rw[sp,aL.Dr cY eO];exact eJ
    ·have aeF:z<i+1:=aeF;rw[bt,iu,bS (by omega),<-bt];exact Oa (by omega)
    ·rw[Ga];show m2.length<=_+_+uB S.sub z (i+1);omega
    ·show((iL.ar 66++tk)++iR)++_=iL.ar 66++((tk++iR)++_);rw[dY,dY,dY];rfl
  ·have cJ:i=S.sub.length:=by have:¬ (i:Int)<(d.aO:Int):=eu ab;omega
   subst cJ;have BM:∀ b o,I b=some o->iy b=some o:=rm.bl;have Ux:d.ok iy:=fD.mono BM;refine b'.mk λUp Uq asy=>?_;refine bB.aet a7 rfl (by simp) (e:=66) rfl rfl rfl kK rm.os rfl (cs:=(d.row (some ⟨jD,0,none⟩) d.aO d.aO L).cells) rfl rfl rfl [] (iR++[dG jD L]) rfl (by omega) (by show(kK.n+1)*96<=_;omega) ?_;intro iL dp bx bZ ek eS;refine bg.mk ((cY.length:Nat):Int) (by show IntKind.i64.wrap ((iL.n:Int)-1)=_;rw[wrap_i64 ⟨by omega,by omega⟩];omega) ?_;intro fJ;have DD:zd os iL (dp++iR):=aeE N9 eS;have lr:([]++(iL.ar 66++(dp++(iR++[dG jD L])))).Perm ((⟨some jD,d.aO,d.aO,L.map (Value.int .i64)⟩:aY).ar 3++(iL.ar 66++(dp++iR))):=by have:=eI (l₁:=iL.ar 66++(dp++iR)) (l₂:=[dG jD L]);rw[iF];rw[dY,dY]at this;exact this
   have ld:=mu.F2 (J:=iy) (os:=⟨some jD,d.aO,d.aO,L.map (Value.int .i64)⟩) (e:=3) (foot:=(os.ar 66).map (·.num)) fJ lr (λx ad=>DD x ad);have asN:(⟨some jD,d.aO,d.aO,L.map (Value.int .i64)⟩:aY).ok 1 (L.map (.int .i64 ·)):=⟨by rw[bE];simp only;omega,(λh=>by cases h),λdM kF=>⟨by simp only[bE];omega,b2 _,by unfold maxLen;simp only;omega,fN (by rw[bE];simp only;omega)⟩⟩;obtain⟨l0,hw,bq,ei,-⟩:=aY.Ad (b:=8) (e:=3) asN (by simp only;omega) ld (iL.ar 66++(dp++iR));have asO:∀ j,j<L.length->∃ U:aL,(U.bh:Int)=L.getD j 0/\cy cY U:=λj ai=>by
    by_cases e:j=z;·subst e;exact⟨R,(Oa (by omega)).symm,vU⟩
    ·obtain⟨U,dJ,eO,-⟩:=N' j (by omega) e;exact⟨U,dJ,eO⟩
   have N7:∀ k∈L,0<=k/\k<cY.length:=λk ae=>by obtain⟨j,ai,rfl⟩:=jv ae;obtain⟨U,dJ,eO⟩:=asO j ai;rw[bt,db ai]at dJ;have:=eO.mV;have dJ:(U.bh:Int)=L[j]:=dJ;omega
   have UO:(d.row (some ⟨jD,0,none⟩) d.aO d.aO L).ok l0:=(Ux.mono bq).row ei λx ad=>by have:=N7 x ad;unfold iZ;omega
   have asP:cY.length+1<=ns.length+S.cG.length:=by omega
   rw[<-cc]at DE;have Gb:=asF (x:=d.row (some ⟨jD,0,none⟩) d.aO d.aO L) (by omega) (λk ae=>(N7 k ae).1) (Oa (by omega)) DE rfl (by
    have dZ:fits d d.aw.length=true:=J3;show fits (d.row (some ⟨jD,0,none⟩) d.aO d.aO L) (L.length:Nat)=true;rw[cc,<-cv];exact dZ)
   obtain⟨x7,g5,lG,wN⟩:=asD (tns:=t.ns) bb cc vU UR (Oa (by omega)) (λj ai bs=>N' j (by omega) bs) (x:=d.row (some ⟨jD,0,none⟩) d.aO d.aO L) rfl (by rw[mU];rfl);have UT:aD.mk (nodeAt t.ns S.bh).bare ((S.sub.map (aL.bare t.ns)).set z ((F'.bare t.ns).put q (vX.bare ns)))=(S.bare t.ns).put ((z:Int)::q) (vX.bare ns):=by rw[aD.put,Ut,aea,gz,getD_map,Ga]
   rw[UT]at wN;obtain⟨Hz,qg⟩:=rm.a9;refine⟨(m4,tj,m4.length,x7,iL,cY++[d.row (some ⟨jD,0,none⟩) d.aO d.aO L],l0,dp++iR),⟨⟨asJ,⟨λb o h=>bq _ _ (BM _ _ h),?_,λx ad=>?_,Hz++[_],by rw[qg,dY]⟩,DD,by rw[g5];exact Gb,lG,S,(z:Int)::q,by rw[nb,dY];rfl,N8,wN,by rw[b3,p8];exact asP⟩,by simp only[b3,p8];omega⟩,.perm lr (hw _ _ .refl),.cons .refl (.cons .refl (.cons ?_ (.cons .refl (.nil)))),.cons rfl (.nil)⟩
   ·rw[hn];have:([d.row (some ⟨jD,0,none⟩) d.aO d.aO L].flatMap ap.cells)=(d.row (some ⟨jD,0,none⟩) d.aO d.aO L).cells:=by simp
    rw[this];exact ek
   ·rcases cF.1 ad with ad | ad
    ·exact(rm.ok x ad).mono bq
    ·rw[ec.1 ad];exact UO
   ·simp only;rw[g5];exact .refl
 ·have asQ:p.length=0:=by have:¬ (0:Int)<(p.length:Int):=eu h;omega
  obtain rfl:p=[]:=iq asQ;obtain rfl:T=F':=fm Bf;rw[iF]at nb;subst nb;intro _;exact⟨_,_,.refl,no,dQ,je,R,rfl,rfl,dS,ze,e7,Be,jq⟩
section
end
section
end
section
section
end
end
section
end
section
end
section
end
section
end
section
end
section
end
section
end
section
end
section
end
section
end
section
end
section
end
def Gc(J:aM)(os:aY)(e:Nat):aM:=match os.a with
 |some g=>ins J g (.cells os.aS.toArray e (0,0))| none=>J
def asR{foot:List Nat}{e:Nat}{post:List aE}(aA:∀ g,os.a=some g->g ∉ foot):il foot J (os.ar e++post) (Gc J os e) post:=by
 obtain⟨a,n,c,aS⟩:=os;cases a with
 |none=>exact .refl| some g=>exact .k3 rfl (aA g rfl) .refl
def asS{e:Nat}(h:∀ x∈os.ar e++M,J x.num=none):∀ b o,J b=some o->Gc J os e b=some o:=by
 obtain⟨a,n,c,aS⟩:=os;cases a with
 |none=>exact λ_ _ h=>h
 |some g=>exact hW (h ⟨g,_⟩ (.head _))
def asT{e:Nat}(h:os.ok size xs)(ag:os.n*b<=140737488355328):dh (Gc J os e) (os.a.map λg=>⟨g,0,none⟩) os.n os.c size b xs:=by
 obtain⟨a,n,c,aS⟩:=os;cases a with
 |none=>obtain⟨aa,ab⟩:=h.nil rfl;exact⟨h.len,⟨by simp only at aa ab |-;omega,ag⟩,.inl aa⟩
 |some g=>obtain⟨aa,ab,aj,aG⟩:=h.cap g rfl;exact⟨h.len,⟨ab,ag⟩,.inr ⟨⟨g,0,none⟩,rfl,rfl,aS.toArray,e,(0,0),mI ..,by simpa using aG⟩⟩
section
end
section
end
def asU(an:nh I)(ax:t.ok I)(af:right t=true)(aC:t.n<=1099511627776){node:Nat}(yZ:node<t.n) :
  Spec Tryz.prog 134 [t.val,.int .i64 node] I M0 λv I' M'=>(∀ b o,I b=some o->I' b=some o)/\M'=M0/\∃ bo:bP,v=.tuple #[bo.val,.bool true]/\bo.ok I'/\Ma t node bo:=by
 refine cg [] a7 Tryz.func134 rfl rfl rfl ?_;intro B az;refine bd.mk [] M0 _ (.refl _) (qM an ax) ?_;rintro v J N -⟨rfl,bl,rfl⟩;subst J;refine cj.mk (λ_=>?_) (λh=>absurd h (by simp[af]));have e2:decide (((node:Nat):Int)<0)=false:=dU (by omega);have gF:decide (((t.n:Nat):Int)<=((node:Nat):Int))=false:=dU (by omega);refine cj.mk (λ_=>?_) (λh=>absurd (e2.symm.trans h) (by simp));refine a3.mk (λh=>absurd (gF.symm.trans h) (by simp)) (λ_=>?_);refine bd.whole _ (T1 ax af aC yZ) ?_;rintro v J N -⟨bl,rfl,bo,rfl,tb,au⟩;exact⟨_,_,.refl,bl,rfl,bo,rfl,tb,au⟩
def aeG(ax:t.ok I)(ae:ss t.ns)(bp:cy t.ns T)(tP:t.bA=(T.bh:Int))(aC:t.n<=1099511627776)(aB:dh I pa pn jC 1 8 (path.map (.int .i64 ·))) :
  Spec Tryz.prog 133 [t.val,.slice pa pn jC] I M0 λv I' M'=>(∀ b o,I b=some o->I' b=some o)/\M'=M0/\∃ (tj:Option Addr) (IM gJ k:Nat) (b:Bool),v=.tuple #[.slice tj IM gJ,.int .i64 k,.bool b] /\
   match T.go path with
   |none=>b=false| some S=>b=true/\k=S.bh/\IM=path.length/\dh I' tj path.length gJ 2 16 ((T.pK path).flatMap uA):=by
 refine Spec.ra (Spec.frame (Spec.lX (asp ax ae bp tP aC aB))) ?_;rintro v J M⟨M',rfl,-,bl,rfl,-,I',M1,⟨rfl,os,l,k,b,rfl,rfl,bU,h⟩,bG⟩;have asq:=bp.mV;have hK:=ax.n;refine⟨bl,rfl,os.a.map λg=>⟨g,0,none⟩,os.n,os.c,k,b,rfl,?_⟩;cases av:T.go path with
 |none=>rw[av]at h;exact h
 |some S=>
  rw[av]at h;obtain⟨aa,ab,rfl,aG⟩:=h;have jA:os.n=path.length:=by have:=bU.len;rw[jm uA 2 (λ_=>rfl),J2]at this;omega
  have:=aY.lX (b:=16) (e:=255) bG bU (λz bb=>bb) (by rw[J2]at aG;omega);rw[jA]at this;exact⟨aa,ab,jA,this⟩
def hP.vY(h:hP t):∃ T:aL,t.bA=(T.bh:Int)/\cy t.ns T/\bV t=T.bare t.ns/\T.cG.Nodup/\T.cG.length<=t.ns.length:=by obtain⟨kw,hO⟩:=h.bA;obtain⟨r,fE⟩:=ea kw;obtain⟨T,aa,ab,aj,aG⟩:=h.lt (j:=r) (by omega);refine⟨T,by rw[aa];exact fE,ab,by unfold bV;rw[fE];exact aj,aG,NH aG λx ad=>ab.lt x ad⟩
def nh.mono(h:nh I)(bz:∀ b o,I b=some o->I' b=some o):nh I':=by obtain⟨T,ao,h⟩:=h;exact⟨T,ao,bz _ _ h⟩
def UU:Value:=.agg #[.slice none 0 0,.int .i64 0]
def DF(X:Option aD)(I:aM)(M0:List aE)(v:Value)(I':aM)(M':List aE):Prop:=(∀ b o,I b=some o->I' b=some o)/\M'=M0 /\
 match X with
 |none=>v=.tuple #[UU,.bool false]| some X=>∃ bo:bP,v=.tuple #[bo.val,.bool true]/\bo.ok I'/\oJ bo X/\fG X/\jd X
def asV(an:nh I)(ax:t.ok I)(af:right t=true)(aC:t.n<=1099511627776)(aB:dh I pa pn jC 1 8 (path.map (.int .i64 ·))) :
  Spec Tryz.prog 79 [t.val,.slice pa pn jC] I M0 (DF ((bV t).go path) I M0):=by
 have aV:=lP.1 af;obtain⟨T,jK,iw,oK,J4,Ob⟩:=aV.vY;have hK:=ax.n;rw[show(bV t).go path=(T.go path).map (aL.bare t.ns)from by rw[oK,bare_go]];refine cg [] a7 Tryz.func79 rfl rfl rfl ?_;intro B az;have ei:=qM an ax;rw[af]at ei;refine bd.mk [] M0 _ (.refl _) ei ?_;rintro v J N -⟨rfl,bl,rfl⟩;subst J;refine a3.mk (λh=>by cases h) (λ_=>?_);refine bd.mk [] M0 _ (.refl _) (aeG (M0:=[]) ax aV.y7 iw jK aC aB) ?_;rintro v J M1 -⟨bl,rfl,tj,IM,gJ,k,b,rfl,h⟩;refine a3.mk (λag=>?_) (λag=>?_)
 ·have ag:(!b)=true:=ag;refine⟨_,_,.refl,bl,rfl,?_⟩;cases av:T.go path with
  |none=>rfl| some S=>rw[av]at h;obtain⟨rfl,-⟩:=h;cases ag
 ·have ag:(!b)=false:=ag;obtain⟨S,av⟩:∃ S,T.go path=some S:=by
   cases av:T.go path with
   |none=>rw[av]at h;have h:b=false:=h;rw[h]at ag;cases ag| some S=>exact⟨S,rfl⟩
  rw[av]at h;obtain⟨rfl,rfl,-,-⟩:=h;have cB:=cy.go path iw av;have qo:=cB.mV;refine bd.mk [] M0 _ (.refl _) (asU (M0:=[]) (an.mono bl) (ax.mono bl) af aC (show S.bh<t.n by omega)) ?_;rintro v dp dm -⟨dW,rfl,bo,rfl,tb,au⟩;refine⟨_,_,.refl,λb o h=>dW _ _ (bl _ _ h),rfl,?_⟩;rw[av];refine⟨bo,rfl,tb,?_,?_,?_⟩;·have:=aqW aV qo au;rwa [NN aV.y7 cB]at this
  ·exact Uf aV.fit cB
  ·exact Ug _ _
def asW(DG:fW I al){x:bP}(ax:t.ok I)(ad:x.ok I)(af:right t=true)(mT:right x=true)(aC:t.n+x.n<=1099511627776)(aB:dh I pa pn jC 1 8 (path.map (.int .i64 ·))) :
  Spec Tryz.prog 99 [t.val,.slice pa pn jC,x.val] I [] (DF (((bV t).go path).map λ_=>((bV t).put path (bV x)).iS) I []):=by
 have aV:=lP.1 af;have aeH:=lP.1 mT;obtain⟨T,jK,iw,oK,J4,Ob⟩:=aV.vY;obtain⟨X,asX,asY,aeI,axK,axL⟩:=aeH.vY;have hK:=ax.n;have nu:=ad.n;rw[show((bV t).go path).map (λ_=>((bV t).put path (bV x)).iS)=(T.go path).map (λ_=>((bV t).put path (bV x)).iS)from by rw[show(bV t).go path=(T.go path).map (aL.bare t.ns)from by rw[oK,bare_go],Option.map_map];rfl];refine cg [] a7 Tryz.func99 rfl rfl rfl ?_;intro B az;have ei:=qM DG.c ax;rw[af]at ei;have aeJ:=qM DG.c ad;rw[mT]at aeJ;refine bd.mk [] [] _ (.refl _) ei ?_;rintro v J N -⟨rfl,bl,rfl⟩;subst J;refine cj.mk (λh=>?_) (λh=>by cases h);refine bd.mk [] [] _ (.refl _) aeJ ?_;rintro v J N -⟨rfl,bl,rfl⟩;subst J;refine a3.mk (λh=>by cases h) (λ_=>?_);refine bd.mk [] [] _ (.refl _) (aeG (M0:=[]) ax aV.y7 iw jK (by omega) aB) ?_;rintro v J M1 -⟨bl,rfl,tj,IM,gJ,k,b,rfl,h⟩;refine a3.mk (λag=>?_) (λag=>?_)
 ·have ag:(!b)=true:=ag;refine⟨_,_,.refl,bl,rfl,?_⟩;cases av:T.go path with
  |none=>rfl| some S=>rw[av]at h;obtain⟨rfl,-⟩:=h;cases ag
 ·have ag:(!b)=false:=ag;obtain⟨S,av⟩:∃ S,T.go path=some S:=by
   cases av:T.go path with
   |none=>rw[av]at h;have h:b=false:=h;rw[h]at ag;cases ag| some S=>exact⟨S,rfl⟩
  rw[av]at h;obtain⟨rfl,rfl,rfl,p6⟩:=h;have xR:=aeu (ad.mono bl) aeH.fit asY (os:=ib) (ns:=[]) (lM 9) (λd ak=>by cases ak) mq.nil (by simp only[fs];omega);rw[<-asX]at xR;refine bd.mk [] [] _ (.refl _) xR ?_;rintro v iy M1 h3⟨kK,cY,iR,rfl,rfl,N9,rm,DE,Oc,axM,g5,X9,Be⟩;have axN:cY.length=X.cG.length:=by simpa using Oc
  rw[<-g5]at DE;have fL:=asI (ax.mono (λb o h=>h3 _ _ (bl _ _ h))) aV.fit aV.y7 iw av (p6.mono h3) rm.os rm.ok DE X9 (by omega) (by omega);rw[g5]at fL;refine bd.mk (kK.ar 66) iR _ (by rw[ed]) fL ?_;rintro v dp dm dW⟨iL,m2,tk,UW,rfl,rfl,xA,Gb,UX,aeK,sk⟩;have oC:iL.n=m2.length:=by have:=xA.os.len;rw[jm _ 9 ap.cT]at this;omega
  refine bd.GD λfJ=>?_;have lr:((iL.ar 66++tk)++iR).Perm (iL.ar 66++(tk++iR)):=by rw[dY]
  have asZ:=mu.F2 (os:=iL) (e:=66) (foot:=[]) fJ lr (λx ad=>by cases ad);obtain⟨qh,hw,bq,as0,-⟩:=aY.Ad (b:=96) (e:=66) xA.os (by omega) asZ (tk++iR);have axO:=UX.mV;obtain⟨t3,yt⟩:∃ t3:bP,t3=⟨m2,iL.a.map λg=>⟨g,0,none⟩,iL.n,iL.c,UW.bh⟩:=⟨_,rfl⟩;have Hg:t3.ok qh:=by rw[yt];exact⟨as0,λd ak=>(xA.ok d ak).mono bq,⟨by simp only;omega,by simp only;omega⟩⟩
  have wN:hP t3:=Gb.right (by rw[yt]) (by rw[yt]);have nX:bV t3=(bV t).put path (bV x):=by rw[oK,aeI,<-Be,<-aeK,yt];exact NN Gb.wd.aw UX
  have as1:fG (bV t3):=by have:=Uf wN.fit (T:=UW) (by rw[yt];exact UX);rw[nX,oK,aeI,<-Be,<-aeK];rw[yt]at this;exact this
  have wK:=arL (M0:=[]) ((DG.mono (λb o h=>bq _ _ (dW _ _ (h3 _ _ (bl _ _ h)))))) Hg (lP.2 wN) (by rw[yt];simp only;omega);rw[show t3.val=.agg #[iL.val,.int .i64 UW.bh]from by rw[yt];rfl]at wK;refine bd.DX qh [] (tk++iR) _ (.perm lr (hw _ _ .refl)) wK ?_;rintro v mW rR h4 -⟨-,rfl,bo,rfl,tb,dK⟩;refine⟨_,_,.sub (fk _) .refl,λb o h=>h4 _ _ (bq _ _ (dW _ _ (h3 _ _ (bl _ _ h)))),rfl,?_⟩;rw[av];refine⟨bo,rfl,tb,?_,?_,ad8 _⟩;·rw[<-nX];exact dK
  ·rw[<-nX];exact ad7 as1
def as2(DG:fW I al){x:bP}(ax:t.ok I)(ad:x.ok I)(af:right t=true)(mT:right x=true)(aC:t.n+x.n<=1099511627776)(aB:dh I pa pn jC 1 8 (path.map (.int .i64 ·))) :
  Spec Tryz.prog 99 [t.val,.slice pa pn jC,x.val] I M0 (DF (((bV t).go path).map λ_=>((bV t).put path (bV x)).iS) I M0):=by
 refine(Spec.frame (asW DG ax ad af mT aC aB)).NO ?_;rintro v I' M'⟨M1,rfl,-,-,aa,rfl,ab⟩;exact⟨aa,rfl,ab⟩
def sy(g:cD)(rule:Int)(path:List Int):Option aD:=if 0<=rule/\rule<(g.ds.length:Int)then(bV (g.ds.getD rule.toNat gd).t).go path else none
structure UY(g:cD):Prop where
 r:∀ d∈g.ds,right d.t=true
 n:∀ d∈g.ds,d.t.n<=549755813888
def Od(rule:Int)(pa:Option Addr)(pn jC:Nat):Value:=.agg #[.int .i64 rule,.slice pa pn jC]
def DF.shape{X:Option aD}{M':List aE}(h:DF X I M0 v I' M'):∃ a n c r b,v=.tuple #[.agg #[.slice a n c,.int .i64 r],.bool b]/\b=X.isSome:=by
 obtain⟨-,-,h⟩:=h;cases X with
 |none=>exact⟨none,0,0,0,false,h,rfl⟩| some X=>obtain⟨bo,rfl,-⟩:=h;exact⟨_,_,_,_,true,rfl,rfl⟩
def as3(an:nh I)(av:g.ok I)(jk:UY g)(aB:dh I pa pn jC 1 8 (path.map (.int .i64 ·))) :
  Spec Tryz.prog 30 [g.val,Od rule pa pn jC] I M0 (DF (sy g rule path) I M0):=by
 have fl:=av.n;refine cg [] a7 Tryz.func30 rfl rfl rfl ?_;intro B az;refine cj.mk (λh=>?_) (λh=>?_)
 ·have aa:¬ rule<0:=eu h;refine a3.mk (λab=>?_) (λab=>?_)
  ·have ab:(g.n:Int)<=rule:=dB ab;refine⟨_,_,.refl,λ_ _ h=>h,rfl,?_⟩;unfold sy;rw[bS (by omega)];rfl
  ·have ab:¬ (g.n:Int)<=rule:=eu ab;obtain⟨u,rfl⟩:=ea (show 0<=rule by omega);have hu:u<g.ds.length:=by omega
   obtain⟨aU,bK,bm⟩:=av.a2.row aP.cT (j:=u) (by omega) hu;have ak:=av.ds _ (bi hu);have af:=jk.r _ (bi hu);have UN:=jk.n _ (bi hu);have eK:sy g (u:Int) path=(bV g.ds[u].t).go path:=by unfold sy;rw[bN (by omega),gz];simp[bt,hu]
   have e7:=asV (M0:=[]) an ak.t af (by omega) aB;rw[<-eK]at e7;refine c4.draw a7 rfl rfl rfl ?_;refine bf.mk aU u bK rfl (by omega) ?_;refine aR.mk _ ((bm _).part (k:=1) (m:=2) (by decide)) ?_;refine bd.mk [] M0 _ (.refl _) e7 ?_;rintro v J M1-h;obtain⟨a,n,c,r,b,rfl,-⟩:=h.shape;obtain⟨dJ,rfl,eJ⟩:=h;exact⟨_,_,.refl,dJ,rfl,eJ⟩
 ·have aa:rule<0:=dB h;refine⟨_,_,.refl,λ_ _ h=>h,rfl,?_⟩;unfold sy;rw[bS (by omega)];rfl
def as4(g:cD)(rule:Int)(X:Option aD)(I:aM)(M0:List aE)(v:Value)(I':aM)(M':List aE):Prop:=(∀ b o,I b=some o->I' b=some o)/\M'=M0 /\
 match X with
 |none=>v=.tuple #[.agg #[.slice none 0 0],.bool false]| some X=>∃ (h:cD) (bo:bP),v=.tuple #[h.val,.bool true]/\h.ok I'/\h.n=g.n/\h.ds.map aP.a0=(g.ds.set rule.toNat ⟨(g.ds.getD rule.toNat gd).name,bo⟩).map aP.a0/\oJ bo X/\fG X/\jd X
def vZ(g:cD)(rule:Int)(path:List Int)(x:aD):Option aD:=(sy g rule path).map λ_=>((bV (g.ds.getD rule.toNat gd).t).put path x).iS
def as5(DG:fW I al)(av:g.ok I)(jk:UY g)(EB:g.n<=1000000){x:bP}(ad:x.ok I)(mT:right x=true)(nu:x.n<=549755813888)(aB:dh I pa pn jC 1 8 (path.map (.int .i64 ·))) :
  Spec Tryz.prog 53 [g.val,Od rule pa pn jC,x.val] I M0 (as4 g rule (vZ g rule path (bV x)) I M0):=by
 have fl:=av.n;refine cg [] a7 Tryz.func53 rfl rfl rfl ?_;intro B az;refine cj.mk (λh=>?_) (λh=>?_)
 ·have aa:¬ rule<0:=eu h;refine a3.mk (λab=>?_) (λab=>?_)
  ·have ab:(g.n:Int)<=rule:=dB ab;refine⟨_,_,.refl,λ_ _ h=>h,rfl,?_⟩;unfold vZ sy;rw[bS (by omega)];rfl
  ·have ab:¬ (g.n:Int)<=rule:=eu ab;obtain⟨u,rfl⟩:=ea (show 0<=rule by omega);have hu:u<g.ds.length:=by omega
   obtain⟨aU,bK,bm⟩:=av.a2.row aP.cT (j:=u) (by omega) hu;have ak:=av.ds _ (bi hu);have af:=jk.r _ (bi hu);have UN:=jk.n _ (bi hu);have o5:g.ds.getD u gd=g.ds[u]:=by simp[bt,hu]
   have eK:vZ g (u:Int) path (bV x)=((bV g.ds[u].t).go path).map λ_=>((bV g.ds[u].t).put path (bV x)).iS:=by unfold vZ sy;rw[bN (by omega),gz,o5]
   have e7:=as2 (M0:=[]) DG ak.t ad af mT (by omega) aB;rw[<-eK]at e7;refine c4.KX a7 rfl rfl rfl (ι:=Nat×Option Addr×Nat×Nat×Int×Bool×aM) (λy=>{ bj:=[(3,.ref 3 0),(4,.ref 4 0),(6,.ref 6 0),(8,.val (ptr y.1)),(9,.val (.bool y.2.2.2.2.2.1))],cl:=[(3,[.slice g.a g.n g.c]),(4,[.int .i64 u,.slice pa pn jC]),(6,[.slice none 0 0])],cI:=y.2.2.2.2.2.2,de:=⟨y.1,.cells #[.slice y.2.1 y.2.2.1 y.2.2.2.1,.int .i64 y.2.2.2.2.1] 31 (0,0)⟩::M0 }) (λy=>DF (vZ g (u:Int) path (bV x)) I [] (.tuple #[.agg #[.slice y.2.1 y.2.2.1 y.2.2.2.1,.int .i64 y.2.2.2.2.1],.bool y.2.2.2.2.2.1]) y.2.2.2.2.2.2 []) ?_ ?_
   ·refine bf.mk aU u bK rfl (by omega) ?_;refine aR.mk _ ((bm _).part (k:=1) (m:=2) (by decide)) ?_;refine⟨?_,?_⟩
    ·refine bd.mk [] M0 _ (.refl _) e7 ?_;rintro v J M1 bl h;obtain⟨a,n,c,r,b,rfl,-⟩:=h.shape;obtain⟨dJ,rfl,eJ⟩:=h;refine b'.mk λfX EE aeL=>?_;refine b8.mk [] M0 _ _ rfl rfl (bI rfl) rfl ?_;exact⟨(fX,a,n,c,r,b,J),⟨dJ,rfl,eJ⟩,.refl,hv,.cons rfl (.cons rfl (.cons rfl (.nil)))⟩
    ·refine b'.mk λfX EE aeL=>?_;refine eR.mk _ e7 ?_;rintro v J M1 bl h;obtain⟨a,n,c,r,b,rfl,-⟩:=h.shape;obtain⟨dJ,rfl,eJ⟩:=h;refine b8.mk [] M0 _ _ rfl rfl (bI rfl) rfl ?_;exact⟨(fX,a,n,c,r,b,J),⟨dJ,rfl,eJ⟩,.refl,hv,.cons rfl (.cons rfl (.cons rfl (.nil)))⟩
   rintro⟨fX,a,n,c,r,b,J⟩as6;obtain⟨dJ,-,eJ⟩:=as6;simp only at dJ eJ;refine a3.mk (λag=>?_) (λag=>?_)
   ·have ag:(!b)=true:=ag;refine⟨_,_,.sub (.cons _ (.refl _)) .refl,dJ,rfl,?_⟩;cases hk:vZ g (u:Int) path (bV x)with
    |none=>rfl
    |some X=>
     rw[hk]at eJ;obtain⟨bo,e,-⟩:=eJ;injection e with e
     simp at e;rw[e.2]at ag;cases ag
   ·have ag:(!b)=false:=ag;obtain⟨X,hk⟩:∃ X,vZ g (u:Int) path (bV x)=some X:=by
     cases hk:vZ g (u:Int) path (bV x)with
     |none=>
      rw[hk]at eJ;have eJ:Value.tuple #[.agg #[.slice a n c,.int .i64 r],.bool b]=.tuple #[UU,.bool false]:=eJ;injection eJ with e
      simp[UU]at e;rw[e.2]at ag;cases ag
     |some X=>exact⟨X,rfl⟩
    rw[hk]at eJ;obtain⟨bo,e,tb,dK,bw,Bg⟩:=eJ;have a4:Value.agg #[.slice a n c,.int .i64 r]=bo.val:=by
     injection e with e
     simp at e;rw[<-e.1]
    have sS:=apP (M0:=[]) (av.mono dJ) hu (by omega) tb;rw[<-a4]at sS;refine aR.mk [.slice a n c,.int .i64 r] ⟨rfl,_,_,_,.inr ⟨_,.head _,rfl,rfl⟩,rfl,rfl⟩ ?_;refine bd.mk [] _ _ (.refl _) sS ?_;rintro v dp dm -⟨dW,rfl,bc,rfl,kZ,BX,eW⟩;refine⟨_,_,.sub (.cons _ (.refl _)) .refl,λb o h=>dW _ _ (dJ _ _ h),rfl,?_⟩;rw[hk];refine⟨bc,bo,rfl,kZ,BX,?_,dK,bw,Bg⟩;rw[gz,o5];exact eW
 ·have aa:rule<0:=dB h;refine⟨_,_,.refl,λ_ _ h=>h,rfl,?_⟩;unfold vZ sy;rw[bS (by omega)];rfl
def as7{d:ap}(h:d.k=3)(aA:Go.V.fits d n=true):n=0:=by unfold Go.V.fits at aA;rw[h]at aA;simp[oj,rT]at aA;have aa:kJ[6]?.getD 0=0:=rfl;have ab:kJ[7]?.getD 0=0:=rfl;rw[aa,ab]at aA;omega
def J5{X:aD}(hk:fG X):∀ (p:List Int) {T:aD},fG T->fG (T.put p X)
 |[],T,h=>hk
 |i::p,.mk d ks,h=>by
  obtain⟨aA,ae⟩:=h.inv;rw[aD.put];show fG (aD.mk d (ks.set i.toNat ((ks.getD i.toNat (.mk d ks)).put p X)));refine .mk (by rw[n4];exact aA) λc an=>?_;rcases xj an with an | rfl;·exact ae c an
  ·refine J5 hk p ?_;rw[bt];cases e:ks[i.toNat]? with
   |none=>exact h| some c=>exact ae c (rF e)
def Oe{P:ap->Prop}:∀ (p:List Int) {T S:aD},hp P T->T.go p=some S->hp P S
 |[],T,S,h,e=>by rw[aD.go]at e;cases e;exact h
 |i::p,.mk d ks,S,h,e=>by
  rw[aD.go]at e;split at e
  ·refine Oe p ?_ e;show hp P (ks.getD i.toNat (.mk d ks));rw[bt];cases e:ks[i.toNat]? with
   |none=>exact h| some c=>exact h.inv.2 c (rF e)
  ·cases e
def UZ:∀ (p:List Int) {T S:aD},fG T->T.go p=some S->fG S
 |[],T,S,h,e=>by rw[aD.go]at e;cases e;exact h
 |i::p,.mk d ks,S,h,e=>by
  rw[aD.go]at e;split at e
  ·refine UZ p ?_ e;show fG (ks.getD i.toNat (.mk d ks));rw[bt];cases e:ks[i.toNat]? with
   |none=>exact h| some c=>exact h.inv.2 c (rF e)
  ·cases e
def tl(h:right t=true):fG (bV t):=by obtain⟨T,aa,ab,aj,aG,bx⟩:=(lP.1 h).vY;rw[aj];exact Uf (lP.1 h).fit ab
def U0{pl:List (ByteArray×Int)}(h:right t=true):ob pl F t=(bV t).fold (lZ pl F):=by obtain⟨kw,hO⟩:=qP h;obtain⟨r,af⟩:=ea kw;unfold ob ac8 bV;rw[af];exact adL (λd l=>rfl) (lP.1 h) (by omega)
def qp(al:List Int)(g:cD)(nm:ByteArray):Option Nat:=if cr nm g.ds 0<0\/jx al g (cr nm g.ds 0)=true then none else some (cr nm g.ds 0).toNat
def qq(al:List Int)(g:cD)(u:Nat)(p:List Int)(d:ap):Option aD:=if d.k=3 then(qp al g d.t).map λq=>((bV (g.ds.getD u gd).t).put p (bV (g.ds.getD q gd).t)).iS else none
def xB(al:List Int)(g:cD)(u:Nat)(X:aD):Bool:=decide (dj al (nH (eN g.ds u (ko X.post)))=0)
def mX(al:List Int)(g:cD)(u:Nat)(p:List Int):Option aD:=((bV (g.ds.getD u gd).t).go p).bind λS=>qq al g u p S.d
def oN(al:List Int)(g:cD)(x:Nat×List Int):Bool:=match mX al g x.1 x.2 with
 |some X=>xB al g x.1 X| none=>false
structure tm(al:List Int)(g:cD)(F:List aW):Prop where
 n:g.ds.length=g.n
 m:dj al g=0
 FO:j1 g.ds F
 left:(sq g.ds F).length=0
 loops:(qk g.ds F).length=0
def mm.F6(aC:g.ds.length=g.n)(h:mm al g r)(az:r.2=0):∃ F,tm al g F:=by
 have hm:dj al g=0:=by
  rcases h with⟨a,e⟩ | ⟨a,-⟩;·rw[e]at az;exact az
  ·exact a
 obtain⟨aa,ab⟩:=(h.get hm).1 az;rcases h with⟨a,-⟩ | ⟨-,F,bG,-⟩
 ·exact absurd hm a
 rw[Np bG]at aa ab;exact⟨F,aC,hm,bG,aa,ab⟩
def tm.is(h:tm al g F)(af:mm al g r):r.2=0:=by rw[af.get h.m,Np h.FO];exact⟨h.left,h.loops⟩
def U1(hm:dj al g=0){d:aP}(ak:d∈g.ds):normal d.t=true:=by have:=fi.1 (y2.1 hm).2.1 d ak;rw[cz]at this;exact this.2
def l3(hm:dj al g=0){d:aP}(ak:d∈g.ds):right d.t=true:=(JW.1 (U1 hm ak)).1
def aeM(h:oJ t X)(aC:t.ns.length=t.n):t.a0=(ko X.post).a0:=by
 have ay:X.post.length=t.ns.length:=by rw[<-h.a0,bE]
 have e:X.post.map ap.a0=X.post:=by refine lC (by simp) λi aa ab=>?_;rw[fr];exact Ue X _ (bi _)
 unfold bP.a0 ko;simp only[h.a0,e,h.bA,ay,aC]
def aeN{ds:List aP}{y G6:bP}(h:y.a0=G6.a0):(eN ds u y).map aP.a0=(eN ds u G6).map aP.a0:=by unfold eN;rw[o1,o1];congr 1;unfold aP.a0;rw[h]
def as8(fl:g.ds.length=g.n)(dK:oJ bo X)(aC:bo.ns.length=bo.n)(rl:h.n=g.n)(an:h.ds.map aP.a0=(eN g.ds u bo).map aP.a0):xB al g u X=decide (dj al h=0):=by
 unfold xB;congr 1;have:dj al (nH (eN g.ds u (ko X.post)))=dj al h:=by rw[<-Aj,<-Aj al h];congr 1;unfold cD.a0 nH;rw[an,rl,xx,fl,aeN (aeM dK aC)]
 rw[this]
section
variable{al:List Int}{g:cD}{F:List aW}(hw:tm al g F)
include hw
theorem aeO{nm:ByteArray}{q:Nat}(h:qp al g nm=some q):q<g.ds.length/\cr nm g.ds 0=(q:Int)/\jx al g (q:Int)=false:=by
 unfold qp at h;split at h
 ·cases h
 ·rename_i aC;have h:=fm h;obtain⟨z,bb⟩:=ea (show 0<=cr nm g.ds 0 by omega);have as9:q=z:=by rw[<-h,bb];rfl
  subst as9;obtain⟨j,ai,e,-⟩:=FQ g.ds 0 q bb;refine⟨by omega,bb,?_⟩;rw[<-bb];cases au:jx al g (cr nm g.ds 0)with
  |true=>exact absurd (.inr au) aC| false=>rfl
theorem J6(hu:u<g.ds.length)(h:mX al g u p=some X):∃ (S:aD) (q:Nat),(bV g.ds[u].t).go p=some S/\S.d.k=3/\q<g.ds.length/\cr S.d.t g.ds 0=(q:Int)/\jx al g (q:Int)=false/\S.sub=[]/\q≠u/\X=((bV g.ds[u].t).put p (bV (g.ds.getD q gd).t)).iS:=by
 have tn:g.ds.getD u gd=g.ds[u]:=by simp[bt,hu]
 unfold mX at h;rw[tn]at h;cases cB:(bV g.ds[u].t).go p with
 |none=>rw[cB]at h;cases h
 |some S=>
  rw[cB]at h;have h:qq al g u p S.d=some X:=h;unfold qq at h;split at h
  ·rename_i aj;cases aN:qp al g S.d.t with
   |none=>rw[aN]at h;cases h
   |some q=>
    rw[aN,tn]at h;obtain⟨dJ,eO,eJ⟩:=aeO hw aN;have af:=l3 hw.m (bi hu);have ata:=UZ p (tl af) cB;have jY:S.sub=[]:=by
     cases S with
     |mk d ks=>exact iq (as7 aj ata.inv.1)
    refine⟨S,q,rfl,aj,dJ,eO,eJ,jY,λe=>?_,(fm h).symm⟩;subst e;have fo:hp (λd=>∃ e∈g.ds[q].t.ns,e.bare=d) (bV g.ds[q].t):=(Dz af).2 λd ak=>⟨d,ak,rfl⟩;have SX:=Oe p fo cB;obtain⟨e,he,sR⟩:∃ e∈g.ds[q].t.ns,e.bare=S.d:=by
     cases S with
     |mk d ks=>exact SX.inv.1
    have au:=aer (al:=al) hw.n hw.m hu (s:=List.replicate g.ds.length false) (by simp);rw[eJ,qN]at au;have aG:DB g.ds[q]=true:=by
     unfold DB;refine vM.2 ⟨e,he,?_⟩;have cn:e.k=3:=by
      have:e.bare.k=3:=by rw[sR];exact aj
      exact this
     have dc:e.t=S.d.t:=by rw[<-sR];rfl
     obtain⟨j,ai,jX,kt⟩:=FQ g.ds 0 q eO;have AM:j=q:=by omega
     subst AM;rw[eV cn,eV (dc.trans kt.symm)];rfl
    rw[au.2]at aG;cases aG
  ·cases h
theorem U2(hu:u<g.ds.length)(h:mX al g u p=some X):fG X/\jd X/\l1 X:=by
 obtain⟨S,q,aa,ab,aj,aG,bx,bZ,ek,rfl⟩:=J6 hw hu h;have nz:g.ds.getD q gd=g.ds[q]:=by simp[bt,aj]
 rw[nz];exact⟨ad7 (J5 (tl (l3 hw.m (bi aj))) p (tl (l3 hw.m (bi hu)))),ad8 _,ar5 _⟩
theorem aeP(hu:u<g.ds.length)(hk:mX al g u p=some X)(dK:oJ bo X)(hK:bo.ns.length=bo.n)(rl:h.n=g.n)(DH:h.ds.length=h.n)(an:h.ds.map aP.a0=(eN g.ds u bo).map aP.a0) :
  (dj al h=0\/dj al h=40)/\xB al g u X=decide (dj al h=0)/\ti g.ds u (match(bV g.ds[u].t).go p with
   |some S=>(cr S.d.t g.ds 0).toNat| none=>0) bo/\∀ r,mm al h r->(r.2=0 ↔ dj al h=0):=by
 obtain⟨bw,ag,CC⟩:=U2 hw hu hk;obtain⟨S,q,aa,ab,aj,aG,bx,bZ,ek,nJ⟩:=J6 hw hu hk;have nz:g.ds.getD q gd=g.ds[q]:=by simp[bt,aj]
 have tn:g.ds.getD u gd=g.ds[u]:=by simp[bt,hu]
 have to:=dK.right bw;have nX:=dK.bV bw ag;have rn:=l3 hw.m (bi hu);have ju:=l3 hw.m (bi aj);have oz:∀ d∈g.ds,right d.t=true:=λd ak=>l3 hw.m ak;have dN:normal bo=true:=JW.2 ⟨to,by rw[nX];exact CC⟩;have h7:∀ d∈bo.ns,JY g.ds d:=by
  have fv:=(y2.1 hw.m).2.2.2.2;have a6:∀ e∈g.ds,hp (JY g.ds) (bV e.t):=λe he=>(Dz (oz e he)).2 λd ak=>fv e he d ak;have:hp (JY g.ds) (bV bo):=by rw[nX,nJ,nz];exact ael (λd ak=>ak) (λh=>by cases h) (λh=>by cases h) (UG (a6 _ (bi aj)) p (a6 _ (bi hu)))
  exact(Dz to).1 this
 have QB:=ar9 hw.n hw.m hu dN h7 rl an;have aV:ti g.ds u q bo:=by
  refine⟨hu,aj,ek,to,λdr oS=>?_⟩;rw[nz]at oS |-;rw[tn,U0 to,nX,nJ,nz,ad9 (aql _ _) (J5 (tl ju) p (tl rn)),U0 rn];refine aei ?_ p _ aa;rw[<-U0 ju];cases S with
  |mk d ks=>
  have bZ:ks=[]:=bZ;subst bZ;rw[aD.fold_eq];refine arZ ab ?_ oS;have aJ:=ap2 aG;have a4:aD.d (.mk d [])=d:=rfl;rw[a4]at aJ;rw[aJ];rfl
 refine⟨QB,as8 hw.n dK hK rl an,?_,λr af=>?_⟩
 ·rw[aa];show ti g.ds u (cr S.d.t g.ds 0).toNat bo;rw[aG];exact aV
 ·constructor
  ·intro az;rcases af with⟨a,e⟩ | ⟨a,-⟩
   ·rw[e]at az;exact az
   ·exact a
  ·intro hm;rw[af.get hm];rcases af with⟨a,-⟩ | ⟨-,dr,oS,-⟩
   ·exact absurd hm a
   ·obtain⟨-,aJ,a4⟩:=aV.F6 oz hw.FO hw.left hw.loops an oS;rw[Np oS];exact⟨aJ,a4⟩
end
def atb{a2:List lk}(bU:os.ok 1 (a2.map lk.val))(ei:∀ r∈a2,r.ok I){e:Nat}(ak:∀ x∈os.ar e++Mr,I x.num=none)(aC:os.n<=1099511627776) :
  ∃ (I':aM),il [] I (os.ar e++Mr) I' Mr/\(∀ b o,I b=some o->I' b=some o)/\(⟨a2,os.a.map λg=>⟨g,0,none⟩,os.n,os.c⟩:jM).ok I':=by
 obtain⟨I',aa,ab,aj⟩:=aY.HQ (b:=24) (e:=e) bU (by omega) (λg av=>ak ⟨g,.cells os.aS.toArray e (0,0)⟩ (by simp[aY.ar,av])) Mr;exact⟨I',aa,ab,aj,λr af=>(ei r af).mono ab⟩
def U3(h:c≠b):ins I b o c=I c:=by unfold ins;rw[hE h];rfl
def uC(d:aP)(i:Nat)(s:List Bool):List ap->List Bool
 |[]=>s| n::ns=>uC d i (bif decide (n.k=3)&&decide (n.t=d.name)then s.set i true else s) ns
def aeQ(d:aP)(i:Nat):∀ (ns:List ap) (s:List Bool),(uC d i s ns).length=s.length
 |[],s=>rfl| n::ns,s=>by rw[uC,aeQ d i ns];cases decide (n.k=3)&&decide (n.t=d.name)<;>simp
def aeR(d:aP)(i:Nat):∀ (ns:List ap) (s:List Bool) (k:Nat),i<s.length->(uC d i s ns).getD k false=if k=i then(s.getD i false||ns.any λn=>decide (n.k=3)&&decide (n.t=d.name))else s.getD k false
 |[],s,k,hi=>by
  rw[uC,List.any_nil,Bool.or_false];split;·rename_i e;rw[e]
  ·rfl
 |n::ns,s,k,hi=>by
  rw[uC,aeR d i ns _ k (by cases decide (n.k=3)&&decide (n.t=d.name)<;>simpa using hi),NF];cases h:decide (n.k=3)&&decide (n.t=d.name)with
  |false=>simp
  |true=>
   simp only[cb,M8,ET];split;·simp[bt,hi]
   ·rename_i e;simp[bt,N5 (λh=>e h.symm)]
def xC:Nat->List aP->List Bool->List Bool
 |_,[],s=>s| i,d::ds,s=>xC (i+1) ds (uC d i s d.t.ns)
def aeS:∀ (ds:List aP) (d:aP) (i:Nat) (s:List Bool),xC i (ds++[d]) s=uC d (i+ds.length) (xC i ds s) d.t.ns
 |[],d,i,s=>rfl| e::ds,d,i,s=>by rw[mF,xC,xC,aeS ds d (i+1),c2,show i+1+ds.length=i+(ds.length+1) by omega]
def aeT:∀ (ds:List aP) (i:Nat) (s:List Bool) (k:Nat),i+ds.length<=s.length->(xC i ds s).getD k false=(s.getD k false||(if h:i<=k/\k<i+ds.length then DB (ds[k-i]'(by omega))else false))
 |[],i,s,k,_=>by rw[xC,dif_neg (by simp)];simp
 |d::ds,i,s,k,ay=>by
  rw[c2]at ay;rw[xC,aeT ds (i+1) _ k (by rw[aeQ];omega),aeR d i _ _ k (by omega)];by_cases e:k=i;·subst e;rw[bN rfl,dif_neg (by omega),dif_pos ⟨b2 _,by rw[c2];omega⟩];simp[DB]
  ·rw[bS e];congr 1;by_cases h:i+1<=k/\k<i+1+ds.length
   ·rw[dif_pos h,dif_pos ⟨by omega,by rw[c2];omega⟩];congr 1;have:k-i=(k-(i+1))+1:=by omega
    simp[this]
   ·rw[dif_neg h,dif_neg λab=>h ⟨by omega,by rw[c2]at ab;omega⟩]
def atc(a':I b=some (.cells (s.map Value.bool).toArray 4 (0,0)))(ai:j<s.length):cO I M ((⟨b,0,none⟩:Addr).add (j*1)) 1 [.bool s[j]]:=by
 rw[eU _ rfl];refine⟨rfl,_,4,(0,0),.inl a',?_,rfl⟩;have aa:j<(s.map Value.bool).length:=by simpa using ai
 simp only[cX,fa];rw[e1 aa,qB,rG];simp
def b8.aeU{K:List aE->Prop}(a9 post:List aE)(bJ:Nat)(s:List Bool){i:Nat}(hi:i<s.length)(v:Bool)(a':M=a9++iI bJ s::post)(h:K (a9++iI bJ (s.set i v)::post)):b8 M ((⟨bJ,0,none⟩:Addr).add (i*1)) [.bool v] K:=
 b8.iJ a9 post (s.map Value.bool) _ a' (CF (by rw[bE];show 0+i*1+1<=_;omega)) rfl _ (by rw[cX,fa];exact Ek s i hi v) h
structure Gd(al:List Int)(I:aM)(g:cD)(v:Value):Prop where
 ex:∃ (b1 cw bJ:Nat) (s:List Bool),v=.func (.func 132) #[] #[ptr b1,ptr cw]/\I b1=some (.cells #[.slice g.a g.n g.c] 24 (0,0))/\I cw=some (.cells #[.slice (some ⟨bJ,0,none⟩) g.n g.n] 138 (0,0))/\I bJ=some (.cells (s.map Value.bool).toArray 4 (0,0))/\s.length=g.n/\∀ i,i<g.n->s.getD i false=jx al g (i:Int)
def Gd.mono(h:Gd al I g v)(bz:∀ b o,I b=some o->I' b=some o):Gd al I' g v:=by obtain⟨b1,cw,bJ,s,aa,ab,aj,aG,bx,bZ⟩:=h.ex;exact⟨b1,cw,bJ,s,aa,bz _ _ ab,bz _ _ aj,bz _ _ aG,bx,bZ⟩
def atd(hw:tm al g F)(av:g.ok I)(hb:I b1=some (.cells #[.slice g.a g.n g.c] 24 (0,0)))(r6:I cw=some (.cells #[.slice (some ⟨bJ,0,none⟩) g.n g.n] 138 (0,0)))(pX:I bJ=some (.cells (s.map Value.bool).toArray 4 (0,0)))(fc:s.length=g.n)(au:∀ i,i<g.n->s.getD i false=jx al g (i:Int))(nm:ByteArray) :
  Spec Tryz.prog 132 [.string nm,ptr b1,ptr cw] I M0 λv I' M'=>I'=I/\M'=M0/\∃ (Of:bP) (b:Bool),v=.tuple #[Of.val,.bool b]/\b=(qp al g nm).isSome/\∀ q,qp al g nm=some q->Of=(g.ds.getD q gd).t:=by
 refine cg [] a7 Tryz.func132 rfl rfl rfl ?_;intro B az;have fl:=av.n;have Ge:∀ M,cO I M ⟨b1,0,none⟩ 1 [.slice g.a g.n g.c]:=λM=>⟨rfl,_,_,_,.inl hb,rfl,rfl⟩;have ate:∀ M,cO I M ((⟨b1,0,none⟩:Addr).add 0) 1 [.slice g.a g.n g.c]:=λM=>⟨rfl,_,_,_,.inl hb,rfl,rfl⟩;have F3:∀ M,cO I M ⟨cw,0,none⟩ 1 [.slice (some ⟨bJ,0,none⟩) g.n g.n]:=λM=>⟨rfl,_,_,_,.inl r6,rfl,rfl⟩;refine aR.mk _ (Ge _) ?_;refine bd.mk [] M0 _ (.refl _) (HK av nm) ?_;rintro v J N -⟨rfl,bl,rfl⟩;subst J;by_cases Og:cr nm g.ds 0<0
 ·have aA:qp al g nm=none:=bN (.inl Og);refine cj.mk (λh=>absurd h (by simp[Og])) (λ_=>?_);refine⟨_,_,.refl,rfl,rfl,⟨[],none,0,0,0⟩,false,rfl,by rw[aA];rfl,λq aN=>?_⟩;rw[aA]at aN;cases aN
 ·obtain⟨q,aN⟩:=ea (show 0<=cr nm g.ds 0 by omega);obtain⟨j,ai,aJ,a4⟩:=FQ g.ds 0 q aN;have J7:q<g.n:=by omega
  have eb:q<g.ds.length:=by omega
  have atf:=au q J7;have zX:s.getD q false=s[q]'(by omega):=by simp[bt,show q<s.length by omega]
  have nz:g.ds.getD q gd=g.ds[q]:=by simp[bt,eb]
  refine cj.mk (λ_=>?_) (λh=>absurd h (by simp[Og]));refine aR.mk _ (F3 _) ?_;refine bf.mk ⟨bJ,0,none⟩ q rfl aN J7 ?_;refine aR.mk [.bool (jx al g (q:Int))] ?_ ?_;·have:=atc (M:=M0) pX (j:=q) (by omega);rw[<-zX,atf]at this;exact this
  cases Eb:jx al g (q:Int)with
  |true=>have aA:qp al g nm=none:=bN (.inr (by rw[aN];exact Eb));refine a3.mk (λ_=>?_) (λh=>by cases h);refine⟨_,_,.refl,rfl,rfl,⟨[],none,0,0,0⟩,false,rfl,by rw[aA];rfl,λq aN=>?_⟩;rw[aA]at aN;cases aN
  |false=>
   have aA:qp al g nm=some q:=by unfold qp;rw[bS (λh=>h.elim Og λh=>by rw[aN]at h;have h:jx al g (q:Int)=true:=h;rw[Eb]at h;cases h),aN];rfl
   refine a3.mk (λh=>by cases h) (λ_=>?_);obtain⟨aU,bK,bm⟩:=av.a2.row aP.cT J7 eb;refine aR.mk _ (ate _) ?_;refine bf.mk aU q bK aN J7 ?_;refine aR.mk _ ((bm _).part (k:=1) (m:=2) (by decide)) ?_;refine⟨_,_,.refl,rfl,rfl,g.ds[q].t,true,rfl,by rw[aA];rfl,λeA vq=>?_⟩;rw[aA]at vq;cases vq;rw[nz]
def atg{L:List (List Int)}(cc:∀ l∈L,valid L.length l):(∀ p∈mO L,∀ x∈p,0<=x/\x<(L.length:Int))/\(mO L).length<=L.length:=by
 rw[aen cc];refine⟨λp aB x ad=>?_,?_⟩
 ·obtain⟨q,-,rfl⟩:=cA.1 aB;obtain⟨k,ae,rfl⟩:=cA.1 ad;rw[iE,g8]at ae;exact⟨ES _,by omega⟩
 ·unfold UH;rw[bE];exact jf (BQ _ _) (by simp)
def ath(ps:List (List Int))(p:List Int)(s:List Bool):xz (ps++[p]) s=F7 p (xz ps s):=by unfold xz;rw[r4];rfl
def zf(b1 cw bJ:Nat)(g:cD)(s:List Bool):List aE:=[⟨cw,.cells #[.slice (some ⟨bJ,0,none⟩) g.n g.n] 138 (0,0)⟩,iI bJ s,⟨b1,.cells #[.slice g.a g.n g.c] 24 (0,0)⟩]
def U4:cO I (zf b1 cw bJ g s) ⟨cw,0,none⟩ 1 [.slice (some ⟨bJ,0,none⟩) g.n g.n]/\cO I (zf b1 cw bJ g s) ⟨b1,0,none⟩ 1 [.slice g.a g.n g.c]/\cO I (zf b1 cw bJ g s) ((⟨b1,0,none⟩:Addr).add 0) 1 [.slice g.a g.n g.c]:=
 ⟨⟨rfl,_,_,_,.inr ⟨_,.head _,rfl,rfl⟩,rfl,rfl⟩,⟨rfl,_,_,_,.inr ⟨_,.tail _ (.tail _ (.head _)),rfl,rfl⟩,rfl,rfl⟩,⟨rfl,_,_,_,.inr ⟨_,.tail _ (.tail _ (.head _)),rfl,rfl⟩,rfl,rfl⟩⟩
def aeV(bp:fW I al)(hw:tm al g F)(av:g.ok I)(ati:g.n<=1099511627776)(hs:∀ d∈g.ds,d.t.n<=1099511627776):Spec Tryz.prog 78 [g.val] I [] λv I' M'=>(∀ b o,I b=some o->I' b=some o)/\M'=[]/\Gd al I' g v:=by
 refine zt [1,3] a7 Tryz.func78 rfl rfl rfl ?_;intro B az;have fl:=av.n;refine b'.mk λb1 hb NP=>?_;refine aR.mk _ ⟨rfl,_,_,_,.inr ⟨_,.head _,rfl,rfl⟩,rfl,rfl⟩ ?_;refine m0.mk g.n g.n rfl rfl (b2 _) (by show 1*g.n<=_;omega) (by omega) ?_;refine b'.mk λbJ pX axP=>?_;refine b'.mk λcw r6 Oh=>?_;refine b8.mk [] _ #[.slice none 0 0] 138 rfl rfl (bI rfl) rfl ?_;have atj:(rowOf [Value.bool false] (g.n*1)).toArray=((List.replicate g.n false).map Value.bool).toArray:=by congr 1;refine lC (by simp[rowOf]) λi aa ab=>?_;simp[rowOf,Nat.mod_one]
 rw[atj];refine aR.mk _ ⟨rfl,_,_,_,.inr ⟨_,.tail _ (.tail _ (.head _)),rfl,rfl⟩,rfl,rfl⟩ ?_;refine bd.zi [] (zf b1 cw bJ g (List.replicate g.n false)) _ (.refl _) (ajB bp av ati) ?_;rintro v J pT bl dk⟨-,os,a2,rfl,bU,ei,fC,rfl⟩;have atk:=ED fl;have dK:(gi g).length=g.n:=by simp[gi,fl]
 have fC:a2.map (·.l)=mO (gi g):=by rw[fC];unfold HV;rw[eV hw.m];rfl
 have QK:os.n=a2.length:=by have:=bU.len;simp only[bE]at this;omega
 obtain⟨a1,c1⟩:=atg atk;have axQ:a2.length=(mO (gi g)).length:=by rw[<-fC,bE]
 obtain⟨tZ,atl,Oi,ad⟩:=atb bU ei dk (by omega);have aeW:∀ b o,I b=some o->tZ b=some o:=λb o h=>Oi _ _ (bl _ _ h);have H4:=av.mono aeW;refine dg.inv (ι:=Nat×List Bool) (λx=>{ bj:=[(1,.val (ptr b1)),(3,.val (ptr cw)),(17,.val os.val),(18,.val (.int .i64 os.n)),(19,.val (.int .i64 (x.1:Int)))],cl:=[],cI:=tZ,de:=zf b1 cw bJ g x.2 }) (λx=>x.1<=os.n/\x.2.length=g.n/\x.2=xz ((mO (gi g)).take x.1) (List.replicate g.n false)) (λx=>os.n-x.1) ?_ ?_
 ·exact⟨(0,_),⟨dw _,by simp,rfl⟩,atl,hv,.nil⟩
 rintro⟨k,s⟩⟨ae,fc,au⟩;simp only at ae fc au;refine a3.mk (λh=>?_) (λh=>?_)
 ·have cv:k<os.n:=by have:(k:Int)<(os.n:Int):=dB h;omega
  have HX:k<a2.length:=by omega
  obtain⟨aU,bK,bm⟩:=ad.a2.one cv HX;have eY:=ei _ (bi HX);have g0:=eY.mono Oi;have hy:=eY.n;have yp:=eY.a2.cap;have kG:(mO (gi g))[k]'(by omega)=a2[k].l:=by
   have aa:(a2.map (·.l))[k]?=(mO (gi g))[k]?:=by rw[fC]
   rw[jR,db HX,db (by omega)]at aa;exact(fm aa).symm
  have ng:(mO (gi g)).take (k+1)=(mO (gi g)).take k++[a2[k].l]:=by rw[gy (by omega),kG]
  have tV:=a1 _ (bi (show k<(mO (gi g)).length by omega));rw[kG]at tV;generalize a2[k]=r at *;have atm:decide ((1:Int)<(r.n:Int))=decide (1<r.l.length):=by
   rw[hy];by_cases e:1<r.n;·rw[eV e,eV (by omega)]
   ·rw[dU e,dU (by omega)]
  refine bf.mk aU k bK rfl cv ?_;refine aR.mk _ (bm _) ?_;refine dg.inv (ι:=Nat×List Bool) (λx=>{ bj:=[(1,.val (ptr b1)),(3,.val (ptr cw)),(5,.val r.val),(17,.val os.val),(18,.val (.int .i64 os.n)),(19,.val (.int .i64 (k:Int))),(23,.val r.val),(24,.val (.int .i64 r.n)),(25,.val (.int .i64 (x.1:Int)))],cl:=[],cI:=tZ,de:=zf b1 cw bJ g x.2 }) (λx=>x.1<=r.n/\x.2.length=g.n/\x.2=(r.l.take x.1).foldl (λs i=>s.set i.toNat (decide (1<r.l.length))) s) (λx=>r.n-x.1) ?_ ?_;·exact⟨(0,s),⟨dw _,fc,rfl⟩,.refl,kh,.nil⟩
  rintro⟨j,cf⟩⟨ai,U5,oT⟩;simp only at ai U5 oT;refine a3.mk (λh=>?_) (λh=>?_)
  ·have ez:j<r.n:=by have:(j:Int)<(r.n:Int):=dB h;omega
   have iK:j<r.l.length:=by omega
   obtain⟨Oj,U6,Dh⟩:=g0.a2.one ez iK;have ah:=tV _ (bi iK);have atn:r.l.take (j+1)=r.l.take j++[r.l[j]]:=gy iK;generalize r.l[j]=z at *;obtain⟨z,rfl⟩:=ea ah.1;have bb:z<g.n:=by omega
   refine bf.mk Oj j U6 rfl ez ?_;refine aR.mk _ (Dh _) ?_;refine aR.mk _ U4.1 ?_;refine bf.mk ⟨bJ,0,none⟩ z rfl rfl bb ?_;refine b8.aeU [⟨cw,.cells #[.slice (some ⟨bJ,0,none⟩) g.n g.n] 138 (0,0)⟩] [⟨b1,.cells #[.slice g.a g.n g.c] 24 (0,0)⟩] bJ cf (by omega) (decide ((1:Int)<(r.n:Int))) rfl ?_;refine bg.mk _ (cL (i:=j) (by omega)) ?_;refine⟨(j+1,cf.set z (decide (1<r.l.length))),⟨⟨ez,by simp[U5],?_⟩,by simp only;omega⟩,.pu (by rw[atm];rfl),kh,.nil⟩;simp only;rw[atn,r4,<-oT];rfl
  ·have cJ:¬ (j:Int)<(r.n:Int):=eu h;refine bg.mk _ (cL (i:=k) (by omega)) ?_;refine⟨(k+1,cf),⟨⟨cv,U5,?_⟩,by simp only;omega⟩,.refl,hv,.nil⟩;simp only;rw[ng,ath,<-au,oT,fN (by omega)];rfl
 have cJ:¬ (k:Int)<(os.n:Int):=eu h;have au:s=xz (mO (gi g)) (List.replicate g.n false):=by rw[au,fN (by omega)]
 refine aR.mk _ U4.2.2 ?_;refine dg.inv (ι:=Nat×List Bool) (λx=>{ bj:=[(1,.val (ptr b1)),(3,.val (ptr cw)),(38,.val (.slice g.a g.n g.c)),(39,.val (.int .i64 g.n)),(40,.val (.int .i64 (x.1:Int)))],cl:=[],cI:=tZ,de:=zf b1 cw bJ g x.2 }) (λx=>x.1<=g.n/\x.2.length=g.n/\x.2=xC 0 (g.ds.take x.1) s) (λx=>g.n-x.1) ?_ ?_
 ·exact⟨(0,s),⟨dw _,fc,rfl⟩,.refl,hv,.nil⟩
 rintro⟨i,s1⟩⟨hi,U7,fz⟩;simp only at hi U7 fz;refine a3.mk (λh=>?_) (λh=>?_)
 ·have dL:i<g.n:=by have:(i:Int)<(g.n:Int):=dB h;omega
  have mb:i<g.ds.length:=by omega
  obtain⟨aU,bK,bm⟩:=H4.a2.row aP.cT dL mb;have ak:=H4.ds _ (bi mb);have ng:g.ds.take (i+1)=g.ds.take i++[g.ds[i]]:=gy mb;have ato:=hs _ (bi mb);have vf:(g.ds.take i).length=i:=by rw[hT];omega
  generalize g.ds[i]=d at *;have atp:=ak.t.n;obtain⟨pF,⟨ns,pe,jZ,p2,iQ⟩⟩:=d;simp only at atp ato;refine bf.mk aU i bK rfl dL ?_;refine aR.mk _ (bm _) ?_;refine dg.inv (ι:=Nat×List Bool) (λx=>{ bj:=[(1,.val (ptr b1)),(3,.val (ptr cw)),(8,.val (.int .i64 (i:Int))),(9,.ref 9 0),(38,.val (.slice g.a g.n g.c)),(39,.val (.int .i64 g.n)),(40,.val (.int .i64 (i:Int))),(47,.val (.slice pe jZ p2)),(48,.val (.int .i64 jZ)),(49,.val (.int .i64 (x.1:Int)))],cl:=[(9,[.string pF,.slice pe jZ p2,.int .i64 iQ])],cI:=tZ,de:=zf b1 cw bJ g x.2 }) (λx=>x.1<=jZ/\x.2.length=g.n/\uC ⟨pF,⟨ns,pe,jZ,p2,iQ⟩⟩ i x.2 (ns.drop x.1)=uC ⟨pF,⟨ns,pe,jZ,p2,iQ⟩⟩ i s1 ns) (λx=>jZ-x.1) ?_ ?_;·exact⟨(0,s1),⟨dw _,U7,rfl⟩,.refl,BN,.cons rfl (.nil)⟩
  rintro⟨j,s2⟩⟨ai,Dt,iA⟩;simp only at ai Dt iA;refine a3.mk (λh=>?_) (λh=>?_)
  ·have ez:j<jZ:=by have:(j:Int)<(jZ:Int):=dB h;omega
   have iK:j<ns.length:=by omega
   obtain⟨Oj,U6,Dh⟩:=ak.t.a2.row ap.cT (j:=j) ez iK;have jn:ns.drop j=ns[j]::ns.drop (j+1):=e1 iK;rw[jn,uC]at iA;generalize fK:ns[j]=x at *;have Dh:∀ M,cO tZ M (Oj.add (j*9)) 9 x.cells:=Dh;obtain⟨Ok,sK,aeX,axR,aeY,Gf,axS,axT,xa,Gg,xc,axU⟩:=x;refine bf.mk Oj j U6 rfl ez ?_;refine aR.mk _ (Dh _) ?_;have Gh:=cL (i:=j) (by omega);by_cases aj:Ok=3
   ·refine cj.mk (λ_=>?_) (λh=>absurd h (by simp[aj]));by_cases h7:Gf=pF
    ·refine a3.mk (λ_=>?_) (λh=>absurd h (by simp[h7]));have dS:(bif decide (Ok=3)&&decide (Gf=pF)then s2.set i true else s2)=s2.set i true:=by rw[eV aj,eV h7];rfl
     simp only at iA;rw[dS]at iA;refine aR.mk _ U4.1 ?_;refine bf.mk ⟨bJ,0,none⟩ i rfl rfl dL ?_;refine b8.aeU [⟨cw,.cells #[.slice (some ⟨bJ,0,none⟩) g.n g.n] 138 (0,0)⟩] [⟨b1,.cells #[.slice g.a g.n g.c] 24 (0,0)⟩] bJ s2 (by omega) true rfl ?_;refine bg.mk _ Gh ?_;exact⟨(j+1,s2.set i true),⟨⟨ez,by simp[Dt],iA⟩,by simp only;omega⟩,.refl,BN,.cons rfl (.nil)⟩
    ·refine a3.mk (λh=>absurd h (by simp[h7])) (λ_=>?_);have dS:(bif decide (Ok=3)&&decide (Gf=pF)then s2.set i true else s2)=s2:=by rw[dU h7,Ez];rfl
     simp only at iA;rw[dS]at iA;refine bg.mk _ Gh ?_;exact⟨(j+1,s2),⟨⟨ez,Dt,iA⟩,by simp only;omega⟩,.refl,BN,.cons rfl (.nil)⟩
   ·refine cj.mk (λh=>absurd h (by simp[aj])) (λ_=>?_);have dS:(bif decide (Ok=3)&&decide (Gf=pF)then s2.set i true else s2)=s2:=by rw[dU aj];rfl
    simp only at iA;rw[dS]at iA;refine bg.mk _ Gh ?_;exact⟨(j+1,s2),⟨⟨ez,Dt,iA⟩,by simp only;omega⟩,.refl,BN,.cons rfl (.nil)⟩
  ·have cJ:¬ (j:Int)<(jZ:Int):=eu h;rw[ki (by omega),uC]at iA;refine bg.mk _ (cL (i:=i) (by omega)) ?_;refine⟨(i+1,s2),⟨⟨dL,Dt,?_⟩,by simp only;omega⟩,.refl,hv,.nil⟩;simp only;rw[ng,aeS,<-fz,iA,vf,cX]
 have XP:¬ (i:Int)<(g.n:Int):=eu h;have fz:s1=xC 0 g.ds s:=by rw[fz,fN (by omega)]
 have n3:∀ q,q<g.n->s1.getD q false=jx al g (q:Int):=λq aN=>by rw[fz,aeT g.ds 0 s q (by omega),dif_pos ⟨dw _,by omega⟩];have:=aer (al:=al) hw.n hw.m (i:=q) (by omega) (s:=List.replicate g.n false) (by simp[fl]);rw[<-this];show(s.getD q false||_)=((xz (mO (gi g)) (List.replicate g.n false)).getD q false||_);rw[<-au];rfl
 intro fJ;have d3:=fJ.d _ (.head _);have ds:=fJ.d _ (.tail _ (.head _));have d1:=fJ.d _ (.tail _ (.tail _ (.head _)));have bH:=fJ.ca;simp only[zf,iI,bX,hx,l5,eg,List.not_mem_nil,or_false,not_or]at bH;obtain⟨⟨kK,iL⟩,LP,-⟩:=bH;simp only[iI]at d3 ds d1;have aJ:ins tZ cw (.cells #[.slice (some ⟨bJ,0,none⟩) g.n g.n] 138 (0,0)) bJ=none:=by rw[U3 (pN kK)];exact ds
 have a4:ins (ins tZ cw (.cells #[.slice (some ⟨bJ,0,none⟩) g.n g.n] 138 (0,0))) bJ (.cells (s1.map Value.bool).toArray 4 (0,0)) b1=none:=by rw[U3 (pN LP),U3 (pN iL)];exact d1
 refine⟨_,[],.k3 rfl (by simp) (.k3 rfl (by simp) (.k3 rfl (by simp) .refl)),λb o h=>hW a4 _ _ (hW aJ _ _ (hW d3 _ _ (aeW _ _ h))),rfl,⟨b1,cw,bJ,s1,rfl,mI ..,?_,?_,U7,n3⟩⟩
 ·exact hW a4 _ _ (hW aJ _ _ (mI ..))
 ·exact hW a4 _ _ (mI ..)
section
variable{P:Program}{w:World}
def atq(t u ty e:Nat)(i:TypeInfo)(z:Value)(ax:P.underlying t=some (.slice e)){mC:TypeDesc}(hu:P.underlying u=some mC)(oi:∀ k,mC≠.int k)(hi:P.info? e=some i)(bb:i.zero=some z)(qH:z.cells.size=i.size)
 (hz:xs.length=n*i.size) (H6:∀ w':World,w'.heap=w.heap->∀ j v,xs[j]?=some v->w'.cell? (aU.add j)=some v)
  {x:Value} (hm:0<m) (ay:ch.length=m*i.size)
  (c1:∀ w',(Builtin.lenOf x).run P w'=.ok m w') (fg:∀ w':World,w'.heap=w.heap->(Builtin.firstCells i.size m x).run P w'=.ok ch.toArray w')
  (b1:n+m<=maxLen) (bT:(n+m)*i.bytes<=140737488355328) :
  ∃ (c:Nat) (aS:List Value),(Builtin.append_ #[t,u] ty #[.slice (some aU) n n,x]).run P w=.ok (.slice (some ⟨w.heap.size,0,none⟩) (n+m) c) (w.drew.alloc (.cells aS.toArray e (0,0)))/\aS.length=c*i.size/\n+m<=c/\c<=maxLen/\aS.take ((n+m)*i.size)=xs++ch:=by
 have Ei:(xs++ch).length=(n+m)*i.size:=by rw[b3,hz,ay,l8]
 have KZ:∀ dI,(xs++ch++(Builtin.zeroCells z.cells (grownCap w (n+m) dI e-(n+m))).toList).length=grownCap w (n+m) dI e*i.size/\n+m<=grownCap w (n+m) dI e/\grownCap w (n+m) dI e<=maxLen /\
   (xs++ch++(Builtin.zeroCells z.cells (grownCap w (n+m) dI e-(n+m))).toList).take ((n+m)*i.size)=xs++ch:=by
  intro dI;have cJ:=grownCap_ge w (n+m) dI e;have iY:grownCap w (n+m) dI e<=maxLen:=grownCap_le_maxLen w (n+m) dI e b1;refine⟨?_,cJ,iY,?_⟩;·rw[b3,Ei,zu,size_zeroCells,qH,<-l8];congr 1;omega
  ·rw[<-Ei];exact zv
 have hb:n+m<=9223372036854775807:=by simp only[maxLen]at b1;exact b1
 have aC:m≠0:=by omega
 have u3:¬ (n+m<=n):=by omega
 have B1:¬ (9223372036854775807<((n:Int)+(m:Int))):=by omega
 have B2:¬ (281474976710656<Builtin.nextslicecap (n+m) n*i.bytes):=by have:=growslice_fits (by omega:n<n+m) bT;omega
 have aA:=fg w.drew rfl;have PC:=run_firstCells_some (P:=P) w.drew i.size n aU n n xs hz (H6 w.drew rfl);obtain⟨a8,ba,bR,fq⟩:=KZ n;refine⟨grownCap w (n+m) n e,_,?_,a8,ba,bR,fq⟩;simp[Builtin.append_,run_underlying ax,run_underlying hu,sizeOf,typeInfo,zeroValue,hi,bb,c1,aC,u3,B1,B2,Question.forced,aA,PC,newRow,grownCap];congr 2;apply gY;simp
end
section
variable{X:cV}{β:Nat->Nat}{a:Act}{w:World}{F:Fr}{C:dF}{I:aM}{M:List aE}{o:Oper}{K:gm}
def atr{P:Program}(aC:cO I M aU (m*size) ch){w:World}(hw:eF I M w):(Builtin.firstCells size m (.slice (some aU) m c')).run P w=.ok ch.toArray w:=by
 obtain⟨dO,cs,T,ao,ff,ah,ay⟩:=aC;refine run_firstCells_some (P:=P) w size m aU m c' ch ay λj v ai=>?_;rw[eU _ dO,tw (ff.heap hw)];rw[<-ah,lu]at ai;split at ai
 ·rw[od]at ai;simpa using ai
 ·cases ai
def aeZ(h:cO I M aU n xs):xs.length=n:=by obtain⟨_,_,_,_,_,_,h⟩:=h;exact h
def qE.ats{K:dD->aM->List aE->Prop}(aQ:cU X.P X.E){s:Operand}{t:Nat}(aK:o.op=.call { callee:=.builtin .append,args:=#[s,x],argTypes:=#[t,t] })
  {e:Nat} (ax:X.E t=some c7) (dT:c7.bM=.slice e) (he:X.E e=some aI)
  {sa:Addr} (au:bF F s=.val (.slice (some sa) n n)) (bm:cO I M sa (n*aI.size) xs)
 (ad:bF F x=.val (.slice (some aU) m c')) (hm:0<m) (aC:cO I M aU (m*aI.size) ch) (b1:n+m<=maxLen) (bT:(n+m)*aI.bytes<=140737488355328)
  (M':aY->List aE) (yL:∀ bu:aY,(bu.ar e++M).Perm (M' bu))
  (k:∀ bu:aY,bu.n=n+m->(∀ g,bu.a=some g->I g=none/\g ∉ X.foot)->bu.ok aI.size (xs++ch)->K (.val bu.val) I (M' bu)):qE X o F C I M K:=by
 refine⟨fun β a w Q aV=>?_⟩;have hz:=aeZ bm;have y5:=aeZ aC;have fg:∀ w,eF I M w->(Builtin.firstCells aI.size m (.slice (some aU) m c')).run X.P w=.ok ch.toArray w:=λw hw=>atr aC hw;obtain⟨inf,z,hi,ft,iW,iB,kE⟩:=(aQ _ _ he).inf;obtain⟨gp,jV,kj⟩:=(aQ _ _ ax).fx;have qI:gp=.slice e:=by rw[dT]at kj;cases gp<;>simp_all[fw]
 subst qI;have qH:z.cells.size=inf.size:=by rw[ft,<-(aQ _ _ he).len,<-kE];simp
 rw[<-ft]at hz y5 fg;obtain⟨c,aS,fj,a8,ba,bR,fq⟩:=atq (P:=X.P) (w:=w) t t o.type e inf z jV jV (λk cQ=>by cases cQ) hi iB qH hz (λw' x9 j v ai=>bm.MM (aV.holds.heap x9) j v ai) (x:=.slice (some aU) m c') hm y5 (λ_=>rfl) (λw' x9=>fg w' (aV.holds.heap x9)) b1 (by rw[iW];exact bT);rw[ft]at a8 fq hz y5;have zJ:I w.heap.size=none:=by
  cases bz:I w.heap.size with
  |none=>rfl| some nY=>have:=aV.holds.i _ _ bz;simp at this
 have es:=df aV.ao au;have ex:=df aV.ao ad;have kZ:(⟨some w.heap.size,n+m,c,aS⟩:aY).ok aI.size (xs++ch):=by
  refine⟨?_,(λh=>by cases h),λdM av=>?_⟩;·rw[b3,hz,y5,<-l8]
  ·cases av;exact⟨a8,ba,bR,fq⟩
 refine jg (by rw[aK];simp) (v:=.slice (some ⟨w.heap.size,0,none⟩) (n+m) c) (w':=w.drew.alloc (.cells aS.toArray e (0,0))) ?_ ⟨_,.val (.slice (some ⟨w.heap.size,0,none⟩) (n+m) c),I,M' ⟨some w.heap.size,n+m,c,aS⟩,rfl,rfl,?_,k ⟨some w.heap.size,n+m,c,aS⟩ rfl (λdM av=>by cases av;exact⟨zJ,λhm=>by have aa:=aV.fy _ hm;have ab:=aV.sz;omega⟩) kZ,rfl⟩
 ·unfold execOp;simp only[aK,resolve,invoke,builtin,ct,c3,bY,sG,bX,hx,es,ex,fj]
 ·refine cN.h5 ?_ (.perm (yL _) .refl);have ab:cN X β a w.drew F C I M:=aV.world rfl;exact ab.oe (.cells aS.toArray e (0,0))
end
namespace aD
mutual
def paths:aD->List (List Int)
 |mk _ ks=>[]::uD 0 ks
def uD:Nat->List aD->List (List Int)
 |_,[]=>[]| i,c::cs=>c.paths.map (λp=>(i:Int)::p)++uD (i+1) cs
end
def DI(d:ap)(ks:List aD):(mk d ks).paths=[]::uD 0 ks:=by rw[paths]
def J8(i:Nat)(c:aD)(cs:List aD):uD i (c::cs)=c.paths.map (λp=>(i:Int)::p)++uD (i+1) cs:=by rw[uD]
def U8(i:Nat):uD i []=[]:=by rw[uD]
def ae0(T:aD):0<T.paths.length:=by
 cases T with
 |mk d ks=>rw[DI];simp
end aD
def oc(l:List Int):List Value:=l.map (.int .i64 ·)
def att(I:aM)(p:List Int)(v:Value):Prop:=∃ a c,v=.slice a p.length c/\dh I a p.length c 1 8 (oc p)/\(p.length=0->a=none)
def U9(h:c≠b):ins I b o c=I c:=by unfold ins;rw[hE h];rfl
def ae1(t:bP)(k:Int)(a:Option Addr)(n c:Nat):Spec Tryz.prog 98 [t.val,.int .i64 k,.slice a n c] I [] λr I' M'=>∃ b1 bT cw,r=.func (.func 152) #[] #[ptr b1,ptr bT,ptr cw]/\I' b1=some (.cells #[.slice a n c] 55 (0,0))/\I' bT=some (.cells #[.slice t.a t.n t.c,.int .i64 t.bA] 31 (0,0))/\I' cw=some (.cells #[.int .i64 k] 3 (0,0))/\(∀ b o,I b=some o->I' b=some o)/\M'=[]:=by
 refine cg [3,4,5] a7 Tryz.func98 rfl rfl rfl ?_;intro B az;refine b'.mk λcw r6 Oh=>?_;refine b'.mk λhB IL yR=>?_;refine b'.mk λeP z5 Ud=>?_;have atu:cw≠hB:=yR _ (.head _);have atv:hB≠eP:=Ud _ (.head _);have atw:cw≠eP:=Ud _ (.tail _ (.head _));have aG:ins I eP (.cells #[.slice a n c] 55 (0,0)) hB=none:=by rw[U9 atv];exact IL
 have aj:ins (ins I eP (.cells #[.slice a n c] 55 (0,0))) hB (.cells #[.int .i64 k] 3 (0,0)) cw=none:=by rw[U9 atu,U9 atw];exact r6
 refine⟨_,_,.k3 rfl (by simp) (.k3 rfl (by simp) (.k3 rfl (by simp) .refl)),eP,cw,hB,rfl,?_,mI ..,?_,λb o h=>hW aj _ _ (hW aG _ _ (hW z5 _ _ h)),rfl⟩
 ·exact hW aj _ _ (hW aG _ _ (mI ..))
 ·exact hW aj _ _ (mI ..)
def atx(a9:List Int)(T:aD)(j:Nat)(vs:List Value)(I:aM):Prop:=∃ p v,T.paths[j]?=some p/\vs=[v]/\att I (a9++p) v
def qE.aty{X:cV}{F:Fr}{C:dF}{o:Oper}{K:dD->aM->List aE->Prop}(aQ:cU X.P X.E){s:Operand}{t:Nat}(aK:o.op=.call { callee:=.builtin .append,args:=#[s,x],argTypes:=#[t,t] })
  {e:Nat} (ax:X.E t=some c7) (dT:c7.bM=.slice e) (he:X.E e=some aI) (kI:aI.size=1)
 (af:dh I a n c 1 8 (oc p)) (az:n=0->a=none) (au:bF F s=.val (.slice (if n=0 then a else a.map (·.add (0*1))) (n-0) (n-0)))
 (ad:bF F x=.val (.slice (some ⟨b9,0,none⟩) 1 c')) (ay:cs.length=aI.size) (aa:gA cs=true)
  (a':(⟨b9,.cells cs.toArray e (0,0)⟩:aE)∈M) (b1:n+1<=9223372036854775807) (bT:(n+1)*aI.bytes<=140737488355328)
  (k:∀ bu:aY,bu.n=n+1->(∀ g,bu.a=some g->I g=none/\g ∉ X.foot)->bu.ok 1 (oc p++cs)->K (.val bu.val) I (bu.ar e++M)):qE X o F C I M K:=by
 have oh:=af.len;have ae2:cO I M ⟨b9,0,none⟩ (1*aI.size) cs:=by rw[o2];refine⟨rfl,_,_,_,.inr ⟨⟨b9,.cells cs.toArray e (0,0)⟩,a',rfl,rfl⟩,?_,ay⟩;simp only[wu];exact fN (by omega)
 by_cases aC:n=0
 ·subst aC;have aB:oc p=[]:=iq (by omega);rw[aB]at k;rw[az rfl]at au;refine .adB aQ aK ax dT he ib (xs:=[]) (lM _) (au.trans rfl) ad (by decide) ae2 aa (Mr:=M) (.refl _) (by unfold maxLen;exact b1) bT _ (λ_=>.refl _) λbu ab aj aG=>k bu ab (λg av=>⟨(aj g av).1,(aj g av).2 rfl⟩) (by rw[kI]at aG;exact aG)
 ·rcases af.rd with h | ⟨aU,bK,dO,QO,T,ao,bz,ah⟩
  ·exact absurd h aC
  rw[bS aC,bK]at au;refine .ats aQ aK ax dT he (sa:=aU.add (0*1)) (n:=n) (xs:=oc p) (au.trans rfl) ?_ ad (by decide) ae2 (by unfold maxLen;exact b1) bT _ (λ_=>.refl _) λbu ab aj aG=>k bu ab aj (by rw[kI]at aG;exact aG);rw[kI];exact⟨dO,QO,T,ao,.inl bz,by simpa[Addr.add]using ah,oh⟩
def ae3{t:bP}(af:right t=true)(hK:t.n<=1099511627776):∀ (m k:Nat),k<m->(ae:k<t.ns.length)->∀ {I:aM} (ax:t.ok I) {a9:List Int} {a:Option Addr} {n c:Nat} (iO:a9.length=n) (c1:n+k<=1099511627776) (Ol:dh I a n c 1 8 (oc a9)) (gV:n=0->a=none) {b1 bT cw:Nat} (hb:I b1=some (.cells #[.slice a n c] 55 (0,0))) (gS:I bT=some (.cells #[.slice t.a t.n t.c,.int .i64 t.bA] 31 (0,0))) (r6:I cw=some (.cells #[.int .i64 (k:Int)] 3 (0,0))),Wu Tryz.prog 152 [ptr b1,ptr bT,ptr cw] I (gE t.ns k).paths.length (atx a9 (gE t.ns k))
 |0,k,h,_,_,_,_,_,_,_,_,_,_,_,_,_,_,_,_,_=>absurd h (mS _)
 |m+1,k,axV,ae,I,ax,a9,a,n,c,iO,c1,Ol,gV,b1,bT,cw,hb,gS,r6=>by
  intro y R k8 x5 qQ dt M0 lI iH;have UN:=ax.n;refine zr [4] a7 Tryz.func152 rfl rfl rfl ?_;intro B az;have Ge:∀ (I1:aM) (M:List aE),(∀ b o,I b=some o->I1 b=some o)->cO I1 M ⟨b1,0,none⟩ 1 [.slice a n c]:=λI1 M cu=>⟨rfl,_,_,_,.inl (cu _ _ hb),rfl,rfl⟩;have F1:∀ (I1:aM) (M:List aE),(∀ b o,I b=some o->I1 b=some o)->cO I1 M ⟨bT,0,none⟩ 2 [.slice t.a t.n t.c,.int .i64 t.bA]:=λI1 M cu=>⟨rfl,_,_,_,.inl (cu _ _ gS),rfl,rfl⟩;have atz:∀ (I1:aM) (M:List aE),(∀ b o,I b=some o->I1 b=some o)->cO I1 M ((⟨bT,0,none⟩:Addr).add 0) 1 [.slice t.a t.n t.c]:=λI1 M cu=>⟨rfl,_,_,_,.inl (cu _ _ gS),rfl,rfl⟩;have F3:∀ (I1:aM) (M:List aE),(∀ b o,I b=some o->I1 b=some o)->cO I1 M ⟨cw,0,none⟩ 1 [.int .i64 (k:Int)]:=λI1 M cu=>⟨rfl,_,_,_,.inl (cu _ _ r6),rfl,rfl⟩;have bp:=zb af ae;have m6:=aD.ae0 (gE t.ns k);have atA:(gE t.ns k).paths[0]?=some []:=by rw[bp,aD.DI];rfl
  refine b'.mk λhB IL yR=>?_;refine aR.mk [.func (.yield y) #[] #[]] (c5 (cs:=[.func (.yield y) #[] #[]]) (k:=0) (n:=1) (.head _) (by simp)) ?_;refine aR.mk _ (Ge _ _ lI) ?_;refine bB.yield rfl (by simp) rfl rfl ?_;have aH:=qQ 0 m6 [.slice a n c] dt M0 lI ⟨[],_,atA,rfl,a,c,by rw[ed,iO],by rw[ed,iO];exact Ol.mono lI,by rw[ed,iO];exact gV⟩ iH;refine zD.mk M0 [_] _ (K7 _ _).symm aH ?_;rintro v dz dm et (⟨rfl,lG⟩ | ⟨rfl,ad⟩)
  rotate_left
  ·refine a3.mk (λ_=>?_) (λh=>by simp at h);exact⟨_,_,.sub (ua _ _) .refl,.inr ad⟩
  refine a3.mk (λh=>by simp at h) (λ_=>?_);have Gi:∀ b o,I b=some o->dz b=some o:=λb o h=>et _ _ (lI _ _ h);obtain⟨aU,bK,atB⟩:=ax.a2.row ap.cT (j:=k) (by omega) ae;have hV:=ax.ns _ (bi ae);have ff:=hV.aO;have r9:=hV.a2.cap;refine aR.mk _ (atz _ _ Gi) ?_;refine aR.mk _ (F3 _ _ Gi) ?_;refine bf.mk aU k bK rfl (by omega) ?_;refine aR.mk _ (((atB _).mono Gi).part (k:=8) (m:=1) (by decide)) ?_;have atC:hB ∉ M0.map (·.num):=λhm=>by obtain⟨x,ad,e⟩:=cA.1 hm;exact yR x ad e
  refine dg.wo (ι:=Nat×Nat×aM×List aE) (λx=>{ bj:=[(1,.val (ptr b1)),(2,.val (ptr bT)),(3,.val (ptr cw)),(4,.val (ptr hB)),(17,.val (.slice t.ns[k].dE t.ns[k].aO t.ns[k].du)),(18,.val (.int .i64 t.ns[k].aO)),(19,.val (.int .i64 (x.1:Int)))],cI:=x.2.2.1,de:=x.2.2.2 }) (λx=>x.1<=t.ns[k].aO/\(∀ b o,I b=some o->x.2.2.1 b=some o)/\x.2.2.1 hB=some (.cells #[.func (.yield y) #[] #[]] 216 (0,0))/\R x.2.1 x.2.2.1 x.2.2.2/\x.2.1<=(gE t.ns k).paths.length/\(gE t.ns k).paths.drop x.2.1=aD.uD x.1 ((t.ns[k].aw.map (gE t.ns)).drop x.1)) (λx=>t.ns[k].aO-x.1) ?_ ?_;·intro fJ;have ae4:dz hB=none:=fJ.d _ (oY _ (.head _));refine⟨(0,1,ins dz hB _,dm),⟨dw _,λb o h=>hW ae4 _ _ (Gi _ _ h),mI ..,x5 _ _ _ _ (hW ae4) lG,by simp only;omega,?_⟩,.perm (K7 _ _) (.k3 rfl atC .refl),tB,.nil⟩;simp only[wu];rw[bp,aD.DI];rfl
  rintro⟨i,ql,J,M1⟩⟨hi,bl,h4,g5,Fz,ku⟩;simp only at hi bl h4 g5 Fz ku;refine a3.mk (λh=>?_) (λh=>?_)
  rotate_left
  ·have cJ:¬ (i:Int)<(t.ns[k].aO:Int):=eu h;have aJ:(t.ns[k].aw.map (gE t.ns)).drop i=[]:=ki (by rw[bE];omega);rw[aJ,aD.U8,Eo]at ku;have:ql=(gE t.ns k).paths.length:=by omega
   subst this;exact⟨_,_,.refl,.inl g5⟩
  have a1:i<t.ns[k].aO:=by have:(i:Int)<(t.ns[k].aO:Int):=dB h;omega
  have cq:i<t.ns[k].aw.length:=by omega
  obtain⟨ac,atD,yp⟩:=hV.a2.one a1 cq;have AT:=mG af k ae _ (bi cq);obtain⟨q,aN⟩:=ea AT.1;have axW:q<k:=by omega
  rw[aN]at yp;have FY:(t.ns[k].aw.map (gE t.ns)).drop i=gE t.ns q::(t.ns[k].aw.map (gE t.ns)).drop (i+1):=by rw[e1 (by rw[bE];exact cq),fr,aN]
  rw[FY,aD.J8]at ku;refine bf.mk ac i atD rfl a1 ?_;refine aR.mk _ ((yp _).mono bl) ?_;refine c4.ahV (λi=>Nat.beq i 0) a7 rfl rfl rfl ?_;refine aR.mk _ (F1 _ _ bl) ?_;refine aR.mk _ (Ge _ _ bl) ?_;refine aR.mk _ (Ge _ _ bl) ?_;refine aR.mk _ (Ge _ _ bl) ?_;refine O2.mk n n rfl rfl (b2 _) Ol.cap.1 ?_;refine b'.mk λb9 lf xr=>?_;intro G jk;refine qE.aty a7 rfl (e:=3) rfl rfl rfl rfl (Ol.mono bl) gV (NL (jk _ (by simp[Op.operands,Call.operands])) rfl) (b9:=b9) (cs:=[.int .i64 (i:Int)]) (NL (jk _ (by simp[Op.operands,Call.operands])) rfl) rfl rfl (.head _) (by omega) (by show(n+1)*8<=_;omega) ?_;intro os QK atE bU;refine bd.zi [] _ _ (.refl _) (ae1 t q (os.a.map λg=>⟨g,0,none⟩) os.n os.c) ?_;rintro v dp sL dW uT⟨gf,gn,ow,rfl,yJ,uu,Gj,-,rfl⟩;have atF:∀ b o,I b=some o->dp b=some o:=λb o h=>dW _ _ (bl _ _ h);have DJ:∀ b o,dp b=some o->Gc dp os 3 b=some o:=asS (M:=[]) λx ad=>uT x (by
   simp only[ed]at ad;simp[ad])
  have lY:∀ b o,I b=some o->Gc dp os 3 b=some o:=λb o h=>DJ _ _ (atF _ _ h);have atG:oc a9++[.int .i64 (i:Int)]=oc (a9++[(i:Int)]):=by simp[oc]
  rw[atG]at bU;have atH:(a9++[(i:Int)]).length=os.n:=by rw[b3,p8];omega
  have BY:=ae3 af hK m q (by omega) (by omega) (ax.mono lY) (a9:=a9++[(i:Int)]) (a:=os.a.map λg=>⟨g,0,none⟩) (n:=os.n) (c:=os.c) atH (by omega) (asT bU (by omega)) (λh=>by omega) (DJ _ _ yJ) (DJ _ _ uu) (DJ _ _ Gj);refine c4.Hf (A:=tI) tI.cons a7 rfl rfl rfl (I1:=Gc dp os 3) (M1:=M1) (.sub ((Em _ _).append_left _) (asR λg av=>(atE g av).2)) BY (λk vs I h aN=>by
    obtain⟨p,v,-,rfl,-⟩:=aN;rfl) (λj I M=>R (ql+j) I M) (λex I M=>ex=.ret/\k8 I M) (λk I I' M h aV=>x5 _ _ _ _ h aV) (x5 _ _ _ _ (λb o h=>DJ _ _ (dW _ _ h)) g5) ?_ ?_ ?_
  ·rintro j ai vs I' M' jh⟨p,v,aB,rfl,C7⟩rP l B az iG;refine aR.mk [.func (.yield y) #[] #[]] ⟨rfl,_,_,_,.inl (jh _ _ (DJ _ _ (dW _ _ h4))),rfl,rfl⟩ ?_;refine bB.yield rfl (by simp) rfl rfl ?_;have e7:(gE t.ns k).paths[ql+j]?=some ((i:Int)::p):=by rw[<-od,ku,rE (by rw[bE];exact ai),jR,aB];rfl
   have aes:=(ij.1 e7).1;have aH:=qQ (ql+j) aes [v] I' M' (λb o h=>jh _ _ (lY _ _ h)) ⟨_,v,e7,rfl,by rw[dY,r']at C7;exact C7⟩ rP;refine zD.mk M' [] _ (by simp) aH ?_;rintro w h9 rR iP (⟨rfl,h⟩ | ⟨rfl,h⟩);·refine a3.mk (λh=>by simp at h) (λ_=>?_);exact⟨_,_,.perm (by simp) .refl,h⟩
   ·refine a3.mk (λ_=>?_) (λh=>by simp at h);exact⟨_,_,.perm (by simp) .refl,rfl,h⟩
  ·intro I' M' jh rP;refine bg.mk _ (cL (i:=i) (by omega)) ?_;intro _;refine⟨(i+1,ql+(gE t.ns q).paths.length,I',M'),⟨⟨a1,λb o h=>jh _ _ (lY _ _ h),jh _ _ (DJ _ _ (dW _ _ h4)),rP,?_,?_⟩,by simp only;omega⟩,.refl,tB,.nil⟩
   ·have:=congrArg List.length ku;rw[tD,b3,bE]at this;have:=(gE t.ns q).ae0;simp only;omega
   ·simp only;rw[<-G1,ku,B6 (by rw[bE])]
  ·rintro ex I' M' jh⟨rfl,h⟩;exact⟨by simp,_,_,.refl,.inr h⟩
structure fS where
 rule:Nat
 path:List Int
 a:Option Addr
 c:Nat
def fS.cells(x:fS):List Value:=[.int .i64 x.rule,.slice x.a x.path.length x.c]
def fS.cT(x:fS):x.cells.length=2:=rfl
structure fS.ok(I:aM)(x:fS):Prop where
 a2:dh I x.a x.path.length x.c 1 8 (oc x.path)
def fS.ok.mono{x:fS}(h:x.ok I)(bz:∀ b o,I b=some o->I' b=some o):x.ok I':=⟨h.a2.mono bz⟩
def fS.qs(x:fS):Nat×List Int:=(x.rule,x.path)
def k0:Nat->List aP->List (Nat×List Int)
 |_,[]=>[]| i,d::ds=>(bV d.t).paths.map (λp=>(i,p))++k0 (i+1) ds
def U':∀ (ds:List aP) (d:aP) (i:Nat),k0 i (ds++[d])=k0 i ds++(bV d.t).paths.map (λp=>(i+ds.length,p))
 |[],d,i=>by simp[k0]
 |e::ds,d,i=>by rw[mF,k0,k0,U' ds d (i+1),dY,c2,show i+1+ds.length=i+(ds.length+1) by omega]
def atI(l:List aL):(l.flatMap aL.cG).length=(l.map λc=>c.cG.length).sum:=by rw[yw]
def ae5:∀ (i:Nat) (l:List aD),(aD.uD i l).length=(l.map λc=>c.paths.length).sum
 |_,[]=>by rw[aD.U8];rfl
 |i,c::l=>by rw[aD.J8,b3,bE,ae5 (i+1) l];rfl
def atJ(ns:List ap):∀ T:aL,(T.bare ns).paths.length=T.cG.length:=by
 intro T
 induction T using aL.ind with
 |h k ks aF=>rw[aL.mo,aD.DI,aL.kY,c2,ae5,b3,atI,gh,p8];congr 2;exact fO λc an=>aF c an
def atK(h:hP t):(bV t).paths.length<=t.ns.length:=by obtain⟨T,aa,ab,aj,aG,bx⟩:=h.vY;rw[aj,atJ];exact bx
def Om:∀ (ds:List aP) (i:Nat),(∀ d∈ds,right d.t=true)->(k0 i ds).length<=(ds.map λd=>d.t.ns.length).sum
 |[],_,_=>b2 _| d::ds,i,h=>by have aa:=atK (lP.1 (h d (.head _)));have ab:=Om ds (i+1) λe he=>h e (.tail _ he);rw[k0,b3,bE,bX,hI];omega
def atL(ds:List aP)(n:Nat):((ds.take n).map λd=>d.t.ns.length).sum<=(ds.map λd=>d.t.ns.length).sum:=by
 conv=>rhs;rw[<-rY n ds,cP,rZ]
 omega
def atM(bp:fW I al)(av:g.ok I)(ag:(g.ds.map λd=>d.t.ns.length).sum<=1048576):Spec Tryz.prog 52 [g.val] I [] λv I' M'=>(∀ b o,I b=some o->I' b=some o) /\
  ∃ (os:aY) (L:List fS),v=os.val/\os.ok 2 (L.flatMap fS.cells)/\(∀ x∈L,x.ok I')/\M'=os.ar 60/\L.map fS.qs=if dj al g=0 then k0 0 g.ds else []:=by
 refine cg [3,4] a7 Tryz.func52 rfl rfl rfl ?_;intro B az;have fl:=av.n;have jJ:=av.a2.cap;refine bd.mk [] [] _ (.refl _) (Qv bp av) ?_;rintro v J N -⟨rfl,bl,rfl⟩;refine a3.mk (λh=>?_) (λh=>?_)
 ·have hm:dj al g≠0:=by have:(!decide (dj al g=0))=true:=h;simpa using this
  refine⟨_,_,.refl,bl,ib,[],rfl,lM 2,(λx ad=>by cases ad),rfl,?_⟩;rw[bS hm];rfl
 have hm:dj al g=0:=by have:(!decide (dj al g=0))=false:=h;simpa using this
 have af:∀ d∈g.ds,right d.t=true:=λd ak=>by have:=fi.1 (y2.1 hm).2.1 d ak;rw[cz]at this;exact(JW.1 this.2).1
 refine b'.mk λcw r6 Oh=>?_;refine dg.inv (ι:=Nat×aY×List fS×aM) (λx=>{ bj:=[(1,.ref 1 0),(3,.val (ptr cw)),(11,.val (.slice g.a g.n g.c)),(12,.val (.int .i64 g.n)),(13,.val (.int .i64 (x.1:Int)))],cl:=[(1,[.slice g.a g.n g.c])],cI:=x.2.2.2,de:=⟨cw,.cells #[x.2.1.val] 82 (0,0)⟩::x.2.1.ar 60 }) (λx=>x.1<=g.n/\(∀ b o,I b=some o->x.2.2.2 b=some o)/\x.2.1.ok 2 (x.2.2.1.flatMap fS.cells)/\(∀ y∈x.2.2.1,y.ok x.2.2.2)/\x.2.2.1.map fS.qs=k0 0 (g.ds.take x.1)) (λx=>g.n-x.1) ?_ ?_
 ·exact⟨(0,ib,[],J),⟨dw _,bl,lM 2,(λy aH=>by cases aH),rfl⟩,.refl,hv,.cons rfl (.nil)⟩
 rintro⟨i,os,L,K⟩⟨hi,eG,bU,cc,oL⟩;simp only at hi eG bU cc oL;refine a3.mk (λh=>?_) (λh=>?_)
 rotate_left
 ·have cJ:¬ (i:Int)<(g.n:Int):=eu h;refine aR.mk [os.val] (c5 (cs:=[os.val]) (k:=0) (n:=1) (T:=82) (.head _) (by simp)) ?_;refine⟨_,_,.sub (Em _ _) .refl,eG,os,L,rfl,bU,cc,rfl,?_⟩;rw[bN hm,oL,fN (by omega)]
 have a1:i<g.n:=by have:(i:Int)<(g.n:Int):=dB h;omega
 have cq:i<g.ds.length:=by omega
 obtain⟨aU,bK,bm⟩:=av.a2.row aP.cT a1 cq;have ak:=av.ds _ (bi cq);have pD:=af _ (bi cq);have ng:g.ds.take (i+1)=g.ds.take i++[g.ds[i]]:=gy cq;have Oc:=Om (g.ds.take (i+1)) 0 λd ak=>af d (K9 ak);have sk:=atL g.ds (i+1);rw[ng,U',b3,bE,<-oL,bE]at Oc;rw[ng]at sk;have hK:=ak.t.n;obtain⟨kw,hO⟩:=qP pD;obtain⟨r,fE⟩:=ea kw;have axX:g.ds[i].t.ns.length<=1048576:=by rw[cP,rZ]at sk;simp only[bX,hx,hI,B7]at sk;omega
 generalize o5:g.ds[i]=d at *;obtain⟨pF,⟨ns,pe,jZ,p2,iQ⟩⟩:=d;refine bf.mk aU i bK rfl a1 ?_;refine aR.mk _ ((bm _).mono eG) ?_;refine b'.mk λhB IL yR=>?_;refine b8.mk [] (⟨cw,.cells #[os.val] 82 (0,0)⟩::os.ar 60) #[.int .i64 0] 3 rfl rfl (bI rfl) rfl ?_;refine bd.zi [] _ _ (.refl _) (ae1 ⟨ns,pe,jZ,p2,iQ⟩ iQ none 0 0) ?_;rintro v dp sL dW uT⟨gf,gn,ow,rfl,yJ,uu,Gj,-,rfl⟩;have h4:dp hB=none:=uT _ (.head _);have y6:∀ b o,dp b=some o->ins dp hB (.cells #[.int .i64 (i:Int)] 3 (0,0)) b=some o:=hW h4;have ae6:∀ b o,I b=some o->ins dp hB (.cells #[.int .i64 (i:Int)] 3 (0,0)) b=some o:=λb o h=>y6 _ _ (dW _ _ (eG _ _ h));have kj:=ak.t.mono ae6;have Va:ns.length=jZ:=hK;have fC:r<ns.length:=by have axY:iQ<(ns.length:Int):=hO;have axZ:iQ=(r:Int):=fE;omega
 rw[show iQ=(r:Int)from fE]at Gj;have BY:=ae3 pD (by omega) (r+1) r (Bw _) fC kj (a9:=[]) (a:=none) (n:=0) (c:=0) rfl (by omega) ⟨rfl,⟨b2 _,by omega⟩,.inl rfl⟩ (λ_=>rfl) (y6 _ _ yJ) (y6 _ _ uu) (y6 _ _ Gj);have nX:bV ⟨ns,pe,jZ,p2,iQ⟩=gE ns (r:Int):=by unfold bV;rw[show iQ=(r:Int)from fE]
 have ax0:L.length+(gE ns (r:Int)).paths.length<=1048576:=by have aa:L.length+(bV ⟨ns,pe,jZ,p2,iQ⟩).paths.length<=_:=Oc;rw[nX]at aa;omega
 refine c4.Hf (A:=tI) tI.cons a7 rfl rfl rfl (I1:=ins dp hB (.cells #[.int .i64 (i:Int)] 3 (0,0))) (M1:=⟨cw,.cells #[os.val] 82 (0,0)⟩::os.ar 60) (.k3 rfl (by simp) .refl) BY (λk vs I h aN=>by
   obtain⟨p,v,-,rfl,-⟩:=aN;rfl) (λj I' M'=>∃ (fR:aY) (hZ:List fS),M'=⟨cw,.cells #[fR.val] 82 (0,0)⟩::fR.ar 60/\fR.ok 2 (hZ.flatMap fS.cells)/\(∀ y∈hZ,y.ok I')/\hZ.map fS.qs=k0 0 (g.ds.take i)++((gE ns (r:Int)).paths.take j).map λp=>(i,p)) (λex I M=>False)
  (λk I I' M h ⟨fR,hZ,aa,ab,aj,aG⟩=>⟨fR,hZ,aa,ab,λy aH=>(aj y aH).mono h,aG⟩) ⟨os,L,rfl,bU,λy aH=>(cc y aH).mono (λb o h=>y6 _ _ (dW _ _ h)),by simpa using oL⟩ ?_ ?_ (λex I' M' _ h=>h.elim)
 ·rintro j ai vs I' M' jh⟨p,v,aB,rfl,a,c,rfl,ae7,gV⟩⟨fR,hZ,rfl,rk,oa,uE⟩l B az iG;rw[iF]at ae7 gV;simp only[iF];have bx:=congrArg List.length uE;rw[bE,b3,bE,hT,<-oL,bE]at bx;have bZ:=rk.len;rw[jm _ 2 fS.cT]at bZ;refine aR.mk [fR.val] (c5 (cs:=[fR.val]) (k:=0) (n:=1) (T:=82) (.head _) (by simp)) ?_;refine aR.mk [.int .i64 (i:Int)] ⟨rfl,_,_,_,.inl (jh _ _ (mI ..)),rfl,rfl⟩ ?_;refine b'.mk λb9 lf xr=>?_;refine bB.pw a7 rfl (by simp) (e:=60) rfl rfl rfl fR rk rfl (cs:=[.int .i64 (i:Int),.slice a p.length c]) rfl rfl rfl [_] [] (by rw[ed];rfl) (by omega) (by show(fR.n+1)*32<=_;omega) ?_;intro xv aa ab aj;refine b8.mk [] (xv.ar 60++[]) #[fR.val] 82 rfl rfl (bI rfl) rfl ?_;refine⟨_,_,.pu (by rw[ed];rfl),xv,hZ++[⟨i,p,a,c⟩],rfl,?_,?_,?_⟩
  ·rw[hn,p7];exact aj
  ·intro y aH;rcases cF.1 aH with aH | aH
   ·exact oa y aH
   ·rw[ec.1 aH];exact⟨ae7⟩
  ·obtain⟨tM,lU⟩:=ij.1 aB;rw[cP,uE,gy tM,cP,lU,dY];rfl
 ·rintro I' M' jh⟨fR,hZ,rfl,rk,oa,uE⟩;refine bg.mk _ (cL (i:=i) (by omega)) ?_;refine⟨(i+1,fR,hZ,I'),⟨⟨a1,λb o h=>jh _ _ (ae6 _ _ h),rk,oa,?_⟩,by simp only;omega⟩,.refl,hv,.cons rfl (.nil)⟩;simp only;rw[uE,ng,U',fN (b2 _),<-nX,hT,cX,uL (by omega)]
def ae8(_:ap)(xs:List Nat):Nat:=xs.sum+1
def dA(T:aD):Nat:=T.fold ae8
def kz(d:ap)(ks:List aD):dA (.mk d ks)=(ks.map dA).sum+1:=by unfold dA;rw[aD.fold_eq];rfl
def atN(T:aD):0<dA T:=by
 cases T with
 |mk d ks=>rw[kz];omega
def atO:∀ T:aD,T.post.length=dA T:=by
 intro T
 induction T using aD.ind with
 |h d ks aF=>rw[aD.qa,ap6,kz,gh];congr 2;exact fO λc an=>aF c an
def atP(ns:List ap):∀ T:aL,dA (T.bare ns)=T.cG.length:=by
 intro T
 induction T using aL.ind with
 |h k ks aF=>rw[aL.mo,kz,aL.kY,b3,yw,gh,p8];congr 2;exact fO λc an=>aF c an
def ae9{α:Type}(f:α->Nat)(p:α->Bool):∀ l:List α,((l.filter p).map f).sum<=(l.map f).sum
 |[]=>b2 _
 |a::l=>by
  have:=ae9 f p l;rw[o0];split<;>simp only[bX,hI]<;>omega
def atQ(d:ap)(xs:List aD):dA (hj d xs)<=(xs.map dA).sum+1:=by
 rw[za];split
 ·have h:=ae9 dA (hh d) xs;generalize xs.filter (hh d)=bj at h
  match bj,h with
  |[],_=>rw[kz];simp| [y],h=>simp only[bX,hx,hI,B7]at h;show dA y<=_;omega| tg::th::l,h=>rw[kz];omega
 ·rw[kz];exact b2 _
def atS:∀ T:aD,dA (T.fold hj)<=dA T:=by
 intro T
 induction T using aD.ind with
 |h d ks aF=>rw[aD.fold_eq,kz];refine jf (atQ d _) ?_;rw[gh];have:=NB (l:=ks) (f:=dA ∘ aD.fold hj) (g:=dA) λc an=>aF c an;omega
def J9(f:aD->List aD):∀ l:List aD,((l.flatMap f).map dA).sum=(l.map λc=>((f c).map dA).sum).sum
 |[]=>rfl| a::l=>by rw[jT,cP,rZ,J9 f l];rfl
def atT:∀ T:aD,dA T.bn<=dA T/\∀ cd,((T.e0 cd).map dA).sum<=dA T:=by
 intro T
 induction T using aD.ind with
 |h d ks aF=>
  have ky:dA (aD.mk d ks).bn<=dA (.mk d ks):=by show dA (.mk d (ks.flatMap (aD.e0 (gR d))))<=_;rw[kz,kz,J9];have:=NB (l:=ks) (f:=λc=>((c.e0 (gR d)).map dA).sum) (g:=dA) λc an=>(aF c an).2 _;omega
  refine⟨ky,λcd=>?_⟩;rw[aD.oH];split;·rw[J9,kz];have:=NB (l:=ks) (f:=λc=>((c.e0 cd).map dA).sum) (g:=dA) λc an=>(aF c an).2 _;omega
  ·simpa using ky
def afa(T:aD):dA T.iS<=dA T:=jf (atT _).1 (atS T)
def Gk:∀ (l:List Nat) (i x:Nat) (h:i<l.length),(l.set i x).sum+l[i]=l.sum+x
 |[],i,x,h=>by simp at h
 |a::l,0,x,h=>by simp;omega
 |a::l,i+1,x,h=>by have:=Gk l i x (by simpa using h);simp only[List.set_cons_succ,hI,GX];omega
def On{X S:aD}:∀ (p:List Int) (T:aD),T.go p=some S->dA (T.put p X)+dA S=dA T+dA X
 |[],T,h=>by rw[aD.go]at h;cases h;rw[aD.put];omega
 |i::p,.mk d ks,h=>by
  rw[aD.go]at h;split at h
  ·rename_i hi;have hi:0<=i/\i<(ks.length:Int):=hi;obtain⟨q,rfl⟩:=ea hi.1;have aN:q<ks.length:=by omega
   have a4:ks.getD q (.mk d ks)=ks[q]:=by simp[bt,aN]
   have aF:=On (X:=X) p _ h;rw[aD.put];show dA (aD.mk d (ks.set q ((ks.getD q (.mk d ks)).put p X)))+_=_;have aF:dA ((ks.getD q (.mk d ks)).put p X)+dA S=dA (ks.getD q (.mk d ks))+dA X:=aF;rw[a4]at aF |-;rw[kz,kz,o1];have aj:=Gk (ks.map dA) q (dA (ks[q].put p X)) (by rw[bE];exact aN);rw[fr]at aj;omega
  ·cases h
def afb(h:right t=true):dA (bV t)<=t.ns.length:=by obtain⟨T,aa,ab,aj,aG,bx⟩:=(lP.1 h).vY;rw[aj,atP];exact bx
def afc(ax:t.ok I)(af:right t=true)(aC:t.n<=1099511627776):vB t:=λd ak=>by have aV:=lP.1 af;obtain⟨j,ai,rfl⟩:=jv ak;obtain⟨T,aa,ab,-,aG⟩:=aV.lt ai;have ae:=ab.xu;rw[aa,gg ai]at ae;have bx:=NH aG λx ad=>ab.lt x ad;have bZ:=F0 T;have ek:=A8 T.sub;have fv:=(ax.ns _ (bi ai)).aO;have dZ:=ax.n;rw[ae]at fv;simp only[eM,bE]at fv;omega
def atU(av:g.ok I)(hu:u<g.ds.length)(af:right g.ds[u].t=true)(aB:dh I pa pn jC 1 8 (oc path)){S:aD}(cB:(bV g.ds[u].t).go path=some S) :
  Spec Tryz.prog 89 [g.val,Od (u:Int) pa pn jC] I M0 λv I' M'=>I'=I/\M'=M0/\∃ d∈g.ds[u].t.ns,v=.agg d.cells.toArray/\d.bare=S.d:=by
 have aV:=lP.1 af;obtain⟨T,jK,iw,oK,J4,Ob⟩:=aV.vY;rw[oK,bare_go]at cB;obtain⟨U,ef,rfl⟩:=sB.1 cB;have fl:=av.n;obtain⟨aU,bK,bm⟩:=av.a2.row aP.cT (j:=u) (by omega) hu;have ak:=av.ds _ (bi hu);generalize g.ds[u]=d at *;obtain⟨pF,⟨ns,pe,jZ,p2,iQ⟩⟩:=d;have kj:=ak.t;simp only at jK iw ef aV;have hK:ns.length=jZ:=kj.n;have iO:path.length=pn:=by have:=aB.len;simpa[oc]using this
 have MX:=aB.cap;refine cg [] a7 Tryz.func89 rfl rfl rfl ?_;intro B az;refine bf.mk aU u bK rfl (by omega) ?_;refine aR.mk [.slice pe jZ p2,.int .i64 iQ] ((bm _).part (k:=1) (m:=2) (by decide)) ?_;refine dg.inv (ι:=Nat×aL) (λx=>{ bj:=[(4,.ref 4 0),(5,.ref 5 0),(6,.val (.int .i64 x.2.bh)),(19,.val (.slice pa pn jC)),(20,.val (.int .i64 pn)),(21,.val (.int .i64 (x.1:Int)))],cl:=[(4,uz.cells),(5,[.slice pe jZ p2,.int .i64 iQ])],cI:=I,de:=M0 }) (λx=>x.1<=pn/\cy ns x.2/\x.2.go (path.drop x.1)=some U) (λx=>pn-x.1) ?_ ?_
 ·refine⟨(0,T),⟨dw _,iw,ef⟩,.refl,?_,.cons rfl (.cons rfl (.nil))⟩;rw[<-jK];exact oX
 rintro⟨i,W⟩⟨hi,h6,Bh⟩;simp only at hi h6 Bh;have J':=h6.mV;obtain⟨lK,lL,hy⟩:=kj.a2.row ap.cT (j:=W.bh) (show W.bh<jZ by omega) J';have yZ:=kj.ns _ (bi J');have sP:=h6.xu;rw[gg J']at sP;refine a3.mk (λh=>?_) (λh=>?_)
 ·have dL:i<pn:=by have:(i:Int)<(pn:Int):=dB h;omega
  have mb:i<path.length:=by omega
  obtain⟨UL,NW,oL⟩:=aB.one dL mb;have jn:path.drop i=path[i]::path.drop (i+1):=e1 mb;rw[jn,aL.go]at Bh;split at Bh
  rotate_left
  ·cases Bh
  rename_i qc;generalize path[i]=z at *;obtain⟨z,rfl⟩:=ea qc.1;have bb:z<W.sub.length:=by omega
  have ff:=yZ.aO;have cv:ns[W.bh].aw.length=W.sub.length:=by rw[sP];simp[eM]
  obtain⟨gr,fB,eY⟩:=yZ.a2.one (j:=z) (by omega) (by omega);have UM:ns[W.bh].aw[z]'(by omega)=((W.sub[z]).bh:Int):=by
   have aa:ns[W.bh].aw[z]?=(eM W.sub)[z]?:=by rw[sP]
   rw[db (by omega)]at aa;unfold eM at aa;rw[jR,db bb]at aa;exact fm aa
  rw[UM]at eY;have da:W.sub.getD ((z:Nat):Int).toNat W=W.sub[z]:=by show W.sub.getD z W=_;simp[bt,bb]
  rw[da]at Bh;refine bf.mk UL i NW rfl dL ?_;refine aR.mk _ (oL _) ?_;refine bf.mk lK W.bh lL rfl (show W.bh<jZ by omega) ?_;refine aR.mk _ ((hy _).part (k:=8) (m:=1) (by decide)) ?_;refine bf.mk gr z fB rfl (show z<ns[W.bh].aO by omega) ?_;refine aR.mk _ (eY _) ?_;refine bg.mk _ (cL (i:=i) (by omega)) ?_;exact⟨(i+1,W.sub[z]),⟨⟨dL,h6.Ds _ (bi bb),Bh⟩,by simp only;omega⟩,.refl,oX,.cons rfl (.cons rfl (.nil))⟩
 ·have cJ:¬ (i:Int)<(pn:Int):=eu h;rw[ki (by omega),aL.go]at Bh;cases Bh;refine bf.mk lK U.bh lL rfl (show U.bh<jZ by omega) ?_;refine aR.mk _ (hy _) ?_;refine⟨_,_,.refl,rfl,rfl,ns[U.bh],bi J',rfl,?_⟩;rw[Ut,gg J']
structure Oo(al:List Int)(g:cD)(u:Nat)(p:List Int)(d:ap)(I':aM)(h:cD)(b:Bool):Prop where
 is:b=match qq al g u p d with
  |some X=>xB al g u X| none=>false
 ok:b=true->h.ok I'/\h.n=g.n/\∃ X bo,qq al g u p d=some X/\oJ bo X/\bo.ns.length=bo.n/\h.ds.map aP.a0=(eN g.ds u bo).map aP.a0/\dj al h=0/\∃ r,mm al h r/\r.2=0
def afd(hm:dj al g=0)(aC:∀ d∈g.ds,d.t.n<=549755813888):UY g:=⟨λd ak=>l3 hm ak,aC⟩
def afe(bp:fW I al)(hw:tm al g F)(av:g.ok I)(aC:∀ d∈g.ds,d.t.n<=549755813888)(EB:g.n<=1000000)(hu:u<g.ds.length)(aB:dh I pa pn jC 1 8 (oc path)){S:aD}(cB:(bV g.ds[u].t).go path=some S){d:ap}(ak:d.bare=S.d){uv:Value}(aA:Gd al I g uv) :
  Spec Tryz.prog 77 [g.val,Od (u:Int) pa pn jC,.agg d.cells.toArray,uv] I [] λv I' M'=>(∀ b o,I b=some o->I' b=some o)/\M'=[]/\∃ (h:cD) (b:Bool),v=.tuple #[h.val,.bool b]/\Oo al g u path d I' h b:=by
 obtain⟨b1,cw,bJ,s,rfl,hb,r6,pX,fc,au⟩:=aA.ex;have fl:=av.n;obtain⟨di,d0,d1,d2,d3,gp,Uy,Uz,aff,pF,Hl,afg⟩:=d;refine cg [] a7 Tryz.func77 rfl rfl rfl ?_;intro B az;refine a3.mk (λh=>?_) (λh=>?_)
 ·have aj:¬ di=3:=by have:(!decide (di=3))=true:=h;simpa using this
  exact⟨_,_,.refl,λ_ _ h=>h,rfl,⟨[],none,0,0⟩,false,rfl,by unfold qq;rw[bS aj],λh=>by cases h⟩
 have aj:di=3:=by have:(!decide (di=3))=false:=h;simpa using this
 refine bd.mk [] [] _ (.refl _) (atd hw av hb r6 pX fc au gp) ?_;rintro v J N -⟨bl,rfl,Of,b,rfl,ag,atV⟩;subst J;obtain⟨tns,Gl,Gm,Gn,Gp⟩:=Of;cases aN:qp al g gp with
 |none=>
  have DK:b=false:=by rw[ag,aN];rfl
  subst DK;refine a3.mk (λ_=>?_) (λh=>by cases h);exact⟨_,_,.refl,λ_ _ h=>h,rfl,⟨[],none,0,0⟩,false,rfl,by unfold qq;rw[bN aj,aN];rfl,λh=>by cases h⟩
 |some q=>
 have Bi:b=true:=by rw[ag,aN];rfl
 subst Bi;obtain⟨dJ,eO,eJ⟩:=aeO hw aN;have nz:g.ds.getD q gd=g.ds[q]:=by simp[bt,dJ]
 have tn:g.ds.getD u gd=g.ds[u]:=by simp[bt,hu]
 have afh:=atV q aN;rw[nz]at afh;have ad:=(av.ds _ (bi dJ)).t;have mT:=l3 hw.m (bi dJ);have nu:=aC _ (bi dJ);have fo:g.ds[q]∈g.ds:=bi dJ;have nJ:qq al g u path ⟨di,d0,d1,d2,d3,gp,Uy,Uz,aff,pF,Hl,afg⟩=some (((bV g.ds[u].t).put path (bV g.ds[q].t)).iS):=by unfold qq;rw[bN aj,aN,tn];show some (((bV g.ds[u].t).put path (bV (g.ds.getD q gd).t)).iS)=_;rw[nz]
 rw[<-afh]at ad mT nu nJ;have iM:mX al g u path=some (((bV g.ds[u].t).put path (bV ⟨tns,Gl,Gm,Gn,Gp⟩)).iS):=by unfold mX;rw[tn,cB];show qq al g u path S.d=_;rw[<-ak];exact nJ
 have UT:vZ g (u:Int) path (bV ⟨tns,Gl,Gm,Gn,Gp⟩)=some (((bV g.ds[u].t).put path (bV ⟨tns,Gl,Gm,Gn,Gp⟩)).iS):=by unfold vZ sy;rw[bN (by omega),gz,tn,cB];rfl
 have afi:=as5 (M0:=[]) bp av (afd hw.m aC) EB ad mT nu (rule:=(u:Int)) aB;rw[UT]at afi;generalize afj:((bV g.ds[u].t).put path (bV ⟨tns,Gl,Gm,Gn,Gp⟩)).iS=X at *;refine a3.mk (λh=>by cases h) (λ_=>?_);refine bd.mk [] [] _ (.refl _) afi ?_;rintro v J N bl⟨-,rfl,h,bo,rfl,cW,rl,eW,dK,bw,Bg⟩;rw[gz]at eW;have Oq:h.ds.map aP.a0=(eN g.ds u bo).map aP.a0:=eW;have Va:bo.ns.length=bo.n:=by
  have hm:=congrArg (λl:List aP=>l[u]?) Oq;simp only[jR]at hm;have zV:u<h.ds.length:=by have:=cW.n;omega
  rw[Dy hu,db zV]at hm;have hm:=fm hm;have aa:=(cW.ds _ (bi zV)).t.n;have ab:h.ds[u].t.a0=bo.a0:=congrArg aP.t hm;have aj:h.ds[u].t.ns.length=bo.ns.length:=by have:=congrArg (λt:bP=>t.ns.length) ab;simpa[bP.a0]using this
  have aG:h.ds[u].t.a0.n=bo.a0.n:=congrArg bP.n ab;have aG:h.ds[u].t.n=bo.n:=aG;omega
 obtain⟨s1,s2,-,afk⟩:=aeP hw hu iM dK Va rl cW.n Oq;have ml:∀ e∈h.ds,vB e.t:=λe he=>by
  have bx:e.a0∈(eN g.ds u bo).map aP.a0:=by rw[<-Oq];exact cA.2 ⟨e,he,rfl⟩
  obtain⟨cQ,rH,bZ⟩:=cA.1 bx;have ek:e.t.a0=cQ.t.a0:=(congrArg aP.t bZ).symm;have fv:right cQ.t=true/\cQ.t.n<=1099511627776:=by
   obtain⟨i,hi,rfl⟩:=jv rH;by_cases aI:i=u;·subst aI;have dZ:=Dy (y:=bo) hu;rw[db hi]at dZ;rw[fm dZ];refine⟨dK.right bw,?_⟩;have rU:=congrArg List.length dK.a0;rw[bE,atO,<-afj]at rU;have SN:=afa ((bV g.ds[i].t).put path (bV ⟨tns,Gl,Gm,Gn,Gp⟩));have ax1:=On (X:=bV ⟨tns,Gl,Gm,Gn,Gp⟩) path _ cB;have ax2:=afb (l3 hw.m (bi hu));have atW:=afb mT;have ax3:=(av.ds _ (bi hu)).t.n;have ax4:=aC _ (bi hu);have atX:=ad.n;show bo.n<=_;simp only at atW atX nu;omega
   ·have dZ:=Dx (ds:=g.ds) (y:=bo) aI;have dL:i<g.ds.length:=by rw[xx]at hi;exact hi
    rw[db hi,db dL]at dZ;rw[fm dZ];exact⟨l3 hw.m (bi dL),by have:=aC _ (bi dL);omega⟩
  refine afc (cW.ds e he).t ?_ ?_;·rw[<-vu,ek,vu];exact fv.1
  ·have dZ:e.t.a0.n=cQ.t.a0.n:=congrArg bP.n ek;have dZ:e.t.n=cQ.t.n:=dZ;omega
 refine cj.mk (λ_=>?_) (λh=>by cases h);refine bd.mk [] [] _ (.refl _) (Jp (bp.mono bl) cW ml) ?_;rintro v dp N -⟨dW,rfl,r,rfl,af⟩;have bq:∀ b o,I b=some o->dp b=some o:=λb o h=>dW _ _ (bl _ _ h);refine a3.mk (λbx=>?_) (λbx=>?_)
 ·have bx:¬ r.2=0:=by have:(!decide (r.2=0))=true:=bx;simpa using this
  refine⟨_,_,.refl,bq,rfl,⟨[],none,0,0⟩,false,rfl,?_,λh=>by cases h⟩;rw[nJ];show false=xB al g u X;rw[s2,dU λe=>bx ((afk r af).2 e)]
 ·have bx:r.2=0:=by have:(!decide (r.2=0))=false:=bx;simpa using this
  have sp:=(afk r af).1 bx;refine⟨_,_,.refl,bq,rfl,h,true,rfl,?_,λ_=>⟨cW.mono dW,rl,X,bo,nJ,dK,Va,Oq,sp,r,af,bx⟩⟩;rw[nJ];show true=xB al g u X;rw[s2,eV sp]
def afl(atY:aD):∀ (i:Nat) (l:List aD),(∀ c∈l,∀ p∈c.paths,∃ S,c.go p=some S)->∀ q∈aD.uD i l,∃ j p S,∃ h:j<l.length,q=((i+j:Nat):Int)::p/\l[j].go p=some S
 |_,[],_,q,h=>by rw[aD.U8]at h;cases h
 |i,c::l,aF,q,h=>by
  rw[aD.J8]at h;rcases cF.1 h with h | h;·obtain⟨p,aB,rfl⟩:=cA.1 h;obtain⟨S,cB⟩:=aF c (.head _) p aB;exact⟨0,p,S,by simp,rfl,cB⟩
  ·obtain⟨j,p,S,ai,rfl,cB⟩:=afl atY (i+1) l (λc an=>aF c (.tail _ an)) q h;exact⟨j+1,p,S,by simp;omega,by rw[show i+1+j=i+(j+1) by omega],by simpa using cB⟩
def atZ:∀ (T:aD),∀ p∈T.paths,∃ S,T.go p=some S:=by
 intro T
 induction T using aD.ind with
 |h d ks aF=>
  intro p aB;rw[aD.DI]at aB;rcases eg.1 aB with rfl | aB;·exact⟨_,rfl⟩
  ·obtain⟨j,q,S,ai,rfl,cB⟩:=afl (.mk d ks) 0 ks aF p aB;refine⟨S,?_⟩;rw[aD.go];have iC:j<(aD.mk d ks).sub.length:=ai;rw[bN (by omega)];have e:(aD.mk d ks).sub.getD (((0+j:Nat):Int)).toNat (.mk d ks)=ks[j]:=by rw[cX];show ks.getD j _=_;rw[bt,db ai];rfl
   rw[e];exact cB
def afm:∀ (ds:List aP) (i:Nat),∀ x∈k0 i ds,∃ j,∃ h:j<ds.length,x.1=i+j/\x.2∈(bV ds[j].t).paths
 |[],i,x,h=>by cases h
 |d::ds,i,x,h=>by
  rw[k0]at h;rcases cF.1 h with h | h;·obtain⟨p,aB,rfl⟩:=cA.1 h;exact⟨0,by simp,rfl,aB⟩
  ·obtain⟨j,ai,e,aB⟩:=afm ds (i+1) x h;exact⟨j+1,by simp;omega,by omega,by simpa using aB⟩
def afn{x:Nat×List Int}(h:x∈k0 0 g.ds):∃ hu:x.1<g.ds.length,∃ S,(bV g.ds[x.1].t).go x.2=some S:=by
 obtain⟨j,ai,e,aB⟩:=afm g.ds 0 x h;obtain⟨u,p⟩:=x;simp only at e aB;obtain rfl:u=j:=by omega
 exact⟨ai,atZ _ _ aB⟩
def ls(al:List Int)(g:cD):List (Nat×List Int):=(k0 0 g.ds).filter (oN al g)
def afo{d e:ap}(h:d.bare=e):qq al g u p d=qq al g u p e:=by rw[<-h];rfl
def afp(hu:u<g.ds.length){S:aD}(cB:(bV g.ds[u].t).go p=some S){d:ap}(ak:d.bare=S.d){b:Bool}(ax:Oo al g u p d I h b):oN al g (u,p)=b:=by
 rw[ax.is];unfold oN mX;have tn:g.ds.getD u gd=g.ds[u]:=by simp[bt,hu]
 simp only[tn,cB];rw[afo ak];rfl
def afq(x:Nat×List Int)(a:Option Addr)(c:Nat):Value:=.agg #[.int .u8 1,.int .u8 1,.int .i64 x.1,.slice a x.2.length c,.int .i64 0]
def at0(l:List (Nat×List Int))(k:Nat)(vs:List Value)(I:aM):Prop:=∃ x a c,l[k]?=some x/\vs=[afq x a c]/\dh I a x.2.length c 1 8 (oc x.2)
def afr(g:cD):Spec Tryz.prog 76 [g.val] I [] λr I' M'=>∃ b1,r=.func (.func 130) #[] #[ptr b1]/\I' b1=some (.cells #[.slice g.a g.n g.c] 24 (0,0))/\(∀ b o,I b=some o->I' b=some o)/\M'=[]:=by refine cg [1] a7 Tryz.func76 rfl rfl rfl ?_;intro B az;refine b'.mk λb1 hb NP=>?_;exact⟨_,_,.k3 rfl (by simp) .refl,b1,rfl,mI ..,hW hb,rfl⟩
structure Ka(al:List Int)(I:aM)(g:cD)(F:List aW):Prop where
 ax:fW I al
 hw:tm al g F
 av:g.ok I
 aC:∀ d∈g.ds,d.t.n<=549755813888
 ag:g.n<=1000000
 xn:(g.ds.map λd=>d.t.ns.length).sum<=1048576
def Ka.mono(h:Ka al I g F)(bz:∀ b o,I b=some o->I' b=some o):Ka al I' g F:=⟨h.ax.mono bz,h.hw,h.av.mono bz,h.aC,h.ag,h.xn⟩
def afs(aB:Ka al I g F)(hb:I b1=some (.cells #[.slice g.a g.n g.c] 24 (0,0))) :
  Wu Tryz.prog 130 [ptr b1] I (ls al g).length (at0 (ls al g)):=by
 intro y R k8 x5 qQ dt M0 lI iH;refine zr [] a7 Tryz.func130 rfl rfl rfl ?_;intro B az;have hw:=aB.hw;have fl:=hw.n;have bm:∀ (I1:aM) (M:List aE),(∀ b o,I b=some o->I1 b=some o)->cO I1 M ⟨b1,0,none⟩ 1 [.slice g.a g.n g.c]:=λI1 M cu=>⟨rfl,_,_,_,.inl (cu _ _ hb),rfl,rfl⟩;have gV:=aB.mono lI;refine aR.mk _ (bm _ _ lI) ?_;refine bd.mk [] M0 _ (.refl _) (aeV gV.ax hw gV.av (by have:=aB.ag;omega) λd ak=>by have:=aB.aC d ak;omega) ?_;rintro uv I1 N cu⟨-,rfl,nP⟩;have Vb:∀ b o,I b=some o->I1 b=some o:=λb o h=>cu _ _ (lI _ _ h);have w4:=aB.mono Vb;refine aR.mk _ (bm _ _ Vb) ?_;refine bd.mk [] M0 _ (.refl _) (atM w4.ax w4.av aB.xn) ?_;rintro v dz N et⟨-,os,L,rfl,bU,cc,rfl,oL⟩;rw[bN hw.m]at oL;have Gi:∀ b o,I b=some o->dz b=some o:=λb o h=>et _ _ (Vb _ _ h);have QK:os.n=L.length:=by have:=bU.len;rw[jm _ 2 fS.cT]at this;omega
 have ax5:L.length<=1048576:=by have aa:=Om g.ds 0 λd ak=>l3 hw.m ak;have ab:=congrArg List.length oL;rw[bE]at ab;have:=aB.xn;omega
 refine dg.inv (ι:=Nat×Nat×aM×List aE) (λx=>{ bj:=[(0,.val (.func (.yield y) #[] #[])),(1,.val (ptr b1)),(3,.val uv),(11,.val os.val),(12,.val (.int .i64 os.n)),(13,.val (.int .i64 (x.1:Int)))],cl:=[],cI:=x.2.2.1,de:=os.ar 60++x.2.2.2 }) (λx=>x.1<=os.n/\(∀ b o,dz b=some o->x.2.2.1 b=some o)/\R x.2.1 x.2.2.1 x.2.2.2/\x.2.1<=(ls al g).length/\(ls al g).drop x.2.1=((L.map fS.qs).drop x.1).filter (oN al g)) (λx=>os.n-x.1) ?_ ?_
 ·exact⟨(0,0,dz,M0),⟨dw _,λ_ _ h=>h,x5 _ _ _ _ (λb o h=>et _ _ (cu _ _ h)) iH,dw _,by simp only[wu];rw[oL];rfl⟩,.refl,oX,.nil⟩
 rintro⟨i,ql,J,M1⟩⟨hi,bl,g5,Fz,ku⟩;simp only at hi bl g5 Fz ku;refine a3.mk (λh=>?_) (λh=>?_)
 rotate_left
 ·have cJ:¬ (i:Int)<(os.n:Int):=eu h;have aJ:(L.map fS.qs).drop i=[]:=ki (by rw[bE];omega);rw[aJ,List.filter_nil,Eo]at ku;have:ql=(ls al g).length:=by omega
  subst this;exact⟨_,_,.sub (mw _ _) .refl,.inl g5⟩
 have a1:i<os.n:=by have:(i:Int)<(os.n:Int):=dB h;omega
 have cq:i<L.length:=by omega
 have Ot:∀ b o,I b=some o->J b=some o:=λb o h=>bl _ _ (Gi _ _ h);have tp:=aB.mono Ot;obtain⟨aU,bK,at1⟩:=aY.ok.row (I:=J) (M:=os.ar 60++M1) fS.cT (by decide) bU (e:=60) (λx ad=>iD _ ad) cq;have CW:=(cc _ (bi cq)).mono bl;have FY:(L.map fS.qs).drop i=L[i].qs::(L.map fS.qs).drop (i+1):=by rw[e1 (by rw[bE];exact cq),fr]
 have fo:L[i].qs∈k0 0 g.ds:=by rw[<-oL];exact y3 (bi cq)
 rw[FY]at ku;generalize L[i]=x at *;obtain⟨u,path,xa,xc⟩:=x;obtain⟨hu,S,cB⟩:=afn fo;simp only[fS.qs]at hu cB ku fo;have Cv:dh J xa path.length xc 1 8 (oc path):=CW.a2;refine bf.mk aU i bK rfl a1 ?_;refine aR.mk [.int .i64 (u:Int),.slice xa path.length xc] at1 ?_;have dN:=atU (M0:=[]) tp.av hu (l3 hw.m (bi hu)) Cv cB;refine c4.KX a7 rfl rfl rfl (ι:=Nat×cD×Bool×aM×ap) (λz=>{ bj:=[(0,.val (.func (.yield y) #[] #[])),(1,.val (ptr b1)),(3,.val uv),(5,.ref 5 0),(6,.val (ptr z.1)),(7,.val (.bool z.2.2.1)),(11,.val os.val),(12,.val (.int .i64 os.n)),(13,.val (.int .i64 (i:Int)))],cl:=[(5,[.int .i64 (u:Int),.slice xa path.length xc])],cI:=z.2.2.2.1,de:=⟨z.1,.cells #[.slice z.2.1.a z.2.1.n z.2.1.c] 24 (0,0)⟩::(os.ar 60++M1) }) (λz=>(∀ b o,J b=some o->z.2.2.2.1 b=some o)/\z.2.2.2.2.bare=S.d/\Oo al g u path z.2.2.2.2 z.2.2.2.1 z.2.1 z.2.2.1) ?_ ?_
 ·refine aR.mk _ (bm _ _ Ot) ?_;refine aR.mk _ (bm _ _ Ot) ?_;have Bj:=λ(d:ap) (ak:d.bare=S.d)=>afe tp.ax hw tp.av tp.aC tp.ag hu Cv cB ak (nP.mono (λb o h=>bl _ _ (et _ _ h)));refine⟨?_,?_⟩
  ·refine eR.mk _ dN ?_;rintro v qh N -⟨lY,at2,d,gb,rfl,oq⟩;subst qh;subst N;refine⟨?_,?_⟩
   ·refine bd.mk [] _ _ (.refl _) (Bj d oq) ?_;rintro v mW N h4⟨-,rfl,h,b,rfl,kV⟩;refine b'.mk λb6 Ck Uu=>?_;refine b8.mk [] (os.ar 60++M1) _ _ rfl rfl (bI rfl) rfl ?_;exact⟨(b6,h,b,mW,d),⟨h4,oq,kV⟩,.refl,kh,.cons rfl (.nil)⟩
   ·refine b'.mk λb6 Ck Uu=>?_;refine eR.mk _ (Bj d oq) ?_;rintro v mW N h4⟨-,rfl,h,b,rfl,kV⟩;refine b8.mk [] (os.ar 60++M1) _ _ rfl rfl (bI rfl) rfl ?_;exact⟨(b6,h,b,mW,d),⟨h4,oq,kV⟩,.refl,kh,.cons rfl (.nil)⟩
  ·refine b'.mk λb6 Ck Uu=>?_;refine eR.mk _ dN ?_;rintro v qh N -⟨lY,at2,d,gb,rfl,oq⟩;subst qh;subst N;refine eR.mk _ (Bj d oq) ?_;rintro v mW N h4⟨-,rfl,h,b,rfl,kV⟩;refine b8.mk [] (os.ar 60++M1) _ _ rfl rfl (bI rfl) rfl ?_;exact⟨(b6,h,b,mW,d),⟨h4,oq,kV⟩,.refl,kh,.cons rfl (.nil)⟩
 rintro⟨b6,h,b,mW,d⟩⟨h4,oq,kV⟩;simp only at h4 oq kV;have Bk:=afp hu cB oq kV;have at3:∀ b o,I b=some o->mW b=some o:=λb o h=>h4 _ _ (Ot _ _ h);have Gh:=cL (i:=i) (by omega);refine a3.mk (λag=>?_) (λag=>?_)
 ·have DK:b=false:=by have:(!b)=true:=ag;simpa using this
  rw[o0,Bk,DK]at ku;refine bg.mk _ Gh ?_;exact⟨(i+1,ql,mW,M1),⟨⟨a1,λb o h=>h4 _ _ (bl _ _ h),x5 _ _ _ _ h4 g5,Fz,ku⟩,by simp only;omega⟩,.sub (Em _ _) .refl,oX,.nil⟩
 have Bi:b=true:=by have:(!b)=false:=ag;simpa using this
 rw[o0,Bk,Bi,bN rfl]at ku;have Cw:ql<(ls al g).length:=by have:=congrArg List.length ku;rw[tD,c2]at this;omega
 have e7:(ls al g)[ql]?=some (u,path):=by
  have aa:((ls al g).drop ql)[0]?=some (u,path):=by rw[ku];rfl
  rwa [od,qt]at aa
 refine bB.yield rfl (by simp) rfl rfl ?_;have aH:=qQ ql Cw [afq (u,path) xa xc] mW M1 at3 ⟨(u,path),xa,xc,e7,rfl,Cv.mono h4⟩ (x5 _ _ _ _ h4 g5);refine zD.mk M1 (⟨b6,.cells #[.slice h.a h.n h.c] 24 (0,0)⟩::os.ar 60) _ (by
  show(_::(os.ar 60++M1)).Perm (M1++(_::os.ar 60));exact eI (l₁:=_::os.ar 60) (l₂:=M1)) aH ?_
 rintro w at4 pT at5 (⟨rfl,M5⟩ | ⟨rfl,ad⟩)
 ·refine a3.mk (λh=>by simp at h) (λ_=>?_);refine bg.mk _ Gh ?_;refine⟨(i+1,ql+1,at4,pT),⟨⟨a1,λb o h=>at5 _ _ (h4 _ _ (bl _ _ h)),M5,Cw,?_⟩,by simp only;omega⟩,.perm eI (.sub (Em _ _) .refl),oX,.nil⟩;simp only;rw[<-G1,ku];rfl
 ·refine a3.mk (λ_=>?_) (λh=>by simp at h);exact⟨_,_,.sub (ua _ _) .refl,.inr ad⟩
def fS.step(x:fS):List Value:=[.int .u8 1,.int .u8 1,.int .i64 x.rule,.slice x.a x.path.length x.c,.int .i64 0]
def fS.Kb(x:fS):x.step.length=5:=rfl
def v0(al:List Int)(g:cD)(r:Int×Int):List (Nat×List Int):=if r.2=0 then ls al g else []
structure v3(al:List Int)(I:aM)(g:cD):Prop where
 ax:fW I al
 av:g.ok I
 aC:∀ d∈g.ds,d.t.n<=549755813888
 ag:g.n<=1000000
 xn:(g.ds.map λd=>d.t.ns.length).sum<=1048576
 ae:∀ d∈g.ds,vB d.t
def v3.mono(h:v3 al I g)(bz:∀ b o,I b=some o->I' b=some o):v3 al I' g:=⟨h.ax.mono bz,h.av.mono bz,h.aC,h.ag,h.xn,h.ae⟩
def v3.with(h:v3 al I g)(hw:tm al g F):Ka al I g F:=⟨h.ax,hw,h.av,h.aC,h.ag,h.xn⟩
def at6(af:∀ d∈g.ds,right d.t=true)(ax:(g.ds.map λd=>d.t.ns.length).sum<=1048576):(ls al g).length<=1048576:=by have aa:=Om g.ds 0 af;have ab:=BQ (oN al g) (k0 0 g.ds);unfold ls;omega
def aft(aB:v3 al I g):Spec Tryz.prog 28 [g.val] I [] λv I' M'=>(∀ b o,I b=some o->I' b=some o) /\
  ∃ (os:aY) (L:List fS) (r:Int×Int),mm al g r/\v=os.val/\os.ok 5 (L.flatMap fS.step)/\(∀ x∈L,x.ok I')/\M'=os.ar 57/\L.map fS.qs=v0 al g r:=by
 refine cg [3] a7 Tryz.func28 rfl rfl rfl ?_;intro B az;refine bd.mk [] [] _ (.refl _) (Jp aB.ax aB.av aB.ae) ?_;rintro v J N -⟨bl,rfl,r,rfl,af⟩;refine a3.mk (λh=>?_) (λh=>?_)
 ·have hm:r.2≠0:=by have:(!decide (r.2=0))=true:=h;simpa using this
  refine⟨_,_,.refl,bl,ib,[],r,af,rfl,lM 5,(λx ad=>by cases ad),rfl,?_⟩;unfold v0;rw[bS hm];rfl
 have hm:r.2=0:=by have:(!decide (r.2=0))=false:=h;simpa using this
 obtain⟨F,hw⟩:=af.F6 aB.av.n hm;have tp:=aB.mono bl;have fc:=at6 (al:=al) (g:=g) (λd ak=>l3 hw.m ak) aB.xn;refine b'.mk λcw r6 Oh=>?_;refine bd.mk [] [_] _ (.refl _) (afr g) ?_;rintro v dp N dW⟨b1,rfl,hb,-,rfl⟩;have lU:=tp.mono dW;refine c4.Hf (A:=tI) tI.cons a7 rfl rfl rfl (I1:=dp) (M1:=[⟨cw,.cells #[ib.val] 51 (0,0)⟩]) .refl (afs (lU.with hw) hb) (λk vs I h aN=>by
   obtain⟨x,a,c,-,rfl,-⟩:=aN;rfl) (λj I' M'=>∃ (fR:aY) (hZ:List fS),M'=⟨cw,.cells #[fR.val] 51 (0,0)⟩::fR.ar 57/\fR.ok 5 (hZ.flatMap fS.step)/\(∀ y∈hZ,y.ok I')/\hZ.map fS.qs=(ls al g).take j) (λex I M=>False)
  (λk I I' M h ⟨fR,hZ,aa,ab,aj,aG⟩=>⟨fR,hZ,aa,ab,λy aH=>(aj y aH).mono h,aG⟩) ⟨ib,[],rfl,lM 5,(λy aH=>by cases aH),rfl⟩ ?_ ?_ (λex I' M' _ h=>h.elim)
 ·rintro j ai vs I' M' jh⟨x,a,c,ad,rfl,ei⟩⟨fR,hZ,rfl,rk,oa,uE⟩l B az iG;have bx:=congrArg List.length uE;rw[bE,hT]at bx;have bZ:=rk.len;rw[jm _ 5 fS.Kb]at bZ;obtain⟨xD,Ou⟩:=x;refine aR.mk [fR.val] (c5 (cs:=[fR.val]) (k:=0) (n:=1) (T:=51) (.head _) (by simp)) ?_;refine b'.mk λb9 lf xr=>?_;refine bB.pw a7 rfl (by simp) (e:=57) rfl rfl rfl fR rk rfl (cs:=(⟨xD,Ou,a,c⟩:fS).step) rfl rfl rfl [_] [] (by rw[ed];rfl) (by omega) (by show(fR.n+1)*48<=_;omega) ?_;intro xv aa ab aj;refine b8.mk [] (xv.ar 57++[]) #[fR.val] 51 rfl rfl (bI rfl) rfl ?_;refine⟨_,_,.pu (by rw[ed];rfl),xv,hZ++[⟨xD,Ou,a,c⟩],rfl,?_,?_,?_⟩
  ·rw[hn,p7];exact aj
  ·intro y aH;rcases cF.1 aH with aH | aH
   ·exact oa y aH
   ·rw[ec.1 aH];exact⟨ei⟩
  ·obtain⟨tM,AN⟩:=ij.1 ad;rw[cP,uE,gy tM,AN];rfl
 ·rintro I' M' jh⟨fR,hZ,rfl,rk,oa,uE⟩;refine aR.mk [fR.val] (c5 (cs:=[fR.val]) (k:=0) (n:=1) (T:=51) (.head _) (by simp)) ?_;refine⟨_,_,.sub (Em _ _) .refl,λb o h=>jh _ _ (dW _ _ (bl _ _ h)),fR,hZ,r,af,rfl,rk,oa,rfl,?_⟩;rw[uE,fN (b2 _)];unfold v0;rw[bN hm]
def fS.at7(x:fS):Value:=.agg x.step.toArray
def aua(aB:v3 al I g):Spec Tryz.prog 42 [g.val] I [] λv I' M'=>(∀ b o,I b=some o->I' b=some o)/\M'=[] /\
  ∃ (r:Int×Int),mm al g r/\((v0 al g r=[]/\v=.tuple #[.agg #[.int .u8 0,.int .u8 0,.int .i64 0,.slice none 0 0,.int .i64 0],.bool false])\/∃ x:fS,x.ok I'/\(v0 al g r)[0]?=some x.qs/\v=.tuple #[x.at7,.bool true]):=by
 refine cg [2,3] a7 Tryz.func42 rfl rfl rfl ?_;intro B az;refine b'.mk λbT gS Ta=>?_;refine b'.mk λcw r6 Oh=>?_;refine bd.mk [] _ _ (.refl _) (Jp aB.ax aB.av aB.ae) ?_;rintro v J N -⟨bl,rfl,r,rfl,af⟩;have bb:∀ (vs:List Value),vs.length=5->ck [.int .u8 0,.int .u8 0,.int .i64 0,.slice none 0 0,.int .i64 0] 0 vs=vs:=λvs h=>by unfold ck;simp[h]
 refine a3.mk (λh=>?_) (λh=>?_)
 ·have hm:r.2≠0:=by have:(!decide (r.2=0))=true:=h;simpa using this
  refine b8.mk [⟨cw,_⟩] [] _ _ rfl rfl (bI rfl) rfl ?_;refine b8.mk [] [_] _ _ rfl rfl (bI rfl) rfl ?_;refine aR.mk [.int .u8 0,.int .u8 0,.int .i64 0,.slice none 0 0,.int .i64 0] ⟨rfl,_,_,_,.inr ⟨_,.tail _ (.head _),rfl,rfl⟩,rfl,rfl⟩ ?_;refine aR.mk [.bool false] ⟨rfl,_,_,_,.inr ⟨_,.head _,rfl,rfl⟩,rfl,rfl⟩ ?_;refine⟨_,_,.sub (fk _) .refl,bl,rfl,r,af,.inl ⟨?_,rfl⟩⟩;unfold v0;rw[bS hm]
 have hm:r.2=0:=by have:(!decide (r.2=0))=false:=h;simpa using this
 obtain⟨F,hw⟩:=af.F6 aB.av.n hm;have tp:=aB.mono bl;refine bd.mk [] _ _ (.refl _) (afr g) ?_;rintro v dp N dW⟨b1,rfl,hb,-,rfl⟩;have lU:=tp.mono dW;have afu:v0 al g r=ls al g:=bN hm;refine c4.Hf (A:=tI) tI.cons a7 rfl rfl rfl (I1:=dp) .refl (afs (lU.with hw) hb) (λk vs I h aN=>by
   obtain⟨x,a,c,-,rfl,-⟩:=aN;rfl) (λj I' M'=>(0<j->False)/\M'=[⟨cw,.cells #[.bool false] 4 (0,0)⟩,⟨bT,.cells #[.int .u8 0,.int .u8 0,.int .i64 0,.slice none 0 0,.int .i64 0] 57 (0,0)⟩]) (λex I M=>ex=.ret/\∃ x:fS,x.ok I/\(ls al g)[0]?=some x.qs/\M=[⟨cw,.cells #[.bool true] 4 (0,0)⟩,⟨bT,.cells x.step.toArray 57 (0,0)⟩])
  (λk I I' M h a'=>a') ⟨λh=>absurd h (Nat.lt_irrefl _),rfl⟩ ?_ ?_ ?_
 ·rintro j ai vs I' M' jh⟨x,a,c,ad,rfl,ei⟩⟨Sf,rfl⟩l B az iG;obtain rfl:j=0:=Nat.eq_zero_of_not_pos Sf;obtain⟨xD,Ou⟩:=x;refine b8.mk [⟨cw,.cells #[.bool false] 4 (0,0)⟩] [] #[.int .u8 0,.int .u8 0,.int .i64 0,.slice none 0 0,.int .i64 0] _ rfl rfl (bI rfl) rfl ?_;refine b8.mk [] [_] #[.bool false] _ rfl rfl (bI rfl) rfl ?_;exact⟨_,_,.refl,rfl,⟨xD,Ou,a,c⟩,⟨ei⟩,ad,rfl⟩
 ·rintro I' M' jh⟨aC,rfl⟩;have nV:ls al g=[]:=iq (Nat.eq_zero_of_not_pos aC);refine b8.mk [⟨cw,.cells #[.bool false] 4 (0,0)⟩] [] #[.int .u8 0,.int .u8 0,.int .i64 0,.slice none 0 0,.int .i64 0] _ rfl rfl (bI rfl) rfl ?_;refine b8.mk [] [_] #[.bool false] _ rfl rfl (bI rfl) rfl ?_;refine aR.mk [.int .u8 0,.int .u8 0,.int .i64 0,.slice none 0 0,.int .i64 0] ⟨rfl,_,_,_,.inr ⟨_,.tail _ (.head _),rfl,rfl⟩,rfl,rfl⟩ ?_;refine aR.mk [.bool false] ⟨rfl,_,_,_,.inr ⟨_,.head _,rfl,rfl⟩,rfl,rfl⟩ ?_;exact⟨_,_,.sub (fk _) .refl,λb o h=>jh _ _ (dW _ _ (bl _ _ h)),rfl,r,af,.inl ⟨by rw[afu,nV],rfl⟩⟩
 ·rintro ex I' M' jh⟨rfl,x,CW,ad,rfl⟩;refine⟨by simp,?_⟩;refine aR.mk x.step ⟨rfl,_,_,_,.inr ⟨_,.tail _ (.head _),rfl,rfl⟩,rfl,rfl⟩ ?_;refine aR.mk [.bool true] ⟨rfl,_,_,_,.inr ⟨_,.head _,rfl,rfl⟩,rfl,rfl⟩ ?_;exact⟨_,_,.sub (fk _) .refl,λb o h=>jh _ _ (dW _ _ (bl _ _ h)),rfl,r,af,.inr ⟨x,CW,by rw[afu];exact ad,rfl⟩⟩
def zg:cD:=⟨[],none,0,0⟩
structure Bl(al:List Int)(g:cD)(pass way:Int)(rule:Int)(path:List Int)(dX:Int)(I':aM)(h:cD)(e:Int):Prop where
 bad:∀ r,mm al g r->r.2≠0->e=r.2/\h=zg
 no:∀ r,mm al g r->r.2=0->¬ (pass=1/\way=1/\dX=0/\0<=rule/\rule<(g.ds.length:Int)/\oN al g (rule.toNat,path)=true)->e=47/\h=zg
 afv:∀ r,mm al g r->r.2=0->(pass=1/\way=1/\dX=0/\0<=rule/\rule<(g.ds.length:Int)/\oN al g (rule.toNat,path)=true)->e=0/\h.ok I'/\h.n=g.n/\∃ X bo,mX al g rule.toNat path=some X/\oJ bo X/\bo.ns.length=bo.n/\h.ds.map aP.a0=(eN g.ds rule.toNat bo).map aP.a0/\dj al h=0/\∃ r,mm al h r/\r.2=0
def Bl.Kc(af:mm al g r)(az:r.2=0)(aC:¬ (pass=1/\way=1/\dX=0/\0<=rule/\rule<(g.ds.length:Int)/\oN al g (rule.toNat,path)=true)):Bl al g pass way rule path dX I' zg 47:=
 ⟨λrC e6 bs=>by rw[e6.eq af]at bs;exact absurd az bs,λ_ _ _ _=>⟨rfl,rfl⟩,λ_ _ _ aH=>absurd aH aC⟩
def afw(aB:v3 al I g)(lW:dh I pa pn jC 1 8 (oc path)) :
  Spec Tryz.prog 29 [g.val,.agg #[.int .u8 pass,.int .u8 way,.int .i64 rule,.slice pa pn jC,.int .i64 dX]] I [] λv I' M'=>(∀ b o,I b=some o->I' b=some o)/\M'=[]/\∃ (h:cD) (e:Int),v=.tuple #[h.val,.int .i64 e]/\Bl al g pass way rule path dX I' h e:=by
 refine cg [] a7 Tryz.func29 rfl rfl rfl ?_;intro B az;have fl:=aB.av.n;refine bd.mk [] [] _ (.refl _) (Jp aB.ax aB.av aB.ae) ?_;rintro v J N -⟨bl,rfl,r,rfl,af⟩;refine a3.mk (λh=>?_) (λh=>?_)
 ·have hm:r.2≠0:=by have:(!decide (r.2=0))=true:=h;simpa using this
  exact⟨_,_,.refl,bl,rfl,zg,r.2,rfl,λrC e6 _=>by rw[e6.eq af];exact⟨rfl,rfl⟩,λrC e6 az=>by rw[e6.eq af]at az;exact absurd az hm,λrC e6 az=>by rw[e6.eq af]at az;exact absurd az hm⟩
 have hm:r.2=0:=by have:(!decide (r.2=0))=false:=h;simpa using this
 obtain⟨F,hw⟩:=af.F6 fl hm;have tp:=aB.mono bl;have afx:=lW.mono bl;by_cases aa:pass=1
 rotate_left
 ·refine cj.mk (λh=>absurd h (by simp[aa])) (λ_=>?_);exact⟨_,_,.refl,bl,rfl,zg,47,rfl,Bl.Kc af hm λh=>aa h.1⟩
 refine cj.mk (λ_=>?_) (λh=>absurd h (by simp[aa]));by_cases ab:way=1
 rotate_left
 ·refine cj.mk (λh=>absurd h (by simp[ab])) (λ_=>?_);exact⟨_,_,.refl,bl,rfl,zg,47,rfl,Bl.Kc af hm λh=>ab h.2.1⟩
 refine cj.mk (λ_=>?_) (λh=>absurd h (by simp[ab]));by_cases aj:dX=0
 rotate_left
 ·refine a3.mk (λ_=>?_) (λh=>absurd h (by simp[aj]));exact⟨_,_,.refl,bl,rfl,zg,47,rfl,Bl.Kc af hm λh=>aj h.2.2.1⟩
 refine a3.mk (λh=>absurd h (by simp[aj])) (λ_=>?_);refine bd.mk [] [] _ (.refl _) (as3 (M0:=[]) tp.ax.c tp.av (afd hw.m aB.aC) afx) ?_;rintro v dp N dW vE;obtain⟨xa,Gg,xc,xD,b,rfl,pX⟩:=vE.shape;obtain⟨-,rfl,vE⟩:=vE;have xV:∀ b o,I b=some o->dp b=some o:=λb o h=>dW _ _ (bl _ _ h);cases eK:sy g rule path with
 |none=>rw[eK]at pX;have DK:b=false:=pX;refine a3.mk (λ_=>?_) (λh=>absurd h (by rw[DK];simp));refine⟨_,_,.refl,xV,rfl,zg,47,rfl,Bl.Kc af hm λh=>?_⟩;have bZ:=h.2.2.2.2.2;unfold sy at eK;rw[bN ⟨h.2.2.2.1,h.2.2.2.2.1⟩]at eK;unfold oN mX at bZ;simp only[eK]at bZ;cases bZ| some S=>
 rw[eK]at pX vE;have Bi:b=true:=pX;refine a3.mk (λh=>absurd h (by rw[Bi];simp)) (λ_=>?_);obtain⟨x,I0,ad,dK,bw,Bg⟩:=vE;have afy:0<=rule/\rule<(g.ds.length:Int):=by
  unfold sy at eK;split at eK;·assumption
  ·cases eK
 obtain⟨u,rfl⟩:=ea afy.1;have hu:u<g.ds.length:=by omega
 have tn:g.ds.getD u gd=g.ds[u]:=by simp[bt,hu]
 have cB:(bV g.ds[u].t).go path=some S:=by unfold sy at eK;rw[bN afy,gz,tn]at eK;exact eK
 have aub:Value.agg #[.slice xa Gg xc,.int .i64 xD]=x.val:=by
  injection I0 with e
  simp at e;exact e.1
 obtain⟨Gq,afz,afA,afB,afC⟩:=x;have auc:xa=afz/\Gg=afA/\xc=afB/\xD=afC:=by
  have e:Value.agg #[.slice xa Gg xc,.int .i64 xD]=.agg #[.slice afz afA afB,.int .i64 afC]:=aub;injection e with e
  simp at e;exact⟨e.1.1,e.1.2.1,e.1.2.2,e.2⟩
 obtain⟨rfl,rfl,rfl,rfl⟩:=auc;have mT:=dK.right bw;obtain⟨kw,hO⟩:=qP mT;obtain⟨Ov,fE⟩:=ea kw;have fC:Ov<Gq.length:=by simp only at hO fE;omega
 have lU:=tp.mono dW;have to:=apB (M0:=[]) lU.ax ad mT fE fC;have oq:(Gq[Ov].eQ []).bare=S.d:=by
  have ek:=dK.bV bw Bg;have fv:bV ⟨Gq,xa,Gg,xc,xD⟩=gE Gq (Ov:Int):=by unfold bV;simp only at fE;rw[fE]
  rw[fv,zb (t:=⟨Gq,xa,Gg,xc,xD⟩) mT fC]at ek;rw[<-ek];rfl
 generalize fu:Gq[Ov].eQ []=d at to oq;have Vc:=aeV lU.ax hw lU.av (by have:=aB.ag;omega) λd ak=>by have:=aB.aC d ak;omega
 have Bj:=fun {K:aM} (eG:∀ b o,dp b=some o->K b=some o) {uv:Value} (nP:Gd al K g uv)=>afe ((lU.mono eG).ax) hw ((lU.mono eG).av) aB.aC aB.ag hu ((afx.mono dW).mono eG) cB oq nP;refine c4.KX a7 rfl rfl rfl (ι:=Nat×cD×Bool×aM) (λz=>{ bj:=[(4,.ref 4 0),(5,.val (.int .i64 0)),(9,.val (.bool z.2.2.1)),(10,.val (ptr z.1))],cl:=[(4,[.slice none 0 0])],cI:=z.2.2.2,de:=[⟨z.1,.cells #[.slice z.2.1.a z.2.1.n z.2.1.c] 24 (0,0)⟩] }) (λz=>(∀ b o,dp b=some o->z.2.2.2 b=some o)/\Oo al g u path d z.2.2.2 z.2.1 z.2.2.1) ?_ ?_
 ·refine⟨?_,?_⟩
  ·refine eR.mk _ to ?_;rintro v l0 N -⟨rfl,x4,afD⟩;subst l0;subst N;refine⟨?_,?_⟩
   ·refine eR.mk _ Vc ?_;rintro uv qh N lY⟨-,rfl,nP⟩;refine⟨?_,?_⟩
    ·refine bd.mk [] _ _ (.refl _) (Bj lY nP) ?_;rintro v mW N h4⟨-,rfl,h,b,rfl,kV⟩;refine b'.mk λBm Vd Ve=>?_;refine b8.mk [] [] _ _ rfl rfl (bI rfl) rfl ?_;exact⟨(Bm,h,b,mW),⟨λb o h=>h4 _ _ (lY _ _ h),kV⟩,.refl,ej,.cons rfl (.nil)⟩
    ·refine b'.mk λBm Vd Ve=>?_;refine eR.mk _ (Bj lY nP) ?_;rintro v mW N h4⟨-,rfl,h,b,rfl,kV⟩;refine b8.mk [] [] _ _ rfl rfl (bI rfl) rfl ?_;exact⟨(Bm,h,b,mW),⟨λb o h=>h4 _ _ (lY _ _ h),kV⟩,.refl,ej,.cons rfl (.nil)⟩
   ·refine b'.mk λBm Vd Ve=>?_;refine eR.mk _ Vc ?_;rintro uv qh N lY⟨-,rfl,nP⟩;refine eR.mk _ (Bj lY nP) ?_;rintro v mW N h4⟨-,rfl,h,b,rfl,kV⟩;refine b8.mk [] [] _ _ rfl rfl (bI rfl) rfl ?_;exact⟨(Bm,h,b,mW),⟨λb o h=>h4 _ _ (lY _ _ h),kV⟩,.refl,ej,.cons rfl (.nil)⟩
  ·refine b'.mk λBm Vd Ve=>?_;refine eR.mk _ to ?_;rintro v l0 N -⟨rfl,x4,afD⟩;subst l0;subst N;refine eR.mk _ Vc ?_;rintro uv qh N lY⟨-,rfl,nP⟩;refine eR.mk _ (Bj lY nP) ?_;rintro v mW N h4⟨-,rfl,h,b,rfl,kV⟩;refine b8.mk [] [] _ _ rfl rfl (bI rfl) rfl ?_;exact⟨(Bm,h,b,mW),⟨λb o h=>h4 _ _ (lY _ _ h),kV⟩,.refl,ej,.cons rfl (.nil)⟩
 rintro⟨Bm,h,b,mW⟩⟨h4,kV⟩;simp only at h4 kV;have Bk:=afp hu cB oq kV;have afE:∀ b o,I b=some o->mW b=some o:=λb o h=>h4 _ _ (xV _ _ h);have Ow:((u:Nat):Int).toNat=u:=gz u;refine a3.mk (λag=>?_) (λag=>?_)
 ·have DK:b=false:=by have:(!b)=true:=ag;simpa using this
  refine⟨_,_,.sub (fk _) .refl,afE,rfl,zg,47,rfl,Bl.Kc af hm λh=>?_⟩;have bZ:=h.2.2.2.2.2;rw[Ow,Bk,DK]at bZ;cases bZ
 ·have Bi:b=true:=by have:(!b)=false:=ag;simpa using this
  refine aR.mk [.slice h.a h.n h.c] ⟨rfl,_,_,_,.inr ⟨_,.head _,rfl,rfl⟩,rfl,rfl⟩ ?_;refine⟨_,_,.sub (fk _) .refl,afE,rfl,h,0,rfl,?_⟩;obtain⟨en,cE,X,bo,gD,mH,Jh,TL,TM,TN⟩:=kV.ok Bi;refine⟨λrC e6 bs=>by rw[e6.eq af]at bs;exact absurd hm bs,λ_ _ _ aC=>absurd ⟨aa,ab,aj,by omega,by omega,by rw[Ow,Bk];exact Bi⟩ aC,λ_ _ _ _=>⟨rfl,en,cE,X,bo,?_,mH,Jh,?_,TM,TN⟩⟩;·rw[Ow];unfold mX;rw[tn,cB];show qq al g u path S.d=_;rw[<-afo oq];exact gD
  ·rw[Ow];exact TL
end Go.V
