/- Part 9 of what the proofs of this seat share: the executor, data in memory, walks.
-/
import Derived.Test.YtmncamccjfmbpaaGreatDoorK8
import Derived.Test.YtmncamccjfmbpaaGreatDoorK7
import Derived.Test.YtmncamccjfmbpaaGreatDoorK5
import Derived.Test.YtmncamccjfmbpaaGreatDoorK2
import Derived.Test.YtmncamccjfmbpaaGreatDoorK4
import Derived.Lib.SliceRun
import Derived.Test.YtmncamccjfmbpaaGreatDoorK6
set_option linter.all false
set_option maxHeartbeats 16000000
set_option maxRecDepth 100000
namespace Go.V
open Go Go.Proofs
def Jv:=@Bool.and_false
def adG:=@Int.tdiv_eq_ediv_of_nonneg
variable{n pn jq u m b9 c' c size b j b1 cY bK:Nat}{p ax path:List Int}{s:List Bool}{g h:cv}{I J I':aJ}{t bq:bS}{T S:aK}{pa a:Option Addr}{x:Operand}{c7 aF:dG}{xs b8 cs:List Value}{Mr M M0:List aD}{os:aY}{ns dO:List ao}{r:Int×Int}{v:Value}{X:aQ}{rule pass way dU:Int}{F:List aW}{o:Obj}{aS:Addr}
def pf(R:List (List Bool))(i k:Nat):Bool:=m9 R i k&&m9 R k i
def AS{R:List (List Bool)}{i k:Nat}:pf R i k=true ↔ kC R i k:=by unfold pf kC;rw[cz]
def Dc(R:List (List Bool))(n i:Nat):Bool:=(List.range n).all λk=>!pf R i k||decide (i<=k)
def T3(R:List (List Bool))(n:Nat):List (List Int):=((List.range n).filter (Dc R n)).map λi=>AE (pf R i) n
def T4(R:List (List Bool))(i:Nat):∀ (f k:Nat) (p:List Bool) (q:List Int),(kb R i f k p q).2=q++((List.range' k f).filter (pf R i)).map λ(a:Nat)=>(a:Int)
 |0,k,p,q=>by simp[kb]
 |f+1,k,p,q=>by
  unfold kb;rw[F8,pu];cases h:m9 R i k&&m9 R k i with
  |true=>have bc:pf R i k=true:=h;rw[b5,T4 R i f,bc];simp| false=>have bc:pf R i k=false:=h;rw[b',T4 R i f,bc];simp
def T5{R:List (List Bool)}{n:Nat}(aV:Xn R n):∀ (f i:Nat) (p:List Bool) (ps:List (List Int)),i+f=n->p.length=n->(∀ a,a<n->(h7 p a ↔ ∃ j,j<i/\kC R j a)) -> wm R n f i p ps=ps++((List.range' i f).filter (Dc R n)).map λi=>AE (pf R i) n
 |0,i,p,ps,_,_,_=>by simp[wm]
 |f+1,i,p,ps,hi,aC,jz=>by
  unfold wm;rw[F8,pu];cases ag:p.getD i false with
  |true=>
   obtain⟨adH,a8,ba⟩:=(jz i (by omega)).1 ag;have km:Dc R n i=false:=by rw[Mx];intro h;unfold Dc at h;rw[fy]at h;have:=h adH (g7.2 (by omega));rw[AS.2 ba.symm]at this;simp at this;omega
   rw[b5,km];refine T5 aV f (i+1) p ps (by omega) aC λa a4=>?_;rw[jz a a4];constructor;·rintro⟨j,aa,ab⟩;exact⟨j,by omega,ab⟩
   ·rintro⟨j,aa,ab⟩;by_cases e:j=i
    ·subst e;exact⟨adH,a8,aV.trans _ _ _ ba ab⟩
    ·exact⟨j,by omega,ab⟩
  |false=>
   have aq8:¬ h7 p i:=by simpa[h7]using ag
   have ea:∀ j,j<i->¬ kC R j i:=λj ai hm=>aq8 ((jz i (by omega)).2 ⟨j,ai,hm⟩);have MG:∀ a,i<=a->a<n->kC R i a->¬ h7 p a:=λa aa ab aj aI=>by obtain⟨j,a8,ba⟩:=(jz a ab).1 aI;exact ea j a8 (aV.trans _ _ _ ba aj.symm)
   obtain⟨dF,eJ,eF⟩:=P3 (n:=n) (n-i) i p [] (by omega) aC MG;have ay:=(P2 R i (n-i) i p []).1;have km:Dc R n i=true:=by
    unfold Dc;rw[fy];intro k ae;by_cases e:i<=k;·simp[e]
    ·have:pf R i k=false:=by rw[Mx];intro h;exact ea k (by omega) (AS.1 h).symm
     simp[this]
   have Km:(kb R i (n-i) i p []).2=AE (pf R i) n:=by
    rw[T4,iz];unfold AE;have af:List.range n=List.range i++List.range' i (n-i):=by rw[xq,xq];have:=List.range'_append (s:=0) (m:=i) (n:=n-i) (step:=1);rw[oD,c8]at this;rw[this];congr 1;omega
    have bb:(List.range i).filter (pf R i)=[]:=by rw[RP];intro k ae h;exact ea k (g7.1 ae) (AS.1 h).symm
    rw[af,yb,bb,iz]
   rw[b',km,Km];simp only[pk,b0];rw[T5 aV f (i+1) _ _ (by omega) (by rw[ay];exact aC) λa a4=>?_];·simp
   ·rw[dF,jz a a4];constructor
    ·rintro(⟨j,aa,ab⟩ | ⟨aa,ab,aj⟩)
     ·exact⟨j,by omega,ab⟩
     ·exact⟨i,by omega,aj⟩
    ·rintro⟨j,aa,ab⟩;by_cases e:j=i
     ·subst e;by_cases a7:j<=a
      ·exact .inr ⟨a7,a4,ab⟩
      ·exact absurd ab.symm (ea a (by omega))
     ·exact .inl ⟨j,by omega,ab⟩
def adI{L:List (List Int)}(cc:∀ l∈L,valid L.length l):mz L=T3 (gK L) L.length:=by
 unfold mz T3;rw[T5 (Xo cc) L.length 0 _ _ (by omega) (by simp) λa a4=>?_]
 ·rw[iz,xq]
 ·constructor
  ·intro h;exfalso;simp[h7,bA,a4]at h
  ·rintro⟨j,h,_⟩;omega
def FK(p:List Int)(s:List Bool):List Bool:=p.foldl (λs i=>s.set i.toNat (decide (1<p.length))) s
def xg(ps:List (List Int))(s:List Bool):List Bool:=ps.foldl (λs p=>FK p s) s
def adJ(b:Bool):∀ (p:List Int) (s:List Bool),(p.foldl (λs i=>s.set i.toNat b) s).length=s.length
 |[],s=>rfl| i::p,s=>by rw[js,adJ b p,n5]
def adK(b:Bool):∀ (p:List Int) (s:List Bool) (i:Nat),i<s.length->(∀ x∈p,0<=x)->(p.foldl (λs i=>s.set i.toNat b) s).getD i false=if(i:Int)∈p then b else s.getD i false
 |[],s,i,_,_=>by simp
 |x::p,s,i,hi,az=>by
  rw[js,adK b p _ i (by rw[n5];exact hi) λy aE=>az y (.tail _ aE)];have ad:=az x (.head _);by_cases aC:(i:Int)∈p;·rw[bN aC,bN (.tail _ aC)]
  ·rw[bR aC];by_cases e:(i:Int)=x
   ·rw[bN (by rw[e];exact .head _)];have:x.toNat=i:=by omega
    rw[this];simp[bA,hi]
   ·rw[bR (λh=>(ec.1 h).elim e aC)];have:x.toNat≠i:=by omega
    simp[bA,List.getElem?_set_ne this]
def adL{v:Nat->Bool}:∀ (ps:List (List Int)) (s:List Bool) (i:Nat),i<s.length->(∀ p∈ps,∀ x∈p,0<=x)->(∀ p∈ps,(i:Int)∈p->decide (1<p.length)=v i)->(∃ p∈ps,(i:Int)∈p)\/s.getD i false=v i->(xg ps s).getD i false=v i
 |[],s,i,_,_,_,h=>h.elim (λ⟨_,h,_⟩=>by cases h) id
 |p::ps,s,i,hi,az,ah,h=>by
  show(xg ps (FK p s)).getD i false=_;have fc:=adK (decide (1<p.length)) p s i hi (az p (.head _));refine adL ps _ i (by rw[FK,adJ];exact hi) (λq aR=>az q (.tail _ aR)) (λq aR=>ah q (.tail _ aR)) ?_;by_cases aC:(i:Int)∈p;·refine .inr ?_;unfold FK;rw[fc,bN aC,ah p (.head _) aC]
  ·rcases h with⟨q,aR,nA⟩ | h
   ·rcases ec.1 aR with rfl | aR
    ·exact absurd nA aC
    ·exact .inl ⟨q,aR,nA⟩
   ·refine .inr ?_;unfold FK;rw[fc,bR aC,h]
def aq9{p:Nat->Bool}{i:Nat}(hi:i<n)(aC:p i=true):1<((List.range n).filter p).length ↔ ∃ j,j<n/\j≠i/\p j=true:=by
 have hm:i∈(List.range n).filter p:=ja.2 ⟨g7.2 hi,aC⟩;have bF:((List.range n).filter p).Nodup:=xJ.filter _;constructor
 ·intro h;generalize ay:(List.range n).filter p=l at h hm bF;have eX:∀ x∈l,x<n/\p x=true:=λx ad=>by rw[<-ay,ja,g7]at ad;exact ad
  match l,h,hm,bF,eX with
  |a::b::l,_,hm,bF,eX=>
   have kz:a≠b:=λe=>by rw[lL]at bF;exact bF.1 (by rw[e];exact .head _)
   by_cases e:a=i;·exact⟨b,(eX b (.tail _ (.head _))).1,λa7=>kz (by rw[e,a7]),(eX b (.tail _ (.head _))).2⟩
   ·exact⟨a,(eX a (.head _)).1,e,(eX a (.head _)).2⟩
 ·rintro⟨j,ai,bt,qf⟩;have mi:j∈(List.range n).filter p:=ja.2 ⟨g7.2 ai,qf⟩;generalize(List.range n).filter p=l at hm mi
  match l,hm,mi with
  |[a],hm,mi=>rw[ed]at hm mi;exact absurd (mi.trans hm.symm) bt| a::b::l,_,_=>simp
open Classical in
def ara{P:Nat->Prop}:∀ n,P n->∃ q,q<=n/\P q/\∀ k,k<q->¬ P k:=by
 intro n
 induction n using Nat.strongRecOn with
 |_ n aL=>
  intro h;by_cases ad:∃ k,k<n/\P k;·obtain⟨k,ae,aC⟩:=ad;obtain⟨q,aa,ab,aj⟩:=aL k ae aC;exact⟨q,by omega,ab,aj⟩
  ·exact⟨n,ca _,h,λk ae aC=>ad ⟨k,ae,aC⟩⟩
section
variable{L:List (List Int)}(cc:∀ l∈L,valid L.length l)
include cc
open Classical in
theorem arb{i:Nat}(hi:i<L.length)(ar:s.length=L.length):(xg (mz L) s).getD i false=decide (∃ j,j<L.length/\j≠i/\kC (gK L) i j):=by
 have aO:=Xo cc;rw[adI cc];refine adL (v:=λi=>decide (∃ j,j<L.length/\j≠i/\kC (gK L) i j)) _ s i (by omega) (λp aC x ad=>?_) (λp aC arc=>?_) (.inl ?_)
 ·obtain⟨q,-,rfl⟩:=cN.1 aC;obtain⟨k,-,rfl⟩:=cN.1 ad;exact Ew _
 ·obtain⟨q,aR,rfl⟩:=cN.1 aC;obtain⟨k,ae,e⟩:=cN.1 arc;have e:k=i:=by omega
  subst e;rw[ja,g7]at ae;have Hv:=AS.1 ae.2;have aa:=aq9 (p:=pf (gK L) q) ae.1 ae.2;have ab:(AE (pf (gK L) q) L.length).length=((List.range L.length).filter (pf (gK L) q)).length:=by simp[AE]
  have aj:(1<(AE (pf (gK L) q) L.length).length) ↔ ∃ j,j<L.length/\j≠k/\kC (gK L) k j:=by
   rw[ab,aa];constructor;·rintro⟨j,a,b,c⟩;exact⟨j,a,b,aO.trans _ _ _ Hv.symm (AS.1 c)⟩
   ·rintro⟨j,a,b,c⟩;exact⟨j,a,b,AS.2 (aO.trans _ _ _ Hv c)⟩
  by_cases an:1<(AE (pf (gK L) q) L.length).length;·rw[e9 an,e9 (aj.1 an)]
  ·rw[et an,et λh=>an (aj.2 h)]
 ·
  obtain⟨q,Ce,u',IP⟩:∃ q,q<L.length/\kC (gK L) q i/\∀ k,k<q->¬ kC (gK L) k i:=by obtain⟨q,aa,ab,aj⟩:=ara (P:=λq=>kC (gK L) q i) i (aO.refl i hi);exact⟨q,by omega,ab,aj⟩
  refine⟨_,cN.2 ⟨q,ja.2 ⟨g7.2 Ce,?_⟩,rfl⟩,?_⟩
  ·unfold Dc;refine fy.2 λk ae=>?_;by_cases e:q<=k
   ·rw[e9 e,Ex]
   ·have:pf (gK L) q k=false:=by rw[Mx];intro h;exact IP k (by omega) (aO.trans _ _ _ (AS.1 h).symm u')
    rw[this];rfl
  ·exact cN.2 ⟨i,ja.2 ⟨g7.2 hi,AS.2 u'⟩,rfl⟩
theorem ard{i:Nat}(hi:i<L.length):((L.getD i []).any λk=>(qF L k.toNat).getD i false)=true ↔ (i:Int)∈L.getD i []\/∃ j,j<L.length/\j≠i/\kC (gK L) i j:=by
 have T6:L.getD i []=L[i]:=by simp[bA,hi]
 rw[wY,T6];have ah:=cc _ (br hi);constructor
 ·rintro⟨k,ae,aA⟩;have eN:=ah k ae;obtain⟨j,rfl⟩:=eH eN.1;have ai:j<L.length:=by omega
  have an:Comes L j i:=((Hs cc ai).iff i).1 aA;by_cases e:j=i;·subst e;exact .inl ae
  ·exact .inr ⟨j,ai,e,(tM cc hi).2 (.next .self (by rw[T6];exact ae)),(tM cc ai).2 an⟩
 ·rintro(h | ⟨j,ai,bt,Kr,mi⟩)
  ·exact⟨i,h,((Hs cc hi).iff i).2 .self⟩
  ·have gy:=(tM cc hi).1 Kr;have gE:=(tM cc ai).1 mi;have key:∀ {k},Comes L i k->k=i\/∃ a:Nat,(a:Int)∈L[i]/\Comes L a k:=fun {k} h=>by
    induction h with
    |self=>exact .inl rfl
    | @next a k h ae aL=>
     rcases aL with rfl | ⟨b,ag,an⟩;·rw[T6]at ae;exact .inr ⟨k,ae,.self⟩
     ·exact .inr ⟨b,ag,.next an ae⟩
   have gq:∀ {a b c:Nat},Comes L a b->Comes L b c->Comes L a c:=fun {a b c} aa ab=>by
    induction ab with
    |self=>exact aa| next _ ae aL=>exact .next aL ae
   rcases key gy with e | ⟨a,a4,an⟩;·exact absurd e bt
   ·have nM:=ah _ a4;exact⟨(a:Int),a4,((Hs cc (by omega)).iff i).2 (gq an gE)⟩
end
def Dd(d:aP):Bool:=d.t.ns.any λn=>decide (n.k=3)&&decide (n.t=d.name)
def are{ax:List Int}(aB:g.ds.length=g.n){i q:Nat}(hi:i<g.ds.length)(aR:q<g.ds.length):(q:Int)∈(im g).getD i [] ↔ ∃ cd∈g.ds[i].t.ns,cd.k=3/\cu cd.t g.ds 0=(q:Int):=by
 rw[im,bA,jH,dg hi];show(q:Int)∈lx true 0 (oS g.ds g.n (hN g.ds[i].t.ns)) ↔ _;rw[aio];unfold h7;rw[oS,ab2 aB _ _ (by simp) q (by omega)];constructor
 ·rintro(h | ⟨nm,hv,aA⟩)
  ·simp[bA]at h;rw[QB]at h;split at h<;>simp at h
  ·obtain⟨cd,bF,rfl⟩:=cN.1 hv;obtain⟨aa,ab⟩:=ja.1 bF;exact⟨cd,aa,dw ab,aA⟩
 ·rintro⟨cd,bF,aj,aA⟩;exact .inr ⟨cd.t,cN.2 ⟨cd,ja.2 ⟨bF,e9 aj⟩,rfl⟩,aA⟩
open Classical in
def adM(aB:g.ds.length=g.n)(hm:dz ax g=0){i:Nat}(hi:i<g.ds.length)(ar:s.length=g.ds.length):((xg (mz (im g)) s).getD i false||Dd g.ds[i])=oV ax g (i:Int):=by
 have gX:(im g).length=g.ds.length:=by simp[im]
 have cc:=P1 aB;have fw:P6 (i:Int) g.n=true:=by unfold P6;simp;omega
 have aG:oV ax g (i:Int)=((im g).getD i []).any λk=>(qF (im g) k.toNat).getD i false:=by unfold oV;rw[fw,e9 hm];rfl
 have a7:=ard cc (i:=i) (by omega);have arf:=aot aB hm i hi;have cn:Dd g.ds[i]=true ↔ (i:Int)∈(im g).getD i []:=by
  rw[are (ax:=ax) aB hi hi];unfold Dd;rw[wY];constructor;·rintro⟨cd,bF,h⟩;rw[cz]at h;exact⟨cd,bF,dw h.1,by rw[dw h.2];exact arf⟩
  ·rintro⟨cd,bF,aj,aA⟩;obtain⟨j,ai,dr,lq⟩:=IZ g.ds 0 i aA;have:j=i:=by omega
   subst this;exact⟨cd,bF,by rw[e9 aj,e9 lq.symm];rfl⟩
 rw[arb cc (by omega) (by omega),aG,sm,a7,kQ,cn,Mw];exact Or.comm
def ug(x:Nat×Int):List Value:=[.int .i64 x.1,.int .i64 x.2]
structure arh(t:bS)(T:aK)(path:List Int)(x:Nat×aY×List (Nat×Int)×aK):Prop where
 hi:x.1<=path.length
 os:x.2.1.ok 2 (x.2.2.1.flatMap ug)
 len:x.2.2.1.length=x.1
 pe:x.2.2.1++x.2.2.2.pe (path.drop x.1)=T.pe path
 go:x.2.2.2.go (path.drop x.1)=T.go path
 dU:cq t.ns x.2.2.2
 og:x.1+x.2.2.2.bh<=T.bh
def ari(T:aK)(path:List Int)(I:aJ)(v:Value)(I':aJ)(M':List aD):Prop:=I'=I/\∃ (os:aY) (l:List (Nat×Int)) (k:Nat) (b:Bool),v=.tuple #[os.val,.int .i64 k,.bool b]/\M'=os.aq 255/\os.ok 2 (l.flatMap ug) /\
 match T.go path with
 |none=>b=false| some S=>b=true/\k=S.bh/\l=T.pe path/\l.length<=T.bh
def arj(av:t.ok I)(ae:sc t.ns)(bu:cq t.ns T)(tA:t.bn=(T.bh:Int))(aB:t.n<=1099511627776)(aC:de I pa pn jq 1 8 (path.map (.int .i64 ·))) :
  Spec Tryz.prog 133 [t.val,.slice pa pn jq] I [] (ari T path I):=by
 refine cb [] a6 Tryz.func133 rfl rfl rfl ?_;intro B az;have hD:=av.n;have jz:path.length=pn:=by have:=aC.len;simpa using this
 have El:de I pa pn jq 1 8 (path.flatMap kh):=by rw[qY];exact aC
 have ark:=bu.mJ;refine di.inv (ι:=Nat×aY×List (Nat×Int)×aK) (λx=>{ bi:=[(2,.ref 2 0),(7,.val x.2.1.val),(8,.val (.int .i64 x.2.2.2.bh)),(14,.val (.slice pa pn jq)),(15,.val (.int .i64 pn)),(16,.val (.int .i64 x.1))],cl:=[(2,t.cells)],cD:=I,c0:=x.2.1.aq 255 }) (arh t T path) (λx=>path.length-x.1) ?_ ?_
 ·refine⟨(0,h6,[],T),⟨dD _,lv 2,rfl,rfl,rfl,bu,by simp only;omega⟩,.refl,.cons .refl (.cons .refl (.cons ?_ (hl))),.cons rfl (.nil)⟩;simp only;rw[<-tA];exact .refl
 rintro⟨i,os,l,S⟩⟨hi,bT,gX,AT,eA,fc,hk⟩;simp only at hi bT gX AT eA fc hk;have jm:os.n=i:=by have:=bT.len;rw[iQ ug 2 (λ_=>rfl),gX]at this;omega
 have p6:=fc.mJ;refine a2.mk (λh=>?_) (λh=>?_)
 ·have aX:i<path.length:=by have:(i:Int)<(pn:Int):=dw h;omega
  have kf:path.drop i=path[i]::path.drop (i+1):=eV aX;rw[kf]at AT eA;obtain⟨T7,Nn,np⟩:=El.row (f:=kh) (λ_=>rfl) (j:=i) (by omega) aX;obtain⟨ls,lu,hZ⟩:=av.a0.row ao.cP (j:=S.bh) (by omega) p6;have ak:=av.ns _ (br p6);have eR:=fc.w7;rw[gm p6]at eR;generalize t.ns[S.bh]=d at ak hZ eR;have e':=ak.aN;have cA:d.aw.length=S.sub.length:=by rw[eR];simp[eL]
  generalize sv:path[i]=m5 at np AT eA;refine bd.mk T7 i Nn rfl (by omega) ?_;refine aM.mk _ (np _) ?_;refine bd.mk ls S.bh lu rfl (by omega) ?_;refine aM.mk _ ((hZ _).part (k:=8) (m:=1) (by decide)) ?_;refine ct.mk (λaI=>?_) (λaI=>?_)
  ·have arl:0<=m5:=by have:¬ m5<0:=ek aI;omega
   refine a2.mk (λbB=>?_) (λbB=>?_);·have cI:(d.aN:Int)<=m5:=dw bB;refine⟨_,_,.sub (fO _) .refl,rfl,h6,[],0,false,rfl,rfl,lv 2,?_⟩;rw[<-eA,aK.go,bR (by omega)]
   ·have adN:m5<(d.aN:Int):=by have:¬ (d.aN:Int)<=m5:=ek bB;omega
    obtain⟨z,rfl⟩:=eH arl;have bb:z<S.sub.length:=by omega
    have oH:S.sub.getD z S=S.sub[z]:=by simp[bA,bb]
    rw[aK.go,bN (by omega),g6,oH]at eA;rw[aK.pe,g6,oH]at AT;have T8:d.aw[z]'(by omega)=((S.sub[z]).bh:Int):=by
     have:d.aw[z]?=(eL S.sub)[z]?:=by rw[eR]
     rw[dg (by omega)]at this;unfold eL at this;rw[jH,dg bb]at this;exact fh this
    have Nl:(S.sub[z]).bh<S.bh:=by
     cases S with
     |mk k ks=>exact fc.Tz ae (br bb)
    have C7:de I d.dB d.aN d.dp 1 8 (d.aw.flatMap kh):=by rw[qY];exact ak.a0
    obtain⟨gk,fu,fb⟩:=C7.row (f:=kh) (λ_=>rfl) (j:=z) (by omega) (by omega);rw[T8]at fb;refine bX.mk λb9 jM s8=>?_;refine bz.oZ a6 rfl (by simp) (e:=255) rfl rfl rfl os bT rfl (cs:=[.int .i64 S.bh,.int .i64 z]) rfl rfl rfl [] [] (by simp;rfl) (by omega) (by show(os.n+1)*16<=_;omega) ?_;intro kd aa ab aj;refine bd.mk gk z fu rfl (by omega) ?_;refine aM.mk _ (fb _) ?_;refine bg.mk _ (cL (i:=i) (by omega)) ?_;refine⟨(i+1,kd,l++[(S.bh,(z:Int))],S.sub[z]),⟨⟨aX,?_,by simp[gX],?_,eA,fc.C4 _ (br bb),by simp only;omega⟩,by simp only;omega⟩,.n' (by simp),oB,.cons rfl (.nil)⟩;·rw[hg];exact aj
    ·rw[dV];exact AT
  ·have av1:m5<0:=dw aI;refine⟨_,_,.sub (fO _) .refl,rfl,h6,[],0,false,rfl,rfl,lv 2,?_⟩;rw[<-eA,aK.go,bR (by omega)]
 ·have cI:i=path.length:=by have:¬ (i:Int)<(pn:Int):=ek h;omega
  subst cI;rw[List.drop_length]at AT eA;refine⟨_,_,.refl,rfl,os,l,S.bh,true,rfl,rfl,bT,?_⟩;rw[<-eA];rw[aK.pe,ee]at AT;exact⟨rfl,rfl,AT,by omega⟩
section
variable{X:cU}{β:Nat->Nat}{a:Act}{w:World}{F:Fr}{C:dC}{I:aJ}{M:List aD}{o:Oper}{K:gi}
def arm(aO:cT X.P X.E){s:Operand}{t:Nat}(aH:o.op=.call { callee:=.builtin .append,args:=#[s,x],argTypes:=#[t,u] })(ak:∀ d,o.dst=some d->d<X.n)
  {e:Nat} {lP:dG} (av:X.E t=some c7) (dR:c7.bL=.slice e) (hu:X.E u=some lP) (fE:∀ k,lP.bL≠.int k) (he:X.E e=some aF)
  (os:aY) (bx:os.ok aF.size xs) (ar:bE F s=.val os.val)
  {pC:Value} (ad:bE F x=.val pC) (hm:0<m) (ay:b8.length=m*aF.size) (aa:gv b8=true)
  (c2:∀ w',(Builtin.lenOf pC).run X.P w'=.ok m w') (e7:∀ w,eE I M w->(Builtin.firstCells aF.size m pC).run X.P w=.ok b8.toArray w)
 (a':M.Perm (os.aq e++Mr)) (b1:os.n+m<=maxLen) (bW:(os.n+m)*aF.bytes<=140737488355328)
  (k:∀ (g c:Nat) (aT:List Value) (J:List aD),I g=none->aT.length=c*aF.size->os.n+m<=c->c<=maxLen->aT.take ((os.n+m)*aF.size)=xs++b8->((os.a=some g/\J=[])\/J=os.aq e) ->
   K (put o.dst (.val (.slice (some ⟨g,0,none⟩) (os.n+m) c)) F) C I (⟨g,.cells aT.toArray e (0,0)⟩::(J++Mr))):bz X o F C I M K:=by
 refine⟨λa w Q ⟨β,iA⟩=>?_⟩;have aV:cK X β a w F C I (os.aq e++Mr):=iA.hW (.perm a' .refl);obtain⟨inf,z,hi,fr,iN,iw,kp⟩:=(aO _ _ he).inf;obtain⟨d,fF,fk⟩:=(aO _ _ hu).fo;obtain⟨fL,jL,j7⟩:=(aO _ _ av).fo;have qp:fL=.slice e:=by rw[dR]at j7;cases fL<;>simp_all[fm]
 subst qp;have qo:z.cells.size=inf.size:=by rw[fr,<-(aO _ _ he).len,<-kp];simp
 rw[<-fr]at bx ay e7;obtain⟨g,c,aT,w',fa,a8,ba,bQ,ft,lj⟩:=OZ (P:=X.P) (w:=w) t u o.type e inf z jL fF (λk cX=>fE k (by rw[<-fk,cX];rfl)) hi iw qo bx (λg au=>aV.holds.m ⟨g,.cells os.aT.toArray e (0,0)⟩ (by simp[aY.aq,au])) (x:=pC) hm ay (y2 aa) c2 (λw' xT=>e7 w' (iA.holds.heap xT)) b1 (by rw[iN];exact bW);rw[fr]at a8 ft;have zs:I g=none:=by
  rcases lj with⟨au,_⟩ | ⟨rfl,_⟩;·exact aV.holds.d ⟨g,.cells os.aT.toArray e (0,0)⟩ (by simp[aY.aq,au])
  ·cases bw:I w.heap.size with
   |none=>rfl| some nC=>have:=aV.holds.i _ _ bw;simp at this
 have es:=dd aV.al ar;have ex:=dd aV.al ad;rcases lj with⟨au,hw⟩ | ⟨rfl,hw⟩
 ·refine iY (by rw[aH];simp) (v:=.slice (some ⟨g,0,none⟩) (os.n+m) c) (w':=w') ?_ ⟨_,_,_,_,⟨β,cK.put (x:=.val (.slice (some ⟨g,0,none⟩) (os.n+m) c)) ?_ ak rfl⟩,k g c aT [] zs a8 ba bQ ft (.inl ⟨au,rfl⟩)⟩
  ·unfold execOp;simp only[aH,resolve,invoke,builtin,ck,c3,bV,su,b0,hy,es,ex,fa]
  ·subst hw;have ag:os.aq e=[⟨g,.cells os.aT.toArray e (0,0)⟩]:=by simp[aY.aq,au]
   rw[ag]at aV;exact aV.xA (a9:=[]) (post:=Mr) rfl
 ·refine iY (by rw[aH];simp) (v:=.slice (some ⟨_,0,none⟩) (os.n+m) c) (w':=w') ?_ ⟨_,_,_,_,⟨β,cK.put (x:=.val (.slice (some ⟨_,0,none⟩) (os.n+m) c)) ?_ ak rfl⟩,k _ c aT (os.aq e) zs a8 ba bQ ft (.inr rfl)⟩
  ·unfold execOp;simp only[aH,resolve,invoke,builtin,ck,c3,bV,su,b0,hy,es,ex,fa]
  ·subst hw;have ab:cK X β a w.drew F C I (os.aq e++Mr):=aV.world rfl;exact ab.nY (.cells aT.toArray e (0,0))
def bz.adO(aO:cT X.P X.E){s:Operand}{t:Nat}(aH:o.op=.call { callee:=.builtin .append,args:=#[s,x],argTypes:=#[t,t] })(ak:∀ d,o.dst=some d->d<X.n)
  {e:Nat} (av:X.E t=some c7) (dR:c7.bL=.slice e) (he:X.E e=some aF)
  (os:aY) (bx:os.ok aF.size xs) (ar:bE F s=.val os.val)
 (ad:bE F x=.val (.slice (some ⟨b9,0,none⟩) 1 c')) (ay:cs.length=aF.size) (aa:gv cs=true)
  (a9 post:List aD) (a':M=⟨b9,.cells cs.toArray e (0,0)⟩::(a9++(os.aq e++post))) (b1:os.n+1<=9223372036854775807) (bW:(os.n+1)*aF.bytes<=140737488355328)
  (k:∀ (bs:aY) (J:List aD),bs.n=os.n+1->(∀ g,bs.a=some g->I g=none)->bs.ok aF.size (xs++cs)->(∀ g∈(os.aq e).map (·.num),g∈(bs.aq e++J).map (·.num))->K (put o.dst (.val bs.val) F) C I (a9++(bs.aq e++(J++post)))):bz X o F C I M K:=by
 refine .hW (arm aO aH ak av dR av (λk=>by rw[dR];simp) he os bx ar ad (m:=1) (b8:=cs) (by decide) (by rw[oD];exact ay) aa (λ_=>rfl) (λw hw=>?_) (Mr:=⟨b9,.cells cs.toArray e (0,0)⟩::(a9++post)) ?_ (by unfold maxLen;exact b1) bW ?_)
 ·refine run_firstCells_some (P:=X.P) w aF.size 1 ⟨b9,0,none⟩ 1 c' cs (by rw[oD];exact ay) λj v ai=>?_;have ag:w.heap[b9]?=some (.cells cs.toArray e (0,0)):=hw.m ⟨b9,.cells cs.toArray e (0,0)⟩ (by rw[a'];exact .head _);rw[eP _ rfl,tk ag];simpa using ai
 ·rw[a'];have ab:(⟨b9,.cells cs.toArray e (0,0)⟩::(a9++(os.aq e++post)):List aD).Perm (⟨b9,.cells cs.toArray e (0,0)⟩::(os.aq e++(a9++post))):=.cons _ (B2 _ _ _);exact ab.trans mw.symm
 ·intro g c aT J bw dF eJ eF ik bk;refine⟨I,a9++((⟨some g,os.n+1,c,aT⟩:aY).aq e++(J++post)),.perm (M1:=⟨b9,.cells cs.toArray e (0,0)⟩::(a9++((⟨some g,os.n+1,c,aT⟩:aY).aq e++(J++post)))) ?_ (.sub (.cons _ (.refl _)) .refl),k ⟨some g,os.n+1,c,aT⟩ J rfl (λdK au=>by cases au;exact bw) ⟨?_,(λh=>by cases h),λdK au=>?_⟩ λx ad=>?_⟩
  ·have aG:((⟨some g,os.n+1,c,aT⟩:aY).aq e)=[⟨g,.cells aT.toArray e (0,0)⟩]:=rfl;rw[aG];have BQ:(⟨g,.cells aT.toArray e (0,0)⟩::(J++(⟨b9,.cells cs.toArray e (0,0)⟩::(a9++post))):List aD).Perm (⟨b9,.cells cs.toArray e (0,0)⟩::(⟨g,.cells aT.toArray e (0,0)⟩::(J++(a9++post)))):=(List.Perm.cons _ mw).trans (List.Perm.swap _ _ _);refine BQ.trans (List.Perm.cons _ ?_);have D6:(⟨g,.cells aT.toArray e (0,0)⟩::(J++(a9++post)):List aD).Perm (⟨g,.cells aT.toArray e (0,0)⟩::(a9++(J++post))):=List.Perm.cons _ (B2 _ _ _);exact D6.trans mw.symm
  ·rw[ch,bx.len,ay,lO,oD]
  ·cases au;exact⟨dF,eJ,eF,ik⟩
  ·rw[cM,cB];rcases bk with⟨aa,rfl⟩ | rfl
   ·left
    have:os.aq e=[⟨g,.cells os.aT.toArray e (0,0)⟩]:=by simp[aY.aq,aa]
    rw[this]at ad;simpa[aY.aq]using ad
   ·exact .inr ad
end
structure Jw(ns:List ao)(I:aJ)(os:aY)(dO:List ao)(J:aJ):Prop where
 bk:∀ b o,I b=some o->J b=some o
 os:os.ok 9 (dO.flatMap ao.cells)
 ok:∀ d∈dO,d.ok J
 a9:∃ m,dO=ns++m
def yT(os bs:aY)(iX:List aD):Prop:=∀ g∈(os.aq 66).map (·.num),g∈(bs.aq 66++iX).map (·.num)
def arn(S:aK)(tns ns:List ao)(p2:List Nat)(os:aY)(I:aJ)(v:Value)(I':aJ)(M':List aD):Prop:=
 ∃ (bs:aY) (jn:List ao) (iX:List aD),v=.tuple #[bs.val,.int .i64 ((jn.length-1:Nat):Int)]/\M'=bs.aq 66++iX/\yT os bs iX/\Jw ns I bs jn I'/\l3 jn ((jn.length-1)::p2)/\jn.length=ns.length+S.cE.length/\∃ l8:aK,l8.bh=jn.length-1/\cq jn l8/\l8.bare jn=S.bare tns
def FL(cR len e j:Nat):Int:=((cR+len-1-(e+j):Nat):Int)
def aro{q:List aK}(h:q=S::q.flatMap aK.sub)(i:Nat):e6 q i<=q.length:=by
 have aa:=congrArg List.length h;have e:q.flatMap aK.sub=(q.take i).flatMap aK.sub++(q.drop i).flatMap aK.sub:=by rw[<-hg,rG]
 rw[dx,e,ch]at aa;unfold e6;omega
structure arp(cR len e aN:Nat)(y:Nat×List Int):Prop where
 j:y.1<=aN
 L:y.2.length=aN
 eq:y.2.take y.1=(List.range y.1).map (FL cR len e)
def adP(av:t.ok I)(aA:∀ d∈t.ns,fits d d.aw.length=true)(cO:cq t.ns S)(bT:os.ok 9 (ns.flatMap ao.cells))(rp:∀ d∈ns,d.ok I){p2:List Nat}(au:l3 ns p2)(ag:ns.length+S.cE.length<=1099511627776) :
  Spec Tryz.prog 153 [os.val,t.val,.int .i64 S.bh] I (os.aq 66) (arn S t.ns ns p2 os I):=by
 refine zc [] a6 Tryz.func153 rfl rfl rfl ?_;intro B az;have hD:=av.n;have jm:os.n=ns.length:=by have:=bT.len;rw[iQ _ 9 ao.cP]at this;omega
 refine bX.mk λb1 ho Nf=>?_;refine di.inv (ι:=Nat×aY×List aK) (λx=>{ bi:=[(0,.val os.val),(4,.ref 4 0),(8,.val x.2.1.val),(9,.val (.int .i64 x.1))],cl:=[(4,t.cells)],cD:=I,c0:=x.2.1.aq 3++os.aq 66 }) (λx=>vA S x.2.2 x.1/\x.2.1.ok 1 ((eL x.2.2).map (.int .i64 ·))/\∀ c∈x.2.2,cq t.ns c) (λx=>S.cE.length-x.1) ?_ ?_
 ·refine⟨(0,⟨some b1,1,1,[.int .i64 S.bh]⟩,[S]),⟨vA.start S,⟨rfl,(λh=>by cases h),λdK kq=>⟨rfl,ca _,by simp[maxLen],rfl⟩⟩,λc an=>?_⟩,.refl,ew,.cons rfl (.nil)⟩;rw[ed.1 an];exact cO
 rintro⟨i,ro,q⟩⟨bw,gj,fc⟩;simp only at bw gj fc;obtain⟨xS,wg⟩:=bw.len;have hZ:=gj.m7;simp only[eL,bI]at hZ;refine a2.mk (λh=>?_) (λh=>?_)
 ·have aX:i<q.length:=by have:(i:Int)<(ro.n:Int):=dw h;omega
  have lf:=fc _ (br aX);have De:=lf.mJ;obtain⟨Ht,Hu,fJ⟩:=aY.Ca (I:=I) (e:=3) (M:=ro.aq 3++os.aq 66) gj (λx ad=>by simp[ad]) (j:=i) (by simp[eL,aX]);have yP:(eL q)[i]'(by simp[eL,aX])=(q[i].bh:Int):=by simp[eL]
  rw[yP]at fJ;obtain⟨ls,lu,AU⟩:=av.a0.row ao.cP (j:=q[i].bh) (by omega) De;have ak:=av.ns _ (br De);have eR:=lf.w7;rw[gm De]at eR;generalize t.ns[q[i].bh]=d at ak AU eR;have e':=ak.aN;have rU:=ak.a0.cap;have cA:d.aw.length=q[i].sub.length:=by rw[eR];simp[eL]
  have er:=bw.step aX;obtain⟨zp,Mt⟩:=er.len;rw[ch]at Mt;refine cV.draw a6 rfl rfl rfl ?_;refine bd.mk Ht i Hu rfl (by show i<ro.n;omega) ?_;refine aM.mk _ fJ ?_;refine bd.mk ls q[i].bh lu rfl (by omega) ?_;refine aM.mk _ ((AU _).part (k:=8) (m:=1) (by decide)) ?_;refine bz.EG a6 rfl (by simp) (e:=3) rfl rfl rfl ro gj rfl (sa:=d.dB) (m:=d.aN) (c':=d.dp) (b8:=d.aw.map (.int .i64 ·)) rfl (by rw[bI,e'];show _=d.aN*1;omega) (λaz=>ak.a0.CR _ az) (I0 _) [] (os.aq 66) rfl (by omega) (by show(ro.n+d.aN)*8<=_;omega) ?_;intro s5 acb acc jL;rw[<-cM,eR,<-FD]at jL;refine bg.mk _ (cL (i:=i) (by omega)) ?_;refine⟨(i+1,s5,q++q[i].sub),⟨⟨er,jL,λc an=>?_⟩,by simp only;omega⟩,.refl,ew,.cons rfl (.nil)⟩;rcases cB.1 an with an | an;·exact fc c an
  ·exact lf.C4 c an
 ·have cI:i=q.length:=by have:¬ (i:Int)<(ro.n:Int):=ek h;have:=bw.hi;omega
  subst cI;obtain⟨aR,aX,fe⟩:=bw.done;have wj:0<q.length:=by rw[aR];simp
  refine bg.mk ((q.length:Int)-1) (by show IntKind.i64.wrap ((ro.n:Int)-1)=_;rw[wrap_i64 ⟨by omega,by omega⟩,hZ]) ?_;refine di.vU (ι:=Nat×aY×List ao×aJ×List aD) (λx=>{ bi:=[(0,.val x.2.1.val),(4,.ref 4 0),(8,.val ro.val),(10,.val (.int .i64 (e6 q x.1))),(11,.val (.int .i64 ((x.1:Int)-1)))],cl:=[(4,t.cells)],cD:=x.2.2.2.1,c0:=x.2.1.aq 66++(x.2.2.2.2++ro.aq 3) }) (λx=>xd t.ns ns.length p2 q x.1 x.2.2.1/\Jw ns I x.2.1 x.2.2.1 x.2.2.2.1/\yT os x.2.1 x.2.2.2.2) (λx=>x.1) ?_ ?_;·intro _;refine⟨(q.length,os,ns,I,[]),⟨xd.start aR au,⟨λ_ _ h=>h,bT,rp,[],by simp⟩,λg au=>by rw[ee];exact au⟩,.perm eI .refl,.cons .refl (.cons .refl (.cons .refl (.cons ?_ (.cons .refl (.nil))))),.cons rfl (.nil)⟩;simp only;rw[adw aR,<-hZ];exact .refl
  rintro⟨i,no,dO,J,iX⟩⟨jc,er,sQ⟩;simp only at jc er sQ;have je:=jc.len;have ea:=er.os;have T9:no.n=dO.length:=by have:=ea.len;rw[iQ _ 9 ao.cP]at this;omega
  refine a2.mk (λh=>?_) (λh=>?_)
  ·have adQ:(0:Int)<=(i:Int)-1:=dw h;obtain⟨z,rfl⟩:∃ z,i=z+1:=⟨i-1,by omega⟩;have xX:z<q.length:=jc.hi;have lf:=fc _ (br xX);have De:=lf.mJ;obtain⟨Ht,Hu,fJ⟩:=aY.Ca (I:=J) (e:=3) (M:=no.aq 66++(iX++ro.aq 3)) gj (λx ad=>by simp[ad]) (j:=z) (by simp[eL,xX]);have yP:(eL q)[z]'(by simp[eL,xX])=(q[z].bh:Int):=by simp[eL]
   rw[yP]at fJ;obtain⟨ls,lu,AU⟩:=(av.a0.mono er.bk).row ao.cP (j:=q[z].bh) (by omega) De;have ak:=(av.ns _ (br De)).mono er.bk;have eR:=lf.w7;have mI:=gm De;rw[mI]at eR;generalize t.ns[q[z].bh]=d at ak AU eR mI;have e':=ak.aN;have rU:=ak.a0.cap;have cA:d.aw.length=q[z].sub.length:=by rw[eR];simp[eL]
   refine cV.draw a6 rfl rfl rfl ?_;refine bd.mk Ht z Hu (by show((z+1:Nat):Int)-1=z;omega) (by show z<ro.n;omega) ?_;refine aM.mk _ fJ ?_;refine bd.mk ls q[z].bh lu rfl (by omega) ?_;refine aM.mk _ (AU _) ?_;refine bX.mk λjr arq ars=>?_;refine b2.mk [] (no.aq 66++(iX++ro.aq 3)) _ _ rfl rfl (bJ rfl) rfl ?_;refine aM.mk [.slice d.dB d.aN d.dp] (c4 (cs:=d.cells) (k:=8) (n:=1) (T:=66) (.head _) (bJ rfl)) ?_;have pF:=adv xX;have T':=aro aR (z+1);refine mO.mk d.aN d.aN rfl rfl (ca _) (by show 8*d.aN<=_;omega) (by omega) ?_;refine bX.mk λlJ av2 av3=>?_;refine bg.mk ((e6 q z:Nat):Int) (by show IntKind.i64.wrap (((e6 q (z+1):Nat):Int)-(d.aN:Int))=_;rw[wrap_i64 ⟨by omega,by omega⟩];omega) ?_;have Td:(rowOf [Value.int .i64 0] (d.aN*1))=(List.replicate d.aN (0:Int)).map (Value.int .i64):=by rw[tv,xI,e2]
   refine di.inv (ι:=Nat×List Int) (λy=>{ bi:=[(0,.val no.val),(4,.ref 4 0),(8,.val ro.val),(10,.val (.int .i64 (e6 q z))),(11,.val (.int .i64 (((z+1:Nat):Int)-1))),(12,.val (ptr jr)),(13,.val (.slice (some ⟨lJ,0,none⟩) d.aN d.aN)),(60,.val (.int .i64 d.aN)),(61,.val (.int .i64 y.1))],cl:=[(4,t.cells)],cD:=J,c0:=dE lJ y.2::⟨jr,.cells d.cells.toArray 66 (0,0)⟩::(no.aq 66++(iX++ro.aq 3)) }) (arp ns.length q.length (e6 q z) d.aN) (λy=>d.aN-y.1) ?_ ?_;·refine⟨(0,List.replicate d.aN 0),⟨dD _,sE,rfl⟩,.n' ?_,i',.cons rfl (.nil)⟩;rw[Td];rfl
   rintro⟨j,L⟩⟨ai,cc,CG⟩;simp only at ai cc CG;refine a2.mk (λab=>?_) (λab=>?_)
   ·have eM:j<d.aN:=by have:(j:Int)<(d.aN:Int):=dw ab;omega
    refine bg.mk (((no.n+z:Nat)):Int) (by show IntKind.i64.wrap ((no.n:Int)+(((z+1:Nat):Int)-1))=_;rw[wrap_i64 ⟨by omega,by omega⟩];omega) ?_;refine bg.mk (((e6 q z+j:Nat)):Int) (by show IntKind.i64.wrap (((e6 q z:Nat):Int)+(j:Int))=_;rw[wrap_i64 ⟨by omega,by omega⟩];omega) ?_;refine bg.mk (FL ns.length q.length (e6 q z) j) (by show IntKind.i64.wrap (((no.n+z:Nat):Int)-((e6 q z+j:Nat):Int))=_;rw[wrap_i64 ⟨by omega,by omega⟩];unfold FL;omega) ?_;refine bd.mk ⟨lJ,0,none⟩ j rfl rfl eM ?_;refine b2.iC [] (⟨jr,.cells d.cells.toArray 66 (0,0)⟩::(no.aq 66++(iX++ro.aq 3))) (L.map (Value.int .i64)) 3 rfl (by rw[nK,bI];show 0+j*1+1<=_;omega) rfl ((L.set j (FL ns.length q.length (e6 q z) j)).map (Value.int .i64)) (by rw[c8,e2];exact oL L j (by omega) _) ?_;refine bg.mk _ (cL (i:=j) (by omega)) ?_;refine⟨(j+1,L.set j (FL ns.length q.length (e6 q z) j)),⟨⟨eM,by rw[n5];exact cc,?_⟩,by simp only;omega⟩,.refl,i',.cons rfl (.nil)⟩;rw[B3,cM,<-CG,gg (by rw[n5];omega),List.getElem_set_self,List.take_set_of_le (ca _)];rfl
   have cI:j=d.aN:=by have:¬ (j:Int)<(d.aN:Int):=ek ab;omega
   subst cI;rw[fA (by omega)]at CG;refine b2.iC [dE lJ L] (no.aq 66++(iX++ro.aq 3)) d.cells 66 rfl rfl rfl (d.row (some ⟨lJ,0,none⟩) d.aN d.aN L).cells rfl ?_;refine aM.mk (d.row (some ⟨lJ,0,none⟩) d.aN d.aN L).cells (c4 (cs:=(d.row (some ⟨lJ,0,none⟩) d.aN d.aN L).cells) (k:=0) (n:=9) (T:=66) (.tail _ (.head _)) (bJ rfl)) ?_;refine bX.mk λTN TO art=>?_;refine bz.adO a6 rfl (by simp) (e:=66) rfl rfl rfl no ea rfl (cs:=(d.row (some ⟨lJ,0,none⟩) d.aN d.aN L).cells) rfl rfl rfl [dE lJ L,⟨jr,.cells (d.row (some ⟨lJ,0,none⟩) d.aN d.aN L).cells.toArray 66 (0,0)⟩] (iX++ro.aq 3) rfl (by omega) (by show(no.n+1)*96<=_;omega) ?_;intro Jx dh aa ab aj eN;refine bg.mk ((z:Int)-1) (by show IntKind.i64.wrap ((((z+1:Nat):Int)-1)-1)=_;rw[wrap_i64 ⟨by omega,by omega⟩];omega) ?_;intro fD;have Df:yT os Jx (dh++iX):=λg au=>by
    have dW:=sQ g au;rw[cM,cB]at dW;rw[<-dV,cM,cB];rcases dW with dW | dW;·exact .inl (eN g dW)
    ·exact .inr dW
   have k5:([dE lJ L,⟨jr,.cells (d.row (some ⟨lJ,0,none⟩) d.aN d.aN L).cells.toArray 66 (0,0)⟩]++(Jx.aq 66++(dh++(iX++ro.aq 3)))).Perm ((⟨some lJ,d.aN,d.aN,L.map (Value.int .i64)⟩:aY).aq 3++(⟨jr,.cells (d.row (some ⟨lJ,0,none⟩) d.aN d.aN L).cells.toArray 66 (0,0)⟩::(Jx.aq 66++((dh++iX)++ro.aq 3)))):=by rw[dV dh];exact .refl _
   have kW:=l7.FG (J:=J) (os:=⟨some lJ,d.aN,d.aN,L.map (Value.int .i64)⟩) (e:=3) (foot:=(os.aq 66).map (·.num)) fD k5 (λx ad=>by
    have dW:=Df x ad;rw[<-dV,b0,cM];exact .tail _ (hY _ dW))
   have aru:(⟨some lJ,d.aN,d.aN,L.map (Value.int .i64)⟩:aY).ok 1 (L.map (.int .i64 ·)):=⟨by rw[bI];simp only;omega,(λh=>by cases h),λdK kq=>⟨by simp only[bI];omega,ca _,by unfold maxLen;simp only;omega,fA (by rw[bI];simp only;omega)⟩⟩;obtain⟨lH,hw,bm,ep,-⟩:=aY.zV (b:=8) (e:=3) aru (by simp only;omega) kW (⟨jr,.cells (d.row (some ⟨lJ,0,none⟩) d.aN d.aN L).cells.toArray 66 (0,0)⟩::(Jx.aq 66++((dh++iX)++ro.aq 3)));have AR:(d.row (some ⟨lJ,0,none⟩) d.aN d.aN L).aw=(List.range (e6 q (z+1)-e6 q z)).map λj=>((ns.length+q.length-1-(e6 q z+j):Nat):Int):=by rw[show e6 q (z+1)-e6 q z=d.aN by omega];exact CG
   have arv:=xd.step aR aX jc lf aA (x:=d.row (some ⟨lJ,0,none⟩) d.aN d.aN L) (by rw[mI];rfl) AR;have Ua:(d.row (some ⟨lJ,0,none⟩) d.aN d.aN L).ok lH:=(ak.mono bm).row ep λx ad=>by rw[CG]at ad;obtain⟨y,aE,rfl⟩:=cN.1 ad;unfold FL iR;omega
   obtain⟨jk,pV⟩:=er.a9;refine⟨(z,Jx,dO++[d.row (some ⟨lJ,0,none⟩) d.aN d.aN L],lH,dh++iX),⟨⟨arv,⟨λb o h=>bm _ _ (er.bk _ _ h),?_,λx ad=>?_,jk++[_],by rw[pV,dV]⟩,Df⟩,by simp only;omega⟩,.perm k5 (hw _ _ (.sub (.cons _ (.refl _)) .refl)),hn,.cons rfl (.nil)⟩
   ·rw[hg];have:([d.row (some ⟨lJ,0,none⟩) d.aN d.aN L].flatMap ao.cells)=(d.row (some ⟨lJ,0,none⟩) d.aN d.aN L).cells:=by simp
    rw[this];exact aj
   ·rcases cB.1 ad with ad | ad
    ·exact(er.ok x ad).mono bm
    ·rw[ed.1 ad];exact Ua
  ·have adQ:i=0:=by have:¬ (0:Int)<=(i:Int)-1:=ek h;omega
   subst adQ;obtain⟨yU,l8,jA,il,oj⟩:=jc.done aR;refine bg.mk ((dO.length-1:Nat):Int) (by show IntKind.i64.wrap ((no.n:Int)-1)=_;rw[wrap_i64 ⟨by omega,by omega⟩];omega) ?_;intro _;refine⟨_,_,.sub (M1:=no.aq 66++iX) ((M3 _).append (tK _ _)) .refl,no,dO,iX,rfl,rfl,sQ,er,yU,by omega,l8,jA,il,oj⟩
def de.a9{ys:List Value}(h:de I a n c size b (xs++ys))(hm:m<=n)(ad:xs.length=m*size)(c':Nat)(an:m<=c'):de I a m c' size b xs:=by
 refine⟨ad,⟨an,k' (vK _ hm) h.cap.2⟩,?_⟩;by_cases az:m=0
 ·exact .inl az
 rcases h.rd with aa | ⟨aS,aa,ab,cs,T,al,aj,aI⟩
 ·omega
 ·refine .inr ⟨aS,aa,ab,cs,T,al,aj,?_⟩;have bB:((cs.toList.drop aS.off).take (n*size)).take (m*size)=xs:=by rw[aI,<-ad,ze]
  rw[Bw,uu (vK _ hm)]at bB;exact bB
def arw{l:List (Nat×Int)}{x:Nat×Int}(h:de I a n c 2 16 ((l++[x]).flatMap ug)) :
  Spec Tryz.prog 193 [.slice a n c] I [] λv I' M'=>v=.tuple #[.agg #[.int .i64 x.1,.int .i64 x.2],.slice a l.length l.length]/\I'=I/\M'=[]:=by
 refine cb [] a6 Tryz.func193 rfl rfl rfl ?_;intro B az;have ay:n=l.length+1:=by have:=h.len;rw[iQ ug 2 (λ_=>rfl),ch,pN]at this;omega
 have jx:=h.cap;obtain⟨aS,bH,bl⟩:=h.row (f:=ug) (λ_=>rfl) (j:=l.length) (by omega) (by simp);rw[aa5 rfl]at bl;refine bg.mk ((l.length:Nat):Int) (by show IntKind.i64.wrap ((n:Int)-1)=_;rw[wrap_i64 ⟨by omega,by omega⟩];omega) ?_;refine cV.draw a6 rfl rfl rfl ?_;refine bd.mk aS l.length bH rfl (by omega) ?_;refine aM.mk _ (bl _) ?_;refine On.mk l.length l.length rfl rfl (ca _) (by omega) ?_;have db:(if l.length=0 then a else a.map (·.add (0*2)))=a:=by
  split;·rfl
  ·rcases h.rd with aa | ⟨aS,rfl,dL,-⟩
   ·omega
   ·rw[k9,eP _ dL];obtain⟨b,o,fP⟩:=aS;simp only at dL;subst dL;rfl
 refine⟨_,_,.refl,?_,rfl,rfl⟩;show Value.tuple #[Value.agg #[.int .i64 x.1,.int .i64 x.2],.slice (if l.length=0 then a else a.map (·.add (0*2))) (l.length-0) (l.length-0)]=_;rw[db];rfl
def om(z n:Nat):List Nat:=(List.range n).filter λj=>!decide (j=z)
def Jy(z n:Nat):om z (n+1)=if n=z then om z n else om z n++[n]:=by
 unfold om;rw[B3,yb,pu,List.filter_nil];by_cases e:n=z<;>simp[e]
def Nz{z:Nat}:j∈om z n ↔ j<n/\j≠z:=by unfold om;rw[ja,g7];simp
def adR{z:Nat}(h:z<n):(om z n++[z]).Perm (List.range n):=by
 have zJ:(om z n++[z]).Nodup:=by refine uq.2 ⟨xJ.sublist zv,by simp,λa a4 b ag e=>?_⟩;rw[ed]at ag;subst ag;exact(Nz.1 a4).2 e
 refine(M2 zJ xJ).2 λj=>?_;rw[cB,Nz,ed,g7];omega
def uh(l:List aK)(z n:Nat):Nat:=((om z n).map λj=>(l.getD j (.mk 0 [])).cE.length).sum
def arx(l:List aK):hr l=((List.range l.length).map λj=>(l.getD j (.mk 0 [])).cE.length).sum:=by unfold hr;congr 1;refine mT (by simp) λi hi cZ=>?_;rw[f',f',u5,bA,dg (by simpa using hi)];rfl
def adS{l:List aK}{z:Nat}(bb:z<l.length):uh l z l.length+(l[z]).cE.length=hr l:=by have h:=((adR bb).map λj=>(l.getD j (.mk 0 [])).cE.length).sum_nat;rw[cM,qv,<-arx]at h;rw[<-h];unfold uh;simp[bA,bb]
def adT(l:List aK)(z:Nat){i:Nat}(h:i<=n):uh l z i<=uh l z n:=by
 induction n with
 |zero=>
  obtain rfl:i=0:=by omega
  exact ca _
 |succ n aL=>
  by_cases e:i=n+1;·subst e;exact ca _
  ·refine k' (aL (by omega)) ?_;unfold uh;rw[Jy];split
   ·exact ca _
   ·rw[cM,qv];omega
def adU:∀ (p:List Int) (T:aK) (i:Int),T.go (p++[i])=(T.go p).bind λS=>if 0<=i/\i<(S.sub.length:Int)then some (S.sub.getD i.toNat S)else none
 |[],T,i=>by simp[aK.go]
 |j::p,T,i=>by
  rw[m4,aK.go,aK.go];split;·exact adU p _ i
  ·rfl
def adV:∀ (p:List Int) {T S:aK} (i:Int),T.go p=some S->T.pe (p++[i])=T.pe p++[(S.bh,i)]
 |[],T,S,i,h=>by obtain rfl:=fh h;rfl
 |j::p,T,S,i,h=>by
  rw[aK.go]at h;split at h;·rw[m4,aK.pe,aK.pe,adV p i h];rfl
  ·cases h
def Jz:∀ (p:List Int) (T:aK),(T.pe p).length=p.length
 |[],_=>rfl| i::p,T=>by rw[aK.pe,dx,Jz p];rfl
def ary{tns:List ao}{R:aK}{z:Nat}(bb:z<S.sub.length){L:List Int}(cc:L.length=S.sub.length){Y:aQ}(aV:cq dO R)(AV:R.bare dO=Y)(Ub:L.getD z 0=(R.bh:Int))(arz:∀ j,j<S.sub.length->j≠z->∃ T:aK,(T.bh:Int)=L.getD j 0/\cq dO T/\T.bare dO=(S.sub.getD j S).bare tns){x:ao}(AR:x.aw=L)(ky:x.bare=(nodeAt tns S.bh).bare) :
  ∃ xR:aK,xR.bh=dO.length/\cq (dO++[x]) xR/\xR.bare (dO++[x])=.mk (nodeAt tns S.bh).bare ((S.sub.map (aK.bare tns)).set z Y):=by
 obtain⟨ks,aa,ab⟩:=Jg (R:=λ(j:Nat) (T:aK)=>(T.bh:Int)=L.getD j 0/\cq dO T/\T.bare dO=if j=z then Y else(S.sub.getD j S).bare tns) (l:=List.range S.sub.length) λj ai=>by
  have ai:=g7.1 ai;by_cases e:j=z;·subst e;exact⟨R,Ub.symm,aV,by rw[bN rfl];exact AV⟩
  ·obtain⟨T,dF,eJ,eF⟩:=arz j ai e;exact⟨T,dF,eJ,by rw[bR e];exact eF⟩
 rw[wB]at aa;have eR:∀ c∈ks,cq dO c:=λc an=>by obtain⟨j,ai,rfl⟩:=ka an;exact(ab j (by rw[wB];omega) ai).2.1
 refine⟨.mk dO.length ks,rfl,.mk (by simp) ?_ λc an=>(eR c an).app _,?_⟩
 ·rw[FA,AR];refine mT (by rw[bI];omega) λj ai ix=>?_;rw[f'];have:=(ab j (by rw[wB];omega) (by omega)).1;rw[u5,bA,dg ai]at this;exact this.symm
 ·rw[aK.mK,FA,ky];congr 1;refine mT (by simp[aa]) λj ai ix=>?_;have s9:j<ks.length:=by simpa using ai
  rw[f',aK.C3 dO (eR _ (br s9)),(ab j (by rw[wB];omega) s9).2.2,Kx,u5];by_cases e:j=z;·subst e;rw[bN rfl,bN rfl]
  ·rw[bR e,bR (λa7=>e a7.symm),f'];congr 1;simp[bA,show j<S.sub.length by omega]
def arA{z r:Nat}{L:List Int}(bb:z<L.length)(NA:∀ k∈L,0<=k)(Ub:L.getD z 0=(r:Int))(h:l3 dO ((om z L.length).map (h' L)++[r])){x:ao}(AR:x.aw=L)(arB:fits x L.length=true):l3 (dO++[x]) [dO.length]:=by
 have aG:(List.range L.length).map (h' L)=L.map Int.toNat:=by refine mT (by simp) λj ai ix=>?_;rw[f',f',u5];unfold h';rw[bA,dg (by simpa using ai)];rfl
 have aC:((om z L.length).map (h' L)++[r]).Perm (L.map Int.toNat++[]):=by
  rw[ee,<-aG];have:=(adR bb).map (h' L);rw[cM,s7]at this;have a7:h' L z=r:=by unfold h';rw[Ub];exact g6 r
  rwa [a7]at this
 refine(h.perm aC).add (by rw[bI];exact arB) ?_;rw[AR,gA];refine((fR λk ae=>?_).trans (Fy _)).symm;have:=NA k ae;show((k.toNat:Nat):Int)=k;omega
def adW:∀ (p:List Int) {T S:aK},T.go p=some S->S.cE.length<=T.cE.length
 |[],T,S,h=>by obtain rfl:=fh h;exact ca _
 |i::p,T,S,h=>by
  rw[aK.go]at h;split at h
  ·rename_i hi;have aa:=adW p h;have ab:=FE T;have aj:(T.sub.getD i.toNat T).cE.length<=hr T.sub:=by
    have ay:i.toNat<T.sub.length:=by omega
    rw[bA,dg ay];have:=adS ay;simp only[kk];omega
   omega
  ·cases h
structure adX(tns ns:List ao)(I:aJ)(os:aY)(S R:aK)(z:Nat)(Y:aQ)(i:Nat)(L:List Int)(no:aY)(dO:List ao)(J:aJ)(iX:List aD):Prop where
 hi:i<=S.sub.length
 cc:L.length=S.sub.length
 aZ:Jw ns I no dO J
 Kb:yT os no iX
 EH:l3 dO ((om z i).map (h' L)++[R.bh])
 dU:cq dO R
 bare:R.bare dO=Y
 om:∀ j,j<i->j≠z->∃ T:aK,(T.bh:Int)=L.getD j 0/\cq dO T/\T.bare dO=(S.sub.getD j S).bare tns
 av4:z<i->L.getD z 0=(R.bh:Int)
 len:dO.length<=ns.length+(S.sub.getD z S).cE.length+uh S.sub z i
structure adY(tns ns:List ao)(I:aJ)(os:aY)(T:aK)(path:List Int)(X:aQ)(p:List Int)(tb:Option Addr)(gH:Nat)(R:aK)(no:aY)(dO:List ao)(J:aJ)(iX:List aD):Prop where
 row:de I tb p.length gH 2 16 ((T.pe p).flatMap ug)
 aZ:Jw ns I no dO J
 Kb:yT os no iX
 EH:l3 dO [R.bh]
 dU:cq dO R
 go:∃ S q,path=p++q/\T.go p=some S/\R.bare dO=(S.bare tns).put q X/\dO.length<=ns.length+S.cE.length
def arC(T:aK)(tns ns:List ao)(path:List Int)(X:aQ)(os:aY)(I:aJ)(v:Value)(I':aJ)(M':List aD):Prop:=
 ∃ (bs:aY) (jn:List ao) (iX:List aD) (R:aK),v=.tuple #[bs.val,.int .i64 R.bh]/\M'=bs.aq 66++iX/\Jw ns I bs jn I'/\l3 jn [R.bh]/\cq jn R/\R.bare jn=(T.bare tns).put path X/\jn.length<=ns.length+T.cE.length
def adZ{yS fI:aY}{iJ dh:List aD}(aa:yT os yS iJ)(ab:yT yS fI dh):yT os fI (dh++iJ):=λg au=>by
 have dW:=aa g au;rw[cM,cB]at dW;rw[<-dV,cM,cB];rcases dW with dW | dW
 ·exact .inl (ab g dW)
 ·exact .inr dW
def arD(av:t.ok I)(aA:∀ d∈t.ns,fits d d.aw.length=true)(ae:sc t.ns)(bu:cq t.ns T){mF:aK}(eA:T.go path=some mF)(my:de I a path.length c 2 16 ((T.pe path).flatMap ug))
 (bT:os.ok 9 (ns.flatMap ao.cells)) (rp:∀ d∈ns,d.ok I) {vB:aK} (au:l3 ns [vB.bh]) (aV:cq ns vB) (ag:ns.length+T.cE.length<=1099511627776) (aB:t.n<=1099511627776) :
  Spec Tryz.prog 154 [os.val,t.val,.slice a path.length c,.int .i64 vB.bh] I (os.aq 66) (arC T t.ns ns path (vB.bare ns) os I):=by
 refine zc [] a6 Tryz.func154 rfl rfl rfl ?_;intro B az;have hD:=av.n;refine di.vU (ι:=List Int×Option Addr×Nat×aK×aY×List ao×aJ×List aD) (λx=>{ bi:=[(0,.val x.2.2.2.2.1.val),(2,.val (.slice x.2.1 x.1.length x.2.2.1)),(3,.val (.int .i64 x.2.2.2.1.bh)),(5,.ref 5 0)],cl:=[(5,t.cells)],cD:=x.2.2.2.2.2.2.1,c0:=x.2.2.2.2.1.aq 66++x.2.2.2.2.2.2.2 }) (λx=>adY t.ns ns I os T path (vB.bare ns) x.1 x.2.1 x.2.2.1 x.2.2.2.1 x.2.2.2.2.1 x.2.2.2.2.2.1 x.2.2.2.2.2.2.1 x.2.2.2.2.2.2.2) (λx=>x.1.length) ?_ ?_
 ·intro _;exact⟨(path,a,c,vB,os,ns,I,[]),⟨my,⟨λ_ _ h=>h,bT,rp,[],by simp⟩,(λg au=>by rw[ee];exact au),au,aV,mF,[],by simp,eA,rfl,by simp only;omega⟩,.n' (by simp),ew,.cons rfl (.nil)⟩
 rintro⟨p,tb,gH,R,no,dO,J,iX⟩eb;have eb:adY t.ns ns I os T path (vB.bare ns) p tb gH R no dO J iX:=eb;obtain⟨IB,er,sQ,yU,fc,FM,q,mX,AW,AV,je⟩:=eb;refine a2.mk (λh=>?_) (λh=>?_)
 ·have gS:0<p.length:=by have:(0:Int)<(p.length:Int):=dw h;omega
  obtain⟨mR,m5,rfl⟩:∃ mR k,p=mR++[k]:=by
   rcases wb p with aa | ⟨r,k,aa⟩;·subst aa;simp at gS
   ·exact⟨r,k,by simpa using aa⟩
  rw[adU]at AW;obtain⟨S,NB,AW⟩:=J6.1 AW;have AA:0<=m5/\m5<(S.sub.length:Int):=by
   by_cases e:0<=m5/\m5<(S.sub.length:Int);·exact e
   ·rw[bR e]at AW;cases AW
  rw[bN AA]at AW;obtain⟨z,rfl⟩:=eH AA.1;have bb:z<S.sub.length:=by omega
  have FN:S.sub.getD z S=FM:=by have:=fh AW;rwa [g6]at this
  rw[adV mR _ NB]at IB;have Uc:=cq.go mR bu NB;have p6:=Uc.mJ;refine be.mk [] _ _ (.refl _) (arw (IB.mono er.bk)) ?_;rintro v lH M' -⟨ah,xO,rfl⟩;subst lH;rw[Jz]at ah;subst ah;have arE:de I tb mR.length mR.length 2 16 ((T.pe mR).flatMap ug):=by rw[hg]at IB;exact IB.a9 (by rw[ch];omega) (by rw[iQ ug 2 (λ_=>rfl),Jz]) _ (ca _)
  obtain⟨ls,lu,AU⟩:=(av.a0.mono er.bk).row ao.cP (j:=S.bh) (by omega) p6;have ak:=(av.ns _ (br p6)).mono er.bk;have eR:=Uc.w7;have mI:=gm p6;have AX:=aA _ (br p6);rw[mI]at eR;have fz:=av.ns _ (br p6);generalize t.ns[S.bh]=d at ak AU eR mI AX fz;have e':=ak.aN;have rU:=ak.a0.cap;have cA:d.aw.length=S.sub.length:=by rw[eR];simp[eL]
  refine bd.mk ls S.bh lu rfl (by omega) ?_;refine aM.mk _ (AU _) ?_;refine mO.mk d.aN d.aN rfl rfl (ca _) (by show 8*d.aN<=_;omega) (by omega) ?_;refine bX.mk λjr arq ars=>?_;have Tc:(rowOf [Value.int .i64 0] (d.aN*1))=(List.replicate d.aN (0:Int)).map (Value.int .i64):=by rw[tv,xI,e2]
  have oH:∀ j (h:j<S.sub.length),S.sub.getD j S=S.sub[j]:=λj h=>by simp[bA,h]
  have arF:∀ j (h:j<S.sub.length),S.sub.getD j (.mk 0 [])=S.sub[j]:=λj h=>by simp[bA,h]
  have av5:=FE S;have av6:=adS bb;have av7:FM.cE.length=(S.sub[z]).cE.length:=by rw[<-FN,oH z bb]
  have av8:S.cE.length<=T.cE.length:=adW mR NB;refine di.vU (ι:=Nat×List Int×aY×List ao×aJ×List aD) (λy=>{ bi:=[(0,.val y.2.2.1.val),(2,.val (.slice tb mR.length mR.length)),(3,.val (.int .i64 R.bh)),(5,.ref 5 0),(10,.ref 10 0),(11,.ref 11 0),(12,.val (.slice (some ⟨jr,0,none⟩) d.aN d.aN)),(34,.val (.slice d.dB d.aN d.dp)),(35,.val (.int .i64 d.aN)),(36,.val (.int .i64 y.1))],cl:=[(5,t.cells),(10,[.int .i64 S.bh,.int .i64 z]),(11,d.cells)],cD:=y.2.2.2.2.1,c0:=y.2.2.1.aq 66++(y.2.2.2.2.2++[dE jr y.2.1]) }) (λy=>adX t.ns ns I os S R z ((FM.bare t.ns).put q (vB.bare ns)) y.1 y.2.1 y.2.2.1 y.2.2.2.1 y.2.2.2.2.1 y.2.2.2.2.2) (λy=>d.aN-y.1) ?_ ?_
  ·intro _;refine⟨(0,List.replicate d.aN 0,no,dO,J,iX),⟨dD _,by rw[sE];omega,er,sQ,yU,fc,AV,λj ai=>absurd ai (nT _),λai=>absurd ai (nT _),?_⟩,.perm (M1:=no.aq 66++(iX++[⟨jr,.cells (rowOf [Value.int .i64 0] (d.aN*1)).toArray 3 (0,0)⟩])) ?_ (.n' ?_),Bs,.cons rfl (.cons rfl (.cons rfl (.nil)))⟩
   ·rw[FN];simp only;omega
   ·have:=eI (l₁:=([⟨jr,.cells (rowOf [Value.int .i64 0] (d.aN*1)).toArray 3 (0,0)⟩]:List aD)) (l₂:=no.aq 66++iX);rw[dV]at this;exact this
   ·rw[Tc];rfl
  clear yU fc AV je sQ;have av9:=er.bk;rintro⟨i,L,kX,c5,iJ,iW⟩eb;have eb:adX t.ns ns I os S R z ((FM.bare t.ns).put q (vB.bare ns)) i L kX c5 iJ iW:=eb;obtain⟨hi,cc,q2,NC,Dg,vy,Ud,ND,NE,Ue⟩:=eb;rw[FN]at Ue;have qz:kX.n=c5.length:=by have:=q2.os.len;rw[iQ _ 9 ao.cP]at this;omega
  have GB:=adT S.sub z hi;refine a2.mk (λab=>?_) (λab=>?_)
  ·have K9:i<d.aN:=by have:(i:Int)<(d.aN:Int):=dw ab;omega
   have dM:i<S.sub.length:=by omega
   have C7:de iJ d.dB d.aN d.dp 1 8 (d.aw.flatMap kh):=by rw[qY];exact(fz.a0).mono q2.bk
   have pR:d.aw[i]'(by omega)=((S.sub[i]).bh:Int):=by
    have:d.aw[i]?=(eL S.sub)[i]?:=by rw[eR]
    rw[dg (by omega)]at this;unfold eL at this;rw[jH,dg dM]at this;exact fh this
   obtain⟨gk,fu,fb⟩:=C7.row (f:=kh) (λ_=>rfl) (j:=i) (by omega) (by omega);rw[pR]at fb;refine bd.mk gk i fu rfl (by omega) ?_;refine aM.mk _ (fb _) ?_;refine a2.mk (λaj=>?_) (λaj=>?_)
   ·obtain rfl:i=z:=by have:(i:Int)=(z:Int):=dw aj;omega
    refine bd.mk ⟨jr,0,none⟩ i rfl rfl K9 ?_;refine b2.iC (kX.aq 66++iW) [] (L.map (Value.int .i64)) 3 (dV _ _ _).symm (by rw[nK,bI];show 0+i*1+1<=_;omega) rfl ((L.set i (R.bh:Int)).map (Value.int .i64)) (by rw[c8,e2];exact oL L i (by omega) _) ?_;refine bg.mk _ (cL (i:=i) (by omega)) ?_;intro _;refine⟨(i+1,L.set i (R.bh:Int),kX,c5,iJ,iW),⟨⟨dM,by rw[n5];exact cc,q2,NC,?_,vy,Ud,λj ai bt=>?_,λ_=>?_,?_⟩,by simp only;omega⟩,.n' (dV _ _ _),Bs,.cons rfl (.cons rfl (.cons rfl (.nil)))⟩
    ·rw[Jy,bN rfl];have e:(om i i).map (h' (L.set i (R.bh:Int)))=(om i i).map (h' L):=fR λj ai=>by have:=(Nz.1 ai).2;unfold h';rw[bA,bA,ih,bR (λe=>this e.symm)]
     rw[e];exact Dg
    ·obtain⟨l8,dF,eJ,eF⟩:=ND j (by simp only at ai;omega) bt;refine⟨l8,?_,eJ,eF⟩;rw[bA,ih,bR (λe=>bt e.symm),<-bA];exact dF
    ·rw[bA,ih,bN rfl,bN (by omega)];rfl
    ·rw[FN];show c5.length<=_+_+uh S.sub i (i+1);unfold uh at Ue |-;rw[Jy,bN rfl];exact Ue
   ·have bt:i≠z:=λe=>by have:¬ (i:Int)=(z:Int):=ek aj;omega
    have arG:=Uc.C4 _ (br dM);have awa:uh S.sub z (i+1)=uh S.sub z i+(S.sub[i]).cE.length:=by unfold uh;rw[Jy,bR bt,cM,qv,s7,List.sum_singleton,arF i dM]
    have awb:=adT S.sub z (show i+1<=S.sub.length by omega);have dL:=adP (av.mono (λb o h=>q2.bk _ _ h)) aA arG q2.os q2.ok Dg (by omega);refine be.mk (kX.aq 66) (iW++[dE jr L]) _ (.refl _) dL ?_;rintro v dh dq -⟨iE,m2,p7,rfl,rfl,Df,xh,FO,r7,l8,jA,il,oj⟩;refine bd.mk ⟨jr,0,none⟩ i rfl rfl K9 ?_;refine b2.iC ((iE.aq 66++p7)++iW) [] (L.map (Value.int .i64)) 3 (dV _ _ _).symm (by rw[nK,bI];show 0+i*1+1<=_;omega) rfl ((L.set i ((m2.length-1:Nat):Int)).map (Value.int .i64)) (by rw[c8,e2];exact oL L i (by omega) _) ?_;refine bg.mk _ (cL (i:=i) (by omega)) ?_;intro _;obtain⟨jk,pV⟩:=xh.a9;obtain⟨G9,r9⟩:=q2.a9;refine⟨(i+1,L.set i ((m2.length-1:Nat):Int),iE,m2,dh,p7++iW),⟨⟨dM,by rw[n5];exact cc,⟨λb o h=>xh.bk _ _ (q2.bk _ _ h),xh.os,xh.ok,G9++jk,by rw[pV,r9,dV]⟩,adZ NC Df,?_,?_,?_,λj ai arH=>?_,λad0=>?_,?_⟩,by simp only;omega⟩,.n' ?_,Bs,.cons rfl (.cons rfl (.cons rfl (.nil)))⟩
    ·rw[Jy,bR bt];have e:(om z i).map (h' (L.set i ((m2.length-1:Nat):Int)))=(om z i).map (h' L):=fR λj ai=>by have:=(Nz.1 ai).1;unfold h';rw[bA,bA,ih,bR (by omega)]
     have a7:h' (L.set i ((m2.length-1:Nat):Int)) i=m2.length-1:=by unfold h';rw[bA,ih,bN rfl,bN (by omega)];rfl
     rw[cM,e,s7,a7];refine FO.perm ?_;have:=mw (a:=m2.length-1) (l₁:=(om z i).map (h' L)) (l₂:=[R.bh]);simpa using this.symm
    ·show cq m2 R;rw[pV];exact vy.app jk
    ·show R.bare m2=_;rw[pV,aK.C3 c5 vy];exact Ud
    ·by_cases e:j=i
     ·subst e;refine⟨l8,?_,il,by rw[oj,oH j dM]⟩;rw[bA,ih,bN rfl,bN (by omega),jA];rfl
     ·obtain⟨U,dF,eJ,eF⟩:=ND j (by simp only at ai;omega) arH;refine⟨U,?_,?_,?_⟩
      ·rw[bA,ih,bR (λa7=>e a7.symm),<-bA];exact dF
      ·show cq m2 U;rw[pV];exact eJ.app jk
      ·show U.bare m2=_;rw[pV,aK.C3 c5 eJ];exact eF
    ·have ad0:z<i+1:=ad0;rw[bA,ih,bR (by omega),<-bA];exact NE (by omega)
    ·rw[FN];show m2.length<=_+_+uh S.sub z (i+1);omega
    ·show((iE.aq 66++p7)++iW)++_=iE.aq 66++((p7++iW)++_);rw[dV,dV,dV];rfl
  ·have cI:i=S.sub.length:=by have:¬ (i:Int)<(d.aN:Int):=ek ab;omega
   subst cI;have Bq:∀ b o,I b=some o->iJ b=some o:=q2.bk;have TV:d.ok iJ:=fz.mono Bq;refine bX.mk λTN TO art=>?_;refine bz.adO a6 rfl (by simp) (e:=66) rfl rfl rfl kX q2.os rfl (cs:=(d.row (some ⟨jr,0,none⟩) d.aN d.aN L).cells) rfl rfl rfl [] (iW++[dE jr L]) rfl (by omega) (by show(kX.n+1)*96<=_;omega) ?_;intro iE dh bB b4 ef eN;refine bg.mk ((c5.length:Nat):Int) (by show IntKind.i64.wrap ((iE.n:Int)-1)=_;rw[wrap_i64 ⟨by omega,by omega⟩];omega) ?_;intro fD;have Df:yT os iE (dh++iW):=adZ NC eN;have k5:([]++(iE.aq 66++(dh++(iW++[dE jr L])))).Perm ((⟨some jr,d.aN,d.aN,L.map (Value.int .i64)⟩:aY).aq 3++(iE.aq 66++(dh++iW))):=by have:=eI (l₁:=iE.aq 66++(dh++iW)) (l₂:=[dE jr L]);rw[iz];rw[dV,dV]at this;exact this
   have kW:=l7.FG (J:=iJ) (os:=⟨some jr,d.aN,d.aN,L.map (Value.int .i64)⟩) (e:=3) (foot:=(os.aq 66).map (·.num)) fD k5 (λx ad=>Df x ad);have arI:(⟨some jr,d.aN,d.aN,L.map (Value.int .i64)⟩:aY).ok 1 (L.map (.int .i64 ·)):=⟨by rw[bI];simp only;omega,(λh=>by cases h),λdK kq=>⟨by simp only[bI];omega,ca _,by unfold maxLen;simp only;omega,fA (by rw[bI];simp only;omega)⟩⟩;obtain⟨lH,hw,bm,ep,-⟩:=aY.zV (b:=8) (e:=3) arI (by simp only;omega) kW (iE.aq 66++(dh++iW));have arJ:∀ j,j<L.length->∃ U:aK,(U.bh:Int)=L.getD j 0/\cq c5 U:=λj ai=>by
    by_cases e:j=z;·subst e;exact⟨R,(NE (by omega)).symm,vy⟩
    ·obtain⟨U,dF,eJ,-⟩:=ND j (by omega) e;exact⟨U,dF,eJ⟩
   have NA:∀ k∈L,0<=k/\k<c5.length:=λk ae=>by obtain⟨j,ai,rfl⟩:=ka ae;obtain⟨U,dF,eJ⟩:=arJ j ai;rw[bA,dg ai]at dF;have:=eJ.mJ;have dF:(U.bh:Int)=L[j]:=dF;omega
   have Ua:(d.row (some ⟨jr,0,none⟩) d.aN d.aN L).ok lH:=(TV.mono bm).row ep λx ad=>by have:=NA x ad;unfold iR;omega
   have arK:c5.length+1<=ns.length+S.cE.length:=by omega
   rw[<-cc]at Dg;have FO:=arA (x:=d.row (some ⟨jr,0,none⟩) d.aN d.aN L) (by omega) (λk ae=>(NA k ae).1) (NE (by omega)) Dg rfl (by
    have dW:fits d d.aw.length=true:=AX;show fits (d.row (some ⟨jr,0,none⟩) d.aN d.aN L) (L.length:Nat)=true;rw[cc,<-cA];exact dW)
   obtain⟨xR,g4,ll,wo⟩:=ary (tns:=t.ns) bb cc vy Ud (NE (by omega)) (λj ai bt=>ND j (by omega) bt) (x:=d.row (some ⟨jr,0,none⟩) d.aN d.aN L) rfl (by rw[mI];rfl);have Uf:aQ.mk (nodeAt t.ns S.bh).bare ((S.sub.map (aK.bare t.ns)).set z ((FM.bare t.ns).put q (vB.bare ns)))=(S.bare t.ns).put ((z:Int)::q) (vB.bare ns):=by rw[aQ.put,TR,adu,g6,getD_map,FN]
   rw[Uf]at wo;obtain⟨G9,r9⟩:=q2.a9;refine⟨(mR,tb,mR.length,xR,iE,c5++[d.row (some ⟨jr,0,none⟩) d.aN d.aN L],lH,dh++iW),⟨⟨arE,⟨λb o h=>bm _ _ (Bq _ _ h),?_,λx ad=>?_,G9++[_],by rw[r9,dV]⟩,Df,by rw[g4];exact FO,ll,S,(z:Int)::q,by rw[mX,dV];rfl,NB,wo,by rw[ch,pN];exact arK⟩,by simp only[ch,pN];omega⟩,.perm k5 (hw _ _ .refl),.cons .refl (.cons .refl (.cons ?_ (.cons .refl (.nil)))),.cons rfl (.nil)⟩
   ·rw[hg];have:([d.row (some ⟨jr,0,none⟩) d.aN d.aN L].flatMap ao.cells)=(d.row (some ⟨jr,0,none⟩) d.aN d.aN L).cells:=by simp
    rw[this];exact ef
   ·rcases cB.1 ad with ad | ad
    ·exact(q2.ok x ad).mono bm
    ·rw[ed.1 ad];exact Ua
   ·simp only;rw[g4];exact .refl
 ·have arL:p.length=0:=by have:¬ (0:Int)<(p.length:Int):=ek h;omega
  obtain rfl:p=[]:=iy arL;obtain rfl:T=FM:=fh AW;rw[iz]at mX;subst mX;intro _;exact⟨_,_,.refl,no,dO,iX,R,rfl,rfl,er,yU,fc,AV,je⟩
section
end
section
end
def Ug{r4:Value}(h:r4=v):xE (.val v) (.val r4):=by rw[h];exact .refl
section
section
end
end
section
end
section
end
section
end
section
end
section
end
section
end
section
end
section
end
section
end
section
end
section
end
section
end
def FP(J:aJ)(os:aY)(e:Nat):aJ:=match os.a with
 |some g=>ins J g (.cells os.aT.toArray e (0,0))| none=>J
def arM{foot:List Nat}{e:Nat}{post:List aD}(aA:∀ g,os.a=some g->g ∉ foot):ic foot J (os.aq e++post) (FP J os e) post:=by
 obtain⟨a,n,c,aT⟩:=os;cases a with
 |none=>exact .refl| some g=>exact .kN rfl (aA g rfl) .refl
def arN{e:Nat}(h:∀ x∈os.aq e++M,J x.num=none):∀ b o,J b=some o->FP J os e b=some o:=by
 obtain⟨a,n,c,aT⟩:=os;cases a with
 |none=>exact λ_ _ h=>h
 |some g=>exact hL (h ⟨g,_⟩ (.head _))
def arO{e:Nat}(h:os.ok size xs)(ag:os.n*b<=140737488355328):de (FP J os e) (os.a.map λg=>⟨g,0,none⟩) os.n os.c size b xs:=by
 obtain⟨a,n,c,aT⟩:=os;cases a with
 |none=>obtain⟨aa,ab⟩:=h.nil rfl;exact⟨h.len,⟨by simp only at aa ab |-;omega,ag⟩,.inl aa⟩
 |some g=>obtain⟨aa,ab,aj,aI⟩:=h.cap g rfl;exact⟨h.len,⟨ab,ag⟩,.inr ⟨⟨g,0,none⟩,rfl,rfl,aT.toArray,e,(0,0),mo ..,by simpa using aI⟩⟩
section
end
section
end
def arP(an:m1 I)(av:t.ok I)(af:right t=true)(aB:t.n<=1099511627776){node:Nat}(yH:node<t.n) :
  Spec Tryz.prog 134 [t.val,.int .i64 node] I M0 λv I' M'=>(∀ b o,I b=some o->I' b=some o)/\M'=M0/\∃ bq:bS,v=.tuple #[bq.val,.bool true]/\bq.ok I'/\LC t node bq:=by
 refine cb [] a6 Tryz.func134 rfl rfl rfl ?_;intro B az;refine be.mk [] M0 _ (.refl _) (qt an av) ?_;rintro v J N -⟨rfl,bk,rfl⟩;subst J;refine ct.mk (λ_=>?_) (λh=>absurd h (by simp[af]));have eS:decide (((node:Nat):Int)<0)=false:=et (by omega);have gB:decide (((t.n:Nat):Int)<=((node:Nat):Int))=false:=et (by omega);refine ct.mk (λ_=>?_) (λh=>absurd (eS.symm.trans h) (by simp));refine a2.mk (λh=>absurd (gB.symm.trans h) (by simp)) (λ_=>?_);refine be.whole _ (Tp av af aB yH) ?_;rintro v J N -⟨bk,rfl,bq,rfl,s4,ar⟩;exact⟨_,_,.refl,bk,rfl,bq,rfl,s4,ar⟩
def ad1(av:t.ok I)(ae:sc t.ns)(bu:cq t.ns T)(tA:t.bn=(T.bh:Int))(aB:t.n<=1099511627776)(aC:de I pa pn jq 1 8 (path.map (.int .i64 ·))) :
  Spec Tryz.prog 133 [t.val,.slice pa pn jq] I M0 λv I' M'=>(∀ b o,I b=some o->I' b=some o)/\M'=M0/\∃ (tb:Option Addr) (Im gH k:Nat) (b:Bool),v=.tuple #[.slice tb Im gH,.int .i64 k,.bool b] /\
   match T.go path with
   |none=>b=false| some S=>b=true/\k=S.bh/\Im=path.length/\de I' tb path.length gH 2 16 ((T.pe path).flatMap ug):=by
 refine Spec.qU (Spec.frame (Spec.lE (arj av ae bu tA aB aC))) ?_;rintro v J M⟨M',rfl,-,bk,rfl,-,I',M1,⟨rfl,os,l,k,b,rfl,rfl,bT,h⟩,bG⟩;have ark:=bu.mJ;have hD:=av.n;refine⟨bk,rfl,os.a.map λg=>⟨g,0,none⟩,os.n,os.c,k,b,rfl,?_⟩;cases au:T.go path with
 |none=>rw[au]at h;exact h
 |some S=>
  rw[au]at h;obtain⟨aa,ab,rfl,aI⟩:=h;have jm:os.n=path.length:=by have:=bT.len;rw[iQ ug 2 (λ_=>rfl),Jz]at this;omega
  have:=aY.lE (b:=16) (e:=255) bG bT (λz bb=>bb) (by rw[Jz]at aI;omega);rw[jm]at this;exact⟨aa,ab,jm,this⟩
def hG.xi(h:hG t):∃ T:aK,t.bn=(T.bh:Int)/\cq t.ns T/\cr t=T.bare t.ns/\T.cE.Nodup/\T.cE.length<=t.ns.length:=by obtain⟨k4,iT⟩:=h.bn;obtain⟨r,fJ⟩:=eH k4;obtain⟨T,aa,ab,aj,aI⟩:=h.lt (j:=r) (by omega);refine⟨T,by rw[aa];exact fJ,ab,by unfold cr;rw[fJ];exact aj,aI,M6 aI λx ad=>ab.lt x ad⟩
def m1.mono(h:m1 I)(bw:∀ b o,I b=some o->I' b=some o):m1 I':=by obtain⟨T,al,h⟩:=h;exact⟨T,al,bw _ _ h⟩
def Uh:Value:=.agg #[.slice none 0 0,.int .i64 0]
def Dh(X:Option aQ)(I:aJ)(M0:List aD)(v:Value)(I':aJ)(M':List aD):Prop:=(∀ b o,I b=some o->I' b=some o)/\M'=M0 /\
 match X with
 |none=>v=.tuple #[Uh,.bool false]| some X=>∃ bq:bS,v=.tuple #[bq.val,.bool true]/\bq.ok I'/\pd bq X/\fN X/\iI X
def arQ(an:m1 I)(av:t.ok I)(af:right t=true)(aB:t.n<=1099511627776)(aC:de I pa pn jq 1 8 (path.map (.int .i64 ·))) :
  Spec Tryz.prog 79 [t.val,.slice pa pn jq] I M0 (Dh ((cr t).go path) I M0):=by
 have aV:=nc.1 af;obtain⟨T,jA,il,oj,JA,NF⟩:=aV.xi;have hD:=av.n;rw[show(cr t).go path=(T.go path).map (aK.bare t.ns)from by rw[oj,bare_go]];refine cb [] a6 Tryz.func79 rfl rfl rfl ?_;intro B az;have ep:=qt an av;rw[af]at ep;refine be.mk [] M0 _ (.refl _) ep ?_;rintro v J N -⟨rfl,bk,rfl⟩;subst J;refine a2.mk (λh=>by cases h) (λ_=>?_);refine be.mk [] M0 _ (.refl _) (ad1 (M0:=[]) av aV.yN il jA aB aC) ?_;rintro v J M1 -⟨bk,rfl,tb,Im,gH,k,b,rfl,h⟩;refine a2.mk (λag=>?_) (λag=>?_)
 ·have ag:(!b)=true:=ag;refine⟨_,_,.refl,bk,rfl,?_⟩;cases au:T.go path with
  |none=>rfl| some S=>rw[au]at h;obtain⟨rfl,-⟩:=h;cases ag
 ·have ag:(!b)=false:=ag;obtain⟨S,au⟩:∃ S,T.go path=some S:=by
   cases au:T.go path with
   |none=>rw[au]at h;have h:b=false:=h;rw[h]at ag;cases ag| some S=>exact⟨S,rfl⟩
  rw[au]at h;obtain⟨rfl,rfl,-,-⟩:=h;have cO:=cq.go path il au;have p6:=cO.mJ;refine be.mk [] M0 _ (.refl _) (arP (M0:=[]) (an.mono bk) (av.mono bk) af aB (show S.bh<t.n by omega)) ?_;rintro v dh dq -⟨dY,rfl,bq,rfl,s4,ar⟩;refine⟨_,_,.refl,λb o h=>dY _ _ (bk _ _ h),rfl,?_⟩;rw[au];refine⟨bq,rfl,s4,?_,?_,?_⟩;·have:=apQ aV p6 ar;rwa [Nc aV.yN cO]at this
  ·exact TD aV.fit cO
  ·exact TE _ _
def arR(Di:ga I ax){x:bS}(av:t.ok I)(ad:x.ok I)(af:right t=true)(mG:right x=true)(aB:t.n+x.n<=1099511627776)(aC:de I pa pn jq 1 8 (path.map (.int .i64 ·))) :
  Spec Tryz.prog 99 [t.val,.slice pa pn jq,x.val] I [] (Dh (((cr t).go path).map λ_=>((cr t).put path (cr x)).ki) I []):=by
 have aV:=nc.1 af;have ad2:=nc.1 mG;obtain⟨T,jA,il,oj,JA,NF⟩:=aV.xi;obtain⟨X,arS,arT,ad3,awc,awd⟩:=ad2.xi;have hD:=av.n;have qG:=ad.n;rw[show((cr t).go path).map (λ_=>((cr t).put path (cr x)).ki)=(T.go path).map (λ_=>((cr t).put path (cr x)).ki)from by rw[show(cr t).go path=(T.go path).map (aK.bare t.ns)from by rw[oj,bare_go],Option.map_map];rfl];refine cb [] a6 Tryz.func99 rfl rfl rfl ?_;intro B az;have ep:=qt Di.c av;rw[af]at ep;have ad4:=qt Di.c ad;rw[mG]at ad4;refine be.mk [] [] _ (.refl _) ep ?_;rintro v J N -⟨rfl,bk,rfl⟩;subst J;refine ct.mk (λh=>?_) (λh=>by cases h);refine be.mk [] [] _ (.refl _) ad4 ?_;rintro v J N -⟨rfl,bk,rfl⟩;subst J;refine a2.mk (λh=>by cases h) (λ_=>?_);refine be.mk [] [] _ (.refl _) (ad1 (M0:=[]) av aV.yN il jA (by omega) aC) ?_;rintro v J M1 -⟨bk,rfl,tb,Im,gH,k,b,rfl,h⟩;refine a2.mk (λag=>?_) (λag=>?_)
 ·have ag:(!b)=true:=ag;refine⟨_,_,.refl,bk,rfl,?_⟩;cases au:T.go path with
  |none=>rfl| some S=>rw[au]at h;obtain⟨rfl,-⟩:=h;cases ag
 ·have ag:(!b)=false:=ag;obtain⟨S,au⟩:∃ S,T.go path=some S:=by
   cases au:T.go path with
   |none=>rw[au]at h;have h:b=false:=h;rw[h]at ag;cases ag| some S=>exact⟨S,rfl⟩
  rw[au]at h;obtain⟨rfl,rfl,rfl,my⟩:=h;have y3:=adP (ad.mono bk) ad2.fit arT (os:=h6) (ns:=[]) (lv 9) (λd ak=>by cases ak) l3.nil (by simp only[fS];omega);rw[<-arS]at y3;refine be.mk [] [] _ (.refl _) y3 ?_;rintro v iJ M1 hT⟨kX,c5,iW,rfl,rfl,NC,q2,Dg,NG,awe,g4,Xq,AV⟩;have awf:c5.length=X.cE.length:=by simpa using NG
  rw[<-g4]at Dg;have fE:=arD (av.mono (λb o h=>hT _ _ (bk _ _ h))) aV.fit aV.yN il au (my.mono hT) q2.os q2.ok Dg Xq (by omega) (by omega);rw[g4]at fE;refine be.mk (kX.aq 66) iW _ (by rw[ee]) fE ?_;rintro v dh dq dY⟨iE,m2,p7,Ui,rfl,rfl,xh,FO,Uj,ad5,r7⟩;have ob:iE.n=m2.length:=by have:=xh.os.len;rw[iQ _ 9 ao.cP]at this;omega
  refine be.Gb λfD=>?_;have k5:((iE.aq 66++p7)++iW).Perm (iE.aq 66++(p7++iW)):=by rw[dV]
  have arU:=l7.FG (os:=iE) (e:=66) (foot:=[]) fD k5 (λx ad=>by cases ad);obtain⟨pW,hw,bm,arV,-⟩:=aY.zV (b:=96) (e:=66) xh.os (by omega) arU (p7++iW);have awg:=Uj.mJ;obtain⟨t3,x7⟩:∃ t3:bS,t3=⟨m2,iE.a.map λg=>⟨g,0,none⟩,iE.n,iE.c,Ui.bh⟩:=⟨_,rfl⟩;have GP:t3.ok pW:=by rw[x7];exact⟨arV,λd ak=>(xh.ok d ak).mono bm,⟨by simp only;omega,by simp only;omega⟩⟩
  have wo:hG t3:=FO.right (by rw[x7]) (by rw[x7]);have rz:cr t3=(cr t).put path (cr x):=by rw[oj,ad3,<-AV,<-ad5,x7];exact Nc FO.wd.aw Uj
  have arW:fN (cr t3):=by have:=TD wo.fit (T:=Ui) (by rw[x7];exact Uj);rw[rz,oj,ad3,<-AV,<-ad5];rw[x7]at this;exact this
  have B6:=aqD (M0:=[]) ((Di.mono (λb o h=>bm _ _ (dY _ _ (hT _ _ (bk _ _ h)))))) GP (nc.2 wo) (by rw[x7];simp only;omega);rw[show t3.val=.agg #[iE.val,.int .i64 Ui.bh]from by rw[x7];rfl]at B6;refine be.Dx pW [] (p7++iW) _ (.perm k5 (hw _ _ .refl)) B6 ?_;rintro v mL rA hU -⟨-,rfl,bq,rfl,s4,dX⟩;refine⟨_,_,.sub (fO _) .refl,λb o h=>hU _ _ (bm _ _ (dY _ _ (hT _ _ (bk _ _ h)))),rfl,?_⟩;rw[au];refine⟨bq,rfl,s4,?_,?_,ads _⟩;·rw[<-rz];exact dX
  ·rw[<-rz];exact adr arW
def arX(Di:ga I ax){x:bS}(av:t.ok I)(ad:x.ok I)(af:right t=true)(mG:right x=true)(aB:t.n+x.n<=1099511627776)(aC:de I pa pn jq 1 8 (path.map (.int .i64 ·))) :
  Spec Tryz.prog 99 [t.val,.slice pa pn jq,x.val] I M0 (Dh (((cr t).go path).map λ_=>((cr t).put path (cr x)).ki) I M0):=by
 refine(Spec.frame (arR Di av ad af mG aB aC)).Nd ?_;rintro v I' M'⟨M1,rfl,-,-,aa,rfl,ab⟩;exact⟨aa,rfl,ab⟩
def p8(g:cv)(rule:Int)(path:List Int):Option aQ:=if 0<=rule/\rule<(g.ds.length:Int)then(cr (g.ds.getD rule.toNat gP).t).go path else none
structure Uk(g:cv):Prop where
 r:∀ d∈g.ds,right d.t=true
 n:∀ d∈g.ds,d.t.n<=549755813888
def NH(rule:Int)(pa:Option Addr)(pn jq:Nat):Value:=.agg #[.int .i64 rule,.slice pa pn jq]
def Dh.shape{X:Option aQ}{M':List aD}(h:Dh X I M0 v I' M'):∃ a n c r b,v=.tuple #[.agg #[.slice a n c,.int .i64 r],.bool b]/\b=X.isSome:=by
 obtain⟨-,-,h⟩:=h;cases X with
 |none=>exact⟨none,0,0,0,false,h,rfl⟩| some X=>obtain⟨bq,rfl,-⟩:=h;exact⟨_,_,_,_,true,rfl,rfl⟩
def ad6(an:m1 I)(au:g.ok I)(jc:Uk g)(aC:de I pa pn jq 1 8 (path.map (.int .i64 ·))) :
  Spec Tryz.prog 30 [g.val,NH rule pa pn jq] I M0 (Dh (p8 g rule path) I M0):=by
 have fT:=au.n;refine cb [] a6 Tryz.func30 rfl rfl rfl ?_;intro B az;refine ct.mk (λh=>?_) (λh=>?_)
 ·have aa:¬ rule<0:=ek h;refine a2.mk (λab=>?_) (λab=>?_)
  ·have ab:(g.n:Int)<=rule:=dw ab;refine⟨_,_,.refl,λ_ _ h=>h,rfl,?_⟩;unfold p8;rw[bR (by omega)];rfl
  ·have ab:¬ (g.n:Int)<=rule:=ek ab;obtain⟨u,rfl⟩:=eH (show 0<=rule by omega);have hu:u<g.ds.length:=by omega
   obtain⟨aS,bH,bl⟩:=au.a0.row aP.cP (j:=u) (by omega) hu;have ak:=au.ds _ (br hu);have af:=jc.r _ (br hu);have T9:=jc.n _ (br hu);have eA:p8 g (u:Int) path=(cr g.ds[u].t).go path:=by unfold p8;rw[bN (by omega),g6];simp[bA,hu]
   have fc:=arQ (M0:=[]) an ak.t af (by omega) aC;rw[<-eA]at fc;refine cV.draw a6 rfl rfl rfl ?_;refine bd.mk aS u bH rfl (by omega) ?_;refine aM.mk _ ((bl _).part (k:=1) (m:=2) (by decide)) ?_;refine be.mk [] M0 _ (.refl _) fc ?_;rintro v J M1-h;obtain⟨a,n,c,r,b,rfl,-⟩:=h.shape;obtain⟨dF,rfl,eF⟩:=h;exact⟨_,_,.refl,dF,rfl,eF⟩
 ·have aa:rule<0:=dw h;refine⟨_,_,.refl,λ_ _ h=>h,rfl,?_⟩;unfold p8;rw[bR (by omega)];rfl
def arY(g:cv)(rule:Int)(X:Option aQ)(I:aJ)(M0:List aD)(v:Value)(I':aJ)(M':List aD):Prop:=(∀ b o,I b=some o->I' b=some o)/\M'=M0 /\
 match X with
 |none=>v=.tuple #[.agg #[.slice none 0 0],.bool false]| some X=>∃ (h:cv) (bq:bS),v=.tuple #[h.val,.bool true]/\h.ok I'/\h.n=g.n/\h.ds.map aP.a1=(g.ds.set rule.toNat ⟨(g.ds.getD rule.toNat gP).name,bq⟩).map aP.a1/\pd bq X/\fN X/\iI X
def vC(g:cv)(rule:Int)(path:List Int)(x:aQ):Option aQ:=(p8 g rule path).map λ_=>((cr (g.ds.getD rule.toNat gP).t).put path x).ki
def arZ(Di:ga I ax)(au:g.ok I)(jc:Uk g)(Ef:g.n<=1000000){x:bS}(ad:x.ok I)(mG:right x=true)(qG:x.n<=549755813888)(aC:de I pa pn jq 1 8 (path.map (.int .i64 ·))) :
  Spec Tryz.prog 53 [g.val,NH rule pa pn jq,x.val] I M0 (arY g rule (vC g rule path (cr x)) I M0):=by
 have fT:=au.n;refine cb [] a6 Tryz.func53 rfl rfl rfl ?_;intro B az;refine ct.mk (λh=>?_) (λh=>?_)
 ·have aa:¬ rule<0:=ek h;refine a2.mk (λab=>?_) (λab=>?_)
  ·have ab:(g.n:Int)<=rule:=dw ab;refine⟨_,_,.refl,λ_ _ h=>h,rfl,?_⟩;unfold vC p8;rw[bR (by omega)];rfl
  ·have ab:¬ (g.n:Int)<=rule:=ek ab;obtain⟨u,rfl⟩:=eH (show 0<=rule by omega);have hu:u<g.ds.length:=by omega
   obtain⟨aS,bH,bl⟩:=au.a0.row aP.cP (j:=u) (by omega) hu;have ak:=au.ds _ (br hu);have af:=jc.r _ (br hu);have T9:=jc.n _ (br hu);have oH:g.ds.getD u gP=g.ds[u]:=by simp[bA,hu]
   have eA:vC g (u:Int) path (cr x)=((cr g.ds[u].t).go path).map λ_=>((cr g.ds[u].t).put path (cr x)).ki:=by unfold vC p8;rw[bN (by omega),g6,oH]
   have fc:=arX (M0:=[]) Di ak.t ad af mG (by omega) aC;rw[<-eA]at fc;refine cV.BD a6 rfl rfl rfl (ι:=Nat×Option Addr×Nat×Nat×Int×Bool×aJ) (λy=>{ bi:=[(3,.ref 3 0),(4,.ref 4 0),(6,.ref 6 0),(8,.val (ptr y.1)),(9,.val (.bool y.2.2.2.2.2.1))],cl:=[(3,[.slice g.a g.n g.c]),(4,[.int .i64 u,.slice pa pn jq]),(6,[.slice none 0 0])],cD:=y.2.2.2.2.2.2,c0:=⟨y.1,.cells #[.slice y.2.1 y.2.2.1 y.2.2.2.1,.int .i64 y.2.2.2.2.1] 31 (0,0)⟩::M0 }) (λy=>Dh (vC g (u:Int) path (cr x)) I [] (.tuple #[.agg #[.slice y.2.1 y.2.2.1 y.2.2.2.1,.int .i64 y.2.2.2.2.1],.bool y.2.2.2.2.2.1]) y.2.2.2.2.2.2 []) ?_ ?_
   ·refine bd.mk aS u bH rfl (by omega) ?_;refine aM.mk _ ((bl _).part (k:=1) (m:=2) (by decide)) ?_;refine⟨?_,?_⟩
    ·refine be.mk [] M0 _ (.refl _) fc ?_;rintro v J M1 bk h;obtain⟨a,n,c,r,b,rfl,-⟩:=h.shape;obtain⟨dF,rfl,eF⟩:=h;refine bX.mk λfU Eh ad7=>?_;refine b2.mk [] M0 _ _ rfl rfl (bJ rfl) rfl ?_;exact⟨(fU,a,n,c,r,b,J),⟨dF,rfl,eF⟩,.refl,hn,.cons rfl (.cons rfl (.cons rfl (.nil)))⟩
    ·refine bX.mk λfU Eh ad7=>?_;refine d'.mk _ fc ?_;rintro v J M1 bk h;obtain⟨a,n,c,r,b,rfl,-⟩:=h.shape;obtain⟨dF,rfl,eF⟩:=h;refine b2.mk [] M0 _ _ rfl rfl (bJ rfl) rfl ?_;exact⟨(fU,a,n,c,r,b,J),⟨dF,rfl,eF⟩,.refl,hn,.cons rfl (.cons rfl (.cons rfl (.nil)))⟩
   rintro⟨fU,a,n,c,r,b,J⟩ar0;obtain⟨dF,-,eF⟩:=ar0;simp only at dF eF;refine a2.mk (λag=>?_) (λag=>?_)
   ·have ag:(!b)=true:=ag;refine⟨_,_,.sub (.cons _ (.refl _)) .refl,dF,rfl,?_⟩;cases jW:vC g (u:Int) path (cr x)with
    |none=>rfl
    |some X=>
     rw[jW]at eF;obtain⟨bq,e,-⟩:=eF;injection e with e
     simp at e;rw[e.2]at ag;cases ag
   ·have ag:(!b)=false:=ag;obtain⟨X,jW⟩:∃ X,vC g (u:Int) path (cr x)=some X:=by
     cases jW:vC g (u:Int) path (cr x)with
     |none=>
      rw[jW]at eF;have eF:Value.tuple #[.agg #[.slice a n c,.int .i64 r],.bool b]=.tuple #[Uh,.bool false]:=eF;injection eF with e
      simp[Uh]at e;rw[e.2]at ag;cases ag
     |some X=>exact⟨X,rfl⟩
    rw[jW]at eF;obtain⟨bq,e,s4,dX,bx,FQ⟩:=eF;have a7:Value.agg #[.slice a n c,.int .i64 r]=bq.val:=by
     injection e with e
     simp at e;rw[<-e.1]
    have sI:=aoH (M0:=[]) (au.mono dF) hu (by omega) s4;rw[<-a7]at sI;refine aM.mk [.slice a n c,.int .i64 r] ⟨rfl,_,_,_,.inr ⟨_,.head _,rfl,rfl⟩,rfl,rfl⟩ ?_;refine be.mk [] _ _ (.refl _) sI ?_;rintro v dh dq -⟨dY,rfl,bc,rfl,kK,BC,ey⟩;refine⟨_,_,.sub (.cons _ (.refl _)) .refl,λb o h=>dY _ _ (dF _ _ h),rfl,?_⟩;rw[jW];refine⟨bc,bq,rfl,kK,BC,?_,dX,bx,FQ⟩;rw[g6,oH];exact ey
 ·have aa:rule<0:=dw h;refine⟨_,_,.refl,λ_ _ h=>h,rfl,?_⟩;unfold vC p8;rw[bR (by omega)];rfl
def ar1{d:ao}(h:d.k=3)(aA:Go.V.fits d n=true):n=0:=by unfold Go.V.fits at aA;rw[h]at aA;simp[uN,sC]at aA;have aa:lp[6]?.getD 0=0:=rfl;have ab:lp[7]?.getD 0=0:=rfl;rw[aa,ab]at aA;omega
def NI{X:aQ}(jW:fN X):∀ (p:List Int) {T:aQ},fN T->fN (T.put p X)
 |[],T,h=>jW
 |i::p,.mk d ks,h=>by
  obtain⟨aA,ae⟩:=h.inv;rw[aQ.put];show fN (aQ.mk d (ks.set i.toNat ((ks.getD i.toNat (.mk d ks)).put p X)));refine .mk (by rw[n5];exact aA) λc an=>?_;rcases yy an with an | rfl;·exact ae c an
  ·refine NI jW p ?_;rw[bA];cases e:ks[i.toNat]? with
   |none=>exact h| some c=>exact ae c (st e)
def ad8{P:ao->Prop}:∀ (p:List Int) {T S:aQ},jo P T->T.go p=some S->jo P S
 |[],T,S,h,e=>by rw[aQ.go]at e;cases e;exact h
 |i::p,.mk d ks,S,h,e=>by
  rw[aQ.go]at e;split at e
  ·refine ad8 p ?_ e;show jo P (ks.getD i.toNat (.mk d ks));rw[bA];cases e:ks[i.toNat]? with
   |none=>exact h| some c=>exact h.inv.2 c (st e)
  ·cases e
def ad9:∀ (p:List Int) {T S:aQ},fN T->T.go p=some S->fN S
 |[],T,S,h,e=>by rw[aQ.go]at e;cases e;exact h
 |i::p,.mk d ks,S,h,e=>by
  rw[aQ.go]at e;split at e
  ·refine ad9 p ?_ e;show fN (ks.getD i.toNat (.mk d ks));rw[bA];cases e:ks[i.toNat]? with
   |none=>exact h| some c=>exact h.inv.2 c (st e)
  ·cases e
def yV(h:right t=true):fN (cr t):=by obtain⟨T,aa,ab,aj,aI,bB⟩:=(nc.1 h).xi;rw[aj];exact TD (nc.1 h).fit ab
def Ul{pl:List (ByteArray×Int)}(h:right t=true):nV pl F t=(cr t).fold (lG pl F):=by obtain⟨k4,iT⟩:=qw h;obtain⟨r,af⟩:=eH k4;unfold nV acp cr;rw[af];exact apN (λd l=>rfl) (nc.1 h) (by omega)
def sg(ax:List Int)(g:cv)(nm:ByteArray):Option Nat:=if cu nm g.ds 0<0\/oV ax g (cu nm g.ds 0)=true then none else some (cu nm g.ds 0).toNat
def sh(ax:List Int)(g:cv)(u:Nat)(p:List Int)(d:ao):Option aQ:=if d.k=3 then(sg ax g d.t).map λq=>((cr (g.ds.getD u gP).t).put p (cr (g.ds.getD q gP).t)).ki else none
def xj(ax:List Int)(g:cv)(u:Nat)(X:aQ):Bool:=decide (dz ax (nU (eQ g.ds u (mB X.post)))=0)
def oo(ax:List Int)(g:cv)(u:Nat)(p:List Int):Option aQ:=((cr (g.ds.getD u gP).t).go p).bind λS=>sh ax g u p S.d
def p'(ax:List Int)(g:cv)(x:Nat×List Int):Bool:=match oo ax g x.1 x.2 with
 |some X=>xj ax g x.1 X| none=>false
structure AY(ax:List Int)(g:cv)(F:List aW):Prop where
 n:g.ds.length=g.n
 m:dz ax g=0
 IX:jO g.ds F
 left:(r' g.ds F).length=0
 loops:(pZ g.ds F).length=0
def mH.Js(aB:g.ds.length=g.n)(h:mH ax g r)(az:r.2=0):∃ F,AY ax g F:=by
 have hm:dz ax g=0:=by
  rcases h with⟨a,e⟩ | ⟨a,-⟩;·rw[e]at az;exact az
  ·exact a
 obtain⟨aa,ab⟩:=(h.get hm).1 az;rcases h with⟨a,-⟩ | ⟨-,F,bG,-⟩
 ·exact absurd hm a
 rw[S4 bG]at aa ab;exact⟨F,aB,hm,bG,aa,ab⟩
def Um(hm:dz ax g=0){d:aP}(ak:d∈g.ds):normal d.t=true:=by have:=fy.1 (CY.1 hm).2.1 d ak;rw[cz]at this;exact this.2
def nq(hm:dz ax g=0){d:aP}(ak:d∈g.ds):right d.t=true:=(Jt.1 (Um hm ak)).1
def aea(h:pd t X)(aB:t.ns.length=t.n):t.a1=(mB X.post).a1:=by
 have ay:X.post.length=t.ns.length:=by rw[<-h.a1,bI]
 have e:X.post.map ao.a1=X.post:=by refine mT (by simp) λi aa ab=>?_;rw[f'];exact ac1 X _ (br _)
 unfold bS.a1 mB;simp only[h.a1,e,h.bn,ay,aB]
def aeb{ds:List aP}{y GD:bS}(h:y.a1=GD.a1):(eQ ds u y).map aP.a1=(eQ ds u GD).map aP.a1:=by unfold eQ;rw[pw,pw];congr 1;unfold aP.a1;rw[h]
def ar2(fT:g.ds.length=g.n)(dX:pd bq X)(aB:bq.ns.length=bq.n)(ta:h.n=g.n)(an:h.ds.map aP.a1=(eQ g.ds u bq).map aP.a1):xj ax g u X=decide (dz ax h=0):=by
 unfold xj;congr 1;have:dz ax (nU (eQ g.ds u (mB X.post)))=dz ax h:=by rw[<-z1,<-z1 ax h];congr 1;unfold cv.a1 nU;rw[an,ta,yR,fT,aeb (aea dX aB)]
 rw[this]
section
variable{ax:List Int}{g:cv}{F:List aW}(hw:AY ax g F)
include hw
theorem aec{nm:ByteArray}{q:Nat}(h:sg ax g nm=some q):q<g.ds.length/\cu nm g.ds 0=(q:Int)/\oV ax g (q:Int)=false:=by
 unfold sg at h;split at h
 ·cases h
 ·rename_i aB;have h:=fh h;obtain⟨z,bb⟩:=eH (show 0<=cu nm g.ds 0 by omega);have ar3:q=z:=by rw[<-h,bb];rfl
  subst ar3;obtain⟨j,ai,e,-⟩:=IZ g.ds 0 q bb;refine⟨by omega,bb,?_⟩;rw[<-bb];cases ar:oV ax g (cu nm g.ds 0)with
  |true=>exact absurd (.inr ar) aB| false=>rfl
theorem NJ(hu:u<g.ds.length)(h:oo ax g u p=some X):∃ (S:aQ) (q:Nat),(cr g.ds[u].t).go p=some S/\S.d.k=3/\q<g.ds.length/\cu S.d.t g.ds 0=(q:Int)/\oV ax g (q:Int)=false/\S.sub=[]/\q≠u/\X=((cr g.ds[u].t).put p (cr (g.ds.getD q gP).t)).ki:=by
 have q3:g.ds.getD u gP=g.ds[u]:=by simp[bA,hu]
 unfold oo at h;rw[q3]at h;cases cO:(cr g.ds[u].t).go p with
 |none=>rw[cO]at h;cases h
 |some S=>
  rw[cO]at h;have h:sh ax g u p S.d=some X:=h;unfold sh at h;split at h
  ·rename_i aj;cases aR:sg ax g S.d.t with
   |none=>rw[aR]at h;cases h
   |some q=>
    rw[aR,q3]at h;obtain⟨dF,eJ,eF⟩:=aec hw aR;have af:=nq hw.m (br hu);have ar4:=ad9 p (yV af) cO;have kx:S.sub=[]:=by
     cases S with
     |mk d ks=>exact iy (ar1 aj ar4.inv.1)
    refine⟨S,q,rfl,aj,dF,eJ,eF,kx,λe=>?_,(fh h).symm⟩;subst e;have eX:jo (λd=>∃ e∈g.ds[q].t.ns,e.bare=d) (cr g.ds[q].t):=(T2 af).2 λd ak=>⟨d,ak,rfl⟩;have Sh:=ad8 p eX cO;obtain⟨e,he,sH⟩:∃ e∈g.ds[q].t.ns,e.bare=S.d:=by
     cases S with
     |mk d ks=>exact Sh.inv.1
    have ar:=adM (ax:=ax) hw.n hw.m hu (s:=List.replicate g.ds.length false) (by simp);rw[eF,sF]at ar;have aI:Dd g.ds[q]=true:=by
     unfold Dd;refine wY.2 ⟨e,he,?_⟩;have cn:e.k=3:=by
      have:e.bare.k=3:=by rw[sH];exact aj
      exact this
     have dr:e.t=S.d.t:=by rw[<-sH];rfl
     obtain⟨j,ai,lq,l0⟩:=IZ g.ds 0 q eJ;have As:j=q:=by omega
     subst As;rw[e9 cn,e9 (dr.trans l0.symm)];rfl
    rw[ar.2]at aI;cases aI
  ·cases h
theorem aed(hu:u<g.ds.length)(h:oo ax g u p=some X):fN X/\iI X/\lI X:=by
 obtain⟨S,q,aa,ab,aj,aI,bB,b4,ef,rfl⟩:=NJ hw hu h;have rV:g.ds.getD q gP=g.ds[q]:=by simp[bA,aj]
 rw[rV];exact⟨adr (NI (yV (nq hw.m (br aj))) p (yV (nq hw.m (br hu)))),ads _,aqX _⟩
theorem ar5(hu:u<g.ds.length)(jW:oo ax g u p=some X)(dX:pd bq X)(hD:bq.ns.length=bq.n)(ta:h.n=g.n)(aee:h.ds.length=h.n)(an:h.ds.map aP.a1=(eQ g.ds u bq).map aP.a1) :
  (dz ax h=0\/dz ax h=40)/\xj ax g u X=decide (dz ax h=0)/\s' g.ds u (match(cr g.ds[u].t).go p with
   |some S=>(cu S.d.t g.ds 0).toNat| none=>0) bq/\∀ r,mH ax h r->(r.2=0 ↔ dz ax h=0):=by
 obtain⟨bx,ag,Et⟩:=aed hw hu jW;obtain⟨S,q,aa,ab,aj,aI,bB,b4,ef,si⟩:=NJ hw hu jW;have rV:g.ds.getD q gP=g.ds[q]:=by simp[bA,aj]
 have q3:g.ds.getD u gP=g.ds[u]:=by simp[bA,hu]
 have ui:=dX.right bx;have rz:=dX.cr bx ag;have yW:=nq hw.m (br hu);have ms:=nq hw.m (br aj);have B8:∀ d∈g.ds,right d.t=true:=λd ak=>nq hw.m ak;have ea:normal bq=true:=Jt.2 ⟨ui,by rw[rz];exact Et⟩;have hv:∀ d∈bq.ns,Ju g.ds d:=by
  have fl:=(CY.1 hw.m).2.2.2.2;have a4:∀ e∈g.ds,jo (Ju g.ds) (cr e.t):=λe he=>(T2 (B8 e he)).2 λd ak=>fl e he d ak;have:jo (Ju g.ds) (cr bq):=by rw[rz,si,rV];exact aq1 (λd ak=>ak) (λh=>by cases h) (λh=>by cases h) (adF (a4 _ (br aj)) p (a4 _ (br hu)))
  exact(T2 ui).1 this
 have PY:=aq2 hw.n hw.m hu ea hv ta an;have aV:s' g.ds u q bq:=by
  refine⟨hu,aj,ef,ui,λdm ov=>?_⟩;rw[rV]at ov |-;rw[q3,Ul ui,rz,si,rV,adt (apd _ _) (NI (yV ms) p (yV yW)),Ul yW];refine adC ?_ p _ aa;rw[<-Ul ms];cases S with
  |mk d ks=>
  have b4:ks=[]:=b4;subst b4;rw[aQ.fold_eq];refine aqR ab ?_ ov;have aG:=aoU aI;have a7:aQ.d (.mk d [])=d:=rfl;rw[a7]at aG;rw[aG];rfl
 refine⟨PY,ar2 hw.n dX hD ta an,?_,λr af=>?_⟩
 ·rw[aa];show s' g.ds u (cu S.d.t g.ds 0).toNat bq;rw[aI];exact aV
 ·constructor
  ·intro az;rcases af with⟨a,e⟩ | ⟨a,-⟩
   ·rw[e]at az;exact az
   ·exact a
  ·intro hm;rw[af.get hm];rcases af with⟨a,-⟩ | ⟨-,dm,ov,-⟩
   ·exact absurd hm a
   ·obtain⟨-,aG,a7⟩:=aV.Js B8 hw.IX hw.left hw.loops an ov;rw[S4 ov];exact⟨aG,a7⟩
end
def ar6{a0:List lT}(bT:os.ok 1 (a0.map lT.val))(ep:∀ r∈a0,r.ok I){e:Nat}(ak:∀ x∈os.aq e++Mr,I x.num=none)(aB:os.n<=1099511627776) :
  ∃ (I':aJ),ic [] I (os.aq e++Mr) I' Mr/\(∀ b o,I b=some o->I' b=some o)/\(⟨a0,os.a.map λg=>⟨g,0,none⟩,os.n,os.c⟩:lU).ok I':=by
 obtain⟨I',aa,ab,aj⟩:=aY.Ho (b:=24) (e:=e) bT (by omega) (λg au=>ak ⟨g,.cells os.aT.toArray e (0,0)⟩ (by simp[aY.aq,au])) Mr;exact⟨I',aa,ab,aj,λr af=>(ep r af).mono ab⟩
def Un(h:c≠b):ins I b o c=I c:=by unfold ins;rw[hs h];rfl
def uj(d:aP)(i:Nat)(s:List Bool):List ao->List Bool
 |[]=>s| n::ns=>uj d i (bif decide (n.k=3)&&decide (n.t=d.name)then s.set i true else s) ns
def aef(d:aP)(i:Nat):∀ (ns:List ao) (s:List Bool),(uj d i s ns).length=s.length
 |[],s=>rfl| n::ns,s=>by rw[uj,aef d i ns];cases decide (n.k=3)&&decide (n.t=d.name)<;>simp
def aeg(d:aP)(i:Nat):∀ (ns:List ao) (s:List Bool) (k:Nat),i<s.length->(uj d i s ns).getD k false=if k=i then(s.getD i false||ns.any λn=>decide (n.k=3)&&decide (n.t=d.name))else s.getD k false
 |[],s,k,hi=>by
  rw[uj,List.any_nil,Bool.or_false];split;·rename_i e;rw[e]
  ·rfl
 |n::ns,s,k,hi=>by
  rw[uj,aeg d i ns _ k (by cases decide (n.k=3)&&decide (n.t=d.name)<;>simpa using hi),M4];cases h:decide (n.k=3)&&decide (n.t=d.name)with
  |false=>simp
  |true=>
   simp only[b5,My,Ex];split;·simp[bA,hi]
   ·rename_i e;simp[bA,List.getElem?_set_ne (λh=>e h.symm)]
def xk:Nat->List aP->List Bool->List Bool
 |_,[],s=>s| i,d::ds,s=>xk (i+1) ds (uj d i s d.t.ns)
def aeh:∀ (ds:List aP) (d:aP) (i:Nat) (s:List Bool),xk i (ds++[d]) s=uj d (i+ds.length) (xk i ds s) d.t.ns
 |[],d,i,s=>rfl| e::ds,d,i,s=>by rw[m4,xk,xk,aeh ds d (i+1),dx,show i+1+ds.length=i+(ds.length+1) by omega]
def aei:∀ (ds:List aP) (i:Nat) (s:List Bool) (k:Nat),i+ds.length<=s.length->(xk i ds s).getD k false=(s.getD k false||(if h:i<=k/\k<i+ds.length then Dd (ds[k-i]'(by omega))else false))
 |[],i,s,k,_=>by rw[xk,dif_neg (by simp)];simp
 |d::ds,i,s,k,ay=>by
  rw[dx]at ay;rw[xk,aei ds (i+1) _ k (by rw[aef];omega),aeg d i _ _ k (by omega)];by_cases e:k=i;·subst e;rw[bN rfl,dif_neg (by omega),dif_pos ⟨ca _,by rw[dx];omega⟩];simp[Dd]
  ·rw[bR e];congr 1;by_cases h:i+1<=k/\k<i+1+ds.length
   ·rw[dif_pos h,dif_pos ⟨by omega,by rw[dx];omega⟩];congr 1;have:k-i=(k-(i+1))+1:=by omega
    simp[this]
   ·rw[dif_neg h,dif_neg λab=>h ⟨by omega,by rw[dx]at ab;omega⟩]
def ar7(a':I b=some (.cells (s.map Value.bool).toArray 4 (0,0)))(ai:j<s.length):cF I M ((⟨b,0,none⟩:Addr).add (j*1)) 1 [.bool s[j]]:=by
 rw[eP _ rfl];refine⟨rfl,_,4,(0,0),.inl a',?_,rfl⟩;have aa:j<(s.map Value.bool).length:=by simpa using ai
 simp only[c8,e2];rw[eV aa,qh,rl];simp
def b2.aej{K:List aD->Prop}(a9 post:List aD)(bK:Nat)(s:List Bool){i:Nat}(hi:i<s.length)(v:Bool)(a':M=a9++iB bK s::post)(h:K (a9++iB bK (s.set i v)::post)):b2 M ((⟨bK,0,none⟩:Addr).add (i*1)) [.bool v] K:=
 b2.iC a9 post (s.map Value.bool) _ a' (Cf (by rw[bI];show 0+i*1+1<=_;omega)) rfl _ (by rw[c8,e2];exact DT s i hi v) h
structure FR(ax:List Int)(I:aJ)(g:cv)(v:Value):Prop where
 ex:∃ (b1 cY bK:Nat) (s:List Bool),v=.func (.func 132) #[] #[ptr b1,ptr cY]/\I b1=some (.cells #[.slice g.a g.n g.c] 24 (0,0))/\I cY=some (.cells #[.slice (some ⟨bK,0,none⟩) g.n g.n] 138 (0,0))/\I bK=some (.cells (s.map Value.bool).toArray 4 (0,0))/\s.length=g.n/\∀ i,i<g.n->s.getD i false=oV ax g (i:Int)
def FR.mono(h:FR ax I g v)(bw:∀ b o,I b=some o->I' b=some o):FR ax I' g v:=by obtain⟨b1,cY,bK,s,aa,ab,aj,aI,bB,b4⟩:=h.ex;exact⟨b1,cY,bK,s,aa,bw _ _ ab,bw _ _ aj,bw _ _ aI,bB,b4⟩
def ar8(hw:AY ax g F)(au:g.ok I)(ho:I b1=some (.cells #[.slice g.a g.n g.c] 24 (0,0)))(tZ:I cY=some (.cells #[.slice (some ⟨bK,0,none⟩) g.n g.n] 138 (0,0)))(pF:I bK=some (.cells (s.map Value.bool).toArray 4 (0,0)))(e5:s.length=g.n)(ar:∀ i,i<g.n->s.getD i false=oV ax g (i:Int))(nm:ByteArray) :
  Spec Tryz.prog 132 [.string nm,ptr b1,ptr cY] I M0 λv I' M'=>I'=I/\M'=M0/\∃ (NK:bS) (b:Bool),v=.tuple #[NK.val,.bool b]/\b=(sg ax g nm).isSome/\∀ q,sg ax g nm=some q->NK=(g.ds.getD q gP).t:=by
 refine cb [] a6 Tryz.func132 rfl rfl rfl ?_;intro B az;have fT:=au.n;have FT:∀ M,cF I M ⟨b1,0,none⟩ 1 [.slice g.a g.n g.c]:=λM=>⟨rfl,_,_,_,.inl ho,rfl,rfl⟩;have ar9:∀ M,cF I M ((⟨b1,0,none⟩:Addr).add 0) 1 [.slice g.a g.n g.c]:=λM=>⟨rfl,_,_,_,.inl ho,rfl,rfl⟩;have FH:∀ M,cF I M ⟨cY,0,none⟩ 1 [.slice (some ⟨bK,0,none⟩) g.n g.n]:=λM=>⟨rfl,_,_,_,.inl tZ,rfl,rfl⟩;refine aM.mk _ (FT _) ?_;refine be.mk [] M0 _ (.refl _) (KR au nm) ?_;rintro v J N -⟨rfl,bk,rfl⟩;subst J;by_cases NL:cu nm g.ds 0<0
 ·have aA:sg ax g nm=none:=bN (.inl NL);refine ct.mk (λh=>absurd h (by simp[NL])) (λ_=>?_);refine⟨_,_,.refl,rfl,rfl,⟨[],none,0,0,0⟩,false,rfl,by rw[aA];rfl,λq aR=>?_⟩;rw[aA]at aR;cases aR
 ·obtain⟨q,aR⟩:=eH (show 0<=cu nm g.ds 0 by omega);obtain⟨j,ai,aG,a7⟩:=IZ g.ds 0 q aR;have NM:q<g.n:=by omega
  have fe:q<g.ds.length:=by omega
  have asa:=ar q NM;have D8:s.getD q false=s[q]'(by omega):=by simp[bA,show q<s.length by omega]
  have rV:g.ds.getD q gP=g.ds[q]:=by simp[bA,fe]
  refine ct.mk (λ_=>?_) (λh=>absurd h (by simp[NL]));refine aM.mk _ (FH _) ?_;refine bd.mk ⟨bK,0,none⟩ q rfl aR NM ?_;refine aM.mk [.bool (oV ax g (q:Int))] ?_ ?_;·have:=ar7 (M:=M0) pF (j:=q) (by omega);rw[<-D8,asa]at this;exact this
  cases J9:oV ax g (q:Int)with
  |true=>have aA:sg ax g nm=none:=bN (.inr (by rw[aR];exact J9));refine a2.mk (λ_=>?_) (λh=>by cases h);refine⟨_,_,.refl,rfl,rfl,⟨[],none,0,0,0⟩,false,rfl,by rw[aA];rfl,λq aR=>?_⟩;rw[aA]at aR;cases aR
  |false=>
   have aA:sg ax g nm=some q:=by unfold sg;rw[bR (λh=>h.elim NL λh=>by rw[aR]at h;have h:oV ax g (q:Int)=true:=h;rw[J9]at h;cases h),aR];rfl
   refine a2.mk (λh=>by cases h) (λ_=>?_);obtain⟨aS,bH,bl⟩:=au.a0.row aP.cP NM fe;refine aM.mk _ (ar9 _) ?_;refine bd.mk aS q bH aR NM ?_;refine aM.mk _ ((bl _).part (k:=1) (m:=2) (by decide)) ?_;refine⟨_,_,.refl,rfl,rfl,g.ds[q].t,true,rfl,by rw[aA];rfl,λe0 wy=>?_⟩;rw[aA]at wy;cases wy;rw[rV]
def asb{L:List (List Int)}(cc:∀ l∈L,valid L.length l):(∀ p∈mz L,∀ x∈p,0<=x/\x<(L.length:Int))/\(mz L).length<=L.length:=by
 rw[adI cc];refine⟨λp aC x ad=>?_,?_⟩
 ·obtain⟨q,-,rfl⟩:=cN.1 aC;obtain⟨k,ae,rfl⟩:=cN.1 ad;rw[ja,g7]at ae;exact⟨Ew _,by omega⟩
 ·unfold T3;rw[bI];exact k' (Bv _ _) (by simp)
def asc(ps:List (List Int))(p:List Int)(s:List Bool):xg (ps++[p]) s=FK p (xg ps s):=by unfold xg;rw[rO];rfl
def yX(b1 cY bK:Nat)(g:cv)(s:List Bool):List aD:=[⟨cY,.cells #[.slice (some ⟨bK,0,none⟩) g.n g.n] 138 (0,0)⟩,iB bK s,⟨b1,.cells #[.slice g.a g.n g.c] 24 (0,0)⟩]
def Uo:cF I (yX b1 cY bK g s) ⟨cY,0,none⟩ 1 [.slice (some ⟨bK,0,none⟩) g.n g.n]/\cF I (yX b1 cY bK g s) ⟨b1,0,none⟩ 1 [.slice g.a g.n g.c]/\cF I (yX b1 cY bK g s) ((⟨b1,0,none⟩:Addr).add 0) 1 [.slice g.a g.n g.c]:=
 ⟨⟨rfl,_,_,_,.inr ⟨_,.head _,rfl,rfl⟩,rfl,rfl⟩,⟨rfl,_,_,_,.inr ⟨_,.tail _ (.tail _ (.head _)),rfl,rfl⟩,rfl,rfl⟩,⟨rfl,_,_,_,.inr ⟨_,.tail _ (.tail _ (.head _)),rfl,rfl⟩,rfl,rfl⟩⟩
def aek(bu:ga I ax)(hw:AY ax g F)(au:g.ok I)(asd:g.n<=1099511627776)(hk:∀ d∈g.ds,d.t.n<=1099511627776):Spec Tryz.prog 78 [g.val] I [] λv I' M'=>(∀ b o,I b=some o->I' b=some o)/\M'=[]/\FR ax I' g v:=by
 refine zc [1,3] a6 Tryz.func78 rfl rfl rfl ?_;intro B az;have fT:=au.n;refine bX.mk λb1 ho Nf=>?_;refine aM.mk _ ⟨rfl,_,_,_,.inr ⟨_,.head _,rfl,rfl⟩,rfl,rfl⟩ ?_;refine mO.mk g.n g.n rfl rfl (ca _) (by show 1*g.n<=_;omega) (by omega) ?_;refine bX.mk λbK pF awh=>?_;refine bX.mk λcY tZ Up=>?_;refine b2.mk [] _ #[.slice none 0 0] 138 rfl rfl (bJ rfl) rfl ?_;have ase:(rowOf [Value.bool false] (g.n*1)).toArray=((List.replicate g.n false).map Value.bool).toArray:=by congr 1;refine mT (by simp[rowOf]) λi aa ab=>?_;simp[rowOf,Nat.mod_one]
 rw[ase];refine aM.mk _ ⟨rfl,_,_,_,.inr ⟨_,.tail _ (.tail _ (.head _)),rfl,rfl⟩,rfl,rfl⟩ ?_;refine be.y1 [] (yX b1 cY bK g (List.replicate g.n false)) _ (.refl _) (aiu bu au asd) ?_;rintro v J pA bk cW⟨-,os,a0,rfl,bT,ep,fv,rfl⟩;have asf:=P1 fT;have dX:(im g).length=g.n:=by simp[im,fT]
 have fv:a0.map (·.l)=mz (im g):=by rw[fv];unfold Hw;rw[e9 hw.m];rfl
 have K8:os.n=a0.length:=by have:=bT.len;simp only[bI]at this;omega
 obtain⟨aX,c2⟩:=asb asf;have awi:a0.length=(mz (im g)).length:=by rw[<-fv,bI]
 obtain⟨tI,asg,NN,ad⟩:=ar6 bT ep cW (by omega);have ael:∀ b o,I b=some o->tI b=some o:=λb o h=>NN _ _ (bk _ _ h);have HE:=au.mono ael;refine di.inv (ι:=Nat×List Bool) (λx=>{ bi:=[(1,.val (ptr b1)),(3,.val (ptr cY)),(17,.val os.val),(18,.val (.int .i64 os.n)),(19,.val (.int .i64 (x.1:Int)))],cl:=[],cD:=tI,c0:=yX b1 cY bK g x.2 }) (λx=>x.1<=os.n/\x.2.length=g.n/\x.2=xg ((mz (im g)).take x.1) (List.replicate g.n false)) (λx=>os.n-x.1) ?_ ?_
 ·exact⟨(0,_),⟨dD _,by simp,rfl⟩,asg,hn,.nil⟩
 rintro⟨k,s⟩⟨ae,e5,ar⟩;simp only at ae e5 ar;refine a2.mk (λh=>?_) (λh=>?_)
 ·have cA:k<os.n:=by have:(k:Int)<(os.n:Int):=dw h;omega
  have Hy:k<a0.length:=by omega
  obtain⟨aS,bH,bl⟩:=ad.a0.one cA Hy;have fb:=ep _ (br Hy);have gj:=fb.mono NN;have hZ:=fb.n;have zO:=fb.a0.cap;have kt:(mz (im g))[k]'(by omega)=a0[k].l:=by
   have aa:(a0.map (·.l))[k]?=(mz (im g))[k]?:=by rw[fv]
   rw[jH,dg Hy,dg (by omega)]at aa;exact(fh aa).symm
  have m0:(mz (im g)).take (k+1)=(mz (im g)).take k++[a0[k].l]:=by rw[gg (by omega),kt]
  have tF:=aX _ (br (show k<(mz (im g)).length by omega));rw[kt]at tF;generalize a0[k]=r at *;have ash:decide ((1:Int)<(r.n:Int))=decide (1<r.l.length):=by
   rw[hZ];by_cases e:1<r.n;·rw[e9 e,e9 (by omega)]
   ·rw[et e,et (by omega)]
  refine bd.mk aS k bH rfl cA ?_;refine aM.mk _ (bl _) ?_;refine di.inv (ι:=Nat×List Bool) (λx=>{ bi:=[(1,.val (ptr b1)),(3,.val (ptr cY)),(5,.val r.val),(17,.val os.val),(18,.val (.int .i64 os.n)),(19,.val (.int .i64 (k:Int))),(23,.val r.val),(24,.val (.int .i64 r.n)),(25,.val (.int .i64 (x.1:Int)))],cl:=[],cD:=tI,c0:=yX b1 cY bK g x.2 }) (λx=>x.1<=r.n/\x.2.length=g.n/\x.2=(r.l.take x.1).foldl (λs i=>s.set i.toNat (decide (1<r.l.length))) s) (λx=>r.n-x.1) ?_ ?_;·exact⟨(0,s),⟨dD _,e5,rfl⟩,.refl,i',.nil⟩
  rintro⟨j,b3⟩⟨ai,Uq,ow⟩;simp only at ai Uq ow;refine a2.mk (λh=>?_) (λh=>?_)
  ·have eM:j<r.n:=by have:(j:Int)<(r.n:Int):=dw h;omega
   have iD:j<r.l.length:=by omega
   obtain⟨NO,Ur,CS⟩:=gj.a0.one eM iD;have ah:=tF _ (br iD);have asi:r.l.take (j+1)=r.l.take j++[r.l[j]]:=gg iD;generalize r.l[j]=z at *;obtain⟨z,rfl⟩:=eH ah.1;have bb:z<g.n:=by omega
   refine bd.mk NO j Ur rfl eM ?_;refine aM.mk _ (CS _) ?_;refine aM.mk _ Uo.1 ?_;refine bd.mk ⟨bK,0,none⟩ z rfl rfl bb ?_;refine b2.aej [⟨cY,.cells #[.slice (some ⟨bK,0,none⟩) g.n g.n] 138 (0,0)⟩] [⟨b1,.cells #[.slice g.a g.n g.c] 24 (0,0)⟩] bK b3 (by omega) (decide ((1:Int)<(r.n:Int))) rfl ?_;refine bg.mk _ (cL (i:=j) (by omega)) ?_;refine⟨(j+1,b3.set z (decide (1<r.l.length))),⟨⟨eM,by simp[Uq],?_⟩,by simp only;omega⟩,.n' (by rw[ash];rfl),i',.nil⟩;simp only;rw[asi,rO,<-ow];rfl
  ·have cI:¬ (j:Int)<(r.n:Int):=ek h;refine bg.mk _ (cL (i:=k) (by omega)) ?_;refine⟨(k+1,b3),⟨⟨cA,Uq,?_⟩,by simp only;omega⟩,.refl,hn,.nil⟩;simp only;rw[m0,asc,<-ar,ow,fA (by omega)];rfl
 have cI:¬ (k:Int)<(os.n:Int):=ek h;have ar:s=xg (mz (im g)) (List.replicate g.n false):=by rw[ar,fA (by omega)]
 refine aM.mk _ Uo.2.2 ?_;refine di.inv (ι:=Nat×List Bool) (λx=>{ bi:=[(1,.val (ptr b1)),(3,.val (ptr cY)),(38,.val (.slice g.a g.n g.c)),(39,.val (.int .i64 g.n)),(40,.val (.int .i64 (x.1:Int)))],cl:=[],cD:=tI,c0:=yX b1 cY bK g x.2 }) (λx=>x.1<=g.n/\x.2.length=g.n/\x.2=xk 0 (g.ds.take x.1) s) (λx=>g.n-x.1) ?_ ?_
 ·exact⟨(0,s),⟨dD _,e5,rfl⟩,.refl,hn,.nil⟩
 rintro⟨i,s1⟩⟨hi,Us,fq⟩;simp only at hi Us fq;refine a2.mk (λh=>?_) (λh=>?_)
 ·have dM:i<g.n:=by have:(i:Int)<(g.n:Int):=dw h;omega
  have lR:i<g.ds.length:=by omega
  obtain⟨aS,bH,bl⟩:=HE.a0.row aP.cP dM lR;have ak:=HE.ds _ (br lR);have m0:g.ds.take (i+1)=g.ds.take i++[g.ds[i]]:=gg lR;have asj:=hk _ (br lR);have uZ:(g.ds.take i).length=i:=by rw[hx];omega
  generalize g.ds[i]=d at *;have asl:=ak.t.n;obtain⟨og,⟨ns,ji,gb,jB,gq⟩⟩:=d;simp only at asl asj;refine bd.mk aS i bH rfl dM ?_;refine aM.mk _ (bl _) ?_;refine di.inv (ι:=Nat×List Bool) (λx=>{ bi:=[(1,.val (ptr b1)),(3,.val (ptr cY)),(8,.val (.int .i64 (i:Int))),(9,.ref 9 0),(38,.val (.slice g.a g.n g.c)),(39,.val (.int .i64 g.n)),(40,.val (.int .i64 (i:Int))),(47,.val (.slice ji gb jB)),(48,.val (.int .i64 gb)),(49,.val (.int .i64 (x.1:Int)))],cl:=[(9,[.string og,.slice ji gb jB,.int .i64 gq])],cD:=tI,c0:=yX b1 cY bK g x.2 }) (λx=>x.1<=gb/\x.2.length=g.n/\uj ⟨og,⟨ns,ji,gb,jB,gq⟩⟩ i x.2 (ns.drop x.1)=uj ⟨og,⟨ns,ji,gb,jB,gq⟩⟩ i s1 ns) (λx=>gb-x.1) ?_ ?_;·exact⟨(0,s1),⟨dD _,Us,rfl⟩,.refl,Bs,.cons rfl (.nil)⟩
  rintro⟨j,s2⟩⟨ai,C5,iv⟩;simp only at ai C5 iv;refine a2.mk (λh=>?_) (λh=>?_)
  ·have eM:j<gb:=by have:(j:Int)<(gb:Int):=dw h;omega
   have iD:j<ns.length:=by omega
   obtain⟨NO,Ur,CS⟩:=ak.t.a0.row ao.cP (j:=j) eM iD;have j8:ns.drop j=ns[j]::ns.drop (j+1):=eV iD;rw[j8,uj]at iv;generalize gx:ns[j]=x at *;have CS:∀ M,cF tI M (NO.add (j*9)) 9 x.cells:=CS;obtain⟨NP,sy,aem,awj,awk,NQ,awl,awm,xa,FU,xc,awn⟩:=x;refine bd.mk NO j Ur rfl eM ?_;refine aM.mk _ (CS _) ?_;have xl:=cL (i:=j) (by omega);by_cases aj:NP=3
   ·refine ct.mk (λ_=>?_) (λh=>absurd h (by simp[aj]));by_cases hv:NQ=og
    ·refine a2.mk (λ_=>?_) (λh=>absurd h (by simp[hv]));have er:(bif decide (NP=3)&&decide (NQ=og)then s2.set i true else s2)=s2.set i true:=by rw[e9 aj,e9 hv];rfl
     simp only at iv;rw[er]at iv;refine aM.mk _ Uo.1 ?_;refine bd.mk ⟨bK,0,none⟩ i rfl rfl dM ?_;refine b2.aej [⟨cY,.cells #[.slice (some ⟨bK,0,none⟩) g.n g.n] 138 (0,0)⟩] [⟨b1,.cells #[.slice g.a g.n g.c] 24 (0,0)⟩] bK s2 (by omega) true rfl ?_;refine bg.mk _ xl ?_;exact⟨(j+1,s2.set i true),⟨⟨eM,by simp[C5],iv⟩,by simp only;omega⟩,.refl,Bs,.cons rfl (.nil)⟩
    ·refine a2.mk (λh=>absurd h (by simp[hv])) (λ_=>?_);have er:(bif decide (NP=3)&&decide (NQ=og)then s2.set i true else s2)=s2:=by rw[et hv,Jv];rfl
     simp only at iv;rw[er]at iv;refine bg.mk _ xl ?_;exact⟨(j+1,s2),⟨⟨eM,C5,iv⟩,by simp only;omega⟩,.refl,Bs,.cons rfl (.nil)⟩
   ·refine ct.mk (λh=>absurd h (by simp[aj])) (λ_=>?_);have er:(bif decide (NP=3)&&decide (NQ=og)then s2.set i true else s2)=s2:=by rw[et aj];rfl
    simp only at iv;rw[er]at iv;refine bg.mk _ xl ?_;exact⟨(j+1,s2),⟨⟨eM,C5,iv⟩,by simp only;omega⟩,.refl,Bs,.cons rfl (.nil)⟩
  ·have cI:¬ (j:Int)<(gb:Int):=ek h;rw[kr (by omega),uj]at iv;refine bg.mk _ (cL (i:=i) (by omega)) ?_;refine⟨(i+1,s2),⟨⟨dM,C5,?_⟩,by simp only;omega⟩,.refl,hn,.nil⟩;simp only;rw[m0,aeh,<-fq,iv,uZ,c8]
 have Xa:¬ (i:Int)<(g.n:Int):=ek h;have fq:s1=xk 0 g.ds s:=by rw[fq,fA (by omega)]
 have nJ:∀ q,q<g.n->s1.getD q false=oV ax g (q:Int):=λq aR=>by rw[fq,aei g.ds 0 s q (by omega),dif_pos ⟨dD _,by omega⟩];have:=adM (ax:=ax) hw.n hw.m (i:=q) (by omega) (s:=List.replicate g.n false) (by simp[fT]);rw[<-this];show(s.getD q false||_)=((xg (mz (im g)) (List.replicate g.n false)).getD q false||_);rw[<-ar];rfl
 intro fD;have d3:=fD.d _ (.head _);have ds:=fD.d _ (.tail _ (.head _));have d1:=fD.d _ (.tail _ (.tail _ (.head _)));have bF:=fD.cd;simp only[yX,iB,b0,hy,lL,ec,List.not_mem_nil,or_false,not_or]at bF;obtain⟨⟨kX,iE⟩,Lh,-⟩:=bF;simp only[iB]at d3 ds d1;have aG:ins tI cY (.cells #[.slice (some ⟨bK,0,none⟩) g.n g.n] 138 (0,0)) bK=none:=by rw[Un (pj kX)];exact ds
 have a7:ins (ins tI cY (.cells #[.slice (some ⟨bK,0,none⟩) g.n g.n] 138 (0,0))) bK (.cells (s1.map Value.bool).toArray 4 (0,0)) b1=none:=by rw[Un (pj Lh),Un (pj iE)];exact d1
 refine⟨_,[],.kN rfl (by simp) (.kN rfl (by simp) (.kN rfl (by simp) .refl)),λb o h=>hL a7 _ _ (hL aG _ _ (hL d3 _ _ (ael _ _ h))),rfl,⟨b1,cY,bK,s1,rfl,mo ..,?_,?_,Us,nJ⟩⟩
 ·exact hL a7 _ _ (hL aG _ _ (mo ..))
 ·exact hL a7 _ _ (mo ..)
section
variable{P:Program}{w:World}
def asm(t u ty e:Nat)(i:TypeInfo)(z:Value)(av:P.underlying t=some (.slice e)){mg:TypeDesc}(hu:P.underlying u=some mg)(n1:∀ k,mg≠.int k)(hi:P.info? e=some i)(bb:i.zero=some z)(qo:z.cells.size=i.size)
 (ij:xs.length=n*i.size) (HF:∀ w':World,w'.heap=w.heap->∀ j v,xs[j]?=some v->w'.cell? (aS.add j)=some v)
  {x:Value} (hm:0<m) (ay:b8.length=m*i.size)
  (c2:∀ w',(Builtin.lenOf x).run P w'=.ok m w') (e7:∀ w':World,w'.heap=w.heap->(Builtin.firstCells i.size m x).run P w'=.ok b8.toArray w')
  (b1:n+m<=maxLen) (bW:(n+m)*i.bytes<=140737488355328) :
  ∃ (c:Nat) (aT:List Value),(Builtin.append_ #[t,u] ty #[.slice (some aS) n n,x]).run P w=.ok (.slice (some ⟨w.heap.size,0,none⟩) (n+m) c) (w.drew.alloc (.cells aT.toArray e (0,0)))/\aT.length=c*i.size/\n+m<=c/\c<=maxLen/\aT.take ((n+m)*i.size)=xs++b8:=by
 have DQ:(xs++b8).length=(n+m)*i.size:=by rw[ch,ij,ay,lO]
 have Kl:∀ dH,(xs++b8++(Builtin.zeroCells z.cells (grownCap w (n+m) dH e-(n+m))).toList).length=grownCap w (n+m) dH e*i.size/\n+m<=grownCap w (n+m) dH e/\grownCap w (n+m) dH e<=maxLen /\
   (xs++b8++(Builtin.zeroCells z.cells (grownCap w (n+m) dH e-(n+m))).toList).take ((n+m)*i.size)=xs++b8:=by
  intro dH;have cI:=grownCap_ge w (n+m) dH e;have kv:grownCap w (n+m) dH e<=maxLen:=grownCap_le_maxLen w (n+m) dH e b1;refine⟨?_,cI,kv,?_⟩;·rw[ch,DQ,zd,size_zeroCells,qo,<-lO];congr 1;omega
  ·rw[<-DQ];exact ze
 have ho:n+m<=9223372036854775807:=by simp only[maxLen]at b1;exact b1
 have aB:m≠0:=by omega
 have uL:¬ (n+m<=n):=by omega
 have BH:¬ (9223372036854775807<((n:Int)+(m:Int))):=by omega
 have BI:¬ (281474976710656<Builtin.nextslicecap (n+m) n*i.bytes):=by have:=growslice_fits (by omega:n<n+m) bW;omega
 have aA:=e7 w.drew rfl;have O1:=run_firstCells_some (P:=P) w.drew i.size n aS n n xs ij (HF w.drew rfl);obtain⟨a8,ba,bQ,ft⟩:=Kl n;refine⟨grownCap w (n+m) n e,_,?_,a8,ba,bQ,ft⟩;simp[Builtin.append_,run_underlying av,run_underlying hu,sizeOf,typeInfo,zeroValue,hi,bb,c2,aB,uL,BH,BI,Question.forced,aA,O1,newRow,grownCap];congr 2;apply gV;simp
end
section
variable{X:cU}{β:Nat->Nat}{a:Act}{w:World}{F:Fr}{C:dC}{I:aJ}{M:List aD}{o:Oper}{K:gi}
def asn{P:Program}(aB:cF I M aS (m*size) b8){w:World}(hw:eE I M w):(Builtin.firstCells size m (.slice (some aS) m c')).run P w=.ok b8.toArray w:=by
 obtain⟨dL,cs,T,al,e',ah,ay⟩:=aB;refine run_firstCells_some (P:=P) w size m aS m c' b8 ay λj v ai=>?_;rw[eP _ dL,tk (e'.heap hw)];rw[<-ah,k7]at ai;split at ai
 ·rw[nX]at ai;simpa using ai
 ·cases ai
def aen(h:cF I M aS n xs):xs.length=n:=by obtain⟨_,_,_,_,_,_,h⟩:=h;exact h
def qk.aso{K:dA->aJ->List aD->Prop}(aO:cT X.P X.E){s:Operand}{t:Nat}(aH:o.op=.call { callee:=.builtin .append,args:=#[s,x],argTypes:=#[t,t] })
  {e:Nat} (av:X.E t=some c7) (dR:c7.bL=.slice e) (he:X.E e=some aF)
  {sa:Addr} (ar:bE F s=.val (.slice (some sa) n n)) (bl:cF I M sa (n*aF.size) xs)
 (ad:bE F x=.val (.slice (some aS) m c')) (hm:0<m) (aB:cF I M aS (m*aF.size) b8) (b1:n+m<=maxLen) (bW:(n+m)*aF.bytes<=140737488355328)
  (M':aY->List aD) (yq:∀ bs:aY,(bs.aq e++M).Perm (M' bs))
  (k:∀ bs:aY,bs.n=n+m->(∀ g,bs.a=some g->I g=none/\g ∉ X.foot)->bs.ok aF.size (xs++b8)->K (.val bs.val) I (M' bs)):qk X o F C I M K:=by
 refine⟨fun β a w Q aV=>?_⟩;have ij:=aen bl;have yL:=aen aB;have e7:∀ w,eE I M w->(Builtin.firstCells aF.size m (.slice (some aS) m c')).run X.P w=.ok b8.toArray w:=λw hw=>asn aB hw;obtain⟨inf,z,hi,fr,iN,iw,kp⟩:=(aO _ _ he).inf;obtain⟨fL,jL,j7⟩:=(aO _ _ av).fo;have qp:fL=.slice e:=by rw[dR]at j7;cases fL<;>simp_all[fm]
 subst qp;have qo:z.cells.size=inf.size:=by rw[fr,<-(aO _ _ he).len,<-kp];simp
 rw[<-fr]at ij yL e7;obtain⟨c,aT,fa,a8,ba,bQ,ft⟩:=asm (P:=X.P) (w:=w) t t o.type e inf z jL jL (λk cX=>by cases cX) hi iw qo ij (λw' xT j v ai=>bl.Me (aV.holds.heap xT) j v ai) (x:=.slice (some aS) m c') hm yL (λ_=>rfl) (λw' xT=>e7 w' (aV.holds.heap xT)) b1 (by rw[iN];exact bW);rw[fr]at a8 ft ij yL;have zs:I w.heap.size=none:=by
  cases bw:I w.heap.size with
  |none=>rfl| some nC=>have:=aV.holds.i _ _ bw;simp at this
 have es:=dd aV.al ar;have ex:=dd aV.al ad;have kK:(⟨some w.heap.size,n+m,c,aT⟩:aY).ok aF.size (xs++b8):=by
  refine⟨?_,(λh=>by cases h),λdK au=>?_⟩;·rw[ch,ij,yL,<-lO]
  ·cases au;exact⟨a8,ba,bQ,ft⟩
 refine iY (by rw[aH];simp) (v:=.slice (some ⟨w.heap.size,0,none⟩) (n+m) c) (w':=w.drew.alloc (.cells aT.toArray e (0,0))) ?_ ⟨_,.val (.slice (some ⟨w.heap.size,0,none⟩) (n+m) c),I,M' ⟨some w.heap.size,n+m,c,aT⟩,rfl,rfl,?_,k ⟨some w.heap.size,n+m,c,aT⟩ rfl (λdK au=>by cases au;exact⟨zs,λhm=>by have aa:=aV.fp _ hm;have ab:=aV.sz;omega⟩) kK,rfl⟩
 ·unfold execOp;simp only[aH,resolve,invoke,builtin,ck,c3,bV,su,b0,hy,es,ex,fa]
 ·refine cK.hW ?_ (.perm (yq _) .refl);have ab:cK X β a w.drew F C I M:=aV.world rfl;exact ab.nY (.cells aT.toArray e (0,0))
end
namespace aQ
mutual
def paths:aQ->List (List Int)
 |mk _ ks=>[]::vD 0 ks
def vD:Nat->List aQ->List (List Int)
 |_,[]=>[]| i,c::cs=>c.paths.map (λp=>(i:Int)::p)++vD (i+1) cs
end
def JB(d:ao)(ks:List aQ):(mk d ks).paths=[]::vD 0 ks:=by rw[paths]
def Ut(i:Nat)(c:aQ)(cs:List aQ):vD i (c::cs)=c.paths.map (λp=>(i:Int)::p)++vD (i+1) cs:=by rw[vD]
def Uu(i:Nat):vD i []=[]:=by rw[vD]
def aeo(T:aQ):0<T.paths.length:=by
 cases T with
 |mk d ks=>rw[JB];simp
end aQ
def nW(l:List Int):List Value:=l.map (.int .i64 ·)
def asp(I:aJ)(p:List Int)(v:Value):Prop:=∃ a c,v=.slice a p.length c/\de I a p.length c 1 8 (nW p)/\(p.length=0->a=none)
def Uv(h:c≠b):ins I b o c=I c:=by unfold ins;rw[hs h];rfl
def aep(t:bS)(k:Int)(a:Option Addr)(n c:Nat):Spec Tryz.prog 98 [t.val,.int .i64 k,.slice a n c] I [] λr I' M'=>∃ b1 bW cY,r=.func (.func 152) #[] #[ptr b1,ptr bW,ptr cY]/\I' b1=some (.cells #[.slice a n c] 55 (0,0))/\I' bW=some (.cells #[.slice t.a t.n t.c,.int .i64 t.bn] 31 (0,0))/\I' cY=some (.cells #[.int .i64 k] 3 (0,0))/\(∀ b o,I b=some o->I' b=some o)/\M'=[]:=by
 refine cb [3,4,5] a6 Tryz.func98 rfl rfl rfl ?_;intro B az;refine bX.mk λcY tZ Up=>?_;refine bX.mk λhp Il yx=>?_;refine bX.mk λeu Ee TC=>?_;have asq:cY≠hp:=yx _ (.head _);have asr:hp≠eu:=TC _ (.head _);have ass:cY≠eu:=TC _ (.tail _ (.head _));have aI:ins I eu (.cells #[.slice a n c] 55 (0,0)) hp=none:=by rw[Uv asr];exact Il
 have aj:ins (ins I eu (.cells #[.slice a n c] 55 (0,0))) hp (.cells #[.int .i64 k] 3 (0,0)) cY=none:=by rw[Uv asq,Uv ass];exact tZ
 refine⟨_,_,.kN rfl (by simp) (.kN rfl (by simp) (.kN rfl (by simp) .refl)),eu,cY,hp,rfl,?_,mo ..,?_,λb o h=>hL aj _ _ (hL aI _ _ (hL Ee _ _ h)),rfl⟩
 ·exact hL aj _ _ (hL aI _ _ (mo ..))
 ·exact hL aj _ _ (mo ..)
def ast(a9:List Int)(T:aQ)(j:Nat)(vs:List Value)(I:aJ):Prop:=∃ p v,T.paths[j]?=some p/\vs=[v]/\asp I (a9++p) v
def qk.asu{X:cU}{F:Fr}{C:dC}{o:Oper}{K:dA->aJ->List aD->Prop}(aO:cT X.P X.E){s:Operand}{t:Nat}(aH:o.op=.call { callee:=.builtin .append,args:=#[s,x],argTypes:=#[t,t] })
  {e:Nat} (av:X.E t=some c7) (dR:c7.bL=.slice e) (he:X.E e=some aF) (kw:aF.size=1)
 (af:de I a n c 1 8 (nW p)) (az:n=0->a=none) (ar:bE F s=.val (.slice (if n=0 then a else a.map (·.add (0*1))) (n-0) (n-0)))
 (ad:bE F x=.val (.slice (some ⟨b9,0,none⟩) 1 c')) (ay:cs.length=aF.size) (aa:gv cs=true)
  (a':(⟨b9,.cells cs.toArray e (0,0)⟩:aD)∈M) (b1:n+1<=9223372036854775807) (bW:(n+1)*aF.bytes<=140737488355328)
  (k:∀ bs:aY,bs.n=n+1->(∀ g,bs.a=some g->I g=none/\g ∉ X.foot)->bs.ok 1 (nW p++cs)->K (.val bs.val) I (bs.aq e++M)):qk X o F C I M K:=by
 have po:=af.len;have aeq:cF I M ⟨b9,0,none⟩ (1*aF.size) cs:=by rw[oD];refine⟨rfl,_,_,_,.inr ⟨⟨b9,.cells cs.toArray e (0,0)⟩,a',rfl,rfl⟩,?_,ay⟩;simp only[vW];exact fA (by omega)
 by_cases aB:n=0
 ·subst aB;have aC:nW p=[]:=iy (by omega);rw[aC]at k;rw[az rfl]at ar;refine .acS aO aH av dR he h6 (xs:=[]) (lv _) (ar.trans rfl) ad (by decide) aeq aa (Mr:=M) (.refl _) (by unfold maxLen;exact b1) bW _ (λ_=>.refl _) λbs ab aj aI=>k bs ab (λg au=>⟨(aj g au).1,(aj g au).2 rfl⟩) (by rw[kw]at aI;exact aI)
 ·rcases af.rd with h | ⟨aS,bH,dL,HD,T,al,bw,ah⟩
  ·exact absurd h aB
  rw[bR aB,bH]at ar;refine .aso aO aH av dR he (sa:=aS.add (0*1)) (n:=n) (xs:=nW p) (ar.trans rfl) ?_ ad (by decide) aeq (by unfold maxLen;exact b1) bW _ (λ_=>.refl _) λbs ab aj aI=>k bs ab aj (by rw[kw]at aI;exact aI);rw[kw];exact⟨dL,HD,T,al,.inl bw,by simpa[Addr.add]using ah,po⟩
def aer{t:bS}(af:right t=true)(hD:t.n<=1099511627776):∀ (m k:Nat),k<m->(ae:k<t.ns.length)->∀ {I:aJ} (av:t.ok I) {a9:List Int} {a:Option Addr} {n c:Nat} (jz:a9.length=n) (c2:n+k<=1099511627776) (NR:de I a n c 1 8 (nW a9)) (gS:n=0->a=none) {b1 bW cY:Nat} (ho:I b1=some (.cells #[.slice a n c] 55 (0,0))) (gY:I bW=some (.cells #[.slice t.a t.n t.c,.int .i64 t.bn] 31 (0,0))) (tZ:I cY=some (.cells #[.int .i64 (k:Int)] 3 (0,0))),VP Tryz.prog 152 [ptr b1,ptr bW,ptr cY] I (gr t.ns k).paths.length (ast a9 (gr t.ns k))
 |0,k,h,_,_,_,_,_,_,_,_,_,_,_,_,_,_,_,_,_=>absurd h (nT _)
 |m+1,k,awo,ae,I,av,a9,a,n,c,jz,c2,NR,gS,b1,bW,cY,ho,gY,tZ=>by
  intro y R kS xP qx dn M0 lr iA;have T9:=av.n;refine za [4] a6 Tryz.func152 rfl rfl rfl ?_;intro B az;have FT:∀ (I1:aJ) (M:List aD),(∀ b o,I b=some o->I1 b=some o)->cF I1 M ⟨b1,0,none⟩ 1 [.slice a n c]:=λI1 M cH=>⟨rfl,_,_,_,.inl (cH _ _ ho),rfl,rfl⟩;have FF:∀ (I1:aJ) (M:List aD),(∀ b o,I b=some o->I1 b=some o)->cF I1 M ⟨bW,0,none⟩ 2 [.slice t.a t.n t.c,.int .i64 t.bn]:=λI1 M cH=>⟨rfl,_,_,_,.inl (cH _ _ gY),rfl,rfl⟩;have asv:∀ (I1:aJ) (M:List aD),(∀ b o,I b=some o->I1 b=some o)->cF I1 M ((⟨bW,0,none⟩:Addr).add 0) 1 [.slice t.a t.n t.c]:=λI1 M cH=>⟨rfl,_,_,_,.inl (cH _ _ gY),rfl,rfl⟩;have FH:∀ (I1:aJ) (M:List aD),(∀ b o,I b=some o->I1 b=some o)->cF I1 M ⟨cY,0,none⟩ 1 [.int .i64 (k:Int)]:=λI1 M cH=>⟨rfl,_,_,_,.inl (cH _ _ tZ),rfl,rfl⟩;have bu:=xf af ae;have oA:=aQ.aeo (gr t.ns k);have asw:(gr t.ns k).paths[0]?=some []:=by rw[bu,aQ.JB];rfl
  refine bX.mk λhp Il yx=>?_;refine aM.mk [.func (.yield y) #[] #[]] (c4 (cs:=[.func (.yield y) #[] #[]]) (k:=0) (n:=1) (.head _) (by simp)) ?_;refine aM.mk _ (FT _ _ lr) ?_;refine bz.yield rfl (by simp) rfl rfl ?_;have aE:=qx 0 oA [.slice a n c] dn M0 lr ⟨[],_,asw,rfl,a,c,by rw[ee,jz],by rw[ee,jz];exact NR.mono lr,by rw[ee,jz];exact gS⟩ iA;refine zm.mk M0 [_] _ (Kt _ _).symm aE ?_;rintro v dI dq e4 (⟨rfl,ll⟩ | ⟨rfl,ad⟩)
  rotate_left
  ·refine a2.mk (λ_=>?_) (λh=>by simp at h);exact⟨_,_,.sub (tK _ _) .refl,.inr ad⟩
  refine a2.mk (λh=>by simp at h) (λ_=>?_);have FV:∀ b o,I b=some o->dI b=some o:=λb o h=>e4 _ _ (lr _ _ h);obtain⟨aS,bH,asx⟩:=av.a0.row ao.cP (j:=k) (by omega) ae;have hK:=av.ns _ (br ae);have e':=hK.aN;have rU:=hK.a0.cap;refine aM.mk _ (asv _ _ FV) ?_;refine aM.mk _ (FH _ _ FV) ?_;refine bd.mk aS k bH rfl (by omega) ?_;refine aM.mk _ (((asx _).mono FV).part (k:=8) (m:=1) (by decide)) ?_;have asy:hp ∉ M0.map (·.num):=λhm=>by obtain⟨x,ad,e⟩:=cN.1 hm;exact yx x ad e
  refine di.vU (ι:=Nat×Nat×aJ×List aD) (λx=>{ bi:=[(1,.val (ptr b1)),(2,.val (ptr bW)),(3,.val (ptr cY)),(4,.val (ptr hp)),(17,.val (.slice t.ns[k].dB t.ns[k].aN t.ns[k].dp)),(18,.val (.int .i64 t.ns[k].aN)),(19,.val (.int .i64 (x.1:Int)))],cD:=x.2.2.1,c0:=x.2.2.2 }) (λx=>x.1<=t.ns[k].aN/\(∀ b o,I b=some o->x.2.2.1 b=some o)/\x.2.2.1 hp=some (.cells #[.func (.yield y) #[] #[]] 216 (0,0))/\R x.2.1 x.2.2.1 x.2.2.2/\x.2.1<=(gr t.ns k).paths.length/\(gr t.ns k).paths.drop x.2.1=aQ.vD x.1 ((t.ns[k].aw.map (gr t.ns)).drop x.1)) (λx=>t.ns[k].aN-x.1) ?_ ?_;·intro fD;have aes:dI hp=none:=fD.d _ (qg _ (.head _));refine⟨(0,1,ins dI hp _,dq),⟨dD _,λb o h=>hL aes _ _ (FV _ _ h),mo ..,xP _ _ _ _ (hL aes) ll,by simp only;omega,?_⟩,.perm (Kt _ _) (.kN rfl asy .refl),ri,.nil⟩;simp only[vW];rw[bu,aQ.JB];rfl
  rintro⟨i,p0,J,M1⟩⟨hi,bk,hU,g4,Fc,kf⟩;simp only at hi bk hU g4 Fc kf;refine a2.mk (λh=>?_) (λh=>?_)
  rotate_left
  ·have cI:¬ (i:Int)<(t.ns[k].aN:Int):=ek h;have aG:(t.ns[k].aw.map (gr t.ns)).drop i=[]:=kr (by rw[bI];omega);rw[aG,aQ.Uu,DX]at kf;have:p0=(gr t.ns k).paths.length:=by omega
   subst this;exact⟨_,_,.refl,.inl g4⟩
  have aX:i<t.ns[k].aN:=by have:(i:Int)<(t.ns[k].aN:Int):=dw h;omega
  have cj:i<t.ns[k].aw.length:=by omega
  obtain⟨ac,asz,zO⟩:=hK.a0.one aX cj;have AA:=mj af k ae _ (br cj);obtain⟨q,aR⟩:=eH AA.1;have awp:q<k:=by omega
  rw[aR]at zO;have FC:(t.ns[k].aw.map (gr t.ns)).drop i=gr t.ns q::(t.ns[k].aw.map (gr t.ns)).drop (i+1):=by rw[eV (by rw[bI];exact cj),f',aR]
  rw[FC,aQ.Ut]at kf;refine bd.mk ac i asz rfl aX ?_;refine aM.mk _ ((zO _).mono bk) ?_;refine cV.agR (λi=>Nat.beq i 0) a6 rfl rfl rfl ?_;refine aM.mk _ (FF _ _ bk) ?_;refine aM.mk _ (FT _ _ bk) ?_;refine aM.mk _ (FT _ _ bk) ?_;refine aM.mk _ (FT _ _ bk) ?_;refine On.mk n n rfl rfl (ca _) NR.cap.1 ?_;refine bX.mk λb9 jM s8=>?_;intro G jc;refine qk.asu a6 rfl (e:=3) rfl rfl rfl rfl (NR.mono bk) gS (Na (jc _ (by simp[Op.operands,Call.operands])) rfl) (b9:=b9) (cs:=[.int .i64 (i:Int)]) (Na (jc _ (by simp[Op.operands,Call.operands])) rfl) rfl rfl (.head _) (by omega) (by show(n+1)*8<=_;omega) ?_;intro os K8 asA bT;refine be.y1 [] _ _ (.refl _) (aep t q (os.a.map λg=>⟨g,0,none⟩) os.n os.c) ?_;rintro v dh sA dY uC⟨gy,gE,qC,rfl,ua,yo,FW,-,rfl⟩;have asB:∀ b o,I b=some o->dh b=some o:=λb o h=>dY _ _ (bk _ _ h);have Dj:∀ b o,dh b=some o->FP dh os 3 b=some o:=arN (M:=[]) λx ad=>uC x (by
   simp only[ee]at ad;simp[ad])
  have lF:∀ b o,I b=some o->FP dh os 3 b=some o:=λb o h=>Dj _ _ (asB _ _ h);have asC:nW a9++[.int .i64 (i:Int)]=nW (a9++[(i:Int)]):=by simp[nW]
  rw[asC]at bT;have asD:(a9++[(i:Int)]).length=os.n:=by rw[ch,pN];omega
  have BE:=aer af hD m q (by omega) (by omega) (av.mono lF) (a9:=a9++[(i:Int)]) (a:=os.a.map λg=>⟨g,0,none⟩) (n:=os.n) (c:=os.c) asD (by omega) (arO bT (by omega)) (λh=>by omega) (Dj _ _ ua) (Dj _ _ yo) (Dj _ _ FW);refine cV.Kk (A:=v8) v8.cons a6 rfl rfl rfl (I1:=FP dh os 3) (M1:=M1) (.sub ((DV _ _).append_left _) (arM λg au=>(asA g au).2)) BE (λk vs I h aR=>by
    obtain⟨p,v,-,rfl,-⟩:=aR;rfl) (λj I M=>R (p0+j) I M) (λex I M=>ex=.ret/\kS I M) (λk I I' M h aV=>xP _ _ _ _ h aV) (xP _ _ _ _ (λb o h=>Dj _ _ (dY _ _ h)) g4) ?_ ?_ ?_
  ·rintro j ai vs I' M' kP⟨p,v,aC,rfl,CI⟩rv l B az iO;refine aM.mk [.func (.yield y) #[] #[]] ⟨rfl,_,_,_,.inl (kP _ _ (Dj _ _ (dY _ _ hU))),rfl,rfl⟩ ?_;refine bz.yield rfl (by simp) rfl rfl ?_;have fc:(gr t.ns k).paths[p0+j]?=some ((i:Int)::p):=by rw[<-nX,kf,rj (by rw[bI];exact ai),jH,aC];rfl
   have adN:=(ia.1 fc).1;have aE:=qx (p0+j) adN [v] I' M' (λb o h=>kP _ _ (lF _ _ h)) ⟨_,v,fc,rfl,by rw[dV,rW]at CI;exact CI⟩ rv;refine zm.mk M' [] _ (by simp) aE ?_;rintro w h2 rA iH (⟨rfl,h⟩ | ⟨rfl,h⟩);·refine a2.mk (λh=>by simp at h) (λ_=>?_);exact⟨_,_,.perm (by simp) .refl,h⟩
   ·refine a2.mk (λ_=>?_) (λh=>by simp at h);exact⟨_,_,.perm (by simp) .refl,rfl,h⟩
  ·intro I' M' kP rv;refine bg.mk _ (cL (i:=i) (by omega)) ?_;intro _;refine⟨(i+1,p0+(gr t.ns q).paths.length,I',M'),⟨⟨aX,λb o h=>kP _ _ (lF _ _ h),kP _ _ (Dj _ _ (dY _ _ hU)),rv,?_,?_⟩,by simp only;omega⟩,.refl,ri,.nil⟩
   ·have:=congrArg List.length kf;rw[tp,ch,bI]at this;have:=(gr t.ns q).aeo;simp only;omega
   ·simp only;rw[<-Gy,kf,BN (by rw[bI])]
  ·rintro ex I' M' kP⟨rfl,h⟩;exact⟨by simp,_,_,.refl,.inr h⟩
structure fY where
 rule:Nat
 path:List Int
 a:Option Addr
 c:Nat
def fY.cells(x:fY):List Value:=[.int .i64 x.rule,.slice x.a x.path.length x.c]
def fY.cP(x:fY):x.cells.length=2:=rfl
structure fY.ok(I:aJ)(x:fY):Prop where
 a0:de I x.a x.path.length x.c 1 8 (nW x.path)
def fY.ok.mono{x:fY}(h:x.ok I)(bw:∀ b o,I b=some o->I' b=some o):x.ok I':=⟨h.a0.mono bw⟩
def fY.sj(x:fY):Nat×List Int:=(x.rule,x.path)
def l4:Nat->List aP->List (Nat×List Int)
 |_,[]=>[]| i,d::ds=>(cr d.t).paths.map (λp=>(i,p))++l4 (i+1) ds
def Uw:∀ (ds:List aP) (d:aP) (i:Nat),l4 i (ds++[d])=l4 i ds++(cr d.t).paths.map (λp=>(i+ds.length,p))
 |[],d,i=>by simp[l4]
 |e::ds,d,i=>by rw[m4,l4,l4,Uw ds d (i+1),dV,dx,show i+1+ds.length=i+(ds.length+1) by omega]
def asE(l:List aK):(l.flatMap aK.cE).length=(l.map λc=>c.cE.length).sum:=by rw[x']
def aet:∀ (i:Nat) (l:List aQ),(aQ.vD i l).length=(l.map λc=>c.paths.length).sum
 |_,[]=>by rw[aQ.Uu];rfl
 |i,c::l=>by rw[aQ.Ut,ch,bI,aet (i+1) l];rfl
def asF(ns:List ao):∀ T:aK,(T.bare ns).paths.length=T.cE.length:=by
 intro T
 induction T using aK.ind with
 |h k ks aL=>rw[aK.mK,aQ.JB,aK.kJ,dx,aet,ch,asE,gA,pN];congr 2;exact fR λc an=>aL c an
def asG(h:hG t):(cr t).paths.length<=t.ns.length:=by obtain⟨T,aa,ab,aj,aI,bB⟩:=h.xi;rw[aj,asF];exact bB
def NS:∀ (ds:List aP) (i:Nat),(∀ d∈ds,right d.t=true)->(l4 i ds).length<=(ds.map λd=>d.t.ns.length).sum
 |[],_,_=>ca _| d::ds,i,h=>by have aa:=asG (nc.1 (h d (.head _)));have ab:=NS ds (i+1) λe he=>h e (.tail _ he);rw[l4,ch,bI,b0,h4];omega
def asH(ds:List aP)(n:Nat):((ds.take n).map λd=>d.t.ns.length).sum<=(ds.map λd=>d.t.ns.length).sum:=by
 conv=>rhs;rw[<-rG n ds,cM,qv]
 omega
def asI(bu:ga I ax)(au:g.ok I)(ag:(g.ds.map λd=>d.t.ns.length).sum<=1048576):Spec Tryz.prog 52 [g.val] I [] λv I' M'=>(∀ b o,I b=some o->I' b=some o) /\
  ∃ (os:aY) (L:List fY),v=os.val/\os.ok 2 (L.flatMap fY.cells)/\(∀ x∈L,x.ok I')/\M'=os.aq 60/\L.map fY.sj=if dz ax g=0 then l4 0 g.ds else []:=by
 refine cb [3,4] a6 Tryz.func52 rfl rfl rfl ?_;intro B az;have fT:=au.n;have jx:=au.a0.cap;refine be.mk [] [] _ (.refl _) (PS bu au) ?_;rintro v J N -⟨rfl,bk,rfl⟩;refine a2.mk (λh=>?_) (λh=>?_)
 ·have hm:dz ax g≠0:=by have:(!decide (dz ax g=0))=true:=h;simpa using this
  refine⟨_,_,.refl,bk,h6,[],rfl,lv 2,(λx ad=>by cases ad),rfl,?_⟩;rw[bR hm];rfl
 have hm:dz ax g=0:=by have:(!decide (dz ax g=0))=false:=h;simpa using this
 have af:∀ d∈g.ds,right d.t=true:=λd ak=>by have:=fy.1 (CY.1 hm).2.1 d ak;rw[cz]at this;exact(Jt.1 this.2).1
 refine bX.mk λcY tZ Up=>?_;refine di.inv (ι:=Nat×aY×List fY×aJ) (λx=>{ bi:=[(1,.ref 1 0),(3,.val (ptr cY)),(11,.val (.slice g.a g.n g.c)),(12,.val (.int .i64 g.n)),(13,.val (.int .i64 (x.1:Int)))],cl:=[(1,[.slice g.a g.n g.c])],cD:=x.2.2.2,c0:=⟨cY,.cells #[x.2.1.val] 82 (0,0)⟩::x.2.1.aq 60 }) (λx=>x.1<=g.n/\(∀ b o,I b=some o->x.2.2.2 b=some o)/\x.2.1.ok 2 (x.2.2.1.flatMap fY.cells)/\(∀ y∈x.2.2.1,y.ok x.2.2.2)/\x.2.2.1.map fY.sj=l4 0 (g.ds.take x.1)) (λx=>g.n-x.1) ?_ ?_
 ·exact⟨(0,h6,[],J),⟨dD _,bk,lv 2,(λy aE=>by cases aE),rfl⟩,.refl,hn,.cons rfl (.nil)⟩
 rintro⟨i,os,L,K⟩⟨hi,dZ,bT,cc,np⟩;simp only at hi dZ bT cc np;refine a2.mk (λh=>?_) (λh=>?_)
 rotate_left
 ·have cI:¬ (i:Int)<(g.n:Int):=ek h;refine aM.mk [os.val] (c4 (cs:=[os.val]) (k:=0) (n:=1) (T:=82) (.head _) (by simp)) ?_;refine⟨_,_,.sub (DV _ _) .refl,dZ,os,L,rfl,bT,cc,rfl,?_⟩;rw[bN hm,np,fA (by omega)]
 have aX:i<g.n:=by have:(i:Int)<(g.n:Int):=dw h;omega
 have cj:i<g.ds.length:=by omega
 obtain⟨aS,bH,bl⟩:=au.a0.row aP.cP aX cj;have ak:=au.ds _ (br cj);have o6:=af _ (br cj);have m0:g.ds.take (i+1)=g.ds.take i++[g.ds[i]]:=gg cj;have NG:=NS (g.ds.take (i+1)) 0 λd ak=>af d (Kv ak);have r7:=asH g.ds (i+1);rw[m0,Uw,ch,bI,<-np,bI]at NG;rw[m0]at r7;have hD:=ak.t.n;obtain⟨k4,iT⟩:=qw o6;obtain⟨r,fJ⟩:=eH k4;have awq:g.ds[i].t.ns.length<=1048576:=by rw[cM,qv]at r7;simp only[b0,hy,h4,D1]at r7;omega
 generalize oH:g.ds[i]=d at *;obtain⟨og,⟨ns,ji,gb,jB,gq⟩⟩:=d;refine bd.mk aS i bH rfl aX ?_;refine aM.mk _ ((bl _).mono dZ) ?_;refine bX.mk λhp Il yx=>?_;refine b2.mk [] (⟨cY,.cells #[os.val] 82 (0,0)⟩::os.aq 60) #[.int .i64 0] 3 rfl rfl (bJ rfl) rfl ?_;refine be.y1 [] _ _ (.refl _) (aep ⟨ns,ji,gb,jB,gq⟩ gq none 0 0) ?_;rintro v dh sA dY uC⟨gy,gE,qC,rfl,ua,yo,FW,-,rfl⟩;have hU:dh hp=none:=uC _ (.head _);have yM:∀ b o,dh b=some o->ins dh hp (.cells #[.int .i64 (i:Int)] 3 (0,0)) b=some o:=hL hU;have aeu:∀ b o,I b=some o->ins dh hp (.cells #[.int .i64 (i:Int)] 3 (0,0)) b=some o:=λb o h=>yM _ _ (dY _ _ (dZ _ _ h));have j7:=ak.t.mono aeu;have Ux:ns.length=gb:=hD;have fv:r<ns.length:=by have awr:gq<(ns.length:Int):=iT;have aws:gq=(r:Int):=fJ;omega
 rw[show gq=(r:Int)from fJ]at FW;have BE:=aer o6 (by omega) (r+1) r (A' _) fv j7 (a9:=[]) (a:=none) (n:=0) (c:=0) rfl (by omega) ⟨rfl,⟨ca _,by omega⟩,.inl rfl⟩ (λ_=>rfl) (yM _ _ ua) (yM _ _ yo) (yM _ _ FW);have rz:cr ⟨ns,ji,gb,jB,gq⟩=gr ns (r:Int):=by unfold cr;rw[show gq=(r:Int)from fJ]
 have awt:L.length+(gr ns (r:Int)).paths.length<=1048576:=by have aa:L.length+(cr ⟨ns,ji,gb,jB,gq⟩).paths.length<=_:=NG;rw[rz]at aa;omega
 refine cV.Kk (A:=v8) v8.cons a6 rfl rfl rfl (I1:=ins dh hp (.cells #[.int .i64 (i:Int)] 3 (0,0))) (M1:=⟨cY,.cells #[os.val] 82 (0,0)⟩::os.aq 60) (.kN rfl (by simp) .refl) BE (λk vs I h aR=>by
   obtain⟨p,v,-,rfl,-⟩:=aR;rfl) (λj I' M'=>∃ (fI:aY) (hO:List fY),M'=⟨cY,.cells #[fI.val] 82 (0,0)⟩::fI.aq 60/\fI.ok 2 (hO.flatMap fY.cells)/\(∀ y∈hO,y.ok I')/\hO.map fY.sj=l4 0 (g.ds.take i)++((gr ns (r:Int)).paths.take j).map λp=>(i,p)) (λex I M=>False)
  (λk I I' M h ⟨fI,hO,aa,ab,aj,aI⟩=>⟨fI,hO,aa,ab,λy aE=>(aj y aE).mono h,aI⟩) ⟨os,L,rfl,bT,λy aE=>(cc y aE).mono (λb o h=>yM _ _ (dY _ _ h)),by simpa using np⟩ ?_ ?_ (λex I' M' _ h=>h.elim)
 ·rintro j ai vs I' M' kP⟨p,v,aC,rfl,a,c,rfl,aev,gS⟩⟨fI,hO,rfl,q1,nS,uk⟩l B az iO;rw[iz]at aev gS;simp only[iz];have bB:=congrArg List.length uk;rw[bI,ch,bI,hx,<-np,bI]at bB;have b4:=q1.len;rw[iQ _ 2 fY.cP]at b4;refine aM.mk [fI.val] (c4 (cs:=[fI.val]) (k:=0) (n:=1) (T:=82) (.head _) (by simp)) ?_;refine aM.mk [.int .i64 (i:Int)] ⟨rfl,_,_,_,.inl (kP _ _ (mo ..)),rfl,rfl⟩ ?_;refine bX.mk λb9 jM s8=>?_;refine bz.oZ a6 rfl (by simp) (e:=60) rfl rfl rfl fI q1 rfl (cs:=[.int .i64 (i:Int),.slice a p.length c]) rfl rfl rfl [_] [] (by rw[ee];rfl) (by omega) (by show(fI.n+1)*32<=_;omega) ?_;intro w8 aa ab aj;refine b2.mk [] (w8.aq 60++[]) #[fI.val] 82 rfl rfl (bJ rfl) rfl ?_;refine⟨_,_,.n' (by rw[ee];rfl),w8,hO++[⟨i,p,a,c⟩],rfl,?_,?_,?_⟩
  ·rw[hg,pM];exact aj
  ·intro y aE;rcases cB.1 aE with aE | aE
   ·exact nS y aE
   ·rw[ed.1 aE];exact⟨aev⟩
  ·obtain⟨tw,mC⟩:=ia.1 aC;rw[cM,uk,gg tw,cM,mC,dV];rfl
 ·rintro I' M' kP⟨fI,hO,rfl,q1,nS,uk⟩;refine bg.mk _ (cL (i:=i) (by omega)) ?_;refine⟨(i+1,fI,hO,I'),⟨⟨aX,λb o h=>kP _ _ (aeu _ _ h),q1,nS,?_⟩,by simp only;omega⟩,.refl,hn,.cons rfl (.nil)⟩;simp only;rw[uk,m0,Uw,fA (ca _),<-rz,hx,c8,uu (by omega)]
def aew(_:ao)(xs:List Nat):Nat:=xs.sum+1
def dv(T:aQ):Nat:=T.fold aew
def kj(d:ao)(ks:List aQ):dv (.mk d ks)=(ks.map dv).sum+1:=by unfold dv;rw[aQ.fold_eq];rfl
def asJ(T:aQ):0<dv T:=by
 cases T with
 |mk d ks=>rw[kj];omega
def asK:∀ T:aQ,T.post.length=dv T:=by
 intro T
 induction T using aQ.ind with
 |h d ks aL=>rw[aQ.pP,aoY,kj,gA];congr 2;exact fR λc an=>aL c an
def asL(ns:List ao):∀ T:aK,dv (T.bare ns)=T.cE.length:=by
 intro T
 induction T using aK.ind with
 |h k ks aL=>rw[aK.mK,kj,aK.kJ,ch,x',gA,pN];congr 2;exact fR λc an=>aL c an
def aex{α:Type}(f:α->Nat)(p:α->Bool):∀ l:List α,((l.filter p).map f).sum<=(l.map f).sum
 |[]=>ca _
 |a::l=>by
  have:=aex f p l;rw[pu];split<;>simp only[b0,h4]<;>omega
def asM(d:ao)(xs:List aQ):dv (ir d xs)<=(xs.map dv).sum+1:=by
 rw[C8];split
 ·have h:=aex dv (iK d) xs;generalize xs.filter (iK d)=bi at h
  match bi,h with
  |[],_=>rw[kj];simp| [y],h=>simp only[b0,hy,h4,D1]at h;show dv y<=_;omega| w9::xb::l,h=>rw[kj];omega
 ·rw[kj];exact ca _
def asN:∀ T:aQ,dv (T.fold ir)<=dv T:=by
 intro T
 induction T using aQ.ind with
 |h d ks aL=>rw[aQ.fold_eq,kj];refine k' (asM d _) ?_;rw[gA];have:=MZ (l:=ks) (f:=dv ∘ aQ.fold ir) (g:=dv) λc an=>aL c an;omega
def JC(f:aQ->List aQ):∀ l:List aQ,((l.flatMap f).map dv).sum=(l.map λc=>((f c).map dv).sum).sum
 |[]=>rfl| a::l=>by rw[j6,cM,qv,JC f l];rfl
def asO:∀ T:aQ,dv T.bo<=dv T/\∀ cw,((T.fx cw).map dv).sum<=dv T:=by
 intro T
 induction T using aQ.ind with
 |h d ks aL=>
  have nn:dv (aQ.mk d ks).bo<=dv (.mk d ks):=by show dv (.mk d (ks.flatMap (aQ.fx (hq d))))<=_;rw[kj,kj,JC];have:=MZ (l:=ks) (f:=λc=>((c.fx (hq d)).map dv).sum) (g:=dv) λc an=>(aL c an).2 _;omega
  refine⟨nn,λcw=>?_⟩;rw[aQ.p3];split;·rw[JC,kj];have:=MZ (l:=ks) (f:=λc=>((c.fx cw).map dv).sum) (g:=dv) λc an=>(aL c an).2 _;omega
  ·simpa using nn
def aey(T:aQ):dv T.ki<=dv T:=k' (asO _).1 (asN T)
def JD:∀ (l:List Nat) (i x:Nat) (h:i<l.length),(l.set i x).sum+l[i]=l.sum+x
 |[],i,x,h=>by simp at h
 |a::l,0,x,h=>by simp;omega
 |a::l,i+1,x,h=>by have:=JD l i x (by simpa using h);simp only[List.set_cons_succ,h4,Gu];omega
def NT{X S:aQ}:∀ (p:List Int) (T:aQ),T.go p=some S->dv (T.put p X)+dv S=dv T+dv X
 |[],T,h=>by rw[aQ.go]at h;cases h;rw[aQ.put];omega
 |i::p,.mk d ks,h=>by
  rw[aQ.go]at h;split at h
  ·rename_i hi;have hi:0<=i/\i<(ks.length:Int):=hi;obtain⟨q,rfl⟩:=eH hi.1;have aR:q<ks.length:=by omega
   have a7:ks.getD q (.mk d ks)=ks[q]:=by simp[bA,aR]
   have aL:=NT (X:=X) p _ h;rw[aQ.put];show dv (aQ.mk d (ks.set q ((ks.getD q (.mk d ks)).put p X)))+_=_;have aL:dv ((ks.getD q (.mk d ks)).put p X)+dv S=dv (ks.getD q (.mk d ks))+dv X:=aL;rw[a7]at aL |-;rw[kj,kj,pw];have aj:=JD (ks.map dv) q (dv (ks[q].put p X)) (by rw[bI];exact aR);rw[f']at aj;omega
  ·cases h
def aez(h:right t=true):dv (cr t)<=t.ns.length:=by obtain⟨T,aa,ab,aj,aI,bB⟩:=(nc.1 h).xi;rw[aj,asL];exact bB
def aeA(av:t.ok I)(af:right t=true)(aB:t.n<=1099511627776):vh t:=λd ak=>by have aV:=nc.1 af;obtain⟨j,ai,rfl⟩:=ka ak;obtain⟨T,aa,ab,-,aI⟩:=aV.lt ai;have ae:=ab.w7;rw[aa,gm ai]at ae;have bB:=M6 aI λx ad=>ab.lt x ad;have b4:=FE T;have ef:=AO T.sub;have fl:=(av.ns _ (br ai)).aN;have dW:=av.n;rw[ae]at fl;simp only[eL,bI]at fl;omega
def asP(au:g.ok I)(hu:u<g.ds.length)(af:right g.ds[u].t=true)(aC:de I pa pn jq 1 8 (nW path)){S:aQ}(cO:(cr g.ds[u].t).go path=some S) :
  Spec Tryz.prog 89 [g.val,NH (u:Int) pa pn jq] I M0 λv I' M'=>I'=I/\M'=M0/\∃ d∈g.ds[u].t.ns,v=.agg d.cells.toArray/\d.bare=S.d:=by
 have aV:=nc.1 af;obtain⟨T,jA,il,oj,JA,NF⟩:=aV.xi;rw[oj,bare_go]at cO;obtain⟨U,eb,rfl⟩:=sk.1 cO;have fT:=au.n;obtain⟨aS,bH,bl⟩:=au.a0.row aP.cP (j:=u) (by omega) hu;have ak:=au.ds _ (br hu);generalize g.ds[u]=d at *;obtain⟨og,⟨ns,ji,gb,jB,gq⟩⟩:=d;have j7:=ak.t;simp only at jA il eb aV;have hD:ns.length=gb:=j7.n;have jz:path.length=pn:=by have:=aC.len;simpa[nW]using this
 have Mp:=aC.cap;refine cb [] a6 Tryz.func89 rfl rfl rfl ?_;intro B az;refine bd.mk aS u bH rfl (by omega) ?_;refine aM.mk [.slice ji gb jB,.int .i64 gq] ((bl _).part (k:=1) (m:=2) (by decide)) ?_;refine di.inv (ι:=Nat×aK) (λx=>{ bi:=[(4,.ref 4 0),(5,.ref 5 0),(6,.val (.int .i64 x.2.bh)),(19,.val (.slice pa pn jq)),(20,.val (.int .i64 pn)),(21,.val (.int .i64 (x.1:Int)))],cl:=[(4,uf.cells),(5,[.slice ji gb jB,.int .i64 gq])],cD:=I,c0:=M0 }) (λx=>x.1<=pn/\cq ns x.2/\x.2.go (path.drop x.1)=some U) (λx=>pn-x.1) ?_ ?_
 ·refine⟨(0,T),⟨dD _,il,eb⟩,.refl,?_,.cons rfl (.cons rfl (.nil))⟩;rw[<-jA];exact oB
 rintro⟨i,W⟩⟨hi,hX,AZ⟩;simp only at hi hX AZ;have JE:=hX.mJ;obtain⟨ls,lu,hZ⟩:=j7.a0.row ao.cP (j:=W.bh) (show W.bh<gb by omega) JE;have yH:=j7.ns _ (br JE);have we:=hX.w7;rw[gm JE]at we;refine a2.mk (λh=>?_) (λh=>?_)
 ·have dM:i<pn:=by have:(i:Int)<(pn:Int):=dw h;omega
  have lR:i<path.length:=by omega
  obtain⟨T7,Nn,np⟩:=aC.one dM lR;have j8:path.drop i=path[i]::path.drop (i+1):=eV lR;rw[j8,aK.go]at AZ;split at AZ
  rotate_left
  ·cases AZ
  rename_i pR;generalize path[i]=z at *;obtain⟨z,rfl⟩:=eH pR.1;have bb:z<W.sub.length:=by omega
  have e':=yH.aN;have cA:ns[W.bh].aw.length=W.sub.length:=by rw[we];simp[eL]
  obtain⟨gk,fu,fb⟩:=yH.a0.one (j:=z) (by omega) (by omega);have T8:ns[W.bh].aw[z]'(by omega)=((W.sub[z]).bh:Int):=by
   have aa:ns[W.bh].aw[z]?=(eL W.sub)[z]?:=by rw[we]
   rw[dg (by omega)]at aa;unfold eL at aa;rw[jH,dg bb]at aa;exact fh aa
  rw[T8]at fb;have df:W.sub.getD ((z:Nat):Int).toNat W=W.sub[z]:=by show W.sub.getD z W=_;simp[bA,bb]
  rw[df]at AZ;refine bd.mk T7 i Nn rfl dM ?_;refine aM.mk _ (np _) ?_;refine bd.mk ls W.bh lu rfl (show W.bh<gb by omega) ?_;refine aM.mk _ ((hZ _).part (k:=8) (m:=1) (by decide)) ?_;refine bd.mk gk z fu rfl (show z<ns[W.bh].aN by omega) ?_;refine aM.mk _ (fb _) ?_;refine bg.mk _ (cL (i:=i) (by omega)) ?_;exact⟨(i+1,W.sub[z]),⟨⟨dM,hX.C4 _ (br bb),AZ⟩,by simp only;omega⟩,.refl,oB,.cons rfl (.cons rfl (.nil))⟩
 ·have cI:¬ (i:Int)<(pn:Int):=ek h;rw[kr (by omega),aK.go]at AZ;cases AZ;refine bd.mk ls U.bh lu rfl (show U.bh<gb by omega) ?_;refine aM.mk _ (hZ _) ?_;refine⟨_,_,.refl,rfl,rfl,ns[U.bh],br JE,rfl,?_⟩;rw[TR,gm JE]
structure NU(ax:List Int)(g:cv)(u:Nat)(p:List Int)(d:ao)(I':aJ)(h:cv)(b:Bool):Prop where
 is:b=match sh ax g u p d with
  |some X=>xj ax g u X| none=>false
 ok:b=true->h.ok I'/\h.n=g.n/\∃ X bq,sh ax g u p d=some X/\pd bq X/\bq.ns.length=bq.n/\h.ds.map aP.a1=(eQ g.ds u bq).map aP.a1/\dz ax h=0/\∃ r,mH ax h r/\r.2=0
def Uy(hm:dz ax g=0)(aB:∀ d∈g.ds,d.t.n<=549755813888):Uk g:=⟨λd ak=>nq hm ak,aB⟩
def aeB(bu:ga I ax)(hw:AY ax g F)(au:g.ok I)(aB:∀ d∈g.ds,d.t.n<=549755813888)(Ef:g.n<=1000000)(hu:u<g.ds.length)(aC:de I pa pn jq 1 8 (nW path)){S:aQ}(cO:(cr g.ds[u].t).go path=some S){d:ao}(ak:d.bare=S.d){ub:Value}(aA:FR ax I g ub) :
  Spec Tryz.prog 77 [g.val,NH (u:Int) pa pn jq,.agg d.cells.toArray,ub] I [] λv I' M'=>(∀ b o,I b=some o->I' b=some o)/\M'=[]/\∃ (h:cv) (b:Bool),v=.tuple #[h.val,.bool b]/\NU ax g u path d I' h b:=by
 obtain⟨b1,cY,bK,s,rfl,ho,tZ,pF,e5,ar⟩:=aA.ex;have fT:=au.n;obtain⟨dc,d0,d1,d2,d3,fL,Nt,Nu,Uz,og,DR,UA⟩:=d;refine cb [] a6 Tryz.func77 rfl rfl rfl ?_;intro B az;refine a2.mk (λh=>?_) (λh=>?_)
 ·have aj:¬ dc=3:=by have:(!decide (dc=3))=true:=h;simpa using this
  exact⟨_,_,.refl,λ_ _ h=>h,rfl,⟨[],none,0,0⟩,false,rfl,by unfold sh;rw[bR aj],λh=>by cases h⟩
 have aj:dc=3:=by have:(!decide (dc=3))=false:=h;simpa using this
 refine be.mk [] [] _ (.refl _) (ar8 hw au ho tZ pF e5 ar fL) ?_;rintro v J N -⟨bk,rfl,NK,b,rfl,ag,asQ⟩;subst J;obtain⟨tns,FX,FY,FZ,F0⟩:=NK;cases aR:sg ax g fL with
 |none=>
  have Dk:b=false:=by rw[ag,aR];rfl
  subst Dk;refine a2.mk (λ_=>?_) (λh=>by cases h);exact⟨_,_,.refl,λ_ _ h=>h,rfl,⟨[],none,0,0⟩,false,rfl,by unfold sh;rw[bN aj,aR];rfl,λh=>by cases h⟩
 |some q=>
 have vE:b=true:=by rw[ag,aR];rfl
 subst vE;obtain⟨dF,eJ,eF⟩:=aec hw aR;have rV:g.ds.getD q gP=g.ds[q]:=by simp[bA,dF]
 have q3:g.ds.getD u gP=g.ds[u]:=by simp[bA,hu]
 have aeC:=asQ q aR;rw[rV]at aeC;have ad:=(au.ds _ (br dF)).t;have mG:=nq hw.m (br dF);have qG:=aB _ (br dF);have eX:g.ds[q]∈g.ds:=br dF;have si:sh ax g u path ⟨dc,d0,d1,d2,d3,fL,Nt,Nu,Uz,og,DR,UA⟩=some (((cr g.ds[u].t).put path (cr g.ds[q].t)).ki):=by unfold sh;rw[bN aj,aR,q3];show some (((cr g.ds[u].t).put path (cr (g.ds.getD q gP).t)).ki)=_;rw[rV]
 rw[<-aeC]at ad mG qG si;have iF:oo ax g u path=some (((cr g.ds[u].t).put path (cr ⟨tns,FX,FY,FZ,F0⟩)).ki):=by unfold oo;rw[q3,cO];show sh ax g u path S.d=_;rw[<-ak];exact si
 have Uf:vC g (u:Int) path (cr ⟨tns,FX,FY,FZ,F0⟩)=some (((cr g.ds[u].t).put path (cr ⟨tns,FX,FY,FZ,F0⟩)).ki):=by unfold vC p8;rw[bN (by omega),g6,q3,cO];rfl
 have aeD:=arZ (M0:=[]) bu au (Uy hw.m aB) Ef ad mG qG (rule:=(u:Int)) aC;rw[Uf]at aeD;generalize asR:((cr g.ds[u].t).put path (cr ⟨tns,FX,FY,FZ,F0⟩)).ki=X at *;refine a2.mk (λh=>by cases h) (λ_=>?_);refine be.mk [] [] _ (.refl _) aeD ?_;rintro v J N bk⟨-,rfl,h,bq,rfl,cS,ta,ey,dX,bx,FQ⟩;rw[g6]at ey;have NV:h.ds.map aP.a1=(eQ g.ds u bq).map aP.a1:=ey;have Ux:bq.ns.length=bq.n:=by
  have hm:=congrArg (λl:List aP=>l[u]?) NV;simp only[jH]at hm;have zD:u<h.ds.length:=by have:=cS.n;omega
  rw[Db hu,dg zD]at hm;have hm:=fh hm;have aa:=(cS.ds _ (br zD)).t.n;have ab:h.ds[u].t.a1=bq.a1:=congrArg aP.t hm;have aj:h.ds[u].t.ns.length=bq.ns.length:=by have:=congrArg (λt:bS=>t.ns.length) ab;simpa[bS.a1]using this
  have aI:h.ds[u].t.a1.n=bq.a1.n:=congrArg bS.n ab;have aI:h.ds[u].t.n=bq.n:=aI;omega
 obtain⟨s1,s2,-,F1⟩:=ar5 hw hu iF dX Ux ta cS.n NV;have l2:∀ e∈h.ds,vh e.t:=λe he=>by
  have bB:e.a1∈(eQ g.ds u bq).map aP.a1:=by rw[<-NV];exact cN.2 ⟨e,he,rfl⟩
  obtain⟨cX,rm,b4⟩:=cN.1 bB;have ef:e.t.a1=cX.t.a1:=(congrArg aP.t b4).symm;have fl:right cX.t=true/\cX.t.n<=1099511627776:=by
   obtain⟨i,hi,rfl⟩:=ka rm;by_cases aF:i=u;·subst aF;have dW:=Db (y:=bq) hu;rw[dg hi]at dW;rw[fh dW];refine⟨dX.right bx,?_⟩;have sD:=congrArg List.length dX.a1;rw[bI,asK,<-asR]at sD;have R9:=aey ((cr g.ds[i].t).put path (cr ⟨tns,FX,FY,FZ,F0⟩));have awu:=NT (X:=cr ⟨tns,FX,FY,FZ,F0⟩) path _ cO;have awv:=aez (nq hw.m (br hu));have asS:=aez mG;have aww:=(au.ds _ (br hu)).t.n;have awx:=aB _ (br hu);have asT:=ad.n;show bq.n<=_;simp only at asS asT qG;omega
   ·have dW:=Da (ds:=g.ds) (y:=bq) aF;have dM:i<g.ds.length:=by rw[yR]at hi;exact hi
    rw[dg hi,dg dM]at dW;rw[fh dW];exact⟨nq hw.m (br dM),by have:=aB _ (br dM);omega⟩
  refine aeA (cS.ds e he).t ?_ ?_;·rw[<-ye,ef,ye];exact fl.1
  ·have dW:e.t.a1.n=cX.t.a1.n:=congrArg bS.n ef;have dW:e.t.n=cX.t.n:=dW;omega
 refine ct.mk (λ_=>?_) (λh=>by cases h);refine be.mk [] [] _ (.refl _) (S5 (bu.mono bk) cS l2) ?_;rintro v dh N -⟨dY,rfl,r,rfl,af⟩;have bm:∀ b o,I b=some o->dh b=some o:=λb o h=>dY _ _ (bk _ _ h);refine a2.mk (λbB=>?_) (λbB=>?_)
 ·have bB:¬ r.2=0:=by have:(!decide (r.2=0))=true:=bB;simpa using this
  refine⟨_,_,.refl,bm,rfl,⟨[],none,0,0⟩,false,rfl,?_,λh=>by cases h⟩;rw[si];show false=xj ax g u X;rw[s2,et λe=>bB ((F1 r af).2 e)]
 ·have bB:r.2=0:=by have:(!decide (r.2=0))=false:=bB;simpa using this
  have pV:=(F1 r af).1 bB;refine⟨_,_,.refl,bm,rfl,h,true,rfl,?_,λ_=>⟨cS.mono dY,ta,X,bq,si,dX,Ux,NV,pV,r,af,bB⟩⟩;rw[si];show true=xj ax g u X;rw[s2,e9 pV]
def aeE(asU:aQ):∀ (i:Nat) (l:List aQ),(∀ c∈l,∀ p∈c.paths,∃ S,c.go p=some S)->∀ q∈aQ.vD i l,∃ j p S,∃ h:j<l.length,q=((i+j:Nat):Int)::p/\l[j].go p=some S
 |_,[],_,q,h=>by rw[aQ.Uu]at h;cases h
 |i,c::l,aL,q,h=>by
  rw[aQ.Ut]at h;rcases cB.1 h with h | h;·obtain⟨p,aC,rfl⟩:=cN.1 h;obtain⟨S,cO⟩:=aL c (.head _) p aC;exact⟨0,p,S,by simp,rfl,cO⟩
  ·obtain⟨j,p,S,ai,rfl,cO⟩:=aeE asU (i+1) l (λc an=>aL c (.tail _ an)) q h;exact⟨j+1,p,S,by simp;omega,by rw[show i+1+j=i+(j+1) by omega],by simpa using cO⟩
def asV:∀ (T:aQ),∀ p∈T.paths,∃ S,T.go p=some S:=by
 intro T
 induction T using aQ.ind with
 |h d ks aL=>
  intro p aC;rw[aQ.JB]at aC;rcases ec.1 aC with rfl | aC;·exact⟨_,rfl⟩
  ·obtain⟨j,q,S,ai,rfl,cO⟩:=aeE (.mk d ks) 0 ks aL p aC;refine⟨S,?_⟩;rw[aQ.go];have ix:j<(aQ.mk d ks).sub.length:=ai;rw[bN (by omega)];have e:(aQ.mk d ks).sub.getD (((0+j:Nat):Int)).toNat (.mk d ks)=ks[j]:=by rw[c8];show ks.getD j _=_;rw[bA,dg ai];rfl
   rw[e];exact cO
def aeF:∀ (ds:List aP) (i:Nat),∀ x∈l4 i ds,∃ j,∃ h:j<ds.length,x.1=i+j/\x.2∈(cr ds[j].t).paths
 |[],i,x,h=>by cases h
 |d::ds,i,x,h=>by
  rw[l4]at h;rcases cB.1 h with h | h;·obtain⟨p,aC,rfl⟩:=cN.1 h;exact⟨0,by simp,rfl,aC⟩
  ·obtain⟨j,ai,e,aC⟩:=aeF ds (i+1) x h;exact⟨j+1,by simp;omega,by omega,by simpa using aC⟩
def aeG{x:Nat×List Int}(h:x∈l4 0 g.ds):∃ hu:x.1<g.ds.length,∃ S,(cr g.ds[x.1].t).go x.2=some S:=by
 obtain⟨j,ai,e,aC⟩:=aeF g.ds 0 x h;obtain⟨u,p⟩:=x;simp only at e aC;obtain rfl:u=j:=by omega
 exact⟨ai,asV _ _ aC⟩
def pg(ax:List Int)(g:cv):List (Nat×List Int):=(l4 0 g.ds).filter (p' ax g)
def aeH{d e:ao}(h:d.bare=e):sh ax g u p d=sh ax g u p e:=by rw[<-h];rfl
def aeI(hu:u<g.ds.length){S:aQ}(cO:(cr g.ds[u].t).go p=some S){d:ao}(ak:d.bare=S.d){b:Bool}(av:NU ax g u p d I h b):p' ax g (u,p)=b:=by
 rw[av.is];unfold p' oo;have q3:g.ds.getD u gP=g.ds[u]:=by simp[bA,hu]
 simp only[q3,cO];rw[aeH ak];rfl
def aeJ(x:Nat×List Int)(a:Option Addr)(c:Nat):Value:=.agg #[.int .u8 1,.int .u8 1,.int .i64 x.1,.slice a x.2.length c,.int .i64 0]
def asW(l:List (Nat×List Int))(k:Nat)(vs:List Value)(I:aJ):Prop:=∃ x a c,l[k]?=some x/\vs=[aeJ x a c]/\de I a x.2.length c 1 8 (nW x.2)
def asX(g:cv):Spec Tryz.prog 76 [g.val] I [] λr I' M'=>∃ b1,r=.func (.func 130) #[] #[ptr b1]/\I' b1=some (.cells #[.slice g.a g.n g.c] 24 (0,0))/\(∀ b o,I b=some o->I' b=some o)/\M'=[]:=by refine cb [1] a6 Tryz.func76 rfl rfl rfl ?_;intro B az;refine bX.mk λb1 ho Nf=>?_;exact⟨_,_,.kN rfl (by simp) .refl,b1,rfl,mo ..,hL ho,rfl⟩
structure JF(ax:List Int)(I:aJ)(g:cv)(F:List aW):Prop where
 av:ga I ax
 hw:AY ax g F
 au:g.ok I
 aB:∀ d∈g.ds,d.t.n<=549755813888
 ag:g.n<=1000000
 w2:(g.ds.map λd=>d.t.ns.length).sum<=1048576
def JF.mono(h:JF ax I g F)(bw:∀ b o,I b=some o->I' b=some o):JF ax I' g F:=⟨h.av.mono bw,h.hw,h.au.mono bw,h.aB,h.ag,h.w2⟩
def asY(aC:JF ax I g F)(ho:I b1=some (.cells #[.slice g.a g.n g.c] 24 (0,0))) :
  VP Tryz.prog 130 [ptr b1] I (pg ax g).length (asW (pg ax g)):=by
 intro y R kS xP qx dn M0 lr iA;refine za [] a6 Tryz.func130 rfl rfl rfl ?_;intro B az;have hw:=aC.hw;have fT:=hw.n;have bl:∀ (I1:aJ) (M:List aD),(∀ b o,I b=some o->I1 b=some o)->cF I1 M ⟨b1,0,none⟩ 1 [.slice g.a g.n g.c]:=λI1 M cH=>⟨rfl,_,_,_,.inl (cH _ _ ho),rfl,rfl⟩;have gS:=aC.mono lr;refine aM.mk _ (bl _ _ lr) ?_;refine be.mk [] M0 _ (.refl _) (aek gS.av hw gS.au (by have:=aC.ag;omega) λd ak=>by have:=aC.aB d ak;omega) ?_;rintro ub I1 N cH⟨-,rfl,nv⟩;have UB:∀ b o,I b=some o->I1 b=some o:=λb o h=>cH _ _ (lr _ _ h);have wL:=aC.mono UB;refine aM.mk _ (bl _ _ UB) ?_;refine be.mk [] M0 _ (.refl _) (asI wL.av wL.au aC.w2) ?_;rintro v dI N e4⟨-,os,L,rfl,bT,cc,rfl,np⟩;rw[bN hw.m]at np;have FV:∀ b o,I b=some o->dI b=some o:=λb o h=>e4 _ _ (UB _ _ h);have K8:os.n=L.length:=by have:=bT.len;rw[iQ _ 2 fY.cP]at this;omega
 have awy:L.length<=1048576:=by have aa:=NS g.ds 0 λd ak=>nq hw.m ak;have ab:=congrArg List.length np;rw[bI]at ab;have:=aC.w2;omega
 refine di.inv (ι:=Nat×Nat×aJ×List aD) (λx=>{ bi:=[(0,.val (.func (.yield y) #[] #[])),(1,.val (ptr b1)),(3,.val ub),(11,.val os.val),(12,.val (.int .i64 os.n)),(13,.val (.int .i64 (x.1:Int)))],cl:=[],cD:=x.2.2.1,c0:=os.aq 60++x.2.2.2 }) (λx=>x.1<=os.n/\(∀ b o,dI b=some o->x.2.2.1 b=some o)/\R x.2.1 x.2.2.1 x.2.2.2/\x.2.1<=(pg ax g).length/\(pg ax g).drop x.2.1=((L.map fY.sj).drop x.1).filter (p' ax g)) (λx=>os.n-x.1) ?_ ?_
 ·exact⟨(0,0,dI,M0),⟨dD _,λ_ _ h=>h,xP _ _ _ _ (λb o h=>e4 _ _ (cH _ _ h)) iA,dD _,by simp only[vW];rw[np];rfl⟩,.refl,oB,.nil⟩
 rintro⟨i,p0,J,M1⟩⟨hi,bk,g4,Fc,kf⟩;simp only at hi bk g4 Fc kf;refine a2.mk (λh=>?_) (λh=>?_)
 rotate_left
 ·have cI:¬ (i:Int)<(os.n:Int):=ek h;have aG:(L.map fY.sj).drop i=[]:=kr (by rw[bI];omega);rw[aG,List.filter_nil,DX]at kf;have:p0=(pg ax g).length:=by omega
  subst this;exact⟨_,_,.sub (l' _ _) .refl,.inl g4⟩
 have aX:i<os.n:=by have:(i:Int)<(os.n:Int):=dw h;omega
 have cj:i<L.length:=by omega
 have NW:∀ b o,I b=some o->J b=some o:=λb o h=>bk _ _ (FV _ _ h);have vF:=aC.mono NW;obtain⟨aS,bH,A0⟩:=aY.ok.row (I:=J) (M:=os.aq 60++M1) fY.cP (by decide) bT (e:=60) (λx ad=>hY _ ad) cj;have Cw:=(cc _ (br cj)).mono bk;have FC:(L.map fY.sj).drop i=L[i].sj::(L.map fY.sj).drop (i+1):=by rw[eV (by rw[bI];exact cj),f']
 have eX:L[i].sj∈l4 0 g.ds:=by rw[<-np];exact Fx (br cj)
 rw[FC]at kf;generalize L[i]=x at *;obtain⟨u,path,xa,xc⟩:=x;obtain⟨hu,S,cO⟩:=aeG eX;simp only[fY.sj]at hu cO kf eX;have zS:de J xa path.length xc 1 8 (nW path):=Cw.a0;refine bd.mk aS i bH rfl aX ?_;refine aM.mk [.int .i64 (u:Int),.slice xa path.length xc] A0 ?_;have ea:=asP (M0:=[]) vF.au hu (nq hw.m (br hu)) zS cO;refine cV.BD a6 rfl rfl rfl (ι:=Nat×cv×Bool×aJ×ao) (λz=>{ bi:=[(0,.val (.func (.yield y) #[] #[])),(1,.val (ptr b1)),(3,.val ub),(5,.ref 5 0),(6,.val (ptr z.1)),(7,.val (.bool z.2.2.1)),(11,.val os.val),(12,.val (.int .i64 os.n)),(13,.val (.int .i64 (i:Int)))],cl:=[(5,[.int .i64 (u:Int),.slice xa path.length xc])],cD:=z.2.2.2.1,c0:=⟨z.1,.cells #[.slice z.2.1.a z.2.1.n z.2.1.c] 24 (0,0)⟩::(os.aq 60++M1) }) (λz=>(∀ b o,J b=some o->z.2.2.2.1 b=some o)/\z.2.2.2.2.bare=S.d/\NU ax g u path z.2.2.2.2 z.2.2.2.1 z.2.1 z.2.2.1) ?_ ?_
 ·refine aM.mk _ (bl _ _ NW) ?_;refine aM.mk _ (bl _ _ NW) ?_;have A1:=λ(d:ao) (ak:d.bare=S.d)=>aeB vF.av hw vF.au vF.aB vF.ag hu zS cO ak (nv.mono (λb o h=>bk _ _ (e4 _ _ h)));refine⟨?_,?_⟩
  ·refine d'.mk _ ea ?_;rintro v pW N -⟨lF,asZ,d,gz,rfl,mq⟩;subst pW;subst N;refine⟨?_,?_⟩
   ·refine be.mk [] _ _ (.refl _) (A1 d mq) ?_;rintro v mL N hU⟨-,rfl,h,b,rfl,kG⟩;refine bX.mk λb6 B0 TS=>?_;refine b2.mk [] (os.aq 60++M1) _ _ rfl rfl (bJ rfl) rfl ?_;exact⟨(b6,h,b,mL,d),⟨hU,mq,kG⟩,.refl,i',.cons rfl (.nil)⟩
   ·refine bX.mk λb6 B0 TS=>?_;refine d'.mk _ (A1 d mq) ?_;rintro v mL N hU⟨-,rfl,h,b,rfl,kG⟩;refine b2.mk [] (os.aq 60++M1) _ _ rfl rfl (bJ rfl) rfl ?_;exact⟨(b6,h,b,mL,d),⟨hU,mq,kG⟩,.refl,i',.cons rfl (.nil)⟩
  ·refine bX.mk λb6 B0 TS=>?_;refine d'.mk _ ea ?_;rintro v pW N -⟨lF,asZ,d,gz,rfl,mq⟩;subst pW;subst N;refine d'.mk _ (A1 d mq) ?_;rintro v mL N hU⟨-,rfl,h,b,rfl,kG⟩;refine b2.mk [] (os.aq 60++M1) _ _ rfl rfl (bJ rfl) rfl ?_;exact⟨(b6,h,b,mL,d),⟨hU,mq,kG⟩,.refl,i',.cons rfl (.nil)⟩
 rintro⟨b6,h,b,mL,d⟩⟨hU,mq,kG⟩;simp only at hU mq kG;have A2:=aeI hu cO mq kG;have as0:∀ b o,I b=some o->mL b=some o:=λb o h=>hU _ _ (NW _ _ h);have xl:=cL (i:=i) (by omega);refine a2.mk (λag=>?_) (λag=>?_)
 ·have Dk:b=false:=by have:(!b)=true:=ag;simpa using this
  rw[pu,A2,Dk]at kf;refine bg.mk _ xl ?_;exact⟨(i+1,p0,mL,M1),⟨⟨aX,λb o h=>hU _ _ (bk _ _ h),xP _ _ _ _ hU g4,Fc,kf⟩,by simp only;omega⟩,.sub (DV _ _) .refl,oB,.nil⟩
 have vE:b=true:=by have:(!b)=false:=ag;simpa using this
 rw[pu,A2,vE,bN rfl]at kf;have B9:p0<(pg ax g).length:=by have:=congrArg List.length kf;rw[tp,dx]at this;omega
 have fc:(pg ax g)[p0]?=some (u,path):=by
  have aa:((pg ax g).drop p0)[0]?=some (u,path):=by rw[kf];rfl
  rwa [nX,qb]at aa
 refine bz.yield rfl (by simp) rfl rfl ?_;have aE:=qx p0 B9 [aeJ (u,path) xa xc] mL M1 as0 ⟨(u,path),xa,xc,fc,rfl,zS.mono hU⟩ (xP _ _ _ _ hU g4);refine zm.mk M1 (⟨b6,.cells #[.slice h.a h.n h.c] 24 (0,0)⟩::os.aq 60) _ (by
  show(_::(os.aq 60++M1)).Perm (M1++(_::os.aq 60));exact eI (l₁:=_::os.aq 60) (l₂:=M1)) aE ?_
 rintro w as1 pA as2 (⟨rfl,Mv⟩ | ⟨rfl,ad⟩)
 ·refine a2.mk (λh=>by simp at h) (λ_=>?_);refine bg.mk _ xl ?_;refine⟨(i+1,p0+1,as1,pA),⟨⟨aX,λb o h=>as2 _ _ (hU _ _ (bk _ _ h)),Mv,B9,?_⟩,by simp only;omega⟩,.perm eI (.sub (DV _ _) .refl),oB,.nil⟩;simp only;rw[<-Gy,kf];rfl
 ·refine a2.mk (λ_=>?_) (λh=>by simp at h);exact⟨_,_,.sub (tK _ _) .refl,.inr ad⟩
def fY.step(x:fY):List Value:=[.int .u8 1,.int .u8 1,.int .i64 x.rule,.slice x.a x.path.length x.c,.int .i64 0]
def fY.Dl(x:fY):x.step.length=5:=rfl
def A3(ax:List Int)(g:cv)(r:Int×Int):List (Nat×List Int):=if r.2=0 then pg ax g else []
structure yY(ax:List Int)(I:aJ)(g:cv):Prop where
 av:ga I ax
 au:g.ok I
 aB:∀ d∈g.ds,d.t.n<=549755813888
 ag:g.n<=1000000
 w2:(g.ds.map λd=>d.t.ns.length).sum<=1048576
 ae:∀ d∈g.ds,vh d.t
def yY.mono(h:yY ax I g)(bw:∀ b o,I b=some o->I' b=some o):yY ax I' g:=⟨h.av.mono bw,h.au.mono bw,h.aB,h.ag,h.w2,h.ae⟩
def yY.with(h:yY ax I g)(hw:AY ax g F):JF ax I g F:=⟨h.av,hw,h.au,h.aB,h.ag,h.w2⟩
def as3(af:∀ d∈g.ds,right d.t=true)(av:(g.ds.map λd=>d.t.ns.length).sum<=1048576):(pg ax g).length<=1048576:=by have aa:=NS g.ds 0 af;have ab:=Bv (p' ax g) (l4 0 g.ds);unfold pg;omega
def UC(aC:yY ax I g):Spec Tryz.prog 28 [g.val] I [] λv I' M'=>(∀ b o,I b=some o->I' b=some o) /\
  ∃ (os:aY) (L:List fY) (r:Int×Int),mH ax g r/\v=os.val/\os.ok 5 (L.flatMap fY.step)/\(∀ x∈L,x.ok I')/\M'=os.aq 57/\L.map fY.sj=A3 ax g r:=by
 refine cb [3] a6 Tryz.func28 rfl rfl rfl ?_;intro B az;refine be.mk [] [] _ (.refl _) (S5 aC.av aC.au aC.ae) ?_;rintro v J N -⟨bk,rfl,r,rfl,af⟩;refine a2.mk (λh=>?_) (λh=>?_)
 ·have hm:r.2≠0:=by have:(!decide (r.2=0))=true:=h;simpa using this
  refine⟨_,_,.refl,bk,h6,[],r,af,rfl,lv 5,(λx ad=>by cases ad),rfl,?_⟩;unfold A3;rw[bR hm];rfl
 have hm:r.2=0:=by have:(!decide (r.2=0))=false:=h;simpa using this
 obtain⟨F,hw⟩:=af.Js aC.au.n hm;have vF:=aC.mono bk;have e5:=as3 (ax:=ax) (g:=g) (λd ak=>nq hw.m ak) aC.w2;refine bX.mk λcY tZ Up=>?_;refine be.mk [] [_] _ (.refl _) (asX g) ?_;rintro v dh N dY⟨b1,rfl,ho,-,rfl⟩;have mC:=vF.mono dY;refine cV.Kk (A:=v8) v8.cons a6 rfl rfl rfl (I1:=dh) (M1:=[⟨cY,.cells #[h6.val] 51 (0,0)⟩]) .refl (asY (mC.with hw) ho) (λk vs I h aR=>by
   obtain⟨x,a,c,-,rfl,-⟩:=aR;rfl) (λj I' M'=>∃ (fI:aY) (hO:List fY),M'=⟨cY,.cells #[fI.val] 51 (0,0)⟩::fI.aq 57/\fI.ok 5 (hO.flatMap fY.step)/\(∀ y∈hO,y.ok I')/\hO.map fY.sj=(pg ax g).take j) (λex I M=>False)
  (λk I I' M h ⟨fI,hO,aa,ab,aj,aI⟩=>⟨fI,hO,aa,ab,λy aE=>(aj y aE).mono h,aI⟩) ⟨h6,[],rfl,lv 5,(λy aE=>by cases aE),rfl⟩ ?_ ?_ (λex I' M' _ h=>h.elim)
 ·rintro j ai vs I' M' kP⟨x,a,c,ad,rfl,ep⟩⟨fI,hO,rfl,q1,nS,uk⟩l B az iO;have bB:=congrArg List.length uk;rw[bI,hx]at bB;have b4:=q1.len;rw[iQ _ 5 fY.Dl]at b4;obtain⟨A4,aeK⟩:=x;refine aM.mk [fI.val] (c4 (cs:=[fI.val]) (k:=0) (n:=1) (T:=51) (.head _) (by simp)) ?_;refine bX.mk λb9 jM s8=>?_;refine bz.oZ a6 rfl (by simp) (e:=57) rfl rfl rfl fI q1 rfl (cs:=(⟨A4,aeK,a,c⟩:fY).step) rfl rfl rfl [_] [] (by rw[ee];rfl) (by omega) (by show(fI.n+1)*48<=_;omega) ?_;intro w8 aa ab aj;refine b2.mk [] (w8.aq 57++[]) #[fI.val] 51 rfl rfl (bJ rfl) rfl ?_;refine⟨_,_,.n' (by rw[ee];rfl),w8,hO++[⟨A4,aeK,a,c⟩],rfl,?_,?_,?_⟩
  ·rw[hg,pM];exact aj
  ·intro y aE;rcases cB.1 aE with aE | aE
   ·exact nS y aE
   ·rw[ed.1 aE];exact⟨ep⟩
  ·obtain⟨tw,At⟩:=ia.1 ad;rw[cM,uk,gg tw,At];rfl
 ·rintro I' M' kP⟨fI,hO,rfl,q1,nS,uk⟩;refine aM.mk [fI.val] (c4 (cs:=[fI.val]) (k:=0) (n:=1) (T:=51) (.head _) (by simp)) ?_;refine⟨_,_,.sub (DV _ _) .refl,λb o h=>kP _ _ (dY _ _ (bk _ _ h)),fI,hO,r,af,rfl,q1,nS,rfl,?_⟩;rw[uk,fA (ca _)];unfold A3;rw[bN hm]
def yZ:cv:=⟨[],none,0,0⟩
structure xm(ax:List Int)(g:cv)(pass way:Int)(rule:Int)(path:List Int)(dU:Int)(I':aJ)(h:cv)(e:Int):Prop where
 bad:∀ r,mH ax g r->r.2≠0->e=r.2/\h=yZ
 no:∀ r,mH ax g r->r.2=0->¬ (pass=1/\way=1/\dU=0/\0<=rule/\rule<(g.ds.length:Int)/\p' ax g (rule.toNat,path)=true)->e=47/\h=yZ
 aeL:∀ r,mH ax g r->r.2=0->(pass=1/\way=1/\dU=0/\0<=rule/\rule<(g.ds.length:Int)/\p' ax g (rule.toNat,path)=true)->e=0/\h.ok I'/\h.n=g.n/\∃ X bq,oo ax g rule.toNat path=some X/\pd bq X/\bq.ns.length=bq.n/\h.ds.map aP.a1=(eQ g.ds rule.toNat bq).map aP.a1/\dz ax h=0/\∃ r,mH ax h r/\r.2=0
def xm.JG(af:mH ax g r)(az:r.2=0)(aB:¬ (pass=1/\way=1/\dU=0/\0<=rule/\rule<(g.ds.length:Int)/\p' ax g (rule.toNat,path)=true)):xm ax g pass way rule path dU I' yZ 47:=
 ⟨λrf eY bt=>by rw[eY.eq af]at bt;exact absurd az bt,λ_ _ _ _=>⟨rfl,rfl⟩,λ_ _ _ aE=>absurd aE aB⟩
def aeM(aC:yY ax I g)(l1:de I pa pn jq 1 8 (nW path)) :
  Spec Tryz.prog 29 [g.val,.agg #[.int .u8 pass,.int .u8 way,.int .i64 rule,.slice pa pn jq,.int .i64 dU]] I [] λv I' M'=>(∀ b o,I b=some o->I' b=some o)/\M'=[]/\∃ (h:cv) (e:Int),v=.tuple #[h.val,.int .i64 e]/\xm ax g pass way rule path dU I' h e:=by
 refine cb [] a6 Tryz.func29 rfl rfl rfl ?_;intro B az;have fT:=aC.au.n;refine be.mk [] [] _ (.refl _) (S5 aC.av aC.au aC.ae) ?_;rintro v J N -⟨bk,rfl,r,rfl,af⟩;refine a2.mk (λh=>?_) (λh=>?_)
 ·have hm:r.2≠0:=by have:(!decide (r.2=0))=true:=h;simpa using this
  exact⟨_,_,.refl,bk,rfl,yZ,r.2,rfl,λrf eY _=>by rw[eY.eq af];exact⟨rfl,rfl⟩,λrf eY az=>by rw[eY.eq af]at az;exact absurd az hm,λrf eY az=>by rw[eY.eq af]at az;exact absurd az hm⟩
 have hm:r.2=0:=by have:(!decide (r.2=0))=false:=h;simpa using this
 obtain⟨F,hw⟩:=af.Js fT hm;have vF:=aC.mono bk;have aeN:=l1.mono bk;by_cases aa:pass=1
 rotate_left
 ·refine ct.mk (λh=>absurd h (by simp[aa])) (λ_=>?_);exact⟨_,_,.refl,bk,rfl,yZ,47,rfl,xm.JG af hm λh=>aa h.1⟩
 refine ct.mk (λ_=>?_) (λh=>absurd h (by simp[aa]));by_cases ab:way=1
 rotate_left
 ·refine ct.mk (λh=>absurd h (by simp[ab])) (λ_=>?_);exact⟨_,_,.refl,bk,rfl,yZ,47,rfl,xm.JG af hm λh=>ab h.2.1⟩
 refine ct.mk (λ_=>?_) (λh=>absurd h (by simp[ab]));by_cases aj:dU=0
 rotate_left
 ·refine a2.mk (λ_=>?_) (λh=>absurd h (by simp[aj]));exact⟨_,_,.refl,bk,rfl,yZ,47,rfl,xm.JG af hm λh=>aj h.2.2.1⟩
 refine a2.mk (λh=>absurd h (by simp[aj])) (λ_=>?_);refine be.mk [] [] _ (.refl _) (ad6 (M0:=[]) vF.av.c vF.au (Uy hw.m aC.aB) aeN) ?_;rintro v dh N dY vj;obtain⟨xa,FU,xc,A4,b,rfl,pF⟩:=vj.shape;obtain⟨-,rfl,vj⟩:=vj;have xD:∀ b o,I b=some o->dh b=some o:=λb o h=>dY _ _ (bk _ _ h);cases eA:p8 g rule path with
 |none=>rw[eA]at pF;have Dk:b=false:=pF;refine a2.mk (λ_=>?_) (λh=>absurd h (by rw[Dk];simp));refine⟨_,_,.refl,xD,rfl,yZ,47,rfl,xm.JG af hm λh=>?_⟩;have b4:=h.2.2.2.2.2;unfold p8 at eA;rw[bN ⟨h.2.2.2.1,h.2.2.2.2.1⟩]at eA;unfold p' oo at b4;simp only[eA]at b4;cases b4| some S=>
 rw[eA]at pF vj;have vE:b=true:=pF;refine a2.mk (λh=>absurd h (by rw[vE];simp)) (λ_=>?_);obtain⟨x,Iz,ad,dX,bx,FQ⟩:=vj;have aeO:0<=rule/\rule<(g.ds.length:Int):=by
  unfold p8 at eA;split at eA;·assumption
  ·cases eA
 obtain⟨u,rfl⟩:=eH aeO.1;have hu:u<g.ds.length:=by omega
 have q3:g.ds.getD u gP=g.ds[u]:=by simp[bA,hu]
 have cO:(cr g.ds[u].t).go path=some S:=by unfold p8 at eA;rw[bN aeO,g6,q3]at eA;exact eA
 have as4:Value.agg #[.slice xa FU xc,.int .i64 A4]=x.val:=by
  injection Iz with e
  simp at e;exact e.1
 obtain⟨F2,aeP,aeQ,aeR,aeS⟩:=x;have as5:xa=aeP/\FU=aeQ/\xc=aeR/\A4=aeS:=by
  have e:Value.agg #[.slice xa FU xc,.int .i64 A4]=.agg #[.slice aeP aeQ aeR,.int .i64 aeS]:=as4;injection e with e
  simp at e;exact⟨e.1.1,e.1.2.1,e.1.2.2,e.2⟩
 obtain⟨rfl,rfl,rfl,rfl⟩:=as5;have mG:=dX.right bx;obtain⟨k4,iT⟩:=qw mG;obtain⟨xn,fJ⟩:=eH k4;have fv:xn<F2.length:=by simp only at iT fJ;omega
 have mC:=vF.mono dY;have ui:=ab3 (M0:=[]) mC.av ad mG fJ fv;have mq:(F2[xn].eB []).bare=S.d:=by
  have ef:=dX.cr bx FQ;have fl:cr ⟨F2,xa,FU,xc,A4⟩=gr F2 (xn:Int):=by unfold cr;simp only at fJ;rw[fJ]
  rw[fl,xf (t:=⟨F2,xa,FU,xc,A4⟩) mG fv]at ef;rw[<-ef];rfl
 generalize fk:F2[xn].eB []=d at ui mq;have UD:=aek mC.av hw mC.au (by have:=aC.ag;omega) λd ak=>by have:=aC.aB d ak;omega
 have A1:=fun {K:aJ} (dZ:∀ b o,dh b=some o->K b=some o) {ub:Value} (nv:FR ax K g ub)=>aeB ((mC.mono dZ).av) hw ((mC.mono dZ).au) aC.aB aC.ag hu ((aeN.mono dY).mono dZ) cO mq nv;refine cV.BD a6 rfl rfl rfl (ι:=Nat×cv×Bool×aJ) (λz=>{ bi:=[(4,.ref 4 0),(5,.val (.int .i64 0)),(9,.val (.bool z.2.2.1)),(10,.val (ptr z.1))],cl:=[(4,[.slice none 0 0])],cD:=z.2.2.2,c0:=[⟨z.1,.cells #[.slice z.2.1.a z.2.1.n z.2.1.c] 24 (0,0)⟩] }) (λz=>(∀ b o,dh b=some o->z.2.2.2 b=some o)/\NU ax g u path d z.2.2.2 z.2.1 z.2.2.1) ?_ ?_
 ·refine⟨?_,?_⟩
  ·refine d'.mk _ ui ?_;rintro v lH N -⟨rfl,xO,aeT⟩;subst lH;subst N;refine⟨?_,?_⟩
   ·refine d'.mk _ UD ?_;rintro ub pW N lF⟨-,rfl,nv⟩;refine⟨?_,?_⟩
    ·refine be.mk [] _ _ (.refl _) (A1 lF nv) ?_;rintro v mL N hU⟨-,rfl,h,b,rfl,kG⟩;refine bX.mk λA5 UE UF=>?_;refine b2.mk [] [] _ _ rfl rfl (bJ rfl) rfl ?_;exact⟨(A5,h,b,mL),⟨λb o h=>hU _ _ (lF _ _ h),kG⟩,.refl,ew,.cons rfl (.nil)⟩
    ·refine bX.mk λA5 UE UF=>?_;refine d'.mk _ (A1 lF nv) ?_;rintro v mL N hU⟨-,rfl,h,b,rfl,kG⟩;refine b2.mk [] [] _ _ rfl rfl (bJ rfl) rfl ?_;exact⟨(A5,h,b,mL),⟨λb o h=>hU _ _ (lF _ _ h),kG⟩,.refl,ew,.cons rfl (.nil)⟩
   ·refine bX.mk λA5 UE UF=>?_;refine d'.mk _ UD ?_;rintro ub pW N lF⟨-,rfl,nv⟩;refine d'.mk _ (A1 lF nv) ?_;rintro v mL N hU⟨-,rfl,h,b,rfl,kG⟩;refine b2.mk [] [] _ _ rfl rfl (bJ rfl) rfl ?_;exact⟨(A5,h,b,mL),⟨λb o h=>hU _ _ (lF _ _ h),kG⟩,.refl,ew,.cons rfl (.nil)⟩
  ·refine bX.mk λA5 UE UF=>?_;refine d'.mk _ ui ?_;rintro v lH N -⟨rfl,xO,aeT⟩;subst lH;subst N;refine d'.mk _ UD ?_;rintro ub pW N lF⟨-,rfl,nv⟩;refine d'.mk _ (A1 lF nv) ?_;rintro v mL N hU⟨-,rfl,h,b,rfl,kG⟩;refine b2.mk [] [] _ _ rfl rfl (bJ rfl) rfl ?_;exact⟨(A5,h,b,mL),⟨λb o h=>hU _ _ (lF _ _ h),kG⟩,.refl,ew,.cons rfl (.nil)⟩
 rintro⟨A5,h,b,mL⟩⟨hU,kG⟩;simp only at hU kG;have A2:=aeI hu cO mq kG;have aeU:∀ b o,I b=some o->mL b=some o:=λb o h=>hU _ _ (xD _ _ h);have NX:((u:Nat):Int).toNat=u:=g6 u;refine a2.mk (λag=>?_) (λag=>?_)
 ·have Dk:b=false:=by have:(!b)=true:=ag;simpa using this
  refine⟨_,_,.sub (fO _) .refl,aeU,rfl,yZ,47,rfl,xm.JG af hm λh=>?_⟩;have b4:=h.2.2.2.2.2;rw[NX,A2,Dk]at b4;cases b4
 ·have vE:b=true:=by have:(!b)=false:=ag;simpa using this
  refine aM.mk [.slice h.a h.n h.c] ⟨rfl,_,_,_,.inr ⟨_,.head _,rfl,rfl⟩,rfl,rfl⟩ ?_;refine⟨_,_,.sub (fO _) .refl,aeU,rfl,h,0,rfl,?_⟩;obtain⟨eg,cy,X,bq,gG,mm,IL,S',Ta,Tb⟩:=kG.ok vE;refine⟨λrf eY bt=>by rw[eY.eq af]at bt;exact absurd hm bt,λ_ _ _ aB=>absurd ⟨aa,ab,aj,by omega,by omega,by rw[NX,A2];exact vE⟩ aB,λ_ _ _ _=>⟨rfl,eg,cy,X,bq,?_,mm,IL,?_,Ta,Tb⟩⟩;·rw[NX];unfold oo;rw[q3,cO];show sh ax g u path S.d=_;rw[<-aeH mq];exact gG
  ·rw[NX];exact S'
structure aeV(g:cv)(x:Nat×Nat):Prop where
 k:x.2<=g.n
 n:x.1<=2000
 small:x.1<200->x.2<=x.1/\∀ i (h:i<g.ds.length),i<x.2->S3 g.ds[i]
structure as6(g:cv)(t:bS)(k:Nat)(x:Nat×Nat):Prop where
 j:x.2<=t.n
 n:x.1<=2000
 small:x.1<200->t.n<200/\k+1<=x.1/\(∀ i (h:i<g.ds.length),i<k->S3 g.ds[i])/\(∀ h:k<g.ds.length,g.ds[k].name.size<8020)/\∀ i (h:i<t.ns.length),i<x.2->S2 t.ns[i]
def as7(au:sT I g) :
  Spec Tryz.prog 26 [g.val] I [] λv I' M'=>(∃ r,v=.bool r/\(r=false->MM g))/\I'=I/\M'=[]:=by
 refine cb [] a6 Tryz.func26 rfl rfl rfl ?_;intro B az;have fT:=au.n;refine di.inv (ι:=Nat×Nat) (λx=>{ bi:=[(1,.ref 1 0),(3,.val (.int .i64 x.1)),(4,.val (.int .i64 x.2))],cl:=[(1,[.slice g.a g.n g.c])],cD:=I }) (λx=>aeV g x/\0<=x.1) (λx=>g.n-x.2) ?_ ?_
 ·exact⟨(0,0),⟨⟨dD _,dD _,λ_=>⟨dD _,λi _ h=>by simp at h⟩⟩,ca _⟩,.refl,hl,.cons rfl (.nil)⟩
 rintro⟨m,k⟩⟨⟨ae,hm,UG⟩,cI⟩;simp only at ae hm UG cI;have fin:(m<200->k=g.n)->∀ c,c=decide ((200:Int)<=(m:Int))->(c=false->MM g):=λaa c an aeW=>by
  rw[an]at aeW;have IH:m<200:=by have:=ek aeW;omega
  obtain⟨s1,s2⟩:=UG IH;have aj:=aa IH;refine⟨by omega,λd ak=>?_⟩;obtain⟨y,aE,rfl⟩:=ka ak;exact s2 y aE (by omega)
 refine ct.mk (λaj=>a2.mk (λaI=>?_) (λaI=>?_)) (λaj=>?_)
 ·have cA:k<g.n:=by simpa using aj
  have mi:m<200:=by have:=dw aI;omega
  obtain⟨s1,s2⟩:=UG mi;have mh:k<g.ds.length:=by omega
  obtain⟨aS,bH,bl⟩:=au.a0.row aP.cP cA mh;have ak:=au.ds _ (br mh);have hv:=ak.name;have hX:=ak.t;have as8:=hX.n;have iT:∀ M,cF I M ((aS.add (k*3)).add 0) 1 [.string g.ds[k].name]:=λM=>(bl M).part (k:=0) (m:=1) (by decide);have n7:∀ M,cF I M ((aS.add (k*3)).add 1) 2 g.ds[k].t.cells:=λM=>(bl M).part (k:=1) (m:=2) (by decide);have KD:∀ (q:Nat),q<8020->g.ds[k].name.size=q->∀ h:k<g.ds.length,g.ds[k].name.size<8020:=λq aR e h=>by rw[e];exact aR
  generalize hk:g.ds[k].name=nm at hv iT KD;generalize as9:g.ds[k].t=u at hX as8 n7;refine bd.mk aS k bH rfl cA ?_;refine aM.mk _ (n7 _) ?_;refine cV.draw a6 rfl rfl rfl ?_;refine bg.mk ((m+5:Nat):Int) (rS (by omega) (by omega)) ?_;refine bg.mk ((m+5+min 200 u.n:Nat):Int) (rS (by omega) (by omega)) ?_;refine bd.mk aS k bH rfl cA ?_;refine aM.mk _ (iT _) ?_;refine Dw.mk (by decide) ?_;refine bg.mk ((nm.size/20:Nat):Int) (rS (by rw[adG (by omega)];omega) (by omega)) ?_;refine bg.mk ((m+5+min 200 u.n+min 200 (nm.size/20):Nat):Int) (rS (by omega) (by omega)) ?_;refine di.inv (ι:=Nat×Nat) (λx=>{ bi:=[(1,.ref 1 0),(3,.val (.int .i64 x.1)),(4,.val (.int .i64 k)),(5,.ref 5 0),(6,.val (.int .i64 x.2))],cl:=[(1,[.slice g.a g.n g.c]),(5,u.cells)],cD:=I }) (λx=>as6 g u k x/\0<=x.1) (λx=>u.n-x.2) ?_ ?_;·exact⟨(_,0),⟨⟨dD _,by simp only;omega,λh=>by simp only at h;exact⟨by omega,by simp only;omega,s2,λh=>KD nm.size (by omega) rfl h,λi _ h=>by simp at h⟩⟩,by simp only;omega⟩,.refl,hn,.cons rfl (.cons rfl (.nil))⟩
  rintro⟨p,q⟩⟨⟨aR,aC,UH⟩,ID⟩;simp only at aR aC ID UH;have out:(p<200->q=u.n)->aeV g (p,k+1):=λaa=>by
   refine⟨by simp only;omega,aC,λab=>?_⟩;simp only at ab;obtain⟨wO,r5,Ao,UI,UJ⟩:=UH ab;have awz:=aa ab;refine⟨r5,λi hi iN=>?_⟩;by_cases e:i=k
   ·subst e;refine⟨UI hi,?_⟩;rw[as9];exact⟨by omega,λcd bF=>by
     obtain⟨y,aE,rfl⟩:=ka bF;exact UJ y aE (by omega)⟩
   ·exact Ao i hi (by simp only at iN;omega)
  refine ct.mk (λbB=>a2.mk (λb4=>?_) (λb4=>?_)) (λbB=>?_)
  ·have fe:q<u.n:=by simpa using bB
   have mC:p<200:=by have:=dw b4;omega
   obtain⟨wO,r5,Ao,UI,UJ⟩:=UH mC;have oP:q<u.ns.length:=by omega
   obtain⟨HK,aeX,nj⟩:=hX.a0.row ao.cP fe oP;have bF:=hX.ns _ (br oP);have dR:=bF.fK;have qK:∀ M,cF I M ((HK.add (q*9)).add 8) 1 [.slice u.ns[q].dB u.ns[q].aN u.ns[q].dp]:=λM=>(nj M).part (k:=8) (m:=1) (by decide);have zT:∀ M,cF I M ((HK.add (q*9)).add 5) 1 [.string u.ns[q].t]:=λM=>(nj M).part (k:=5) (m:=1) (by decide);generalize ata:u.ns[q]=cd at bF dR qK zT;refine cV.draw a6 rfl rfl rfl ?_;refine bd.mk HK q aeX rfl fe ?_;refine aM.mk _ (qK _) ?_;refine bg.mk ((p+min 200 cd.aN:Nat):Int) (rS (by omega) (by omega)) ?_;refine bd.mk HK q aeX rfl fe ?_;refine aM.mk _ (zT _) ?_;refine Dw.mk (by decide) ?_;refine bg.mk ((cd.t.size/20:Nat):Int) (rS (by rw[adG (by omega)];omega) (by omega)) ?_;refine bg.mk ((p+min 200 cd.aN+min 200 (cd.t.size/20):Nat):Int) (rS (by omega) (by omega)) ?_;refine bg.mk _ (cL (i:=q) (by omega)) ?_;refine⟨(_,q+1),⟨⟨⟨by simp only;omega,by simp only;omega,λef=>?_⟩,by simp only;omega⟩,by simp only;omega⟩,.refl,hn,.cons rfl (.cons rfl (.nil))⟩;simp only at ef |-;refine⟨wO,by omega,Ao,UI,λi hi iN=>?_⟩;by_cases e:i=q;·subst e;rw[ata];exact⟨by omega,by omega⟩
   ·exact UJ i hi (by omega)
  ·have mC:200<=p:=by have:=ek b4;omega
   refine bg.mk _ (cL (i:=k) (by omega)) ?_;exact⟨(p,k+1),⟨⟨out λh=>by omega,ID⟩,by simp only;omega⟩,.refl,hl,.cons rfl (.nil)⟩
  ·have fe:u.n<=q:=by simpa using bB
   refine bg.mk _ (cL (i:=k) (by omega)) ?_;exact⟨(p,k+1),⟨⟨out λh=>by omega,ID⟩,by simp only;omega⟩,.refl,hl,.cons rfl (.nil)⟩
 ·have mi:200<=m:=by have:=ek aI;omega
  exact⟨_,_,.refl,⟨_,rfl,fin (λh=>by omega) _ rfl⟩,rfl,rfl⟩
 ·have Xa:g.n<=k:=by simpa using aj
  exact⟨_,_,.refl,⟨_,rfl,fin (λh=>by omega) _ rfl⟩,rfl,rfl⟩
section
end
section
end
section
end
def atb(g:cv):im g.a1=im g:=by
 have aA:∀ (nm:ByteArray) (ds:List aP) (i:Nat),cu nm (ds.map aP.a1) i=cu nm ds i:=λnm ds=>by
  induction ds with
  |nil=>intro i;rfl| cons d ds aL=>intro i;rw[b0,cu,cu,aL];rfl
 have hv:∀ d:aP,hN d.a1.t.ns=hN d.t.ns:=λd=>by show hN (d.t.ns.map ao.a1)=_;unfold hN;rw[List.filter_map,gA];rfl
 unfold im;show(g.ds.map aP.a1).map _=_;rw[gA];refine fR λd _=>?_;show lx true 0 (oS (g.ds.map aP.a1) g.n (hN d.a1.t.ns))=lx true 0 (oS g.ds g.n (hN d.t.ns));rw[hv];unfold oS;congr 1;congr 1;funext s nm;rw[aA]
end Go.V
