/- Part 8 of what the proofs of this seat share: the executor, data in memory, walks.
-/
import Derived.Test.YtafmlpfnapaghaaGreatDoorK7
import Derived.Test.YtafmlpfnapaghaaGreatDoorK3
import Derived.Test.YtafmlpfnapaghaaGreatDoorK6
import Derived.Test.YtafmlpfnapaghaaGreatDoorK4
import Derived.Lib.TrailingZeros
import Derived.Test.YtafmlpfnapaghaaGreatDoorK5
import Derived.Lib.SliceRun
set_option linter.all false
set_option maxHeartbeats 16000000
namespace Go.V
open Go Go.Proofs
def Lb:=@List.getElem_set_ne
def aan:=@Nat.testBit_two_pow_mul_add
variable{F:List aM}{t bh:bx}{I J:aT}{M0 M M':List aD}{deb:List Int}{g:bP}{A:Nat->List Nat}{n b m size f e c' T z:Nat}{l:List Nat}{s:List Bool}{a sa:Option Addr}{vs xs cur news:List Value}{x y:Operand}{R:List (List Bool)}{u:Value}{w:World}{P:Program}{E:Env}{dr aO:dW}{other:Prop}{os:aY}{α:Type}{L:List aK}
def x'(pl:List (ByteArray×Int))(F:List aM)(d:aH)(xs:List ((aM×List Nat)×Bool)):Bool:=xs.any λx=>(decide (d.k=6)&&(decide (d.hi=-1)&&x.1.1.z))||x.2
def BV(pl:List (ByteArray×Int))(F:List aM)(d:aH)(xs:List ((aM×List Nat)×Bool)):(aM×List Nat)×Bool:=(p4 pl F d (xs.map (·.1)),x' pl F d xs)
def hJ(pl:List (ByteArray×Int))(F:List aM)(aa:List aH)(j:Int):(aM×List Nat)×Bool:=oU ((bw,[]),false) (λd g=>BV pl F d (d.kids.map g)) aa j
def alZ(pl:List (ByteArray×Int))(F:List aM)(d:aH)(ks:List Int):BV pl F (d.m6 ks)=BV pl F d:=rfl
def QS{pl:List (ByteArray×Int)}(ag:right t=true){j:Nat}(aj:j<t.aa.length):hJ pl F t.aa j=BV pl F t.aa[j] (t.aa[j].kids.map (hJ pl F t.aa)):=
 AI (λd g dh h=>by rw[rC h]) ag aj
def QT{pl:List (ByteArray×Int)}{F:List aM}{t:bx}(ag:right t=true):∀ (m j:Nat),j<m->j<t.aa.length->(hJ pl F t.aa j).1=dU pl F t.aa j
 |0,j,h,_=>absurd h (qb _)
 |m+1,j,hm,aj=>by
  rw[QS ag aj,GA ag aj];have:(t.aa[j].kids.map (hJ pl F t.aa)).map (·.1)=t.aa[j].kids.map (dU pl F t.aa):=by rw[sS];refine rC λk af=>?_;obtain⟨U,ab⟩:=h1 ag j aj k af;obtain⟨q,rfl⟩:=en U;exact QT ag m q (by omega) (by omega)
  show p4 pl F t.aa[j] _=_;rw[this]
def aao(pl:List (ByteArray×Int))(F:List aM)(aa:List aH)(j:Int):hJ pl F (aa.map aH.a1) j=hJ pl F aa j:=by unfold hJ oU;rw[JP (f:=λd g=>BV pl F d (d.kids.map g)) (g:=λd g=>BV pl F d (d.kids.map g)) (λd q=>rfl)]
def al0{pl:List (ByteArray×Int)}(ag:right t=true){j:Nat}(aj:j<t.aa.length)(h:qZ t j bh):hJ pl F bh.aa bh.root=hJ pl F t.aa j:=by have ay:=congrArg List.length h.a1;rw[cT]at ay;rw[<-aao,h.a1,h.root,ay];exact Ww (s8.1 ag) (F:=BV pl F) (λd ks=>alZ pl F d ks) aj
set_option maxRecDepth 100000 in
def aap{g:bP}{F:List aM}(rb:F.length=g.n){W:Nat}:∀ (m:Nat) {I:aT} {M0:List aD} (ao:g.ok I) {t:bx} (aq:t.ok I) (ag:right t=true) (au:Fit t W) (cm:lT (a' g.ds) t.aa=true) {mP:Option Addr} {fc:Nat} (bs:hW I M0 mP g.n F),t.aa.length<=m -> Spec Tryz.prog 88 [g.val,.slice mP g.n fc,t.val] I M0 λv I' M'=>(∀ b o,I b=some o->I' b=some o)/\v=.bool (hJ (a' g.ds) F t.aa t.root).2/\M'=M0
 |0,_,_,_,t,_,ag,_,_,_,_,_,hm=>by have:=lK ag;omega
 |m+1,I,M0,ao,t,aq,ag,au,cm,mP,fc,bs,hm=>by
  have a8:=@aap g F rb W m;have g7:=aq.n;have cK:=ao.n;obtain⟨g3,gI⟩:=lK ag;obtain⟨r,lD⟩:=en g3;have dp:r<t.aa.length:=by omega
  have cN:=bJ dp;have al:=aq.aa _ cN;have ga:=tM ag dp;have Eb:=zK al.k.1 ga;have fC:=h1 ag r dp;have o7:=au.n;have BH:(hJ (a' g.ds) F t.aa t.root).2=x' (a' g.ds) F t.aa[r] (t.aa[r].kids.map (hJ (a' g.ds) F t.aa)):=by rw[lD,QS ag dp];rfl
  have lL:=Zr (M0:=M0) aq ag au;have rI:=Zq (M0:=M0) aq ag au;have cQ:=vP ag dp;have fY:=y5 ag t.aa.length r dp (by omega);have qU:nodeAt t.aa t.root.toNat=t.aa[r]:=by rw[lD];exact jO dp
  have Qn:t.aa[r].kids.length<=t.aa.length:=by
   have ak:t.aa[r].kids.length<=eV (g' t.aa) t.aa[r].kids:=y6 ag λk af=>by have:=fC k af;omega
   omega
  rw[qU]at lL rI;rw[BH];generalize t.aa[r]=d at *;refine bn [10] aI Tryz.func88 rfl rfl rfl ?_;intro B av;refine aU.whole _ rI ?_;rintro v J N -⟨rfl,bg,cH⟩;subst J;subst N;refine aU.whole _ lL ?_;rintro v J N -⟨bg,os,L,bf,rfl,cH,D1,cL⟩;subst N;have k1:=ao.mono bg;have hT:d.kids.map (hJ (a' g.ds) F t.aa)=L.map λbh=>hJ (a' g.ds) F bh.aa bh.root:=by
   apply rE;·simp[D1]
   ·intro q U ab;have a0:q<d.kids.length:=by simpa using U
    have ee:q<L.length:=by omega
    obtain⟨-,fo⟩:=cL q ee;have e:d.kids.getD q 0=d.kids[q]:=by simp[bV,a0]
    rw[e]at fo;have ai:=fC _ (bJ a0);obtain⟨k,af⟩:=en ai.1;rw[af]at fo;have:=al0 (pl:=a' g.ds) (F:=F) ag (j:=k) (by omega) fo;simp only[oP];rw[this,af]
  have wF:∀ q (h:q<L.length),(L[q]).ok J/\right L[q]=true/\Fit L[q] W/\lT (a' g.ds) L[q].aa=true/\L[q].aa.length<=m:=λq ee=>by
   obtain⟨bM,fo⟩:=cL q ee;have a0:q<d.kids.length:=by omega
   have e:d.kids.getD q 0=d.kids[q]:=by simp[bV,a0]
   have e2:=bJ a0;rw[e]at fo;have ai:=fC _ e2;obtain⟨k,af⟩:=en ai.1;have eu:=JB (g:=g' t.aa) e2;rw[af]at fo eu;have bj:k<t.aa.length:=by omega
   have U:=WH ag bj fo;have ab:=Zo ag au aq bj fo bM;have ak:=Zp ag cm bj fo;have aL:=Ov ag bj fo;exact⟨bM,U,ab,ak,by omega⟩
  rw[hT];have hV:os.n=L.length:=by have:=bf.len;rw[gd bx.cells 2 (λ_=>rfl)]at this;omega
  have kk:∀ {K:aT} {M:List aD} q (h:q<L.length),(∀ b o,J b=some o->K b=some o)->(∀ z∈M0,z∈M)->Spec Tryz.prog 88 [g.val,.slice mP g.n fc,L[q].val] K M λv I' M'=>(∀ b o,K b=some o->I' b=some o)/\v=.bool (hJ (a' g.ds) F L[q].aa L[q].root).2/\M'=M:=fun {K M} q a0 cb aV=>by obtain⟨U,ab,ak,aL,bm⟩:=wF q a0;exact a8 (k1.mono cb) (U.mono cb) ab ak aL (((bs.mono bg).mono cb).sub aV) bm
  have QN:∀ {K:aT} {M:List aD} q (h:q<L.length),(∀ b o,J b=some o->K b=some o)->(∀ z∈M0,z∈M)->Spec Tryz.prog 114 [g.val,.slice mP g.n fc,L[q].val] K M λv I' M'=>I'=K/\M'=M/\v=.tuple #[(hJ (a' g.ds) F L[q].aa L[q].root).1.1.val,.bool true]:=fun {K M} q a0 cb aV=>by
   obtain⟨U,ab,ak,aL,bm⟩:=wF q a0;have c4:=QB (k1.mono cb) (U.mono cb) ak (lc:=fc) (((bs.mono bg).mono cb).sub aV);obtain⟨wz,CO⟩:=lK ab;obtain⟨p,aN⟩:=en wz;have FX:(hJ (a' g.ds) F L[q].aa L[q].root).1=dU (a' g.ds) F L[q].aa L[q].root:=by rw[aN];exact QT ab (p+1) p (by omega) (by omega)
   have QO:vZ g F L[q]=some (hJ (a' g.ds) F L[q].aa L[q].root).1.1:=by rw[FX,vZ,lU,eD rb,ab,aL,J2];rfl
   rw[QO]at c4;exact c4
  have lS:∀ {K:aT} {M:List aD} q (h:q<L.length),(∀ z∈os.aw 46,z∈M)->∃ ad,(os.a.map λg=>(⟨g,0,none⟩:Addr))=some ad/\bq K M (ad.add (q*2)) 2 L[q].cells:=fun {K M} q a0 aV=>
   aY.ok.row (I:=K) (M:=M) (e:=46) (f:=bx.cells) (size:=2) (λ_=>rfl) (by decide) bf aV a0
  refine bu.inv (ι:=Nat×aT) (λx=>{ a4:=[(1,.val (.slice mP g.n fc)),(3,.ref 3 0),(7,.ref 7 0),(8,.val os.val),(9,.val (.int .i64 x.1))],cl:=[(3,[.slice g.a g.n g.c]),(7,(d.m6 []).cells)],br:=x.2,bO:=os.aw 46++M0 }) (λx=>x.1<=L.length/\(∀ b o,J b=some o->x.2 b=some o)/\x' (a' g.ds) F d (L.map λbh=>hJ (a' g.ds) F bh.aa bh.root)=x' (a' g.ds) F d ((L.drop x.1).map λbh=>hJ (a' g.ds) F bh.aa bh.root)) (λx=>L.length-x.1) ?_ ?_;·exact⟨(0,J),⟨bQ _,λ_ _ h=>h,rfl⟩,.refl,ec,.cons rfl (.cons rfl (.nil))⟩
  rintro⟨i,K⟩⟨hi,cb,dK⟩;simp only at hi cb dK;refine aB.mk (λh=>?_) (λh=>?_)
  rotate_left
  ·have bS:L.length<=i:=by have:¬ (i:Int)<(os.n:Int):=cR h;omega
   rw[iK bS]at dK;exact⟨_,M0,.sub (e' _ _) .refl,λb o h=>cb _ _ (bg _ _ h),by rw[dK];rfl,rfl⟩
  have ax:i<L.length:=by have:(i:Int)<(os.n:Int):=cq h;omega
  rw[dv ax,cZ]at dK;have pQ:=λ(M:List aD) (aV:∀ z∈M0,z∈M)=>QN (K:=K) (M:=M) i ax cb aV;have sb:=λ(M:List aD) (aV:∀ z∈M0,z∈M)=>kk (K:=K) (M:=M) i ax cb aV;have gI:=λ(M:List aD) (aV:∀ z∈os.aw 46,z∈M)=>lS (K:=K) (M:=M) i ax aV;obtain⟨QP,QQ,QR⟩:=gI (os.aw 46++M0) (λz a2=>by simp[a2]);generalize hJ (a' g.ds) F L[i].aa L[i].root=x at *;refine cr.IC aI rfl rfl rfl (ι:=Nat) (λzQ=>{ a4:=[(1,.val (.slice mP g.n fc)),(3,.ref 3 0),(7,.ref 7 0),(8,.val os.val),(9,.val (.int .i64 i)),(10,.val (ptr zQ))],cl:=[(3,[.slice g.a g.n g.c]),(7,(d.m6 []).cells)],br:=K,bO:=⟨zQ,.cells x.1.1.cells.toArray 159 (0,0)⟩::(os.aw 46++M0) }) (λ_=>True) ?_ ?_
  ·refine aW.mk QP i QQ rfl (by omega) ?_;refine aE.mk _ QR ?_;refine⟨?_,?_⟩
   ·refine aU.whole _ (pQ _ (λz a2=>by simp[a2])) ?_;rintro v k3 N -⟨oy,cH,rfl⟩;subst k3;subst N;refine bL.mk λzQ al1 al2=>?_;refine cu.mk [] _ _ _ rfl rfl (b9 rfl) rfl ?_;exact⟨zQ,trivial,.refl,jD,.cons rfl (.cons rfl (.nil))⟩
   ·refine bL.mk λzQ al1 al2=>?_;refine e7.whole _ (pQ _ (λz a2=>by simp[a2])) (λv I' M' h x ae=>by rw[h.2.1];exact ae) ?_;rintro v k3 N -⟨oy,cH,rfl⟩;subst k3;subst N;refine cu.mk [] _ _ _ rfl rfl (b9 rfl) rfl ?_;exact⟨zQ,trivial,.refl,jD,.cons rfl (.cons rfl (.nil))⟩
  rintro zQ -;have aaq:x' (a' g.ds) F d (x::(L.drop (i+1)).map λbh=>hJ (a' g.ds) F bh.aa bh.root)=(((decide (d.k=6)&&(decide (d.hi=-1)&&x.1.1.z))||x.2)||x' (a' g.ds) F d ((L.drop (i+1)).map λbh=>hJ (a' g.ds) F bh.aa bh.root)):=by simp[x']
  rw[aaq]at dK;clear aaq;obtain⟨QU,QV,QW⟩:=gI (⟨zQ,.cells x.1.1.cells.toArray 159 (0,0)⟩::(os.aw 46++M0)) (λz a2=>by simp[a2]);refine cr.draw aI rfl rfl rfl ?_;refine a9.mk (λb5=>?_) (λb5=>?_)
  ·have zI:decide (d.k=6)=true:=b5;refine a9.mk (λcj=>?_) (λcj=>?_)
   ·have rs:decide (d.hi=-1)=true:=cj;refine aE.mk [.bool x.1.1.z] (dj (cs:=x.1.1.cells) (k:=0) (n:=1) (.head _) (b9 rfl)) ?_;refine a9.mk (λa2=>?_) (λa2=>?_)
    ·have fW:x.1.1.z=false:=a2;have Hy:(decide (d.k=6)&&(decide (d.hi=-1)&&x.1.1.z))=false:=by rw[fW];simp
     rw[Hy,mL]at dK;refine aW.mk QU i QV rfl (by omega) ?_;refine aE.mk _ QW ?_;refine aU.whole _ (sb _ (λz a2=>by simp[a2])) ?_;rintro v k3 N -⟨oy,rfl,cH⟩;subst N;have zR:∀ b o,J b=some o->k3 b=some o:=λb o h=>oy _ _ (cb _ _ h);refine aB.mk (λhe=>?_) (λhe=>?_);·have fM:x.2=true:=he;refine⟨_,M0,.sub (.cons _ (e' _ _)) .refl,λb o h=>zR _ _ (bg _ _ h),?_,rfl⟩;rw[dK,fM];rfl
     ·have fM:x.2=false:=he;refine aQ.mk _ (bl (i:=i) (by omega)) ?_;refine⟨(i+1,k3),⟨⟨ax,zR,?_⟩,by simp only;omega⟩,.sub (.cons _ (.refl _)) .refl,ec,.cons rfl (.cons rfl (.nil))⟩;simp only;rw[dK,fM,mL]
    ·have fW:x.1.1.z=true:=by have:x.1.1.z=!false:=a2;simpa using this
     refine⟨_,M0,.sub (.cons _ (e' _ _)) .refl,λb o h=>cb _ _ (bg _ _ h),?_,rfl⟩;rw[dK,zI,rs,fW];rfl
   ·have rs:decide (d.hi=-1)=false:=cj;have Hy:(decide (d.k=6)&&(decide (d.hi=-1)&&x.1.1.z))=false:=by rw[rs];simp
    rw[Hy,mL]at dK;refine aW.mk QU i QV rfl (by omega) ?_;refine aE.mk _ QW ?_;refine aU.whole _ (sb _ (λz a2=>by simp[a2])) ?_;rintro v k3 N -⟨oy,rfl,cH⟩;subst N;have zR:∀ b o,J b=some o->k3 b=some o:=λb o h=>oy _ _ (cb _ _ h);refine aB.mk (λhe=>?_) (λhe=>?_);·have fM:x.2=true:=he;refine⟨_,M0,.sub (.cons _ (e' _ _)) .refl,λb o h=>zR _ _ (bg _ _ h),?_,rfl⟩;rw[dK,fM];rfl
    ·have fM:x.2=false:=he;refine aQ.mk _ (bl (i:=i) (by omega)) ?_;refine⟨(i+1,k3),⟨⟨ax,zR,?_⟩,by simp only;omega⟩,.sub (.cons _ (.refl _)) .refl,ec,.cons rfl (.cons rfl (.nil))⟩;simp only;rw[dK,fM,mL]
  ·have zI:decide (d.k=6)=false:=b5;have Hy:(decide (d.k=6)&&(decide (d.hi=-1)&&x.1.1.z))=false:=by rw[zI];simp
   rw[Hy,mL]at dK;refine aW.mk QU i QV rfl (by omega) ?_;refine aE.mk _ QW ?_;refine aU.whole _ (sb _ (λz a2=>by simp[a2])) ?_;rintro v k3 N -⟨oy,rfl,cH⟩;subst N;have zR:∀ b o,J b=some o->k3 b=some o:=λb o h=>oy _ _ (cb _ _ h);refine aB.mk (λhe=>?_) (λhe=>?_);·have fM:x.2=true:=he;refine⟨_,M0,.sub (.cons _ (e' _ _)) .refl,λb o h=>zR _ _ (bg _ _ h),?_,rfl⟩;rw[dK,fM];rfl
   ·have fM:x.2=false:=he;refine aQ.mk _ (bl (i:=i) (by omega)) ?_;refine⟨(i+1,k3),⟨⟨ax,zR,?_⟩,by simp only;omega⟩,.sub (.cons _ (.refl _)) .refl,ec,.cons rfl (.cons rfl (.nil))⟩;simp only;rw[dK,fM,mL]
def gZ(ds:List aK)(F:List aM)(i:Nat):List Nat:=(List.range ds.length).filter λk=>(lu ds F i).contains k
def Ef(p:Nat->Bool)(i:Nat):(List.range (i+1)).filter p=(List.range i).filter p++bif p i then [i]else []:=by rw[zf,uw];cases h:p i<;>simp[h]
def BW(p:Nat->Bool)(i:Nat):((List.range i).filter p).length<=i:=by have:=to p (List.range i);simpa using this
set_option maxRecDepth 100000 in
def al3(cv:mF deb)(ao:g.ok I)(au:ls g)(r:Int):Spec Tryz.prog 85 [g.val,.int .i64 r] I M0 λv I' M'=>(∀ b o,I b=some o->I' b=some o) /\
  ∃ (os:aY) (l:List Nat),os.ok 1 (hv l)/\v=os.val/\M'=os.aw 3++M0/\(((cn deb g≠0\/r<0\/(g.n:Int)<=r)/\l=[])\/(cn deb g=0/\∃ F k,r=(k:Nat)/\k<g.n/\h7 g.ds F/\l=gZ g.ds F k)):=by
 refine bn [] aI Tryz.func85 rfl rfl rfl ?_;intro B av;have cK:=ao.n;have o7:=au.n;have gk:=ao.aJ.cap;refine aU.whole _ (aad cv ao au) ?_;rintro v J N -⟨bg,⟨hm,rfl,rfl⟩|⟨hm,iJ,F,rfl,rfl,bs⟩⟩
 ·subst J;refine a9.mk (λh=>?_) (λh=>?_)
  ·exact absurd h (by simp[hm])
  exact⟨_,N,.refl,λ_ _ h=>h,fs,[],fT 1,rfl,rfl,.inl ⟨.inl hm,rfl⟩⟩
 subst J;refine a9.mk (λ_=>?_) (λh=>by cases h);refine a9.mk (λU=>?_) (λU=>?_)
 rotate_left
 ·have jL:r<0:=by have:decide (r<0)=true:=U;simpa using this
  exact⟨_,M0,.sub (.cons _ (.refl _)) .refl,λ_ _ h=>h,fs,[],fT 1,rfl,rfl,.inl ⟨.inr (.inl jL),rfl⟩⟩
 have jL:¬ r<0:=by have:decide (r<0)=false:=U;simpa using this
 refine aB.mk (λab=>?_) (λab=>?_)
 ·have gx:(g.n:Int)<=r:=cq ab;exact⟨_,M0,.sub (.cons _ (.refl _)) .refl,λ_ _ h=>h,fs,[],fT 1,rfl,rfl,.inl ⟨.inr (.inr gx),rfl⟩⟩
 have gx:¬ (g.n:Int)<=r:=cR ab;obtain⟨k,rfl⟩:∃ k:Nat,r=k:=⟨r.toNat,by omega⟩;have af:k<g.n:=by omega
 have kV:k<g.ds.length:=by omega
 have aV:=v0 cK hm;have rb:F.length=g.n:=by rw[bs.len,cK]
 have cN:=bJ kV;obtain⟨ad,ba,a3⟩:=ao.aJ.row aK.bI af kV;have al:=ao.ds _ cN;have ag:=aV.right _ cN;have cm:=aV.named _ cN;have kT:=au.ds _ cN;have al4:lu g.ds F k=(dU (a' g.ds) F g.ds[k].t.aa g.ds[k].t.root).2:=by rw[lu,ev kV]
 generalize g.ds[k]=d at *;have QX:hW I (l2 iJ F::M0) (some ⟨iJ,0,none⟩) g.n F:=by have:=QI (I:=I) (M:=l2 iJ F::M0) (b:=iJ) (l:=F) (by simp);rwa [rb]at this
 have c4:=aaj (g:=g) (F:=F) rb (W:=1000000) d.t.aa.length (M0:=l2 iJ F::M0) ao al.t ag kT cm (fc:=g.n) QX (b2 _);have hlen:=aag (pl:=a' g.ds) (F:=F) ag;have arF:=kT.n;have g7:=al.t.n;rw[<-al4]at c4 hlen;refine cr.draw aI rfl rfl rfl ?_;refine aW.mk ad k ba rfl af ?_;refine aE.mk d.t.cells ((a3 _).part (k:=1) (m:=2) (by decide)) ?_;refine aU.whole _ c4 ?_;rintro v K N -⟨cb,op,sD,rfl,cH⟩;subst N;have sG:(lu g.ds F k).length<=140737488355328:=by omega
 generalize YA:lu g.ds F k=Lc at sD sG;refine bu.inv (ι:=Nat×aY) (λx=>{ a4:=[(2,.ref 2 0),(7,.val op.val),(8,.val x.2.val),(9,.val (.int .i64 x.1))],cl:=[(2,[.slice g.a g.n g.c])],br:=K,bO:=x.2.aw 3++(op.aw 3++(l2 iJ F::M0)) }) (λx=>x.1<=g.n/\x.2.ok 1 (hv ((List.range x.1).filter λq=>Lc.contains q))) (λx=>g.n-x.1) ?_ ?_
 ·exact⟨(0,fs),⟨bQ _,fT 1⟩,.refl,cI,.cons rfl (.nil)⟩
 rintro⟨i,l3⟩⟨hi,kr⟩;simp only at hi kr;have aN:=aY.pos kr;have vC:=BW (λq=>Lc.contains q) i;refine aB.mk (λh=>?_) (λh=>?_)
 rotate_left
 ·have bS:i=g.n:=by have:¬ (i:Int)<(g.n:Int):=cR h;omega
  refine⟨_,l3.aw 3++M0,.sub (Dc (.refl _) ((Mp _ _).trans (e' _ _))) .refl,cb,l3,_,kr,rfl,rfl,.inr ⟨hm,F,k,rfl,af,bs,?_⟩⟩;rw[gZ,YA,bS,cK]
 have ax:i<g.n:=by have:(i:Int)<(g.n:Int):=cq h;omega
 refine aU.whole _ (QM i sD (λz a2=>ly _ (gM _ a2)) sG) ?_;rintro v hh N -⟨rfl,jr,cH⟩;subst hh;subst N;refine aB.mk (λhe=>?_) (λhe=>?_)
 ·have fM:Lc.contains i=true:=he;refine bL.mk λbT h3 iF=>?_;refine bk.nF aI rfl (by simp) (e:=3) rfl rfl rfl l3 kr rfl (cs:=[.int .i64 i]) rfl rfl rfl [] (op.aw 3++(l2 iJ F::M0)) rfl (by omega) (by show(l3.n+1)*8<=_;omega) ?_;intro gL h8 ed eX;refine aQ.mk _ (bl (i:=i) (by omega)) ?_;refine⟨(i+1,gL),⟨⟨ax,?_⟩,by simp only;omega⟩,.refl,cI,.cons rfl (.nil)⟩;simp only;rw[Ef,fM,bt,Hx];exact eX
 ·have fM:Lc.contains i=false:=he;refine aQ.mk _ (bl (i:=i) (by omega)) ?_;refine⟨(i+1,l3),⟨⟨ax,?_⟩,by simp only;omega⟩,.refl,cI,.cons rfl (.nil)⟩;simp only;rw[Ef,fM,bz,db];exact kr
def ti(ds:List aK)(F:List aM)(i:Nat):Bool:=match ds[i]? with
 |some d=>(hJ (a' ds) F d.t.aa d.t.root).2| none=>false
def nO(ds:List aK)(F:List aM):List Nat:=(List.range ds.length).filter (ti ds F)
set_option maxRecDepth 100000 in
def al5(cv:mF deb)(ao:g.ok I)(au:ls g):Spec Tryz.prog 56 [g.val] I M0 λv I' M'=>(∀ b o,I b=some o->I' b=some o) /\
  ∃ (os:aY) (l:List Nat),os.ok 1 (hv l)/\v=os.val/\M'=os.aw 3++M0/\((cn deb g≠0/\l=[])\/(cn deb g=0/\∃ F,h7 g.ds F/\l=nO g.ds F)):=by
 refine bn [] aI Tryz.func56 rfl rfl rfl ?_;intro B av;have cK:=ao.n;have o7:=au.n;have gk:=ao.aJ.cap;refine aU.whole _ (aad cv ao au) ?_;rintro v J N -⟨bg,⟨hm,rfl,rfl⟩|⟨hm,iJ,F,rfl,rfl,bs⟩⟩
 ·subst J;refine bu.sF 1 ?_;refine a9.mk (λh=>?_) (λh=>?_)
  ·refine aB.mk (λh=>absurd h (by simp[hm])) (λh=>?_);exact⟨_,N,.refl,λ_ _ h=>h,fs,[],fT 1,rfl,rfl,.inl ⟨hm,rfl⟩⟩
  ·exact⟨_,N,.refl,λ_ _ h=>h,fs,[],fT 1,rfl,rfl,.inl ⟨hm,rfl⟩⟩
 subst J;have aV:=v0 cK hm;have rb:F.length=g.n:=by rw[bs.len,cK]
 refine bu.inv (ι:=Nat×aY×aT) (λx=>{ a4:=[(1,.ref 1 0),(3,.val (.slice (some ⟨iJ,0,none⟩) g.n g.n)),(4,.val (.int .i64 0)),(5,.val x.2.1.val),(6,.val (.int .i64 x.1))],cl:=[(1,[.slice g.a g.n g.c])],br:=x.2.2,bO:=x.2.1.aw 3++(l2 iJ F::M0) }) (λx=>x.1<=g.n/\x.2.1.ok 1 (hv ((List.range x.1).filter (ti g.ds F)))/\∀ b o,I b=some o->x.2.2 b=some o) (λx=>g.n-x.1) ?_ ?_
 ·exact⟨(0,fs,I),⟨bQ _,fT 1,λ_ _ h=>h⟩,.refl,ec,.cons rfl (.nil)⟩
 rintro⟨i,l3,K⟩⟨hi,kr,cb⟩;simp only at hi kr cb;have aN:=aY.pos kr;have vC:=BW (ti g.ds F) i;refine a9.mk (λh=>?_) (λh=>?_)
 rotate_left
 ·have bS:i=g.n:=by have:decide ((i:Int)<(g.n:Int))=false:=h;have:=cR this;omega
  refine⟨_,l3.aw 3++M0,.sub (Dc (.refl _) (Mp _ _)) .refl,cb,l3,_,kr,rfl,rfl,.inr ⟨hm,F,bs,?_⟩⟩;rw[nO,bS,cK]
 have ax:i<g.n:=by have:decide ((i:Int)<(g.n:Int))=true:=h;have:=cq this;omega
 refine aB.mk (λ_=>?_) (λh=>absurd h (by simp));have bo:i<g.ds.length:=by omega
 have wK:=ao.mono cb;have cN:=bJ bo;obtain⟨ad,ba,a3⟩:=wK.aJ.row aK.bI ax bo;have al:=wK.ds _ cN;have ag:=aV.right _ cN;have cm:=aV.named _ cN;have kT:=au.ds _ cN;have pd:ti g.ds F i=(hJ (a' g.ds) F g.ds[i].t.aa g.ds[i].t.root).2:=by rw[ti,ev bo]
 generalize g.ds[i]=d at *;have QX:hW K (l3.aw 3++(l2 iJ F::M0)) (some ⟨iJ,0,none⟩) g.n F:=by have:=QI (I:=K) (M:=l3.aw 3++(l2 iJ F::M0)) (b:=iJ) (l:=F) (by simp);rwa [rb]at this
 have c4:=aap (g:=g) (F:=F) rb (W:=1000000) d.t.aa.length (M0:=l3.aw 3++(l2 iJ F::M0)) wK al.t ag kT cm (fc:=g.n) QX (b2 _);rw[<-pd]at c4;refine cr.draw aI rfl rfl rfl ?_;refine aW.mk ad i ba rfl ax ?_;refine aE.mk d.t.cells ((a3 _).part (k:=1) (m:=2) (by decide)) ?_;refine aU.whole _ c4 ?_;rintro v hh N -⟨jr,rfl,cH⟩;subst N;have wI:∀ b o,I b=some o->hh b=some o:=λb o h=>jr _ _ (cb _ _ h);refine aB.mk (λhe=>?_) (λhe=>?_)
 ·have fM:ti g.ds F i=true:=he;refine bL.mk λbT h3 iF=>?_;refine bk.nF aI rfl (by simp) (e:=3) rfl rfl rfl l3 kr rfl (cs:=[.int .i64 i]) rfl rfl rfl [] (l2 iJ F::M0) rfl (by omega) (by show(l3.n+1)*8<=_;omega) ?_;intro gL h8 ed eX;refine aQ.mk _ (bl (i:=i) (by omega)) ?_;refine⟨(i+1,gL,hh),⟨⟨ax,?_,wI⟩,by simp only;omega⟩,.refl,ec,.cons rfl (.nil)⟩;simp only;rw[Ef,fM,bt,Hx];exact eX
 ·have fM:ti g.ds F i=false:=he;refine aQ.mk _ (bl (i:=i) (by omega)) ?_;refine⟨(i+1,l3,hh),⟨⟨ax,?_,wI⟩,by simp only;omega⟩,.refl,ec,.cons rfl (.nil)⟩;simp only;rw[Ef,fM,bz,db];exact kr
inductive jb(A:Nat->List Nat):Nat->Nat->Prop
 |one{i k}(h:k∈A i):jb A i k| step {i j k} (h:j∈A i) (t:jb A j k):jb A i k
def jb.snoc{i j k:Nat}(h:jb A i j)(af:k∈A j):jb A i k:=by
 induction h with
 |one h=>exact .step h (.one af)| step h t a8=>exact .step h (a8 af)
def ng:List Nat->List Nat->List Nat
 |[],l=>l| x::r,l=>ng r (bif l.contains x then l else l++[x])
def BX:∀ (r l:List Nat) (x:Nat),x∈ng r l ↔ x∈l\/x∈r
 |[],l,x=>by simp[ng]
 |y::r,l,x=>by
  rw[ng,BX r];cases h:l.contains y with
  |true=>
   have aA:y∈l:=by simpa using h
   rw[bt];constructor
   ·rintro(a | a)
    ·exact .inl a
    ·exact .inr (.tail _ a)
   ·rintro(a | a)
    ·exact .inl a
    ·rcases ea.1 a with rfl | a
     ·exact .inl aA
     ·exact .inr a
  |false=>
   rw[bz];rw[dm,fb,ea];constructor
   ·rintro((a | a) | a)
    ·exact .inl a
    ·exact .inr (.inl a)
    ·exact .inr (.inr a)
   ·rintro(a | a | a)
    ·exact .inl (.inl a)
    ·exact .inl (.inr a)
    ·exact .inr a
def QY:∀ (r l:List Nat),∃ s,ng r l=l++s
 |[],l=>⟨[],by simp[ng]⟩
 |y::r,l=>by
  obtain⟨s,ar⟩:=QY r (bif l.contains y then l else l++[y]);rw[ng,ar];cases l.contains y with
  |true=>exact⟨s,rfl⟩| false=>exact⟨[y]++s,by simp⟩
def QZ:∀ (r l:List Nat),l.Nodup->(ng r l).Nodup
 |[],l,h=>h
 |y::r,l,h=>by
  rw[ng];apply QZ r;cases aC:l.contains y with
  |true=>exact h
  |false=>
   have aA:y ∉ l:=by simpa using aC
   rw[bz,u6];refine⟨h,by simp,λa aX b ah e=>?_⟩;have:b=y:=by simpa using ah
   subst this;subst e;exact aA aX
def Q0:∀ (n:Nat) (l:List Nat),l.Nodup->(∀ x∈l,x<n)->l.length<=n
 |0,[],_,_=>b2 _| 0,a::l,_,h=>absurd (h a (.head _)) (qb _)
 |n+1,l,al,h=>by
  have U:=Q0 n (l.erase n) (al.erase n) λx ae=>by have ab:=h x (List.mem_of_mem_erase ae);have ak:x≠n:=(al.mem_erase_iff.1 ae).1;omega
  have aL:=List.length_erase (a:=n) (l:=l);split at aL<;>omega
def Eg(A:Nat->List Nat):Nat->Nat->List Nat->List Nat
 |0,_,l=>l
 |f+1,k,l=>match l[k]? with
  |some x=>Eg A f (k+1) (ng (A x) l)| none=>l
structure rc(A:Nat->List Nat)(n k:Nat)(e9 l:List Nat):Prop where
 bE:l.Nodup
 lt:∀ x∈l,x<n
 sub:∀ x∈e9,x∈l
 src:∀ x∈l,x∈e9\/∃ y∈e9,jb A y x
 Q1:∀ j x,j<k->l[j]?=some x->∀ y∈A x,y∈l
 k:k<=l.length
def rc.len{k:Nat}{e9:List Nat}(h:rc A n k e9 l):l.length<=n:=Q0 n l h.bE h.lt
def rc.next{A:Nat->List Nat}{n k:Nat}{e9 l:List Nat}(e4:∀ x,∀ y∈A x,y<n)(h:rc A n k e9 l){x:Nat}(ae:l[k]?=some x):rc A n (k+1) e9 (ng (A x) l):=by
 obtain⟨s,ar⟩:=QY (A x) l;have af:k<l.length:=by
  rcases Nat.lt_or_ge k l.length with U | U;·exact U
  ·rw[ql U]at ae;cases ae
 have e8:x∈l:=z5 ae;refine⟨QZ _ _ h.bE,λz a2=>?_,λz a2=>(BX _ _ _).2 (.inl (h.sub z a2)),λz a2=>?_,λj z aj a2 y aA=>?_,by rw[ar];simp;omega⟩
 ·rcases(BX _ _ _).1 a2 with a | a
  ·exact h.lt z a
  ·exact e4 x z a
 ·rcases(BX _ _ _).1 a2 with a | a
  ·exact h.src z a
  ·rcases h.src x e8 with b | ⟨w,hw,b⟩
   ·exact .inr ⟨x,b,.one a⟩
   ·exact .inr ⟨w,hw,b.snoc a⟩
 ·have fW:l[j]?=some z:=by rw[ar,sq (by omega)]at a2;exact a2
  by_cases e:j=k;·subst e;rw[ae]at fW;obtain rfl:=kn fW;exact(BX _ _ _).2 (.inr aA)
  ·exact(BX _ _ _).2 (.inl (h.Q1 j z (by omega) fW y aA))
def rc.done{i:Nat}(h:rc A n l.length (A i) l)(x:Nat):x∈l ↔ jb A i x:=by
 constructor
 ·intro ae;rcases h.src x ae with a | ⟨y,aA,a⟩
  ·exact .one a
  ·exact .step aA a
 ·have cl:∀ {y z:Nat},jb A y z->y∈l->z∈l:=fun {y z} aC=>by
   induction aC with
   |one af=>intro aA;obtain⟨j,aj,e⟩:=rY aA;exact h.Q1 j _ aj (by rw[ev aj,e]) _ af
   |step aj t a8=>intro aA;refine a8 ?_;obtain⟨q,a0,e⟩:=rY aA;exact h.Q1 q _ a0 (by rw[ev a0,e]) _ aj
  intro aC;cases aC with
  |one af=>exact h.sub x af| step aj t=>exact cl t (h.sub _ aj)
def Q2{pl:List (ByteArray×Int)}(ag:right t=true){j:Nat}(aj:j<t.aa.length):(hJ pl F t.aa j).2=true ↔ ∃ k∈t.aa[j].kids,(t.aa[j].k=6/\t.aa[j].hi=-1/\(dq pl F t.aa []).getD k.toNat bw=(dq pl F t.aa []).getD k.toNat bw/\((dq pl F t.aa []).getD k.toNat bw).z=true)\/(hJ pl F t.aa k).2=true:=by
 have im:∀ k∈t.aa[j].kids,(hJ pl F t.aa k).1.1=(dq pl F t.aa []).getD k.toNat bw:=λk af=>by obtain⟨U,ab⟩:=h1 ag j aj k af;obtain⟨q,rfl⟩:=en U;rw[QT ag (q+1) q (by omega) (by omega),J2]
 rw[QS ag aj];show x' pl F t.aa[j] _=true ↔ _;unfold x';rw[Bx];constructor
 ·rintro⟨x,ae,h⟩;obtain⟨k,af,rfl⟩:=dB.1 ae;refine⟨k,af,?_⟩;rw[im k af]at h;simp only[j0,b',fk]at h;rcases h with⟨a,b,c⟩ | h
  ·exact .inl ⟨a,b,rfl,c⟩
  ·exact .inr h
 ·rintro⟨k,af,h⟩;refine⟨_,dB.2 ⟨k,af,rfl⟩,?_⟩;rw[im k af];simp only[j0,b',fk];rcases h with⟨a,b,-,c⟩ | h
  ·exact .inl ⟨a,b,c⟩
  ·exact .inr h
def aar{pl:List (ByteArray×Int)}{F:List aM}{t:bx}(ag:right t=true):∀ (m j:Nat),j<t.aa.length->t.aa.length-j<=m->(hJ pl F t.aa j).2=true->(hJ pl F t.aa t.root).2=true
 |0,j,aj,hm,_=>by omega
 |m+1,j,aj,hm,h=>by
  by_cases e:(j:Int)=t.root;·rw[<-e];exact h
  ·obtain⟨p,aN,af,ax⟩:=VA ag aj e;exact aar ag m p aN (by omega) ((Q2 ag aN).2 ⟨_,af,.inr h⟩)
def al6{l:List Int}{k:Int}(af:k∈l)(h:l.length=1):l.headD 0=k:=by
 match l,h with
 |[a],_=>exact(fb.1 af).symm
def aas{pl:List (ByteArray×Int)}{F:List aM}{t:bx}(ag:right t=true)(U:∀ d∈t.aa,d.k=6->d.kids.length=1):∀ (m j:Nat),j<m->∀ (aj:j<t.aa.length),(hJ pl F t.aa j).2=true->nL t.aa (dq pl F t.aa [])=true
 |0,j,h,_,_=>absurd h (qb _)
 |m+1,j,hm,aj,h=>by
  obtain⟨k,af,⟨a,b,-,c⟩ | h⟩:=(Q2 ag aj).1 h;·refine Bx.2 ⟨t.aa[j],bJ aj,?_⟩;simp only[b',fk];refine⟨a,b,?_⟩;rw[al6 af (U _ (bJ aj) a)];exact c
  ·obtain⟨ab,ak⟩:=h1 ag j aj k af;obtain⟨q,rfl⟩:=en ab;exact aas ag U m q (by omega) (by omega) h
def al7{pl:List (ByteArray×Int)}(ag:right t=true)(U:∀ d∈t.aa,d.k=6->d.kids.length=1):(hJ pl F t.aa t.root).2=nL t.aa (dq pl F t.aa []):=by
 obtain⟨Q3,ha⟩:=lK ag;obtain⟨r,lD⟩:=en Q3;apply l7.2;constructor
 ·intro h;rw[lD]at h;exact aas ag U (r+1) r (by omega) (by omega) h
 ·intro h;obtain⟨d,al,h⟩:=Bx.1 h;obtain⟨j,aj,rfl⟩:=rY al;simp only[b',fk]at h;obtain⟨a,b,c⟩:=h;have ay:=U _ al a;have af:t.aa[j].kids.headD 0∈t.aa[j].kids:=by
   match ae:t.aa[j].kids,ay with
   |[q],_=>simp
  exact aar ag t.aa.length j aj (by omega) ((Q2 ag aj).2 ⟨_,af,.inl ⟨a,b,rfl,c⟩⟩)
def aat{b:Bool}{x:Nat}:∀ {xs:List (aM×List Nat)},x∈se b xs->∃ y∈xs,x∈y.2
 |[],h=>by rw[QJ]at h;cases h
 |y::xs,h=>by
  rw[QK]at h;rcases dm.1 h with h | h;·exact⟨y,.head _,h⟩
  ·cases ah:b && !y.1.z with
   |true=>rw[ah]at h;cases h| false=>rw[ah]at h;obtain⟨z,a2,ae⟩:=aat (xs:=xs) h;exact⟨z,.tail _ a2,ae⟩
def aau{ds:List aK}{F:List aM}{t:bx}(ag:right t=true)(cm:lT (a' ds) t.aa=true):∀ (m j:Nat),j<m->j<t.aa.length->∀ x∈(dU (a' ds) F t.aa j).2,x<ds.length
 |0,j,h,_=>absurd h (qb _)
 |m+1,j,hm,aj=>by
  intro x ae;rw[GA ag aj]at ae;have ae:x∈jR (a' ds) t.aa[j] (t.aa[j].kids.map (dU (a' ds) F t.aa)):=ae;have jh:=et.1 cm _ (bJ aj);by_cases ak:t.aa[j].k=3
  ·obtain⟨q,vX,vY,Hs⟩:=QC (nm:=t.aa[j].t) (ds:=ds) (by simpa[ak]using jh);rw[jR,eD ak,bt,Hs]at ae;have:x=q:=by simpa using ae
   omega
  by_cases b5:t.aa[j].k=6/\t.aa[j].hi=0;·rw[jR,dk ak,bz,dk (show ¬ t.aa[j].k=4 by omega),bz,eD b5.1,eD b5.2]at ae;cases ae
  ·rw[La ak b5]at ae;obtain⟨y,aA,al8⟩:=aat ae;obtain⟨k,af,rfl⟩:=dB.1 aA;obtain⟨U,ab⟩:=h1 ag j aj k af;obtain⟨q,rfl⟩:=en U;exact aau ag cm m q (by omega) (by omega) x al8
def Q4(aV:ur g)(i:Nat):∀ k∈lu g.ds F i,k<g.ds.length:=by
 intro k af;unfold lu at af;by_cases h:i<g.ds.length
 ·rw[ev h]at af;have cN:=bJ h;have ag:=aV.right _ cN;obtain⟨Q3,ha⟩:=lK ag;obtain⟨r,lD⟩:=en Q3;have af:k∈(dU (a' g.ds) F g.ds[i].t.aa g.ds[i].t.root).2:=af;rw[lD]at af;exact aau ag (aV.named _ cN) (r+1) r (by omega) (by omega) k af
 ·rw[ql (by omega)]at af;cases af
def aav(aV:ur g)(h9:g.ds.length<=64){i k:Nat}(hi:i<64):p5 (qg g.ds F).m i k ↔ jb (lu g.ds F) i k:=by
 constructor
 ·intro h
  induction h with
  |one af h=>rw[K8 h9 af]at h;exact .one (by simpa using h)| step h aj t a8=>rw[K8 h9 aj]at h;exact .step (by simpa using h) (a8 aj)
 ·intro h
  induction h with
  |one h=>have:=Q4 aV _ _ h;exact .one (by omega) (by rw[K8 h9 (by omega)];simpa using h)| step h t a8=>have:=Q4 aV _ _ h;exact .step (by rw[K8 h9 (by omega)];simpa using h) (by omega) (a8 (by omega))
def aaw(az:n<=64)(p q:Nat->Bool)(U:∀ k,k<n->p k=q k)(ab:∀ k,n<=k->k<64->p k=false):(List.range 64).filter p=(List.range n).filter q:=by
 have h9:(List.range 64)=List.range n++(List.range' n (64-n)):=by rw[z4,z4,show 64=n+(64-n) by omega,<-List.range'_append_1];simp
 have ak:(List.range' n (64-n)).filter p=[]:=by rw[List.filter_eq_nil_iff];intro k af;rw[List.mem_range'_1]at af;rw[ab k (by omega) (by omega)];simp
 rw[h9,uw,ak,db];apply wT;intro k af;exact U k (by simpa using af)
def al9(ao:g.ok I)(aV:ur g)(F:List aM)(i:Nat):ti g.ds F i=Hv g.ds F i:=by
 unfold ti Hv;by_cases h:i<g.ds.length
 ·rw[ev h];have cN:=bJ h;have ag:=aV.right _ cN;have aq:=(ao.ds _ cN).t;refine al7 ag λd al af=>?_;obtain⟨j,aj,rfl⟩:=rY al;have bW:=aq.aa _ al;have:=(zK bW.k.1 (tM ag aj)).one (by omega);omega
 ·rw[ql (by omega)]
def ama(ao:g.ok I)(aV:ur g)(h9:g.ds.length<=64)(F:List aM):zP (qg g.ds F)=nO g.ds F:=by
 unfold zP nO bitsOf;refine aaw h9 _ _ (λk af=>?_) (λk af eh=>?_)
 ·rw[Z9 h9 (by omega),al9 ao aV]
 ·rw[Z9 h9 eh,Hv,ql af]
open Classical in
noncomputable def ke(ds:List aK)(F:List aM):List Nat:=(List.range ds.length).filter λi=>decide (jb (lu ds F) i i)
def amb{ds:List aK}{i:Nat}(h:ds.length<=i):lu ds F i=[]:=by rw[lu,ql h]
open Classical in
def amc(aV:ur g)(h9:g.ds.length<=64)(F:List aM):wH (qg g.ds F)=ke g.ds F:=by
 unfold wH ke;refine aaw h9 _ _ (λk af=>?_) (λk af eh=>?_)
 ·exact decide_eq_decide.2 (aav aV h9 (by omega))
 ·refine dk λaC=>?_;have aC:=(aav aV h9 eh).1 aC;have az:=amb (F:=F) af;cases aC with
  |one h=>rw[az]at h;cases h| step h t=>rw[az]at h;cases h
structure Ld(d:aH):Prop where
 aZ:d.aZ<400
 t:d.t.size<8020
structure Le(t:bx):Prop where
 n:t.n<400
 aa:∀ bE∈t.aa,Ld bE
structure Lf(d:aK):Prop where
 name:d.name.size<8020
 t:Le d.t
structure BY(g:bP):Prop where
 n:g.n<400
 ds:∀ d∈g.ds,Lf d
def A2.Hz{d:aH}(h:A2 I d)(ar:Ld d):d.ok I:=
 ⟨h.k,h.cF,h.s1,h.s2,h.dt,h.eJ,h.lo,h.hi,h.aJ.A3 (by have:=ar.aZ;omega),h.kids⟩
def xC.Hz(h:xC I t)(ar:Le t):t.ok I:=
 ⟨h.aJ.A3 (by have:=ar.n;omega),λbE bW=>(h.aa bE bW).Hz (ar.aa bE bW),h.root⟩
def vJ.Hz(h:vJ I g)(ar:BY g):g.ok I:=
 ⟨h.aJ.A3 (by have:=ar.n;omega),λd al=>⟨by have:=(ar.ds d al).name;omega,(h.ds d al).t.Hz (ar.ds d al).t⟩⟩
structure Eh(g:bP)(x:Nat×Nat):Prop where
 k:x.2<=g.n
 n:x.1<=2000
 small:x.1<400->x.2<=x.1/\∀ i (h:i<g.ds.length),i<x.2->Lf g.ds[i]
structure Lg(g:bP)(t:bx)(k:Nat)(x:Nat×Nat):Prop where
 j:x.2<=t.n
 n:x.1<=2000
 small:x.1<400->t.n<400/\k+1<=x.1/\(∀ i (h:i<g.ds.length),i<k->Lf g.ds[i])/\(∀ h:k<g.ds.length,g.ds[k].name.size<8020)/\∀ i (h:i<t.aa.length),i<x.2->Ld t.aa[i]
def DA(z:Int):List Value:=[.int .i64 z]
def BZ(h:cn deb g=0):g.n<=64:=by
 unfold cn at h;cases U:decide ((g.n:Int)=0)with
 |true=>rw[U]at h;simp at h
 |false=>
  rw[U,bz]at h;cases ab:mv g.ds with
  |false=>rw[ab]at h;simp at h
  |true=>
   rw[ab]at h;cases ak:iZ deb g with
   |true=>rw[ak]at h;simp at h| false=>unfold iZ at ak;simp only[qB,rA]at ak;omega
def aax(deb:List Int)(g:bP)(r:Int)(l:List Nat):Prop:=((cn deb g≠0\/r<0\/(g.n:Int)<=r)/\l=[])\/(cn deb g=0/\∃ F k,r=(k:Nat)/\k<g.n/\h7 g.ds F/\l=gZ g.ds F k)
def aay(deb:List Int)(g:bP)(l:List Nat):Prop:=(cn deb g≠0/\l=[])\/(cn deb g=0/\∃ F,h7 g.ds F/\l=nO g.ds F)
def Lh(deb:List Int)(g:bP)(l:List Nat):Prop:=(cn deb g≠0/\l=[])\/(cn deb g=0/\∃ F,h7 g.ds F/\l=ke g.ds F)
def filter_lt(p:Nat->Bool):∀ (n m:Nat),m<=n->((List.range n).filter p).filter (λx=>decide (x<m))=(List.range m).filter p
 |0,m,h=>by
  obtain rfl:m=0:=by omega
  rfl
 |n+1,m,h=>by
  by_cases e:m=n+1;·subst e;rw[Py];intro x ae;have:=kf.1 (qn.1 ae).1;exact eD this
  ·rw[Ef,uw,filter_lt p n m (by omega)];cases aN:p n with
   |false=>simp
   |true=>
    have:¬ n<m:=by omega
    simp[this]
open Classical in
def amd{ds:List aK}{q:Nat}{b:Bool}(a0:q<ds.length)(ah:b=true ↔ jb (lu ds F) q q) :
  (ke ds F).filter (λx=>decide (x<q+1))=(ke ds F).filter (λx=>decide (x<q))++bif b then [q]else []:=by
 unfold ke;rw[filter_lt _ _ _ (by omega),filter_lt _ _ _ (by omega),Ef];congr 2;cases b with
 |true=>exact eD (ah.1 rfl)| false=>exact dk λh=>by cases ah.2 h
def aaz{A:Nat->List Nat}{n:Nat}{e9:List Nat}(e4:∀ x,∀ y∈A x,y<n):∀ (f k:Nat) (l:List Nat),rc A n k e9 l->n+1<=f+k->rc A n (Eg A f k l).length e9 (Eg A f k l)
 |0,k,l,h,au=>by have:=h.len;have:=h.k;omega
 |f+1,k,l,h,au=>by
  rw[Eg];cases ae:l[k]? with
  |none=>
   have U:k=l.length:=by have:=h.k;have:=List.getElem?_eq_none_iff.1 ae;omega
   subst U;exact h
  |some x=>exact aaz e4 f (k+1) _ (h.next e4 ae) (by omega)
def jb.congr{B:Nat->List Nat}(h:∀ i k,k∈A i->k∈B i){i k:Nat}(aC:jb A i k):jb B i k:=by
 induction aC with
 |one U=>exact .one (h _ _ U)| step U t a8=>exact .step (h _ _ U) a8
def jb.trans{i j k:Nat}(h:jb A i j)(aG:jb A j k):jb A i k:=by
 induction h with
 |one h=>exact .step h aG| step h t a8=>exact .step h (a8 aG)
def aaA(aV:ur g){i k:Nat}:k∈gZ g.ds F i ↔ k∈lu g.ds F i:=by
 unfold gZ;rw[qn];constructor
 ·rintro⟨-,h⟩;simpa using h
 ·intro h;exact⟨by simpa using Q4 aV i k h,by simpa using h⟩
def aaB(aV:ur g){i k:Nat}:jb (gZ g.ds F) i k ↔ jb (lu g.ds F) i k:=
 ⟨jb.congr λ_ _ h=>(aaA aV).1 h,jb.congr λ_ _ h=>(aaA aV).2 h⟩
def HA{ds:List aK}{i k:Nat}(h:k∈gZ ds F i):k<ds.length:=by unfold gZ at h;simpa using(qn.1 h).1
def ame(ds:List aK)(F:List aM)(i:Nat):(gZ ds F i).Nodup:=List.Nodup.sublist Mt LV
def rc.start{ds:List aK}(i:Nat):rc (gZ ds F) ds.length 0 (gZ ds F i) (gZ ds F i):=
 ⟨ame ds F i,λx ae=>HA ae,λ_ h=>h,λ_ h=>.inl h,λj x aj=>absurd aj (qb _),bQ _⟩
def B0(ds:List aK)(F:List aM):List Nat:=(List.range ds.length).filter λi=>(Eg (gZ ds F) (ds.length+1) 0 (gZ ds F i)).contains i
open Classical in
def Q5(aV:ur g)(F:List aM):B0 g.ds F=ke g.ds F:=by
 unfold B0 ke;refine wT λi _=>?_;have U:=aaz (λx y aA=>HA aA) (g.ds.length+1) 0 _ (rc.start (ds:=g.ds) (F:=F) i) (by omega);have ab:=(U.done i).trans (aaB aV);cases aC:(Eg (gZ g.ds F) (g.ds.length+1) 0 (gZ g.ds F i)).contains i with
 |true=>exact(eD (ab.1 (by simpa using aC))).symm| false=>refine(dk λh=>?_).symm;have:=ab.2 h;rw[<-List.contains_iff_mem,aC]at this;cases this
def getD_set_true(s:List Bool)(i k:Nat)(hi:i<s.length):(s.set i true).getD k false=(decide (k=i)||s.getD k false):=by
 simp only[bV,iz];by_cases e:i=k
 ·subst e;simp[hi]
 ·have:¬ k=i:=λh=>e h.symm;simp[e,this]
structure Q6(A:Nat->List Nat)(n:Nat)(s:List Bool):Prop where
 len:s.length=n
 Q7:∀ i,s.getD i false=true->∀ x,(x=i\/jb A i x)->¬ jb A x x
def Q6.put(h:Q6 A n s){i:Nat}(hi:i<n)(au:s.getD i false=false)(ay:∀ k∈A i,s.getD k false=true):Q6 A n (s.set i true):=by
 refine⟨by rw[m1];exact h.len,λj aj x ae=>?_⟩;rw[getD_set_true _ _ _ (by rw[h.len];exact hi)]at aj;by_cases e:j=i
 ·subst e;have key:∀ y,jb A j y->¬ jb A y y:=λy aA=>by
   cases aA with
   |one U=>exact h.Q7 y (ay _ U) y (.inl rfl)| step U t=>exact h.Q7 _ (ay _ U) y (.inr t)
  rcases ae with rfl | ae;·intro aC;exact key _ aC aC
  ·exact key _ ae
 ·rw[dk e,mL]at aj;exact h.Q7 j aj x ae
structure Q8(A:Nat->List Nat)(n:Nat)(cF s:List Bool)(i:Nat):Prop where
 sub:∀ k,cF.getD k false=true->s.getD k false=true
 amf:∀ j,j<i->j<n->(∀ k∈A j,cF.getD k false=true)->s.getD j false=true
def Q8.put{cF:List Bool}{i:Nat}(h:Q8 A n cF s i)(hi:i<s.length):Q8 A n cF (s.set i true) (i+1):=by
 refine⟨λk af=>?_,λj aj az ay=>?_⟩
 ·rw[getD_set_true _ _ _ hi,h.sub k af,Dx]
 ·rw[getD_set_true _ _ _ hi];by_cases e:j=i
  ·simp[e]
  ·rw[h.amf j (by omega) az ay,Dx]
open Classical in
noncomputable def pg(ds:List aK):List aM:=if h:∃ F,h7 ds F then h.choose else []
def amg{ds:List aK}(h:h7 ds F):pg ds=F:=by have ae:∃ F,h7 ds F:=⟨F,h⟩;unfold pg;rw[dif_pos ae];exact ae.choose_spec.unique h
def HB(h:cn deb g=0):0<g.n:=by
 rcases Nat.eq_zero_or_pos g.n with e | e
 ·unfold cn at h;rw[e]at h;simp at h
 ·exact e
structure aaC(K:aT)(ds:List aK)(i:Nat)(vs:List Value):Prop where
 len:vs.length=i
 a4:0<i->h7 ds (pg ds)
 row:∀ j (h:j<vs.length),∃ os:aY,vs[j]=os.val/\os.ok 1 (hv (gZ ds (pg ds) j))/\∀ z∈os.aw 3,K z.num=some z.obj
def bq.frozen{K:aT}{a:Addr}(h:bq K M a n vs)(aV:∀ z∈M,K z.num=some z.obj):bq K M' a n vs:=by
 obtain⟨U,cs,T,an,ab,ak⟩:=h;refine⟨U,cs,T,an,?_,ak⟩;rcases ab with ab | ⟨z,a2,aL,bm⟩
 ·exact .inl ab
 ·left
  have:=aV z a2;rw[aL,bm]at this;exact this
def aaD(y:Nat):∀ (r l:List Nat),ng (r++[y]) l=bif (ng r l).contains y then ng r l else ng r l++[y]
 |[],l=>rfl| z::r,l=>by rw[oO,ng,ng,aaD y r]
def amh(cv:mF deb)(ao:g.ok I)(au:ls g)(hm:cn deb g≠0):Spec Tryz.prog 55 [g.val] I M0 λv I' M'=>I'=I/\v=fs.val/\M'=M0:=by
 refine bn [] aI Tryz.func55 rfl rfl rfl ?_;intro B av;refine bu.sF 1 ?_;refine a9.mk (λh=>?_) (λh=>?_)
 ·refine aU.whole _ (K' cv ao au) ?_;rintro v J N -⟨rfl,bg,cH⟩;subst J;subst N;refine aB.mk (λh=>absurd h (by simp[hm])) (λh=>?_);refine bu.sF 1 ?_;refine aB.mk (λh=>absurd h (by simp)) (λ_=>?_);exact⟨_,_,.refl,rfl,rfl,rfl⟩
 ·refine bu.sF 1 ?_;refine aB.mk (λh=>absurd h (by simp)) (λ_=>?_);exact⟨_,_,.refl,rfl,rfl,rfl⟩
set_option maxRecDepth 100000 in
def ami(cv:mF deb)(ao:g.ok I)(au:ls g)(hm:cn deb g=0):Spec Tryz.prog 55 [g.val] I [] λv I' M'=>(∀ b o,I b=some o->I' b=some o) /\
  ∃ os:aY,os.ok 1 (hv (ke g.ds (pg g.ds)))/\v=os.val/\M'=os.aw 3++[]/\h7 g.ds (pg g.ds):=by
 refine bn [] aI Tryz.func55 rfl rfl rfl ?_;intro B av;have cK:=ao.n;have o7:=au.n;refine bu.yo (ι:=Nat×aY×aT×List Value) (λx=>{ a4:=[(1,.ref 1 0),(3,.val x.2.1.val),(4,.val (.int .i64 x.1))],cl:=[(1,[.slice g.a g.n g.c])],br:=x.2.2.1,bO:=x.2.1.aw 25++[] }) (λx=>(x.1<=g.n/\∀ b o,I b=some o->x.2.2.1 b=some o)/\x.2.1.ok 1 x.2.2.2/\aaC x.2.2.1 g.ds x.1 x.2.2.2) (λx=>g.n-x.1) ?_ ?_
 ·exact λ_=>⟨(0,fs,I,[]),⟨⟨bQ _,λ_ _ h=>h⟩,fT 1,rfl,λh=>absurd h (Nat.lt_irrefl 0),λj h=>absurd h (by simp)⟩,.refl,cU,.cons rfl (.nil)⟩
 rintro⟨i,hp,K,vs⟩⟨⟨hi,cb⟩,jT,a5⟩;simp only at hi cb jT a5;have aaE:=a5.len;have jP:=jT.len;refine a9.mk (λh=>?_) (λh=>?_)
 ·have ax:i<g.n:=by have:decide ((i:Int)<(g.n:Int))=true:=h;have:=cq this;omega
  refine aU.whole _ (K' cv (ao.mono cb) au) ?_;rintro v J N -⟨rfl,bg,cH⟩;subst J;subst N;refine aB.mk (λ_=>?_) (λh=>absurd h (by simp[hm]));refine aU.whole _ (al3 cv (ao.mono cb) au i) ?_;rintro v hh N -⟨jr,op,l,sD,rfl,cH,ay⟩;subst N;refine bL.mk λbT h3 iF=>?_;refine bk.nF aI rfl (by simp) (e:=25) rfl rfl rfl hp jT rfl (cs:=[op.val]) rfl rfl rfl (op.aw 3) [] rfl (by omega) (by show(hp.n+1)*24<=_;omega) ?_;intro Q9 h8 ed eX;refine aQ.mk _ (bl (i:=i) (by omega)) ?_;intro gO;have wI:∀ b o,I b=some o->hh b=some o:=λb o h=>jr _ _ (cb _ _ h);have hY:l=gZ g.ds (pg g.ds) i/\h7 g.ds (pg g.ds):=by
   rcases ay with⟨a | a | a,-⟩ | ⟨-,F,k,a,b,c,d⟩;·exact absurd hm a
   ·omega
   ·omega
   ·obtain rfl:i=k:=by omega
    rw[amg c];exact⟨d,c⟩
  obtain⟨hY,im⟩:=hY;subst hY;have lS:∀ (k3:aT),(∀ b o,hh b=some o->k3 b=some o)->(∀ z∈op.aw 3,k3 z.num=some z.obj)->aaC k3 g.ds (i+1) (vs++[op.val]):=λk3 U ab=>by
   refine⟨by simp[aaE],λ_=>im,λj aj=>?_⟩;by_cases e:j<vs.length;·obtain⟨os,c5,c7,dS⟩:=a5.row j e;exact⟨os,by rw[C9 e];exact c5,c7,λz a2=>U _ _ (jr _ _ (dS z a2))⟩
   ·have a7:j=i:=by simp at aj;omega
    subst a7;exact⟨op,by simp[<-aaE],sD,ab⟩
  cases aX:op.a with
  |none=>
   have sQ:op.aw 3=[]:=by unfold aY.aw;rw[aX]
   refine⟨(i+1,Q9,hh,vs++[op.val]),⟨⟨⟨ax,wI⟩,eX,lS hh (λ_ _ h=>h) (by rw[sQ];intro z a2;cases a2)⟩,by simp only;omega⟩,.lW (by rw[sQ];rfl),cU,.cons rfl (.nil)⟩
  |some b=>
   have jG:op.aw 3=[⟨b,.cells op.cur.toArray 3 (0,0)⟩]:=by unfold aY.aw;rw[aX]
   rw[jG]at lS;have sG:=gO.d ⟨b,.cells op.cur.toArray 3 (0,0)⟩ (by rw[jG];exact .head _);refine⟨(i+1,Q9,ins hh b (.cells op.cur.toArray 3 (0,0)),vs++[op.val]),⟨⟨⟨ax,λc o h=>nx sG _ _ (wI _ _ h)⟩,eX,lS _ (λc o h=>nx sG _ _ h) (λz a2=>by rw[fb.1 a2];exact tP ..)⟩,by simp only;omega⟩,.pt (b:=b) (o:=.cells op.cur.toArray 3 (0,0)) (post:=Q9.aw 25++[]) (by rw[jG];rfl) (by simp) .refl,cU,.cons rfl (.nil)⟩
 have bS:i=g.n:=by have:decide ((i:Int)<(g.n:Int))=false:=h;have:=cR this;omega
 subst bS;refine bu.yo (ι:=Nat×aY) (λx=>{ a4:=[(3,.val hp.val),(5,.val x.2.val),(6,.val (.int .i64 x.1))],cl:=[],br:=K,bO:=x.2.aw 3++(hp.aw 25++[]) }) (λx=>x.1<=g.n/\x.2.ok 1 (hv ((ke g.ds (pg g.ds)).filter λq=>decide (q<x.1)))) (λx=>g.n-x.1) ?_ ?_
 ·refine λ_=>⟨(0,fs),⟨bQ _,?_⟩,.refl,cU,.nil⟩;have:(ke g.ds (pg g.ds)).filter (λq=>decide (q<0))=[]:=by simp
  simp only;rw[this];exact fT 1
 rintro⟨q,qh⟩⟨a0,q7⟩;simp only at a0 q7;refine aB.mk (λab=>?_) (λab=>?_)
 rotate_left
 ·have bS:g.n<=q:=by have:=cR ab;have ak:¬ (q:Int)<(hp.n:Int):=this;omega
  have eg:(ke g.ds (pg g.ds)).filter (λx=>decide (x<q))=ke g.ds (pg g.ds):=by
   rw[Py];intro x ae;have:x<g.ds.length:=by simpa using(qn.1 ae).1
   exact eD (by omega)
  rw[eg]at q7;exact⟨_,qh.aw 3++[],.sub (Dc (.refl _) (e' _ _)) .refl,cb,qh,q7,rfl,rfl,a5.a4 (HB hm)⟩
 have ax:q<g.n:=by have ak:(q:Int)<(hp.n:Int):=cq ab;omega
 have o2:q<vs.length:=by omega
 obtain⟨fg,Q',Ei,amj⟩:=a5.row q o2;refine bL.mk λaaF arG arH=>?_;have n8:hp.ok 1 (vs.flatMap λv=>[v]):=by
  have:vs.flatMap (λv=>[v])=vs:=by simp
  rw[this];exact jT
 obtain⟨ad,ba,a3⟩:=aY.ok.row (I:=K) (M:=⟨aaF,.cells #[] 3 (0,0)⟩::(qh.aw 3++(hp.aw 25++[]))) (e:=25) (f:=λv:Value=>[v]) (size:=1) (λ_=>rfl) (by decide) n8 (λz a2=>by simp[a2]) o2;rw[Q']at a3;refine aW.mk ad q ba rfl (by omega) ?_;refine aE.mk _ a3 ?_;have rz:=aY.pos Ei;have dp:=BW (λk=>(lu g.ds (pg g.ds) q).contains k) g.ds.length;have arI:(gZ g.ds (pg g.ds) q).length<=g.n:=by rw[<-cK];exact dp
 refine bk.v8 aI rfl (by simp) (e:=3) rfl rfl rfl ⟨some aaF,0,0,[]⟩ (xs:=[]) ⟨rfl,(λh=>by cases h),(λg h=>⟨rfl,b2 _,bQ _,rfl⟩)⟩ rfl (sa:=fg.a.map λg=>(⟨g,0,none⟩:Addr)) (m:=fg.n) (c':=fg.c) (news:=hv (gZ g.ds (pg g.ds) q)) rfl (by rw[aai];show _=fg.n*1;omega) (λav=>?_) (aah _) [] (qh.aw 3++(hp.aw 25++[])) rfl (by simp only;omega) (by show(0+fg.n)*8<=_;omega) ?_
 ·cases uV:fg.a with
  |none=>have:=(Ei.nil uV).1;omega| some b=>obtain⟨c6,dg,gB,my⟩:=Ei.cap b uV;refine⟨⟨b,0,none⟩,rfl,rfl,_,_,_,.inl (amj ⟨b,.cells fg.cur.toArray 3 (0,0)⟩ (by unfold aY.aw;rw[uV];exact .head _)),?_,Ei.len⟩;simp only[qC];exact my
 intro ol kI IL HC;have aV:=v0 cK hm;generalize amk:pg g.ds=F at *;have HC:ol.ok 1 (hv (gZ g.ds F q)):=by rw[hO]at HC;exact HC
 clear kI IL;refine bu.inv (ι:=Nat×aY×List Nat) (λx=>{ a4:=[(3,.val hp.val),(5,.val qh.val),(6,.val (.int .i64 q)),(7,.val x.2.1.val),(8,.val (.int .i64 x.1))],cl:=[],br:=K,bO:=x.2.1.aw 3++(qh.aw 3++(hp.aw 25++[])) }) (λx=>rc (gZ g.ds F) g.ds.length x.1 (gZ g.ds F q) x.2.2/\x.2.1.ok 1 (hv x.2.2)) (λx=>g.n-x.1) ?_ ?_
 ·exact⟨(0,ol,gZ g.ds F q),⟨rc.start q,HC⟩,.refl,ec,.nil⟩
 clear HC;rintro⟨k,ol,l⟩⟨hw,jP⟩;simp only at hw jP;have vC:=aY.pos jP;have iT:=hw.len;have bj:=hw.k;refine aB.mk (λak=>?_) (λak=>?_)
 rotate_left
 ·have arJ:l.length<=k:=by have:¬ (k:Int)<(ol.n:Int):=cR ak;omega
  obtain rfl:k=l.length:=by omega
  have KP:=hw.done q;rw[aaB aV]at KP;refine aU.whole _ (QM q jP (λz a2=>gM _ a2) (by omega)) ?_;rintro v J N -⟨rfl,bg,cH⟩;subst J;subst N;have jM:(ke g.ds F).filter (λx=>decide (x<q+1))=(ke g.ds F).filter (λx=>decide (x<q))++bif l.contains q then [q]else []:=amd (by omega) (by rw[<-KP];simp);refine aB.mk (λhe=>?_) (λhe=>?_)
  ·have fM:l.contains q=true:=he;have arK:=aY.pos q7;have tz:=to (λx=>decide (x<q)) (ke g.ds F);have lf:(ke g.ds F).length<=g.ds.length:=by have:=to (λi=>(Classical.propDecidable (jb (lu g.ds F) i i)).decide) (List.range g.ds.length);rw[J0]at this;exact this
   refine bL.mk λbT h3 iF=>?_;refine bk.nF aI rfl (by simp) (e:=3) rfl rfl rfl qh q7 rfl (cs:=[.int .i64 q]) rfl rfl rfl (ol.aw 3) (hp.aw 25++[]) rfl (by omega) (by show(qh.n+1)*8<=_;omega) ?_;intro Ra h8 ed eX;refine aQ.mk _ (bl (i:=q) (by omega)) ?_;intro gO;refine⟨(q+1,Ra),⟨⟨ax,?_⟩,by simp only;omega⟩,.sub (e' _ _) .refl,cU,.nil⟩;simp only;rw[jM,fM,bt,Hx];exact eX
  ·have fM:l.contains q=false:=he;refine aQ.mk _ (bl (i:=q) (by omega)) ?_;intro gO;refine⟨(q+1,qh),⟨⟨ax,?_⟩,by simp only;omega⟩,.sub (e' _ _) .refl,cU,.nil⟩;simp only;rw[jM,fM,bz,db];exact q7
 have Rb:k<l.length:=by have:(k:Int)<(ol.n:Int):=cq ak;omega
 have fU:l[k]<g.n:=by have:=hw.lt _ (bJ Rb);omega
 have ho:l[k]?=some l[k]:=ev Rb;generalize l[k]=x at fU ho;have aaG:x<vs.length:=by omega
 obtain⟨eF,te,mD,Hf⟩:=a5.row x aaG;rw[amk]at mD;have sP:=aY.pos mD;have e8:(gZ g.ds F x).length<=g.n:=by rw[<-cK];exact BW (λk=>(lu g.ds F x).contains k) g.ds.length
 refine bu.inv (ι:=Nat×aY×List Nat) (λx=>{ a4:=[(3,.val hp.val),(5,.val qh.val),(6,.val (.int .i64 q)),(7,.val x.2.1.val),(8,.val (.int .i64 k)),(9,.val (.int .i64 x.1))],cl:=[],br:=K,bO:=x.2.1.aw 3++(qh.aw 3++(hp.aw 25++[])) }) (λy=>y.1<=eF.n/\y.2.2=ng ((gZ g.ds F x).take y.1) l/\y.2.1.ok 1 (hv y.2.2)) (λy=>eF.n-y.1) ?_ ?_
 ·exact⟨(0,ol,l),⟨bQ _,rfl,jP⟩,.refl,jD,.nil⟩
 clear jP vC;rintro⟨j,ol,dy⟩⟨aj,hY,jP⟩;simp only at aj hY jP;have vC:=aY.pos jP;have arL:dy.length<=g.ds.length:=by
  refine Q0 _ _ (by rw[hY];exact QZ _ _ hw.bE) λy aA=>?_;rw[hY,BX]at aA;rcases aA with aA | aA;·exact hw.lt y aA
  ·exact HA (Ft aA)
 obtain⟨pre,aaH⟩:=QY ((gZ g.ds F x).take j) l;have gy:k<dy.length:=by rw[hY,aaH,cz];omega
 have zO:dy[k]=x:=by
  have bm:dy[k]?=some x:=by rw[hY,aaH,sq Rb];exact ho
  rw[ev gy]at bm;exact kn bm
 have aml:∀ M,(∀ z∈ol.aw 3,z∈M)->∃ ad,ol.a.map (λg=>(⟨g,0,none⟩:Addr))=some ad/\bq K M (ad.add (k*1)) 1 [.int .i64 x]:=λM aV=>by have:=QL (I:=K) (M:=M) (e:=3) jP aV gy;rwa [zO]at this
 obtain⟨Rc,Rd,Re⟩:=aml (ol.aw 3++(qh.aw 3++(hp.aw 25++[]))) (λz a2=>gM _ a2);have amm:∀ M,(∀ z∈hp.aw 25,z∈M)->∃ ad,hp.a.map (λg=>(⟨g,0,none⟩:Addr))=some ad/\bq K M (ad.add (x*1)) 1 [eF.val]:=λM aV=>by have:=aY.ok.row (I:=K) (M:=M) (e:=25) (f:=λv:Value=>[v]) (size:=1) (λ_=>rfl) (by decide) n8 aV aaG;rwa [te]at this
 obtain⟨Rf,Rg,Rh⟩:=amm (ol.aw 3++(qh.aw 3++(hp.aw 25++[]))) (λz a2=>ly _ (ly _ (gM _ a2)));refine aW.mk Rc k Rd rfl (show k<ol.n by omega) ?_;refine aE.mk _ Re ?_;refine aW.mk Rf x Rg rfl (by omega) ?_;refine aE.mk _ Rh ?_;refine aB.mk (λaL=>?_) (λaL=>?_)
 rotate_left
 ·have arM:eF.n<=j:=by have:¬ (j:Int)<(eF.n:Int):=cR aL;omega
  rw[dX (by omega)]at hY;have BQ:=hw.next (λz y aA=>HA aA) ho;refine aQ.mk _ (bl (i:=k) (by omega)) ?_;refine⟨(k+1,ol,dy),⟨⟨by rw[hY];exact BQ,jP⟩,by simp only;omega⟩,.refl,ec,.nil⟩
 have zt:j<eF.n:=by have:(j:Int)<(eF.n:Int):=cq aL;omega
 have Ri:j<(gZ g.ds F x).length:=by omega
 have aaI:∀ M,∃ ad,eF.a.map (λg=>(⟨g,0,none⟩:Addr))=some ad/\bq K M (ad.add (j*1)) 1 [.int .i64 (gZ g.ds F x)[j]]:=λM=>by obtain⟨ad,bm,b5⟩:=QL (I:=K) (M:=eF.aw 3) (e:=3) mD (λz a2=>a2) Ri;exact⟨ad,bm,b5.frozen Hf⟩
 obtain⟨aaJ,aaK,Rj⟩:=aaI (ol.aw 3++(qh.aw 3++(hp.aw 25++[])));have sd:(gZ g.ds F x)[j]<g.ds.length:=HA (bJ Ri);have eG:ng ((gZ g.ds F x).take (j+1)) l=bif dy.contains (gZ g.ds F x)[j]then dy else dy++[(gZ g.ds F x)[j]]:=by rw[er Ri,aaD,<-hY]
 generalize(gZ g.ds F x)[j]=y at sd eG aaI Rj;refine aW.mk Rc k Rd rfl (show k<ol.n by omega) ?_;refine aE.mk _ Re ?_;refine aW.mk Rf x Rg rfl (by omega) ?_;refine aE.mk _ Rh ?_;refine aW.mk aaJ j aaK rfl zt ?_;refine aE.mk _ Rj ?_;refine aU.whole _ (QM y jP (λz a2=>gM _ a2) (by omega)) ?_;rintro v J N -⟨rfl,bg,cH⟩;subst J;subst N;refine aB.mk (λhe=>?_) (λhe=>?_)
 ·have fM:dy.contains y=false:=by have:(!dy.contains y)=true:=he;simpa using this
  rw[fM,bz]at eG;refine aW.mk Rc k Rd rfl (show k<ol.n by omega) ?_;refine aE.mk _ Re ?_;refine aW.mk Rf x Rg rfl (by omega) ?_;refine aE.mk _ Rh ?_;refine aW.mk aaJ j aaK rfl zt ?_;refine aE.mk _ Rj ?_;refine bL.mk λbT h3 iF=>?_;refine bk.nF aI rfl (by simp) (e:=3) rfl rfl rfl ol jP rfl (cs:=[.int .i64 y]) rfl rfl rfl [] (qh.aw 3++(hp.aw 25++[])) rfl (by omega) (by show(ol.n+1)*8<=_;omega) ?_;intro Ra h8 ed eX;refine aQ.mk _ (bl (i:=j) (by omega)) ?_;refine⟨(j+1,Ra,dy++[y]),⟨⟨zt,eG.symm,?_⟩,by simp only;omega⟩,.refl,jD,.nil⟩;simp only;rw[Hx];exact eX
 ·have fM:dy.contains y=true:=by have:(!dy.contains y)=false:=he;simpa using this
  rw[fM,bt]at eG;refine aQ.mk _ (bl (i:=j) (by omega)) ?_;exact⟨(j+1,ol,dy),⟨⟨zt,eG.symm,jP⟩,by simp only;omega⟩,.refl,jD,.nil⟩
def oz(deb:List Int)(g:bP)(r:Int×Int):Prop:=(cn deb g≠0/\r=(0,cn deb g))\/(cn deb g=0/\∃ F,h7 g.ds F/\r=if 0<(ke g.ds F).length then((((ke g.ds F).headD 0:Nat):Int),42)else if 0<(nO g.ds F).length then((((nO g.ds F).headD 0:Nat):Int),43)else(0,0))
def oz.eq{l m:Int×Int}(h:oz deb g l)(aG:oz deb g m):l=m:=by
 rcases h with⟨a,rfl⟩ | ⟨a,F,d,rfl⟩<;>rcases aG with⟨ch,rfl⟩ | ⟨ch,dN,xN,rfl⟩
 ·rfl
 ·exact absurd ch a
 ·exact absurd a ch
 ·rw[d.unique xN]
def amn(bA:fr I deb)(ao:g.ok I)(gW:∀ d∈g.ds,nc d.t):Spec Tryz.prog 30 [g.val] I [] λv I' M'=>(∀ b o,I b=some o->I' b=some o)/\M'=[] /\ ∃ r:Int×Int,v=.tuple #[.int .i64 r.1,.int .i64 r.2]/\oz deb g r:=
 Spec.iM (alN bA ao gW BZ) λv I' M' h=>by
  obtain⟨U,ab,r,ak,bm⟩:=h;refine⟨U,ab,r,ak,?_⟩;rcases bm with bm | ⟨hm,F,c,d⟩;·exact .inl bm
  ·have aV:=v0 ao.n hm;have h9:=BZ hm;have cK:=ao.n;refine .inr ⟨hm,F,c,?_⟩;rw[d,Hu,cB (by simp),amc aV (by omega),ama ao aV (by omega)]
def amo(bA:fr I deb)(ao:g.ok I)(gW:∀ d∈g.ds,nc d.t):Spec Tryz.prog 17 [g.val] I [] λv I' M'=>(∀ b o,I b=some o->I' b=some o)/\M'=[] /\
  ∃ r:Int×Int,v=.int .i64 r.2/\oz deb g r:=by
 refine bn [] aI Tryz.func17 rfl rfl rfl ?_;intro B av;refine aU.mk [] [] _ (.refl _) (amn bA ao gW) ?_;rintro v bR N -⟨bK,rfl,r,rfl,h⟩;exact⟨_,_,.refl,bK,rfl,r,rfl,h⟩
def amp(cv:mF deb)(ao:g.ok I)(au:ls g)(cL:Spec Tryz.prog 55 [g.val] I M0 λv I' M'=>(∀ b o,I b=some o->I' b=some o)/\∃ (os:aY) (l:List Nat),os.ok 1 (hv l)/\v=os.val/\M'=os.aw 3++M0/\Lh deb g l) :
  Spec Tryz.prog 35 [g.val] I M0 λv I' M'=>(∀ b o,I b=some o->I' b=some o)/\M'=M0/\∃ r:Int×Int,v=.tuple #[.int .i64 r.1,.int .i64 r.2]/\oz deb g r:=by
 refine bn [] aI Tryz.func35 rfl rfl rfl ?_;intro B av;refine aU.whole _ (K' cv ao au) ?_;rintro v J N -⟨rfl,bg,cH⟩;subst J;subst N;refine aB.mk (λh=>?_) (λh=>?_)
 ·have hm:cn deb g≠0:=by have:(!decide (cn deb g=0))=true:=h;simpa using this
  exact⟨_,_,.refl,λ_ _ h=>h,rfl,(0,cn deb g),rfl,.inl ⟨hm,rfl⟩⟩
 have hm:cn deb g=0:=by have:(!decide (cn deb g=0))=false:=h;simpa using this
 refine aU.whole _ cL ?_;rintro v J N -⟨bg,os,l,bf,rfl,rfl,⟨mV,-⟩|⟨-,F,bs,rfl⟩⟩
 ·exact absurd hm mV
 have aN:=aY.pos bf;refine aB.mk (λh=>?_) (λh=>?_)
 ·have aG:0<(ke g.ds F).length:=by have:(0:Int)<(os.n:Int):=cq h;omega
  obtain⟨ad,ba,a3⟩:=K6 (I:=J) (e:=3) (M0:=M0) bf aG rfl;refine aW.mk ad 0 ba rfl (by omega) ?_;refine aE.mk _ a3 ?_;exact⟨_,M0,.sub (e' _ _) .refl,bg,rfl,(((ke g.ds F).headD 0:Nat),42),rfl,.inr ⟨hm,F,bs,by rw[cw aG]⟩⟩
 have aG:¬ 0<(ke g.ds F).length:=by have:¬ (0:Int)<(os.n:Int):=cR h;omega
 refine aU.whole _ (al5 cv (ao.mono bg) au) ?_;rintro v K N -⟨cb,uU,PX,BT,rfl,rfl,⟨mV,-⟩|⟨-,P7,P8,rfl⟩⟩
 ·exact absurd hm mV
 obtain rfl:=bs.unique P8;have q2:=aY.pos BT;have aaL:∀ b o,I b=some o->K b=some o:=λb o h=>cb _ _ (bg _ _ h);refine aB.mk (λh=>?_) (λh=>?_)
 ·have ab:0<(nO g.ds F).length:=by have:(0:Int)<(uU.n:Int):=cq h;omega
  obtain⟨ad,ba,a3⟩:=K6 (I:=K) (e:=3) (M0:=os.aw 3++M0) BT ab rfl;refine aW.mk ad 0 ba rfl (by omega) ?_;refine aE.mk _ a3 ?_;exact⟨_,M0,.sub ((e' _ _).trans (e' _ _)) .refl,aaL,rfl,(((nO g.ds F).headD 0:Nat),43),rfl,.inr ⟨hm,F,bs,by rw[cB aG,cw ab]⟩⟩
 have ab:¬ 0<(nO g.ds F).length:=by have:¬ (0:Int)<(uU.n:Int):=cR h;omega
 exact⟨_,M0,.sub ((e' _ _).trans (e' _ _)) .refl,aaL,rfl,(0,0),rfl,.inr ⟨hm,F,bs,by rw[cB aG,cB ab]⟩⟩
def amq(gi:Spec Tryz.prog 35 [g.val] I M0 λv I' M'=>(∀ b o,I b=some o->I' b=some o)/\M'=M0/\∃ r:Int×Int,v=.tuple #[.int .i64 r.1,.int .i64 r.2]/\oz deb g r) :
  Spec Tryz.prog 22 [g.val] I M0 λv I' M'=>(∀ b o,I b=some o->I' b=some o)/\M'=M0/\∃ r:Int×Int,v=.int .i64 r.2/\oz deb g r:=by
 refine bn [] aI Tryz.func22 rfl rfl rfl ?_;intro B av;refine aU.whole _ gi ?_;rintro v bR N -⟨bK,rfl,r,rfl,h⟩;exact⟨_,_,.refl,bK,rfl,r,rfl,h⟩
section
variable{I:aT}{M0:List aD}{deb:List Int}
def amr(cv:mF deb)(ao:g.ok I)(au:ls g):Spec Tryz.prog 55 [g.val] I M0 λv I' M'=>(∀ b o,I b=some o->I' b=some o)/\∃ (os:aY) (l:List Nat),os.ok 1 (hv l)/\v=os.val/\M'=os.aw 3++M0/\Lh deb g l:=by
 by_cases hm:cn deb g=0
 ·refine Spec.iM (Spec.frame (ami cv ao au hm)) ?_;rintro v J M⟨M',rfl,-,U,-,os,bf,rfl,rfl,bs⟩;exact⟨U,os,_,bf,rfl,by rw[db],.inr ⟨hm,_,bs,rfl⟩⟩
 ·refine Spec.iM (amh cv ao au hm) ?_;rintro v J M⟨rfl,rfl,rfl⟩;exact⟨λ_ _ h=>h,fs,[],fT 1,rfl,rfl,.inl ⟨hm,rfl⟩⟩
def ams(cv:mF deb)(ao:g.ok I)(au:ls g):Spec Tryz.prog 35 [g.val] I M0 λv I' M'=>(∀ b o,I b=some o->I' b=some o)/\M'=M0/\∃ r:Int×Int,v=.tuple #[.int .i64 r.1,.int .i64 r.2]/\oz deb g r:=
 amp cv ao au (amr cv ao au)
def aaM(cv:mF deb)(ao:g.ok I)(au:ls g):Spec Tryz.prog 22 [g.val] I M0 λv I' M'=>(∀ b o,I b=some o->I' b=some o)/\M'=M0/\∃ r:Int×Int,v=.int .i64 r.2/\oz deb g r:=
 amq (ams cv ao au)
end
structure re where
 k:Int
 cF:Int
 s1:Int
 s2:Int
 dt:Int
 t:List UInt8
 lo:Int
 hi:Int
 kids:List Int
def re.bE(c:re)(a:Option Addr)(n k:Nat):aH:=⟨c.k,c.cF,c.s1,c.s2,c.dt,⟨c.t.toArray⟩,c.lo,c.hi,a,n,k,c.kids⟩
inductive ya:List re->List aH->Prop
 |nil:ya [] []| cons {c cs aa} (a:Option Addr) (n k:Nat) (t:ya cs aa):ya (c::cs) (c.bE a n k::aa)
structure wL where
 aa:List re
 root:Int
structure HD(c:wL)(t:bx):Prop where
 aa:ya c.aa t.aa
 root:t.root=c.root
structure hK where
 name:List UInt8
 t:wL
inductive oA:List hK->List aK->Prop
 |nil:oA [] []| cons {c cs ds} {t:bx} (h:HD c.t t) (k:oA cs ds):oA (c::cs) (⟨⟨c.name.toArray⟩,t⟩::ds)
def aaN:Int->Bool
 | .ofNat k=>Nat.ble k 9223372036854775807| .negSucc k=>Nat.ble k 9223372036854775807
def aaO:Int->Bool
 | .ofNat k=>Nat.ble k 18446744073709551615| .negSucc _=>false
def okB:Int->Bool
 | .ofNat k=>Nat.ble k 255| .negSucc _=>false
def amt{x:Int}(h:aaN x=true):iY x:=by
 cases x with
 |ofNat k=>have:=b9 h;exact⟨by simp only[CS];omega,by simp only[CS];omega⟩| negSucc k=>have:=b9 h;exact⟨by omega,by omega⟩
def amu{x:Int}(h:aaO x=true):e5 x:=by
 cases x with
 |ofNat k=>have:=b9 h;exact⟨by simp,by simp;omega⟩| negSucc k=>cases h
def amv{x:Int}(h:okB x=true):0<=x/\x<256:=by
 cases x with
 |ofNat k=>have:=b9 h;exact⟨by simp,by simp;omega⟩| negSucc k=>cases h
noncomputable def Rk:ap->Option Int
 | .i .u8 n=>bX (okB n) (some n) none| _=>none
noncomputable def Ej:ap->Option Int
 | .i .u64 n=>bX (aaO n) (some n) none| _=>none
noncomputable def Ek:ap->Option Int
 | .i .i64 n=>bX (aaN n) (some n) none| _=>none
noncomputable def Li:ap->Option (List UInt8)
 | .s l=>bX (Nat.ble l.length 140737488355328) (some l) none| _=>none
section
variable{D:bF}{v:ap}{u:Value}
def amw{n:Int}(h:Rk v=some n)(ai:aS D v u):u=.int .u8 n/\0<=n/\n<256:=by
 unfold Rk at h;split at h
 ·obtain⟨U,ab⟩:=fV h;cases ab;simp only[aS]at ai;exact⟨ai,amv U⟩
 ·cases h
def Lj{n:Int}(h:Ej v=some n)(ai:aS D v u):u=.int .u64 n/\e5 n:=by
 unfold Ej at h;split at h
 ·obtain⟨U,ab⟩:=fV h;cases ab;simp only[aS]at ai;exact⟨ai,amu U⟩
 ·cases h
def Lk{n:Int}(h:Ek v=some n)(ai:aS D v u):u=.int .i64 n/\iY n:=by
 unfold Ek at h;split at h
 ·obtain⟨U,ab⟩:=fV h;cases ab;simp only[aS]at ai;exact⟨ai,amt U⟩
 ·cases h
def aaP{l:List UInt8}(h:Li v=some l)(ai:aS D v u):u=.string ⟨l.toArray⟩/\(⟨l.toArray⟩:ByteArray).size<=140737488355328:=by
 unfold Li at h;split at h
 ·obtain⟨U,ab⟩:=fV h;cases ab;simp only[aS]at ai;exact⟨ai,b9 U⟩
 ·cases h
end
noncomputable def HE{R:Type}(G:GT)(m:be fa)(x:ap)(size b:Nat)(K:List ap->Option R):Option R:=match x with
 | .sn=>K []| .so=>K []| .sl id off n c=>bX (Nat.ble n c) (bX (Nat.ble (Nat.mul n b) 140737488355328) (ta G m (.p id off) (Nat.mul n size) K) none) none| .sx id off e n=>bX (Nat.ble (Nat.mul n b) 140737488355328) (ta G m (.p id off) (Nat.mul n size) K) none| _=>none
noncomputable def ints:List ap->Option (List Int)
 |[]=>some []| v::l=>bN (Ek v) none λn=>bN (ints l) none λr=>some (n::r)
noncomputable def Ll(G:GT)(m:be fa):List ap->Option (List re)
 |[]=>some []
 |a::b::c::d::e::f::g::h::x::l=>bN (Rk a) none λa=>bN (Ej b) none λb=>bN (Ej c) none λc=>bN (Ej d) none λd=>bN (Ej e) none λe=>bN (Li f) none λf=>bN (Ek g) none λg=>bN (Ek h) none λh=>
  bN (HE G m x 1 8 ints) none λks=>bN (Ll G m l) none λaa=>some (⟨a,b,c,d,e,f,g,h,ks⟩::aa)
 |_=>none
noncomputable def Rl(G:GT)(m:be fa)(x r:ap):Option wL:=bN (HE G m x 9 96 (Ll G m)) none λaa=>bN (Ek r) none λr=>some ⟨aa,r⟩
noncomputable def Lm(G:GT)(m:be fa):List ap->Option (List hK)
 |[]=>some []| a::x::r::l=>bN (Li a) none λa=>bN (Rl G m x r) none λt=>bN (Lm G m l) none λds=>some (⟨a,t⟩::ds)
 |_=>none
noncomputable def Rm(G:GT)(m:be fa):ap->Option (List hK)
 | .a [x]=>HE G m x 3 48 (Lm G m)| _=>none
section
variable{Y:gm}{D:bF}{m:bi}{I J:aT}{M:List aD}
def Rn{R:Type}(h:c2 Y D m I M)(bg:mE I M J){x:ap}(ae:aS D x u){K:List ap->Option R}{r:R}(ag:HE Y.G m.t x size b K=some r) :
  ∃ a n c l vs,u=.slice a n c/\gb J a n c size b vs/\bD D l vs/\K l=some r:=by
 unfold HE at ag;split at ag
 ·simp only[aS]at ae;exact⟨none,0,0,[],[],ae,⟨by simp,⟨b2 _,by omega⟩,.inl rfl⟩,by simp[bD],ag⟩
 ·simp only[aS]at ae;obtain⟨a,c,ae⟩:=ae;exact⟨some a,0,c,[],[],ae,⟨by simp,⟨bQ _,by omega⟩,.inl rfl⟩,by simp[bD],ag⟩
 ·rename_i id off n c;obtain⟨U,ag⟩:=fV ag;obtain⟨ab,ag⟩:=fV ag;simp only[aS]at ae;obtain⟨a,aX,ae⟩:=ae;obtain⟨ad,l,vs,aF,a7,bC,di⟩:=wi h (x:=.p id off) (u:=.pointer (some ⟨a.b,a.o+off,none⟩)) (by simp only[aS];exact⟨a,aX,rfl⟩) ag;cases aF;obtain⟨a6,cs,T,f,bb,b0,fy⟩:=a7;exact⟨_,n,c,l,vs,ae,⟨fy,⟨b9 U,b9 ab⟩,.inr ⟨_,rfl,rfl,cs,T,f,bg.aZ _ _ bb,b0⟩⟩,bC,di⟩
 ·rename_i id off e n;obtain⟨ab,ag⟩:=fV ag;simp only[aS]at ae;obtain⟨a,aX,aC,ae⟩:=ae;obtain⟨ad,l,vs,aF,a7,bC,di⟩:=wi h (x:=.p id off) (u:=.pointer (some ⟨a.b,a.o+off,none⟩)) (by simp only[aS];exact⟨a,aX,rfl⟩) ag;cases aF;obtain⟨a6,cs,T,f,bb,b0,fy⟩:=a7;exact⟨_,n,a.c-e,l,vs,ae,⟨fy,⟨by omega,b9 ab⟩,.inr ⟨_,rfl,rfl,cs,T,f,bg.aZ _ _ bb,b0⟩⟩,bC,di⟩
 ·cases ag
def aaQ:∀ {l:List ap} {vs:List Value} {ks:List Int},ints l=some ks->bD D l vs->vs=ks.map (Value.int .i64 ·)/\∀ x∈ks,iY x
 |[],vs,ks,h,ai=>by cases h;simp only[bD]at ai;exact⟨ai,by simp⟩
 |v::l,vs,ks,h,ai=>by unfold ints at h;obtain⟨n,U,h⟩:=ct h;obtain⟨r,ab,h⟩:=ct h;cases h;simp only[bD]at ai;obtain⟨x,xs,a6,bb,rfl⟩:=ai;obtain⟨rfl,aF⟩:=Lk U a6;obtain⟨rfl,a7⟩:=aaQ ab bb;exact⟨rfl,λx ae=>(ea.1 ae).elim (λe=>e ▸ aF) (a7 x)⟩
def aaR(h:c2 Y D m I M)(bg:mE I M J):∀ (l:List ap) {vs:List Value} {cs:List re},Ll Y.G m.t l=some cs->bD D l vs->∃ aa:List aH,vs=aa.flatMap aH.cells/\ya cs aa/\∀ d∈aa,d.ok J
 |[],vs,cs,ag,ai=>by cases ag;simp only[bD]at ai;exact⟨[],ai,.nil,by simp⟩
 |a::b::c::d::e::f::g::i::x::l,vs,cs,ag,ai=>by
  unfold Ll at ag;obtain⟨ch,U,ag⟩:=ct ag;obtain⟨ic,ab,ag⟩:=ct ag;obtain⟨c',ak,ag⟩:=ct ag;obtain⟨xN,aL,ag⟩:=ct ag;obtain⟨c0,bm,ag⟩:=ct ag;obtain⟨pO,b5,ag⟩:=ct ag;obtain⟨dh,fw,ag⟩:=ct ag;obtain⟨gn,fu,ag⟩:=ct ag;obtain⟨ks,fP,ag⟩:=ct ag;obtain⟨arN,rH,ag⟩:=ct ag;cases ag;simp only[bD]at ai;obtain⟨_,_,da,⟨_,_,bZ,⟨_,_,fG,⟨_,_,hF,⟨_,_,Qd,⟨_,_,Qu,⟨_,_,amx,⟨_,_,amy,⟨_,_,ZH,amz,rfl⟩,rfl⟩,rfl⟩,rfl⟩,rfl⟩,rfl⟩,rfl⟩,rfl⟩,rfl⟩:=ai;obtain⟨rfl,aF⟩:=amw U da;obtain⟨rfl,a7⟩:=Lj ab bZ;obtain⟨rfl,bC⟩:=Lj ak fG;obtain⟨rfl,di⟩:=Lj aL hF;obtain⟨rfl,hE⟩:=Lj bm Qd;obtain⟨rfl,kx⟩:=aaP b5 Qu;obtain⟨rfl,uM⟩:=Lk fw amx;obtain⟨rfl,wx⟩:=Lk fu amy;obtain⟨eA,aZ,ej,li,arO,rfl,zE,amA,amB⟩:=Rn h bg ZH fP;obtain⟨rfl,Ro⟩:=aaQ amB amA;obtain⟨aa,rfl,amC,amD⟩:=aaR h bg l rH amz;refine⟨re.bE ⟨ch,ic,c',xN,c0,pO,dh,gn,ks⟩ eA aZ ej::aa,rfl,.cons eA aZ ej amC,λy aA=>?_⟩;rcases ea.1 aA with rfl | aA;·exact⟨aF,a7,bC,di,hE,k5 kx (by decide),uM,wx,zE,Ro⟩
  ·exact amD y aA
def amE(h:c2 Y D m I M)(bg:mE I M J){x r:ap}{w:Value}{c:wL}(ag:Rl Y.G m.t x r=some c)(ae:aS D x u)(hw:aS D r w):∃ t:bx,u=.slice t.a t.n t.c/\w=.int .i64 t.root/\t.ok J/\HD c t:=by unfold Rl at ag;obtain⟨aa,U,ag⟩:=ct ag;obtain⟨k,ab,ag⟩:=ct ag;cases ag;obtain⟨rfl,aF⟩:=Lk ab hw;obtain⟨a,n,c,l,vs,rfl,a7,bC,di⟩:=Rn h bg ae U;obtain⟨ds,rfl,hE,kx⟩:=aaR h bg l di bC;exact⟨⟨ds,a,n,c,k⟩,rfl,rfl,⟨a7,kx,aF⟩,⟨hE,rfl⟩⟩
def aaS(h:c2 Y D m I M)(bg:mE I M J):∀ (l:List ap) {vs:List Value} {cs:List hK},Lm Y.G m.t l=some cs->bD D l vs->∃ ds:List aK,vs=ds.flatMap aK.cells/\oA cs ds/\∀ d∈ds,d.ok J
 |[],vs,cs,ag,ai=>by cases ag;simp only[bD]at ai;exact⟨[],ai,.nil,by simp⟩
 |a::x::r::l,vs,cs,ag,ai=>by
  unfold Lm at ag;obtain⟨ch,U,ag⟩:=ct ag;obtain⟨bh,ab,ag⟩:=ct ag;obtain⟨ph,ak,ag⟩:=ct ag;cases ag;simp only[bD]at ai;obtain⟨_,_,da,⟨_,_,bZ,⟨_,_,fG,hF,rfl⟩,rfl⟩,rfl⟩:=ai;obtain⟨rfl,aF⟩:=aaP U da;obtain⟨t,rfl,rfl,a7,bC⟩:=amE h bg ab bZ fG;obtain⟨ds,rfl,di,hE⟩:=aaS h bg l ak hF;refine⟨⟨⟨ch.toArray⟩,t⟩::ds,rfl,.cons (c:=⟨ch,bh⟩) bC di,λy aA=>?_⟩;rcases ea.1 aA with rfl | aA;·exact⟨aF,a7⟩
  ·exact hE y aA
def amF(h:c2 Y D m I M)(bg:mE I M J){x:ap}{cs:List hK}(ag:Rm Y.G m.t x=some cs)(ae:aS D x u):∃ g:bP,u=g.val/\g.ok J/\oA cs g.ds:=by
 unfold Rm at ag;split at ag
 ·simp only[aS,bD]at ae;obtain⟨_,⟨y,_,ae,rfl,rfl⟩,rfl⟩:=ae;obtain⟨a,n,c,l,vs,rfl,a7,bC,di⟩:=Rn h bg ae ag;obtain⟨ds,rfl,hE,kx⟩:=aaS h bg l di bC;exact⟨⟨ds,a,n,c⟩,rfl,⟨a7,kx⟩,hE⟩
 ·cases ag
end
noncomputable def pi(f g:Nat)(text:List UInt8):Option (List hK×Int×IntKind×Int):=bN (xV uQ (kY uQ f) g [.s text] ⟨.nil,0⟩) none λp=>match p.1 with
 | .t [x,.i .i64 a,.i k e]=>bN (Rm KW p.2.t x) none λc=>some (c,a,k,e)
 |_=>none
def amG(bA:fr I cG){g:Nat}{text:List UInt8}{c:List hK}{a:Int}{k:IntKind}{e:Int}(h:pi f g text=some (c,a,k,e)) :
  Spec Tryz.prog g [.string ⟨text.toArray⟩] I [] λr J mj=>mj=[]/\(∀ b o,I b=some o->J b=some o)/\∃ G:bP,r=.tuple #[G.val,.int .i64 a,.int k e]/\G.ok J/\oA c G.ds:=by
 unfold pi at h;obtain⟨⟨v,m'⟩,U,h⟩:=ct h;refine Spec.iM (aky bA U (us:=[.string ⟨text.toArray⟩]) (by simp[bD,aS])) ?_;rintro r J mj⟨rfl,hle,I',M',bp,ai,hm,bg⟩;refine⟨rfl,hle,?_⟩;simp only at h;split at h
 ·obtain⟨c',ab,h⟩:=ct h;cases h;simp only[aS,bD]at ai;obtain⟨_,⟨u,_,hu,⟨_,_,rfl,⟨_,_,rfl,rfl,rfl⟩,rfl⟩,rfl⟩,rfl⟩:=ai;obtain⟨G,rfl,a6,bb⟩:=amF hm bg ab hu;exact⟨G,rfl,a6,bb⟩
 ·cases h
def re.pl(c:re):aH:=c.bE none 0 0
def wL.Rp(c:wL):bx:=⟨c.aa.map re.pl,none,c.aa.length,0,c.root⟩
def hK.B1(c:hK):aK:=⟨⟨c.name.toArray⟩,c.t.Rp⟩
def gp(cs:List hK):bP:=⟨cs.map hK.B1,none,cs.length,0⟩
def ya.a1{cs:List re}{aa:List aH}(h:ya cs aa):aa.map aH.a1=cs.map re.pl:=by
 induction h with
 |nil=>rfl| cons a n k t a8=>rw[cZ,cZ,a8];rfl
def ya.len{cs:List re}{aa:List aH}(h:ya cs aa):aa.length=cs.length:=by
 induction h with
 |nil=>rfl| cons a n k t a8=>simp[a8]
def HD.a1{c:wL}(h:HD c t)(aq:t.ok I):t.a1=c.Rp:=by unfold bx.a1 wL.Rp;rw[h.aa.a1,h.root,<-aq.n,h.aa.len]
def oA.a1{cs:List hK}{ds:List aK}(h:oA cs ds)(al:∀ d∈ds,d.ok I):ds.map aK.a1=cs.map hK.B1:=by
 induction h with
 |nil=>rfl| cons h k a8=>rw[cZ,cZ,a8 λd ie=>al d (.tail _ ie)];congr 1;unfold aK.a1 hK.B1;rw[h.a1 (al _ (.head _)).t]
def oA.len{cs:List hK}{ds:List aK}(h:oA cs ds):ds.length=cs.length:=by
 induction h with
 |nil=>rfl| cons h k a8=>simp[a8]
def zS{cs:List hK}(h:oA cs g.ds)(ao:g.ok I):g.a1=gp cs:=by unfold bP.a1 gp;rw[h.a1 ao.ds,<-ao.n,h.len]
def amH(c:wL):Bool:=c.aa.all λn=>decide (n.kids.length<=1000)
def amI{c:wL}(h:HD c t)(aq:t.ok I)(af:amH c=true):nc t:=λn az=>by
 have U:=(aq.aa n az).aZ;have ab:n.a1∈c.aa.map re.pl:=by rw[<-h.aa.a1];exact dB.2 ⟨n,az,rfl⟩
 obtain⟨x,ae,e⟩:=dB.1 ab;have ak:=cq (et.1 af x ae);have aL:x.kids=n.kids:=congrArg aH.kids e;rw[aL]at ak;omega
def amJ{cs:List hK}{ds:List aK}(h:oA cs ds)(al:∀ d∈ds,d.ok I)(af:(cs.all λd=>d.t.aa.all λn=>decide (n.kids.length<=1000))=true):∀ d∈ds,nc d.t:=by
 induction h with
 |nil=>intro d al;cases al
 |cons h k a8=>
  simp only[su,b']at af;intro d hm;rcases ea.1 hm with rfl | hm;·exact amI h (al _ (.head _)).t af.1
  ·exact a8 (λd ie=>al d (.tail _ ie)) (by simpa using af.2) d hm
def amK(ds:List aK)(F:List aM)(i:Nat):lu (ds.map aK.a1) F i=lu ds F i:=by
 unfold lu;rw[sr,Dt];cases ds[i]? with
 |none=>rfl| some d=>show(dU (a' ds) F (d.t.aa.map aH.a1) d.t.root).2=_;rw[WJ]
def amL(ds:List aK)(F:List aM)(i:Nat):ti (ds.map aK.a1) F i=ti ds F i:=by
 unfold ti;rw[sr,Dt];cases ds[i]? with
 |none=>rfl| some d=>show(hJ (a' ds) F (d.t.aa.map aH.a1) d.t.root).2=_;rw[aao]
def amM(ds:List aK)(F:List aM):gZ (ds.map aK.a1) F=gZ ds F:=by funext i;unfold gZ;rw[cT,amK]
def Rq(ds:List aK)(F:List aM):nO (ds.map aK.a1) F=nO ds F:=by unfold nO;rw[cT];exact wT λi _=>amL ds F i
def Rr(ds:List aK)(F:List aM):B0 (ds.map aK.a1) F=B0 ds F:=by unfold B0;rw[cT,amM]
def aaT{ds:List aK}{l:List aM}(h:h7 (ds.map aK.a1) l):h7 ds l:=by
 refine⟨by rw[h.len,cT],λi hi=>?_,λm hm aC=>?_⟩
 ·have:=h.fix i (by simpa using hi);rwa [Dt,oP,JQ]at this
 ·refine h.least m (by rw[hm,cT]) λi hi=>?_;rw[Dt,oP,JQ];exact aC i (by simpa using hi)
def B2(ds:List aK)(F:List aM):Int×Int:=bif decide (0<(B0 ds F).length)then((((B0 ds F).headD 0:Nat):Int),42)else bif decide (0<(nO ds F).length)then((((nO ds F).headD 0:Nat):Int),43)else(0,0)
structure El(cs:List hK)(F:List aM):Prop where
 may:cn cG (gp cs)=0
 amN:h7 (gp cs).ds F
 Dh:(cs.all λd=>d.t.aa.all λn=>decide (n.kids.length<=1000))=true
def El.of{cs:List hK}(cb:El cs F)(ao:g.ok I)(a5:oA cs g.ds):cn cG g=0/\h7 g.ds F/\(∀ d∈g.ds,nc d.t):=by
 have dJ:=zS a5 ao;have e0:g.ds.map aK.a1=(gp cs).ds:=congrArg bP.ds dJ;have hm:cn cG g=0:=by rw[<-Ds,dJ];exact cb.may
 refine⟨hm,?_,amJ a5 ao.ds cb.Dh⟩;have:=cb.amN;rw[<-e0]at this;exact aaT this
def Rs{cs:List hK}(cb:El cs F)(ao:g.ok I)(a5:oA cs g.ds){r:Int×Int}(h:oz cG g r):r=B2 (gp cs).ds F:=by
 obtain⟨hm,bs,-⟩:=cb.of ao a5;have e0:g.ds.map aK.a1=(gp cs).ds:=congrArg bP.ds (zS a5 ao);have aV:=v0 ao.n hm;rcases h with⟨a,-⟩ | ⟨-,dN,If,rfl⟩
 ·exact absurd hm a
 ·obtain rfl:=bs.unique If;rw[<-e0,B2,Rr,Rq,Q5 aV];by_cases U:0<(ke g.ds F).length
  ·rw[cw U,eD U,bt]
  ·rw[cB U,dk U,bz];by_cases ab:0<(nO g.ds F).length
   ·rw[cw ab,eD ab,bt]
   ·rw[cB ab,dk ab,bz]
def HF(ds:List aK):Nat->List aM->List aM
 |0,L=>L| k+1,L=>HF ds k (ds.map (gl (a' ds) L))
def aaU{ds:List aK}:∀ (k:Nat) {L:List aM},nE ds L->ds.map (gl (a' ds) (HF ds k L))=HF ds k L->h7 ds (HF ds k L)
 |0,L,aN,h=>by refine⟨aN.len,λi hi=>?_,aN.least⟩;have:=Hw (f:=gl (a' ds) L) hi;have U:ds.map (gl (a' ds) L)=L:=h;rw[U]at this;exact this
 |k+1,L,aN,h=>aaU k aN.all.1 h
def wM(cs:List hK)(k:Nat):List aM:=HF (gp cs).ds k (List.replicate (gp cs).ds.length bw)
def zT(cs:List hK)(F:List aM)(k:Nat):Bool:=decide (cn cG (gp cs)=0)&&(decide (wM cs k=F)&&(decide ((gp cs).ds.map (gl (a' (gp cs).ds) F)=F)&&cs.all λd=>d.t.aa.all λn=>decide (n.kids.length<=1000)))
def Rt{cs:List hK}{k:Nat}(h:zT cs F k=true):El cs F:=by simp only[zT,b',fk]at h;obtain⟨U,ab,ak,aL⟩:=h;refine⟨U,?_,by simpa using aL⟩;have:=aaU k (nE.start (gp cs).ds);unfold wM at ab;rw[ab]at this;exact this ak
def aaV{p:Nat->Bool}{k:Nat}:∀ {l:List Nat},l.Pairwise (· < ·)->k∈l->p k=true->(∀ j∈l,j<k->p j=false)->l.filter p=k::l.filter λj=>p j && !decide (j=k)
 |x::xs,ar,af,aN,ah=>by
  obtain⟨U,ab⟩:=List.pairwise_cons.1 ar;rcases ea.1 af with rfl | af
  ·have e:(k::xs).filter (λj=>p j && !decide (j=k))=xs.filter p:=by
    rw[u7];simp;apply wT;intro j aj;have:=U j aj;have:¬ j=k:=by omega
    simp[this]
   rw[e,u7,aN];rfl
  ·have ae:=U k af;have sP:=ah x (by simp) ae;rw[u7,sP,u7,sP];simp only[nr,jX,kB];exact aaV ab af aN λj aj B3=>ah j (by simp[aj]) B3
def amO(av:n≠0)(h:n<2^64):∃ k,k<64/\n &&& (2^64-n)=2^k/\n.testBit k=true/\(∀ j,j<k->n.testBit j=false)/\∀ j,(n &&& (n-1)).testBit j=(n.testBit j && !decide (j=k)):=by
 obtain⟨m,hm,af⟩:=Lib.ctzFrom_spec 64 n (by omega) h;generalize Lib.ctzFrom 64 n=k at hm af;have aF:n=2^(k+1)*m+2^k:=by rw[hm,Nat.pow_succ,II,fh,Nat.mul_assoc]
 have aN:=Nat.two_pow_pos k;have a7:n-1=2^(k+1)*m+(2^k-1):=by omega
 have jG:2^k<2^(k+1):=by rw[Nat.pow_succ];omega
 have t1:∀ j,n.testBit j=if j<k+1 then decide (k=j)else m.testBit (j-(k+1)):=λj=>by rw[aF,aan _ jG,ED]
 have t2:∀ j,(n-1).testBit j=if j<k+1 then decide (j<k)else m.testBit (j-(k+1)):=λj=>by rw[a7,aan _ (by omega),Px]
 refine⟨k,af,?_,?_,λj aj=>?_,λj=>?_⟩
 ·have:=Lib.and_neg 64 k m (by rw[<-hm];exact h);rwa [<-hm]at this
 ·rw[t1];simp
 ·rw[t1,cw (by omega)];simp;omega
 ·rw[LW,t1,t2];by_cases aj:j<k+1
  ·rw[cw aj,cw aj];by_cases B3:j=k
   ·subst B3;simp
   ·have:¬ k=j:=λe=>B3 e.symm;simp[this]
  ·rw[cB aj,cB aj];have:¬ j=k:=by omega
   simp[this]
def amP:∀ k:Fin 64,cG.getD (2^k.val*285870213051353865%18446744073709551616/288230376151711744) 0=(k.val:Int):=by decide +kernel
def amQ{k:Nat}(av:n≠0)(h:n<2^64)(af:k<64)(ay:n &&& (2^64-n)=2^k):rL cG (n:Int)=k:=by
 have c9:decide ((n:Int)=0)=false:=dk (by omega);have hw:IntKind.u64.wrap (0-(n:Int))=((2^64-n:Nat):Int):=by simp[IntKind.wrap,IntKind.signed,IntKind.bits];omega
 have aX:CN (n:Int) ((2^64-n:Nat):Int)=((2^k:Nat):Int):=by rw[MT ⟨by omega,by omega⟩ ⟨by omega,by omega⟩,lz,lz,ay]
 have aq:(qL (n:Int)).toNat=2^k*285870213051353865%18446744073709551616:=by
  unfold qL;rw[hw,aX];have:((2^k:Nat):Int)*285870213051353865=((2^k*285870213051353865:Nat):Int):=by simp
  rw[this];generalize 2^k*285870213051353865=q;simp[IntKind.wrap,IntKind.signed,IntKind.bits];omega
 unfold rL;rw[c9,bz,aq];exact amP ⟨k,af⟩
def amR(av:n≠0)(h:n<2^64):vB (n:Int)=((n &&& (n-1):Nat):Int):=by have ar:e5 ((n:Int)-1):=⟨by omega,by omega⟩;unfold vB;rw[vA ar,MT ⟨by omega,by omega⟩ ar];congr 2;omega
def HG(i:Nat)(hi:i<4):∀ (f n:Nat),n<2^64->((List.range 64).filter n.testBit).length<=f->rM cG i f (n:Int)=((List.range 64).filter n.testBit).map λj=>UInt8.ofNat (i*64+j)
 |0,n,h,au=>by rw[hZ (Nat.le_zero.1 au)];rfl
 |f+1,n,h,au=>by
  unfold rM;by_cases av:n=0;·subst av;simp
  ·have c9:decide ((n:Int)=0)=false:=dk (by omega);obtain⟨k,af,ay,ah,ax,Hr⟩:=amO av h;have amS:(List.range 64).filter n.testBit=k::(List.range 64).filter (n &&& (n-1)).testBit:=by rw[aaV List.pairwise_lt_range (kf.2 af) ah λj _ aj=>ax j aj];congr 1;apply wT;intro j _;rw[Hr]
   rw[amS]at au |-;have hle:n &&& (n-1)<=n-1:=Nat.and_le_right;rw[c9,bz,amR av h,HG i hi f _ (by omega) (by simp at au;omega),cZ];congr 1;unfold byteOf;rw[amQ av h af ay];have:IntKind.u8.wrap ((i:Int)*64+(k:Int))=((i*64+k:Nat):Int):=by simp[IntKind.wrap,IntKind.signed,IntKind.bits];omega
   rw[this,lz]
def amT{a b c d:Int}(g5:∀ x∈[a,b,c,d],e5 x):hg cG 0 [a,b,c,d]=((List.range 256).filter (lY [a,b,c,d])).map UInt8.ofNat:=by
 have nat:∀ x∈[a,b,c,d],∃ n:Nat,x=n/\n<2^64:=λx ae=>by have:=g5 x ae;obtain⟨n,rfl⟩:=en this.1;exact⟨n,rfl,by have:=this.2;omega⟩
 obtain⟨a,rfl,aX⟩:=nat a (by simp);obtain⟨b,rfl,ah⟩:=nat b (by simp);obtain⟨c,rfl,aC⟩:=nat c (by simp);obtain⟨d,rfl,al⟩:=nat d (by simp);have len:∀ n:Nat,((List.range 64).filter n.testBit).length<=64:=λn=>by have:=to n.testBit (List.range 64);simpa using this
 unfold hg hg hg hg hg;rw[HG 0 (by decide) 64 a aX (len _),HG (0+1) (by decide) 64 b ah (len _),HG (0+1+1) (by decide) 64 c aC (len _),HG (0+1+1+1) (by decide) 64 d al (len _)];have ag:List.range 256=(List.range 64).map (0*64+·)++((List.range 64).map (1*64+·)++((List.range 64).map (2*64+·)++(List.range 64).map (3*64+·))):=by decide +kernel
 have part:∀ (i:Nat) (n:Nat),i<4->([(a:Int),b,c,d].getD i 0)=n->(((List.range 64).map (i*64+·)).filter (lY [(a:Int),b,c,d]))=((List.range 64).filter n.testBit).map (i*64+·):=λi n hi az=>by rw[List.filter_map];congr 1;apply wT;intro j aj;have aj:=kf.1 aj;simp only[Function.comp,lY];rw[show(i*64+j)/64=i by omega,show(i*64+j)%64=j by omega,az,lz]
 rw[ag];simp only[uw,eL];rw[part 0 a (by decide) rfl,part 1 b (by decide) rfl,part 2 c (by decide) rfl,part 3 d (by decide) rfl];simp only[sS,db];rfl
def rf(p:Nat->Bool)(n:Nat):List UInt8:=((List.range n).filter p).map UInt8.ofNat
def Ln(p:Nat->Bool)(n:Nat):rf p (n+1)=rf p n++(bif p n then [UInt8.ofNat n]else []):=by
 unfold rf;rw[zf,uw,eL];cases h:p n<;>simp[h]
def amU(l:List (UInt8×UInt8))(b:UInt8):((oW l b).getLast?).map (·.2)=some b:=by
 unfold oW;split
 ·rename_i p h;cases decide ((p.2.toNat:Int)+1=b.toNat)<;>simp
 ·rfl
def amV(l:List UInt8):((j9 l).getLast?).map (·.2)=l.getLast?:=by
 rcases xb l with h | ⟨m,b,h⟩
 ·subst h;rfl
 ·rw[h,List.concat_eq_append,IY,amU];simp
def aaW(p:Nat->Bool):∀ (n:Nat),n<=256->∀ x,(rf p n).getLast?=some x->∃ j,j<n/\p j=true/\x.toNat=j
 |0,_,x,h=>by simp[rf]at h
 |n+1,az,x,h=>by
  rw[Ln]at h;cases aN:p n with
  |true=>rw[aN,bt]at h;simp at h;exact⟨n,by omega,aN,by rw[<-h];exact wj (by omega)⟩| false=>rw[aN,bz,db]at h;obtain⟨j,U,ab,ak⟩:=aaW p n (by omega) x h;exact⟨j,by omega,ab,ak⟩
def aaX(p:Nat->Bool)(az:n<256)(aN:n=0\/p (n-1)=false):oW (j9 (rf p n)) (UInt8.ofNat n)=j9 (rf p n)++[(UInt8.ofNat n,UInt8.ofNat n)]:=by
 unfold oW;split
 ·rename_i q h;have ay:=amV (rf p n);rw[h]at ay;obtain⟨j,U,ab,ak⟩:=aaW p n (by omega) q.2 ay.symm;have bB:decide ((q.2.toNat:Int)+1=(UInt8.ofNat n).toNat)=false:=by
   rw[wj az,ak];apply dk;intro e;have:j=n-1:=by omega
   rcases aN with aN | aN;·omega
   ·rw[this,aN]at ab;cases ab
  rw[bB];rfl
 ·rename_i h;have:j9 (rf p n)=[]:=List.getLast?_eq_none_iff.1 h;rw[this];rfl
def amW(p:Nat->Bool)(ar:n=0\/p (n-1)=false):∀ t,n<=t->t<256->(∀ j,n<=j->j<=t->p j=true)->j9 (rf p (t+1))=j9 (rf p n)++[(UInt8.ofNat n,UInt8.ofNat t)]:=by
 intro t
 induction t with
 |zero=>
  intro U ab ak;have:n=0:=by omega
  subst this;rw[Ln,ak 0 (b2 _) (b2 _),bt,IY];exact aaX p ab ar
 |succ t a8=>
  intro U ab ak;rw[Ln,ak (t+1) U (b2 _),bt,IY];by_cases az:n=t+1;·subst az;exact aaX p ab ar
  ·rw[a8 (by omega) (by omega) (λj a b=>ak j a (by omega))];unfold oW;rw[I0];simp only;have:decide (((UInt8.ofNat t).toNat:Int)+1=(UInt8.ofNat (t+1)).toNat)=true:=by rw[wj (by omega),wj (by omega)];simp
   rw[this,bt,I1]
def Lo(p:Nat->Bool):∀ (f t:Nat),t<=ht p f t/\ht p f t<=t+f/\(∀ j,t<j->j<=ht p f t->p j=true)/\(ht p f t<t+f->p (ht p f t+1)=false)
 |0,t=>⟨b2 _,b2 _,λj a b=>by simp[ht]at b;omega,λh=>by simp[ht]at h⟩
 |f+1,t=>by
  unfold ht;cases h:p (t+1)with
  |false=>exact⟨b2 _,by simp,λj a b=>by simp at b;omega,λ_=>h⟩
  |true=>
   obtain⟨U,ab,ak,aL⟩:=Lo p f (t+1);refine⟨by simp;omega,by simp;omega,λj a b=>?_,λq=>?_⟩
   ·simp at b;by_cases e:j=t+1
    ·rw[e];exact h
    ·exact ak j (by omega) b
   ·simp at q |-;exact aL (by omega)
def wN(p:Nat->Bool)(n:Nat):Nat:=bif decide (0<n)&&p (n-1)then ht p (256-n) (n-1)+1 else n
def aaY(p:Nat->Bool):∀ n,n<=256->ot p n=j9 (rf p (wN p n))
 |0,_=>rfl
 |n+1,az=>by
  have a8:=aaY p n (by omega);have sb:wN p (n+1)=bif p n then ht p (255-n) n+1 else n+1:=by unfold wN;simp only[Nat.add_sub_cancel,show 256-(n+1)=255-n by omega];have:decide (0<n+1)=true:=eD (by omega);rw[this,kj]
  rw[XI,sb,a8];cases aN:p n with
  |false=>
   have ar:nH p n=false:=by rw[nH,aN];rfl
   have BJ:wN p n=n:=by
    unfold wN;cases ah:decide (0<n)&&p (n-1)with
    |false=>rfl
    |true=>
     simp at ah;have e:ht p (256-n) (n-1)=n-1:=by rw[show 256-n=(255-n)+1 by omega,ht,show n-1+1=n by omega,aN];rfl
     rw[bt,e];omega
   rw[ar,bz,db,BJ,bz,Ln,aN];simp
  |true=>
   rw[bt];cases ah:decide (0<n)&&p (n-1)with
   |true=>
    have hn:=ah;simp at hn;have ar:nH p n=false:=by have:decide (n=0)=false:=dk (by omega);rw[nH,aN,hn.2,this];rfl
    have BJ:wN p n=ht p (255-n) n+1:=by unfold wN;rw[ah,bt,show 256-n=(255-n)+1 by omega,ht,show n-1+1=n by omega,aN,bt]
    rw[ar,bz,db,BJ]
   |false=>
    have dc:n=0\/p (n-1)=false:=by
     simp at ah;by_cases h:n=0;·exact .inl h
     ·exact .inr (ah (by omega))
    have ar:nH p n=true:=by
     rw[nH,aN];rcases dc with h | h;·simp[h]
     ·simp[h]
    have BJ:wN p n=n:=by unfold wN;rw[ah];rfl
    obtain⟨U,ab,ak,_⟩:=Lo p (255-n) n;rw[ar,bt,BJ,amW p dc _ U (by omega) λj a b=>by
     by_cases e:j=n;·rw[e];exact aN
     ·exact ak j (by omega) b]
def aaZ(p:Nat->Bool):ot p 256=j9 (rf p 256):=by rw[aaY p 256 (b2 _)];congr 2;unfold wN;simp[ht]
def amX{x y:UInt8}(h:x.toNat<=y.toNat):lr (x,y)=rN (x,y):=by
 have ae:=x.toNat_lt;have aA:=y.toNat_lt;have aF:IntKind.u8.wrap ((y.toNat:Int)-x.toNat)=(y.toNat:Int)-x.toNat:=by simp[IntKind.wrap,IntKind.signed,IntKind.bits];omega
 unfold lr rN;simp only;rw[aF];have d1:decide ((x.toNat:Int)+1<y.toNat)=decide (1<(y.toNat:Int)-x.toNat):=decide_eq_decide.2 (by omega);have d2:decide ((x.toNat:Int)<y.toNat)=!decide ((y.toNat:Int)=x.toNat):=by rw[<-decide_not];exact decide_eq_decide.2 (by omega)
 rw[d1,d2]
def amY(p:Nat->Bool)(n:Nat)(az:n<=256):∀ q∈ot p n,q.1.toNat<=q.2.toNat:=by intro q a0;obtain⟨i,hi,rfl⟩:=dB.1 a0;have hi:=kf.1 (qn.1 hi).1;obtain⟨U,ab,_⟩:=Lo p (255-i) i;simp only;rw[wj (by omega),wj (by omega)];exact U
def amZ{a b c d:Int}(g5:∀ x∈[a,b,c,d],e5 x):zJ (ot (lY [a,b,c,d]) 256)=(a == g4 0&&(b == g4 0&&(c == g4 0&&d == g4 0))):=by
 have kK:g4 0=18446744073709551615:=by decide
 rw[l7];simp only[b',beq_iff_eq,kK];constructor
 ·intro h;have eg:∀ n,n<256->lY [a,b,c,d] n=true:=by
   generalize aN:lY [a,b,c,d]=p at h
   match ag:ot p 256,h with
   |[q],h=>
    simp[zJ]at h;have a0:q∈ot p 256:=by rw[ag];simp
    obtain⟨i,hi,D2⟩:=dB.1 a0;have dc:=(qn.1 hi).2;have hi:=kf.1 (qn.1 hi).1;obtain⟨U,ab,ak,_⟩:=Lo p (255-i) i;have vX:q.1.toNat=i:=by rw[<-D2];exact wj (by omega)
    have vY:q.2.toNat=ht p (255-i) i:=by rw[<-D2];exact wj (by omega)
    have y0:i=0:=by have:=h.1;omega
    have he:ht p (255-i) i=255:=by have:=h.2;omega
    intro n az;by_cases e:n=0;·subst y0;rw[e];unfold nH at dc;simp at dc;exact dc
    ·exact ak n (by omega) (by omega)
  have word:∀ (i:Nat) (x:Int),i<4->[a,b,c,d].getD i 0=x->e5 x->x=18446744073709551615:=λi x hi ae hu=>by
   obtain⟨n,rfl⟩:=en hu.1;have az:n<2^64:=by have:=hu.2;omega
   have:n=2^64-1:=by
    apply Nat.eq_of_testBit_eq;intro j;rw[Px];by_cases aj:j<64;·have:=eg (i*64+j) (by omega);unfold lY at this;rw[show(i*64+j)/64=i by omega,show(i*64+j)%64=j by omega,ae,lz]at this;rw[this];simp[aj]
    ·rw[Mo (EE az (Mq (by omega) (by omega)))];simp[aj]
   omega
  exact⟨word 0 a (by decide) rfl (g5 a (by simp)),word 1 b (by decide) rfl (g5 b (by simp)),word 2 c (by decide) rfl (g5 c (by simp)),word 3 d (by decide) rfl (g5 d (by simp))⟩
 ·rintro⟨rfl,rfl,rfl,rfl⟩;have:zJ (ot (lY [18446744073709551615,18446744073709551615,18446744073709551615,18446744073709551615]) 256)=true:=by kernel_rfl
  exact this
def HH:mF cG:=λa b c d g5=>by
 unfold D9 sR;rw[amZ g5];congr 1;congr 1;congr 1;rw[amT g5,aaZ];have h:=amY (lY [a,b,c,d]) 256 (b2 _);rw[aaZ]at h;unfold rf at h |-;generalize j9 _=aJ at *;clear g5
 induction aJ with
 |nil=>rfl| cons q aJ a8=>rw[mh,mh,a8 λq a0=>h q (by simp[a0])];congr 1;exact amX (x:=q.1) (y:=q.2) (h q (by simp))
structure aa0 where
 l:List du
 a:Option Addr
 n:Nat
 c:Nat
def aa0.val(x:aa0):Value:=.slice x.a x.n x.c
section
variable{H:Type}{enc:TypeId×Value->H}{W:World}{base:Nat}{ek:Nat->Bool}{held:Bool}
end
noncomputable def arS(f g:Nat)(args:List ap):Option ap:=bN (xV uQ (kY uQ f) g args ⟨.nil,0⟩) none λp=>some p.1
def aa1(g:bP)(l:List du):Prop:=(cn cG g=0/\∃ F,h7 g.ds F/\ahx g.ds F l)\/(cn cG g≠0/\l=[])
def aa1.len{l:List du}(h:aa1 g l):l.length<=g.ds.length:=by
 rcases h with⟨a,F,bs,h⟩ | ⟨a,h⟩
 ·rw[h.len];exact b2 _
 ·rw[h];exact bQ _
def aa2(g:bP)(l:List du)(t:bx)(r:List du):Prop:=(aac cG g l t=true/\∃ F,h7 g.ds F/\r=Gw (a' g.ds) l (dq (a' g.ds) F t.aa []) t.aa [])\/(aac cG g l t=false/\r=[])
def aa2.len{l:List du}{r:List du}(h:aa2 g l t r):r.length<=t.aa.length:=by
 rcases h with⟨a,F,bs,rfl⟩ | ⟨a,rfl⟩
 ·rw[WD];simp
 ·exact bQ _
section
variable{I:aT}{M0:List aD}
end
def BY.fit(h:BY g)(ao:g.ok I):ls g:=by refine⟨by have:=h.n;omega,λd al=>?_⟩;have ar:=(h.ds d al).t;have az:=ar.n;refine⟨λbE bW=>by have:=(ar.aa bE bW).aZ;omega,by omega,by omega⟩
def aax.len{r:Int}(h:aax deb g r l):l.length<=g.ds.length:=by
 rcases h with⟨-,rfl⟩ | ⟨-,F,k,-,-,-,rfl⟩
 ·exact bQ _
 ·exact BW _ _
def aay.len(h:aay deb g l):l.length<=g.ds.length:=by
 rcases h with⟨-,rfl⟩ | ⟨-,F,-,rfl⟩
 ·exact bQ _
 ·exact BW _ _
def Lh.len(h:Lh deb g l):l.length<=g.ds.length:=by
 rcases h with⟨-,rfl⟩ | ⟨-,F,-,rfl⟩
 ·exact bQ _
 ·exact BW _ _
def zU(aa:List aH)(nm:ByteArray):Bool:=aa.any λn=>decide (n.k=3)&&decide (n.t=nm)
def am0(d:aH)(ds:List aH)(nm:ByteArray):zU (d::ds) nm=((decide (d.k=3)&&decide (d.t=nm))||zU ds nm):=rfl
def sf(g:bP)(i k:Nat):Bool:=match g.ds[i]?,g.ds[k]? with
 |some d,some e=>zU d.t.aa e.name| _,_=>false
def aa3{i k:Nat}(hi:i<g.ds.length)(af:k<g.ds.length):sf g i k=zU g.ds[i].t.aa g.ds[k].name:=by unfold sf;rw[ev hi,ev af]
def aa4(ao:g.ok I){i k:Nat}(hi:i<g.n)(af:k<g.n):Spec Tryz.prog 57 [g.val,.int .i64 i,.int .i64 k] I [] (λv I' M'=>v=.bool (sf g i k)/\I'=I/\M'=[]):=by
 refine bn [] aI Tryz.func57 rfl rfl rfl ?_;intro B av;have cK:=ao.n;have ck:i<g.ds.length:=by omega
 have kV:k<g.ds.length:=by omega
 rw[aa3 ck kV];obtain⟨tg,kb,q'⟩:=ao.aJ.row aK.bI hi ck;obtain⟨eU,eO,eB⟩:=ao.aJ.row aK.bI af kV;have aq:=(ao.ds _ (bJ ck)).t;generalize g.ds[i]=d at q' aq;generalize g.ds[k]=e at eB;have g7:=aq.n;have gk:=aq.aJ.cap;refine aW.mk tg i kb rfl hi ?_;refine aE.mk _ (bq.part (k:=0) (m:=1) (bq.part (k:=1) (m:=2) (q' _) (by decide)) (by decide)) ?_;refine bu.inv (ι:=Nat) (λn=>{ a4:=[(1,.val (.int .i64 i)),(2,.val (.int .i64 k)),(3,.ref 3 0),(7,.val (.slice d.t.a d.t.n d.t.c)),(8,.val (.int .i64 n))],cl:=[(3,[.slice g.a g.n g.c])],br:=I }) (λn=>n<=d.t.n/\zU d.t.aa e.name=zU (d.t.aa.drop n) e.name) (λn=>d.t.n-n) ?_ ?_
 ·exact⟨0,⟨bQ _,rfl⟩,.refl,ec,.cons rfl .nil⟩
 rintro w⟨hw,mH⟩;refine aB.mk (λak=>?_) (λak=>?_)
 ·have lR:w<d.t.n:=by simpa using ak
  have zN:w<d.t.aa.length:=by omega
  obtain⟨iD,lb,ld⟩:=aq.aJ.row aH.bI lR zN;have Hq:d.t.aa.drop w=d.t.aa[w]::d.t.aa.drop (w+1):=dv zN;rw[Hq,am0]at mH;refine cr.draw aI rfl rfl rfl ?_;refine aW.mk iD w lb rfl lR ?_;refine aE.mk _ (bq.part (k:=0) (m:=1) (ld _) (by decide)) ?_;refine a9.mk (λc6=>?_) (λc6=>?_)
  ·have bC:decide (d.t.aa[w].k=3)=true:=c6;refine aW.mk iD w lb rfl lR ?_;refine aE.mk _ (bq.part (k:=5) (m:=1) (ld _) (by decide)) ?_;refine aW.mk eU k eO rfl af ?_;refine aE.mk _ (bq.part (k:=0) (m:=1) (eB _) (by decide)) ?_;refine aB.mk (λdg=>?_) (λdg=>?_)
   ·have di:decide (d.t.aa[w].t=e.name)=true:=dg;exact⟨_,_,.refl,by rw[mH,bC,di];rfl,rfl,rfl⟩
   ·have di:decide (d.t.aa[w].t=e.name)=false:=dg;refine aQ.mk _ (bl (i:=w) (by omega)) ?_;refine⟨w+1,⟨⟨by omega,?_⟩,by omega⟩,.refl,ec,.cons rfl .nil⟩;rw[mH,bC,di];rfl
  ·have bC:decide (d.t.aa[w].k=3)=false:=c6;refine aQ.mk _ (bl (i:=w) (by omega)) ?_;refine⟨w+1,⟨⟨by omega,?_⟩,by omega⟩,.refl,ec,.cons rfl .nil⟩;rw[mH,bC];rfl
 ·have ZS:w=d.t.n:=by simp at ak;omega
  rw[iK (by omega)]at mH;exact⟨_,_,.refl,by rw[mH];rfl,rfl,rfl⟩
def nh(deb:List Int)(g:bP)(i:Int):Bool:=lh i g.n&&decide (cn deb g=0)
def aa5(cv:mF deb)(ao:g.ok I)(au:ls g)(i:Int):Spec Tryz.prog 36 [g.val,.int .i64 i] I [] (λv I' M'=>v=.bool (nh deb g i)/\I'=I/\M'=[]):=by
 have hm:=Qw cv ao au;rw[K3]at hm;refine bn [] aI Tryz.func36 rfl rfl rfl ?_;intro B av;refine aU.mk [] [] _ (.refl _) hm ?_;rintro v J N -⟨rfl,bg,rfl⟩;subst J;refine a9.mk (λU=>?_) (λU=>?_)
 ·refine a9.mk (λab=>?_) (λab=>?_)
  ·refine⟨_,_,.refl,congrArg Value.bool ?_,rfl,rfl⟩;have aF:decide (i<0)=false:=by simp at ab |-;omega
   have a7:decide (cn deb g=0)=true:=U;have bC:decide (i<(g.n:Int))=!decide ((g.n:Int)<=i):=by rw[<-decide_not];exact decide_eq_decide.2 (by omega)
   rw[nh,lh,aF,a7];simpa using bC
  ·refine⟨_,_,.refl,congrArg Value.bool ?_,rfl,rfl⟩;have aF:decide (i<0)=true:=by simp at ab |-;omega
   rw[nh,lh,aF];rfl
 ·refine⟨_,_,.refl,congrArg Value.bool ?_,rfl,rfl⟩;have a7:decide (cn deb g=0)=false:=U;rw[nh,a7,yT]
def lv(p:Nat->Bool)(n:Nat):List Int:=((List.range n).filter p).map λ(k:Nat)=>(k:Int)
def Lp(p:Nat->Bool)(n:Nat):lv p (n+1)=lv p n++(bif p n then [(n:Int)]else []):=by
 unfold lv;rw[zf,uw,eL];cases h:p n<;>simp[h]
def Ru(p:Nat->Bool)(n:Nat):(lv p n).length<=n:=by have:=to p (List.range n);simpa[lv]using this
def B4(deb:List Int)(g:bP)(i:Int):List Int:=bif nh deb g i then lv (sf g i.toNat) g.n else []
def Rv{i:Int}(h:nh deb g i=true):0<=i/\i.toNat<g.n:=by unfold nh lh at h;simp at h;omega
def am1(cv:mF deb)(ao:g.ok I)(au:ls g)(i:Int):Spec Tryz.prog 40 [g.val,.int .i64 i] I [] λv I' M'=>I'=I/\∃ os:aY,v=os.val/\os.ok 1 ((B4 deb g i).map (.int .i64 ·))/\M'=os.aw 3:=by
 refine bn [] aI Tryz.func40 rfl rfl rfl ?_;intro B av;have o7:=au.n;refine aU.mk [] [] _ (.refl _) (aa5 cv ao au i) ?_;rintro v J N -⟨rfl,bg,rfl⟩;subst J;refine aB.mk (λh=>?_) (λh=>?_)
 ·have aq:nh deb g i=false:=by simpa using h
  exact⟨_,_,.refl,rfl,fs,rfl,by rw[B4,aq];exact fT 1,rfl⟩
 have aq:nh deb g i=true:=by simpa using h
 obtain⟨y0,c1⟩:=Rv aq;have Rw:B4 deb g i=lv (sf g i.toNat) g.n:=by rw[B4,aq];rfl
 obtain⟨i,rfl⟩:=en y0;rw[Rw];simp only[lz]at c1 |-;refine bu.inv (ι:=Nat×aY) (λx=>{ a4:=[(1,.val (.int .i64 i)),(2,.ref 2 0),(5,.val x.2.val),(6,.val (.int .i64 x.1))],cl:=[(2,[.slice g.a g.n g.c])],br:=I,bO:=x.2.aw 3 }) (λx=>x.1<=g.n/\x.2.ok 1 ((lv (sf g i) x.1).map (.int .i64 ·))) (λx=>g.n-x.1) ?_ ?_
 ·exact⟨(0,fs),⟨bQ _,fT 1⟩,.refl,cI,.cons rfl .nil⟩
 rintro⟨k,os⟩⟨af,bf⟩;simp only at af bf;have jP:=bf.o1;have iT:=Ru (sf g i) k;have eG:=Lp (sf g i) k;refine aB.mk (λh=>?_) (λh=>?_)
 ·have ax:k<g.n:=by simpa using h
  refine aU.mk [] (os.aw 3) _ (.refl _) (aa4 ao c1 ax) ?_;rintro v J N -⟨rfl,bg,rfl⟩;subst J;refine aB.mk (λab=>?_) (λab=>?_);·rw[ab,bt]at eG;refine bL.mk λbT h3 iF=>?_;refine bk.sL aI rfl (by simp) (e:=3) rfl rfl rfl os bf rfl (m:=1) rfl (news:=[.int .i64 k]) (by decide) (dj (b:=bT) (cs:=[.int .i64 k]) (k:=0) (n:=1) (T:=3) (.head _) (by simp)) rfl (Mr:=[⟨bT,.cells #[.int .i64 k] 3 (0,0)⟩]) (gQ (l₁:=[_])) (by simp only[maxLen];omega) (by show(os.n+1)*8<=_;omega) ?_;intro dh c' fi ub c5 c7 dS eP;refine aQ.mk _ (bl (i:=k) (by omega)) ?_;refine⟨(k+1,⟨some dh,os.n+1,c',fi⟩),⟨⟨by simp only;omega,?_⟩,by simp only;omega⟩,.sub (List.Sublist.cons_cons _ (cW _)) .refl,cI,.cons rfl .nil⟩;simp only;rw[eG,eL];exact xv bf c5 c7 dS eP
  ·rw[ab,bz,db]at eG;refine aQ.mk _ (bl (i:=k) (by omega)) ?_;refine⟨(k+1,os),⟨⟨by simp only;omega,?_⟩,by simp only;omega⟩,.refl,cI,.cons rfl .nil⟩;simp only;rw[eG];exact bf
 ·have mY:k=g.n:=by simp at h;omega
  subst mY;exact⟨_,_,.refl,rfl,os,rfl,bf,rfl⟩
def sg(g:bP)(i k:Nat):Bool:=decide (i=k)||sf g i k
def iv(g:bP):Nat->Nat->Nat->Prop
 |0,i,k=>sg g i k=true| m+1,i,k=>iv g m i k\/(iv g m i m/\iv g m m k)
def iv.base{g:bP}{i k:Nat}(h:sg g i k=true):∀ m,iv g m i k
 |0=>h| m+1=>.inl (iv.base h m)
def iv.trans{g:bP}:∀ {m i j k:Nat},iv g m i j->iv g m j k->j<m->iv g m i k
 |m+1,i,j,k,U,ab,aj=>by
  by_cases e:j=m;·subst e;have ca:iv g j i j:=U.elim id (·.1);have dC:iv g j j k:=ab.elim id (·.2);exact .inr ⟨ca,dC⟩
  ·have aj:j<m:=by omega
   rcases U with U | ⟨U,jL⟩<;>rcases ab with ab | ⟨ab,gx⟩
   ·exact .inl (iv.trans U ab aj)
   ·exact .inr ⟨iv.trans U ab aj,gx⟩
   ·exact .inr ⟨U,iv.trans jL ab aj⟩
   ·exact .inr ⟨U,gx⟩
def aa6{ds:List aK}{n:Nat}(az:ds.length=n):∀ (names:List ByteArray) (s:List Bool),s.length=n->∀ k,k<n->((names.foldl (λs nm=>qP n s (cy nm ds 0)) s).getD k false=true ↔ s.getD k false=true\/∃ nm∈names,cy nm ds 0=(k:Int))
 |[],s,ar,k,af=>by simp
 |nm::names,s,ar,k,af=>by
  rw[qm,aa6 az names _ (by rw[UI];exact ar) k af];have hm:(qP n s (cy nm ds 0)).getD k false=true ↔ s.getD k false=true\/cy nm ds 0=(k:Int):=by
   unfold qP;cases ah:decide (0<=cy nm ds 0)&&decide (cy nm ds 0<n)with
   |true=>
    rw[bt];simp at ah;simp only[bV,iz];by_cases e:(cy nm ds 0).toNat=k
    ·have:cy nm ds 0=(k:Int):=by omega
     simp[e,this,ar,af]
    ·have:¬ cy nm ds 0=(k:Int):=by omega
     simp[e,this]
   |false=>
    rw[bz];have:¬ cy nm ds 0=(k:Int):=by intro e;rw[e]at ah;simp at ah;omega
    simp[this]
  rw[hm];constructor
  ·rintro((h | h) | ⟨x,ae,h⟩)
   ·exact .inl h
   ·exact .inr ⟨nm,by simp,h⟩
   ·exact .inr ⟨x,by simp[ae],h⟩
  ·rintro(h | ⟨x,ae,h⟩)
   ·exact .inl (.inl h)
   ·rcases ea.1 ae with rfl | ae
    ·exact .inl (.inr h)
    ·exact .inr ⟨x,ae,h⟩
def aa7{nm:ByteArray}:∀ (ds:List aK) (i k:Nat),cy nm ds i=(k:Int)->∃ j,∃ (h:j<ds.length),k=i+j/\ds[j].name=nm
 |[],i,k,h=>by unfold cy at h;omega
 |d::ds,i,k,h=>by
  unfold cy at h;cases aC:decide (d.name=nm)with
  |true=>rw[aC,bt]at h;exact⟨0,by simp,by omega,by simpa using aC⟩| false=>rw[aC,bz]at h;obtain⟨j,aj,aF,a7⟩:=aa7 ds (i+1) k h;exact⟨j+1,by simp;omega,by omega,by simpa using a7⟩
def am2(az:g.ds.length=g.n)(h:cn deb g=0):∀ i (hi:i<g.ds.length),cy g.ds[i].name g.ds 0=(i:Int):=by
 rw[<-K3]at h;intro i hi;have eg:(List.range g.ds.length).all (nM g.ds)=true:=by
  unfold uS at h;cases ah:(List.range g.ds.length).all (nM g.ds)with
  |true=>rfl
  |false=>
   rw[ah]at h;exfalso;revert h;cases decide ((g.n:Int)=0)<;>cases(!mv g.ds)<;>cases iZ deb g<;>simp
 have:=et.1 eg i (kf.2 hi);rw[Qv hi]at this;simpa using this
def am3(az:g.ds.length=g.n)(h:cn deb g=0){k:Nat}(af:k<g.ds.length):(og g.ds g.n (g8 t.aa)).getD k false=true ↔ zU t.aa g.ds[k].name=true:=by
 rw[og,aa6 az (g8 t.aa) _ (by simp) k (by omega)];have a2:(List.replicate g.n false).getD k false=true ↔ False:=by
  by_cases eh:k<g.n<;>simp[bV,NC,eh]
 rw[a2,false_or];unfold zU g8;rw[Bx];constructor
 ·rintro⟨nm,jh,au⟩;obtain⟨bE,bW,rfl⟩:=dB.1 jh;obtain⟨U,ab⟩:=qn.1 bW;obtain⟨j,aj,aF,a7⟩:=aa7 g.ds 0 k au;have:j=k:=by omega
  subst this;exact⟨bE,U,by rw[ab,kj];exact eD a7.symm⟩
 ·rintro⟨bE,bW,aN⟩;simp only[b',fk]at aN;refine⟨bE.t,dB.2 ⟨bE,qn.2 ⟨bW,by simp[aN.1]⟩,rfl⟩,?_⟩;rw[aN.2];exact am2 az h k af
def am4:∀ (s:List Bool),fJ true 0 s=lv (λk=>s.getD k false) s.length:=by
 intro s;have:∀ n,n<=s.length->fJ true 0 (s.take n)=lv (λk=>s.getD k false) n:=by
  intro n
  induction n with
  |zero=>intro _;rfl
  |succ n a8=>
   intro az;have yx:n<s.length:=by omega
   rw[er yx,FM,a8 (by omega),Lp,rO (by omega),cM];have e:s.getD n false=s[n]:=by simp[bV,yx]
   rw[e];cases s[n]<;>rfl
 have h:=this s.length (b2 _);rwa [dX (b2 _)]at h
def aa8{p q:Nat->Bool}(h:∀ k,k<n->p k=q k):lv p n=lv q n:=by unfold lv;congr 1;apply wT;intro k af;exact h k (kf.1 af)
def aa9(az:g.ds.length=g.n)(h:cn deb g=0){i:Nat}(hi:i<g.ds.length):AX g g.ds[i].t=lv (sf g i) g.n:=by rw[AX,am4,Jk];apply aa8;intro k af;rw[aa3 hi (by omega),l7];exact am3 az h (by omega)
def aba(deb:List Int)(az:g.ds.length=g.n)(i:Int):B4 deb g i=g9 deb g i:=by
 unfold B4 g9;show(bif nh deb g i then _ else _)=bif nh deb g i then _ else _;cases aq:nh deb g i with
 |false=>rfl
 |true=>
  obtain⟨U,ab⟩:=Rv aq;have hm:cn deb g=0:=by unfold nh at aq;simp at aq;exact aq.2
  rw[bt,bt,<-aa9 az hm (i:=i.toNat) (by omega)];simp[ei,bV,show i.toNat<g.ds.length by omega]
def dY(R:List (List Bool))(i k:Nat):Bool:=(R.getD i []).getD k false
def qi(R:List (List Bool))(i k:Nat)(v:Bool):List (List Bool):=R.set i ((R.getD i []).set k v)
structure sh(n:Nat)(R:List (List Bool)):Prop where
 len:R.length=n
 row:∀ i (h:i<R.length),R[i].length=n
def sh.set(h:sh n R){i k:Nat}(hi:i<n)(v:Bool):sh n (qi R i k v):=by
 refine⟨by simp[qi,h.len],λj aj=>?_⟩;simp only[qi,m1]at aj;have cd:i<R.length:=by rw[h.len];exact hi
 simp only[qi,IF];split
 ·rw[m1];simp[bV,cd,h.row i cd]
 ·exact h.row j aj
def am5(h:sh n R){i k:Nat}(hi:i<n)(af:k<n)(v:Bool)(a b:Nat):dY (qi R i k v) a b=bif decide (a=i/\b=k)then v else dY R a b:=by
 have cd:i<R.length:=by rw[h.len];exact hi
 have bj:k<R[i].length:=by rw[h.row i cd];exact af
 unfold dY qi;simp only[bV,iz];by_cases aX:i=a
 ·subst aX;simp only[nU,cd,nU,je,ev cd];rw[iz];by_cases ah:k=b
  ·subst ah;simp[bj]
  ·have:¬ (b=k):=λe=>ah e.symm;simp[ah,this]
 ·have:¬ (a=i):=λe=>aX e.symm;simp[aX,this]
structure zV(g:bP)(m:Nat)(A R:List (List Bool))(done:Nat->Nat->Prop):Prop where
 sound:∀ i k,dY R i k=true->iv g g.n i k
 grow:∀ i k,dY A i k=true->dY R i k=true
 new:∀ i k,done i k->dY A i m=true->dY A m k=true->dY R i k=true
def zV.step{A:List (List Bool)}{d xN:Nat->Nat->Prop}(h:zV g m A R d)(a5:sh g.n R){i k:Nat}(hi:i<g.n)(af:k<g.n)(hm:m<g.n)(al:∀ a b,xN a b->d a b\/(a=i/\b=k)) :
  zV g m A (qi R i k (dY R i k||(dY R i m&&dY R m k))) xN:=by
 have ar:=am5 a5 hi af (dY R i k||(dY R i m&&dY R m k));have up:∀ a b,dY R a b=true->dY (qi R i k (dY R i k||(dY R i m&&dY R m k))) a b=true:=λa b g6=>by
  rw[ar];by_cases e:a=i/\b=k;·obtain⟨rfl,rfl⟩:=e;simp[g6]
  ·simp[e,g6]
 refine⟨λa b g6=>?_,λa b g6=>up a b (h.grow a b g6),λa b Rx U ab=>?_⟩
 ·rw[ar]at g6;by_cases e:a=i/\b=k
  ·obtain⟨rfl,rfl⟩:=e;simp at g6;rcases g6 with g6 | ⟨c5,c7⟩
   ·exact h.sound _ _ g6
   ·exact iv.trans (h.sound _ _ c5) (h.sound _ _ c7) hm
  ·simp[e]at g6;exact h.sound _ _ g6
 ·rcases al a b Rx with Rx | ⟨rfl,rfl⟩
  ·exact up a b (h.new a b Rx U ab)
  ·rw[ar];simp[h.grow _ _ U,h.grow _ _ ab]
structure yb(g:bP)(m:Nat)(R:List (List Bool)):Prop where
 zW:sh g.n R
 sound:∀ i k,dY R i k=true->iv g g.n i k
 comp:∀ i k,i<g.n->k<g.n->iv g m i k->dY R i k=true
def yb.begin(h:yb g m R):zV g m R R λ_ _=>False:=⟨h.sound,λ_ _ h=>h,λ_ _ h=>h.elim⟩
def yb.next{g:bP}{m:Nat}{A R:List (List Bool)}(e4:yb g m A)(hm:m<g.n)(a5:sh g.n R)(h:zV g m A R λi k=>i<g.n/\k<g.n):yb g (m+1) R:=by
 refine⟨a5,h.sound,λi k hi af aN=>?_⟩;rcases aN with aN | ⟨U,ab⟩
 ·exact h.grow _ _ (e4.comp i k hi af aN)
 ·exact h.new i k ⟨hi,af⟩ (e4.comp i m hi hm U) (e4.comp m k hm af ab)
section
variable{X:cO}{β:Nat->Nat}{F:Fr}{C:c8}{I:aT}{M:List aD}{o:Oper}{K:fZ}
def Ry(aR:cX P E){t:Nat}(aq:E t=some dr)(eo:dr.bH=.slice e):P.underlying t=some (.slice e):=by
 obtain⟨jH,pL,qG⟩:=(aR _ _ aq).fl;have xh:jH=.slice e:=by rw[eo]at qG;cases jH<;>simp_all[fe]
 rw[pL,xh]
def cx.Rz(aR:cX P E){t:Nat}(aq:E t=some dr)(eo:dr.bH=.slice e){c lX:Nat}{V:Value->Prop}
  (h:V (.bool a.isNone)):cx P .eql t x y (.val (.slice a n c)) (.val (.slice none lX c')) V other:=by
 have U:=Ry aR aq eo;refine .mk _ _ _ rfl rfl (λw=>?_) h;have aF:(eqGuard .eql t x y (.slice a n c) (.slice none lX c')).run P w=.ok () w:=by unfold eqGuard;rfl
 simp only[b8,aF,bU];exact Lib.run_eql_slice_nil w t e a n c lX c' U
end
def aY.gE(bs:mE I M J)(h:os.ok size xs)(aV:∀ x∈os.aw e,x∈M)(ah:os.n*b<=140737488355328):gb J (os.a.map λg=>⟨g,0,none⟩) os.n os.c size b xs:=by
 obtain⟨a,n,c,cur⟩:=os;cases a with
 |none=>obtain⟨U,ab⟩:=h.nil rfl;exact⟨h.len,⟨by simp only at U ab |-;omega,ah⟩,.inl U⟩
 |some g=>obtain⟨U,ab,ak,aL⟩:=h.cap g rfl;exact⟨h.len,⟨ab,ah⟩,.inr ⟨⟨g,0,none⟩,rfl,rfl,cur.toArray,e,(0,0),bs.aZ _ _ (.inr ⟨⟨g,.cells cur.toArray e (0,0)⟩,aV _ (.head _),rfl,rfl⟩),by simpa using aL⟩⟩
def gb.yc{c:Nat}(h:gb I a n c size b vs)(M:List aD)(av:0<n):∃ ad,a=some ad/\bq I M ad (n*size) vs:=by
 rcases h.rd with U | ⟨ad,U,ab,cs,T,an,ak,aL⟩
 ·omega
 ·exact⟨ad,U,ab,cs,T,an,.inl ak,aL,h.len⟩
def Lq(l:List Int):gh (l.map (.int .i64 ·))=true:=et.2 λv ai=>by obtain⟨k,_,rfl⟩:=dB.1 ai;rfl
def Em{f:α->List Value}(h:∀ x,gh (f x)=true)(l:List α):gh (l.flatMap f)=true:=et.2 λv ai=>by obtain⟨x,_,ae⟩:=ud.1 ai;exact et.1 (h x) v ae
def aH.one(d:aH):gh d.cells=true:=rfl
def aK.one(d:aK):gh d.cells=true:=rfl
def am6{c:Nat}(h:gb I a n c 1 8 vs)(U:gh vs=true):Spec Tryz.prog 96 [.slice a n c] I M0 λv I' M'=>I'=I/\∃ os:aY,os.n=n/\os.ok 1 vs/\v=os.val/\M'=os.aw 3++M0:=by
 refine bn [] aI Tryz.func96 rfl rfl rfl ?_;intro B av;have gk:=h.cap;refine cx.Rz aI rfl rfl ?_;refine aB.mk (λaC=>?_) (λaC=>?_)
 ·have az:n=0:=by
   rcases h.rd with ab | ⟨ad,ab,_⟩;·exact ab
   ·rw[ab]at aC;cases aC
  subst az;have ak:vs=[]:=hZ (by rw[h.len,xe]);subst ak;exact⟨_,_,.refl,rfl,fs,rfl,fT 1,rfl,rfl⟩
 refine bL.mk λb ah jJ=>?_;refine bk.v8 aI rfl (by simp) (e:=3) rfl rfl rfl ⟨some b,0,0,[]⟩ (xs:=[]) ⟨rfl,(λh=>by cases h),(λg h=>⟨rfl,b2 _,bQ _,rfl⟩)⟩ rfl (sa:=a) (m:=n) (c':=c) (news:=vs) rfl h.len (h.yc _) U [] M0 rfl (by simp only;omega) (by show(0+n)*8<=_;omega) ?_;intro os az cg bM;rw[hO]at bM;exact⟨_,_,.refl,rfl,os,az.trans (cM n),bM,rfl,rfl⟩
def am7{c:Nat}(h:gb I a n c 9 96 vs)(U:gh vs=true):Spec Tryz.prog 95 [.slice a n c] I M0 λv I' M'=>I'=I/\∃ os:aY,os.n=n/\os.ok 9 vs/\v=os.val/\M'=os.aw 61++M0:=by
 refine bn [] aI Tryz.func95 rfl rfl rfl ?_;intro B av;have gk:=h.cap;refine cx.Rz aI rfl rfl ?_;refine aB.mk (λaC=>?_) (λaC=>?_)
 ·have az:n=0:=by
   rcases h.rd with ab | ⟨ad,ab,_⟩;·exact ab
   ·rw[ab]at aC;cases aC
  subst az;have ak:vs=[]:=hZ (by rw[h.len,xe]);subst ak;exact⟨_,_,.refl,rfl,fs,rfl,fT 9,rfl,rfl⟩
 refine bL.mk λb ah jJ=>?_;refine bk.v8 aI rfl (by simp) (e:=61) rfl rfl rfl ⟨some b,0,0,[]⟩ (xs:=[]) ⟨rfl,(λh=>by cases h),(λg h=>⟨rfl,b2 _,bQ _,rfl⟩)⟩ rfl (sa:=a) (m:=n) (c':=c) (news:=vs) rfl h.len (h.yc _) U [] M0 rfl (by simp only;omega) (by show(0+n)*96<=_;omega) ?_;intro os az cg bM;rw[hO]at bM;exact⟨_,_,.refl,rfl,os,az.trans (cM n),bM,rfl,rfl⟩
def am8{c:Nat}(h:gb I a n c 3 48 vs)(U:gh vs=true):Spec Tryz.prog 65 [.slice a n c] I M0 λv I' M'=>I'=I/\∃ os:aY,os.n=n/\os.ok 3 vs/\v=os.val/\M'=os.aw 48++M0:=by
 refine bn [] aI Tryz.func65 rfl rfl rfl ?_;intro B av;have gk:=h.cap;refine cx.Rz aI rfl rfl ?_;refine aB.mk (λaC=>?_) (λaC=>?_)
 ·have az:n=0:=by
   rcases h.rd with ab | ⟨ad,ab,_⟩;·exact ab
   ·rw[ab]at aC;cases aC
  subst az;have ak:vs=[]:=hZ (by rw[h.len,xe]);subst ak;exact⟨_,_,.refl,rfl,fs,rfl,fT 3,rfl,rfl⟩
 refine bL.mk λb ah jJ=>?_;refine bk.v8 aI rfl (by simp) (e:=48) rfl rfl rfl ⟨some b,0,0,[]⟩ (xs:=[]) ⟨rfl,(λh=>by cases h),(λg h=>⟨rfl,b2 _,bQ _,rfl⟩)⟩ rfl (sa:=a) (m:=n) (c':=c) (news:=vs) rfl h.len (h.yc _) U [] M0 rfl (by simp only;omega) (by show(0+n)*48<=_;omega) ?_;intro os az cg bM;rw[hO]at bM;exact⟨_,_,.refl,rfl,os,az.trans (cM n),bM,rfl,rfl⟩
def abb{L:List aH}{i:Nat}(hi:i<L.length){d:aH}(h:d.a1=L[i].a1):(L.set i d).map aH.a1=L.map aH.a1:=by
 rw[CH,h];refine yC λj=>?_;rw[iz];split
 ·rename_i e;subst e;rw[cT,cw hi,sr,ev hi];rfl
 ·rfl
def En{gY:aY}(h:os.val=gY.val):os.n=gY.n/\os.c=gY.c:=by
 unfold aY.val at h;injection h with U ab ak
 exact⟨ab,ak⟩
def am9{i:Nat}(hi:i<L.length){d:aK}(h:d.a1=L[i].a1):(L.set i d).map aK.a1=L.map aK.a1:=by
 rw[CH,h];refine yC λj=>?_;rw[iz];split
 ·rename_i e;subst e;rw[cT,cw hi,sr,ev hi];rfl
 ·rfl
def ana(f:α->List Value)(size:Nat)(au:∀ x,(f x).length=size)(l:List α)(j:Nat):(l.drop j).flatMap f=(l.flatMap f).drop (j*size):=by
 by_cases h:j<=l.length
 ·have e:l.flatMap f=(l.take j).flatMap f++(l.drop j).flatMap f:=by rw[<-jF,rB]
  have ab:((l.take j).flatMap f).length=j*size:=by rw[gd f size au,rO h]
  rw[e,<-ab,List.drop_left]
 ·have U:l.length<=j:=by omega
  rw[iK U,iK (by rw[gd f size au];exact rl _ U)];rfl
def anb(h:ef I M w):ef (gE I M) [] w/\mE I M (gE I M):=by
 refine⟨⟨λb o ah=>?_,by simp,by simp,by simp⟩,⟨λb o ah=>Zf h.bE h.d ah,λb o ah=>?_⟩⟩
 ·rcases BN ah with ah | ⟨x,ae,rfl,rfl⟩
  ·exact h.i _ _ ah
  ·exact h.m _ ae
 ·rcases BN ah with ah | ⟨x,U,ab,ak⟩
  ·exact .inl ah
  ·exact .inr ⟨x,U,ab,ak⟩
def uW(I:aT)(M:List aD):aT:=λb=>if M.any (λx=>Nat.beq x.num b)then none else I b
def abc{x:aD}(h:x∈M):uW I M x.num=none:=by unfold uW;rw[cw (Bx.2 ⟨x,h,Nat.beq_refl _⟩)]
def abd(h:∀ x∈M,x.num≠b):uW I M b=I b:=by unfold uW;rw[cB];intro U;obtain⟨x,ae,e⟩:=Bx.1 U;exact h x ae (dD e)
def Lr{o:Obj}(h:uW I M b=some o):I b=some o/\∀ x∈M,x.num≠b:=by
 have az:∀ x∈M,x.num≠b:=λx ae e=>by subst e;rw[abc ae]at h;cases h
 exact⟨by rw[abd az]at h;exact h,az⟩
def anc{bR:aT}{M1:List aD}{w':World}(h:ef I M w)(U:ef bR M1 w')(ab:Kept (gE I M) [] w bR M1 w') :
  ef (uW bR M) (M1++M) w'/\Kept I M w (uW bR M) (M1++M) w'/\(∀ b o,I b=some o->uW bR M b=some o)/\∀ x∈M1,∀ y∈M,x.num≠y.num:=by
 have e2:∀ x∈M,bR x.num=some x.obj:=λx ae=>ab.le _ _ (Qi h.bE ae);have bB:∀ x∈M1,∀ y∈M,x.num≠y.num:=λx ae y aA e=>by have a:=U.d x ae;rw[e,e2 y aA]at a;cases a
 have ane:∀ b o,I b=some o->∀ x∈M,x.num≠b:=λb o ah x ae e=>by have:=h.d x ae;rw[e,ah]at this;cases this
 have hle:∀ b o,I b=some o->uW bR M b=some o:=λb o ah=>by rw[abd (ane b o ah)];exact ab.le _ _ (KV h.d ah)
 have ax:∀ x∈M,x.num<w.heap.size:=λx ae=>(l6.1 (h.m x ae)).1;refine⟨⟨λb o ah=>U.i _ _ (Lr ah).1,λx ae=>?_,λx ae=>?_,?_⟩,⟨hle,λb o ah=>?_,λx ae=>?_,λb ah aV=>ab.dL b ah (by simp),ab.out,ab.sz⟩,hle,bB⟩
 ·rcases dm.1 ae with ae | ae
  ·exact U.m x ae
  ·exact U.i _ _ (e2 x ae)
 ·rcases dm.1 ae with ae | ae
  ·cases he:uW bR M x.num with
   |none=>rfl| some o=>have:=U.d x ae;rw[(Lr he).1]at this;cases this
  ·exact abc ae
 ·rw[eL,u6];refine⟨U.bE,h.bE,λa aX b ah e=>?_⟩;obtain⟨x,ae,rfl⟩:=dB.1 aX;obtain⟨y,aA,rfl⟩:=dB.1 ah;exact bB x ae y aA e
 ·obtain⟨ca,dC⟩:=Lr ah;rcases ab.sw _ _ ca with dz | dz
  ·rcases BN dz with dz | ⟨x,ae,rfl,-⟩
   ·exact .inl dz
   ·exact absurd rfl (dC x ae)
  ·exact .inr dz
 ·rcases dm.1 ae with ae | ae
  ·rcases ab.tu x ae with⟨y,aA,_⟩ | a
   ·cases aA
   ·exact .inr a
  ·exact .inl ⟨x,ae,rfl⟩
def Spec.anf{args:List Value}{Q:aT->Value->aT->List aD->Prop}(h:∀ J,mE I M J->Spec P f args J [] (Q J))(aR:H' P f) :
  Spec P f args I M λr I' mj=>∃ J bR M1,mE I M J/\Q J r bR M1/\mj=M1++M/\(∀ b o,I b=some o->I' b=some o)/\(∀ b o,I' b=some o->bR b=some o):=by
 refine .inl ⟨aR,λw hw=>?_⟩;obtain⟨a6,bb⟩:=anb hw;rcases h _ bb with⟨-,ab⟩ | ab
 ·refine(ab w a6).mono ?_;rintro e w'⟨v,bR,M1,aF,a7,bC,di⟩;obtain⟨c5,c7,dS,-⟩:=anc hw bC di;exact⟨v,uW bR M,M1++M,aF,⟨_,bR,M1,bb,a7,rfl,dS,λb o ah=>(Lr ah).1⟩,c5,c7⟩
 ·obtain⟨v,w',bR,M1,aF,-⟩:=ab w a6;have:=aR args.toArray w;rw[aF]at this;cases this
structure qj(T:Nat)(M:List aD)(a:Option Addr)(n c size b:Nat)(vs:List Value):Prop where
 len:vs.length=n*size
 cap:n<=c/\n*b<=140737488355328
 rd:n=0\/∃ g cs,a=some ⟨g,0,none⟩/\(⟨g,.cells cs T (0,0)⟩:aD)∈M/\cs.toList.take (n*size)=vs/\n*size<=cs.size
def qj.mono{c:Nat}(h:qj T M a n c size b vs)(aV:∀ x∈M,x∈M'):qj T M' a n c size b vs:=
 ⟨h.len,h.cap,h.rd.imp id λ⟨g,cs,U,ab,ak,aL⟩=>⟨g,cs,U,aV _ ab,ak,aL⟩⟩
def qj.gE(bs:mE I M J){c:Nat}(h:qj T M a n c size b vs):gb J a n c size b vs:=
 ⟨h.len,h.cap,h.rd.imp id λ⟨g,cs,U,ab,ak,aL⟩=>⟨⟨g,0,none⟩,U,rfl,cs,T,(0,0),bs.aZ _ _ (.inr ⟨_,ab,rfl,rfl⟩),by rw[qC];exact ak⟩⟩
def qj.RA(h:os.ok size xs)(ah:os.n*b<=140737488355328):qj e (os.aw e) (os.a.map λg=>⟨g,0,none⟩) os.n os.c size b xs:=by
 obtain⟨a,n,c,cur⟩:=os;cases a with
 |none=>obtain⟨U,ab⟩:=h.nil rfl;exact⟨h.len,⟨by simp only at U ab |-;omega,ah⟩,.inl U⟩
 |some g=>obtain⟨U,ab,ak,aL⟩:=h.cap g rfl;refine⟨h.len,⟨ab,ah⟩,.inr ⟨g,cur.toArray,rfl,.head _,aL,?_⟩⟩;simp only at U ab |-;have:=rl size ab;show n*size<=cur.length;omega
structure zX(M:List aD)(d:aH):Prop where
 k:0<=d.k/\d.k<256
 cF:e5 d.cF
 s1:e5 d.s1
 s2:e5 d.s2
 dt:e5 d.dt
 t:d.t.size<=9223372036854775807
 lo:iY d.lo
 hi:iY d.hi
 aJ:qj 3 M d.eA d.aZ d.ej 1 8 (d.kids.map (.int .i64 ·))
 kids:∀ x∈d.kids,iY x
structure wO(M:List aD)(t:bx):Prop where
 aJ:qj 61 M t.a t.n t.c 9 96 (t.aa.flatMap aH.cells)
 aa:∀ d∈t.aa,zX M d
 root:iY t.root
structure zY(M:List aD)(d:aK):Prop where
 name:d.name.size<=140737488355328
 t:wO M d.t
structure si(M:List aD)(g:bP):Prop where
 aJ:qj 48 M g.a g.n g.c 3 48 (g.ds.flatMap aK.cells)
 ds:∀ d∈g.ds,zY M d
def zX.mono{d:aH}(h:zX M d)(aV:∀ x∈M,x∈M'):zX M' d:={ h with aJ:=h.aJ.mono aV }
def wO.mono(h:wO M t)(aV:∀ x∈M,x∈M'):wO M' t:=⟨h.aJ.mono aV,λd al=>(h.aa d al).mono aV,h.root⟩
def zY.mono{d:aK}(h:zY M d)(aV:∀ x∈M,x∈M'):zY M' d:=⟨h.name,h.t.mono aV⟩
def zX.gE(bs:mE I M J){d:aH}(h:zX M d):d.ok J:={ h with aJ:=h.aJ.gE bs }
def wO.gE(bs:mE I M J)(h:wO M t):t.ok J:=⟨h.aJ.gE bs,λd al=>(h.aa d al).gE bs,h.root⟩
def si.gE(bs:mE I M J)(h:si M g):g.ok J:=⟨h.aJ.gE bs,λd al=>⟨(h.ds d al).name,(h.ds d al).t.gE bs⟩⟩
structure ang(I:aT)(t:bx)(os0:aY)(x:Nat×aY×List aH×List aD):Prop where
 i:x.1<=t.n
 ok:x.2.1.ok 9 (x.2.2.1.flatMap aH.cells)
 a1:x.2.2.1.map aH.a1=t.aa.map aH.a1
 own:∀ j,∀ h:j<x.2.2.1.length,j<x.1->zX x.2.2.2 x.2.2.1[j]
 dL:∀ j,∀ h:j<x.2.2.1.length,x.1<=j->x.2.2.1[j].ok I
 a:x.2.1.a=os0.a
 v:x.2.1.val=os0.val
set_option maxRecDepth 100000 in
def anh(aq:t.ok I):Spec Tryz.prog 66 [t.val] I [] λv I' M'=>I'=I/\∃ bh:bx,v=bh.val/\wO M' bh/\bh.a1=t.a1:=by
 refine bn [] aI Tryz.func66 rfl rfl rfl ?_;intro B av;have g7:=aq.n;have gk:=aq.aJ.cap;refine aU.whole _ (am7 aq.aJ (Em aH.one _)) ?_;rintro v J N -⟨bg,os0,abe,pX,rfl,cH⟩;subst J;subst N;refine bu.inv (ι:=Nat×aY×List aH×List aD) (λx=>{ a4:=[(1,.ref 1 0),(2,.ref 2 0),(10,.val os0.val),(11,.val (.int .i64 os0.n)),(12,.val (.int .i64 x.1))],cl:=[(1,[os0.val,.int .i64 t.root]),(2,[.slice none 0 0,.int .i64 0])],br:=I,bO:=x.2.1.aw 61++x.2.2.2 }) (λx=>ang I t os0 x) (λx=>t.n-x.1) ?_ ?_
 ·exact⟨(0,os0,t.aa,[]),⟨bQ _,pX,rfl,λj _ h=>absurd h (qb _),λj h _=>aq.aa _ (bJ h),rfl,rfl⟩,.refl,ec,.cons rfl (.cons rfl (.nil))⟩
 rintro⟨i,os,L,wP⟩⟨hi,bf,dJ,B5,hold,jT,jV⟩;simp only at hi bf dJ B5 hold jT jV;have abf:L.length=t.aa.length:=by simpa using congrArg List.length dJ
 obtain⟨hV,zZ⟩:=En jV;refine aB.mk (λh=>?_) (λh=>?_)
 rotate_left
 ·have bS:i=t.n:=by have:¬ (i:Int)<(os0.n:Int):=cR h;omega
  refine⟨_,_,.refl,rfl,⟨L,os.a.map λg=>⟨g,0,none⟩,os.n,os.c,t.root⟩,by rw[<-jV];rfl,⟨(qj.RA (b:=96) bf (by omega)).mono λx ae=>gM _ ae,λd al=>?_,aq.root⟩,?_⟩;·obtain⟨j,aj,rfl⟩:=rY al;have jA:j<L.length:=aj;exact(B5 j jA (by omega)).mono λx ae=>ly _ ae
  ·unfold bx.a1;simp only;rw[dJ,hV,abe]
 have ax:i<t.n:=by have:(i:Int)<(os0.n:Int):=cq h;omega
 have p6:i<L.length:=by omega
 obtain⟨ad,ba,a3⟩:=aY.ok.row (I:=I) (M:=os.aw 61++wP) (e:=61) aH.bI (by decide) bf (λz a2=>gM _ a2) p6;have rh:=hold i p6 (b2 _);have oB:=ba;rw[jT]at oB;refine aW.mk ad i oB rfl (by omega) ?_;refine aE.mk _ a3 ?_;refine cr.draw aI rfl rfl rfl ?_;refine e7.whole _ (am6 rh.aJ (Lq _)) (λv I' M' h x ae=>by obtain⟨-,o,-,-,-,e⟩:=h;rw[e];exact ly _ ae) ?_;rintro v HI N -⟨abg,ok,arT,bM,rfl,cH⟩;subst HI;subst N;refine aW.mk ad i oB rfl (by omega) ?_;have arU:=rh.aJ.cap;have gK:zX (ok.aw 3++wP) { L[i]with eA:=ok.a.map λg=>⟨g,0,none⟩,aZ:=ok.n,ej:=ok.c }:=
  { k:=rh.k,cF:=rh.cF,s1:=rh.s1,s2:=rh.s2,dt:=rh.dt,t:=rh.t,lo:=rh.lo,hi:=rh.hi,kids:=rh.kids,aJ:=(qj.RA (b:=8) bM (by omega)).mono λx ae=>gM _ ae }
 have yd:({ L[i]with eA:=ok.a.map λg=>⟨g,0,none⟩,aZ:=ok.n,ej:=ok.c }:aH).a1=L[i].a1:=rfl;have fN:=abb p6 yd;refine aY.Kx (e:=61) aH.cells 9 aH.bI bf p6 8 (vs:=[ok.val]) (b9 rfl) rfl { L[i]with eA:=ok.a.map λg=>⟨g,0,none⟩,aZ:=ok.n,ej:=ok.c } rfl (ok.aw 3) wP rfl ba ?_;intro gL mR tj h8 eX;refine aQ.mk _ (bl (i:=i) (by omega)) ?_;refine⟨(i+1,gL,L.set i { L[i]with eA:=ok.a.map λg=>⟨g,0,none⟩,aZ:=ok.n,ej:=ok.c },ok.aw 3++wP),⟨⟨ax,eX,fN.trans dJ,λj aj sI=>?_,λj aj sI=>?_,tj.trans jT,mR.trans jV⟩,by simp only;omega⟩,.perm (A4 _ _ _) .refl,ec,.cons rfl (.cons rfl (.nil))⟩
 ·simp only at aj sI |-;by_cases e:j=i
  ·subst e;rw[List.getElem_set_self];exact gK
  ·rw[Lb (by omega)];rw[m1]at aj;exact(B5 j aj (by omega)).mono λx ae=>ly _ ae
 ·simp only at aj sI |-;rw[Lb (by omega)];rw[m1]at aj;exact hold j aj (by omega)
def ani(aq:t.ok I):Spec Tryz.prog 66 [t.val] I M0 λv I' M'=>I'=I/\∃ (bh:bx) (M1:List aD),v=bh.val/\wO M1 bh/\bh.a1=t.a1/\M'=M1++M0:=by refine Spec.iM (Spec.frame (anh aq)) ?_;rintro v J M⟨M',rfl,-,-,rfl,bh,rfl,U,ab⟩;exact⟨rfl,bh,M',rfl,U,ab,rfl⟩
structure anj(I:aT)(g:bP)(os0:aY)(x:Nat×aY×List aK×List aD):Prop where
 i:x.1<=g.n
 ok:x.2.1.ok 3 (x.2.2.1.flatMap aK.cells)
 a1:x.2.2.1.map aK.a1=g.ds.map aK.a1
 own:∀ j,∀ h:j<x.2.2.1.length,j<x.1->zY x.2.2.2 x.2.2.1[j]
 dL:∀ j,∀ h:j<x.2.2.1.length,x.1<=j->x.2.2.1[j].ok I
 a:x.2.1.a=os0.a
 v:x.2.1.val=os0.val
set_option maxRecDepth 100000 in
def ank(ao:g.ok I):Spec Tryz.prog 44 [g.val] I [] λv I' M'=>I'=I/\∃ (os:aY) (L:List aK) (M1:List aD),v=.agg #[os.val]/\os.n=g.n/\os.ok 3 (L.flatMap aK.cells)/\M'=os.aw 48++M1/\L.map aK.a1=g.ds.map aK.a1/\∀ d∈L,zY M1 d:=by
 refine bn [] aI Tryz.func44 rfl rfl rfl ?_;intro B av;have cK:=ao.n;have gk:=ao.aJ.cap;refine aU.whole _ (am8 ao.aJ (Em aK.one _)) ?_;rintro v J N -⟨bg,os0,abe,pX,rfl,cH⟩;subst J;subst N;refine bu.inv (ι:=Nat×aY×List aK×List aD) (λx=>{ a4:=[(1,.ref 1 0),(2,.ref 2 0),(10,.val os0.val),(11,.val (.int .i64 os0.n)),(12,.val (.int .i64 x.1))],cl:=[(1,[os0.val]),(2,[.slice none 0 0])],br:=I,bO:=x.2.1.aw 48++x.2.2.2 }) (λx=>anj I g os0 x) (λx=>g.n-x.1) ?_ ?_
 ·exact⟨(0,os0,g.ds,[]),⟨bQ _,pX,rfl,λj _ h=>absurd h (qb _),λj h _=>ao.ds _ (bJ h),rfl,rfl⟩,.refl,ec,.cons rfl (.cons rfl (.nil))⟩
 rintro⟨i,os,L,wP⟩⟨hi,bf,dJ,B5,hold,jT,jV⟩;simp only at hi bf dJ B5 hold jT jV;have abf:L.length=g.ds.length:=by simpa using congrArg List.length dJ
 obtain⟨hV,zZ⟩:=En jV;refine aB.mk (λh=>?_) (λh=>?_)
 rotate_left
 ·have bS:i=g.n:=by have:¬ (i:Int)<(os0.n:Int):=cR h;omega
  refine⟨_,_,.refl,rfl,os,L,wP,by rw[jV];rfl,by omega,bf,rfl,dJ,λd al=>?_⟩;obtain⟨j,aj,rfl⟩:=rY al;exact B5 j aj (by omega)
 have ax:i<g.n:=by have:(i:Int)<(os0.n:Int):=cq h;omega
 have p6:i<L.length:=by omega
 obtain⟨ad,ba,a3⟩:=aY.ok.row (I:=I) (M:=os.aw 48++wP) (e:=48) aK.bI (by decide) bf (λz a2=>gM _ a2) p6;have rh:=hold i p6 (b2 _);have oB:=ba;rw[jT]at oB;refine aW.mk ad i oB rfl (by omega) ?_;refine aE.mk _ a3 ?_;refine cr.draw aI rfl rfl rfl ?_;refine e7.whole _ (ani rh.t) (λv I' M' h x ae=>by obtain⟨-,bh,M1,-,-,-,e⟩:=h;rw[e];exact ly _ ae) ?_;rintro v HI N -⟨abg,bh,M1,rfl,D7,anl,cH⟩;subst HI;subst N;refine aW.mk ad i oB rfl (by omega) ?_;have gK:zY (M1++wP) ⟨L[i].name,bh⟩:=⟨rh.name,D7.mono λx ae=>gM _ ae⟩;have yd:(⟨L[i].name,bh⟩:aK).a1=L[i].a1:=by unfold aK.a1;rw[anl]
 have fN:=am9 p6 yd;refine aY.Kx (e:=48) aK.cells 3 aK.bI bf p6 1 (vs:=[.slice bh.a bh.n bh.c,.int .i64 bh.root]) (b9 rfl) rfl ⟨L[i].name,bh⟩ rfl M1 wP rfl ba ?_;intro gL mR tj h8 eX;refine aQ.mk _ (bl (i:=i) (by omega)) ?_;refine⟨(i+1,gL,L.set i ⟨L[i].name,bh⟩,M1++wP),⟨⟨ax,eX,fN.trans dJ,λj aj sI=>?_,λj aj sI=>?_,tj.trans jT,mR.trans jV⟩,by simp only;omega⟩,.perm (A4 _ _ _) .refl,ec,.cons rfl (.cons rfl (.nil))⟩
 ·simp only at aj sI |-;by_cases e:j=i
  ·subst e;rw[List.getElem_set_self];exact gK
  ·rw[Lb (by omega)];rw[m1]at aj;exact(B5 j aj (by omega)).mono λx ae=>ly _ ae
 ·simp only at aj sI |-;rw[Lb (by omega)];rw[m1]at aj;exact hold j aj (by omega)
structure Told(pl Ls:List (ByteArray×Int))(F dN:List aM)(up:Nat->Nat)(nm:ByteArray):Prop where
 at_:((dP nm pl).getD 0).toNat=up ((dP nm Ls).getD 0).toNat
 a4:F.getD ((dP nm pl).getD 0).toNat bw=dN.getD ((dP nm Ls).getD 0).toNat bw
section
variable{pl Ls:List (ByteArray×Int)}{F dN:List aM}{up:Nat->Nat}{aa:List aH}(h:∀ d∈aa,d.k=3->Told pl Ls F dN up d.t)
end
section
variable{a b:List aK}{x:aK}(cm:∀ e∈a++b,∀ n∈e.t.aa,n.k=3->n.t≠x.name/\0<=cy n.t (a++x::b) 0)
include cm
end
def pj(ds:List aK):bP:=⟨ds,none,ds.length,0⟩
def anm(aq:t.ok I)(D7:bh.ok J)(h:bh.a1=t.a1)(af:nc t):nc bh:=λn az=>by
 have U:n.a1∈t.aa.map aH.a1:=by have ab:bh.aa.map aH.a1=t.aa.map aH.a1:=congrArg bx.aa h;rw[<-ab];exact dB.2 ⟨n,az,rfl⟩
 obtain⟨m,hm,e⟩:=dB.1 U;have ak:m.a1.kids=n.a1.kids:=congrArg aH.kids e;have ak:m.kids=n.kids:=ak;have aL:=(aq.aa m hm).aZ;have bm:=(D7.aa n az).aZ;have b5:=af m hm;rw[ak]at aL;omega
def ann{ds ph:List aK}(U:∀ d∈ds,d.ok I)(ab:∀ d∈ph,d.ok J)(h:∀ d∈ph,∃ e∈ds,d.a1=e.a1)(af:∀ d∈ds,nc d.t):∀ d∈ph,nc d.t:=λd al=>by obtain⟨e,he,aC⟩:=h d al;exact anm (U e he).t (ab d al).t (congrArg aK.t aC) (af e he)
def abh(wh:Bool):∀ (s:List Bool) (i:Nat),(fJ wh i s).Nodup
 |[],i=>by simp[fJ]
 |b::s,i=>by
  have a8:=abh wh s (i+1);unfold fJ;cases b == wh with
  |false=>exact a8| true=>simp only[bt,nR];refine⟨λh=>?_,a8⟩;obtain⟨j,U,_⟩:=(C4 wh s (i+1) _).1 h;omega
section
variable{L:List (List Int)}
def abi(cL:∀ l∈L,valid L.length l){a:Nat}{k:Int}(h:k∈L.getD a []):a<L.length/\0<=k/\k<L.length:=by
 have aX:a<L.length:=by apply IH;intro hle;simp[bV,hle]at h
 have e:L.getD a []=L[a]:=by simp[bV,aX]
 rw[e]at h;exact⟨aX,cL _ (bJ aX) k h⟩
structure Eo(L:List (List Int))(i:Nat)(S:List Int)(k:Nat):Prop where
 bE:S.Nodup
 val:valid L.length S
 AY:∀ a:Nat,(a:Int)∈S->Comes L i a
 self:(i:Int)∈S
 cl:∀ j,j<k->∀ x∈L.getD (S.getD j 0).toNat [],x∈S
def Eo.add{i:Nat}{S:List Int}{k:Nat}(cL:∀ l∈L,valid L.length l)(h:Eo L i S k)(af:k<S.length){x:Int}(ae:x∈L.getD (S.getD k 0).toNat [])(az:x ∉ S):Eo L i (S++[x]) k:=by
 have ai:=abi cL ae;have fo:S.getD k 0∈S:=by simp only[bV,ev af,je];exact bJ af
 have arV:=h.val _ fo;refine⟨?_,λy aA=>?_,λa aX=>?_,by simp[h.self],λj aj y aA=>?_⟩
 ·rw[u6];refine⟨h.bE,by simp,λa aX b ah=>?_⟩;simp only[fb]at ah;subst ah;intro e;subst e;exact az aX
 ·rcases dm.1 aA with aA | aA
  ·exact h.val y aA
  ·simp only[fb]at aA;subst aA;exact ai.2
 ·rcases dm.1 aX with aX | aX
  ·exact h.AY a aX
  ·simp only[fb]at aX;subst aX;refine .next (h.AY (S.getD k 0).toNat ?_) ae;rwa [show(((S.getD k 0).toNat:Nat):Int)=S.getD k 0 by omega]
 ·have eS:j<S.length:=by omega
  have e:(S++[x]).getD j 0=S.getD j 0:=by simp[bV,sq eS]
  rw[e]at aA;exact dm.2 (.inl (h.cl j aj y aA))
def Eo.next{i:Nat}{S:List Int}{k:Nat}(h:Eo L i S k)(aC:∀ x∈L.getD (S.getD k 0).toNat [],x∈S):Eo L i S (k+1):=
 ⟨h.bE,h.val,h.AY,h.self,λj aj x ae=>by
  by_cases e:j=k;·subst e;exact aC x ae
  ·exact h.cl j (by omega) x ae⟩
def Comes.first{i a:Nat}(h:Comes L i a):a=i\/∃ k:Nat,(k:Int)∈L.getD i []/\Comes L k a:=by
 induction h with
 |self=>exact .inl rfl
 | @next b k ah af a8=>
  rcases a8 with rfl | ⟨c,U,ab⟩;·exact .inr ⟨k,af,.self⟩
  ·exact .inr ⟨c,U,.next ab af⟩
end
def gq{α:Type}:List Bool->List α->List α
 |b::s,x::l=>bif b then x::gq s l else gq s l| _,_=>[]
def wQ{α:Type}:∀ (s:List Bool) (l:List α),List.Sublist (gq s l) l
 |[],[]=>.slnil| [],x::l=>cW _| b::s,[]=>.slnil| true::s,x::l=>(wQ s l).cons₂ x| false::s,x::l=>(wQ s l).cons x
def z0{α β:Type}(f:α->β):∀ (s:List Bool) (l:List α),gq s (l.map f)=(gq s l).map f
 |[],[]=>rfl| [],x::l=>rfl| b::s,[]=>rfl| true::s,x::l=>congrArg (f x::·) (z0 f s l)| false::s,x::l=>z0 f s l
def abj{α:Type}(b:Bool)(x:α):∀ (s:List Bool) (l:List α),s.length=l.length->gq (s++[b]) (l++[x])=gq s l++bif b then [x]else []
 |[],[],_=>by cases b<;>rfl
 |c::s,y::l,h=>by
  have:=abj b x s l (by simpa using h);cases c;·exact this
  ·exact congrArg (y::·) this
structure abk(ds ph:List aK)(up:Nat->Nat):Prop where
 sub:List.Sublist ph ds
 at_:∀ i,i<ph.length->ds[up i]?=ph[i]?
 lt:∀ i j,i<j->j<ph.length->up i<up j
 cl:∀ d∈ph,∀ n∈d.t.aa,n.k=3->∃ q,q<ph.length/\cy n.t ph 0=(q:Int)/\cy n.t ds 0=((up q:Nat):Int)
section
variable{ds ph:List aK}{up:Nat->Nat}(af:abk ds ph up)
include af
end
section
variable{ds ph:List aK}{up:Nat->Nat}(af:abk ds ph up)
include af
end
def HJ(g:bP):ei g.a1=ei g:=by
 have au:∀ (nm:ByteArray) (ds:List aK) (i:Nat),cy nm (ds.map aK.a1) i=cy nm ds i:=λnm ds=>by
  induction ds with
  |nil=>intro i;rfl| cons d ds a8=>intro i;rw[cZ,cy,cy,a8];rfl
 have jh:∀ d:aK,g8 d.a1.t.aa=g8 d.t.aa:=λd=>by show g8 (d.t.aa.map aH.a1)=_;unfold g8;rw[List.filter_map,sS];rfl
 unfold ei;show(g.ds.map aK.a1).map _=_;rw[sS];refine rC λd _=>?_;show fJ true 0 (og (g.ds.map aK.a1) g.n (g8 d.a1.t.aa))=fJ true 0 (og g.ds g.n (g8 d.t.aa));rw[jh];unfold og;congr 1;congr 1;funext s nm;rw[au]
def ey(l:List Int):List Bool:=(List.range 64).map λ(i:Nat)=>decide ((i:Int)∈l)
def hb(l:List Int):(ey l).length=64:=by simp[ey]
def ye{l:List Int}{i:Nat}(hi:i<64):(ey l).getD i false=decide ((i:Int)∈l):=by unfold ey;rw[bV,sr,List.getElem?_range hi];rfl
def ano(s:List Bool)(n i:Nat):(s.take n).getD i false=if i<n then s.getD i false else false:=by rw[bV,bV,kA];split<;>rfl
def RB{a b:List Bool}(ay:a.length=b.length)(h:∀ i,i<a.length->a.getD i false=b.getD i false):a=b:=by refine rE ay λi U ab=>?_;have:=h i U;rw[bV,bV,ev U,ev ab]at this;exact this
def abl(ar:s.length<=64):(ey (fJ true 0 s)).take s.length=s:=by
 refine RB (by rw[fH,hb];omega) λi hi=>?_;rw[fH,hb]at hi;have hi:i<s.length:=by omega
 rw[ano,cw hi,ye (by omega)];cases h:s.getD i false with
 |true=>exact eD (FN.2 h)| false=>refine dk λU=>?_;have:=FN.1 U;unfold jQ at this;rw[h]at this;cases this
section
variable{deb:List Int}{g:bP}(az:g.ds.length=g.n)(hm:cn deb g=0)
include az hm
end
section
variable{X:cO}{β:Nat->Nat}{F:Fr}{C:c8}{I:aT}{M:List aD}{o:Oper}{K:fZ}
def bk.anp(aR:cX X.P X.E){t:Nat}(aP:o.op=.call { callee:=.builtin .copy,args:=#[x,y],argTypes:=#[t,t] })(al:∀ d,o.dst=some d->d<X.n)
 (aq:X.E t=some dr) (eo:dr.bH=.slice e) (he:X.E e=some aO)
 {g c:Nat} (ae:bY F x=.val (.slice (some ⟨g,0,none⟩) n c)) (aC:n*aO.size<=cur.length)
 (aA:bY F y=.val (.slice sa n c')) (ay:news.length=n*aO.size) (az:0<n->∃ ad,sa=some ad/\bq I M ad (n*aO.size) news) (U:gh news=true)
  (pre post:List aD) (aV:M=pre++⟨g,.cells cur.toArray e (0,0)⟩::post)
  (k:K (put o.dst (.val (.int .i64 n)) F) C I (pre++⟨g,.cells (bG cur 0 news).toArray e (0,0)⟩::post)):bk X o F C I M K:=by
 refine⟨λa w Q ⟨β,a5⟩=>?_⟩;have hu:=Ry aR aq eo;obtain⟨inf,z,hi,e3,hA,hB,kg⟩:=(aR _ _ he).inf;have ao:w.heap[g]?=some (.cells cur.toArray e (0,0)):=a5.holds.m ⟨g,.cells cur.toArray e (0,0)⟩ (by rw[aV];simp);have dc:=run_storeCells_at X.P g 0 e news 0 cur.toArray w ao (by rw[ay];simpa using aC) (Ab U);simp only[nT]at dc;have au:(Builtin.firstCells aO.size n (.slice sa n c')).run X.P w=.ok news.toArray w:=by
  by_cases av:0<n
  ·obtain⟨ad,rfl,c4,cs,T,an,eR,ai,ay⟩:=az av;refine run_firstCells_some (P:=X.P) w aO.size n ad n c' news ay λj v aj=>?_;rw[dF _ c4,u' (eR.heap a5.holds)];rw[<-ai,kA]at aj;split at aj
   ·rw[oG]at aj;simpa using aj
   ·cases aj
  ·have ab:n=0:=by omega
   subst ab;have ak:news=[]:=hZ (by rw[ay,xe]);subst ak;cases sa with
   |none=>simp[Builtin.firstCells]| some ad=>exact run_firstCells_some (P:=X.P) w aO.size 0 ad 0 c' [] (by simp) λj v aj=>by simp at aj
 have ex:=dx a5.an ae;have mX:=dx a5.an aA;refine j3 (by rw[aP];simp) (v:=.int .i64 n) (w':=w.setRow g (bG cur 0 news).toArray) ?_ ⟨_,_,_,_,⟨β,cP.put (x:=.val (.int .i64 n)) ?_ al rfl⟩,k⟩
 ·have fm:(Builtin.copy_ #[t,t] o.type #[.slice (some ⟨g,0,none⟩) n c,.slice sa n c']).run X.P w=.ok (.int .i64 n) (w.setRow g (bG cur 0 news).toArray):=by rw[<-e3]at au;simp[Builtin.copy_,run_underlying hu,Builtin.lenOf,sizeOf,typeInfo,hi,au,dc,bG,goInt]
  unfold execOp;simp only[aP,resolve,invoke,builtin,b8,c3,bU,vr,cZ,jj,ex,mX,fm]
 ·exact a5.yi aV
end
section
variable{X:cO}{F:Fr}{C:c8}{I:aT}{M:List aD}{o:Oper}
def abm{G F:Fr}{r:de}(h:df G y=df F y)(aG:bY F y=r):bY G y=r:=by simp only[bY,dH,h];exact aG
def E2.anq{K:de->aT->List aD->Prop}(aR:cX X.P X.E){t:Nat}(aP:o.op=.call { callee:=.builtin .copy,args:=#[x,y],argTypes:=#[t,t] })
 (aq:X.E t=some dr) (eo:dr.bH=.slice e) (he:X.E e=some aO)
 {g off c:Nat} (ae:bY F x=.val (.slice (some ⟨g,off,none⟩) n c)) (uJ:m<=n) (aC:off+m*aO.size<=cur.length)
 (aA:bY F y=.val (.slice sa m c')) (ay:news.length=m*aO.size) (az:0<m->∃ ad,sa=some ad/\bq I M ad (m*aO.size) news) (U:gh news=true)
  (pre post:List aD) (aV:M=pre++⟨g,.cells cur.toArray e (0,0)⟩::post)
  (k:K (.val (.int .i64 m)) I (pre++⟨g,.cells (bG cur off news).toArray e (0,0)⟩::post)):E2 X o F C I M K:=by
 refine⟨fun β a w Q a5=>?_⟩;have hu:=Ry aR aq eo;obtain⟨inf,z,hi,e3,hA,hB,kg⟩:=(aR _ _ he).inf;have ao:w.heap[g]?=some (.cells cur.toArray e (0,0)):=a5.holds.m ⟨g,.cells cur.toArray e (0,0)⟩ (by rw[aV];simp);have dc:=run_storeCells_at X.P g off e news 0 cur.toArray w ao (by rw[ay];simpa using aC) (Ab U);simp only[nT]at dc;have au:(Builtin.firstCells aO.size m (.slice sa m c')).run X.P w=.ok news.toArray w:=by
  by_cases av:0<m
  ·obtain⟨ad,rfl,c4,cs,T,an,eR,ai,ay⟩:=az av;refine run_firstCells_some (P:=X.P) w aO.size m ad m c' news ay λj v aj=>?_;rw[dF _ c4,u' (eR.heap a5.holds)];rw[<-ai,kA]at aj;split at aj
   ·rw[oG]at aj;simpa using aj
   ·cases aj
  ·have ab:m=0:=by omega
   subst ab;have ak:news=[]:=hZ (by rw[ay,xe]);subst ak;cases sa with
   |none=>simp[Builtin.firstCells]| some ad=>exact run_firstCells_some (P:=X.P) w aO.size 0 ad 0 c' [] (by simp) λj v aj=>by simp at aj
 have ex:=dx a5.an ae;have mX:=dx a5.an aA;have MG:Nat.min m n=m:=ss uJ;have anr:Nat.min n m=m:=Nat.min_eq_right uJ;have ans:min m n=m:=ss uJ;have ant:min n m=m:=Nat.min_eq_right uJ;refine j3 (by rw[aP];simp) (v:=.int .i64 m) (w':=w.setRow g (bG cur off news).toArray) ?_ ⟨_,.val (.int .i64 m),I,_,rfl,rfl,?_,k,rfl⟩
 ·have fm:(Builtin.copy_ #[t,t] o.type #[.slice (some ⟨g,off,none⟩) n c,.slice sa m c']).run X.P w=.ok (.int .i64 m) (w.setRow g (bG cur off news).toArray):=by rw[<-e3]at au;simp[Builtin.copy_,run_underlying hu,Builtin.lenOf,sizeOf,typeInfo,hi,au,dc,bG,goInt,MG,anr,ans,ant]
  unfold execOp;simp only[aP,resolve,invoke,builtin,b8,c3,bU,vr,cZ,jj,ex,mX,fm]
 ·exact a5.yi aV
end
def kz(b:Nat)(s:List Bool):aD:=⟨b,.cells (s.map Value.bool).toArray 65 (0,0)⟩
def abn(aV:kz b s∈M){j:Nat}(aj:j<s.length):bq I M ((⟨b,0,none⟩:Addr).add (j*1)) 1 [.bool (s.getD j false)]:=by rw[dF (⟨b,0,none⟩:Addr) rfl,cM,fh];refine⟨rfl,_,_,_,.inr ⟨_,aV,rfl,rfl⟩,?_,rfl⟩;simp only;rw[dv (by simpa using aj),nq,mi,oP,bV,ev aj];rfl
def HK(aV:kz b s∈M)(az:s.length=n):bq I M (⟨b,0,none⟩:Addr) n (s.map Value.bool):=by refine⟨rfl,_,_,_,.inr ⟨_,aV,rfl,rfl⟩,?_,by simpa using az⟩;simp only[qC];exact dX (by simp[az])
def RC{j:Nat}(aj:j<s.length)(v:Bool):(⟨b,.cells (bG (s.map Value.bool) j [.bool v]).toArray 65 (0,0)⟩:aD)=kz b (s.set j v):=by unfold kz;rw[AB s j aj v]
def anu{g c:Nat}{i:Nat}(c5:cur.length=c*3)(c7:n<=c)(dS:c<=maxLen)(eP:cur.take (n*3)=L.flatMap aK.cells)(hlen:L.length=n)(hi:i<n){zs:List Value}(yH:zs.length=3) :
  aY.ok ⟨some g,n-1,c,bG (bG cur (i*3) ((L.drop (i+1)).flatMap aK.cells)) ((n-1)*3) zs⟩ 3 ((L.eraseIdx i).flatMap aK.cells):=by
 have kI:((L.drop (i+1)).flatMap aK.cells).length=(n-(i+1))*3:=by rw[gd _ 3 aK.bI,n3];omega
 have cv:(bG cur (i*3) ((L.drop (i+1)).flatMap aK.cells)).length=cur.length:=by unfold bG;rw[cz,cz,fH,n3,kI];omega
 refine⟨?_,(λh=>by cases h),λdh mb=>?_⟩
 ·rw[gd _ 3 aK.bI,List.length_eraseIdx,cw (by omega)];simp only;omega
 ·cases mb;refine⟨?_,by simp only;omega,dS,?_⟩
  ·simp only;rw[<-c5,<-cv];unfold bG;simp only[cz,fH,n3];rw[cv]at *;omega
  ·simp only;have ab:∀ (l:List Value) (k:Nat) (v:List Value),k<=l.length->(bG l k v).take k=l.take k:=λl k v h=>by unfold bG;rw[fx,CD (by rw[fH];omega),xd,Nat.min_self]
   rw[ab _ _ _ (by rw[cv];omega)];have ak:((L.take i).flatMap aK.cells).length=i*3:=by rw[gd _ 3 aK.bI,rO (by omega)]
   have aL:cur.take (i*3)=(L.take i).flatMap aK.cells:=by
    have:cur.take (i*3)=(cur.take (n*3)).take (i*3):=by rw[xd,ss (by omega)]
    have aF:L.flatMap aK.cells=(L.take i).flatMap aK.cells++(L.drop i).flatMap aK.cells:=by rw[<-jF,rB]
    rw[this,eP,aF,<-ak,CG]
   unfold bG;rw[aL,CD (by rw[cz,ak,kI];omega),dX (by rw[cz,ak,kI];omega),<-jF,List.eraseIdx_eq_take_drop_succ]
def sj(s:List Bool)(L:List aK)(k:Nat):List aK:=L.take k++gq (s.drop k) (L.drop k)
def anv(s:List Bool)(L:List aK)(h:L.length=n):sj s L n=L:=by
 unfold sj;rw[dX (by omega),iK (l:=L) (by omega)];cases s.drop n<;>simp[gq]
def anw(s:List Bool)(L:List aK):sj s L 0=gq s L:=rfl
def anx(s:List Bool)(L:List aK){j:Nat}(ar:j<s.length)(aj:j<L.length):sj s L j=if s.getD j false then sj s L (j+1)else(sj s L (j+1)).eraseIdx j:=by
 have aF:s.drop j=s[j]::s.drop (j+1):=dv ar;have a7:L.drop j=L[j]::L.drop (j+1):=dv aj;have bC:L.take (j+1)=L.take j++[L[j]]:=er aj;have di:s.getD j false=s[j]:=by rw[bV,ev ar];rfl
 have ay:(L.take j).length=j:=by rw[fH];omega
 have hE:∀ (A K:List aK) (x:aK),A.length=j->(A++x::K).eraseIdx j=A++K:=λA K x h=>by rw[List.eraseIdx_append_of_length_le (by omega),h,pZ];rfl
 have kx:L.take (j+1)++gq (s.drop (j+1)) (L.drop (j+1))=L.take j++L[j]::gq (s.drop (j+1)) (L.drop (j+1)):=by rw[bC,fx];rfl
 unfold sj;rw[kx,hE _ _ _ ay,aF,a7,gq,di];cases s[j]with
 |true=>rfl| false=>rfl
def anz(s:List Bool)(L:List aK){k:Nat}(af:k<=L.length):k<=(sj s L k).length:=by unfold sj;rw[cz,fH];omega
def anA(s:List Bool)(L:List aK)(k:Nat):(sj s L k).length<=L.length:=by unfold sj;have:=(wQ (s.drop k) (L.drop k)).length_le;rw[cz,fH];rw[n3]at this;omega
def anB(ao:g.ok I):Spec Tryz.prog 44 [g.val] I M0 λv I' M'=>I'=I/\∃ (os:aY) (L:List aK) (M1:List aD),v=.agg #[os.val]/\os.n=g.n/\os.ok 3 (L.flatMap aK.cells)/\M'=os.aw 48++(M1++M0)/\L.map aK.a1=g.ds.map aK.a1/\∀ d∈L,zY M1 d:=by refine Spec.iM (Spec.frame (ank ao)) ?_;rintro v J M⟨M',rfl,-,-,rfl,os,L,M1,rfl,U,ab,rfl,ak,aL⟩;exact⟨rfl,os,L,M1,rfl,U,ab,by rw[fx],ak,aL⟩
structure anC(s:List Bool)(L:List aK)(n:Nat)(x:Nat×aY):Prop where
 k:x.1<=n
 ok:x.2.ok 3 ((sj s L x.1).flatMap aK.cells)
set_option maxRecDepth 100000 in
def abo(ao:g.ok I)(ar:s.length=64)(az:g.n<=64):Spec Tryz.prog 28 [g.val,.agg (s.map Value.bool).toArray] I [] λv I' M'=>I'=I/\∃ h:bP,v=h.val/\si M' h/\h.a1=(pj (gq (s.take g.n) g.ds)).a1:=by
 refine bn [3] aI Tryz.func28 rfl rfl rfl ?_;intro B av;have cK:=ao.n;have gk:=ao.aJ.cap;refine bL.mk λb ah jJ=>?_;refine aU.whole _ (anB (M0:=[kz b s]) ao) ?_;rintro v J N -⟨bg,os0,L,M1,rfl,hV,pX,cH,dJ,e0⟩;subst J;subst N;have abf:L.length=g.ds.length:=by simpa using congrArg List.length dJ
 refine aQ.mk ((g.n:Int)-1) (by rw[hV];exact ku rfl (by omega)) ?_;refine bu.inv (ι:=Nat×aY) (λx=>{ a4:=[(3,.val (.pointer (some ⟨b,0,none⟩))),(4,.ref 4 0),(5,.ref 5 0),(6,.val (.int .i64 ((x.1:Int)-1)))],cl:=[(4,[.slice none 0 0]),(5,[x.2.val])],br:=I,bO:=x.2.aw 48++(M1++[kz b s]) }) (λx=>anC s L g.n x) (λx=>x.1) ?_ ?_
 ·exact⟨(g.n,os0),⟨b2 _,by rw[anv s L (by omega)];exact pX⟩,.refl,cI,.cons rfl (.cons rfl (.nil))⟩
 rintro⟨k,os⟩⟨af,bf⟩;simp only at af bf;refine aB.mk (λh=>?_) (λh=>?_)
 rotate_left
 ·have gT:k=0:=by have:¬ (0:Int)<=(k:Int)-1:=cR h;omega
  subst gT;rw[anw]at bf;have bj:=(wQ s L).length_le;have hlen:=bf.len;rw[gd _ 3 aK.bI]at hlen;refine⟨_,_,.refl,rfl,⟨gq s L,os.a.map λg=>⟨g,0,none⟩,os.n,os.c⟩,rfl,⟨(qj.RA bf (by omega)).mono λx ae=>gM _ ae,λd al=>(e0 d ((wQ s L).subset al)).mono λx ae=>ly _ (gM _ ae)⟩,?_⟩;have aF:gq s g.ds=gq (s.take g.n) g.ds:=by
   have:∀ (s:List Bool) (l:List aK),gq s l=gq (s.take l.length) l:=by
    intro s
    induction s with
    |nil=>intro l;simp
    |cons c s a8=>intro l;cases l with
     |nil=>rfl| cons x l=>simp only[cS,nq,gq,a8 l]
   rw[this s g.ds,cK]
  have a7:(gq s L).map aK.a1=(gq (s.take g.n) g.ds).map aK.a1:=by rw[<-z0,dJ,z0,aF]
  have bC:=congrArg List.length a7;rw[cT,cT]at bC;unfold bP.a1 pj;simp only;rw[a7,<-bC];congr 1;omega
 obtain⟨j,rfl⟩:∃ j,k=j+1:=⟨k-1,by have:(0:Int)<=(k:Int)-1:=cq h;omega⟩;have aj:j<g.n:=af;have abp:j<s.length:=by omega
 have abq:((j+1:Nat):Int)-1=(j:Int):=by omega
 have nw:=anx s L abp (show j<L.length by omega);refine eb.mk j abq (by omega) ?_;refine aE.mk _ (abn (b:=b) (s:=s) (by simp) abp) ?_;refine aB.mk (λaC=>?_) (λaC=>?_)
 ·have aC:s.getD j false=true:=aC;rw[cw aC]at nw;refine aQ.mk ((j:Int)-1) (ku (by omega) (by omega)) ?_;exact⟨(j,os),⟨⟨by simp only;omega,by simp only;rw[nw];exact bf⟩,by simp only;omega⟩,.refl,cI,.cons rfl (.cons rfl (.nil))⟩
 have aC:s.getD j false=false:=aC;rw[cB (by rw[aC];simp)]at nw;have nt:=anz s L (k:=j+1) (by omega);have anD:=anA s L (j+1);generalize sj s L (j+1)=ri at bf nw nt anD;have hlen:=bf.len;rw[gd _ 3 aK.bI]at hlen;obtain⟨a,n,c,cur⟩:=os;cases a with
 |none=>have:=(bf.nil rfl).1;simp only at this hlen;omega| some q=>
 obtain⟨c5,c7,dS,eP⟩:=bf.cap q rfl;simp only at c5 c7 dS eP hlen;have hlen:ri.length=n:=by omega
 have ms:j<n:=by omega
 have yM:(⟨q,.cells cur.toArray 48 (0,0)⟩:aD)∈((⟨some q,n,c,cur⟩:aY).aw 48++(M1++[kz b s])):=.head _;have kI:((ri.drop (j+1)).flatMap aK.cells).length=(n-(j+1))*3:=by rw[gd _ 3 aK.bI,n3];omega
 refine cr.draw aI rfl rfl rfl ?_;refine jv.mk j n (by exact abq) rfl (by omega) (b2 _) ?_;refine aQ.mk ((j+1:Nat):Int) (ku (by omega) (by omega)) ?_;refine jv.mk (j+1) n rfl rfl (by omega) (b2 _) ?_;have anE:¬ c=j:=by omega
 have anF:(Value.slice (if c=j then some ⟨q,0,none⟩else(some (⟨q,0,none⟩:Addr)).map (·.add (j*3))) (n-j) (c-j))=.slice (some ⟨q,j*3,none⟩) (n-j) (c-j):=by rw[cB anE,mK,dF (⟨q,0,none⟩:Addr) rfl,cM]
 have anG:(Value.slice (if c=j+1 then some ⟨q,0,none⟩else(some (⟨q,0,none⟩:Addr)).map (·.add ((j+1)*3))) (n-(j+1)) (c-(j+1)))=.slice (some ⟨q,if c=j+1 then 0 else(j+1)*3,none⟩) (n-(j+1)) (c-(j+1)):=by
  by_cases aC:c=j+1;·rw[cw aC,cw aC]
  ·rw[cB aC,cB aC,mK,dF (⟨q,0,none⟩:Addr) rfl,cM]
 intro G oK;refine E2.anq aI rfl (e:=48) rfl rfl rfl (g:=q) (off:=j*3) (n:=n-j) (c:=c-j) (m:=n-(j+1)) (cur:=cur) (abm (oK _ (by simp[Op.operands,Call.operands])) (congrArg de.val anF)) (by omega) (by rw[c5];show j*3+(n-(j+1))*3<=c*3;omega) (abm (oK _ (by simp[Op.operands,Call.operands])) (congrArg de.val anG)) (news:=(ri.drop (j+1)).flatMap aK.cells) kI ?_ (Em aK.one _) [] (M1++[kz b s]) rfl ?_
 ·intro g2;refine⟨_,rfl,rfl,cur.toArray,48,(0,0),.inr ⟨_,yM,rfl,rfl⟩,?_,kI⟩;rw[cB (by omega),ana _ 3 aK.bI,<-eP,Ar];congr 1;show(n-(j+1))*3=n*3-(j+1)*3;omega
 refine aQ.mk ((n-1:Nat):Int) (ku (by omega) (by omega)) ?_;refine aW.mk ⟨q,0,none⟩ (n-1) rfl rfl (show n-1<n by omega) ?_;have cv:(bG cur (j*3) ((ri.drop (j+1)).flatMap aK.cells)).length=cur.length:=by unfold bG;rw[cz,cz,fH,n3,kI];omega
 refine cu.mk [] (M1++[kz b s]) (bG cur (j*3) ((ri.drop (j+1)).flatMap aK.cells)).toArray 48 ?_ ?_ ?_ rfl ?_
 ·rw[dF (⟨q,0,none⟩:Addr) rfl]
 ·rw[dF (⟨q,0,none⟩:Addr) rfl]
 ·rw[dF (⟨q,0,none⟩:Addr) rfl];show 0+(n-1)*3+3<=(bG cur (j*3) ((ri.drop (j+1)).flatMap aK.cells)).toArray.size;rw[jZ,cv,c5];omega
 rw[dF (⟨q,0,none⟩:Addr) rfl];refine jv.mk 0 (n-1) rfl rfl (bQ _) (show n-1<=c by omega) ?_;refine aQ.mk ((j:Int)-1) (ku (by omega) (by omega)) ?_;refine⟨(j,⟨some q,n-1,c,_⟩),⟨⟨by simp only;omega,?_⟩,by simp only;omega⟩,.refl,cI,.cons rfl (.cons rfl (.nil))⟩;simp only;rw[nw,cM];exact anu (g:=q) c5 c7 dS eP hlen ms (zs:=[.string ⟨#[]⟩,.slice none 0 0,.int .i64 0]) rfl
def ju:Option Int->e1
 |none=>⟨0,0,0,none,0,0,[],0⟩| some r=>⟨7,1,r,none,0,0,[],0⟩
def RD(bA:fr I deb)(ao:g.ok I)(gW:∀ d∈g.ds,nc d.t):Spec Tryz.prog 17 [g.val] I M0 λv I' M'=>(∀ b o,I b=some o->I' b=some o)/\M'=M0/\∃ r:Int×Int,v=.int .i64 r.2/\oz deb g r:=by refine Spec.iM (Spec.frame (amo bA ao gW)) ?_;rintro v J M⟨M',rfl,-,U,-,rfl,r,rfl,ab⟩;exact⟨U,rfl,r,rfl,ab⟩
def abr(bA:fr I deb)(ao:g.ok I)(az:g.n<=1099511627776):Spec Tryz.prog 25 [g.val] I M0 λv I' M'=>(∀ b o,I b=some o->I' b=some o)/\M'=M0/\v=.tuple #[(ju (kt deb g).head?).val,.bool (kt deb g).head?.isSome]:=by
 refine bn [] aI Tryz.func25 rfl rfl rfl ?_;intro B av;refine aU.mk [] M0 _ (.refl _) (afm bA ao az) ?_;rintro v bR N -⟨bK,x,rfl,ae,e8,rfl⟩;have fU:=ae.n;cases ay:kt deb g with
 |nil=>
  rw[ay]at e8;rw[e8]at fU;refine aB.mk (λ_=>?_) (λh=>?_);·exact⟨_,_,.refl,bK,rfl,rfl⟩
  ·have h:¬ (x.n:Int)=0:=cR h;simp only[dI]at fU;omega
 |cons u l=>
  rw[ay]at e8;refine aB.mk (λh=>?_) (λ_=>?_);·have h:(x.n:Int)=0:=cq h;rw[e8]at fU;simp only[cS]at fU;omega
  ·have j7:0<x.n:=by rw[<-fU,e8];simp
   have anH:0<x.l.length:=by rw[e8];simp
   obtain⟨ad,ba,a3⟩:=ae.aJ.one j7 anH;have e:x.l[0]=u:=by simp[e8]
   rw[e]at a3;refine aW.mk ad 0 ba rfl j7 ?_;refine aE.mk _ (a3 _) ?_;exact⟨_,_,.refl,bK,rfl,rfl⟩
def uX(deb:List Int)(g:bP)(o:Option Int):Prop:=∃ r,oz deb g r/\o=if r.2=0 then(kt deb g).head? else none
def uX.eq{o p:Option Int}(h:uX deb g o)(aG:uX deb g p):o=p:=by obtain⟨r,U,rfl⟩:=h;obtain⟨tE,ab,rfl⟩:=aG;rw[U.eq ab]
def abt(bA:fr I deb)(ao:g.ok I)(az:g.n<=1099511627776)(gW:∀ d∈g.ds,nc d.t):Spec Tryz.prog 9 [g.val] I M0 λv I' M'=>(∀ b o,I b=some o->I' b=some o)/\M'=M0/\∃ o,uX deb g o/\v=.tuple #[(ju o).val,.bool o.isSome]:=by
 refine bn [] aI Tryz.func9 rfl rfl rfl ?_;intro B av;refine aU.whole _ (RD bA ao gW) ?_;rintro v bR N -⟨bK,cH,r,rfl,ag⟩;subst N;by_cases h:r.2=0
 ·refine aB.mk (λaG=>absurd aG (by simp[h])) (λ_=>?_);refine aU.whole _ (abr (bA.mono bK) (ao.mono bK) az) ?_;rintro v dG N -⟨ed,cH,rfl⟩;subst N;exact⟨_,_,.refl,λb o h=>ed _ _ (bK _ _ h),rfl,_,⟨r,ag,(cw h).symm⟩,rfl⟩
 ·refine aB.mk (λ_=>?_) (λaG=>absurd aG (by simp[h]));exact⟨_,_,.refl,bK,rfl,none,⟨r,ag,(cB h).symm⟩,rfl⟩
def jc:Option Int->List e1
 |none=>[]| some r=>[ju (some r)]
def abu(bA:fr I deb)(ao:g.ok I)(az:g.n<=1099511627776)(gW:∀ d∈g.ds,nc d.t):Spec Tryz.prog 8 [g.val] I M0 λv I' M'=>(∀ b o,I b=some o->I' b=some o)/\∃ (o:Option Int) (os:aY),uX deb g o/\os.ok 5 ((jc o).flatMap e1.cells)/\v=os.val/\M'=os.aw 27++M0:=by
 refine bn [] aI Tryz.func8 rfl rfl rfl ?_;intro B av;refine aU.whole _ (abt bA ao az gW) ?_;rintro v bR N -⟨bK,cH,o,aP,rfl⟩;subst N;cases o with
 |none=>refine aB.mk (λ_=>?_) (λh=>by cases h);exact⟨_,_,.refl,bK,none,fs,aP,fT 5,rfl,rfl⟩| some r=>refine aB.mk (λh=>by cases h) (λ_=>?_);refine bL.mk λb ah jJ=>?_;exact⟨_,_,.refl,bK,some r,⟨some b,1,1,(ju (some r)).cells⟩,aP,⟨rfl,(λh=>by cases h),λg h=>⟨rfl,b2 _,(show(1:Nat)<=maxLen by decide),rfl⟩⟩,rfl,rfl⟩
def wR(s:e1)(o:Option Int):Bool:=o.isSome&&(decide (s.p=7)&&(decide (s.w=1)&&(decide (s.r=o.getD 0)&&(decide (s.pn=0)&&decide (s.at_=0)))))
def sk(deb:List Int)(g:bP)(s:e1)(r:Int×List aK):Prop:=∃ x,oz deb g x/\r=if x.2=0 then(if wR s (kt deb g).head? then(0,gq (hq (ei g) 0) g.ds)else(47,[]))else(x.2,[])
def sk.eq{s:e1}{o p:Int×List aK}(h:sk deb g s o)(aG:sk deb g s p):o=p:=by obtain⟨r,U,rfl⟩:=h;obtain⟨tE,ab,rfl⟩:=aG;rw[U.eq ab]
def RE(M:List aD):si M ⟨[],none,0,0⟩:=⟨⟨rfl,⟨b2 _,by decide⟩,.inl rfl⟩,λd al=>by cases al⟩
def anI{l:List Int}{k:Nat}(af:k<l.length)(a2:l[k]=(z:Int))(h9:z<64):(ey (l.take k)).set z true=ey (l.take (k+1)):=by
 refine RB (by rw[m1,hb,hb]) λi hi=>?_;rw[m1,hb]at hi;rw[ye hi,er af,bV,iz];by_cases e:z=i
 ·subst e;rw[cw rfl,cw (by rw[hb];exact hi)];simp[a2]
 ·rw[cB e,<-bV,ye hi,vK];constructor
  ·intro h;exact gM _ h
  ·intro h;rcases dm.1 h with h | h
   ·exact h
   ·rw[fb,a2]at h;omega
def Lt(az:g.ds.length=g.n){i:Int}:∀ k∈hr deb g i,∃ z:Nat,k=(z:Int)/\z<g.n:=λk af=>by
 unfold hr at af;cases aC:lh i g.n&&decide (cn deb g=0)with
 |false=>rw[aC]at af;cases af
 |true=>
  rw[aC,bt]at af;simp only[b']at aC;have c1:=aC.1;unfold lh at c1;simp at c1;have ay:(ei g).length=g.n:=by simp[ei,az]
  have:=UU (wh:=true) (s:=hq (ei g) i.toNat) k af;rw[C6 (xz az) (by omega),ay]at this;exact⟨k.toNat,by omega,by omega⟩
set_option maxRecDepth 100000 in
def RF(bA:fr I deb)(ao:g.ok I)(gW:∀ d∈g.ds,nc d.t)(s:e1):Spec Tryz.prog 12 [g.val,s.val] I [] λv I' M'=>(∀ b o,I b=some o->I' b=some o)/\∃ (r:Int×List aK) (h:bP),sk deb g s r/\v=.tuple #[h.val,.int .i64 r.1]/\si M' h/\h.a1=(pj r.2).a1:=by
 refine bn [9] aI Tryz.func12 rfl rfl rfl ?_;intro B av;have cK:=ao.n;refine aU.whole _ (RD bA ao gW) ?_;rintro v bR N -⟨bK,cH,x,rfl,ae⟩;subst N;by_cases h:x.2=0
 rotate_left
 ·refine aB.mk (λ_=>?_) (λaG=>absurd aG (by simp[h]));exact⟨_,_,.refl,bK,(x.2,[]),⟨[],none,0,0⟩,⟨x,ae,(cB h).symm⟩,rfl,RE _,rfl⟩
 refine aB.mk (λaG=>absurd aG (by simp[h])) (λ_=>?_);have hm:cn deb g=0:=by
  rcases ae with⟨a,e⟩ | ⟨a,-⟩;·rw[e]at h;exact h
  ·exact a
 have h9:=BZ hm;refine aU.whole _ (abr (bA.mono bK) (ao.mono bK) (by omega)) ?_;rintro v dG N -⟨ed,cH,rfl⟩;subst N;have nj:∀ b o,I b=some o->dG b=some o:=λb o h=>ed _ _ (bK _ _ h);have cm:wR s (kt deb g).head?=false->∃ (r:Int×List aK) (h:bP),sk deb g s r/\Value.tuple #[(⟨[],none,0,0⟩:bP).val,.int .i64 47]=.tuple #[h.val,.int .i64 r.1]/\si [] h/\h.a1=(pj r.2).a1:=λaL=>
  ⟨(47,[]),⟨[],none,0,0⟩,⟨x,ae,by rw[cw h,cB (by rw[aL];simp)]⟩,rfl,RE _,rfl⟩
 cases aP:(kt deb g).head? with
 |none=>rw[aP]at cm;refine a9.mk (λh=>by cases h) (λ_=>?_);exact⟨_,_,.refl,nj,cm rfl⟩| some u=>
 rw[aP]at cm;have cm:¬ (s.p=7/\s.w=1/\s.r=u/\s.pn=0/\s.at_=0)->_:=λaL=>cm (by
  cases ah:wR s (some u)with
  |false=>rfl
  |true=>
   refine absurd ?_ aL;simpa[wR]using ah)
 obtain⟨ek,Ep,zj,Lu,Lv,Lw,abv,sat⟩:=s;simp only at cm;refine a9.mk (λ_=>?_) (λh=>by cases h);by_cases a6:ek=7
 rotate_left
 ·refine a9.mk (λaG=>absurd aG (by simp[ju,a6])) (λ_=>?_);exact⟨_,_,.refl,nj,cm λh=>a6 h.1⟩
 subst a6;refine a9.mk (λ_=>?_) (λaG=>absurd aG (by simp[ju]));by_cases bb:Ep=1
 rotate_left
 ·refine a9.mk (λaG=>absurd aG (by simp[ju,bb])) (λ_=>?_);exact⟨_,_,.refl,nj,cm λh=>bb h.2.1⟩
 subst bb;refine a9.mk (λ_=>?_) (λaG=>absurd aG (by simp[ju]));by_cases b0:zj=u
 rotate_left
 ·refine a9.mk (λaG=>absurd aG (by simp[ju,b0])) (λ_=>?_);exact⟨_,_,.refl,nj,cm λh=>b0 h.2.2.1⟩
 subst b0;refine a9.mk (λ_=>?_) (λaG=>absurd aG (by simp[ju]));by_cases fy:Lv=0
 rotate_left
 ·refine a9.mk (λaG=>absurd aG (by simp[ju,fy])) (λ_=>?_);exact⟨_,_,.refl,nj,cm λh=>fy h.2.2.2.1⟩
 subst fy;refine a9.mk (λ_=>?_) (λaG=>absurd aG (by simp[ju]));by_cases kL:sat=0
 rotate_left
 ·refine aB.mk (λ_=>?_) (λaG=>absurd aG (by simp[ju,kL]));exact⟨_,_,.refl,nj,cm λh=>kL h.2.2.2.2⟩
 subst kL;refine aB.mk (λaG=>absurd aG (by simp[ju])) (λ_=>?_);clear cm;refine bL.mk λb ah jJ=>?_;have kO:=bA.mono nj;have lM:=ao.mono nj;refine aU.mk [] [kz b (List.replicate 64 false)] _ (.refl _) (afl kO lM (by omega) 0) ?_;rintro v gJ N -⟨iC,y,rfl,aA,k9,rfl⟩;have sd:=aA.n;have anJ:=aA.aJ.cap;have HL:=Lt (deb:=deb) cK (i:=0);rw[<-k9]at HL;refine bu.inv (ι:=Nat) (λk=>{ a4:=[(2,.ref 2 0),(4,.ref 4 0),(9,.val (.pointer (some ⟨b,0,none⟩))),(59,.val y.val),(60,.val (.int .i64 y.n)),(61,.val (.int .i64 k))],cl:=[(2,[.slice g.a g.n g.c]),(4,[.slice none 0 0])],br:=gJ,bO:=[kz b (ey (y.l.take k))] }) (λk=>k<=y.n) (λk=>y.n-k) ?_ ?_
 ·exact⟨0,bQ _,.refl,jD,.cons rfl (.cons rfl (.nil))⟩
 intro k af;refine aB.mk (λaG=>?_) (λaG=>?_)
 ·have ax:k<y.n:=by have:(k:Int)<(y.n:Int):=cq aG;omega
  have bj:k<y.l.length:=by omega
  obtain⟨ad,ba,a3⟩:=aA.aJ.one ax bj;obtain⟨z,a2,qt⟩:=HL _ (bJ bj);have fN:=anI bj a2 (by omega);rw[a2]at a3;refine aW.mk ad k ba rfl ax ?_;refine aE.mk _ (a3 _) ?_;refine eb.mk z rfl (by omega) ?_;refine cu.add [] [] _ 65 rfl (by show 0+z*1+1<=((ey _).map Value.bool).toArray.size;rw[jZ,cT,hb];omega) rfl ?_;refine aQ.mk _ (bl (i:=k) (by omega)) ?_;refine⟨k+1,⟨ax,by omega⟩,.lW ?_,jD,.cons rfl (.cons rfl (.nil))⟩;rw[<-fN,<-RC (by rw[hb];omega),cM,fh];rfl
 ·have bS:k=y.n:=by have:¬ (k:Int)<(y.n:Int):=cR aG;omega
  subst bS;rw[dX (by omega)];refine aE.mk _ (HK (b:=b) (s:=ey y.l) (.head _) (hb _)) ?_;refine aU.mk [] [kz b (ey y.l)] _ (.refl _) (abo (lM.mono iC) (hb _) (by omega)) ?_;rintro v qF N -⟨RG,aG,rfl,cj,RH⟩;subst qF;refine⟨_,_,.sub (CQ _ _) .refl,λb o h=>iC _ _ (nj _ _ h),(0,gq (hq (ei g) 0) g.ds),aG,⟨x,ae,?_⟩,rfl,cj,?_⟩;·rw[cw h,aP,cw (by simp[wR])]
  ·have oK:y.l=fJ true 0 (hq (ei g) 0):=by
    rw[k9];unfold hr;have g2:=HB hm;have:lh 0 g.n=true:=by unfold lh;simp;omega
    rw[this,eD hm];rfl
   have im:(hq (ei g) 0).length=g.n:=by
    have g2:=HB hm;have ay:(ei g).length=g.n:=by simp[ei,cK]
    rw[C6 (xz cK) (by omega),ay]
   rw[RH,oK];have:=abl (s:=hq (ei g) 0) (by omega);rw[im]at this;rw[this]
def abw{F:Nat->ap->ap->Option Bool}{E:Env}{e:Nat}{aO:dW}(he:E e=some aO)(ar:aO.size=1)(aX:aO.bH.agg=false)(bs:∀ a b,F e (.b a) (.b b)=some (a == b)):∀ (l m:List Bool) (r9 uD:List ap),l.length=m.length->r9.length=uD.length -> xR F E (r9++l.map ap.b) (uD++m.map ap.b) ((List.range' r9.length l.length).map λi=>(e,i*aO.size))=some (decide (l=m))
 |[],[],r9,uD,_,_=>rfl| [],_::_,_,_,h,_=>by simp at h
 |_::_,[],_,_,h,_=>by simp at h
 |a::l,b::m,r9,uD,h,aN=>by
  have a8:=abw he ar aX bs l m (r9++[ap.b a]) (uD++[ap.b b]) (by simpa using h) (by simpa using aN);rw[cz,On,fx,fx,Db,Db]at a8;rw[cS,H5,cZ,cZ,cZ,xR,Kz he ar aX,uC,aN,Kz he ar aX,uC,<-aN];rw[bs,uC,jS];by_cases aF:a=b;·subst aF;simp only[Ck,nU];rw[a8];simp
  ·have:(a == b)=false:=by simpa using aF
   simp[this,aF]
def anK{p q:List Bool}(aN:p.length=64)(a0:q.length=64){V:Value->Prop}(h:V (.bool (!decide (p=q)))) :
  cx Tryz.prog .neq 65 x y (.val (.agg (p.map Value.bool).toArray)) (.val (.agg (q.map Value.bool).toArray)) V other:=by
 have ai:∀ l:List Bool,bD (λ_=>none) (l.map ap.b) (l.map Value.bool):=λl=>by
  induction l with
  |nil=>exact .nil| cons a l a8=>exact .cons (by simp only[aS]) a8
 refine Pk (X:=⟨Tryz.prog,lH,[],0,0,default,λ_=>none,[],none⟩) (D:=λ_=>none) (v:=.b (!decide (p=q))) aI ?_ (ai p) (ai q) (λu hu=>by simp only[aS]at hu;rw[hu];exact h);show Bl Tryz.prog lH .neq 65 _ _=_;obtain⟨i1,U,eu⟩:∃ i,lH 65=some i/\i.bH=.array 64 4:=⟨_,rfl,rfl⟩;obtain⟨i2,ab,iR,GU⟩:∃ i,lH 4=some i/\i.bH=.bool/\i.size=1:=⟨_,rfl,rfl,rfl⟩;have bs:∀ a b,r6 Tryz.prog lH 7 4 (.b a) (.b b)=some (a == b):=λa b=>by simp only[r6,ab,uC,iR]
 have af:=abw (F:=r6 Tryz.prog lH 7) ab GU (by rw[iR];rfl) bs p q [] [] (by omega) rfl;unfold Bl;rw[r6];simp only[U,uC,eu,ab];rw[hO,hO,dI,aN]at af;rw[z4,af,show Tryz.prog.eqGuardType Tryz.prog.depth 65=false by kernel_rfl];rfl
def jd(n:Nat)(k:Int):Bool:=decide (0<=k)&&decide (k<(n:Int))
def g0(deb:List Int)(g:bP)(l:List Int):Bool:=decide (cn deb g=0)&&(decide (l≠[])&&(l.all (jd g.n)&&(decide l.Nodup&&l.all λi=>(g9 deb g i).all λj=>decide (j∈l))))
def nk(deb:List Int)(g:bP)(l:List Int):List aK:=if g0 deb g l then gq ((ey l).take g.n) g.ds else []
def abx{l:List Int}(h9:z<64):(ey l).set z true=ey (l++[(z:Int)]):=by
 refine RB (by rw[m1,hb,hb]) λi hi=>?_;rw[m1,hb]at hi;rw[ye hi,bV,iz];by_cases e:z=i
 ·subst e;rw[cw rfl,cw (by rw[hb];exact hi)];simp
 ·rw[cB e,<-bV,ye hi,vK];constructor
  ·intro h;exact gM _ h
  ·intro h;rcases dm.1 h with h | h
   ·exact h
   ·rw[fb]at h;omega
def anL{l m:List Int}(ay:∀ k∈l,jd 64 k=true)(hm:∀ k∈m,jd 64 k=true):ey l=ey m ↔ ∀ k,k∈l ↔ k∈m:=by
 constructor
 ·intro h k;have:∀ l m:List Int,(∀ k∈l,jd 64 k=true)->ey l=ey m->k∈l->k∈m:=λl m ay h af=>by have U:=ay k af;unfold jd at U;simp only[b',fk]at U;have ab:=ye (l:=l) (i:=k.toNat) (by omega);rw[h,ye (by omega),vK,show((k.toNat:Nat):Int)=k by omega]at ab;exact ab.2 af
  exact⟨this l m ay h,this m l hm h.symm⟩
 ·intro h;unfold ey;refine rC λi _=>?_;rw[vK];exact h _
def RI(az:g.ds.length=g.n){i:Int}:∀ k∈g9 deb g i,jd g.n k=true:=λk af=>by
 unfold g9 at af;cases aC:lh i g.n&&decide (cn deb g=0)with
 |false=>rw[aC]at af;cases af
 |true=>
  rw[aC,bt]at af;have ay:(ei g).length=g.n:=by simp[ei,az]
  have:=abi (xz az) af;unfold jd;simp;omega
def aby(h:n<=m){k:Int}(af:jd n k=true):jd m k=true:=by unfold jd at af |-;simp at af |-;omega
set_option maxRecDepth 100000 in
def anM(bA:fr I deb)(ao:g.ok I){x:il}(ae:qQ I x)(mD:x.n<=1000000):Spec Tryz.prog 34 [g.val,x.val] I [] λv I' M'=>(∀ b o,I b=some o->I' b=some o)/\∃ h:bP,v=.tuple #[h.val,.bool (g0 deb g x.l)]/\si M' h/\h.a1=(pj (nk deb g x.l)).a1:=by
 refine bn [6,9] aI Tryz.func34 rfl rfl rfl ?_;intro B av;have cK:=ao.n;have fU:x.l.length=x.n:=by simpa using ae.aJ.len
 refine aU.mk [] [] _ (.refl _) (Jf bA ao) ?_;rintro v bR N -⟨rfl,bK,rfl⟩;have cm:∀ {M:List aD},g0 deb g x.l=false->∃ h:bP,Value.tuple #[(⟨[],none,0,0⟩:bP).val,.bool false]=.tuple #[h.val,.bool (g0 deb g x.l)]/\si M h/\h.a1=(pj (nk deb g x.l)).a1:=λh=>
  ⟨⟨[],none,0,0⟩,by rw[h],RE _,by rw[nk,h];rfl⟩
 by_cases hm:cn deb g=0
 rotate_left
 ·refine a9.mk (λaG=>absurd aG (by simp[hm])) (λ_=>?_);exact⟨_,_,.refl,bK,cm (by rw[g0,dk hm];rfl)⟩
 refine a9.mk (λ_=>?_) (λaG=>absurd aG (by simp[hm]));by_cases fv:x.n=0
 ·refine aB.mk (λ_=>?_) (λaG=>absurd aG (by simp[fv]));have:x.l=[]:=hZ (by omega);exact⟨_,_,.refl,bK,cm (by rw[g0,this];simp)⟩
 refine aB.mk (λaG=>absurd aG (by simp[fv])) (λ_=>?_);have h9:=BZ hm;have m4:=bA.mono bK;have k':=ao.mono bK;have te:=ae.mono bK;refine bL.mk λb ah jJ=>?_;refine bu.inv (ι:=Nat) (λk=>{ a4:=[(1,.val x.val),(2,.ref 2 0),(4,.ref 4 0),(6,.val (.pointer (some ⟨b,0,none⟩))),(23,.val x.val),(24,.val (.int .i64 x.n)),(25,.val (.int .i64 k))],cl:=[(2,[.slice g.a g.n g.c]),(4,[.slice none 0 0])],br:=bR,bO:=[kz b (ey (x.l.take k))] }) (λk=>k<=x.n/\(x.l.take k).all (jd g.n)=true/\(x.l.take k).Nodup) (λk=>x.n-k) ?_ ?_
 ·exact⟨0,⟨bQ _,rfl,.nil⟩,.refl,np,.cons rfl (.cons rfl (.nil))⟩
 rintro k⟨af,c1,bW⟩;refine aB.mk (λaG=>?_) (λaG=>?_)
 ·have ax:k<x.n:=by have:(k:Int)<(x.n:Int):=cq aG;omega
  have bj:k<x.l.length:=by omega
  obtain⟨ad,ba,a3⟩:=te.aJ.one ax bj;have j8:=er bj;have e2:=bJ bj;have kl:∀ y,y∈x.l.take (k+1)->y∈x.l:=λy aA=>Ft aA;have anN:x.l.Nodup->(x.l.take (k+1)).Nodup:=λh=>h.sublist (List.take_sublist _ _);generalize x.l[k]=z at a3 j8 e2;refine aW.mk ad k ba rfl ax ?_;refine aE.mk _ (a3 _) ?_;have nC:jd g.n z=false->g0 deb g x.l=false:=λh=>by
   cases aC:g0 deb g x.l with
   |false=>rfl| true=>simp only[g0,b']at aC;have:=et.1 aC.2.2.1 z e2;rw[h]at this;cases this
  by_cases Er:z<0;·refine a9.mk (λaG=>absurd aG (by simp[Er])) (λ_=>?_);exact⟨_,_,.sub (cW _) .refl,bK,cm (nC (by unfold jd;simp;omega))⟩
  refine a9.mk (λ_=>?_) (λaG=>absurd aG (by simp[Er]));by_cases qt:(g.n:Int)<=z;·refine a9.mk (λaG=>absurd aG (by simp[qt])) (λ_=>?_);exact⟨_,_,.sub (cW _) .refl,bK,cm (nC (by unfold jd;simp;omega))⟩
  refine a9.mk (λ_=>?_) (λaG=>absurd aG (by simp[qt]));obtain⟨y,rfl⟩:=en (show 0<=z by omega);refine eb.mk y rfl (by omega) ?_;refine aE.mk _ (abn (b:=b) (s:=ey (x.l.take k)) (.head _) (by rw[hb];omega)) ?_;have Cw:=ye (l:=x.l.take k) (i:=y) (by omega);refine aB.mk (λaG=>?_) (λaG=>?_)
  ·have aG:(ey (x.l.take k)).getD y false=true:=aG;rw[Cw]at aG;have aG:=cq aG;refine⟨_,_,.sub (cW _) .refl,bK,cm ?_⟩;cases aC:g0 deb g x.l with
   |false=>rfl| true=>simp only[g0,b',fk]at aC;have:=anN aC.2.2.2.1;rw[j8,u6]at this;exact absurd rfl (this.2.2 _ aG _ (.head _))
  ·have aG:(ey (x.l.take k)).getD y false=false:=aG;rw[Cw]at aG;have aG:=cR aG;refine eb.mk y rfl (by omega) ?_;refine cu.add [] [] _ 65 rfl (by show 0+y*1+1<=((ey _).map Value.bool).toArray.size;rw[jZ,cT,hb];omega) rfl ?_;refine aQ.mk _ (bl (i:=k) (by omega)) ?_;refine⟨k+1,⟨⟨ax,?_,?_⟩,by omega⟩,.lW ?_,np,.cons rfl (.cons rfl (.nil))⟩
   ·rw[j8,Fv,c1];simp[jd];omega
   ·rw[j8,u6];refine⟨bW,by simp,λa aX c aC=>?_⟩;rw[fb.1 aC];rintro rfl;exact aG aX
   ·rw[j8,<-abx (by omega),<-RC (by rw[hb];omega),cM,fh];rfl
 have bS:k=x.n:=by have:¬ (k:Int)<(x.n:Int):=cR aG;omega
 subst bS;rw[dX (by omega)]at c1 bW |-;have c1:=et.1 c1;refine aE.mk _ (HK (b:=b) (s:=ey x.l) (.head _) (hb _)) ?_;refine bL.mk λcc hc anO=>?_;have ma:gh ((ey x.l).map Value.bool).toArray.toList=true:=et.2 λv ai=>by rw[Cj]at ai;obtain⟨c,-,rfl⟩:=dB.1 ai;rfl
 refine cu.mk [] [kz b (ey x.l)] _ 65 rfl rfl (by show 0+((ey x.l).map Value.bool).toArray.toList.length<=64;rw[Cj,cT,hb];decide) ma ?_;refine bu.inv (ι:=Nat×aT) (λy=>{ a4:=[(2,.ref 2 0),(4,.ref 4 0),(6,.val (.pointer (some ⟨b,0,none⟩))),(9,.val (.pointer (some ⟨cc,0,none⟩))),(48,.val x.val),(49,.val (.int .i64 x.n)),(50,.val (.int .i64 y.1))],cl:=[(2,[.slice g.a g.n g.c]),(4,[.slice none 0 0])],br:=y.2,bO:=[kz cc (ey (x.l++(x.l.take y.1).flatMap (g9 deb g))),kz b (ey x.l)] }) (λy=>y.1<=x.n/\∀ b o,bR b=some o->y.2 b=some o) (λy=>x.n-y.1) ?_ ?_
 ·refine⟨(0,bR),⟨bQ _,λ_ _ h=>h⟩,.lW ?_,np,.cons rfl (.cons rfl (.nil))⟩;have c4:bG (List.replicate 64 (Value.bool false)) 0 ((ey x.l).map Value.bool)=(ey x.l).map Value.bool:=by unfold bG;rw[mi,hO,iK (by simp[hb]),db]
  simp only[mi,CV,db];show [(⟨cc,.cells (bG (List.replicate 64 (Value.bool false)) 0 ((ey x.l).map Value.bool)).toArray 65 (0,0)⟩:aD),kz b (ey x.l)]=_;rw[c4];rfl
 rintro⟨k,J⟩⟨af,bg⟩;simp only at af bg;have x9:=m4.mono bg;have k1:=k'.mono bg;refine aB.mk (λaG=>?_) (λaG=>?_)
 ·have ax:k<x.n:=by have:(k:Int)<(x.n:Int):=cq aG;omega
  have bj:k<x.l.length:=by omega
  obtain⟨ad,ba,a3⟩:=(te.mono bg).aJ.one ax bj;have j8:=er bj;generalize x.l[k]=z at a3 j8;refine aW.mk ad k ba rfl ax ?_;refine aE.mk _ (a3 _) ?_;refine aU.mk [] [kz cc (ey (x.l++(x.l.take k).flatMap (g9 deb g))),kz b (ey x.l)] _ (.refl _) (afk x9 k1 (by omega) z) ?_;rintro v iu N -⟨jt,y,rfl,aA,k9,rfl⟩;have sd:=aA.n;have anJ:=aA.aJ.cap;have HL:=RI (deb:=deb) cK (i:=z);rw[<-k9]at HL;refine bu.inv (ι:=Nat) (λm=>{ a4:=[(2,.ref 2 0),(4,.ref 4 0),(6,.val (.pointer (some ⟨b,0,none⟩))),(9,.val (.pointer (some ⟨cc,0,none⟩))),(48,.val x.val),(49,.val (.int .i64 x.n)),(50,.val (.int .i64 k)),(56,.val y.val),(57,.val (.int .i64 y.n)),(58,.val (.int .i64 m))],cl:=[(2,[.slice g.a g.n g.c]),(4,[.slice none 0 0])],br:=iu,bO:=[kz cc (ey (x.l++((x.l.take k).flatMap (g9 deb g)++y.l.take m))),kz b (ey x.l)] }) (λm=>m<=y.n) (λm=>y.n-m) ?_ ?_;·refine⟨0,bQ _,.lW ?_,Cy,.cons rfl (.cons rfl (.nil))⟩;simp only[mi,db];rfl
  intro m AE;refine aB.mk (λaG=>?_) (λaG=>?_)
  ·have Es:m<y.n:=by have:(m:Int)<(y.n:Int):=cq aG;omega
   have gz:m<y.l.length:=by omega
   obtain⟨hU,oC,jW⟩:=aA.aJ.one Es gz;have xf:=er gz;have Lx:=HL _ (bJ gz);generalize y.l[m]=w at jW xf Lx;unfold jd at Lx;simp only[b',fk]at Lx;obtain⟨u,rfl⟩:=en Lx.1;refine aW.mk hU m oC rfl Es ?_;refine aE.mk _ (jW _) ?_;refine eb.mk u rfl (by omega) ?_;refine cu.add [] [kz b (ey x.l)] _ 65 rfl (by show 0+u*1+1<=((ey _).map Value.bool).toArray.size;rw[jZ,cT,hb];omega) rfl ?_;refine aQ.mk _ (bl (i:=m) (by omega)) ?_;refine⟨m+1,⟨Es,by omega⟩,.lW ?_,Cy,.cons rfl (.cons rfl (.nil))⟩;have e:ey (x.l++((x.l.take k).flatMap (g9 deb g)++(y.l.take m++[(u:Int)])))=(ey (x.l++((x.l.take k).flatMap (g9 deb g)++y.l.take m))).set u true:=by rw[abx (by omega)];congr 1;simp
   rw[xf];rw[e,<-RC (by rw[hb];omega),cM,fh];rfl
  ·have bS:m=y.n:=by have:¬ (m:Int)<(y.n:Int):=cR aG;omega
   subst bS;refine aQ.mk _ (bl (i:=k) (by omega)) ?_;refine⟨(k+1,iu),⟨⟨ax,λc o h=>jt _ _ (bg _ _ h)⟩,by simp only;omega⟩,.lW ?_,np,.cons rfl (.cons rfl (.nil))⟩;simp only;rw[j8,jF,dX (l:=y.l) (by omega),k9];simp
 have bS:k=x.n:=by have:¬ (k:Int)<(x.n:Int):=cR aG;omega
 subst bS;rw[dX (by omega)];refine aE.mk _ (HK (b:=cc) (s:=ey (x.l++x.l.flatMap (g9 deb g))) (.head _) (hb _)) ?_;refine aE.mk _ (HK (b:=b) (s:=ey x.l) (.tail _ (.head _)) (hb _)) ?_;refine anK (hb _) (hb _) ?_;have abz:∀ y∈x.l,jd 64 y=true:=λy aA=>aby h9 (c1 y aA);have anP:∀ y∈x.l++x.l.flatMap (g9 deb g),jd 64 y=true:=λy aA=>by
  rcases dm.1 aA with aA | aA;·exact abz y aA
  ·obtain⟨z,-,a2⟩:=ud.1 aA;exact aby h9 (RI cK y a2)
 have anQ:ey (x.l++x.l.flatMap (g9 deb g))=ey x.l ↔ (x.l.all λi=>(g9 deb g i).all λj=>decide (j∈x.l))=true:=by
  rw[anL anP abz];simp only[et,fk];constructor;·intro h i hi j aj;exact(h j).1 (ly _ (ud.2 ⟨i,hi,aj⟩))
  ·intro h y;constructor
   ·intro aA;rcases dm.1 aA with aA | aA
    ·exact aA
    ·obtain⟨z,a2,GU⟩:=ud.1 aA;exact h z a2 y GU
   ·intro aA;exact gM _ aA
 have Hj:x.l≠[]:=λe=>fv (by rw[<-fU,e];rfl);have oN:g0 deb g x.l=decide (ey (x.l++x.l.flatMap (g9 deb g))=ey x.l):=by rw[g0,eD hm,eD Hj,et.2 c1,eD bW];simp only[kj];rw[l7,<-anQ,decide_eq_true_iff]
 by_cases he:ey (x.l++x.l.flatMap (g9 deb g))=ey x.l
 rotate_left
 ·refine aB.mk (λ_=>?_) (λaG=>absurd aG (by simp[he]));exact⟨_,_,.sub (cW _) .refl,λc o h=>bg _ _ (bK _ _ h),cm (by rw[oN,dk he])⟩
 refine aB.mk (λaG=>absurd aG (by simp[he])) (λ_=>?_);refine aE.mk _ (HK (b:=b) (s:=ey x.l) (.tail _ (.head _)) (hb _)) ?_;refine aU.mk [] [kz cc (ey (x.l++x.l.flatMap (g9 deb g))),kz b (ey x.l)] _ (.refl _) (abo k1 (hb _) (by omega)) ?_;rintro v iu N -⟨jt,aG,rfl,cj,RH⟩;subst iu;refine⟨_,_,.sub (CQ _ _) .refl,λc o h=>bg _ _ (bK _ _ h),aG,?_,cj,?_⟩
 ·rw[oN,eD he];rfl
 ·rw[RH,nk,oN,eD he,cw rfl]
end Go.V
