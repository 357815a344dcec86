/- Part 10 of what the proofs of this seat share: the executor, data in memory, walks.
-/
import Derived.Test.YtmncamccjfmbpaaGreatDoorK7
import Derived.Test.YtmncamccjfmbpaaGreatDoorK9
set_option linter.all false
set_option maxHeartbeats 16000000
set_option maxRecDepth 100000
namespace Go.V
open Go Go.Proofs
def Nt:=@Nat.zero_lt_one
variable{α:Type}{k:IntKind}{I:aI}{M0:List aD}{a bM:Option Addr}{n fT c c' b aen u:Nat}{l dL aw:List Int}{s:List UInt8}{t g:cx}{cs:List h3}{cL e:Int}{F:List aU}
def asL{l m:List α}{k:Nat}(ay:k<l.length)(hm:k<m.length)(h:l.take k=m.take k)(e:l[k]=m[k]):l.take (k+1)=m.take (k+1):=by rw[fZ ay,fZ hm,h,e]
def asM{l m:List α}{k:Nat}(ay:k<l.length)(hm:k<m.length)(e:¬ l[k]=m[k]):¬ l=m:=λh=>by subst h;exact e rfl
def asN{iI:Nat}(h:c3 I a n c 1 b (l.map (.int .i64 ·)))(bd:c3 I bM fT c' 1 iI (dL.map (.int .i64 ·)))(ag:n<=140737488355327):Spec Tryz.prog 136 [.slice a n c,.slice bM fT c'] I M0 λv I' M'=>v=.bool (decide (l=dL))/\I'=I/\M'=M0:=by
 refine bZ [] a5 Tryz.func136 rfl rfl rfl ?_;intro B az;have ay:l.length=n:=by simpa using h.len
 have ou:dL.length=fT:=by simpa using bd.len
 by_cases aB:n=fT
 rotate_left
 ·refine aZ.mk (λ_=>?_) (λh=>absurd h (by simp;omega));exact⟨_,_,.refl,by rw[eB λe=>aB (by rw[<-ay,<-ou,e])],rfl,rfl⟩
 subst aB;refine aZ.mk (λh=>absurd h (by simp)) (λ_=>?_);refine de.inv (ι:=Nat) (λk=>{ bj:=[(0,.val (.slice a n c)),(1,.val (.slice bM n c')),(12,.val (.int .i64 n)),(13,.val (.int .i64 k))],cI:=I,c1:=M0 }) (λk=>k<=n/\l.take k=dL.take k) (λk=>n-k) ?_ ?_
 ·exact⟨0,⟨dz _,rfl⟩,.refl,eE,.nil⟩
 rintro k⟨ae,av⟩;refine aZ.mk (λab=>?_) (λab=>?_)
 ·have aV:k<n:=by have:(k:Int)<(n:Int):=dh ab;omega
  have cy:k<l.length:=by omega
  have mj:k<dL.length:=by omega
  obtain⟨aS,bH,bl⟩:=h.one aV cy;obtain⟨y2,CA,o7⟩:=bd.one aV mj;have hex:=asL cy mj av;have bn:=asM cy mj;generalize l[k]=x at bl hex bn;generalize dL[k]=y at o7 hex bn;refine cY.draw a5 rfl rfl rfl ?_;refine bf.mk aS k bH rfl aV ?_;refine aO.mk _ (bl _) ?_;refine bf.mk y2 k CA rfl aV ?_;refine aO.mk _ (o7 _) ?_;by_cases e:x=y;·refine aZ.mk (λh=>absurd h (by simp[e])) (λ_=>?_);refine bg.mk _ (cK (i:=k) (by omega)) ?_;exact⟨k+1,⟨⟨aV,hex e⟩,by omega⟩,.refl,eE,.nil⟩
  ·refine aZ.mk (λ_=>?_) (λh=>absurd h (by simp[e]));exact⟨_,_,.refl,by rw[eB (bn e)],rfl,rfl⟩
 ·have cA:k=n:=by have:¬ (k:Int)<(n:Int):=dO ab;omega
  subst cA;rw[ft (by omega),ft (by omega)]at av;exact⟨_,_,.refl,by rw[fu av],rfl,rfl⟩
def t'(x y:an):Bool:=decide (x.k=y.k)&&((decide (x.cz=y.cz)&&(decide (x.s1=y.s1)&&(decide (x.s2=y.s2)&&decide (x.cZ=y.cZ))))&&(decide (x.t=y.t)&&(decide (x.lo=y.lo)&&(decide (x.hi=y.hi)&&decide (x.ax=y.ax)))))
def aeo(x y:an):t' x y=true ↔ x.k=y.k/\(x.cz=y.cz/\x.s1=y.s1/\x.s2=y.s2/\x.cZ=y.cZ)/\x.t=y.t/\x.lo=y.lo/\x.hi=y.hi/\x.ax=y.ax:=by simp only[t',cB,hR]
def asO{x y:an}(ad:x.ok I)(aE:y.ok I):Spec Tryz.prog 82 [x.val,y.val] I M0 λv I' M'=>v=.bool (t' x y)/\I'=I/\M'=M0:=by
 refine bZ [] a5 Tryz.func82 rfl rfl rfl ?_;intro B az;have asP:x.aL<=x.dq/\x.aL*8<=140737488355328:=ad.a0.cap;have mB:=ad.a0;have aep:=aE.a0;obtain⟨k,cz,s1,s2,cZ,t,lo,hi,dy,aL,dq,ax⟩:=x;obtain⟨eZ,Nu,Nv,Nw,Nx,bm,z1,cX,aeq,aer,aes,T8⟩:=y;simp only at mB aep asP;have no:∀ {P:Prop},(P->¬ (k=eZ/\((cz=Nu/\s1=Nv/\s2=Nw/\cZ=Nx)/\t=bm/\lo=z1/\hi=cX/\ax=T8)))->P->Value.bool false=.bool (t' ⟨k,cz,s1,s2,cZ,t,lo,hi,dy,aL,dq,ax⟩ ⟨eZ,Nu,Nv,Nw,Nx,bm,z1,cX,aeq,aer,aes,T8⟩):=λh p=>by
  cases ag:t' ⟨k,cz,s1,s2,cZ,t,lo,hi,dy,aL,dq,ax⟩ ⟨eZ,Nu,Nv,Nw,Nx,bm,z1,cX,aeq,aer,aes,T8⟩with
  |false=>rfl| true=>exact absurd ((aeo _ _).1 ag) (h p)
 by_cases a8:k=eZ
 rotate_left
 ·refine cq.mk (λbd=>absurd bd (by simp[a8])) (λ_=>?_);exact⟨_,_,.refl,no (λh ab=>h ab.1) a8,rfl,rfl⟩
 refine cq.mk (λ_=>?_) (λbd=>absurd bd (by simp[a8]));refine gn.Oo a5 (e:=62) rfl rfl rfl rfl (by kernel_rfl) ?_;by_cases ba:cz=Nu/\s1=Nv/\s2=Nw/\cZ=Nx
 rotate_left
 ·refine cq.mk (λbd=>absurd bd (by simpa using ba)) (λ_=>?_);exact⟨_,_,.refl,no (λh ab=>h ab.2.1) ba,rfl,rfl⟩
 refine cq.mk (λ_=>?_) (λbd=>absurd bd (by simp[ba]));by_cases bP:t=bm
 rotate_left
 ·refine cq.mk (λbd=>absurd bd (by simp[bP])) (λ_=>?_);exact⟨_,_,.refl,no (λh ab=>h ab.2.2.1) bP,rfl,rfl⟩
 refine cq.mk (λ_=>?_) (λbd=>absurd bd (by simp[bP]));by_cases fr:lo=z1
 rotate_left
 ·refine cq.mk (λbd=>absurd bd (by simp[fr])) (λ_=>?_);exact⟨_,_,.refl,no (λh ab=>h ab.2.2.2.1) fr,rfl,rfl⟩
 refine cq.mk (λ_=>?_) (λbd=>absurd bd (by simp[fr]));by_cases lk:hi=cX
 rotate_left
 ·refine cq.mk (λbd=>absurd bd (by simp[lk])) (λ_=>?_);exact⟨_,_,.refl,no (λh ab=>h ab.2.2.2.2.1) lk,rfl,rfl⟩
 refine cq.mk (λ_=>?_) (λbd=>absurd bd (by simp[lk]));refine bc.whole _ (asN mB aep (show aL<=_ by omega)) ?_;rintro v J N -⟨rfl,bk,iD⟩;subst J;subst N;refine⟨_,_,.refl,?_,rfl,rfl⟩;obtain⟨dG,eI,eG,iA⟩:=ba;congr 1;rw[r6,aeo,RY];exact⟨λh=>⟨a8,⟨dG,eI,eG,iA⟩,bP,fr,lk,h⟩,λh=>h.2.2.2.2.2⟩
def kL{α:Type}(q:α->α->Bool):List α->List α->Bool
 |[],[]=>true| a::l,b::m=>q a b&&kL q l m| _,_=>false
def aet:∀ l m:List an,kL t' (l.map an.a4) (m.map an.a4)=kL t' l m
 |[],[]=>rfl| [],_::_=>rfl| _::_,[]=>rfl| a::l,b::m=>by rw[cb,cb,kL,kL,aet l m];rfl
def T9{α:Type}(q:α->α->Bool):∀ l m:List α,l.length≠m.length->kL q l m=false
 |[],[],h=>absurd rfl h| [],_::_,_=>rfl| _::_,[],_=>rfl| a::l,b::m,h=>by rw[kL,T9 q l m (by simpa using h),DM]
def asQ{s t:bR}(ar:s.ok I)(av:t.ok I):Spec Tryz.prog 80 [.slice s.a s.n s.c,.slice t.a t.n t.c,.func (.func 82) #[] #[]] I M0 λv I' M'=>v=.bool (kL t' s.ns t.ns)/\I'=I/\M'=M0:=by
 refine bZ [] a5 Tryz.func80 rfl rfl rfl ?_;intro B az;have iN:=ar.n;have ic:=av.n;have ju:=ar.a0.cap;by_cases aB:s.n=t.n
 rotate_left
 ·refine aZ.mk (λ_=>?_) (λh=>absurd h (by simp;omega));exact⟨_,_,.refl,by rw[T9 _ _ _ (by omega)],rfl,rfl⟩
 refine aZ.mk (λh=>absurd h (by simp[aB])) (λ_=>?_);refine de.inv (ι:=Nat) (λk=>{ bj:=[(1,.val (.slice t.a t.n t.c)),(2,.val (.func (.func 82) #[] #[])),(15,.val (.slice s.a s.n s.c)),(16,.val (.int .i64 s.n)),(17,.val (.int .i64 k))],cI:=I,c1:=M0 }) (λk=>k<=s.n/\kL t' s.ns t.ns=kL t' (s.ns.drop k) (t.ns.drop k)) (λk=>s.n-k) ?_ ?_
 ·exact⟨0,⟨dz _,rfl⟩,.refl,gf,.nil⟩
 rintro k⟨ae,he⟩;refine aZ.mk (λab=>?_) (λab=>?_)
 ·have aV:k<s.n:=by have:(k:Int)<(s.n:Int):=dh ab;omega
  have cy:k<s.ns.length:=by omega
  have mj:k<t.ns.length:=by omega
  obtain⟨aS,bH,bl⟩:=ar.a0.row an.cS aV cy;obtain⟨y2,CA,o7⟩:=av.a0.row an.cS (show k<t.n by omega) mj;have ad:=ar.ns _ (bx cy);have aE:=av.ns _ (bx mj);rw[eR cy,eR mj,kL]at he;generalize s.ns[k]=x at bl ad he;generalize t.ns[k]=y at o7 aE he;refine bf.mk aS k bH rfl aV ?_;refine aO.mk _ (bl _) ?_;refine bf.mk y2 k CA rfl (by omega) ?_;refine aO.mk _ (o7 _) ?_;refine bc.whole _ (asO ad aE) ?_;rintro v J N -⟨rfl,bk,iD⟩;subst J;subst N;cases e:t' x y with
  |true=>refine aZ.mk (λh=>absurd h (by simp)) (λ_=>?_);refine bg.mk _ (cK (i:=k) (by omega)) ?_;exact⟨k+1,⟨⟨aV,by rw[he,e,nW]⟩,by omega⟩,.refl,gf,.nil⟩| false=>refine aZ.mk (λ_=>?_) (λh=>absurd h (by simp));exact⟨_,_,.refl,by rw[he,e,xA],rfl,rfl⟩
 ·have cA:k=s.n:=by have:¬ (k:Int)<(s.n:Int):=dO ab;omega
  subst cA;rw[u0 (by omega),u0 (by omega)]at he;exact⟨_,_,.refl,by rw[he];rfl,rfl,rfl⟩
def vy(a b:bR):Bool:=decide (a.n=b.n)&&(right a&&(right b&&kL t' (rI a.ns a.bA) (rI b.ns b.bA)))
def asR(bs:fQ I aw){a b:bR}(a2:a.ok I)(ag:b.ok I)(aB:a.n<=1099511627776):Spec Tryz.prog 33 [a.val,b.val] I M0 λv I' M'=>v=.bool (vy a b)/\(∀ c o,I c=some o->I' c=some o)/\M'=M0:=by
 refine bZ [] a5 Tryz.func33 rfl rfl rfl ?_;intro B az;have j8:=a2.n;have Df:=ag.n;by_cases aa:a.n=b.n
 rotate_left
 ·refine cq.mk (λbd=>absurd bd (by simp;omega)) (λ_=>?_);exact⟨_,_,.refl,by rw[vy,eB aa,xA],λ_ _ h=>h,rfl⟩
 refine cq.mk (λ_=>?_) (λbd=>absurd bd (by simp[aa]));refine bc.mk [] M0 _ (.refl _) (qm bs.c a2) ?_;rintro v J N -⟨rfl,bk,rfl⟩;subst J;cases ab:right a with
 |false=>refine cq.mk (λbd=>absurd bd (by simp)) (λ_=>?_);exact⟨_,_,.refl,by rw[vy,ab,xA,DM],λ_ _ h=>h,rfl⟩| true=>
 refine cq.mk (λ_=>?_) (λbd=>absurd bd (by simp));refine bc.mk [] M0 _ (.refl _) (qm bs.c ag) ?_;rintro v J N -⟨rfl,bk,rfl⟩;subst J;cases ak:right b with
 |false=>refine aZ.mk (λ_=>?_) (λbd=>absurd bd (by simp));exact⟨_,_,.refl,by rw[vy,ak,xA,DM,DM],λ_ _ h=>h,rfl⟩| true=>
 refine aZ.mk (λbd=>absurd bd (by simp)) (λ_=>?_);obtain⟨asS,avW⟩:=qo ab;obtain⟨asT,avX⟩:=qo ak;obtain⟨sV,asU⟩:=eA asS;obtain⟨rb,m9⟩:=eA asT;have aeu:=SN (M0:=M0) a2 ab aB (node:=sV) (by omega);rw[<-asU]at aeu;refine cY.draw a5 rfl rfl rfl ?_;refine eL.whole _ aeu (λv I' M' h x ad=>by rw[h.2.1];exact ad) ?_;rintro v J N -⟨bk,iD,nZ,rfl,wO,asV⟩;subst N;have sY:=SN (M0:=M0) (ag.mono bk) ak (by omega) (node:=rb) (by omega);rw[<-m9]at sY;refine eL.whole _ sY (λv I' M' h x ad=>by rw[h.2.1];exact ad) ?_;rintro v dn N -⟨dV,iD,ahy,rfl,BH,asW⟩;subst N;refine bc.whole _ (asQ (wO.mono dV) BH) ?_;rintro v o8 N -⟨rfl,kf,iD⟩;subst o8;subst N;refine⟨_,_,.refl,?_,λc o h=>dV _ _ (bk _ _ h),rfl⟩;rw[vy,fu aa,ab,ak,<-asV.a4,<-asW.a4,aet];rfl
def qZ(d e:aQ):Bool:=decide (d.name=e.name)&&vy d.t e.t
def ua(g h:cx):Bool:=kL qZ g.ds h.ds
def asX(a b:bR):vy a.a4 b.a4=vy a b:=by unfold vy;rw[xW,xW];have aG:rI a.a4.ns a.a4.bA=rI a.ns a.bA:=XV a.ns a.bA;have a7:rI b.a4.ns b.a4.bA=rI b.ns b.bA:=XV b.ns b.bA;rw[aG,a7];rfl
def aev(g h:cx):ua g.a4 h.a4=ua g h:=by
 unfold ua;show kL qZ (g.ds.map aQ.a4) (h.ds.map aQ.a4)=_;have:∀ l m:List aQ,kL qZ (l.map aQ.a4) (m.map aQ.a4)=kL qZ l m:=by
  intro l
  induction l with
  |nil=>intro m;cases m<;>rfl
  |cons a l aN=>
   intro m;cases m with
   |nil=>rfl| cons b m=>rw[cb,cb,kL,kL,aN];congr 1;unfold qZ;have aG:vy a.a4.t b.a4.t=vy a.t b.t:=asX a.t b.t;rw[aG];rfl
 exact this _ _
def asY(bs:fQ I aw){d e:aQ}(aj:d.ok I)(he:e.ok I)(aB:d.t.n<=1099511627776):Spec Tryz.prog 151 [.agg d.cells.toArray,.agg e.cells.toArray] I M0 λv I' M'=>v=.bool (qZ d e)/\(∀ c o,I c=some o->I' c=some o)/\M'=M0:=by
 refine bZ [] a5 Tryz.func151 rfl rfl rfl ?_;intro B az;obtain⟨nm,t⟩:=d;obtain⟨asZ,bm⟩:=e;by_cases h:nm=asZ
 ·refine cq.mk (λ_=>?_) (λbd=>absurd bd (by simp[h]));refine bc.whole _ (asR bs aj.t he.t aB) ?_;rintro v J N -⟨rfl,bk,iD⟩;subst N;exact⟨_,_,.refl,by rw[qZ,fu h,nW],bk,rfl⟩
 ·refine cq.mk (λbd=>absurd bd (by simp[h])) (λ_=>?_);exact⟨_,_,.refl,by rw[qZ,eB h,xA],λ_ _ h=>h,rfl⟩
def as0(bs:fQ I aw){s:cx}(ar:s.ok I)(av:t.ok I)(ag:∀ d∈s.ds,d.t.n<=1099511627776):Spec Tryz.prog 150 [.slice s.a s.n s.c,.slice t.a t.n t.c,.func (.func 151) #[] #[]] I M0 λv I' M'=>v=.bool (ua s t)/\(∀ c o,I c=some o->I' c=some o)/\M'=M0:=by
 refine bZ [] a5 Tryz.func150 rfl rfl rfl ?_;intro B az;have iN:=ar.n;have ic:=av.n;have ju:=ar.a0.cap;unfold ua;by_cases aB:s.n=t.n
 rotate_left
 ·refine aZ.mk (λ_=>?_) (λh=>absurd h (by simp;omega));exact⟨_,_,.refl,by rw[T9 _ _ _ (by omega)],λ_ _ h=>h,rfl⟩
 refine aZ.mk (λh=>absurd h (by simp[aB])) (λ_=>?_);refine de.inv (ι:=Nat×aI) (λx=>{ bj:=[(1,.val (.slice t.a t.n t.c)),(2,.val (.func (.func 151) #[] #[])),(15,.val (.slice s.a s.n s.c)),(16,.val (.int .i64 s.n)),(17,.val (.int .i64 x.1))],cI:=x.2,c1:=M0 }) (λx=>x.1<=s.n/\kL qZ s.ds t.ds=kL qZ (s.ds.drop x.1) (t.ds.drop x.1)/\∀ c o,I c=some o->x.2 c=some o) (λx=>s.n-x.1) ?_ ?_
 ·exact⟨(0,I),⟨dz _,rfl,λ_ _ h=>h⟩,.refl,gf,.nil⟩
 rintro⟨k,J⟩⟨ae,he,bk⟩;simp only at ae he bk;refine aZ.mk (λab=>?_) (λab=>?_)
 ·have aV:k<s.n:=by have:(k:Int)<(s.n:Int):=dh ab;omega
  have cy:k<s.ds.length:=by omega
  have mj:k<t.ds.length:=by omega
  obtain⟨aS,bH,bl⟩:=(ar.mono bk).a0.row aQ.cS aV cy;obtain⟨y2,CA,o7⟩:=(av.mono bk).a0.row aQ.cS (show k<t.n by omega) mj;have ad:=(ar.mono bk).ds _ (bx cy);have aE:=(av.mono bk).ds _ (bx mj);have q9:=ag _ (bx cy);rw[eR cy,eR mj,kL]at he;generalize s.ds[k]=x at bl ad he q9;generalize t.ds[k]=y at o7 aE he;refine bf.mk aS k bH rfl aV ?_;refine aO.mk _ (bl _) ?_;refine bf.mk y2 k CA rfl (by omega) ?_;refine aO.mk _ (o7 _) ?_;refine bc.whole _ (asY (bs.mono bk) ad aE q9) ?_;rintro v dn N -⟨rfl,dV,iD⟩;subst N;cases e:qZ x y with
  |true=>refine aZ.mk (λh=>absurd h (by simp)) (λ_=>?_);refine bg.mk _ (cK (i:=k) (by omega)) ?_;exact⟨(k+1,dn),⟨⟨aV,by simp only;rw[he,e,nW],λc o h=>dV _ _ (bk _ _ h)⟩,by simp only;omega⟩,.refl,gf,.nil⟩| false=>refine aZ.mk (λ_=>?_) (λh=>absurd h (by simp));exact⟨_,_,.refl,by rw[he,e,xA],λc o h=>dV _ _ (bk _ _ h),rfl⟩
 ·have cA:k=s.n:=by have:¬ (k:Int)<(s.n:Int):=dO ab;omega
  subst cA;rw[u0 (by omega),u0 (by omega)]at he;exact⟨_,_,.refl,by rw[he];rfl,bk,rfl⟩
def as1(bs:fQ I aw){s:cx}(ar:s.ok I)(av:t.ok I)(ag:∀ d∈s.ds,d.t.n<=1099511627776):Spec Tryz.prog 96 [s.val,t.val] I M0 λv I' M'=>v=.bool (ua s t)/\(∀ c o,I c=some o->I' c=some o)/\M'=M0:=by refine bZ [] a5 Tryz.func96 rfl rfl rfl ?_;intro B az;refine bc.whole _ (as0 bs ar av ag) ?_;rintro v J N -⟨rfl,bk,iD⟩;subst N;exact⟨_,_,.refl,rfl,bk,rfl⟩
def aew{α:Type}(f:α->Nat)(m:Nat):∀ (l:List α),(∀ x∈l,f x<=m)->(l.map f).sum<=m*l.length
 |[],_=>by simp
 |a::l,h=>by have aa:=aew f m l λx ad=>h x (.tail _ ad);have ab:=h a (.head _);rw[cb,jK,dx,Nat.mul_succ];omega
def as2(bs:fQ I aw)(au:g.ok I)(ar:Mi g):yE aw I g:=by
 have aa:=ar.n;have ab:∀ d∈g.ds,d.t.n<400:=λd aj=>(ar.ds d aj).t.n;have ak:=aew (λd:aQ=>d.t.ns.length) 400 g.ds λd aj=>by have:=(au.ds d aj).t.n;have:=ab d aj;omega
 have aJ:=au.n;refine⟨bs,au,λd aj=>by have:=ab d aj;omega,by omega,?_,λd aj n aB=>?_⟩
 ·have:400*g.ds.length<=400*400:=Nat.mul_le_mul_left _ (by omega);omega
 ·have:=((ar.ds d aj).t.ns n aB).aL;omega
def aex(hm:dm aw g=0):(∀ d∈g.ds,d.t.n<=1024)/\(g.ds.map λd=>d.t.n).sum<=1024:=by
 obtain⟨aa,ab,ak,aJ,bB⟩:=E6.1 hm;unfold oN at ak;simp only[sq,sb]at ak;have b5:uU g<=1024:=by omega
 have e:uU g=(g.ds.map λd=>d.t.n).sum:=by unfold uU;congr 1;refine gM λd aj=>?_;unfold sA;rw[nR hm aj];rfl
 rw[e]at b5;refine⟨λd aj=>?_,b5⟩;have:=abP (l:=g.ds.map λd=>d.t.n) (x:=d.t.n) (cC.2 ⟨d,aj,rfl⟩);omega
def T'(bs:fQ I aw)(au:g.ok I)(hm:dm aw g=0):yE aw I g:=by obtain⟨aa,ab⟩:=aex hm;have lF:=Sq hm;have e:(g.ds.map λd=>d.t.ns.length)=g.ds.map λd=>d.t.n:=gM λd aj=>(au.ds d aj).t.n;refine⟨bs,au,λd aj=>by have:=aa d aj;omega,by omega,by rw[e];omega,λd aj=>adZ (au.ds d aj).t (nR hm aj) (by have:=aa d aj;omega)⟩
def aey(t:bR):cw t.a4=cw t:=acr t.ns t.bA
def aez:∀ (ds:List aQ) (i:Nat),fI i (ds.map aQ.a4)=fI i ds
 |[],_=>rfl| d::ds,i=>by rw[cb,fI,fI,aez ds (i+1)];show(cw d.t.a4).paths.map _++_=_;rw[aey]
def as3(nm:ByteArray)(ds:List aQ):ct nm (ds.map aQ.a4) 0=ct nm ds 0:=M2 _ _ _ _ (by rw[gO];rfl)
def as4(aw:List Int)(g:cx)(i:Int):k1 aw g.a4 i=k1 aw g i:=by unfold k1;rw[zJ,asK];rfl
def Ua(ds:List aQ)(u:Nat):cw ((ds.map aQ.a4).getD u gv).t=cw (ds.getD u gv).t:=by
 rw[bz,bz,iG];cases ds[u]? with
 |none=>rfl| some d=>exact aey d.t
def as5(aw:List Int)(g:cx)(nm:ByteArray):pi aw g.a4 nm=pi aw g nm:=by unfold pi;show(if ct nm (g.ds.map aQ.a4) 0<0\/k1 aw g.a4 (ct nm (g.ds.map aQ.a4) 0)=true then none else some (ct nm (g.ds.map aQ.a4) 0).toNat)=_;rw[as3,as4]
def aeA(aw:List Int)(g:cx)(u:Nat)(p:List Int):nf aw g.a4 u p=nf aw g u p:=by
 unfold nf nd;show((cw ((g.ds.map aQ.a4).getD u gv).t).go p).bind _=_;rw[Ua];congr 1;funext S;rw[as5];split
 ·congr 1;funext q;show((cw ((g.ds.map aQ.a4).getD u gv).t).put p (cw ((g.ds.map aQ.a4).getD q gv).t)).jF=_;rw[Ua,Ua]
 ·rfl
def aeB:(aQ.a4 ∘ aQ.a4)=aQ.a4:=by funext d;show aQ.mk d.name (d.t.a4.a4)=⟨d.name,d.t.a4⟩;congr 1;show bR.mk ((d.t.ns.map an.a4).map an.a4) _ _ _ _=⟨d.t.ns.map an.a4,_,_,_,_⟩;rw[gO];rfl
def aeC(ds:List aQ)(u:Nat)(y:bR):(eS (ds.map aQ.a4) u y).map aQ.a4=(eS ds u y).map aQ.a4:=by
 unfold eS;rw[sd,sd,gO];have e:=aeB;rw[e];by_cases h:u<ds.length
 ·have:((ds.map aQ.a4).getD u gv).name=(ds.getD u gv).name:=by simp[bz,h,aQ.a4]
  rw[this]
 ·rw[List.set_eq_of_length_le (by rw[bF];omega),List.set_eq_of_length_le (by rw[bF];omega)]
def as6(aw:List Int)(g:cx)(u:Nat)(X:a1):tW aw g.a4 u X=tW aw g u X:=by unfold tW;congr 2;rw[<-zJ,<-zJ aw (nN (eS g.ds u (my X.post)))];congr 1;unfold cx.a4 nN;simp only[aeC,yA,bF]
def aeD(aw:List Int)(g:cx)(x:Nat×List Int):ho aw g.a4 x=ho aw g x:=by
 unfold ho;rw[aeA];cases nf aw g x.1 x.2 with
 |none=>rfl| some X=>exact as6 aw g x.1 X
def as7(aw:List Int)(g:cx):kK aw g.a4=kK aw g:=by unfold kK;show(fI 0 (g.ds.map aQ.a4)).filter _=_;rw[aez];congr 1;funext x;exact aeD aw g x
def Ny(bs:fQ I eJ)(yC:wN aen 71 s=some (cs,cL,k,e)):Spec Tryz.prog 50 [.string ⟨s.toArray⟩] I M0 λv I' M'=>(∀ b o,I b=some o->I' b=some o)/\M'=M0/\∃ g:cx,v=g.val/\g.ok I'/\pX cs g.ds:=by refine bZ [] a5 Tryz.func50 rfl rfl rfl ?_;intro B az;refine bc.mk [] M0 _ (.refl _) (anP bs yC) ?_;rintro v iF N -⟨rfl,hQ,g,rfl,au,aW⟩;exact⟨_,_,.refl,hQ,rfl,g,rfl,au,aW⟩
def Ub(cs:List h3)(F:List aU):Bool:=decide ((Mq (jD cs).ds F).2=0)
def ub(cs:List h3)(u:Nat)(p:List Int):List aQ:=match nf eJ (jD cs) u p with
 |some X=>eS (jD cs).ds u (my X.post)| none=>[]
def aeE(bs:fQ I eJ){as8:Nat}{want:List UInt8}{Nz:List h3}{as9 cW:Int}{eZ:IntKind}(yC:wN aen 71 s=some (cs,cL,k,e))(tN:wN as8 71 want=some (Nz,as9,eZ,cW)){f:Nat}(ap:E1 cs F f=true)(xM:Ub cs F=true)
 {pa:Option Addr} {pn jl:Nat} {path:List Int} (aC:c3 I pa pn jl 1 8 (kj path)) (eu:ho eJ (jD cs) (u,path)=true) (xH:u<cs.length) (qV:ua (nN (ub cs u path)) (jD Nz)=true) (ot:0<(ub cs u path).length) :
  Spec Tryz.prog 49 [.string ⟨s.toArray⟩,.int .i64 (u:Int),.slice pa pn jl,.string ⟨want.toArray⟩] I [] λv I' M'=>v=.bool true/\(∀ b o,I b=some o->I' b=some o)/\M'=[]:=by
 have dX:=SE ap;refine bZ [] a5 Tryz.func49 rfl rfl rfl ?_;intro B az;refine bc.mk [] [] _ (.refl _) (Ny bs yC) ?_;rintro v iF N -⟨hQ,rfl,g,rfl,au,aW⟩;have jx:=bs.mono hQ;obtain⟨hm,bG,l0⟩:=dX.of au aW;have eb:=E0 aW au;have rN:g.ds.length=cs.length:=by have:=congrArg (λx:cx=>x.ds.length) eb;simpa[cx.a4,jD]using this
 refine bc.mk [] [] _ (.refl _) (asC (T' jx au hm) (aC.mono hQ)) ?_;rintro v dn N dV⟨-,rfl,h,a7,rfl,dr⟩;obtain⟨r,af⟩:∃ r,m8 eJ g r:=⟨_,.inr ⟨hm,F,bG,rfl⟩⟩;have rz:r.2=0:=by rw[abo dX au aW af];exact dh xM
 have wY:ho eJ g (((u:Nat):Int).toNat,path)=true:=by rw[gl,<-aeD,eb];exact eu
 obtain⟨rfl,cv,nQ,X,bm,kJ,d',ic,gi,ml,-⟩:=dr.asB r af rz ⟨rfl,rfl,rfl,by omega,by omega,wY⟩;rw[gl]at kJ gi;have CL:h.ds.map aQ.a4=(ub cs u path).map aQ.a4:=by
  have aG:ub cs u path=eS (jD cs).ds u (my X.post):=by unfold ub;rw[<-eb,aeA,kJ]
  rw[gi,aG,ady (adx d' ic),<-eb];exact(aeC g.ds u _).symm
 have ay:h.ds.length=(ub cs u path).length:=by have:=congrArg List.length CL;simpa using this
 have arC:=cv.n;refine cY.draw a5 rfl rfl rfl ?_;refine cq.mk (λ_=>?_) (λh=>absurd h (by simp));refine cq.mk (λ_=>?_) (λh=>absurd h (by simp;omega));refine eL.mk _ (Ny (M0:=[]) (jx.mono dV) tN) ?_;rintro v o8 N kf⟨-,rfl,w,rfl,hw,aeF⟩;refine bc.mk [] [] _ (.refl _) (as1 (M0:=[]) ((jx.mono dV).mono kf) (cv.mono kf) hw λd aj=>by have:=(aex ml).1 d aj;omega) ?_;rintro v jU N -⟨rfl,hg,rfl⟩;refine⟨_,_,.refl,?_,λb o h=>hg _ _ (kf _ _ (dV _ _ (hQ _ _ h))),rfl⟩;have aG:ua h w=ua (nN (ub cs u path)) (jD Nz):=by rw[<-aev h w,E0 aeF hw,<-aev (nN _) (jD Nz)];unfold ua;show kL qZ (h.ds.map aQ.a4) _=kL qZ ((ub cs u path).map aQ.a4) _;rw[CL,<-E0 aeF hw];show kL qZ _ (w.ds.map aQ.a4)=kL qZ _ ((w.ds.map aQ.a4).map aQ.a4);rw[gO,aeB]
 rw[aG,qV]
def NA(cs:List h3)(F:List aU):List (Nat×List Int):=if(Mq (jD cs).ds F).2=0 then kK eJ (jD cs)else []
def aeG(dX:Iz cs F)(au:g.ok I)(aW:pX cs g.ds){r:Int×Int}(af:m8 eJ g r):FE eJ g r=NA cs F:=by unfold FE NA;rw[abo dX au aW af,<-E0 aW au,as7]
def aeH(x:Int):Spec Tryz.prog 155 [.int .i64 x] I M0 λv I' M'=>v=.bool false/\I'=I/\M'=M0:=by refine bZ [] a5 Tryz.func155 rfl rfl rfl ?_;intro B az;exact⟨_,_,.refl,by simp,rfl,rfl⟩
def AO(x y:Int):Int:=if x<y then -1 else if y<x then 1 else 0
def aeI{x y:Int}:AO x y=0 ↔ x=y:=by
 unfold AO;split
 ·omega
 ·split<;>omega
def aeJ(x y:Int):Spec Tryz.prog 100 [.int .i64 x,.int .i64 y] I M0 λv I' M'=>v=.int .i64 (AO x y)/\I'=I/\M'=M0:=by
 refine bZ [] a5 Tryz.func100 rfl rfl rfl ?_;intro B az;refine bc.mk [] M0 _ (.refl _) (aeH (M0:=[]) x) ?_;rintro v J N -⟨rfl,bk,rfl⟩;subst J;refine bc.mk [] M0 _ (.refl _) (aeH (M0:=[]) y) ?_;rintro v J N -⟨rfl,bk,rfl⟩;subst J;refine aZ.mk (λh=>by cases h) (λ_=>?_);refine aZ.mk (λh=>by cases h) (λ_=>?_);refine aZ.mk (λh=>?_) (λh=>?_)
 ·have h:x<y:=dh h;exact⟨_,_,.refl,by rw[AO,bQ h],rfl,rfl⟩
 ·have aa:¬ x<y:=dO h;refine aZ.mk (λh=>?_) (λh=>?_)
  ·have h:y<x:=dh h;exact⟨_,_,.refl,by rw[AO,bU aa,bQ h],rfl,rfl⟩
  ·have h:¬ y<x:=dO h;exact⟨_,_,.refl,by rw[AO,bU aa,bU h],rfl,rfl⟩
def ata(h:c3 I a n c 1 8 (kj l))(bd:c3 I bM fT c' 1 8 (kj dL)):Spec Tryz.prog 101 [.slice a n c,.slice bM fT c'] I M0 λv I' M'=>I'=I/\M'=M0/\∃ r,v=.int .i64 r/\(r=0 ↔ l=dL):=by
 have ay:l.length=n:=by have:=h.len;simpa[kj]using this
 have ou:dL.length=fT:=by have:=bd.len;simpa[kj]using this
 have ap:=h.cap;refine bZ [] a5 Tryz.func101 rfl rfl rfl ?_;intro B az;refine de.inv (ι:=Nat) (λi=>{ bj:=[(0,.val (.slice a n c)),(1,.val (.slice bM fT c')),(9,.val (.slice a n c)),(10,.val (.int .i64 n)),(11,.val (.int .i64 (i:Int)))],cl:=[],cI:=I,c1:=M0 }) (λi=>i<=n/\i<=fT/\l.take i=dL.take i) (λi=>n-i) ?_ ?_
 ·exact⟨0,⟨dz _,dz _,rfl⟩,.refl,gf,.nil⟩
 rintro i⟨hi,cX,av⟩;refine aZ.mk (λe=>?_) (λe=>?_)
 ·have aV:i<n:=by have:(i:Int)<(n:Int):=dh e;omega
  obtain⟨aS,bH,bl⟩:=h.one aV (show i<l.length by omega);refine bf.mk aS i bH rfl aV ?_;refine aO.mk _ (bl _) ?_;refine aZ.mk (λe=>?_) (λe=>?_)
  ·have cA:(fT:Int)<=(i:Int):=dh e;refine⟨_,_,.refl,rfl,rfl,1,rfl,?_⟩;constructor
   ·intro h;cases h
   ·intro h;have:=congrArg List.length h;omega
  ·have vt:i<fT:=by have:¬ (fT:Int)<=(i:Int):=dO e;omega
   obtain⟨Fe,CK,Av⟩:=bd.one vt (show i<dL.length by omega);refine bf.mk Fe i CK rfl vt ?_;refine aO.mk _ (Av _) ?_;refine bc.mk [] M0 _ (.refl _) (aeJ (M0:=[]) _ _) ?_;rintro v J N -⟨rfl,bk,rfl⟩;subst J;have g5:=aeI (x:=l[i]'(by omega)) (y:=dL[i]'(by omega));generalize bb:AO (l[i]'(by omega)) (dL[i]'(by omega))=z at g5 |-;refine aZ.mk (λe=>?_) (λe=>?_)
   ·have bn:¬ z=0:=by have:(!decide (z=0))=true:=e;simpa using this
    refine⟨_,_,.refl,rfl,rfl,z,rfl,?_⟩;constructor;·intro h;exact absurd h bn
    ·intro h;exact absurd (g5.2 (by simp only[h])) bn
   ·have oH:z=0:=by have:(!decide (z=0))=false:=e;simpa using this
    refine bg.mk _ (cK (i:=i) (by omega)) ?_;refine⟨i+1,⟨⟨aV,vt,?_⟩,by omega⟩,.refl,gf,.nil⟩;rw[fZ (by omega),fZ (by omega),av,g5.1 oH]
 ·have cA:¬ (i:Int)<(n:Int):=dO e;have a7:i=n:=by omega
  subst a7;rw[ft (by omega)]at av;refine aZ.mk (λe=>?_) (λe=>?_)
  ·have aV:(i:Int)<(fT:Int):=dh e;refine⟨_,_,.refl,rfl,rfl,-1,rfl,?_⟩;constructor
   ·intro h;cases h
   ·intro h;have:=congrArg List.length h;omega
  ·have aV:¬ (i:Int)<(fT:Int):=dO e;refine⟨_,_,.refl,rfl,rfl,0,rfl,?_⟩;rw[ft (by omega)]at av;exact⟨λ_=>av,λ_=>rfl⟩
def atb{r r':Int}(h:c3 I a n c 1 8 (kj l))(bd:c3 I bM fT c' 1 8 (kj dL)):Spec Tryz.prog 54 [Fs r a n c,Fs r' bM fT c'] I M0 λv I' M'=>I'=I/\M'=M0/\∃ z,v=.int .i64 z/\(z=0 ↔ r=r'/\l=dL):=by
 refine bZ [] a5 Tryz.func54 rfl rfl rfl ?_;intro B az;refine bc.mk [] M0 _ (.refl _) (aeJ (M0:=[]) r r') ?_;rintro v J N -⟨rfl,bk,rfl⟩;subst J;have g5:=aeI (x:=r) (y:=r');generalize AO r r'=z at g5 |-;refine aZ.mk (λe=>?_) (λe=>?_)
 ·have bn:¬ z=0:=by have:(!decide (z=0))=true:=e;simpa using this
  exact⟨_,_,.refl,rfl,rfl,z,rfl,λh=>absurd h bn,λh=>absurd (g5.2 h.1) bn⟩
 ·have oH:z=0:=by have:(!decide (z=0))=false:=e;simpa using this
  refine bc.mk [] M0 _ (.refl _) (ata (M0:=[]) h bd) ?_;rintro v J N -⟨bk,rfl,w,rfl,hw⟩;subst J;exact⟨_,_,.refl,rfl,rfl,w,rfl,λe=>⟨g5.1 oH,hw.1 e⟩,λe=>hw.2 e.2⟩
def aeK:∀ (i:Nat) (l:List a1),(∀ c∈l,c.paths.Nodup)->(a1.sX i l).Nodup/\∀ q∈a1.sX i l,∃ j p,i<=j/\q=((j:Nat):Int)::p
 |_,[],_=>by rw[a1.Nm];exact⟨yH,λq h=>by cases h⟩
 |i,c::l,aN=>by
  obtain⟨aa,ab⟩:=aeK (i+1) l λx ad=>aN x (.tail _ ad);rw[a1.Nl];refine⟨r5.2 ⟨?_,aa,λa a2 b ag e=>?_⟩,λq aP=>?_⟩;·exact List.Pairwise.map _ (λa b jf e=>jf (Gx e).2) (aN c (.head _))
  ·obtain⟨p,-,rfl⟩:=cC.1 a2;obtain⟨j,l9,ai,rfl⟩:=ab b ag;have:=(Gx e).1;omega
  ·rcases cE.1 aP with aP | aP
   ·obtain⟨p,-,rfl⟩:=cC.1 aP;exact⟨i,p,cc _,rfl⟩
   ·obtain⟨j,p,ai,rfl⟩:=ab q aP;exact⟨j,p,by omega,rfl⟩
def atc:∀ T:a1,T.paths.Nodup:=by
 intro T
 induction T using a1.ind with
 |h d ks aN=>rw[a1.Fx];obtain⟨aa,ab⟩:=aeK 0 ks aN;refine kM.2 ⟨λh=>?_,aa⟩;obtain⟨j,p,-,e⟩:=ab _ h;cases e
def aeL:∀ (ds:List aQ) (i:Nat),(fI i ds).Nodup/\∀ x∈fI i ds,i<=x.1
 |[],i=>⟨yH,λx h=>by cases h⟩
 |d::ds,i=>by
  obtain⟨aa,ab⟩:=aeL ds (i+1);rw[fI];refine⟨r5.2 ⟨List.Pairwise.map _ (λa b jf e=>jf (Prod.mk.inj e).2) (atc _),aa,λa a2 b ag e=>?_⟩,λx ad=>?_⟩;·obtain⟨p,-,rfl⟩:=cC.1 a2;have:=ab b ag;rw[<-e]at this;simp only at this;omega
  ·rcases cE.1 ad with ad | ad
   ·obtain⟨p,-,rfl⟩:=cC.1 ad;exact cc _
   ·have:=ab x ad;omega
def atd{i:Nat}(hi:i<(fI 0 g.ds).length)(aj:(kK aw g).drop n=((fI 0 g.ds).drop i).filter (ho aw g)):(kK aw g)[n]?=some (fI 0 g.ds)[i] ↔ ho aw g (fI 0 g.ds)[i]=true:=by
 have aa:(kK aw g)[n]?=(((fI 0 g.ds).drop i).filter (ho aw g))[0]?:=by rw[<-aj,nj,pk]
 have ab:(fI 0 g.ds).drop i=(fI 0 g.ds)[i]::(fI 0 g.ds).drop (i+1):=eR hi;rw[aa,ab,ox];constructor
 ·intro h;cases ag:ho aw g (fI 0 g.ds)[i]with
  |true=>rfl| false=>rw[ag]at h;have hm:=rc h;have ml:=(iX.1 hm).1;have bI:=(aeL g.ds 0).1;have aeM:((fI 0 g.ds).drop i).Nodup:=bI.sublist (List.drop_sublist _ _);rw[ab,kM]at aeM;exact absurd ml aeM.1
 ·intro ag;rw[ag];rfl
def w0:List h3:=[⟨[97],⟨[⟨3,0,0,0,0,[98],0,0,[]⟩,⟨2,0,0,0,0,[120],0,0,[]⟩,⟨3,0,0,0,0,[98],0,0,[]⟩,⟨4,0,0,0,0,[],0,0,[0,1,2]⟩],3⟩⟩,⟨[98],⟨[⟨2,0,0,0,0,[121],0,0,[]⟩],0⟩⟩]
def aeN:wN 100000 71 [97,32,60,45,32,98,32,34,120,34,32,98,32,98,32,60,45,32,34,121,34]=some (w0,0,.i64,0):=by kernel_rfl
def aeO:List h3:=[⟨[97],⟨[⟨2,0,0,0,0,[121],0,0,[]⟩,⟨2,0,0,0,0,[120],0,0,[]⟩,⟨3,0,0,0,0,[98],0,0,[]⟩,⟨4,0,0,0,0,[],0,0,[0,1,2]⟩],3⟩⟩,⟨[98],⟨[⟨2,0,0,0,0,[121],0,0,[]⟩],0⟩⟩]
def ate:wN 100000 71 [97,32,60,45,32,34,121,34,32,34,120,34,32,98,32,98,32,60,45,32,34,121,34]=some (aeO,0,.i64,0):=by kernel_rfl
def Jk:List h3:=[⟨[97],⟨[⟨2,0,0,0,0,[120],0,0,[]⟩,⟨3,0,0,0,0,[97],0,0,[]⟩,⟨4,0,0,0,0,[],0,0,[0,1]⟩,⟨0,0,0,0,0,[],0,0,[]⟩,⟨5,0,0,0,0,[],0,0,[2,3]⟩],4⟩⟩]
def atf:wN 100000 71 [97,32,60,45,32,34,120,34,32,97,32,47,32,34,34]=some (Jk,0,.i64,0):=by kernel_rfl
def AP:List h3:=[⟨[97],⟨[⟨3,0,0,0,0,[98],0,0,[]⟩,⟨3,0,0,0,0,[99],0,0,[]⟩,⟨4,0,0,0,0,[],0,0,[0,1]⟩],2⟩⟩,⟨[98],⟨[⟨2,0,0,0,0,[121],0,0,[]⟩,⟨2,0,0,0,0,[122],0,0,[]⟩,⟨4,0,0,0,0,[],0,0,[0,1]⟩],2⟩⟩,⟨[99],⟨[⟨0,0,0,0,0,[],0,0,[]⟩],0⟩⟩]
def atg:wN 100000 71 [97,32,60,45,32,98,32,99,32,98,32,60,45,32,34,121,34,32,34,122,34,32,99,32,60,45,32,34,34]=some (AP,0,.i64,0):=by kernel_rfl
def aeP:List h3:=[⟨[97],⟨[⟨2,0,0,0,0,[121],0,0,[]⟩,⟨2,0,0,0,0,[122],0,0,[]⟩,⟨3,0,0,0,0,[99],0,0,[]⟩,⟨4,0,0,0,0,[],0,0,[0,1,2]⟩],3⟩⟩,⟨[98],⟨[⟨2,0,0,0,0,[121],0,0,[]⟩,⟨2,0,0,0,0,[122],0,0,[]⟩,⟨4,0,0,0,0,[],0,0,[0,1]⟩],2⟩⟩,⟨[99],⟨[⟨0,0,0,0,0,[],0,0,[]⟩],0⟩⟩]
def ath:wN 100000 71 [97,32,60,45,32,34,121,34,32,34,122,34,32,99,32,98,32,60,45,32,34,121,34,32,34,122,34,32,99,32,60,45,32,34,34]=some (aeP,0,.i64,0):=by kernel_rfl
def aeQ:E1 w0 (yl w0 5) 5=true:=by kernel_rfl
def ati:E1 Jk (yl Jk 5) 5=true:=by kernel_rfl
def atj:E1 AP (yl AP 5) 5=true:=by kernel_rfl
def atk:Ub w0 (yl w0 5)=true:=by kernel_rfl
def atl:Ub AP (yl AP 5)=true:=by kernel_rfl
def atm:NA w0 (yl w0 5)=[(0,[0]),(0,[2])]:=by kernel_rfl
def atn:NA Jk (yl Jk 5)=[]:=by kernel_rfl
def ato:ho eJ (jD w0) (0,[0])=true:=by kernel_rfl
def atp:ua (nN (ub w0 0 [0])) (jD aeO)=true:=by kernel_rfl
def atq:Nat.ble 1 (ub w0 0 [0]).length=true:=by kernel_rfl
def atr:ho eJ (jD AP) (0,[0])=true:=by kernel_rfl
def ats:ua (nN (ub AP 0 [0])) (jD aeP)=true:=by kernel_rfl
def att:Nat.ble 1 (ub AP 0 [0]).length=true:=by kernel_rfl
def atu{β:Type}{f:α->β}{a b:β}:∀ {l:List α},l.map f=[a,b]->∃ x y,l=[x,y]/\f x=a/\f y=b
 |[x,y],h=>by simp only[cb,hr,xz,and_true]at h;exact⟨x,y,rfl,h.1,h.2⟩
 |[],h=>by simp at h
 |[x],h=>by simp at h
 |x::y::z::l,h=>by simp at h
def aeR(k:Int):c3 (ins I b (.cells #[.int .i64 k] 3 (0,0))) (some ⟨b,0,none⟩) 1 1 1 8 (kj [k]):=
 ⟨rfl,⟨cc _,by decide⟩,.inr ⟨⟨b,0,none⟩,rfl,rfl,_,_,_,mr ..,rfl⟩⟩
def aeS(bs:fQ I eJ):Spec Tryz.prog 27 [] I [] λv J mf=>v=.bool true/\(∀ b o,I b=some o->J b=some o)/\mf=[]:=by
 refine bZ [] a5 Tryz.func27 rfl rfl rfl ?_;intro B az;refine bc.mk [] [] _ (.refl _) (Ny bs aeN) ?_;rintro v I1 N -⟨cn,rfl,g,rfl,au,aW⟩;have jx:=bs.mono cn;have dX:=SE aeQ;refine bc.mk [] [] _ (.refl _) (T0 (T' jx au (dX.of au aW).1)) ?_;rintro v dv N -⟨en,os,L,r,af,rfl,bS,b4,rfl,mF⟩;rw[aeG dX au aW af,atm]at mF;have ib:=jx.mono en;obtain⟨sg,adK,rfl,f',wD⟩:=atu mF;obtain⟨k5,yc,fB,tA⟩:=sg;obtain⟨iO,Bv,cL,gz⟩:=adK;simp only[fg.l4,G1]at f' wD;obtain⟨rfl,rfl⟩:=f';obtain⟨rfl,rfl⟩:=wD;have aB:os.n=2:=by have:=bS.len;rw[iv _ 5 fg.C1]at this;simp only[dx,fL]at this;omega
 have rd:=λ(M:List aD) (a':∀ x∈os.aq 57,x∈M)=>aX.ok.row (I:=dv) (M:=M) fg.C1 (by decide) bS (e:=57) a' (j:=0) (by simp);have P2:=λ(M:List aD) (a':∀ x∈os.aq 57,x∈M)=>aX.ok.row (I:=dv) (M:=M) fg.C1 (by decide) bS (e:=57) a' (j:=1) (by simp);obtain⟨aS,bH,bl⟩:=rd (os.aq 57++[]) (λx ad=>jr _ ad);obtain⟨Uc,aeT,hJ⟩:=P2 (os.aq 57++[]) (λx ad=>jr _ ad);have bl:cM dv (os.aq 57++[]) (aS.add (0*5)) 5 [.int .u8 1,.int .u8 1,.int .i64 0,.slice fB 1 tA,.int .i64 0]:=bl;have hJ:cM dv (os.aq 57++[]) (Uc.add (1*5)) 5 [.int .u8 1,.int .u8 1,.int .i64 0,.slice cL 1 gz,.int .i64 0]:=hJ;obtain⟨oD,GI,rz⟩:=(b4 ⟨0,[0],fB,tA⟩ (.head _)).a0.one (f:=(.int .i64 ·)) (l:=([0]:List Int)) (j:=0) Nt Nt;obtain⟨b1,hk,ir⟩:=(b4 ⟨0,[2],cL,gz⟩ (.tail _ (.head _))).a0.one (f:=(.int .i64 ·)) (l:=([2]:List Int)) (j:=0) Nt Nt;refine cq.mk (λ_=>?_) (λh=>absurd h (by simp[aB]));refine bf.mk aS 0 bH rfl (by omega) ?_;refine aO.mk _ (bl.part (k:=3) (m:=1) (by decide)) ?_;refine cq.mk (λ_=>?_) (λh=>by cases h);refine bf.mk aS 0 bH rfl (by omega) ?_;refine aO.mk _ (bl.part (k:=3) (m:=1) (by decide)) ?_;refine bf.mk oD 0 GI rfl (by decide) ?_;refine aO.mk _ (rz _) ?_;refine cq.mk (λ_=>?_) (λh=>by cases h);refine bf.mk Uc 1 aeT rfl (by omega) ?_;refine aO.mk _ (hJ.part (k:=3) (m:=1) (by decide)) ?_;refine cq.mk (λ_=>?_) (λh=>by cases h);refine bf.mk Uc 1 aeT rfl (by omega) ?_;refine aO.mk _ (hJ.part (k:=3) (m:=1) (by decide)) ?_;refine bf.mk b1 0 hk rfl (by decide) ?_;refine aO.mk _ (ir _) ?_;refine cq.mk (λ_=>?_) (λh=>by cases h);refine bf.mk aS 0 bH rfl (by omega) ?_;refine aO.mk _ (bl.part (k:=0) (m:=1) (by decide)) ?_;refine cq.mk (λ_=>?_) (λh=>by cases h);refine bf.mk aS 0 bH rfl (by omega) ?_;refine aO.mk _ (bl.part (k:=1) (m:=1) (by decide)) ?_;refine cq.mk (λ_=>?_) (λh=>by cases h);refine bf.mk aS 0 bH rfl (by omega) ?_;refine aO.mk _ (bl.part (k:=2) (m:=1) (by decide)) ?_;refine cq.mk (λ_=>?_) (λh=>by cases h);refine bf.mk aS 0 bH rfl (by omega) ?_;refine aO.mk _ (bl.part (k:=4) (m:=1) (by decide)) ?_;refine aZ.mk (λh=>by cases h) (λ_=>?_);refine bX.mk λb9 kX wR=>?_
 have za:=aeE (ib.mono (hI (o:=.cells #[.int .i64 0] 3 (0,0)) kX)) aeN ate aeQ atk (u:=0) (path:=[0]) (aeR (I:=dv) (b:=b9) 0) ato (by decide) atp (bJ atq);refine bc.C6 (ins dv b9 (.cells #[.int .i64 0] 3 (0,0))) [] [] _ (.sub (List.cons_sublist_cons.2 (fp _)) (.kN rfl (by simp) .refl)) za ?_;rintro v hW N iC -⟨rfl,-,rfl⟩;have oc:=(ib.mono (hI (o:=.cells #[.int .i64 0] 3 (0,0)) kX)).mono iC;refine cq.mk (λ_=>?_) (λh=>by cases h);refine bc.mk [] [] _ (.refl _) (Ny oc atf) ?_;rintro v rr N yu⟨-,rfl,ba,rfl,kV,lp⟩;have Jd:=oc.mono yu;have C2:=SE ati;refine bc.mk [] [] _ (.refl _) (T0 (T' Jd kV (C2.of kV lp).1)) ?_;rintro v zq N S0⟨-,kd,hL,n3,rm,rfl,IX,nL,rfl,tZ⟩;rw[aeG C2 kV lp rm,atn]at tZ;have n7:kd.n=0:=by have:=IX.len;rw[iv _ 5 fg.C1]at this;have ab:=congrArg List.length tZ;rw[bF]at ab;simp only[fL]at ab;omega
 have Na:=Jd.mono S0;refine cq.mk (λ_=>?_) (λh=>absurd h (by simp[n7]));refine bX.mk λfR DR adv=>?_;have Fz:=aeE (Na.mono (hI (o:=.cells #[.int .i64 0] 3 (0,0)) DR)) atg ath atj atl (u:=0) (path:=[0]) (aeR (I:=zq) (b:=fR) 0) atr (by decide) ats (bJ att);refine bc.C6 (ins zq fR (.cells #[.int .i64 0] 3 (0,0))) [] [] _ (.sub (List.cons_sublist_cons.2 (fp _)) (.kN rfl (by simp) .refl)) Fz ?_;rintro v tu N Nh -⟨rfl,-,rfl⟩;exact⟨_,_,.refl,rfl,λb o h=>Nh _ _ (hI DR _ _ (S0 _ _ (yu _ _ (iC _ _ (hI kX _ _ (en _ _ (cn _ _ h))))))),rfl⟩
def atv{h:cx}(hu:u<g.ds.length){bm:bR}(cv:h.ok I)(eb:h.ds.map aQ.a4=(eS g.ds u bm).map aQ.a4):bm.ns.length=bm.n:=by
 have hm:=congrArg (λl:List aQ=>l[u]?) eb;simp only[iG]at hm;have ay:=congrArg List.length eb;rw[bF,bF,yA]at ay;have xH:u<h.ds.length:=by omega
 rw[CO hu,da xH]at hm;have hm:=fw hm;have aa:=(cv.ds _ (bx xH)).t.n;have ab:h.ds[u].t.a4=bm.a4:=congrArg aQ.t hm;have ak:h.ds[u].t.ns.length=bm.ns.length:=by have:=congrArg (λt:bR=>t.ns.length) ab;simpa[bR.a4]using this
 have aJ:h.ds[u].t.a4.n=bm.a4.n:=congrArg bR.n ab;have aJ:h.ds[u].t.n=bm.n:=aJ;omega
def atw(bs:fQ I eJ)(tN:sF I g):vD Tryz.prog 9 [g.val] I [] λv I' M'=>v=.bool true:=by
 refine yT [] a5 Tryz.func9 rfl rfl rfl ?_;intro B az;refine bc.mk [] [] _ (.refl _) (asG tN) ?_;rintro v J N -⟨⟨r,rfl,af⟩,xr,aej⟩;subst J;subst N;cases r with
 |true=>refine cq.mk (λh=>absurd h (by simp)) (λ_=>?_);refine bc.mk [] [] _ (.refl _) (aeS bs) ?_;rintro v iF N -⟨rfl,hQ,rfl⟩;exact⟨_,_,.refl,rfl⟩
 |false=>
 refine cq.mk (λ_=>?_) (λh=>absurd h (by simp));refine bc.mk [] [] _ (.refl _) (aeS bs) ?_;rintro v iF N -⟨rfl,hQ,rfl⟩;refine aZ.mk (λh=>by cases h) (λ_=>?_);have yK:=af rfl;have jx:=bs.mono hQ;have au:=(tN.mono hQ).Iw yK;have fM:=au.n;have sK:=as2 jx au yK;clear tN af;refine bc.mk [] [] _ (.refl _) (T0 sK) ?_;rintro v dn N -⟨dV,os,L,r,fP,rfl,bS,b4,rfl,mF⟩;have kc:=sK.mono dV;have KF:os.n=L.length:=by have:=bS.len;rw[iv _ 5 fg.C1]at this;omega
 refine bc.mk [] _ _ (.refl _) (Mk kc.av kc.au kc.ae) ?_;rintro v o8 N kf⟨-,rfl,r',rfl,atx⟩;obtain rfl:=atx.eq fP;refine aZ.mk (λh=>?_) (λh=>?_)
 ·have hm:r'.2≠0:=by have:(!decide (r'.2=0))=true:=h;simpa using this
  refine⟨_,_,.refl,?_⟩;have aa:=congrArg List.length mF;unfold FE at aa;rw[bU hm,bF]at aa;simp only[fL]at aa;have:os.n=0:=by omega
  simp[this]
 have qP:r'.2=0:=by have:(!decide (r'.2=0))=false:=h;simpa using this
 obtain⟨F,hw⟩:=fP.I7 fM qP;have Jl:L.map fg.l4=kK eJ g:=by rw[mF];exact bQ qP
 have NB:=kc.mono kf;refine bc.mk [] _ _ (.refl _) (adS NB.av NB.au NB.sQ) ?_;rintro v jU N hg⟨-,op,P,rfl,yN,oY,rfl,Jm⟩;rw[bQ hw.m]at Jm;have od:op.n=P.length:=by have:=yN.len;rw[iv _ 2 fg.cS]at this;omega
 have E5:P.length<=1048576:=by have aa:=Jf g.ds 0 λd aj=>nR hw.m aj;have ab:=congrArg List.length Jm;rw[bF]at ab;have:=sK.sQ;omega
 have asw:L.length<=1048576:=by have aa:=aeb (aw:=eJ) (g:=g) (λd aj=>nR hw.m aj) sK.sQ;have ab:=congrArg List.length Jl;rw[bF]at ab;omega
 have aty:=NB.mono hg;refine de.inv (ι:=Nat×Nat×aI) (λx=>{ bj:=[(1,.ref 1 0),(3,.val os.val),(4,.val (.int .i64 (x.2.1:Int))),(5,.val op.val),(6,.val (.int .i64 (x.1:Int)))],cl:=[(1,[.slice g.a g.n g.c])],cI:=x.2.2,c1:=op.aq 60++os.aq 57 }) (λx=>x.1<=P.length/\(∀ b o,jU b=some o->x.2.2 b=some o)/\x.2.1<=L.length/\(kK eJ g).drop x.2.1=((fI 0 g.ds).drop x.1).filter (ho eJ g)) (λx=>P.length-x.1) ?_ ?_
 ·exact⟨(0,0,jU),⟨dz _,λ_ _ h=>h,dz _,rfl⟩,.n5 (by simp),gf,.cons rfl (.nil)⟩
 rintro⟨i,n,K⟩⟨hi,dX,nw,hB⟩;simp only at hi dX nw hB;have NC:=aty.mono dX;refine aZ.mk (λh=>?_) (λh=>?_)
 rotate_left
 ·have cA:¬ (i:Int)<(op.n:Int):=dO h;have yo:(fI 0 g.ds).length=P.length:=by rw[<-Jm,bF]
  have aG:(fI 0 g.ds).drop i=[]:=jH (by omega);rw[aG,Tu,Bq]at hB;have:(kK eJ g).length=L.length:=by rw[<-Jl,bF]
  refine⟨_,_,.refl,?_⟩;have:n=os.n:=by omega
  simp[this]
 have aV:i<P.length:=by have:(i:Int)<(op.n:Int):=dh h;omega
 have vt:i<(fI 0 g.ds).length:=by rw[<-Jm,bF];exact aV
 obtain⟨aS,bH,TZ⟩:=aX.ok.row (I:=K) (M:=op.aq 60++os.aq 57) fg.cS (by decide) yN (e:=60) (λx ad=>jr _ ad) aV;have Ce:=(oY _ (bx aV)).mono dX;have f':(fI 0 g.ds)[i]=P[i].l4:=by
  have aa:(fI 0 g.ds)[i]?=(P.map fg.l4)[i]?:=by rw[Jm]
  rw[iG,da vt,da aV]at aa;exact fw aa
 have me:=atd vt hB;have As:(fI 0 g.ds).drop i=(fI 0 g.ds)[i]::(fI 0 g.ds).drop (i+1):=eR vt;have e6:(fI 0 g.ds)[i]∈fI 0 g.ds:=bx vt;rw[As,ox]at hB;rw[f']at me hB e6;have aeU:ho eJ g P[i].l4=true->(kK eJ g).drop n=P[i].l4::((fI 0 g.ds).drop (i+1)).filter (ho eJ g):=λh=>by rw[hB,bQ h]
 have ND:ho eJ g P[i].l4=false->(kK eJ g).drop n=((fI 0 g.ds).drop (i+1)).filter (ho eJ g):=λh=>by rw[hB,bU (by rw[h];simp)]
 clear hB;generalize P[i]=x at *;obtain⟨u,path,xa,xc⟩:=x;obtain⟨hu,S,cR⟩:=ad7 e6;simp only[fg.l4]at hu cR aeU ND e6 me;have xO:c3 K xa path.length xc 1 8 (kj path):=Ce.a0;have ng:g.ds.getD u gv=g.ds[u]:=by simp[bz,hu]
 have et:p1 g (u:Int) path=some S:=by unfold p1;rw[bQ (by omega),gl,ng];exact cR
 refine bf.mk aS i bH rfl (by omega) ?_;refine aO.mk [.int .i64 (u:Int),.slice xa path.length xc] TZ ?_;have lb:=adt (M0:=[]) NC.av.c NC.au (Np hw.m NC.aB) (rule:=(u:Int)) xO;rw[et]at lb;refine bc.mk [] _ _ (.refl _) lb ?_;rintro v tV N C2⟨-,rfl,t,rfl,av,d',Nc,Ft⟩;have tX:=d'.right Nc;obtain⟨k5,iO⟩:=qo tX;obtain⟨yG,fz⟩:=eA k5;have fa:yG<t.ns.length:=by omega
 have Jn:=NC.mono C2;have gp:=abr (M0:=[]) Jn.av av tX fz fa;have lQ:(t.ns[yG].eC []).bare=S.d:=by
  have dZ:=d'.cw Nc Ft;have fj:cw t=gk t.ns (yG:Int):=by unfold cw;rw[fz]
  rw[fj,wW tX fa]at dZ;rw[<-dZ];rfl
 generalize t.ns[yG].eC []=d at gp lQ;obtain⟨tns,nZ,jy,oM,ih⟩:=t;obtain⟨dd,d0,d1,d2,d3,fK,Tk,Tl,ad1,pb,Gu,ad2⟩:=d;refine bc.mk [] _ _ (.refl _) gp ?_;rintro v Ud N -⟨rfl,RW,rfl⟩;subst Ud;have NE:S.d.k=dd:=by rw[<-lQ];rfl
 have Ue:S.d.t=fK:=by rw[<-lQ];rfl
 have bp:∀ b o,jU b=some o->tV b=some o:=λb o h=>C2 _ _ (dX _ _ h);have vv:=cK (i:=i) (by omega);by_cases ak:dd=3
 rotate_left
 ·have Jo:ho eJ g (u,path)=false:=by unfold ho nf;simp only[ng,cR];show(match nd eJ g u path S.d with | some X=>tW eJ g u X | none=>false)=false;unfold nd;rw[bU (by rw[NE];exact ak)]
  refine cY.draw a5 rfl rfl rfl ?_;refine cq.mk (λh=>absurd h (by simp[ak])) (λ_=>?_);refine bg.mk _ vv ?_;exact⟨(i+1,n,tV),⟨⟨aV,bp,nw,ND Jo⟩,by simp only;omega⟩,.refl,gf,.cons rfl (.nil)⟩
 have h9:=(E6.1 hw.m).2.2.2.2;obtain⟨q,aP⟩:∃ q:Nat,ct fK g.ds 0=(q:Int):=by
  have gq:iT (CP g.ds) (cw g.ds[u].t):=(MZ (nR hw.m (bx hu))).2 λd aj=>h9 _ (bx hu) d aj;have dN:=TM path gq cR;have ql:CP g.ds S.d:=by
   cases S with
   |mk d ks=>exact dN.inv.1
  have EI:=ql (by rw[NE];exact ak);rw[Ue]at EI;exact eA EI
 obtain⟨fD,tD,aG,-⟩:=E2 g.ds 0 q aP;have ff:q<g.ds.length:=by omega
 clear aG tD fD;have rK:g.ds.getD q gv=g.ds[q]:=by simp[bz,ff]
 refine cY.draw a5 rfl rfl rfl ?_;refine cq.mk (λ_=>?_) (λh=>absurd h (by simp[ak]));refine eL.mk _ (GX Jn.au fK) ?_;rintro v Ud N -⟨rfl,RW,iD⟩;subst Ud;subst N;rw[aP];refine bc.mk [] _ _ (.refl _) (ahO Jn.av Jn.au (by have:=sK.ag;omega) (q:Int)) ?_;rintro v Uf N NF⟨rfl,-,rfl⟩;have Jj:∀ b o,jU b=some o->Uf b=some o:=λb o h=>NF _ _ (bp _ _ h);have w1:=Jn.mono NF;cases Bc:k1 eJ g (q:Int)with
 |true=>
  have Jo:ho eJ g (u,path)=false:=by unfold ho nf;simp only[ng,cR];show(match nd eJ g u path S.d with | some X=>tW eJ g u X | none=>false)=false;have aA:pi eJ g fK=none:=bQ (.inr (by rw[aP];exact Bc));unfold nd;rw[bQ (by rw[NE];exact ak),Ue,aA];rfl
  refine aZ.mk (λ_=>?_) (λh=>by cases h);refine bg.mk _ vv ?_;exact⟨(i+1,n,Uf),⟨⟨aV,Jj,nw,ND Jo⟩,by simp only;omega⟩,.refl,gf,.cons rfl (.nil)⟩
 |false=>
 refine aZ.mk (λh=>by cases h) (λ_=>?_);have xh:pi eJ g fK=some q:=by unfold pi;rw[bU (λh=>h.elim (λh=>by omega) λh=>by rw[aP]at h;have h:k1 eJ g (q:Int)=true:=h;rw[Bc]at h;cases h),aP];rfl
 have kJ:nf eJ g u path=some (((cw g.ds[u].t).put path (cw g.ds[q].t)).jF):=by unfold nf;rw[ng,cR];show nd eJ g u path S.d=_;unfold nd;rw[bQ (by rw[NE];exact ak),Ue,xh,ng];show some (((cw g.ds[u].t).put path (cw (g.ds.getD q gv).t)).jF)=_;rw[rK]
 have Jc:sW g (u:Int) path (cw g.ds[q].t)=some (((cw g.ds[u].t).put path (cw g.ds[q].t)).jF):=by unfold sW;rw[et,gl,ng];rfl
 have AJ:=adu (M0:=[]) w1.av w1.au (Np hw.m w1.aB) w1.ag (w1.au.ds _ (bx ff)).t (nR hw.m (bx ff)) (w1.aB _ (bx ff)) (rule:=(u:Int)) ((xO.mono C2).mono NF);rw[Jc]at AJ;generalize((cw g.ds[u].t).put path (cw g.ds[q].t)).jF=X at kJ AJ;obtain⟨oL,tt,qu⟩:=w1.au.a0.row aQ.cS (j:=q) (by omega) ff;generalize g.ds[q]=atz at *;obtain⟨avY,⟨avZ,aeV,aeW,aeX,qr⟩⟩:=atz;have Fo:=GX w1.au fK;rw[aP]at Fo;refine cY.Gm a5 rfl rfl rfl (ι:=Nat×cx×aI×bR) (λz=>{ bj:=[(1,.ref 1 0),(3,.val os.val),(4,.val (.int .i64 (n:Int))),(5,.val op.val),(6,.val (.int .i64 (i:Int))),(7,.ref 7 0),(11,.val (ptr z.1))],cl:=[(1,[.slice g.a g.n g.c]),(7,[.int .i64 (u:Int),.slice xa path.length xc])],cI:=z.2.2.1,c1:=⟨z.1,.cells #[.slice z.2.1.a z.2.1.n z.2.1.c] 24 (0,0)⟩::(op.aq 60++os.aq 57) }) (λz=>(∀ b o,Uf b=some o->z.2.2.1 b=some o)/\z.2.1.ok z.2.2.1/\z.2.1.n=g.n/\z.2.1.ds.map aQ.a4=(eS g.ds u z.2.2.2).map aQ.a4/\pZ z.2.2.2 X) ?_ ?_
 ·refine⟨?_,?_⟩
  ·refine eL.mk _ Fo ?_;rintro v Ug N -⟨rfl,atA,iD⟩;subst Ug;subst N;refine bf.mk oL q tt rfl (by omega) ?_;refine aO.mk [.slice aeV aeW aeX,.int .i64 qr] ((qu _).part (k:=1) (m:=2) (by decide)) ?_;refine⟨?_,?_⟩
   ·refine bc.mk [] _ _ (.refl _) AJ ?_;rintro v w2 N vz⟨-,rfl,h,bm,rfl,cv,nQ,eb,AQ,aeY,aeZ⟩;refine bX.mk λtR SJ ae0=>?_;refine b2.mk [] (op.aq 60++os.aq 57) _ _ rfl rfl (bJ rfl) rfl ?_;exact⟨(tR,h,w2,bm),⟨vz,cv,nQ,by rw[gl]at eb;exact eb,AQ⟩,.refl,p',.cons rfl (.cons rfl (.nil))⟩
   ·refine bX.mk λtR SJ ae0=>?_;refine eL.mk _ AJ ?_;rintro v w2 N vz⟨-,rfl,h,bm,rfl,cv,nQ,eb,AQ,aeY,aeZ⟩;refine b2.mk [] (op.aq 60++os.aq 57) _ _ rfl rfl (bJ rfl) rfl ?_;exact⟨(tR,h,w2,bm),⟨vz,cv,nQ,by rw[gl]at eb;exact eb,AQ⟩,.refl,p',.cons rfl (.cons rfl (.nil))⟩
  ·refine bX.mk λtR SJ ae0=>?_;refine eL.mk _ Fo ?_;rintro v Ug N -⟨rfl,atA,iD⟩;subst Ug;subst N;refine bf.mk oL q tt rfl (by omega) ?_;refine aO.mk [.slice aeV aeW aeX,.int .i64 qr] ((qu _).part (k:=1) (m:=2) (by decide)) ?_;refine eL.mk _ AJ ?_;rintro v w2 N vz⟨-,rfl,h,bm,rfl,cv,nQ,eb,AQ,aeY,aeZ⟩;refine b2.mk [] (op.aq 60++os.aq 57) _ _ rfl rfl (bJ rfl) rfl ?_;exact⟨(tR,h,w2,bm),⟨vz,cv,nQ,by rw[gl]at eb;exact eb,AQ⟩,.refl,p',.cons rfl (.cons rfl (.nil))⟩
 rintro⟨tR,h,w2,bm⟩⟨vz,cv,nQ,eb,AQ⟩;simp only at vz cv nQ eb AQ;obtain⟨s1,s2,-,-⟩:=adB hw hu kJ AQ (atv hu cv eb) nQ cv.n eb;have sY:ho eJ g (u,path)=decide (dm eJ h=0):=by unfold ho;rw[kJ];exact s2
 have Uh:∀ b o,jU b=some o->w2 b=some o:=λb o h=>vz _ _ (Jj _ _ h);have atB:=((xO.mono C2).mono NF).mono vz;have atC:∀ (h:n<L.length),(kK eJ g)[n]?=some (L[n]).l4:=λh=>by rw[<-Jl,iG,da h];rfl
 refine cY.Gm a5 rfl rfl rfl (ι:=Bool) (λb=>{ bj:=[(1,.ref 1 0),(3,.val os.val),(4,.val (.int .i64 (n:Int))),(5,.val op.val),(6,.val (.int .i64 (i:Int))),(7,.ref 7 0),(11,.val (ptr tR)),(13,.val (.bool b))],cl:=[(1,[.slice g.a g.n g.c]),(7,[.int .i64 (u:Int),.slice xa path.length xc])],cI:=w2,c1:=⟨tR,.cells #[.slice h.a h.n h.c] 24 (0,0)⟩::(op.aq 60++os.aq 57) }) (λb=>b=ho eJ g (u,path)) ?_ ?_
 ·by_cases aB:n<L.length
  ·refine cq.mk (λ_=>?_) (λh=>absurd h (by simp;omega));have bB:=atC aB;have ae1:=((b4 _ (bx aB)).mono (λb o h=>hg _ _ (kf _ _ h))).mono Uh;obtain⟨j7,j8,gL⟩:=aX.ok.row (I:=w2) (M:=⟨tR,.cells #[.slice h.a h.n h.c] 24 (0,0)⟩::(op.aq 60++os.aq 57)) fg.C1 (by decide) bS (e:=57) (λx ad=>.tail _ (ra _ ad)) aB;generalize L[n]=y at bB ae1 gL;obtain⟨Ui,Uj,Ee,ae2⟩:=y;have atD:c3 w2 Ee Uj.length ae2 1 8 (kj Uj):=ae1.a0;refine bf.mk j7 n j8 rfl (by omega) ?_;refine aO.mk [.int .i64 (Ui:Int)] (gL.part (k:=2) (m:=1) (by decide)) ?_;refine bf.mk j7 n j8 rfl (by omega) ?_;refine aO.mk [.slice Ee Uj.length ae2] (gL.part (k:=3) (m:=1) (by decide)) ?_;refine bc.mk [] _ _ (.refl _) (atb (M0:=[]) (r:=(Ui:Int)) (r':=(u:Int)) atD atB) ?_;rintro v NG N -⟨FG,rfl,z,rfl,bb⟩;subst NG;refine⟨_,?_,.refl,kq,.cons rfl (.cons rfl (.nil))⟩;rw[bB]at me;by_cases NH:z=0
   ·obtain⟨aG,a7⟩:=bb.1 NH;rw[me.1 (by rw[show Ui=u by omega,a7];rfl)];simp[NH]
   ·have:ho eJ g (u,path)=false:=by
     cases ag:ho eJ g (u,path)with
     |false=>rfl| true=>have b5:=me.2 ag;simp only[fg.l4,kk,G1]at b5;exact absurd (bb.2 ⟨by omega,b5.2⟩) NH
    rw[this];simp[NH]
  ·refine cq.mk (λh=>absurd h (by simp;omega)) (λ_=>?_);refine⟨false,?_,.refl,.cons .refl (.cons .refl (.cons .refl (.cons .refl (.cons .refl (.cons .refl (.cons .refl (.cons .lit .nil))))))),.cons rfl (.cons rfl (.nil))⟩;cases ag:ho eJ g (u,path)with
   |false=>rfl| true=>have b5:=me.2 ag;rw[<-Jl,iG,qa (by omega)]at b5;cases b5
 rintro b ag;have ke:=G4 (w1.av.mono vz) cv;rw[sY]at ag;cases b with
 |true=>
  have hm:dm eJ h=0:=dh ag.symm;rw[hm]at ke sY;refine aO.mk [.slice h.a h.n h.c] ⟨rfl,_,_,_,.inr ⟨_,.head _,rfl,rfl⟩,rfl,rfl⟩ ?_;refine bc.mk [] _ _ (.refl _) ke ?_;rintro v NG N FG⟨rfl,-,rfl⟩;refine cq.mk (λ_=>?_) (λh=>absurd h (by decide));refine cq.mk (λh=>by cases h) (λ_=>?_);refine aZ.mk (λ_=>?_) (λh=>by cases h);have aj:=aeU sY;have atE:n<L.length:=by have dZ:=congrArg List.length aj;rw[tb,dx,<-Jl,bF]at dZ;omega
  refine bg.mk _ (cK (i:=n) (by omega)) ?_;refine bg.mk _ vv ?_;refine⟨(i+1,n+1,NG),⟨⟨aV,λb o h=>FG _ _ (Uh _ _ h),atE,?_⟩,by simp only;omega⟩,.sub (zc _ _) .refl,gf,.cons rfl (.nil)⟩;simp only;rw[<-Di,aj];rfl
 |false=>
  have hm:¬ dm eJ h=0:=dO ag.symm;have ae3:dm eJ h=40:=s1.resolve_left hm;have Jo:ho eJ g (u,path)=false:=by rw[sY];exact ag.symm
  rw[ae3]at ke;refine aO.mk [.slice h.a h.n h.c] ⟨rfl,_,_,_,.inr ⟨_,.head _,rfl,rfl⟩,rfl,rfl⟩ ?_;refine bc.mk [] _ _ (.refl _) ke ?_;rintro v NG N FG⟨rfl,-,rfl⟩;refine cq.mk (λ_=>?_) (λh=>absurd h (by decide));refine cq.mk (λ_=>?_) (λh=>by cases h);refine aO.mk [.slice h.a h.n h.c] ⟨rfl,_,_,_,.inr ⟨_,.head _,rfl,rfl⟩,rfl,rfl⟩ ?_;have ae4:=G4 ((w1.av.mono vz).mono FG) (cv.mono FG);rw[ae3]at ae4;refine bc.mk [] _ _ (.refl _) ae4 ?_;rintro v atF N atG⟨rfl,-,rfl⟩;refine aZ.mk (λh=>by cases h) (λ_=>?_);refine aZ.mk (λh=>by cases h) (λ_=>?_);refine bg.mk _ vv ?_;exact⟨(i+1,n,atF),⟨⟨aV,λb o h=>atG _ _ (FG _ _ (Uh _ _ h)),nw,ND Jo⟩,by simp only;omega⟩,.sub (zc _ _) .refl,gf,.cons rfl (.nil)⟩
end Go.V
