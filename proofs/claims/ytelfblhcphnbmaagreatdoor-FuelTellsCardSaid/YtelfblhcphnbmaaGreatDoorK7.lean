/- Part 7 of what the proofs of this seat share: the executor, data in memory, walks.
-/
import Derived.Test.YtelfblhcphnbmaaGreatDoorK6
import Derived.Test.YtelfblhcphnbmaaGreatDoorK4
import Derived.Test.YtelfblhcphnbmaaGreatDoorK3
import Derived.Lib.TrailingZeros
import Derived.Test.YtelfblhcphnbmaaGreatDoorK5
import Derived.Carry
set_option linter.all false
set_option maxHeartbeats 4000000
namespace Go.V
open Go Go.Proofs
def qJ:=@List.length_range
def IH:=@Nat.le_max_right
def II:=@List.countP_cons
def VK:=@Nat.testBit_two_pow_mul_add
def IJ:=@Nat.le_max_left
def IK:=@Nat.zero_lt_one
def IL:=@List.all_nil
variable{deb:List Int}{g f:(Nat->Nat->bG)->bG}{I I':aN}{M0 M:List aC}{α:Type}{l q6:List Nat}{A iI:Nat->Nat->Prop}{x z fB cd e2 N:Nat}{s:List Bool}{b:Bool}{R:List (List Bool)}{dD lo:Int}{p:Prop}
structure ui(g:b3):Prop where
 n:g.n<=1000000
 ds:∀ d∈g.ds,Fit d.t 1000000
def agz(d:a')(ds:List a'):nG (d::ds)=((gI d.name&&normal d.t)&&nG ds):=rfl
def VL{g:b3}(h:(decide (1024<mP g) || !g.ds.all λd=>gZ d.t)=true):h8 deb g=true:=by
 unfold h8;generalize(g.ds.all λd=>gZ d.t)=a at *;generalize decide (1024<mP g)=c at *;cases a<;>cases c<;>simp at h |-
def VM{ds:List a'}{i:Nat}(h:i<ds.length):mR ds i=decide (cV ds[i].name ds 0=i):=by unfold mR;rw[gu h]
def VN{n i:Nat}(p:Nat->Bool)(h:i<n):((List.range n).drop i).all p=(p i&&((List.range n).drop (i+1)).all p):=by rw[dS (by simpa using h),qR];simp
def VO{ds:List a'}(h:∀ d∈ds,d.t.ns.length<=1024)(av:ds.length<=64):(ht deb ds []).length<=160000000:=by have:=Rn deb ds [] 0 h (by simp);omega
set_option maxRecDepth 100000 in
def agA(dL:zF deb){g:b3}(ar:g.ok I)(aw:ui g):Spec Tryz.prog 52 [g.val] I [] (λv I' M'=>v=.int .i64 (vi deb g)/\I'=I/\M'=[]):=by
 refine bC [] aS Tryz.func52 rfl rfl rfl ?_;intro B aq;have js:=ar.n;have IG:=aw.n;refine aI.mk (λb7=>?_) (λb7=>?_)
 ·exact⟨_,_,.refl,by rw[vi,b7];rfl,rfl,rfl⟩
 refine cD.inv (ι:=Nat) (λi=>{ bA:=[(1,.ref 1 0),(3,.val (.int .i64 i))],cl:=[(1,[.slice g.a g.n g.c])],cj:=I }) (λi=>i<=g.n/\nG g.ds=nG (g.ds.drop i)) (λi=>g.n-i) ?_ ?_
 ·exact⟨0,⟨bj _,rfl⟩,.refl,ln,.cons rfl .nil⟩
 rintro i⟨hi,bb⟩;refine aI.mk (λh=>?_) (λh=>?_)
 ·have aL:i<g.n:=by simpa using h
  have bi:i<g.ds.length:=by omega
  obtain⟨ad,bR,bh⟩:=ar.aU.row a'.c0 aL bi;have er:g.ds[i]∈g.ds:=cO bi;have eR:g.ds.drop i=g.ds[i]::g.ds.drop (i+1):=dS bi;rw[eR,agz]at bb;refine a6.mk ad i bR rfl aL ?_;refine aJ.mk _ (bE.part (k:=0) (m:=1) (bh _) (by decide)) ?_;refine aT.mk [] [] _ (.refl _) (Lq I g.ds[i].name) ?_;rintro v J N -⟨rfl,bO,rfl⟩;subst J;refine bo.mk (λU=>?_) (λU=>?_)
  ·have hm:gI g.ds[i].name=true:=by simpa using U
   refine a6.mk ad i bR rfl aL ?_;refine aJ.mk _ (bE.part (k:=1) (m:=2) (bh _) (by decide)) ?_;refine aT.mk [] [] _ (.refl _) (afY (ar.ds _ er).t (aw.ds _ er)) ?_;rintro v J N -⟨rfl,bO,rfl⟩;subst J;refine aI.mk (λaa=>?_) (λaa=>?_)
   ·have eO:normal g.ds[i].t=false:=by simpa using aa
    exact⟨_,_,.refl,by rw[vi,b7,bb,eO,Il];rfl,rfl,rfl⟩
   ·have eO:normal g.ds[i].t=true:=by simpa using aa
    refine aQ.mk _ (bU (i:=i) (by omega)) ?_;refine⟨i+1,⟨⟨by omega,?_⟩,by omega⟩,.refl,ln,.cons rfl .nil⟩;rw[bb,hm,eO];rfl
  ·have hm:gI g.ds[i].name=false:=by simpa using U
   exact⟨_,_,.refl,by rw[vi,b7,bb,hm,nk,nk];rfl,rfl,rfl⟩
 have agm:i=g.n:=by simp at h;omega
 have agB:nG g.ds=true:=by rw[bb,ub (by omega)];rfl
 have nV:vi deb g=bif h8 deb g then 40 else bif !(List.range g.ds.length).all (mR g.ds)then 6 else bif g.ds.all λd=>d.t.ns.all (nL g.ds)then 0 else 41:=by rw[vi,b7,agB];rfl
 have pos:0<g.n:=by simp at b7;omega
 refine bo.mk (λU=>?_) (λU=>?_)
 ·have zH:g.n<=64:=by simp at U;omega
  refine aT.mk [] [] _ (.refl _) (agy ar aw.ds IG) ?_;rintro v J N -⟨rfl,bO,rfl⟩;subst J;refine cD.inv (ι:=Nat×Bool) (λx=>{ bA:=[(1,.ref 1 0),(4,.val (.bool x.2)),(5,.val (.int .i64 x.1))],cl:=[(1,[.slice g.a g.n g.c])],cj:=I }) (λx=>x.1<=g.n/\(decide (1024<mP g) || !g.ds.all λd=>gZ d.t)=(x.2 || !(g.ds.drop x.1).all λd=>gZ d.t)) (λx=>g.n-x.1) ?_ ?_;·exact⟨(0,decide (((1024:Nat):Int)<(mP g:Nat))),⟨bj _,by simp only[td];congr 1;exact decide_eq_decide.2 (by omega)⟩,.refl,da,.cons rfl .nil⟩
  rintro⟨k,b⟩⟨ae,af⟩;simp only at ae af;refine bo.mk (λcM=>?_) (λcM=>?_)
  ·have dG:k<g.n:=by simpa using cM
   have jj:k<g.ds.length:=by omega
   refine aI.mk (λcp=>?_) (λcp=>?_)
   ·have sH:b=false:=by simpa using cp
    obtain⟨ad,bR,bh⟩:=ar.aU.row a'.c0 dG jj;have er:g.ds[k]∈g.ds:=cO jj;have eR:g.ds.drop k=g.ds[k]::g.ds.drop (k+1):=dS jj;refine a6.mk ad k bR rfl dG ?_;refine aJ.mk _ (bE.part (k:=1) (m:=2) (bh _) (by decide)) ?_;refine aT.mk [] [] _ (.refl _) (Vx (ar.ds _ er).t (aw.ds _ er)) ?_;rintro v J N -⟨rfl,bO,rfl⟩;subst J;refine aQ.mk _ (bU (i:=k) (by omega)) ?_;refine⟨(k+1,!gZ g.ds[k].t),⟨⟨by simp only;omega,?_⟩,by simp only;omega⟩,.refl,da,.cons rfl .nil⟩;simp only;rw[af,eR,qR,sH,qS,Bool.not_and]
   ·have pN:b=true:=by simpa using cp
    have dk:(decide (1024<mP g) || !g.ds.all λd=>gZ d.t)=b:=by rw[af,pN,si]
    refine bo.mk (λeD=>?_) (λeD=>?_)
    ·have sH:b=false:=by simpa using eD
     rw[sH,lq,GH,gq]at dk;have eP:∀ d∈g.ds,Fit d.t 1000000/\d.t.n<=1024:=λd ai=>by have:=dk.2 d ai;unfold gZ at this;simp only[bL,ft]at this;exact⟨aw.ds d ai,this.1⟩
     have D2:=VO (deb:=deb) (ds:=g.ds) (λd ai=>by rw[(ar.ds d ai).t.n];exact(eP d ai).2) (by omega);refine aT.mk [] [] _ (.refl _) (VJ dL ar zH eP (by decide)) ?_;rintro v J N -⟨rfl,bO,rfl⟩;subst J;have EZ:h8 deb g=decide (8192<(ht deb g.ds []).length):=by have ax:decide (64<g.n)=false:=b8 (by omega);have az:(g.ds.all λd=>gZ d.t)=true:=gq.2 dk.2;rw[h8,ax,az,dk.1];rfl
     have cm:((strOf (ht deb g.ds [])).size:Int)=((ht deb g.ds []).length:Int):=rfl;refine aI.mk (λhd=>?_) (λhd=>?_)
     ·have:h8 deb g=true:=by rw[EZ];rw[cm]at hd;simp at hd |-;omega
      exact⟨_,_,.refl,by rw[nV,this];rfl,rfl,rfl⟩
     have N8:h8 deb g=false:=by rw[EZ];rw[cm]at hd;simp at hd |-;omega
     rw[N8,a5]at nV;refine cD.inv (ι:=Nat) (λi=>{ bA:=[(1,.ref 1 0),(6,.val (.int .i64 i))],cl:=[(1,[.slice g.a g.n g.c])],cj:=I }) (λi=>i<=g.n/\(List.range g.ds.length).all (mR g.ds)=((List.range g.ds.length).drop i).all (mR g.ds)) (λi=>g.n-i) ?_ ?_;·exact⟨0,⟨bj _,rfl⟩,.refl,ln,.cons rfl .nil⟩
     rintro u⟨hu,qb⟩;refine aI.mk (λh=>?_) (λh=>?_)
     ·have aL:u<g.n:=by simpa using h
      have bi:u<g.ds.length:=by omega
      obtain⟨ad,bR,bh⟩:=ar.aU.row a'.c0 aL bi;rw[VN _ bi,VM bi]at qb;refine cL.draw aS rfl rfl rfl ?_;refine a6.mk ad u bR rfl aL ?_;refine aJ.mk _ (bE.part (k:=0) (m:=1) (bh _) (by decide)) ?_;refine jc.mk _ (EY ar g.ds[u].name) ?_;rintro v J N -⟨rfl,bO,rfl⟩;subst J;refine aI.mk (λaa=>?_) (λaa=>?_)
      ·have e:decide (cV g.ds[u].name g.ds 0=(u:Int))=false:=by simpa using aa
       exact⟨_,_,.refl,by rw[nV,qb,e,nk];rfl,rfl,rfl⟩
      ·have e:decide (cV g.ds[u].name g.ds 0=(u:Int))=true:=by simpa using aa
       refine aQ.mk _ (bU (i:=u) (by omega)) ?_;refine⟨u+1,⟨⟨by omega,?_⟩,by omega⟩,.refl,ln,.cons rfl .nil⟩;rw[qb,e,nl]
     have C4:u=g.n:=by simp at h;omega
     rw[ub (by simp;omega)]at qb;rw[qb,IL,lR,a5]at nV;refine cD.inv (ι:=Nat) (λi=>{ bA:=[(1,.ref 1 0),(7,.val (.int .i64 i))],cl:=[(1,[.slice g.a g.n g.c])],cj:=I }) (λi=>i<=g.n/\(g.ds.all λd=>d.t.ns.all (nL g.ds))=((g.ds.drop i).all λd=>d.t.ns.all (nL g.ds))) (λi=>g.n-i) ?_ ?_;·exact⟨0,⟨bj _,rfl⟩,.refl,ln,.cons rfl .nil⟩
     rintro p⟨aO,mE⟩;refine aI.mk (λh=>?_) (λh=>?_)
     ·have aL:p<g.n:=by simpa using h
      have bi:p<g.ds.length:=by omega
      obtain⟨ad,bR,bh⟩:=ar.aU.row a'.c0 aL bi;have eR:g.ds.drop p=g.ds[p]::g.ds.drop (p+1):=dS bi;have au:=(ar.ds _ (cO bi)).t;rw[eR,qR]at mE;generalize g.ds[p]=d at bh mE au;have kz:=au.n;refine a6.mk ad p bR rfl aL ?_;refine aJ.mk _ (bE.part (k:=0) (m:=1) (bE.part (k:=1) (m:=2) (bh _) (by decide)) (by decide)) ?_;refine cD.inv (ι:=Nat) (λk=>{ bA:=[(1,.ref 1 0),(7,.val (.int .i64 p)),(8,.val (.slice d.t.a d.t.n d.t.c)),(9,.val (.int .i64 k))],cl:=[(1,[.slice g.a g.n g.c])],cj:=I }) (λk=>k<=d.t.n/\d.t.ns.all (nL g.ds)=(d.t.ns.drop k).all (nL g.ds)) (λk=>d.t.n-k) ?_ ?_;·exact⟨0,⟨bj _,rfl⟩,.refl,dr,.cons rfl .nil⟩
      rintro w⟨hw,qK⟩;refine aI.mk (λag=>?_) (λag=>?_)
      ·have nH:w<d.t.n:=by simpa using ag
       have E0:w<d.t.ns.length:=by omega
       obtain⟨iE,lA,lB⟩:=au.aU.row aP.c0 nH E0;have ny:=au.aU.cap;have N9:d.t.ns.drop w=d.t.ns[w]::d.t.ns.drop (w+1):=dS E0;rw[N9,qR,nL]at qK;refine cL.draw aS rfl rfl rfl ?_;refine a6.mk iE w lA rfl nH ?_;refine aJ.mk _ (bE.part (k:=0) (m:=1) (lB _) (by decide)) ?_;refine bo.mk (λdw=>?_) (λdw=>?_)
       ·have bc:decide (d.t.ns[w].k=3)=true:=dw;refine a6.mk iE w lA rfl nH ?_;refine aJ.mk _ (bE.part (k:=5) (m:=1) (lB _) (by decide)) ?_;refine aT.mk [] [] _ (.refl _) (EY ar d.t.ns[w].t) ?_;rintro v J N -⟨rfl,bO,rfl⟩;subst J;refine aI.mk (λef=>?_) (λef=>?_)
        ·have e:decide (0<=cV d.t.ns[w].t g.ds 0)=false:=by simp at ef |-;omega
         exact⟨_,_,.refl,by rw[nV,mE,qK,bc,e];rfl,rfl,rfl⟩
        ·have e:decide (0<=cV d.t.ns[w].t g.ds 0)=true:=by simp at ef |-;omega
         refine aQ.mk _ (bU (i:=w) (by omega)) ?_;refine⟨w+1,⟨⟨by omega,?_⟩,by omega⟩,.refl,dr,.cons rfl .nil⟩;rw[qK,e,qz,nl]
       ·have bc:decide (d.t.ns[w].k=3)=false:=dw;refine aQ.mk _ (bU (i:=w) (by omega)) ?_;refine⟨w+1,⟨⟨by omega,?_⟩,by omega⟩,.refl,dr,.cons rfl .nil⟩;rw[qK,bc];rfl
      ·have agC:w=d.t.n:=by simp at ag;omega
       rw[ub (by omega)]at qK;refine aQ.mk _ (bU (i:=p) (by omega)) ?_;refine⟨p+1,⟨⟨by omega,?_⟩,by omega⟩,.refl,ln,.cons rfl .nil⟩;rw[mE,qK,IL,nl]
     ·have yS:p=g.n:=by simp at h;omega
      rw[ub (by omega)]at mE;exact⟨_,_,.refl,by rw[nV,mE];rfl,rfl,rfl⟩
    ·have pN:b=true:=by simpa using eD
     exact⟨_,_,.refl,by rw[nV,VL (deb:=deb) (dk.trans pN)];rfl,rfl,rfl⟩
  ·have qn:k=g.n:=by simp at cM;omega
   have dk:(decide (1024<mP g) || !g.ds.all λd=>gZ d.t)=b:=by rw[af,qn,ub (by omega)];simp
   refine bo.mk (λeD=>?_) (λeD=>?_)
   ·have sH:b=false:=by simpa using eD
    rw[sH,lq,GH,gq]at dk;have eP:∀ d∈g.ds,Fit d.t 1000000/\d.t.n<=1024:=λd ai=>by have:=dk.2 d ai;unfold gZ at this;simp only[bL,ft]at this;exact⟨aw.ds d ai,this.1⟩
    have D2:=VO (deb:=deb) (ds:=g.ds) (λd ai=>by rw[(ar.ds d ai).t.n];exact(eP d ai).2) (by omega);refine aT.mk [] [] _ (.refl _) (VJ dL ar zH eP (by decide)) ?_;rintro v J N -⟨rfl,bO,rfl⟩;subst J;have EZ:h8 deb g=decide (8192<(ht deb g.ds []).length):=by have ax:decide (64<g.n)=false:=b8 (by omega);have az:(g.ds.all λd=>gZ d.t)=true:=gq.2 dk.2;rw[h8,ax,az,dk.1];rfl
    have cm:((strOf (ht deb g.ds [])).size:Int)=((ht deb g.ds []).length:Int):=rfl;refine aI.mk (λhd=>?_) (λhd=>?_)
    ·have:h8 deb g=true:=by rw[EZ];rw[cm]at hd;simp at hd |-;omega
     exact⟨_,_,.refl,by rw[nV,this];rfl,rfl,rfl⟩
    have N8:h8 deb g=false:=by rw[EZ];rw[cm]at hd;simp at hd |-;omega
    rw[N8,a5]at nV;refine cD.inv (ι:=Nat) (λi=>{ bA:=[(1,.ref 1 0),(6,.val (.int .i64 i))],cl:=[(1,[.slice g.a g.n g.c])],cj:=I }) (λi=>i<=g.n/\(List.range g.ds.length).all (mR g.ds)=((List.range g.ds.length).drop i).all (mR g.ds)) (λi=>g.n-i) ?_ ?_;·exact⟨0,⟨bj _,rfl⟩,.refl,ln,.cons rfl .nil⟩
    rintro u⟨hu,qb⟩;refine aI.mk (λh=>?_) (λh=>?_)
    ·have aL:u<g.n:=by simpa using h
     have bi:u<g.ds.length:=by omega
     obtain⟨ad,bR,bh⟩:=ar.aU.row a'.c0 aL bi;rw[VN _ bi,VM bi]at qb;refine cL.draw aS rfl rfl rfl ?_;refine a6.mk ad u bR rfl aL ?_;refine aJ.mk _ (bE.part (k:=0) (m:=1) (bh _) (by decide)) ?_;refine jc.mk _ (EY ar g.ds[u].name) ?_;rintro v J N -⟨rfl,bO,rfl⟩;subst J;refine aI.mk (λaa=>?_) (λaa=>?_)
     ·have e:decide (cV g.ds[u].name g.ds 0=(u:Int))=false:=by simpa using aa
      exact⟨_,_,.refl,by rw[nV,qb,e,nk];rfl,rfl,rfl⟩
     ·have e:decide (cV g.ds[u].name g.ds 0=(u:Int))=true:=by simpa using aa
      refine aQ.mk _ (bU (i:=u) (by omega)) ?_;refine⟨u+1,⟨⟨by omega,?_⟩,by omega⟩,.refl,ln,.cons rfl .nil⟩;rw[qb,e,nl]
    have C4:u=g.n:=by simp at h;omega
    rw[ub (by simp;omega)]at qb;rw[qb,IL,lR,a5]at nV;refine cD.inv (ι:=Nat) (λi=>{ bA:=[(1,.ref 1 0),(7,.val (.int .i64 i))],cl:=[(1,[.slice g.a g.n g.c])],cj:=I }) (λi=>i<=g.n/\(g.ds.all λd=>d.t.ns.all (nL g.ds))=((g.ds.drop i).all λd=>d.t.ns.all (nL g.ds))) (λi=>g.n-i) ?_ ?_;·exact⟨0,⟨bj _,rfl⟩,.refl,ln,.cons rfl .nil⟩
    rintro p⟨aO,mE⟩;refine aI.mk (λh=>?_) (λh=>?_)
    ·have aL:p<g.n:=by simpa using h
     have bi:p<g.ds.length:=by omega
     obtain⟨ad,bR,bh⟩:=ar.aU.row a'.c0 aL bi;have eR:g.ds.drop p=g.ds[p]::g.ds.drop (p+1):=dS bi;have au:=(ar.ds _ (cO bi)).t;rw[eR,qR]at mE;generalize g.ds[p]=d at bh mE au;have kz:=au.n;refine a6.mk ad p bR rfl aL ?_;refine aJ.mk _ (bE.part (k:=0) (m:=1) (bE.part (k:=1) (m:=2) (bh _) (by decide)) (by decide)) ?_;refine cD.inv (ι:=Nat) (λk=>{ bA:=[(1,.ref 1 0),(7,.val (.int .i64 p)),(8,.val (.slice d.t.a d.t.n d.t.c)),(9,.val (.int .i64 k))],cl:=[(1,[.slice g.a g.n g.c])],cj:=I }) (λk=>k<=d.t.n/\d.t.ns.all (nL g.ds)=(d.t.ns.drop k).all (nL g.ds)) (λk=>d.t.n-k) ?_ ?_;·exact⟨0,⟨bj _,rfl⟩,.refl,dr,.cons rfl .nil⟩
     rintro w⟨hw,qK⟩;refine aI.mk (λag=>?_) (λag=>?_)
     ·have nH:w<d.t.n:=by simpa using ag
      have E0:w<d.t.ns.length:=by omega
      obtain⟨iE,lA,lB⟩:=au.aU.row aP.c0 nH E0;have ny:=au.aU.cap;have N9:d.t.ns.drop w=d.t.ns[w]::d.t.ns.drop (w+1):=dS E0;rw[N9,qR,nL]at qK;refine cL.draw aS rfl rfl rfl ?_;refine a6.mk iE w lA rfl nH ?_;refine aJ.mk _ (bE.part (k:=0) (m:=1) (lB _) (by decide)) ?_;refine bo.mk (λdw=>?_) (λdw=>?_)
      ·have bc:decide (d.t.ns[w].k=3)=true:=dw;refine a6.mk iE w lA rfl nH ?_;refine aJ.mk _ (bE.part (k:=5) (m:=1) (lB _) (by decide)) ?_;refine aT.mk [] [] _ (.refl _) (EY ar d.t.ns[w].t) ?_;rintro v J N -⟨rfl,bO,rfl⟩;subst J;refine aI.mk (λef=>?_) (λef=>?_)
       ·have e:decide (0<=cV d.t.ns[w].t g.ds 0)=false:=by simp at ef |-;omega
        exact⟨_,_,.refl,by rw[nV,mE,qK,bc,e];rfl,rfl,rfl⟩
       ·have e:decide (0<=cV d.t.ns[w].t g.ds 0)=true:=by simp at ef |-;omega
        refine aQ.mk _ (bU (i:=w) (by omega)) ?_;refine⟨w+1,⟨⟨by omega,?_⟩,by omega⟩,.refl,dr,.cons rfl .nil⟩;rw[qK,e,qz,nl]
      ·have bc:decide (d.t.ns[w].k=3)=false:=dw;refine aQ.mk _ (bU (i:=w) (by omega)) ?_;refine⟨w+1,⟨⟨by omega,?_⟩,by omega⟩,.refl,dr,.cons rfl .nil⟩;rw[qK,bc];rfl
     ·have agC:w=d.t.n:=by simp at ag;omega
      rw[ub (by omega)]at qK;refine aQ.mk _ (bU (i:=p) (by omega)) ?_;refine⟨p+1,⟨⟨by omega,?_⟩,by omega⟩,.refl,ln,.cons rfl .nil⟩;rw[mE,qK,IL,nl]
    ·have yS:p=g.n:=by simp at h;omega
     rw[ub (by omega)]at mE;exact⟨_,_,.refl,by rw[nV,mE];rfl,rfl,rfl⟩
   ·have pN:b=true:=by simpa using eD
    exact⟨_,_,.refl,by rw[nV,VL (deb:=deb) (dk.trans pN)];rfl,rfl,rfl⟩
 ·have zH:64<g.n:=by simp at U;omega
  refine cD.inv (ι:=Nat×Bool) (λx=>{ bA:=[(1,.ref 1 0),(4,.val (.bool x.2)),(5,.val (.int .i64 x.1))],cl:=[(1,[.slice g.a g.n g.c])],cj:=I }) (λx=>x.1<=g.n/\true=(x.2 || !(g.ds.drop x.1).all λd=>gZ d.t)) (λx=>g.n-x.1) ?_ ?_;·exact⟨(0,true),⟨bj _,rfl⟩,.refl,.cons .refl (.cons .lit (.cons .refl .nil)),.cons rfl .nil⟩
  rintro⟨k,b⟩⟨ae,af⟩;simp only at ae af;refine bo.mk (λcM=>?_) (λcM=>?_)
  ·have dG:k<g.n:=by simpa using cM
   have jj:k<g.ds.length:=by omega
   refine aI.mk (λcp=>?_) (λcp=>?_)
   ·have sH:b=false:=by simpa using cp
    obtain⟨ad,bR,bh⟩:=ar.aU.row a'.c0 dG jj;have er:g.ds[k]∈g.ds:=cO jj;have eR:g.ds.drop k=g.ds[k]::g.ds.drop (k+1):=dS jj;refine a6.mk ad k bR rfl dG ?_;refine aJ.mk _ (bE.part (k:=1) (m:=2) (bh _) (by decide)) ?_;refine aT.mk [] [] _ (.refl _) (Vx (ar.ds _ er).t (aw.ds _ er)) ?_;rintro v J N -⟨rfl,bO,rfl⟩;subst J;refine aQ.mk _ (bU (i:=k) (by omega)) ?_;refine⟨(k+1,!gZ g.ds[k].t),⟨⟨by simp only;omega,?_⟩,by simp only;omega⟩,.refl,da,.cons rfl .nil⟩;simp only;rw[af,eR,qR,sH,qS,Bool.not_and]
   ·have pN:b=true:=by simpa using cp
    have dk:true=b:=by rw[af,pN,si]
    refine bo.mk (λeD=>?_) (λeD=>?_)
    ·have sH:b=false:=by simpa using eD
     rw[sH]at dk;cases dk
    ·have pN:b=true:=by simpa using eD
     exact⟨_,_,.refl,by rw[nV,show h8 deb g=true from by rw[h8,fA zH,si]];rfl,rfl,rfl⟩
  ·have qn:k=g.n:=by simp at cM;omega
   have dk:true=b:=by rw[af,qn,ub (by omega)];simp
   refine bo.mk (λeD=>?_) (λeD=>?_)
   ·have sH:b=false:=by simpa using eD
    rw[sH]at dk;cases dk
   ·have pN:b=true:=by simpa using eD
    exact⟨_,_,.refl,by rw[nV,show h8 deb g=true from by rw[h8,fA zH,si]];rfl,rfl,rfl⟩
def agD{g:b3}(ar:g.ok I)(name:ByteArray){q:Nat}(aE:cV name g.ds 0=q):Spec Tryz.prog 74 [g.val,.string name] I M0 (λv I' M'=>v=.int .i64 q/\I'=I/\M'=M0):=by refine Spec.qH (Spec.frame (EY ar name)) ?_;rintro v J M⟨M',rfl,-,-,rfl,rfl,rfl⟩;rw[aE];exact⟨rfl,rfl,rfl⟩
def ug.loop(s:ug)(i:Nat):ug:=⟨s.n,s.m,s.w ||| afK i⟩
def VP(ds:List a')(F:List bp)(i:Nat):List Nat:=match ds[i]? with
 |some d=>(afJ (l7 ds) F d.t.ns d.t.root).2| none=>[]
def zI{α:Type}(n:Nat)(body:List α->Nat->α)(l:List α):List α:=(List.range n).map (body l)
def IM(n:Nat)(body:List α->Nat->α)(l:List α):(zI n body l).length=n:=by simp[zI]
def N'{n:Nat}(body:List α->Nat->α)(l:List α)(b:α){i:Nat}(h:i<n):(zI n body l).getD i b=body l i:=by simp[zI,cQ,h]
section
variable{α:Type}{O:BF α}{n:Nat}{body:List α->Nat->α}(ue:∀ {l m:List α},jy O l m->∀ i,i<n->O.le (body l i) (body m i))
include ue
def BG.all{l:List α}(h:BG O n body l):BG O n body (zI n body l)/\jy O l (zI n body l):=by
 have hle:jy O l (zI n body l):=.of (by rw[IM,h.len]) λi hi=>by rw[N' _ _ _ (by rw[<-h.len];exact hi)];exact h.up i (by rw[<-h.len];exact hi)
 refine⟨⟨IM _ _ _,λi hi=>?_,λm hm aA=>?_⟩,hle⟩
 ·rw[N' _ _ _ hi];exact ue hle i hi
 ·refine .of (by rw[IM,hm]) λi hi=>?_;rw[IM]at hi;rw[N' _ _ _ hi];exact O.trans (ue (h.least m hm aA) i hi) (aA i hi)
end
section
variable{n:Nat}{body:List cF->Nat->cF}(ue:∀ {l m:List cF},jy xy l m->∀ i,i<n->xy.le (body l i) (body m i))
include ue
end
structure IN where
 l:List bp
 a:Option Addr
 n:Nat
 c:Nat
def IN.val(x:IN):Value:=.slice x.a x.n x.c
structure Oa(I:aN)(x:IN):Prop where
 at_:vb I [] x.a x.n x.l
 n:x.n<=9223372036854775807
def Oa.mono{x:IN}(h:Oa I x)(a9:∀ b o,I b=some o->I' b=some o):Oa I' x:=⟨h.at_.mono a9,h.n⟩
def Ob{ds:List a'}{f:a'->bp}{i:Nat}(h:i<ds.length):(ds.map f).getD i gL=f ds[i]:=by simp[cQ,h]
def AR.all{ds:List a'}{l:List bp}(h:AR ds l):AR ds (ds.map (oy (l7 ds) l))/\et l (ds.map (oy (l7 ds) l)):=by
 have hle:et l (ds.map (oy (l7 ds) l)):=et.of (by simp[h.len]) λi hi=>by rw[Ob (by rw[<-h.len];exact hi)];exact h.up i _
 refine⟨⟨by simp,λi hi=>?_,λm hm aA=>et.of (by simp[hm]) λi hi=>?_⟩,hle⟩
 ·rw[Ob hi];exact DO hle _
 ·have cT:i<ds.length:=by simpa using hi
  rw[Ob cT];exact(DO (h.least m hm aA) _).trans (aA i cT)
def VQ(deb:List Int)(g:b3)(l:List cF)(t:bJ):Bool:=decide (l.length=g.n)&&(decide (ed deb g=0)&&(right t&&abq (l7 g.ds) t.ns))
def Oc(dL:zF deb){g:b3}(ar:g.ok I)(aw:ui g):Spec Tryz.prog 52 [g.val] I M0 (λv I' M'=>v=.int .i64 (ed deb g)/\I'=I/\M'=M0):=by refine Spec.qH (Spec.frame (agA dL ar aw)) ?_;rintro v J M⟨M',rfl,-,-,rfl,rfl,rfl⟩;rw[SH];exact⟨rfl,rfl,rfl⟩
def agE(pl:List (ByteArray×Int))(F:List bp)(d:aP)(xs:List ((bp×List Nat)×Bool)):Bool:=xs.any λx=>(decide (d.k=6)&&(decide (d.hi=-1)&&x.1.1.z))||x.2
def agF(pl:List (ByteArray×Int))(F:List bp)(d:aP)(xs:List ((bp×List Nat)×Bool)):(bp×List Nat)×Bool:=(Vn pl F d (xs.map (·.1)),agE pl F d xs)
def agG(pl:List (ByteArray×Int))(F:List bp)(ns:List aP)(j:Int):(bp×List Nat)×Bool:=wC ((gL,[]),false) (λd g=>agF pl F d (d.kids.map g)) ns j
def agH(ds:List a')(F:List bp)(i:Nat):List Nat:=(List.range ds.length).filter λk=>(VP ds F i).contains k
def Od(p:Nat->Bool)(i:Nat):((List.range i).filter p).length<=i:=by have:=xL p (List.range i);simpa using this
def agI(ds:List a')(F:List bp)(i:Nat):Bool:=match ds[i]? with
 |some d=>(agG (l7 ds) F d.t.ns d.t.root).2| none=>false
def agJ(ds:List a')(F:List bp):List Nat:=(List.range ds.length).filter (agI ds F)
inductive nW(A:Nat->List Nat):Nat->Nat->Prop
 |one{i k}(h:k∈A i):nW A i k| step {i j k} (h:j∈A i) (t:nW A j k):nW A i k
def nW.snoc{A:Nat->List Nat}{i j k:Nat}(h:nW A i j)(ae:k∈A j):nW A i k:=by
 induction h with
 |one h=>exact .step h (.one ae)| step h t a2=>exact .step h (a2 ae)
def uj:List Nat->List Nat->List Nat
 |[],l=>l| x::r,l=>uj r (bif l.contains x then l else l++[x])
def BO:∀ (r l:List Nat) (x:Nat),x∈uj r l ↔ x∈l\/x∈r
 |[],l,x=>by simp[uj]
 |y::r,l,x=>by
  rw[uj,BO r];cases h:l.contains y with
  |true=>
   have aG:y∈l:=by simpa using h
   rw[ba];constructor
   ·rintro(a | a)
    ·exact .inl a
    ·exact .inr (.tail _ a)
   ·rintro(a | a)
    ·exact .inl a
    ·rcases dE.1 a with rfl | a
     ·exact .inl aG
     ·exact .inr a
  |false=>
   rw[a5];rw[en,kh,dE];constructor
   ·rintro((a | a) | a)
    ·exact .inl a
    ·exact .inr (.inl a)
    ·exact .inr (.inr a)
   ·rintro(a | a | a)
    ·exact .inl (.inl a)
    ·exact .inl (.inr a)
    ·exact .inr a
def VR:∀ (r l:List Nat),∃ s,uj r l=l++s
 |[],l=>⟨[],by simp[uj]⟩
 |y::r,l=>by
  obtain⟨s,ao⟩:=VR r (bif l.contains y then l else l++[y]);rw[uj,ao];cases l.contains y with
  |true=>exact⟨s,rfl⟩| false=>exact⟨[y]++s,by simp⟩
def VS:∀ (r l:List Nat),l.Nodup->(uj r l).Nodup
 |[],l,h=>h
 |y::r,l,h=>by
  rw[uj];apply VS r;cases aA:l.contains y with
  |true=>exact h
  |false=>
   have aG:y ∉ l:=by simpa using aA
   rw[a5,xM];refine⟨h,by simp,λa aD b af e=>?_⟩;have:b=y:=by simpa using af
   subst this;subst e;exact aG aD
def VT:∀ (n:Nat) (l:List Nat),l.Nodup->(∀ x∈l,x<n)->l.length<=n
 |0,[],_,_=>b6 _| 0,a::l,_,h=>absurd (h a (.head _)) (EI _)
 |n+1,l,ai,h=>by
  have U:=VT n (l.erase n) (ai.erase n) λx ab=>by have aa:=h x (List.mem_of_mem_erase ab);have ag:x≠n:=(ai.mem_erase_iff.1 ab).1;omega
  have aK:=List.length_erase (a:=n) (l:=l);split at aK<;>omega
structure E1(A:Nat->List Nat)(n k:Nat)(q6 l:List Nat):Prop where
 bS:l.Nodup
 lt:∀ x∈l,x<n
 sub:∀ x∈q6,x∈l
 src:∀ x∈l,x∈q6\/∃ y∈q6,nW A y x
 oG:∀ j x,j<k->l[j]?=some x->∀ y∈A x,y∈l
 k:k<=l.length
def E1.len{A:Nat->List Nat}{n k:Nat}(h:E1 A n k q6 l):l.length<=n:=VT n l h.bS h.lt
def E1.next{A:Nat->List Nat}{n k:Nat}(ea:∀ x,∀ y∈A x,y<n)(h:E1 A n k q6 l)(ab:l[k]?=some x):E1 A n (k+1) q6 (uj (A x) l):=by
 obtain⟨s,ao⟩:=VR (A x) l;have ae:k<l.length:=by
  rcases EJ k l.length with U | U;·exact U
  ·rw[z7 U]at ab;cases ab
 have lx:x∈l:=vQ ab;refine⟨VS _ _ h.bS,λz bd=>?_,λz bd=>(BO _ _ _).2 (.inl (h.sub z bd)),λz bd=>?_,λj z al bd y aG=>?_,by rw[ao];simp;omega⟩
 ·rcases(BO _ _ _).1 bd with a | a
  ·exact h.lt z a
  ·exact ea x z a
 ·rcases(BO _ _ _).1 bd with a | a
  ·exact h.src z a
  ·rcases h.src x lx with b | ⟨w,hw,b⟩
   ·exact .inr ⟨x,b,.one a⟩
   ·exact .inr ⟨w,hw,b.snoc a⟩
 ·have ir:l[j]?=some z:=by rw[ao,kJ (by omega)]at bd;exact bd
  by_cases e:j=k;·subst e;rw[ab]at ir;obtain rfl:=qp ir;exact(BO _ _ _).2 (.inr aG)
  ·exact(BO _ _ _).2 (.inl (h.oG j z (by omega) ir y aG))
open Classical in
noncomputable def agK(ds:List a')(F:List bp):List Nat:=(List.range ds.length).filter λi=>decide (nW (VP ds F) i i)
def A8(z:Int):List Value:=[.int .i64 z]
def VU(deb:List Int)(g:b3)(r:Int)(l:List Nat):Prop:=((ed deb g≠0\/r<0\/(g.n:Int)<=r)/\l=[])\/(ed deb g=0/\∃ F k,r=(k:Nat)/\k<g.n/\vc g.ds F/\l=agH g.ds F k)
def VV(deb:List Int)(g:b3)(l:List Nat):Prop:=(ed deb g≠0/\l=[])\/(ed deb g=0/\∃ F,vc g.ds F/\l=agJ g.ds F)
def VW(deb:List Int)(g:b3)(l:List Nat):Prop:=(ed deb g≠0/\l=[])\/(ed deb g=0/\∃ F,vc g.ds F/\l=agK g.ds F)
def nW.trans{A:Nat->List Nat}{i j k:Nat}(h:nW A i j)(a1:nW A j k):nW A i k:=by
 induction h with
 |one h=>exact .step h a1| step h t a2=>exact .step h (a2 a1)
def iL:List Bool->Nat
 |[]=>0| b::r=>bif b then iL r+1 else iL r
def getD_set_true(s:List Bool)(i k:Nat)(hi:i<s.length):(s.set i true).getD k false=(decide (k=i)||s.getD k false):=by
 simp only[cQ,mC];by_cases e:i=k
 ·subst e;simp[hi]
 ·have:¬ k=i:=λh=>e h.symm;simp[e,this]
structure Oe(A:Nat->List Nat)(n:Nat)(s:List Bool):Prop where
 len:s.length=n
 Of:∀ i,s.getD i false=true->∀ x,(x=i\/nW A i x)->¬ nW A x x
def Oe.put{A:Nat->List Nat}{n:Nat}(h:Oe A n s){i:Nat}(hi:i<n)(aw:s.getD i false=false)(ay:∀ k∈A i,s.getD k false=true):Oe A n (s.set i true):=by
 refine⟨by rw[yP];exact h.len,λj al x ab=>?_⟩;rw[getD_set_true _ _ _ (by rw[h.len];exact hi)]at al;by_cases e:j=i
 ·subst e;have key:∀ y,nW A j y->¬ nW A y y:=λy aG=>by
   cases aG with
   |one U=>exact h.Of y (ay _ U) y (.inl rfl)| step U t=>exact h.Of _ (ay _ U) y (.inr t)
  rcases ab with rfl | ab;·intro aA;exact key _ aA aA
  ·exact key _ ab
 ·rw[b8 e,qS]at al;exact h.Of j al x ab
structure Og(A:Nat->List Nat)(n:Nat)(eh s:List Bool)(i:Nat):Prop where
 sub:∀ k,eh.getD k false=true->s.getD k false=true
 agL:∀ j,j<i->j<n->(∀ k∈A j,eh.getD k false=true)->s.getD j false=true
def Og.put{A:Nat->List Nat}{n:Nat}{eh:List Bool}{i:Nat}(h:Og A n eh s i)(hi:i<s.length):Og A n eh (s.set i true) (i+1):=by
 refine⟨λk ae=>?_,λj al av ay=>?_⟩
 ·rw[getD_set_true _ _ _ hi,h.sub k ae,qz]
 ·rw[getD_set_true _ _ _ hi];by_cases e:j=i
  ·simp[e]
  ·rw[h.agL j (by omega) av ay,qz]
section
variable{I:aN}{M0:List aC}{deb:List Int}
end
structure sI where
 k:Int
 eh:Int
 s1:Int
 s2:Int
 fJ:Int
 t:List UInt8
 lo:Int
 hi:Int
 kids:List Int
def sI.bS(c:sI)(a:Option Addr)(n k:Nat):aP:=⟨c.k,c.eh,c.s1,c.s2,c.fJ,⟨c.t.toArray⟩,c.lo,c.hi,a,n,k,c.kids⟩
inductive xA:List sI->List aP->Prop
 |nil:xA [] []| cons {c cs ns} (a:Option Addr) (n k:Nat) (t:xA cs ns):xA (c::cs) (c.bS a n k::ns)
structure xB where
 ns:List sI
 root:Int
structure IP(c:xB)(t:bJ):Prop where
 ns:xA c.ns t.ns
 root:t.root=c.root
structure qL where
 name:List UInt8
 t:xB
inductive uk:List qL->List a'->Prop
 |nil:uk [] []| cons {c cs ds} {t:bJ} (h:IP c.t t) (k:uk cs ds):uk (c::cs) (⟨⟨c.name.toArray⟩,t⟩::ds)
section
variable{D:bu}{v:ak}{u:Value}
end
section
variable{Y:fC}{D:bu}{m:a8}{I J:aN}{M:List aC}
end
def sI.pl(c:sI):aP:=c.bS none 0 0
def xB.Hk(c:xB):bJ:=⟨c.ns.map sI.pl,none,c.ns.length,0,c.root⟩
def qL.Oh(c:qL):a':=⟨⟨c.name.toArray⟩,c.t.Hk⟩
def E2(cs:List qL):b3:=⟨cs.map qL.Oh,none,cs.length,0⟩
def xA.cJ{cs:List sI}{ns:List aP}(h:xA cs ns):ns.map aP.cJ=cs.map sI.pl:=by
 induction h with
 |nil=>rfl| cons a n k t a2=>rw[dA,dA,a2];rfl
def xA.len{cs:List sI}{ns:List aP}(h:xA cs ns):ns.length=cs.length:=by
 induction h with
 |nil=>rfl| cons a n k t a2=>simp[a2]
def IP.cJ{c:xB}{t:bJ}(h:IP c t)(au:t.ok I):t.cJ=c.Hk:=by unfold bJ.cJ xB.Hk;rw[h.ns.cJ,h.root,<-au.n,h.ns.len]
def uk.cJ{cs:List qL}{ds:List a'}(h:uk cs ds)(ai:∀ d∈ds,d.ok I):ds.map a'.cJ=cs.map qL.Oh:=by
 induction h with
 |nil=>rfl| cons h k a2=>rw[dA,dA,a2 λd gi=>ai d (.tail _ gi)];congr 1;unfold a'.cJ qL.Oh;rw[h.cJ (ai _ (.head _)).t]
def uk.len{cs:List qL}{ds:List a'}(h:uk cs ds):ds.length=cs.length:=by
 induction h with
 |nil=>rfl| cons h k a2=>simp[a2]
def agM{cs:List qL}{g:b3}(h:uk cs g.ds)(ar:g.ok I):g.cJ=E2 cs:=by unfold b3.cJ E2;rw[h.cJ ar.ds,<-ar.n,h.len]
def agN(c:xB):Bool:=c.ns.all λn=>decide (n.kids.length<=1000)
def agO{c:xB}{t:bJ}(h:IP c t)(au:t.ok I)(ae:agN c=true):NZ t:=λn av=>by
 have U:=(au.ns n av).kn;have aa:n.cJ∈c.ns.map sI.pl:=by rw[<-h.ns.cJ];exact du.2 ⟨n,av,rfl⟩
 obtain⟨x,ab,e⟩:=du.1 aa;have ag:=cr (gq.1 ae x ab);have aK:x.kids=n.kids:=congrArg aP.kids e;rw[aK]at ag;omega
def agP{cs:List qL}{ds:List a'}(h:uk cs ds)(ai:∀ d∈ds,d.ok I)(ae:(cs.all λd=>d.t.ns.all λn=>decide (n.kids.length<=1000))=true):∀ d∈ds,NZ d.t:=by
 induction h with
 |nil=>intro d ai;cases ai
 |cons h k a2=>
  simp only[qR,bL]at ae;intro d hm;rcases dE.1 hm with rfl | hm;·exact agO h (ai _ (.head _)).t ae.1
  ·exact a2 (λd gi=>ai d (.tail _ gi)) (by simpa using ae.2) d hm
def agQ{ds:List a'}{l:List bp}(h:vc (ds.map a'.cJ) l):vc ds l:=by
 refine⟨by rw[h.len,ei],λi hi=>?_,λm hm aA=>?_⟩
 ·have:=h.fix i (by simpa using hi);rwa [Sg,jJ,Sh]at this
 ·refine h.least m (by rw[hm,ei]) λi hi=>?_;rw[Sg,jJ,Sh];exact aA i (by simpa using hi)
structure VX(cs:List qL)(F:List bp):Prop where
 may:ed fv (E2 cs)=0
 agR:vc (E2 cs).ds F
 kb:(cs.all λd=>d.t.ns.all λn=>decide (n.kids.length<=1000))=true
def VX.of{cs:List qL}{F:List bp}(fl:VX cs F){g:b3}(ar:g.ok I)(aZ:uk cs g.ds):ed fv g=0/\vc g.ds F/\(∀ d∈g.ds,NZ d.t):=by
 have iC:=agM aZ ar;have k2:g.ds.map a'.cJ=(E2 cs).ds:=congrArg b3.ds iC;have hm:ed fv g=0:=by rw[<-abC,iC];exact fl.may
 refine⟨hm,?_,agP aZ ar.ds fl.kb⟩;have:=fl.agR;rw[<-k2]at this;exact agQ this
def VY{p:Nat->Bool}{k:Nat}:∀ {l:List Nat},l.Pairwise (· < ·)->k∈l->p k=true->(∀ j∈l,j<k->p j=false)->l.filter p=k::l.filter λj=>p j && !decide (j=k)
 |x::xs,ao,ae,aO,af=>by
  obtain⟨U,aa⟩:=List.pairwise_cons.1 ao;rcases dE.1 ae with rfl | ae
  ·have e:(k::xs).filter (λj=>p j && !decide (j=k))=xs.filter p:=by
    rw[vR];simp;apply FG;intro j al;have:=U j al;have:¬ j=k:=by omega
    simp[this]
   rw[e,vR,aO];rfl
  ·have ab:=U k ae;have r1:=af x (by simp) ab;rw[vR,r1,vR,r1];simp only[nk,iP,jC];exact VY aa ae aO λj al IQ=>af j (by simp[al]) IQ
def agS{n:Nat}(aq:n≠0)(h:n<2^64):∃ k,k<64/\n &&& (2^64-n)=2^k/\n.testBit k=true/\(∀ j,j<k->n.testBit j=false)/\∀ j,(n &&& (n-1)).testBit j=(n.testBit j && !decide (j=k)):=by
 obtain⟨m,hm,ae⟩:=Lib.ctzFrom_spec 64 n (by omega) h;generalize Lib.ctzFrom 64 n=k at hm ae;have ax:n=2^(k+1)*m+2^k:=by rw[hm,Nat.pow_succ,CQ,hD,Nat.mul_assoc]
 have aO:=Nat.two_pow_pos k;have az:n-1=2^(k+1)*m+(2^k-1):=by omega
 have nr:2^k<2^(k+1):=by rw[Nat.pow_succ];omega
 have t1:∀ j,n.testBit j=if j<k+1 then decide (k=j)else m.testBit (j-(k+1)):=λj=>by rw[ax,VK _ nr,Cb]
 have t2:∀ j,(n-1).testBit j=if j<k+1 then decide (j<k)else m.testBit (j-(k+1)):=λj=>by rw[az,VK _ (by omega),MI]
 refine⟨k,ae,?_,?_,λj al=>?_,λj=>?_⟩
 ·have:=Lib.and_neg 64 k m (by rw[<-hm];exact h);rwa [<-hm]at this
 ·rw[t1];simp
 ·rw[t1,dv (by omega)];simp;omega
 ·rw[Jt,t1,t2];by_cases al:j<k+1
  ·rw[dv al,dv al];by_cases IQ:j=k
   ·subst IQ;simp
   ·have:¬ k=j:=λe=>IQ e.symm;simp[this]
  ·rw[dc al,dc al];have:¬ j=k:=by omega
   simp[this]
def agT:∀ k:Fin 64,fv.getD (2^k.val*285870213051353865%18446744073709551616/288230376151711744) 0=(k.val:Int):=by decide +kernel
def agU{n k:Nat}(aq:n≠0)(h:n<2^64)(ae:k<64)(ay:n &&& (2^64-n)=2^k):qj fv (n:Int)=k:=by
 have b7:decide ((n:Int)=0)=false:=b8 (by omega);have hw:IntKind.u64.wrap (0-(n:Int))=((2^64-n:Nat):Int):=by simp[IntKind.wrap,IntKind.signed,IntKind.bits];omega
 have aD:AB (n:Int) ((2^64-n:Nat):Int)=((2^k:Nat):Int):=by rw[KA ⟨by omega,by omega⟩ ⟨by omega,by omega⟩,jA,jA,ay]
 have au:(po (n:Int)).toNat=2^k*285870213051353865%18446744073709551616:=by
  unfold po;rw[hw,aD];have:((2^k:Nat):Int)*285870213051353865=((2^k*285870213051353865:Nat):Int):=by simp
  rw[this];generalize 2^k*285870213051353865=q;simp[IntKind.wrap,IntKind.signed,IntKind.bits];omega
 unfold qj;rw[b7,a5,au];exact agT ⟨k,ae⟩
def agV{n:Nat}(aq:n≠0)(h:n<2^64):tn (n:Int)=((n &&& (n-1):Nat):Int):=by have ao:eF ((n:Int)-1):=⟨by omega,by omega⟩;unfold tn;rw[tl ao,KA ⟨by omega,by omega⟩ ao];congr 2;omega
def E3(i:Nat)(hi:i<4):∀ (f n:Nat),n<2^64->((List.range 64).filter n.testBit).length<=f->qm fv i f (n:Int)=((List.range 64).filter n.testBit).map λj=>UInt8.ofNat (i*64+j)
 |0,n,h,aw=>by rw[lV (Nat.le_zero.1 aw)];rfl
 |f+1,n,h,aw=>by
  unfold qm;by_cases aq:n=0;·subst aq;simp
  ·have b7:decide ((n:Int)=0)=false:=b8 (by omega);obtain⟨k,ae,ay,af,aL,agW⟩:=agS aq h;have agX:(List.range 64).filter n.testBit=k::(List.range 64).filter (n &&& (n-1)).testBit:=by rw[VY List.pairwise_lt_range (kk.2 ae) af λj _ al=>aL j al];congr 1;apply FG;intro j _;rw[agW]
   rw[agX]at aw |-;have hle:n &&& (n-1)<=n-1:=Nat.and_le_right;rw[b7,a5,agV aq h,E3 i hi f _ (by omega) (by simp at aw;omega),dA];congr 1;unfold byteOf;rw[agU aq h ae ay];have:IntKind.u8.wrap ((i:Int)*64+(k:Int))=((i*64+k:Nat):Int):=by simp[IntKind.wrap,IntKind.signed,IntKind.bits];omega
   rw[this,jA]
def agY{a b c d:Int}(fz:∀ x∈[a,b,c,d],eF x):gx fv 0 [a,b,c,d]=((List.range 256).filter (jW [a,b,c,d])).map UInt8.ofNat:=by
 have nat:∀ x∈[a,b,c,d],∃ n:Nat,x=n/\n<2^64:=λx ab=>by have:=fz x ab;obtain⟨n,rfl⟩:=jf this.1;exact⟨n,rfl,by have:=this.2;omega⟩
 obtain⟨a,rfl,aD⟩:=nat a (by simp);obtain⟨b,rfl,af⟩:=nat b (by simp);obtain⟨c,rfl,aA⟩:=nat c (by simp);obtain⟨d,rfl,ai⟩:=nat d (by simp);have len:∀ n:Nat,((List.range 64).filter n.testBit).length<=64:=λn=>by have:=xL n.testBit (List.range 64);simpa using this
 unfold gx gx gx gx gx;rw[E3 0 (by decide) 64 a aD (len _),E3 (0+1) (by decide) 64 b af (len _),E3 (0+1+1) (by decide) 64 c aA (len _),E3 (0+1+1+1) (by decide) 64 d ai (len _)];have an:List.range 256=(List.range 64).map (0*64+·)++((List.range 64).map (1*64+·)++((List.range 64).map (2*64+·)++(List.range 64).map (3*64+·))):=by decide +kernel
 have part:∀ (i:Nat) (n:Nat),i<4->([(a:Int),b,c,d].getD i 0)=n->(((List.range 64).map (i*64+·)).filter (jW [(a:Int),b,c,d]))=((List.range 64).filter n.testBit).map (i*64+·):=λi n hi av=>by rw[List.filter_map];congr 1;apply FG;intro j al;have al:=kk.1 al;simp only[Function.comp,jW];rw[show(i*64+j)/64=i by omega,show(i*64+j)%64=j by omega,av,jA]
 rw[an];simp only[Bq,gg];rw[part 0 a (by decide) rfl,part 1 b (by decide) rfl,part 2 c (by decide) rfl,part 3 d (by decide) rfl];simp only[oq,fo];rfl
def pO(p:Nat->Bool)(n:Nat):List UInt8:=((List.range n).filter p).map UInt8.ofNat
def IR(p:Nat->Bool)(n:Nat):pO p (n+1)=pO p n++(bif p n then [UInt8.ofNat n]else []):=by
 unfold pO;rw[zx,Bq,gg];cases h:p n<;>simp[h]
def agZ(l:List (UInt8×UInt8))(b:UInt8):((nC l b).getLast?).map (·.2)=some b:=by
 unfold nC;split
 ·rename_i p h;cases decide ((p.2.toNat:Int)+1=b.toNat)<;>simp
 ·rfl
def ag0(l:List UInt8):((iT l).getLast?).map (·.2)=l.getLast?:=by
 rcases J4 l with h | ⟨m,b,h⟩
 ·subst h;rfl
 ·rw[h,List.concat_eq_append,GD,agZ];simp
def VZ(p:Nat->Bool):∀ (n:Nat),n<=256->∀ x,(pO p n).getLast?=some x->∃ j,j<n/\p j=true/\x.toNat=j
 |0,_,x,h=>by simp[pO]at h
 |n+1,av,x,h=>by
  rw[IR]at h;cases aO:p n with
  |true=>rw[aO,ba]at h;simp at h;exact⟨n,by omega,aO,by rw[<-h];exact uf (by omega)⟩| false=>rw[aO,a5,fo]at h;obtain⟨j,U,aa,ag⟩:=VZ p n (by omega) x h;exact⟨j,by omega,aa,ag⟩
def V0(p:Nat->Bool){n:Nat}(av:n<256)(aO:n=0\/p (n-1)=false):nC (iT (pO p n)) (UInt8.ofNat n)=iT (pO p n)++[(UInt8.ofNat n,UInt8.ofNat n)]:=by
 unfold nC;split
 ·rename_i q h;have ay:=ag0 (pO p n);rw[h]at ay;obtain⟨j,U,aa,ag⟩:=VZ p n (by omega) q.2 ay.symm;have bk:decide ((q.2.toNat:Int)+1=(UInt8.ofNat n).toNat)=false:=by
   rw[uf av,ag];apply b8;intro e;have:j=n-1:=by omega
   rcases aO with aO | aO;·omega
   ·rw[this,aO]at aa;cases aa
  rw[bk];rfl
 ·rename_i h;have:iT (pO p n)=[]:=List.getLast?_eq_none_iff.1 h;rw[this];rfl
def ag1(p:Nat->Bool){n:Nat}(ao:n=0\/p (n-1)=false):∀ t,n<=t->t<256->(∀ j,n<=j->j<=t->p j=true)->iT (pO p (t+1))=iT (pO p n)++[(UInt8.ofNat n,UInt8.ofNat t)]:=by
 intro t
 induction t with
 |zero=>
  intro U aa ag;have:n=0:=by omega
  subst this;rw[IR,ag 0 (b6 _) (b6 _),ba,GD];exact V0 p aa ao
 |succ t a2=>
  intro U aa ag;rw[IR,ag (t+1) U (b6 _),ba,GD];by_cases av:n=t+1;·subst av;exact V0 p aa ao
  ·rw[a2 (by omega) (by omega) (λj a b=>ag j a (by omega))];unfold nC;rw[List.getLast?_concat];simp only;have:decide (((UInt8.ofNat t).toNat:Int)+1=(UInt8.ofNat (t+1)).toNat)=true:=by rw[uf (by omega),uf (by omega)];simp
   rw[this,ba,List.dropLast_concat]
def IS(p:Nat->Bool):∀ (f t:Nat),t<=gO p f t/\gO p f t<=t+f/\(∀ j,t<j->j<=gO p f t->p j=true)/\(gO p f t<t+f->p (gO p f t+1)=false)
 |0,t=>⟨b6 _,b6 _,λj a b=>by simp[gO]at b;omega,λh=>by simp[gO]at h⟩
 |f+1,t=>by
  unfold gO;cases h:p (t+1)with
  |false=>exact⟨b6 _,by simp,λj a b=>by simp at b;omega,λ_=>h⟩
  |true=>
   obtain⟨U,aa,ag,aK⟩:=IS p f (t+1);refine⟨by simp;omega,by simp;omega,λj a b=>?_,λq=>?_⟩
   ·simp at b;by_cases e:j=t+1
    ·rw[e];exact h
    ·exact ag j (by omega) b
   ·simp at q |-;exact aK (by omega)
def um(p:Nat->Bool)(n:Nat):Nat:=bif decide (0<n)&&p (n-1)then gO p (256-n) (n-1)+1 else n
def V1(p:Nat->Bool):∀ n,n<=256->mY p n=iT (pO p (um p n))
 |0,_=>rfl
 |n+1,av=>by
  have a2:=V1 p n (by omega);have sw:um p (n+1)=bif p n then gO p (255-n) n+1 else n+1:=by unfold um;simp only[Nat.add_sub_cancel,show 256-(n+1)=255-n by omega];have:decide (0<n+1)=true:=fA (by omega);rw[this,nl]
  rw[Vq,sw,a2];cases aO:p n with
  |false=>
   have ao:mh p n=false:=by rw[mh,aO];rfl
   have sC:um p n=n:=by
    unfold um;cases af:decide (0<n)&&p (n-1)with
    |false=>rfl
    |true=>
     simp at af;have e:gO p (256-n) (n-1)=n-1:=by rw[show 256-n=(255-n)+1 by omega,gO,show n-1+1=n by omega,aO];rfl
     rw[ba,e];omega
   rw[ao,a5,fo,sC,a5,IR,aO];simp
  |true=>
   rw[ba];cases af:decide (0<n)&&p (n-1)with
   |true=>
    have ha:=af;simp at ha;have ao:mh p n=false:=by have:decide (n=0)=false:=b8 (by omega);rw[mh,aO,ha.2,this];rfl
    have sC:um p n=gO p (255-n) n+1:=by unfold um;rw[af,ba,show 256-n=(255-n)+1 by omega,gO,show n-1+1=n by omega,aO,ba]
    rw[ao,a5,fo,sC]
   |false=>
    have dB:n=0\/p (n-1)=false:=by
     simp at af;by_cases h:n=0;·exact .inl h
     ·exact .inr (af (by omega))
    have ao:mh p n=true:=by
     rw[mh,aO];rcases dB with h | h;·simp[h]
     ·simp[h]
    have sC:um p n=n:=by unfold um;rw[af];rfl
    obtain⟨U,aa,ag,_⟩:=IS p (255-n) n;rw[ao,ba,sC,ag1 p dB _ U (by omega) λj a b=>by
     by_cases e:j=n;·rw[e];exact aO
     ·exact ag j (by omega) b]
def V2(p:Nat->Bool):mY p 256=iT (pO p 256):=by rw[V1 p 256 (b6 _)];congr 2;unfold um;simp[gO]
def ag2{x y:UInt8}(h:x.toNat<=y.toNat):j9 (x,y)=qo (x,y):=by
 have ab:=x.toNat_lt;have aG:=y.toNat_lt;have ax:IntKind.u8.wrap ((y.toNat:Int)-x.toNat)=(y.toNat:Int)-x.toNat:=by simp[IntKind.wrap,IntKind.signed,IntKind.bits];omega
 unfold j9 qo;simp only;rw[ax];have d1:decide ((x.toNat:Int)+1<y.toNat)=decide (1<(y.toNat:Int)-x.toNat):=decide_eq_decide.2 (by omega);have d2:decide ((x.toNat:Int)<y.toNat)=!decide ((y.toNat:Int)=x.toNat):=by rw[<-decide_not];exact decide_eq_decide.2 (by omega)
 rw[d1,d2]
def ag3(p:Nat->Bool)(n:Nat)(av:n<=256):∀ q∈mY p n,q.1.toNat<=q.2.toNat:=by intro q aE;obtain⟨i,hi,rfl⟩:=du.1 aE;have hi:=kk.1 (vT.1 hi).1;obtain⟨U,aa,_⟩:=IS p (255-i) i;simp only;rw[uf (by omega),uf (by omega)];exact U
def ag4{a b c d:Int}(fz:∀ x∈[a,b,c,d],eF x):xz (mY (jW [a,b,c,d]) 256)=(a == gk 0&&(b == gk 0&&(c == gk 0&&d == gk 0))):=by
 have qa:gk 0=18446744073709551615:=by decide
 rw[n5];simp only[bL,beq_iff_eq,qa];constructor
 ·intro h;have eP:∀ n,n<256->jW [a,b,c,d] n=true:=by
   generalize aO:jW [a,b,c,d]=p at h
   match an:mY p 256,h with
   |[q],h=>
    simp[xz]at h;have aE:q∈mY p 256:=by rw[an];simp
    obtain⟨i,hi,BA⟩:=du.1 aE;have dB:=(vT.1 hi).2;have hi:=kk.1 (vT.1 hi).1;obtain⟨U,aa,ag,_⟩:=IS p (255-i) i;have Vv:q.1.toNat=i:=by rw[<-BA];exact uf (by omega)
    have DY:q.2.toNat=gO p (255-i) i:=by rw[<-BA];exact uf (by omega)
    have ag5:i=0:=by have:=h.1;omega
    have he:gO p (255-i) i=255:=by have:=h.2;omega
    intro n av;by_cases e:n=0;·subst ag5;rw[e];unfold mh at dB;simp at dB;exact dB
    ·exact ag n (by omega) (by omega)
  have word:∀ (i:Nat) (x:Int),i<4->[a,b,c,d].getD i 0=x->eF x->x=18446744073709551615:=λi x hi ab hu=>by
   obtain⟨n,rfl⟩:=jf hu.1;have av:n<2^64:=by have:=hu.2;omega
   have:n=2^64-1:=by
    apply Nat.eq_of_testBit_eq;intro j;rw[MI];by_cases al:j<64;·have:=eP (i*64+j) (by omega);unfold jW at this;rw[show(i*64+j)/64=i by omega,show(i*64+j)%64=j by omega,ab,jA]at this;rw[this];simp[al]
    ·rw[J3 (Cc av (J5 (by omega) (by omega)))];simp[al]
   omega
  exact⟨word 0 a (by decide) rfl (fz a (by simp)),word 1 b (by decide) rfl (fz b (by simp)),word 2 c (by decide) rfl (fz c (by simp)),word 3 d (by decide) rfl (fz d (by simp))⟩
 ·rintro⟨rfl,rfl,rfl,rfl⟩;have:xz (mY (jW [18446744073709551615,18446744073709551615,18446744073709551615,18446744073709551615]) 256)=true:=by kernel_rfl
  exact this
def Oi:zF fv:=λa b c d fz=>by
 unfold BK rk;rw[ag4 fz];congr 1;congr 1;congr 1;rw[agY fz,V2];have h:=ag3 (jW [a,b,c,d]) 256 (b6 _);rw[V2]at h;unfold pO at h |-;generalize iT _=aU at *;clear fz
 induction aU with
 |nil=>rfl| cons q aU a2=>rw[og,og,a2 λq aE=>h q (by simp[aE])];congr 1;exact ag2 (x:=q.1) (y:=q.2) (h q (by simp))
structure IT where
 l:List cF
 a:Option Addr
 n:Nat
 c:Nat
def IT.val(x:IT):Value:=.slice x.a x.n x.c
structure Oj(I:aN)(x:IT):Prop where
 at':vD I [] x.a x.n x.l
 n:x.n<=9223372036854775807
section
variable{H:Type}{enc:TypeId×Value->H}{W:World}{base:Nat}{dO:Nat->Bool}{held:Bool}
end
def Oj.mono{x:IT}(h:Oj I x)(a9:∀ b o,I b=some o->I' b=some o):Oj I' x:=⟨h.at'.mono a9,h.n⟩
def V3(g:b3)(l:List cF):Prop:=(ed fv g=0/\∃ F,vc g.ds F/\afG g.ds F l)\/(ed fv g≠0/\l=[])
def V3.len{g:b3}{l:List cF}(h:V3 g l):l.length<=g.ds.length:=by
 rcases h with⟨a,F,cS,h⟩ | ⟨a,h⟩
 ·rw[h.len];exact b6 _
 ·rw[h];exact bj _
def V4(g:b3)(l:List cF)(t:bJ)(r:List cF):Prop:=(VQ fv g l t=true/\∃ F,vc g.ds F/\r=ER (l7 g.ds) l (ry (l7 g.ds) F t.ns []) t.ns [])\/(VQ fv g l t=false/\r=[])
def V4.len{g:b3}{l:List cF}{t:bJ}{r:List cF}(h:V4 g l t r):r.length<=t.ns.length:=by
 rcases h with⟨a,F,cS,rfl⟩ | ⟨a,rfl⟩
 ·rw[Vl];simp
 ·exact bj _
section
variable{I:aN}{M0:List aC}
end
def DS.fit{g:b3}(h:DS g)(ar:g.ok I):ui g:=by refine⟨by have:=h.n;omega,λd ai=>?_⟩;have ao:=(h.ds d ai).t;have av:=ao.n;refine⟨λbS cf=>by have:=(ao.ns bS cf).kn;omega,by omega,by omega⟩
def VU.len{g:b3}{r:Int}(h:VU deb g r l):l.length<=g.ds.length:=by
 rcases h with⟨-,rfl⟩ | ⟨-,F,k,-,-,-,rfl⟩
 ·exact bj _
 ·exact Od _ _
def VV.len{g:b3}(h:VV deb g l):l.length<=g.ds.length:=by
 rcases h with⟨-,rfl⟩ | ⟨-,F,-,rfl⟩
 ·exact bj _
 ·exact Od _ _
def VW.len{g:b3}(h:VW deb g l):l.length<=g.ds.length:=by
 rcases h with⟨-,rfl⟩ | ⟨-,F,-,rfl⟩
 ·exact bj _
 ·exact Od _ _
def ag6(ns:List aP)(db:ByteArray):Bool:=ns.any λn=>decide (n.k=3)&&decide (n.t=db)
def ag7(g:b3)(i k:Nat):Bool:=match g.ds[i]?,g.ds[k]? with
 |some d,some e=>ag6 d.t.ns e.name| _,_=>false
def V5(g:b3)(i k:Nat):Bool:=decide (i=k)||ag7 g i k
def lN(g:b3):Nat->Nat->Nat->Prop
 |0,i,k=>V5 g i k=true| m+1,i,k=>lN g m i k\/(lN g m i m/\lN g m m k)
def lN.base{g:b3}{i k:Nat}(h:V5 g i k=true):∀ m,lN g m i k
 |0=>h| m+1=>.inl (lN.base h m)
def lN.trans{g:b3}:∀ {m i j k:Nat},lN g m i j->lN g m j k->j<m->lN g m i k
 |m+1,i,j,k,U,aa,al=>by
  by_cases e:j=m;·subst e;have bN:lN g j i j:=U.elim id (·.1);have cG:lN g j j k:=aa.elim id (·.2);exact .inr ⟨bN,cG⟩
  ·have al:j<m:=by omega
   rcases U with U | ⟨U,h4⟩<;>rcases aa with aa | ⟨aa,h3⟩
   ·exact .inl (lN.trans U aa al)
   ·exact .inr ⟨lN.trans U aa al,h3⟩
   ·exact .inr ⟨U,lN.trans h4 aa al⟩
   ·exact .inr ⟨U,h3⟩
def h7(R:List (List Bool))(i k:Nat):Bool:=(R.getD i []).getD k false
def xC(R:List (List Bool))(i k:Nat)(v:Bool):List (List Bool):=R.set i ((R.getD i []).set k v)
structure zJ(n:Nat)(R:List (List Bool)):Prop where
 len:R.length=n
 row:∀ i (h:i<R.length),R[i].length=n
def zJ.set{n:Nat}(h:zJ n R){i k:Nat}(hi:i<n)(v:Bool):zJ n (xC R i k v):=by
 refine⟨by simp[xC,h.len],λj al=>?_⟩;simp only[xC,yP]at al;have ep:i<R.length:=by rw[h.len];exact hi
 simp only[xC,Gp];split
 ·rw[yP];simp[cQ,ep,h.row i ep]
 ·exact h.row j al
def ag8{n:Nat}(h:zJ n R){i k:Nat}(hi:i<n)(ae:k<n)(v:Bool)(a b:Nat):h7 (xC R i k v) a b=bif decide (a=i/\b=k)then v else h7 R a b:=by
 have ep:i<R.length:=by rw[h.len];exact hi
 have dG:k<R[i].length:=by rw[h.row i ep];exact ae
 unfold h7 xC;simp only[cQ,mC];by_cases aD:i=a
 ·subst aD;simp only[o1,ep,o1,iZ,gu ep];rw[mC];by_cases af:k=b
  ·subst af;simp[dG]
  ·have:¬ (b=k):=λe=>af e.symm;simp[af,this]
 ·have:¬ (a=i):=λe=>aD e.symm;simp[aD,this]
structure E4(g:b3)(m:Nat)(A R:List (List Bool))(done:Nat->Nat->Prop):Prop where
 sound:∀ i k,h7 R i k=true->lN g g.n i k
 grow:∀ i k,h7 A i k=true->h7 R i k=true
 new:∀ i k,done i k->h7 A i m=true->h7 A m k=true->h7 R i k=true
def E4.step{g:b3}{m:Nat}{A:List (List Bool)}{d rz:Nat->Nat->Prop}(h:E4 g m A R d)(aZ:zJ g.n R){i k:Nat}(hi:i<g.n)(ae:k<g.n)(hm:m<g.n)(ai:∀ a b,rz a b->d a b\/(a=i/\b=k)) :
  E4 g m A (xC R i k (h7 R i k||(h7 R i m&&h7 R m k))) rz:=by
 have ao:=ag8 aZ hi ae (h7 R i k||(h7 R i m&&h7 R m k));have up:∀ a b,h7 R a b=true->h7 (xC R i k (h7 R i k||(h7 R i m&&h7 R m k))) a b=true:=λa b gd=>by
  rw[ao];by_cases e:a=i/\b=k;·obtain⟨rfl,rfl⟩:=e;simp[gd]
  ·simp[e,gd]
 refine⟨λa b gd=>?_,λa b gd=>up a b (h.grow a b gd),λa b Ok U aa=>?_⟩
 ·rw[ao]at gd;by_cases e:a=i/\b=k
  ·obtain⟨rfl,rfl⟩:=e;simp at gd;rcases gd with gd | ⟨eH,eI⟩
   ·exact h.sound _ _ gd
   ·exact lN.trans (h.sound _ _ eH) (h.sound _ _ eI) hm
  ·simp[e]at gd;exact h.sound _ _ gd
 ·rcases ai a b Ok with Ok | ⟨rfl,rfl⟩
  ·exact up a b (h.new a b Ok U aa)
  ·rw[ao];simp[h.grow _ _ U,h.grow _ _ aa]
structure E5(g:b3)(m:Nat)(R:List (List Bool)):Prop where
 al1:zJ g.n R
 sound:∀ i k,h7 R i k=true->lN g g.n i k
 comp:∀ i k,i<g.n->k<g.n->lN g m i k->h7 R i k=true
def E5.begin{g:b3}{m:Nat}(h:E5 g m R):E4 g m R R λ_ _=>False:=⟨h.sound,λ_ _ h=>h,λ_ _ h=>h.elim⟩
def E5.next{g:b3}{m:Nat}{A:List (List Bool)}(ea:E5 g m A)(hm:m<g.n)(aZ:zJ g.n R)(h:E4 g m A R λi k=>i<g.n/\k<g.n):E5 g (m+1) R:=by
 refine⟨aZ,h.sound,λi k hi ae aO=>?_⟩;rcases aO with aO | ⟨U,aa⟩
 ·exact h.grow _ _ (ea.comp i k hi ae aO)
 ·exact h.new i k ⟨hi,ae⟩ (ea.comp i m hi hm U) (ea.comp m k hm ae aa)
def bv(b:Bool):List Value:=[.bool b]
def aP.one(d:aP):gS d.cells=true:=rfl
def a'.one(d:a'):gS d.cells=true:=rfl
def V6(w b c:Int){u:Int}(hu:nK w b c=u)(hw:gj w)(af:gj b)(aA:gj c):Spec Tryz.prog 13 [.int .i64 w,.int .i64 b,.int .i64 c] I M0 λv I' M'=>v=.int .i64 u/\I'=I/\M'=M0:=by subst hu;exact Sq w b c hw af aA
def ag9(br:hG I fv){g:b3}(ar:g.ok I){w:Int}(hm:ed fv g=dD)(hw:(bif decide (dD=0)then((a3 (dn eS (dR g.ds)):Nat):Int)else 0)=w):Spec Tryz.prog 15 [g.val] I [] λv I' M'=>(∀ b o,I b=some o->I' b=some o)/\M'=[]/\v=.tuple #[.int .i64 w,.int .i64 dD]:=by subst hm;subst hw;exact acm br ar
def aha(br:hG I fv){g:b3}(ar:g.ok I){b c w:Int}(hm:ed fv g=dD)(hw:(bif decide (dD=0)then qC g.ds b c else 0)=w)(af:gj b)(aA:gj c):Spec Tryz.prog 16 [g.val,.int .i64 b,.int .i64 c] I [] λv I' M'=>(∀ b o,I b=some o->I' b=some o)/\M'=[]/\v=.tuple #[.int .i64 w,.int .i64 dD]:=by subst hm;subst hw;exact acq br ar af aA
open Go Go.Proofs Go.ChangeShapes
section
variable{H:Type}{enc:TypeId×Value->H}{P:Program}{w:World}{base:Nat}{spare:Nat->Bool}{held:Bool}
def ahb{t eB V7 t3 t4:TypeId}{args:Array Value}{ds:List (DataW H)}{ps:List MemPlace}(h:DataW.TrodAll enc P w base spare held [t,eB,V7,t3,t4] args.toList ds ps) :
  ∃ v k7 IU E6 v4 d rz IV d3 d4 p e2 IW rp AI,args=#[v,k7,IU,E6,v4]/\ds=[d,rz,IV,d3,d4]/\ps=p++e2++IW++rp++AI/\DataW.Trod enc P w base spare held t v d p/\DataW.Trod enc P w base spare held eB k7 rz e2/\DataW.Trod enc P w base spare held V7 IU IV IW/\DataW.Trod enc P w base spare held t3 E6 d3 rp/\DataW.Trod enc P w base spare held t4 v4 d4 AI:=by
 obtain⟨v,vs,d,al2,p,q,kB,rfl,rfl,ai,tf⟩:=trodAll_cons h;obtain⟨k7,p0,rz,al3,e2,eN,rfl,rfl,rfl,gi,ahc⟩:=trodAll_cons tf;obtain⟨IU,al4,IV,al5,IW,al6,rfl,rfl,rfl,ahd,ahe⟩:=trodAll_cons ahc;obtain⟨E6,al7,d3,al8,rp,fK,rfl,rfl,rfl,yL,ahf⟩:=trodAll_cons ahe;obtain⟨v4,al9,d4,ama,AI,gK,rfl,rfl,rfl,Lg,ahg⟩:=trodAll_cons ahf;obtain⟨rfl,rfl,rfl⟩:=trodAll_nil ahg;exact⟨v,k7,IU,E6,v4,d,rz,IV,d3,d4,p,e2,IW,rp,AI,by cases args;simp_all,rfl,by simp,ai,gi,ahd,yL,Lg⟩
end
def e0(a b:Nat):Nat:=min (a+b) 1099511627776
def gB(m:Nat->Nat->bG):List Nat->Nat->Nat->bG
 |[],a,n=>⟨n,a,3⟩| q::L,a,n=>bif Nat.beq (m q a).aB 3 then gB m L (m q a).aW (e0 n (m q a).n)else⟨0,0,(m q a).aB⟩
def gP(m:Nat->Nat->bG):List Nat->Nat->bG
 |[],_=>hW| q::L,a=>bif Nat.beq (m q a).aB 2 then gP m L a else m q a
def eu(m:Nat->Nat->bG)(q:Nat)(lo hi:Int):Nat->Nat->Nat->Nat->bG
 |0,_,a,n=>bif decide (hi=-1)then k4 else⟨n,a,3⟩
 |j+1,i,a,n=>bif Nat.beq (m q a).aB 2 then(bif decide ((i:Int)<lo)then hW else⟨n,a,3⟩)else
   bif Nat.beq (m q a).aB 3 then(bif decide (hi=-1)&&decide ((m q a).aW=a)then k4 else eu m q lo hi j (i+1) (m q a).aW (e0 n (m q a).n))else k4
def BP(P:cq)(d:aP)(a:Nat):Nat:=bif decide (d.hi=-1)then P.s.size+1-a else d.hi.toNat
def di(P:cq)(m:Nat->Nat->bG)(k a:Nat):bG:=
 let d:=(P.at_ k).d
 let q:=(P.at_ k).asks.getD 0 0
 bif decide (d.k=0)then⟨0,a,3⟩else
 bif decide (d.k=1)then(match P.s.data[a]? with
  |some b=>bif qB d b.toNat then⟨0,a+1,3⟩else hW| none=>hW)else
 bif decide (d.k=2)then(bif preB P.s d.t a then⟨0,a+d.t.size,3⟩else hW)else
 bif decide (d.k=3)then m q a else
 bif decide (d.k=4)then gB m (P.at_ k).asks a 0 else
 bif decide (d.k=5)then gP m (P.at_ k).asks a else
 bif decide (d.k=6)then eu m q d.lo d.hi (BP P d a) 0 a 0 else
 bif decide (d.k=7)then(bif Nat.beq (m q a).aB 3 then⟨0,a,3⟩else m q a)else
 bif decide (d.k=8)then(bif Nat.beq (m q a).aB 2 then⟨0,a,3⟩else bif Nat.beq (m q a).aB 3 then hW else k4)else
 (bif Nat.beq (m q a).aB 3 then⟨e0 (m q a).n 1,(m q a).aW,3⟩else m q a)
section
variable{P:cq}{m m':Nat->Nat->bG}{k a lo:Nat}
def zK(h:(P.at_ k).d.k=0):di P m k a=⟨0,a,3⟩:=by simp[di,h]
def zL(h:(P.at_ k).d.k=1):di P m k a=match P.s.data[a]? with
  |some b=>bif qB (P.at_ k).d b.toNat then⟨0,a+1,3⟩else hW| none=>hW:=by simp[di,h]
def zM(h:(P.at_ k).d.k=2):di P m k a=bif preB P.s (P.at_ k).d.t a then⟨0,a+(P.at_ k).d.t.size,3⟩else hW:=by simp[di,h]
def xD(h:(P.at_ k).d.k=3):di P m k a=m ((P.at_ k).asks.getD 0 0) a:=by simp[di,h]
def zN(h:(P.at_ k).d.k=4):di P m k a=gB m (P.at_ k).asks a 0:=by simp[di,h]
def zO(h:(P.at_ k).d.k=5):di P m k a=gP m (P.at_ k).asks a:=by simp[di,h]
def vG(h:(P.at_ k).d.k=6):di P m k a=eu m ((P.at_ k).asks.getD 0 0) (P.at_ k).d.lo (P.at_ k).d.hi (BP P (P.at_ k).d a) 0 a 0:=by simp[di,h]
def vH(h:(P.at_ k).d.k=7):di P m k a=bif Nat.beq (m ((P.at_ k).asks.getD 0 0) a).aB 3 then⟨0,a,3⟩else m ((P.at_ k).asks.getD 0 0) a:=by simp[di,h]
def vI(h:(P.at_ k).d.k=8):di P m k a=bif Nat.beq (m ((P.at_ k).asks.getD 0 0) a).aB 2 then⟨0,a,3⟩else bif Nat.beq (m ((P.at_ k).asks.getD 0 0) a).aB 3 then hW else k4:=by simp[di,h]
def xE(aq:(P.at_ k).d.k≠0)(U:(P.at_ k).d.k≠1)(aa:(P.at_ k).d.k≠2)(ag:(P.at_ k).d.k≠3)(aK:(P.at_ k).d.k≠4)(bg:(P.at_ k).d.k≠5)(bD:(P.at_ k).d.k≠6)(eg:(P.at_ k).d.k≠7)(eU:(P.at_ k).d.k≠8) : di P m k a=bif Nat.beq (m ((P.at_ k).asks.getD 0 0) a).aB 3 then⟨e0 (m ((P.at_ k).asks.getD 0 0) a).n 1,(m ((P.at_ k).asks.getD 0 0) a).aW,3⟩else m ((P.at_ k).asks.getD 0 0) a:=by simp[di,aq,U,aa,ag,aK,bg,bD,eg,eU]
def BQ(d:Int):d=0\/d=1\/d=2\/d=3\/d=4\/d=5\/d=6\/d=7\/d=8\/(d≠0/\d≠1/\d≠2/\d≠3/\d≠4/\d≠5/\d≠6/\d≠7/\d≠8):=by omega
def nX(lo:Nat)(m m':Nat->Nat->bG):Prop:=∀ q b,lo<=b->dm (m q b)->m' q b=m q b
def BR(m:Nat->Nat->bG):Prop:=∀ q b,(m q b).aB=3->b<=(m q b).aW
def nX.trans{V8:Nat->Nat->bG}(h:nX lo m m')(a1:nX lo m' V8):nX lo m V8:=λq b af ai=>by have e:=h q b af ai;rw[a1 q b af (by rw[e];exact ai),e]
def m0{c:bG}(h:Nat.beq c.aB 3=true):dm c:=.inr (cC h)
def uo{c:bG}(h:Nat.beq c.aB 2=true):dm c:=.inl (cC h)
def nY:¬ dm k4:=λh=>by rcases h with h | h<;>cases h
def Ol(h:nX lo m m')(ar:BR m):∀ (L:List Nat) (a n:Nat),lo<=a->dm (gB m L a n)->gB m' L a n=gB m L a n
 |[],a,n,_,_=>rfl
 |q::L,a,n,aD,ai=>by
  cases ag:Nat.beq (m q a).aB 3 with
  |true=>have e:=h q a aD (m0 ag);simp only[gB,e,ag,ba]at ai |-;exact Ol h ar L _ _ (jB aD (ar q a (cC ag))) ai| false=>simp only[gB,ag,a5]at ai;have e:=h q a aD ai;simp only[gB,e,ag,a5]
def Om(h:nX lo m m'):∀ (L:List Nat) (a:Nat),lo<=a->dm (gP m L a)->gP m' L a=gP m L a
 |[],a,_,_=>rfl
 |q::L,a,aD,ai=>by
  cases aa:Nat.beq (m q a).aB 2 with
  |true=>have e:=h q a aD (uo aa);simp only[gP,e,aa,ba]at ai |-;exact Om h L a aD ai| false=>simp only[gP,aa,a5]at ai;have e:=h q a aD ai;simp only[gP,e,aa,a5]
def On(h:nX lo m m')(ar:BR m){q:Nat}{l u:Int}:∀ (j i a n:Nat),lo<=a->dm (eu m q l u j i a n)->eu m' q l u j i a n=eu m q l u j i a n
 |0,i,a,n,_,_=>rfl
 |j+1,i,a,n,aD,ai=>by
  cases aa:Nat.beq (m q a).aB 2 with
  |true=>have e:=h q a aD (uo aa);simp only[eu,e,aa,ba]
  |false=>
   cases ag:Nat.beq (m q a).aB 3 with
   |true=>
    have e:=h q a aD (m0 ag);simp only[eu,e,aa,ag,ba,a5]at ai |-;cases hu:decide (u=-1)&&decide ((m q a).aW=a)with
    |true=>rfl| false=>rw[hu,a5]at ai;exact On h ar j _ _ _ (jB aD (ar q a (cC ag))) ai
   |false=>simp only[eu,aa,ag,a5]at ai;exact absurd ai nY
def E7(h:nX lo m m')(ar:BR m)(aD:lo<=a)(ai:dm (di P m k a)):di P m' k a=di P m k a:=by
 have one:∀ q:Nat,dm (m q a)->m' q a=m q a:=λq aE=>h q a aD aE;rcases BQ (P.at_ k).d.k with e | e | e | e | e | e | e | e | e | ⟨b7,ax,az,bc,ct,ej,gz,iW,nQ⟩
 ·rw[zK e,zK e]
 ·rw[zL e,zL e]
 ·rw[zM e,zM e]
 ·rw[xD e]at ai |-;rw[xD e];exact one _ ai
 ·rw[zN e]at ai |-;rw[zN e];exact Ol h ar _ _ _ aD ai
 ·rw[zO e]at ai |-;rw[zO e];exact Om h _ _ aD ai
 ·rw[vG e]at ai |-;rw[vG e];exact On h ar _ _ _ _ aD ai
 ·rw[vH e]at ai |-;rw[vH e];generalize(P.at_ k).asks.getD 0 0=q at ai |-;cases ag:Nat.beq (m q a).aB 3 with
  |true=>rw[one q (m0 ag),ag]| false=>rw[ag,a5]at ai;rw[one q ai,ag]
 ·rw[vI e]at ai |-;rw[vI e];generalize(P.at_ k).asks.getD 0 0=q at ai |-;cases aa:Nat.beq (m q a).aB 2 with
  |true=>rw[one q (uo aa),aa]
  |false=>
   cases ag:Nat.beq (m q a).aB 3 with
   |true=>rw[one q (m0 ag),aa,ag]| false=>rw[aa,ag]at ai;exact absurd ai nY
 ·rw[xE b7 ax az bc ct ej gz iW nQ]at ai |-;rw[xE b7 ax az bc ct ej gz iW nQ];generalize(P.at_ k).asks.getD 0 0=q at ai |-;cases ag:Nat.beq (m q a).aB 3 with
  |true=>rw[one q (m0 ag),ag]| false=>rw[ag,a5]at ai;rw[one q ai,ag]
end
def iX(z a:Nat)(c:bG):Prop:=c=k4\/c=hW\/(c.aB=3/\a<=c.aW/\(a<=z->c.aW<=z)/\c.n<=1099511627776)
def iX.m{a aW n:Nat}(U:a<=aW)(aa:a<=z->aW<=z)(ag:n<=1099511627776):iX z a ⟨n,aW,3⟩:=.inr (.inr ⟨rfl,U,aa,ag⟩)
def iX.ge{a:Nat}{c:bG}(h:iX z a c)(ag:c.aB=3):a<=c.aW/\(a<=z->c.aW<=z)/\c.n<=1099511627776:=by
 rcases h with rfl | rfl | h
 ·cases ag
 ·cases ag
 ·exact h.2
def iX.aB{a:Nat}{c:bG}(h:iX z a c):c.aB=0\/c.aB=2\/c.aB=3:=by
 rcases h with rfl | rfl | h
 ·exact .inl rfl
 ·exact .inr (.inl rfl)
 ·exact .inr (.inr h.1)
def iX.zero{z a:Nat}{c:bG}(h:iX z a c)(aa:¬ dm c):c=k4:=by
 rcases h with rfl | rfl | h
 ·rfl
 ·exact absurd (.inl rfl) aa
 ·exact absurd (.inr h.1) aa
def iX.ahh{a:Nat}{c:bG}(h:iX z a c)(ag:Nat.beq c.aB 3=false):(⟨0,0,c.aB⟩:bG)=c:=by
 rcases h with rfl | rfl | h
 ·rfl
 ·rfl
 ·rw[h.1]at ag;cases ag
def iX.q4{a b:Nat}{c:bG}(h:iX z b c)(gd:a<=b)(bd:a<=z->b<=z):iX z a c:=by
 rcases h with h | h | ⟨U,aa,ag,aK⟩
 ·exact .inl h
 ·exact .inr (.inl h)
 ·exact .inr (.inr ⟨U,by omega,λh=>ag (bd h),aK⟩)
def pP(a b:Nat):e0 a b<=1099511627776:=Hh _ _
section
variable{z:Nat}{m:Nat->Nat->bG}(hm:∀ q b,iX z b (m q b))
include hm
def V9:∀ (L:List Nat) (a n:Nat),n<=1099511627776->iX z a (gB m L a n)
 |[],a,n,av=>.m (b6 _) id av
 |q::L,a,n,av=>by
  cases ag:Nat.beq (m q a).aB 3 with
  |true=>simp only[gB,ag,ba];obtain⟨aR,aV,bl⟩:=(hm q a).ge (cC ag);exact(V9 L _ _ (pP _ _)).q4 aR aV
  |false=>simp only[gB,ag,a5];rw[(hm q a).ahh ag];exact hm q a
def V':∀ (L:List Nat) (a:Nat),iX z a (gP m L a)
 |[],a=>.inr (.inl rfl)
 |q::L,a=>by
  cases aa:Nat.beq (m q a).aB 2 with
  |true=>simp only[gP,aa,ba];exact V' L a| false=>simp only[gP,aa,a5];exact hm q a
def Wa{q:Nat}{l u:Int}:∀ (j i a n:Nat),n<=1099511627776->iX z a (eu m q l u j i a n)
 |0,i,a,n,av=>by
  unfold eu;cases decide (u=-1);·exact .m (b6 _) id av
  ·exact .inl rfl
 |j+1,i,a,n,av=>by
  cases aa:Nat.beq (m q a).aB 2 with
  |true=>
   simp only[eu,aa,ba];cases decide ((i:Int)<l);·exact .m (b6 _) id av
   ·exact .inr (.inl rfl)
  |false=>
   cases ag:Nat.beq (m q a).aB 3 with
   |true=>
    simp only[eu,aa,ag,ba,a5];obtain⟨aR,aV,bl⟩:=(hm q a).ge (cC ag);cases decide (u=-1)&&decide ((m q a).aW=a)with
    |true=>exact .inl rfl| false=>exact(Wa j _ _ _ (pP _ _)).q4 aR aV
   |false=>simp only[eu,aa,ag,a5];exact .inl rfl
def Wb{P:cq}(bd:P.s.size=z)(k a:Nat):iX z a (di P m k a):=by
 rcases BQ (P.at_ k).d.k with e | e | e | e | e | e | e | e | e | ⟨b7,ax,az,bc,ct,ej,gz,iW,nQ⟩
 ·rw[zK e];exact .m (b6 _) id (by omega)
 ·rw[zL e];cases af:P.s.data[a]? with
  |none=>exact .inr (.inl rfl)
  |some b=>
   have aL:a<P.s.data.size:=(kg.1 af).1;have:P.s.data.size=P.s.size:=rfl;simp only;cases qB (P.at_ k).d b.toNat;·exact .inr (.inl rfl)
   ·exact .m (by omega) (by omega) (by omega)
 ·rw[zM e];cases aO:preB P.s (P.at_ k).d.t a with
  |false=>exact .inr (.inl rfl)| true=>simp only[preB,bL,ft]at aO;exact .m (by omega) (by omega) (by omega)
 ·rw[xD e];exact hm _ a
 ·rw[zN e];exact V9 hm _ _ _ (by omega)
 ·rw[zO e];exact V' hm _ _
 ·rw[vG e];exact Wa hm _ _ _ _ (by omega)
 ·rw[vH e];cases Nat.beq (m ((P.at_ k).asks.getD 0 0) a).aB 3
  ·exact hm _ a
  ·exact .m (b6 _) id (by omega)
 ·rw[vI e];cases Nat.beq (m ((P.at_ k).asks.getD 0 0) a).aB 2 with
  |true=>exact .m (b6 _) id (by omega)
  |false=>
   cases Nat.beq (m ((P.at_ k).asks.getD 0 0) a).aB 3;·exact .inl rfl
   ·exact .inr (.inl rfl)
 ·rw[xE b7 ax az bc ct ej gz iW nQ];cases ag:Nat.beq (m ((P.at_ k).asks.getD 0 0) a).aB 3 with
  |false=>exact hm _ a| true=>obtain⟨aR,aV,bl⟩:=(hm _ a).ge (cC ag);exact .m aR aV (pP _ _)
end
def g2(P:cq):Nat->Nat->Nat->bG
 |0,_,_=>k4| n+1,k,a=>di P (g2 P n) k a
def Oo(P:cq):∀ (n k a:Nat),iX P.s.size a (g2 P n k a)
 |0,_,_=>.inl rfl| n+1,k,a=>Wb (Oo P n) rfl k a
def E8(P:cq)(n:Nat):BR (g2 P n):=λq b ag=>((Oo P n q b).ge ag).1
def Wc(P:cq):∀ n,nX 0 (g2 P n) (g2 P (n+1))
 |0=>λq b _ ai=>absurd ai nY
 |n+1=>λq b af ai=>E7 (Wc P n) (E8 P n) af ai
def BS(P:cq){n:Nat}(h:n<=fB):nX 0 (g2 P n) (g2 P fB):=by
 induction h with
 |refl=>exact λ_ _ _ _=>rfl
 |step _ a2=>exact a2.trans (Wc P _)
open Classical in
noncomputable def bV(P:cq)(k a:Nat):bG:=if h:∃ n,dm (g2 P n k a)then g2 P h.choose k a else k4
def BT{P:cq}{n k a:Nat}(h:dm (g2 P n k a)):bV P k a=g2 P n k a:=by have ab:∃ n,dm (g2 P n k a):=⟨n,h⟩;unfold bV;rw[dif_pos ab];have aA:=ab.choose_spec;have ax:=BS P (IJ n ab.choose) k a (bj _) h;have az:=BS P (IH n ab.choose) k a (bj _) aA;rw[<-ax,<-az]
def oQ{P:cq}{k a:Nat}(h:dm (bV P k a)):∃ n,g2 P n k a=bV P k a:=by
 by_cases ab:∃ n,dm (g2 P n k a)
 ·obtain⟨n,av⟩:=ab;exact⟨n,(BT av).symm⟩
 ·unfold bV at h;rw[dif_neg ab]at h;exact absurd h nY
def ahi(P:cq)(n:Nat):nX 0 (g2 P n) (bV P):=λ_ _ _ ai=>BT ai
def sJ(P:cq)(k a:Nat):iX P.s.size a (bV P k a):=by
 by_cases ai:dm (bV P k a)
 ·obtain⟨n,av⟩:=oQ ai;rw[<-av];exact Oo P n k a
 ·by_cases ab:∃ n,dm (g2 P n k a)
  ·obtain⟨n,av⟩:=ab;rw[BT av]at ai;exact absurd av ai
  ·unfold bV;rw[dif_neg ab];exact .inl rfl
section
variable{P:cq}
def Oq{n q b:Nat}(h:n<=fB)(e:g2 P n q b=bV P q b)(ai:dm (bV P q b)):g2 P fB q b=bV P q b:=by rw[<-e]at ai |-;exact BS P h q b (bj _) ai
def Wd:∀ (L:List Nat) (a n:Nat),dm (gB (bV P) L a n)->∃ N,gB (g2 P N) L a n=gB (bV P) L a n
 |[],a,n,_=>⟨0,rfl⟩
 |q::L,a,n,ai=>by
  cases ag:Nat.beq (bV P q a).aB 3 with
  |true=>obtain⟨h6,ax⟩:=oQ (m0 ag);simp only[gB,ag,ba]at ai |-;obtain⟨iA,az⟩:=Wd L _ _ ai;refine⟨max h6 iA,?_⟩;simp only[Oq (IJ h6 iA) ax (m0 ag),ag,ba];rw[<-az]at ai |-;exact Ol (BS P (IH h6 iA)) (E8 P iA) _ _ _ (bj _) ai
  |false=>simp only[gB,ag,a5]at ai |-;obtain⟨h6,ax⟩:=oQ ai;exact⟨h6,by simp only[ax,ag,a5]⟩
def We:∀ (L:List Nat) (a:Nat),dm (gP (bV P) L a)->∃ N,gP (g2 P N) L a=gP (bV P) L a
 |[],a,_=>⟨0,rfl⟩
 |q::L,a,ai=>by
  cases aa:Nat.beq (bV P q a).aB 2 with
  |true=>obtain⟨h6,ax⟩:=oQ (uo aa);simp only[gP,aa,ba]at ai |-;obtain⟨iA,az⟩:=We L _ ai;refine⟨max h6 iA,?_⟩;simp only[Oq (IJ h6 iA) ax (uo aa),aa,ba];rw[<-az]at ai |-;exact Om (BS P (IH h6 iA)) _ _ (bj _) ai
  |false=>simp only[gP,aa,a5]at ai |-;obtain⟨h6,ax⟩:=oQ ai;exact⟨h6,by simp only[ax,aa,a5]⟩
def Wf{q:Nat}{l u:Int}:∀ (j i a n:Nat),dm (eu (bV P) q l u j i a n)->∃ N,eu (g2 P N) q l u j i a n=eu (bV P) q l u j i a n
 |0,i,a,n,_=>⟨0,rfl⟩
 |j+1,i,a,n,ai=>by
  cases aa:Nat.beq (bV P q a).aB 2 with
  |true=>obtain⟨h6,ax⟩:=oQ (uo aa);exact⟨h6,by simp only[eu,ax,aa,ba]⟩
  |false=>
   cases ag:Nat.beq (bV P q a).aB 3 with
   |true=>
    obtain⟨h6,ax⟩:=oQ (m0 ag);simp only[eu,aa,ag,ba,a5]at ai |-;cases hu:decide (u=-1)&&decide ((bV P q a).aW=a)with
    |true=>rw[hu]at ai;exact absurd ai nY| false=>rw[hu,a5]at ai;obtain⟨iA,az⟩:=Wf j _ _ _ ai;refine⟨max h6 iA,?_⟩;simp only[Oq (IJ h6 iA) ax (m0 ag),aa,ag,hu,ba,a5];rw[<-az]at ai |-;exact On (BS P (IH h6 iA)) (E8 P iA) _ _ _ _ (bj _) ai
   |false=>simp only[eu,aa,ag,a5]at ai;exact absurd ai nY
def ahj{k a:Nat}(ai:dm (di P (bV P) k a)):∃ N,di P (g2 P N) k a=di P (bV P) k a:=by
 rcases BQ (P.at_ k).d.k with e | e | e | e | e | e | e | e | e | ⟨b7,ax,az,bc,ct,ej,gz,iW,nQ⟩
 ·exact⟨0,by rw[zK e,zK e]⟩
 ·exact⟨0,by rw[zL e,zL e]⟩
 ·exact⟨0,by rw[zM e,zM e]⟩
 ·rw[xD e]at ai |-;obtain⟨n,av⟩:=oQ ai;exact⟨n,by rw[xD e,av]⟩
 ·rw[zN e]at ai |-;obtain⟨n,av⟩:=Wd _ _ _ ai;exact⟨n,by rw[zN e,av]⟩
 ·rw[zO e]at ai |-;obtain⟨n,av⟩:=We _ _ ai;exact⟨n,by rw[zO e,av]⟩
 ·rw[vG e]at ai |-;obtain⟨n,av⟩:=Wf _ _ _ _ ai;exact⟨n,by rw[vG e,av]⟩
 ·rw[vH e]at ai |-;have U:dm (bV P ((P.at_ k).asks.getD 0 0) a):=by
   cases ag:Nat.beq (bV P ((P.at_ k).asks.getD 0 0) a).aB 3 with
   |true=>exact m0 ag| false=>rwa [ag,a5]at ai
  obtain⟨n,av⟩:=oQ U;exact⟨n,by rw[vH e,av]⟩
 ·rw[vI e]at ai |-;have U:dm (bV P ((P.at_ k).asks.getD 0 0) a):=by
   cases aa:Nat.beq (bV P ((P.at_ k).asks.getD 0 0) a).aB 2 with
   |true=>exact uo aa
   |false=>
    cases ag:Nat.beq (bV P ((P.at_ k).asks.getD 0 0) a).aB 3 with
    |true=>exact m0 ag| false=>rw[aa,ag]at ai;exact absurd ai nY
  obtain⟨n,av⟩:=oQ U;exact⟨n,by rw[vI e,av]⟩
 ·rw[xE b7 ax az bc ct ej gz iW nQ]at ai |-;have U:dm (bV P ((P.at_ k).asks.getD 0 0) a):=by
   cases ag:Nat.beq (bV P ((P.at_ k).asks.getD 0 0) a).aB 3 with
   |true=>exact m0 ag| false=>rwa [ag,a5]at ai
  obtain⟨n,av⟩:=oQ U;exact⟨n,by rw[xE b7 ax az bc ct ej gz iW nQ,av]⟩
def Ot{k a:Nat}(ai:dm (di P (bV P) k a)):bV P k a=di P (bV P) k a:=by
 obtain⟨N,e⟩:=ahj ai;have:dm (g2 P (N+1) k a):=by show dm (di P (g2 P N) k a);rw[e];exact ai
 rw[BT this];exact e
def ahk{k a:Nat}(ai:dm (bV P k a)):di P (bV P) k a=bV P k a:=by
 obtain⟨n,av⟩:=oQ ai;cases n with
 |zero=>rw[<-av]at ai;exact absurd ai nY| succ n=>rw[<-av]at ai |-;exact E7 (ahi P n) (E8 P n) (bj _) ai
def Ou{k a:Nat}:di P (bV P) k a=bV P k a:=by
 by_cases ai:dm (bV P k a)
 ·exact ahk ai
 ·by_cases gi:dm (di P (bV P) k a)
  ·exact(Ot gi).symm
  ·rw[(sJ P k a).zero ai,(Wb (sJ P) rfl k a).zero gi]
def ahl{m:Nat->Nat->bG}{lo:Nat}(h:∀ k a,lo<=a->dm (di P m k a)->m k a=di P m k a):nX lo (bV P) m:=by
 have step:∀ n,nX lo (g2 P n) m:=λn=>by
  induction n with
  |zero=>exact λ_ _ _ ai=>absurd ai nY
  |succ n a2=>
   intro k a aD ai;have e:=E7 a2 (E8 P n) aD ai;have gi:dm (di P m k a):=by rw[e];exact ai
   rw[h k a aD gi,e];rfl
 intro k a aD ai;obtain⟨n,av⟩:=oQ ai;rw[<-av]at ai |-;exact step n k a aD ai
end
structure bY where
 n:Nat
 aW:Nat
 aB:Nat
 times:Nat
def ic:bY:=⟨0,0,0,0⟩
def m1(aW:Nat):bY:=⟨0,aW,2,0⟩
def uq:bY:=⟨0,0,1,0⟩
def bY.ce(c:bY):bG:=bif Nat.beq c.aB 2 then⟨c.n,c.aW,3⟩else bif Nat.beq c.aB 1 then hW else k4
def oR(T:Nat->Nat->bY):List Nat->Nat->Nat->bY
 |[],a,n=>⟨n,a,2,0⟩| q::L,a,n=>bif Nat.beq (T q a).aB 2 then oR T L (T q a).aW (e0 n (T q a).n)else⟨0,0,(T q a).aB,0⟩
def oS(T:Nat->Nat->bY):List Nat->Nat->bY
 |[],_=>uq| q::L,a=>bif Nat.beq (T q a).aB 1 then oS T L a else T q a
def nZ(T:Nat->Nat->bY)(q:Nat)(lo:Int):Nat->Nat->Nat->Nat->bY
 |0,_,a,n=>⟨n,a,2,0⟩
 |j+1,i,a,n=>bif Nat.beq (T q a).aB 0||(Nat.beq (T q a).aB 1&&decide ((i:Int)<lo))then⟨0,0,(T q a).aB,0⟩else
   bif Nat.beq (T q a).aB 1 then⟨n,a,2,0⟩else nZ T q lo j (i+1) (T q a).aW (e0 n (T q a).n)
def mi(lo:Int)(c:bY):bY:=bif decide ((c.times:Int)<lo)then { c with aB:=1 }else c
def vJ(T:Nat->Nat->bY)(k q:Nat)(lo:Int)(a:Nat):bY:=
 bif Nat.beq (T q a).aB 0||(Nat.beq (T q a).aB 2&&Nat.beq (T q a).aW a)then ic else
 bif Nat.beq (T q a).aB 2 then(bif Nat.beq (T k (T q a).aW).aB 0 then ic else mi lo ⟨e0 (T q a).n (T k (T q a).aW).n,(T k (T q a).aW).aW,2,min ((T k (T q a).aW).times+1) 99⟩)else mi lo (m1 a)
def dp(P:cq)(T:Nat->Nat->bY)(k a:Nat):bY:=
 let d:=(P.at_ k).d
 let q:=(P.at_ k).asks.getD 0 0
 bif decide (d.k=0)then m1 a else
 bif decide (d.k=1)then(match P.s.data[a]? with
  |some b=>bif qB d b.toNat then m1 (a+1)else uq| none=>uq)else
 bif decide (d.k=2)then(bif preB P.s d.t a then m1 (a+d.t.size)else uq)else
 bif decide (d.k=3)then T q a else
 bif decide (d.k=4)then oR T (P.at_ k).asks a 0 else
 bif decide (d.k=5)then oS T (P.at_ k).asks a else
 bif decide (d.k=6)then(bif decide (d.hi=-1)then vJ T k q d.lo a else nZ T q d.lo d.hi.toNat 0 a 0)else
 bif decide (d.k=7)then(bif Nat.beq (T q a).aB 2 then m1 a else⟨0,0,(T q a).aB,0⟩)else
 bif decide (d.k=8)then(bif Nat.beq (T q a).aB 1 then m1 a else bif Nat.beq (T q a).aB 2 then uq else ic)else
 (bif Nat.beq (T q a).aB 2 then { T q a with n:=e0 (T q a).n 1 }else T q a)
def gQ(T:Nat->Nat->bY):Nat->Nat->bG:=λk a=>(T k a).ce
def pQ{c:bY}(h:c.aB<=2):(c.aB=0/\c.ce=k4)\/(c.aB=1/\c.ce=hW)\/(c.aB=2/\c.ce=⟨c.n,c.aW,3⟩):=by
 have:c.aB=0\/c.aB=1\/c.aB=2:=by omega
 rcases this with e | e | e
 ·exact .inl ⟨e,by simp only[bY.ce,e];rfl⟩
 ·exact .inr (.inl ⟨e,by simp only[bY.ce,e];rfl⟩)
 ·exact .inr (.inr ⟨e,by simp only[bY.ce,e];rfl⟩)
def zP{c:bY}(h:c.aB<=2):dm c.ce ↔ c.aB≠0:=by
 rcases pQ h with⟨e,a0⟩ | ⟨e,a0⟩ | ⟨e,a0⟩<;>rw[a0]<;>simp[dm,k4,hW,e]
section
variable{T:Nat->Nat->bY}(br:∀ k a,(T k a).aB<=2)
include br
def Wg:∀ (L:List Nat) (a n:Nat),(oR T L a n).ce=gB (gQ T) L a n
 |[],a,n=>rfl
 |q::L,a,n=>by
  rcases pQ (br q a)with⟨e,a0⟩ | ⟨e,a0⟩ | ⟨e,a0⟩;·simp only[oR,gB,gQ,e,a0];rfl
  ·simp only[oR,gB,gQ,e,a0];rfl
  ·have a2:=Wg L (T q a).aW (e0 n (T q a).n);simp only[oR,gB,gQ,e,a0]at a2 |-;exact a2
def Wh:∀ (L:List Nat) (a:Nat),(oS T L a).ce=gP (gQ T) L a
 |[],a=>rfl
 |q::L,a=>by
  rcases pQ (br q a)with⟨e,a0⟩ | ⟨e,a0⟩ | ⟨e,a0⟩;·simp only[oS,gP,gQ,e,a0];exact a0
  ·have a2:=Wh L a;simp only[oS,gP,gQ,e,a0]at a2 |-;exact a2
  ·simp only[oS,gP,gQ,e,a0];exact a0
def Wi{q:Nat}{lo hi:Int}(bI:hi≠-1):∀ (j i a n:Nat),(nZ T q lo j i a n).ce=eu (gQ T) q lo hi j i a n
 |0,i,a,n=>by simp only[nZ,eu,b8 bI,a5];rfl
 |j+1,i,a,n=>by
  rcases pQ (br q a)with⟨e,a0⟩ | ⟨e,a0⟩ | ⟨e,a0⟩;·simp only[nZ,eu,gQ,e,a0];rfl
  ·simp only[nZ,eu,gQ,e,a0];cases decide ((i:Int)<lo)<;>rfl
  ·have a2:=Wi (q:=q) (lo:=lo) bI j (i+1) (T q a).aW (e0 n (T q a).n);simp only[nZ,eu,gQ,e,a0,b8 bI]at a2 |-;exact a2
def Wj{P:cq}{k a:Nat}(h:(P.at_ k).d.k=6->(P.at_ k).d.hi≠-1):(dp P T k a).ce=di P (gQ T) k a:=by
 rcases BQ (P.at_ k).d.k with e | e | e | e | e | e | e | e | e | ⟨b7,ax,az,bc,ct,ej,gz,iW,nQ⟩
 ·rw[zK e];simp only[dp,e];rfl
 ·rw[zL e];simp only[dp,e];cases af:P.s.data[a]? with
  |none=>rfl
  |some b=>
   simp only;cases qB (P.at_ k).d b.toNat<;>rfl
 ·rw[zM e];simp only[dp,e];cases preB P.s (P.at_ k).d.t a<;>rfl
 ·rw[xD e];simp[dp,e,gQ]
 ·rw[zN e,<-Wg br];simp[dp,e]
 ·rw[zO e,<-Wh br];simp[dp,e]
 ·have bI:=h e;rw[vG e,<-Wi br bI];simp[dp,e,bI,BP]
 ·rw[vH e];generalize aE:(P.at_ k).asks.getD 0 0=q;rcases pQ (br q a)with⟨g,c2⟩ | ⟨g,c2⟩ | ⟨g,c2⟩
  ·simp only[dp,e,aE,g,gQ,c2];rfl
  ·simp only[dp,e,aE,g,gQ,c2];rfl
  ·simp only[dp,e,aE,g,gQ,c2];rfl
 ·rw[vI e];generalize aE:(P.at_ k).asks.getD 0 0=q;rcases pQ (br q a)with⟨g,c2⟩ | ⟨g,c2⟩ | ⟨g,c2⟩
  ·simp only[dp,e,aE,g,gQ,c2];rfl
  ·simp only[dp,e,aE,g,gQ,c2];rfl
  ·simp only[dp,e,aE,g,gQ,c2];rfl
 ·rw[xE b7 ax az bc ct ej gz iW nQ];generalize aE:(P.at_ k).asks.getD 0 0=q;have ap:dp P T k a=bif Nat.beq (T q a).aB 2 then { T q a with n:=e0 (T q a).n 1 }else T q a:=by simp only[dp,aE,b8 b7,b8 ax,b8 az,b8 bc,b8 ct,b8 ej,b8 gz,b8 iW,b8 nQ,a5]
  rw[ap];rcases pQ (br q a)with⟨g,c2⟩ | ⟨g,c2⟩ | ⟨g,c2⟩;·simp only[g,gQ,c2];exact c2
  ·simp only[g,gQ,c2];exact c2
  ·simp only[g,gQ,c2];simp[bY.ce,g]
end
inductive lO(m:Nat->Nat->bG)(q:Nat):Nat->Nat->Nat->Nat->Prop
 |stop{a}(h:(m q a).aB=2):lO m q a 0 a 0| more {a t aW n} (h:(m q a).aB=3) (av:(m q a).aW≠a) (r:lO m q (m q a).aW t aW n):lO m q a (t+1) aW (e0 (m q a).n n)
def ahm(a b c:Nat):e0 a (e0 b c)=e0 (e0 a b) c:=by unfold e0;omega
def lO.mono{m m':Nat->Nat->bG}{q a t aW n lo:Nat}(h:nX lo m m')(ar:BR m)(aA:lO m q a t aW n)(aD:lo<=a):lO m' q a t aW n:=by
 induction aA with
 |stop U=>exact .stop (by rw[h q _ aD (.inl U)];exact U)| @more a t aW n U av r a2=>have e:=h q a aD (.inr U);have:=lO.more (m:=m') (q:=q) (a:=a) (by rw[e];exact U) (by rw[e];exact av) (by rw[e];exact a2 (jB aD (ar q a U)));rwa [e]at this
def lO.len{m:Nat->Nat->bG}{q a t aW n:Nat}(hm:∀ q b,iX z b (m q b))(aA:lO m q a t aW n):a+t<=aW/\(a<=z->aW<=z)/\n<=1099511627776:=by
 induction aA with
 |stop U=>exact⟨b6 _,id,bj _⟩| @more a t aW n U av r a2=>obtain⟨aR,aV,bl⟩:=(hm q a).ge U;obtain⟨i1,i2,i3⟩:=a2;exact⟨by omega,λh=>i2 (aV h),pP _ _⟩
def ahn{m:Nat->Nat->bG}{q:Nat}{a t aW c:Nat}(aA:lO m q a t aW c):∀ (j i n:Nat),t<j->n<=1099511627776 ->
  eu m q lo (-1) j i a n=bif decide (((i+t:Nat):Int)<lo)then hW else⟨e0 n c,aW,3⟩:=by
 induction aA with
 | @stop a U=>
  intro j i n al av;obtain⟨j,rfl⟩:∃ x,j=x+1:=⟨j-1,by omega⟩;have e:e0 n 0=n:=by unfold e0;omega
  simp only[eu,U,e];rfl
 | @more a t aW c U bk r a2=>intro j i n al av;obtain⟨j,rfl⟩:∃ x,j=x+1:=⟨j-1,by omega⟩;have aa:=a2 j (i+1) (e0 n (m q a).n) (by omega) (pP _ _);simp only[eu,U,b8 bk];rw[show Nat.beq 3 2=false from rfl,a5,show Nat.beq 3 3=true from rfl,ba,Il,a5,aa,<-ahm];rw[show i+1+t=i+(t+1) by omega]
def Wk{m:Nat->Nat->bG}{q:Nat}{lo:Int}:∀ (j i a n:Nat),dm (eu m q lo (-1) j i a n)->∃ t aW c,lO m q a t aW c/\t<j
 |0,i,a,n,ai=>absurd ai nY
 |j+1,i,a,n,ai=>by
  cases aa:Nat.beq (m q a).aB 2 with
  |true=>exact⟨0,a,0,.stop (cC aa),by omega⟩
  |false=>
   cases ag:Nat.beq (m q a).aB 3 with
   |false=>simp only[eu,aa,ag,a5]at ai;exact absurd ai nY
   |true=>
    simp only[eu,aa,ag,a5,ba]at ai;cases he:decide ((m q a).aW=a)with
    |true=>rw[he]at ai;exact absurd ai nY| false=>rw[he]at ai;obtain⟨t,aW,c,h,aL⟩:=Wk j _ _ _ ai;exact⟨t+1,aW,_,.more (cC ag) (b' he) h,by omega⟩
def Wl{P:cq}{k a t aW c:Nat}(bD:(P.at_ k).d.k=6)(bI:(P.at_ k).d.hi=-1)(aD:a<=P.s.size)(aA:lO (bV P) ((P.at_ k).asks.getD 0 0) a t aW c) :
  bV P k a=bif decide ((t:Int)<(P.at_ k).d.lo)then hW else⟨c,aW,3⟩:=by
 obtain⟨w1,w5,amb⟩:=aA.len (sJ P);have bd:=w5 aD;rw[<-Ou,vG bD,bI,BP,bI,fA rfl,ba,ahn aA _ _ _ (by omega) (by omega),dK];rw[show e0 0 c=c by unfold e0;omega]
structure hY(P:cq)(N:Nat)(T:Nat->Nat->bY):Prop where
 aB:∀ k a,(T k a).aB<=2
 snd:∀ k a,(T k a).aB≠0->bV P k a=(T k a).ce
 sZ:∀ k a,k<N->a<=P.s.size->(P.at_ k).d.k=6->(P.at_ k).d.hi=-1->(T k a).aB≠0->∃ t,lO (bV P) ((P.at_ k).asks.getD 0 0) a t (T k a).aW (T k a).n/\(T k a).times=min t 99
 rg:∀ k a,k<N->a<=P.s.size->(T k a).n<=1099511627776/\(T k a).aW<=P.s.size/\(T k a).times<=99
 out:∀ k a,¬ (k<N/\a<=P.s.size)->(T k a).ce=bV P k a
def fE(T:Nat->Nat->bY)(k p:Nat)(c:bY):Nat->Nat->bY:=λcd e2=>bif Nat.beq cd k&&Nat.beq e2 p then c else T cd e2
def BU(T:Nat->Nat->bY)(k p:Nat)(c:bY):fE T k p c k p=c:=by simp[fE]
def vK{T:Nat->Nat->bY}{k p:Nat}{c:bY}(h:¬ (cd=k/\e2=p)):fE T k p c cd e2=T cd e2:=by
 unfold fE;have:(Nat.beq cd k&&Nat.beq e2 p)=false:=by rw[yO];intro e;simp only[bL,Nat.beq_eq]at e;exact h e
 rw[this];rfl
structure ur(P:cq)(N:Nat)(k:Nat):Prop where
 gy:0<=(P.at_ k).d.k
 one:(P.at_ k).d.k=3\/6<=(P.at_ k).d.k->(P.at_ k).asks.getD 0 0<N
 asks:∀ q∈(P.at_ k).asks,q<N
 l3:(P.at_ k).d.k=6->(P.at_ k).d.lo<=99
section
variable{P:cq}{N:Nat}{T:Nat->Nat->bY}
def hY.le(h:hY P N T):nX 0 (gQ T) (bV P):=λq b _ ai=>h.snd q b ((zP (h.aB q b)).1 ai)
def hY.cJ(h:hY P N T)(q b:Nat):iX P.s.size b (gQ T q b):=by
 by_cases e:(T q b).aB=0
 ·rcases pQ (h.aB q b)with⟨_,a0⟩ | ⟨az,_⟩ | ⟨az,_⟩
  ·exact .inl a0
  ·omega
  ·omega
 ·show iX _ _ (T q b).ce;rw[<-h.snd q b e];exact sJ P q b
def hY.ge(h:hY P N T):BR (gQ T):=λq b ag=>((h.cJ q b).ge ag).1
def aho{t:Nat}(h:lo<=99):decide (((min t 99:Nat):Int)<lo)=decide ((t:Int)<lo):=by rw[n5];simp only[ft];omega
def Wm(lo:Int)(n aW t:Nat):(mi lo ⟨n,aW,2,t⟩).ce=bif decide ((t:Int)<lo)then hW else⟨n,aW,3⟩:=by
 unfold mi;cases decide ((t:Int)<lo)<;>rfl
def Wn(lo:Int)(c:bY):(mi lo c).n=c.n/\(mi lo c).aW=c.aW/\(mi lo c).times=c.times:=by
 unfold mi;cases decide ((c.times:Int)<lo)<;>exact⟨rfl,rfl,rfl⟩
def Wo(lo:Int)(c:bY)(h:c.aB=2):(mi lo c).aB<=2:=by
 unfold mi;cases decide ((c.times:Int)<lo)
 ·exact Nat.le_of_eq h
 ·show 1<=2;omega
def ahp(h:hY P N T){k a:Nat}(ae:k<N)(aD:a<=P.s.size)(av:ur P N k)(bD:(P.at_ k).d.k=6)(bI:(P.at_ k).d.hi=-1){c:bY}(aA:vJ T k ((P.at_ k).asks.getD 0 0) (P.at_ k).d.lo a=c) :
  c.aB<=2/\c.n<=1099511627776/\c.aW<=P.s.size/\c.times<=99/\(c.aB≠0->bV P k a=c.ce/\∃ t,lO (bV P) ((P.at_ k).asks.getD 0 0) a t c.aW c.n/\c.times=min t 99):=by
 have dX:=av.l3 bD;have ahq:=av.one (.inr (by omega));generalize aE:(P.at_ k).asks.getD 0 0=q at aA ahq |-;have E9:=fun {t aW c} (h:lO (bV P) q a t aW c)=>Wl bD bI aD (by rw[aE];exact h);unfold vJ at aA;rcases pQ (h.aB q a)with⟨e,a0⟩ | ⟨e,a0⟩ | ⟨e,a0⟩
 ·simp only[e]at aA;subst aA;exact⟨bj _,bj _,bj _,bj _,λh=>absurd rfl h⟩
 ·have ay:=h.snd q a (by omega);rw[a0]at ay;have dw:lO (bV P) q a 0 a 0:=.stop (by rw[ay];rfl);simp only[e]at aA;have rS:mi (P.at_ k).d.lo (m1 a)=c:=aA;obtain⟨f1,f2,f3⟩:=Wn (P.at_ k).d.lo (m1 a);rw[<-rS];refine⟨Wo _ _ rfl,by rw[f1];exact bj _,by rw[f2];exact aD,by rw[f3];exact bj _,λ_=>⟨?_,0,by rw[f1,f2];exact dw,by rw[f3];rfl⟩⟩;rw[E9 dw];exact(Wm _ 0 a 0).symm
 ·have ay:=h.snd q a (by omega);rw[a0]at ay;have iC:=sJ P q a;rw[ay]at iC;obtain⟨aR,aV,bl⟩:=iC.ge rfl;simp only at aR aV bl;simp only[e]at aA;cases af:Nat.beq (T q a).aW a with
  |true=>rw[af]at aA;have rS:ic=c:=aA;subst rS;exact⟨bj _,bj _,bj _,bj _,λh=>absurd rfl h⟩
  |false=>
   have bk:(T q a).aW≠a:=λe=>by rw[e]at af;simp at af
   rw[af]at aA;have rS:(bif Nat.beq (T k (T q a).aW).aB 0 then ic else mi (P.at_ k).d.lo ⟨e0 (T q a).n (T k (T q a).aW).n,(T k (T q a).aW).aW,2,min ((T k (T q a).aW).times+1) 99⟩)=c:=aA;cases aq:Nat.beq (T k (T q a).aW).aB 0 with
   |true=>rw[aq,ba]at rS;subst rS;exact⟨bj _,bj _,bj _,bj _,λh=>absurd rfl h⟩
   |false=>
    rw[aq,a5]at rS;have la:=aV aD;obtain⟨t,ef,au⟩:=h.sZ k (T q a).aW ae la bD bI λe=>by rw[e]at aq;cases aq
    rw[aE]at ef;obtain⟨ve,nI,qA⟩:=h.rg k (T q a).aW ae la;have dw:lO (bV P) q a (t+1) (T k (T q a).aW).aW (e0 (T q a).n (T k (T q a).aW).n):=by have:=lO.more (m:=bV P) (q:=q) (a:=a) (by rw[ay]) (by rw[ay];exact bk) (by rw[ay];exact ef);rwa [ay]at this
    generalize ab:(⟨e0 (T q a).n (T k (T q a).aW).n,(T k (T q a).aW).aW,2,min ((T k (T q a).aW).times+1) 99⟩:bY)=x at rS;obtain⟨f1,f2,f3⟩:=Wn (P.at_ k).d.lo x;rw[<-rS];subst ab;have hm:min ((T k (T q a).aW).times+1) 99=min (t+1) 99:=by omega
    refine⟨Wo _ _ rfl,by rw[f1];exact pP _ _,by rw[f2];exact nI,by rw[f3];exact Hh _ _,λ_=>⟨?_,t+1,by rw[f1,f2];exact dw,by rw[f3];exact hm⟩⟩;rw[E9 dw,Wm,hm,aho dX]
def Wp(h:hY P N T):∀ (L:List Nat) (a n:Nat),(∀ q∈L,q<N)->a<=P.s.size->n<=1099511627776->(oR T L a n).aB<=2/\(oR T L a n).n<=1099511627776/\(oR T L a n).aW<=P.s.size/\(oR T L a n).times<=99
 |[],a,n,_,aD,av=>⟨b6 _,av,aD,bj _⟩
 |q::L,a,n,b1,aD,av=>by
  unfold oR;cases Nat.beq (T q a).aB 2 with
  |true=>exact Wp h L _ _ (λq aE=>b1 q (.tail _ aE)) (h.rg q a (b1 q (.head _)) aD).2.1 (pP _ _)| false=>exact⟨h.aB q a,bj _,bj _,bj _⟩
def Wq(h:hY P N T):∀ (L:List Nat) (a:Nat),(∀ q∈L,q<N)->a<=P.s.size->(oS T L a).aB<=2/\(oS T L a).n<=1099511627776/\(oS T L a).aW<=P.s.size/\(oS T L a).times<=99
 |[],a,_,aD=>⟨by show 1<=2;omega,bj _,bj _,bj _⟩
 |q::L,a,b1,aD=>by
  unfold oS;cases Nat.beq (T q a).aB 1 with
  |true=>exact Wq h L _ (λq aE=>b1 q (.tail _ aE)) aD| false=>exact⟨h.aB q a,h.rg q a (b1 q (.head _)) aD⟩
def Wr(h:hY P N T){q:Nat}(aE:q<N){lo:Int}:∀ (j i a n:Nat),a<=P.s.size->n<=1099511627776->(nZ T q lo j i a n).aB<=2/\(nZ T q lo j i a n).n<=1099511627776/\(nZ T q lo j i a n).aW<=P.s.size/\(nZ T q lo j i a n).times<=99
 |0,i,a,n,aD,av=>⟨b6 _,av,aD,bj _⟩
 |j+1,i,a,n,aD,av=>by
  unfold nZ;cases Nat.beq (T q a).aB 0||(Nat.beq (T q a).aB 1&&decide ((i:Int)<lo))with
  |true=>exact⟨h.aB q a,bj _,bj _,bj _⟩
  |false=>
   cases Nat.beq (T q a).aB 1 with
   |true=>exact⟨b6 _,av,aD,bj _⟩| false=>exact Wr h aE j _ _ _ (h.rg q a aE aD).2.1 (pP _ _)
def Ov(h:hY P N T){k a:Nat}(ae:k<N)(aD:a<=P.s.size)(av:ur P N k){c:bY}(aA:dp P T k a=c) :
  c.aB<=2/\c.n<=1099511627776/\c.aW<=P.s.size/\c.times<=99/\(c.aB≠0->bV P k a=c.ce/\((P.at_ k).d.k=6->(P.at_ k).d.hi=-1->∃ t,lO (bV P) ((P.at_ k).asks.getD 0 0) a t c.aW c.n/\c.times=min t 99)):=by
 by_cases aH:(P.at_ k).d.k=6/\(P.at_ k).d.hi=-1
 ·have e:dp P T k a=vJ T k ((P.at_ k).asks.getD 0 0) (P.at_ k).d.lo a:=by simp[dp,aH.1,aH.2]
  rw[e]at aA;obtain⟨U,aa,ag,aK,bg⟩:=ahp h ae aD av aH.1 aH.2 aA;exact⟨U,aa,ag,aK,λaq=>⟨(bg aq).1,λ_ _=>(bg aq).2⟩⟩
 have Ow:(P.at_ k).d.k=6->(P.at_ k).d.hi≠-1:=λU aa=>aH ⟨U,aa⟩;have an:c.aB<=2/\c.n<=1099511627776/\c.aW<=P.s.size/\c.times<=99:=by
  subst aA;rcases BQ (P.at_ k).d.k with e | e | e | e | e | e | e | e | e | ⟨b7,ax,az,bc,ct,ej,gz,iW,nQ⟩;·simp only[dp,e];exact⟨b6 _,bj _,aD,bj _⟩
  ·simp only[dp,e];cases af:P.s.data[a]? with
   |none=>exact⟨by show 1<=2;omega,bj _,bj _,bj _⟩
   |some b=>
    have aL:a<P.s.data.size:=(kg.1 af).1;have az:P.s.data.size=P.s.size:=rfl;simp only;cases qB (P.at_ k).d b.toNat;·exact⟨by show 1<=2;omega,bj _,bj _,bj _⟩
    ·exact⟨b6 _,bj _,by show a+1<=_;omega,bj _⟩
  ·simp only[dp,e];cases aO:preB P.s (P.at_ k).d.t a with
   |false=>exact⟨by show 1<=2;omega,bj _,bj _,bj _⟩| true=>simp only[preB,bL,ft]at aO;exact⟨b6 _,bj _,aO.1,bj _⟩
  ·simp only[dp,e];exact⟨h.aB _ _,h.rg _ _ (av.one (.inl e)) aD⟩
  ·simp only[dp,e];exact Wp h _ _ _ av.asks aD (bj _)
  ·simp only[dp,e];exact Wq h _ _ av.asks aD
  ·simp only[dp,e,b8 (Ow e)];exact Wr h (av.one (.inr (by omega))) _ _ _ _ aD (bj _)
  ·simp only[dp,e];have:=h.aB ((P.at_ k).asks.getD 0 0) a;cases Nat.beq (T ((P.at_ k).asks.getD 0 0) a).aB 2
   ·exact⟨this,bj _,bj _,bj _⟩
   ·exact⟨b6 _,bj _,aD,bj _⟩
  ·simp only[dp,e];cases Nat.beq (T ((P.at_ k).asks.getD 0 0) a).aB 1 with
   |true=>exact⟨b6 _,bj _,aD,bj _⟩
   |false=>
    cases Nat.beq (T ((P.at_ k).asks.getD 0 0) a).aB 2;·exact⟨bj _,bj _,bj _,bj _⟩
    ·exact⟨by show 1<=2;omega,bj _,bj _,bj _⟩
  ·have ap:dp P T k a=bif Nat.beq (T ((P.at_ k).asks.getD 0 0) a).aB 2 then { T ((P.at_ k).asks.getD 0 0) a with n:=e0 (T ((P.at_ k).asks.getD 0 0) a).n 1 }else T ((P.at_ k).asks.getD 0 0) a:=by simp only[dp,b8 b7,b8 ax,b8 az,b8 bc,b8 ct,b8 ej,b8 gz,b8 iW,b8 nQ,a5]
   rw[ap];by_cases bD:6<=(P.at_ k).d.k
   ·have U:=h.aB ((P.at_ k).asks.getD 0 0) a;obtain⟨aa,ag,aK⟩:=h.rg ((P.at_ k).asks.getD 0 0) a (av.one (.inr bD)) aD;cases Nat.beq (T ((P.at_ k).asks.getD 0 0) a).aB 2
    ·exact⟨U,aa,ag,aK⟩
    ·exact⟨U,pP _ _,ag,aK⟩
   ·have:=av.gy;omega
 refine⟨an.1,an.2.1,an.2.2.1,an.2.2.2,λaq=>⟨?_,λbD bI=>absurd bI (Ow bD)⟩⟩;have ai:dm c.ce:=(zP an.1).2 aq;rw[<-aA,Wj h.aB Ow]at ai |-;have:=E7 h.le h.ge (bj _) ai;rw[<-this]at ai |-;exact Ot ai
def hY.set(h:hY P N T){k a:Nat}(ae:k<N)(aD:a<=P.s.size)(av:ur P N k){c:bY}(aA:dp P T k a=c)(aq:c.aB≠0):hY P N (fE T k a c):=by
 obtain⟨E',zQ,Ws,Wt,Fa⟩:=Ov h ae aD av aA;obtain⟨Fa,ahr⟩:=Fa aq;refine⟨λcd bF=>?_,λcd bF=>?_,λcd bF=>?_,λcd bF=>?_,λcd bF=>?_⟩
 ·by_cases e:cd=k/\bF=a
  ·obtain⟨rfl,rfl⟩:=e;rw[BU];exact E'
  ·rw[vK e];exact h.aB _ _
 ·by_cases e:cd=k/\bF=a
  ·obtain⟨rfl,rfl⟩:=e;rw[BU];exact λ_=>Fa
  ·rw[vK e];exact h.snd _ _
 ·by_cases e:cd=k/\bF=a
  ·obtain⟨rfl,rfl⟩:=e;rw[BU];exact λ_ _ bD bI _=>ahr bD bI
  ·rw[vK e];exact h.sZ _ _
 ·by_cases e:cd=k/\bF=a
  ·obtain⟨rfl,rfl⟩:=e;rw[BU];exact λ_ _=>⟨zQ,Ws,Wt⟩
  ·rw[vK e];exact h.rg _ _
 ·intro ab;rw[vK λe=>ab (by rw[e.1,e.2];exact⟨ae,aD⟩)];exact h.out _ _ ab
def Wu{k a:Nat}(bD:(P.at_ k).d.k=6)(bI:(P.at_ k).d.hi=-1):dp P T k a=vJ T k ((P.at_ k).asks.getD 0 0) (P.at_ k).d.lo a:=by simp[dp,bD,bI]
def Wv(lo:Int)(c:bY)(h:c.aB=2):(mi lo c).aB≠0:=by
 unfold mi;cases decide ((c.times:Int)<lo)
 ·rw[a5,h];omega
 ·exact λh=>by cases h
def Ww{k q a:Nat}(h:(T q a).aB=1\/((T q a).aB=2/\(T q a).aW≠a/\(T k (T q a).aW).aB≠0)):(vJ T k q lo a).aB≠0:=by
 unfold vJ;rcases h with h | ⟨U,aa,ag⟩
 ·simp only[h];exact Wv _ _ rfl
 ·have af:Nat.beq (T q a).aW a=false:=by rw[yO];exact λe=>aa (cC e)
  have uY:Nat.beq (T k (T q a).aW).aB 0=false:=by rw[yO];exact λe=>ag (cC e)
  simp only[U,af,uY];exact Wv _ _ rfl
def ahs(h:hY P N T)(av:∀ k,k<N->ur P N k){a:Nat}(Fb:∀ k b,a<b->(T k b).ce=bV P k b)(dL:∀ k,k<N->(T k a).aB=0->(dp P T k a).aB=0)(aD:a<=P.s.size)(k:Nat):(T k a).ce=bV P k a:=by
 have hle:nX a (bV P) (gQ T):=ahl λk b af ai=>by
  have ax:di P (bV P) k b=di P (gQ T) k b:=E7 h.le h.ge (bj _) ai;have ay:bV P k b=di P (gQ T) k b:=by rw[<-ax];exact Ot (by rw[ax];exact ai)
  by_cases tY:b=a
  ·subst tY;by_cases aq:(T k b).aB=0
   ·exfalso;by_cases ae:k<N
    ·have aA:=dL k ae aq;by_cases aH:(P.at_ k).d.k=6/\(P.at_ k).d.hi=-1
     ·rw[Wu aH.1 aH.2]at aA;rw[vG aH.1,aH.2]at ai;obtain⟨t,aW,c,E9,-⟩:=Wk _ _ _ _ ai;generalize aE:(P.at_ k).asks.getD 0 0=q at E9 aA;cases E9 with
      |stop U=>
       refine Ww (.inl ?_) aA;rcases pQ (h.aB q b)with⟨e,a0⟩ | ⟨e,a0⟩ | ⟨e,a0⟩;·simp only[gQ,a0,k4]at U;cases U
       ·exact e
       ·simp only[gQ,a0]at U;cases U
      |more U bk r=>
       rcases pQ (h.aB q b)with⟨e,a0⟩ | ⟨e,a0⟩ | ⟨e,a0⟩;·simp only[gQ,a0,k4]at U;cases U
       ·simp only[gQ,a0,hW]at U;cases U
       ·have iC:=h.cJ q b;simp only[gQ,a0]at iC bk r;obtain⟨aR,aV,bl⟩:=iC.ge rfl;simp only at aR aV;refine Ww (.inr ⟨e,bk,λb7=>?_⟩) aA;have nI:=r.mono h.le h.ge (bj _);have az:=Wl aH.1 aH.2 (aV aD) (by rw[aE];exact nI);have bc:=Fb k (T q b).aW (by omega);have lC:dm (bV P k (T q b).aW):=by
         rw[az];cases decide ((_:Int)<(P.at_ k).d.lo);·exact .inr rfl
         ·exact .inl rfl
        rw[<-bc]at lC;exact(zP (h.aB _ _)).1 lC b7
     ·rw[<-Wj h.aB λU aa=>aH ⟨U,aa⟩]at ai;obtain⟨E',-⟩:=Ov h ae aD (av k ae) rfl;exact(zP E').1 ai aA
    ·have:=h.out k b λe=>ae e.1;rw[ay]at this;rw[<-this]at ai;exact(zP (h.aB _ _)).1 ai aq
   ·show(T k b).ce=_;rw[<-h.snd k b aq];exact ay
  ·show(T k b).ce=_;rw[Fb k b (by omega)];exact ay
 by_cases ai:dm (bV P k a)
 ·exact hle k a (b6 _) ai
 ·by_cases aq:(T k a).aB=0
  ·rw[(sJ P k a).zero ai];rcases pQ (h.aB k a)with⟨e,a0⟩ | ⟨e,a0⟩ | ⟨e,a0⟩
   ·exact a0
   ·omega
   ·omega
  ·exact(h.snd k a aq).symm
def aht(h:hY P N T){k a:Nat}(ae:k<N)(aD:a<=P.s.size)(av:ur P N k)(he:(T k a).ce=bV P k a)(aq:(T k a).aB=0):(dp P T k a).aB=0:=by obtain⟨E',zQ,Ws,Wt,Fa⟩:=Ov h ae aD av rfl;refine z5 λbk=>?_;have e:=(Fa bk).1;rw[<-he]at e;have ai:=(zP E').2 bk;rw[<-e]at ai;exact(zP (h.aB _ _)).1 ai aq
end
def Ox(c:bG):bG:=⟨min c.n 65537,c.aW,c.aB⟩
def Oy(z:Nat)(m:Nat->Nat->bG)(k p:Nat):bG:=bif Nat.ble p z then Ox (m k p)else k4
def ahu{m:Nat->Nat->bG}{k p:Nat}(h:p<=z):Oy z m k p=Ox (m k p):=by unfold Oy;rw[yN h];rfl
section
variable{z:Nat}{m:Nat->Nat->bG}(hm:∀ q b,iX z b (m q b))
include hm
end
structure zR(P:cq)(k:Nat):Prop where
 gy:0<=(P.at_ k).d.k
 one:(P.at_ k).d.k=3\/6<=(P.at_ k).d.k->∃ q,(P.at_ k).asks=[q]
 lt:(P.at_ k).d.k<10
 l3:(P.at_ k).d.k=6->(P.at_ k).d.hi=-1\/(0<=(P.at_ k).d.hi/\(P.at_ k).d.hi<=99)
noncomputable def BV(P:cq):Nat->Nat->bG:=Oy P.s.size (bV P)
structure cK where
 is:Nat
 aW:Nat
 n:Nat
def cK.ce(c:cK):bG:=bif Nat.beq c.is 4 then⟨c.n,c.aW,3⟩else bif Nat.beq c.is 3 then hW else k4
structure ka(P:cq)(f g:(Nat->Nat->bG)->bG):Prop where
 l:f (bV P)=g (bV P)
 d:∀ n,dm (f (g2 P n))->dm (g (g2 P n))
def ka.refl{P:cq}:ka P f f:=⟨rfl,λ_ h=>h⟩
def ka.trans{P:cq}{h:(Nat->Nat->bG)->bG}(a:ka P f g)(b:ka P g h):ka P f h:=⟨a.l.trans b.l,λn x=>b.d n (a.d n x)⟩
def ka.ask{P:cq}{q a:Nat}(ai:∀ m,dm (f m)->dm (m q a))(he:∀ m:Nat->Nat->bG,m q a=bV P q a->f m=g m):ka P f g:=
 ⟨he _ rfl,λn h=>by
  have aa:=BT (ai _ h);rw[he _ aa.symm]at h;exact h⟩
def pR(P:cq)(A:Nat->Nat->Prop)(f:(Nat->Nat->bG)->bG):Prop:=∀ n,dm (f (g2 P n))->∃ k a fB,fB<=n/\A k a/\dm (g2 P fB k a)
def oT(P:cq)(A:Nat->Nat->Prop)(k a:Nat):Prop:=∀ n,dm (g2 P n k a)->∃ cd bF fB,fB<n/\A cd bF/\dm (g2 P fB cd bF)
def pR.aW{P:cq}(h:pR P A g)(au:ka P f g):pR P A f:=λn ai=>h n (au.d n ai)
def pR.ask{P:cq}{q a:Nat}(h:pR P A λm=>m q a)(ai:∀ m,dm (f m)->dm (m q a)):pR P A f:=λn ab=>h n (ai _ ab)
def pR.never{P:cq}(h:∀ n,¬ dm (f (g2 P n))):pR P A f:=λn ab=>absurd ab (h n)
def oT.le{P:cq}{k a:Nat}(h:oT P A k a):pR P A λm=>m k a:=λn ai=>by obtain⟨cd,bF,fB,U,aa,ag⟩:=h n ai;exact⟨cd,bF,fB,Nat.le_of_lt U,aa,ag⟩
def ahv{P:cq}{k a:Nat}(h:pR P iI λm=>di P m k a)(ea:∀ x y,iI x y->A x y\/(x=k/\y=a)):oT P A k a:=by
 intro n
 induction n using Nat.strongRecOn with
 |ind n a2=>
  intro ai;cases n with
  |zero=>exact absurd ai nY
  |succ n=>
   obtain⟨cd,bF,fB,U,aa,ag⟩:=h n ai;rcases ea _ _ aa with aa | ⟨rfl,rfl⟩;·exact⟨cd,bF,fB,by omega,aa,ag⟩
   ·obtain⟨x,y,iA,tL,pD,vC⟩:=a2 fB (by omega) ag;exact⟨x,y,iA,by omega,pD,vC⟩
def oT.less{P:cq}{k a bF:Nat}(h:oT P iI cd bF)(ao:oT P A k a)(ea:∀ x y,iI x y->A x y\/(x=k/\y=a)):oT P A cd bF:=λn ai=>by
 obtain⟨x,y,fB,U,aa,ag⟩:=h n ai;rcases ea _ _ aa with aa | ⟨rfl,rfl⟩
 ·exact⟨x,y,fB,U,aa,ag⟩
 ·obtain⟨xw,IX,iA,tL,pD,vC⟩:=ao fB ag;exact⟨xw,IX,iA,by omega,pD,vC⟩
def oT.none{P:cq}{k a:Nat}(h:oT P A k a)(ea:∀ x y,¬ A x y):bV P k a=k4:=by refine(sJ P k a).zero λai=>?_;obtain⟨n,av⟩:=oQ ai;rw[<-av]at ai;obtain⟨x,y,fB,U,aa,ag⟩:=h n ai;exact ea x y aa
def pR.none{P:cq}{k a:Nat}(h:pR P A λm=>m k a)(ea:∀ x y,¬ A x y):bV P k a=k4:=by refine(sJ P k a).zero λai=>?_;obtain⟨n,av⟩:=oQ ai;rw[<-av]at ai;obtain⟨x,y,fB,U,aa,ag⟩:=h n ai;exact ea x y aa
section
variable{m:Nat->Nat->bG}{q a n:Nat}{L:List Nat}
def Wx(h:dm (gB m (q::L) a n)):dm (m q a):=by
 unfold gB at h;cases ag:Nat.beq (m q a).aB 3 with
 |true=>exact m0 ag| false=>rw[ag,a5]at h;exact h
def Wy(h:dm (gP m (q::L) a)):dm (m q a):=by
 unfold gP at h;cases aa:Nat.beq (m q a).aB 2 with
 |true=>exact uo aa| false=>rw[aa,a5]at h;exact h
def Oz{hi:Int}{j i:Nat}(h:dm (eu m q lo hi (j+1) i a n)):dm (m q a):=by
 unfold eu at h;cases aa:Nat.beq (m q a).aB 2 with
 |true=>exact uo aa
 |false=>
  cases ag:Nat.beq (m q a).aB 3 with
  |true=>exact m0 ag| false=>rw[aa,ag]at h;exact absurd h nY
def IY{P:cq}{k:Nat}(ae:(P.at_ k).d.k=3\/(7<=(P.at_ k).d.k/\(P.at_ k).d.k<10))(aE:(P.at_ k).asks.getD 0 0=q)(h:dm (di P m k a)):dm (m q a):=by
 rcases BQ (P.at_ k).d.k with e | e | e | e | e | e | e | e | e | ⟨gy,cM,cp,eD,hd,D4,uh,ahw,ahx⟩
 ·omega
 ·omega
 ·omega
 ·rw[xD e,aE]at h;exact h
 ·omega
 ·omega
 ·omega
 ·rw[vH e,aE]at h;cases ag:Nat.beq (m q a).aB 3 with
  |true=>exact m0 ag| false=>rw[ag,a5]at h;exact h
 ·rw[vI e,aE]at h;cases aa:Nat.beq (m q a).aB 2 with
  |true=>exact uo aa
  |false=>
   cases ag:Nat.beq (m q a).aB 3 with
   |true=>exact m0 ag| false=>rw[aa,ag]at h;exact absurd h nY
 ·rw[xE gy cM cp eD hd D4 uh ahw ahx,aE]at h;cases ag:Nat.beq (m q a).aB 3 with
  |true=>exact m0 ag| false=>rw[ag,a5]at h;exact h
end
def kc(C:Nat->Nat->cK)(k p:Nat)(c:cK):Nat->Nat->cK:=λcd e2=>bif Nat.beq cd k&&Nat.beq e2 p then c else C cd e2
def Wz(C:Nat->Nat->cK)(k p:Nat)(c:cK):kc C k p c k p=c:=by simp[kc]
def Fc{C:Nat->Nat->cK}{k p:Nat}{c:cK}(h:¬ (cd=k/\e2=p)):kc C k p c cd e2=C cd e2:=by
 unfold kc;cases U:Nat.beq cd k with
 |false=>rfl
 |true=>
  cases aa:Nat.beq e2 p with
  |false=>rfl| true=>exact absurd ⟨cC U,cC aa⟩ h
def pS(C:Nat->Nat->cK)(k p:Nat)(c:cK)(cd e2:Nat):(cd=k/\e2=p/\kc C k p c cd e2=c)\/(¬ (cd=k/\e2=p)/\kc C k p c cd e2=C cd e2):=by
 by_cases h:cd=k/\e2=p
 ·obtain⟨rfl,rfl⟩:=h;exact .inl ⟨rfl,rfl,Wz ..⟩
 ·exact .inr ⟨h,Fc h⟩
structure kd(P:cq)(A:Nat->Nat->Prop)(C:Nat->Nat->cK):Prop where
 le:∀ k a,(C k a).is<=4
 ask:∀ k a,(C k a).is=1->A k a
 m3:∀ k a,(C k a).is=2->oT P A k a
 fin:∀ k a,3<=(C k a).is->bV P k a=(C k a).ce
 z:∀ k a,(C k a).is=3->(C k a).n=0
structure eM(P:cq)(A:Nat->Nat->Prop)(f:(Nat->Nat->bG)->bG)(c:cK):Prop where
 is:c.is=2\/c.is=3\/c.is=4
 m3:c.is=2->pR P A f
 fin:3<=c.is->f (bV P)=c.ce
 z:c.is=3->c.n=0
structure n1(C C':Nat->Nat->cK)(none:Prop):Prop where
 new:∀ k a,(C' k a).is=0->(C k a).is=0
 m3:¬ none->∀ k a,(C' k a).is=2->(C k a).is=2
def n1.refl{C:Nat->Nat->cK}:n1 C C p:=⟨λ_ _ h=>h,λ_ _ _ h=>h⟩
def n1.trans{C C' WA:Nat->Nat->cK}{q r:Prop}(h:n1 C C' p)(a1:n1 C' WA q)(aO:p->r)(aE:q->r):n1 C WA r:=
 ⟨λk a e=>h.new k a (a1.new k a e),λan k a e=>h.m3 (λx=>an (aO x)) k a (a1.m3 (λx=>an (aE x)) k a e)⟩
def n1.q4{C C':Nat->Nat->cK}{q:Prop}(h:n1 C C' p)(aO:p->q):n1 C C' q:=⟨h.new,λaE=>h.m3 λx=>aE (aO x)⟩
def WB{c:cK}(h:c.is=4):c.ce=⟨c.n,c.aW,3⟩:=by unfold cK.ce;rw[h];rfl
def ahy{c:cK}(h:c.is=3):c.ce=hW:=by unfold cK.ce;rw[h];rfl
section
variable{P:cq}{A:Nat->Nat->Prop}{C:Nat->Nat->cK}
def oT.ahz{k a:Nat}(h:oT P A k a)(ea:∀ x y,A x y->iI x y):oT P iI k a:=λn ai=>by obtain⟨x,y,fB,U,aa,ag⟩:=h n ai;exact⟨x,y,fB,U,ea _ _ aa,ag⟩
def kd.known(h:kd P A C){k a:Nat}(aq:(C k a).is≠0)(U:(C k a).is≠1):eM P A (λm=>m k a) (C k a):=
 ⟨by have:=h.le k a;omega,λe=>(h.m3 k a e).le,λe=>h.fin k a e,λe=>h.z k a e⟩
def kd.asked(h:kd P A C){k a:Nat}(U:(C k a).is=1)(t n:Nat):eM P A (λm=>m k a) ⟨2,t,n⟩:=
 ⟨.inl rfl,λ_ n ai=>⟨k,a,n,b6 _,h.ask k a U,ai⟩,λe=>by simp only at e;omega,λe=>by simp only at e;omega⟩
def kd.push(h:kd P A C){k a:Nat}{c:cK}(aA:c.is=1):kd P (λx y=>A x y\/(x=k/\y=a)) (kc C k a c):=by
 refine⟨λx y=>?_,λx y e=>?_,λx y e=>?_,λx y e=>?_,λx y e=>?_⟩
 ·rcases pS C k a c x y with⟨rfl,rfl,e⟩ | ⟨-,e⟩<;>rw[e]
  ·omega
  ·exact h.le x y
 ·rcases pS C k a c x y with⟨rfl,rfl,a0⟩ | ⟨-,a0⟩
  ·exact .inr ⟨rfl,rfl⟩
  ·rw[a0]at e;exact .inl (h.ask x y e)
 ·rcases pS C k a c x y with⟨rfl,rfl,a0⟩ | ⟨-,a0⟩<;>rw[a0]at e
  ·omega
  ·exact(h.m3 x y e).ahz λ_ _=>.inl
 ·rcases pS C k a c x y with⟨rfl,rfl,a0⟩ | ⟨-,a0⟩<;>rw[a0]at e |-
  ·omega
  ·exact h.fin x y e
 ·rcases pS C k a c x y with⟨rfl,rfl,a0⟩ | ⟨-,a0⟩<;>rw[a0]at e |-
  ·omega
  ·exact h.z x y e
def kd.pop{fx:Nat->Nat->cK}{k a:Nat}{dw c:cK}(aq:(C k a).is=0)(h:kd P A C)(sw:dw.is=1)(aa:kd P (λx y=>A x y\/(x=k/\y=a)) fx)(aA:eM P (λx y=>A x y\/(x=k/\y=a)) (λm=>di P m k a) c)(ay:n1 (kc C k a dw) fx (c.is=2)) :
  kd P A (kc fx k a c)/\eM P A (λm=>m k a) c/\n1 C (kc fx k a c) (c.is=2):=by
 have hle:c.is<=4:=by have:=aA.is;omega
 have x8:c.is=2->oT P A k a:=λe=>ahv (aA.m3 e) λx y h=>h;have hold:∀ x y,¬ (x=k/\y=a)->(fx x y).is=2->oT P A x y:=λx y bk e=>by
  by_cases az:c.is=2;·exact(aa.m3 x y e).less (x8 az) λx y h=>h
  ·have:=ay.m3 az x y e;rw[Fc bk]at this;exact h.m3 x y this
 refine⟨⟨λx y=>?_,λx y e=>?_,λx y e=>?_,λx y e=>?_,λx y e=>?_⟩,⟨aA.is,λe=>(x8 e).le,λe=>by rw[<-Ou];exact aA.fin e,aA.z⟩,⟨λx y e=>?_,λav x y e=>?_⟩⟩
 ·rcases pS fx k a c x y with⟨rfl,rfl,e⟩ | ⟨-,e⟩<;>rw[e]
  ·exact hle
  ·exact aa.le x y
 ·rcases pS fx k a c x y with⟨rfl,rfl,a0⟩ | ⟨bk,a0⟩<;>rw[a0]at e
  ·have:=aA.is;omega
  ·rcases aa.ask x y e with h | h
   ·exact h
   ·exact absurd h bk
 ·rcases pS fx k a c x y with⟨rfl,rfl,a0⟩ | ⟨bk,a0⟩<;>rw[a0]at e
  ·exact x8 e
  ·exact hold x y bk e
 ·rcases pS fx k a c x y with⟨rfl,rfl,a0⟩ | ⟨bk,a0⟩<;>rw[a0]at e |-
  ·rw[<-Ou];exact aA.fin e
  ·exact aa.fin x y e
 ·rcases pS fx k a c x y with⟨rfl,rfl,a0⟩ | ⟨bk,a0⟩<;>rw[a0]at e |-
  ·exact aA.z e
  ·exact aa.z x y e
 ·rcases pS fx k a c x y with⟨rfl,rfl,a0⟩ | ⟨bk,a0⟩<;>rw[a0]at e
  ·exact aq
  ·have:=ay.new x y e;rwa [Fc bk]at this
 ·rcases pS fx k a c x y with⟨rfl,rfl,a0⟩ | ⟨bk,a0⟩<;>rw[a0]at e
  ·exact absurd e av
  ·have:=ay.m3 av x y e;rwa [Fc bk]at this
def OA(N w:Nat):List (Nat×Nat):=(List.range N).flatMap λk=>(List.range w).map λa=>(k,a)
def ahA{w k a:Nat}:(k,a)∈OA N w ↔ k<N/\a<w:=by unfold OA;simp[Lz]
def OB{α:Type}{p q:α->Bool}:∀ {l:List α},(∀ x∈l,p x=true->q x=true)->l.countP p<=l.countP q
 |[],_=>b6 _
 |x::l,h=>by
  have a2:=OB (l:=l) λy aG=>h y (.tail _ aG);have U:=h x (.head _);rw[II,II];cases aO:p x with
  |false=>cases q x<;>simp<;>omega
  |true=>rw[U aO];simp;omega
def WC{α:Type}{p q:α->Bool}:∀ {l:List α},(∀ x∈l,p x=true->q x=true)->∀ {z:α},z∈l->p z=false->q z=true->l.countP p<l.countP q
 |[],_,z,bd,_,_=>by cases bd
 |x::l,h,z,bd,WD,WE=>by
  have U:=h x (.head _);have a2:=OB (l:=l) λy aG=>h y (.tail _ aG);rw[II,II];rcases dE.1 bd with rfl | bd;·rw[WD,WE];simp;omega
  ·have:=WC (l:=l) (λy aG=>h y (.tail _ aG)) bd WD WE;cases aO:p x with
   |false=>cases q x<;>simp<;>omega
   |true=>rw[U aO];simp;omega
def zS(N w:Nat)(C:Nat->Nat->cK):Nat:=(OA N w).countP λx=>Nat.beq (C x.1 x.2).is 0
def IZ{w:Nat}{C C':Nat->Nat->cK}(h:n1 C C' p):zS N w C'<=zS N w C:=
 OB λx _ e=>by have:=h.new x.1 x.2 (cC e);rw[this];rfl
def ahB{w k a:Nat}{c:cK}(ae:k<N)(aD:a<w)(aq:(C k a).is=0)(aA:c.is=1):zS N w (kc C k a c)<zS N w C:=by
 refine WC (λx _ e=>?_) (ahA.2 ⟨ae,aD⟩) ?_ ?_
 ·rcases pS C k a c x.1 x.2 with⟨U,aa,a0⟩ | ⟨-,a0⟩
  ·rw[U,aa,aq];rfl
  ·rwa [a0]at e
 ·rw[Wz,aA];rfl
 ·simp only[aq];rfl
def eM.aW{c:cK}(h:eM P A g c)(au:ka P f g):eM P A f c:=
 ⟨h.is,λe=>(h.m3 e).aW au,λe=>au.l.trans (h.fin e),h.z⟩
def eM.none{q a:Nat}{c:cK}(h:eM P A (λm=>m q a) c)(aa:c.is=2)(ai:∀ m,dm (f m)->dm (m q a)){c':cK}(aA:c'.is=2):eM P A f c':=
 ⟨.inl aA,λ_=>(h.m3 aa).ask ai,λe=>by omega,λe=>by omega⟩
def eM.vL{q a:Nat}{c:cK}(h:eM P A (λm=>m q a) c)(aK:c.is=4):bV P q a=⟨c.n,c.aW,3⟩:=by have:=h.fin (by omega);rwa [WB aK]at this
def eM.xF{q a:Nat}{c:cK}(h:eM P A (λm=>m q a) c)(ag:c.is=3):bV P q a=hW:=by have:=h.fin (by omega);rwa [ahy ag]at this
def eM.rg{q a:Nat}{c:cK}(h:eM P A (λm=>m q a) c)(aK:c.is=4):a<=c.aW/\(a<=P.s.size->c.aW<=P.s.size)/\c.n<=1099511627776:=by have U:=h.vL aK;have aa:=(sJ P q a).ge (by rw[U]);rw[U]at aa;exact aa
def eM.pure{c:cK}(aA:(c.is=3/\c.n=0)\/c.is=4)(h:f (bV P)=c.ce):eM P A f c:=
 ⟨by omega,λe=>by omega,λ_=>h,λe=>by omega⟩
variable{q a n:Nat}{L:List Nat}{c:cK}
def ahC:eM P A (λm=>gB m [] a n) ⟨4,a,n⟩:=.pure (.inr rfl) rfl
def ahD(h:eM P A (λm=>m q a) c)(aa:c.is=2){c':cK}(aA:c'.is=2):eM P A (λm=>gB m (q::L) a n) c':=h.none aa (λ_=>Wx) aA
def ahE(h:eM P A (λm=>m q a) c)(ag:c.is=3)(t:Nat):eM P A (λm=>gB m (q::L) a n) ⟨3,t,0⟩:=.pure (.inl ⟨rfl,rfl⟩) (by
 show gB (bV P) (q::L) a n=hW;rw[gB,h.xF ag];rfl)
def ahF(h:eM P A (λm=>m q a) c)(aK:c.is=4):ka P (λm=>gB m (q::L) a n) (λm=>gB m L c.aW (e0 n c.n)):=
 ka.ask (λ_=>Wx) λm e=>by show gB m (q::L) a n=_;rw[gB,e,h.vL aK];rfl
def ahG(t:Nat):eM P A (λm=>gP m [] a) ⟨3,t,0⟩:=.pure (.inl ⟨rfl,rfl⟩) rfl
def ahH(h:eM P A (λm=>m q a) c)(ag:c.is=3):ka P (λm=>gP m (q::L) a) (λm=>gP m L a):=
 ka.ask (λ_=>Wy) λm e=>by show gP m (q::L) a=_;rw[gP,e,h.xF ag];rfl
def ahI(h:eM P A (λm=>m q a) c)(ag:c.is≠3):eM P A (λm=>gP m (q::L) a) c:=by
 refine⟨h.is,λe=>(h.m3 e).ask λ_=>Wy,λe=>?_,h.z⟩;have aK:c.is=4:=by have:=h.is;omega
 show gP (bV P) (q::L) a=_;rw[gP,h.vL aK,WB aK];rfl
variable{lo hi:Int}{i j:Nat}
def WG(h:eM P A (λm=>m q a) c)(aa:c.is=2){c':cK}(aA:c'.is=2):eM P A (λm=>eu m q lo hi (j+1) i a n) c':=h.none aa (λ_=>Oz) aA
def WH(h:eM P A (λm=>m q a) c)(ag:c.is=3)(cT:(i:Int)<lo)(t:Nat):eM P A (λm=>eu m q lo hi (j+1) i a n) ⟨3,t,0⟩:=.pure (.inl ⟨rfl,rfl⟩) (by
 show eu (bV P) q lo hi (j+1) i a n=hW;rw[eu,h.xF ag,fA cT];rfl)
def WI(h:eM P A (λm=>m q a) c)(ag:c.is=3)(cT:¬ (i:Int)<lo):eM P A (λm=>eu m q lo hi (j+1) i a n) ⟨4,a,n⟩:=.pure (.inr rfl) (by
 show eu (bV P) q lo hi (j+1) i a n=⟨n,a,3⟩;rw[eu,h.xF ag,b8 cT];rfl)
def ahJ(h:eM P A (λm=>m q a) c)(aK:c.is=4)(bI:hi=-1)(au:c.aW=a){c':cK}(aA:c'.is=2):eM P A (λm=>eu m q lo hi (j+1) i a n) c':=by
 refine⟨.inl aA,λ_=>pR.never λfB ai=>?_,λe=>by omega,λe=>by omega⟩;have U:=BT (Oz ai)
 replace ai:dm (eu (g2 P fB) q lo hi (j+1) i a n):=ai
 rw[eu,<-U,h.vL aK,bI,au,fA rfl,fA rfl]at ai;exact absurd ai nY
def WJ(h:eM P A (λm=>m q a) c)(aK:c.is=4)(bI:¬ (hi=-1/\c.aW=a)):ka P (λm=>eu m q lo hi (j+1) i a n) (λm=>eu m q lo hi j (i+1) c.aW (e0 n c.n)):=
 ka.ask (λ_=>Oz) λm e=>by
  show eu m q lo hi (j+1) i a n=_;rw[eu,e,h.vL aK];have:(decide (hi=-1)&&decide (c.aW=a))=false:=by
   by_cases ax:hi=-1;·rw[b8 λaz=>bI ⟨ax,az⟩,Il]
   ·rw[b8 ax,nk]
  simp only[this];rfl
def ahK(bI:hi≠-1):eM P A (λm=>eu m q lo hi 0 i a n) ⟨4,a,n⟩:=.pure (.inr rfl) (by
 show eu (bV P) q lo hi 0 i a n=⟨n,a,3⟩;rw[eu,b8 bI];rfl)
variable{k:Nat}
def OC(h:eM P A (λm=>m q a) c)(ae:(P.at_ k).d.k=7)(aE:(P.at_ k).asks=[q]):eM P A (λm=>di P m k a) (bif Nat.beq c.is 4 then⟨4,a,0⟩else bif Nat.beq c.is 3 then⟨3,0,0⟩else c):=by
 have jr:(P.at_ k).asks.getD 0 0=q:=by rw[aE];rfl
 have ai:∀ m,dm (di P m k a)->dm (m q a):=λm=>IY (.inr (by omega)) jr;rcases h.is with e | e | e
 ·rw[e];exact h.none e ai e
 ·rw[e];refine .pure (.inl ⟨rfl,rfl⟩) ?_;show di P (bV P) k a=_;rw[vH ae,jr,h.xF e];rfl
 ·rw[e];refine .pure (.inr rfl) ?_;show di P (bV P) k a=_;rw[vH ae,jr,h.vL e];rfl
def OD(h:eM P A (λm=>m q a) c)(ae:(P.at_ k).d.k=8)(aE:(P.at_ k).asks=[q]):eM P A (λm=>di P m k a) (bif Nat.beq c.is 3 then⟨4,a,0⟩else bif Nat.beq c.is 4 then⟨3,0,0⟩else c):=by
 have jr:(P.at_ k).asks.getD 0 0=q:=by rw[aE];rfl
 have ai:∀ m,dm (di P m k a)->dm (m q a):=λm=>IY (.inr (by omega)) jr;rcases h.is with e | e | e
 ·rw[e];exact h.none e ai e
 ·rw[e];refine .pure (.inr rfl) ?_;show di P (bV P) k a=_;rw[vI ae,jr,h.xF e];rfl
 ·rw[e];refine .pure (.inl ⟨rfl,rfl⟩) ?_;show di P (bV P) k a=_;rw[vI ae,jr,h.vL e];rfl
def WK(h:eM P A (λm=>m q a) c)(aq:(P.at_ k).d.k=9)(aE:(P.at_ k).asks=[q]):eM P A (λm=>di P m k a) (bif Nat.beq c.is 4 then⟨4,c.aW,e0 c.n 1⟩else bif Nat.beq c.is 3 then⟨3,0,0⟩else c):=by
 have jr:(P.at_ k).asks.getD 0 0=q:=by rw[aE];rfl
 have ap:∀ m,di P m k a=bif Nat.beq (m q a).aB 3 then⟨e0 (m q a).n 1,(m q a).aW,3⟩else m q a:=λm=>by rw[xE (by omega) (by omega) (by omega) (by omega) (by omega) (by omega) (by omega) (by omega) (by omega),jr]
 have ai:∀ m,dm (di P m k a)->dm (m q a):=λm=>IY (.inr (by omega)) jr;rcases h.is with e | e | e
 ·rw[e];exact h.none e ai e
 ·rw[e];refine .pure (.inl ⟨rfl,rfl⟩) ?_;show di P (bV P) k a=_;rw[ap,h.xF e];rfl
 ·rw[e];refine .pure (.inr rfl) ?_;show di P (bV P) k a=_;rw[ap,h.vL e];rfl
def ahL(h:eM P A (λm=>m q a) c)(ae:(P.at_ k).d.k=3)(aE:(P.at_ k).asks=[q]):eM P A (λm=>di P m k a) c:=by
 have jr:(P.at_ k).asks.getD 0 0=q:=by rw[aE];rfl
 refine⟨h.is,λe=>(h.m3 e).ask λm=>IY (.inl ae) jr,λe=>?_,h.z⟩;show di P (bV P) k a=_;rw[xD ae,jr];exact h.fin e
end
open Go Go.Proofs
def aP.BW(d:aP):aP:=⟨d.k,d.eh,d.s1,d.s2,d.fJ,d.t,d.lo,d.hi,none,0,0,[]⟩
def aP.pn(d:aP):oA:=⟨d.BW,d.kids.map Int.toNat⟩
def bY.cells(c:bY):List Value:=[.int .i64 c.n,.int .i32 c.aW,.int .u8 c.aB,.int .u8 c.times]
def bY.val(c:bY):Value:=.agg #[.int .i64 c.n,.int .i32 c.aW,.int .u8 c.aB,.int .u8 c.times]
def bY.c0(c:bY):c.cells.length=4:=rfl
structure eV where
 bt:Nat
 s:ByteArray
 nv:Value
 rv:Value
 me:List aP
 na:Option Addr
 nn:Nat
 nc:Nat
 ie:Option Addr
 eb:Nat
 rows:List Addr
 n0:Nat
 ev:Nat
def eV.w(t:eV):Nat:=t.s.size+1
def eV.P(t:eV):cq:=⟨t.me.map aP.pn,t.s,0⟩
def eV.bT(t:eV):List Value:=[.string t.s,t.nv,t.rv,.slice t.na t.nn t.nc,.slice t.ie t.nn t.eb]
def lP(T:Nat->Nat->bY)(k w:Nat):List Value:=(List.range w).flatMap λa=>(T k a).cells
def eV.cs(t:eV)(T:Nat->Nat->bY):List Value:=(List.range (t.nn-t.n0)).flatMap λj=>lP T (t.n0+j) t.w
def eV.aY(t:eV)(T:Nat->Nat->bY):aC:=⟨t.ev,.cells (t.cs T).toArray 107 (0,0)⟩
structure eV.ok(I:aN)(t:eV)(T:Nat->Nat->bY):Prop where
 aB:I t.bt=some (.cells t.bT.toArray 100 (0,0))
 ns:dW I t.na t.nn t.nc 9 96 (t.me.flatMap aP.cells)
 me:∀ y∈t.me,y.ok I
 I0:∀ y∈t.me,y.t.size<=4096
 mZ:∀ y∈t.me,∀ x∈y.kids,0<=x/\x.toNat<t.nn
 rw:dW I t.ie t.nn t.eb 1 24 (t.rows.map λa=>Value.slice (some a) t.w t.w)
 dO:∀ a∈t.rows,a.spot=none
 cY:∀ k (h:k<t.rows.length),k<t.n0->∃ cs fU aj,I t.rows[k].block=some (.cells cs fU aj)/\(cs.toList.drop t.rows[k].off).take (t.w*4)=lP T k t.w
 new:∀ k (h:k<t.rows.length),t.n0<=k->t.rows[k]=⟨t.ev,(k-t.n0)*(t.w*4),none⟩
 sz:t.s.size<=4096
 many:t.nn<=4096
def zT(T:Nat->Nat->bY)(k w:Nat):(lP T k w).length=w*4:=by unfold lP;rw[ji _ 4 λa=>rfl,qJ]
def WL(T:Nat->Nat->bY)(k w:Nat){a:Nat}(aD:a<w):((lP T k w).drop (a*4)).take 4=(T k a).cells:=by unfold lP;rw[wx _ 4 (λa=>rfl) _ a (by rw[qJ];exact aD),mb]
def eV.ahM(t:eV)(T:Nat->Nat->bY):(t.cs T).length=(t.nn-t.n0)*(t.w*4):=by unfold eV.cs;rw[ji _ (t.w*4) λj=>zT T _ t.w,qJ]
section
variable{I:aN}{t:eV}{T:Nat->Nat->bY}
def eV.ok.nn(h:t.ok I T):t.me.length=t.nn:=by have:=h.ns.len;rw[ji _ 9 aP.c0]at this;omega
def eV.ok.MR(h:t.ok I T):t.rows.length=t.nn:=by have:=h.rw.len;rw[ei]at this;omega
def eV.ok.e5(h:t.ok I T){j:Nat}(al:j<5):bE I M ((⟨t.bt,0,none⟩:Addr).add j) 1 [t.bT.getD j undef]:=by
 rw[d' _ rfl];refine⟨rfl,_,_,_,.inl h.aB,?_,rfl⟩
 match j,al with
 |0,_=>rfl| 1,_=>rfl| 2,_=>rfl| 3,_=>rfl| 4,_=>rfl
def eV.ok.at_(h:t.ok I T){k:Nat}(ae:k<t.nn):∃ y,y∈t.me/\t.P.at_ k=y.pn/\y.ok I/\y.t.size<=4096/\(∀ x∈y.kids,0<=x/\x.toNat<t.nn)/\∃ ad,t.na=some ad/\∀ M,bE I M (ad.add (k*9)) 9 y.cells:=by
 have jt:k<t.me.length:=by rw[h.nn];exact ae
 obtain⟨ad,U,aa⟩:=h.ns.row aP.c0 ae jt;have hm:=cO jt;refine⟨t.me[k],hm,?_,h.me _ hm,h.I0 _ hm,h.mZ _ hm,ad,U,aa⟩;simp[cq.at_,eV.P,cQ,jt]
def ahN(h:t.ok I T){k a:Nat}(ae:k<t.nn)(aq:t.n0<=k)(aD:a<t.w):((t.cs T).drop ((k-t.n0)*(t.w*4)+a*4)).take 4=(T k a).cells:=by
 have U:((t.cs T).drop ((k-t.n0)*(t.w*4))).take (t.w*4)=lP T k t.w:=by unfold eV.cs;rw[wx _ (t.w*4) (λj=>zT T _ t.w) _ (k-t.n0) (by rw[qJ];omega),mb,AQ aq]
 rw[<-WL T k t.w aD,<-U,yc,yd,ye];congr 1;omega
def eV.ok.row(h:t.ok I T){k:Nat}(ae:k<t.nn):∃ ad,t.ie=some ad/\∃ r:Addr,r.spot=none/\(∀ M,bE I M (ad.add (k*1)) 1 [.slice (some r) t.w t.w])/\(t.n0<=k->r=⟨t.ev,(k-t.n0)*(t.w*4),none⟩) /\
  ∀ M,(t.n0<t.nn->t.aY T∈M)->∀ a,a<=t.s.size->bE I M (r.add (a*4)) 4 (T k a).cells:=by
 have jt:k<t.rows.length:=by rw[h.MR];exact ae
 obtain⟨ad,U,aa⟩:=h.rw.one ae jt;have bQ:=h.dO _ (cO jt);refine⟨ad,U,t.rows[k],bQ,aa,h.new k jt,λM a7 a aD=>?_⟩;have ke:a<t.w:=by show a<t.s.size+1;omega
 rw[d' _ bQ];by_cases aq:k<t.n0
 ·obtain⟨cs,fU,aj,ax,az⟩:=h.cY k jt aq;refine⟨rfl,cs,fU,aj,.inl ax,?_,rfl⟩;rw[<-WL T k t.w ke,<-az,yc,yd,ye];congr 1;omega
 ·rw[h.new k jt (by omega)];refine⟨rfl,(t.cs T).toArray,107,(0,0),.inr ⟨_,a7 (by omega),rfl,rfl⟩,?_,rfl⟩;exact ahN h ae (by omega) ke
end
def ahO{x:Int}(U:0<=x)(aa:x<=255):IntKind.u8.wrap x=x:=by unfold IntKind.wrap;simp only[IntKind.bits,IntKind.signed];simp;omega
section
variable{I:aN}{M:List aC}
def xG(a:Nat)(aD:a<=100000):Spec Tryz.prog 159 [.int .i64 a] I M λv I' M'=>v=(m1 a).val/\I'=I/\M'=M:=by refine bC [] aS Tryz.func159 rfl rfl rfl ?_;intro B aq;refine aQ.mk (a:Int) (wrap_i32 (by omega) (by omega)) ?_;exact⟨_,_,.refl,rfl,rfl,rfl⟩
def I1(a b:Nat)(aD:a<=1099511627776)(af:b<=1099511627776):Spec Tryz.prog 163 [.int .i64 a,.int .i64 b] I M λv I' M'=>v=.int .i64 (e0 a b)/\I'=I/\M'=M:=by refine bC [] aS Tryz.func163 rfl rfl rfl ?_;intro B aq;refine aQ.mk ((a+b:Nat):Int) (e4 (by simp) (by omega)) ?_;refine⟨_,_,.refl,?_,rfl,rfl⟩;show Value.int .i64 (min ((a+b:Nat):Int) 1099511627776)=_;rw[show min ((a+b:Nat):Int) 1099511627776=((e0 a b:Nat):Int) by unfold e0;omega]
end
structure oU(I:aN)(t:eV)(T:Nat->Nat->bY)(M:List aC)(k a:Nat):Prop where
 ok:t.ok I T
 inv:hY t.P t.nn T
 bS:∀ k,k<t.nn->ur t.P t.nn k
 na:∀ k,zR t.P k
 aY:t.n0<t.nn->t.aY T∈M
 k:k<t.nn
 a:a<=t.s.size
def oU.rg{t:eV}{T:Nat->Nat->bY}{k a:Nat}(h:oU I t T M k a){q b:Nat}(aE:q<t.nn)(af:b<=t.s.size):(T q b).aB<=2/\(T q b).n<=1099511627776/\(T q b).aW<=t.s.size/\(T q b).times<=99:=
 ⟨h.inv.aB q b,h.inv.rg q b aE af⟩
section
variable{I:aN}{t:eV}{T:Nat->Nat->bY}{M:List aC}{k a:Nat}
def Fe(h:oU I t T M k a){q:Nat}(aE:(t.P.at_ k).asks=[q]):Spec Tryz.prog 162 [ptr t.bt,.int .i64 k,.int .i64 a] I M λv I' M'=>q<t.nn/\v=(T q a).val/\I'=I/\M'=M:=by
 refine bC [] aS Tryz.func162 rfl rfl rfl ?_;intro B aq;have ap:=h.ok;obtain⟨y,aG,jz,hj,j',hq,ad,bR,bh⟩:=ap.at_ h.k;have mQ:y.kids.map Int.toNat=[q]:=by rw[jz]at aE;exact aE
 obtain⟨x,ab⟩:∃ x,y.kids=[x]:=by
  match ae:y.kids,mQ with
  |[x],_=>exact⟨x,rfl⟩
 have e':=hq x (by rw[ab];exact .head _);have Ff:x.toNat=q:=by rw[ab]at mQ;simpa using mQ
 have kG:q<t.nn:=by omega
 have dP:y.kn=1:=by have:=hj.kn;rw[ab]at this;exact this.symm
 obtain⟨ec,e6,eo⟩:=hj.aU.one (f:=λ(k:Int)=>Value.int .i64 k) (j:=0) (by omega) (by rw[ab];exact IK);have eo:∀ M,bE I M (ec.add (0*1)) 1 [.int .i64 q]:=λM=>by
  have:=eo M;have e:y.kids[0]'(by rw[ab];exact IK)=(q:Int):=by simp only[ab];show x=_;omega
  rwa [e]at this
 obtain⟨eG,lb,r,an,iw,-,mg⟩:=ap.row kG;refine cL.draw aS rfl rfl rfl ?_;refine aJ.mk _ (ap.e5 (j:=4) (by decide)) ?_;refine aJ.mk _ (ap.e5 (j:=3) (by decide)) ?_;refine a6.mk ad k bR rfl h.k ?_;refine aJ.mk _ ((bh _).part (k:=8) (m:=1) (by decide)) ?_;refine a6.mk ec 0 e6 rfl (by omega) ?_;refine aJ.mk _ (eo _) ?_;refine a6.mk eG q lb rfl kG ?_;refine aJ.mk _ (iw _) ?_;refine a6.mk r a rfl rfl (by show a<t.s.size+1;have:=h.a;omega) ?_;refine aJ.mk _ (mg _ h.aY a h.a) ?_;exact⟨_,_,.refl,kG,rfl,rfl,rfl⟩
def kH(I:aN)(M:List aC)(t:eV)(T:Nat->Nat->bY)(k a:Nat)(v:Value)(I':aN)(M':List aC):Prop:=v=(dp t.P T k a).val/\I'=I/\M'=M
def ahP{P:cq}(h:(P.at_ k).d.k=0):dp P T k a=m1 a:=by simp[dp,h]
def ahQ{P:cq}(h:(P.at_ k).d.k=1):dp P T k a=match P.s.data[a]? with
  |some b=>bif qB (P.at_ k).d b.toNat then m1 (a+1)else uq| none=>uq:=by simp only[dp,h];rfl
def ahR{P:cq}(h:(P.at_ k).d.k=2):dp P T k a=bif preB P.s (P.at_ k).d.t a then m1 (a+(P.at_ k).d.t.size)else uq:=by simp[dp,h]
def ahS{P:cq}(h:(P.at_ k).d.k=3){q:Nat}(aE:(P.at_ k).asks=[q]):dp P T k a=T q a:=by simp[dp,h,aE]
def ahT{P:cq}(h:(P.at_ k).d.k=7){q:Nat}(aE:(P.at_ k).asks=[q]):dp P T k a=bif Nat.beq (T q a).aB 2 then m1 a else⟨0,0,(T q a).aB,0⟩:=by simp[dp,h,aE]
def ahU{P:cq}(h:(P.at_ k).d.k=8){q:Nat}(aE:(P.at_ k).asks=[q]):dp P T k a=bif Nat.beq (T q a).aB 1 then m1 a else bif Nat.beq (T q a).aB 2 then uq else ic:=by simp[dp,h,aE]
def ahV{P:cq}(h:(P.at_ k).d.k=9){q:Nat}(aE:(P.at_ k).asks=[q]):dp P T k a=bif Nat.beq (T q a).aB 2 then { T q a with n:=e0 (T q a).n 1 }else T q a:=by simp[dp,h,aE]
def kI{j:Nat}(h:decide ((x:Int)=(j:Int))=b):Nat.beq x j=b:=by
 cases b with
 |true=>
  have:=cr h;obtain rfl:x=j:=by omega
  exact Nat.beq_refl x
 |false=>
  have:=b' h;rw[yO];exact λe=>by have:=cC e;omega
def ahW(h:oU I t T M k a)(ae:(t.P.at_ k).d.k=0):Spec Tryz.prog 123 [ptr t.bt,.int .i64 k,.int .i64 a] I M (kH I M t T k a):=by refine bC [] aS Tryz.func123 rfl rfl rfl ?_;intro B aq;have aD:=h.a;have ao:=h.ok.sz;refine aT.whole _ (xG a (by omega)) ?_;rintro v I' M' -⟨rfl,rfl,rfl⟩;exact⟨_,_,.refl,by rw[ahP ae];rfl,rfl,rfl⟩
def ahX(h:oU I t T M k a)(ae:(t.P.at_ k).d.k=3):Spec Tryz.prog 126 [ptr t.bt,.int .i64 k,.int .i64 a] I M (kH I M t T k a):=by obtain⟨q,aE⟩:=(h.na k).one (.inl ae);refine bC [] aS Tryz.func126 rfl rfl rfl ?_;intro B aq;refine aT.whole _ (Fe h aE) ?_;rintro v I' M' -⟨kG,rfl,rfl,rfl⟩;exact⟨_,_,.refl,by rw[ahS ae aE];rfl,rfl,rfl⟩
def ahY(h:oU I t T M k a)(ae:(t.P.at_ k).d.k=7):Spec Tryz.prog 130 [ptr t.bt,.int .i64 k,.int .i64 a] I M (kH I M t T k a):=by
 obtain⟨q,aE⟩:=(h.na k).one (.inr (by omega));have ap:=ahT (T:=T) (a:=a) ae aE;refine bC [] aS Tryz.func130 rfl rfl rfl ?_;intro B aq;have aD:=h.a;have ao:=h.ok.sz;refine aT.whole _ (Fe h aE) ?_;rintro v I' M' -⟨kG,rfl,rfl,rfl⟩;refine aI.mk (λe=>?_) (λe=>?_)
 ·rw[kI (j:=2) e,ba]at ap;refine aT.whole _ (xG a (by omega)) ?_;rintro v I' M' -⟨rfl,rfl,rfl⟩;exact⟨_,_,.refl,by rw[ap];rfl,rfl,rfl⟩
 ·rw[kI (j:=2) e,a5]at ap;exact⟨_,_,.refl,by rw[ap];rfl,rfl,rfl⟩
def ahZ(h:oU I t T M k a)(ae:(t.P.at_ k).d.k=8):Spec Tryz.prog 131 [ptr t.bt,.int .i64 k,.int .i64 a] I M (kH I M t T k a):=by
 obtain⟨q,aE⟩:=(h.na k).one (.inr (by omega));have ap:=ahU (T:=T) (a:=a) ae aE;refine bC [] aS Tryz.func131 rfl rfl rfl ?_;intro B aq;have aD:=h.a;have ao:=h.ok.sz;refine aT.whole _ (Fe h aE) ?_;rintro v I' M' -⟨kG,rfl,rfl,rfl⟩;refine aI.mk (λe=>?_) (λe=>?_)
 ·rw[kI (j:=1) e,ba]at ap;refine aT.whole _ (xG a (by omega)) ?_;rintro v I' M' -⟨rfl,rfl,rfl⟩;exact⟨_,_,.refl,by rw[ap];rfl,rfl,rfl⟩
 ·rw[kI (j:=1) e,a5]at ap;refine aI.mk (λaz=>?_) (λaz=>?_)
  ·rw[kI (j:=2) az,ba]at ap;exact⟨_,_,.refl,by rw[ap];rfl,rfl,rfl⟩
  ·rw[kI (j:=2) az,a5]at ap;exact⟨_,_,.refl,by rw[ap];rfl,rfl,rfl⟩
def ah0(h:oU I t T M k a)(ae:(t.P.at_ k).d.k=9):Spec Tryz.prog 132 [ptr t.bt,.int .i64 k,.int .i64 a] I M (kH I M t T k a):=by
 obtain⟨q,aE⟩:=(h.na k).one (.inr (by omega));have ap:=ahV (T:=T) (a:=a) ae aE;refine bC [] aS Tryz.func132 rfl rfl rfl ?_;intro B aq;refine aT.whole _ (Fe h aE) ?_;rintro v I' M' -⟨kG,rfl,rfl,rfl⟩;have an:=h.rg kG h.a;refine aI.mk (λe=>?_) (λe=>?_)
 ·rw[kI (j:=2) e,ba]at ap;refine aT.whole _ (I1 (T q a).n 1 an.2.1 (by omega)) ?_;rintro v I' M' -⟨rfl,rfl,rfl⟩;exact⟨_,_,.refl,by rw[ap];rfl,rfl,rfl⟩
 ·rw[kI (j:=2) e,a5]at ap;exact⟨_,_,.refl,by rw[ap];rfl,rfl,rfl⟩
def ah1(h:oU I t T M k a)(ae:(t.P.at_ k).d.k=1):Spec Tryz.prog 124 [ptr t.bt,.int .i64 k,.int .i64 a] I M (kH I M t T k a):=by
 have ap:=ahQ (T:=T) (a:=a) ae;refine bC [] aS Tryz.func124 rfl rfl rfl ?_;intro B aq;have bb:=h.ok;have aD:=h.a;have ao:=bb.sz;obtain⟨y,aG,jz,hj,j',hq,ad,bR,bh⟩:=bb.at_ h.k;rw[jz]at ap;have rn:t.P.s=t.s:=rfl;rw[rn]at ap;have gp:∀ b,qB y.pn.d b=qB y b:=λb=>rfl;refine cL.draw aS rfl rfl rfl ?_;refine aJ.mk _ (bb.e5 (j:=0) (by decide)) ?_;refine bo.mk (λg=>?_) (λg=>?_)
 ·have aL:a<t.s.size:=by have:(a:Int)<(t.s.size:Int):=cr g;omega
  have ax:t.s.data[a]?=some t.s[a]:=B' aL;rw[ax]at ap;refine aJ.mk _ (bb.e5 (j:=3) (by decide)) ?_;refine a6.mk ad k bR rfl h.k ?_;refine aJ.mk _ ((bh _).part (k:=1) (m:=4) (by decide)) ?_;refine aJ.mk _ (bb.e5 (j:=0) (by decide)) ?_;refine o2.mk a rfl aL ?_;refine aT.whole _ (ab4 (a:=y.eh) (b:=y.s1) (c:=y.s2) (d:=y.fJ) (λz bd=>by
   simp only[dE,Dg,or_false]at bd;rcases bd with rfl | rfl | rfl | rfl;·exact hj.eh
   ·exact hj.s1
   ·exact hj.s2
   ·exact hj.fJ) t.s[a]) ?_
  rintro v I' M' -⟨rfl,rfl,rfl⟩;refine aI.mk (λaz=>?_) (λaz=>?_);·have bI:qB y t.s[a].toNat=true:=az;simp only[gp,bI,ba]at ap;refine aQ.mk ((a+1:Nat):Int) (e4 (by simp) (by omega)) ?_;refine aT.whole _ (xG (a+1) (by omega)) ?_;rintro v I' M' -⟨rfl,rfl,rfl⟩;exact⟨_,_,.refl,by rw[ap];rfl,rfl,rfl⟩
  ·have bI:qB y t.s[a].toNat=false:=az;simp only[gp,bI,a5]at ap;exact⟨_,_,.refl,by rw[ap];rfl,rfl,rfl⟩
 ·have c1:t.s.data.size<=a:=by have:¬ (a:Int)<(t.s.size:Int):=b' g;have aa:t.s.size=t.s.data.size:=rfl;omega
  have ax:t.s.data[a]?=none:=Array.getElem?_eq_none c1;rw[ax]at ap;exact⟨_,_,.refl,by rw[ap];rfl,rfl,rfl⟩
def ah2(h:oU I t T M k a)(ae:(t.P.at_ k).d.k=2):Spec Tryz.prog 125 [ptr t.bt,.int .i64 k,.int .i64 a] I M (kH I M t T k a):=by
 have ap:=ahR (T:=T) (a:=a) ae;refine bC [] aS Tryz.func125 rfl rfl rfl ?_;intro B aq;have bb:=h.ok;have aD:=h.a;have ao:=bb.sz;obtain⟨y,aG,jz,hj,j',hq,ad,bR,bh⟩:=bb.at_ h.k;rw[jz]at ap;have ap:dp t.P T k a=bif preB t.s y.t a then m1 (a+y.t.size)else uq:=ap;refine aJ.mk _ (bb.e5 (j:=3) (by decide)) ?_;refine a6.mk ad k bR rfl h.k ?_;refine aJ.mk _ ((bh _).part (k:=5) (m:=1) (by decide)) ?_;refine aJ.mk _ (bb.e5 (j:=0) (by decide)) ?_;refine i'.mk a t.s.size rfl rfl aD (b6 _) ?_;have bQ:=ab6 (I:=I) (M:=M) (t.s.extract a t.s.size) y.t;rw[ab7 _ _ aD]at bQ;refine aT.whole _ bQ ?_;rintro v I' M' -⟨rfl,rfl,rfl⟩;refine aI.mk (λaz=>?_) (λaz=>?_)
 ·have bI:preB t.s y.t a=true:=az;rw[bI,ba]at ap;refine aQ.mk ((a+y.t.size:Nat):Int) (e4 (by simp) (by omega)) ?_;refine aT.whole _ (xG (a+y.t.size) (by omega)) ?_;rintro v I' M' -⟨rfl,rfl,rfl⟩;exact⟨_,_,.refl,by rw[ap];rfl,rfl,rfl⟩
 ·have bI:preB t.s y.t a=false:=az;rw[bI,a5]at ap;exact⟨_,_,.refl,by rw[ap];rfl,rfl,rfl⟩
end
section
variable{I:aN}{t:eV}{T:Nat->Nat->bY}{M:List aC}{k a:Nat}
def I2{X:Prop}(h:b=true)(a1:b=false):X:=by rw[h]at a1;cases a1
def I3{j:Nat}(h:(!decide ((x:Int)=(j:Int)))=b):Nat.beq x j=!b:=by
 have:decide ((x:Int)=(j:Int))=!b:=by rw[<-h,Bool.not_not]
 exact kI this
def ah3(h:oU I t T M k a)(ae:(t.P.at_ k).d.k=4):Spec Tryz.prog 127 [ptr t.bt,.int .i64 k,.int .i64 a] I M (kH I M t T k a):=by
 have ap:dp t.P T k a=oR T (t.P.at_ k).asks a 0:=by simp[dp,ae]
 refine bC [] aS Tryz.func127 rfl rfl rfl ?_;intro B aq;have bb:=h.ok;have aD:=h.a;have ao:=bb.sz;obtain⟨y,aG,jz,hj,j',hq,ad,bR,bh⟩:=bb.at_ h.k;have mQ:(t.P.at_ k).asks=y.kids.map Int.toNat:=by rw[jz];rfl
 rw[mQ]at ap;have dP:=hj.kn;have ny:=hj.aU.cap.2;refine aT.whole _ (xG a (by omega)) ?_;rintro v I' M' -⟨rfl,rfl,rfl⟩;refine aJ.mk _ (bb.e5 (j:=3) (by decide)) ?_;refine a6.mk ad k bR rfl h.k ?_;refine aJ.mk _ ((bh _).part (k:=8) (m:=1) (by decide)) ?_;refine cD.inv (ι:=Nat×Nat×Nat) (λx=>{ bA:=[(0,.val (ptr t.bt)),(6,.ref 6 0),(7,.ref 7 0),(20,.val (.slice y.kX y.kn y.j0)),(21,.val (.int .i64 y.kn)),(22,.val (.int .i64 x.1))],cl:=[(6,[.int .i64 0,.int .i32 0,.int .u8 0,.int .u8 0]),(7,[.int .i64 x.2.2,.int .i32 x.2.1,.int .u8 2,.int .u8 0])],cj:=I',dx:=M' }) (λx=>x.1<=y.kn/\x.2.1<=t.s.size/\x.2.2<=1099511627776/\dp t.P T k a=oR T ((y.kids.map Int.toNat).drop x.1) x.2.1 x.2.2) (λx=>y.kn-x.1) ?_ ?_
 ·exact⟨(0,a,0),⟨bj _,aD,bj _,ap⟩,.refl,nb,.cons rfl (.cons rfl (.nil))⟩
 rintro⟨i,aW,n⟩⟨hi,la,av,gR⟩;simp only at hi la av gR;refine aI.mk (λe=>?_) (λe=>?_)
 ·have aL:i<y.kn:=by simpa using e
  have bi:i<y.kids.length:=by omega
  obtain⟨ec,e6,eo⟩:=hj.aU.one (f:=λ(k:Int)=>Value.int .i64 k) aL bi;have e':=hq _ (cO bi);obtain⟨q,aE⟩:∃ q:Nat,y.kids[i]=(q:Int):=⟨y.kids[i].toNat,by omega⟩;have kG:q<t.nn:=by rw[aE]at e';omega
  have nR:(y.kids.map Int.toNat).drop i=q::(y.kids.map Int.toNat).drop (i+1):=by rw[dS (by rw[ei];exact bi),jJ,aE];rfl
  rw[nR,oR]at gR;rw[aE]at eo;obtain⟨eG,lb,r,an,iw,-,mg⟩:=bb.row kG;have n2:=h.rg kG la;refine a6.mk ec i e6 rfl aL ?_;refine aJ.mk _ (eo _) ?_;refine cL.draw aS rfl rfl rfl ?_;refine aJ.mk _ (bb.e5 (j:=4) (by decide)) ?_;refine a6.mk eG q lb rfl kG ?_;refine aJ.mk _ (iw _) ?_;refine a6.mk r aW rfl rfl (by show aW<t.s.size+1;omega) ?_;refine aJ.mk _ (mg _ h.aY aW la) ?_;refine cz.mk λFg ah4 ah5=>?_;refine cX.mk [] M' _ _ rfl rfl (bB rfl) rfl ?_;have mj:∀ j,j+1<=4->bE I' (⟨Fg,.cells (T q aW).cells.toArray 107 (0,0)⟩::M') ((⟨Fg,0,none⟩:Addr).add j) 1 (((T q aW).cells.drop j).take 1):=λj al=>dM (.head _) al;refine aJ.mk _ (mj 2 (by decide)) ?_;refine aI.mk (λaz=>?_) (λaz=>?_);·rw[I3 (j:=2) (b:=true) az,lR,a5]at gR;refine aJ.mk _ (mj 2 (by decide)) ?_;exact⟨_,_,.sub (.cons _ (.refl _)) .refl,by rw[gR];rfl,rfl,rfl⟩
  ·rw[I3 (j:=2) (b:=false) az,Ch,ba]at gR;refine aJ.mk _ (mj 1 (by decide)) ?_;refine aJ.mk _ (mj 0 (by decide)) ?_;refine aT.whole _ (I1 n (T q aW).n av n2.2.1) ?_;rintro v dQ dt -⟨rfl,rfl,rfl⟩;refine aQ.mk _ (bU (i:=i) (by omega)) ?_;exact⟨(i+1,(T q aW).aW,e0 n (T q aW).n),⟨⟨by simp only;omega,n2.2.2.1,pP _ _,gR⟩,by simp only;omega⟩,.sub (.cons _ (.refl _)) .refl,nb,.cons rfl (.cons rfl (.nil))⟩
 ·have c1:y.kn<=i:=by simpa using e
  have ai:(y.kids.map Int.toNat).drop i=[]:=hc (by rw[ei];omega);rw[ai,oR]at gR;exact⟨_,_,.refl,by rw[gR];rfl,rfl,rfl⟩
def ah6(h:oU I t T M k a)(ae:(t.P.at_ k).d.k=5):Spec Tryz.prog 128 [ptr t.bt,.int .i64 k,.int .i64 a] I M (kH I M t T k a):=by
 have ap:dp t.P T k a=oS T (t.P.at_ k).asks a:=by simp[dp,ae]
 refine bC [] aS Tryz.func128 rfl rfl rfl ?_;intro B aq;have bb:=h.ok;have aD:=h.a;have ao:=bb.sz;obtain⟨y,aG,jz,hj,j',hq,ad,bR,bh⟩:=bb.at_ h.k;have mQ:(t.P.at_ k).asks=y.kids.map Int.toNat:=by rw[jz];rfl
 rw[mQ]at ap;have dP:=hj.kn;have ny:=hj.aU.cap.2;refine aJ.mk _ (bb.e5 (j:=3) (by decide)) ?_;refine a6.mk ad k bR rfl h.k ?_;refine aJ.mk _ ((bh _).part (k:=8) (m:=1) (by decide)) ?_;refine cD.inv (ι:=Nat) (λx=>{ bA:=[(0,.val (ptr t.bt)),(2,.val (.int .i64 a)),(6,.ref 6 0),(17,.val (.slice y.kX y.kn y.j0)),(18,.val (.int .i64 y.kn)),(19,.val (.int .i64 x))],cl:=[(6,[.int .i64 0,.int .i32 0,.int .u8 0,.int .u8 0])],cj:=I,dx:=M }) (λx=>x<=y.kn/\dp t.P T k a=oS T ((y.kids.map Int.toNat).drop x) a) (λx=>y.kn-x) ?_ ?_
 ·exact⟨0,⟨bj _,ap⟩,.refl,nb,.cons rfl (.nil)⟩
 rintro i⟨hi,gR⟩;refine aI.mk (λe=>?_) (λe=>?_)
 ·have aL:i<y.kn:=by simpa using e
  have bi:i<y.kids.length:=by omega
  obtain⟨ec,e6,eo⟩:=hj.aU.one (f:=λ(k:Int)=>Value.int .i64 k) aL bi;have e':=hq _ (cO bi);obtain⟨q,aE⟩:∃ q:Nat,y.kids[i]=(q:Int):=⟨y.kids[i].toNat,by omega⟩;have kG:q<t.nn:=by rw[aE]at e';omega
  have nR:(y.kids.map Int.toNat).drop i=q::(y.kids.map Int.toNat).drop (i+1):=by rw[dS (by rw[ei];exact bi),jJ,aE];rfl
  rw[nR,oS]at gR;rw[aE]at eo;obtain⟨eG,lb,r,an,iw,-,mg⟩:=bb.row kG;refine a6.mk ec i e6 rfl aL ?_;refine aJ.mk _ (eo _) ?_;refine aJ.mk _ (bb.e5 (j:=4) (by decide)) ?_;refine a6.mk eG q lb rfl kG ?_;refine aJ.mk _ (iw _) ?_;refine a6.mk r a rfl rfl (by show a<t.s.size+1;omega) ?_;refine aJ.mk _ (mg _ h.aY a aD) ?_;refine aI.mk (λaz=>?_) (λaz=>?_);·rw[I3 (j:=1) az,lR,a5]at gR;exact⟨_,_,.refl,by rw[gR];rfl,rfl,rfl⟩
  ·rw[I3 (j:=1) az,Ch,ba]at gR;refine aQ.mk _ (bU (i:=i) (by omega)) ?_;exact⟨i+1,⟨⟨by omega,gR⟩,by omega⟩,.refl,nb,.cons rfl (.nil)⟩
 ·have c1:y.kn<=i:=by simpa using e
  have ai:(y.kids.map Int.toNat).drop i=[]:=hc (by rw[ei];omega);rw[ai,oS]at gR;exact⟨_,_,.refl,by rw[gR];rfl,rfl,rfl⟩
def ah7(h:oU I t T M k a)(ae:(t.P.at_ k).d.k=6)(bI:(t.P.at_ k).d.hi=-1):Spec Tryz.prog 164 [ptr t.bt,.int .i64 k,.int .i64 a] I M (kH I M t T k a):=by
 obtain⟨q,aE⟩:=(h.na k).one (.inr (by omega));have ap:dp t.P T k a=vJ T k q (t.P.at_ k).d.lo a:=by rw[Wu ae bI,aE];rfl
 have dX:=(h.bS k h.k).l3 ae;refine bC [] aS Tryz.func164 rfl rfl rfl ?_;intro B aq;have bb:=h.ok;have aD:=h.a;have ao:=bb.sz;obtain⟨y,aG,jz,hj,j',hq,ad,bR,bh⟩:=bb.at_ h.k;have ay:(t.P.at_ k).d.lo=y.lo:=by rw[jz];rfl
 rw[ay]at ap dX;unfold vJ at ap;refine aT.whole _ (xG a (by omega)) ?_;rintro v I' M' -⟨rfl,rfl,rfl⟩;refine aT.whole _ (Fe h aE) ?_;rintro v I' M' -⟨kG,rfl,rfl,rfl⟩;have n2:=h.rg kG aD;have En:∀ x:Nat,x<=99->IntKind.i64.wrap (x:Int)=(x:Int):=λx ab=>e4 rfl (by omega);refine bo.mk (λg=>?_) (λg=>?_)
 rotate_left
 ·rw[kI (j:=0) (b:=true) g,si,ba]at ap;exact⟨_,_,.refl,by rw[ap];rfl,rfl,rfl⟩
 rw[kI (j:=0) (b:=false) g,qS]at ap;refine bo.mk (λaV=>?_) (λaV=>?_)
 ·rw[kI (j:=2) (b:=true) aV,nl]at ap;refine aQ.mk ((T q a).aW:Int) (e4 rfl (by omega)) ?_;refine aI.mk (λbl=>?_) (λbl=>?_)
  ·have zU:Nat.beq (T q a).aW a=true:=kI bl;rw[zU,ba]at ap;exact⟨_,_,.refl,by rw[ap];rfl,rfl,rfl⟩
  have zU:Nat.beq (T q a).aW a=false:=kI bl;rw[zU,a5]at ap;refine aI.mk (λe=>?_) (λe=>?_)
  rotate_left
  ·exact I2 aV e
  obtain⟨eG,lb,r,an,iw,-,mg⟩:=bb.row h.k;have ah8:=h.rg h.k n2.2.2.1;refine cL.draw aS rfl rfl rfl ?_;refine aJ.mk _ (bb.e5 (j:=4) (by decide)) ?_;refine a6.mk eG k lb rfl h.k ?_;refine aJ.mk _ (iw _) ?_;refine a6.mk r (T q a).aW rfl rfl (by show _<t.s.size+1;omega) ?_;refine aJ.mk _ (mg _ h.aY (T q a).aW n2.2.2.1) ?_;refine cz.mk λbZ gb ig=>?_;refine cX.mk [] M' _ _ rfl rfl (bB rfl) rfl ?_;have mj:∀ j,j+1<=4->bE I' (⟨bZ,.cells (T k (T q a).aW).cells.toArray 107 (0,0)⟩::M') ((⟨bZ,0,none⟩:Addr).add j) 1 (((T k (T q a).aW).cells.drop j).take 1):=λj al=>dM (.head _) al;refine aJ.mk _ (mj 2 (by decide)) ?_;refine aI.mk (λaz=>?_) (λaz=>?_);·rw[kI (j:=0) az,ba]at ap;exact⟨_,_,.sub (.cons _ (.refl _)) .refl,by rw[ap];rfl,rfl,rfl⟩
  rw[kI (j:=0) az,a5]at ap;refine aJ.mk _ (mj 1 (by decide)) ?_;refine aJ.mk _ (mj 0 (by decide)) ?_;refine aT.whole _ (I1 (T q a).n (T k (T q a).aW).n n2.2.1 ah8.2.1) ?_;rintro v dQ dt -⟨rfl,rfl,rfl⟩;refine aJ.mk _ (mj 3 (by decide)) ?_;refine aQ.mk (((T k (T q a).aW).times+1:Nat):Int) (by rw[ahO (by omega) (by omega)];simp) ?_;have yj:min (((T k (T q a).aW).times+1:Nat):Int) 99=((min ((T k (T q a).aW).times+1) 99:Nat):Int):=by omega
  refine cL.draw aS rfl rfl rfl ?_;refine aQ.mk ((min ((T k (T q a).aW).times+1) 99:Nat):Int) (by show IntKind.i64.wrap (min (((T k (T q a).aW).times+1:Nat):Int) 99)=_;rw[yj];exact En _ (Hh _ _)) ?_;refine aJ.mk _ (bb.e5 (j:=3) (by decide)) ?_;refine a6.mk ad k bR rfl h.k ?_;refine aJ.mk _ ((bh _).part (k:=6) (m:=1) (by decide)) ?_;refine aI.mk (λbc=>?_) (λbc=>?_);·have zV:decide (((min ((T k (T q a).aW).times+1) 99:Nat):Int)<y.lo)=true:=bc;rw[mi,zV,ba]at ap;refine⟨_,_,.sub (.cons _ (.refl _)) .refl,?_,rfl,rfl⟩;rw[ap];show Value.agg #[_,_,_,.int .u8 (min (((T k (T q a).aW).times+1:Nat):Int) 99)]=_;rw[yj];rfl
  ·have zV:decide (((min ((T k (T q a).aW).times+1) 99:Nat):Int)<y.lo)=false:=bc;rw[mi,zV,a5]at ap;refine⟨_,_,.sub (.cons _ (.refl _)) .refl,?_,rfl,rfl⟩;rw[ap];show Value.agg #[_,_,_,.int .u8 (min (((T k (T q a).aW).times+1:Nat):Int) 99)]=_;rw[yj];rfl
 ·rw[kI (j:=2) (b:=false) aV,nk,a5,a5]at ap;refine aI.mk (λe=>?_) (λe=>?_)
  ·exact I2 e aV
  refine cL.draw aS rfl rfl rfl ?_;refine aQ.mk (0:Int) (show IntKind.i64.wrap 0=0 by decide) ?_;refine aJ.mk _ (bb.e5 (j:=3) (by decide)) ?_;refine a6.mk ad k bR rfl h.k ?_;refine aJ.mk _ ((bh _).part (k:=6) (m:=1) (by decide)) ?_;refine aI.mk (λbc=>?_) (λbc=>?_);·have zV:decide ((((m1 a).times:Nat):Int)<y.lo)=true:=bc;rw[mi,zV,ba]at ap;exact⟨_,_,.refl,by rw[ap];rfl,rfl,rfl⟩
  ·have zV:decide ((((m1 a).times:Nat):Int)<y.lo)=false:=bc;rw[mi,zV,a5]at ap;exact⟨_,_,.refl,by rw[ap];rfl,rfl,rfl⟩
def ah9(h:oU I t T M k a)(ae:(t.P.at_ k).d.k=6):Spec Tryz.prog 129 [ptr t.bt,.int .i64 k,.int .i64 a] I M (kH I M t T k a):=by
 obtain⟨q,aE⟩:=(h.na k).one (.inr (by omega));have st:=(h.na k).l3 ae;refine bC [] aS Tryz.func129 rfl rfl rfl ?_;intro B aq;have bb:=h.ok;have aD:=h.a;have ao:=bb.sz;obtain⟨y,aG,jz,hj,j',hq,ad,bR,bh⟩:=bb.at_ h.k;have eX:(t.P.at_ k).d.hi=y.hi:=by rw[jz];rfl
 have dX:(t.P.at_ k).d.lo=y.lo:=by rw[jz];rfl
 rw[eX]at st;refine aJ.mk _ (bb.e5 (j:=3) (by decide)) ?_;refine a6.mk ad k bR rfl h.k ?_;refine aJ.mk _ (bh _) ?_;refine aI.mk (λe=>?_) (λe=>?_)
 ·have a0:y.hi=-1:=cr e;refine aT.whole _ (ah7 h ae (eX.trans a0)) ?_;rintro v I' M' -⟨rfl,rfl,rfl⟩;exact⟨_,_,.refl,rfl,rfl,rfl⟩
 have a0:¬ y.hi=-1:=b' e;have ap:dp t.P T k a=nZ T q y.lo y.hi.toNat 0 a 0:=by simp[dp,ae,eX,a0,aE,dX]
 have mQ:y.kids.map Int.toNat=[q]:=by rw[jz]at aE;exact aE
 obtain⟨x,ab⟩:∃ x,y.kids=[x]:=by
  match ae:y.kids,mQ with
  |[x],_=>exact⟨x,rfl⟩
 have e':=hq x (by rw[ab];exact .head _);have Ff:x.toNat=q:=by rw[ab]at mQ;simpa using mQ
 have kG:q<t.nn:=by omega
 have dP:y.kn=1:=by have:=hj.kn;rw[ab]at this;exact this.symm
 obtain⟨ec,e6,eo⟩:=hj.aU.one (f:=λ(k:Int)=>Value.int .i64 k) (j:=0) (by omega) (by rw[ab];exact IK);have eo:∀ M,bE I M (ec.add (0*1)) 1 [.int .i64 q]:=λM=>by
  have:=eo M;have e:y.kids[0]'(by rw[ab];exact IK)=(q:Int):=by simp only[ab];show x=_;omega
  rwa [e]at this
 obtain⟨eG,lb,r,an,iw,-,mg⟩:=bb.row kG;refine aT.whole _ (xG a (by omega)) ?_;rintro v I' M' -⟨rfl,rfl,rfl⟩;refine cD.inv (ι:=Nat×Nat×Nat) (λx=>{ bA:=[(0,.val (ptr t.bt)),(6,.ref 6 0),(7,.ref 7 0),(8,.ref 8 0),(9,.val (.int .i64 x.1))],cl:=[(6,[.int .i64 0,.int .i32 0,.int .u8 0,.int .u8 0]),(7,y.cells),(8,[.int .i64 x.2.2,.int .i32 x.2.1,.int .u8 2,.int .u8 0])],cj:=I',dx:=M' }) (λx=>x.1<=y.hi.toNat/\x.2.1<=t.s.size/\x.2.2<=1099511627776/\dp t.P T k a=nZ T q y.lo (y.hi.toNat-x.1) x.1 x.2.1 x.2.2) (λx=>y.hi.toNat-x.1) ?_ ?_
 ·exact⟨(0,a,0),⟨bj _,aD,bj _,ap⟩,.refl,kQ,.cons rfl (.cons rfl (.cons rfl (.nil)))⟩
 rintro⟨i,aW,n⟩⟨hi,la,av,gR⟩;simp only at hi la av gR;have n2:=h.rg kG la;refine aI.mk (λaz=>?_) (λaz=>?_)
 ·have aL:(i:Int)<y.hi:=cr az;obtain⟨j,al⟩:∃ j,y.hi.toNat-i=j+1:=⟨y.hi.toNat-i-1,by omega⟩;have gm:y.hi.toNat-(i+1)=j:=by omega
  rw[al,nZ]at gR;refine cL.draw aS rfl rfl rfl ?_;refine aJ.mk _ (bb.e5 (j:=4) (by decide)) ?_;refine a6.mk ec 0 e6 rfl (by omega) ?_;refine aJ.mk _ (eo _) ?_;refine a6.mk eG q lb rfl kG ?_;refine aJ.mk _ (iw _) ?_;refine a6.mk r aW rfl rfl (by show aW<t.s.size+1;omega) ?_;refine aJ.mk _ (mg _ h.aY aW la) ?_;refine cz.mk λFg ah4 ah5=>?_;refine cX.mk [] M' _ _ rfl rfl (bB rfl) rfl ?_;have mj:∀ j,j+1<=4->bE I' (⟨Fg,.cells (T q aW).cells.toArray 107 (0,0)⟩::M') ((⟨Fg,0,none⟩:Addr).add j) 1 (((T q aW).cells.drop j).take 1):=λj al=>dM (.head _) al;refine aJ.mk _ (mj 2 (by decide)) ?_;refine bo.mk (λg=>?_) (λg=>?_)
  rotate_left
  ·rw[kI (j:=0) (b:=true) g,si,ba]at gR;refine aJ.mk _ (mj 2 (by decide)) ?_;exact⟨_,_,.sub (.cons _ (.refl _)) .refl,by rw[gR];rfl,rfl,rfl⟩
  rw[kI (j:=0) (b:=false) g,qS]at gR;refine aJ.mk _ (mj 2 (by decide)) ?_;refine bo.mk (λaV=>?_) (λaV=>?_)
  ·rw[kI (j:=1) (b:=true) aV,nl]at gR;refine aI.mk (λbl=>?_) (λbl=>?_)
   ·have zU:decide ((i:Int)<y.lo)=true:=bl;rw[zU,ba]at gR;refine aJ.mk _ (mj 2 (by decide)) ?_;exact⟨_,_,.sub (.cons _ (.refl _)) .refl,by rw[gR];rfl,rfl,rfl⟩
   have zU:decide ((i:Int)<y.lo)=false:=bl;rw[zU,a5,ba]at gR;refine aJ.mk _ (mj 2 (by decide)) ?_;refine aI.mk (λfP=>?_) (λfP=>I2 aV fP);exact⟨_,_,.sub (.cons _ (.refl _)) .refl,by rw[gR];rfl,rfl,rfl⟩
  ·rw[kI (j:=1) (b:=false) aV,nk,a5,a5]at gR;refine aJ.mk _ (mj 2 (by decide)) ?_;refine aI.mk (λfP=>I2 fP aV) (λfP=>?_);refine aJ.mk _ (mj 1 (by decide)) ?_;refine aJ.mk _ (mj 0 (by decide)) ?_;refine aT.whole _ (I1 n (T q aW).n av n2.2.1) ?_;rintro v dQ dt -⟨rfl,rfl,rfl⟩;refine aQ.mk _ (bU (i:=i) (by omega)) ?_;exact⟨(i+1,(T q aW).aW,e0 n (T q aW).n),⟨⟨by simp only;omega,n2.2.2.1,pP _ _,by simp only;rw[gm];exact gR⟩,by simp only;omega⟩,.sub (.cons _ (.refl _)) .refl,kQ,.cons rfl (.cons rfl (.cons rfl (.nil)))⟩
 ·have c1:¬ (i:Int)<y.hi:=b' az;have al:y.hi.toNat-i=0:=by omega
  rw[al,nZ]at gR;exact⟨_,_,.refl,by rw[gR];rfl,rfl,rfl⟩
end
end Go.V
