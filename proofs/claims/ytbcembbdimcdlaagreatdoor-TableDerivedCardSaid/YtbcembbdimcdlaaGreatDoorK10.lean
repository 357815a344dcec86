/- Part 10 of what the proofs of this seat share: the executor, data in memory, walks.
-/
import Derived.Test.YtbcembbdimcdlaaGreatDoorK9
import Derived.Test.YtbcembbdimcdlaaGreatDoorK5
import Derived.Test.YtbcembbdimcdlaaGreatDoorK4
import Derived.Test.YtbcembbdimcdlaaGreatDoorK7
import Derived.Test.YtbcembbdimcdlaaGreatDoorK8
import Derived.Test.YtbcembbdimcdlaaGreatDoorK2
import Derived.Test.YtbcembbdimcdlaaGreatDoorK3
set_option linter.all false
set_option maxHeartbeats 4000000
set_option maxRecDepth 100000
namespace Go.V
open Go Go.Proofs
variable{an n q:Nat}{s:ByteArray}{c:cr}{w:cB}{p:aY×Bool}{d:aM}{I:aR}{g:dn}{F:List aY}{W:List ck}{a1:List Int}
section
variable{I:aR}{g:dn}{s:ByteArray}{t:dr}{T:Nat->Nat->bX}{x:bN}{r:Nat}{d:aM}
def aqS(p:hk I g s t T x r d)(da:an<=s.size)(ae:d.k=6):Spec Tryz.prog 18 [ptr t.bt,g.val,x.val,.int .i64 an] I [] (wF I):=by
 have hx:=p.ab.n;have dy:=p.ab.ns d p.kG;have cY:=dy.kn;have n1:=dy.bg.cap.2;have gn:=p.gn;have cL:=p.h.ts;have o0:(cI g x s).s=s:=rfl;have og:(cI g x s).aW=0:=rfl;have cZ:=dy.k;have ll:=p.an;have iQ:((cI g x s).an (a6 g.ds+r)).d.k=d.k:=by rw[ll];rfl
 refine b4 [] aU Tryz.func18 rfl rfl rfl ?_;intro B ao;refine a0.whole _ (p.expr da) ?_;rintro v x7 M1 -⟨gH,rfl,bz,gf,eY,o,e,fL,rfl,mQ⟩;refine aJ.mk (λev=>⟨_,_,.refl,rfl,gH,rfl⟩) (λev=>?_);have ev:e≠40:=cx ev;have bC:=p.mono gH;have ha:=x2 (M0:=[]) bC.bM bC.ab bC.right bC.ai bC.ek;rw[bC.ag]at ha;refine a0.whole _ ha ?_;rintro v nx ey -⟨rfl,rfl,rfl⟩;have fc:=x6 (M0:=[]) bC.bM bC.ab bC.right (by have:=bC.hx;omega) bC.ai;rw[ij bC.ek,bC.ag]at fc;refine a0.whole _ fc ?_;rintro v iG kq -⟨e7,rfl,eK,gT,ru,L,rfl,k2,zw,ej⟩;have h':=bC.mono e7;have fQ:∀ b o,I b=some o->iG b=some o:=λb o h=>e7 _ _ (gH _ _ h);have oi:=mQ.mono e7;have x3:L.length=gT:=by have:=k2.len;rw[fb _ 2 (λ_=>rfl)]at this;omega
 refine a0.whole _ (x4 h'.h.ok) ?_;rintro v sA kr -⟨rfl,rfl,rfl⟩;rw[cL];have tF:=fL.cW;refine aJ.mk (λh=>absurd (show d.k=0 from bS h) (by omega)) (λ_=>?_);refine aJ.mk (λh=>absurd (show d.k=1 from bS h) (by omega)) (λ_=>?_);refine aJ.mk (λh=>absurd (show d.k=2 from bS h) (by omega)) (λ_=>?_);refine aJ.mk (λh=>absurd (show d.k=3 from bS h) (by omega)) (λ_=>?_);refine aJ.mk (λh=>absurd (show d.k=4 from bS h) (by omega)) (λ_=>?_);refine aJ.mk (λh=>absurd (show d.k=5 from bS h) (by omega)) (λ_=>?_);refine aJ.mk (λ_=>?_) (λh=>absurd ae (show ¬ d.k=6 from cx h));have af:d.k≠3:=by omega
 have ep:=p.DB af;have tG:an<=(cI g x s).s.size:=o0.symm ▸ da
 have TX:(cI g x s).s.size<=4096:=gn;have U:=p.one (.inr (by omega));have Nx:((cI g x s).an (a6 g.ds+r)).d.lo=d.lo:=by rw[ll];rfl
 have DD:((cI g x s).an (a6 g.ds+r)).d.hi=d.hi:=by rw[ll];rfl
 have e1:=p.cd.1.oG (iQ.trans ae);have TY:((cI g x s).an (a6 g.ds+r)).d.hi<=99:=by omega
 have vd:0<((cI g x s).an (a6 g.ds+r)).bm.length:=by omega
 have ve:0<gT:=by omega
 obtain⟨x9,hW⟩:=p.cd.1.one (.inr (by rw[iQ];omega));have x':((cI g x s).an (a6 g.ds+r)).bm[0]=x9:=by simp only[hW];rfl
 have st:0<L.length:=by omega
 obtain⟨bb,hB⟩:=ej 0 st;refine a0.whole _ (AW an) ?_;rintro v zx lZ -⟨rfl,rfl,rfl⟩;refine dG.inv (ι:=Nat×gC×Option Addr×Nat×Nat×aR) (λy=>{ bx:=[(0,.val (ptr t.bt)),(9,.ref 9 0),(10,.val (.int .i64 e)),(11,.ref 11 0),(12,.val (.slice eK gT ru)),(23,.ref 23 0),(24,.val (.int .i64 y.1))],cl:=[(9,[.bool o.ok,.int .i64 o.to,.slice bz gf eY]),(11,(d.hf []).cells),(23,[.bool y.2.1.ok,.int .i64 y.2.1.to,.slice y.2.2.1 y.2.2.2.1 y.2.2.2.2.1])],c2:=y.2.2.2.2.2,du:=[] }) (λy=>(∀ b o,zx b=some o->y.2.2.2.2.2 b=some o)/\dA y.2.2.2.2.2 y.2.2.1 y.2.2.2.1 y.2.2.2.2.1 3 0 (y.2.1.cW.flatMap dF.cells)/\ny (cI g x s) (a6 g.ds+r) x9 an y.1 y.2.1) (λy=>s.size+1+d.hi.toNat-y.1) ?_ ?_
 ·exact⟨(0,⟨true,an,[]⟩,none,0,0,zx),⟨λ_ _ h=>h,⟨rfl,⟨bY _,by omega⟩,.inl rfl⟩,.zero (iQ.trans ae) hW tG (by omega)⟩,.refl,ko,.cons rfl (.cons rfl (.cons rfl (.nil)))⟩
 rintro⟨i,q,a,n,c,J⟩⟨bZ,lC,bB⟩;simp only at bZ lC bB;have F3:=h'.mono bZ;have vb:∀ b o,I b=some o->J b=some o:=λb o h=>bZ _ _ (fQ _ _ h);have x8:=oi.mono bZ;have lJ:=rk lC;have eS:=bB.f.len;have Nw:q.to<=s.size:=bB.f.le;have cm:=bB.ge;have aS:=bB.lt;rw[DD]at cm aS;obtain⟨ad,bP,bu⟩:=(k2.mono bZ).row (f:=bN.cells) (λ_=>rfl) ve st;by_cases hm:d.hi=-1
 ·have m5:(d.hf []).hi=-1:=hm;have bl:((cI g x s).an (a6 g.ds+r)).d.hi=-1\/(i:Int)<((cI g x s).an (a6 g.ds+r)).d.hi:=.inl (DD.trans hm);have cm:=cm hm;refine b2.mk (λh=>absurd h (by simp[m5])) (λ_=>?_);have wB:=λM=>F3.DC (M0:=M) af vd (bb.mono bZ) hB Nw;refine c4.Kj aU rfl rfl rfl (ι:=Nat×gC×Int×Option Addr×Nat×Nat×aR) (λy=>{ bx:=[(0,.val (ptr t.bt)),(9,.ref 9 0),(10,.val (.int .i64 e)),(11,.ref 11 0),(12,.val (.slice eK gT ru)),(23,.ref 23 0),(24,.val (.int .i64 i)),(25,.val (ptr y.1)),(26,.val (.int .i64 y.2.2.1))],cl:=[(9,[.bool o.ok,.int .i64 o.to,.slice bz gf eY]),(11,(d.hf []).cells),(23,[.bool q.ok,.int .i64 q.to,.slice a n c])],c2:=y.2.2.2.2.2.2,du:=[⟨y.1,.cells [.bool y.2.1.ok,.int .i64 y.2.1.to,.slice y.2.2.2.1 y.2.2.2.2.1 y.2.2.2.2.2.1].toArray 41 (0,0)⟩] }) (λy=>(∀ b o,J b=some o->y.2.2.2.2.2.2 b=some o)/\dA y.2.2.2.2.2.2 y.2.2.2.1 y.2.2.2.2.1 y.2.2.2.2.2.1 3 0 (y.2.1.cW.flatMap dF.cells)/\ea (cI g x s) x9 q.to y.2.1 y.2.2.1) ?_ ?_
  ·refine bk.mk ad 0 bP rfl ve ?_;refine aK.mk _ (bu _) ?_;refine⟨?_,?_⟩
   ·refine a0.whole _ (wB _) ?_;rintro v hl m9 -⟨fC,rfl,bJ,eV,dS,dq,f2,dZ,rfl,hn⟩;refine cv.mk λry TZ T0=>?_;refine cz.to [] _ _ _ rfl rfl rfl rfl [.bool dq.ok,.int .i64 dq.to,.slice bJ eV dS] rfl ?_;exact⟨(ry,dq,f2,bJ,eV,dS,hl),⟨fC,hn,by rw[x']at dZ;exact dZ⟩,.refl,lV,.cons rfl (.cons rfl (.cons rfl (.nil)))⟩
   ·refine cv.mk λry TZ T0=>?_;refine g7.whole _ (wB _) (λv I' M' h x ab=>by rw[h.2.1];exact ab) ?_;rintro v hl m9 -⟨fC,rfl,bJ,eV,dS,dq,f2,dZ,rfl,hn⟩;refine cz.to [] _ _ _ rfl rfl rfl rfl [.bool dq.ok,.int .i64 dq.to,.slice bJ eV dS] rfl ?_;exact⟨(ry,dq,f2,bJ,eV,dS,hl),⟨fC,hn,by rw[x']at dZ;exact dZ⟩,.refl,lV,.cons rfl (.cons rfl (.cons rfl (.nil)))⟩
  rintro⟨ry,dq,f2,bJ,eV,dS,hl⟩⟨fC,hn,dZ⟩;simp only at fC hn dZ;have ya:∀ {J:aR},cq J [⟨ry,.cells ([.bool dq.ok,.int .i64 dq.to,.slice bJ eV dS]:List Value).toArray 41 (0,0)⟩] ⟨ry,0,none⟩ 3 [.bool dq.ok,.int .i64 dq.to,.slice bJ eV dS]:=⟨rfl,_,_,_,.inr ⟨_,.head _,rfl,rfl⟩,rfl,rfl⟩;have nS:=dZ.cW;have jL:=rk hn;have iR:∀ b o,I b=some o->hl b=some o:=λb o h=>fC _ _ (vb _ _ h);by_cases aC:f2=0
  rotate_left
  ·refine b2.mk (λh=>absurd h (by simp[aC])) (λ_=>?_);by_cases aP:f2=40
   ·subst aP;refine b2.mk (λh=>by cases h) (λ_=>?_);exact⟨_,_,.sub (fw _) .refl,rfl,iR,rfl⟩
   ·have bq:e=5:=(bB.F0 bl dZ aC fL).resolve_left aP;subst bq;refine b2.mk (λ_=>?_) (λh=>absurd h (by simp[aP]));exact⟨_,_,.sub (fw _) .refl,rfl,iR,rfl⟩
  subst aC;have aC:(0:Int)=0:=rfl;refine b2.mk (λ_=>?_) (λh=>by cases h);refine b2.mk (λ_=>?_) (λh=>absurd h (by simp[m5]));refine aK.mk _ (ya.part (k:=0) (m:=1) (by decide)) ?_;refine b2.mk (λgM=>?_) (λgM=>?_)
  ·have bj:dq.ok=true:=gM;have Be:=bj;refine aK.mk _ (ya.part (k:=1) (m:=1) (by decide)) ?_;refine aJ.mk (λhF=>?_) (λhF=>?_)
   ·have eh:dq.to=q.to:=by have:(dq.to:Int)=(q.to:Int):=bS hF;omega
    have bq:e=5:=bB.same (DD.trans hm) dZ aC bj eh fL;subst bq;refine b2.mk (λ_=>?_) (λh=>by cases h);exact⟨_,_,.sub (fw _) .refl,rfl,iR,rfl⟩
   have eh:¬ dq.to=q.to:=by have:¬ (dq.to:Int)=(q.to:Int):=cx hF;omega
   have bH:¬ (((cI g x s).an (a6 g.ds+r)).d.hi=-1/\dq.to=q.to):=λh=>eh h.2;refine aK.mk _ (ya.part (k:=0) (m:=1) (by decide)) ?_;refine aJ.mk (λgM=>?_) (λgM=>?_)
   ·have bj:dq.ok=false:=by simpa using gM
    rw[Be]at bj;cases bj
   ·have bj:dq.ok=true:=by simpa using gM
    refine aK.mk _ ya ?_;refine a0.whole _ (TT (M0:=[⟨ry,.cells ([.bool dq.ok,.int .i64 dq.to,.slice bJ eV dS]:List Value).toArray 41 (0,0)⟩]) bB.f.ok (lC.mono fC) (by omega) hn (by omega)) ?_;rintro v oj lD -⟨sB,rfl,dN,tD,ux,rfl,vc⟩;have A7:=rk vc;refine aJ.mk (λgd=>⟨_,_,.sub (fw _) .refl,rfl,λb o h=>sB _ _ (iR _ _ h),rfl⟩) (λgd=>?_);have gd:¬ (65536:Int)<(tD:Int):=cx gd;refine bc.mk _ (cF (i:=i) (by omega)) ?_;have ob:pM q dq=rr q dq:=by unfold pM;rw[bj];rfl
    rw[ob]at A7;exact⟨(i+1,pM q dq,dN,tD,ux,oj),⟨⟨λb o h=>sB _ _ (fC _ _ (bZ _ _ h)),vc,by simp only[ob];exact bB.next bl dZ aC bj bH (by omega)⟩,by simp only;omega⟩,.sub (fw _) .refl,ko,.cons rfl (.cons rfl (.cons rfl (.nil)))⟩
  ·have Be:dq.ok=false:=gM;refine aK.mk _ (ya.part (k:=0) (m:=1) (by decide)) ?_;refine aJ.mk (λgM=>?_) (λgM=>?_)
   ·have bj:dq.ok=false:=by simpa using gM
    refine aJ.mk (λhF=>?_) (λhF=>?_);·have hF:(i:Int)<d.lo:=bS hF;obtain⟨rfl,rfl⟩:=bB.ady bl dZ aC bj (by rw[Nx];exact hF) fL;obtain rfl:dq=iv:=dZ.no bj;refine aK.mk _ ya ?_;refine b2.mk (λ_=>?_) (λh=>by cases h);refine a0.whole _ (oh (o:=iv) (x8.mono fC) hn (by omega)) ?_;rintro v oj lD -⟨rfl,rfl,rfl⟩;exact⟨_,_,.sub (fw _) .refl,rfl,iR,rfl⟩
    have hF:¬ (i:Int)<d.lo:=cx hF;obtain⟨rfl,rfl⟩:=bB.adz og TX tG (iQ.trans ae) hW TY bl dZ aC bj (by rw[Nx];exact hF) fL ev;refine b2.mk (λ_=>?_) (λh=>by cases h);refine a0.whole _ (oh (x8.mono fC) (lC.mono fC) (by omega)) ?_;rintro v oj lD -⟨rfl,rfl,rfl⟩;exact⟨_,_,.sub (fw _) .refl,rfl,iR,rfl⟩
   ·have bj:dq.ok=true:=by simpa using gM
    rw[Be]at bj;cases bj
 have aS:=aS hm;have m5:¬ (d.hf []).hi=-1:=hm;refine b2.mk (λ_=>?_) (λh=>absurd h (by simp[m5]));refine aJ.mk (λaV=>?_) (λaV=>?_)
 ·have T1:(i:Int)<d.hi:=bS aV;have bl:((cI g x s).an (a6 g.ds+r)).d.hi=-1\/(i:Int)<((cI g x s).an (a6 g.ds+r)).d.hi:=.inr (by rw[DD];exact T1);have wB:=λM=>F3.DC (M0:=M) af vd (bb.mono bZ) hB Nw;refine c4.Kj aU rfl rfl rfl (ι:=Nat×gC×Int×Option Addr×Nat×Nat×aR) (λy=>{ bx:=[(0,.val (ptr t.bt)),(9,.ref 9 0),(10,.val (.int .i64 e)),(11,.ref 11 0),(12,.val (.slice eK gT ru)),(23,.ref 23 0),(24,.val (.int .i64 i)),(25,.val (ptr y.1)),(26,.val (.int .i64 y.2.2.1))],cl:=[(9,[.bool o.ok,.int .i64 o.to,.slice bz gf eY]),(11,(d.hf []).cells),(23,[.bool q.ok,.int .i64 q.to,.slice a n c])],c2:=y.2.2.2.2.2.2,du:=[⟨y.1,.cells [.bool y.2.1.ok,.int .i64 y.2.1.to,.slice y.2.2.2.1 y.2.2.2.2.1 y.2.2.2.2.2.1].toArray 41 (0,0)⟩] }) (λy=>(∀ b o,J b=some o->y.2.2.2.2.2.2 b=some o)/\dA y.2.2.2.2.2.2 y.2.2.2.1 y.2.2.2.2.1 y.2.2.2.2.2.1 3 0 (y.2.1.cW.flatMap dF.cells)/\ea (cI g x s) x9 q.to y.2.1 y.2.2.1) ?_ ?_
  ·refine bk.mk ad 0 bP rfl ve ?_;refine aK.mk _ (bu _) ?_;refine⟨?_,?_⟩
   ·refine a0.whole _ (wB _) ?_;rintro v hl m9 -⟨fC,rfl,bJ,eV,dS,dq,f2,dZ,rfl,hn⟩;refine cv.mk λry TZ T0=>?_;refine cz.to [] _ _ _ rfl rfl rfl rfl [.bool dq.ok,.int .i64 dq.to,.slice bJ eV dS] rfl ?_;exact⟨(ry,dq,f2,bJ,eV,dS,hl),⟨fC,hn,by rw[x']at dZ;exact dZ⟩,.refl,lV,.cons rfl (.cons rfl (.cons rfl (.nil)))⟩
   ·refine cv.mk λry TZ T0=>?_;refine g7.whole _ (wB _) (λv I' M' h x ab=>by rw[h.2.1];exact ab) ?_;rintro v hl m9 -⟨fC,rfl,bJ,eV,dS,dq,f2,dZ,rfl,hn⟩;refine cz.to [] _ _ _ rfl rfl rfl rfl [.bool dq.ok,.int .i64 dq.to,.slice bJ eV dS] rfl ?_;exact⟨(ry,dq,f2,bJ,eV,dS,hl),⟨fC,hn,by rw[x']at dZ;exact dZ⟩,.refl,lV,.cons rfl (.cons rfl (.cons rfl (.nil)))⟩
  rintro⟨ry,dq,f2,bJ,eV,dS,hl⟩⟨fC,hn,dZ⟩;simp only at fC hn dZ;have ya:∀ {J:aR},cq J [⟨ry,.cells ([.bool dq.ok,.int .i64 dq.to,.slice bJ eV dS]:List Value).toArray 41 (0,0)⟩] ⟨ry,0,none⟩ 3 [.bool dq.ok,.int .i64 dq.to,.slice bJ eV dS]:=⟨rfl,_,_,_,.inr ⟨_,.head _,rfl,rfl⟩,rfl,rfl⟩;have nS:=dZ.cW;have jL:=rk hn;have iR:∀ b o,I b=some o->hl b=some o:=λb o h=>fC _ _ (vb _ _ h);by_cases aC:f2=0
  rotate_left
  ·refine b2.mk (λh=>absurd h (by simp[aC])) (λ_=>?_);by_cases aP:f2=40
   ·subst aP;refine b2.mk (λh=>by cases h) (λ_=>?_);exact⟨_,_,.sub (fw _) .refl,rfl,iR,rfl⟩
   ·have bq:e=5:=(bB.F0 bl dZ aC fL).resolve_left aP;subst bq;refine b2.mk (λ_=>?_) (λh=>absurd h (by simp[aP]));exact⟨_,_,.sub (fw _) .refl,rfl,iR,rfl⟩
  subst aC;have aC:(0:Int)=0:=rfl;refine b2.mk (λ_=>?_) (λh=>by cases h);refine b2.mk (λh=>absurd h (by simp[m5])) (λ_=>?_);have bH:¬ (((cI g x s).an (a6 g.ds+r)).d.hi=-1/\dq.to=q.to):=λh=>hm (DD.symm.trans h.1);refine aK.mk _ (ya.part (k:=0) (m:=1) (by decide)) ?_;refine aJ.mk (λgM=>?_) (λgM=>?_)
  ·have bj:dq.ok=false:=by simpa using gM
   refine aJ.mk (λhF=>?_) (λhF=>?_);·have hF:(i:Int)<d.lo:=bS hF;obtain⟨rfl,rfl⟩:=bB.ady bl dZ aC bj (by rw[Nx];exact hF) fL;obtain rfl:dq=iv:=dZ.no bj;refine aK.mk _ ya ?_;refine b2.mk (λ_=>?_) (λh=>by cases h);refine a0.whole _ (oh (o:=iv) (x8.mono fC) hn (by omega)) ?_;rintro v oj lD -⟨rfl,rfl,rfl⟩;exact⟨_,_,.sub (fw _) .refl,rfl,iR,rfl⟩
   have hF:¬ (i:Int)<d.lo:=cx hF;obtain⟨rfl,rfl⟩:=bB.adz og TX tG (iQ.trans ae) hW TY bl dZ aC bj (by rw[Nx];exact hF) fL ev;refine b2.mk (λ_=>?_) (λh=>by cases h);refine a0.whole _ (oh (x8.mono fC) (lC.mono fC) (by omega)) ?_;rintro v oj lD -⟨rfl,rfl,rfl⟩;exact⟨_,_,.sub (fw _) .refl,rfl,iR,rfl⟩
  ·have bj:dq.ok=true:=by simpa using gM
   refine aK.mk _ ya ?_;refine a0.whole _ (TT (M0:=[⟨ry,.cells ([.bool dq.ok,.int .i64 dq.to,.slice bJ eV dS]:List Value).toArray 41 (0,0)⟩]) bB.f.ok (lC.mono fC) (by omega) hn (by omega)) ?_;rintro v oj lD -⟨sB,rfl,dN,tD,ux,rfl,vc⟩;have A7:=rk vc;refine aJ.mk (λgd=>⟨_,_,.sub (fw _) .refl,rfl,λb o h=>sB _ _ (iR _ _ h),rfl⟩) (λgd=>?_);have gd:¬ (65536:Int)<(tD:Int):=cx gd;refine bc.mk _ (cF (i:=i) (by omega)) ?_;have ob:pM q dq=rr q dq:=by unfold pM;rw[bj];rfl
   rw[ob]at A7;exact⟨(i+1,pM q dq,dN,tD,ux,oj),⟨⟨λb o h=>sB _ _ (fC _ _ (bZ _ _ h)),vc,by simp only[ob];exact bB.next bl dZ aC bj bH (by omega)⟩,by simp only;omega⟩,.sub (fw _) .refl,ko,.cons rfl (.cons rfl (.cons rfl (.nil)))⟩
 ·have T1:¬ (i:Int)<d.hi:=cx aV;obtain⟨rfl,rfl⟩:=bB.done og TX tG (iQ.trans ae) hW TY (by rw[DD];exact hm) (by rw[DD];exact T1) fL ev;refine b2.mk (λ_=>?_) (λh=>by cases h);refine a0.whole _ (oh x8 lC (by omega)) ?_;rintro v hl m9 -⟨rfl,rfl,rfl⟩;exact⟨_,_,.refl,rfl,vb,rfl⟩
end
section
variable{I:aR}{g:dn}{s:ByteArray}{t:dr}{T:Nat->Nat->bX}{x:bN}{r:Nat}{d:aM}
def aqT(p:hk I g s t T x r d)(da:an<=s.size)(ae:d.k=7):Spec Tryz.prog 18 [ptr t.bt,g.val,x.val,.int .i64 an] I [] (wF I):=by
 have hx:=p.ab.n;have dy:=p.ab.ns d p.kG;have cY:=dy.kn;have n1:=dy.bg.cap.2;have gn:=p.gn;have cL:=p.h.ts;have o0:(cI g x s).s=s:=rfl;have og:(cI g x s).aW=0:=rfl;have cZ:=dy.k;have ll:=p.an;have iQ:((cI g x s).an (a6 g.ds+r)).d.k=d.k:=by rw[ll];rfl
 refine b4 [] aU Tryz.func18 rfl rfl rfl ?_;intro B ao;refine a0.whole _ (p.expr da) ?_;rintro v x7 M1 -⟨gH,rfl,bz,gf,eY,o,e,fL,rfl,mQ⟩;refine aJ.mk (λev=>⟨_,_,.refl,rfl,gH,rfl⟩) (λev=>?_);have ev:e≠40:=cx ev;have bC:=p.mono gH;have ha:=x2 (M0:=[]) bC.bM bC.ab bC.right bC.ai bC.ek;rw[bC.ag]at ha;refine a0.whole _ ha ?_;rintro v nx ey -⟨rfl,rfl,rfl⟩;have fc:=x6 (M0:=[]) bC.bM bC.ab bC.right (by have:=bC.hx;omega) bC.ai;rw[ij bC.ek,bC.ag]at fc;refine a0.whole _ fc ?_;rintro v iG kq -⟨e7,rfl,eK,gT,ru,L,rfl,k2,zw,ej⟩;have h':=bC.mono e7;have fQ:∀ b o,I b=some o->iG b=some o:=λb o h=>e7 _ _ (gH _ _ h);have oi:=mQ.mono e7;have x3:L.length=gT:=by have:=k2.len;rw[fb _ 2 (λ_=>rfl)]at this;omega
 refine a0.whole _ (x4 h'.h.ok) ?_;rintro v sA kr -⟨rfl,rfl,rfl⟩;rw[cL];have tF:=fL.cW;refine aJ.mk (λh=>absurd (show d.k=0 from bS h) (by omega)) (λ_=>?_);refine aJ.mk (λh=>absurd (show d.k=1 from bS h) (by omega)) (λ_=>?_);refine aJ.mk (λh=>absurd (show d.k=2 from bS h) (by omega)) (λ_=>?_);refine aJ.mk (λh=>absurd (show d.k=3 from bS h) (by omega)) (λ_=>?_);refine aJ.mk (λh=>absurd (show d.k=4 from bS h) (by omega)) (λ_=>?_);refine aJ.mk (λh=>absurd (show d.k=5 from bS h) (by omega)) (λ_=>?_);refine aJ.mk (λh=>absurd (show d.k=6 from bS h) (by omega)) (λ_=>?_);have af:d.k≠3:=by omega
 have ep:=p.DB af;have tG:an<=(cI g x s).s.size:=o0.symm ▸ da
 have U:=p.one (.inr (by omega));have vd:0<((cI g x s).an (a6 g.ds+r)).bm.length:=by omega
 have ve:0<gT:=by omega
 obtain⟨x9,hW⟩:=p.cd.1.one (.inr (by rw[iQ];omega));have x':((cI g x s).an (a6 g.ds+r)).bm[0]=x9:=by simp only[hW];rfl
 have st:0<L.length:=by omega
 obtain⟨bb,hB⟩:=ej 0 st;obtain⟨ad,bP,bu⟩:=k2.row (f:=bN.cells) (λ_=>rfl) ve st;have fH:(d.hf []).k=7:=ae;refine bk.mk ad 0 bP rfl ve ?_;refine aK.mk _ (bu _) ?_;refine a0.whole _ (h'.DC (M0:=[]) af vd bb hB da) ?_;rintro v hl m9 -⟨fC,rfl,bJ,eV,dS,dq,f2,dZ,rfl,hn⟩;rw[x']at dZ;have nS:=dZ.cW;have jL:=rk hn;have iR:∀ b o,I b=some o->hl b=some o:=λb o h=>fC _ _ (fQ _ _ h);have Bl:=oi.mono fC;rcases aqA (iQ.trans ae) hW dZ fL with⟨rfl,rfl⟩ | ⟨rfl,rfl⟩ | ⟨rfl,rfl,bj,rfl⟩ | ⟨rfl,rfl,bj,rfl⟩
 ·refine aJ.mk (λ_=>?_) (λh=>by cases h);refine b2.mk (λ_=>?_) (λh=>absurd h (by simp[fH]));exact⟨_,_,.refl,rfl,iR,rfl⟩
 ·refine aJ.mk (λh=>by cases h) (λ_=>?_);refine aJ.mk (λ_=>?_) (λh=>by cases h);exact⟨_,_,.refl,rfl,iR,rfl⟩
 ·refine aJ.mk (λh=>by cases h) (λ_=>?_);refine aJ.mk (λh=>by cases h) (λ_=>?_);refine aJ.mk (λh=>absurd h (by simp[fH])) (λ_=>?_);refine a0.whole _ C8 ?_;rintro v oj lD -⟨rfl,rfl,rfl⟩;refine aJ.mk (λ_=>?_) (λh=>absurd h (by simp[fH,bj]));refine a0.whole _ (AW an) ?_;rintro v aqU KN -⟨rfl,rfl,rfl⟩;refine b2.mk (λ_=>?_) (λh=>by cases h);refine a0.whole _ (oh Bl ⟨rfl,⟨bY _,by omega⟩,.inl rfl⟩ (bw _)) ?_;rintro v JC JD -⟨rfl,rfl,rfl⟩;exact⟨_,_,.refl,rfl,iR,rfl⟩
 ·refine aJ.mk (λh=>by cases h) (λ_=>?_);refine aJ.mk (λh=>by cases h) (λ_=>?_);refine aJ.mk (λh=>absurd h (by simp[fH])) (λ_=>?_);refine a0.whole _ C8 ?_;rintro v oj lD -⟨rfl,rfl,rfl⟩;refine aJ.mk (λh=>absurd h (by simp[fH,bj])) (λ_=>?_);refine b2.mk (λ_=>?_) (λh=>by cases h);refine a0.whole _ (oh (o:=iv) Bl ⟨rfl,⟨bY _,by omega⟩,.inl rfl⟩ (bw _)) ?_;rintro v JC JD -⟨rfl,rfl,rfl⟩;exact⟨_,_,.refl,rfl,iR,rfl⟩
def aqV(p:hk I g s t T x r d)(da:an<=s.size)(ae:d.k=8):Spec Tryz.prog 18 [ptr t.bt,g.val,x.val,.int .i64 an] I [] (wF I):=by
 have hx:=p.ab.n;have dy:=p.ab.ns d p.kG;have cY:=dy.kn;have n1:=dy.bg.cap.2;have gn:=p.gn;have cL:=p.h.ts;have o0:(cI g x s).s=s:=rfl;have og:(cI g x s).aW=0:=rfl;have cZ:=dy.k;have ll:=p.an;have iQ:((cI g x s).an (a6 g.ds+r)).d.k=d.k:=by rw[ll];rfl
 refine b4 [] aU Tryz.func18 rfl rfl rfl ?_;intro B ao;refine a0.whole _ (p.expr da) ?_;rintro v x7 M1 -⟨gH,rfl,bz,gf,eY,o,e,fL,rfl,mQ⟩;refine aJ.mk (λev=>⟨_,_,.refl,rfl,gH,rfl⟩) (λev=>?_);have ev:e≠40:=cx ev;have bC:=p.mono gH;have ha:=x2 (M0:=[]) bC.bM bC.ab bC.right bC.ai bC.ek;rw[bC.ag]at ha;refine a0.whole _ ha ?_;rintro v nx ey -⟨rfl,rfl,rfl⟩;have fc:=x6 (M0:=[]) bC.bM bC.ab bC.right (by have:=bC.hx;omega) bC.ai;rw[ij bC.ek,bC.ag]at fc;refine a0.whole _ fc ?_;rintro v iG kq -⟨e7,rfl,eK,gT,ru,L,rfl,k2,zw,ej⟩;have h':=bC.mono e7;have fQ:∀ b o,I b=some o->iG b=some o:=λb o h=>e7 _ _ (gH _ _ h);have oi:=mQ.mono e7;have x3:L.length=gT:=by have:=k2.len;rw[fb _ 2 (λ_=>rfl)]at this;omega
 refine a0.whole _ (x4 h'.h.ok) ?_;rintro v sA kr -⟨rfl,rfl,rfl⟩;rw[cL];have tF:=fL.cW;refine aJ.mk (λh=>absurd (show d.k=0 from bS h) (by omega)) (λ_=>?_);refine aJ.mk (λh=>absurd (show d.k=1 from bS h) (by omega)) (λ_=>?_);refine aJ.mk (λh=>absurd (show d.k=2 from bS h) (by omega)) (λ_=>?_);refine aJ.mk (λh=>absurd (show d.k=3 from bS h) (by omega)) (λ_=>?_);refine aJ.mk (λh=>absurd (show d.k=4 from bS h) (by omega)) (λ_=>?_);refine aJ.mk (λh=>absurd (show d.k=5 from bS h) (by omega)) (λ_=>?_);refine aJ.mk (λh=>absurd (show d.k=6 from bS h) (by omega)) (λ_=>?_);have af:d.k≠3:=by omega
 have ep:=p.DB af;have tG:an<=(cI g x s).s.size:=o0.symm ▸ da
 have U:=p.one (.inr (by omega));have vd:0<((cI g x s).an (a6 g.ds+r)).bm.length:=by omega
 have ve:0<gT:=by omega
 obtain⟨x9,hW⟩:=p.cd.1.one (.inr (by rw[iQ];omega));have x':((cI g x s).an (a6 g.ds+r)).bm[0]=x9:=by simp only[hW];rfl
 have st:0<L.length:=by omega
 obtain⟨bb,hB⟩:=ej 0 st;obtain⟨ad,bP,bu⟩:=k2.row (f:=bN.cells) (λ_=>rfl) ve st;have fH:(d.hf []).k=8:=ae;refine bk.mk ad 0 bP rfl ve ?_;refine aK.mk _ (bu _) ?_;refine a0.whole _ (h'.DC (M0:=[]) af vd bb hB da) ?_;rintro v hl m9 -⟨fC,rfl,bJ,eV,dS,dq,f2,dZ,rfl,hn⟩;rw[x']at dZ;have nS:=dZ.cW;have jL:=rk hn;have iR:∀ b o,I b=some o->hl b=some o:=λb o h=>fC _ _ (fQ _ _ h);have Bl:=oi.mono fC;rcases aqC (iQ.trans ae) hW dZ fL with⟨rfl,rfl⟩ | ⟨rfl,rfl⟩ | ⟨rfl,rfl,bj,rfl⟩ | ⟨rfl,rfl,bj,rfl⟩
 ·refine aJ.mk (λ_=>?_) (λh=>by cases h);refine b2.mk (λ_=>?_) (λh=>absurd h (by simp[fH]));exact⟨_,_,.refl,rfl,iR,rfl⟩
 ·refine aJ.mk (λh=>by cases h) (λ_=>?_);refine aJ.mk (λ_=>?_) (λh=>by cases h);exact⟨_,_,.refl,rfl,iR,rfl⟩
 ·refine aJ.mk (λh=>by cases h) (λ_=>?_);refine aJ.mk (λh=>by cases h) (λ_=>?_);refine aJ.mk (λh=>absurd h (by simp[fH])) (λ_=>?_);refine a0.whole _ C8 ?_;rintro v oj lD -⟨rfl,rfl,rfl⟩;refine aJ.mk (λh=>absurd h (by simp[fH,bj])) (λ_=>?_);refine b2.mk (λ_=>?_) (λh=>by cases h);refine a0.whole _ (oh (o:=iv) Bl ⟨rfl,⟨bY _,by omega⟩,.inl rfl⟩ (bw _)) ?_;rintro v JC JD -⟨rfl,rfl,rfl⟩;exact⟨_,_,.refl,rfl,iR,rfl⟩
 ·refine aJ.mk (λh=>by cases h) (λ_=>?_);refine aJ.mk (λh=>by cases h) (λ_=>?_);refine aJ.mk (λh=>absurd h (by simp[fH])) (λ_=>?_);refine a0.whole _ C8 ?_;rintro v oj lD -⟨rfl,rfl,rfl⟩;refine aJ.mk (λ_=>?_) (λh=>absurd h (by simp[fH,bj]));refine a0.whole _ (AW an) ?_;rintro v aqU KN -⟨rfl,rfl,rfl⟩;refine b2.mk (λ_=>?_) (λh=>by cases h);refine a0.whole _ (oh Bl ⟨rfl,⟨bY _,by omega⟩,.inl rfl⟩ (bw _)) ?_;rintro v JC JD -⟨rfl,rfl,rfl⟩;exact⟨_,_,.refl,rfl,iR,rfl⟩
def aqW(p:hk I g s t T x r d)(da:an<=s.size)(ae:d.k=9):Spec Tryz.prog 18 [ptr t.bt,g.val,x.val,.int .i64 an] I [] (wF I):=by
 have hx:=p.ab.n;have dy:=p.ab.ns d p.kG;have cY:=dy.kn;have n1:=dy.bg.cap.2;have gn:=p.gn;have cL:=p.h.ts;have o0:(cI g x s).s=s:=rfl;have og:(cI g x s).aW=0:=rfl;have cZ:=dy.k;have ll:=p.an;have iQ:((cI g x s).an (a6 g.ds+r)).d.k=d.k:=by rw[ll];rfl
 refine b4 [] aU Tryz.func18 rfl rfl rfl ?_;intro B ao;refine a0.whole _ (p.expr da) ?_;rintro v x7 M1 -⟨gH,rfl,bz,gf,eY,o,e,fL,rfl,mQ⟩;refine aJ.mk (λev=>⟨_,_,.refl,rfl,gH,rfl⟩) (λev=>?_);have ev:e≠40:=cx ev;have bC:=p.mono gH;have ha:=x2 (M0:=[]) bC.bM bC.ab bC.right bC.ai bC.ek;rw[bC.ag]at ha;refine a0.whole _ ha ?_;rintro v nx ey -⟨rfl,rfl,rfl⟩;have fc:=x6 (M0:=[]) bC.bM bC.ab bC.right (by have:=bC.hx;omega) bC.ai;rw[ij bC.ek,bC.ag]at fc;refine a0.whole _ fc ?_;rintro v iG kq -⟨e7,rfl,eK,gT,ru,L,rfl,k2,zw,ej⟩;have h':=bC.mono e7;have fQ:∀ b o,I b=some o->iG b=some o:=λb o h=>e7 _ _ (gH _ _ h);have oi:=mQ.mono e7;have x3:L.length=gT:=by have:=k2.len;rw[fb _ 2 (λ_=>rfl)]at this;omega
 refine a0.whole _ (x4 h'.h.ok) ?_;rintro v sA kr -⟨rfl,rfl,rfl⟩;rw[cL];have tF:=fL.cW;refine aJ.mk (λh=>absurd (show d.k=0 from bS h) (by omega)) (λ_=>?_);refine aJ.mk (λh=>absurd (show d.k=1 from bS h) (by omega)) (λ_=>?_);refine aJ.mk (λh=>absurd (show d.k=2 from bS h) (by omega)) (λ_=>?_);refine aJ.mk (λh=>absurd (show d.k=3 from bS h) (by omega)) (λ_=>?_);refine aJ.mk (λh=>absurd (show d.k=4 from bS h) (by omega)) (λ_=>?_);refine aJ.mk (λh=>absurd (show d.k=5 from bS h) (by omega)) (λ_=>?_);refine aJ.mk (λh=>absurd (show d.k=6 from bS h) (by omega)) (λ_=>?_);have af:d.k≠3:=by omega
 have ep:=p.DB af;have tG:an<=(cI g x s).s.size:=o0.symm ▸ da
 have U:=p.one (.inr (by omega));have vd:0<((cI g x s).an (a6 g.ds+r)).bm.length:=by omega
 have ve:0<gT:=by omega
 obtain⟨x9,hW⟩:=p.cd.1.one (.inr (by rw[iQ];omega));have x':((cI g x s).an (a6 g.ds+r)).bm[0]=x9:=by simp only[hW];rfl
 have st:0<L.length:=by omega
 obtain⟨bb,hB⟩:=ej 0 st;obtain⟨ad,bP,bu⟩:=k2.row (f:=bN.cells) (λ_=>rfl) ve st;have fH:(d.hf []).k=9:=ae;refine bk.mk ad 0 bP rfl ve ?_;refine aK.mk _ (bu _) ?_;refine a0.whole _ (h'.DC (M0:=[]) af vd bb hB da) ?_;rintro v hl m9 -⟨fC,rfl,bJ,eV,dS,dq,f2,dZ,rfl,hn⟩;rw[x']at dZ;have nS:=dZ.cW;have jL:=rk hn;have iR:∀ b o,I b=some o->hl b=some o:=λb o h=>fC _ _ (fQ _ _ h);have Bl:=oi.mono fC;rcases aqE og tG (iQ.trans ae) hW dZ fL ev with rfl | ⟨rfl,rfl⟩ | ⟨rfl,bj,eh⟩ | ⟨rfl,bj,eh,rfl,au⟩ | ⟨rfl,bj,rfl,au⟩
 ·refine aJ.mk (λ_=>?_) (λh=>by cases h);refine b2.mk (λh=>absurd h (by simp[fH])) (λ_=>?_);exact⟨_,_,.refl,rfl,iR,rfl⟩
 ·refine aJ.mk (λh=>by cases h) (λ_=>?_);refine aJ.mk (λ_=>?_) (λh=>by cases h);exact⟨_,_,.refl,rfl,iR,rfl⟩
 ·refine aJ.mk (λh=>by cases h) (λ_=>?_);refine aJ.mk (λh=>by cases h) (λ_=>?_);refine aJ.mk (λ_=>?_) (λh=>absurd h (by simp[fH]));refine c4.draw aU rfl rfl rfl ?_;refine b2.mk (λh=>absurd (cx h) (by omega)) (λ_=>?_);exact⟨_,_,.refl,rfl,iR,rfl⟩
 ·refine aJ.mk (λh=>by cases h) (λ_=>?_);refine aJ.mk (λh=>by cases h) (λ_=>?_);refine aJ.mk (λ_=>?_) (λh=>absurd h (by simp[fH]));refine c4.draw aU rfl rfl rfl ?_;have T2:va d.t an dq=o:=by unfold va;rw[bj,au,ll];rfl
  refine b2.mk (λ_=>?_) (λh=>absurd (bS h) (by omega));refine b2.mk (λ_=>?_) (λh=>by cases h);have ig:Spec Tryz.prog 68 [.string d.t,.int .i64 an,jd dq (.slice bJ eV dS)] hl [] λv J M'=>(∀ b o,hl b=some o->J b=some o)/\M'=[]/\∃ (o':gC) (a':Option Addr) (n c:Nat),o'=va d.t an dq/\v=jd o' (.slice a' n c)/\dA J a' n c 3 0 (o'.cW.flatMap dF.cells):=by refine Spec.lj (adu (M0:=[]) (nm:=d.t) (an:=an) hn (by omega)) ?_;rintro v J M⟨nl,sp,a',n,c,tp,IG⟩;exact⟨nl,sp,_,a',n,c,rfl,tp,IG⟩
  refine g7.whole _ ig (λv I' M' h x ab=>by cases ab) ?_;rintro v oj lD -⟨sB,rfl,o',dN,tD,ux,lX,rfl,vc⟩;have lX:o'=o:=lX.trans T2;subst lX;refine a0.whole _ (oh (M0:=[]) (Bl.mono sB) vc (by omega)) ?_;rintro v JC JD -⟨rfl,rfl,rfl⟩;exact⟨_,_,.refl,rfl,λb o h=>sB _ _ (iR _ _ h),rfl⟩
 ·refine aJ.mk (λh=>by cases h) (λ_=>?_);refine aJ.mk (λh=>by cases h) (λ_=>?_);refine aJ.mk (λ_=>?_) (λh=>absurd h (by simp[fH]));refine c4.draw aU rfl rfl rfl ?_;have T2:va d.t an dq=o:=by unfold va;rw[bj,au];rfl
  refine b2.mk (λ_=>?_) (λh=>absurd (bS h) (by rw[dZ.no bj]at jL;have jL:0=eV:=jL;omega));refine b2.mk (λ_=>?_) (λh=>by cases h);have ig:Spec Tryz.prog 68 [.string d.t,.int .i64 an,jd dq (.slice bJ eV dS)] hl [] λv J M'=>(∀ b o,hl b=some o->J b=some o)/\M'=[]/\∃ (o':gC) (a':Option Addr) (n c:Nat),o'=va d.t an dq/\v=jd o' (.slice a' n c)/\dA J a' n c 3 0 (o'.cW.flatMap dF.cells):=by refine Spec.lj (adu (M0:=[]) (nm:=d.t) (an:=an) hn (by omega)) ?_;rintro v J M⟨nl,sp,a',n,c,tp,IG⟩;exact⟨nl,sp,_,a',n,c,rfl,tp,IG⟩
  refine g7.whole _ ig (λv I' M' h x ab=>by cases ab) ?_;rintro v oj lD -⟨sB,rfl,o',dN,tD,ux,lX,rfl,vc⟩;have lX:o'=o:=lX.trans T2;subst lX;refine a0.whole _ (oh (M0:=[]) (Bl.mono sB) vc (by omega)) ?_;rintro v JC JD -⟨rfl,rfl,rfl⟩;exact⟨_,_,.refl,rfl,λb o h=>sB _ _ (iR _ _ h),rfl⟩
end
section
end
structure tH(s:ByteArray)(x:aY×ck)(a:Nat)(c:cr):Prop where
 z:c.aB=3->c.to=a->x.1.z=true/\x.2.f=true
 s:c.aB=3->c.to≠a->x.1.s=true/\∃ h:a<s.data.size,x.2.w.has s.data[a].toNat=true
 f:c.aB=2->x.1.f=true
def tH.zero{s:ByteArray}{x:aY×ck}{a:Nat}{c:cr}(h:c.aB=0):tH s x a c:=⟨λe=>by omega,λe=>by omega,λe=>by omega⟩
def tH.lg{x:aY×ck}{a:Nat}(h:tH s x a c)(af:c.aB=3):x.1.lg=true:=by
 unfold aY.lg;by_cases e:c.to=a
 ·rw[(h.z af e).1];rfl
 ·rw[(h.s af e).1,I1]
def vf(s:ByteArray)(a:Nat)(w:cB):Prop:=∃ h:a<s.data.size,w.has s.data[a].toNat=true
def vf.adH{a:Nat}(h:vf s a w)(v:cB):vf s a (w.or v):=by obtain⟨U,aa⟩:=h;exact⟨U,by rw[cB.aa1,aa,KZ]⟩
def vf.adI{a:Nat}(h:vf s a w)(v:cB):vf s a (v.or w):=by obtain⟨U,aa⟩:=h;exact⟨U,by rw[cB.aa1,aa,I1]⟩
structure adJ(s:ByteArray)(a b:Nat)(p:aY×Bool)(w:ck):Prop where
 le:a<=b
 iq:p.2=true
 z:b=a->p.1.z=true/\w.f=true
 s:b≠a->p.1.s=true/\vf s a w.w
def aqX(h:p.1.s=true)(k:aY):(l8 p k).1.s=true:=by unfold l8;simp[h]
def aqY(h:p.1.f=true)(k:aY):(l8 p k).1.f=true:=by unfold l8;simp[h]
def adK{p:aY×Bool}:∀ (ks:List aY),p.1.f=true->(ks.foldl l8 p).1.f=true
 |[],h=>h| k::ks,h=>adK (p:=l8 p k) ks (aqY h k)
def adL{s:ByteArray}{m:Nat->Nat->cr}(aA:At m){a:Nat}:∀ (L:List (Nat×(aY×ck))) (b n:Nat) (p:aY×Bool) (w:ck),(∀ x∈L,∀ b,tH s x.2 b (m x.1 b))->adJ s a b p w -> ((gE m (L.map (·.1)) b n).aB=3->adJ s a (gE m (L.map (·.1)) b n).to ((L.map (·.2.1)).foldl l8 p) ((L.map (·.2.2)).foldl ck.seq w)) /\ ((gE m (L.map (·.1)) b n).aB=2->((L.map (·.2.1)).foldl l8 p).1.f=true)
 |[],b,n,p,w,_,h=>⟨λ_=>h,λe=>(by cases e)⟩
 |x::L,b,n,p,w,cT,h=>by
  have ab:=cT x (.head _) b;rw[dv,dv,dv,gE,pP,pP];cases af:Nat.beq (m x.1 b).aB 3 with
  |true=>
   have bo:(m x.1 b).aB=3:=cK af;have cm:=aA x.1 b bo;rw[bh];refine adL aA L _ _ _ _ (λy aH=>cT y (.tail _ aH)) ⟨jN h.le cm,?_,λe=>?_,λe=>?_⟩;·show(p.2&&x.2.1.lg)=true;rw[h.iq,ab.lg bo];rfl
   ·have ah:b=a:=by have:=h.le;omega
    obtain⟨U,aa⟩:=h.z ah;obtain⟨aP,bq⟩:=ab.z bo (by omega);refine⟨?_,?_⟩;·show(p.1.z&&x.2.1.z)=true;rw[U,aP];rfl
    ·unfold ck.seq;rw[aa,bh];exact bq
   ·by_cases ah:b=a
    ·obtain⟨U,aa⟩:=h.z ah;obtain⟨aP,bq⟩:=ab.s bo (by omega);refine⟨?_,?_⟩
     ·show(p.1.s||x.2.1.s)=true;rw[aP,I1]
     ·unfold ck.seq;rw[aa,bh];have bj:vf s b x.2.2.w:=bq;rw[ah]at bj;exact bj.adI _
    ·obtain⟨U,aa⟩:=h.s ah;refine⟨aqX U _,?_⟩;unfold ck.seq;cases w.f with
     |true=>exact aa.adH _| false=>exact aa
  |false=>
   rw[bf];have Eu:(m x.1 b).aB≠3:=λe=>by rw[e]at af;cases af
   refine⟨λe=>absurd e Eu,λe=>adK _ ?_⟩;show(p.1.f||(p.2&&x.2.1.f))=true;rw[h.iq,ab.f e,p4,I1]
structure yb(s:ByteArray)(a:Nat)(c:cr)(x:aY)(w:ck):Prop where
 z:c.aB=3->c.to=a->x.z=true/\w.f=true
 s:c.aB=3->c.to≠a->x.s=true/\vf s a w.w
def yb.step{a:Nat}{x:aY}{w:ck}(h:yb s a c x w)(k:aY)(v:ck):yb s a c (nZ x k) (w.choice v):=by
 refine⟨λaf e=>?_,λaf e=>?_⟩
 ·obtain⟨U,aa⟩:=h.z af e;exact⟨by unfold nZ;simp[U],by unfold ck.choice;simp[aa]⟩
 ·obtain⟨U,aa⟩:=h.s af e;exact⟨by unfold nZ;simp[U],aa.adH _⟩
def yb.fold{s:ByteArray}{a:Nat}{c:cr}:∀ (L:List (aY×ck)) {x:aY} {w:ck},yb s a c x w->yb s a c ((L.map (·.1)).foldl nZ x) ((L.map (·.2)).foldl ck.choice w)
 |[],x,w,h=>h| y::L,x,w,h=>yb.fold L (h.step y.1 y.2)
def adM{s:ByteArray}{m:Nat->Nat->cr}{a:Nat}:∀ (L:List (Nat×(aY×ck))) (x:aY) (w:ck),(∀ y∈L,tH s y.2 a (m y.1 a))->x.f=true -> yb s a (gL m (L.map (·.1)) a) ((L.map (·.2.1)).foldl nZ x) ((L.map (·.2.2)).foldl ck.choice w) /\ ((gL m (L.map (·.1)) a).aB=2->((L.map (·.2.1)).foldl nZ x).f=true)
 |[],x,w,_,aC=>⟨⟨λh=>(by cases h),λh=>(by cases h)⟩,λ_=>aC⟩
 |y::L,x,w,cT,aC=>by
  have aH:=cT y (.head _);rw[dv,dv,dv,gL,pP,pP];cases aa:Nat.beq (m y.1 a).aB 2 with
  |true=>rw[bh];refine adM L _ _ (λz a9=>cT z (.tail _ a9)) ?_;show(x.f&&y.2.1.f)=true;rw[aC,aH.f (cK aa)];rfl
  |false=>
   rw[bf];refine⟨?_,λe=>by rw[e]at aa;cases aa⟩;have U:yb s a (m y.1 a) (nZ x y.2.1) (w.choice y.2.2):=by
    refine⟨λaf e=>?_,λaf e=>?_⟩;·obtain⟨fa,e6⟩:=aH.z af e;exact⟨by unfold nZ;simp[aC,fa],by unfold ck.choice;simp[e6]⟩
    ·obtain⟨fa,e6⟩:=aH.s af e;have hC:vf s a y.2.2.w:=e6;exact⟨by unfold nZ;simp[aC,fa],hC.adI _⟩
   have:=yb.fold (L.map (·.2)) U;rwa [h7,h7]at this
structure aqZ(s:ByteArray)(a b i:Nat)(k:aY×ck):Prop where
 le:a<=b
 zero:i=0->b=a
 z:b=a->i≠0->k.1.z=true/\k.2.f=true
 s:b≠a->k.1.s=true/\vf s a k.2.w
def adN{s:ByteArray}{m:Nat->Nat->cr}(aA:At m){a q:Nat}{k:aY×ck}(ae:∀ b,tH s k b (m q b)){d:aM}(eH:d.k=6->0<=d.lo)(bj:d.k=6)(ao:d.hi≠0):∀ (j i b n:Nat),aqZ s a b i k->(d.hi≠-1->i+j≠0) -> tH s (oM d k.1,xO d k.2) a (e4 m q d.lo d.hi j i b n)
 |0,i,b,n,h,aj=>by
  rw[e4];cases he:decide (d.hi=-1)with
  |true=>exact .zero rfl
  |false=>
   rw[bf];have vd:i≠0:=by have:=aj (cx he);omega
   refine⟨λ_ e=>?_,λ_ e=>?_,λe=>(by cases e)⟩;·obtain⟨U,aa⟩:=h.z e vd;exact⟨by unfold oM;simp[ao,U],by unfold xO;simp[ao,aa]⟩
   ·obtain⟨U,aa⟩:=h.s e;exact⟨by unfold oM;simp[ao,U],by unfold xO;simp only[ao,LN,bf];exact aa⟩
 |j+1,i,b,n,h,aj=>by
  have ah:=ae b;rw[e4];cases aa:Nat.beq (m q b).aB 2 with
  |true=>
   have aC:=ah.f (cK aa);rw[bh];cases ap:decide ((i:Int)<d.lo)with
   |true=>
    have:(0:Int)<d.lo:=by have:=bS ap;omega
    refine⟨λe=>(by cases e),λe=>(by cases e),λ_=>by unfold oM;simp[ao,aC,this]⟩
   |false=>
    have nS:=cx ap;refine⟨λ_ e=>?_,λ_ e=>?_,λe=>(by cases e)⟩
    ·by_cases vd:i=0
     ·have a9:d.lo=0:=by have:=eH bj;omega
      exact⟨by unfold oM;simp[ao,a9,aC],by unfold xO;simp[ao,a9]⟩
     ·obtain⟨U,af⟩:=h.z e vd;exact⟨by unfold oM;simp[ao,U],by unfold xO;simp[ao,af]⟩
    ·obtain⟨U,af⟩:=h.s e;exact⟨by unfold oM;simp[ao,U],by unfold xO;simp only[ao,LN,bf];exact af⟩
  |false=>
   rw[bf];cases af:Nat.beq (m q b).aB 3 with
   |false=>exact .zero rfl
   |true=>
    have bo:=cK af;rw[bh];cases he:decide (d.hi=-1)&&decide ((m q b).to=b)with
    |true=>exact .zero rfl
    |false=>
     rw[bf];have cm:=aA q b bo;refine adN aA ae eH bj ao j (i+1) _ _ ⟨jN h.le cm,λe=>by omega,λe _=>?_,λe=>?_⟩ (λ_=>by omega)
     ·have CD:b=a:=by have:=h.le;omega
      exact ah.z bo (by omega)
     ·by_cases CD:b=a
      ·obtain⟨fa,e6⟩:=ah.s bo (by omega);have hC:vf s b k.2.w:=e6;rw[CD]at hC;exact⟨fa,hC⟩
      ·exact h.s CD
def aq0{n:Int}(h:fits d n=true)(aa:d.k=2):0<d.t.size:=by
 unfold fits at h;rw[aa]at h;simp only[show decide ((10:Int)<=2)=false from rfl,bf,show decide ((2:Int)=1)=false from rfl,show decide ((2:Int)=2)=true from rfl,bh]at h;cases U:(decide (n<uf (2:Int).toNat)||(decide (0<=p3 (2:Int).toNat)&&decide (p3 (2:Int).toNat<n)))with
 |true=>rw[U]at h;cases h
 |false=>
  rw[U,bf]at h;have af:decide (d.t=⟨#[]⟩)=false:=by
   cases aP:decide (d.t=⟨#[]⟩)with
   |false=>rfl| true=>rw[aP]at h;simp at h
  have bq:=cx af;rcases Nat.eq_zero_or_pos d.t.size with bj | bj
  ·exact absurd (by
    have eh:∀ u:ByteArray,u.size=0->u=⟨#[]⟩:=λu hu=>by obtain⟨⟨l⟩⟩:=u;have:l.length=0:=hu;rw[iT this]
    exact eh _ bj) bq
  ·exact bj
def Ny{x:Int}(h:gY x)(i:Nat)(hi:i<64):(BitVec.ofInt 64 x).getLsbD i=x.toNat.testBit i:=by obtain⟨w,rfl⟩:=al0 h;rw[IR,kH];rfl
def aq1(ao:gY d.eO)(U:gY d.s1)(aa:gY d.s2)(af:gY d.eU)(aw:n<256):d.ws.has n=lf d n:=by
 unfold cB.has lf;have hm:n%64<64:=Er _ (by decide);have ay:n/64=0\/n/64=1\/n/64=2\/n/64=3:=by omega
 rcases ay with e | e | e | e<;>rw[e]
 ·exact Ny ao _ hm
 ·exact Ny U _ hm
 ·exact Ny aa _ hm
 ·exact Ny af _ hm
def aq2{b:Nat}(h:lf d b=true):d.oD=false:=by
 cases a9:d.oD with
 |false=>rfl
 |true=>
  exfalso;unfold aM.oD at a9;simp only[cp,beq_iff_eq]at a9;obtain⟨aq3,nl,sp,tp⟩:=a9;unfold lf at h;rw[aq3,nl,sp,tp]at h;have:∀ j,([(0:Int),0,0,0].getD j 0).toNat=0:=λj=>by
   match j with
   |0=>rfl| 1=>rfl| 2=>rfl| 3=>rfl| j+4=>rfl
  rw[this]at h;simp at h
def aq4(aA:g.ok I)(hm:kS g)(ee:∀ d∈g.ds,tb (bE g.ds) d.t.ns=true)(bB:qY g.ds F)(hP:IW g.ds F W) :
  ∀ (n i j:Nat) (hi:i<g.ds.length) (aj:j<g.ds[i].t.ns.length) (a:Nat),tH s (tx (bE g.ds) F W g.ds[i].t.ns j) a (ff (db g s) n (fu g i j) a):=by
 intro n
 induction n with
 |zero=>intro i j hi aj a;exact .zero rfl
 |succ n a7=>
  intro i j hi aj a;have eE:=cC hi;have a4:=hm.r _ eE;have ag:=((aA.ds _ eE).t.ns _ (cC aj));have aC:=a4.fits j aj;have FO:=Mx ag.k.1 aC;have jR:=G5 aC;have da:=Mk s hi aj;have iY:=a4.ax j aj;rw[amb (j2.2 a4) aj];show tH s _ a (eC (db g s) (ff (db g s) n) (fu g i j) a);have cm:=EH (db g s) n;have jA:=gh.1 (ee _ eE) _ (cC aj);have xZ:∀ k∈g.ds[i].t.ns[j].ax,∃ q:Nat,k=q/\q<g.ds[i].t.ns.length:=λk ae=>by have:=iY k ae;exact⟨k.toNat,by omega,by omega⟩
  have lF:(db g s).s=s:=rfl;have aq5:=λq ay b=>a7 i q hi ay b;have adO:=aq0 aC;generalize dE:g.ds[i].t.ns[j]=y at *;have ae:∀ {x:Int},y.k=x->((db g s).an (fu g i j)).d.k=x:=λe=>by rw[da];exact e
  have has:y.k≠3->((db g s).an (fu g i j)).bm=y.ax.map λk=>fu g i k.toNat:=λe=>by rw[da];show eN _ _ _=_;rw[eN,c0 e,bf];rfl
  let L:List (Nat×(aY×ck)):=y.ax.map λk=>(fu g i k.toNat,tx (bE g.ds) F W g.ds[i].t.ns k)
  have T3:L.map (·.1)=y.ax.map λk=>fu g i k.toNat:=by simp only[L,h7];rfl
  have u7:L.map (·.2.1)=(y.ax.map (tx (bE g.ds) F W g.ds[i].t.ns)).map (·.1):=by simp only[L,h7];rfl
  have aq6:L.map (·.2.2)=(y.ax.map (tx (bE g.ds) F W g.ds[i].t.ns)).map (·.2):=by simp only[L,h7];rfl
  have Nz:∀ x∈L,∀ b,tH s x.2 b (ff (db g s) n x.1 b):=λx ab b=>by obtain⟨k,x5,rfl⟩:=dC.1 ab;obtain⟨q,rfl,ay⟩:=xZ k x5;exact aq5 q ay b
  have kh:6<=y.k->∃ x,L=[x]:=λbj=>by
   have U:=FO.one bj;have aa:L.length=1:=by simp only[L,cD];omega
   match L,aa with
   |[x],_=>exact⟨x,rfl⟩
  have DE:y.k≠3->tw (bE g.ds) F W y (y.ax.map (tx (bE g.ds) F W g.ds[i].t.ns))=(eF y (L.map (·.2.1)),lO y (eF y (L.map (·.2.1))) (L.map (·.2.2))):=λe=>by unfold tw;rw[c0 e,bf,bf,dX,dX,<-u7,<-aq6]
  have adP:∀ x,L=[x]->((db g s).an (fu g i j)).bm.getD 0 0=x.1\/y.k=3:=λx ab=>by
   by_cases e:y.k=3;·exact .inr e
   ·left
    rw[has e,<-T3,ab];rfl
  have gq:y.k=0\/y.k=1\/y.k=2\/y.k=3\/y.k=4\/y.k=5\/y.k=6\/y.k=7\/y.k=8\/y.k=9:=by have:=ag.k.1;have:=jR.k;omega
  rcases gq with e | e | e | e | e | e | e | e | e | e;·rw[DE (by omega),uH (ae e)];refine⟨λ_ _=>?_,λ_ h=>absurd rfl h,λh=>(by cases h)⟩;simp[eF,lO,e,aY.lg]
  ·rw[DE (by omega),uI (ae e),lF];have eG:∀ b,lf ((db g s).an (fu g i j)).d b=lf y b:=λb=>by rw[da];rfl
   cases ah:s.data[a]? with
   |none=>refine⟨λh=>(by cases h),λh=>(by cases h),λ_=>?_⟩;simp[eF,e]
   |some b=>
    obtain⟨aS,aq7⟩:=lS.1 ah;simp only[eG];cases bl:lf y b.toNat with
    |false=>refine⟨λh=>(by cases h),λh=>(by cases h),λ_=>?_⟩;simp[eF,e]
    |true=>
     refine⟨λ_ h=>?_,λ_ _=>⟨?_,aS,?_⟩,λh=>(by cases h)⟩;·have:a+1=a:=h;omega
     ·simp[eF,e,aq2 bl]
     ·rw[aq7];have aP:(lO y (eF y (L.map (·.2.1))) (L.map (·.2.2)))=⟨y.ws,false⟩:=by simp[lO,e]
      rw[aP];show y.ws.has b.toNat=true;rw[aq1 ag.eO ag.s1 ag.s2 ag.eU b.toNat_lt,bl]
  ·rw[DE (by omega),uJ (ae e),lF];have av:((db g s).an (fu g i j)).d.t=y.t:=by rw[da];rfl
   rw[av];have ao:=adO e;cases aD:preB s y.t a with
   |false=>refine⟨λh=>(by cases h),λh=>(by cases h),λ_=>?_⟩;simp[eF,e]
   |true=>
    refine⟨λ_ h=>?_,λ_ _=>⟨?_,?_⟩,λh=>(by cases h)⟩;·have:a+y.t.size=a:=h;omega
    ·simp[eF,e]
    ·unfold preB at aD;rw[cp]at aD;have U:a+y.t.size<=s.size:=bS aD.1;have aa:s.extract a (a+y.t.size)=y.t:=bS aD.2;have aS:a<s.data.size:=by have:s.size=s.data.size:=rfl;omega
     refine⟨aS,?_⟩;have aP:(lO y (eF y (L.map (·.2.1))) (L.map (·.2.2)))=MB y.t:=by simp[lO,e]
     rw[aP,aoK ao];have bq:y.t[0]=s.data[a]:=by
      have bj:∀ (u:ByteArray) (hu:u=y.t) (h:0<u.size),u[0]=y.t[0]:=λu hu h=>by subst hu;rfl
      rw[<-bj _ aa (by rw[aa];exact ao)];rw[ByteArray.getElem_extract];simp;rfl
     rw[bq];show(IV s.data[a]).has _=true;rw[al9 _ (UInt8.toNat_lt _),fr rfl]
  ·
   rw[uK (ae e)];have af:(eB y.t (bE g.ds)).isSome=true:=by simpa[e]using jA
   obtain⟨q,yW,jH,Dv⟩:=M7 af;have adQ:=hm.r _ (cC jH);obtain⟨r,ai⟩:=g' adQ.bF.1;have ek:r<g.ds[q].t.ns.length:=by have:=adQ.bF.2;omega
   have Fk:((db g s).an (fu g i j)).bm.getD 0 0=fu g q r:=by rw[da];show(eN _ _ _).getD 0 0=_;rw[eN,fr e,bh,yW,<-RS jH ai];rfl
   rw[Fk];have U:=a7 q r jH ek a;rw[aa5]at U;have aq8:=bB.fix q jH;have aq9:=hP.fix q jH;have fc:y.ax=[]:=iT (by have:=FO.leaf (by omega);omega);have bq:tw (bE g.ds) F W y (y.ax.map (tx (bE g.ds) F W g.ds[i].t.ns))=(F.getD q b8,W.getD q jx):=by unfold tw;rw[fr e,bh,bh,fc,Dv];simp[eF,lO,e]
   rw[bq,aq8];have hL:W.getD q jx=(wq (bE g.ds) W (eg (bE g.ds) F g.ds[q].t.ns []) g.ds[q].t.ns []).getD (r:Int).toNat jx:=by refine Eq.trans aq9 ?_;unfold A1;rw[eR jH];show(wq _ _ _ _ _).getD g.ds[q].t.bF.toNat jx=_;rw[ai]
   rw[hL];unfold n2;rw[ai];exact U
  ·rw[DE (by omega),uL (ae e),has (by omega),<-T3];have U:=adL cm (a:=a) L a 0 (⟨true,false,false⟩,true) My Nz ⟨bY _,rfl,λ_=>⟨rfl,rfl⟩,λh=>absurd rfl h⟩;have az:eF y (L.map (·.2.1))=Ey (L.map (·.2.1)):=by simp[eF,e]
   have aF:lO y (eF y (L.map (·.2.1))) (L.map (·.2.2))=aaX (L.map (·.2.2)):=by simp[lO,e]
   rw[aF,az];refine⟨λaf h=>(U.1 af).z h,λaf h=>?_,λaa=>U.2 aa⟩;obtain⟨fa,e6⟩:=(U.1 af).s h;refine⟨?_,e6⟩;show((qX _).1.s&&(qX _).2)=true;unfold qX;rw[fa,(U.1 af).iq];rfl
  ·rw[DE (by omega),uM (ae e),has (by omega),<-T3];have U:=adM (s:=s) (m:=ff (db g s) n) (a:=a) L ⟨false,false,true⟩ jx (λx ab=>Nz x ab a) rfl;have az:eF y (L.map (·.2.1))=Hw (L.map (·.2.1)):=by simp[eF,e]
   have aF:lO y (eF y (L.map (·.2.1))) (L.map (·.2.2))=aaY (L.map (·.2.2)):=by simp[lO,e]
   rw[aF,az];exact⟨U.1.z,U.1.s,U.2⟩
  ·obtain⟨x,ab⟩:=kh (by omega);have hW:=(adP x ab).resolve_right (by omega);have e1:((db g s).an (fu g i j)).d.hi=y.hi:=by rw[da];rfl
   have eH:((db g s).an (fu g i j)).d.lo=y.lo:=by rw[da];rfl
   have ara:=jR.oG e;rw[DE (by omega),sb (ae e),hW,e1,eH,ab];have az:eF y ([x].map (·.2.1))=oM y x.2.1:=by simp[eF,e]
   have aF:lO y (eF y ([x].map (·.2.1))) ([x].map (·.2.2))=xO y x.2.2:=by simp[lO,e]
   rw[aF,az];have eG:y.hi≠-1->pw (db g s) ((db g s).an (fu g i j)).d a=y.hi.toNat:=λh=>by unfold pw;rw[e1,c0 h];rfl
   by_cases ao:y.hi=0;·rw[eG (by omega),ao];refine⟨λ_ _=>?_,λ_ h=>absurd rfl h,λh=>(by cases h)⟩;simp[oM,xO,ao,My]
   ·refine adN cm (k:=x.2) (λb=>Nz x (by rw[ab];exact .head _) b) (λ_=>ara.1) e ao _ 0 a 0 ⟨bY _,λ_=>rfl,λ_ h=>absurd rfl h,λh=>absurd rfl h⟩ λh=>?_;rw[eG h];omega
  all_goals
   obtain⟨x,ab⟩:=kh (by omega);have hW:=(adP x ab).resolve_right (by omega);have xB:=Nz x (by rw[ab];exact .head _) a;rw[DE (by omega),ab]
  ·rw[uN (ae e),hW];cases af:Nat.beq (ff (db g s) n x.1 a).aB 3 with
   |true=>have T4:=xB.lg (cK af);refine⟨λ_ _=>?_,λ_ h=>absurd rfl h,λh=>(by cases h)⟩;simp[eF,lO,e,T4];simp[aY.lg]
   |false=>
    refine⟨λh=>?_,λh=>?_,λh=>?_⟩;·rw[show(ff (db g s) n x.1 a).aB=3 from h]at af;cases af
    ·rw[show(ff (db g s) n x.1 a).aB=3 from h]at af;cases af
    ·have:=xB.f h;simp[eF,e,this]
  ·rw[uO (ae e),hW];cases aa:Nat.beq (ff (db g s) n x.1 a).aB 2 with
   |true=>have ld:=xB.f (cK aa);refine⟨λ_ _=>?_,λ_ h=>absurd rfl h,λh=>(by cases h)⟩;simp[eF,lO,e,ld];simp[aY.lg]
   |false=>
    cases af:Nat.beq (ff (db g s) n x.1 a).aB 3 with
    |true=>have T4:=xB.lg (cK af);refine⟨λh=>(by cases h),λh=>(by cases h),λ_=>?_⟩;simp[eF,e,T4]| false=>exact .zero rfl
  ·have fI:eC (db g s) (ff (db g s) n) (fu g i j) a=bif Nat.beq (ff (db g s) n x.1 a).aB 3 then⟨gg (ff (db g s) n x.1 a).n 1,(ff (db g s) n x.1 a).to,3⟩else ff (db g s) n x.1 a:=by have B9:=ae e;rw[uP (by omega) (by omega) (by omega) (by omega) (by omega) (by omega) (by omega) (by omega) (by omega),hW]
   rw[fI];have az:eF y ([x].map (·.2.1))=x.2.1:=by simp[eF,e]
   have aF:lO y (eF y ([x].map (·.2.1))) ([x].map (·.2.2))=x.2.2:=by simp[lO,e]
   rw[aF,az];cases af:Nat.beq (ff (db g s) n x.1 a).aB 3 with
   |true=>have bo:=cK af;exact⟨λ_ h=>xB.z bo h,λ_ h=>xB.s bo h,λh=>(by cases h)⟩| false=>exact xB
def arb(aA:g.ok I)(hm:kS g)(ee:∀ d∈g.ds,tb (bE g.ds) d.t.ns=true)(bB:qY g.ds F)(hP:IW g.ds F W)(i j:Nat)(hi:i<g.ds.length)(aj:j<g.ds[i].t.ns.length)(a:Nat) :
  tH s (tx (bE g.ds) F W g.ds[i].t.ns j) a (br (db g s) (fu g i j) a):=by
 by_cases ag:ef (br (db g s) (fu g i j) a)
 ·obtain⟨n,aw⟩:=px ag;rw[<-aw];exact aq4 aA hm ee bB hP n i j hi aj a
 ·exact .zero (by rw[(sd (db g s) (fu g i j) a).zero ag];rfl)
def adR{ds:List bI}{F:List aY}:∀ (k:Nat) {l:List ck},al6 ds F l->A0 l<=k->∃ W,IW ds F W
 |k,l,h,ae=>by
  obtain⟨U,aa,-⟩:=Se (λh i _=>aa0 h i) ds.length 0 (dz _) h;by_cases e:zk (A1 (bE ds) F ds) 0 ds.length l=l;·exact⟨l,u5.done (λh i _=>aa0 h i) h e⟩
  ·have:=al2 aa e
   match k,ae with
   |0,ae=>omega| k+1,ae=>exact adR k U (by omega)
def arc(ds:List bI)(F:List aY):∃ W,IW ds F W:=adR _ (u5.start (O:=mN) ds.length (A1 (bE ds) F ds)) (bY _)
section
variable{z a:Nat}{m:Nat->Nat->cr}
def T5(m:Nat->Nat->cr)(a:Nat):List Nat->Prop
 |[]=>True| q::L=>ef (m q a)/\((m q a).aB=3->(m q a).to=a->T5 m a L)
def adS(hm:∀ q b,jJ z b (m q b)):∀ (L:List Nat) (b n:Nat),a<=b->b<=z->(∀ q∈L,∀ hJ,a<hJ->hJ<=z->ef (m q hJ))->(b=a->T5 m a L)->ef (gE m L b n)
 |[],b,n,_,_,_,_=>.inr rfl
 |q::L,b,n,iM,Bm,cT,fv=>by
  have ag:ef (m q b):=by
   by_cases e:b=a;·rw[e];exact(fv e).1
   ·exact cT q (.head _) b (by omega) Bm
  rw[gE];cases af:Nat.beq (m q b).aB 3 with
  |true=>
   have bo:=cK af;obtain⟨aV,a3,-⟩:=(hm q b).ge bo;rw[bh];refine adS hm L _ _ (by omega) (a3 Bm) (λy aH=>cT y (.tail _ aH)) λe=>?_;have ah:b=a:=by omega
   subst ah;exact(fv rfl).2 bo e
  |false=>
   rw[bf];rcases ag with h | h;·exact .inl h
   ·rw[h]at af;cases af
def adT:∀ (L:List Nat),(∀ q∈L,ef (m q a))->ef (gL m L a)
 |[],_=>.inl rfl
 |q::L,h=>by
  rw[gL];cases Nat.beq (m q a).aB 2 with
  |true=>exact adT L λy aH=>h y (.tail _ aH)
  |false=>exact h q (.head _)
def adU(hm:∀ q b,jJ z b (m q b)){q:Nat}{lo hi:Int}(ae:∀ b,a<=b->b<=z->ef (m q b))(a9:hi=-1->∀ b,a<=b->b<=z->(m q b).aB=3->(m q b).to≠b) : ∀ (j i b n:Nat),a<=b->b<=z->(hi=-1->z+1<=j+b)->ef (e4 m q lo hi j i b n)
 |0,i,b,n,iM,Bm,aj=>by
  rw[e4];cases he:decide (hi=-1)with
  |true=>have:=aj (bS he);omega| false=>exact .inr rfl
 |j+1,i,b,n,iM,Bm,aj=>by
  rw[e4];cases aa:Nat.beq (m q b).aB 2 with
  |true=>
   rw[bh];cases decide ((i:Int)<lo);·exact .inr rfl
   ·exact .inl rfl
  |false=>
   have bo:(m q b).aB=3:=by
    rcases ae b iM Bm with h | h;·rw[h]at aa;cases aa
    ·exact h
   obtain⟨aV,a3,-⟩:=(hm q b).ge bo;rw[bo];have ee:(decide (hi=-1)&&decide ((m q b).to=b))=false:=by
    by_cases e:hi=-1;·rw[c0 (a9 e b iM Bm bo),P2]
    ·rw[c0 e,w8]
   show ef (bif (decide (hi=-1)&&decide ((m q b).to=b))then l6 else e4 m q lo hi j (i+1) (m q b).to (gg n (m q b).n));rw[ee,bf];refine adU hm ae a9 j (i+1) _ _ (by omega) (a3 Bm) λe=>?_;have:=aj e;have:=a9 e b iM Bm bo;omega
end
def adV{x:aY×List Nat}{xs:List (aY×List Nat)}(h:q∈x.2\/(x.1.z=true/\q∈tE xs)):q∈tE (x::xs):=by
 rw[tE,dV];rcases h with h | ⟨U,aa⟩
 ·exact .inl h
 ·rw[U];exact .inr aa
section
variable{I:aR}{g:dn}{s:ByteArray}{F:List aY}{W:List ck}
def adW(aA:g.ok I)(hm:kS g)(ee:∀ d∈g.ds,tb (bE g.ds) d.t.ns=true)(bB:qY g.ds F)(hP:IW g.ds F W)(he:∀ i (h:i<g.ds.length),(rp (bE g.ds) F g.ds[i].t.ns g.ds[i].t.bF).2=false){a:Nat}(aE:a<=s.size)(ah:∀ b,a<b->b<=s.size->∀ i j (hi:i<g.ds.length),j<g.ds[i].t.ns.length->ef (br (db g s) (fu g i j) b)){i:Nat}(hi:i<g.ds.length) : ∀ (n j:Nat),j<n->(aj:j<g.ds[i].t.ns.length)->(∀ q∈(gG (bE g.ds) F g.ds[i].t.ns j).2,ef (br (db g s) (j3 g q) a))->ef (br (db g s) (fu g i j) a)
 |0,j,h,_,_=>absurd h (xD _)
 |n+1,j,pt,aj,ap=>by
  have a7:=adW aA hm ee bB hP he aE ah hi n;have eE:=cC hi;have a4:=hm.r _ eE;have ag:=((aA.ds _ eE).t.ns _ (cC aj));have aC:=a4.fits j aj;have FO:=Mx ag.k.1 aC;have jR:=G5 aC;have da:=Mk s hi aj;have iY:=a4.ax j aj;have g0:=sd (db g s);have ard:∀ k∈g.ds[i].t.ns[j].ax,g.ds[i].t.ns[j].k=6->g.ds[i].t.ns[j].hi=-1->((eg (bE g.ds) F g.ds[i].t.ns []).getD k.toNat b8).z=false:=λk ae bj bl=>by
   cases a9:((eg (bE g.ds) F g.ds[i].t.ns []).getD k.toNat b8).z with
   |false=>rfl| true=>have U:=(Nd (pl:=bE g.ds) (F:=F) (j2.2 a4) aj).2 ⟨k,ae,.inl ⟨bj,bl,rfl,a9⟩⟩;have aa:=Tn (j2.2 a4) _ j aj (bY _) U;rw[he i hi]at aa;cases aa
  have adX:∀ (q:Nat),q<g.ds[i].t.ns.length->∀ b,tH s (tx (bE g.ds) F W g.ds[i].t.ns q) b (br (db g s) (fu g i q) b):=λq ay b=>arb aA hm ee bB hP i q hi ay b;have adY:∀ (q:Nat),(tx (bE g.ds) F W g.ds[i].t.ns q).1=(gG (bE g.ds) F g.ds[i].t.ns q).1:=λq=>by rw[aa5,M2]
  have jA:=gh.1 (ee _ eE) _ (cC aj);have adZ:=λb U aa q ay=>ah b U aa i q hi ay;rw[MZ (j2.2 a4) aj]at ap;have xZ:∀ k∈g.ds[i].t.ns[j].ax,∃ q:Nat,k=q/\q<g.ds[i].t.ns.length/\q<n:=λk ae=>by have:=iY k ae;exact⟨k.toNat,by omega,by omega,by omega⟩
  have lF:(db g s).s=s:=rfl;generalize g.ds[i].t.ns[j]=y at *;have ap:∀ q∈mf (bE g.ds) y (y.ax.map (gG (bE g.ds) F g.ds[i].t.ns)),ef (br (db g s) (j3 g q) a):=ap;have ae:∀ {x:Int},y.k=x->((db g s).an (fu g i j)).d.k=x:=λe=>by rw[da];exact e
  have has:y.k≠3->((db g s).an (fu g i j)).bm=y.ax.map λk=>fu g i k.toNat:=λe=>by rw[da];show eN _ _ _=_;rw[eN,c0 e,bf];rfl
  have kh:6<=y.k->∃ q:Nat,y.ax=[(q:Int)]/\q<g.ds[i].t.ns.length/\q<n:=λbj=>by
   have U:=FO.one bj
   match fm:y.ax,U with
   |[k],_=>obtain⟨q,ay,aa,af⟩:=xZ k (by rw[fm];exact .head _);exact⟨q,by rw[ay],aa,af⟩
   |[],h=>simp at h| _::_::_,h=>simp at h;omega
  have gq:y.k=0\/y.k=1\/y.k=2\/y.k=3\/y.k=4\/y.k=5\/y.k=6\/y.k=7\/y.k=8\/y.k=9:=by have:=ag.k.1;have:=jR.k;omega
  rw[<-uR];rcases gq with e | e | e | e | e | e | e | e | e | e;·rw[uH (ae e)];exact .inr rfl
  ·rw[uI (ae e)];cases(db g s).s.data[a]? with
   |none=>exact .inl rfl
   |some b=>
    show ef (bif _ then _ else _);cases lf ((db g s).an (fu g i j)).d b.toNat;·exact .inl rfl
    ·exact .inr rfl
  ·rw[uJ (ae e)];cases preB (db g s).s ((db g s).an (fu g i j)).d.t a
   ·exact .inl rfl
   ·exact .inr rfl
  ·rw[uK (ae e)];have af:(eB y.t (bE g.ds)).isSome=true:=by simpa[e]using jA
   obtain⟨q,yW,jH,Dv⟩:=M7 af;have Fk:((db g s).an (fu g i j)).bm.getD 0 0=j3 g q:=by rw[da];show(eN _ _ _).getD 0 0=_;rw[eN,fr e,bh,yW];rfl
   rw[Fk];refine ap q ?_;rw[mf,fr e,bh,Dv];exact .head _
  ·rw[uL (ae e),has (by omega)];refine adS g0 _ a 0 (bY _) aE (λq ay b U aa=>?_) λ_=>?_
   ·obtain⟨k,x5,rfl⟩:=dC.1 ay;obtain⟨q,rfl,af,-⟩:=xZ k x5;exact adZ b U aa q af
   ·have ap:∀ q∈tE (y.ax.map (gG (bE g.ds) F g.ds[i].t.ns)),ef (br (db g s) (j3 g q) a):=λq ay=>ap q (by rw[mf,c0 (by omega),bf,fr e,bh];exact ay);have key:∀ ks:List Int,(∀ k∈ks,k∈y.ax)->(∀ q∈tE (ks.map (gG (bE g.ds) F g.ds[i].t.ns)),ef (br (db g s) (j3 g q) a))->T5 (br (db g s)) a (ks.map λk=>fu g i k.toNat):=λks=>by
     induction ks with
     |nil=>intro _ _;trivial| cons k ks are=>intro gW a9;obtain⟨q,rfl,af,aP⟩:=xZ k (gW k (.head _));refine⟨a7 q aP af λx ab=>a9 x (adV (.inl ab)),λbq bj=>are (λx ab=>gW x (.tail _ ab)) λx ab=>a9 x (adV (.inr ⟨?_,ab⟩))⟩;have:=((adX q af a).z bq bj).1;rw[adY]at this;exact this
    exact key y.ax (λk ae=>ae) ap
  ·rw[uM (ae e),has (by omega)];refine adT _ λq ay=>?_;obtain⟨k,x5,rfl⟩:=dC.1 ay;obtain⟨q,rfl,af,aP⟩:=xZ k x5;refine a7 q aP af λx ab=>ap x ?_;rw[mf,c0 (by omega),bf,c0 (by omega),bf,c0 (by omega),w8,bf];exact uu.2 ⟨_,dC.2 ⟨_,x5,rfl⟩,ab⟩
  ·obtain⟨q,fm,af,aP⟩:=kh (by omega);have e1:((db g s).an (fu g i j)).d.hi=y.hi:=by rw[da];rfl
   have eH:((db g s).an (fu g i j)).d.lo=y.lo:=by rw[da];rfl
   have hW:((db g s).an (fu g i j)).bm.getD 0 0=fu g i q:=by rw[has (by omega),fm];rfl
   rw[sb (ae e),hW,e1,eH];have eG:pw (db g s) ((db g s).an (fu g i j)).d a=bif decide (y.hi=-1)then s.size+1-a else y.hi.toNat:=by unfold pw;rw[e1];rfl
   rw[eG];by_cases ao:y.hi=0;·rw[ao];exact .inr rfl
   ·refine adU g0 (z:=s.size) (a:=a) (λb U aa=>?_) (λbl b U aa bq bj=>?_) _ 0 a 0 (bY _) aE λbl=>?_
    ·by_cases CD:b=a
     ·rw[CD];refine a7 q aP af λx ab=>ap x ?_;rw[mf,c0 (by omega),bf,c0 (by omega),bf,c0 ao,P2,bf];exact uu.2 ⟨_,dC.2 ⟨(q:Int),by rw[fm];exact .head _,rfl⟩,ab⟩
     ·exact adZ b (by omega) aa q af
    ·have eh:=((adX q af b).z bq bj).1;rw[adY,M2]at eh;have gF:=ard (q:Int) (by rw[fm];exact .head _) e bl;rw[gF]at eh;cases eh
    ·rw[fr bl,bh];omega
  all_goals
   obtain⟨q,fm,af,aP⟩:=kh (by omega);have hW:((db g s).an (fu g i j)).bm.getD 0 0=fu g i q:=by rw[has (by omega),fm];rfl
   have fH:ef (br (db g s) (fu g i q) a):=by refine a7 q aP af λx ab=>ap x ?_;rw[mf,c0 (by omega),bf,c0 (by omega),bf,c0 (by omega),w8,bf];exact uu.2 ⟨_,dC.2 ⟨(q:Int),by rw[fm];exact .head _,rfl⟩,ab⟩
  ·rw[uN (ae e),hW];cases Nat.beq (br (db g s) (fu g i q) a).aB 3
   ·exact fH
   ·exact .inr rfl
  ·rw[uO (ae e),hW];rcases fH with h | h
   ·rw[h];exact .inr rfl
   ·rw[h];exact .inl rfl
  ·have B9:=ae e;rw[uP (by omega) (by omega) (by omega) (by omega) (by omega) (by omega) (by omega) (by omega) (by omega),hW];cases Nat.beq (br (db g s) (fu g i q) a).aB 3
   ·exact fH
   ·exact .inr rfl
open Classical in
noncomputable def F4(A:Nat->List Nat)(n i:Nat):Nat:=(List.range n).countP λq=>decide (pJ A i q)
open Classical in
def arf{A:Nat->List Nat}{i:Nat}(h5:∀ i,∀ x∈A i,x<n)(Ax:∀ x,¬ pJ A x x)(ay:q∈A i):F4 A n q<F4 A n i:=by unfold F4;refine aah (λx _ h=>?_) (z:=q) (kI.2 (h5 i q ay)) (c0 (Ax q)) (fr (.one ay));exact fr (.step ay (bS h))
def ad0(aA:g.ok I)(hm:kS g)(a2:vT g)(bB:qY g.ds F)(Ax:∀ x,¬ pJ (pI g.ds F) x x)(he:∀ i (h:i<g.ds.length),(rp (bE g.ds) F g.ds[i].t.ns g.ds[i].t.bF).2=false) : ∀ (n a:Nat),s.size-a<n->a<=s.size->∀ i j (hi:i<g.ds.length),j<g.ds[i].t.ns.length->ef (br (db g s) (fu g i j) a)
 |0,a,h,_=>absurd h (xD _)
 |n+1,a,aw,aE=>by
  obtain⟨W,hP⟩:=arc g.ds F;have ee:=a2.named;have ah:∀ b,a<b->b<=s.size->∀ i j (hi:i<g.ds.length),j<g.ds[i].t.ns.length->ef (br (db g s) (fu g i j) b):=λb U aa=>ad0 aA hm a2 bB Ax he n b (by omega) aa;have ad1:=fun {i:Nat} (hi:i<g.ds.length) (j:Nat) aj=>adW (s:=s) aA hm ee bB hP he aE ah hi (j+1) j (zz _) aj;have arh:∀ (c i:Nat),F4 (pI g.ds F) g.ds.length i<c->i<g.ds.length->ef (br (db g s) (j3 g i) a):=by
   intro c
   induction c with
   |zero=>intro i h;exact absurd h (xD _)
   |succ c ari=>
    intro i aN hi;have a4:=hm.r _ (cC hi);obtain⟨r,ai⟩:=g' a4.bF.1;have ek:r<g.ds[i].t.ns.length:=by have:=a4.bF.2;omega
    rw[RS hi ai];refine ad1 hi r ek λq ay=>?_;have jH:q∈pI g.ds F i:=by unfold pI;rw[eR hi];show q∈(gG (bE g.ds) F g.ds[i].t.ns g.ds[i].t.bF).2;rw[ai];exact ay
    have U:F4 (pI g.ds F) g.ds.length q<F4 (pI g.ds F) g.ds.length i:=arf (n:=g.ds.length) (λi=>Jl a2 i) Ax jH;exact ari q (by omega) (Jl a2 i q jH)
  intro i j hi aj;refine ad1 hi j aj λq ay=>?_;have jH:=To (j2.2 (hm.r _ (cC hi))) (a2.named _ (cC hi)) (j+1) j (zz _) aj q ay;exact arh _ q (zz _) jH
end
section
end
section
end
section
end
def arj(aA:g.ok I)(hm:gk oK g=0){r:Int×Int}(ai:FR oK g r)(ao:r.2=0)(s:ByteArray):∀ k a,k<a6 g.ds->a<=s.size->ef (br (db g s) k a):=by
 have gB:=aA.n;have a2:=Lk gB hm;have ark:kS g:=PY hm λd ag=>(aA.ds d ag).t.n;obtain⟨U,aa⟩:=(ai.get hm).1 ao;rcases ai with⟨a,-⟩ | ⟨-,F,bB,-⟩
 ·exact absurd hm a
 have tT:Jo g.ds=F:=ac1 bB;rw[tT]at U aa;rw[List.length_eq_zero_iff,List.eq_nil_iff_forall_not_mem]at U aa;intro k a ae aE;obtain⟨i,j,hi,aj,rfl⟩:=ak5 g ae;refine ad0 aA ark a2 bB (λx ab=>?_) (λi hi=>?_) (s.size-a+1) a (zz _) aE i j hi aj
 ·refine U x ((ao8 a2).2 ⟨?_,Tr a2 |>.2 ab⟩);exact ao9 (F:=F) (Tr a2 |>.2 ab)
 ·cases he:(rp (bE g.ds) F g.ds[i].t.ns g.ds[i].t.bF).2 with
  |false=>rfl| true=>exfalso;refine aa i (yt.2 ⟨kI.2 hi,?_⟩);unfold Nc;rw[eR hi];exact he
section
end
section
end
section
end
section
end
section
end
section
end
def arl{M0:List aI}(bM:hU I a1)(aA:g.ok I)(j7:∀ d∈g.ds,Du d.t):Spec Tryz.prog 12 [g.val] I M0 λv I' M'=>(∀ b o,I b=some o->I' b=some o)/\M'=M0/\∃ r:Int×Int,v=.int .i64 r.2/\FR a1 g r:=by refine Spec.lj (Spec.frame (ao7 bM aA j7)) ?_;rintro v J M⟨M',rfl,-,U,-,rfl,r,rfl,aa⟩;exact⟨U,rfl,r,rfl,aa⟩
def arm{t:dr}{T:Nat->Nat->bX}{x:bN}{r:Nat}(p:hk I g s t T x r d)(da:an<=s.size):Spec Tryz.prog 18 [ptr t.bt,g.val,x.val,.int .i64 an] I [] (wF I):=by
 have U:=p.cd.1.lt;rw[p.an]at U;have U:d.k<10:=U;have ao:=(p.ab.ns d p.kG).k.1;rcases(by omega:d.k=0\/d.k=1\/d.k=2\/d.k=3\/d.k=4\/d.k=5\/d.k=6\/d.k=7\/d.k=8\/d.k=9)with h | h | h | h | h | h | h | h | h | h
 ·exact aqK p da h
 ·exact aqL p da h
 ·exact aqM p da h
 ·exact aqN p da h
 ·exact aqO p da h
 ·exact aqQ p da h
 ·exact aqS p da h
 ·exact aqT p da h
 ·exact aqV p da h
 ·exact aqW p da h
def arn(h:gk a1 g=0):∀ d∈g.ds,l2 d.t=true:=by have af:=(aqG.1 h).2.2.1;unfold qT at af;simp only[o6,Eb]at af;exact gh.1 af.2.1
def ad2{f:Nat->Bool}:∀ n,(∀ a,a<n->f a=true)->wE f n=n
 |0,_=>rfl| n+1,h=>by rw[wE,ad2 n λa aE=>h a (by omega),h n (by omega)];rfl
def ad3{f:Nat->Nat}{C:Nat}:∀ n,(∀ i,i<n->f i=C)->u' f n=n*C
 |0,_=>by rw[u',BI]
 |n+1,h=>by rw[u',ad3 n λi hi=>h i (by omega),h n (by omega),ji,oy]
def aro(h:∀ i,i<g.n->∀ a,a<=s.size->ef (br (db g s) (j3 g i) a)):TL g s=g.n*(s.size+1):=by
 unfold TL;refine ad3 _ λi hi=>?_;unfold Bj;refine ad2 _ λa aE=>?_;unfold zt;rcases h i hi a (by omega)with U | U<;>rw[U]<;>rfl
def arp(bM:hU I oK)(ze:xi I g)(ar:s.size<=9223372036854775807){an:Int}(atZ:my an):yf Tryz.prog 3 [g.val,.string s,.int .i64 an] I [] λv _ _=>v=.bool true:=by
 obtain⟨jY,ad4⟩:∃ w,IntKind.u64.wrap an=w:=⟨_,rfl⟩
 have arq:0<=jY:=by rw[<-ad4];exact aqv an
 obtain⟨k,ae⟩:∃ k,jY.tmod ((s.size+1:Nat):Int)=k:=⟨_,rfl⟩;have m6:0<=k:=by rw[<-ae];exact Int.tmod_nonneg _ arq
 have fP:k<((s.size+1:Nat):Int):=by rw[<-ae];exact Int.tmod_lt_of_pos _ (by omega)
 obtain⟨p,rfl⟩:∃ p:Nat,k=p:=⟨k.toNat,by omega⟩;have lF:p<=s.size:=by omega
 refine Gp [] aU Tryz.func3 rfl rfl rfl ?_;intro B ao;refine a0.mk [] [] _ (.refl _) (aqb ze (aqt (I:=I)) s) ?_;rintro v Tx N -⟨⟨Dx,rfl,rT⟩,Gm,eG⟩;subst Tx;subst N;cases Dx with
 |true=>refine b2.mk (λh=>absurd h (by simp)) (λ_=>?_);refine a0.mk [] [] _ (.refl _) (adq bM) ?_;rintro v iG N -⟨rfl,e7,rfl⟩;exact⟨_,_,.refl,rfl⟩
 |false=>
 obtain⟨tR,-,Ns⟩:=rT rfl;have aA:=ze.Jn tR;have gB:=aA.n;have Cf:=tR.n;have ars:∀ d∈g.ds,Du d.t:=λd ag n aw=>by have:=((tR.ds d ag).t.ns n aw).kn;omega
 have art:IntKind.i64.wrap (jY.tmod ((s.size+1:Nat):Int))=(p:Int):=by rw[ae];exact wrap_i64 ⟨by omega,by omega⟩
 refine b2.mk (λ_=>?_) (λh=>absurd h (by simp));refine a0.mk [] [] _ (.refl _) (adq bM) ?_;rintro v x7 N -⟨rfl,gH,rfl⟩;have Cd:=bM.mono gH;have nQ:=aA.mono gH;refine aJ.mk (λh=>by cases h) (λ_=>?_);refine a0.mk [] [] _ (.refl _) (ala Cd nQ (by omega) s) ?_;rintro v nx N -⟨sw,rfl,tz⟩;have p':=Cd.mono sw;have kP:=nQ.mono sw;have bad:∀ e:Int,e≠0->(!decide (e=0))=true:=λe he=>by rw[c0 he];rfl
 rcases tz with⟨bH,rfl⟩ | ⟨-,aru,rfl⟩ | ⟨C4,gn,t,T,rfl,ad5⟩
 ·refine aJ.mk (λ_=>?_) (λh=>Dt (bad _ bH) h);refine fM.Fq aU rfl rfl ?_;exact⟨_,_,.refl,rfl⟩
 ·exact absurd aru (by omega)
 have arv:∀ d∈g.ds,d.t.ns.length=d.t.n:=λd ag=>(aA.ds d ag).t.n;have cZ:∀ d∈g.ds,∀ n∈d.t.ns,0<=n.k:=λd ag n aw=>((aA.ds d ag).t.ns n aw).k.1;have hm:=PY C4 arv;have arw:=arn C4;have vY:=hm.HK;refine aJ.mk (λh=>S1 rfl h) (λ_=>?_);have hmul:(g.n:Int)*((s.size+1:Nat):Int)=((g.n*(s.size+1):Nat):Int):=by simp
 have at0:g.n*(s.size+1)<=4096*4097:=P3 (by omega) (by omega);refine c4.Kj aU rfl rfl rfl (ι:=aR) (λK=>{ bx:=[(1,.val (.string s)),(2,.val (.int .i64 an)),(3,.ref 3 0),(7,.val (ptr t.bt)),(51,.val (.bool false))],cl:=[(3,[.slice g.a g.n g.c])],c2:=K,du:=[] }) (λK=>∀ b o,nx b=some o->K b=some o) ?_ ?_
 ·refine a0.whole _ (arl (M0:=[]) p' kP ars) ?_;rintro v iG N -⟨e7,eG,cH,rfl,u6⟩;subst N;have JA:=p'.mono e7;have oE:=kP.mono e7;have NA:=ad5.mono e7;have arx:=NA.R' hm cZ gn;by_cases ah:cH.2=0
  ·have ej:=arj aA C4 u6 ah s;have cY:=aro (g:=g) (s:=s) λi hi a aE=>ej _ a (by
    have aa:=P1 hm (rule:=i) (by omega) s 0;rwa [show(qZ g s 0).ns.length=a6 g.ds from wg g.ds]at aa) aE
   have ad6:=λM=>ap5 NA hm arx gB (by omega) (M0:=M);rw[cY]at ad6;refine b2.mk (λ_=>?_) (λh=>Dt (fr ah) h);refine bc.mk ((s.size+1:Nat):Int) (fK (by simp) (by omega)) ?_;refine bc.mk ((g.n*(s.size+1):Nat):Int) (fK hmul (by omega)) ?_;refine g7.whole _ (ad6 _) (λv I' M' h x ab=>by rw[h.2.2];exact ab) ?_;rintro v sA N -⟨rfl,rfl,rfl⟩;exact⟨sA,e7,.refl,.cons .refl (.cons .refl (.cons .refl (.cons .refl (.cons (R4 (by simp)) .nil)))),.cons rfl (.nil)⟩
  ·refine b2.mk (λh=>S1 (c0 ah) h) (λ_=>?_);exact⟨iG,e7,.refl,.cons .refl (.cons .refl (.cons .refl (.cons .refl (.cons .lit .nil)))),.cons rfl (.nil)⟩
 intro iG e7;have JA:=p'.mono e7;have oE:=kP.mono e7;have NA:=ad5.mono e7;refine aJ.mk (λh=>S1 rfl h) (λ_=>?_);refine bc.mk jY ad4 ?_;refine bc.mk ((s.size+1:Nat):Int) (fK (by simp) (by omega)) ?_;refine bc.mk ((s.size+1:Nat):Int) (aqu (by omega)) ?_;refine sF.mk (by omega) ?_;refine bc.mk (p:Int) art ?_;refine dG.inv (ι:=Nat×aR) (λx=>{ bx:=[(1,.val (.string s)),(2,.val (.int .i64 p)),(3,.ref 3 0),(7,.val (ptr t.bt)),(9,.val (.int .i64 x.1))],cl:=[(3,[.slice g.a g.n g.c])],c2:=x.2,du:=[] }) (λx=>x.1<=g.n/\∀ b o,iG b=some o->x.2 b=some o) (λx=>g.n-x.1) ?_ ?_
 ·exact⟨(0,iG),⟨bw _,λ_ _ h=>h⟩,.refl,hS,.cons rfl (.nil)⟩
 rintro⟨i,J⟩⟨hi,bZ⟩;simp only at hi bZ;have Ji:=JA.mono bZ;have wh:=oE.mono bZ;have NB:=NA.mono bZ;refine aJ.mk (λe=>?_) (λe=>?_)
 rotate_left
 ·exact⟨_,_,.refl,rfl⟩
 have aS:i<g.n:=by have aa:decide ((i:Int)<(g.n:Int))=true:=e;have:=bS aa;omega
 have b':i<g.ds.length:=by omega
 obtain⟨ad,bP,bu⟩:=wh.bg.row bI.de aS b';have eE:g.ds[i]∈g.ds:=cC b';have ah:(g.ds[i].t).ok J:=(wh.ds _ eE).t;have BF:=ah.n;have T6:=arw _ eE;obtain⟨rH,f,aC,r,ai,ek,vo⟩:=ame aA hm gn b';have c8:=hm.HK;have at1:g.ds[i].t.n<=1024:=by have aa:=T6;unfold l2 at aa;simp only[cp,e5]at aa;exact aa.1
 have ary:right g.ds[i].t=true:=j2.2 rH.r;have hB:∀ {j:Nat} {y:bN},j<g.ds[i].t.ns.length->nt g.ds[i].t j y->y.ns.length=y.n->oc g y/\l2 y=true/\∃ r:Nat,y.bF=(r:Int)/\r<y.ns.length   := fun {j y} aj h A9=>by obtain⟨U,f,aa,JB,af,aP,bq⟩:=amd (s:=s) aA hm gn b' aj h;exact⟨U,adG T6 aj h BF A9,JB,af,aP⟩
 have Nm:∀ M,cq J M ((ad.add (i*3)).add 1) 2 [.slice g.ds[i].t.a g.ds[i].t.n g.ds[i].t.c,.int .i64 g.ds[i].t.bF]:=λM=>(bu M).part (k:=1) (m:=2) (by decide);have tv:=NB.R' hm cZ gn;generalize xL:g.ds[i].t=mE at *;refine bk.mk ad i bP rfl aS ?_;refine aK.mk _ (Nm _) ?_;refine a0.whole _ (adt (M0:=[]) NB hm tv gB (i:Int) (p:Int) λo e h=>(h.Fu aS lF).cW) ?_;rintro v sA N -⟨JE,rfl,bz,gf,eY,o,az,fS,rfl,mQ⟩;have arz:=Ji.mono JE;refine a0.whole _ (TS (M0:=[]) arz.c (NB.mono JE) hm (wh.mono JE) gn (ah.mono JE) T6 rH (by omega) lF ai) ?_;rintro v zx N -⟨ad7,rfl,bJ,eV,dS,dq,aF,dZ,rfl,hn⟩;have fS:=fS.Fu aS lF;rw[<-vo]at fS;obtain⟨rfl,rfl⟩:=aC.Fu (by omega) dZ fS;have tF:=dZ.cW;refine b2.mk (λ_=>?_) (λh=>absurd h (by simp));refine a0.whole _ (oh (mQ.mono ad7) hn (by omega)) ?_;rintro v hl N -⟨rfl,rfl,rfl⟩;refine aJ.mk (λh=>by cases h) (λ_=>?_);have arA:∀ b o,J b=some o->hl b=some o:=λb o h=>ad7 _ _ (JE _ _ h);refine dG.inv (ι:=Nat×aR) (λx=>{ bx:=[(1,.val (.string s)),(2,.val (.int .i64 p)),(3,.ref 3 0),(7,.val (ptr t.bt)),(9,.val (.int .i64 i)),(10,.ref 10 0),(15,.val (.int .i64 x.1))],cl:=[(3,[.slice g.a g.n g.c]),(10,[.slice mE.a mE.n mE.c,.int .i64 mE.bF])],c2:=x.2,du:=[] }) (λx=>x.1<=mE.n/\∀ b o,J b=some o->x.2 b=some o) (λx=>mE.n-x.1) ?_ ?_
 ·exact⟨(0,hl),⟨bw _,arA⟩,.refl,ko,.cons rfl (.cons rfl (.nil))⟩
 rintro⟨q,K⟩⟨ay,fv⟩;simp only at ay fv;refine aJ.mk (λbo=>?_) (λbo=>?_)
 rotate_left
 ·refine bc.mk _ (cF (i:=i) (by omega)) ?_;exact⟨(i+1,K),⟨⟨aS,λb o h=>fv _ _ (bZ _ _ h)⟩,by simp only;omega⟩,.refl,hS,.cons rfl (.nil)⟩
 have ad8:q<mE.n:=by have aa:(q:Int)<(mE.n:Int):=bS bo;omega
 refine a0.whole _ (apL (M0:=[]) (Ji.mono fv).c (ah.mono fv) ary (by omega) ad8) ?_;rintro v ad9 N -⟨arB,rfl,y,rfl,aH,arC⟩;have A9:=aH.n;obtain⟨arD,aea,JB,arE,arF⟩:=hB (by omega) arC A9;have NC:∀ b o,J b=some o->ad9 b=some o:=λb o h=>arB _ _ (fv _ _ h);have at2:y.n<=1024:=by have aa:=aea;unfold l2 at aa;simp only[cp,e5]at aa;exact aa.1
 have arG:hk ad9 g s t T y JB y.ns[JB]:=⟨Ji.mono NC,wh.mono NC,hm,gn,NB.mono NC,aH,aea,arD,by omega,arE,arF,rfl⟩;refine a0.whole _ (arm arG lF) ?_;rintro v arH N -⟨rfl,arI,rfl⟩;refine aJ.mk (λh=>by cases h) (λ_=>?_);refine bc.mk _ (cF (i:=q) (by omega)) ?_;exact⟨(q+1,arH),⟨⟨ad8,λb o h=>arI _ _ (NC _ _ h)⟩,by simp only;omega⟩,.refl,ko,.cons rfl (.cons rfl (.nil))⟩
end Go.V
