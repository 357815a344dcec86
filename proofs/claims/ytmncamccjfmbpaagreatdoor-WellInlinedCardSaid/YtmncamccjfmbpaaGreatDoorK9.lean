/- Part 9 of what the proofs of this seat share: the executor, data in memory, walks.
-/
import Derived.Test.YtmncamccjfmbpaaGreatDoorK8
import Derived.Test.YtmncamccjfmbpaaGreatDoorK7
import Derived.Test.YtmncamccjfmbpaaGreatDoorK4
import Derived.Test.YtmncamccjfmbpaaGreatDoorK2
import Derived.Test.YtmncamccjfmbpaaGreatDoorK5
import Derived.Lib.SliceRun
import Derived.Test.YtmncamccjfmbpaaGreatDoorK6
set_option linter.all false
set_option maxRecDepth 100000
namespace Go.V
open Go Go.Proofs
variable{j:Int}{t:bw}{F:List aI}{aF:List Int}{g:eo}{r:Int×Int}{I:aM}
inductive vr:bA->Prop
 |mk{d:an}{ks:List bA}:(d.k=4\/d.k=5->∀ c∈ks,c.d.k≠d.k/\¬ (c.d.k=0/\d.k=4))->(∀ c∈ks,vr c)->vr (.mk d ks)
def vr.inv{d:an}{ks:List bA}(h:vr (.mk d ks)):(d.k=4\/d.k=5->∀ c∈ks,c.d.k≠d.k/\¬ (c.d.k=0/\d.k=4))/\∀ c∈ks,vr c:=by
 cases h with
 |mk aa ad=>exact⟨aa,ad⟩
def akE{ns:List an}(h:j∈dU ns):∃ p,∃ aO:p<ns.length,j∈ns[p].ap:=by unfold dU at h;obtain⟨d,aj,ai⟩:=hg.1 h;obtain⟨p,aO,rfl⟩:=hz aj;exact⟨p,aO,ai⟩
def hj.down(h:hj t){P:Nat->Prop}(ay:∀ r:Nat,t.bm=(r:Int)->P r)(step:∀ p (aO:p<t.ns.length),P p->∀ j:Nat,(j:Int)∈t.ns[p].ap->P j):∀ m j,j<t.ns.length->t.ns.length-j<=m->P j
 |0,j,ai,hm=>absurd hm (by omega)
 |m+1,j,ai,hm=>by
  by_cases e:(j:Int)=t.bm;·exact ay j e.symm
  ·obtain⟨p,aO,Bt⟩:=akE ((h.all j ai).2 e);have:=h.ap p aO _ Bt;exact step p aO (h.down ay step m p aO (by omega)) j Bt
def Ir(af:right t=true){j:Nat}(ai:j<t.ns.length):lW t.ns j=.mk t.ns[j].bare (t.ns[j].ap.map (lW t.ns)):=
 ux (λd g cN h=>by rw[fy h]) af ai
def X3(af:right t=true)(ay:0<=j)(aa:j<t.ns.length):(lW t.ns j).d.k=ho t.ns j:=by
 obtain⟨q,rfl⟩:=eN ay;have aK:q<t.ns.length:=by omega
 rw[Ir af aK];show t.ns[q].k=_;simp[ho,cv,aK]
def OO{ns:List an}{kind:Int}:∀ {ks:List Int},jd ns kind ks=true ↔ ∀ k∈ks,ho ns k≠kind/\¬ (ho ns k=0/\kind=4)
 |[]=>by simp[jd]
 |k::ks=>by
  have aR:=OO (ns:=ns) (kind:=kind) (ks:=ks);rw[jd];constructor
  ·intro h;cases ah:decide (ho ns k=kind)||(decide (ho ns k=0)&&decide (kind=4))with
   |true=>rw[ah]at h;cases h
   |false=>
    rw[ah]at h;intro x ab;rcases dW.1 ab with rfl | ab;·simp only[qN,Bool.and_eq_false_iff,pM]at ah;exact⟨ah.1,λe=>ah.2.elim (λh=>h e.1) λh=>h e.2⟩
    ·exact aR.1 h x ab
  ·intro h;have aa:=h k (.head _);have ah:(decide (ho ns k=kind)||(decide (ho ns k=0)&&decide (kind=4)))=false:=by rw[eU aa.1,rG,<-Bool.decide_and];exact eU aa.2
   rw[ah];exact aR.2 λx ab=>h x (.tail _ ab)
def X4{ns:List an}:∀ {l:List an},jx ns l=true ↔ ∀ d∈l,d.k=4\/d.k=5->∀ k∈d.ap,ho ns k≠d.k/\¬ (ho ns k=0/\d.k=4)
 |[]=>by simp[jx]
 |d::l=>by
  have aR:=X4 (ns:=ns) (l:=l);rw[jx];by_cases gC:d.k=4\/d.k=5
  ·have ah:(!decide (d.k=4) && !decide (d.k=5))=false:=by
    rcases gC with e | e<;>simp[e]
   rw[ah,b0];constructor
   ·intro h;cases ae:jd ns d.k d.ap with
    |false=>rw[ae]at h;cases h
    |true=>
     rw[ae]at h;intro x ab;rcases dW.1 ab with rfl | ab;·exact λ_=>OO.1 ae
     ·exact aR.1 h x ab
   ·intro h;rw[OO.2 (h d (.head _) gC)];exact aR.2 λx ab=>h x (.tail _ ab)
  ·have ah:(!decide (d.k=4) && !decide (d.k=5))=true:=by rw[eU λe=>gC (.inl e),eU λe=>gC (.inr e)];rfl
   rw[ah,bZ,aR];constructor
   ·intro h x ab;rcases dW.1 ab with rfl | ab
    ·exact λe=>absurd e gC
    ·exact h x ab
   ·exact λh x ab=>h x (.tail _ ab)
def akF:normal t=true ↔ right t=true/\vr (m8 t):=by
 unfold normal;rw[b'];refine and_congr_right λaf=>?_;have aX:=iQ.1 af;rw[X4];constructor
 ·intro h;have key:∀ m j,j<m->j<t.ns.length->vr (lW t.ns j):=by
   intro m
   induction m with
   |zero=>exact λj h=>absurd h (ot _)
   |succ m aR=>
    intro j af0 ai;rw[Ir af ai];refine .mk (λgC c au=>?_) λc au=>?_;·obtain⟨k,ae,rfl⟩:=cG.1 au;have ei:=aX.ap j ai k ae;rw[X3 af ei.1 (by omega)];exact h _ (b9 ai) gC k ae
    ·obtain⟨k,ae,rfl⟩:=cG.1 au;have ei:=aX.ap j ai k ae;obtain⟨q,rfl⟩:=eN ei.1;exact aR q (by omega) (by omega)
  obtain⟨ib,gA⟩:=aX.bm;obtain⟨r,eD⟩:=eN ib;unfold m8;rw[eD];exact key _ r (Bw _) (by omega)
 ·intro h;have key:∀ j,j<t.ns.length->vr (lW t.ns j):=λj ai=>aX.down (P:=λj=>vr (lW t.ns j)) (λr eD=>by rw[<-eD];exact h) (λp aO q8 j Bt=>by rw[Ir af aO]at q8;exact q8.inv.2 _ (Bq Bt)) _ j ai (cI _);intro d aj gC k ae;obtain⟨j,ai,rfl⟩:=hz aj;have aa:=key j ai;rw[Ir af ai]at aa;have ad:=aa.inv.1 gC _ (Bq ae);have ei:=aX.ap j ai k ae;rw[X3 af ei.1 (by omega)]at ad;exact ad
section
end
section
end
section
end
section
end
section
end
section
section
end
end
section
end
section
end
section
end
section
end
section
end
section
end
section
end
section
end
section
end
section
end
section
end
section
end
section
end
section
end
def hj.akG(h:hj t):∃ T:a7,t.bm=(T.bS:Int)/\di t.ns T/\m8 t=T.bare t.ns/\T.dL.Nodup/\T.dL.length<=t.ns.length:=by obtain⟨ib,gA⟩:=h.bm;obtain⟨r,eD⟩:=eN ib;obtain⟨T,aa,ad,al,aL⟩:=h.lt (j:=r) (by omega);refine⟨T,by rw[aa];exact eD,ad,by unfold m8;rw[eD];exact al,aL,H4 aL λx ab=>ad.lt x ab⟩
def akH{d:an}(h:d.k=3){n:Nat}(az:Go.V.fits d n=true):n=0:=by unfold Go.V.fits at az;rw[h]at az;simp[rO,pU]at az;have aa:jU[6]?.getD 0=0:=rfl;have ad:jU[7]?.getD 0=0:=rfl;rw[aa,ad]at az;omega
def X5(h:right t=true):hV (m8 t):=by obtain⟨T,aa,ad,al,aL,bG⟩:=(iQ.1 h).akG;rw[al];exact ajs (iQ.1 h).fit ad
def X6{pl:List (ByteArray×Int)}(h:right t=true):lg pl F t=(m8 t).fold (k' pl F):=by obtain⟨ib,gA⟩:=kG h;obtain⟨r,af⟩:=eN ib;unfold lg ld m8;rw[af];exact ajt (λd l=>rfl) (iQ.1 h) (by omega)
structure X7(aF:List Int)(g:eo)(F:List aI):Prop where
 n:g.ds.length=g.n
 m:eH aF g=0
 Ea:iv g.ds F
 left:(pq g.ds F).length=0
 loops:(nG g.ds F).length=0
def tL.ON(aJ:g.ds.length=g.n)(h:tL aF g r)(ay:r.2=0):∃ F,X7 aF g F:=by
 have hm:eH aF g=0:=by
  rcases h with⟨a,e⟩ | ⟨a,-⟩;·rw[e]at ay;exact ay
  ·exact a
 obtain⟨aa,ad⟩:=(h.get hm).1 ay;rcases h with⟨a,-⟩ | ⟨-,F,bf,-⟩
 ·exact absurd hm a
 rw[Nq bf]at aa ad;exact⟨F,aJ,hm,bf,aa,ad⟩
def akI(hm:eH aF g=0){d:a2}(aj:d∈g.ds):normal d.t=true:=by have:=fL.1 (N1.1 hm).2.1 d aj;rw[b']at this;exact this.2
def Bv(hm:eH aF g=0){d:a2}(aj:d∈g.ds):right d.t=true:=(akF.1 (akI hm aj)).1
section
end
section
end
section
end
namespace bA
end bA
def akJ(aw:t.ok I)(af:right t=true)(aJ:t.n<=1099511627776):rf t:=λd aj=>by have aX:=iQ.1 af;obtain⟨j,ai,rfl⟩:=hz aj;obtain⟨T,aa,ad,-,aL⟩:=aX.lt ai;have ae:=ad.Om;rw[aa,gf ai]at ae;have bG:=H4 aL λx ab=>ad.lt x ab;have cr:=Ia T;have eM:=zi T.sub;have fo:=(aw.ns _ (b9 ai)).aT;have fj:=aw.n;rw[ae]at fo;simp only[fY,bO]at fo;omega
structure X8(aF:List Int)(I:aM)(g:eo):Prop where
 aw:gg I aF
 ax:g.ok I
 aJ:∀ d∈g.ds,d.t.n<=549755813888
 ah:g.n<=1000000
 NJ:(g.ds.map λd=>d.t.ns.length).sum<=1048576
 ae:∀ d∈g.ds,rf d.t
section
end
section
end
section
end
def X9{α:Type}(f:α->Nat)(m:Nat):∀ (l:List α),(∀ x∈l,f x<=m)->(l.map f).sum<=m*l.length
 |[],_=>by simp
 |a::l,h=>by have aa:=X9 f m l λx ab=>h x (.tail _ ab);have ad:=h a (.head _);rw[cc,jb,ea,Nat.mul_succ];omega
def akK(bl:gg I aF)(ax:g.ok I)(ar:HE g):X8 aF I g:=by
 have aa:=ar.n;have ad:∀ d∈g.ds,d.t.n<400:=λd aj=>(ar.ds d aj).t.n;have al:=X9 (λd:a2=>d.t.ns.length) 400 g.ds λd aj=>by have:=(ax.ds d aj).t.n;have:=ad d aj;omega
 have aL:=ax.n;refine⟨bl,ax,λd aj=>by have:=ad d aj;omega,by omega,?_,λd aj n aJ=>?_⟩
 ·have:400*g.ds.length<=400*400:=Nat.mul_le_mul_left _ (by omega);omega
 ·have:=((ar.ds d aj).t.ns n aJ).aT;omega
def X'(hm:eH aF g=0):(∀ d∈g.ds,d.t.n<=1024)/\(g.ds.map λd=>d.t.n).sum<=1024:=by
 obtain⟨aa,ad,al,aL,bG⟩:=N1.1 hm;unfold n' at al;simp only[qN,pM]at al;have cr:r4 g<=1024:=by omega
 have e:r4 g=(g.ds.map λd=>d.t.n).sum:=by unfold r4;congr 1;refine fy λd aj=>?_;unfold p2;rw[Bv hm aj];rfl
 rw[e]at cr;refine⟨λd aj=>?_,cr⟩;have:=HZ (l:=g.ds.map λd=>d.t.n) (x:=d.t.n) (cG.2 ⟨d,aj,rfl⟩);omega
def akL(bl:gg I aF)(ax:g.ok I)(hm:eH aF g=0):X8 aF I g:=by obtain⟨aa,ad⟩:=X' hm;have j7:=HF hm;have e:(g.ds.map λd=>d.t.ns.length)=g.ds.map λd=>d.t.n:=fy λd aj=>(ax.ds d aj).t.n;refine⟨bl,ax,λd aj=>by have:=aa d aj;omega,by omega,by rw[e];omega,λd aj=>akJ (ax.ds d aj).t (Bv hm aj) (by have:=aa d aj;omega)⟩
section
variable{H:Type}{enc:TypeId×Value->H}
def Ya{W:World}{c4:Nat}{v:Value}{d:DataW H}{p:List MemPlace}(h:DataW.Trod enc Tryz.prog W 0 (λ_=>true) true 3 v d p)(ag:Value.okWide Tryz.prog W .any c4 3 v):∃ i:Int,v=.int .i64 i/\gy i:=by
 have aw:Tryz.prog.underlying 3=some (.int .i64):=by kernel_rfl
 obtain⟨n,rfl⟩:=Go.WideShapes.okWide_int aw ag;obtain⟨eg,az⟩:=h;obtain⟨i,c1,hw⟩:=yw aw az;have aA:[Value.int .i64 n]=[Value.int .i64 i]:=c1;simp only[vU,Value.int.injEq,true_and,and_true]at aA;subst aA;exact⟨n,rfl,wf_i64 hw⟩
end
def akM(hw:X7 aF g F){a u:Nat}(aY:a<g.ds.length)(hu:u<g.ds.length)(bs:a≠u){t1 t2:bw}(bC:xj g.ds[a].name g.ds[a].t g.ds[u].t t1)(ez:xo t2 (m8 t1).vq){h:eo}(au:h.ds.map a2.a6=(jE g.ds u t2).map a2.a6)(hm:eH aF h=0)(af:tL aF h r):r.2=0:=by
 have OP:g.ds.getD u nJ=g.ds[u]:=by simp[cv,hu]
 have akN:g.ds.getD a nJ=g.ds[a]:=by simp[cv,aY]
 have bo:hV (m8 t1).vq:=aks (X5 bC.right);have rk:=ez.right bo;have Ce:=ez.m8 bo (akw _);have OQ:=Bv hw.m (b9 hu);have akO:∀ d∈g.ds,right d.t=true:=λd aj=>Bv hw.m aj;have e8:d' g.ds[a].name g.ds 0=(a:Int):=by have:=(N1.1 hw.m).2.2.2.1 a aY;rw[afZ aY]at this;exact dV this
 have aX:sJ g.ds u a t2:=by refine⟨hu,aY,bs,rk,λF' my=>?_⟩;rw[akN]at my |-;rw[OP,X6 rk,Ce,akA (aiQ _ _) (X5 bC.right),<-X6 bC.right];show Ew a _ _ (ld H2 (k' (bp g.ds) F') t1) _;rw[bC.bt H2 (k' (bp g.ds) F') (λd l=>rfl)];refine aiD (F:=F') (F':=F') (by rw[aih e8];rfl) my (λ_ _ _ _=>rfl) λd aj al=>?_;obtain⟨j,ai,rfl⟩:=hz aj;exact im (akH al ((iQ.1 OQ).fits j ai))
 rw[af.get hm];rcases af with⟨a,-⟩ | ⟨-,F',my,-⟩
 ·exact absurd hm a
 ·obtain⟨-,aA,a0⟩:=aX.ON akO hw.Ea hw.left hw.loops au my;rw[Nq my];exact⟨aA,a0⟩
def akP{M:List aE}{b:Nat}(h:(⟨b,.cells #[.slice t.a t.n t.c,.int .i64 t.bm] 31 (0,0)⟩:aE)∈M):c7 I M ⟨b,0,none⟩ 2 [.slice t.a t.n t.c,.int .i64 t.bm]:=⟨rfl,_,_,_,.inr ⟨_,h,rfl,rfl⟩,rfl,rfl⟩
set_option maxHeartbeats 16000000 in
def akQ(bl:gg I lJ)(tz:r' I g){rm rn:Int}(amP:gy rm)(amQ:gy rn):sN Tryz.prog 3 [g.val,.int .i64 rm,.int .i64 rn] I [] λv I' M'=>v=.bool true:=by
 obtain⟨a,tm⟩:∃ a:Nat,0<=rm->rm=(a:Int):=⟨rm.toNat,λh=>(tc h).symm⟩;obtain⟨u,Is⟩:∃ a:Nat,0<=rn->rn=(a:Int):=⟨rn.toNat,λh=>(tc h).symm⟩;refine BR [] a4 Tryz.func3 rfl rfl rfl ?_;intro B ay;refine bd.mk [] [] _ (.refl _) (ago tz) ?_;rintro v J N -⟨⟨r,rfl,af⟩,zI,amR⟩;subst J;subst N;cases r with
 |true=>refine cP.mk (λh=>absurd h (by simp)) (λ_=>?_);refine bd.mk [] [] _ (.refl _) (V9 bl) ?_;rintro v iW N -⟨rfl,fC,rfl⟩;exact⟨_,_,.refl,rfl⟩
 |false=>
 refine cP.mk (λ_=>?_) (λh=>absurd h (by simp));refine bd.mk [] [] _ (.refl _) (V9 bl) ?_;rintro v iW N -⟨rfl,fC,rfl⟩;refine a9.mk (λh=>by cases h) (λ_=>?_);have BF:=af rfl;have bl:=bl.mono fC;have ax:=(tz.mono fC).D8 BF;have jw:=ax.n;have Dw:=akK bl ax BF;clear tz af;refine bd.mk [] [] _ (.refl _) (Nr bl ax Dw.ae) ?_;rintro v fp N -⟨eQ,rfl,Yb,rfl,akR⟩;have jZ:=bl.mono eQ;have km:=ax.mono eQ;by_cases dN:Yb.2=0/\0<=rm/\rm<(g.n:Int)/\0<=rn/\rn<(g.n:Int)/\rm≠rn
 rotate_left
 ·by_cases aa:Yb.2=0
  rotate_left
  ·refine cP.mk (λh=>absurd h (by simp[aa])) (λ_=>?_);exact⟨_,_,.refl,rfl⟩
  refine cP.mk (λ_=>?_) (λh=>absurd h (by simp[aa]));by_cases ad:rm<0;·refine cP.mk (λh=>absurd h (by simp[ad])) (λ_=>?_);exact⟨_,_,.refl,rfl⟩
  refine cP.mk (λ_=>?_) (λh=>absurd h (by simp[ad]));by_cases al:(g.n:Int)<=rm;·refine cP.mk (λh=>absurd h (by simp[al])) (λ_=>?_);exact⟨_,_,.refl,rfl⟩
  refine cP.mk (λ_=>?_) (λh=>absurd h (by simp[al]));by_cases aL:rn<0;·refine cP.mk (λh=>absurd h (by simp[aL])) (λ_=>?_);exact⟨_,_,.refl,rfl⟩
  refine cP.mk (λ_=>?_) (λh=>absurd h (by simp[aL]));by_cases bG:(g.n:Int)<=rn;·refine cP.mk (λh=>absurd h (by simp[bG])) (λ_=>?_);exact⟨_,_,.refl,rfl⟩
  refine cP.mk (λ_=>?_) (λh=>absurd h (by simp[bG]));by_cases cr:rm=rn;·refine a9.mk (λ_=>?_) (λh=>absurd h (by simp[cr]));exact⟨_,_,.refl,rfl⟩
  exact absurd ⟨aa,by omega,by omega,by omega,by omega,cr⟩ dN
 have aa:=dN.1;have tm:=tm dN.2.1;have Is:=Is dN.2.2.2.1;have aY:a<g.ds.length:=by omega
 have hu:u<g.ds.length:=by omega
 have bs:a≠u:=by omega
 obtain⟨F,hw⟩:=akR.ON jw aa;have OP:g.ds.getD u nJ=g.ds[u]:=by simp[cv,hu]
 have OQ:=Bv hw.m (b9 hu);have eD:=Bv hw.m (b9 aY);have Yc:=(km.ds _ (b9 hu)).t;have nz:=(km.ds _ (b9 aY)).t;obtain⟨a1,-⟩:=X' hw.m;have amS:=a1 _ (b9 hu);have amT:=a1 _ (b9 aY);have amU:=Yc.n;have m5:=nz.n;have dy:=N8 (aF:=lJ) (nm:=g.ds[a].name) (body:=g.ds[a].t) (B:=1025) (by omega) 1024 jZ nz eD Yc OQ (by omega) (by omega);obtain⟨cf,akS,gH⟩:=km.bb.row a2.da (j:=u) (by omega) hu;obtain⟨dw,lV,nZ⟩:=km.bb.row a2.da (j:=a) (by omega) aY;refine cP.mk (λ_=>?_) (λh=>absurd h (by simp[aa]));refine cP.mk (λ_=>?_) (λh=>absurd h (by simp;omega));refine cP.mk (λ_=>?_) (λh=>absurd h (by simp;omega));refine cP.mk (λ_=>?_) (λh=>absurd h (by simp;omega));refine cP.mk (λ_=>?_) (λh=>absurd h (by simp;omega));refine a9.mk (λh=>absurd h (by simp;omega)) (λ_=>?_);refine dh.I5 a4 rfl rfl rfl (ι:=Nat×bw×aM) (λz=>{ bn:=[(1,.val (.int .i64 rm)),(2,.val (.int .i64 rn)),(3,.ref 3 0),(7,.val (ptr z.1)),(8,.val (.bool true))],cl:=[(3,[.slice g.a g.n g.c])],c2:=z.2.2,dx:=⟨z.1,.cells #[.slice z.2.1.a z.2.1.n z.2.1.c,.int .i64 z.2.1.bm] 31 (0,0)⟩::[] }) (λz=>(∀ b o,fp b=some o->z.2.2 b=some o)/\z.2.1.ok z.2.2/\xj g.ds[a].name g.ds[a].t g.ds[u].t z.2.1/\z.2.1.ns.length<=g.ds[u].t.ns.length*1025) ?_ ?_
 ·refine bu.mk cf u akS Is (by omega) ?_;refine aZ.mk [.slice g.ds[u].t.a g.ds[u].t.n g.ds[u].t.c,.int .i64 g.ds[u].t.bm] ((gH _).part (k:=1) (m:=2) (by decide)) ?_;refine bu.mk dw a lV tm (by omega) ?_;refine aZ.mk [.string g.ds[a].name] ((nZ _).part (k:=0) (m:=1) (by decide)) ?_;refine bu.mk dw a lV tm (by omega) ?_;refine aZ.mk [.slice g.ds[a].t.a g.ds[a].t.n g.ds[a].t.c,.int .i64 g.ds[a].t.bm] ((nZ _).part (k:=1) (m:=2) (by decide)) ?_;refine⟨?_,?_⟩
  ·refine bd.mk [] _ _ (.refl _) dy ?_;rintro v It N tI⟨-,rfl,t,rfl,aw,bC,cx⟩;refine cJ.mk λb7 yB XD=>?_;refine cn.mk [] [] _ _ rfl rfl (bH rfl) rfl ?_;exact⟨(b7,t,It),⟨tI,aw,bC,cx⟩,.refl,iJ,.cons rfl (.nil)⟩
  ·refine cJ.mk λb7 yB XD=>?_;refine fv.mk _ dy ?_;rintro v It N tI⟨-,rfl,t,rfl,aw,bC,cx⟩;refine cn.mk [] [] _ _ rfl rfl (bH rfl) rfl ?_;exact⟨(b7,t,It),⟨tI,aw,bC,cx⟩,.refl,iJ,.cons rfl (.nil)⟩
 rintro⟨b7,t1,It⟩⟨tI,nt,bC,cx⟩;simp only at tI nt bC cx;have wb:=nt.n;refine aZ.mk [.slice t1.a t1.n t1.c,.int .i64 t1.bm] (akP (.head _)) ?_;refine bd.mk [] _ _ (.refl _) (ako (jZ.mono tI) nt bC.right (by omega)) ?_;rintro v amV N Yd⟨-,rfl,t2,rfl,n7,ez⟩;have HN:=(jZ.mono tI).mono Yd;have wh:=(km.mono tI).mono Yd;have Ye:=ahr (M0:=[]) wh hu (by have:=HF hw.m;omega) n7;rw[<-Is]at Ye;refine bd.mk [] _ _ (.refl _) Ye ?_;rintro v amW N akT⟨-,rfl,h,rfl,cK,amX,dJ⟩;have Bh:=HN.mono akT;have dJ:h.ds.map a2.a6=(jE g.ds u t2).map a2.a6:=by unfold jE;rw[OP];exact dJ
 refine cP.mk (λ_=>?_) (λh=>absurd h (by simp));refine cP.mk (λ_=>?_) (λh=>absurd h (by simp));refine a9.mk (λab=>absurd ab (by simp)) (λ_=>?_);refine bd.mk [] _ _ (.refl _) (Re Bh cK) ?_;rintro v amY N OR⟨rfl,-,rfl⟩;by_cases hm:eH lJ h=0
 rotate_left
 ·refine cP.mk (λh=>absurd h (by simp[hm])) (λ_=>?_);exact⟨_,_,.refl,rfl⟩
 refine cP.mk (λ_=>?_) (λh=>absurd h (by simp[hm]));have Yf:=cK.mono OR;refine bd.mk [] _ _ (.refl _) (Nr (Bh.mono OR) Yf (akL (Bh.mono OR) Yf hm).ae) ?_;rintro v amZ N am0⟨-,rfl,rb,rfl,la⟩;have a':=akM hw aY hu bs bC ez dJ hm la;refine⟨_,_,.refl,?_⟩;simp[a']
end Go.V
