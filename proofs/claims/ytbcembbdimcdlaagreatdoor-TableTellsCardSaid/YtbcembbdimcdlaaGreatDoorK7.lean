/- Part 7 of what the proofs of this seat share: the executor, data in memory, walks.
-/
import Derived.Test.YtbcembbdimcdlaaGreatDoorK6
import Derived.Test.YtbcembbdimcdlaaGreatDoorK4
import Derived.Test.YtbcembbdimcdlaaGreatDoorK3
import Derived.Test.YtbcembbdimcdlaaGreatDoorK2
import Derived.Test.YtbcembbdimcdlaaGreatDoorK5
set_option linter.all false
set_option maxHeartbeats 8000000
set_option maxRecDepth 100000
namespace Go.V
open Go Go.Proofs
def wD:=@List.drop_of_length_le
def DQ:=@List.filter_append
def PT:=@Nat.testBit_two_pow_sub_one
variable{E:Env}{t e n W N j q size av:Nat}{I:aH}{lo hi mx:Operand}{M0 M:List aE}{os:a'}{ki:cu}{α R:Type}{op:Op}{dst:Option Nat}{D br:bH}{F en:Fr}{call:al->List al->bo->Option (al×bo)}{ops:List Oper}{β:Nat->Nat}{Q:Exit->Act->World->Prop}{Y:gE}{row:List (Nat×Nat)}
def cC.u2{P:Program}(aP:cY P E){dn:dU}{x y:Operand}(au:E t=some dn)(cO:dn.bK=.pointer e){p:Option Addr}{V:Value->Prop}{other:Prop}
  (h:V (.bool p.isNone)):cC P .eql t x y (.val (.pointer p)) (.val (.pointer none)) V other:=by
 obtain⟨d,fy,eX⟩:=(aP _ _ au).fk;have aa:d=.pointer e:=by rw[cO]at eX;cases d<;>simp_all[fj]
 subst aa;refine .mk _ _ _ rfl rfl (λw=>?_) h;have aC:(eqGuard .eql t x y (.pointer p) (.pointer none)).run P w=.ok () w:=by unfold eqGuard;rfl
 have ay:(Op.equal t (.pointer p) (.pointer none)).run P w=.ok p.isNone w:=by
  have key:∀ d,(Op.equalIn (d+1) t (.pointer p) (.pointer none)).run P w=.ok p.isNone w:=λd=>by cases p<;>simp[Op.equalIn,run_underlying fy]
  exact key 9999
 simp only[ca,aC,bR,binOp];simp[ay]
def XJ{g:cE}(hm:me g)(dY:∀ d∈g.ds,∀ n∈d.t.ns,0<=n.k){s:ByteArray}(ap:s.size<=4096):y3 (gZ g s):=by
 have a5:=NO hm dY (s:=s) (av:=0) (bi _) ap;have aw:(gZ g s).ns.length=(rn g s 0).ns.length:=by simp[gZ,rn]
 refine⟨λa ax=>?_,bi _,ap⟩;obtain⟨b,ag,rfl⟩:=dp.1 ax;have h:=a5.ns b ag;exact⟨h.k,λx ab=>by rw[aw];exact h.bL x ab,h.many,h.one,h.l7,h.len⟩
def lj.XK{g:cE}{s:ByteArray}{t:dt}{T:Nat->Nat->bW}(h:lj I g s t T)(hm:me g)(dY:∀ d∈g.ds,∀ n∈d.t.ns,0<=n.k)(ap:s.size<=4096):rI I t T:=by obtain⟨la,cq⟩:=DM hm dY ap;refine⟨h.ok,h.inv,λk b _=>by rw[h.P];exact h.all k b,h.n0,λk af=>?_,λk=>by rw[h.P];exact la k,by rw[h.P];exact XJ hm dY ap⟩;rw[h.P,h.nn];exact cq k (by rw[<-h.nn];exact af)
inductive u3(P:cu)(k a:Nat)(o:rq)(e:Int):Prop
 |none(h:(bj P k a).aA=0)(ar:o=ll)(he:e=5)| fail (h:(bj P k a).aA=2) (ar:o=ll) (he:e=0)| many (h:(bj P k a).aA=3) (an:65536<(bj P k a).n) (ar:o=ll) (he:e=40)| is (h:(bj P k a).aA=3) (an:(bj P k a).n<=65536) (he:e=0) (a5:o.ok=true) (iz:o.to=(bj P k a).to) (aw:o.caps.length=(bj P k a).n) (aB:∃ N,ga P (cJ P) N [(k,a)] o.caps) (fB:nf a (bj P k a).to o.caps)
def PU{P:cu}{c:bW}{k a:Nat}(aa:c.aA<=2)(h:c.ce=bj P k a):(c.aA=0/\(bj P k a).aA=0)\/(c.aA=1/\(bj P k a).aA=2)\/(c.aA=2/\(bj P k a).aA=3/\(bj P k a).n=c.n/\(bj P k a).to=c.to):=by
 rw[<-h];rcases rs aa with⟨e,a4⟩ | ⟨e,a4⟩ | ⟨e,a4⟩
 ·exact .inl ⟨e,by rw[a4];rfl⟩
 ·exact .inr (.inl ⟨e,by rw[a4];rfl⟩)
 ·exact .inr (.inr ⟨e,by rw[a4];exact⟨rfl,rfl,rfl⟩⟩)
def XL{P:cu}(ag:P.a0=0)(a1:P.s.size<=4096)(an:∀ k,pA P k){k a:Nat}(ax:a<=P.s.size)(ae:(bj P k a).aA=3):∃ n l,ga P (cJ P) n [(k,a)] l/\mb l (min (bj P k a).n 65537)/\nf a (bj P k a).to l:=by have e:cJ P k a=jV (bj P k a):=oD ax;obtain⟨n,l,hY,hD,h'⟩:=Vx ag a1 an k a (by rw[e];exact ae);rw[ag,dK]at hY h';rw[e]at hD h';exact⟨n,l,hY,hD,h'⟩
section
variable{I:aH}{t:dt}{T:Nat->Nat->bW}
def XM{lo:Nat}(h:rI I t T lo){k a:Nat}(af:k<t.nn)(uS:lo<=a)(ax:a<=t.s.size):Spec Tryz.prog 59 [ptr t.bt,.int .i64 k,.int .i64 a] I [] λv I' M'=>I'=I/\∃ (gP:a') (o:rq) (e:Int),u3 t.P k a o e/\v=.tuple #[u1 o gP.val,.int .i64 e]/\gP.ok 3 (o.caps.flatMap eD.cells)/\M'=gP.aQ 110:=by
 refine bU [] aT Tryz.func59 rfl rfl rfl ?_;intro B aq;have a5:=h.ok;have cr:=a5.sz;have ea:t.n0<t.nn->∀ M:List aE,t.aQ T∈M:=λe=>absurd e (by have:=h.n0;omega);obtain⟨c1,jX,r,ao,hx,-,ie⟩:=a5.row af;obtain⟨k9,hX,lL⟩:=h.inv.rg k a af ax;have hX:(T k a).to<=t.s.size:=hX;have cf:=PU (h.inv.aA k a) (h.all k a uS);have eg:cJ t.P k a=jV (bj t.P k a):=oD (show a<=t.P.s.size from ax);refine aD.mk _ (a5.dH (j:=4) (by decide)) ?_;refine a7.mk c1 k jX rfl af ?_;refine aD.mk _ (hx _) ?_;refine a7.mk r a rfl rfl (by show a<t.s.size+1;omega) ?_;refine aD.mk _ (ie _ (λe=>ea e _) a ax) ?_;generalize T k a=c at *;refine aI.mk (λe=>?_) (λe=>?_)
 ·have a4:c.aA=0:=by have:=cv e;omega
  rcases cf with cf | cf | cf;·exact⟨_,_,.refl,rfl,jd,ll,5,.none cf.2 rfl rfl,rfl,ka 3,rfl⟩
  ·omega
  ·omega
 have cd:c.aA≠0:=by have:=ct e;omega
 refine aI.mk (λe=>?_) (λe=>?_)
 ·have a4:c.aA=1:=by have:=cv e;omega
  rcases cf with cf | cf | cf;·omega
  ·refine aZ.whole _ ahC ?_;rintro v I' M' -⟨rfl,rfl,rfl⟩;exact⟨_,_,.refl,rfl,jd,ll,0,.fail cf.2 rfl rfl,rfl,ka 3,rfl⟩
  ·omega
 have aC:c.aA≠1:=by have:=ct e;omega
 rcases cf with cf | cf | cf
 ·omega
 ·omega
 obtain⟨-,bq,eK,mY⟩:=cf;refine aI.mk (λe=>?_) (λe=>?_)
 ·have a4:65536<c.n:=by have:=cv e;omega
  exact⟨_,_,.refl,rfl,jd,ll,40,.many bq (by omega) rfl rfl,rfl,ka 3,rfl⟩
 have a4:c.n<=65536:=by have:=ct e;omega
 obtain⟨n,l,hY,hD,h'⟩:=XL rfl (show t.P.s.size<=4096 from cr) h.na (show a<=t.P.s.size from ax) bq;have nx:l.length=c.n:=by have:=hD.1 (by omega);omega
 refine aW.mk (c.to:Int) (e0 rfl (by omega)) ?_;refine aZ.whole _ (ahD c.to) ?_;rintro v I' M' -⟨rfl,rfl,rfl⟩;refine aZ.whole _ (ahv h af uS ax (by rw[eg];exact bq) hY (by omega)) ?_;rintro v I' M' -⟨rfl,gP,rfl,tF,rfl⟩;exact⟨_,_,.refl,rfl,gP,⟨true,c.to,l⟩,0,.is bq (by omega) rfl rfl mY.symm (by rw[eK];exact nx) ⟨n,hY⟩ h',rfl,tF,rfl⟩
def ij(n z:Nat)(rule a:Int):Bool:=decide (0<=rule)&&(decide (rule<(n:Int))&&(decide (0<=a)&&decide (a<=(z:Int))))
def XN(h:rI I t T){c1:Option Addr}{ez:Nat}(oN:t.rv=.slice c1 n ez)(rule a:Int):Spec Tryz.prog 58 [ptr t.bt,.int .i64 rule,.int .i64 a] I M0 λv I' M'=>v=.bool (ij n t.s.size rule a)/\I'=I/\M'=M0:=by
 refine bU [] aT Tryz.func58 rfl rfl rfl ?_;intro B aq;have a5:=h.ok;have hh:t.cb.getD 2 undef=.slice c1 n ez:=oN;have aa:∀ M,bD I M ((⟨t.bt,0,none⟩:Addr).add 2) 1 [.slice c1 n ez]:=λM=>by have:=a5.dH (M:=M) (j:=2) (by decide);rwa [hh]at this
 refine bP.mk (λaV=>?_) (λaV=>?_)
 ·have aV:decide (0<=rule)=true:=aV;refine aD.mk _ (aa _) ?_;refine bP.mk (λaX=>?_) (λaX=>?_)
  ·have aX:decide (rule<(n:Int))=true:=aX;refine bP.mk (λbq=>?_) (λbq=>?_)
   ·have bq:decide (0<=a)=true:=bq;refine aD.mk _ (a5.dH (j:=0) (by decide)) ?_;exact⟨_,_,.refl,by rw[ij,aV,aX,bq];rfl,rfl,rfl⟩
   ·have bq:decide (0<=a)=false:=bq;exact⟨_,_,.refl,by rw[ij,aV,aX,bq];rfl,rfl,rfl⟩
  ·have aX:decide (rule<(n:Int))=false:=aX;exact⟨_,_,.refl,by rw[ij,aV,aX];rfl,rfl,rfl⟩
 ·have aV:decide (0<=rule)=false:=aV;exact⟨_,_,.refl,by rw[ij,aV];rfl,rfl,rfl⟩
def Kp{z:Nat}{rule a:Int}(h:ij n z rule a=true):∃ i j:Nat,rule=i/\a=j/\i<n/\j<=z:=by simp only[ij,cA,e7]at h;exact⟨rule.toNat,a.toNat,by omega,by omega,by omega,by omega⟩
end
section
variable{I:aH}{g:cE}{s:ByteArray}{t:dt}{T:Nat->Nat->bW}
def lj.bJ(h:lj I g s t T)(hm:me g){i:Nat}(hi:i<g.n)(fU:g.ds.length=g.n):∃ c1 ez,t.rv=.slice c1 g.n ez/\jw g i<t.nn/\∃ ad,c1=some ad/\∀ M,bD I M (ad.add (i*1)) 1 [.int .i64 (jw g i)]:=by
 obtain⟨c1,ez,U,aa⟩:=h.rv;have aw:i<(ff 0 g.ds).length:=by rw[v3];omega
 have e:jw g i=(ff 0 g.ds)[i]:=by simp[jw,dI,aw]
 obtain⟨ad,dJ,c9⟩:=aa.one (f:=bE) hi aw;refine⟨c1,ez,U,?_,ad,dJ,λM=>by rw[e];exact c9 M⟩;have:=y8 0 g.ds (λd ah=>(hm.r d ah).bJ) _ (cZ aw);rw[e,h.nn];omega
inductive BA(g:cE)(s:ByteArray)(rule a:Int)(o:rq)(e:Int):Prop
 |no(h:ij g.n s.size rule a=false)(ar:o=ll)(he:e=1)| is (i j:Nat) (hi:rule=i) (ak:a=j) (eW:i<g.n) (ju:j<=s.size) (h:u3 (gZ g s) (jw g i) j o e)
def XO(h:lj I g s t T)(hm:me g)(lR:rI I t T)(fU:g.ds.length=g.n)(rule a:Int):Spec Tryz.prog 14 [ptr t.bt,.int .i64 rule,.int .i64 a] I [] λv I' M'=>I'=I/\∃ (gP:a') (o:rq) (e:Int),BA g s rule a o e/\v=.tuple #[u1 o gP.val,.int .i64 e]/\gP.ok 3 (o.caps.flatMap eD.cells)/\M'=gP.aQ 110:=by
 refine bU [] aT Tryz.func14 rfl rfl rfl ?_;intro B aq;obtain⟨c1,ez,oN,-⟩:=h.rv;refine cC.u2 aT rfl rfl ?_;refine aI.mk (λe=>by cases e) (λ_=>?_);have xS:=XN lR oN rule a (M0:=[]);rw[h.ts]at xS;refine aZ.whole _ xS ?_;rintro v I' M' -⟨rfl,rfl,rfl⟩;refine aI.mk (λe=>?_) (λe=>?_)
 ·have a4:ij g.n s.size rule a=false:=by simpa using e
  exact⟨_,_,.refl,rfl,jd,ll,1,.no a4 rfl rfl,rfl,ka 3,rfl⟩
 have a4:ij g.n s.size rule a=true:=by simpa using e
 obtain⟨i,j,rfl,rfl,hi,ak⟩:=Kp a4;obtain⟨XP,XQ,zE,ik,ad,bI,bl⟩:=h.bJ hm hi fU;rw[oN]at zE;cases zE;have hh:t.cb.getD 2 undef=.slice c1 g.n ez:=oN;have aa:∀ M,bD I' M ((⟨t.bt,0,none⟩:Addr).add 2) 1 [.slice c1 g.n ez]:=λM=>by have:=lR.ok.dH (M:=M) (j:=2) (by decide);rwa [hh]at this
 refine aD.mk _ (aa _) ?_;refine a7.mk ad i bI rfl hi ?_;refine aD.mk _ (bl _) ?_;refine aZ.whole _ (XM lR ik (bi _) (by rw[h.ts];exact ak)) ?_;rintro v eU eJ -⟨rfl,gP,o,ay,qg,rfl,tF,rfl⟩;rw[h.P]at qg;exact⟨_,_,.refl,rfl,gP,o,ay,.is i j rfl rfl hi ak qg,rfl,tF,rfl⟩
inductive GZ(g:cE)(s:ByteArray)(rule a:Int)(n:Nat)(e:Int):Prop
 |no(h:ij g.n s.size rule a=false)(an:n=0)(he:e=1)| none (i j:Nat) (hi:rule=i) (ak:a=j) (eW:i<g.n) (ju:j<=s.size) (h:(bj (gZ g s) (jw g i) j).aA=0) (an:n=0) (he:e=5)| fail (i j:Nat) (hi:rule=i) (ak:a=j) (eW:i<g.n) (ju:j<=s.size) (h:(bj (gZ g s) (jw g i) j).aA=2) (an:n=0) (he:e=0)| is (i j:Nat) (hi:rule=i) (ak:a=j) (eW:i<g.n) (ju:j<=s.size) (h:(bj (gZ g s) (jw g i) j).aA=3) (an:n=(bj (gZ g s) (jw g i) j).n) (he:e=0)
def ahE(h:lj I g s t T)(hm:me g)(lR:rI I t T)(fU:g.ds.length=g.n)(rule a:Int):Spec Tryz.prog 24 [ptr t.bt,.int .i64 rule,.int .i64 a] I M0 λv I' M'=>I'=I/\M'=M0/\∃ (n:Nat) (e:Int),GZ g s rule a n e/\v=.tuple #[.int .i64 n,.int .i64 e]:=by
 refine bU [] aT Tryz.func24 rfl rfl rfl ?_;intro B aq;obtain⟨c1,ez,oN,-⟩:=h.rv;refine cC.u2 aT rfl rfl ?_;refine aI.mk (λe=>by cases e) (λ_=>?_);have xS:=XN lR oN rule a (M0:=M0);rw[h.ts]at xS;refine aZ.whole _ xS ?_;rintro v I' M' -⟨rfl,rfl,rfl⟩;refine aI.mk (λe=>?_) (λe=>?_)
 ·have a4:ij g.n s.size rule a=false:=by simpa using e
  exact⟨_,_,.refl,rfl,rfl,0,1,.no a4 rfl rfl,rfl⟩
 have a4:ij g.n s.size rule a=true:=by simpa using e
 obtain⟨i,j,rfl,rfl,hi,ak⟩:=Kp a4;obtain⟨XP,XQ,zE,ik,ad,bI,bl⟩:=h.bJ hm hi fU;rw[oN]at zE;cases zE;have a5:=lR.ok;have gx:j<=t.s.size:=by rw[h.ts];exact ak
 have ea:t.n0<t.nn->∀ M:List aE,t.aQ T∈M:=λe=>absurd e (by have:=lR.n0;omega);have hh:t.cb.getD 2 undef=.slice c1 g.n ez:=oN;have aa:∀ M,bD I' M ((⟨t.bt,0,none⟩:Addr).add 2) 1 [.slice c1 g.n ez]:=λM=>by have:=a5.dH (M:=M) (j:=2) (by decide);rwa [hh]at this
 obtain⟨PV,PW,r,ao,hx,-,ie⟩:=a5.row ik;have cf:=PU (lR.inv.aA (jw g i) j) (h.all (jw g i) j);refine cU.draw aT rfl rfl rfl ?_;refine aD.mk _ (a5.dH (j:=4) (by decide)) ?_;refine aD.mk _ (aa _) ?_;refine a7.mk ad i bI rfl hi ?_;refine aD.mk _ (bl _) ?_;refine a7.mk PV (jw g i) PW rfl ik ?_;refine aD.mk _ (hx _) ?_;refine a7.mk r j rfl rfl (by show j<t.s.size+1;omega) ?_;refine aD.mk _ (ie _ (λe=>ea e _) j gx) ?_;generalize T (jw g i) j=c at *;refine cw.mk λfc On Oo=>?_;refine cV.mk [] _ _ _ rfl rfl (bN rfl) rfl ?_;have fg:∀ {M:List aE} j,j+1<=4->(⟨fc,.cells c.cells.toArray 106 (0,0)⟩:aE)∈M->bD I' M ((⟨fc,0,none⟩:Addr).add j) 1 ((c.cells.drop j).take 1):=λj ak bb=>dP bb ak;refine aD.mk _ (fg 2 (by decide) (.head _)) ?_;refine aI.mk (λe=>?_) (λe=>?_)
 ·have a4:c.aA=0:=by have:=cv e;omega
  rcases cf with cf | cf | cf;·exact⟨_,_,.sub (.cons _ (.refl _)) .refl,rfl,rfl,0,5,.none i j rfl rfl hi ak cf.2 rfl rfl,rfl⟩
  ·omega
  ·omega
 have cd:c.aA≠0:=by have:=ct e;omega
 refine aI.mk (λe=>?_) (λe=>?_)
 ·have a4:c.aA=1:=by have:=cv e;omega
  rcases cf with cf | cf | cf;·omega
  ·exact⟨_,_,.sub (.cons _ (.refl _)) .refl,rfl,rfl,0,0,.fail i j rfl rfl hi ak cf.2 rfl rfl,rfl⟩
  ·omega
 have aC:c.aA≠1:=by have:=ct e;omega
 rcases cf with cf | cf | cf
 ·omega
 ·omega
 refine aD.mk _ (fg 0 (by decide) (.head _)) ?_;exact⟨_,_,.sub (.cons _ (.refl _)) .refl,rfl,rfl,c.n,0,.is i j rfl rfl hi ak cf.2.1 cf.2.2.1.symm rfl,rfl⟩
end
def ahF(n:Nat)(an:n<64):Spec Tryz.prog 213 [.int .i64 n] I [] λv I' M'=>v=.int .u64 ((2^n:Nat):Int)/\I'=I/\M'=[]:=by
 refine bU [] aT Tryz.func213 rfl rfl rfl ?_;intro B aq;refine cx.inv (ι:=Nat) (λi=>{ cc:=[(0,.val (.int .i64 n)),(3,.val (.int .u64 ((2^i:Nat):Int))),(4,.val (.int .i64 i))],ck:=I }) (λi=>i<=n) (λi=>n-i) ?_ ?_
 ·exact⟨0,bi _,.refl,dO,.nil⟩
 intro i hi;refine aI.mk (λh=>?_) (λh=>?_)
 ·have aO:i<n:=by simpa using h
  have aK:2^(i+1)<=2^63:=Mz (by omega) (by omega);have e:((2^i:Nat):Int)*2=((2^(i+1):Nat):Int):=by rw[Nat.pow_succ];simp
  refine aW.mk ((2^(i+1):Nat):Int) (by rw[e];exact vJ ⟨Db _,by omega⟩) ?_;refine aW.mk _ (b0 (i:=i) (by omega)) ?_;exact⟨i+1,⟨aO,by omega⟩,.refl,dO,.nil⟩
 ·have:i=n:=by simp at h;omega
  subst this;exact⟨_,_,.refl,rfl,rfl,rfl⟩
def ln(ws:List Int)(n:Nat):Bool:=(ws.getD (n/64) 0).toNat.testBit (n%64)
def ahG{w:Int}(hw:fo w)(k:Nat):decide ((w.tdiv ((2^k:Nat):Int)).tmod 2=1)=w.toNat.testBit k:=by obtain⟨n,rfl⟩:=iN hw.1;rw[T9];have e:((n:Int).tdiv ((2^k:Nat):Int)).tmod 2=((n/2^k%2:Nat):Int):=rfl;rw[e,mm];congr 1;simp only[eq_iff_iff];omega
def XR{a b c d:Int}(gl:∀ x∈[a,b,c,d],fo x)(x:UInt8):Spec Tryz.prog 173 [.agg #[.int .u64 a,.int .u64 b,.int .u64 c,.int .u64 d],.int .u8 x.toNat] I [] λv I' M'=>v=.bool (ln [a,b,c,d] x.toNat)/\I'=I/\M'=[]:=by
 have ab:=x.toNat_lt;have key:∀ (w:Int) (j:Nat),x.toNat/64=j->[a,b,c,d].getD j 0=w->fo w->decide ((w.tdiv ((2^(x.toNat%64):Nat):Int)).tmod 2=1)=ln [a,b,c,d] x.toNat:=λw j ak hw hu=>by rw[ahG hu,ln,ak,hw]
 have DR:=ahF (I:=I) (x.toNat%64) (by omega);have iw:(0:Int)<((2^(x.toNat%64):Nat):Int):=by have:=Nat.two_pow_pos (x.toNat%64);omega
 have em:((x.toNat:Int)).tmod 64=((x.toNat%64:Nat):Int):=rfl;have kt:((x.toNat:Int)).tdiv 64=((x.toNat/64:Nat):Int):=rfl;have hdiv:∀ w:Int,fo w->IntKind.u64.wrap (w.tdiv ((2^(x.toNat%64):Nat):Int))=w.tdiv ((2^(x.toNat%64):Nat):Int):=λw hw=>by obtain⟨n,rfl⟩:=iN hw.1;have e:(n:Int).tdiv ((2^(x.toNat%64):Nat):Int)=((n/2^(x.toNat%64):Nat):Int):=rfl;rw[e];have U:=Nat.div_le_self n (2^(x.toNat%64));have aa:=hw.2;generalize n/2^(x.toNat%64)=q at *;exact vJ ⟨by omega,by omega⟩
 refine bU [] aT Tryz.func173 rfl rfl rfl ?_;intro B aq;refine cU.draw aT rfl rfl rfl ?_;refine aW.mk (x.toNat:Int) (wrap_i64 ⟨by omega,by omega⟩) ?_;refine h0.mk (by decide) ?_;rcases(by omega:x.toNat/64=0\/x.toNat/64=1\/x.toNat/64=2\/x.toNat/64=3)with ak | ak | ak | ak
 ·refine aW.mk 0 (by rw[kt,ak];decide) ?_;refine eN.mk 0 rfl (by decide) ?_;refine aW.mk (x.toNat:Int) (wrap_i64 ⟨by omega,by omega⟩) ?_;refine h0.mk (by decide) ?_;refine kU.mk _ DR ?_;rintro v J N -⟨rfl,rfl,rfl⟩;refine h0.mk (by omega) ?_;refine aW.mk _ (hdiv a (gl a (by simp))) ?_;refine h0.mk (by decide) ?_;exact⟨_,_,.refl,congrArg Value.bool (key a 0 ak rfl (gl a (by simp))),rfl,rfl⟩
 ·refine aW.mk 1 (by rw[kt,ak];decide) ?_;refine eN.mk 1 rfl (by decide) ?_;refine aW.mk (x.toNat:Int) (wrap_i64 ⟨by omega,by omega⟩) ?_;refine h0.mk (by decide) ?_;refine kU.mk _ DR ?_;rintro v J N -⟨rfl,rfl,rfl⟩;refine h0.mk (by omega) ?_;refine aW.mk _ (hdiv b (gl b (by simp))) ?_;refine h0.mk (by decide) ?_;exact⟨_,_,.refl,congrArg Value.bool (key b 1 ak rfl (gl b (by simp))),rfl,rfl⟩
 ·refine aW.mk 2 (by rw[kt,ak];decide) ?_;refine eN.mk 2 rfl (by decide) ?_;refine aW.mk (x.toNat:Int) (wrap_i64 ⟨by omega,by omega⟩) ?_;refine h0.mk (by decide) ?_;refine kU.mk _ DR ?_;rintro v J N -⟨rfl,rfl,rfl⟩;refine h0.mk (by omega) ?_;refine aW.mk _ (hdiv c (gl c (by simp))) ?_;refine h0.mk (by decide) ?_;exact⟨_,_,.refl,congrArg Value.bool (key c 2 ak rfl (gl c (by simp))),rfl,rfl⟩
 ·refine aW.mk 3 (by rw[kt,ak];decide) ?_;refine eN.mk 3 rfl (by decide) ?_;refine aW.mk (x.toNat:Int) (wrap_i64 ⟨by omega,by omega⟩) ?_;refine h0.mk (by decide) ?_;refine kU.mk _ DR ?_;rintro v J N -⟨rfl,rfl,rfl⟩;refine h0.mk (by omega) ?_;refine aW.mk _ (hdiv d (gl d (by simp))) ?_;refine h0.mk (by decide) ?_;exact⟨_,_,.refl,congrArg Value.bool (key d 3 ak rfl (gl d (by simp))),rfl,rfl⟩
def hG(p:Nat->Bool):Nat->Nat->Nat
 |0,t=>t| f+1,t=>bif p (t+1)then hG p f (t+1)else t
def nZ(p:Nat->Bool)(i:Nat):Bool:=p i&&(decide (i=0) || !p (i-1))
def oO(p:Nat->Bool)(n:Nat):List (UInt8×UInt8):=((List.range n).filter (nZ p)).map λi=>(UInt8.ofNat i,UInt8.ofNat (hG p (255-i) i))
def XS(p:Nat->Bool)(n:Nat):oO p (n+1)=oO p n++(bif nZ p n then [(UInt8.ofNat n,UInt8.ofNat (hG p (255-n) n))]else []):=by
 unfold oO;rw[zc,DQ,fC];cases h:nZ p n<;>simp[h]
def XT(p:Nat->Bool)(n:Nat):(oO p n).length<=n:=by have:=Cq (nZ p) (List.range n);simpa[oO]using this
def Kq{a2:List (UInt8×UInt8)}{x:UInt8×UInt8}(cj:os.ok 2 (kA a2)){g c:Nat}{aS:List Value}(U:aS.length=c*2)(aa:os.n+1<=c)(ae:c<=maxLen)(aR:aS.take ((os.n+1)*2)=kA a2++f' x) :
  a'.ok ⟨some g,os.n+1,c,aS⟩ 2 (kA (a2++[x])):=by
 have uk:kA (a2++[x])=kA a2++f' x:=by simp[kA]
 have aw:=cj.len;refine⟨?_,(λh=>by cases h),λbq mI=>⟨U,aa,ae,by rw[uk];exact aR⟩⟩;rw[uk,b5,aw];simp[f'];omega
def wE(h:n<256):(UInt8.ofNat n).toNat=n:=by rw[UInt8.toNat_ofNat'];omega
def qF(h:n<256):IntKind.u8.wrap (n:Int)=((UInt8.ofNat n).toNat:Int):=by rw[wE h];simp[IntKind.wrap,IntKind.signed,IntKind.bits];omega
def ahH{a b c d:Int}(gl:∀ x∈[a,b,c,d],fo x)(an:n<256):Spec Tryz.prog 173 [.agg #[.int .u64 a,.int .u64 b,.int .u64 c,.int .u64 d],.int .u8 (UInt8.ofNat n).toNat] I [] λv I' M'=>v=.bool (ln [a,b,c,d] n)/\I'=I/\M'=[]:=by have h:=XR (I:=I) gl (UInt8.ofNat n);rwa [show ln [a,b,c,d] (UInt8.ofNat n).toNat=ln [a,b,c,d] n from by rw[wE an]]at h
def ahI{a b c d:Int}(gl:∀ x∈[a,b,c,d],fo x):Spec Tryz.prog 273 [.agg #[.int .u64 a,.int .u64 b,.int .u64 c,.int .u64 d]] I [] λv I' M'=>I'=I/\∃ os:a',v=os.val/\os.ok 2 (kA (oO (ln [a,b,c,d]) 256))/\M'=os.aQ 339:=by
 refine bU [] aT Tryz.func273 rfl rfl rfl ?_;intro B aq;generalize aK:ln [a,b,c,d]=p;have jn:∀ {n:Nat},n<256->Spec Tryz.prog 173 [.agg #[.int .u64 a,.int .u64 b,.int .u64 c,.int .u64 d],.int .u8 (UInt8.ofNat n).toNat] I [] λv I' M'=>v=.bool (p n)/\I'=I/\M'=[]:=λan=>by rw[<-aK];exact ahH gl an
 refine cx.inv (ι:=Nat×a') (λx=>{ cc:=[(1,.ref 1 0),(3,.val x.2.val),(4,.val (.int .i64 x.1))],cl:=[(1,xi a b c d)],ck:=I,de:=x.2.aQ 339 }) (λx=>x.1<=256/\x.2.ok 2 (kA (oO p x.1))) (λx=>256-x.1) ?_ ?_
 ·exact⟨(0,jd),⟨by simp,ka 2⟩,.refl,dO,.cons rfl .nil⟩
 rintro⟨n,os⟩⟨an,cj⟩;simp only at an cj;have aot:os.n<=256:=by have U:=cj.len;have aa:=XT p n;rw[CJ]at U;omega
 have DS:=XS p n;refine aI.mk (λh=>?_) (λh=>?_)
 ·have aO:n<256:=by simp at h;omega
  refine aW.mk _ (qF aO) ?_;refine aZ.mk [] (os.aQ 339) _ (.refl _) (jn aO) ?_;rintro v J N -⟨rfl,cm,rfl⟩;subst J;refine bP.mk (λU=>?_) (λU=>?_)
  ·have iU:p n=true:=by simpa using U
   refine bP.mk (λaa=>?_) (λaa=>?_)
   ·have kP:0<n:=by simpa using aa
    refine aW.mk ((n-1:Nat):Int) (by rw[wrap_i64 ⟨by omega,by omega⟩];omega) ?_;refine aW.mk _ (qF (n:=n-1) (by omega)) ?_;refine aZ.mk [] (os.aQ 339) _ (.refl _) (jn (n:=n-1) (by omega)) ?_;rintro v J N -⟨rfl,cm,rfl⟩;subst J;refine aI.mk (λae=>?_) (λae=>?_)
    ·refine aW.mk _ (b0 (i:=n) (by omega)) ?_;refine⟨(n+1,os),⟨⟨by simp only;omega,?_⟩,by simp only;omega⟩,.refl,dO,.cons rfl .nil⟩;simp only;have cf:nZ p n=false:=by
      have e:decide (n=0)=false:=by simp;omega
      rw[nZ,iU,ae,e];rfl
     rw[DS,cf,bd,c8];exact cj
    have cf:nZ p n=true:=by rw[nZ,iU,ae];simp
    refine cx.inv (ι:=Nat) (λt=>{ cc:=[(1,.ref 1 0),(3,.val os.val),(4,.val (.int .i64 n)),(5,.val (.int .i64 t))],cl:=[(1,xi a b c d)],ck:=I,de:=os.aQ 339 }) (λt=>n<=t/\t<=255/\hG p (255-n) n=hG p (255-t) t) (λt=>255-t) ?_ ?_;·exact⟨n,⟨b1 _,by omega,rfl⟩,.refl,ec,.cons rfl .nil⟩
    intro t ⟨vP,qg,y1⟩;refine bP.mk (λaR=>?_) (λaR=>?_)
    ·have PX:t<255:=by simp at aR;omega
     have l6:hG p (255-t) t=bif p (t+1)then hG p (255-(t+1)) (t+1)else t:=by rw[show 255-t=(255-(t+1))+1 from by omega,hG]
     refine aW.mk _ (b0 (i:=t) (by omega)) ?_;refine aW.mk _ (qF (n:=t+1) (by omega)) ?_;refine aZ.mk [] (os.aQ 339) _ (.refl _) (jn (n:=t+1) (by omega)) ?_;rintro v J N -⟨rfl,cm,rfl⟩;subst J;refine aI.mk (λbn=>?_) (λbn=>?_);·refine aW.mk _ (b0 (i:=t) (by omega)) ?_;exact⟨t+1,⟨⟨by omega,by omega,by rw[y1,l6,bn,bg]⟩,by omega⟩,.refl,ec,.cons rfl .nil⟩
     ·have BB:hG p (255-n) n=t:=by rw[y1,l6,bn,bd]
      refine aW.mk _ (qF (n:=n) (by omega)) ?_;refine aW.mk _ (qF (n:=t) (by omega)) ?_;refine cw.mk λb9 fK xn=>?_;refine bp.yA aT rfl (by simp) (e:=339) rfl rfl rfl os cj rfl (m:=1) rfl (bV:=f' (UInt8.ofNat n,UInt8.ofNat t)) (by decide) (dP (b:=b9) (cs:=f' (UInt8.ofNat n,UInt8.ofNat t)) (k:=0) (n:=2) (T:=339) (.head _) (b1 2)) rfl (Mr:=[⟨b9,.cells (f' (UInt8.ofNat n,UInt8.ofNat t)).toArray 339 (0,0)⟩]) (fR (l₁:=[_])) (by simp only[maxLen];omega) (by show(os.n+1)*2<=_;omega) ?_;intro dz c' gY xT dJ c9 dT fL;refine aW.mk _ (b0 (i:=n) (by omega)) ?_;refine⟨(n+1,⟨some dz,os.n+1,c',gY⟩),⟨⟨by simp only;omega,?_⟩,by simp only;omega⟩,.sub (List.Sublist.cons_cons _ (eG _)) .refl,dO,.cons rfl .nil⟩;simp only;rw[DS,cf,bg,BB];exact Kq cj dJ c9 dT fL
    ·have FQ:t=255:=by simp at aR;omega
     have BB:hG p (255-n) n=t:=by rw[y1,FQ];rfl
     refine aW.mk _ (qF (n:=n) (by omega)) ?_;refine aW.mk _ (qF (n:=t) (by omega)) ?_;refine cw.mk λb9 fK xn=>?_;refine bp.yA aT rfl (by simp) (e:=339) rfl rfl rfl os cj rfl (m:=1) rfl (bV:=f' (UInt8.ofNat n,UInt8.ofNat t)) (by decide) (dP (b:=b9) (cs:=f' (UInt8.ofNat n,UInt8.ofNat t)) (k:=0) (n:=2) (T:=339) (.head _) (b1 2)) rfl (Mr:=[⟨b9,.cells (f' (UInt8.ofNat n,UInt8.ofNat t)).toArray 339 (0,0)⟩]) (fR (l₁:=[_])) (by simp only[maxLen];omega) (by show(os.n+1)*2<=_;omega) ?_;intro dz c' gY xT dJ c9 dT fL;refine aW.mk _ (b0 (i:=n) (by omega)) ?_;refine⟨(n+1,⟨some dz,os.n+1,c',gY⟩),⟨⟨by simp only;omega,?_⟩,by simp only;omega⟩,.sub (List.Sublist.cons_cons _ (eG _)) .refl,dO,.cons rfl .nil⟩;simp only;rw[DS,cf,bg,BB];exact Kq cj dJ c9 dT fL
   ·have cf:nZ p n=true:=by
     have e:n=0:=by simp at aa;omega
     rw[nZ,iU,e];rfl
    refine cx.inv (ι:=Nat) (λt=>{ cc:=[(1,.ref 1 0),(3,.val os.val),(4,.val (.int .i64 n)),(5,.val (.int .i64 t))],cl:=[(1,xi a b c d)],ck:=I,de:=os.aQ 339 }) (λt=>n<=t/\t<=255/\hG p (255-n) n=hG p (255-t) t) (λt=>255-t) ?_ ?_;·exact⟨n,⟨b1 _,by omega,rfl⟩,.refl,ec,.cons rfl .nil⟩
    intro t ⟨vP,qg,y1⟩;refine bP.mk (λaR=>?_) (λaR=>?_)
    ·have PX:t<255:=by simp at aR;omega
     have l6:hG p (255-t) t=bif p (t+1)then hG p (255-(t+1)) (t+1)else t:=by rw[show 255-t=(255-(t+1))+1 from by omega,hG]
     refine aW.mk _ (b0 (i:=t) (by omega)) ?_;refine aW.mk _ (qF (n:=t+1) (by omega)) ?_;refine aZ.mk [] (os.aQ 339) _ (.refl _) (jn (n:=t+1) (by omega)) ?_;rintro v J N -⟨rfl,cm,rfl⟩;subst J;refine aI.mk (λbn=>?_) (λbn=>?_);·refine aW.mk _ (b0 (i:=t) (by omega)) ?_;exact⟨t+1,⟨⟨by omega,by omega,by rw[y1,l6,bn,bg]⟩,by omega⟩,.refl,ec,.cons rfl .nil⟩
     ·have BB:hG p (255-n) n=t:=by rw[y1,l6,bn,bd]
      refine aW.mk _ (qF (n:=n) (by omega)) ?_;refine aW.mk _ (qF (n:=t) (by omega)) ?_;refine cw.mk λb9 fK xn=>?_;refine bp.yA aT rfl (by simp) (e:=339) rfl rfl rfl os cj rfl (m:=1) rfl (bV:=f' (UInt8.ofNat n,UInt8.ofNat t)) (by decide) (dP (b:=b9) (cs:=f' (UInt8.ofNat n,UInt8.ofNat t)) (k:=0) (n:=2) (T:=339) (.head _) (b1 2)) rfl (Mr:=[⟨b9,.cells (f' (UInt8.ofNat n,UInt8.ofNat t)).toArray 339 (0,0)⟩]) (fR (l₁:=[_])) (by simp only[maxLen];omega) (by show(os.n+1)*2<=_;omega) ?_;intro dz c' gY xT dJ c9 dT fL;refine aW.mk _ (b0 (i:=n) (by omega)) ?_;refine⟨(n+1,⟨some dz,os.n+1,c',gY⟩),⟨⟨by simp only;omega,?_⟩,by simp only;omega⟩,.sub (List.Sublist.cons_cons _ (eG _)) .refl,dO,.cons rfl .nil⟩;simp only;rw[DS,cf,bg,BB];exact Kq cj dJ c9 dT fL
    ·have FQ:t=255:=by simp at aR;omega
     have BB:hG p (255-n) n=t:=by rw[y1,FQ];rfl
     refine aW.mk _ (qF (n:=n) (by omega)) ?_;refine aW.mk _ (qF (n:=t) (by omega)) ?_;refine cw.mk λb9 fK xn=>?_;refine bp.yA aT rfl (by simp) (e:=339) rfl rfl rfl os cj rfl (m:=1) rfl (bV:=f' (UInt8.ofNat n,UInt8.ofNat t)) (by decide) (dP (b:=b9) (cs:=f' (UInt8.ofNat n,UInt8.ofNat t)) (k:=0) (n:=2) (T:=339) (.head _) (b1 2)) rfl (Mr:=[⟨b9,.cells (f' (UInt8.ofNat n,UInt8.ofNat t)).toArray 339 (0,0)⟩]) (fR (l₁:=[_])) (by simp only[maxLen];omega) (by show(os.n+1)*2<=_;omega) ?_;intro dz c' gY xT dJ c9 dT fL;refine aW.mk _ (b0 (i:=n) (by omega)) ?_;refine⟨(n+1,⟨some dz,os.n+1,c',gY⟩),⟨⟨by simp only;omega,?_⟩,by simp only;omega⟩,.sub (List.Sublist.cons_cons _ (eG _)) .refl,dO,.cons rfl .nil⟩;simp only;rw[DS,cf,bg,BB];exact Kq cj dJ c9 dT fL
  ·have iU:p n=false:=by simpa using U
   refine aW.mk _ (b0 (i:=n) (by omega)) ?_;refine⟨(n+1,os),⟨⟨by simp only;omega,?_⟩,by simp only;omega⟩,.refl,dO,.cons rfl .nil⟩;simp only;rw[DS,nZ,iU,pe,bd,c8];exact cj
 ·have:n=256:=by simp at h;omega
  subst this;exact⟨_,_,.refl,rfl,os,rfl,cj,rfl⟩
def ahJ:∀ n:Fin 16,(yM.extract n.val (n.val+1)).data.toList=[oj n.val]:=by decide +kernel
def Kr(n:Nat)(an:n<16):Spec Tryz.prog 290 [.int .i64 n] I [] λv I' M'=>v=.string (strOf [oj n])/\I'=I/\M'=[]:=by refine bU [] aT Tryz.func290 rfl rfl rfl ?_;intro B aq;refine aW.mk ((n+1:Nat):Int) (by rw[wrap_i64 ⟨by omega,by omega⟩];omega) ?_;refine jl.mk n (n+1) rfl rfl (by omega) (by show _<=16;omega) ?_;refine⟨_,_,.refl,?_,rfl,rfl⟩;have:yM.extract n (n+1)=strOf [oj n]:=yN (ahJ ⟨n,an⟩);rw[<-this];rfl
def Ks(c:UInt8)(s:ByteArray):Bool:=s.data.toList.any λx=>decide (x.toNat=c.toNat)
def ahK(c:UInt8)(s:ByteArray)(ap:s.size<=140737488355328):Spec Tryz.prog 291 [.int .u8 c.toNat,.string s] I [] λv I' M'=>v=.bool (Ks c s)/\I'=I/\M'=[]:=by
 refine bU [] aT Tryz.func291 rfl rfl rfl ?_;intro B aq;have m6:s.data.toList.length=s.size:=rfl;refine cx.inv (ι:=Nat) (λi=>{ cc:=[(0,.val (.int .u8 c.toNat)),(1,.val (.string s)),(5,.val (.int .i64 i))],ck:=I }) (λi=>i<=s.size/\Ks c s=(s.data.toList.drop i).any λx=>decide (x.toNat=c.toNat)) (λi=>s.size-i) ?_ ?_
 ·exact⟨0,⟨bi _,rfl⟩,.refl,dO,.nil⟩
 intro i ⟨hi,eW⟩;refine aI.mk (λh=>?_) (λh=>?_)
 ·have aO:i<s.size:=by simpa using h
  rw[eE (show i<s.data.toList.length from aO),List.any_cons]at eW;have Nv:s.data.toList[i]'aO=s[i]:=rfl;rw[Nv]at eW;refine qQ.mk i rfl aO ?_;refine aI.mk (λaa=>?_) (λaa=>?_)
  ·have e:decide (s[i].toNat=c.toNat)=true:=by simp at aa |-;omega
   rw[e,y0]at eW;exact⟨_,_,.refl,congrArg Value.bool eW.symm,rfl,rfl⟩
  ·have e:decide (s[i].toNat=c.toNat)=false:=by simp at aa |-;omega
   rw[e,tZ]at eW;refine aW.mk _ (b0 (i:=i) (by omega)) ?_;exact⟨i+1,⟨⟨by omega,eW⟩,by omega⟩,.refl,dO,.nil⟩
 ·have:i=s.size:=by simp at h;omega
  subst this;rw[wD (by omega)]at eW;exact⟨_,_,.refl,congrArg Value.bool eW.symm,rfl,rfl⟩
def tG(c:UInt8)(eo:ByteArray):List UInt8:=
 bif decide ((c.toNat:Int)=10)then [92,110]else
 bif decide ((c.toNat:Int)=13)then [92,114]else
 bif decide ((c.toNat:Int)=9)then [92,116]else
 bif decide ((c.toNat:Int)<32)||decide (126<(c.toNat:Int))then [92,120,oj (c.toNat/16),oj (c.toNat%16)]else
 bif Ks c eo then [92,c]else [c]
def G0(c:UInt8)(eo:ByteArray)(ap:eo.size<=140737488355328):Spec Tryz.prog 274 [.int .u8 c.toNat,.string eo] I [] λv I' M'=>v=.string (strOf (tG c eo))/\I'=I/\M'=[]:=by
 refine bU [] aT Tryz.func274 rfl rfl rfl ?_;intro B aq;have aN:=c.toNat_lt;refine aI.mk (λU=>?_) (λU=>?_)
 ·exact⟨_,_,.refl,by rw[tG,U];rfl,rfl,rfl⟩
 refine aI.mk (λaa=>?_) (λaa=>?_)
 ·exact⟨_,_,.refl,by rw[tG,U,aa];rfl,rfl,rfl⟩
 refine aI.mk (λae=>?_) (λae=>?_)
 ·exact⟨_,_,.refl,by rw[tG,U,aa,ae];rfl,rfl,rfl⟩
 have XU:(decide ((c.toNat:Int)<32)||decide (126<(c.toNat:Int)))=true->tG c eo=[92,120,oj (c.toNat/16),oj (c.toNat%16)]:=λh=>by rw[tG,U,aa,ae,h];rfl
 have XV:(decide ((c.toNat:Int)<32)||decide (126<(c.toNat:Int)))=false->tG c eo=bif Ks c eo then [92,c]else [c]:=λh=>by rw[tG,U,aa,ae,h];rfl
 refine bP.mk (λaR=>?_) (λaR=>?_)
 ·refine aI.mk (λbn=>?_) (λbn=>?_)
  ·have az:(decide ((c.toNat:Int)<32)||decide (126<(c.toNat:Int)))=true:=by rw[aR,bn];rfl
   refine aW.mk (c.toNat:Int) (wrap_i64 ⟨by omega,by omega⟩) ?_;refine h0.mk (by decide) ?_;refine aW.mk ((c.toNat/16:Nat):Int) (wrap_i64 (x:=((c.toNat/16:Nat):Int)) ⟨by omega,by omega⟩) ?_;refine aZ.mk [] [] _ (.refl _) (Kr (c.toNat/16) (by omega)) ?_;rintro v J N -⟨rfl,cm,rfl⟩;subst J;refine cC.eV (a:=[92,120]) (by simp) ?_;refine aW.mk (c.toNat:Int) (wrap_i64 ⟨by omega,by omega⟩) ?_;refine h0.mk (by decide) ?_;refine aZ.mk [] [] _ (.refl _) (Kr (c.toNat%16) (by omega)) ?_;rintro v J N -⟨rfl,cm,rfl⟩;subst J;refine cC.eV (a:=[92,120,oj (c.toNat/16)]) (by simp) ?_;exact⟨_,_,.refl,by rw[XU az];rfl,rfl,rfl⟩
  have az:(decide ((c.toNat:Int)<32)||decide (126<(c.toNat:Int)))=false:=by rw[aR,bn];rfl
  refine aZ.mk [] [] _ (.refl _) (ahK c eo ap) ?_;rintro v J N -⟨rfl,cm,rfl⟩;subst J;refine aI.mk (λb2=>?_) (λb2=>?_);·refine cw.mk λb ag r8=>?_;refine bp.C8 aT rfl (by simp) rfl rfl rfl rfl rfl rfl (ad:=⟨b,0,none⟩) (n:=1) (l:=[c]) rfl rfl (dP (b:=b) (cs:=[.int .u8 c.toNat]) (k:=0) (n:=1) (T:=5) (.head _) (by simp)) ?_;refine cC.eV (a:=[92]) (b:=[c]) (by simp) ?_;exact⟨_,_,.sub (eG _) .refl,by rw[XV az,b2];rfl,rfl,rfl⟩
  ·refine cw.mk λb ag r8=>?_;refine bp.C8 aT rfl (by simp) rfl rfl rfl rfl rfl rfl (ad:=⟨b,0,none⟩) (n:=1) (l:=[c]) rfl rfl (dP (b:=b) (cs:=[.int .u8 c.toNat]) (k:=0) (n:=1) (T:=5) (.head _) (by simp)) ?_;exact⟨_,_,.sub (eG _) .refl,by rw[XV az,b2];rfl,rfl,rfl⟩
 ·have az:(decide ((c.toNat:Int)<32)||decide (126<(c.toNat:Int)))=true:=by simp at aR;simp[aR]
  refine aW.mk (c.toNat:Int) (wrap_i64 ⟨by omega,by omega⟩) ?_;refine h0.mk (by decide) ?_;refine aW.mk ((c.toNat/16:Nat):Int) (wrap_i64 (x:=((c.toNat/16:Nat):Int)) ⟨by omega,by omega⟩) ?_;refine aZ.mk [] [] _ (.refl _) (Kr (c.toNat/16) (by omega)) ?_;rintro v J N -⟨rfl,cm,rfl⟩;subst J;refine cC.eV (a:=[92,120]) (by simp) ?_;refine aW.mk (c.toNat:Int) (wrap_i64 ⟨by omega,by omega⟩) ?_;refine h0.mk (by decide) ?_;refine aZ.mk [] [] _ (.refl _) (Kr (c.toNat%16) (by omega)) ?_;rintro v J N -⟨rfl,cm,rfl⟩;subst J;refine cC.eV (a:=[92,120,oj (c.toNat/16)]) (by simp) ?_;exact⟨_,_,.refl,by rw[XU az];rfl,rfl,rfl⟩
def PY:ByteArray:=⟨#[34,92]⟩
def DT:ByteArray:=⟨#[93,45,94,92]⟩
def G1(c:UInt8):tG c PY=iP c om/\tG c DT=iP c nM:=by
 have h:∀ n:Fin 256,tG (UInt8.ofNat n.val) PY=iP (UInt8.ofNat n.val) om/\tG (UInt8.ofNat n.val) DT=iP (UInt8.ofNat n.val) nM:=by decide +kernel
 have:=h ⟨c.toNat,c.toNat_lt⟩;simpa using this
def ahL(s:ByteArray)(ap:s.size<=1099511627776):Spec Tryz.prog 253 [.string s] I [] λr I' M'=>r=.string (strOf (vL s))/\I'=I/\M'=[]:=by
 refine bU [] aT Tryz.func253 rfl rfl rfl ?_;intro B aq;have tk:∀ i,((s.data.toList.take i).flatMap (iP · om)).length<=4*i:=λi=>by have:=AH (iP · om) 4 (λc=>sc c om) (s.data.toList.take i);have aa:=CF i s.data.toList;omega
 refine cx.inv (ι:=Nat) (λi=>{ cc:=[(0,.val (.string s)),(3,.val (.string (strOf ((s.data.toList.take i).flatMap (iP · om))))),(4,.val (.int .i64 i))],ck:=I }) (λi=>i<=s.size) (λi=>s.size-i) ?_ ?_
 ·exact⟨0,bi _,.refl,dO,.nil⟩
 intro i hi;have Kt:=tk i;refine aI.mk (λh=>?_) (λh=>?_)
 ·have aO:i<s.size:=by simpa using h
  have bG:i<s.data.toList.length:=aO;refine qQ.mk i rfl aO ?_;have AJ:=G0 (I:=I) s[i] PY (by decide);rw[(G1 s[i]).1]at AJ;refine aZ.mk [] [] _ (.refl _) AJ ?_;rintro v J N -⟨rfl,cm,rfl⟩;subst J;have pj:=sc s[i] om;refine cC.eV (by omega) ?_;refine aW.mk _ (b0 (i:=i) (by omega)) ?_;have e:(s.data.toList.take (i+1)).flatMap (iP · om)=(s.data.toList.take i).flatMap (iP · om)++iP s[i] om:=by rw[hR bG,jP];simp;rfl
  refine⟨i+1,⟨aO,by omega⟩,.refl,.cons .refl (.cons ?_ (.cons .refl .nil)),.nil⟩;rw[e];exact .refl
 ·have:i=s.size:=by simp at h;omega
  subst this;have e:s.data.toList.take s.size=s.data.toList:=g4 (b1 _);refine cC.eV (a:=[34]) (by simp only[dL,fS];omega) ?_;refine cC.eV (b:=[34]) (by simp only[b5,dL,fS];omega) ?_;exact⟨_,_,.refl,by rw[vL,e],rfl,rfl⟩
def Ku(n:Nat)(an:n<100):Spec Tryz.prog 275 [.int .i64 n] I [] λr I' M'=>r=.string (ui n)/\I'=I/\M'=[]:=by
 refine bU [] aT Tryz.func275 rfl rfl rfl ?_;intro B aq;refine aW.mk (n:Int) (vJ ⟨by omega,by omega⟩) ?_;refine aI.mk (λh=>by simp at h;omega) (λ_=>?_);refine cx.inv (ι:=Bool) (λx=>{ cc:=[(3,.val (.int .u64 ((bif x then n/10 else n:Nat):Int))),(4,.val (.string (strOf []))),(5,.val (.string (strOf (bif x then [UInt8.ofNat (48+n%10)]else []))))],ck:=I }) (λx=>x=true->10<=n) (λx=>bif x then 0 else 1) ?_ ?_
 ·exact⟨false,(λh=>by cases h),.refl,dO,.nil⟩
 intro x ab;cases x with
 |false=>
  refine aI.mk (λh=>?_) (λh=>?_)
  ·have ew:10<=n:=by simp at h;omega
   refine h0.mk (by decide) ?_;refine aW.mk ((48+n%10:Nat):Int) (vJ (x:=((48+n%10:Nat):Int)) ⟨by omega,by omega⟩) ?_;refine aW.mk _ (qF (n:=48+n%10) (by omega)) ?_;refine cw.mk λb ag r8=>?_;refine bp.C8 aT rfl (by simp) rfl rfl rfl rfl rfl rfl (ad:=⟨b,0,none⟩) (n:=1) (l:=[UInt8.ofNat (48+n%10)]) rfl rfl (dP (b:=b) (cs:=[.int .u8 (UInt8.ofNat (48+n%10)).toNat]) (k:=0) (n:=1) (T:=5) (.head _) (by simp)) ?_;refine cC.eV (a:=[UInt8.ofNat (48+n%10)]) (b:=[]) (by simp) ?_;refine h0.mk (by decide) ?_;refine aW.mk ((n/10:Nat):Int) (vJ (x:=((n/10:Nat):Int)) ⟨by omega,by omega⟩) ?_;exact⟨true,⟨λ_=>ew,by decide⟩,.sub (eG _) .refl,dO,.nil⟩
  ·have ew:n<10:=by simp at h;omega
   refine aW.mk ((48+n:Nat):Int) (vJ (x:=((48+n:Nat):Int)) ⟨by omega,by omega⟩) ?_;refine aW.mk _ (qF (n:=48+n) (by omega)) ?_;refine cw.mk λb ag r8=>?_;refine bp.C8 aT rfl (by simp) rfl rfl rfl rfl rfl rfl (ad:=⟨b,0,none⟩) (n:=1) (l:=[UInt8.ofNat (48+n)]) rfl rfl (dP (b:=b) (cs:=[.int .u8 (UInt8.ofNat (48+n)).toNat]) (k:=0) (n:=1) (T:=5) (.head _) (by simp)) ?_;refine cC.eV (a:=[]) (b:=[UInt8.ofNat (48+n)]) (by simp) ?_;refine cC.eV (a:=[]++[UInt8.ofNat (48+n)]) (b:=[]) (by simp) ?_;have e:hV n=[UInt8.ofNat (48+n)]:=by
    have:Nat.blt n 10=true:=by simp[Nat.blt_eq];omega
    rw[hV,this];rfl
   exact⟨_,_,.sub (eG _) .refl,by rw[ui,e];rfl,rfl,rfl⟩
 |true=>
  have ew:=ab rfl;refine aI.mk (λh=>?_) (λh=>?_);·simp at h;omega
  refine aW.mk ((48+n/10:Nat):Int) (vJ (x:=((48+n/10:Nat):Int)) ⟨by omega,by omega⟩) ?_;refine aW.mk _ (qF (n:=48+n/10) (by omega)) ?_;refine cw.mk λb ag r8=>?_;refine bp.C8 aT rfl (by simp) rfl rfl rfl rfl rfl rfl (ad:=⟨b,0,none⟩) (n:=1) (l:=[UInt8.ofNat (48+n/10)]) rfl rfl (dP (b:=b) (cs:=[.int .u8 (UInt8.ofNat (48+n/10)).toNat]) (k:=0) (n:=1) (T:=5) (.head _) (by simp)) ?_;refine cC.eV (a:=[]) (b:=[UInt8.ofNat (48+n/10)]) (by simp) ?_;refine cC.eV (a:=[]++[UInt8.ofNat (48+n/10)]) (b:=[UInt8.ofNat (48+n%10)]) (by simp) ?_;have e:hV n=[UInt8.ofNat (48+n/10),UInt8.ofNat (48+n%10)]:=by
   have:Nat.blt n 10=false:=by rw[xq];simp[Nat.blt_eq];omega
   rw[hV,this];rfl
  exact⟨_,_,.sub (eG _) .refl,by rw[ui,e];rfl,rfl,rfl⟩
def lS(p:UInt8×UInt8):List UInt8:=iP p.1 nM++((bif decide ((p.1.toNat:Int)+1<p.2.toNat)then [45]else [])++(bif decide ((p.1.toNat:Int)<p.2.toNat)then iP p.2 nM else []))
def zF(a2:List (UInt8×UInt8)):Bool:=match a2 with
 |[p]=>((p.1.toNat:Int) == 0)&&((p.2.toNat:Int) == 255)| _=>false
def DU(a2:List (UInt8×UInt8)):List UInt8:=bif zF a2 then [46]else [91]++a2.flatMap lS++[93]
def ahM(p:UInt8×UInt8):(lS p).length<=9:=by
 have U:=sc p.1 nM;have aa:=sc p.2 nM;unfold lS;cases decide ((p.1.toNat:Int)+1<p.2.toNat)<;>cases decide ((p.1.toNat:Int)<p.2.toNat)<;>simp<;>omega
def ahN{a b c d:Int}(gl:∀ x∈[a,b,c,d],fo x):Spec Tryz.prog 252 [.agg #[.int .u64 a,.int .u64 b,.int .u64 c,.int .u64 d]] I []
  λr I' M'=>r=.string (strOf (DU (oO (ln [a,b,c,d]) 256)))/\I'=I/\M'=[]:=by
 refine bU [] aT Tryz.func252 rfl rfl rfl ?_;intro B aq;refine aZ.mk [] [] _ (.refl _) (ahI gl) ?_;rintro v J N -⟨cm,os,rfl,cj,rfl⟩;subst J;have hN:=XT (ln [a,b,c,d]) 256;generalize oO (ln [a,b,c,d]) 256=a2 at *;have an:a2.length=os.n:=by have:=cj.len;rw[CJ]at this;omega
 have main:zF a2=false->DU a2=[91]++a2.flatMap lS++[93]:=λh=>by rw[DU,h];rfl
 have tk:∀ i,((a2.take i).flatMap lS).length<=9*i:=λi=>by have:=AH lS 9 ahM (a2.take i);have aa:=CF i a2;omega
 have row:∀ {i:Nat} (hi:i<a2.length) (M:List aE),(∀ y∈os.aQ 339,y∈M)->∃ ad,(os.a.map λg=>(⟨g,0,none⟩:Addr))=some ad/\bD I M (ad.add (i*2)) 2 (f' a2[i]):=fun {i} hi M bb=>a'.ok.row (I:=I) (M:=M) (f:=f') (λ_=>rfl) (by decide) cj (e:=339) bb hi;refine bP.mk (λU=>?_) (λU=>?_)
 ·have sk:os.n=1:=by simp at U;omega
  obtain⟨p,rfl⟩:∃ p,a2=[p]:=by
   match a2,(show a2.length=1 by omega)with
   |[p],_=>exact⟨p,rfl⟩
  obtain⟨ad,bI,bl⟩:=row (i:=0) (by simp) (os.aQ 339++[]) (λy aG=>by simp[aG]);refine a7.mk ad 0 bI rfl (by omega) ?_;refine aD.mk _ bl ?_;refine cC.aeO aT (e:=5) rfl rfl rfl rfl (by kernel_rfl) ?_;refine aI.mk (λaa=>?_) (λaa=>?_);·exact⟨_,_,.sub (eG _) .refl,by rw[DU,show zF [p]=true from aa];rfl,rfl,rfl⟩
  ·have eT:zF [p]=false:=aa;have hm:=main eT;refine cx.inv (ι:=Nat×List UInt8) (λx=>{ cc:=[(3,.val os.val),(4,.val (.string (strOf x.2))),(5,.val (.int .i64 x.1))],ck:=I,de:=os.aQ 339 }) (λx=>x.1<=os.n/\x.2=([p].take x.1).flatMap lS) (λx=>os.n-x.1) ?_ ?_
   ·exact⟨(0,[]),⟨bi _,rfl⟩,.perm (by simp) .refl,dO,.nil⟩
   rintro⟨i,w⟩⟨hi,hw⟩;simp only at hi hw;have Kt:=tk i;rw[<-hw]at Kt;refine aI.mk (λh=>?_) (λh=>?_)
   ·have aO:i<os.n:=by simpa using h
    have bG:i<([p]:List (UInt8×UInt8)).length:=by omega
    obtain⟨ad,bI,bl⟩:=row (i:=i) bG (os.aQ 339) (λy aG=>aG);have rK:([p].take (i+1)).flatMap lS=([p].take i).flatMap lS++lS ([p]:List (UInt8×UInt8))[i]:=by rw[hR bG,jP];simp
    generalize az:([p]:List (UInt8×UInt8))[i]=q at bl rK;have XW:=q.1.toNat_lt;have C2:=q.2.toNat_lt;have vF:=sc q.1 nM;have vM:=sc q.2 nM;refine cU.draw aT rfl rfl rfl ?_;refine a7.mk ad i bI rfl aO ?_;refine eN.mk 0 rfl (by decide) ?_;refine aD.mk _ (bD.part (k:=0*1) (m:=1) bl (by decide)) ?_;refine aW.mk (q.1.toNat:Int) (wrap_i64 ⟨by omega,by omega⟩) ?_;refine a7.mk ad i bI rfl aO ?_;refine eN.mk 1 rfl (by decide) ?_;refine aD.mk _ (bD.part (k:=1*1) (m:=1) bl (by decide)) ?_;refine aW.mk (q.2.toNat:Int) (wrap_i64 ⟨by omega,by omega⟩) ?_;have PZ:IntKind.u8.wrap (q.1.toNat:Int)=(q.1.toNat:Int):=by simp[IntKind.wrap,IntKind.signed,IntKind.bits];omega
    have G2:IntKind.u8.wrap (q.2.toNat:Int)=(q.2.toNat:Int):=by simp[IntKind.wrap,IntKind.signed,IntKind.bits];omega
    refine aW.mk _ PZ ?_;have gT:=G0 (I:=I) q.1 DT (by decide);rw[(G1 q.1).2]at gT;refine aZ.mk [] (os.aQ 339) _ (.refl _) gT ?_;rintro v J N -⟨rfl,cm,rfl⟩;subst J;refine cC.eV (a:=w) (by omega) ?_;refine aW.mk ((q.1.toNat:Int)+1) (wrap_i64 ⟨by omega,by omega⟩) ?_;have ko:=G0 (I:=I) q.2 DT (by decide);rw[(G1 q.2).2]at ko;refine aI.mk (λdb=>?_) (λdb=>?_)
    ·refine cC.eV (b:=[45]) (by simp only[b5,dL,fS];omega) ?_;refine aI.mk (λcR=>?_) (λcR=>?_)
     ·refine aW.mk _ G2 ?_;refine aZ.mk [] (os.aQ 339) _ (.refl _) ko ?_;rintro v J N -⟨rfl,cm,rfl⟩;subst J;refine cC.eV (by simp only[b5,dL,fS];omega) ?_;refine aW.mk _ (b0 (i:=i) (by omega)) ?_;refine⟨(i+1,_),⟨⟨aO,?_⟩,by simp only;omega⟩,.refl,dO,.nil⟩;simp only;rw[hw,rK,lS,db,cR,bg,bg,<-eL,<-eL]
     ·simp at db cR;omega
    ·refine aI.mk (λcR=>?_) (λcR=>?_)
     ·refine aW.mk _ G2 ?_;refine aZ.mk [] (os.aQ 339) _ (.refl _) ko ?_;rintro v J N -⟨rfl,cm,rfl⟩;subst J;refine cC.eV (by simp only[b5,dL,fS];omega) ?_;refine aW.mk _ (b0 (i:=i) (by omega)) ?_;refine⟨(i+1,_),⟨⟨aO,?_⟩,by simp only;omega⟩,.refl,dO,.nil⟩;simp only;rw[hw,rK,lS,db,cR,bd,bg,lD,<-eL]
     ·refine aW.mk _ (b0 (i:=i) (by omega)) ?_;refine⟨(i+1,_),⟨⟨aO,?_⟩,by simp only;omega⟩,.refl,dO,.nil⟩;simp only;rw[hw,rK,lS,db,cR,bd,bd,lD,c8]
   ·have:i=os.n:=by simp at h;omega
    subst this;have e:[p].take os.n=[p]:=g4 (by omega);refine cC.eV (a:=[91]) (by simp only[dL,fS];omega) ?_;refine cC.eV (b:=[93]) (by simp only[b5,dL,fS];omega) ?_;exact⟨_,_,.sub (eG _) .refl,by rw[hm,hw,e],rfl,rfl⟩
 ·have eT:zF a2=false:=by
   match a2,an with
   |[],_=>rfl| [p],an=>simp at U an;omega| _::_::_,_=>rfl
  have hm:=main eT;refine cx.inv (ι:=Nat×List UInt8) (λx=>{ cc:=[(3,.val os.val),(4,.val (.string (strOf x.2))),(5,.val (.int .i64 x.1))],ck:=I,de:=os.aQ 339 }) (λx=>x.1<=os.n/\x.2=(a2.take x.1).flatMap lS) (λx=>os.n-x.1) ?_ ?_;·exact⟨(0,[]),⟨bi _,rfl⟩,.perm (by simp) .refl,dO,.nil⟩
  rintro⟨i,w⟩⟨hi,hw⟩;simp only at hi hw;have Kt:=tk i;rw[<-hw]at Kt;refine aI.mk (λh=>?_) (λh=>?_)
  ·have aO:i<os.n:=by simpa using h
   have bG:i<(a2:List (UInt8×UInt8)).length:=by omega
   obtain⟨ad,bI,bl⟩:=row (i:=i) bG (os.aQ 339) (λy aG=>aG);have rK:(a2.take (i+1)).flatMap lS=(a2.take i).flatMap lS++lS (a2:List (UInt8×UInt8))[i]:=by rw[hR bG,jP];simp
   generalize az:(a2:List (UInt8×UInt8))[i]=q at bl rK;have XW:=q.1.toNat_lt;have C2:=q.2.toNat_lt;have vF:=sc q.1 nM;have vM:=sc q.2 nM;refine cU.draw aT rfl rfl rfl ?_;refine a7.mk ad i bI rfl aO ?_;refine eN.mk 0 rfl (by decide) ?_;refine aD.mk _ (bD.part (k:=0*1) (m:=1) bl (by decide)) ?_;refine aW.mk (q.1.toNat:Int) (wrap_i64 ⟨by omega,by omega⟩) ?_;refine a7.mk ad i bI rfl aO ?_;refine eN.mk 1 rfl (by decide) ?_;refine aD.mk _ (bD.part (k:=1*1) (m:=1) bl (by decide)) ?_;refine aW.mk (q.2.toNat:Int) (wrap_i64 ⟨by omega,by omega⟩) ?_;have PZ:IntKind.u8.wrap (q.1.toNat:Int)=(q.1.toNat:Int):=by simp[IntKind.wrap,IntKind.signed,IntKind.bits];omega
   have G2:IntKind.u8.wrap (q.2.toNat:Int)=(q.2.toNat:Int):=by simp[IntKind.wrap,IntKind.signed,IntKind.bits];omega
   refine aW.mk _ PZ ?_;have gT:=G0 (I:=I) q.1 DT (by decide);rw[(G1 q.1).2]at gT;refine aZ.mk [] (os.aQ 339) _ (.refl _) gT ?_;rintro v J N -⟨rfl,cm,rfl⟩;subst J;refine cC.eV (a:=w) (by omega) ?_;refine aW.mk ((q.1.toNat:Int)+1) (wrap_i64 ⟨by omega,by omega⟩) ?_;have ko:=G0 (I:=I) q.2 DT (by decide);rw[(G1 q.2).2]at ko;refine aI.mk (λdb=>?_) (λdb=>?_)
   ·refine cC.eV (b:=[45]) (by simp only[b5,dL,fS];omega) ?_;refine aI.mk (λcR=>?_) (λcR=>?_)
    ·refine aW.mk _ G2 ?_;refine aZ.mk [] (os.aQ 339) _ (.refl _) ko ?_;rintro v J N -⟨rfl,cm,rfl⟩;subst J;refine cC.eV (by simp only[b5,dL,fS];omega) ?_;refine aW.mk _ (b0 (i:=i) (by omega)) ?_;refine⟨(i+1,_),⟨⟨aO,?_⟩,by simp only;omega⟩,.refl,dO,.nil⟩;simp only;rw[hw,rK,lS,db,cR,bg,bg,<-eL,<-eL]
    ·simp at db cR;omega
   ·refine aI.mk (λcR=>?_) (λcR=>?_)
    ·refine aW.mk _ G2 ?_;refine aZ.mk [] (os.aQ 339) _ (.refl _) ko ?_;rintro v J N -⟨rfl,cm,rfl⟩;subst J;refine cC.eV (by simp only[b5,dL,fS];omega) ?_;refine aW.mk _ (b0 (i:=i) (by omega)) ?_;refine⟨(i+1,_),⟨⟨aO,?_⟩,by simp only;omega⟩,.refl,dO,.nil⟩;simp only;rw[hw,rK,lS,db,cR,bd,bg,lD,<-eL]
    ·refine aW.mk _ (b0 (i:=i) (by omega)) ?_;refine⟨(i+1,_),⟨⟨aO,?_⟩,by simp only;omega⟩,.refl,dO,.nil⟩;simp only;rw[hw,rK,lS,db,cR,bd,bd,lD,c8]
  ·have:i=os.n:=by simp at h;omega
   subst this;have e:a2.take os.n=a2:=g4 (by omega);refine cC.eV (a:=[91]) (by simp only[dL,fS];omega) ?_;refine cC.eV (b:=[93]) (by simp only[b5,dL,fS];omega) ?_;exact⟨_,_,.sub (eG _) .refl,by rw[hm,hw,e],rfl,rfl⟩
def ahO{t:bB}(au:t.ok I)(aF:Fit t W):Spec Tryz.prog 171 [t.val] I [] (λv I' M'=>v=.int .i64 (lJ t:Nat)/\I'=I/\M'=[]):=by
 refine bU [] aT Tryz.func171 rfl rfl rfl ?_;intro B aq;refine aZ.mk [] [] _ (.refl _) (CU au W aF.w aF.b) ?_;rintro v J N -⟨rfl,cm,rfl⟩;subst J;refine aI.mk (λh=>?_) (λh=>?_)
 ·refine⟨_,_,.refl,?_,rfl,rfl⟩;simp[lJ,show right t=false by simpa using h]
 ·refine⟨_,_,.refl,?_,rfl,rfl⟩;simp[lJ,show right t=true by simpa using h]
def ahP{t:bB}(au:t.ok I)(aF:Fit t W):Spec Tryz.prog 122 [t.val] I [] (λv I' M'=>v=.int .i64 (depth t)/\I'=I/\M'=[]):=by
 refine bU [] aT Tryz.func122 rfl rfl rfl ?_;intro B aq;have an:=au.n;have k2:=au.a2.cap;refine aZ.mk [] [] _ (.refl _) (CU au W aF.w aF.b) ?_;rintro v J N -⟨rfl,cm,rfl⟩;subst J;refine aI.mk (λh=>?_) (λh=>?_)
 ·refine⟨_,_,.refl,?_,rfl,rfl⟩;simp[depth,show right t=false by simpa using h]
 ·have ao:right t=true:=by simpa using h
  have hM:=r9 ao;obtain⟨aV,aX⟩:=CC ao;refine qR.mk t.n t.n rfl rfl (b1 _) (by show 8*t.n<=_;omega) (by omega) ?_;refine cw.mk λb ag r8=>?_;refine cx.inv (ι:=Nat×List Int) (λx=>{ cc:=[(1,.ref 1 0),(3,.val (.slice (some ⟨b,0,none⟩) t.n t.n)),(4,.val (.int .i64 x.1))],cl:=[(1,t.cells)],ck:=I,de:=[mG b x.2] }) (λx=>x.1<=t.n/\x.2.length=t.n/\(∀ j,0<=x.2.getD j 0/\x.2.getD j 0<=x.1)/\(∀ j,x.1<=j->x.2.getD j 0=0)/\q' 0 t.ns (List.replicate t.ns.length 0)=q' x.1 (t.ns.drop x.1) x.2) (λx=>t.n-x.1) ?_ ?_
  ·have z:∀ j,(List.replicate t.n (0:Int)).getD j 0=0:=λj=>by
    by_cases ak:j<t.n<;>simp[dI,ak]
   refine⟨(0,List.replicate t.n 0),⟨by omega,by simp,λj=>by rw[z];simp,λj _=>z j,by simp[an]⟩,?_,dO,.cons rfl .nil⟩;show h1 _ _ [⟨b,.cells (rowOf [Value.int .i64 0] (t.n*1)).toArray 3 (0,0)⟩] _ [mG b (List.replicate t.n 0)];rw[yC,h4];simp only[mG,Ic];exact .refl
  ·rintro⟨i,ee⟩⟨eA,gw,gW,iG,tV⟩;simp only at eA gw gW iG tV;refine aI.mk (λh=>?_) (λh=>?_)
   ·have aO:i<t.n:=by simpa using h
    have bG:i<t.ns.length:=by omega
    obtain⟨ad,bI,bl⟩:=au.a2.row a3.da aO bG;have fQ:=au.ns t.ns[i] (cZ bG);have eg:=fQ.kn;have fp:t.ns.drop i=t.ns[i]::t.ns.drop (i+1):=eE bG;have XX:∀ M,bD I M ((ad.add (i*9)).add 8) 1 [.slice t.ns[i].hK t.ns[i].kn t.ns[i].hk]:=λM=>(bl M).part (k:=8) (m:=1) (by decide);refine cx.inv (ι:=Nat×Int) (λx=>{ cc:=[(1,.ref 1 0),(3,.val (.slice (some ⟨b,0,none⟩) t.n t.n)),(4,.val (.int .i64 i)),(5,.val (.int .i64 x.1))],cl:=[(1,t.cells)],ck:=I,de:=[mG b (ee.set i x.2)] }) (λx=>x.1<=t.ns[i].kn/\0<=x.2/\x.2<=i/\yG ee t.ns[i].aM 0=yG ee (t.ns[i].aM.drop x.1) x.2) (λx=>t.ns[i].kn-x.1) ?_ ?_
    ·refine⟨(0,0),⟨by omega,by omega,by simp,rfl⟩,?_,ec,.cons rfl .nil⟩;have e:ee.set i 0=ee:=by
      have U:=iG i (b1 _);rw[dI]at U;apply Cr;intro j;rw[qZ];split
      ·rename_i e;subst e;have:i<ee.length:=by omega
       simp[this]at U |-;exact U.symm
      ·rfl
     simp only;rw[e];exact .refl
    ·rintro⟨j,m⟩⟨pb,q9,yE,Aw⟩;simp only at pb q9 yE Aw;refine a7.mk ad i bI rfl aO ?_;refine aD.mk _ (XX _) ?_;refine aI.mk (λh=>?_) (λh=>?_)
     ·have fq:j<t.ns[i].kn:=by simpa using h
      have j7:j<t.ns[i].aM.length:=by omega
      obtain⟨dh,ev,dV⟩:=fQ.a2.one fq j7;have hL:t.ns[i].aM.drop j=t.ns[i].aM[j]::t.ns[i].aM.drop (j+1):=eE j7;have af:=hM i bG t.ns[i].aM[j] (cZ j7);have dY:t.ns[i].aM[j]=((t.ns[i].aM[j].toNat:Nat):Int):=by omega
      have fz:t.ns[i].aM[j].toNat<t.n:=by omega
      refine cU.draw aT rfl rfl rfl ?_;have eP:i<(ee.set i m).length:=by simp;omega
      have kz:t.ns[i].aM[j].toNat<(ee.set i m).length:=by simp;omega
      have Ax:(ee.set i m)[i]=m:=by simp
      have hH:(ee.set i m)[t.ns[i].aM[j].toNat]=ee.getD t.ns[i].aM[j].toNat 0:=by
       have bu:i≠t.ns[i].aM[j].toNat:=by omega
       have ew:t.ns[i].aM[j].toNat<ee.length:=by omega
       rw[LZ,cG bu];simp[dI,ew]
      refine a7.mk ⟨b,0,none⟩ i rfl rfl aO ?_;refine aD.mk [.int .i64 m] (yF eP Ax (by simp)) ?_;refine a7.mk ad i bI rfl aO ?_;refine aD.mk _ (XX _) ?_;refine a7.mk dh j ev rfl fq ?_;refine aD.mk [.int .i64 t.ns[i].aM[j]] (dV _) ?_;refine a7.mk ⟨b,0,none⟩ t.ns[i].aM[j].toNat rfl dY fz ?_;refine aD.mk [.int .i64 (ee.getD t.ns[i].aM[j].toNat 0)] (yF kz hH (by simp)) ?_;refine a7.mk ⟨b,0,none⟩ i rfl rfl aO ?_;refine cV.add [] [] _ 3 rfl ?_ rfl ?_;·simp only[qY,dx];show 0+i*1+1<=_;simp;omega
      have e3:IntKind.i64.wrap ((j:Int)+1)=((j+1:Nat):Int):=by rw[wrap_i64 ⟨by omega,by have:=fQ.a2.cap;omega⟩];omega
      refine aW.mk _ e3 ?_;have acv:=gW t.ns[i].aM[j].toNat;refine⟨(j+1,max m (ee.getD t.ns[i].aM[j].toNat 0)),⟨⟨by omega,by simp only;omega,by simp only;omega,?_⟩,by show _<_;simp only;omega⟩,?_,ec,.cons rfl .nil⟩;·simp only;rw[Aw,hL];rfl
      ·have e:=Fp (ee.set i m) i eP (max m (ee.getD t.ns[i].aM[j].toNat 0));simp only[mG];rw[Ii]at e;rw[<-e];simp only[dK,h4];exact .refl
     ·have fq:¬ j<t.ns[i].kn:=by simpa using h
      have uf:t.ns[i].aM.drop j=[]:=hJ (by omega);have hm:yG ee t.ns[i].aM 0=m:=by rw[Aw,uf];rfl
      have eP:i<(ee.set i m).length:=by simp;omega
      have Ax:(ee.set i m)[i]=m:=by simp
      have Mt:IntKind.i64.wrap (m+1)=m+1:=wrap_i64 ⟨by omega,by omega⟩;have e3:IntKind.i64.wrap ((i:Int)+1)=((i+1:Nat):Int):=by rw[wrap_i64 ⟨by omega,by omega⟩];omega
      refine a7.mk ⟨b,0,none⟩ i rfl rfl aO ?_;refine aD.mk [.int .i64 m] (yF eP Ax (by simp)) ?_;refine aW.mk _ Mt ?_;refine a7.mk ⟨b,0,none⟩ i rfl rfl aO ?_;refine cV.add [] [] _ 3 rfl ?_ rfl ?_;·simp only[qY,dx];show 0+i*1+1<=_;omega
      refine aW.mk _ e3 ?_;refine⟨(i+1,ee.set i (m+1)),⟨⟨by omega,by simp[gw],?_,?_,?_⟩,by show _<_;simp only;omega⟩,?_,dO,.cons rfl .nil⟩
      ·intro q;have Mu:=gW q;simp only[dI,qZ]at Mu |-;split
       ·rename_i e;subst e;have:i<ee.length:=by omega
        simp[this];omega
       ·omega
      ·intro q az;have Fq:=iG q (by omega);simp only at az;simp only[dI,qZ]at Fq |-;rw[cG (by omega)];exact Fq
      ·simp only;rw[tV,fp];simp only[q',hm]
      ·have e:=Fp (ee.set i m) i eP (m+1);simp only[mG];rw[Ii]at e;rw[<-e];simp only[dK,h4];exact .refl
   ·have cI:¬ i<t.n:=by simpa using h
    have fv:t.ns.drop i=[]:=hJ (by omega);have eT:q' 0 t.ns (List.replicate t.ns.length 0)=ee:=by rw[tV,fv];rfl
    have h6:t.bJ=((t.bJ.toNat:Nat):Int):=by omega
    have hN:t.bJ.toNat<ee.length:=by omega
    refine a7.mk ⟨b,0,none⟩ t.bJ.toNat rfl h6 (by omega) ?_;refine aD.mk [.int .i64 ee[t.bJ.toNat]] (yF hN rfl (by simp)) ?_;refine⟨_,_,.sub (eG _) .refl,?_,rfl,rfl⟩;have:depth t=ee[t.bJ.toNat]:=by unfold depth;rw[ao,eT];simp[dI,hN]
    rw[this];rfl
def P0{t:bB}(au:t.ok I)(aF:Fit t W):Spec Tryz.prog 75 [t.val] I [] (λv I' M'=>v=.bool (fF t)/\I'=I/\M'=[]):=by
 refine bU [] aT Tryz.func75 rfl rfl rfl ?_;intro B aq;refine aZ.mk [] [] _ (.refl _) (CU au W aF.w aF.b) ?_;rintro v J N -⟨rfl,cm,rfl⟩;subst J;refine bP.mk (λU=>?_) (λU=>?_)
 ·refine bP.mk (λaa=>?_) (λaa=>?_)
  ·refine aZ.mk [] [] _ (.refl _) (ahP au aF) ?_;rintro v J N -⟨rfl,cm,rfl⟩;subst J;refine⟨_,_,.refl,?_,rfl,rfl⟩;have k1:t.n<=1024:=by simp at aa;omega
   simp[fF,U,k1]
  ·refine⟨_,_,.refl,?_,rfl,rfl⟩;have k1:¬ t.n<=1024:=by simp at aa;omega
   simp[fF,k1]
 ·refine⟨_,_,.refl,?_,rfl,rfl⟩;have hO:right t=false:=U;simp[fF,hO]
def mj(nk fD:Int):Bool:=(decide (nk=4)&&(decide (fD=4)||decide (fD=0)))||(decide (nk=5)&&decide (fD=5))
def BC(ns:List a3):List a3->Bool
 |[]=>true| d::ds=>(d.aM.all λk=>!mj d.k (fM ns k))&&BC ns ds
def P1(ns:List a3)(nk:Int)(h:nk=4\/nk=5):∀ ks,k4 ns nk ks=ks.all λk=>!mj nk (fM ns k)
 |[]=>rfl
 |k::ks=>by
  rw[k4,tO,P1 ns nk h ks];have e:(decide (fM ns k=nk)||(decide (fM ns k=0)&&decide (nk=4)))=mj nk (fM ns k):=by
   unfold mj;rcases h with rfl | rfl;·simp
   ·simp
  rw[e];cases mj nk (fM ns k)<;>rfl
def XY(ns:List a3):∀ ds,k5 ns ds=BC ns ds
 |[]=>rfl
 |d::ds=>by
  rw[k5,BC,XY ns ds];by_cases aR:d.k=4
  ·rw[P1 ns d.k (.inl aR)];simp only[aR,FM,nE,pe,bd];cases(d.aM.all λk=>!mj 4 (fM ns k))<;>rfl
  ·by_cases bn:d.k=5
   ·rw[P1 ns d.k (.inr bn)];simp only[bn,FM,nE,Jf,bd];cases(d.aM.all λk=>!mj 5 (fM ns k))<;>rfl
   ·have e:(d.aM.all λk=>!mj d.k (fM ns k))=true:=by rw[g0];intro k _;simp[mj,aR,bn]
    rw[e];simp[aR,bn]
def ahQ{t:bB}(au:t.ok I)(aF:Fit t W):Spec Tryz.prog 116 [t.val] I [] (λv I' M'=>v=.bool (normal t)/\I'=I/\M'=[]):=by
 refine bU [] aT Tryz.func116 rfl rfl rfl ?_;intro B aq;have an:=au.n;have k2:=au.a2.cap;refine aZ.mk [] [] _ (.refl _) (CU au W aF.w aF.b) ?_;rintro v J N -⟨rfl,cm,rfl⟩;subst J;refine aI.mk (λh=>?_) (λh=>?_)
 ·refine⟨_,_,.refl,?_,rfl,rfl⟩;simp[normal,show right t=false by simpa using h]
 have ao:right t=true:=by simpa using h
 have ea:normal t=BC t.ns t.ns:=by simp[normal,ao,XY]
 refine cx.inv (ι:=Nat) (λi=>{ cc:=[(1,.ref 1 0),(3,.val (.int .i64 i))],cl:=[(1,t.cells)],ck:=I }) (λi=>i<=t.n/\BC t.ns t.ns=BC t.ns (t.ns.drop i)) (λi=>t.n-i) ?_ ?_
 ·exact⟨0,⟨by simp,rfl⟩,.refl,kS,.cons rfl .nil⟩
 rintro i⟨hi,eW⟩;refine aI.mk (λh=>?_) (λh=>?_)
 ·have aO:i<t.n:=by simpa using h
  have bG:i<t.ns.length:=by omega
  obtain⟨ad,bI,bl⟩:=au.a2.row a3.da aO bG;have fQ:=au.ns t.ns[i] (cZ bG);have eg:=fQ.kn;have fp:t.ns.drop i=t.ns[i]::t.ns.drop (i+1):=eE bG;have hM:=r9 ao i bG;generalize ah:t.ns[i]=d at bl fQ eg fp hM;rw[fp,BC]at eW;refine a7.mk ad i bI rfl aO ?_;refine aD.mk _ (bl _) ?_;refine cx.inv (ι:=Nat) (λj=>{ cc:=[(1,.ref 1 0),(3,.val (.int .i64 i)),(4,.ref 4 0),(5,.val (.int .i64 j))],cl:=[(1,t.cells),(4,d.cells)],ck:=I }) (λj=>j<=d.kn/\(d.aM.all λk=>!mj d.k (fM t.ns k))=((d.aM.drop j).all λk=>!mj d.k (fM t.ns k))) (λj=>d.kn-j) ?_ ?_;·exact⟨0,⟨by simp,rfl⟩,.refl,ec,.cons rfl (.cons rfl .nil)⟩
  rintro j⟨ak,ju⟩;refine aI.mk (λh=>?_) (λh=>?_)
  ·have fq:j<d.kn:=by simpa using h
   have j7:j<d.aM.length:=by omega
   obtain⟨dh,ev,dV⟩:=fQ.a2.one fq j7;have hL:d.aM.drop j=d.aM[j]::d.aM.drop (j+1):=eE j7;have hH:=hM _ (cZ j7);generalize Fy:d.aM[j]=M7 at dV hL hH;obtain⟨q,rfl⟩:=iN hH.1;have fa:q<t.ns.length:=by omega
   have k3:q<t.n:=by omega
   obtain⟨jS,m7,sp⟩:=au.a2.row a3.da k3 fa;have m8:∀ M,bD I M ((jS.add (q*9)).add 0) 1 [.int .u8 t.ns[q].k]:=λM=>(sp M).part (k:=0) (m:=1) (by decide);have qh:fM t.ns ((q:Nat):Int)=t.ns[q].k:=by simp[fM,dI,fa]
   rw[hL,tO,qh]at ju;have bad:mj d.k t.ns[q].k=true->normal t=false:=λag=>by rw[ea,eW,ju,ag];rfl
   have ux:mj d.k t.ns[q].k=false->(d.aM.all λk=>!mj d.k (fM t.ns k))=((d.aM.drop (j+1)).all λk=>!mj d.k (fM t.ns k)):=λag=>by rw[ju,ag];rfl
   have e3:=b0 (i:=j) (by have:=fQ.a2.cap;omega);refine cU.draw aT rfl rfl rfl ?_;refine a7.mk dh j ev rfl fq ?_;refine aD.mk _ (dV _) ?_;refine a7.mk jS q m7 rfl k3 ?_;refine aD.mk _ (m8 _) ?_;refine bP.mk (λcT=>?_) (λcT=>?_)
   ·have d4:d.k=4:=by simpa using cT
    refine bP.mk (λc3=>?_) (λc3=>?_)
    ·refine bP.mk (λhc=>?_) (λhc=>?_)
     ·refine bP.mk (λvW=>?_) (λ_=>?_)
      ·exfalso;simp at vW;omega
      refine aW.mk _ e3 ?_;exact⟨j+1,⟨⟨by omega,ux (by simp at c3 hc;simp[mj,d4,c3,hc])⟩,by omega⟩,.refl,ec,.cons rfl (.cons rfl .nil)⟩
     ·exact⟨_,_,.refl,congrArg Value.bool (bad (by simp at hc;simp[mj,d4,hc])).symm,rfl,rfl⟩
    ·exact⟨_,_,.refl,congrArg Value.bool (bad (by simp at c3;simp[mj,d4,c3])).symm,rfl,rfl⟩
   ·have d4:d.k≠4:=by simpa using cT
    refine bP.mk (λvW=>?_) (λvW=>?_)
    ·have d5:d.k=5:=by simpa using vW
     refine aI.mk (λrl=>?_) (λrl=>?_);·exact⟨_,_,.refl,congrArg Value.bool (bad (by simp at rl;simp[mj,d5,rl])).symm,rfl,rfl⟩
     ·refine aW.mk _ e3 ?_;exact⟨j+1,⟨⟨by omega,ux (by simp at rl;simp[mj,d5,rl])⟩,by omega⟩,.refl,ec,.cons rfl (.cons rfl .nil)⟩
    ·have d5:d.k≠5:=by simpa using vW
     refine aW.mk _ e3 ?_;exact⟨j+1,⟨⟨by omega,ux (by simp[mj,d4,d5])⟩,by omega⟩,.refl,ec,.cons rfl (.cons rfl .nil)⟩
  ·have uf:d.aM.drop j=[]:=hJ (by simp at h;omega);refine aW.mk _ (b0 (i:=i) (by omega)) ?_;refine⟨i+1,⟨⟨by omega,?_⟩,by omega⟩,.refl,kS,.cons rfl .nil⟩;rw[eW,ju,uf];rfl
 ·have cI:t.n<=i:=by simpa using h
  have fv:t.ns.drop i=[]:=hJ (by omega);refine⟨_,_,.refl,?_,rfl,rfl⟩;rw[ea,eW,fv];rfl
def ahR(a b:Int):Spec Tryz.prog 251 [.int .u8 a,.int .u8 b] I [] λr I' M'=>r=.bool (fT a b)/\I'=I/\M'=[]:=by
 refine bU [] aT Tryz.func251 rfl rfl rfl ?_;intro B aq
 repeat' first
  |refine aI.mk (λh=>?_) (λh=>?_)| refine bP.mk (λh=>?_) (λh=>?_)
 all_goals (first | (exfalso;simp at *;omega;done) | refine⟨_,_,.refl,?_,rfl,rfl⟩)
 all_goals (simp only[e7,oY,nE,Ah]at *;simp_all[fT])
def ahS(lo:Nat)(hi:Int)(eS:lo<=99)(fs:hi=-1\/((lo:Int)<=hi/\hi<=99)):Spec Tryz.prog 254 [.int .i64 lo,.int .i64 hi] I [] λr I' M'=>r=.string (strOf (lI lo hi))/\I'=I/\M'=[]:=by
 have ah:=yO lo;have ox:=yO hi.toNat;refine bU [] aT Tryz.func254 rfl rfl rfl ?_;intro B aq;have eH:2<=lo->lI lo (-1)=[123]++hV lo++[44,125]:=λh=>by have aC:decide ((0:Int)=lo)=false:=c0 (by omega);have ay:decide ((1:Int)=lo)=false:=c0 (by omega);have bf:decide ((-1:Int)=lo)=false:=c0 (by omega);simp[lI,uq,aC,ay,bf]
 have nR:lI lo lo=[123]++hV lo++[125]:=by
  have aC:(decide ((0:Int)=lo)&&decide ((1:Int)=lo))=false:=by
   rw[CE];by_cases h:(0:Int)=lo;·exact .inr (c0 (by omega))
   ·exact .inl (c0 h)
  have bf:decide ((-1:Int)=lo)=false:=c0 (by omega);unfold lI uq;rw[aC,bf];simp
 have eu:∀ h:Nat,lo<h->¬ (lo=0/\h=1)->lI lo (h:Int)=[123]++hV lo++[44]++hV h++[125]:=λh U aa=>by
  have aC:(decide ((0:Int)=lo)&&decide ((1:Int)=h))=false:=by
   rw[CE];by_cases h:(0:Int)=lo;·exact .inr (c0 (by omega))
   ·exact .inl (c0 h)
  have bf:decide ((-1:Int)=h)=false:=c0 (by omega);have b3:decide ((h:Int)=lo)=false:=c0 (by omega);have eY:decide ((h:Int)=-1)=false:=c0 (by omega);unfold lI uq;rw[aC,bf,b3,eY];simp
 rcases fs with rfl | ⟨U,aa⟩
 ·rcases(by omega:lo=0\/lo=1\/2<=lo)with rfl | rfl | Ko
  ·repeat' first
    |refine aI.mk (λh=>?_) (λh=>?_)| refine bP.mk (λh=>?_) (λh=>?_)
   all_goals (try (exfalso;simp at *;done))
   all_goals exact⟨_,_,.refl,rfl,rfl,rfl⟩
  ·repeat' first
    |refine aI.mk (λh=>?_) (λh=>?_)| refine bP.mk (λh=>?_) (λh=>?_)
   all_goals (try (exfalso;simp at *;done))
   all_goals exact⟨_,_,.refl,rfl,rfl,rfl⟩
  ·have e:=eH Ko;clear eH nR eu
   repeat' first
    |refine aI.mk (λh=>?_) (λh=>?_)| refine bP.mk (λh=>?_) (λh=>?_)
   all_goals (try (exfalso;simp at *;done))
   all_goals (try (exfalso;simp at *;omega;done))
   refine aZ.mk [] [] _ (.refl _) (Ku lo (by omega)) ?_;rintro v J N -⟨rfl,rfl,rfl⟩;refine cC.eV (a:=[123]) (b:=hV lo) (by simp;omega) ?_;refine cC.eV (b:=[44,125]) (by simp;omega) ?_;exact⟨_,_,.refl,by rw[e],rfl,rfl⟩
 ·obtain⟨w,rfl⟩:=iN (show 0<=hi by omega);rcases(by omega:(lo=0/\w=1)\/lo=w\/(lo<w/\¬ (lo=0/\w=1)))with⟨rfl,rfl⟩ | rfl | ⟨db,cR⟩
  ·clear eH nR eu
   repeat' first
    |refine aI.mk (λh=>?_) (λh=>?_)| refine bP.mk (λh=>?_) (λh=>?_)
   all_goals (try (exfalso;simp at *;done))
   all_goals exact⟨_,_,.refl,rfl,rfl,rfl⟩
  ·clear eH eu
   repeat' first
    |refine aI.mk (λh=>?_) (λh=>?_)| refine bP.mk (λh=>?_) (λh=>?_)
   all_goals (try (exfalso;simp at *;done))
   all_goals (try (exfalso;simp at *;omega;done))
   all_goals
    refine aZ.mk [] [] _ (.refl _) (Ku lo (by omega)) ?_;rintro v J N -⟨rfl,rfl,rfl⟩;refine cC.eV (a:=[123]) (b:=hV lo) (by simp;omega) ?_;refine cC.eV (b:=[125]) (by simp;omega) ?_;exact⟨_,_,.refl,by rw[nR],rfl,rfl⟩
  ·have e:=eu w db cR;clear eH nR eu
   repeat' first
    |refine aI.mk (λh=>?_) (λh=>?_)| refine bP.mk (λh=>?_) (λh=>?_)
   all_goals (try (exfalso;simp at *;done))
   all_goals (try (exfalso;simp at *;omega;done))
   all_goals
    have AV:(hV w).length<=2:=yO w;refine aZ.mk [] [] _ (.refl _) (Ku lo (by omega)) ?_;rintro v J N -⟨rfl,rfl,rfl⟩;refine cC.eV (a:=[123]) (b:=hV lo) (by simp;omega) ?_;refine cC.eV (b:=[44]) (by simp;omega) ?_;refine aZ.mk [] [] _ (.refl _) (Ku w (by omega)) ?_;rintro v J N -⟨rfl,rfl,rfl⟩;refine cC.eV (b:=hV w) (by simp;omega) ?_;refine cC.eV (b:=[125]) (by simp;omega) ?_;exact⟨_,_,.refl,by rw[e],rfl,rfl⟩
structure ahT(d:a3)(n:Int):Prop where
 z:d.k=0->d.t=⟨#[]⟩
 leaf:d.k<=3->n=0
 one:6<=d.k->n=1
 two:d.k=4\/d.k=5->2<=n
def Kv{d:a3}{n:Int}(aq:0<=d.k)(h:fits d n=true):ahT d n:=by
 have ap:=(AI h).k;have af:d.k=0\/d.k=1\/d.k=2\/d.k=3\/d.k=4\/d.k=5\/d.k=6\/d.k=7\/d.k=8\/d.k=9:=by omega
 have ed:∀ j:Fin 10,s9 j.val=m0.getD (j.val*2) 0/\p9 j.val=m0.getD (j.val*2+1) 0:=by decide
 unfold fits at h;rcases af with e | e | e | e | e | e | e | e | e | e<;>rw[e]at h<;>simp[s9,p9,m0]at h <;>
  refine⟨λq=>?_,λq=>?_,λq=>?_,λq=>?_⟩<;>first | (omega;done) | (exact h.2.2.1;done) | (exact h.2.1;done) | (simp_all;done)
def jZ(sep:List UInt8):List (List UInt8)->List UInt8
 |[]=>[]| x::xs=>x++xs.flatMap λy=>sep++y
def XZ(sep:List UInt8)(f:Int->List UInt8):∀ ks,oq sep f true ks=(ks.map f).flatMap λy=>sep++y
 |[]=>rfl| k::ks=>by rw[oq,XZ sep f ks];simp
def ahU(sep:List UInt8)(f:Int->List UInt8)(ks:List Int):oq sep f false ks=jZ sep (ks.map f):=by
 cases ks with
 |nil=>rfl| cons k ks=>rw[oq,XZ];simp[jZ]
def X0(sep:List UInt8)(L:List (List UInt8))(h:L≠[])(y:List UInt8):jZ sep (L++[y])=jZ sep L++sep++y:=by
 cases L with
 |nil=>exact absurd rfl h| cons x xs=>simp[jZ]
def rL(aL:List Int)(d:a3)(L:List (List UInt8)):List UInt8:=
 bif decide (d.k=0)then [34,34]else
 bif decide (d.k=1)then tf aL d.fY d.s1 d.s2 d.gM else
 bif decide (d.k=2)then vL d.t else
 bif decide (d.k=3)then d.t.data.toList else
 bif decide (d.k=7)then [38]++L.headD []else
 bif decide (d.k=8)then [33]++L.headD []else
 bif decide (d.k=6)then L.headD []++lI d.lo.toNat d.hi else
 bif decide (d.k=9)then [60]++d.t.data.toList++[58,32]++L.headD []++[62]else
 jZ (bif decide (d.k=5)then [32,47,32]else [32]) L
def X1(aL:List Int)(ns:List a3){d:a3}(aq:0<=d.k)(h:fits d d.aM.length=true)(g:Int->List UInt8):xk aL ns d g=rL aL d (d.aM.map λk=>paren (fT d.k (fM ns k)) (g k)):=by
 have ap:=(AI h).k;have hm:=Kv aq h;have af:d.k=0\/d.k=1\/d.k=2\/d.k=3\/d.k=4\/d.k=5\/d.k=6\/d.k=7\/d.k=8\/d.k=9:=by omega
 unfold xk rL;rw[ahU];generalize bQ:(d.aM.map λk=>paren (fT d.k (fM ns k)) (g k))=L;have nx:L.length=d.aM.length:=by rw[<-bQ];simp
 have fY:h7 2=[]/\h7 3=[]/\h7 5=[]/\h7 8=[]/\h7 11=[]/\h7 12=[]/\h7 13=[32]/\h7 14=[]/\h7 15=[]/\h7 16=[32,47,32]/\h7 17=[]/\h7 18=[]/\h7 21=[38]/\h7 23=[]/\h7 24=[33]/\h7 26=[]/\h7 27=[60]/\h7 29=[62]:=by decide
 obtain⟨sE,DV,P2,ahV,ahW,ahX,ahY,ahZ,ah0,ah1,ah2,ah3,ah4,ah5,ah6,ah7,ah8,ah9⟩:=fY;have nil:d.k<=3->L=[]:=λq=>nB (by have:=hm.leaf q;omega);have one:6<=d.k->∃ x,L=[x]:=λq=>by
  have:=hm.one q
  match L,nx with
  |[x],_=>exact⟨x,rfl⟩| [],nx=>simp at nx;omega| _::_::_,nx=>simp at nx;omega
 rcases af with e | e | e | e | e | e | e | e | e | e
 ·rw[nil (by omega)];simp[kB,jQ,ot,jZ,e,sE,hm.z e,vL]
 ·rw[nil (by omega)];simp[kB,jQ,ot,jZ,e,P2]
 ·rw[nil (by omega)];simp[kB,jQ,ot,jZ,e,ahV]
 ·rw[nil (by omega)];simp[kB,jQ,ot,jZ,e,ahW]
 ·simp[kB,jQ,ot,e,ahX,ahY,ahZ]
 ·simp[kB,jQ,ot,e,ah0,ah1,ah2]
 ·obtain⟨x,rfl⟩:=one (by omega);simp[kB,jQ,ot,jZ,e,ah3]
 ·obtain⟨x,rfl⟩:=one (by omega);simp[kB,jQ,ot,jZ,e,ah4,ah5]
 ·obtain⟨x,rfl⟩:=one (by omega);simp[kB,jQ,ot,jZ,e,ah6,ah7]
 ·obtain⟨x,rfl⟩:=one (by omega);simp[kB,jQ,ot,jZ,e,ah8,ah9]
structure BD(P ki:cu)(N:Nat)(f:Nat->Nat):Prop where
 s:ki.s=P.s
 d:∀ k,k<N->(ki.av k).d=(P.av (f k)).d
 bL:∀ k,k<N->(P.av (f k)).bL=(ki.av k).bL.map f
 lt:∀ k,k<N->∀ q∈(ki.av k).bL,q<N
 one:∀ k,k<N->(ki.av k).d.k=3\/6<=(ki.av k).d.k->0<(ki.av k).bL.length
 nn:∀ k,k<N->0<=(ki.av k).d.k
 b:P.a0=0/\ki.a0=0
section
variable{m m':Nat->Nat->b8}{f:Nat->Nat}{N:Nat}(h:∀ k a,k<N->m' k a=m (f k) a)
include h
theorem X2:∀ (L:List Nat) (a n:Nat),(∀ q∈L,q<N)->fO m (L.map f) a n=fO m' L a n
 |[],_,_,_=>rfl| q::L,a,n,bQ=>by rw[ek,fO,fO,h q a (bQ q (.head _))];rw[X2 L _ _ λy aG=>bQ y (.tail _ aG)]
theorem X3:∀ (L:List Nat) (a:Nat),(∀ q∈L,q<N)->gb m (L.map f) a=gb m' L a
 |[],_,_=>rfl| q::L,a,bQ=>by rw[ek,gb,gb,h q a (bQ q (.head _)),X3 L _ λy aG=>bQ y (.tail _ aG)]
theorem X4{q:Nat}(az:q<N){lo hi:Int}:∀ (j i a n:Nat),ej m (f q) lo hi j i a n=ej m' q lo hi j i a n
 |0,i,a,n=>rfl| j+1,i,a,n=>by rw[ej,ej,h q a az,X4 az j]
end
def G3{l:List Nat}{f:Nat->Nat}(h:0<l.length):(l.map f).getD 0 0=f (l.getD 0 0):=by
 match l,h with
 |x::l,_=>rfl
def G4{l:List Nat}(h:0<l.length)(aw:∀ q∈l,q<N):l.getD 0 0<N:=by
 match l,h with
 |x::l,_=>exact aw x (.head _)
def BD.out{P:cu}{f:Nat->Nat}(h:BD P ki N f){m m':Nat->Nat->b8}(hm:∀ k a,k<N->m' k a=m (f k) a){k:Nat}(af:k<N)(a:Nat):cX ki m' k a=cX P m (f k) a:=by
 have ah:=h.d k af;have ax:=h.bL k af;have aw:=h.lt k af;have ar:=h.one k af;rcases y' (ki.av k).d.k with e | e | e | e | e | e | e | e | e | ⟨fN,db,cR,eB,ha,wa,zb,C6,C7⟩
 ·rw[uE e,uE (by rw[<-ah];exact e)]
 ·rw[uF e,uF (by rw[<-ah];exact e),h.s,ah]
 ·rw[uG e,uG (by rw[<-ah];exact e),h.s,ah]
 ·have aq:=ar (.inl e);rw[uH e,uH (by rw[<-ah];exact e),ax,G3 aq,hm _ _ (G4 aq aw)]
 ·rw[v5 e,v5 (by rw[<-ah];exact e),ax,X2 hm _ _ _ aw]
 ·rw[v7 e,v7 (by rw[<-ah];exact e),ax,X3 hm _ _ aw]
 ·have aq:=ar (.inr (by omega));rw[tn e,tn (by rw[<-ah];exact e),ax,G3 aq,<-ah,X4 hm (G4 aq aw)];unfold xA;rw[h.s]
 ·have aq:=ar (.inr (by omega));rw[st e,st (by rw[<-ah];exact e),ax,G3 aq,hm _ _ (G4 aq aw)]
 ·have aq:=ar (.inr (by omega));rw[su e,su (by rw[<-ah];exact e),ax,G3 aq,hm _ _ (G4 aq aw)]
 ·have aq:=ar (.inr (by have:=h.nn k af;omega));rw[uI fN db cR eB ha wa zb C6 C7,uI (by rw[<-ah];exact fN) (by rw[<-ah];exact db) (by rw[<-ah];exact cR) (by rw[<-ah];exact eB) (by rw[<-ah];exact ha) (by rw[<-ah];exact wa) (by rw[<-ah];exact zb) (by rw[<-ah];exact C6) (by rw[<-ah];exact C7),ax,G3 aq,hm _ _ (G4 aq aw)]
def BD.bw{P:cu}{f:Nat->Nat}(h:BD P ki N f):∀ (n k a:Nat),k<N->gC ki n k a=gC P n (f k) a
 |0,_,_,_=>rfl| n+1,k,a,af=>h.out (λk a af=>h.bw n k a af) af a
def BD.fh{P:cu}{f:Nat->Nat}(h:BD P ki N f){k:Nat}(af:k<N)(a:Nat):bj ki k a=bj P (f k) a:=by
 by_cases ah:∃ n,dQ (gC ki n k a)
 ·obtain⟨n,an⟩:=ah;have aa:dQ (gC P n (f k) a):=by rw[<-h.bw n k a af];exact an
  rw[za an,za aa,h.bw n k a af]
 ·have aa:¬ ∃ n,dQ (gC P n (f k) a):=λ⟨n,an⟩=>ah ⟨n,by rw[h.bw n k a af];exact an⟩;unfold bj;rw[dif_neg ah,dif_neg aa]
section
end
def lT(g:cE)(x:bB)(s:ByteArray):cu:=⟨(kI g.ds).map nr++x.ns.map (xD g.ds (bz g.ds)),s,0⟩
section
variable{g:cE}{x:bB}{s:ByteArray}
def X5:(lT g x s).ns.length=bz g.ds+x.ns.length:=by show((kI g.ds).map nr++x.ns.map _).length=_;rw[b5,dx,dx,wv]
def zG{k:Nat}(af:k<bz g.ds):(lT g x s).av k=(gZ g s).av k:=by
 have h:k<((kI g.ds).map nr).length:=by rw[dx,wv];exact af
 unfold cu.av lT gZ;rw[dI,dI,oX h]
def zH(ak:j<x.ns.length):(lT g x s).av (bz g.ds+j)=xD g.ds (bz g.ds) x.ns[j]:=by
 have h:((kI g.ds).map nr).length=bz g.ds:=by rw[dx,wv]
 unfold cu.av lT;rw[dI,pd (by omega),h,FK,vj,fJ ak];rfl
def aia{k:Nat}(af:bz g.ds+x.ns.length<=k):(lT g x s).av k=⟨NA,[]⟩:=by
 have h:(lT g x s).ns.length<=k:=by rw[X5];exact af
 unfold cu.av;rw[dI,yl h];rfl
variable(hm:me g)(dY:∀ d∈g.ds,∀ n∈d.t.ns,0<=n.k)(ap:s.size<=4096)
include hm dY ap
theorem aib:BD (lT g x s) (gZ g s) (bz g.ds) id:=by
 obtain⟨la,cq⟩:=DM hm dY ap;refine⟨rfl,λk af=>?_,λk af=>?_,λk af q az=>(cq k af).bL q az,λk af h=>?_,λk af=>(cq k af).fN,⟨rfl,rfl⟩⟩
 ·rw[id,zG af]
 ·rw[id,zG af,List.map_id]
 ·obtain⟨q,az⟩:=(la k).one h;rw[az];exact F'
theorem P3{k:Nat}(af:k<bz g.ds)(a:Nat):bj (gZ g s) k a=bj (lT g x s) k a:=(aib hm dY ap (x:=x)).fh af a
structure xU(g:cE)(x:bB):Prop where
 r:CY x
 fN:∀ n∈x.ns,0<=n.k
 find:∀ n∈x.ns,n.k=3->0<=cy n.t g.ds 0
omit ap in
theorem Kw(ab:xU g x)(ak:j<x.ns.length) :
  0<=x.ns[j].k/\x.ns[j].k<10/\(∀ q∈eR g.ds (bz g.ds) x.ns[j],q<bz g.ds+x.ns.length)/\(x.ns[j].k=3\/6<=x.ns[j].k->(eR g.ds (bz g.ds) x.ns[j]).length=1) /\
   (x.ns[j].k=6->0<=x.ns[j].lo/\x.ns[j].lo<=99/\(x.ns[j].hi=-1\/(x.ns[j].lo<=x.ns[j].hi/\x.ns[j].hi<=99)))/\(eR g.ds (bz g.ds) x.ns[j]).length<=max 1 x.ns.length:=by
 have an:=cZ ak;have aF:=ab.r.fits j ak;obtain⟨f1,f2,f3,f4,-,-⟩:=NN (ab.fN _ an) aF;have hM:=ab.r.aM j ak;have fz:x.ns[j].aM.length<=j:=CZ j _ (ab.r.diff.sublist (C1 an)) hM;have P4:=ab.find _ an;have aq:=ab.fN _ an;generalize x.ns[j]=n at *;refine⟨aq,f1,?_⟩;by_cases ae:n.k=3
 ·have pw:eR g.ds (bz g.ds) n=[(ff 0 g.ds).getD (cy n.t g.ds 0).toNat 0]:=by rw[eR,gX ae,bg]
  have C2:=C0 g.ds 0 (P4 ae);have fa:(cy n.t g.ds 0).toNat<(ff 0 g.ds).length:=by rw[v3];omega
  rw[pw];refine⟨λq az=>?_,λ_=>rfl,λh=>by omega,by show 1<=_;omega⟩;rw[iu.1 az,dI,fJ fa,j1];have:=y8 0 g.ds (λd ah=>(hm.r d ah).bJ) _ (cZ fa);omega
 ·have pw:eR g.ds (bz g.ds) n=n.aM.map λk=>bz g.ds+k.toNat:=by rw[eR,c0 ae,bd]
  rw[pw];refine⟨λq az=>?_,λh=>?_,f4,by rw[dx];omega⟩;·obtain⟨k,af,rfl⟩:=dp.1 az;have:=hM k af;omega
  ·rw[dx];exact f3 (by omega)
theorem P5(ab:xU g x):(∀ k,pA (lT g x s) k)/\∀ k,k<bz g.ds+x.ns.length->tq (lT g x s) (bz g.ds+x.ns.length) k:=by
 obtain⟨la,cq⟩:=DM hm dY ap;refine⟨λk=>?_,λk af=>?_⟩
 ·by_cases U:k<bz g.ds
  ·obtain⟨cg,dv,dC,fI⟩:=la k;refine⟨?_,?_,?_,?_⟩<;>rw[zG U]<;>assumption
  ·by_cases aa:k<bz g.ds+x.ns.length
   ·obtain⟨j,rfl⟩:∃ j,k=bz g.ds+j:=⟨k-bz g.ds,by omega⟩;have ak:j<x.ns.length:=by omega
    obtain⟨b',ch,dS,e5,h8,dA⟩:=Kw hm dY ab ak;refine⟨by rw[zH ak];exact b',λh=>?_,by rw[zH ak];exact ch,λh=>?_⟩
    ·rw[zH ak]at h |-;have bn:(eR g.ds (bz g.ds) x.ns[j]).length=1:=e5 h;show ∃ q,eR g.ds (bz g.ds) x.ns[j]=[q]
     match aw:eR g.ds (bz g.ds) x.ns[j],bn with
     |[q],_=>exact⟨q,rfl⟩
    ·rw[zH ak]at h |-;have:=h8 h;show x.ns[j].hi=-1\/(0<=x.ns[j].hi/\x.ns[j].hi<=99);omega
   ·have e:=aia (g:=g) (x:=x) (s:=s) (k:=k) (by omega);refine⟨by rw[e];exact Int.le_refl 0,λh=>?_,by rw[e];show(0:Int)<10;omega,λh=>?_⟩
    ·rw[e]at h;have aa:(0:Int)=3\/6<=(0:Int):=h;omega
    ·rw[e]at h;have aa:(0:Int)=6:=h;omega
 ·by_cases U:k<bz g.ds
  ·obtain⟨cg,dv,dC,fI⟩:=cq k U;refine⟨?_,λh=>?_,λq az=>?_,?_⟩
   ·rw[zG U];exact cg
   ·rw[zG U]at h |-;have:=dv h;omega
   ·rw[zG U]at az;have:=dC q az;omega
   ·rw[zG U];exact fI
  ·obtain⟨j,rfl⟩:∃ j,k=bz g.ds+j:=⟨k-bz g.ds,by omega⟩;have ak:j<x.ns.length:=by omega
   obtain⟨b',ch,dS,e5,h8,dA⟩:=Kw hm dY ab ak;refine⟨by rw[zH ak];exact b',λh=>?_,λq az=>?_,λh=>?_⟩
   ·rw[zH ak]at h |-;have bn:(eR g.ds (bz g.ds) x.ns[j]).length=1:=e5 h;show(eR g.ds (bz g.ds) x.ns[j]).getD 0 0<_
    match aw:eR g.ds (bz g.ds) x.ns[j],bn with
    |[q],_=>exact dS q (by rw[aw];exact .head _)
   ·rw[zH ak]at az;exact dS q az
   ·rw[zH ak]at h |-;exact(h8 h).2.1
end
structure ey where
 a:BitVec 64
 b:BitVec 64
 c:BitVec 64
 d:BitVec 64
 deriving DecidableEq
def ey.zero:ey:=⟨0,0,0,0⟩
def ey.or(x y:ey):ey:=⟨x.a ||| y.a,x.b ||| y.b,x.c ||| y.c,x.d ||| y.d⟩
def ey.and(x y:ey):ey:=⟨x.a &&& y.a,x.b &&& y.b,x.c &&& y.c,x.d &&& y.d⟩
def ey.sub(x y:ey):Bool:=decide (x.and y=x)
def ey.cells(x:ey):List Value:=[.int .u64 x.a.toNat,.int .u64 x.b.toNat,.int .u64 x.c.toNat,.int .u64 x.d.toNat]
structure lp where
 w:ey
 f:Bool
 deriving DecidableEq
def lp.cells(x:lp):List Value:=[.int .u64 x.w.a.toNat,.int .u64 x.w.b.toNat,.int .u64 x.w.c.toNat,.int .u64 x.w.d.toNat,.bool x.f]
def P6:lp:=⟨.zero,false⟩
def ey.ext'{x y:ey}(U:x.a=y.a)(aa:x.b=y.b)(ae:x.c=y.c)(aR:x.d=y.d):x=y:=by obtain⟨a,b,c,d⟩:=x;obtain⟨bX,iq,c',xz⟩:=y;simp only at U aa ae aR;subst U aa ae aR;rfl
def ey.or_assoc(x y z:ey):(x.or y).or z=x.or (y.or z):=by simp only[ey.or,BitVec.or_assoc]
def ey.or_comm(x y:ey):x.or y=y.or x:=by simp only[ey.or,BitVec.or_comm]
def ey.or_self(x:ey):x.or x=x:=by simp[ey.or]
def ey.zero_or(x:ey):ey.zero.or x=x:=by simp[ey.or,ey.zero]
def zI{x y:BitVec 64}:x &&& y=x ↔ x ||| y=y:=by
 constructor
 ·intro h;apply BitVec.eq_of_getElem_eq;intro i hi;have:=congrArg (λw:BitVec 64=>w[i]) h;simp only[BitVec.getElem_and,BitVec.getElem_or]at this |-;revert this;cases x[i]<;>cases y[i]<;>simp
 ·intro h;apply BitVec.eq_of_getElem_eq;intro i hi;have:=congrArg (λw:BitVec 64=>w[i]) h;simp only[BitVec.getElem_and,BitVec.getElem_or]at this |-;revert this;cases x[i]<;>cases y[i]<;>simp
def ey.Kx{x y:ey}:x.sub y=true ↔ x.or y=y:=by
 unfold ey.sub;rw[e7];constructor
 ·intro h;have U:=congrArg ey.a h;have aa:=congrArg ey.b h;have ae:=congrArg ey.c h;have aR:=congrArg ey.d h;exact ey.ext' (zI.1 U) (zI.1 aa) (zI.1 ae) (zI.1 aR)
 ·intro h;have U:=congrArg ey.a h;have aa:=congrArg ey.b h;have ae:=congrArg ey.c h;have aR:=congrArg ey.d h;exact ey.ext' (zI.2 U) (zI.2 aa) (zI.2 ae) (zI.2 aR)
def ey.aic(x:ey):x.sub x=true:=ey.Kx.2 x.or_self
def ey.aid{x y z:ey}(h:x.sub y=true)(bh:y.sub z=true):x.sub z=true:=by rw[ey.Kx]at h bh |-;rw[<-bh,<-ey.or_assoc,h]
def ey.aie{x y:ey}(h:x.sub y=true)(bh:y.sub x=true):x=y:=by rw[ey.Kx]at h bh;exact bh.symm.trans ((ey.or_comm y x).trans h)
def ey.zero_sub(x:ey):ey.zero.sub x=true:=by rw[ey.Kx,ey.zero_or]
structure lp.le(a b:lp):Prop where
 w:a.w.sub b.w=true
 f:a.f=true->b.f=true
def lp.le_refl(a:lp):a.le a:=⟨ey.aic _,id⟩
def lp.le.trans{a b c:lp}(h:a.le b)(bh:b.le c):a.le c:=⟨ey.aid h.w bh.w,λx=>bh.f (h.f x)⟩
def lp.le.antisymm{a b:lp}(h:a.le b)(bh:b.le a):a=b:=by
 have U:=ey.aie h.w bh.w;obtain⟨aou,aif⟩:=a;obtain⟨aov,aih⟩:=b;simp only at U;subst U;have aF:=h.f;have yw:=bh.f;cases aif<;>cases aih<;>simp_all
def lp.ss(a:lp):P6.le a:=⟨ey.zero_sub _,λh=>by cases h⟩
structure P7(α:Type) where
 le:α->α->Prop
 ss:α
 refl:∀ a,le a a
 trans:∀ {a b c},le a b->le b c->le a c
 aow:∀ {a b},le a b->le b a->a=b
 low:∀ a,le ss a
structure BE{α:Type}(O:P7 α)(l m:List α):Prop where
 len:l.length=m.length
 at':∀ i,O.le (l.getD i O.ss) (m.getD i O.ss)
section
variable{α:Type}{O:P7 α}
def BE.trans{a b c:List α}(h:BE O a b)(bh:BE O b c):BE O a c:=⟨h.len.trans bh.len,λi=>O.trans (h.at' i) (bh.at' i)⟩
def BE.of{a b:List α}(aw:a.length=b.length)(h:∀ i,i<a.length->O.le (a.getD i O.ss) (b.getD i O.ss)):BE O a b:=⟨aw,λi=>by
 by_cases hi:i<a.length
 ·exact h i hi
 ·have e:a.getD i O.ss=O.ss:=by simp[dI,yl (Nat.le_of_not_lt hi)]
  rw[e];exact O.low _⟩
section
end
end
def X6:P7 lp:=⟨lp.le,P6,lp.le_refl,λh bh=>h.trans bh,λh bh=>h.antisymm bh,lp.ss⟩
def aox.map{f g:α->lp}{l:List α}(h:∀ x∈l,(f x).le (g x)):BE X6 (l.map f) (l.map g):=.of (by simp) λi hi=>by
 have dw:i<l.length:=by simpa using hi
 have:=h _ (cZ dw);simpa[dI,dw]using(show X6.le _ _ from this)
structure DW(x:ia)(k:lp):Prop where
 z:x.z=true->k.f=true
 s:x.s=true->k.w≠.zero
def DW.none(k:lp):DW uD k:=⟨λh=>(by cases h),λh=>(by cases h)⟩
inductive zJ:List ia->List lp->Prop
 |nil:zJ [] []| cons {x k l m} (h:DW x k) (t:zJ l m):zJ (x::l) (k::m)
def zJ.head{l:List ia}{m:List lp}(h:zJ l m):DW (l.headD uD) (m.headD P6):=by
 cases h with
 |nil=>exact DW.none _| cons h t=>exact h
def zJ.map{α:Type}{f:α->ia}{g:α->lp}:∀ {l:List α},(∀ x∈l,DW (f x) (g x))->zJ (l.map f) (l.map g)
 |[],_=>.nil| x::l,h=>.cons (h x (.head _)) (zJ.map λy aG=>h y (.tail _ aG))
section
end
section
variable{g:cE}{x y:bB}{s:ByteArray}(hm:me g)(dY:∀ d∈g.ds,∀ n∈d.t.ns,0<=n.k)(ap:s.size<=4096)
omit hm in
theorem k'.aii{m m':Nat->Nat->b8}(h:∀ a,m' q a=m q a){a to:Nat}(aN:k' m q a t to n):k' m' q a t to n:=by
 induction aN with
 |stop U=>exact .stop (by rw[h];exact U)| @more a t to n U an r bc=>have:=k'.more (m:=m') (q:=q) (a:=a) (t:=t) (to:=to) (n:=n) (by rw[h];exact U) (by rw[h];exact an) (by rw[h];exact bc);rwa [h]at this
omit hm in
noncomputable def sH(g:cE)(x:bB)(s:ByteArray)(T:Nat->Nat->bW)(k a:Nat):bW:=if k<bz g.ds then T k a else tD (lT g x s) (bz g.ds+x.ns.length) k a
omit hm in
theorem G5{T:Nat->Nat->bW}{k a:Nat}(h:k<bz g.ds):sH g x s T k a=T k a:=dd h
omit hm in
theorem G6{T:Nat->Nat->bW}{k a:Nat}(h:bz g.ds<=k):sH g x s T k a=tD (lT g x s) (bz g.ds+x.ns.length) k a:=cG (by omega)
include hm dY ap
theorem aij{T:Nat->Nat->bW}(bS:ib (gZ g s) (bz g.ds) T)(eT:∀ k b,(T k b).ce=bj (gZ g s) k b):ib (lT g x s) (bz g.ds+x.ns.length) (sH g x s T):=by
 have aq:=Xo (lT g x s) (bz g.ds+x.ns.length);have uX:∀ k a,k<bz g.ds->bj (lT g x s) k a=(T k a).ce:=λk a af=>by rw[eT,P3 hm dY ap af]
 obtain⟨la,cq⟩:=DM hm dY ap;refine⟨λk a=>?_,λk a h=>?_,λk a af ax b2 bC h=>?_,λk a af ax=>?_,λk a h=>?_⟩<;>by_cases l4:k<bz g.ds
 ·rw[G5 l4];exact bS.aA k a
 ·rw[G6 (by omega)];exact aq.aA k a
 ·rw[G5 l4];exact uX k a l4
 ·rw[G6 (by omega)]at h |-;exact aq.snd k a h
 ·rw[G5 l4]at h |-;rw[zG l4]at b2 bC |-;obtain⟨t,U,aa⟩:=bS.s3 k a l4 ax b2 bC h;refine⟨t,U.aii λb=>?_,aa⟩;exact(P3 hm dY ap ((cq k l4).one (.inr (by omega))) b).symm
 ·rw[G6 (by omega)]at h |-;exact aq.s3 k a af ax b2 bC h
 ·rw[G5 l4];exact bS.rg k a l4 ax
 ·rw[G6 (by omega)];exact aq.rg k a af ax
 ·rw[G5 l4];exact(uX k a l4).symm
 ·rw[G6 (by omega)];exact aq.out k a h
end
def zK(I:aH):List aE->aH
 |[]=>I| x::L=>zK (ins I x.num x.obj) L
def X7{b6:List Nat}{M:List aE}:∀ {I:aH} (L:List aE),(∀ x∈L,x.num ∉ b6)->h1 b6 I (L++M) (zK I L) M
 |I,[],_=>.refl| I,x::L,h=>.oT rfl (h x (.head _)) (X7 L λq az=>h q (.tail _ az))
def X8:∀ {I:aH} (L:List aE),(∀ x∈L,I x.num=none)->(L.map (λx:aE=>x.num)).Nodup->(∀ b o,I b=some o->zK I L b=some o)/\∀ x∈L,zK I L x.num=some x.obj
 |I,[],_,_=>⟨λ_ _ h=>h,λx ab=>by cases ab⟩
 |I,p::L,h,an=>by
  rw[ek,mo]at an;have bx:∀ q∈L,(ins I p.num p.obj) q.num=none:=λq az=>by unfold ins;rw[gS λe=>an.1 (dp.2 ⟨q,az,e⟩)];exact h q (.tail _ az)
  obtain⟨U,aa⟩:=X8 L bx an.2;refine⟨λb o ag=>U b o (ph (h p (.head _)) b o ag),λq az=>?_⟩;rcases et.1 az with rfl | az;·exact U _ _ (sf ..)
  ·exact aa q az
def a'.zK{J:aH}{xs:List Value}{b:Nat}(h:os.ok size xs)(cm:∀ x∈os.aQ e,J x.num=some x.obj)(ag:os.n*b<=140737488355328):dX J (os.a.map λg=>⟨g,0,none⟩) os.n os.c size b xs:=by
 obtain⟨a,n,c,aS⟩:=os;cases a with
 |none=>obtain⟨U,aa⟩:=h.nil rfl;exact⟨h.len,⟨by simp only at U aa |-;omega,ag⟩,.inl U⟩
 |some g=>obtain⟨U,aa,ae,aR⟩:=h.cap g rfl;exact⟨h.len,⟨aa,ag⟩,.inr ⟨⟨g,0,none⟩,rfl,rfl,aS.toArray,e,(0,0),cm ⟨g,.cells aS.toArray e (0,0)⟩ (.head _),by simpa using aR⟩⟩
def aik{g:cE}{x:bB}{s:ByteArray}(hm:me g)(dY:∀ d∈g.ds,∀ n∈d.t.ns,0<=n.k)(ap:s.size<=4096)(ab:xU g x)(an:x.ns.length<=1024):y3 (lT g x s):=by
 have bY:=X5 (g:=g) (x:=x) (s:=s);refine⟨λa ax=>?_,bi _,ap⟩;rcases dW.1 ax with h | h
 ·have U:=(XJ hm dY ap).ns a h;have aw:(gZ g s).ns.length=bz g.ds:=by show((kI g.ds).map nr).length=_;rw[dx,wv]
  exact⟨U.k,λy aG=>by have:=U.bL y aG;omega,U.many,U.one,U.l7,U.len⟩
 ·obtain⟨n,uN,rfl⟩:=dp.1 h;obtain⟨j,ak,rfl⟩:=th uN;obtain⟨b',ch,dS,e5,h8,dA⟩:=Kw hm dY ab ak;have aF:=ab.r.fits j ak;obtain⟨-,f2,-,-,-,-⟩:=NN b' aF;refine⟨⟨b',ch⟩,λy aG=>by have:=dS y aG;omega,λaR=>?_,e5,h8,by show(eR g.ds (bz g.ds) x.ns[j]).length<=1024;omega⟩;have FI:x.ns[j].k=4\/x.ns[j].k=5:=aR;have:=f2 FI;show 0<(eR g.ds (bz g.ds) x.ns[j]).length;rw[eR,c0 (by omega),bd,dx];omega
def kj(t:dt)(x:bB)(kb:List (Nat×List Nat))(b9:Nat)(os osr:a')(ba:Nat):dt:=
 ⟨b9,t.s,t.nv,t.rv,t.ic++iB kb x.ns,os.a.map λg=>⟨g,0,none⟩,t.nn+x.n,os.c,osr.a.map λg=>⟨g,0,none⟩,osr.c,t.rows++(List.range x.n).map λk=>⟨ba,k*(t.w*4),none⟩,t.nn,ba⟩
section
variable{I J:aH}{g:cE}{s:ByteArray}{t:dt}{T:Nat->Nat->bW}{x:bB}{kb:List (Nat×List Nat)}{b9 ba:Nat}{os osr:a'}
def P8(h:lj I g s t T)(sI:kb.map (·.2)=x.ns.map (eR g.ds (bz g.ds))):(kj t x kb b9 os osr ba).P=lT g x s:=by have U:t.ic.map a3.pn=(kI g.ds).map nr:=congrArg cu.ns h.P;show(⟨(t.ic++iB kb x.ns).map a3.pn,t.s,0⟩:cu)=_;rw[fC,U,PB (by simpa using congrArg List.length sI),PC sI,h.ts];rfl
def ail(h:lj I g s t T)(pL:x.ns.length=x.n):(kj t x kb b9 os osr ba).aQ (sH g x s T)=⟨ba,.cells ((List.replicate (x.n*t.w) g8).flatMap bW.cells).toArray 106 (0,0)⟩:=by
 have rH:=h.nn;have e:(kj t x kb b9 os osr ba).cs (sH g x s T)=(List.replicate (x.n*t.w) g8).flatMap bW.cells:=by rw[<-Oi];unfold dt.cs lb;show((List.range ((t.nn+x.n)-t.nn)).flatMap λj=>(List.range t.w).flatMap λa=>(sH g x s T (t.nn+j) a).cells)=_;rw[FK];refine GV λj ak=>GV λa ax=>?_;have U:=j2.1 ak;have aa:a<t.s.size+1:=j2.1 ax;rw[h.ts]at aa;rw[show sH g x s T (t.nn+j) a=_ from cG (by omega),GU (by omega) (by show a<=s.size;omega)]
 unfold dt.aQ;rw[e];rfl
variable(aB:g.ok I)(hm:me g)(ap:s.size<=4096)(h:lj I g s t T)(ab:x.ok I)(nt:xU g x)(pL:bz g.ds+x.n<=4096)(fE:0<x.n)(bk:∀ b o,I b=some o->J b=some o)(iA:∀ n∈x.ns,n.t.size<=4096)(sI:kb.map (·.2)=x.ns.map (eR g.ds (bz g.ds)))(cf:J b9=some (.cells (kj t x kb b9 os osr ba).cb.toArray 98 (0,0)))(jr:dX J (os.a.map λg=>⟨g,0,none⟩) (t.nn+x.n) os.c 9 96 ((t.ic++iB kb x.ns).flatMap a3.cells))(wF:dX J (osr.a.map λg=>⟨g,0,none⟩) (t.nn+x.n) osr.c 1 24 ((kj t x kb b9 os osr ba).rows.map λa=>Value.slice (some a) t.w t.w))(BF:∀ p∈kb,J p.1=some (.cells (p.2.map bE).toArray 3 (0,0)))
include aB hm ap h ab nt pL bk iA sI cf jr wF BF
theorem X9:(kj t x kb b9 os osr ba).ok J (sH g x s T):=by
 have a5:=h.ok;have rH:=h.nn;have cO:=h.ts;have jN:=h.n0;have hb:=ab.n;have jJ:=a5.Jz;have dY:∀ d∈g.ds,∀ n∈d.t.ns,0<=n.k:=λd ah n an=>((aB.ds d ah).t.ns n an).k.1;have mM:∀ p∈kb,p.2.length<=4096/\∀ y∈p.2,y<t.nn+x.n:=λp aK=>by have U:p.2∈kb.map (·.2):=dp.2 ⟨p,aK,rfl⟩;rw[sI]at U;obtain⟨n,an,e⟩:=dp.1 U;obtain⟨j,ak,rfl⟩:=th an;obtain⟨b',ch,dS,e5,h8,dA⟩:=Kw hm dY nt ak;rw[e]at dS dA;exact⟨by omega,λy aG=>by have:=dS y aG;omega⟩
 have tH:=Xp (J:=J) (kb:=kb) (ns:=x.ns) (λp aK=>⟨BF p aK,by have:=(mM p aK).1;omega,λy aG=>by have:=(mM p aK).2 y aG;omega⟩) (λn an=>(ab.ns n an).mono bk);refine⟨cf,jr,λy aG=>?_,λy aG=>?_,λy aG z a1=>?_,wF,λa ax=>?_,λk af aq=>?_,λk af aq=>?_,by show t.s.size<=4096;rw[cO];exact ap,by show t.nn+x.n<=4096;omega⟩
 ·rcases dW.1 aG with aG | aG
  ·exact(a5.ic y aG).mono bk
  ·exact(tH y aG).1
 ·rcases dW.1 aG with aG | aG
  ·exact a5.Ga y aG
  ·obtain⟨-,-,n,an,e⟩:=tH y aG;rw[e];exact iA n an
 ·show 0<=z/\z.toNat<t.nn+x.n;rcases dW.1 aG with aG | aG
  ·have:=a5.nk y aG z a1;omega
  ·obtain⟨-,⟨p,aK,e⟩,-⟩:=tH y aG;rw[e]at a1;obtain⟨q,az,rfl⟩:=dp.1 a1;have:=(mM p aK).2 q az;omega
 ·rcases dW.1 ax with ax | ax
  ·exact a5.eo a ax
  ·obtain⟨k,_,rfl⟩:=dp.1 ax;rfl
 ·have l4:k<t.nn:=aq;have te:k<t.rows.length:=by omega
  have aC:(kj t x kb b9 os osr ba).rows[k]=t.rows[k]:=List.getElem_append_left te;obtain⟨cs,gp,aj,ay,bf⟩:=a5.c2 k te (by omega);refine⟨cs,gp,aj,by rw[aC];exact bk _ _ ay,?_⟩;rw[aC];refine bf.trans ?_;show lb T k t.w=lb (sH g x s T) k t.w;unfold lb;refine GV λa ax=>?_;rw[show sH g x s T k a=_ from dd (by omega)]
 ·have l4:t.nn<=k:=aq;have te:k<(t.rows++(List.range x.n).map λk=>(⟨ba,k*(t.w*4),none⟩:Addr)).length:=af;show(t.rows++(List.range x.n).map λk=>(⟨ba,k*(t.w*4),none⟩:Addr))[k]=_;rw[WQ (by omega)];simp only[lH,nj,jJ];rfl
include fE
theorem aim:Oa J (kj t x kb b9 os osr ba) (sH g x s T) ((List.range x.n).map λi=>t.nn+i):=by
 have cP:=P8 (b9:=b9) (os:=os) (osr:=osr) (ba:=ba) h sI;have rH:=h.nn;have hb:=ab.n;have dY:∀ d∈g.ds,∀ n∈d.t.ns,0<=n.k:=λd ah n an=>((aB.ds d ah).t.ns n an).k.1;obtain⟨la,cq⟩:=P5 hm dY ap nt;have rp:(kj t x kb b9 os osr ba).nn=bz g.ds+x.ns.length:=by show t.nn+x.n=_;omega
 refine⟨X9 aB hm ap h ab nt pL bk iA sI cf jr wF BF,?_,λk af=>?_,λk=>by rw[cP];exact la k,by show t.nn<t.nn+x.n;omega,λk af=>?_,λk U aa=>?_,λk af b=>?_⟩
 ·rw[cP,rp];refine aij hm dY ap ?_ h.all;have:=h.inv;rwa [h.P,rH]at this
 ·rw[cP,rp];exact cq k (by omega)
 ·obtain⟨i,hi,rfl⟩:=dp.1 af;have:=j2.1 hi;show t.nn<=t.nn+i/\t.nn+i<t.nn+x.n;omega
 ·have U:t.nn<=k:=U;have aa:k<t.nn+x.n:=aa;exact dp.2 ⟨k-t.nn,j2.2 (by omega),by omega⟩
 ·have af:k<t.nn:=af;rw[cP,show sH g x s T k b=_ from dd (by omega),h.all,P3 hm dY ap (by omega)]
omit fE in
theorem ain{J':aH}{iF:Nat->Nat->bW}(X':x.n<=1024)(f1:ib (kj t x kb b9 os osr ba).P (kj t x kb b9 os osr ba).nn iF)(f2:∀ k b,av<=b->(iF k b).ce=bj (kj t x kb b9 os osr ba).P k b)(f3:∀ k,k<t.nn->∀ b,iF k b=sH g x s T k b)
  (z4:∀ b o,J b=some o->J' b=some o) (ag:J' ba=some (.cells ((kj t x kb b9 os osr ba).cs iF).toArray 106 (0,0))):rI J' ({ kj t x kb b9 os osr ba with n0:=t.nn+x.n }:dt) iF av:=by
 have cP:=P8 (b9:=b9) (os:=os) (osr:=osr) (ba:=ba) h sI;have rH:=h.nn;have hb:=ab.n;have dY:∀ d∈g.ds,∀ n∈d.t.ns,0<=n.k:=λd ah n an=>((aB.ds d ah).t.ns n an).k.1;obtain⟨la,cq⟩:=P5 hm dY ap nt;have rp:(kj t x kb b9 os osr ba).nn=bz g.ds+x.ns.length:=by show t.nn+x.n=_;omega
 have a5:=(X9 aB hm ap h ab nt pL bk iA sI cf jr wF BF).sv f3;refine⟨a5.kL z4 ag,f1,λk b aio=>f2 k b aio,rfl,λk af=>?_,λk=>?_,?_⟩
 ·have af:k<t.nn+x.n:=af;show tq (kj t x kb b9 os osr ba).P (t.nn+x.n) k;rw[cP,show t.nn+x.n=bz g.ds+x.ns.length by omega];exact cq k (by omega)
 ·show pA (kj t x kb b9 os osr ba).P k;rw[cP];exact la k
 ·show y3 (kj t x kb b9 os osr ba).P;rw[cP];exact aik hm dY ap nt (by omega)
end
def dX.Ky{a:Option Addr}{c b:Nat}{vs:List Value}(h:dX I a n c size b vs)(aq:0<n):∃ ad,a=some ad/\ad.spot=none/\∀ M,bD I M ad (n*size) vs:=by
 rcases h.rd with U | ⟨ad,U,aa,cs,T,aj,ae,aR⟩
 ·omega
 ·exact⟨ad,U,aa,λM=>⟨aa,cs,T,aj,.inl ae,aR,h.len⟩⟩
def aip(aN:nJ I){g:cE}{s:ByteArray}{t:dt}{T:Nat->Nat->bW}(h:lj I g s t T)(hm:me g)(aB:g.ok I)(qG:s.size<=4096){x:bB}(ab:x.ok I)(e8:fF x=true)(nt:xU g x)(pL:bz g.ds+x.n<=4096)(gz:av<=s.size){r:Nat}(ao:x.bJ=(r:Int)) :
  Spec Tryz.prog 15 [ptr t.bt,x.val,.int .i64 av] I [] λv I' M'=>(∀ b o,I b=some o->I' b=some o)/\∃ (gP:a') (o:rq) (e:Int),u3 (lT g x s) (bz g.ds+r) av o e/\v=.tuple #[u1 o gP.val,.int .i64 e]/\gP.ok 3 (o.caps.flatMap eD.cells)/\M'=gP.aQ 110:=by
 refine H' [9] aT Tryz.func15 rfl rfl rfl ?_;intro B aq;have a5:=h.ok;have cO:=h.ts;have rH:=h.nn;have fU:=aB.n;obtain⟨c1,ez,oN,lB⟩:=h.rv;obtain⟨eZ,fV,Kz,jr⟩:=h.nv;have kP:0<t.nn:=by
  have U:0<g.ds.length:=by have:=hm.n;omega
  have aa:=U0 hm (rule:=0) U s 0;rw[show(rn g s 0).ns.length=bz g.ds from wv g.ds]at aa;omega
 obtain⟨sa,P9,bZ,bl⟩:=a5.ns.Ky kP;obtain⟨fG,tE,P',Ya⟩:=a5.rw.Ky kP;have k2:=a5.ns.cap;have Yb:=a5.rw.cap;refine cC.u2 aT rfl rfl ?_;refine aI.mk (λe=>by cases e) (λ_=>?_);refine bP.mk (λ_=>?_) (λe=>absurd (show decide (((av:Nat):Int)<0)=true from e) (by simp));refine aD.mk _ (a5.dH (j:=0) (by decide)) ?_;have bk:decide (((t.s.size:Nat):Int)<((av:Nat):Int))=false:=c0 (by rw[cO];omega);refine aI.mk (λe=>absurd (bk.symm.trans e) (by simp)) (λ_=>?_);refine aZ.mk [] [] _ (.refl _) (IA aN ab) ?_;rintro v I' M' -⟨rfl,rfl,rfl⟩;refine aI.mk (λe=>absurd e (by simp[e8])) (λ_=>?_);refine aD.mk _ (a5.dH (j:=3) (by decide)) ?_;have hh:t.cb=[.string t.s,.slice eZ g.n fV,.slice c1 g.n ez,.slice t.na t.nn t.nc,.slice t.fG t.nn t.ep]:=by unfold dt.cb;rw[Kz,oN]
 have eT:∀ M,bD I' M (⟨t.bt,0,none⟩:Addr) 5 [.string t.s,.slice eZ g.n fV,.slice c1 g.n ez,.slice t.na t.nn t.nc,.slice t.fG t.nn t.ep]:=λM=>by rw[<-hh];exact⟨rfl,_,_,_,.inl a5.aA,rfl,rfl⟩
 refine aD.mk _ (eT _) ?_;refine cw.mk λb9 fK hF=>?_;refine cV.mk [] _ _ _ rfl rfl (bN rfl) rfl ?_;refine aD.mk _ (a5.dH (j:=3) (by decide)) ?_;refine HS.mk t.nn t.nn rfl rfl (b1 _) k2.1 ?_;have BG:(if t.nn=0 then t.na else t.na.map (·.add (0*9)))=some (sa.add (0*9)):=by rw[cG (by omega),P9];rfl
 have AD:=a5.nn;have hb:=ab.n;have ik:=nt.r;have pj:Gi I' g.ds eZ c1 fV ez t.ic.length x:=by
  refine⟨by rw[fU];exact jr,by rw[fU];exact lB,λn an=>?_,λq az=>?_,by have:=hm.NL;omega,by omega⟩;·obtain⟨j,ak,wA⟩:=th an;have hM:=ik.aM j ak;have aF:=ik.fits j ak;rw[wA]at hM aF;have au:=Ol aF (ab.ns n an).k.1;have fz:n.aM.length<=j:=CZ j _ (ik.diff.sublist (C1 an)) hM;exact⟨λk af=>by have:=hM k af;omega,by omega,by omega⟩
  ·have:=y8 0 g.ds (λd ah=>(hm.r d ah).bJ) q az;have:=hm.AZ;omega
 have Qa:∀ M,bD I' M (sa.add (0*9)) (t.nn*9) (t.ic.flatMap a3.cells):=λM=>by
  have e:sa.add (0*9)=sa:=by obtain⟨Yc,off,eo⟩:=sa;simp only at bZ;subst bZ;rfl
  rw[e];exact bl M
 have G7:=Xj ab pj (os0:=.aj (sa.add (0*9)) t.nn) Qa AD.symm b9 t.s (.slice t.fG t.nn t.ep);rw[fU]at G7;refine cV.to [] _ _ _ rfl rfl rfl rfl [.string t.s,.slice eZ g.n fV,.slice c1 g.n ez,.slice (if t.nn=0 then t.na else t.na.map (·.add (0*9))) (t.nn-0) (t.nn-0),.slice t.fG t.nn t.ep] rfl ?_;rw[BG];refine aZ.whole _ G7 ?_;rintro v eU eJ -⟨rfl,i,E,kb,gk,rfl,ai⟩;rcases ai with⟨rfl,rfl⟩ | ⟨rfl,n,an,Qb,BH⟩
 rotate_left
 ·exact absurd (nt.find n an Qb) (by omega)
 refine aI.mk (λe=>by cases e) (λ_=>?_);have Qc:0<x.n:=by have:=ik.bJ;omega
 obtain⟨os,rfl⟩:=gk.own Qc;have Bz:os.n=t.nn+x.n:=by have U:os.n=t.ic.length+x.n:=gk.n;omega
 have G8:os.ok 9 ((t.ic++iB kb (x.ns.take x.n)).flatMap a3.cells):=gk.ok;rw[g4 (by omega)]at G8;refine cU.draw aT rfl rfl rfl ?_;have cr:=a5.sz;have w7:(if t.nn=0 then t.fG else t.fG.map (·.add (0*1)))=some (fG.add (0*1)):=by rw[cG (by omega),tE];rfl
 refine aD.mk _ (a5.dH (j:=4) (by decide)) ?_;refine HS.mk t.nn t.nn rfl rfl (b1 _) Yb.1 ?_;refine aD.mk _ (a5.dH (j:=0) (by decide)) ?_;refine aW.mk ((t.s.size+1:Nat):Int) (e0 (by simp) (by omega)) ?_;refine kU.whole _ (VT x.n (t.s.size+1) (by omega) (by omega) (by omega)) (λv I' M' h x ab=>by obtain⟨-,ig,ba,-,e⟩:=h;rw[e];exact .tail _ (.tail _ ab)) ?_;rintro v g2 kY -⟨rfl,ig,ba,rfl,rfl⟩;have G9:∀ M,bD g2 M (fG.add (0*1)) (t.nn*1) (t.rows.map λa=>Value.slice (some a) t.w t.w):=λM=>by
  have e:fG.add (0*1)=fG:=by obtain⟨Yc,off,eo⟩:=fG;simp only at P';subst P';rfl
  rw[e];exact Ya M
 refine bp.Px aT rfl (by simp) (e:=104) rfl rfl rfl (sa:=fG.add (0*1)) (n:=t.nn) (xs:=t.rows.map λa=>Value.slice (some a) t.w t.w) (by show dD.val (Value.slice (if t.nn=0 then t.fG else t.fG.map (·.add (0*1))) (t.nn-0) (t.nn-0))=_;rw[w7];rfl) (G9 _) (ad:=⟨ig,0,none⟩) (m:=x.n) (c':=x.n) rfl (bV:=tw ba (t.s.size+1) x.n) Qc ⟨rfl,_,_,_,.inr ⟨_,.head _,rfl,rfl⟩,by show((tw ba (t.s.size+1) x.n).drop 0).take (x.n*1)=_;rw[oZ,g4 (by simp[tw])],by simp[tw]⟩ (by simp only[maxLen];omega) (by show(t.nn+x.n)*24<=_;omega) ?_;rintro osr Yd-aiq;refine cV.mk (osr.aQ 104++[⟨ig,.cells (tw ba (t.s.size+1) x.n).toArray 104 (0,0)⟩,⟨ba,.cells ((List.replicate (x.n*(t.s.size+1)) g8).flatMap bW.cells).toArray 106 (0,0)⟩]) (os.aQ 59++kb.map fb) _ _ (by rw[eL];rfl) rfl (bN rfl) rfl ?_;refine qR.mk x.n x.n rfl rfl (b1 _) (by show 8*x.n<=_;omega) (by omega) ?_;refine cw.mk λmO EQ air=>?_;refine cx.Ac (ι:=Nat) (λi=>{ cc:=[(2,.val (.int .i64 av)),(4,.ref 4 0),(6,.ref 6 0),(7,.val (.int .i64 0)),(8,.val (.int .i64 t.nn)),(9,.val (ptr b9)),(10,.val (.slice (some ⟨mO,0,none⟩) x.n x.n)),(75,.val (.int .i64 x.n)),(76,.val (.int .i64 i))],cl:=[(4,x.cells),(6,[.bool false,.int .i64 0,.slice none 0 0])],ck:=g2,de:=⟨mO,.cells ((List.range i).map (λj=>bE (t.nn+j))++List.replicate (x.n-i) (bE 0)).toArray 3 (0,0)⟩::jj b9 t.s (.slice eZ g.n fV) (.slice c1 g.n ez) os.val osr.val::⟨ba,.cells ((List.replicate (x.n*(t.s.size+1)) g8).flatMap bW.cells).toArray 106 (0,0)⟩::(osr.aQ 104++(os.aQ 59++kb.map fb)) }) (λi=>i<=x.n) (λi=>x.n-i) ?_ ?_
 ·intro _;refine⟨0,bi _,.perm (M1:=⟨mO,.cells (rowOf [bE 0] (x.n*1)).toArray 3 (0,0)⟩::⟨ig,.cells (tw ba (t.s.size+1) x.n).toArray 104 (0,0)⟩::jj b9 t.s (.slice eZ g.n fV) (.slice c1 g.n ez) os.val osr.val::⟨ba,.cells ((List.replicate (x.n*(t.s.size+1)) g8).flatMap bW.cells).toArray 106 (0,0)⟩::(osr.aQ 104++(os.aQ 59++kb.map fb))) (.cons _ ?_) (.sub (.cons_cons _ (.cons _ (.refl _))) (.uJ ?_)),vr,.cons rfl (.cons rfl (.nil))⟩
  ·rw[eL];exact(vU _ [_,_,_] _).trans (.cons _ (.swap _ _ _))
  ·rw[yC,h4];rfl
 intro i hi;refine aI.mk (λay=>?_) (λay=>?_)
 ·have aO:i<x.n:=by simpa using ay
  refine aW.mk ((t.nn+i:Nat):Int) (e0 (by simp) (by omega)) ?_;refine a7.mk ⟨mO,0,none⟩ i rfl rfl aO ?_;refine cV.oh [] _ ((List.range i).map (λj=>bE (t.nn+j))++List.replicate (x.n-i) (bE 0)) _ rfl ?_ rfl ((List.range (i+1)).map (λj=>bE (t.nn+j))++List.replicate (x.n-(i+1)) (bE 0)) ?_ ?_;·rw[oE,b5,dx,qs,CD];show 0+i*1+1<=_;omega
  ·have nV:List.replicate (x.n-i) (bE 0)=bE 0::List.replicate (x.n-(i+1)) (bE 0):=by rw[show x.n-i=(x.n-(i+1))+1 from by omega,yZ]
   rw[nV,zc,fC,eL];exact I6 (k:=0+i*1) (by rw[dx,qs];omega)
  refine aW.mk _ (b0 (i:=i) (by omega)) ?_;intro _;exact⟨i+1,⟨by omega,by omega⟩,.refl,vr,.cons rfl (.cons rfl (.nil))⟩
 have cI:x.n<=i:=by simpa using ay
 obtain rfl:i=x.n:=by omega
 rw[wb,List.replicate_zero,c8];have oV:=e8;unfold fF at oV;simp only[cA,e7]at oV;have oP:t.w=t.s.size+1:=rfl;have hN:r<x.n:=by have:=ik.bJ;omega
 refine .zX λgv=>?_;obtain⟨wG,KA⟩:∃ wG,wG=jj b9 t.s (.slice eZ g.n fV) (.slice c1 g.n ez) os.val osr.val:=⟨_,rfl⟩;rw[<-KA]at gv;have aK:(⟨mO,.cells ((List.range x.n).map (λj=>bE (t.nn+j))).toArray 3 (0,0)⟩::wG::⟨ba,.cells ((List.replicate (x.n*(t.s.size+1)) g8).flatMap bW.cells).toArray 106 (0,0)⟩::(osr.aQ 104++(os.aQ 59++kb.map fb)):List aE).Perm ((wG::(osr.aQ 104++(os.aQ 59++kb.map fb)))++[⟨ba,.cells ((List.replicate (x.n*(t.s.size+1)) g8).flatMap bW.cells).toArray 106 (0,0)⟩,⟨mO,.cells ((List.range x.n).map (λj=>bE (t.nn+j))).toArray 3 (0,0)⟩]):=
  (List.Perm.swap _ _ _).trans (.cons _ ((List.Perm.swap _ _ _).trans (fR (l₁:=[_,_]))))
 obtain⟨bk,zL⟩:=X8 (I:=g2) (wG::(osr.aQ 104++(os.aQ 59++kb.map fb))) (λy aG=>gv.d y (aK.mem_iff.2 (n9 _ aG))) (by
  have U:=(aK.map (λy:aE=>y.num)).nodup_iff.1 gv.cn;rw[fC]at U;exact(x'.1 U).1)
 obtain⟨J,cm⟩:∃ J,J=zK g2 (wG::(osr.aQ 104++(os.aQ 59++kb.map fb))):=⟨_,rfl⟩;rw[<-cm]at bk zL;have Fh:h1 [] g2 ((wG::(osr.aQ 104++(os.aQ 59++kb.map fb)))++[⟨ba,.cells ((List.replicate (x.n*(t.s.size+1)) g8).flatMap bW.cells).toArray 106 (0,0)⟩,⟨mO,.cells ((List.range x.n).map (λj=>bE (t.nn+j))).toArray 3 (0,0)⟩]) J [⟨ba,.cells ((List.replicate (x.n*(t.s.size+1)) g8).flatMap bW.cells).toArray 106 (0,0)⟩,⟨mO,.cells ((List.range x.n).map (λj=>bE (t.nn+j))).toArray 3 (0,0)⟩]:=by rw[cm];exact X7 _ λy _=>by simp
 have Qd:kb.map (·.2)=x.ns.map (eR g.ds (bz g.ds)):=by have:=gk.kb;rwa [g4 (by omega),AD,rH]at this
 have cf:J b9=some (.cells (kj t x kb b9 os osr ba).cb.toArray 98 (0,0)):=by
  have U:=zL wG (.head _);have aC:wG.num=b9:=by rw[KA];rfl
  have ay:wG.obj=.cells (kj t x kb b9 os osr ba).cb.toArray 98 (0,0):=by rw[KA];show Obj.cells ([.string t.s,.slice eZ g.n fV,.slice c1 g.n ez,.slice (os.a.map λg=>⟨g,0,none⟩) os.n os.c,.slice (osr.a.map λg=>⟨g,0,none⟩) osr.n osr.c]:List Value).toArray _ _=Obj.cells ([.string t.s,t.nv,t.rv,.slice (os.a.map λg=>⟨g,0,none⟩) (t.nn+x.n) os.c,.slice (osr.a.map λg=>⟨g,0,none⟩) (t.nn+x.n) osr.c]:List Value).toArray _ _;rw[Kz,oN,Bz,Yd]
  rw[aC,ay]at U;exact U
 have jr:=a'.zK (J:=J) (e:=59) (b:=96) G8 (λy aG=>zL y (.tail _ (r3 _ (n9 _ aG)))) (by omega);rw[Bz]at jr;have wF:=a'.zK (J:=J) (e:=104) (b:=24) aiq (λy aG=>zL y (.tail _ (n9 _ aG))) (by omega);rw[Yd]at wF;have ais:(t.rows.map λa=>Value.slice (some a) t.w t.w)++tw ba (t.s.size+1) x.n=(kj t x kb b9 os osr ba).rows.map λa=>Value.slice (some a) t.w t.w:=by show _=(t.rows++(List.range x.n).map λk=>(⟨ba,k*(t.w*4),none⟩:Addr)).map λa=>Value.slice (some a) t.w t.w;rw[fC,jt];rfl
 rw[ais]at wF;have BF:∀ p∈kb,J p.1=some (.cells (p.2.map bE).toArray 3 (0,0)):=λp aK=>zL (fb p) (.tail _ (r3 _ (r3 _ (dp.2 ⟨p,aK,rfl⟩))));have tk:=aim aB hm qG h ab nt pL Qc bk (λn an=>(pj.ns n an).2.2) Qd cf jr wF BF;have lq:((List.range x.n).map λi=>t.nn+i).length=x.n:=by simp
 have r0:=VN tk (gN:=mO) (nN:=x.n) (cN:=(List.range x.n).map (λj=>bE (t.nn+j))) (by simp) (by rw[lq,jt,g4 (by simp)];rfl) (by omega) (by omega) (low:=av) (by show av<=t.s.size;rw[cO];exact gz);rw[lq,ail h hb,oP]at r0;refine aZ.zW J [⟨ba,.cells ((List.replicate (x.n*(t.s.size+1)) g8).flatMap bW.cells).toArray 106 (0,0)⟩,⟨mO,.cells ((List.range x.n).map (λj=>bE (t.nn+j))).toArray 3 (0,0)⟩] [] _ (.perm (by rw[<-KA];exact aK) Fh) r0 ?_;rintro v j6 lG Qe -⟨rfl,iF,f1,f2,f3,rfl⟩;refine aW.mk ((t.nn+r:Nat):Int) (e0 (by rw[ao];simp) (by omega)) ?_;refine .zX λQf=>?_;have DX:j6 ba=none:=Qf.d ((kj t x kb b9 os osr ba).aQ iF) (.head _);have lR:=ain aB hm qG h ab nt pL bk (λn an=>(pj.ns n an).2.2) Qd cf jr wF BF (J':=ins j6 ba (.cells ((kj t x kb b9 os osr ba).cs iF).toArray 106 (0,0))) (av:=av) oV.1 f1 f2 f3 (ph DX) (sf ..);have ait:=XM lR (k:=t.nn+r) (a:=av) (by show t.nn+r<t.nn+x.n;omega) (b1 _) (by show av<=t.s.size;rw[cO];exact gz);refine aZ.zW (ins j6 ba (.cells ((kj t x kb b9 os osr ba).cs iF).toArray 106 (0,0))) [] [] _ (.oT rfl (by simp) .refl) ait ?_;rintro v yU nF Qg -⟨rfl,gP,o,e,xV,rfl,tF,rfl⟩;intro _;refine⟨_,_,.uJ (c8 _),λb o h=>ph DX _ _ (bk _ _ h),gP,o,e,?_,rfl,tF,rfl⟩;have cP:=P8 (b9:=b9) (os:=os) (osr:=osr) (ba:=ba) h Qd;have xV:u3 (kj t x kb b9 os osr ba).P (t.nn+r) av o e:=xV
 rwa [cP,rH]at xV
section
variable{X:cW}{G:GT}{pr:lP}{D:bH}{m m':bo}{F:Fr}{aj:be al}{C:dM}{I:aH}{M:List aE}{K:gg}{o:Oper}{v:al}
def aiu(aP:cY X.P X.E)(ah:∀ d,o.dst=some d->d<X.n){args:Array Operand}{ts:Array Nat}(ar:o.op=.call { callee:=.builtin .unsafeString,args:=args,argTypes:=ts })(h:OU (dR X G pr) m ts.toList (nW aj args.toList)=some (v,m'))
  (H:iV D F aj args.toList) (hm:df (dR X G pr) D m I M) (k:rF X G pr D m I M v m' o.dst F C K):bp X o F C I M K:=by
 unfold OU at h;split at h
 ·rename_i t' it au aw;cases h;obtain⟨op,on,l9,U,aa⟩:=Kc aw;obtain⟨uW,aC,aV⟩:=H.bw (x:=op) (by rw[l9];simp) U;obtain⟨rE,ay,aX⟩:=H.bw (x:=on) (by rw[l9];simp) aa;have Br:args=#[op,on]:=by apply gG;simpa using l9
  have Bs:ts=#[t',it]:=by apply gG;simpa using au
  have Ke:uW=.pointer none:=by simpa only[aU]using aV
  subst Ke;rw[aX.int]at ay;refine bp.SK (by rw[ar,Br,Bs]) ah aC ay (k D _ M bH.oM ?_ hm);simp only[aU];rfl
 ·rename_i t' it id n au aw;split at h
  ·rename_i sa sD sz e cs T fh aiv aB;obtain⟨aJ,he,eh⟩:=cL h;obtain⟨ag,fg⟩:=gF eh;simp only[cA]at ag;obtain⟨op,on,l9,U,aa⟩:=Kc aw;obtain⟨uW,aC,aV⟩:=H.bw (x:=op) (by rw[l9];simp) U;obtain⟨rE,ay,aX⟩:=H.bw (x:=on) (by rw[l9];simp) aa;have Br:args=#[op,on]:=by apply gG;simpa using l9
   have Bs:ts=#[t',it]:=by apply gG;simpa using au
   rw[aX.int]at ay;obtain⟨a,ax,rfl⟩:=aV.ptr;have pU:=hm.iD _ _ _ aB ax;obtain⟨arr,xO,bb,cr,aN,af,e8⟩:=pU;have GM:=cM ag.2.1;subst GM;unfold wi at fg;simp only[aB]at fg;cases Qh:Nat.ble (Nat.add 0 n) fh with
   |false=>rw[Qh]at fg;cases fg| true=>
   rw[Qh]at fg;simp only[bg]at fg;have ub:0+n<=fh:=bN Qh;obtain⟨l,cT,c3,ew⟩:=be.Dz cs n 0 _ _ fg;obtain⟨bs,iO,o8⟩:=cL ew;obtain⟨Mm,GY⟩:=gF o8;obtain⟨t1,aR,bn⟩:=be.oJ (none:Option fW) m.t id;rw[aR]at GY;cases GY;have xl:(arr.toList.take n).length=n:=by rw[mV,ym];omega
   have aiw:bM D l (arr.toList.take n):=bM.O9 (by rw[xl,cT]) λi v hi=>by
    have eW:i<n:=by rw[<-cT];exact(iY.1 hi).1
    obtain⟨x,bq,eK⟩:=aN i v (by omega) (by have:=c3 i eW;rw[dK]at this;rw[this,hi]);rw[xO,dK]at bq;exact⟨x,by rw[lW,dd eW];simpa using bq,eK⟩
   have im:=Pp iO aiw;have l1:bs.length=n:=by have:=congrArg List.length im;rw[xl]at this;simpa using this.symm
   obtain⟨a9,post,bZ⟩:=tB bb;have kd:M.Perm (⟨a.b,.cells arr T (0,0)⟩::(a9++post)):=by rw[bZ];exact rj
   have lZ:arr.toList.take bs.length=bs.map λb=>Value.int .u8 b.toNat:=by rw[l1];exact im
   have aq:bs≠[]:=λa4=>by subst a4;have:0<n:=bN ag.2.2;simp at l1;omega
   have eb:bw F op=.val (.pointer (some ⟨a.b,0,none⟩)):=by rw[aC,xO]
   have eF:bw F on=.val (.int .i64 bs.length):=by rw[ay,l1];rfl
   refine bp.Ml aP (by rw[ar,Br,Bs]) ah aiv rfl he (cM ag.1) eb eF aq (by rw[l1];exact bN Mm) kd lZ ?_;have mH:∀ i e',t1.get i=some e'->i≠id/\m.t.get i=some e':=λi e' hi=>by
    rcases bn i e' hi with⟨_,fg⟩ | fg;·cases fg
    ·exact fg
   refine k D _ _ bH.oM (by simp only[aU]) ⟨λi e' b hi mD=>?_,λi fX e' zz b iq hi dw=>hm.inj i fX e' zz b iq (mH i e' hi).2 (mH fX zz dw).2,hm.jy,hm.qy⟩;refine(hm.iD i e' b (mH i e' hi).2 mD).mono (bH.le_refl D) λq az an=>?_;rcases et.1 (kd.mem_iff.1 az)with rfl | az;·exact((mH i e' hi).1 (hm.inj _ _ _ _ _ _ (mH i e' hi).2 aB mD ax an.symm)).elim
   ·exact az
  ·cases h
 ·cases h
def aix(aP:cY X.P X.E)(ah:∀ d,o.dst=some d->d<X.n){v:al}{x:Operand}(ar:o.op=.slice t x (some lo) (some hi) (some mx))(h:OM X.E t (dj aj x) (dj aj lo) (dj aj hi) (dj aj mx)=some v)
  (H:iV D F aj o.op.operands.toList) (hm:df (dR X G pr) D m I M) (k:∀ x,gd D x v->K (put o.dst x F) C I M):bp X o F C I M K:=by
 unfold OM at h;split at h
 ·rename_i sz hs z e id off n c db l cR bh eB fD au ab eS fs e8;obtain⟨aJ,he,eh⟩:=cL h;obtain⟨ag,fg⟩:=gF eh;simp only[cA]at ag;obtain⟨b',ch,dS,e5⟩:=ag;cases fg;have b':=bN b';have ch:=bN ch;have dS:=bN dS;have e5:l+1<=fD:=bN e5;obtain⟨NF,cd,zM⟩:=H.bw (x:=x) (by rw[ar];simp[Op.operands]) ab;obtain⟨uW,aC,aV⟩:=H.bw (x:=lo) (by rw[ar];simp[Op.operands]) eS;obtain⟨rE,ay,aX⟩:=H.bw (x:=hi) (by rw[ar];simp[Op.operands]) fs;obtain⟨zw,bf,bq⟩:=H.bw (x:=mx) (by rw[ar];simp[Op.operands]) e8;rw[aV.int]at aC;rw[aX.int]at ay;rw[bq.int]at bf;simp only[aU]at zM;obtain⟨a,ax,rfl⟩:=zM;refine bp.slice3 aP ar ah au rfl he l bh fD cd aC ay bf b' ch dS (k _ (.val ?_));simp only[aU];refine⟨a,ax,?_⟩;rw[cG (by omega),ly,ei _ rfl];simp only[zq,DB,DC,pR]
 ·cases h
def Ye{sz hs:Nat}{z:List Value}{aJ:dU}{x:Operand}{a:Option Addr}{c h m:Nat}{cR eB:IntKind}(ar:o.op=.slice t x none (some hi) (some mx))(au:X.E t=some ⟨sz,hs,z,.slice e⟩)(he:X.E e=some aJ)
  (ab:bw F x=.val (.slice a n c)) (bC:bw F hi=.val (.int cR (h:Nat))) (hm:bw F mx=.val (.int eB (m:Nat))) (U:h<=m) (aa:m<=c) (k:K (put o.dst (.val (.slice (if m=0 then a else a.map (·.add (0*aJ.size))) (h-0) (m-0))) F) C I M):gK X o F C I M K:=by
 obtain⟨dst,BI,ty,pos,after,guard⟩:=o;simp only at ar;subst ar;have aC:dB (dk F) x=.val (.slice a n c):=ab;have ay:dB (dk F) hi=.val (.int cR (h:Nat)):=bC;have bf:dB (dk F) mx=.val (.int eB (m:Nat)):=hm;simp only[gK,cD,au,he,aC,ay,bf,tN,ly];exact⟨h,m,rfl,rfl,U,aa,k⟩
def aiy(aP:cY X.P X.E)(ah:∀ d,o.dst=some d->d<X.n){v:al}{x:Operand}(ar:o.op=.slice t x none (some hi) (some mx))(h:OL X.E t (dj aj x) (dj aj hi) (dj aj mx)=some v)
  (H:iV D F aj o.op.operands.toList) (hm:df (dR X G pr) D m I M) (k:∀ x,gd D x v->K (put o.dst x F) C I M):gK X o F C I M K:=by
 unfold OL at h;split at h
 ·rename_i sz hs z e id off n c cR bh eB fD au ab fs e8;obtain⟨aJ,he,eh⟩:=cL h;obtain⟨ag,fg⟩:=gF eh;simp only[cA]at ag;obtain⟨ch,dS,e5⟩:=ag;cases fg;have ch:=bN ch;have dS:=bN dS;have e5:0+1<=fD:=bN e5;obtain⟨NF,cd,zM⟩:=H.bw (x:=x) (by rw[ar];simp[Op.operands]) ab;obtain⟨rE,ay,aX⟩:=H.bw (x:=hi) (by rw[ar];simp[Op.operands]) fs;obtain⟨zw,bf,bq⟩:=H.bw (x:=mx) (by rw[ar];simp[Op.operands]) e8;rw[aX.int]at ay;rw[bq.int]at bf;simp only[aU]at zM;obtain⟨a,ax,rfl⟩:=zM;refine Ye ar au he cd ay bf ch dS (k _ (.val ?_));simp only[aU];refine⟨a,ax,?_⟩;rw[cG (by omega),ly,ei _ rfl];simp
 ·rename_i sz hs z e id off ay n cR bh eB fD au ab fs e8;obtain⟨aJ,he,eh⟩:=cL h;obtain⟨ag,fg⟩:=gF eh;simp only[cA]at ag;obtain⟨ch,dS,e5⟩:=ag;cases fg;have ch:=bN ch;have dS:=bN dS;have e5:0+1<=fD:=bN e5;obtain⟨NF,cd,zM⟩:=H.bw (x:=x) (by rw[ar];simp[Op.operands]) ab;obtain⟨rE,ay,aX⟩:=H.bw (x:=hi) (by rw[ar];simp[Op.operands]) fs;obtain⟨zw,bf,bq⟩:=H.bw (x:=mx) (by rw[ar];simp[Op.operands]) e8;rw[aX.int]at ay;rw[bq.int]at bf;simp only[aU]at zM;obtain⟨a,ax,bk,rfl⟩:=zM;refine Ye ar au he cd ay bf ch (by omega) (k _ (.val ?_));simp only[aU];refine⟨a,ax,?_⟩;rw[cG (by omega),ly,ei _ rfl];simp
 ·cases h
def aiz(ah:∀ d,o.dst=some d->d<X.n){v:al}{x:Operand}(ar:o.op=.unOp .xor t x)(h:ON (dj aj x)=some v)(H:iV D F aj o.op.operands.toList)(k:∀ x,gd D x v->K (put o.dst x F) C I M):gK X o F C I M K:=by
 unfold ON at h;split at h
 ·rename_i n ab;cases h;obtain⟨u,e,hu⟩:=H.bw (x:=x) (by rw[ar];simp[Op.operands]) ab;rw[hu.int]at e;have q:bp X o F C I M K:=bp.Fx ar ah e (k _ (.val (by simp only[aU])));obtain⟨dst,BI,ty,pos,after,guard⟩:=o;simp only at ar;subst ar;exact q
 ·cases h
def aiA{x:Operand}(ar:o.op=.slice t x (some lo) (some hi) (some mx))(k:bp X o F C I M K):gK X o F C I M K:=by
 obtain⟨dst,BI,ty,pos,after,guard⟩:=o;simp only at ar;subst ar;simp only[gK,cD];split
 ·rename_i e;cases e
 ·rename_i e;cases e
 ·split
  ·rename_i e _;cases e
  ·exact k
 ·exact k
def Yf:Op->Bool
 | .makeMap .. | .lookup .. | .mapUpdate .. | .insert ..=>true| .call { callee:=.builtin .append,.. }=>true| .call { callee:=.builtin .copy,.. }=>true| .call { callee:=.builtin .unsafeString,.. }=>true| _=>false
def zN(ar:o.op=op)(h:Yf op=true)(k:bp X o F C I M K):gK X o F C I M K:=by
 obtain⟨dst,BI,ty,pos,after,guard⟩:=o;simp only at ar;subst ar;unfold Yf at h;split at h<;>first | exact k | cases h
def aiB(aP:cY X.P X.E)(ah:∀ d,o.dst=some d->d<X.n)(h:OV (dR X G pr) m o aj=some (v,m'))(H:iV D F aj o.op.operands.toList)(hm:df (dR X G pr) D m I M)(k:rF X G pr D m I M v m' o.dst F C K):gK X o F C I M K:=by
 unfold OV at h;split at h
 ·rename_i t x y ar;exact agM ar h H hm k
 ·rename_i t ar;exact zN ar rfl (W6 aP ah ar h (by simp) hm k)
 ·rename_i t x ar;split at h
  ·rename_i fD n ab;refine zN ar rfl (W6 aP ah ar h (λy aG=>?_) hm k);cases aG;obtain⟨u,aC,aV⟩:=H.bw (x:=x) (by rw[ar];simp[Op.operands]) ab;rw[aV.int]at aC;exact⟨_,_,aC⟩
  ·cases h
 ·rename_i t x y ok ar;exact zN ar rfl (agO aP ah ar h H hm k)
 ·rename_i t x y z ar;exact zN ar rfl (W8 aP (.inl ar) h H hm k)
 ·rename_i t x y z ar;exact zN ar rfl (W8 aP (.inr ar) h H hm k)
 ·rename_i s d x ar;have Qi:=agQ aP ah ar h H hm k;obtain⟨dst,BI,ty,pos,after,guard⟩:=o;simp only at ar;subst ar;have ox:∃ a b z,X.E d=some ⟨a,b,z,.string⟩:=by
   unfold JS at h;split at h;·exact⟨_,_,_,by assumption⟩
   ·exact⟨_,_,_,by assumption⟩
   ·exact⟨_,_,_,by assumption⟩
   ·cases h
  obtain⟨a,b,z,ox⟩:=ox;simp only[gK,cD,ox];split;·rename_i e _;cases e
  ·exact Qi
 ·rename_i b args ts ar;have Qj:iV D F aj args.toList:=by rw[ar]at H;simpa[Op.operands,Call.operands]using H
  unfold Wt at h;split at h;·exact zN ar rfl (ag5 aP ah ar h Qj hm k)
  ·exact zN ar rfl (agR aP ah ar h Qj hm k)
  ·exact zN ar rfl (aiu aP ah ar h Qj hm k)
  ·cases h
 ·cases h
end
def G'(Y:gE)(call:al->List al->bo->Option (al×bo)):Prop:=∀ f l m v m',call f l m=some (v,m')->∀ (D:bH) (I:aH) (M:List aE) (u:Value) (us:List Value),aU D f u->bM D l us->df Y D m I M -> (∃ g cb cs,u=.func (.func g) cb cs/\Spec Y.P g (cb.toList++us++cs.toList) I M λr I' M'=>∃ br,D.ext br m.n/\aU br v r/\df Y br m' I' M') \/ ∃ q,u=.func (.yield q) #[] #[]/\Fc Y.P q us I M λr I' M'=>∃ br,D.ext br m.n/\aU br v r/\df Y br m' I' M'
def u4(dst:Option Nat)(v:al)(D:bH)(F en:Fr):Prop:=(∀ d,dst=some d->gd D (en d) v)/\∀ (D:bH) t np,dst≠some t->gd D (F t) np->gd D (en t) np
def u4.put{v:al}{x:dD}(F:Fr)(h:gd D x v):u4 dst v D F (put dst x F):=by
 constructor
 ·rintro d rfl;simpa[Go.V.put,gH]using h
 ·intro D t np bu h;cases dst with
  |none=>exact h| some d=>have:t≠d:=λe=>bu (by rw[e]);simp only[Go.V.put,gH,gS this,bd];exact h
def zt.v{u:Value}(h:zt dst u F en){v:al}(ai:aU D v u):u4 dst v D F en:=⟨λd ah=>by rw[h.1 d ah];exact .val ai,h.2⟩
section
variable{X:cW}{G:GT}{pr:lP}{D:bH}{m m':bo}{F:Fr}{aj:be al}{C:dM}{I:aH}{M:List aE}{K:gg}{o:Oper}{v:al}
def KB(X:cW)(G:GT)(pr:lP)(o:Oper)(aj:be al)(m:bo)(v:al)(m':bo):Prop:=m.n<=m'.n/\∀ (D:bH) (F:Fr) (C:dM) (I:aH) (M:List aE) (K:gg),iV D F aj o.op.operands.toList->df (dR X G pr) D m I M -> (∀ br en C' I' M',D.ext br m.n->u4 o.dst v br F en->df (dR X G pr) br m' I' M'->K en C' I' M')->gK X o F C I M K
def aiC(ar:o.op=op)(af:lg X.E op=0)(h:cD X op (dk F) C I M (λx=>K (put o.dst x F) C I M) (bp X o F C I M K)):gK X o F C I M K:=by
 obtain⟨dst,BI,ty,pos,after,guard⟩:=o;simp only at ar;subst ar;cases BI with
 |call c=>
  obtain⟨callee,args,ts⟩:=c;cases callee with
  |value f=>simp[lg]at af| invoke r n=>exact h| builtin b=>exact h
 |alloc t=>simp[lg]at af| box t x=>simp[lg]at af| store t x y=>simp[lg]at af| buildSlice t l ps=>simp[lg]at af| makeSlice t l c=>simp[lg]at af| _=>exact h
def Yg(aP:cY X.P X.E)(ah:∀ d,o.dst=some d->d<X.n){v:al}(af:lg X.E o.op=0)(h:uP X.P X.E G m.t o.op aj=some v)(H:iV D F aj o.op.operands.toList)(hm:df (dR X G pr) D m I M)
  (k:∀ x,gd D x v->K (put o.dst x F) C I M):gK X o F C I M K:=by
 unfold uP at h;split at h
 ·rename_i t x ar;exact aiz ah ar h H k
 ·rename_i t x lo hi mx ar;exact aiA ar (aix aP ah ar h H hm k)
 ·rename_i t x hi mx ar;exact aiy aP ah ar h H hm k
 ·exact aiC rfl af (agz aP h H hm k)
def Qk{K:be al->Option R}{r:R}(h:pG dst aj v K=some r):∃ c4,K c4=some r/\(dst=none->c4=aj)/\∀ d,dst=some d->∀ t w,c4.get t=some w->(t=d/\w=v)\/(t≠d/\aj.get t=some w):=by
 unfold pG at h;cases dst with
 |none=>exact⟨aj,h,λ_=>rfl,λd ah=>by cases ah⟩
 |some d=>
  have bh:(OO v λv=>aj.nl (some v) d K)=some r:=h;rw[af5]at bh;obtain⟨c4,U,aa⟩:=be.oJ (some v) aj d;rw[U]at bh;refine⟨c4,bh,(λe=>by cases e),λxz ah t w hw=>?_⟩;cases ah;rcases aa t w hw with⟨aC,ay⟩ | ⟨aC,ay⟩;·exact .inl ⟨aC,(oK ay).symm⟩
  ·exact .inr ⟨aC,ay⟩
def Yh(aP:cY X.P X.E)(j4:∀ d,d<X.n->X.gJ.contains d=true)(ah:∀ d,o.dst=some d->d<X.n)(mB:G' (dR X G pr) call){K:be al->bo->Option R}{r:R}
  (h:zh (dR X G pr) call o aj m K=some r):∃ v m' c4,KB X G pr o aj m v m'/\(pG o.dst aj v λaj=>K aj m')=some r/\K c4 m'=some r/\(o.dst=none->c4=aj)/\∀ d,o.dst=some d->∀ t w,c4.get t=some w->(t=d/\w=v)\/(t≠d/\aj.get t=some w):=by
 have fin:∀ {v:al} {m':bo},KB X G pr o aj m v m'->(pG o.dst aj v λaj=>K aj m')=some r->∃ v m' c4,KB X G pr o aj m v m'/\(pG o.dst aj v λaj=>K aj m')=some r/\K c4 m'=some r/\(o.dst=none->c4=aj)/\∀ d,o.dst=some d->∀ t w,c4.get t=some w->(t=d/\w=v)\/(t≠d/\aj.get t=some w):=fun {v m'} aN aK=>by obtain⟨c4,U,aa,ae⟩:=Qk aK;exact⟨v,m',c4,aN,aK,U,aa,ae⟩
 unfold zh at h;split at h
 ·
  rename_i f args ts ar;unfold Wu at h;obtain⟨aiD,aF,h⟩:=cL h;obtain⟨l,aw,h⟩:=cL h;obtain⟨⟨v,m'⟩,aN,h⟩:=cL h;obtain⟨an,h⟩:=gF h;refine fin ⟨bN an,λD F C I M K kM hm af=>?_⟩ h;rw[ar]at kM;obtain⟨u,aC,aV⟩:=kM.bw (x:=f) (by simp[Op.operands,Call.operands]) aF;obtain⟨us,ay,aX⟩:=kM.mq (l:=args.toList) (by intro y aG;simp[Op.operands,Call.operands];exact .inr (by simpa using aG)) aw;obtain⟨dst,BI,ty,pos,after,guard⟩:=o;simp only at ar;subst ar;rcases mB _ _ _ _ _ aN D I M u us aV aX hm with⟨g,cb,cs,rfl,ap⟩ | ⟨q,rfl,ap⟩
  ·simp only[gK,aC,ay];exact aZ.whole _ ap λr I' M' bx ab=>by obtain⟨br,U,aa,ae⟩:=ab;exact af br _ C I' M' U (.put F (.val aa)) ae
  ·simp only[gK,aC,ay];refine bp.yield rfl ah aC ay ⟨M,[],_,by simp,ap,λr I' M' bx ab=>?_⟩;obtain⟨br,U,aa,ae⟩:=ab;rw[c8];exact af br _ C I' M' U (.put F (.val aa)) ae
 ·rename_i op ea;unfold Wy at h;split at h
  ·rename_i dY;unfold Ww at h;obtain⟨v,ai,h⟩:=cL h;refine fin ⟨b1 _,λD F C I M K kM hm af=>?_⟩ h;exact Yg aP ah dY ai kM hm λx ab=>af D _ C I M bH.oM (.put F ab) hm
  ·unfold Wv at h;obtain⟨d,eX,h⟩:=cL h;obtain⟨⟨l,T,c,mk⟩,ax,h⟩:=cL h;obtain⟨m2,aa,an,ae⟩:=Pl (Y:=dR X G pr) h;refine fin (v:=mk m.n) (m':=m2) ⟨by omega,λD F C I M K kM hm af=>?_⟩ (by rw[eX];exact aa);refine WX aP j4 ah ax (by rw[eX];rfl) kM λb vs u en C' bx aF im bY aN hu Ql=>?_;have aR:=ae (vs:=vs) [] (b:=b) (c:=c) hm aF im (by simpa using bY) aN;rw[c8]at aR;exact af _ en C' I _ bH.DH (Ql.v (hu _ _ (bH.rD _ _ _))) aR
  ·unfold Wx at h;obtain⟨⟨v,m'⟩,ab,h⟩:=cL h;obtain⟨an,h⟩:=gF h;refine fin ⟨bN an,λD F C I M K kM hm af=>?_⟩ h;exact aiB aP ah ab kM hm λbr u M' U aa ae=>af br _ C I M' U (.put F (.val aa)) ae
end
def lr(X:cW)(G:GT)(pr:lP)(D0:bH)(n0:Nat)(aj:be al)(m:bo)(a:Act)(w:World):Prop:=
 ∃ D F C I M,Rel X a w F C I M/\qz D F aj/\df (dR X G pr) D m I M/\D0.ext D n0/\n0<=m.n
section
variable{X:cW}{G:GT}{pr:lP}{D0:bH}{n0:Nat}{m m':bo}{aj c4:be al}{a:Act}{w:World}
def bH.Yi{GG:bH}{fA:Nat}(h:D.ext br n)(bh:br.ext GG fA)(an:n<=fA):D.ext GG n:=λi hi=>by rw[bh i (by omega),h i hi]
def aiE{ops:Array Oper}{o:Oper}{b:Bool}(h:uR ops.toList o aj=some b)(c6:∀ t,eO β (F t) (a.tmps.getD t undef))(w3:qz D F aj):Region.wanted o (yielded ops a.tmps)=b:=by
 unfold uR at h;split at h
 ·rename_i aB;cases h;simp[Region.wanted,aB]
 ·rename_i j c aB;split at h
  ·cases h
  ·rename_i d ak;have gx:(ops[j]?).bind (·.dst)=some d:=by rw[zn]at ak;simpa using ak
   have aG:=EI gx a.tmps;split at h
   ·rename_i q az;cases h;have ap:=w3 _ _ az;have ai:a.tmps.getD d undef=.bool q:=by
     have U:=c6 d;rcases ap with⟨u,e,hu⟩ | ⟨ft,a4,e⟩;·rw[e]at U;rw[U,hu.bool]
     ·cases a4;rw[e]at U;exact U
    simp[Region.wanted,aB,aG,Cl ai]
   ·rename_i l az;cases h;have ap:=w3 _ _ az;obtain⟨u,e,hu⟩:=ap.uU (by simp);obtain⟨vs,_,rfl⟩:=hu.Pa;have U:=c6 d;rw[e]at U;have z':yielded ops a.tmps j=none:=by
     rw[aG];cases kr:a.tmps[d]? with
     |none=>rfl| some v=>simp only[eO,oS,kr,j1]at U;subst U;rfl
    simp[Region.wanted,aB,z']
   ·cases h
def Yj{o:Oper}{K:be al->Option R}{r:R}(h:Bk o aj K=some r):∃ c4,K c4=some r/\(o.dst=none->c4=aj)/\∀ d,o.dst=some d->∀ t w,c4.get t=some w->(t=d/\w=.t [])\/(t≠d/\aj.get t=some w):=by
 unfold Bk at h;cases ah:o.dst with
 |none=>rw[ah]at h;exact⟨aj,h,λ_=>rfl,λd e=>by cases e⟩
 |some d=>
  rw[ah]at h;obtain⟨c4,U,aa⟩:=be.oJ (some (al.t [])) aj d;simp only[U]at h;refine⟨c4,h,(λe=>by cases e),λxz hI t w hw=>?_⟩;cases hI;rcases aa t w hw with⟨aC,ay⟩ | ⟨aC,ay⟩;·exact .inl ⟨aC,(oK ay).symm⟩
  ·exact .inr ⟨aC,ay⟩
def qz.step{v:al}(h:qz D F aj)(bk:D.le br)(aK:u4 dst v br F en)(U:dst=none->c4=aj)(aa:∀ d,dst=some d->∀ t w,c4.get t=some w->(t=d/\w=v)\/(t≠d/\aj.get t=some w)):qz br en c4:=λt u au=>by
 cases ah:dst with
 |none=>rw[U ah]at au;exact aK.2 br t u (by rw[ah];simp) ((h t u au).mono bk)
 |some d=>
  rcases aa d ah t u au with⟨rfl,rfl⟩ | ⟨bu,aB⟩;·exact aK.1 _ ah
  ·exact aK.2 br t u (by rw[ah];intro e;cases e;exact bu rfl) ((h t u aB).mono bk)
def Qm(aP:cY X.P X.E)(j4:∀ d,d<X.n->X.gJ.contains d=true){call:al->List al->bo->Option (al×bo)}(mB:G' (dR X G pr) call)(ops:Array Oper)(Q:Exit->Act->World->Prop)(n8:∀ a w,lr X G pr D0 n0 c4 m' a w->Q .normal a w):∀ (l:List Oper) (k:Nat),(∀ j,l[j]?=ops[k+j]?)->(∀ o∈l,∀ d,o.dst=some d->d<X.n)->∀ {aj m a w},Du (dR X G pr) call ops.toList l aj m=some (c4,m') -> lr X G pr D0 n0 aj m a w->wpOpsIn (gR X) 0 X.P ops Q (List.range' k l.length) a w
 |[],k,_,_,aj,m,a,w,h,ap=>by have bh:some (aj,m)=some (c4,m'):=h;cases bh;exact n8 _ _ ap
 |o::a6,k,aw,ah,aj,m,a,w,h,ap=>by
  have aq:ops[k]?=some o:=by simpa using(aw 0).symm
  have pW:∀ j,a6[j]?=ops[k+1+j]?:=λj=>by have:=aw (j+1);simpa[pR,HP 1 j]using this
  have hI:∀ o∈a6,∀ d,o.dst=some d->d<X.n:=λo ar=>ah o (by simp[ar]);have yi:=ah o (by simp);have bh:b4 (uR ops.toList o aj) none (λw=>b7 w (zh (dR X G pr) call o aj m λaj m=>Du (dR X G pr) call ops.toList a6 aj m) (Bk o aj λaj=>Du (dR X G pr) call ops.toList a6 aj m))=some (c4,m'):=h;obtain⟨b,ag,bh⟩:=cL bh;obtain⟨D,F,C,I,M,⟨β,a8⟩,c6,hm,ab,an⟩:=ap;have hw:=aiE ag a8.aj c6;simp only[dL,List.range'_succ,wpOpsIn,aq];rw[hw];cases b with
  |true=>have aa:zh (dR X G pr) call o aj m (λaj m=>Du (dR X G pr) call ops.toList a6 aj m)=some (c4,m'):=bh;obtain⟨v,dG,fr,⟨wB,Ha⟩,-,ae,aV,aX⟩:=Yh aP j4 yi mB aa;simp only[sQ];refine sO (λbX w'=>?_) (Ck aP yi ⟨β,a8⟩ (Ha D F C I M (λen C' I' M'=>∃ br,D.ext br m.n/\qz br en fr/\df (dR X G pr) br dG I' M') (c6.op _) hm λbr en C' I' M' aC ay bf=>⟨br,aC,c6.step (hm.le aC) ay aV aX,bf⟩));rintro⟨en,C',I',M',gh,br,aC,ay,bf⟩;exact Qm aP j4 mB ops Q n8 a6 (k+1) pW hI ae ⟨br,en,C',I',M',gh,ay,bf,bH.Yi ab aC an,jD an wB⟩
  |false=>have aa:Bk o aj (λaj=>Du (dR X G pr) call ops.toList a6 aj m)=some (c4,m'):=bh;obtain⟨fr,ae,aV,aX⟩:=Yj aa;simp only[j0,kO];refine⟨λ_ _=>trivial,Qm aP j4 mB ops Q n8 a6 (k+1) pW hI ae ⟨D,put o.dst (.val undef) F,C,I,M,⟨β,a8.put (x:=.val undef) yi rfl⟩,c6.step (bH.le_refl D) (.put F (.val .undef)) aV aX,hm,ab,an⟩⟩
end
def aiF{X:cW}(aO:∀ j e,mw ops j e->e<j)(J:(Nat->Prop)->Act->World->Prop)(step:∀ (L:Nat->Prop) a w q o,J L a w->Al ops L->(∀ i,L i->i<ops.length)->ops[q]?=some o->¬ L q->(∀ e,mw ops q e->L e) -> (Region.wanted o (yielded ops.toArray a.tmps)=true->o.wpIn (gR X) 0 X.P a w (J λj=>L j\/j=q) Q)/\(Region.wanted o (yielded ops.toArray a.tmps)=false->J (λj=>L j\/j=q) (a.put o.dst undef) w))
  (fin:∀ a w,J (λi=>i<ops.length) a w->Q .normal a w):∀ (eI:Nat) (dy:Array Bool) (a:Act) (w:World),dy.size=ops.length->todo ops dy<=eI->Al ops (λi=>dy.getD i false=true) ->
   J (λi=>dy.getD i false=true) a w->wpAnyIn (gR X) 0 X.P .any ops.toArray Q eI dy a w:=by
 have fh:∀ (dy:Array Bool) (i:Nat),dy.getD i false=true->i<dy.size:=λdy i h=>by refine Co λan=>?_;simp[Array.getD,an]at h
 have full:∀ (dy:Array Bool) a w,dy.size=ops.length->Region.ready .any ops.toArray dy=[]->J (λi=>dy.getD i false=true) a w->Q .normal a w:=λdy a w cr ob cm=>by
  have all:∀ i,i<ops.length->dy.getD i false=true:=λi=>by
   induction i using Nat.strongRecOn with
   |ind i bc=>
    intro hi;refine Co λan=>?_;have ar:ops[i]?=some ops[i]:=fJ hi;have:i∈Region.ready .any ops.toArray dy:=(mem_ready cr).2 ⟨_,ar,an,λe he=>by
     have U:=aO i e he;exact bc e U (by omega)⟩
    rw[ob]at this;cases this
  have e:(λi=>dy.getD i false=true)=λi=>i<ops.length:=by funext i;simp only[eq_iff_iff];exact⟨λh=>by have:=fh dy i h;omega,all i⟩
  rw[e]at cm;exact fin a w cm
 intro eI
 induction eI with
 |zero=>
  intro dy a w cr aF ed cm;have ob:Region.ready .any ops.toArray dy=[]:=by
   cases ao:Region.ready .any ops.toArray dy with
   |nil=>rfl| cons i l=>obtain⟨o,ar,an,_⟩:=(mem_ready cr).1 (by rw[ao];simp:i∈Region.ready .any ops.toArray dy);have:=Iu (iY.1 ar).1 cr an;omega
  exact⟨ob,full dy a w cr ob cm⟩
 |succ eI bc=>
  intro dy a w cr aF ed cm;refine⟨λob=>full dy a w cr ob cm,λq az=>?_⟩;obtain⟨o,ar,an,ah⟩:=(mem_ready cr).1 az;have bG:=(iY.1 ar).1;have mz:=Sx (dy:=dy) (i:=q) (by omega);have next:∀ bX w',J (λj=>dy.getD j false=true\/j=q) bX w'->wpAnyIn (gR X) 0 X.P .any ops.toArray Q eI (dy.setIfInBounds q true) bX w':=λbX w' h=>by
   refine bc _ bX w' (by simpa using cr) ?_ ?_ (by rw[mz];exact h);·have:=Iu bG cr an;omega
   ·rw[mz];rintro j e (ak | rfl) he
    ·exact .inl (ed j e ak he)
    ·exact .inl (ah e he)
  obtain⟨s1,s2⟩:=step _ a w q o cm ed (λi hi=>by have:=fh dy i hi;omega) ar an ah;have E7:ops.toArray[q]?=some o:=by simpa using ar
  unfold wpOpIn;simp only[E7];cases hw:Region.wanted o (yielded ops.toArray a.tmps)with
  |true=>
   simp only[sQ];exact sO next (s1 hw)
  |false=>simp only[j0,kO];exact⟨λ_ _=>trivial,next _ _ (s2 hw)⟩
def Yk{S:List bo}{lo hi:Nat}{p:bo->Bool}{m:bo}(h:Dx S lo hi p=true)(U:lo<=j)(aa:j<=hi)(ak:S[j]?=some m):p m=true:=by unfold Dx at h;refine g0.1 h m ?_;refine Ag (i:=j-lo) ?_;rw[lW,dd (by omega),qO,show lo+(j-lo)=j by omega];exact ak
def filter_le{p:α->Bool}:∀ {l:List α},(∀ q e,l[q]?=some e->p e=true->q<j)->(l.filter p).length<=j:=by
 intro l h;have aC:l.filter p=(l.take j).filter p:=by
  conv=>lhs;rw[<-yH j l]
  rw[DQ];have:(l.drop j).filter p=[]:=by rw[List.filter_eq_nil_iff];intro a ax aK;obtain⟨q,az⟩:=Jy ax;rw[qO]at az;have:=h _ _ az aK;omega
  rw[this,c8]
 rw[aC];refine jD (Cq _ _) ?_;simp;omega
def le_filter{p:α->Bool}{l:List α}(ak:j<=l.length)(h:∀ q e,q<j->l[q]?=some e->p e=true):j<=(l.filter p).length:=by
 have aC:(l.take j).filter p=l.take j:=by
  rw[List.filter_eq_self];intro a ax;obtain⟨q,az⟩:=Jy ax;rw[lW]at az;split at az;·exact h q a (by assumption) az
  ·cases az
 have ay:l.filter p=(l.take j).filter p++(l.drop j).filter p:=by
  conv=>lhs;rw[<-yH j l]
  rw[DQ]
 rw[ay,aC,b5,mV];omega
mutual
def Yl{D:bH}:∀ {x y:al} {u:Value},Dw x y=true->aU D x u->aU D y u
 |x,y,u,h,ab=>by
  cases x<;>cases y<;>simp only[Dw,j0,cA]at h
  case b.b=>
   have:=eq_of_beq h;subst this;exact ab
  case i.i=>
   obtain⟨U,aa⟩:=h;have:=IntKind.Ci U;subst this;rw[zk,e7]at aa;subst aa;exact ab
  case s.s=>
   rw[Bm,e7]at h;subst h;exact ab
  case pn.pn=>exact ab
  case p.p=>
   obtain⟨U,aa⟩:=h;have:=cM U;subst this;have:=cM aa;subst this;exact ab
  case g.g=>
   obtain⟨U,aa⟩:=h;have:=cM U;subst this;have:=cM aa;subst this;exact ab
  case sn.sn=>exact ab
  case sl.sl=>
   obtain⟨U,aa,ae,aR⟩:=h;have:=cM U;subst this;have:=cM aa;subst this;have:=cM ae;subst this;have:=cM aR;subst this;exact ab
  case sx.sx=>
   obtain⟨U,aa,ae,aR⟩:=h;have:=cM U;subst this;have:=cM aa;subst this;have:=cM ae;subst this;have:=cM aR;subst this;exact ab
  case gs.gs=>
   obtain⟨U,aa,ae,aR⟩:=h;have:=cM U;subst this;have:=cM aa;subst this;have:=cM ae;subst this;have:=cM aR;subst this;exact ab
  case mn.mn=>exact ab
  case m.m=>have:=cM h;subst this;exact ab
  case f.f=>
   obtain⟨U,aa,ae⟩:=h;have:=cM U;subst this;simp only[aU]at ab |-;obtain⟨vs,ws,aV,aX,bq⟩:=ab;exact⟨vs,ws,DY aa aV,DY ae aX,bq⟩
  case y.y=>have:=cM h;subst this;exact ab
  case fn.fn=>exact ab
  case ni.ni=>exact ab
  case t.t=>
   simp only[aU]at ab |-;obtain⟨vs,aV,aX⟩:=ab;exact⟨vs,DY h aV,aX⟩
  case a.a=>
   simp only[aU]at ab |-;obtain⟨vs,aV,aX⟩:=ab;exact⟨vs,DY h aV,aX⟩
def DY{D:bH}:∀ {x y:List al} {us:List Value},wo x y=true->bM D x us->bM D y us
 |[],[],us,h,ab=>ab| [],_::_,us,h,ab=>by simp[wo]at h
 |_::_,[],us,h,ab=>by simp[wo]at h
 |x::l,y::m,us,h,ab=>by simp only[wo,cA]at h;obtain⟨u,us,aV,aX,rfl⟩:=ab.kf;exact .cons (Yl h.1 aV) (DY h.2 aX)
end
def Hb(dst:Option Nat)(aj:be al)(v:al)(c4:be al):Prop:=(dst=none->c4=aj)/\∀ d,dst=some d->∀ t w,c4.get t=some w->(t=d/\w=v)\/(t≠d/\aj.get t=some w)
def KD(m m':bo)(l:List al)(T:Nat):Prop:=m'.n=m.n+1/\(∀ id e,m'.t.get id=some e->id=m.n\/m.t.get id=some e)
def xW(m m':bo):Prop:=m.n<=m'.n/\∀ id e,id<m.n->m'.t.get id=some e->m.t.get id=some e
def xW.refl(m:bo):xW m m:=⟨b1 _,λ_ _ _ h=>h⟩
def xW.trans{a b c:bo}(h:xW a b)(k:xW b c):xW a c:=⟨jD h.1 k.1,λid e hi he=>h.2 id e hi (k.2 id e (Ex hi h.1) he)⟩
def KD.grow{m m':bo}{l:List al}{T:Nat}(h:KD m m' l T):xW m m':=⟨by rw[h.1];omega,λid e hi he=>by
 rcases h.2 id e he with U | U
 ·omega
 ·exact U⟩
def aiG{m:bo}{l:List al}{T:Nat}{K:Nat->bo->Option R}{r:R}(h:uQ m l T K=some r):∃ m',K m.n m'=some r/\KD m m' l T:=by unfold uQ at h;obtain⟨cs,U,aa⟩:=be.xL l (.nil:be al) 0;rw[U]at h;obtain⟨e9,ae,aR⟩:=GH h;exact⟨_,aR,rfl,λid e hi=>(ae id e hi).imp (λq=>q.1) λq=>q.2⟩
def df.grow{m m':bo}(h:df Y D m I M)(aB:xW m m'):df Y D m' I M where
 iD id e a U aa:=h.iD id e a (aB.2 id e (h.jy _ _ aa) U) aa
 inj id ih e a4 a bX U hO aa k1 ag:=h.inj id ih e a4 a bX (aB.2 id e (h.jy _ _ aa) U) (aB.2 ih a4 (h.jy _ _ k1) hO) aa k1 ag
 jy id a aa:=Ex (h.jy _ _ aa) aB.1
 qy:=h.qy
inductive lU(X:cW)(G:GT)(pr:lP)(ops:List Oper):List (Nat×Nat)->be al->bo->List (Nat×al)->be al->bo->List bo->List qx->Prop
 |nil{aj m}:lU X G pr ops [] aj m [] aj m [m] []| q {i o a6 aj m v c4 vs gQ gq S A} (ar:ops[i]?=some o) (af:lg X.E o.op=0) (hw:uR ops o aj=some true) (ai:uP X.P X.E G m.t o.op aj=some v) (aK:Hb o.dst aj v c4) (t:lU X G pr ops a6 c4 m vs gQ gq S A) : lU X G pr ops ((i,0)::a6) aj m ((i,v)::vs) gQ gq S (bif p1 o.op then .load i o aj v::A else A)| a {i o d a6 aj m m' l T c mk c4 vs gQ gq S A} (ar:ops[i]?=some o) (af:lg X.E o.op=1) (hw:uR ops o aj=some true) (ah:o.dst=some d) (ai:Bj X.E o aj=some (l,T,c,mk)) (an:KD m m' l T) (aK:Hb o.dst aj (mk m.n) c4) (t:lU X G pr ops a6 c4 m' vs gQ gq S A) : lU X G pr ops ((i,1)::a6) aj m ((i,mk m.n)::vs) gQ gq S (.made i m.n l T::A)| e {i o a6 aj m m' v c4 vs gQ gq S A} (ar:ops[i]?=some o) (af:lg X.E o.op=2) (hw:uR ops o aj=some true) (aN:KB X G pr o aj m v m') (aK:Hb o.dst aj v c4) (t:lU X G pr ops a6 c4 m' vs gQ gq S A) : lU X G pr ops ((i,2)::a6) aj m ((i,v)::vs) gQ gq (m::S) A| skip {i k o a6 aj m c4 vs gQ gq S A} (ar:ops[i]?=some o) (af:lg X.E o.op=k) (hw:uR ops o aj=some false) (aK:Hb o.dst aj (.t []) c4) (t:lU X G pr ops a6 c4 m vs gQ gq S A) : lU X G pr ops ((i,k)::a6) aj m ((i,.t [])::vs) gQ gq (bif Nat.beq k 2 then m::S else S) A
section
variable{X:cW}{G:GT}{pr:lP}{ops:List Oper}
def Hc(aP:cY X.P X.E)(j4:∀ d,d<X.n->X.gJ.contains d=true)(fv:∀ o∈ops,∀ d,o.dst=some d->d<X.n){call:al->List al->bo->Option (al×bo)}(mB:G' (dR X G pr) call):∀ (row:List (Nat×Nat)) {aj:be al} {m:bo} {nh:List bo} {n1:List qx} {gQ:be al} {gq:bo} {ml:List bo} {je:List qx},oI (dR X G pr) call ops row aj m nh n1=some (gQ,gq,ml,je)->∃ vs S A,lU X G pr ops row aj m vs gQ gq S A/\ml=S.reverse++nh/\(∀ h∈A,h∈je)/\∀ h∈n1,h∈je
 |[],aj,m,nh,n1,gQ,gq,ml,je,h=>by simp only[oI,lx,Prod.mk.injEq]at h;obtain⟨rfl,rfl,rfl,rfl⟩:=h;exact⟨[],[m],[],.nil,by simp,by simp,λ_ h=>h⟩
 |(i,k)::a6,aj,m,nh,n1,gQ,gq,ml,je,h=>by
  simp only[oI]at h;obtain⟨o,ar,h⟩:=cL h;obtain⟨w,hw,h⟩:=cL h;obtain⟨af,h⟩:=gF h;rw[zn]at ar;have kJ:lg X.E o.op=k:=cM af;have yi:=fv o (Ag ar);cases w with
  |false=>
   have aa:Bk o aj (λaj=>oI (dR X G pr) call ops a6 aj m (b7 (Nat.beq k 2) (m::nh) nh) n1)=some (gQ,gq,ml,je):=h;obtain⟨fr,ae,aV,aX⟩:=Yj aa;obtain⟨vs,S,A,au,gk,eH,u5⟩:=Hc aP j4 fv mB a6 ae;refine⟨_,_,_,.skip ar kJ hw ⟨aV,aX⟩ au,?_,eH,u5⟩;rw[gk];cases Nat.beq k 2<;>simp[b7]
  |true=>
   have U:b7 (Nat.beq k 0) (b4 (uP X.P X.E G m.t o.op aj) none λv=>pG o.dst aj v λc4=>oI (dR X G pr) call ops a6 c4 m nh (b7 (p1 o.op) (.load i o aj v::n1) n1)) (b7 (Nat.beq k 1) (b4 o.dst none λd=>b4 (Bj X.E o aj) none λr=>uQ m r.1 r.2.1 λid m=>pG (some d) aj (r.2.2.2 id) λaj=>oI (dR X G pr) call ops a6 aj m nh (.made i id r.1 r.2.1::n1)) (zh (dR X G pr) call o aj m λaj m'=>oI (dR X G pr) call ops a6 aj m' (m::nh) n1))=some (gQ,gq,ml,je):=h;by_cases fN:k=0
   ·subst fN;have aa:(b4 (uP X.P X.E G m.t o.op aj) none λv=>pG o.dst aj v λc4=>oI (dR X G pr) call ops a6 c4 m nh (b7 (p1 o.op) (.load i o aj v::n1) n1))=some (gQ,gq,ml,je):=U;obtain⟨v,ai,aa⟩:=cL aa;obtain⟨fr,ae,aV,aX⟩:=Qk aa;obtain⟨vs,S,A,au,gk,eH,u5⟩:=Hc aP j4 fv mB a6 ae;refine⟨_,_,_,.q ar kJ hw ai ⟨aV,aX⟩ au,gk,λy aG=>?_,λy aG=>u5 y ?_⟩
    ·cases aw:p1 o.op with
     |false=>rw[aw]at aG;exact eH y aG
     |true=>
      rw[aw]at aG;rcases et.1 aG with rfl | aG;·refine u5 _ ?_;rw[aw];simp[b7]
      ·exact eH y aG
    ·cases p1 o.op with
     |false=>exact aG| true=>exact nX _ aG
   rw[gS fN]at U;by_cases db:k=1
   ·subst db;have aa:(b4 o.dst none λd=>b4 (Bj X.E o aj) none λr=>uQ m r.1 r.2.1 λid m=>pG (some d) aj (r.2.2.2 id) λaj=>oI (dR X G pr) call ops a6 aj m nh (.made i id r.1 r.2.1::n1))=some (gQ,gq,ml,je):=U;obtain⟨d,ah,aa⟩:=cL aa;obtain⟨⟨l,T,c,mk⟩,ax,aa⟩:=cL aa;obtain⟨m2,ae,an⟩:=aiG aa;have iR:pG o.dst aj (mk m.n) (λaj=>oI (dR X G pr) call ops a6 aj m2 nh (.made i m.n l T::n1))=some (gQ,gq,ml,je):=by rw[ah];exact ae
    obtain⟨fr,aR,aV,aX⟩:=Qk iR;obtain⟨vs,S,A,au,gk,eH,u5⟩:=Hc aP j4 fv mB a6 aR;refine⟨_,_,_,.a ar kJ hw ah ax an ⟨aV,aX⟩ au,gk,λy aG=>?_,λy aG=>u5 y (nX _ aG)⟩;rcases et.1 aG with rfl | aG;·exact u5 _ (by simp)
    ·exact eH y aG
   ·rw[gS db]at U;have aa:zh (dR X G pr) call o aj m (λaj m'=>oI (dR X G pr) call ops a6 aj m' (m::nh) n1)=some (gQ,gq,ml,je):=U;obtain⟨v,dG,fr,Ha,-,ae,aV,aX⟩:=Yh aP j4 yi mB aa;obtain⟨vs,S,A,au,gk,eH,u5⟩:=Hc aP j4 fv mB a6 ae;have te:k=2:=by
     have:lg X.E o.op<=2:=by
      unfold lg;split<;>first | omega | (split<;>first | omega | (split<;>omega))
     rw[kJ]at this;omega
    subst te;exact⟨_,_,_,.e ar kJ hw Ha ⟨aV,aX⟩ au,by rw[gk];simp,eH,u5⟩
def lU.head{aj gQ:be al}{m gq:bo}{vs:List (Nat×al)}{S:List bo}{A:List qx}(h:lU X G pr ops row aj m vs gQ gq S A):∃ m2 ml,S=m2::ml/\xW m m2:=by
 induction h with
 |nil=>exact⟨_,_,rfl,.refl _⟩| q _ _ _ _ _ _ bc=>exact bc| a _ _ _ _ _ an _ _ bc=>obtain⟨m2,ml,U,aa⟩:=bc;exact⟨m2,ml,U,an.grow.trans aa⟩
 |e _ _ _ _ _ _ _=>exact⟨_,_,rfl,.refl _⟩
 | @skip i k o a6 aj m c4 vs gQ gq S A _ _ _ _ _ bc=>
  cases af:Nat.beq k 2 with
  |true=>exact⟨_,_,rfl,.refl _⟩| false=>simpa using bc
def lU.KE{aj gQ:be al}{m gq:bo}{vs:List (Nat×al)}{S:List bo}{A:List qx}(h:lU X G pr ops row aj m vs gQ gq S A):m.n<=gq.n/\∀ i c l T,.made i c l T∈A->m.n<=c/\i∈row.map (·.1):=by
 induction h with
 |nil=>exact⟨b1 _,λ_ _ _ _ h=>by cases h⟩
 | @q i o a6 aj m v c4 vs gQ gq S A _ _ _ _ _ _ bc=>
  refine⟨bc.1,λfX c l T hm=>?_⟩;have jK:.made fX c l T∈A:=by
   cases aw:p1 o.op with
   |false=>rw[aw]at hm;exact hm
   |true=>
    rw[aw]at hm;rcases et.1 hm with e | hm;·cases e
    ·exact hm
  exact⟨(bc.2 fX c l T jK).1,nX _ (bc.2 fX c l T jK).2⟩
 |a _ _ _ _ _ an _ _ bc=>
  refine⟨jD an.grow.1 bc.1,λfX c l T hm=>?_⟩;rcases et.1 hm with e | hm;·cases e;exact⟨b1 _,by simp⟩
  ·exact⟨jD an.grow.1 (bc.2 fX c l T hm).1,nX _ (bc.2 fX c l T hm).2⟩
 |e _ _ _ aN _ _ bc=>exact⟨jD aN.1 bc.1,λfX c l T hm=>⟨jD aN.1 (bc.2 fX c l T hm).1,nX _ (bc.2 fX c l T hm).2⟩⟩| skip _ _ _ _ _ bc=>exact⟨bc.1,λfX c l T hm=>⟨(bc.2 fX c l T hm).1,nX _ (bc.2 fX c l T hm).2⟩⟩
def lU.split:∀ (a9:List (Nat×Nat)) {a6:List (Nat×Nat)} {aj gQ:be al} {m gq:bo} {vs:List (Nat×al)} {S:List bo} {A:List qx},lU X G pr ops (a9++a6) aj m vs gQ gq S A -> ∃ wH xX fr dG u6 xY qH,vs=wH++xX/\wH.map (·.1)=a9.map (·.1)/\S=u6++xY/\u6.length=(a9.filter λr=>Nat.beq r.2 2).length/\lU X G pr ops a6 fr dG xX gQ gq xY qH/\(∀ h∈qH,h∈A)/\m.n<=dG.n /\ (∀ t w,fr.get t=some w->(∃ i,(i,w)∈wH/\iL ops i=some t)\/((∀ i∈a9.map (·.1),iL ops i≠some t)/\aj.get t=some w)) /\ (∀ i c l T,.made i c l T∈A->.made i c l T∈qH\/c<dG.n)
 |[],a6,aj,gQ,m,gq,vs,S,A,h=>⟨[],vs,aj,m,[],S,A,rfl,rfl,rfl,rfl,h,λ_ h=>h,b1 _,λt w hw=>.inr ⟨by simp,hw⟩,λ_ _ _ _ h=>.inl h⟩
 |(i,k)::a9,a6,aj,gQ,m,gq,vs,S,A,h=>by
  have fin:∀ {o:Oper} {c4:be al} {m':bo} {v:al} {rY:List (Nat×al)} {ml S:List bo} {je A:List qx},ops[i]?=some o->Hb o.dst aj v c4->m.n<=m'.n->lU X G pr ops (a9++a6) c4 m' rY gQ gq ml je -> (S=if Nat.beq k 2 then m::ml else ml)->(∀ h∈je,h∈A)->(∀ i c l T,.made i c l T∈A->.made i c l T∈je\/c<m'.n) ->
    ∃ wH xX fr dG u6 xY qH,(i,v)::rY=wH++xX/\wH.map (·.1)=((i,k)::a9).map (·.1)/\S=u6++xY/\u6.length=(((i,k)::a9).filter λr=>Nat.beq r.2 2).length/\lU X G pr ops a6 fr dG xX gQ gq xY qH/\(∀ h∈qH,h∈A)/\m.n<=dG.n /\ (∀ t w,fr.get t=some w->(∃ i,(i,w)∈wH/\iL ops i=some t)\/((∀ fX∈((i,k)::a9).map (·.1),iL ops fX≠some t)/\aj.get t=some w)) /\
     (∀ i c l T,.made i c l T∈A->.made i c l T∈qH\/c<dG.n):=by
   intro o c4 m' v rY ml S je A ar aK wB au gk eH FX;obtain⟨wH,xX,fr,dG,u6,xY,qH,aC,ay,bf,b3,eY,g7,oB,px,pK⟩:=lU.split a9 au;refine⟨(i,v)::wH,xX,fr,dG,(if Nat.beq k 2 then m::u6 else u6),xY,qH,by rw[aC];rfl,by simp[ay],?_,?_,eY,λh bC=>eH h (g7 h bC),jD wB oB,λt w hw=>?_,λi c l T hm=>?_⟩
   ·rw[gk,bf];split<;>simp
   ·simp only[yn];split<;>simp[b3]
   ·rcases px t w hw with⟨fX,U,aa⟩ | ⟨U,aa⟩
    ·exact .inl ⟨fX,nX _ U,aa⟩
    ·have p4:iL ops i=o.dst:=by simp[iL,ar]
     cases ah:o.dst with
     |none=>
      rw[aK.1 ah]at aa;refine .inr ⟨λfX dw=>?_,aa⟩;rcases et.1 dw with e | dw;·rw[show fX=i from e,p4,ah];simp
      ·exact U fX dw
     |some d=>
      rcases aK.2 d ah t w aa with⟨rfl,rfl⟩ | ⟨bu,ae⟩;·exact .inl ⟨i,by simp,by rw[p4,ah]⟩
      ·refine .inr ⟨λfX dw=>?_,ae⟩;rcases et.1 dw with e | dw
       ·rw[show fX=i from e,p4,ah];exact λe=>bu (by cases e;rfl)
       ·exact U fX dw
   ·rcases FX i c l T hm with U | U
    ·exact pK i c l T U
    ·exact .inr (Ex U oB)
  cases h with
  |q ar af hw ai aK t=>
   rename_i o v c4 rY je;refine fin ar aK (b1 _) t (by simp) (λh bC=>?_) λi c l T hm=>?_
   ·cases p1 o.op with
    |false=>exact bC| true=>exact nX _ bC
   ·cases aw:p1 o.op with
    |false=>rw[aw]at hm;exact .inl hm
    |true=>
     rw[aw]at hm;rcases et.1 hm with e | hm;·cases e
     ·exact .inl hm
  |a ar af hw ah ai an aK t=>
   refine fin ar aK an.grow.1 t (by simp) (λh bC=>nX _ bC) λi c l T hm=>?_;rcases et.1 hm with e | hm;·cases e;exact .inr (by rw[an.1];omega)
   ·exact .inl hm
  |e ar af hw aN aK t=>exact fin ar aK aN.1 t (by simp) (λ_ h=>h) λ_ _ _ _ h=>.inl h
  |skip ar af hw aK t=>exact fin ar aK (b1 _) t (by cases Nat.beq k 2<;>rfl) (λ_ h=>h) λ_ _ _ _ h=>.inl h
end
section
variable{ops:List Oper}
def aiH{i k:Nat}{o:Oper}(ar:ops[i]?=some o)(h:E0 o k=true):∀ e,mw ops i e->k.testBit e=true:=by rintro e⟨o',kt,kW,q3,ag,rfl⟩;rw[ar]at kW;cases kW;have:=g0.1 h kt (by simpa using q3);rw[ag]at this;simpa using this
def KF:∀ {row:List (Nat×Nat)} {k:Nat},wm ops row k=true->∀ (a9:List (Nat×Nat)) (i c:Nat) (post:List (Nat×Nat)),row=a9++(i,c)::post -> (∃ o,ops[i]?=some o)/\k.testBit i=false/\i ∉ a9.map (·.1)/\∀ e,mw ops i e->k.testBit e=true\/e∈a9.map (·.1)
 |[],k,h,a9,i,c,post,e=>by simp at e
 |(i0,jf)::row,k,h,a9,i,c,post,e=>by
  simp only[wm,cA,pY]at h;obtain⟨U,aa⟩:=h;split at aa
  ·rename_i o ar;rw[cA]at aa;cases a9 with
   |nil=>simp only[lD,ta,Prod.mk.injEq]at e;obtain⟨⟨rfl,rfl⟩,rfl⟩:=e;exact⟨⟨o,ar⟩,U,by simp,λe he=>.inl (aiH ar aa.1 e he)⟩
   |cons p a9=>
    simp only[qa,ta]at e;obtain⟨aC,ay⟩:=e;obtain⟨aV,aX,bq,eK⟩:=KF aa.2 a9 i c post ay;have ag:∀ x,(k ||| 2^i0).testBit x=(k.testBit x||decide (x=i0)):=λx=>by rw[Ig,EX];congr 1;exact decide_eq_decide.2 eq_comm
    rw[ag,nC]at aX;refine⟨aV,aX.1,?_,λe he=>?_⟩;·rw[<-aC];simp only[ek,et,not_or];exact⟨by simpa using aX.2,bq⟩
    ·rcases eK e he with h | h
     ·rw[ag,r4]at h;rcases h with h | h
      ·exact .inl h
      ·exact .inr (by rw[<-aC];simp at h;simp[h])
     ·exact .inr (by rw[ek];exact nX _ h)
  ·cases aa
def Qn:∀ {row:List (Nat×Nat)} {k:Nat},wm ops row k=true->∀ i,i<ops.length->k.testBit i=true\/i∈row.map (·.1)
 |[],k,h,i,hi=>by
  simp only[wm]at h;have:=cM h;subst this
  left
  rw[PT];simpa using hi
 |(i0,jf)::row,k,h,i,hi=>by
  simp only[wm,cA,pY]at h;obtain⟨U,aa⟩:=h;split at aa
  ·rw[cA]at aa;rcases Qn aa.2 i hi with h | h
   ·rw[Ig,EX,r4]at h;rcases h with h | h
    ·exact .inl h
    ·have:i0=i:=by simpa using h
     exact .inr (by simp[this])
   ·exact .inr (by rw[ek];exact nX _ h)
  ·cases aa
def aiI(h:wm ops row 0=true):(row.map (·.1)).Nodup:=by
 have key:∀ {row:List (Nat×Nat)} {k:Nat},wm ops row k=true->(row.map (·.1)).Nodup:=by
  intro row
  induction row with
  |nil=>intro k _;exact zU
  |cons r row bc=>
   intro k h;obtain⟨i0,jf⟩:=r;have bh:=h;simp only[wm,cA,pY]at h;obtain⟨U,aa⟩:=h;split at aa;·rw[cA]at aa;rw[ek,mo];refine⟨λhm=>?_,bc aa.2⟩;obtain⟨⟨x,c⟩,ab,Qo⟩:=dp.1 hm;obtain⟨a9,post,e⟩:=tB ab;have Qp:x=i0:=Qo;subst Qp;have:=(KF bh ((x,jf)::a9) x c post (by rw[e];rfl)).2.2.1;exact this (by simp)
   ·cases aa
 exact key h
def Ym{α β:Type}:∀ {l:List (α×β)},(l.map (·.1)).Nodup->∀ {k:α} {a b:β},(k,a)∈l->(k,b)∈l->a=b
 |[],_,k,a,b,h,_=>by cases h
 |(fN,c)::l,an,k,a,b,h,bh=>by
  rw[ek,mo]at an;rcases et.1 h with e | h
  ·cases e;rcases et.1 bh with a4 | bh
   ·cases a4;rfl
   ·exact(an.1 (dp.2 ⟨_,bh,rfl⟩)).elim
  ·rcases et.1 bh with a4 | bh
   ·cases a4;exact(an.1 (dp.2 ⟨_,h,rfl⟩)).elim
   ·exact Ym an.2 h bh
end
section
variable{X:cW}{G:GT}{pr:lP}{D0:bH}{n0:Nat}{a:Act}{w:World}
def KG{o:Oper}{b:Bool}{aj:be al}(h:uR ops o aj=some b)(c6:∀ t,eO β (F t) (a.tmps.getD t undef))(H:∀ t∈looks ops o,∀ v,aj.get t=some v->gd D (F t) v) :
  Region.wanted o (yielded ops.toArray a.tmps)=b:=by
 unfold uR at h;split at h
 ·rename_i aB;cases h;simp[Region.wanted,aB]
 ·rename_i j c aB;split at h
  ·cases h
  ·rename_i d ak;have gx:(ops[j]?).bind (·.dst)=some d:=by rw[zn]at ak;simpa using ak
   have aiJ:(ops.toArray[j]?).bind (·.dst)=some d:=by simpa using gx
   have aG:=EI aiJ a.tmps;have jL:d∈looks ops o:=L7 aB gx;split at h
   ·rename_i q az;cases h;have ap:=H _ jL _ az;have ai:a.tmps.getD d undef=.bool q:=by
     have U:=c6 d;rcases ap with⟨u,e,hu⟩ | ⟨ft,a4,e⟩;·rw[e]at U;rw[U,hu.bool]
     ·cases a4;rw[e]at U;exact U
    simp[Region.wanted,aB,aG,Cl ai]
   ·rename_i l az;cases h;have ap:=H _ jL _ az;obtain⟨u,e,hu⟩:=ap.uU (by simp);obtain⟨vs,_,rfl⟩:=hu.Pa;have U:=c6 d;rw[e]at U;have z':yielded ops.toArray a.tmps j=none:=by
     rw[aG];cases kr:a.tmps[d]? with
     |none=>rfl| some v=>simp only[eO,oS,kr,j1]at U;subst U;rfl
    simp[Region.wanted,aB,z']
   ·cases h
def aiK{o:Oper}{aj:be al}(H:∀ t∈looks ops o,∀ v,aj.get t=some v->gd D (F t) v):iV D F aj o.op.operands.toList:=λx ab v ai=>by
 cases x with
 |tmp t=>exact H t (L8 (by simpa using ab)) v ai| const c=>exact(show qz D F .nil from λt v h=>by cases h).op [.const c] (.const c) (by simp) v ai| global g=>exact(show qz D F .nil from λt v h=>by cases h).op [.global g] (.global g) (by simp) v ai| func f=>exact(show qz D F .nil from λt v h=>by cases h).op [.func f] (.func f) (by simp) v ai
def aiL{m m2:be fW}{aj:be al}(h:p1 op=false):uP X.P X.E G m op aj=uP X.P X.E G m2 op aj:=by
 cases op with
 |load=>simp[p1]at h| slice t x lo hi mx=>cases mx<;>cases lo<;>cases hi<;>rfl
 |unOp u=>cases u<;>rfl
 |call c=>
  obtain⟨callee,args,ts⟩:=c;cases callee<;>rfl
 |_=>rfl
def DZ(X:cW)(G:GT)(pr:lP)(D0:bH)(n0:Nat)(ops:List Oper)(es:List Nat)(aj:be al)(vs:List (Nat×al))(S:List bo)(A:List qx)(L:Nat->Prop)(a:Act)(w:World):Prop:=
 ∃ D F C I M j rM,Rel X a w F C I M/\(∀ q e,es[q]?=some e->(L e ↔ q<j))/\j<=es.length/\S[j]?=some rM/\df (dR X G pr) D rM I M/\(∀ i v t,L i->(i,v)∈vs->iL ops i=some t->gd D (F t) v) /\ (∀ t v,(∀ i,L i->iL ops i≠some t)->aj.get t=some v->gd D (F t) v)/\(∀ i c l T,qx.made i c l T∈A->¬ L i->D c=none)/\D0.ext D n0
def DZ.aj(dr:vw ops){L:Nat->Prop}{o:Oper}(az:ops[q]?=some o)(q5:¬ L q){vs:List (Nat×al)}(D1:(vs.map (·.1)).Nodup){v:al}(ai:(q,v)∈vs){aj:be al}(bk:D.le br)(aK:u4 o.dst v br F en)(eH:∀ i v t,L i->(i,v)∈vs->iL ops i=some t->gd D (F t) v)(nR:∀ t v,(∀ i,L i->iL ops i≠some t)->aj.get t=some v->gd D (F t) v) :
  (∀ i v t,(L i\/i=q)->(i,v)∈vs->iL ops i=some t->gd br (en t) v)/\(∀ t v,(∀ i,(L i\/i=q)->iL ops i≠some t)->aj.get t=some v->gd br (en t) v):=by
 have Yn:iL ops q=o.dst:=by simp[iL,az]
 constructor
 ·rintro i u t (hi | rfl) hm ah
  ·have bu:o.dst≠some t:=λe=>by obtain⟨gj,hT,p4⟩:=E5 ah;exact dr.L6 i q gj o t (λa4=>q5 (a4 ▸ hi)) hT az p4 e
   exact aK.2 br t u bu ((eH i u t hi hm ah).mono bk)
  ·rw[Ym D1 hm ai];rw[Yn]at ah;exact aK.1 t ah
 ·intro t u ea aB;have bu:o.dst≠some t:=λe=>ea q (.inr rfl) (by rw[Yn,e]);exact aK.2 br t u bu ((nR t u (λi hi=>ea i (.inl hi)) aB).mono bk)
end
section
variable{X:cW}{G:GT}{pr:lP}{D0:bH}{n0:Nat}{a:Act}{w:World}
def Qq{gL:List Nat}:∀ {es:List Nat},JT gL es=true->∀ (p q:Nat) (x y:Nat),p<q->es[p]?=some x->es[q]?=some y->(gL.getD y 0).testBit x=true
 |[],_,p,q,x,y,_,ab,_=>by simp at ab
 |e::es,h,p,q,x,y,r7,ab,aG=>by
  simp only[JT,cA]at h;cases q with
  |zero=>omega
  |succ q=>
   have yg:es[q]?=some y:=by simpa using aG
   cases p with
   |zero=>simp at ab;subst ab;exact g0.1 h.1 y (Ag yg)| succ p=>exact Qq h.2 p q x y (by omega) (by simpa using ab) yg
def aiM:e∈xK E ops ↔ e<ops.length/\Bl E ops e=2:=by
 unfold xK;rw[yq,j2];constructor
 ·rintro⟨U,aa⟩;exact⟨U,cM aa⟩
 ·rintro⟨U,aa⟩;exact⟨U,by rw[aa];rfl⟩
def Yo{i:Nat}{o:Oper}(h:ops[i]?=some o):Bl E ops i=lg E o.op:=by unfold Bl;rw[zn,h];rfl
def gd.same{x:dD}{u v:al}(h:gd D x u)(ap:Dw u v=true):gd D x v:=by
 rcases h with⟨y,rfl,h⟩ | ⟨q,rfl,rfl⟩
 ·exact .val (Yl ap h)
 ·have:v=.b q:=by
   cases v<;>simp only[Dw,j0]at ap
   rw[eq_of_beq ap]
  exact .inr ⟨q,this,rfl⟩
def aiN(aP:cY X.P X.E)(j4:∀ d,d<X.n->X.gJ.contains d=true)(mB:G' (dR X G pr) call){id:Nat}{Hd:Array Oper}(e8:X.P.follows .mixedOrders=true)(an:Ad X.n Hd=true)
  {aj gQ:be al} {m gq:bo} (h:OZ (dR X G pr) call Hd.toList aj m=some (gQ,gq)) (n8:∀ a w,lr X G pr D0 n0 gQ gq a w->Q .normal a w) (ap:lr X G pr D0 n0 aj m a w) :
  (Code.region id Hd true).wpIn (gR X) 0 X.P Q a w:=by
 refine wpIn_region_any e8 ?_;generalize vv:Hd.toList=ops at h;have aiO:Hd=ops.toArray:=by apply gG;simpa using vv
 subst aiO;have fv:∀ o∈ops,∀ d,o.dst=some d->d<X.n:=by simpa using H3 an
 unfold OZ at h;obtain⟨ie,h⟩:=gF h;unfold WB at ie;simp only[cA]at ie;obtain⟨aiP,kd,Yp,wc⟩:=ie;have dr:vw ops:=Sr aiP;have Yq:((Gw X.E ops).filter λr=>Nat.beq r.2 2).map (·.1)=xK X.E ops:=by simpa using wc
 clear wc;generalize k0:xK X.E ops=es at *;have Qr:∀ e,e∈es ↔ e<ops.length/\Bl X.E ops e=2:=λe=>by rw[<-k0];exact aiM
 generalize wF:Gw X.E ops=row at *;cases pC:oI (dR X G pr) call ops row aj m [] []with
 |none=>rw[pC]at h;cases h| some aiQ=>
 obtain⟨aiR,aiS,ml,je⟩:=aiQ;rw[pC]at h;have bh:b7 (je.all (OY (dR X G pr) es (kT ops) ml.reverse)) (some (aiR,aiS)) none=some (gQ,gq):=h;clear h;obtain⟨Yr,bh⟩:=gF bh;cases bh;obtain⟨vs,S,A,sJ,Ys,aiT,-⟩:=Hc aP j4 fv mB row pC;rw[c8]at Ys;subst Ys;rw[List.reverse_reverse]at Yr;have Yt:∀ y∈A,OY (dR X G pr) es (kT ops) S y=true:=λy aG=>g0.1 Yr y (aiT y aG);have jJ:(row.map (·.1)).Nodup:=aiI kd;obtain⟨aoy,aoz,aoA,aoB,aoC,aoD,aoE,iM,kX,oe,jM,aiU,aoF,aiV,aiW,aoG⟩:=lU.split row (a6:=[]) (by rw[c8];exact sJ);have aiX:(row.filter λr=>Nat.beq r.2 2).length=es.length:=by rw[<-Yq,dx]
 cases aiU;rw[c8]at iM;subst iM;have D1:(vs.map (·.1)).Nodup:=by rw[kX];exact jJ
 have aiY:=sJ.KE;have aiZ:∀ (a9:List (Nat×Nat)) (a6:List (Nat×Nat)),row=a9++a6->Al ops (λi=>i∈a9.map (·.1)):=λa9 a6 mP j e ak he=>by
  obtain⟨⟨x,c⟩,ab,Qo⟩:=dp.1 ak;have Qp:x=j:=Qo;subst Qp;obtain⟨qb,qc,aC⟩:=tB ab;rcases(KF kd qb x c (qc++a6) (by rw[mP,aC];simp)).2.2.2 e he with h | h;·simp at h
  ·show e∈a9.map (·.1);rw[aC,fC];exact dW.2 (.inl h)
 let J:=DZ X G pr D0 n0 ops es aj vs S A
 have key:=aiF (X:=X) (ops:=ops) (Q:=Q) dr.lt J ?step ?fin ops.length (Array.replicate ops.length false) a { w with drawn:=w.drawn+1 } (by simp) (by unfold todo;exact jD (Cq _ _) (by simp)) ?cl ?start
 case cl=>
  intro j e ak;exfalso;by_cases hi:j<ops.length<;>simp[oS,hi]at ak
 case start=>
  obtain⟨D,F,C,I,M,⟨β,a8⟩,c6,mi,ab,jN⟩:=ap;obtain⟨m2,xY,ai0,aB⟩:=sJ.head;have bQ:∀ i,¬ (Array.replicate ops.length false).getD i false=true:=λi=>by
   by_cases hi:i<ops.length<;>simp[oS,hi]
  refine⟨D,F,C,I,M,0,m2,⟨β,a8.world rfl⟩,λq e _=>⟨λh=>(bQ e h).elim,λh=>by omega⟩,bi _,by rw[ai0];rfl,mi.grow aB,λi v t hi=>(bQ i hi).elim,λt v _ aB=>c6 t v aB,λi c l T nK _=>?_,ab⟩;have:=(aiY.2 i c l T nK).1;cases He:D c with
  |none=>rfl| some b=>have:=mi.jy _ _ He;omega
 case fin=>
  rintro a w⟨D,F,C,I,M,j,rM,a8,wI,ak,u7,mi,BJ,BK,fB,ab⟩;have fq:j=es.length:=by
   refine Nat.le_antisymm ak ?_;by_cases aq:es.length=0;·omega
   ·have aO:es.length-1<es.length:=by omega
    have U:=(wI (es.length-1) es[es.length-1] (fJ aO)).1 ((Qr _).1 (cZ aO)).1;omega
  have ai1:rM=gq:=by rw[fq,oe,pd (by omega),jM,aiX]at u7;simpa using u7.symm
  subst ai1;refine n8 a w ⟨D,F,C,I,M,a8,λt v aB=>?_,mi,ab,?_⟩
  ·rcases aiW t v aB with⟨i,U,aa⟩ | ⟨U,aa⟩
   ·obtain⟨gj,hT,_⟩:=E5 aa;exact BJ i v t (iY.1 hT).1 U aa
   ·refine BK t v (λi hi=>?_) aa;rcases Qn kd i hi with ae | ae
    ·simp at ae
    ·exact U i ae
  ·obtain⟨br,en,C',I',M',_,_,_,_,jN⟩:=ap;exact jD jN aiV
 case step=>
  rintro L a w q o⟨D,F,C,I,M,j,rM,⟨β,a8⟩,wI,ak,u7,mi,BJ,BK,fB,ab⟩ed zA az q5 KH;have fa:q<ops.length:=(iY.1 az).1;have oc:=fv o (Ag az);obtain⟨⟨ft,k⟩,Bb,D2⟩:=dp.1 ((Qn kd q fa).resolve_left (by simp));have ai2:ft=q:=D2;subst ai2;obtain⟨a9,post,bZ⟩:=tB Bb;obtain⟨-,-,Yu,ai3⟩:=KF kd a9 ft k post bZ;have ai4:∀ e,mw ops ft e->e∈a9.map (·.1):=λe he=>(ai3 e he).resolve_left (by simp);have Qs:=aiZ a9 ((ft,k)::post) bZ;have Yv:=sJ;rw[bZ]at Yv;obtain⟨wH,xX,fr,dG,u6,xY,qH,aC,ay,bf,b3,eY,g7,oB,px,pK⟩:=lU.split a9 Yv;have aoH:=eY.KE;have H:∀ t∈looks ops o,∀ v,fr.get t=some v->gd D (F t) v:=λt au v ai=>by
   rcases px t v ai with⟨i,U,aa⟩ | ⟨U,aa⟩
   ·obtain⟨gj,hT,p4⟩:=E5 aa;have Yw:i∈a9.map (·.1):=by rw[<-ay];exact dp.2 ⟨_,U,rfl⟩
    have bu:i≠ft:=λe=>Yu (e ▸ Yw);rcases dr.ord i ft gj o t bu hT az p4 au with ag | ag;·exact BJ i v t (ag.mem ed KH) (by rw[aC];exact dW.2 (.inl U)) aa
    ·exact(Yu (ag.mem Qs λe he=>Qs i e Yw he)).elim
   ·refine BK t v (λi hi js=>?_) aa;obtain⟨gj,hT,p4⟩:=E5 js;have bu:i≠ft:=λe=>q5 (e ▸ hi);rcases dr.ord i ft gj o t bu hT az p4 au with ag | ag
    ·exact U i (ag.mem Qs ai4) js
    ·exact q5 (ag.mem ed λe he=>ed i e hi he)
  have kM:iV D F fr o.op.operands.toList:=aiK H;have eS:Dv es (kT ops) ft<=j:=filter_le λp e aK ag=>by exact(wI p e aK).1 ((yt ag).mem ed KH)
  have fs:j<=A5 es (kT ops) ft:=le_filter ak λp e aK BL=>by
   cases ag:((kT ops).getD e 0).testBit ft with
   |false=>rfl| true=>have ai5:L e:=(wI p e BL).2 aK;exact(q5 ((yt ag).mem ed λd ah=>ed e d ai5 ah)).elim
  have Yx:lg X.E o.op≠2->∀ p e,es[p]?=some e->((L e\/e=ft) ↔ p<j):=λaf p e aK=>by
   have bu:e≠ft:=λhe=>af (by
    have:=((Qr e).1 (Ag aK)).2;rw[he,Yo az]at this;exact this)
   exact⟨λbC=>(wI p e aK).1 (bC.resolve_right bu),λbC=>.inl ((wI p e aK).2 bC)⟩
  have Qt:lg X.E o.op=2->es[j]?=some ft/\j+1<=es.length/\∀ p e,es[p]?=some e->((L e\/e=ft) ↔ p<j+1):=λaf=>by
   have D2:ft∈es:=(Qr ft).2 ⟨fa,by rw[Yo az];exact af⟩;obtain⟨wJ,iw⟩:=Jy D2;have aoI:=(iY.1 iw).1;have U:¬ wJ<j:=λbC=>q5 ((wI wJ ft iw).2 bC);have aa:¬ j<wJ:=λbC=>by
    have fq:j<es.length:=by omega
    have Qu:=Qq Yp j wJ es[j] ft bC (fJ fq) iw;have:=(wI j es[j] (fJ fq)).1 ((yt Qu).mem ed KH);omega
   have ae:wJ=j:=by omega
   subst ae;refine⟨iw,by omega,λp e aK=>⟨λbC=>?_,λbC=>?_⟩⟩
   ·rcases bC with bC | rfl
    ·have:=(wI p e aK).1 bC;omega
    ·refine Co λan=>?_;have Qu:=Qq Yp wJ p e e (by omega) iw aK;exact q5 ((yt Qu).mem ed KH)
   ·by_cases tW:p<wJ
    ·exact .inl ((wI p e aK).2 tW)
    ·have:p=wJ:=by omega
     subst this;rw[iw]at aK;exact .inr (oK aK).symm
  have plain:∀ {v:al} {en:Fr} {C':dM} {bX:Act} {w':World},(ft,v)∈vs->lg X.E o.op≠2->(∀ l T c,qx.made ft c l T ∉ A\/True)->Rel X bX w' en C' I M->u4 o.dst v D F en->J (λj=>L j\/j=ft) bX w':=fun {v en C' bX w'} ai af _ vB aK=>by obtain⟨f1,f2⟩:=DZ.aj dr az q5 D1 ai (bH.le_refl D) aK BJ BK;exact⟨D,en,C',I,M,j,rM,vB,Yx af,ak,u7,mi,f1,f2,λi c l T hm ea=>fB i c l T hm λhi=>ea (.inl hi),ab⟩
  have Hf:∀ {v:al} {a6:List (Nat×al)},xX=(ft,v)::a6->(ft,v)∈vs:=fun {v a6} he=>by rw[aC,he];exact dW.2 (.inr (by simp))
  have ai6:n0<=dG.n:=by obtain⟨br,en,C',I',M',_,_,_,_,jN⟩:=ap;exact jD jN oB
  have Yy:∀ {k:Nat},k=2->row=a9++(ft,k)::post->lg X.E o.op=2->u6.length=j:=fun {k} te ai7 af=>by
   obtain⟨Qv,fq,_⟩:=Qt af;have ai8:es=(a9.filter λr=>Nat.beq r.2 2).map (·.1)++ft::((post.filter λr=>Nat.beq r.2 2).map (·.1)):=by rw[<-Yq,ai7,DQ,fC,yn];subst te;simp
   have cq:es.Nodup:=by rw[<-k0];exact List.nodup_range.sublist List.filter_sublist
   have U:es[u6.length]?=some ft:=by rw[ai8,pd (by rw[dx,b3];exact b1 _),dx,b3,wb];rfl
   have vF:=(iY.1 U).1;exact(List.getElem?_inj vF cq).1 (by rw[U,Qv])
  cases eY with
  | @q i o' a6 mN xZ v c4 rY Qw Qx nh n1 ar af BM ai aK t=>
   have BN:o'=o:=oK (ar.symm.trans az);subst BN;have hw:=KG BM a8.aj H;refine⟨λ_=>?_,λaF=>by rw[hw]at aF;cases aF⟩;obtain⟨u,hu,ai9⟩:∃ u,uP X.P X.E G rM.t o'.op fr=some u/\∀ x,gd D x u->gd D x v:=by
    cases aw:p1 o'.op with
    |false=>exact⟨v,by rw[aiL aw (m2:=dG.t)];exact ai,λ_ h=>h⟩
    |true=>
     have gU:qx.load ft o' fr v∈A:=g7 _ (by rw[aw];simp);have U:=Yt _ gU;have aa:=Yk (show Dx S (Dv es (kT ops) ft) (A5 es (kT ops) ft) (OW (dR X G pr) o' fr v)=true from U) eS fs u7;unfold OW at aa;split at aa;·rename_i u hu;exact⟨u,hu,λx ab=>ab.same aa⟩
     ·cases aa
   refine sO (λbX w'=>?_) (Ck aP oc ⟨β,a8⟩ (Yg (K:=λen C' I' M'=>I'=I/\M'=M/\u4 o'.dst v D F en) aP oc af hu kM mi λx ab=>⟨rfl,rfl,.put F (ai9 x ab)⟩));rintro⟨en,C',I',M',gh,rfl,rfl,Ql⟩;exact plain (Hf rfl) (by rw[af];decide) (λ_ _ _=>.inr trivial) gh Ql
  | @a i o' d a6 mN xZ m' l T c mk c4 rY Qw Qx nh n1 ar af BM ah ai aja aK t=>
   have BN:o'=o:=oK (ar.symm.trans az);subst BN;have hw:=KG BM a8.aj H;refine⟨λ_=>?_,λaF=>by rw[hw]at aF;cases aF⟩;have gU:qx.made ft dG.n l T∈A:=g7 _ (by simp);have U:=Yt _ gU;have aa:=Yk (show Dx S (Dv es (kT ops) ft) (A5 es (kT ops) ft) (OX dG.n l T)=true from U) eS fs u7;unfold OX at aa;rw[cA]at aa;obtain⟨u9,aa⟩:=aa;have ajb:dG.n<rM.n:=bN u9;split at aa
   ·rename_i cs iF fh pU;simp only[cA]at aa;obtain⟨bS,uX,aa⟩:=aa;have EG:=cM bS;subst EG;have Xc:=cM uX;subst Xc;split at aa
    ·rename_i dg pW;obtain⟨iT,cT,c3,hc⟩:=be.Dz cs l.length 0 _ _ pW;have vM:iT=dg:=oK hc;subst vM;have He:D dG.n=none:=fB ft dG.n l iF gU q5;refine sO (λbX w'=>?_) (Ck aP oc ⟨β,a8⟩ (WX (K:=λen C' I' M'=>∃ b us u,I'=I/\M'=⟨b,.cells us.toArray iF (0,0)⟩::M/\I b=none/\(∀ x∈M,x.num≠b)/\bM D l us/\(∀ i,X.E iF=some i->us.length=c*i.size)/\c<=maxLen /\ (∀ (br:bH) id,br id=some ⟨b,0,c⟩->aU br (mk id) u)/\zt o'.dst u F en) aP j4 oc ai (by rw[ah];rfl) kM λb us u en C' aV aX bq eK mY Jk Qy=>⟨b,us,u,rfl,rfl,aV,aX,bq,eK,mY,Jk,Qy⟩));rintro⟨en,C',I',M',gh,b,us,u,rfl,rfl,aV,aX,bq,eK,mY,Jk,Qy⟩;have bk:D.le (D.set dG.n ⟨b,0,c⟩):=bH.zr _ He;have KI:u4 o'.dst (mk dG.n) (D.set dG.n ⟨b,0,c⟩) F en:=Qy.v (Jk _ _ (bH.rD _ _ _));obtain⟨f1,f2⟩:=DZ.aj dr az q5 D1 (Hf rfl) bk KI BJ BK;have mI:=DY aa bq;have mz:∀ id,id≠dG.n->(D.set dG.n ⟨b,0,c⟩) id=D id:=λid lQ=>by unfold bH.set;rw[cG lQ]
     have GO:∀ id e iq,rM.t.get id=some e->D id=some iq->iq.b≠b:=λid e iq hi h2 v'=>by obtain⟨x,wu,wK⟩:=mi.aQ hi h2;exact aX x wu (wK.trans v')
     refine⟨D.set dG.n ⟨b,0,c⟩,en,C',I',_,j,rM,gh,Yx (by rw[af];decide),ak,u7,?_,f1,f2,?_,λi hi=>?_⟩
     ·refine⟨λid e iq hi h2=>?_,λid ih e a4 b' ch hi dw U aa v'=>?_,λid iq h2=>?_,mi.qy⟩
      ·by_cases lQ:id=dG.n
       ·subst lQ;rw[bH.rD]at h2;cases h2;rw[pU]at hi;cases hi;refine .cells us.toArray rfl (by simp) (by simp[bq.len]) (λi v hi ai=>?_) (λi hi=>by simpa using eK i hi) mY;have ny:iT[i]?=some v:=by have:=c3 i hi;rw[dK,ai]at this;exact this.symm
        obtain⟨x,wu,wK⟩:=mI.get ny;exact⟨x,by simpa using wu,wK.mono bk⟩
       ·rw[mz id lQ]at h2;exact(mi.iD id e iq hi h2).mono bk λx ab _=>nX _ ab
      ·by_cases lQ:id=dG.n
       ·by_cases Hg:ih=dG.n
        ·rw[lQ,Hg]
        ·rw[mz ih Hg]at aa;rw[lQ,bH.rD]at U;cases U;exact(GO ih a4 ch dw aa v'.symm).elim
       ·rw[mz id lQ]at U;by_cases Hg:ih=dG.n
        ·rw[Hg,bH.rD]at aa;cases aa;exact(GO id e b' hi U v').elim
        ·rw[mz ih Hg]at aa;exact mi.inj id ih e a4 b' ch hi dw U aa v'
      ·by_cases lQ:id=dG.n
       ·rw[lQ];exact ajb
       ·rw[mz id lQ]at h2;exact mi.jy _ _ h2
     ·intro i c' dg AL nK ea;have PS:c'≠dG.n:=λe=>by
       rcases pK i c' dg AL nK with h | h
       ·rcases et.1 h with h | h
        ·cases h;exact ea (.inr rfl)
        ·have:=(t.KE.2 i c' dg AL h).1;have:=aja.1;omega
       ·omega
      rw[mz c' PS];exact fB i c' dg AL nK λhi=>ea (.inl hi)
     ·rw[mz i (by omega)];exact ab i hi
    ·cases aa
   ·cases aa
  | @e i o' a6 mN xZ m' v c4 rY Qw Qx nh n1 ar af BM Ha aK t=>
   have BN:o'=o:=oK (ar.symm.trans az);subst BN;have hw:=KG BM a8.aj H;refine⟨λ_=>?_,λaF=>by rw[hw]at aF;cases aF⟩;obtain⟨Qv,fq,Qz⟩:=Qt af;have Hh:=Yy rfl bZ af;have QA:rM=dG:=by rw[bf,pd (by omega),Hh,wb]at u7;simpa using u7.symm
   subst QA;obtain⟨m2,ajc,QB,QC⟩:=t.head;refine sO (λbX w'=>?_) (Ck aP oc ⟨β,a8⟩ (Ha.2 D F C I M (λen C' I' M'=>∃ br,D.ext br rM.n/\u4 o'.dst v br F en/\df (dR X G pr) br m' I' M') kM mi λbr en C' I' M' aV aX bq=>⟨br,aV,aX,bq⟩));rintro⟨en,C',I',M',gh,br,aV,aX,bq⟩;have bk:=mi.le aV;obtain⟨f1,f2⟩:=DZ.aj dr az q5 D1 (Hf rfl) bk aX BJ BK;refine⟨br,en,C',I',M',j+1,m2,gh,Qz,fq,?_,bq.grow QC,f1,f2,λi c l T nK ea=>?_,bH.Yi ab aV ai6⟩;·rw[bf,pd (by omega),Hh,show j+1-j=0+1 by omega,HN,QB];rfl
   ·rcases pK i c l T nK with h | h
    ·have:=(t.KE.2 i c l T h).1;cases He:br c with
     |none=>rfl| some b=>have:=bq.jy _ _ He;omega
    ·rw[aV c h];exact fB i c l T nK λhi=>ea (.inl hi)
  | @skip i c7 o' a6 mN xZ c4 rY Qw Qx nh n1 ar af BM aK t=>
   have BN:o'=o:=oK (ar.symm.trans az);subst BN;have hw:=KG BM a8.aj H;refine⟨λaF=>(by rw[hw]at aF;cases aF),λ_=>?_⟩;have vB:Rel X (a.put o'.dst undef) w (put o'.dst (.val undef) F) C I M:=⟨β,a8.put (x:=.val undef) oc rfl⟩;have KI:u4 o'.dst (.t []) D F (put o'.dst (.val undef) F):=.put F (.val .undef);by_cases te:k=2
   ·subst te;obtain⟨Qv,fq,Qz⟩:=Qt af;have Hh:=Yy rfl bZ af;have QA:rM=dG:=by rw[bf,pd (by omega),Hh,wb]at u7;simpa using u7.symm
    subst QA;obtain⟨m2,ajc,QB,QC⟩:=t.head;obtain⟨f1,f2⟩:=DZ.aj dr az q5 D1 (Hf rfl) (bH.le_refl D) KI BJ BK;refine⟨D,_,C,I,M,j+1,m2,vB,Qz,fq,?_,mi.grow QC,f1,f2,λi c l T nK ea=>fB i c l T nK λhi=>ea (.inl hi),ab⟩;rw[bf,pd (by omega),Hh,show j+1-j=0+1 by omega];show(rM::nh)[0+1]?=some m2;rw[HN,QB];rfl
   ·exact plain (Hf rfl) (by rw[af];exact te) (λ_ _ _=>.inr trivial) vB KI
 simpa using key
end
def BO{n:Nat}:∀ {c:Code},hQ n c=true->codeOk n c=true
 | .seq x y,h=>by simp only[hQ,codeOk,cA]at h |-;exact⟨BO h.1,BO h.2⟩
 | .block _ c,h=>by simp only[hQ,codeOk]at h |-;exact BO h
 | .cond _ x y,h=>by simp only[hQ,codeOk,cA]at h |-;exact⟨BO h.1,BO h.2⟩
 | .loop c,h=>by simp only[hQ,codeOk]at h |-;exact BO h
 | .region _ ops _,h=>h| .scope c,h=>rfl| .rangeFunc ..,h=>rfl| .skip,h | .exit _,h | .label _,h | .goto _,h | .ret,h | .refuse _,h=>rfl
def QD{n:Nat}:∀ {c:Code} {l:Nat} {r:Code},hQ n c=true->findLabel c l=some r->hQ n r=true
 | .seq x y,l,r,h,aw=>by
  simp only[hQ,cA]at h;simp only[findLabel]at aw;split at aw;·rename_i a6 ao;cases aw;simp only[hQ,cA];exact⟨QD h.1 ao,h.2⟩
  ·exact QD h.2 aw
 | .label dg,l,r,h,aw=>by
  simp only[findLabel]at aw;split at aw;·cases aw;rfl
  ·cases aw
 | .skip,_,_,_,aw | .exit _,_,_,_,aw | .goto _,_,_,_,aw | .ret,_,_,_,aw | .refuse _,_,_,_,aw | .block _ _,_,_,_,aw | .cond _ _ _,_,_,_,aw | .loop _,_,_,_,aw | .scope _,_,_,_,aw | .region _ _ _,_,_,_,aw | .rangeFunc _ _ _ _,_,_,_,aw=>by simp[findLabel]at aw
def wL(P:Program):Prop:=∀ (g:Nat) (fn:Func) (c:Code),P.funcs[g]?=some fn->fn.body=some c->hQ fn.ntmps c=true/\(fn.name == "runtime.NumGoroutine")=false
def ajd(P:Program):Bool:=P.funcs.toList.all λfn=>match fn.body with
 |some c=>hQ fn.ntmps c && !(fn.name == "runtime.NumGoroutine")
 |none=>true
def aje{P:Program}(h:ajd P=true):wL P:=λg fn c aF ag=>by have U:=g0.1 h fn (by rw[<-Array.mem_def];exact Array.mem_of_getElem? aF);simp only[ag,cA,pY]at U;exact U
def x0(Y:gE):Prop:=∀ g vs m v m',Y.pr g vs m=some (v,m')->∀ (D:bH) (I:aH) (M:List aE) (us:List Value),bM D vs us->df Y D m I M->Spec Y.P g us I M λr I' M'=>∃ br,D.ext br m.n/\aU br v r/\df Y br m' I' M'
def zO:sY->Exit
 | .normal=>.normal| .exit id=>.exit id| .goto l=>.goto l| .ret=>.ret
def jA(Y:gE)(n B:Nat)(aq:World)(dN:aH)(b6:List Nat)(ro:Option Nat):cW:=⟨Y.P,Y.E,List.range n,n,B,aq,dN,b6,ro⟩
def jA.gJ{Y:gE}{n B:Nat}{aq:World}{dN:aH}{b6:List Nat}{ro:Option Nat}:∀ d,d<(jA Y n B aq dN b6 ro).n->(jA Y n B aq dN b6 ro).gJ.contains d=true:=λd ah=>by have hI:d<n:=ah;show(List.range n).contains d=true;simpa using hI
def BP(Y:gE)(f:Nat):Prop:=∀ iC n c aj m ex c4 m',jx Y f iC n c aj m=some (ex,c4,m')->hQ n c=true->∀ B aq dN b6 ro D0 n0 a w,(iC=true->ro=none)->lr (jA Y n B aq dN b6 ro) Y.G Y.pr D0 n0 aj m a w -> c.wpIn (gR (jA Y n B aq dN b6 ro)) 0 Y.P (λe a w=>e=zO ex/\lr (jA Y n B aq dN b6 ro) Y.G Y.pr D0 n0 c4 m' a w) a w
def QE{α:Type}:∀ (n k:Nat),(be.bare n:be α).get k=none
 |0,k=>rfl
 |n+1,k=>by
  rw[be.bare,be.Gz];cases Nat.beq k 0 with
  |true=>rfl
  |false=>
   cases Nat.beq (k%2) 1 with
   |true=>exact QE n _| false=>exact QE n _
section
variable{X:cW}{G:GT}{pr:lP}{D:bH}{m:bo}{F:Fr}{aj:be al}{C:dM}{I:aH}{M:List aE}
def QF(c6:qz D F aj)(hm:df (dR X G pr) D m I M):∀ {a2:List ResultVar} {vs:List al} {K:List Value->Prop},zi (dR X G pr) aj m.t a2=some vs->(∀ us,bM D vs us->K us)->oW X F C I M a2 K
 |[],vs,K,h,af=>by simp only[zi]at h;cases h;exact af [] .nil
 | .tmp t::l,vs,K,h,af=>by
  simp only[zi]at h;split at h;·rename_i v rY U aa;cases h;obtain⟨u,aC,aV⟩:=(show gd D (dk F (.tmp t)) v from c6 t v U).dB;unfold oW;rw[aC];exact QF c6 hm aa λus fu=>af _ (.cons aV fu)
  ·cases h
 | .cell t ty::l,vs,K,h,af=>by
  simp only[zi]at h;split at h
  ·rename_i x i rY U aa ae;split at h
   ·rename_i v ai;cases h;have uV:∀ q,x≠.b q:=λq e=>by subst e;cases ai
    obtain⟨u,aC,aV⟩:=gd.uU (c6 t x U:gd D (dk F (.tmp t)) x) uV;obtain⟨ad,dg,D3,rfl,bl,aw,aK⟩:=zo hm aV ai;have k1:X.E ty=some i:=aa;have eb:dk F (.tmp t)=.val (.pointer (some ad)):=aC;unfold oW;rw[eb,k1];exact⟨D3,bl,QF c6 hm ae λus fu=>af _ (.cons (J6 aK aw) fu)⟩
   ·cases h
  ·cases h
end
def Yz(aP:cY Y.P Y.E)(c6:wL Y.P)(mP:x0 Y){f:Nat}(aN:BP Y f){g:Nat}{args:List al}{m:bo}{v:al}{fn:Func}{c:Code}{us:List Value}(aF:Y.P.funcs[g]?=some fn)(ag:fn.body=some c)(bk:args.length<=fn.ntmps){aj c4:be al}(w3:∀ t w,aj.get t=some w->args[t]?=some w){ex:sY}{dG:bo}(hex:ex=.normal\/ex=.ret)(h:jx Y f true fn.ntmps c aj m=some (ex,c4,dG)){vs:List al}(ao:zi Y c4 dG.t fn.results.toList=some vs)
  (ai:v=WC vs) (hu:bM D args us) (hm:df Y D m I M):wZ Y.P g us I M λr I' M'=>∃ br,D.ext br m.n/\aU br v r/\df Y br dG I' M':=by
 obtain⟨a5,vn⟩:=c6 g fn c aF ag;refine LU (List.range fn.ntmps) aP aF ag vn ?_ λB aq a w a8=>?_
 ·rw[cA];exact⟨BO a5,AR (by rw[hu.len];exact bk)⟩
 ·have ajf:qz D (w9 us) aj:=λt w hw=>by obtain⟨x,U,aa⟩:=hu.get (w3 t w hw);refine .inl ⟨x,?_,aa⟩;simp only[w9,U]
  have cf:lr (jA Y fn.ntmps B aq I (M.map (·.num)) none) Y.G Y.pr D m.n aj m a w:=⟨D,_,_,I,M,a8,ajf,hm,bH.oM,b1 _⟩;refine wpIn_mono (aN _ _ _ _ _ _ _ _ h a5 B aq I (M.map (·.num)) none D m.n a w (λ_=>rfl) cf) ?_;rintro e bX w'⟨rfl,br,en,C',I',M',vB,RN,jK,ab,an⟩;have FO:∀ Bt,Bt=.normal\/Bt=.ret->vq (jA Y fn.ntmps B aq I (M.map (·.num)) none) fn.results.toList (λr I' M'=>∃ br,D.ext br m.n/\aU br v r/\df Y br dG I' M') Bt en C' I' M':=λBt he=>by
   have ajg:=QF (X:=jA Y fn.ntmps B aq I (M.map (·.num)) none) (G:=Y.G) (pr:=Y.pr) (C:=C') RN jK ao (K:=λvs=>match vs with
    |[np]=>vp (M.map (·.num)) I' M' ((λr I' M'=>∃ br,D.ext br m.n/\aU br v r/\df Y br dG I' M') np)
    |vs=>vp (M.map (·.num)) I' M' ((λr I' M'=>∃ br,D.ext br m.n/\aU br v r/\df Y br dG I' M') (.tuple vs.toArray))) λD3 fu=>by
     clear ao
     match vs,D3,fu,ai with
     |[],D3,fu,ai=>rw[fu.nm];refine⟨I',M',.refl,br,ab,?_,jK⟩;rw[ai];exact .J5 .nil| [v1],D3,fu,ai=>obtain⟨x,xs,U,aa,rfl⟩:=fu.kf;rw[aa.nm];refine⟨I',M',.refl,br,ab,?_,jK⟩;rw[ai];exact U
     |v1::v2::vs,D3,fu,ai=>obtain⟨x,xs,U,aa,rfl⟩:=fu.kf;obtain⟨y,ic,ae,aR,rfl⟩:=aa.kf;refine⟨I',M',.refl,br,ab,?_,jK⟩;rw[ai];exact .J5 fu
   rcases he with rfl | rfl<;>exact ajg
  rcases hex with rfl | rfl;·exact⟨en,C',I',M',vB,FO _ (.inl rfl)⟩
  ·exact⟨en,C',I',M',vB,FO _ (.inr rfl)⟩
end Go.V
