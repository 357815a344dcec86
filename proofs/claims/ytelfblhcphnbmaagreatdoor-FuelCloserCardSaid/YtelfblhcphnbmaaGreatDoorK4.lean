/- Part 4 of what the proofs of this seat share: the executor, data in memory, walks.
-/
import Derived.Test.YtelfblhcphnbmaaGreatDoorK3
import Derived.Test.YtelfblhcphnbmaaGreatDoorK2
import Derived.Lib.SliceRun
set_option linter.all false
set_option maxHeartbeats 4000000
namespace Go.V
open Go Go.Proofs
def uK:=@Nat.ble_eq_true_of_le
def oH:=@Bool.or_true
def uL:=@List.mem_flatMap
def z7:=@List.getElem?_of_mem
def xC:=@List.length_set
def DE:=@List.length_take_of_le
def rf:=@Nat.add_eq
def z8:=@List.take_append
def z9:=@decide_eq_decide
def DF:=@List.pairwise_append
def DG:=@Nat.add_le_add_right
def DH:=@Nat.mul_le_mul_left
def DI:=@Int.natCast_nonneg
def z':=@Nat.mul_le_mul
def uM:=@Nat.mul_eq
def uN:=@Nat.sub_eq
def DJ:=@Nat.min_eq_right
def Aa:=@Nat.sub_self
variable{I I':aG}{M0 M:List aC}{g:cO}{m base t off d B uO C de sz:Nat}{hi:Int}{L:List (Nat×Nat)}{cG:IntKind}{α R:Type}{vs:List Value}{os:bh}{K:Value->Prop}{deb:List Int}{x y jO:Operand}{ds:List aT}{r:Option Nat}{E:Env}{O:Prop}{cA:Option cF}{P:Program}{av:cF}
def bb(n:Nat):Nat:=min n 1099511627776
def hO(n:Nat):bb n<=1099511627776:=Nat.min_le_right _ _
def mM(a b:Nat):bb (bb a+b)=bb (a+b):=by unfold bb;omega
def RI(a b:Nat):bb (a+bb b)=bb (a+b):=by unfold bb;omega
def Ab{a b:Nat}(h:a<=b):bb a<=bb b:=by unfold bb;omega
def Ac(a b:Nat):bb (bb a*b)=bb (a*b):=by
 by_cases h:a<=1099511627776
 ·have e:bb a=a:=by unfold bb;omega
  rw[e]
 ·have e:bb a=1099511627776:=by unfold bb;omega
  rw[e];cases b with
  |zero=>simp| succ b=>have U:1099511627776*1<=1099511627776*(b+1):=DH _ (by omega);have aa:a*1<=a*(b+1):=DH _ (by omega);generalize 1099511627776*(b+1)=x at U;generalize a*(b+1)=y at aa;unfold bb;omega
def DK(a b:Nat):bb (a*bb b)=bb (a*b):=by rw[ur,Ac,ur]
section
variable{I:aG}{M0:List aC}
def jP(a b:Nat)(aN:a<=9223372036854775807)(ag:b<=9223372036854775807):Spec Tryz.prog 47 [.int .i64 a,.int .i64 b,.int .i64 1099511627776] I M0 λv I' M'=>v=.int .i64 (bb (a+b):Nat)/\I'=I/\M'=M0:=by
 refine cB [] a8 Tryz.func47 rfl rfl rfl ?_;intro B aD;refine b9.mk (λU=>?_) (λU=>?_)
 ·have ib:decide ((1099511627776:Int)<(a:Int))=false:=U;have aa:a<=1099511627776:=by have:=kc ib;omega
  refine bp.mk ((1099511627776-a:Nat):Int) (gS (by omega) (by omega)) ?_;refine a1.mk (λak=>?_) (λak=>?_);·have iL:((1099511627776-a:Nat):Int)<(b:Int):=hX ak;refine⟨_,_,.refl,?_,rfl,rfl⟩;rw[show bb (a+b)=1099511627776 by unfold bb;omega];rfl
  ·have iL:¬ ((1099511627776-a:Nat):Int)<(b:Int):=kc ak;refine bp.mk ((a+b:Nat):Int) (gS (by omega) (by omega)) ?_;refine⟨_,_,.refl,?_,rfl,rfl⟩;rw[show bb (a+b)=a+b by unfold bb;omega]
 ·have ib:decide ((1099511627776:Int)<(a:Int))=true:=U;have aa:1099511627776<a:=by have:=hX ib;omega
  refine⟨_,_,.refl,?_,rfl,rfl⟩;rw[show bb (a+b)=1099511627776 by unfold bb;omega];rfl
def DL(a b:Nat)(aN:a<=9223372036854775807)(ag:b<=9223372036854775807):Spec Tryz.prog 46 [.int .i64 a,.int .i64 b,.int .i64 1099511627776] I M0 λv I' M'=>v=.int .i64 (bb (a*b):Nat)/\I'=I/\M'=M0:=by
 refine cB [] a8 Tryz.func46 rfl rfl rfl ?_;intro B aD;refine b9.mk (λU=>?_) (λU=>?_)
 ·have ib:(!decide ((a:Int)=0))=true:=U;have aa:a≠0:=λe=>by rw[e]at ib;cases ib
  refine qk.mk (by omega) ?_;have aR:Int.tdiv 1099511627776 (a:Int)=((1099511627776/a:Nat):Int):=by rw[CG (by omega)];rfl
  have hle:1099511627776/a<=1099511627776:=Nat.div_le_self _ _;have a0:∀ b,1099511627776/a<b->1099511627776<a*b:=λb be=>by rw[ur];exact(Nat.div_lt_iff_lt_mul (by omega)).1 be
  have eD:∀ b,b<=1099511627776/a->a*b<=1099511627776:=λb be=>by rw[ur];exact(Nat.le_div_iff_mul_le (by omega)).1 be
  generalize 1099511627776/a=q at aR hle a0 eD;refine bp.mk (q:Int) (by rw[aR];exact wrap_i64 ⟨by omega,by omega⟩) ?_;refine a1.mk (λak=>?_) (λak=>?_);·have iL:(q:Int)<(b:Int):=hX ak;have aL:1099511627776<a*b:=a0 b (by omega);refine⟨_,_,.refl,?_,rfl,rfl⟩;rw[show bb (a*b)=1099511627776 by unfold bb;omega];rfl
  ·have iL:¬ (q:Int)<(b:Int):=kc ak;have aL:a*b<=1099511627776:=eD b (by omega);refine bp.mk ((a*b:Nat):Int) (gS (by simp) (by omega)) ?_;refine⟨_,_,.refl,?_,rfl,rfl⟩;rw[show bb (a*b)=a*b by unfold bb;omega]
 ·have ib:(!decide ((a:Int)=0))=false:=U;have aa:a=0:=by
   cases a with
   |zero=>rfl| succ a=>rw[ef (by omega)]at ib;cases ib
  subst aa;refine bp.mk ((0:Nat):Int) (gS (by simp) (by omega)) ?_;refine⟨_,_,.refl,?_,rfl,rfl⟩;rw[show bb (0*b)=0 by simp[bb]]
def iq(w b c:Nat):Nat:=bb (w*(b+1)*(b+4)+c)
def jQ(w b c:Int):Int:=bif decide (w<0)||(decide (b<0)||decide (c<0))then 0 else((iq w.toNat b.toNat c.toNat:Nat):Int)
def J3(w b c:Int)(hw:fG w)(ag:fG b)(aB:fG c):Spec Tryz.prog 13 [.int .i64 w,.int .i64 b,.int .i64 c] I M0 λv I' M'=>v=.int .i64 (jQ w b c)/\I'=I/\M'=M0:=by
 refine cB [] a8 Tryz.func13 rfl rfl rfl ?_;intro B aD;refine b9.mk (λU=>?_) (λU=>?_)
 rotate_left
 ·refine⟨_,_,.refl,?_,rfl,rfl⟩;rw[jQ,show decide (w<0)=true from U];rfl
 refine b9.mk (λaa=>?_) (λaa=>?_)
 rotate_left
 ·refine⟨_,_,.refl,?_,rfl,rfl⟩;rw[jQ,show decide (b<0)=true from aa,Bool.true_or,oH];rfl
 refine a1.mk (λak=>?_) (λak=>?_)
 ·refine⟨_,_,.refl,?_,rfl,rfl⟩;rw[jQ,show decide (c<0)=true from ak,oH,oH];rfl
 have Dp:¬ w<0:=kc U;have jE:¬ b<0:=kc aa;have kj:¬ c<0:=kc ak;have e:jQ w b c=((iq w.toNat b.toNat c.toNat:Nat):Int):=by rw[jQ,ef Dp,ef jE,ef kj];rfl
 rw[e];obtain⟨w,rfl⟩:∃ n:Nat,w=n:=⟨w.toNat,by omega⟩;obtain⟨b,rfl⟩:∃ n:Nat,b=n:=⟨b.toNat,by omega⟩;obtain⟨c,rfl⟩:∃ n:Nat,c=n:=⟨c.toNat,by omega⟩;obtain⟨-,DM⟩:=hw;obtain⟨-,kK⟩:=ag;obtain⟨-,sZ⟩:=aB;have s1:=hO (b+1);have s2:=hO (w*bb (b+1));have gx:=hO (b+4);have RJ:=hO (bb (w*bb (b+1))*bb (b+4));refine aY.whole _ (jP b 1 (by omega) (by omega)) ?_;rintro v I' M' -⟨rfl,rfl,rfl⟩;refine aY.whole _ (DL w (bb (b+1)) (by omega) (by omega)) ?_;rintro v I' M' -⟨rfl,rfl,rfl⟩;refine aY.whole _ (jP b 4 (by omega) (by omega)) ?_;rintro v I' M' -⟨rfl,rfl,rfl⟩;refine aY.whole _ (DL (bb (w*bb (b+1))) (bb (b+4)) (by omega) (by omega)) ?_;rintro v I' M' -⟨rfl,rfl,rfl⟩;refine aY.whole _ (jP (bb (bb (w*bb (b+1))*bb (b+4))) c (by omega) (by omega)) ?_;rintro v I' M' -⟨rfl,rfl,rfl⟩;refine⟨_,_,.refl,?_,rfl,rfl⟩;have e:bb (bb (bb (w*bb (b+1))*bb (b+4))+c)=iq w b c:=by unfold iq;rw[DK w,DK _ (b+4),Ac (w*(b+1)),mM]
 rw[e];rfl
end
def km(ds:List aT):List (List Value):=ds.flatMap λd=>d.t.ae.map λn=>[n.val]
def RK(d:aT)(ds:List aT):km (d::ds)=d.t.ae.map (λn=>[n.val])++km ds:=rfl
def J4(g:cO):Spec Tryz.prog 51 [g.val] I M0 λr I' M'=>∃ b,r=.func (.func 87) #[] #[ptr b]/\I' b=some (.cells #[.slice g.a g.n g.c] 30 (0,0))/\(∀ b o,I b=some o->I' b=some o)/\M'=M0:=by refine cB [1] a8 Tryz.func51 rfl rfl rfl ?_;intro B aD;refine eA.mk λg aw pH=>?_;refine⟨_,_,.vN rfl ?_ .refl,g,rfl,Cz ..,CA aw,rfl⟩;intro h;obtain⟨x,ab,e⟩:=dw.1 h;exact pH x ab e
def J5(aw:g.ok I){b:Nat}(ag:I b=some (.cells #[.slice g.a g.n g.c] 30 (0,0))) :
  Iter Tryz.prog 87 [ptr b] I (km g.ds):=by
 intro l R nf qX cg M0 qY h';refine wc [] a8 Tryz.func87 rfl rfl rfl ?_;intro B aD;have pP:=aw.n;have lG:=aw.aV.cap;have cj:∀ (M:List aC),cx cg M ((⟨b,0,none⟩:Addr).add 0) 1 [.slice g.a g.n g.c]:=λM=>⟨rfl,_,_,_,.inl (qY _ _ ag),rfl,rfl⟩;refine ba.mk _ (cj _) ?_;refine fh.inv (ι:=Nat×Nat×aG×List aC) (λx=>{ b8:=[(0,.val (.func (.yield l) #[] #[])),(8,.val (.slice g.a g.n g.c)),(9,.val (.int .i64 g.n)),(10,.val (.int .i64 x.1))],dL:=x.2.2.1,fg:=x.2.2.2 }) (λx=>x.1<=g.n/\(∀ b o,I b=some o->x.2.2.1 b=some o)/\R x.2.1 x.2.2.1 x.2.2.2/\x.2.1<=(km g.ds).length/\(km g.ds).drop x.2.1=km (g.ds.drop x.1)) (λx=>g.n-x.1) ?_ ?_
 ·exact⟨(0,0,cg,M0),⟨by simp,qY,h',by simp,rfl⟩,.refl,ei,.nil⟩
 ·rintro⟨i,k,ct,M1⟩⟨hi,ch,gR,dI,eF⟩;simp only at hi ch gR dI eF;refine a1.mk (λh=>?_) (λh=>?_)
  ·have a0:i<g.n:=by simpa using h
   have cJ:i<g.ds.length:=by omega
   have gp:=aw.mono ch;obtain⟨ad,dH,C5⟩:=gp.aV.row aT.da a0 cJ;have hL:g.ds[i]∈g.ds:=et cJ;have I8:=(aw.ds _ hL).t.n;have Qh:=(aw.ds _ hL).t.aV.cap;have hj:g.ds.drop i=g.ds[i]::g.ds.drop (i+1):=fe cJ;refine c2.mk ad i dH rfl a0 ?_;refine ba.mk _ (C5 _) ?_;refine fh.inv (ι:=Nat×Nat×aG×List aC) (λx=>{ b8:=[(0,.val (.func (.yield l) #[] #[])),(8,.val (.slice g.a g.n g.c)),(9,.val (.int .i64 g.n)),(10,.val (.int .i64 i)),(16,.val (.slice g.ds[i].t.a g.ds[i].t.n g.ds[i].t.c)),(17,.val (.int .i64 g.ds[i].t.n)),(18,.val (.int .i64 x.1))],dL:=x.2.2.1,fg:=x.2.2.2 }) (λx=>x.1<=g.ds[i].t.n/\(∀ b o,I b=some o->x.2.2.1 b=some o)/\R x.2.1 x.2.2.1 x.2.2.2/\x.2.1<=(km g.ds).length/\(km g.ds).drop x.2.1=(g.ds[i].t.ae.drop x.1).map (λn=>[n.val])++km (g.ds.drop (i+1))) (λx=>g.ds[i].t.n-x.1) ?_ ?_;·refine⟨(0,k,ct,M1),⟨by simp,ch,gR,dI,?_⟩,.refl,G4,.nil⟩;simp only;rw[eF,hj,RK];rfl
   ·rintro⟨j,k,ct,M1⟩⟨ap,ch,gR,dI,eF⟩;simp only at ap ch gR dI eF;refine a1.mk (λh=>?_) (λh=>?_)
    ·have fk:j<g.ds[i].t.n:=by simpa using h
     have hI:j<g.ds[i].t.ae.length:=by omega
     have gp:=aw.mono ch;obtain⟨uy,C6,sg⟩:=(gp.ds _ hL).t.aV.row aH.da fk hI;have bI:g.ds[i].t.ae.drop j=g.ds[i].t.ae[j]::g.ds[i].t.ae.drop (j+1):=fe hI;rw[bI,cC,qK]at eF;obtain⟨aj,af,lT⟩:=drop_cons eF;refine c2.mk uy j C6 rfl fk ?_;refine ba.mk _ (sg _) ?_;refine a9.yield rfl (by simp) rfl rfl ?_;have aE:=qX k aj ct M1 ch gR;rw[af]at aE;refine zm.mk M1 [] _ (by simp) aE ?_;rintro v du cQ hK (⟨rfl,kZ⟩ | ⟨rfl,ab⟩);·refine a1.mk (λh=>by simp at h) (λ_=>?_);refine bp.mk _ (iK (i:=j) (by omega)) ?_;exact⟨(j+1,k+1,du,cQ),⟨⟨by simp only;omega,λb o h=>hK b o (ch b o h),kZ,aj,lT⟩,by simp only;omega⟩,.perm (by simp) .refl,G4,.nil⟩
     ·refine a1.mk (λ_=>?_) (λh=>by simp at h);exact⟨_,_,.perm (by simp) .refl,.inr ab⟩
    ·have eD:g.ds[i].t.n<=j:=by simpa using h
     rw[iZ (show g.ds[i].t.ae.length<=j by omega),lD,lC]at eF;refine bp.mk _ (iK (i:=i) (by omega)) ?_;exact⟨(i+1,k,ct,M1),⟨⟨by simp only;omega,ch,gR,dI,eF⟩,by simp only;omega⟩,.refl,ei,.nil⟩
  ·have eD:g.n<=i:=by simpa using h
   refine⟨_,_,.refl,.inl ?_⟩;rw[iZ (show g.ds.length<=i by omega)]at eF;have sF:k=(km g.ds).length:=by have:=B5.1 eF;omega
   rw[<-sF];exact gR
section
variable{X:bO}{F:Fr}{C:b6}{I:aG}{M:List aC}{o:Oper}
end
structure DN where
 d:aH
 asks:List Nat
structure cu where
 n:Nat
 de:Nat
 a3:Nat
structure ho where
 bH:Nat
 pl:Nat
 times:Nat
 de:Nat
 n:Nat
structure ko where
 kn:Nat->Nat->cu
 op:List ho
 used:Nat
structure fq where
 ae:List DN
 s:ByteArray
 base:Nat
def RL:aH:=⟨0,0,0,0,0,⟨#[]⟩,0,0,none,0,0,[]⟩
def fq.at_(P:fq)(k:Nat):DN:=P.ae.getD k ⟨RL,[]⟩
def RM:cu:=⟨0,0,0⟩
def oI(de n:Nat):cu:=⟨min n 65537,de,3⟩
def Ad:cu:=⟨0,0,2⟩
def RN(d:aH)(b:Nat):Bool:=([d.dY,d.s1,d.s2,d.gx].getD (b/64) 0).toNat.testBit (b%64)
def preB(s t:ByteArray)(at_:Nat):Bool:=decide (at_+t.size<=s.size)&&decide (s.extract at_ (at_+t.size)=t)
def RO(P:fq)(k at_:Nat):Option cu:=
 let d:=(P.at_ k).d
 bif decide (d.k=0)then some (oI at_ 0)else
 bif decide (d.k=1)then(match P.s.data[at_]? with
  |some b=>bif RN d b.toNat then some (oI (at_+1) 0)else some Ad| none=>some Ad)else
 bif decide (d.k=2)then(bif preB P.s d.t at_ then some (oI (at_+d.t.size) 0)else some Ad)else
 bif decide (d.k=6)&&decide (d.hi=0)then some (oI at_ 0)else none
def Ae(P:fq)(f:ho):Nat×Nat:=
 let a:=P.at_ f.bH
 bif decide (a.d.k=4)then(a.asks.getD f.times 0,f.de)else
 bif decide (a.d.k=5)then(a.asks.getD f.times 0,f.pl)else(a.asks.getD 0 0,f.de)
def ho.add(f:ho)(c:cu):ho:=⟨f.bH,f.pl,f.times+1,c.de,min (f.n+c.n) 65537⟩
inductive RP where
 |loop| on (f:ho) (c:cu) (done:Bool)
def RQ(P:fq)(f:ho)(c:cu):RP:=
 let a:=P.at_ f.bH
 bif decide (a.d.k<4)then .on f c true else
 bif decide (a.d.k=4)then(bif Nat.beq c.a3 2 then .on f c true else .on (f.add c) (oI c.de (min (f.n+c.n) 65537)) (decide (f.times+1=a.asks.length)))else
 bif decide (a.d.k=5)then(bif Nat.beq c.a3 3 then .on f c true else .on { f with times:=f.times+1 } c (decide (f.times+1=a.asks.length)))else
 bif decide (a.d.k=6)then
  (bif Nat.beq c.a3 2 then(bif decide ((f.times:Int)<a.d.lo)then .on f c true else .on f (oI f.de f.n) true)
   else bif decide (a.d.hi=-1)&&decide (c.de=f.de)then .loop else .on (f.add c) (oI c.de (min (f.n+c.n) 65537)) (decide (((f.times+1:Nat):Int)=a.d.hi)))else
 bif decide (a.d.k=7)then(bif Nat.beq c.a3 3 then .on f (oI f.pl 0) true else .on f c true)else
 bif decide (a.d.k=8)then(bif Nat.beq c.a3 2 then .on f (oI f.pl 0) true else .on f Ad true)else
 (bif Nat.beq c.a3 3 then .on f (oI c.de (c.n+1)) true else .on f c true)
inductive DO where
 |begin(k at_:Nat)| hand (c:cu)
inductive J6 where
 |err(e:Nat)| ok (c:cu) (S:ko)
inductive xD where
 |stop(e:J6)| more (q:DO) (S:ko)
def oJ(kn:Nat->Nat->cu)(k p:Nat)(c:cu):Nat->Nat->cu:=λcG h1=>bif Nat.beq cG k&&Nat.beq h1 p then c else kn cG h1
def J7(P:fq)(c:cu)(S:ko):xD:=match S.op with
 |[]=>.stop (.err 9)
 |f::rest=>match rest with
  |[]=>.stop (.ok c { S with kn:=oJ S.kn f.bH (f.pl-P.base) c,op:=[] })| r::aV=>.more (.hand c) { S with kn:=oJ S.kn f.bH (f.pl-P.base) c,op:=r::aV }
def J8(P:fq)(S:ko):xD:=match S.op with
 |[]=>.stop (.err 9)
 |f::_=>
  let c:=S.kn (Ae P f).1 ((Ae P f).2-P.base)
  bif Nat.beq c.a3 0 then .more (.begin (Ae P f).1 (Ae P f).2) S else
  bif Nat.beq c.a3 1 then .stop (.err 1)else .more (.hand c) S
def J9(P:fq)(k at_:Nat)(S:ko):ko:=
 ⟨oJ S.kn k (at_-P.base) { S.kn k (at_-P.base)with a3:=1 },⟨k,at_,0,at_,0⟩::S.op,S.used+1⟩
def RR(P:fq)(k at_:Nat)(S:ko):xD:=match RO P k at_ with
 |some c=>J7 P c (J9 P k at_ S)| none=>J8 P (J9 P k at_ S)
def RS(P:fq)(c:cu)(S:ko):xD:=match S.op with
 |[]=>.stop (.err 9)
 |f::rest=>match RQ P f c with
  | .loop=>.stop (.err 2)| .on sE c' done=>bif done then J7 P c' ⟨S.kn,sE::rest,S.used+1⟩else J8 P ⟨S.kn,sE::rest,S.used+1⟩
def RT(P:fq):DO->ko->xD
 | .begin k a,S=>RR P k a S| .hand c,S=>RS P c S
def uP(P:fq):Nat->DO->ko->J6
 |0,_,_=>.err 0
 |n+1,q,S=>match RT P q S with
  | .stop e=>e| .more c4 gT=>uP P n c4 gT
structure J'(P:fq)(pl:Nat)(c:cu):Prop where
 a3:c.a3<=3
 m:c.a3=3->pl<=c.de/\c.de<=P.s.size/\c.n<=65537
 f:c.a3≠3->c.n=0/\c.de=0
def DP(c:cu):Prop:=c.a3=2\/c.a3=3
def s0(kn:Nat->Nat->cu)(base:Nat):List Nat->Nat->List (Nat×Nat)
 |[],_=>[]| k::L,a=>bif Nat.beq (kn k (a-base)).a3 3 then(bif Nat.beq (kn k (a-base)).n 0 then s0 kn base L (kn k (a-base)).de else(k,a)::s0 kn base L (kn k (a-base)).de)else s0 kn base L a
def uQ(kn:Nat->Nat->cu)(base:Nat):List Nat->Nat->Nat
 |[],a=>a| k::L,a=>bif Nat.beq (kn k (a-base)).a3 3 then uQ kn base L (kn k (a-base)).de else uQ kn base L a
def uR(kn:Nat->Nat->cu)(base:Nat):List Nat->Nat->Nat
 |[],_=>0| k::L,a=>bif Nat.beq (kn k (a-base)).a3 3 then(kn k (a-base)).n+uR kn base L (kn k (a-base)).de else uR kn base L a
def allM(kn:Nat->Nat->cu)(base:Nat):List Nat->Nat->Prop
 |[],_=>True| k::L,a=>(kn k (a-base)).a3=3/\allM kn base L (kn k (a-base)).de
def uS(kn:Nat->Nat->cu)(base:Nat):List Nat->Nat->List (Nat×Nat)
 |[],_=>[]| k::L,a=>bif Nat.beq (kn k (a-base)).a3 3 then(bif Nat.beq (kn k (a-base)).n 0 then []else [(k,a)])else uS kn base L a
def uT(kn:Nat->Nat->cu)(base:Nat):List Nat->Nat->Prop
 |[],_=>False| k::L,a=>(kn k (a-base)).a3=3\/((kn k (a-base)).a3=2/\uT kn base L a)
inductive ld(kn:Nat->Nat->cu)(base:Nat)(k:Nat)(hi:Int):Nat->Nat->List (Nat×Nat)->Prop
 |stop{t a:Nat}(h:(t:Int)=hi):ld kn base k hi t a []| fail {t a:Nat} (h:(t:Int)≠hi) (aa:(kn k (a-base)).a3=2):ld kn base k hi t a []| more {t a:Nat} {l:List (Nat×Nat)} (ag:t<=1000000) (h:(t:Int)≠hi) (aa:(kn k (a-base)).a3=3) (r:ld kn base k hi (t+1) (kn k (a-base)).de l):ld kn base k hi t a ((bif Nat.beq (kn k (a-base)).n 0 then []else [(k,a)])++l)
def pW(P:fq)(kn:Nat->Nat->cu)(k a:Nat)(l:List (Nat×Nat)):Prop:=
 if(P.at_ k).d.k=6 then ld kn P.base ((P.at_ k).asks.getD 0 0) (P.at_ k).d.hi 0 a l
 else if(P.at_ k).d.k=5 then uT kn P.base (P.at_ k).asks a/\l=uS kn P.base (P.at_ k).asks a else allM kn P.base (P.at_ k).asks a/\l=s0 kn P.base (P.at_ k).asks a
structure ir where
 name:ByteArray
 lo:Nat
 hi:Nat
def Af(P:fq)(kn:Nat->Nat->cu)(k a:Nat):List ir:=bif decide ((P.at_ k).d.k=9)then [⟨(P.at_ k).d.t,a,(kn k (a-P.base)).de⟩]else []
inductive hP(P:fq)(kn:Nat->Nat->cu):Nat->List (Nat×Nat)->List ir->Prop
 |nil:hP P kn 0 [] []| zero {n k a rest l} (ak:(kn k (a-P.base)).a3=3) (h:(kn k (a-P.base)).n=0) (r:hP P kn n rest l):hP P kn (n+1) ((k,a)::rest) l| node {n k a parts rest l} (ak:(kn k (a-P.base)).a3=3) (h:(kn k (a-P.base)).n≠0) (aK:pW P kn k a parts) (r:hP P kn n (parts++rest) l):hP P kn (n+1) ((k,a)::rest) (Af P kn k a++l)
def hP.app{P:fq}{kn:Nat->Nat->cu}{n:Nat}{a b:List (Nat×Nat)}{l bY:List ir}(h:hP P kn n a l)(aP:hP P kn m b bY):hP P kn (n+m) (a++b) (l++bY):=by
 induction h with
 |nil=>rw[dd];exact aP| @zero n k a rest l ak h r aX=>rw[Nat.add_right_comm];exact .zero ak h aX| @node n k a parts rest l ak h aK r aX=>rw[Nat.add_right_comm,hc];rw[hc]at aX;exact .node ak h aK aX
def rh(l:List ir)(n:Nat):Prop:=(n<=65536->l.length=n)/\(65537<=n->65537<=l.length)
def rh.app{l bY:List ir}{n:Nat}(h:rh l n)(aP:rh bY m):rh (l++bY) (n+m):=by unfold rh at *;rw[cP];omega
def s3(kn ga:Nat->Nat->cu):Prop:=∀ k p,DP (kn k p)->ga k p=kn k p
def DQ{kn ga:Nat->Nat->cu}(h:s3 kn ga)(base:Nat):∀ (L:List Nat) (a:Nat),allM kn base L a->s0 ga base L a=s0 kn base L a/\uQ ga base L a=uQ kn base L a/\uR ga base L a=uR kn base L a/\allM ga base L a
 |[],a,_=>⟨rfl,rfl,rfl,trivial⟩
 |k::L,a,⟨U,aa⟩=>by
  have e:=h k (a-base) (.inr U);obtain⟨i1,i2,i3,i4⟩:=DQ h base L _ aa;have ag:Nat.beq (kn k (a-base)).a3 3=true:=by rw[U];rfl
  simp only[s0,uQ,uR,allM,e,i1,i2,i3,ag,bn];exact⟨trivial,trivial,trivial,U,i4⟩
def Ka{kn ga:Nat->Nat->cu}(h:s3 kn ga)(base:Nat):∀ (L:List Nat) (a:Nat),uT kn base L a->uS ga base L a=uS kn base L a/\uT ga base L a
 |[],a,U=>U.elim| k::L,a,.inl U=>by have e:=h k (a-base) (.inr U);simp only[uS,uT,e,U];exact⟨rfl,.inl trivial⟩
 |k::L,a,.inr ⟨U,aa⟩=>by have e:=h k (a-base) (.inl U);obtain⟨i1,i2⟩:=Ka h base L a aa;simp only[uS,uT,e,U,i1];exact⟨trivial,.inr ⟨trivial,i2⟩⟩
def ld.le{kn ga:Nat->Nat->cu}(h:s3 kn ga){k:Nat}{a:Nat}{l:List (Nat×Nat)}(hw:ld kn base k hi t a l):ld ga base k hi t a l:=by
 induction hw with
 |stop U=>exact .stop U| fail U aa=>exact .fail U (by rw[h _ _ (.inl aa)];exact aa)| @more t a l ag U aa r aX=>have e:=h k (a-base) (.inr aa);have:=ld.more (kn:=ga) (base:=base) (k:=k) (hi:=hi) (t:=t) (a:=a) (l:=l) ag U (by rw[e];exact aa) (by rw[e];exact aX);rwa [e]at this
def pW.le{P:fq}{kn ga:Nat->Nat->cu}(h:s3 kn ga){k a:Nat}{l:List (Nat×Nat)}(aK:pW P kn k a l):pW P ga k a l:=by
 unfold pW at aK |-;by_cases bT:(P.at_ k).d.k=6
 ·rw[ck bT]at aK |-;exact aK.le h
 ·rw[cd bT]at aK |-;by_cases be:(P.at_ k).d.k=5
  ·rw[ck be]at aK |-;obtain⟨i1,i2⟩:=Ka h P.base _ _ aK.1;exact⟨i2,by rw[i1];exact aK.2⟩
  ·rw[cd be]at aK |-;obtain⟨i1,i2,i3,i4⟩:=DQ h P.base _ _ aK.1;exact⟨i4,by rw[i1];exact aK.2⟩
def hP.le{P:fq}{kn ga:Nat->Nat->cu}(h:s3 kn ga){n:Nat}{l:List ir}(aw:hP P kn n L l):hP P ga n L l:=by
 induction aw with
 |nil=>exact .nil| @zero n k a rest l ak aD r aX=>have e:=h k (a-P.base) (.inr ak);exact .zero (by rw[e];exact ak) (by rw[e];exact aD) aX
 | @node n k a parts rest l ak aD aK r aX=>
  have e:=h k (a-P.base) (.inr ak);have aB:Af P kn k a=Af P ga k a:=by unfold Af;rw[e]
  rw[aB];exact .node (by rw[e];exact ak) (by rw[e];exact aD) (aK.le h) aX
inductive oK:Nat->Nat->List ir->Prop
 |nil{a b}(h:a<=b):oK a b []| app {a b c l bY} (h:oK a b l) (aP:oK b c bY):oK a c (l++bY)| cap {a b l c7} (h:oK a b l):oK a b (⟨c7,a,b⟩::l)
def oK.le{a b:Nat}{l:List ir}(h:oK a b l):a<=b:=by
 induction h with
 |nil h=>exact h| app _ _ U aa=>exact iQ U aa| cap _ h=>exact h
structure DR(P:fq)(kn:Nat->Nat->cu)(f:ho):Prop where
 w:(kn f.bH (f.pl-P.base)).a3=1
 many:(P.at_ f.bH).d.k=4\/(P.at_ f.bH).d.k=6->∀ L,L=(if(P.at_ f.bH).d.k=4 then(P.at_ f.bH).asks.take f.times else List.replicate f.times ((P.at_ f.bH).asks.getD 0 0)) -> allM kn P.base L f.pl/\f.de=uQ kn P.base L f.pl/\f.n=min (uR kn P.base L f.pl) 65537
 sd:(P.at_ f.bH).d.k=5->∀ i,i<f.times->(kn ((P.at_ f.bH).asks.getD i 0) (f.pl-P.base)).a3=2
def xE(P:fq)(kn:Nat->Nat->cu):Prop:=∀ k p,(kn k p).a3=3->∃ n l,hP P kn n [(k,P.base+p)] l/\rh l (kn k p).n/\oK (P.base+p) (kn k p).de l
def RU(kn:Nat->Nat->cu)(k p:Nat)(c:cu):oJ kn k p c k p=c:=by simp[oJ]
def Kb{kn:Nat->Nat->cu}{k p cG h1:Nat}{c:cu}(h:¬ (cG=k/\h1=p)):oJ kn k p c cG h1=kn cG h1:=by
 unfold oJ;have:(Nat.beq cG k&&Nat.beq h1 p)=false:=by rw[Bool.eq_false_iff];intro e;simp only[bs,Nat.beq_eq]at e;exact h e
 rw[this];rfl
def RV{kn:Nat->Nat->cu}{k p:Nat}{c:cu}(h:¬ DP (kn k p)):s3 kn (oJ kn k p c):=λcG h1 ao=>by refine Kb λe=>?_;rw[e.1,e.2]at ao;exact h ao
def xE.set{P:fq}{kn:Nat->Nat->cu}(h:xE P kn){k p:Nat}{c:cu}(aF:¬ DP (kn k p))(aB:c.a3=3->∃ n l,hP P (oJ kn k p c) n [(k,P.base+p)] l/\rh l c.n/\oK (P.base+p) c.de l):xE P (oJ kn k p c):=λcG h1 ak=>by
 by_cases e:cG=k/\h1=p
 ·obtain⟨rfl,rfl⟩:=e;rw[RU]at ak |-;exact aB ak
 ·rw[Kb e]at ak |-;obtain⟨n,l,U,aa⟩:=h cG h1 ak;exact⟨n,l,U.le (RV aF),aa⟩
def DR.le{P:fq}{kn ga:Nat->Nat->cu}(h:s3 kn ga){f:ho}(an:DR P kn f)(hw:(ga f.bH (f.pl-P.base)).a3=1):DR P ga f:=by
 refine⟨hw,λaj L cN=>?_,λaj i hi=>?_⟩
 ·obtain⟨U,aa,ak⟩:=an.many aj L cN;obtain⟨i1,i2,i3,i4⟩:=DQ h P.base _ _ U;exact⟨i4,by rw[i2];exact aa,by rw[i3];exact ak⟩
 ·have:=an.sd aj i hi;rw[h _ _ (.inl this)];exact this
def RW:Nat->Int
 |0=>44| 1=>42| 2=>43| _=>0
def RX(pre mid post:List Value)(k:Nat)(vs:List Value)(h:k+vs.length<=mid.length):bt (pre++(mid++post)) (pre.length+k) vs=pre++(bt mid k vs++post):=by
 unfold bt;have U:(pre++(mid++post)).take (pre.length+k)=pre++mid.take k:=by rw[z8,Nat.add_sub_cancel_left,kU (by omega),wz (by omega)]
 have aa:(pre++(mid++post)).drop (pre.length+k+vs.length)=mid.drop (k+vs.length)++post:=by rw[kD,Hx,List.drop_append_of_le_length h]
 rw[U,aa];simp
def RY(f:α->List Value)(size:Nat)(az:∀ x,(f x).length=size)(l:List α)(i:Nat)(hi:i<l.length)(k:Nat)(vs:List Value)(aj:k+vs.length<=size)(iW:α)(ab:bt (f l[i]) k vs=f iW) :
  bt (l.flatMap f) (i*size+k) vs=(l.set i iW).flatMap f:=by
 have e:l=l.take i++l[i]::l.drop (i+1):=by rw[<-fe hi,qH]
 have ax:l.flatMap f=(l.take i).flatMap f++(f l[i]++(l.drop (i+1)).flatMap f):=by
  calc l.flatMap f=(l.take i++l[i]::l.drop (i+1)).flatMap f:=congrArg _ e
   _=_:=by rw[oc,qJ]
 have aS:((l.take i).flatMap f).length=i*size:=by rw[hf f size az,DE (by omega)]
 rw[ax,<-aS,RX _ _ _ _ _ (by rw[az];exact aj),B1,ck hi,oc,qJ,ab]
def RZ{cur:List Value}{j:Nat}(h:j+vs.length<=m)(hm:m<=cur.length):(bt cur j vs).take m=bt (cur.take m) j vs:=by
 unfold bt;have U:(cur.take m).take j=cur.take j:=by rw[ub,qi (by omega)]
 have aa:(cur.take m).drop (j+vs.length)=(cur.drop (j+vs.length)).take (m-(j+vs.length)):=by rw[wB]
 have ak:(cur.take j).length=j:=by rw[kW];omega
 rw[U,aa,hc,hc,z8,ak,kU (by omega),z8,kU (by omega:vs.length<=m-j)];congr 3;omega
def bh.put(f:α->List Value)(size:Nat)(az:∀ x,(f x).length=size){l:List α}{e:Nat}(h:os.ok size (l.flatMap f)){i:Nat}(hi:i<l.length)(k:Nat)(aj:k+vs.length<=size)(U:eP vs=true)(iW:α)(ab:bt (f l[i]) k vs=f iW)(pre post:List aC)(aZ:M=pre++(os.bF e++post)){g:Nat}(aw:os.a=some g)(R0:off=i*size+k){K:List aC->Prop}
  (dq:∀ (f':bh),f'.val=os.val->f'.a=os.a->f'.n=os.n->f'.ok size ((l.set i iW).flatMap f)->K (pre++(f'.bF e++post))):df M ⟨g,off,none⟩ vs K:=by
 have yV:=h.len;rw[hf f size az]at yV;obtain⟨a,n,c,cur⟩:=os;have au:l.length*size=n*size:=yV;simp only at aw;subst aw;obtain⟨eL,eV,fW,g4⟩:=h.cap g rfl;simp only at eL eV fW g4;have ag:n*size<=c*size:=jX _ eV;have gK:i*size+size<=l.length*size:=by have:=jX size (show i+1<=l.length from hi);rwa [h9,sp]at this
 subst aZ;subst R0;refine df.mk pre post cur.toArray e rfl rfl ?_ U ?_
 ·simp only[mU];omega
 ·have:=dq ⟨some g,n,c,bt cur (i*size+k) vs⟩ rfl rfl rfl ⟨?_,(λh=>by cases h),λdA aw=>?_⟩
  ·simpa[bh.bF]using this
  ·rw[hf f size az,xC];exact au
  ·cases aw;refine⟨?_,eV,fW,?_⟩
   ·simp only[bt,cP,kW,pD];omega
   ·simp only;rw[RZ (by omega) (by omega),g4,RY f size az l i hi k vs aj iW ab]
def bh.Kc(f:α->List Value)(size:Nat)(az:∀ x,(f x).length=size){l:List α}{e:Nat}(h:os.ok size (l.flatMap f)){i:Nat}(hi:i<l.length)(k:Nat)(aj:k+vs.length<=size)(U:eP vs=true)(iW:α)(ab:bt (f l[i]) k vs=f iW)(pre post:List aC)(aZ:M=pre++(os.bF e++post)){ad:Addr}(dH:(os.a.map λg=>(⟨g,0,none⟩:Addr))=some ad){K:List aC->Prop}
  (dq:∀ (f':bh),f'.val=os.val->f'.a=os.a->f'.n=os.n->f'.ok size ((l.set i iW).flatMap f)->K (pre++(f'.bF e++post))):df M ((ad.add (i*size)).add k) vs K:=by
 obtain⟨g,aw,rfl⟩:∃ g,os.a=some g/\ad=⟨g,0,none⟩:=by
  cases aN:os.a with
  |none=>rw[aN]at dH;cases dH| some g=>rw[aN]at dH;cases dH;exact⟨g,rfl,rfl⟩
 rw[cY (⟨g,0,none⟩:Addr) rfl,cY _ rfl];exact bh.put f size az h hi k aj U iW ab pre post aZ aw (by simp) dq
def cu.cells(c:cu):List Value:=[.int .i32 c.n,.int .i16 c.de,.int .u8 c.a3]
def cu.val(c:cu):Value:=.agg #[.int .i32 c.n,.int .i16 c.de,.int .u8 c.a3]
def cu.da(c:cu):c.cells.length=3:=rfl
def ho.cells(f:ho):List Value:=[.int .i32 f.bH,.int .i32 f.pl,.int .i32 f.times,.int .i32 f.de,.int .i32 f.n]
def ho.da(f:ho):f.cells.length=5:=rfl
structure kp where
 d:aH
 a:Option Addr
 n:Nat
 c:Nat
 asks:List Nat
def kp.cells(x:kp):List Value:=x.d.cells++[.slice x.a x.n x.c]
def kp.da(x:kp):x.cells.length=10:=rfl
structure kp.ok(I:aG)(x:kp):Prop where
 d:x.d.ok I
 aV:ee I x.a x.n x.c 1 8 (x.asks.map λ(k:Nat)=>Value.int .i64 (k:Int))
def kp.pn(x:kp):DN:=⟨x.d,x.asks⟩
def kp.ok.mono{x:kp}(h:x.ok I)(a7:∀ b o,I b=some o->I' b=some o):x.ok I':=⟨h.d.mono a7,h.aV.mono a7⟩
structure s4 where
 xs:List kp
 a:Option Addr
 n:Nat
 c:Nat
structure s4.ok(I:aG)(x:s4):Prop where
 aV:ee I x.a x.n x.c 10 0 (x.xs.flatMap kp.cells)
 xs:∀ y∈x.xs,y.ok I
def s4.ok.mono{x:s4}(h:x.ok I)(a7:∀ b o,I b=some o->I' b=some o):x.ok I':=⟨h.aV.mono a7,λy aE=>(h.xs y aE).mono a7⟩
def s4.ok.n{x:s4}(h:x.ok I):x.xs.length=x.n:=by have:=h.aV.len;rw[hf _ 10 kp.da]at this;omega
structure b4 where
 gA:Nat
 XV:Nat
 s:ByteArray
 base:Nat
 ca:Nat
 ae:s4
def b4.s5(m:b4):fq:=⟨m.ae.xs.map kp.pn,m.s,m.base⟩
def b4.w(m:b4):Nat:=m.s.size-m.base+1
structure Kd where
 b:Option Nat
 cs:List cu
def Kd.val(w:Nat)(r:Kd):Value:=match r.b with
 |none=>.slice none 0 0| some b=>.slice (some ⟨b,0,none⟩) w w
def bh.at_{f:α->List Value}{size:Nat}(az:∀ x,(f x).length=size)(aD:0<size){l:List α}{e:Nat}(h:os.ok size (l.flatMap f))(aZ:∀ x∈os.bF e,x∈M){g:Nat}(aw:os.a=some g){i:Nat}(hi:i<l.length):cx I M ⟨g,i*size,none⟩ size (f l[i]):=by obtain⟨ad,dH,cj⟩:=bh.ok.row (I:=I) (M:=M) (e:=e) az aD h aZ hi;rw[aw]at dH;cases dH;rwa [cY _ rfl,dd]at cj
structure Ke(os:bh)(rest:List ho)(f:ho)(g:Nat):Prop where
 a:os.a=some g
 ok:os.ok 5 ((rest++[f]).flatMap ho.cells)
section
variable{I:aG}{P:fq}{f:ho}{c:cu}{x:kp}{pn:Addr}{os:bh}{rest:List ho}{g:Nat}
end
def Ke.n{rest:List ho}{f:ho}{g:Nat}(h:Ke os rest f g):os.n=rest.length+1:=by have:=h.ok.len;rw[hf _ 5 ho.da]at this;simp at this;omega
def Kf(c7:ByteArray):∀ (ds:List aT) (i:Nat),dQ c7 ds i=bif decide (dQ c7 ds 0<0)then -1 else dQ c7 ds 0+i
 |[],i=>rfl
 |d::ds,i=>by
  unfold dQ;cases h:decide (d.name=c7)with
  |true=>
   have:decide ((((0:Nat):Int))<0)=false:=by decide
   simp[this]
  |false=>
   rw[bj,bj,Kf c7 ds (i+1),Kf c7 ds (0+1)];have al:dQ c7 ds 0<0\/0<=dQ c7 ds 0:=by omega
   rcases al with al | al;·rw[dP al];rfl
   ·have e:decide (dQ c7 ds 0<0)=false:=ef (by omega);rw[e,bj,bj];have aS:decide (dQ c7 ds 0+((0+1:Nat):Int)<0)=false:=ef (by omega);rw[aS,bj];omega
def Kg(c7:ByteArray)(an bz:List aT):dQ c7 (an++bz) 0=bif decide (dQ c7 an 0<0)then dQ c7 bz an.length else dQ c7 an 0:=by
 have key:∀ (an:List aT) (i:Nat),dQ c7 (an++bz) i=bif decide (dQ c7 an i<0)then dQ c7 bz (i+an.length)else dQ c7 an i:=by
  intro an
  induction an with
  |nil=>intro i;simp[dQ]
  |cons d an aX=>
   intro i;rw[qK,dQ,dQ];cases decide (d.name=c7)with
   |true=>have:decide ((i:Int)<0)=false:=ef (by omega);rw[bn,bn,this,bj]| false=>rw[bj,bj,aX (i+1),c8];rw[show i+1+an.length=i+(an.length+1)from by omega]
 have:=key an 0;rwa [dd]at this
structure uU(an:List aT)(acc:List (ByteArray×Int)):Prop where
 look:∀ c7,(e0 c7 acc).isSome=decide (0<=dQ c7 an 0)
def Kh(c7:ByteArray)(p:ByteArray×Int):∀ acc:List (ByteArray×Int),(e0 c7 (acc++[p])).isSome=((e0 c7 acc).isSome||decide (c7=p.1))
 |[]=>by
  show(bif decide (c7=p.1)then some p.2 else none:Option Int).isSome=_;cases decide (c7=p.1)<;>rfl
 |q::acc=>by
  rw[qK,e0,e0];cases decide (c7=q.1)with
  |true=>rfl| false=>rw[bj,bj,Kh c7 p acc]
def uU.snoc{an:List aT}{acc:List (ByteArray×Int)}(h:uU an acc)(d:aT)(v:Int):uU (an++[d]) (acc++[(d.name,v)]):=by
 refine⟨λc7=>?_⟩;rw[Kh,h.look,Kg];by_cases al:dQ c7 an 0<0
 ·rw[dP al,bn,ef (by omega:¬ 0<=dQ c7 an 0),rV];unfold dQ;have:decide (d.name=c7)=decide (c7=d.name):=decide_eq_decide.2 ⟨Eq.symm,Eq.symm⟩;rw[this];cases decide (c7=d.name)with
  |true=>simp| false=>rw[bj];rfl
 ·rw[ef al,bj,dP (by omega:0<=dQ c7 an 0),Bool.true_or]
def oL(ds:List aT)(i:Nat):Bool:=match ds[i]? with
 |some d=>decide (dQ d.name ds 0=i)| none=>true
def R1(d:aT)(bz:List aT)(i:Nat):dQ d.name (d::bz) i=i:=by rw[dQ,dP rfl];rfl
def R2(bz:List aT):∀ (an:List aT) (acc:List (ByteArray×Int)),uU an acc->(∀ i,i<an.length->oL (an++bz) i=true) ->
  match il acc an.length bz with
  |none=>∃ i,i<(an++bz).length/\oL (an++bz) i=false/\∀ k,k<i->oL (an++bz) k=true| some r=>uU (an++bz) r/\∀ i,i<(an++bz).length->oL (an++bz) i=true:=by
 induction bz with
 |nil=>intro an acc h az;rw[hd]at *;exact⟨h,az⟩
 |cons d bz aX=>
  intro an acc h az;have CF:(an++d::bz)[an.length]?=some d:=by simp
  have jv:oL (an++d::bz) an.length=!(e0 d.name acc).isSome:=by
   unfold oL;rw[CF,h.look];simp only;rw[Kg];by_cases al:dQ d.name an 0<0;·rw[dP al,bn,R1];simp;omega
   ·rw[ef al,bj];have a0:dQ d.name an 0<an.length:=by
     have:∀ (an:List aT) (i:Nat),0<=dQ d.name an i->dQ d.name an i<i+an.length:=by
      intro an
      induction an with
      |nil=>intro i h;simp[dQ]at h
      |cons e an R3=>
       intro i h;unfold dQ at h |-;cases aB:decide (e.name=d.name)with
       |true=>simp;omega| false=>rw[aB,bj]at h;rw[bj];have:=R3 (i+1) h;simp;omega
     have:=this an 0 (by omega);omega
    have ax:decide (dQ d.name an 0=(an.length:Int))=false:=ef (by omega);have aS:decide (0<=dQ d.name an 0)=true:=dP (by omega);rw[ax,aS];rfl
  rw[il];cases au:(e0 d.name acc).isSome with
  |true=>rw[au]at jv;exact⟨an.length,by simp,jv,az⟩
  |false=>
   rw[au]at jv;have:=aX (an++[d]) (acc++[(d.name,(an.length:Int))]) (h.snoc d _) (λi hi=>by
    rw[hc];simp at hi;rcases Nat.lt_or_eq_of_le (Nat.lt_succ_iff.1 (by omega:i<an.length+1))with U | U;·exact az i U
    ·rw[U];exact jv)
   rw[cP,hc]at this;exact this
def R4:uU [] []:=⟨λc7=>by simp[e0,dQ]⟩
def xF(ds:List aT)(n:aH):Bool:=!decide (n.k=3)||decide (0<=dQ n.t ds 0)
def Ki(p:aH->Bool):∀ (ds:List aT) (i:Nat),((k9 i ds).all λx=>p x.2)=ds.all λd=>d.t.ae.all p
 |[],i=>rfl| d::ds,i=>by rw[k9,zB,List.all_cons,Ki p ds (i+1),List.all_map];rfl
def DS(deb:List Int)(g:cO):Int:=
 bif decide ((g.n:Int)=0)then 4 else bif !nA g.ds then 4 else bif mI deb g then 40 else
 bif !(List.range g.ds.length).all (oL g.ds)then 6 else bif g.ds.all λd=>d.t.ae.all (xF g.ds)then 0 else 41
def R5(deb:List Int)(g:cO):DS deb g=dB deb g:=by
 unfold DS dB;have h:=R2 g.ds [] [] R4 (λi hi=>by simp at hi);simp only[gP,lC]at h;cases ao:il [] 0 g.ds with
 |none=>
  rw[ao]at h;obtain⟨i,U,aa,_⟩:=h;have:(List.range g.ds.length).all (oL g.ds)=false:=by rw[Bool.eq_false_iff];intro e';rw[eO]at e';have:=e' i (jY.2 U);rw[aa]at this;cases this
  rw[this];rfl
 |some acc=>
  rw[ao]at h;obtain⟨U,aa⟩:=h;have ak:(List.range g.ds.length).all (oL g.ds)=true:=by rw[eO];intro i hi;exact aa i (jY.1 hi)
  rw[ak];have aL:(g.ds.all λd=>d.t.ae.all (xF g.ds))=lU acc g.ds:=by unfold lU;rw[Ki];congr 1;funext d;congr 1;funext n;unfold q8 xF;rw[U.look]
  rw[aL];rfl
def lY(ae:List aH):List Int:=ae.flatMap (·.kids)
def pX(l:List Int):Prop:=l.Pairwise (·≠·)
def uV(s:List Bool)(l:List Int):Prop:=∀ j,s.getD j false=true ↔ ((j:Int)∈l/\j<s.length)
def Kj{i:Nat}:∀ {ks seen:List Int} {s:List Bool},i<=s.length->uV s seen->pX seen -> ((∃ bx,hh i ks s=some bx) ↔ ((∀ k∈ks,0<=k/\k<i)/\pX (seen++ks)))/\∀ bx,hh i ks s=some bx->bx.length=s.length/\uV bx (seen++ks)
 |[],seen,s,hi,hm,ao=>by refine⟨⟨λ_=>⟨λk aj=>by(cases aj),by simpa using ao⟩,λ_=>⟨s,rfl⟩⟩,λbx h=>?_⟩;simp only[hh,hr]at h;subst h;exact⟨rfl,by simpa using hm⟩
 |k::ks,seen,s,hi,hm,ao=>by
  unfold hh;cases ag:decide (k<0)||(decide ((i:Int)<=k)||s.getD k.toNat false)with
  |true=>
   refine⟨⟨λ⟨bx,h⟩=>(by cases h),λ⟨U,aa⟩=>?_⟩,λbx h=>by cases h⟩;exfalso;have ak:=U k (.head _);simp only[gY,e3]at ag;rcases ag with ag | ag | ag;·omega
   ·omega
   ·have:=(hm _).1 ag;rw[sj ak.1]at this;exact(DF.1 aa).2.2 k this.1 k (.head _) rfl
  |false=>
   simp only[mq,nb]at ag;obtain⟨cR,bU,dZ⟩:=ag;have aj:k.toNat<s.length:=by omega
   have xi:k ∉ seen:=λh=>by have:=(hm k.toNat).2 ⟨by rw[sj (by omega)];exact h,aj⟩;rw[dZ]at this;cases this
   have lB:uV (s.set k.toNat true) (seen++[k]):=λj=>by
    have:=hm j;simp only[c1,kV,xC,c9,ju]at this |-;by_cases e:k.toNat=j;·subst e;rw[ck rfl,ck aj];simp only[hs,true_iff];exact⟨.inr (by omega),aj⟩
    ·rw[cd e,this];constructor
     ·rintro⟨U,aa⟩;exact⟨.inl U,aa⟩
     ·rintro⟨U | U,aa⟩
      ·exact⟨U,aa⟩
      ·omega
   have e7:pX (seen++[k]):=DF.2 ⟨ao,by simp,λa aN b ag e=>by
    simp only[ju]at ag;subst ag;subst e;exact xi aN⟩
   have aX:=Kj (i:=i) (ks:=ks) (seen:=seen++[k]) (s:=s.set k.toNat true) (by simpa using hi) lB e7;simp only[bj];rw[hc,List.singleton_append]at aX;refine⟨aX.1.trans ⟨λ⟨U,aa⟩=>⟨λx ab=>?_,aa⟩,λ⟨U,aa⟩=>⟨λx ab=>U x (.tail _ ab),aa⟩⟩,λbx h=>?_⟩
   ·rcases cU.1 ab with rfl | ab
    ·omega
    ·exact U x ab
   ·have:=aX.2 bx h;simpa using this
def Kk:∀ {ds:List aH} {i:Nat} {seen:List Int} {s:List Bool},i+ds.length<=s.length->uV s seen->pX seen -> ((∃ bx,gm i ds s=some bx) ↔ ((∀ j (h:j<ds.length),fits ds[j] ds[j].kids.length=true/\∀ k∈ds[j].kids,0<=k/\k<i+j)/\pX (seen++lY ds)))/\∀ bx,gm i ds s=some bx->bx.length=s.length/\uV bx (seen++lY ds)
 |[],i,seen,s,hi,hm,ao=>by refine⟨⟨λ_=>⟨λj ap=>by simp at ap,by simpa[lY]using ao⟩,λ_=>⟨s,rfl⟩⟩,λbx h=>?_⟩;simp only[gm,hr]at h;subst h;exact⟨rfl,by simpa[lY]using hm⟩
 |d::ds,i,seen,s,hi,hm,ao=>by
  unfold gm;have aj:=Kj (i:=i) (ks:=d.kids) (by simp at hi;omega) hm ao;have e':lY (d::ds)=d.kids++lY ds:=rfl;cases az:fits d d.kids.length with
  |false=>refine⟨⟨λ⟨bx,h⟩=>(by cases h),λ⟨U,aa⟩=>?_⟩,λbx h=>by cases h⟩;have:=(U 0 (by simp)).1;simp only[si]at this;rw[az]at this;cases this
  |true=>
   simp only[bn];cases aR:hh i d.kids s with
   |none=>
    refine⟨⟨λ⟨bx,h⟩=>(by cases h),λ⟨U,aa⟩=>?_⟩,λbx h=>by cases h⟩;exfalso;have:∃ bx,hh i d.kids s=some bx:=aj.1.2 ⟨λk aj=>by
     have:=(U 0 (by simp)).2 k aj;omega,by
     rw[e',<-hc]at aa;exact(DF.1 aa).1⟩
    obtain⟨bx,h⟩:=this;rw[aR]at h;cases h
   |some s1=>
    obtain⟨s6,b3⟩:=aj.2 s1 aR;obtain⟨uI,d1⟩:=aj.1.1 ⟨s1,aR⟩;have aX:=Kk (ds:=ds) (i:=i+1) (seen:=seen++d.kids) (s:=s1) (by simp at hi;omega) b3 d1;rw[hc,<-e']at aX;simp only;refine⟨aX.1.trans ⟨λ⟨U,aa⟩=>⟨λj ap=>?_,aa⟩,λ⟨U,aa⟩=>⟨λj ap=>?_,aa⟩⟩,λbx h=>?_⟩
    ·cases j with
     |zero=>exact⟨az,λk aj=>by have:=uI k aj;omega⟩| succ j=>have:=U j (by simpa using ap);refine⟨this.1,λk aj=>?_⟩;have:=this.2 k aj;omega
    ·have:=U (j+1) (by simpa using ap);refine⟨this.1,λk aj=>?_⟩;have:=this.2 k aj;omega
    ·have:=aX.2 bx h;exact⟨this.1.trans s6,this.2⟩
def R6(n:Nat):uV (List.replicate n false) []:=λj=>by
 by_cases h:j<n<;>simp[c1,List.getElem?_replicate,h]
structure pY(t:cc):Prop where
 root:0<=t.root/\t.root<t.ae.length
 fits:∀ j (h:j<t.ae.length),fits t.ae[j] t.ae[j].kids.length=true
 kids:∀ j (h:j<t.ae.length),∀ k∈t.ae[j].kids,0<=k/\k<j
 diff:pX (lY t.ae)
 all:∀ j:Nat,j<t.ae.length->((j:Int)∈lY t.ae ↔ (j:Int)≠t.root)
def R7{t:cc}:right t=true ↔ pY t:=by
 have h:=Kk (ds:=t.ae) (i:=0) (seen:=[]) (s:=List.replicate t.ae.length false) (by simp) (R6 _) (by simp[pX]);simp only[lC,dd,List.length_replicate]at h;unfold right;constructor
 ·intro al;simp only[bs,e3]at al;obtain⟨uI,uC,sY⟩:=al;split at sY
  ·rename_i s an;obtain⟨eL,eV⟩:=h.1.1 ⟨s,an⟩;obtain⟨b3,m2⟩:=h.2 s an;refine⟨⟨uI,uC⟩,λj ap=>(eL j ap).1,λj ap k aj=>(by have:=(eL j ap).2 k aj;omega),eV,λj ap=>?_⟩;have ag:(s.getD j false == decide (((0+j:Nat):Int)=t.root))=false:=by
    cases ag:(s.getD j false == decide (((0+j:Nat):Int)=t.root))with
    |false=>rfl| true=>have:=JC (by omega) ag;rw[this]at sY;cases sY
   rw[dd]at ag;have hm:=m2 j;constructor;·intro ab e;have:=hm.2 ⟨ab,by omega⟩;rw[this,dP e]at ag;cases ag
   ·intro br;rw[ef br]at ag;have:s.getD j false=true:=by
     revert ag;cases s.getD j false<;>simp
    exact(hm.1 this).1
  ·cases sY
 ·intro al;obtain⟨s,an⟩:=h.1.2 ⟨λj ap=>⟨al.fits j ap,λk aj=>by have:=al.kids j ap k aj;omega⟩,al.diff⟩;obtain⟨b3,m2⟩:=h.2 s an;rw[an];simp only[bs,e3];refine⟨al.root.1,al.root.2,JD λj ap=>?_⟩;rw[dd];have aN:=al.all j (by omega);have hm:=m2 j;by_cases e:(j:Int)=t.root
  ·have az:s.getD j false=false:=by
    cases ag:s.getD j false with
    |false=>rfl| true=>exact absurd e (aN.1 (hm.1 ag).1)
   rw[az,dP e];rfl
  ·have:=hm.2 ⟨aN.2 e,by omega⟩;rw[this,ef e];rfl
def pY.node{t:cc}(al:pY t){j:Nat}(ap:j<t.ae.length){k:Int}(aj:k∈(nodeAt t.ae j).kids):0<=k/\k<j:=by rw[nx ap]at aj;exact al.kids j ap k aj
section
variable{t:cc}(al:pY t)
include al
def Ag(ae:List aH)(l:List Int):Prop:=∀ i (h:i<l.length),∀ k∈(nodeAt ae (l[i]).toNat).kids,k∈l.take i
omit al in
def Ag.append{ae:List aH}{l m:List Int}(h:Ag ae l)(aP:Ag ae m):Ag ae (l++m):=by
 intro i hi k aj;by_cases au:i<l.length
 ·rw[List.getElem_append_left au]at aj;rw[wz (by omega)];exact h i au k aj
 ·rw[List.getElem_append_right (by omega)]at aj;have:=aP (i-l.length) (by simp at hi;omega) k aj;rw[z8,kU (by omega)];exact c9.2 (.inr this)
end
def Ah(ds:List aT):Nat:=(ds.map λd=>d.t.ae.length).sum
def DT:∀ (n:Nat) (l:List Int),pX l->(∀ k∈l,0<=k/\k<n)->l.length<=n
 |0,[],_,_=>cK _| 0,k::l,_,h=>by have:=h k (.head _);omega
 |n+1,l,ao,h=>by
  have U:=DT n (l.filter λk=>decide (k≠(n:Int))) (ao.filter _) λk aj=>by have aa:=vJ.1 aj;have ak:=hX aa.2;have aL:=h k aa.1;omega
  have aa:∀ l:List Int,pX l->l.length<=(l.filter λk=>decide (k≠(n:Int))).length+1:=by
   intro l
   induction l with
   |nil=>intro _;simp
   |cons a l aX=>
    intro ao;obtain⟨d1,d2⟩:=List.pairwise_cons.1 ao;by_cases e:a=(n:Int);·have:l.filter (λk=>decide (k≠(n:Int)))=l:=List.filter_eq_self.2 λk aj=>dP λaS=>d1 k aj (e.trans aS.symm);rw[List.filter_cons_of_neg (by simp[e]),this,c8];exact cK _
    ·have:=aX d2;rw[List.filter_cons_of_pos (by simp[e]),c8,c8];omega
  have:=aa l ao;omega
structure oM(g:cO):Prop where
 n:g.n≠0
 r:∀ d∈g.ds,pY d.t
 find:∀ d∈g.ds,∀ n∈d.t.ae,n.k=3->0<=dQ n.t g.ds 0
 R8:Ah g.ds<=1024
 XW:g.n<=64
def DU(h:dB deb g=0)(aF:∀ d∈g.ds,d.t.ae.length=d.t.n):oM g:=by
 rw[<-R5]at h;unfold DS at h;cases U:decide ((g.n:Int)=0)with
 |true=>rw[U]at h;cases h
 |false=>
  rw[U,bj]at h;cases aa:nA g.ds with
  |false=>rw[aa]at h;cases h
  |true=>
   rw[aa,nW,bj]at h;cases ak:mI deb g with
   |true=>rw[ak]at h;cases h
   |false=>
    rw[ak,bj]at h;cases aL:!(List.range g.ds.length).all (oL g.ds)with
    |true=>rw[aL]at h;cases h
    |false=>
     rw[aL,bj]at h;cases be:g.ds.all λd=>d.t.ae.all (xF g.ds)with
     |false=>rw[be]at h;cases h
     |true=>
      have al:∀ d∈g.ds,right d.t=true:=λd ao=>by have:=eO.1 aa d ao;simp only[normal,bs]at this;exact this.2.1
      refine⟨λe=>by have:=kc U;omega,λd ao=>R7.1 (al d ao),λd ao n aF ak=>?_,?_,?_⟩;·have:=eO.1 (eO.1 be d ao) n aF;simp only[xF,ak,decide_true,nW,rV,e3]at this;exact this
      ·have e:Ah g.ds=oz g:=by unfold Ah oz;congr 1;refine ua λd ao=>?_;rw[lS,al d ao,bn];exact aF d ao
       unfold mI at ak;simp only[mq,nb]at ak;omega
      ·unfold mI at ak;simp only[mq,nb]at ak;omega
def Kl:∀ {ae:List aH} {n:aH},n∈ae->n.kids.Sublist (lY ae)
 |d::ae,n,h=>by
  unfold lY;rw[qJ];rcases cU.1 h with rfl | h;·exact List.sublist_append_left _ _
  ·exact(Kl h).trans (jA _ _)
def gB:ko:=⟨λ_ _=>RM,[],0⟩
def ld.s7{kn:Nat->Nat->cu}{k:Nat}{a:Nat}{l bY:List (Nat×Nat)}(h:ld kn base k hi t a l)(aP:ld kn base k hi t a bY):l=bY:=by
 induction h generalizing bY with
 |stop U=>
  cases aP with
  |stop=>rfl| fail aa=>exact absurd U aa| more _ aa=>exact absurd U aa
 |fail U aa=>
  cases aP with
  |stop ak=>exact absurd ak U| fail=>rfl| more _ ak aL=>rw[aa]at aL;cases aL
 |more _ U aa r aX=>
  cases aP with
  |stop ak=>exact absurd ak U| fail ak aL=>rw[aa]at aL;cases aL| more _ ak aL kM=>rw[aX kM]
def pW.s7{P:fq}{kn:Nat->Nat->cu}{k a:Nat}{l bY:List (Nat×Nat)}(h:pW P kn k a l)(aP:pW P kn k a bY):l=bY:=by
 unfold pW at h aP;by_cases bT:(P.at_ k).d.k=6
 ·rw[ck bT]at h aP;exact h.s7 aP
 ·rw[cd bT]at h aP;by_cases be:(P.at_ k).d.k=5
  ·rw[ck be]at h aP;exact h.2.trans aP.2.symm
  ·rw[cd be]at h aP;exact h.2.trans aP.2.symm
def hP.s7{P:fq}{kn:Nat->Nat->cu}{n:Nat}{l bY:List ir}(h:hP P kn n L l)(aP:hP P kn m L bY):l=bY:=by
 induction h generalizing m bY with
 |nil=>cases aP;rfl
 |zero ak aD r aX=>
  cases aP with
  |zero iL hE kM=>exact aX kM| node iL hE=>exact absurd aD hE
 |node ak aD aK r aX=>
  cases aP with
  |zero iL hE=>exact absurd hE aD| node iL hE zQ kM=>cases aK.s7 zQ;rw[aX kM]
structure Ai where
 ok:Bool
 de:Nat
 R9:List ir
inductive Km where
 |err(e:Int)| ok (o:Ai) (used:Nat)
inductive ri(P:fq)(root at_ ca:Nat):Km->Prop
 |err{e:Nat}(h:uP P ca (.begin root at_) gB=.err e):ri P root at_ ca (.err (RW e))| fail {c:cu} {S:ko} (h:uP P ca (.begin root at_) gB=.ok c S) (aa:c.a3=2):ri P root at_ ca (.ok ⟨false,0,[]⟩ S.used)| many {c:cu} {S:ko} (h:uP P ca (.begin root at_) gB=.ok c S) (ak:c.a3=3) (aF:65536<c.n):ri P root at_ ca (.err 40)| Aj {c:cu} {S:ko} (h:uP P ca (.begin root at_) gB=.ok c S) (ak:c.a3=3) (aF:c.n<=65536) (az:ca<S.used+c.n):ri P root at_ ca (.err 44)| ok {c:cu} {S:ko} {n:Nat} {l:List ir} (h:uP P ca (.begin root at_) gB=.ok c S) (ak:c.a3=3) (aF:c.n<=65536) (az:S.used+c.n<=ca) (aw:hP P S.kn n [(root,at_)] l) (au:l.length=c.n):ri P root at_ ca (.ok ⟨true,c.de,l⟩ (S.used+c.n))
def ri.s7{P:fq}{root at_ ca:Nat}{r kM:Km}(h:ri P root at_ ca r)(aP:ri P root at_ ca kM):r=kM:=by
 cases h with
 |err U=>
  cases aP with
  |err aa=>rw[U]at aa;cases aa;rfl| _ aa=>rw[U]at aa;cases aa
 |fail U cm=>
  cases aP with
  |err aa=>rw[U]at aa;cases aa| fail aa=>rw[U]at aa;cases aa;rfl| _ aa dZ=>rw[U]at aa;cases aa;rw[cm]at dZ;cases dZ
 |many U cn uy=>
  cases aP with
  |err aa=>rw[U]at aa;cases aa| fail aa bU=>rw[U]at aa;cases aa;rw[cn]at bU;cases bU| many=>rfl| Aj aa dZ uW=>rw[U]at aa;cases aa;omega| ok aa dZ uW=>rw[U]at aa;cases aa;omega
 |Aj U cn uy DV=>
  cases aP with
  |err aa=>rw[U]at aa;cases aa| fail aa bU=>rw[U]at aa;cases aa;rw[cn]at bU;cases bU| many aa dZ uW=>rw[U]at aa;cases aa;omega| Aj=>rfl| ok aa dZ uW Ak=>rw[U]at aa;cases aa;omega
 |ok U cn uy DV R' fB=>
  cases aP with
  |err aa=>rw[U]at aa;cases aa| fail aa bU=>rw[U]at aa;cases aa;rw[cn]at bU;cases bU| many aa dZ uW=>rw[U]at aa;cases aa;omega| Aj aa dZ uW Ak=>rw[U]at aa;cases aa;omega| ok aa dZ uW Ak Sa XX=>rw[U]at aa;cases aa;rw[R'.s7 Sa]
def Sb{d:aH}{n:Int}(h:fits d n=true)(aD:0<=d.k):d.t.size<=255:=by
 unfold fits at h;have z:(⟨#[]⟩:ByteArray).size=0:=rfl;cases U:decide (10<=d.k)with
 |true=>rw[U]at h;cases h
 |false=>
  rw[U,bj]at h;cases aa:decide (n<uf d.k.toNat)||(decide (0<=om d.k.toNat)&&decide (om d.k.toNat<n))with
  |true=>rw[aa]at h;cases h
  |false=>
   rw[aa,bj]at h;cases ak:decide (d.k=1)with
   |true=>rw[ak,bn]at h;simp only[bs,e3]at h;rw[h.1,z];omega
   |false=>
    rw[ak,bj]at h;cases aL:decide (d.k=2)with
    |true=>rw[aL,bn]at h;simp only[bs,ln,mq,nb]at h;omega
    |false=>
     rw[aL,bj]at h;cases be:decide (d.k=3)||decide (d.k=9)with
     |true=>rw[be,bn]at h;simp only[hH,bs,e3]at h;omega
     |false=>
      rw[be,bj]at h;cases bT:decide (d.k=6)with
      |true=>rw[bT,bn]at h;simp only[bs,e3]at h;rw[h.2.2,z];omega| false=>rw[bT,bj]at h;simp only[bs,e3]at h;rw[h.2.1,z];omega
def dc(ds:List aT):List aH:=ds.flatMap λd=>d.t.ae
def rj(ds:List aT):km ds=(dc ds).map λn=>[n.val]:=by unfold km dc;rw[List.map_flatMap]
def gu(n:aH):Nat:=1+(bif decide (n.k=2)then n.t.size else bif decide (n.k=6)then(n.lo+max n.hi 0).toNat else 0)
def gC(B:Nat)(n:aH):Nat:=(bif decide (n.k=3)then 1 else bif decide (n.k=6)then B+2+n.hi.toNat else n.kn)+1
def cw(f:aH->Nat)(l:List aH):Nat:=(l.map f).sum
def Kn{f:aH->Nat}{l:List aH}{k:Nat}(aj:k<l.length):cw f (l.take (k+1))=cw f (l.take k)+f l[k]:=by unfold cw;rw[l7 aj,kC,CM];simp
structure uX(n:aH):Prop where
 lo:n.k=6->0<=n.lo/\n.lo<=99/\-1<=n.hi/\n.hi<=99
 kn:n.kn<=1024
 t:n.t.size<=255
def xG(b:Nat)(n:Nat):aC:=⟨b,.cells #[.int .i64 ((n:Nat):Int)] 3 (0,0)⟩
def oN{b n:Nat}(h:xG b n∈M):cx I M ⟨b,0,none⟩ 1 [.int .i64 ((n:Nat):Int)]:=
 ⟨rfl,_,_,_,.inr ⟨_,h,rfl,rfl⟩,rfl,rfl⟩
def Sc(aw:g.ok I)(aF:∀ n∈dc g.ds,uX n):Spec Tryz.prog 50 [g.val] I [] λv I' M'=>v=.int .i64 ((bb (cw gu (dc g.ds)):Nat):Int)/\(∀ b o,I b=some o->I' b=some o)/\M'=[]:=by
 refine cB [3] a8 Tryz.func50 rfl rfl rfl ?_;intro B aD;refine eA.mk λdZ XY XZ=>?_;refine df.mk [] [] _ _ rfl rfl (bk rfl) rfl ?_;refine aY.whole _ (J4 (M0:=[xG dZ 0]) g) ?_;rintro v ct M1 -⟨bC,rfl,xk,ch,rfl⟩;have gp:=aw.mono ch;refine dt.range a8 rfl rfl rfl .refl (J5 gp xk) (λvs h=>?_) (λk I' M'=>(∀ b o,ct b=some o->I' b=some o)/\M'=[xG dZ (bb (cw gu ((dc g.ds).take k)))]) (λex I' M'=>False) ⟨λ_ _ h=>h,rfl⟩ ?_ ?_ (λex I' M' _ h=>h.elim)
 ·rw[rj]at h;obtain⟨p,_,rfl⟩:=dw.1 h;rfl
 ·rintro k aj I' M' -⟨fY,rfl⟩l B aD hE;have dI:k<(dc g.ds).length:=by simpa[rj]using aj
  have jk:=aF _ (et dI);have pZ:=Kn (f:=gu) dI;have af:(km g.ds)[k]=[(dc g.ds)[k].val]:=by simp only[rj,sk]
  rw[af];generalize(dc g.ds)[k]=d at jk pZ;generalize cw gu ((dc g.ds).take k)=S at pZ;have s1:=hO S;have s2:=hO (bb S+1);have aq:=jk.t;refine ba.mk _ (oN (.head _)) ?_;refine aY.whole _ (jP (bb S) 1 (by omega) (by omega)) ?_;rintro v du cQ -⟨rfl,rfl,rfl⟩;refine df.mk [] [] _ _ rfl rfl (bk rfl) rfl ?_;refine a1.mk (λaa=>?_) (λaa=>?_)
  ·have ia:decide (d.k=2)=true:=aa;have hw:gu d=1+d.t.size:=by rw[gu,ia,bn]
   refine ba.mk _ (oN (n:=bb (bb S+1)) (.head _)) ?_;refine aY.whole _ (jP (bb (bb S+1)) d.t.size (by omega) (by omega)) ?_;rintro v du cQ -⟨rfl,rfl,rfl⟩;refine df.mk [] [] _ _ rfl rfl (bk rfl) rfl ?_;refine⟨_,_,.refl,fY,?_⟩;have e:bb (bb (bb S+1)+d.t.size)=bb (cw gu ((dc g.ds).take (k+1))):=by rw[pZ,hw,mM S 1,mM,kD]
   rw[<-e];rfl
  ·have ia:decide (d.k=2)=false:=aa;refine a1.mk (λbT=>?_) (λbT=>?_)
   ·have p0:decide (d.k=6)=true:=bT;obtain⟨mj,s6,aD,U⟩:=jk.lo (hX p0);have hw:gu d=1+(d.lo+max d.hi 0).toNat:=by rw[gu,ia,bj,p0,bn]
    obtain⟨q,aR⟩:∃ q:Nat,d.lo+max d.hi 0=q:=⟨(d.lo+max d.hi 0).toNat,by omega⟩;rw[aR]at hw;refine ba.mk _ (oN (n:=bb (bb S+1)) (.head _)) ?_;refine bp.mk (q:Int) (gS aR (by omega)) ?_;refine aY.whole _ (jP (bb (bb S+1)) q (by omega) (by omega)) ?_;rintro v du cQ -⟨rfl,rfl,rfl⟩;refine df.mk [] [] _ _ rfl rfl (bk rfl) rfl ?_;refine⟨_,_,.refl,fY,?_⟩;have e:bb (bb (bb S+1)+q)=bb (cw gu ((dc g.ds).take (k+1))):=by rw[pZ,hw,mM S 1,mM,kD,ll]
    rw[<-e];rfl
   ·have p0:decide (d.k=6)=false:=bT;have hw:gu d=1:=by rw[gu,ia,bj,p0,bj]
    refine⟨_,_,.refl,fY,?_⟩;have e:bb (bb S+1)=bb (cw gu ((dc g.ds).take (k+1))):=by rw[pZ,hw,mM]
    rw[<-e];rfl
 ·rintro I' M' -⟨fY,rfl⟩;refine ba.mk _ (oN (.head _)) ?_;refine⟨_,_,.sub (fa _) .refl,?_,λb o h=>fY _ _ (ch _ _ h),rfl⟩;rw[kU (by simp[rj])];rfl
def Ko:∀ {l:List Nat} {x:Nat},x∈l->x<=l.sum
 |y::l,x,h=>by
  rw[jB];rcases cU.1 h with e | h;·omega
  ·have:=Ko h;omega
def oM.DW(aw:g.ok I)(hm:oM g):∀ n∈dc g.ds,uX n:=λn aF=>by
 obtain⟨d,ao,bI⟩:=uL.1 aF;have al:=hm.r d ao;have ar:=(aw.ds d ao).t.ae _ bI;obtain⟨j,ap,e⟩:=w3 bI;have az:=al.fits j ap;have ui:=al.kids j ap;rw[e]at az ui;have X0:=hm.R8;have dI:n.kids.length<=j:=DT j _ (al.diff.sublist (Kl bI)) ui;have hlen:d.t.ae.length<=Ah g.ds:=by have ab:d.t.ae.length∈g.ds.map λd=>d.t.ae.length:=dw.2 ⟨d,ao,rfl⟩;exact Ko ab
 refine⟨λbT=>?_,?_,Sb az ar.k.1⟩
 ·have h:=az;unfold fits at h;rw[bT]at h;have ax:decide ((10:Int)<=6)=false:=rfl;rw[ax,bj]at h;cases aa:decide ((n.kids.length:Int)<uf (6:Int).toNat)||(decide (0<=om (6:Int).toNat)&&decide (om (6:Int).toNat<(n.kids.length:Int)))with
  |true=>rw[aa]at h;cases h| false=>rw[aa,bj,show decide ((6:Int)=1)=false from rfl,bj,show decide ((6:Int)=2)=false from rfl,bj,show(decide ((6:Int)=3)||decide ((6:Int)=9))=false from rfl,bj,show decide ((6:Int)=6)=true from rfl,bn]at h;simp only[bs,ln,mq,nb,Bool.and_eq_false_iff]at h;obtain⟨⟨eL,eV,fW⟩,-⟩:=h;omega
 ·have:=ar.aV.len;simp at this;omega
def Sd(bJ:fH I deb)(aw:g.ok I):Spec Tryz.prog 15 [g.val] I [] λv I' M'=>(∀ b o,I b=some o->I' b=some o)/\M'=[]/\v=.tuple #[.int .i64 (bif decide (dB deb g=0)then((bb (cw gu (dc g.ds)):Nat):Int)else 0),.int .i64 (dB deb g)]:=by
 refine cB [] a8 Tryz.func15 rfl rfl rfl ?_;intro B aD;refine aY.whole _ (Ja bJ aw) ?_;rintro v DX N -⟨rfl,mN,rfl⟩;refine a1.mk (λh=>?_) (λh=>?_)
 ·have aP:(!decide (dB deb g=0))=true:=h;have e:decide (dB deb g=0)=false:=by simpa using aP
  refine⟨_,_,.refl,mN,rfl,?_⟩;rw[e];rfl
 ·have aP:(!decide (dB deb g=0))=false:=h;have e:dB deb g=0:=by simpa using aP
  have xH:∀ d∈g.ds,d.t.ae.length=d.t.n:=λd ao=>(aw.ds d ao).t.n;have hm:=DU e xH;refine aY.whole _ (Sc (aw.mono mN) (hm.DW aw)) ?_;rintro v Se N -⟨rfl,Al,rfl⟩;refine⟨_,_,.refl,λb o h=>Al _ _ (mN _ _ h),rfl,?_⟩;rw[e];rfl
def Sf(a b:Nat){x:Int}(ab:x=b)(aN:a<=9223372036854775807)(ag:b<=9223372036854775807):Spec Tryz.prog 47 [.int .i64 a,.int .i64 x,.int .i64 1099511627776] I M0 λv I' M'=>v=.int .i64 (bb (a+b):Nat)/\I'=I/\M'=M0:=by subst ab;exact jP a b aN ag
def jl(ds:List aT)(B C:Nat):Nat:=bb (cw (gC B) (dc ds)*(B+1)+C)
def mO(ds:List aT)(b c:Int):Int:=bif decide (b<0)||decide (c<0)then 0 else((jl ds b.toNat c.toNat:Nat):Int)
def Sg(bJ:fH I deb)(aw:g.ok I){b c:Int}(ag:fG b)(aB:fG c):Spec Tryz.prog 16 [g.val,.int .i64 b,.int .i64 c] I [] λv I' M'=>(∀ b o,I b=some o->I' b=some o)/\M'=[]/\v=.tuple #[.int .i64 (bif decide (dB deb g=0)then mO g.ds b c else 0),.int .i64 (dB deb g)]:=by
 refine cB [4,9] a8 Tryz.func16 rfl rfl rfl ?_;intro B aD;refine eA.mk λjj X1 X2=>?_;refine aY.mk [] [⟨jj,.cells #[.int .i64 b] 3 (0,0)⟩] _ (.refl _) (Ja bJ aw) ?_;rintro v DX N hle⟨rfl,mN,rfl⟩;have cj:∀ {I':aG} {M:List aC},cx I' ((⟨jj,.cells #[.int .i64 b] 3 (0,0)⟩:aC)::M) ⟨jj,0,none⟩ 1 [.int .i64 b]:=⟨rfl,_,_,_,.inr ⟨_,.head _,rfl,rfl⟩,rfl,rfl⟩;refine a1.mk (λh=>?_) (λh=>?_)
 ·have aP:(!decide (dB deb g=0))=true:=h;have e:decide (dB deb g=0)=false:=by simpa using aP
  refine⟨_,_,.sub (fa _) .refl,mN,rfl,?_⟩;rw[e];rfl
 have aP:(!decide (dB deb g=0))=false:=h;have e:dB deb g=0:=by simpa using aP
 have xH:∀ d∈g.ds,d.t.ae.length=d.t.n:=λd ao=>(aw.ds d ao).t.n;have hm:=DU e xH;have aF:=hm.DW aw;rw[e,dP (rfl:(0:Int)=0),bn];refine ba.mk _ cj ?_;refine b9.mk (λU=>?_) (λU=>?_)
 rotate_left
 ·refine⟨_,_,.sub (fa _) .refl,mN,rfl,?_⟩;rw[mO,show decide (b<0)=true from U];rfl
 refine a1.mk (λaa=>?_) (λaa=>?_)
 ·refine⟨_,_,.sub (fa _) .refl,mN,rfl,?_⟩;rw[mO,show decide (c<0)=true from aa,oH];rfl
 have jE:¬ b<0:=kc U;have kj:¬ c<0:=kc aa;have Sh:mO g.ds b c=((jl g.ds b.toNat c.toNat:Nat):Int):=by rw[mO,ef jE,ef kj];rfl
 rw[Sh];obtain⟨b,rfl⟩:∃ n:Nat,b=n:=⟨b.toNat,by omega⟩;obtain⟨c,rfl⟩:∃ n:Nat,c=n:=⟨c.toNat,by omega⟩;obtain⟨-,kK⟩:=ag;obtain⟨-,sZ⟩:=aB;refine eA.mk λiJ C0 C1=>?_;refine df.mk [] _ _ _ rfl rfl (bk rfl) rfl ?_;refine aY.whole _ (J4 g) ?_;rintro v ct M1 -⟨bC,rfl,xk,ch,rfl⟩;have gp:=aw.mono mN |>.mono ch
 have X3:∀ {I':aG} {M:List aC} {n:Nat} {x:aC},cx I' (x::xG iJ n::M) ⟨iJ,0,none⟩ 1 [.int .i64 ((n:Nat):Int)]:=oN (.tail _ (.head _));have Kp:∀ {I':aG} {M:List aC} {x:aC},cx I' (x::(⟨jj,.cells #[.int .i64 b] 3 (0,0)⟩:aC)::M) ⟨jj,0,none⟩ 1 [.int .i64 b]:=⟨rfl,_,_,_,.inr ⟨_,.tail _ (.head _),rfl,rfl⟩,rfl,rfl⟩;refine dt.range a8 rfl rfl rfl .refl (J5 gp xk) (λvs h=>?_) (λk I' M'=>(∀ b o,ct b=some o->I' b=some o)/\M'=[xG iJ (bb (cw (gC b) ((dc g.ds).take k))),⟨jj,.cells #[.int .i64 b] 3 (0,0)⟩]) (λex I' M'=>False) ⟨λ_ _ h=>h,rfl⟩ ?_ ?_ (λex I' M' _ h=>h.elim)
 ·rw[rj]at h;obtain⟨p,_,rfl⟩:=dw.1 h;rfl
 ·rintro k aj I' M' -⟨fY,rfl⟩l B aD hE;have dI:k<(dc g.ds).length:=by simpa[rj]using aj
  have jk:=aF _ (et dI);have pZ:=Kn (f:=gC b) dI;have af:(km g.ds)[k]=[(dc g.ds)[k].val]:=by simp only[rj,sk]
  rw[af];generalize(dc g.ds)[k]=d at jk pZ;generalize cw (gC b) ((dc g.ds).take k)=S at pZ;have s1:=hO S;have gJ:=jk.kn;have fin:∀ q:Nat,bb (q+1)=bb (gC b d)->bb (bb S+bb (q+1))=bb (cw (gC b) ((dc g.ds).take (k+1))):=λq aR=>by rw[pZ,aR,RI,mM]
  refine a1.mk (λak=>?_) (λak=>?_);·have iL:decide (d.k=3)=true:=ak;have hw:=fin 1 (by rw[gC,iL,bn]);have gx:=hO (1+1);refine dt.draw a8 rfl rfl rfl ?_;refine ba.mk _ (oN (.head _)) ?_;refine iX.mk _ (jP 1 1 (by omega) (by omega)) ?_;rintro v du cQ -⟨rfl,rfl,rfl⟩;refine aY.whole _ (jP (bb S) (bb (1+1)) (by omega) (by omega)) ?_;rintro v du cQ -⟨rfl,rfl,rfl⟩;refine df.mk [] [_] _ _ rfl rfl (bk rfl) rfl ?_;refine⟨_,_,.refl,fY,?_⟩;rw[<-hw];rfl
  ·have iL:decide (d.k=3)=false:=ak;refine a1.mk (λbT=>?_) (λbT=>?_)
   ·have p0:decide (d.k=6)=true:=bT;obtain⟨mj,s6,aD,U⟩:=jk.lo (hX p0);obtain⟨q,aR⟩:∃ q:Nat,max d.hi 0=q:=⟨(max d.hi 0).toNat,by omega⟩;have hw:=fin (bb (bb (b+2)+q)) (by rw[gC,iL,bj,p0,bn,mM (b+2),mM,show d.hi.toNat=q by omega]);have s2:=hO (b+2);have gx:=hO (bb (b+2)+q);have RJ:=hO (bb (bb (b+2)+q)+1);refine dt.draw a8 rfl rfl rfl ?_;refine ba.mk _ Kp ?_;refine iX.mk _ (jP b 2 (by omega) (by omega)) ?_;rintro v du cQ -⟨rfl,rfl,rfl⟩;refine aY.whole _ (Sf (bb (b+2)) q aR (by omega) (by omega)) ?_;rintro v du cQ -⟨rfl,rfl,rfl⟩;refine dt.draw a8 rfl rfl rfl ?_;refine ba.mk _ (oN (.head _)) ?_;refine iX.mk _ (jP (bb (bb (b+2)+q)) 1 (by omega) (by omega)) ?_;rintro v du cQ -⟨rfl,rfl,rfl⟩;refine aY.whole _ (jP (bb S) (bb (bb (bb (b+2)+q)+1)) (by omega) (by omega)) ?_;rintro v du cQ -⟨rfl,rfl,rfl⟩;refine df.mk [] [_] _ _ rfl rfl (bk rfl) rfl ?_;refine⟨_,_,.refl,fY,?_⟩;rw[<-hw];rfl
   ·have p0:decide (d.k=6)=false:=bT;have hw:=fin d.kn (by rw[gC,iL,bj,p0,bj]);have gx:=hO (d.kn+1);refine dt.draw a8 rfl rfl rfl ?_;refine ba.mk _ (oN (.head _)) ?_;refine iX.mk _ (jP d.kn 1 (by omega) (by omega)) ?_;rintro v du cQ -⟨rfl,rfl,rfl⟩;refine aY.whole _ (jP (bb S) (bb (d.kn+1)) (by omega) (by omega)) ?_;rintro v du cQ -⟨rfl,rfl,rfl⟩;refine df.mk [] [_] _ _ rfl rfl (bk rfl) rfl ?_;refine⟨_,_,.refl,fY,?_⟩;rw[<-hw];rfl
 ·rintro I' M' -⟨fY,rfl⟩;have ax:(dc g.ds).take (km g.ds).length=dc g.ds:=kU (by simp[rj]);rw[ax];generalize lz:cw (gC b) (dc g.ds)=S;have s1:=hO S;have s2:=hO (b+1);have gx:=hO (bb S*bb (b+1));refine dt.draw a8 rfl rfl rfl ?_;refine ba.mk _ (oN (.head _)) ?_;refine ba.mk _ Kp ?_;refine iX.mk _ (jP b 1 (by omega) (by omega)) ?_;rintro v du cQ -⟨rfl,rfl,rfl⟩;refine aY.whole _ (DL (bb S) (bb (b+1)) (by omega) (by omega)) ?_;rintro v du cQ -⟨rfl,rfl,rfl⟩;refine df.mk [] [_] _ _ rfl rfl (bk rfl) rfl ?_;refine ba.mk _ (oN (n:=bb (bb S*bb (b+1))) (.head _)) ?_;refine aY.whole _ (jP (bb (bb S*bb (b+1))) c (by omega) (by omega)) ?_;rintro v du cQ -⟨rfl,rfl,rfl⟩;refine⟨_,_,.sub (fa _) .refl,λb o h=>fY _ _ (ch _ _ (mN _ _ h)),rfl,?_⟩;have e:bb (bb (bb S*bb (b+1))+c)=jl g.ds b c:=by rw[Ac,DK,mM];unfold jl;rw[lz]
  rw[e];rfl
def xI{f h:aH->Nat}:∀ {l:List aH},(∀ n∈l,f n<=h n)->cw f l<=cw h l
 |[],_=>cK _| n::l,au=>by have U:=au n (.head _);have aa:=xI (l:=l) λx ab=>au x (.tail _ ab);unfold cw at aa |-;simp only[cC,jB];omega
def Kq(f:aH->Nat)(l bY:List aH):cw f (l++bY)=cw f l+cw f bY:=by unfold cw;rw[kC,CM]
def DY(f h:aH->Nat):∀ l:List aH,cw (λn=>f n+h n) l=cw f l+cw h l
 |[]=>rfl| n::l=>by have:=DY f h l;unfold cw at this |-;simp only[cC,jB];omega
def Kr(f:aH->Nat)(c:Nat):∀ l:List aH,cw (λn=>f n*c) l=cw f l*c
 |[]=>by simp[cw]
 |n::l=>by have:=Kr f c l;unfold cw at this |-;simp only[cC,jB];rw[this,h9]
def DZ:∀ l:List aH,cw (λ_=>1) l=l.length
 |[]=>rfl| n::l=>by have:=DZ l;unfold cw at this |-;simp only[cC,jB,c8];omega
def Si{f:aH->Nat}{l bY:List aH}(h:l.Sublist bY):cw f l<=cw f bY:=by
 induction h with
 |slnil=>exact cK _| cons a _ aX=>unfold cw at aX |-;simp only[cC,jB];omega| cons_cons a _ aX=>unfold cw at aX |-;simp only[cC,jB];omega
def Sj(d:aT)(ds:List aT):dc (d::ds)=d.t.ae++dc ds:=rfl
def Sk(h:B<=uO)(n:aH):gC B n<=gC uO n:=by
 unfold gC;cases decide (n.k=3)with
 |true=>exact cK _
 |false=>
  cases decide (n.k=6)with
  |true=>simp only[bn,bj];omega| false=>exact cK _
def Sl(h:B<=uO)(l:List aH):cw (gC B) l<=cw (gC uO) l:=xI λn _=>Sk h n
def Sm(B:Nat)(l:List aH):l.length<=cw (gC B) l:=by rw[<-DZ l];exact xI λn _=>by unfold gC;omega
def Sn(h:B<=uO):jl ds B C<=jl ds uO C:=by refine Ab (DG ?_ _);exact z' (Sl h _) (by omega)
def D1{n:Nat}(h:1099511627776<=n):bb n=1099511627776:=by unfold bb;omega
def So{b:Nat}:jl ds b C<=jl ds (min b 1099511627776+d) C:=by
 by_cases ag:b<=1099511627776
 ·rw[qi ag];exact Sn (by omega)
 ·rw[DJ (by omega)];cases au:dc ds with
  |nil=>unfold jl;rw[au];simp[cw]
  |cons n l=>
   have U:=Sm (1099511627776+d) (dc ds);rw[au,c8]at U;have aa:1*(1099511627776+d+1)<=cw (gC (1099511627776+d)) (n::l)*(1099511627776+d+1):=jX _ (by omega);have e:jl ds (1099511627776+d) C=1099511627776:=by unfold jl;rw[au];exact D1 (by omega)
   rw[e];exact hO _
def D2{w w' b ff c c':Nat}(U:w<=w')(aa:b<=ff)(ak:c<=c'):iq w b c<=iq w' ff c':=by refine Ab (Nat.add_le_add ?_ ak);exact z' (z' U (by omega)) (by omega)
def Sp{w b c:Nat}:iq w b c<=iq w (min b 1099511627776+d) c:=by
 by_cases ag:b<=1099511627776
 ·rw[qi ag];exact D2 (cK _) (by omega) (cK _)
 ·rw[DJ (by omega)];cases w with
  |zero=>unfold iq;simp| succ w=>have U:1*(1099511627776+d+1)<=(w+1)*(1099511627776+d+1):=jX _ (by omega);have aa:(w+1)*(1099511627776+d+1)*1<=(w+1)*(1099511627776+d+1)*(1099511627776+d+4):=DH _ (by omega);have e:iq (w+1) (1099511627776+d) c=1099511627776:=D1 (by omega);rw[e];exact hO _
def Sq{w b c:Nat}:iq w b c<=iq w b (min c 1099511627776+d):=by
 by_cases ag:c<=1099511627776
 ·rw[qi ag];exact D2 (cK _) (cK _) (by omega)
 ·rw[DJ (by omega)];have e:iq w b (1099511627776+d)=1099511627776:=D1 (by omega);rw[e];exact hO _
def uY(B:Nat)(n:aH):Nat:=3+bif decide (n.k=6)then B+n.hi.toNat else 0
def Sr(B:Nat)(n:aH):gC B n<=n.kn+uY B n:=by
 unfold gC uY;cases ak:decide (n.k=3)with
 |true=>have:decide (n.k=6)=false:=ef (by have:=hX ak;omega);rw[this];simp only[bn,bj];omega
 |false=>
  cases decide (n.k=6)with
  |true=>simp only[bn,bj];omega| false=>simp only[bj];omega
def Ss{n:aH}(h:uX n):1+uY B n<=gu n*(B+4):=by
 unfold uY gu;cases bT:decide (n.k=6)with
 |true=>
  obtain⟨eL,eV,fW,g4⟩:=h.lo (hX bT);have:decide (n.k=2)=false:=ef (by have:=hX bT;omega);rw[this];simp only[bn,bj];obtain⟨u,hu⟩:∃ u,n.hi.toNat=u:=⟨_,rfl⟩;obtain⟨v,af⟩:∃ v,(n.lo+max n.hi 0).toNat=v:=⟨_,rfl⟩;rw[hu,af];have D3:u<=v:=by omega
  have U:u*4<=v*(B+4):=z' D3 (by omega);have aa:(1+v)*(B+4)=(B+4)+v*(B+4):=by rw[h9,sp]
  rw[aa];omega
 |false=>simp only[bj];have U:1*(B+4)<=(1+bif decide (n.k=2)then n.t.size else 0)*(B+4):=jX _ (by omega);omega
def St{t:cc}(al:pY t)(aj:∀ n∈t.ae,n.kids.length=n.kn):cw aH.kn t.ae<=t.ae.length:=by
 have U:(lY t.ae).length<=t.ae.length:=DT _ _ al.diff λk aj=>by obtain⟨n,aF,gJ⟩:=uL.1 aj;obtain⟨j,ap,e⟩:=w3 aF;subst e;have:=al.kids j ap k gJ;omega
 have aa:∀ l:List aH,(∀ n∈l,n.kids.length=n.kn)->(lY l).length=cw aH.kn l:=λl=>by
  induction l with
  |nil=>intro _;rfl| cons n l aX=>intro h;have:=aX λx ab=>h x (.tail _ ab);have ak:=h n (.head _);unfold lY cw at this |-;simp only[qJ,cP,cC,jB];omega
 rw[<-aa _ aj];exact U
def Ks{B:Nat}:∀ (ds:List aT),(∀ d∈ds,pY d.t/\∀ n∈d.t.ae,uX n/\n.kids.length=n.kn)->cw (gC B) (dc ds)<=cw gu (dc ds)*(B+4)
 |[],_=>by simp[dc,cw]
 |d::ds,h=>by have aX:=Ks (B:=B) ds λx ab=>h x (.tail _ ab);obtain⟨al,aF⟩:=h d (.head _);have U:=St al λn wv=>(aF n wv).2;have aa:cw (gC B) d.t.ae<=cw (λn=>n.kn+uY B n) d.t.ae:=xI λn _=>Sr B n;rw[DY]at aa;have ak:cw (λn=>1+uY B n) d.t.ae<=cw (λn=>gu n*(B+4)) d.t.ae:=xI λn wv=>Ss (aF n wv).1;rw[DY,DZ,Kr]at ak;rw[Sj,Kq,Kq,h9];omega
def Su(h:∀ d∈ds,pY d.t/\∀ n∈d.t.ae,uX n/\n.kids.length=n.kn):jl ds B C<=iq (bb (cw gu (dc ds))) B C:=by
 have U:=Ks (B:=B) ds h;have e:iq (bb (cw gu (dc ds))) B C=bb (cw gu (dc ds)*(B+1)*(B+4)+C):=by unfold iq;rw[Nat.mul_assoc,<-mM,Ac,mM,Nat.mul_assoc]
 rw[e];refine Ab (DG ?_ _);rw[Nat.mul_right_comm];exact jX _ U
def D4(ds:List aT):Prop:=∀ n∈dc ds,n.kids.length=n.kn
def Am(B:Nat)(n:aH):Nat:=(bif decide (n.k=3)then 1 else bif decide (n.k=6)then B+2+n.hi.toNat else n.kids.length)+1
def Kt{l:List aH}(h:∀ n∈l,n.kids.length=n.kn):cw (gC B) l=cw (Am B) l:=by
 unfold cw;congr 1;exact ua λn aF=>by unfold gC Am;rw[h n aF]
def Sv(ds:List aT):dc (ds.map aT.bi)=(dc ds).map aH.bi:=by unfold dc;rw[List.flatMap_map,List.map_flatMap];rfl
def Ku(B:Nat)(ds:List aT):cw (Am B) (dc (ds.map aT.bi))=cw (Am B) (dc ds):=by rw[Sv];unfold cw;rw[sJ];rfl
def Kv:∀ (ds:List aT) (u:Nat),(dc (ds.eraseIdx u)).Sublist (dc ds)
 |[],u=>List.Sublist.refl _| d::ds,0=>jA _ _| d::ds,u+1=>(Kv ds u).append_left _
def Sw{D5:List aT}{u:Nat}(h:D5.map aT.bi=(ds.eraseIdx u).map aT.bi)(aj:D4 ds)(oO:D4 D5):jl D5 B C<=jl ds B C:=by refine Ab (DG (jX _ ?_) _);rw[Kt oO,<-Ku,h,Ku,Kt aj];exact Si (Kv ds u)
def D6(x:Nat×Nat):List Value:=[.int .i64 x.1,.int .i64 x.2]
structure Kw(m:b4)(L parts:List (Nat×Nat))(rest:List (Nat×Nat))(de:Nat)(os:bh):Prop where
 lo:m.base<=de
 hi:de<=m.s.size
 ok:∃ rk,os.ok 2 ((L++rk).flatMap D6)/\rk++rest=parts
def Kw.next{m:b4}{parts p rest rk:List (Nat×Nat)}{D7:Nat}{rl:bh}(dx:m.base<=de)(aB:de<=D7/\D7<=m.s.size)(bm:rl.ok 2 (((L++rk)++p).flatMap D6))(eC:rk++(p++rest)=parts):Kw m L parts rest D7 rl:=
 ⟨by omega,aB.2,rk++p,by rw[<-hc];exact bm,by rw[hc];exact eC⟩
def ir.cells(c:ir):List Value:=[.string c.name,.int .i64 c.lo,.int .i64 c.hi]
def ir.da(c:ir):c.cells.length=3:=rfl
structure Kx(m:b4)(kn:Nat->Nat->cu)(x:Nat×Nat):Prop where
 k:x.1<m.ae.n
 lo:m.base<=x.2
 hi:x.2<=m.s.size
 a3:(kn x.1 (x.2-m.base)).a3=3
def D8(m:b4)(kn:Nat->Nat->cu)(x:Nat×Nat):Prop:=Kx m kn x/\(kn x.1 (x.2-m.base)).n≠0
section
variable{m:b4}{kn:Nat->Nat->cu}
def Sx(h:∀ k p,J' m.s5 (m.base+p) (kn k p)){q:Nat}(dx:m.base<=de)(ak:(kn q (de-m.base)).a3=3):m.base<=(kn q (de-m.base)).de/\(kn q (de-m.base)).de<=m.s.size:=by have:=(h q (de-m.base)).m ak;rw[Nat.add_sub_cancel' dx]at this;exact⟨by omega,this.2.1⟩
def ld.ok(h:∀ k p,J' m.s5 (m.base+p) (kn k p)){k:Nat}(aj:k<m.ae.n){a:Nat}{l:List (Nat×Nat)}(hw:ld kn m.base k hi t a l):m.base<=a->a<=m.s.size->∀ x∈l,D8 m kn x:=by
 induction hw with
 |stop=>exact λ_ _ x ab=>by cases ab
 |fail=>exact λ_ _ x ab=>by cases ab
 | @more t a l ag an ak r aX=>
  intro U aa x ab;have aF:=Sx h U ak;rcases c9.1 ab with ab | ab
  ·cases aD:Nat.beq (kn k (a-m.base)).n 0 with
   |true=>rw[aD]at ab;cases ab| false=>rw[aD,bj,ju]at ab;subst ab;exact⟨⟨aj,U,aa,ak⟩,λe=>by simp only at e;rw[e]at aD;cases aD⟩
  ·exact aX aF.1 aF.2 x ab
def Ky(aw:xE m.s5 kn):∀ (L:List (Nat×Nat)),(∀ x∈L,D8 m kn x)->∃ n l,hP m.s5 kn n L l/\L.length<=l.length
 |[],_=>⟨0,[],.nil,cK _⟩
 |(k,a)::L,h=>by
  obtain⟨n,l,U,aa⟩:=Ky aw L λx ab=>h x (.tail _ ab);obtain⟨⟨cH,cz,eZ,jd⟩,D9⟩:=h (k,a) (.head _);obtain⟨jR,bY,rm,oP,-⟩:=aw k (a-m.base) jd;have e:m.s5.base+(a-m.base)=a:=by show m.base+(a-m.base)=a;simp only at cz;omega
  rw[e]at rm;refine⟨jR+n,bY++l,rm.app U,?_⟩;have:0<bY.length:=by unfold rh at oP;simp only at D9;omega
  rw[cP,c8];omega
end
structure Kz(m:b4)(kn:Nat->Nat->cu)(l:List ir)(n:Nat)(L:List (Nat×Nat))(os D':bh):Prop where
 os:os.ok 2 (L.reverse.flatMap D6)
 c5:∀ x∈L,Kx m kn x
 Sy:L.length<=1\/∀ x∈L,D8 m kn x
 g:∃ s6 uZ,hP m.s5 kn n L uZ/\s6++uZ=l/\D'.ok 3 (s6.flatMap ir.cells)
def Kz.len{m:b4}{kn:Nat->Nat->cu}{l:List ir}{n:Nat}{D':bh}(h:Kz m kn l n L os D')(aw:xE m.s5 kn)(au:l.length<=65536):L.length<=65537:=by
 rcases h.Sy with U | U
 ·omega
 ·obtain⟨s6,uZ,aI,aQ,-⟩:=h.g;obtain⟨jR,bY,rm,oP⟩:=Ky aw L U;have e:=aI.s7 rm;subst e;have:=congrArg List.length aQ;rw[cP]at this;omega
def Sz(o:Ai)(v:Value):Value:=.agg #[.bool o.ok,.int .i64 o.de,v]
noncomputable section
inductive aO(α:Type) where
 |nil| node (x:Option α) (l r:aO α)
def bf{α:Type}(b:Bool)(x y:α):α:=@Bool.rec (λ_=>α) y x b
def bg{α R:Type}(o:Option α)(x:R)(f:α->R):R:=@Option.rec α (λ_=>R) x f o
section
variable{α R:Type}
def aO.get(t:aO α):Nat->Option α:=@aO.rec α (λ_=>Nat->Option α) (λ_=>none) (λx _ _ SA SB k=>bf (Nat.beq k 0) x (bf (Nat.beq (Nat.mod k 2) 1) (SA (Nat.div k 2)) (SB (Nat.sub (Nat.div k 2) 1)))) t
def aO.iu(v:Option α)(t:aO α):Nat->(aO α->R)->R:=@aO.rec α (λ_=>Nat->(aO α->R)->R) (λk K=>bf (Nat.beq k 0) (K (.node v .nil .nil)) (K .nil)) (λx l r sl SC k K=>bf (Nat.beq k 0) (K (.node v l r)) (bf (Nat.beq (Nat.mod k 2) 1) (sl (Nat.div k 2) λl=>K (.node x l r)) (SC (Nat.sub (Nat.div k 2) 1) λr=>K (.node x l r)))) t
def aO.u0(t:aO α)(off n:Nat):(List α->Option R)->Option R:=@Nat.rec (λ_=>Nat->(List α->Option R)->Option R) (λ_ K=>K []) (λ_ aX off K=>bg (t.get off) none λv=>aX (Nat.add off 1) λl=>K (v::l)) n off
def aO.p1(l:List α)(t:aO α)(off:Nat)(K:aO α->R):R:=@List.rec α (λ_=>aO α->Nat->R) (λt _=>K t) (λv _ aX t off=>t.iu (some v) off λt=>aX t (Nat.add off 1)) l t off
def aO.bare:Nat->aO α
 |0=>.nil| n+1=>.node none (aO.bare n) (aO.bare n)
end
inductive ai where
 |b(x:Bool) | i (k:IntKind) (n:Int) | s (l:List UInt8)| pn | p (id off:Nat) | g (n off:Nat)| sn | sl (id off n c:Nat) | sx (id off e n:Nat) | gs (g off n c:Nat) | so| mn | m (id:Nat)| f (g:Nat) (l r:List ai) | y (id:Nat) | fn| ni | u1 (t:Nat) (v:ai)| t (l:List ai) | a (l:List ai)
def ai.cells:ai->List ai
 | .a l=>l| v=>[v]
def ai.one:ai->Bool
 | .a _ | .t _=>false| _=>true
def xJ:Value->Option ai
 | .bool x=>some (.b x)| .int k n=>some (.i k n)| .string q=>some (.s q.data.toList)| .pointer none=>some .pn| .slice none 0 0=>some .sn| .map none=>some .mn| .nilFunc=>some .fn| .nilIface=>some .ni| _=>none
def p2:List Value->Option (List ai)
 |[]=>some []
 |v::vs=>match xJ v,p2 vs with
  |some x,some l=>some (x::l)| _,_=>none
def u2:Value->Option ai
 | .agg cs=>match p2 cs.toList with
  |some l=>some (.a l)| none=>none
 |v=>xJ v
def ai.nat:ai->Option Nat
 | .i _ (.ofNat n)=>some n| _=>none
inductive dm where
 |cells(cs:aO ai)(T c3:Nat)| map (es:List (ai×ai))| loop (busy:Bool) (n:Nat) (ah:aO ai) (ps:List Nat) (cV body:Code)| done (c:Code) (n:Nat) (ah:aO ai) (ps:List Nat) (cV body:Code)
structure aU where
 t:aO dm
 n:Nat
def oQ:Int->Int->Bool
 | .ofNat a,.ofNat b=>Nat.beq a b| .negSucc a,.negSucc b=>Nat.beq a b| _,_=>false
def s8:Int->Int->Bool
 | .ofNat a,.ofNat b=>Nat.ble a b| .negSucc a,.negSucc b=>Nat.ble b a| .negSucc _,.ofNat _=>true| .ofNat _,.negSucc _=>false
def tL(a b:Int):Bool:=!s8 b a
def Ea(op:BinOp)(x y:Int):Option Bool:=match op with
 | .eql=>some (oQ x y)| .neq=>some (!oQ x y)| .lss=>some (tL x y)| .leq=>some (s8 x y)| .gtr=>some (tL y x)| .geq=>some (s8 y x)| _=>none
def An:IntKind->Nat
 | .i8=>127 | .i16=>32767 | .i32=>2147483647 | .i64=>9223372036854775807| .u8=>255 | .u16=>65535 | .u32=>4294967295 | .u64=>18446744073709551615
def oR(k:IntKind):Int->Int
 | .ofNat n=>bif Nat.ble n (An k)then .ofNat n else k.wrap (.ofNat n)| n=>k.wrap n
def KA:Int->Int->Int
 | .ofNat a,.ofNat b=>.ofNat (Nat.add a b)| a,b=>a+b
def Eb:Int->Int->Int
 | .ofNat a,.ofNat b=>bif Nat.ble b a then .ofNat (Nat.sub a b)else(.ofNat a:Int) - .ofNat b| a,b=>a-b
def KB:Int->Int->Int
 | .ofNat a,.ofNat b=>.ofNat (Nat.mul a b)| a,b=>a*b
def KD:Int->Int->Int
 | .ofNat a,.ofNat b=>.ofNat (Nat.div a b)| a,b=>a.tdiv b
def KE:Int->Int->Int
 | .ofNat a,.ofNat b=>.ofNat (Nat.mod a b)| a,b=>a.tmod b
def KF:Int->Nat->Int
 | .ofNat a,j=>.ofNat (Nat.mul a (Nat.pow 2 j))| a,j=>a*2^j
def KG:Int->Nat->Int
 | .ofNat a,j=>.ofNat (Nat.div a (Nat.pow 2 j))| a,j=>a.fdiv (2^j)
def u3(op:BinOp)(k:IntKind)(x y:Int):Option Int:=
 match k,x,y with
 | .u64,.ofNat a,.ofNat b=>
  bif Nat.ble a 18446744073709551615&&Nat.ble b 18446744073709551615 then
   (match op with
   | .and=>some (.ofNat (Nat.land a b))| .or=>some (.ofNat (Nat.lor a b))| .xor=>some (.ofNat (Nat.xor a b))| .andNot=>some (.ofNat (Nat.land a (Nat.sub 18446744073709551615 b)))| _=>none)
  else none
 |_,_,_=>mY op k x y
def Ec(a b:UInt8):Bool:=Nat.beq a.toNat b.toNat
def nG:List UInt8->List UInt8->Bool
 |[],[]=>true| a::l,b::m=>bif Ec a b then nG l m else false| _,_=>false
def u4:ai->ai->Option Bool
 | .b x,.b w=>some (x == w)| .i k x,.i l w=>bf (IntKind.hy k l) (some (oQ x w)) none| .s x,.s w=>some (nG x w)| _,_=>none
def KH:List ai->List ai->Option Bool
 |[],[]=>some true
 |x::l,w::m=>match u4 x w with
  |some true=>KH l m
  |some false=>(match KH l m with
   |some _=>some false| none=>none)
  |none=>none
 |_,_=>none
def X4:ai->ai->Option Bool
 | .pn,.pn=>some true| .pn,.p _ _=>some false| .p _ _,.pn=>some false| .pn,.g _ _=>some false| .g _ _,.pn=>some false| _,_=>none
def Ed(op:BinOp)(k cG:IntKind)(a b:Int):Option ai:=match op with
 | .shl=>(match b with
  | .ofNat j=>some (.i k (oR k (KF a (bf (Nat.ble j k.bits) j k.bits))))| _=>none)
 | .shr=>(match b with
  | .ofNat j=>some (.i k (KG a (bf (Nat.ble j k.bits) j k.bits)))| _=>none)
 | .add=>bf (IntKind.hy k cG) (some (.i k (oR k (KA a b)))) none| .sub=>bf (IntKind.hy k cG) (some (.i k (oR k (Eb a b)))) none| .mul=>bf (IntKind.hy k cG) (some (.i k (oR k (KB a b)))) none| .quo=>bf (IntKind.hy k cG) (bf (oQ b 0) none (some (.i k (oR k (KD a b))))) none| .rem=>bf (IntKind.hy k cG) (bf (oQ b 0) none (some (.i k (KE a b)))) none| .and=>bf (IntKind.hy k cG) (bg (u3 .and k a b) none λr=>some (.i k r)) none| .or=>bf (IntKind.hy k cG) (bg (u3 .or k a b) none λr=>some (.i k r)) none| .xor=>bf (IntKind.hy k cG) (bg (u3 .xor k a b) none λr=>some (.i k r)) none| .andNot=>bf (IntKind.hy k cG) (bg (u3 .andNot k a b) none λr=>some (.i k r)) none| op=>bf (IntKind.hy k cG) (bg (Ea op a b) none λr=>some (.b r)) none
def Ee(op:BinOp)(a b:List UInt8):Option ai:=match op with
 | .eql=>some (.b (nG a b))| .neq=>some (.b (bf (nG a b) false true))| .add=>bf (Nat.ble (Nat.add a.length b.length) 9223372036854775807) (some (.s (a++b))) none| _=>none
def Ef(op:BinOp)(cA:Option cF)(a b:Bool):Option ai:=match cA with
 |some { bc:=.bool,.. }=>
  (match op with
  | .eql=>some (.b (a == b))| .neq=>some (.b (!(a == b)))| _=>none)
 |_=>none
def u5(agg:Bool)(l:List ai):Option ai:=bif agg then some (.a l)else match l with
 |[v]=>some v| _=>none
def s9:Nat->List ai->Option (List ai)
 |0,_=>some []| _+1,[]=>none
 |n+1,v::l=>match s9 n l with
  |some r=>some (v::r)| none=>none
def s'{α:Type}:List α->Nat->List α
 |[],_=>[]| v::l,n=>bif Nat.beq n 0 then v::l else s' l (Nat.sub n 1)
def u6(E:Env)(t o:Nat)(l:List ai):Option ai:=bg (E t) none λi=>bf (Nat.beq i.size 0) none <| bg (s9 i.size (s' l o)) none λr=>u5 i.bc.agg r
def xK(F:Nat->ai->ai->Option Bool)(E:Env)(l m:List ai):List (Nat×Nat)->Option Bool
 |[]=>some true|(t,o)::r=>bg (u6 E t o l) none λx=>bg (u6 E t o m) none λy=>bg (F t x y) none λb=>bf b (xK F E l m r) (some false)
def KI(P:Program)(t:Nat):Bool:=match P.underlying t with
 |some (.struct bB)=>!P.stoodInHeld t&&bB.toList.all λf=>decide (f.name ≠ "_")
 |_=>false
def xL(P:Program)(E:Env):Nat->Nat->ai->ai->Option Bool
 |0,_,_,_=>none
 |d+1,t,x,y=>bg (E t) none λi=>match i.bc,x,y with
  | .bool,.b a,.b b=>some (a == b)| .int _,.i k a,.i cG b=>bf (IntKind.hy k cG) (some (oQ a b)) none| .string,.s a,.s b=>some (nG a b)| .struct bB,.a l,.a m=>bf (KI P t) (xK (xL P E d) E l m bB) none| .array n e,.a l,.a m=>bg (E e) none λav=>xK (xL P E d) E l m ((List.range n).map λi=>(e,i*av.size))
  |_,_,_=>none
def Eg(P:Program)(E:Env)(op:BinOp)(t:Nat)(l m:List ai):Option ai:=bf (P.eqGuardType P.depth t) none (bg (xL P E 8 t (.a l) (.a m)) none λb=>match op with
 | .eql=>some (.b b)| .neq=>some (.b (!b))| _=>none)
def Eh:ai->Option Bool
 | .sn=>some true| .sl .. | .sx .. | .gs .. | .so=>some false| _=>none
def Ei:ai->Option Bool
 | .pn=>some true| .p .. | .g ..=>some false| _=>none
def Ao(op:BinOp)(b:Bool):Option ai:=match op with
 | .eql=>some (.b b)| .neq=>some (.b (!b))| _=>none
def Ej(P:Program)(E:Env)(op:BinOp)(t:Nat)(x y:ai):Option ai:=
 match x,y with
 | .i k a,.i cG b=>Ed op k cG a b| .s a,.s b=>Ee op a b| .b a,.b b=>Ef op (E t) a b| .a l,.a m=>Eg P E op t l m
 |x,.sn=>bg (E t) none λi=>(match i.bc with
  | .slice _=>bg (Eh x) none λb=>Ao op b
  |_=>none)
 |x,.pn=>bg (E t) none λi=>(match i.bc with
  | .pointer _=>bg (Ei x) none λb=>Ao op b
  |_=>none)
 |_,_=>none
def oS{α:Type}:List α->Nat->Option α
 |[],_=>none| v::l,n=>bif Nat.beq n 0 then some v else oS l (Nat.sub n 1)
def p3:List ai->Nat->List ai->Option (List ai)
 |cs,0,[]=>some cs
 |_::cs,0,v::vs=>match p3 cs 0 vs with
  |some r=>some (v::r)| none=>none
 |c::cs,n+1,vs=>match p3 cs n vs with
  |some r=>some (c::r)| none=>none
 |[],_,_=>none
def rn(place:Nat->Option (Nat×Nat)):List ai->List (Nat×ai)->Option (List ai)
 |cells,[]=>some cells
 |cells,(i,v)::rest=>match place i with
  |none=>none
  |some (off,size)=>bif Nat.beq v.cells.length size then(match p3 cells off v.cells with
   |some cs=>rn place cs rest| none=>none)else none
def bS(ah:aO ai):Operand->Option ai
 | .tmp t=>ah.get t| .const v=>u2 v| .global g=>some (.g g 0)| .func f=>some (.f f [] [])
def iN(ah:aO ai):List Operand->Option (List ai)
 |[]=>some []
 |x::xs=>match bS ah x,iN ah xs with
  |some v,some l=>some (v::l)| _,_=>none
def u7(ah:aO ai):List (Nat×Operand)->Option (List (Nat×ai))
 |[]=>some []
 |(i,x)::xs=>match bS ah x,u7 ah xs with
  |some v,some l=>some ((i,v)::l)| _,_=>none
abbrev GT:=Nat->Option (aO ai)
def oT{R:Type}(G:GT)(m:aO dm)(x:ai)(n:Nat)(K:List ai->Option R):Option R:=match x with
 | .p id off=>(match m.get id with
  |some (.cells cs _ c3)=>bif Nat.ble (Nat.add off n) c3 then cs.u0 off n K else none| _=>none)
 | .g g off=>(match G g with
  |some cs=>cs.u0 off n K| none=>none)
 |_=>none
def xM(x:ai)(n:Nat):Option ai:=match x with
 | .p id off=>some (.p id (Nat.add off n))| .g g off=>some (.g g (Nat.add off n))| _=>none
def Ap(x:ai)(j sz:Nat):Option ai:=match x with
 | .sl id off n _=>bif Nat.blt j n then some (.p id (Nat.add off (Nat.mul j sz)))else none| .sx id off _ n=>bif Nat.blt j n then some (.p id (Nat.add off (Nat.mul j sz)))else none| .gs g off n _=>bif Nat.blt j n then some (.g g (Nat.add off (Nat.mul j sz)))else none| _=>none
def oU:ai->Option Nat
 | .sn | .so=>some 0| .sl _ _ n _ | .sx _ _ _ n | .gs _ _ n _=>some n| _=>none
def lZ(v:ai):Option Nat:=match v with
 | .s l=>some l.length| v=>oU v
def Ek(x:ai)(sz l:Nat)(h:Option Nat):Option ai:=match x with
 | .sn=>bif Nat.beq l 0&&Nat.beq (h.getD 0) 0 then some .sn else none
 | .sl id off n c=>let h:=h.getD n
  bif Nat.ble l h&&Nat.ble h c then bif Nat.beq c l then some (.sl id off (Nat.sub h l) 0)else some (.sl id (Nat.add off (Nat.mul l sz)) (Nat.sub h l) (Nat.sub c l))else none
 | .sx id off e n=>let h:=h.getD n
  bif Nat.ble l h&&Nat.ble h n then(bif Nat.beq l 0||Nat.blt l n then some (.sx id (Nat.add off (Nat.mul l sz)) (Nat.add e l) (Nat.sub h l))else some .so)else none
 |_=>none
def ta(o:Option (Option ai)):Option (Option Nat):=match o with
 |none=>some none
 |some (some v)=>(match v.nat with
  |some n=>some (some n)| none=>none)
 |some none=>none
def El(l:List UInt8)(lo hi:Nat):List UInt8:=(s' l lo).take (Nat.sub hi lo)
def KJ(c a b:Option ai):Option ai:=match c,a,b with
 |some (.b c),some u,some v=>some (bf c u v)| _,_,_=>none
def KK(op:UnOp)(x:Option ai):Option ai:=match op,x with
 | .not,some (.b b)=>some (.b (bf b false true))| .neg,some (.i k n)=>some (.i k (oR k (0-n)))| _,_=>none
def KL(P:Program)(E:Env)(op:BinOp)(t:Nat)(x y:Option ai):Option ai:=bg x none λx=>bg y none λy=>Ej P E op t x y
def KM(G:GT)(m:aO dm)(i:Option cF)(x:Option ai):Option ai:=bg i none λi=>bg x none λx=>oT G m x i.size λl=>u5 i.bc.agg l
def KN(x:Option ai):Option ai:=match x with
 |some (.p id off)=>some (.p id off)| some (.g g off)=>some (.g g off)| _=>none
def Aq(E:Env)(t i:Nat):Option (Nat×cF):=match E t with
 |some { bc:=.struct bB,.. }=>(match oS bB i with
  |some (hx,off)=>(match E hx with
   |some eh=>some (off,eh)| none=>none)
  |none=>none)
 |_=>none
def KO(r:Option (Nat×cF))(x:Option ai):Option ai:=bg r none λr=>bg x none λx=>bf (Nat.beq r.2.size 0) none (xM x r.1)
def Ar(av:cF)(cs:List ai)(off:Nat):Option ai:=bf (Nat.beq av.size 0) none <| bg (s9 av.size (s' cs off)) none λl=>u5 av.bc.agg l
def KP(r:Option (Nat×cF))(x:Option ai):Option ai:=match r,x with
 |some (off,eh),some (.a cs)=>Ar eh cs off| _,_=>none
def Em(E:Env)(t:Nat):Option (Option Nat×cF):=match E t with
 |some { bc:=.slice e,.. }=>(match E e with
  |some av=>some (none,av)| none=>none)
 |some { bc:=.array n e,.. }=>(match E e with
  |some av=>some (some n,av)| none=>none)
 |_=>none
def KQ(r:Option (Option Nat×cF))(x i:Option ai):Option ai:=bg r none λr=>bg x none λx=>bg i none λi=>bg i.nat none λj=>
 bg r.1 (Ap x j r.2.size) λn=>bf (Nat.blt j n) (xM x (Nat.mul j r.2.size)) none
def En(l:List UInt8)(j:Nat):Option ai:=bg (oS l j) none λb=>some (.i .u8 (.ofNat b.toNat))
def KR(cs:List ai)(j n:Nat)(av:cF):Option ai:=bf (Nat.beq (Nat.mul n av.size) cs.length&&Nat.blt j n) (Ar av cs (Nat.mul j av.size)) none
def xN(E:Env)(t:Nat)(x i:Option ai):Option ai:=match E t,x,i with
 |some { bc:=.string,.. },some (.s l),some i=>bg i.nat none λj=>En l j
 |some { bc:=.array n e,.. },some (.a cs),some i=>bg (E e) none λav=>bg i.nat none λj=>KR cs j n av
 |_,_,_=>none
def xO(o:Option (List ai)):Option ai:=bg o none λl=>some (.a l)
def KS(E:Env)(t:Nat)(ps:Option (List (Nat×ai))):Option ai:=match E t,ps with
 |some i,some vs=>bg (p2 i.zero) none λz=>(match i.bc with
  | .struct bB=>bf (tI E bB) (xO (rn (places E bB) z vs)) none| .array _ e=>bg (E e) none λav=>xO (rn (λj=>some (j*av.size,av.size)) z vs)
  |_=>none)
 |_,_=>none
def KT(f:Fn)(bB cs:Option (List ai)):Option ai:=match f,bB,cs with
 | .func g,some bB,some cs=>some (.f g bB cs)| _,_,_=>none
def Eo(av:cF)(x:ai)(lo hi:Option Nat):Option ai:=match lo,hi with
 |none,none=>(match x with
  | .sn | .sl .. | .sx .. | .so=>some x| _=>none)
 |lo,hi=>Ek x av.size (lo.getD 0) hi
def Ep(l:List UInt8)(lo hi:Option Nat):Option ai:=match lo,hi with
 |none,none=>some (.s l)| lo,hi=>bf (Nat.ble (lo.getD 0) (hi.getD l.length)&&Nat.ble (hi.getD l.length) l.length) (some (.s (El l (lo.getD 0) (hi.getD l.length)))) none
def xP(E:Env)(t:Nat)(x:Option ai)(lo hi:Option (Option Nat)):Option ai:=match E t,x,lo,hi with
 |some { bc:=.slice e,.. },some x,some lo,some hi=>bg (E e) none λav=>Eo av x lo hi
 |some { bc:=.string,.. },some (.s l),some lo,some hi=>Ep l lo hi| _,_,_,_=>none
def KU(x:Option ai)(i:Nat):Option ai:=match x with
 |some (.t vs)=>oS vs i| _=>none
def KV(E:Env)(s d:Nat)(x:Option ai):Option ai:=match E s,E d,x with
 |some _,some { bc:=.int k,.. },some (.i _ n)=>some (.i k (oR k n))| _,_,_=>none
def As(o:Option Nat):Option ai:=bg o none λn=>some (.i .i64 (.ofNat n))
def KW(E:Env)(c6:List Nat)(l:Option (List ai)):Option ai:=match c6,l with
 |[t],some [v]=>(match E t,v with
  |some { bc:=.slice _,.. },v=>As (oU v)| some { bc:=.string,.. },.s l=>As (some l.length)| some { bc:=.array n _,.. },_=>As (some n)| _,_=>none)
 |_,_=>none
def KX(l:Option (List ai)):Option ai:=match l with
 |some [.i k a,.i _ b]=>some (.i k (bf (s8 a b) b a))| _=>none
def KY(l:Option (List ai)):Option ai:=match l with
 |some [.i k a,.i _ b]=>some (.i k (bf (s8 a b) a b))| _=>none
def KZ(E:Env)(c6:List Nat)(l:Option (List ai)):Option ai:=match c6,l with
 |[t],some [.sl _ _ _ c]=>(match E t with
  |some { bc:=.slice _,.. }=>some (.i .i64 (.ofNat c))| _=>none)
 |_,_=>none
def K0(l:Option (List ai)):Option ai:=match l with
 |some [.sn]=>some .pn| some [.sl id off n c]=>bf (Nat.beq c 0) none (some (.p id off))| some [.sx id off e n]=>bf (Nat.beq n 0) none (some (.p id off))| _=>none
def Er(E:Env)(b:Builtin)(c6:List Nat)(l:Option (List ai)):Option ai:=match b with
 | .len=>KW E c6 l| .max=>KX l| .min=>KY l| .cap=>KZ E c6 l| .unsafeSliceData=>K0 l| _=>none
def Es(P:Program)(E:Env)(G:GT)(m:aO dm)(op:Op)(ah:aO ai):Option ai:=
 match op with
 | .move x=>bS ah x| .assign x=>bS ah x| .pick c a b=>KJ (bS ah c) (bS ah a) (bS ah b)| .unOp op _ x=>KK op (bS ah x)| .binOp op t x y _=>KL P E op t (bS ah x) (bS ah y)| .load t x=>KM G m (E t) (bS ah x)| .nilCheck x=>KN (bS ah x)| .fieldAddr t x i=>KO (Aq E t i) (bS ah x)| .field t x i=>KP (Aq E t i) (bS ah x)| .indexAddr t x i=>KQ (Em E t) (bS ah x) (bS ah i)| .index t x i=>xN E t (bS ah x) (bS ah i)| .build t parts=>KS E t (u7 ah parts.toList)| .makeFunc f first captured=>KT f (iN ah first.toList) (iN ah captured.toList)
 | .slice t x lo hi none=>xP E t (bS ah x) (ta (lo.map (bS ah))) (ta (hi.map (bS ah)))| .extract x i=>KU (bS ah x) i| .convert s d x=>KV E s d (bS ah x)| .call { callee:=.builtin b,args,argTypes }=>Er E b argTypes.toList (iN ah args.toList)| _=>none
def Et(E:Env)(t:Nat)(x hi mx:Option ai):Option ai:=match E t,x,hi,mx with
 |some { bc:=.slice e,.. },some (.sl id off n c),some (.i _ (.ofNat h)),some (.i _ (.ofNat k))=>bg (E e) none λav=>
  bf (Nat.ble h k&&(Nat.ble k c&&Nat.blt 0 k)) (some (.sl id off h k)) none
 |some { bc:=.slice e,.. },some (.sx id off aS n),some (.i _ (.ofNat h)),some (.i _ (.ofNat k))=>bg (E e) none λav=>
  bf (Nat.ble h k&&(Nat.ble k n&&Nat.blt 0 k)) (some (.sl id off h k)) none
 |_,_,_,_=>none
def Eu(E:Env)(t:Nat)(x lo hi mx:Option ai):Option ai:=match E t,x,lo,hi,mx with
 |some { bc:=.slice e,.. },some (.sl id off n c),some (.i _ (.ofNat l)),some (.i _ (.ofNat h)),some (.i _ (.ofNat k))=>bg (E e) none λav=>
  bf (Nat.ble l h&&(Nat.ble h k&&(Nat.ble k c&&Nat.blt l k))) (some (.sl id (Nat.add off (Nat.mul l av.size)) (Nat.sub h l) (Nat.sub k l))) none
 |_,_,_,_,_=>none
def Ev(x:Option ai):Option ai:=match x with
 |some (.i .u64 n)=>some (.i .u64 (fz n))| _=>none
def nH(P:Program)(E:Env)(G:GT)(m:aO dm)(op:Op)(ah:aO ai):Option ai:=
 match op with
 | .unOp .xor t x=>Ev (bS ah x)| .slice t x (some lo) (some hi) (some mx)=>Eu E t (bS ah x) (bS ah lo) (bS ah hi) (bS ah mx)| .slice t x none (some hi) (some mx)=>Et E t (bS ah x) (bS ah hi) (bS ah mx)| op=>Es P E G m op ah
def lf{R:Type}(n:Nat)(K:Nat->R):R:=Nat.casesOn (Nat.add n 1) (K 0) K
def K1{R:Type}(n:Int)(K:Int->R):R:=match n with
 | .ofNat n=>lf n λn=>K (.ofNat n)
 | .negSucc n=>lf n λn=>K (.negSucc n)
def K2{R:Type}(b:Bool)(K:Bool->R):R:=bf b (K true) (K false)
def Ew{R:Type}(v:ai)(K:ai->R):R:=match v with
 | .b x=>K2 x λx=>K (.b x)
 | .i k n=>K1 n λn=>K (.i k n)
 | .p id off=>lf off λoff=>K (.p id off)
 | .g id off=>lf off λoff=>K (.g id off)
 | .sl id off n c=>lf off λoff=>lf n λn=>lf c λc=>K (.sl id off n c)
 | .sx id off e n=>lf off λoff=>lf e λe=>lf n λn=>K (.sx id off e n)
 |v=>K v
def tb{R:Type}(m:aU)(e:dm)(K:Nat->aU->R):R:=lf m.n λn=>m.t.iu (some e) n λt=>K n ⟨t,Nat.add n 1⟩
def nI{R:Type}(m:aU)(l:List ai)(T:Nat)(K:Nat->aU->R):R:=aO.p1 l .nil 0 λcs=>tb m (.cells cs T l.length) K
def p4{R:Type}(m:aU)(x:ai)(l:List ai)(K:aU->Option R):Option R:=match x with
 | .p id off=>(match m.t.get id with
  |some (.cells cs T c3)=>bif Nat.ble (Nat.add off l.length) c3&&l.all ai.one then aO.p1 l cs off λcs=>m.t.iu (some (.cells cs T c3)) id λt=>K ⟨t,m.n⟩else none
  |_=>none)
 |_=>none
def tc:Nat->List ai->List ai
 |0,_=>[]| n+1,z=>z++tc n z
def u9(i:Option cF):Bool:=match i with
 |some { bc:=.int .u8,.. }=>true| _=>false
def oV(u:Option cF)(av:cF)(x:ai):Bool:=match u,x with
 |some { bc:=.slice _,.. },.sn=>true| some { bc:=.slice _,.. },.so=>true| some { bc:=.slice _,.. },.sl ..=>true| some { bc:=.slice _,.. },.sx ..=>true| some { bc:=.string,.. },.s _=>Nat.beq av.size 1| _,_=>false
def u'(G:GT)(m:aO dm)(x:ai)(sz:Nat){R:Type}(K:List ai->Option R):Option R:=match x with
 | .sn | .so=>K []| .sl id off n _ | .sx id off _ n=>oT G m (.p id off) (Nat.mul n sz) K| .s l=>K (l.map λb=>.i .u8 (.ofNat b.toNat))| _=>none
def Ex(G:GT)(m:aU)(id off n c:Nat)(l:List ai)(k sz T:Nat):Option (ai×aU):=
 bf (Nat.ble (Nat.add n k) c) (p4 m (.p id (Nat.add off (Nat.mul n sz))) l λm=>some (.sl id off (Nat.add n k) c,m)) (oT G m.t (.p id off) (Nat.mul n sz) λcp=>nI m (cp++l) T λid m=>some (.sx id 0 0 (Nat.add n k),m))
def Ey(m:aU)(id:Nat)(n:Nat)(cs:aO ai)(c3:Nat)(l:List ai)(k sz T:Nat):Option (ai×aU):=
 bf (Nat.ble (Nat.mul n sz) c3) (m.t.iu none id λt=>aO.p1 l cs (Nat.mul n sz) λcs=>tb ⟨t,m.n⟩ (.cells cs T (Nat.mul (Nat.add n k) sz)) λid m=>some (.sx id 0 0 (Nat.add n k),m)) none
def xQ(G:GT)(m:aU)(s:ai)(l:List ai)(k sz bytes T:Nat):Option (ai×aU):=match s with
 | .sn=>bf (Nat.ble (Nat.mul k bytes) 140737488355328&&Nat.ble k 9223372036854775807) (nI m l T λid m=>some (.sx id 0 0 k,m)) none| .sl id off n c=>bf (Nat.ble (Nat.mul (Nat.add n k) bytes) 140737488355328&&Nat.ble (Nat.add n k) 9223372036854775807) (Ex G m id off n c l k sz T) none
 | .sx id off e n=>(match m.t.get id with
  |some (.cells cs m1 c3)=>bf ((Nat.beq off 0&&Nat.beq e 0)&&(Nat.beq m1 T&&(Nat.ble (Nat.mul (Nat.add n k) bytes) 140737488355328&&Nat.ble (Nat.add n k) 9223372036854775807))) (Ey m id n cs c3 l k sz T) none| _=>none)
 |_=>none
def va:List ai->Option (List UInt8)
 |[]=>some []
 | .i .u8 (.ofNat n)::l=>bif Nat.ble n 255 then(match va l with
  |some r=>some (UInt8.ofNat n::r)| none=>none)else none
 |_=>none
def xR:ai->List (ai×ai)->Option (Option ai)
 |_,[]=>some none
 |k,(x,v)::l=>match u4 k x with
  |some true=>some (some v)| some false=>xR k l| none=>none
def xS(k v:ai):List (ai×ai)->Option (List (ai×ai))
 |[]=>some [(k,v)]
 |(x,u)::l=>match u4 k x with
  |some true=>some ((k,v)::l)
  |some false=>(match xS k v l with
   |some r=>some ((x,u)::r)| none=>none)
  |none=>none
abbrev g5:=Nat->List ai->aU->Option (ai×aU)
structure dJ where
 P:Program
 E:Env
 G:GT
 pr:g5
def K3(i:Option cF)(t:Nat)(x:Option ai):Option (List ai×Nat×Nat×(Nat->ai)):=bg i none λi=>bg x none λv=>bf (Nat.beq v.cells.length i.size) (some (v.cells,t,1,λid=>.p id 0)) none
def K4(i:Option cF)(t:Nat):Option (List ai×Nat×Nat×(Nat->ai)):=bg i none λi=>bg (p2 i.zero) none λz=>some (z,t,1,λid=>.p id 0)
def K5(E:Env)(t len:Nat)(ps:Option (List (Nat×ai))):Option (List ai×Nat×Nat×(Nat->ai)):=match E t,ps with
 |some { bc:=.slice e,.. },some vs=>bg (E e) none λav=>bg (p2 av.zero) none λz=>
  bf (Nat.ble (Nat.mul len av.size) 16777216&&Nat.blt 0 (Nat.mul len av.size)) (bg (rn (λj=>some (j*av.size,av.size)) (tc len z) vs) none λcs=>some (cs,e,len,λid=>.sl id 0 len len)) (bf (Nat.beq len 0&&vs.isEmpty) (some ([],e,0,λid=>.sl id 0 0 0)) none)
 |_,_=>none
def K6(E:Env)(t:Nat)(l c:Option ai):Option (List ai×Nat×Nat×(Nat->ai)):=match E t,l,c with
 |some { bc:=.slice e,.. },some l,some c=>bg (E e) none λav=>bg l.nat none λn=>bg c.nat none λk=>bg (p2 av.zero) none λz=>
  bf (Nat.ble n k&&(Nat.ble (Nat.mul av.bytes k) 140737488355328&&Nat.ble k 9223372036854775807)) (some (tc k z,e,k,λid=>.sl id 0 n k)) none
 |_,_,_=>none
def td(E:Env)(o:Oper)(ah:aO ai):Option (List ai×Nat×Nat×(Nat->ai)):=
 match o.op with
 | .box t x=>K3 (E t) t (bS ah x)| .alloc t=>K4 (E t) t| .buildSlice t len parts=>K5 E t len (u7 ah parts.toList)| .makeSlice t l c=>K6 E t (bS ah l) (bS ah c)| _=>none
def At(i:Option cF)(m:aU)(x y:Option ai):Option (ai×aU):=bg i none λi=>bg x none λx=>bg y none λv=>bf (Nat.beq v.cells.length i.size) (p4 m x v.cells λm=>some (.t [],m)) none
def Au(i:Option cF)(m:aU):Option (ai×aU):=match i with
 |some { bc:=.map k e,.. }=>tb m (.map []) λid m=>some (.m id,m)
 |_=>none
def Av(i:Option cF)(v:ai):Bool:=match i,v with
 |some { bc:=.int k,.. },.i cG _=>IntKind.hy k cG| some { bc:=.string,.. },.s _=>true| _,_=>false
def K7(ok:Bool)(z:ai)(r:Option ai):ai:=bf ok (bg r (.t [z,.b false]) λv=>.t [v,.b true]) (bg r z λv=>v)
def Ez(P:Program)(E:Env)(t:Nat)(m:aU)(x y:Option ai)(ok:Bool):Option (ai×aU):=match E t,x,y with
 |some { bc:=.map k e,.. },some (.m id),some y=>bf (Av (E k) y) (match m.t.get id with
  |some (.map es)=>bg (xR y es) none λr=>bg (P.info? e) none λinf=>bg inf.zero none λz=>bg (u2 z) none λz=>some (K7 ok z r,m)
  |_=>none) none
 |_,_,_=>none
def xT(E:Env)(t:Nat)(m:aU)(x y z:Option ai):Option (ai×aU):=match E t,x,y,z with
 |some { bc:=.map k e,.. },some (.m id),some y,some v=>bf (Av (E k) y) (match m.t.get id with
  |some (.map es)=>bg (xS y v es) none λes=>m.t.iu (some (.map es)) id λt=>some (.t [],⟨t,m.n⟩)
  |_=>none) none
 |_,_,_,_=>none
def Aw(G:GT)(m:aU)(id off n:Nat):Option (ai×aU):=oT G m.t (.p id off) n λl=>bg (va l) none λl=>some (.s l,m)
def Ax(Y:dJ)(m:aU)(s d:Nat)(x:Option ai):Option (ai×aU):=match Y.E s,Y.E d,x with
 |some { bc:=.slice e,.. },some { bc:=.string,.. },some (.sl id off n _)=>bf (u9 (Y.E e)) (Aw Y.G m id off n) none| some { bc:=.slice e,.. },some { bc:=.string,.. },some (.sx id off _ n)=>bf (u9 (Y.E e)) (Aw Y.G m id off n) none| some { bc:=.slice e,.. },some { bc:=.string,.. },some .sn=>bf (u9 (Y.E e)) (some (.s [],m)) none| _,_,_=>none
def vb:ai->Bool
 | .sn | .so | .sx ..=>true| .sl _ _ n c=>Nat.ble n c| _=>false
def EA(Y:dJ)(m:aU)(c6:List Nat)(l:Option (List ai)):Option (ai×aU):=match c6,l with
 |[t,u],some [s,x]=>(match Y.E t with
  |some { bc:=.slice e,.. }=>bg (Y.E e) none λav=>bf (oV (Y.E u) av x) (u' Y.G m.t x av.size λl=>bg (lZ x) none λk=>
    bf (Nat.beq k 0) (bf (vb s) (some (s,m)) none) (bf (l.all ai.one) (xQ Y.G m s l k av.size av.bytes e) none)) none
  |_=>none)
 |_,_=>none
def EB(Y:dJ)(m:aU)(c6:List Nat)(l:Option (List ai)):Option (ai×aU):=match c6,l with
 |[t,u],some [.sl id off n c,.s q]=>(match Y.E t with
  |some { bc:=.slice e,.. }=>bg (Y.E e) none λav=>bf (Nat.beq av.size 1&&Nat.ble q.length n) (p4 m (.p id off) (q.map λb=>.i .u8 (.ofNat b.toNat)) λm=>some (.i .i64 (.ofNat q.length),m)) none
  |_=>none)
 |_,_=>none
def EC(Y:dJ)(m:aU)(c6:List Nat)(l:Option (List ai)):Option (ai×aU):=match c6,l with
 |[nd,it],some [.pn,.i .i64 (.ofNat 0)]=>some (.s [],m)
 |[nd,it],some [.p id 0,.i .i64 (.ofNat n)]=>(match Y.E nd,m.t.get id with
  |some { bc:=.pointer e,.. },some (.cells cs T c3)=>bg (Y.E e) none λav=>
   bf (Nat.beq av.size 1&&(Nat.beq T e&&Nat.blt 0 n)) (oT Y.G m.t (.p id 0) n λl=>bg (va l) none λl=>bf (Nat.ble n 9223372036854775807) (m.t.iu none id λt=>some (.s l,⟨t,m.n⟩)) none) none
  |_,_=>none)
 |_,_=>none
def K8(Y:dJ)(m:aU)(b:Builtin)(c6:List Nat)(l:Option (List ai)):Option (ai×aU):=match b with
 | .append=>EA Y m c6 l| .copy=>EB Y m c6 l| .unsafeString=>EC Y m c6 l| _=>none
def ED(Y:dJ)(m:aU)(o:Oper)(ah:aO ai):Option (ai×aU):=
 match o.op with
 | .store t x y=>bg o.dst (At (Y.E t) m (bS ah x) (bS ah y)) λ_=>none
 | .makeMap t none=>Au (Y.E t) m
 | .makeMap t (some x)=>(match bS ah x with
  |some (.i _ _)=>Au (Y.E t) m| _=>none)
 | .lookup t x y ok=>Ez Y.P Y.E t m (bS ah x) (bS ah y) ok| .mapUpdate t x y z=>bg o.dst (xT Y.E t m (bS ah x) (bS ah y) (bS ah z)) λ_=>none
 | .insert t x y z=>bg o.dst (xT Y.E t m (bS ah x) (bS ah y) (bS ah z)) λ_=>none
 | .convert s d x=>Ax Y m s d (bS ah x)| .call { callee:=.builtin b,args,argTypes }=>K8 Y m b argTypes.toList (iN ah args.toList)| _=>none
def gU(E:Env)(op:Op):Nat:=match op with
 | .move _ | .assign _ | .pick .. | .binOp .. | .load .. | .nilCheck _ | .fieldAddr .. | .field .. | .indexAddr .. | .index .. | .build .. | .makeFunc .. | .extract .. | .unOp .. | .slice ..=>0| .alloc _ | .box .. | .buildSlice .. | .makeSlice ..=>1
 | .convert s d _=>(match E d with
  |some { bc:=.int _,.. }=>0| _=>2)
 | .call { callee:=.builtin .len,argTypes,.. }=>(match argTypes.toList with
  |[t]=>(match E t with
   |some { bc:=.map ..,.. }=>2| _=>0)
  |_=>2)
 | .call { callee:=.builtin .cap,.. }=>0| .call { callee:=.builtin .max,.. }=>0| .call { callee:=.builtin .min,.. }=>0| .call { callee:=.builtin .unsafeSliceData,.. }=>0| _=>2
def jS{R:Type}(dst:Option Nat)(ah:aO ai)(v:ai)(K:aO ai->Option R):Option R:=bg dst (K ah) λd=>Ew v λv=>ah.iu (some v) d K
def K9{R:Type}(call:ai->List ai->aU->Option (ai×aU))(dst:Option Nat)(f:Option ai)(l:Option (List ai))(ah:aO ai)(m:aU)(K:aO ai->aU->Option R):Option R:=
 bg f none λf=>bg l none λl=>bg (call f l m) none λr=>bf (Nat.ble m.n r.2.n) (jS dst ah r.1 λah=>K ah r.2) none
def K'{R:Type}(dst:Option Nat)(r:Option (List ai×Nat×Nat×(Nat->ai)))(ah:aO ai)(m:aU)(K:aO ai->aU->Option R):Option R:=
 bg dst none λd=>bg r none λr=>nI m r.1 r.2.1 λid m=>jS (some d) ah (r.2.2.2 id) λah=>K ah m
def La{R:Type}(dst:Option Nat)(v:Option ai)(ah:aO ai)(m:aU)(K:aO ai->aU->Option R):Option R:=
 bg v none λv=>jS dst ah v λah=>K ah m
def Lb{R:Type}(dst:Option Nat)(n:Nat)(r:Option (ai×aU))(ah:aO ai)(K:aO ai->aU->Option R):Option R:=
 bg r none λr=>bf (Nat.ble n r.2.n) (jS dst ah r.1 λah=>K ah r.2) none
def Lc{R:Type}(Y:dJ)(k:Nat)(o:Oper)(ah:aO ai)(m:aU)(K:aO ai->aU->Option R):Option R:=match k with
 |0=>La o.dst (nH Y.P Y.E Y.G m.t o.op ah) ah m K| 1=>K' o.dst (td Y.E o ah) ah m K| _=>Lb o.dst m.n (ED Y m o ah) ah K
def rp{R:Type}(Y:dJ)(call:ai->List ai->aU->Option (ai×aU))(o:Oper)(ah:aO ai)(m:aU)(K:aO ai->aU->Option R):Option R:=
 match o.op with
 | .call { callee:=.value f,args,.. }=>K9 call o.dst (bS ah f) (iN ah args.toList) ah m K| op=>Lc Y (gU Y.E op) o ah m K
def te{R:Type}(o:Oper)(ah:aO ai)(K:aO ai->Option R):Option R:=match o.dst with
 |none=>K ah| some d=>ah.iu (some (.t [])) d K
def nJ(ops:List Oper)(o:Oper)(ah:aO ai):Option Bool:=match o.guard with
 |none=>some true
 |some (j,b)=>match(oS ops j).bind (·.dst)with
  |none=>none
  |some d=>match ah.get d with
   |some (.b c)=>some (c == b)| some (.t _)=>some false| _=>none
def vc(Y:dJ)(call:ai->List ai->aU->Option (ai×aU))(ops:List Oper)(l:List Oper):aO ai->aU->Option (aO ai×aU):=
 @List.rec Oper (λ_=>aO ai->aU->Option (aO ai×aU)) (λah m=>some (ah,m)) (λo _ aX ah m=>bg (nJ ops o ah) none λw=>bf w (rp Y call o ah m aX) (te o ah λah=>aX ah m)) l
def tf(E:Env)(ops:List Oper)(i:Nat):Nat:=bg (oS ops i) 2 λo=>gU E o.op
def p5(E:Env)(ops:List Oper):List Nat:=(List.range ops.length).filter λi=>Nat.beq (tf E ops i) 2
def vd(es dX:List Nat)(i:Nat):Nat:=(es.filter λe=>(dX.getD i 0).testBit e).length
def kq(es dX:List Nat)(i:Nat):Nat:=(es.filter λe=>!(dX.getD e 0).testBit i).length
def Ld(E:Env)(ops:List Oper)(es dX:List Nat)(j:Nat):List (Nat×Nat):=((List.range ops.length).filter λi=>!Nat.beq (tf E ops i) 2&&Nat.beq (vd es dX i) j).map λi=>(i,tf E ops i)
def Le(E:Env)(ops:List Oper)(es dX:List Nat):List Nat->Nat->List (Nat×Nat)
 |[],j=>Ld E ops es dX j| e::l,j=>Ld E ops es dX j++(e,2)::Le E ops es dX l (j+1)
def xU(E:Env)(ops:List Oper):List (Nat×Nat):=Le E ops (p5 E ops) (gM ops) (p5 E ops) 0
def oW(ops:List Oper):List (Nat×Nat)->Nat->Bool
 |[],k=>Nat.beq k (2^ops.length-1)
 |(i,_)::l,k=>!k.testBit i&&(match ops[i]? with
  |some o=>we o k&&oW ops l (k ||| 2^i)| none=>false)
def Ay(dX:List Nat):List Nat->Bool
 |[]=>true| x::l=>l.all (λy=>(dX.getD y 0).testBit x)&&Ay dX l
def Lf(E:Env)(ops:List Oper):Bool:=y9 ops&&(oW ops (xU E ops) 0&&(Ay (gM ops) (p5 E ops)&&(((xU E ops).filter λr=>Nat.beq r.2 2).map (·.1) == p5 E ops)))
mutual
def ve:ai->ai->Bool
 | .b x,.b w=>x == w| .i k x,.i l w=>IntKind.hy k l&&oQ x w| .s x,.s w=>nG x w| .pn,.pn=>true| .p i x,.p j w=>Nat.beq i j&&Nat.beq x w| .g i x,.g j w=>Nat.beq i j&&Nat.beq x w| .sn,.sn=>true| .sl i x n c,.sl j w m d=>Nat.beq i j&&(Nat.beq x w&&(Nat.beq n m&&Nat.beq c d))| .sx i x n c,.sx j w m d=>Nat.beq i j&&(Nat.beq x w&&(Nat.beq n m&&Nat.beq c d))| .gs i x n c,.gs j w m d=>Nat.beq i j&&(Nat.beq x w&&(Nat.beq n m&&Nat.beq c d))| .mn,.mn=>true| .m i,.m j=>Nat.beq i j| .f g l r,.f h m s=>Nat.beq g h&&(oX l m&&oX r s)| .y i,.y j=>Nat.beq i j| .fn,.fn=>true| .ni,.ni=>true| .t l,.t m=>oX l m| .a l,.a m=>oX l m| _,_=>false
def oX:List ai->List ai->Bool
 |[],[]=>true| x::l,w::m=>ve x w&&oX l m| _,_=>false
end
inductive kr where
 |made(i id:Nat)(l:List ai)(T:Nat)| load (i:Nat) (o:Oper) (ah:aO ai) (v:ai)
def jm(Y:dJ)(call:ai->List ai->aU->Option (ai×aU))(ops:List Oper):List (Nat×Nat)->aO ai->aU->List aU->List kr->Option (aO ai×aU×List aU×List kr)
 |[],ah,m,S,A=>some (ah,m,m::S,A)|(i,k)::rest,ah,m,S,A=>bg (oS ops i) none λo=>bg (nJ ops o ah) none λw=>bf (Nat.beq (gU Y.E o.op) k) (bf w (bf (Nat.beq k 0) (bg (nH Y.P Y.E Y.G m.t o.op ah) none λv=>jS o.dst ah v λbL=>jm Y call ops rest bL m S (bf (j4 o.op) (.load i o ah v::A) A)) (bf (Nat.beq k 1) (bg o.dst none λd=>bg (td Y.E o ah) none λr=>nI m r.1 r.2.1 λid m=>jS (some d) ah (r.2.2.2 id) λah=>jm Y call ops rest ah m S (.made i id r.1 r.2.1::A)) (rp Y call o ah m λah m'=>jm Y call ops rest ah m' (m::S) A))) (te o ah λah=>jm Y call ops rest ah m (bf (Nat.beq k 2) (m::S) S) A)) none
def vf(S:List aU)(lo hi:Nat)(p:aU->Bool):Bool:=((S.drop lo).take (hi+1-lo)).all p
def EE(Y:dJ)(o:Oper)(ah:aO ai)(v:ai)(m:aU):Bool:=match nH Y.P Y.E Y.G m.t o.op ah with
 |some u=>ve u v| none=>false
def EF(id:Nat)(l:List ai)(T:Nat)(m:aU):Bool:=Nat.blt id m.n&&(match m.t.get id with
 |some (.cells cs m1 c3)=>Nat.beq m1 T&&(Nat.beq c3 l.length&&(match cs.u0 0 l.length (λbY=>some bY)with
  |some bY=>oX l bY| none=>false))
 |_=>false)
def EG(Y:dJ)(es dX:List Nat)(S:List aU):kr->Bool
 | .made i id l T=>vf S (vd es dX i) (kq es dX i) (EF id l T)| .load i o ah v=>vf S (vd es dX i) (kq es dX i) (EE Y o ah v)
def EH(Y:dJ)(call:ai->List ai->aU->Option (ai×aU))(ops:List Oper)(ah:aO ai)(m:aU):Option (aO ai×aU):=
 bf (Lf Y.E ops) (match jm Y call ops (xU Y.E ops) ah m [] []with
  |none=>none| some (ah,m,S,A)=>bf (A.all (EG Y (p5 Y.E ops) (gM ops) S.reverse)) (some (ah,m)) none) none
def vg{R:Type}:List Nat->List ai->aO ai->(aO ai->Option R)->Option R
 |[],[],ah,K=>K ah| t::ps,v::vs,ah,K=>ah.iu (some v) t λah=>vg ps vs ah K
 |_,_,_,_=>none
def rq(Y:dJ)(ah:aO ai)(m:aO dm):List ResultVar->Option (List ai)
 |[]=>some []
 | .tmp t::l=>(match ah.get t,rq Y ah m l with
  |some v,some vs=>some (v::vs)| _,_=>none)
 | .cell t ty::l=>(match ah.get t,Y.E ty,rq Y ah m l with
  |some x,some i,some vs=>(match oT Y.G m x i.size λl=>u5 i.bc.agg l with
   |some v=>some (v::vs)| none=>none)
  |_,_,_=>none)
abbrev jT:=m4×aO ai×aU
abbrev mP:=Bool->Nat->Code->aO ai->aU->Option jT
def Lg:List ai->ai
 |[v]=>v| vs=>.t vs
def Az(Y:dJ)(ah:aO ai)(m:aU)(aV:List ResultVar):Option (ai×aU):=bg (rq Y ah m.t aV) none λvs=>some (Lg vs,m)
def Lh(Y:dJ)(r:Option jT)(aV:List ResultVar):Option (ai×aU):=match r with
 |some (.normal,ah,m)=>Az Y ah m aV| some (.ret,ah,m)=>Az Y ah m aV| _=>none
def AA(Y:dJ)(rec:mP)(g:Nat)(args:List ai)(m:aU):Option (ai×aU):=
 bg (Y.P.funcs[g]?) none λfn=>bg fn.body none λc=>bf (Nat.ble args.length fn.ntmps) (aO.p1 args (aO.bare 12) 0 λah=>Lh Y (rec true fn.ntmps c ah m) fn.results.toList) none
def oY(Y:dJ)(rec:mP)(g:Nat)(args:List ai)(m:aU):Option (ai×aU):=bg (Y.pr g args m) (AA Y rec g args m) some
def EI(l:Nat)(e:Option dm)(jump:Option Code)(m:aU):Option (ai×aU):=match e with
 |some (.loop true n hQ ps cV body)=>m.t.iu (some (bg jump (.loop false n hQ ps cV body) λc=>.done c n hQ ps cV body)) l λt=>some (.b jump.isNone,⟨t,m.n⟩)
 |_=>none
def Li(l:Nat)(r:Option jT):Option (ai×aU):=bg r none λr=>EI l (r.2.2.t.get l) (uc r.1) r.2.2
def EJ(rec:mP)(l n:Nat)(body:Code)(e:Option dm)(ah:aO ai)(m:aU):Option (ai×aU):=match e with
 |some (.loop false jR hQ ps cV EK)=>m.t.iu (some (.loop true jR hQ ps cV EK)) l λt=>Li l (rec false n body ah ⟨t,m.n⟩)
 |_=>none
def Lj(rec:mP)(l n:Nat)(body:Code)(r:Option jT):Option (ai×aU):=match r with
 |some (.normal,ah,m)=>EJ rec l n body (m.t.get l) ah m| _=>none
def EL(rec:mP)(l:Nat)(args:List ai)(m:aU):Option (ai×aU):=match m.t.get l with
 |some (.loop false n hQ ps cV body)=>vg ps args hQ λah=>Lj rec l n body (rec false n cV ah m)
 |_=>none
def AB(Y:dJ)(rec:mP)(f:ai)(args:List ai)(m:aU):Option (ai×aU):=match f with
 | .f g l r=>oY Y rec g (l++(args++r)) m| .y l=>EL rec l args m| _=>none
def EM:Code->Option m4
 | .exit id=>some (.exit id)| .goto l=>some (.goto l)| .ret=>some .ret| _=>none
def xV(r:Option jT)(k:aO ai->aU->Option jT):Option jT:=match r with
 |some (.normal,ah,m)=>k ah m| r=>r
def Lk(id:Nat)(r:Option jT):Option jT:=match r with
 |some (.exit j,ah,m)=>bf (Nat.beq j id) (some (.normal,ah,m)) (some (.exit j,ah,m))| r=>r
def AD(r:Option (aO ai×aU)):Option jT:=bg r none λr=>some (.normal,r.1,r.2)
def Ll(v:Option ai)(x y:Option jT):Option jT:=match v with
 |some (.b b)=>bf b x y| _=>none
def xW(rec:mP)(fb:Bool)(n:Nat)(c:Code)(k:Nat):Code->aO ai->aU->Option jT:=@Nat.rec (λ_=>Code->aO ai->aU->Option jT) (λ_ _ _=>none)
 (λ_ aX x ah m=>match rec fb n x ah m with
  |some (.goto l,ah,m)=>bg (findLabel c l) none λrest=>aX rest ah m
  |r=>r) k
def Lm(l:Nat)(ah:aO ai)(r:Option (ai×aU)):Option jT:=bg r none λr=>match r.2.t.get l with
 |some (.loop false ..)=>r.2.t.iu none l λt=>some (.normal,ah,⟨t,r.2.n⟩)
 |some (.done c ..)=>bg (EM c) none λex=>r.2.t.iu none l λt=>some (ex,ah,⟨t,r.2.n⟩)
 |_=>none
def EN(Y:dJ)(rec:mP)(fb:Bool)(n:Nat)(v:Option ai)(ps:List Nat)(cV body:Code)(ah:aO ai)(m:aU):Option jT:=match fb,v with
 |true,some (.f g [] r)=>tb m (.loop false n ah ps cV body) λl m=>Lm l ah (AA Y rec g (.y l::r) m)
 |_,_=>none
def EO(Y:dJ)(f:Nat)(rec:mP):mP:=λfb n c ah m=>match c with
 | .skip=>some (.normal,ah,m)| .label _=>some (.normal,ah,m)| .ret=>some (.ret,ah,m)| .exit id=>some (.exit id,ah,m)| .goto l=>some (.goto l,ah,m)| .seq x y=>xV (rec fb n x ah m) (rec fb n y)| .block id c=>Lk id (rec fb n c ah m)| .cond c x y=>Ll (bS ah c) (rec fb n x ah m) (rec fb n y ah m)| .loop c=>xV (rec fb n c ah m) (rec fb n (.loop c))| .region _ ops false=>AD (vc Y (AB Y rec) ops.toList ops.toList ah m)| .region _ ops true=>AD (EH Y (AB Y rec) ops.toList ah m)| .scope c=>xW rec fb n c f c ah m| .rangeFunc x ps cV body=>EN Y rec fb n (bS ah x) ps.toList cV body ah m| .refuse _=>none
def gD(Y:dJ)(f:Nat):mP:=@Nat.rec (λ_=>mP) (λ_ _ _ _ _=>none) (λf aX=>EO Y f aX) f
end
section
variable{α R:Type}
def gE(b:Bool)(x y:α):bf b x y=bif b then x else y:=by cases b<;>rfl
def bD{o:Option α}{f:α->Option R}{r:R}(h:bg o none f=some r):∃ v,o=some v/\f v=some r:=by
 cases o with
 |none=>cases h| some v=>exact⟨v,rfl,h⟩
def dR{b:Bool}{x:Option α}{r:α}(h:bf b x none=some r):b=true/\x=some r:=by
 cases b with
 |true=>exact⟨rfl,h⟩| false=>cases h
def rr{b:Bool}{x:Option α}{r:α}(h:bf b none x=some r):b=false/\x=some r:=by
 cases b with
 |false=>exact⟨rfl,h⟩| true=>cases h
def aO.xX(x:Option α)(l r:aO α)(k:Nat):(aO.node x l r).get k=bif Nat.beq k 0 then x else bif Nat.beq (k%2) 1 then l.get (k/2)else r.get (k/2-1):=by show bf _ _ (bf _ _ _)=_;rw[gE,gE];rfl
def aO.jn(v:Option α):∀ (t:aO α) (k:Nat),∃ cD:aO α,(∀ {R:Type} (K:aO α->R),t.iu v k K=K cD)/\∀ j x,cD.get j=some x->(j=k/\v=some x)\/(j≠k/\t.get j=some x)
 | .nil,k=>by
  cases aj:Nat.beq k 0 with
  |true=>
   have:=cb aj;subst this;refine⟨.node v .nil .nil,λK=>rfl,λj x h=>?_⟩;rw[aO.xX]at h;cases ap:Nat.beq j 0 with
   |true=>rw[ap]at h;exact .inl ⟨cb ap,h⟩
   |false=>
    rw[ap]at h;cases hm:Nat.beq (j%2) 1<;>(rw[hm]at h;cases h)
  |false=>refine⟨.nil,λK=>?_,λj x h=>by cases h⟩;show bf _ _ _=_;rw[gE,aj];rfl
 | .node x l r,k=>by
  cases aj:Nat.beq k 0 with
  |true=>
   have:=cb aj;subst this;refine⟨.node v l r,λK=>rfl,λj y h=>?_⟩;rw[aO.xX]at h |-;cases ap:Nat.beq j 0 with
   |true=>rw[ap]at h;exact .inl ⟨cb ap,h⟩| false=>rw[ap]at h;exact .inr ⟨(λe=>by subst e;cases ap),h⟩
  |false=>
   have sy:k≠0:=λe=>by subst e;cases aj
   cases hm:Nat.beq (k%2) 1 with
   |true=>
    have lB:=cb hm;obtain⟨bY,U,aa⟩:=aO.jn v l (k/2);refine⟨.node x bY r,λK=>?_,λj y h=>?_⟩;·show bf _ _ (bf _ _ _)=_;rw[gE,gE,aj];show(bif Nat.beq (k%2) 1 then _ else _)=_;rw[hm];exact U _
    ·rw[aO.xX]at h |-;cases ap:Nat.beq j 0 with
     |true=>rw[ap]at h;exact .inr ⟨λe=>by have:=cb ap;omega,h⟩
     |false=>
      rw[ap]at h;have SD:j≠0:=λe=>by subst e;cases ap
      cases mQ:Nat.beq (j%2) 1 with
      |true=>
       have SE:=cb mQ;rw[mQ]at h;rcases aa _ _ h with⟨e,af⟩ | ⟨e,af⟩;·exact .inl ⟨by omega,af⟩
       ·exact .inr ⟨λb2=>e (by rw[b2]),af⟩
      |false=>rw[mQ]at h;exact .inr ⟨(λe=>by subst e;rw[hm]at mQ;cases mQ),h⟩
   |false=>
    have lB:k%2≠1:=λe=>by rw[e]at hm;cases hm
    obtain⟨kM,U,aa⟩:=aO.jn v r (k/2-1);refine⟨.node x l kM,λK=>?_,λj y h=>?_⟩;·show bf _ _ (bf _ _ _)=_;rw[gE,gE,aj];show(bif Nat.beq (k%2) 1 then _ else _)=_;rw[hm];exact U _
    ·rw[aO.xX]at h |-;cases ap:Nat.beq j 0 with
     |true=>rw[ap]at h;exact .inr ⟨λe=>by have:=cb ap;omega,h⟩
     |false=>
      rw[ap]at h;have SD:j≠0:=λe=>by subst e;cases ap
      cases mQ:Nat.beq (j%2) 1 with
      |true=>rw[mQ]at h;exact .inr ⟨(λe=>by subst e;rw[hm]at mQ;cases mQ),h⟩
      |false=>
       have SE:j%2≠1:=λe=>by rw[e]at mQ;cases mQ
       rw[mQ]at h;rcases aa _ _ h with⟨e,af⟩ | ⟨e,af⟩;·exact .inl ⟨by omega,af⟩
       ·exact .inr ⟨λb2=>e (by rw[b2]),af⟩
def aO.vh(t:aO α):∀ (n off:Nat) (K:List α->Option R) (r:R),t.u0 off n K=some r->∃ l,l.length=n/\(∀ i,i<n->t.get (off+i)=l[i]?)/\K l=some r
 |0,off,K,r,h=>⟨[],rfl,λi hi=>by omega,h⟩
 |n+1,off,K,r,h=>by
  have aP:bg (t.get off) none (λv=>t.u0 (off+1) n λl=>K (v::l))=some r:=h;obtain⟨v,af,aP⟩:=bD aP;obtain⟨l,U,aa,ak⟩:=aO.vh t n (off+1) _ r aP;refine⟨v::l,by simp[U],λi hi=>?_,ak⟩;cases i with
  |zero=>simpa using af| succ i=>have:=aa i (by omega);rw[show off+(i+1)=off+1+i by omega,this];simp
def aO.p6:∀ (l:List α) (t:aO α) (off:Nat),∃ cD:aO α,(∀ {R:Type} (K:aO α->R),aO.p1 l t off K=K cD) /\ ∀ j x,cD.get j=some x->(off<=j/\l[j-off]?=some x)\/((j<off\/off+l.length<=j)/\t.get j=some x)
 |[],t,off=>⟨t,λK=>rfl,λj x h=>.inr ⟨by simp;omega,h⟩⟩
 |v::l,t,off=>by
  obtain⟨t1,U,aa⟩:=aO.jn (some v) t off;obtain⟨t2,ak,aL⟩:=aO.p6 l t1 (off+1);refine⟨t2,λK=>(U _).trans (ak K),λj x h=>?_⟩;rcases aL j x h with⟨aI,aQ⟩ | ⟨aI,aQ⟩;·exact .inl ⟨by omega,by rw[show j-off=(j-(off+1))+1 by omega];simpa using aQ⟩
  ·rcases aa j x aQ with⟨rfl,e⟩ | ⟨e,bG⟩
   ·exact .inl ⟨cK _,by simp at e;simp[e]⟩
   ·exact .inr ⟨by simp only[c8];omega,bG⟩
end
def EP(n:Nat)(K:Nat->R):lf n K=K n:=rfl
def SF(n:Int)(K:Int->R):K1 n K=K n:=by cases n<;>rfl
def SG(b:Bool)(K:Bool->R):K2 b K=K b:=by cases b<;>rfl
def SH(v:ai)(K:ai->R):Ew v K=K v:=by
 cases v with
 |b x=>exact SG x λx=>K (.b x)
 |i k n=>exact SF n λn=>K (.i k n)
 |_=>rfl
def EQ(a b:Nat):Nat.beq a b=decide (a=b):=by
 by_cases h:a=b
 ·subst h;simp
 ·rw[eQ h];simp[h]
def AE(a b:Nat):Nat.ble a b=decide (a<=b):=by
 by_cases h:a<=b
 ·rw[uK h];simp[h]
 ·cases ag:Nat.ble a b with
  |false=>simp[h]| true=>exact absurd (bk ag) h
def vi(a b:Int):oQ a b=decide (a=b):=by
 cases a<;>cases b<;>simp only[oQ,EQ]<;>simp
 omega
def AF(a b:Int):s8 a b=decide (a<=b):=by
 cases a<;>cases b<;>simp only[s8]
 ·rw[AE];simp only[z9];exact Int.ofNat_le.symm
 ·symm;simp only[nb];rename_i a b;have:=Int.negSucc_lt_zero b;have:(0:Int)<=Int.ofNat a:=DI a;omega
 ·symm;simp only[e3];rename_i a b;have:=Int.negSucc_lt_zero a;have:(0:Int)<=Int.ofNat b:=DI b;omega
 ·rw[AE];simp only[z9,Int.negSucc_eq];omega
def SI(a b:Int):tL a b=decide (a<b):=by
 unfold tL;rw[AF];by_cases h:a<b
 ·simp[h]
 ·simp[h];omega
def SJ(op:BinOp)(x y:Int):Ea op x y=pf op x y:=by cases op<;>simp only[Ea,pf,vi,SI,AF]
def rs(k:IntKind)(n:Int):oR k n=k.wrap n:=by
 cases n with
 |negSucc n=>rfl
 |ofNat n=>
  simp only[oR];cases h:Nat.ble n (An k)with
  |false=>rfl
  |true=>
   have aP:=bk h;simp only[bn];cases k<;>simp only[An]at aP<;>simp only[IntKind.wrap,IntKind.signed,IntKind.bits]<;>simp<;>omega
def SK(a b:Int):KA a b=a+b:=by cases a<;>cases b<;>rfl
def SL(a b:Int):Eb a b=a-b:=by
 cases a<;>cases b<;>try rfl
 rename_i a b;simp only[Eb];cases h:Nat.ble b a with
 |false=>rfl| true=>have:=bk h;show((a-b:Nat):Int)=(a:Int)-b;omega
def SM(a b:Int):KB a b=a*b:=by cases a<;>cases b<;>rfl
def SN(a b:Int):KD a b=a.tdiv b:=by cases a<;>cases b<;>rfl
def SO(a b:Int):KE a b=a.tmod b:=by cases a<;>cases b<;>rfl
def SP(a:Int)(j:Nat):KF a j=a*2^j:=by
 cases a with
 |negSucc a=>rfl| ofNat a=>show((a*2^j:Nat):Int)=(a:Int)*2^j;simp
def SQ(a:Int)(j:Nat):KG a j=a.fdiv (2^j):=by
 cases a with
 |negSucc a=>rfl| ofNat a=>show((a/2^j:Nat):Int)=(a:Int).fdiv (2^j);rw[show(2:Int)^j=((2^j:Nat):Int) by simp];rw[B3 _ (DI _)];simp
def Ln(j b:Nat):(bif Nat.ble j b then j else b)=min j b:=by
 rw[AE];by_cases h:j<=b
 ·simp[h,qi h]
 ·simp[h];omega
def ru{a:Nat}(h:a<=18446744073709551615):(BitVec.ofInt IntKind.u64.bits (Int.ofNat a)).toNat=a:=by show(BitVec.ofInt 64 (a:Int)).toNat=a;rw[BitVec.ofInt_natCast,BitVec.toNat_ofNat];omega
def wrap64{a:Nat}(h:a<=18446744073709551615):IntKind.u64.wrap (a:Int)=Int.ofNat a:=by show IntKind.u64.wrap (.ofNat a)=_;rw[<-rs];simp only[oR,An,uK h,bn]
def AG{op:BinOp}{k:IntKind}{x y r:Int}(h:u3 op k x y=some r):mY op k x y=some r:=by
 unfold u3 at h;split at h
 ·rename_i a b;cases aB:(Nat.ble a 18446744073709551615&&Nat.ble b 18446744073709551615)with
  |false=>rw[aB]at h;cases h
  |true=>
   rw[aB]at h;rw[bs]at aB;have aN:=bk aB.1;have ag:=bk aB.2;have Lo:a<2^64:=by omega
   have AH:b<2^64:=by omega
   simp only[bn]at h;split at h;·rw[<-h];simp only[mY,B7,ru aN,ru ag];rw[wrap64 (by have:=Nat.and_lt_two_pow a AH;omega)];rfl
   ·rw[<-h];simp only[mY,BitVec.toNat_or,ru aN,ru ag];rw[wrap64 (by have:=Nat.or_lt_two_pow Lo AH;omega)];rfl
   ·rw[<-h];simp only[mY,BitVec.toNat_xor,ru aN,ru ag];rw[wrap64 (by have:=Nat.xor_lt_two_pow Lo AH;omega)];rfl
   ·rw[<-h];have aF:(~~~(BitVec.ofInt IntKind.u64.bits (Int.ofNat b))).toNat=18446744073709551615-b:=by rw[BitVec.toNat_not,ru ag];rfl
    simp only[mY,B7,ru aN,aF];rw[wrap64 (by have:=Nat.and_lt_two_pow a (show 18446744073709551615-b<2^64 by omega);omega)];rfl
   ·cases h
 ·exact h
def SR(a b:UInt8):Ec a b=decide (a=b):=by unfold Ec;rw[EQ];simp only[z9];exact UInt8.toNat_inj
def vj:∀ (l m:List UInt8),nG l m=decide (l=m)
 |[],[]=>by simp[nG]
 |[],_::_=>by simp[nG]
 |_::_,[]=>by simp[nG]
 |a::l,b::m=>by
  simp only[nG,SR,vj l m];by_cases h:a=b;·subst h;simp
  ·simp[h]
def rv{α:Type}:∀ (l:List α) (n:Nat),oS l n=l[n]?
 |[],n=>by simp[oS]
 |v::l,n=>by
  unfold oS;cases n with
  |zero=>rfl| succ n=>exact(rv l n).trans (by simp)
def AI{α:Type}:∀ (l:List α) (n:Nat),s' l n=l.drop n
 |[],n=>by simp[s']
 |v::l,n=>by
  unfold s';cases n with
  |zero=>rfl| succ n=>exact(AI l n).trans (by simp)
def Lp{n:Nat}{l r:List ai}(h:s9 n l=some r):r=l.take n/\r.length=n:=by
 induction n generalizing l r with
 |zero=>simp[s9]at h;subst h;simp
 |succ n aX=>
  cases l with
  |nil=>simp[s9]at h
  |cons v l=>
   simp only[s9]at h;split at h;·rename_i q aR;obtain⟨rfl,aa⟩:=aX aR;cases h;simp at aa |-;omega
   ·cases h
structure Loc where
 b:Nat
 o:Nat
 c:Nat
abbrev a4:=Nat->Option Loc
def a4.le(D aW:a4):Prop:=∀ i a,D i=some a->aW i=some a
mutual
def ay(D:a4):ai->Value->Prop
 | .b x,u=>u=.bool x| .i k n,u=>u=.int k n| .s l,u=>u=.string ⟨l.toArray⟩| .pn,u=>u=.pointer none| .p id off,u=>∃ a,D id=some a/\u=.pointer (some ⟨a.b,a.o+off,none⟩)| .g n off,u=>u=.pointer (some ⟨n,off,none⟩)| .sn,u=>u=.slice none 0 0| .sl id off n c,u=>∃ a,D id=some a/\u=.slice (some ⟨a.b,a.o+off,none⟩) n c| .sx id off e n,u=>∃ a,D id=some a/\e+n<=a.c/\u=.slice (some ⟨a.b,a.o+off,none⟩) n (a.c-e)| .gs n off k c,u=>u=.slice (some ⟨n,off,none⟩) k c| .so,u=>∃ a c,u=.slice (some a) 0 c| .mn,u=>u=.map none| .m id,u=>∃ a,D id=some a/\u=.map (some a.b)| .f g l r,u=>∃ vs ws,a6 D l vs/\a6 D r ws/\u=.func (.func g) vs.toArray ws.toArray| .y id,u=>∃ a,D id=some a/\u=.func (.yield a.b) #[] #[]| .fn,u=>u=.nilFunc| .ni,u=>u=.nilIface| .u1 t v,u=>∃ x,ay D v x/\u=.iface t x| .t l,u=>∃ vs,a6 D l vs/\u=.tuple vs.toArray| .a l,u=>∃ vs,a6 D l vs/\u=.agg vs.toArray
def a6(D:a4):List ai->List Value->Prop
 |[],us=>us=[]| v::l,us=>∃ x xs,ay D v x/\a6 D l xs/\us=x::xs
end
section
variable{D aW:a4}
mutual
def ay.mono(h:D.le aW):∀ {v:ai} {u:Value},ay D v u->ay aW v u
 | .b _,_,af | .i _ _,_,af | .s _,_,af | .pn,_,af | .g _ _,_,af | .sn,_,af | .gs ..,_,af | .so,_,af | .mn,_,af | .fn,_,af | .ni,_,af=>by simpa only[ay]using af
 | .p ..,_,af | .sl ..,_,af | .m _,_,af | .y _,_,af=>by simp only[ay]at af |-;obtain⟨a,U,aa⟩:=af;exact⟨a,h _ _ U,aa⟩
 | .sx ..,_,af=>by simp only[ay]at af |-;obtain⟨a,U,aa⟩:=af;exact⟨a,h _ _ U,aa⟩
 | .f _ l r,_,af=>by simp only[ay]at af |-;obtain⟨vs,ws,U,aa,ak⟩:=af;exact⟨vs,ws,a6.mono h U,a6.mono h aa,ak⟩
 | .u1 _ v,_,af=>by simp only[ay]at af |-;obtain⟨x,U,aa⟩:=af;exact⟨x,ay.mono h U,aa⟩
 | .t l,_,af=>by simp only[ay]at af |-;obtain⟨x,U,aa⟩:=af;exact⟨x,a6.mono h U,aa⟩
 | .a l,_,af=>by simp only[ay]at af |-;obtain⟨x,U,aa⟩:=af;exact⟨x,a6.mono h U,aa⟩
def a6.mono(h:D.le aW):∀ {l:List ai} {us:List Value},a6 D l us->a6 aW l us
 |[],_,af=>by simpa only[a6]using af
 |v::l,_,af=>by simp only[a6]at af |-;obtain⟨x,xs,U,aa,ak⟩:=af;exact⟨x,xs,ay.mono h U,a6.mono h aa,ak⟩
end
def a6.nil:a6 D [] []:=by simp[a6]
def a6.cons{v:ai}{l:List ai}{x:Value}{xs:List Value}(h:ay D v x)(k:a6 D l xs):a6 D (v::l) (x::xs):=by simp only[a6];exact⟨x,xs,h,k,rfl⟩
def a6.gv{v:ai}{l:List ai}{us:List Value}(h:a6 D (v::l) us):∃ x xs,ay D v x/\a6 D l xs/\us=x::xs:=by simpa only[a6]using h
def a6.iv{us:List Value}(h:a6 D [] us):us=[]:=by simpa only[a6]using h
def a6.len:∀ {l:List ai} {us:List Value},a6 D l us->us.length=l.length
 |[],_,h=>by rw[h.iv];rfl
 |v::l,_,h=>by obtain⟨x,xs,U,aa,rfl⟩:=h.gv;simp[a6.len aa]
def a6.get:∀ {l:List ai} {us:List Value} {i:Nat} {v:ai},a6 D l us->l[i]?=some v->∃ x,us[i]?=some x/\ay D v x
 |[],_,i,v,h,hi=>by simp at hi
 |w::l,_,i,v,h,hi=>by
  obtain⟨x,xs,U,aa,rfl⟩:=h.gv;cases i with
  |zero=>simp at hi;subst hi;exact⟨x,rfl,U⟩| succ i=>simpa using a6.get aa (by simpa using hi)
def a6.ER:∀ {l:List ai} {us:List Value},us.length=l.length->(∀ (i:Nat) (v:ai),l[i]?=some v->∃ x,us[i]?=some x/\ay D v x)->a6 D l us
 |[],us,au,h=>by have:us=[]:=h7 (by simpa using au);subst this;exact .nil
 |w::l,us,au,h=>by
  cases us with
  |nil=>simp at au| cons x xs=>obtain⟨y,aE,U⟩:=h 0 w rfl;simp at aE;subst aE;exact .cons U (a6.ER (by simpa using au) λi v hi=>by simpa using h (i+1) v (by simpa using hi))
def a6.append:∀ {l:List ai} {us:List Value} {m:List ai} {ws:List Value},a6 D l us->a6 D m ws->a6 D (l++m) (us++ws)
 |[],_,m,ws,h,k=>by rw[h.iv];exact k
 |w::l,_,m,ws,h,k=>by obtain⟨x,xs,U,aa,rfl⟩:=h.gv;exact .cons U (a6.append aa k)
def a6.take:∀ {l:List ai} {us:List Value} (n:Nat),a6 D l us->a6 D (l.take n) (us.take n)
 |[],_,n,h=>by rw[h.iv];simpa using a6.nil
 |w::l,_,n,h=>by
  obtain⟨x,xs,U,aa,rfl⟩:=h.gv;cases n with
  |zero=>simpa using a6.nil| succ n=>simpa using a6.cons U (a6.take n aa)
def a6.drop:∀ {l:List ai} {us:List Value} (n:Nat),a6 D l us->a6 D (l.drop n) (us.drop n)
 |[],_,n,h=>by rw[h.iv];simpa using a6.nil
 |w::l,us,n,h=>by
  cases n with
  |zero=>simpa using h| succ n=>obtain⟨x,xs,U,aa,rfl⟩:=h.gv;simpa using a6.drop n aa
def a6.w6{l:List ai}{us:List Value}(h:a6 D l us):∀ n,a6 D (tc n l) ((List.replicate n us).flatten)
 |0=>by simpa[tc]using a6.nil
 |n+1=>by rw[List.replicate_succ,CK];exact h.append (a6.w6 h n)
def ay.bool{x:Bool}{u:Value}(h:ay D (.b x) u):u=.bool x:=by simpa only[ay]using h
def ay.int{k:IntKind}{n:Int}{u:Value}(h:ay D (.i k n) u):u=.int k n:=by simpa only[ay]using h
def ay.str{l:List UInt8}{u:Value}(h:ay D (.s l) u):u=.string ⟨l.toArray⟩:=by simpa only[ay]using h
def ay.ptr{id off:Nat}{u:Value}(h:ay D (.p id off) u):∃ a,D id=some a/\u=.pointer (some ⟨a.b,a.o+off,none⟩):=by simpa only[ay]using h
def ay.kt{id off:Nat}{u:Value}(h:ay D (.g id off) u):u=.pointer (some ⟨id,off,none⟩):=by simpa only[ay]using h
def ay.l0{id off n c:Nat}{u:Value}(h:ay D (.sl id off n c) u):∃ a,D id=some a/\u=.slice (some ⟨a.b,a.o+off,none⟩) n c:=by simpa only[ay]using h
def ay.nK{id off e n:Nat}{u:Value}(h:ay D (.sx id off e n) u):∃ a,D id=some a/\e+n<=a.c/\u=.slice (some ⟨a.b,a.o+off,none⟩) n (a.c-e):=by simpa only[ay]using h
def ay.ES{id off n c:Nat}{u:Value}(h:ay D (.gs id off n c) u):u=.slice (some ⟨id,off,none⟩) n c:=by simpa only[ay]using h
def ay.AJ{u:Value}(h:ay D .so u):∃ a c,u=.slice (some a) 0 c:=by simpa only[ay]using h
def ay.tg{u:Value}(h:ay D .sn u):u=.slice none 0 0:=by simpa only[ay]using h
def ay.agg{l:List ai}{u:Value}(h:ay D (.a l) u):∃ vs,a6 D l vs/\u=.agg vs.toArray:=by simpa only[ay]using h
def ay.ET{l:List ai}{u:Value}(h:ay D (.t l) u):∃ vs,a6 D l vs/\u=.tuple vs.toArray:=by simpa only[ay]using h
def ay.AK{l:List ai}(h:a6 D l vs):ay D (.a l) (.agg vs.toArray):=by simp only[ay];exact⟨vs,h,rfl⟩
def ay.AL{l:List ai}(h:a6 D l vs):ay D (.t l) (.tuple vs.toArray):=by simp only[ay];exact⟨vs,h,rfl⟩
def ay.undef:ay D (.t []) undef:=by simp only[ay];exact⟨[],.nil,rfl⟩
def ay.cells{v:ai}{u:Value}(h:ay D v u):a6 D v.cells u.cells.toList:=by
 cases v<;>simp only[ai.cells]
 case a l=>obtain⟨vs,U,rfl⟩:=h.agg;simpa[Value.cells]using U
 all_goals
  have key:∀ w:Value,(∀ cs,w≠.agg cs)->w.cells.toList=[w]:=λw hw=>by cases w<;>first | rfl | exact(hw _ rfl).elim
  rw[key u ?_];·exact .cons h .nil
  ·rintro cs rfl;simp[ay]at h
def ay.one{v:ai}{u:Value}(h:ay D v u)(ar:v.one=true):u.oneCell'=true:=by
 cases v<;>simp only[ai.one,gG]at ar<;>simp only[ay]at h
 all_goals first
  |(subst h;rfl)|(obtain⟨_,_,rfl⟩:=h;rfl)|(obtain⟨_,_,_,rfl⟩:=h;rfl)|(obtain⟨_,_,_,_,rfl⟩:=h;rfl)
def a6.one{l:List ai}{us:List Value}(h:a6 D l us)(ar:l.all ai.one=true):eP us=true:=by refine eO.2 λx ab=>?_;obtain⟨i,hi⟩:=z7 ab;have a0:=(gf.1 hi).1;rw[h.len]at a0;obtain⟨y,aE,af⟩:=h.get (h8 a0);rw[hi]at aE;cases aE;exact af.one (eO.1 ar _ (et a0))
def ay.Lq{u:Value}{v:ai}(h:xJ u=some v):ay D v u:=by
 unfold xJ at h;split at h<;>cases h<;>simp[ay]
def a6.sX:∀ {us:List Value} {l:List ai},p2 us=some l->a6 D l us
 |[],l,h=>by simp only[p2]at h;cases h;exact .nil
 |u::us,l,h=>by
  simp only[p2]at h;split at h;·rename_i x m U aa;cases h;exact .cons (.Lq U) (a6.sX aa)
  ·cases h
def ay.of{u:Value}{v:ai}(h:u2 u=some v):ay D v u:=by
 unfold u2 at h;split at h
 ·split at h
  ·rename_i l au;cases h;have:=a6.sX (D:=D) au;simpa using ay.AK this
  ·cases h
 ·exact .Lq h
def AM{agg:Bool}{l:List ai}{v:ai}(h:u5 agg l=some v)(au:a6 D l vs):ay D v (pack agg vs):=by
 unfold u5 at h;cases agg with
 |true=>simp only[bn]at h;cases h;exact .AK au
 |false=>
  simp only[bj]at h;split at h;·cases h;obtain⟨x,xs,U,aa,rfl⟩:=au.gv;rw[aa.iv];exact U
  ·cases h
def EU:∀ {cs:List ai} {off:Nat} {vs r:List ai} {us xs:List Value},p3 cs off vs=some r->a6 D cs us->a6 D vs xs->a6 D r (bt us off xs)/\off+xs.length<=us.length
 |cs,0,[],r,us,xs,h,aB,af=>by simp[p3]at h;subst h;rw[af.iv];exact⟨by simpa[bt]using aB,by simp⟩
 |[],0,_::_,r,us,xs,h,aB,af=>by simp[p3]at h
 |[],_+1,_,r,us,xs,h,aB,af=>by simp[p3]at h
 |c::cs,0,v::vs,r,us,xs,h,aB,af=>by
  simp only[p3]at h;split at h
  ·rename_i q aR;cases h;obtain⟨x,us,U,aa,rfl⟩:=aB.gv;obtain⟨y,xs,ak,aL,rfl⟩:=af.gv;obtain⟨be,bT⟩:=EU aR aa aL;refine⟨?_,by simp at bT |-;omega⟩;have e:bt (x::us) 0 (y::xs)=y::bt us 0 xs:=by simp[bt]
   rw[e];exact .cons ak be
  ·cases h
 |c::cs,n+1,vs,r,us,xs,h,aB,af=>by
  simp only[p3]at h;split at h
  ·rename_i q aR;cases h;obtain⟨x,us,U,aa,rfl⟩:=aB.gv;obtain⟨be,bT⟩:=EU aR aa af;refine⟨?_,by simp;omega⟩;have e:bt (x::us) (n+1) xs=x::bt us n xs:=by simp only[bt,pC,qK,sI,true_and];rw[show n+1+xs.length=(n+xs.length)+1 by omega,List.drop_succ_cons]
   rw[e];exact .cons U be
  ·cases h
inductive xY(D:a4):List (Nat×ai)->List (Nat×Value)->Prop
 |nil:xY D [] []| cons {i v u l us} (h:ay D v u) (k:xY D l us):xY D ((i,v)::l) ((i,u)::us)
def AN{place:Nat->Option (Nat×Nat)}:∀ {vs:List (Nat×ai)} {cells r:List ai} {us:List Value} {xs:List (Nat×Value)},rn place cells vs=some r->a6 D cells us->xY D vs xs -> ∃ aV,ma place us xs=some aV/\a6 D r aV
 |[],cells,r,us,_,h,aB,.nil=>by simp only[rn]at h;cases h;exact⟨us,rfl,aB⟩
 |(i,v)::vs,cells,r,us,_,h,aB,.cons (u:=u) (us:=xs) af e5=>by
  simp only[rn]at h;split at h;·cases h
  ·rename_i off size aK;cases ag:Nat.beq v.cells.length size with
   |false=>rw[ag]at h;cases h
   |true=>
    rw[ag]at h;simp only[bn]at h;split at h
    ·rename_i cs h3;obtain⟨U,aa⟩:=EU h3 aB af.cells;obtain⟨aV,ak,aL⟩:=AN h U e5;refine⟨aV,?_,aL⟩;have au:u.cells.size=v.cells.length:=by simpa using af.cells.len
     simp only[ma,aK,au,ag];rw[show Nat.ble (off+size) us.length=true by rw[AE,e3];have:=cb ag;simp at aa;omega];exact ak
    ·cases h
end
def dn(D:a4)(x:b0)(v:ai):Prop:=(∃ u,x=.val u/\ay D v u)\/∃ q,v=.b q/\x=.lit q
def dn.val{D:a4}{u:Value}{v:ai}(h:ay D v u):dn D (.val u) v:=.inl ⟨u,rfl,h⟩
def dn.mono{D aW:a4}(bX:D.le aW){x:b0}{v:ai}(h:dn D x v):dn aW x v:=by
 rcases h with⟨u,rfl,h⟩ | ⟨q,rfl,rfl⟩
 ·exact .val (h.mono bX)
 ·exact .inr ⟨q,rfl,rfl⟩
def ku(D:a4)(F:Fr)(ah:aO ai):Prop:=∀ t v,ah.get t=some v->dn D (F t) v
def fr(D:a4)(F:Fr)(ah:aO ai)(xs:List Operand):Prop:=∀ x∈xs,∀ v,bS ah x=some v->dn D (bZ F x) v
def ku.op{D:a4}{F:Fr}{ah:aO ai}(h:ku D F ah)(xs:List Operand):fr D F ah xs:=λx _ v af=>by
 cases x with
 |tmp t=>exact h t v af
 |const c=>
  have hz:u2 c=some v:=af;cases c with
  |bool q=>
   have:v=.b q:=by simp[u2,xJ]at hz;exact hz.symm
   exact .inr ⟨q,this,rfl⟩
  |_=>exact .val (.of hz)
 |global g=>
  have:v=.g g 0:=by simpa[bS]using af.symm
  subst this;exact .val (by simp[ay])
 |func f=>
  have:v=.f f [] []:=by simpa[bS]using af.symm
  subst this;exact .val (by simp only[ay];exact⟨[],[],.nil,.nil,rfl⟩)
section
variable{D:a4}{F:Fr}{ah:aO ai}{xs:List Operand}
def dn.cf{v:ai}(h:dn D (bZ F x) v):∃ u,a' F x=.val u/\ay D v u:=by
 unfold a' Go.V.cf;rcases h with⟨u,h,af⟩ | ⟨q,rfl,h⟩
 ·rw[h];exact⟨u,rfl,af⟩
 ·rw[h];exact⟨.bool q,rfl,by simp[ay]⟩
def dn.oZ{x:b0}{v:ai}(h:dn D x v)(af:∀ q,v≠.b q):∃ u,x=.val u/\ay D v u:=by
 rcases h with h | ⟨q,h,_⟩
 ·exact h
 ·exact(af q h).elim
def fr.a'(h:fr D F ah xs)(ab:x∈xs){v:ai}(af:bS ah x=some v):∃ u,a' F x=.val u/\ay D v u:=(h x ab v af).cf
def fr.hv(h:fr D F ah xs):∀ {l:List Operand} {vs:List ai},(∀ x∈l,x∈xs)->iN ah l=some vs->∃ us,hv F l=some us/\a6 D vs us
 |[],vs,_,af=>by simp only[iN]at af;cases af;exact⟨[],rfl,.nil⟩
 |x::l,vs,au,af=>by
  simp only[iN]at af;split at af;·rename_i v vs U aa;cases af;obtain⟨u,ax,aI⟩:=h.a' (au x (by simp)) U;obtain⟨us,aS,aQ⟩:=fr.hv h (λy aE=>au y (by simp[aE])) aa;refine⟨u::us,?_,.cons aI aQ⟩;show fN (bZ F) (x::l)=_;rw[fN];have cq:cf (bZ F) x=.val u:=ax;have kJ:fN (bZ F) l=some us:=aS;rw[cq,kJ]
  ·cases af
def fr.parts(h:fr D F ah xs):∀ {l:List (Nat×Operand)} {vs:List (Nat×ai)},(∀ x∈l.map (·.2),x∈xs)->u7 ah l=some vs->∃ us,rY F l=some us/\xY D vs us
 |[],vs,_,af=>by simp only[u7]at af;cases af;exact⟨[],rfl,.nil⟩
 |(i,x)::l,vs,au,af=>by
  simp only[u7]at af;split at af;·rename_i v vs U aa;cases af;obtain⟨u,ax,aI⟩:=h.a' (au x (by simp)) U;obtain⟨us,aS,aQ⟩:=fr.parts h (λy aE=>au y (by simp only[cC,cU];exact .inr aE)) aa;refine⟨(i,u)::us,?_,.cons aI aQ⟩;show mb (bZ F) ((i,x)::l)=_;rw[mb];have cq:cf (bZ F) x=.val u:=ax;have kJ:mb (bZ F) l=some us:=aS;rw[cq,kJ]
  ·cases af
end
inductive kv(D:a4):List (ai×ai)->List MapEntry->Prop
 |nil:kv D [] []| cons {k v es e l} (aj:ay D k e.key) (af:ay D v e.val) (t:kv D es l):kv D ((k,v)::es) (e::l)
def eN(n:Nat):Code->Bool
 | .seq x y=>eN n x&&eN n y| .block _ c=>eN n c| .cond _ x y=>eN n x&&eN n y| .loop c=>eN n c| .scope c=>eN n c| .region _ ops _=>tT n ops| .rangeFunc _ ps cV body=>eN n cV&&(eN n body&&ps.toList.all λt=>Nat.blt t n)| _=>true
structure xZ(D:a4)(busy:Bool)(n:Nat)(ah:aO ai)(ps:List Nat)(cV body:Code)(L:Loop):Prop where
 a3:L.state=bif busy then .busy else .ready
 j7:L.pending=none
 sz:L.tmps.size=n
 ah:∀ t v,ah.get t=some v->ay D v (L.tmps.getD t undef)
 ps:L.params.toList=ps
 cV:L.assign=cV
 body:L.body=body
 sG:eN n L.assign=true
 jD:eN n L.body=true
 op:∀ t∈L.params.toList,t<n
inductive gV(D:a4)(E:Env)(M:List aC)(a:Loc):dm->Prop
 |cells{cs:aO ai}{T c3:Nat}(arr:Array Value)(ar:a.o=0)(aZ:(⟨a.b,.cells arr T (0,0)⟩:aC)∈M)(au:a.o+c3<=arr.size)(aB:∀ i v,i<c3->cs.get i=some v->∃ x,arr[a.o+i]?=some x/\ay D v x)(aj:∀ i,E T=some i->arr.size=a.o+a.c*i.size)(hm:a.c<=maxLen):gV D E M a (.cells cs T c3)| map {es:List (ai×ai)} (l:List MapEntry) (clock:Nat) (aZ:(⟨a.b,.map l.toArray clock⟩:aC)∈M) (he:kv D es l):gV D E M a (.map es)| loop {busy n ah ps cV body} (L:Loop) (aZ:(⟨a.b,.loop L⟩:aC)∈M) (cN:xZ D busy n ah ps cV body L):gV D E M a (.loop busy n ah ps cV body)| done {c n ah ps cV body} (L:Loop) (aZ:(⟨a.b,.loop L⟩:aC)∈M) (an:L.state=.done) (aK:L.pending=some c):gV D E M a (.done c n ah ps cV body)
def kv.mono{D aW:a4}(bX:D.le aW){es:List (ai×ai)}{l:List MapEntry}(h:kv D es l):kv aW es l:=by
 induction h with
 |nil=>exact .nil| cons aj af t aX=>exact .cons (aj.mono bX) (af.mono bX) aX
def gV.mono{D aW:a4}{M':List aC}{a:Loc}(bX:D.le aW)(aZ:∀ x∈M,x.num=a.b->x∈M'){e:dm}(h:gV D E M a e):gV aW E M' a e:=by
 cases h with
 |cells arr aD U aa ak aL be=>exact .cells arr aD (aZ _ U rfl) aa (λi v hi aw=>by obtain⟨x,aI,aQ⟩:=ak i v hi aw;exact⟨x,aI,aQ.mono bX⟩) aL be| map l clock U aa=>exact .map l clock (aZ _ U rfl) (aa.mono bX)| loop L U aa=>exact .loop L (aZ _ U rfl) { aa with ah:=λt v aq=>(aa.ah t v aq).mono bX }| done L U aa ak=>exact .done L (aZ _ U rfl) aa ak
def x0(G:GT)(I:aG):Prop:=∀ g cs,G g=some cs->∃ (arr:Array Value) (T:Nat) (f:Nat×Nat),I g=some (.cells arr T f)/\∀ i v,cs.get i=some v->∃ x,arr[i]?=some x/\∀ D,ay D v x
structure bP(Y:dJ)(D:a4)(m:aU)(I:aG)(M:List aC):Prop where
 fc:∀ id e a,m.t.get id=some e->D id=some a->gV D Y.E M a e
 inj:∀ id e2 e b2 a bl,m.t.get id=some e->m.t.get e2=some b2->D id=some a->D e2=some bl->a.b=bl.b->id=e2
 fJ:∀ id a,D id=some a->id<m.n
 kt:x0 Y.G I
section
variable{Y:dJ}{D:a4}{m:aU}{I:aG}{M:List aC}{R:Type}
def ry(h:bP Y D m I M){x:ai}{u:Value}(ab:ay D x u){n:Nat}{K:List ai->Option R}{r:R}(al:oT Y.G m.t x n K=some r) :
  ∃ ad l vs,u=.pointer (some ad)/\cx I M ad n vs/\a6 D l vs/\K l=some r:=by
 have key:∀ (arr:Array Value) (base off:Nat) (l:List ai),l.length=n->base+off+n<=arr.size->(∀ i,i<n->∀ v,l[i]?=some v->∃ x,arr[base+off+i]?=some x/\ay D v x) ->
   ((arr.toList.drop (base+off)).take n).length=n/\a6 D l ((arr.toList.drop (base+off)).take n):=by
  intro arr base off l au bW aw;have hlen:((arr.toList.drop (base+off)).take n).length=n:=by simp;omega
  refine⟨hlen,a6.ER (by rw[hlen,au]) λi v hi=>?_⟩;have fA:i<n:=by rw[<-au];exact(gf.1 hi).1
  obtain⟨x,U,aa⟩:=aw i fA v hi;refine⟨x,?_,aa⟩;rw[hW,ck fA,l8];simpa using U
 unfold oT at al;split at al
 ·rename_i id off;split at al
  ·rename_i cs T c3 aw;cases ag:Nat.ble (Nat.add off n) c3 with
   |false=>rw[ag]at al;cases al
   |true=>
    rw[ag]at al;have ft:off+n<=c3:=bk ag;simp only[bn]at al;obtain⟨l,U,aa,ak⟩:=aO.vh cs n off K r al;obtain⟨a,aN,hu⟩:=ab.ptr;have he:=h.fc _ _ _ aw aN;obtain⟨arr,-,aZ,au,aB,-,-⟩:=he;obtain⟨cH,cz⟩:=key arr a.o off l U (by omega) λi hi v af=>by have:=aB (off+i) v (by omega) (by rw[aa i hi,af]);rw[<-kD]at this;exact this
    exact⟨_,l,_,hu,⟨rfl,arr,T,(0,0),.inr ⟨_,aZ,rfl,rfl⟩,rfl,cH⟩,cz,ak⟩
  ·cases al
 ·rename_i g off;split at al
  ·rename_i cs aw;obtain⟨l,U,aa,ak⟩:=aO.vh cs n off K r al;obtain⟨arr,T,f,a7,aB⟩:=h.kt _ _ aw;have hu:=ab.kt;have e':∀ i,i<n->∀ v,l[i]?=some v->∃ x,arr[0+off+i]?=some x/\ay D v x:=λi hi v af=>by obtain⟨x,aI,aQ⟩:=aB (off+i) v (by rw[aa i hi,af]);exact⟨x,by simpa using aI,aQ D⟩
   by_cases aF:n=0;·subst aF;have:l=[]:=h7 U;subst this;exact⟨_,[],[],hu,⟨rfl,arr,T,f,.inl a7,by simp,rfl⟩,.nil,ak⟩
   ·have bW:0+off+n<=arr.size:=by
     have a0:n-1<l.length:=by omega
     obtain⟨x,aI,_⟩:=e' (n-1) (by omega) l[n-1] (h8 a0);have:=(hU.1 aI).1;omega
    obtain⟨cH,cz⟩:=key arr 0 off l U bW e';simp only[dd]at cH cz;exact⟨_,l,_,hu,⟨rfl,arr,T,f,.inl a7,rfl,cH⟩,cz,ak⟩
  ·cases al
 ·cases al
end
def SS{k:IntKind}(h:IntKind.hy k cG=true):k=cG:=IntKind.tN h
def AO(l m:List UInt8):decide ((⟨l.toArray⟩:ByteArray)=⟨m.toArray⟩)=decide (l=m):=by
 simp only[z9];constructor
 ·intro h;simpa using h
 ·rintro rfl;rfl
def SU(a b:ByteArray):(a == b)=decide (a=b):=by
 rw[rT];simp only[e3];constructor
 ·intro h
  first | exact eq_of_beq h | exact nV (eq_of_beq (a:=a.data) (b:=b.data) h)
 ·rintro rfl
  first | exact vH _ | exact vH a.data
section
variable{P:Program}{E:Env}{D:a4}
def AP(aA:bV P E){o:Nat}{l:List ai}{x:ai}(h:u6 E t o l=some x){us:List Value}(au:a6 D l us):∃ u,ay D x u/\∀ w,(part t us.toArray o).run P w=.ok u w:=by
 unfold u6 at h;obtain⟨i,U,h⟩:=bD h;obtain⟨aD,h⟩:=rr h;have hE:i.size≠0:=λe=>by rw[e]at aD;cases aD
 obtain⟨r,aa,h⟩:=bD h;obtain⟨ax,aS⟩:=Lp aa;rw[AI]at ax;have hlen:=au.len;subst ax;refine⟨_,AM h ((au.drop o).take _),λw=>?_⟩;have:=BD (aA _ _ U) (cs:=us.toArray) (off:=o) (by rw[kW,pD]at aS;simp;omega) w;simpa using this
def EV{F:Nat->ai->ai->Option Bool}{l m:List ai}{α β:Type}{pl:α->Nat×Nat}{g:α->β->Sem (ForInStep β)}{dY s1:β}{w:World}:∀ (L:List α) {b:Bool},xK F E l m (L.map pl)=some b -> (∀ a∈L,∀ x y c,u6 E (pl a).1 (pl a).2 l=some x->u6 E (pl a).1 (pl a).2 m=some y->F (pl a).1 x y=some c->(g a dY).run P w=.ok (if c then .yield dY else .done s1) w) -> (forIn L dY g).run P w=.ok (if b then dY else s1) w
 |[],b,h,_=>by cases h;simp[bR]
 |a::L,b,h,aw=>by
  simp only[cC]at h;unfold xK at h;obtain⟨x,U,h⟩:=bD h;obtain⟨y,aa,h⟩:=bD h;obtain⟨c,ak,h⟩:=bD h;simp only[List.forIn_cons,bo];rw[aw a (by simp) x y c U aa ak];rw[gE]at h;cases c with
  |true=>simp only[kE,bd];exact EV L h λbl aN=>aw bl (by simp[aN])
  |false=>cases h;simp[bd,bR]
def EW(aA:bV P E):∀ (d:Nat) {t:Nat} {x y:ai} {b:Bool} {u v:Value},xL P E d t x y=some b->ay D x u->ay D y v->∀ n,d<=n->∀ w,(Op.equalIn n t u v).run P w=.ok b w
 |0,t,x,y,b,u,v,h,ab,aE,n,aF,w=>by cases h
 |d+1,t,x,y,b,u,v,h,ab,aE,0,aF,w=>by omega
 |d+1,t,x,y,b,u,v,h,ab,aE,n+1,aF,w=>by
  unfold xL at h;obtain⟨i,hi,h⟩:=bD h;obtain⟨mz,dv,iA⟩:=(aA _ _ hi).dr;rw[Op.equalIn];simp only[bo,run_underlying dv,bd];split at h
  ·rename_i a bl an _;cases h;have aI:mz=.bool:=by cases mz<;>simp_all[dh]
   subst aI;rw[ab.bool,aE.bool];rfl
  ·rename_i cG k a cz bl an _;obtain⟨ax,h⟩:=dR h;cases h;have aI:mz=.int cG:=by cases mz<;>simp_all[dh]
   subst aI;rw[ab.int,aE.int];rw[SS ax];have ag:(a == bl)=oQ a bl:=by
    rw[vi];by_cases e:a=bl;·subst e;simp
    ·simp[e]
   simp[ag]
  ·rename_i a bl an _;cases h;have aI:mz=.string:=by cases mz<;>simp_all[dh]
   subst aI;rw[ab.str,aE.str];show Result.ok _ _=_;rw[vj,<-AO];congr 1;exact SU _ _
  ·rename_i bB l m an _;obtain⟨ax,h⟩:=dR h;unfold KI at ax;rw[dv]at ax;cases mz with
   |struct fields=>
    simp only[bs,ln,eO,e3]at ax;obtain⟨ax,aS⟩:=ax;rw[an]at iA;simp only[dh,vM.struct.injEq]at iA;subst iA;obtain⟨us,U,rfl⟩:=ab.agg;obtain⟨ws,aa,rfl⟩:=aE.agg;simp only[bo,run_program,bd,ax,gG,g9];rw[<-Array.forIn_toList];rw[EV (P:=P) (s1:=⟨some false,⟨⟩⟩) fields.toList h (λf az x y c EX uJ aB=>by
     obtain⟨p,cH,cz⟩:=AP aA EX U;obtain⟨q,eZ,jd⟩:=AP aA uJ aa;have aR:=EW aA d aB cH eZ n (by omega) w;simp only[aS f az,kE,ne_eq,not_false_eq_true,bo,cz,jd,bd,aR];cases c<;>simp[bR])]
    cases b<;>simp[bd,bR]
   |_=>cases ax
  ·rename_i len e l m an _;obtain⟨av,eK,h⟩:=bD h;have aI:mz=.array len e:=by cases mz<;>simp_all[dh]
   subst aI;obtain⟨us,U,rfl⟩:=ab.agg;obtain⟨ws,aa,rfl⟩:=aE.agg;simp only[bo,(aA _ _ eK).run_sizeOf,bd,Hw];have al:List.range' 0 ([:len]:Std.Legacy.Range).size=List.range len:=by simp[Std.Legacy.Range.size,Bn]
   rw[al];rw[EV (P:=P) (s1:=⟨some false,⟨⟩⟩) (List.range len) h (λf az x y c EX uJ aB=>by
    obtain⟨p,cH,cz⟩:=AP aA EX U;obtain⟨q,eZ,jd⟩:=AP aA uJ aa;have aR:=EW aA d aB cH eZ n (by omega) w;simp only[bo,cz,jd,bd,aR];cases c<;>simp[bR])]
   cases b<;>simp[bd,bR]
  ·cases h
end
section
variable{X:bO}{D:a4}
def SV(aA:bV X.P X.E){op:BinOp}{l m:List ai}{v:ai}{us ws:List Value}(h:Eg X.P X.E op t l m=some v)(au:a6 D l us)(hm:a6 D m ws)(aj:∀ u,ay D v u->K u) :
  eI X.P op t x y (.val (.agg us.toArray)) (.val (.agg ws.toArray)) K O:=by
 unfold Eg at h;obtain⟨aw,h⟩:=rr h;obtain⟨b,U,h⟩:=bD h;have aR:=EW (D:=D) aA 8 U (u:=.agg us.toArray) (v:=.agg ws.toArray) (by simp only[ay];exact⟨us,au,rfl⟩) (by simp only[ay];exact⟨ws,hm,rfl⟩) Op.maxDepth (by decide);split at h
 ·cases h;refine .mk _ _ _ rfl rfl (λw=>?_) (aj _ (by simp only[ay];rfl));simp only[bo,run_eqGuard_agg (hm:=aw),bd,binOp,Op.equal,aR,bR]
 ·cases h;refine .mk _ _ _ rfl rfl (λw=>?_) (aj _ (by simp only[ay];rfl));simp only[bo,run_eqGuard_agg (hm:=aw),bd,binOp,Op.equal,aR,bR]
 ·cases h
end
abbrev b'(X:bO)(G:GT)(pr:g5):dJ:=⟨X.P,X.E,G,pr⟩
section
variable{X:bO}{G:GT}{pr:g5}{D:a4}{m:aU}{F:Fr}{ah:aO ai}{C:b6}{I:aG}{M:List aC}{V:b0->Prop}{O:Prop}
def jo{a b:α}(h:some a=some b):a=b:=by cases h;rfl
def SW{op:BinOp}{k:IntKind}{a b:Int}{v:ai}(h:Ed op k cG a b=some v)(aj:∀ u,ay D v u->K u):gZ op cA (.val (.int k a)) (.val (.int cG b)) K O:=by
 have mk:∀ {q:ai} {u:Value},some q=some v->ay D q u->K u:=λe hu=>aj _ (jo e ▸ hu);unfold Ed at h;split at h
 ·split at h
  ·rename_i j;refine⟨j,rfl,⟨_,rfl,mk h ?_⟩⟩;simp only[ay];rw[rs,SP,gE,Ln]
  ·cases h
 ·split at h
  ·rename_i j;refine⟨j,rfl,mk h ?_⟩;simp only[ay];rw[SQ,gE,Ln]
  ·cases h
 all_goals obtain⟨aR,h⟩:=dR h
 all_goals simp only[gZ,aR,bn]
 ·exact⟨_,rfl,mk h (by simp only[ay];rw[rs,SK])⟩
 ·exact⟨_,rfl,mk h (by simp only[ay];rw[rs,SL])⟩
 ·exact⟨_,rfl,mk h (by simp only[ay];rw[rs,SM])⟩
 ·obtain⟨aD,h⟩:=rr h;refine⟨λe=>?_,_,rfl,mk h (by simp only[ay];rw[rs,SN])⟩;rw[vi,e]at aD;simp at aD
 ·obtain⟨aD,h⟩:=rr h;refine⟨λe=>?_,mk h (by simp only[ay];rw[SO])⟩;rw[vi,e]at aD;simp at aD
 ·obtain⟨r,al,h⟩:=bD h;rw[AG al];exact mk h (by simp only[ay])
 ·obtain⟨r,al,h⟩:=bD h;rw[AG al];exact mk h (by simp only[ay])
 ·obtain⟨r,al,h⟩:=bD h;rw[AG al];exact mk h (by simp only[ay])
 ·obtain⟨r,al,h⟩:=bD h;rw[AG al];exact mk h (by simp only[ay])
 ·obtain⟨r,al,h⟩:=bD h;rw[SJ]at al;have af:v=.b r:=(jo h).symm;subst af;have oO:K (.bool r):=aj _ (by simp only[ay]);cases op<;>first
   |contradiction|(rw[al];exact oO)
def EY(b:Bool):bf b false true=!b:=by cases b<;>rfl
def SX{op:BinOp}{a b:List UInt8}{v:ai}(h:Ee op a b=some v)(aj:∀ u,ay D v u->K u) :
  gZ op cA (.val (.string ⟨a.toArray⟩)) (.val (.string ⟨b.toArray⟩)) K (eI P op t x y (.val (.string ⟨a.toArray⟩)) (.val (.string ⟨b.toArray⟩)) K O):=by
 unfold Ee at h;split at h
 ·cases h;refine aj _ ?_;simp only[ay];rw[AO,vj]
 ·cases h;refine aj _ ?_;simp only[ay];rw[AO,vj,EY]
 ·obtain⟨au,h⟩:=dR h;cases h;have kL:=bk au;refine eI.concat (by simpa[ByteArray.size]using kL) (aj _ ?_);simp only[ay];congr 1
 ·cases h
def SY{op:BinOp}{a b:Bool}{v:ai}(h:Ef op cA a b=some v)(aj:∀ u,ay D v u->K u):gZ op cA (.val (.bool a)) (.val (.bool b)) K O:=by
 unfold Ef at h;split at h
 ·split at h
  ·cases h;exact aj _ (by simp only[ay])
  ·cases h;exact aj _ (by simp only[ay])
  ·cases h
 ·cases h
def SZ{x:ai}{b:Bool}(h:Eh x=some b){u:Value}(hu:ay D x u):∃ a n c,u=.slice a n c/\b=a.isNone:=by
 cases x<;>simp only[Eh,hr,reduceCtorEq]at h<;>subst h<;>simp only[ay]at hu
 ·exact⟨_,_,_,hu,rfl⟩
 ·obtain⟨a,-,hu⟩:=hu;exact⟨_,_,_,hu,rfl⟩
 ·obtain⟨a,-,-,hu⟩:=hu;exact⟨_,_,_,hu,rfl⟩
 ·exact⟨_,_,_,hu,rfl⟩
 ·obtain⟨a,c,hu⟩:=hu;exact⟨_,_,_,hu,rfl⟩
def S0{x:ai}{b:Bool}(h:Ei x=some b){u:Value}(hu:ay D x u):∃ p,u=.pointer p/\b=p.isNone:=by
 cases x<;>simp only[Ei,hr,reduceCtorEq]at h<;>subst h<;>simp only[ay]at hu
 ·exact⟨_,hu,rfl⟩
 ·obtain⟨a,-,hu⟩:=hu;exact⟨_,hu,rfl⟩
 ·exact⟨_,hu,rfl⟩
def S1{e:Nat}(h:P.underlying t=some (.slice e))(a:Option Addr)(n c:Nat)(w:World):(Op.equal t (.slice a n c) (.slice none 0 0)).run P w=.ok a.isNone w:=by
 have key:∀ d,(Op.equalIn (d+1) t (.slice a n c) (.slice none 0 0)).run P w=.ok a.isNone w:=λd=>by cases a<;>simp[Op.equalIn,run_underlying h]
 exact key 9999
def S2{e:Nat}(h:P.underlying t=some (.pointer e))(p:Option Addr)(w:World):(Op.equal t (.pointer p) (.pointer none)).run P w=.ok p.isNone w:=by
 have key:∀ d,(Op.equalIn (d+1) t (.pointer p) (.pointer none)).run P w=.ok p.isNone w:=λd=>by cases p<;>simp[Op.equalIn,run_underlying h]
 exact key 9999
def Lr{op:BinOp}{b:Bool}{v:ai}{p q:Value}(aw:∀ w,op=.eql\/op=.neq->(eqGuard op t x y p q).run P w=.ok () w)(he:∀ w,(Op.equal t p q).run P w=.ok b w)(ag:∀ w,(binOp .eql t p q).run P w=.ok (.bool b) w)(aF:∀ w,(binOp .neq t p q).run P w=.ok (.bool (!b)) w)(h:Ao op b=some v)(aj:∀ u,ay D v u->K u):eI P op t x y (.val p) (.val q) K O:=by
 unfold Ao at h;split at h
 ·cases h;refine .mk p q (.bool b) rfl rfl (λw=>?_) (aj _ (by simp only[ay]));simp only[bo,aw w (.inl rfl),bd,ag w]
 ·cases h;refine .mk p q (.bool (!b)) rfl rfl (λw=>?_) (aj _ (by simp only[ay]));simp only[bo,aw w (.inr rfl),bd,aF w]
 ·cases h
def S3(aA:bV X.P X.E){op:BinOp}{x y v:ai}{S4:Operand}{u w:Value}(h:Ej X.P X.E op t x y=some v)(ab:ay D x u)(aE:ay D y w)(aj:∀ u,ay D v u->K u) :
  gZ op (X.E t) (.val u) (.val w) K (eI X.P op t jO S4 (.val u) (.val w) K O):=by
 unfold Ej at h;split at h
 ·rw[ab.int,aE.int];exact SW h aj
 ·rw[ab.str,aE.str];exact SX h aj
 ·rw[ab.bool,aE.bool];exact SY h aj
 ·obtain⟨us,U,rfl⟩:=ab.agg;obtain⟨ws,aa,rfl⟩:=aE.agg;exact SV aA h U aa aj
 ·obtain⟨i,hi,h⟩:=bD h;split at h
  ·rename_i e iA;obtain⟨b,U,h⟩:=bD h;obtain⟨a,n,c,rfl,rfl⟩:=SZ U ab;simp only[ay]at aE;subst aE;obtain⟨d,dv,dN⟩:=(aA _ _ hi).dr;have aa:d=.slice e:=by rw[iA]at dN;cases d<;>simp_all[dh]
   subst aa;have he:=S1 dv a n c;exact Lr (λw ar=>by rcases ar with rfl | rfl<;>(unfold eqGuard;rfl)) he (λw=>by simp only[binOp];simp[he w]) (λw=>by simp only[binOp];simp[he w]) h aj
  ·cases h
 ·obtain⟨i,hi,h⟩:=bD h;split at h
  ·rename_i e iA;obtain⟨b,U,h⟩:=bD h;obtain⟨p,rfl,rfl⟩:=S0 U ab;simp only[ay]at aE;subst aE;obtain⟨d,dv,dN⟩:=(aA _ _ hi).dr;have aa:d=.pointer e:=by rw[iA]at dN;cases d<;>simp_all[dh]
   subst aa;have he:=S2 dv p;exact Lr (λw ar=>by rcases ar with rfl | rfl<;>(unfold eqGuard;rfl)) he (λw=>by simp only[binOp];simp[he w]) (λw=>by simp only[binOp];simp[he w]) h aj
  ·cases h
 ·cases h
variable(aA:bV X.P X.E)(hm:bP (b' X G pr) D m I M)
def vk{v:ai}{n:Nat}(h:v.nat=some n):∃ k,v=.i k (.ofNat n):=by
 unfold ai.nat at h;split at h
 ·cases h;exact⟨_,rfl⟩
 ·cases h
def Ls{x v:ai}{n:Nat}{u:Value}(h:xM x n=some v)(ab:ay D x u):∃ a,u=.pointer (some a)/\a.spot=none/\ay D v (.pointer (some (a.add n))):=by
 unfold xM at h;split at h
 ·cases h;obtain⟨a,aN,rfl⟩:=ab.ptr;refine⟨_,rfl,rfl,?_⟩;rw[cY _ rfl];simp only[ay];exact⟨a,aN,by simp only[rf,kD]⟩
 ·cases h;refine⟨_,ab.kt,rfl,?_⟩;rw[cY _ rfl];simp only[ay];rfl
 ·cases h
def S5{x v:ai}{j:Nat}{u:Value}(h:Ap x j sz=some v)(ab:ay D x u):∃ a n c,u=.slice (some a) n c/\j<n/\ay D v (.pointer (some (a.add (j*sz)))):=by
 unfold Ap at h;split at h
 ·cases ag:Nat.blt j _ with
  |false=>rw[ag]at h;cases h| true=>rw[ag]at h;cases h;obtain⟨a,aN,rfl⟩:=ab.l0;refine⟨_,_,_,rfl,bk ag,?_⟩;rw[cY _ rfl];simp only[ay];exact⟨a,aN,by simp only[rf,uM,kD]⟩
 ·cases ag:Nat.blt j _ with
  |false=>rw[ag]at h;cases h| true=>rw[ag]at h;cases h;obtain⟨a,aN,_,rfl⟩:=ab.nK;refine⟨_,_,_,rfl,bk ag,?_⟩;rw[cY _ rfl];simp only[ay];exact⟨a,aN,by simp only[rf,uM,kD]⟩
 ·cases ag:Nat.blt j _ with
  |false=>rw[ag]at h;cases h| true=>rw[ag]at h;cases h;refine⟨_,_,_,ab.ES,bk ag,?_⟩;rw[cY _ rfl];simp only[ay];rfl
 ·cases h
def Lt{cs:List ai}{v:ai}{us:List Value}(h:Ar av cs off=some v)(aB:a6 D cs us) :
  off+av.size<=us.length/\ay D v (pack av.bc.agg ((us.drop off).take av.size)):=by
 unfold Ar at h;obtain⟨aD,h⟩:=rr h;obtain⟨l,U,aa⟩:=bD h;have hE:av.size≠0:=λe=>by rw[e]at aD;cases aD
 obtain⟨rfl,au⟩:=Lp U;rw[AI]at aa au;refine⟨?_,AM aa ((aB.drop off).take _)⟩;have:=aB.len;simp at au;omega
def Lu{i:Nat}{eh:cF}(h:Aq E t i=some (off,eh)):∃ a b z bB hx,E t=some ⟨a,b,z,.struct bB⟩/\bB[i]?=some (hx,off)/\E hx=some eh:=by
 unfold Aq at h;split at h
 ·rename_i a b z bB aq;split at h
  ·rename_i hx o az;rw[rv]at az;split at h
   ·rename_i f x1;cases h;exact⟨_,_,_,_,hx,aq,az,x1⟩
   ·cases h
  ·cases h
 ·cases h
def S6(h:Em E t=some (r,av)):(∃ a b z e,E t=some ⟨a,b,z,.slice e⟩/\E e=some av/\r=none)\/∃ a b z n e,E t=some ⟨a,b,z,.array n e⟩/\E e=some av/\r=some n:=by
 unfold Em at h;split at h
 ·rename_i a b z e aq;split at h
  ·cases h;exact .inl ⟨_,_,_,_,aq,by assumption,rfl⟩
  ·cases h
 ·rename_i a b z n e aq;split at h
  ·cases h;exact .inr ⟨_,_,_,_,_,aq,by assumption,rfl⟩
  ·cases h
 ·cases h
def S7{x i v:ai}{u w:Value}(h:xN X.E t (some x) (some i)=some v)(ab:ay D x u)(hi:ay D i w){ρ:Operand->b0}{dz:Operand}(EZ:cf ρ jO=.val u)(eS:cf ρ dz=.val w)
  (k:∀ x,dn D x v->V x):bw X (.index t jO dz) ρ C I M V O:=by
 unfold xN at h;split at h
 ·rename_i l eb aq U aa;cases U;cases aa;obtain⟨j,ap,h⟩:=bD h;obtain⟨dq,rfl⟩:=vk ap;have eH:En l j=some v:=h;unfold En at eH;obtain⟨b,ag,eE⟩:=bD eH;cases eE;rw[rv]at ag;rw[ab.str]at EZ;rw[hi.int]at eS;have a0:=(gf.1 ag).1;simp only[bw,aq,EZ,eS];refine⟨j,rfl,by simpa[ByteArray.size]using a0,k _ (.val ?_)⟩;simp only[ay];have:(⟨l.toArray⟩:ByteArray)[j]'(by simpa[ByteArray.size]using a0)=b:=by have:=(gf.1 ag).2;show l.toArray[j]'_=b;simpa using this
  rw[this];rfl
 ·rename_i n e cs eb aq U aa;cases U;cases aa;obtain⟨av,he,h⟩:=bD h;obtain⟨j,ap,h⟩:=bD h;obtain⟨dq,rfl⟩:=vk ap;obtain⟨us,di,rfl⟩:=ab.agg;unfold KR at h;obtain⟨ag,h⟩:=dR h;rw[bs]at ag;obtain⟨ak,aL⟩:=Lt h di;rw[hi.int]at eS;simp only[bw,aq,EZ,eS,he];have bW:Nat.beq (n*av.size) us.toArray.size=true:=by have be:=cb ag.1;rw[mU,di.len,<-be];exact kF _
  rw[bW];simp only[bn];exact⟨j,rfl,bk ag.2,k _ (.val aL)⟩
 ·cases h
def S8{x v:ai}{l:Nat}{h:Option Nat}{u:Value}(an:Ek x sz l h=some v)(ab:ay D x u):∃ a n c,u=.slice a n c/\l<=h.getD n/\h.getD n<=c/\(h=none->l<=n) /\
  ay D v (.slice (if c=l then a else a.map (·.add (l*sz))) (h.getD n-l) (c-l)):=by
 unfold Ek at an;split at an
 ·cases ag:(Nat.beq l 0&&Nat.beq (h.getD 0) 0)with
  |false=>rw[ag]at an;cases an| true=>rw[ag]at an;cases an;rw[bs]at ag;have U:=cb ag.1;have aa:=cb ag.2;subst U;refine⟨none,0,0,ab.tg,by omega,by omega,λ_=>by omega,?_⟩;rw[aa];simp[ay]
 ·rename_i id off n c;obtain⟨a,aN,rfl⟩:=ab.l0;simp only at an;cases ag:(Nat.ble l (h.getD n)&&Nat.ble (h.getD n) c)with
  |false=>rw[ag]at an;cases an
  |true=>
   rw[ag]at an;simp only[bn]at an;rw[bs]at ag;have U:=bk ag.1;have aa:=bk ag.2;refine⟨_,n,c,rfl,U,aa,λe=>by subst e;exact U,?_⟩;rw[EQ]at an;by_cases e:c=l;·subst e;simp only[decide_true,bn]at an;cases an;simp only[kE,ay];exact⟨a,aN,by simp only[uN,Aa]⟩
   ·simp only[e,decide_false,bj]at an;cases an;simp only[e,g9,ay,gX];refine⟨a,aN,?_⟩;rw[cY _ rfl];simp only[rf,uM,uN,kD]
 ·rename_i id off e n;obtain⟨a,aN,hle,rfl⟩:=ab.nK;simp only at an;cases ag:(Nat.ble l (h.getD n)&&Nat.ble (h.getD n) n)with
  |false=>rw[ag]at an;cases an
  |true=>
   rw[ag]at an;simp only[bn]at an;rw[bs]at ag;have U:=bk ag.1;have aa:=bk ag.2;refine⟨_,n,a.c-e,rfl,U,by omega,λe=>by subst e;exact U,?_⟩;cases aB:(Nat.beq l 0||Nat.blt l n)with
   |true=>
    rw[aB]at an;simp only[bn]at an;cases an;rw[gY]at aB;simp only[ay];refine⟨a,aN,by simp only[rf,uN];omega,?_⟩;have ak:a.c-e-l=a.c-(e+l):=by omega
    by_cases aD:l=0
    ·subst aD;simp only[sm,Nat.sub_zero,gX,rf,uM,uN,mW];split
     ·rfl
     ·rw[cY _ rfl];simp
    ·have aL:l<n:=by
      rcases aB with aB | aB;·exact absurd (cb aB) aD
      ·exact bk aB
     rw[cd (by omega)];simp only[gX];rw[cY _ rfl];simp only[rf,uM,uN,kD,ak]
   |false=>
    rw[aB]at an;simp only[bj]at an;cases an;rw[mq]at aB;have aL:¬ l<n:=λa0=>by have:=uK (show l.succ<=n from a0);rw[show Nat.blt l n=Nat.ble l.succ n from rfl,this]at aB;cases aB.2
    have be:h.getD n-l=0:=by omega
    simp only[ay,be];split;·exact⟨_,_,rfl⟩
    ·exact⟨_,_,rfl⟩
 ·cases an
end
section
variable{X:bO}{G:GT}{pr:g5}{D:a4}{m:aU}{F:Fr}{ah:aO ai}{C:b6}{I:aG}{M:List aC}{V:b0->Prop}{O:Prop}
def S9(c:Bool)(a b:Value):yN c (.val a) (.val b)=.val (bif c then a else b):=by cases a<;>cases b<;>cases c<;>rfl
def Lv{o:Option Operand}{xs:List Operand}(H:fr D F ah xs)(ab:∀ y,o=some y->y∈xs)(h:ta (o.map (bS ah))=some r) :
  (o.map (cf (bZ F))=none/\r=none)\/∃ k n,o.map (cf (bZ F))=some (.val (.int k (Int.ofNat n)))/\r=some n:=by
 cases o with
 |none=>simp[ta]at h;exact .inl ⟨rfl,h.symm⟩
 |some y=>
  simp only[gX,ta]at h;cases af:bS ah y with
  |none=>rw[af]at h;cases h
  |some v=>
   rw[af]at h;simp only at h;split at h;·rename_i n aF;cases h;obtain⟨k,rfl⟩:=vk aF;obtain⟨u,hu,al⟩:=H.a' (ab y rfl) af;rw[al.int]at hu;exact .inr ⟨k,n,by simp only[gX];exact congrArg some hu,rfl⟩
   ·cases h
def E0(l:List UInt8)(lo hi:Nat):(⟨(El l lo hi).toArray⟩:ByteArray)=(⟨l.toArray⟩:ByteArray).extract lo hi:=by apply nV;apply dT;unfold El;rw[AI];simp[yF,List.extract_eq_take_drop]
def S'{v:ai}{n:Nat}{u:Value}(h:oU v=some n)(af:ay D v u):∃ a c,u=.slice a n c:=by
 unfold oU at h;split at h
 ·cases h;exact⟨_,_,af.tg⟩
 ·cases h;obtain⟨a,c,rfl⟩:=af.AJ;exact⟨_,_,rfl⟩
 ·cases h;obtain⟨a,_,rfl⟩:=af.l0;exact⟨_,_,rfl⟩
 ·cases h;obtain⟨a,_,_,rfl⟩:=af.nK;exact⟨_,_,rfl⟩
 ·cases h;exact⟨_,_,af.ES⟩
 ·cases h
def Ta(aA:bV X.P X.E){b:Builtin}{args:Array Operand}{c6:Array TypeId}{v:ai}(h:Er X.E b c6.toList (iN ah args.toList)=some v)(H:fr D F ah args.toList)(k:∀ x,dn D x v->V x) :
  bw X (.call { callee:=.builtin b,args:=args,argTypes:=c6 }) (bZ F) C I M V O:=by
 unfold Er at h;split at h
 ·
  unfold KW at h;split at h
  ·rename_i t w aq au;obtain⟨us,ax,aI⟩:=H.hv (λ_ h=>h) au;obtain⟨u,xs,aQ,bG,rfl⟩:=aI.gv;have:=bG.iv;subst this;have cq:fN (bZ F) args.toList=some [u]:=ax;simp only[bw,aq,cq];split at h
   ·rename_i a b z e mR iY;unfold As at h;obtain⟨n,aF,h⟩:=bD h;have eE:some (ai.i .i64 (.ofNat n))=some v:=h;cases eE;obtain⟨bl,c,rfl⟩:=S' aF aQ;simp only[iY];exact k _ (.val (by simp only[ay];rfl))
   ·rename_i a b z l iY;cases h;rw[aQ.str];simp only[iY];refine k _ (.val ?_);simp only[ay];simp[ByteArray.size]
   ·rename_i a b z n e mR iY;cases h;cases u<;>(simp only[iY];exact k _ (.val (by simp only[ay];rfl)))
   ·cases h
  ·cases h
 ·unfold KX at h;split at h
  ·rename_i cH a cz b au;obtain⟨us,ax,aI⟩:=H.hv (λ_ h=>h) au;obtain⟨u,xs,aQ,bG,rfl⟩:=aI.gv;obtain⟨w,E1,eU,nj,rfl⟩:=bG.gv;have:=nj.iv;subst this;have cq:fN (bZ F) args.toList=some [u,w]:=ax;rw[aQ.int,eU.int]at cq;simp only[bw,cq];cases h;refine k _ (.val ?_);simp only[ay];rw[gE,AF];by_cases en:a<=b
   ·simp[en];omega
   ·simp[en];omega
  ·cases h
 ·unfold KY at h;split at h
  ·rename_i cH a cz b au;obtain⟨us,ax,aI⟩:=H.hv (λ_ h=>h) au;obtain⟨u,xs,aQ,bG,rfl⟩:=aI.gv;obtain⟨w,E1,eU,nj,rfl⟩:=bG.gv;have:=nj.iv;subst this;have cq:fN (bZ F) args.toList=some [u,w]:=ax;rw[aQ.int,eU.int]at cq;simp only[bw,cq];cases h;refine k _ (.val ?_);simp only[ay];rw[gE,AF];by_cases en:a<=b
   ·simp[en];omega
   ·simp[en];omega
  ·cases h
 ·unfold KZ at h;split at h
  ·rename_i t id off n c aq au;split at h
   ·rename_i a b z e iY;cases h;obtain⟨us,ax,aI⟩:=H.hv (λ_ h=>h) au;obtain⟨u,xs,aQ,bG,rfl⟩:=aI.gv;have:=bG.iv;subst this;obtain⟨bl,aN,rfl⟩:=aQ.l0;have cq:fN (bZ F) args.toList=some [_]:=ax;simp only[bw,aq,cq,iY];exact k _ (.val (by simp only[ay];rfl))
   ·cases h
  ·cases h
 ·unfold K0 at h;split at h
  ·rename_i au;cases h;obtain⟨us,ax,aI⟩:=H.hv (λ_ h=>h) au;obtain⟨u,xs,aQ,bG,rfl⟩:=aI.gv;have:=bG.iv;subst this;rw[aQ.tg]at ax;have cq:fN (bZ F) args.toList=some [_]:=ax;simp only[bw,cq];exact k _ (.val (by simp only[ay]))
  ·rename_i id off n c au;obtain⟨aD,h⟩:=rr h;cases h;obtain⟨us,ax,aI⟩:=H.hv (λ_ h=>h) au;obtain⟨u,xs,aQ,bG,rfl⟩:=aI.gv;have:=bG.iv;subst this;obtain⟨bl,aN,rfl⟩:=aQ.l0;have cq:fN (bZ F) args.toList=some [_]:=ax;simp only[bw,cq];refine⟨λe=>?_,k _ (.val ?_)⟩
   ·have:c=0:=by omega
    subst this;cases aD
   ·simp only[ay];exact⟨bl,aN,rfl⟩
  ·rename_i id off e n au;obtain⟨aD,h⟩:=rr h;cases h;obtain⟨us,ax,aI⟩:=H.hv (λ_ h=>h) au;obtain⟨u,xs,aQ,bG,rfl⟩:=aI.gv;have:=bG.iv;subst this;obtain⟨bl,aN,hle,rfl⟩:=aQ.nK;have cq:fN (bZ F) args.toList=some [_]:=ax;simp only[bw,cq];refine⟨λb2=>?_,k _ (.val ?_)⟩
   ·have:n=0:=by omega
    subst this;cases aD
   ·simp only[ay];exact⟨bl,aN,rfl⟩
  ·cases h
 ·cases h
def Tb(aA:bV X.P X.E){op:Op}{v:ai}(h:Es X.P X.E G m.t op ah=some v)(H:fr D F ah op.operands.toList)(hm:bP (b' X G pr) D m I M)(k:∀ x,dn D x v->V x):bw X op (bZ F) C I M V O:=by
 unfold Es at h;split at h
 ·
  exact k _ (H _ (by simp[Op.operands]) _ h)
 ·exact k _ (H _ (by simp[Op.operands]) _ h)
 ·
  rename_i c a b;unfold KJ at h;split at h
  ·rename_i q u w U aa ak;cases h;have aB:=H c (by simp[Op.operands]) _ U;have aN:=H a (by simp[Op.operands]) _ aa;have ag:=H b (by simp[Op.operands]) _ ak;simp only[bw];rcases aB with⟨X5,o0,aB⟩ | ⟨c4,b2,o0⟩
   ·rw[aB.bool]at o0;simp only[o0];obtain⟨E2,Tc,Td⟩:=aN.cf;obtain⟨E3,vl,bC⟩:=ag.cf;have Te:cf (bZ F) a=.val E2:=Tc;have Tf:cf (bZ F) b=.val E3:=vl;rw[Te,Tf];refine k _ (.inl ⟨bif q then E2 else E3,?_,?_⟩)
    ·exact S9 q E2 E3
    ·cases q
     ·exact bC
     ·exact Td
   ·cases b2;simp only[o0];cases q
    ·exact k _ ag
    ·exact k _ aN
  ·cases h
 ·
  rename_i X6 t x;unfold KK at h;split at h
  ·rename_i b U;cases h;have ab:=H x (by simp[Op.operands]) _ U;simp only[bw];rcases ab with⟨u,e,hu⟩ | ⟨q,ax,e⟩
   ·rw[hu.bool]at e;simp only[e];exact k _ (.val (by simp only[ay];rw[EY]))
   ·cases ax;simp only[e];exact k _ (.inr ⟨!b,by rw[EY],rfl⟩)
  ·rename_i dq n U;cases h;have ab:=H x (by simp[Op.operands]) _ U;obtain⟨u,e,hu⟩:=ab.oZ (by simp);rw[hu.int]at e;simp only[bw,e];exact⟨_,rfl,k _ (.val (by simp only[ay];rw[rs]))⟩
  ·cases h
 ·
  rename_i X7 t x y cD;unfold KL at h;obtain⟨a,U,h⟩:=bD h;obtain⟨b,aa,h⟩:=bD h;obtain⟨u,ax,aI⟩:=H.a' (x:=x) (by simp[Op.operands]) U;obtain⟨w,aS,aQ⟩:=H.a' (x:=y) (by simp[Op.operands]) aa;have cq:cf (bZ F) x=.val u:=ax;have kJ:cf (bZ F) y=.val w:=aS;simp only[bw,cq,kJ];exact S3 aA h aI aQ λr al=>k _ (.val al)
 ·
  rename_i t x;unfold KM at h;obtain⟨i,hi,h⟩:=bD h;obtain⟨a,U,h⟩:=bD h;have ab:=H x (by simp[Op.operands]) _ U;have jk:∀ q,a≠.b q:=λq e=>by subst e;cases h
  obtain⟨u,ax,aI⟩:=ab.oZ jk;obtain⟨ad,l,vs,rfl,cj,au,aK⟩:=ry hm aI h;simp only[bw,hi,ax];exact⟨vs,cj,k _ (.val (AM aK au))⟩
 ·
  rename_i x;unfold KN at h;split at h;·rename_i id off U;cases h;obtain⟨u,ax,aI⟩:=(H x (by simp[Op.operands]) _ U).oZ (by simp);obtain⟨a,aN,rfl⟩:=aI.ptr;simp only[bw,ax];exact k _ (.val aI)
  ·rename_i id off U;cases h;obtain⟨u,ax,aI⟩:=(H x (by simp[Op.operands]) _ U).oZ (by simp);have:=aI.kt;subst this;simp only[bw,ax];exact k _ (.val aI)
  ·cases h
 ·
  rename_i t x i;unfold KO at h;obtain⟨r,al,h⟩:=bD h;obtain⟨a,U,h⟩:=bD h;obtain⟨off,eh⟩:=r;obtain⟨a2,h⟩:=rr h;obtain⟨sa,l1,sz,bB,hx,aq,az,x1⟩:=Lu al;have ab:=H x (by simp[Op.operands]) _ U;have jk:∀ q,a≠.b q:=λq e=>by subst e;cases h
  obtain⟨u,ax,aI⟩:=ab.oZ jk;obtain⟨ad,rfl,an,af⟩:=Ls h aI;have fQ:Nat.beq eh.size 0=false:=a2;simp only[bw,aq,az,x1,ax,fQ,bj];exact k _ (.val af)
 ·
  rename_i t x i;unfold KP at h;split at h;·rename_i off eh cs aD U;obtain⟨sa,l1,sz,bB,hx,aq,az,x1⟩:=Lu aD;obtain⟨u,ax,aI⟩:=H.a' (x:=x) (by simp[Op.operands]) U;obtain⟨us,di,rfl⟩:=aI.agg;obtain⟨aa,ak⟩:=Lt h di;have cq:cf (bZ F) x=.val (.agg us.toArray):=ax;simp only[bw,aq,cq,az,x1];rw[show Nat.ble (off+eh.size) us.toArray.size=true from uK (by simpa using aa)];exact k _ (.val ak)
  ·cases h
 ·
  rename_i t x i;unfold KQ at h;obtain⟨r,al,h⟩:=bD h;obtain⟨a,U,h⟩:=bD h;obtain⟨b,aa,h⟩:=bD h;obtain⟨j,ap,h⟩:=bD h;obtain⟨dq,rfl⟩:=vk ap;obtain⟨u,aS,aQ⟩:=H.a' (x:=i) (by simp[Op.operands]) aa;rw[aQ.int]at aS;have kJ:cf (bZ F) i=.val (.int dq (.ofNat j)):=aS;obtain⟨X8,av⟩:=r;rcases S6 al with⟨sa,l1,sz,e,aq,he,rfl⟩ | ⟨sa,l1,sz,n,e,aq,he,rfl⟩;·have aP:Ap a j av.size=some v:=h;obtain⟨w,ax,aI⟩:=H.a' (x:=x) (by simp[Op.operands]) U;obtain⟨ad,n,c,rfl,a0,af⟩:=S5 aP aI;have cq:cf (bZ F) x=.val (.slice (some ad) n c):=ax;simp only[bw,aq,kJ,he,cq];exact⟨ad,j,rfl,rfl,a0,k _ (.val af)⟩
  ·have aP:bf (Nat.blt j n) (xM a (Nat.mul j av.size)) none=some v:=h;obtain⟨ag,aP⟩:=dR aP;have ab:=H x (by simp[Op.operands]) _ U;have jk:∀ q,a≠.b q:=λq e=>by subst e;cases aP
   obtain⟨w,ax,aI⟩:=ab.oZ jk;obtain⟨ad,rfl,an,af⟩:=Ls aP aI;simp only[bw,aq,kJ,he,ax];exact⟨j,rfl,bk ag,k _ (.val af)⟩
 ·
  rename_i t x i;cases U:bS ah x with
  |none=>rw[U]at h;unfold xN at h;split at h<;>first | cases h | (rename_i e _;cases e)
  |some a=>
   cases aa:bS ah i with
   |none=>rw[aa]at h;unfold xN at h;split at h<;>first | cases h | (rename_i e;cases e)
   |some b=>rw[U,aa]at h;obtain⟨u,ax,aI⟩:=H.a' (x:=x) (by simp[Op.operands]) U;obtain⟨w,aS,aQ⟩:=H.a' (x:=i) (by simp[Op.operands]) aa;exact S7 h aI aQ ax aS k
 ·
  rename_i t parts;unfold KS at h;split at h
  ·rename_i i vs aq aK;obtain⟨z,a2,h⟩:=bD h;have fQ:=a6.sX (D:=D) a2;obtain⟨us,ax,aI⟩:=H.parts (l:=parts.toList) (by intro y aE;simpa[Op.operands]using aE) aK;have cq:mb (bZ F) parts.toList=some us:=ax
   try simp only at h
   split at h;·rename_i bB iA;obtain⟨IF,h⟩:=dR h;unfold xO at h;obtain⟨cs,ak,aL⟩:=bD h;have eE:some (ai.a cs)=some v:=aL;cases eE;obtain⟨aV,be,bT⟩:=AN ak fQ aI;simp only[bw,aq,cq,iA,IF,bn,be];exact k _ (.val (.AK bT))
   ·rename_i n e iA;obtain⟨av,he,h⟩:=bD h;have aP:xO (rn (λj=>some (j*av.size,av.size)) z vs)=some v:=h;unfold xO at aP;obtain⟨cs,ak,aL⟩:=bD aP;have eE:some (ai.a cs)=some v:=aL;cases eE;obtain⟨aV,be,bT⟩:=AN ak fQ aI;simp only[bw,aq,cq,iA,he,be];exact k _ (.val (.AK bT))
   ·cases h
  ·cases h
 ·
  rename_i f first captured
  unfold KT at h;split at h
  ·rename_i g bB cs U aa;cases h;obtain⟨us,ax,aI⟩:=H.hv (l:=first.toList) (by intro y aE;simp[Op.operands];exact .inl (by simpa using aE)) U;obtain⟨ws,aS,aQ⟩:=H.hv (l:=captured.toList) (by intro y aE;simp[Op.operands];exact .inr (by simpa using aE)) aa;have cq:fN (bZ F) first.toList=some us:=ax
   have kJ:fN (bZ F) captured.toList=some ws:=aS;simp only[bw,cq,kJ];exact k _ (.val (by simp only[ay];exact⟨us,ws,aI,aQ,rfl⟩))
  ·cases h
 ·
  rename_i t x lo hi;cases U:bS ah x with
  |none=>rw[U]at h;unfold xP at h;split at h<;>first | cases h | (rename_i e _ _;cases e)
  |some a=>
   rw[U]at h;cases aa:ta (lo.map (bS ah))with
   |none=>rw[aa]at h;unfold xP at h;split at h<;>first | cases h | (rename_i e _;cases e)
   |some l=>
    rw[aa]at h;cases ak:ta (hi.map (bS ah))with
    |none=>rw[ak]at h;unfold xP at h;split at h<;>first | cases h | (rename_i e;cases e)
    |some b7=>
     rw[ak]at h;obtain⟨u,ax,aI⟩:=H.a' (x:=x) (by simp[Op.operands]) U;have cq:cf (bZ F) x=.val u:=ax;have dx:=Lv H (λy aE=>by subst aE;simp[Op.operands]) aa;have dU:=Lv H (λy aE=>by subst aE;simp[Op.operands]) ak;unfold xP at h;split at h
     ·rename_i sa l1 sz e iW Tg cr aq b5 ea mD;cases b5;cases ea;cases mD;obtain⟨av,he,h⟩:=bD h;have aP:Eo av a l b7=some v:=h;unfold Eo at aP;split at aP
      ·have el:lo.map (cf (bZ F))=none:=by
        rcases dx with⟨el,_⟩ | ⟨_,_,_,el⟩;·exact el
        ·cases el
       have jq:hi.map (cf (bZ F))=none:=by
        rcases dU with⟨jq,_⟩ | ⟨_,_,_,jq⟩;·exact jq
        ·cases jq
       have jM:∃ q n c,u=.slice q n c/\ay D v u:=by
        split at aP;·cases aP;exact⟨_,_,_,aI.tg,aI⟩
        ·cases aP;obtain⟨q,_,rfl⟩:=aI.l0;exact⟨_,_,_,rfl,aI⟩
        ·cases aP;obtain⟨q,_,_,rfl⟩:=aI.nK;exact⟨_,_,_,rfl,aI⟩
        ·cases aP;obtain⟨q,c,rfl⟩:=aI.AJ;exact⟨_,_,_,rfl,aI⟩
        ·cases aP
       obtain⟨q,n,c,rfl,af⟩:=jM;simp only[bw,aq,cq,he,el,jq];exact k _ (.val af)
      ·obtain⟨q,n,c,rfl,fu,fF,lR,af⟩:=S8 aP aI;simp only[bw,aq,cq,he];rcases dx with⟨el,rfl⟩ | ⟨vX,x2,el,rfl⟩<;>rcases dU with⟨jq,rfl⟩ | ⟨Th,x3,jq,rfl⟩<;>simp only[el,jq]
       ·rename_i br;exact(br rfl rfl).elim
       ·simp only[mV,hs]at fu fF af;refine⟨0,x3,rfl,rfl,gq _,fF,k _ (.val ?_)⟩;simp only[sm,Nat.sub_zero]at af;have cv:(if c=0 then q else q.map λx=>x.add 0)=q:=by
         split;·rfl
         ·cases q with
          |none=>rfl| some q=>simp[Addr.add]
        rw[cv]at af;exact af
       ·simp only[mV,hs]at fu fF af;exact⟨x2,n,rfl,rfl,fu,cK _,k _ (.val af)⟩
       ·simp only[mV,hs]at fu fF af;exact⟨x2,x3,rfl,rfl,fu,fF,k _ (.val af)⟩
     ·rename_i sa l1 sz str Tg cr aq b5 ea mD;cases b5;cases ea;cases mD;rw[aI.str]at cq;have aP:Ep str l b7=some v:=h;unfold Ep at aP;split at aP
      ·have el:lo.map (cf (bZ F))=none:=by
        rcases dx with⟨el,_⟩ | ⟨_,_,_,el⟩;·exact el
        ·cases el
       have jq:hi.map (cf (bZ F))=none:=by
        rcases dU with⟨jq,_⟩ | ⟨_,_,_,jq⟩;·exact jq
        ·cases jq
       cases aP;simp only[bw,aq,cq,el,jq];exact k _ (.val (by simp only[ay]))
      ·obtain⟨ag,aP⟩:=dR aP;cases aP;rw[bs]at ag;have cR:=bk ag.1;have bU:=bk ag.2;have bW:(⟨str.toArray⟩:ByteArray).size=str.length:=by simp[ByteArray.size]
       simp only[bw,aq,cq];rcases dx with⟨el,rfl⟩ | ⟨vX,x2,el,rfl⟩<;>rcases dU with⟨jq,rfl⟩ | ⟨Th,x3,jq,rfl⟩<;>simp only[el,jq]
       ·rename_i br;exact(br rfl rfl).elim
       ·simp only[mV,hs]at cR bU;exact⟨0,x3,rfl,rfl,gq _,by rw[bW];exact bU,k _ (.val (by simp only[ay,mV,hs,E0]))⟩
       ·simp only[mV,hs]at cR bU;exact⟨x2,str.length,rfl,by rw[bW];rfl,cR,by rw[bW];exact cK _,k _ (.val (by simp only[ay,mV,hs,E0,bW]))⟩
       ·simp only[mV,hs]at cR bU;exact⟨x2,x3,rfl,rfl,cR,by rw[bW];exact bU,k _ (.val (by simp only[ay,mV,hs,E0]))⟩
     ·cases h
 ·
  rename_i x i;unfold KU at h;split at h;·rename_i vs U;obtain⟨u,ax,aI⟩:=H.a' (x:=x) (by simp[Op.operands]) U;obtain⟨us,di,rfl⟩:=aI.ET;rw[rv]at h;obtain⟨w,hw,af⟩:=di.get h;have cq:cf (bZ F) x=.val (.tuple us.toArray):=ax;simp only[bw,cq,hw];exact k _ (.val af)
  ·cases h
 ·
  rename_i s d x;unfold KV at h;split at h;·rename_i dq cH n an ao U;cases h;obtain⟨u,ax,aI⟩:=H.a' (x:=x) (by simp[Op.operands]) U;rw[aI.int]at ax;have cq:cf (bZ F) x=.val (.int cH n):=ax;simp only[bw,an,ao,cq];exact⟨_,rfl,k _ (.val (by simp only[ay];rw[rs]))⟩
  ·cases h
 ·
  rename_i b args c6;exact Ta aA h (by simpa[Op.operands,Call.operands]using H) k
 ·cases h
end
end Go.V
