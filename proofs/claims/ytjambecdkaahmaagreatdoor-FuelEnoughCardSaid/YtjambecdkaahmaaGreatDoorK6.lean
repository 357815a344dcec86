/- Part 6 of what the proofs of this seat share: the executor, data in memory, walks.
-/
import Derived.Test.YtjambecdkaahmaaGreatDoorK5
import Derived.Test.YtjambecdkaahmaaGreatDoorK4
import Derived.Test.YtjambecdkaahmaaGreatDoorK2
set_option linter.all false
set_option maxHeartbeats 16000000
set_option maxRecDepth 100000
namespace Go.V
open Go Go.Proofs
def ky:=@List.length_reverse
def oy:=@List.reverse_cons
def A6:=@BitVec.getLsbD_or
def C7:=@Function.comp_def
def C8:=@List.range_succ
def Ir:=@List.reverse_append
def Fe:=@List.countP_cons
def Rs:=@BitVec.eq_of_getLsbD_eq
def Rt:=@BitVec.getLsbD_and
def Mh:=@Nat.mul_le_mul
def Ru:=@List.mem_range'_1
variable{os:bf}{f:bC}{au:List bC}{R:List fL}{kn:Nat->Nat->bo}{A:aF}{post Mr M M0:List aF}{K:dW->a5->List aF->Prop}{I J I':a5}{N t e cS c' n bt j:Nat}{P:bm}{S:fJ}{F:List a8}{x y:BitVec 64}{dT aP:eE}{xs cs:List Value}{pl:List (ByteArray×Int)}{α:Type}{j':Option Addr}{nv rv rwv:Value}{kb:List (Nat×List Nat)}
def Ff(P:bm):uX->Nat->zr
 | .stop e,_=>e| .more q S,n=>ho P n q S
def Mi(P:bm)(n:Nat)(q:nL)(S:fJ):ho P (n+1) q S=Ff P (pQ P q S) n:=by
 unfold ho Ff;cases pQ P q S<;>rfl
def alc(m:cz)(G:zr)(v:Value)(M':List aF):Prop:=match G with
 | .err e=>v=.tuple #[hC.val,.int .i64 (HR e)]/\M'=[]| .ok c S=>v=.tuple #[c.val,.int .i64 0]/\∃ (R:List fL) (os:bf),ke m R S.kn/\R.length=m.ns.n/\M'=du m S.aU m.ns.n os::dj m R::cZ m R
structure Rv where
 kp:Nat
 k:Nat
 a:Nat
 c:bo
 S:fJ
 R:List fL
 os:bf
 left:Nat
def Mj(m:cz)(I:a5)(y:Rv):Al:={ bK:=[(0,.val (ptr m.ez)),(1,.val (.int .i64 y.k)),(2,.val (.int .i64 y.a)),(6,.ref 6 0),(8,.ref 8 0),(12,.ref 12 0)],cl:=[(6,hC.cells),(8,y.c.cells),(12,Zu)],dz:=I,d':=du m y.S.aU m.ns.n y.os::dj m y.R::(cZ m y.R++y.os.aO 215) }
def iC(y:Rv):Nat:=3*y.left+(if y.kp=1\/y.kp=2 then 1 else 0)
def ald(m:cz)(G:zr)(kp k a:Nat)(c:bo)(S:fJ)(left:Nat):Prop:=
 (kp=0/\kV m.aZ S/\sw m.aZ S/\l1 m.aZ S (.begin k a)/\ho m.aZ left (.begin k a) S=G) \/
 (kp=3/\kV m.aZ S/\sw m.aZ S/\l1 m.aZ S (.hand c)/\EO m.aZ S (.hand c)/\ho m.aZ left (.hand c) S=G) \/
 (kp=2/\(∃ f au,S.op=f::au/\qy m.aZ f)/\zt m.aZ (iv m.aZ S)/\we m.aZ (iv m.aZ S)/\Ff m.aZ (iv m.aZ S) left=G) \/
 (kp=1/\(∃ f au,S.op=f::au/\m.aq<=f.pl/\f.pl<=m.s.size/\f.aG<m.ns.n/\(S.kn f.aG (f.pl-m.aq)).ao=1)/\zt m.aZ (kT m.aZ c S)/\we m.aZ (kT m.aZ c S)/\Ff m.aZ (kT m.aZ c S) left=G)
structure ale(m:cz)(G:zr)(y:Rv):Prop where
 Is:ke m y.R y.S.kn
 len:y.R.length=m.ns.n
 os:y.os.ok 5 (y.S.op.reverse.flatMap bC.cells)
 fuel:y.S.aU+y.left=m.fuel
 atX:y.S.op.length<=y.S.aU
 kp:ald m G y.kp y.k y.a y.c y.S y.left
def Fg(h:os.ok 5 ((f::au).reverse.flatMap bC.cells)):∃ g,lF os au.reverse f g:=by
 rw[oy]at h;cases aH:os.a with
 |none=>have U:=(h.nil aH).1;have aa:=h.len;rw[fu _ 5 bC.dc]at aa;simp at aa;omega| some g=>exact⟨g,aH,h⟩
def ke.qH{m:cz}(h:ke m R kn)(hw:m.w<=9223372036854775807){k:Nat}(ae:k<R.length){b:Nat}(ag:R[k].b=some b){p:Nat}(aK:p<m.w)(j:Nat){vs:List Value}(an:j+vs.length<=3)(U:iW vs=true)(c':bo)(aJ:bQ (kn k p).cells j vs=c'.cells)
 {K:List aF->Prop} (fS:∀ j5:List fL,ke m j5 (hn kn k p c')->j5.length=R.length->K (A::dj m j5::(cZ m j5++post))):cc (A::dj m R::(cZ m R++post)) ((⟨b,p*3,Option.none⟩:Addr).add j) vs K:=by
 rw[dY _ rfl];refine h.put hw ae ag aK j an U c' aJ [A,dj m R] post rfl rfl λj5 aC aA bx=>?_;have cU:dj m R=dj m j5:=by unfold dj;rw[bx]
 rw[cU];exact fS j5 aC aA
def ke.alf{m:cz}(h:ke m R kn)(hw:m.w<=9223372036854775807){k:Nat}(ae:k<R.length){b:Nat}(ag:R[k].b=some b){p:Nat}(aK:p<m.w)(c':bo)
 {K:List aF->Prop} (fS:∀ j5:List fL,ke m j5 (hn kn k p c')->j5.length=R.length->K (A::dj m j5::(cZ m j5++post))):cc (A::dj m R::(cZ m R++post)) ⟨b,p*3,Option.none⟩ c'.cells K:=by
 have:=h.qH hw ae ag aK 0 (vs:=c'.cells) (b2 3) rfl c' rfl fS;rwa [dY _ rfl,p']at this
def Rw(m:cz)(ag:m.aq<=m.s.size)(ax:m.s.size<=4096){aU:Nat}(cM:R.length=N){k a:Nat}(ae:k<R.length){b:Nat}(mE:R[k].b=some b)(U:m.aq<=a)(aa:a<=m.s.size) :
  Spec Tryz.prog 119 [ptr m.ez,.int .i64 k,.int .i64 a] I (du m aU N os::dj m R::(cZ m R++Mr)) λv I' M'=>I'=I/\v=.pointer (some ⟨b,(a-m.aq)*3,none⟩)/\M'=du m aU N os::dj m R::(cZ m R++Mr):=by
 refine bY [] aV Tryz.func119 rfl rfl rfl ?_;intro B ay;have aj7:m.w=m.s.size-m.aq+1:=rfl;refine aw.mk _ (fv (k:=5) (.head _) (by decide)) ?_;refine bl.mk ⟨m.gi,0,none⟩ k rfl rfl (by omega) ?_;have br:=fun {M:List aF} (a2:dj m R∈M)=>Rd (I:=I) a2 ae;have aj:R[k].val m.w=.slice (some ⟨b,0,none⟩) m.w m.w:=by simp[fL.val,mE]
 rw[aj]at br;refine aw.mk _ (br (.tail _ (.head _))) ?_;refine fU.Rc aV rfl rfl ?_;refine aM.mk (λe=>by cases e) (λ_=>?_);refine cq.draw aV rfl rfl rfl ?_;refine aw.mk _ (fv (k:=5) (.head _) (by decide)) ?_;refine bl.mk ⟨m.gi,0,none⟩ k rfl rfl (by omega) ?_;refine aw.mk _ (br (.tail _ (.head _))) ?_;refine aw.mk _ (fv (k:=1) (.head _) (by decide)) ?_;refine bb.mk ((a-m.aq:Nat):Int) (ei (by omega) (by omega)) ?_;refine bl.mk ⟨b,0,none⟩ (a-m.aq) rfl rfl (by omega) ?_;exact⟨_,_,.refl,rfl,by rw[dY _ rfl,dp],rfl⟩
def ke.there{m:cz}(h:ke m R kn){k p:Nat}(ae:k<R.length)(aK:p<m.w)(cR:(kn k p).ao=1):∃ b,R[k].b=some b:=by
 cases ag:R[k].b with
 |some b=>exact⟨b,rfl⟩| none=>have U:=h.none _ (dr ae) ag;have aa:=h.ai k ae p (by rw[U];simpa using aK);rw[<-aa]at cR;simp[U,hC]at cR
def bf.alg{g:Nat}(h:lF os au f g):bf.ok ⟨os.a,os.n-1,os.c,os.aY⟩ 5 (au.flatMap bC.cells):=by
 have az:=h.n;obtain⟨ed,dP,gS,iq⟩:=h.ok.cap g h.a;refine⟨by rw[fu _ 5 bC.dc];simp only;omega,λe=>(by simp only at e;rw[h.a]at e;cases e),λeD _=>⟨ed,by simp only;omega,gS,?_⟩⟩;simp only;have U:((au++[f]).flatMap bC.cells).take (au.length*5)=au.flatMap bC.cells:=by rw[mr,Eh (by rw[fu _ 5 bC.dc];exact b2 _)];exact gM (by rw[fu _ 5 bC.dc];exact b2 _)
 rw[<-U,<-iq,vG];congr 1;omega
def ZQ(h:iw P)(c2:kV P S){k a:Nat}(ag:l1 P S (.begin k a))(az:ib P k a=none):qy P ⟨k,a,0,a,0⟩:=by
 obtain⟨b1,ch,b9,cK,eT⟩:=ag;obtain⟨n0,gZ,hQ,uY⟩:=Qb az;have aH:=bm.rm h b1;exact⟨b1,ch,b2 _,b9,bF _,by have:=aH.k;show 3<=(P.ai k).d.k;omega,λe=>aH.many e,λe=>⟨uY e,λ_=>bF _,λaA=>by
  have a':(P.ai k).d.k=6:=e;have eZ:¬ (P.ai k).d.hi=-1:=aA;have:=aH.kR a';have:=uY a';show((0:Nat):Int)<(P.ai k).d.hi;omega⟩,λ_=>⟨rfl,rfl⟩⟩
def bE.It{X:dw}{F:Fr}{C:dX}{o:Oper}{K:hb}(aW:dm X.P X.E){s x:Operand}(aD:o.op=.call { callee:=.builtin .append,args:=#[s,x],argTypes:=#[t,t] })(ah:∀ d,o.dst=some d->d<X.n)
 (aI:X.E t=some dT) (eS:dT.bT=.slice e) (he:X.E e=some aP)
  (os:bf) (bw:os.ok aP.size xs) (ax:bU F s=.val os.val)
 (ab:bU F x=.val (.slice (some ⟨cS,0,none⟩) 1 c')) (aE:cs.length=aP.size) (U:iW cs=true)
  (bi:List aF) (a2:M=⟨cS,.cells cs.toArray e (0,0)⟩::(bi++os.aO e)) (b1:os.n+1<=9223372036854775807) (ch:(os.n+1)*aP.bytes<=140737488355328)
  (k:∀ os':bf,os'.n=os.n+1->(∀ g,os'.a=some g->I g=none)->os'.ok aP.size (xs++cs)->K (put o.dst (.val os'.val) F) C I (bi++os'.aO e)):bE X o F C I M K:=
 .x5 aW aD ah aI eS he os bw ax ab aE U bi [] (by rw[eo];exact a2) b1 ch λos' aa af aN=>by rw[eo];exact k os' aa af aN
def Iu{pl:Nat}{c:bo}(h:kU P pl c)(ax:P.s.size<=4096):c.n<=65537/\c.av<=4096:=by
 by_cases e:c.ao=3
 ·have:=h.m e;omega
 ·have:=h.f e;omega
def sP{m:cz}{u:Nat}{os':bf}(h:os'.val=os.val):du m u N os=du m u N os':=by unfold du E';rw[h]
def kh{B:aF}{C D:List aF}:(A::B::(C++D)).Perm (D++(A::B::C)):=by have:(A::B::(C++D))=(A::B::C)++D:=rfl;rw[this];exact i'
def alh(m:cz)(gp:m.ns.ok I)(cV:iw m.aZ)(mw:m.fuel<=1099511627776)(n7:m.ns.n<=1000000)(o7:∀ x∈m.ns.xs,x.d.t.size<=4096){k a:Nat}{G:zr}(ba:ke m R S.kn)(cM:R.length=m.ns.n)(cr:os.ok 5 (S.op.reverse.flatMap bC.cells))(ali:S.op=[])(atY:S.aU=0)(c2:kV m.aZ S)(u':sw m.aZ S)(aL:l1 m.aZ S (.begin k a))(eR:ho m.aZ m.fuel (.begin k a) S=G) :
  Spec Tryz.prog 78 [ptr m.ez,.int .i64 k,.int .i64 a] I (du m S.aU m.ns.n os::dj m R::(cZ m R++os.aO 215)) λv I' M'=>I'=I/\alc m G v M':=by
 refine bY [] aV Tryz.func78 rfl rfl rfl ?_;intro B ay;have pF:m.aq<=m.s.size:=cV.aq;have cI:m.s.size<=4096:=cV.size;have hw:m.w<=9223372036854775807:=by show m.s.size-m.aq+1<=_;omega
 have tP:m.aZ.ns.length=m.ns.n:=by simp[cz.aZ,gp.n]
 have hu:S.aU+m.fuel=m.fuel:=by omega
 have nb:S.op.length<=S.aU:=by rw[ali];exact bF _
 refine cq.scope aV rfl (Mj m I) (λy=>y.kp) (ale m G) iC (λl=>PM (Hw (Tryz.f78.body.getD .skip)) l) (λy aT=>?_) ?_ ?_
 ·have U:=aT.kp;have:y.kp=0\/y.kp=1\/y.kp=2\/y.kp=3:=by
   rcases U with U | U | U | U;·exact .inl U.1
   ·exact .inr (.inr (.inr U.1))
   ·exact .inr (.inr (.inl U.1))
   ·exact .inr (.inl U.1)
  rcases this with e | e | e | e<;>rw[e]<;>exact⟨by kernel_rfl,by kernel_rfl⟩
 ·refine a9.whole _ (akg) ?_;rintro v I' M' -⟨rfl,rfl,rfl⟩;obtain⟨left,alj⟩:∃ left,m.fuel=left:=⟨_,rfl⟩;rw[alj]at eR
  replace hu:S.aU+left=m.fuel:=by omega
  refine a9.whole _ (L7 m S.aU m.ns.n os mw) ?_;rintro v I' M' -⟨rfl,⟨ag,rfl,rfl⟩|⟨ag,rfl,rfl⟩⟩
  ·refine aM.mk (λ_=>?_) (λe=>by cases e);obtain rfl:left=0:=by omega
   have rD:G=.err 0:=eR.symm;exact⟨_,[],.sub (eN _) .refl,rfl,by rw[rD];exact⟨rfl,rfl⟩⟩
  refine aM.mk (λe=>by cases e) (λ_=>?_);obtain⟨n,rfl⟩:∃ n,left=n+1:=⟨left-1,by omega⟩;have hj:=AX cV c2 aL;have rE:=EQ cV c2 u' aL (q:=.begin k a) trivial;have LH:=aL;obtain⟨b1,ch,b9,cK,eT⟩:=LH;rw[tP]at b1;rw[Mi]at eR;have mE:a-m.aq<m.w:=by have aC:m.aZ.aq=m.aq:=rfl;have aA:m.aZ.s=m.s:=rfl;rw[aC]at ch;rw[aA]at b9;show _<m.s.size-m.aq+1;omega
  have alk:a<=4096:=iU b9 cI;refine a9.whole _ (Ih m pF cI ba cM b1 ch b9) ?_;rintro v I' M' -⟨rfl,alm,b,hB,Rx,⟨tu,jN⟩,rfl,rfl⟩;refine hB.qH hw tu jN mE 2 (by decide) rfl { S.kn k (a-m.aq)with ao:=1 } rfl ?_;intro dD ik mu;have wz:dD.length=m.ns.n:=by rw[mu,Rx]
  refine aw.mk _ (fv (k:=6) (.head _) (by decide)) ?_;refine bb.mk (k:Int) (wrap_i32 (show(-2147483648:Int)<=(k:Int) by omega) (show(k:Int)<=2147483647 by omega)) ?_;refine bb.mk (a:Int) (wrap_i32 (show(-2147483648:Int)<=(a:Int) by omega) (show(a:Int)<=2147483647 by omega)) ?_;refine bb.mk (a:Int) (wrap_i32 (show(-2147483648:Int)<=(a:Int) by omega) (show(a:Int)<=2147483647 by omega)) ?_;have sQ:os.n=S.op.length:=by have:=cr.len;rw[fu _ 5 bC.dc,ky]at this;omega
  refine cy.mk λcS g7 zh=>?_;refine bE.It aV rfl (by simp) (e:=215) rfl rfl rfl os cr rfl (cs:=bC.cells ⟨k,a,0,a,0⟩) rfl rfl rfl (du m (S.aU+1) m.ns.n os::dj m dD::cZ m dD) rfl (by omega) (by show(os.n+1)*20<=_;omega) ?_;rintro fE vX-Ry;have wA:fE.ok 5 ((dC m.aZ k a S).op.reverse.flatMap bC.cells):=by show fE.ok 5 ((⟨k,a,0,a,0⟩::S.op:List bC).reverse.flatMap bC.cells);rw[oy,mr];simpa using Ry
  have wB:(dC m.aZ k a S).aU+n=m.fuel:=by show S.aU+1+n=_;omega
  have wC:(dC m.aZ k a S).op.length<=(dC m.aZ k a S).aU:=by show S.op.length+1<=S.aU+1;omega
  refine cc.mk [] (dj m dD::(cZ m dD++fE.aO 215)) _ _ rfl rfl (bP rfl) rfl ?_;refine a9.whole _ (Zy m gp cI (aU:=S.aU+1) (N:=m.ns.n) (os:=fE) (k:=k) (a:=a) b1 b9 o7) ?_;rintro v I' M' -⟨rfl,rfl,fm,rfl,ir⟩;have tQ:pQ m.aZ (.begin k a) S=match ib m.aZ k a with
    |some c=>kT m.aZ c (dC m.aZ k a S)| none=>iv m.aZ (dC m.aZ k a S):=rfl
  refine aM.mk (λe=>?_) (λe=>?_)
  ·obtain⟨fj,oz⟩:=J4.1 e;obtain rfl:=ir fj oz;rw[oz]at tQ;simp only at tQ;rw[tQ]at hj rE eR;have Fh:((dC m.aZ k a S).kn k (a-m.aq)).ao=1:=by show(hn S.kn k (a-m.aq) _ k (a-m.aq)).ao=1;rw[nM]
   exact⟨⟨1,k,a,fj,dC m.aZ k a S,dD,fE,n⟩,⟨⟨ik,wz,wA,wB,wC,.inr (.inr (.inr ⟨rfl,⟨⟨k,a,0,a,0⟩,S.op,rfl,ch,b9,b1,Fh⟩,hj,rE,eR⟩))⟩,rfl⟩,.refl,e7,.cons rfl (.cons rfl (.cons rfl (.nil)))⟩
  have oz:ib m.aZ k a=none:=by
   cases dk:ib m.aZ k a with
   |none=>rfl| some c=>rw[dk]at e;cases e
  rw[oz]at tQ;simp only at tQ;rw[tQ]at hj rE eR;have gQ:qy m.aZ ⟨k,a,0,a,0⟩:=ZQ cV c2 aL oz;have cX:(dC m.aZ k a S).op=⟨k,a,0,a,0⟩::S.op:=rfl;have gf:=hj;have nT:=rE;have lj:=eR;have ik:ke m dD (dC m.aZ k a S).kn:=ik;refine Km.Cd (Mj m I' ⟨2,k,a,fm,dC m.aZ k a S,dD,fE,n⟩) .refl (e7) (.cons rfl (.cons rfl (.cons rfl (.nil)))) ?_;obtain⟨a6,iR⟩:=Fg (by rw[cX]at wA;exact wA);obtain⟨pU,nQ,sR,A7⟩:=EK cV gQ;have Iv:S.op.reverse.length<=1099511627776:=by rw[cX]at wC;simp only[eM,ky]at wC |-;omega
  refine a9.whole _ (Rq m gp cV (aU:=(dC m.aZ k a S).aU) (N:=m.ns.n) (.head _) (λx ab=>.tail _ (.tail _ (dV.2 (.inr ab)))) iR gQ Iv) ?_;rintro v I' M' -⟨rfl,rfl,rfl⟩;refine a9.whole _ (Ih m pF cI (aU:=(dC m.aZ k a S).aU) (os:=fE) ik wz (k:=(bA m.aZ (⟨k,a,0,a,0⟩:bC)).1) (a:=(bA m.aZ (⟨k,a,0,a,0⟩:bC)).2) (by rw[<-tP];exact pU) nQ sR) ?_;rintro v I' M' -⟨rfl,A8,b9,tR,A9,⟨g0,jU⟩,rfl,rfl⟩;have CY:(bA m.aZ (⟨k,a,0,a,0⟩:bC)).2-m.aq<m.w:=by have aC:m.aZ.aq=m.aq:=rfl;have aA:m.aZ.s=m.s:=rfl;rw[aC]at nQ;rw[aA]at sR;show _<m.s.size-m.aq+1;omega
  refine aw.mk _ (tR.rd hw g0 jU CY (λx ab=>.tail _ (.tail _ (dV.2 (.inl ab))))) ?_;have jE:iv m.aZ (dC m.aZ k a S)=bif Nat.beq ((dC m.aZ k a S).kn (bA m.aZ (⟨k,a,0,a,0⟩:bC)).1 ((bA m.aZ (⟨k,a,0,a,0⟩:bC)).2-m.aq)).ao 0 then .more (.begin (bA m.aZ (⟨k,a,0,a,0⟩:bC)).1 (bA m.aZ (⟨k,a,0,a,0⟩:bC)).2) (dC m.aZ k a S)else
    bif Nat.beq ((dC m.aZ k a S).kn (bA m.aZ (⟨k,a,0,a,0⟩:bC)).1 ((bA m.aZ (⟨k,a,0,a,0⟩:bC)).2-m.aq)).ao 1 then .stop (.err 1)else .more (.hand ((dC m.aZ k a S).kn (bA m.aZ (⟨k,a,0,a,0⟩:bC)).1 ((bA m.aZ (⟨k,a,0,a,0⟩:bC)).2-m.aq))) (dC m.aZ k a S):=by
   unfold iv;rw[cX];rfl
  refine aM.mk (λe=>?_) (λb'=>?_)
  ·have a':((dC m.aZ k a S).kn (bA m.aZ (⟨k,a,0,a,0⟩:bC)).1 ((bA m.aZ (⟨k,a,0,a,0⟩:bC)).2-m.aq)).ao=0:=by have:=cm e;omega
   rw[a']at jE;have wD:iv m.aZ (dC m.aZ k a S)=.more (.begin (bA m.aZ (⟨k,a,0,a,0⟩:bC)).1 (bA m.aZ (⟨k,a,0,a,0⟩:bC)).2) (dC m.aZ k a S):=jE;rw[wD]at gf nT lj;exact⟨⟨0,(bA m.aZ (⟨k,a,0,a,0⟩:bC)).1,(bA m.aZ (⟨k,a,0,a,0⟩:bC)).2,(dC m.aZ k a S).kn (bA m.aZ (⟨k,a,0,a,0⟩:bC)).1 ((bA m.aZ (⟨k,a,0,a,0⟩:bC)).2-m.aq),(dC m.aZ k a S),A8,fE,n⟩,⟨⟨tR,A9,wA,wB,wC,.inl ⟨rfl,gf.1,nT.1,gf.2,lj⟩⟩,rfl⟩,.refl,e7,.cons rfl (.cons rfl (.cons rfl (.nil)))⟩
  have C9:Nat.beq ((dC m.aZ k a S).kn (bA m.aZ (⟨k,a,0,a,0⟩:bC)).1 ((bA m.aZ (⟨k,a,0,a,0⟩:bC)).2-m.aq)).ao 0=false:=by rw[lB];intro aA;have:=cj aA;have:=cu b';omega
  rw[C9,aQ]at jE;refine aM.mk (λe=>?_) (λaC=>?_)
  ·have a':((dC m.aZ k a S).kn (bA m.aZ (⟨k,a,0,a,0⟩:bC)).1 ((bA m.aZ (⟨k,a,0,a,0⟩:bC)).2-m.aq)).ao=1:=by have:=cm e;omega
   rw[a']at jE;have wD:iv m.aZ (dC m.aZ k a S)=.stop (.err 1):=jE;rw[wD]at lj;have rD:G=.err 1:=lj.symm;exact⟨_,[],.sub (eN _) .refl,rfl,by rw[rD];exact⟨rfl,rfl⟩⟩
  have dO:Nat.beq ((dC m.aZ k a S).kn (bA m.aZ (⟨k,a,0,a,0⟩:bC)).1 ((bA m.aZ (⟨k,a,0,a,0⟩:bC)).2-m.aq)).ao 1=false:=by rw[lB];intro aA;have:=cj aA;have:=cu aC;omega
  rw[dO,aQ]at jE;rw[jE]at gf nT lj;exact⟨⟨3,(bA m.aZ (⟨k,a,0,a,0⟩:bC)).1,(bA m.aZ (⟨k,a,0,a,0⟩:bC)).2,(dC m.aZ k a S).kn (bA m.aZ (⟨k,a,0,a,0⟩:bC)).1 ((bA m.aZ (⟨k,a,0,a,0⟩:bC)).2-m.aq),(dC m.aZ k a S),A8,fE,n⟩,⟨⟨tR,A9,wA,wB,wC,.inr (.inl ⟨rfl,gf.1,nT.1,gf.2,nT.2,lj⟩)⟩,rfl⟩,.refl,e7,.cons rfl (.cons rfl (.cons rfl (.nil)))⟩
 ·rintro⟨kp,k,a,c,S,R,os,left⟩⟨ba,cM,cr,hu,nb,ZR⟩;simp only at ba cM cr hu nb ZR;rcases ZR with⟨rfl,c2,u',aL,eR⟩ | ⟨rfl,c2,u',aL,sN,eR⟩ | ⟨rfl,⟨f,au,cX,gQ⟩,gf,nT,lj⟩ | ⟨rfl,⟨f1,mF,cX,dg,iM,bV,Fh⟩,gf,nT,lj⟩
  ·
   refine a9.whole _ (L7 m S.aU m.ns.n os mw) ?_;rintro v I' M' -⟨rfl,⟨ag,rfl,rfl⟩|⟨ag,rfl,rfl⟩⟩
   ·refine aM.mk (λ_=>?_) (λe=>by cases e);obtain rfl:left=0:=by omega
    have rD:G=.err 0:=eR.symm;exact⟨_,[],.sub (eN _) .refl,rfl,by rw[rD];exact⟨rfl,rfl⟩⟩
   refine aM.mk (λe=>by cases e) (λ_=>?_);obtain⟨n,rfl⟩:∃ n,left=n+1:=⟨left-1,by omega⟩;have hj:=AX cV c2 aL;have rE:=EQ cV c2 u' aL (q:=.begin k a) trivial;have LH:=aL;obtain⟨b1,ch,b9,cK,eT⟩:=LH;rw[tP]at b1;rw[Mi]at eR;have mE:a-m.aq<m.w:=by have aC:m.aZ.aq=m.aq:=rfl;have aA:m.aZ.s=m.s:=rfl;rw[aC]at ch;rw[aA]at b9;show _<m.s.size-m.aq+1;omega
   have alk:a<=4096:=iU b9 cI;refine a9.whole _ (Ih m pF cI ba cM b1 ch b9) ?_;rintro v I' M' -⟨rfl,alm,b,hB,Rx,⟨tu,jN⟩,rfl,rfl⟩;refine hB.qH hw tu jN mE 2 (by decide) rfl { S.kn k (a-m.aq)with ao:=1 } rfl ?_;intro dD ik mu;have wz:dD.length=m.ns.n:=by rw[mu,Rx]
   refine aw.mk _ (fv (k:=6) (.head _) (by decide)) ?_;refine bb.mk (k:Int) (wrap_i32 (show(-2147483648:Int)<=(k:Int) by omega) (show(k:Int)<=2147483647 by omega)) ?_;refine bb.mk (a:Int) (wrap_i32 (show(-2147483648:Int)<=(a:Int) by omega) (show(a:Int)<=2147483647 by omega)) ?_;refine bb.mk (a:Int) (wrap_i32 (show(-2147483648:Int)<=(a:Int) by omega) (show(a:Int)<=2147483647 by omega)) ?_;have sQ:os.n=S.op.length:=by have:=cr.len;rw[fu _ 5 bC.dc,ky]at this;omega
   refine cy.mk λcS g7 zh=>?_;refine bE.It aV rfl (by simp) (e:=215) rfl rfl rfl os cr rfl (cs:=bC.cells ⟨k,a,0,a,0⟩) rfl rfl rfl (du m (S.aU+1) m.ns.n os::dj m dD::cZ m dD) rfl (by omega) (by show(os.n+1)*20<=_;omega) ?_;rintro fE vX-Ry;have wA:fE.ok 5 ((dC m.aZ k a S).op.reverse.flatMap bC.cells):=by show fE.ok 5 ((⟨k,a,0,a,0⟩::S.op:List bC).reverse.flatMap bC.cells);rw[oy,mr];simpa using Ry
   have wB:(dC m.aZ k a S).aU+n=m.fuel:=by show S.aU+1+n=_;omega
   have wC:(dC m.aZ k a S).op.length<=(dC m.aZ k a S).aU:=by show S.op.length+1<=S.aU+1;omega
   refine cc.mk [] (dj m dD::(cZ m dD++fE.aO 215)) _ _ rfl rfl (bP rfl) rfl ?_;refine a9.whole _ (Zy m gp cI (aU:=S.aU+1) (N:=m.ns.n) (os:=fE) (k:=k) (a:=a) b1 b9 o7) ?_;rintro v I' M' -⟨rfl,rfl,fm,rfl,ir⟩;have tQ:pQ m.aZ (.begin k a) S=match ib m.aZ k a with
     |some c=>kT m.aZ c (dC m.aZ k a S)| none=>iv m.aZ (dC m.aZ k a S):=rfl
   refine aM.mk (λe=>?_) (λe=>?_)
   ·obtain⟨fj,oz⟩:=J4.1 e;obtain rfl:=ir fj oz;rw[oz]at tQ;simp only at tQ;rw[tQ]at hj rE eR;have Fh:((dC m.aZ k a S).kn k (a-m.aq)).ao=1:=by show(hn S.kn k (a-m.aq) _ k (a-m.aq)).ao=1;rw[nM]
    exact⟨⟨1,k,a,fj,dC m.aZ k a S,dD,fE,n⟩,⟨⟨⟨ik,wz,wA,wB,wC,.inr (.inr (.inr ⟨rfl,⟨⟨k,a,0,a,0⟩,S.op,rfl,ch,b9,b1,Fh⟩,hj,rE,eR⟩))⟩,rfl⟩,by simp[iC]<;>omega⟩,.refl,e7,.cons rfl (.cons rfl (.cons rfl (.nil)))⟩
   have oz:ib m.aZ k a=none:=by
    cases dk:ib m.aZ k a with
    |none=>rfl| some c=>rw[dk]at e;cases e
   rw[oz]at tQ;simp only at tQ;rw[tQ]at hj rE eR;have gQ:qy m.aZ ⟨k,a,0,a,0⟩:=ZQ cV c2 aL oz;have cX:(dC m.aZ k a S).op=⟨k,a,0,a,0⟩::S.op:=rfl;have gf:=hj;have nT:=rE;have lj:=eR;have ik:ke m dD (dC m.aZ k a S).kn:=ik;refine Km.Cd (Mj m I' ⟨2,k,a,fm,dC m.aZ k a S,dD,fE,n⟩) .refl (e7) (.cons rfl (.cons rfl (.cons rfl (.nil)))) ?_;obtain⟨a6,iR⟩:=Fg (by rw[cX]at wA;exact wA);obtain⟨pU,nQ,sR,A7⟩:=EK cV gQ;have Iv:S.op.reverse.length<=1099511627776:=by rw[cX]at wC;simp only[eM,ky]at wC |-;omega
   refine a9.whole _ (Rq m gp cV (aU:=(dC m.aZ k a S).aU) (N:=m.ns.n) (.head _) (λx ab=>.tail _ (.tail _ (dV.2 (.inr ab)))) iR gQ Iv) ?_;rintro v I' M' -⟨rfl,rfl,rfl⟩;refine a9.whole _ (Ih m pF cI (aU:=(dC m.aZ k a S).aU) (os:=fE) ik wz (k:=(bA m.aZ (⟨k,a,0,a,0⟩:bC)).1) (a:=(bA m.aZ (⟨k,a,0,a,0⟩:bC)).2) (by rw[<-tP];exact pU) nQ sR) ?_;rintro v I' M' -⟨rfl,A8,b9,tR,A9,⟨g0,jU⟩,rfl,rfl⟩;have CY:(bA m.aZ (⟨k,a,0,a,0⟩:bC)).2-m.aq<m.w:=by have aC:m.aZ.aq=m.aq:=rfl;have aA:m.aZ.s=m.s:=rfl;rw[aC]at nQ;rw[aA]at sR;show _<m.s.size-m.aq+1;omega
   refine aw.mk _ (tR.rd hw g0 jU CY (λx ab=>.tail _ (.tail _ (dV.2 (.inl ab))))) ?_;have jE:iv m.aZ (dC m.aZ k a S)=bif Nat.beq ((dC m.aZ k a S).kn (bA m.aZ (⟨k,a,0,a,0⟩:bC)).1 ((bA m.aZ (⟨k,a,0,a,0⟩:bC)).2-m.aq)).ao 0 then .more (.begin (bA m.aZ (⟨k,a,0,a,0⟩:bC)).1 (bA m.aZ (⟨k,a,0,a,0⟩:bC)).2) (dC m.aZ k a S)else
     bif Nat.beq ((dC m.aZ k a S).kn (bA m.aZ (⟨k,a,0,a,0⟩:bC)).1 ((bA m.aZ (⟨k,a,0,a,0⟩:bC)).2-m.aq)).ao 1 then .stop (.err 1)else .more (.hand ((dC m.aZ k a S).kn (bA m.aZ (⟨k,a,0,a,0⟩:bC)).1 ((bA m.aZ (⟨k,a,0,a,0⟩:bC)).2-m.aq))) (dC m.aZ k a S):=by
    unfold iv;rw[cX];rfl
   refine aM.mk (λe=>?_) (λb'=>?_)
   ·have a':((dC m.aZ k a S).kn (bA m.aZ (⟨k,a,0,a,0⟩:bC)).1 ((bA m.aZ (⟨k,a,0,a,0⟩:bC)).2-m.aq)).ao=0:=by have:=cm e;omega
    rw[a']at jE;have wD:iv m.aZ (dC m.aZ k a S)=.more (.begin (bA m.aZ (⟨k,a,0,a,0⟩:bC)).1 (bA m.aZ (⟨k,a,0,a,0⟩:bC)).2) (dC m.aZ k a S):=jE;rw[wD]at gf nT lj;exact⟨⟨0,(bA m.aZ (⟨k,a,0,a,0⟩:bC)).1,(bA m.aZ (⟨k,a,0,a,0⟩:bC)).2,(dC m.aZ k a S).kn (bA m.aZ (⟨k,a,0,a,0⟩:bC)).1 ((bA m.aZ (⟨k,a,0,a,0⟩:bC)).2-m.aq),(dC m.aZ k a S),A8,fE,n⟩,⟨⟨⟨tR,A9,wA,wB,wC,.inl ⟨rfl,gf.1,nT.1,gf.2,lj⟩⟩,rfl⟩,by simp[iC]<;>omega⟩,.refl,e7,.cons rfl (.cons rfl (.cons rfl (.nil)))⟩
   have C9:Nat.beq ((dC m.aZ k a S).kn (bA m.aZ (⟨k,a,0,a,0⟩:bC)).1 ((bA m.aZ (⟨k,a,0,a,0⟩:bC)).2-m.aq)).ao 0=false:=by rw[lB];intro aA;have:=cj aA;have:=cu b';omega
   rw[C9,aQ]at jE;refine aM.mk (λe=>?_) (λaC=>?_)
   ·have a':((dC m.aZ k a S).kn (bA m.aZ (⟨k,a,0,a,0⟩:bC)).1 ((bA m.aZ (⟨k,a,0,a,0⟩:bC)).2-m.aq)).ao=1:=by have:=cm e;omega
    rw[a']at jE;have wD:iv m.aZ (dC m.aZ k a S)=.stop (.err 1):=jE;rw[wD]at lj;have rD:G=.err 1:=lj.symm;exact⟨_,[],.sub (eN _) .refl,rfl,by rw[rD];exact⟨rfl,rfl⟩⟩
   have dO:Nat.beq ((dC m.aZ k a S).kn (bA m.aZ (⟨k,a,0,a,0⟩:bC)).1 ((bA m.aZ (⟨k,a,0,a,0⟩:bC)).2-m.aq)).ao 1=false:=by rw[lB];intro aA;have:=cj aA;have:=cu aC;omega
   rw[dO,aQ]at jE;rw[jE]at gf nT lj;exact⟨⟨3,(bA m.aZ (⟨k,a,0,a,0⟩:bC)).1,(bA m.aZ (⟨k,a,0,a,0⟩:bC)).2,(dC m.aZ k a S).kn (bA m.aZ (⟨k,a,0,a,0⟩:bC)).1 ((bA m.aZ (⟨k,a,0,a,0⟩:bC)).2-m.aq),(dC m.aZ k a S),A8,fE,n⟩,⟨⟨⟨tR,A9,wA,wB,wC,.inr (.inl ⟨rfl,gf.1,nT.1,gf.2,nT.2,lj⟩)⟩,rfl⟩,by simp[iC]<;>omega⟩,.refl,e7,.cons rfl (.cons rfl (.cons rfl (.nil)))⟩
  ·
   refine a9.whole _ (L7 m S.aU m.ns.n os mw) ?_;rintro v I' M' -⟨rfl,⟨ag,rfl,rfl⟩|⟨ag,rfl,rfl⟩⟩
   ·refine aM.mk (λ_=>?_) (λe=>by cases e);obtain rfl:left=0:=by omega
    have rD:G=.err 0:=eR.symm;exact⟨_,[],.sub (eN _) .refl,rfl,by rw[rD];exact⟨rfl,rfl⟩⟩
   refine aM.mk (λe=>by cases e) (λ_=>?_);obtain⟨n,rfl⟩:∃ n,left=n+1:=⟨left-1,by omega⟩;have hj:=AX cV c2 aL;have rE:=EQ cV c2 u' aL sN;rw[Mi]at eR;obtain⟨f,au,cX,ah,aJ⟩:=aL;have gQ:=c2.op f (by rw[cX];exact .head _);have o9:=(u'.ax f (by rw[cX];exact .head _)).w;obtain⟨g,gI⟩:=Fg (by rw[cX]at cr;exact cr);have zz:=gI.n;have lI:os.a.map (λg=>(⟨g,0,none⟩:Addr))=some ⟨g,0,none⟩:=by rw[gI.a];rfl
   have hA:au.reverse.length<=1099511627776:=by rw[cX]at nb;simp only[eM,ky]at nb |-;omega
   refine cq.draw aV rfl rfl rfl ?_;refine aw.mk _ (fv (aU:=S.aU+1) (N:=m.ns.n) (os:=os) (k:=6) (.head _) (by decide)) ?_;refine aw.mk _ (fv (aU:=S.aU+1) (N:=m.ns.n) (os:=os) (k:=6) (.head _) (by decide)) ?_;refine bb.mk (au.reverse.length:Int) (ei (by omega) (by omega)) ?_;refine bl.mk ⟨g,0,none⟩ au.reverse.length lI rfl (by omega) ?_;have bV:f.aG<m.ns.n:=by rw[<-tP];exact gQ.aG
   obtain⟨x,zM,u6,gw,kf,ad,b3,br⟩:=Fb gp bV;have kS:=Iu aJ cI;have iQ:sJ I' m.aZ f c x (ad.add (f.aG*10)):=⟨br,gw,by have:=kf.bj.len;simpa using this,by have U:=gQ.pl;have aa:=gQ.av;have af:m.aZ.s.size<=4096:=cI;omega,iU gQ.av cI,Ql cV gQ,gQ.n,kS.1,kS.2⟩;have jt:∀ y∈os.aO 215,y∈du m (S.aU+1) m.ns.n os::dj m R::(cZ m R++os.aO 215):=λy aT=>.tail _ (.tail _ (dV.2 (.inr aT)));have rF:(⟨g,au.reverse.length*5,none⟩:Addr)=(⟨g,0,none⟩:Addr).add (au.reverse.length*5):=by rw[dY _ rfl,dp]
   have u0:=(bm.rm cV gQ.aG).k;have g0:=gQ.k;rw[gw]at u0 g0;have iL:∀ (f':bC) (c':bo) (done:Bool),fQ m.aZ f c=.on f' c' done->kw m.aZ c S=bif done then kT m.aZ c' ⟨S.kn,f'::au,S.aU+1⟩else iv m.aZ ⟨S.kn,f'::au,S.aU+1⟩:=λf' c' done e=>by unfold kw;rw[cX];simp only;rw[e]
   have eA:zt m.aZ (kw m.aZ c S):=hj;have eB:we m.aZ (kw m.aZ c S):=rE;have ek:Ff m.aZ (kw m.aZ c S) n=G:=eR;have mv:fQ m.aZ f c=.loop->G=.err 2:=λe=>by
    have:kw m.aZ c S=.stop (.err 2):=by unfold kw;rw[cX];simp only;rw[e]
    rw[this]at ek;exact ek.symm
   have rG:=λ(f':bC) (c':bo) (done:Bool) (e:fQ m.aZ f c=.on f' c' done)=>EL cV gQ ah aJ e;have jV:au.length+1<=S.aU+1:=by rw[cX]at nb;simp only[eM]at nb;omega
   have dg:=gQ.lo;have rH:f.pl<=m.s.size:=iU gQ.pl gQ.av;clear hj rE eR u6 kf cX cr nb;refine cq.draw aV rfl rfl rfl ?_;refine aw.mk _ (fv (aU:=S.aU+1) (N:=m.ns.n) (os:=os) (k:=4) (.head _) (by decide)) ?_;refine aw.mk _ ((gI.lH jt).part (k:=0) (m:=1) (by decide)) ?_;refine bl.mk ad f.aG b3 rfl bV ?_;refine aw.mk _ (sL br (off:=0) (n:=1) (by decide) _) ?_;obtain⟨⟨gm,e2,s1,s2,eK,ja,ZI,ZJ,sA,sB,sC,sD⟩,xa,aln,xc,alo⟩:=x;have xQ:gm=3\/gm=4\/gm=5\/gm=6\/gm=7\/gm=8\/gm=9:=by have U:(0:Int)<=gm/\gm<10:=u0;have aa:3<=gm:=g0;omega
   rcases xQ with rfl | rfl | rfl | rfl | rfl | rfl | rfl
   ·refine dR.mk 3 rfl (by decide) ?_;refine aw.mk _ (fv (aU:=S.aU+1) (N:=m.ns.n) (os:=os) (k:=4) (.head _) (by decide)) ?_;refine aw.mk _ ((gI.lH jt).part (k:=0) (m:=1) (by decide)) ?_;refine bl.mk ad f.aG b3 rfl bV ?_;have bL:=sK iQ gI 3 (by decide) rfl;rw[rF]at bL;refine a9.mk (os.aO 215) (du m (S.aU+1) m.ns.n os::dj m R::cZ m R) _ kh bL ?_;rintro v I' M' -⟨rfl,en⟩;cases aR:fQ m.aZ f c with
    |loop=>rw[aR]at en;obtain⟨rfl,rfl⟩:=en;refine aM.mk (λ_=>?_) (λe=>by cases e);exact⟨_,[],.sub (eN _) .refl,rfl,by rw[mv aR];exact⟨rfl,rfl⟩⟩
    |on f' c' done=>
     rw[aR]at en;obtain⟨rfl,b5,hN,iR,rfl⟩:=en;have kz:=iL f' c' done aR;have de:=rG f' c' done aR;rw[kz]at eA eB ek;have g9:b5.ok 5 ((f'::au).reverse.flatMap bC.cells):=by rw[oy];exact iR.ok
     have gO:(b5.aO 215++(du m (S.aU+1) m.ns.n os::dj m R::cZ m R)).Perm (du m (S.aU+1) m.ns.n b5::dj m R::(cZ m R++b5.aO 215)):=by rw[sP hN];exact kh.symm
     refine aM.mk (λe=>by cases e) (λ_=>?_);refine aM.mk (λe=>?_) (λe=>?_);·have a':done=true:=e;subst a';rw[a4]at eA eB ek;exact⟨⟨1,k,a,c',⟨S.kn,f'::au,S.aU+1⟩,R,b5,n⟩,⟨⟨⟨ba,cM,g9,by show S.aU+1+n=_;omega,jV,.inr (.inr (.inr ⟨rfl,⟨f',au,rfl,by rw[de.same.2];exact dg,by rw[de.same.2];exact rH,by rw[de.same.1];exact bV,by rw[de.same.1,de.same.2];exact o9⟩,eA,eB,ek⟩))⟩,rfl⟩,by simp[iC]<;>omega⟩,.perm gO .refl,e7,.cons rfl (.cons rfl (.cons rfl (.nil)))⟩
     ·have a':done=false:=e;subst a';rw[aQ]at eA eB ek;exact⟨⟨2,k,a,c',⟨S.kn,f'::au,S.aU+1⟩,R,b5,n⟩,⟨⟨⟨ba,cM,g9,by show S.aU+1+n=_;omega,jV,.inr (.inr (.inl ⟨rfl,⟨f',au,rfl,de.on rfl⟩,eA,eB,ek⟩))⟩,rfl⟩,by simp[iC]<;>omega⟩,.perm gO .refl,e7,.cons rfl (.cons rfl (.cons rfl (.nil)))⟩
   ·refine dR.mk 4 rfl (by decide) ?_;refine aw.mk _ (fv (aU:=S.aU+1) (N:=m.ns.n) (os:=os) (k:=4) (.head _) (by decide)) ?_;refine aw.mk _ ((gI.lH jt).part (k:=0) (m:=1) (by decide)) ?_;refine bl.mk ad f.aG b3 rfl bV ?_;have bL:=sK iQ gI 4 (by decide) rfl;rw[rF]at bL;refine a9.mk (os.aO 215) (du m (S.aU+1) m.ns.n os::dj m R::cZ m R) _ kh bL ?_;rintro v I' M' -⟨rfl,en⟩;cases aR:fQ m.aZ f c with
    |loop=>rw[aR]at en;obtain⟨rfl,rfl⟩:=en;refine aM.mk (λ_=>?_) (λe=>by cases e);exact⟨_,[],.sub (eN _) .refl,rfl,by rw[mv aR];exact⟨rfl,rfl⟩⟩
    |on f' c' done=>
     rw[aR]at en;obtain⟨rfl,b5,hN,iR,rfl⟩:=en;have kz:=iL f' c' done aR;have de:=rG f' c' done aR;rw[kz]at eA eB ek;have g9:b5.ok 5 ((f'::au).reverse.flatMap bC.cells):=by rw[oy];exact iR.ok
     have gO:(b5.aO 215++(du m (S.aU+1) m.ns.n os::dj m R::cZ m R)).Perm (du m (S.aU+1) m.ns.n b5::dj m R::(cZ m R++b5.aO 215)):=by rw[sP hN];exact kh.symm
     refine aM.mk (λe=>by cases e) (λ_=>?_);refine aM.mk (λe=>?_) (λe=>?_);·have a':done=true:=e;subst a';rw[a4]at eA eB ek;exact⟨⟨1,k,a,c',⟨S.kn,f'::au,S.aU+1⟩,R,b5,n⟩,⟨⟨⟨ba,cM,g9,by show S.aU+1+n=_;omega,jV,.inr (.inr (.inr ⟨rfl,⟨f',au,rfl,by rw[de.same.2];exact dg,by rw[de.same.2];exact rH,by rw[de.same.1];exact bV,by rw[de.same.1,de.same.2];exact o9⟩,eA,eB,ek⟩))⟩,rfl⟩,by simp[iC]<;>omega⟩,.perm gO .refl,e7,.cons rfl (.cons rfl (.cons rfl (.nil)))⟩
     ·have a':done=false:=e;subst a';rw[aQ]at eA eB ek;exact⟨⟨2,k,a,c',⟨S.kn,f'::au,S.aU+1⟩,R,b5,n⟩,⟨⟨⟨ba,cM,g9,by show S.aU+1+n=_;omega,jV,.inr (.inr (.inl ⟨rfl,⟨f',au,rfl,de.on rfl⟩,eA,eB,ek⟩))⟩,rfl⟩,by simp[iC]<;>omega⟩,.perm gO .refl,e7,.cons rfl (.cons rfl (.cons rfl (.nil)))⟩
   ·refine dR.mk 5 rfl (by decide) ?_;refine aw.mk _ (fv (aU:=S.aU+1) (N:=m.ns.n) (os:=os) (k:=4) (.head _) (by decide)) ?_;refine aw.mk _ ((gI.lH jt).part (k:=0) (m:=1) (by decide)) ?_;refine bl.mk ad f.aG b3 rfl bV ?_;have bL:=sK iQ gI 5 (by decide) rfl;rw[rF]at bL;refine a9.mk (os.aO 215) (du m (S.aU+1) m.ns.n os::dj m R::cZ m R) _ kh bL ?_;rintro v I' M' -⟨rfl,en⟩;cases aR:fQ m.aZ f c with
    |loop=>rw[aR]at en;obtain⟨rfl,rfl⟩:=en;refine aM.mk (λ_=>?_) (λe=>by cases e);exact⟨_,[],.sub (eN _) .refl,rfl,by rw[mv aR];exact⟨rfl,rfl⟩⟩
    |on f' c' done=>
     rw[aR]at en;obtain⟨rfl,b5,hN,iR,rfl⟩:=en;have kz:=iL f' c' done aR;have de:=rG f' c' done aR;rw[kz]at eA eB ek;have g9:b5.ok 5 ((f'::au).reverse.flatMap bC.cells):=by rw[oy];exact iR.ok
     have gO:(b5.aO 215++(du m (S.aU+1) m.ns.n os::dj m R::cZ m R)).Perm (du m (S.aU+1) m.ns.n b5::dj m R::(cZ m R++b5.aO 215)):=by rw[sP hN];exact kh.symm
     refine aM.mk (λe=>by cases e) (λ_=>?_);refine aM.mk (λe=>?_) (λe=>?_);·have a':done=true:=e;subst a';rw[a4]at eA eB ek;exact⟨⟨1,k,a,c',⟨S.kn,f'::au,S.aU+1⟩,R,b5,n⟩,⟨⟨⟨ba,cM,g9,by show S.aU+1+n=_;omega,jV,.inr (.inr (.inr ⟨rfl,⟨f',au,rfl,by rw[de.same.2];exact dg,by rw[de.same.2];exact rH,by rw[de.same.1];exact bV,by rw[de.same.1,de.same.2];exact o9⟩,eA,eB,ek⟩))⟩,rfl⟩,by simp[iC]<;>omega⟩,.perm gO .refl,e7,.cons rfl (.cons rfl (.cons rfl (.nil)))⟩
     ·have a':done=false:=e;subst a';rw[aQ]at eA eB ek;exact⟨⟨2,k,a,c',⟨S.kn,f'::au,S.aU+1⟩,R,b5,n⟩,⟨⟨⟨ba,cM,g9,by show S.aU+1+n=_;omega,jV,.inr (.inr (.inl ⟨rfl,⟨f',au,rfl,de.on rfl⟩,eA,eB,ek⟩))⟩,rfl⟩,by simp[iC]<;>omega⟩,.perm gO .refl,e7,.cons rfl (.cons rfl (.cons rfl (.nil)))⟩
   ·refine dR.mk 6 rfl (by decide) ?_;refine aw.mk _ (fv (aU:=S.aU+1) (N:=m.ns.n) (os:=os) (k:=4) (.head _) (by decide)) ?_;refine aw.mk _ ((gI.lH jt).part (k:=0) (m:=1) (by decide)) ?_;refine bl.mk ad f.aG b3 rfl bV ?_;have bL:=sK iQ gI 6 (by decide) rfl;rw[rF]at bL;refine a9.mk (os.aO 215) (du m (S.aU+1) m.ns.n os::dj m R::cZ m R) _ kh bL ?_;rintro v I' M' -⟨rfl,en⟩;cases aR:fQ m.aZ f c with
    |loop=>rw[aR]at en;obtain⟨rfl,rfl⟩:=en;refine aM.mk (λ_=>?_) (λe=>by cases e);exact⟨_,[],.sub (eN _) .refl,rfl,by rw[mv aR];exact⟨rfl,rfl⟩⟩
    |on f' c' done=>
     rw[aR]at en;obtain⟨rfl,b5,hN,iR,rfl⟩:=en;have kz:=iL f' c' done aR;have de:=rG f' c' done aR;rw[kz]at eA eB ek;have g9:b5.ok 5 ((f'::au).reverse.flatMap bC.cells):=by rw[oy];exact iR.ok
     have gO:(b5.aO 215++(du m (S.aU+1) m.ns.n os::dj m R::cZ m R)).Perm (du m (S.aU+1) m.ns.n b5::dj m R::(cZ m R++b5.aO 215)):=by rw[sP hN];exact kh.symm
     refine aM.mk (λe=>by cases e) (λ_=>?_);refine aM.mk (λe=>?_) (λe=>?_);·have a':done=true:=e;subst a';rw[a4]at eA eB ek;exact⟨⟨1,k,a,c',⟨S.kn,f'::au,S.aU+1⟩,R,b5,n⟩,⟨⟨⟨ba,cM,g9,by show S.aU+1+n=_;omega,jV,.inr (.inr (.inr ⟨rfl,⟨f',au,rfl,by rw[de.same.2];exact dg,by rw[de.same.2];exact rH,by rw[de.same.1];exact bV,by rw[de.same.1,de.same.2];exact o9⟩,eA,eB,ek⟩))⟩,rfl⟩,by simp[iC]<;>omega⟩,.perm gO .refl,e7,.cons rfl (.cons rfl (.cons rfl (.nil)))⟩
     ·have a':done=false:=e;subst a';rw[aQ]at eA eB ek;exact⟨⟨2,k,a,c',⟨S.kn,f'::au,S.aU+1⟩,R,b5,n⟩,⟨⟨⟨ba,cM,g9,by show S.aU+1+n=_;omega,jV,.inr (.inr (.inl ⟨rfl,⟨f',au,rfl,de.on rfl⟩,eA,eB,ek⟩))⟩,rfl⟩,by simp[iC]<;>omega⟩,.perm gO .refl,e7,.cons rfl (.cons rfl (.cons rfl (.nil)))⟩
   ·refine dR.mk 7 rfl (by decide) ?_;refine aw.mk _ (fv (aU:=S.aU+1) (N:=m.ns.n) (os:=os) (k:=4) (.head _) (by decide)) ?_;refine aw.mk _ ((gI.lH jt).part (k:=0) (m:=1) (by decide)) ?_;refine bl.mk ad f.aG b3 rfl bV ?_;have bL:=sK iQ gI 7 (by decide) rfl;rw[rF]at bL;refine a9.mk (os.aO 215) (du m (S.aU+1) m.ns.n os::dj m R::cZ m R) _ kh bL ?_;rintro v I' M' -⟨rfl,en⟩;cases aR:fQ m.aZ f c with
    |loop=>rw[aR]at en;obtain⟨rfl,rfl⟩:=en;refine aM.mk (λ_=>?_) (λe=>by cases e);exact⟨_,[],.sub (eN _) .refl,rfl,by rw[mv aR];exact⟨rfl,rfl⟩⟩
    |on f' c' done=>
     rw[aR]at en;obtain⟨rfl,b5,hN,iR,rfl⟩:=en;have kz:=iL f' c' done aR;have de:=rG f' c' done aR;rw[kz]at eA eB ek;have g9:b5.ok 5 ((f'::au).reverse.flatMap bC.cells):=by rw[oy];exact iR.ok
     have gO:(b5.aO 215++(du m (S.aU+1) m.ns.n os::dj m R::cZ m R)).Perm (du m (S.aU+1) m.ns.n b5::dj m R::(cZ m R++b5.aO 215)):=by rw[sP hN];exact kh.symm
     refine aM.mk (λe=>by cases e) (λ_=>?_);refine aM.mk (λe=>?_) (λe=>?_);·have a':done=true:=e;subst a';rw[a4]at eA eB ek;exact⟨⟨1,k,a,c',⟨S.kn,f'::au,S.aU+1⟩,R,b5,n⟩,⟨⟨⟨ba,cM,g9,by show S.aU+1+n=_;omega,jV,.inr (.inr (.inr ⟨rfl,⟨f',au,rfl,by rw[de.same.2];exact dg,by rw[de.same.2];exact rH,by rw[de.same.1];exact bV,by rw[de.same.1,de.same.2];exact o9⟩,eA,eB,ek⟩))⟩,rfl⟩,by simp[iC]<;>omega⟩,.perm gO .refl,e7,.cons rfl (.cons rfl (.cons rfl (.nil)))⟩
     ·have a':done=false:=e;subst a';rw[aQ]at eA eB ek;exact⟨⟨2,k,a,c',⟨S.kn,f'::au,S.aU+1⟩,R,b5,n⟩,⟨⟨⟨ba,cM,g9,by show S.aU+1+n=_;omega,jV,.inr (.inr (.inl ⟨rfl,⟨f',au,rfl,de.on rfl⟩,eA,eB,ek⟩))⟩,rfl⟩,by simp[iC]<;>omega⟩,.perm gO .refl,e7,.cons rfl (.cons rfl (.cons rfl (.nil)))⟩
   ·refine dR.mk 8 rfl (by decide) ?_;refine aw.mk _ (fv (aU:=S.aU+1) (N:=m.ns.n) (os:=os) (k:=4) (.head _) (by decide)) ?_;refine aw.mk _ ((gI.lH jt).part (k:=0) (m:=1) (by decide)) ?_;refine bl.mk ad f.aG b3 rfl bV ?_;have bL:=sK iQ gI 8 (by decide) rfl;rw[rF]at bL;refine a9.mk (os.aO 215) (du m (S.aU+1) m.ns.n os::dj m R::cZ m R) _ kh bL ?_;rintro v I' M' -⟨rfl,en⟩;cases aR:fQ m.aZ f c with
    |loop=>rw[aR]at en;obtain⟨rfl,rfl⟩:=en;refine aM.mk (λ_=>?_) (λe=>by cases e);exact⟨_,[],.sub (eN _) .refl,rfl,by rw[mv aR];exact⟨rfl,rfl⟩⟩
    |on f' c' done=>
     rw[aR]at en;obtain⟨rfl,b5,hN,iR,rfl⟩:=en;have kz:=iL f' c' done aR;have de:=rG f' c' done aR;rw[kz]at eA eB ek;have g9:b5.ok 5 ((f'::au).reverse.flatMap bC.cells):=by rw[oy];exact iR.ok
     have gO:(b5.aO 215++(du m (S.aU+1) m.ns.n os::dj m R::cZ m R)).Perm (du m (S.aU+1) m.ns.n b5::dj m R::(cZ m R++b5.aO 215)):=by rw[sP hN];exact kh.symm
     refine aM.mk (λe=>by cases e) (λ_=>?_);refine aM.mk (λe=>?_) (λe=>?_);·have a':done=true:=e;subst a';rw[a4]at eA eB ek;exact⟨⟨1,k,a,c',⟨S.kn,f'::au,S.aU+1⟩,R,b5,n⟩,⟨⟨⟨ba,cM,g9,by show S.aU+1+n=_;omega,jV,.inr (.inr (.inr ⟨rfl,⟨f',au,rfl,by rw[de.same.2];exact dg,by rw[de.same.2];exact rH,by rw[de.same.1];exact bV,by rw[de.same.1,de.same.2];exact o9⟩,eA,eB,ek⟩))⟩,rfl⟩,by simp[iC]<;>omega⟩,.perm gO .refl,e7,.cons rfl (.cons rfl (.cons rfl (.nil)))⟩
     ·have a':done=false:=e;subst a';rw[aQ]at eA eB ek;exact⟨⟨2,k,a,c',⟨S.kn,f'::au,S.aU+1⟩,R,b5,n⟩,⟨⟨⟨ba,cM,g9,by show S.aU+1+n=_;omega,jV,.inr (.inr (.inl ⟨rfl,⟨f',au,rfl,de.on rfl⟩,eA,eB,ek⟩))⟩,rfl⟩,by simp[iC]<;>omega⟩,.perm gO .refl,e7,.cons rfl (.cons rfl (.cons rfl (.nil)))⟩
   ·refine dR.mk 9 rfl (by decide) ?_;refine aw.mk _ (fv (aU:=S.aU+1) (N:=m.ns.n) (os:=os) (k:=4) (.head _) (by decide)) ?_;refine aw.mk _ ((gI.lH jt).part (k:=0) (m:=1) (by decide)) ?_;refine bl.mk ad f.aG b3 rfl bV ?_;have bL:=sK iQ gI 9 (by decide) rfl;rw[rF]at bL;refine a9.mk (os.aO 215) (du m (S.aU+1) m.ns.n os::dj m R::cZ m R) _ kh bL ?_;rintro v I' M' -⟨rfl,en⟩;cases aR:fQ m.aZ f c with
    |loop=>rw[aR]at en;obtain⟨rfl,rfl⟩:=en;refine aM.mk (λ_=>?_) (λe=>by cases e);exact⟨_,[],.sub (eN _) .refl,rfl,by rw[mv aR];exact⟨rfl,rfl⟩⟩
    |on f' c' done=>
     rw[aR]at en;obtain⟨rfl,b5,hN,iR,rfl⟩:=en;have kz:=iL f' c' done aR;have de:=rG f' c' done aR;rw[kz]at eA eB ek;have g9:b5.ok 5 ((f'::au).reverse.flatMap bC.cells):=by rw[oy];exact iR.ok
     have gO:(b5.aO 215++(du m (S.aU+1) m.ns.n os::dj m R::cZ m R)).Perm (du m (S.aU+1) m.ns.n b5::dj m R::(cZ m R++b5.aO 215)):=by rw[sP hN];exact kh.symm
     refine aM.mk (λe=>by cases e) (λ_=>?_);refine aM.mk (λe=>?_) (λe=>?_);·have a':done=true:=e;subst a';rw[a4]at eA eB ek;exact⟨⟨1,k,a,c',⟨S.kn,f'::au,S.aU+1⟩,R,b5,n⟩,⟨⟨⟨ba,cM,g9,by show S.aU+1+n=_;omega,jV,.inr (.inr (.inr ⟨rfl,⟨f',au,rfl,by rw[de.same.2];exact dg,by rw[de.same.2];exact rH,by rw[de.same.1];exact bV,by rw[de.same.1,de.same.2];exact o9⟩,eA,eB,ek⟩))⟩,rfl⟩,by simp[iC]<;>omega⟩,.perm gO .refl,e7,.cons rfl (.cons rfl (.cons rfl (.nil)))⟩
     ·have a':done=false:=e;subst a';rw[aQ]at eA eB ek;exact⟨⟨2,k,a,c',⟨S.kn,f'::au,S.aU+1⟩,R,b5,n⟩,⟨⟨⟨ba,cM,g9,by show S.aU+1+n=_;omega,jV,.inr (.inr (.inl ⟨rfl,⟨f',au,rfl,de.on rfl⟩,eA,eB,ek⟩))⟩,rfl⟩,by simp[iC]<;>omega⟩,.perm gO .refl,e7,.cons rfl (.cons rfl (.cons rfl (.nil)))⟩
  ·
   have ik:=ba;have wz:=cM;have wB:=hu;obtain⟨a6,iR⟩:=Fg (by rw[cX]at cr;exact cr);obtain⟨pU,nQ,sR,A7⟩:=EK cV gQ;have Iv:au.reverse.length<=1099511627776:=by rw[cX]at nb;simp only[eM,ky]at nb |-;omega
   refine a9.whole _ (Rq m gp cV (aU:=S.aU) (N:=m.ns.n) (.head _) (λx ab=>.tail _ (.tail _ (dV.2 (.inr ab)))) iR gQ Iv) ?_;rintro v I' M' -⟨rfl,rfl,rfl⟩;refine a9.whole _ (Ih m pF cI (aU:=S.aU) (os:=os) ik wz (k:=(bA m.aZ f).1) (a:=(bA m.aZ f).2) (by rw[<-tP];exact pU) nQ sR) ?_;rintro v I' M' -⟨rfl,A8,b9,tR,A9,⟨g0,jU⟩,rfl,rfl⟩;have CY:(bA m.aZ f).2-m.aq<m.w:=by have aC:m.aZ.aq=m.aq:=rfl;have aA:m.aZ.s=m.s:=rfl;rw[aC]at nQ;rw[aA]at sR;show _<m.s.size-m.aq+1;omega
   refine aw.mk _ (tR.rd hw g0 jU CY (λx ab=>.tail _ (.tail _ (dV.2 (.inl ab))))) ?_;have jE:iv m.aZ S=bif Nat.beq (S.kn (bA m.aZ f).1 ((bA m.aZ f).2-m.aq)).ao 0 then .more (.begin (bA m.aZ f).1 (bA m.aZ f).2) S else
     bif Nat.beq (S.kn (bA m.aZ f).1 ((bA m.aZ f).2-m.aq)).ao 1 then .stop (.err 1)else .more (.hand (S.kn (bA m.aZ f).1 ((bA m.aZ f).2-m.aq))) S:=by
    unfold iv;rw[cX];rfl
   refine aM.mk (λe=>?_) (λb'=>?_)
   ·have a':(S.kn (bA m.aZ f).1 ((bA m.aZ f).2-m.aq)).ao=0:=by have:=cm e;omega
    rw[a']at jE;have wD:iv m.aZ S=.more (.begin (bA m.aZ f).1 (bA m.aZ f).2) S:=jE;rw[wD]at gf nT lj;exact⟨⟨0,(bA m.aZ f).1,(bA m.aZ f).2,S.kn (bA m.aZ f).1 ((bA m.aZ f).2-m.aq),S,A8,os,left⟩,⟨⟨⟨tR,A9,cr,wB,nb,.inl ⟨rfl,gf.1,nT.1,gf.2,lj⟩⟩,rfl⟩,by simp[iC]<;>omega⟩,.refl,e7,.cons rfl (.cons rfl (.cons rfl (.nil)))⟩
   have C9:Nat.beq (S.kn (bA m.aZ f).1 ((bA m.aZ f).2-m.aq)).ao 0=false:=by rw[lB];intro aA;have:=cj aA;have:=cu b';omega
   rw[C9,aQ]at jE;refine aM.mk (λe=>?_) (λaC=>?_)
   ·have a':(S.kn (bA m.aZ f).1 ((bA m.aZ f).2-m.aq)).ao=1:=by have:=cm e;omega
    rw[a']at jE;have wD:iv m.aZ S=.stop (.err 1):=jE;rw[wD]at lj;have rD:G=.err 1:=lj.symm;exact⟨_,[],.sub (eN _) .refl,rfl,by rw[rD];exact⟨rfl,rfl⟩⟩
   have dO:Nat.beq (S.kn (bA m.aZ f).1 ((bA m.aZ f).2-m.aq)).ao 1=false:=by rw[lB];intro aA;have:=cj aA;have:=cu aC;omega
   rw[dO,aQ]at jE;rw[jE]at gf nT lj;exact⟨⟨3,(bA m.aZ f).1,(bA m.aZ f).2,S.kn (bA m.aZ f).1 ((bA m.aZ f).2-m.aq),S,A8,os,left⟩,⟨⟨⟨tR,A9,cr,wB,nb,.inr (.inl ⟨rfl,gf.1,nT.1,gf.2,nT.2,lj⟩)⟩,rfl⟩,by simp[iC]<;>omega⟩,.refl,e7,.cons rfl (.cons rfl (.cons rfl (.nil)))⟩
  ·
   obtain⟨a3,gI⟩:=Fg (by rw[cX]at cr;exact cr);have zz:=gI.n;have lI:os.a.map (λz=>(⟨z,0,none⟩:Addr))=some ⟨a3,0,none⟩:=by rw[gI.a];rfl
   have iH:=gI.ok.cap a3 gI.a;have hA:mF.reverse.length<=1099511627776:=by rw[cX]at nb;simp only[eM,ky]at nb |-;omega
   have ZS:f1.pl-m.aq<m.w:=by show _<m.s.size-m.aq+1;omega
   obtain⟨b,mE⟩:=ba.there (k:=f1.aG) (p:=f1.pl-m.aq) (by omega) ZS Fh;have jt:∀ y∈os.aO 215,y∈du m S.aU m.ns.n os::dj m R::(cZ m R++os.aO 215):=λy aT=>.tail _ (.tail _ (dV.2 (.inr aT)));refine cq.draw aV rfl rfl rfl ?_;refine aw.mk _ (fv (aU:=S.aU) (N:=m.ns.n) (os:=os) (k:=6) (.head _) (by decide)) ?_;refine aw.mk _ (fv (aU:=S.aU) (N:=m.ns.n) (os:=os) (k:=6) (.head _) (by decide)) ?_;refine bb.mk (mF.reverse.length:Int) (ei (show((os.n:Int)-1)=_ by omega) (by omega)) ?_;refine bl.mk ⟨a3,0,none⟩ mF.reverse.length lI rfl (show mF.reverse.length<os.n by omega) ?_;refine cq.draw aV rfl rfl rfl ?_;refine aw.mk _ ((gI.lH jt).part (k:=0) (m:=1) (by decide)) ?_;refine bb.mk (f1.aG:Int) (ei rfl (by omega)) ?_;refine aw.mk _ ((gI.lH jt).part (k:=1) (m:=1) (by decide)) ?_;refine bb.mk (f1.pl:Int) (ei rfl (by omega)) ?_;refine hx.whole _ (Rw m pF cI (aU:=S.aU) (N:=m.ns.n) (os:=os) (Mr:=os.aO 215) cM (by omega) mE dg iM) (λv I' M' h x ab=>by rw[h.2.2];exact ab) ?_;rintro v I' M' -⟨rfl,rfl,rfl⟩;refine ba.alf hw (k:=f1.aG) (by omega) mE ZS c ?_;intro dD ik mu;have wz:dD.length=m.ns.n:=by rw[mu,cM]
   have Rz:∀ y∈os.aO 215,y∈du m S.aU m.ns.n os::dj m dD::(cZ m dD++os.aO 215):=λy aT=>.tail _ (.tail _ (dV.2 (.inr aT)));refine cq.draw aV rfl rfl rfl ?_;refine aw.mk _ (fv (aU:=S.aU) (N:=m.ns.n) (os:=os) (k:=6) (.head _) (by decide)) ?_;refine aw.mk _ (fv (aU:=S.aU) (N:=m.ns.n) (os:=os) (k:=6) (.head _) (by decide)) ?_;refine bb.mk (mF.reverse.length:Int) (ei (show((os.n:Int)-1)=_ by omega) (by omega)) ?_;refine jI.mk 0 mF.reverse.length rfl rfl (bF _) (show mF.reverse.length<=os.c by omega) ?_;have x7:bf.ok ⟨os.a,mF.reverse.length,os.c,os.aY⟩ 5 (mF.reverse.flatMap bC.cells):=by have:=bf.alg gI;rwa [show os.n-1=mF.reverse.length by omega]at this
   refine cc.mk [] (dj m dD::(cZ m dD++os.aO 215)) _ _ rfl rfl (bP rfl) rfl ?_;refine aw.mk _ (fv (aU:=S.aU) (N:=m.ns.n) (os:=⟨os.a,mF.reverse.length,os.c,os.aY⟩) (k:=6) (.head _) (by decide)) ?_;have g7:m.aZ.aq=m.aq:=rfl;refine aM.mk (λe=>?_) (λe=>?_)
   ·have a':mF=[]:=by
     have U:((mF.reverse.length:Nat):Int)=0:=cm e;have aa:mF.reverse.length=0:=by omega
     exact nx (by simpa using aa)
    have np:kT m.aZ c S=.stop (.ok c { S with kn:=hn S.kn f1.aG (f1.pl-m.aq) c,op:=[] }):=by unfold kT;rw[cX,a'];rfl
    rw[np]at lj;have rD:G=.ok c { S with kn:=hn S.kn f1.aG (f1.pl-m.aq) c,op:=[] }:=lj.symm;refine⟨_,du m S.aU m.ns.n ⟨os.a,mF.reverse.length,os.c,os.aY⟩::dj m dD::cZ m dD,.sub (.cons_cons _ (.cons_cons _ (List.sublist_append_left _ _))) .refl,rfl,?_⟩;rw[rD];exact⟨rfl,dD,_,ik,wz,rfl⟩
   have a':∃ r bj,mF=r::bj:=by
    cases mF with
    |nil=>exact absurd (cu e) (by simp)| cons r bj=>exact⟨r,bj,rfl⟩
   have np:kT m.aZ c S=.more (.hand c) ⟨hn S.kn f1.aG (f1.pl-m.aq) c,mF,S.aU⟩:=by obtain⟨r,bj,rfl⟩:=a';unfold kT;rw[cX];rfl
   rw[np]at gf nT lj;obtain⟨c2,aL⟩:=gf;obtain⟨u',sN⟩:=nT;have eR:ho m.aZ left (.hand c) ⟨hn S.kn f1.aG (f1.pl-m.aq) c,mF,S.aU⟩=G:=lj;have alp:mF.length<=S.aU:=by rw[cX]at nb;simp only[eM]at nb;omega
   obtain⟨T,bO⟩:∃ T:fJ,T=⟨hn S.kn f1.aG (f1.pl-m.aq) c,mF,S.aU⟩:=⟨_,rfl⟩;obtain⟨b5,RA⟩:∃ o:bf,o=⟨os.a,mF.reverse.length,os.c,os.aY⟩:=⟨_,rfl⟩;refine Km.Cd (Mj m I' ⟨3,k,a,c,T,dD,b5,left⟩) (.o6 (by rw[bO,RA];rfl)) (e7) (.cons rfl (.cons rfl (.cons rfl (.nil)))) ?_;rw[<-bO]at c2 u' aL sN eR;have cr:b5.ok 5 (T.op.reverse.flatMap bC.cells):=by rw[RA,bO];exact x7
   have ba:ke m dD T.kn:=by rw[bO];exact ik
   have cM:=wz;have hu:T.aU+left=m.fuel:=by rw[bO];exact hu
   have nb:T.op.length<=T.aU:=by rw[bO];exact alp
   clear x7 ik jt Rz gI lI zz cX bV Fh mE RA bO iH mu wz;refine a9.whole _ (L7 m T.aU m.ns.n b5 mw) ?_;rintro v I' M' -⟨rfl,⟨ag,rfl,rfl⟩|⟨ag,rfl,rfl⟩⟩
   ·refine aM.mk (λ_=>?_) (λe=>by cases e);obtain rfl:left=0:=by omega
    have rD:G=.err 0:=eR.symm;exact⟨_,[],.sub (eN _) .refl,rfl,by rw[rD];exact⟨rfl,rfl⟩⟩
   refine aM.mk (λe=>by cases e) (λ_=>?_);obtain⟨n,rfl⟩:∃ n,left=n+1:=⟨left-1,by omega⟩;have hj:=AX cV c2 aL;have rE:=EQ cV c2 u' aL sN;rw[Mi]at eR;obtain⟨f,au,cX,ah,aJ⟩:=aL;have gQ:=c2.op f (by rw[cX];exact .head _);have o9:=(u'.ax f (by rw[cX];exact .head _)).w;obtain⟨g,gI⟩:=Fg (by rw[cX]at cr;exact cr);have zz:=gI.n;have lI:b5.a.map (λg=>(⟨g,0,none⟩:Addr))=some ⟨g,0,none⟩:=by rw[gI.a];rfl
   have hA:au.reverse.length<=1099511627776:=by rw[cX]at nb;simp only[eM,ky]at nb |-;omega
   refine cq.draw aV rfl rfl rfl ?_;refine aw.mk _ (fv (aU:=T.aU+1) (N:=m.ns.n) (os:=b5) (k:=6) (.head _) (by decide)) ?_;refine aw.mk _ (fv (aU:=T.aU+1) (N:=m.ns.n) (os:=b5) (k:=6) (.head _) (by decide)) ?_;refine bb.mk (au.reverse.length:Int) (ei (by omega) (by omega)) ?_;refine bl.mk ⟨g,0,none⟩ au.reverse.length lI rfl (by omega) ?_;have bV:f.aG<m.ns.n:=by rw[<-tP];exact gQ.aG
   obtain⟨x,zM,u6,gw,kf,ad,b3,br⟩:=Fb gp bV;have kS:=Iu aJ cI;have iQ:sJ I' m.aZ f c x (ad.add (f.aG*10)):=⟨br,gw,by have:=kf.bj.len;simpa using this,by have U:=gQ.pl;have aa:=gQ.av;have af:m.aZ.s.size<=4096:=cI;omega,iU gQ.av cI,Ql cV gQ,gQ.n,kS.1,kS.2⟩;have jt:∀ y∈b5.aO 215,y∈du m (T.aU+1) m.ns.n b5::dj m dD::(cZ m dD++b5.aO 215):=λy aT=>.tail _ (.tail _ (dV.2 (.inr aT)));have rF:(⟨g,au.reverse.length*5,none⟩:Addr)=(⟨g,0,none⟩:Addr).add (au.reverse.length*5):=by rw[dY _ rfl,dp]
   have u0:=(bm.rm cV gQ.aG).k;have g0:=gQ.k;rw[gw]at u0 g0;have iL:∀ (f':bC) (c':bo) (done:Bool),fQ m.aZ f c=.on f' c' done->kw m.aZ c T=bif done then kT m.aZ c' ⟨T.kn,f'::au,T.aU+1⟩else iv m.aZ ⟨T.kn,f'::au,T.aU+1⟩:=λf' c' done e=>by unfold kw;rw[cX];simp only;rw[e]
   have eA:zt m.aZ (kw m.aZ c T):=hj;have eB:we m.aZ (kw m.aZ c T):=rE;have ek:Ff m.aZ (kw m.aZ c T) n=G:=eR;have mv:fQ m.aZ f c=.loop->G=.err 2:=λe=>by
    have:kw m.aZ c T=.stop (.err 2):=by unfold kw;rw[cX];simp only;rw[e]
    rw[this]at ek;exact ek.symm
   have rG:=λ(f':bC) (c':bo) (done:Bool) (e:fQ m.aZ f c=.on f' c' done)=>EL cV gQ ah aJ e;have jV:au.length+1<=T.aU+1:=by rw[cX]at nb;simp only[eM]at nb;omega
   have dg:=gQ.lo;have rH:f.pl<=m.s.size:=iU gQ.pl gQ.av;clear hj rE eR u6 kf cX cr nb;refine cq.draw aV rfl rfl rfl ?_;refine aw.mk _ (fv (aU:=T.aU+1) (N:=m.ns.n) (os:=b5) (k:=4) (.head _) (by decide)) ?_;refine aw.mk _ ((gI.lH jt).part (k:=0) (m:=1) (by decide)) ?_;refine bl.mk ad f.aG b3 rfl bV ?_;refine aw.mk _ (sL br (off:=0) (n:=1) (by decide) _) ?_;obtain⟨⟨gm,e2,s1,s2,eK,ja,ZI,ZJ,sA,sB,sC,sD⟩,xa,aln,xc,alo⟩:=x;have xQ:gm=3\/gm=4\/gm=5\/gm=6\/gm=7\/gm=8\/gm=9:=by have U:(0:Int)<=gm/\gm<10:=u0;have aa:3<=gm:=g0;omega
   rcases xQ with rfl | rfl | rfl | rfl | rfl | rfl | rfl
   ·refine dR.mk 3 rfl (by decide) ?_;refine aw.mk _ (fv (aU:=T.aU+1) (N:=m.ns.n) (os:=b5) (k:=4) (.head _) (by decide)) ?_;refine aw.mk _ ((gI.lH jt).part (k:=0) (m:=1) (by decide)) ?_;refine bl.mk ad f.aG b3 rfl bV ?_;have bL:=sK iQ gI 3 (by decide) rfl;rw[rF]at bL;refine a9.mk (b5.aO 215) (du m (T.aU+1) m.ns.n b5::dj m dD::cZ m dD) _ kh bL ?_;rintro v I' M' -⟨rfl,en⟩;cases aR:fQ m.aZ f c with
    |loop=>rw[aR]at en;obtain⟨rfl,rfl⟩:=en;refine aM.mk (λ_=>?_) (λe=>by cases e);exact⟨_,[],.sub (eN _) .refl,rfl,by rw[mv aR];exact⟨rfl,rfl⟩⟩
    |on f' c' done=>
     rw[aR]at en;obtain⟨rfl,fY,hN,iR,rfl⟩:=en;have kz:=iL f' c' done aR;have de:=rG f' c' done aR;rw[kz]at eA eB ek;have g9:fY.ok 5 ((f'::au).reverse.flatMap bC.cells):=by rw[oy];exact iR.ok
     have gO:(fY.aO 215++(du m (T.aU+1) m.ns.n b5::dj m dD::cZ m dD)).Perm (du m (T.aU+1) m.ns.n fY::dj m dD::(cZ m dD++fY.aO 215)):=by rw[sP hN];exact kh.symm
     refine aM.mk (λe=>by cases e) (λ_=>?_);refine aM.mk (λe=>?_) (λe=>?_);·have a':done=true:=e;subst a';rw[a4]at eA eB ek;exact⟨⟨1,k,a,c',⟨T.kn,f'::au,T.aU+1⟩,dD,fY,n⟩,⟨⟨⟨ba,cM,g9,by show T.aU+1+n=_;omega,jV,.inr (.inr (.inr ⟨rfl,⟨f',au,rfl,by rw[de.same.2];exact dg,by rw[de.same.2];exact rH,by rw[de.same.1];exact bV,by rw[de.same.1,de.same.2];exact o9⟩,eA,eB,ek⟩))⟩,rfl⟩,by simp[iC]<;>omega⟩,.perm gO .refl,e7,.cons rfl (.cons rfl (.cons rfl (.nil)))⟩
     ·have a':done=false:=e;subst a';rw[aQ]at eA eB ek;exact⟨⟨2,k,a,c',⟨T.kn,f'::au,T.aU+1⟩,dD,fY,n⟩,⟨⟨⟨ba,cM,g9,by show T.aU+1+n=_;omega,jV,.inr (.inr (.inl ⟨rfl,⟨f',au,rfl,de.on rfl⟩,eA,eB,ek⟩))⟩,rfl⟩,by simp[iC]<;>omega⟩,.perm gO .refl,e7,.cons rfl (.cons rfl (.cons rfl (.nil)))⟩
   ·refine dR.mk 4 rfl (by decide) ?_;refine aw.mk _ (fv (aU:=T.aU+1) (N:=m.ns.n) (os:=b5) (k:=4) (.head _) (by decide)) ?_;refine aw.mk _ ((gI.lH jt).part (k:=0) (m:=1) (by decide)) ?_;refine bl.mk ad f.aG b3 rfl bV ?_;have bL:=sK iQ gI 4 (by decide) rfl;rw[rF]at bL;refine a9.mk (b5.aO 215) (du m (T.aU+1) m.ns.n b5::dj m dD::cZ m dD) _ kh bL ?_;rintro v I' M' -⟨rfl,en⟩;cases aR:fQ m.aZ f c with
    |loop=>rw[aR]at en;obtain⟨rfl,rfl⟩:=en;refine aM.mk (λ_=>?_) (λe=>by cases e);exact⟨_,[],.sub (eN _) .refl,rfl,by rw[mv aR];exact⟨rfl,rfl⟩⟩
    |on f' c' done=>
     rw[aR]at en;obtain⟨rfl,fY,hN,iR,rfl⟩:=en;have kz:=iL f' c' done aR;have de:=rG f' c' done aR;rw[kz]at eA eB ek;have g9:fY.ok 5 ((f'::au).reverse.flatMap bC.cells):=by rw[oy];exact iR.ok
     have gO:(fY.aO 215++(du m (T.aU+1) m.ns.n b5::dj m dD::cZ m dD)).Perm (du m (T.aU+1) m.ns.n fY::dj m dD::(cZ m dD++fY.aO 215)):=by rw[sP hN];exact kh.symm
     refine aM.mk (λe=>by cases e) (λ_=>?_);refine aM.mk (λe=>?_) (λe=>?_);·have a':done=true:=e;subst a';rw[a4]at eA eB ek;exact⟨⟨1,k,a,c',⟨T.kn,f'::au,T.aU+1⟩,dD,fY,n⟩,⟨⟨⟨ba,cM,g9,by show T.aU+1+n=_;omega,jV,.inr (.inr (.inr ⟨rfl,⟨f',au,rfl,by rw[de.same.2];exact dg,by rw[de.same.2];exact rH,by rw[de.same.1];exact bV,by rw[de.same.1,de.same.2];exact o9⟩,eA,eB,ek⟩))⟩,rfl⟩,by simp[iC]<;>omega⟩,.perm gO .refl,e7,.cons rfl (.cons rfl (.cons rfl (.nil)))⟩
     ·have a':done=false:=e;subst a';rw[aQ]at eA eB ek;exact⟨⟨2,k,a,c',⟨T.kn,f'::au,T.aU+1⟩,dD,fY,n⟩,⟨⟨⟨ba,cM,g9,by show T.aU+1+n=_;omega,jV,.inr (.inr (.inl ⟨rfl,⟨f',au,rfl,de.on rfl⟩,eA,eB,ek⟩))⟩,rfl⟩,by simp[iC]<;>omega⟩,.perm gO .refl,e7,.cons rfl (.cons rfl (.cons rfl (.nil)))⟩
   ·refine dR.mk 5 rfl (by decide) ?_;refine aw.mk _ (fv (aU:=T.aU+1) (N:=m.ns.n) (os:=b5) (k:=4) (.head _) (by decide)) ?_;refine aw.mk _ ((gI.lH jt).part (k:=0) (m:=1) (by decide)) ?_;refine bl.mk ad f.aG b3 rfl bV ?_;have bL:=sK iQ gI 5 (by decide) rfl;rw[rF]at bL;refine a9.mk (b5.aO 215) (du m (T.aU+1) m.ns.n b5::dj m dD::cZ m dD) _ kh bL ?_;rintro v I' M' -⟨rfl,en⟩;cases aR:fQ m.aZ f c with
    |loop=>rw[aR]at en;obtain⟨rfl,rfl⟩:=en;refine aM.mk (λ_=>?_) (λe=>by cases e);exact⟨_,[],.sub (eN _) .refl,rfl,by rw[mv aR];exact⟨rfl,rfl⟩⟩
    |on f' c' done=>
     rw[aR]at en;obtain⟨rfl,fY,hN,iR,rfl⟩:=en;have kz:=iL f' c' done aR;have de:=rG f' c' done aR;rw[kz]at eA eB ek;have g9:fY.ok 5 ((f'::au).reverse.flatMap bC.cells):=by rw[oy];exact iR.ok
     have gO:(fY.aO 215++(du m (T.aU+1) m.ns.n b5::dj m dD::cZ m dD)).Perm (du m (T.aU+1) m.ns.n fY::dj m dD::(cZ m dD++fY.aO 215)):=by rw[sP hN];exact kh.symm
     refine aM.mk (λe=>by cases e) (λ_=>?_);refine aM.mk (λe=>?_) (λe=>?_);·have a':done=true:=e;subst a';rw[a4]at eA eB ek;exact⟨⟨1,k,a,c',⟨T.kn,f'::au,T.aU+1⟩,dD,fY,n⟩,⟨⟨⟨ba,cM,g9,by show T.aU+1+n=_;omega,jV,.inr (.inr (.inr ⟨rfl,⟨f',au,rfl,by rw[de.same.2];exact dg,by rw[de.same.2];exact rH,by rw[de.same.1];exact bV,by rw[de.same.1,de.same.2];exact o9⟩,eA,eB,ek⟩))⟩,rfl⟩,by simp[iC]<;>omega⟩,.perm gO .refl,e7,.cons rfl (.cons rfl (.cons rfl (.nil)))⟩
     ·have a':done=false:=e;subst a';rw[aQ]at eA eB ek;exact⟨⟨2,k,a,c',⟨T.kn,f'::au,T.aU+1⟩,dD,fY,n⟩,⟨⟨⟨ba,cM,g9,by show T.aU+1+n=_;omega,jV,.inr (.inr (.inl ⟨rfl,⟨f',au,rfl,de.on rfl⟩,eA,eB,ek⟩))⟩,rfl⟩,by simp[iC]<;>omega⟩,.perm gO .refl,e7,.cons rfl (.cons rfl (.cons rfl (.nil)))⟩
   ·refine dR.mk 6 rfl (by decide) ?_;refine aw.mk _ (fv (aU:=T.aU+1) (N:=m.ns.n) (os:=b5) (k:=4) (.head _) (by decide)) ?_;refine aw.mk _ ((gI.lH jt).part (k:=0) (m:=1) (by decide)) ?_;refine bl.mk ad f.aG b3 rfl bV ?_;have bL:=sK iQ gI 6 (by decide) rfl;rw[rF]at bL;refine a9.mk (b5.aO 215) (du m (T.aU+1) m.ns.n b5::dj m dD::cZ m dD) _ kh bL ?_;rintro v I' M' -⟨rfl,en⟩;cases aR:fQ m.aZ f c with
    |loop=>rw[aR]at en;obtain⟨rfl,rfl⟩:=en;refine aM.mk (λ_=>?_) (λe=>by cases e);exact⟨_,[],.sub (eN _) .refl,rfl,by rw[mv aR];exact⟨rfl,rfl⟩⟩
    |on f' c' done=>
     rw[aR]at en;obtain⟨rfl,fY,hN,iR,rfl⟩:=en;have kz:=iL f' c' done aR;have de:=rG f' c' done aR;rw[kz]at eA eB ek;have g9:fY.ok 5 ((f'::au).reverse.flatMap bC.cells):=by rw[oy];exact iR.ok
     have gO:(fY.aO 215++(du m (T.aU+1) m.ns.n b5::dj m dD::cZ m dD)).Perm (du m (T.aU+1) m.ns.n fY::dj m dD::(cZ m dD++fY.aO 215)):=by rw[sP hN];exact kh.symm
     refine aM.mk (λe=>by cases e) (λ_=>?_);refine aM.mk (λe=>?_) (λe=>?_);·have a':done=true:=e;subst a';rw[a4]at eA eB ek;exact⟨⟨1,k,a,c',⟨T.kn,f'::au,T.aU+1⟩,dD,fY,n⟩,⟨⟨⟨ba,cM,g9,by show T.aU+1+n=_;omega,jV,.inr (.inr (.inr ⟨rfl,⟨f',au,rfl,by rw[de.same.2];exact dg,by rw[de.same.2];exact rH,by rw[de.same.1];exact bV,by rw[de.same.1,de.same.2];exact o9⟩,eA,eB,ek⟩))⟩,rfl⟩,by simp[iC]<;>omega⟩,.perm gO .refl,e7,.cons rfl (.cons rfl (.cons rfl (.nil)))⟩
     ·have a':done=false:=e;subst a';rw[aQ]at eA eB ek;exact⟨⟨2,k,a,c',⟨T.kn,f'::au,T.aU+1⟩,dD,fY,n⟩,⟨⟨⟨ba,cM,g9,by show T.aU+1+n=_;omega,jV,.inr (.inr (.inl ⟨rfl,⟨f',au,rfl,de.on rfl⟩,eA,eB,ek⟩))⟩,rfl⟩,by simp[iC]<;>omega⟩,.perm gO .refl,e7,.cons rfl (.cons rfl (.cons rfl (.nil)))⟩
   ·refine dR.mk 7 rfl (by decide) ?_;refine aw.mk _ (fv (aU:=T.aU+1) (N:=m.ns.n) (os:=b5) (k:=4) (.head _) (by decide)) ?_;refine aw.mk _ ((gI.lH jt).part (k:=0) (m:=1) (by decide)) ?_;refine bl.mk ad f.aG b3 rfl bV ?_;have bL:=sK iQ gI 7 (by decide) rfl;rw[rF]at bL;refine a9.mk (b5.aO 215) (du m (T.aU+1) m.ns.n b5::dj m dD::cZ m dD) _ kh bL ?_;rintro v I' M' -⟨rfl,en⟩;cases aR:fQ m.aZ f c with
    |loop=>rw[aR]at en;obtain⟨rfl,rfl⟩:=en;refine aM.mk (λ_=>?_) (λe=>by cases e);exact⟨_,[],.sub (eN _) .refl,rfl,by rw[mv aR];exact⟨rfl,rfl⟩⟩
    |on f' c' done=>
     rw[aR]at en;obtain⟨rfl,fY,hN,iR,rfl⟩:=en;have kz:=iL f' c' done aR;have de:=rG f' c' done aR;rw[kz]at eA eB ek;have g9:fY.ok 5 ((f'::au).reverse.flatMap bC.cells):=by rw[oy];exact iR.ok
     have gO:(fY.aO 215++(du m (T.aU+1) m.ns.n b5::dj m dD::cZ m dD)).Perm (du m (T.aU+1) m.ns.n fY::dj m dD::(cZ m dD++fY.aO 215)):=by rw[sP hN];exact kh.symm
     refine aM.mk (λe=>by cases e) (λ_=>?_);refine aM.mk (λe=>?_) (λe=>?_);·have a':done=true:=e;subst a';rw[a4]at eA eB ek;exact⟨⟨1,k,a,c',⟨T.kn,f'::au,T.aU+1⟩,dD,fY,n⟩,⟨⟨⟨ba,cM,g9,by show T.aU+1+n=_;omega,jV,.inr (.inr (.inr ⟨rfl,⟨f',au,rfl,by rw[de.same.2];exact dg,by rw[de.same.2];exact rH,by rw[de.same.1];exact bV,by rw[de.same.1,de.same.2];exact o9⟩,eA,eB,ek⟩))⟩,rfl⟩,by simp[iC]<;>omega⟩,.perm gO .refl,e7,.cons rfl (.cons rfl (.cons rfl (.nil)))⟩
     ·have a':done=false:=e;subst a';rw[aQ]at eA eB ek;exact⟨⟨2,k,a,c',⟨T.kn,f'::au,T.aU+1⟩,dD,fY,n⟩,⟨⟨⟨ba,cM,g9,by show T.aU+1+n=_;omega,jV,.inr (.inr (.inl ⟨rfl,⟨f',au,rfl,de.on rfl⟩,eA,eB,ek⟩))⟩,rfl⟩,by simp[iC]<;>omega⟩,.perm gO .refl,e7,.cons rfl (.cons rfl (.cons rfl (.nil)))⟩
   ·refine dR.mk 8 rfl (by decide) ?_;refine aw.mk _ (fv (aU:=T.aU+1) (N:=m.ns.n) (os:=b5) (k:=4) (.head _) (by decide)) ?_;refine aw.mk _ ((gI.lH jt).part (k:=0) (m:=1) (by decide)) ?_;refine bl.mk ad f.aG b3 rfl bV ?_;have bL:=sK iQ gI 8 (by decide) rfl;rw[rF]at bL;refine a9.mk (b5.aO 215) (du m (T.aU+1) m.ns.n b5::dj m dD::cZ m dD) _ kh bL ?_;rintro v I' M' -⟨rfl,en⟩;cases aR:fQ m.aZ f c with
    |loop=>rw[aR]at en;obtain⟨rfl,rfl⟩:=en;refine aM.mk (λ_=>?_) (λe=>by cases e);exact⟨_,[],.sub (eN _) .refl,rfl,by rw[mv aR];exact⟨rfl,rfl⟩⟩
    |on f' c' done=>
     rw[aR]at en;obtain⟨rfl,fY,hN,iR,rfl⟩:=en;have kz:=iL f' c' done aR;have de:=rG f' c' done aR;rw[kz]at eA eB ek;have g9:fY.ok 5 ((f'::au).reverse.flatMap bC.cells):=by rw[oy];exact iR.ok
     have gO:(fY.aO 215++(du m (T.aU+1) m.ns.n b5::dj m dD::cZ m dD)).Perm (du m (T.aU+1) m.ns.n fY::dj m dD::(cZ m dD++fY.aO 215)):=by rw[sP hN];exact kh.symm
     refine aM.mk (λe=>by cases e) (λ_=>?_);refine aM.mk (λe=>?_) (λe=>?_);·have a':done=true:=e;subst a';rw[a4]at eA eB ek;exact⟨⟨1,k,a,c',⟨T.kn,f'::au,T.aU+1⟩,dD,fY,n⟩,⟨⟨⟨ba,cM,g9,by show T.aU+1+n=_;omega,jV,.inr (.inr (.inr ⟨rfl,⟨f',au,rfl,by rw[de.same.2];exact dg,by rw[de.same.2];exact rH,by rw[de.same.1];exact bV,by rw[de.same.1,de.same.2];exact o9⟩,eA,eB,ek⟩))⟩,rfl⟩,by simp[iC]<;>omega⟩,.perm gO .refl,e7,.cons rfl (.cons rfl (.cons rfl (.nil)))⟩
     ·have a':done=false:=e;subst a';rw[aQ]at eA eB ek;exact⟨⟨2,k,a,c',⟨T.kn,f'::au,T.aU+1⟩,dD,fY,n⟩,⟨⟨⟨ba,cM,g9,by show T.aU+1+n=_;omega,jV,.inr (.inr (.inl ⟨rfl,⟨f',au,rfl,de.on rfl⟩,eA,eB,ek⟩))⟩,rfl⟩,by simp[iC]<;>omega⟩,.perm gO .refl,e7,.cons rfl (.cons rfl (.cons rfl (.nil)))⟩
   ·refine dR.mk 9 rfl (by decide) ?_;refine aw.mk _ (fv (aU:=T.aU+1) (N:=m.ns.n) (os:=b5) (k:=4) (.head _) (by decide)) ?_;refine aw.mk _ ((gI.lH jt).part (k:=0) (m:=1) (by decide)) ?_;refine bl.mk ad f.aG b3 rfl bV ?_;have bL:=sK iQ gI 9 (by decide) rfl;rw[rF]at bL;refine a9.mk (b5.aO 215) (du m (T.aU+1) m.ns.n b5::dj m dD::cZ m dD) _ kh bL ?_;rintro v I' M' -⟨rfl,en⟩;cases aR:fQ m.aZ f c with
    |loop=>rw[aR]at en;obtain⟨rfl,rfl⟩:=en;refine aM.mk (λ_=>?_) (λe=>by cases e);exact⟨_,[],.sub (eN _) .refl,rfl,by rw[mv aR];exact⟨rfl,rfl⟩⟩
    |on f' c' done=>
     rw[aR]at en;obtain⟨rfl,fY,hN,iR,rfl⟩:=en;have kz:=iL f' c' done aR;have de:=rG f' c' done aR;rw[kz]at eA eB ek;have g9:fY.ok 5 ((f'::au).reverse.flatMap bC.cells):=by rw[oy];exact iR.ok
     have gO:(fY.aO 215++(du m (T.aU+1) m.ns.n b5::dj m dD::cZ m dD)).Perm (du m (T.aU+1) m.ns.n fY::dj m dD::(cZ m dD++fY.aO 215)):=by rw[sP hN];exact kh.symm
     refine aM.mk (λe=>by cases e) (λ_=>?_);refine aM.mk (λe=>?_) (λe=>?_);·have a':done=true:=e;subst a';rw[a4]at eA eB ek;exact⟨⟨1,k,a,c',⟨T.kn,f'::au,T.aU+1⟩,dD,fY,n⟩,⟨⟨⟨ba,cM,g9,by show T.aU+1+n=_;omega,jV,.inr (.inr (.inr ⟨rfl,⟨f',au,rfl,by rw[de.same.2];exact dg,by rw[de.same.2];exact rH,by rw[de.same.1];exact bV,by rw[de.same.1,de.same.2];exact o9⟩,eA,eB,ek⟩))⟩,rfl⟩,by simp[iC]<;>omega⟩,.perm gO .refl,e7,.cons rfl (.cons rfl (.cons rfl (.nil)))⟩
     ·have a':done=false:=e;subst a';rw[aQ]at eA eB ek;exact⟨⟨2,k,a,c',⟨T.kn,f'::au,T.aU+1⟩,dD,fY,n⟩,⟨⟨⟨ba,cM,g9,by show T.aU+1+n=_;omega,jV,.inr (.inr (.inl ⟨rfl,⟨f',au,rfl,de.on rfl⟩,eA,eB,ek⟩))⟩,rfl⟩,by simp[iC]<;>omega⟩,.perm gO .refl,e7,.cons rfl (.cons rfl (.cons rfl (.nil)))⟩
section
variable{X:dw}{F:Fr}{C:dX}{I:a5}{M:List aF}{o:Oper}
def vE.alq(aW:dm X.P X.E){s x:Operand}(aD:o.op=.call { callee:=.builtin .append,args:=#[s,x],argTypes:=#[t,t] })
 (aI:X.E t=some dT) (eS:dT.bT=.slice e) (he:X.E e=some aP)
  (os:bf) (bw:os.ok aP.size xs) (ax:bU F s=.val os.val)
  {ad:Addr} {m:Nat} (ab:bU F x=.val (.slice (some ad) m c')) {dd:List Value} (hm:0<m) (az:cx I M ad (m*aP.size) dd) (U:iW dd=true)
 (a2:M.Perm (os.aO e++Mr)) (b1:os.n+m<=maxLen) (ch:(os.n+m)*aP.bytes<=140737488355328)
  (M':bf->List aF) (Iw:∀ os':bf,(os'.aO e++Mr).Perm (M' os'))
  (k:∀ os':bf,os'.n=os.n+m->(∀ g,os'.a=some g->I g=none)->os'.ok aP.size (xs++dd)->K (.val os'.val) I (M' os')):vE X o F C I M K:=by
 refine⟨fun β a w Q kN=>?_⟩;have zN:dd.length=m*aP.size:=by obtain⟨_,_,_,_,_,_,h⟩:=az;exact h
 have hy:∀ w,e1 I M w->(Builtin.firstCells aP.size m (.slice (some ad) m c')).run X.P w=.ok dd.toArray w:=λw hw=>by
  obtain⟨bL,cs,T,ak,ev,aj,aE⟩:=az;refine run_firstCells_some (P:=X.P) w aP.size m ad m c' dd aE λj v an=>?_;rw[dY _ bL,w6 (ev.heap hw)];rw[<-aj,mM]at an;split at an;·rw[s8]at an;simpa using an
  ·cases an
 have ba:db X β a w F C I (os.aO e++Mr):=kN.j0 (.perm a2 .refl);obtain⟨inf,z,hi,gL,j1,kl,mQ⟩:=(aW _ _ he).inf;obtain⟨ja,qm,mW⟩:=(aW _ _ aI).fM;have vI:ja=.slice e:=by rw[eS]at mW;cases ja<;>simp_all[fF]
 subst vI;have y7:z.cells.size=inf.size:=by rw[gL,<-(aW _ _ he).len,<-mQ];simp
 have Mk:=bw;rw[<-gL]at bw zN hy;obtain⟨g,c,aY,w',ff,a3,a6,bN,gP,pA⟩:=V0 (P:=X.P) (w:=w) t t o.type e inf z qm qm (λk a'=>by cases a') hi kl y7 bw (λg aB=>ba.holds.m ⟨g,.cells os.aY.toArray e (0,0)⟩ (by simp[bf.aO,aB])) (x:=.slice (some ad) m c') hm zN (B1 U) (λ_=>rfl) (λw' Pe=>hy w' (kN.holds.heap Pe)) b1 (by rw[j1];exact ch);rw[gL]at a3 gP zN;have Pf:I g=none:=by
  rcases pA with⟨aB,_⟩ | ⟨rfl,_⟩;·exact ba.holds.d ⟨g,.cells os.aY.toArray e (0,0)⟩ (by simp[bf.aO,aB])
  ·cases bX:I w.heap.size with
   |none=>rfl| some pB=>have:=ba.holds.i _ _ bX;simp at this
 have es:=dJ ba.ak ax;have ex:=dJ ba.ak ab;have alr:(⟨some g,os.n+m,c,aY⟩:bf).ok aP.size (xs++dd):=by
  refine⟨?_,(λh=>by cases h),λeD aB=>?_⟩;·rw[di,Mk.len,zN,j3]
  ·cases aB;exact⟨a3,a6,bN,gP⟩
 refine kk (by rw[aD];simp) (v:=.slice (some ⟨g,0,none⟩) (os.n+m) c) (w':=w') ?_ ⟨_,.val (.slice (some ⟨g,0,none⟩) (os.n+m) c),I,M' ⟨some g,os.n+m,c,aY⟩,rfl,rfl,?_,k ⟨some g,os.n+m,c,aY⟩ rfl (λeD aB=>by cases aB;exact Pf) alr,rfl⟩
 ·unfold execOp;simp only[aD,resolve,invoke,builtin,cG,dv,ck,xp,dQ,oN,es,ex,ff]
 ·refine db.j0 ?_ (.perm (Iw _) .refl);rcases pA with⟨aB,rfl⟩ | ⟨rfl,rfl⟩
  ·have ag:os.aO e=[⟨g,.cells os.aY.toArray e (0,0)⟩]:=by simp[bf.aO,aB]
   rw[ag]at ba;exact ba.Ag (bi:=[]) (post:=Mr) rfl
  ·have aa:db X β a w.drew F C I (os.aO e++Mr):=ba.world rfl;have af:=aa.qb (.cells aY.toArray e (0,0));refine af.j0 (.sub ?_ .refl);exact List.Sublist.cons_cons _ (mU _ _)
def vE.x5(aW:dm X.P X.E){s x:Operand}(aD:o.op=.call { callee:=.builtin .append,args:=#[s,x],argTypes:=#[t,t] })
 (aI:X.E t=some dT) (eS:dT.bT=.slice e) (he:X.E e=some aP)
  (os:bf) (bw:os.ok aP.size xs) (ax:bU F s=.val os.val)
 (ab:bU F x=.val (.slice (some ⟨cS,0,none⟩) 1 c')) (aE:cs.length=aP.size) (U:iW cs=true)
  (bi post:List aF) (a2:M=⟨cS,.cells cs.toArray e (0,0)⟩::(bi++(os.aO e++post))) (b1:os.n+1<=9223372036854775807) (ch:(os.n+1)*aP.bytes<=140737488355328)
  (k:∀ os':bf,os'.n=os.n+1->(∀ g,os'.a=some g->I g=none)->os'.ok aP.size (xs++cs)->K (.val os'.val) I (⟨cS,.cells cs.toArray e (0,0)⟩::(bi++(os'.aO e++post)))):vE X o F C I M K:=by
 have aK:∀ os':bf,(os'.aO e++(⟨cS,.cells cs.toArray e (0,0)⟩::(bi++post)):List aF).Perm (⟨cS,.cells cs.toArray e (0,0)⟩::(bi++(os'.aO e++post))):=λos'=>
  rn.trans (.cons _ (EM _ _ _))
 refine .alq aW aD aI eS he os bw ax (m:=1) (dd:=cs) ab (by decide) ?_ U (Mr:=⟨cS,.cells cs.toArray e (0,0)⟩::(bi++post)) ?_ (by unfold maxLen;exact b1) ch _ aK k
 ·rw[qj];refine⟨rfl,_,_,_,.inr ⟨⟨cS,.cells cs.toArray e (0,0)⟩,by rw[a2];exact .head _,rfl,rfl⟩,?_,aE⟩;simp only[xr];exact gM (by omega)
 ·rw[a2];exact(aK os).symm
end
def als(g:cA):Spec Tryz.prog 116 [g.val] I M0 λr I' M'=>∃ b,r=.func (.func 178) #[] #[ptr b]/\I' b=some (.cells #[.slice g.a g.n g.c] 24 (0,0))/\(∀ b o,I b=some o->I' b=some o)/\(∀ x∈M0,x.num≠b)/\M'=M0:=by refine bY [1] aV Tryz.func116 rfl rfl rfl ?_;intro B ay;refine cy.mk λg aB vK=>?_;refine⟨_,_,.n2 rfl ?_ .refl,g,rfl,pJ ..,ku aB,vK,rfl⟩;intro h;obtain⟨x,ab,e⟩:=eh.1 h;exact vK x ab e
def qI(b:Nat)(ds:List bD):List (List Value):=(lg b ds).map λp=>[.int .i64 p.1,p.2.val]
def alt(b:Nat)(d:bD)(ds:List bD):qI b (d::ds)=d.t.ns.map (λn=>[.int .i64 b,n.val])++qI (b+d.t.ns.length) ds:=by simp[qI,lg,C7]
def Fi{ds:List bD}{i:Nat}(hi:i<ds.length):bI (ds.take (i+1))=bI (ds.take i)+ds[i].t.ns.length:=by unfold bI;rw[iT hi,gW,Cw];simp
def Ix(ds:List bD)(i:Nat):bI (ds.take i)<=bI ds:=by
 conv=>rhs;rw[<-y6 i ds]
 unfold bI;rw[gW,Cw];omega
def Ml:∀ (b:Nat) (ds:List bD) (i:Nat) (hi:i<ds.length) (dx:i<(ej b ds).length),(ej b ds)[i]=b+bI (ds.take i)+ds[i].t.bR.toNat
 |b,d::ds,0,_,_=>by simp[ej,bI]
 |b,d::ds,i+1,hi,dx=>by have:=Ml (b+d.t.ns.length) ds i (by simpa using hi) (by simpa[ej]using dx);simp only[ej,KF,this,oL];simp[bI];omega
def alu{g:cA}(aB:g.ok I)(zC:bI g.ds<=1099511627776){b:Nat}(ag:I b=some (.cells #[.slice g.a g.n g.c] 24 (0,0))) :
  Iter Tryz.prog 178 [ptr b] I (qI 0 g.ds):=by
 intro l R tn uM dZ M0 n' kN;refine An [] aV Tryz.func178 rfl rfl rfl ?_;intro B ay;have gC:=aB.n;have iH:=aB.bj.cap;have br:∀ (M:List aF),cx dZ M ((⟨b,0,none⟩:Addr).add 0) 1 [.slice g.a g.n g.c]:=λM=>⟨rfl,_,_,_,.inl (n' _ _ ag),rfl,rfl⟩;refine aw.mk _ (br _) ?_;refine ea.inv (ι:=Nat×Nat×a5×List aF) (λx=>{ bK:=[(0,.val (.func (.yield l) #[] #[])),(3,.val (.int .i64 ((bI (g.ds.take x.1):Nat):Int))),(9,.val (.slice g.a g.n g.c)),(10,.val (.int .i64 g.n)),(11,.val (.int .i64 x.1))],dz:=x.2.2.1,d':=x.2.2.2 }) (λx=>x.1<=g.n/\(∀ b o,I b=some o->x.2.2.1 b=some o)/\R x.2.1 x.2.2.1 x.2.2.2/\x.2.1<=(qI 0 g.ds).length/\(qI 0 g.ds).drop x.2.1=qI (bI (g.ds.take x.1)) (g.ds.drop x.1)) (λx=>g.n-x.1) ?_ ?_
 ·exact⟨(0,0,dZ,M0),⟨by simp,n',kN,by simp,rfl⟩,.refl,jj,.nil⟩
 ·rintro⟨i,k,cW,M1⟩⟨hi,b4,hB,e4,fx⟩;simp only at hi b4 hB e4 fx;refine aM.mk (λh=>?_) (λh=>?_)
  ·have a0:i<g.n:=by simpa using h
   have bZ:i<g.ds.length:=by omega
   have g6:=aB.mono b4;obtain⟨ad,b3,v0⟩:=g6.bj.row bD.dc a0 bZ;have eI:g.ds[i]∈g.ds:=dr bZ;have ri:=(aB.ds _ eI).t.n;have Xo:=(aB.ds _ eI).t.bj.cap;have j7:g.ds.drop i=g.ds[i]::g.ds.drop (i+1):=fg bZ;have kO:=Fi bZ;have bz:=Ix g.ds (i+1);refine bl.mk ad i b3 rfl a0 ?_;refine aw.mk _ (v0 _) ?_;refine ea.inv (ι:=Nat×Nat×a5×List aF) (λx=>{ bK:=[(0,.val (.func (.yield l) #[] #[])),(3,.val (.int .i64 ((bI (g.ds.take i):Nat):Int))),(5,.ref 5 0),(9,.val (.slice g.a g.n g.c)),(10,.val (.int .i64 g.n)),(11,.val (.int .i64 i)),(17,.val (.slice g.ds[i].t.a g.ds[i].t.n g.ds[i].t.c)),(18,.val (.int .i64 g.ds[i].t.n)),(19,.val (.int .i64 x.1))],cl:=[(5,g.ds[i].cells)],dz:=x.2.2.1,d':=x.2.2.2 }) (λx=>x.1<=g.ds[i].t.n/\(∀ b o,I b=some o->x.2.2.1 b=some o)/\R x.2.1 x.2.2.1 x.2.2.2/\x.2.1<=(qI 0 g.ds).length/\(qI 0 g.ds).drop x.2.1=(g.ds[i].t.ns.drop x.1).map (λn=>[.int .i64 ((bI (g.ds.take i):Nat):Int),n.val])++qI (bI (g.ds.take (i+1))) (g.ds.drop (i+1))) (λx=>g.ds[i].t.n-x.1) ?_ ?_;·refine⟨(0,k,cW,M1),⟨by simp,b4,hB,e4,?_⟩,.refl,k8,.cons rfl (.nil)⟩;simp only;rw[fx,j7,alt,kO];rfl
   ·rintro⟨j,k,cW,M1⟩⟨an,b4,hB,e4,fx⟩;simp only at an b4 hB e4 fx;refine aM.mk (λh=>?_) (λh=>?_)
    ·have fp:j<g.ds[i].t.n:=by simpa using h
     have lZ:j<g.ds[i].t.ns.length:=by omega
     have g6:=aB.mono b4;obtain⟨j',HE,lW⟩:=(g6.ds _ eI).t.bj.row bh.dc fp lZ;have bV:g.ds[i].t.ns.drop j=g.ds[i].t.ns[j]::g.ds[i].t.ns.drop (j+1):=fg lZ;rw[bV,dQ,py]at fx;obtain⟨ae,aj,nI⟩:=drop_cons fx;refine bl.mk j' j HE rfl fp ?_;refine aw.mk _ (lW _) ?_;refine bE.yield rfl (by simp) rfl rfl ?_;have aT:=uM k ae cW M1 b4 hB;rw[aj]at aT;refine Ej.mk M1 [] _ (by simp) aT ?_;rintro v eC dU h5 (⟨rfl,ik⟩ | ⟨rfl,ab⟩);·refine aM.mk (λh=>by simp at h) (λ_=>?_);refine bb.mk _ (c7 (i:=j) (by omega)) ?_;exact⟨(j+1,k+1,eC,dU),⟨⟨by simp only;omega,λb o h=>h5 b o (b4 b o h),ik,ae,nI⟩,by simp only;omega⟩,.perm (by simp) .refl,k8,.cons rfl (.nil)⟩
     ·refine aM.mk (λ_=>?_) (λh=>by simp at h);exact⟨_,_,.perm (by simp) .refl,.inr ab⟩
    ·have cE:g.ds[i].t.n<=j:=by simpa using h
     rw[iG (show g.ds[i].t.ns.length<=j by omega),oN,nz]at fx;refine bb.mk ((bI (g.ds.take (i+1)):Nat):Int) (ei (by omega) (by omega)) ?_;refine bb.mk _ (c7 (i:=i) (by omega)) ?_;exact⟨(i+1,k,cW,M1),⟨⟨by simp only;omega,b4,hB,e4,fx⟩,by simp only;omega⟩,.refl,jj,.nil⟩
  ·have cE:g.n<=i:=by simpa using h
   refine⟨_,_,.refl,.inl ?_⟩;rw[iG (show g.ds.length<=i by omega)]at fx;have vO:k=(qI 0 g.ds).length:=by have:=GW.1 fx;omega
   rw[<-vO];exact hB
def alv(m:Nat):rowOf kx.cells (m*4)=(List.replicate m kx).flatMap cP.cells:=by
 induction m with
 |zero=>rfl
 |succ w be=>
  have e:(w+1)*4=w*4+4:=by omega
  have aA:rowOf kx.cells ((w+1)*4)=rowOf kx.cells (w*4)++kx.cells:=by
   unfold rowOf;rw[e,Q2,gW];congr 1;apply xq (by rfl);intro i U aa;simp only[lu,su];have af:i<4:=by simpa using U
   have aN:(w*4+i)%kx.cells.length=i:=by show(w*4+i)%4=i;omega
   rw[aN]
   match i,af with
   |0,_=>rfl| 1,_=>rfl| 2,_=>rfl| 3,_=>rfl
  rw[aA,be,Qg];simp
def ZT(w:Nat):∀ n,((List.range n).flatMap λ_=>(List.range w).flatMap λ_=>kx.cells)=(List.replicate (n*w) kx).flatMap cP.cells
 |0=>by rw[G2];rfl
 |n+1=>by
  have U:((List.range w).flatMap λ_=>kx.cells)=(List.replicate w kx).flatMap cP.cells:=by
   have e:(List.range w).map (λ_=>kx)=List.replicate w kx:=by rw[List.map_const',tK]
   rw[<-e,Ia]
  rw[C8,mr,ZT w n,qh,List.flatMap_nil,eo,U,<-mr,List.replicate_append_replicate,j3,qj]
def Fj(fX w i:Nat):Value:=.slice (some ⟨fX,i*(w*4),none⟩) w w
def Iy(fX w n:Nat):List Value:=(List.range n).map (Fj fX w)
def alw(n w:Nat)(az:n<=4096)(hw:w<=8192)(U:1<=w):Spec Tryz.prog 39 [.int .i64 n,.int .i64 w] I M0 λv I' M'=>I'=I/\∃ ew fX,v=.slice (some ⟨ew,0,none⟩) n n /\
  M'=⟨ew,.cells (Iy fX w n).toArray 105 (0,0)⟩::⟨fX,.cells ((List.replicate (n*w) kx).flatMap cP.cells).toArray 107 (0,0)⟩::M0:=by
 refine bY [] aV Tryz.func39 rfl rfl rfl ?_;intro B ay;have bz:∀ i,i<=n->i*w<=33554432:=λi hi=>by have:=Mh (iU hi az) hw;omega
 have atZ:=bz n (b2 _);refine bb.mk ((n*w:Nat):Int) (ei (by simp) (by omega)) ?_;refine qU.mk (n*w) (n*w) rfl rfl (b2 _) (by show 16*(n*w)<=_;omega) (by omega) ?_;refine cy.mk λfX Da at0=>?_;refine qU.mk n n rfl rfl (b2 _) (by show 24*n<=_;omega) (by omega) ?_;refine cy.mk λew RB alx=>?_;refine ea.inv (ι:=Nat) (λi=>{ bK:=[(1,.val (.int .i64 w)),(5,.val (.slice (some ⟨fX,0,none⟩) (n*w) (n*w))),(6,.val (.slice (some ⟨ew,0,none⟩) n n)),(15,.val (.int .i64 n)),(16,.val (.int .i64 i))],cl:=[],dz:=I,d':=⟨ew,.cells ((List.range i).map (Fj fX w)++List.replicate (n-i) (Value.slice none 0 0)).toArray 105 (0,0)⟩::⟨fX,.cells ((List.replicate (n*w) kx).flatMap cP.cells).toArray 107 (0,0)⟩::M0 }) (λi=>i<=n) (λi=>n-i) ?_ ?_
 ·refine⟨0,bF _,.o6 ?_,jj,.nil⟩;have aC:rowOf [Value.slice none 0 0] (n*1)=List.replicate n (Value.slice none 0 0):=by rw[Cp,jk]
  have aA:=alv (n*w);show(⟨ew,.cells (rowOf [Value.slice none 0 0] (n*1)).toArray 105 (0,0)⟩:aF)::⟨fX,.cells (rowOf kx.cells (n*w*4)).toArray 107 (0,0)⟩::M0=_;rw[aC,aA];rfl
 intro i hi;refine aM.mk (λe=>?_) (λe=>?_)
 ·have a0:i<n:=by simpa using e
  have gL:=bz i hi;have j1:=bz (i+1) (by omega);have RC:(i+1)*w=i*w+w:=by rw[j3,qj]
  have aly:(i+1)*w<=n*w:=s7 _ a0;refine bb.mk ((i*w:Nat):Int) (ei (by simp) (by omega)) ?_;refine bb.mk _ (c7 (i:=i) (by omega)) ?_;refine bb.mk (((i+1)*w:Nat):Int) (ei (by simp) (by omega)) ?_;refine bb.mk _ (c7 (i:=i) (by omega)) ?_;refine bb.mk (((i+1)*w:Nat):Int) (ei (by simp) (by omega)) ?_;refine bE.slice3 aV rfl (by simp) (e:=107) rfl rfl rfl (i*w) ((i+1)*w) ((i+1)*w) (ad:=some ⟨fX,0,none⟩) (n:=n*w) (c:=n*w) rfl rfl rfl rfl (by omega) (b2 _) aly ?_;refine bl.mk ⟨ew,0,none⟩ i rfl rfl a0 ?_;refine cc.jO [] _ ((List.range i).map (Fj fX w)++List.replicate (n-i) (Value.slice none 0 0)) _ rfl ?_ rfl ((List.range (i+1)).map (Fj fX w)++List.replicate (n-(i+1)) (Value.slice none 0 0)) ?_ ?_;·rw[og,di,eW,tK,y5];show 0+i*1+1<=_;omega
  ·have rz:List.replicate (n-i) (Value.slice none 0 0)=.slice none 0 0::List.replicate (n-(i+1)) (Value.slice none 0 0):=by rw[show n-i=(n-(i+1))+1 from by omega,wc]
   have aj:(Value.slice (if(i+1)*w=i*w then some ⟨fX,0,none⟩else(some (⟨fX,0,none⟩:Addr)).map (·.add (i*w*4))) ((i+1)*w-i*w) ((i+1)*w-i*w))=Fj fX w i:=by rw[b8 (by omega),RC,LV];unfold Fj;rw[mc,dY _ rfl,dp,Nat.mul_assoc]
   rw[rz,C8,gW,gz];refine(Le (k:=0+i*1) (by rw[eW,tK];omega)).trans ?_;rw[aj];rfl
  refine bb.mk _ (c7 (i:=i) (by omega)) ?_;exact⟨i+1,⟨by omega,by omega⟩,.refl,jj,.nil⟩
 ·have cE:n<=i:=by simpa using e
  obtain rfl:i=n:=by omega
  refine⟨_,_,.refl,rfl,ew,fX,rfl,?_⟩;rw[rp,List.replicate_zero,eo];rfl
def x8{G F:Fr}{y:Operand}{r:dW}(h:dN G y=dN F y)(bg:bU F y=r):bU G y=r:=by simp only[bU,ey,h];exact bg
def RD{d:bh}{n:Int}(h:fits d n=true)(ay:0<=d.k):d.t.size<=255:=by
 unfold fits at h;have z:(⟨#[]⟩:ByteArray).size=0:=rfl;cases U:decide (10<=d.k)with
 |true=>rw[U]at h;cases h
 |false=>
  rw[U,aQ]at h;cases aa:decide (n<sh d.k.toNat)||(decide (0<=mY d.k.toNat)&&decide (mY d.k.toNat<n))with
  |true=>rw[aa]at h;cases h
  |false=>
   rw[aa,aQ]at h;cases af:decide (d.k=1)with
   |true=>rw[af,a4]at h;simp only[ct,eY]at h;rw[h.1,z];omega
   |false=>
    rw[af,aQ]at h;cases aN:decide (d.k=2)with
    |true=>rw[aN,a4]at h;simp only[ct,pk,n8,ny]at h;omega
    |false=>
     rw[aN,aQ]at h;cases bq:decide (d.k=3)||decide (d.k=9)with
     |true=>rw[bq,a4]at h;simp only[oR,ct,eY]at h;omega
     |false=>
      rw[bq,aQ]at h;cases bp:decide (d.k=6)with
      |true=>rw[bp,a4]at h;simp only[ct,eY]at h;rw[h.2.2,z];omega| false=>rw[bp,aQ]at h;simp only[ct,eY]at h;rw[h.2.1,z];omega
def Mm{b T:Nat}{l:List Nat}(h:I b=some (.cells (l.map λ(k:Nat)=>Value.int .i64 (k:Int)).toArray T (0,0)))(aE:l.length<=1048576)(az:l.length=n):fC I (some ⟨b,0,none⟩) n n 1 8 (l.map λ(k:Nat)=>Value.int .i64 (k:Int)):=by subst az;refine⟨by simp,⟨b2 _,by omega⟩,.inr ⟨_,rfl,rfl,_,T,(0,0),h,?_⟩⟩;simp only[xr];exact gM (by simp)
def eQ(k:Nat):Value:=.int .i64 (k:Int)
def va(ez:Nat)(s:ByteArray)(aq fuel:Nat)(gi N:Nat)(nv:Value):aF:=⟨ez,.cells [.string s,.int .i64 aq,.int .i64 fuel,.int .i64 (0:Nat),nv,.slice (some ⟨gi,0,none⟩) N N,.slice none 0 0].toArray 148 (0,0)⟩
def pV(gi N:Nat):aF:=⟨gi,.cells (List.replicate N (Value.slice none 0 0)).toArray 269 (0,0)⟩
structure alz(cW:a5)(ds:List bD)(au:List aF)(alA:Value->aF)(k:Nat)(I':a5)(M':List aF):Prop where
 x:∃ (os:bf) (xs:List js),(∀ b o,cW b=some o->I' b=some o)/\os.ok 10 (xs.flatMap js.cells)/\(∀ x∈xs,x.ok I')/\xs.map js.pn=(jT ds).take k/\M'=alA os.val::(au++os.aO 206)
def ZU{xs:List js}{x:js}:xs.flatMap js.cells++x.cells=(xs++[x]).flatMap js.cells:=by simp
def alB(a b c d e:α):[a,b,c,d,e].Perm [d,a,b,c,e]:=
 (by decide:[0,1,2,3,4].Perm [3,0,1,2,4]).map (λi=>[a,b,c,d,e].getD i a)
def alC(a b c d e f:α):[a,b,c,d,e,f].Perm [f,d,a,b,c,e]:=
 (by decide:[0,1,2,3,4,5].Perm [5,3,0,1,2,4]).map (λi=>[a,b,c,d,e,f].getD i a)
structure alD(g:cA)(p:Nat×bh):Prop where
 aS:∀ k∈p.2.aS,0<=k/\k.toNat<1024/\p.1+k.toNat<1024
 at1:p.1<=1024
 find:p.2.k=3->p.2.aS=[]/\∃ q:Nat,ee p.2.t g.ds 0=(q:Int)/\q<g.ds.length
 len:p.2.aS.length<=1024
def ZV{g:cA}(aB:g.ok I)(hm:ie g){p:Nat×bh}(aK:p∈lg 0 g.ds):alD g p/\p.2.ok I/\p.2.t.size<=4096:=by
 obtain⟨d,ah,az,ag⟩:=QQ _ _ _ aK;have al:=hm.r d ah;have aD:=(aB.ds d ah).t.ns _ az;obtain⟨j,an,e⟩:=vR az;have ar:=al.fits j an;have l0:=al.aS j an;rw[e]at ar l0;have zC:=hm.CP;have aI:=RD ar aD.k.1;have e4:p.2.aS.length<=j:=E1 j _ (al.diff.sublist (H3 az)) l0;refine⟨⟨λk ae=>?_,by omega,λaf=>⟨?_,?_⟩,by omega⟩,aD,by omega⟩
 ·have:=l0 k ae;omega
 ·have h:=ar;unfold fits at h;rw[af]at h;have aC:decide ((10:Int)<=3)=false:=rfl;rw[aC,aQ]at h;cases aa:decide ((p.2.aS.length:Int)<sh (3:Int).toNat)||(decide (0<=mY (3:Int).toNat)&&decide (mY (3:Int).toNat<(p.2.aS.length:Int)))with
  |true=>rw[aa]at h;cases h| false=>simp only[n8,Hl,ny]at aa;have aA:mY (3:Int).toNat=0:=rfl;rw[aA]at aa;exact nx (by omega)
 ·have U:=hm.find d ah _ az af;have aa:=LM g.ds 0 U;exact⟨(ee p.2.t g.ds 0).toNat,by omega,by omega⟩
def alE{b T:Nat}{l:List Nat}(a2:(⟨b,.cells (l.map eQ).toArray T (0,0)⟩:aF)∈M){q:Nat}(aL:q<l.length):cx I M ((⟨b,0,none⟩:Addr).add (q*1)) 1 [eQ l[q]]:=by
 have h:=dt (I:=I) (cs:=l.map eQ) (k:=q*1) (n:=1) a2 (by rw[eW];omega);have e:((l.map eQ).drop (q*1)).take 1=[eQ l[q]]:=by rw[jk,fg (by rw[eW];exact aL),oL,oM,lu]
 rwa [e]at h
def alF{g:cA}(aB:g.ok I)(hm:ie g)(az:g.n<=1024)(s:ByteArray)(ax:s.size<=4096)(ai fuel:Nat)(hl:ai<=s.size) :
  Spec Tryz.prog 77 [g.val,.string s,.int .i64 ai,.int .i64 fuel] I [] λv I' M'=>(∀ b o,I b=some o->I' b=some o)/\∃ (m:cz) (C1:Option Addr),v=.tuple #[ptr m.ez,.slice C1 g.n g.n]/\fC I' C1 g.n g.n 1 8 ((ej 0 g.ds).map eQ) /\ m.s=s/\m.aq=ai/\m.fuel=fuel/\m.ns.ok I'/\m.aZ=fk g s ai/\m.ns.n=bI g.ds/\(∀ x∈m.ns.xs,x.d.t.size<=4096) /\
   M'=du m 0 (bI g.ds) ⟨none,0,0,[]⟩::dj m (List.replicate (bI g.ds) ⟨none,List.replicate m.w hC⟩)::[]:=by
 refine OO [4,10,53,14] aV Tryz.func77 rfl rfl rfl ?_;intro B ay;have gC:=aB.n;have zC:=hm.CP;have zN:=xS 0 g.ds;refine cy.mk λcK Mn Iz=>?_;refine aw.mk _ (dt (k:=0) (n:=1) (cs:=[.slice g.a g.n g.c]) (.head _) (by simp)) ?_;refine qU.mk g.n g.n rfl rfl (b2 _) (by show 8*g.n<=_;omega) (by omega) ?_;refine cy.mk λew RB alx=>?_;refine cy.mk λig Rh Ri=>?_;refine cc.mk [] [⟨ew,_⟩,⟨cK,_⟩] _ _ rfl rfl (bP rfl) rfl ?_;refine aw.mk _ (dt (k:=0) (n:=1) (cs:=[.slice g.a g.n g.c]) (.tail _ (.tail _ (.head _))) (by simp)) ?_;refine ea.inv (ι:=Nat) (λi=>{ bK:=[(1,.val (.string s)),(2,.val (.int .i64 ai)),(3,.val (.int .i64 fuel)),(4,.val (ptr cK)),(10,.val (ptr ig)),(11,.val (.int .i64 ((bI (g.ds.take i):Nat):Int))),(25,.val (.slice g.a g.n g.c)),(26,.val (.int .i64 g.n)),(27,.val (.int .i64 i))],dz:=I,d':=[⟨ig,.cells [.slice (some ⟨ew,0,none⟩) g.n g.n].toArray 70 (0,0)⟩,⟨ew,.cells (((ej 0 g.ds).take i).map eQ++List.replicate (g.n-i) (eQ 0)).toArray 3 (0,0)⟩,⟨cK,.cells [.slice g.a g.n g.c].toArray 24 (0,0)⟩] }) (λi=>i<=g.n) (λi=>g.n-i) ?_ ?_
 ·refine⟨0,bF _,.o6 ?_,k8,.nil⟩;have e:rowOf [eQ 0] (g.n*1)=List.replicate g.n (eQ 0):=by rw[Cp,jk]
  show [_,(⟨ew,.cells (rowOf [eQ 0] (g.n*1)).toArray 3 (0,0)⟩:aF),_]=_;rw[e];rfl
 ·intro i hi;refine aM.mk (λh=>?_) (λh=>?_)
  ·have a0:i<g.n:=by simpa using h
   have bZ:i<g.ds.length:=by omega
   obtain⟨ad,b3,v0⟩:=aB.bj.row bD.dc a0 bZ;have eI:g.ds[i]∈g.ds:=dr bZ;have ri:=(aB.ds _ eI).t.n;have sm:=(hm.r _ eI).bR;have kO:=Fi bZ;have bz:=Ix g.ds (i+1);have RE:=Ml 0 g.ds i bZ (by omega);refine bl.mk ad i b3 rfl a0 ?_;refine aw.mk _ (v0 _) ?_;refine aw.mk _ (dt (k:=0) (n:=1) (cs:=[.slice (some ⟨ew,0,none⟩) g.n g.n]) (.head _) (by simp)) ?_;refine bb.mk (((ej 0 g.ds)[i]:Nat):Int) (ei (by omega) (by omega)) ?_;refine bl.mk ⟨ew,0,none⟩ i rfl rfl a0 ?_;refine cc.jO [_] [_] (((ej 0 g.ds).take i).map eQ++List.replicate (g.n-i) (eQ 0)) _ rfl ?_ rfl (((ej 0 g.ds).take (i+1)).map eQ++List.replicate (g.n-(i+1)) (eQ 0)) ?_ ?_;·rw[og,di,eW,mV,y5];show 0+i*1+1<=_;omega
   ·have rz:List.replicate (g.n-i) (eQ 0)=eQ 0::List.replicate (g.n-(i+1)) (eQ 0):=by rw[show g.n-i=(g.n-(i+1))+1 from by omega,wc]
    rw[rz,iT (by omega),gW,gz];exact Le (k:=0+i*1) (by rw[eW,mV];omega)
   refine bb.mk ((bI (g.ds.take (i+1)):Nat):Int) (ei (by omega) (by omega)) ?_;refine bb.mk _ (c7 (i:=i) (by omega)) ?_;exact⟨i+1,⟨by omega,by omega⟩,.refl,k8,.nil⟩
  have cE:g.n<=i:=by simpa using h
  obtain rfl:i=g.n:=by omega
  have gq:bI (g.ds.take g.n)=bI g.ds:=by rw[gM (by omega)]
  have sy:((ej 0 g.ds).take g.n).map eQ++List.replicate (g.n-g.n) (eQ 0)=(ej 0 g.ds).map eQ:=by rw[gM (by omega),rp];simp
  rw[gq,sy];refine qU.mk (bI g.ds) (bI g.ds) rfl rfl (b2 _) (by show 24*bI g.ds<=_;omega) (by omega) ?_;refine cy.mk λgi mE at2=>?_;refine cy.mk λez alG at3=>?_;refine cy.mk λRF alH at4=>?_;refine cc.mk [] [⟨ez,_⟩,⟨gi,_⟩,_,_,_] _ _ rfl rfl (bP rfl) rfl ?_;refine aw.mk _ (dt (k:=0) (n:=1) (cs:=[.slice g.a g.n g.c]) (.tail _ (.tail _ (.tail _ (.tail _ (.tail _ (.head _)))))) (by simp)) ?_;have alI:rowOf [Value.slice none 0 0] (bI g.ds*1)=List.replicate (bI g.ds) (Value.slice none 0 0):=by rw[Cp,jk]
  refine a9.Ke (ins I RF (.cells [ptr ez].toArray 136 (0,0))) (va ez s ai fuel gi (bI g.ds) (.slice none 0 0)::([pV gi (bI g.ds),⟨ig,.cells [.slice (some ⟨ew,0,none⟩) g.n g.n].toArray 70 (0,0)⟩,⟨ew,.cells ((ej 0 g.ds).map eQ).toArray 3 (0,0)⟩,⟨cK,.cells [.slice g.a g.n g.c].toArray 24 (0,0)⟩])) [] _ (.n2 rfl (by simp) (.o6 (by
    unfold pV;rw[<-alI];rfl))) (als g) ?_
  rintro v cW M1 ZW -⟨c6,rfl,zk,-,-,rfl⟩;have b4:∀ b o,I b=some o->cW b=some o:=λb o h=>ZW _ _ (ku alH _ _ h);have g6:=aB.mono b4;have IA:∀ {I':a5} {M:List aF},(∀ b o,cW b=some o->I' b=some o)->cx I' M ⟨RF,0,none⟩ 1 [ptr ez]:=λh=>⟨rfl,_,_,_,.inl (h _ _ (ZW _ _ (pJ ..))),rfl,rfl⟩;refine cq.range aV rfl rfl rfl .refl (alu g6 (by omega) zk) (λvs h=>?_) (λk I' M'=>alz cW g.ds [pV gi (bI g.ds),⟨ig,.cells [.slice (some ⟨ew,0,none⟩) g.n g.n].toArray 70 (0,0)⟩,⟨ew,.cells ((ej 0 g.ds).map eQ).toArray 3 (0,0)⟩,⟨cK,.cells [.slice g.a g.n g.c].toArray 24 (0,0)⟩] (va ez s ai fuel gi (bI g.ds)) k I' M') (λex I' M'=>False) ⟨⟨none,0,0,[]⟩,[],λ_ _ h=>h,⟨rfl,λ_=>⟨rfl,rfl⟩,λg h=>(by cases h)⟩,λx ab=>(by cases ab),rfl,rfl⟩ ?_ ?_ (λex I' M' _ h=>h.elim);·obtain⟨p,_,rfl⟩:=eh.1 h;rfl
  ·rintro k ae I' M' -⟨os,xs,hY,cr,oA,gp,rfl⟩l B ay j4;have ED:k<(lg 0 g.ds).length:=by simpa[qI]using ae
   have A':k<bI g.ds:=by rw[wi]at ED;exact ED
   obtain⟨p,aK⟩:∃ p,(lg 0 g.ds)[k]=p:=⟨_,rfl⟩;have aj:(qI 0 g.ds)[k]=[.int .i64 p.1,p.2.val]:=by simp only[qI,lu,aK]
   rw[aj];have LY:p∈lg 0 g.ds:=by rw[<-aK];exact dr ED
   have lQ:=g6.mono hY;obtain⟨hw,IB,-⟩:=ZV lQ hm LY;obtain⟨h4,kq,jz,j6⟩:=hw;obtain⟨jl,d⟩:=p;simp only at h4 kq jz j6 IB aj LY aK |-;have ev:=IB.kn;have m0:xs.length=k:=by
    have U:=congrArg List.length gp;rw[eW,mV]at U;have:(jT g.ds).length=bI g.ds:=by simp[jT,wi]
    omega
   have sQ:os.n=k:=by have:=cr.len;rw[fu _ 10 js.dc]at this;omega
   have vb:∀ a n c,xs.map js.pn++[(⟨d,a,n,c,jf g.ds jl d⟩:js).pn]=(jT g.ds).take (k+1):=λa n c=>by
    have aE:k<(jT g.ds).length:=by simp[jT,wi];omega
    rw[gp,iT aE];congr 2;simp only[jT,lu,aK];rfl
   refine qU.mk d.kn d.kn rfl rfl (b2 _) (by show 8*d.kn<=_;omega) (by omega) ?_;refine cy.mk λsS RG alJ=>?_;have alK:sS ∉ (List.map (·.num) (va ez s ai fuel gi (bI g.ds) os.val::([pV gi (bI g.ds),⟨ig,.cells [.slice (some ⟨ew,0,none⟩) g.n g.n].toArray 70 (0,0)⟩,⟨ew,.cells ((ej 0 g.ds).map eQ).toArray 3 (0,0)⟩,⟨cK,.cells [.slice g.a g.n g.c].toArray 24 (0,0)⟩]++os.aO 206))):=λh=>by obtain⟨x,ab,e⟩:=eh.1 h;exact alJ x ab e
   refine ea.inv (ι:=Nat) (λi=>{ bK:=[(4,.val (ptr cK)),(10,.val (ptr ig)),(14,.val (ptr RF)),(15,.val (.int .i64 jl)),(16,.ref 16 0),(17,.val (.slice (some ⟨sS,0,none⟩) d.kn d.kn)),(63,.val (.slice d.ml d.kn d.k7)),(64,.val (.int .i64 d.kn)),(65,.val (.int .i64 i))],cl:=[(16,d.cells)],dz:=I',d':=⟨sS,.cells ((d.aS.take i).map (λk=>eQ (jl+k.toNat))++List.replicate (d.kn-i) (eQ 0)).toArray 3 (0,0)⟩::va ez s ai fuel gi (bI g.ds) os.val::([pV gi (bI g.ds),⟨ig,.cells [.slice (some ⟨ew,0,none⟩) g.n g.n].toArray 70 (0,0)⟩,⟨ew,.cells ((ej 0 g.ds).map eQ).toArray 3 (0,0)⟩,⟨cK,.cells [.slice g.a g.n g.c].toArray 24 (0,0)⟩]++os.aO 206) }) (λi=>i<=d.kn) (λi=>d.kn-i) ?_ ?_
   ·refine⟨0,bF _,.o6 ?_,k8,.cons rfl (.nil)⟩;have e:rowOf [eQ 0] (d.kn*1)=List.replicate d.kn (eQ 0):=by rw[Cp,jk]
    show(⟨sS,.cells (rowOf [eQ 0] (d.kn*1)).toArray 3 (0,0)⟩:aF)::_=_;rw[e];rfl
   intro i hi;refine aM.mk (λh=>?_) (λh=>?_)
   ·have a0:i<d.kn:=by simpa using h
    have bZ:i<d.aS.length:=by omega
    obtain⟨ad,b3,v0⟩:=IB.bj.one (f:=λ(k:Int)=>Value.int .i64 k) a0 bZ;have at5:=h4 _ (dr bZ);refine bl.mk ad i b3 rfl a0 ?_;refine aw.mk _ (v0 _) ?_;refine bb.mk ((jl+d.aS[i].toNat:Nat):Int) (ei (by omega) (by omega)) ?_;refine bl.mk ⟨sS,0,none⟩ i rfl rfl a0 ?_;refine cc.jO [] _ ((d.aS.take i).map (λk=>eQ (jl+k.toNat))++List.replicate (d.kn-i) (eQ 0)) _ rfl ?_ rfl ((d.aS.take (i+1)).map (λk=>eQ (jl+k.toNat))++List.replicate (d.kn-(i+1)) (eQ 0)) ?_ ?_;·rw[og,di,eW,mV,y5];show 0+i*1+1<=_;omega
    ·have rz:List.replicate (d.kn-i) (eQ 0)=eQ 0::List.replicate (d.kn-(i+1)) (eQ 0):=by rw[show d.kn-i=(d.kn-(i+1))+1 from by omega,wc]
     rw[rz,iT bZ,gW,gz];exact Le (k:=0+i*1) (by rw[eW,mV];omega)
    refine bb.mk _ (c7 (i:=i) (by omega)) ?_;exact⟨i+1,⟨by omega,by omega⟩,.refl,k8,.cons rfl (.nil)⟩
   have cE:d.kn<=i:=by simpa using h
   obtain rfl:i=d.kn:=by omega
   have sy:(d.aS.take d.kn).map (λk=>eQ (jl+k.toNat))++List.replicate (d.kn-d.kn) (eQ 0)=(d.aS.map λk=>jl+k.toNat).map eQ:=by rw[gM (by omega),rp];simp[C7]
   rw[sy];refine aM.mk (λaf=>?_) (λaf=>?_)
   ·have g0:d.k=3:=cm af;obtain⟨oZ,q,aL,gT⟩:=jz g0;have Db:q<(ej 0 g.ds).length:=by rw[xS];exact gT
    have x9:jf g.ds jl d=[(ej 0 g.ds)[q]]:=by rw[jf,dF g0,a4,aL];simp[dB,Db]
    refine cq.draw aV rfl rfl rfl ?_;refine aw.mk _ (dt (k:=0) (n:=1) (cs:=[.slice (some ⟨ew,0,none⟩) g.n g.n]) (T:=70) (b:=ig) (.tail _ (.tail _ (.tail _ (.head _)))) (by simp)) ?_;refine aw.mk _ (dt (k:=0) (n:=1) (cs:=[.slice g.a g.n g.c]) (T:=24) (b:=cK) (.tail _ (.tail _ (.tail _ (.tail _ (.tail _ (.head _)))))) (by simp)) ?_;refine hx.mk _ (Xn lQ d.t) ?_;rintro v I' dU -⟨rfl,rfl,rfl⟩;refine bl.mk ⟨ew,0,none⟩ q rfl aL (by omega) ?_;refine aw.mk _ (alE (l:=ej 0 g.ds) (T:=3) (.tail _ (.tail _ (.tail _ (.tail _ (.head _))))) Db) ?_;refine cy.mk λsT Mo ZX=>?_;have alL:sT ∉ (List.map (·.num) (va ez s ai fuel gi (bI g.ds) os.val::([pV gi (bI g.ds),⟨ig,.cells [.slice (some ⟨ew,0,none⟩) g.n g.n].toArray 70 (0,0)⟩,⟨ew,.cells ((ej 0 g.ds).map eQ).toArray 3 (0,0)⟩,⟨cK,.cells [.slice g.a g.n g.c].toArray 24 (0,0)⟩]++os.aO 206))):=λh=>by obtain⟨x,ab,e⟩:=eh.1 h;exact ZX x (.tail _ ab) e
    refine cq.VO (λi=>Nat.blt i 2) aV rfl rfl rfl ?_;refine aw.mk _ (IA hY) ?_;refine aw.mk _ (IA hY) ?_;refine aw.mk _ (dt (k:=4) (n:=1) (cs:=[.string s,.int .i64 ai,.int .i64 fuel,.int .i64 (0:Nat),os.val,.slice (some ⟨gi,0,none⟩) (bI g.ds) (bI g.ds),.slice none 0 0]) (T:=148) (b:=ez) (.tail _ (.tail _ (.head _))) (by simp)) ?_;refine cy.mk λcS g7 jD=>?_;intro G eR;refine vE.x5 aV rfl (e:=206) rfl rfl rfl os cr (x8 (eR _ (by simp[Op.operands,Call.operands])) rfl) (x8 (eR _ (by simp[Op.operands,Call.operands])) rfl) (cs:=js.cells ⟨d,some ⟨sT,0,none⟩,([(ej 0 g.ds)[q]]).length,([(ej 0 g.ds)[q]]).length,[(ej 0 g.ds)[q]]⟩) rfl rfl ([⟨sT,.cells ([(ej 0 g.ds)[q]].map eQ).toArray 3 (0,0)⟩,⟨sS,.cells ((d.aS.map λk=>jl+k.toNat).map eQ).toArray 3 (0,0)⟩]++(va ez s ai fuel gi (bI g.ds) os.val::[pV gi (bI g.ds),⟨ig,.cells [.slice (some ⟨ew,0,none⟩) g.n g.n].toArray 70 (0,0)⟩,⟨ew,.cells ((ej 0 g.ds).map eQ).toArray 3 (0,0)⟩,⟨cK,.cells [.slice g.a g.n g.c].toArray 24 (0,0)⟩])) [] (by rw[eo];rfl) (by omega) (by show(os.n+1)*120<=_;omega) ?_;intro os' U aa aN;refine cc.mk (⟨cS,_⟩::[⟨sT,.cells ([(ej 0 g.ds)[q]].map eQ).toArray 3 (0,0)⟩,⟨sS,.cells ((d.aS.map λk=>jl+k.toNat).map eQ).toArray 3 (0,0)⟩]) ([pV gi (bI g.ds),⟨ig,.cells [.slice (some ⟨ew,0,none⟩) g.n g.n].toArray 70 (0,0)⟩,⟨ew,.cells ((ej 0 g.ds).map eQ).toArray 3 (0,0)⟩,⟨cK,.cells [.slice g.a g.n g.c].toArray 24 (0,0)⟩]++(os'.aO 206++[])) _ _ rfl rfl (bP rfl) rfl ?_
    refine⟨ins I' sT (.cells (([(ej 0 g.ds)[q]]).map eQ).toArray 3 (0,0)),va ez s ai fuel gi (bI g.ds) os'.val::([pV gi (bI g.ds),⟨ig,.cells [.slice (some ⟨ew,0,none⟩) g.n g.n].toArray 70 (0,0)⟩,⟨ew,.cells ((ej 0 g.ds).map eQ).toArray 3 (0,0)⟩,⟨cK,.cells [.slice g.a g.n g.c].toArray 24 (0,0)⟩]++os'.aO 206),.sub (M1:=⟨sT,.cells ([(ej 0 g.ds)[q]].map eQ).toArray 3 (0,0)⟩::va ez s ai fuel gi (bI g.ds) os'.val::([pV gi (bI g.ds),⟨ig,.cells [.slice (some ⟨ew,0,none⟩) g.n g.n].toArray 70 (0,0)⟩,⟨ew,.cells ((ej 0 g.ds).map eQ).toArray 3 (0,0)⟩,⟨cK,.cells [.slice g.a g.n g.c].toArray 24 (0,0)⟩]++os'.aO 206)) (by rw[eo];exact .cons _ (.cons_cons _ (.cons _ (.refl _)))) (.n2 rfl alL .refl),os',xs++[⟨d,some ⟨sT,0,none⟩,([(ej 0 g.ds)[q]]).length,([(ej 0 g.ds)[q]]).length,[(ej 0 g.ds)[q]]⟩],λb o h=>ku Mo _ _ (hY _ _ h),?_,?_,?_,rfl⟩;·rw[<-ZU];exact aN
    ·intro x ab;rcases dV.1 ab with ab | ab
     ·exact(oA x ab).mono (ku Mo)
     ·rw[jw.1 ab];refine⟨IB.mono (ku Mo),Mm (T:=3) (pJ ..) (by first | (simp;omega) | simp) rfl⟩
    ·rw[gW];have dk:=vb (some ⟨sT,0,none⟩) ([(ej 0 g.ds)[q]]).length ([(ej 0 g.ds)[q]]).length;rw[x9]at dk;exact dk
   ·have g0:¬ d.k=3:=cu af;have x9:jf g.ds jl d=d.aS.map λk=>jl+k.toNat:=by rw[jf,bG g0,aQ]
    have e4:(d.aS.map λk=>jl+k.toNat).length=d.kn:=by rw[eW,ev]
    rw[<-e4];refine cq.VO (λi=>Nat.blt i 2) aV rfl rfl rfl ?_;refine aw.mk _ (IA hY) ?_;refine aw.mk _ (IA hY) ?_;refine aw.mk _ (dt (k:=4) (n:=1) (cs:=[.string s,.int .i64 ai,.int .i64 fuel,.int .i64 (0:Nat),os.val,.slice (some ⟨gi,0,none⟩) (bI g.ds) (bI g.ds),.slice none 0 0]) (T:=148) (b:=ez) (.tail _ (.head _)) (by simp)) ?_;refine cy.mk λcS g7 jD=>?_;intro G eR;refine vE.x5 aV rfl (e:=206) rfl rfl rfl os cr (x8 (eR _ (by simp[Op.operands,Call.operands])) rfl) (x8 (eR _ (by simp[Op.operands,Call.operands])) rfl) (cs:=js.cells ⟨d,some ⟨sS,0,none⟩,((d.aS.map λk=>jl+k.toNat)).length,((d.aS.map λk=>jl+k.toNat)).length,(d.aS.map λk=>jl+k.toNat)⟩) rfl rfl ([⟨sS,.cells ((d.aS.map λk=>jl+k.toNat).map eQ).toArray 3 (0,0)⟩]++(va ez s ai fuel gi (bI g.ds) os.val::[pV gi (bI g.ds),⟨ig,.cells [.slice (some ⟨ew,0,none⟩) g.n g.n].toArray 70 (0,0)⟩,⟨ew,.cells ((ej 0 g.ds).map eQ).toArray 3 (0,0)⟩,⟨cK,.cells [.slice g.a g.n g.c].toArray 24 (0,0)⟩])) [] (by rw[eo];rfl) (by omega) (by show(os.n+1)*120<=_;omega) ?_;intro os' U aa aN;refine cc.mk (⟨cS,_⟩::[⟨sS,.cells ((d.aS.map λk=>jl+k.toNat).map eQ).toArray 3 (0,0)⟩]) ([pV gi (bI g.ds),⟨ig,.cells [.slice (some ⟨ew,0,none⟩) g.n g.n].toArray 70 (0,0)⟩,⟨ew,.cells ((ej 0 g.ds).map eQ).toArray 3 (0,0)⟩,⟨cK,.cells [.slice g.a g.n g.c].toArray 24 (0,0)⟩]++(os'.aO 206++[])) _ _ rfl rfl (bP rfl) rfl ?_;refine⟨ins I' sS (.cells (((d.aS.map λk=>jl+k.toNat)).map eQ).toArray 3 (0,0)),va ez s ai fuel gi (bI g.ds) os'.val::([pV gi (bI g.ds),⟨ig,.cells [.slice (some ⟨ew,0,none⟩) g.n g.n].toArray 70 (0,0)⟩,⟨ew,.cells ((ej 0 g.ds).map eQ).toArray 3 (0,0)⟩,⟨cK,.cells [.slice g.a g.n g.c].toArray 24 (0,0)⟩]++os'.aO 206),.sub (M1:=⟨sS,.cells ((d.aS.map λk=>jl+k.toNat).map eQ).toArray 3 (0,0)⟩::va ez s ai fuel gi (bI g.ds) os'.val::([pV gi (bI g.ds),⟨ig,.cells [.slice (some ⟨ew,0,none⟩) g.n g.n].toArray 70 (0,0)⟩,⟨ew,.cells ((ej 0 g.ds).map eQ).toArray 3 (0,0)⟩,⟨cK,.cells [.slice g.a g.n g.c].toArray 24 (0,0)⟩]++os'.aO 206)) (by rw[eo];exact List.sublist_cons_self _ _) (.n2 rfl alK .refl),os',xs++[⟨d,some ⟨sS,0,none⟩,((d.aS.map λk=>jl+k.toNat)).length,((d.aS.map λk=>jl+k.toNat)).length,(d.aS.map λk=>jl+k.toNat)⟩],λb o h=>ku RG _ _ (hY _ _ h),?_,?_,?_,rfl⟩;·rw[<-ZU];exact aN
    ·intro x ab;rcases dV.1 ab with ab | ab
     ·exact(oA x ab).mono (ku RG)
     ·rw[jw.1 ab];refine⟨IB.mono (ku RG),Mm (T:=3) (pJ ..) (by first | (simp;omega) | simp) rfl⟩
    ·rw[gW];have dk:=vb (some ⟨sS,0,none⟩) ((d.aS.map λk=>jl+k.toNat)).length ((d.aS.map λk=>jl+k.toNat)).length;rw[x9]at dk;exact dk
  ·rintro I' M' -⟨os,xs,hY,cr,oA,gp,rfl⟩;have q5:(qI 0 g.ds).length=bI g.ds:=by rw[qI,eW,wi]
   have n7:(jT g.ds).length=bI g.ds:=by simp[jT,wi]
   rw[q5,gM (by omega)]at gp;have m0:xs.length=bI g.ds:=by rw[<-n7,<-gp,eW]
   have sQ:os.n=bI g.ds:=by have:=cr.len;rw[fu _ 10 js.dc]at this;omega
   refine cq.draw aV rfl rfl rfl ?_;refine aw.mk _ (IA hY) ?_;refine aw.mk _ (dt (k:=0) (n:=1) (cs:=[.slice (some ⟨ew,0,none⟩) g.n g.n]) (T:=70) (b:=ig) (.tail _ (.tail _ (.head _))) (by simp)) ?_;intro RH;have RI:I' ew=none:=RH.d ⟨ew,_⟩ (.tail _ (.tail _ (.tail _ (.head _))));have bV:=RH.aG;have bz:∀ b o,I b=some o->I' b=some o:=λb o h=>hY _ _ (b4 _ _ h);have hv:∀ {J:a5},J ew=some (.cells ((ej 0 g.ds).map eQ).toArray 3 (0,0))->fC J (some ⟨ew,0,none⟩) g.n g.n 1 8 ((ej 0 g.ds).map eQ):=λh=>Mm (l:=ej 0 g.ds) h (by omega) (by omega);have ZY:∀ m:cz,m.gi=gi->dj m (List.replicate (bI g.ds) ⟨none,List.replicate m.w hC⟩)=pV gi (bI g.ds):=λm e=>by unfold dj pV;rw[O6,e];rfl
   obtain⟨za,on,Mp,ZZ⟩:=os;simp only at sQ;subst sQ;cases za with
   |none=>
    have bk:=cr.nil rfl;simp only at bk;refine⟨ins I' ew (.cells ((ej 0 g.ds).map eQ).toArray 3 (0,0)),_,.perm (alB _ _ _ _ _) (.n2 rfl (by simp) (.sub (M1:=[_,_]) (.cons_cons _ (.cons_cons _ (eN _))) .refl)),λb o h=>ku RI _ _ (bz _ _ h),⟨ez,gi,s,ai,fuel,⟨xs,none,bI g.ds,Mp⟩⟩,some ⟨ew,0,none⟩,rfl,hv (pJ ..),rfl,rfl,rfl,⟨⟨cr.len,⟨show bI g.ds<=Mp by omega,show bI g.ds*0<=_ by omega⟩,.inl (show bI g.ds=0 by omega)⟩,λx ab=>(oA x ab).mono (ku RI)⟩,by rw[cz.aZ,fk,gp],rfl,?_,?_⟩;·intro x ab;have dk:=nx (by omega:xs.length=0);rw[dk]at ab;cases ab
    ·rw[ZY _ rfl];rfl
   |some Dc=>
    obtain⟨ed,dP,gS,iq⟩:=cr.cap Dc rfl;simp only at ed dP gS iq;have Z0:I' Dc=none:=RH.d ⟨Dc,_⟩ (.tail _ (.tail _ (.tail _ (.tail _ (.tail _ (.head _))))));have bM:ew≠Dc:=λe=>by simp[bf.aO,va,pV,e]at bV
    have RJ:ins I' Dc (.cells ZZ.toArray 206 (0,0)) ew=none:=by unfold ins;rw[hW bM];exact RI
    refine⟨ins (ins I' Dc (.cells ZZ.toArray 206 (0,0))) ew (.cells ((ej 0 g.ds).map eQ).toArray 3 (0,0)),_,.perm (alC _ _ _ _ _ _) (.n2 rfl (by simp) (.n2 rfl (by simp) (.sub (M1:=[_,_]) (.cons_cons _ (.cons_cons _ (eN _))) .refl))),λb o h=>ku RJ _ _ (ku Z0 _ _ (bz _ _ h)),⟨ez,gi,s,ai,fuel,⟨xs,some ⟨Dc,0,none⟩,bI g.ds,Mp⟩⟩,some ⟨ew,0,none⟩,rfl,hv (pJ ..),rfl,rfl,rfl,⟨⟨cr.len,⟨dP,by omega⟩,.inr ⟨_,rfl,rfl,_,_,_,ku RJ _ _ (pJ ..),?_⟩⟩,λx ab=>(oA x ab).mono λb o h=>ku RJ _ _ (ku Z0 _ _ h)⟩,by rw[cz.aZ,fk,gp],rfl,?_,?_⟩;·simp only[xr];exact iq
    ·intro x ab;have dk:x.pn∈jT g.ds:=by rw[<-gp];exact eh.2 ⟨x,ab,rfl⟩
     obtain⟨p,aK,e⟩:=eh.1 dk;have eX:=(ZV g6 hm aK).2.2;have aA:p.2=x.d:=congrArg pP.d e;rw[aA]at eX;exact eX
    ·rw[ZY _ rfl];rfl
def zO(d:bD):Value:=.string d.name
def alM{g:cA}(aB:g.ok I)(az:g.n<=4096):Spec Tryz.prog 37 [g.val] I M0 λv I' M'=>I'=I/\∃ os:bf,v=os.val/\os.n=g.n/\os.ok 1 (g.ds.map zO)/\M'=os.aO 9++M0:=by
 refine bY [] aV Tryz.func37 rfl rfl rfl ?_;intro B ay;have gC:=aB.n;refine ea.inv (ι:=Nat×bf) (λx=>{ bK:=[(3,.val x.2.val),(7,.val (.slice g.a g.n g.c)),(8,.val (.int .i64 g.n)),(9,.val (.int .i64 x.1))],dz:=I,d':=x.2.aO 9++M0 }) (λx=>x.1<=g.n/\x.2.n=x.1/\x.2.ok 1 ((g.ds.take x.1).map zO)) (λx=>g.n-x.1) ?_ ?_
 ·exact⟨(0,uU),⟨bF _,rfl,zl 1⟩,.refl,fo,.nil⟩
 rintro⟨i,os⟩⟨hi,zK,cr⟩;simp only at hi zK cr;refine aM.mk (λh=>?_) (λh=>?_)
 ·have a0:i<g.n:=by simpa using h
  have bZ:i<g.ds.length:=by omega
  obtain⟨ad,b3,br⟩:=aB.bj.row bD.dc a0 bZ;refine bl.mk ad i b3 rfl a0 ?_;refine aw.mk _ (br _) ?_;refine cy.mk λcS g7 zh=>?_;refine bE.x5 aV rfl (by simp) (e:=9) rfl rfl rfl os cr rfl (cs:=[.string (g.ds[i]).name]) rfl rfl rfl [] M0 rfl (by omega) (by show(os.n+1)*16<=_;omega) ?_;intro b5 sU h5 gb;refine bb.mk _ (c7 (i:=i) (by omega)) ?_;refine⟨(i+1,b5),⟨⟨a0,by simp only;omega,?_⟩,by simp only;omega⟩,.refl,fo,.nil⟩;simp only;rw[iT bZ,gW];exact gb
 ·have cE:g.n<=i:=by simpa using h
  obtain rfl:i=g.n:=by omega
  rw[gM (by omega)]at cr;exact⟨_,_,.refl,rfl,os,rfl,zK,cr,rfl⟩
def alN{ds:List bD}{c:Nat}(al:fC I j' n c 1 16 (ds.map zO))(nm:ByteArray):Spec Tryz.prog 91 [.slice j' n c,.string nm] I M0 λv I' M'=>v=.int .i64 (ee nm ds 0)/\I'=I/\M'=M0:=by
 refine bY [] aV Tryz.func91 rfl rfl rfl ?_;intro B ay;have az:ds.length=n:=by have:=al.len;rw[eW]at this;omega
 have iH:=al.cap.2;refine ea.inv (ι:=Nat) (λi=>{ bK:=[(0,.val (.slice j' n c)),(1,.val (.string nm)),(7,.val (.int .i64 n)),(8,.val (.int .i64 i))],dz:=I,d':=M0 }) (λi=>i<=n/\ee nm ds 0=ee nm (ds.drop i) i) (λi=>n-i) ?_ ?_
 ·exact⟨0,⟨bF _,rfl⟩,.refl,fo,.nil⟩
 rintro i⟨hi,ar⟩;refine aM.mk (λh=>?_) (λh=>?_)
 ·have a0:i<n:=by simpa using h
  have bZ:i<ds.length:=by omega
  obtain⟨ad,b3,br⟩:=al.one (f:=zO) a0 bZ;have j7:ds.drop i=ds[i]::ds.drop (i+1):=fg bZ;rw[j7,ee]at ar;refine bl.mk ad i b3 rfl a0 ?_;refine aw.mk _ (br _) ?_;refine aM.mk (λaa=>?_) (λaa=>?_);·have e:(ds[i]).name=nm:=(cm aa).symm;rw[dF e,a4]at ar;exact⟨_,_,.refl,by rw[ar],rfl,rfl⟩
  ·have e:¬ (ds[i]).name=nm:=λe=>cu aa e.symm;rw[bG e,aQ]at ar;refine bb.mk _ (c7 (i:=i) (by omega)) ?_;exact⟨i+1,⟨⟨a0,ar⟩,by omega⟩,.refl,fo,.nil⟩
 ·have cE:n<=i:=by simpa using h
  refine⟨_,_,.refl,?_,rfl,rfl⟩;rw[ar,iG (by omega)];rfl
def pW(bt:Nat)(s:ByteArray)(nv rv Dd rwv:Value):aF:=⟨bt,.cells [.string s,nv,rv,Dd,rwv].toArray 91 (0,0)⟩
def De{s:ByteArray}{Dd:Value}(a2:pW bt s nv rv Dd rwv∈M)(an:j<5):cx I M ((⟨bt,0,none⟩:Addr).add j) 1 [([.string s,nv,rv,Dd,rwv]:List Value).getD j undef]:=by
 have h:=dt (I:=I) (cs:=[.string s,nv,rv,Dd,rwv]) (k:=j) (n:=1) a2 (by show j+1<=5;omega);have:(([.string s,nv,rv,Dd,rwv]:List Value).drop j).take 1=[([.string s,nv,rv,Dd,rwv]:List Value).getD j undef]:=by
  match j,an with
  |0,_=>rfl| 1,_=>rfl| 2,_=>rfl| 3,_=>rfl| 4,_=>rfl
 rwa [this]at h
def wE(b:Nat)(L:List Nat)(n:bh):bh:={ n with ml:=some ⟨b,0,none⟩,kn:=L.length,k7:=L.length,aS:=L.map λ(k:Nat)=>(k:Int) }
def alO(b:Nat)(L:List Nat)(n:bh):(wE b L n).pn=⟨n.C0,L⟩:=by unfold bh.pn wE;congr 1;rw[ms];exact List.map_id'' (λx=>by simp) L
def alP{b T:Nat}{L:List Nat}{n:bh}(h:n.ok I)(bX:I b=some (.cells (L.map cQ).toArray T (0,0)))(aE:L.length<=1048576)(c4:∀ x∈L,x<=1048576):(wE b L n).ok I:=by
 refine { h with bj:=?_,aS:=λx ab=>?_ }
 ·show fC I (some ⟨b,0,none⟩) L.length L.length 1 8 ((L.map λ(k:Nat)=>(k:Int)).map (.int .i64 ·));rw[ms];exact Mm (T:=T) bX aE rfl
 ·obtain⟨y,aT,rfl⟩:=eh.1 ab;have:=c4 y aT;unfold jm;omega
structure Z1(I:a5)(ds:List bD)(j' fb:Option Addr)(nR jF:Nat)(aq:Nat)(t:eH):Prop where
 nm:fC I j' ds.length nR 1 16 (ds.map zO)
 rt:fC I fb ds.length jF 1 8 ((ej 0 ds).map cQ)
 ns:∀ n∈t.ns,(∀ k∈n.aS,0<=k/\k.toNat<=4096)/\n.aS.length<=4096/\n.t.size<=4096
 alQ:∀ x∈ej 0 ds,x<=4096
 len:ds.length<=4096
 many:aq+t.n<=4096
def Fk(ds:List bD)(aq:Nat)(n:bh):pP:=⟨n.C0,jf ds aq n⟩
def k3(p:Nat×List Nat):aF:=⟨p.1,.cells (p.2.map cQ).toArray 3 (0,0)⟩
def qJ(kb:List (Nat×List Nat))(ns:List bh):List bh:=List.zipWith (λp n=>wE p.1 p.2 n) kb ns
structure IC(ds:List bD)(xs:List bh)(t:eH)(i:Nat)(os:bf)(kb:List (Nat×List Nat)):Prop where
 ii:i<=t.n
 n:os.n=xs.length+i
 ok:os.ok 9 ((xs++qJ kb (t.ns.take i)).flatMap bh.cells)
 kb:kb.map (·.2)=(t.ns.take i).map (jf ds xs.length)
 find:∀ n∈t.ns.take i,n.k=3->0<=ee n.t ds 0
def alR{ns:List bh}(h:kb.length=ns.length)(p:Nat×List Nat)(n:bh):qJ (kb++[p]) (ns++[n])=qJ kb ns++[wE p.1 p.2 n]:=by unfold qJ;rw[List.zipWith_append h];rfl
def IC.len{ds:List bD}{xs:List bh}{t:eH}{i:Nat}(h:IC ds xs t i os kb)(az:t.ns.length=t.n):kb.length=(t.ns.take i).length:=by have:=congrArg List.length h.kb;simpa using this
def Z2(x y:aF)(A:List aF)(kb:List (Nat×List Nat)){p:Nat×List Nat}(ab:x=k3 p:=by rfl):(x::y::(A++kb.map k3)).Perm (y::(A++(kb++[p]).map k3)):=by subst ab;rw[gW,<-gz];exact(List.Perm.swap _ _ _).trans (.cons _ (i' (l₁:=[k3 p]) (l₂:=A++kb.map k3)))
def alS{t:eH}(aI:t.ok I){ds:List bD}{fb:Option Addr}{nR jF:Nat}{xs:List bh}(h:Z1 I ds j' fb nR jF xs.length t){kA:bf}(Ba:kA.ok 9 (xs.flatMap bh.cells))(bt:Nat)(s:ByteArray)(rwv:Value) :
  Spec Tryz.prog 38 [ptr bt,t.val] I (pW bt s (.slice j' ds.length nR) (.slice fb ds.length jF) kA.val rwv::(kA.aO 83++[])) λv I' M'=>I'=I/\∃ (i:Nat) (os:bf) (kb:List (Nat×List Nat)),IC ds xs t i os kb /\
   M'=pW bt s (.slice j' ds.length nR) (.slice fb ds.length jF) os.val rwv::(os.aO 83++kb.map k3)/\((v=.bool true/\i=t.n)\/(v=.bool false/\∃ n∈t.ns,n.k=3/\ee n.t ds 0<0)):=by
 refine bY [] aV Tryz.func38 rfl rfl rfl ?_;intro B ay;have ri:=aI.n;have Me:=h.many;have alT:kA.n=xs.length:=by have:=Ba.len;rw[fu _ 9 bh.dc]at this;omega
 refine aw.mk _ (De (j:=3) (.head _) (by decide)) ?_;refine ea.inv (ι:=Nat×bf×List (Nat×List Nat)) (λx=>{ bK:=[(0,.val (ptr bt)),(4,.lit false),(5,.val (.int .i64 kA.n)),(18,.val (.slice t.a t.n t.c)),(19,.val (.int .i64 t.n)),(20,.val (.int .i64 x.1))],cl:=[],dz:=I,d':=pW bt s (.slice j' ds.length nR) (.slice fb ds.length jF) x.2.1.val rwv::(x.2.1.aO 83++x.2.2.map k3) }) (λx=>IC ds xs t x.1 x.2.1 x.2.2) (λx=>t.n-x.1) ?_ ?_
 ·exact⟨(0,kA,[]),⟨bF _,alT,by simpa[qJ]using Ba,rfl,λn az=>(by cases az)⟩,.refl,e7,.nil⟩
 rintro⟨i,os,kb⟩c2;have hi:=c2.ii;have zK:=c2.n;have RK:=c2.ok;have Mq:=c2.len ri;simp only at hi zK RK Mq;refine aM.mk (λe=>?_) (λe=>?_)
 rotate_left
 ·have cE:t.n<=i:=by simpa using e
  obtain rfl:i=t.n:=by omega
  exact⟨_,_,.refl,rfl,t.n,os,kb,c2,rfl,.inl ⟨rfl,rfl⟩⟩
 have a0:i<t.n:=by simpa using e
 have bZ:i<t.ns.length:=by omega
 obtain⟨ad,b3,br⟩:=aI.bj.row bh.dc a0 bZ;obtain⟨d,ah⟩:∃ d,t.ns[i]=d:=⟨_,rfl⟩;have eI:d∈t.ns:=by rw[<-ah];exact dr bZ
 have se:=aI.ns d eI;have ev:=se.kn;obtain⟨e3,e4,o7⟩:=h.ns d eI;rw[ah]at br;have kO:t.ns.take (i+1)=t.ns.take i++[d]:=by rw[iT bZ,ah]
 have lA:∀ (b:Nat) (L:List Nat),((xs++qJ kb (t.ns.take i)).flatMap bh.cells)++(wE b L d).cells=(xs++qJ (kb++[(b,L)]) (t.ns.take (i+1))).flatMap bh.cells:=λb L=>by rw[kO,alR Mq,<-gz,mr];simp
 have next:∀ (b:Nat) (L:List Nat) (os':bf),L=jf ds xs.length d->(d.k=3->0<=ee d.t ds 0)->os'.n=os.n+1->os'.ok 9 ((xs++qJ kb (t.ns.take i)).flatMap bh.cells++(wE b L d).cells)->IC ds xs t (i+1) os' (kb++[(b,L)]):=λb L os' c4 ar az bw=>by
  refine⟨a0,by omega,by rw[<-lA];exact bw,?_,λn az=>?_⟩;·rw[gW,c2.kb,kO,gW,c4];rfl
  ·rw[kO]at az;rcases dV.1 az with az | az
   ·exact c2.find n az
   ·rw[jw.1 az];exact ar
 refine bl.mk ad i b3 rfl a0 ?_;refine aw.mk _ (br _) ?_;refine qU.mk d.kn d.kn rfl rfl (b2 _) (by show 8*d.kn<=_;omega) (by omega) ?_;refine cy.mk λdA LD RL=>?_;refine ea.inv (ι:=Nat) (λj=>{ bK:=[(0,.val (ptr bt)),(4,.lit false),(5,.val (.int .i64 kA.n)),(7,.ref 7 0),(8,.val (.slice (some ⟨dA,0,none⟩) d.kn d.kn)),(18,.val (.slice t.a t.n t.c)),(19,.val (.int .i64 t.n)),(20,.val (.int .i64 i)),(29,.val (.slice d.ml d.kn d.k7)),(30,.val (.int .i64 d.kn)),(31,.val (.int .i64 j))],cl:=[(7,d.cells)],dz:=I,d':=⟨dA,.cells ((d.aS.take j).map (λk=>cQ (xs.length+k.toNat))++List.replicate (d.kn-j) (cQ 0)).toArray 3 (0,0)⟩::pW bt s (.slice j' ds.length nR) (.slice fb ds.length jF) os.val rwv::(os.aO 83++kb.map k3) }) (λj=>j<=d.kn) (λj=>d.kn-j) ?_ ?_
 ·refine⟨0,bF _,.o6 ?_,Vl,.cons rfl (.nil)⟩;have e:rowOf [cQ 0] (d.kn*1)=List.replicate d.kn (cQ 0):=by rw[Cp,jk]
  show(⟨dA,.cells (rowOf [cQ 0] (d.kn*1)).toArray 3 (0,0)⟩:aF)::_=_;rw[e];rfl
 intro j an;refine aM.mk (λaA=>?_) (λaA=>?_)
 ·have RM:j<d.kn:=by simpa using aA
  have RN:j<d.aS.length:=by omega
  obtain⟨h',iI,gY⟩:=se.bj.one (f:=λ(k:Int)=>Value.int .i64 k) RM RN;have RO:=e3 _ (dr RN);refine bl.mk h' j iI rfl RM ?_;refine aw.mk _ (gY _) ?_;refine bb.mk ((xs.length+d.aS[j].toNat:Nat):Int) (ei (by omega) (by omega)) ?_;refine bl.mk ⟨dA,0,none⟩ j rfl rfl RM ?_;refine cc.jO [] _ ((d.aS.take j).map (λk=>cQ (xs.length+k.toNat))++List.replicate (d.kn-j) (cQ 0)) _ rfl ?_ rfl ((d.aS.take (j+1)).map (λk=>cQ (xs.length+k.toNat))++List.replicate (d.kn-(j+1)) (cQ 0)) ?_ ?_;·rw[og,di,eW,mV,y5];show 0+j*1+1<=_;omega
  ·have rz:List.replicate (d.kn-j) (cQ 0)=cQ 0::List.replicate (d.kn-(j+1)) (cQ 0):=by rw[show d.kn-j=(d.kn-(j+1))+1 from by omega,wc]
   rw[rz,iT RN,gW,gz];exact Le (k:=0+j*1) (by rw[eW,mV];omega)
  refine bb.mk _ (c7 (i:=j) (by omega)) ?_;exact⟨j+1,⟨by omega,by omega⟩,.refl,Vl,.cons rfl (.nil)⟩
 have cE:d.kn<=j:=by simpa using aA
 obtain rfl:j=d.kn:=by omega
 have sy:(d.aS.take d.kn).map (λk=>cQ (xs.length+k.toNat))++List.replicate (d.kn-d.kn) (cQ 0)=(d.aS.map λk=>xs.length+k.toNat).map cQ:=by rw[gM (by omega),rp];simp[C7]
 rw[sy];refine aM.mk (λaf=>?_) (λaf=>?_)
 ·have g0:d.k=3:=cm af;refine cq.draw aV rfl rfl rfl ?_;refine aw.mk _ (De (j:=1) (.tail _ (.head _)) (by decide)) ?_;refine a9.whole _ (alN h.nm d.t) ?_;rintro v I' M' -⟨rfl,rfl,rfl⟩;refine aM.mk (λcU=>?_) (λcU=>?_)
  ·have Z3:ee d.t ds 0<0:=cm cU;exact⟨_,_,.sub (.cons _ (.refl _)) .refl,rfl,i,os,kb,c2,rfl,.inr ⟨rfl,d,eI,g0,Z3⟩⟩
  have Z3:¬ ee d.t ds 0<0:=cu cU;have mw:=LM ds 0 (by omega:0<=ee d.t ds 0);obtain⟨q,aL⟩:∃ q:Nat,ee d.t ds 0=(q:Int):=⟨(ee d.t ds 0).toNat,by omega⟩;have gT:q<ds.length:=by omega
  have Db:q<(ej 0 ds).length:=by rw[xS];exact gT
  obtain⟨ac,Fl,lG⟩:=h.rt.one (f:=cQ) gT Db;have x9:[(ej 0 ds)[q]]=jf ds xs.length d:=by rw[jf,dF g0,a4,aL];simp[dB,Db]
  refine aw.mk _ (De (j:=2) (.tail _ (.head _)) (by decide)) ?_;refine bl.mk ac q Fl aL gT ?_;refine aw.mk _ (lG _) ?_;refine cy.mk λsT Mo ZX=>?_;refine cq.draw aV rfl rfl rfl ?_;refine aw.mk _ (De (j:=3) (.tail _ (.tail _ (.head _))) (by decide)) ?_;refine cy.mk λcS g7 jD=>?_;intro G eR;refine vE.x5 aV rfl (e:=83) rfl rfl rfl os RK (x8 (eR _ (by simp[Op.operands,Call.operands])) rfl) (x8 (eR _ (by simp[Op.operands,Call.operands])) rfl) (cs:=(wE sT [(ej 0 ds)[q]] d).cells) rfl rfl ([k3 (sT,[(ej 0 ds)[q]]),⟨dA,.cells ((d.aS.map λk=>xs.length+k.toNat).map cQ).toArray 3 (0,0)⟩,pW bt s (.slice j' ds.length nR) (.slice fb ds.length jF) os.val rwv]) (kb.map k3) rfl (by omega) (by show(os.n+1)*96<=_;omega) ?_;intro os' U aa aN;refine cc.mk (⟨cS,_⟩::[k3 (sT,[(ej 0 ds)[q]]),⟨dA,.cells ((d.aS.map λk=>xs.length+k.toNat).map cQ).toArray 3 (0,0)⟩]) (os'.aO 83++kb.map k3) _ _ rfl rfl (bP rfl) rfl ?_;refine bb.mk _ (c7 (i:=i) (by omega)) ?_;refine⟨(i+1,os',kb++[(sT,[(ej 0 ds)[q]])]),⟨next _ _ _ x9 (λ_=>by omega) U aN,by simp only;omega⟩,.sub (M1:=k3 (sT,[(ej 0 ds)[q]])::pW bt s (.slice j' ds.length nR) (.slice fb ds.length jF) os'.val rwv::(os'.aO 83++kb.map k3)) (.cons _ (.cons_cons _ (.cons _ (.refl _)))) (.perm (Z2 _ _ _ _) .refl),e7,.nil⟩
 ·have g0:¬ d.k=3:=cu af;have x9:(d.aS.map λk=>xs.length+k.toNat)=jf ds xs.length d:=by rw[jf,bG g0,aQ]
  have alU:(d.aS.map λk=>xs.length+k.toNat).length=d.kn:=by rw[eW,ev]
  rw[<-alU];refine cq.draw aV rfl rfl rfl ?_;refine aw.mk _ (De (j:=3) (.tail _ (.head _)) (by decide)) ?_;refine cy.mk λcS g7 jD=>?_;intro G eR;refine vE.x5 aV rfl (e:=83) rfl rfl rfl os RK (x8 (eR _ (by simp[Op.operands,Call.operands])) rfl) (x8 (eR _ (by simp[Op.operands,Call.operands])) rfl) (cs:=(wE dA (d.aS.map λk=>xs.length+k.toNat) d).cells) rfl rfl ([k3 (dA,d.aS.map λk=>xs.length+k.toNat),pW bt s (.slice j' ds.length nR) (.slice fb ds.length jF) os.val rwv]) (kb.map k3) rfl (by omega) (by show(os.n+1)*96<=_;omega) ?_;intro os' U aa aN;refine cc.mk (⟨cS,_⟩::[k3 (dA,d.aS.map λk=>xs.length+k.toNat)]) (os'.aO 83++kb.map k3) _ _ rfl rfl (bP rfl) rfl ?_;refine bb.mk _ (c7 (i:=i) (by omega)) ?_;refine⟨(i+1,os',kb++[(dA,d.aS.map λk=>xs.length+k.toNat)]),⟨next _ _ _ x9 (λh=>absurd h g0) U aN,by simp only;omega⟩,.sub (M1:=k3 (dA,d.aS.map λk=>xs.length+k.toNat)::pW bt s (.slice j' ds.length nR) (.slice fb ds.length jF) os'.val rwv::(os'.aO 83++kb.map k3)) (.cons _ (.refl _)) (.perm (Z2 _ _ _ _) .refl),e7,.nil⟩
def bD.RP(d:bD):Value:=.agg #[.string d.name,.slice d.t.a d.t.n d.t.c,.int .i64 d.t.bR]
def ID:bD:=⟨⟨#[]⟩,⟨[],none,0,0,0⟩⟩
def sV(l:List bD)(m:Nat):List (List Value):=(List.range m).reverse.map λi:Nat=>[.int .i64 (i:Int),(l.getD i ID).RP]
def alV(l:List bD)(m:Nat):sV l (m+1)=[.int .i64 m,(l.getD m ID).RP]::sV l m:=by unfold sV;rw[C8,Ir,List.reverse_singleton,HM,dQ]
def RQ(l:List bD)(m:Nat):(sV l m).length=m:=by simp[sV]
def alW(l:List bD){m k:Nat}(ae:k<m):(sV l m)[k]'(by rw[RQ];exact ae)=[.int .i64 ((m-1-k:Nat):Int),(l.getD (m-1-k) ID).RP]:=by simp only[sV,lu,List.getElem_reverse,tK,su]
def alX(a:Option Addr)(n c:Nat):Spec Tryz.prog 94 [.slice a n c] I [] λr I' M'=>∃ b,r=.func (.func 148) #[] #[ptr b]/\I' b=some (.cells #[.slice a n c] 22 (0,0))/\(∀ b o,I b=some o->I' b=some o)/\M'=[]:=by refine bY [1] aV Tryz.func94 rfl rfl rfl ?_;intro B ay;refine cy.mk λg aB vK=>?_;exact⟨_,_,.n2 rfl (by simp) .refl,g,rfl,pJ ..,ku aB,rfl⟩
def alY{g:cA}(aB:g.ok I){b:Nat}(ag:I b=some (.cells #[.slice g.a g.n g.c] 22 (0,0))) :
  Iter Tryz.prog 148 [ptr b] I (sV g.ds g.n):=by
 intro y R tn uM dZ M0 n' kN;refine An [] aV Tryz.func148 rfl rfl rfl ?_;intro B ay;have iH:=aB.bj.cap;have EV:=aB.n;have br:∀ (cW:a5) (M:List aF),(∀ b o,I b=some o->cW b=some o)->cx cW M ((⟨b,0,none⟩:Addr).add 0) 1 [.slice g.a g.n g.c]:=λcW M b4=>⟨rfl,_,_,_,.inl (b4 _ _ ag),rfl,rfl⟩;refine aw.mk _ (br _ _ n') ?_;refine bb.mk ((g.n:Int)-1) (by rw[wrap_i64 (by unfold jm;omega)]) ?_;refine ea.inv (ι:=Nat×Nat×a5×List aF) (λx=>{ bK:=[(0,.val (.func (.yield y) #[] #[])),(1,.val (ptr b)),(3,.val (.int .i64 ((x.1:Int)-1)))],dz:=x.2.2.1,d':=x.2.2.2 }) (λx=>x.1<=g.n/\(∀ b o,I b=some o->x.2.2.1 b=some o)/\R x.2.1 x.2.2.1 x.2.2.2/\x.2.1<=(sV g.ds g.n).length/\(sV g.ds g.n).drop x.2.1=sV g.ds x.1) (λx=>x.1) ?_ ?_
 ·exact⟨(g.n,0,dZ,M0),⟨by simp,n',kN,by simp,rfl⟩,.refl,gX,.nil⟩
 ·rintro⟨m,k,cW,M1⟩⟨hm,b4,hB,e4,fx⟩;simp only at hm b4 hB e4 fx;refine aM.mk (λh=>?_) (λh=>?_)
  ·have a0:(0:Int)<=(m:Int)-1:=cm h;obtain⟨m,rfl⟩:∃ q,m=q+1:=⟨m-1,by omega⟩;have aC:((m+1:Nat):Int)-1=(m:Int):=by omega
   obtain⟨ad,b3,v0⟩:=(aB.bj.mono b4).row bD.dc (j:=m) (by omega) (by omega);rw[alV]at fx;obtain⟨ae,aj,nI⟩:=drop_cons fx;refine aw.mk _ (br _ _ b4) ?_;refine bl.mk ad m b3 aC (by omega) ?_;refine aw.mk _ (v0 _) ?_;refine bE.yield rfl (by simp) rfl rfl ?_;have aT:=uM k ae cW M1 b4 hB;rw[aj]at aT;have aA:g.ds.getD m ID=g.ds[m]:=by simp[dB,show m<g.ds.length by omega]
   rw[aA,<-aC]at aT;refine Ej.mk M1 [] _ (by simp) aT ?_;rintro v eC dU h5 (⟨rfl,ik⟩ | ⟨rfl,ab⟩);·refine aM.mk (λh=>by simp at h) (λ_=>?_);refine bb.mk ((m:Int)-1) (by rw[wrap_i64 (by unfold jm;omega)];omega) ?_;exact⟨(m,k+1,eC,dU),⟨⟨by simp only;omega,λb o h=>h5 b o (b4 b o h),ik,ae,nI⟩,by simp only;omega⟩,.perm (by simp) .refl,gX,.nil⟩
   ·refine aM.mk (λ_=>?_) (λh=>by simp at h);exact⟨_,_,.perm (by simp) .refl,.inr ab⟩
  ·have cE:¬ (0:Int)<=(m:Int)-1:=cu h;obtain rfl:m=0:=by omega
   refine⟨_,_,.refl,.inl ?_⟩;have vO:k=(sV g.ds g.n).length:=by have:(sV g.ds g.n).drop k=[]:=fx.trans (by simp[sV]);have:=GW.1 this;omega
   rw[<-vO];exact hB
structure alZ(ds:List bD)(gN nn eT b6 m:Nat)(L:List Nat)(cN:List Value)(M:List aF):Prop where
 M:M=[⟨eT,.cells [.slice (some ⟨gN,0,none⟩) L.length nn].toArray 70 (0,0)⟩,⟨b6,.cells [.int .i64 ((bI (ds.take m):Nat):Int)].toArray 3 (0,0)⟩,dL gN cN]
 len:cN.length=nn
 ai:cN.take L.length=L.map cQ
 ZC:L.length+bI (ds.take m)=nn
 mem:∀ x,x∈L ↔ bI (ds.take m)<=x/\x<nn
 aG:L.Nodup
def al0{g:cA}(aB:g.ok I){s:ByteArray}{na:Option Addr}{nn nc:Nat}(cR:I bt=some (.cells ([.string s,nv,rv,.slice na nn nc,rwv]:List Value).toArray 91 (0,0)))(IE:nn=bI g.ds)(ag:nn<=1048576) :
  Spec Tryz.prog 41 [ptr bt,g.val] I [] λv I' M'=>(∀ b o,I b=some o->I' b=some o)/\∃ (gN:Nat) (L:List Nat) (cN:List Value),v=.slice (some ⟨gN,0,none⟩) L.length nn/\cN.length=nn/\cN.take L.length=L.map cQ/\L.length=nn/\(∀ x,x∈L ↔ x<nn)/\L.Nodup/\M'=[dL gN cN]:=by
 refine bY [5,6] aV Tryz.func41 rfl rfl rfl ?_;intro B ay;have gC:=aB.n;have Z4:∀ {I':a5} {M:List aF},(∀ b o,I b=some o->I' b=some o)->cx I' M ((⟨bt,0,none⟩:Addr).add 3) 1 [.slice na nn nc]:=λh=>by rw[dY _ rfl];exact⟨rfl,_,_,_,.inl (h _ _ cR),rfl,rfl⟩
 refine aw.mk _ (Z4 λ_ _ h=>h) ?_;refine qU.mk 0 nn rfl rfl (bF _) (by show 8*nn<=_;omega) (by omega) ?_;refine cy.mk λgN at6 at7=>?_;refine cy.mk λeT Ld aua=>?_;refine cc.mk [] [⟨gN,_⟩] _ _ rfl rfl (bP rfl) rfl ?_;refine aw.mk _ (Z4 λ_ _ h=>h) ?_;refine cy.mk λb6 K4 al1=>?_;refine cc.mk [] [⟨eT,_⟩,⟨gN,_⟩] _ _ rfl rfl (bP rfl) rfl ?_;refine a9.mk [] _ _ (.refl _) (alX g.a g.n g.c) ?_;rintro v cW M1 b4⟨c6,rfl,zk,-,rfl⟩;have g6:=aB.mono b4;have zC:bI (g.ds.take g.n)=nn:=by rw[gM (by omega),IE]
 refine cq.range (M1:=[⟨eT,.cells [.slice (some ⟨gN,0,none⟩) 0 nn].toArray 70 (0,0)⟩,⟨b6,.cells [.int .i64 (nn:Nat)].toArray 3 (0,0)⟩,dL gN (rowOf [cQ 0] (nn*1))]) aV rfl rfl rfl (.perm (.swap _ _ _) .refl) (alY g6 zk) (λvs h=>?_) (λk I' M'=>∃ (L:List Nat) (cN:List Value),(∀ b o,cW b=some o->I' b=some o)/\alZ g.ds gN nn eT b6 (g.n-k) L cN M') (λex I' M'=>False) ⟨[],rowOf [cQ 0] (nn*1),λ_ _ h=>h,⟨?_,by simp[rowOf],rfl,by rw[xL,zC];simp,λx=>?_,yO⟩⟩ ?_ ?_ (λex I' M' _ h=>h.elim)
 ·obtain⟨p,_,rfl⟩:=eh.1 h;rfl
 ·rw[xL,zC];rfl
 ·rw[xL,zC];simp
 ·rintro k ae I' M' -⟨L,cN,bz,ba⟩l B ay j4;obtain⟨rfl,fP,hT,rl,uW,HI⟩:=ba;rw[RQ]at ae;have aj:=alW g.ds ae;rw[aj];obtain⟨m,hm⟩:∃ m,g.n-k=m+1:=⟨g.n-k-1,by omega⟩;have uI:g.n-1-k=m:=by omega
  have pb:g.n-(k+1)=m:=by omega
  have q':m<g.ds.length:=by omega
  have Pc:g.ds.getD m ID=g.ds[m]:=by simp[dB,q']
  have kO:=Fi q';have ri:=(aB.ds _ (dr q')).t.n;have uu:=Ix g.ds (m+1);rw[uI,Pc];rw[hm]at rl uW;simp only[hm];generalize g.ds[m]=d at kO ri;have AQ:∀ {M:List aF} {e:Nat},(⟨b6,.cells [.int .i64 (e:Int)].toArray 3 (0,0)⟩:aF)∈M->cx I' M ⟨b6,0,none⟩ 1 [.int .i64 (e:Int)]:=λa2=>⟨rfl,_,_,_,.inr ⟨_,a2,rfl,rfl⟩,rfl,rfl⟩;have al2:∀ {M:List aF} {v:Value},(⟨eT,.cells [v].toArray 70 (0,0)⟩:aF)∈M->cx I' M ⟨eT,0,none⟩ 1 [v]:=λa2=>⟨rfl,_,_,_,.inr ⟨_,a2,rfl,rfl⟩,rfl,rfl⟩;refine aw.mk _ (AQ (e:=bI (g.ds.take (m+1))) (.tail _ (.head _))) ?_;refine bb.mk ((bI (g.ds.take m):Nat):Int) (ei (by omega) (by omega)) ?_;refine ea.inv (ι:=Nat×List Value) (λx=>{ bK:=[(5,.val (ptr eT)),(6,.val (ptr b6)),(9,.val (.int .i64 (bI (g.ds.take m):Nat))),(10,.val (.int .i64 ((bI (g.ds.take m)+x.1:Nat):Int)))],cl:=[],dz:=I',d':=[⟨eT,.cells [.slice (some ⟨gN,0,none⟩) (L++List.range' (bI (g.ds.take m)) x.1).length nn].toArray 70 (0,0)⟩,⟨b6,.cells [.int .i64 ((bI (g.ds.take (m+1)):Nat):Int)].toArray 3 (0,0)⟩,dL gN x.2] }) (λx=>x.1<=d.t.n/\x.2.length=nn/\x.2.take (L++List.range' (bI (g.ds.take m)) x.1).length=(L++List.range' (bI (g.ds.take m)) x.1).map cQ) (λx=>d.t.n-x.1) ?_ ?_;·exact⟨(0,cN),⟨bF _,fP,by simpa using hT⟩,.o6 (by simp),fo,.nil⟩
  rintro⟨x,c⟩⟨ab,ft,hk⟩;simp only at ab ft hk;have r5:(L++List.range' (bI (g.ds.take m)) x).length=L.length+x:=by rw[di,List.length_range']
  refine aw.mk _ (AQ (e:=bI (g.ds.take (m+1))) (.tail _ (.head _))) ?_;refine aM.mk (λe=>?_) (λe=>?_)
  ·have a0:x<d.t.n:=by have a':((bI (g.ds.take m)+x:Nat):Int)<((bI (g.ds.take (m+1)):Nat):Int):=cm e;omega
   have hf:List.range' (bI (g.ds.take m)) (x+1)=List.range' (bI (g.ds.take m)) x++[bI (g.ds.take m)+x]:=by rw[List.range'_concat];simp
   have mu:(L++List.range' (bI (g.ds.take m)) (x+1)).length=(L++List.range' (bI (g.ds.take m)) x).length+1:=by rw[hf,<-gz,di];rfl
   obtain⟨pH,pI,uV⟩:=Rk (L:=L++List.range' (bI (g.ds.take m)) x) hk (by omega) (bI (g.ds.take m)+x);refine aw.mk _ (al2 (.head _)) ?_;refine cy.mk λcS g7 jD=>?_;refine bE.l3 aV rfl (by simp) (e:=3) rfl rfl rfl (g:=gN) (n:=(L++List.range' (bI (g.ds.take m)) x).length) (c:=nn) (aY:=c) rfl (show c.length=nn*1 by omega) (ad:=⟨cS,0,none⟩) (m:=1) (c':=1) rfl (dd:=[cQ (bI (g.ds.take m)+x)]) ⟨rfl,_,_,_,.inr ⟨_,.head _,rfl,rfl⟩,rfl,rfl⟩ rfl (by omega) [_,_,_] [] rfl ?_;refine cc.mk [_] [_,_] _ _ rfl rfl (bP rfl) rfl ?_;refine bb.mk ((bI (g.ds.take m)+(x+1):Nat):Int) (ei (by omega) (by omega)) ?_;refine⟨(x+1,bQ c ((L++List.range' (bI (g.ds.take m)) x).length*1) [cQ (bI (g.ds.take m)+x)]),⟨⟨a0,pH.trans ft,?_⟩,by simp only;omega⟩,.sub (.cons _ (.refl _)) (.o6 ?_),fo,.nil⟩;·simp only;rw[hf,<-gz];exact pI
   ·simp only;rw[mu];rfl
  ·have cE:d.t.n<=x:=by have a':¬ ((bI (g.ds.take m)+x:Nat):Int)<((bI (g.ds.take (m+1)):Nat):Int):=cu e;omega
   obtain rfl:x=d.t.n:=by omega
   refine cc.mk [_] [_] _ _ rfl rfl (bP rfl) rfl ?_;refine⟨_,_,.refl,L++List.range' (bI (g.ds.take m)) d.t.n,c,bz,⟨?_,ft,hk,?_,λy=>?_,?_⟩⟩;·rw[pb];rfl
   ·rw[pb,r5];omega
   ·rw[pb,dV,uW,Ru];omega
   ·refine D1.2 ⟨HI,List.nodup_range',λa aH b ag jo=>?_⟩;rw[uW]at aH;rw[Ru]at ag;omega
 ·rintro I' M' -⟨L,cN,bz,ba⟩;rw[RQ,rp]at ba;obtain⟨rfl,fP,hT,rl,uW,HI⟩:=ba;have Lj:bI (g.ds.take 0)=0:=rfl;rw[Lj]at rl uW;refine aw.mk _ ⟨rfl,_,_,_,.inr ⟨_,.head _,rfl,rfl⟩,rfl,rfl⟩ ?_;refine⟨_,_,.sub (.cons _ (.cons _ (.refl _))) .refl,λb o h=>bz _ _ (b4 _ _ h),gN,L,cN,rfl,fP,hT,by omega,λx=>by rw[uW];omega,HI,rfl⟩
def zP(J:a5)(os:bf)(e:Nat):a5:=match os.a with
 |some g=>ins J g (.cells os.aY.toArray e (0,0))| none=>J
def RR{cL:List Nat}(ar:∀ g,os.a=some g->g ∉ cL):lr cL J (os.aO e++post) (zP J os e) post:=by
 obtain⟨a,n,c,aY⟩:=os;cases a with
 |none=>exact .refl| some g=>exact .n2 rfl (ar g rfl) .refl
def RS(h:∀ x∈os.aO e++M,J x.num=none):∀ b o,J b=some o->zP J os e b=some o:=by
 obtain⟨a,n,c,aY⟩:=os;cases a with
 |none=>exact λ_ _ h=>h
 |some g=>exact ku (h ⟨g,_⟩ (.head _))
def RT{size b:Nat}(h:os.ok size xs)(ag:os.n*b<=140737488355328):fC (zP J os e) (os.a.map λg=>⟨g,0,none⟩) os.n os.c size b xs:=by
 obtain⟨a,n,c,aY⟩:=os;cases a with
 |none=>obtain⟨U,aa⟩:=h.nil rfl;exact⟨h.len,⟨by simp only at U aa |-;omega,ag⟩,.inl U⟩
 |some g=>obtain⟨U,aa,af,aN⟩:=h.cap g rfl;exact⟨h.len,⟨aa,ag⟩,.inr ⟨⟨g,0,none⟩,rfl,rfl,aY.toArray,e,(0,0),pJ ..,by simpa using aN⟩⟩
def Fm(I:a5):List (Nat×List Nat)->a5
 |[]=>I| p::L=>Fm (ins I p.1 (.cells (p.2.map cQ).toArray 3 (0,0))) L
def Z5{cL:List Nat}{M:List aF}:∀ {I:a5} (kb:List (Nat×List Nat)),(∀ p∈kb,p.1 ∉ cL)->lr cL I (kb.map k3++M) (Fm I kb) M
 |I,[],_=>.refl| I,p::L,h=>.n2 rfl (h p (.head _)) (Z5 L λq aL=>h q (.tail _ aL))
def Z6:∀ {I:a5} (kb:List (Nat×List Nat)),(∀ p∈kb,I p.1=none)->(kb.map (·.1)).Nodup->(∀ b o,I b=some o->Fm I kb b=some o)/\∀ p∈kb,Fm I kb p.1=some (.cells (p.2.map cQ).toArray 3 (0,0))
 |I,[],_,_=>⟨λ_ _ h=>h,λp aK=>by cases aK⟩
 |I,p::L,h,az=>by
  rw[dQ,mN]at az;have bX:∀ q∈L,(ins I p.1 (.cells (p.2.map cQ).toArray 3 (0,0))) q.1=none:=λq aL=>by unfold ins;rw[hW λe=>az.1 (eh.2 ⟨q,aL,e⟩)];exact h q (.tail _ aL)
  obtain⟨U,aa⟩:=Z6 L bX az.2;refine⟨λb o ag=>U b o (ku (h p (.head _)) b o ag),λq aL=>?_⟩;rcases eu.1 aL with rfl | aL;·exact U _ _ (pJ ..)
  ·exact aa q aL
def wF(x:pP):pP:=⟨x.d.C0,x.bd⟩
def cd(g:cA)(s:ByteArray):bm:=⟨(jT g.ds).map wF,s,0⟩
def al3{g:cA}(s:ByteArray){k:Nat}(ae:k<(jT g.ds).length):(cd g s).ai k=wF (jT g.ds)[k]:=by simp[bm.ai,cd,dB,ae]
def Df(ds:List bD):(jT ds).length=bI ds:=by simp[jT,wi]
def Z7{g:cA}(hm:ie g)(e3:∀ d∈g.ds,∀ n∈d.t.ns,0<=n.k){s:ByteArray}(ax:s.size<=4096):(∀ k,x2 (cd g s) k)/\∀ k,k<bI g.ds->x1 (cd g s) (bI g.ds) k:=by
 have bw:=E2 hm e3 (s:=s) (ai:=0) (bF _) ax;have cg:(fk g s 0).ns.length=bI g.ds:=Df g.ds;have hl:∀ k (ae:k<bI g.ds),∃ a:pP,Lr (fk g s 0) a/\(cd g s).ai k=wF a:=λk ae=>by
  have hZ:k<(jT g.ds).length:=by rw[Df];exact ae
  exact⟨_,bw.ns _ (dr hZ),al3 s hZ⟩
 refine⟨λk=>?_,λk ae=>?_⟩
 ·by_cases ae:k<bI g.ds
  ·obtain⟨a,aH,e⟩:=hl k ae;rw[show x2 (cd g s) k ↔ x2 (cd g s) k from Iff.rfl];refine⟨by rw[e];exact aH.k.1,λU=>?_,by rw[e];exact aH.k.2,λbp=>?_⟩
   ·rw[e]at U |-;have:=aH.one U
    match ab:a.bd,this with
    |[q],_=>exact⟨q,rfl⟩
   ·rw[e]at bp |-;have:=aH.kR bp;show a.d.hi=-1\/(0<=a.d.hi/\a.d.hi<=99);omega
  ·have e:(cd g s).ai k=⟨Qa,[]⟩:=by
    have:(jT g.ds).length<=k:=by rw[Df];omega
    simp[bm.ai,cd,dB,this]
   refine⟨by rw[e];exact Int.le_refl 0,λU=>?_,by rw[e];show(0:Int)<10;omega,λbp=>?_⟩;·rw[e]at U;have aa:(0:Int)=3\/6<=(0:Int):=U;omega
   ·rw[e]at bp;have aa:(0:Int)=6:=bp;omega
 ·obtain⟨a,aH,e⟩:=hl k ae;refine⟨by rw[e];exact aH.k.1,λU=>?_,λq aL=>?_,λbp=>?_⟩
  ·rw[e]at U |-;have aa:=aH.one U;show a.bd.getD 0 0<_;have aA:a.bd.getD 0 0=a.bd[0]:=by simp[dB,aa]
   rw[aA,<-cg];exact aH.bd _ (dr (by omega))
  ·rw[e]at aL;rw[<-cg];exact aH.bd q aL
  ·rw[e]at bp |-;exact(aH.kR bp).2.1
def RU(c:bo):cP:=⟨c.n,c.av,bif Nat.beq c.ao 3 then 2 else bif Nat.beq c.ao 2 then 1 else 0,0⟩
def al4{z a:Nat}{c:bo}(h:jC z a c):(RU c).ce=c:=by
 rcases h with rfl | rfl | ⟨h,-⟩
 ·rfl
 ·rfl
 ·obtain⟨n,av,ao⟩:=c;simp only at h;subst h;rfl
open Classical in
noncomputable def x'(P:bm)(N:Nat)(k a:Nat):cP:=if k<N/\a<=P.s.size then kx else RU (bs P k a)
def Ms{k a:Nat}(ae:k<N)(aH:a<=P.s.size):x' P N k a=kx:=cF ⟨ae,aH⟩
def al5(P:bm)(N:Nat):kd P N (x' P N):=by
 have fW:∀ k a,¬ (k<N/\a<=P.s.size)->(x' P N k a).ce=bs P k a:=λk a h=>by unfold x';rw[b8 h];exact al4 (sG P k a)
 refine⟨λk a=>?_,λk a h=>?_,λk a ae aH _ _ h=>?_,λk a ae aH=>?_,fW⟩
 ·unfold x';split
  ·exact bF _
  ·unfold RU;cases Nat.beq (bs P k a).ao 3<;>cases Nat.beq (bs P k a).ao 2<;>simp
 ·by_cases e:k<N/\a<=P.s.size
  ·rw[Ms e.1 e.2]at h;exact absurd rfl h
  ·exact(fW k a e).symm
 ·rw[Ms ae aH]at h;exact absurd rfl h
 ·rw[Ms ae aH];exact⟨bF _,bF _,bF _⟩
structure wG(I:a5)(g:cA)(s:ByteArray)(t:eU)(T:Nat->Nat->cP):Prop where
 ok:t.ok I T
 inv:kd t.P t.nn T
 P:t.P=cd g s
 ts:t.s=s
 all:∀ k b,(T k b).ce=bs (cd g s) k b
 n0:t.n0=t.nn
 nn:t.nn=bI g.ds
 rv:∃ fb jF,t.rv=.slice fb g.n jF/\fC I fb g.n jF 1 8 ((ej 0 g.ds).map cQ)
 nv:∃ j' nR,t.nv=.slice j' g.n nR/\fC I j' g.n nR 1 16 (g.ds.map zO)
def eU.ok.mono{t:eU}{T:Nat->Nat->cP}(h:t.ok I T)(bX:∀ b o,I b=some o->I' b=some o):t.ok I' T:=
 { h with ao:=bX _ _ h.ao,ns:=h.ns.mono bX,kY:=λy aT=>(h.kY y aT).mono bX,rw:=h.rw.mono bX,dS:=λk ae ay=>(let ⟨cs,hE,ak,U,aa⟩:=h.dS k ae ay;⟨cs,hE,ak,bX _ _ U,aa⟩) }
def wG.mono{g:cA}{s:ByteArray}{t:eU}{T:Nat->Nat->cP}(h:wG I g s t T)(bX:∀ b o,I b=some o->I' b=some o):wG I' g s t T:=by obtain⟨fb,jF,aC,aA⟩:=h.rv;obtain⟨j',nR,bx,cU⟩:=h.nv;exact { h with ok:=h.ok.mono bX,rv:=⟨fb,jF,aC,aA.mono bX⟩,nv:=⟨j',nR,bx,cU.mono bX⟩ }
def eU.ok.oB{t:eU}{T:Nat->Nat->cP}(h:t.ok I T)(bX:∀ b o,I b=some o->I' b=some o)(ag:I' t.fX=some (.cells (t.cs T).toArray 107 (0,0))):({ t with n0:=t.nn }:eU).ok I' T:=by
 have hm:=h.mono bX;refine⟨hm.ao,hm.ns,hm.kY,hm.Zz,hm.tN,hm.rw,hm.fA,λk ae ay=>?_,λk ae ay=>?_,hm.sz,hm.many⟩
 ·by_cases e3:k<t.n0
  ·exact hm.dS k ae e3
  ·refine⟨_,_,_,by rw[hm.new k ae (by omega)];exact ag,?_⟩;rw[hm.new k ae (by omega)];show((t.cs T).toArray.toList.drop ((k-t.n0)*(t.w*4))).take (t.w*4)=_;unfold eU.cs;rw[y8 _ (t.w*4) (λj=>C2 T _ t.w) _ (k-t.n0) (by rw[tK];simp only at ay;omega),su,oc (by omega)];rfl
 ·have U:k<t.rows.length:=ae;have aa:=hm.Rg;have af:t.nn<=k:=ay;omega
def Z8{J:a5}:∀ {kb:List (Nat×List Nat)} {ns:List bh},(∀ p∈kb,J p.1=some (.cells (p.2.map cQ).toArray 3 (0,0))/\p.2.length<=1048576/\∀ x∈p.2,x<=1048576)->(∀ n∈ns,n.ok J)->∀ y∈qJ kb ns,y.ok J/\(∃ p∈kb,y.aS=p.2.map λ(k:Nat)=>(k:Int))/\∃ n∈ns,y.t=n.t
 |[],ns,_,_,y,aT=>by simp[qJ]at aT
 |p::kb,[],_,_,y,aT=>by simp[qJ]at aT
 |p::kb,n::ns,h,az,y,aT=>by
  have e:qJ (p::kb) (n::ns)=wE p.1 p.2 n::qJ kb ns:=rfl;rw[e]at aT;rcases eu.1 aT with rfl | aT;·obtain⟨U,aa,af⟩:=h p (.head _);exact⟨alP (az n (.head _)) U aa af,⟨p,.head _,rfl⟩,n,.head _,rfl⟩
  ·obtain⟨i1,⟨q,i2,i3⟩,m,i4,i5⟩:=Z8 (λq aL=>h q (.tail _ aL)) (λm hm=>az m (.tail _ hm)) y aT;exact⟨i1,⟨q,.tail _ i2,i3⟩,m,.tail _ i4,i5⟩
def Z9:∀ {kb:List (Nat×List Nat)} {ns:List bh},kb.length=ns.length->(qJ kb ns).map bh.pn=List.zipWith (λp n=>⟨n.C0,p.2⟩) kb ns
 |[],[],_=>rfl| p::kb,n::ns,h=>by show(wE p.1 p.2 n).pn::(qJ kb ns).map bh.pn=_;rw[alO,Z9 (by simpa using h)];rfl
def Z'{ds:List bD}{aq:Nat}:∀ {kb:List (Nat×List Nat)} {ns:List bh},kb.map (·.2)=ns.map (jf ds aq)->List.zipWith (λ(p:Nat×List Nat) (n:bh)=>(⟨n.C0,p.2⟩:pP)) kb ns=ns.map (Fk ds aq)
 |[],[],_=>rfl| p::kb,n::ns,h=>by rw[dQ,dQ,zb]at h;rw[List.zipWith_cons_cons,dQ,Z' h.2,h.1];rfl
def ya(ds:List bD)(i:Nat):List pP:=(lg 0 (ds.take i)).map λp=>wF ⟨p.2,jf ds p.1 p.2⟩
def aaa:∀ (b:Nat) (A B:List bD),lg b (A++B)=lg b A++lg (b+bI A) B
 |b,[],B=>by simp[lg,bI]
 |b,d::A,B=>by
  have e:bI (d::A)=d.t.ns.length+bI A:=by simp[bI]
  rw[py,lg,lg,aaa _ A B,gz,e,p9]
def al6{ds:List bD}{i:Nat}(hi:i<ds.length):ya ds (i+1)=ya ds i++ds[i].t.ns.map (Fk ds (bI (ds.take i))):=by unfold ya;rw[iT hi,aaa,gW,dp];congr 1;simp[lg,Fk,wF]
def al7(ds:List bD):ya ds ds.length=(jT ds).map wF:=by unfold ya jT;rw[List.take_length,ms];rfl
def al8(ds:List bD)(i:Nat):(ya ds i).length=bI (ds.take i):=by simp[ya,wi]
def Fo(ds:List bD):Nat->List eH->List pP
 |_,[]=>[]| b,t::ts=>t.ns.map (Fk ds b)++Fo ds (b+t.ns.length) ts
def yb(ts:List eH)(i:Nat):Nat:=((ts.take i).map λt=>t.ns.length).sum
def al9(t:eH)(ts:List eH)(i:Nat):yb (t::ts) (i+1)=t.ns.length+yb ts i:=by unfold yb;simp
def aab{ds:List bD}:∀ {ts:List eH} {b i j:Nat} (hi:i<ts.length) (an:j<ts[i].ns.length),(Fo ds b ts)[yb ts i+j]?=some (Fk ds (b+yb ts i) ts[i].ns[j])
 |t::ts,b,0,j,hi,an=>by have ji:j<t.ns.length:=an;rw[Fo,show yb (t::ts) 0=0 from rfl,dp,rZ (by rw[eW];exact ji),yL,g5 ji];rfl
 |t::ts,b,i+1,j,hi,an=>by have be:=aab (ds:=ds) (ts:=ts) (b:=b+t.ns.length) (i:=i) (j:=j) (by simpa using hi) (by simpa using an);rw[Fo,al9,qg (by rw[eW];omega),eW,show t.ns.length+yb ts i+j-t.ns.length=yb ts i+j by omega,be,p9];rfl
def aac(RV:List bD):∀ (b:Nat) (ds:List bD),Fo RV b (ds.map (·.t))=(lg b ds).map λp=>wF ⟨p.2,jf RV p.1 p.2⟩
 |_,[]=>rfl| b,d::ds=>by rw[dQ,Fo,lg,gW,ms,aac RV _ ds];rfl
def ama(ds:List bD)(more:List eH){i:Nat}(hi:i<=ds.length):yb (ds.map (·.t)++more) i=bI (ds.take i):=by unfold yb bI;rw[Eh (by rw[eW];exact hi),<-List.map_take,ms];rfl
def aad{α:Type}{p q:α->Bool}:∀ {l:List α},(∀ x∈l,p x=true->q x=true)->l.countP p<=l.countP q
 |[],_=>b2 _
 |x::l,h=>by
  have be:=aad (l:=l) λy aT=>h y (.tail _ aT);have U:=h x (.head _);rw[Fe,Fe];cases aK:p x with
  |false=>cases q x<;>simp<;>omega
  |true=>rw[U aK];simp;omega
def aae{α:Type}{p q:α->Bool}:∀ {l:List α},(∀ x∈l,p x=true->q x=true)->∀ {z:α},z∈l->p z=false->q z=true->l.countP p<l.countP q
 |[],_,z,bk,_,_=>by cases bk
 |x::l,h,z,bk,aaf,aag=>by
  have U:=h x (.head _);have be:=aad (l:=l) λy aT=>h y (.tail _ aT);rw[Fe,Fe];rcases eu.1 bk with rfl | bk;·rw[aaf,aag];simp;omega
  ·have:=aae (l:=l) (λy aT=>h y (.tail _ aT)) bk aaf aag;cases aK:p x with
   |false=>cases q x<;>simp<;>omega
   |true=>rw[U aK];simp;omega
def fZ(g:cA)(i j:Nat):Nat:=bI (g.ds.take i)+j
def aah{g:cA}(s:ByteArray){i:Nat}(hi:i<g.ds.length)(an:j<g.ds[i].t.ns.length):(cd g s).ai (fZ g i j)=Fk g.ds (bI (g.ds.take i)) g.ds[i].t.ns[j]:=by
 have dx:i<(g.ds.map (·.t)).length:=by rw[eW];exact hi
 have h:=aab (ds:=g.ds) (ts:=g.ds.map (·.t)) (b:=0) (i:=i) (j:=j) dx (by rw[lu];exact an);have ag:=ama g.ds [] (i:=i) (by omega);rw[eo]at ag;rw[ag,dp,aac]at h;unfold bm.ai cd fZ;simp only[lu]at h;rw[dB];unfold jT;rw[ms];show(((lg 0 g.ds).map λp=>wF ⟨p.2,jf g.ds p.1 p.2⟩)[bI (g.ds.take i)+j]?).getD _=_;rw[h];rfl
def amb(g:cA):∀ {k:Nat},k<bI g.ds->∃ i j,∃ hi:i<g.ds.length,j<g.ds[i].t.ns.length/\k=fZ g i j:=by
 have key:∀ (n k:Nat),n<=g.ds.length->k<bI (g.ds.take n)->∃ i j,∃ hi:i<g.ds.length,j<g.ds[i].t.ns.length/\k=fZ g i j:=by
  intro n
  induction n with
  |zero=>intro k _ h;simp[bI]at h
  |succ n be=>
   intro k az h;have hi:n<g.ds.length:=by omega
   rw[Fi hi]at h;by_cases ae:k<bI (g.ds.take n);·exact be k (by omega) ae
   ·exact⟨n,k-bI (g.ds.take n),hi,by omega,by unfold fZ;omega⟩
 intro k ae;exact key g.ds.length k (b2 _) (by rw[gM (b2 _)];exact ae)
def aai{g:cA}{i r:Nat}(hi:i<g.ds.length)(al:g.ds[i].t.bR=(r:Int)):eF g i=fZ g i r:=by have zN:=xS 0 g.ds;unfold eF fZ;rw[dB,g5 (by omega:i<(ej 0 g.ds).length),mb,Ml 0 g.ds i hi (by omega),dp,al];rfl
structure cJ where
 a:BitVec 64
 b:BitVec 64
 c:BitVec 64
 d:BitVec 64
 deriving DecidableEq
def cJ.zero:cJ:=⟨0,0,0,0⟩
def cJ.or(x y:cJ):cJ:=⟨x.a ||| y.a,x.b ||| y.b,x.c ||| y.c,x.d ||| y.d⟩
def cJ.and(x y:cJ):cJ:=⟨x.a &&& y.a,x.b &&& y.b,x.c &&& y.c,x.d &&& y.d⟩
def cJ.sub(x y:cJ):Bool:=decide (x.and y=x)
structure cD where
 w:cJ
 f:Bool
 deriving DecidableEq
def ki:cD:=⟨.zero,false⟩
def Mt:cD:=⟨.zero,true⟩
def cD.seq(a b:cD):cD:=bif a.f then⟨a.w.or b.w,b.f⟩else a
def cD.choice(a b:cD):cD:=⟨a.w.or b.w,a.f||b.f⟩
def cJ.ext'{x y:cJ}(U:x.a=y.a)(aa:x.b=y.b)(af:x.c=y.c)(aN:x.d=y.d):x=y:=by obtain⟨a,b,c,d⟩:=x;obtain⟨cf,h2,c',zq⟩:=y;simp only at U aa af aN;subst U aa af aN;rfl
def cJ.or_assoc(x y z:cJ):(x.or y).or z=x.or (y.or z):=by simp only[cJ.or,BitVec.or_assoc]
def cJ.or_comm(x y:cJ):x.or y=y.or x:=by simp only[cJ.or,BitVec.or_comm]
def cJ.or_self(x:cJ):x.or x=x:=by simp[cJ.or]
def cJ.zero_or(x:cJ):cJ.zero.or x=x:=by simp[cJ.or,cJ.zero]
def Bb:x &&& y=x ↔ x ||| y=y:=by
 constructor
 ·intro h;apply BitVec.eq_of_getElem_eq;intro i hi;have:=congrArg (λw:BitVec 64=>w[i]) h;simp only[BitVec.getElem_and,BitVec.getElem_or]at this |-;revert this;cases x[i]<;>cases y[i]<;>simp
 ·intro h;apply BitVec.eq_of_getElem_eq;intro i hi;have:=congrArg (λw:BitVec 64=>w[i]) h;simp only[BitVec.getElem_and,BitVec.getElem_or]at this |-;revert this;cases x[i]<;>cases y[i]<;>simp
def cJ.Fp{x y:cJ}:x.sub y=true ↔ x.or y=y:=by
 unfold cJ.sub;rw[eY];constructor
 ·intro h;have U:=congrArg cJ.a h;have aa:=congrArg cJ.b h;have af:=congrArg cJ.c h;have aN:=congrArg cJ.d h;exact cJ.ext' (Bb.1 U) (Bb.1 aa) (Bb.1 af) (Bb.1 aN)
 ·intro h;have U:=congrArg cJ.a h;have aa:=congrArg cJ.b h;have af:=congrArg cJ.c h;have aN:=congrArg cJ.d h;exact cJ.ext' (Bb.2 U) (Bb.2 aa) (Bb.2 af) (Bb.2 aN)
def cJ.amc(x:cJ):x.sub x=true:=cJ.Fp.2 x.or_self
def cJ.Mu{x y z:cJ}(h:x.sub y=true)(bg:y.sub z=true):x.sub z=true:=by rw[cJ.Fp]at h bg |-;rw[<-bg,<-cJ.or_assoc,h]
def cJ.amd{x y:cJ}(h:x.sub y=true)(bg:y.sub x=true):x=y:=by rw[cJ.Fp]at h bg;exact bg.symm.trans ((cJ.or_comm y x).trans h)
def cJ.RW(x y:cJ):x.sub (x.or y)=true:=by rw[cJ.Fp,<-cJ.or_assoc,cJ.or_self]
def cJ.ame{x y z:cJ}(h:x.sub z=true)(bg:y.sub z=true):(x.or y).sub z=true:=by rw[cJ.Fp]at h bg |-;rw[cJ.or_assoc,bg,h]
def cJ.zero_sub(x:cJ):cJ.zero.sub x=true:=by rw[cJ.Fp,cJ.zero_or]
def cJ.or_mono{x y u v:cJ}(h:x.sub y=true)(bg:u.sub v=true):(x.or u).sub (y.or v)=true:=
 cJ.ame (cJ.Mu h (cJ.RW _ _)) (cJ.Mu bg (by rw[cJ.or_comm];exact cJ.RW _ _))
structure cD.le(a b:cD):Prop where
 w:a.w.sub b.w=true
 f:a.f=true->b.f=true
def cD.le_refl(a:cD):a.le a:=⟨cJ.amc _,id⟩
def cD.le.trans{a b c:cD}(h:a.le b)(bg:b.le c):a.le c:=⟨cJ.Mu h.w bg.w,λx=>bg.f (h.f x)⟩
def cD.le.antisymm{a b:cD}(h:a.le b)(bg:b.le a):a=b:=by
 have U:=cJ.amd h.w bg.w;obtain⟨amf,xT⟩:=a;obtain⟨amg,mC⟩:=b;simp only at U;subst U;have ar:=h.f;have sg:=bg.f;cases xT<;>cases mC<;>simp_all
def cD.lE(a:cD):ki.le a:=⟨cJ.zero_sub _,λh=>by cases h⟩
def cD.amh{a b x y:cD}(h:a.le b)(bg:x.le y):(a.choice x).le (b.choice y):=by refine⟨cJ.or_mono h.w bg.w,?_⟩;simp only[cD.choice,lq];exact λg=>g.imp h.f bg.f
def cD.LI{a b x y:cD}(h:a.le b)(bg:x.le y):(a.seq x).le (b.seq y):=by
 obtain⟨amf,xT⟩:=a;obtain⟨amg,mC⟩:=b;obtain⟨U,aa⟩:=h;simp only at U aa;cases xT with
 |true=>obtain rfl:=aa rfl;exact⟨cJ.or_mono U bg.w,bg.f⟩
 |false=>
  cases mC with
  |true=>exact⟨cJ.Mu U (cJ.RW _ _),λh=>by simp[cD.seq]at h⟩| false=>exact⟨U,λh=>by simp[cD.seq]at h⟩
def IF(x:BitVec 64):BitVec.ofInt 64 (x.toNat:Int)=x:=by rw[BitVec.ofInt_natCast,BitVec.ofNat_toNat,BitVec.setWidth_eq]
def aaj(x:BitVec 64):IntKind.u64.wrap (x.toNat:Int)=(x.toNat:Int):=by have:=x.isLt;unfold IntKind.wrap;simp only[IntKind.bits,IntKind.signed];simp;omega
def ami:((x.toNat:Int) == (y.toNat:Int))=decide (x=y):=by rw[nZ];simp[BitVec.toNat_eq];omega
def amj{x:Int}(h:0<=x/\x<18446744073709551616):∃ w:BitVec 64,x=(w.toNat:Int):=by refine⟨BitVec.ofNat 64 x.toNat,?_⟩;rw[CX,H' (by omega)];omega
structure IG(α:Type) where
 le:α->α->Prop
 lE:α
 refl:∀ a,le a a
 trans:∀ {a b c},le a b->le b c->le a c
 IH:∀ {a b},le a b->le b a->a=b
 low:∀ a,le lE a
structure g'{α:Type}(O:IG α)(l m:List α):Prop where
 len:l.length=m.length
 at':∀ i,O.le (l.getD i O.lE) (m.getD i O.lE)
section
variable{α:Type}{O:IG α}
def g'.refl(l:List α):g' O l l:=⟨rfl,λ_=>O.refl _⟩
def g'.trans{a b c:List α}(h:g' O a b)(bg:g' O b c):g' O a c:=⟨h.len.trans bg.len,λi=>O.trans (h.at' i) (bg.at' i)⟩
def g'.IH{a b:List α}(h:g' O a b)(bg:g' O b a):a=b:=by apply xq h.len;intro i U aa;have:=O.IH (h.at' i) (bg.at' i);simpa[dB,U,aa]using this
def g'.of{a b:List α}(aE:a.length=b.length)(h:∀ i,i<a.length->O.le (a.getD i O.lE) (b.getD i O.lE)):g' O a b:=⟨aE,λi=>by
 by_cases hi:i<a.length
 ·exact h i hi
 ·have e:a.getD i O.lE=O.lE:=by simp[dB,qR (Nat.le_of_not_lt hi)]
  rw[e];exact O.low _⟩
def g'.snoc{a b:List α}{x y:α}(h:g' O a b)(ab:O.le x y):g' O (a++[x]) (b++[y]):=by
 have aE:=h.len;refine .of (by simp[aE]) λi hi=>?_;rcases Hn i a.length with U | U
 ·have aa:i<b.length:=by omega
  have:=h.at' i;simpa[dB,rZ U,rZ aa]using this
 ·have aa:i=a.length:=by simp at hi;omega
  subst aa;have aC:(a++[x]).getD a.length O.lE=x:=by simp[dB]
  have aA:(b++[y]).getD a.length O.lE=y:=by rw[aE];simp[dB]
  rw[aC,aA];exact ab
def Mv(l:List α)(b:α)(i j:Nat)(x:α)(hi:i<l.length):(l.set i x).getD j b=if i=j then x else l.getD j b:=by
 simp only[dB,qi];by_cases e:i=j
 ·subst e;simp[hi]
 ·rw[b8 e,b8 e]
def zQ(body:List α->Nat->α):Nat->Nat->List α->List α
 |_,0,l=>l| i,k+1,l=>zQ body (i+1) k (l.set i (body l i))
structure vc(O:IG α)(n:Nat)(body:List α->Nat->α)(l:List α):Prop where
 len:l.length=n
 up:∀ i,i<n->O.le (l.getD i O.lE) (body l i)
 least:∀ m:List α,m.length=n->(∀ i,i<n->O.le (body m i) (m.getD i O.lE))->g' O l m
structure aak(O:IG α)(n:Nat)(body:List α->Nat->α)(l:List α):Prop where
 len:l.length=n
 fix:∀ i,i<n->l.getD i O.lE=body l i
 least:∀ m:List α,m.length=n->(∀ i,i<n->O.le (body m i) (m.getD i O.lE))->g' O l m
def aal(n i:Nat)(b:α):(List.replicate n b).getD i b=b:=by
 by_cases h:i<n<;>simp[dB,Qf,h]
def vc.start(n:Nat)(body:List α->Nat->α):vc O n body (List.replicate n O.lE):=by
 refine⟨by simp,λi h=>?_,λm hm _=>⟨by simp[hm],λi=>?_⟩⟩
 ·rw[aal];exact O.low _
 ·rw[aal];exact O.low _
section
variable{n:Nat}{body:List α->Nat->α}(Fq:∀ {l m:List α},g' O l m->∀ i,i<n->O.le (body l i) (body m i))
include Fq
def vc.step{l:List α}(h:vc O n body l){i:Nat}(hi:i<n):vc O n body (l.set i (body l i))/\g' O l (l.set i (body l i)):=by
 have fq:i<l.length:=by rw[h.len];exact hi
 have bz:g' O l (l.set i (body l i)):=.of (by simp) λj an=>by
  rw[Mv _ _ _ _ _ fq];by_cases e:i=j;·subst e;rw[cF rfl];exact h.up i hi
  ·rw[b8 e];exact O.refl _
 refine⟨⟨by simpa using h.len,λj an=>?_,λm hm aJ=>?_⟩,bz⟩
 ·rw[Mv _ _ _ _ _ fq];by_cases e:i=j
  ·subst e;rw[cF rfl];exact Fq bz _ hi
  ·rw[b8 e];exact O.trans (h.up j an) (Fq bz _ an)
 ·have HX:=h.least m hm aJ;refine .of (by simp[h.len,hm]) λj an=>?_;rw[Mv _ _ _ _ _ fq];by_cases e:i=j
  ·subst e;rw[cF rfl];exact O.trans (Fq HX _ hi) (aJ i hi)
  ·rw[b8 e];exact HX.at' j
def RX:∀ (k i:Nat) {l:List α},i+k=n->vc O n body l->vc O n body (zQ body i k l)/\g' O l (zQ body i k l) /\ (zQ body i k l=l->∀ j,j<n->i<=j->l.getD j O.lE=body l j)
 |0,i,l,ae,h=>⟨h,g'.refl l,λ_ j an cE=>by omega⟩
 |k+1,i,l,ae,h=>by
  have hi:i<n:=by omega
  have fq:i<l.length:=by rw[h.len];exact hi
  obtain⟨s1,s2⟩:=h.step Fq hi;obtain⟨hS,fP,hT⟩:=RX k (i+1) (by omega) s1;refine⟨hS,s2.trans fP,λe j an cE=>?_⟩;have b':zQ body i (k+1) l=zQ body (i+1) k (l.set i (body l i)):=rfl;have aC:l.set i (body l i)=l:=by refine g'.IH (O:=O) ?_ s2;rw[b']at e;rw[e]at fP;exact fP
  have aA:zQ body (i+1) k l=l:=by rw[b',aC]at e;exact e
  rw[aC]at hT;by_cases aK:j=i;·subst aK;have aN:=Mv l O.lE j j (body l j) fq;rw[aC,cF rfl]at aN;exact aN
  ·exact hT aA j an (by omega)
def vc.done{l:List α}(h:vc O n body l)(ar:zQ body 0 n l=l):aak O n body l:=
 ⟨h.len,λi hi=>(RX Fq n 0 (dp n) h).2.2 ar i hi (bF _),h.least⟩
end
end
def aam{α:Type}{p q:α->Bool}:∀ {l:List α},(∀ x∈l,p x=true->q x=true)->l.countP q<=l.countP p->∀ x∈l,q x=true->p x=true
 |[],_,_,x,ab,_=>by cases ab
 |y::l,h,bz,x,ab,aL=>by
  have hm:=List.countP_mono_left (p:=p) (q:=q) (l:=l) (λx ab=>h x (.tail _ ab));rw[Fe,Fe]at bz;have aT:=h y (.head _);have key:(q y=true->p y=true)/\l.countP q<=l.countP p:=by cases aK:p y<;>cases aub:q y<;>simp_all<;>omega
  rcases eu.1 ab with rfl | ab;·exact key.1 aL
  ·exact aam (λx ab=>h x (.tail _ ab)) key.2 x ab aL
def zR(x:BitVec 64):Nat:=(List.range 64).countP λi=>!x.getLsbD i
def II(h:x &&& y=x):zR y<=zR x/\(zR x<=zR y->x=y):=by
 have ag:∀ i,x.getLsbD i=true->y.getLsbD i=true:=λi ab=>by have:=congrArg (λw:BitVec 64=>w.getLsbD i) h;simp only[Rt,ab,q3]at this;exact this
 have aK:∀ i∈List.range 64,(!y.getLsbD i)=true->(!x.getLsbD i)=true:=λi _ hi=>by
  have U:=ag i;cases ab:x.getLsbD i with
  |false=>rfl| true=>rw[U ab]at hi;cases hi
 refine⟨List.countP_mono_left aK,λbz=>?_⟩;have:=aam aK bz;apply Rs;intro i hi;have U:=ag i;have aa:=this i (me.2 hi);cases ab:x.getLsbD i<;>cases aT:y.getLsbD i<;>simp_all
def Fs(x:cD):Nat:=(zR x.w.a+zR x.w.b+zR x.w.c+zR x.w.d)+(bif x.f then 0 else 1)
def amk{a b:cD}(h:a.le b):Fs b<=Fs a/\(Fs a<=Fs b->a=b):=by
 obtain⟨U,aa⟩:=h;obtain⟨⟨bW,da,dh,fs⟩,xT⟩:=a;obtain⟨⟨b1,ch,b9,cK⟩,mC⟩:=b;have U:=cm U;simp only[cJ.and,cJ.mk.injEq]at U;obtain⟨a3,a6,bN,gP⟩:=U;obtain⟨pH,ed⟩:=II a3;obtain⟨pI,dP⟩:=II a6;obtain⟨uV,gS⟩:=II bN;obtain⟨CJ,iq⟩:=II gP;simp only at aa;have ar:(bif mC then 0 else 1)<=(bif xT then 0 else 1)/\((bif xT then 0 else 1)<=(bif mC then 0 else 1)->xT=mC):=by cases xT<;>cases mC<;>simp_all
 unfold Fs;simp only;refine⟨by omega,λbz=>?_⟩;obtain rfl:=ed (by omega);obtain rfl:=dP (by omega);obtain rfl:=gS (by omega);obtain rfl:=iq (by omega);obtain rfl:=ar.2 (by omega);rfl
def nd:IG cD:=⟨cD.le,ki,cD.le_refl,λh bg=>h.trans bg,λh bg=>h.antisymm bg,cD.lE⟩
def Bc(l:List cD):Nat:=(l.map Fs).sum
def aan:∀ {l m:List cD},g' nd l m->Bc m<=Bc l/\(Bc l<=Bc m->l=m)
 |[],[],_=>⟨b2 _,λ_=>rfl⟩| [],_::_,h=>by have:=h.len;simp at this
 |_::_,[],h=>by have:=h.len;simp at this
 |a::l,b::m,h=>by have ay:a.le b:=h.at' 0;have aI:g' nd l m:=⟨by simpa using h.len,λi=>by simpa using h.at' (i+1)⟩;obtain⟨U,aa⟩:=amk ay;obtain⟨t1,t2⟩:=aan aI;simp only[Bc,dQ,k']at t1 t2 |-;refine⟨by omega,λh=>?_⟩;rw[aa (by omega),t2 (by omega)]
def aml{l m:List cD}(h:g' nd l m)(bM:m≠l):Bc m<Bc l:=by obtain⟨U,aa⟩:=aan h;apply Qj U;intro e;exact bM (aa (by omega)).symm
def cJ.at(w:cJ)(i:Nat):BitVec 64:=bif decide (i=0)then w.a else bif decide (i=1)then w.b else bif decide (i=2)then w.c else w.d
def cJ.one(i:Nat)(x:BitVec 64):cJ:=⟨bif decide (i=0)then x else 0,bif decide (i=1)then x else 0,bif decide (i=2)then x else 0,bif decide (i=3)then x else 0⟩
def IJ(b:UInt8):cJ:=.one (b.toNat/64) (1#64 <<< (b.toNat%64))
def aao(l:List UInt8):cJ:=l.foldl (λw b=>w.or (IJ b)) .zero
def bh.ws(d:bh):cJ:=⟨BitVec.ofInt 64 d.e2,BitVec.ofInt 64 d.s1,BitVec.ofInt 64 d.s2,BitVec.ofInt 64 d.eK⟩
def yc(d:bh)(k:cD):cD:=bif decide (d.hi=0)then Mt else⟨k.w,k.f||decide (d.lo=0)⟩
def aap(ks:List cD):cD:=ks.foldl cD.seq Mt
def aaq(ks:List cD):cD:=ks.foldl cD.choice ki
def Mw(t:ByteArray):cD:=⟨aao (t.data.toList.take 1),false⟩
def l4(d:bh)(x:a8)(ks:List cD):cD:=
 bif decide (d.k=0)then⟨.zero,x.lD⟩else
 bif decide (d.k=1)then⟨d.ws,false⟩else
 bif decide (d.k=2)then Mw d.t else
 bif decide (d.k=3)then ks.headD ki else
 bif decide (d.k=4)then aap ks else
 bif decide (d.k=5)then aaq ks else
 bif decide (d.k=6)then yc d (ks.headD ki)else
 bif decide (d.k=7)then⟨.zero,x.lD⟩else
 bif decide (d.k=8)then⟨.zero,x.lD⟩else ks.headD ki
def Ft(pl:List (ByteArray×Int))(bK bc:List cD)(d:bh):List cD:=
 d.aS.map (λk=>bc.getD k.toNat ki)++bif decide (d.k=3)then [bK.getD ((eL d.t pl).getD 0).toNat ki]else []
def wH(pl:List (ByteArray×Int))(bK:List cD)(xs:List a8):List bh->List cD->List cD
 |[],bc=>bc| d::ds,bc=>wH pl bK xs ds (bc++[l4 d (xs.getD bc.length cb) (Ft pl bK bc d)])
def RY.map{f g:α->cD}{l:List α}(h:∀ x∈l,(f x).le (g x)):g' nd (l.map f) (l.map g):=.of (by simp) λi hi=>by
 have dx:i<l.length:=by simpa using hi
 have:=h _ (dr dx);simpa[dB,dx]using(show nd.le _ _ from this)
def RZ{f:cD->cD->cD}(ar:∀ {a b x y:cD},a.le b->x.le y->(f a x).le (f b y)):∀ {l m:List cD} {a b:cD},g' nd l m->a.le b->(l.foldl f a).le (m.foldl f b)
 |[],[],_,_,_,h=>h| [],_::_,_,_,h,_=>by have:=h.len;simp at this
 |_::_,[],_,_,h,_=>by have:=h.len;simp at this
 |x::l,y::m,a,b,h,bg=>RZ ar (l:=l) (m:=m) ⟨by simpa using h.len,λi=>by simpa using h.at' (i+1)⟩ (ar bg (h.at' 0))
def amm{l m:List cD}(h:g' nd l m):(l.headD ki).le (m.headD ki):=by
 have:=h.at' 0;cases l<;>cases m<;>exact this
def amn(d:bh)(x:a8){a b:List cD}(h:g' nd a b):(l4 d x a).le (l4 d x b):=by
 have aR:=amm h;unfold l4;cases decide (d.k=0)with
 |true=>exact cD.le_refl _| false=>
 cases decide (d.k=1)with
 |true=>exact cD.le_refl _| false=>
 cases decide (d.k=2)with
 |true=>exact cD.le_refl _| false=>
 cases decide (d.k=3)with
 |true=>exact aR| false=>
 cases decide (d.k=4)with
 |true=>exact RZ cD.LI h (cD.le_refl _)| false=>
 cases decide (d.k=5)with
 |true=>exact RZ cD.amh h (cD.le_refl _)| false=>
 cases decide (d.k=6)with
 |true=>
  simp only[a4,aQ,yc];cases decide (d.hi=0)with
  |true=>exact cD.le_refl _| false=>refine⟨aR.w,?_⟩;simp only[aQ,lq];exact λg=>g.imp aR.f id
 |false=>
 cases decide (d.k=7)with
 |true=>exact cD.le_refl _| false=>
 cases decide (d.k=8)with
 |true=>exact cD.le_refl _| false=>exact aR
def RY.append{a b c d:List cD}(h:g' nd a b)(bg:g' nd c d):g' nd (a++c) (b++d):=by
 have aE:=h.len;have n5:=bg.len;refine .of (by simp[aE,n5]) λi hi=>?_;rcases Hn i a.length with U | U
 ·have aa:i<b.length:=by omega
  have:=h.at' i;simpa[dB,rZ U,rZ aa]using this
 ·have aa:b.length<=i:=by omega
  have:=bg.at' (i-a.length);simp only[dB,qg U,qg aa]at this |-;rwa [aE]at this |-
def amo{bK sE bc u1:List cD}(h:g' nd bK sE)(aH:g' nd bc u1)(d:bh):g' nd (Ft pl bK bc d) (Ft pl sE u1 d):=by
 unfold Ft;refine RY.append (RY.map λk _=>aH.at' _) ?_;cases decide (d.k=3)with
 |true=>
  refine .of rfl λi hi=>?_;have:i=0:=by simpa using hi
  subst this;exact h.at' _
 |false=>exact g'.refl _
def aar{pl:List (ByteArray×Int)}{bK sE:List cD}{xs:List a8}(h:g' nd bK sE):∀ (ds:List bh) {bc u1:List cD},g' nd bc u1->g' nd (wH pl bK xs ds bc) (wH pl sE xs ds u1)
 |[],_,_,aH=>aH| d::ds,bc,u1,aH=>by rw[wH,wH,<-aH.len];exact aar h ds (aH.snoc (amn d _ (amo h aH d)))
def Bd(pl:List (ByteArray×Int))(F:List a8)(ds:List bD)(l:List cD)(i:Nat):cD:=match ds[i]? with
 |some d=>(wH pl l (ep pl F d.t.ns []) d.t.ns []).getD d.t.bR.toNat ki| none=>ki
def aas{ds:List bD}{l m:List cD}(h:g' nd l m)(i:Nat):(Bd pl F ds l i).le (Bd pl F ds m i):=by
 unfold Bd;split
 ·exact(aar h _ (g'.refl _)).at' _
 ·exact cD.le_refl _
def IK(ds:List bD)(F:List a8)(l:List cD):Prop:=aak nd ds.length (Bd (bJ ds) F ds) l
def amp(ds:List bD)(F:List a8)(l:List cD):Prop:=vc nd ds.length (Bd (bJ ds) F ds) l
def cJ.has(w:cJ)(n:Nat):Bool:=(w.at (n/64)).getLsbD (n%64)
def cJ.amq(x y:cJ)(j:Nat):(x.or y).at j=x.at j ||| y.at j:=by
 unfold cJ.at
 cases decide (j=0)<;>cases decide (j=1)<;>cases decide (j=2)<;>rfl
def cJ.aat(x y:cJ)(n:Nat):(x.or y).has n=(x.has n||y.has n):=by unfold cJ.has;rw[cJ.amq,A6]
def cJ.at_one{i:Nat}(x:BitVec 64)(an:j<4):(cJ.one i x).at j=if j=i then x else 0:=by
 unfold cJ.at cJ.one;rcases(by omega:j=0\/j=1\/j=2\/j=3)with rfl | rfl | rfl | rfl
 ·by_cases h:i=0<;>simp[h];omega
 ·by_cases h:i=1<;>simp[h];omega
 ·by_cases h:i=2<;>simp[h];omega
 ·by_cases h:i=3<;>simp[h];omega
def amr(k i:Nat)(ae:k<64)(hi:i<64):(1#64 <<< k).getLsbD i=decide (i=k):=by rw[BitVec.getLsbD_shiftLeft,nZ];simp only[hi,zc,q3,ct,pk,ny,eY,BitVec.getLsbD_one];omega
def ams(b:UInt8)(h:n<256):(IJ b).has n=decide (n=b.toNat):=by
 have ag:=b.toNat_lt;unfold cJ.has IJ;rw[cJ.at_one _ (by omega)];by_cases e:n/64=b.toNat/64
 ·rw[cF e,amr _ _ (by omega) (by omega),nZ,eY,eY];omega
 ·rw[b8 e];have:¬ n=b.toNat:=λh=>e (by rw[h]);simp[this]
def aau(pl:List (ByteArray×Int))(bK:List a8):∀ (ds:List bh) (bc:List a8),∃ r,ep pl bK ds bc=bc++r
 |[],bc=>⟨[],by simp[ep]⟩| d::ds,bc=>by obtain⟨r,h⟩:=aau pl bK ds (bc++[eO d (nO pl bK bc d)]);exact⟨_,by rw[ep,h,gz]⟩
def amt(pl:List (ByteArray×Int))(bK:List a8)(d:bh)(ds:List bh)(bc:List a8):(ep pl bK (d::ds) bc).getD bc.length cb=eO d (nO pl bK bc d):=by obtain⟨r,h⟩:=aau pl bK ds (bc++[eO d (nO pl bK bc d)]);rw[ep,h];simp[dB]
def tS(pl:List (ByteArray×Int))(F:List a8)(l:List cD)(d:bh)(xs:List (a8×cD)):a8×cD:=
 (eO d (xs.map (·.1)++bif decide (d.k=3)then [F.getD ((eL d.t pl).getD 0).toNat cb]else []),l4 d (eO d (xs.map (·.1)++bif decide (d.k=3)then [F.getD ((eL d.t pl).getD 0).toNat cb]else [])) (xs.map (·.2)++bif decide (d.k=3)then [l.getD ((eL d.t pl).getD 0).toNat ki]else []))
def tT(pl:List (ByteArray×Int))(F:List a8)(l:List cD)(ns:List bh)(j:Int):a8×cD:=xA (cb,ki) (λd g=>tS pl F l d (d.aS.map g)) ns j
def R0(bc:List (a8×cD))(i:Nat):(bc.getD i (cb,ki)).1=(bc.map (·.1)).getD i cb:=by
 simp only[dB,yL];cases bc[i]?<;>rfl
def aav(bc:List (a8×cD))(i:Nat):(bc.getD i (cb,ki)).2=(bc.map (·.2)).getD i ki:=by
 simp only[dB,yL];cases bc[i]?<;>rfl
def aaw(pl:List (ByteArray×Int))(F:List a8)(l:List cD):∀ (ds:List bh) (bc:List (a8×cD)),(rb (cb,ki) (λd g=>tS pl F l d (d.aS.map g)) ds bc).map (·.1)=ep pl F ds (bc.map (·.1)) /\ (rb (cb,ki) (λd g=>tS pl F l d (d.aS.map g)) ds bc).map (·.2)=wH pl l (ep pl F ds (bc.map (·.1))) ds (bc.map (·.2))
 |[],bc=>⟨rfl,rfl⟩
 |d::ds,bc=>by
  have aC:(tS pl F l d (d.aS.map λk=>bc.getD k.toNat (cb,ki))).1=eO d (nO pl F (bc.map (·.1)) d):=by unfold tS nO;simp only[ms,C7,R0]
  have aA:(tS pl F l d (d.aS.map λk=>bc.getD k.toNat (cb,ki))).2=l4 d (eO d (nO pl F (bc.map (·.1)) d)) (Ft pl l (bc.map (·.2)) d):=by unfold tS nO Ft;simp only[ms,C7,R0,aav]
  obtain⟨U,aa⟩:=aaw pl F l ds (bc++[tS pl F l d (d.aS.map λk=>bc.getD k.toNat (cb,ki))]);rw[gW,gW,dQ,oN,dQ,oN,aC,aA]at aa;rw[gW,dQ,oN,aC]at U;have af:=amt pl F d ds (bc.map (·.1));refine⟨by rw[rb,U,ep],?_⟩;rw[rb,aa,wH,eW];rw[eW]at af;rw[af,ep]
def aax(pl:List (ByteArray×Int))(F:List a8)(l:List cD)(ns:List bh)(j:Int):tT pl F l ns j=((ep pl F ns []).getD j.toNat cb,(wH pl l (ep pl F ns []) ns []).getD j.toNat ki):=by
 have h:=aaw pl F l ns [];unfold tT xA;refine Prod.ext ?_ ?_
 ·rw[R0,h.1];rfl
 ·rw[aav,h.2];rfl
def amu{l:List cD}{t:eH}(al:right t=true)(an:j<t.ns.length):tT pl F l t.ns j=tS pl F l t.ns[j] (t.ns[j].aS.map (tT pl F l t.ns)):=
 Hf (λd g eD h=>by rw[xo h]) al an
end Go.V
