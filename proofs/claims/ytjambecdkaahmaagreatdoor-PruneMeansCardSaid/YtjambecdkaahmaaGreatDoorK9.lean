/- Part 9 of what the proofs of this seat share: the executor, data in memory, walks.
-/
import Derived.Test.YtjambecdkaahmaaGreatDoorK8
import Derived.Test.YtjambecdkaahmaaGreatDoorK4
import Derived.Test.YtjambecdkaahmaaGreatDoorK5
set_option linter.all false
set_option maxHeartbeats 16000000
set_option maxRecDepth 100000
namespace Go.V
open Go
variable{F:List a2}{y x:Operand}{t:cB}{e cu ack bq:Int}{g h:bJ}{n c c' b j z node EI f acm:Nat}{aK:List Value}{I:aZ}{M M0:List aB}{s want:List UInt8}{ax l:List Int}{α:Type}{a:Option Addr}{o:Option Int}{cs EJ:List hG}{dJ:IntKind}{ds:List aQ}{up:Nat->Nat}
section
variable{X:c3}{F:Fr}{C:dp}{I:aZ}{M:List aB}{o:Oper}
def acn{G F:Fr}{r:dn}(h:dq G y=dq F y)(aX:bB F y=r):bB G y=r:=by simp only[bB,dR,h];exact aX
def sP.apI{K:dn->aZ->List aB->Prop}(aN:c2 X.P X.E){t:Nat}(aw:o.op=.call { callee:=.builtin .copy,args:=#[x,y],argTypes:=#[t,t] })
  {e:Nat} {dk aH:dU} (ay:X.E t=some dk) (dW:dk.bE=.slice e) (he:X.E e=some aH)
 {g off m:Nat} (ae:bB F x=.val (.slice (some ⟨g,off,none⟩) n c)) (wz:m<=n) (aA:off+m*aH.size<=aK.length)
  {sa:Option Addr} (aF:bB F y=.val (.slice sa m c')) {bV:List Value} (av:bV.length=m*aH.size) (aq:0<m->∃ ad,sa=some ad/\cr I M ad (m*aH.size) bV) (aa:fO bV=true)
  (bc post:List aB) (a1:M=bc++⟨g,.cells aK.toArray e (0,0)⟩::post)
  (k:K (.val (.int .i64 m)) I (bc++⟨g,.cells (bo aK off bV).toArray e (0,0)⟩::post)):sP X o F C I M K:=by
 refine⟨fun β a w Q a5=>?_⟩;have hu:=DC aN ay dW;obtain⟨inf,z,hi,fb,hV,iq,kM⟩:=(aN _ _ he).inf;have au:w.heap[g]?=some (.cells aK.toArray e (0,0)):=a5.holds.m ⟨g,.cells aK.toArray e (0,0)⟩ (by rw[a1];simp);have dE:=run_storeCells_at X.P g off e bV 0 aK.toArray w au (by rw[av];simpa using aA) (w4 aa);simp only[nj]at dE;have aJ:(Builtin.firstCells aH.size m (.slice sa m c')).run X.P w=.ok bV.toArray w:=by
  by_cases ar:0<m
  ·obtain⟨ad,rfl,ch,cs,T,al,dS,aj,av⟩:=aq ar;refine run_firstCells_some (P:=X.P) w aH.size m ad m c' bV av λj v an=>?_;rw[dL _ ch,sL (dS.heap a5.holds)];rw[<-aj,j9]at an;split at an
   ·rw[nZ]at an;simpa using an
   ·cases an
  ·have ab:m=0:=by omega
   subst ab;have ag:bV=[]:=jh (by rw[av,vw]);subst ag;cases sa with
   |none=>simp[Builtin.firstCells]| some ad=>exact run_firstCells_some (P:=X.P) w aH.size 0 ad 0 c' [] (by simp) λj v an=>by simp at an
 have ex:=dh a5.al ae;have mM:=dh a5.al aF;have xl:Nat.min m n=m:=rI wz;have apJ:Nat.min n m=m:=Nat.min_eq_right wz;have apK:min m n=m:=rI wz;have apL:min n m=m:=Nat.min_eq_right wz;refine il (by rw[aw];simp) (v:=.int .i64 m) (w':=w.setRow g (bo aK off bV).toArray) ?_ ⟨_,.val (.int .i64 m),I,_,rfl,rfl,?_,k,rfl⟩
 ·have eV:(Builtin.copy_ #[t,t] o.type #[.slice (some ⟨g,off,none⟩) n c,.slice sa m c']).run X.P w=.ok (.int .i64 m) (w.setRow g (bo aK off bV).toArray):=by rw[<-fb]at aJ;simp[Builtin.copy_,run_underlying hu,Builtin.lenOf,sizeOf,typeInfo,hi,aJ,dE,bo,goInt,xl,apJ,apK,apL]
  unfold execOp;simp only[aw,resolve,invoke,builtin,cm,c9,b3,sW,cY,kR,ex,mM,eV]
 ·exact a5.vb a1
end
open Go Go.Proofs
def kD(b:Nat)(s:List Bool):aB:=⟨b,.cells (s.map Value.bool).toArray 129 (0,0)⟩
def aco{s:List Bool}(a1:kD b s∈M)(an:j<s.length):cr I M ((⟨b,0,none⟩:Addr).add (j*1)) 1 [.bool (s.getD j false)]:=by rw[dL (⟨b,0,none⟩:Addr) rfl,c0,fP];refine⟨rfl,_,_,_,.inr ⟨_,a1,rfl,rfl⟩,?_,rfl⟩;simp only;rw[eE (by simpa using an),nt,mK,lq,cC,eb an];rfl
def H3{s:List Bool}(a1:kD b s∈M)(aq:s.length=n):cr I M (⟨b,0,none⟩:Addr) n (s.map Value.bool):=by refine⟨rfl,_,_,_,.inr ⟨_,a1,rfl,rfl⟩,?_,by simpa using aq⟩;simp only[sX];exact eW (by simp[aq])
def Sh{s:List Bool}(an:j<s.length)(v:Bool):(⟨b,.cells (bo (s.map Value.bool) j [.bool v]).toArray 129 (0,0)⟩:aB)=kD b (s.set j v):=by unfold kD;rw[FD s j an v]
def apM{g:Nat}{L:List aQ}{i:Nat}(ej:aK.length=c*3)(ed:n<=c)(fJ:c<=maxLen)(gI:aK.take (n*3)=L.flatMap aQ.cells)(bQ:L.length=n)(hi:i<n){zs:List Value}(vF:zs.length=3) :
  a'.ok ⟨some g,n-1,c,bo (bo aK (i*3) ((L.drop (i+1)).flatMap aQ.cells)) ((n-1)*3) zs⟩ 3 ((L.eraseIdx i).flatMap aQ.cells):=by
 have mg:((L.drop (i+1)).flatMap aQ.cells).length=(n-(i+1))*3:=by rw[fQ _ 3 aQ.cD,pb];omega
 have eA:(bo aK (i*3) ((L.drop (i+1)).flatMap aQ.cells)).length=aK.length:=by unfold bo;rw[cI,cI,hh,pb,mg];omega
 refine⟨?_,(λh=>by cases h),λdv lI=>?_⟩
 ·rw[fQ _ 3 aQ.cD,List.length_eraseIdx,cn (by omega)];simp only;omega
 ·cases lI;refine⟨?_,by simp only;omega,fJ,?_⟩
  ·simp only;rw[<-ej,<-eA];unfold bo;simp only[cI,hh,pb];rw[eA]at *;omega
  ·simp only;have ab:∀ (l:List Value) (k:Nat) (v:List Value),k<=l.length->(bo l k v).take k=l.take k:=λl k v h=>by unfold bo;rw[fq,CB (by rw[hh];omega),rU,Nat.min_self]
   rw[ab _ _ _ (by rw[eA];omega)];have ag:((L.take i).flatMap aQ.cells).length=i*3:=by rw[fQ _ 3 aQ.cD,CP (by omega)]
   have aW:aK.take (i*3)=(L.take i).flatMap aQ.cells:=by
    have:aK.take (i*3)=(aK.take (n*3)).take (i*3):=by rw[rU,rI (by omega)]
    have az:L.flatMap aQ.cells=(L.take i).flatMap aQ.cells++(L.drop i).flatMap aQ.cells:=by rw[<-lS,sV]
    rw[this,gI,az,<-ag,Ax]
   unfold bo;rw[aW,CB (by rw[cI,ag,mg];omega),eW (by rw[cI,ag,mg];omega),<-lS,List.eraseIdx_eq_take_drop_succ]
def sy(s:List Bool)(L:List aQ)(k:Nat):List aQ:=L.take k++et (s.drop k) (L.drop k)
def apN(s:List Bool)(L:List aQ)(h:L.length=n):sy s L n=L:=by
 unfold sy;rw[eW (by omega),qC (l:=L) (by omega)];cases s.drop n<;>simp[et]
def apO(s:List Bool)(L:List aQ):sy s L 0=et s L:=rfl
def apP(s:List Bool)(L:List aQ)(ap:j<s.length)(an:j<L.length):sy s L j=if s.getD j false then sy s L (j+1)else(sy s L (j+1)).eraseIdx j:=by
 have az:s.drop j=s[j]::s.drop (j+1):=eE ap;have aE:L.drop j=L[j]::L.drop (j+1):=eE an;have bz:L.take (j+1)=L.take j++[L[j]]:=gf an;have cT:s.getD j false=s[j]:=by rw[cC,eb ap];rfl
 have av:(L.take j).length=j:=by rw[hh];omega
 have fT:∀ (A K:List aQ) (x:aQ),A.length=j->(A++x::K).eraseIdx j=A++K:=λA K x h=>by rw[List.eraseIdx_append_of_length_le (by omega),h,pD];rfl
 have hD:L.take (j+1)++et (s.drop (j+1)) (L.drop (j+1))=L.take j++L[j]::et (s.drop (j+1)) (L.drop (j+1)):=by rw[bz,fq];rfl
 unfold sy;rw[hD,fT _ _ _ av,az,aE,et,cT];cases s[j]with
 |true=>rfl| false=>rfl
def apQ(s:List Bool)(L:List aQ){k:Nat}(af:k<=L.length):k<=(sy s L k).length:=by unfold sy;rw[cI,hh];omega
def apR(s:List Bool)(L:List aQ)(k:Nat):(sy s L k).length<=L.length:=by unfold sy;have:=(B3 (s.drop k) (L.drop k)).length_le;rw[cI,hh];rw[pb]at this;omega
def apS(au:g.ok I):Spec Tryz.prog 114 [g.val] I M0 λv I' M'=>I'=I/\∃ (os:a') (L:List aQ) (M1:List aB),v=.agg #[os.val]/\os.n=g.n/\os.ok 3 (L.flatMap aQ.cells)/\M'=os.aP 58++(M1++M0)/\L.map aQ.ba=g.ds.map aQ.ba/\∀ d∈L,z5 M1 d:=by refine Spec.nT (Spec.frame (apg au)) ?_;rintro v J M⟨M',rfl,-,-,rfl,os,L,M1,rfl,aa,ab,rfl,ag,aW⟩;exact⟨rfl,os,L,M1,rfl,aa,ab,by rw[fq],ag,aW⟩
structure apT(s:List Bool)(L:List aQ)(n:Nat)(x:Nat×a'):Prop where
 k:x.1<=n
 ok:x.2.ok 3 ((sy s L x.1).flatMap aQ.cells)
def acp(au:g.ok I){s:List Bool}(ap:s.length=64)(aq:g.n<=64):Spec Tryz.prog 71 [g.val,.agg (s.map Value.bool).toArray] I [] λv I' M'=>I'=I/\∃ h:bJ,v=h.val/\z6 M' h/\h.ba=(fF (et (s.take g.n) g.ds)).ba:=by
 refine bN [3] aV Tryz.func71 rfl rfl rfl ?_;intro B ar;have eH:=au.n;have hz:=au.a8.cap;refine b8.mk λb ai ph=>?_;refine a9.whole _ (apS (M0:=[kD b s]) au) ?_;rintro v J N -⟨bM,os0,L,M1,rfl,l3,pB,dr,dz,e5⟩;subst J;subst N;have abW:L.length=g.ds.length:=by simpa using congrArg List.length dz
 refine bd.mk ((g.n:Int)-1) (by rw[l3];exact gK rfl (by omega)) ?_;refine c4.inv (ι:=Nat×a') (λx=>{ bu:=[(3,.val (.pointer (some ⟨b,0,none⟩))),(4,.ref 4 0),(5,.ref 5 0),(6,.val (.int .i64 ((x.1:Int)-1)))],cl:=[(4,[.slice none 0 0]),(5,[x.2.val])],cS:=I,db:=x.2.aP 58++(M1++[kD b s]) }) (λx=>apT s L g.n x) (λx=>x.1) ?_ ?_
 ·exact⟨(g.n,os0),⟨cj _,by rw[apN s L (by omega)];exact pB⟩,.refl,ey,.cons rfl (.cons rfl (.nil))⟩
 rintro⟨k,os⟩⟨af,ca⟩;simp only at af ca;refine aU.mk (λh=>?_) (λh=>?_)
 rotate_left
 ·have e3:k=0:=by have:¬ (0:Int)<=(k:Int)-1:=dj h;omega
  subst e3;rw[apO]at ca;have cw:=(B3 s L).length_le;have bQ:=ca.len;rw[fQ _ 3 aQ.cD]at bQ;refine⟨_,_,.refl,rfl,⟨et s L,os.a.map λg=>⟨g,0,none⟩,os.n,os.c⟩,rfl,⟨(sv.R8 ca (by omega)).mono λx ae=>kF _ ae,λd ah=>(e5 d ((B3 s L).subset ah)).mono λx ae=>pS _ (kF _ ae)⟩,?_⟩;have az:et s g.ds=et (s.take g.n) g.ds:=by
   have:∀ (s:List Bool) (l:List aQ),et s l=et (s.take l.length) l:=by
    intro s
    induction s with
    |nil=>intro l;simp
    |cons c s a7=>intro l;cases l with
     |nil=>rfl| cons x l=>simp only[ea,nt,et,a7 l]
   rw[this s g.ds,eH]
  have aE:(et s L).map aQ.ba=(et (s.take g.n) g.ds).map aQ.ba:=by rw[<-EG,dz,EG,az]
  have bz:=congrArg List.length aE;rw[c8,c8]at bz;unfold bJ.ba fF;simp only;rw[aE,<-bz];congr 1;omega
 obtain⟨j,rfl⟩:∃ j,k=j+1:=⟨k-1,by have:(0:Int)<=(k:Int)-1:=c1 h;omega⟩;have an:j<g.n:=af;have B4:j<s.length:=by omega
 have acq:((j+1:Nat):Int)-1=(j:Int):=by omega
 have t':=apP s L B4 (show j<L.length by omega);refine dV.mk j acq (by omega) ?_;refine aI.mk _ (aco (b:=b) (s:=s) (by simp) B4) ?_;refine aU.mk (λaA=>?_) (λaA=>?_)
 ·have aA:s.getD j false=true:=aA;rw[cn aA]at t';refine bd.mk ((j:Int)-1) (gK (by omega) (by omega)) ?_;exact⟨(j,os),⟨⟨by simp only;omega,by simp only;rw[t'];exact ca⟩,by simp only;omega⟩,.refl,ey,.cons rfl (.cons rfl (.nil))⟩
 have aA:s.getD j false=false:=aA;rw[cb (by rw[aA];simp)]at t';have oe:=apQ s L (k:=j+1) (by omega);have apU:=apR s L (j+1);generalize sy s L (j+1)=sh at ca t' oe apU;have bQ:=ca.len;rw[fQ _ 3 aQ.cD]at bQ;obtain⟨a,n,c,aK⟩:=os;cases a with
 |none=>have:=(ca.nil rfl).1;simp only at this bQ;omega| some q=>
 obtain⟨ej,ed,fJ,gI⟩:=ca.cap q rfl;simp only at ej ed fJ gI bQ;have bQ:sh.length=n:=by omega
 have nE:j<n:=by omega
 have xp:(⟨q,.cells aK.toArray 58 (0,0)⟩:aB)∈((⟨some q,n,c,aK⟩:a').aP 58++(M1++[kD b s])):=.head _;have mg:((sh.drop (j+1)).flatMap aQ.cells).length=(n-(j+1))*3:=by rw[fQ _ 3 aQ.cD,pb];omega
 refine c5.draw aV rfl rfl rfl ?_;refine ik.mk j n (by exact acq) rfl (by omega) (cj _) ?_;refine bd.mk ((j+1:Nat):Int) (gK (by omega) (by omega)) ?_;refine ik.mk (j+1) n rfl rfl (by omega) (cj _) ?_;have apV:¬ c=j:=by omega
 have apW:(Value.slice (if c=j then some ⟨q,0,none⟩else(some (⟨q,0,none⟩:Addr)).map (·.add (j*3))) (n-j) (c-j))=.slice (some ⟨q,j*3,none⟩) (n-j) (c-j):=by rw[cb apV,ka,dL (⟨q,0,none⟩:Addr) rfl,c0]
 have apX:(Value.slice (if c=j+1 then some ⟨q,0,none⟩else(some (⟨q,0,none⟩:Addr)).map (·.add ((j+1)*3))) (n-(j+1)) (c-(j+1)))=.slice (some ⟨q,if c=j+1 then 0 else(j+1)*3,none⟩) (n-(j+1)) (c-(j+1)):=by
  by_cases aA:c=j+1;·rw[cn aA,cn aA]
  ·rw[cb aA,cb aA,ka,dL (⟨q,0,none⟩:Addr) rfl,c0]
 intro G iu;refine sP.apI aV rfl (e:=58) rfl rfl rfl (g:=q) (off:=j*3) (n:=n-j) (c:=c-j) (m:=n-(j+1)) (aK:=aK) (acn (iu _ (by simp[Op.operands,Call.operands])) (congrArg dn.val apW)) (by omega) (by rw[ej];show j*3+(n-(j+1))*3<=c*3;omega) (acn (iu _ (by simp[Op.operands,Call.operands])) (congrArg dn.val apX)) (bV:=(sh.drop (j+1)).flatMap aQ.cells) mg ?_ (R5 aQ.one _) [] (M1++[kD b s]) rfl ?_
 ·intro jV;refine⟨_,rfl,rfl,aK.toArray,58,(0,0),.inr ⟨_,xp,rfl,rfl⟩,?_,mg⟩;rw[cb (by omega),ao6 _ 3 aQ.cD,<-gI,xj];congr 1;show(n-(j+1))*3=n*3-(j+1)*3;omega
 refine bd.mk ((n-1:Nat):Int) (gK (by omega) (by omega)) ?_;refine bi.mk ⟨q,0,none⟩ (n-1) rfl rfl (show n-1<n by omega) ?_;have eA:(bo aK (j*3) ((sh.drop (j+1)).flatMap aQ.cells)).length=aK.length:=by unfold bo;rw[cI,cI,hh,pb,mg];omega
 refine cp.mk [] (M1++[kD b s]) (bo aK (j*3) ((sh.drop (j+1)).flatMap aQ.cells)).toArray 58 ?_ ?_ ?_ rfl ?_
 ·rw[dL (⟨q,0,none⟩:Addr) rfl]
 ·rw[dL (⟨q,0,none⟩:Addr) rfl]
 ·rw[dL (⟨q,0,none⟩:Addr) rfl];show 0+(n-1)*3+3<=(bo aK (j*3) ((sh.drop (j+1)).flatMap aQ.cells)).toArray.size;rw[mE,eA,ej];omega
 rw[dL (⟨q,0,none⟩:Addr) rfl];refine ik.mk 0 (n-1) rfl rfl (bw _) (show n-1<=c by omega) ?_;refine bd.mk ((j:Int)-1) (gK (by omega) (by omega)) ?_;refine⟨(j,⟨some q,n-1,c,_⟩),⟨⟨by simp only;omega,?_⟩,by simp only;omega⟩,.refl,ey,.cons rfl (.cons rfl (.nil))⟩;simp only;rw[t',c0];exact apM (g:=q) ej ed fJ gI bQ nE (zs:=[.string ⟨#[]⟩,.slice none 0 0,.int .i64 0]) rfl
structure ng where
 p:Int
 w:Int
 r:Int
 pa:Option Addr
 pn:Nat
 pc:Nat
 pl:List Int
 aO:Int
def ng.cells(s:ng):List Value:=[.int .u8 s.p,.int .u8 s.w,.int .i64 s.r,.slice s.pa s.pn s.pc,.int .i64 s.aO]
def ng.val(s:ng):Value:=.agg #[.int .u8 s.p,.int .u8 s.w,.int .i64 s.r,.slice s.pa s.pn s.pc,.int .i64 s.aO]
def ng.cD(s:ng):s.cells.length=5:=rfl
structure z8(I:aZ)(x:jn):Prop where
 a8:eB I x.a x.n x.c 1 0 (x.l.map (.int .i64 ·))
 val:∀ k∈x.l,iT k
def z8.mono{I':aZ}{x:jn}(h:z8 I x)(bA:∀ b o,I b=some o->I' b=some o):z8 I' x:=⟨h.a8.mono bA,h.val⟩
section
end
def nX:Option Int->ng
 |none=>⟨0,0,0,none,0,0,[],0⟩| some r=>⟨7,1,r,none,0,0,[],0⟩
def L1(bp:e4 I ax)(au:g.ok I)(jc:∀ d∈g.ds,mB d.t):Spec Tryz.prog 15 [g.val] I M0 λv I' M'=>(∀ b o,I b=some o->I' b=some o)/\M'=M0/\∃ r:Int×Int,v=.int .i64 r.2/\tG ax g r:=by refine Spec.nT (Spec.frame (aoF bp au jc)) ?_;rintro v J M⟨M',rfl,-,aa,-,rfl,r,rfl,ab⟩;exact⟨aa,rfl,r,rfl,ab⟩
def acr(bp:e4 I ax)(au:g.ok I)(aq:g.n<=1099511627776):Spec Tryz.prog 69 [g.val] I M0 λv I' M'=>(∀ b o,I b=some o->I' b=some o)/\M'=M0/\v=.tuple #[(nX (mr ax g).head?).val,.bool (mr ax g).head?.isSome]:=by
 refine bN [] aV Tryz.func69 rfl rfl rfl ?_;intro B ar;refine a9.mk [] M0 _ (.refl _) (af3 bp au aq) ?_;rintro v cU N -⟨bO,x,rfl,ae,fD,rfl⟩;have jK:=ae.n;cases av:mr ax g with
 |nil=>
  rw[av]at fD;rw[fD]at jK;refine aU.mk (λ_=>?_) (λh=>?_);·exact⟨_,_,.refl,bO,rfl,rfl⟩
  ·have h:¬ (x.n:Int)=0:=dj h;simp only[gV]at jK;omega
 |cons u l=>
  rw[av]at fD;refine aU.mk (λh=>?_) (λ_=>?_);·have h:(x.n:Int)=0:=c1 h;rw[fD]at jK;simp only[ea]at jK;omega
  ·have hY:0<x.n:=by rw[<-jK,fD];simp
   have apY:0<x.l.length:=by rw[fD];simp
   obtain⟨ad,bF,bk⟩:=ae.a8.one hY apY;have e:x.l[0]=u:=by simp[fD]
   rw[e]at bk;refine bi.mk ad 0 bF rfl hY ?_;refine aI.mk _ (bk _) ?_;exact⟨_,_,.refl,bO,rfl,rfl⟩
def L2(ax:List Int)(g:bJ)(o:Option Int):Prop:=∃ r,tG ax g r/\o=if r.2=0 then(mr ax g).head? else none
def apZ(bp:e4 I ax)(au:g.ok I)(aq:g.n<=1099511627776)(jc:∀ d∈g.ds,mB d.t):Spec Tryz.prog 68 [g.val] I M0 λv I' M'=>(∀ b o,I b=some o->I' b=some o)/\M'=M0/\∃ o,L2 ax g o/\v=.tuple #[(nX o).val,.bool o.isSome]:=by
 refine bN [] aV Tryz.func68 rfl rfl rfl ?_;intro B ar;refine a9.whole _ (L1 bp au jc) ?_;rintro v cU N -⟨bO,dr,r,rfl,ak⟩;subst N;by_cases h:r.2=0
 ·refine aU.mk (λaX=>absurd aX (by simp[h])) (λ_=>?_);refine a9.whole _ (acr (bp.mono bO) (au.mono bO) aq) ?_;rintro v ev N -⟨eM,dr,rfl⟩;subst N;exact⟨_,_,.refl,λb o h=>eM _ _ (bO _ _ h),rfl,_,⟨r,ak,(cn h).symm⟩,rfl⟩
 ·refine aU.mk (λ_=>?_) (λaX=>absurd aX (by simp[h]));exact⟨_,_,.refl,bO,rfl,none,⟨r,ak,(cb h).symm⟩,rfl⟩
def B5:Option Int->List ng
 |none=>[]| some r=>[nX (some r)]
def acs(bp:e4 I ax)(au:g.ok I)(aq:g.n<=1099511627776)(jc:∀ d∈g.ds,mB d.t):Spec Tryz.prog 23 [g.val] I M0 λv I' M'=>(∀ b o,I b=some o->I' b=some o)/\∃ (o:Option Int) (os:a'),L2 ax g o/\os.ok 5 ((B5 o).flatMap ng.cells)/\v=os.val/\M'=os.aP 72++M0:=by
 refine bN [] aV Tryz.func23 rfl rfl rfl ?_;intro B ar;refine a9.whole _ (apZ bp au aq jc) ?_;rintro v cU N -⟨bO,dr,o,aw,rfl⟩;subst N;cases o with
 |none=>refine aU.mk (λ_=>?_) (λh=>by cases h);exact⟨_,_,.refl,bO,none,lu,aw,mT 5,rfl,rfl⟩| some r=>refine aU.mk (λh=>by cases h) (λ_=>?_);refine b8.mk λb ai ph=>?_;exact⟨_,_,.refl,bO,some r,⟨some b,1,1,(nX (some r)).cells⟩,aw,⟨rfl,(λh=>by cases h),λg h=>⟨rfl,cj _,(show(1:Nat)<=maxLen by decide),rfl⟩⟩,rfl,rfl⟩
def B6(s:ng)(o:Option Int):Bool:=o.isSome&&(decide (s.p=7)&&(decide (s.w=1)&&(decide (s.r=o.getD 0)&&(decide (s.pn=0)&&decide (s.aO=0)))))
def H4(ax:List Int)(g:bJ)(s:ng)(r:Int×List aQ):Prop:=∃ x,tG ax g x/\r=if x.2=0 then(if B6 s (mr ax g).head? then(0,et (gw (dC g) 0) g.ds)else(47,[]))else(x.2,[])
def Si(M:List aB):z6 M ⟨[],none,0,0⟩:=⟨⟨rfl,⟨cj _,by decide⟩,.inl rfl⟩,λd ah=>by cases ah⟩
def ap0{k:Nat}(af:k<l.length)(bf:l[k]=(z:Int))(iK:z<64):(eD (l.take k)).set z true=eD (l.take (k+1)):=by
 refine Sg (by rw[lT,ho,ho]) λi hi=>?_;rw[lT,ho]at hi;rw[z7 hi,gf af,cC,mh];by_cases e:z=i
 ·subst e;rw[cn rfl,cn (by rw[ho];exact hi)];simp[bf]
 ·rw[cb e,<-cC,z7 hi,zx];constructor
  ·intro h;exact kF _ h
  ·intro h;rcases dQ.1 h with h | h
   ·exact h
   ·rw[fW,bf]at h;omega
def ap1(aq:g.ds.length=g.n){i:Int}:∀ k∈pC ax g i,∃ z:Nat,k=(z:Int)/\z<g.n:=λk af=>by
 unfold pC at af;cases aA:nH i g.n&&decide (dF ax g=0)with
 |false=>rw[aA]at af;cases af
 |true=>
  rw[aA,bl]at af;simp only[b']at aA;have fK:=aA.1;unfold nH at fK;simp at fK;have av:(dC g).length=g.n:=by simp[dC,aq]
  have:=Vs (wh:=true) (s:=gw (dC g) i.toNat) k af;rw[JK (uu aq) (by omega),av]at this;exact⟨k.toNat,by omega,by omega⟩
def ap2(bp:e4 I ax)(au:g.ok I)(jc:∀ d∈g.ds,mB d.t)(s:ng):Spec Tryz.prog 24 [g.val,s.val] I [] λv I' M'=>(∀ b o,I b=some o->I' b=some o)/\∃ (r:Int×List aQ) (h:bJ),H4 ax g s r/\v=.tuple #[h.val,.int .i64 r.1]/\z6 M' h/\h.ba=(fF r.2).ba:=by
 refine bN [9] aV Tryz.func24 rfl rfl rfl ?_;intro B ar;have eH:=au.n;refine a9.whole _ (L1 bp au jc) ?_;rintro v cU N -⟨bO,dr,x,rfl,ae⟩;subst N;by_cases h:x.2=0
 rotate_left
 ·refine aU.mk (λ_=>?_) (λaX=>absurd aX (by simp[h]));exact⟨_,_,.refl,bO,(x.2,[]),⟨[],none,0,0⟩,⟨x,ae,(cb h).symm⟩,rfl,Si _,rfl⟩
 refine aU.mk (λaX=>absurd aX (by simp[h])) (λ_=>?_);have hm:dF ax g=0:=by
  rcases ae with⟨a,e⟩ | ⟨a,-⟩;·rw[e]at h;exact h
  ·exact a
 have iK:=HR hm;refine a9.whole _ (acr (bp.mono bO) (au.mono bO) (by omega)) ?_;rintro v ev N -⟨eM,dr,rfl⟩;subst N;have yu:∀ b o,I b=some o->ev b=some o:=λb o h=>eM _ _ (bO _ _ h);have dB:B6 s (mr ax g).head?=false->∃ (r:Int×List aQ) (h:bJ),H4 ax g s r/\Value.tuple #[(⟨[],none,0,0⟩:bJ).val,.int .i64 47]=.tuple #[h.val,.int .i64 r.1]/\z6 [] h/\h.ba=(fF r.2).ba:=λaW=>
  ⟨(47,[]),⟨[],none,0,0⟩,⟨x,ae,by rw[cn h,cb (by rw[aW];simp)]⟩,rfl,Si _,rfl⟩
 cases aw:(mr ax g).head? with
 |none=>rw[aw]at dB;refine b4.mk (λh=>by cases h) (λ_=>?_);exact⟨_,_,.refl,yu,dB rfl⟩| some u=>
 rw[aw]at dB;have dB:¬ (s.p=7/\s.w=1/\s.r=u/\s.pn=0/\s.aO=0)->_:=λaW=>dB (by
  cases ai:B6 s (some u)with
  |false=>rfl
  |true=>
   refine absurd ?_ aW;simpa[B6]using ai)
 obtain⟨eY,ap3,Pw,atJ,ap4,atK,atL,sat⟩:=s;simp only at dB;refine b4.mk (λ_=>?_) (λh=>by cases h);by_cases a3:eY=7
 rotate_left
 ·refine b4.mk (λaX=>absurd aX (by simp[nX,a3])) (λ_=>?_);exact⟨_,_,.refl,yu,dB λh=>a3 h.1⟩
 subst a3;refine b4.mk (λ_=>?_) (λaX=>absurd aX (by simp[nX]));by_cases a6:ap3=1
 rotate_left
 ·refine b4.mk (λaX=>absurd aX (by simp[nX,a6])) (λ_=>?_);exact⟨_,_,.refl,yu,dB λh=>a6 h.2.1⟩
 subst a6;refine b4.mk (λ_=>?_) (λaX=>absurd aX (by simp[nX]));by_cases bI:Pw=u
 rotate_left
 ·refine b4.mk (λaX=>absurd aX (by simp[nX,bI])) (λ_=>?_);exact⟨_,_,.refl,yu,dB λh=>bI h.2.2.1⟩
 subst bI;refine b4.mk (λ_=>?_) (λaX=>absurd aX (by simp[nX]));by_cases eQ:ap4=0
 rotate_left
 ·refine b4.mk (λaX=>absurd aX (by simp[nX,eQ])) (λ_=>?_);exact⟨_,_,.refl,yu,dB λh=>eQ h.2.2.2.1⟩
 subst eQ;refine b4.mk (λ_=>?_) (λaX=>absurd aX (by simp[nX]));by_cases j0:sat=0
 rotate_left
 ·refine aU.mk (λ_=>?_) (λaX=>absurd aX (by simp[nX,j0]));exact⟨_,_,.refl,yu,dB λh=>j0 h.2.2.2.2⟩
 subst j0;refine aU.mk (λaX=>absurd aX (by simp[nX])) (λ_=>?_);clear dB;refine b8.mk λb ai ph=>?_;have kY:=bp.mono yu;have jF:=au.mono yu;refine a9.mk [] [kD b (List.replicate 64 false)] _ (.refl _) (af2 kY jF (by omega) 0) ?_;rintro v hK N -⟨hB,y,rfl,aF,s8,rfl⟩;have HD:=aF.n;have ap5:=aF.a8.cap;have H5:=ap1 (ax:=ax) eH (i:=0);rw[<-s8]at H5;refine c4.inv (ι:=Nat) (λk=>{ bu:=[(2,.ref 2 0),(4,.ref 4 0),(9,.val (.pointer (some ⟨b,0,none⟩))),(59,.val y.val),(60,.val (.int .i64 y.n)),(61,.val (.int .i64 k))],cl:=[(2,[.slice g.a g.n g.c]),(4,[.slice none 0 0])],cS:=hK,db:=[kD b (eD (y.l.take k))] }) (λk=>k<=y.n) (λk=>y.n-k) ?_ ?_
 ·exact⟨0,bw _,.refl,kf,.cons rfl (.cons rfl (.nil))⟩
 intro k af;refine aU.mk (λaX=>?_) (λaX=>?_)
 ·have aR:k<y.n:=by have:(k:Int)<(y.n:Int):=c1 aX;omega
  have cw:k<y.l.length:=by omega
  obtain⟨ad,bF,bk⟩:=aF.a8.one aR cw;obtain⟨z,bf,qQ⟩:=H5 _ (cJ cw);have gU:=ap0 cw bf (by omega);rw[bf]at bk;refine bi.mk ad k bF rfl aR ?_;refine aI.mk _ (bk _) ?_;refine dV.mk z rfl (by omega) ?_;refine cp.add [] [] _ 129 rfl (by show 0+z*1+1<=((eD _).map Value.bool).toArray.size;rw[mE,c8,ho];omega) rfl ?_;refine bd.mk _ (cx (i:=k) (by omega)) ?_;refine⟨k+1,⟨aR,by omega⟩,.pH ?_,kf,.cons rfl (.cons rfl (.nil))⟩;rw[<-gU,<-Sh (by rw[ho];omega),c0,fP];rfl
 ·have cP:k=y.n:=by have:¬ (k:Int)<(y.n:Int):=dj aX;omega
  subst cP;rw[eW (by omega)];refine aI.mk _ (H3 (b:=b) (s:=eD y.l) (.head _) (ho _)) ?_;refine a9.mk [] [kD b (eD y.l)] _ (.refl _) (acp (jF.mono hB) (ho _) (by omega)) ?_;rintro v mL N -⟨Sj,aX,rfl,br,Sk⟩;subst mL;refine⟨_,_,.sub (FL _ _) .refl,λb o h=>hB _ _ (yu _ _ h),(0,et (gw (dC g) 0) g.ds),aX,⟨x,ae,?_⟩,rfl,br,?_⟩;·rw[cn h,aw,cn (by simp[B6])]
  ·have iu:y.l=gj true 0 (gw (dC g) 0):=by
    rw[s8];unfold pC;have jV:=RT hm;have:nH 0 g.n=true:=by unfold nH;simp;omega
    rw[this,eN hm];rfl
   have lY:(gw (dC g) 0).length=g.n:=by
    have jV:=RT hm;have av:(dC g).length=g.n:=by simp[dC,eH]
    rw[JK (uu eH) (by omega),av]
   rw[Sk,iu];have:=apD (s:=gw (dC g) 0) (by omega);rw[lY]at this;rw[this]
def acu{F:Nat->ao->ao->Option Bool}{E:Env}{e:Nat}{aH:dU}(he:E e=some aH)(ap:aH.size=1)(aC:aH.bE.agg=false)(bU:∀ a b,F e (.b a) (.b b)=some (a == b)):∀ (l m:List Bool) (st uV:List ao),l.length=m.length->st.length=uV.length -> we F E (st++l.map ao.b) (uV++m.map ao.b) ((List.range' st.length l.length).map λi=>(e,i*aH.size))=some (decide (l=m))
 |[],[],st,uV,_,_=>rfl| [],_::_,_,_,h,_=>by simp at h
 |_::_,[],_,_,h,_=>by simp at h
 |a::l,b::m,st,uV,h,aD=>by
  have a7:=acu he ap aC bU l m (st++[ao.b a]) (uV++[ao.b b]) (by simpa using h) (by simpa using aD);rw[cI,x0,fq,fq,AX,AX]at a7;rw[ea,Io,cY,cY,cY,we,Lq he ap aC,uN,aD,Lq he ap aC,uN,<-aD];rw[bU,uN,js];by_cases az:a=b;·subst az;simp only[Ce,pU];rw[a7];simp
  ·have:(a == b)=false:=by simpa using az
   simp[this,az]
def ap6{p q:List Bool}(aD:p.length=64)(aM:q.length=64){V:Value->Prop}{other:Prop}(h:V (.bool (!decide (p=q)))) :
  e' Tryz.prog .neq 129 x y (.val (.agg (p.map Value.bool).toArray)) (.val (.agg (q.map Value.bool).toArray)) V other:=by
 have aj:∀ l:List Bool,bG (λ_=>none) (l.map ao.b) (l.map Value.bool):=λl=>by
  induction l with
  |nil=>exact .nil| cons a l a7=>exact .cons (by simp only[aT]) a7
 refine K1 (X:=⟨Tryz.prog,hL,[],0,0,default,λ_=>none,[],none⟩) (D:=λ_=>none) (v:=.b (!decide (p=q))) aV ?_ (aj p) (aj q) (λu hu=>by simp only[aT]at hu;rw[hu];exact h);show x7 Tryz.prog hL .neq 129 _ _=_;obtain⟨i1,aa,fs⟩:∃ i,hL 129=some i/\i.bE=.array 64 4:=⟨_,rfl,rfl⟩;obtain⟨i2,ab,kJ,HG⟩:∃ i,hL 4=some i/\i.bE=.bool/\i.size=1:=⟨_,rfl,rfl,rfl⟩;have bU:∀ a b,m8 Tryz.prog hL 7 4 (.b a) (.b b)=some (a == b):=λa b=>by simp only[m8,ab,uN,kJ]
 have af:=acu (F:=m8 Tryz.prog hL 7) ab HG (by rw[kJ];rfl) bU p q [] [] (by omega) rfl;unfold x7;rw[m8];simp only[aa,uN,fs,ab];rw[jZ,jZ,gV,aD]at af;rw[Ac,af,show Tryz.prog.eqGuardType Tryz.prog.depth 129=false by kernel_rfl];rfl
def nY(n:Nat)(k:Int):Bool:=decide (0<=k)&&decide (k<(n:Int))
def lC(ax:List Int)(g:bJ)(l:List Int):Bool:=decide (dF ax g=0)&&(decide (l≠[])&&(l.all (nY g.n)&&(decide l.Nodup&&l.all λi=>(j4 ax g i).all λj=>decide (j∈l))))
def B7(ax:List Int)(g:bJ)(l:List Int):List aQ:=if lC ax g l then et ((eD l).take g.n) g.ds else []
def acv(iK:z<64):(eD l).set z true=eD (l++[(z:Int)]):=by
 refine Sg (by rw[lT,ho,ho]) λi hi=>?_;rw[lT,ho]at hi;rw[z7 hi,cC,mh];by_cases e:z=i
 ·subst e;rw[cn rfl,cn (by rw[ho];exact hi)];simp
 ·rw[cb e,<-cC,z7 hi,zx];constructor
  ·intro h;exact kF _ h
  ·intro h;rcases dQ.1 h with h | h
   ·exact h
   ·rw[fW]at h;omega
def ap7{m:List Int}(av:∀ k∈l,nY 64 k=true)(hm:∀ k∈m,nY 64 k=true):eD l=eD m ↔ ∀ k,k∈l ↔ k∈m:=by
 constructor
 ·intro h k;have:∀ l m:List Int,(∀ k∈l,nY 64 k=true)->eD l=eD m->k∈l->k∈m:=λl m av h af=>by have aa:=av k af;unfold nY at aa;simp only[b',eU]at aa;have ab:=z7 (l:=l) (i:=k.toNat) (by omega);rw[h,z7 (by omega),zx,show((k.toNat:Nat):Int)=k by omega]at ab;exact ab.2 af
  exact⟨this l m av h,this m l hm h.symm⟩
 ·intro h;unfold eD;refine rT λi _=>?_;rw[zx];exact h _
def acw(aq:g.ds.length=g.n){i:Int}:∀ k∈j4 ax g i,nY g.n k=true:=λk af=>by
 unfold j4 at af;cases aA:nH i g.n&&decide (dF ax g=0)with
 |false=>rw[aA]at af;cases af
 |true=>
  rw[aA,bl]at af;have av:(dC g).length=g.n:=by simp[dC,aq]
  have:=Sb (uu aq) af;unfold nY;simp;omega
def acx{m:Nat}(h:n<=m){k:Int}(af:nY n k=true):nY m k=true:=by unfold nY at af |-;simp at af |-;omega
def ap8(bp:e4 I ax)(au:g.ok I){x:jn}(ae:z8 I x)(yh:x.n<=1000000):Spec Tryz.prog 109 [g.val,x.val] I [] λv I' M'=>(∀ b o,I b=some o->I' b=some o)/\∃ h:bJ,v=.tuple #[h.val,.bool (lC ax g x.l)]/\z6 M' h/\h.ba=(fF (B7 ax g x.l)).ba:=by
 refine bN [6,9] aV Tryz.func109 rfl rfl rfl ?_;intro B ar;have eH:=au.n;have jK:x.l.length=x.n:=by simpa using ae.a8.len
 refine a9.mk [] [] _ (.refl _) (F4 bp au) ?_;rintro v cU N -⟨rfl,bO,rfl⟩;have dB:∀ {M:List aB},lC ax g x.l=false->∃ h:bJ,Value.tuple #[(⟨[],none,0,0⟩:bJ).val,.bool false]=.tuple #[h.val,.bool (lC ax g x.l)]/\z6 M h/\h.ba=(fF (B7 ax g x.l)).ba:=λh=>
  ⟨⟨[],none,0,0⟩,by rw[h],Si _,by rw[B7,h];rfl⟩
 by_cases hm:dF ax g=0
 rotate_left
 ·refine b4.mk (λaX=>absurd aX (by simp[hm])) (λ_=>?_);exact⟨_,_,.refl,bO,dB (by rw[lC,de hm];rfl)⟩
 refine b4.mk (λ_=>?_) (λaX=>absurd aX (by simp[hm]));by_cases fj:x.n=0
 ·refine aU.mk (λ_=>?_) (λaX=>absurd aX (by simp[fj]));have:x.l=[]:=jh (by omega);exact⟨_,_,.refl,bO,dB (by rw[lC,this];simp)⟩
 refine aU.mk (λaX=>absurd aX (by simp[fj])) (λ_=>?_);have iK:=HR hm;have lU:=bp.mono bO;have kr:=au.mono bO;have wx:=ae.mono bO;refine b8.mk λb ai ph=>?_;refine c4.inv (ι:=Nat) (λk=>{ bu:=[(1,.val x.val),(2,.ref 2 0),(4,.ref 4 0),(6,.val (.pointer (some ⟨b,0,none⟩))),(23,.val x.val),(24,.val (.int .i64 x.n)),(25,.val (.int .i64 k))],cl:=[(2,[.slice g.a g.n g.c]),(4,[.slice none 0 0])],cS:=cU,db:=[kD b (eD (x.l.take k))] }) (λk=>k<=x.n/\(x.l.take k).all (nY g.n)=true/\(x.l.take k).Nodup) (λk=>x.n-k) ?_ ?_
 ·exact⟨0,⟨bw _,rfl,.nil⟩,.refl,kg,.cons rfl (.cons rfl (.nil))⟩
 rintro k⟨af,fK,cg⟩;refine aU.mk (λaX=>?_) (λaX=>?_)
 ·have aR:k<x.n:=by have:(k:Int)<(x.n:Int):=c1 aX;omega
  have cw:k<x.l.length:=by omega
  obtain⟨ad,bF,bk⟩:=wx.a8.one aR cw;have kk:=gf cw;have g4:=cJ cw;have j3:∀ y,y∈x.l.take (k+1)->y∈x.l:=λy aF=>CR aF;have zY:x.l.Nodup->(x.l.take (k+1)).Nodup:=λh=>h.sublist (List.take_sublist _ _);generalize x.l[k]=z at bk kk g4;refine bi.mk ad k bF rfl aR ?_;refine aI.mk _ (bk _) ?_;have acy:nY g.n z=false->lC ax g x.l=false:=λh=>by
   cases aA:lC ax g x.l with
   |false=>rfl| true=>simp only[lC,b']at aA;have:=eP.1 aA.2.2.1 z g4;rw[h]at this;cases this
  by_cases zu:z<0;·refine b4.mk (λaX=>absurd aX (by simp[zu])) (λ_=>?_);exact⟨_,_,.sub (fZ _) .refl,bO,dB (acy (by unfold nY;simp;omega))⟩
  refine b4.mk (λ_=>?_) (λaX=>absurd aX (by simp[zu]));by_cases qQ:(g.n:Int)<=z;·refine b4.mk (λaX=>absurd aX (by simp[qQ])) (λ_=>?_);exact⟨_,_,.sub (fZ _) .refl,bO,dB (acy (by unfold nY;simp;omega))⟩
  refine b4.mk (λ_=>?_) (λaX=>absurd aX (by simp[qQ]));obtain⟨y,rfl⟩:=h' (show 0<=z by omega);refine dV.mk y rfl (by omega) ?_;refine aI.mk _ (aco (b:=b) (s:=eD (x.l.take k)) (.head _) (by rw[ho];omega)) ?_;have Cr:=z7 (l:=x.l.take k) (i:=y) (by omega);refine aU.mk (λaX=>?_) (λaX=>?_)
  ·have aX:(eD (x.l.take k)).getD y false=true:=aX;rw[Cr]at aX;have aX:=c1 aX;refine⟨_,_,.sub (fZ _) .refl,bO,dB ?_⟩;cases aA:lC ax g x.l with
   |false=>rfl| true=>simp only[lC,b',eU]at aA;have:=zY aA.2.2.2.1;rw[kk,wW]at this;exact absurd rfl (this.2.2 _ aX _ (.head _))
  ·have aX:(eD (x.l.take k)).getD y false=false:=aX;rw[Cr]at aX;have aX:=dj aX;refine dV.mk y rfl (by omega) ?_;refine cp.add [] [] _ 129 rfl (by show 0+y*1+1<=((eD _).map Value.bool).toArray.size;rw[mE,c8,ho];omega) rfl ?_;refine bd.mk _ (cx (i:=k) (by omega)) ?_;refine⟨k+1,⟨⟨aR,?_,?_⟩,by omega⟩,.pH ?_,kg,.cons rfl (.cons rfl (.nil))⟩
   ·rw[kk,FM,fK];simp[nY];omega
   ·rw[kk,wW];refine⟨cg,by simp,λa aC c aA=>?_⟩;rw[fW.1 aA];rintro rfl;exact aX aC
   ·rw[kk,<-acv (by omega),<-Sh (by rw[ho];omega),c0,fP];rfl
 have cP:k=x.n:=by have:¬ (k:Int)<(x.n:Int):=dj aX;omega
 subst cP;rw[eW (by omega)]at fK cg |-;have fK:=eP.1 fK;refine aI.mk _ (H3 (b:=b) (s:=eD x.l) (.head _) (ho _)) ?_;refine b8.mk λcd gq atM=>?_;have ll:fO ((eD x.l).map Value.bool).toArray.toList=true:=eP.2 λv aj=>by rw[ER]at aj;obtain⟨c,-,rfl⟩:=dA.1 aj;rfl
 refine cp.mk [] [kD b (eD x.l)] _ 129 rfl rfl (by show 0+((eD x.l).map Value.bool).toArray.toList.length<=64;rw[ER,c8,ho];decide) ll ?_;refine c4.inv (ι:=Nat×aZ) (λy=>{ bu:=[(2,.ref 2 0),(4,.ref 4 0),(6,.val (.pointer (some ⟨b,0,none⟩))),(9,.val (.pointer (some ⟨cd,0,none⟩))),(48,.val x.val),(49,.val (.int .i64 x.n)),(50,.val (.int .i64 y.1))],cl:=[(2,[.slice g.a g.n g.c]),(4,[.slice none 0 0])],cS:=y.2,db:=[kD cd (eD (x.l++(x.l.take y.1).flatMap (j4 ax g))),kD b (eD x.l)] }) (λy=>y.1<=x.n/\∀ b o,cU b=some o->y.2 b=some o) (λy=>x.n-y.1) ?_ ?_
 ·refine⟨(0,cU),⟨bw _,λ_ _ h=>h⟩,.pH ?_,kg,.cons rfl (.cons rfl (.nil))⟩;have ch:bo (List.replicate 64 (Value.bool false)) 0 ((eD x.l).map Value.bool)=(eD x.l).map Value.bool:=by unfold bo;rw[mK,jZ,qC (by simp[ho]),eh]
  simp only[mK,NA,eh];show [(⟨cd,.cells (bo (List.replicate 64 (Value.bool false)) 0 ((eD x.l).map Value.bool)).toArray 129 (0,0)⟩:aB),kD b (eD x.l)]=_;rw[ch];rfl
 rintro⟨k,J⟩⟨af,bM⟩;simp only at af bM;have Rt:=lU.mono bM;have ym:=kr.mono bM;refine aU.mk (λaX=>?_) (λaX=>?_)
 ·have aR:k<x.n:=by have:(k:Int)<(x.n:Int):=c1 aX;omega
  have cw:k<x.l.length:=by omega
  obtain⟨ad,bF,bk⟩:=(wx.mono bM).a8.one aR cw;have kk:=gf cw;generalize x.l[k]=z at bk kk;refine bi.mk ad k bF rfl aR ?_;refine aI.mk _ (bk _) ?_;refine a9.mk [] [kD cd (eD (x.l++(x.l.take k).flatMap (j4 ax g))),kD b (eD x.l)] _ (.refl _) (af1 Rt ym (by omega) z) ?_;rintro v hF N -⟨jy,y,rfl,aF,s8,rfl⟩;have HD:=aF.n;have ap5:=aF.a8.cap;have H5:=acw (ax:=ax) eH (i:=z);rw[<-s8]at H5;refine c4.inv (ι:=Nat) (λm=>{ bu:=[(2,.ref 2 0),(4,.ref 4 0),(6,.val (.pointer (some ⟨b,0,none⟩))),(9,.val (.pointer (some ⟨cd,0,none⟩))),(48,.val x.val),(49,.val (.int .i64 x.n)),(50,.val (.int .i64 k)),(56,.val y.val),(57,.val (.int .i64 y.n)),(58,.val (.int .i64 m))],cl:=[(2,[.slice g.a g.n g.c]),(4,[.slice none 0 0])],cS:=hF,db:=[kD cd (eD (x.l++((x.l.take k).flatMap (j4 ax g)++y.l.take m))),kD b (eD x.l)] }) (λm=>m<=y.n) (λm=>y.n-m) ?_ ?_;·refine⟨0,bw _,.pH ?_,Th,.cons rfl (.cons rfl (.nil))⟩;simp only[mK,eh];rfl
  intro m xo;refine aU.mk (λaX=>?_) (λaX=>?_)
  ·have Sl:m<y.n:=by have:(m:Int)<(y.n:Int):=c1 aX;omega
   have iV:m<y.l.length:=by omega
   obtain⟨A2,BW,tI⟩:=aF.a8.one Sl iV;have CH:=gf iV;have L3:=H5 _ (cJ iV);generalize y.l[m]=w at tI CH L3;unfold nY at L3;simp only[b',eU]at L3;obtain⟨u,rfl⟩:=h' L3.1;refine bi.mk A2 m BW rfl Sl ?_;refine aI.mk _ (tI _) ?_;refine dV.mk u rfl (by omega) ?_;refine cp.add [] [kD b (eD x.l)] _ 129 rfl (by show 0+u*1+1<=((eD _).map Value.bool).toArray.size;rw[mE,c8,ho];omega) rfl ?_;refine bd.mk _ (cx (i:=m) (by omega)) ?_;refine⟨m+1,⟨Sl,by omega⟩,.pH ?_,Th,.cons rfl (.cons rfl (.nil))⟩;have e:eD (x.l++((x.l.take k).flatMap (j4 ax g)++(y.l.take m++[(u:Int)])))=(eD (x.l++((x.l.take k).flatMap (j4 ax g)++y.l.take m))).set u true:=by rw[acv (by omega)];congr 1;simp
   rw[CH];rw[e,<-Sh (by rw[ho];omega),c0,fP];rfl
  ·have cP:m=y.n:=by have:¬ (m:Int)<(y.n:Int):=dj aX;omega
   subst cP;refine bd.mk _ (cx (i:=k) (by omega)) ?_;refine⟨(k+1,hF),⟨⟨aR,λc o h=>jy _ _ (bM _ _ h)⟩,by simp only;omega⟩,.pH ?_,kg,.cons rfl (.cons rfl (.nil))⟩;simp only;rw[kk,lS,eW (l:=y.l) (by omega),s8];simp
 have cP:k=x.n:=by have:¬ (k:Int)<(x.n:Int):=dj aX;omega
 subst cP;rw[eW (by omega)];refine aI.mk _ (H3 (b:=cd) (s:=eD (x.l++x.l.flatMap (j4 ax g))) (.head _) (ho _)) ?_;refine aI.mk _ (H3 (b:=b) (s:=eD x.l) (.tail _ (.head _)) (ho _)) ?_;refine ap6 (ho _) (ho _) ?_;have acz:∀ y∈x.l,nY 64 y=true:=λy aF=>acx iK (fK y aF);have ap9:∀ y∈x.l++x.l.flatMap (j4 ax g),nY 64 y=true:=λy aF=>by
  rcases dQ.1 aF with aF | aF;·exact acz y aF
  ·obtain⟨z,-,bf⟩:=Ge.1 aF;exact acx iK (acw eH y bf)
 have aqa:eD (x.l++x.l.flatMap (j4 ax g))=eD x.l ↔ (x.l.all λi=>(j4 ax g i).all λj=>decide (j∈x.l))=true:=by
  rw[ap7 ap9 acz];simp only[eP,eU];constructor;·intro h i hi j an;exact(h j).1 (pS _ (Ge.2 ⟨i,hi,an⟩))
  ·intro h y;constructor
   ·intro aF;rcases dQ.1 aF with aF | aF
    ·exact aF
    ·obtain⟨z,bf,HG⟩:=Ge.1 aF;exact h z bf y HG
   ·intro aF;exact kF _ aF
 have Q':x.l≠[]:=λe=>fj (by rw[<-jK,e];rfl);have rS:lC ax g x.l=decide (eD (x.l++x.l.flatMap (j4 ax g))=eD x.l):=by rw[lC,eN hm,eN Q',eP.2 fK,eN cg];simp only[pd];rw[oY,<-aqa,Ry]
 by_cases he:eD (x.l++x.l.flatMap (j4 ax g))=eD x.l
 rotate_left
 ·refine aU.mk (λ_=>?_) (λaX=>absurd aX (by simp[he]));exact⟨_,_,.sub (fZ _) .refl,λc o h=>bM _ _ (bO _ _ h),dB (by rw[rS,de he])⟩
 refine aU.mk (λaX=>absurd aX (by simp[he])) (λ_=>?_);refine aI.mk _ (H3 (b:=b) (s:=eD x.l) (.tail _ (.head _)) (ho _)) ?_;refine a9.mk [] [kD cd (eD (x.l++x.l.flatMap (j4 ax g))),kD b (eD x.l)] _ (.refl _) (acp ym (ho _) (by omega)) ?_;rintro v hF N -⟨jy,aX,rfl,br,Sk⟩;subst hF;refine⟨_,_,.sub (FL _ _) .refl,λc o h=>bM _ _ (bO _ _ h),aX,?_,br,?_⟩
 ·rw[rS,eN he];rfl
 ·rw[Sk,B7,rS,eN he,cn rfl]
def u2(z:Int):List Value:=[.int .i64 z]
def B8:∀ l:List Int,l.flatMap u2=l.map (.int .i64 ·)
 |[]=>rfl| z::l=>by rw[ob,B8 l];rfl
structure aqb(dd:List Int)(I:aZ)(os0:a')(x:Nat×a'×List Int):Prop where
 i:2*x.1<=dd.length+1
 ok:x.2.1.ok 1 (x.2.2.flatMap u2)
 len:x.2.2.length=dd.length
 aO:∀ k,k<dd.length->x.2.2[k]?=if k<x.1\/dd.length<=k+x.1 then dd[dd.length-1-k]? else dd[k]?
 a:x.2.1.a=os0.a
 v:x.2.1.val=os0.val
def aqc{os0:a'}{dd:List Int}(pB:os0.ok 1 (dd.map (.int .i64 ·)))(ai:os0.n<=1099511627776):Spec Tryz.prog 170 [os0.val] I (os0.aP 3++M0) λv I' M'=>I'=I/\∃ cz:a',cz.val=os0.val/\cz.ok 1 (dd.reverse.map (.int .i64 ·))/\M'=cz.aP 3++M0:=by
 refine bN [] aV Tryz.func170 rfl rfl rfl ?_;intro B ar;have Dg:=pB.vM;refine bd.mk ((dd.length:Int)-1) (by show IntKind.i64.wrap ((os0.n:Int)-1)=_;rw[wrap_i64 ⟨by omega,by omega⟩,Dg]) ?_;refine c4.inv (ι:=Nat×a'×List Int) (λx=>{ bu:=[(0,.val os0.val),(2,.val (.int .i64 x.1)),(3,.val (.int .i64 ((dd.length:Int)-1-x.1)))],cl:=[],cS:=I,db:=x.2.1.aP 3++M0 }) (λx=>aqb dd I os0 x) (λx=>dd.length-x.1) ?_ ?_
 ·refine⟨(0,os0,dd),⟨by simp,by rw[B8];exact pB,rfl,λk af=>?_,rfl,rfl⟩,.refl,.cons .refl (.cons .refl (.cons ?_ .nil)),.nil⟩
  ·simp only;rw[cb (by omega)]
  ·simp only[Int.ofNat_zero,Int.sub_zero];exact .refl
 rintro⟨i,os,l⟩⟨hi,ca,bQ,kt,oP,l7⟩;simp only at hi ca bQ kt oP l7;obtain⟨l3,abX⟩:=LW l7;refine aU.mk (λh=>?_) (λh=>?_)
 rotate_left
 ·have cP:¬ (i:Int)<(dd.length:Int)-1-i:=dj h;refine⟨_,_,.refl,rfl,os,l7,?_,rfl⟩;have e:l=dd.reverse:=by
   refine yO λk=>?_;by_cases af:k<dd.length
   ·rw[kt k af,List.getElem?_reverse af];split
    ·rfl
    ·congr 1;omega
   ·rw[oW (by omega),oW (by rw[wL];omega)]
  rw[<-e,<-B8];exact ca
 have aR:(i:Int)<(dd.length:Int)-1-i:=c1 h;obtain⟨j,an⟩:∃ j:Nat,(dd.length:Int)-1-i=(j:Int):=⟨dd.length-1-i,by omega⟩;have fv:i<l.length:=by omega
 have fl:j<l.length:=by omega
 obtain⟨ad,bF,aqd⟩:=a'.ok.row (I:=I) (M:=os.aP 3++M0) (e:=3) (f:=u2) (size:=1) (λ_=>rfl) (by decide) ca (λz bf=>kF _ bf) fl;obtain⟨vo,ys,aqe⟩:=a'.ok.row (I:=I) (M:=os.aP 3++M0) (e:=3) (f:=u2) (size:=1) (λ_=>rfl) (by decide) ca (λz bf=>kF _ bf) fv;obtain rfl:ad=vo:=kV (bF.symm.trans ys);have sw:=bF;rw[oP]at sw;have atN:l.length=os0.n:=by omega
 refine c5.draw aV rfl rfl rfl ?_;refine bi.mk ad j sw an (by omega) ?_;refine aI.mk _ aqd ?_;refine bi.mk ad i sw rfl (by omega) ?_;refine aI.mk _ aqe ?_;refine bi.mk ad i sw rfl (by omega) ?_;refine a'.Kj u2 1 (λ_=>rfl) (e:=3) ca fv l[j] rfl [] M0 rfl bF ?_;intro hn n7 uZ pI gh;refine bi.mk ad j sw an (by omega) ?_;refine a'.Kj u2 1 (λ_=>rfl) (e:=3) gh (show j<(l.set i l[j]).length by rw[lT];exact fl) l[i] rfl [] M0 rfl (by rw[uZ];exact bF) ?_;intro BU xD RN abc xk;refine bd.mk _ (cx (i:=i) (by omega)) ?_;refine bd.mk ((dd.length:Int)-1-((i+1:Nat):Int)) (by rw[wrap_i64 ⟨by omega,by omega⟩];omega) ?_;refine⟨(i+1,BU,(l.set i l[j]).set j l[i]),⟨⟨by simp only;omega,xk,by simp only[lT];exact bQ,λk af=>?_,(RN.trans uZ).trans oP,(xD.trans n7).trans l7⟩,by simp only;omega⟩,.refl,fH,.nil⟩;have acA:=kt i (by omega);have DH:=kt j (by omega);rw[cb (by omega),eb fv]at acA;rw[cb (by omega),eb fl]at DH;simp only;rw[mh,mh,lT];by_cases az:j=k
 ·subst az;rw[cn rfl,cn fl,cn (by omega),acA];congr 1;omega
 ·rw[cb az];by_cases aE:i=k
  ·subst aE;rw[cn rfl,cn fv,cn (by omega),DH];congr 1;omega
  ·rw[cb aE,kt k af];by_cases bz:k<i\/dd.length<=k+i
   ·rw[cn bz,cn (by omega)]
   ·rw[cb bz,cb (by omega)]
def aqf(ay:t.ok I)(ak:right t=true)(aq:t.n<=1099511627776)(B1:node<t.n) :
  Spec Tryz.prog 103 [t.val,.int .i64 node] I M0 λv I' M'=>I'=I/\∃ os:a',os.ok 1 ((Dc t.ns node).reverse.map (.int .i64 ·))/\v=os.val/\os.n<=t.n/\valid t.ns.length (Dc t.ns node).reverse/\M'=os.aP 3++M0:=by
 refine bN [] aV Tryz.func103 rfl rfl rfl ?_;intro B ar;have lX:=ay.n;have atO:nJ t.ns node<=t.ns.length:=V0 ak t.ns.length node (by omega) (by omega);refine b8.mk λb1 nx OJ=>?_;refine c4.inv (ι:=a'×List Int×a'×List Int×Nat) (λx=>{ bu:=[(2,.ref 2 0),(5,.val x.2.2.1.val),(6,.val x.1.val)],cl:=[(2,t.cells)],cS:=I,db:=x.2.2.1.aP 3++(x.1.aP 3++M0) }) (agZ t node) (λx=>gX (nJ t.ns) x.2.1) ?_ ?_
 ·refine⟨(⟨some b1,1,1,[.int .i64 node]⟩,[(node:Int)],lu,[],t.ns.length+1),⟨⟨rfl,(λh=>by cases h),λdv lI=>⟨rfl,cj _,by simp[maxLen],rfl⟩⟩,mT 1,λk af=>?_,(λk af=>by cases af),?_,?_,rfl⟩,.refl,fH,.cons rfl (.nil)⟩
  ·simp only[fW]at af;omega
  ·simp[gX]
  ·simp only[gX,cY,kR,oc,List.sum_nil];omega
 rintro⟨todo,Sm,back,gl,f⟩⟨EK,z9,L4,EL,L5,Sn,vI⟩;simp only at EK z9 L4 EL L5 Sn vI;have oe:=z9.vM;have r4:=EK.vM;refine aU.mk (λh=>?_) (λh=>?_)
 ·have atP:0<todo.n:=by have:(0:Int)<(todo.n:Int):=c1 h;omega
  obtain⟨oT,m,rfl⟩:∃ oT m,Sm=oT++[m]:=by
   rcases Fo Sm with aa | ⟨r,p,aa⟩;·subst aa;simp at r4;omega
   ·exact⟨r,p,by simpa using aa⟩
  have hm:=L4 m (by simp);obtain⟨m,rfl⟩:=h' hm.1;have iV:m<t.n:=by omega
  have q2:m<t.ns.length:=by omega
  have atQ:todo.n=oT.length+1:=by simpa using r4
  have acB:=J1 ak q2;rw[Gj]at L5 Sn;have fs:gX (nJ t.ns) [(m:Int)]=nJ t.ns m:=by simp[gX]
  rw[fs,acB]at L5 Sn;have atS:oT.length<=gX (nJ t.ns) oT:=On ak λk af=>L4 k (by simp[af]);have atT:t.ns[m].aL.length<=gX (nJ t.ns) t.ns[m].aL:=On ak λk af=>by have:=mm ak m q2 k af;omega
  have Dn:oT.length+t.ns[m].aL.length<=t.ns.length:=by omega
  obtain⟨ad,bF,bk⟩:=a'.Og (I:=I) (e:=3) (M:=back.aP 3++(todo.aP 3++M0)) EK (λx ae=>by simp[ae]) (j:=oT.length) (by simp);rw[List.getElem_concat_length rfl]at bk;have yq:=EK;rw[e7]at yq;have yq:=a'.pop yq;have he:todo.n-1=oT.length:=by omega
  rw[he]at yq;have aqg:oT.length<=todo.c:=by
   cases L6:todo.a with
   |none=>have:=(EK.nil L6).1;omega| some L7=>have:=(EK.cap L7 L6).2.1;omega
  obtain⟨jm,zc,jE⟩:=ay.a8.row aS.cD iV q2;have ah:=ay.ns _ (cJ q2);have dS:=ah.kn;have A4:=ah.a8.cap;have lQ:=mm ak m q2;refine bd.mk ((oT.length:Nat):Int) (by show IntKind.i64.wrap ((todo.n:Int)-1)=_;rw[wrap_i64 ⟨by omega,by omega⟩];omega) ?_;refine bi.mk ad oT.length bF rfl (show oT.length<todo.n by omega) ?_;refine aI.mk _ bk ?_;refine c5.draw aV rfl rfl rfl ?_;refine bd.mk ((oT.length:Nat):Int) (by show IntKind.i64.wrap ((todo.n:Int)-1)=_;rw[wrap_i64 ⟨by omega,by omega⟩];omega) ?_;refine ik.mk 0 oT.length rfl rfl (bw _) aqg ?_;refine bi.mk jm m zc rfl iV ?_;refine aI.mk _ ((jE _).part (k:=8) (m:=1) (by decide)) ?_;have aqh:∀ M,0<t.ns[m].kn->∃ ad,t.ns[m].hk=some ad/\cr I M ad (t.ns[m].kn*1) (t.ns[m].aL.map (.int .i64 ·)):=λM ar=>ah.a8.HV M ar;refine bn.Ki aV rfl (by simp) (e:=3) rfl rfl rfl ⟨todo.a,oT.length,todo.c,todo.aK⟩ yq rfl (sa:=t.ns[m].hk) (m:=t.ns[m].kn) (c':=t.ns[m].gR) (bV:=t.ns[m].aL.map (.int .i64 ·)) rfl (by rw[c8,dS];show _=t.ns[m].kn*1;omega) (aqh _) (R4 _) (back.aP 3) M0 rfl (by simp only;omega) (by show(oT.length+t.ns[m].kn)*8<=_;omega) ?_;intro acC atU atV pf;rw[<-e7]at pf;refine b8.mk λcd gq NU=>?_;refine bn.uB aV rfl (by simp) (e:=3) rfl rfl rfl back z9 rfl (cs:=[.int .i64 m]) rfl rfl rfl [] (acC.aP 3++M0) rfl (by omega) (by show(back.n+1)*8<=_;omega) ?_;intro O9 atW atX So;have So:O9.ok 1 ((gl++[(m:Int)]).map (.int .i64 ·)):=by rw[e7];exact So
  refine⟨(acC,oT++t.ns[m].aL,O9,gl++[(m:Int)],f-1),⟨⟨pf,So,λk af=>?_,λk af=>?_,?_,?_,?_⟩,?_⟩,.refl,fH,.cons rfl (.nil)⟩
  ·rcases dQ.1 af with af | af
   ·exact L4 k (by simp[af])
   ·have:=lQ k af;omega
  ·rcases dQ.1 af with af | af
   ·exact EL k af
   ·simp only[fW]at af;omega
  ·simp only[Gj,cI,ea,gV];omega
  ·simp only[Gj];omega
  ·obtain⟨f',rfl⟩:∃ f',f=f'+1:=⟨f-1,by omega⟩;rw[vI,agY,qK,tc q2];rfl
  ·simp only;rw[Gj,Gj,fs,acB];omega
 have aqi:Sm=[]:=by have:¬ (0:Int)<(todo.n:Int):=dj h;exact jh (by omega)
 subst aqi;rw[agX]at vI;simp only[gX,kR,List.sum_nil,c0]at L5;refine a9.whole _ (aqc (os0:=back) z9 (by omega)) ?_;rintro v J N -⟨rfl,os,l7,ca,dr⟩;subst N;refine⟨_,os.aP 3++M0,.sub (.append (.refl _) (jY _ _)) .refl,rfl,os,by rw[vI];exact ca,l7.symm,?_,λk af=>EL k (by rw[vI]at af;exact List.mem_reverse.1 af),rfl⟩;have:=(LW l7).1;omega
structure acD(d:aS)(dD:List Int)(y:Nat×a'×List Int):Prop where
 k:y.1<=d.kn
 ok:y.2.1.ok 1 (y.2.2.flatMap u2)
 n:y.2.1.n=d.kn
 eq:y.2.2=(d.aL.take y.1).map (λk=>dD.getD k.toNat 0)++d.aL.drop y.1
def aqj(ay:t.ok I)(ak:right t=true)(aq:t.n<=1099511627776)(B1:node<t.n) :
  Spec Tryz.prog 54 [t.val,.int .i64 node] I [] λv I' M'=>(∀ b o,I b=some o->I' b=some o)/\M'=[]/\∃ cZ:cB,v=cZ.val/\cZ.ok I'/\X4 t node cZ:=by
 refine ME [] aV Tryz.func54 rfl rfl rfl ?_;intro B ar;have lX:=ay.n;have hz:=ay.a8.cap;refine a9.mk [] [] _ (.refl _) (aqf (M0:=[]) ay ak aq B1) ?_;rintro v aqk N -⟨IJ,back,z9,rfl,E8,EL,rfl⟩;subst aqk;obtain⟨nK,tI⟩:∃ nK,(Dc t.ns node).reverse=nK:=⟨_,rfl⟩;rw[tI]at z9 EL;have oe:=z9.vM;refine n1.mk t.n t.n rfl rfl (cj _) (by show 8*t.n<=_;omega) (by omega) ?_;refine b8.mk λbW gJ te=>?_;refine n1.mk 0 back.n rfl rfl (bw _) (by show 96*back.n<=_;omega) (by omega) ?_;refine b8.mk λb7 J9 OI=>?_;have tA:(rowOf [Value.int .i64 0] (t.n*1))=(List.replicate t.n (0:Int)).map (Value.int .i64):=by rw[yS,I2,fP]
 refine c4.IF (ι:=Nat×List Int×a'×List aS×aZ) (λx=>{ bu:=[(2,.ref 2 0),(4,.ref 4 0),(5,.val back.val),(6,.val (.slice (some ⟨bW,0,none⟩) t.n t.n)),(7,.val x.2.2.1.val),(24,.val back.val),(25,.val (.int .i64 back.n)),(26,.val (.int .i64 x.1))],cl:=[(2,t.cells),(4,[.slice none 0 0,.int .i64 0])],cS:=x.2.2.2.2,db:=iy bW x.2.1::(x.2.2.1.aP 83++(back.aP 3++[])) }) (ag0 I t nK) (λx=>nK.length-x.1) ?_ ?_
 ·intro _;refine⟨(0,List.replicate t.n 0,⟨some b7,0,back.n,rowOf [.int .u8 0,.int .u64 0,.int .u64 0,.int .u64 0,.int .u64 0,.string ⟨#[]⟩,.int .i64 0,.int .i64 0,.slice none 0 0] (back.n*9)⟩,[],I),⟨bw _,by simp[lX],⟨rfl,(λh=>by cases h),λdv lI=>⟨by simp[w1,madeCells],bw _,by unfold maxLen;simp only;omega,by simp⟩⟩,rfl,(by rw[lX];rfl),(λd ah=>by cases ah),λ_ _ h=>h,(λc aA=>by have:=List.eq_of_mem_replicate aA;omega),(λd ah=>by cases ah)⟩,.perm (List.Perm.swap _ _ _) (.pH (by rw[tA];simp only[eh];rfl)),rP,.cons rfl (.cons rfl (.nil))⟩
 rintro⟨j,P,out,u3,J⟩⟨an,acE,gy,l3,H6,L8,bM,acF,jc⟩;simp only at an acE gy l3 H6 L8 bM acF jc;have C2:out.n=j:=by have:=gy.len;rw[fQ _ 9 aS.cD,l3]at this;omega
 subst C2;refine aU.mk (λh=>?_) (λh=>?_)
 ·have L9:out.n<nK.length:=by have:(out.n:Int)<(back.n:Int):=c1 h;omega
  have hm:=EL _ (cJ L9);obtain⟨m,L'⟩:=h' hm.1;rw[L']at hm;have iV:m<t.n:=by omega
  have q2:m<t.ns.length:=by omega
  obtain⟨ad,bF,acG⟩:=a'.Og (I:=J) (e:=3) (M:=iy bW P::(out.aP 83++(back.aP 3++[]))) z9 (λx ae=>by simp[ae]) L9;rw[L']at acG;obtain⟨jm,zc,jE⟩:=(ay.a8.mono bM).row aS.cD iV q2;have ah:=(ay.ns _ (cJ q2)).mono bM;have dS:=ah.kn;have A4:=ah.a8.cap;have lQ:=mm ak m q2;have sg:nodeAt t.ns m=t.ns[m]:=tc q2;generalize ft:t.ns[m]=d at ah dS A4 lQ jE sg;have gU:=Ni P m (by omega) (out.n:Int);generalize zq:P.set m (out.n:Int)=dD at gU;have acH:dD.length=t.ns.length:=by rw[<-zq];simpa using acE
  have Ma:∀ c∈dD,0<=c/\c<=nK.length:=λc aA=>by
   rw[<-zq]at aA;rcases List.mem_or_eq_of_mem_set aA with aA | rfl;·exact acF c aA
   ·omega
  refine bi.mk ad out.n bF rfl (show _<back.n by omega) ?_;refine aI.mk _ acG ?_;refine bi.mk ⟨bW,0,none⟩ m rfl rfl iV ?_;refine cp.jj [] (out.aP 83++(back.aP 3++[])) (P.map (Value.int .i64)) 3 rfl (by rw[oA,c8];show 0+m*1+1<=_;omega) rfl (dD.map (Value.int .i64)) (by rw[c0,fP];exact gU) ?_;refine bi.mk jm m zc rfl iV ?_;refine aI.mk _ (jE _) ?_;have ph:(out.n+1)*96<=140737488355328:=by omega
  refine aU.mk (λaa=>?_) (λaa=>?_)
  ·have e3:0<d.kn:=by have:(0:Int)<(d.kn:Int):=c1 aa;omega
   refine n1.mk d.kn d.kn rfl rfl (cj _) (by show 8*d.kn<=_;omega) (by omega) ?_;refine b8.mk λrE aod atY=>?_;have bf:(rowOf [Value.int .i64 0] (d.kn*1)).length=d.kn:=by simp[w1,madeCells]
   have ch:bo (rowOf [Value.int .i64 0] (d.kn*1)) 0 (d.aL.map (.int .i64 ·))=d.aL.map (.int .i64 ·):=by unfold bo;rw[mK,jZ,c0,qC (by rw[bf,c8];omega),eh]
   refine bn.apH aV rfl (by simp) (e:=3) rfl rfl rfl (g:=rE) (n:=d.kn) (c:=d.kn) (aK:=rowOf [Value.int .i64 0] (d.kn*1)) rfl (by rw[bf];show d.kn*1<=_;omega) (sa:=d.hk) (c':=d.gR) rfl (bV:=d.aL.map (.int .i64 ·)) (by rw[c8];show _=d.kn*1;omega) (λar=>ah.a8.HV _ ar) (R4 _) [] (iy bW dD::(out.aP 83++(back.aP 3++[]))) rfl ?_;rw[ch];refine c4.inv (ι:=Nat×a'×List Int) (λy=>{ bu:=[(2,.ref 2 0),(4,.ref 4 0),(5,.val back.val),(6,.val (.slice (some ⟨bW,0,none⟩) t.n t.n)),(7,.val out.val),(8,.val (.int .i64 out.n)),(9,.val (.int .i64 m)),(10,.ref 10 0),(11,.val y.2.1.val),(24,.val back.val),(25,.val (.int .i64 back.n)),(26,.val (.int .i64 out.n)),(52,.val y.2.1.val),(53,.val (.int .i64 d.kn)),(54,.val (.int .i64 y.1))],cl:=[(2,t.cells),(4,[.slice none 0 0,.int .i64 0]),(10,d.cells)],cS:=J,db:=y.2.1.aP 3++(iy bW dD::(out.aP 83++(back.aP 3++[]))) }) (λy=>acD d dD y) (λy=>d.kn-y.1) ?_ ?_;·exact⟨(0,⟨some rE,d.kn,d.kn,d.aL.map (.int .i64 ·)⟩,d.aL),⟨bw _,⟨by rw[B8,c8];simp only;omega,(λh=>by cases h),λdv lI=>⟨by simp only[c8];omega,cj _,by unfold maxLen;simp only;omega,by rw[B8];exact eW (by rw[c8];simp only;omega)⟩⟩,rfl,by simp⟩,.refl,adN,.cons rfl (.cons rfl (.cons rfl (.nil)))⟩
   rintro⟨k,gk,iR⟩⟨af,pA,H7,cw⟩;simp only at af pA H7 cw;have Sp:∀ x∈gk.aP 3,x∈gk.aP 3++(iy bW dD::(out.aP 83++(back.aP 3++[]))):=λx ae=>kF _ ae;have Sq:iy bW dD∈gk.aP 3++(iy bW dD::(out.aP 83++(back.aP 3++[]))):=by simp
   have OA:iR.length=d.aL.length:=by rw[cw,cI,c8,hh,pb];omega
   refine aU.mk (λab=>?_) (λab=>?_)
   ·have hc:k<d.kn:=by have:(k:Int)<(d.kn:Int):=c1 ab;omega
    have o1:k<d.aL.length:=by omega
    have B9:k<iR.length:=by omega
    have aj:=lQ _ (cJ o1);have H8:d.aL[k].toNat<dD.length:=by omega
    have Sr:dD.getD d.aL[k].toNat 0=dD[d.aL[k].toNat]:=by simp[cC,H8]
    have Ss:iR[k]=d.aL[k]:=by
     have ag:iR[k]?=d.aL[k]?:=by rw[cw,o9 (by rw[c8,hh];omega),c8,hh,rI (by omega),pD,nZ,nj]
     rw[eb B9,eb o1]at ag;exact kV ag
    obtain⟨fR,fS,e2⟩:=a'.ok.row (I:=J) (M:=gk.aP 3++(iy bW dD::(out.aP 83++(back.aP 3++[])))) (e:=3) (f:=u2) (size:=1) (λ_=>rfl) (by decide) pA Sp B9;rw[Ss]at e2;refine bi.mk fR k fS rfl (show k<gk.n by omega) ?_;refine aI.mk _ e2 ?_;refine bi.mk ⟨bW,0,none⟩ d.aL[k].toNat rfl (by omega) (by omega) ?_;refine aI.mk _ (Nh Sq H8) ?_;refine bi.mk fR k fS rfl (show k<gk.n by omega) ?_;refine a'.Kj u2 1 (λ_=>rfl) (e:=3) pA B9 dD[d.aL[k].toNat] rfl [] (iy bW dD::(out.aP 83++(back.aP 3++[]))) rfl fS ?_;intro A6 n7 uZ pI gh;refine bd.mk _ (cx (i:=k) (by omega)) ?_;refine⟨(k+1,A6,iR.set k dD[d.aL[k].toNat]),⟨⟨hc,gh,pI.trans H7,?_⟩,by simp only;omega⟩,.refl,.cons .refl (.cons .refl (.cons .refl (.cons .refl (.cons .refl (.cons .refl (.cons .refl (.cons .refl (.cons ?_ (.cons .refl (.cons .refl (.cons .refl (.cons ?_ (xb))))))))))))),.cons rfl (.cons rfl (.cons rfl (.nil)))⟩;·simp only;rw[cw,gf o1,e7,cY,kR,Sr,C7 _ _ (by rw[c8,hh];omega),c8,hh,rI (by omega),pD,eE o1,Gd,fq];rfl
    ·simp only;rw[n7];exact .refl
    ·simp only;rw[n7];exact .refl
   have cP:k=d.kn:=by have:¬ (k:Int)<(d.kn:Int):=dj ab;omega
   subst cP;rw[eW (by omega),qC (by omega),eh]at cw;rw[B8]at pA;refine b8.mk λaql aqm aqn=>?_;have cg:∃ bT:aS,bT=⟨d.k,d.dT,d.s1,d.s2,d.ec,d.t,d.lo,d.hi,gk.a.map λg=>⟨g,0,none⟩,gk.n,gk.c,iR⟩:=⟨_,rfl⟩;obtain⟨bT,cg⟩:=cg;have St:bT.cells=[.int .u8 d.k,.int .u64 d.dT,.int .u64 d.s1,.int .u64 d.s2,.int .u64 d.ec,.string d.t,.int .i64 d.lo,.int .i64 d.hi,.slice (gk.a.map λg=>⟨g,0,none⟩) gk.n gk.c]:=by rw[cg];rfl
   refine bn.uB aV rfl (by simp) (e:=83) rfl rfl rfl out gy rfl (cs:=[.int .u8 d.k,.int .u64 d.dT,.int .u64 d.s1,.int .u64 d.s2,.int .u64 d.ec,.string d.t,.int .i64 d.lo,.int .i64 d.hi,.slice (gk.a.map λg=>⟨g,0,none⟩) gk.n gk.c]) rfl rfl rfl (gk.aP 3++[iy bW dD]) (back.aP 3++[]) (by simp;rfl) (by omega) (by show(out.n+1)*96<=_;omega) ?_;intro B' aqo aqp H9;refine bd.mk _ (cx (i:=out.n) (by omega)) ?_;have H':∀ c∈iR,0<=c/\c<=nK.length:=λc aA=>by
    rw[cw]at aA;obtain⟨q,aM,rfl⟩:=dA.1 aA;have Gp:=lQ q aM;have Su:q.toNat<dD.length:=by omega
    exact Ma (dD.getD q.toNat 0) (by simp only[cC,eb Su,jS];exact cJ _)
   intro iP;obtain⟨Ia,hw,bs,lp⟩:=a'.JB (I:=J) (b:=8) (e:=3) pA (by omega) (λg au=>iP.d ⟨g,.cells gk.aK.toArray 3 (0,0)⟩ (by simp[a'.aP,au])) (iy bW dD::(B'.aP 83++(back.aP 3++[])));refine⟨(out.n+1,dD,B',u3++[bT],Ia),⟨⟨by simp only;omega,acH,?_,by simp[l3],?_,?_,λb o h=>bs _ _ (bM _ _ h),Ma,?_⟩,by simp only;omega⟩,?_,rP,.cons rfl (.cons rfl (.nil))⟩
   ·simp only;rw[lS];have:([bT].flatMap aS.cells)=bT.cells:=by simp
    rw[this,St];exact H9
   ·simp only;rw[gf L9,CV,H6,sC,List.foldl_nil,L'];show(P.set m ((u3.map aS.ba).length:Int),u3.map aS.ba++[(nodeAt t.ns m).Gk ((nodeAt t.ns m).aL.map λk=>(P.set m ((u3.map aS.ba).length:Int)).getD k.toNat 0)])=_;rw[c8,l3,zq,sg,<-cw,e7,cg];rfl
   ·simp only;intro x ae;rcases dQ.1 ae with ae | ae
    ·exact(L8 x ae).mono bs
    ·simp only[fW]at ae;rw[ae,cg];refine⟨ah.k,ah.dT,ah.s1,ah.s2,ah.ec,ah.t,ah.lo,ah.hi,lp,λc aA=>?_⟩;have:=H' c aA;exact⟨by omega,by omega⟩
   ·simp only;intro x ae;rcases dQ.1 ae with ae | ae
    ·exact jc x ae
    ·simp only[fW]at ae;rw[ae,cg];exact H'
   ·simp only;refine .perm (M1:=gk.aP 3++(iy bW dD::(B'.aP 83++(back.aP 3++[])))) ?_ hw;simp
  ·have e3:d.kn=0:=by have:¬ (0:Int)<(d.kn:Int):=dj aa;omega
   have aqq:d.aL=[]:=jh (by omega);refine c4.inv (ι:=Nat×a'×List Int) (λy=>{ bu:=[(2,.ref 2 0),(4,.ref 4 0),(5,.val back.val),(6,.val (.slice (some ⟨bW,0,none⟩) t.n t.n)),(7,.val out.val),(8,.val (.int .i64 out.n)),(9,.val (.int .i64 m)),(10,.ref 10 0),(11,.val y.2.1.val),(24,.val back.val),(25,.val (.int .i64 back.n)),(26,.val (.int .i64 out.n)),(52,.val y.2.1.val),(53,.val (.int .i64 d.kn)),(54,.val (.int .i64 y.1))],cl:=[(2,t.cells),(4,[.slice none 0 0,.int .i64 0]),(10,d.cells)],cS:=J,db:=y.2.1.aP 3++(iy bW dD::(out.aP 83++(back.aP 3++[]))) }) (λy=>acD d dD y) (λy=>d.kn-y.1) ?_ ?_;·refine⟨(0,lu,d.aL),⟨bw _,by rw[aqq];exact mT 1,e3.symm,by simp⟩,.refl,.cons .refl (.cons .refl (.cons .refl (.cons .refl (.cons .refl (.cons .refl (.cons .refl (.cons .refl (.cons .refl (.cons .refl (.cons .refl (.cons .refl (.cons .refl (.cons ?_ (.cons .refl .nil)))))))))))))),.cons rfl (.cons rfl (.cons rfl (.nil)))⟩;simp only;rw[e3];exact .refl
   rintro⟨k,gk,iR⟩⟨af,pA,H7,cw⟩;simp only at af pA H7 cw;have Sp:∀ x∈gk.aP 3,x∈gk.aP 3++(iy bW dD::(out.aP 83++(back.aP 3++[]))):=λx ae=>kF _ ae;have Sq:iy bW dD∈gk.aP 3++(iy bW dD::(out.aP 83++(back.aP 3++[]))):=by simp
   have OA:iR.length=d.aL.length:=by rw[cw,cI,c8,hh,pb];omega
   refine aU.mk (λab=>?_) (λab=>?_)
   ·have hc:k<d.kn:=by have:(k:Int)<(d.kn:Int):=c1 ab;omega
    have o1:k<d.aL.length:=by omega
    have B9:k<iR.length:=by omega
    have aj:=lQ _ (cJ o1);have H8:d.aL[k].toNat<dD.length:=by omega
    have Sr:dD.getD d.aL[k].toNat 0=dD[d.aL[k].toNat]:=by simp[cC,H8]
    have Ss:iR[k]=d.aL[k]:=by
     have ag:iR[k]?=d.aL[k]?:=by rw[cw,o9 (by rw[c8,hh];omega),c8,hh,rI (by omega),pD,nZ,nj]
     rw[eb B9,eb o1]at ag;exact kV ag
    obtain⟨fR,fS,e2⟩:=a'.ok.row (I:=J) (M:=gk.aP 3++(iy bW dD::(out.aP 83++(back.aP 3++[])))) (e:=3) (f:=u2) (size:=1) (λ_=>rfl) (by decide) pA Sp B9;rw[Ss]at e2;refine bi.mk fR k fS rfl (show k<gk.n by omega) ?_;refine aI.mk _ e2 ?_;refine bi.mk ⟨bW,0,none⟩ d.aL[k].toNat rfl (by omega) (by omega) ?_;refine aI.mk _ (Nh Sq H8) ?_;refine bi.mk fR k fS rfl (show k<gk.n by omega) ?_;refine a'.Kj u2 1 (λ_=>rfl) (e:=3) pA B9 dD[d.aL[k].toNat] rfl [] (iy bW dD::(out.aP 83++(back.aP 3++[]))) rfl fS ?_;intro A6 n7 uZ pI gh;refine bd.mk _ (cx (i:=k) (by omega)) ?_;refine⟨(k+1,A6,iR.set k dD[d.aL[k].toNat]),⟨⟨hc,gh,pI.trans H7,?_⟩,by simp only;omega⟩,.refl,.cons .refl (.cons .refl (.cons .refl (.cons .refl (.cons .refl (.cons .refl (.cons .refl (.cons .refl (.cons ?_ (.cons .refl (.cons .refl (.cons .refl (.cons ?_ (xb))))))))))))),.cons rfl (.cons rfl (.cons rfl (.nil)))⟩;·simp only;rw[cw,gf o1,e7,cY,kR,Sr,C7 _ _ (by rw[c8,hh];omega),c8,hh,rI (by omega),pD,eE o1,Gd,fq];rfl
    ·simp only;rw[n7];exact .refl
    ·simp only;rw[n7];exact .refl
   have cP:k=d.kn:=by have:¬ (k:Int)<(d.kn:Int):=dj ab;omega
   subst cP;rw[eW (by omega),qC (by omega),eh]at cw;rw[B8]at pA;refine b8.mk λaql aqm aqn=>?_;have cg:∃ bT:aS,bT=⟨d.k,d.dT,d.s1,d.s2,d.ec,d.t,d.lo,d.hi,gk.a.map λg=>⟨g,0,none⟩,gk.n,gk.c,iR⟩:=⟨_,rfl⟩;obtain⟨bT,cg⟩:=cg;have St:bT.cells=[.int .u8 d.k,.int .u64 d.dT,.int .u64 d.s1,.int .u64 d.s2,.int .u64 d.ec,.string d.t,.int .i64 d.lo,.int .i64 d.hi,.slice (gk.a.map λg=>⟨g,0,none⟩) gk.n gk.c]:=by rw[cg];rfl
   refine bn.uB aV rfl (by simp) (e:=83) rfl rfl rfl out gy rfl (cs:=[.int .u8 d.k,.int .u64 d.dT,.int .u64 d.s1,.int .u64 d.s2,.int .u64 d.ec,.string d.t,.int .i64 d.lo,.int .i64 d.hi,.slice (gk.a.map λg=>⟨g,0,none⟩) gk.n gk.c]) rfl rfl rfl (gk.aP 3++[iy bW dD]) (back.aP 3++[]) (by simp;rfl) (by omega) (by show(out.n+1)*96<=_;omega) ?_;intro B' aqo aqp H9;refine bd.mk _ (cx (i:=out.n) (by omega)) ?_;have H':∀ c∈iR,0<=c/\c<=nK.length:=λc aA=>by
    rw[cw]at aA;obtain⟨q,aM,rfl⟩:=dA.1 aA;have Gp:=lQ q aM;have Su:q.toNat<dD.length:=by omega
    exact Ma (dD.getD q.toNat 0) (by simp only[cC,eb Su,jS];exact cJ _)
   intro iP;obtain⟨Ia,hw,bs,lp⟩:=a'.JB (I:=J) (b:=8) (e:=3) pA (by omega) (λg au=>iP.d ⟨g,.cells gk.aK.toArray 3 (0,0)⟩ (by simp[a'.aP,au])) (iy bW dD::(B'.aP 83++(back.aP 3++[])));refine⟨(out.n+1,dD,B',u3++[bT],Ia),⟨⟨by simp only;omega,acH,?_,by simp[l3],?_,?_,λb o h=>bs _ _ (bM _ _ h),Ma,?_⟩,by simp only;omega⟩,?_,rP,.cons rfl (.cons rfl (.nil))⟩
   ·simp only;rw[lS];have:([bT].flatMap aS.cells)=bT.cells:=by simp
    rw[this,St];exact H9
   ·simp only;rw[gf L9,CV,H6,sC,List.foldl_nil,L'];show(P.set m ((u3.map aS.ba).length:Int),u3.map aS.ba++[(nodeAt t.ns m).Gk ((nodeAt t.ns m).aL.map λk=>(P.set m ((u3.map aS.ba).length:Int)).getD k.toNat 0)])=_;rw[c8,l3,zq,sg,<-cw,e7,cg];rfl
   ·simp only;intro x ae;rcases dQ.1 ae with ae | ae
    ·exact(L8 x ae).mono bs
    ·simp only[fW]at ae;rw[ae,cg];refine⟨ah.k,ah.dT,ah.s1,ah.s2,ah.ec,ah.t,ah.lo,ah.hi,lp,λc aA=>?_⟩;have:=H' c aA;exact⟨by omega,by omega⟩
   ·simp only;intro x ae;rcases dQ.1 ae with ae | ae
    ·exact jc x ae
    ·simp only[fW]at ae;rw[ae,cg];exact H'
   ·simp only;refine .perm (M1:=gk.aP 3++(iy bW dD::(B'.aP 83++(back.aP 3++[])))) ?_ hw;simp
 have cP:out.n=nK.length:=by have:¬ (out.n:Int)<(back.n:Int):=dj h;omega
 refine bd.mk ((u3.length:Int)-1) (by show IntKind.i64.wrap ((out.n:Int)-1)=_;rw[wrap_i64 ⟨by omega,by omega⟩,l3]) ?_;intro iP;obtain⟨Ia,hw,bs,lp⟩:=a'.JB (I:=J) (b:=96) (e:=83) gy (by omega) (λg au=>iP.d ⟨g,.cells out.aK.toArray 83 (0,0)⟩ (by simp[a'.aP,au])) [];refine⟨Ia,[],.sub (M1:=out.aP 83++[]) (by rw[eh];exact .cons _ (FL _ _)) hw,λb o h=>bs _ _ (bM _ _ h),rfl,⟨u3,out.a.map λg=>⟨g,0,none⟩,out.n,out.c,(u3.length:Int)-1⟩,rfl,⟨lp,λd ah=>(L8 d ah).mono bs,⟨by simp only;omega,by simp only;omega⟩⟩,⟨?_,rfl⟩⟩;rw[eW (by omega)]at H6;rw[ux,tI,<-lX]at *;rw[H6]
def acI(ay:t.ok I)(ak:right t=true)(aq:t.n<=1099511627776)(B1:node<t.n) :
  Spec Tryz.prog 54 [t.val,.int .i64 node] I M0 λv I' M'=>(∀ b o,I b=some o->I' b=some o)/\M'=M0/\∃ cZ:cB,v=cZ.val/\cZ.ok I'/\X4 t node cZ:=by
 refine Spec.nT (Spec.frame (aqj ay ak aq B1)) ?_;rintro v J M⟨M',rfl,-,-,aa,rfl,cZ,rfl,ab,ag⟩;exact⟨aa,rfl,cZ,rfl,ab,ag⟩
def aqr{l m:List α}{k:Nat}(av:k<l.length)(hm:k<m.length)(h:l.take k=m.take k)(e:l[k]=m[k]):l.take (k+1)=m.take (k+1):=by rw[gf av,gf hm,h,e]
def aqs{l m:List α}{k:Nat}(av:k<l.length)(hm:k<m.length)(e:¬ l[k]=m[k]):¬ l=m:=λh=>by subst h;exact e rfl
def aqt{bY:Option Addr}{eO hb:Nat}{cR:List Int}(h:eB I a n c 1 b (l.map (.int .i64 ·)))(aX:eB I bY eO c' 1 hb (cR.map (.int .i64 ·)))(ai:n<=140737488355327):Spec Tryz.prog 233 [.slice a n c,.slice bY eO c'] I M0 λv I' M'=>v=.bool (decide (l=cR))/\I'=I/\M'=M0:=by
 refine bN [] aV Tryz.func233 rfl rfl rfl ?_;intro B ar;have av:l.length=n:=by simpa using h.len
 have kd:cR.length=eO:=by simpa using aX.len
 by_cases aq:n=eO
 rotate_left
 ·refine aU.mk (λ_=>?_) (λh=>absurd h (by simp;omega));exact⟨_,_,.refl,by rw[de λe=>aq (by rw[<-av,<-kd,e])],rfl,rfl⟩
 subst aq;refine aU.mk (λh=>absurd h (by simp)) (λ_=>?_);refine c4.inv (ι:=Nat) (λk=>{ bu:=[(0,.val (.slice a n c)),(1,.val (.slice bY n c')),(12,.val (.int .i64 n)),(13,.val (.int .i64 k))],cS:=I,db:=M0 }) (λk=>k<=n/\l.take k=cR.take k) (λk=>n-k) ?_ ?_
 ·exact⟨0,⟨bw _,rfl⟩,.refl,ey,.nil⟩
 rintro k⟨af,ay⟩;refine aU.mk (λab=>?_) (λab=>?_)
 ·have aR:k<n:=by have:(k:Int)<(n:Int):=c1 ab;omega
  have cw:k<l.length:=by omega
  have j2:k<cR.length:=by omega
  obtain⟨ad,bF,bk⟩:=h.one aR cw;obtain⟨vo,ys,oO⟩:=aX.one aR j2;have hex:=aqr cw j2 ay;have bK:=aqs cw j2;generalize l[k]=x at bk hex bK;generalize cR[k]=y at oO hex bK;refine c5.draw aV rfl rfl rfl ?_;refine bi.mk ad k bF rfl aR ?_;refine aI.mk _ (bk _) ?_;refine bi.mk vo k ys rfl aR ?_;refine aI.mk _ (oO _) ?_;by_cases e:x=y;·refine aU.mk (λh=>absurd h (by simp[e])) (λ_=>?_);refine bd.mk _ (cx (i:=k) (by omega)) ?_;exact⟨k+1,⟨⟨aR,hex e⟩,by omega⟩,.refl,ey,.nil⟩
  ·refine aU.mk (λ_=>?_) (λh=>absurd h (by simp[e]));exact⟨_,_,.refl,by rw[de (bK e)],rfl,rfl⟩
 ·have cP:k=n:=by have:¬ (k:Int)<(n:Int):=dj ab;omega
  subst cP;rw[eW (by omega),eW (by omega)]at ay;exact⟨_,_,.refl,by rw[eN ay],rfl,rfl⟩
def tJ(x y:aS):Bool:=decide (x.k=y.k)&&((decide (x.dT=y.dT)&&(decide (x.s1=y.s1)&&(decide (x.s2=y.s2)&&decide (x.ec=y.ec))))&&(decide (x.t=y.t)&&(decide (x.lo=y.lo)&&(decide (x.hi=y.hi)&&decide (x.aL=y.aL)))))
def acJ(x y:aS):tJ x y=true ↔ x.k=y.k/\(x.dT=y.dT/\x.s1=y.s1/\x.s2=y.s2/\x.ec=y.ec)/\x.t=y.t/\x.lo=y.lo/\x.hi=y.hi/\x.aL=y.aL:=by simp only[tJ,b',eU]
def aqu{x y:aS}(ae:x.ok I)(aF:y.ok I):Spec Tryz.prog 218 [x.val,y.val] I M0 λv I' M'=>v=.bool (tJ x y)/\I'=I/\M'=M0:=by
 refine bN [] aV Tryz.func218 rfl rfl rfl ?_;intro B ar;have aqv:x.kn<=x.gR/\x.kn*8<=140737488355328:=ae.a8.cap;have Ei:=ae.a8;have acK:=aF.a8;obtain⟨k,dT,s1,s2,ec,t,lo,hi,hk,kn,gR,aL⟩:=x;obtain⟨dJ,Mb,Mc,Md,Me,cZ,D8,c7,acL,eX,acM,Sv⟩:=y;simp only at Ei acK aqv;have no:∀ {P:Prop},(P->¬ (k=dJ/\((dT=Mb/\s1=Mc/\s2=Md/\ec=Me)/\t=cZ/\lo=D8/\hi=c7/\aL=Sv)))->P->Value.bool false=.bool (tJ ⟨k,dT,s1,s2,ec,t,lo,hi,hk,kn,gR,aL⟩ ⟨dJ,Mb,Mc,Md,Me,cZ,D8,c7,acL,eX,acM,Sv⟩):=λh p=>by
  cases ai:tJ ⟨k,dT,s1,s2,ec,t,lo,hi,hk,kn,gR,aL⟩ ⟨dJ,Mb,Mc,Md,Me,cZ,D8,c7,acL,eX,acM,Sv⟩with
  |false=>rfl| true=>exact absurd ((acJ _ _).1 ai) (h p)
 by_cases a3:k=dJ
 rotate_left
 ·refine b4.mk (λaX=>absurd aX (by simp[a3])) (λ_=>?_);exact⟨_,_,.refl,no (λh ab=>h ab.1) a3,rfl,rfl⟩
 refine b4.mk (λ_=>?_) (λaX=>absurd aX (by simp[a3]));refine e'.M6 aV (e:=47) rfl rfl rfl rfl (by kernel_rfl) ?_;by_cases a6:dT=Mb/\s1=Mc/\s2=Md/\ec=Me
 rotate_left
 ·refine b4.mk (λaX=>absurd aX (by simpa using a6)) (λ_=>?_);exact⟨_,_,.refl,no (λh ab=>h ab.2.1) a6,rfl,rfl⟩
 refine b4.mk (λ_=>?_) (λaX=>absurd aX (by simp[a6]));by_cases bI:t=cZ
 rotate_left
 ·refine b4.mk (λaX=>absurd aX (by simp[bI])) (λ_=>?_);exact⟨_,_,.refl,no (λh ab=>h ab.2.2.1) bI,rfl,rfl⟩
 refine b4.mk (λ_=>?_) (λaX=>absurd aX (by simp[bI]));by_cases eQ:lo=D8
 rotate_left
 ·refine b4.mk (λaX=>absurd aX (by simp[eQ])) (λ_=>?_);exact⟨_,_,.refl,no (λh ab=>h ab.2.2.2.1) eQ,rfl,rfl⟩
 refine b4.mk (λ_=>?_) (λaX=>absurd aX (by simp[eQ]));by_cases j0:hi=c7
 rotate_left
 ·refine b4.mk (λaX=>absurd aX (by simp[j0])) (λ_=>?_);exact⟨_,_,.refl,no (λh ab=>h ab.2.2.2.2.1) j0,rfl,rfl⟩
 refine b4.mk (λ_=>?_) (λaX=>absurd aX (by simp[j0]));refine a9.whole _ (aqt Ei acK (show kn<=_ by omega)) ?_;rintro v J N -⟨rfl,bM,dr⟩;subst J;subst N;refine⟨_,_,.refl,?_,rfl,rfl⟩;obtain⟨ej,ed,fJ,gI⟩:=a6;congr 1;rw[oY,acJ,Ry];exact⟨λh=>⟨a3,⟨ej,ed,fJ,gI⟩,bI,eQ,j0,h⟩,λh=>h.2.2.2.2.2⟩
def lf{α:Type}(q:α->α->Bool):List α->List α->Bool
 |[],[]=>true| a::l,b::m=>q a b&&lf q l m| _,_=>false
def acN:∀ l m:List aS,lf tJ (l.map aS.ba) (m.map aS.ba)=lf tJ l m
 |[],[]=>rfl| [],_::_=>rfl| _::_,[]=>rfl| a::l,b::m=>by rw[cY,cY,lf,lf,acN l m];rfl
def Sw{α:Type}(q:α->α->Bool):∀ l m:List α,l.length≠m.length->lf q l m=false
 |[],[],h=>absurd rfl h| [],_::_,_=>rfl| _::_,[],_=>rfl| a::l,b::m,h=>by rw[lf,Sw q l m (by simpa using h),CW]
def aqw{s:cB}(ap:s.ok I)(ay:t.ok I):Spec Tryz.prog 217 [.slice s.a s.n s.c,.slice t.a t.n t.c,.func (.func 218) #[] #[]] I M0 λv I' M'=>v=.bool (lf tJ s.ns t.ns)/\I'=I/\M'=M0:=by
 refine bN [] aV Tryz.func217 rfl rfl rfl ?_;intro B ar;have g8:=ap.n;have lX:=ay.n;have hz:=ap.a8.cap;by_cases aq:s.n=t.n
 rotate_left
 ·refine aU.mk (λ_=>?_) (λh=>absurd h (by simp;omega));exact⟨_,_,.refl,by rw[Sw _ _ _ (by omega)],rfl,rfl⟩
 refine aU.mk (λh=>absurd h (by simp[aq])) (λ_=>?_);refine c4.inv (ι:=Nat) (λk=>{ bu:=[(1,.val (.slice t.a t.n t.c)),(2,.val (.func (.func 218) #[] #[])),(15,.val (.slice s.a s.n s.c)),(16,.val (.int .i64 s.n)),(17,.val (.int .i64 k))],cS:=I,db:=M0 }) (λk=>k<=s.n/\lf tJ s.ns t.ns=lf tJ (s.ns.drop k) (t.ns.drop k)) (λk=>s.n-k) ?_ ?_
 ·exact⟨0,⟨bw _,rfl⟩,.refl,gS,.nil⟩
 rintro k⟨af,he⟩;refine aU.mk (λab=>?_) (λab=>?_)
 ·have aR:k<s.n:=by have:(k:Int)<(s.n:Int):=c1 ab;omega
  have cw:k<s.ns.length:=by omega
  have j2:k<t.ns.length:=by omega
  obtain⟨ad,bF,bk⟩:=ap.a8.row aS.cD aR cw;obtain⟨vo,ys,oO⟩:=ay.a8.row aS.cD (show k<t.n by omega) j2;have ae:=ap.ns _ (cJ cw);have aF:=ay.ns _ (cJ j2);rw[eE cw,eE j2,lf]at he;generalize s.ns[k]=x at bk ae he;generalize t.ns[k]=y at oO aF he;refine bi.mk ad k bF rfl aR ?_;refine aI.mk _ (bk _) ?_;refine bi.mk vo k ys rfl (by omega) ?_;refine aI.mk _ (oO _) ?_;refine a9.whole _ (aqu ae aF) ?_;rintro v J N -⟨rfl,bM,dr⟩;subst J;subst N;cases e:tJ x y with
  |true=>refine aU.mk (λh=>absurd h (by simp)) (λ_=>?_);refine bd.mk _ (cx (i:=k) (by omega)) ?_;exact⟨k+1,⟨⟨aR,by rw[he,e,pd]⟩,by omega⟩,.refl,gS,.nil⟩| false=>refine aU.mk (λ_=>?_) (λh=>absurd h (by simp));exact⟨_,_,.refl,by rw[he,e,sY],rfl,rfl⟩
 ·have cP:k=s.n:=by have:¬ (k:Int)<(s.n:Int):=dj ab;omega
  subst cP;rw[qC (by omega),qC (by omega)]at he;exact⟨_,_,.refl,by rw[he];rfl,rfl,rfl⟩
def u4(a b:cB):Bool:=decide (a.n=b.n)&&(right a&&(right b&&lf tJ (ux a.ns a.bD) (ux b.ns b.bD)))
def aqx(bp:e4 I ax){a b:cB}(aC:a.ok I)(ai:b.ok I)(aq:a.n<=1099511627776):Spec Tryz.prog 173 [a.val,b.val] I M0 λv I' M'=>v=.bool (u4 a b)/\(∀ c o,I c=some o->I' c=some o)/\M'=M0:=by
 refine bN [] aV Tryz.func173 rfl rfl rfl ?_;intro B ar;have zc:=aC.n;have E8:=ai.n;by_cases aa:a.n=b.n
 rotate_left
 ·refine b4.mk (λaX=>absurd aX (by simp;omega)) (λ_=>?_);exact⟨_,_,.refl,by rw[u4,de aa,sY],λ_ _ h=>h,rfl⟩
 refine b4.mk (λ_=>?_) (λaX=>absurd aX (by simp[aa]));refine a9.mk [] M0 _ (.refl _) (xn bp.c aC) ?_;rintro v J N -⟨rfl,bM,rfl⟩;subst J;cases ab:right a with
 |false=>refine b4.mk (λaX=>absurd aX (by simp)) (λ_=>?_);exact⟨_,_,.refl,by rw[u4,ab,sY,CW],λ_ _ h=>h,rfl⟩| true=>
 refine b4.mk (λ_=>?_) (λaX=>absurd aX (by simp));refine a9.mk [] M0 _ (.refl _) (xn bp.c ai) ?_;rintro v J N -⟨rfl,bM,rfl⟩;subst J;cases ag:right b with
 |false=>refine aU.mk (λ_=>?_) (λaX=>absurd aX (by simp));exact⟨_,_,.refl,by rw[u4,ag,sY,CW,CW],λ_ _ h=>h,rfl⟩| true=>
 refine aU.mk (λaX=>absurd aX (by simp)) (λ_=>?_);obtain⟨aqy,atZ⟩:=vG ab;obtain⟨aqz,at0⟩:=vG ag;obtain⟨DB,qH⟩:=h' aqy;obtain⟨nK,tI⟩:=h' aqz;have acO:=acI (M0:=M0) aC ab aq (node:=DB) (by omega);rw[<-qH]at acO;refine c5.draw aV rfl rfl rfl ?_;refine hf.whole _ acO (λv I' M' h x ae=>by rw[h.2.1];exact ae) ?_;rintro v J N -⟨bM,dr,F0,rfl,L6,aqA⟩;subst N;have LF:=acI (M0:=M0) (ai.mono bM) ag (by omega) (node:=nK) (by omega);rw[<-tI]at LF;refine hf.whole _ LF (λv I' M' h x ae=>by rw[h.2.1];exact ae) ?_;rintro v hF N -⟨jy,dr,afR,rfl,AR,aqB⟩;subst N;refine a9.whole _ (aqw (L6.mono jy) AR) ?_;rintro v yn N -⟨rfl,wJ,dr⟩;subst yn;subst N;refine⟨_,_,.refl,?_,λc o h=>jy _ _ (bM _ _ h),rfl⟩;rw[u4,eN aa,ab,ag,<-aqA.ba,<-aqB.ba,acN];rfl
def sA(d e:aQ):Bool:=decide (d.name=e.name)&&u4 d.t e.t
def oU(g h:bJ):Bool:=lf sA g.ds h.ds
def aqC(a b:cB):u4 a.ba b.ba=u4 a b:=by unfold u4;rw[A8,A8];have az:ux a.ba.ns a.ba.bD=ux a.ns a.bD:=WE a.ns a.bD;have aE:ux b.ba.ns b.ba.bD=ux b.ns b.bD:=WE b.ns b.bD;rw[az,aE];rfl
def acP(g h:bJ):oU g.ba h.ba=oU g h:=by
 unfold oU;show lf sA (g.ds.map aQ.ba) (h.ds.map aQ.ba)=_;have:∀ l m:List aQ,lf sA (l.map aQ.ba) (m.map aQ.ba)=lf sA l m:=by
  intro l
  induction l with
  |nil=>intro m;cases m<;>rfl
  |cons a l a7=>
   intro m;cases m with
   |nil=>rfl| cons b m=>rw[cY,cY,lf,lf,a7];congr 1;unfold sA;have az:u4 a.ba.t b.ba.t=u4 a.t b.t:=aqC a.t b.t;rw[az];rfl
 exact this _ _
def aqD(bp:e4 I ax){d e:aQ}(ah:d.ok I)(he:e.ok I)(aq:d.t.n<=1099511627776):Spec Tryz.prog 172 [.agg d.cells.toArray,.agg e.cells.toArray] I M0 λv I' M'=>v=.bool (sA d e)/\(∀ c o,I c=some o->I' c=some o)/\M'=M0:=by
 refine bN [] aV Tryz.func172 rfl rfl rfl ?_;intro B ar;obtain⟨nm,t⟩:=d;obtain⟨aqE,cZ⟩:=e;by_cases h:nm=aqE
 ·refine b4.mk (λ_=>?_) (λaX=>absurd aX (by simp[h]));refine a9.whole _ (aqx bp ah.t he.t aq) ?_;rintro v J N -⟨rfl,bM,dr⟩;subst N;exact⟨_,_,.refl,by rw[sA,eN h,pd],bM,rfl⟩
 ·refine b4.mk (λaX=>absurd aX (by simp[h])) (λ_=>?_);exact⟨_,_,.refl,by rw[sA,de h,sY],λ_ _ h=>h,rfl⟩
def aqF(bp:e4 I ax){s t:bJ}(ap:s.ok I)(ay:t.ok I)(ai:∀ d∈s.ds,d.t.n<=1099511627776):Spec Tryz.prog 171 [.slice s.a s.n s.c,.slice t.a t.n t.c,.func (.func 172) #[] #[]] I M0 λv I' M'=>v=.bool (oU s t)/\(∀ c o,I c=some o->I' c=some o)/\M'=M0:=by
 refine bN [] aV Tryz.func171 rfl rfl rfl ?_;intro B ar;have g8:=ap.n;have lX:=ay.n;have hz:=ap.a8.cap;unfold oU;by_cases aq:s.n=t.n
 rotate_left
 ·refine aU.mk (λ_=>?_) (λh=>absurd h (by simp;omega));exact⟨_,_,.refl,by rw[Sw _ _ _ (by omega)],λ_ _ h=>h,rfl⟩
 refine aU.mk (λh=>absurd h (by simp[aq])) (λ_=>?_);refine c4.inv (ι:=Nat×aZ) (λx=>{ bu:=[(1,.val (.slice t.a t.n t.c)),(2,.val (.func (.func 172) #[] #[])),(15,.val (.slice s.a s.n s.c)),(16,.val (.int .i64 s.n)),(17,.val (.int .i64 x.1))],cS:=x.2,db:=M0 }) (λx=>x.1<=s.n/\lf sA s.ds t.ds=lf sA (s.ds.drop x.1) (t.ds.drop x.1)/\∀ c o,I c=some o->x.2 c=some o) (λx=>s.n-x.1) ?_ ?_
 ·exact⟨(0,I),⟨bw _,rfl,λ_ _ h=>h⟩,.refl,gS,.nil⟩
 rintro⟨k,J⟩⟨af,he,bM⟩;simp only at af he bM;refine aU.mk (λab=>?_) (λab=>?_)
 ·have aR:k<s.n:=by have:(k:Int)<(s.n:Int):=c1 ab;omega
  have cw:k<s.ds.length:=by omega
  have j2:k<t.ds.length:=by omega
  obtain⟨ad,bF,bk⟩:=(ap.mono bM).a8.row aQ.cD aR cw;obtain⟨vo,ys,oO⟩:=(ay.mono bM).a8.row aQ.cD (show k<t.n by omega) j2;have ae:=(ap.mono bM).ds _ (cJ cw);have aF:=(ay.mono bM).ds _ (cJ j2);have qU:=ai _ (cJ cw);rw[eE cw,eE j2,lf]at he;generalize s.ds[k]=x at bk ae he qU;generalize t.ds[k]=y at oO aF he;refine bi.mk ad k bF rfl aR ?_;refine aI.mk _ (bk _) ?_;refine bi.mk vo k ys rfl (by omega) ?_;refine aI.mk _ (oO _) ?_;refine a9.whole _ (aqD (bp.mono bM) ae aF qU) ?_;rintro v hF N -⟨rfl,jy,dr⟩;subst N;cases e:sA x y with
  |true=>refine aU.mk (λh=>absurd h (by simp)) (λ_=>?_);refine bd.mk _ (cx (i:=k) (by omega)) ?_;exact⟨(k+1,hF),⟨⟨aR,by simp only;rw[he,e,pd],λc o h=>jy _ _ (bM _ _ h)⟩,by simp only;omega⟩,.refl,gS,.nil⟩| false=>refine aU.mk (λ_=>?_) (λh=>absurd h (by simp));exact⟨_,_,.refl,by rw[he,e,sY],λc o h=>jy _ _ (bM _ _ h),rfl⟩
 ·have cP:k=s.n:=by have:¬ (k:Int)<(s.n:Int):=dj ab;omega
  subst cP;rw[qC (by omega),qC (by omega)]at he;exact⟨_,_,.refl,by rw[he];rfl,bM,rfl⟩
def acQ(bp:e4 I ax){s t:bJ}(ap:s.ok I)(ay:t.ok I)(ai:∀ d∈s.ds,d.t.n<=1099511627776):Spec Tryz.prog 108 [s.val,t.val] I M0 λv I' M'=>v=.bool (oU s t)/\(∀ c o,I c=some o->I' c=some o)/\M'=M0:=by refine bN [] aV Tryz.func108 rfl rfl rfl ?_;intro B ar;refine a9.whole _ (aqF bp ap ay ai) ?_;rintro v J N -⟨rfl,bM,dr⟩;subst N;exact⟨_,_,.refl,rfl,bM,rfl⟩
def acR(bp:e4 I ax)(au:g.ok I)(jc:∀ d∈g.ds,mB d.t)(s:ng):Spec Tryz.prog 24 [g.val,s.val] I M0 λv I' M'=>(∀ b o,I b=some o->I' b=some o)/\M'=M0/\∃ (r:Int×List aQ) (h:bJ),H4 ax g s r/\v=.tuple #[h.val,.int .i64 r.1]/\h.ok I'/\h.ba=(fF r.2).ba:=by refine Spec.nT (Spec.frame (Spec.ig (ap2 bp au jc s))) ?_;rintro v J M⟨M',rfl,-,bM,rfl,-,I',M1,⟨aa,r,h,ak,rfl,br,dz⟩,bU⟩;exact⟨bM,rfl,r,h,ak,rfl,br.ig bU,dz⟩
def acS(bp:e4 I ax)(au:g.ok I){x:jn}(ae:z8 I x)(yh:x.n<=1000000):Spec Tryz.prog 109 [g.val,x.val] I M0 λv I' M'=>(∀ b o,I b=some o->I' b=some o)/\M'=M0/\∃ h:bJ,v=.tuple #[h.val,.bool (lC ax g x.l)]/\h.ok I'/\h.ba=(fF (B7 ax g x.l)).ba:=by refine Spec.nT (Spec.frame (Spec.ig (ap8 bp au ae yh))) ?_;rintro v J M⟨M',rfl,-,bM,rfl,-,I',M1,⟨aa,h,rfl,br,dz⟩,bU⟩;exact⟨bM,rfl,h,rfl,br.ig bU,dz⟩
def acT(ax:List Int)(g:bJ):mr ax g.ba=mr ax g:=by unfold mr;rw[Dj,H2];rfl
def aqG(ax:List Int)(g:bJ)(i:Int):j4 ax g.ba i=j4 ax g i:=by unfold j4;rw[Dj,H2];rfl
def acU(ax:List Int)(g:bJ)(l:List Int):lC ax g.ba l=lC ax g l:=by have e:∀ i,j4 ax g.ba i=j4 ax g i:=aqG ax g;unfold lC;simp only[Dj,e];rfl
def EM(cs:List hG)(F:List a2):Option Int:=if(B0 (gB cs).ds F).2=0 then(mr gb (gB cs)).head? else none
def EN(cs:List hG)(F:List a2)(s:ng):Int×List aQ:=if(B0 (gB cs).ds F).2=0 then(if B6 s (mr gb (gB cs)).head? then(0,et (gw (dC (gB cs)) 0) (gB cs).ds)else(47,[]))else((B0 (gB cs).ds F).2,[])
section
variable{I:aZ}{cs:List hG}{F:List a2}(eu:EA cs F){g:bJ}(au:g.ok I)(a5:oS cs g.ds)
include eu au a5
def aqH(h:L2 gb g o):o=EM cs F:=by obtain⟨r,aa,rfl⟩:=h;rw[R2 eu au a5 aa,EM,<-z0 a5 au,acT]
def aqI{s:ng}{r:Int×List aQ}(h:H4 gb g s r):r.1=(EN cs F s).1/\r.2.map aQ.ba=(EN cs F s).2:=by
 obtain⟨x,aa,rfl⟩:=h;have dz:=z0 a5 au;rw[R2 eu au a5 aa,EN,<-dz,acT,H2];split
 ·split
  ·refine⟨rfl,?_⟩;show(et _ g.ds).map aQ.ba=et _ (g.ds.map aQ.ba);rw[EG]
  ·exact⟨rfl,rfl⟩
 ·exact⟨rfl,rfl⟩
end
def Ca(bp:e4 I gb){k:IntKind}(u5:pR EI 84 s=some (cs,cu,k,e)):Spec Tryz.prog 64 [.string ⟨s.toArray⟩] I M0 λv I' M'=>(∀ b o,I b=some o->I' b=some o)/\M'=M0/\∃ g:bJ,v=g.val/\g.ok I'/\oS cs g.ds:=by refine bN [] aV Tryz.func64 rfl rfl rfl ?_;intro B ar;refine a9.mk [] M0 _ (.refl _) (aoT bp u5) ?_;rintro v Aa N -⟨rfl,kE,g,rfl,au,a5⟩;exact⟨_,_,.refl,kE,rfl,g,rfl,au,a5⟩
def aqJ(bp:e4 I gb)(eu:EA cs F)(au:g.ok I)(a5:oS cs g.ds)(he:(B0 (gB cs).ds F).2=e):Spec Tryz.prog 15 [g.val] I M0 λv I' M'=>v=.int .i64 e/\(∀ b o,I b=some o->I' b=some o)/\M'=M0:=by refine Spec.nT (L1 bp au (eu.of au a5).2.2) ?_;rintro v J M⟨aa,ab,r,rfl,ak⟩;exact⟨by rw[R2 eu au a5 ak,he],aa,ab⟩
def Sx:Option Int->List Int
 |none=>[]| some r=>[1000+r*100]
def aqK(bp:e4 I gb){k:IntKind}(u5:pR EI 84 s=some (cs,cu,k,e))(aA:z1 cs F f=true)(aw:EM cs F=o)(ai:∀ r,o=some r->0<=r/\r<1000) :
  Spec Tryz.prog 107 [.string ⟨s.toArray⟩] I M0 λv I' M'=>(∀ b o,I b=some o->I' b=some o)/\∃ os:a',v=os.val/\os.ok 1 ((Sx o).map (.int .i64 ·))/\M'=os.aP 3++M0:=by
 have eu:=R3 aA;refine bN [] aV Tryz.func107 rfl rfl rfl ?_;intro B ar;refine a9.whole _ (Ca bp u5) ?_;rintro v Aa N -⟨kE,dr,g,rfl,au,a5⟩;subst N;have lU:=bp.mono kE;obtain⟨hm,bU,jc⟩:=eu.of au a5;have iK:=HR hm;refine a9.whole _ (acs lU au (by omega) jc) ?_;rintro v hF N -⟨jy,o',os,o8,ca,rfl,dr⟩;subst N;obtain rfl:o'=o:=(aqH eu au a5 o8).trans aw;have bQ:=ca.len;rw[fQ _ 5 ng.cD]at bQ;have bM:∀ b o,I b=some o->hF b=some o:=λb o h=>jy _ _ (kE _ _ h);cases o' with
 |none=>
  have aq:os.n=0:=by simp[B5]at bQ;omega
  refine c4.w8 1 ?_;refine aU.mk (λh=>absurd h (by simp[aq])) (λ_=>?_);exact⟨_,_,.sub (jY _ _) .refl,bM,lu,rfl,mT 1,rfl⟩
 |some r=>
  have aq:os.n=1:=by simp[B5]at bQ;omega
  obtain⟨s6,h9⟩:=ai r rfl;obtain⟨ad,bF,bk⟩:=a'.ok.row (I:=hF) (M:=os.aP 72++M0) (e:=72) ng.cD (by decide) ca (λz bf=>kF _ bf) (j:=0) (by simp[B5]);have bk:cr hF (os.aP 72++M0) (ad.add (0*5)) 5 [.int .u8 7,.int .u8 1,.int .i64 r,.slice none 0 0,.int .i64 0]:=bk;have h4:cr hF (os.aP 72++M0) ((ad.add (0*5)).add 1) 1 [.int .u8 1]:=bk.part (k:=1) (m:=1) (by decide);have fM:cr hF (os.aP 72++M0) ((ad.add (0*5)).add 2) 1 [.int .i64 r]:=bk.part (k:=2) (m:=1) (by decide);have iF:cr hF (os.aP 72++M0) ((ad.add (0*5)).add 3) 1 [.slice none 0 0]:=bk.part (k:=3) (m:=1) (by decide);have oz:cr hF (os.aP 72++M0) ((ad.add (0*5)).add 4) 1 [.int .i64 0]:=bk.part (k:=4) (m:=1) (by decide);refine c4.w8 2 ?_;refine aU.mk (λ_=>?_) (λh=>absurd h (by simp[aq]));refine c5.draw aV rfl rfl rfl ?_;refine bi.mk ad 0 bF rfl (by omega) ?_;refine aI.mk _ h4 ?_;refine bd.mk 1 (by decide) ?_;refine bd.mk 1000 (by decide) ?_;refine bi.mk ad 0 bF rfl (by omega) ?_;refine aI.mk _ fM ?_;refine bd.mk (r*100) (gK rfl (by omega)) ?_;refine bd.mk (1000+r*100) (gK rfl (by omega)) ?_;refine bi.mk ad 0 bF rfl (by omega) ?_;refine aI.mk _ iF ?_;refine bd.mk 0 (by decide) ?_;refine bd.mk (1000+r*100) (gK (by omega) (by omega)) ?_;refine bi.mk ad 0 bF rfl (by omega) ?_;refine aI.mk _ oz ?_;refine bd.mk (1000+r*100) (gK (by omega) (by omega)) ?_;refine b8.mk λb ai ph=>?_;refine bn.uB aV rfl (by simp) (e:=3) rfl rfl rfl lu (mT 1) rfl (cs:=[.int .i64 (1000+r*100)]) rfl rfl rfl [] (os.aP 72++M0) rfl (by decide) (by decide) ?_;intro hn pI eM gh;refine bd.mk 1 (by decide) ?_;refine aU.mk (λh=>absurd h (by simp[aq])) (λ_=>?_);exact⟨_,_,.sub (List.Sublist.append_left (jY _ _) (hn.aP 3)) .refl,bM,hn,rfl,gh,rfl⟩
def acV(bp:e4 I gb){k:IntKind}(u5:pR EI 84 s=some (cs,cu,k,e))(aA:z1 cs F f=true)(aw:EM cs F=o)(ai:∀ r,o=some r->0<=r/\r<1000)
 (hw:(o=none/\n=0)\/∃ r ad,o=some r/\n=1/\a=some ad/\∀ (J:aZ) (M:List aB),(∀ z∈M0,z∈M)->cr J M (ad.add (0*1)) 1 [.int .i64 (1000+r*100)]) :
  Spec Tryz.prog 65 [.string ⟨s.toArray⟩,.slice a n c] I M0 λv I' M'=>v=.bool true/\(∀ b o,I b=some o->I' b=some o)/\M'=M0:=by
 refine bN [] aV Tryz.func65 rfl rfl rfl ?_;intro B ar;refine a9.whole _ (aqK bp u5 aA aw ai) ?_;rintro v J N -⟨bM,os,rfl,ca,dr⟩;subst N;have bQ:(Sx o).length=os.n:=by simpa using ca.len
 rcases hw with⟨rfl,rfl⟩ | ⟨r,ad,rfl,rfl,rfl,bk⟩
 ·have aq:os.n=0:=bQ.symm;refine aU.mk (λh=>absurd h (by simp[aq])) (λ_=>?_);refine c4.w8 1 ?_;refine aU.mk (λh=>absurd h (by simp[aq])) (λ_=>?_);exact⟨_,_,.sub (jY _ _) .refl,rfl,bM,rfl⟩
 ·have aq:os.n=1:=bQ.symm;obtain⟨acW,aqL,Sy⟩:=a'.Og (I:=J) (M:=os.aP 3++M0) (e:=3) ca (λz bf=>kF _ bf) (j:=0) (by simp[Sx]);have Sy:cr J (os.aP 3++M0) (acW.add (0*1)) 1 [.int .i64 (1000+r*100)]:=Sy;refine aU.mk (λh=>absurd h (by simp[aq])) (λ_=>?_);refine c4.w8 2 ?_;refine aU.mk (λ_=>?_) (λh=>absurd h (by simp[aq]));refine c5.draw aV rfl rfl rfl ?_;refine bi.mk acW 0 aqL rfl (by omega) ?_;refine aI.mk _ Sy ?_;refine bi.mk ad 0 rfl rfl (by omega) ?_;refine aI.mk _ (bk J _ λz bf=>pS _ bf) ?_;refine aU.mk (λh=>absurd h (by simp)) (λ_=>?_);refine bd.mk 1 (by decide) ?_;refine aU.mk (λh=>absurd h (by simp[aq])) (λ_=>?_);exact⟨_,_,.sub (jY _ _) .refl,rfl,bM,rfl⟩
def aqM(bp:e4 I gb){k:IntKind}(u5:pR EI 84 s=some (cs,cu,k,e))(rB:pR acm 84 want=some (EJ,ack,dJ,bq))(aA:z1 cs F f=true)
  {way rule aO:Int} {pa:Option Addr} {pn pc:Nat} (ah:EN cs F ⟨7,way,rule,pa,pn,pc,[],aO⟩=(0,ds)) (Sz:oU (fF ds) (gB EJ)=true) (jV:0<ds.length) (sB:(ds.all λd=>decide (d.t.n<=1000000))=true) :
  Spec Tryz.prog 66 [.string ⟨s.toArray⟩,.int .u8 way,.int .i64 rule,.slice pa pn pc,.int .i64 aO,.string ⟨want.toArray⟩] I [] λv I' M'=>v=.bool true/\(∀ b o,I b=some o->I' b=some o)/\M'=[]:=by
 have eu:=R3 aA;refine bN [] aV Tryz.func66 rfl rfl rfl ?_;intro B ar;refine a9.whole _ (Ca bp u5) ?_;rintro v Aa N -⟨kE,dr,g,rfl,au,a5⟩;subst N;have lU:=bp.mono kE;obtain⟨hm,bU,jc⟩:=eu.of au a5;refine a9.whole _ (acR lU au jc ⟨7,way,rule,pa,pn,pc,[],aO⟩) ?_;rintro v hF N -⟨jy,dr,r,h,ak,rfl,br,dz⟩;subst N;obtain⟨ej,ed⟩:=aqI eu au a5 ak;rw[ah]at ej ed;obtain⟨h4,fM⟩:=r;simp only at ej ed dz;subst ej;have kY:=lU.mono jy;have EH:=br.n;have e5:h.ds.map aQ.ba=ds:=(congrArg bJ.ds dz).trans ed;have av:h.ds.length=ds.length:=by rw[<-e5,c8]
 have SA:∀ d∈h.ds,d.t.n<=1099511627776:=λd ah=>by
  have aa:d.ba∈ds:=by rw[<-e5];exact dA.2 ⟨d,ah,rfl⟩
  have ab:=c1 (eP.1 sB _ aa);have ag:d.ba.t.n=d.t.n:=rfl;omega
 refine c5.draw aV rfl rfl rfl ?_;refine b4.mk (λ_=>?_) (λh=>absurd h (by simp));refine b4.mk (λ_=>?_) (λh=>absurd h (by simp;omega));refine hf.whole _ (Ca kY rB) (λv I' M' h x ae=>by rw[h.2.1];exact ae) ?_;rintro v yn N -⟨wJ,dr,w,rfl,hw,SB⟩;subst N;refine a9.whole _ (acQ (kY.mono wJ) (br.mono wJ) hw SA) ?_;rintro v aqN N -⟨rfl,SC,dr⟩;subst N;refine⟨_,_,.refl,?_,λb o h=>SC _ _ (wJ _ _ (jy _ _ (kE _ _ h))),rfl⟩;have az:oU h w=oU (fF ds) (gB EJ):=by rw[<-acP h w,z0 SB hw];unfold oU;show lf sA (h.ds.map aQ.ba) _=_;rw[e5];rfl
 rw[az,Sz]
def acX(bp:e4 I gb){k:IntKind}(u5:pR EI 84 s=some (cs,cu,k,e))(rB:pR acm 84 want=some (EJ,ack,dJ,bq))(JH:(⟨want.toArray⟩:ByteArray)≠⟨#[]⟩)
  {x:jn} (ae:z8 I x) (jK:x.n<=1000000) (r1:lC gb (gB cs) x.l=true) (ah:et ((eD x.l).take (gB cs).n) (gB cs).ds=ds) (Sz:oU (fF ds) (gB EJ)=true) (sB:(ds.all λd=>decide (d.t.n<=1000000))=true) :
  Spec Tryz.prog 67 [.string ⟨s.toArray⟩,.string ⟨want.toArray⟩,x.val] I M0 λv I' M'=>v=.bool true/\(∀ b o,I b=some o->I' b=some o)/\M'=M0:=by
 refine bN [] aV Tryz.func67 rfl rfl rfl ?_;intro B ar;refine a9.whole _ (Ca bp u5) ?_;rintro v Aa N -⟨kE,dr,g,rfl,au,a5⟩;subst N;have lU:=bp.mono kE;have acY:=z0 a5 au;rw[<-acY,acU]at r1;have mq:(et ((eD x.l).take g.n) g.ds).map aQ.ba=ds:=by rw[<-acY]at ah;rw[<-ah,<-EG];rfl
 refine a9.whole _ (acS lU au (ae.mono kE) jK) ?_;rintro v hF N -⟨jy,dr,h,rfl,br,dz⟩;subst N;rw[r1];have aqO:h.ba=(fF (et ((eD x.l).take g.n) g.ds)).ba:=by rw[dz,B7,r1,cn rfl]
 have kY:=lU.mono jy;have e5:h.ds.map aQ.ba=ds:=(congrArg bJ.ds aqO).trans mq;have SA:∀ d∈h.ds,d.t.n<=1099511627776:=λd ah=>by
  have aa:d.ba∈ds:=by rw[<-e5];exact dA.2 ⟨d,ah,rfl⟩
  have ab:=c1 (eP.1 sB _ aa);have ag:d.ba.t.n=d.t.n:=rfl;omega
 refine aU.mk (λh=>absurd (c1 h) JH) (λ_=>?_);refine c5.draw aV rfl rfl rfl ?_;refine b4.mk (λ_=>?_) (λh=>absurd h (by simp));refine hf.whole _ (Ca kY rB) (λv I' M' h x ae=>by rw[h.2.1];exact ae) ?_;rintro v yn N -⟨wJ,dr,w,rfl,hw,SB⟩;subst N;refine a9.whole _ (acQ (kY.mono wJ) (br.mono wJ) hw SA) ?_;rintro v aqN N -⟨rfl,SC,dr⟩;subst N;refine⟨_,_,.refl,?_,λb o h=>SC _ _ (wJ _ _ (jy _ _ (kE _ _ h))),rfl⟩;have az:oU h w=oU (fF ds) (gB EJ):=by rw[<-acP h w,z0 SB hw];unfold oU;show lf sA (h.ds.map aQ.ba) _=_;rw[e5];rfl
 rw[az,Sz]
def aqP(bp:e4 I gb){k:IntKind}(u5:pR EI 84 s=some (cs,cu,k,e))
  {x:jn} (ae:z8 I x) (jK:x.n<=1000000) (r1:lC gb (gB cs) x.l=false) :
  Spec Tryz.prog 67 [.string ⟨s.toArray⟩,.string ⟨#[]⟩,x.val] I M0 λv I' M'=>v=.bool true/\(∀ b o,I b=some o->I' b=some o)/\M'=M0:=by
 refine bN [] aV Tryz.func67 rfl rfl rfl ?_;intro B ar;refine a9.whole _ (Ca bp u5) ?_;rintro v Aa N -⟨kE,dr,g,rfl,au,a5⟩;subst N;have lU:=bp.mono kE;rw[<-z0 a5 au,acU]at r1;refine a9.whole _ (acS lU au (ae.mono kE) jK) ?_;rintro v hF N -⟨jy,dr,h,rfl,br,dz⟩;subst N;rw[r1];have aq:h.n=0:=by have:=congrArg bJ.n dz;rw[B7,r1]at this;exact this
 refine aU.mk (λ_=>?_) (λh=>absurd h (by simp));refine b4.mk (λ_=>?_) (λh=>absurd h (by simp));refine⟨_,_,.refl,?_,λb o h=>jy _ _ (kE _ _ h),rfl⟩;rw[aq];rfl
def Ib:List hG:=[⟨[97],⟨[⟨2,0,0,0,0,[120],0,0,[]⟩],0⟩⟩,⟨[98],⟨[⟨3,0,0,0,0,[99],0,0,[]⟩],0⟩⟩,⟨[99],⟨[⟨3,0,0,0,0,[98],0,0,[]⟩,⟨2,0,0,0,0,[121],0,0,[]⟩,⟨4,0,0,0,0,[],0,0,[0,1]⟩,⟨0,0,0,0,0,[],0,0,[]⟩,⟨5,0,0,0,0,[],0,0,[2,3]⟩],4⟩⟩]
def aqQ:pR 100000 84 [97,32,60,45,32,34,120,34,32,98,32,60,45,32,99,32,99,32,60,45,32,98,32,34,121,34,32,47,32,34,34]=some (Ib,0,.i64,0):=by kernel_rfl
def yv:List hG:=[⟨[97],⟨[⟨2,0,0,0,0,[120],0,0,[]⟩],0⟩⟩,⟨[98],⟨[⟨2,0,0,0,0,[121],0,0,[]⟩,⟨3,0,0,0,0,[99],0,0,[]⟩,⟨4,0,0,0,0,[],0,0,[0,1]⟩],2⟩⟩,⟨[99],⟨[⟨2,0,0,0,0,[122],0,0,[]⟩,⟨3,0,0,0,0,[98],0,0,[]⟩,⟨4,0,0,0,0,[],0,0,[0,1]⟩,⟨0,0,0,0,0,[],0,0,[]⟩,⟨5,0,0,0,0,[],0,0,[2,3]⟩],4⟩⟩]
def acZ:pR 100000 84 [97,32,60,45,32,34,120,34,32,98,32,60,45,32,34,121,34,32,99,32,99,32,60,45,32,34,122,34,32,98,32,47,32,34,34]=some (yv,0,.i64,0):=by kernel_rfl
def ac0:List hG:=[⟨[97],⟨[⟨2,0,0,0,0,[120],0,0,[]⟩],0⟩⟩]
def aqR:pR 100000 84 [97,32,60,45,32,34,120,34]=some (ac0,0,.i64,0):=by kernel_rfl
def Ic:List hG:=[⟨[97],⟨[⟨3,0,0,0,0,[98],0,0,[]⟩],0⟩⟩,⟨[98],⟨[⟨0,0,0,0,0,[],0,0,[]⟩],0⟩⟩]
def aqS:pR 100000 84 [97,32,60,45,32,98,32,98,32,60,45,32,34,34]=some (Ic,0,.i64,0):=by kernel_rfl
def yw:List hG:=[⟨[97],⟨[⟨3,0,0,0,0,[98],0,0,[]⟩],0⟩⟩,⟨[98],⟨[⟨2,0,0,0,0,[120],0,0,[]⟩],0⟩⟩,⟨[99],⟨[⟨3,0,0,0,0,[97],0,0,[]⟩],0⟩⟩]
def Mf:pR 100000 84 [97,32,60,45,32,98,32,98,32,60,45,32,34,120,34,32,99,32,60,45,32,97]=some (yw,0,.i64,0):=by kernel_rfl
def ac1:List hG:=[⟨[97],⟨[⟨3,0,0,0,0,[98],0,0,[]⟩],0⟩⟩,⟨[98],⟨[⟨2,0,0,0,0,[120],0,0,[]⟩],0⟩⟩]
def aqT:pR 100000 84 [97,32,60,45,32,98,32,98,32,60,45,32,34,120,34]=some (ac1,0,.i64,0):=by kernel_rfl
def aqU:(⟨([97,32,60,45,32,98,32,98,32,60,45,32,34,120,34,32,99,32,60,45,32,97]:List UInt8).toArray⟩:ByteArray)≠⟨#[]⟩:=by decide
def aqV:(⟨([97,32,60,45,32,98,32,98,32,60,45,32,34,120,34]:List UInt8).toArray⟩:ByteArray)≠⟨#[]⟩:=by decide
def aqW:z1 Ib (wT Ib 5) 5=true:=by kernel_rfl
def ac2:z1 yv (wT yv 5) 5=true:=by kernel_rfl
def aqX:z1 Ic (wT Ic 5) 5=true:=by kernel_rfl
def aqY:(B0 (gB Ib).ds (wT Ib 5)).2=42:=by kernel_rfl
def aqZ:EM yv (wT yv 5)=some 1:=by kernel_rfl
def aq0:EM Ic (wT Ic 5)=none:=by kernel_rfl
def Mg:List aQ:=(EN yv (wT yv 5) ⟨7,1,1,none,0,0,[],0⟩).2
def aq1:EN yv (wT yv 5) ⟨7,1,1,none,0,0,[],0⟩=(0,Mg):=by kernel_rfl
def aq2:oU (fF Mg) (gB ac0)=true:=by kernel_rfl
def aq3:Mg.length=1:=by kernel_rfl
def aq4:(Mg.all λd=>decide (d.t.n<=1000000))=true:=by kernel_rfl
def aq5:lC gb (gB yw) [0,1]=true:=by kernel_rfl
def SD:List aQ:=et ((eD [0,1]).take (gB yw).n) (gB yw).ds
def aq6:oU (fF SD) (gB ac1)=true:=by kernel_rfl
def aq7:(SD.all λd=>decide (d.t.n<=1000000))=true:=by kernel_rfl
def aq8:lC gb (gB yw) [0]=false:=by kernel_rfl
def aq9:lC gb (gB yw) [2,0,1]=true:=by kernel_rfl
def SE:List aQ:=et ((eD [2,0,1]).take (gB yw).n) (gB yw).ds
def ara:oU (fF SE) (gB yw)=true:=by kernel_rfl
def arb:(SE.all λd=>decide (d.t.n<=1000000))=true:=by kernel_rfl
def SF(ai:I b=none)(av:∀ k∈l,iT k)(aq:l.length<=1000000):z8 (ins I b (.cells (l.map (.int .i64 ·)).toArray 3 (0,0))) ⟨some ⟨b,0,none⟩,l.length,l.length,l⟩:=
 ⟨⟨by simp,⟨cj _,(by omega:l.length*0<=_)⟩,.inr ⟨⟨b,0,none⟩,rfl,rfl,_,_,_,q5 ..,by simp only[sX];exact eW (by simp)⟩⟩,av⟩
def SG(bp:e4 I gb):Spec Tryz.prog 22 [] I [] λv J nw=>v=.bool true/\(∀ b o,I b=some o->J b=some o)/\nw=[]:=by
 refine bN [] aV Tryz.func22 rfl rfl rfl ?_;intro B ar;refine a9.whole _ (Ca bp aqQ) ?_;rintro v cU N -⟨bO,dr,g,rfl,au,a5⟩;subst N;have lU:=bp.mono bO;refine a9.whole _ (aqJ lU (R3 aqW) au a5 aqY) ?_;rintro v ev N -⟨rfl,eM,dr⟩;subst N;have kY:=lU.mono eM;refine b4.mk (λ_=>?_) (λh=>absurd h (by simp));refine b8.mk λb1 nx at1=>?_;refine a9.whole _ (acV kY acZ ac2 (o:=some 1) aqZ (λr h=>by cases h;decide) (.inr ⟨1,⟨b1,0,none⟩,rfl,rfl,rfl,λJ M a1=>⟨rfl,_,_,_,.inr ⟨_,a1 _ (.head _),rfl,rfl⟩,rfl,rfl⟩⟩)) ?_;rintro v hK N -⟨rfl,hB,dr⟩;subst N;have ac3:=kY.mono hB;refine b4.mk (λ_=>?_) (λh=>by cases h);refine a9.mk [] [_] _ (.refl _) (aqM ac3 acZ aqR ac2 (way:=1) (rule:=1) (aO:=0) (pa:=none) (pn:=0) (pc:=0) aq1 aq2 (by rw[aq3];decide) aq4) ?_;rintro v mL N -⟨rfl,Sj,rfl⟩;have ac4:=ac3.mono Sj;refine b4.mk (λ_=>?_) (λh=>by cases h);refine a9.whole _ (acV ac4 aqS aqX (o:=none) aq0 (λr h=>by cases h) (.inl ⟨rfl,rfl⟩)) ?_;rintro v zb N -⟨rfl,ac5,dr⟩;subst N;have Ie:=ac4.mono ac5;refine b4.mk (λ_=>?_) (λh=>by cases h);refine b8.mk λmU SH at2=>?_;have arc:=acX (M0:=[⟨b1,.cells #[.int .i64 1100] 3 (0,0)⟩]) (Ie.mono (lr SH)) Mf aqT aqV (SF (l:=[0,1]) SH (by simp[iT]) (by decide)) (bS rfl) (ds:=SD) aq5 rfl aq6 aq7;refine a9.Ch (ins zb mU (.cells (List.map (λk:Int=>Value.int IntKind.i64 k) [0,1]).toArray 3 (0,0))) [⟨b1,.cells #[.int .i64 1100] 3 (0,0)⟩] [] _ (.nk (b:=mU) (o:=.cells (List.map (λk:Int=>Value.int IntKind.i64 k) [0,1]).toArray 3 (0,0)) (post:=[⟨b1,.cells #[.int .i64 1100] 3 (0,0)⟩]) rfl (by simp) .refl) arc ?_;rintro v C0 N - -⟨rfl,Mh,rfl⟩;have Mh:∀ b o,zb b=some o->C0 b=some o:=λb o h=>Mh _ _ (lr SH _ _ h);have If:=Ie.mono Mh;refine b4.mk (λ_=>?_) (λh=>by cases h);refine b8.mk λfB SI at3=>?_;have ard:=aqP (M0:=[⟨b1,.cells #[.int .i64 1100] 3 (0,0)⟩]) (If.mono (lr SI)) Mf (SF (l:=[0]) SI (by simp[iT]) (by decide)) (bS rfl) aq8
 refine a9.Ch (ins C0 fB (.cells (List.map (λk:Int=>Value.int IntKind.i64 k) [0]).toArray 3 (0,0))) [⟨b1,.cells #[.int .i64 1100] 3 (0,0)⟩] [] _ (.nk (b:=fB) (o:=.cells (List.map (λk:Int=>Value.int IntKind.i64 k) [0]).toArray 3 (0,0)) (post:=[⟨b1,.cells #[.int .i64 1100] 3 (0,0)⟩]) rfl (by simp) .refl) ard ?_;rintro v xz N - -⟨rfl,Mi,rfl⟩;have Mi:∀ b o,C0 b=some o->xz b=some o:=λb o h=>Mi _ _ (lr SI _ _ h);have Mj:=If.mono Mi;refine b4.mk (λ_=>?_) (λh=>by cases h);refine b8.mk λfC SJ at4=>?_;have are:=acX (M0:=[⟨b1,.cells #[.int .i64 1100] 3 (0,0)⟩]) (Mj.mono (lr SJ)) Mf Mf aqU (SF (l:=[2,0,1]) SJ (by simp[iT]) (by decide)) (bS rfl) (ds:=SE) aq9 rfl ara arb;refine a9.Ch (ins xz fC (.cells (List.map (λk:Int=>Value.int IntKind.i64 k) [2,0,1]).toArray 3 (0,0))) [⟨b1,.cells #[.int .i64 1100] 3 (0,0)⟩] [] _ (.nk (b:=fC) (o:=.cells (List.map (λk:Int=>Value.int IntKind.i64 k) [2,0,1]).toArray 3 (0,0)) (post:=[⟨b1,.cells #[.int .i64 1100] 3 (0,0)⟩]) rfl (by simp) .refl) are ?_;rintro v Jt N - -⟨rfl,Mk,rfl⟩;have Mk:∀ b o,xz b=some o->Jt b=some o:=λb o h=>Mk _ _ (lr SJ _ _ h);have at5:=Mj.mono Mk;exact⟨_,_,.sub (fZ _) .refl,rfl,λb o h=>Mk _ _ (Mi _ _ (Mh _ _ (ac5 _ _ (Sj _ _ (hB _ _ (eM _ _ (bO _ _ h))))))),rfl⟩
structure arf(u:cB)(x:Nat×Nat):Prop where
 q:x.2<=u.n
 p:x.1<=600
 small:x.1<200->u.n<200/\x.2<=u.n/\u.n<=x.1/\∀ i (h:i<u.ns.length),i<x.2->RQ u.ns[i]
def arh{u:cB}(im:xH I u) :
  Spec Tryz.prog 63 [u.val] I M0 λv I' M'=>(∃ w:Nat,v=.int .i64 w/\w<=600/\(w<200->LN u))/\I'=I/\M'=M0:=by
 refine bN [] aV Tryz.func63 rfl rfl rfl ?_;intro B ar;have at6:=im.n;have hz:=im.a8.cap;refine c4.inv (ι:=Nat×Nat) (λx=>{ bu:=[(1,.ref 1 0),(3,.val (.int .i64 x.1)),(4,.val (.int .i64 x.2))],cl:=[(1,u.cells)],cS:=I,db:=M0 }) (λx=>arf u x) (λx=>u.n-x.2) ?_ ?_
 ·refine⟨(min 200 u.n,0),⟨bw _,by simp only;omega,λh=>⟨by simp only at h;omega,bw _,by simp only at h |-;omega,λi _ h=>by simp at h⟩⟩,.refl,.cons .refl (.cons ?_ (.cons .refl .nil)),.cons rfl (.nil)⟩;simp only;rw[show((min 200 u.n:Nat):Int)=min 200 (u.n:Int) by omega];exact .refl
 rintro⟨p,q⟩⟨aM,aD,sB⟩;simp only at aM aD sB;have fin:(p<200->u.n<=q)->∃ w:Nat,Value.int .i64 (p:Int)=.int .i64 w/\w<=600/\(w<200->LN u):=λh=>by
  refine⟨p,rfl,aD,λab=>?_⟩;obtain⟨tz,oM,Ea,SK⟩:=sB ab;have:=h ab;exact⟨by omega,λbT cg=>by
   obtain⟨y,aF,rfl⟩:=re cg;exact SK y aF (by omega)⟩
 refine b4.mk (λbC=>aU.mk (λbP=>?_) (λbP=>?_)) (λbC=>?_)
 ·have fm:q<u.n:=by simpa using bC
  have m4:p<200:=by have:=c1 bP;omega
  obtain⟨tz,oM,Ea,SK⟩:=sB m4;have ot:q<u.ns.length:=by omega
  obtain⟨A2,BW,tI⟩:=im.a8.row aS.cD fm ot;have cg:=im.ns _ (cJ ot);have dW:=cg.ts;have iF:∀ M,cr I M ((A2.add (q*9)).add 8) 1 [.slice u.ns[q].hk u.ns[q].kn u.ns[q].gR]:=λM=>(tI M).part (k:=8) (m:=1) (by decide);have oz:∀ M,cr I M ((A2.add (q*9)).add 5) 1 [.string u.ns[q].t]:=λM=>(tI M).part (k:=5) (m:=1) (by decide);generalize ari:u.ns[q]=bT at cg dW iF oz;refine c5.draw aV rfl rfl rfl ?_;refine bi.mk A2 q BW rfl fm ?_;refine aI.mk _ (iF _) ?_;refine bd.mk ((p+min 200 bT.kn:Nat):Int) (gK (by omega) (by omega)) ?_;refine bi.mk A2 q BW rfl fm ?_;refine aI.mk _ (oz _) ?_;refine tO.mk (by decide) ?_;refine bd.mk ((bT.t.size/20:Nat):Int) (gK (by rw[OY (by omega)];omega) (by omega)) ?_;refine bd.mk ((p+min 200 bT.kn+min 200 (bT.t.size/20):Nat):Int) (gK (by omega) (by omega)) ?_;refine bd.mk _ (cx (i:=q) (by omega)) ?_;refine⟨(_,q+1),⟨⟨by simp only;omega,by simp only;omega,λeo=>?_⟩,by simp only;omega⟩,.refl,fH,.cons rfl (.nil)⟩;simp only at eo |-;refine⟨tz,by omega,by omega,λi hi hV=>?_⟩;by_cases e:i=q;·subst e;rw[ari];exact⟨by omega,by omega⟩
  ·exact SK i hi (by omega)
 ·have m4:200<=p:=by have:=dj bP;omega
  exact⟨_,_,.refl,fin (λh=>by omega),rfl,rfl⟩
 ·have fm:u.n<=q:=by simpa using bC
  exact⟨_,_,.refl,fin (λh=>fm),rfl,rfl⟩
structure arj(g:bJ)(x:Nat×Nat):Prop where
 k:x.2<=g.n
 p:x.1<=1200
 small:x.1<200->x.2<=x.1/\∀ i (h:i<g.ds.length),i<x.2->abB g.ds[i]
def ark(au:sb I g) :
  Spec Tryz.prog 21 [g.val,.slice none 0 0] I [] λv I' M'=>(∃ r,v=.bool r/\(r=false->RR g))/\I'=I/\M'=[]:=by
 refine bN [] aV Tryz.func21 rfl rfl rfl ?_;intro B ar;have eH:=au.n;have hz:=au.a8.cap;refine c4.inv (ι:=Nat×Nat) (λx=>{ bu:=[(1,.val (.slice none 0 0)),(2,.ref 2 0),(5,.val (.int .i64 x.1)),(6,.val (.int .i64 x.2))],cl:=[(2,[.slice g.a g.n g.c])],cS:=I }) (λx=>arj g x) (λx=>g.n-x.2) ?_ ?_
 ·exact⟨(0,0),⟨bw _,bw _,λh=>⟨cj _,λi _ h=>by simp at h⟩⟩,.refl,ey,.cons rfl (.nil)⟩
 rintro⟨p,k⟩⟨af,aD,sB⟩;simp only at af aD sB;have fin:(p<200->g.n<=k)->∀ c:Bool,c=decide ((200:Int)<=(p:Int))->(c=false->RR g):=λh c aA aJ=>by
  rw[aJ]at aA;have m4:p<200:=by have:=dj aA.symm;omega
  obtain⟨tz,oM⟩:=sB m4;have:=h m4;exact⟨by omega,λd ah=>by
   obtain⟨y,aF,rfl⟩:=re ah;exact oM y aF (by omega)⟩
 refine b4.mk (λbC=>aU.mk (λbP=>?_) (λbP=>?_)) (λbC=>?_)
 ·have cw:k<g.n:=by simpa using bC
  have m4:p<200:=by have:=c1 bP;omega
  obtain⟨tz,oM⟩:=sB m4;have j2:k<g.ds.length:=by omega
  obtain⟨ad,bF,bk⟩:=au.a8.row aQ.cD cw j2;have ah:=au.ds _ (cJ j2);have n6:=ah.name;have im:=ah.t;have h4:∀ M,cr I M ((ad.add (k*3)).add 0) 1 [.string g.ds[k].name]:=λM=>(bk M).part (k:=0) (m:=1) (by decide);have fM:∀ M,cr I M ((ad.add (k*3)).add 1) 2 g.ds[k].t.cells:=λM=>(bk M).part (k:=1) (m:=2) (by decide);have e5:g.ds[k]=⟨g.ds[k].name,g.ds[k].t⟩:=rfl;generalize g.ds[k].name=nm at n6 h4 e5;generalize g.ds[k].t=u at im fM e5;refine c5.draw aV rfl rfl rfl ?_;refine bd.mk ((p+1:Nat):Int) (gK (by omega) (by omega)) ?_;refine bi.mk ad k bF rfl cw ?_;refine aI.mk _ (h4 _) ?_;refine tO.mk (by decide) ?_;refine bd.mk ((nm.size/20:Nat):Int) (gK (by rw[OY (by omega)];omega) (by omega)) ?_;refine bd.mk ((p+1+min 200 (nm.size/20):Nat):Int) (gK (by omega) (by omega)) ?_;refine bi.mk ad k bF rfl cw ?_;refine aI.mk _ (fM _) ?_;refine hf.whole _ (arh im) (λv I' M' h x ae=>by rw[h.2.2];exact ae) ?_;rintro v EE N -⟨⟨w,rfl,hw,ta⟩,HZ,dr⟩;subst EE;subst N;refine bd.mk ((p+1+min 200 (nm.size/20)+w:Nat):Int) (gK (by omega) (by omega)) ?_;refine bd.mk _ (cx (i:=k) (by omega)) ?_;refine⟨(_,k+1),⟨⟨by simp only;omega,by simp only;omega,λeo=>?_⟩,by simp only;omega⟩,.refl,ey,.cons rfl (.nil)⟩;simp only at eo |-;refine⟨by omega,λi hi hV=>?_⟩;by_cases e:i=k;·subst e;rw[e5];exact⟨by simp only;omega,ta (by omega)⟩
  ·exact oM i hi (by omega)
 ·have m4:200<=p:=by have:=dj bP;omega
  refine c4.w8 1 ?_;refine b4.mk (λh=>absurd h (by simp)) (λ_=>?_);exact⟨_,_,.refl,⟨_,rfl,fin (λh=>by omega) _ rfl⟩,rfl,rfl⟩
 ·have cw:g.n<=k:=by simpa using bC
  refine c4.w8 1 ?_;refine b4.mk (λh=>absurd h (by simp)) (λ_=>?_);exact⟨_,_,.refl,⟨_,rfl,fin (λh=>cw) _ rfl⟩,rfl,rfl⟩
section
variable{ax:List Int}{g:bJ}(aq:g.ds.length=g.n)(hm:dF ax g=0)
include aq hm
def arl:((mr ax g).head?.isSome)=decide ((((pC ax g 0).length:Nat):Int)<(g.n:Int))/\(pC ax g 0).length<=g.n:=by
 have ar:=(EF.1 hm).1;have b9:=uu aq;have av:(dC g).length=g.ds.length:=by simp[dC]
 have lY:=(F8 b9 (i:=0) (by omega)).len;have iu:pC ax g 0=gj true 0 (gw (dC g) 0):=by
  unfold pC;have:nH 0 g.n=true:=by unfold nH;simp;omega
  rw[this,eN hm];rfl
 have arm:mr ax g=gj false 0 (gw (dC g) 0):=by unfold mr;rw[eN hm,de (by omega)];rfl
 have ai:=Vt (gw (dC g) 0) 0 0;rw[lY,av]at ai;rw[iu,arm];refine⟨?_,by omega⟩;cases e:gj false 0 (gw (dC g) 0)with
 |nil=>
  rw[e]at ai;simp only[gV]at ai
  symm
  exact de (by omega)
 |cons u l=>
  rw[e]at ai;simp only[ea]at ai
  symm
  exact eN (by omega)
end
def arn{J:aZ}(au:g.ok I)(br:h.ok J){s:List Bool}(dz:h.ba=(fF (et s g.ds)).ba)(af:∀ d∈g.ds,mB d.t):∀ d∈h.ds,mB d.t:=
 apl au.ds br.ds (λd ah=>by
  have bC:d.ba∈(et s g.ds).map aQ.ba:=by rw[<-show h.ds.map aQ.ba=(et s g.ds).map aQ.ba from congrArg bJ.ds dz];exact dA.2 ⟨d,ah,rfl⟩
  obtain⟨e,he,bP⟩:=dA.1 bC;exact⟨e,(B3 s g.ds).subset he,bP.symm⟩) af
def SL(nm:ByteArray):∀ (ds:List aQ) (i:Nat),b2 nm (ds.map aQ.ba) i=b2 nm ds i
 |[],i=>rfl| d::ds,i=>by rw[cY,b2,b2,SL nm ds];rfl
def aro{cX:List aQ}(af:tH g.ds cX up)(dz:h.ba=(fF cX).ba):LY g h up:=by
 have e5:h.ds.map aQ.ba=cX.map aQ.ba:=congrArg bJ.ds dz;have bQ:h.ds.length=cX.length:=by simpa using congrArg List.length e5
 have oy:∀ i (hi:i<h.ds.length),∃ aa:up i<g.ds.length,g.ds[up i].ba=h.ds[i].ba:=λi hi=>by obtain⟨ej,ed⟩:=af.get (i:=i) (by omega);refine⟨ej,?_⟩;rw[ed];have:=congrArg (λl=>l[i]?) e5;simp only[lE]at this;rw[eb hi,eb (by omega)]at this;exact(kV this).symm
 refine⟨λi hi=>?_,λi hi n aq ag=>?_⟩
 ·obtain⟨aa,ab⟩:=oy i hi;have eR:g.ds[up i].ba.name=h.ds[i].ba.name:=congrArg aQ.name ab;exact⟨aa,congrArg (λd=>d.t.ns) ab,congrArg (λd=>d.t.bD) ab,eR⟩
 ·obtain⟨aa,ab⟩:=oy i hi;obtain⟨ej,ed⟩:=af.get (i:=i) (by omega);have hm:n.ba∈(h.ds[i].t.ns.map aS.ba):=dA.2 ⟨n,aq,rfl⟩;rw[<-show g.ds[up i].t.ns.map aS.ba=h.ds[i].t.ns.map aS.ba from congrArg (λd=>d.t.ns) ab,ed]at hm;obtain⟨eO,Cz,e⟩:=dA.1 hm;have BP:eO.ba.k=n.ba.k:=congrArg aS.k e;have BP:eO.k=n.k:=BP;have aY:eO.ba.t=n.ba.t:=congrArg aS.t e;have aY:eO.t=n.t:=aY;obtain⟨q,aM,f1,f2⟩:=af.cl _ (cJ (show i<cX.length by omega)) eO Cz (BP.trans ag);rw[aY]at f1 f2;refine⟨q,by omega,?_,f2⟩;rw[<-SL,e5,SL];exact f1
structure Ig(I:aZ)(g h:bJ)(s:ByteArray)(up:Nat->Nat):Prop where
 L7:g.ok I
 br:h.ok I
 ac6:dF gb g=0
 SM:dF gb h=0
 ap:s.size<=30
 arp:g.n<=4096
 aq:h.n<=4096
 k:LY g h up
 f:∀ i (hi:i<h.ds.length),b2 h.ds[i].name g.ds 0=((up i:Nat):Int)
 Gi:up 0=0
def arq(hm:dF gb g=0){i:Nat}(hi:i<g.ds.length):b2 g.ds[i].name g.ds 0=(i:Int):=by have h:=(EF.1 hm).2.2.2.1 i hi;rw[Re hi]at h;exact c1 h
def Ig.zZ{s:ByteArray}(p:Ig I g h s up){i a:Nat}(hi:i<h.ds.length){o o':tp}(aa:u0 (jr h s) (qp h i) a o e)(ab:u0 (jr g s) (qp g (up i)) a o' bq):o=o'/\e=bq:=by have hm:qo h:=Kd p.SM λd ah=>(p.br.ds d ah).t.n;obtain⟨h4,fM⟩:=apb hm p.k hi;rw[<-fM]at ab;exact(apa p.L7 p.br hm p.k s).zZ h4 aa ab
def ars(bp:e4 I gb){s:ByteArray}(aD:Ig I g h s up):Spec Tryz.prog 25 [g.val,h.val,.string s] I [] λv I' M'=>v=.bool true/\(∀ b o,I b=some o->I' b=some o)/\M'=[]:=by
 have au:=aD.L7;have br:=aD.br;have eH:=au.n;have EH:=br.n;have ap:=aD.ap;have ac7:s.size<=4096:=by omega
 have at7:=aD.arp;have aua:=aD.aq;have F5:qo g:=Kd aD.ac6 λd ah=>(au.ds d ah).t.n;have SN:qo h:=Kd aD.SM λd ah=>(br.ds d ah).t.n;have Ih:∀ d∈g.ds,∀ n∈d.t.ns,0<=n.k:=λd ah n aq=>((au.ds d ah).t.ns n aq).k.1;have SO:∀ d∈h.ds,∀ n∈d.t.ns,0<=n.k:=λd ah n aq=>((br.ds d ah).t.ns n aq).k.1;have GF:0<g.ds.length:=by have:=F5.n;omega
 have ac8:0<h.ds.length:=by have:=SN.n;omega
 have art:h.ds[0].name=g.ds[0].name:=by obtain⟨aa,-,-,ab⟩:=aD.k.aO 0 ac8;rw[<-ab];congr 2;exact aD.Gi
 refine bN [] aV Tryz.func25 rfl rfl rfl ?_;intro B ar;refine a9.whole _ (aa8 bp au (by omega) s) ?_;rintro v Aa N -⟨kE,rfl,SP⟩;have lU:=bp.mono kE;rcases SP with⟨bK,-⟩ | ⟨-,SQ,-⟩ | ⟨-,-,t,T,rfl,aru⟩
 ·exact absurd aD.ac6 bK
 ·exact absurd SQ (by omega)
 refine a9.whole _ (aa8 lU (br.mono kE) (by omega) s) ?_;rintro v hF N -⟨jy,rfl,SP⟩;rcases SP with⟨bK,-⟩ | ⟨-,SQ,-⟩ | ⟨-,-,u,U,rfl,arv⟩
 ·exact absurd aD.SM bK
 ·exact absurd SQ (by omega)
 have arw:=aru.mono jy;have eM:∀ b o,I b=some o->hF b=some o:=λb o h=>jy _ _ (kE _ _ h);obtain⟨IZ,arx,ary⟩:=(au.mono eM).a8.row aQ.cD (show 0<g.n by omega) GF;obtain⟨ac9,arz,arA⟩:=(br.mono eM).a8.row aQ.cD (show 0<h.n by omega) ac8;have ada:∀ M,cr hF M ((IZ.add (0*3)).add 0) 1 [.string g.ds[0].name]:=λM=>(ary M).part (k:=0) (m:=1) (by decide);have SR:∀ M,cr hF M ((ac9.add (0*3)).add 0) 1 [.string h.ds[0].name]:=λM=>(arA M).part (k:=0) (m:=1) (by decide);rw[art]at SR;generalize g.ds[0].name=aub at ada SR;have arB:∀ z:Int,(!decide (z=z))=false:=λz=>by rw[eN rfl];rfl
 refine c5.draw aV rfl rfl rfl ?_;refine b4.mk (λ_=>?_) (λh=>Ew rfl h);refine b4.mk (λ_=>?_) (λh=>Ew rfl h);refine bi.mk IZ 0 arx rfl (by omega) ?_;refine aI.mk _ (ada _) ?_;refine bi.mk ac9 0 arz rfl (by omega) ?_;refine aI.mk _ (SR _) ?_;refine aU.mk (λh=>absurd h (by simp)) (λ_=>?_);refine c4.inv (ι:=Nat×aZ) (λx=>{ bu:=[(2,.val (.string s)),(3,.ref 3 0),(4,.ref 4 0),(7,.val (ptr t.bt)),(9,.val (ptr u.bt)),(11,.val (.int .i64 x.1))],cl:=[(3,[.slice g.a g.n g.c]),(4,[.slice h.a h.n h.c])],cS:=x.2,db:=[] }) (λx=>x.1<=h.n/\∀ b o,hF b=some o->x.2 b=some o) (λx=>h.n-x.1) ?_ ?_
 ·exact⟨(0,hF),⟨bw _,λ_ _ h=>h⟩,.refl,kf,.cons rfl (.cons rfl (.nil))⟩
 rintro⟨i,J⟩⟨hi,bM⟩;simp only at hi bM;refine aU.mk (λe=>?_) (λe=>?_)
 rotate_left
 ·exact⟨_,_,.refl,rfl,λb o h=>bM _ _ (eM _ _ h),rfl⟩
 have aR:i<h.n:=by have ab:decide ((i:Int)<(h.n:Int))=true:=e;have:=c1 ab;omega
 have bZ:i<h.ds.length:=by omega
 have adb:∀ b o,I b=some o->J b=some o:=λb o h=>bM _ _ (eM _ _ h);obtain⟨ade,oN,arC⟩:=(br.mono adb).a8.row aQ.cD aR bZ;have ma:=aD.f i bZ;obtain⟨Bf,-⟩:=aD.k.aO i bZ;have r4:=λ(a:Nat) (o o':tp) (e bq:Int) (aa:u0 (jr h s) (qp h i) a o e) (ab:u0 (jr g s) (qp g (up i)) a o' bq)=>aD.zZ bZ aa ab;have adf:∀ M,cr J M ((ade.add (i*3)).add 0) 1 [.string h.ds[i].name]:=λM=>(arC M).part (k:=0) (m:=1) (by decide);generalize h.ds[i].name=arD at adf ma;generalize up i=z at ma Bf r4;have qQ:z<g.n:=by omega
 refine c5.draw aV rfl rfl rfl ?_;refine bi.mk ade i oN rfl aR ?_;refine aI.mk _ (adf _) ?_;refine a9.mk [] [] _ (.refl _) (NR (au.mono adb) arD) ?_;rintro v yn N -⟨rfl,rfl,rfl⟩;rw[ma];refine c4.inv (ι:=Nat×aZ) (λx=>{ bu:=[(2,.val (.string s)),(3,.ref 3 0),(4,.ref 4 0),(7,.val (ptr t.bt)),(9,.val (ptr u.bt)),(11,.val (.int .i64 i)),(12,.val (.int .i64 z)),(13,.val (.int .i64 x.1))],cl:=[(3,[.slice g.a g.n g.c]),(4,[.slice h.a h.n h.c])],cS:=x.2,db:=[] }) (λx=>x.1<=s.size+1/\∀ b o,hF b=some o->x.2 b=some o) (λx=>s.size+1-x.1) ?_ ?_
 ·exact⟨(0,yn),⟨bw _,bM⟩,.refl,rP,.cons rfl (.cons rfl (.nil))⟩
 rintro⟨j,K⟩⟨an,eu⟩;simp only at an eu;refine aU.mk (λaE=>?_) (λaE=>?_)
 rotate_left
 ·refine bd.mk _ (cx (i:=i) (by omega)) ?_;exact⟨(i+1,K),⟨⟨by omega,eu⟩,by simp only;omega⟩,.refl,kf,.cons rfl (.cons rfl (.nil))⟩
 have B4:j<=s.size:=by have ab:(j:Int)<=(s.size:Int):=c1 aE;omega
 have adg:=arv.mono eu;have arE:=adg.abz SN SO ac7;refine a9.whole _ (abE adg SN arE EH (i:Int) (j:Int) λo e h=>(h.zZ aR B4).rl) ?_;rintro v EE N -⟨HZ,rfl,cu,h0,fB,zt,az,arF,rfl,adh⟩;have td:=arF.zZ aR B4;have adi:=(arw.mono eu).mono HZ;have BY:=adi.abz F5 Ih ac7;refine a9.whole _ (abE adi F5 BY eH (z:Int) (j:Int) λo e h=>(h.zZ qQ B4).rl) ?_;rintro v auc N -⟨adj,rfl,dG,lP,fC,OX,aE,H9,rfl,arG⟩;have nC:=H9.zZ qQ B4;obtain⟨rfl,rfl⟩:=r4 _ _ _ _ _ td nC;refine b4.mk (λ_=>?_) (λh=>Ew (arB az) h);have hz:=td.rl;have oq:h0<=140737488355327:=by have:=aoA adh;omega
 refine a9.whole _ (aoz (o:=zt) (o':=zt) (adh.mono adj) arG oq) ?_;rintro v arH N -⟨⟨q,rfl,aM⟩,rfl,rfl⟩;have arI:(!q)=false:=by rw[aM.2 rfl];rfl
 refine aU.mk (λh=>Ew arI h) (λ_=>?_);refine bd.mk _ (cx (i:=j) (by omega)) ?_;exact⟨(j+1,arH),⟨⟨by omega,λb o h=>adj _ _ (HZ _ _ (eu _ _ h))⟩,by simp only;omega⟩,.refl,rP,.cons rfl (.cons rfl (.nil))⟩
def arJ(bp:e4 I gb){s:ByteArray}(aD:Ig I g h s up):Spec Tryz.prog 25 [g.val,h.val,.string s] I M0 λv I' M'=>v=.bool true/\(∀ b o,I b=some o->I' b=some o)/\M'=M0:=by refine Spec.nT (Spec.frame (ars bp aD)) ?_;rintro v J M⟨M',rfl,-,bM,aj,-,rfl⟩;exact⟨aj,bM,rfl⟩
def arK{r:Int}(h:L2 gb g (some r)):∃ x,tG gb g x/\x.2=0/\dF gb g=0/\(mr gb g).head?=some r:=by
 obtain⟨x,aa,ab⟩:=h;by_cases ag:x.2=0
 ·rw[cn ag]at ab;refine⟨x,aa,ag,?_,ab.symm⟩;rcases aa with⟨a,e⟩ | ⟨a,-⟩
  ·rw[e]at ag;exact ag
  ·exact a
 ·rw[cb ag]at ab;cases ab
def arL(bp:e4 I gb)(rB:sb I g){s:ByteArray}(ap:s.size<=9223372036854775807):wY Tryz.prog 5 [g.val,.string s] I [] λv _ _=>v=.bool true:=by
 refine Ct [] aV Tryz.func5 rfl rfl rfl ?_;intro B ar;refine a9.mk [] [] _ (.refl _) (ark rB) ?_;rintro v J N -⟨⟨r,rfl,ak⟩,CF,aud⟩;subst J;subst N;cases r with
 |true=>refine b4.mk (λh=>absurd h (by simp)) (λ_=>?_);refine a9.mk [] [] _ (.refl _) (SG bp) ?_;rintro v Aa N -⟨rfl,kE,rfl⟩;exact⟨_,_,.refl,rfl⟩
 |false=>
 refine b4.mk (λ_=>?_) (λh=>absurd h (by simp));by_cases aue:30<s.size
 ·refine b4.mk (λh=>aop (eN (show(30:Int)<(s.size:Int) by omega)) h) (λ_=>?_);refine a9.mk [] [] _ (.refl _) (SG bp) ?_;rintro v Aa N -⟨rfl,kE,rfl⟩;exact⟨_,_,.refl,rfl⟩
 refine b4.mk (λ_=>?_) (λh=>Ew (de (show ¬ (30:Int)<(s.size:Int) by omega)) h);refine a9.mk [] [] _ (.refl _) (SG bp) ?_;rintro v Aa N -⟨rfl,kE,rfl⟩;refine aU.mk (λh=>by cases h) (λ_=>?_);have sM:=ak rfl;have bp:=bp.mono kE;have au:=(rB.mono kE).HQ sM;have eH:=au.n;have auf:=sM.n;clear rB ak;have Ih:∀ d∈g.ds,mB d.t:=λd ah n aq=>by have:=((sM.ds d ah).t.ns n aq).kn;omega
 refine a9.whole _ (acs bp au (by omega) Ih) ?_;rintro v SS N -⟨adk,Be,EO,arM,adl,rfl,dr⟩;subst N;have bQ:=adl.len;rw[fQ _ 5 ng.cD]at bQ;cases Be with
 |none=>
  have aq:EO.n=0:=by simp[B5]at bQ;omega
  refine c4.w8 1 ?_;refine b4.mk (λh=>absurd h (by simp[aq])) (λ_=>?_);exact⟨_,_,.refl,rfl⟩
 |some a8=>
 have aq:EO.n=1:=by simp[B5]at bQ;omega
 obtain⟨DB,qH,aa,hm,fA⟩:=arK arM;obtain⟨aug,OG⟩:=arl eH hm;have Ie:=bp.mono adk;have AW:=au.mono adk;obtain⟨ad,bF,bk⟩:=a'.ok.row (I:=SS) (M:=EO.aP 72++[]) (e:=72) ng.cD (by decide) adl (λz bf=>kF _ bf) (j:=0) (by simp[B5]);have bk:cr SS (EO.aP 72++[]) (ad.add (0*5)) 5 (nX (some a8)).cells:=bk;refine c4.w8 2 ?_;refine b4.mk (λ_=>?_) (λh=>absurd h (by simp[aq]));refine aU.mk (λ_=>?_) (λh=>absurd h (by decide));have n':∀ {J6:aZ} {r:Int×List aQ} {h:bJ},H4 gb g (nX (some a8)) r->h.ba=(fF r.2).ba->r.1=0/\h.ba=(fF (et (gw (dC g) 0) g.ds)).ba:=fun {J6 r h} bk dz=>by
  have gF:r=(0,et (gw (dC g) 0) g.ds):=by obtain⟨kc,ab,ag⟩:=bk;rw[ab.eq qH,cn aa,fA]at ag;rw[ag,cn];simp[B6,nX]
  exact⟨by rw[gF],by rw[dz,gF]⟩
 have di:=λM=>acR (M0:=M) Ie AW Ih (nX (some a8));refine c5.aeq aV rfl rfl rfl (ι:=Nat×bJ×aZ) (λx=>{ bu:=[(1,.val (.string s)),(2,.ref 2 0),(5,.val EO.val),(6,.val (.int .i64 0)),(7,.val (ptr x.1)),(8,.val (.int .i64 0))],cl:=[(2,[.slice g.a g.n g.c])],cS:=x.2.2,db:=⟨x.1,.cells [.slice x.2.1.a x.2.1.n x.2.1.c].toArray 24 (0,0)⟩::(EO.aP 72++[]) }) (λx=>(∀ b o,SS b=some o->x.2.2 b=some o)/\x.2.1.ok x.2.2/\x.2.1.ba=(fF (et (gw (dC g) 0) g.ds)).ba) ?_ ?_
 ·refine bi.mk ad 0 bF rfl (by omega) ?_;refine aI.mk _ bk ?_;refine⟨?_,?_⟩
  ·refine a9.whole _ (di _) ?_;rintro v J6 N -⟨Cb,dr,r,h,bk,rfl,br,dz⟩;subst N;obtain⟨h9,dz⟩:=n' (J6:=J6) bk dz;refine b8.mk λbW gJ te=>?_;refine cp.a0 [] _ _ _ rfl rfl rfl rfl [.slice h.a h.n h.c] rfl ?_;exact⟨(bW,h,J6),⟨Cb,br,dz⟩,.refl,.cons .refl (.cons .refl (.cons .refl (.cons .refl (.cons .refl (.cons (LJ (by rw[h9])) .nil))))),.cons rfl (.nil)⟩
  ·refine b8.mk λbW gJ te=>?_;refine hf.whole _ (di _) (λv I' M' h x ae=>by rw[h.2.1];exact ae) ?_;rintro v J6 N -⟨Cb,dr,r,h,bk,rfl,br,dz⟩;subst N;obtain⟨h9,dz⟩:=n' (J6:=J6) bk dz;refine cp.a0 [] _ _ _ rfl rfl rfl rfl [.slice h.a h.n h.c] rfl ?_;exact⟨(bW,h,J6),⟨Cb,br,dz⟩,.refl,.cons .refl (.cons .refl (.cons .refl (.cons .refl (.cons .refl (.cons (LJ (by rw[h9])) .nil))))),.cons rfl (.nil)⟩
 rintro⟨bW,h,J6⟩⟨Cb,br,dz⟩;simp only at Cb br dz;have If:=Ie.mono Cb;obtain⟨g6,af⟩:=ach eH hm (i:=0) (by have:=RT hm;omega);obtain⟨po,pq,C5,VB,-⟩:=apG eH hm dz;have SO:=arn AW br dz Ih;have EH:=br.n;have bU:∃ F,k3 g.ds F:=by
  rcases qH with⟨a,-⟩ | ⟨-,F,bU,-⟩;·exact absurd hm a
  ·exact⟨F,bU⟩
 obtain⟨F,bU⟩:=bU;have hw:=(qH.get hm).1 aa;rw[RS bU]at hw;obtain⟨nq,cH,Cl,kd,w7⟩:=apy AW af dz VB hm bU hw.1 hw.2;have adm:=aro af dz;refine b4.mk (λ_=>?_) (λh=>Ew rfl h);refine aI.mk [.slice h.a h.n h.c] ⟨rfl,_,_,_,.inr ⟨_,.head _,rfl,rfl⟩,rfl,rfl⟩ ?_;refine a9.whole _ (L1 If br SO) ?_;rintro v arN N -⟨SU,dr,nK,rfl,tI⟩;subst N;have xv:nK.2=0:=by have:=(tI.get nq).2;rw[RS Cl]at this;exact this ⟨kd,w7⟩
 have Mj:=If.mono SU;have sB:Ig arN g h s (ld (gw (dC g) 0)):=⟨(AW.mono Cb).mono SU,br.mono SU,hm,nq,by omega,by omega,by omega,adm,λi hi=>by
  obtain⟨ej,-,-,ed⟩:=adm.aO i hi;rw[<-ed];exact arq hm ej,C5⟩
 refine b4.mk (λ_=>?_) (λh=>absurd h (by simp[xv]));refine aI.mk [.slice h.a h.n h.c] ⟨rfl,_,_,_,.inr ⟨_,.head _,rfl,rfl⟩,rfl,rfl⟩ ?_;refine a9.whole _ (arJ Mj sB) ?_;rintro v auh N -⟨rfl,aui,dr⟩;subst N;refine aU.mk (λh=>by cases h) (λ_=>?_);refine bd.mk 1 (by decide) ?_;refine b4.mk (λh=>absurd h (by simp[aq])) (λ_=>?_);exact⟨_,_,.refl,rfl⟩
end Go.V
