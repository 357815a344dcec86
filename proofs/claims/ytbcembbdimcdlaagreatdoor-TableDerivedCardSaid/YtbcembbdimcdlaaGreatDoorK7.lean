/- Part 7 of what the proofs of this seat share: the executor, data in memory, walks.
-/
import Derived.Test.YtbcembbdimcdlaaGreatDoorK5
import Derived.Test.YtbcembbdimcdlaaGreatDoorK4
import Derived.Test.YtbcembbdimcdlaaGreatDoorK3
import Derived.Test.YtbcembbdimcdlaaGreatDoorK2
import Derived.Test.YtbcembbdimcdlaaGreatDoorK6
set_option linter.all false
set_option maxHeartbeats 8000000
set_option maxRecDepth 100000
namespace Go.V
open Go Go.Proofs
def xC:=@List.length_reverse
def xD:=@Nat.not_lt_zero
def AS:=@BitVec.getLsbD_or
def Fe:=@List.countP_cons
def RF:=@BitVec.eq_of_getLsbD_eq
def RG:=@BitVec.getLsbD_and
def RH:=@List.mem_range'_1
def Mi:=@Nat.lt_or_ge
def Mj:=@Int.le_refl
variable{I J I':aR}{os:a5}{e size N t j r lo to q n an:Nat}{post M D:List aI}{xs:List Value}{ds:List bI}{α:Type}{L:List (Nat×Nat)}{C2 Ff Fg Fh:aI}{hi mx:Operand}{v:aq}{y:BitVec 64}{dL:cQ}{m':Nat->Nat->cr}{pl:List (ByteArray×Int)}{F:List aY}{dt:bN}
def bI.RI(d:bI):Value:=.agg #[.string d.name,.slice d.t.a d.t.n d.t.c,.int .i64 d.t.bF]
def IA:bI:=⟨⟨#[]⟩,⟨[],none,0,0,0⟩⟩
def sq(l:List bI)(m:Nat):List (List Value):=(List.range m).reverse.map λi:Nat=>[.int .i64 (i:Int),(l.getD i IA).RI]
def akQ(l:List bI)(m:Nat):sq l (m+1)=[.int .i64 m,(l.getD m IA).RI]::sq l m:=by unfold sq;rw[Cv,Em,OF,Hn,dv]
def RJ(l:List bI)(m:Nat):(sq l m).length=m:=by simp[sq]
def akR(l:List bI){m k:Nat}(ae:k<m):(sq l m)[k]'(by rw[RJ];exact ae)=[.int .i64 ((m-1-k:Nat):Int),(l.getD (m-1-k) IA).RI]:=by simp only[sq,lA,List.getElem_reverse,q0,r2]
def akS(a:Option Addr)(n c:Nat):Spec Tryz.prog 105 [.slice a n c] I [] λr I' M'=>∃ b,r=.func (.func 161) #[] #[ptr b]/\I' b=some (.cells #[.slice a n c] 22 (0,0))/\(∀ b o,I b=some o->I' b=some o)/\M'=[]:=by refine b4 [1] aU Tryz.func105 rfl rfl rfl ?_;intro B ao;refine cv.mk λg aA Ed=>?_;exact⟨_,_,.rA rfl (by simp) .refl,g,rfl,uj ..,qP aA,rfl⟩
def akT{g:dn}(aA:g.ok I){b:Nat}(ah:I b=some (.cells #[.slice g.a g.n g.c] 22 (0,0))) :
  Iter Tryz.prog 161 [ptr b] I (sq g.ds g.n):=by
 intro y R vy z0 er M0 sX lY;refine Gp [] aU Tryz.func161 rfl rfl rfl ?_;intro B ao;have ig:=aA.bg.cap;have r7:=aA.n;have bu:∀ (dO:aR) (M:List aI),(∀ b o,I b=some o->dO b=some o)->cq dO M ((⟨b,0,none⟩:Addr).add 0) 1 [.slice g.a g.n g.c]:=λdO M dd=>⟨rfl,_,_,_,.inl (dd _ _ ah),rfl,rfl⟩;refine aK.mk _ (bu _ _ sX) ?_;refine bc.mk ((g.n:Int)-1) (by rw[wrap_i64 (by unfold my;omega)]) ?_;refine dG.inv (ι:=Nat×Nat×aR×List aI) (λx=>{ bx:=[(0,.val (.func (.yield y) #[] #[])),(1,.val (ptr b)),(3,.val (.int .i64 ((x.1:Int)-1)))],c2:=x.2.2.1,du:=x.2.2.2 }) (λx=>x.1<=g.n/\(∀ b o,I b=some o->x.2.2.1 b=some o)/\R x.2.1 x.2.2.1 x.2.2.2/\x.2.1<=(sq g.ds g.n).length/\(sq g.ds g.n).drop x.2.1=sq g.ds x.1) (λx=>x.1) ?_ ?_
 ·exact⟨(g.n,0,er,M0),⟨by simp,sX,lY,by simp,rfl⟩,.refl,f',.nil⟩
 ·rintro⟨m,k,dO,M1⟩⟨hm,dd,nO,ep,iX⟩;simp only at hm dd nO ep iX;refine aJ.mk (λh=>?_) (λh=>?_)
  ·have aS:(0:Int)<=(m:Int)-1:=bS h;obtain⟨m,rfl⟩:∃ q,m=q+1:=⟨m-1,by omega⟩;have az:((m+1:Nat):Int)-1=(m:Int):=by omega
   obtain⟨ad,bP,O7⟩:=(aA.bg.mono dd).row bI.de (j:=m) (by omega) (by omega);rw[akQ]at iX;obtain⟨ae,ak,qb⟩:=drop_cons iX;refine aK.mk _ (bu _ _ dd) ?_;refine bk.mk ad m bP az (by omega) ?_;refine aK.mk _ (O7 _) ?_;refine bs.yield rfl (by simp) rfl rfl ?_;have aH:=z0 k ae dO M1 dd nO;rw[ak]at aH;have aF:g.ds.getD m IA=g.ds[m]:=by simp[cS,show m<g.ds.length by omega]
   rw[aF,<-az]at aH;refine Kk.mk M1 [] _ (by simp) aH ?_;rintro v fE ey iL (⟨rfl,rP⟩ | ⟨rfl,ab⟩);·refine aJ.mk (λh=>by simp at h) (λ_=>?_);refine bc.mk ((m:Int)-1) (by rw[wrap_i64 (by unfold my;omega)];omega) ?_;exact⟨(m,k+1,fE,ey),⟨⟨by simp only;omega,λb o h=>iL b o (dd b o h),rP,ae,qb⟩,by simp only;omega⟩,.perm (by simp) .refl,f',.nil⟩
   ·refine aJ.mk (λ_=>?_) (λh=>by simp at h);exact⟨_,_,.perm (by simp) .refl,.inr ab⟩
  ·have cm:¬ (0:Int)<=(m:Int)-1:=cx h;obtain rfl:m=0:=by omega
   refine⟨_,_,.refl,.inl ?_⟩;have B3:k=(sq g.ds g.n).length:=by have:(sq g.ds g.n).drop k=[]:=iX.trans (by simp[sq]);have:=OI.1 this;omega
   rw[<-B3];exact nO
structure akU(ds:List bI)(gN nn en b6 m:Nat)(L:List Nat)(cN:List Value)(M:List aI):Prop where
 M:M=[⟨en,.cells [.slice (some ⟨gN,0,none⟩) L.length nn].toArray 57 (0,0)⟩,⟨b6,.cells [.int .i64 ((a6 (ds.take m):Nat):Int)].toArray 3 (0,0)⟩,dK gN cN]
 len:cN.length=nn
 an:cN.take L.length=L.map bQ
 Yz:L.length+a6 (ds.take m)=nn
 mem:∀ x,x∈L ↔ a6 (ds.take m)<=x/\x<nn
 cd:L.Nodup
def akV{g:dn}(aA:g.ok I){bt:Nat}{s:ByteArray}{nv rv rwv:Value}{na:Option Addr}{nn nc:Nat}(dT:I bt=some (.cells ([.string s,nv,rv,.slice na nn nc,rwv]:List Value).toArray 98 (0,0)))(tn:nn=a6 g.ds)(ah:nn<=1048576) :
  Spec Tryz.prog 56 [ptr bt,g.val] I [] λv I' M'=>(∀ b o,I b=some o->I' b=some o)/\∃ (gN:Nat) (L:List Nat) (cN:List Value),v=.slice (some ⟨gN,0,none⟩) L.length nn/\cN.length=nn/\cN.take L.length=L.map bQ/\L.length=nn/\(∀ x,x∈L ↔ x<nn)/\L.Nodup/\M'=[dK gN cN]:=by
 refine b4 [5,6] aU Tryz.func56 rfl rfl rfl ?_;intro B ao;have gB:=aA.n;have Z':∀ {I':aR} {M:List aI},(∀ b o,I b=some o->I' b=some o)->cq I' M ((⟨bt,0,none⟩:Addr).add 3) 1 [.slice na nn nc]:=λh=>by rw[eo _ rfl];exact⟨rfl,_,_,_,.inl (h _ _ dT),rfl,rfl⟩
 refine aK.mk _ (Z' λ_ _ h=>h) ?_;refine nE.mk 0 nn rfl rfl (bw _) (by show 8*nn<=_;omega) (by omega) ?_;refine cv.mk λgN asR asS=>?_;refine cv.mk λen Hh asT=>?_;refine cz.mk [] [⟨gN,_⟩] _ _ rfl rfl (b0 rfl) rfl ?_;refine aK.mk _ (Z' λ_ _ h=>h) ?_;refine cv.mk λb6 KL akW=>?_;refine cz.mk [] [⟨en,_⟩,⟨gN,_⟩] _ _ rfl rfl (b0 rfl) rfl ?_;refine a0.mk [] _ _ (.refl _) (akS g.a g.n g.c) ?_;rintro v dO M1 dd⟨c5,rfl,O9,-,rfl⟩;have nQ:=aA.mono dd;have vY:a6 (g.ds.take g.n)=nn:=by rw[fq (by omega),tn]
 refine c4.range (M1:=[⟨en,.cells [.slice (some ⟨gN,0,none⟩) 0 nn].toArray 57 (0,0)⟩,⟨b6,.cells [.int .i64 (nn:Nat)].toArray 3 (0,0)⟩,dK gN (rowOf [bQ 0] (nn*1))]) aU rfl rfl rfl (.perm (.swap _ _ _) .refl) (akT nQ O9) (λvs h=>?_) (λk I' M'=>∃ (L:List Nat) (cN:List Value),(∀ b o,dO b=some o->I' b=some o)/\akU g.ds gN nn en b6 (g.n-k) L cN M') (λex I' M'=>False) ⟨[],rowOf [bQ 0] (nn*1),λ_ _ h=>h,⟨?_,by simp[rowOf],rfl,by rw[xh,vY];simp,λx=>?_,Bp⟩⟩ ?_ ?_ (λex I' M' _ h=>h.elim)
 ·obtain⟨p,_,rfl⟩:=dC.1 h;rfl
 ·rw[xh,vY];rfl
 ·rw[xh,vY];simp
 ·rintro k ae I' M' -⟨L,cN,bn,a4⟩l B ao jX;obtain⟨rfl,gw,im,oL,uw,Hs⟩:=a4;rw[RJ]at ae;have ak:=akR g.ds ae;rw[ak];obtain⟨m,hm⟩:∃ m,g.n-k=m+1:=⟨g.n-k-1,by omega⟩;have sU:g.n-1-k=m:=by omega
  have mL:g.n-(k+1)=m:=by omega
  have l1:m<g.ds.length:=by omega
  have Oo:g.ds.getD m IA=g.ds[m]:=by simp[cS,l1]
  have nK:=LI l1;have k':=(aA.ds _ (cC l1)).t.n;have sK:=Qu g.ds (m+1);rw[sU,Oo];rw[hm]at oL uw;simp only[hm];generalize g.ds[m]=d at nK k';have z6:∀ {M:List aI} {e:Nat},(⟨b6,.cells [.int .i64 (e:Int)].toArray 3 (0,0)⟩:aI)∈M->cq I' M ⟨b6,0,none⟩ 1 [.int .i64 (e:Int)]:=λa2=>⟨rfl,_,_,_,.inr ⟨_,a2,rfl,rfl⟩,rfl,rfl⟩;have akX:∀ {M:List aI} {v:Value},(⟨en,.cells [v].toArray 57 (0,0)⟩:aI)∈M->cq I' M ⟨en,0,none⟩ 1 [v]:=λa2=>⟨rfl,_,_,_,.inr ⟨_,a2,rfl,rfl⟩,rfl,rfl⟩;refine aK.mk _ (z6 (e:=a6 (g.ds.take (m+1))) (.tail _ (.head _))) ?_;refine bc.mk ((a6 (g.ds.take m):Nat):Int) (fK (by omega) (by omega)) ?_;refine dG.inv (ι:=Nat×List Value) (λx=>{ bx:=[(5,.val (ptr en)),(6,.val (ptr b6)),(9,.val (.int .i64 (a6 (g.ds.take m):Nat))),(10,.val (.int .i64 ((a6 (g.ds.take m)+x.1:Nat):Int)))],cl:=[],c2:=I',du:=[⟨en,.cells [.slice (some ⟨gN,0,none⟩) (L++List.range' (a6 (g.ds.take m)) x.1).length nn].toArray 57 (0,0)⟩,⟨b6,.cells [.int .i64 ((a6 (g.ds.take (m+1)):Nat):Int)].toArray 3 (0,0)⟩,dK gN x.2] }) (λx=>x.1<=d.t.n/\x.2.length=nn/\x.2.take (L++List.range' (a6 (g.ds.take m)) x.1).length=(L++List.range' (a6 (g.ds.take m)) x.1).map bQ) (λx=>d.t.n-x.1) ?_ ?_;·exact⟨(0,cN),⟨bw _,gw,by simpa using im⟩,.pz (by simp),fO,.nil⟩
  rintro⟨x,c⟩⟨ab,fF,g0⟩;simp only at ab fF g0;have tS:(L++List.range' (a6 (g.ds.take m)) x).length=L.length+x:=by rw[cP,List.length_range']
  refine aK.mk _ (z6 (e:=a6 (g.ds.take (m+1))) (.tail _ (.head _))) ?_;refine aJ.mk (λe=>?_) (λe=>?_)
  ·have aS:x<d.t.n:=by have bA:((a6 (g.ds.take m)+x:Nat):Int)<((a6 (g.ds.take (m+1)):Nat):Int):=bS e;omega
   have hR:List.range' (a6 (g.ds.take m)) (x+1)=List.range' (a6 (g.ds.take m)) x++[a6 (g.ds.take m)+x]:=by rw[List.range'_concat];simp
   have nS:(L++List.range' (a6 (g.ds.take m)) (x+1)).length=(L++List.range' (a6 (g.ds.take m)) x).length+1:=by rw[hR,<-fA,cP];rfl
   obtain⟨bC,p6,h'⟩:=Ql (L:=L++List.range' (a6 (g.ds.take m)) x) g0 (by omega) (a6 (g.ds.take m)+x);refine aK.mk _ (akX (.head _)) ?_;refine cv.mk λb9 hD ju=>?_;refine bs.lL aU rfl (by simp) (e:=3) rfl rfl rfl (g:=gN) (n:=(L++List.range' (a6 (g.ds.take m)) x).length) (c:=nn) (aQ:=c) rfl (show c.length=nn*1 by omega) (ad:=⟨b9,0,none⟩) (m:=1) (c':=1) rfl (bU:=[bQ (a6 (g.ds.take m)+x)]) ⟨rfl,_,_,_,.inr ⟨_,.head _,rfl,rfl⟩,rfl,rfl⟩ rfl (by omega) [_,_,_] [] rfl ?_;refine cz.mk [_] [_,_] _ _ rfl rfl (b0 rfl) rfl ?_;refine bc.mk ((a6 (g.ds.take m)+(x+1):Nat):Int) (fK (by omega) (by omega)) ?_;refine⟨(x+1,bK c ((L++List.range' (a6 (g.ds.take m)) x).length*1) [bQ (a6 (g.ds.take m)+x)]),⟨⟨aS,bC.trans fF,?_⟩,by simp only;omega⟩,.sub (.cons _ (.refl _)) (.pz ?_),fO,.nil⟩;·simp only;rw[hR,<-fA];exact p6
   ·simp only;rw[nS];rfl
  ·have cm:d.t.n<=x:=by have bA:¬ ((a6 (g.ds.take m)+x:Nat):Int)<((a6 (g.ds.take (m+1)):Nat):Int):=cx e;omega
   obtain rfl:x=d.t.n:=by omega
   refine cz.mk [_] [_] _ _ rfl rfl (b0 rfl) rfl ?_;refine⟨_,_,.refl,L++List.range' (a6 (g.ds.take m)) d.t.n,c,bn,⟨?_,fF,g0,?_,λy=>?_,?_⟩⟩;·rw[mL];rfl
   ·rw[mL,tS];omega
   ·rw[mL,dV,uw,RH];omega
   ·refine Bn.2 ⟨Hs,List.nodup_range',λa aE b ah iM=>?_⟩;rw[uw]at aE;rw[RH]at ah;omega
 ·rintro I' M' -⟨L,cN,bn,a4⟩;rw[RJ,lE]at a4;obtain⟨rfl,gw,im,oL,uw,Hs⟩:=a4;have K6:a6 (g.ds.take 0)=0:=rfl;rw[K6]at oL uw;refine aK.mk _ ⟨rfl,_,_,_,.inr ⟨_,.head _,rfl,rfl⟩,rfl,rfl⟩ ?_;refine⟨_,_,.sub (.cons _ (.cons _ (.refl _))) .refl,λb o h=>bn _ _ (dd _ _ h),gN,L,cN,rfl,gw,im,by omega,λx=>by rw[uw];omega,Hs,rfl⟩
def zg(J:aR)(os:a5)(e:Nat):aR:=match os.a with
 |some g=>ins J g (.cells os.aQ.toArray e (0,0))| none=>J
def RK{cu:List Nat}(aC:∀ g,os.a=some g->g ∉ cu):jP cu J (os.aL e++post) (zg J os e) post:=by
 obtain⟨a,n,c,aQ⟩:=os;cases a with
 |none=>exact .refl| some g=>exact .rA rfl (aC g rfl) .refl
def RL(h:∀ x∈os.aL e++M,J x.num=none):∀ b o,J b=some o->zg J os e b=some o:=by
 obtain⟨a,n,c,aQ⟩:=os;cases a with
 |none=>exact λ_ _ h=>h
 |some g=>exact qP (h ⟨g,_⟩ (.head _))
def RM{b:Nat}(h:os.ok size xs)(ah:os.n*b<=140737488355328):dA (zg J os e) (os.a.map λg=>⟨g,0,none⟩) os.n os.c size b xs:=by
 obtain⟨a,n,c,aQ⟩:=os;cases a with
 |none=>obtain⟨U,aa⟩:=h.nil rfl;exact⟨h.len,⟨by simp only at U aa |-;omega,ah⟩,.inl U⟩
 |some g=>obtain⟨U,aa,af,aP⟩:=h.cap g rfl;exact⟨h.len,⟨aa,ah⟩,.inr ⟨⟨g,0,none⟩,rfl,rfl,aQ.toArray,e,(0,0),uj ..,by simpa using aP⟩⟩
def Fi(I:aR):List (Nat×List Nat)->aR
 |[]=>I| p::L=>Fi (ins I p.1 (.cells (p.2.map bQ).toArray 3 (0,0))) L
def aaa{cu:List Nat}{M:List aI}:∀ {I:aR} (kb:List (Nat×List Nat)),(∀ p∈kb,p.1 ∉ cu)->jP cu I (kb.map fB++M) (Fi I kb) M
 |I,[],_=>.refl| I,p::L,h=>.rA rfl (h p (.head _)) (aaa L λq ay=>h q (.tail _ ay))
def aab:∀ {I:aR} (kb:List (Nat×List Nat)),(∀ p∈kb,I p.1=none)->(kb.map (·.1)).Nodup->(∀ b o,I b=some o->Fi I kb b=some o)/\∀ p∈kb,Fi I kb p.1=some (.cells (p.2.map bQ).toArray 3 (0,0))
 |I,[],_,_=>⟨λ_ _ h=>h,λp aD=>by cases aD⟩
 |I,p::L,h,aw=>by
  rw[dv,nB]at aw;have bL:∀ q∈L,(ins I p.1 (.cells (p.2.map bQ).toArray 3 (0,0))) q.1=none:=λq ay=>by unfold ins;rw[hy λe=>aw.1 (dC.2 ⟨q,ay,e⟩)];exact h q (.tail _ ay)
  obtain⟨U,aa⟩:=aab L bL aw.2;refine⟨λb o ah=>U b o (qP (h p (.head _)) b o ah),λq ay=>?_⟩;rcases eL.1 ay with rfl | ay;·exact U _ _ (uj ..)
  ·exact aa q ay
def qp(x:qW):qW:=⟨x.d.jt,x.bm⟩
def db(g:dn)(s:ByteArray):cQ:=⟨(l9 g.ds).map qp,s,0⟩
def akY{g:dn}(s:ByteArray){k:Nat}(ae:k<(l9 g.ds).length):(db g s).an k=qp (l9 g.ds)[k]:=by simp[cQ.an,db,cS,ae]
def wg(ds:List bI):(l9 ds).length=a6 ds:=by simp[l9,HI]
def C3{g:dn}(hm:kS g)(cZ:∀ d∈g.ds,∀ n∈d.t.ns,0<=n.k){s:ByteArray}(ar:s.size<=4096):(∀ k,te (db g s) k)/\∀ k,k<a6 g.ds->td (db g s) (a6 g.ds) k:=by
 have bb:=P0 hm cZ (s:=s) (an:=0) (bw _) ar;have b3:(qZ g s 0).ns.length=a6 g.ds:=wg g.ds;have da:∀ k (ae:k<a6 g.ds),∃ a:qW,K9 (qZ g s 0) a/\(db g s).an k=qp a:=λk ae=>by
  have jI:k<(l9 g.ds).length:=by rw[wg];exact ae
  exact⟨_,bb.ns _ (cC jI),akY s jI⟩
 refine⟨λk=>?_,λk ae=>?_⟩
 ·by_cases ae:k<a6 g.ds
  ·obtain⟨a,aE,e⟩:=da k ae;rw[show te (db g s) k ↔ te (db g s) k from Iff.rfl];refine⟨by rw[e];exact aE.k.1,λU=>?_,by rw[e];exact aE.k.2,λbj=>?_⟩
   ·rw[e]at U |-;have:=aE.one U
    match ab:a.bm,this with
    |[q],_=>exact⟨q,rfl⟩
   ·rw[e]at bj |-;have:=aE.oG bj;show a.d.hi=-1\/(0<=a.d.hi/\a.d.hi<=99);omega
  ·have e:(db g s).an k=⟨Pr,[]⟩:=by
    have:(l9 g.ds).length<=k:=by rw[wg];omega
    simp[cQ.an,db,cS,this]
   refine⟨by rw[e];exact Mj 0,λU=>?_,by rw[e];show(0:Int)<10;omega,λbj=>?_⟩;·rw[e]at U;have aa:(0:Int)=3\/6<=(0:Int):=U;omega
   ·rw[e]at bj;have aa:(0:Int)=6:=bj;omega
 ·obtain⟨a,aE,e⟩:=da k ae;refine⟨by rw[e];exact aE.k.1,λU=>?_,λq ay=>?_,λbj=>?_⟩
  ·rw[e]at U |-;have aa:=aE.one U;show a.bm.getD 0 0<_;have aF:a.bm.getD 0 0=a.bm[0]:=by simp[cS,aa]
   rw[aF,<-b3];exact aE.bm _ (cC (by omega))
  ·rw[e]at ay;rw[<-b3];exact aE.bm q ay
  ·rw[e]at bj |-;exact(aE.oG bj).2.1
def RN(c:cr):bX:=⟨c.n,c.to,bif Nat.beq c.aB 3 then 2 else bif Nat.beq c.aB 2 then 1 else 0,0⟩
def akZ{z a:Nat}{c:cr}(h:jJ z a c):(RN c).ce=c:=by
 rcases h with rfl | rfl | ⟨h,-⟩
 ·rfl
 ·rfl
 ·obtain⟨n,to,aB⟩:=c;simp only at h;subst h;rfl
open Classical in
noncomputable def u2(P:cQ)(N:Nat)(k a:Nat):bX:=if k<N/\a<=P.s.size then hG else RN (br P k a)
def IB{P:cQ}{k a:Nat}(ae:k<N)(aE:a<=P.s.size):u2 P N k a=hG:=cG ⟨ae,aE⟩
def aac(P:cQ)(N:Nat):iN P N (u2 P N):=by
 have fS:∀ k a,¬ (k<N/\a<=P.s.size)->(u2 P N k a).ce=br P k a:=λk a h=>by unfold u2;rw[ca h];exact akZ (sd P k a)
 refine⟨λk a=>?_,λk a h=>?_,λk a ae aE _ _ h=>?_,λk a ae aE=>?_,fS⟩
 ·unfold u2;split
  ·exact bw _
  ·unfold RN;cases Nat.beq (br P k a).aB 3<;>cases Nat.beq (br P k a).aB 2<;>simp
 ·by_cases e:k<N/\a<=P.s.size
  ·rw[IB e.1 e.2]at h;exact absurd rfl h
  ·exact(fS k a e).symm
 ·rw[IB ae aE]at h;exact absurd rfl h
 ·rw[IB ae aE];exact⟨bw _,bw _,bw _⟩
structure pF(I:aR)(g:dn)(s:ByteArray)(t:dr)(T:Nat->Nat->bX):Prop where
 ok:t.ok I T
 inv:iN t.P t.nn T
 P:t.P=db g s
 ts:t.s=s
 all:∀ k b,(T k b).ce=br (db g s) k b
 n0:t.n0=t.nn
 nn:t.nn=a6 g.ds
 rv:∃ dU ft,t.rv=.slice dU g.n ft/\dA I dU g.n ft 1 8 ((gl 0 g.ds).map bQ)
 nv:∃ fU hY,t.nv=.slice fU g.n hY/\dA I fU g.n hY 1 16 (g.ds.map y5)
def dr.ok.mono{t:dr}{T:Nat->Nat->bX}(h:t.ok I T)(bL:∀ b o,I b=some o->I' b=some o):t.ok I' T:=
 { h with aB:=bL _ _ h.aB,ns:=h.ns.mono bL,il:=λy aH=>(h.il y aH).mono bL,rw:=h.rw.mono bL,dg:=λk ae ao=>(let ⟨cs,gP,al,U,aa⟩:=h.dg k ae ao;⟨cs,gP,al,bL _ _ U,aa⟩) }
def pF.mono{g:dn}{s:ByteArray}{t:dr}{T:Nat->Nat->bX}(h:pF I g s t T)(bL:∀ b o,I b=some o->I' b=some o):pF I' g s t T:=by obtain⟨dU,ft,az,aF⟩:=h.rv;obtain⟨fU,hY,bo,dw⟩:=h.nv;exact { h with ok:=h.ok.mono bL,rv:=⟨dU,ft,az,aF.mono bL⟩,nv:=⟨fU,hY,bo,dw.mono bL⟩ }
def dr.ok.kW{t:dr}{T:Nat->Nat->bX}(h:t.ok I T)(bL:∀ b o,I b=some o->I' b=some o)(ah:I' t.ba=some (.cells (t.cs T).toArray 106 (0,0))):({ t with n0:=t.nn }:dr).ok I' T:=by
 have hm:=h.mono bL;refine⟨hm.aB,hm.ns,hm.il,hm.Qj,hm.HF,hm.rw,hm.fk,λk ae ao=>?_,λk ae ao=>?_,hm.sz,hm.many⟩
 ·by_cases cZ:k<t.n0
  ·exact hm.dg k ae cZ
  ·refine⟨_,_,_,by rw[hm.new k ae (by omega)];exact ah,?_⟩;rw[hm.new k ae (by omega)];show((t.cs T).toArray.toList.drop ((k-t.n0)*(t.w*4))).take (t.w*4)=_;unfold dr.cs;rw[yB _ (t.w*4) (λj=>Cz T _ t.w) _ (k-t.n0) (by rw[q0];simp only at ao;omega),r2,Ac (by omega)];rfl
 ·have U:k<t.rows.length:=ae;have aa:=hm.LB;have af:t.nn<=k:=ao;omega
def RO{J:aR}:∀ {kb:List (Nat×List Nat)} {ns:List aM},(∀ p∈kb,J p.1=some (.cells (p.2.map bQ).toArray 3 (0,0))/\p.2.length<=1048576/\∀ x∈p.2,x<=1048576)->(∀ n∈ns,n.ok J)->∀ y∈kU kb ns,y.ok J/\(∃ p∈kb,y.ax=p.2.map λ(k:Nat)=>(k:Int))/\∃ n∈ns,y.t=n.t
 |[],ns,_,_,y,aH=>by simp[kU]at aH
 |p::kb,[],_,_,y,aH=>by simp[kU]at aH
 |p::kb,n::ns,h,aw,y,aH=>by
  have e:kU (p::kb) (n::ns)=q8 p.1 p.2 n::kU kb ns:=rfl;rw[e]at aH;rcases eL.1 aH with rfl | aH;·obtain⟨U,aa,af⟩:=h p (.head _);exact⟨ajB (aw n (.head _)) U aa af,⟨p,.head _,rfl⟩,n,.head _,rfl⟩
  ·obtain⟨i1,⟨q,i2,i3⟩,m,i4,i5⟩:=RO (λq ay=>h q (.tail _ ay)) (λm hm=>aw m (.tail _ hm)) y aH;exact⟨i1,⟨q,.tail _ i2,i3⟩,m,.tail _ i4,i5⟩
def RP:∀ {kb:List (Nat×List Nat)} {ns:List aM},kb.length=ns.length->(kU kb ns).map aM.pn=List.zipWith (λp n=>⟨n.jt,p.2⟩) kb ns
 |[],[],_=>rfl| p::kb,n::ns,h=>by show(q8 p.1 p.2 n).pn::(kU kb ns).map aM.pn=_;rw[ajA,RP (by simpa using h)];rfl
def RQ{ds:List bI}{aW:Nat}:∀ {kb:List (Nat×List Nat)} {ns:List aM},kb.map (·.2)=ns.map (eN ds aW)->List.zipWith (λ(p:Nat×List Nat) (n:aM)=>(⟨n.jt,p.2⟩:qW)) kb ns=ns.map (xq ds aW)
 |[],[],_=>rfl| p::kb,n::ns,h=>by rw[dv,dv,w7]at h;rw[List.zipWith_cons_cons,dv,RQ h.2,h.1];rfl
def xE(ds:List bI)(i:Nat):List qW:=(qh 0 (ds.take i)).map λp=>qp ⟨p.2,eN ds p.1 p.2⟩
def aad:∀ (b:Nat) (A B:List bI),qh b (A++B)=qh b A++qh (b+a6 A) B
 |b,[],B=>by simp[qh,a6]
 |b,d::A,B=>by
  have e:a6 (d::A)=d.t.ns.length+a6 A:=by simp[a6]
  rw[rU,qh,qh,aad _ A B,fA,e,rz]
def ak0{i:Nat}(hi:i<ds.length):xE ds (i+1)=xE ds i++ds[i].t.ns.map (xq ds (a6 (ds.take i))):=by unfold xE;rw[ho hi,aad,fi,dz];congr 1;simp[qh,xq,qp]
def ak1(ds:List bI):xE ds ds.length=(l9 ds).map qp:=by unfold xE l9;rw[N5,h7];rfl
def ak2(ds:List bI)(i:Nat):(xE ds i).length=a6 (ds.take i):=by simp[xE,HI]
def Fj(ds:List bI):Nat->List bN->List qW
 |_,[]=>[]| b,t::ts=>t.ns.map (xq ds b)++Fj ds (b+t.ns.length) ts
def xF(ts:List bN)(i:Nat):Nat:=((ts.take i).map λt=>t.ns.length).sum
def ak3(t:bN)(ts:List bN)(i:Nat):xF (t::ts) (i+1)=t.ns.length+xF ts i:=by unfold xF;simp
def aae{ds:List bI}:∀ {ts:List bN} {b i j:Nat} (hi:i<ts.length) (aj:j<ts[i].ns.length),(Fj ds b ts)[xF ts i+j]?=some (xq ds (b+xF ts i) ts[i].ns[j])
 |t::ts,b,0,j,hi,aj=>by have jS:j<t.ns.length:=aj;rw[Fj,show xF (t::ts) 0=0 from rfl,dz,pT (by rw[cD];exact jS),tJ,eR jS];rfl
 |t::ts,b,i+1,j,hi,aj=>by have a7:=aae (ds:=ds) (ts:=ts) (b:=b+t.ns.length) (i:=i) (j:=j) (by simpa using hi) (by simpa using aj);rw[Fj,ak3,l3 (by rw[cD];omega),cD,show t.ns.length+xF ts i+j-t.ns.length=xF ts i+j by omega,a7,rz];rfl
def aaf(RR:List bI):∀ (b:Nat) (ds:List bI),Fj RR b (ds.map (·.t))=(qh b ds).map λp=>qp ⟨p.2,eN RR p.1 p.2⟩
 |_,[]=>rfl| b,d::ds=>by rw[dv,Fj,qh,fi,h7,aaf RR _ ds];rfl
def ak4(ds:List bI)(more:List bN){i:Nat}(hi:i<=ds.length):xF (ds.map (·.t)++more) i=a6 (ds.take i):=by unfold xF a6;rw[DT (by rw[cD];exact hi),<-Gu,h7];rfl
def aag{α:Type}{p q:α->Bool}:∀ {l:List α},(∀ x∈l,p x=true->q x=true)->l.countP p<=l.countP q
 |[],_=>bY _
 |x::l,h=>by
  have a7:=aag (l:=l) λy aH=>h y (.tail _ aH);have U:=h x (.head _);rw[Fe,Fe];cases aD:p x with
  |false=>cases q x<;>simp<;>omega
  |true=>rw[U aD];simp;omega
def aah{α:Type}{p q:α->Bool}:∀ {l:List α},(∀ x∈l,p x=true->q x=true)->∀ {z:α},z∈l->p z=false->q z=true->l.countP p<l.countP q
 |[],_,z,a9,_,_=>by cases a9
 |x::l,h,z,a9,aai,aaj=>by
  have U:=h x (.head _);have a7:=aag (l:=l) λy aH=>h y (.tail _ aH);rw[Fe,Fe];rcases eL.1 a9 with rfl | a9;·rw[aai,aaj];simp;omega
  ·have:=aah (l:=l) (λy aH=>h y (.tail _ aH)) a9 aai aaj;cases aD:p x with
   |false=>cases q x<;>simp<;>omega
   |true=>rw[U aD];simp;omega
def fu(g:dn)(i j:Nat):Nat:=a6 (g.ds.take i)+j
def Mk{g:dn}(s:ByteArray){i:Nat}(hi:i<g.ds.length)(aj:j<g.ds[i].t.ns.length):(db g s).an (fu g i j)=xq g.ds (a6 (g.ds.take i)) g.ds[i].t.ns[j]:=by
 have di:i<(g.ds.map (·.t)).length:=by rw[cD];exact hi
 have h:=aae (ds:=g.ds) (ts:=g.ds.map (·.t)) (b:=0) (i:=i) (j:=j) di (by rw[lA];exact aj);have ah:=ak4 g.ds [] (i:=i) (by omega);rw[dX]at ah;rw[ah,dz,aaf]at h;unfold cQ.an db fu;simp only[lA]at h;rw[cS];unfold l9;rw[h7];show(((qh 0 g.ds).map λp=>qp ⟨p.2,eN g.ds p.1 p.2⟩)[a6 (g.ds.take i)+j]?).getD _=_;rw[h];rfl
def ak5(g:dn):∀ {k:Nat},k<a6 g.ds->∃ i j,∃ hi:i<g.ds.length,j<g.ds[i].t.ns.length/\k=fu g i j:=by
 have key:∀ (n k:Nat),n<=g.ds.length->k<a6 (g.ds.take n)->∃ i j,∃ hi:i<g.ds.length,j<g.ds[i].t.ns.length/\k=fu g i j:=by
  intro n
  induction n with
  |zero=>intro k _ h;simp[a6]at h
  |succ n a7=>
   intro k aw h;have hi:n<g.ds.length:=by omega
   rw[LI hi]at h;by_cases ae:k<a6 (g.ds.take n);·exact a7 k (by omega) ae
   ·exact⟨n,k-a6 (g.ds.take n),hi,by omega,by unfold fu;omega⟩
 intro k ae;exact key g.ds.length k (bY _) (by rw[fq (bY _)];exact ae)
def RS{g:dn}{i:Nat}(hi:i<g.ds.length)(ai:g.ds[i].t.bF=(r:Int)):j3 g i=fu g i r:=by have uW:=vX 0 g.ds;unfold j3 fu;rw[cS,eR (by omega:i<(gl 0 g.ds).length),ib,Qv 0 g.ds i hi (by omega),dz,ai];rfl
def IC{β:Type}{l:List α}{f g:α->List β}(h:∀ x∈l,f x=g x):l.flatMap f=l.flatMap g:=by
 induction l with
 |nil=>rfl| cons a l a7=>rw[nG,nG,h a (.head _),a7 λx ab=>h x (.tail _ ab)]
def ak6{l:List Nat}{x:Nat}(h:x∈l):x<=l.sum:=by
 induction l with
 |nil=>cases h
 |cons a l a7=>
  rw[pg];rcases eL.1 h with rfl | h;·omega
  ·have:=a7 h;omega
def ak7{t:dr}(ao:t.n0=0):t.cs (u2 t.P t.nn)=(List.replicate (t.nn*t.w) hG).flatMap bX.cells:=by rw[<-Qw];unfold dr.cs lH;rw[ao,xh];refine IC λj aj=>IC λa aE=>?_;rw[dz,IB (kI.1 aj)];have aa:a<t.s.size+1:=kI.1 aE;show a<=t.s.size;omega
def ak8(I:aR)(a1:List Int)(g:dn)(s:ByteArray)(v:Value)(I':aR)(M':List aI):Prop:=
 (∀ b o,I b=some o->I' b=some o)/\M'=[]/\((gk a1 g≠0/\v=.tuple #[.pointer none,.int .i64 (gk a1 g)])\/(gk a1 g=0/\4096<s.size/\v=.tuple #[.pointer none,.int .i64 40]) \/ (gk a1 g=0/\s.size<=4096/\∃ (t:dr) (T:Nat->Nat->bX),v=.tuple #[ptr t.bt,.int .i64 0]/\pF I' g s t T))
structure ak9(I:aR)(g:dn)(iF osr:a5)(i:Nat)(gQ:a5)(xs:List aM)(J:aR):Prop where
 ii:i<=g.n
 le:∀ b o,I b=some o->J b=some o
 nm:dA J (iF.a.map λg=>⟨g,0,none⟩) iF.n iF.c 1 16 (g.ds.map y5)
 rt:dA J (osr.a.map λg=>⟨g,0,none⟩) osr.n osr.c 1 8 ((gl 0 g.ds).map bQ)
 ok:gQ.ok 9 (xs.flatMap aM.cells)
 pn:xs.map aM.pn=xE g.ds i
 xs:∀ y∈xs,y.ok J/\y.t.size<=4096/\∀ x∈y.ax,0<=x
def ala{a1:List Int}(bM:hU I a1){g:dn}(aA:g.ok I)(aw:g.n<=4096)(s:ByteArray):Spec Tryz.prog 11 [g.val,.string s] I [] (ak8 I a1 g s):=by
 refine Gq [25] aU Tryz.func11 rfl rfl rfl ?_;intro B ao;have gB:=aA.n;refine a0.whole _ (Wx bM aA) ?_;rintro v er M' -⟨rfl,sX,rfl⟩;have Qc:=aA.mono sX;refine aJ.mk (λe=>?_) (λe=>?_)
 ·have bA:gk a1 g≠0:=by simpa using e
  intro _;exact⟨_,_,.refl,sX,rfl,.inl ⟨bA,rfl⟩⟩
 have C4:gk a1 g=0:=by simpa using e
 refine aJ.mk (λaF=>?_) (λaF=>?_)
 ·have eX:4096<s.size:=by have:=bS aF;omega
  intro _;exact⟨_,_,.refl,sX,rfl,.inr (.inl ⟨C4,eX,rfl⟩)⟩
 have ar:s.size<=4096:=by have:=cx aF;omega
 have hm:kS g:=PY C4 λd ag=>(aA.ds d ag).t.n;have vY:=hm.HK;have uW:=vX 0 g.ds;have cZ:∀ d∈g.ds,∀ n∈d.t.ns,0<=n.k:=λd ag n aw=>((aA.ds d ag).t.ns n aw).k.1;obtain⟨kz,cf⟩:=C3 hm cZ ar;refine a0.whole _ (ajz (M0:=[]) Qc aw) ?_;rintro v dO M1 -⟨rfl,iF,rfl,aak,alb,rfl⟩;refine cv.mk λbt alc asU=>?_;have asV:qV.aL 3=[]:=rfl;refine dG.DQ (ι:=Nat×a5×aR) (λx=>{ bx:=[(1,.val (.string s)),(2,.ref 2 0),(7,.val (ptr bt)),(8,.val (.int .i64 (a6 (g.ds.take x.1):Nat))),(27,.val (.slice g.a g.n g.c)),(28,.val (.int .i64 g.n)),(29,.val (.int .i64 x.1))],cl:=[(2,[.slice g.a g.n g.c])],c2:=x.2.2,du:=jM bt s iF.val x.2.1.val (.slice none 0 0) (.slice none 0 0)::(x.2.1.aL 3++[]) }) (λx=>x.1<=g.n/\(∀ b o,I b=some o->x.2.2 b=some o)/\dA x.2.2 (iF.a.map λg=>⟨g,0,none⟩) iF.n iF.c 1 16 (g.ds.map y5)/\x.2.1.n=x.1/\x.2.1.ok 1 (((gl 0 g.ds).take x.1).map bQ)) (λx=>g.n-x.1) ?_ ?_
 ·intro hH;have ald:=RL (J:=dO) (os:=iF) (e:=9) (M:=[]) λx ab=>hH.d x (.tail _ ab);exact⟨(0,qV,zg dO iF 9),⟨bw _,λb o h=>ald _ _ (sX _ _ h),RM alb (by omega),rfl,ur 1⟩,.perm (M1:=iF.aL 9++[jM bt s iF.val (.slice none 0 0) (.slice none 0 0) (.slice none 0 0)]) (by rw[dX];exact(iK (l₁:=[_]))) (RK λg _=>by simp),ko,.cons rfl (.nil)⟩
 rintro⟨i,osr,J⟩⟨hi,Ml,ID,jV,Mm⟩;simp only at hi Ml ID jV Mm;have wh:=aA.mono Ml;refine aJ.mk (λbo=>?_) (λbo=>?_)
 ·have aS:i<g.n:=by simpa using bo
  have b':i<g.ds.length:=by omega
  obtain⟨ad,bP,bu⟩:=wh.bg.row bI.de aS b';have eE:g.ds[i]∈g.ds:=cC b';have k':=(aA.ds _ eE).t.n;have ha:=(hm.r _ eE).bF;have nK:=LI b';have bn:=Qu g.ds (i+1);have AT:=Qv 0 g.ds i b' (by omega);refine bk.mk ad i bP rfl aS ?_;refine aK.mk _ (bu _) ?_;refine c4.draw aU rfl rfl rfl ?_;refine aK.mk _ (uY (j:=2) (.head _) (by decide)) ?_;refine bc.mk (((gl 0 g.ds)[i]:Nat):Int) (fK (show((a6 (g.ds.take i):Nat):Int)+(g.ds[i]).t.bF=_ by omega) (by omega)) ?_;refine cv.mk λb9 hD ju=>?_;intro G kp;refine qD.uS aU rfl (e:=3) rfl rfl rfl osr Mm (xp (kp _ (by simp[Op.operands,Call.operands])) rfl) (xp (kp _ (by simp[Op.operands,Call.operands])) rfl) (cs:=[bQ (gl 0 g.ds)[i]]) rfl rfl [jM bt s iF.val osr.val (.slice none 0 0) (.slice none 0 0)] [] rfl (by omega) (by show(osr.n+1)*8<=_;omega) ?_;intro bV U aa aP;refine cz.mk [⟨b9,_⟩] (bV.aL 3++[]) _ _ rfl rfl (b0 rfl) rfl ?_;refine bc.mk ((a6 (g.ds.take (i+1)):Nat):Int) (fK (show((a6 (g.ds.take i):Nat):Int)+((g.ds[i]).t.n:Int)=_ by omega) (by omega)) ?_;refine bc.mk _ (cF (i:=i) (by omega)) ?_;intro _;refine⟨(i+1,bV,J),⟨⟨by omega,Ml,ID,by simp only;omega,?_⟩,by simp only;omega⟩,.sub (.cons _ (.refl _)) .refl,ko,.cons rfl (.nil)⟩;simp only;rw[ho (by omega),fi];exact aP
 have cm:g.n<=i:=by simpa using bo
 obtain rfl:i=g.n:=by omega
 rw[fq (by omega)]at Mm;refine dG.DQ (ι:=Nat×a5×List aM×aR) (λx=>{ bx:=[(1,.val (.string s)),(2,.ref 2 0),(7,.val (ptr bt)),(55,.val (.slice g.a g.n g.c)),(56,.val (.int .i64 g.n)),(57,.val (.int .i64 x.1))],cl:=[(2,[.slice g.a g.n g.c])],c2:=x.2.2.2,du:=jM bt s iF.val osr.val x.2.1.val (.slice none 0 0)::(x.2.1.aL 59++[]) }) (λx=>ak9 I g iF osr x.1 x.2.1 x.2.2.1 x.2.2.2) (λx=>g.n-x.1) ?_ ?_
 ·intro hH;have aal:=RL (J:=J) (os:=osr) (e:=3) (M:=[]) λx ab=>hH.d x (.tail _ ab);exact⟨(0,qV,[],zg J osr 3),⟨bw _,λb o h=>aal _ _ (Ml _ _ h),ID.mono aal,RM Mm (by omega),ur 9,rfl,λy aH=>(by cases aH)⟩,.perm (M1:=osr.aL 3++[jM bt s iF.val osr.val (.slice none 0 0) (.slice none 0 0)]) (by rw[dX];exact(iK (l₁:=[_]))) (RK λg _=>by simp),km,.cons rfl (.nil)⟩
 rintro⟨i,gQ,xs,K⟩eG;have hi:=eG.ii;have Mn:=eG.le;simp only at hi Mn;have RT:=aA.mono Mn;have hc:xs.length=a6 (g.ds.take i):=by have:=congrArg List.length eG.pn;rw[ak2,cD]at this;exact this
 have AU:gQ.n=xs.length:=by have U:gQ.ok 9 (xs.flatMap aM.cells):=eG.ok;have:=U.len;rw[fb _ 9 aM.de]at this;omega
 have yM:iF.n=g.ds.length:=by omega
 have oS:osr.n=g.ds.length:=by omega
 refine aJ.mk (λdw=>?_) (λdw=>?_)
 ·have aS:i<g.n:=by simpa using dw
  have b':i<g.ds.length:=by omega
  obtain⟨ad,bP,bu⟩:=RT.bg.row bI.de aS b';have eE:g.ds[i]∈g.ds:=cC b';have kO:=(RT.ds _ eE).t;have k':=kO.n;have ri:=hm.r _ eE;have nK:=LI b';have bn:=Qu g.ds (i+1);have ale:=ak0 b';have zh:=hm.find _ eE;generalize g.ds[i]=d at *;have m7:LJ K g.ds (iF.a.map λg=>⟨g,0,none⟩) (osr.a.map λg=>⟨g,0,none⟩) iF.c osr.c xs.length d.t:=by
   refine⟨by rw[<-yM];exact eG.nm,by rw[<-oS];exact eG.rt,λn aw=>?_,λx ab=>?_,by omega,by omega⟩;·obtain⟨j,aj,ob⟩:=nV aw;have fc:=ri.ax j aj;have aC:=ri.fits j aj;rw[ob]at fc aC;have av:=YP aC (kO.ns n aw).k.1;have ep:n.ax.length<=j:=HJ j _ (ri.diff.sublist (HL aw)) fc;exact⟨λk ae=>by have:=fc k ae;omega,by omega,by omega⟩
   ·have:=yZ 0 g.ds (λd ag=>(hm.r d ag).bF) x ab;omega
  have cg:=ajD kO m7 eG.ok bt s (.slice none 0 0);rw[<-yM]at cg;have gd:Value.slice (osr.a.map λg=>⟨g,0,none⟩) iF.n osr.c=osr.val:=by unfold a5.val;rw[oS,yM]
  rw[gd]at cg;refine bk.mk ad i bP rfl aS ?_;refine aK.mk _ (bu _) ?_;refine a0.whole _ cg ?_;rintro v I' M' -⟨rfl,j,bV,kb,ga,rfl,ak⟩;rcases ak with⟨rfl,rfl⟩ | ⟨rfl,n,aw,IE,alf⟩
  rotate_left
  ·exact absurd (zh n aw IE) (by omega)
  refine aJ.mk (λe=>by cases e) (λ_=>?_);refine bc.mk _ (cF (i:=i) (by omega)) ?_;intro hH;have alg:(jM bt s iF.val osr.val bV.val (.slice none 0 0)::(bV.aL 59++kb.map fB)).Perm (kb.map fB++(jM bt s iF.val osr.val bV.val (.slice none 0 0)::(bV.aL 59++[]))):=by rw[dX,<-rU];exact iK
  have CG:=ga.len k';obtain⟨sK,AT⟩:=aab (I:=I') kb (λp aD=>hH.d (fB p) (.tail _ (tW _ (dC.2 ⟨p,aD,rfl⟩)))) (by
   have U:=hH.cd;have aa:((kb.map fB).map (·.num)).Sublist ((jM bt s iF.val osr.val bV.val (.slice none 0 0)::(bV.aL 59++kb.map fB)).map (·.num)):=((mW _ _).cons _).map _;have af:=U.sublist aa;rw[h7]at af;exact af)
  have Fk:∀ p∈kb,p.2.length<=4096/\∀ x∈p.2,x<=4096:=λp aD=>by
   have U:p.2∈kb.map (·.2):=dC.2 ⟨p,aD,rfl⟩;rw[ga.kb]at U;obtain⟨n,aw,e⟩:=dC.1 U;have Ki:=w6 aw;obtain⟨fa,e6,hC⟩:=m7.ns n Ki;rw[<-e,eN];cases decide (n.k=3)with
   |true=>
    rw[bh];refine⟨by show 1<=4096;omega,λx ab=>?_⟩;rw[gI.1 ab,cS];cases ay:(gl 0 g.ds)[(df n.t g.ds 0).toNat]? with
    |none=>exact bw _| some z=>exact m7.ajC z (BH ay)
   |false=>rw[bf];refine⟨by rw[cD];omega,λx ab=>?_⟩;obtain⟨k,ae,rfl⟩:=dC.1 ab;obtain⟨j,aj,ob⟩:=nV Ki;have fc:=ri.ax j aj;rw[ob]at fc;have:=fc k ae;omega
  have IF:=RO (J:=Fi I' kb) (kb:=kb) (ns:=d.t.ns.take d.t.n) (λp aD=>⟨AT p aD,by have:=(Fk p aD).1;omega,λx ab=>by have:=(Fk p aD).2 x ab;omega⟩) (λn aw=>(kO.ns n (w6 aw)).mono sK);refine⟨(i+1,bV,xs++kU kb (d.t.ns.take d.t.n),Fi I' kb),⟨⟨aS,λb o h=>sK _ _ (Mn _ _ h),eG.nm.mono sK,eG.rt.mono sK,ga.ok,?_,λy aH=>?_⟩,by simp only;omega⟩,.perm alg (aaa kb λp _=>by simp),km,.cons rfl (.nil)⟩;·simp only;have alh:xs.map aM.pn=xE g.ds i:=eG.pn;have s3:d.t.ns.take d.t.n=d.t.ns:=fq (by omega);rw[fi,RP CG,RQ ga.kb,ale,alh,hc,s3]
  ·rcases dV.1 aH with aH | aH
   ·obtain⟨nl,sp,tp⟩:=eG.xs y aH;exact⟨nl.mono sK,sp,tp⟩
   ·obtain⟨nl,⟨p,sp,tp⟩,n,IG,ali⟩:=IF y aH;refine⟨nl,by rw[ali];exact(m7.ns n (w6 IG)).2.2,λx ab=>?_⟩;rw[tp]at ab;obtain⟨q,_,rfl⟩:=dC.1 ab;omega
 have Wz:g.n<=i:=by simpa using dw
 obtain rfl:i=g.n:=by omega
 have asW:xs.length=a6 g.ds:=by rw[hc,fq (by omega)]
 have aam:xs.map aM.pn=(l9 g.ds).map qp:=by have U:xs.map aM.pn=xE g.ds g.n:=eG.pn;rw[U,<-gB,ak1]
 have tn:gQ.n=a6 g.ds:=by omega
 have ki:0<a6 g.ds:=by
  obtain⟨d,ag⟩:=List.exists_mem_of_length_pos (show 0<g.ds.length by have:=hm.n;omega);have ai:=(hm.r d ag).bF;have U:d.t.ns.length<=a6 g.ds:=by unfold a6;exact ak6 (dC.2 ⟨d,ag,rfl⟩)
  omega
 have alj:gQ.ok 9 (xs.flatMap aM.cells):=eG.ok;have ID:dA K (iF.a.map λg=>⟨g,0,none⟩) iF.n iF.c 1 16 (g.ds.map y5):=eG.nm;have alk:dA K (osr.a.map λg=>⟨g,0,none⟩) osr.n osr.c 1 8 ((gl 0 g.ds).map bQ):=eG.rt;have tm:∀ y∈xs,y.ok K/\y.t.size<=4096/\∀ x∈y.ax,0<=x:=eG.xs;clear eG;refine aK.mk _ (uY (j:=3) (.head _) (by decide)) ?_;refine bc.mk ((s.size+1:Nat):Int) (fK (by simp) (by omega)) ?_;refine a0.whole _ (YN gQ.n (s.size+1) (by omega) (by omega) (by omega)) ?_;rintro v I' M' -⟨rfl,iO,ba,rfl,rfl⟩;refine cz.mk [_,_] (gQ.aL 59++[]) _ _ rfl rfl (b0 rfl) rfl ?_;refine .DH λhH=>?_;have Mo:=hH.d;have YO:I' iO=none:=Mo _ (.head _);have CD:I' ba=none:=Mo _ (.tail _ (.head _));have alm:I' bt=none:=Mo _ (.tail _ (.tail _ (.head _)));have oT:∀ x∈gQ.aL 59++([]:List aI),I' x.num=none:=λx ab=>Mo x (.tail _ (.tail _ (.tail _ ab)));have Fl:(iO::ba::bt::(gQ.aL 59++([]:List aI)).map (λx:aI=>x.num)).Nodup:=hH.cd;obtain⟨gf,Fl⟩:=nB.1 Fl;obtain⟨eV,Fl⟩:=nB.1 Fl;obtain⟨Eu,Fl⟩:=nB.1 Fl;obtain⟨xG,RU⟩:∃ xG:Obj,xG=.cells ([.string s,iF.val,osr.val,gQ.val,.slice (some ⟨iO,0,none⟩) gQ.n gQ.n]:List Value).toArray 98 (0,0):=⟨_,rfl⟩;obtain⟨tq,aan⟩:∃ tq:Obj,tq=.cells (uX ba (s.size+1) gQ.n).toArray 104 (0,0):=⟨_,rfl⟩;have aln:∀ b o,I' b=some o->ins I' iO tq b=some o:=qP YO;have oA:ins I' iO tq bt=none:=by unfold ins;rw[hy λe=>gf (by rw[<-e];exact .tail _ (.head _))];exact alm
 have aao:∀ b o,ins I' iO tq b=some o->ins (ins I' iO tq) bt xG b=some o:=qP oA;have RV:=RL (J:=ins (ins I' iO tq) bt xG) (os:=gQ) (e:=59) (M:=[]) λx ab=>by have D8:x.num∈(gQ.aL 59++([]:List aI)).map (λx:aI=>x.num):=dC.2 ⟨x,ab,rfl⟩;unfold ins;rw[hy λe=>Eu (by rw[<-e];exact D8),hy λe=>gf (by rw[<-e];exact .tail _ (.tail _ D8))];exact oT x ab
 have bn:∀ b o,I' b=some o->zg (ins (ins I' iO tq) bt xG) gQ 59 b=some o:=λb o h=>RV _ _ (aao _ _ (aln _ _ h));have dT:zg (ins (ins I' iO tq) bt xG) gQ 59 bt=some xG:=RV _ _ (uj ..);have alo:zg (ins (ins I' iO tq) bt xG) gQ 59 iO=some tq:=RV _ _ (aao _ _ (uj ..));have alp:=RM (J:=ins (ins I' iO tq) bt xG) (e:=59) (b:=96) alj (by omega);have uz:=akV (RT.mono bn) (bt:=bt) (s:=s) (nv:=iF.val) (rv:=osr.val) (rwv:=.slice (some ⟨iO,0,none⟩) gQ.n gQ.n) (na:=gQ.a.map λg=>⟨g,0,none⟩) (nn:=gQ.n) (nc:=gQ.c) (by rw[dT,RU];rfl) tn (by omega);refine a0.F' (zg (ins (ins I' iO tq) bt xG) gQ 59) [] [⟨ba,.cells ((List.replicate (gQ.n*(s.size+1)) hG).flatMap bX.cells).toArray 106 (0,0)⟩] _ ?_ uz ?_
 ·subst aan;subst RU;refine .rA rfl (by simp) (.perm (.swap _ _ _) (.rA rfl (by simp) (.perm (M1:=gQ.aL 59++[⟨ba,.cells ((List.replicate (gQ.n*(s.size+1)) hG).flatMap bX.cells).toArray 106 (0,0)⟩]) ?_ (RK λg _=>by simp))));rw[dX];exact iK (l₁:=[_])
 rintro v ie kq fQ -⟨-,gN,L,cN,rfl,i',gw,im,oL,uw,rfl⟩;have IH:∀ b o,I' b=some o->ie b=some o:=λb o h=>fQ _ _ (bn _ _ h);obtain⟨t0,wi⟩:∃ t0:dr,t0=⟨bt,s,iF.val,osr.val,xs,gQ.a.map λg=>⟨g,0,none⟩,gQ.n,gQ.c,some ⟨iO,0,none⟩,gQ.n,(List.range gQ.n).map λk=>⟨ba,k*((s.size+1)*4),none⟩,0,ba⟩:=⟨_,rfl⟩;have kQ:t0.P=db g s:=by rw[wi];show(⟨xs.map aM.pn,s,0⟩:cQ)=_;rw[aam];rfl
 have mo:=ak7 (t:=t0) (by rw[wi]);have Po:t0.aL (u2 t0.P t0.nn)=⟨ba,.cells ((List.replicate (gQ.n*(s.size+1)) hG).flatMap bX.cells).toArray 106 (0,0)⟩:=by unfold dr.aL;rw[mo,wi];rfl
 have fH:∀ y∈xs,∀ x∈y.ax,x.toNat<gQ.n:=λy aH x ab=>by
  have U:y.pn∈(l9 g.ds).map qp:=by rw[<-aam];exact dC.2 ⟨y,aH,rfl⟩
  obtain⟨a,aE,oN⟩:=dC.1 U;have aa:=(P0 hm cZ (s:=s) (an:=0) (bw _) ar).ns a aE;have af:x.toNat∈a.bm:=by have gd:a.bm=y.ax.map Int.toNat:=congrArg qW.bm oN;rw[gd];exact dC.2 ⟨x,ab,rfl⟩
  have aP:=aa.bm _ af;have bq:(qZ g s 0).ns.length=a6 g.ds:=wg g.ds;omega
 have LH:t0.ok ie (u2 t0.P t0.nn):=by
  rw[wi];refine⟨?_,alp.mono fQ,λy aH=>(tm y aH).1.mono IH,λy aH=>(tm y aH).2.1,λy aH x ab=>⟨(tm y aH).2.2 x ab,fH y aH x ab⟩,?_,λa aE=>?_,λk ae ao=>absurd ao (xD _),λk ae _=>?_,ar,by show gQ.n<=4096;omega⟩;·rw[fQ _ _ dT,RU];rfl
  ·refine⟨by simp,⟨bY _,by show gQ.n*24<=_;omega⟩,.inr ⟨⟨iO,0,none⟩,rfl,rfl,_,_,_,(fQ _ _ alo).trans (congrArg some aan),?_⟩⟩;show((uX ba (s.size+1) gQ.n).drop 0).take (gQ.n*1)=_;rw[sQ,fq (by simp[uX]),uX,h7];rfl
  ·obtain⟨k,_,rfl⟩:=dC.1 aE;rfl
  ·simp only[lA,r2,xh];rfl
 have asX:t0.n0=0:=by rw[wi]
 have aap:t0.nn=gQ.n:=by rw[wi]
 have aaq:t0.bt=bt:=by rw[wi]
 have RW:t0.ba=ba:=by rw[wi]
 have cL:t0.s=s:=by rw[wi]
 have alq:t0.rv=osr.val:=by rw[wi]
 have alr:t0.nv=iF.val:=by rw[wi]
 have ld:Qp ie t0 (u2 t0.P t0.nn) L:=by
  refine⟨LH,aac _ _,λk ae=>?_,λk=>by rw[kQ];exact kz k,by omega,λk ae=>⟨by omega,?_⟩,λk _ ae=>?_,λk ae=>by omega⟩;·rw[kQ,aap,tn];exact cf k (by omega)
  ·have:=(oL k).1 ae;omega
  ·exact(oL k).2 (by omega)
 have sJ:=YH ld (gN:=gN) (nN:=gQ.n) (cN:=cN) i' gw (by omega) (by omega) (low:=0) (bw _);rw[aaq]at sJ;refine a0.mk [t0.aL (u2 t0.P t0.nn),dK gN cN] [] _ (by rw[Po];exact .swap _ _ _) sJ ?_;rintro v ms kr -⟨rfl,T,f1,f2,f3,rfl⟩;intro RX;have Fm:ms ba=none:=by have:=RX.d (t0.aL T) (.head _);rw[<-RW];exact this
 have q7:t0.ok ms T:=LH.tg λk ae b=>by omega
 refine⟨ins ms ba (.cells (t0.cs T).toArray 106 (0,0)),[],.rA (by rw[<-RW];rfl) (by simp) .refl,λb o h=>qP Fm _ _ (IH _ _ (Mn _ _ h)),rfl,.inr (.inr ⟨C4,ar,{ t0 with n0:=t0.nn },T,by show _=Value.tuple #[ptr t0.bt,.int .i64 0];rw[aaq],?_⟩)⟩;have aar:∀ b o,I' b=some o->ins ms ba (.cells (t0.cs T).toArray 106 (0,0)) b=some o:=λb o h=>qP Fm _ _ (IH _ _ h);refine⟨q7.kW (qP Fm) (by rw[RW];exact uj ..),f1,kQ,cL,λk b=>by rw[<-kQ];exact f2 k b (bw _),rfl,aap.trans tn,⟨osr.a.map λg=>⟨g,0,none⟩,osr.c,?_,?_⟩,⟨iF.a.map λg=>⟨g,0,none⟩,iF.c,?_,?_⟩⟩
 ·show t0.rv=_;rw[alq,a5.val,jV]
 ·rw[<-jV];exact alk.mono aar
 ·show t0.nv=_;rw[alr,a5.val,aak]
 ·rw[<-aak];exact ID.mono aar
def jw(x:Nat×Nat):List Value:=[.int .i64 x.1,.int .i64 x.2]
def xH(x:Nat×Nat):(jw x).length=2:=rfl
structure als(A dJ:List (Nat×Nat))(os0:a5)(x:Nat×a5×List (Nat×Nat)):Prop where
 i:2*x.1<=dJ.length+1
 ok:x.2.1.ok 2 ((A++x.2.2).flatMap jw)
 len:x.2.2.length=dJ.length
 an:∀ k,k<dJ.length->x.2.2[k]?=if k<x.1\/dJ.length<=k+x.1 then dJ[dJ.length-1-k]? else dJ[k]?
 a:x.2.1.a=os0.a
 v:x.2.1.val=os0.val
structure sr(I:aR)(t:dr)(T:Nat->Nat->bX)(lo:Nat:=0):Prop where
 ok:t.ok I T
 inv:iN t.P t.nn T
 all:∀ k b,lo<=b->(T k b).ce=br t.P k b
 n0:t.n0=t.nn
 cd:∀ k,k<t.nn->td t.P t.nn k
 na:∀ k,te t.P k
 kA:Ag t.P
def sr.kn{t:dr}{T:Nat->Nat->bX}(h:sr I t T lo){k a:Nat}(ap:lo<=a)(aE:a<=t.s.size):cA t.P k a=ja (T k a).ce:=by unfold cA;rw[n7 (show a<=t.P.s.size from aE),h.all k a ap]
def sr.aB{t:dr}{T:Nat->Nat->bX}(h:sr I t T lo){k a:Nat}(ap:lo<=a)(aE:a<=t.s.size):((T k a).aB=2/\(cA t.P k a).aB=3/\(cA t.P k a).to=(T k a).to/\(cA t.P k a).n=min (T k a).n 65537)\/((T k a).aB≠2/\(cA t.P k a).aB≠3):=by
 rw[h.kn ap aE];rcases se (h.inv.aB k a)with⟨e,bA⟩ | ⟨e,bA⟩ | ⟨e,bA⟩
 ·right
  rw[e,bA];exact⟨by decide,by decide⟩
 ·right
  rw[e,bA];exact⟨by decide,by decide⟩
 ·left
  rw[bA];exact⟨e,rfl,rfl,rfl⟩
def II(b bt:Nat):aI:=⟨b,.cells [ptr bt].toArray 30 (0,0)⟩
def RY(b to:Nat):aI:=⟨b,.cells [.int .i64 to].toArray 3 (0,0)⟩
def Mp(b:Nat)(v:Value):aI:=⟨b,.cells [v].toArray 244 (0,0)⟩
def xI(X:aI)(bt c9 dm eM to:Nat)(os:a5):List aI:=X::II c9 bt::RY dm to::Mp eM os.val::os.aL 243
def Mq{t:dr}{T:Nat->Nat->bX}(h:sr I t T lo)(X:aI){c9 dm eM k:Nat}(dp:os.ok 2 (L.flatMap jw))(ae:k<t.nn)(eH:lo<=to)(aa:to<=t.s.size)(cT:(T k to).aB=2->L.length<=1048576) :
  Spec Tryz.prog 209 [.int .i64 k,ptr c9,ptr dm,ptr eM] I (xI X t.bt c9 dm eM to os) λv I' M'=>I'=I /\
   (((cA t.P k to).aB≠3/\v=.bool false/\M'=xI X t.bt c9 dm eM to os) \/
    ((cA t.P k to).aB=3/\v=.bool true/\∃ bV:a5,bV.ok 2 ((L++bif Nat.beq (cA t.P k to).n 0 then []else [(k,to)]).flatMap jw)/\M'=xI X t.bt c9 dm eM (cA t.P k to).to bV)):=by
 refine b4 [] aU Tryz.func209 rfl rfl rfl ?_;intro B ao;have bb:=h.ok;have c8:=bb.sz;have dT:=h.aB (k:=k) eH aa;obtain⟨i',gw,im⟩:=h.inv.rg k to ae aa;have gw:(T k to).to<=t.s.size:=gw;have r7:os.n=L.length:=by have:=dp.len;rw[fb _ 2 xH]at this;omega
 obtain⟨dU,kC,r,ai,fj,-,kD⟩:=bb.row ae;have ee:t.n0<t.nn->∀ M:List aI,t.aL T∈M:=λe=>absurd e (by have:=h.n0;omega);refine c4.draw aU rfl rfl rfl ?_;refine aK.mk _ (ew (k:=0) (n:=1) (cs:=[ptr t.bt]) (T:=30) (b:=c9) (.tail _ (.head _)) (by simp)) ?_;refine aK.mk _ (bb.gm (j:=4) (by decide)) ?_;refine bk.mk dU k kC rfl ae ?_;refine aK.mk _ (fj _) ?_;refine aK.mk _ (ew (k:=0) (n:=1) (cs:=[.int .i64 to]) (T:=3) (b:=dm) (.tail _ (.tail _ (.head _))) (by simp)) ?_;refine bk.mk r to rfl rfl (by show to<t.s.size+1;omega) ?_;refine aK.mk _ (kD _ (λe=>ee e _) to aa) ?_;generalize T k to=c at *;refine cv.mk λb6 KL akW=>?_;refine cz.mk [] _ _ _ rfl rfl (b0 rfl) rfl ?_;have lK:∀ {M:List aI} j,j+1<=4->(⟨b6,.cells c.cells.toArray 106 (0,0)⟩:aI)∈M->cq I M ((⟨b6,0,none⟩:Addr).add j) 1 ((c.cells.drop j).take 1):=λj aj a2=>ew a2 aj;refine aK.mk _ (lK 2 (by decide) (.head _)) ?_;refine aJ.mk (λe=>?_) (λe=>?_)
 ·have bA:c.aB≠2:=λaF=>by rw[aF]at e;cases e
  rcases dT with dT | dT;·exact absurd dT.1 bA
  exact⟨_,_,.sub (.cons _ (.refl _)) .refl,rfl,.inl ⟨dT.2,rfl,rfl⟩⟩
 have mU:c.aB=2:=by have aF:(!decide ((c.aB:Int)=2))=false:=e;simp only[Eb,e5]at aF;omega
 rcases dT with⟨-,aV,a3,bW⟩ | dT
 rotate_left
 ·exact absurd mU dT.1
 refine aK.mk _ (lK 0 (by decide) (.head _)) ?_;refine aJ.mk (λe=>?_) (λe=>?_)
 ·have mu:c.n≠0:=by have:(0:Int)<(c.n:Int):=bS e;omega
  have B6:Nat.beq (cA t.P k to).n 0=false:=by rw[yP];exact λe=>by have:=cK e;omega
  have AV:=cT mU;refine aK.mk _ (ew (k:=0) (n:=1) (cs:=[os.val]) (T:=244) (b:=eM) (.tail _ (.tail _ (.tail _ (.tail _ (.head _))))) (by simp)) ?_;refine aK.mk _ (ew (k:=0) (n:=1) (cs:=[.int .i64 to]) (T:=3) (b:=dm) (.tail _ (.tail _ (.tail _ (.head _)))) (by simp)) ?_;refine cv.mk λb9 hD ju=>?_;refine bs.YM aU rfl (by simp) (e:=243) rfl rfl rfl os dp rfl (cs:=jw (k,to)) rfl rfl rfl [⟨b6,.cells c.cells.toArray 106 (0,0)⟩,X,II c9 t.bt,RY dm to,Mp eM os.val] rfl (by omega) (by show(os.n+1)*16<=_;omega) ?_;rintro tr vL-wZ;refine cz.mk [⟨b6,.cells c.cells.toArray 106 (0,0)⟩,X,II c9 t.bt,RY dm to] (tr.aL 243) [os.val].toArray 244 rfl rfl (b0 rfl) rfl ?_;refine aK.mk _ (lK 1 (by decide) (.head _)) ?_;refine bc.mk (c.to:Int) (fK rfl (by omega)) ?_;refine cz.mk [⟨b6,.cells c.cells.toArray 106 (0,0)⟩,X,II c9 t.bt] (Mp eM tr.val::tr.aL 243) [.int .i64 to].toArray 3 rfl rfl (b0 rfl) rfl ?_;refine⟨_,xI X t.bt c9 dm eM c.to tr,.sub (.cons _ (.refl _)) .refl,rfl,.inr ⟨aV,rfl,tr,?_,by rw[a3]⟩⟩;rw[B6,bf,ku];simpa using wZ
 ·have mu:c.n=0:=by have:¬ (0:Int)<(c.n:Int):=cx e;omega
  refine aK.mk _ (lK 1 (by decide) (.head _)) ?_;refine bc.mk (c.to:Int) (fK rfl (by omega)) ?_;refine cz.mk [⟨b6,.cells c.cells.toArray 106 (0,0)⟩,X,II c9 t.bt] (Mp eM os.val::os.aL 243) [.int .i64 to].toArray 3 rfl rfl (b0 rfl) rfl ?_;refine⟨_,xI X t.bt c9 dm eM c.to os,.sub (.cons _ (.refl _)) .refl,rfl,.inr ⟨aV,rfl,os,?_,by rw[a3]⟩⟩;rw[bW,mu,show Nat.beq (min 0 65537) 0=true from rfl,bh,dX];exact dp
def RZ(c9 dm eM:Nat):Value:=.func (.func 209) #[] #[ptr c9,ptr dm,ptr eM]
structure C5(lo z:Nat)(L parts:List (Nat×Nat))(bd:List (Nat×Nat))(to:Nat)(os:a5):Prop where
 lo:lo<=to
 hi:to<=z
 ok:∃ kG,os.ok 2 ((L++kG).flatMap jw)/\kG++bd=parts
def C5.next{z:Nat}{parts p bd kG:List (Nat×Nat)}{tt:Nat}{hg:a5}(ap:lo<=tt)(aN:tt<=z)(bb:hg.ok 2 (((L++kG)++p).flatMap jw))(dy:kG++(p++bd)=parts):C5 lo z L parts bd tt hg:=
 ⟨ap,aN,kG++p,by rw[<-fA];exact bb,by rw[fA];exact dy⟩
def R0:(C2::Ff::Fg::Fh::D).Perm (Ff::Fh::C2::Fg::D):=by have U:([C2,Ff,Fg,Fh]:List aI).Perm [Ff,Fh,C2,Fg]:=(by decide:[0,1,2,3].Perm [1,3,0,2]).map λi=>[C2,Ff,Fg,Fh].getD i C2;exact U.append_right D
def Ms:List.Sublist D (Ff::Fh::C2::Fg::D):=.cons _ (.cons _ (.cons _ (.cons _ (.refl _))))
def aas{t:dr}{T:Nat->Nat->bX}(h:sr I t T lo){parts:List (Nat×Nat)}(dp:os.ok 2 (L.flatMap jw)){k a:Nat}(ae:k<t.nn)(n5:lo<=a)(aa:a<=t.s.size)(aD:iE t.P (cA t.P) k a parts)(ah:L.length+parts.length<=1048576) :
  Spec Tryz.prog 167 [ptr t.bt,os.val,.agg #[.int .i64 k,.int .i64 a]] I (os.aL 243) λv I' M'=>I'=I/\∃ bV:a5,v=bV.val/\bV.ok 2 ((L++parts).flatMap jw)/\M'=bV.aL 243:=by
 refine b4 [3,4,8] aU Tryz.func167 rfl rfl rfl ?_;intro B ao;have bb:=h.ok;have c8:=bb.sz;obtain⟨y,aH,lI,kB,oR,fH,ad,bP,bu⟩:=bb.an ae;have cY:=kB.kn;have asY:y.kn<=140737488355328:=by have:=kB.bg.cap.2;omega
 obtain⟨hX,R1⟩:∃ hX,hX=y.ax.map Int.toNat:=⟨_,rfl⟩;have AV:hX.length=y.ax.length:=by rw[R1,cD]
 have ask:∀ j (aj:j<hX.length),hX[j]<t.nn/\∃ wj,y.iW=some wj/\∀ M,cq I M (wj.add (j*1)) 1 [Value.int .i64 ((hX[j]:Nat):Int)]:=λj aj=>by
  have jS:j<y.ax.length:=by omega
  obtain⟨wj,aV,a3⟩:=kB.bg.one (f:=λ(k:Int)=>Value.int .i64 k) (j:=j) (by omega) jS;have ab:=fH _ (cC jS);have e:hX[j]=y.ax[j].toNat:=by simp only[R1,lA]
  rw[e];refine⟨ab.2,wj,aV,λM=>?_⟩;have e:((y.ax[j].toNat:Nat):Int)=y.ax[j]:=by omega
  rw[e];exact a3 M
 have kh:=(h.na k).one;unfold iE at aD;rw[lI]at aD kh;have sh:y.pn.bm=hX:=R1.symm;have aat:t.P.aW=0:=rfl;rw[aat,sh]at aD;rw[sh]at kh;refine cv.mk λc9 n8 asZ=>?_;refine cv.mk λeM alt R2=>?_;refine c4.draw aU rfl rfl rfl ?_;refine aK.mk _ (ew (k:=0) (n:=1) (cs:=[ptr t.bt]) (T:=30) (b:=c9) (.tail _ (.head _)) (by simp)) ?_;refine aK.mk _ (bb.gm (j:=3) (by decide)) ?_;refine bk.mk ad k bP rfl ae ?_;refine aK.mk _ (bu _) ?_;refine cv.mk λb7 Lm as0=>?_;refine cz.mk [] _ _ _ rfl rfl (b0 rfl) rfl ?_;refine cv.mk λdm Lf YS=>?_;refine cz.mk [] _ [.int .i64 0].toArray 3 rfl rfl (b0 rfl) rfl ?_;have eh:∀ {M:List aI} j,j+1<=9->(⟨b7,.cells y.cells.toArray 59 (0,0)⟩:aI)∈M->cq I M ((⟨b7,0,none⟩:Addr).add j) 1 ((y.cells.drop j).take 1):=λj aj a2=>ew a2 aj;refine aK.mk _ (eh 0 (by decide) (.tail _ (.head _))) ?_;have aau:∀ {q to:Nat},to<=t.s.size->(cA t.P q to).aB=3->to<=(cA t.P q to).to/\(cA t.P q to).to<=t.s.size:=fun {q to} mD af=>by have:=(Qd (P:=t.P) rfl q to).m af;rw[aat,dz]at this;exact⟨this.1,this.2.1⟩
 have fin:∀ {to:Nat} {os:a5},C5 lo t.s.size L parts [] to os->os.ok 2 ((L++parts).flatMap jw):=λhw=>by obtain⟨kG,fa,e6⟩:=hw.ok;rw[dX]at e6;rwa [e6]at fa
 have as1:∀ {os:a5} {to:Nat},(⟨b7,.cells y.cells.toArray 59 (0,0)⟩:aI)∈xI ⟨b7,.cells y.cells.toArray 59 (0,0)⟩ t.bt c9 dm eM to os:=.head _;have aP:∀ {os:a5} {to:Nat},cq I (xI ⟨b7,.cells y.cells.toArray 59 (0,0)⟩ t.bt c9 dm eM to os) ((⟨eM,0,none⟩:Addr).add 0) 1 (([os.val].drop 0).take 1):=fun {os to}=>ew (T:=244) (cs:=[os.val]) (.tail _ (.tail _ (.tail _ (.head _)))) (bY _);have as2:∀ j:Int,y.pn.d.k=j ↔ y.k=j:=λj=>Iff.rfl;refine aJ.mk (λgM=>?_) (λgM=>?_)
 ·have bj:y.pn.d.k=6:=bS gM;rw[cG bj]at aD;obtain⟨q,ay⟩:=kh (.inr (by omega));have aav:y.ax.length=1:=by rw[<-AV,ay];rfl
  obtain⟨mu,wj,Fo,wk⟩:=ask 0 (by omega);have cJ:hX[0]'(by omega)=q:=by simp only[ay];rfl
  rw[cJ]at mu wk;have qe:ky (cA t.P) 0 q y.hi 0 a parts:=by rw[ay]at aD;exact aD
  refine dG.inv (ι:=Nat×Nat×a5) (λz=>{ bx:=[(4,.val (ptr eM)),(7,.val (ptr b7)),(9,.val (RZ c9 dm eM)),(10,.val (.int .i64 z.1))],c2:=I,du:=xI ⟨b7,.cells y.cells.toArray 59 (0,0)⟩ t.bt c9 dm eM z.2.1 z.2.2 }) (λz=>z.1<=1000001/\∃ bd,ky (cA t.P) 0 q y.hi z.1 z.2.1 bd/\C5 lo t.s.size L parts bd z.2.1 z.2.2) (λz=>1000002-z.1) ?_ ?_;·exact⟨(0,a,os),⟨by simp,parts,qe,n5,aa,[],by rw[dX];exact dp,rfl⟩,.perm R0 .refl,fO,.nil⟩
  rintro⟨n,to,tr⟩⟨av,bd,gu,hw⟩;simp only at av gu hw;have hL:=hw.hi;obtain⟨kG,wZ,dy⟩:=hw.ok;have yM:(L++kG).length<=1048576:=by have:=congrArg List.length dy;rw[cP]at this |-;omega
  cases gu with
  |stop ar=>
   refine aK.mk _ (eh 7 (by decide) (.head _)) ?_;refine b2.mk (λe=>?_) (λ_=>?_);·have aF:(!decide ((n:Int)=y.hi))=true:=e;rw[ar]at aF;simp at aF
   refine aK.mk _ aP ?_;exact⟨_,_,.sub Ms .refl,rfl,tr,rfl,fin hw,rfl⟩
  |fail ar qN=>
   have qN:(cA t.P q to).aB=2:=qN;refine aK.mk _ (eh 7 (by decide) (.head _)) ?_;refine b2.mk (λ_=>?_) (λe=>?_)
   rotate_left
   ·have aF:(!decide ((n:Int)=y.hi))=false:=e;simp only[Eb,e5]at aF;exact absurd aF ar
   refine aK.mk _ (eh 8 (by decide) (.head _)) ?_;refine bk.mk wj 0 Fo rfl (by omega) ?_;refine aK.mk _ (wk _) ?_;refine a0.whole _ (Mq h _ wZ mu hw.lo hL (λ_=>yM)) ?_;rintro v I' M' -⟨rfl,⟨af,rfl,rfl⟩|⟨af,-⟩⟩;·refine aJ.mk (λe=>by cases e) (λ_=>?_);refine aK.mk _ aP ?_;exact⟨_,_,.sub Ms .refl,rfl,tr,rfl,fin hw,rfl⟩
   ·rw[qN]at af;cases af
  | @more _ _ l alc ar jq r=>
   have jq:(cA t.P q to).aB=3:=jq;have r:ky (cA t.P) 0 q y.hi (n+1) (cA t.P q to).to l:=r;have fF:=aau hL jq;refine aK.mk _ (eh 7 (by decide) (.head _)) ?_;refine b2.mk (λ_=>?_) (λe=>?_)
   rotate_left
   ·have aF:(!decide ((n:Int)=y.hi))=false:=e;simp only[Eb,e5]at aF;exact absurd aF ar
   refine aK.mk _ (eh 8 (by decide) (.head _)) ?_;refine bk.mk wj 0 Fo rfl (by omega) ?_;refine aK.mk _ (wk _) ?_;refine a0.whole _ (Mq h _ wZ mu hw.lo hL (λ_=>yM)) ?_;rintro v I' M' -⟨rfl,⟨af,-⟩|⟨af,rfl,hg,gy,rfl⟩⟩;·exact absurd jq af
   ·refine aJ.mk (λ_=>?_) (λe=>by cases e);refine bc.mk _ (cF (i:=n) (by omega)) ?_;exact⟨(n+1,_,hg),⟨⟨by simp only;omega,l,r,C5.next (jN hw.lo fF.1) fF.2 gy dy⟩,by simp only;omega⟩,.refl,fO,.nil⟩
 have alu:¬ y.pn.d.k=6:=cx gM;rw[ca alu]at aD;refine aJ.mk (λgd=>?_) (λgd=>?_)
 ·have bq:y.pn.d.k=5:=bS gd;rw[cG bq]at aD;obtain⟨xo,tf⟩:=aD;refine aK.mk _ (eh 8 (by decide) (.tail _ (.head _))) ?_;refine dG.inv (ι:=Nat) (λj=>{ bx:=[(4,.val (ptr eM)),(9,.val (RZ c9 dm eM)),(58,.val (.slice y.iW y.kn y.iz)),(59,.val (.int .i64 y.kn)),(60,.val (.int .i64 j))],c2:=I,du:=xI ⟨b7,.cells y.cells.toArray 59 (0,0)⟩ t.bt c9 dm eM a os }) (λj=>j<=hX.length/\ta (cA t.P) 0 (hX.drop j) a/\parts=kx (cA t.P) 0 (hX.drop j) a) (λj=>hX.length-j) ?_ ?_
  ·exact⟨0,⟨bw _,xo,tf⟩,.perm R0 .refl,hS,.nil⟩
  rintro j⟨aj,qO,m4⟩;refine aJ.mk (λe=>?_) (λe=>?_)
  rotate_left
  ·have cm:¬ (j:Int)<(y.kn:Int):=cx e;rw[jT (by omega)]at qO;exact qO.elim
  have aS:(j:Int)<(y.kn:Int):=bS e;have gz:j<hX.length:=by omega
  obtain⟨pt,wj,Fo,wk⟩:=ask j gz;rw[e8 gz]at qO m4;generalize hX[j]=q at pt wk qO m4;refine bk.mk wj j Fo rfl (by omega) ?_;refine aK.mk _ (wk _) ?_;refine a0.whole _ (Mq h _ dp pt n5 aa (λ_=>by omega)) ?_;rintro v I' M' -⟨rfl,⟨af,rfl,rfl⟩|⟨af,rfl,hg,gy,rfl⟩⟩
  ·refine aJ.mk (λe=>by cases e) (λ_=>?_);refine bc.mk _ (cF (i:=j) (by omega)) ?_;have n8:Nat.beq (cA t.P q (a-0)).aB 3=false:=by rw[yP];exact λe=>af (cK e)
   refine⟨j+1,⟨⟨by omega,?_,?_⟩,by omega⟩,.refl,hS,.nil⟩
   ·rcases qO with e | e
    ·exact absurd e af
    ·exact e.2
   ·rw[m4];simp only[kx,n8,bf]
  ·refine aJ.mk (λ_=>?_) (λe=>by cases e);have he:parts=bif Nat.beq (cA t.P q a).n 0 then []else [(q,a)]:=by
    have n8:Nat.beq (cA t.P q (a-0)).aB 3=true:=by rw[show(cA t.P q (a-0)).aB=3 from af];rfl
    rw[m4];simp only[kx,n8,bh];rfl
   refine aK.mk _ aP ?_;exact⟨_,_,.sub Ms .refl,rfl,hg,rfl,by rw[he];exact gy,rfl⟩
 have alv:¬ y.pn.d.k=5:=cx gd;rw[ca alv]at aD;obtain⟨xo,tf⟩:=aD;refine aK.mk _ (eh 8 (by decide) (.tail _ (.head _))) ?_;refine dG.inv (ι:=Nat×Nat×a5) (λz=>{ bx:=[(4,.val (ptr eM)),(9,.val (RZ c9 dm eM)),(29,.val (.slice y.iW y.kn y.iz)),(30,.val (.int .i64 y.kn)),(31,.val (.int .i64 z.1))],c2:=I,du:=xI ⟨b7,.cells y.cells.toArray 59 (0,0)⟩ t.bt c9 dm eM z.2.1 z.2.2 }) (λz=>z.1<=hX.length/\allM (cA t.P) 0 (hX.drop z.1) z.2.1/\C5 lo t.s.size L parts (ht (cA t.P) 0 (hX.drop z.1) z.2.1) z.2.1 z.2.2) (λz=>hX.length-z.1) ?_ ?_
 ·exact⟨(0,a,os),⟨bw _,xo,n5,aa,[],by rw[dX];exact dp,tf.symm⟩,.perm R0 .refl,hS,.nil⟩
 rintro⟨j,to,tr⟩⟨aj,qO,hw⟩;simp only at aj qO hw;refine aJ.mk (λe=>?_) (λe=>?_)
 rotate_left
 ·have cm:¬ (j:Int)<(y.kn:Int):=cx e;rw[jT (by omega)]at hw;refine aK.mk _ aP ?_;exact⟨_,_,.sub Ms .refl,rfl,tr,rfl,fin hw,rfl⟩
 have aS:(j:Int)<(y.kn:Int):=bS e;have gz:j<hX.length:=by omega
 obtain⟨pt,wj,Fo,wk⟩:=ask j gz;rw[e8 gz]at qO hw;generalize hX[j]=q at pt wk qO hw;obtain⟨jq,m4⟩:=qO;have jq:(cA t.P q to).aB=3:=jq;have hL:=hw.hi;obtain⟨kG,wZ,dy⟩:=hw.ok;have yM:(L++kG).length<=1048576:=by have:=congrArg List.length dy;rw[cP]at this |-;omega
 have fF:=aau hL jq;refine bk.mk wj j Fo rfl (by omega) ?_;refine aK.mk _ (wk _) ?_;refine a0.whole _ (Mq h _ wZ pt hw.lo hL (λ_=>yM)) ?_;rintro v I' M' -⟨rfl,⟨af,-⟩|⟨af,rfl,hg,gy,rfl⟩⟩
 ·exact absurd jq af
 refine bc.mk _ (cF (i:=j) (by omega)) ?_;refine⟨(j+1,_,hg),⟨⟨by simp only;omega,m4,C5.next (jN hw.lo fF.1) fF.2 gy ?_⟩,by simp only;omega⟩,.refl,hS,.nil⟩;rw[<-dy];have n8:Nat.beq (cA t.P q (to-0)).aB 3=true:=by rw[show(cA t.P q (to-0)).aB=3 from af];rfl
 simp only[ht,n8,bh];show kG++((bif Nat.beq (cA t.P q to).n 0 then []else [(q,to)])++ht (cA t.P) 0 (hX.drop (j+1)) (cA t.P q to).to)=kG++bif Nat.beq (cA t.P q to).n 0 then ht (cA t.P) 0 (hX.drop (j+1)) (cA t.P q to).to else(q,to)::ht (cA t.P) 0 (hX.drop (j+1)) (cA t.P q to).to;cases Nat.beq (cA t.P q to).n 0<;>rfl
def dF.cells(c:dF):List Value:=[.string c.name,.int .i64 c.lo,.int .i64 c.hi]
def dF.de(c:dF):c.cells.length=3:=rfl
structure aaw(m:dW)(kn:Nat->Nat->cr)(x:Nat×Nat):Prop where
 k:x.1<m.ns.n
 lo:m.aW<=x.2
 hi:x.2<=m.s.size
 aB:(kn x.1 (x.2-m.aW)).aB=3
def C6(m:dW)(kn:Nat->Nat->cr)(x:Nat×Nat):Prop:=aaw m kn x/\(kn x.1 (x.2-m.aW)).n≠0
section
variable{m:dW}{kn:Nat->Nat->cr}
def aax(h:∀ k p,Ah m.kA (m.aW+p) (kn k p))(eH:m.aW<=to)(af:(kn q (to-m.aW)).aB=3):m.aW<=(kn q (to-m.aW)).to/\(kn q (to-m.aW)).to<=m.s.size:=by have:=(h q (to-m.aW)).m af;rw[Ac eH]at this;exact⟨by omega,this.2.1⟩
def aay(h:∀ k p,Ah m.kA (m.aW+p) (kn k p)):∀ (L:List Nat) (a:Nat),(∀ x∈L,x<m.ns.n)->m.aW<=a->a<=m.s.size->allM kn m.aW L a->∀ x∈ht kn m.aW L a,C6 m kn x
 |[],a,_,_,_,_,x,ab=>by cases ab
 |k::L,a,cT,U,aa,⟨af,aP⟩,x,ab=>by
  have aw:=aax h U af;have a7:=aay h L _ (λx ab=>cT x (.tail _ ab)) aw.1 aw.2 aP;simp only[ht,af]at ab;rw[show Nat.beq 3 3=true from rfl,bh]at ab;cases ao:Nat.beq (kn k (a-m.aW)).n 0 with
  |true=>rw[ao]at ab;exact a7 x ab
  |false=>
   rw[ao]at ab;rcases eL.1 ab with rfl | ab;·exact⟨⟨cT k (.head _),U,aa,af⟩,λe=>by rw[e]at ao;cases ao⟩
   ·exact a7 x ab
def aaz:∀ (L:List Nat) (a:Nat),(∀ x∈L,x<m.ns.n)->m.aW<=a->a<=m.s.size->∀ x∈kx kn m.aW L a,C6 m kn x
 |[],a,_,_,_,x,ab=>by cases ab
 |k::L,a,cT,U,aa,x,ab=>by
  simp only[kx]at ab;cases af:Nat.beq (kn k (a-m.aW)).aB 3 with
  |false=>rw[af]at ab;exact aaz L a (λx ab=>cT x (.tail _ ab)) U aa x ab
  |true=>
   rw[af,bh]at ab;cases ao:Nat.beq (kn k (a-m.aW)).n 0 with
   |true=>rw[ao]at ab;cases ab| false=>rw[ao,bf,gI]at ab;subst ab;exact⟨⟨cT k (.head _),U,aa,cK af⟩,λe=>by simp only at e;rw[e]at ao;cases ao⟩
def ky.ok(h:∀ k p,Ah m.kA (m.aW+p) (kn k p)){k:Nat}(ae:k<m.ns.n){hi:Int}{a:Nat}{l:List (Nat×Nat)}(hw:ky kn m.aW k hi t a l):m.aW<=a->a<=m.s.size->∀ x∈l,C6 m kn x:=by
 induction hw with
 |stop=>exact λ_ _ x ab=>by cases ab
 |fail=>exact λ_ _ x ab=>by cases ab
 | @more t a l ah ar af r a7=>
  intro U aa x ab;have aw:=aax h U af;rcases dV.1 ab with ab | ab
  ·cases ao:Nat.beq (kn k (a-m.aW)).n 0 with
   |true=>rw[ao]at ab;cases ab| false=>rw[ao,bf,gI]at ab;subst ab;exact⟨⟨ae,U,aa,af⟩,λe=>by simp only at e;rw[e]at ao;cases ao⟩
  ·exact a7 aw.1 aw.2 x ab
def alw(h:∀ k p,Ah m.kA (m.aW+p) (kn k p))(jA:m.ns.xs.length=m.ns.n)(kQ:Ag m.kA){k a:Nat}(ae:k<m.ns.n)(U:m.aW<=a)(aa:a<=m.s.size){l:List (Nat×Nat)}(aD:iE m.kA kn k a l):∀ x∈l,C6 m kn x:=by
 have Qq:m.kA.ns.length=m.ns.n:=by simp[dW.kA,jA]
 have au:=cQ.ahm kQ (k:=k) (by omega);have ap:∀ x∈(m.kA.an k).bm,x<m.ns.n:=λx ab=>by rw[<-Qq];exact au.bm x ab
 unfold iE at aD;by_cases bj:(m.kA.an k).d.k=6
 ·rw[cG bj]at aD;have aav:=au.one (by omega);have aA:(m.kA.an k).bm.getD 0 0<m.ns.n:=by
   have e:(m.kA.an k).bm.getD 0 0=(m.kA.an k).bm[0]:=by simp[cS,aav]
   rw[e];exact ap _ (cC (by omega))
  exact ky.ok h aA aD U aa
 ·rw[ca bj]at aD;by_cases bq:(m.kA.an k).d.k=5
  ·rw[cG bq]at aD;rw[aD.2];exact aaz _ _ ap U aa
  ·rw[ca bq]at aD;rw[aD.2];exact aay h _ _ ap U aa aD.1
def R3(aA:Aj m.kA kn):∀ (L:List (Nat×Nat)),(∀ x∈L,C6 m kn x)->∃ n l,hE m.kA kn n L l/\L.length<=l.length
 |[],_=>⟨0,[],.nil,bY _⟩
 |(k,a)::L,h=>by
  obtain⟨n,l,U,aa⟩:=R3 aA L λx ab=>h x (.tail _ ab);obtain⟨⟨eJ,cU,hs,l5⟩,Au⟩:=h (k,a) (.head _);obtain⟨et,l',js,hO,-⟩:=aA k (a-m.aW) l5;have e:m.kA.aW+(a-m.aW)=a:=by show m.aW+(a-m.aW)=a;simp only at cU;omega
  rw[e]at js;refine⟨et+n,l'++l,js.app U,?_⟩;have:0<l'.length:=by unfold mC at hO;simp only at Au;omega
  rw[cP,eQ];omega
end
def R4{v sj:Value}(h:sj=v):tV (.val v) (.val sj):=by rw[h];exact .refl
structure R5(m:dW)(kn:Nat->Nat->cr)(l:List dF)(n:Nat)(L:List (Nat×Nat))(os hZ:a5):Prop where
 os:os.ok 2 (L.reverse.flatMap jw)
 fk:∀ x∈L,aaw m kn x
 alx:L.length<=1\/∀ x∈L,C6 m kn x
 g:∃ r9 nj,hE m.kA kn n L nj/\r9++nj=l/\hZ.ok 3 (r9.flatMap dF.cells)
def R5.len{m:dW}{kn:Nat->Nat->cr}{l:List dF}{hZ:a5}(h:R5 m kn l n L os hZ)(aA:Aj m.kA kn)(ap:l.length<=65536):L.length<=65537:=by
 rcases h.alx with U | U
 ·omega
 ·obtain⟨r9,nj,aV,a3,-⟩:=h.g;obtain⟨et,l',js,hO⟩:=R3 aA L U;have e:=aV.As js;subst e;have:=congrArg List.length a3;rw[cP]at this;omega
def aaA{a8:List aI}{os0:a5}{A dJ:List (Nat×Nat)}(uZ:os0.ok 2 ((A++dJ).flatMap jw))(ah:os0.n<=1099511627776){ad:Option Addr}{ln aaB:Nat}(bn:ln=dJ.length)(bH:0<dJ.length->∃ g,os0.a=some g/\ad=some ⟨g,A.length*2,none⟩) :
  Spec Tryz.prog 168 [.slice ad ln aaB] I (a8++(os0.aL 243++post)) λv I' M'=>I'=I/\∃ bV:a5,bV.val=os0.val/\bV.ok 2 ((A++dJ.reverse).flatMap jw)/\M'=a8++(bV.aL 243++post):=by
 subst bn;refine b4 [] aU Tryz.func168 rfl rfl rfl ?_;intro B ao;have r7:A.length+dJ.length=os0.n:=by have:=uZ.len;rw[fb _ 2 xH,cP]at this;omega
 refine bc.mk ((dJ.length:Int)-1) (fK rfl (by omega)) ?_;refine dG.inv (ι:=Nat×a5×List (Nat×Nat)) (λx=>{ bx:=[(0,.val (.slice ad dJ.length aaB)),(2,.val (.int .i64 x.1)),(3,.val (.int .i64 ((dJ.length:Int)-1-x.1)))],cl:=[],c2:=I,du:=a8++(x.2.1.aL 243++post) }) (λx=>als A dJ os0 x) (λx=>dJ.length-x.1) ?_ ?_
 ·refine⟨(0,os0,dJ),⟨by simp,uZ,rfl,λk ae=>?_,rfl,rfl⟩,.refl,.cons .refl (.cons .refl (.cons ?_ .nil)),.nil⟩
  ·simp only;rw[ca (by omega)]
  ·simp only[Int.ofNat_zero,Int.sub_zero];exact .refl
 rintro⟨i,os,l⟩⟨hi,dp,b3,da,ss,pG⟩;simp only at hi dp b3 da ss pG;refine aJ.mk (λh=>?_) (λh=>?_)
 rotate_left
 ·have cm:¬ (i:Int)<(dJ.length:Int)-1-i:=cx h;refine⟨_,_,.refl,rfl,os,pG,?_,rfl⟩;have e:l=dJ.reverse:=by
   refine DW λk=>?_;by_cases ae:k<dJ.length
   ·rw[da k ae,List.getElem?_reverse ae];split
    ·rfl
    ·congr 1;omega
   ·rw[o5 (by omega),o5 (by rw[xC];omega)]
  rw[<-e];exact dp
 have aS:(i:Int)<(dJ.length:Int)-1-i:=bS h;obtain⟨j,aj⟩:∃ j:Nat,(dJ.length:Int)-1-i=(j:Int):=⟨dJ.length-1-i,by omega⟩;have eP:i<l.length:=by omega
 have gz:j<l.length:=by omega
 obtain⟨g,Fp,rfl⟩:=bH (by omega);have Mt:=ss.trans Fp;have row:∀ {os:a5} {l:List (Nat×Nat)} (h:os.ok 2 ((A++l).flatMap jw)) (aE:os.a=some g) (q:Nat) (ay:q<l.length) {M:List aI},(∀ x∈os.aL 243,x∈M)->cq I M ((⟨g,A.length*2,none⟩:Addr).add (q*2)) 2 (jw l[q]):=fun {os l} h aE q ay {M} a2=>by
  have:=a5.an (I:=I) (M:=M) (e:=243) xH (by decide) h a2 aE (i:=A.length+q) (by rw[cP];omega);rw[eo _ rfl,<-ji];have e:(A++l)[A.length+q]'(by rw[cP];omega)=l[q]:=by rw[Hl (by omega)];congr 1;omega
  rwa [e]at this
 have aaC:∀ {os:a5} {l:List (Nat×Nat)} (h:os.ok 2 ((A++l).flatMap jw)) (aE:os.a=some g) (q:Nat) (ay:q<l.length) (x:Nat×Nat) {K:List aI->Prop},(∀ bV:a5,bV.val=os.val->bV.a=os.a->bV.ok 2 ((A++l.set q x).flatMap jw)->K (a8++(bV.aL 243++post))) ->
   cz (a8++(os.aL 243++post)) ((⟨g,A.length*2,none⟩:Addr).add (q*2)) (jw x) K:=fun {os l} h aE q ay x {K} k=>by
  rw[eo _ rfl];refine a5.put jw 2 xH h (i:=A.length+q) (by rw[cP];omega) 0 (vs:=jw x) (bY 2) rfl x ?_ a8 post rfl aE (by simp only;omega) ?_;·show bK (jw _) 0 (jw x)=jw x;rfl
  ·intro bV az aF bo dw;rw[yO _ _ (by omega),Cr]at dw;exact k bV az aF dw
 refine c4.draw aU rfl rfl rfl ?_;refine bk.mk ⟨g,A.length*2,none⟩ j rfl aj (by omega) ?_;refine aK.mk _ (row dp Mt j gz λz a9=>tW _ (ox _ a9)) ?_;refine bk.mk ⟨g,A.length*2,none⟩ i rfl rfl (by omega) ?_;refine aK.mk _ (row dp Mt i eP λz a9=>tW _ (ox _ a9)) ?_;refine bk.mk ⟨g,A.length*2,none⟩ i rfl rfl (by omega) ?_;refine aaC dp Mt i eP l[j] ?_;intro hg nF wm gy;refine bk.mk ⟨g,A.length*2,none⟩ j rfl aj (by omega) ?_;refine aaC gy (wm.trans Mt) j (by rw[uv];exact gz) l[i] ?_;intro xJ r4 IJ ub;refine bc.mk _ (cF (i:=i) (by omega)) ?_;refine bc.mk ((dJ.length:Int)-1-((i+1:Nat):Int)) (by rw[wrap_i64 ⟨by omega,by omega⟩];omega) ?_;refine⟨(i+1,xJ,(l.set i l[j]).set j l[i]),⟨⟨by simp only;omega,ub,by simp only[uv];exact b3,λk ae=>?_,(IJ.trans wm).trans ss,(r4.trans nF).trans pG⟩,by simp only;omega⟩,.refl,f',.nil⟩;have ob:l[j]?=dJ[j]?:=by rw[da j (by omega),ca (by omega)]
 have aG:l[i]?=dJ[i]?:=by rw[da i (by omega),ca (by omega)]
 have aly:l[j]=dJ[j]'(by omega):=by rw[eR gz,eR (by omega)]at ob;exact j0 ob
 have alz:l[i]=dJ[i]'(by omega):=by rw[eR eP,eR (by omega)]at aG;exact j0 aG
 simp only;rw[o8,o8];by_cases az:j=k
 ·subst az;rw[cG rfl,cG (by rw[uv];exact gz),cG (by omega),alz,<-eR];congr 1;omega
 ·rw[ca az];by_cases aF:i=k
  ·subst aF;rw[cG rfl,cG eP,cG (by omega),aly,<-eR];congr 1;omega
  ·rw[ca aF,da k ae];by_cases bo:k<i\/dJ.length<=k+i
   ·rw[cG bo,cG (by omega)]
   ·rw[ca bo,ca (by omega)]
def dr.xK(t:dr):dW:=⟨0,0,t.s,0,0,⟨t.il.map λy=>⟨y.jt,none,0,0,y.ax.map Int.toNat⟩,none,t.nn,0⟩⟩
def dr.alA(t:dr):t.xK.kA=t.P:=by unfold dW.kA dr.xK dr.P;simp only[h7];rfl
def Mu{kn:Nat->Nat->cr}(cm:∀ k p,(kn k p).aB=3->p<=(kn k p).to):∀ (L:List Nat) (a:Nat),∀ x∈ht kn 0 L a,a<=x.2
 |[],a,x,ab=>by cases ab
 |k::L,a,x,ab=>by
  unfold ht at ab;cases af:Nat.beq (kn k (a-0)).aB 3 with
  |false=>rw[af,bf]at ab;exact Mu cm L a x ab
  |true=>
   have aP:=cm k (a-0) (cK af);rw[af,bh]at ab;cases bq:Nat.beq (kn k (a-0)).n 0 with
   |true=>rw[bq,bh]at ab;have:=Mu cm L _ x ab;omega
   |false=>
    rw[bq,bf]at ab;rcases eL.1 ab with rfl | ab;·exact bY _
    ·have:=Mu cm L _ x ab;omega
def aaD{kn:Nat->Nat->cr}:∀ (L:List Nat) (a:Nat),∀ x∈kx kn 0 L a,a<=x.2
 |[],a,x,ab=>by cases ab
 |k::L,a,x,ab=>by
  unfold kx at ab;cases af:Nat.beq (kn k (a-0)).aB 3 with
  |false=>rw[af,bf]at ab;exact aaD L a x ab
  |true=>
   rw[af,bh]at ab;cases bq:Nat.beq (kn k (a-0)).n 0 with
   |true=>rw[bq,bh]at ab;cases ab| false=>rw[bq,bf]at ab;rw[gI.1 ab];exact bY _
def alB{kn:Nat->Nat->cr}(cm:∀ k p,(kn k p).aB=3->p<=(kn k p).to){k:Nat}{hi:Int}{a:Nat}{l:List (Nat×Nat)}(h:ky kn 0 k hi t a l):∀ x∈l,a<=x.2:=by
 induction h with
 |stop h=>intro x ab;cases ab| fail h aa=>intro x ab;cases ab
 | @more t a l ah h aa r a7=>
  intro x ab;have aP:=cm k (a-0) aa;rcases dV.1 ab with ab | ab
  ·cases bq:Nat.beq (kn k (a-0)).n 0 with
   |true=>rw[bq,bh]at ab;cases ab| false=>rw[bq,bf]at ab;rw[gI.1 ab];exact bY _
  ·have:=a7 x ab;omega
def alC{P:cQ}{kn:Nat->Nat->cr}(ah:P.aW=0)(cm:∀ k p,(kn k p).aB=3->p<=(kn k p).to){k a:Nat}{l:List (Nat×Nat)}(h:iE P kn k a l):∀ x∈l,a<=x.2:=by
 unfold iE at h;rw[ah]at h;by_cases bj:(P.an k).d.k=6
 ·rw[cG bj]at h;exact alB cm h
 ·rw[ca bj]at h;by_cases bq:(P.an k).d.k=5
  ·rw[cG bq]at h;rw[h.2];exact aaD _ _
  ·rw[ca bq]at h;rw[h.2];exact Mu cm _ _
def alD{t:dr}{T:Nat->Nat->bX}(h:sr I t T lo){k a:Nat}(ae:k<t.nn)(n5:lo<=a)(aa:a<=t.s.size)(af:(cA t.P k a).aB=3){l:List dF}(tR:hE t.P (cA t.P) n [(k,a)] l)(ap:l.length<=65536) :
  Spec Tryz.prog 109 [ptr t.bt,.int .i64 k,.int .i64 a] I [] λv I' M'=>I'=I/\∃ hZ:a5,v=hZ.val/\hZ.ok 3 (l.flatMap dF.cells)/\M'=hZ.aL 110:=by
 refine b4 [] aU Tryz.func109 rfl rfl rfl ?_;intro B ao;have bb:=h.ok;have c8:=bb.sz;have C7:=t.alA;have IK:t.xK.ns.xs.length=t.xK.ns.n:=by show(t.il.map _).length=t.nn;rw[cD];exact bb.nn
 have Cl:∀ k p,Ah t.xK.kA (t.xK.aW+p) (cA t.P k p):=λk p=>by rw[C7];exact Qd rfl k p
 have kQ:Ag t.xK.kA:=by rw[C7];exact h.kA
 have aA:Aj t.xK.kA (cA t.P):=by rw[C7];exact Yq rfl c8 h.na
 have ee:t.n0<t.nn->∀ M:List aI,t.aL T∈M:=λe=>absurd e (by have:=h.n0;omega);refine cv.mk λalE jQ as3=>?_;refine dG.inv (ι:=Nat×List (Nat×Nat)×a5×a5) (λy=>{ bx:=[(0,.val (ptr t.bt)),(7,.val y.2.2.2.val),(8,.val y.2.2.1.val)],c2:=I,du:=y.2.2.1.aL 243++y.2.2.2.aL 110 }) (λy=>R5 t.xK (cA t.P) l y.1 y.2.1 y.2.2.1 y.2.2.2/\∀ x∈y.2.1,lo<=x.2) (λy=>y.1) ?_ ?_
 ·refine⟨(n,[(k,a)],⟨some alE,1,1,jw (k,a)⟩,⟨none,0,0,[]⟩),⟨⟨⟨rfl,λe=>(by cases e),λg aA=>⟨rfl,bY _,by unfold maxLen;exact b0 rfl,rfl⟩⟩,λx ab=>?_,.inl (bY _),[],l,by rw[C7];exact tR,rfl,⟨rfl,λ_=>⟨rfl,rfl⟩,λg h=>(by cases h)⟩⟩,λx ab=>by rw[gI.1 ab];exact n5⟩,.refl,f',.nil⟩;rw[gI.1 ab];exact⟨ae,bw _,aa,af⟩
 have cm:∀ k p,(cA t.P k p).aB=3->p<=(cA t.P k p).to:=λk p af=>by have:=((Qd (P:=t.P) rfl k p).m af).1;rwa [show t.P.aW=0 from rfl,dz]at this
 rintro⟨n,L,os,hZ⟩⟨bL,R6⟩;have b3:=bL.len aA ap;obtain⟨dp,cg,R7,r9,nj,kP,zi,u3⟩:=bL;simp only at dp cg R7 kP u3 b3;have AU:os.n=L.length:=by have:=dp.len;rw[fb _ 2 xH,xC]at this;omega
 cases L with
 |nil=>
  refine aJ.mk (λe=>?_) (λ_=>?_);·have:(0:Int)<(os.n:Int):=bS e;simp at AU;omega
  cases kP;rw[dX]at zi;subst zi;exact⟨_,_,.sub (M1:=hZ.aL 110) (mW _ _) .refl,rfl,hZ,rfl,u3,rfl⟩
 |cons y bd=>
  obtain⟨k,a⟩:=y;refine aJ.mk (λ_=>?_) (λe=>?_)
  rotate_left
  ·have:¬ (0:Int)<(os.n:Int):=cx e;simp at AU;omega
  obtain⟨s1,s2,eU,CB⟩:=cg (k,a) (.head _);have s1:k<t.nn:=s1;have eU:a<=t.s.size:=eU;have CB:(cA t.P k a).aB=3:=CB;have as4:os.n=bd.length+1:=by simpa using AU
  have uW:bd.length<=65536:=by simp at b3;omega
  obtain⟨Mv,Fp⟩:∃ g,os.a=some g:=by
   cases aE:os.a with
   |none=>have:=(dp.nil aE).1;omega| some g=>exact⟨g,rfl⟩
  obtain⟨fa,e6,hC,k9⟩:=dp.cap Mv Fp;rw[List.reverse_cons]at dp k9;have zj:a5.ok ⟨os.a,bd.length,os.c,os.aQ⟩ 2 (bd.reverse.flatMap jw):=by
   refine⟨by rw[fb _ 2 xH,xC],λe=>(by simp only at e;rw[Fp]at e;cases e),λdH _=>⟨fa,by simp only;omega,hC,?_⟩⟩;simp only;have az:((bd.reverse++[(k,a)]).flatMap jw).take (bd.length*2)=bd.reverse.flatMap jw:=by rw[ku,DT (by rw[fb _ 2 xH,xC];exact bY _)];exact fq (by rw[fb _ 2 xH,xC];exact bY _)
   rw[<-az,<-k9,vv];congr 1;omega
  have alF:os.a.map (λg=>(⟨g,0,none⟩:Addr))=some ⟨Mv,0,none⟩:=by rw[Fp];rfl
  have qg:∀ {M:List aI},(∀ x∈os.aL 243,x∈M)->cq I M ((⟨Mv,0,none⟩:Addr).add (bd.length*2)) 2 (jw (k,a)):=fun {M} a2=>by have:=a5.an (I:=I) (M:=M) (e:=243) xH (by decide) dp a2 Fp (i:=bd.length) (by simp);rw[eo _ rfl,dz];simpa using this
  have EP:lo<=a:=R6 (k,a) (.head _);have dT:=h.aB (k:=k) EP eU;rcases dT with⟨t1,-,t3,t4⟩ | dT
  rotate_left
  ·exact absurd CB dT.2
  obtain⟨i',gw,im⟩:=h.inv.rg k a s1 eU;have gw:(T k a).to<=t.s.size:=gw;obtain⟨dU,kC,r,ai,fj,-,kD⟩:=bb.row s1;obtain⟨x,ab,lI,xB,oR,fH,ad,bP,alG⟩:=bb.an s1;refine bc.mk (bd.length:Int) (fK (show(os.n:Int)-1=(bd.length:Int) by omega) (by omega)) ?_;refine bk.mk ⟨Mv,0,none⟩ bd.length alF rfl (show bd.length<os.n by omega) ?_;refine aK.mk _ (qg λx ab=>ox _ ab) ?_;refine bc.mk (bd.length:Int) (fK (show(os.n:Int)-1=(bd.length:Int) by omega) (by omega)) ?_;refine jO.mk 0 bd.length rfl rfl (bw _) (show bd.length<=os.c by omega) ?_;refine c4.draw aU rfl rfl rfl ?_;refine aK.mk _ (bb.gm (j:=4) (by decide)) ?_;refine bk.mk dU k kC rfl s1 ?_;refine aK.mk _ (fj _) ?_;refine bk.mk r a rfl rfl (by show a<t.s.size+1;omega) ?_;refine aK.mk _ (kD _ (λe=>ee e _) a eU) ?_;refine cv.mk λqk Yx Yy=>?_;refine cz.mk [] _ _ _ rfl rfl (b0 rfl) rfl ?_;have rQ:∀ {M:List aI} j,j+1<=4->(⟨qk,.cells (T k a).cells.toArray 106 (0,0)⟩:aI)∈M->cq I M ((⟨qk,0,none⟩:Addr).add j) 1 (((T k a).cells.drop j).take 1):=λj aj a2=>ew a2 aj;refine aK.mk _ (rQ 0 (by decide) (.head _)) ?_;refine aJ.mk (λe=>?_) (λe=>?_)
  ·have HT:(T k a).n=0:=by have:((T k a).n:Int)=0:=bS e;omega
   have a9:(cA t.P k a).n=0:=by rw[t4,HT];rfl
   cases kP with
   | @node n _ _ parts _ nj _ alH=>exact absurd a9 alH
   | @zero n _ _ _ _ _ _ IL=>
    refine⟨(n,bd,⟨os.a,bd.length,os.c,os.aQ⟩,hZ),⟨⟨⟨zj,λx ab=>cg x (.tail _ ab),?_,r9,nj,IL,zi,u3⟩,λx ab=>R6 x (.tail _ ab)⟩,by simp only;omega⟩,.sub (.cons _ (.refl _)) .refl,f',.nil⟩;rcases R7 with e | e
    ·left
     simp at e;simp[e]
    ·exact .inr λx ab=>e x (.tail _ ab)
  have a9:(cA t.P k a).n≠0:=by have:¬ ((T k a).n:Int)=0:=cx e;omega
  cases kP with
  | @zero n _ _ _ _ _ h4 r=>exact absurd h4 a9| @node et _ _ parts _ nj _ _ aD IL=>
  have lF:=alw Cl IK kQ (k:=k) (a:=a) s1 (bw _) eU aD;have jV:∀ x∈bd,C6 t.xK (cA t.P) x:=by
   rcases R7 with e | e
   ·have:bd=[]:=by
     cases bd with
     |nil=>rfl| cons _ _=>simp at e
    rw[this];exact λx ab=>by cases ab
   ·exact λx ab=>e x (.tail _ ab)
  have xL:bd.reverse.length+parts.length<=1048576:=by
   obtain⟨as5,as6,js,hO⟩:=R3 aA (parts++bd) (λx ab=>by
    rcases dV.1 ab with ab | ab;·exact lF x ab
    ·exact jV x ab)
   have e:=IL.As js;subst e;have aF:=congrArg List.length zi;rw[cP,cP]at aF;rw[cP]at hO;rw[xC];omega
  rw[C7]at aD;have aaE:∀ x∈parts++bd,lo<=x.2:=λx ab=>by
   rcases dV.1 ab with ab | ab;·exact jN EP (alC rfl cm aD x ab)
   ·exact R6 x (.tail _ ab)
  refine c4.draw aU rfl rfl rfl ?_;refine aK.mk _ (bb.gm (j:=3) (by decide)) ?_;refine bk.mk ad k bP rfl s1 ?_;refine aK.mk _ (alG _) ?_;refine cv.mk λtu alI as7=>?_;refine cz.mk [] _ _ _ rfl rfl (b0 rfl) rfl ?_;have IM:∀ {M:List aI} j,j+1<=9->(⟨tu,.cells x.cells.toArray 59 (0,0)⟩:aI)∈M->cq I M ((⟨tu,0,none⟩:Addr).add j) 1 ((x.cells.drop j).take 1):=λj aj a2=>ew a2 aj;refine aK.mk _ (IM 0 (by decide) (.head _)) ?_;have aaF:∀ (D:List aI),(⟨tu,.cells x.cells.toArray 59 (0,0)⟩::⟨qk,.cells (T k a).cells.toArray 106 (0,0)⟩::((⟨os.a,bd.length,os.c,os.aQ⟩:a5).aL 243++D)).Perm ((⟨os.a,bd.length,os.c,os.aQ⟩:a5).aL 243++(⟨tu,.cells x.cells.toArray 59 (0,0)⟩::⟨qk,.cells (T k a).cells.toArray 106 (0,0)⟩::D)):=λD=>
   Ab [_,_] _ _
  have aaG:∀ (A D:List aI),List.Sublist (A++D) ([]++(A++(⟨tu,.cells x.cells.toArray 59 (0,0)⟩::⟨qk,.cells (T k a).cells.toArray 106 (0,0)⟩::D))++[]):=λA D=>by rw[dX,kN];exact List.Sublist.append (.refl _) (.cons _ (.cons _ (.refl _)))
  have aaH:∀ {hg:a5},hg.ok 2 ((bd.reverse++parts).flatMap jw)->hg.n=bd.length+parts.length:=fun {hg} gy=>by have:=gy.len;rw[fb _ 2 xH,cP,xC]at this;omega
  refine aJ.mk (λxM=>?_) (λxM=>?_)
  ·have fI:x.k=9:=bS xM;have ig:nf t.P (cA t.P) k a=[⟨x.t,a,(T k a).to⟩]:=by unfold nf;rw[lI,fr (show x.pn.d.k=9 from fI),bh];show [(⟨x.t,a,(cA t.P k a).to⟩:dF)]=_;rw[t3]
   rw[C7,ig]at zi;have as8:hZ.n=r9.length:=by have:=u3.len;rw[fb _ 3 dF.de]at this;omega
   have zQ:r9.length<=65536:=by have:=congrArg List.length zi;rw[cP]at this;omega
   refine aK.mk _ (IM 5 (by decide) (.head _)) ?_;refine aK.mk _ (rQ 1 (by decide) (.tail _ (.head _))) ?_;refine bc.mk ((T k a).to:Int) (fK rfl (by omega)) ?_;refine cv.mk λb9 hD ju=>?_;refine bs.YM aU rfl (by simp) (e:=110) rfl rfl rfl hZ u3 rfl (cs:=dF.cells ⟨x.t,a,(T k a).to⟩) rfl rfl rfl (⟨tu,.cells x.cells.toArray 59 (0,0)⟩::⟨qk,.cells (T k a).cells.toArray 106 (0,0)⟩::(⟨os.a,bd.length,os.c,os.aQ⟩:a5).aL 243) rfl (by omega) (by show(hZ.n+1)*32<=_;omega) ?_;rintro R8 as9-alJ;refine a0.mk ((⟨os.a,bd.length,os.c,os.aQ⟩:a5).aL 243) (⟨tu,.cells x.cells.toArray 59 (0,0)⟩::⟨qk,.cells (T k a).cells.toArray 106 (0,0)⟩::R8.aL 110) _ (aaF _) (aas h zj s1 EP eU aD xL) ?_;rintro v I' M' -⟨rfl,hg,rfl,gy,rfl⟩;have jL:=aaH gy;refine jO.mk bd.length hg.n rfl rfl (by omega) (bY _) ?_;refine a0.mk ([]++(hg.aL 243++(⟨tu,.cells x.cells.toArray 59 (0,0)⟩::⟨qk,.cells (T k a).cells.toArray 106 (0,0)⟩::R8.aL 110))) [] _ (by rw[dX];exact .refl _) (aaA (a8:=[]) (A:=bd.reverse) gy (by omega) (show hg.n-bd.length=parts.length by omega) (λki=>?_)) ?_
   ·cases aE:hg.a with
    |none=>have:=(gy.nil aE).1;omega| some a3=>have R9:=(gy.cap a3 aE).2.1;refine⟨a3,rfl,?_⟩;rw[ca (by omega),xC];show some ((⟨a3,0,none⟩:Addr).add (bd.length*2))=_;rw[eo _ rfl,dz]
   rintro v I' M' -⟨rfl,xJ,r4,ub,rfl⟩;refine⟨(et,parts++bd,xJ,R8),⟨⟨⟨?_,?_,.inr ?_,r9++[⟨x.t,a,(T k a).to⟩],nj,IL,by rw[fA];exact zi,by rw[ku];simpa using alJ⟩,aaE⟩,by simp only;omega⟩,.sub (aaG _ _) .refl,.cons .refl (.cons .refl (.cons (R4 r4) .nil)),.nil⟩;·rw[Em];exact ub
   ·intro x ab;rcases dV.1 ab with ab | ab
    ·exact(lF x ab).1
    ·exact cg x (.tail _ ab)
   ·intro x ab;rcases dV.1 ab with ab | ab
    ·exact lF x ab
    ·exact jV x ab
  ·have fI:¬ x.k=9:=cx xM;have ig:nf t.P (cA t.P) k a=[]:=by unfold nf;rw[lI,c0 (show ¬ x.pn.d.k=9 from fI),bf]
   rw[C7,ig,kN]at zi;refine a0.mk ((⟨os.a,bd.length,os.c,os.aQ⟩:a5).aL 243) (⟨tu,.cells x.cells.toArray 59 (0,0)⟩::⟨qk,.cells (T k a).cells.toArray 106 (0,0)⟩::hZ.aL 110) _ (aaF _) (aas h zj s1 EP eU aD xL) ?_;rintro v I' M' -⟨rfl,hg,rfl,gy,rfl⟩;have jL:=aaH gy;refine jO.mk bd.length hg.n rfl rfl (by omega) (bY _) ?_;refine a0.mk ([]++(hg.aL 243++(⟨tu,.cells x.cells.toArray 59 (0,0)⟩::⟨qk,.cells (T k a).cells.toArray 106 (0,0)⟩::hZ.aL 110))) [] _ (by rw[dX];exact .refl _) (aaA (a8:=[]) (A:=bd.reverse) gy (by omega) (show hg.n-bd.length=parts.length by omega) (λki=>?_)) ?_
   ·cases aE:hg.a with
    |none=>have:=(gy.nil aE).1;omega| some a3=>have R9:=(gy.cap a3 aE).2.1;refine⟨a3,rfl,?_⟩;rw[ca (by omega),xC];show some ((⟨a3,0,none⟩:Addr).add (bd.length*2))=_;rw[eo _ rfl,dz]
   rintro v I' M' -⟨rfl,xJ,r4,ub,rfl⟩;refine⟨(et,parts++bd,xJ,hZ),⟨⟨⟨?_,?_,.inr ?_,r9,nj,IL,zi,u3⟩,aaE⟩,by simp only;omega⟩,.sub (aaG _ _) .refl,.cons .refl (.cons .refl (.cons (R4 r4) .nil)),.nil⟩;·rw[Em];exact ub
   ·intro x ab;rcases dV.1 ab with ab | ab
    ·exact(lF x ab).1
    ·exact cg x (.tail _ ab)
   ·intro x ab;rcases dV.1 ab with ab | ab
    ·exact lF x ab
    ·exact jV x ab
def jd(o:gC)(v:Value):Value:=.agg #[.bool o.ok,.int .i64 o.to,v]
def iv:gC:=⟨false,0,[]⟩
def C8:Spec Tryz.prog 69 [] I M λv I' M'=>v=jd iv (.slice none 0 0)/\I'=I/\M'=M:=by refine b4 [] aU Tryz.func69 rfl rfl rfl ?_;intro B ao;exact⟨_,_,.refl,rfl,rfl,rfl⟩
def AW(to:Nat):Spec Tryz.prog 65 [.int .i64 to] I M λv I' M'=>v=jd ⟨true,to,[]⟩ (.slice none 0 0)/\I'=I/\M'=M:=by refine b4 [] aU Tryz.func65 rfl rfl rfl ?_;intro B ao;exact⟨_,_,.refl,rfl,rfl,rfl⟩
def fM.Fq{P:Program}{E:Env}(aO:c6 P E){dh:ec}{x y:Operand}(av:E t=some dh)(cL:dh.bO=.pointer e){p:Option Addr}{V:Value->Prop}{other:Prop}
  (h:V (.bool p.isNone)):fM P .eql t x y (.val (.pointer p)) (.val (.pointer none)) V other:=by
 obtain⟨d,fy,fz⟩:=(aO _ _ av).fp;have aa:d=.pointer e:=by rw[cL]at fz;cases d<;>simp_all[fo]
 subst aa;refine .mk _ _ _ rfl rfl (λw=>?_) h;have az:(eqGuard .eql t x y (.pointer p) (.pointer none)).run P w=.ok () w:=by unfold eqGuard;rfl
 have aF:(Op.equal t (.pointer p) (.pointer none)).run P w=.ok p.isNone w:=by
  have key:∀ d,(Op.equalIn (d+1) t (.pointer p) (.pointer none)).run P w=.ok p.isNone w:=λd=>by cases p<;>simp[Op.equalIn,run_underlying fy]
  exact key 9999
 simp only[cy,az,cc,binOp];simp[aF]
def aaI{g:dn}(hm:kS g)(cZ:∀ d∈g.ds,∀ n∈d.t.ns,0<=n.k){s:ByteArray}(ar:s.size<=4096):Ag (db g s):=by
 have bb:=P0 hm cZ (s:=s) (an:=0) (bw _) ar;have ap:(db g s).ns.length=(qZ g s 0).ns.length:=by simp[db,qZ]
 refine⟨λa aE=>?_,bw _,ar⟩;obtain⟨b,ah,rfl⟩:=dC.1 aE;have h:=bb.ns b ah;exact⟨h.k,λx ab=>by rw[ap];exact h.bm x ab,h.many,h.one,h.oG,h.len⟩
def pF.R'{g:dn}{s:ByteArray}{t:dr}{T:Nat->Nat->bX}(h:pF I g s t T)(hm:kS g)(cZ:∀ d∈g.ds,∀ n∈d.t.ns,0<=n.k)(ar:s.size<=4096):sr I t T:=by obtain⟨kz,cf⟩:=C3 hm cZ ar;refine⟨h.ok,h.inv,λk b _=>by rw[h.P];exact h.all k b,h.n0,λk ae=>?_,λk=>by rw[h.P];exact kz k,by rw[h.P];exact aaI hm cZ ar⟩;rw[h.P,h.nn];exact cf k (by rw[<-h.nn];exact ae)
inductive ea(P:cQ)(k a:Nat)(o:gC)(e:Int):Prop
 |none(h:(br P k a).aB=0)(au:o=iv)(he:e=5)| fail (h:(br P k a).aB=2) (au:o=iv) (he:e=0)| many (h:(br P k a).aB=3) (aw:65536<(br P k a).n) (au:o=iv) (he:e=40)| is (h:(br P k a).aB=3) (aw:(br P k a).n<=65536) (he:e=0) (bb:o.ok=true) (mD:o.to=(br P k a).to) (ap:o.cW.length=(br P k a).n) (aA:∃ N,hE P (cA P) N [(k,a)] o.cW) (eG:nX a (br P k a).to o.cW)
def aaJ{P:cQ}{c:bX}{k a:Nat}(aa:c.aB<=2)(h:c.ce=br P k a):(c.aB=0/\(br P k a).aB=0)\/(c.aB=1/\(br P k a).aB=2)\/(c.aB=2/\(br P k a).aB=3/\(br P k a).n=c.n/\(br P k a).to=c.to):=by
 rw[<-h];rcases se aa with⟨e,bA⟩ | ⟨e,bA⟩ | ⟨e,bA⟩
 ·exact .inl ⟨e,by rw[bA];rfl⟩
 ·exact .inr (.inl ⟨e,by rw[bA];rfl⟩)
 ·exact .inr (.inr ⟨e,by rw[bA];exact⟨rfl,rfl,rfl⟩⟩)
def alK{P:cQ}(ah:P.aW=0)(a9:P.s.size<=4096)(aw:∀ k,te P k){k a:Nat}(aE:a<=P.s.size)(af:(br P k a).aB=3):∃ n l,hE P (cA P) n [(k,a)] l/\mC l (min (br P k a).n 65537)/\nX a (br P k a).to l:=by have e:cA P k a=ja (br P k a):=n7 aE;obtain⟨n,l,js,hO,jG⟩:=Yq ah a9 aw k a (by rw[e];exact af);rw[ah,dz]at js jG;rw[e]at hO jG;exact⟨n,l,js,hO,jG⟩
section
variable{I:aR}{t:dr}{T:Nat->Nat->bX}
def aaK(h:sr I t T lo){k a:Nat}(ae:k<t.nn)(n5:lo<=a)(aE:a<=t.s.size):Spec Tryz.prog 59 [ptr t.bt,.int .i64 k,.int .i64 a] I [] λv I' M'=>I'=I/\∃ (hZ:a5) (o:gC) (e:Int),ea t.P k a o e/\v=.tuple #[jd o hZ.val,.int .i64 e]/\hZ.ok 3 (o.cW.flatMap dF.cells)/\M'=hZ.aL 110:=by
 refine b4 [] aU Tryz.func59 rfl rfl rfl ?_;intro B ao;have bb:=h.ok;have c8:=bb.sz;have ee:t.n0<t.nn->∀ M:List aI,t.aL T∈M:=λe=>absurd e (by have:=h.n0;omega);obtain⟨dU,kC,r,ai,fj,-,kD⟩:=bb.row ae;obtain⟨i',gw,im⟩:=h.inv.rg k a ae aE;have gw:(T k a).to<=t.s.size:=gw;have dT:=aaJ (h.inv.aB k a) (h.all k a n5);have cY:cA t.P k a=ja (br t.P k a):=n7 (show a<=t.P.s.size from aE);refine aK.mk _ (bb.gm (j:=4) (by decide)) ?_;refine bk.mk dU k kC rfl ae ?_;refine aK.mk _ (fj _) ?_;refine bk.mk r a rfl rfl (by show a<t.s.size+1;omega) ?_;refine aK.mk _ (kD _ (λe=>ee e _) a aE) ?_;generalize T k a=c at *;refine aJ.mk (λe=>?_) (λe=>?_)
 ·have bA:c.aB=0:=by have:=bS e;omega
  rcases dT with dT | dT | dT;·exact⟨_,_,.refl,rfl,qV,iv,5,.none dT.2 rfl rfl,rfl,ur 3,rfl⟩
  ·omega
  ·omega
 have cJ:c.aB≠0:=by have:=cx e;omega
 refine aJ.mk (λe=>?_) (λe=>?_)
 ·have bA:c.aB=1:=by have:=bS e;omega
  rcases dT with dT | dT | dT;·omega
  ·refine a0.whole _ C8 ?_;rintro v I' M' -⟨rfl,rfl,rfl⟩;exact⟨_,_,.refl,rfl,qV,iv,0,.fail dT.2 rfl rfl,rfl,ur 3,rfl⟩
  ·omega
 have az:c.aB≠1:=by have:=cx e;omega
 rcases dT with dT | dT | dT
 ·omega
 ·omega
 obtain⟨-,bW,fx,p2⟩:=dT;refine aJ.mk (λe=>?_) (λe=>?_)
 ·have bA:65536<c.n:=by have:=bS e;omega
  exact⟨_,_,.refl,rfl,qV,iv,40,.many bW (by omega) rfl rfl,rfl,ur 3,rfl⟩
 have bA:c.n<=65536:=by have:=cx e;omega
 obtain⟨n,l,js,hO,jG⟩:=alK rfl (show t.P.s.size<=4096 from c8) h.na (show a<=t.P.s.size from aE) bW;have tS:l.length=c.n:=by have:=hO.1 (by omega);omega
 refine bc.mk (c.to:Int) (fK rfl (by omega)) ?_;refine a0.whole _ (AW c.to) ?_;rintro v I' M' -⟨rfl,rfl,rfl⟩;refine a0.whole _ (alD h ae n5 aE (by rw[cY];exact bW) js (by omega)) ?_;rintro v I' M' -⟨rfl,hZ,rfl,u3,rfl⟩;exact⟨_,_,.refl,rfl,hZ,⟨true,c.to,l⟩,0,.is bW (by omega) rfl rfl p2.symm (by rw[fx];exact tS) ⟨n,js⟩ jG,rfl,u3,rfl⟩
def u4(n z:Nat)(rule a:Int):Bool:=decide (0<=rule)&&(decide (rule<(n:Int))&&(decide (0<=a)&&decide (a<=(z:Int))))
def alL(h:sr I t T){dU:Option Addr}{ft:Nat}(wo:t.rv=.slice dU n ft)(rule a:Int){M0:List aI}:Spec Tryz.prog 58 [ptr t.bt,.int .i64 rule,.int .i64 a] I M0 λv I' M'=>v=.bool (u4 n t.s.size rule a)/\I'=I/\M'=M0:=by
 refine b4 [] aU Tryz.func58 rfl rfl rfl ?_;intro B ao;have bb:=h.ok;have jR:t.cE.getD 2 undef=.slice dU n ft:=wo;have aa:∀ M,cq I M ((⟨t.bt,0,none⟩:Addr).add 2) 1 [.slice dU n ft]:=λM=>by have:=bb.gm (M:=M) (j:=2) (by decide);rwa [jR]at this
 refine b2.mk (λaV=>?_) (λaV=>?_)
 ·have aV:decide (0<=rule)=true:=aV;refine aK.mk _ (aa _) ?_;refine b2.mk (λa3=>?_) (λa3=>?_)
  ·have a3:decide (rule<(n:Int))=true:=a3;refine b2.mk (λbW=>?_) (λbW=>?_)
   ·have bW:decide (0<=a)=true:=bW;refine aK.mk _ (bb.gm (j:=0) (by decide)) ?_;exact⟨_,_,.refl,by rw[u4,aV,a3,bW];rfl,rfl,rfl⟩
   ·have bW:decide (0<=a)=false:=bW;exact⟨_,_,.refl,by rw[u4,aV,a3,bW];rfl,rfl,rfl⟩
  ·have a3:decide (rule<(n:Int))=false:=a3;exact⟨_,_,.refl,by rw[u4,aV,a3];rfl,rfl,rfl⟩
 ·have aV:decide (0<=rule)=false:=aV;exact⟨_,_,.refl,by rw[u4,aV];rfl,rfl,rfl⟩
def alM{z:Nat}{rule a:Int}(h:u4 n z rule a=true):∃ i j:Nat,rule=i/\a=j/\i<n/\j<=z:=by simp only[u4,cp,e5]at h;exact⟨rule.toNat,a.toNat,by omega,by omega,by omega,by omega⟩
end
section
variable{I:aR}{g:dn}{s:ByteArray}{t:dr}{T:Nat->Nat->bX}
def pF.bF(h:pF I g s t T)(hm:kS g){i:Nat}(hi:i<g.n)(gB:g.ds.length=g.n):∃ dU ft,t.rv=.slice dU g.n ft/\j3 g i<t.nn/\∃ ad,dU=some ad/\∀ M,cq I M (ad.add (i*1)) 1 [.int .i64 (j3 g i)]:=by
 obtain⟨dU,ft,U,aa⟩:=h.rv;have ap:i<(gl 0 g.ds).length:=by rw[vX];omega
 have e:j3 g i=(gl 0 g.ds)[i]:=by simp[j3,cS,ap]
 obtain⟨ad,fa,e6⟩:=aa.one (f:=bQ) hi ap;refine⟨dU,ft,U,?_,ad,fa,λM=>by rw[e];exact e6 M⟩;have:=yZ 0 g.ds (λd ag=>(hm.r d ag).bF) _ (cC ap);rw[e,h.nn];omega
inductive IN(g:dn)(s:ByteArray)(rule a:Int)(o:gC)(e:Int):Prop
 |no(h:u4 g.n s.size rule a=false)(au:o=iv)(he:e=1)| is (i j:Nat) (hi:rule=i) (aj:a=j) (hV:i<g.n) (pt:j<=s.size) (h:ea (db g s) (j3 g i) j o e)
def alN(h:pF I g s t T)(hm:kS g)(tv:sr I t T)(gB:g.ds.length=g.n)(rule a:Int):Spec Tryz.prog 14 [ptr t.bt,.int .i64 rule,.int .i64 a] I [] λv I' M'=>I'=I/\∃ (hZ:a5) (o:gC) (e:Int),IN g s rule a o e/\v=.tuple #[jd o hZ.val,.int .i64 e]/\hZ.ok 3 (o.cW.flatMap dF.cells)/\M'=hZ.aL 110:=by
 refine b4 [] aU Tryz.func14 rfl rfl rfl ?_;intro B ao;obtain⟨dU,ft,wo,-⟩:=h.rv;refine fM.Fq aU rfl rfl ?_;refine aJ.mk (λe=>by cases e) (λ_=>?_);have Mw:=alL tv wo rule a (M0:=[]);rw[h.ts]at Mw;refine a0.whole _ Mw ?_;rintro v I' M' -⟨rfl,rfl,rfl⟩;refine aJ.mk (λe=>?_) (λe=>?_)
 ·have bA:u4 g.n s.size rule a=false:=by simpa using e
  exact⟨_,_,.refl,rfl,qV,iv,1,.no bA rfl rfl,rfl,ur 3,rfl⟩
 have bA:u4 g.n s.size rule a=true:=by simpa using e
 obtain⟨i,j,rfl,rfl,hi,aj⟩:=alM bA;obtain⟨alO,alP,IP,ri,ad,bP,bu⟩:=h.bF hm hi gB;rw[wo]at IP;cases IP;have jR:t.cE.getD 2 undef=.slice dU g.n ft:=wo;have aa:∀ M,cq I' M ((⟨t.bt,0,none⟩:Addr).add 2) 1 [.slice dU g.n ft]:=λM=>by have:=tv.ok.gm (M:=M) (j:=2) (by decide);rwa [jR]at this
 refine aK.mk _ (aa _) ?_;refine bk.mk ad i bP rfl hi ?_;refine aK.mk _ (bu _) ?_;refine a0.whole _ (aaK tv ri (bw _) (by rw[h.ts];exact aj)) ?_;rintro v fE ey -⟨rfl,hZ,o,aF,dZ,rfl,u3,rfl⟩;rw[h.P]at dZ;exact⟨_,_,.refl,rfl,hZ,o,aF,.is i j rfl rfl hi aj dZ,rfl,u3,rfl⟩
end
structure alQ(d:aM)(n:Int):Prop where
 z:d.k=0->d.t=⟨#[]⟩
 leaf:d.k<=3->n=0
 one:6<=d.k->n=1
 two:d.k=4\/d.k=5->2<=n
def Mx{d:aM}{n:Int}(ao:0<=d.k)(h:fits d n=true):alQ d n:=by
 have ar:=(G5 h).k;have ae:d.k=0\/d.k=1\/d.k=2\/d.k=3\/d.k=4\/d.k=5\/d.k=6\/d.k=7\/d.k=8\/d.k=9:=by omega
 have fF:∀ j:Fin 10,uf j.val=oC.getD (j.val*2) 0/\p3 j.val=oC.getD (j.val*2+1) 0:=by decide
 unfold fits at h;rcases ae with e | e | e | e | e | e | e | e | e | e<;>rw[e]at h<;>simp[uf,p3,oC]at h <;>
  refine⟨λq=>?_,λq=>?_,λq=>?_,λq=>?_⟩<;>first | (omega;done) | (exact h.2.2.1;done) | (exact h.2.1;done) | (simp_all;done)
structure mc(P dL:cQ)(N:Nat)(f:Nat->Nat):Prop where
 s:dL.s=P.s
 d:∀ k,k<N->(dL.an k).d=(P.an (f k)).d
 bm:∀ k,k<N->(P.an (f k)).bm=(dL.an k).bm.map f
 lt:∀ k,k<N->∀ q∈(dL.an k).bm,q<N
 one:∀ k,k<N->(dL.an k).d.k=3\/6<=(dL.an k).d.k->0<(dL.an k).bm.length
 nn:∀ k,k<N->0<=(dL.an k).d.k
 b:P.aW=0/\dL.aW=0
section
variable{m m':Nat->Nat->cr}{f:Nat->Nat}{N:Nat}(h:∀ k a,k<N->m' k a=m (f k) a)
include h
def aaL:∀ (L:List Nat) (a n:Nat),(∀ q∈L,q<N)->gE m (L.map f) a n=gE m' L a n
 |[],_,_,_=>rfl| q::L,a,n,cT=>by rw[dv,gE,gE,h q a (cT q (.head _))];rw[aaL L _ _ λy aH=>cT y (.tail _ aH)]
def aaM:∀ (L:List Nat) (a:Nat),(∀ q∈L,q<N)->gL m (L.map f) a=gL m' L a
 |[],_,_=>rfl| q::L,a,cT=>by rw[dv,gL,gL,h q a (cT q (.head _)),aaM L _ λy aH=>cT y (.tail _ aH)]
def aaN{q:Nat}(ay:q<N){lo hi:Int}:∀ (j i a n:Nat),e4 m (f q) lo hi j i a n=e4 m' q lo hi j i a n
 |0,i,a,n=>rfl| j+1,i,a,n=>by rw[e4,e4,h q a ay,aaN ay j]
end
def Fs{l:List Nat}{f:Nat->Nat}(h:0<l.length):(l.map f).getD 0 0=f (l.getD 0 0):=by
 match l,h with
 |x::l,_=>rfl
def Ft{l:List Nat}(h:0<l.length)(ap:∀ q∈l,q<N):l.getD 0 0<N:=by
 match l,h with
 |x::l,_=>exact ap x (.head _)
def mc.out{P:cQ}{f:Nat->Nat}(h:mc P dL N f){m:Nat->Nat->cr}(hm:∀ k a,k<N->m' k a=m (f k) a){k:Nat}(ae:k<N)(a:Nat):eC dL m' k a=eC P m (f k) a:=by
 have ag:=h.d k ae;have aE:=h.bm k ae;have ap:=h.lt k ae;have au:=h.one k ae;rcases Cw (dL.an k).d.k with e | e | e | e | e | e | e | e | e | ⟨j1,eJ,cU,hs,l5,Au,Lx,Ly,Lz⟩
 ·rw[uH e,uH (by rw[<-ag];exact e)]
 ·rw[uI e,uI (by rw[<-ag];exact e),h.s,ag]
 ·rw[uJ e,uJ (by rw[<-ag];exact e),h.s,ag]
 ·have ao:=au (.inl e);rw[uK e,uK (by rw[<-ag];exact e),aE,Fs ao,hm _ _ (Ft ao ap)]
 ·rw[uL e,uL (by rw[<-ag];exact e),aE,aaL hm _ _ _ ap]
 ·rw[uM e,uM (by rw[<-ag];exact e),aE,aaM hm _ _ ap]
 ·have ao:=au (.inr (by omega));rw[sb e,sb (by rw[<-ag];exact e),aE,Fs ao,<-ag,aaN hm (Ft ao ap)];unfold pw;rw[h.s]
 ·have ao:=au (.inr (by omega));rw[uN e,uN (by rw[<-ag];exact e),aE,Fs ao,hm _ _ (Ft ao ap)]
 ·have ao:=au (.inr (by omega));rw[uO e,uO (by rw[<-ag];exact e),aE,Fs ao,hm _ _ (Ft ao ap)]
 ·have ao:=au (.inr (by have:=h.nn k ae;omega));rw[uP j1 eJ cU hs l5 Au Lx Ly Lz,uP (by rw[<-ag];exact j1) (by rw[<-ag];exact eJ) (by rw[<-ag];exact cU) (by rw[<-ag];exact hs) (by rw[<-ag];exact l5) (by rw[<-ag];exact Au) (by rw[<-ag];exact Lx) (by rw[<-ag];exact Ly) (by rw[<-ag];exact Lz),aE,Fs ao,hm _ _ (Ft ao ap)]
def mc.bG{P:cQ}{f:Nat->Nat}(h:mc P dL N f):∀ (n k a:Nat),k<N->ff dL n k a=ff P n (f k) a
 |0,_,_,_=>rfl| n+1,k,a,ae=>h.out (λk a ae=>h.bG n k a ae) ae a
def mc.fh{P:cQ}{f:Nat->Nat}(h:mc P dL N f){k:Nat}(ae:k<N)(a:Nat):br dL k a=br P (f k) a:=by
 by_cases ag:∃ n,ef (ff dL n k a)
 ·obtain⟨n,aw⟩:=ag;have aa:ef (ff P n (f k) a):=by rw[<-h.bG n k a ae];exact aw
  rw[EJ aw,EJ aa,h.bG n k a ae]
 ·have aa:¬ ∃ n,ef (ff P n (f k) a):=λ⟨n,aw⟩=>ag ⟨n,by rw[h.bG n k a ae];exact aw⟩;unfold br;rw[dif_neg ag,dif_neg aa]
def mc.kn{P:cQ}{f:Nat->Nat}(h:mc P dL N f){k:Nat}(ae:k<N)(a:Nat):cA dL k a=cA P (f k) a:=by unfold cA fg;rw[h.s,h.fh ae]
section
variable{kn fe:Nat->Nat->cr}{f:Nat->Nat}{N:Nat}(h:∀ k a,k<N->fe k a=kn (f k) a)
def AX(f:Nat->Nat)(l:List (Nat×Nat)):List (Nat×Nat):=l.map λx=>(f x.1,x.2)
include h
def Sa:∀ (L:List Nat) (a:Nat),(∀ q∈L,q<N)->ht kn 0 (L.map f) a=AX f (ht fe 0 L a)/\(allM fe 0 L a->allM kn 0 (L.map f) a)/\∀ x∈ht fe 0 L a,x.1<N
 |[],a,_=>⟨rfl,λ_=>trivial,λx ab=>by cases ab⟩
 |k::L,a,cT=>by
  have ae:=cT k (.head _);have e:=h k (a-0) ae;obtain⟨i1,i2,i3⟩:=Sa L a λy aH=>cT y (.tail _ aH);obtain⟨js,hO,jG⟩:=Sa L (fe k (a-0)).to λy aH=>cT y (.tail _ aH);simp only[dv,ht,allM];rw[<-e,i1,js];refine⟨?_,λab=>⟨ab.1,hO ab.2⟩,?_⟩
  ·cases Nat.beq (fe k (a-0)).aB 3 with
   |true=>
    cases Nat.beq (fe k (a-0)).n 0<;>rfl
   |false=>rfl
  ·cases Nat.beq (fe k (a-0)).aB 3 with
   |true=>
    cases Nat.beq (fe k (a-0)).n 0 with
    |true=>exact jG
    |false=>
     intro x ab;rcases eL.1 ab with rfl | ab;·exact ae
     ·exact jG x ab
   |false=>exact i3
def aaO:∀ (L:List Nat) (a:Nat),(∀ q∈L,q<N)->kx kn 0 (L.map f) a=AX f (kx fe 0 L a)/\(ta fe 0 L a->ta kn 0 (L.map f) a)/\∀ x∈kx fe 0 L a,x.1<N
 |[],a,_=>⟨rfl,λh=>h,λx ab=>by cases ab⟩
 |k::L,a,cT=>by
  have ae:=cT k (.head _);have e:=h k (a-0) ae;obtain⟨i1,i2,i3⟩:=aaO L a λy aH=>cT y (.tail _ aH);simp only[dv,kx,ta];rw[<-e,i1];refine⟨?_,λab=>ab.imp id λaH=>⟨aH.1,i2 aH.2⟩,?_⟩
  ·cases Nat.beq (fe k (a-0)).aB 3 with
   |true=>cases Nat.beq (fe k (a-0)).n 0<;>rfl
   |false=>rfl
  ·cases Nat.beq (fe k (a-0)).aB 3 with
   |true=>
    cases Nat.beq (fe k (a-0)).n 0 with
    |true=>intro x ab;cases ab| false=>intro x ab;rw[gI.1 ab];exact ae
   |false=>exact i3
def alR{k:Nat}(ae:k<N){hi:Int}{a:Nat}{l:List (Nat×Nat)}(hw:ky fe 0 k hi t a l):ky kn 0 (f k) hi t a (AX f l)/\∀ x∈l,x.1<N:=by
 induction hw with
 |stop h=>exact⟨.stop h,λx ab=>by cases ab⟩| @fail t a U aa=>exact⟨.fail U (by rw[<-h k (a-0) ae];exact aa),λx ab=>by cases ab⟩
 | @more t a l ah U aa r a7=>
  have e:=h k (a-0) ae;obtain⟨i1,i2⟩:=a7;rw[e]at aa i1;have hm:=ky.more (kn:=kn) (aW:=0) (k:=f k) ah U aa i1;rw[e];cases aw:Nat.beq (kn (f k) (a-0)).n 0 with
  |true=>rw[aw]at hm;exact⟨hm,i2⟩
  |false=>
   rw[aw]at hm;refine⟨hm,λx ab=>?_⟩;rcases eL.1 ab with rfl | ab;·exact ae
   ·exact i2 x ab
end
def mc.parts{P:cQ}{f:Nat->Nat}(h:mc P dL N f){k a:Nat}(ae:k<N){l:List (Nat×Nat)}(aD:iE dL (cA dL) k a l):iE P (cA P) (f k) a (AX f l)/\∀ x∈l,x.1<N:=by
 have ag:=h.d k ae;have aE:=h.bm k ae;have ap:=h.lt k ae;have cY:=λk a (ae:k<N)=>h.kn ae a;unfold iE at aD |-;rw[h.b.2]at aD;rw[h.b.1,<-ag,aE];by_cases bj:(dL.an k).d.k=6
 ·rw[cG bj]at aD |-;have ao:=h.one k ae (.inr (by omega));rw[Fs ao];exact alR cY (Ft ao ap) aD
 ·rw[ca bj]at aD |-;by_cases bq:(dL.an k).d.k=5
  ·rw[cG bq]at aD |-;obtain⟨i1,i2,i3⟩:=aaO cY (dL.an k).bm a ap;exact⟨⟨i2 aD.1,by rw[aD.2,i1]⟩,by rw[aD.2];exact i3⟩
  ·rw[ca bq]at aD |-;obtain⟨i1,i2,i3⟩:=Sa cY (dL.an k).bm a ap;exact⟨⟨i2 aD.1,by rw[aD.2,i1]⟩,by rw[aD.2];exact i3⟩
def mc.gs{P:cQ}{f:Nat->Nat}(h:mc P dL N f){l:List dF}(aA:hE dL (cA dL) n L l):(∀ x∈L,x.1<N)->hE P (cA P) n (AX f L) l:=by
 induction aA with
 |nil=>exact λ_=>.nil
 | @zero n k a bd l af ao r a7=>
  intro cT;have ae:k<N:=cT _ (.head _);rw[h.b.2,h.kn ae,<-h.b.1]at af;have jX:(cA P (f k) (a-P.aW)).n=0:=by rw[h.b.1,<-h.kn ae];rw[h.b.2]at ao;exact ao
  exact .zero af jX (a7 λx ab=>cT x (.tail _ ab))
 | @node n k a parts bd l af ao aD r a7=>
  intro cT;have ae:k<N:=cT _ (.head _);obtain⟨bC,p6⟩:=h.parts ae aD;have e:cA dL k (a-dL.aW)=cA P (f k) (a-P.aW):=by rw[h.b.1,h.b.2,h.kn ae]
  have Fa:nf dL (cA dL) k a=nf P (cA P) (f k) a:=by unfold nf;rw[<-h.d k ae,e]
  rw[Fa];rw[e]at af ao;have hi:=a7 λx ab=>by
   rcases dV.1 ab with ab | ab;·exact p6 x ab
   ·exact cT x (.tail _ ab)
  have aF:AX f (parts++bd)=AX f parts++AX f bd:=fi;rw[aF]at hi;exact .node af ao bC hi
def mc.Fu{P:cQ}{f:Nat->Nat}(h:mc P dL N f){k a:Nat}(ae:k<N){o o':gC}{e bA:Int}(av:ea dL k a o e)(IQ:ea P (f k) a o' bA):o=o'/\e=bA:=by
 have ap:=h.fh ae a;rcases av with⟨bz,bJ,cj⟩ | ⟨bz,bJ,cj⟩ | ⟨bz,dN,bJ,cj⟩ | ⟨bz,bJ,cj,dN,gi,hp,h1,ke⟩<;>rw[ap]at bz <;>
  rcases IQ with⟨b1,cb,c9⟩ | ⟨b1,cb,c9⟩ | ⟨b1,eM,cb,c9⟩ | ⟨b1,cb,c9,eM,en,b6,b7,dm⟩
 all_goals first
  |exact⟨bJ.trans cb.symm,cj.trans c9.symm⟩|(exfalso;omega)| skip
 ·rw[ap]at dN;exfalso;omega
 ·rw[ap]at bJ;exfalso;omega
 ·rw[ap]at gi;obtain⟨n,aA⟩:=h1;obtain⟨et,ml⟩:=b7;have U:=h.gs aA λx ab=>by rw[gI.1 ab];exact ae
  have aa:=U.As ml;refine⟨?_,cj.trans c9.symm⟩;obtain⟨fa,e6,hC⟩:=o;obtain⟨i',gw,im⟩:=o';simp only at dN gi eM en aa;rw[dN,gi,eM,en,aa]
def cI(g:dn)(x:bN)(s:ByteArray):cQ:=⟨(l9 g.ds).map qp++x.ns.map (xq g.ds (a6 g.ds)),s,0⟩
section
variable{g:dn}{x:bN}{s:ByteArray}
def aaP:(cI g x s).ns.length=a6 g.ds+x.ns.length:=by show((l9 g.ds).map qp++x.ns.map _).length=_;rw[cP,cD,cD,wg]
def nr{k:Nat}(ae:k<a6 g.ds):(cI g x s).an k=(db g s).an k:=by
 have h:k<((l9 g.ds).map qp).length:=by rw[cD,wg];exact ae
 unfold cQ.an cI db;rw[cS,cS,pT h]
def mM(aj:j<x.ns.length):(cI g x s).an (a6 g.ds+j)=xq g.ds (a6 g.ds) x.ns[j]:=by
 have h:((l9 g.ds).map qp).length=a6 g.ds:=by rw[cD,wg]
 unfold cQ.an cI;rw[cS,l3 (by omega),h,Cr,tJ,eR aj];rfl
def alS{k:Nat}(ae:a6 g.ds+x.ns.length<=k):(cI g x s).an k=⟨Pr,[]⟩:=by
 have h:(cI g x s).ns.length<=k:=by rw[aaP];exact ae
 unfold cQ.an;rw[cS,o5 h];rfl
variable(hm:kS g)(cZ:∀ d∈g.ds,∀ n∈d.t.ns,0<=n.k)(ar:s.size<=4096)
include hm cZ ar
def aaQ:mc (cI g x s) (db g s) (a6 g.ds) id:=by
 obtain⟨kz,cf⟩:=C3 hm cZ ar;refine⟨rfl,λk ae=>?_,λk ae=>?_,λk ae q ay=>(cf k ae).bm q ay,λk ae h=>?_,λk ae=>(cf k ae).j1,⟨rfl,rfl⟩⟩
 ·rw[id,nr ae]
 ·rw[id,nr ae,List.map_id]
 ·obtain⟨q,ay⟩:=(kz k).one h;rw[ay];exact Cu
def Sb{k:Nat}(ae:k<a6 g.ds)(a:Nat):br (db g s) k a=br (cI g x s) k a:=(aaQ hm cZ ar (x:=x)).fh ae a
structure oc(g:dn)(x:bN):Prop where
 r:tc x
 j1:∀ n∈x.ns,0<=n.k
 find:∀ n∈x.ns,n.k=3->0<=df n.t g.ds 0
theorem xN(ab:oc g x)(aj:j<x.ns.length) :
  0<=x.ns[j].k/\x.ns[j].k<10/\(∀ q∈eN g.ds (a6 g.ds) x.ns[j],q<a6 g.ds+x.ns.length)/\(x.ns[j].k=3\/6<=x.ns[j].k->(eN g.ds (a6 g.ds) x.ns[j]).length=1) /\
   (x.ns[j].k=6->0<=x.ns[j].lo/\x.ns[j].lo<=99/\(x.ns[j].hi=-1\/(x.ns[j].lo<=x.ns[j].hi/\x.ns[j].hi<=99)))/\(eN g.ds (a6 g.ds) x.ns[j]).length<=max 1 x.ns.length:=by
 have aw:=cC aj;have aC:=ab.r.fits j aj;obtain⟨f1,f2,f3,f4,-,-⟩:=PZ (ab.j1 _ aw) aC;have fc:=ab.r.ax j aj;have ep:x.ns[j].ax.length<=j:=HJ j _ (ab.r.diff.sublist (HL aw)) fc;have zh:=ab.find _ aw;have ao:=ab.j1 _ aw;generalize x.ns[j]=n at *;refine⟨ao,f1,?_⟩;by_cases af:n.k=3
 ·have oN:eN g.ds (a6 g.ds) n=[(gl 0 g.ds).getD (df n.t g.ds 0).toNat 0]:=by rw[eN,fr af,bh]
  have jH:=Ar g.ds 0 (zh af);have eS:(df n.t g.ds 0).toNat<(gl 0 g.ds).length:=by rw[vX];omega
  rw[oN];refine⟨λq ay=>?_,λ_=>rfl,λh=>by omega,by show 1<=_;omega⟩;rw[gI.1 ay,cS,eR eS,ib];have:=yZ 0 g.ds (λd ag=>(hm.r d ag).bF) _ (cC eS);omega
 ·have oN:eN g.ds (a6 g.ds) n=n.ax.map λk=>a6 g.ds+k.toNat:=by rw[eN,c0 af,bf]
  rw[oN];refine⟨λq ay=>?_,λh=>?_,f4,by rw[cD];omega⟩;·obtain⟨k,ae,rfl⟩:=dC.1 ay;have:=fc k ae;omega
  ·rw[cD];exact f3 (by omega)
def Sc(ab:oc g x):(∀ k,te (cI g x s) k)/\∀ k,k<a6 g.ds+x.ns.length->td (cI g x s) (a6 g.ds+x.ns.length) k:=by
 obtain⟨kz,cf⟩:=C3 hm cZ ar;refine⟨λk=>?_,λk ae=>?_⟩
 ·by_cases U:k<a6 g.ds
  ·obtain⟨bz,bJ,cj,dN⟩:=kz k;refine⟨?_,?_,?_,?_⟩<;>rw[nr U]<;>assumption
  ·by_cases aa:k<a6 g.ds+x.ns.length
   ·obtain⟨j,rfl⟩:∃ j,k=a6 g.ds+j:=⟨k-a6 g.ds,by omega⟩;have aj:j<x.ns.length:=by omega
    obtain⟨b1,cb,c9,eM,en,b6⟩:=xN hm cZ ar ab aj;refine⟨by rw[mM aj];exact b1,λh=>?_,by rw[mM aj];exact cb,λh=>?_⟩
    ·rw[mM aj]at h |-;have bq:(eN g.ds (a6 g.ds) x.ns[j]).length=1:=eM h;show ∃ q,eN g.ds (a6 g.ds) x.ns[j]=[q]
     match ap:eN g.ds (a6 g.ds) x.ns[j],bq with
     |[q],_=>exact⟨q,rfl⟩
    ·rw[mM aj]at h |-;have:=en h;show x.ns[j].hi=-1\/(0<=x.ns[j].hi/\x.ns[j].hi<=99);omega
   ·have e:=alS (g:=g) (x:=x) (s:=s) (k:=k) (by omega);refine⟨by rw[e];exact Mj 0,λh=>?_,by rw[e];show(0:Int)<10;omega,λh=>?_⟩
    ·rw[e]at h;have aa:(0:Int)=3\/6<=(0:Int):=h;omega
    ·rw[e]at h;have aa:(0:Int)=6:=h;omega
 ·by_cases U:k<a6 g.ds
  ·obtain⟨bz,bJ,cj,dN⟩:=cf k U;refine⟨?_,λh=>?_,λq ay=>?_,?_⟩
   ·rw[nr U];exact bz
   ·rw[nr U]at h |-;have:=bJ h;omega
   ·rw[nr U]at ay;have:=cj q ay;omega
   ·rw[nr U];exact dN
  ·obtain⟨j,rfl⟩:∃ j,k=a6 g.ds+j:=⟨k-a6 g.ds,by omega⟩;have aj:j<x.ns.length:=by omega
   obtain⟨b1,cb,c9,eM,en,b6⟩:=xN hm cZ ar ab aj;refine⟨by rw[mM aj];exact b1,λh=>?_,λq ay=>?_,λh=>?_⟩
   ·rw[mM aj]at h |-;have bq:(eN g.ds (a6 g.ds) x.ns[j]).length=1:=eM h;show(eN g.ds (a6 g.ds) x.ns[j]).getD 0 0<_
    match ap:eN g.ds (a6 g.ds) x.ns[j],bq with
    |[q],_=>exact c9 q (by rw[ap];exact .head _)
   ·rw[mM aj]at ay;exact c9 q ay
   ·rw[mM aj]at h |-;exact(en h).2.1
end
structure cB where
 a:BitVec 64
 b:BitVec 64
 c:BitVec 64
 d:BitVec 64
 deriving DecidableEq
def cB.zero:cB:=⟨0,0,0,0⟩
def cB.or(x y:cB):cB:=⟨x.a ||| y.a,x.b ||| y.b,x.c ||| y.c,x.d ||| y.d⟩
def cB.and(x y:cB):cB:=⟨x.a &&& y.a,x.b &&& y.b,x.c &&& y.c,x.d &&& y.d⟩
def cB.sub(x y:cB):Bool:=decide (x.and y=x)
def cB.cells(x:cB):List Value:=[.int .u64 x.a.toNat,.int .u64 x.b.toNat,.int .u64 x.c.toNat,.int .u64 x.d.toNat]
structure ck where
 w:cB
 f:Bool
 deriving DecidableEq
def ck.cells(x:ck):List Value:=[.int .u64 x.w.a.toNat,.int .u64 x.w.b.toNat,.int .u64 x.w.c.toNat,.int .u64 x.w.d.toNat,.bool x.f]
def jx:ck:=⟨.zero,false⟩
def My:ck:=⟨.zero,true⟩
def ck.seq(a b:ck):ck:=bif a.f then⟨a.w.or b.w,b.f⟩else a
def ck.choice(a b:ck):ck:=⟨a.w.or b.w,a.f||b.f⟩
def cB.ext'{x y:cB}(U:x.a=y.a)(aa:x.b=y.b)(af:x.c=y.c)(aP:x.d=y.d):x=y:=by obtain⟨a,b,c,d⟩:=x;obtain⟨a',hJ,c',Ln⟩:=y;simp only at U aa af aP;subst U aa af aP;rfl
def cB.or_assoc(x y z:cB):(x.or y).or z=x.or (y.or z):=by simp only[cB.or,BitVec.or_assoc]
def cB.or_comm(x y:cB):x.or y=y.or x:=by simp only[cB.or,BitVec.or_comm]
def cB.or_self(x:cB):x.or x=x:=by simp[cB.or]
def cB.zero_or(x:cB):cB.zero.or x=x:=by simp[cB.or,cB.zero]
def AY{x:BitVec 64}:x &&& y=x ↔ x ||| y=y:=by
 constructor
 ·intro h;apply BitVec.eq_of_getElem_eq;intro i hi;have:=congrArg (λw:BitVec 64=>w[i]) h;simp only[BitVec.getElem_and,BitVec.getElem_or]at this |-;revert this;cases x[i]<;>cases y[i]<;>simp
 ·intro h;apply BitVec.eq_of_getElem_eq;intro i hi;have:=congrArg (λw:BitVec 64=>w[i]) h;simp only[BitVec.getElem_and,BitVec.getElem_or]at this |-;revert this;cases x[i]<;>cases y[i]<;>simp
def cB.Fv{x y:cB}:x.sub y=true ↔ x.or y=y:=by
 unfold cB.sub;rw[e5];constructor
 ·intro h;have U:=congrArg cB.a h;have aa:=congrArg cB.b h;have af:=congrArg cB.c h;have aP:=congrArg cB.d h;exact cB.ext' (AY.1 U) (AY.1 aa) (AY.1 af) (AY.1 aP)
 ·intro h;have U:=congrArg cB.a h;have aa:=congrArg cB.b h;have af:=congrArg cB.c h;have aP:=congrArg cB.d h;exact cB.ext' (AY.2 U) (AY.2 aa) (AY.2 af) (AY.2 aP)
def cB.alT(x:cB):x.sub x=true:=cB.Fv.2 x.or_self
def cB.Mz{x y z:cB}(h:x.sub y=true)(be:y.sub z=true):x.sub z=true:=by rw[cB.Fv]at h be |-;rw[<-be,<-cB.or_assoc,h]
def cB.alU{x y:cB}(h:x.sub y=true)(be:y.sub x=true):x=y:=by rw[cB.Fv]at h be;exact be.symm.trans ((cB.or_comm y x).trans h)
def cB.Sd(x y:cB):x.sub (x.or y)=true:=by rw[cB.Fv,<-cB.or_assoc,cB.or_self]
def cB.alV{x y z:cB}(h:x.sub z=true)(be:y.sub z=true):(x.or y).sub z=true:=by rw[cB.Fv]at h be |-;rw[cB.or_assoc,be,h]
def cB.zero_sub(x:cB):cB.zero.sub x=true:=by rw[cB.Fv,cB.zero_or]
def cB.or_mono{x y u v:cB}(h:x.sub y=true)(be:u.sub v=true):(x.or u).sub (y.or v)=true:=
 cB.alV (cB.Mz h (cB.Sd _ _)) (cB.Mz be (by rw[cB.or_comm];exact cB.Sd _ _))
structure ck.le(a b:ck):Prop where
 w:a.w.sub b.w=true
 f:a.f=true->b.f=true
def ck.le_refl(a:ck):a.le a:=⟨cB.alT _,id⟩
def ck.le.trans{a b c:ck}(h:a.le b)(be:b.le c):a.le c:=⟨cB.Mz h.w be.w,λx=>be.f (h.f x)⟩
def ck.le.antisymm{a b:ck}(h:a.le b)(be:b.le a):a=b:=by
 have U:=cB.alU h.w be.w;obtain⟨alW,AZ⟩:=a;obtain⟨alX,od⟩:=b;simp only at U;subst U;have aC:=h.f;have wX:=be.f;cases AZ<;>cases od<;>simp_all
def ck.lh(a:ck):jx.le a:=⟨cB.zero_sub _,λh=>by cases h⟩
def ck.alY{a b x y:ck}(h:a.le b)(be:x.le y):(a.choice x).le (b.choice y):=by refine⟨cB.or_mono h.w be.w,?_⟩;simp only[ck.choice,kM];exact λg=>g.imp h.f be.f
def ck.Li{a b x y:ck}(h:a.le b)(be:x.le y):(a.seq x).le (b.seq y):=by
 obtain⟨alW,AZ⟩:=a;obtain⟨alX,od⟩:=b;obtain⟨U,aa⟩:=h;simp only at U aa;cases AZ with
 |true=>obtain rfl:=aa rfl;exact⟨cB.or_mono U be.w,be.f⟩
 |false=>
  cases od with
  |true=>exact⟨cB.Mz U (cB.Sd _ _),λh=>by simp[ck.seq]at h⟩| false=>exact⟨U,λh=>by simp[ck.seq]at h⟩
def IR(x:BitVec 64):BitVec.ofInt 64 (x.toNat:Int)=x:=by rw[BitVec.ofInt_natCast,BitVec.ofNat_toNat,BitVec.setWidth_eq]
def aaR(x:BitVec 64):IntKind.u64.wrap (x.toNat:Int)=(x.toNat:Int):=by have:=x.isLt;unfold IntKind.wrap;simp only[IntKind.bits,IntKind.signed];simp;omega
def alZ{x:BitVec 64}:((x.toNat:Int) == (y.toNat:Int))=decide (x=y):=by rw[pQ];simp[BitVec.toNat_eq];omega
def al0{x:Int}(h:0<=x/\x<18446744073709551616):∃ w:BitVec 64,x=(w.toNat:Int):=by refine⟨BitVec.ofNat 64 x.toNat,?_⟩;rw[Ct,HN (by omega)];omega
structure IS(α:Type) where
 le:α->α->Prop
 lh:α
 refl:∀ a,le a a
 trans:∀ {a b c},le a b->le b c->le a c
 IT:∀ {a b},le a b->le b a->a=b
 low:∀ a,le lh a
structure gR{α:Type}(O:IS α)(l m:List α):Prop where
 len:l.length=m.length
 at':∀ i,O.le (l.getD i O.lh) (m.getD i O.lh)
section
variable{α:Type}{O:IS α}
def gR.refl(l:List α):gR O l l:=⟨rfl,λ_=>O.refl _⟩
def gR.trans{a b c:List α}(h:gR O a b)(be:gR O b c):gR O a c:=⟨h.len.trans be.len,λi=>O.trans (h.at' i) (be.at' i)⟩
def gR.IT{a b:List α}(h:gR O a b)(be:gR O b a):a=b:=by apply ys h.len;intro i U aa;have:=O.IT (h.at' i) (be.at' i);simpa[cS,U,aa]using this
def gR.of{a b:List α}(ap:a.length=b.length)(h:∀ i,i<a.length->O.le (a.getD i O.lh) (b.getD i O.lh)):gR O a b:=⟨ap,λi=>by
 by_cases hi:i<a.length
 ·exact h i hi
 ·have e:a.getD i O.lh=O.lh:=by simp[cS,o5 (Nat.le_of_not_lt hi)]
  rw[e];exact O.low _⟩
def gR.snoc{a b:List α}{x y:α}(h:gR O a b)(ab:O.le x y):gR O (a++[x]) (b++[y]):=by
 have ap:=h.len;refine .of (by simp[ap]) λi hi=>?_;rcases Mi i a.length with U | U
 ·have aa:i<b.length:=by omega
  have:=h.at' i;simpa[cS,pT U,pT aa]using this
 ·have aa:i=a.length:=by simp at hi;omega
  subst aa;have az:(a++[x]).getD a.length O.lh=x:=by simp[cS]
  have aF:(b++[y]).getD a.length O.lh=y:=by rw[ap];simp[cS]
  rw[az,aF];exact ab
def MA(l:List α)(b:α)(i j:Nat)(x:α)(hi:i<l.length):(l.set i x).getD j b=if i=j then x else l.getD j b:=by
 simp only[cS,o8];by_cases e:i=j
 ·subst e;simp[hi]
 ·rw[ca e,ca e]
def zk(body:List α->Nat->α):Nat->Nat->List α->List α
 |_,0,l=>l| i,k+1,l=>zk body (i+1) k (l.set i (body l i))
structure u5(O:IS α)(n:Nat)(body:List α->Nat->α)(l:List α):Prop where
 len:l.length=n
 up:∀ i,i<n->O.le (l.getD i O.lh) (body l i)
 least:∀ m:List α,m.length=n->(∀ i,i<n->O.le (body m i) (m.getD i O.lh))->gR O l m
structure aaS(O:IS α)(n:Nat)(body:List α->Nat->α)(l:List α):Prop where
 len:l.length=n
 fix:∀ i,i<n->l.getD i O.lh=body l i
 least:∀ m:List α,m.length=n->(∀ i,i<n->O.le (body m i) (m.getD i O.lh))->gR O l m
def aaT(n i:Nat)(b:α):(List.replicate n b).getD i b=b:=by
 by_cases h:i<n<;>simp[cS,KW,h]
def u5.start(n:Nat)(body:List α->Nat->α):u5 O n body (List.replicate n O.lh):=by
 refine⟨by simp,λi h=>?_,λm hm _=>⟨by simp[hm],λi=>?_⟩⟩
 ·rw[aaT];exact O.low _
 ·rw[aaT];exact O.low _
section
variable{n:Nat}{body:List α->Nat->α}(Fw:∀ {l m:List α},gR O l m->∀ i,i<n->O.le (body l i) (body m i))
include Fw
def u5.step{l:List α}(h:u5 O n body l){i:Nat}(hi:i<n):u5 O n body (l.set i (body l i))/\gR O l (l.set i (body l i)):=by
 have eP:i<l.length:=by rw[h.len];exact hi
 have bn:gR O l (l.set i (body l i)):=.of (by simp) λj aj=>by
  rw[MA _ _ _ _ _ eP];by_cases e:i=j;·subst e;rw[cG rfl];exact h.up i hi
  ·rw[ca e];exact O.refl _
 refine⟨⟨by simpa using h.len,λj aj=>?_,λm hm aN=>?_⟩,bn⟩
 ·rw[MA _ _ _ _ _ eP];by_cases e:i=j
  ·subst e;rw[cG rfl];exact Fw bn _ hi
  ·rw[ca e];exact O.trans (h.up j aj) (Fw bn _ aj)
 ·have HB:=h.least m hm aN;refine .of (by simp[h.len,hm]) λj aj=>?_;rw[MA _ _ _ _ _ eP];by_cases e:i=j
  ·subst e;rw[cG rfl];exact O.trans (Fw HB _ hi) (aN i hi)
  ·rw[ca e];exact HB.at' j
def Se:∀ (k i:Nat) {l:List α},i+k=n->u5 O n body l->u5 O n body (zk body i k l)/\gR O l (zk body i k l) /\ (zk body i k l=l->∀ j,j<n->i<=j->l.getD j O.lh=body l j)
 |0,i,l,ae,h=>⟨h,gR.refl l,λ_ j aj cm=>by omega⟩
 |k+1,i,l,ae,h=>by
  have hi:i<n:=by omega
  have eP:i<l.length:=by rw[h.len];exact hi
  obtain⟨s1,s2⟩:=h.step Fw hi;obtain⟨i',gw,im⟩:=Se k (i+1) (by omega) s1;refine⟨i',s2.trans gw,λe j aj cm=>?_⟩;have cJ:zk body i (k+1) l=zk body (i+1) k (l.set i (body l i)):=rfl;have az:l.set i (body l i)=l:=by refine gR.IT (O:=O) ?_ s2;rw[cJ]at e;rw[e]at gw;exact gw
  have aF:zk body (i+1) k l=l:=by rw[cJ,az]at e;exact e
  rw[az]at im;by_cases aD:j=i;·subst aD;have aP:=MA l O.lh j j (body l j) eP;rw[az,cG rfl]at aP;exact aP
  ·exact im aF j aj (by omega)
def u5.done{l:List α}(h:u5 O n body l)(aC:zk body 0 n l=l):aaS O n body l:=
 ⟨h.len,λi hi=>(Se Fw n 0 (dz n) h).2.2 aC i hi (bw _),h.least⟩
end
end
def aaU{α:Type}{p q:α->Bool}:∀ {l:List α},(∀ x∈l,p x=true->q x=true)->l.countP q<=l.countP p->∀ x∈l,q x=true->p x=true
 |[],_,_,x,ab,_=>by cases ab
 |y::l,h,bn,x,ab,ay=>by
  have hm:=List.countP_mono_left (p:=p) (q:=q) (l:=l) (λx ab=>h x (.tail _ ab));rw[Fe,Fe]at bn;have aH:=h y (.head _);have key:(q y=true->p y=true)/\l.countP q<=l.countP p:=by cases aD:p y<;>cases ata:q y<;>simp_all<;>omega
  rcases eL.1 ab with rfl | ab;·exact key.1 ay
  ·exact aaU (λx ab=>h x (.tail _ ab)) key.2 x ab ay
def zl(x:BitVec 64):Nat:=(List.range 64).countP λi=>!x.getLsbD i
def IU{x:BitVec 64}(h:x &&& y=x):zl y<=zl x/\(zl x<=zl y->x=y):=by
 have ah:∀ i,x.getLsbD i=true->y.getLsbD i=true:=λi ab=>by have:=congrArg (λw:BitVec 64=>w.getLsbD i) h;simp only[RG,ab,p4]at this;exact this
 have aD:∀ i∈List.range 64,(!y.getLsbD i)=true->(!x.getLsbD i)=true:=λi _ hi=>by
  have U:=ah i;cases ab:x.getLsbD i with
  |false=>rfl| true=>rw[U ab]at hi;cases hi
 refine⟨List.countP_mono_left aD,λbn=>?_⟩;have:=aaU aD bn;apply RF;intro i hi;have U:=ah i;have aa:=this i (kI.2 hi);cases ab:x.getLsbD i<;>cases aH:y.getLsbD i<;>simp_all
def Fx(x:ck):Nat:=(zl x.w.a+zl x.w.b+zl x.w.c+zl x.w.d)+(bif x.f then 0 else 1)
def al1{a b:ck}(h:a.le b):Fx b<=Fx a/\(Fx a<=Fx b->a=b):=by
 obtain⟨U,aa⟩:=h;obtain⟨⟨bz,bJ,cj,dN⟩,AZ⟩:=a;obtain⟨⟨b1,cb,c9,eM⟩,od⟩:=b;have U:=bS U;simp only[cB.and,cB.mk.injEq]at U;obtain⟨aV,a3,bW,fx⟩:=U;obtain⟨bC,fa⟩:=IU aV;obtain⟨p6,e6⟩:=IU a3;obtain⟨h',hC⟩:=IU bW;obtain⟨agJ,k9⟩:=IU fx;simp only at aa;have aC:(bif od then 0 else 1)<=(bif AZ then 0 else 1)/\((bif AZ then 0 else 1)<=(bif od then 0 else 1)->AZ=od):=by cases AZ<;>cases od<;>simp_all
 unfold Fx;simp only;refine⟨by omega,λbn=>?_⟩;obtain rfl:=fa (by omega);obtain rfl:=e6 (by omega);obtain rfl:=hC (by omega);obtain rfl:=k9 (by omega);obtain rfl:=aC.2 (by omega);rfl
def mN:IS ck:=⟨ck.le,jx,ck.le_refl,λh be=>h.trans be,λh be=>h.antisymm be,ck.lh⟩
def A0(l:List ck):Nat:=(l.map Fx).sum
def aaV:∀ {l m:List ck},gR mN l m->A0 m<=A0 l/\(A0 l<=A0 m->l=m)
 |[],[],_=>⟨bY _,λ_=>rfl⟩| [],_::_,h=>by have:=h.len;simp at this
 |_::_,[],h=>by have:=h.len;simp at this
 |a::l,b::m,h=>by have ao:a.le b:=h.at' 0;have av:gR mN l m:=⟨by simpa using h.len,λi=>by simpa using h.at' (i+1)⟩;obtain⟨U,aa⟩:=al1 ao;obtain⟨t1,t2⟩:=aaV av;simp only[A0,dv,pg]at t1 t2 |-;refine⟨by omega,λh=>?_⟩;rw[aa (by omega),t2 (by omega)]
def al2{l m:List ck}(h:gR mN l m)(bH:m≠l):A0 m<A0 l:=by obtain⟨U,aa⟩:=aaV h;apply Pc U;intro e;exact bH (aa (by omega)).symm
def cB.at(w:cB)(i:Nat):BitVec 64:=bif decide (i=0)then w.a else bif decide (i=1)then w.b else bif decide (i=2)then w.c else w.d
def cB.one(i:Nat)(x:BitVec 64):cB:=⟨bif decide (i=0)then x else 0,bif decide (i=1)then x else 0,bif decide (i=2)then x else 0,bif decide (i=3)then x else 0⟩
def IV(b:UInt8):cB:=.one (b.toNat/64) (1#64 <<< (b.toNat%64))
def aaW(l:List UInt8):cB:=l.foldl (λw b=>w.or (IV b)) .zero
def aM.ws(d:aM):cB:=⟨BitVec.ofInt 64 d.eO,BitVec.ofInt 64 d.s1,BitVec.ofInt 64 d.s2,BitVec.ofInt 64 d.eU⟩
def xO(d:aM)(k:ck):ck:=bif decide (d.hi=0)then My else⟨k.w,k.f||decide (d.lo=0)⟩
def aaX(ks:List ck):ck:=ks.foldl ck.seq My
def aaY(ks:List ck):ck:=ks.foldl ck.choice jx
def MB(t:ByteArray):ck:=⟨aaW (t.data.toList.take 1),false⟩
def lO(d:aM)(x:aY)(ks:List ck):ck:=
 bif decide (d.k=0)then⟨.zero,x.lg⟩else
 bif decide (d.k=1)then⟨d.ws,false⟩else
 bif decide (d.k=2)then MB d.t else
 bif decide (d.k=3)then ks.headD jx else
 bif decide (d.k=4)then aaX ks else
 bif decide (d.k=5)then aaY ks else
 bif decide (d.k=6)then xO d (ks.headD jx)else
 bif decide (d.k=7)then⟨.zero,x.lg⟩else
 bif decide (d.k=8)then⟨.zero,x.lg⟩else ks.headD jx
def Fy(pl:List (ByteArray×Int))(bx aZ:List ck)(d:aM):List ck:=
 d.ax.map (λk=>aZ.getD k.toNat jx)++bif decide (d.k=3)then [bx.getD ((eB d.t pl).getD 0).toNat jx]else []
def wq(pl:List (ByteArray×Int))(bx:List ck)(xs:List aY):List aM->List ck->List ck
 |[],aZ=>aZ| d::ds,aZ=>wq pl bx xs ds (aZ++[lO d (xs.getD aZ.length b8) (Fy pl bx aZ d)])
def Sf.map{f g:α->ck}{l:List α}(h:∀ x∈l,(f x).le (g x)):gR mN (l.map f) (l.map g):=.of (by simp) λi hi=>by
 have di:i<l.length:=by simpa using hi
 have:=h _ (cC di);simpa[cS,di]using(show mN.le _ _ from this)
def Sg{f:ck->ck->ck}(aC:∀ {a b x y:ck},a.le b->x.le y->(f a x).le (f b y)):∀ {l m:List ck} {a b:ck},gR mN l m->a.le b->(l.foldl f a).le (m.foldl f b)
 |[],[],_,_,_,h=>h| [],_::_,_,_,h,_=>by have:=h.len;simp at this
 |_::_,[],_,_,h,_=>by have:=h.len;simp at this
 |x::l,y::m,a,b,h,be=>Sg aC (l:=l) (m:=m) ⟨by simpa using h.len,λi=>by simpa using h.at' (i+1)⟩ (aC be (h.at' 0))
def al3{l m:List ck}(h:gR mN l m):(l.headD jx).le (m.headD jx):=by
 have:=h.at' 0;cases l<;>cases m<;>exact this
def al4(d:aM)(x:aY){a b:List ck}(h:gR mN a b):(lO d x a).le (lO d x b):=by
 have bl:=al3 h;unfold lO;cases decide (d.k=0)with
 |true=>exact ck.le_refl _| false=>
 cases decide (d.k=1)with
 |true=>exact ck.le_refl _| false=>
 cases decide (d.k=2)with
 |true=>exact ck.le_refl _| false=>
 cases decide (d.k=3)with
 |true=>exact bl| false=>
 cases decide (d.k=4)with
 |true=>exact Sg ck.Li h (ck.le_refl _)| false=>
 cases decide (d.k=5)with
 |true=>exact Sg ck.alY h (ck.le_refl _)| false=>
 cases decide (d.k=6)with
 |true=>
  simp only[bh,bf,xO];cases decide (d.hi=0)with
  |true=>exact ck.le_refl _| false=>refine⟨bl.w,?_⟩;simp only[bf,kM];exact λg=>g.imp bl.f id
 |false=>
 cases decide (d.k=7)with
 |true=>exact ck.le_refl _| false=>
 cases decide (d.k=8)with
 |true=>exact ck.le_refl _| false=>exact bl
def Sf.append{a b c d:List ck}(h:gR mN a b)(be:gR mN c d):gR mN (a++c) (b++d):=by
 have ap:=h.len;have ou:=be.len;refine .of (by simp[ap,ou]) λi hi=>?_;rcases Mi i a.length with U | U
 ·have aa:i<b.length:=by omega
  have:=h.at' i;simpa[cS,pT U,pT aa]using this
 ·have aa:b.length<=i:=by omega
  have:=be.at' (i-a.length);simp only[cS,l3 U,l3 aa]at this |-;rwa [ap]at this |-
def al5{bx r6 aZ uE:List ck}(h:gR mN bx r6)(aE:gR mN aZ uE)(d:aM):gR mN (Fy pl bx aZ d) (Fy pl r6 uE d):=by
 unfold Fy;refine Sf.append (Sf.map λk _=>aE.at' _) ?_;cases decide (d.k=3)with
 |true=>
  refine .of rfl λi hi=>?_;have:i=0:=by simpa using hi
  subst this;exact h.at' _
 |false=>exact gR.refl _
def aaZ{pl:List (ByteArray×Int)}{bx r6:List ck}{xs:List aY}(h:gR mN bx r6):∀ (ds:List aM) {aZ uE:List ck},gR mN aZ uE->gR mN (wq pl bx xs ds aZ) (wq pl r6 xs ds uE)
 |[],_,_,aE=>aE| d::ds,aZ,uE,aE=>by rw[wq,wq,<-aE.len];exact aaZ h ds (aE.snoc (al4 d _ (al5 h aE d)))
def A1(pl:List (ByteArray×Int))(F:List aY)(ds:List bI)(l:List ck)(i:Nat):ck:=match ds[i]? with
 |some d=>(wq pl l (eg pl F d.t.ns []) d.t.ns []).getD d.t.bF.toNat jx| none=>jx
def aa0{l m:List ck}(h:gR mN l m)(i:Nat):(A1 pl F ds l i).le (A1 pl F ds m i):=by
 unfold A1;split
 ·exact(aaZ h _ (gR.refl _)).at' _
 ·exact ck.le_refl _
def IW(ds:List bI)(F:List aY)(l:List ck):Prop:=aaS mN ds.length (A1 (bE ds) F ds) l
def al6(ds:List bI)(F:List aY)(l:List ck):Prop:=u5 mN ds.length (A1 (bE ds) F ds) l
def cB.has(w:cB)(n:Nat):Bool:=(w.at (n/64)).getLsbD (n%64)
def cB.al7(x y:cB)(j:Nat):(x.or y).at j=x.at j ||| y.at j:=by
 unfold cB.at
 cases decide (j=0)<;>cases decide (j=1)<;>cases decide (j=2)<;>rfl
def cB.aa1(x y:cB)(n:Nat):(x.or y).has n=(x.has n||y.has n):=by unfold cB.has;rw[cB.al7,AS]
def cB.at_one{i:Nat}(x:BitVec 64)(aj:j<4):(cB.one i x).at j=if j=i then x else 0:=by
 unfold cB.at cB.one;rcases(by omega:j=0\/j=1\/j=2\/j=3)with rfl | rfl | rfl | rfl
 ·by_cases h:i=0<;>simp[h];omega
 ·by_cases h:i=1<;>simp[h];omega
 ·by_cases h:i=2<;>simp[h];omega
 ·by_cases h:i=3<;>simp[h];omega
def al8(k i:Nat)(ae:k<64)(hi:i<64):(1#64 <<< k).getLsbD i=decide (i=k):=by rw[BitVec.getLsbD_shiftLeft,pQ];simp only[hi,Ep,p4,cp,o7,ow,e5,BitVec.getLsbD_one];omega
def al9(b:UInt8)(h:n<256):(IV b).has n=decide (n=b.toNat):=by
 have ah:=b.toNat_lt;unfold cB.has IV;rw[cB.at_one _ (by omega)];by_cases e:n/64=b.toNat/64
 ·rw[cG e,al8 _ _ (by omega) (by omega),pQ,e5,e5];omega
 ·rw[ca e];have:¬ n=b.toNat:=λh=>e (by rw[h]);simp[this]
structure Fz(x:aY)(k:ck):Prop where
 z:x.z=true->k.f=true
 s:x.s=true->k.w≠.zero
def Fz.none(k:ck):Fz b8 k:=⟨λh=>(by cases h),λh=>(by cases h)⟩
inductive A2:List aY->List ck->Prop
 |nil:A2 [] []| cons {x k l m} (h:Fz x k) (t:A2 l m):A2 (x::l) (k::m)
def A2.head{l:List aY}{m:List ck}(h:A2 l m):Fz (l.headD b8) (m.headD jx):=by
 cases h with
 |nil=>exact Fz.none _| cons h t=>exact h
def A2.map{α:Type}{f:α->aY}{g:α->ck}:∀ {l:List α},(∀ x∈l,Fz (f x) (g x))->A2 (l.map f) (l.map g)
 |[],_=>.nil| x::l,h=>.cons (h x (.head _)) (A2.map λy aH=>h y (.tail _ aH))
def aa2(pl:List (ByteArray×Int))(bx:List aY):∀ (ds:List aM) (aZ:List aY),∃ r,eg pl bx ds aZ=aZ++r
 |[],aZ=>⟨[],by simp[eg]⟩| d::ds,aZ=>by obtain⟨r,h⟩:=aa2 pl bx ds (aZ++[eF d (ng pl bx aZ d)]);exact⟨_,by rw[eg,h,fA]⟩
def ama(pl:List (ByteArray×Int))(bx:List aY)(d:aM)(ds:List aM)(aZ:List aY):(eg pl bx (d::ds) aZ).getD aZ.length b8=eF d (ng pl bx aZ d):=by obtain⟨r,h⟩:=aa2 pl bx ds (aZ++[eF d (ng pl bx aZ d)]);rw[eg,h];simp[cS]
def tw(pl:List (ByteArray×Int))(F:List aY)(l:List ck)(d:aM)(xs:List (aY×ck)):aY×ck:=
 (eF d (xs.map (·.1)++bif decide (d.k=3)then [F.getD ((eB d.t pl).getD 0).toNat b8]else []),lO d (eF d (xs.map (·.1)++bif decide (d.k=3)then [F.getD ((eB d.t pl).getD 0).toNat b8]else [])) (xs.map (·.2)++bif decide (d.k=3)then [l.getD ((eB d.t pl).getD 0).toNat jx]else []))
def tx(pl:List (ByteArray×Int))(F:List aY)(l:List ck)(ns:List aM)(j:Int):aY×ck:=lB (b8,jx) (λd g=>tw pl F l d (d.ax.map g)) ns j
def Sh(aZ:List (aY×ck))(i:Nat):(aZ.getD i (b8,jx)).1=(aZ.map (·.1)).getD i b8:=by
 simp only[cS,tJ];cases aZ[i]?<;>rfl
def aa3(aZ:List (aY×ck))(i:Nat):(aZ.getD i (b8,jx)).2=(aZ.map (·.2)).getD i jx:=by
 simp only[cS,tJ];cases aZ[i]?<;>rfl
def aa4(pl:List (ByteArray×Int))(F:List aY)(l:List ck):∀ (ds:List aM) (aZ:List (aY×ck)),(l4 (b8,jx) (λd g=>tw pl F l d (d.ax.map g)) ds aZ).map (·.1)=eg pl F ds (aZ.map (·.1)) /\ (l4 (b8,jx) (λd g=>tw pl F l d (d.ax.map g)) ds aZ).map (·.2)=wq pl l (eg pl F ds (aZ.map (·.1))) ds (aZ.map (·.2))
 |[],aZ=>⟨rfl,rfl⟩
 |d::ds,aZ=>by
  have az:(tw pl F l d (d.ax.map λk=>aZ.getD k.toNat (b8,jx))).1=eF d (ng pl F (aZ.map (·.1)) d):=by unfold tw ng;simp only[h7,HM,Sh]
  have aF:(tw pl F l d (d.ax.map λk=>aZ.getD k.toNat (b8,jx))).2=lO d (eF d (ng pl F (aZ.map (·.1)) d)) (Fy pl l (aZ.map (·.2)) d):=by unfold tw ng Fy;simp only[h7,HM,Sh,aa3]
  obtain⟨U,aa⟩:=aa4 pl F l ds (aZ++[tw pl F l d (d.ax.map λk=>aZ.getD k.toNat (b8,jx))]);rw[fi,fi,dv,jh,dv,jh,az,aF]at aa;rw[fi,dv,jh,az]at U;have af:=ama pl F d ds (aZ.map (·.1));refine⟨by rw[l4,U,eg],?_⟩;rw[l4,aa,wq,cD];rw[cD]at af;rw[af,eg]
def aa5(pl:List (ByteArray×Int))(F:List aY)(l:List ck)(ns:List aM)(j:Int):tx pl F l ns j=((eg pl F ns []).getD j.toNat b8,(wq pl l (eg pl F ns []) ns []).getD j.toNat jx):=by
 have h:=aa4 pl F l ns [];unfold tx lB;refine Prod.ext ?_ ?_
 ·rw[Sh,h.1];rfl
 ·rw[aa3,h.2];rfl
def amb{l:List ck}{t:bN}(ai:right t=true)(aj:j<t.ns.length):tx pl F l t.ns j=tw pl F l t.ns[j] (t.ns[j].ax.map (tx pl F l t.ns)):=
 yF (λd g dH h=>by rw[mA h]) ai aj
structure nt(t:bN)(k:Int)(dt:bN):Prop where
 dI:dt.ns.map aM.dI=xj t.ns k
 bF:dt.bF=(dt.ns.length:Int)-1
def MC{t:bN}(ai:right t=true)(aj:j<t.ns.length)(h:nt t j dt):right dt=true:=by
 have U:=j2.2 (XQ (j2.1 ai) aj);have ap:=congrArg List.length h.dI;rw[cD]at ap;have aa:right dt.dI=right (vU (xj t.ns j)):=by unfold right bN.dI vU;simp only[h.dI,h.bF,ap]
 rw[ah3]at aa;rw[aa,U]
def Si{t:bN}(ai:right t=true)(aj:j<t.ns.length)(h:nt t j dt):dt.ns.length=l7 t.ns j:=by have ap:=congrArg List.length h.dI;rw[cD,Ap (j2.1 ai) aj,cD,PX (j2.1 ai) j aj]at ap;exact ap
def aa6{t:bN}(ai:right t=true)(aj:j<t.ns.length)(h:nt t j dt):∀ d∈dt.ns,∃ d0∈t.ns,∃ ks:List Int,d.dI=d0.hf ks/\ks.length=d0.ax.length:=λd ag=>by have U:d.dI∈dt.ns.map aM.dI:=dC.2 ⟨d,ag,rfl⟩;rw[h.dI,Ap (j2.1 ai) aj]at U;obtain⟨b,ah,e⟩:=dC.1 U;have hm:=(vV (j2.1 ai) j aj b ah).1;refine⟨t.ns[b.toNat]'(by omega),cC _,(t.ns[b.toNat]'(by omega)).ax.map (ir (cV t.ns j)),?_,cD _⟩;rw[<-e,mF,ij (by omega)]
def aa7{t:bN}(ai:tc t)(aj:j<t.ns.length){x:bN}(h:nt t j x):x.ns.length=(cV t.ns j).length/\∀ p (aD:p<x.ns.length) (qe:p<(cV t.ns j).length),∃ q:Nat,∃ ay:q<t.ns.length,(cV t.ns j)[p]=(q:Int)/\x.ns[p].dI=t.ns[q].hf (t.ns[q].ax.map (ir (cV t.ns j))) /\
  ∀ k∈t.ns[q].ax,∃ z:Nat,ir (cV t.ns j) k=(z:Int)/\∃ a9:z<(cV t.ns j).length,(cV t.ns j)[z]=k:=by
 have aN:=h.dI;rw[Ap ai aj]at aN;have hm:=vV ai j aj;have iD:=HG ai j aj;have ap:x.ns.length=(cV t.ns j).length:=by simpa using congrArg List.length aN
 refine⟨ap,λp aD qe=>?_⟩;have rT:=(hm _ (cC qe)).1;have q6:=iD p qe;have az:x.ns[p].dI=mF t.ns (cV t.ns j) (cV t.ns j)[p]:=by have:=congrArg (λl=>l[p]?) aN;simp only[tJ,eR aD,eR qe,k3]at this;exact j0 this
 generalize u6:cV t.ns j=cH at *;obtain⟨q,ay⟩:∃ q:Nat,cH[p]=(q:Int):=⟨cH[p].toNat,by omega⟩;have jH:q<t.ns.length:=by omega
 rw[ay]at az q6;rw[kH,ij jH]at q6;refine⟨q,jH,ay,?_,λk ae=>?_⟩
 ·rw[az,mF,kH,ij jH]
 ·have gW:=w6 (q6 k ae);exact⟨cH.idxOf k,rfl,Hk gW,Ho _⟩
section
variable{I:aR}{g:dn}{x:bN}{s:ByteArray}(aA:g.ok I)(hm:kS g)(ar:s.size<=4096)
include aA hm
def amc{i:Nat}(hi:i<g.ds.length)(aj:j<g.ds[i].t.ns.length)(h:nt g.ds[i].t j x):oc g x:=by
 have ai:=hm.r _ (cC hi);have pY:=MC (j2.2 ai) aj h;have key:=aa6 (j2.2 ai) aj h;refine⟨j2.1 pY,λn aw=>?_,λn aw af=>?_⟩
 ·obtain⟨d0,ao,ks,e,-⟩:=key n aw;have j6:n.dI.k=(d0.hf ks).k:=congrArg aM.k e;have j6:n.k=d0.k:=j6;rw[j6];exact((aA.ds _ (cC hi)).t.ns d0 ao).k.1
 ·obtain⟨d0,ao,ks,e,-⟩:=key n aw;have j6:n.dI.k=(d0.hf ks).k:=congrArg aM.k e;have j6:n.k=d0.k:=j6;have aX:n.dI.t=(d0.hf ks).t:=congrArg aM.t e;have aX:n.t=d0.t:=aX;rw[aX];exact hm.find _ (cC hi) d0 ao (j6.symm.trans af)
def C9(g:dn)(i:Nat)(f:Nat->Nat)(k:Nat):Nat:=if k<a6 g.ds then k else fu g i (f (k-a6 g.ds))
omit aA in
theorem MD{i:Nat}{f:Nat->Nat}{k:Nat}(ae:k<a6 g.ds):C9 g i f k=k:=cG ae
omit aA in
theorem IX{i:Nat}{f:Nat->Nat}(p:Nat):C9 g i f (a6 g.ds+p)=fu g i (f p):=by unfold C9;rw[ca (by omega),Cr]
include ar
def aa8{i:Nat}(hi:i<g.ds.length)(ab:oc g x)(f:Nat->Nat)(aC:∀ p (aD:p<x.ns.length),∃ ay:f p<g.ds[i].t.ns.length,x.ns[p].jt=g.ds[i].t.ns[f p].jt/\x.ns[p].ax.map (λk=>f k.toNat)=g.ds[i].t.ns[f p].ax.map Int.toNat) :
  mc (db g s) (cI g x s) (a6 g.ds+x.ns.length) (C9 g i f):=by
 have cZ:∀ d∈g.ds,∀ n∈d.t.ns,0<=n.k:=λd ag n aw=>((aA.ds d ag).t.ns n aw).k.1;obtain⟨kz,cf⟩:=C3 hm cZ ar;have tz:∀ k,k<a6 g.ds+x.ns.length->k<a6 g.ds\/∃ p,p<x.ns.length/\k=a6 g.ds+p:=λk ae=>by
  by_cases U:k<a6 g.ds;·exact .inl U
  ·exact .inr ⟨k-a6 g.ds,by omega,by omega⟩
 refine⟨rfl,λk ae=>?_,λk ae=>?_,λk ae q ay=>?_,λk ae U=>?_,λk ae=>?_,⟨rfl,rfl⟩⟩
 ·rcases tz k ae with U | ⟨p,aD,rfl⟩
  ·rw[MD hm U,nr U]
  ·obtain⟨ay,f4,f5⟩:=aC p aD;rw[IX hm,mM aD,Mk s hi ay];exact f4
 ·rcases tz k ae with U | ⟨p,aD,rfl⟩
  ·rw[MD hm U,nr U];refine(mA (g:=C9 g i f) (f:=id) λq ay=>(MD hm ?_).symm).symm.trans (List.map_id _) |>.symm
   exact(cf k U).bm q ay
  ·obtain⟨ay,f4,f5⟩:=aC p aD;rw[IX hm,mM aD,Mk s hi ay];show eN g.ds (a6 (g.ds.take i)) g.ds[i].t.ns[f p]=(eN g.ds (a6 g.ds) x.ns[p]).map (C9 g i f);have j6:x.ns[p].jt.k=g.ds[i].t.ns[f p].jt.k:=congrArg aM.k f4;have j6:x.ns[p].k=g.ds[i].t.ns[f p].k:=j6;have aX:x.ns[p].jt.t=g.ds[i].t.ns[f p].jt.t:=congrArg aM.t f4;have aX:x.ns[p].t=g.ds[i].t.ns[f p].t:=aX;have zh:=hm.find _ (cC hi) _ (cC ay);unfold eN;rw[j6,aX];generalize g.ds[i].t.ns[f p]=n at *;by_cases af:n.k=3
   ·rw[fr af,bh,bh,dv,jh];have jH:=Ar g.ds 0 (zh af);have eS:(df n.t g.ds 0).toNat<(gl 0 g.ds).length:=by rw[vX];omega
    rw[MD hm];rw[cS,eR eS,ib];have:=yZ 0 g.ds (λd ag=>(hm.r d ag).bF) _ (cC eS);omega
   ·rw[c0 af,bf,bf,h7];have az:(n.ax.map λk=>a6 (g.ds.take i)+k.toNat)=(n.ax.map Int.toNat).map (λk=>a6 (g.ds.take i)+k):=by rw[h7];rfl
    rw[az,<-f5,h7];refine mA λk ae=>?_;show a6 (g.ds.take i)+f k.toNat=C9 g i f (a6 g.ds+k.toNat);rw[IX hm];rfl
 ·rcases tz k ae with U | ⟨p,aD,rfl⟩
  ·rw[nr U]at ay;have:=(cf k U).bm q ay;omega
  ·rw[mM aD]at ay;exact(xN hm cZ ar ab aD).2.2.1 q ay
 ·rcases tz k ae with aa | ⟨p,aD,rfl⟩
  ·rw[nr aa]at U |-;obtain⟨q,ay⟩:=(kz k).one U;rw[ay];exact Cu
  ·rw[mM aD]at U |-;have:=(xN hm cZ ar ab aD).2.2.2.1 U;show 0<(eN g.ds (a6 g.ds) x.ns[p]).length;omega
 ·rcases tz k ae with aa | ⟨p,aD,rfl⟩
  ·rw[nr aa];exact(cf k aa).j1
  ·rw[mM aD];exact(xN hm cZ ar ab aD).1
def amd{i:Nat}(hi:i<g.ds.length)(aj:j<g.ds[i].t.ns.length)(h:nt g.ds[i].t j x):oc g x/\∃ f,mc (db g s) (cI g x s) (a6 g.ds+x.ns.length) f/\∃ r:Nat,x.bF=(r:Int)/\r<x.ns.length/\f (a6 g.ds+r)=fu g i j:=by
 have ab:=amc aA hm hi aj h;have ai:=hm.r _ (cC hi);obtain⟨ap,da⟩:=aa7 ai aj h;have qg:=HH ai aj;have ao:=ab.r.bF;obtain⟨r,fj⟩:=g' ao.1;have ek:r<x.ns.length:=by omega
 refine⟨ab,_,aa8 aA hm ar hi ab (λp=>((cV g.ds[i].t.ns j).getD p 0).toNat) λp aD=>?_,r,fj,ek,?_⟩
 ·have m7:p<(cV g.ds[i].t.ns j).length:=by omega
  obtain⟨q,ay,az,aF,bo⟩:=da p aD m7;have vA:((cV g.ds[i].t.ns j).getD p 0).toNat=q:=by rw[cS,eR m7,ib,az,kH]
  have Da:x.ns[p].dI.ax=(g.ds[i].t.ns[q].hf (g.ds[i].t.ns[q].ax.map (ir (cV g.ds[i].t.ns j)))).ax:=congrArg aM.ax aF;have Da:x.ns[p].ax=g.ds[i].t.ns[q].ax.map (ir (cV g.ds[i].t.ns j)):=Da;have eT:x.ns[p].dI.jt=(g.ds[i].t.ns[q].hf (g.ds[i].t.ns[q].ax.map (ir (cV g.ds[i].t.ns j)))).jt:=congrArg aM.jt aF;have eT:x.ns[p].jt=g.ds[i].t.ns[q].jt:=eT;refine⟨by simp only[vA];exact ay,by simp only[vA];exact eT,?_⟩;simp only[vA];rw[Da,h7];refine mA λk ae=>?_;obtain⟨z,nl,sp,tp⟩:=bo k ae;show((cV g.ds[i].t.ns j).getD (ir (cV g.ds[i].t.ns j) k).toNat 0).toNat=k.toNat;rw[nl,kH,cS,eR sp,ib,tp]
 ·rw[IX hm];have az:r=(cV g.ds[i].t.ns j).length-1:=by have:=h.bF;omega
  rw[Hm]at qg;have:(cV g.ds[i].t.ns j).getD r 0=(j:Int):=by rw[cS,az,qg];rfl
  rw[this,kH]
def ame{i:Nat}(hi:i<g.ds.length):oc g g.ds[i].t/\∃ f,mc (db g s) (cI g g.ds[i].t s) (a6 g.ds+g.ds[i].t.ns.length) f/\∃ r:Nat,g.ds[i].t.bF=(r:Int)/\r<g.ds[i].t.ns.length/\f (a6 g.ds+r)=j3 g i:=by have ai:=hm.r _ (cC hi);have ab:oc g g.ds[i].t:=⟨ai,λn aw=>((aA.ds _ (cC hi)).t.ns n aw).k.1,hm.find _ (cC hi)⟩;obtain⟨r,fj⟩:=g' ai.bF.1;have ao:=ai.bF;refine⟨ab,_,aa8 aA hm ar hi ab id λp aD=>⟨aD,rfl,rfl⟩,r,fj,by omega,?_⟩;rw[IX hm,RS hi fj];rfl
end
section
variable{g:dn}{x y:bN}{s:ByteArray}(hm:kS g)(cZ:∀ d∈g.ds,∀ n∈d.t.ns,0<=n.k)(ar:s.size<=4096)
theorem amf(ab:oc g x)(aj:j<x.ns.length)(h:nt x j y):oc g y:=by
 have pY:=MC (j2.2 ab.r) aj h;have key:=aa6 (j2.2 ab.r) aj h;refine⟨j2.1 pY,λn aw=>?_,λn aw af=>?_⟩
 ·obtain⟨d0,ao,ks,e,-⟩:=key n aw;have j6:n.dI.k=(d0.hf ks).k:=congrArg aM.k e;have j6:n.k=d0.k:=j6;rw[j6];exact ab.j1 d0 ao
 ·obtain⟨d0,ao,ks,e,-⟩:=key n aw;have j6:n.dI.k=(d0.hf ks).k:=congrArg aM.k e;have j6:n.k=d0.k:=j6;have aX:n.dI.t=(d0.hf ks).t:=congrArg aM.t e;have aX:n.t=d0.t:=aX;rw[aX];exact ab.find d0 ao (j6.symm.trans af)
def Db(g:dn)(f:Nat->Nat)(k:Nat):Nat:=if k<a6 g.ds then k else a6 g.ds+f (k-a6 g.ds)
theorem ME{f:Nat->Nat}{k:Nat}(ae:k<a6 g.ds):Db g f k=k:=cG ae
theorem MF{f:Nat->Nat}(p:Nat):Db g f (a6 g.ds+p)=a6 g.ds+f p:=by unfold Db;rw[ca (by omega),Cr]
include hm cZ ar
def amg(ab:oc g x)(aH:oc g y)(f:Nat->Nat)(aC:∀ p (aD:p<y.ns.length),∃ ay:f p<x.ns.length,y.ns[p].jt=x.ns[f p].jt/\y.ns[p].ax.map (λk=>f k.toNat)=x.ns[f p].ax.map Int.toNat) :
  mc (cI g x s) (cI g y s) (a6 g.ds+y.ns.length) (Db g f):=by
 obtain⟨kz,cf⟩:=C3 hm cZ ar;have tz:∀ k,k<a6 g.ds+y.ns.length->k<a6 g.ds\/∃ p,p<y.ns.length/\k=a6 g.ds+p:=λk ae=>by
  by_cases U:k<a6 g.ds;·exact .inl U
  ·exact .inr ⟨k-a6 g.ds,by omega,by omega⟩
 refine⟨rfl,λk ae=>?_,λk ae=>?_,λk ae q ay=>?_,λk ae U=>?_,λk ae=>?_,⟨rfl,rfl⟩⟩
 ·rcases tz k ae with U | ⟨p,aD,rfl⟩
  ·rw[ME U,nr U,nr U]
  ·obtain⟨ay,f4,f5⟩:=aC p aD;rw[MF,mM aD,mM ay];exact f4
 ·rcases tz k ae with U | ⟨p,aD,rfl⟩
  ·rw[ME U,nr U,nr U];refine(mA (g:=Db g f) (f:=id) λq ay=>(ME ?_).symm).symm.trans (List.map_id _) |>.symm
   exact(cf k U).bm q ay
  ·obtain⟨ay,f4,f5⟩:=aC p aD;rw[MF,mM aD,mM ay];show eN g.ds (a6 g.ds) x.ns[f p]=(eN g.ds (a6 g.ds) y.ns[p]).map (Db g f);have j6:y.ns[p].jt.k=x.ns[f p].jt.k:=congrArg aM.k f4;have j6:y.ns[p].k=x.ns[f p].k:=j6;have aX:y.ns[p].jt.t=x.ns[f p].jt.t:=congrArg aM.t f4;have aX:y.ns[p].t=x.ns[f p].t:=aX;have zh:=ab.find _ (cC ay);unfold eN;rw[j6,aX];generalize x.ns[f p]=n at *;by_cases af:n.k=3
   ·rw[fr af,bh,bh,dv,jh];have jH:=Ar g.ds 0 (zh af);have eS:(df n.t g.ds 0).toNat<(gl 0 g.ds).length:=by rw[vX];omega
    rw[ME];rw[cS,eR eS,ib];have:=yZ 0 g.ds (λd ag=>(hm.r d ag).bF) _ (cC eS);omega
   ·rw[c0 af,bf,bf,h7];have az:(n.ax.map λk=>a6 g.ds+k.toNat)=(n.ax.map Int.toNat).map (λk=>a6 g.ds+k):=by rw[h7];rfl
    rw[az,<-f5,h7];refine mA λk ae=>?_;show a6 g.ds+f k.toNat=Db g f (a6 g.ds+k.toNat);rw[MF]
 ·rcases tz k ae with U | ⟨p,aD,rfl⟩
  ·rw[nr U]at ay;have:=(cf k U).bm q ay;omega
  ·rw[mM aD]at ay;exact(xN hm cZ ar aH aD).2.2.1 q ay
 ·rcases tz k ae with aa | ⟨p,aD,rfl⟩
  ·rw[nr aa]at U |-;obtain⟨q,ay⟩:=(kz k).one U;rw[ay];exact Cu
  ·rw[mM aD]at U |-;have:=(xN hm cZ ar aH aD).2.2.2.1 U;show 0<(eN g.ds (a6 g.ds) y.ns[p]).length;omega
 ·rcases tz k ae with aa | ⟨p,aD,rfl⟩
  ·rw[nr aa];exact(cf k aa).j1
  ·rw[mM aD];exact(xN hm cZ ar aH aD).1
def amh(ab:oc g x)(aj:j<x.ns.length)(h:nt x j y):oc g y/\∃ f,mc (cI g x s) (cI g y s) (a6 g.ds+y.ns.length) f/\∃ r:Nat,y.bF=(r:Int)/\r<y.ns.length/\f (a6 g.ds+r)=a6 g.ds+j:=by
 have aH:=amf ab aj h;obtain⟨ap,da⟩:=aa7 ab.r aj h;have qg:=HH ab.r aj;have ao:=aH.r.bF;obtain⟨r,fj⟩:=g' ao.1;have ek:r<y.ns.length:=by omega
 refine⟨aH,_,amg hm cZ ar ab aH (λp=>((cV x.ns j).getD p 0).toNat) λp aD=>?_,r,fj,ek,?_⟩
 ·have m7:p<(cV x.ns j).length:=by omega
  obtain⟨q,ay,az,aF,bo⟩:=da p aD m7;have vA:((cV x.ns j).getD p 0).toNat=q:=by rw[cS,eR m7,ib,az,kH]
  have Da:y.ns[p].dI.ax=(x.ns[q].hf (x.ns[q].ax.map (ir (cV x.ns j)))).ax:=congrArg aM.ax aF;have Da:y.ns[p].ax=x.ns[q].ax.map (ir (cV x.ns j)):=Da;have eT:y.ns[p].dI.jt=(x.ns[q].hf (x.ns[q].ax.map (ir (cV x.ns j)))).jt:=congrArg aM.jt aF;have eT:y.ns[p].jt=x.ns[q].jt:=eT;refine⟨by simp only[vA];exact ay,by simp only[vA];exact eT,?_⟩;simp only[vA];rw[Da,h7];refine mA λk ae=>?_;obtain⟨z,nl,sp,tp⟩:=bo k ae;show((cV x.ns j).getD (ir (cV x.ns j) k).toNat 0).toNat=k.toNat;rw[nl,kH,cS,eR sp,ib,tp]
 ·rw[MF];have az:r=(cV x.ns j).length-1:=by have:=h.bF;omega
  rw[Hm]at qg;have:(cV x.ns j).getD r 0=(j:Int):=by rw[cS,az,qg];rfl
  rw[this,kH]
omit cZ ar
omit hm in
def lG.ami{m:Nat->Nat->cr}(h:∀ a,m' q a=m q a){a:Nat}(aN:lG m q a t to n):lG m' q a t to n:=by
 induction aN with
 |stop U=>exact .stop (by rw[h];exact U)| @more a t to n U aw r a7=>have:=lG.more (m:=m') (q:=q) (a:=a) (t:=t) (to:=to) (n:=n) (by rw[h];exact U) (by rw[h];exact aw) (by rw[h];exact a7);rwa [h]at this
omit hm in
noncomputable def tA(g:dn)(x:bN)(s:ByteArray)(T:Nat->Nat->bX)(k a:Nat):bX:=if k<a6 g.ds then T k a else u2 (cI g x s) (a6 g.ds+x.ns.length) k a
theorem IY{T:Nat->Nat->bX}{k a:Nat}(h:k<a6 g.ds):tA g x s T k a=T k a:=cG h
theorem IZ{T:Nat->Nat->bX}{k a:Nat}(h:a6 g.ds<=k):tA g x s T k a=u2 (cI g x s) (a6 g.ds+x.ns.length) k a:=ca (by omega)
include hm cZ ar
def amj{T:Nat->Nat->bX}(bM:iN (db g s) (a6 g.ds) T)(ej:∀ k b,(T k b).ce=br (db g s) k b):iN (cI g x s) (a6 g.ds+x.ns.length) (tA g x s T):=by
 have ao:=aac (cI g x s) (a6 g.ds+x.ns.length);have wc:∀ k a,k<a6 g.ds->br (cI g x s) k a=(T k a).ce:=λk a ae=>by rw[ej,Sb hm cZ ar ae]
 obtain⟨kz,cf⟩:=C3 hm cZ ar;refine⟨λk a=>?_,λk a h=>?_,λk a ae aE bj bl h=>?_,λk a ae aE=>?_,λk a h=>?_⟩<;>by_cases m6:k<a6 g.ds
 ·rw[IY hm m6];exact bM.aB k a
 ·rw[IZ hm (by omega)];exact ao.aB k a
 ·rw[IY hm m6];exact wc k a m6
 ·rw[IZ hm (by omega)]at h |-;exact ao.snd k a h
 ·rw[IY hm m6]at h |-;rw[nr m6]at bj bl |-;obtain⟨t,U,aa⟩:=bM.qz k a m6 aE bj bl h;refine⟨t,U.ami λb=>?_,aa⟩;exact(Sb hm cZ ar ((cf k m6).one (.inr (by omega))) b).symm
 ·rw[IZ hm (by omega)]at h |-;exact ao.qz k a ae aE bj bl h
 ·rw[IY hm m6];exact bM.rg k a m6 aE
 ·rw[IZ hm (by omega)];exact ao.rg k a ae aE
 ·rw[IY hm m6];exact(wc k a m6).symm
 ·rw[IZ hm (by omega)];exact ao.out k a h
end
def A3(I:aR):List aI->aR
 |[]=>I| x::L=>A3 (ins I x.num x.obj) L
def aa9{cu:List Nat}{M:List aI}:∀ {I:aR} (L:List aI),(∀ x∈L,x.num ∉ cu)->jP cu I (L++M) (A3 I L) M
 |I,[],_=>.refl| I,x::L,h=>.rA rfl (h x (.head _)) (aa9 L λq ay=>h q (.tail _ ay))
def aba:∀ {I:aR} (L:List aI),(∀ x∈L,I x.num=none)->(L.map (λx:aI=>x.num)).Nodup->(∀ b o,I b=some o->A3 I L b=some o)/\∀ x∈L,A3 I L x.num=some x.obj
 |I,[],_,_=>⟨λ_ _ h=>h,λx ab=>by cases ab⟩
 |I,p::L,h,aw=>by
  rw[dv,nB]at aw;have bL:∀ q∈L,(ins I p.num p.obj) q.num=none:=λq ay=>by unfold ins;rw[hy λe=>aw.1 (dC.2 ⟨q,ay,e⟩)];exact h q (.tail _ ay)
  obtain⟨U,aa⟩:=aba L bL aw.2;refine⟨λb o ah=>U b o (qP (h p (.head _)) b o ah),λq ay=>?_⟩;rcases eL.1 ay with rfl | ay;·exact U _ _ (uj ..)
  ·exact aa q ay
def a5.A3{b:Nat}(h:os.ok size xs)(bZ:∀ x∈os.aL e,J x.num=some x.obj)(ah:os.n*b<=140737488355328):dA J (os.a.map λg=>⟨g,0,none⟩) os.n os.c size b xs:=by
 obtain⟨a,n,c,aQ⟩:=os;cases a with
 |none=>obtain⟨U,aa⟩:=h.nil rfl;exact⟨h.len,⟨by simp only at U aa |-;omega,ah⟩,.inl U⟩
 |some g=>obtain⟨U,aa,af,aP⟩:=h.cap g rfl;exact⟨h.len,⟨aa,ah⟩,.inr ⟨⟨g,0,none⟩,rfl,rfl,aQ.toArray,e,(0,0),bZ ⟨g,.cells aQ.toArray e (0,0)⟩ (.head _),by simpa using aP⟩⟩
def amk{g:dn}{x:bN}{s:ByteArray}(hm:kS g)(cZ:∀ d∈g.ds,∀ n∈d.t.ns,0<=n.k)(ar:s.size<=4096)(ab:oc g x)(aw:x.ns.length<=1024):Ag (cI g x s):=by
 have b3:=aaP (g:=g) (x:=x) (s:=s);refine⟨λa aE=>?_,bw _,ar⟩;rcases dV.1 aE with h | h
 ·have U:=(aaI hm cZ ar).ns a h;have ap:(db g s).ns.length=a6 g.ds:=by show((l9 g.ds).map qp).length=_;rw[cD,wg]
  exact⟨U.k,λy aH=>by have:=U.bm y aH;omega,U.many,U.one,U.oG,U.len⟩
 ·obtain⟨n,jL,rfl⟩:=dC.1 h;obtain⟨j,aj,rfl⟩:=nV jL;obtain⟨b1,cb,c9,eM,en,b6⟩:=xN hm cZ ar ab aj;have aC:=ab.r.fits j aj;obtain⟨-,f2,-,-,-,-⟩:=PZ b1 aC;refine⟨⟨b1,cb⟩,λy aH=>by have:=c9 y aH;omega,λaP=>?_,eM,en,by show(eN g.ds (a6 g.ds) x.ns[j]).length<=1024;omega⟩;have Hi:x.ns[j].k=4\/x.ns[j].k=5:=aP;have:=f2 Hi;show 0<(eN g.ds (a6 g.ds) x.ns[j]).length;rw[eN,c0 (by omega),bf,cD];omega
def kX(t:dr)(x:bN)(kb:List (Nat×List Nat))(b9:Nat)(os osr:a5)(ba:Nat):dr:=
 ⟨b9,t.s,t.nv,t.rv,t.il++kU kb x.ns,os.a.map λg=>⟨g,0,none⟩,t.nn+x.n,os.c,osr.a.map λg=>⟨g,0,none⟩,osr.c,t.rows++(List.range x.n).map λk=>⟨ba,k*(t.w*4),none⟩,t.nn,ba⟩
section
variable{I J:aR}{g:dn}{s:ByteArray}{t:dr}{T:Nat->Nat->bX}{x:bN}{kb:List (Nat×List Nat)}{b9 ba:Nat}{os osr:a5}
def Sj(h:pF I g s t T)(j7:kb.map (·.2)=x.ns.map (eN g.ds (a6 g.ds))):(kX t x kb b9 os osr ba).P=cI g x s:=by have U:t.il.map aM.pn=(l9 g.ds).map qp:=congrArg cQ.ns h.P;show(⟨(t.il++kU kb x.ns).map aM.pn,t.s,0⟩:cQ)=_;rw[fi,U,RP (by simpa using congrArg List.length j7),RQ j7,h.ts];rfl
def aml(h:pF I g s t T)(hx:x.ns.length=x.n):(kX t x kb b9 os osr ba).aL (tA g x s T)=⟨ba,.cells ((List.replicate (x.n*t.w) hG).flatMap bX.cells).toArray 106 (0,0)⟩:=by
 have tn:=h.nn;have e:(kX t x kb b9 os osr ba).cs (tA g x s T)=(List.replicate (x.n*t.w) hG).flatMap bX.cells:=by rw[<-Qw];unfold dr.cs lH;show((List.range ((t.nn+x.n)-t.nn)).flatMap λj=>(List.range t.w).flatMap λa=>(tA g x s T (t.nn+j) a).cells)=_;rw[Cr];refine IC λj aj=>IC λa aE=>?_;have U:=kI.1 aj;have aa:a<t.s.size+1:=kI.1 aE;rw[h.ts]at aa;rw[show tA g x s T (t.nn+j) a=_ from ca (by omega),IB (by omega) (by show a<=s.size;omega)]
 unfold dr.aL;rw[e];rfl
variable(aA:g.ok I)(hm:kS g)(ar:s.size<=4096)(h:pF I g s t T)(ab:x.ok I)(mO:oc g x)(hx:a6 g.ds+x.n<=4096)(fT:0<x.n)(bn:∀ b o,I b=some o->J b=some o)(oR:∀ n∈x.ns,n.t.size<=4096)(j7:kb.map (·.2)=x.ns.map (eN g.ds (a6 g.ds)))(dT:J b9=some (.cells (kX t x kb b9 os osr ba).cE.toArray 98 (0,0)))(jA:dA J (os.a.map λg=>⟨g,0,none⟩) (t.nn+x.n) os.c 9 96 ((t.il++kU kb x.ns).flatMap aM.cells))(xP:dA J (osr.a.map λg=>⟨g,0,none⟩) (t.nn+x.n) osr.c 1 24 ((kX t x kb b9 os osr ba).rows.map λa=>Value.slice (some a) t.w t.w))(Dc:∀ p∈kb,J p.1=some (.cells (p.2.map bQ).toArray 3 (0,0)))
include aA hm ar h ab mO hx bn oR j7 dT jA xP Dc
theorem abb:(kX t x kb b9 os osr ba).ok J (tA g x s T):=by
 have bb:=h.ok;have tn:=h.nn;have cL:=h.ts;have mu:=h.n0;have hc:=ab.n;have jV:=bb.LB;have cZ:∀ d∈g.ds,∀ n∈d.t.ns,0<=n.k:=λd ag n aw=>((aA.ds d ag).t.ns n aw).k.1;have sh:∀ p∈kb,p.2.length<=4096/\∀ y∈p.2,y<t.nn+x.n:=λp aD=>by have U:p.2∈kb.map (·.2):=dC.2 ⟨p,aD,rfl⟩;rw[j7]at U;obtain⟨n,aw,e⟩:=dC.1 U;obtain⟨j,aj,rfl⟩:=nV aw;obtain⟨b1,cb,c9,eM,en,b6⟩:=xN hm cZ ar mO aj;rw[e]at c9 b6;exact⟨by omega,λy aH=>by have:=c9 y aH;omega⟩
 have IF:=RO (J:=J) (kb:=kb) (ns:=x.ns) (λp aD=>⟨Dc p aD,by have:=(sh p aD).1;omega,λy aH=>by have:=(sh p aD).2 y aH;omega⟩) (λn aw=>(ab.ns n aw).mono bn);refine⟨dT,jA,λy aH=>?_,λy aH=>?_,λy aH z a9=>?_,xP,λa aE=>?_,λk ae ao=>?_,λk ae ao=>?_,by show t.s.size<=4096;rw[cL];exact ar,by show t.nn+x.n<=4096;omega⟩
 ·rcases dV.1 aH with aH | aH
  ·exact(bb.il y aH).mono bn
  ·exact(IF y aH).1
 ·rcases dV.1 aH with aH | aH
  ·exact bb.Qj y aH
  ·obtain⟨-,-,n,aw,e⟩:=IF y aH;rw[e];exact oR n aw
 ·show 0<=z/\z.toNat<t.nn+x.n;rcases dV.1 aH with aH | aH
  ·have:=bb.HF y aH z a9;omega
  ·obtain⟨-,⟨p,aD,e⟩,-⟩:=IF y aH;rw[e]at a9;obtain⟨q,ay,rfl⟩:=dC.1 a9;have:=(sh p aD).2 q ay;omega
 ·rcases dV.1 aE with aE | aE
  ·exact bb.fk a aE
  ·obtain⟨k,_,rfl⟩:=dC.1 aE;rfl
 ·have m6:k<t.nn:=ao;have fP:k<t.rows.length:=by omega
  have az:(kX t x kb b9 os osr ba).rows[k]=t.rows[k]:=Ek fP;obtain⟨cs,gP,al,aF,bo⟩:=bb.dg k fP (by omega);refine⟨cs,gP,al,by rw[az];exact bn _ _ aF,?_⟩;rw[az];refine bo.trans ?_;show lH T k t.w=lH (tA g x s T) k t.w;unfold lH;refine IC λa aE=>?_;rw[show tA g x s T k a=_ from cG (by omega)]
 ·have m6:t.nn<=k:=ao;have fP:k<(t.rows++(List.range x.n).map λk=>(⟨ba,k*(t.w*4),none⟩:Addr)).length:=ae;show(t.rows++(List.range x.n).map λk=>(⟨ba,k*(t.w*4),none⟩:Addr))[k]=_;rw[Hl (by omega)];simp only[lA,r2,jV];rfl
include fT
theorem amm:Qp J (kX t x kb b9 os osr ba) (tA g x s T) ((List.range x.n).map λi=>t.nn+i):=by
 have kQ:=Sj (b9:=b9) (os:=os) (osr:=osr) (ba:=ba) h j7;have tn:=h.nn;have hc:=ab.n;have cZ:∀ d∈g.ds,∀ n∈d.t.ns,0<=n.k:=λd ag n aw=>((aA.ds d ag).t.ns n aw).k.1;obtain⟨kz,cf⟩:=Sc hm cZ ar mO;have vY:(kX t x kb b9 os osr ba).nn=a6 g.ds+x.ns.length:=by show t.nn+x.n=_;omega
 refine⟨abb aA hm ar h ab mO hx bn oR j7 dT jA xP Dc,?_,λk ae=>?_,λk=>by rw[kQ];exact kz k,by show t.nn<t.nn+x.n;omega,λk ae=>?_,λk U aa=>?_,λk ae b=>?_⟩
 ·rw[kQ,vY];refine amj hm cZ ar ?_ h.all;have:=h.inv;rwa [h.P,tn]at this
 ·rw[kQ,vY];exact cf k (by omega)
 ·obtain⟨i,hi,rfl⟩:=dC.1 ae;have:=kI.1 hi;show t.nn<=t.nn+i/\t.nn+i<t.nn+x.n;omega
 ·have U:t.nn<=k:=U;have aa:k<t.nn+x.n:=aa;exact dC.2 ⟨k-t.nn,kI.2 (by omega),by omega⟩
 ·have ae:k<t.nn:=ae;rw[kQ,show tA g x s T k b=_ from cG (by omega),h.all,Sb hm cZ ar (by omega)]
theorem amn{J':aR}{jf:Nat->Nat->bX}(atb:x.n<=1024)(f1:iN (kX t x kb b9 os osr ba).P (kX t x kb b9 os osr ba).nn jf)(f2:∀ k b,an<=b->(jf k b).ce=br (kX t x kb b9 os osr ba).P k b)(f3:∀ k,k<t.nn->∀ b,jf k b=tA g x s T k b)
  (qx:∀ b o,J b=some o->J' b=some o) (ah:J' ba=some (.cells ((kX t x kb b9 os osr ba).cs jf).toArray 106 (0,0))):sr J' ({ kX t x kb b9 os osr ba with n0:=t.nn+x.n }:dr) jf an:=by
 have kQ:=Sj (b9:=b9) (os:=os) (osr:=osr) (ba:=ba) h j7;have tn:=h.nn;have hc:=ab.n;have cZ:∀ d∈g.ds,∀ n∈d.t.ns,0<=n.k:=λd ag n aw=>((aA.ds d ag).t.ns n aw).k.1;obtain⟨kz,cf⟩:=Sc hm cZ ar mO;have vY:(kX t x kb b9 os osr ba).nn=a6 g.ds+x.ns.length:=by show t.nn+x.n=_;omega
 have bb:=(abb aA hm ar h ab mO hx bn oR j7 dT jA xP Dc).tg f3;refine⟨bb.kW qx ah,f1,λk b amo=>f2 k b amo,rfl,λk ae=>?_,λk=>?_,?_⟩
 ·have ae:k<t.nn+x.n:=ae;show td (kX t x kb b9 os osr ba).P (t.nn+x.n) k;rw[kQ,show t.nn+x.n=a6 g.ds+x.ns.length by omega];exact cf k (by omega)
 ·show te (kX t x kb b9 os osr ba).P k;rw[kQ];exact kz k
 ·show Ag (kX t x kb b9 os osr ba).P;rw[kQ];exact amk hm cZ ar mO (by omega)
end
def dA.abc{a:Option Addr}{c b:Nat}{vs:List Value}(h:dA I a n c size b vs)(ao:0<n):∃ ad,a=some ad/\ad.spot=none/\∀ M,cq I M ad (n*size) vs:=by
 rcases h.rd with U | ⟨ad,U,aa,cs,T,al,af,aP⟩
 ·omega
 ·exact⟨ad,U,aa,λM=>⟨aa,cs,T,al,.inl af,aP,h.len⟩⟩
def amp(aN:pe I){g:dn}{s:ByteArray}{t:dr}{T:Nat->Nat->bX}(h:pF I g s t T)(hm:kS g)(aA:g.ok I)(gn:s.size<=4096){x:bN}(ab:x.ok I)(g4:l2 x=true)(mO:oc g x)(hx:a6 g.ds+x.n<=4096)(da:an<=s.size)(ai:x.bF=(r:Int)) :
  Spec Tryz.prog 15 [ptr t.bt,x.val,.int .i64 an] I [] λv I' M'=>(∀ b o,I b=some o->I' b=some o)/\∃ (hZ:a5) (o:gC) (e:Int),ea (cI g x s) (a6 g.ds+r) an o e/\v=.tuple #[jd o hZ.val,.int .i64 e]/\hZ.ok 3 (o.cW.flatMap dF.cells)/\M'=hZ.aL 110:=by
 refine Gq [9] aU Tryz.func15 rfl rfl rfl ?_;intro B ao;have bb:=h.ok;have cL:=h.ts;have tn:=h.nn;have gB:=aA.n;obtain⟨dU,ft,wo,iJ⟩:=h.rv;obtain⟨fU,hY,abd,jA⟩:=h.nv;have ki:0<t.nn:=by
  have U:0<g.ds.length:=by have:=hm.n;omega
  have aa:=P1 hm (rule:=0) U s 0;rw[show(qZ g s 0).ns.length=a6 g.ds from wg g.ds]at aa;omega
 obtain⟨sa,amq,cg,bu⟩:=bb.ns.abc ki;obtain⟨oQ,wk,abe,amr⟩:=bb.rw.abc ki;have ig:=bb.ns.cap;have ams:=bb.rw.cap;refine fM.Fq aU rfl rfl ?_;refine aJ.mk (λe=>by cases e) (λ_=>?_);refine b2.mk (λ_=>?_) (λe=>absurd (show decide (((an:Nat):Int)<0)=true from e) (by simp));refine aK.mk _ (bb.gm (j:=0) (by decide)) ?_;have bn:decide (((t.s.size:Nat):Int)<((an:Nat):Int))=false:=c0 (by rw[cL];omega);refine aJ.mk (λe=>absurd (bn.symm.trans e) (by simp)) (λ_=>?_);refine a0.mk [] [] _ (.refl _) (VG aN ab) ?_;rintro v I' M' -⟨rfl,rfl,rfl⟩;refine aJ.mk (λe=>absurd e (by simp[g4])) (λ_=>?_);refine aK.mk _ (bb.gm (j:=3) (by decide)) ?_;have jR:t.cE=[.string t.s,.slice fU g.n hY,.slice dU g.n ft,.slice t.na t.nn t.nc,.slice t.oQ t.nn t.g8]:=by unfold dr.cE;rw[abd,wo]
 have ej:∀ M,cq I' M (⟨t.bt,0,none⟩:Addr) 5 [.string t.s,.slice fU g.n hY,.slice dU g.n ft,.slice t.na t.nn t.nc,.slice t.oQ t.nn t.g8]:=λM=>by rw[<-jR];exact⟨rfl,_,_,_,.inl bb.aB,rfl,rfl⟩
 refine aK.mk _ (ej _) ?_;refine cv.mk λb9 hD ju=>?_;refine cz.mk [] _ _ _ rfl rfl (b0 rfl) rfl ?_;refine aK.mk _ (bb.gm (j:=3) (by decide)) ?_;refine NI.mk t.nn t.nn rfl rfl (bY _) ig.1 ?_;have Dd:(if t.nn=0 then t.na else t.na.map (·.add (0*9)))=some (sa.add (0*9)):=by rw[ca (by omega),amq];rfl
 have w9:=bb.nn;have hc:=ab.n;have ri:=mO.r;have m7:LJ I' g.ds fU dU hY ft t.il.length x:=by
  refine⟨by rw[gB];exact jA,by rw[gB];exact iJ,λn aw=>?_,λq ay=>?_,by have:=hm.aid;omega,by omega⟩;·obtain⟨j,aj,ob⟩:=nV aw;have fc:=ri.ax j aj;have aC:=ri.fits j aj;rw[ob]at fc aC;have av:=YP aC (ab.ns n aw).k.1;have ep:n.ax.length<=j:=HJ j _ (ri.diff.sublist (HL aw)) fc;exact⟨λk ae=>by have:=fc k ae;omega,by omega,by omega⟩
  ·have:=yZ 0 g.ds (λd ag=>(hm.r d ag).bF) q ay;have:=hm.HK;omega
 have amt:∀ M,cq I' M (sa.add (0*9)) (t.nn*9) (t.il.flatMap aM.cells):=λM=>by
  have e:sa.add (0*9)=sa:=by obtain⟨XL,off,fk⟩:=sa;simp only at cg;subst cg;rfl
  rw[e];exact bu M
 have abf:=akP ab m7 (os0:=.al (sa.add (0*9)) t.nn) amt w9.symm b9 t.s (.slice t.oQ t.nn t.g8);rw[gB]at abf;refine cz.to [] _ _ _ rfl rfl rfl rfl [.string t.s,.slice fU g.n hY,.slice dU g.n ft,.slice (if t.nn=0 then t.na else t.na.map (·.add (0*9))) (t.nn-0) (t.nn-0),.slice t.oQ t.nn t.g8] rfl ?_;rw[Dd];refine a0.whole _ abf ?_;rintro v fE ey -⟨rfl,i,E,kb,ga,rfl,ak⟩;rcases ak with⟨rfl,rfl⟩ | ⟨rfl,n,aw,IE,alf⟩
 rotate_left
 ·exact absurd (mO.find n aw IE) (by omega)
 refine aJ.mk (λe=>by cases e) (λ_=>?_);have MG:0<x.n:=by have:=ri.bF;omega
 obtain⟨os,rfl⟩:=ga.own MG;have AU:os.n=t.nn+x.n:=by have U:os.n=t.il.length+x.n:=ga.n;omega
 have abg:os.ok 9 ((t.il++kU kb (x.ns.take x.n)).flatMap aM.cells):=ga.ok;rw[fq (by omega)]at abg;refine c4.draw aU rfl rfl rfl ?_;have c8:=bb.sz;have yn:(if t.nn=0 then t.oQ else t.oQ.map (·.add (0*1)))=some (oQ.add (0*1)):=by rw[ca (by omega),wk];rfl
 refine aK.mk _ (bb.gm (j:=4) (by decide)) ?_;refine NI.mk t.nn t.nn rfl rfl (bY _) ams.1 ?_;refine aK.mk _ (bb.gm (j:=0) (by decide)) ?_;refine bc.mk ((t.s.size+1:Nat):Int) (fK (by simp) (by omega)) ?_;refine g7.whole _ (YN x.n (t.s.size+1) (by omega) (by omega) (by omega)) (λv I' M' h x ab=>by obtain⟨-,iO,ba,-,e⟩:=h;rw[e];exact .tail _ (.tail _ ab)) ?_;rintro v ie kq -⟨rfl,iO,ba,rfl,rfl⟩;have amu:∀ M,cq ie M (oQ.add (0*1)) (t.nn*1) (t.rows.map λa=>Value.slice (some a) t.w t.w):=λM=>by
  have e:oQ.add (0*1)=oQ:=by obtain⟨XL,off,fk⟩:=oQ;simp only at abe;subst abe;rfl
  rw[e];exact amr M
 refine bs.RE aU rfl (by simp) (e:=104) rfl rfl rfl (sa:=oQ.add (0*1)) (n:=t.nn) (xs:=t.rows.map λa=>Value.slice (some a) t.w t.w) (by show dQ.val (Value.slice (if t.nn=0 then t.oQ else t.oQ.map (·.add (0*1))) (t.nn-0) (t.nn-0))=_;rw[yn];rfl) (amu _) (ad:=⟨iO,0,none⟩) (m:=x.n) (c':=x.n) rfl (bU:=uX ba (t.s.size+1) x.n) MG ⟨rfl,_,_,_,.inr ⟨_,.head _,rfl,rfl⟩,by show((uX ba (t.s.size+1) x.n).drop 0).take (x.n*1)=_;rw[sQ,fq (by simp[uX])],by simp[uX]⟩ (by simp only[maxLen];omega) (by show(t.nn+x.n)*24<=_;omega) ?_;rintro osr abh-amv;refine cz.mk (osr.aL 104++[⟨iO,.cells (uX ba (t.s.size+1) x.n).toArray 104 (0,0)⟩,⟨ba,.cells ((List.replicate (x.n*(t.s.size+1)) hG).flatMap bX.cells).toArray 106 (0,0)⟩]) (os.aL 59++kb.map fB) _ _ (by rw[fA];rfl) rfl (b0 rfl) rfl ?_;refine nE.mk x.n x.n rfl rfl (bY _) (by show 8*x.n<=_;omega) (by omega) ?_;refine cv.mk λxQ BF atc=>?_;refine dG.DQ (ι:=Nat) (λi=>{ bx:=[(2,.val (.int .i64 an)),(4,.ref 4 0),(6,.ref 6 0),(7,.val (.int .i64 0)),(8,.val (.int .i64 t.nn)),(9,.val (ptr b9)),(10,.val (.slice (some ⟨xQ,0,none⟩) x.n x.n)),(75,.val (.int .i64 x.n)),(76,.val (.int .i64 i))],cl:=[(4,x.cells),(6,[.bool false,.int .i64 0,.slice none 0 0])],c2:=ie,du:=⟨xQ,.cells ((List.range i).map (λj=>bQ (t.nn+j))++List.replicate (x.n-i) (bQ 0)).toArray 3 (0,0)⟩::jM b9 t.s (.slice fU g.n hY) (.slice dU g.n ft) os.val osr.val::⟨ba,.cells ((List.replicate (x.n*(t.s.size+1)) hG).flatMap bX.cells).toArray 106 (0,0)⟩::(osr.aL 104++(os.aL 59++kb.map fB)) }) (λi=>i<=x.n) (λi=>x.n-i) ?_ ?_
 ·intro _;refine⟨0,bw _,.perm (M1:=⟨xQ,.cells (rowOf [bQ 0] (x.n*1)).toArray 3 (0,0)⟩::⟨iO,.cells (uX ba (t.s.size+1) x.n).toArray 104 (0,0)⟩::jM b9 t.s (.slice fU g.n hY) (.slice dU g.n ft) os.val osr.val::⟨ba,.cells ((List.replicate (x.n*(t.s.size+1)) hG).flatMap bX.cells).toArray 106 (0,0)⟩::(osr.aL 104++(os.aL 59++kb.map fB))) (.cons _ ?_) (.sub (.cons_cons _ (.cons _ (.refl _))) (.pz ?_)),lV,.cons rfl (.cons rfl (.nil))⟩
  ·rw[fA];exact(Ab _ [_,_,_] _).trans (.cons _ (.swap _ _ _))
  ·rw[BU,iU];rfl
 intro i hi;refine aJ.mk (λaF=>?_) (λaF=>?_)
 ·have aS:i<x.n:=by simpa using aF
  refine bc.mk ((t.nn+i:Nat):Int) (fK (by simp) (by omega)) ?_;refine bk.mk ⟨xQ,0,none⟩ i rfl rfl aS ?_;refine cz.jl [] _ ((List.range i).map (λj=>bQ (t.nn+j))++List.replicate (x.n-i) (bQ 0)) _ rfl ?_ rfl ((List.range (i+1)).map (λj=>bQ (t.nn+j))++List.replicate (x.n-(i+1)) (bQ 0)) ?_ ?_;·rw[nW,cP,cD,q0,zU];show 0+i*1+1<=_;omega
  ·have q4:List.replicate (x.n-i) (bQ 0)=bQ 0::List.replicate (x.n-(i+1)) (bQ 0):=by rw[show x.n-i=(x.n-(i+1))+1 from by omega,vR]
   rw[q4,Cv,fi,fA];exact KU (k:=0+i*1) (by rw[cD,q0];omega)
  refine bc.mk _ (cF (i:=i) (by omega)) ?_;intro _;exact⟨i+1,⟨by omega,by omega⟩,.refl,lV,.cons rfl (.cons rfl (.nil))⟩
 have cm:x.n<=i:=by simpa using aF
 obtain rfl:i=x.n:=by omega
 rw[lE,Pb,dX];have Bv:=g4;unfold l2 at Bv;simp only[cp,e5]at Bv;have amw:t.w=t.s.size+1:=rfl;have ek:r<x.n:=by have:=ri.bF;omega
 refine .DH λhH=>?_;obtain⟨xR,MH⟩:∃ xR,xR=jM b9 t.s (.slice fU g.n hY) (.slice dU g.n ft) os.val osr.val:=⟨_,rfl⟩;rw[<-MH]at hH;have aD:(⟨xQ,.cells ((List.range x.n).map (λj=>bQ (t.nn+j))).toArray 3 (0,0)⟩::xR::⟨ba,.cells ((List.replicate (x.n*(t.s.size+1)) hG).flatMap bX.cells).toArray 106 (0,0)⟩::(osr.aL 104++(os.aL 59++kb.map fB)):List aI).Perm ((xR::(osr.aL 104++(os.aL 59++kb.map fB)))++[⟨ba,.cells ((List.replicate (x.n*(t.s.size+1)) hG).flatMap bX.cells).toArray 106 (0,0)⟩,⟨xQ,.cells ((List.range x.n).map (λj=>bQ (t.nn+j))).toArray 3 (0,0)⟩]):=
  (List.Perm.swap _ _ _).trans (.cons _ ((List.Perm.swap _ _ _).trans (iK (l₁:=[_,_]))))
 obtain⟨bn,AT⟩:=aba (I:=ie) (xR::(osr.aL 104++(os.aL 59++kb.map fB))) (λy aH=>hH.d y (aD.mem_iff.2 (ox _ aH))) (by
  have U:=(aD.map (λy:aI=>y.num)).nodup_iff.1 hH.cd;rw[fi]at U;exact(Bn.1 U).1)
 obtain⟨J,bZ⟩:∃ J,J=A3 ie (xR::(osr.aL 104++(os.aL 59++kb.map fB))):=⟨_,rfl⟩;rw[<-bZ]at bn AT;have Oi:jP [] ie ((xR::(osr.aL 104++(os.aL 59++kb.map fB)))++[⟨ba,.cells ((List.replicate (x.n*(t.s.size+1)) hG).flatMap bX.cells).toArray 106 (0,0)⟩,⟨xQ,.cells ((List.range x.n).map (λj=>bQ (t.nn+j))).toArray 3 (0,0)⟩]) J [⟨ba,.cells ((List.replicate (x.n*(t.s.size+1)) hG).flatMap bX.cells).toArray 106 (0,0)⟩,⟨xQ,.cells ((List.range x.n).map (λj=>bQ (t.nn+j))).toArray 3 (0,0)⟩]:=by rw[bZ];exact aa9 _ λy _=>by simp
 have Sk:kb.map (·.2)=x.ns.map (eN g.ds (a6 g.ds)):=by have:=ga.kb;rwa [fq (by omega),w9,tn]at this
 have dT:J b9=some (.cells (kX t x kb b9 os osr ba).cE.toArray 98 (0,0)):=by
  have U:=AT xR (.head _);have az:xR.num=b9:=by rw[MH];rfl
  have aF:xR.obj=.cells (kX t x kb b9 os osr ba).cE.toArray 98 (0,0):=by rw[MH];show Obj.cells ([.string t.s,.slice fU g.n hY,.slice dU g.n ft,.slice (os.a.map λg=>⟨g,0,none⟩) os.n os.c,.slice (osr.a.map λg=>⟨g,0,none⟩) osr.n osr.c]:List Value).toArray _ _=Obj.cells ([.string t.s,t.nv,t.rv,.slice (os.a.map λg=>⟨g,0,none⟩) (t.nn+x.n) os.c,.slice (osr.a.map λg=>⟨g,0,none⟩) (t.nn+x.n) osr.c]:List Value).toArray _ _;rw[abd,wo,AU,abh]
  rw[az,aF]at U;exact U
 have jA:=a5.A3 (J:=J) (e:=59) (b:=96) abg (λy aH=>AT y (.tail _ (tW _ (ox _ aH)))) (by omega);rw[AU]at jA;have xP:=a5.A3 (J:=J) (e:=104) (b:=24) amv (λy aH=>AT y (.tail _ (ox _ aH))) (by omega);rw[abh]at xP;have amx:(t.rows.map λa=>Value.slice (some a) t.w t.w)++uX ba (t.s.size+1) x.n=(kX t x kb b9 os osr ba).rows.map λa=>Value.slice (some a) t.w t.w:=by show _=(t.rows++(List.range x.n).map λk=>(⟨ba,k*(t.w*4),none⟩:Addr)).map λa=>Value.slice (some a) t.w t.w;rw[fi,h7];rfl
 rw[amx]at xP;have Dc:∀ p∈kb,J p.1=some (.cells (p.2.map bQ).toArray 3 (0,0)):=λp aD=>AT (fB p) (.tail _ (tW _ (tW _ (dC.2 ⟨p,aD,rfl⟩))));have ld:=amm aA hm gn h ab mO hx MG bn (λn aw=>(m7.ns n aw).2.2) Sk dT jA xP Dc;have st:((List.range x.n).map λi=>t.nn+i).length=x.n:=by simp
 have sJ:=YH ld (gN:=xQ) (nN:=x.n) (cN:=(List.range x.n).map (λj=>bQ (t.nn+j))) (by simp) (by rw[st,h7,fq (by simp)];rfl) (by omega) (by omega) (low:=an) (by show an<=t.s.size;rw[cL];exact da);rw[st,aml h hc,amw]at sJ;refine a0.F' J [⟨ba,.cells ((List.replicate (x.n*(t.s.size+1)) hG).flatMap bX.cells).toArray 106 (0,0)⟩,⟨xQ,.cells ((List.range x.n).map (λj=>bQ (t.nn+j))).toArray 3 (0,0)⟩] [] _ (.perm (by rw[<-MH];exact aD) Oi) sJ ?_;rintro v ms kr Sl -⟨rfl,jf,f1,f2,f3,rfl⟩;refine bc.mk ((t.nn+r:Nat):Int) (fK (by rw[ai];simp) (by omega)) ?_;refine .DH λRX=>?_;have Fm:ms ba=none:=RX.d ((kX t x kb b9 os osr ba).aL jf) (.head _);have tv:=amn aA hm gn h ab mO hx MG bn (λn aw=>(m7.ns n aw).2.2) Sk dT jA xP Dc (J':=ins ms ba (.cells ((kX t x kb b9 os osr ba).cs jf).toArray 106 (0,0))) (an:=an) Bv.1 f1 f2 f3 (qP Fm) (uj ..);have amy:=aaK tv (k:=t.nn+r) (a:=an) (by show t.nn+r<t.nn+x.n;omega) (bY _) (by show an<=t.s.size;rw[cL];exact da);refine a0.F' (ins ms ba (.cells ((kX t x kb b9 os osr ba).cs jf).toArray 106 (0,0))) [] [] _ (.rA rfl (by simp) .refl) amy ?_;rintro v z8 lZ Sm -⟨rfl,hZ,o,e,fL,rfl,u3,rfl⟩;intro _;refine⟨_,_,.pz (dX _),λb o h=>qP Fm _ _ (bn _ _ h),hZ,o,e,?_,rfl,u3,rfl⟩;have kQ:=Sj (b9:=b9) (os:=os) (osr:=osr) (ba:=ba) h Sk;have fL:ea (kX t x kb b9 os osr ba).P (t.nn+r) an o e:=fL
 rwa [kQ,tn]at fL
def amz(size:Nat):(⟨none,0,0,[]⟩:a5).ok size []:=⟨by simp,λ_=>⟨rfl,rfl⟩,λg h=>by cases h⟩
section
variable{X:c7}{G:GT}{pr:mb}{D:bR}{m m':bp}{F:Fr}{al:bi aq}{C:d'}{I:aR}{M:List aI}{K:gp}{o:Oper}{v:aq}
def amA(aO:c6 X.P X.E)(ag:∀ d,o.dst=some d->d<X.n){args:Array Operand}{ts:Array Nat}(au:o.op=.call { callee:=.builtin .unsafeString,args:=args,argTypes:=ts })(h:Q4 (ei X G pr) m ts.toList (oV al args.toList)=some (v,m'))
  (H:jv D F al args.toList) (hm:dx (ei X G pr) D m I M) (k:sm X G pr D m I M v m' o.dst F C K):bs X o F C I M K:=by
 unfold Q4 at h;split at h
 ·rename_i vw it av ap;cases h;obtain⟨op,on,nb,U,aa⟩:=Mg ap;obtain⟨wb,az,aV⟩:=H.bG (x:=op) (by rw[nb];simp) U;obtain⟨sk,aF,a3⟩:=H.bG (x:=on) (by rw[nb];simp) aa;have CZ:args=#[op,on]:=by apply g2;simpa using nb
  have C0:ts=#[vw,it]:=by apply g2;simpa using av
  have Mh:wb=.pointer none:=by simpa only[aT]using aV
  subst Mh;rw[a3.int]at aF;refine bs.Ve (by rw[au,CZ,C0]) ag az aF (k D _ M bR.pE ?_ hm);simp only[aT];rfl
 ·rename_i vw it id n av ap;split at h
  ·rename_i sa tl sz e cs T fh amB aA;obtain⟨aG,he,eh⟩:=c1 h;obtain⟨ah,gF⟩:=g1 eh;simp only[cp]at ah;obtain⟨op,on,nb,U,aa⟩:=Mg ap;obtain⟨wb,az,aV⟩:=H.bG (x:=op) (by rw[nb];simp) U;obtain⟨sk,aF,a3⟩:=H.bG (x:=on) (by rw[nb];simp) aa;have CZ:args=#[op,on]:=by apply g2;simpa using nb
   have C0:ts=#[vw,it]:=by apply g2;simpa using av
   rw[a3.int]at aF;obtain⟨a,aE,rfl⟩:=aV.ptr;have qw:=hm.jc _ _ _ aA aE;obtain⟨arr,zf,a2,c8,aN,ae,g4⟩:=qw;have It:=cK ah.2.1;subst It;unfold xu at gF;simp only[aA]at gF;cases Sn:Nat.ble (Nat.add 0 n) fh with
   |false=>rw[Sn]at gF;cases gF| true=>
   rw[Sn]at gF;simp only[bh]at gF;have ua:0+n<=fh:=b0 Sn;obtain⟨l,eY,dS,fI⟩:=bi.E8 cs n 0 _ _ gF;obtain⟨cO,GY,rQ⟩:=c1 fI;obtain⟨Ox,IM⟩:=g1 rQ;obtain⟨t1,aP,bq⟩:=bi.pB (none:Option fW) m.t id;rw[aP]at IM;cases IM;have z5:(arr.toList.take n).length=n:=by rw[gr,yr];omega
   have amC:bT D l (arr.toList.take n):=bT.Ri (by rw[z5,eY]) λi v hi=>by
    have hV:i<n:=by rw[<-eY];exact(kc.1 hi).1
    obtain⟨x,bW,fx⟩:=aN i v (by omega) (by have:=dS i hV;rw[dz]at this;rw[this,hi]);rw[zf,dz]at bW;exact⟨x,by rw[lp,cG hV];simpa using bW,fx⟩
   have iS:=Rx GY amC;have qJ:cO.length=n:=by have:=congrArg List.length iS;rw[z5]at this;simpa using this.symm
   obtain⟨a8,post,cg⟩:=v5 a2;have kT:M.Perm (⟨a.b,.cells arr T (0,0)⟩::(a8++post)):=by rw[cg];exact qd
   have mo:arr.toList.take cO.length=cO.map λb=>Value.int .u8 b.toNat:=by rw[qJ];exact iS
   have ao:cO≠[]:=λbA=>by subst bA;have:0<n:=b0 ah.2.2;simp at qJ;omega
   have eA:bG F op=.val (.pointer (some ⟨a.b,0,none⟩)):=by rw[az,zf]
   have eX:bG F on=.val (.int .i64 cO.length):=by rw[aF,qJ];rfl
   refine bs.Ow aO (by rw[au,CZ,C0]) ag amB rfl he (cK ah.1) eA eX ao (by rw[qJ];exact b0 Ox) kT mo ?_;have hB:∀ i eT,t1.get i=some eT->i≠id/\m.t.get i=some eT:=λi eT hi=>by
    rcases bq i eT hi with⟨_,gF⟩ | gF;·cases gF
    ·exact gF
   refine k D _ _ bR.pE (by simp only[aT]) ⟨λi eT b hi oA=>?_,λi hv eT AR b hJ hi di=>hm.inj i hv eT AR b hJ (hB i eT hi).2 (hB hv AR di).2,hm.j5,hm.rc⟩;refine(hm.jc i eT b (hB i eT hi).2 oA).mono (bR.le_refl D) λq ay aw=>?_;rcases eL.1 (kT.mem_iff.1 ay)with rfl | ay;·exact((hB i eT hi).1 (hm.inj _ _ _ _ _ _ (hB i eT hi).2 aA oA aE aw.symm)).elim
   ·exact ay
  ·cases h
 ·cases h
def amD(aO:c6 X.P X.E)(ag:∀ d,o.dst=some d->d<X.n){x lo:Operand}(au:o.op=.slice t x (some lo) (some hi) (some mx))(h:QW X.E t (dB al x) (dB al lo) (dB al hi) (dB al mx)=some v)
  (H:jv D F al o.op.operands.toList) (hm:dx (ei X G pr) D m I M) (k:∀ x,gx D x v->K (put o.dst x F) C I M):bs X o F C I M K:=by
 unfold QW at h;split at h
 ·rename_i sz h0 z e id off n c eJ l cU be hs fY av ab eH e1 g4;obtain⟨aG,he,eh⟩:=c1 h;obtain⟨ah,gF⟩:=g1 eh;simp only[cp]at ah;obtain⟨b1,cb,c9,eM⟩:=ah;cases gF;have b1:=b0 b1;have cb:=b0 cb;have c9:=b0 c9;have eM:l+1<=fY:=b0 eM;obtain⟨Pv,cJ,A4⟩:=H.bG (x:=x) (by rw[au];simp[Op.operands]) ab;obtain⟨wb,az,aV⟩:=H.bG (x:=lo) (by rw[au];simp[Op.operands]) eH;obtain⟨sk,aF,a3⟩:=H.bG (x:=hi) (by rw[au];simp[Op.operands]) e1;obtain⟨AO,bo,bW⟩:=H.bG (x:=mx) (by rw[au];simp[Op.operands]) g4;rw[aV.int]at az;rw[a3.int]at aF;rw[bW.int]at bo;simp only[aT]at A4;obtain⟨a,aE,rfl⟩:=A4;refine bs.slice3 aO au ag av rfl he l be fY cJ az aF bo b1 cb c9 (k _ (.val ?_));simp only[aT];refine⟨a,aE,?_⟩;rw[ca (by omega),k3,eo _ rfl];simp only[Ay,ER,ES,rz]
 ·cases h
def abi{sz h0:Nat}{z:List Value}{aG:ec}{x:Operand}{a:Option Addr}{c h m:Nat}{cU hs:IntKind}(au:o.op=.slice t x none (some hi) (some mx))(av:X.E t=some ⟨sz,h0,z,.slice e⟩)(he:X.E e=some aG)
  (ab:bG F x=.val (.slice a n c)) (bl:bG F hi=.val (.int cU (h:Nat))) (hm:bG F mx=.val (.int hs (m:Nat))) (U:h<=m) (aa:m<=c) (k:K (put o.dst (.val (.slice (if m=0 then a else a.map (·.add (0*aG.size))) (h-0) (m-0))) F) C I M):g6 X o F C I M K:=by
 obtain⟨dst,De,ty,pos,after,guard⟩:=o;simp only at au;subst au;have az:dR (dD F) x=.val (.slice a n c):=ab;have aF:dR (dD F) hi=.val (.int cU (h:Nat)):=bl;have bo:dR (dD F) mx=.val (.int hs (m:Nat)):=hm;simp only[g6,cM,av,he,az,aF,bo,vh,k3];exact⟨h,m,rfl,rfl,U,aa,k⟩
def amE(aO:c6 X.P X.E)(ag:∀ d,o.dst=some d->d<X.n){x:Operand}(au:o.op=.slice t x none (some hi) (some mx))(h:QV X.E t (dB al x) (dB al hi) (dB al mx)=some v)
  (H:jv D F al o.op.operands.toList) (hm:dx (ei X G pr) D m I M) (k:∀ x,gx D x v->K (put o.dst x F) C I M):g6 X o F C I M K:=by
 unfold QV at h;split at h
 ·rename_i sz h0 z e id off n c cU be hs fY av ab e1 g4;obtain⟨aG,he,eh⟩:=c1 h;obtain⟨ah,gF⟩:=g1 eh;simp only[cp]at ah;obtain⟨cb,c9,eM⟩:=ah;cases gF;have cb:=b0 cb;have c9:=b0 c9;have eM:0+1<=fY:=b0 eM;obtain⟨Pv,cJ,A4⟩:=H.bG (x:=x) (by rw[au];simp[Op.operands]) ab;obtain⟨sk,aF,a3⟩:=H.bG (x:=hi) (by rw[au];simp[Op.operands]) e1;obtain⟨AO,bo,bW⟩:=H.bG (x:=mx) (by rw[au];simp[Op.operands]) g4;rw[a3.int]at aF;rw[bW.int]at bo;simp only[aT]at A4;obtain⟨a,aE,rfl⟩:=A4;refine abi au av he cJ aF bo cb c9 (k _ (.val ?_));simp only[aT];refine⟨a,aE,?_⟩;rw[ca (by omega),k3,eo _ rfl];simp
 ·rename_i sz h0 z e id off aF n cU be hs fY av ab e1 g4;obtain⟨aG,he,eh⟩:=c1 h;obtain⟨ah,gF⟩:=g1 eh;simp only[cp]at ah;obtain⟨cb,c9,eM⟩:=ah;cases gF;have cb:=b0 cb;have c9:=b0 c9;have eM:0+1<=fY:=b0 eM;obtain⟨Pv,cJ,A4⟩:=H.bG (x:=x) (by rw[au];simp[Op.operands]) ab;obtain⟨sk,aF,a3⟩:=H.bG (x:=hi) (by rw[au];simp[Op.operands]) e1;obtain⟨AO,bo,bW⟩:=H.bG (x:=mx) (by rw[au];simp[Op.operands]) g4;rw[a3.int]at aF;rw[bW.int]at bo;simp only[aT]at A4;obtain⟨a,aE,bn,rfl⟩:=A4;refine abi au av he cJ aF bo cb (by omega) (k _ (.val ?_));simp only[aT];refine⟨a,aE,?_⟩;rw[ca (by omega),k3,eo _ rfl];simp
 ·cases h
def amF(ag:∀ d,o.dst=some d->d<X.n){x:Operand}(au:o.op=.unOp .xor t x)(h:QX (dB al x)=some v)(H:jv D F al o.op.operands.toList)(k:∀ x,gx D x v->K (put o.dst x F) C I M):g6 X o F C I M K:=by
 unfold QX at h;split at h
 ·rename_i n ab;cases h;obtain⟨u,e,hu⟩:=H.bG (x:=x) (by rw[au];simp[Op.operands]) ab;rw[hu.int]at e;have q:bs X o F C I M K:=bs.GX au ag e (k _ (.val (by simp only[aT])));obtain⟨dst,De,ty,pos,after,guard⟩:=o;simp only at au;subst au;exact q
 ·cases h
def amG{x lo:Operand}(au:o.op=.slice t x (some lo) (some hi) (some mx))(k:bs X o F C I M K):g6 X o F C I M K:=by
 obtain⟨dst,De,ty,pos,after,guard⟩:=o;simp only at au;subst au;simp only[g6,cM];split
 ·rename_i e;cases e
 ·rename_i e;cases e
 ·split
  ·rename_i e _;cases e
  ·exact k
 ·exact k
def abj:Op->Bool
 | .makeMap .. | .lookup .. | .mapUpdate .. | .insert ..=>true| .call { callee:=.builtin .append,.. }=>true| .call { callee:=.builtin .copy,.. }=>true| .call { callee:=.builtin .unsafeString,.. }=>true| _=>false
def A5{op:Op}(au:o.op=op)(h:abj op=true)(k:bs X o F C I M K):g6 X o F C I M K:=by
 obtain⟨dst,De,ty,pos,after,guard⟩:=o;simp only at au;subst au;unfold abj at h;split at h<;>first | exact k | cases h
def amH(aO:c6 X.P X.E)(ag:∀ d,o.dst=some d->d<X.n)(h:Q5 (ei X G pr) m o al=some (v,m'))(H:jv D F al o.op.operands.toList)(hm:dx (ei X G pr) D m I M)(k:sm X G pr D m I M v m' o.dst F C K):g6 X o F C I M K:=by
 unfold Q5 at h;split at h
 ·rename_i t x y au;exact aks au h H hm k
 ·rename_i t au;exact A5 au rfl (ZW aO ag au h (by simp) hm k)
 ·rename_i t x au;split at h
  ·rename_i fY n ab;refine A5 au rfl (ZW aO ag au h (λy aH=>?_) hm k);cases aH;obtain⟨u,az,aV⟩:=H.bG (x:=x) (by rw[au];simp[Op.operands]) ab;rw[aV.int]at az;exact⟨_,_,az⟩
  ·cases h
 ·rename_i t x y ok au;exact A5 au rfl (aku aO ag au h H hm k)
 ·rename_i t x y z au;exact A5 au rfl (ZY aO (.inl au) h H hm k)
 ·rename_i t x y z au;exact A5 au rfl (ZY aO (.inr au) h H hm k)
 ·rename_i s d x au;have So:=akw aO ag au h H hm k;obtain⟨dst,De,ty,pos,after,guard⟩:=o;simp only at au;subst au;have qb:∃ a b z,X.E d=some ⟨a,b,z,.string⟩:=by
   unfold LZ at h;split at h;·exact⟨_,_,_,by assumption⟩
   ·exact⟨_,_,_,by assumption⟩
   ·exact⟨_,_,_,by assumption⟩
   ·cases h
  obtain⟨a,b,z,qb⟩:=qb;simp only[g6,cM,qb];split;·rename_i e _;cases e
  ·exact So
 ·rename_i b args ts au;have Sp:jv D F al args.toList:=by rw[au]at H;simpa[Op.operands,Call.operands]using H
  unfold Zo at h;split at h;·exact A5 au rfl (akN aO ag au h Sp hm k)
  ·exact A5 au rfl (akx aO ag au h Sp hm k)
  ·exact A5 au rfl (amA aO ag au h Sp hm k)
  ·cases h
 ·cases h
end
end Go.V
