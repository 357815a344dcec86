/- Part 5 of what the proofs of this seat share: the executor, data in memory, walks.
-/
import Derived.Test.YtjambecdkaahmaaGreatDoorK4
import Derived.Test.YtjambecdkaahmaaGreatDoorK2
import Derived.Laws.IdiomStrings
import Derived.Lib.SliceRun
set_option linter.all false
set_option maxHeartbeats 8000000
set_option maxRecDepth 100000
namespace Go.V
open Go
def se:=@List.length_range
def x0:=@List.length_singleton
def Bg:=@Nat.ble_eq_true_of_le
def Dt:=@List.getElem_set_ne
def Du:=@BitVec.toNat_ofNat
def GC:=@List.getElem_set_self
def Dv:=@List.flatMap_map
def Dw:=@List.range_succ
def OY:=@Int.tdiv_eq_ediv_of_nonneg
def OZ:=@Nat.add_sub_cancel_left
def GD:=@Nat.zero_lt_one
def O0:=@BitVec.eq_of_getLsbD_eq
def Xd:=@Nat.testBit_eq_decide_div_mod_eq
def Xe:=@List.drop_append_of_le_length
def Kf:=@Nat.mod_eq_of_lt
def O1:=@List.reverse_append
def O2:=@BitVec.getLsbD_and
def O3:=@List.mem_range'_1
def O4:=@List.take_append
variable{z N src dst e c t bW c' j i size bt:Nat}{m:Nat->Nat->dg}{x hi mx:Operand}{dk aH Kg:dU}{ad jm:Option Addr}{cq L eZ:List Nat}{args xs bV aK vs:List Value}{I J I':aZ}{M M0:List aB}{K:Value->aZ->List aB->Prop}{α:Type}{os:a'}{E:Env}{y:BitVec 64}{cA gu:IntKind}{F:Fr}{nv rv rwv:Value}{kb:List (Nat×List Nat)}
def ah0(x:Nat):min (gx x 1) 65537=min (1+(min x 65537+0)) 65537:=by unfold gx;omega
def lv(c:dg):dg:=⟨min c.n 65537,c.a0,c.aG⟩
def eT(z:Nat)(m:Nat->Nat->dg)(k p:Nat):dg:=bif Nat.ble p z then lv (m k p)else nI
def sf{k p:Nat}(h:p<=z):eT z m k p=lv (m k p):=by unfold eT;rw[Bg h];rfl
def Kh{k p:Nat}(h:ff (eT z m k p)):p<=z/\eT z m k p=lv (m k p)/\ff (m k p):=by
 unfold eT at h |-;cases ai:Nat.ble p z with
 |false=>rw[ai]at h;exact absurd h rm| true=>rw[ai]at h;exact⟨bS ai,rfl,h⟩
def Xf{m':Nat->Nat->dg}(h:nL 0 m m'):A1 (eT z m) (eT z m'):=λk p ah=>by obtain⟨aa,ab,ag⟩:=Kh ah;rw[ab,sf aa,h k p (bw _) ag]
def Xg{P:dw}{kn eX:Nat->Nat->dg}(bs:A1 kn eX){k pl:Nat}(ag:(eX k (pl-P.be)).aG=3){parts:List (Nat×Nat)}(aD:ky P kn k pl parts){n0:Nat}{dd:List fg}(sM:iD P kn n0 parts dd)(av:lZ dd N)(dr:mX pl (eX k (pl-P.be)).a0 dd)
  (aA:(eX k (pl-P.be)).n=min ((if(P.aO k).d.k=9 then 1 else 0)+N) 65537):∃ n l,iD P eX n [(k,pl)] l/\lZ l (eX k (pl-P.be)).n/\mX pl (eX k (pl-P.be)).a0 l:=by
 by_cases ar:(eX k (pl-P.be)).n=0
 ·exact⟨1,[],.zero ag ar .nil,⟨λ_=>ar.symm,λh=>by omega⟩,.nil dr.le⟩
 ·refine⟨n0+1,_,.node ag ar (aD.le bs) (l:=dd) (by rw[eh];exact sM.le bs),?_,?_⟩
  case refine_2=>
   unfold sc;cases decide ((P.aO k).d.k=9)with
   |true=>exact .cap dr| false=>exact dr
  rw[aA];refine lZ.cut ?_;unfold sc;by_cases fe:(P.aO k).d.k=9;·rw[cn fe,eN fe,bl];exact lZ.app (l:=[_]) (n:=1) ⟨λ_=>rfl,λh=>by omega⟩ av
  ·rw[cb fe,de fe,bh,c0];exact av
section
variable{z:Nat}{m:Nat->Nat->dg}(hm:∀ q b,jL z b (m q b))
include hm
def Xh{P:dw}(bf:P.s.size=z)(ai:P.be=0)(k p:Nat):zk P (P.be+p) (eT z m k p):=by
 rw[ai,c0];by_cases aD:p<=z
 ·rw[sf aD];rcases hm k p with e | e | ⟨aa,ab,ag,aW⟩
  ·rw[e];exact⟨bw _,λh=>(by cases h),λ_=>⟨rfl,rfl⟩⟩
  ·rw[e];exact⟨by show 2<=3;omega,λh=>(by cases h),λ_=>⟨rfl,rfl⟩⟩
  ·refine⟨by show(m k p).aG<=3;omega,λ_=>⟨ab,by rw[bf];exact ag aD,JR _ _⟩,λh=>absurd aa h⟩
 ·have:eT z m k p=nI:=by unfold eT;rw[zi.2 λe=>aD (bS e)];rfl
  rw[this];exact⟨bw _,λh=>(by cases h),λ_=>⟨rfl,rfl⟩⟩
def Xi:∀ (L:List Nat) (a n:Nat),(h5 m L a n).aG=3->a<=z->allM (eT z m) 0 L a/\(h5 m L a n).a0=rf (eT z m) 0 L a/\min (h5 m L a n).n 65537=min (n+mW (eT z m) 0 L a) 65537
 |[],a,n,_,_=>⟨trivial,rfl,rfl⟩
 |q::L,a,n,h,aC=>by
  cases ag:Nat.beq (m q a).aG 3 with
  |false=>simp only[h5,ag,bh]at h;rw[h]at ag;cases ag| true=>have bz:=c6 ag;have e:eT z m q (a-0)=lv (m q a):=sf aC;obtain⟨a3,a6,bI⟩:=(hm q a).ge bz;simp only[h5,ag,bl]at h |-;obtain⟨i1,i2,i3⟩:=Xi L _ _ h (a6 aC);simp only[allM,rf,mW,e];have qt:Nat.beq (lv (m q a)).aG 3=true:=ag;rw[qt,bl,bl];refine⟨⟨bz,i1⟩,i2,?_⟩;rw[i3];show min (gx n (m q a).n+mW (eT z m) 0 L (m q a).a0) 65537=min (n+(min (m q a).n 65537+mW (eT z m) 0 L (m q a).a0)) 65537;unfold gx;omega
omit hm in
def Xj:∀ (L:List Nat) (a:Nat),(ie m L a).aG=3->a<=z->th (eT z m) 0 L a/\∃ q∈L,ie m L a=m q a/\mu (eT z m) 0 L a=bif Nat.beq (lv (m q a)).n 0 then []else [(q,a)]
 |[],a,h,_=>by cases h
 |q::L,a,h,aC=>by
  have e:eT z m q (a-0)=lv (m q a):=sf aC;cases ab:Nat.beq (m q a).aG 2 with
  |true=>have aE:=c6 ab;simp only[ie,ab,bl]at h |-;obtain⟨i1,fa,i2,i3,i4⟩:=Xj L a h aC;have eC:(lv (m q a)).aG=2:=aE;simp only[th,mu,e,eC,i4];exact⟨.inr ⟨trivial,i1⟩,fa,.tail _ i2,i3,rfl⟩
  |false=>simp only[ie,ab,bh]at h |-;have qt:(lv (m q a)).aG=3:=h;refine⟨.inl (by rw[e];exact qt),q,.head _,rfl,?_⟩;simp only[mu,e,qt];rfl
def Xk{q:Nat}{lo hi:Int}:∀ (j i a n:Nat),(gd m q lo hi j i a n).aG=3->a<=z->i+j<=1000000->(hi=-1\/((i+j:Nat):Int)=hi)->∃ r,k2 (eT z m) 0 q hi i a (k1 (eT z m) 0 (List.replicate r q) a)/\allM (eT z m) 0 (List.replicate r q) a /\ (gd m q lo hi j i a n).a0=rf (eT z m) 0 (List.replicate r q) a/\min (gd m q lo hi j i a n).n 65537=min (n+mW (eT z m) 0 (List.replicate r q) a) 65537
 |0,i,a,n,h,aC,an,br=>by
  simp only[gd]at h |-;cases hu:decide (hi=-1)with
  |true=>rw[hu]at h;cases h
  |false=>
   have bK:=dj hu;refine⟨0,.stop ?_,trivial,rfl,rfl⟩;rcases br with br | br;·exact absurd br bK
   ·rw[<-br,nj]
 |j+1,i,a,n,h,aC,an,br=>by
  have e:eT z m q (a-0)=lv (m q a):=sf aC;have c7:(i:Int)≠hi:=by
   rcases br with br | br<;>omega
  cases ab:Nat.beq (m q a).aG 2 with
  |true=>
   simp only[gd,ab,bl]at h |-;cases av:decide ((i:Int)<lo)with
   |true=>rw[av]at h;cases h| false=>exact⟨0,.fail c7 (by rw[e];exact c6 ab),trivial,rfl,rfl⟩
  |false=>
   cases ag:Nat.beq (m q a).aG 3 with
   |false=>simp only[gd,ab,ag,bh]at h;cases h
   |true=>
    have bz:=c6 ag;obtain⟨a3,a6,bI⟩:=(hm q a).ge bz;simp only[gd,ab,ag,bh,bl]at h |-;cases hu:decide (hi=-1)&&decide ((m q a).a0=a)with
    |true=>rw[hu]at h;cases h
    |false=>
     rw[hu,bh]at h;rw[bh];obtain⟨r,i0,i1,i2,i3⟩:=Xk j (i+1) _ _ h (a6 aC) (by omega) (by rcases br with br | br;exact .inl br;exact .inr (by rw[<-br];omega));have qt:Nat.beq (lv (m q a)).aG 3=true:=ag;refine⟨r+1,?_,?_⟩
     ·have:=k2.more (kn:=eT z m) (be:=0) (k:=q) (hi:=hi) (t:=i) (a:=a) (by omega) c7 (by rw[e];exact bz) (by rw[e];exact i0);rw[e]at this;simp only[y1,k1,e,qt,bl];cases zu:Nat.beq (lv (m q a)).n 0<;>rw[zu]at this<;>exact this
     ·simp only[y1,allM,rf,mW,e,qt,bl];refine⟨⟨bz,i1⟩,i2,?_⟩;rw[i3];show min (gx n (m q a).n+mW (eT z m) 0 (List.replicate r q) (m q a).a0) 65537=min (n+(min (m q a).n 65537+mW (eT z m) 0 (List.replicate r q) (m q a).a0)) 65537;unfold gx;omega
end
structure vZ(P:dw)(k:Nat):Prop where
 ql:0<=(P.aO k).d.k
 one:(P.aO k).d.k=3\/6<=(P.aO k).d.k->∃ q,(P.aO k).cf=[q]
 lt:(P.aO k).d.k<10
 qd:(P.aO k).d.k=6->(P.aO k).d.hi=-1\/(0<=(P.aO k).d.hi/\(P.aO k).d.hi<=99)
def ah1{P:dw}(ai:P.be=0)(bf:P.s.size<=4096)(aq:∀ k,vZ P k)(hm:∀ q b,jL P.s.size b (m q b))(bs:nL 0 m λk a=>er P m k a)(au:zl P (eT P.s.size m)):zl P (eT P.s.size λk a=>er P m k a):=by
 intro k p ag;obtain⟨aD,he,ah⟩:=Kh (.inr ag);rw[he]at ag;have ag:(er P m k p).aG=3:=ag;have dz:=OR hm rfl k p;obtain⟨a3,a6,bI⟩:=dz.ge ag;have cG:p=p-P.be:=by rw[ai];rfl
 have Xl:=Xf (z:=P.s.size) bs;have bj:=Xh hm rfl ai;have sg:=aq k;rw[ai,c0];have zero:(er P m k p).n=0->∃ n l,iD P (eT P.s.size λk a=>er P m k a) n [(k,p)] l/\lZ l (eT P.s.size (λk a=>er P m k a) k p).n/\mX p (eT P.s.size (λk a=>er P m k a) k p).a0 l:=λar=>by refine⟨1,[],.zero (by rw[<-cG,he];exact ag) (by rw[<-cG,he];show min (er P m k p).n 65537=0;omega) .nil,?_,.nil (by rw[he];exact a3)⟩;rw[he];show lZ [] (min (er P m k p).n 65537);rw[ar];exact⟨λ_=>rfl,λh=>by omega⟩
 have many:∀ (L:List Nat),ky P (eT P.s.size m) k p (k1 (eT P.s.size m) 0 L p)->allM (eT P.s.size m) 0 L p->(er P m k p).a0=rf (eT P.s.size m) 0 L p->min (er P m k p).n 65537=min ((if(P.aO k).d.k=9 then 1 else 0)+mW (eT P.s.size m) 0 L p) 65537 ->
   ∃ n l,iD P (eT P.s.size λk a=>er P m k a) n [(k,p)] l/\lZ l (eT P.s.size (λk a=>er P m k a) k p).n/\mX p (eT P.s.size (λk a=>er P m k a) k p).a0 l:=λL x1 m4 ah2 ah3=>by
  obtain⟨n0,dd,iE,hO,i'⟩:=VO bj au L p (by omega) (by rw[ai];exact m4);rw[ai]at iE hO i';have:=Xg Xl (k:=k) (pl:=p) (by rw[<-cG,he];exact ag) x1 iE hO (by rw[<-cG,he];show mX p (er P m k p).a0 dd;rw[ah2];exact i') (by rw[<-cG,he];exact ah3);rwa [<-cG]at this
 rcases Bb (P.aO k).d.k with e | e | e | e | e | e | e | e | e | ⟨ql,eg,cA,gu,jG,v0,Dx,Dy,Dz⟩
 ·refine zero ?_;rw[xO e]
 ·refine zero ?_;rw[xP e];cases P.s.data[p]? with
  |none=>rfl| some b=>cases ai:tg (P.aO k).d b.toNat<;>simp[ai,mV]
 ·refine zero ?_;rw[xQ e];cases preB P.s (P.aO k).d.t p<;>rfl
 ·obtain⟨q,aM⟩:=sg.one (.inl e);have lx:er P m k p=m q p:=by rw[xR e,aM];rfl
  have pz:eT P.s.size m q (p-0)=lv (m q p):=sf aD;rw[lx]at ag;have gv:(lv (m q p)).aG=3:=ag;refine many [q] ?_ ⟨by rw[pz];exact gv,trivial⟩ ?_ ?_;·unfold ky;rw[cb (by omega),cb (by omega),aM,ai];exact⟨⟨by rw[pz];exact gv,trivial⟩,rfl⟩
  ·rw[lx];simp only[rf,pz,gv];rfl
  ·rw[lx,cb (by omega)];simp only[mW,pz,gv];show min (m q p).n 65537=min (0+(min (m q p).n 65537+0)) 65537;omega
 ·have lx:er P m k p=h5 m (P.aO k).cf p 0:=xS e;rw[lx]at ag;obtain⟨i1,i2,i3⟩:=Xi hm _ _ _ ag aD;refine many (P.aO k).cf ?_ i1 (by rw[lx];exact i2) (by rw[lx,i3,cb (by omega)]);unfold ky;rw[cb (by omega),cb (by omega),ai];exact⟨i1,rfl⟩
 ·have lx:er P m k p=ie m (P.aO k).cf p:=xT e;have ah4:=ag;rw[lx]at ag;obtain⟨i1,q,i2,i3,i4⟩:=Xj _ _ ag aD;rw[i3]at ag;have pz:eT P.s.size m q p=lv (m q p):=sf aD;obtain⟨h0,rk,iE,hO,i'⟩:=au q p (by rw[pz];exact ag);rw[ai,c0]at iE i';have sM:∃ lP mv,iD P (eT P.s.size m) lP (mu (eT P.s.size m) 0 (P.aO k).cf p) mv/\lZ mv (lv (m q p)).n/\mX p (m q p).a0 mv:=by
   rw[i4];rw[pz]at hO i';cases zu:Nat.beq (lv (m q p)).n 0 with
   |true=>rw[bl];refine⟨0,[],.nil,?_,.nil i'.le⟩;rw[c6 zu];exact⟨λ_=>rfl,λh=>by omega⟩| false=>exact⟨h0,rk,iE,hO,i'⟩
  obtain⟨lP,mv,h4,fM,iF⟩:=sM;have ah5:ky P (eT P.s.size m) k p (mu (eT P.s.size m) 0 (P.aO k).cf p):=by unfold ky;rw[cb (by omega),cn e,ai];exact⟨i1,rfl⟩
  have:=Xg Xl (k:=k) (pl:=p) (by rw[<-cG,he];exact ah4) ah5 h4 fM (by rw[<-cG,he];show mX p (er P m k p).a0 mv;rw[lx,i3];exact iF) (by rw[<-cG,he,cb (by omega)];show min (er P m k p).n 65537=min (0+min (m q p).n 65537) 65537;rw[lx,i3];omega);rwa [<-cG]at this
 ·have lx:=uz (m:=m) (a:=p) e;rw[lx]at ag;have r8:=sg.qd e;obtain⟨r,i0,i1,i2,i3⟩:=Xk hm _ _ _ _ ag aD (by
    unfold Ba;cases hu:decide ((P.aO k).d.hi=-1)with
    |true=>rw[bl];omega| false=>rw[bh];have:=dj hu;omega) (by
    unfold Ba;rcases r8 with aa | aa;·exact .inl aa
    ·have:¬ (P.aO k).d.hi=-1:=by omega
     rw[de this,bh];exact .inr (by omega))
  refine many (List.replicate r ((P.aO k).cf.getD 0 0)) ?_ i1 (by rw[lx];exact i2) (by rw[lx,i3,cb (by omega)]);unfold ky;rw[cn e,ai];exact i0
 ·refine zero ?_;rw[xU e]at ag |-;cases m5:Nat.beq (m ((P.aO k).cf.getD 0 0) p).aG 3 with
  |true=>rfl| false=>rw[m5,bh]at ag;rw[ag]at m5;cases m5
 ·refine zero ?_;rw[xV e]at ag |-;cases gq:Nat.beq (m ((P.aO k).cf.getD 0 0) p).aG 2 with
  |true=>rfl
  |false=>
   rw[gq,bh]at ag;cases m5:Nat.beq (m ((P.aO k).cf.getD 0 0) p).aG 3<;>rw[m5]at ag<;>cases ag
 ·have NF:6<=(P.aO k).d.k:=by have:=sg.ql;omega
  obtain⟨q,aM⟩:=sg.one (.inr NF);have lx:=xW (m:=m) (a:=p) ql eg cA gu jG v0 Dx Dy Dz;rw[aM]at lx;have pz:eT P.s.size m q (p-0)=lv (m q p):=sf aD;have GF:([q]:List Nat).getD 0 0=q:=rfl;rw[GF]at lx;cases m5:Nat.beq (m q p).aG 3 with
  |false=>rw[lx,m5,bh]at ag;rw[ag]at m5;cases m5
  |true=>
   rw[m5,bl]at lx;have gv:(lv (m q p)).aG=3:=c6 m5;refine many [q] ?_ ⟨by rw[pz];exact gv,trivial⟩ ?_ ?_;·unfold ky;rw[cb (by omega),cb (by omega),aM,ai];exact⟨⟨by rw[pz];exact gv,trivial⟩,rfl⟩
   ·rw[lx];simp only[rf,pz,gv];rfl
   ·rw[lx];have fe:(P.aO k).d.k=9:=by have:=sg.lt;omega
    rw[cn fe];simp only[mW,pz,gv];exact ah0 (m q p).n
noncomputable def dX(P:dw):Nat->Nat->dg:=eT P.s.size (cO P)
def Xm{P:dw}(ai:P.be=0)(bf:P.s.size<=4096)(aq:∀ k,vZ P k):zl P (dX P):=by
 have step:∀ n,zl P (eT P.s.size (g' P n)):=λn=>by
  induction n with
  |zero=>intro k p ag;obtain⟨-,-,ah⟩:=Kh (.inr ag);exact absurd ah rm
  |succ n a7=>exact ah1 ai bf aq (Ke P n) (OS P n) a7
 intro k p ag;obtain⟨aD,he,ah⟩:=Kh (.inr ag);obtain⟨n,aq⟩:=rn ah;have e:eT P.s.size (g' P n) k p=eT P.s.size (cO P) k p:=by rw[sf aD,sf aD,aq]
 obtain⟨h0,l,iE,hO,i'⟩:=step n k p (by rw[e];exact ag);rw[e]at hO i';exact⟨h0,l,iE.le (Xf (WT P n)),hO,i'⟩
def Xn{P:dw}(ai:P.be=0)(k p:Nat):zk P (P.be+p) (dX P k p):=Xh (zr P) rfl ai k p
structure ah6(P:dw)(f g:(Nat->Nat->dg)->dg):Prop where
 l:f (cO P)=g (cO P)
 d:∀ n,ff (f (g' P n))->ff (g (g' P n))
def O5(P:dw)(A:Nat->Nat->Prop)(f:(Nat->Nat->dg)->dg):Prop:=∀ n,ff (f (g' P n))->∃ k a eO,eO<=n/\A k a/\ff (g' P eO k a)
def O5.a0{P:dw}{A:Nat->Nat->Prop}{f g:(Nat->Nat->dg)->dg}(h:O5 P A g)(ay:ah6 P f g):O5 P A f:=λn ah=>h n (ay.d n ah)
section
end
section
end
section
variable{X:c3}{o:Oper}{F:Fr}{C:dp}{I:aZ}{M:List aB}{K:fX}
def bn.ah7(aN:c2 X.P X.E)(aw:o.op=.convert src dst x)(ah:∀ d,o.dst=some d->d<X.n)
 (ay:X.E src=some dk) (dW:dk.bE=.slice e) (he:X.E e=some aH) (lN:aH.bE=.int .u8) (lM:X.E dst=some Kg) (e5:Kg.bE=.string)
  {ad:Addr} {n:Nat} {l:List UInt8} (ae:bB F x=.val (.slice (some ad) n c)) (aq:l.length=n) (bk:cr I M ad n (l.map λb=>.int .u8 b.toNat))
  (h:K (put o.dst (.val (.string ⟨l.toArray⟩)) F) C I M):bn X o F C I M K:=by
 subst aq;refine⟨λa w Q ⟨β,a5⟩=>?_⟩;obtain⟨ap,cs,T,al,af,aj,av⟩:=bk;have au:=af.heap a5.holds;obtain⟨d,fk,ft⟩:=(aN _ _ ay).fi;have aa:d=.slice e:=by rw[dW]at ft;cases d<;>simp_all[e8]
 subst aa;obtain⟨d2,O6,mq⟩:=(aN _ _ he).fi;have ab:d2=.int .u8:=by rw[lN]at mq;cases d2<;>simp_all[e8]
 subst ab;obtain⟨d3,O7,C4⟩:=(aN _ _ lM).fi;have ag:d3=.string:=by rw[e5]at C4;cases d3<;>simp_all[e8]
 subst ag;have aA:∀ j (an:j<l.length),w.cell? (ad.add j)=some (.int .u8 (l[j].toNat:Int)):=by
  intro j an;rw[dL ad ap,sL au];have hW:(l.map λb=>Value.int .u8 b.toNat)[j]?=some (.int .u8 (l[j].toNat:Int)):=by simp[an]
  rw[<-aj,j9,cn an,nZ]at hW;simpa using hW
 have ex:=dh a5.al ae;refine vc a5 ah (by rw[aw];simp) ?_ h;unfold execOp;simp only[aw,cm,c9,ex,run_convert_bytes_back w src dst e ad c l fk O6 O7 aA,b3]
end
section
variable{X:c3}{F:Fr}{C:dp}{I:aZ}{M:List aB}{o:Oper}{K:fX}
def bn.ah8(aN:c2 X.P X.E)(aw:o.op=.convert src dst x)(ah:∀ d,o.dst=some d->d<X.n)
 (ay:X.E src=some dk) (dW:dk.bE=.slice e) (he:X.E e=some aH) (lN:aH.bE=.int .u8) (lM:X.E dst=some Kg) (e5:Kg.bE=.string)
 (ae:bB F x=.val (.slice none 0 c))
  (h:K (put o.dst (.val (.string ⟨#[]⟩)) F) C I M):bn X o F C I M K:=by
 refine⟨λa w Q ⟨β,a5⟩=>?_⟩;obtain⟨d,fk,ft⟩:=(aN _ _ ay).fi;have aa:d=.slice e:=by rw[dW]at ft;cases d<;>simp_all[e8]
 subst aa;obtain⟨d2,O6,mq⟩:=(aN _ _ he).fi;have ab:d2=.int .u8:=by rw[lN]at mq;cases d2<;>simp_all[e8]
 subst ab;obtain⟨d3,O7,C4⟩:=(aN _ _ lM).fi;have ag:d3=.string:=by rw[e5]at C4;cases d3<;>simp_all[e8]
 subst ag;have ex:=dh a5.al ae;refine vc a5 ah (by rw[aw];simp) ?_ h;unfold execOp;have eV:(convert src dst (.slice none 0 c)).run X.P w=.ok (.string ⟨#[]⟩) w:=by rw[run_convert_bytes_string w src dst e none 0 c fk O6 O7];rfl
 simp only[aw,cm,c9,ex,eV,b3]
end
def a9.whole{P:Program}{f:Nat}(post:Value->aZ->List aB->Prop)(ap:Spec P f args I M post)(k:∀ v I' M',(∀ b o,I b=some o->I' b=some o)->post v I' M'->K v I' M'):a9 cq P f args I M K:=
 .mk M [] post (by simp) ap λv I' M' aa ab=>by rw[eh];exact k v I' M' aa ab
def hf.whole{soft:Bool}{P:Program}{f:Nat}(post:Value->aZ->List aB->Prop)(ap:Spec P f args I M post)(mI:∀ v I' M',post v I' M'->∀ x∈M,x∈M')(k:∀ v I' M',(∀ b o,I b=some o->I' b=some o)->post v I' M'->K v I' M'):hf soft cq P f args I M K:=
 .o5 M [] post (by simp) ap mI λv I' M' aa ab=>by rw[eh];exact k v I' M' aa ab
def hf.ah9{P:Program}{f:Nat}(post:Value->aZ->List aB->Prop)(ap:Spec P f args I M post)(k:∀ v I' M',(∀ b o,I b=some o->I' b=some o)->post v I' M'->K v I' M'):hf true cq P f args I M K:=
 .Tl rfl M [] post (by simp) ap λv I' M' aa ab=>by rw[eh];exact k v I' M' aa ab
section
variable{X:c3}{β:Nat->Nat}{a:Act}{w:World}{F:Fr}{C:dp}{I:aZ}{M:List aB}{o:Oper}{K:fX}
def jd.pH{M':List aB}(h:M=M'):jd cq I M I M':=by subst h;exact .refl
def bn.h8(h:bn X o F C I M λF C I M=>∃ I' M',jd X.cq I M I' M'/\K F C I' M'):bn X o F C I M K:=by obtain⟨h⟩:=h;refine⟨λa w Q a5=>sE ?_ (h a w Q a5)⟩;rintro bY w'⟨cH,C',I',M',⟨β,ak⟩,ev,ez,hw,af⟩;exact⟨cH,C',ev,ez,⟨β,ak.h8 hw⟩,af⟩
def bn.uB(aN:c2 X.P X.E){s:Operand}(aw:o.op=.call { callee:=.builtin .append,args:=#[s,x],argTypes:=#[t,t] })(ah:∀ d,o.dst=some d->d<X.n)
 (ay:X.E t=some dk) (dW:dk.bE=.slice e) (he:X.E e=some aH)
  (os:a') (bj:os.ok aH.size xs) (ap:bB F s=.val os.val)
 {cs:List Value} (ae:bB F x=.val (.slice (some ⟨bW,0,none⟩) 1 c')) (av:cs.length=aH.size) (aa:fO cs=true)
  (bc post:List aB) (a1:M=⟨bW,.cells cs.toArray e (0,0)⟩::(bc++(os.aP e++post))) (b1:os.n+1<=9223372036854775807) (cd:(os.n+1)*aH.bytes<=140737488355328)
  (k:∀ cz:a',cz.n=os.n+1->(∀ g,cz.a=some g->I g=none)->cz.ok aH.size (xs++cs)->K (put o.dst (.val cz.val) F) C I (bc++(cz.aP e++post))):bn X o F C I M K:=by
 refine .h8 (.I5 aN aw ah ay dW he os bj ap (m:=1) (bV:=cs) ae (by decide) ?_ aa (Mr:=⟨bW,.cells cs.toArray e (0,0)⟩::(bc++post)) ?_ (by unfold maxLen;exact b1) cd ?_)
 ·rw[p6];refine⟨rfl,_,_,_,.inr ⟨⟨bW,.cells cs.toArray e (0,0)⟩,by rw[a1];exact .head _,rfl,rfl⟩,?_,av⟩;simp only[sX];exact eW (by omega)
 ·rw[a1];have ab:(⟨bW,.cells cs.toArray e (0,0)⟩::(bc++(os.aP e++post)):List aB).Perm (⟨bW,.cells cs.toArray e (0,0)⟩::(os.aP e++(bc++post))):=.cons _ (zg _ _ _);exact ab.trans qk.symm
 ·intro g c aK bA ej ed fJ gI;refine⟨I,bc++((⟨some g,os.n+1,c,aK⟩:a').aP e++post),.sub (M1:=⟨g,.cells aK.toArray e (0,0)⟩::(bc++post)) (.cons_cons _ (.cons _ (.refl _))) (.perm ?_ .refl),k ⟨some g,os.n+1,c,aK⟩ rfl (λdv au=>by cases au;exact bA) ⟨?_,(λh=>by cases h),λdv au=>?_⟩⟩
  ·exact qk.symm
  ·rw[cI,bj.len,av,kS,p6]
  ·cases au;exact⟨ej,ed,fJ,gI⟩
def bn.Ki(aN:c2 X.P X.E){s:Operand}(aw:o.op=.call { callee:=.builtin .append,args:=#[s,x],argTypes:=#[t,t] })(ah:∀ d,o.dst=some d->d<X.n)
 (ay:X.E t=some dk) (dW:dk.bE=.slice e) (he:X.E e=some aH)
  (os:a') (bj:os.ok aH.size xs) (ap:bB F s=.val os.val)
  {sa:Option Addr} {m:Nat} (ae:bB F x=.val (.slice sa m c')) (av:bV.length=m*aH.size) (aq:0<m->∃ ad,sa=some ad/\cr I M ad (m*aH.size) bV) (aa:fO bV=true)
  (bc post:List aB) (a1:M=bc++(os.aP e++post)) (b1:os.n+m<=9223372036854775807) (cd:(os.n+m)*aH.bytes<=140737488355328)
  (k:∀ cz:a',cz.n=os.n+m->(0<m->∀ g,cz.a=some g->I g=none)->cz.ok aH.size (xs++bV)->K (put o.dst (.val cz.val) F) C I (bc++(cz.aP e++post))):bn X o F C I M K:=by
 by_cases ar:m=0
 ·subst ar;have n9:bV=[]:=jh (by simpa using av);subst n9;refine .Np aN aw ah ay dW ay (λk=>by rw[dW];simp) he (sa:=os.a.map λg=>⟨g,0,none⟩) (n:=os.n) (c:=os.c) ap ?_ ae (.inl ⟨_,_,rfl⟩) ?_
  ·cases aC:os.a with
   |none=>obtain⟨ej,ed⟩:=bj.nil aC;omega
   |some g=>exact(bj.cap g aC).2.1
  ·have:=k os rfl (λh=>by omega) (by rw[eh];exact bj);rw[a1];exact this
 obtain⟨ad,rfl,bk⟩:=aq (by omega);refine .h8 (.I5 aN aw ah ay dW he os bj ap (m:=m) (bV:=bV) ae (by omega) bk aa (Mr:=bc++post) ?_ (by unfold maxLen;exact b1) cd ?_)
 ·rw[a1];exact(zg _ _ _)
 ·intro g c aK bA ej ed fJ gI;refine⟨I,bc++((⟨some g,os.n+m,c,aK⟩:a').aP e++post),.perm ?_ .refl,k ⟨some g,os.n+m,c,aK⟩ rfl (λ_ dv au=>by cases au;exact bA) ⟨?_,(λh=>by cases h),λdv au=>?_⟩⟩
  ·exact qk.symm
  ·rw[cI,bj.len,av,kS]
  ·cases au;exact⟨ej,ed,fJ,gI⟩
end
def Xo(bc mid post:List Value)(k:Nat)(vs:List Value)(h:k+vs.length<=mid.length):bo (bc++(mid++post)) (bc.length+k) vs=bc++(bo mid k vs++post):=by
 unfold bo;have aa:(bc++(mid++post)).take (bc.length+k)=bc++mid.take k:=by rw[O4,OZ,eW (by omega),CB (by omega)]
 have ab:(bc++(mid++post)).drop (bc.length+k+vs.length)=mid.drop (k+vs.length)++post:=by rw[qL,TL,Xe h]
 rw[aa,ab];simp
def O8(f:α->List Value)(size:Nat)(aJ:∀ x,(f x).length=size)(l:List α)(i:Nat)(hi:i<l.length)(k:Nat)(vs:List Value)(af:k+vs.length<=size)(kc:α)(ae:bo (f l[i]) k vs=f kc) :
  bo (l.flatMap f) (i*size+k) vs=(l.set i kc).flatMap f:=by
 have e:l=l.take i++l[i]::l.drop (i+1):=by rw[<-eE hi,sV]
 have az:l.flatMap f=(l.take i).flatMap f++(f l[i]++(l.drop (i+1)).flatMap f):=by
  calc l.flatMap f=(l.take i++l[i]::l.drop (i+1)).flatMap f:=congrArg _ e
   _=_:=by rw[lS,ob]
 have aE:((l.take i).flatMap f).length=i*size:=by rw[fQ f size aJ,CP (by omega)]
 rw[az,<-aE,Xo _ _ _ _ _ (by rw[aJ];exact af),Fl,cn hi,lS,ob,ae]
def aia{m:Nat}(h:j+vs.length<=m)(hm:m<=aK.length):(bo aK j vs).take m=bo (aK.take m) j vs:=by
 unfold bo;have aa:(aK.take m).take j=aK.take j:=by rw[rU,rI (by omega)]
 have ab:(aK.take m).drop (j+vs.length)=(aK.drop (j+vs.length)).take (m-(j+vs.length)):=by rw[xj]
 have ag:(aK.take j).length=j:=by rw[hh];omega
 rw[aa,ab,fq,fq,O4,ag,eW (by omega),O4,eW (by omega:vs.length<=m-j)];congr 3;omega
def a'.put(f:α->List Value)(size:Nat)(aJ:∀ x,(f x).length=size){l:List α}(h:os.ok size (l.flatMap f))(hi:i<l.length)(k:Nat)(af:k+vs.length<=size)(aa:fO vs=true)(kc:α)(ae:bo (f l[i]) k vs=f kc)(bc post:List aB)(a1:M=bc++(os.aP e++post)){g off:Nat}(au:os.a=some g)(aib:off=i*size+k){K:List aB->Prop}
  (fG:∀ (cz:a'),cz.val=os.val->cz.a=os.a->cz.n=os.n->cz.ok size ((l.set i kc).flatMap f)->K (bc++(cz.aP e++post))):cp M ⟨g,off,none⟩ vs K:=by
 have Co:=h.len;rw[fQ f size aJ]at Co;obtain⟨a,n,c,aK⟩:=os;have av:l.length*size=n*size:=Co;simp only at au;subst au;obtain⟨ej,ed,fJ,gI⟩:=h.cap g rfl;simp only at ej ed fJ gI;have ai:n*size<=c*size:=rH _ ed;have hV:i*size+size<=l.length*size:=by have:=rH size (show i+1<=l.length from hi);rwa [kS,p6]at this
 subst a1;subst aib;refine cp.mk bc post aK.toArray e rfl rfl ?_ aa ?_
 ·simp only[mE];omega
 ·have:=fG ⟨some g,n,c,bo aK (i*size+k) vs⟩ rfl rfl rfl ⟨?_,(λh=>by cases h),λdv au=>?_⟩
  ·simpa[a'.aP]using this
  ·rw[fQ f size aJ,lT];exact av
  ·cases au;refine⟨?_,ed,fJ,?_⟩
   ·simp only[bo,cI,hh,pb];omega
   ·simp only;rw[aia (by omega) (by omega),gI,O8 f size aJ l i hi k vs af kc ae]
def Xp(l:List Value)(k:Nat)(v:Value)(h:k<l.length):bo l k [v]=l.set k v:=by rw[Fl,cn h];simp[bo]
def a'.Kj(f:α->List Value)(size:Nat)(aJ:∀ x,(f x).length=size){l:List α}(h:os.ok size (l.flatMap f))(hi:i<l.length)(kc:α)(aa:fO (f kc)=true)(bc post:List aB)(a1:M=bc++(os.aP e++post)){ad:Addr}(bF:(os.a.map λg=>(⟨g,0,none⟩:Addr))=some ad){K:List aB->Prop}
  (fG:∀ (cz:a'),cz.val=os.val->cz.a=os.a->cz.n=os.n->cz.ok size ((l.set i kc).flatMap f)->K (bc++(cz.aP e++post))):cp M (ad.add (i*size)) (f kc) K:=by
 obtain⟨g,au,rfl⟩:∃ g,os.a=some g/\ad=⟨g,0,none⟩:=by
  cases aC:os.a with
  |none=>rw[aC]at bF;cases bF| some g=>rw[aC]at bF;cases bF;exact⟨g,rfl,rfl⟩
 rw[dL (⟨g,0,none⟩:Addr) rfl];refine a'.put f size aJ h hi 0 (vs:=f kc) (by rw[aJ];omega) aa kc ?_ bc post a1 au (by simp) fG;unfold bo;simp[aJ]
def a'.Xq(f:α->List Value)(size:Nat)(aJ:∀ x,(f x).length=size){l:List α}(h:os.ok size (l.flatMap f))(hi:i<l.length)(k:Nat)(af:k+vs.length<=size)(aa:fO vs=true)(kc:α)(ae:bo (f l[i]) k vs=f kc)(bc post:List aB)(a1:M=bc++(os.aP e++post)){ad:Addr}(bF:(os.a.map λg=>(⟨g,0,none⟩:Addr))=some ad){K:List aB->Prop}
  (fG:∀ (cz:a'),cz.val=os.val->cz.a=os.a->cz.n=os.n->cz.ok size ((l.set i kc).flatMap f)->K (bc++(cz.aP e++post))):cp M ((ad.add (i*size)).add k) vs K:=by
 obtain⟨g,au,rfl⟩:∃ g,os.a=some g/\ad=⟨g,0,none⟩:=by
  cases aC:os.a with
  |none=>rw[aC]at bF;cases bF| some g=>rw[aC]at bF;cases bF;exact⟨g,rfl,rfl⟩
 rw[dL (⟨g,0,none⟩:Addr) rfl,dL _ rfl];exact a'.put f size aJ h hi k af aa kc ae bc post a1 au (by simp) fG
open Go Go.Proofs
def dg.cells(c:dg):List Value:=[.int .i32 c.n,.int .i16 c.a0,.int .u8 c.aG]
def dg.cD(c:dg):c.cells.length=3:=rfl
def uw.cells(f:uw):List Value:=[.int .i32 f.bT,.int .i32 f.pl,.int .i32 f.g9,.int .i32 f.a0,.int .i32 f.n]
def uw.cD(f:uw):f.cells.length=5:=rfl
structure tr where
 d:aS
 a:Option Addr
 n:Nat
 c:Nat
 cf:List Nat
def tr.cells(x:tr):List Value:=x.d.cells++[.slice x.a x.n x.c]
def tr.cD(x:tr):x.cells.length=10:=rfl
structure tr.ok(I:aZ)(x:tr):Prop where
 d:x.d.ok I
 a8:eB I x.a x.n x.c 1 8 (x.cf.map λ(k:Nat)=>Value.int .i64 (k:Int))
def tr.pn(x:tr):qm:=⟨x.d,x.cf⟩
structure GG where
 xs:List tr
 a:Option Addr
 n:Nat
 c:Nat
structure GG.ok(I:aZ)(x:GG):Prop where
 a8:eB I x.a x.n x.c 10 0 (x.xs.flatMap tr.cells)
 xs:∀ y∈x.xs,y.ok I
def GG.ok.n{x:GG}(h:x.ok I):x.xs.length=x.n:=by have:=h.a8.len;rw[fQ _ 10 tr.cD]at this;omega
structure dI where
 iX:Nat
 O9:Nat
 s:ByteArray
 be:Nat
 eL:Nat
 ns:GG
def dI.jM(m:dI):dw:=⟨m.ns.xs.map tr.pn,m.s,m.be⟩
def wrap_i32{x:Int}(aa:-2147483648<=x)(ab:x<=2147483647):IntKind.i32.wrap x=x:=by unfold IntKind.wrap;simp only[IntKind.bits,IntKind.signed];simp;omega
def a'.aO{f:α->List Value}(aJ:∀ x,(f x).length=size)(ar:0<size){l:List α}(h:os.ok size (l.flatMap f))(a1:∀ x∈os.aP e,x∈M){g:Nat}(au:os.a=some g)(hi:i<l.length):cr I M ⟨g,i*size,none⟩ size (f l[i]):=by obtain⟨ad,bF,bk⟩:=a'.ok.row (I:=I) (M:=M) (e:=e) aJ ar h a1 hi;rw[au]at bF;cases bF;rwa [dL _ rfl,c0]at bk
structure Xr(os:a')(bb:List uw)(f:uw)(g:Nat):Prop where
 a:os.a=some g
 ok:os.ok 5 ((bb++[f]).flatMap uw.cells)
section
end
def aic{w:Int}(hw:gi w)(k:Nat):decide (IntKind.u64.wrap ((BitVec.ofInt 64 (w.fdiv (2^k)) &&& BitVec.ofInt 64 1).toNat:Int)=1)=w.toNat.testBit k:=by
 obtain⟨n,rfl⟩:=h' hw.1;have aq:n<18446744073709551616:=by have:=hw.2;omega
 have az:((n:Int)).fdiv (2^k)=((n/2^k:Nat):Int):=by rw[Fm _ (by exact Int.le_of_lt (Int.pow_pos (by decide)))];simp
 rw[az];have aE:(BitVec.ofInt 64 ((n/2^k:Nat):Int) &&& BitVec.ofInt 64 1).toNat=n/2^k%2:=by
  have aa:BitVec.ofInt 64 ((n/2^k:Nat):Int)=BitVec.ofNat 64 (n/2^k):=(show ∀ m:Nat,BitVec.ofInt 64 (m:Int)=BitVec.ofNat 64 m from λm=>by simp) _;have ab:BitVec.ofInt 64 1=BitVec.ofNat 64 1:=by decide
  rw[aa,ab,Fp,Du,Du];have ag:n/2^k%2^64=n/2^k:=Kf (Nat.lt_of_le_of_lt (Nat.div_le_self _ _) aq);rw[ag,show 1%2^64=1 by decide,Nat.and_one_is_mod]
 rw[aE];have bz:IntKind.u64.wrap ((n/2^k%2:Nat):Int)=((n/2^k%2:Nat):Int):=by have:n/2^k%2<2:=Gf _ (by decide);unfold IntKind.wrap;simp only[IntKind.bits,IntKind.signed];simp;omega
 rw[bz,qK,Xd,oY];simp only[eU];omega
def aid{a b c d:Int}(ta:∀ x∈[a,b,c,d],gi x)(x:UInt8):Spec Tryz.prog 14 [.agg #[.int .u64 a,.int .u64 b,.int .u64 c,.int .u64 d],.int .u8 x.toNat] I M
  λv I' M'=>v=.bool (([a,b,c,d].getD (x.toNat/64) 0).toNat.testBit (x.toNat%64))/\I'=I/\M'=M:=by
 refine bN [] aV Tryz.func14 rfl rfl rfl ?_;intro B ar;have ae:x.toNat<256:=x.toNat_lt;refine tO.mk (by decide) ?_;refine bd.mk ((x.toNat/64:Nat):Int) (by
  have:((x.toNat:Int)).tdiv 64=((x.toNat/64:Nat):Int):=by simp[OY]
  rw[this];unfold IntKind.wrap;simp only[IntKind.bits,IntKind.signed];simp;omega) ?_
 have an:x.toNat/64=0\/x.toNat/64=1\/x.toNat/64=2\/x.toNat/64=3:=by omega
 have xI:((x.toNat:Int)).tmod 64=((x.toNat%64:Nat):Int):=by rw[Int.tmod_eq_emod_of_nonneg (by omega)];simp
 have xl:min (x.toNat%64) 64=x.toNat%64:=by omega
 have fin:∀ w:Int,gi w->Value.bool (decide (IntKind.u64.wrap ((BitVec.ofInt 64 (w.fdiv (2^(min (x.toNat%64) 64))) &&& BitVec.ofInt 64 1).toNat:Int)=1))=.bool (w.toNat.testBit (x.toNat%64)):=λw hw=>by rw[xl,aic hw]
 rcases an with e | e | e | e<;>rw[e]
 ·refine dV.mk 0 rfl (by decide) ?_;refine tO.mk (by decide) ?_;refine rK.mk _ xI ?_;exact⟨_,_,.refl,fin a (ta a (by simp)),rfl,rfl⟩
 ·refine dV.mk 1 rfl (by decide) ?_;refine tO.mk (by decide) ?_;refine rK.mk _ xI ?_;exact⟨_,_,.refl,fin b (ta b (by simp)),rfl,rfl⟩
 ·refine dV.mk 2 rfl (by decide) ?_;refine tO.mk (by decide) ?_;refine rK.mk _ xI ?_;exact⟨_,_,.refl,fin c (ta c (by simp)),rfl,rfl⟩
 ·refine dV.mk 3 rfl (by decide) ?_;refine tO.mk (by decide) ?_;refine rK.mk _ xI ?_;exact⟨_,_,.refl,fin d (ta d (by simp)),rfl,rfl⟩
def DA(s t:ByteArray):Bool:=decide (t.size<=s.size)&&decide (s.extract 0 t.size=t)
def aie(s t:ByteArray):Spec Tryz.prog 223 [.string s,.string t] I M λv I' M'=>v=.bool (DA s t)/\I'=I/\M'=M:=by
 refine bN [] aV Tryz.func223 rfl rfl rfl ?_;intro B ar;have ah:decide ((t.size:Int)<=(s.size:Int))=decide (t.size<=s.size):=by rw[oY];simp only[eU];omega
 refine b4.mk (λh=>?_) (λh=>?_)
 ·have aX:(t.size:Int)<=(s.size:Int):=c1 h;refine ik.mk 0 t.size rfl rfl (bw _) (by omega) ?_;refine⟨_,_,.refl,?_,rfl,rfl⟩;rw[DA,<-ah,show decide ((t.size:Int)<=(s.size:Int))=true from h,pd]
 ·refine⟨_,_,.refl,?_,rfl,rfl⟩;rw[DA,<-ah,show decide ((t.size:Int)<=(s.size:Int))=false from h,sY]
def aif(s t:ByteArray):Spec Tryz.prog 187 [.string s,.string t] I M λv I' M'=>v=.bool (DA s t)/\I'=I/\M'=M:=by refine bN [] aV Tryz.func187 rfl rfl rfl ?_;intro B ar;refine a9.whole _ (aie s t) ?_;rintro v I' M' -⟨rfl,rfl,rfl⟩;exact⟨_,_,.refl,rfl,rfl,rfl⟩
def aih(s t:ByteArray){a:Nat}(aC:a<=s.size):DA (s.extract a s.size) t=preB s t a:=by
 have aa:(s.extract a s.size).size=s.size-a:=by simp[MU]
 unfold DA preB;rw[aa];by_cases h:t.size<=s.size-a
 ·have aE:(s.extract a s.size).extract 0 t.size=s.extract a (a+t.size):=by rw[ByteArray.extract_extract];congr 1;omega
  rw[aE,eN h,eN (by omega:a+t.size<=s.size)]
 ·rw[de h,de (by omega:¬ a+t.size<=s.size)];rfl
def aS.Bh(d:aS):aS:=⟨d.k,d.dT,d.s1,d.s2,d.ec,d.t,d.lo,d.hi,none,0,0,[]⟩
def aS.pn(d:aS):qm:=⟨d.Bh,d.aL.map Int.toNat⟩
def cv.cells(c:cv):List Value:=[.int .i64 c.n,.int .i32 c.a0,.int .u8 c.aG,.int .u8 c.g9]
def cv.val(c:cv):Value:=.agg #[.int .i64 c.n,.int .i32 c.a0,.int .u8 c.aG,.int .u8 c.g9]
def cv.cD(c:cv):c.cells.length=4:=rfl
structure d' where
 bt:Nat
 s:ByteArray
 nv:Value
 rv:Value
 kz:List aS
 na:Option Addr
 nn:Nat
 nc:Nat
 DB:Option Addr
 hj:Nat
 rows:List Addr
 n0:Nat
 fp:Nat
def d'.w(t:d'):Nat:=t.s.size+1
def d'.P(t:d'):dw:=⟨t.kz.map aS.pn,t.s,0⟩
def d'.cE(t:d'):List Value:=[.string t.s,t.nv,t.rv,.slice t.na t.nn t.nc,.slice t.DB t.nn t.hj]
def m6(T:Nat->Nat->cv)(k w:Nat):List Value:=(List.range w).flatMap λa=>(T k a).cells
def d'.cs(t:d')(T:Nat->Nat->cv):List Value:=(List.range (t.nn-t.n0)).flatMap λj=>m6 T (t.n0+j) t.w
def d'.aP(t:d')(T:Nat->Nat->cv):aB:=⟨t.fp,.cells (t.cs T).toArray 107 (0,0)⟩
structure d'.ok(I:aZ)(t:d')(T:Nat->Nat->cv):Prop where
 aG:I t.bt=some (.cells t.cE.toArray 91 (0,0))
 ns:eB I t.na t.nn t.nc 9 96 (t.kz.flatMap aS.cells)
 kz:∀ y∈t.kz,y.ok I
 Xs:∀ y∈t.kz,y.t.size<=4096
 Xt:∀ y∈t.kz,∀ x∈y.aL,0<=x/\x.toNat<t.nn
 rw:eB I t.DB t.nn t.hj 1 24 (t.rows.map λa=>Value.slice (some a) t.w t.w)
 eY:∀ a∈t.rows,a.spot=none
 du:∀ k (h:k<t.rows.length),k<t.n0->∃ cs gL al,I t.rows[k].block=some (.cells cs gL al)/\(cs.toList.drop t.rows[k].off).take (t.w*4)=m6 T k t.w
 new:∀ k (h:k<t.rows.length),t.n0<=k->t.rows[k]=⟨t.fp,(k-t.n0)*(t.w*4),none⟩
 sz:t.s.size<=4096
 many:t.nn<=4096
def Bi(T:Nat->Nat->cv)(k w:Nat):(m6 T k w).length=w*4:=by unfold m6;rw[fQ _ 4 λa=>rfl,se]
def Xu(T:Nat->Nat->cv)(k w:Nat){a:Nat}(aC:a<w):((m6 T k w).drop (a*4)).take 4=(T k a).cells:=by unfold m6;rw[xm _ 4 (λa=>rfl) _ a (by rw[se];exact aC),r']
def d'.aii(t:d')(T:Nat->Nat->cv):(t.cs T).length=(t.nn-t.n0)*(t.w*4):=by unfold d'.cs;rw[fQ _ (t.w*4) λj=>Bi T _ t.w,se]
section
variable{I:aZ}{t:d'}{T:Nat->Nat->cv}
def d'.ok.nn(h:t.ok I T):t.kz.length=t.nn:=by have:=h.ns.len;rw[fQ _ 9 aS.cD]at this;omega
def d'.ok.O'(h:t.ok I T):t.rows.length=t.nn:=by have:=h.rw.len;rw[c8]at this;omega
def d'.ok.ha(h:t.ok I T)(an:j<5):cr I M ((⟨t.bt,0,none⟩:Addr).add j) 1 [t.cE.getD j undef]:=by
 rw[dL _ rfl];refine⟨rfl,_,_,_,.inl h.aG,?_,rfl⟩
 match j,an with
 |0,_=>rfl| 1,_=>rfl| 2,_=>rfl| 3,_=>rfl| 4,_=>rfl
def d'.ok.aO(h:t.ok I T){k:Nat}(af:k<t.nn):∃ y,y∈t.kz/\t.P.aO k=y.pn/\y.ok I/\y.t.size<=4096/\(∀ x∈y.aL,0<=x/\x.toNat<t.nn)/\∃ ad,t.na=some ad/\∀ M,cr I M (ad.add (k*9)) 9 y.cells:=by
 have iI:k<t.kz.length:=by rw[h.nn];exact af
 obtain⟨ad,aa,ab⟩:=h.ns.row aS.cD af iI;have hm:=cJ iI;refine⟨t.kz[k],hm,?_,h.kz _ hm,h.Xs _ hm,h.Xt _ hm,ad,aa,ab⟩;simp[dw.aO,d'.P,cC,iI]
def aij(h:t.ok I T){k a:Nat}(af:k<t.nn)(ar:t.n0<=k)(aC:a<t.w):((t.cs T).drop ((k-t.n0)*(t.w*4)+a*4)).take 4=(T k a).cells:=by
 have aa:((t.cs T).drop ((k-t.n0)*(t.w*4))).take (t.w*4)=m6 T k t.w:=by unfold d'.cs;rw[xm _ (t.w*4) (λj=>Bi T _ t.w) _ (k-t.n0) (by rw[se];omega),r',zh ar]
 rw[<-Xu T k t.w aC,<-aa,xj,Ay,rU];congr 1;omega
def d'.ok.row(h:t.ok I T){k:Nat}(af:k<t.nn):∃ ad,t.DB=some ad/\∃ r:Addr,r.spot=none/\(∀ M,cr I M (ad.add (k*1)) 1 [.slice (some r) t.w t.w])/\(t.n0<=k->r=⟨t.fp,(k-t.n0)*(t.w*4),none⟩) /\
  ∀ M,(t.n0<t.nn->t.aP T∈M)->∀ a,a<=t.s.size->cr I M (r.add (a*4)) 4 (T k a).cells:=by
 have iI:k<t.rows.length:=by rw[h.O'];exact af
 obtain⟨ad,aa,ab⟩:=h.rw.one af iI;have ch:=h.eY _ (cJ iI);refine⟨ad,aa,t.rows[k],ch,ab,h.new k iI,λM a1 a aC=>?_⟩;have rq:a<t.w:=by show a<t.s.size+1;omega
 rw[dL _ ch];by_cases ar:k<t.n0
 ·obtain⟨cs,gL,al,az,aE⟩:=h.du k iI ar;refine⟨rfl,cs,gL,al,.inl az,?_,rfl⟩;rw[<-Xu T k t.w rq,<-aE,xj,Ay,rU];congr 1;omega
 ·rw[h.new k iI (by omega)];refine⟨rfl,(t.cs T).toArray,107,(0,0),.inr ⟨_,a1 (by omega),rfl,rfl⟩,?_,rfl⟩;exact aij h af (by omega) rq
end
def aik{x:Int}(aa:0<=x)(ab:x<=255):IntKind.u8.wrap x=x:=by unfold IntKind.wrap;simp only[IntKind.bits,IntKind.signed];simp;omega
section
variable{I:aZ}{M:List aB}
def zv(a:Nat)(aC:a<=100000):Spec Tryz.prog 208 [.int .i64 a] I M λv I' M'=>v=(oD a).val/\I'=I/\M'=M:=by refine bN [] aV Tryz.func208 rfl rfl rfl ?_;intro B ar;refine bd.mk (a:Int) (wrap_i32 (by omega) (by omega)) ?_;exact⟨_,_,.refl,rfl,rfl,rfl⟩
def Kk(a b:Nat)(aC:a<=1099511627776)(ai:b<=1099511627776):Spec Tryz.prog 210 [.int .i64 a,.int .i64 b] I M λv I' M'=>v=.int .i64 (gx a b)/\I'=I/\M'=M:=by refine bN [] aV Tryz.func210 rfl rfl rfl ?_;intro B ar;refine bd.mk ((a+b:Nat):Int) (gK (by simp) (by omega)) ?_;refine⟨_,_,.refl,?_,rfl,rfl⟩;show Value.int .i64 (min ((a+b:Nat):Int) 1099511627776)=_;rw[show min ((a+b:Nat):Int) 1099511627776=((gx a b:Nat):Int) by unfold gx;omega]
end
structure qu(I:aZ)(t:d')(T:Nat->Nat->cv)(M:List aB)(k a:Nat):Prop where
 ok:t.ok I T
 inv:ja t.P t.nn T
 bT:∀ k,k<t.nn->vY t.P t.nn k
 na:∀ k,vZ t.P k
 aP:t.n0<t.nn->t.aP T∈M
 k:k<t.nn
 a:a<=t.s.size
def qu.rg{t:d'}{T:Nat->Nat->cv}{k a:Nat}(h:qu I t T M k a){q b:Nat}(aM:q<t.nn)(ai:b<=t.s.size):(T q b).aG<=2/\(T q b).n<=1099511627776/\(T q b).a0<=t.s.size/\(T q b).g9<=99:=
 ⟨h.inv.aG q b,h.inv.rg q b aM ai⟩
section
variable{I:aZ}{t:d'}{T:Nat->Nat->cv}{M:List aB}{k a:Nat}
def GH(h:qu I t T M k a){q:Nat}(aM:(t.P.aO k).cf=[q]):Spec Tryz.prog 209 [ptr t.bt,.int .i64 k,.int .i64 a] I M λv I' M'=>q<t.nn/\v=(T q a).val/\I'=I/\M'=M:=by
 refine bN [] aV Tryz.func209 rfl rfl rfl ?_;intro B ar;have aw:=h.ok;obtain⟨y,aF,k4,jN,uC,hZ,ad,bF,bk⟩:=aw.aO h.k;have g7:y.aL.map Int.toNat=[q]:=by rw[k4]at aM;exact aM
 obtain⟨x,ae⟩:∃ x,y.aL=[x]:=by
  match af:y.aL,g7 with
  |[x],_=>exact⟨x,rfl⟩
 have fj:=hZ x (by rw[ae];exact .head _);have ail:x.toNat=q:=by rw[ae]at g7;simpa using g7
 have l0:q<t.nn:=by omega
 have dS:y.kn=1:=by have:=jN.kn;rw[ae]at this;exact this.symm
 obtain⟨fR,fS,e2⟩:=jN.a8.one (f:=λ(k:Int)=>Value.int .i64 k) (j:=0) (by omega) (by rw[ae];exact GD);have e2:∀ M,cr I M (fR.add (0*1)) 1 [.int .i64 q]:=λM=>by
  have:=e2 M;have e:y.aL[0]'(by rw[ae];exact GD)=(q:Int):=by simp only[ae];show x=_;omega
  rwa [e]at this
 obtain⟨eJ,iZ,r,ak,gF,-,k0⟩:=aw.row l0;refine c5.draw aV rfl rfl rfl ?_;refine aI.mk _ (aw.ha (j:=4) (by decide)) ?_;refine aI.mk _ (aw.ha (j:=3) (by decide)) ?_;refine bi.mk ad k bF rfl h.k ?_;refine aI.mk _ ((bk _).part (k:=8) (m:=1) (by decide)) ?_;refine bi.mk fR 0 fS rfl (by omega) ?_;refine aI.mk _ (e2 _) ?_;refine bi.mk eJ q iZ rfl l0 ?_;refine aI.mk _ (gF _) ?_;refine bi.mk r a rfl rfl (by show a<t.s.size+1;have:=h.a;omega) ?_;refine aI.mk _ (k0 _ h.aP a h.a) ?_;exact⟨_,_,.refl,l0,rfl,rfl,rfl⟩
def l1(I:aZ)(M:List aB)(t:d')(T:Nat->Nat->cv)(k a:Nat)(v:Value)(I':aZ)(M':List aB):Prop:=v=(dZ t.P T k a).val/\I'=I/\M'=M
def aim{P:dw}(h:(P.aO k).d.k=0):dZ P T k a=oD a:=by simp[dZ,h]
def ain{P:dw}(h:(P.aO k).d.k=1):dZ P T k a=match P.s.data[a]? with
  |some b=>bif tg (P.aO k).d b.toNat then oD (a+1)else vX| none=>vX:=by simp only[dZ,h];rfl
def aio{P:dw}(h:(P.aO k).d.k=2):dZ P T k a=bif preB P.s (P.aO k).d.t a then oD (a+(P.aO k).d.t.size)else vX:=by simp[dZ,h]
def aip{P:dw}(h:(P.aO k).d.k=3){q:Nat}(aM:(P.aO k).cf=[q]):dZ P T k a=T q a:=by simp[dZ,h,aM]
def aiq{P:dw}(h:(P.aO k).d.k=7){q:Nat}(aM:(P.aO k).cf=[q]):dZ P T k a=bif Nat.beq (T q a).aG 2 then oD a else⟨0,0,(T q a).aG,0⟩:=by simp[dZ,h,aM]
def air{P:dw}(h:(P.aO k).d.k=8){q:Nat}(aM:(P.aO k).cf=[q]):dZ P T k a=bif Nat.beq (T q a).aG 1 then oD a else bif Nat.beq (T q a).aG 2 then vX else jo:=by simp[dZ,h,aM]
def ais{P:dw}(h:(P.aO k).d.k=9){q:Nat}(aM:(P.aO k).cf=[q]):dZ P T k a=bif Nat.beq (T q a).aG 2 then { T q a with n:=gx (T q a).n 1 }else T q a:=by simp[dZ,h,aM]
def l2{x:Nat}{b:Bool}(h:decide ((x:Int)=(j:Int))=b):Nat.beq x j=b:=by
 cases b with
 |true=>
  have:=c1 h;obtain rfl:x=j:=by omega
  exact Nat.beq_refl x
 |false=>
  have:=dj h;rw[zi];exact λe=>by have:=c6 e;omega
def ait(h:qu I t T M k a)(af:(t.P.aO k).d.k=0):Spec Tryz.prog 138 [ptr t.bt,.int .i64 k,.int .i64 a] I M (l1 I M t T k a):=by refine bN [] aV Tryz.func138 rfl rfl rfl ?_;intro B ar;have aC:=h.a;have ap:=h.ok.sz;refine a9.whole _ (zv a (by omega)) ?_;rintro v I' M' -⟨rfl,rfl,rfl⟩;exact⟨_,_,.refl,by rw[aim af];rfl,rfl,rfl⟩
def aiu(h:qu I t T M k a)(af:(t.P.aO k).d.k=3):Spec Tryz.prog 141 [ptr t.bt,.int .i64 k,.int .i64 a] I M (l1 I M t T k a):=by obtain⟨q,aM⟩:=(h.na k).one (.inl af);refine bN [] aV Tryz.func141 rfl rfl rfl ?_;intro B ar;refine a9.whole _ (GH h aM) ?_;rintro v I' M' -⟨l0,rfl,rfl,rfl⟩;exact⟨_,_,.refl,by rw[aip af aM];rfl,rfl,rfl⟩
def aiv(h:qu I t T M k a)(af:(t.P.aO k).d.k=7):Spec Tryz.prog 145 [ptr t.bt,.int .i64 k,.int .i64 a] I M (l1 I M t T k a):=by
 obtain⟨q,aM⟩:=(h.na k).one (.inr (by omega));have aw:=aiq (T:=T) (a:=a) af aM;refine bN [] aV Tryz.func145 rfl rfl rfl ?_;intro B ar;have aC:=h.a;have ap:=h.ok.sz;refine a9.whole _ (GH h aM) ?_;rintro v I' M' -⟨l0,rfl,rfl,rfl⟩;refine aU.mk (λe=>?_) (λe=>?_)
 ·rw[l2 (j:=2) e,bl]at aw;refine a9.whole _ (zv a (by omega)) ?_;rintro v I' M' -⟨rfl,rfl,rfl⟩;exact⟨_,_,.refl,by rw[aw];rfl,rfl,rfl⟩
 ·rw[l2 (j:=2) e,bh]at aw;exact⟨_,_,.refl,by rw[aw];rfl,rfl,rfl⟩
def aiw(h:qu I t T M k a)(af:(t.P.aO k).d.k=8):Spec Tryz.prog 146 [ptr t.bt,.int .i64 k,.int .i64 a] I M (l1 I M t T k a):=by
 obtain⟨q,aM⟩:=(h.na k).one (.inr (by omega));have aw:=air (T:=T) (a:=a) af aM;refine bN [] aV Tryz.func146 rfl rfl rfl ?_;intro B ar;have aC:=h.a;have ap:=h.ok.sz;refine a9.whole _ (GH h aM) ?_;rintro v I' M' -⟨l0,rfl,rfl,rfl⟩;refine aU.mk (λe=>?_) (λe=>?_)
 ·rw[l2 (j:=1) e,bl]at aw;refine a9.whole _ (zv a (by omega)) ?_;rintro v I' M' -⟨rfl,rfl,rfl⟩;exact⟨_,_,.refl,by rw[aw];rfl,rfl,rfl⟩
 ·rw[l2 (j:=1) e,bh]at aw;refine aU.mk (λaE=>?_) (λaE=>?_)
  ·rw[l2 (j:=2) aE,bl]at aw;exact⟨_,_,.refl,by rw[aw];rfl,rfl,rfl⟩
  ·rw[l2 (j:=2) aE,bh]at aw;exact⟨_,_,.refl,by rw[aw];rfl,rfl,rfl⟩
def aix(h:qu I t T M k a)(af:(t.P.aO k).d.k=9):Spec Tryz.prog 147 [ptr t.bt,.int .i64 k,.int .i64 a] I M (l1 I M t T k a):=by
 obtain⟨q,aM⟩:=(h.na k).one (.inr (by omega));have aw:=ais (T:=T) (a:=a) af aM;refine bN [] aV Tryz.func147 rfl rfl rfl ?_;intro B ar;refine a9.whole _ (GH h aM) ?_;rintro v I' M' -⟨l0,rfl,rfl,rfl⟩;have ak:=h.rg l0 h.a;refine aU.mk (λe=>?_) (λe=>?_)
 ·rw[l2 (j:=2) e,bl]at aw;refine a9.whole _ (Kk (T q a).n 1 ak.2.1 (by omega)) ?_;rintro v I' M' -⟨rfl,rfl,rfl⟩;exact⟨_,_,.refl,by rw[aw];rfl,rfl,rfl⟩
 ·rw[l2 (j:=2) e,bh]at aw;exact⟨_,_,.refl,by rw[aw];rfl,rfl,rfl⟩
def aiy(h:qu I t T M k a)(af:(t.P.aO k).d.k=1):Spec Tryz.prog 139 [ptr t.bt,.int .i64 k,.int .i64 a] I M (l1 I M t T k a):=by
 have aw:=ain (T:=T) (a:=a) af;refine bN [] aV Tryz.func139 rfl rfl rfl ?_;intro B ar;have bj:=h.ok;have aC:=h.a;have ap:=bj.sz;obtain⟨y,aF,k4,jN,uC,hZ,ad,bF,bk⟩:=bj.aO h.k;rw[k4]at aw;have rc:t.P.s=t.s:=rfl;rw[rc]at aw;have dr:∀ b,tg y.pn.d b=tg y b:=λb=>rfl;refine c5.draw aV rfl rfl rfl ?_;refine aI.mk _ (bj.ha (j:=0) (by decide)) ?_;refine b4.mk (λg=>?_) (λg=>?_)
 ·have aR:a<t.s.size:=by have:(a:Int)<(t.s.size:Int):=c1 g;omega
  have az:t.s.data[a]?=some t.s[a]:=Ij aR;rw[az]at aw;refine aI.mk _ (bj.ha (j:=3) (by decide)) ?_;refine bi.mk ad k bF rfl h.k ?_;refine aI.mk _ ((bk _).part (k:=1) (m:=4) (by decide)) ?_;refine aI.mk _ (bj.ha (j:=0) (by decide)) ?_;refine yy.mk a rfl aR ?_;refine a9.whole _ (aid (a:=y.dT) (b:=y.s1) (c:=y.s2) (d:=y.ec) (λz bf=>by
   simp only[ef,List.not_mem_nil,or_false]at bf;rcases bf with rfl | rfl | rfl | rfl;·exact jN.dT
   ·exact jN.s1
   ·exact jN.s2
   ·exact jN.ec) t.s[a]) ?_
  rintro v I' M' -⟨rfl,rfl,rfl⟩;refine aU.mk (λaE=>?_) (λaE=>?_);·have br:tg y t.s[a].toNat=true:=aE;simp only[dr,br,bl]at aw;refine bd.mk ((a+1:Nat):Int) (gK (by simp) (by omega)) ?_;refine a9.whole _ (zv (a+1) (by omega)) ?_;rintro v I' M' -⟨rfl,rfl,rfl⟩;exact⟨_,_,.refl,by rw[aw];rfl,rfl,rfl⟩
  ·have br:tg y t.s[a].toNat=false:=aE;simp only[dr,br,bh]at aw;exact⟨_,_,.refl,by rw[aw];rfl,rfl,rfl⟩
 ·have cP:t.s.data.size<=a:=by have:¬ (a:Int)<(t.s.size:Int):=dj g;have ab:t.s.size=t.s.data.size:=rfl;omega
  have az:t.s.data[a]?=none:=Array.getElem?_eq_none cP;rw[az]at aw;exact⟨_,_,.refl,by rw[aw];rfl,rfl,rfl⟩
def aiz(h:qu I t T M k a)(af:(t.P.aO k).d.k=2):Spec Tryz.prog 140 [ptr t.bt,.int .i64 k,.int .i64 a] I M (l1 I M t T k a):=by
 have aw:=aio (T:=T) (a:=a) af;refine bN [] aV Tryz.func140 rfl rfl rfl ?_;intro B ar;have bj:=h.ok;have aC:=h.a;have ap:=bj.sz;obtain⟨y,aF,k4,jN,uC,hZ,ad,bF,bk⟩:=bj.aO h.k;rw[k4]at aw;have aw:dZ t.P T k a=bif preB t.s y.t a then oD (a+y.t.size)else vX:=aw;refine aI.mk _ (bj.ha (j:=3) (by decide)) ?_;refine bi.mk ad k bF rfl h.k ?_;refine aI.mk _ ((bk _).part (k:=5) (m:=1) (by decide)) ?_;refine aI.mk _ (bj.ha (j:=0) (by decide)) ?_;refine ik.mk a t.s.size rfl rfl aC (cj _) ?_;have ch:=aif (I:=I) (M:=M) (t.s.extract a t.s.size) y.t;rw[aih _ _ aC]at ch;refine a9.whole _ ch ?_;rintro v I' M' -⟨rfl,rfl,rfl⟩;refine aU.mk (λaE=>?_) (λaE=>?_)
 ·have br:preB t.s y.t a=true:=aE;rw[br,bl]at aw;refine bd.mk ((a+y.t.size:Nat):Int) (gK (by simp) (by omega)) ?_;refine a9.whole _ (zv (a+y.t.size) (by omega)) ?_;rintro v I' M' -⟨rfl,rfl,rfl⟩;exact⟨_,_,.refl,by rw[aw];rfl,rfl,rfl⟩
 ·have br:preB t.s y.t a=false:=aE;rw[br,bh]at aw;exact⟨_,_,.refl,by rw[aw];rfl,rfl,rfl⟩
end
section
variable{I:aZ}{t:d'}{T:Nat->Nat->cv}{M:List aB}{k a:Nat}
def Kl{X:Prop}{b:Bool}(h:b=true)(aX:b=false):X:=by rw[h]at aX;cases aX
def Km{x:Nat}{b:Bool}(h:(!decide ((x:Int)=(j:Int)))=b):Nat.beq x j=!b:=by
 have:decide ((x:Int)=(j:Int))=!b:=by rw[<-h,Bool.not_not]
 exact l2 this
def aiA(h:qu I t T M k a)(af:(t.P.aO k).d.k=4):Spec Tryz.prog 142 [ptr t.bt,.int .i64 k,.int .i64 a] I M (l1 I M t T k a):=by
 have aw:dZ t.P T k a=qq T (t.P.aO k).cf a 0:=by simp[dZ,af]
 refine bN [] aV Tryz.func142 rfl rfl rfl ?_;intro B ar;have bj:=h.ok;have aC:=h.a;have ap:=bj.sz;obtain⟨y,aF,k4,jN,uC,hZ,ad,bF,bk⟩:=bj.aO h.k;have g7:(t.P.aO k).cf=y.aL.map Int.toNat:=by rw[k4];rfl
 rw[g7]at aw;have dS:=jN.kn;have hz:=jN.a8.cap.2;refine a9.whole _ (zv a (by omega)) ?_;rintro v I' M' -⟨rfl,rfl,rfl⟩;refine aI.mk _ (bj.ha (j:=3) (by decide)) ?_;refine bi.mk ad k bF rfl h.k ?_;refine aI.mk _ ((bk _).part (k:=8) (m:=1) (by decide)) ?_;refine c4.inv (ι:=Nat×Nat×Nat) (λx=>{ bu:=[(0,.val (ptr t.bt)),(6,.ref 6 0),(7,.ref 7 0),(20,.val (.slice y.hk y.kn y.gR)),(21,.val (.int .i64 y.kn)),(22,.val (.int .i64 x.1))],cl:=[(6,[.int .i64 0,.int .i32 0,.int .u8 0,.int .u8 0]),(7,[.int .i64 x.2.2,.int .i32 x.2.1,.int .u8 2,.int .u8 0])],cS:=I',db:=M' }) (λx=>x.1<=y.kn/\x.2.1<=t.s.size/\x.2.2<=1099511627776/\dZ t.P T k a=qq T ((y.aL.map Int.toNat).drop x.1) x.2.1 x.2.2) (λx=>y.kn-x.1) ?_ ?_
 ·exact⟨(0,a,0),⟨bw _,aC,bw _,aw⟩,.refl,kf,.cons rfl (.cons rfl (.nil))⟩
 rintro⟨i,a0,n⟩⟨hi,pE,aq,gy⟩;simp only at hi pE aq gy;refine aU.mk (λe=>?_) (λe=>?_)
 ·have aR:i<y.kn:=by simpa using e
  have bZ:i<y.aL.length:=by omega
  obtain⟨fR,fS,e2⟩:=jN.a8.one (f:=λ(k:Int)=>Value.int .i64 k) aR bZ;have fj:=hZ _ (cJ bZ);obtain⟨q,aM⟩:∃ q:Nat,y.aL[i]=(q:Int):=⟨y.aL[i].toNat,by omega⟩;have l0:q<t.nn:=by rw[aM]at fj;omega
  have nP:(y.aL.map Int.toNat).drop i=q::(y.aL.map Int.toNat).drop (i+1):=by rw[eE (by rw[c8];exact bZ),lq,aM];rfl
  rw[nP,qq]at gy;rw[aM]at e2;obtain⟨eJ,iZ,r,ak,gF,-,k0⟩:=bj.row l0;have x2:=h.rg l0 pE;refine bi.mk fR i fS rfl aR ?_;refine aI.mk _ (e2 _) ?_;refine c5.draw aV rfl rfl rfl ?_;refine aI.mk _ (bj.ha (j:=4) (by decide)) ?_;refine bi.mk eJ q iZ rfl l0 ?_;refine aI.mk _ (gF _) ?_;refine bi.mk r a0 rfl rfl (by show a0<t.s.size+1;omega) ?_;refine aI.mk _ (k0 _ h.aP a0 pE) ?_;refine b8.mk λoE Xv Xw=>?_;refine cp.mk [] M' _ _ rfl rfl (bS rfl) rfl ?_;have k5:∀ j,j+1<=4->cr I' (⟨oE,.cells (T q a0).cells.toArray 107 (0,0)⟩::M') ((⟨oE,0,none⟩:Addr).add j) 1 (((T q a0).cells.drop j).take 1):=λj an=>dO (.head _) an;refine aI.mk _ (k5 2 (by decide)) ?_;refine aU.mk (λaE=>?_) (λaE=>?_);·rw[Km (j:=2) (b:=true) aE,pT,bh]at gy;refine aI.mk _ (k5 2 (by decide)) ?_;exact⟨_,_,.sub (.cons _ (.refl _)) .refl,by rw[gy];rfl,rfl,rfl⟩
  ·rw[Km (j:=2) (b:=false) aE,Ir,bl]at gy;refine aI.mk _ (k5 1 (by decide)) ?_;refine aI.mk _ (k5 0 (by decide)) ?_;refine a9.whole _ (Kk n (T q a0).n aq x2.2.1) ?_;rintro v ev ez -⟨rfl,rfl,rfl⟩;refine bd.mk _ (cx (i:=i) (by omega)) ?_;exact⟨(i+1,(T q a0).a0,gx n (T q a0).n),⟨⟨by simp only;omega,x2.2.2.1,uA _ _,gy⟩,by simp only;omega⟩,.sub (.cons _ (.refl _)) .refl,kf,.cons rfl (.cons rfl (.nil))⟩
 ·have cP:y.kn<=i:=by simpa using e
  have ah:(y.aL.map Int.toNat).drop i=[]:=ji (by rw[c8];omega);rw[ah,qq]at gy;exact⟨_,_,.refl,by rw[gy];rfl,rfl,rfl⟩
def aiB(h:qu I t T M k a)(af:(t.P.aO k).d.k=5):Spec Tryz.prog 143 [ptr t.bt,.int .i64 k,.int .i64 a] I M (l1 I M t T k a):=by
 have aw:dZ t.P T k a=qs T (t.P.aO k).cf a:=by simp[dZ,af]
 refine bN [] aV Tryz.func143 rfl rfl rfl ?_;intro B ar;have bj:=h.ok;have aC:=h.a;have ap:=bj.sz;obtain⟨y,aF,k4,jN,uC,hZ,ad,bF,bk⟩:=bj.aO h.k;have g7:(t.P.aO k).cf=y.aL.map Int.toNat:=by rw[k4];rfl
 rw[g7]at aw;have dS:=jN.kn;have hz:=jN.a8.cap.2;refine aI.mk _ (bj.ha (j:=3) (by decide)) ?_;refine bi.mk ad k bF rfl h.k ?_;refine aI.mk _ ((bk _).part (k:=8) (m:=1) (by decide)) ?_;refine c4.inv (ι:=Nat) (λx=>{ bu:=[(0,.val (ptr t.bt)),(2,.val (.int .i64 a)),(6,.ref 6 0),(17,.val (.slice y.hk y.kn y.gR)),(18,.val (.int .i64 y.kn)),(19,.val (.int .i64 x))],cl:=[(6,[.int .i64 0,.int .i32 0,.int .u8 0,.int .u8 0])],cS:=I,db:=M }) (λx=>x<=y.kn/\dZ t.P T k a=qs T ((y.aL.map Int.toNat).drop x) a) (λx=>y.kn-x) ?_ ?_
 ·exact⟨0,⟨bw _,aw⟩,.refl,kf,.cons rfl (.nil)⟩
 rintro i⟨hi,gy⟩;refine aU.mk (λe=>?_) (λe=>?_)
 ·have aR:i<y.kn:=by simpa using e
  have bZ:i<y.aL.length:=by omega
  obtain⟨fR,fS,e2⟩:=jN.a8.one (f:=λ(k:Int)=>Value.int .i64 k) aR bZ;have fj:=hZ _ (cJ bZ);obtain⟨q,aM⟩:∃ q:Nat,y.aL[i]=(q:Int):=⟨y.aL[i].toNat,by omega⟩;have l0:q<t.nn:=by rw[aM]at fj;omega
  have nP:(y.aL.map Int.toNat).drop i=q::(y.aL.map Int.toNat).drop (i+1):=by rw[eE (by rw[c8];exact bZ),lq,aM];rfl
  rw[nP,qs]at gy;rw[aM]at e2;obtain⟨eJ,iZ,r,ak,gF,-,k0⟩:=bj.row l0;refine bi.mk fR i fS rfl aR ?_;refine aI.mk _ (e2 _) ?_;refine aI.mk _ (bj.ha (j:=4) (by decide)) ?_;refine bi.mk eJ q iZ rfl l0 ?_;refine aI.mk _ (gF _) ?_;refine bi.mk r a rfl rfl (by show a<t.s.size+1;omega) ?_;refine aI.mk _ (k0 _ h.aP a aC) ?_;refine aU.mk (λaE=>?_) (λaE=>?_);·rw[Km (j:=1) aE,pT,bh]at gy;exact⟨_,_,.refl,by rw[gy];rfl,rfl,rfl⟩
  ·rw[Km (j:=1) aE,Ir,bl]at gy;refine bd.mk _ (cx (i:=i) (by omega)) ?_;exact⟨i+1,⟨⟨by omega,gy⟩,by omega⟩,.refl,kf,.cons rfl (.nil)⟩
 ·have cP:y.kn<=i:=by simpa using e
  have ah:(y.aL.map Int.toNat).drop i=[]:=ji (by rw[c8];omega);rw[ah,qs]at gy;exact⟨_,_,.refl,by rw[gy];rfl,rfl,rfl⟩
def aiC(h:qu I t T M k a)(af:(t.P.aO k).d.k=6)(br:(t.P.aO k).d.hi=-1):Spec Tryz.prog 211 [ptr t.bt,.int .i64 k,.int .i64 a] I M (l1 I M t T k a):=by
 obtain⟨q,aM⟩:=(h.na k).one (.inr (by omega));have aw:dZ t.P T k a=xX T k q (t.P.aO k).d.lo a:=by rw[Xa af br,aM];rfl
 have e9:=(h.bT k h.k).qd af;refine bN [] aV Tryz.func211 rfl rfl rfl ?_;intro B ar;have bj:=h.ok;have aC:=h.a;have ap:=bj.sz;obtain⟨y,aF,k4,jN,uC,hZ,ad,bF,bk⟩:=bj.aO h.k;have av:(t.P.aO k).d.lo=y.lo:=by rw[k4];rfl
 rw[av]at aw e9;unfold xX at aw;refine a9.whole _ (zv a (by omega)) ?_;rintro v I' M' -⟨rfl,rfl,rfl⟩;refine a9.whole _ (GH h aM) ?_;rintro v I' M' -⟨l0,rfl,rfl,rfl⟩;have x2:=h.rg l0 aC;have GI:∀ x:Nat,x<=99->IntKind.i64.wrap (x:Int)=(x:Int):=λx ae=>gK rfl (by omega);refine b4.mk (λg=>?_) (λg=>?_)
 rotate_left
 ·rw[l2 (j:=0) (b:=true) g,Bool.true_or,bl]at aw;exact⟨_,_,.refl,by rw[aw];rfl,rfl,rfl⟩
 rw[l2 (j:=0) (b:=false) g,u7]at aw;refine b4.mk (λa6=>?_) (λa6=>?_)
 ·rw[l2 (j:=2) (b:=true) a6,pd]at aw;refine bd.mk ((T q a).a0:Int) (gK rfl (by omega)) ?_;refine aU.mk (λbI=>?_) (λbI=>?_)
  ·have Bj:Nat.beq (T q a).a0 a=true:=l2 bI;rw[Bj,bl]at aw;exact⟨_,_,.refl,by rw[aw];rfl,rfl,rfl⟩
  have Bj:Nat.beq (T q a).a0 a=false:=l2 bI;rw[Bj,bh]at aw;refine aU.mk (λe=>?_) (λe=>?_)
  rotate_left
  ·exact Kl a6 e
  obtain⟨eJ,iZ,r,ak,gF,-,k0⟩:=bj.row h.k;have aiD:=h.rg h.k x2.2.2.1;refine c5.draw aV rfl rfl rfl ?_;refine aI.mk _ (bj.ha (j:=4) (by decide)) ?_;refine bi.mk eJ k iZ rfl h.k ?_;refine aI.mk _ (gF _) ?_;refine bi.mk r (T q a).a0 rfl rfl (by show _<t.s.size+1;omega) ?_;refine aI.mk _ (k0 _ h.aP (T q a).a0 x2.2.2.1) ?_;refine b8.mk λbW gJ jO=>?_;refine cp.mk [] M' _ _ rfl rfl (bS rfl) rfl ?_;have k5:∀ j,j+1<=4->cr I' (⟨bW,.cells (T k (T q a).a0).cells.toArray 107 (0,0)⟩::M') ((⟨bW,0,none⟩:Addr).add j) 1 (((T k (T q a).a0).cells.drop j).take 1):=λj an=>dO (.head _) an;refine aI.mk _ (k5 2 (by decide)) ?_;refine aU.mk (λaE=>?_) (λaE=>?_);·rw[l2 (j:=0) aE,bl]at aw;exact⟨_,_,.sub (.cons _ (.refl _)) .refl,by rw[aw];rfl,rfl,rfl⟩
  rw[l2 (j:=0) aE,bh]at aw;refine aI.mk _ (k5 1 (by decide)) ?_;refine aI.mk _ (k5 0 (by decide)) ?_;refine a9.whole _ (Kk (T q a).n (T k (T q a).a0).n x2.2.1 aiD.2.1) ?_;rintro v ev ez -⟨rfl,rfl,rfl⟩;refine aI.mk _ (k5 3 (by decide)) ?_;refine bd.mk (((T k (T q a).a0).g9+1:Nat):Int) (by rw[aik (by omega) (by omega)];simp) ?_;have xl:min (((T k (T q a).a0).g9+1:Nat):Int) 99=((min ((T k (T q a).a0).g9+1) 99:Nat):Int):=by omega
  refine c5.draw aV rfl rfl rfl ?_;refine bd.mk ((min ((T k (T q a).a0).g9+1) 99:Nat):Int) (by show IntKind.i64.wrap (min (((T k (T q a).a0).g9+1:Nat):Int) 99)=_;rw[xl];exact GI _ (JR _ _)) ?_;refine aI.mk _ (bj.ha (j:=3) (by decide)) ?_;refine bi.mk ad k bF rfl h.k ?_;refine aI.mk _ ((bk _).part (k:=6) (m:=1) (by decide)) ?_;refine aU.mk (λbz=>?_) (λbz=>?_);·have qt:decide (((min ((T k (T q a).a0).g9+1) 99:Nat):Int)<y.lo)=true:=bz;rw[nO,qt,bl]at aw;refine⟨_,_,.sub (.cons _ (.refl _)) .refl,?_,rfl,rfl⟩;rw[aw];show Value.agg #[_,_,_,.int .u8 (min (((T k (T q a).a0).g9+1:Nat):Int) 99)]=_;rw[xl];rfl
  ·have qt:decide (((min ((T k (T q a).a0).g9+1) 99:Nat):Int)<y.lo)=false:=bz;rw[nO,qt,bh]at aw;refine⟨_,_,.sub (.cons _ (.refl _)) .refl,?_,rfl,rfl⟩;rw[aw];show Value.agg #[_,_,_,.int .u8 (min (((T k (T q a).a0).g9+1:Nat):Int) 99)]=_;rw[xl];rfl
 ·rw[l2 (j:=2) (b:=false) a6,sY,bh,bh]at aw;refine aU.mk (λe=>?_) (λe=>?_)
  ·exact Kl e a6
  refine c5.draw aV rfl rfl rfl ?_;refine bd.mk (0:Int) (show IntKind.i64.wrap 0=0 by decide) ?_;refine aI.mk _ (bj.ha (j:=3) (by decide)) ?_;refine bi.mk ad k bF rfl h.k ?_;refine aI.mk _ ((bk _).part (k:=6) (m:=1) (by decide)) ?_;refine aU.mk (λbz=>?_) (λbz=>?_);·have qt:decide ((((oD a).g9:Nat):Int)<y.lo)=true:=bz;rw[nO,qt,bl]at aw;exact⟨_,_,.refl,by rw[aw];rfl,rfl,rfl⟩
  ·have qt:decide ((((oD a).g9:Nat):Int)<y.lo)=false:=bz;rw[nO,qt,bh]at aw;exact⟨_,_,.refl,by rw[aw];rfl,rfl,rfl⟩
def aiE(h:qu I t T M k a)(af:(t.P.aO k).d.k=6):Spec Tryz.prog 144 [ptr t.bt,.int .i64 k,.int .i64 a] I M (l1 I M t T k a):=by
 obtain⟨q,aM⟩:=(h.na k).one (.inr (by omega));have r8:=(h.na k).qd af;refine bN [] aV Tryz.func144 rfl rfl rfl ?_;intro B ar;have bj:=h.ok;have aC:=h.a;have ap:=bj.sz;obtain⟨y,aF,k4,jN,uC,hZ,ad,bF,bk⟩:=bj.aO h.k;have fY:(t.P.aO k).d.hi=y.hi:=by rw[k4];rfl
 have e9:(t.P.aO k).d.lo=y.lo:=by rw[k4];rfl
 rw[fY]at r8;refine aI.mk _ (bj.ha (j:=3) (by decide)) ?_;refine bi.mk ad k bF rfl h.k ?_;refine aI.mk _ (bk _) ?_;refine aU.mk (λe=>?_) (λe=>?_)
 ·have bq:y.hi=-1:=c1 e;refine a9.whole _ (aiC h af (fY.trans bq)) ?_;rintro v I' M' -⟨rfl,rfl,rfl⟩;exact⟨_,_,.refl,rfl,rfl,rfl⟩
 have bq:¬ y.hi=-1:=dj e;have aw:dZ t.P T k a=pG T q y.lo y.hi.toNat 0 a 0:=by simp[dZ,af,fY,bq,aM,e9]
 have g7:y.aL.map Int.toNat=[q]:=by rw[k4]at aM;exact aM
 obtain⟨x,ae⟩:∃ x,y.aL=[x]:=by
  match af:y.aL,g7 with
  |[x],_=>exact⟨x,rfl⟩
 have fj:=hZ x (by rw[ae];exact .head _);have ail:x.toNat=q:=by rw[ae]at g7;simpa using g7
 have l0:q<t.nn:=by omega
 have dS:y.kn=1:=by have:=jN.kn;rw[ae]at this;exact this.symm
 obtain⟨fR,fS,e2⟩:=jN.a8.one (f:=λ(k:Int)=>Value.int .i64 k) (j:=0) (by omega) (by rw[ae];exact GD);have e2:∀ M,cr I M (fR.add (0*1)) 1 [.int .i64 q]:=λM=>by
  have:=e2 M;have e:y.aL[0]'(by rw[ae];exact GD)=(q:Int):=by simp only[ae];show x=_;omega
  rwa [e]at this
 obtain⟨eJ,iZ,r,ak,gF,-,k0⟩:=bj.row l0;refine a9.whole _ (zv a (by omega)) ?_;rintro v I' M' -⟨rfl,rfl,rfl⟩;refine c4.inv (ι:=Nat×Nat×Nat) (λx=>{ bu:=[(0,.val (ptr t.bt)),(6,.ref 6 0),(7,.ref 7 0),(8,.ref 8 0),(9,.val (.int .i64 x.1))],cl:=[(6,[.int .i64 0,.int .i32 0,.int .u8 0,.int .u8 0]),(7,y.cells),(8,[.int .i64 x.2.2,.int .i32 x.2.1,.int .u8 2,.int .u8 0])],cS:=I',db:=M' }) (λx=>x.1<=y.hi.toNat/\x.2.1<=t.s.size/\x.2.2<=1099511627776/\dZ t.P T k a=pG T q y.lo (y.hi.toNat-x.1) x.1 x.2.1 x.2.2) (λx=>y.hi.toNat-x.1) ?_ ?_
 ·exact⟨(0,a,0),⟨bw _,aC,bw _,aw⟩,.refl,gS,.cons rfl (.cons rfl (.cons rfl (.nil)))⟩
 rintro⟨i,a0,n⟩⟨hi,pE,aq,gy⟩;simp only at hi pE aq gy;have x2:=h.rg l0 pE;refine aU.mk (λaE=>?_) (λaE=>?_)
 ·have aR:(i:Int)<y.hi:=c1 aE;obtain⟨j,an⟩:∃ j,y.hi.toNat-i=j+1:=⟨y.hi.toNat-i-1,by omega⟩;have hW:y.hi.toNat-(i+1)=j:=by omega
  rw[an,pG]at gy;refine c5.draw aV rfl rfl rfl ?_;refine aI.mk _ (bj.ha (j:=4) (by decide)) ?_;refine bi.mk fR 0 fS rfl (by omega) ?_;refine aI.mk _ (e2 _) ?_;refine bi.mk eJ q iZ rfl l0 ?_;refine aI.mk _ (gF _) ?_;refine bi.mk r a0 rfl rfl (by show a0<t.s.size+1;omega) ?_;refine aI.mk _ (k0 _ h.aP a0 pE) ?_;refine b8.mk λoE Xv Xw=>?_;refine cp.mk [] M' _ _ rfl rfl (bS rfl) rfl ?_;have k5:∀ j,j+1<=4->cr I' (⟨oE,.cells (T q a0).cells.toArray 107 (0,0)⟩::M') ((⟨oE,0,none⟩:Addr).add j) 1 (((T q a0).cells.drop j).take 1):=λj an=>dO (.head _) an;refine aI.mk _ (k5 2 (by decide)) ?_;refine b4.mk (λg=>?_) (λg=>?_)
  rotate_left
  ·rw[l2 (j:=0) (b:=true) g,Bool.true_or,bl]at gy;refine aI.mk _ (k5 2 (by decide)) ?_;exact⟨_,_,.sub (.cons _ (.refl _)) .refl,by rw[gy];rfl,rfl,rfl⟩
  rw[l2 (j:=0) (b:=false) g,u7]at gy;refine aI.mk _ (k5 2 (by decide)) ?_;refine b4.mk (λa6=>?_) (λa6=>?_)
  ·rw[l2 (j:=1) (b:=true) a6,pd]at gy;refine aU.mk (λbI=>?_) (λbI=>?_)
   ·have Bj:decide ((i:Int)<y.lo)=true:=bI;rw[Bj,bl]at gy;refine aI.mk _ (k5 2 (by decide)) ?_;exact⟨_,_,.sub (.cons _ (.refl _)) .refl,by rw[gy];rfl,rfl,rfl⟩
   have Bj:decide ((i:Int)<y.lo)=false:=bI;rw[Bj,bh,bl]at gy;refine aI.mk _ (k5 2 (by decide)) ?_;refine aU.mk (λeQ=>?_) (λeQ=>Kl a6 eQ);exact⟨_,_,.sub (.cons _ (.refl _)) .refl,by rw[gy];rfl,rfl,rfl⟩
  ·rw[l2 (j:=1) (b:=false) a6,sY,bh,bh]at gy;refine aI.mk _ (k5 2 (by decide)) ?_;refine aU.mk (λeQ=>Kl eQ a6) (λeQ=>?_);refine aI.mk _ (k5 1 (by decide)) ?_;refine aI.mk _ (k5 0 (by decide)) ?_;refine a9.whole _ (Kk n (T q a0).n aq x2.2.1) ?_;rintro v ev ez -⟨rfl,rfl,rfl⟩;refine bd.mk _ (cx (i:=i) (by omega)) ?_;exact⟨(i+1,(T q a0).a0,gx n (T q a0).n),⟨⟨by simp only;omega,x2.2.2.1,uA _ _,by simp only;rw[hW];exact gy⟩,by simp only;omega⟩,.sub (.cons _ (.refl _)) .refl,gS,.cons rfl (.cons rfl (.cons rfl (.nil)))⟩
 ·have cP:¬ (i:Int)<y.hi:=dj aE;have an:y.hi.toNat-i=0:=by omega
  rw[an,pG]at gy;exact⟨_,_,.refl,by rw[gy];rfl,rfl,rfl⟩
end
section
variable{X:c3}{β:Nat->Nat}{F:Fr}{C:dp}{I:aZ}{M:List aB}{o:Oper}{K:fX}
def DC{P:Program}(aN:c2 P E)(ay:E t=some dk)(dW:dk.bE=.slice e):P.underlying t=some (.slice e):=by
 obtain⟨ib,pf,lM⟩:=(aN _ _ ay).fi;have tX:ib=.slice e:=by rw[dW]at lM;cases ib<;>simp_all[e8]
 rw[pf,tX]
def e'.Pa{P:Program}(aN:c2 P E){y:Operand}(ay:E t=some dk)(dW:dk.bE=.slice e){a:Option Addr}{n eO:Nat}{V:Value->Prop}{other:Prop}
  (h:V (.bool a.isNone)):e' P .eql t x y (.val (.slice a n c)) (.val (.slice none eO c')) V other:=by
 have aa:=DC aN ay dW;refine .mk _ _ _ rfl rfl (λw=>?_) h;have az:(eqGuard .eql t x y (.slice a n c) (.slice none eO c')).run P w=.ok () w:=by unfold eqGuard;rfl
 simp only[cm,az,b3];exact Lib.run_eql_slice_nil w t e a n c eO c' aa
def bn.slice3(aN:c2 X.P X.E){lo:Operand}(aw:o.op=.slice t x (some lo) (some hi) (some mx))(ah:∀ d,o.dst=some d->d<X.n)
 (ay:X.E t=some dk) (dW:dk.bE=.slice e) (he:X.E e=some aH) {n:Nat} (l h m:Nat) {eg:IntKind}
  (ae:bB F x=.val (.slice ad n c)) (e9:bB F lo=.val (.int eg (l:Nat))) (fY:bB F hi=.val (.int cA (h:Nat))) (jP:bB F mx=.val (.int gu (m:Nat)))
  (aa:l<=h) (ab:h<=m) (ag:m<=c) (k:K (put o.dst (.val (.slice (if m=l then ad else ad.map (·.add (l*aH.size))) (h-l) (m-l))) F) C I M):bn X o F C I M K:=by
 refine⟨λa w Q ⟨β,a5⟩=>?_⟩;have hu:=DC aN ay dW;refine il (by rw[aw];simp) (v:=.slice (if m=l then ad else ad.map (·.add (l*aH.size))) (h-l) (m-l)) (w':=w) ?_ ⟨_,_,_,_,⟨β,cV.put (x:=.val (.slice (if m=l then ad else ad.map (·.add (l*aH.size))) (h-l) (m-l))) a5 ah rfl⟩,k⟩;have ex:=dh a5.al ae;have az:=dh a5.al e9;have aE:=dh a5.al fY;have bz:=dh a5.al jP;simp only[execOp,aw,Instr.sliceAt,Instr.slice,Instr.sliceBounds,Instr.sliceBound,ex,cm,run_underlying hu,b3,(aN _ _ he).run_sizeOf,c9,ka,yx,az,aE,bz,n4];rw[cn ⟨by omega,by omega⟩];simp only[c9,b3,qK];rw[cn ⟨by omega,by omega⟩];simp only[c9,b3,qK];rw[cn ⟨by omega,by omega⟩];simp
def bn.Xx(aN:c2 X.P X.E)(aw:o.op=.slice t x none (some hi) (some mx))(ah:∀ d,o.dst=some d->d<X.n)
 (ay:X.E t=some dk) (dW:dk.bE=.slice e) (he:X.E e=some aH) {n:Nat} (h m:Nat)
  (ae:bB F x=.val (.slice ad n c)) (fY:bB F hi=.val (.int cA (h:Nat))) (jP:bB F mx=.val (.int gu (m:Nat)))
  (ab:h<=m) (ag:m<=c) (k:K (put o.dst (.val (.slice (if m=0 then ad else ad.map (·.add (0*aH.size))) (h-0) (m-0))) F) C I M):bn X o F C I M K:=by
 refine⟨λa w Q ⟨β,a5⟩=>?_⟩;have hu:=DC aN ay dW;refine il (by rw[aw];simp) (v:=.slice (if m=0 then ad else ad.map (·.add (0*aH.size))) (h-0) (m-0)) (w':=w) ?_ ⟨_,_,_,_,⟨β,cV.put (x:=.val (.slice (if m=0 then ad else ad.map (·.add (0*aH.size))) (h-0) (m-0))) a5 ah rfl⟩,k⟩;have ex:=dh a5.al ae;have aE:=dh a5.al fY;have bz:=dh a5.al jP;simp only[execOp,aw,Instr.sliceAt,Instr.slice,Instr.sliceBounds,Instr.sliceBound,ex,cm,run_underlying hu,b3,(aN _ _ he).run_sizeOf,c9,ka,yx,aE,bz,n4];rw[cn ⟨by omega,by omega⟩];simp only[c9,b3,qK];rw[cn ⟨by omega,by omega⟩];simp only[c9,b3,qK]
def bn.k6(aN:c2 X.P X.E){s:Operand}(aw:o.op=.call { callee:=.builtin .append,args:=#[s,x],argTypes:=#[t,t] })(ah:∀ d,o.dst=some d->d<X.n)
 (ay:X.E t=some dk) (dW:dk.bE=.slice e) (he:X.E e=some aH)
 {g n:Nat} (ap:bB F s=.val (.slice (some ⟨g,0,none⟩) n c)) (aA:aK.length=c*aH.size)
  {ad:Addr} {m:Nat} (ae:bB F x=.val (.slice (some ad) m c')) (aq:cr I M ad (m*aH.size) bV) (aa:fO bV=true) (s0:n+m<=c)
  (bc post:List aB) (a1:M=bc++⟨g,.cells aK.toArray e (0,0)⟩::post)
  (k:K (put o.dst (.val (.slice (some ⟨g,0,none⟩) (n+m) c)) F) C I (bc++⟨g,.cells (bo aK (n*aH.size) bV).toArray e (0,0)⟩::post)):bn X o F C I M K:=by
 refine⟨λa w Q ⟨β,a5⟩=>?_⟩;have hu:=DC aN ay dW;obtain⟨inf,z,hi,fb,hV,iq,kM⟩:=(aN _ _ he).inf;have au:w.heap[g]?=some (.cells aK.toArray e (0,0)):=a5.holds.m ⟨g,.cells aK.toArray e (0,0)⟩ (by rw[a1];simp);have av:bV.length=m*aH.size:=by obtain⟨_,_,_,_,_,_,h⟩:=aq;exact h
 have ga:n*aH.size+bV.length<=aK.length:=by rw[av,aA,<-kS];exact rH _ s0
 have dE:=run_storeCells_at X.P g (n*aH.size) e bV 0 aK.toArray w au (by simpa using ga) (w4 aa);simp only[nj]at dE;have aJ:(Builtin.firstCells aH.size m (.slice (some ad) m c')).run X.P w=.ok bV.toArray w:=by
  obtain⟨ch,cs,T,al,dS,aj,av⟩:=aq;refine run_firstCells_some (P:=X.P) w aH.size m ad m c' bV av λj v an=>?_;rw[dL _ ch,sL (dS.heap a5.holds)];rw[<-aj,j9]at an;split at an;·rw[nZ]at an;simpa using an
  ·cases an
 have es:=dh a5.al ap;have ex:=dh a5.al ae;refine il (by rw[aw];simp) (v:=.slice (some ⟨g,0,none⟩) (n+m) c) (w':=w.setRow g (bo aK (n*aH.size) bV).toArray) ?_ ⟨_,_,_,_,⟨β,cV.put (x:=.val (.slice (some ⟨g,0,none⟩) (n+m) c)) ?_ ah rfl⟩,k⟩
 ·have eV:(Builtin.append_ #[t,t] o.type #[.slice (some ⟨g,0,none⟩) n c,.slice (some ad) m c']).run X.P w=.ok (.slice (some ⟨g,0,none⟩) (n+m) c) (w.setRow g (bo aK (n*aH.size) bV).toArray):=by rw[<-fb]at aJ dE |-;simp[Builtin.append_,Builtin.lenOf,run_underlying hu,sizeOf,typeInfo,hi,s0,aJ,Addr.add_lit,dE,bo]
  unfold execOp;simp only[aw,resolve,invoke,builtin,cm,c9,b3,sW,cY,kR,es,ex,eV]
 ·exact a5.vb a1
end
def cy(k:Nat):Value:=.int .i64 (k:Int)
def dx(g:Nat)(aK:List Value):aB:=⟨g,.cells aK.toArray 3 (0,0)⟩
def GJ:List Value:=[138,139,140,141,142,143,144,145,146,147].map λf=>.func (.func f) #[] #[]
def aiF:Spec Tryz.prog 92 [] I M λv I' M'=>v=.agg GJ.toArray/\I'=I/\M'=M:=by refine bN [] aV Tryz.func92 rfl rfl rfl ?_;intro B ar;exact⟨_,_,.refl,rfl,rfl,rfl⟩
def aiG{g:Nat}(a1:dx g aK∈M){m:Nat}(ak:(aK.drop i).take (m-i)=(L.drop i).map cy)(hm:L.length=m)(hi:i<m):cr I M ((⟨g,0,none⟩:Addr).add (i*1)) 1 [cy (L[i]'(by omega))]:=by
 rw[dL _ rfl];have oF:i<L.length:=by omega
 refine⟨rfl,aK.toArray,3,(0,0),.inr ⟨_,a1,rfl,rfl⟩,?_,rfl⟩;have e:((aK.drop i).take (m-i)).take 1=[cy L[i]]:=by rw[ak,<-List.map_take,eE oF,nt,mK];rfl
 rw[rU,rI (by omega)]at e;show(aK.drop (0+i*1)).take 1=_;rw[c0,fP];exact e
def Pb(h:aK.take L.length=L.map cy)(av:L.length<aK.length)(k:Nat):(bo aK (L.length*1) [cy k]).length=aK.length/\(bo aK (L.length*1) [cy k]).take (L++[k]).length=(L++[k]).map cy /\
  ∀ i,L.length+1<=i->(bo aK (L.length*1) [cy k]).drop i=aK.drop i:=by
 rw[fP,Xp _ _ _ av];refine⟨lT,?_,λi hi=>?_⟩
 ·rw[cI,x0,gf (by rw[lT];exact av),GC,List.take_set_of_le (cj _),h,e7];rfl
 ·rw[List.drop_set_of_lt (by omega)]
def aiH{D:List Nat}(h:aK.take D.length=D.map cy)(av:D.length+L.length<=aK.length):(bo aK (D.length*1) (L.map cy)).length=aK.length/\(bo aK (D.length*1) (L.map cy)).take (D++L).length=(D++L).map cy:=by
 rw[fP];unfold bo;rw[h,<-e7];refine⟨?_,?_⟩
 ·simp only[cI,c8,pb];omega
 ·have e:(D++L).length=((D++L).map cy).length:=by rw[c8]
  rw[e];exact Ax
def aiI{t:d'}{T:Nat->Nat->cv}{k a:Nat}(af:k<t.nn)(ar:t.n0<=k)(aC:a<t.w)(c:cv):bo (t.cs T) ((k-t.n0)*(t.w*4)+a*4) c.cells=t.cs (gm T k a c):=by
 unfold d'.cs;have oy:∀ j,bo (m6 T (t.n0+j) t.w) (a*4+0) c.cells=(((List.range t.w).map λb=>(T (t.n0+j) b)).set a c).flatMap cv.cells:=λj=>by
  have:=O8 cv.cells 4 cv.cD ((List.range t.w).map λb=>(T (t.n0+j) b)) a (by simpa using aC) 0 c.cells (by rw[cv.cD];omega) c (by
   unfold bo;rw[mK,jZ,ji (by rw[cv.cD,cv.cD];omega),eh])
  rw[Dv]at this;exact this
 have az:((List.range (t.nn-t.n0)).flatMap λj=>m6 T (t.n0+j) t.w)=(((List.range (t.nn-t.n0)).map λj=>(⟨m6 T (t.n0+j) t.w,Bi T _ t.w⟩:{l:List Value // l.length=t.w*4})).flatMap λr=>r.1):=by rw[Dv]
 have bQ:(bo (m6 T k t.w) (a*4) c.cells).length=t.w*4:=by unfold bo;simp only[cI,hh,pb,Bi,cv.cD];omega
 rw[az];have aiJ:=O8 (λr:{l:List Value // l.length=t.w*4}=>r.1) (t.w*4) (λr=>r.2) ((List.range (t.nn-t.n0)).map λj=>⟨m6 T (t.n0+j) t.w,Bi T _ t.w⟩) (k-t.n0) (by simp;omega) (a*4) c.cells (by rw[cv.cD];omega) ⟨bo (m6 T k t.w) (a*4) c.cells,bQ⟩ (by
  simp only[lq,r'];rw[zh ar])
 rw[aiJ];rw[show((List.range (t.nn-t.n0)).flatMap λj=>m6 (gm T k a c) (t.n0+j) t.w)=(((List.range (t.nn-t.n0)).map λj=>(⟨m6 (gm T k a c) (t.n0+j) t.w,Bi _ _ t.w⟩:{l:List Value // l.length=t.w*4})).flatMap λr=>r.1) by rw[Dv]];congr 1;refine xi (by simp) λj aa ab=>?_;simp only[c8,se]at ab;rw[lq,r'];by_cases e:k-t.n0=j
 ·subst e;rw[GC];refine Subtype.ext ?_;simp only;rw[zh ar];have ag:=oy (k-t.n0);rw[zh ar,nj]at ag;rw[ag];have aW:m6 (gm T k a c) k t.w=((List.range t.w).map λb=>gm T k a c k b).flatMap cv.cells:=by rw[Dv];rfl
  rw[aW];congr 1;refine xi (by simp) λb a3 a6=>?_;simp only[c8,se]at a6;rw[lq,r'];by_cases GK:a=b;·subst GK;rw[GC,Ds]
  ·rw[Dt GK,lq,r',xY λx=>GK x.2.symm]
 ·rw[Dt e,lq,r'];refine Subtype.ext ?_;simp only;unfold m6;congr 1;funext b;rw[xY λx=>e (by omega)]
def d'.ok.tt{t:d'}{T mH:Nat->Nat->cv}(h:t.ok I T)(he:∀ k,k<t.n0->∀ a,mH k a=T k a):t.ok I mH:=by refine { h with du:=λk af ar=>?_ };obtain⟨cs,gL,al,aa,ab⟩:=h.du k af ar;refine⟨cs,gL,al,aa,ab.trans ?_⟩;unfold m6;congr 1;funext a;rw[he k ar a]
def mw(g c:Nat){n m:Nat}(h:n=m):vi (.val (.slice (some ⟨g,0,none⟩) n c)) (.val (.slice (some ⟨g,0,none⟩) m c)):=by rw[h];exact .refl
structure Kn(I:aZ)(t:d')(gL:Nat->Nat->cv)(eZ:List Nat)(a:Nat):Prop where
 ok:t.ok I gL
 inv:ja t.P t.nn gL
 bT:∀ k,k<t.nn->vY t.P t.nn k
 na:∀ k,vZ t.P k
 n0:t.n0<t.nn
 lo:∀ k∈eZ,t.n0<=k/\k<t.nn
 a:a<=t.s.size
structure Ko where
 T:Nat->Nat->cv
 L:List Nat
 D:List Nat
 cQ:List Value
 cW:List Value
structure aiK(t:d')(gL:Nat->Nat->cv)(eZ D0:List Nat)(a nA nD:Nat)(x:Ko):Prop where
 inv:ja t.P t.nn x.T
 tt:∀ k b,¬ (k∈eZ/\b=a)->x.T k b=gL k b
 perm:(x.D++x.L).Perm (D0++eZ)
 kn:∀ k∈eZ,k∈x.L\/(x.T k a).aG≠0
 sub:∀ k∈x.L,k∈eZ
 DD:x.cQ.length=nA
 uD:x.cQ.take x.L.length=x.L.map cy
 GL:x.cW.length=nD
 zw:x.cW.take x.D.length=x.D.map cy
structure Pc(t:d')(gL:Nat->Nat->cv)(eZ D0:List Nat)(a nA nD:Nat)(jb:List Nat)(d1 i:Nat)(x:Ko):Prop where
 ii:i<=jb.length
 aiL:x.L.length<=i
 inv:ja t.P t.nn x.T
 tt:∀ k b,¬ (k∈eZ/\b=a)->x.T k b=gL k b
 perm:(x.D++(x.L++jb.drop i)).Perm (D0++eZ)
 kn:∀ k∈eZ,k∈x.L\/k∈jb.drop i\/(x.T k a).aG≠0
 sub:∀ k∈x.L,k∈eZ
 un:x.D.length=d1->∀ k∈x.L,(dZ t.P x.T k a).aG=0
 Xy:x.D.length+x.L.length=d1+i
 ge:d1<=x.D.length
 DD:x.cQ.length=nA
 uD:x.cQ.take x.L.length=x.L.map cy
 Xz:(x.cQ.drop i).take (jb.length-i)=(jb.drop i).map cy
 GL:x.cW.length=nD
 zw:x.cW.take x.D.length=x.D.map cy
def Kn.bc{t:d'}{gL:Nat->Nat->cv}{a:Nat}(h:Kn I t gL eZ a){T:Nat->Nat->cv}(hi:ja t.P t.nn T)(aA:∀ k b,¬ (k∈eZ/\b=a)->T k b=gL k b)(a1:t.aP T∈M){k:Nat}(af:k∈eZ):qu I t T M k a:=
 ⟨h.ok.tt λq aM b=>aA q b λe=>by have:=(h.lo q e.1).1;omega,hi,h.bT,h.na,λ_=>a1,(h.lo k af).2,h.a⟩
def aiM(A B C:List α)(k:α):(A++(B++k::C)).Perm (A++[k]++(B++C)):=by rw[fq];exact List.Perm.append_left _ qk
def aiN{t:d'}{gL:Nat->Nat->cv}{D0:List Nat}{a:Nat}(h:Kn I t gL eZ a){gA gD nA nD:Nat}{cA0 cD0:List Value}(iw:cA0.length=nA)(di:cD0.length=nD)(uD:cA0.take eZ.length=eZ.map cy)(zw:cD0.take D0.length=D0.map cy)(asC:eZ.length<=nA)(asD:D0.length+eZ.length<=nD)(asE:nA<=1048576)(asF:nD<=1048576) :
  Spec Tryz.prog 93 [ptr t.bt,.agg GJ.toArray,.slice (some ⟨gA,0,none⟩) eZ.length nA,.slice (some ⟨gD,0,none⟩) D0.length nD,.int .i64 a] I [t.aP gL,dx gA cA0,dx gD cD0] λv I' M'=>I'=I /\
   ∃ (T:Nat->Nat->cv) (sh:List Nat) (cQ cW:List Value),ja t.P t.nn T/\(∀ k b,¬ (k∈eZ/\b=a)->T k b=gL k b)/\(∀ k∈eZ,(T k a).aG=0->(dZ t.P T k a).aG=0)/\sh.Perm (D0++eZ)/\cQ.length=nA/\cW.length=nD/\cW.take sh.length=sh.map cy /\
    v=.slice (some ⟨gD,0,none⟩) sh.length nD/\M'=[t.aP T,dx gA cQ,dx gD cW]:=by
 refine bN [] aV Tryz.func93 rfl rfl rfl ?_;intro B ar;refine c4.inv (ι:=Ko) (λx=>{ bu:=[(0,.val (ptr t.bt)),(2,.val (.slice (some ⟨gA,0,none⟩) x.L.length nA)),(3,.val (.slice (some ⟨gD,0,none⟩) x.D.length nD)),(4,.val (.int .i64 a)),(6,.ref 6 0)],cl:=[(6,GJ)],cS:=I,db:=[t.aP x.T,dx gA x.cQ,dx gD x.cW] }) (λx=>aiK t gL eZ D0 a nA nD x) (λx=>x.L.length) ?_ ?_
 ·exact⟨⟨gL,eZ,D0,cA0,cD0⟩,⟨h.inv,λ_ _ _=>rfl,.refl _,λk af=>.inl af,λk af=>af,iw,uD,di,zw⟩,.refl,gS,.cons rfl (.nil)⟩
 rintro⟨NO,jb,v3,aiO,aiP⟩bO;have aiQ:=bO.perm.length_eq;simp only[cI]at aiQ;have asG:jb.length<=nA:=by have aa:=congrArg List.length bO.uD;have ab:=bO.DD;simp only[hh,c8]at aa ab;omega
 refine ik.mk 0 0 rfl rfl (cj _) (bw _) ?_;refine c4.inv (ι:=Nat×Ko) (λx=>{ bu:=[(0,.val (ptr t.bt)),(3,.val (.slice (some ⟨gD,0,none⟩) x.2.D.length nD)),(4,.val (.int .i64 a)),(6,.ref 6 0),(11,.val (.int .i64 v3.length)),(12,.val (.slice (some ⟨gA,0,none⟩) x.2.L.length nA)),(20,.val (.slice (some ⟨gA,0,none⟩) jb.length nA)),(21,.val (.int .i64 jb.length)),(22,.val (.int .i64 x.1))],cl:=[(6,GJ)],cS:=I,db:=[t.aP x.2.T,dx gA x.2.cQ,dx gD x.2.cW] }) (λx=>Pc t gL eZ D0 a nA nD jb v3.length x.1 x.2) (λx=>jb.length-x.1) ?_ ?_
 ·refine⟨(0,⟨NO,[],v3,aiO,aiP⟩),⟨bw _,cj _,bO.inv,bO.tt,bO.perm,λk af=>.inr (bO.kn k af),λk af=>(by cases af),λ_ k af=>(by cases af),by simp,cj _,bO.DD,by simp,by simpa using bO.uD,bO.GL,bO.zw⟩,.refl,o4,.cons rfl (.nil)⟩
 rintro⟨i,⟨T,L,D,cQ,cW⟩⟩bM;have aiR:=bM.ii;have aiS:=bM.aiL;have aiT:=bM.Xy;have XA:=bM.ge;simp only at aiR aiS aiT XA;have GM:cQ.length=nA:=bM.DD;have si:cW.length=nD:=bM.GL;refine aU.mk (λe=>?_) (λe=>?_)
 ·have aR:i<jb.length:=by simpa using e
  obtain⟨k,af⟩:∃ k,jb[i]=k:=⟨_,rfl⟩;have nP:jb.drop i=k::jb.drop (i+1):=by rw[eE aR,af]
  have y0:k∈eZ:=bO.sub k (by rw[<-af];exact cJ aR);have XB:=fun {M:List aB} (a1:dx gA cQ∈M)=>aiG (I:=I) a1 bM.Xz rfl aR;rw[af]at XB;have uE:=fun {M:List aB} (a1:t.aP T∈M)=>h.bc bM.inv bM.tt a1 y0;obtain⟨e3,dS⟩:=h.lo k y0;have qv:t.ok I T:=(uE (M:=[t.aP T]) (.head _)).ok;obtain⟨y,aF,k4,jN,uC,hZ,ad,bF,bk⟩:=qv.aO dS;obtain⟨eJ,iZ,r,ak,gF,jE,k0⟩:=qv.row dS;have s6:=jE e3;subst s6;have rq:a<t.w:=by have:=h.a;show a<t.s.size+1;omega
  have Pd:∀ aK:List Value,aK.drop (i+1)=cQ.drop (i+1)->(aK.drop (i+1)).take (jb.length-(i+1))=(jb.drop (i+1)).map cy:=λaK aA=>by have aa:=congrArg (List.drop 1) bM.Xz;rw[<-List.map_drop,Ay,xj,Ay]at aa;rw[aA,show jb.length-(i+1)=jb.length-i-1 by omega];exact aa
  have stay:(dZ t.P T k a).aG=0->Pc t gL eZ D0 a nA nD jb v3.length (i+1) ⟨T,L++[k],D,bo cQ (L.length*1) [cy k],cW⟩:=λbf=>by
   obtain⟨po,pq,C5⟩:=Pb (L:=L) (aK:=cQ) bM.uD (by show L.length<cQ.length;omega) k;have aD:=bM.perm;simp only[nP]at aD;refine⟨by omega,by simp only[cI,x0];omega,bM.inv,bM.tt,?_,λq aM=>?_,λq aM=>?_,λah q aM=>?_,by simp only[cI,x0];omega,XA,po.trans GM,pq,Pd _ (C5 _ (by omega)),si,bM.zw⟩;·simp only;rw[fq L [k]];exact aD
   ·rcases bM.kn q aM with aa | aa | aa
    ·exact .inl (kF _ aa)
    ·simp only at aa;rw[nP]at aa;rcases ef.1 aa with rfl | aa
     ·exact .inl (pS _ (.head _))
     ·exact .inr (.inl aa)
    ·exact .inr (.inr aa)
   ·rcases dQ.1 aM with aa | aa
    ·exact bM.sub q aa
    ·rw[fW.1 aa];exact y0
   ·rcases dQ.1 aM with aa | aa
    ·exact bM.un ah q aa
    ·rw[fW.1 aa];exact bf
  have done:(dZ t.P T k a).aG≠0->Pc t gL eZ D0 a nA nD jb v3.length (i+1) ⟨gm T k a (dZ t.P T k a),L,D++[k],cQ,bo cW (D.length*1) [cy k]⟩:=λbf=>by
   obtain⟨po,pq,C5⟩:=Pb (L:=D) (aK:=cW) bM.zw (by show D.length<cW.length;omega) k;have aD:=bM.perm;simp only[nP]at aD;refine⟨by omega,by simp only;omega,bM.inv.set dS h.a (h.bT k dS) rfl bf,λq b aM=>?_,?_,λq aM=>?_,bM.sub,λah q aM=>?_,by simp only[cI,x0];omega,by simp only[cI,x0];omega,GM,bM.uD,Pd _ rfl,po.trans si,pq⟩;·simp only;rw[xY λx=>aM ⟨by rw[x.1];exact y0,x.2⟩];exact bM.tt q b aM
   ·simp only;exact(aiM D L (jb.drop (i+1)) k).symm.trans aD
   ·simp only;by_cases eq:q=k
    ·subst eq;rw[Ds];exact .inr (.inr bf)
    ·rw[xY λx=>eq x.1];rcases bM.kn q aM with aa | aa | aa
     ·exact .inl aa
     ·simp only at aa;rw[nP]at aa;rcases ef.1 aa with aa | aa
      ·exact absurd aa eq
      ·exact .inr (.inl aa)
     ·exact .inr (.inr aa)
   ·simp only[cI,x0]at ah;omega
  have uF:=aiI (t:=t) (T:=T) dS e3 rq (dZ t.P T k a);have XC:=t.aii T;have ga:(k-t.n0)*(t.w*4)+a*4+4<=(t.cs T).length:=by rw[XC];have aa:(k-t.n0+1)*(t.w*4)<=(t.nn-t.n0)*(t.w*4):=rH _ (by omega);rw[kS,p6]at aa;omega
  obtain⟨c,aA⟩:∃ c,dZ t.P T k a=c:=⟨_,rfl⟩;rw[aA]at stay done uF;refine bi.mk ⟨gA,0,none⟩ i rfl rfl aR ?_;refine aI.mk _ (XB (.tail _ (.head _))) ?_;refine aI.mk _ (qv.ha (j:=3) (by decide)) ?_;refine bi.mk ad k bF rfl dS ?_;refine aI.mk _ ((bk _).part (k:=0) (m:=1) (by decide)) ?_;have Oz:=(h.na k).lt;have XD:=(h.na k).ql;have tu:(t.P.aO k).d.k=y.k:=by rw[k4];rfl
  rw[tu]at Oz XD;clear k4 nP XC Pd bM bO jN uC hZ aF;obtain⟨kx,dT,s1,s2,ec,ib,asH,asI,tk,tl,tm,tn⟩:=y;simp only at tu Oz XD;have De:kx=0\/kx=1\/kx=2\/kx=3\/kx=4\/kx=5\/kx=6\/kx=7\/kx=8\/kx=9:=by omega
  rcases De with rfl | rfl | rfl | rfl | rfl | rfl | rfl | rfl | rfl | rfl
  ·refine dV.mk 0 rfl (by decide) ?_;have ch:=ait (uE (M:=[t.aP T,dx gA cQ,dx gD cW]) (.head _)) tu;unfold l1 at ch;rw[aA]at ch;refine a9.whole _ ch ?_;rintro v I' M' -⟨rfl,rfl,rfl⟩;refine aU.mk (λaE=>?_) (λaE=>?_)
   ·have eC:c.aG=0:=by have:=c1 aE;omega
    refine b8.mk λbW gJ jO=>?_;refine bn.k6 aV rfl (by simp) (e:=3) rfl rfl rfl (g:=gA) (n:=L.length) (c:=nA) (aK:=cQ) rfl (show cQ.length=nA*1 by omega) (ad:=⟨bW,0,none⟩) (m:=1) (c':=1) rfl (bV:=[cy k]) ⟨rfl,_,_,_,.inr ⟨_,.head _,rfl,rfl⟩,rfl,rfl⟩ rfl (by omega) [_,t.aP T] [dx gD cW] rfl ?_;refine bd.mk _ (cx (i:=i) (by omega)) ?_;have bQ:L.length+1=(L++[k]).length:=by simp
    exact⟨(i+1,⟨T,L++[k],D,bo cQ (L.length*1) [cy k],cW⟩),⟨stay eC,by simp only;omega⟩,.sub (.cons _ (.refl _)) .refl,.cons .refl (.cons .refl (.cons .refl (.cons .refl (.cons .refl (.cons (mw gA nA bQ) (fH)))))),.cons rfl (.nil)⟩
   ·have eC:c.aG≠0:=by have:=dj aE;omega
    refine c5.draw aV rfl rfl rfl ?_;refine aI.mk _ (qv.ha (j:=4) (by decide)) ?_;refine bi.mk eJ k iZ rfl dS ?_;refine aI.mk _ (gF _) ?_;refine bi.mk ⟨t.fp,(k-t.n0)*(t.w*4),none⟩ a rfl rfl rq ?_;refine cp.jj [] [dx gA cQ,dx gD cW] (t.cs T) _ rfl (by rw[oA];exact ga) rfl (t.cs (gm T k a c)) uF ?_;refine b8.mk λbW gJ jO=>?_;refine bn.k6 aV rfl (by simp) (e:=3) rfl rfl rfl (g:=gD) (n:=D.length) (c:=nD) (aK:=cW) rfl (show cW.length=nD*1 by omega) (ad:=⟨bW,0,none⟩) (m:=1) (c':=1) rfl (bV:=[cy k]) ⟨rfl,_,_,_,.inr ⟨_,.head _,rfl,rfl⟩,rfl,rfl⟩ rfl (by omega) [_,t.aP (gm T k a c),dx gA cQ] [] rfl ?_;refine bd.mk _ (cx (i:=i) (by omega)) ?_;have bQ:D.length+1=(D++[k]).length:=by simp
    exact⟨(i+1,⟨gm T k a c,L,D++[k],cQ,bo cW (D.length*1) [cy k]⟩),⟨done eC,by simp only;omega⟩,.sub (.cons _ (.refl _)) .refl,.cons .refl (.cons (mw gD nD bQ) (kg)),.cons rfl (.nil)⟩
  ·refine dV.mk 1 rfl (by decide) ?_;have ch:=aiy (uE (M:=[t.aP T,dx gA cQ,dx gD cW]) (.head _)) tu;unfold l1 at ch;rw[aA]at ch;refine a9.whole _ ch ?_;rintro v I' M' -⟨rfl,rfl,rfl⟩;refine aU.mk (λaE=>?_) (λaE=>?_)
   ·have eC:c.aG=0:=by have:=c1 aE;omega
    refine b8.mk λbW gJ jO=>?_;refine bn.k6 aV rfl (by simp) (e:=3) rfl rfl rfl (g:=gA) (n:=L.length) (c:=nA) (aK:=cQ) rfl (show cQ.length=nA*1 by omega) (ad:=⟨bW,0,none⟩) (m:=1) (c':=1) rfl (bV:=[cy k]) ⟨rfl,_,_,_,.inr ⟨_,.head _,rfl,rfl⟩,rfl,rfl⟩ rfl (by omega) [_,t.aP T] [dx gD cW] rfl ?_;refine bd.mk _ (cx (i:=i) (by omega)) ?_;have bQ:L.length+1=(L++[k]).length:=by simp
    exact⟨(i+1,⟨T,L++[k],D,bo cQ (L.length*1) [cy k],cW⟩),⟨stay eC,by simp only;omega⟩,.sub (.cons _ (.refl _)) .refl,.cons .refl (.cons .refl (.cons .refl (.cons .refl (.cons .refl (.cons (mw gA nA bQ) (fH)))))),.cons rfl (.nil)⟩
   ·have eC:c.aG≠0:=by have:=dj aE;omega
    refine c5.draw aV rfl rfl rfl ?_;refine aI.mk _ (qv.ha (j:=4) (by decide)) ?_;refine bi.mk eJ k iZ rfl dS ?_;refine aI.mk _ (gF _) ?_;refine bi.mk ⟨t.fp,(k-t.n0)*(t.w*4),none⟩ a rfl rfl rq ?_;refine cp.jj [] [dx gA cQ,dx gD cW] (t.cs T) _ rfl (by rw[oA];exact ga) rfl (t.cs (gm T k a c)) uF ?_;refine b8.mk λbW gJ jO=>?_;refine bn.k6 aV rfl (by simp) (e:=3) rfl rfl rfl (g:=gD) (n:=D.length) (c:=nD) (aK:=cW) rfl (show cW.length=nD*1 by omega) (ad:=⟨bW,0,none⟩) (m:=1) (c':=1) rfl (bV:=[cy k]) ⟨rfl,_,_,_,.inr ⟨_,.head _,rfl,rfl⟩,rfl,rfl⟩ rfl (by omega) [_,t.aP (gm T k a c),dx gA cQ] [] rfl ?_;refine bd.mk _ (cx (i:=i) (by omega)) ?_;have bQ:D.length+1=(D++[k]).length:=by simp
    exact⟨(i+1,⟨gm T k a c,L,D++[k],cQ,bo cW (D.length*1) [cy k]⟩),⟨done eC,by simp only;omega⟩,.sub (.cons _ (.refl _)) .refl,.cons .refl (.cons (mw gD nD bQ) (kg)),.cons rfl (.nil)⟩
  ·refine dV.mk 2 rfl (by decide) ?_;have ch:=aiz (uE (M:=[t.aP T,dx gA cQ,dx gD cW]) (.head _)) tu;unfold l1 at ch;rw[aA]at ch;refine a9.whole _ ch ?_;rintro v I' M' -⟨rfl,rfl,rfl⟩;refine aU.mk (λaE=>?_) (λaE=>?_)
   ·have eC:c.aG=0:=by have:=c1 aE;omega
    refine b8.mk λbW gJ jO=>?_;refine bn.k6 aV rfl (by simp) (e:=3) rfl rfl rfl (g:=gA) (n:=L.length) (c:=nA) (aK:=cQ) rfl (show cQ.length=nA*1 by omega) (ad:=⟨bW,0,none⟩) (m:=1) (c':=1) rfl (bV:=[cy k]) ⟨rfl,_,_,_,.inr ⟨_,.head _,rfl,rfl⟩,rfl,rfl⟩ rfl (by omega) [_,t.aP T] [dx gD cW] rfl ?_;refine bd.mk _ (cx (i:=i) (by omega)) ?_;have bQ:L.length+1=(L++[k]).length:=by simp
    exact⟨(i+1,⟨T,L++[k],D,bo cQ (L.length*1) [cy k],cW⟩),⟨stay eC,by simp only;omega⟩,.sub (.cons _ (.refl _)) .refl,.cons .refl (.cons .refl (.cons .refl (.cons .refl (.cons .refl (.cons (mw gA nA bQ) (fH)))))),.cons rfl (.nil)⟩
   ·have eC:c.aG≠0:=by have:=dj aE;omega
    refine c5.draw aV rfl rfl rfl ?_;refine aI.mk _ (qv.ha (j:=4) (by decide)) ?_;refine bi.mk eJ k iZ rfl dS ?_;refine aI.mk _ (gF _) ?_;refine bi.mk ⟨t.fp,(k-t.n0)*(t.w*4),none⟩ a rfl rfl rq ?_;refine cp.jj [] [dx gA cQ,dx gD cW] (t.cs T) _ rfl (by rw[oA];exact ga) rfl (t.cs (gm T k a c)) uF ?_;refine b8.mk λbW gJ jO=>?_;refine bn.k6 aV rfl (by simp) (e:=3) rfl rfl rfl (g:=gD) (n:=D.length) (c:=nD) (aK:=cW) rfl (show cW.length=nD*1 by omega) (ad:=⟨bW,0,none⟩) (m:=1) (c':=1) rfl (bV:=[cy k]) ⟨rfl,_,_,_,.inr ⟨_,.head _,rfl,rfl⟩,rfl,rfl⟩ rfl (by omega) [_,t.aP (gm T k a c),dx gA cQ] [] rfl ?_;refine bd.mk _ (cx (i:=i) (by omega)) ?_;have bQ:D.length+1=(D++[k]).length:=by simp
    exact⟨(i+1,⟨gm T k a c,L,D++[k],cQ,bo cW (D.length*1) [cy k]⟩),⟨done eC,by simp only;omega⟩,.sub (.cons _ (.refl _)) .refl,.cons .refl (.cons (mw gD nD bQ) (kg)),.cons rfl (.nil)⟩
  ·refine dV.mk 3 rfl (by decide) ?_;have ch:=aiu (uE (M:=[t.aP T,dx gA cQ,dx gD cW]) (.head _)) tu;unfold l1 at ch;rw[aA]at ch;refine a9.whole _ ch ?_;rintro v I' M' -⟨rfl,rfl,rfl⟩;refine aU.mk (λaE=>?_) (λaE=>?_)
   ·have eC:c.aG=0:=by have:=c1 aE;omega
    refine b8.mk λbW gJ jO=>?_;refine bn.k6 aV rfl (by simp) (e:=3) rfl rfl rfl (g:=gA) (n:=L.length) (c:=nA) (aK:=cQ) rfl (show cQ.length=nA*1 by omega) (ad:=⟨bW,0,none⟩) (m:=1) (c':=1) rfl (bV:=[cy k]) ⟨rfl,_,_,_,.inr ⟨_,.head _,rfl,rfl⟩,rfl,rfl⟩ rfl (by omega) [_,t.aP T] [dx gD cW] rfl ?_;refine bd.mk _ (cx (i:=i) (by omega)) ?_;have bQ:L.length+1=(L++[k]).length:=by simp
    exact⟨(i+1,⟨T,L++[k],D,bo cQ (L.length*1) [cy k],cW⟩),⟨stay eC,by simp only;omega⟩,.sub (.cons _ (.refl _)) .refl,.cons .refl (.cons .refl (.cons .refl (.cons .refl (.cons .refl (.cons (mw gA nA bQ) (fH)))))),.cons rfl (.nil)⟩
   ·have eC:c.aG≠0:=by have:=dj aE;omega
    refine c5.draw aV rfl rfl rfl ?_;refine aI.mk _ (qv.ha (j:=4) (by decide)) ?_;refine bi.mk eJ k iZ rfl dS ?_;refine aI.mk _ (gF _) ?_;refine bi.mk ⟨t.fp,(k-t.n0)*(t.w*4),none⟩ a rfl rfl rq ?_;refine cp.jj [] [dx gA cQ,dx gD cW] (t.cs T) _ rfl (by rw[oA];exact ga) rfl (t.cs (gm T k a c)) uF ?_;refine b8.mk λbW gJ jO=>?_;refine bn.k6 aV rfl (by simp) (e:=3) rfl rfl rfl (g:=gD) (n:=D.length) (c:=nD) (aK:=cW) rfl (show cW.length=nD*1 by omega) (ad:=⟨bW,0,none⟩) (m:=1) (c':=1) rfl (bV:=[cy k]) ⟨rfl,_,_,_,.inr ⟨_,.head _,rfl,rfl⟩,rfl,rfl⟩ rfl (by omega) [_,t.aP (gm T k a c),dx gA cQ] [] rfl ?_;refine bd.mk _ (cx (i:=i) (by omega)) ?_;have bQ:D.length+1=(D++[k]).length:=by simp
    exact⟨(i+1,⟨gm T k a c,L,D++[k],cQ,bo cW (D.length*1) [cy k]⟩),⟨done eC,by simp only;omega⟩,.sub (.cons _ (.refl _)) .refl,.cons .refl (.cons (mw gD nD bQ) (kg)),.cons rfl (.nil)⟩
  ·refine dV.mk 4 rfl (by decide) ?_;have ch:=aiA (uE (M:=[t.aP T,dx gA cQ,dx gD cW]) (.head _)) tu;unfold l1 at ch;rw[aA]at ch;refine a9.whole _ ch ?_;rintro v I' M' -⟨rfl,rfl,rfl⟩;refine aU.mk (λaE=>?_) (λaE=>?_)
   ·have eC:c.aG=0:=by have:=c1 aE;omega
    refine b8.mk λbW gJ jO=>?_;refine bn.k6 aV rfl (by simp) (e:=3) rfl rfl rfl (g:=gA) (n:=L.length) (c:=nA) (aK:=cQ) rfl (show cQ.length=nA*1 by omega) (ad:=⟨bW,0,none⟩) (m:=1) (c':=1) rfl (bV:=[cy k]) ⟨rfl,_,_,_,.inr ⟨_,.head _,rfl,rfl⟩,rfl,rfl⟩ rfl (by omega) [_,t.aP T] [dx gD cW] rfl ?_;refine bd.mk _ (cx (i:=i) (by omega)) ?_;have bQ:L.length+1=(L++[k]).length:=by simp
    exact⟨(i+1,⟨T,L++[k],D,bo cQ (L.length*1) [cy k],cW⟩),⟨stay eC,by simp only;omega⟩,.sub (.cons _ (.refl _)) .refl,.cons .refl (.cons .refl (.cons .refl (.cons .refl (.cons .refl (.cons (mw gA nA bQ) (fH)))))),.cons rfl (.nil)⟩
   ·have eC:c.aG≠0:=by have:=dj aE;omega
    refine c5.draw aV rfl rfl rfl ?_;refine aI.mk _ (qv.ha (j:=4) (by decide)) ?_;refine bi.mk eJ k iZ rfl dS ?_;refine aI.mk _ (gF _) ?_;refine bi.mk ⟨t.fp,(k-t.n0)*(t.w*4),none⟩ a rfl rfl rq ?_;refine cp.jj [] [dx gA cQ,dx gD cW] (t.cs T) _ rfl (by rw[oA];exact ga) rfl (t.cs (gm T k a c)) uF ?_;refine b8.mk λbW gJ jO=>?_;refine bn.k6 aV rfl (by simp) (e:=3) rfl rfl rfl (g:=gD) (n:=D.length) (c:=nD) (aK:=cW) rfl (show cW.length=nD*1 by omega) (ad:=⟨bW,0,none⟩) (m:=1) (c':=1) rfl (bV:=[cy k]) ⟨rfl,_,_,_,.inr ⟨_,.head _,rfl,rfl⟩,rfl,rfl⟩ rfl (by omega) [_,t.aP (gm T k a c),dx gA cQ] [] rfl ?_;refine bd.mk _ (cx (i:=i) (by omega)) ?_;have bQ:D.length+1=(D++[k]).length:=by simp
    exact⟨(i+1,⟨gm T k a c,L,D++[k],cQ,bo cW (D.length*1) [cy k]⟩),⟨done eC,by simp only;omega⟩,.sub (.cons _ (.refl _)) .refl,.cons .refl (.cons (mw gD nD bQ) (kg)),.cons rfl (.nil)⟩
  ·refine dV.mk 5 rfl (by decide) ?_;have ch:=aiB (uE (M:=[t.aP T,dx gA cQ,dx gD cW]) (.head _)) tu;unfold l1 at ch;rw[aA]at ch;refine a9.whole _ ch ?_;rintro v I' M' -⟨rfl,rfl,rfl⟩;refine aU.mk (λaE=>?_) (λaE=>?_)
   ·have eC:c.aG=0:=by have:=c1 aE;omega
    refine b8.mk λbW gJ jO=>?_;refine bn.k6 aV rfl (by simp) (e:=3) rfl rfl rfl (g:=gA) (n:=L.length) (c:=nA) (aK:=cQ) rfl (show cQ.length=nA*1 by omega) (ad:=⟨bW,0,none⟩) (m:=1) (c':=1) rfl (bV:=[cy k]) ⟨rfl,_,_,_,.inr ⟨_,.head _,rfl,rfl⟩,rfl,rfl⟩ rfl (by omega) [_,t.aP T] [dx gD cW] rfl ?_;refine bd.mk _ (cx (i:=i) (by omega)) ?_;have bQ:L.length+1=(L++[k]).length:=by simp
    exact⟨(i+1,⟨T,L++[k],D,bo cQ (L.length*1) [cy k],cW⟩),⟨stay eC,by simp only;omega⟩,.sub (.cons _ (.refl _)) .refl,.cons .refl (.cons .refl (.cons .refl (.cons .refl (.cons .refl (.cons (mw gA nA bQ) (fH)))))),.cons rfl (.nil)⟩
   ·have eC:c.aG≠0:=by have:=dj aE;omega
    refine c5.draw aV rfl rfl rfl ?_;refine aI.mk _ (qv.ha (j:=4) (by decide)) ?_;refine bi.mk eJ k iZ rfl dS ?_;refine aI.mk _ (gF _) ?_;refine bi.mk ⟨t.fp,(k-t.n0)*(t.w*4),none⟩ a rfl rfl rq ?_;refine cp.jj [] [dx gA cQ,dx gD cW] (t.cs T) _ rfl (by rw[oA];exact ga) rfl (t.cs (gm T k a c)) uF ?_;refine b8.mk λbW gJ jO=>?_;refine bn.k6 aV rfl (by simp) (e:=3) rfl rfl rfl (g:=gD) (n:=D.length) (c:=nD) (aK:=cW) rfl (show cW.length=nD*1 by omega) (ad:=⟨bW,0,none⟩) (m:=1) (c':=1) rfl (bV:=[cy k]) ⟨rfl,_,_,_,.inr ⟨_,.head _,rfl,rfl⟩,rfl,rfl⟩ rfl (by omega) [_,t.aP (gm T k a c),dx gA cQ] [] rfl ?_;refine bd.mk _ (cx (i:=i) (by omega)) ?_;have bQ:D.length+1=(D++[k]).length:=by simp
    exact⟨(i+1,⟨gm T k a c,L,D++[k],cQ,bo cW (D.length*1) [cy k]⟩),⟨done eC,by simp only;omega⟩,.sub (.cons _ (.refl _)) .refl,.cons .refl (.cons (mw gD nD bQ) (kg)),.cons rfl (.nil)⟩
  ·refine dV.mk 6 rfl (by decide) ?_;have ch:=aiE (uE (M:=[t.aP T,dx gA cQ,dx gD cW]) (.head _)) tu;unfold l1 at ch;rw[aA]at ch;refine a9.whole _ ch ?_;rintro v I' M' -⟨rfl,rfl,rfl⟩;refine aU.mk (λaE=>?_) (λaE=>?_)
   ·have eC:c.aG=0:=by have:=c1 aE;omega
    refine b8.mk λbW gJ jO=>?_;refine bn.k6 aV rfl (by simp) (e:=3) rfl rfl rfl (g:=gA) (n:=L.length) (c:=nA) (aK:=cQ) rfl (show cQ.length=nA*1 by omega) (ad:=⟨bW,0,none⟩) (m:=1) (c':=1) rfl (bV:=[cy k]) ⟨rfl,_,_,_,.inr ⟨_,.head _,rfl,rfl⟩,rfl,rfl⟩ rfl (by omega) [_,t.aP T] [dx gD cW] rfl ?_;refine bd.mk _ (cx (i:=i) (by omega)) ?_;have bQ:L.length+1=(L++[k]).length:=by simp
    exact⟨(i+1,⟨T,L++[k],D,bo cQ (L.length*1) [cy k],cW⟩),⟨stay eC,by simp only;omega⟩,.sub (.cons _ (.refl _)) .refl,.cons .refl (.cons .refl (.cons .refl (.cons .refl (.cons .refl (.cons (mw gA nA bQ) (fH)))))),.cons rfl (.nil)⟩
   ·have eC:c.aG≠0:=by have:=dj aE;omega
    refine c5.draw aV rfl rfl rfl ?_;refine aI.mk _ (qv.ha (j:=4) (by decide)) ?_;refine bi.mk eJ k iZ rfl dS ?_;refine aI.mk _ (gF _) ?_;refine bi.mk ⟨t.fp,(k-t.n0)*(t.w*4),none⟩ a rfl rfl rq ?_;refine cp.jj [] [dx gA cQ,dx gD cW] (t.cs T) _ rfl (by rw[oA];exact ga) rfl (t.cs (gm T k a c)) uF ?_;refine b8.mk λbW gJ jO=>?_;refine bn.k6 aV rfl (by simp) (e:=3) rfl rfl rfl (g:=gD) (n:=D.length) (c:=nD) (aK:=cW) rfl (show cW.length=nD*1 by omega) (ad:=⟨bW,0,none⟩) (m:=1) (c':=1) rfl (bV:=[cy k]) ⟨rfl,_,_,_,.inr ⟨_,.head _,rfl,rfl⟩,rfl,rfl⟩ rfl (by omega) [_,t.aP (gm T k a c),dx gA cQ] [] rfl ?_;refine bd.mk _ (cx (i:=i) (by omega)) ?_;have bQ:D.length+1=(D++[k]).length:=by simp
    exact⟨(i+1,⟨gm T k a c,L,D++[k],cQ,bo cW (D.length*1) [cy k]⟩),⟨done eC,by simp only;omega⟩,.sub (.cons _ (.refl _)) .refl,.cons .refl (.cons (mw gD nD bQ) (kg)),.cons rfl (.nil)⟩
  ·refine dV.mk 7 rfl (by decide) ?_;have ch:=aiv (uE (M:=[t.aP T,dx gA cQ,dx gD cW]) (.head _)) tu;unfold l1 at ch;rw[aA]at ch;refine a9.whole _ ch ?_;rintro v I' M' -⟨rfl,rfl,rfl⟩;refine aU.mk (λaE=>?_) (λaE=>?_)
   ·have eC:c.aG=0:=by have:=c1 aE;omega
    refine b8.mk λbW gJ jO=>?_;refine bn.k6 aV rfl (by simp) (e:=3) rfl rfl rfl (g:=gA) (n:=L.length) (c:=nA) (aK:=cQ) rfl (show cQ.length=nA*1 by omega) (ad:=⟨bW,0,none⟩) (m:=1) (c':=1) rfl (bV:=[cy k]) ⟨rfl,_,_,_,.inr ⟨_,.head _,rfl,rfl⟩,rfl,rfl⟩ rfl (by omega) [_,t.aP T] [dx gD cW] rfl ?_;refine bd.mk _ (cx (i:=i) (by omega)) ?_;have bQ:L.length+1=(L++[k]).length:=by simp
    exact⟨(i+1,⟨T,L++[k],D,bo cQ (L.length*1) [cy k],cW⟩),⟨stay eC,by simp only;omega⟩,.sub (.cons _ (.refl _)) .refl,.cons .refl (.cons .refl (.cons .refl (.cons .refl (.cons .refl (.cons (mw gA nA bQ) (fH)))))),.cons rfl (.nil)⟩
   ·have eC:c.aG≠0:=by have:=dj aE;omega
    refine c5.draw aV rfl rfl rfl ?_;refine aI.mk _ (qv.ha (j:=4) (by decide)) ?_;refine bi.mk eJ k iZ rfl dS ?_;refine aI.mk _ (gF _) ?_;refine bi.mk ⟨t.fp,(k-t.n0)*(t.w*4),none⟩ a rfl rfl rq ?_;refine cp.jj [] [dx gA cQ,dx gD cW] (t.cs T) _ rfl (by rw[oA];exact ga) rfl (t.cs (gm T k a c)) uF ?_;refine b8.mk λbW gJ jO=>?_;refine bn.k6 aV rfl (by simp) (e:=3) rfl rfl rfl (g:=gD) (n:=D.length) (c:=nD) (aK:=cW) rfl (show cW.length=nD*1 by omega) (ad:=⟨bW,0,none⟩) (m:=1) (c':=1) rfl (bV:=[cy k]) ⟨rfl,_,_,_,.inr ⟨_,.head _,rfl,rfl⟩,rfl,rfl⟩ rfl (by omega) [_,t.aP (gm T k a c),dx gA cQ] [] rfl ?_;refine bd.mk _ (cx (i:=i) (by omega)) ?_;have bQ:D.length+1=(D++[k]).length:=by simp
    exact⟨(i+1,⟨gm T k a c,L,D++[k],cQ,bo cW (D.length*1) [cy k]⟩),⟨done eC,by simp only;omega⟩,.sub (.cons _ (.refl _)) .refl,.cons .refl (.cons (mw gD nD bQ) (kg)),.cons rfl (.nil)⟩
  ·refine dV.mk 8 rfl (by decide) ?_;have ch:=aiw (uE (M:=[t.aP T,dx gA cQ,dx gD cW]) (.head _)) tu;unfold l1 at ch;rw[aA]at ch;refine a9.whole _ ch ?_;rintro v I' M' -⟨rfl,rfl,rfl⟩;refine aU.mk (λaE=>?_) (λaE=>?_)
   ·have eC:c.aG=0:=by have:=c1 aE;omega
    refine b8.mk λbW gJ jO=>?_;refine bn.k6 aV rfl (by simp) (e:=3) rfl rfl rfl (g:=gA) (n:=L.length) (c:=nA) (aK:=cQ) rfl (show cQ.length=nA*1 by omega) (ad:=⟨bW,0,none⟩) (m:=1) (c':=1) rfl (bV:=[cy k]) ⟨rfl,_,_,_,.inr ⟨_,.head _,rfl,rfl⟩,rfl,rfl⟩ rfl (by omega) [_,t.aP T] [dx gD cW] rfl ?_;refine bd.mk _ (cx (i:=i) (by omega)) ?_;have bQ:L.length+1=(L++[k]).length:=by simp
    exact⟨(i+1,⟨T,L++[k],D,bo cQ (L.length*1) [cy k],cW⟩),⟨stay eC,by simp only;omega⟩,.sub (.cons _ (.refl _)) .refl,.cons .refl (.cons .refl (.cons .refl (.cons .refl (.cons .refl (.cons (mw gA nA bQ) (fH)))))),.cons rfl (.nil)⟩
   ·have eC:c.aG≠0:=by have:=dj aE;omega
    refine c5.draw aV rfl rfl rfl ?_;refine aI.mk _ (qv.ha (j:=4) (by decide)) ?_;refine bi.mk eJ k iZ rfl dS ?_;refine aI.mk _ (gF _) ?_;refine bi.mk ⟨t.fp,(k-t.n0)*(t.w*4),none⟩ a rfl rfl rq ?_;refine cp.jj [] [dx gA cQ,dx gD cW] (t.cs T) _ rfl (by rw[oA];exact ga) rfl (t.cs (gm T k a c)) uF ?_;refine b8.mk λbW gJ jO=>?_;refine bn.k6 aV rfl (by simp) (e:=3) rfl rfl rfl (g:=gD) (n:=D.length) (c:=nD) (aK:=cW) rfl (show cW.length=nD*1 by omega) (ad:=⟨bW,0,none⟩) (m:=1) (c':=1) rfl (bV:=[cy k]) ⟨rfl,_,_,_,.inr ⟨_,.head _,rfl,rfl⟩,rfl,rfl⟩ rfl (by omega) [_,t.aP (gm T k a c),dx gA cQ] [] rfl ?_;refine bd.mk _ (cx (i:=i) (by omega)) ?_;have bQ:D.length+1=(D++[k]).length:=by simp
    exact⟨(i+1,⟨gm T k a c,L,D++[k],cQ,bo cW (D.length*1) [cy k]⟩),⟨done eC,by simp only;omega⟩,.sub (.cons _ (.refl _)) .refl,.cons .refl (.cons (mw gD nD bQ) (kg)),.cons rfl (.nil)⟩
  ·refine dV.mk 9 rfl (by decide) ?_;have ch:=aix (uE (M:=[t.aP T,dx gA cQ,dx gD cW]) (.head _)) tu;unfold l1 at ch;rw[aA]at ch;refine a9.whole _ ch ?_;rintro v I' M' -⟨rfl,rfl,rfl⟩;refine aU.mk (λaE=>?_) (λaE=>?_)
   ·have eC:c.aG=0:=by have:=c1 aE;omega
    refine b8.mk λbW gJ jO=>?_;refine bn.k6 aV rfl (by simp) (e:=3) rfl rfl rfl (g:=gA) (n:=L.length) (c:=nA) (aK:=cQ) rfl (show cQ.length=nA*1 by omega) (ad:=⟨bW,0,none⟩) (m:=1) (c':=1) rfl (bV:=[cy k]) ⟨rfl,_,_,_,.inr ⟨_,.head _,rfl,rfl⟩,rfl,rfl⟩ rfl (by omega) [_,t.aP T] [dx gD cW] rfl ?_;refine bd.mk _ (cx (i:=i) (by omega)) ?_;have bQ:L.length+1=(L++[k]).length:=by simp
    exact⟨(i+1,⟨T,L++[k],D,bo cQ (L.length*1) [cy k],cW⟩),⟨stay eC,by simp only;omega⟩,.sub (.cons _ (.refl _)) .refl,.cons .refl (.cons .refl (.cons .refl (.cons .refl (.cons .refl (.cons (mw gA nA bQ) (fH)))))),.cons rfl (.nil)⟩
   ·have eC:c.aG≠0:=by have:=dj aE;omega
    refine c5.draw aV rfl rfl rfl ?_;refine aI.mk _ (qv.ha (j:=4) (by decide)) ?_;refine bi.mk eJ k iZ rfl dS ?_;refine aI.mk _ (gF _) ?_;refine bi.mk ⟨t.fp,(k-t.n0)*(t.w*4),none⟩ a rfl rfl rq ?_;refine cp.jj [] [dx gA cQ,dx gD cW] (t.cs T) _ rfl (by rw[oA];exact ga) rfl (t.cs (gm T k a c)) uF ?_;refine b8.mk λbW gJ jO=>?_;refine bn.k6 aV rfl (by simp) (e:=3) rfl rfl rfl (g:=gD) (n:=D.length) (c:=nD) (aK:=cW) rfl (show cW.length=nD*1 by omega) (ad:=⟨bW,0,none⟩) (m:=1) (c':=1) rfl (bV:=[cy k]) ⟨rfl,_,_,_,.inr ⟨_,.head _,rfl,rfl⟩,rfl,rfl⟩ rfl (by omega) [_,t.aP (gm T k a c),dx gA cQ] [] rfl ?_;refine bd.mk _ (cx (i:=i) (by omega)) ?_;have bQ:D.length+1=(D++[k]).length:=by simp
    exact⟨(i+1,⟨gm T k a c,L,D++[k],cQ,bo cW (D.length*1) [cy k]⟩),⟨done eC,by simp only;omega⟩,.sub (.cons _ (.refl _)) .refl,.cons .refl (.cons (mw gD nD bQ) (kg)),.cons rfl (.nil)⟩
 ·have cP:¬ (i:Int)<(jb.length:Int):=dj e;obtain rfl:i=jb.length:=by omega
  have j5:(D++(L++jb.drop jb.length)).Perm (D0++eZ):=bM.perm;have dS:∀ k∈eZ,k∈L\/k∈jb.drop jb.length\/(T k a).aG≠0:=bM.kn;simp only[List.drop_length,eh]at j5 dS;have Pe:=j5.length_eq;simp only[cI]at Pe;have ll:fO (L.map cy)=true:=by unfold fO;rw[eP];intro x ae;obtain⟨z,_,rfl⟩:=dA.1 ae;rfl
  have rr:cr I [t.aP T,dx gA cQ,dx gD cW] ⟨gA,0,none⟩ (L.length*1) (L.map cy):=by refine⟨rfl,cQ.toArray,3,(0,0),.inr ⟨_,.tail _ (.head _),rfl,rfl⟩,?_,by rw[c8,fP]⟩;rw[fP];exact bM.uD
  obtain⟨ej,ed⟩:=aiH (D:=D) (aK:=cW) bM.zw (L:=L) (by show D.length+L.length<=cW.length;omega);have fin:((L.length:Nat)=0\/D.length=v3.length)->(∀ k∈eZ,(T k a).aG=0->(dZ t.P T k a).aG=0):=λbr k af ar=>by
   rcases dS k af with aa | aa | aa
   ·rcases br with br | br
    ·rw[jh br]at aa;cases aa
    ·exact bM.un br k aa
   ·cases aa
   ·exact absurd ar aa
  refine b4.mk (λg=>?_) (λg=>?_)
  ·refine aU.mk (λa6=>?_) (λa6=>?_)
   ·have XE:D.length=v3.length:=by have bI:(D.length:Int)=(v3.length:Int):=c1 a6;omega
    refine bn.k6 aV rfl (by simp) (e:=3) rfl rfl rfl (g:=gD) (n:=D.length) (c:=nD) (aK:=cW) rfl (show cW.length=nD*1 by omega) (ad:=⟨gA,0,none⟩) (m:=L.length) (c':=nA) rfl (bV:=L.map cy) rr ll (by omega) [t.aP T,dx gA cQ] [] rfl ?_;exact⟨_,_,.refl,rfl,T,D++L,cQ,_,bM.inv,bM.tt,fin (.inr XE),j5,GM,ej.trans si,ed,by rw[cI],rfl⟩
   ·have XE:D.length≠v3.length:=by have bI:¬ (D.length:Int)=(v3.length:Int):=dj a6;omega
    exact⟨⟨T,L,D,cQ,cW⟩,⟨⟨bM.inv,bM.tt,j5,λk af=>(dS k af).imp id λx=>x.elim (λy=>(by cases y)) id,bM.sub,GM,bM.uD,si,bM.zw⟩,by simp only;omega⟩,.refl,gS,.cons rfl (.nil)⟩
  ·have dv:L.length=0:=by have:decide ((L.length:Int)=0)=true:=g;have:=c1 this;omega
   refine bn.k6 aV rfl (by simp) (e:=3) rfl rfl rfl (g:=gD) (n:=D.length) (c:=nD) (aK:=cW) rfl (show cW.length=nD*1 by omega) (ad:=⟨gA,0,none⟩) (m:=L.length) (c':=nA) rfl (bV:=L.map cy) rr ll (by omega) [t.aP T,dx gA cQ] [] rfl ?_;exact⟨_,_,.refl,rfl,T,D++L,cQ,_,bM.inv,bM.tt,fin (.inl dv),j5,GM,ej.trans si,ed,by rw[cI],rfl⟩
structure XF(I:aZ)(t:d')(gL:Nat->Nat->cv)(eZ:List Nat):Prop where
 ok:t.ok I gL
 inv:ja t.P t.nn gL
 bT:∀ k,k<t.nn->vY t.P t.nn k
 na:∀ k,vZ t.P k
 n0:t.n0<t.nn
 lo:∀ k∈eZ,t.n0<=k/\k<t.nn
 all:∀ k,t.n0<=k->k<t.nn->k∈eZ
 du:∀ k,k<t.n0->∀ b,(gL k b).ce=cO t.P k b
structure XG where
 p:Nat
 v:Int
 T:Nat->Nat->cv
 L:List Nat
 gA:Nat
 nA:Nat
 cQ:List Value
 gD:Nat
 nD:Nat
 d:Nat
 cW:List Value
structure aiU(t:d')(gL:Nat->Nat->cv)(eZ:List Nat)(low:Nat)(x:XG):Prop where
 v:x.v=(x.p:Int)-1
 p:x.p<=t.s.size+1
 aiV:low<=x.p
 inv:ja t.P t.nn x.T
 up:∀ k b,x.p<=b->(x.T k b).ce=cO t.P k b
 du:∀ k,k<t.n0->∀ b,x.T k b=gL k b
 perm:x.L.Perm eZ
 DD:x.cQ.length=x.nA
 uD:x.cQ.take x.L.length=x.L.map cy
 GL:x.cW.length=x.nD
 iw:eZ.length<=x.nA
 di:eZ.length<=x.nD
 aiW:x.nA<=1048576
 aiX:x.nD<=1048576
def aiY{t:d'}{gL:Nat->Nat->cv}(h:XF I t gL eZ){gN nN:Nat}{cN:List Value}(dr:cN.length=nN)(aiZ:cN.take eZ.length=eZ.map cy)(b9:eZ.length<=nN)(Pf:nN<=1048576){low:Nat}(asJ:low<=t.s.size) :
  Spec Tryz.prog 40 [ptr t.bt,.slice (some ⟨gN,0,none⟩) eZ.length nN,.int .i64 low] I [t.aP gL,dx gN cN] λv I' M'=>I'=I /\
   ∃ (T:Nat->Nat->cv),ja t.P t.nn T/\(∀ k b,low<=b->(T k b).ce=cO t.P k b)/\(∀ k,k<t.n0->∀ b,T k b=gL k b)/\M'=[t.aP T]:=by
 refine bN [] aV Tryz.func40 rfl rfl rfl ?_;intro B ar;have df:=h.ok.sz;refine a9.whole _ aiF ?_;rintro v I' M' -⟨rfl,rfl,rfl⟩;refine n1.mk 0 eZ.length rfl rfl (bw _) (by show 8*eZ.length<=_;omega) (by omega) ?_;refine b8.mk λai0 asK asL=>?_;refine aI.mk _ (h.ok.ha (j:=0) (by decide)) ?_;refine c4.inv (ι:=XG) (λx=>{ bu:=[(0,.val (ptr t.bt)),(1,.val (.slice (some ⟨x.gA,0,none⟩) x.L.length x.nA)),(2,.val (.int .i64 low)),(6,.ref 6 0),(7,.val (.slice (some ⟨x.gD,0,none⟩) x.d x.nD)),(8,.val (.int .i64 x.v))],cl:=[(6,GJ)],cS:=I',db:=[t.aP x.T,dx x.gA x.cQ,dx x.gD x.cW] }) (λx=>aiU t gL eZ low x) (λx=>x.p) ?_ ?_
 ·refine⟨⟨t.s.size+1,t.s.size,gL,eZ,gN,nN,cN,ai0,eZ.length,0,rowOf [cy 0] (eZ.length*1)⟩,⟨by simp only;omega,cj _,by simp only;omega,h.inv,λk b ai=>h.inv.out k b λe=>by have ab:b<=t.s.size:=e.2;simp only at ai;omega,λ_ _ _=>rfl,.refl _,dr,aiZ,by simp[rowOf],b9,cj _,Pf,by simp only;omega⟩,.perm ?_ .refl,kf,.cons rfl (.nil)⟩;exact(List.Perm.swap _ _ _).trans (.cons _ (.swap _ _ _))
 rintro⟨p,v,T,L,gA,nA,cQ,gD,nD,d,cW⟩bA;have aj:=bA.v;have aD:=bA.p;have ai1:=bA.aiV;have Pg:=bA.aiW;have Ph:=bA.aiX;have XH:=bA.iw;have XI:=bA.di;have Pe:=bA.perm.length_eq;simp only at aj aD ai1 Pg Ph XH XI Pe;refine aU.mk (λe=>?_) (λe=>?_)
 ·have cP:(low:Int)<=v:=c1 e;obtain⟨a,rfl⟩:∃ a,p=a+1:=⟨p-1,by omega⟩;obtain rfl:v=(a:Int):=by omega
  have XJ:Kn I' t T L a:=⟨h.ok.tt λk af b=>bA.du k af b,bA.inv,h.bT,h.na,h.n0,λk af=>h.lo k (bA.perm.mem_iff.1 af),by omega⟩;have ch:=aiN (D0:=[]) XJ (gA:=gA) (gD:=gD) (nA:=nA) (nD:=nD) (cA0:=cQ) (cD0:=cW) bA.DD bA.GL bA.uD (by simp) (by omega) (by simp;omega) Pg Ph;refine c5.draw aV rfl rfl rfl ?_;refine ik.mk 0 0 rfl rfl (cj _) (bw _) ?_;refine hf.ah9 _ ch ?_;rintro v ev ez -⟨rfl,mH,sh,ai2,ai3,s1,s2,ec,Bk,ai4,ai5,ai6,rfl,rfl⟩;rw[jZ]at Bk;have XK:=Bk.length_eq;have hold:∀ k,k<t.n0->∀ b,mH k b=gL k b:=λk af b=>by rw[s2 k b λx=>by have:=(XJ.lo k x.1).1;omega];exact bA.du k af b
  have Bf:∀ k b,a<b->(mH k b).ce=cO t.P k b:=λk b ai=>by rw[s2 k b λx=>by omega];exact bA.up k b ai
  have hr:∀ k,(mH k a).ce=cO t.P k a:=ahY s1 h.bT Bf (λk af bf=>by
   by_cases e3:k<t.n0;·refine ahZ s1 af (by show a<=t.s.size;omega) (h.bT k af) ?_ bf;rw[hold k e3 a];exact h.du k e3 a
   ·exact ec k (bA.perm.mem_iff.2 (h.all k (by omega) af)) bf) (by show a<=t.s.size;omega)
  refine bd.mk ((a:Int)-1) (gK rfl (by omega)) ?_;refine⟨⟨a,(a:Int)-1,mH,sh,gD,nD,ai3,gA,nA,L.length,ai2⟩,⟨⟨rfl,by simp only;omega,by simp only;omega,s1,λk b ai=>?_,hold,Bk.trans bA.perm,ai5,ai6,ai4,XI,XH,Ph,Pg⟩,by simp only;omega⟩,.perm (.cons _ (.swap _ _ _)) .refl,kf,.cons rfl (.nil)⟩;by_cases e:b=a;·rw[e];exact hr k
  ·exact Bf k b (by simp only at ai;omega)
 ·have aR:¬ (low:Int)<=v:=dj e;refine⟨_,_,.sub (M1:=[t.aP T]) (.cons_cons _ (.cons _ (.cons _ .slnil))) .refl,rfl,T,bA.inv,λk b ai=>bA.up k b (by simp only;omega),bA.du,rfl⟩
def Xr.n{bb:List uw}{f:uw}{g:Nat}(h:Xr os bb f g):os.n=bb.length+1:=by have:=h.ok.len;rw[fQ _ 5 uw.cD]at this;simp at this;omega
def bn.XL{X:c3}{C:dp}{o:Oper}{K:fX}(aN:c2 X.P X.E){s:Operand}(aw:o.op=.call { callee:=.builtin .append,args:=#[s,x],argTypes:=#[t,t] })(ah:∀ d,o.dst=some d->d<X.n)
 (ay:X.E t=some dk) (dW:dk.bE=.slice e) (he:X.E e=some aH)
  (os:a') (bj:os.ok aH.size xs) (ap:bB F s=.val os.val)
 {cs:List Value} (ae:bB F x=.val (.slice (some ⟨bW,0,none⟩) 1 c')) (av:cs.length=aH.size) (aa:fO cs=true)
  (bc:List aB) (a1:M=⟨bW,.cells cs.toArray e (0,0)⟩::(bc++os.aP e)) (b1:os.n+1<=9223372036854775807) (cd:(os.n+1)*aH.bytes<=140737488355328)
  (k:∀ cz:a',cz.n=os.n+1->(∀ g,cz.a=some g->I g=none)->cz.ok aH.size (xs++cs)->K (put o.dst (.val cz.val) F) C I (bc++cz.aP e)):bn X o F C I M K:=
 .uB aN aw ah ay dW he os bj ap ae av aa bc [] (by rw[eh];exact a1) b1 cd λcz ab ag aW=>by rw[eh];exact k cz ab ag aW
section
variable{X:c3}{F:Fr}{C:dp}{I:aZ}{M:List aB}{o:Oper}
def sP.ai7{K:dn->aZ->List aB->Prop}(aN:c2 X.P X.E){s:Operand}(aw:o.op=.call { callee:=.builtin .append,args:=#[s,x],argTypes:=#[t,t] })
 (ay:X.E t=some dk) (dW:dk.bE=.slice e) (he:X.E e=some aH)
  (os:a') (bj:os.ok aH.size xs) (ap:bB F s=.val os.val)
  {ad:Addr} {m:Nat} (ae:bB F x=.val (.slice (some ad) m c')) (hm:0<m) (aq:cr I M ad (m*aH.size) bV) (aa:fO bV=true)
  {Mr:List aB} (a1:M.Perm (os.aP e++Mr)) (b1:os.n+m<=maxLen) (cd:(os.n+m)*aH.bytes<=140737488355328)
  (M':a'->List aB) (GN:∀ cz:a',(cz.aP e++Mr).Perm (M' cz))
  (k:∀ cz:a',cz.n=os.n+m->(∀ g,cz.a=some g->I g=none)->cz.ok aH.size (xs++bV)->K (.val cz.val) I (M' cz)):sP X o F C I M K:=by
 refine⟨fun β a w Q ki=>?_⟩;have Bl:bV.length=m*aH.size:=by obtain⟨_,_,_,_,_,_,h⟩:=aq;exact h
 have gG:∀ w,ew I M w->(Builtin.firstCells aH.size m (.slice (some ad) m c')).run X.P w=.ok bV.toArray w:=λw hw=>by
  obtain⟨ch,cs,T,al,dS,aj,av⟩:=aq;refine run_firstCells_some (P:=X.P) w aH.size m ad m c' bV av λj v an=>?_;rw[dL _ ch,sL (dS.heap hw)];rw[<-aj,j9]at an;split at an;·rw[nZ]at an;simpa using an
  ·cases an
 have a5:cV X β a w F C I (os.aP e++Mr):=ki.h8 (.perm a1 .refl);obtain⟨inf,z,hi,fb,hV,iq,kM⟩:=(aN _ _ he).inf;obtain⟨ib,pf,lM⟩:=(aN _ _ ay).fi;have tX:ib=.slice e:=by rw[dW]at lM;cases ib<;>simp_all[e8]
 subst tX;have vF:z.cells.size=inf.size:=by rw[fb,<-(aN _ _ he).len,<-kM];simp
 have Kp:=bj;rw[<-fb]at bj Bl gG;obtain⟨g,c,aK,w',eV,a3,a6,bI,eQ,j0⟩:=TV (P:=X.P) (w:=w) t t o.type e inf z pf pf (λk bq=>by cases bq) hi iq vF bj (λg au=>a5.holds.m ⟨g,.cells os.aK.toArray e (0,0)⟩ (by simp[a'.aP,au])) (x:=.slice (some ad) m c') hm Bl (w4 aa) (λ_=>rfl) (λw' M4=>gG w' (ki.holds.heap M4)) b1 (by rw[hV];exact cd);rw[fb]at a3 eQ Bl;have M5:I g=none:=by
  rcases j0 with⟨au,_⟩ | ⟨rfl,_⟩;·exact a5.holds.d ⟨g,.cells os.aK.toArray e (0,0)⟩ (by simp[a'.aP,au])
  ·cases bA:I w.heap.size with
   |none=>rfl| some og=>have:=a5.holds.i _ _ bA;simp at this
 have es:=dh a5.al ap;have ex:=dh a5.al ae;have ai8:(⟨some g,os.n+m,c,aK⟩:a').ok aH.size (xs++bV):=by
  refine⟨?_,(λh=>by cases h),λdv au=>?_⟩;·rw[cI,Kp.len,Bl,kS]
  ·cases au;exact⟨a3,a6,bI,eQ⟩
 refine il (by rw[aw];simp) (v:=.slice (some ⟨g,0,none⟩) (os.n+m) c) (w':=w') ?_ ⟨_,.val (.slice (some ⟨g,0,none⟩) (os.n+m) c),I,M' ⟨some g,os.n+m,c,aK⟩,rfl,rfl,?_,k ⟨some g,os.n+m,c,aK⟩ rfl (λdv au=>by cases au;exact M5) ai8,rfl⟩
 ·unfold execOp;simp only[aw,resolve,invoke,builtin,cm,c9,b3,sW,cY,kR,es,ex,eV]
 ·refine cV.h8 ?_ (.perm (GN _) .refl);rcases j0 with⟨au,rfl⟩ | ⟨rfl,rfl⟩
  ·have ai:os.aP e=[⟨g,.cells os.aK.toArray e (0,0)⟩]:=by simp[a'.aP,au]
   rw[ai]at a5;exact a5.vb (bc:=[]) (post:=Mr) rfl
  ·have ab:cV X β a w.drew F C I (os.aP e++Mr):=a5.world rfl;have ag:=ab.o0 (.cells aK.toArray e (0,0));refine ag.h8 (.sub ?_ .refl);exact List.Sublist.cons_cons _ (jY _ _)
def sP.uB{K:dn->aZ->List aB->Prop}(aN:c2 X.P X.E){s:Operand}(aw:o.op=.call { callee:=.builtin .append,args:=#[s,x],argTypes:=#[t,t] })
 (ay:X.E t=some dk) (dW:dk.bE=.slice e) (he:X.E e=some aH)
  (os:a') (bj:os.ok aH.size xs) (ap:bB F s=.val os.val)
 {cs:List Value} (ae:bB F x=.val (.slice (some ⟨bW,0,none⟩) 1 c')) (av:cs.length=aH.size) (aa:fO cs=true)
  (bc post:List aB) (a1:M=⟨bW,.cells cs.toArray e (0,0)⟩::(bc++(os.aP e++post))) (b1:os.n+1<=9223372036854775807) (cd:(os.n+1)*aH.bytes<=140737488355328)
  (k:∀ cz:a',cz.n=os.n+1->(∀ g,cz.a=some g->I g=none)->cz.ok aH.size (xs++cs)->K (.val cz.val) I (⟨bW,.cells cs.toArray e (0,0)⟩::(bc++(cz.aP e++post)))):sP X o F C I M K:=by
 have aD:∀ cz:a',(cz.aP e++(⟨bW,.cells cs.toArray e (0,0)⟩::(bc++post)):List aB).Perm (⟨bW,.cells cs.toArray e (0,0)⟩::(bc++(cz.aP e++post))):=λcz=>
  qk.trans (.cons _ (zg _ _ _))
 refine .ai7 aN aw ay dW he os bj ap (m:=1) (bV:=cs) ae (by decide) ?_ aa (Mr:=⟨bW,.cells cs.toArray e (0,0)⟩::(bc++post)) ?_ (by unfold maxLen;exact b1) cd _ aD k
 ·rw[p6];refine⟨rfl,_,_,_,.inr ⟨⟨bW,.cells cs.toArray e (0,0)⟩,by rw[a1];exact .head _,rfl,rfl⟩,?_,av⟩;simp only[sX];exact eW (by omega)
 ·rw[a1];exact(aD os).symm
end
def DE{ds:List aQ}(hi:i<ds.length):cL (ds.take (i+1))=cL (ds.take i)+ds[i].t.ns.length:=by unfold cL;rw[gf hi,e7,NC];simp
def GO(ds:List aQ)(i:Nat):cL (ds.take i)<=cL ds:=by
 conv=>rhs;rw[<-sV i ds]
 unfold cL;rw[e7,NC];omega
def Pj:∀ (b:Nat) (ds:List aQ) (i:Nat) (hi:i<ds.length) (c7:i<(hR b ds).length),(hR b ds)[i]=b+cL (ds.take i)+ds[i].t.bD.toNat
 |b,d::ds,0,_,_=>by simp[hR,cL]
 |b,d::ds,i+1,hi,c7=>by have:=Pj (b+d.t.ns.length) ds i (by simpa using hi) (by simpa[hR]using c7);simp only[hR,I0,this,nt];simp[cL];omega
def ai9(m:Nat):rowOf jo.cells (m*4)=(List.replicate m jo).flatMap cv.cells:=by
 induction m with
 |zero=>rfl
 |succ w a7=>
  have e:(w+1)*4=w*4+4:=by omega
  have aE:rowOf jo.cells ((w+1)*4)=rowOf jo.cells (w*4)++jo.cells:=by
   unfold rowOf;rw[e,List.range_add,e7];congr 1;apply xi (by rfl);intro i aa ab;simp only[lq,r'];have ag:i<4:=by simpa using aa
   have aW:(w*4+i)%jo.cells.length=i:=by show(w*4+i)%4=i;omega
   rw[aW]
   match i,ag with
   |0,_=>rfl| 1,_=>rfl| 2,_=>rfl| 3,_=>rfl
  rw[aE,a7,List.replicate_succ'];simp
def XM(w:Nat):∀ n,((List.range n).flatMap λ_=>(List.range w).flatMap λ_=>jo.cells)=(List.replicate (n*w) jo).flatMap cv.cells
 |0=>by rw[vw];rfl
 |n+1=>by
  have aa:((List.range w).flatMap λ_=>jo.cells)=(List.replicate w jo).flatMap cv.cells:=by
   have e:(List.range w).map (λ_=>jo)=List.replicate w jo:=by rw[List.map_const',se]
   rw[<-e,Dv]
  rw[Dw,lS,XM w n,ob,NA,eh,aa,<-lS,List.replicate_append_replicate,kS,p6]
def DF(fp w i:Nat):Value:=.slice (some ⟨fp,i*(w*4),none⟩) w w
def GP(fp w n:Nat):List Value:=(List.range n).map (DF fp w)
def aja(n w:Nat)(aq:n<=4096)(hw:w<=8192)(aa:1<=w):Spec Tryz.prog 39 [.int .i64 n,.int .i64 w] I M0 λv I' M'=>I'=I/\∃ jQ fp,v=.slice (some ⟨jQ,0,none⟩) n n /\
  M'=⟨jQ,.cells (GP fp w n).toArray 105 (0,0)⟩::⟨fp,.cells ((List.replicate (n*w) jo).flatMap cv.cells).toArray 107 (0,0)⟩::M0:=by
 refine bN [] aV Tryz.func39 rfl rfl rfl ?_;intro B ar;have bs:∀ i,i<=n->i*w<=33554432:=λi hi=>by have:=Nat.mul_le_mul (lg hi aq) hw;omega
 have asM:=bs n (cj _);refine bd.mk ((n*w:Nat):Int) (gK (by simp) (by omega)) ?_;refine n1.mk (n*w) (n*w) rfl rfl (cj _) (by show 16*(n*w)<=_;omega) (by omega) ?_;refine b8.mk λfp ajb asN=>?_;refine n1.mk n n rfl rfl (cj _) (by show 24*n<=_;omega) (by omega) ?_;refine b8.mk λjQ XN asO=>?_;refine c4.inv (ι:=Nat) (λi=>{ bu:=[(1,.val (.int .i64 w)),(5,.val (.slice (some ⟨fp,0,none⟩) (n*w) (n*w))),(6,.val (.slice (some ⟨jQ,0,none⟩) n n)),(15,.val (.int .i64 n)),(16,.val (.int .i64 i))],cl:=[],cS:=I,db:=⟨jQ,.cells ((List.range i).map (DF fp w)++List.replicate (n-i) (Value.slice none 0 0)).toArray 105 (0,0)⟩::⟨fp,.cells ((List.replicate (n*w) jo).flatMap cv.cells).toArray 107 (0,0)⟩::M0 }) (λi=>i<=n) (λi=>n-i) ?_ ?_
 ·refine⟨0,bw _,.pH ?_,gS,.nil⟩;have az:rowOf [Value.slice none 0 0] (n*1)=List.replicate n (Value.slice none 0 0):=by rw[yS,fP]
  have aE:=ai9 (n*w);show(⟨jQ,.cells (rowOf [Value.slice none 0 0] (n*1)).toArray 105 (0,0)⟩:aB)::⟨fp,.cells (rowOf jo.cells (n*w*4)).toArray 107 (0,0)⟩::M0=_;rw[az,aE];rfl
 intro i hi;refine aU.mk (λe=>?_) (λe=>?_)
 ·have aR:i<n:=by simpa using e
  have fb:=bs i hi;have hV:=bs (i+1) (by omega);have Pk:(i+1)*w=i*w+w:=by rw[kS,p6]
  have ajc:(i+1)*w<=n*w:=rH _ aR;refine bd.mk ((i*w:Nat):Int) (gK (by simp) (by omega)) ?_;refine bd.mk _ (cx (i:=i) (by omega)) ?_;refine bd.mk (((i+1)*w:Nat):Int) (gK (by simp) (by omega)) ?_;refine bd.mk _ (cx (i:=i) (by omega)) ?_;refine bd.mk (((i+1)*w:Nat):Int) (gK (by simp) (by omega)) ?_;refine bn.slice3 aV rfl (by simp) (e:=107) rfl rfl rfl (i*w) ((i+1)*w) ((i+1)*w) (ad:=some ⟨fp,0,none⟩) (n:=n*w) (c:=n*w) rfl rfl rfl rfl (by omega) (cj _) ajc ?_;refine bi.mk ⟨jQ,0,none⟩ i rfl rfl aR ?_;refine cp.jj [] _ ((List.range i).map (DF fp w)++List.replicate (n-i) (Value.slice none 0 0)) _ rfl ?_ rfl ((List.range (i+1)).map (DF fp w)++List.replicate (n-(i+1)) (Value.slice none 0 0)) ?_ ?_;·rw[oA,cI,c8,se,vv];show 0+i*1+1<=_;omega
  ·have r8:List.replicate (n-i) (Value.slice none 0 0)=.slice none 0 0::List.replicate (n-(i+1)) (Value.slice none 0 0):=by rw[show n-i=(n-(i+1))+1 from by omega,y1]
   have aj:(Value.slice (if(i+1)*w=i*w then some ⟨fp,0,none⟩else(some (⟨fp,0,none⟩:Addr)).map (·.add (i*w*4))) ((i+1)*w-i*w) ((i+1)*w-i*w))=DF fp w i:=by rw[cb (by omega),Pk,OZ];unfold DF;rw[ka,dL _ rfl,c0,Nat.mul_assoc]
   rw[r8,Dw,e7,fq];refine(N8 (k:=0+i*1) (by rw[c8,se];omega)).trans ?_;rw[aj];rfl
  refine bd.mk _ (cx (i:=i) (by omega)) ?_;exact⟨i+1,⟨by omega,by omega⟩,.refl,gS,.nil⟩
 ·have cP:n<=i:=by simpa using e
  obtain rfl:i=n:=by omega
  refine⟨_,_,.refl,rfl,jQ,fp,rfl,?_⟩;rw[pD,List.replicate_zero,eh];rfl
def DG{G:Fr}{y:Operand}{r:dn}(h:dq G y=dq F y)(aX:bB F y=r):bB G y=r:=by simp only[bB,dR,h];exact aX
def ajd{d:aS}{n:Int}(h:fits d n=true)(ar:0<=d.k):d.t.size<=255:=by
 unfold fits at h;have z:(⟨#[]⟩:ByteArray).size=0:=rfl;cases aa:decide (10<=d.k)with
 |true=>rw[aa]at h;cases h
 |false=>
  rw[aa,bh]at h;cases ab:decide (n<s5 d.k.toNat)||(decide (0<=p' d.k.toNat)&&decide (p' d.k.toNat<n))with
  |true=>rw[ab]at h;cases h
  |false=>
   rw[ab,bh]at h;cases ag:decide (d.k=1)with
   |true=>rw[ag,bl]at h;simp only[b',eU]at h;rw[h.1,z];omega
   |false=>
    rw[ag,bh]at h;cases aW:decide (d.k=2)with
    |true=>rw[aW,bl]at h;simp only[b',oX,oa,nr]at h;omega
    |false=>
     rw[aW,bh]at h;cases bC:decide (d.k=3)||decide (d.k=9)with
     |true=>rw[bC,bl]at h;simp only[kl,b',eU]at h;omega
     |false=>
      rw[bC,bh]at h;cases bP:decide (d.k=6)with
      |true=>rw[bP,bl]at h;simp only[b',eU]at h;rw[h.2.2,z];omega| false=>rw[bP,bh]at h;simp only[b',eU]at h;rw[h.2.1,z];omega
def aje{b T:Nat}{l:List Nat}(h:I b=some (.cells (l.map λ(k:Nat)=>Value.int .i64 (k:Int)).toArray T (0,0)))(av:l.length<=1048576){n:Nat}(aq:l.length=n):eB I (some ⟨b,0,none⟩) n n 1 8 (l.map λ(k:Nat)=>Value.int .i64 (k:Int)):=by subst aq;refine⟨by simp,⟨cj _,by omega⟩,.inr ⟨_,rfl,rfl,_,T,(0,0),h,?_⟩⟩;simp only[sX];exact eW (by simp)
def x3(d:aQ):Value:=.string d.name
def ajf{g:bJ}(au:g.ok I)(aq:g.n<=4096):Spec Tryz.prog 37 [g.val] I M0 λv I' M'=>I'=I/\∃ os:a',v=os.val/\os.n=g.n/\os.ok 1 (g.ds.map x3)/\M'=os.aP 9++M0:=by
 refine bN [] aV Tryz.func37 rfl rfl rfl ?_;intro B ar;have eH:=au.n;refine c4.inv (ι:=Nat×a') (λx=>{ bu:=[(3,.val x.2.val),(7,.val (.slice g.a g.n g.c)),(8,.val (.int .i64 g.n)),(9,.val (.int .i64 x.1))],cS:=I,db:=x.2.aP 9++M0 }) (λx=>x.1<=g.n/\x.2.n=x.1/\x.2.ok 1 ((g.ds.take x.1).map x3)) (λx=>g.n-x.1) ?_ ?_
 ·exact⟨(0,lu),⟨bw _,rfl,mT 1⟩,.refl,ey,.nil⟩
 rintro⟨i,os⟩⟨hi,l3,ca⟩;simp only at hi l3 ca;refine aU.mk (λh=>?_) (λh=>?_)
 ·have aR:i<g.n:=by simpa using h
  have bZ:i<g.ds.length:=by omega
  obtain⟨ad,bF,bk⟩:=au.a8.row aQ.cD aR bZ;refine bi.mk ad i bF rfl aR ?_;refine aI.mk _ (bk _) ?_;refine b8.mk λbW gJ te=>?_;refine bn.uB aV rfl (by simp) (e:=9) rfl rfl rfl os ca rfl (cs:=[.string (g.ds[i]).name]) rfl rfl rfl [] M0 rfl (by omega) (by show(os.n+1)*16<=_;omega) ?_;intro hn pI eM gh;refine bd.mk _ (cx (i:=i) (by omega)) ?_;refine⟨(i+1,hn),⟨⟨aR,by simp only;omega,?_⟩,by simp only;omega⟩,.refl,ey,.nil⟩;simp only;rw[gf bZ,e7];exact gh
 ·have cP:g.n<=i:=by simpa using h
  obtain rfl:i=g.n:=by omega
  rw[eW (by omega)]at ca;exact⟨_,_,.refl,rfl,os,rfl,l3,ca,rfl⟩
def ajg{ds:List aQ}{n:Nat}(ak:eB I jm n c 1 16 (ds.map x3))(nm:ByteArray):Spec Tryz.prog 91 [.slice jm n c,.string nm] I M0 λv I' M'=>v=.int .i64 (b2 nm ds 0)/\I'=I/\M'=M0:=by
 refine bN [] aV Tryz.func91 rfl rfl rfl ?_;intro B ar;have aq:ds.length=n:=by have:=ak.len;rw[c8]at this;omega
 have hz:=ak.cap.2;refine c4.inv (ι:=Nat) (λi=>{ bu:=[(0,.val (.slice jm n c)),(1,.val (.string nm)),(7,.val (.int .i64 n)),(8,.val (.int .i64 i))],cS:=I,db:=M0 }) (λi=>i<=n/\b2 nm ds 0=b2 nm (ds.drop i) i) (λi=>n-i) ?_ ?_
 ·exact⟨0,⟨bw _,rfl⟩,.refl,ey,.nil⟩
 rintro i⟨hi,aJ⟩;refine aU.mk (λh=>?_) (λh=>?_)
 ·have aR:i<n:=by simpa using h
  have bZ:i<ds.length:=by omega
  obtain⟨ad,bF,bk⟩:=ak.one (f:=x3) aR bZ;have ko:ds.drop i=ds[i]::ds.drop (i+1):=eE bZ;rw[ko,b2]at aJ;refine bi.mk ad i bF rfl aR ?_;refine aI.mk _ (bk _) ?_;refine aU.mk (λab=>?_) (λab=>?_);·have e:(ds[i]).name=nm:=(c1 ab).symm;rw[eN e,bl]at aJ;exact⟨_,_,.refl,by rw[aJ],rfl,rfl⟩
  ·have e:¬ (ds[i]).name=nm:=λe=>dj ab e.symm;rw[de e,bh]at aJ;refine bd.mk _ (cx (i:=i) (by omega)) ?_;exact⟨i+1,⟨⟨aR,aJ⟩,by omega⟩,.refl,ey,.nil⟩
 ·have cP:n<=i:=by simpa using h
  refine⟨_,_,.refl,?_,rfl,rfl⟩;rw[aJ,ji (by omega)];rfl
def oG(bt:Nat)(s:ByteArray)(nv rv Bm rwv:Value):aB:=⟨bt,.cells [.string s,nv,rv,Bm,rwv].toArray 91 (0,0)⟩
def Bn{s:ByteArray}{Bm:Value}(a1:oG bt s nv rv Bm rwv∈M)(an:j<5):cr I M ((⟨bt,0,none⟩:Addr).add j) 1 [([.string s,nv,rv,Bm,rwv]:List Value).getD j undef]:=by
 have h:=dO (I:=I) (cs:=[.string s,nv,rv,Bm,rwv]) (k:=j) (n:=1) a1 (by show j+1<=5;omega);have:(([.string s,nv,rv,Bm,rwv]:List Value).drop j).take 1=[([.string s,nv,rv,Bm,rwv]:List Value).getD j undef]:=by
  match j,an with
  |0,_=>rfl| 1,_=>rfl| 2,_=>rfl| 3,_=>rfl| 4,_=>rfl
 rwa [this]at h
def uG(b:Nat)(L:List Nat)(n:aS):aS:={ n with hk:=some ⟨b,0,none⟩,kn:=L.length,gR:=L.length,aL:=L.map λ(k:Nat)=>(k:Int) }
def ajh(b:Nat)(L:List Nat)(n:aS):(uG b L n).pn=⟨n.Bh,L⟩:=by unfold aS.pn uG;congr 1;rw[jl];exact List.map_id'' (λx=>by simp) L
def aji{b T:Nat}{n:aS}(h:n.ok I)(bA:I b=some (.cells (L.map cy).toArray T (0,0)))(av:L.length<=1048576)(b9:∀ x∈L,x<=1048576):(uG b L n).ok I:=by
 refine { h with a8:=?_,aL:=λx ae=>?_ }
 ·show eB I (some ⟨b,0,none⟩) L.length L.length 1 8 ((L.map λ(k:Nat)=>(k:Int)).map (.int .i64 ·));rw[jl];exact aje (T:=T) bA av rfl
 ·obtain⟨y,aF,rfl⟩:=dA.1 ae;have:=b9 y aF;unfold iT;omega
structure XO(I:aZ)(ds:List aQ)(jm eJ:Option Addr)(pJ jq:Nat)(be:Nat)(t:cB):Prop where
 nm:eB I jm ds.length pJ 1 16 (ds.map x3)
 rt:eB I eJ ds.length jq 1 8 ((hR 0 ds).map cy)
 ns:∀ n∈t.ns,(∀ k∈n.aL,0<=k/\k.toNat<=4096)/\n.aL.length<=4096/\n.t.size<=4096
 ajj:∀ x∈hR 0 ds,x<=4096
 len:ds.length<=4096
 many:be+t.n<=4096
def v5(ds:List aQ)(be:Nat)(n:aS):qm:=⟨n.Bh,iH ds be n⟩
def jR(p:Nat×List Nat):aB:=⟨p.1,.cells (p.2.map cy).toArray 3 (0,0)⟩
def pK(kb:List (Nat×List Nat))(ns:List aS):List aS:=List.zipWith (λp n=>uG p.1 p.2 n) kb ns
structure GQ(ds:List aQ)(xs:List aS)(t:cB)(i:Nat)(os:a')(kb:List (Nat×List Nat)):Prop where
 ii:i<=t.n
 n:os.n=xs.length+i
 ok:os.ok 9 ((xs++pK kb (t.ns.take i)).flatMap aS.cells)
 kb:kb.map (·.2)=(t.ns.take i).map (iH ds xs.length)
 find:∀ n∈t.ns.take i,n.k=3->0<=b2 n.t ds 0
def ajk{ns:List aS}(h:kb.length=ns.length)(p:Nat×List Nat)(n:aS):pK (kb++[p]) (ns++[n])=pK kb ns++[uG p.1 p.2 n]:=by unfold pK;rw[List.zipWith_append h];rfl
def GQ.len{ds:List aQ}{xs:List aS}{t:cB}(h:GQ ds xs t i os kb)(aq:t.ns.length=t.n):kb.length=(t.ns.take i).length:=by have:=congrArg List.length h.kb;simpa using this
def XP(x y:aB)(A:List aB)(kb:List (Nat×List Nat)){p:Nat×List Nat}(ae:x=jR p:=by rfl):(x::y::(A++kb.map jR)).Perm (y::(A++(kb++[p]).map jR)):=by subst ae;rw[e7,<-fq];exact(List.Perm.swap _ _ _).trans (.cons _ (hX (l₁:=[jR p]) (l₂:=A++kb.map jR)))
def ajl{t:cB}(ay:t.ok I){ds:List aQ}{eJ:Option Addr}{pJ jq:Nat}{xs:List aS}(h:XO I ds jm eJ pJ jq xs.length t){os0:a'}(pB:os0.ok 9 (xs.flatMap aS.cells))(bt:Nat)(s:ByteArray)(rwv:Value) :
  Spec Tryz.prog 38 [ptr bt,t.val] I (oG bt s (.slice jm ds.length pJ) (.slice eJ ds.length jq) os0.val rwv::(os0.aP 83++[])) λv I' M'=>I'=I/\∃ (i:Nat) (os:a') (kb:List (Nat×List Nat)),GQ ds xs t i os kb /\
   M'=oG bt s (.slice jm ds.length pJ) (.slice eJ ds.length jq) os.val rwv::(os.aP 83++kb.map jR)/\((v=.bool true/\i=t.n)\/(v=.bool false/\∃ n∈t.ns,n.k=3/\b2 n.t ds 0<0)):=by
 refine bN [] aV Tryz.func38 rfl rfl rfl ?_;intro B ar;have lX:=ay.n;have asP:=h.many;have ajm:os0.n=xs.length:=by have:=pB.len;rw[fQ _ 9 aS.cD]at this;omega
 refine aI.mk _ (Bn (j:=3) (.head _) (by decide)) ?_;refine c4.inv (ι:=Nat×a'×List (Nat×List Nat)) (λx=>{ bu:=[(0,.val (ptr bt)),(4,.lit false),(5,.val (.int .i64 os0.n)),(18,.val (.slice t.a t.n t.c)),(19,.val (.int .i64 t.n)),(20,.val (.int .i64 x.1))],cl:=[],cS:=I,db:=oG bt s (.slice jm ds.length pJ) (.slice eJ ds.length jq) x.2.1.val rwv::(x.2.1.aP 83++x.2.2.map jR) }) (λx=>GQ ds xs t x.1 x.2.1 x.2.2) (λx=>t.n-x.1) ?_ ?_
 ·exact⟨(0,os0,[]),⟨bw _,ajm,by simpa[pK]using pB,rfl,λn aq=>(by cases aq)⟩,.refl,kf,.nil⟩
 rintro⟨i,os,kb⟩jX;have hi:=jX.ii;have l3:=jX.n;have Pl:=jX.ok;have Kq:=jX.len lX;simp only at hi l3 Pl Kq;refine aU.mk (λe=>?_) (λe=>?_)
 rotate_left
 ·have cP:t.n<=i:=by simpa using e
  obtain rfl:i=t.n:=by omega
  exact⟨_,_,.refl,rfl,t.n,os,kb,jX,rfl,.inl ⟨rfl,rfl⟩⟩
 have aR:i<t.n:=by simpa using e
 have bZ:i<t.ns.length:=by omega
 obtain⟨ad,bF,bk⟩:=ay.a8.row aS.cD aR bZ;obtain⟨d,ah⟩:∃ d,t.ns[i]=d:=⟨_,rfl⟩;have eS:d∈t.ns:=by rw[<-ah];exact cJ bZ
 have n':=ay.ns d eS;have dS:=n'.kn;obtain⟨e3,cw,uC⟩:=h.ns d eS;rw[ah]at bk;have kk:t.ns.take (i+1)=t.ns.take i++[d]:=by rw[gf bZ,ah]
 have Gg:∀ (b:Nat) (L:List Nat),((xs++pK kb (t.ns.take i)).flatMap aS.cells)++(uG b L d).cells=(xs++pK (kb++[(b,L)]) (t.ns.take (i+1))).flatMap aS.cells:=λb L=>by rw[kk,ajk Kq,<-fq,lS];simp
 have next:∀ (b:Nat) (L:List Nat) (cz:a'),L=iH ds xs.length d->(d.k=3->0<=b2 d.t ds 0)->cz.n=os.n+1->cz.ok 9 ((xs++pK kb (t.ns.take i)).flatMap aS.cells++(uG b L d).cells)->GQ ds xs t (i+1) cz (kb++[(b,L)]):=λb L cz b9 aJ aq bj=>by
  refine⟨aR,by omega,by rw[<-Gg];exact bj,?_,λn aq=>?_⟩;·rw[e7,jX.kb,kk,e7,b9];rfl
  ·rw[kk]at aq;rcases dQ.1 aq with aq | aq
   ·exact jX.find n aq
   ·rw[fW.1 aq];exact aJ
 refine bi.mk ad i bF rfl aR ?_;refine aI.mk _ (bk _) ?_;refine n1.mk d.kn d.kn rfl rfl (cj _) (by show 8*d.kn<=_;omega) (by omega) ?_;refine b8.mk λen We ajn=>?_;refine c4.inv (ι:=Nat) (λj=>{ bu:=[(0,.val (ptr bt)),(4,.lit false),(5,.val (.int .i64 os0.n)),(7,.ref 7 0),(8,.val (.slice (some ⟨en,0,none⟩) d.kn d.kn)),(18,.val (.slice t.a t.n t.c)),(19,.val (.int .i64 t.n)),(20,.val (.int .i64 i)),(29,.val (.slice d.hk d.kn d.gR)),(30,.val (.int .i64 d.kn)),(31,.val (.int .i64 j))],cl:=[(7,d.cells)],cS:=I,db:=⟨en,.cells ((d.aL.take j).map (λk=>cy (xs.length+k.toNat))++List.replicate (d.kn-j) (cy 0)).toArray 3 (0,0)⟩::oG bt s (.slice jm ds.length pJ) (.slice eJ ds.length jq) os.val rwv::(os.aP 83++kb.map jR) }) (λj=>j<=d.kn) (λj=>d.kn-j) ?_ ?_
 ·refine⟨0,bw _,.pH ?_,Ti,.cons rfl (.nil)⟩;have e:rowOf [cy 0] (d.kn*1)=List.replicate d.kn (cy 0):=by rw[yS,fP]
  show(⟨en,.cells (rowOf [cy 0] (d.kn*1)).toArray 3 (0,0)⟩:aB)::_=_;rw[e];rfl
 intro j an;refine aU.mk (λaE=>?_) (λaE=>?_)
 ·have Pm:j<d.kn:=by simpa using aE
  have Pn:j<d.aL.length:=by omega
  obtain⟨fR,fS,e2⟩:=n'.a8.one (f:=λ(k:Int)=>Value.int .i64 k) Pm Pn;have DH:=e3 _ (cJ Pn);refine bi.mk fR j fS rfl Pm ?_;refine aI.mk _ (e2 _) ?_;refine bd.mk ((xs.length+d.aL[j].toNat:Nat):Int) (gK (by omega) (by omega)) ?_;refine bi.mk ⟨en,0,none⟩ j rfl rfl Pm ?_;refine cp.jj [] _ ((d.aL.take j).map (λk=>cy (xs.length+k.toNat))++List.replicate (d.kn-j) (cy 0)) _ rfl ?_ rfl ((d.aL.take (j+1)).map (λk=>cy (xs.length+k.toNat))++List.replicate (d.kn-(j+1)) (cy 0)) ?_ ?_;·rw[oA,cI,c8,hh,vv];show 0+j*1+1<=_;omega
  ·have r8:List.replicate (d.kn-j) (cy 0)=cy 0::List.replicate (d.kn-(j+1)) (cy 0):=by rw[show d.kn-j=(d.kn-(j+1))+1 from by omega,y1]
   rw[r8,gf Pn,e7,fq];exact N8 (k:=0+j*1) (by rw[c8,hh];omega)
  refine bd.mk _ (cx (i:=j) (by omega)) ?_;exact⟨j+1,⟨by omega,by omega⟩,.refl,Ti,.cons rfl (.nil)⟩
 have cP:d.kn<=j:=by simpa using aE
 obtain rfl:j=d.kn:=by omega
 have oy:(d.aL.take d.kn).map (λk=>cy (xs.length+k.toNat))++List.replicate (d.kn-d.kn) (cy 0)=(d.aL.map λk=>xs.length+k.toNat).map cy:=by rw[eW (by omega),pD];simp[Function.comp_def]
 rw[oy];refine aU.mk (λag=>?_) (λag=>?_)
 ·have Bo:d.k=3:=c1 ag;refine c5.draw aV rfl rfl rfl ?_;refine aI.mk _ (Bn (j:=1) (.tail _ (.head _)) (by decide)) ?_;refine a9.whole _ (ajg h.nm d.t) ?_;rintro v I' M' -⟨rfl,rfl,rfl⟩;refine aU.mk (λcT=>?_) (λcT=>?_)
  ·have XQ:b2 d.t ds 0<0:=c1 cT;exact⟨_,_,.sub (.cons _ (.refl _)) .refl,rfl,i,os,kb,jX,rfl,.inr ⟨rfl,d,eS,Bo,XQ⟩⟩
  have XQ:¬ b2 d.t ds 0<0:=dj cT;have lY:=OL ds 0 (by omega:0<=b2 d.t ds 0);obtain⟨q,aM⟩:∃ q:Nat,b2 d.t ds 0=(q:Int):=⟨(b2 d.t ds 0).toNat,by omega⟩;have fm:q<ds.length:=by omega
  have Kr:q<(hR 0 ds).length:=by rw[Dm];exact fm
  obtain⟨ac,ajo,k0⟩:=h.rt.one (f:=cy) fm Kr;have DI:[(hR 0 ds)[q]]=iH ds xs.length d:=by rw[iH,eN Bo,bl,aM];simp[cC,Kr]
  refine aI.mk _ (Bn (j:=2) (.tail _ (.head _)) (by decide)) ?_;refine bi.mk ac q ajo aM fm ?_;refine aI.mk _ (k0 _) ?_;refine b8.mk λGR asQ asR=>?_;refine c5.draw aV rfl rfl rfl ?_;refine aI.mk _ (Bn (j:=3) (.tail _ (.tail _ (.head _))) (by decide)) ?_;refine b8.mk λbW gJ jO=>?_;intro G iu;refine sP.uB aV rfl (e:=83) rfl rfl rfl os Pl (DG (iu _ (by simp[Op.operands,Call.operands])) rfl) (DG (iu _ (by simp[Op.operands,Call.operands])) rfl) (cs:=(uG GR [(hR 0 ds)[q]] d).cells) rfl rfl ([jR (GR,[(hR 0 ds)[q]]),⟨en,.cells ((d.aL.map λk=>xs.length+k.toNat).map cy).toArray 3 (0,0)⟩,oG bt s (.slice jm ds.length pJ) (.slice eJ ds.length jq) os.val rwv]) (kb.map jR) rfl (by omega) (by show(os.n+1)*96<=_;omega) ?_;intro cz aa ab aW;refine cp.mk (⟨bW,_⟩::[jR (GR,[(hR 0 ds)[q]]),⟨en,.cells ((d.aL.map λk=>xs.length+k.toNat).map cy).toArray 3 (0,0)⟩]) (cz.aP 83++kb.map jR) _ _ rfl rfl (bS rfl) rfl ?_;refine bd.mk _ (cx (i:=i) (by omega)) ?_;refine⟨(i+1,cz,kb++[(GR,[(hR 0 ds)[q]])]),⟨next _ _ _ DI (λ_=>by omega) aa aW,by simp only;omega⟩,.sub (M1:=jR (GR,[(hR 0 ds)[q]])::oG bt s (.slice jm ds.length pJ) (.slice eJ ds.length jq) cz.val rwv::(cz.aP 83++kb.map jR)) (.cons _ (.cons_cons _ (.cons _ (.refl _)))) (.perm (XP _ _ _ _) .refl),kf,.nil⟩
 ·have Bo:¬ d.k=3:=dj ag;have DI:(d.aL.map λk=>xs.length+k.toNat)=iH ds xs.length d:=by rw[iH,de Bo,bh]
  have ajp:(d.aL.map λk=>xs.length+k.toNat).length=d.kn:=by rw[c8,dS]
  rw[<-ajp];refine c5.draw aV rfl rfl rfl ?_;refine aI.mk _ (Bn (j:=3) (.tail _ (.head _)) (by decide)) ?_;refine b8.mk λbW gJ jO=>?_;intro G iu;refine sP.uB aV rfl (e:=83) rfl rfl rfl os Pl (DG (iu _ (by simp[Op.operands,Call.operands])) rfl) (DG (iu _ (by simp[Op.operands,Call.operands])) rfl) (cs:=(uG en (d.aL.map λk=>xs.length+k.toNat) d).cells) rfl rfl ([jR (en,d.aL.map λk=>xs.length+k.toNat),oG bt s (.slice jm ds.length pJ) (.slice eJ ds.length jq) os.val rwv]) (kb.map jR) rfl (by omega) (by show(os.n+1)*96<=_;omega) ?_;intro cz aa ab aW;refine cp.mk (⟨bW,_⟩::[jR (en,d.aL.map λk=>xs.length+k.toNat)]) (cz.aP 83++kb.map jR) _ _ rfl rfl (bS rfl) rfl ?_;refine bd.mk _ (cx (i:=i) (by omega)) ?_;refine⟨(i+1,cz,kb++[(en,d.aL.map λk=>xs.length+k.toNat)]),⟨next _ _ _ DI (λh=>absurd h Bo) aa aW,by simp only;omega⟩,.sub (M1:=jR (en,d.aL.map λk=>xs.length+k.toNat)::oG bt s (.slice jm ds.length pJ) (.slice eJ ds.length jq) cz.val rwv::(cz.aP 83++kb.map jR)) (.cons _ (.refl _)) (.perm (XP _ _ _ _) .refl),kf,.nil⟩
def aQ.Po(d:aQ):Value:=.agg #[.string d.name,.slice d.t.a d.t.n d.t.c,.int .i64 d.t.bD]
def GS:aQ:=⟨⟨#[]⟩,⟨[],none,0,0,0⟩⟩
def rs(l:List aQ)(m:Nat):List (List Value):=(List.range m).reverse.map λi:Nat=>[.int .i64 (i:Int),(l.getD i GS).Po]
def ajq(l:List aQ)(m:Nat):rs l (m+1)=[.int .i64 m,(l.getD m GS).Po]::rs l m:=by unfold rs;rw[Dw,O1,List.reverse_singleton,AX,cY]
def Pp(l:List aQ)(m:Nat):(rs l m).length=m:=by simp[rs]
def ajr(l:List aQ){m k:Nat}(af:k<m):(rs l m)[k]'(by rw[Pp];exact af)=[.int .i64 ((m-1-k:Nat):Int),(l.getD (m-1-k) GS).Po]:=by simp only[rs,lq,List.getElem_reverse,se,r']
def ajs(a:Option Addr)(n c:Nat):Spec Tryz.prog 94 [.slice a n c] I [] λr I' M'=>∃ b,r=.func (.func 148) #[] #[ptr b]/\I' b=some (.cells #[.slice a n c] 22 (0,0))/\(∀ b o,I b=some o->I' b=some o)/\M'=[]:=by refine bN [1] aV Tryz.func94 rfl rfl rfl ?_;intro B ar;refine b8.mk λg au xp=>?_;exact⟨_,_,.nk rfl (by simp) .refl,g,rfl,q5 ..,lr au,rfl⟩
def ajt{g:bJ}(au:g.ok I){b:Nat}(ai:I b=some (.cells #[.slice g.a g.n g.c] 22 (0,0))) :
  Iter Tryz.prog 148 [ptr b] I (rs g.ds g.n):=by
 intro y R sZ vJ dM M0 pt ki;refine Ct [] aV Tryz.func148 rfl rfl rfl ?_;intro B ar;have hz:=au.a8.cap;have Dg:=au.n;have bk:∀ (cU:aZ) (M:List aB),(∀ b o,I b=some o->cU b=some o)->cr cU M ((⟨b,0,none⟩:Addr).add 0) 1 [.slice g.a g.n g.c]:=λcU M bO=>⟨rfl,_,_,_,.inl (bO _ _ ai),rfl,rfl⟩;refine aI.mk _ (bk _ _ pt) ?_;refine bd.mk ((g.n:Int)-1) (by rw[wrap_i64 (by unfold iT;omega)]) ?_;refine c4.inv (ι:=Nat×Nat×aZ×List aB) (λx=>{ bu:=[(0,.val (.func (.yield y) #[] #[])),(1,.val (ptr b)),(3,.val (.int .i64 ((x.1:Int)-1)))],cS:=x.2.2.1,db:=x.2.2.2 }) (λx=>x.1<=g.n/\(∀ b o,I b=some o->x.2.2.1 b=some o)/\R x.2.1 x.2.2.1 x.2.2.2/\x.2.1<=(rs g.ds g.n).length/\(rs g.ds g.n).drop x.2.1=rs g.ds x.1) (λx=>x.1) ?_ ?_
 ·exact⟨(g.n,0,dM,M0),⟨by simp,pt,ki,by simp,rfl⟩,.refl,fH,.nil⟩
 ·rintro⟨m,k,cU,M1⟩⟨hm,bO,kq,cw,gY⟩;simp only at hm bO kq cw gY;refine aU.mk (λh=>?_) (λh=>?_)
  ·have aR:(0:Int)<=(m:Int)-1:=c1 h;obtain⟨m,rfl⟩:∃ q,m=q+1:=⟨m-1,by omega⟩;have az:((m+1:Nat):Int)-1=(m:Int):=by omega
   obtain⟨ad,bF,NS⟩:=(au.a8.mono bO).row aQ.cD (j:=m) (by omega) (by omega);rw[ajq]at gY;obtain⟨af,aj,mq⟩:=drop_cons gY;refine aI.mk _ (bk _ _ bO) ?_;refine bi.mk ad m bF az (by omega) ?_;refine aI.mk _ (NS _) ?_;refine bn.yield rfl (by simp) rfl rfl ?_;have aF:=vJ k af cU M1 bO kq;rw[aj]at aF;have aE:g.ds.getD m GS=g.ds[m]:=by simp[cC,show m<g.ds.length by omega]
   rw[aE,<-az]at aF;refine Fu.mk M1 [] _ (by simp) aF ?_;rintro v ev ez eM (⟨rfl,pg⟩ | ⟨rfl,ae⟩);·refine aU.mk (λh=>by simp at h) (λ_=>?_);refine bd.mk ((m:Int)-1) (by rw[wrap_i64 (by unfold iT;omega)];omega) ?_;exact⟨(m,k+1,ev,ez),⟨⟨by simp only;omega,λb o h=>eM b o (bO b o h),pg,af,mq⟩,by simp only;omega⟩,.perm (by simp) .refl,fH,.nil⟩
   ·refine aU.mk (λ_=>?_) (λh=>by simp at h);exact⟨_,_,.perm (by simp) .refl,.inr ae⟩
  ·have cP:¬ (0:Int)<=(m:Int)-1:=dj h;obtain rfl:m=0:=by omega
   refine⟨_,_,.refl,.inl ?_⟩;have xt:k=(rs g.ds g.n).length:=by have:(rs g.ds g.n).drop k=[]:=gY.trans (by simp[rs]);have:=I1.1 this;omega
   rw[<-xt];exact kq
structure aju(ds:List aQ)(gN nn eI b6 m:Nat)(L:List Nat)(cN:List Value)(M:List aB):Prop where
 M:M=[⟨eI,.cells [.slice (some ⟨gN,0,none⟩) L.length nn].toArray 70 (0,0)⟩,⟨b6,.cells [.int .i64 ((cL (ds.take m):Nat):Int)].toArray 3 (0,0)⟩,dx gN cN]
 len:cN.length=nn
 aO:cN.take L.length=L.map cy
 Xy:L.length+cL (ds.take m)=nn
 mem:∀ x,x∈L ↔ cL (ds.take m)<=x/\x<nn
 bT:L.Nodup
def ajv{g:bJ}(au:g.ok I){s:ByteArray}{na:Option Addr}{nn nc:Nat}(dE:I bt=some (.cells ([.string s,nv,rv,.slice na nn nc,rwv]:List Value).toArray 91 (0,0)))(GU:nn=cL g.ds)(ai:nn<=1048576) :
  Spec Tryz.prog 41 [ptr bt,g.val] I [] λv I' M'=>(∀ b o,I b=some o->I' b=some o)/\∃ (gN:Nat) (L:List Nat) (cN:List Value),v=.slice (some ⟨gN,0,none⟩) L.length nn/\cN.length=nn/\cN.take L.length=L.map cy/\L.length=nn/\(∀ x,x∈L ↔ x<nn)/\L.Nodup/\M'=[dx gN cN]:=by
 refine bN [5,6] aV Tryz.func41 rfl rfl rfl ?_;intro B ar;have eH:=au.n;have XR:∀ {I':aZ} {M:List aB},(∀ b o,I b=some o->I' b=some o)->cr I' M ((⟨bt,0,none⟩:Addr).add 3) 1 [.slice na nn nc]:=λh=>by rw[dL _ rfl];exact⟨rfl,_,_,_,.inl (h _ _ dE),rfl,rfl⟩
 refine aI.mk _ (XR λ_ _ h=>h) ?_;refine n1.mk 0 nn rfl rfl (bw _) (by show 8*nn<=_;omega) (by omega) ?_;refine b8.mk λgN asS asT=>?_;refine b8.mk λeI F6 asU=>?_;refine cp.mk [] [⟨gN,_⟩] _ _ rfl rfl (bS rfl) rfl ?_;refine aI.mk _ (XR λ_ _ h=>h) ?_;refine b8.mk λb6 FX ajw=>?_;refine cp.mk [] [⟨eI,_⟩,⟨gN,_⟩] _ _ rfl rfl (bS rfl) rfl ?_;refine a9.mk [] _ _ (.refl _) (ajs g.a g.n g.c) ?_;rintro v cU M1 bO⟨cK,rfl,NV,-,rfl⟩;have kr:=au.mono bO;have Dn:cL (g.ds.take g.n)=nn:=by rw[eW (by omega),GU]
 refine c5.range (M1:=[⟨eI,.cells [.slice (some ⟨gN,0,none⟩) 0 nn].toArray 70 (0,0)⟩,⟨b6,.cells [.int .i64 (nn:Nat)].toArray 3 (0,0)⟩,dx gN (rowOf [cy 0] (nn*1))]) aV rfl rfl rfl (.perm (.swap _ _ _) .refl) (ajt kr NV) (λvs h=>?_) (λk I' M'=>∃ (L:List Nat) (cN:List Value),(∀ b o,cU b=some o->I' b=some o)/\aju g.ds gN nn eI b6 (g.n-k) L cN M') (λex I' M'=>False) ⟨[],rowOf [cy 0] (nn*1),λ_ _ h=>h,⟨?_,by simp[rowOf],rfl,by rw[xG,Dn];simp,λx=>?_,Ae⟩⟩ ?_ ?_ (λex I' M' _ h=>h.elim)
 ·obtain⟨p,_,rfl⟩:=dA.1 h;rfl
 ·rw[xG,Dn];rfl
 ·rw[xG,Dn];simp
 ·rintro k af I' M' -⟨L,cN,bs,a5⟩l B ar hY;obtain⟨rfl,fM,iF,oz,xE,Gc⟩:=a5;rw[Pp]at af;have aj:=ajr g.ds af;rw[aj];obtain⟨m,hm⟩:∃ m,g.n-k=m+1:=⟨g.n-k-1,by omega⟩;have xo:g.n-1-k=m:=by omega
  have ru:g.n-(k+1)=m:=by omega
  have iV:m<g.ds.length:=by omega
  have CJ:g.ds.getD m GS=g.ds[m]:=by simp[cC,iV]
  have kk:=DE iV;have lX:=(au.ds _ (cJ iV)).t.n;have sN:=GO g.ds (m+1);rw[xo,CJ];rw[hm]at oz xE;simp only[hm];generalize g.ds[m]=d at kk lX;have y9:∀ {M:List aB} {e:Nat},(⟨b6,.cells [.int .i64 (e:Int)].toArray 3 (0,0)⟩:aB)∈M->cr I' M ⟨b6,0,none⟩ 1 [.int .i64 (e:Int)]:=λa1=>⟨rfl,_,_,_,.inr ⟨_,a1,rfl,rfl⟩,rfl,rfl⟩;have ajx:∀ {M:List aB} {v:Value},(⟨eI,.cells [v].toArray 70 (0,0)⟩:aB)∈M->cr I' M ⟨eI,0,none⟩ 1 [v]:=λa1=>⟨rfl,_,_,_,.inr ⟨_,a1,rfl,rfl⟩,rfl,rfl⟩;refine aI.mk _ (y9 (e:=cL (g.ds.take (m+1))) (.tail _ (.head _))) ?_;refine bd.mk ((cL (g.ds.take m):Nat):Int) (gK (by omega) (by omega)) ?_;refine c4.inv (ι:=Nat×List Value) (λx=>{ bu:=[(5,.val (ptr eI)),(6,.val (ptr b6)),(9,.val (.int .i64 (cL (g.ds.take m):Nat))),(10,.val (.int .i64 ((cL (g.ds.take m)+x.1:Nat):Int)))],cl:=[],cS:=I',db:=[⟨eI,.cells [.slice (some ⟨gN,0,none⟩) (L++List.range' (cL (g.ds.take m)) x.1).length nn].toArray 70 (0,0)⟩,⟨b6,.cells [.int .i64 ((cL (g.ds.take (m+1)):Nat):Int)].toArray 3 (0,0)⟩,dx gN x.2] }) (λx=>x.1<=d.t.n/\x.2.length=nn/\x.2.take (L++List.range' (cL (g.ds.take m)) x.1).length=(L++List.range' (cL (g.ds.take m)) x.1).map cy) (λx=>d.t.n-x.1) ?_ ?_;·exact⟨(0,cN),⟨bw _,fM,by simpa using iF⟩,.pH (by simp),ey,.nil⟩
  rintro⟨x,c⟩⟨ae,eA,dz⟩;simp only at ae eA dz;have jf:(L++List.range' (cL (g.ds.take m)) x).length=L.length+x:=by rw[cI,List.length_range']
  refine aI.mk _ (y9 (e:=cL (g.ds.take (m+1))) (.tail _ (.head _))) ?_;refine aU.mk (λe=>?_) (λe=>?_)
  ·have aR:x<d.t.n:=by have bq:((cL (g.ds.take m)+x:Nat):Int)<((cL (g.ds.take (m+1)):Nat):Int):=c1 e;omega
   have gZ:List.range' (cL (g.ds.take m)) (x+1)=List.range' (cL (g.ds.take m)) x++[cL (g.ds.take m)+x]:=by rw[List.range'_concat];simp
   have uf:(L++List.range' (cL (g.ds.take m)) (x+1)).length=(L++List.range' (cL (g.ds.take m)) x).length+1:=by rw[gZ,<-fq,cI];rfl
   obtain⟨po,pq,C5⟩:=Pb (L:=L++List.range' (cL (g.ds.take m)) x) dz (by omega) (cL (g.ds.take m)+x);refine aI.mk _ (ajx (.head _)) ?_;refine b8.mk λbW gJ jO=>?_;refine bn.k6 aV rfl (by simp) (e:=3) rfl rfl rfl (g:=gN) (n:=(L++List.range' (cL (g.ds.take m)) x).length) (c:=nn) (aK:=c) rfl (show c.length=nn*1 by omega) (ad:=⟨bW,0,none⟩) (m:=1) (c':=1) rfl (bV:=[cy (cL (g.ds.take m)+x)]) ⟨rfl,_,_,_,.inr ⟨_,.head _,rfl,rfl⟩,rfl,rfl⟩ rfl (by omega) [_,_,_] [] rfl ?_;refine cp.mk [_] [_,_] _ _ rfl rfl (bS rfl) rfl ?_;refine bd.mk ((cL (g.ds.take m)+(x+1):Nat):Int) (gK (by omega) (by omega)) ?_;refine⟨(x+1,bo c ((L++List.range' (cL (g.ds.take m)) x).length*1) [cy (cL (g.ds.take m)+x)]),⟨⟨aR,po.trans eA,?_⟩,by simp only;omega⟩,.sub (.cons _ (.refl _)) (.pH ?_),ey,.nil⟩;·simp only;rw[gZ,<-fq];exact pq
   ·simp only;rw[uf];rfl
  ·have cP:d.t.n<=x:=by have bq:¬ ((cL (g.ds.take m)+x:Nat):Int)<((cL (g.ds.take (m+1)):Nat):Int):=dj e;omega
   obtain rfl:x=d.t.n:=by omega
   refine cp.mk [_] [_] _ _ rfl rfl (bS rfl) rfl ?_;refine⟨_,_,.refl,L++List.range' (cL (g.ds.take m)) d.t.n,c,bs,⟨?_,eA,dz,?_,λy=>?_,?_⟩⟩;·rw[ru];rfl
   ·rw[ru,jf];omega
   ·rw[ru,dQ,xE,O3];omega
   ·refine wW.2 ⟨Gc,List.nodup_range',λa aC b ai jJ=>?_⟩;rw[xE]at aC;rw[O3]at ai;omega
 ·rintro I' M' -⟨L,cN,bs,a5⟩;rw[Pp,pD]at a5;obtain⟨rfl,fM,iF,oz,xE,Gc⟩:=a5;have A0:cL (g.ds.take 0)=0:=rfl;rw[A0]at oz xE;refine aI.mk _ ⟨rfl,_,_,_,.inr ⟨_,.head _,rfl,rfl⟩,rfl,rfl⟩ ?_;refine⟨_,_,.sub (.cons _ (.cons _ (.refl _))) .refl,λb o h=>bs _ _ (bO _ _ h),gN,L,cN,rfl,fM,iF,by omega,λx=>by rw[xE];omega,Gc,rfl⟩
def x4(J:aZ)(os:a')(e:Nat):aZ:=match os.a with
 |some g=>ins J g (.cells os.aK.toArray e (0,0))| none=>J
def Pq{post:List aB}(aJ:∀ g,os.a=some g->g ∉ cq):jd cq J (os.aP e++post) (x4 J os e) post:=by
 obtain⟨a,n,c,aK⟩:=os;cases a with
 |none=>exact .refl| some g=>exact .nk rfl (aJ g rfl) .refl
def Pr(h:∀ x∈os.aP e++M,J x.num=none):∀ b o,J b=some o->x4 J os e b=some o:=by
 obtain⟨a,n,c,aK⟩:=os;cases a with
 |none=>exact λ_ _ h=>h
 |some g=>exact lr (h ⟨g,_⟩ (.head _))
def Ps{b:Nat}(h:os.ok size xs)(ai:os.n*b<=140737488355328):eB (x4 J os e) (os.a.map λg=>⟨g,0,none⟩) os.n os.c size b xs:=by
 obtain⟨a,n,c,aK⟩:=os;cases a with
 |none=>obtain⟨aa,ab⟩:=h.nil rfl;exact⟨h.len,⟨by simp only at aa ab |-;omega,ai⟩,.inl aa⟩
 |some g=>obtain⟨aa,ab,ag,aW⟩:=h.cap g rfl;exact⟨h.len,⟨ab,ai⟩,.inr ⟨⟨g,0,none⟩,rfl,rfl,aK.toArray,e,(0,0),q5 ..,by simpa using aW⟩⟩
def DJ(I:aZ):List (Nat×List Nat)->aZ
 |[]=>I| p::L=>DJ (ins I p.1 (.cells (p.2.map cy).toArray 3 (0,0))) L
def XS{cq:List Nat}{M:List aB}:∀ {I:aZ} (kb:List (Nat×List Nat)),(∀ p∈kb,p.1 ∉ cq)->jd cq I (kb.map jR++M) (DJ I kb) M
 |I,[],_=>.refl| I,p::L,h=>.nk rfl (h p (.head _)) (XS L λq aM=>h q (.tail _ aM))
def XT:∀ {I:aZ} (kb:List (Nat×List Nat)),(∀ p∈kb,I p.1=none)->(kb.map (·.1)).Nodup->(∀ b o,I b=some o->DJ I kb b=some o)/\∀ p∈kb,DJ I kb p.1=some (.cells (p.2.map cy).toArray 3 (0,0))
 |I,[],_,_=>⟨λ_ _ h=>h,λp aD=>by cases aD⟩
 |I,p::L,h,aq=>by
  rw[cY,nh]at aq;have bA:∀ q∈L,(ins I p.1 (.cells (p.2.map cy).toArray 3 (0,0))) q.1=none:=λq aM=>by unfold ins;rw[g3 λe=>aq.1 (dA.2 ⟨q,aM,e⟩)];exact h q (.tail _ aM)
  obtain⟨aa,ab⟩:=XT L bA aq.2;refine⟨λb o ai=>aa b o (lr (h p (.head _)) b o ai),λq aM=>?_⟩;rcases ef.1 aM with rfl | aM;·exact aa _ _ (q5 ..)
  ·exact ab q aM
def v7(x:qm):qm:=⟨x.d.Bh,x.cf⟩
def jr(g:bJ)(s:ByteArray):dw:=⟨(qn g.ds).map v7,s,0⟩
def ajy{g:bJ}(s:ByteArray){k:Nat}(af:k<(qn g.ds).length):(jr g s).aO k=v7 (qn g.ds)[k]:=by simp[dw.aO,jr,cC,af]
def Ks(ds:List aQ):(qn ds).length=cL ds:=by simp[qn,Kb]
def XU{g:bJ}(hm:qo g)(e3:∀ d∈g.ds,∀ n∈d.t.ns,0<=n.k){s:ByteArray}(ap:s.size<=4096):(∀ k,vZ (jr g s) k)/\∀ k,k<cL g.ds->vY (jr g s) (cL g.ds) k:=by
 have bj:=ON hm e3 (s:=s) (aO:=0) (bw _) ap;have bQ:(xN g s 0).ns.length=cL g.ds:=Ks g.ds;have kt:∀ k (af:k<cL g.ds),∃ a:qm,JX (xN g s 0) a/\(jr g s).aO k=v7 a:=λk af=>by
  have iI:k<(qn g.ds).length:=by rw[Ks];exact af
  exact⟨_,bj.ns _ (cJ iI),ajy s iI⟩
 refine⟨λk=>?_,λk af=>?_⟩
 ·by_cases af:k<cL g.ds
  ·obtain⟨a,aC,e⟩:=kt k af;rw[show vZ (jr g s) k ↔ vZ (jr g s) k from Iff.rfl];refine⟨by rw[e];exact aC.k.1,λaa=>?_,by rw[e];exact aC.k.2,λbP=>?_⟩
   ·rw[e]at aa |-;have:=aC.one aa
    match ae:a.cf,this with
    |[q],_=>exact⟨q,rfl⟩
   ·rw[e]at bP |-;have:=aC.qd bP;show a.d.hi=-1\/(0<=a.d.hi/\a.d.hi<=99);omega
  ·have e:(jr g s).aO k=⟨VL,[]⟩:=by
    have:(qn g.ds).length<=k:=by rw[Ks];omega
    simp[dw.aO,jr,cC,this]
   refine⟨by rw[e];exact Int.le_refl 0,λaa=>?_,by rw[e];show(0:Int)<10;omega,λbP=>?_⟩;·rw[e]at aa;have ab:(0:Int)=3\/6<=(0:Int):=aa;omega
   ·rw[e]at bP;have ab:(0:Int)=6:=bP;omega
 ·obtain⟨a,aC,e⟩:=kt k af;refine⟨by rw[e];exact aC.k.1,λaa=>?_,λq aM=>?_,λbP=>?_⟩
  ·rw[e]at aa |-;have ab:=aC.one aa;show a.cf.getD 0 0<_;have aE:a.cf.getD 0 0=a.cf[0]:=by simp[cC,ab]
   rw[aE,<-bQ];exact aC.cf _ (cJ (by omega))
  ·rw[e]at aM;rw[<-bQ];exact aC.cf q aM
  ·rw[e]at bP |-;exact(aC.qd bP).2.1
def Pt(c:dg):cv:=⟨c.n,c.a0,bif Nat.beq c.aG 3 then 2 else bif Nat.beq c.aG 2 then 1 else 0,0⟩
def ajz{a:Nat}{c:dg}(h:jL z a c):(Pt c).ce=c:=by
 rcases h with rfl | rfl | ⟨h,-⟩
 ·rfl
 ·rfl
 ·obtain⟨n,a0,aG⟩:=c;simp only at h;subst h;rfl
open Classical in
noncomputable def v8(P:dw)(N:Nat)(k a:Nat):cv:=if k<N/\a<=P.s.size then jo else Pt (cO P k a)
def Kt{P:dw}{k a:Nat}(af:k<N)(aC:a<=P.s.size):v8 P N k a=jo:=cn ⟨af,aC⟩
def ajA(P:dw)(N:Nat):ja P N (v8 P N):=by
 have gy:∀ k a,¬ (k<N/\a<=P.s.size)->(v8 P N k a).ce=cO P k a:=λk a h=>by unfold v8;rw[cb h];exact ajz (zr P k a)
 refine⟨λk a=>?_,λk a h=>?_,λk a af aC _ _ h=>?_,λk a af aC=>?_,gy⟩
 ·unfold v8;split
  ·exact bw _
  ·unfold Pt;cases Nat.beq (cO P k a).aG 3<;>cases Nat.beq (cO P k a).aG 2<;>simp
 ·by_cases e:k<N/\a<=P.s.size
  ·rw[Kt e.1 e.2]at h;exact absurd rfl h
  ·exact(gy k a e).symm
 ·rw[Kt af aC]at h;exact absurd rfl h
 ·rw[Kt af aC];exact⟨bw _,bw _,bw _⟩
structure v9(I:aZ)(g:bJ)(s:ByteArray)(t:d')(T:Nat->Nat->cv):Prop where
 ok:t.ok I T
 inv:ja t.P t.nn T
 P:t.P=jr g s
 ts:t.s=s
 all:∀ k b,(T k b).ce=cO (jr g s) k b
 n0:t.n0=t.nn
 nn:t.nn=cL g.ds
 rv:∃ eJ jq,t.rv=.slice eJ g.n jq/\eB I eJ g.n jq 1 8 ((hR 0 g.ds).map cy)
 nv:∃ jm pJ,t.nv=.slice jm g.n pJ/\eB I jm g.n pJ 1 16 (g.ds.map x3)
def d'.ok.mono{t:d'}{T:Nat->Nat->cv}(h:t.ok I T)(bA:∀ b o,I b=some o->I' b=some o):t.ok I' T:=
 { h with aG:=bA _ _ h.aG,ns:=h.ns.mono bA,kz:=λy aF=>(h.kz y aF).mono bA,rw:=h.rw.mono bA,du:=λk af ar=>(let ⟨cs,gL,al,aa,ab⟩:=h.du k af ar;⟨cs,gL,al,bA _ _ aa,ab⟩) }
def v9.mono{g:bJ}{s:ByteArray}{t:d'}{T:Nat->Nat->cv}(h:v9 I g s t T)(bA:∀ b o,I b=some o->I' b=some o):v9 I' g s t T:=by obtain⟨eJ,jq,az,aE⟩:=h.rv;obtain⟨jm,pJ,bz,cT⟩:=h.nv;exact { h with ok:=h.ok.mono bA,rv:=⟨eJ,jq,az,aE.mono bA⟩,nv:=⟨jm,pJ,bz,cT.mono bA⟩ }
def d'.ok.ig{t:d'}{T:Nat->Nat->cv}(h:t.ok I T)(bA:∀ b o,I b=some o->I' b=some o)(ai:I' t.fp=some (.cells (t.cs T).toArray 107 (0,0))):({ t with n0:=t.nn }:d').ok I' T:=by
 have hm:=h.mono bA;refine⟨hm.aG,hm.ns,hm.kz,hm.Xs,hm.Xt,hm.rw,hm.eY,λk af ar=>?_,λk af ar=>?_,hm.sz,hm.many⟩
 ·by_cases e3:k<t.n0
  ·exact hm.du k af e3
  ·refine⟨_,_,_,by rw[hm.new k af (by omega)];exact ai,?_⟩;rw[hm.new k af (by omega)];show((t.cs T).toArray.toList.drop ((k-t.n0)*(t.w*4))).take (t.w*4)=_;unfold d'.cs;rw[xm _ (t.w*4) (λj=>Bi T _ t.w) _ (k-t.n0) (by rw[se];simp only at ar;omega),r',zh (by omega)];rfl
 ·have aa:k<t.rows.length:=af;have ab:=hm.O';have ag:t.nn<=k:=ar;omega
def XV{J:aZ}:∀ {kb:List (Nat×List Nat)} {ns:List aS},(∀ p∈kb,J p.1=some (.cells (p.2.map cy).toArray 3 (0,0))/\p.2.length<=1048576/\∀ x∈p.2,x<=1048576)->(∀ n∈ns,n.ok J)->∀ y∈pK kb ns,y.ok J/\(∃ p∈kb,y.aL=p.2.map λ(k:Nat)=>(k:Int))/\∃ n∈ns,y.t=n.t
 |[],ns,_,_,y,aF=>by simp[pK]at aF
 |p::kb,[],_,_,y,aF=>by simp[pK]at aF
 |p::kb,n::ns,h,aq,y,aF=>by
  have e:pK (p::kb) (n::ns)=uG p.1 p.2 n::pK kb ns:=rfl;rw[e]at aF;rcases ef.1 aF with rfl | aF;·obtain⟨aa,ab,ag⟩:=h p (.head _);exact⟨aji (aq n (.head _)) aa ab ag,⟨p,.head _,rfl⟩,n,.head _,rfl⟩
  ·obtain⟨i1,⟨q,i2,i3⟩,m,i4,i5⟩:=XV (λq aM=>h q (.tail _ aM)) (λm hm=>aq m (.tail _ hm)) y aF;exact⟨i1,⟨q,.tail _ i2,i3⟩,m,.tail _ i4,i5⟩
def XW:∀ {kb:List (Nat×List Nat)} {ns:List aS},kb.length=ns.length->(pK kb ns).map aS.pn=List.zipWith (λp n=>⟨n.Bh,p.2⟩) kb ns
 |[],[],_=>rfl| p::kb,n::ns,h=>by show(uG p.1 p.2 n).pn::(pK kb ns).map aS.pn=_;rw[ajh,XW (by simpa using h)];rfl
def XX{ds:List aQ}{be:Nat}:∀ {kb:List (Nat×List Nat)} {ns:List aS},kb.map (·.2)=ns.map (iH ds be)->List.zipWith (λ(p:Nat×List Nat) (n:aS)=>(⟨n.Bh,p.2⟩:qm)) kb ns=ns.map (v5 ds be)
 |[],[],_=>rfl| p::kb,n::ns,h=>by rw[cY,cY,y2]at h;rw[List.zipWith_cons_cons,cY,XX h.2,h.1];rfl
def v'(ds:List aQ)(i:Nat):List qm:=(pF 0 (ds.take i)).map λp=>v7 ⟨p.2,iH ds p.1 p.2⟩
def XY:∀ (b:Nat) (A B:List aQ),pF b (A++B)=pF b A++pF (b+cL A) B
 |b,[],B=>by simp[pF,cL]
 |b,d::A,B=>by
  have e:cL (d::A)=d.t.ns.length+cL A:=by simp[cL]
  rw[qZ,pF,pF,XY _ A B,fq,e,qL]
def ajB{ds:List aQ}(hi:i<ds.length):v' ds (i+1)=v' ds i++ds[i].t.ns.map (v5 ds (cL (ds.take i))):=by unfold v';rw[gf hi,XY,e7,c0];congr 1;simp[pF,v5,v7]
def ajC(ds:List aQ):v' ds ds.length=(qn ds).map v7:=by unfold v' qn;rw[List.take_length,jl];rfl
def ajD(ds:List aQ)(i:Nat):(v' ds i).length=cL (ds.take i):=by simp[v',Kb]
def DK(ds:List aQ):Nat->List cB->List qm
 |_,[]=>[]| b,t::ts=>t.ns.map (v5 ds b)++DK ds (b+t.ns.length) ts
def wa(ts:List cB)(i:Nat):Nat:=((ts.take i).map λt=>t.ns.length).sum
def ajE(t:cB)(ts:List cB)(i:Nat):wa (t::ts) (i+1)=t.ns.length+wa ts i:=by unfold wa;simp
def XZ{ds:List aQ}:∀ {ts:List cB} {b i j:Nat} (hi:i<ts.length) (an:j<ts[i].ns.length),(DK ds b ts)[wa ts i+j]?=some (v5 ds (b+wa ts i) ts[i].ns[j])
 |t::ts,b,0,j,hi,an=>by have hW:j<t.ns.length:=an;rw[DK,show wa (t::ts) 0=0 from rfl,c0,tK (by rw[c8];exact hW),lE,eb hW];rfl
 |t::ts,b,i+1,j,hi,an=>by have a7:=XZ (ds:=ds) (ts:=ts) (b:=b+t.ns.length) (i:=i) (j:=j) (by simpa using hi) (by simpa using an);rw[DK,ajE,o9 (by rw[c8];omega),c8,show t.ns.length+wa ts i+j-t.ns.length=wa ts i+j by omega,a7,qL];rfl
def X0(Pu:List aQ):∀ (b:Nat) (ds:List aQ),DK Pu b (ds.map (·.t))=(pF b ds).map λp=>v7 ⟨p.2,iH Pu p.1 p.2⟩
 |_,[]=>rfl| b,d::ds=>by rw[cY,DK,pF,e7,jl,X0 Pu _ ds];rfl
def ajF(ds:List aQ)(more:List cB)(hi:i<=ds.length):wa (ds.map (·.t)++more) i=cL (ds.take i):=by unfold wa cL;rw[CB (by rw[c8];exact hi),<-List.map_take,jl];rfl
def k7(g:bJ)(i j:Nat):Nat:=cL (g.ds.take i)+j
def X1{g:bJ}(s:ByteArray)(hi:i<g.ds.length)(an:j<g.ds[i].t.ns.length):(jr g s).aO (k7 g i j)=v5 g.ds (cL (g.ds.take i)) g.ds[i].t.ns[j]:=by
 have c7:i<(g.ds.map (·.t)).length:=by rw[c8];exact hi
 have h:=XZ (ds:=g.ds) (ts:=g.ds.map (·.t)) (b:=0) (i:=i) (j:=j) c7 (by rw[lq];exact an);have ai:=ajF g.ds [] (i:=i) (by omega);rw[eh]at ai;rw[ai,c0,X0]at h;unfold dw.aO jr k7;simp only[lq]at h;rw[cC];unfold qn;rw[jl];show(((pF 0 g.ds).map λp=>v7 ⟨p.2,iH g.ds p.1 p.2⟩)[cL (g.ds.take i)+j]?).getD _=_;rw[h];rfl
def Ku{g:bJ}(hi:i<g.ds.length)(an:j<g.ds[i].t.ns.length):k7 g i j<cL g.ds:=by have aa:=DE hi;have ab:=GO g.ds (i+1);unfold k7;omega
def Kv(g:bJ):∀ {k:Nat},k<cL g.ds->∃ i j,∃ hi:i<g.ds.length,j<g.ds[i].t.ns.length/\k=k7 g i j:=by
 have key:∀ (n k:Nat),n<=g.ds.length->k<cL (g.ds.take n)->∃ i j,∃ hi:i<g.ds.length,j<g.ds[i].t.ns.length/\k=k7 g i j:=by
  intro n
  induction n with
  |zero=>intro k _ h;simp[cL]at h
  |succ n a7=>
   intro k aq h;have hi:n<g.ds.length:=by omega
   rw[DE hi]at h;by_cases af:k<cL (g.ds.take n);·exact a7 k (by omega) af
   ·exact⟨n,k-cL (g.ds.take n),hi,by omega,by unfold k7;omega⟩
 intro k af;exact key g.ds.length k (cj _) (by rw[eW (cj _)];exact af)
def Kw{g:bJ}{r:Nat}(hi:i<g.ds.length)(ak:g.ds[i].t.bD=(r:Int)):qp g i=k7 g i r:=by have Bl:=Dm 0 g.ds;unfold qp k7;rw[cC,eb (by omega:i<(hR 0 g.ds).length),jS,Pj 0 g.ds i hi (by omega),c0,ak];rfl
def Kx(x:BitVec 64):BitVec.ofInt 64 (x.toNat:Int)=x:=by rw[BitVec.ofInt_natCast,BitVec.ofNat_toNat,BitVec.setWidth_eq]
def X2(x:BitVec 64):IntKind.u64.wrap (x.toNat:Int)=(x.toNat:Int):=by have:=x.isLt;unfold IntKind.wrap;simp only[IntKind.bits,IntKind.signed];simp;omega
def ajG{x:BitVec 64}:((x.toNat:Int) == (y.toNat:Int))=decide (x=y):=by rw[oY];simp[BitVec.toNat_eq];omega
section
section
end
end
def X3{α:Type}{p q:α->Bool}:∀ {l:List α},(∀ x∈l,p x=true->q x=true)->l.countP q<=l.countP p->∀ x∈l,q x=true->p x=true
 |[],_,_,x,ae,_=>by cases ae
 |y::l,h,bs,x,ae,aM=>by
  have hm:=List.countP_mono_left (p:=p) (q:=q) (l:=l) (λx ae=>h x (.tail _ ae));rw[List.countP_cons,List.countP_cons]at bs;have aF:=h y (.head _);have key:(q y=true->p y=true)/\l.countP q<=l.countP p:=by cases aD:p y<;>cases asV:q y<;>simp_all<;>omega
  rcases ef.1 ae with rfl | ae;·exact key.1 aM
  ·exact X3 (λx ae=>h x (.tail _ ae)) key.2 x ae aM
def GV(x:BitVec 64):Nat:=(List.range 64).countP λi=>!x.getLsbD i
def ajH{x:BitVec 64}(h:x &&& y=x):GV y<=GV x/\(GV x<=GV y->x=y):=by
 have ai:∀ i,x.getLsbD i=true->y.getLsbD i=true:=λi ae=>by have:=congrArg (λw:BitVec 64=>w.getLsbD i) h;simp only[O2,ae,pd]at this;exact this
 have aD:∀ i∈List.range 64,(!y.getLsbD i)=true->(!x.getLsbD i)=true:=λi _ hi=>by
  have aa:=ai i;cases ae:x.getLsbD i with
  |false=>rfl| true=>rw[aa ae]at hi;cases hi
 refine⟨List.countP_mono_left aD,λbs=>?_⟩;have:=X3 aD bs;apply O0;intro i hi;have aa:=ai i;have ab:=this i (lF.2 hi);cases ae:x.getLsbD i<;>cases aF:y.getLsbD i<;>simp_all
structure X4(t:cB)(k:Int)(cZ:cB):Prop where
 ba:cZ.ns.map aS.ba=ux t.ns k
 bD:cZ.bD=(cZ.ns.length:Int)-1
end Go.V
