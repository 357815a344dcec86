/- Part 10 of what the proofs of this seat share: the executor, data in memory, walks.
-/
import Derived.Test.YtjambecdkaahmaaGreatDoorK9
import Derived.Test.YtjambecdkaahmaaGreatDoorK2
import Derived.Test.YtjambecdkaahmaaGreatDoorK5
import Derived.Test.YtjambecdkaahmaaGreatDoorK6
import Derived.Test.YtjambecdkaahmaaGreatDoorK4
import Derived.Test.YtjambecdkaahmaaGreatDoorK8
import Derived.Test.YtjambecdkaahmaaGreatDoorK3
import Derived.Lib.TrailingZeros
import Derived.Test.YtjambecdkaahmaaGreatDoorK7
set_option linter.all false
set_option maxHeartbeats 8000000
set_option maxRecDepth 100000
namespace Go.V
open Go Go.Proofs
def N7:=@Int.tmod_lt_of_pos
def N8:=@Int.tmod_nonneg
variable{a cf:Option Addr}{I:a5}{M0 M:List aF}{l:List e'}{k n c ai fuel fK c' i:Nat}{aX:List Int}{ds:List bD}{r:Int×Int}{X:Bool}{p:Prop}{e w uh:Int}{α:Type}{o:o1}{P:bm}{F:List a8}
def cp(n:Nat):Nat:=min n 1099511627776
def p7(n:Nat):cp n<=1099511627776:=AL _ _
def vn(a b:Nat):cp (cp a+b)=cp (a+b):=by unfold cp;omega
def arj(a b:Nat):cp (a+cp b)=cp (a+b):=by unfold cp;omega
def ark{a b:Nat}(h:a<=b):cp a<=cp b:=by unfold cp;omega
def N9(a b:Nat):cp (cp a*b)=cp (a*b):=by
 by_cases h:a<=1099511627776
 ·have e:cp a=a:=by unfold cp;omega
  rw[e]
 ·have e:cp a=1099511627776:=by unfold cp;omega
  rw[e];cases b with
  |zero=>simp| succ b=>have U:1099511627776*1<=1099511627776*(b+1):=Nat.mul_le_mul_left _ (by omega);have aa:a*1<=a*(b+1):=Nat.mul_le_mul_left _ (by omega);generalize 1099511627776*(b+1)=x at U;generalize a*(b+1)=y at aa;unfold cp;omega
def Ux(a b:Nat):cp (a*cp b)=cp (a*b):=by rw[Ey,N9,Ey]
section
variable{I:a5}{M0:List aF}
def qQ(a b:Nat)(aH:a<=9223372036854775807)(ag:b<=9223372036854775807):Spec Tryz.prog 82 [.int .i64 a,.int .i64 b,.int .i64 1099511627776] I M0 λv I' M'=>v=.int .i64 (cp (a+b):Nat)/\I'=I/\M'=M0:=by
 refine bY [] aV Tryz.func82 rfl rfl rfl ?_;intro B ay;refine c0.mk (λU=>?_) (λU=>?_)
 ·have nE:decide ((1099511627776:Int)<(a:Int))=false:=U;have aa:a<=1099511627776:=by have:=cu nE;omega
  refine bb.mk ((1099511627776-a:Nat):Int) (ei (by omega) (by omega)) ?_;refine aM.mk (λaf=>?_) (λaf=>?_);·have er:((1099511627776-a:Nat):Int)<(b:Int):=cm af;refine⟨_,_,.refl,?_,rfl,rfl⟩;rw[show cp (a+b)=1099511627776 by unfold cp;omega];rfl
  ·have er:¬ ((1099511627776-a:Nat):Int)<(b:Int):=cu af;refine bb.mk ((a+b:Nat):Int) (ei (by omega) (by omega)) ?_;refine⟨_,_,.refl,?_,rfl,rfl⟩;rw[show cp (a+b)=a+b by unfold cp;omega]
 ·have nE:decide ((1099511627776:Int)<(a:Int))=true:=U;have aa:1099511627776<a:=by have:=cm nE;omega
  refine⟨_,_,.refl,?_,rfl,rfl⟩;rw[show cp (a+b)=1099511627776 by unfold cp;omega];rfl
def Uy(a b:Nat)(aH:a<=9223372036854775807)(ag:b<=9223372036854775807):Spec Tryz.prog 83 [.int .i64 a,.int .i64 b,.int .i64 1099511627776] I M0 λv I' M'=>v=.int .i64 (cp (a*b):Nat)/\I'=I/\M'=M0:=by
 refine bY [] aV Tryz.func83 rfl rfl rfl ?_;intro B ay;refine c0.mk (λU=>?_) (λU=>?_)
 ·have nE:(!decide ((a:Int)=0))=true:=U;have aa:a≠0:=λe=>by rw[e]at nE;cases nE
  refine qa.mk (by omega) ?_;have aL:Int.tdiv 1099511627776 (a:Int)=((1099511627776/a:Nat):Int):=by rw[LS (by omega)];rfl
  have bz:1099511627776/a<=1099511627776:=Q1 _ _;have a0:∀ b,1099511627776/a<b->1099511627776<a*b:=λb bq=>by rw[Ey];exact(Nat.div_lt_iff_lt_mul (by omega)).1 bq
  have cE:∀ b,b<=1099511627776/a->a*b<=1099511627776:=λb bq=>by rw[Ey];exact(Nat.le_div_iff_mul_le (by omega)).1 bq
  generalize 1099511627776/a=q at aL bz a0 cE;refine bb.mk (q:Int) (by rw[aL];exact wrap_i64 ⟨by omega,by omega⟩) ?_;refine aM.mk (λaf=>?_) (λaf=>?_);·have er:(q:Int)<(b:Int):=cm af;have aN:1099511627776<a*b:=a0 b (by omega);refine⟨_,_,.refl,?_,rfl,rfl⟩;rw[show cp (a*b)=1099511627776 by unfold cp;omega];rfl
  ·have er:¬ (q:Int)<(b:Int):=cu af;have aN:a*b<=1099511627776:=cE b (by omega);refine bb.mk ((a*b:Nat):Int) (ei (by simp) (by omega)) ?_;refine⟨_,_,.refl,?_,rfl,rfl⟩;rw[show cp (a*b)=a*b by unfold cp;omega]
 ·have nE:(!decide ((a:Int)=0))=false:=U;have aa:a=0:=by
   cases a with
   |zero=>rfl| succ a=>rw[bG (by omega)]at nE;cases nE
  subst aa;refine bb.mk ((0:Nat):Int) (ei (by simp) (by omega)) ?_;refine⟨_,_,.refl,?_,rfl,rfl⟩;rw[show cp (0*b)=0 by simp[cp]]
def BN(w b c:Nat):Nat:=cp (w*(b+1)*(b+4)+c)
def yG(w b c:Int):Int:=bif decide (w<0)||(decide (b<0)||decide (c<0))then 0 else((BN w.toNat b.toNat c.toNat:Nat):Int)
def aeC(w b c:Int)(hw:jm w)(ag:jm b)(aJ:jm c):Spec Tryz.prog 74 [.int .i64 w,.int .i64 b,.int .i64 c] I M0 λv I' M'=>v=.int .i64 (yG w b c)/\I'=I/\M'=M0:=by
 refine bY [] aV Tryz.func74 rfl rfl rfl ?_;intro B ay;refine c0.mk (λU=>?_) (λU=>?_)
 rotate_left
 ·refine⟨_,_,.refl,?_,rfl,rfl⟩;rw[yG,show decide (w<0)=true from U];rfl
 refine c0.mk (λaa=>?_) (λaa=>?_)
 rotate_left
 ·refine⟨_,_,.refl,?_,rfl,rfl⟩;rw[yG,show decide (b<0)=true from aa,HO,yn];rfl
 refine aM.mk (λaf=>?_) (λaf=>?_)
 ·refine⟨_,_,.refl,?_,rfl,rfl⟩;rw[yG,show decide (c<0)=true from af,yn,yn];rfl
 have P6:¬ w<0:=cu U;have pC:¬ b<0:=cu aa;have nJ:¬ c<0:=cu af;have e:yG w b c=((BN w.toNat b.toNat c.toNat:Nat):Int):=by rw[yG,bG P6,bG pC,bG nJ];rfl
 rw[e];obtain⟨w,rfl⟩:∃ n:Nat,w=n:=⟨w.toNat,by omega⟩;obtain⟨b,rfl⟩:∃ n:Nat,b=n:=⟨b.toNat,by omega⟩;obtain⟨c,rfl⟩:∃ n:Nat,c=n:=⟨c.toNat,by omega⟩;obtain⟨-,u4⟩:=hw;obtain⟨-,gy⟩:=ag;obtain⟨-,oz⟩:=aJ;have s1:=p7 (b+1);have s2:=p7 (w*cp (b+1));have eK:=p7 (b+4);have wy:=p7 (cp (w*cp (b+1))*cp (b+4));refine a9.whole _ (qQ b 1 (by omega) (by omega)) ?_;rintro v I' M' -⟨rfl,rfl,rfl⟩;refine a9.whole _ (Uy w (cp (b+1)) (by omega) (by omega)) ?_;rintro v I' M' -⟨rfl,rfl,rfl⟩;refine a9.whole _ (qQ b 4 (by omega) (by omega)) ?_;rintro v I' M' -⟨rfl,rfl,rfl⟩;refine a9.whole _ (Uy (cp (w*cp (b+1))) (cp (b+4)) (by omega) (by omega)) ?_;rintro v I' M' -⟨rfl,rfl,rfl⟩;refine a9.whole _ (qQ (cp (cp (w*cp (b+1))*cp (b+4))) c (by omega) (by omega)) ?_;rintro v I' M' -⟨rfl,rfl,rfl⟩;refine⟨_,_,.refl,?_,rfl,rfl⟩;have e:cp (cp (cp (w*cp (b+1))*cp (b+4))+c)=BN w b c:=by unfold BN;rw[Ux w,Ux _ (b+4),N9 (w*(b+1)),vn]
 rw[e];rfl
end
def rX(ds:List bD):List (List Value):=ds.flatMap λd=>d.t.ns.map λn=>[n.val]
def arl(d:bD)(ds:List bD):rX (d::ds)=d.t.ns.map (λn=>[n.val])++rX ds:=rfl
def aeD(g:cA):Spec Tryz.prog 81 [g.val] I M0 λr I' M'=>∃ b,r=.func (.func 124) #[] #[ptr b]/\I' b=some (.cells #[.slice g.a g.n g.c] 24 (0,0))/\(∀ b o,I b=some o->I' b=some o)/\M'=M0:=by refine bY [1] aV Tryz.func81 rfl rfl rfl ?_;intro B ay;refine cy.mk λg aB vK=>?_;refine⟨_,_,.n2 rfl ?_ .refl,g,rfl,pJ ..,ku aB,rfl⟩;intro h;obtain⟨x,ab,e⟩:=eh.1 h;exact vK x ab e
def aeE{g:cA}(aB:g.ok I){b:Nat}(ag:I b=some (.cells #[.slice g.a g.n g.c] 24 (0,0))) :
  Iter Tryz.prog 124 [ptr b] I (rX g.ds):=by
 intro l R tn uM dZ M0 n' kN;refine An [] aV Tryz.func124 rfl rfl rfl ?_;intro B ay;have gC:=aB.n;have iH:=aB.bj.cap;have br:∀ (M:List aF),cx dZ M ((⟨b,0,none⟩:Addr).add 0) 1 [.slice g.a g.n g.c]:=λM=>⟨rfl,_,_,_,.inl (n' _ _ ag),rfl,rfl⟩;refine aw.mk _ (br _) ?_;refine ea.inv (ι:=Nat×Nat×a5×List aF) (λx=>{ bK:=[(0,.val (.func (.yield l) #[] #[])),(8,.val (.slice g.a g.n g.c)),(9,.val (.int .i64 g.n)),(10,.val (.int .i64 x.1))],dz:=x.2.2.1,d':=x.2.2.2 }) (λx=>x.1<=g.n/\(∀ b o,I b=some o->x.2.2.1 b=some o)/\R x.2.1 x.2.2.1 x.2.2.2/\x.2.1<=(rX g.ds).length/\(rX g.ds).drop x.2.1=rX (g.ds.drop x.1)) (λx=>g.n-x.1) ?_ ?_
 ·exact⟨(0,0,dZ,M0),⟨by simp,n',kN,by simp,rfl⟩,.refl,fo,.nil⟩
 ·rintro⟨i,k,cW,M1⟩⟨hi,b4,hB,e4,fx⟩;simp only at hi b4 hB e4 fx;refine aM.mk (λh=>?_) (λh=>?_)
  ·have a0:i<g.n:=by simpa using h
   have bZ:i<g.ds.length:=by omega
   have g6:=aB.mono b4;obtain⟨ad,b3,v0⟩:=g6.bj.row bD.dc a0 bZ;have eI:g.ds[i]∈g.ds:=dr bZ;have ri:=(aB.ds _ eI).t.n;have Xo:=(aB.ds _ eI).t.bj.cap;have j7:g.ds.drop i=g.ds[i]::g.ds.drop (i+1):=fg bZ;refine bl.mk ad i b3 rfl a0 ?_;refine aw.mk _ (v0 _) ?_;refine ea.inv (ι:=Nat×Nat×a5×List aF) (λx=>{ bK:=[(0,.val (.func (.yield l) #[] #[])),(8,.val (.slice g.a g.n g.c)),(9,.val (.int .i64 g.n)),(10,.val (.int .i64 i)),(16,.val (.slice g.ds[i].t.a g.ds[i].t.n g.ds[i].t.c)),(17,.val (.int .i64 g.ds[i].t.n)),(18,.val (.int .i64 x.1))],dz:=x.2.2.1,d':=x.2.2.2 }) (λx=>x.1<=g.ds[i].t.n/\(∀ b o,I b=some o->x.2.2.1 b=some o)/\R x.2.1 x.2.2.1 x.2.2.2/\x.2.1<=(rX g.ds).length/\(rX g.ds).drop x.2.1=(g.ds[i].t.ns.drop x.1).map (λn=>[n.val])++rX (g.ds.drop (i+1))) (λx=>g.ds[i].t.n-x.1) ?_ ?_;·refine⟨(0,k,cW,M1),⟨by simp,b4,hB,e4,?_⟩,.refl,mj,.nil⟩;simp only;rw[fx,j7,arl];rfl
   ·rintro⟨j,k,cW,M1⟩⟨an,b4,hB,e4,fx⟩;simp only at an b4 hB e4 fx;refine aM.mk (λh=>?_) (λh=>?_)
    ·have fp:j<g.ds[i].t.n:=by simpa using h
     have lZ:j<g.ds[i].t.ns.length:=by omega
     have g6:=aB.mono b4;obtain⟨j',HE,lW⟩:=(g6.ds _ eI).t.bj.row bh.dc fp lZ;have bV:g.ds[i].t.ns.drop j=g.ds[i].t.ns[j]::g.ds[i].t.ns.drop (j+1):=fg lZ;rw[bV,dQ,py]at fx;obtain⟨ae,aj,nI⟩:=drop_cons fx;refine bl.mk j' j HE rfl fp ?_;refine aw.mk _ (lW _) ?_;refine bE.yield rfl (by simp) rfl rfl ?_;have aT:=uM k ae cW M1 b4 hB;rw[aj]at aT;refine Ej.mk M1 [] _ (by simp) aT ?_;rintro v eC dU h5 (⟨rfl,ik⟩ | ⟨rfl,ab⟩);·refine aM.mk (λh=>by simp at h) (λ_=>?_);refine bb.mk _ (c7 (i:=j) (by omega)) ?_;exact⟨(j+1,k+1,eC,dU),⟨⟨by simp only;omega,λb o h=>h5 b o (b4 b o h),ik,ae,nI⟩,by simp only;omega⟩,.perm (by simp) .refl,mj,.nil⟩
     ·refine aM.mk (λ_=>?_) (λh=>by simp at h);exact⟨_,_,.perm (by simp) .refl,.inr ab⟩
    ·have cE:g.ds[i].t.n<=j:=by simpa using h
     rw[iG (show g.ds[i].t.ns.length<=j by omega),oN,nz]at fx;refine bb.mk _ (c7 (i:=i) (by omega)) ?_;exact⟨(i+1,k,cW,M1),⟨⟨by simp only;omega,b4,hB,e4,fx⟩,by simp only;omega⟩,.refl,fo,.nil⟩
  ·have cE:g.n<=i:=by simpa using h
   refine⟨_,_,.refl,.inl ?_⟩;rw[iG (show g.ds.length<=i by omega)]at fx;have vO:k=(rX g.ds).length:=by have:=GW.1 fx;omega
   rw[<-vO];exact hB
def gJ(ds:List bD):List bh:=ds.flatMap λd=>d.t.ns
def BO(ds:List bD):rX ds=(gJ ds).map λn=>[n.val]:=by unfold rX gJ;rw[List.map_flatMap]
def lM(n:bh):Nat:=1+(bif decide (n.k=2)then n.t.size else bif decide (n.k=6)then(n.lo+max n.hi 0).toNat else 0)
def kj(B:Nat)(n:bh):Nat:=(bif decide (n.k=3)then 1 else bif decide (n.k=6)then B+2+n.hi.toNat else n.kn)+1
def fc(f:bh->Nat)(l:List bh):Nat:=(l.map f).sum
def aeF{f:bh->Nat}{l:List bh}(ae:k<l.length):fc f (l.take (k+1))=fc f (l.take k)+f l[k]:=by unfold fc;rw[iT ae,gW,Cw];simp
structure Gf(n:bh):Prop where
 lo:n.k=6->0<=n.lo/\n.lo<=99/\-1<=n.hi/\n.hi<=99
 kn:n.kn<=1024
 t:n.t.size<=255
def JR(b:Nat)(n:Nat):aF:=⟨b,.cells #[.int .i64 ((n:Nat):Int)] 3 (0,0)⟩
def yH{b:Nat}(h:JR b n∈M):cx I M ⟨b,0,none⟩ 1 [.int .i64 ((n:Nat):Int)]:=
 ⟨rfl,_,_,_,.inr ⟨_,h,rfl,rfl⟩,rfl,rfl⟩
def arm{g:cA}(aB:g.ok I)(az:∀ n∈gJ g.ds,Gf n):Spec Tryz.prog 80 [g.val] I [] λv I' M'=>v=.int .i64 ((cp (fc lM (gJ g.ds)):Nat):Int)/\(∀ b o,I b=some o->I' b=some o)/\M'=[]:=by
 refine bY [3] aV Tryz.func80 rfl rfl rfl ?_;intro B ay;refine cy.mk λb9 jU apH=>?_;refine cc.mk [] [] _ _ rfl rfl (bP rfl) rfl ?_;refine a9.whole _ (aeD (M0:=[JR b9 0]) g) ?_;rintro v cW M1 -⟨c6,rfl,zk,b4,rfl⟩;have g6:=aB.mono b4;refine cq.range aV rfl rfl rfl .refl (aeE g6 zk) (λvs h=>?_) (λk I' M'=>(∀ b o,cW b=some o->I' b=some o)/\M'=[JR b9 (cp (fc lM ((gJ g.ds).take k)))]) (λex I' M'=>False) ⟨λ_ _ h=>h,rfl⟩ ?_ ?_ (λex I' M' _ h=>h.elim)
 ·rw[BO]at h;obtain⟨p,_,rfl⟩:=eh.1 h;rfl
 ·rintro k ae I' M' -⟨hY,rfl⟩l B ay j4;have e4:k<(gJ g.ds).length:=by simpa[BO]using ae
  have p0:=az _ (dr e4);have vb:=aeF (f:=lM) e4;have aj:(rX g.ds)[k]=[(gJ g.ds)[k].val]:=by simp only[BO,lu]
  rw[aj];generalize(gJ g.ds)[k]=d at p0 vb;generalize fc lM ((gJ g.ds).take k)=S at vb;have s1:=p7 S;have s2:=p7 (cp S+1);have aI:=p0.t;refine aw.mk _ (yH (.head _)) ?_;refine a9.whole _ (qQ (cp S) 1 (by omega) (by omega)) ?_;rintro v eC dU -⟨rfl,rfl,rfl⟩;refine cc.mk [] [] _ _ rfl rfl (bP rfl) rfl ?_;refine aM.mk (λaa=>?_) (λaa=>?_)
  ·have jn:decide (d.k=2)=true:=aa;have hw:lM d=1+d.t.size:=by rw[lM,jn,a4]
   refine aw.mk _ (yH (n:=cp (cp S+1)) (.head _)) ?_;refine a9.whole _ (qQ (cp (cp S+1)) d.t.size (by omega) (by omega)) ?_;rintro v eC dU -⟨rfl,rfl,rfl⟩;refine cc.mk [] [] _ _ rfl rfl (bP rfl) rfl ?_;refine⟨_,_,.refl,hY,?_⟩;have e:cp (cp (cp S+1)+d.t.size)=cp (fc lM ((gJ g.ds).take (k+1))):=by rw[vb,hw,vn S 1,vn,p9]
   rw[<-e];rfl
  ·have jn:decide (d.k=2)=false:=aa;refine aM.mk (λbp=>?_) (λbp=>?_)
   ·have s3:decide (d.k=6)=true:=bp;obtain⟨dy,mA,ay,U⟩:=p0.lo (cm s3);have hw:lM d=1+(d.lo+max d.hi 0).toNat:=by rw[lM,jn,aQ,s3,a4]
    obtain⟨q,aL⟩:∃ q:Nat,d.lo+max d.hi 0=q:=⟨(d.lo+max d.hi 0).toNat,by omega⟩;rw[aL]at hw;refine aw.mk _ (yH (n:=cp (cp S+1)) (.head _)) ?_;refine bb.mk (q:Int) (ei aL (by omega)) ?_;refine a9.whole _ (qQ (cp (cp S+1)) q (by omega) (by omega)) ?_;rintro v eC dU -⟨rfl,rfl,rfl⟩;refine cc.mk [] [] _ _ rfl rfl (bP rfl) rfl ?_;refine⟨_,_,.refl,hY,?_⟩;have e:cp (cp (cp S+1)+q)=cp (fc lM ((gJ g.ds).take (k+1))):=by rw[vb,hw,vn S 1,vn,p9,qS]
    rw[<-e];rfl
   ·have s3:decide (d.k=6)=false:=bp;have hw:lM d=1:=by rw[lM,jn,aQ,s3,aQ]
    refine⟨_,_,.refl,hY,?_⟩;have e:cp (cp S+1)=cp (fc lM ((gJ g.ds).take (k+1))):=by rw[vb,hw,vn]
    rw[<-e];rfl
 ·rintro I' M' -⟨hY,rfl⟩;refine aw.mk _ (yH (.head _)) ?_;refine⟨_,_,.sub (eN _) .refl,?_,λb o h=>hY _ _ (b4 _ _ h),rfl⟩;rw[gM (by simp[BO])];rfl
def aeG:∀ {l:List Nat} {x:Nat},x∈l->x<=l.sum
 |y::l,x,h=>by
  rw[k'];rcases eu.1 h with e | h;·omega
  ·have:=aeG h;omega
def ie.N'{g:cA}(aB:g.ok I)(hm:ie g):∀ n∈gJ g.ds,Gf n:=λn az=>by
 obtain⟨d,ah,bV⟩:=zv.1 az;have al:=hm.r d ah;have aD:=(aB.ds d ah).t.ns _ bV;obtain⟨j,an,e⟩:=vR bV;have ar:=al.fits j an;have l0:=al.aS j an;rw[e]at ar l0;have zC:=hm.CP;have e4:n.aS.length<=j:=E1 j _ (al.diff.sublist (H3 bV)) l0;have cg:d.t.ns.length<=bI g.ds:=by have ab:d.t.ns.length∈g.ds.map λd=>d.t.ns.length:=eh.2 ⟨d,ah,rfl⟩;exact aeG ab
 refine⟨λbp=>?_,?_,RD ar aD.k.1⟩
 ·have h:=ar;unfold fits at h;rw[bp]at h;have aC:decide ((10:Int)<=6)=false:=rfl;rw[aC,aQ]at h;cases aa:decide ((n.aS.length:Int)<sh (6:Int).toNat)||(decide (0<=mY (6:Int).toNat)&&decide (mY (6:Int).toNat<(n.aS.length:Int)))with
  |true=>rw[aa]at h;cases h| false=>rw[aa,aQ,show decide ((6:Int)=1)=false from rfl,aQ,show decide ((6:Int)=2)=false from rfl,aQ,show(decide ((6:Int)=3)||decide ((6:Int)=9))=false from rfl,aQ,show decide ((6:Int)=6)=true from rfl,a4]at h;simp only[ct,pk,n8,ny,Hl]at h;obtain⟨⟨ed,dP,gS⟩,-⟩:=h;omega
 ·have:=aD.bj.len;simp at this;omega
def arn(a b:Nat){x:Int}(ab:x=b)(aH:a<=9223372036854775807)(ag:b<=9223372036854775807):Spec Tryz.prog 82 [.int .i64 a,.int .i64 x,.int .i64 1099511627776] I M0 λv I' M'=>v=.int .i64 (cp (a+b):Nat)/\I'=I/\M'=M0:=by subst ab;exact qQ a b aH ag
def BP(ds:List bD)(B C:Nat):Nat:=cp (fc (kj B) (gJ ds)*(B+1)+C)
def BQ(ds:List bD)(b c:Int):Int:=bif decide (b<0)||decide (c<0)then 0 else((BP ds b.toNat c.toNat:Nat):Int)
def aro(bO:gu I aX){g:cA}(aB:g.ok I){b c:Int}(ag:jm b)(aJ:jm c):Spec Tryz.prog 31 [g.val,.int .i64 b,.int .i64 c] I [] λv I' M'=>(∀ b o,I b=some o->I' b=some o)/\M'=[]/\v=.tuple #[.int .i64 (bif decide (e9 aX g=0)then BQ g.ds b c else 0),.int .i64 (e9 aX g)]:=by
 refine bY [4,9] aV Tryz.func31 rfl rfl rfl ?_;intro B ay;refine cy.mk λcK Mn apI=>?_;refine a9.mk [] [⟨cK,.cells #[.int .i64 b] 3 (0,0)⟩] _ (.refl _) (Lc bO aB) ?_;rintro v aeH N bz⟨rfl,wZ,rfl⟩;have br:∀ {I':a5} {M:List aF},cx I' ((⟨cK,.cells #[.int .i64 b] 3 (0,0)⟩:aF)::M) ⟨cK,0,none⟩ 1 [.int .i64 b]:=⟨rfl,_,_,_,.inr ⟨_,.head _,rfl,rfl⟩,rfl,rfl⟩;refine aM.mk (λh=>?_) (λh=>?_)
 ·have bg:(!decide (e9 aX g=0))=true:=h;have e:decide (e9 aX g=0)=false:=by simpa using bg
  refine⟨_,_,.sub (eN _) .refl,wZ,rfl,?_⟩;rw[e];rfl
 have bg:(!decide (e9 aX g=0))=false:=h;have e:e9 aX g=0:=by simpa using bg
 have arp:∀ d∈g.ds,d.t.ns.length=d.t.n:=λd ah=>(aB.ds d ah).t.n;have hm:=A0 e arp;have az:=hm.N' aB;rw[e,dF (rfl:(0:Int)=0),a4];refine aw.mk _ br ?_;refine c0.mk (λU=>?_) (λU=>?_)
 rotate_left
 ·refine⟨_,_,.sub (eN _) .refl,wZ,rfl,?_⟩;rw[BQ,show decide (b<0)=true from U];rfl
 refine aM.mk (λaa=>?_) (λaa=>?_)
 ·refine⟨_,_,.sub (eN _) .refl,wZ,rfl,?_⟩;rw[BQ,show decide (c<0)=true from aa,yn];rfl
 have pC:¬ b<0:=cu U;have nJ:¬ c<0:=cu aa;have arq:BQ g.ds b c=((BP g.ds b.toNat c.toNat:Nat):Int):=by rw[BQ,bG pC,bG nJ];rfl
 rw[arq];obtain⟨b,rfl⟩:∃ n:Nat,b=n:=⟨b.toNat,by omega⟩;obtain⟨c,rfl⟩:∃ n:Nat,c=n:=⟨c.toNat,by omega⟩;obtain⟨-,gy⟩:=ag;obtain⟨-,oz⟩:=aJ;refine cy.mk λcS g7 zh=>?_;refine cc.mk [] _ _ _ rfl rfl (bP rfl) rfl ?_;refine a9.whole _ (aeD g) ?_;rintro v cW M1 -⟨c6,rfl,zk,b4,rfl⟩;have g6:=aB.mono wZ |>.mono b4
 have auO:∀ {I':a5} {M:List aF} {n:Nat} {x:aF},cx I' (x::JR cS n::M) ⟨cS,0,none⟩ 1 [.int .i64 ((n:Nat):Int)]:=yH (.tail _ (.head _));have aeI:∀ {I':a5} {M:List aF} {x:aF},cx I' (x::(⟨cK,.cells #[.int .i64 b] 3 (0,0)⟩:aF)::M) ⟨cK,0,none⟩ 1 [.int .i64 b]:=⟨rfl,_,_,_,.inr ⟨_,.tail _ (.head _),rfl,rfl⟩,rfl,rfl⟩;refine cq.range aV rfl rfl rfl .refl (aeE g6 zk) (λvs h=>?_) (λk I' M'=>(∀ b o,cW b=some o->I' b=some o)/\M'=[JR cS (cp (fc (kj b) ((gJ g.ds).take k))),⟨cK,.cells #[.int .i64 b] 3 (0,0)⟩]) (λex I' M'=>False) ⟨λ_ _ h=>h,rfl⟩ ?_ ?_ (λex I' M' _ h=>h.elim)
 ·rw[BO]at h;obtain⟨p,_,rfl⟩:=eh.1 h;rfl
 ·rintro k ae I' M' -⟨hY,rfl⟩l B ay j4;have e4:k<(gJ g.ds).length:=by simpa[BO]using ae
  have p0:=az _ (dr e4);have vb:=aeF (f:=kj b) e4;have aj:(rX g.ds)[k]=[(gJ g.ds)[k].val]:=by simp only[BO,lu]
  rw[aj];generalize(gJ g.ds)[k]=d at p0 vb;generalize fc (kj b) ((gJ g.ds).take k)=S at vb;have s1:=p7 S;have ev:=p0.kn;have fin:∀ q:Nat,cp (q+1)=cp (kj b d)->cp (cp S+cp (q+1))=cp (fc (kj b) ((gJ g.ds).take (k+1))):=λq aL=>by rw[vb,aL,arj,vn]
  refine aM.mk (λaf=>?_) (λaf=>?_);·have er:decide (d.k=3)=true:=af;have hw:=fin 1 (by rw[kj,er,a4]);have eK:=p7 (1+1);refine cq.draw aV rfl rfl rfl ?_;refine aw.mk _ (yH (.head _)) ?_;refine hx.mk _ (qQ 1 1 (by omega) (by omega)) ?_;rintro v eC dU -⟨rfl,rfl,rfl⟩;refine a9.whole _ (qQ (cp S) (cp (1+1)) (by omega) (by omega)) ?_;rintro v eC dU -⟨rfl,rfl,rfl⟩;refine cc.mk [] [_] _ _ rfl rfl (bP rfl) rfl ?_;refine⟨_,_,.refl,hY,?_⟩;rw[<-hw];rfl
  ·have er:decide (d.k=3)=false:=af;refine aM.mk (λbp=>?_) (λbp=>?_)
   ·have s3:decide (d.k=6)=true:=bp;obtain⟨dy,mA,ay,U⟩:=p0.lo (cm s3);obtain⟨q,aL⟩:∃ q:Nat,max d.hi 0=q:=⟨(max d.hi 0).toNat,by omega⟩;have hw:=fin (cp (cp (b+2)+q)) (by rw[kj,er,aQ,s3,a4,vn (b+2),vn,show d.hi.toNat=q by omega]);have s2:=p7 (b+2);have eK:=p7 (cp (b+2)+q);have wy:=p7 (cp (cp (b+2)+q)+1);refine cq.draw aV rfl rfl rfl ?_;refine aw.mk _ aeI ?_;refine hx.mk _ (qQ b 2 (by omega) (by omega)) ?_;rintro v eC dU -⟨rfl,rfl,rfl⟩;refine a9.whole _ (arn (cp (b+2)) q aL (by omega) (by omega)) ?_;rintro v eC dU -⟨rfl,rfl,rfl⟩;refine cq.draw aV rfl rfl rfl ?_;refine aw.mk _ (yH (.head _)) ?_;refine hx.mk _ (qQ (cp (cp (b+2)+q)) 1 (by omega) (by omega)) ?_;rintro v eC dU -⟨rfl,rfl,rfl⟩;refine a9.whole _ (qQ (cp S) (cp (cp (cp (b+2)+q)+1)) (by omega) (by omega)) ?_;rintro v eC dU -⟨rfl,rfl,rfl⟩;refine cc.mk [] [_] _ _ rfl rfl (bP rfl) rfl ?_;refine⟨_,_,.refl,hY,?_⟩;rw[<-hw];rfl
   ·have s3:decide (d.k=6)=false:=bp;have hw:=fin d.kn (by rw[kj,er,aQ,s3,aQ]);have eK:=p7 (d.kn+1);refine cq.draw aV rfl rfl rfl ?_;refine aw.mk _ (yH (.head _)) ?_;refine hx.mk _ (qQ d.kn 1 (by omega) (by omega)) ?_;rintro v eC dU -⟨rfl,rfl,rfl⟩;refine a9.whole _ (qQ (cp S) (cp (d.kn+1)) (by omega) (by omega)) ?_;rintro v eC dU -⟨rfl,rfl,rfl⟩;refine cc.mk [] [_] _ _ rfl rfl (bP rfl) rfl ?_;refine⟨_,_,.refl,hY,?_⟩;rw[<-hw];rfl
 ·rintro I' M' -⟨hY,rfl⟩;have aC:(gJ g.ds).take (rX g.ds).length=gJ g.ds:=gM (by simp[BO]);rw[aC];generalize c2:fc (kj b) (gJ g.ds)=S;have s1:=p7 S;have s2:=p7 (b+1);have eK:=p7 (cp S*cp (b+1));refine cq.draw aV rfl rfl rfl ?_;refine aw.mk _ (yH (.head _)) ?_;refine aw.mk _ aeI ?_;refine hx.mk _ (qQ b 1 (by omega) (by omega)) ?_;rintro v eC dU -⟨rfl,rfl,rfl⟩;refine a9.whole _ (Uy (cp S) (cp (b+1)) (by omega) (by omega)) ?_;rintro v eC dU -⟨rfl,rfl,rfl⟩;refine cc.mk [] [_] _ _ rfl rfl (bP rfl) rfl ?_;refine aw.mk _ (yH (n:=cp (cp S*cp (b+1))) (.head _)) ?_;refine a9.whole _ (qQ (cp (cp S*cp (b+1))) c (by omega) (by omega)) ?_;rintro v eC dU -⟨rfl,rfl,rfl⟩;refine⟨_,_,.sub (eN _) .refl,λb o h=>hY _ _ (b4 _ _ (wZ _ _ h)),rfl,?_⟩;have e:cp (cp (cp S*cp (b+1))+c)=BP g.ds b c:=by rw[N9,Ux,vn];unfold BP;rw[c2]
  rw[e];rfl
def Uz{f h:bh->Nat}:∀ {l:List bh},(∀ n∈l,f n<=h n)->fc f l<=fc h l
 |[],_=>b2 _| n::l,aE=>by have U:=aE n (.head _);have aa:=Uz (l:=l) λx ab=>aE x (.tail _ ab);unfold fc at aa |-;simp only[dQ,k'];omega
def UA(f:bh->Nat)(l c8:List bh):fc f (l++c8)=fc f l+fc f c8:=by unfold fc;rw[gW,Cw]
def UB(f h:bh->Nat):∀ l:List bh,fc (λn=>f n+h n) l=fc f l+fc h l
 |[]=>rfl| n::l=>by have:=UB f h l;unfold fc at this |-;simp only[dQ,k'];omega
def UC(f:bh->Nat)(c:Nat):∀ l:List bh,fc (λn=>f n*c) l=fc f l*c
 |[]=>by simp[fc]
 |n::l=>by have:=UC f c l;unfold fc at this |-;simp only[dQ,k'];rw[this,j3]
def aeJ{f:bh->Nat}{c:Nat}:∀ {l:List bh},(∀ n∈l,f n<=c)->fc f l<=l.length*c
 |[],_=>by simp[fc]
 |n::l,h=>by have be:=aeJ (f:=f) (c:=c) (l:=l) λx ab=>h x (.tail _ ab);have:=h n (.head _);rw[eM,j3,qj];unfold fc at be |-;rw[dQ,k'];omega
def aeK:∀ l:List bh,fc (λ_=>1) l=l.length
 |[]=>rfl| n::l=>by have:=aeK l;unfold fc at this |-;simp only[dQ,k',eM];omega
def aeL(d:bD)(ds:List bD):gJ (d::ds)=d.t.ns++gJ ds:=rfl
def Gg(B:Nat)(n:bh):Nat:=3+bif decide (n.k=6)then B+n.hi.toNat else 0
def ars(B:Nat)(n:bh):kj B n<=n.kn+Gg B n:=by
 unfold kj Gg;cases af:decide (n.k=3)with
 |true=>have:decide (n.k=6)=false:=bG (by have:=cm af;omega);rw[this];simp only[a4,aQ];omega
 |false=>
  cases decide (n.k=6)with
  |true=>simp only[a4,aQ];omega| false=>simp only[aQ];omega
def art{B:Nat}{n:bh}(h:Gf n):1+Gg B n<=lM n*(B+4):=by
 unfold Gg lM;cases bp:decide (n.k=6)with
 |true=>
  obtain⟨ed,dP,gS,iq⟩:=h.lo (cm bp);have:decide (n.k=2)=false:=bG (by have:=cm bp;omega);rw[this];simp only[a4,aQ];obtain⟨u,hu⟩:∃ u,n.hi.toNat=u:=⟨_,rfl⟩;obtain⟨v,aj⟩:∃ v,(n.lo+max n.hi 0).toNat=v:=⟨_,rfl⟩;rw[hu,aj];have Tk:u<=v:=by omega
  have U:u*4<=v*(B+4):=Mh Tk (by omega);have aa:(1+v)*(B+4)=(B+4)+v*(B+4):=by rw[j3,qj]
  rw[aa];omega
 |false=>simp only[aQ];have U:1*(B+4)<=(1+bif decide (n.k=2)then n.t.size else 0)*(B+4):=s7 _ (by omega);omega
def aru{t:eH}(al:EZ t)(ae:∀ n∈t.ns,n.aS.length=n.kn):fc bh.kn t.ns<=t.ns.length:=by
 have U:(tI t.ns).length<=t.ns.length:=E1 _ _ al.diff λk ae=>by obtain⟨n,az,ev⟩:=zv.1 ae;obtain⟨j,an,e⟩:=vR az;subst e;have:=al.aS j an k ev;omega
 have aa:∀ l:List bh,(∀ n∈l,n.aS.length=n.kn)->(tI l).length=fc bh.kn l:=λl=>by
  induction l with
  |nil=>intro _;rfl| cons n l be=>intro h;have:=be λx ab=>h x (.tail _ ab);have af:=h n (.head _);unfold tI fc at this |-;simp only[qh,di,dQ,k'];omega
 rw[<-aa _ ae];exact U
def aeM{B:Nat}:∀ (ds:List bD),(∀ d∈ds,EZ d.t/\∀ n∈d.t.ns,Gf n/\n.aS.length=n.kn)->fc (kj B) (gJ ds)<=fc lM (gJ ds)*(B+4)
 |[],_=>by simp[gJ,fc]
 |d::ds,h=>by have be:=aeM (B:=B) ds λx ab=>h x (.tail _ ab);obtain⟨al,az⟩:=h d (.head _);have U:=aru al λn xm=>(az n xm).2;have aa:fc (kj B) d.t.ns<=fc (λn=>n.kn+Gg B n) d.t.ns:=Uz λn _=>ars B n;rw[UB]at aa;have af:fc (λn=>1+Gg B n) d.t.ns<=fc (λn=>lM n*(B+4)) d.t.ns:=Uz λn xm=>art (az n xm).1;rw[UB,aeK,UC]at af;rw[aeL,UA,UA,j3];omega
def arv{B C:Nat}(h:∀ d∈ds,EZ d.t/\∀ n∈d.t.ns,Gf n/\n.aS.length=n.kn):BP ds B C<=BN (cp (fc lM (gJ ds))) B C:=by
 have U:=aeM (B:=B) ds h;have e:BN (cp (fc lM (gJ ds))) B C=cp (fc lM (gJ ds)*(B+1)*(B+4)+C):=by unfold BN;rw[Nat.mul_assoc,<-vn,N9,vn,Nat.mul_assoc]
 rw[e];refine ark (Nat.add_le_add_right ?_ _);rw[Nat.mul_right_comm];exact s7 _ U
def arw(ds:List bD):Prop:=∀ n∈gJ ds,n.aS.length=n.kn
def yI(g:cA)(s:ByteArray):Nat:=fc (kj s.size) (gJ g.ds)*(s.size+1)
def arx{g:cA}(aB:g.ok I)(hm:ie g)(e3:∀ d∈g.ds,∀ n∈d.t.ns,0<=n.k){s:ByteArray}(U:ai<=s.size):l' (fk g s ai) gU<=yI g s:=by
 have e:l' (fk g s ai) gU=qP (fk g s ai).ns.length λk=>(1+JO (fk g s ai) ((fk g s ai).ns.getD k ⟨Qa,[]⟩))*(s.size-ai+1):=by show yE _ _ _+0=_;unfold yE;rw[p'];refine Up λk ae=>?_;show qP _ (λ_=>1+wY (fk g s ai) k)=_;rw[aq6];rfl
 rw[e,aer (λa=>(1+JO (fk g s ai) a)*(s.size-ai+1))];refine iU (aew (g:=λa=>(kj s.size { a.d with kn:=a.d.aS.length })*(s.size+1)) λa aH=>?_) ?_
 ·have aD:=YC hm e3 (s:=s) (ai:=ai) aH;refine Mh ?_ (by omega);unfold JO kj;by_cases bp:a.d.k=6
  ·rw[cF bp,bG (show ¬ a.d.k=3 by omega),dF bp];simp only[a4,aQ];by_cases hi:a.d.hi=-1
   ·rw[cF hi];show 1+(s.size-ai+1)<=_;omega
   ·rw[b8 hi];omega
  ·rw[b8 bp,bG bp];obtain⟨p,aK,rfl⟩:=eh.1 aH;show 1+(jf g.ds p.1 p.2).length<=(bif decide (p.2.k=3)then 1 else bif false then _ else p.2.aS.length)+1;unfold jf;cases decide (p.2.k=3)with
   |true=>simp only[a4,zH];omega| false=>simp only[aQ,eW];omega
 ·have aa:((fk g s ai).ns.map λa=>(kj s.size { a.d with kn:=a.d.aS.length })*(s.size+1))=(lg 0 g.ds).map λp=>(kj s.size { p.2 with kn:=p.2.aS.length })*(s.size+1):=by simp[fk,jT,C7]
  rw[aa,aex λn=>(kj s.size { n with kn:=n.aS.length })*(s.size+1)];have af:∀ ds:List bD,(∀ d∈ds,d.ok I)->(ds.map λd=>(d.t.ns.map λn=>(kj s.size { n with kn:=n.aS.length })*(s.size+1)).sum).sum=fc (kj s.size) (gJ ds)*(s.size+1):=λds=>by
   induction ds with
   |nil=>intro _;simp[fc,gJ]
   |cons d ds be=>
    intro ah;have aN:(d.t.ns.map λn=>(kj s.size { n with kn:=n.aS.length })*(s.size+1)).sum=fc (kj s.size) d.t.ns*(s.size+1):=by rw[<-UC];unfold fc;congr 1;refine xo λn az=>?_;have:=((ah d (.head _)).t.ns n az).kn;unfold kj;simp only;rw[this]
    rw[dQ,k',aN,be λx ab=>ah x (.tail _ ab),aeL,UA,j3]
  rw[af g.ds aB.ds];exact b2 _
def UD{g:cA}(aB:g.ok I)(hm:ie g){s:ByteArray}(ax:s.size<=4096)(gl:∀ k a,k<bI g.ds->a<=s.size->cn (bs (cd g s) k a)){rule b:Nat}(al:rule<g.ds.length)(ag:b<=s.size){r:oq}(h:ot (fk g s b) (eF g rule) b fuel r) :
  (yI g s+min (bs (cd g s) (eF g rule) b).n 65536<=fuel->r≠.err 44)/\∀ o u,r=.ok o u->u<=yI g s+o.mB.length:=by
 have e3:∀ d∈g.ds,∀ n∈d.t.ns,0<=n.k:=λd ah n az=>((aB.ds d ah).t.ns n az).k.1;have cV:=E2 hm e3 ag ax;have cg:(fk g s b).ns.length=bI g.ds:=Df g.ds;have Jl:A3 (fk g s b):=λk a U aa=>by rw[JN];exact gl k a (by rw[<-cg];exact U) aa
 have hA:=LN hm al s b;obtain⟨a3,a6⟩:=Zq cV Jl hA (b2 b) ag fuel;have jB:=aev cV fuel (CQ _) (H4 _) (H5 hA (b2 b) ag) trivial;have auP:=arx aB hm e3 ag;have z:gU.aU=0:=rfl;cases h with
 | @err e h=>have ay:=a3 e h;subst ay;exact⟨λar=>absurd h (jB.1 (by omega)),λo u e=>by cases e⟩| fail h=>have:=jB.2 h;refine⟨λ_ e=>(by cases e),λo u e=>?_⟩;cases e;omega| many=>exact⟨λ_ e=>(by cases e),λo u e=>by cases e⟩| zD h af az sg=>have bq:=jB.2 h;obtain⟨ed,-⟩:=a6 _ _ h;rw[JN]at ed;have bp:_=min (bs (cd g s) (eF g rule) b).n 65537:=congrArg bo.n ed;exact⟨λar=>by omega,λo u e=>by cases e⟩
 | @ok c S n l h af az sg jZ aE=>have:=jB.2 h;refine⟨λ_ e=>(by cases e),λo u e=>?_⟩;cases e;show S.aU+c.n<=_+l.length;omega
def aeN(aX:List Int)(g:cA)(rule:Int)(s:ByteArray)(ai fuel:Int)(I:a5)(v:Value)(I':a5)(M':List aF):Prop:=
 (∀ b o,I b=some o->I' b=some o)/\∃ (r:oq) (os:bf),N2 aX g rule s ai fuel r/\v=.tuple #[yD r.o os.val,.int .i64 r.u,.int .i64 r.e]/\os.ok 3 (r.o.mB.flatMap e'.cells)/\M'=os.aO 110
def Gh(size:Nat):(⟨none,0,0,[]⟩:bf).ok size []:=⟨by simp,λ_=>⟨rfl,rfl⟩,λg h=>by cases h⟩
def aeO(bO:gu I aX){g:cA}(aB:g.ok I)(rule:Int)(s:ByteArray)(ai fuel:Int) :
  Spec Tryz.prog 28 [g.val,.int .i64 rule,.string s,.int .i64 ai,.int .i64 fuel] I [] (aeN aX g rule s ai fuel I):=by
 by_cases zZ:pi aX g rule s.size ai fuel=0
 rotate_left
 ·refine bY [] aV Tryz.func28 rfl rfl rfl ?_;intro B ay;refine a9.mk [] [] _ (.refl _) (aeg bO aB rule s ai fuel) ?_;rintro v cW M1 -⟨rfl,b4,rfl⟩;refine aM.mk (λe=>?_) (λe=>?_)
  ·exact⟨_,_,.refl,b4,.err (pi aX g rule s.size ai fuel),⟨none,0,0,[]⟩,.inl ⟨zZ,rfl⟩,rfl,Gh 3,rfl⟩
  ·have aA:(!decide (pi aX g rule s.size ai fuel=0))=false:=e;simp only[vS,eY]at aA;exact absurd aA zZ
 obtain⟨EC,⟨dI,m2⟩,CA,⟨FY,auQ⟩,ary,auR⟩:=aqM zZ;obtain⟨oH,rfl⟩:=lX dI;obtain⟨a,rfl⟩:=lX FY;obtain⟨rY,rfl⟩:=lX ary;have hm:=A0 EC λd ah=>(aB.ds d ah).t.n;have e3:∀ d∈g.ds,∀ n∈d.t.ns,0<=n.k:=λd ah n az=>((aB.ds d ah).t.ns n az).k.1;have gC:=aB.n;have aeP:oH<g.ds.length:=by omega
 have cV:=E2 hm e3 (s:=s) (ai:=a) (by omega) CA;have sm:=LN hm aeP s a;have aL:l1 (fk g s a) gU (.begin (eF g oH) a):=H5 sm (b2 a) (by show a<=s.size;omega);have run:∀ {r:oq},ot (fk g s a) (eF g oH) a rY r->N2 aX g oH s a rY r:=λh=>.inr ⟨zZ,h⟩;refine bY [] aV Tryz.func28 rfl rfl rfl ?_;intro B ay;refine a9.mk [] [] _ (.refl _) (aeg bO aB oH s a rY) ?_;rintro v cW M1 -⟨rfl,b4,rfl⟩;refine aM.mk (λe=>?_) (λ_=>?_)
 ·have aA:(!decide (pi aX g oH s.size a rY=0))=true:=e;rw[zZ]at aA;cases aA
 refine a9.whole _ (alF (aB.mono b4) hm (by have:=hm.ajp;omega) s CA a rY (by omega)) ?_;rintro v eC dU -⟨h5,m,C1,rfl,ph,l7,arz,arA,aeQ,Gi,z2,o7,rfl⟩;have JS:∀ b o,I b=some o->eC b=some o:=λb o h=>h5 _ _ (b4 _ _ h);have auS:m.s.size=s.size:=by rw[l7]
 have hA:oH<(ej 0 g.ds).length:=by rw[xS];exact aeP
 obtain⟨ad,b3,br⟩:=ph.one (f:=eQ) (j:=oH) (by omega) hA;have arB:(ej 0 g.ds)[oH]=eF g oH:=by simp[eF,dB,hA]
 rw[arB]at br;refine bl.mk ad oH b3 rfl (by omega) ?_;refine aw.mk _ (br _) ?_;have aeR:iw m.aZ:=by rw[Gi];exact cV
 have ff:=alh (I:=eC) m aeQ aeR (by omega) (by have:=hm.CP;omega) o7 (k:=eF g oH) (a:=a) (S:=gU) (R:=List.replicate (bI g.ds) ⟨none,List.replicate m.w hC⟩) (os:=⟨none,0,0,[]⟩) (G:=ho m.aZ m.fuel (.begin (eF g oH) a) gU) (aqP m _) (by rw[z2,y5]) (Gh 5) rfl rfl (CQ _) (H4 _) (by rw[Gi];exact aL) rfl;rw[aqO,z2]at ff;refine a9.whole _ ff ?_;rintro v I' M' -⟨rfl,en⟩;rw[Gi,arA]at en;cases eR:ho (fk g s a) rY (.begin (eF g oH) a) gU with
 |err e=>
  rw[eR]at en;obtain⟨rfl,rfl⟩:=en;have bM:=aqN (aej cV rY (CQ _) aL eR);refine aM.mk (λ_=>?_) (λaA=>?_);·exact⟨_,_,.refl,JS,.err (HR e),⟨none,0,0,[]⟩,run (.err eR),rfl,Gh 3,rfl⟩
  ·have bx:(!decide (HR e=0))=false:=aA;simp only[vS,eY]at bx;exact absurd bx bM
 |ok c S=>
  rw[eR]at en;obtain⟨rfl,R,os,ba,arC,rfl⟩:=en;obtain⟨i1,i2,i3,i4,i5,i6⟩:=aju cV sm (b2 a) (show a<=s.size by omega) eR;obtain⟨-,-,u',-,-⟩:=LO cV rY (r:=eF g oH) (a:=a) (CQ _) (H4 _) aL trivial (.inl ⟨rfl,rfl⟩) eR;have kS:kU (fk g s a) a c:=by have dk:=i2.kn (eF g oH) 0;have b':(fk g s a).aq+0=a:=rfl;rw[b']at dk;have aC:a-(fk g s a).aq=0:=rp a;rw[aC]at i5;rwa [i5]at dk
  have auT:=Iu kS CA;obtain⟨n,l,aeS⟩:∃ n l,c.ao=3->hp (fk g s a) S.kn n [(eF g oH,a)] l/\(c.n<=65536->l.length=c.n)/\kc a c.av l:=by
   by_cases dk:c.ao=3;·obtain⟨n,l,q⟩:=i6 dk;exact⟨n,l,λ_=>q⟩
   ·exact⟨0,[],λh=>absurd h dk⟩
  refine aM.mk (λe=>by cases e) (λ_=>?_);refine aM.mk (λe=>?_) (λe=>?_)
  ·have aA:c.ao=2:=by have:(c.ao:Int)=2:=cm e;omega
   refine cq.draw aV rfl rfl rfl ?_;refine aw.mk _ (fv (k:=3) (.head _) (by decide)) ?_;refine hx.whole _ aeh (λv I' M' h x ab=>by rw[h.2.2];exact ab) ?_;rintro v I' M' -⟨rfl,rfl,rfl⟩;exact⟨_,[],.sub (eN _) .refl,JS,.ok vl S.aU,⟨none,0,0,[]⟩,run (.fail eR aA),rfl,Gh 3,rfl⟩
  have bx:c.ao=3:=by
   have:¬ (c.ao:Int)=2:=cu e;rcases i1 with h | h;·omega
   ·exact h
  refine aM.mk (λe=>?_) (λe=>?_)
  ·have cU:65536<c.n:=by have:(65536:Int)<(c.n:Int):=cm e;omega
   exact⟨_,[],.sub (eN _) .refl,JS,.err 40,⟨none,0,0,[]⟩,run (.many eR bx cU),rfl,Gh 3,rfl⟩
  have cU:c.n<=65536:=by have:¬ (65536:Int)<(c.n:Int):=cu e;omega
  refine cq.draw aV rfl rfl rfl ?_;refine bb.mk (c.n:Int) (ei rfl (by omega)) ?_;refine aw.mk _ (fv (k:=3) (.head _) (by decide)) ?_;refine bb.mk ((rY:Int)-(S.aU:Int)) (ei rfl (by omega)) ?_;refine aM.mk (λe=>?_) (λe=>?_)
  ·have e8:rY<S.aU+c.n:=by have:(rY:Int)-(S.aU:Int)<(c.n:Int):=cm e;omega
   exact⟨_,[],.sub (eN _) .refl,JS,.err 44,⟨none,0,0,[]⟩,run (.zD eR bx cU e8),rfl,Gh 3,rfl⟩
  have e8:S.aU+c.n<=rY:=by have:¬ (rY:Int)-(S.aU:Int)<(c.n:Int):=cu e;omega
  have jZ:=(aeS bx).1;have r5:=(aeS bx).2.1 cU;refine bb.mk (c.av:Int) (ei rfl (by omega)) ?_;refine a9.whole _ (aei c.av) ?_;rintro v I' M' -⟨rfl,rfl,rfl⟩;refine bl.mk ad oH b3 rfl (by omega) ?_;refine aw.mk _ (br _) ?_;have iQ:NR m S.kn R:=⟨by omega,by omega,ba,λk p=>by
   have:=i2.kn k p;rw[<-Gi]at this;exact this⟩
  have alG:m.aZ.aq=m.aq:=rfl;have lI:=aqE (I:=I') iQ aeQ aeR (by rw[Gi];exact u'.g) (aU:=S.aU) (osF:=os) arC (k:=eF g oH) (a:=a) (by rw[z2];have:=sm;simpa[fk,jT,wi]using this) (by omega) (by omega) (by
   have gg:a-m.aq=a-(fk g s a).aq:=by rw[arz];rfl
   rw[gg,i5];exact bx) (n:=n) (l:=l) (by rw[Gi];exact jZ) (by omega)
  refine a9.whole _ lI ?_;rintro v I' M' -⟨rfl,gj,rfl,oG,rfl⟩;refine cq.draw aV rfl rfl rfl ?_;refine aw.mk _ (fv (k:=3) (.head _) (by decide)) ?_;refine bb.mk (c.n:Int) (ei rfl (by omega)) ?_;refine bb.mk ((S.aU+c.n:Nat):Int) (ei (by simp) (by omega)) ?_;exact⟨_,gj.aO 110,.sub (.cons _ (.cons _ (mU _ _))) .refl,JS,.ok ⟨true,c.av,l⟩ (S.aU+c.n),gj,run (.ok eR bx cU e8 jZ r5),rfl,oG,rfl⟩
def arD(bO:gu I aX){g:cA}(aB:g.ok I)(s:ByteArray)(fuel:Int) :
  Spec Tryz.prog 32 [g.val,.string s,.int .i64 fuel] I [] (aeN aX g 0 s 0 fuel I):=by
 refine bY [] aV Tryz.func32 rfl rfl rfl ?_;intro B ay;refine a9.whole _ (aeO bO aB 0 s 0 fuel) ?_;rintro v cW M1 -⟨b4,r,os,al,rfl,cr,rfl⟩;exact⟨_,_,.refl,b4,r,os,al,rfl,cr,rfl⟩
def s6(b:X=true)(h:X=false):p:=by rw[b]at h;cases h
def ui(b:X=false)(h:X=true):p:=by rw[b]at h;cases h
def bf.UE{J:a5}(cB:Nr I M J){os:bf}{xs:List Value}{e size b:Nat}(h:os.ok size xs)(a2:∀ x∈os.aO e,x∈M)(ag:os.n*b<=140737488355328):fC J (os.a.map λg=>⟨g,0,none⟩) os.n os.c size b xs:=by
 obtain⟨a,n,c,aY⟩:=os;cases a with
 |none=>obtain⟨U,aa⟩:=h.nil rfl;exact⟨h.len,⟨by simp only at U aa |-;omega,ag⟩,.inl U⟩
 |some g=>obtain⟨U,aa,af,aN⟩:=h.cap g rfl;exact⟨h.len,⟨aa,ag⟩,.inr ⟨⟨g,0,none⟩,rfl,rfl,aY.toArray,e,(0,0),cB.kn _ _ (.inr ⟨⟨g,.cells aY.toArray e (0,0)⟩,a2 _ (.head _),rfl,rfl⟩),by simpa using aN⟩⟩
def aeT(aX:List Int)(g:cA)(rule:Int)(s:ByteArray)(ai fuel:Int)(I:a5)(M0:List aF)(v:Value)(I':a5)(M':List aF):Prop:=
 (∀ b o,I b=some o->I' b=some o)/\M'=M0/\∃ (r:oq) (a:Option Addr) (n c:Nat),N2 aX g rule s ai fuel r/\v=.tuple #[yD r.o (.slice a n c),.int .i64 r.u,.int .i64 r.e]/\fC I' a n c 3 0 (r.o.mB.flatMap e'.cells)
def UF(bO:gu I aX){g:cA}(aB:g.ok I)(rule:Int)(s:ByteArray)(ai fuel:Int) :
  Spec Tryz.prog 28 [g.val,.int .i64 rule,.string s,.int .i64 ai,.int .i64 fuel] I M0 (aeT aX g rule s ai fuel I M0):=by
 refine Spec.p2 (Spec.frame (Spec.oB (aeO bO aB rule s ai fuel))) ?_;rintro v J M⟨M',rfl,-,dn,rfl,-,I',M1,⟨U,r,os,al,rfl,cr,rfl⟩,cB⟩;exact⟨dn,rfl,r,os.a.map λg=>⟨g,0,none⟩,os.n,os.c,al,rfl,bf.UE cB cr (λ_ h=>h) (by omega)⟩
def Oa{R:Type}(v:α)(x:R)(f:α->R):cv (some v) x f=f v:=rfl
def arE(l c8:List UInt8)(a b cf h2:Int):rK Tryz.prog lv 8 110 (.a [.s l,.i .i64 a,.i .i64 b]) (.a [.s c8,.i .i64 cf,.i .i64 h2])=some (rJ l c8&&(nU a cf&&nU b h2)):=by
 obtain⟨i36,arF,arG⟩:∃ i,lv 110=some i/\i.bT=.struct [(9,0),(3,1),(3,2)]:=⟨_,rfl,rfl⟩;obtain⟨i9,dk,arH⟩:∃ i,lv 9=some i/\i.bT=.string:=⟨_,rfl,rfl⟩;obtain⟨i3,af,xy⟩:∃ i,lv 3=some i/\i.bT=.int .i64:=⟨_,rfl,rfl⟩;have aK:R8 Tryz.prog 110=true:=by kernel_rfl
 have aL:∀ k a b,rK Tryz.prog lv (k+1) 3 (.i .i64 a) (.i .i64 b)=some (nU a b):=λk a b=>by simp only[rK,af,Oa,xy];rfl
 have ag:∀ k a b,rK Tryz.prog lv (k+1) 9 (.s a) (.s b)=some (rJ a b):=λk a b=>by simp only[rK,dk,Oa,arH]
 rw[rK];simp only[arF,Oa,arG,aK];have yr:∀ nJ fm fj,wJ lv 9 0 [.s nJ,fm,fj]=some (.s nJ):=λ_ _ _=>rfl;have pH:∀ nJ fm fj,wJ lv 3 1 [nJ,.i .i64 fm,fj]=some (.i .i64 fm):=λ_ _ _=>rfl;have pI:∀ nJ fm fj,wJ lv 3 2 [nJ,fm,.i .i64 fj]=some (.i .i64 fj):=λ_ _ _=>rfl;simp only[Bf,yr,pH,pI,Oa,aL,ag,k4];cases rJ l c8<;>cases nU a cf<;>cases nU b h2<;>rfl
def Gj(x y:e'):Bool:=rJ x.name.data.toList y.name.data.toList&&(nU x.lo y.lo&&nU x.hi y.hi)
def aeU(x y:e'):Gj x y=true ↔ x=y:=by
 obtain⟨⟨⟨n⟩⟩,l,h⟩:=x;obtain⟨⟨⟨fK⟩⟩,c8,bg⟩:=y;unfold Gj;rw[Dr,zY,zY];simp only[ct,eY,e'.mk.injEq,Ot,Array.mk.injEq];constructor
 ·rintro⟨U,aa,af⟩;exact⟨U,by omega,by omega⟩
 ·rintro⟨U,aa,af⟩;exact⟨U,by omega,by omega⟩
def e'.aeV(D:bS)(x:e'):b0 D [.s x.name.data.toList,.i .i64 x.lo,.i .i64 x.hi] x.cells:=by simp[b0,a1,e'.cells]
def fU.arI{x y:Operand}{p q:e'}{V:Value->Prop}{other:Prop}(h:V (.bool (!Gj p q))) :
  fU Tryz.prog .neq 110 x y (.val (.agg #[.string p.name,.int .i64 p.lo,.int .i64 p.hi])) (.val (.agg #[.string q.name,.int .i64 q.lo,.int .i64 q.hi])) V other:=by
 refine SN (X:=⟨Tryz.prog,lv,[],0,0,default,λ_=>none,[],none⟩) (D:=λ_=>none) (v:=.b (!Gj p q)) aV ?_ (e'.aeV _ p) (e'.aeV _ q) (λu hu=>by simp only[a1]at hu;rw[hu];exact h);show Dj Tryz.prog lv .neq 110 _ _=_;unfold Dj;rw[arE,show Tryz.prog.eqGuardType Tryz.prog.depth 110=false by kernel_rfl];rfl
def arJ{l m:List α}(aE:k<l.length)(hm:k<m.length)(h:l.take k=m.take k)(e:l[k]=m[k]):l.take (k+1)=m.take (k+1):=by rw[iT aE,iT hm,h,e]
def arK{l m:List α}(aE:k<l.length)(hm:k<m.length)(e:¬ l[k]=m[k]):¬ l=m:=λh=>by subst h;exact e rfl
def arL{b h2:Nat}{c8:List e'}(h:fC I a n c 3 b (l.flatMap e'.cells))(bg:fC I cf fK c' 3 h2 (c8.flatMap e'.cells))(ag:n<=140737488355327):Spec Tryz.prog 52 [.slice a n c,.slice cf fK c'] I M0 λv I' M'=>(∃ r,v=.bool r/\(r=true ↔ l=c8))/\I'=I/\M'=M0:=by
 refine bY [] aV Tryz.func52 rfl rfl rfl ?_;intro B ay;have aE:l.length=n:=by have:=h.len;rw[fu _ 3 e'.dc]at this;omega
 have n5:c8.length=fK:=by have:=bg.len;rw[fu _ 3 e'.dc]at this;omega
 by_cases az:n=fK
 rotate_left
 ·refine aM.mk (λ_=>?_) (λh=>absurd h (by simp;omega));exact⟨_,_,.refl,⟨false,rfl,λe=>(by cases e),λe=>absurd (by rw[<-aE,<-n5,e]) az⟩,rfl,rfl⟩
 subst az;refine aM.mk (λh=>absurd h (by simp)) (λ_=>?_);refine ea.inv (ι:=Nat) (λk=>{ bK:=[(0,.val (.slice a n c)),(1,.val (.slice cf n c')),(12,.val (.int .i64 n)),(13,.val (.int .i64 k))],dz:=I,d':=M0 }) (λk=>k<=n/\l.take k=c8.take k) (λk=>n-k) ?_ ?_
 ·exact⟨0,⟨bF _,rfl⟩,.refl,fo,.nil⟩
 rintro k⟨ae,aI⟩;refine aM.mk (λaa=>?_) (λaa=>?_)
 ·have a0:k<n:=by have:(k:Int)<(n:Int):=cm aa;omega
  have e4:k<l.length:=by omega
  have tr:k<c8.length:=by omega
  obtain⟨ad,b3,br⟩:=h.row e'.dc a0 e4;obtain⟨VC,arM,x6⟩:=bg.row e'.dc a0 tr;have hex:=arJ e4 tr aI;have bM:=arK e4 tr;generalize l[k]=x at br hex bM;generalize c8[k]=y at x6 hex bM;refine cq.draw aV rfl rfl rfl ?_;refine bl.mk ad k b3 rfl a0 ?_;refine aw.mk _ (br _) ?_;refine bl.mk VC k arM rfl a0 ?_;refine aw.mk _ (x6 _) ?_;refine fU.arI (p:=x) (q:=y) ?_;refine aM.mk (λe=>?_) (λe=>?_);·have aA:(!Gj x y)=true:=e;rw[pk,<-Bool.not_eq_true,aeU]at aA;exact⟨_,_,.refl,⟨false,rfl,λe=>(by cases e),λe=>absurd e (bM aA)⟩,rfl,rfl⟩
  ·have aA:(!Gj x y)=false:=e;rw[vS,aeU]at aA;refine bb.mk _ (c7 (i:=k) (by omega)) ?_;exact⟨k+1,⟨⟨a0,hex aA⟩,by omega⟩,.refl,fo,.nil⟩
 ·have cE:k=n:=by have:¬ (k:Int)<(n:Int):=cu aa;omega
  subst cE;rw[gM (by omega),gM (by omega)]at aI;exact⟨_,_,.refl,⟨true,rfl,λ_=>aI,λ_=>rfl⟩,rfl,rfl⟩
def Ob{o':o1}(h:fC I a n c 3 0 (o.mB.flatMap e'.cells))(bg:fC I cf fK c' 3 0 (o'.mB.flatMap e'.cells))(ag:n<=140737488355327) :
  Spec Tryz.prog 18 [yD o (.slice a n c),yD o' (.slice cf fK c')] I M0 λv I' M'=>(∃ r,v=.bool r/\(r=true ↔ o=o'))/\I'=I/\M'=M0:=by
 refine bY [] aV Tryz.func18 rfl rfl rfl ?_;intro B ay;obtain⟨k,av,l⟩:=o;obtain⟨cO,z7,c8⟩:=o';refine c0.mk (λaC=>?_) (λaC=>?_)
 rotate_left
 ·have aA:k≠cO:=λe=>by subst e;simp at aC
  exact⟨_,_,.refl,⟨false,rfl,λe=>(by cases e),λe=>absurd (congrArg o1.ok e) aA⟩,rfl,rfl⟩
 have aA:k=cO:=by simpa using aC
 refine c0.mk (λbx=>?_) (λbx=>?_)
 rotate_left
 ·have cU:av≠z7:=λe=>by subst e;simp at bx
  exact⟨_,_,.refl,⟨false,rfl,λe=>(by cases e),λe=>absurd (congrArg o1.av e) cU⟩,rfl,rfl⟩
 have cU:av=z7:=by have:(av:Int)=(z7:Int):=cm bx;omega
 refine a9.whole _ (arL h bg ag) ?_;rintro v I' M' -⟨⟨r,rfl,al⟩,rfl,rfl⟩;refine⟨_,_,.refl,⟨r,rfl,?_⟩,rfl,rfl⟩;rw[al];simp[aA,cU]
section
end
section
section
end
end
section
end
def Oc(h:fC I a n c 3 0 (l.flatMap e'.cells)):l.length=n:=by have:=h.len;rw[fu _ 3 e'.dc]at this;omega
noncomputable def JT(f g:Nat)(args:List ap):Option ap:=cv (yk qO (lJ qO f) g args ⟨.nil,0⟩) none λp=>some p.1
def UG(bO:gu I iN){f g:Nat}{args:List ap}{b:Bool}(h:JT f g args=some (.b b)){us:List Value}(hu:b0 (λ_=>none) args us) :
  Spec Tryz.prog g us I [] λr J oP=>r=.bool b/\(∀ b o,I b=some o->J b=some o)/\oP=[]:=by
 unfold JT at h;obtain⟨⟨v,m'⟩,U,h⟩:=df h;cases h;refine Spec.p2 (ao8 bO U hu) ?_;rintro r J oP⟨rfl,bz,I',M',bH,aj,hm,dn⟩;simp only[a1]at aj;exact⟨aj,bz,rfl⟩
section
section
end
section
end
end
def aeW(h:n<18446744073709551616):IntKind.u64.wrap (n:Int)=n:=by unfold IntKind.wrap;simp only[IntKind.bits,IntKind.signed];simp;omega
def Od(x:Int):0<=IntKind.u64.wrap x:=by unfold IntKind.wrap;simp only[IntKind.bits,IntKind.signed];simp;omega
def JL.Oe{g:cA}{s:ByteArray}{j:Nat}(hi:i<g.n)(an:j<=s.size)(aI:JL g s i j o e):rW (cd g s) (eF g i) j o e:=by
 have DR:p6 g.n s.size i j=true:=by simp only[p6,ct,eY];omega
 cases aI with
 |no h aD he=>rw[DR]at h;cases h
 |is i2 gv j1 mo _ _ h=>
  obtain rfl:i=i2:=by omega
  obtain rfl:j=gv:=by omega
  exact h
def aeX{g:cA}{s:ByteArray}{t:eU}{T:Nat->Nat->cP}(h:wG I g s t T)(hm:ie g)(s5:uf I t T)(gC:g.ds.length=g.n)(rule a:Int)(aJ:∀ o e,JL g s rule a o e->o.mB.length<=65536) :
  Spec Tryz.prog 13 [ptr t.bt,.int .i64 rule,.int .i64 a] I M0 λv I' M'=>(∀ b o,I b=some o->I' b=some o)/\M'=M0/\∃ (cf:Option Addr) (n c:Nat) (o:o1) (e:Int),JL g s rule a o e/\v=.tuple #[yD o (.slice cf n c),.int .i64 e]/\fC I' cf n c 3 0 (o.mB.flatMap e'.cells):=by
 refine Spec.p2 (Spec.frame (Spec.oB (aqT h hm s5 gC rule a))) ?_;rintro v J M⟨M',rfl,-,dn,rfl,-,I',M1,⟨rfl,os,o,e,aD,rfl,cr,rfl⟩,cB⟩;exact⟨dn,rfl,os.a.map λg=>⟨g,0,none⟩,os.n,os.c,o,e,aD,rfl,bf.UE cB cr (λ_ h=>h) (by omega)⟩
def rW.mB{a:Nat}(h:rW P k a o e):o.mB.length<=65536:=by
 cases h with
 |none h aD he=>rw[aD];exact bF _| fail h aD he=>rw[aD];exact bF _| many h az aD he=>rw[aD];exact bF _| is h az he bw ix aE=>omega
def aeY{g:cA}(h:e9 aX g=0):g.n<=64:=by
 unfold e9 at h;cases U:decide ((g.n:Int)=0)with
 |true=>rw[U]at h;simp at h
 |false=>
  rw[U,aQ]at h;cases aa:v7 g.ds with
  |false=>rw[aa]at h;simp at h
  |true=>
   rw[aa]at h;cases af:uS aX g with
   |true=>rw[af]at h;simp at h| false=>unfold uS at af;simp only[n8,ny]at af;omega
def p5.congr{A B:Nat->List Nat}(h:∀ i k,k∈A i->k∈B i)(aJ:p5 A i k):p5 B i k:=by
 induction aJ with
 |one U=>exact .one (h _ _ U)| step U t be=>exact .step (h _ _ U) be
def aeZ{g:cA}(a2:wh g):k∈DK g.ds F i ↔ k∈p4 g.ds F i:=by
 unfold DK;rw[yN];constructor
 ·rintro⟨-,h⟩;simpa using h
 ·intro h;exact⟨by simpa using JE a2 i k h,by simpa using h⟩
def UH{g:cA}(a2:wh g):p5 (DK g.ds F) i k ↔ p5 (p4 g.ds F) i k:=
 ⟨p5.congr λ_ _ h=>(aeZ a2).1 h,p5.congr λ_ _ h=>(aeZ a2).2 h⟩
def arN(h:k∈DK ds F i):k<ds.length:=by unfold DK at h;simpa using(yN.1 h).1
open Classical in
noncomputable def JU(ds:List bD):List a8:=if h:∃ F,rs ds F then h.choose else []
def ae0(h:rs ds F):JU ds=F:=by have ab:∃ F,rs ds F:=⟨F,h⟩;unfold JU;rw[dif_pos ab];exact ab.choose_spec.unique h
def BR(aX:List Int)(g:cA)(r:Int×Int):Prop:=(e9 aX g≠0/\r=(0,e9 aX g))\/(e9 aX g=0/\∃ F,rs g.ds F/\r=if 0<(BI g.ds F).length then((((BI g.ds F).headD 0:Nat):Int),42)else if 0<(F9 g.ds F).length then((((F9 g.ds F).headD 0:Nat):Int),43)else(0,0))
def arO(bO:gu I aX){g:cA}(aB:g.ok I)(vj:∀ d∈g.ds,Bz d.t):Spec Tryz.prog 50 [g.val] I [] λv I' M'=>(∀ b o,I b=some o->I' b=some o)/\M'=[] /\ ∃ r:Int×Int,v=.tuple #[.int .i64 r.1,.int .i64 r.2]/\BR aX g r:=
 Spec.p2 (ap1 bO aB vj aeY) λv I' M' h=>by
  obtain⟨U,aa,r,af,bq⟩:=h;refine⟨U,aa,r,af,?_⟩;rcases bq with bq | ⟨hm,F,c,d⟩;·exact .inl bq
  ·have a2:=LK aB.n hm;have mK:=aeY hm;have gC:=aB.n;refine .inr ⟨hm,F,c,?_⟩;rw[d,JB,b8 (by simp),aqc a2 (by omega),aqa aB a2 (by omega)]
def arP(bO:gu I aX){g:cA}(aB:g.ok I)(vj:∀ d∈g.ds,Bz d.t):Spec Tryz.prog 15 [g.val] I [] λv I' M'=>(∀ b o,I b=some o->I' b=some o)/\M'=[] /\
  ∃ r:Int×Int,v=.int .i64 r.2/\BR aX g r:=by
 refine bY [] aV Tryz.func15 rfl rfl rfl ?_;intro B ay;refine a9.mk [] [] _ (.refl _) (arO bO aB vj) ?_;rintro v cW N -⟨b4,rfl,r,rfl,h⟩;exact⟨_,_,.refl,b4,rfl,r,rfl,h⟩
section
variable{I:a5}{M0:List aF}{aX:List Int}
def ae1(bO:gu I aX){g:cA}(aB:g.ok I)(vj:∀ d∈g.ds,Bz d.t):Spec Tryz.prog 15 [g.val] I M0 λv I' M'=>(∀ b o,I b=some o->I' b=some o)/\M'=M0/\∃ r:Int×Int,v=.int .i64 r.2/\BR aX g r:=by refine Spec.p2 (Spec.frame (arP bO aB vj)) ?_;rintro v J M⟨M',rfl,-,U,-,rfl,r,rfl,aa⟩;exact⟨U,rfl,r,rfl,aa⟩
end
section
end
section
end
section
end
section
end
def BR.get{g:cA}(hm:e9 aX g=0)(h:BR aX g r):r.2=0 ↔ (BI g.ds (JU g.ds)).length=0/\(F9 g.ds (JU g.ds)).length=0:=by
 rcases h with⟨a,-⟩ | ⟨-,F,c,rfl⟩
 ·exact absurd hm a
 ·rw[ae0 c];by_cases U:0<(BI g.ds F).length
  ·rw[cF U];simp only;omega
  ·rw[b8 U];by_cases aa:0<(F9 g.ds F).length
   ·rw[cF aa];simp only;omega
   ·rw[b8 aa];exact⟨λ_=>⟨by omega,by omega⟩,λ_=>rfl⟩
open Classical in
def arQ{g:cA}(a2:wh g):i∈BI g.ds F ↔ i<g.ds.length/\p5 (DK g.ds F) i i:=by unfold BI;rw[yN,me,decide_eq_true_iff,UH a2]
def arR(h:p5 (DK ds F) i k):k<ds.length:=by
 induction h with
 |one h=>exact arN h| step h t be=>exact be
structure pj(I:a5)(g:cA)(s:ByteArray)(rule b:Nat):Prop where
 vo:g.ok I
 may:e9 iN g=0
 ax:s.size<=4096
 al:rule<g.n
 ag:b<=s.size
 all:∀ k a,k<bI g.ds->a<=s.size->cn (bs (cd g s) k a)
def pj.mono{I':a5}{g:cA}{s:ByteArray}{rule b:Nat}(h:pj I g s rule b)(bX:∀ b o,I b=some o->I' b=some o):pj I' g s rule b:={ h with vo:=h.vo.mono bX }
section
variable{I:a5}{M0:List aF}{g:cA}{s:ByteArray}{rule b fuel:Nat}
def pj.m(h:pj I g s rule b):ie g:=A0 h.may λd ah=>(h.vo.ds d ah).t.n
def pj.qx(h:pj I g s rule b):∀ d∈g.ds,∀ n∈d.t.ns,0<=n.k:=λd ah n az=>((h.vo.ds d ah).t.ns n az).k.1
def pj.yJ(h:pj I g s rule b):rule<g.ds.length:=by have:=h.vo.n;have:=h.al;omega
def pj.run(h:pj I g s rule b)(ar:fuel<=1099511627776){r:oq}(al:N2 iN g (rule:Int) s (b:Int) (fuel:Int) r):ot (fk g s b) (eF g rule) b fuel r:=by
 have U:=h.al;have aa:=h.ax;have af:=h.ag;have aK:pi iN g (rule:Int) s.size (b:Int) (fuel:Int)=0:=by unfold pi;rw[h.may,dF rfl,bG (show ¬ ((rule:Nat):Int)<0 by omega),bG (show ¬ (g.n:Int)<=(rule:Int) by omega),bG (show ¬ (4096:Int)<(s.size:Int) by omega),bG (show ¬ (b:Int)<0 by omega),bG (show ¬ (s.size:Int)<(b:Int) by omega),bG (show ¬ (fuel:Int)<0 by omega),bG (show ¬ (1099511627776:Int)<(fuel:Int) by omega)];rfl
 rcases al with⟨a,-⟩ | ⟨-,a⟩
 ·exact absurd aK a
 ·exact a
def JV(o:o1)(e:Int)(u:Nat)(I':a5)(v:Value):Prop:=∃ a n c,v=.tuple #[yD o (.slice a n c),.int .i64 u,.int .i64 e]/\fC I' a n c 3 0 (o.mB.flatMap e'.cells)
structure JW(g:cA)(s:ByteArray)(rule b fuel:Nat)(o:o1)(e:Int)(r:oq)(u:Nat):Prop where
 run:ot (fk g s b) (eF g rule) b fuel r
 ne:r≠.err 44
 aD:r.o=o
 he:r.e=e
 hu:r.u=u
 le:u<=fuel
 arS:u<=yI g s+o.mB.length
def UI(h:pj I g s rule b)(aI:rW (cd g s) (eF g rule) b o e){r:oq}(al:ot (fk g s b) (eF g rule) b fuel r):r=.err 44\/JW g s rule b fuel o e r r.u:=by
 rcases aq2 h.m h.qx h.ax h.all h.yJ h.ag al aI with U | ⟨U,aa⟩
 ·exact .inl U
 ·by_cases bM:r=.err 44
  ·exact .inl bM
  ·have UJ:=UD h.vo h.m h.ax h.all h.yJ h.ag al;refine .inr ⟨al,bM,U,aa,rfl,?_,?_⟩
   ·cases r with
    |err e=>exact bF _| ok o u=>exact(ajv al).2.1
   ·cases r with
    |err e=>exact bF _| ok o' u=>rw[<-U];exact UJ.2 o' u rfl
def arT{bR:Nat}{r:oq}(h:ot P bR ai fuel r)(bM:r≠.err 44)(ae:fuel<=k):ot P bR ai k r:=by
 have z:gU.aU=0:=rfl;cases h with
 | @err e h=>have he:e≠0:=λb'=>bM (by rw[b'];rfl);exact .err (XV fuel h he k ae)
 |fail h aa=>obtain⟨gF,gv,gG⟩:=go_ok fuel h;exact .fail ((gG k).1 (by omega)) aa
 |many h af az=>obtain⟨gF,gv,gG⟩:=go_ok fuel h;exact .many ((gG k).1 (by omega)) af az
 |zD h af az ar=>exact absurd rfl bM| ok h af az ar aB aE=>obtain⟨gF,gv,gG⟩:=go_ok fuel h;exact .ok ((gG k).1 (by omega)) af az (by omega) aB aE
def arU(bO:gu I iN)(h:pj I g s rule b)(ar:fuel<=1099511627776)(aI:rW (cd g s) (eF g rule) b o e) :
  Spec Tryz.prog 28 [g.val,.int .i64 rule,.string s,.int .i64 b,.int .i64 fuel] I M0 λv I' M'=>(∀ b o,I b=some o->I' b=some o)/\M'=M0/\(JV vl 44 0 I' v\/∃ r u,JW g s rule b fuel o e r u/\JV o e u I' v):=by
 refine Spec.p2 (UF bO h.vo (rule:Int) s (b:Int) (fuel:Int)) ?_;rintro v J M⟨dn,a2,r,a,n,c,al,aj,mS⟩;refine⟨dn,a2,?_⟩;rcases UI h aI (h.run ar al)with U | U
 ·subst U;exact .inl ⟨a,n,c,aj,mS⟩
 ·refine .inr ⟨r,r.u,U,a,n,c,?_,?_⟩
  ·rw[aj,U.aD,U.he]
  ·rw[<-U.aD];exact mS
def arV(bO:gu I iN)(h:pj I g s rule b)(ar:fuel<=1099511627776)(oK:yI g s+min (bs (cd g s) (eF g rule) b).n 65536<=fuel)(aI:rW (cd g s) (eF g rule) b o e) :
  Spec Tryz.prog 28 [g.val,.int .i64 rule,.string s,.int .i64 b,.int .i64 fuel] I M0 λv I' M'=>(∀ b o,I b=some o->I' b=some o)/\M'=M0/\∃ r u,JW g s rule b fuel o e r u/\JV o e u I' v:=by
 refine Spec.p2 (UF bO h.vo (rule:Int) s (b:Int) (fuel:Int)) ?_;rintro v J M⟨dn,a2,r,a,n,c,al,aj,mS⟩;have ff:=h.run ar al;rcases UI h aI ff with U | U
 ·exact absurd U ((UD h.vo h.m h.ax h.all h.yJ h.ag ff).1 oK)
 ·refine⟨dn,a2,r,r.u,U,a,n,c,?_,?_⟩
  ·rw[aj,U.aD,U.he]
  ·rw[<-U.aD];exact mS
def arW(bO:gu I iN)(h:pj I g s rule b){ae2:Nat}(bz:ae2<=fuel)(ar:fuel<=1099511627776){z':oq}{u:Nat}(ae:JW g s rule b ae2 o e z' u) :
  Spec Tryz.prog 28 [g.val,.int .i64 rule,.string s,.int .i64 b,.int .i64 fuel] I M0 λv I' M'=>(∀ b o,I b=some o->I' b=some o)/\M'=M0/\JV o e u I' v:=by
 refine Spec.p2 (UF bO h.vo (rule:Int) s (b:Int) (fuel:Int)) ?_;rintro v J M⟨dn,a2,r,a,n,c,al,aj,mS⟩;have U:=(h.run ar al).qB (arT ae.run ae.ne bz);subst U;refine⟨dn,a2,a,n,c,?_,?_⟩
 ·rw[aj,ae.aD,ae.he,ae.hu]
 ·rw[<-ae.aD];exact mS
def arX(bO:gu I aX)(aB:g.ok I)(s:ByteArray)(fuel:Int) :
  Spec Tryz.prog 32 [g.val,.string s,.int .i64 fuel] I M0 (aeT aX g 0 s 0 fuel I M0):=by
 refine Spec.p2 (Spec.frame (Spec.oB (arD bO aB s fuel))) ?_;rintro v J M⟨M',rfl,-,dn,rfl,-,I',M1,⟨U,r,os,al,rfl,cr,rfl⟩,cB⟩;exact⟨dn,rfl,r,os.a.map λg=>⟨g,0,none⟩,os.n,os.c,al,rfl,bf.UE cB cr (λ_ h=>h) (by omega)⟩
def arY(bO:gu I iN)(h:pj I g s 0 0)(ar:fuel<=1099511627776)(oK:yI g s+min (bs (cd g s) (eF g 0) 0).n 65536<=fuel)(aI:rW (cd g s) (eF g 0) 0 o e) :
  Spec Tryz.prog 32 [g.val,.string s,.int .i64 fuel] I M0 λv I' M'=>(∀ b o,I b=some o->I' b=some o)/\M'=M0/\∃ r u,JW g s 0 0 fuel o e r u/\JV o e u I' v:=by
 refine Spec.p2 (arX bO h.vo s (fuel:Int)) ?_;rintro v J M⟨dn,a2,r,a,n,c,al,aj,mS⟩;have ff:=h.run ar al;rcases UI h aI ff with U | U
 ·exact absurd U ((UD h.vo h.m h.ax h.all h.yJ h.ag ff).1 oK)
 ·refine⟨dn,a2,r,r.u,U,a,n,c,?_,?_⟩
  ·rw[aj,U.aD,U.he]
  ·rw[<-U.aD];exact mS
end
def rW.arZ{a:Nat}(h:rW P k a o e):e=5\/e=0\/e=40:=by
 cases h with
 |none _ _ h=>exact .inl h| fail _ _ h=>exact .inr (.inl h)| many _ _ _ h=>exact .inr (.inr h)| is _ _ h=>exact .inr (.inl h)
def ae3{g:cA}(aB:g.ok I)(hm:e9 iN g=0)(al:BR iN g r)(ay:r.2=0)(s:ByteArray):∀ k a,k<bI g.ds->a<=s.size->cn (bs (cd g s) k a):=by
 have gC:=aB.n;have a2:=LK gC hm;have ar0:ie g:=A0 hm λd ah=>(aB.ds d ah).t.n;obtain⟨U,aa⟩:=(al.get hm).1 ay;rcases al with⟨a,-⟩ | ⟨-,F,cB,-⟩
 ·exact absurd hm a
 have oK:JU g.ds=F:=ae0 cB;rw[oK]at U aa;rw[List.length_eq_zero_iff,List.eq_nil_iff_forall_not_mem]at U aa;intro k a ae aH;obtain⟨i,j,hi,an,rfl⟩:=amb g ae;refine adO aB ar0 a2 cB (λx ab=>?_) (λi hi=>?_) (s.size-a+1) a (yM _) aH i j hi an
 ·refine U x ((arQ a2).2 ⟨?_,UH a2 |>.2 ab⟩);exact arR (F:=F) (UH a2 |>.2 ab)
 ·cases he:(rV (bJ g.ds) F g.ds[i].t.ns g.ds[i].t.bR).2 with
  |false=>rfl| true=>exfalso;refine aa i (yN.2 ⟨me.2 hi,?_⟩);unfold NJ;rw[g5 hi];exact he
noncomputable def ar1:Option ap:=cv (yk qO (lJ qO 1000000) 72 [.s [97,32,60,45,32,34,120,34,32,97,32,47,32,34,34]] ⟨.nil,0⟩) none λp=>cv (yk qO (lJ qO 1000000) 29 [p.1,.s [120,120]] p.2) none λq=>some q.1
def ar2:ar1=some (.t [.i .i64 108,.i .i64 0]):=by kernel_rfl
def ar3:JT 1000000 73 [.s [97,32,60,45,32,34,120,34,32,97,32,47,32,34,34],.i .i64 6]=some (.b true):=by kernel_rfl
def ar4:JT 1000000 75 [.s [97,32,60,45,32,34,120,34,32,97,32,47,32,34,34],.i .i64 2,.i .i64 0,.i .i64 30]=some (.b true):=by kernel_rfl
def ar5:JT 1000000 73 [.s [97,32,60,45,32,34,97,98,34,123,50,44,53,125],.i .i64 11]=some (.b true):=by kernel_rfl
def ar6(bO:gu I iN):dE qO (λ_=>none) ⟨.nil,0⟩ I []:=⟨λid e a h bg=>(by cases bg),λid ju e a' a cf h U bg=>(by cases bg),λid a h=>(by cases h),acK bO⟩
def ar7:yG 6 2 0=108:=by decide
def Of(bO:gu I iN):Spec Tryz.prog 27 [] I [] λr J oP=>r=.bool true/\(∀ b o,I b=some o->J b=some o)/\oP=[]:=by obtain⟨⟨v1,dI⟩,bW,da⟩:=df ar2;obtain⟨⟨v2,m2⟩,dh,fs⟩:=df da;simp only[hq]at fs;subst fs;refine bY [] aV Tryz.func27 rfl rfl rfl ?_;intro B ay;refine a9.mk [] [] _ (.refl _) (reckon (Y:=qO) aV Nt TH Nu bW (us:=[.string ⟨([97,32,60,45,32,34,120,34,32,97,32,47,32,34,34]:List UInt8).toArray⟩]) (by simp[b0,a1]) (ar6 bO)) ?_;rintro v cW M1 b4⟨wv,-,Ea,Hd⟩;rw[eo];refine a9.mk M1 [] _ (by rw[eo]) (reckon (Y:=qO) aV Nt TH Nu dh (us:=[v,.string ⟨([120,120]:List UInt8).toArray⟩]) (by simp[b0,a1,Ea]) Hd) ?_;rintro nK eC dU h5⟨Nk,auU,hN,uI⟩;rw[eo];simp only[a1,b0]at hN;obtain⟨vs,⟨pU,auV,rfl,⟨nQ,auW,rfl,rfl,rfl⟩,rfl⟩,rfl⟩:=hN;have DT:gu eC iN:=bO.mono λb o h=>h5 _ _ (b4 _ _ h);refine a9.mk [] dU _ (.refl _) (UG DT ar3 (us:=[.string ⟨([97,32,60,45,32,34,120,34,32,97,32,47,32,34,34]:List UInt8).toArray⟩,.int .i64 6]) (by simp[b0,a1])) ?_;rintro v K5 PR ae4⟨rfl,-,rfl⟩;have ar8:gu K5 iN:=DT.mono ae4;refine c0.mk (λ_=>?_) (λh=>s6 rfl h);refine a9.mk [] dU _ (.refl _) (aeC 6 2 0 ⟨by decide,by decide⟩ ⟨by decide,by decide⟩ ⟨by decide,by decide⟩) ?_;rintro v CF EB ae5⟨rfl,bX,rfl⟩;rw[ar7];refine c0.mk (λ_=>?_) (λh=>s6 rfl h);have Og:gu CF iN:=ar8.mono ae5;refine a9.mk [] dU _ (.refl _) (UG Og ar4 (us:=[.string ⟨([97,32,60,45,32,34,120,34,32,97,32,47,32,34,34]:List UInt8).toArray⟩,.int .i64 2,.int .i64 0,.int .i64 30]) (by simp[b0,a1])) ?_;rintro v K6 PS ae6⟨rfl,-,rfl⟩;have ar9:gu K6 iN:=Og.mono ae6;refine c0.mk (λ_=>?_) (λh=>s6 rfl h);refine a9.mk [] dU _ (.refl _) (UG ar9 ar5 (us:=[.string ⟨([97,32,60,45,32,34,97,98,34,123,50,44,53,125]:List UInt8).toArray⟩,.int .i64 11]) (by simp[b0,a1])) ?_;rintro v auX auY asa⟨rfl,-,rfl⟩;refine c0.mk (λ_=>?_) (λh=>s6 rfl h);refine c0.mk (λ_=>?_) (λh=>s6 rfl h);exact⟨_,[],.sub (eN _) .refl,rfl,λb o h=>asa _ _ (ae6 _ _ (ae5 _ _ (ae4 _ _ (h5 _ _ (b4 _ _ h))))),rfl⟩
def ae7{g:cA}(aB:g.ok I)(hm:ie g){s:ByteArray}(ax:s.size<=30):yI g s<=40000000:=by
 have U:fc (kj s.size) (gJ g.ds)<=(gJ g.ds).length*1200:=aeJ λn az=>by
  have ag:=hm.N' aB n az;have ae:=ag.kn;have aE:=ag.lo;unfold kj;cases af:decide (n.k=3)with
  |true=>simp only[a4];omega
  |false=>
   cases bp:decide (n.k=6)with
   |true=>have:=aE (cm bp);simp only[a4,aQ];omega| false=>simp only[aQ];omega
 have aa:(gJ g.ds).length=bI g.ds:=by unfold gJ bI;rw[List.length_flatMap]
 have af:=hm.CP;rw[aa]at U;unfold yI;have aN:=Mh (show fc (kj s.size) (gJ g.ds)<=1228800 by omega) (show s.size+1<=31 by omega);omega
def asb(bO:gu I iN){g:cA}(vf:zo I g){rule:Int}(al:jm rule){s:ByteArray}(ax:s.size<=9223372036854775807){ai:Int}(aH:jm ai)(hw:jm w):w4 Tryz.prog 6 [g.val,.int .i64 rule,.string s,.int .i64 ai,.int .i64 w] I [] λv _ _=>v=.bool true:=by
 obtain⟨h4,ae8⟩:∃ w,IntKind.u64.wrap rule=w:=⟨_,rfl⟩;have asc:0<=h4:=by rw[<-ae8];exact Od rule
 obtain⟨eJ,tu⟩:∃ k,h4.tmod (g.n:Int)=k:=⟨_,rfl⟩;have u0:0<=eJ:=by rw[<-tu];exact N8 _ asc
 have asd:0<g.n->eJ<(g.n:Int):=λh=>by rw[<-tu];exact N7 _ (by omega)
 obtain⟨yJ,rfl⟩:∃ p:Nat,eJ=p:=⟨eJ.toNat,by omega⟩;obtain⟨kq,u4⟩:∃ w,IntKind.u64.wrap ai=w:=⟨_,rfl⟩
 have ase:0<=kq:=by rw[<-u4];exact Od ai
 obtain⟨c3,fI⟩:∃ k,kq.tmod ((s.size+1:Nat):Int)=k:=⟨_,rfl⟩;have auZ:0<=c3:=by rw[<-fI];exact N8 _ ase
 have ai6:c3<((s.size+1:Nat):Int):=by rw[<-fI];exact N7 _ (by omega)
 obtain⟨p,rfl⟩:∃ p:Nat,c3=p:=⟨c3.toNat,by omega⟩;have iM:p<=s.size:=by omega
 obtain⟨jz,JX⟩:∃ x,IntKind.u64.wrap w=x:=⟨_,rfl⟩;have UK:0<=jz:=by rw[<-JX];exact Od w
 obtain⟨gr,g0⟩:∃ k,jz.tmod 100000=k:=⟨_,rfl⟩;have asf:0<=gr:=by rw[<-g0];exact N8 _ UK
 have asg:gr<100000:=by rw[<-g0];exact N7 _ (by decide)
 obtain⟨d,rfl⟩:∃ p:Nat,gr=p:=⟨gr.toNat,by omega⟩;have xJ:IntKind.i64.wrap (jz.tmod 100000)=(d:Int):=by rw[g0];exact wrap_i64 ⟨by omega,by omega⟩
 refine An [] aV Tryz.func6 rfl rfl rfl ?_;intro B ay;refine a9.mk [] [] _ (.refl _) (aeA vf s) ?_;rintro v UL N -⟨⟨z',rfl,ra⟩,GG,cM⟩;subst UL;subst N;cases z' with
 |true=>refine c0.mk (λh=>absurd h (by simp)) (λ_=>?_);refine a9.mk [] [] _ (.refl _) (Of bO) ?_;rintro v BF N -⟨rfl,yx,rfl⟩;exact⟨_,_,.refl,rfl⟩
 |false=>
 obtain⟨jZ,UM⟩:=ra rfl;have aB:=vf.Ge jZ;have gC:=aB.n;have xG:=jZ.n;have UN:∀ d∈g.ds,Bz d.t:=λd ah n az=>by have:=((jZ.ds d ah).t.ns n az).kn;omega
 have ash:IntKind.i64.wrap (kq.tmod ((s.size+1:Nat):Int))=(p:Int):=by rw[fI];exact wrap_i64 ⟨by omega,by omega⟩
 refine c0.mk (λ_=>?_) (λh=>absurd h (by simp));refine a9.mk [] [] _ (.refl _) (Of bO) ?_;rintro v aeH N -⟨rfl,wZ,rfl⟩;have xF:=bO.mono wZ;have g6:=aB.mono wZ;refine aM.mk (λh=>by cases h) (λ_=>?_);refine a9.mk [] [] _ (.refl _) (T5 xF g6 (by omega) s) ?_;rintro v z9 N -⟨wV,rfl,UO⟩;have oW:=xF.mono wV;have iJ:=g6.mono wV;have bad:∀ e:Int,e≠0->(!decide (e=0))=true:=λe he=>by rw[bG he];rfl
 rcases UO with⟨bM,rfl⟩ | ⟨-,UP,rfl⟩ | ⟨s4,DU,t,T,rfl,JY⟩
 ·refine c0.mk (λh=>s6 (bad _ bM) h) (λ_=>?_);exact⟨_,_,.refl,rfl⟩
 ·exact absurd UP (by omega)
 refine c0.mk (λ_=>?_) (λh=>ui rfl h);refine a9.whole _ (ae1 (M0:=[]) oW iJ UN) ?_;rintro v BF N -⟨yx,rfl,JZ,rfl,Oh⟩;by_cases bk:JZ.2=0
 rotate_left
 ·refine aM.mk (λ_=>?_) (λh=>s6 (bad _ bk) h);exact⟨_,_,.refl,rfl⟩
 refine aM.mk (λh=>ui (show(!decide (JZ.2=0))=false by rw[dF bk];rfl) h) (λ_=>?_);have gq:=ae3 iJ s4 Oh bk s;have DT:=oW.mono yx;have mq:=iJ.mono yx;have hm:ie g:=A0 s4 λd ah=>(aB.ds d ah).t.n;have hP:0<g.n:=O5 hm.n;have hA:yJ<g.n:=by have:=asd hP;omega
 have asi:IntKind.i64.wrap (h4.tmod (g.n:Int))=(yJ:Int):=by rw[tu];exact wrap_i64 ⟨by omega,by omega⟩
 have e3:∀ d∈g.ds,∀ n∈d.t.ns,0<=n.k:=λd ah n az=>((aB.ds d ah).t.ns n az).k.1;have ae9:=JY.mono yx;have s5:=ae9.N3 hm e3 DU;have iQ:pj BF g s yJ p:=⟨mq,s4,DU,hA,iM,gq⟩;have ft:=ae7 aB hm UM;refine cq.draw aV rfl rfl rfl ?_;refine bb.mk h4 ae8 ?_;refine bb.mk (g.n:Int) (aeW (by omega)) ?_;refine qa.mk (by omega) ?_;refine bb.mk (yJ:Int) asi ?_;refine bb.mk kq u4 ?_;refine bb.mk ((s.size+1:Nat):Int) (ei (by simp) (by omega)) ?_;refine bb.mk ((s.size+1:Nat):Int) (aeW (by omega)) ?_;refine qa.mk (by omega) ?_;refine bb.mk (p:Int) ash ?_;refine bb.mk jz JX ?_;refine qa.mk (by decide) ?_;refine bb.mk (d:Int) xJ ?_;refine a9.whole _ (aeX ae9 hm s5 gC (yJ:Int) (p:Int) λo e h=>(h.Oe hA iM).mB) ?_;rintro v au0 N -⟨afa,rfl,bW,gZ,fm,o,e,fW,rfl,Oi⟩;have BS:=fW.Oe hA iM;have Oj:=DT.mono afa;have afb:=iQ.mono afa;have he:=BS.arZ;have asj:decide (e=44)=false:=bG (by omega);have Ok:∀ z:Int,decide (z=z)=true:=λz=>dF rfl;have UQ:∀ z:Int,(!decide (z=z))=false:=λz=>by rw[dF rfl];rfl
 have iH:=BS.mB;refine a9.whole _ (arU Oj afb (fuel:=d) (by omega) BS) ?_;rintro v afc N -⟨yK,rfl,aj⟩;have J0:=Oj.mono yK;have afd:=afb.mono yK;rcases aj with⟨da,hQ,fj,rfl,DV⟩ | ⟨r,u,ae,da,hQ,fj,rfl,DV⟩
 ·refine aM.mk (λ_=>?_) (λh=>s6 (Ok 44) h);refine a9.whole _ (arV J0 afd (fuel:=1099511627776) (b2 _) (by omega) BS) ?_;rintro v J1 N -⟨Tw,rfl,hT,z0,au1,dh,tF,oX,rfl,afe⟩;refine c0.mk (λ_=>?_) (λh=>s6 rfl h);refine c0.mk (λ_=>?_) (λh=>s6 (Ok e) h);have T6:tF<=140737488355327:=by have:=Oc afe;omega
  refine a9.whole _ (Ob (o:=o) (o':=o) afe (Oi.mono λb o h=>Tw _ _ (yK _ _ h)) T6) ?_;rintro v asl N -⟨⟨b,rfl,ag⟩,rfl,rfl⟩;exact⟨_,_,.refl,by rw[ag.2 rfl]⟩
 ·refine aM.mk (λh=>ui asj h) (λ_=>?_);have sU:hQ<=140737488355327:=by have:=Oc DV;omega
  have au2:=ae.le;refine c0.mk (λ_=>?_) (λh=>ui (UQ e) h);refine a9.whole _ (Ob (o:=o) (o':=o) DV (Oi.mono yK) sU) ?_;rintro v J1 N -⟨⟨b,rfl,ag⟩,rfl,rfl⟩;have NL:(!b)=false:=by rw[ag.2 rfl];rfl
  refine c0.mk (λ_=>?_) (λh=>ui NL h);refine aM.mk (λh=>ui (show decide (((d:Nat):Int)<(u:Int))=false from bG (by omega)) h) (λ_=>?_);refine bb.mk ((d+1000:Nat):Int) (ei (by omega) (by omega)) ?_;refine a9.whole _ (arW J0 afd (fuel:=d+1000) (Nat.le_add_right _ _) (by omega) ae) ?_;rintro v asl N -⟨asm,rfl,fs,AW,zn,rfl,aff⟩;refine c0.mk (λ_=>?_) (λh=>s6 (Ok e) h);refine c0.mk (λ_=>?_) (λh=>s6 (Ok (u:Int)) h);have Nm:AW<=140737488355327:=by have:=Oc aff;omega
  refine a9.whole _ (Ob (o:=o) (o':=o) aff (DV.mono asm) Nm) ?_;rintro v au3 N -⟨⟨ch,rfl,gy⟩,rfl,rfl⟩;exact⟨_,_,.refl,by rw[gy.2 rfl]⟩
section
end
section
end
section
end
section
end
section
end
def ie.asn{g:cA}(aB:g.ok I):arw g.ds:=λn az=>by obtain⟨d,ah,bV⟩:=zv.1 az;have:=((aB.ds d ah).t.ns _ bV).bj.len;simpa using this
def ie.aso{g:cA}(aB:g.ok I)(hm:ie g):∀ d∈g.ds,EZ d.t/\∀ n∈d.t.ns,Gf n/\n.aS.length=n.kn:=λd ah=>
 ⟨hm.r d ah,λn az=>⟨hm.N' aB n (zv.2 ⟨d,ah,az⟩),ie.asn aB n (zv.2 ⟨d,ah,az⟩)⟩⟩
def asp(w b c:Int){u:Int}(hu:yG w b c=u)(hw:jm w)(ag:jm b)(aJ:jm c):Spec Tryz.prog 74 [.int .i64 w,.int .i64 b,.int .i64 c] I M0 λv I' M'=>v=.int .i64 u/\I'=I/\M'=M0:=by subst hu;exact aeC w b c hw ag aJ
def asq(bO:gu I iN){g:cA}(aB:g.ok I){b c:Int}(hm:e9 iN g=uh)(hw:(bif decide (uh=0)then BQ g.ds b c else 0)=w)(ag:jm b)(aJ:jm c):Spec Tryz.prog 31 [g.val,.int .i64 b,.int .i64 c] I [] λv I' M'=>(∀ b o,I b=some o->I' b=some o)/\M'=[]/\v=.tuple #[.int .i64 w,.int .i64 uh]:=by subst hm;subst hw;exact aro bO aB ag aJ
section
variable{I:a5}{M0:List aF}{g:cA}
inductive afg(g:cA)(s:ByteArray)(uh x e:Int):Prop
 |bad(h:uh≠0)(ab:x=0)(he:e=uh)| asr (h:uh=0) (ax:4096<s.size) (ab:x=0) (he:e=40)| none (h:uh=0) (ax:s.size<=4096) (n:Nat) (a':Int) (aJ:DS g s 0 0 n a') (ay:a'≠0) (ab:x=0) (he:e=a')| is (h:uh=0) (ax:s.size<=4096) (n:Nat) (aJ:DS g s 0 0 n 0) (ab:x=yG ((cp (fc lM (gJ g.ds)):Nat):Int) (s.size:Int) (n:Int)) (he:e=0)
def DS.afh{g:cA}{s:ByteArray}{a b:Int}(h:DS g s a b n e):n<=1099511627776:=by
 rcases h with⟨-,rfl,-⟩ | ⟨i,j,pU,nQ,sR,A7,BT,rfl,da⟩ | ⟨i,j,pU,nQ,sR,A7,BT,rfl,da⟩ | ⟨i,j,pU,nQ,sR,A7,BT,rfl,da⟩
 ·omega
 ·omega
 ·omega
 ·have:=(sG (cd g s) (eF g i) j).ge BT;omega
def ass(bO:gu I iN)(aB:g.ok I)(az:g.n<=4096)(EC:e9 iN g=uh)(s:ByteArray):Spec Tryz.prog 29 [g.val,.string s] I [] λv I' M'=>(∀ b o,I b=some o->I' b=some o)/\M'=[]/\∃ x e:Int,v=.tuple #[.int .i64 x,.int .i64 e]/\afg g s uh x e:=by
 have hy:=T5 bO aB az s;unfold adR at hy;rw[EC]at hy;refine bY [] aV Tryz.func29 rfl rfl rfl ?_;intro B ay;refine a9.whole _ hy ?_;rintro v J M -⟨dn,rfl,aj⟩;rcases aj with⟨U,rfl⟩ | ⟨U,aa,rfl⟩ | ⟨U,aa,t,T,rfl,qm⟩
 ·refine aM.mk (λe=>?_) (λe=>?_)
  ·exact⟨_,_,.refl,dn,rfl,0,uh,rfl,.bad U rfl rfl⟩
  ·have aN:(!decide (uh=0))=false:=e;rw[bG U]at aN;cases aN
 ·refine aM.mk (λe=>?_) (λe=>by cases e);exact⟨_,_,.refl,dn,rfl,0,40,rfl,.asr U aa rfl rfl⟩
 refine aM.mk (λe=>by cases e) (λ_=>?_);have gC:=aB.n;have hm:ie g:=A0 (EC.trans U) λd ah=>(aB.ds d ah).t.n;have e3:∀ d∈g.ds,∀ n∈d.t.ns,0<=n.k:=λd ah n az=>((aB.ds d ah).t.ns n az).k.1;refine a9.whole _ (aeo qm hm (qm.N3 hm e3 aa) gC 0 0) ?_;rintro v K N -⟨rfl,rfl,n,e,aJ,rfl⟩;have n7:=aJ.afh;by_cases he:e=0
 rotate_left
 ·refine aM.mk (λaA=>?_) (λaA=>?_)
  ·exact⟨_,_,.refl,dn,rfl,0,e,rfl,.none U aa n e aJ he rfl rfl⟩
  ·have aN:(!decide (e=0))=false:=aA;rw[bG he]at aN;cases aN
 have C5:(!decide (e=0))=false:=by rw[dF he];rfl
 refine aM.mk (λaA=>ui C5 aA) (λ_=>?_);have Ga:=aB.mono dn;have j9:=p7 (fc lM (gJ g.ds));refine a9.whole _ (arm Ga (hm.N' Ga)) ?_;rintro v afc arc -⟨rfl,yK,rfl⟩;refine a9.whole _ (asp ((cp (fc lM (gJ g.ds)):Nat):Int) (s.size:Int) (n:Int) rfl ⟨by omega,by omega⟩ ⟨by omega,by omega⟩ ⟨by omega,by omega⟩) ?_;rintro v J1 ard -⟨rfl,rfl,rfl⟩;subst he;exact⟨_,_,.refl,λb o h=>yK _ _ (dn _ _ h),rfl,_,0,rfl,.is U aa n aJ rfl rfl⟩
end
def BR.may{g:cA}(h:BR iN g r)(ay:r.2=0):e9 iN g=0:=by
 rcases h with⟨a,rfl⟩ | ⟨a,-⟩
 ·exact ay
 ·exact a
def DS.known{g:cA}{s:ByteArray}(az:0<g.n)(ah:cn (bs (cd g s) (eF g 0) 0))(h:DS g s 0 0 n e):e=0/\n=(bs (cd g s) (eF g 0) 0).n:=by
 rcases h with⟨h,-,-⟩ | ⟨i,j,pU,nQ,sR,A7,BT,Ol,Om⟩ | ⟨i,j,pU,nQ,sR,A7,BT,Ol,Om⟩ | ⟨i,j,pU,nQ,sR,A7,BT,Ol,Om⟩
 ·exfalso;have aa:p6 g.n s.size 0 0=true:=by simp only[p6,ct,eY];omega
  rw[aa]at h;cases h
 ·obtain rfl:i=0:=by omega
  obtain rfl:j=0:=by omega
  rcases ah with ah | ah<;>rw[BT]at ah<;>cases ah
 ·obtain rfl:i=0:=by omega
  obtain rfl:j=0:=by omega
  refine⟨Om,?_⟩;rw[(sG _ _ _).two BT,Ol];rfl
 ·obtain rfl:i=0:=by omega
  obtain rfl:j=0:=by omega
  exact⟨Om,Ol⟩
def ast{g:cA}(aB:g.ok I)(hm:ie g){s:ByteArray}(ax:s.size<=4096)(az:0<g.n)(ah:cn (bs (cd g s) (eF g 0) 0)){x:Int}(h:afg g s 0 x e) :
  e=0/\∃ f:Nat,x=f/\f<=1099511627776/\BP g.ds s.size (bs (cd g s) (eF g 0) 0).n<=f:=by
 rcases h with⟨bW,da,dh⟩ | ⟨bW,fs,da,dh⟩ | ⟨bW,fs,n,f,iV,kH,da,dh⟩ | ⟨bW,fs,n,iV,da,dh⟩
 ·exact absurd rfl bW
 ·omega
 ·exact absurd (iV.known az ah).1 kH
 ·obtain⟨-,rfl⟩:=iV.known az ah;refine⟨dh,BN (cp (fc lM (gJ g.ds))) s.size (bs (cd g s) (eF g 0) 0).n,?_,p7 _,arv (ie.aso aB hm)⟩;rw[da,yG,bG (by omega),bG (by omega),bG (by omega)];rfl
def rW.asu{a:Nat}(h:rW P k a o 0):o.mB.length<=(bs P k a).n:=by
 cases h with
 |none h aD he=>cases he| fail h aD he=>rw[aD];exact bF _| many h az aD he=>cases he| is h az he bw ix aE=>omega
def Gk(f d:Nat):List Int:=[(f:Int),min 1099511627776 ((f+d:Nat):Int),1099511627776]
def asv{f d:Nat}(ar:f<=1099511627776)(hi:i<(Gk f d).length):∃ k:Nat,(Gk f d)[i]=(k:Int)/\f<=k/\k<=1099511627776:=by
 match i,hi with
 |0,_=>exact⟨f,rfl,b2 _,ar⟩| 1,_=>exact⟨min 1099511627776 (f+d),by show min (1099511627776:Int) ((f+d:Nat):Int)=_;omega,by omega,by omega⟩| 2,_=>exact⟨1099511627776,rfl,ar,b2 _⟩
def asw(bO:gu I iN){g:cA}(vf:zo I g){s:ByteArray}(ax:s.size<=9223372036854775807)(hw:jm w):w4 Tryz.prog 7 [g.val,.string s,.int .i64 w] I [] λv _ _=>v=.bool true:=by
 obtain⟨jz,JX⟩:∃ x,IntKind.u64.wrap w=x:=⟨_,rfl⟩;have UK:0<=jz:=by rw[<-JX];exact Od w
 obtain⟨gr,g0⟩:∃ k,jz.tmod 100000=k:=⟨_,rfl⟩;have asf:0<=gr:=by rw[<-g0];exact N8 _ UK
 have asg:gr<100000:=by rw[<-g0];exact N7 _ (by decide)
 obtain⟨d,rfl⟩:∃ p:Nat,gr=p:=⟨gr.toNat,by omega⟩;have xJ:IntKind.i64.wrap (jz.tmod 100000)=(d:Int):=by rw[g0];exact wrap_i64 ⟨by omega,by omega⟩
 refine An [] aV Tryz.func7 rfl rfl rfl ?_;intro B ay;refine a9.mk [] [] _ (.refl _) (aeA vf s) ?_;rintro v UL N -⟨⟨z',rfl,ra⟩,GG,cM⟩;subst UL;subst N;cases z' with
 |true=>refine c0.mk (λh=>absurd h (by simp)) (λ_=>?_);refine a9.mk [] [] _ (.refl _) (Of bO) ?_;rintro v BF N -⟨rfl,yx,rfl⟩;exact⟨_,_,.refl,rfl⟩
 |false=>
 obtain⟨jZ,UM⟩:=ra rfl;have aB:=vf.Ge jZ;have gC:=aB.n;have xG:=jZ.n;have UN:∀ d∈g.ds,Bz d.t:=λd ah n az=>by have:=((jZ.ds d ah).t.ns n az).kn;omega
 refine c0.mk (λ_=>?_) (λh=>absurd h (by simp));refine a9.mk [] [] _ (.refl _) (Of bO) ?_;rintro v aeH N -⟨rfl,wZ,rfl⟩;have xF:=bO.mono wZ;have g6:=aB.mono wZ;refine aM.mk (λh=>by cases h) (λ_=>?_);have bad:∀ e:Int,e≠0->(!decide (e=0))=true:=λe he=>by rw[bG he];rfl
 refine a9.whole _ (ae1 (M0:=[]) xF g6 UN) ?_;rintro v z9 N -⟨wV,rfl,JZ,rfl,Oh⟩;by_cases bk:JZ.2=0
 rotate_left
 ·refine aM.mk (λ_=>?_) (λh=>s6 (bad _ bk) h);exact⟨_,_,.refl,rfl⟩
 refine aM.mk (λh=>ui (show(!decide (JZ.2=0))=false by rw[dF bk];rfl) h) (λ_=>?_);have s4:=Oh.may bk;have gq:=ae3 g6 s4 Oh bk s;have oW:=xF.mono wV;have iJ:=g6.mono wV;have hm:ie g:=A0 s4 λd ah=>(aB.ds d ah).t.n;have hP:0<g.n:=O5 hm.n;have DU:s.size<=4096:=by omega
 have sm:eF g 0<bI g.ds:=by have U:=LN hm (rule:=0) (by omega) s 0;rwa [show(fk g s 0).ns.length=bI g.ds from Df g.ds]at U
 have vz:=gq (eF g 0) 0 sm (bF _);refine a9.whole _ (ass oW iJ (by omega) s4 s) ?_;rintro v BF N -⟨yx,rfl,x,b',rfl,asx⟩;obtain⟨rfl,f,rfl,ur,m1⟩:=ast aB hm DU hP vz asx;have DT:=oW.mono yx;have mq:=iJ.mono yx;refine a9.whole _ (T5 DT mq (by omega) s) ?_;rintro v au4 N -⟨afi,rfl,UO⟩;have Oj:=DT.mono afi;have asy:=mq.mono afi;rcases UO with⟨bM,rfl⟩ | ⟨-,UP,rfl⟩ | ⟨-,-,t,T,rfl,JY⟩
 ·exact absurd s4 bM
 ·exact absurd UP (by omega)
 refine c0.mk (λ_=>?_) (λh=>ui rfl h);refine aM.mk (λh=>by cases h) (λ_=>?_);have e3:∀ d∈g.ds,∀ n∈d.t.ns,0<=n.k:=λd ah n az=>((aB.ds d ah).t.ns n az).k.1;have s5:=JY.N3 hm e3 DU;have ft:=ae7 aB hm UM;refine a9.whole _ (aeX JY hm s5 gC ((0:Nat):Int) ((0:Nat):Int) λo e h=>(h.Oe hP (bF _)).mB) ?_;rintro v au5 N -⟨UR,rfl,bW,gZ,fm,o,e,fW,rfl,Oi⟩;have BS:=fW.Oe hP (bF _);have J0:=Oj.mono UR;have CK:=asy.mono UR;have afj:=JY.mono UR;have asz:=afj.N3 hm e3 DU;refine a9.whole _ (aeo afj hm asz gC 0 0) ?_;rintro v au6 N -⟨rfl,rfl,n,aC,qG,rfl⟩;have n7:=qG.afh;obtain⟨rfl,az⟩:=qG.known hP vz;rw[<-az]at m1;have cg:∀ h:e=0,o.mB.length<=n:=λh=>by rw[az];exact(h ▸ BS:rW _ _ _ o 0).asu
 have asA:min (bs (cd g s) (eF g 0) 0).n 65536=min n 65536:=by rw[az]
 have US:BP g.ds s.size n=cp (yI g s+n):=rfl;obtain⟨L,c4⟩:∃ L,BP g.ds s.size n=L:=⟨_,rfl⟩;rw[c4]at m1 US;have asB:(bif decide ((0:Int)=0)then BQ g.ds (s.size:Int) (n:Int)else 0)=(L:Int):=by rw[dF rfl,a4,BQ,bG (show ¬ (s.size:Int)<0 by omega),bG (show ¬ (n:Int)<0 by omega),<-c4];rfl
 refine a9.whole _ (asq J0 CK s4 asB ⟨by omega,by omega⟩ ⟨by omega,by omega⟩) ?_;rintro v afk N -⟨UT,rfl,rfl⟩;have Og:=J0.mono UT;have asC:=CK.mono UT;have asD:=Oi.mono UT;refine bb.mk jz JX ?_;refine qa.mk (by decide) ?_;refine bb.mk (d:Int) xJ ?_;refine bb.mk ((f+d:Nat):Int) (ei (by omega) (by omega)) ?_;refine cy.mk λb ag Em=>?_;have cr:bf.ok ⟨some b,3,3,(Gk f d).map (.int .i64 ·)⟩ 1 ((Gk f d).map (.int .i64 ·)):=⟨rfl,λh=>(nomatch h),λ_ _=>⟨rfl,b2 _,show 3<=maxLen by decide,rfl⟩⟩;refine ea.inv (ι:=Nat×a5) (λx=>{ bK:=[(1,.val (.string s)),(3,.ref 3 0),(7,.val (.int .i64 f)),(11,.ref 11 0),(12,.val (.int .i64 e)),(15,.val (.int .i64 L)),(77,.val (.slice (some ⟨b,0,none⟩) 3 3)),(78,.val (.int .i64 3)),(79,.val (.int .i64 x.1))],cl:=[(3,[.slice g.a g.n g.c]),(11,[.bool o.ok,.int .i64 o.av,.slice bW gZ fm])],dz:=x.2,d':=bf.aO ⟨some b,3,3,(Gk f d).map (.int .i64 ·)⟩ 3 }) (λx=>(∀ b o,afk b=some o->x.2 b=some o)/\x.1<=3) (λx=>3-x.1) ?_ ?_
 ·exact⟨(0,afk),⟨λ_ _ h=>h,bF _⟩,.refl,k8,.cons rfl (.cons rfl (.nil))⟩
 rintro⟨i,K⟩⟨fN,hi⟩;refine aM.mk (λh=>?_) (λh=>?_)
 ·have a0:i<3:=by have:(i:Int)<3:=cm h;omega
  have bZ:i<(Gk f d).length:=a0;obtain⟨ad,b3,br⟩:=bf.aia (I:=K) (e:=3) cr (λz bk=>bk) bZ;obtain⟨rY,UJ,wB,asE⟩:=asv ur bZ;rw[UJ]at br;have asF:=Og.mono fN;have iQ:pj K g s 0 0:=⟨asC.mono fN,s4,DU,hP,bF _,gq⟩;have oK:yI g s+min (bs (cd g s) (eF g 0) 0).n 65536<=rY:=by rw[asA];unfold cp at US;omega
  have UQ:(!decide (e=e))=false:=by rw[dF rfl];rfl
  have iH:=BS.mB;refine bl.mk ad i b3 rfl a0 ?_;refine aw.mk _ br ?_;refine a9.whole _ (arY asF iQ asE oK BS) ?_;rintro v afc N -⟨yK,rfl,r,u,ae,da,hQ,fj,rfl,DV⟩;refine c0.mk (λ_=>?_) (λh=>ui UQ h);have sU:hQ<=140737488355327:=by have:=Oc DV;omega
  refine a9.whole _ (Ob (o:=o) (o':=o) DV (asD.mono λb o h=>yK _ _ (fN _ _ h)) sU) ?_;rintro v J1 N -⟨⟨q,rfl,aL⟩,rfl,rfl⟩;have asG:(!q)=false:=by rw[aL.2 rfl];rfl
  have au7:=ae.arS;refine c0.mk (λ_=>?_) (λh=>ui asG h);by_cases Jv:e=0
  ·have hu:decide ((L:Int)<(u:Int))=false:=bG (by
    have:=cg Jv;unfold cp at US;omega)
   refine c0.mk (λ_=>?_) (λh=>s6 (dF Jv) h);refine aM.mk (λh=>ui hu h) (λ_=>?_);refine bb.mk _ (c7 (i:=i) (by omega)) ?_;exact⟨(i+1,J1),⟨⟨λb o h=>yK _ _ (fN _ _ h),a0⟩,by show 3-(i+1)<3-i;omega⟩,.refl,k8,.cons rfl (.cons rfl (.nil))⟩
  ·refine c0.mk (λh=>ui (bG Jv) h) (λ_=>?_);refine bb.mk _ (c7 (i:=i) (by omega)) ?_;exact⟨(i+1,J1),⟨⟨λb o h=>yK _ _ (fN _ _ h),a0⟩,by show 3-(i+1)<3-i;omega⟩,.refl,k8,.cons rfl (.cons rfl (.nil))⟩
 ·refine⟨_,_,.refl,?_⟩;show Value.bool (decide ((L:Int)<=(f:Int)))=_;rw[dF (by omega)]
end Go.V
