/- Part 8 of what the proofs of this seat share: the executor, data in memory, walks.
-/
import Derived.Test.YthnoknnlcnikbaaGreatDoorK7
import Derived.Test.YthnoknnlcnikbaaGreatDoorK5
import Derived.Test.YthnoknnlcnikbaaGreatDoorK2
import Derived.Test.YthnoknnlcnikbaaGreatDoorK4
set_option linter.all false
set_option maxHeartbeats 8000000
set_option maxRecDepth 100000
namespace Go.V
open Go Go.Proofs
def vF:=@List.mem_map_of_mem
def Dn:=@List.flatMap_assoc
def TS:=@List.perm_ext_iff_of_nodup
def TT:=@List.append_cancel_left
def JL:=@Bool.decide_and
def TU:=@List.length_eq_one_iff
def Nx:=@List.Sublist.refl
def TV:=@List.Perm.append_left
def TW:=@List.map_reverse
def Ny:=@List.map_id
variable{jc ec ds':List al}{T S:aT}{α:Type}{K:dH->aH->List aE->Prop}{s x:Operand}{t:bk}{db aF:ea}{xs cb cs:List Value}{aM:Addr}{m c' b9 n c k i u:Nat}{Mr M:List aE}{F:List aW}{r:Int}{I J:aH}{a:Option Addr}{ks az:List Int}{os:aR}{l bl qX:List Nat}{q:List aT}{pl:List (ByteArray×Int)}
def F5{α β:Type}{f g:α->List β}:∀ {l:List α},(∀ c∈l,(f c).Sublist (g c))->(l.flatMap f).Sublist (l.flatMap g)
 |[],_=>.slnil| a::l,h=>by rw[iS,iS];exact(h a (.head _)).append (F5 λc ao=>h c (.tail _ ao))
def iJ(d:al):Option Int:=if d.k=4\/d.k=5 then some d.k else none
namespace aT
section
variable(ns:List al)
mutual
def pi(cd:Option Int):aT->List aT
 |mk k ks=>if some (nodeAt ns k).k=cd then Nz cd ks else [mk k ks]
def Nz(cd:Option Int):List aT->List aT
 |[]=>[]| a::l=>pi cd a++Nz cd l
end
mutual
def fZ(cd:Option Int):aT->List aT
 |mk k ks=>if some (nodeAt ns k).k=cd then vG cd ks else [mk k (vG (iJ (nodeAt ns k)) ks)]
def vG(cd:Option Int):List aT->List aT
 |[]=>[]| a::l=>fZ cd a++vG cd l
end
def adF(cd:Option Int):∀ l,Nz ns cd l=l.flatMap (pi ns cd)
 |[]=>rfl| a::l=>by rw[Nz,adF cd l];rfl
def Dp(cd:Option Int):∀ l,vG ns cd l=l.flatMap (fZ ns cd)
 |[]=>rfl| a::l=>by rw[vG,Dp cd l];rfl
def parts(T:aT):List aT:=T.sub.flatMap (pi ns (iJ (nodeAt ns T.bs)))
def bu:aT->aT
 |mk k ks=>mk k (ks.flatMap (fZ ns (iJ (nodeAt ns k))))
def y8(cd:Option Int)(k:Nat)(ks:List aT):pi ns cd (mk k ks)=if some (nodeAt ns k).k=cd then ks.flatMap (pi ns cd)else [mk k ks]:=by rw[pi,adF]
def qY(cd:Option Int)(k:Nat)(ks:List aT):fZ ns cd (mk k ks)=if some (nodeAt ns k).k=cd then ks.flatMap (fZ ns cd)else [bu ns (mk k ks)]:=by rw[fZ,Dp,Dp];rfl
def adG:∀ T,(bu ns T).bs=T.bs
 |mk k ks=>rfl
def aqb(cd:Option Int):∀ T,(pi ns cd T).map (bu ns)=fZ ns cd T:=by
 intro T
 induction T using aT.ind generalizing cd with
 |h k ks aQ=>
  rw[y8,qY];split;·rw[AW];exact rT λc ao=>aQ c ao cd
  ·rfl
def adH:∀ T,(bu ns T).sub=(parts ns T).map (bu ns)
 |mk k ks=>by show ks.flatMap _=(ks.flatMap _).map _;rw[AW];exact rT λc ao=>(aqb ns _ c).symm
def aqc(cd:Option Int):∀ T,((pi ns cd T).flatMap c2).Sublist T.c2:=by
 intro T
 induction T using aT.ind with
 |h k ks aQ=>
  rw[y8,mL];split;·rw[Dn];exact(F5 λc ao=>aQ c ao).trans (xd _ _)
  ·rw[nQ,mL];exact .refl _
def aqd(cd:Option Int):∀ T,((fZ ns cd T).flatMap c2).Sublist T.c2:=by
 intro T
 induction T using aT.ind generalizing cd with
 |h k ks aQ=>
  rw[qY,mL];split;·rw[Dn];exact(F5 λc ao=>aQ c ao cd).trans (xd _ _)
  ·rw[nQ];show((mk k (ks.flatMap (fZ ns _))).c2).Sublist _;rw[mL,Dn];exact(F5 λc ao=>aQ c ao _).append (.refl _)
def aqe:∀ T,((bu ns T).c2).Sublist T.c2
 |mk k ks=>by show((mk k (ks.flatMap (fZ ns _))).c2).Sublist _;rw[mL,mL,Dn];exact(F5 λc ao=>aqd ns _ c).append (.refl _)
def aqf(cd:Option Int):∀ {T},cD jc T->∀ S∈pi ns cd T,cD jc S:=by
 intro T
 induction T using aT.ind with
 |h k ks aQ=>
  intro h S cc;rw[y8]at cc;split at cc;·obtain⟨c,ao,cc⟩:=hl.1 cc;exact aQ c ao (h.inv.2.2 c ao) S cc
  ·rw[eN.1 cc];exact h
def adI(h:cD ns T):∀ S∈parts ns T,cD ns S:=by
 intro S cc;cases T with
 |mk k ks=>
 obtain⟨c,ao,cc⟩:=hl.1 cc;exact aqf ns _ (h.inv.2.2 c ao) S cc
def aqg:∀ {T},cD ns T->∀ cd,(∀ S,cD ns S->S.bs∈(fZ ns cd T).flatMap c2->S.bs<jc.length/\(nodeAt jc S.bs).au=(parts ns S).map λc=>(c.bs:Int))->∀ U∈fZ ns cd T,cD jc U:=by
 intro T
 induction T using aT.ind with
 |h k ks aQ=>
  intro h cd H U eQ;rw[qY]at eQ H;split at eQ;·rename_i e;rw[bT e]at H;obtain⟨c,ao,eQ⟩:=hl.1 eQ;refine aQ c ao (h.inv.2.2 c ao) cd (λS cc hm=>H S cc ?_) U eQ;rw[Dn];exact hl.2 ⟨c,ao,hm⟩
  ·rename_i e;rw[bN e]at H;rw[eN.1 eQ];have ay:=H (mk k ks) h (by simp;exact F3 (bu ns (mk k ks)));have he:=adH ns (mk k ks);refine .mk ay.1 ?_ λaqh TX=>?_
   ·rw[show(aT.mk k ks).bs=k from rfl]at ay;rw[ay.2];show _=List.map _ (bu ns (mk k ks)).sub;rw[he,gu];exact fV λc ao=>by simp[adG]
   ·obtain⟨c,ao,TX⟩:=hl.1 TX;refine aQ c ao (h.inv.2.2 c ao) _ (λS cc hm=>H S cc ?_) aqh TX;rw[nQ];show S.bs∈(mk k (ks.flatMap (fZ ns _))).c2;rw[mL,Dn];exact iR _ (hl.2 ⟨c,ao,hm⟩)
def aqi(h:cD ns T)(H:∀ S,cD ns S->S.bs∈(bu ns T).c2->S.bs<jc.length/\(nodeAt jc S.bs).au=(parts ns S).map λc=>(c.bs:Int)):cD jc (bu ns T):=by
 cases T with
 |mk k ks=>
 have e:fZ ns none (mk k ks)=[bu ns (mk k ks)]:=by rw[qY,bN (by simp)]
 refine aqg ns h none (λS cc hm=>H S cc ?_) _ (by rw[e];exact .head _);rw[e,nQ]at hm;exact hm
end
end aT
inductive aP where
 |mk:al->List aP->aP
def al.bare(d:al):al:=d.dX []
def al.adJ(d:al):d.bare.k=d.k:=rfl
def adK(d:al):iJ d.bare=iJ d:=rfl
namespace aP
def d:aP->al
 |mk d _=>d
def sub:aP->List aP
 |mk _ ks=>ks
def ind{P:aP->Prop}(h:∀ d ks,(∀ c∈ks,P c)->P (mk d ks)):∀ T,P T
 |mk d ks=>h d ks (λc ao=>ind h c)
section
variable{α:Type}(F:al->List α->α)
mutual
def fold:aP->α
 |mk d ks=>F d (NA ks)
def NA:List aP->List α
 |[]=>[]| a::l=>fold a::NA l
end
def adL:∀ l,NA F l=l.map (fold F)
 |[]=>rfl| a::l=>by rw[NA,adL l];rfl
def fold_eq(d:al)(ks:List aP):fold F (mk d ks)=F d (ks.map (fold F)):=by rw[fold,adL]
end
mutual
def fZ(cd:Option Int):aP->List aP
 |mk d ks=>if some d.k=cd then vG cd ks else [mk d (vG (iJ d) ks)]
def vG(cd:Option Int):List aP->List aP
 |[]=>[]| a::l=>fZ cd a++vG cd l
end
def Dp(cd:Option Int):∀ l,vG cd l=l.flatMap (fZ cd)
 |[]=>rfl| a::l=>by rw[vG,Dp cd l];rfl
def bu:aP->aP
 |mk d ks=>mk d (ks.flatMap (fZ (iJ d)))
def qY(cd:Option Int)(d:al)(ks:List aP):fZ cd (mk d ks)=if some d.k=cd then ks.flatMap (fZ cd)else [bu (mk d ks)]:=by rw[fZ,Dp,Dp];rfl
end aP
namespace aT
section
variable(ns:List al)
mutual
def bare:aT->aP
 |mk k ks=>.mk (nodeAt ns k).bare (NB ks)
def NB:List aT->List aP
 |[]=>[]| a::l=>bare a::NB l
end
def adM:∀ l,NB ns l=l.map (bare ns)
 |[]=>rfl| a::l=>by rw[NB,adM l];rfl
def nt(k:Nat)(ks:List aT):bare ns (mk k ks)=.mk (nodeAt ns k).bare (ks.map (bare ns)):=by rw[bare,adM]
def aqj(cd:Option Int):∀ T,(fZ ns cd T).map (bare ns)=(bare ns T).fZ cd:=by
 intro T
 induction T using aT.ind generalizing cd with
 |h k ks aQ=>
  rw[qY,nt,aP.qY,al.adJ];split;·rw[AW,yl];exact rT λc ao=>aQ c ao cd
  ·show [bare ns (mk k (ks.flatMap (fZ ns _)))]=[aP.mk _ ((ks.map (bare ns)).flatMap (aP.fZ (iJ (nodeAt ns k).bare)))];rw[nt,AW,yl,adK];congr 2;exact rT λc ao=>aQ c ao _
def aqk:∀ T,bare ns (bu ns T)=(bare ns T).bu
 |mk k ks=>by show bare ns (mk k (ks.flatMap (fZ ns _)))=_;rw[nt,nt];show _=aP.mk _ ((ks.map (bare ns)).flatMap (aP.fZ (iJ (nodeAt ns k).bare)));rw[AW,yl,adK];congr 1;exact rT λc ao=>aqj ns _ c
def adN:∀ T,(∀ x∈c2 T,(nodeAt jc x).bare=(nodeAt ns x).bare)->bare jc T=bare ns T:=by
 intro T
 induction T using aT.ind with
 |h k ks aQ=>intro h;rw[nt,nt,h k (F3 (mk k ks))];congr 1;refine fV λc ao=>aQ c ao λx ab=>h x ?_;rw[mL];exact iR _ (hl.2 ⟨c,ao,ab⟩)
def Dq(h:cD ns T)(m:List al):bare (ns++m) T=bare ns T:=adN ns T λx ab=>by rw[ady (h.lt x ab)]
end
end aT
def adO{z:α}{F:al->List α->α}(bE:∀ d l,F (d.dX l)=F d){ns:List al}(ae:r6 ns):∀ {T:aT},cD ns T->mA z (λd g=>F d (d.au.map g)) ns T.bs=(T.bare ns).fold F:=by
 intro T
 induction T using aT.ind with
 |h k ks aQ=>intro be;obtain⟨aa,ad,ak⟩:=be.inv;have h:=PL (z:=z) (f:=λd g=>F d (d.au.map g)) ns [] k aa;simp only[hB,du]at h;rw[aT.nt,aP.fold_eq];show(gF z _ ns []).getD (k:Int).toNat z=F ((nodeAt ns k).dX []) _;rw[bE,bS,hH,h,kL,<-gr aa,ad,gu,gu];congr 1;refine fV λc ao=>?_;rw[Function.comp,Function.comp,<-aQ c ao (ak c ao)];have:=be.TR ae ao;unfold mA;rw[bS,bS,lb,bT (by omega)]
section
variable{X:c3}{F:Fr}{C:dN}{I:aH}{M:List aE}{o:Oper}
def jC.adP(aN:cW X.P X.E){t:Nat}(aA:o.op=.call { callee:=.builtin .append,args:=#[s,x],argTypes:=#[t,t] })
  {e:Nat} (aq:X.E t=some db) (dk:db.bP=.slice e) (he:X.E e=some aF)
  (os:aR) (bg:os.ok aF.size xs) (av:bH F s=.val os.val)
 (ab:bH F x=.val (.slice (some aM) m c')) (hm:0<m) (aD:cR I M aM (m*aF.size) cb) (aa:fK cb=true)
 (ba:M.Perm (os.ar e++Mr)) (b1:os.n+m<=maxLen) (b8:(os.n+m)*aF.bytes<=140737488355328)
  (M':aR->List aE) (yO:∀ br:aR,(br.ar e++Mr).Perm (M' br))
  (k:∀ br:aR,br.n=os.n+m->(∀ g,br.a=some g->I g=none/\(os.a=none->g ∉ X.foot))->br.ok aF.size (xs++cb)->K (.val br.val) I (M' br)):jC X o F C I M K:=by
 refine⟨fun β a w Q iT=>?_⟩;have y9:cb.length=m*aF.size:=by obtain⟨_,_,_,_,_,_,h⟩:=aD;exact h
 have e8:∀ w,eM I M w->(Builtin.firstCells aF.size m (.slice (some aM) m c')).run X.P w=.ok cb.toArray w:=λw hw=>by
  obtain⟨c9,cs,T,an,fj,aj,ax⟩:=aD;refine run_firstCells_some (P:=X.P) w aF.size m aM m c' cb ax λj v ai=>?_;rw[eS _ c9,tl (fj.heap hw)];rw[<-aj,lb]at ai;split at ai;·rw[mO]at ai;simpa using ai
  ·cases ai
 have aV:cN X β a w F C I (os.ar e++Mr):=iT.h7 (.perm ba .refl);obtain⟨inf,z,hi,ft,hW,im,kb⟩:=(aN _ _ he).inf;obtain⟨g3,iU,kS⟩:=(aN _ _ aq).fs;have oO:g3=.slice e:=by rw[dk]at kS;cases g3<;>simp_all[fr]
 subst oO;have qx:z.cells.size=inf.size:=by rw[ft,<-(aN _ _ he).len,<-kb];simp
 have aql:=bg;rw[<-ft]at bg y9 e8;obtain⟨g,c,aS,w',fb,bc,bi,ca,gf,n6⟩:=Pm (P:=X.P) (w:=w) t t o.type e inf z iU iU (λk cZ=>by cases cZ) hi im qx bg (λg aw=>aV.holds.m ⟨g,.cells os.aS.toArray e (0,0)⟩ (by simp[aR.ar,aw])) (x:=.slice (some aM) m c') hm y9 (zq aa) (λ_=>rfl) (λw' x5=>e8 w' (iT.holds.heap x5)) b1 (by rw[hW];exact b8);rw[ft]at bc gf y9;have zN:I g=none:=by
  rcases n6 with⟨aw,_⟩ | ⟨rfl,_⟩;·exact aV.holds.d ⟨g,.cells os.aS.toArray e (0,0)⟩ (by simp[aR.ar,aw])
  ·cases bA:I w.heap.size with
   |none=>rfl| some nF=>have:=aV.holds.i _ _ bA;simp at this
 have aqm:os.a=none->g ∉ X.foot:=λay hm=>by
  rcases n6 with⟨aw,_⟩ | ⟨rfl,_⟩;·rw[ay]at aw;cases aw
  ·have aa:=aV.fx _ hm;have ad:=aV.sz;omega
 have es:=dj aV.an av;have ex:=dj aV.an ab;have kG:(⟨some g,os.n+m,c,aS⟩:aR).ok aF.size (xs++cb):=by
  refine⟨?_,(λh=>by cases h),λeg aw=>?_⟩;·rw[cr,aql.len,y9,lX]
  ·cases aw;exact⟨bc,bi,ca,gf⟩
 refine iN (by rw[aA];simp) (v:=.slice (some ⟨g,0,none⟩) (os.n+m) c) (w':=w') ?_ ⟨_,.val (.slice (some ⟨g,0,none⟩) (os.n+m) c),I,M' ⟨some g,os.n+m,c,aS⟩,rfl,rfl,?_,k ⟨some g,os.n+m,c,aS⟩ rfl (λeg aw=>by cases aw;exact⟨zN,aqm⟩) kG,rfl⟩
 ·unfold execOp;simp only[aA,resolve,invoke,builtin,cp,da,bZ,rm,b5,hy,es,ex,fb]
 ·refine cN.h7 ?_ (.perm (yO _) .refl);rcases n6 with⟨aw,rfl⟩ | ⟨rfl,rfl⟩
  ·have ag:os.ar e=[⟨g,.cells os.aS.toArray e (0,0)⟩]:=by simp[aR.ar,aw]
   rw[ag]at aV;exact aV.xI (a9:=[]) (post:=Mr) rfl
  ·have ad:cN X β a w.drew F C I (os.ar e++Mr):=aV.world rfl;have ak:=ad.n2 (.cells aS.toArray e (0,0));refine ak.h7 (.sub ?_ .refl);exact List.Sublist.cons_cons _ (mT _ _)
def jC.adQ(aN:cW X.P X.E){t:Nat}(aA:o.op=.call { callee:=.builtin .append,args:=#[s,x],argTypes:=#[t,t] })
  {e:Nat} (aq:X.E t=some db) (dk:db.bP=.slice e) (he:X.E e=some aF)
  (os:aR) (bg:os.ok aF.size xs) (av:bH F s=.val os.val)
 (ab:bH F x=.val (.slice (some aM) m c')) (hm:0<m) (aD:cR I M aM (m*aF.size) cb) (aa:fK cb=true)
 (ba:M.Perm (os.ar e++Mr)) (b1:os.n+m<=maxLen) (b8:(os.n+m)*aF.bytes<=140737488355328)
  (M':aR->List aE) (yO:∀ br:aR,(br.ar e++Mr).Perm (M' br))
  (k:∀ br:aR,br.n=os.n+m->(∀ g,br.a=some g->I g=none)->br.ok aF.size (xs++cb)->K (.val br.val) I (M' br)):jC X o F C I M K:=
 jC.adP aN aA aq dk he os bg av ab hm aD aa ba b1 b8 M' yO λbr aa ad ak=>k br aa (λg aw=>(ad g aw).1) ak
def jC.k5(aN:cW X.P X.E){t:Nat}(aA:o.op=.call { callee:=.builtin .append,args:=#[s,x],argTypes:=#[t,t] })
  {e:Nat} (aq:X.E t=some db) (dk:db.bP=.slice e) (he:X.E e=some aF)
  (os:aR) (bg:os.ok aF.size xs) (av:bH F s=.val os.val)
 (ab:bH F x=.val (.slice (some ⟨b9,0,none⟩) 1 c')) (ax:cs.length=aF.size) (aa:fK cs=true)
  (a9 post:List aE) (ba:M=⟨b9,.cells cs.toArray e (0,0)⟩::(a9++(os.ar e++post))) (b1:os.n+1<=9223372036854775807) (b8:(os.n+1)*aF.bytes<=140737488355328)
  (k:∀ br:aR,br.n=os.n+1->(∀ g,br.a=some g->I g=none)->br.ok aF.size (xs++cs)->K (.val br.val) I (⟨b9,.cells cs.toArray e (0,0)⟩::(a9++(br.ar e++post)))):jC X o F C I M K:=by
 have aJ:∀ br:aR,(br.ar e++(⟨b9,.cells cs.toArray e (0,0)⟩::(a9++post)):List aE).Perm (⟨b9,.cells cs.toArray e (0,0)⟩::(a9++(br.ar e++post))):=λbr=>
  na.trans (.cons _ (yg _ _ _))
 refine .adQ aN aA aq dk he os bg av (m:=1) (cb:=cs) ab (by decide) ?_ aa (Mr:=⟨b9,.cells cs.toArray e (0,0)⟩::(a9++post)) ?_ (by unfold maxLen;exact b1) b8 _ aJ k
 ·rw[oI];refine⟨rfl,_,_,_,.inr ⟨⟨b9,.cells cs.toArray e (0,0)⟩,by rw[ba];exact .head _,rfl,rfl⟩,?_,ax⟩;simp only[qp];exact fC (by omega)
 ·rw[ba];exact(aJ os).symm
end
def NC{G F:Fr}{y:Operand}{r:dH}(h:dq G y=dq F y)(bq:bH F y=r):bH G y=r:=by simp only[bH,dE,h];exact bq
structure cn where
 b:Nat
 os:aR
 ds:List al
def cn.ah(A:cn):aE:=⟨A.b,.cells #[A.os.val] 216 (0,0)⟩
def cn.ar(A:cn):List aE:=A.ah::A.os.ar 82
structure cn.ok(I:aH)(A:cn):Prop where
 os:A.os.ok 9 (A.ds.flatMap al.cells)
 n:A.os.n=A.ds.length
 ds:∀ d∈A.ds,d.ok I
def cn.ok.mono{I':aH}{A:cn}(h:A.ok I)(bA:∀ b o,I b=some o->I' b=some o):A.ok I':=⟨h.os,h.n,λd ah=>(h.ds d ah).mono bA⟩
def adR{A:cn}(dI:A.ok I)(aD:A.ds.length<=1099511627776){d:al}(ah:d.ok I) :
  Spec Tryz.prog 274 [ptr A.b,d.val] I A.ar λv I' M'=>v=.int .i64 A.ds.length/\I'=I/\∃ os,M'=cn.ar ⟨A.b,os,A.ds++[d]⟩/\cn.ok I ⟨A.b,os,A.ds++[d]⟩:=by
 refine bV [] aY Tryz.func274 rfl rfl rfl ?_;intro B ay;obtain⟨k,cx,s1,s2,cY,s,lo,hi,b0,aG,ch,au⟩:=d;have b4:=dI.os;have bp:∀ (os:aR) (M:List aE),(⟨A.b,.cells #[os.val] 216 (0,0)⟩:aE)∈M->cR I M ((⟨A.b,0,none⟩:Addr).add 0) 1 [os.val]:=λos M hm=>dr (cs:=[os.val]) (k:=0) (n:=1) (T:=216) hm (by simp);refine cT.draw aY rfl rfl rfl ?_;refine aO.mk _ (bp A.os _ (.head _)) ?_;refine bW.mk λb9 m8 uk=>?_;intro G fA;refine jC.k5 aY rfl (e:=82) rfl rfl rfl A.os b4 (NC (fA _ (by simp[Op.operands,Call.operands])) rfl) (NC (fA _ (by simp[Op.operands,Call.operands])) rfl) (cs:=al.cells ⟨k,cx,s1,s2,cY,s,lo,hi,b0,aG,ch,au⟩) rfl rfl [A.ah] [] (by rw[dF];rfl) (by have:=dI.n;omega) (by have:=dI.n;show(A.os.n+1)*96<=_;omega) ?_;intro br aa ad ak;refine ck.mk [_] (br.ar _++[]) #[A.os.val] 216 rfl rfl (bK rfl) rfl ?_;refine aO.mk _ (bp br _ (.tail _ (.head _))) ?_;have xX:=dI.n;refine⟨(A.ds.length:Int),?_,?_⟩
 ·rw[wrap_i64 (by unfold hz;omega)];omega
 refine⟨_,_,.sub (M1:=cn.ar ⟨A.b,br,A.ds++[⟨k,cx,s1,s2,cY,s,lo,hi,b0,aG,ch,au⟩]⟩) ?_ .refl,rfl,rfl,br,rfl,?_⟩
 ·show List.Sublist (_::(br.ar _)) (_::_::(br.ar _++[]));rw[dF];exact .cons _ (.refl _)
 ·refine⟨?_,?_,λx ab=>?_⟩
  ·rw[fI];simpa using ak
  ·rw[aa,cr,dI.n];rfl
  ·rcases cv.1 ab with ab | ab
   ·exact dI.ds x ab
   ·rw[eN.1 ab];exact ah
def al.row(d:al)(a:Option Addr)(n c:Nat)(ks:List Int):al:=⟨d.k,d.cx,d.s1,d.s2,d.cY,d.t,d.lo,d.hi,a,n,c,ks⟩
def al.ok.row{d:al}(h:d.ok I)(af:cI I a n c 1 8 (ks.map (.int .i64 ·)))(ae:∀ x∈ks,hz x):(d.row a n c ks).ok I:=⟨h.k,h.cx,h.s1,h.s2,h.cY,h.t,h.lo,h.hi,af,ae⟩
def aqn(A:cn)(d:al)(I:aH)(v:Value)(I':aH)(M':List aE):Prop:=v=.int .i64 A.ds.length/\I'=I/\∃ os,M'=cn.ar ⟨A.b,os,A.ds++[d]⟩/\cn.ok I ⟨A.b,os,A.ds++[d]⟩
def adS{A:cn}(dI:A.ok I)(aD:A.ds.length<=1099511627776){d:al}(ah:d.ok I)(af:cI I a n c 1 8 (ks.map (.int .i64 ·)))(ae:∀ x∈ks,hz x) :
  Spec Tryz.prog 222 [ptr A.b,d.val,.slice a n c] I A.ar (aqn A (d.row a n c ks) I):=by
 refine bV [] aY Tryz.func222 rfl rfl rfl ?_;intro B ay;have fE:=ah.row af ae;obtain⟨k,cx,s1,s2,cY,s,lo,hi,b0,aG,ch,au⟩:=d;have c9:=adR dI aD fE;refine a8.mk A.ar [] _ (by rw[dF]) c9 ?_;rintro v I' M' -⟨rfl,rfl,os,rfl,h⟩;exact⟨_,_,.sub (M1:=cn.ar ⟨A.b,os,A.ds++[_]⟩) (by simp) .refl,rfl,rfl,os,rfl,h⟩
def pj(d:al)(x:al):Bool:=!decide (d.k=4) || !decide (x.k=0)
def r7(A:cn)(d:al)(os:aR)(p5 p4 p9:Nat):List aE:=⟨p5,.cells d.cells.toArray 82 (0,0)⟩::⟨p4,.cells #[ptr A.b] 220 (0,0)⟩::⟨p9,.cells #[os.val] 38 (0,0)⟩::(os.ar 3++A.ar)
def aqo{A:cn}(dI:A.ok I)(aD:A.ds.length<=1099511627776){d:al}(ah:d.ok I){l:List Int}(b4:os.ok 1 (l.map (.int .i64 ·)))(ax:os.n<=1099511627776){p5 p4 p9:Nat}(ae:k<A.ds.length) :
  Spec Tryz.prog 297 [.int .i64 k,ptr p5,ptr p4,ptr p9] I (r7 A d os p5 p4 p9) λv I' M'=>I'=I/\∃ br,M'=r7 A d br p5 p4 p9/\br.ok 1 ((l++bif pj d A.ds[k]then [(k:Int)]else []).map (.int .i64 ·)):=by
 refine bV [] aY Tryz.func297 rfl rfl rfl ?_;intro B ay;obtain⟨aM,bB,bp⟩:=aR.ok.row (I:=I) (M:=r7 A d os p5 p4 p9) al.cL (by decide) dI.os (e:=82) (λx ab=>by simp[r7,cn.ar,ab]) (j:=k) ae;obtain⟨dK,cx,s1,s2,cY,s,lo,hi,b0,aG,ch,au⟩:=d;refine aO.mk [.int .u8 dK] (dr (cs:=al.cells ⟨dK,cx,s1,s2,cY,s,lo,hi,b0,aG,ch,au⟩) (k:=0) (n:=1) (T:=82) (.head _) (by simp[al.cells])) ?_;refine bX.mk (λaK=>?_) (λaK=>?_)
 ·have dS:dK=4:=by simpa using aK
  refine aO.mk [ptr A.b] (dr (cs:=[ptr A.b]) (k:=0) (n:=1) (T:=220) (.tail _ (.head _)) (by simp)) ?_;refine aO.mk [A.os.val] (dr (cs:=[A.os.val]) (k:=0) (n:=1) (T:=216) (by simp[r7,cn.ar,cn.ah]) (by simp)) ?_;refine bm.mk aM k bB rfl (by have:=dI.n;omega) ?_;refine aO.mk [.int .u8 A.ds[k].k] (cR.part (k:=0) (m:=1) bp (by decide)) ?_;refine aX.mk (λay=>?_) (λay=>?_)
  ·have ae:pj ⟨dK,cx,s1,s2,cY,s,lo,hi,b0,aG,ch,au⟩ A.ds[k]=true:=by unfold pj;have hg:(!decide (A.ds[k].k=0))=true:=ay;rw[hg,Lx]
   refine aO.mk [os.val] (dr (cs:=[os.val]) (k:=0) (n:=1) (T:=38) (.tail _ (.tail _ (.head _))) (by simp)) ?_;refine bW.mk λb9 m8 uk=>?_;refine bD.k5 aY rfl (by simp) (e:=3) rfl rfl rfl os b4 rfl (cs:=[.int .i64 k]) rfl rfl rfl [_,_,_] A.ar rfl (by omega) (by show(os.n+1)*8<=_;omega) ?_;intro br aa ad ak;refine ck.mk [_,_] (br.ar 3++A.ar) #[os.val] 38 rfl rfl (bK rfl) rfl ?_;refine⟨_,_,.refl,rfl,br,rfl,?_⟩;rw[ae,cM];exact ak
  ·have ae:pj ⟨dK,cx,s1,s2,cY,s,lo,hi,b0,aG,ch,au⟩ A.ds[k]=false:=by unfold pj;have Cz:(!decide (dK=4))=false:=aK;have hg:(!decide (A.ds[k].k=0))=false:=ay;rw[Cz,hg];rfl
   refine⟨_,_,.refl,rfl,os,rfl,?_⟩;rw[ae];simpa using b4
 ·have ae:pj ⟨dK,cx,s1,s2,cY,s,lo,hi,b0,aG,ch,au⟩ A.ds[k]=true:=by unfold pj;have Cz:(!decide (dK=4))=true:=aK;rw[Cz,Bool.true_or]
  refine aO.mk [os.val] (dr (cs:=[os.val]) (k:=0) (n:=1) (T:=38) (.tail _ (.tail _ (.head _))) (by simp)) ?_;refine bW.mk λb9 m8 uk=>?_;refine bD.k5 aY rfl (by simp) (e:=3) rfl rfl rfl os b4 rfl (cs:=[.int .i64 k]) rfl rfl rfl [_,_,_] A.ar rfl (by omega) (by show(os.n+1)*8<=_;omega) ?_;intro br aa ad ak;refine ck.mk [_,_] (br.ar 3++A.ar) #[os.val] 38 rfl rfl (bK rfl) rfl ?_;refine⟨_,_,.refl,rfl,br,rfl,?_⟩;rw[ae,cM];exact ak
def vH:al:=⟨0,0,0,0,0,⟨#[]⟩,0,0,none,0,0,[]⟩
def jP(d:al)(ds:List al)(l:List Nat):List Int:=l.flatMap λk=>bif pj d (ds.getD k vH)then [(k:Int)]else []
structure aqp(A:cn)(d:al)(l:List Nat)(x:Nat×aR):Prop where
 i:x.1<=l.length
 os:x.2.ok 1 ((jP d A.ds (l.take x.1)).map (.int .i64 ·))
def adT{A:cn}(dI:A.ok I)(aD:A.ds.length<=1099511627776){d z:al}(ah:d.ok I)(bb:z.ok I)(ax:∀ k∈l,k<A.ds.length)(sR:l.length<=1099511627776)(af:cI I a n c 1 8 ((l.map Int.ofNat).map (.int .i64 ·))) :
  Spec Tryz.prog 275 [ptr A.b,d.val,.slice a n c,z.val] I A.ar λv I' M'=>(∀ b o,I b=some o->I' b=some o)/\∃ br ds' r,M'=cn.ar ⟨A.b,br,ds'⟩/\cn.ok I' ⟨A.b,br,ds'⟩/\v=.int .i64 r /\
   ((jP d A.ds l=[]/\r=(A.ds.length:Int)/\ds'=A.ds++[z])\/(jP d A.ds l=[r]/\ds'=A.ds)\/(2<=(jP d A.ds l).length/\r=(A.ds.length:Int)/\∃ bL gw c',ds'=A.ds++[d.row bL gw c' (jP d A.ds l)])):=by
 refine bV [4,5,9] aY Tryz.func275 rfl rfl rfl ?_;intro B ay;obtain⟨dK,cx,s1,s2,cY,s,lo,hi,b0,aG,ch,au⟩:=d;obtain⟨aqq,aqr,yK,R',aqs,fi,aqt,aqu,aqv,aqw,aqx,aqy⟩:=z;refine bW.mk λp4 y' yU=>?_;refine bW.mk λp5 awA ND=>?_;refine bW.mk λp9 awB uk=>?_;have IU:l.length=n:=by have aa:=af.len;simpa using aa
 refine dt.inv (ι:=Nat×aR) (λx=>{ bo:=[(4,.val (ptr p4)),(5,.val (ptr p5)),(7,.ref 7 0),(9,.val (ptr p9)),(10,.val (.func (.func 297) #[] #[ptr p5,ptr p4,ptr p9])),(14,.val (.slice a n c)),(15,.val (.int .i64 n)),(16,.val (.int .i64 x.1))],cl:=[(7,al.cells ⟨aqq,aqr,yK,R',aqs,fi,aqt,aqu,aqv,aqw,aqx,aqy⟩)],cH:=I,dd:=r7 A ⟨dK,cx,s1,s2,cY,s,lo,hi,b0,aG,ch,au⟩ x.2 p5 p4 p9 }) (aqp A ⟨dK,cx,s1,s2,cY,s,lo,hi,b0,aG,ch,au⟩ l) (λx=>l.length-x.1) ?_ ?_
 ·refine⟨(0,⟨none,0,0,[]⟩),⟨dp _,⟨rfl,λ_=>⟨rfl,rfl⟩,λg h=>by cases h⟩⟩,.perm ?_ .refl,kN,.cons rfl (.nil)⟩;exact(na (l₁:=[_,_])).symm
 ·rintro⟨i,os⟩⟨cC,b4⟩;simp only at cC b4;have gL:cI I a n c 1 8 ((l.map Int.ofNat).flatMap iI):=by rw[oq];exact af
  have cS:(jP ⟨dK,cx,s1,s2,cY,s,lo,hi,b0,aG,ch,au⟩ A.ds (l.take i)).length<=i:=by
   refine jg ?_ (Ej i l);generalize l.take i=eu;unfold jP
   induction eu with
   |nil=>exact b' _
   |cons x eu aQ=>
    rw[iS,cr,et];have:(bif pj ⟨dK,cx,s1,s2,cY,s,lo,hi,b0,aG,ch,au⟩ (A.ds.getD x vH)then [(x:Int)]else []).length<=1:=by cases pj ⟨dK,cx,s1,s2,cY,s,lo,hi,b0,aG,ch,au⟩ (A.ds.getD x vH)<;>simp
    omega
  have ic:=b4.pW;refine aX.mk (λh=>?_) (λh=>?_)
  ·have aZ:(i:Int)<n:=cJ h;have eo:i<l.length:=by omega
   obtain⟨aM,bB,bp⟩:=gL.row (f:=iI) (λ_=>rfl) (j:=i) (by omega) (by simpa using eo);rw[fW]at bp;refine bm.mk aM i bB rfl (by omega) ?_;refine aO.mk _ (bp _) ?_;have FZ:=ax _ (bJ eo);have c9:=aqo (p5:=p5) (p4:=p4) (p9:=p9) dI aD ah b4 (by omega) FZ;refine a8.mk (r7 A ⟨dK,cx,s1,s2,cY,s,lo,hi,b0,aG,ch,au⟩ os p5 p4 p9) [] _ (by rw[dF]) c9 ?_;rintro v I' M' -⟨rfl,br,rfl,Cp⟩;refine bd.mk ((i+1:Nat):Int) (lA (by simp only;omega) (by omega)) ?_;refine⟨(i+1,br),⟨⟨by simp only;omega,?_⟩,by simp only;omega⟩,.perm (by rw[dF]) .refl,kN,.cons rfl (.nil)⟩
   ·show br.ok 1 ((jP ⟨dK,cx,s1,s2,cY,s,lo,hi,b0,aG,ch,au⟩ A.ds (l.take (i+1))).map (.int .i64 ·));have e:jP ⟨dK,cx,s1,s2,cY,s,lo,hi,b0,aG,ch,au⟩ A.ds (l.take (i+1))=jP ⟨dK,cx,s1,s2,cY,s,lo,hi,b0,aG,ch,au⟩ A.ds (l.take i)++bif pj ⟨dK,cx,s1,s2,cY,s,lo,hi,b0,aG,ch,au⟩ A.ds[l[i]]then [((l[i]:Nat):Int)]else []:=by unfold jP;rw[gj eo,fI];congr 1;simp[bS,FZ]
    rw[e];exact Cp
  ·have c0:¬ (i:Int)<n:=dv h;obtain rfl:i=l.length:=by omega
   rw[D4]at b4 cS ic;refine aO.mk [os.val] (dr (cs:=[os.val]) (k:=0) (n:=1) (T:=38) (.tail _ (.tail _ (.head _))) (by simp)) ?_;have mE:(r7 A ⟨dK,cx,s1,s2,cY,s,lo,hi,b0,aG,ch,au⟩ os p5 p4 p9).Perm (A.ar++([⟨p5,.cells (al.cells ⟨dK,cx,s1,s2,cY,s,lo,hi,b0,aG,ch,au⟩).toArray 82 (0,0)⟩,⟨p4,.cells #[ptr A.b] 220 (0,0)⟩,⟨p9,.cells #[os.val] 38 (0,0)⟩]++os.ar 3)):=by
    have:r7 A ⟨dK,cx,s1,s2,cY,s,lo,hi,b0,aG,ch,au⟩ os p5 p4 p9=([⟨p5,.cells (al.cells ⟨dK,cx,s1,s2,cY,s,lo,hi,b0,aG,ch,au⟩).toArray 82 (0,0)⟩,⟨p4,.cells #[ptr A.b] 220 (0,0)⟩,⟨p9,.cells #[os.val] 38 (0,0)⟩]++os.ar 3)++A.ar:=by simp[r7]
    rw[this];exact eU
   refine aX.mk (λay=>?_) (λay=>?_)
   ·have dy:os.n=0:=by simpa using ay
    refine aO.mk [ptr A.b] (dr (cs:=[ptr A.b]) (k:=0) (n:=1) (T:=220) (.tail _ (.head _)) (by simp)) ?_;refine a8.mk A.ar _ _ mE (adR dI aD bb) ?_;rintro v I' M' -⟨rfl,rfl,ix,rfl,bg⟩;exact⟨_,_,.sub (xd _ _) .refl,λ_ _ h=>h,ix,_,_,rfl,bg,rfl,.inl ⟨jl (by omega),rfl,rfl⟩⟩
   ·refine aX.mk (λaa=>?_) (λaa=>?_)
    ·have aI:os.n=1:=by
      have:(os.n:Int)=1:=by simpa using aa
      omega
     have rA:(jP ⟨dK,cx,s1,s2,cY,s,lo,hi,b0,aG,ch,au⟩ A.ds l).length=1:=by omega
     obtain⟨r,h9⟩:=TU.1 rA;refine aO.mk [os.val] (dr (cs:=[os.val]) (k:=0) (n:=1) (T:=38) (.tail _ (.tail _ (.head _))) (by simp)) ?_;rw[<-oq]at b4;obtain⟨aM,bB,bp⟩:=aR.ok.row (I:=I) (M:=r7 A ⟨dK,cx,s1,s2,cY,s,lo,hi,b0,aG,ch,au⟩ os p5 p4 p9) (e:=3) (f:=iI) (size:=1) (λ_=>rfl) (by decide) b4 (λx ab=>by simp[r7,ab]) (j:=0) (by omega);refine bm.mk aM 0 bB rfl (by omega) ?_;refine aO.mk _ bp ?_;refine⟨_,_,.sub (M1:=A.ar) (.cons _ (.cons _ (.cons _ (mT _ _)))) .refl,λ_ _ h=>h,A.os,A.ds,r,rfl,dI,?_,.inr (.inl ⟨h9,rfl⟩)⟩;simp[h9];rfl
    ·refine aO.mk [ptr A.b] (dr (cs:=[ptr A.b]) (k:=0) (n:=1) (T:=220) (.tail _ (.head _)) (by simp)) ?_;refine aO.mk (al.cells ⟨dK,cx,s1,s2,cY,s,lo,hi,b0,aG,ch,au⟩) (dr (cs:=al.cells ⟨dK,cx,s1,s2,cY,s,lo,hi,b0,aG,ch,au⟩) (k:=0) (n:=9) (T:=82) (.head _) (by simp[al.cells])) ?_;refine aO.mk [os.val] (dr (cs:=[os.val]) (k:=0) (n:=1) (T:=38) (.tail _ (.tail _ (.head _))) (by simp)) ?_;have hg:¬ os.n=0:=λe=>by have ad:decide ((os.n:Int)=0)=false:=ay;simp[e]at ad
     have wB:¬ os.n=1:=λe=>by have ad:decide ((os.n:Int)=1)=false:=aa;simp[e]at ad
     refine a8.pC λeF=>?_;have mf:(r7 A ⟨dK,cx,s1,s2,cY,s,lo,hi,b0,aG,ch,au⟩ os p5 p4 p9).Perm (os.ar 3++(A.ar++[⟨p5,.cells (al.cells ⟨dK,cx,s1,s2,cY,s,lo,hi,b0,aG,ch,au⟩).toArray 82 (0,0)⟩,⟨p4,.cells #[ptr A.b] 220 (0,0)⟩,⟨p9,.cells #[os.val] 38 (0,0)⟩])):=by have e:r7 A ⟨dK,cx,s1,s2,cY,s,lo,hi,b0,aG,ch,au⟩ os p5 p4 p9=[⟨p5,.cells (al.cells ⟨dK,cx,s1,s2,cY,s,lo,hi,b0,aG,ch,au⟩).toArray 82 (0,0)⟩,⟨p4,.cells #[ptr A.b] 220 (0,0)⟩,⟨p9,.cells #[os.val] 38 (0,0)⟩]++(os.ar 3++A.ar):=rfl;rw[e,<-dW (os.ar 3)];exact eU
     have aw:∀ g,os.a=some g->I g=none/\g ∉ A.ar.map (·.num):=λg aw=>by
      have ag:os.ar 3=[⟨g,.cells os.aS.toArray 3 (0,0)⟩]:=by unfold aR.ar;rw[aw]
      have bU:=(mf.map (·.num)).nodup_iff.1 eF.b3;rw[ag]at bU mf;refine⟨eF.d _ (mf.mem_iff.2 (.head _)),λhm=>?_⟩;rw[cM]at bU;simp only[b5,hy,qG,lf,cM]at bU;exact bU.1 (iR _ hm)
     obtain⟨eA,hw,gq,dB,-⟩:=aR.Ai (b:=8) b4 (by omega) aw (A.ar++[⟨p5,.cells (al.cells ⟨dK,cx,s1,s2,cY,s,lo,hi,b0,aG,ch,au⟩).toArray 82 (0,0)⟩,⟨p4,.cells #[ptr A.b] 220 (0,0)⟩,⟨p9,.cells #[os.val] 38 (0,0)⟩]);have S0:∀ x∈jP ⟨dK,cx,s1,s2,cY,s,lo,hi,b0,aG,ch,au⟩ A.ds l,hz x:=λx ab=>by
      obtain⟨k,ae,ab⟩:=hl.1 ab;have:=ax k ae;cases aL:pj ⟨dK,cx,s1,s2,cY,s,lo,hi,b0,aG,ch,au⟩ (A.ds.getD k vH)with
      |false=>rw[aL]at ab;cases ab| true=>rw[aL]at ab;rw[eN.1 ab];unfold hz;omega
     have c9:=adS (dI.mono gq) aD (ah.mono gq) dB S0;refine a8.uF eA A.ar [⟨p5,.cells (al.cells ⟨dK,cx,s1,s2,cY,s,lo,hi,b0,aG,ch,au⟩).toArray 82 (0,0)⟩,⟨p4,.cells #[ptr A.b] 220 (0,0)⟩,⟨p9,.cells #[os.val] 38 (0,0)⟩] _ (.perm mf (hw _ _ .refl)) c9 ?_;rintro v I' M' bf -⟨rfl,rfl,ix,rfl,bg⟩;exact⟨_,_,.sub (xd _ _) .refl,gq,ix,_,_,rfl,bg,rfl,.inr (.inr ⟨by omega,rfl,_,_,_,rfl⟩)⟩
namespace aP
mutual
def post:aP->List al
 |mk d ks=>sO d (NE ks)
def NE:List aP->List (List al)
 |[]=>[]| a::l=>post a::NE l
end
def adU:∀ l,NE l=l.map post
 |[]=>rfl| a::l=>by rw[NE,adU l];rfl
def kz(d:al)(ks:List aP):post (mk d ks)=sO d (ks.map post):=by rw[post,adU]
end aP
inductive eZ:aP->Prop
 |mk{d:al}{ks:List aP}:fits d ks.length=true->(∀ c∈ks,eZ c)->eZ (.mk d ks)
def eZ.inv{d:al}{ks:List aP}(h:eZ (.mk d ks)):fits d ks.length=true/\∀ c∈ks,eZ c:=by
 cases h with
 |mk aa ad=>exact⟨aa,ad⟩
def adV:∀ {T:aP},eZ T->g' (jK T.post):=by
 intro T
 induction T using aP.ind with
 |h d ks aQ=>intro h;rw[aP.kz];refine apT (λl ax=>?_) (by rw[bx];exact h.inv.1);obtain⟨c,ao,rfl⟩:=cP.1 ax;exact aQ c ao (h.inv.2 c ao)
def aqz{l:List al}(h:g' (jK l)):0<l.length/\∀ d∈l,∀ k∈d.au,0<=k:=by
 have:=h.bC;refine⟨?_,λd ah k ae=>?_⟩
 ·have aa:(0:Int)<=(l.length:Int)-1:=this.1;omega
 ·obtain⟨j,ai,rfl⟩:=hO ah;exact(h.au j ai k ae).1
def aqA{z:α}{F:al->List α->α}(bE:∀ d l,F (d.dX l)=F d):∀ {T:aP},eZ T->A7 z F T.post=T.fold F:=by
 intro T
 induction T using aP.ind with
 |h d ks aQ=>
  intro h;rw[aP.kz,aP.fold_eq,apR bE,gu];·congr 1;exact fV λc ao=>aQ c ao (h.inv.2 c ao)
  ·intro l ax;obtain⟨c,ao,rfl⟩:=cP.1 ax;exact aqz (adV (h.inv.2 c ao))
def aT.hr(T:aT):List Int:=T.c2.map λx:Nat=>(x:Int)
def aT.JM(k:Nat)(ks:List aT):(aT.mk k ks).hr=ks.flatMap aT.hr++[(k:Int)]:=by unfold aT.hr;rw[aT.mL,cM,AW];rfl
def aT.aqB(T:aT):∃ K,T.hr=K++[(T.bs:Int)]:=by
 cases T with
 |mk k ks=>exact⟨_,aT.JM k ks⟩
structure JN(ns:List al)(A rb:List Int)(ow:List aT)(a0:List al×List Int):Prop where
 len:a0.1.length=(ow.flatMap aT.hr).length
 nodes:a0.1.map (jO (A.length:Int))=(ow.flatMap aT.hr).map (nT ns rb)
 roots:a0.2.map (·+(A.length:Int))=ow.map λc=>k3 rb (c.bs:Int)
def aqC(n:Nat)(a:Int)(x:al):jO a (x.dX (x.au.map λk=>(n:Int)+k))=jO (a+(n:Int)) x:=by unfold jO;show x.dX ((x.au.map λk=>(n:Int)+k).map (·+a))=_;rw[gu];congr 1;refine fV λk ae=>?_;show(n:Int)+k+a=k+(a+n);omega
def JN.step{ns:List al}{A B rb:List Int}{ow:List aT}{a0:List al×List Int}(h:JN ns A rb ow a0){c:aT}{l:List al}
  (ov:rb=(A++ow.flatMap aT.hr)++(c.hr++B)) (ah:hQ rb) (ax:c.hr.map (nT ns rb)=l.map (jO ((A++ow.flatMap aT.hr).length:Int))):JN ns A rb (ow++[c]) (js a0 l):=by
 have nD:c.hr.length=l.length:=by simpa using congrArg List.length ax
 obtain⟨aa,ad,ak⟩:=h;have aI:(ow++[c]).flatMap aT.hr=ow.flatMap aT.hr++c.hr:=by rw[fI,nQ]
 refine⟨?_,?_,?_⟩
 ·rw[aI];show(a0.1++l.map _).length=_;rw[cr,bx,cr,aa,nD]
 ·rw[aI,cM,ax,<-ad];show(a0.1++l.map λx=>x.dX (x.au.map λk=>(a0.1.length:Int)+k)).map _=_;rw[cM,gu];congr 1;refine fV λx ab=>?_;show jO _ (x.dX _)=_;rw[aqC,aa,cr];congr 1
 ·rw[cM,<-ak];show(a0.2++[((a0.1.length+l.length:Nat):Int)-1]).map _=_;rw[cM];congr 1;obtain⟨K,ek⟩:=c.aqB;have hm:(c.bs:Int)∈c.hr:=by rw[ek];simp
  have A':hQ c.hr:=by rw[ov]at ah;exact(rN.1 (rN.1 ah).2.1).1
  have aJ:k3 rb (c.bs:Int)=k3 c.hr (c.bs:Int)+((A++ow.flatMap aT.hr).length:Int):=by rw[ov]at ah |-;exact TG ah hm
  have h3:k3 c.hr (c.bs:Int)=(c.hr.length:Int)-1:=by rw[ek]at A' |-;rw[adj A',cr];simp
  rw[sZ,sZ,aJ,h3,cr,<-aa,<-nD];congr 1;omega
def aqD{ns:List al}:∀ {S:aT},cD ns S->∀ (A B rb:List Int),rb=A++(S.hr++B)->hQ rb->S.hr.map (nT ns rb)=(S.bare ns).post.map (jO (A.length:Int)):=by
 intro S
 induction S using aT.ind with
 |h k ks aQ=>
  intro cc A B rb ov ah;obtain⟨aa,ad,ak⟩:=cc.inv;have key:∀ (wN ow:List aT) (a0:List al×List Int),ow++wN=ks->JN ns A rb ow a0->JN ns A rb ks ((wN.map λc=>(c.bare ns).post).foldl js a0):=by
   intro wN
   induction wN with
   |nil=>intro ow a0 e h;rw[dF]at e;rw[<-e];exact h
   |cons c wN S1=>
    intro ow a0 e h;have ao:c∈ks:=by rw[<-e];simp
    have adW:rb=(A++ow.flatMap aT.hr)++(c.hr++(wN.flatMap aT.hr++([(k:Int)]++B))):=by rw[ov,aT.JM,<-e];simp
    rw[b5,km];exact S1 (ow++[c]) _ (by rw[<-e];simp) (h.step adW ah (aQ c ao (ak c ao) _ _ _ adW ah))
  have h:=key ks [] ([],[]) rfl ⟨rfl,rfl,rfl⟩;obtain⟨bc,bi,ca⟩:=h;rw[aT.JM,aT.nt,aP.kz,gu];show _=(sO (nodeAt ns k).bare (ks.map λc=>(c.bare ns).post)).map _;unfold sO;generalize(ks.map λc=>(c.bare ns).post).foldl js ([],[])=a0 at bc bi ca;rw[cM,cM,bi];congr 1;rw[sZ,sZ];congr 1;show(nodeAt ns (k:Int).toNat).dX _=(nodeAt ns k).dX (a0.2.map (·+(A.length:Int)));rw[ca,hH,ad,gu];rfl
def adX:∀ (fX:List (List al)) (a0:List al×List Int),(∀ x∈a0.1,x.a4=x)->∀ x∈(fX.foldl js a0).1,x.a4=x
 |[],_,h=>h
 |l::fX,a0,h=>adX fX (js a0 l) λx ab=>by
  rcases cv.1 (show x∈a0.1++l.map (λx=>x.dX (x.au.map λk=>(a0.1.length:Int)+k))from ab)with ab | ab;·exact h x ab
  ·obtain⟨y,aC,rfl⟩:=cP.1 ab;rfl
def adY(T:aP):∀ x∈T.post,x.a4=x:=by
 cases T with
 |mk d ks=>
 intro x ab;rw[aP.kz]at ab;rcases cv.1 ab with ab | ab
 ·exact adX _ _ (λx ab=>by cases ab) x ab
 ·rw[eN.1 ab];rfl
def adZ{ns:List al}(h:cD ns S)(aD:S.c2.Nodup):S.hr.map (nT ns S.hr)=(S.bare ns).post:=by
 have ah:hQ S.hr:=Cv.2 (List.Pairwise.imp (fun {a b} bt e=>bt (by omega)) aD);have:=aqD h [] [] S.hr (by simp) ah;rw[this];refine(fV λx ab=>?_).trans (Ny _);have e:=adY _ x ab;have a6:jO (([]:List Int).length:Int) x=x.a4:=by show x.dX (x.au.map (·+(0:Int)))=x.dX x.au;congr 1;refine(fV λk ae=>?_).trans (Ny _);show k+0=k;omega
 rw[a6,e];rfl
def fq(ns:List al)(k:Int):aP:=mA (aP.mk vH []) (λd g=>(λ(d:al) (xs:List aP)=>aP.mk d.bare xs) d (d.au.map g)) ns k
def bI(t:bk):aP:=fq t.ns t.bC
def aqE(ns:List al):∀ S:aT,(S.bare ns).fold (λ(d:al) (xs:List aP)=>aP.mk d.bare xs)=S.bare ns:=by
 intro S
 induction S using aT.ind with
 |h k ks aQ=>rw[aT.nt,aP.fold_eq,gu];congr 1;exact fV λc ao=>aQ c ao
def NF{ns:List al}(ae:r6 ns)(h:cD ns T):fq ns T.bs=T.bare ns:=by unfold fq;rw[adO (λd l=>rfl) ae h,aqE]
def g'.xj(h:g' t):r6 t.ns:=h.au
def g'.lt(h:g' t){j:Nat}(ai:j<t.ns.length):∃ T:aT,T.bs=j/\cD t.ns T/\fq t.ns j=T.bare t.ns/\T.c2.Nodup:=by obtain⟨T,be,dI⟩:=cD.ex h.xj j ai;refine⟨T,be,dI,?_,dI.nodup h.xj h.diff⟩;rw[<-be];exact NF h.xj dI
def NG{ns:List al}(aB:∀ d∈ns,fits d d.au.length=true):∀ {T:aT},cD ns T->eZ (T.bare ns):=by
 intro T
 induction T using aT.ind with
 |h k ks aQ=>
  intro h;obtain⟨aa,ad,ak⟩:=h.inv;rw[aT.nt];refine .mk ?_ λc ao=>?_;·have:=aB _ (bJ aa);rw[<-gr aa]at this;show fits ((nodeAt ns k).dX []) _=true;rw[TN,bx];rw[ad,bx]at this;exact this
  ·obtain⟨c',zF,rfl⟩:=cP.1 ao;exact aQ c' zF (ak c' zF)
def g'.fit(h:g' t):∀ d∈t.ns,Go.V.fits d d.au.length=true:=λd ah=>by obtain⟨j,ai,rfl⟩:=hO ah;exact h.fits j ai
def ad0(h:g' t){j:Nat}(ai:j<t.ns.length):eZ (fq t.ns j):=by obtain⟨T,be,dI,he,-⟩:=h.lt ai;rw[he];exact NG h.fit dI
def aqF{z:α}{F:al->List α->α}(bE:∀ d l,F (d.dX l)=F d)(h:g' t){j:Nat}(ai:j<t.ns.length):mA z (λd g=>F d (d.au.map g)) t.ns j=(fq t.ns j).fold F:=by obtain⟨T,be,dI,he,-⟩:=h.lt ai;rw[he,<-be];exact adO bE h.xj dI
def aqG(h:g' t):∀ {T:aT},cD t.ns T->ej t.ns (T.bs:Int)=T.hr:=by
 intro T
 induction T using aT.ind with
 |h k ks aQ=>intro be;obtain⟨aa,ad,ak⟩:=be.inv;show ej t.ns (k:Int)=_;rw[Go.V.kz h aa,ad,aT.JM,yl];congr 1;exact rT λc ao=>aQ c ao (ak c ao)
def ad1(h:g' t){j:Nat}(ai:j<t.ns.length):wI t.ns j=(fq t.ns j).post:=by obtain⟨T,be,dI,he,aD⟩:=h.lt ai;rw[EU h ai,he,<-adZ dI aD,<-be,aqG h dI]
structure k'(t:bk)(T:aP):Prop where
 a4:t.ns.map al.a4=T.post
 bC:t.bC=(t.ns.length:Int)-1
def ad2(h:g' t){j:Nat}(ai:j<t.ns.length){bn:bk}(av:qL t j bn):k' bn (fq t.ns j):=⟨by rw[av.a4,ad1 h ai],av.bC⟩
def ad3(ns:List al)(k:Int):fq (ns.map al.a4) k=fq ns k:=by unfold fq mA;rw[Ib (f:=λd g=>(λ(d:al) (xs:List aP)=>aP.mk d.bare xs) d (d.au.map g)) (g:=λd g=>(λ(d:al) (xs:List aP)=>aP.mk d.bare xs) d (d.au.map g)) (λd q=>rfl)]
inductive jd:aP->Prop
 |mk{d:al}{ks:List aP}:d.bare=d->(∀ c∈ks,jd c)->jd (.mk d ks)
def jd.inv{d:al}{ks:List aP}(h:jd (.mk d ks)):d.bare=d/\∀ c∈ks,jd c:=by
 cases h with
 |mk aa ad=>exact⟨aa,ad⟩
def jd.fold:∀ {T:aP},jd T->T.fold (λ(d:al) (xs:List aP)=>aP.mk d.bare xs)=T:=by
 intro T
 induction T using aP.ind with
 |h d ks aQ=>intro h;rw[aP.fold_eq,h.inv.1];congr 1;exact(fV λc ao=>aQ c ao (h.inv.2 c ao)).trans (Ny _)
def ad4(ns:List al):∀ S:aT,jd (S.bare ns):=by
 intro S
 induction S using aT.ind with
 |h k ks aQ=>rw[aT.nt];refine .mk rfl λc ao=>?_;obtain⟨c',zF,rfl⟩:=cP.1 ao;exact aQ c' zF
def ad5(h:g' t){j:Nat}(ai:j<t.ns.length):jd (fq t.ns j):=by obtain⟨T,be,dI,he,-⟩:=h.lt ai;rw[he];exact ad4 _ _
def k'.right{T:aP}(h:k' t T)(be:eZ T):right t=true:=by
 have aa:=adV be;rw[<-h.a4]at aa;have ad:=aa.bC;refine jv.2 ⟨?_,λj ai=>?_,λj ai k ae=>?_,?_,λj ai=>?_⟩
 ·rw[h.bC];have:(0:Int)<=((t.ns.map al.a4).length:Int)-1/\((t.ns.map al.a4).length:Int)-1<((t.ns.map al.a4).length:Int):=ad;rw[bx]at this;exact this
 ·have:=aa.fits j (by show j<(t.ns.map al.a4).length;rw[bx];exact ai);simp only[jK,fW]at this;exact this
 ·refine aa.au j (by show j<(t.ns.map al.a4).length;rw[bx];exact ai) k ?_;simp only[jK,fW];exact ae
 ·have:hQ (eL (t.ns.map al.a4)):=aa.diff;unfold eL at this;rw[yl]at this;exact this
 ·have:=aa.all j (by show j<(t.ns.map al.a4).length;rw[bx];exact ai);have e:eL (jK (t.ns.map al.a4)).ns=eL t.ns:=by show eL (t.ns.map al.a4)=_;unfold eL;rw[yl];rfl
  have a6:(jK (t.ns.map al.a4)).bC=t.bC:=by show(((t.ns.map al.a4).length:Nat):Int)-1=_;rw[bx,h.bC]
  rw[e,a6]at this;exact this
def k'.bI{T:aP}(h:k' t T)(be:eZ T)(ag:jd T):Go.V.bI t=T:=by unfold Go.V.bI;rw[h.bC,<-ad3,h.a4];have:=aqA (z:=aP.mk vH []) (F:=λ(d:al) (xs:List aP)=>aP.mk d.bare xs) (λd l=>rfl) be;rw[ag.fold]at this;unfold A7 at this;rw[<-h.a4]at this |-;rw[bx]at this;exact this
def TY(A:cn)(d z:al)(l:List Nat)(I:aH)(v:Value)(I':aH)(M':List aE):Prop:=(∀ b o,I b=some o->I' b=some o)/\∃ br ds' r,M'=cn.ar ⟨A.b,br,ds'⟩/\cn.ok I' ⟨A.b,br,ds'⟩/\v=.int .i64 r /\ ((jP d A.ds l=[]/\r=(A.ds.length:Int)/\ds'=A.ds++[z])\/(jP d A.ds l=[r]/\ds'=A.ds)\/(2<=(jP d A.ds l).length/\r=(A.ds.length:Int)/\∃ bL gw c',ds'=A.ds++[d.row bL gw c' (jP d A.ds l)]))
def nothing(k:Int):al:=⟨k,0,0,0,0,⟨#[]⟩,0,0,none,0,0,[]⟩
def NH(I:aH){k:Int}(ae:0<=k/\k<256):(nothing k).ok I:=⟨ae,by unfold nothing fm;simp,by unfold nothing fm;simp,by unfold nothing fm;simp,by unfold nothing fm;simp,by show 0<=_;decide,by unfold nothing hz;simp,by unfold nothing hz;simp,⟨rfl,⟨b' _,by simp[nothing]⟩,.inl rfl⟩,λx ab=>by cases ab⟩
def aqH{A:cn}(dI:A.ok I)(aD:A.ds.length<=1099511627776){d:al}(ah:d.ok I)(ax:∀ k∈l,k<A.ds.length)(sR:l.length<=1099511627776)(af:cI I a n c 1 8 ((l.map Int.ofNat).map (.int .i64 ·))) :
  Spec Tryz.prog 223 [ptr A.b,d.val,.slice a n c] I A.ar (TY A d (nothing 0) l I):=by
 refine bV [] aY Tryz.func223 rfl rfl rfl ?_;intro B ay;have c9:=adT (z:=nothing 0) dI aD ah (NH I (by decide)) ax sR af;obtain⟨dK,cx,s1,s2,cY,s,lo,hi,b0,aG,ch,au⟩:=d;refine a8.mk A.ar [] _ (by rw[dF]) c9 ?_;rintro v I' M'-h;obtain⟨kV,br,ds',r,rfl,bg,rfl,h⟩:=h;exact⟨_,_,.sub (by simp) .refl,kV,br,ds',r,rfl,bg,rfl,h⟩
def aqI{A:cn}(dI:A.ok I)(aD:A.ds.length<=1099511627776){d:al}(ah:d.ok I)(ax:∀ k∈l,k<A.ds.length)(sR:l.length<=1099511627776)(af:cI I a n c 1 8 ((l.map Int.ofNat).map (.int .i64 ·))) :
  Spec Tryz.prog 224 [ptr A.b,d.val,.slice a n c] I A.ar (TY A d (nothing 1) l I):=by
 refine bV [] aY Tryz.func224 rfl rfl rfl ?_;intro B ay;have c9:=adT (z:=nothing 1) dI aD ah (NH I (by decide)) ax sR af;obtain⟨dK,cx,s1,s2,cY,s,lo,hi,b0,aG,ch,au⟩:=d;refine a8.mk A.ar [] _ (by rw[dF]) c9 ?_;rintro v I' M'-h;obtain⟨kV,br,ds',r,rfl,bg,rfl,h⟩:=h;exact⟨_,_,.sub (by simp) .refl,kV,br,ds',r,rfl,bg,rfl,h⟩
def qZ(l:List Int)(m:Nat):List (List Value):=(List.range m).reverse.map λi:Nat=>[.int .i64 (i:Int),.int .i64 (l.getD i 0)]
def aqJ(l:List Int)(m:Nat):qZ l (m+1)=[.int .i64 m,.int .i64 (l.getD m 0)]::qZ l m:=by unfold qZ;rw[ED,yj,zP,qG,b5]
def aqK(a:Option Addr)(n c:Nat):Spec Tryz.prog 276 [.slice a n c] I [] λr I' M'=>∃ b,r=.func (.func 298) #[] #[ptr b]/\I' b=some (.cells #[.slice a n c] 38 (0,0))/\(∀ b o,I b=some o->I' b=some o)/\M'=[]:=by refine bV [1] aY Tryz.func276 rfl rfl rfl ?_;intro B ay;refine bW.mk λg aw En=>?_;exact⟨_,_,.mP rfl (by simp) .refl,g,rfl,n8 ..,lz aw,rfl⟩
def aqL{l:List Int}(af:cI I a n c 1 8 (l.map (.int .i64 ·))){b:Nat}(ag:I b=some (.cells #[.slice a n c] 38 (0,0))) :
  Iter Tryz.prog 298 [ptr b] I (qZ l n):=by
 intro y R ls kv dQ M0 oW iT;refine BU [] aY Tryz.func298 rfl rfl rfl ?_;intro B ay;have hA:=af.cap;have sR:l.length=n:=by have aa:=af.len;simpa using aa
 have gL:cI I a n c 1 8 (l.flatMap iI):=by rw[oq];exact af
 have bp:∀ (I1:aH) (M:List aE),(∀ b o,I b=some o->I1 b=some o)->cR I1 M ((⟨b,0,none⟩:Addr).add 0) 1 [.slice a n c]:=λI1 M de=>⟨rfl,_,_,_,.inl (de _ _ ag),rfl,rfl⟩;refine aO.mk _ (bp _ _ oW) ?_;refine bd.mk ((n:Int)-1) (by rw[wrap_i64 (by unfold hz;omega)]) ?_;refine dt.inv (ι:=Nat×Nat×aH×List aE) (λx=>{ bo:=[(0,.val (.func (.yield y) #[] #[])),(1,.val (ptr b)),(3,.val (.int .i64 ((x.1:Int)-1)))],cH:=x.2.2.1,dd:=x.2.2.2 }) (λx=>x.1<=n/\(∀ b o,I b=some o->x.2.2.1 b=some o)/\R x.2.1 x.2.2.1 x.2.2.2/\x.2.1<=(qZ l n).length/\(qZ l n).drop x.2.1=qZ l x.1) (λx=>x.1) ?_ ?_
 ·exact⟨(n,0,dQ,M0),⟨by simp,oW,iT,by simp,rfl⟩,.refl,fG,.nil⟩
 ·rintro⟨m,k,I1,M1⟩⟨hm,de,h',c7,iY⟩;simp only at hm de h' c7 iY;refine aX.mk (λh=>?_) (λh=>?_)
  ·have aZ:(0:Int)<=(m:Int)-1:=cJ h;obtain⟨m,rfl⟩:∃ q,m=q+1:=⟨m-1,by omega⟩;have aI:((m+1:Nat):Int)-1=(m:Int):=by omega
   obtain⟨aM,bB,P8⟩:=(gL.mono de).row (f:=iI) (λ_=>rfl) (j:=m) (by omega) (by omega);rw[aqJ]at iY;obtain⟨ae,aj,sL⟩:=drop_cons iY;refine aO.mk _ (bp _ _ de) ?_;refine bm.mk aM m bB aI (by omega) ?_;refine aO.mk _ (P8 _) ?_;refine bD.yield rfl (by simp) rfl rfl ?_;have aC:=kv k ae I1 M1 de h';rw[aj]at aC;have a6:l.getD m 0=l[m]:=by simp[bS,show m<l.length by omega]
   rw[a6,<-aI]at aC;refine B4.mk M1 [] _ (by simp) aC ?_;rintro v eA dD gq (⟨rfl,m3⟩ | ⟨rfl,ab⟩);·refine aX.mk (λh=>by simp at h) (λ_=>?_);refine bd.mk ((m:Int)-1) (by rw[wrap_i64 (by unfold hz;omega)];omega) ?_;exact⟨(m,k+1,eA,dD),⟨⟨by simp only;omega,λb o h=>gq b o (de b o h),m3,ae,sL⟩,by simp only;omega⟩,.perm (by simp) .refl,fG,.nil⟩
   ·refine aX.mk (λ_=>?_) (λh=>by simp at h);exact⟨_,_,.perm (by simp) .refl,.inr ab⟩
  ·have c0:¬ (0:Int)<=(m:Int)-1:=dv h;obtain rfl:m=0:=by omega
   refine⟨_,_,.refl,.inl ?_⟩;have pQ:k=(qZ l n).length:=by have:(qZ l n).drop k=[]:=iY.trans (by simp[qZ]);have:=Eh.1 this;omega
   rw[<-pQ];exact h'
def Spec.NI{P:Program}{f:Nat}{args:List Value}{p q:Value->aH->List aE->Prop}(h:Spec P f args I M p)(mX:∀ v I' M',p v I' M'->q v I' M'):Spec P f args I M q:=by
 rcases h with⟨aa,ad⟩ | ad
 ·refine .inl ⟨aa,λw hw=>(ad w hw).mono ?_⟩;rintro e w'⟨v,I',M',ak,aK,bz⟩;exact⟨v,I',M',ak,mX _ _ _ aK,bz⟩
 ·refine .inr λw hw=>?_;obtain⟨v,w',I',M',ak,aK,bz⟩:=ad w hw;exact⟨v,w',I',M',ak,mX _ _ _ aK,bz⟩
def za:Nat:=222
def ad6:List Nat:=[za,za,za,za,223,224,za,za,za,za]
def TZ:List Value:=ad6.map λf=>.func (.func f) #[] #[]
def aqM:Spec Tryz.prog 173 [] I [] λv I' M'=>v=.agg TZ.toArray/\I'=I/\M'=[]:=by refine bV [] aY Tryz.func173 rfl rfl rfl ?_;intro B ay;exact⟨_,_,.refl,rfl,rfl,rfl⟩
def xk(d:al)(l:List Nat)(ds ds':List al)(r:Int):Prop:=
 if d.k=4\/d.k=5 then
  (jP d ds l=[]/\r=(ds.length:Int)/\ds'=ds++[nothing (d.k-4)])\/(jP d ds l=[r]/\ds'=ds)\/(2<=(jP d ds l).length/\r=(ds.length:Int)/\∃ bL gw c',ds'=ds++[d.row bL gw c' (jP d ds l)])
 else r=(ds.length:Int)/\∃ bL gw c',ds'=ds++[d.row bL gw c' (l.map Int.ofNat)]
def T0(A:cn)(d:al)(l:List Nat)(I:aH)(v:Value)(I':aH)(M':List aE):Prop:=(∀ b o,I b=some o->I' b=some o)/\∃ br ds' r,M'=cn.ar ⟨A.b,br,ds'⟩/\cn.ok I' ⟨A.b,br,ds'⟩/\v=.int .i64 r/\xk d l A.ds ds' r
def aqN{A:cn}(dI:A.ok I)(aD:A.ds.length<=1099511627776){d:al}(ah:d.ok I)(ax:∀ k∈l,k<A.ds.length)(sR:l.length<=1099511627776)(af:cI I a n c 1 8 ((l.map Int.ofNat).map (.int .i64 ·)))(j:Nat)(ai:j<10)(ae:d.k=j) :
  Spec Tryz.prog (ad6.getD j 0) [ptr A.b,d.val,.slice a n c] I A.ar (T0 A d l I):=by
 have aqO:∀ x∈l.map Int.ofNat,hz x:=λx ab=>by obtain⟨k,ae,rfl⟩:=cP.1 ab;have:=ax k ae;unfold hz;simp only[Cc];omega
 have nE:¬ (d.k=4\/d.k=5)->Spec Tryz.prog za [ptr A.b,d.val,.slice a n c] I A.ar (T0 A d l I):=λbt=>by refine Spec.NI (adS dI aD ah af aqO) ?_;rintro v I' M'⟨rfl,rfl,os,rfl,bg⟩;refine⟨λ_ _ h=>h,os,_,_,rfl,bg,rfl,?_⟩;unfold xk;rw[bN bt];exact⟨rfl,_,_,_,rfl⟩
 have ad7:∀ {k:Int},d.k=k+4->(k=0\/k=1)->∀ {f:Nat},Spec Tryz.prog f [ptr A.b,d.val,.slice a n c] I A.ar (TY A d (nothing k) l I)->Spec Tryz.prog f [ptr A.b,d.val,.slice a n c] I A.ar (T0 A d l I):=fun {k} ae hR {f} h=>by refine Spec.NI h ?_;rintro v I' M'⟨kV,os,ds',r,rfl,bg,rfl,h⟩;refine⟨kV,os,ds',r,rfl,bg,rfl,?_⟩;unfold xk;rw[bT (by omega),show d.k-4=k by omega];exact h
 match j,ai with
 |0,_=>exact nE (by omega)| 1,_=>exact nE (by omega)| 2,_=>exact nE (by omega)| 3,_=>exact nE (by omega)| 4,_=>exact ad7 (by omega) (.inl rfl) (aqH dI aD ah ax sR af)| 5,_=>exact ad7 (by omega) (.inr rfl) (aqI dI aD ah ax sR af)| 6,_=>exact nE (by omega)| 7,_=>exact nE (by omega)| 8,_=>exact nE (by omega)| 9,_=>exact nE (by omega)
def e3(l:List aT):List Int:=l.map λS=>(S.bs:Int)
def F6(a b:List aT):e3 (a++b)=e3 a++e3 b:=cM
def aqP{ns:List al}(h:iJ (nodeAt ns T.bs)=none):T.parts ns=T.sub:=by
 unfold aT.parts;rw[h];have:∀ c:aT,aT.pi ns none c=[c]:=λc=>by
  cases c with
  |mk k ks=>rw[aT.y8,bN (by simp)]
 refine(rT λc _=>this c).trans ?_;simp
def cD.Ba{ns:List al}:∀ {T:aT},cD ns T->(nodeAt ns T.bs).au=e3 T.sub
 | .mk k ks,h=>h.inv.2.1
def cD.Bb{ns:List al}:∀ {T:aT},cD ns T->∀ c∈T.sub,cD ns c
 | .mk k ks,h=>h.inv.2.2
def hF(l:List aT):Nat:=(l.map λS=>S.c2.length).sum
def Bc(a b:List aT):hF (a++b)=hF a+hF b:=by unfold hF;rw[cM,oT]
def F7:∀ T:aT,T.c2.length=hF T.sub+1
 | .mk k ks=>by rw[aT.mL,cr,yi];rfl
def ad8(a:List aT):hF a.reverse=hF a:=by unfold hF;rw[TW,List.sum_reverse]
def Bd:∀ l:List aT,l.length<=hF l
 |[]=>dp _| c::l=>by have:=Bd l;have ad:=F7 c;show l.length+1<=c.c2.length+hF l;omega
structure aqQ(I:aH)(A:cn)(cd:Option Int)(aqR:List aT)(sz:Nat)(lo di:aR)(hf a0:List aT)(J:aH):Prop where
 a5:∀ b o,I b=some o->J b=some o
 lo:lo.ok 1 ((e3 hf).map (.int .i64 ·))
 di:di.ok 1 ((e3 a0).map (.int .i64 ·))
 bF:∀ S∈a0,cD A.ds S
 same:hf++a0.reverse.flatMap (aT.pi A.ds cd)=aqR
 sz:hf.length+hF a0<=sz
def JO(l:List Int)(n:Nat):(qZ l n).length=n:=by simp[qZ]
def aqS(l:List Int)(h:k<(qZ l n).length)(ae:n-1-k<l.length):(qZ l n)[k]=[.int .i64 ((n-1-k:Nat):Int),.int .i64 l[n-1-k]]:=by simp only[qZ,fW,List.getElem_reverse,wE,wR];rw[bS,dg ae];rfl
def aqT{A:cn}(dI:A.ok I)(aD:A.ds.length<=1099511627776)(be:cD A.ds T)(dn:T.c2.length<=1099511627776) :
  Spec Tryz.prog 225 [ptr A.b,.int .i64 T.bs] I A.ar λv I' M'=>(∀ b o,I b=some o->I' b=some o)/\M'=A.ar/\∃ a n c,v=.slice a n c/\cI I' a n c 1 8 ((e3 (T.parts A.ds)).map (.int .i64 ·)):=by
 refine xQ [7] aY Tryz.func225 rfl rfl rfl ?_;intro B ay;have c7:=be.nr;have ad9:=dI.n;obtain⟨aM,bB,bp⟩:=aR.ok.row (I:=I) (M:=A.ar) al.cL (by decide) dI.os (e:=82) (λx ab=>by simp[cn.ar,ab]) (j:=T.bs) c7;have h5:=dI.ds _ (bJ c7);have mJ:=gr c7;have rF:=be.Ba;generalize fl:A.ds[T.bs]=d at bp h5 mJ;rw[mJ]at rF;obtain⟨dK,cx,s1,s2,cY,s,lo,hi,b0,aG,ch,au⟩:=d;refine aO.mk [A.os.val] (dr (cs:=[A.os.val]) (k:=0) (n:=1) (T:=216) (by simp[cn.ar,cn.ah]) (by simp)) ?_;refine bm.mk aM T.bs bB rfl (by omega) ?_;refine aO.mk _ bp ?_;refine bX.mk (λaK=>?_) (λaK=>?_)
 case' refine_1=>
  have aqU:dK≠4:=by simpa using aK
  refine aX.mk (λbz=>?_) (λbz=>?_)
  case' refine_1=>
   have aqV:dK≠5:=by simpa using bz
   intro _;refine⟨_,_,.refl,λ_ _ h=>h,rfl,b0,aG,ch,rfl,?_⟩;rw[aqP (by rw[mJ];unfold iJ;rw[bN];simp[aqU,aqV]),<-rF];exact h5.a'
  have gA:dK=4\/dK=5:=.inr (by simpa using bz)
 case' refine_2=>have gA:dK=4\/dK=5:=.inl (by simpa using aK)
 all_goals
  have vI:iJ (nodeAt A.ds T.bs)=some dK:=by rw[mJ];unfold iJ;rw[bT gA]
  have vB:T.parts A.ds=T.sub.flatMap (aT.pi A.ds (some dK)):=by unfold aT.parts;rw[vI]
  refine bW.mk λb1 jF T1=>?_;refine bW.mk λb7 Ia awC=>?_;refine ck.mk [] (⟨b1,_⟩::A.ar) _ _ rfl rfl (bK rfl) rfl ?_;clear bB bp;refine dt.uJ (ι:=aR×aR×List aT×List aT×aH) (λx=>{ bo:=[(0,.val (ptr A.b)),(5,.ref 5 0),(6,.val x.1.val),(7,.val (ptr b7))],cl:=[(5,al.cells ⟨dK,cx,s1,s2,cY,s,lo,hi,b0,aG,ch,au⟩)],cH:=x.2.2.2.2,dd:=⟨b7,.cells #[x.2.1.val] 38 (0,0)⟩::(x.2.1.ar 3++(x.1.ar 3++A.ar)) }) (λx=>aqQ I A (some dK) (T.parts A.ds) T.c2.length x.1 x.2.1 x.2.2.1 x.2.2.2.1 x.2.2.2.2) (λx=>hF x.2.2.2.1) ?_ ?_
  ·intro _;refine⟨(⟨none,0,0,[]⟩,⟨some b1,1,1,[.int .i64 T.bs]⟩,[],[T],I),⟨λ_ _ h=>h,⟨rfl,(λ_=>⟨rfl,rfl⟩),λg h=>by cases h⟩,⟨rfl,(λh=>by cases h),λeg jU=>⟨rfl,b' _,by simp[maxLen],rfl⟩⟩,λS cc=>?_,?_,?_⟩,.refl,ee,.cons rfl (.nil)⟩
   ·rw[eN.1 cc];exact be
   ·rw[hX,zP,nQ,vB];cases T with
    |mk k ks=>
    rw[aT.y8,bT (by rw[show nodeAt A.ds k=_ from mJ])];rfl
   ·simp[hF]
  rintro⟨lo,di,hf,a0,J⟩⟨a5,e6,nk,e5,s4,aea⟩;simp only at a5 e6 nk e5 s4 aea;have nD:=e6.pW;have vC:=nk.pW;have gG:=Bd a0;simp only[e3,bx]at nD vC;refine aO.mk [di.val] (dr (cs:=[di.val]) (k:=0) (n:=1) (T:=38) (.head _) (by simp)) ?_;refine aX.mk (λh=>?_) (λh=>?_)
  ·have acU:0<di.n:=by have:(0:Int)<(di.n:Int):=cJ h;omega
   obtain⟨f',S,rfl⟩:∃ r p,a0=r++[p]:=by
    rcases zR a0 with aa | ⟨r,p,aa⟩;·subst aa;simp at vC;omega
    ·exact⟨r,p,by simpa using aa⟩
   have cc:=e5 S (by simp);have qc:=cc.nr;have T2:=F7 S;have u':hF [S]=S.c2.length:=by simp[hF]
   have aqW:=Bd S.sub;rw[Bc,u',T2]at aea gG;have ic:di.n=f'.length+1:=by have dR:=vC;simp only[cr,od]at dR;omega
   rw[yj,zP,qG,iS]at s4;obtain⟨aM,bB,bp⟩:=aR.CB (I:=J) (e:=3) (M:=⟨b7,.cells #[di.val] 38 (0,0)⟩::(di.ar 3++(lo.ar 3++A.ar))) nk (λx ab=>by simp[ab]) (j:=f'.length) (by simp[e3]);have zb:(e3 (f'++[S]))[f'.length]'(by simp[e3])=(S.bs:Int):=by simp[e3]
   rw[zb]at bp;have ou:=nk;rw[F6,cM]at ou;have ou:aR.ok ⟨di.a,di.n-1,di.c,di.aS⟩ 1 ((e3 f').map (.int .i64 ·)):=aR.pop ou;have he:di.n-1=f'.length:=by omega
   rw[he]at ou;have Js:f'.length<=di.c:=by
    cases A1:di.a with
    |none=>have:=(nk.nil A1).1;omega| some Jt=>have:=(nk.cap Jt A1).2.1;omega
   refine aO.mk [di.val] (dr (cs:=[di.val]) (k:=0) (n:=1) (T:=38) (.head _) (by simp)) ?_;refine aO.mk [di.val] (dr (cs:=[di.val]) (k:=0) (n:=1) (T:=38) (.head _) (by simp)) ?_;refine bd.mk ((f'.length:Nat):Int) (by show IntKind.i64.wrap ((di.n:Int)-1)=_;rw[wrap_i64 ⟨by omega,by omega⟩];omega) ?_;refine bm.mk aM f'.length bB rfl (show f'.length<di.n by omega) ?_;refine aO.mk _ bp ?_;refine aO.mk [di.val] (dr (cs:=[di.val]) (k:=0) (n:=1) (T:=38) (.head _) (by simp)) ?_;refine aO.mk [di.val] (dr (cs:=[di.val]) (k:=0) (n:=1) (T:=38) (.head _) (by simp)) ?_;refine bd.mk ((f'.length:Nat):Int) (by show IntKind.i64.wrap ((di.n:Int)-1)=_;rw[wrap_i64 ⟨by omega,by omega⟩];omega) ?_;refine jR.mk 0 f'.length rfl rfl (dp _) Js ?_;refine ck.mk [] (di.ar 3++(lo.ar 3++A.ar)) #[di.val] 38 rfl rfl (bK rfl) rfl ?_;have aeb:=dI.mono a5;obtain⟨Be,zc,vJ⟩:=aR.ok.row (I:=J) (M:=⟨b7,.cells #[(⟨di.a,f'.length,di.c,di.aS⟩:aR).val] 38 (0,0)⟩::(di.ar 3++(lo.ar 3++A.ar))) al.cL (by decide) aeb.os (e:=82) (λx ab=>by simp[cn.ar,ab]) (j:=S.bs) qc;have NJ:=gr qc;have NK:=aeb.ds _ (bJ qc);have NL:=cc.Ba;rw[NJ]at NL;generalize aec:A.ds[S.bs]=r8 at vJ NJ NK NL;refine cT.draw aY rfl rfl rfl ?_;refine aO.mk [A.os.val] (dr (cs:=[A.os.val]) (k:=0) (n:=1) (T:=216) (by simp[cn.ar,cn.ah]) (by simp)) ?_;refine bm.mk Be S.bs zc rfl (by omega) ?_;refine aO.mk _ (cR.part (k:=0) (m:=1) vJ (by decide)) ?_;refine aX.mk (λcu=>?_) (λcu=>?_)
   ·have bt:r8.k≠dK:=by simpa using cu
    have T3:aT.pi A.ds (some dK) S=[S]:=by
     cases S with
     |mk k ks=>
     rw[aT.y8,bN];intro e;rw[show nodeAt A.ds k=r8 from NJ]at e;exact bt (eX e)
    rw[T3,qG]at s4;refine bW.mk λb9 m8 uk=>?_;refine bD.k5 aY rfl (by simp) (e:=3) rfl rfl rfl lo e6 rfl (cs:=[.int .i64 S.bs]) rfl rfl rfl (⟨b7,.cells #[(⟨di.a,f'.length,di.c,di.aS⟩:aR).val] 38 (0,0)⟩::di.ar 3) A.ar rfl (by omega) (by show(lo.n+1)*8<=_;omega) ?_;intro R3 aa ad ak;intro _;refine⟨(R3,⟨di.a,f'.length,di.c,di.aS⟩,hf++[S],f',J),⟨⟨a5,?_,ou,λx ab=>e5 x (by simp[ab]),?_,?_⟩,?_⟩,.refl,ee,.cons rfl (.nil)⟩;·rw[F6,cM];exact ak
    ·rw[dW,qG];exact s4
    ·show(hf++[S]).length+hF f'<=T.c2.length;rw[cr,od];omega
    ·show hF f'<hF (f'++[S]);rw[Bc,u'];omega
   ·have he:r8.k=dK:=by simpa using cu
    have T3:aT.pi A.ds (some dK) S=S.sub.flatMap (aT.pi A.ds (some dK)):=by
     cases S with
     |mk k ks=>
     rw[aT.y8,bT];·rfl
     ·rw[show nodeAt A.ds k=r8 from NJ,he]
    have fj:=NK.aG;have pY:=NK.a'.cap;have NM:r8.au.length=S.sub.length:=by rw[NL];simp[e3]
    refine aO.mk [A.os.val] (dr (cs:=[A.os.val]) (k:=0) (n:=1) (T:=216) (by simp[cn.ar,cn.ah]) (by simp)) ?_;refine bm.mk Be S.bs zc rfl (by omega) ?_;refine aO.mk _ (cR.part (k:=8) (m:=1) vJ (by decide)) ?_;refine a8.mk [] _ _ (.refl _) (aqK r8.b0 r8.aG r8.ch) ?_;rintro v iz M1 -⟨c5,rfl,yn,hq,rfl⟩;have aqX:∀ b o,I b=some o->iz b=some o:=λb o h=>hq _ _ (a5 _ _ h);refine cT.range aY rfl rfl rfl .refl (aqL (NK.a'.mono hq) yn) (λvs h=>?_) (λk I' M'=>∃ eC:aR,(∀ b o,iz b=some o->I' b=some o)/\eC.ok 1 ((e3 (f'++S.sub.reverse.take k)).map (.int .i64 ·))/\M'=⟨b7,.cells #[eC.val] 38 (0,0)⟩::(eC.ar 3++(lo.ar 3++A.ar))) (λex I' M'=>False) ⟨⟨di.a,f'.length,di.c,di.aS⟩,λ_ _ h=>h,by simpa using ou,rfl⟩ ?_ ?_ (λex I' M' _ h=>h.elim);·obtain⟨p,_,rfl⟩:=cP.1 h;rfl
    ·rintro k ae I' M' -⟨eC,kV,ig,rfl⟩l B ay hg;have e1:k<S.sub.length:=by rw[JO]at ae;omega
     have aj:=aqS r8.au ae (by rw[JO]at ae;omega);have e0:r8.au[r8.aG-1-k]'(by rw[JO]at ae;omega)=((S.sub.reverse[k]'(by rw[Dg];exact e1)).bs:Int):=by
      have aa:r8.au[r8.aG-1-k]?=(e3 S.sub)[r8.aG-1-k]?:=by rw[NL]
      rw[dg (by rw[JO]at ae;omega)]at aa;unfold e3 at aa;rw[iB,dg (by omega)]at aa;rw[eX aa,List.getElem_reverse];congr 3;omega
     rw[e0]at aj;rw[aj];have aqY:=ig.pW;simp only[e3,bx,cr,fO,Dg]at aqY;refine aO.mk [eC.val] (dr (cs:=[eC.val]) (k:=0) (n:=1) (T:=38) (.head _) (by simp)) ?_;refine bW.mk λb9 m8 uk=>?_;refine bD.k5 aY rfl (by simp) (e:=3) rfl rfl rfl eC ig rfl (cs:=[.int .i64 (S.sub.reverse[k]'(by rw[Dg];exact e1)).bs]) rfl rfl rfl [_] (lo.ar 3++A.ar) rfl (by omega) (by show(eC.n+1)*8<=_;omega) ?_;intro dL aa ad ak;refine ck.mk [] (dL.ar 3++(lo.ar 3++A.ar)) #[eC.val] 38 rfl rfl (bK rfl) rfl ?_;refine⟨_,_,.refl,dL,kV,?_,rfl⟩;rw[gj (by rw[Dg];exact e1),<-dW,F6,cM];exact ak
    ·rintro I' M' -⟨eC,kV,ig,rfl⟩;rw[JO,fC (by rw[Dg];omega)]at ig;intro _;refine⟨(lo,eC,hf,f'++S.sub.reverse,I'),⟨⟨λb o h=>kV _ _ (aqX _ _ h),e6,ig,λx ab=>?_,?_,?_⟩,?_⟩,.refl,ee,.cons rfl (.nil)⟩
     ·rcases cv.1 ab with ab | ab
      ·exact e5 x (by simp[ab])
      ·exact cc.Bb x (S9.1 ab)
     ·rw[yj,Sb,fI,<-T3];exact s4
     ·show hf.length+hF (f'++S.sub.reverse)<=T.c2.length;rw[Bc,ad8];omega
     ·show hF (f'++S.sub.reverse)<hF (f'++[S]);rw[Bc,Bc,ad8,u'];omega
  ·have ay:di.n=0:=by have:¬ (0:Int)<(di.n:Int):=dv h;omega
   obtain rfl:a0=[]:=jl (by omega);intro eF;have eF:mm J (⟨b7,.cells #[di.val] 38 (0,0)⟩::(di.ar 3++(lo.ar 3++A.ar))):=eF;have Fv:hf=T.parts A.ds:=by simpa using s4
   subst Fv;have mf:(⟨b7,.cells #[di.val] 38 (0,0)⟩::(di.ar 3++(lo.ar 3++A.ar)):List aE).Perm (lo.ar 3++(A.ar++([⟨b7,.cells #[di.val] 38 (0,0)⟩]++di.ar 3))):=by have:=eU (l₁:=([⟨b7,.cells #[di.val] 38 (0,0)⟩]++di.ar 3:List aE)) (l₂:=lo.ar 3++A.ar);simpa using this
   have aw:∀ g,lo.a=some g->J g=none/\g ∉ A.ar.map (·.num):=λg aw=>by
    have ag:lo.ar 3=[⟨g,.cells lo.aS.toArray 3 (0,0)⟩]:=by unfold aR.ar;rw[aw]
    have bU:=(mf.map (·.num)).nodup_iff.1 eF.b3;rw[ag]at bU;refine⟨eF.d ⟨g,.cells lo.aS.toArray 3 (0,0)⟩ (by simp[ag]),λhm=>?_⟩;rw[cM]at bU;simp only[b5,hy,qG,lf,cM]at bU;exact bU.1 (iR _ hm)
   obtain⟨eA,hw,gq,dB,-⟩:=aR.Ai (b:=8) (e:=3) e6 (by omega) aw (A.ar++([⟨b7,.cells #[di.val] 38 (0,0)⟩]++di.ar 3));exact⟨eA,A.ar,.perm mf (hw _ _ (.sub (xd _ _) .refl)),λb o h=>gq _ _ (a5 _ _ h),rfl,_,_,_,rfl,dB⟩
def zd(l:List Nat):List Int:=l.map λx:Nat=>(x:Int)
structure NN(I:aH)(A:cn)(T:aT)(lo di:aR)(hf:List Nat)(a0:List aT)(os:aR)(ds:List al)(J:aH):Prop where
 a5:∀ b o,I b=some o->J b=some o
 ok:cn.ok J ⟨A.b,os,ds⟩
 lo:lo.ok 1 ((zd hf).map (.int .i64 ·))
 di:di.ok 1 ((e3 a0).map (.int .i64 ·))
 bF:∀ S∈a0,cD A.ds S
 b3:(hf++a0.flatMap aT.c2).Nodup
 len:ds.length=A.ds.length
 a:os.a=A.os.a
 same:∀ w,w ∉ hf->nodeAt ds w=nodeAt A.ds w
 done:∀ w∈hf,∃ S a n c,cD A.ds S/\S.bs=w/\nodeAt ds w=(nodeAt A.ds w).row a n c (e3 (S.parts A.ds))
 out:hf++a0.reverse.flatMap (λS=>(S.bu A.ds).c2.reverse)=(T.bu A.ds).c2.reverse
def NN.lt{A:cn}{lo di:aR}{hf:List Nat}{a0:List aT}{ds:List al}(h:NN I A T lo di hf a0 os ds J):hf.length+hF a0<=A.ds.length:=by
 have aa:=Nw (n:=A.ds.length) h.b3 λx ab=>by
  rcases cv.1 ab with ab | ab;·obtain⟨S,-,-,-,cc,rfl,-⟩:=h.done x ab;exact cc.nr
  ·obtain⟨S,cc,ab⟩:=hl.1 ab;exact(h.bF S cc).lt x ab
 rw[cr,yi]at aa;exact aa
def mm.F8{e:Nat}{foot:List Nat}(eF:mm J M)(aJ:M.Perm (os.ar e++Mr))(aB:∀ x∈foot,x∈Mr.map (·.num)):∀ g,os.a=some g->J g=none/\g ∉ foot:=λg aw=>by
 have ag:os.ar e=[⟨g,.cells os.aS.toArray e (0,0)⟩]:=by unfold aR.ar;rw[aw]
 have bU:=(aJ.map (·.num)).nodup_iff.1 eF.b3;refine⟨eF.d ⟨g,.cells os.aS.toArray e (0,0)⟩ (aJ.mem_iff.2 (by rw[ag];exact .head _)),λhm=>?_⟩;rw[ag,cM]at bU;simp only[b5,hy,qG,lf]at bU;exact bU.1 (aB g hm)
def aqZ{br:aR}(h:os.val=br.val):os.a.map (λg=>(⟨g,0,none⟩:Addr))=br.a.map (λg=>(⟨g,0,none⟩:Addr)):=by unfold aR.val at h;injection h
structure aed(d:al)(ey:List Int)(y:Nat×aR×List Int):Prop where
 k:y.1<=d.aG
 ok:y.2.1.ok 1 (y.2.2.map (.int .i64 ·))
 eq:y.2.2=(d.au.take y.1).map (λk=>ey.getD k.toNat 0)
def aq0{ns:List al}(h:∀ w,(nodeAt ec w).k=(nodeAt ns w).k)(cd:Option Int):∀ S:aT,S.pi ec cd=S.pi ns cd:=by
 intro S
 induction S using aT.ind with
 |h k ks aQ=>
  rw[aT.y8,aT.y8,h k];split;·exact rT λc ao=>aQ c ao
  ·rfl
def aq1{d e:al}(h:d.k=e.k):iJ d=iJ e:=by unfold iJ;rw[h]
def aq2{ns:List al}(h:∀ w,(nodeAt ec w).k=(nodeAt ns w).k)(S:aT):S.parts ec=S.parts ns:=by unfold aT.parts;rw[aq1 (h S.bs)];exact rT λc ao=>aq0 h _ c
def al.aq3(d:al)(a:Option Addr)(n c:Nat)(ks:List Int):cj d.cells 8 [.slice a n c]=(d.row a n c ks).cells:=rfl
def aq4{ns:List al}:∀ {T:aT},cD ns T->pZ ns T.hr:=by
 intro T
 induction T using aT.ind with
 |h k ks aQ=>
  intro h;obtain⟨aa,ad,ak⟩:=h.inv;have aB:pZ ns (ks.flatMap aT.hr):=by
   have:∀ l:List aT,(∀ c∈l,pZ ns c.hr)->pZ ns (l.flatMap aT.hr):=λl=>by
    induction l with
    |nil=>intro _ i h;simp at h| cons c l T4=>intro ax;rw[iS];exact(ax c (.head _)).append (T4 λx ab=>ax x (.tail _ ab))
   exact this ks λc ao=>aQ c ao (ak c ao)
  rw[aT.JM];intro i hi x ab;by_cases e:i<(ks.flatMap aT.hr).length;·rw[yh e]at ab;rw[BV (by omega)];exact aB i e x ab
  ·rw[cr,od]at hi;have aF:i=(ks.flatMap aT.hr).length:=by omega
   subst aF;rw[Cs (b' _)]at ab;simp only[mC,List.getElem_singleton,hH]at ab;rw[we];rw[ad]at ab;obtain⟨c,ao,rfl⟩:=cP.1 ab;exact hl.2 ⟨c,ao,cP.2 ⟨c.bs,c.F3,rfl⟩⟩
def aq5{ns:List al}:∀ {T:aT},cD ns T->∀ x∈T.c2,∀ q∈(nodeAt ns x).au,0<=q/\q<ns.length:=by
 intro T
 induction T using aT.ind with
 |h k ks aQ=>
  intro h x ab q aL;obtain⟨aa,ad,ak⟩:=h.inv;rw[aT.mL]at ab;rcases cv.1 ab with ab | ab;·obtain⟨c,ao,ab⟩:=hl.1 ab;exact aQ c ao (ak c ao) x ab q aL
  ·rw[eN.1 ab,ad]at aL;obtain⟨c,ao,rfl⟩:=cP.1 aL;have:=(ak c ao).nr;omega
def aT.aq6(ns:List al)(S:aT):((S.parts ns).flatMap aT.c2).Sublist (S.sub.flatMap aT.c2):=by unfold aT.parts;rw[Dn];exact F5 λc ao=>aT.aqc ns _ c
def aq7{ds:List al}{j:Nat}(ai:j<ds.length)(x:al)(w:Nat):nodeAt (ds.set j x) w=if w=j then x else nodeAt ds w:=by
 unfold nodeAt;rw[bS,bS,iW];by_cases e:w=j
 ·subst e;rw[bT rfl,bT ai,bT rfl];rfl
 ·rw[bN (λh=>e h.symm),bN e]
def aq8(ns:List al)(S:aT):(S.bu ns).c2.reverse=S.bs::(S.parts ns).reverse.flatMap λc=>(c.bu ns).c2.reverse:=by
 have h:=aT.adH ns S;have ax:=aT.adG ns S;generalize S.bu ns=O at h ax;cases O with
 |mk k ks=>
 obtain rfl:k=S.bs:=ax;rw[aT.mL,show ks=_ from h,yj,zP,qG,List.reverse_flatMap,<-TW,yl];rfl
def aq9{A:cn}(dI:A.ok I)(aD:A.ds.length<=1099511627776)(ae:r6 A.ds)(ah:hQ (eL A.ds))(be:cD A.ds T) :
  Spec Tryz.prog 174 [ptr A.b,.int .i64 T.bs] I A.ar λv I' M'=>(∀ b o,I b=some o->I' b=some o)/\M'=[]/\∃ bn:bk,v=bn.val/\bn.ok I'/\k' bn (T.bare A.ds).bu:=by
 refine xQ [] aY Tryz.func174 rfl rfl rfl ?_;intro B ay;refine bW.mk λb1 jF T1=>?_;refine dt.inv (ι:=aR×aR×List Nat×List aT×aR×List al×aH) (λx=>{ bo:=[(0,.val (ptr A.b)),(4,.ref 4 0),(5,.val x.1.val),(6,.val x.2.1.val)],cl:=[(4,[.slice none 0 0,.int .i64 0])],cH:=x.2.2.2.2.2.2,dd:=x.2.1.ar 3++(x.1.ar 3++cn.ar ⟨A.b,x.2.2.2.2.1,x.2.2.2.2.2.1⟩) }) (λx=>NN I A T x.1 x.2.1 x.2.2.1 x.2.2.2.1 x.2.2.2.2.1 x.2.2.2.2.2.1 x.2.2.2.2.2.2) (λx=>hF x.2.2.2.1) ?_ ?_
 ·refine⟨(⟨none,0,0,[]⟩,⟨some b1,1,1,[.int .i64 T.bs]⟩,[],[T],A.os,A.ds,I),⟨λ_ _ h=>h,dI,⟨rfl,(λ_=>⟨rfl,rfl⟩),λg h=>by cases h⟩,⟨rfl,(λh=>by cases h),λeg jU=>⟨rfl,b' _,by simp[maxLen],rfl⟩⟩,λS cc=>?_,?_,rfl,rfl,λw _=>rfl,(λw hw=>by cases hw),?_⟩,.refl,ee,.cons rfl (.nil)⟩
  ·rw[eN.1 cc];exact be
  ·rw[hX,nQ];exact be.nodup ae ah
  ·rw[hX,zP,nQ]
 rintro⟨lo,di,hf,a0,os,ds,J⟩bA;have bA:NN I A T lo di hf a0 os ds J:=bA;have aZ:=bA.lt;obtain⟨a5,bg,e6,nk,e5,bU,cS,aee,s4,FD,r4⟩:=bA;have nD:=e6.pW;have vC:=nk.pW;have gG:=Bd a0;simp only[e3,zd,bx]at nD vC;refine aX.mk (λh=>?_) (λh=>?_)
 ·have acU:0<di.n:=by have:(0:Int)<(di.n:Int):=cJ h;omega
  obtain⟨f',S,rfl⟩:∃ r p,a0=r++[p]:=by
   rcases zR a0 with aa | ⟨r,p,aa⟩;·subst aa;simp at vC;omega
   ·exact⟨r,p,by simpa using aa⟩
  have cc:=e5 S (by simp);have qc:=cc.nr;have T2:=F7 S;have u':hF [S]=S.c2.length:=by simp[hF]
  have aqW:=Bd S.sub;rw[Bc,u',T2]at aZ gG;have ic:di.n=f'.length+1:=by have dR:=vC;simp only[cr,od]at dR;omega
  have T5:∀ w∈S.c2,w ∉ hf:=λw hw NO=>by have:=(sh.1 bU).2.2 w NO w (by rw[fI,nQ];exact rj _ hw);exact this rfl
  have aec:cD ds S:=cc.congr λw hw=>⟨by rw[cS];exact cc.lt w hw,by rw[s4 w (T5 w hw)]⟩;have e0:∀ w,(nodeAt ds w).k=(nodeAt A.ds w).k:=λw=>by
   by_cases hw:w∈hf;·obtain⟨k8,a,n,c,-,-,e⟩:=FD w hw;rw[e];rfl
   ·rw[s4 w hw]
  have SM:S.parts ds=S.parts A.ds:=aq2 e0 S;obtain⟨aM,bB,bp⟩:=aR.CB (I:=J) (e:=3) (M:=di.ar 3++(lo.ar 3++cn.ar ⟨A.b,os,ds⟩)) nk (λx ab=>by simp[ab]) (j:=f'.length) (by simp[e3]);have zb:(e3 (f'++[S]))[f'.length]'(by simp[e3])=(S.bs:Int):=by simp[e3]
  rw[zb]at bp;have ou:=nk;rw[F6,cM]at ou;have ou:aR.ok ⟨di.a,di.n-1,di.c,di.aS⟩ 1 ((e3 f').map (.int .i64 ·)):=aR.pop ou;have he:di.n-1=f'.length:=by omega
  rw[he]at ou;have Js:f'.length<=di.c:=by
   cases A1:di.a with
   |none=>have:=(nk.nil A1).1;omega| some Jt=>have:=(nk.cap Jt A1).2.1;omega
  refine bd.mk ((f'.length:Nat):Int) (by show IntKind.i64.wrap ((di.n:Int)-1)=_;rw[wrap_i64 ⟨by omega,by omega⟩];omega) ?_;refine bm.mk aM f'.length bB rfl (show f'.length<di.n by omega) ?_;refine aO.mk _ bp ?_;refine cT.draw aY rfl rfl rfl ?_;refine aO.mk [os.val] (dr (cs:=[os.val]) (k:=0) (n:=1) (T:=216) (by simp[cn.ar,cn.ah]) (by simp)) ?_;refine eJ.oJ (cn.ar ⟨A.b,os,ds⟩) (di.ar 3++(lo.ar 3++[])) _ ?_ (aqT (A:=⟨A.b,os,ds⟩) bg (by simp only;omega) aec (by omega)) ?_ ?_;·have:=eU (l₁:=(di.ar 3++lo.ar 3)) (l₂:=cn.ar ⟨A.b,os,ds⟩);simpa using this
  ·rintro v I' M'⟨-,rfl,-⟩x ab;exact ab
  rintro v iz M1 -⟨hq,rfl,a,n,c,rfl,dB⟩;simp only at dB;rw[SM]at dB;have z':S.bs<ds.length:=by omega
  have x3:=bg.mono hq;obtain⟨Be,zc,vJ⟩:=aR.ok.row (I:=iz) (M:=cn.ar ⟨A.b,os,ds⟩++(di.ar 3++(lo.ar 3++[]))) al.cL (by decide) x3.os (e:=82) (λx ab=>by simp[cn.ar,ab]) (j:=S.bs) z';refine bm.mk Be S.bs zc rfl (by have:=x3.n;simp only at this |-;omega) ?_;refine aR.Fk al.cells 9 al.cL (e:=82) x3.os z' 8 (vs:=[.slice a n c]) (bK rfl) rfl (ds[S.bs].row a n c (e3 (S.parts A.ds))) (al.aq3 _ _ _ _ _) [⟨A.b,.cells #[os.val] 216 (0,0)⟩] (di.ar 3++(lo.ar 3++[])) rfl zc ?_;intro ix lU nn jy T6;obtain⟨Bf,NP⟩:∃ Bf,ds.set S.bs (ds[S.bs].row a n c (e3 (S.parts A.ds)))=Bf:=⟨_,rfl⟩;rw[NP]at T6;have r0:Bf.length=ds.length:=by rw[<-NP,rO]
  have T7:∀ w,nodeAt Bf w=if w=S.bs then(nodeAt A.ds S.bs).row a n c (e3 (S.parts A.ds))else nodeAt ds w:=λw=>by rw[<-NP,aq7 z',<-gr z',s4 _ (T5 _ S.F3)]
  have jX:=S.aq6 A.ds;have awD:hF (S.parts A.ds)<=hF S.sub:=by have:=jX.length_le;rw[yi,yi]at this;exact this
  have rI:=Bd (S.parts A.ds);have oL:n=(S.parts A.ds).length:=by have:=dB.len;simp only[e3,bx]at this;omega
  have Hg:(ds[S.bs].row a n c (e3 (S.parts A.ds))).ok iz:=by
   have aa:=(x3.ds _ (bJ z')).row dB λx ab=>by obtain⟨c',zF,rfl⟩:=cP.1 ab;have:=(aT.adI A.ds cc c' zF).nr;unfold hz;omega
   exact aa
  have dR:ix.n=Bf.length:=by rw[jy,r0];exact x3.n
  have iE:cn.ok iz ⟨A.b,ix,Bf⟩:=⟨T6,dR,λx ab=>by
   rw[<-NP]at ab;rcases xb ab with ab | rfl;·exact x3.ds x ab
   ·exact Hg⟩
  obtain⟨ara,aef,NQ⟩:=aR.ok.row (I:=iz) (M:=[⟨A.b,.cells #[os.val] 216 (0,0)⟩]++(ix.ar 82++(di.ar 3++(lo.ar 3++[])))) al.cL (by decide) T6 (e:=82) (λx ab=>by simp[ab]) (j:=S.bs) (by omega);have wL:Bf[S.bs]'(by omega)=ds[S.bs].row a n c (e3 (S.parts A.ds)):=by have aa:=T7 S.bs;rw[bT rfl,gr (by omega),<-s4 _ (T5 _ S.F3),gr z']at aa;exact aa
  rw[wL]at NQ;have aeg:=dB.cap;refine cT.draw aY rfl rfl rfl ?_;refine bd.mk ((f'.length:Nat):Int) (by show IntKind.i64.wrap ((di.n:Int)-1)=_;rw[wrap_i64 ⟨by omega,by omega⟩];omega) ?_;refine jR.mk 0 f'.length rfl rfl (dp _) Js ?_;refine aO.mk [os.val] (dr (cs:=[os.val]) (k:=0) (n:=1) (T:=216) (by simp) (by simp)) ?_;refine bm.mk ara S.bs (by rw[nn]at aef;exact aef) rfl (by have:=x3.n;simp only at this |-;omega) ?_;refine aO.mk _ (NQ.part (k:=8) (m:=1) (by decide)) ?_;refine bD.wS aY rfl (by simp) (e:=3) rfl rfl rfl ⟨di.a,f'.length,di.c,di.aS⟩ ou rfl (sa:=a) (m:=n) (c':=c) (cb:=(e3 (S.parts A.ds)).map (.int .i64 ·)) rfl (by rw[bx,oL];simp[e3]) (λay=>dB.y1 _ ay) (FQ _) ([⟨A.b,.cells #[os.val] 216 (0,0)⟩]++ix.ar 82) (lo.ar 3++[]) rfl (by simp only;omega) (by show(f'.length+n)*8<=_;omega) ?_;intro s3 acW acX iU;rw[<-cM,<-F6]at iU;refine bW.mk λb8 iQ Qj=>?_;refine bD.k5 aY rfl (by simp) (e:=3) rfl rfl rfl lo e6 rfl (cs:=[.int .i64 S.bs]) rfl rfl rfl ([⟨A.b,.cells #[os.val] 216 (0,0)⟩]++ix.ar 82++s3.ar 3) [] (congrArg (List.cons _) (dW _ _ _).symm) (by omega) (by show(lo.n+1)*8<=_;omega) ?_;intro NR awE awF arb;refine⟨(NR,s3,hf++[S.bs],f'++S.parts A.ds,ix,Bf,iz),⟨⟨λb o h=>hq _ _ (a5 _ _ h),iE,?_,iU,λx ab=>?_,?_,r0.trans cS,nn.trans aee,λw hw=>?_,λw hw=>?_,?_⟩,?_⟩,.perm ?_ .refl,ee,.cons rfl (.nil)⟩;·show NR.ok 1 ((zd (hf++[S.bs])).map (.int .i64 ·));unfold zd;rw[cM,cM];exact arb
  ·rcases cv.1 ab with ab | ab
   ·exact e5 x (by simp[ab])
   ·exact aT.adI A.ds cc x ab
  ·have aa:((hf++[S.bs])++(f'++S.parts A.ds).flatMap aT.c2).Perm (hf++(f'.flatMap aT.c2++((S.parts A.ds).flatMap aT.c2++[S.bs]))):=by rw[dW,fI];refine TV hf ?_;have:=eU (l₁:=[S.bs]) (l₂:=f'.flatMap aT.c2++(S.parts A.ds).flatMap aT.c2);simpa using this
   refine aa.nodup_iff.2 (List.Nodup.sublist ?_ bU);rw[fI,nQ];refine(Nx _).append ((Nx _).append ?_);have:S.c2=S.sub.flatMap aT.c2++[S.bs]:=by cases S;exact aT.mL _ _
   rw[this];exact jX.append (.refl _)
  ·rw[T7,bN (λe=>hw (by rw[e];simp)),s4 w (λh=>hw (iR _ h))]
  ·rw[T7];by_cases e:w=S.bs
   ·subst e;rw[bT rfl];exact⟨S,a,n,c,cc,rfl,rfl⟩
   ·rw[bN e];rcases cv.1 hw with hw | hw
    ·exact FD w hw
    ·exact absurd (eN.1 hw) e
  ·rw[<-r4,yj,yj,fI,fI,zP,nQ,aq8 A.ds S,dW];rfl
  ·show hF (f'++S.parts A.ds)<hF (f'++[S]);rw[Bc,Bc,u'];omega
  ·show List.Perm _ (s3.ar 3++(NR.ar 3++(⟨A.b,.cells #[ix.val] 216 (0,0)⟩::ix.ar 82)));rw[lU];have:=eU (l₁:=(⟨A.b,.cells #[os.val] 216 (0,0)⟩::ix.ar 82)) (l₂:=s3.ar 3++NR.ar 3);simpa using this
 ·have ay:di.n=0:=by have:¬ (0:Int)<(di.n:Int):=dv h;omega
  obtain rfl:a0=[]:=jl (by omega);have Fv:hf.reverse=(T.bu A.ds).c2:=by rw[List.reverse_nil,Ld,dF]at r4;rw[r4,Sb]
  obtain⟨rb,ov⟩:∃ rb,(T.bu A.ds).hr=rb:=⟨_,rfl⟩;have arc:zd hf.reverse=rb:=by rw[Fv,<-ov];rfl
  have e0:∀ w,(nodeAt ds w).bare=(nodeAt A.ds w).bare:=λw=>by
   by_cases hw:w∈hf;·obtain⟨k8,a,n,c,-,-,e⟩:=FD w hw;rw[e];rfl
   ·rw[s4 w hw]
  have aeh:(T.bu A.ds).c2.Nodup:=(be.nodup ae ah).sublist (aT.aqe _ T);have vK:cD ds (T.bu A.ds):=aT.aqi A.ds be λS cc hm=>by rw[<-Fv]at hm;obtain⟨k8,a,n,c,MN,e,a6⟩:=FD S.bs (S9.1 hm);obtain rfl:=MN.ap9 cc e;exact⟨by rw[cS];exact cc.nr,by rw[a6];rfl⟩
  have ard:(T.bu A.ds).bare ds=(T.bare A.ds).bu:=by rw[aT.adN A.ds _ λx ab=>e0 x,aT.aqk]
  have aei:=adZ vK aeh;rw[ov,ard]at aei;have ug:=sub_fold (t:=jK ds) (rb:=rb) (by
   rw[<-ov];exact Cv.2 (List.Pairwise.imp (fun {a b} bt e=>bt (by omega)) aeh)) (by
   rw[<-ov];exact aq4 vK) (λk ae=>by
   rw[<-ov]at ae;obtain⟨x,ab,rfl⟩:=cP.1 ae;have:=vK.lt x ab;exact⟨by omega,by show(x:Int)<ds.length;omega⟩)
  have uI:lo.ok 1 ((zd hf).map (.int .i64 ·)):=e6;have ad9:os.n=ds.length:=bg.n;refine a8.mk (lo.ar 3++[]) (di.ar 3++cn.ar ⟨A.b,os,ds⟩) _ ?_ (acT (M0:=[]) uI (by show lo.n<=_;omega)) ?_;·have:=(eU (l₁:=lo.ar 3) (l₂:=di.ar 3)).append_right (cn.ar ⟨A.b,os,ds⟩);simpa using this.symm
  rintro v iz M1 -⟨hq,back,aej,uf,rfl⟩;subst iz;have kR:(zd hf).reverse=rb:=by rw[<-arc];unfold zd;rw[TW]
  rw[kR]at uf;have GS:=uf.pW;have sR:lo.n=back.n:=(y2 aej).1.symm;have eH:rb.length=lo.n:=by rw[<-kR,Dg];unfold zd;rw[bx];omega
  refine aO.mk [os.val] (dr (cs:=[os.val]) (k:=0) (n:=1) (T:=216) (by simp[cn.ar,cn.ah]) (by simp)) ?_;refine pB.mk os.n os.n rfl rfl (b' _) (by show 8*os.n<=_;omega) (by omega) ?_;refine bW.mk λb9 m8 Cq=>?_;refine pB.mk 0 lo.n rfl rfl (dp _) (by show 96*lo.n<=_;omega) (by omega) ?_;refine bW.mk λb7 Ia LY=>?_;have w6:(rowOf [Value.int .i64 0] (os.n*1))=(List.replicate ds.length (0:Int)).map (Value.int .i64):=by rw[Ca,BX,gM,ad9]
  have T8:∀ (P:List Int) (out eb:aR),∀ x∈A.ar.map (·.num),x∈(dJ b9 P::(out.ar 82++(back.ar 3++cn.ar ⟨A.b,os,ds⟩))).map (·.num):=λP out eb x ab=>by
   have e:(cn.ar ⟨A.b,os,ds⟩).map (·.num)=A.ar.map (·.num):=by
    show A.b::(os.ar 82).map (·.num)=A.b::(A.os.ar 82).map (·.num);unfold aR.ar;rw[aee];cases A.os.a<;>rfl
   rw[<-e]at ab;simp only[b5,cM];exact nU _ (rj _ (rj _ ab))
  refine dt.uJ (ι:=Nat×List Int×aR×List al×aH) (λx=>{ bo:=[(0,.val (ptr A.b)),(4,.ref 4 0),(8,.val (.slice (some ⟨b9,0,none⟩) os.n os.n)),(9,.val x.2.2.1.val),(66,.val lo.val),(67,.val (.int .i64 lo.n)),(68,.val (.int .i64 x.1))],cl:=[(4,[.slice none 0 0,.int .i64 0])],cH:=x.2.2.2.2,dd:=dJ b9 x.2.1::(x.2.2.1.ar 82++(back.ar 3++cn.ar ⟨A.b,os,ds⟩)) }) (Yt J (jK ds) rb) (λx=>rb.length-x.1) ?_ ?_
  ·intro _;refine⟨(0,List.replicate ds.length 0,⟨some b7,0,lo.n,rowOf [.int .u8 0,.int .u64 0,.int .u64 0,.int .u64 0,.int .u64 0,.string ⟨#[]⟩,.int .i64 0,.int .i64 0,.slice none 0 0] (lo.n*9)⟩,[],J),⟨dp _,by rw[zQ];rfl,⟨rfl,(λh=>by cases h),λeg jU=>⟨by simp[ti,madeCells],dp _,by unfold maxLen;simp only;omega,by simp⟩⟩,rfl,rfl,(λd ah=>by cases ah),λ_ _ h=>h,(λc ao=>by have:=Qb ao;omega),(λd ah=>by cases ah)⟩,?_,rh,.cons rfl (.nil)⟩;refine .perm (List.Perm.swap _ _ _) ?_;refine .perm (List.Perm.cons _ (List.Perm.cons _ (?_:List.Perm _ ((back.ar 3++cn.ar ⟨A.b,os,ds⟩)++di.ar 3)))) ?_
   ·rw[dF,dW];exact TV _ eU
   refine .sub (.cons₂ _ (.cons₂ _ (xd _ _))) (.ma ?_);rw[w6];rfl
  rintro⟨j,P,out,hp,cA⟩⟨ai,A2,A4,ic,NS,A3,cO,FW,iy⟩;simp only at ai A2 A4 ic NS A3 cO FW iy;have A2:P.length=ds.length:=A2;have are:out.n=j:=by have:=A4.len;rw[gO _ 9 al.cL,ic]at this;omega
  subst are;refine aX.mk (λh=>?_) (λh=>?_)
  ·have y4:out.n<rb.length:=by have:(out.n:Int)<(lo.n:Int):=cJ h;omega
   have hm:∀ y∈rb,0<=y/\y<ds.length:=λy aC=>by rw[<-ov]at aC;obtain⟨x,ab,rfl⟩:=cP.1 aC;have:=vK.lt x ab;omega
   have hm:=hm _ (bJ y4);obtain⟨m,y5⟩:=eG hm.1;rw[y5]at hm;have hh:m<ds.length:=by omega
   obtain⟨aM,bB,Jw⟩:=aR.CB (I:=cA) (e:=3) (M:=dJ b9 P::(out.ar 82++(back.ar 3++cn.ar ⟨A.b,os,ds⟩))) uf (λx ab=>by simp[ab]) y4;rw[y5]at Jw;have NT:=bg.mono cO;have fE:ds[m].ok cA:=NT.ds _ (bJ hh);have mJ:nodeAt ds m=ds[m]:=gr hh;have g2:=oU P m (by omega) (out.n:Int);generalize tT:P.set m (out.n:Int)=ey at g2;have Nm:ey.length=ds.length:=by rw[<-tT];simpa using A2
   obtain⟨m9,nP,jD⟩:=aR.ok.row (I:=cA) (M:=dJ b9 ey::(out.ar 82++(back.ar 3++cn.ar ⟨A.b,os,ds⟩))) al.cL (by decide) NT.os (e:=82) (λx ab=>by simp[cn.ar,ab]) (j:=m) hh;have jD:cR cA (dJ b9 ey::(out.ar 82++(back.ar 3++cn.ar ⟨A.b,os,ds⟩))) (m9.add (m*9)) 9 ds[m].cells:=jD;generalize fl:ds[m]=d at fE jD mJ;have fj:=fE.aG;have pY:=fE.a'.cap;have Dk:∀ c∈ey,0<=c/\c<=rb.length:=λc ao=>by
    rw[<-tT]at ao;rcases xb ao with ao | rfl;·exact FW c ao
    ·omega
   refine bm.mk aM out.n (by have:=(aqZ aej);rw[this]at bB;exact bB) rfl (show _<lo.n by omega) ?_;refine aO.mk _ Jw ?_;refine bm.mk ⟨b9,0,none⟩ m rfl rfl (by omega) ?_;refine ck.iV [] (out.ar 82++(back.ar 3++cn.ar ⟨A.b,os,ds⟩)) (P.map (Value.int .i64)) 3 rfl (by rw[nR,bx];show 0+m*1+1<=_;omega) rfl (ey.map (Value.int .i64)) (by rw[du,gM];exact g2) ?_;refine aO.mk [os.val] (dr (cs:=[os.val]) (k:=0) (n:=1) (T:=216) (by simp[cn.ar,cn.ah]) (by simp)) ?_;refine bm.mk m9 m nP rfl (by omega) ?_;refine aO.mk _ jD ?_;have wz:(out.n+1)*96<=140737488355328:=by omega
   have hZ:∀ q∈d.au,0<=q/\q<ey.length:=λq aL=>by
    have aa:q∈(nodeAt ds m).au:=by rw[mJ];exact aL
    have Bg:(m:Int)∈rb:=by rw[<-y5];exact bJ y4
    rw[<-ov]at Bg;obtain⟨x,ab,e⟩:=cP.1 Bg;obtain rfl:x=m:=Int.ofNat.inj e;have:=aq5 vK x ab q aa;omega
   refine dt.inv (ι:=Nat×aR×List Int) (λy=>{ bo:=[(0,.val (ptr A.b)),(4,.ref 4 0),(8,.val (.slice (some ⟨b9,0,none⟩) os.n os.n)),(9,.val out.val),(10,.val (.int .i64 out.n)),(12,.ref 12 0),(13,.val y.2.1.val),(66,.val lo.val),(67,.val (.int .i64 lo.n)),(68,.val (.int .i64 out.n)),(85,.val (.slice d.b0 d.aG d.ch)),(86,.val (.int .i64 d.aG)),(87,.val (.int .i64 y.1))],cl:=[(4,[.slice none 0 0,.int .i64 0]),(12,d.cells)],cH:=cA,dd:=y.2.1.ar 3++(dJ b9 ey::(out.ar 82++(back.ar 3++cn.ar ⟨A.b,os,ds⟩))) }) (λy=>aed d ey y) (λy=>d.aG-y.1) ?_ ?_;·exact⟨(0,h2,[]),⟨dp _,k1 1,by simp⟩,.refl,V5,.cons rfl (.cons rfl (.nil))⟩
   rintro⟨k,eb,fy⟩⟨hR,jt,c7⟩;simp only at hR jt c7;have arf:=jt.pW;have EM:fy.length=k:=by rw[c7,bx,fO];omega
   refine aX.mk (λad=>?_) (λad=>?_)
   ·have NU:k<d.aG:=by have:(k:Int)<(d.aG:Int):=cJ ad;omega
    have ji:k<d.au.length:=by omega
    have aj:=hZ _ (bJ ji);have vE:d.au[k].toNat<ey.length:=by omega
    have Dl:ey.getD d.au[k].toNat 0=ey[d.au[k].toNat]:=by simp[bS,vE]
    have Dr:cI cA d.b0 d.aG d.ch 1 8 (d.au.flatMap iI):=by rw[oq];exact fE.a'
    obtain⟨gn,fo,fh⟩:=Dr.row (f:=iI) (λ_=>rfl) (j:=k) (by omega) ji;refine bm.mk gn k fo rfl (show k<d.aG by omega) ?_;refine aO.mk _ (fh _) ?_;refine bm.mk ⟨b9,0,none⟩ d.au[k].toNat rfl (by omega) (by omega) ?_;refine aO.mk _ (Hr (by simp) vE) ?_;refine bW.mk λmM s5 arh=>?_;refine bD.k5 aY rfl (by simp) (e:=3) rfl rfl rfl eb jt rfl (cs:=[.int .i64 ey[d.au[k].toNat]]) rfl rfl rfl [] (dJ b9 ey::(out.ar 82++(back.ar 3++cn.ar ⟨A.b,os,ds⟩))) rfl (by omega) (by show(eb.n+1)*8<=_;omega) ?_;intro o3 aek ari T9;refine bd.mk _ (c8 (i:=k) (by omega)) ?_;refine⟨(k+1,o3,fy++[ey[d.au[k].toNat]]),⟨⟨NU,?_,?_⟩,by simp only;omega⟩,.refl,V5,.cons rfl (.cons rfl (.nil))⟩;·rw[cM];exact T9
    ·rw[c7,gj ji,cM,sZ,Dl]
   have c0:k=d.aG:=by have:¬ (k:Int)<(d.aG:Int):=dv ad;omega
   subst c0;rw[fC (by omega)]at c7;refine bW.mk λac1 ac2 ac3=>?_;have bU:∃ b3:al,b3=⟨d.k,d.cx,d.s1,d.s2,d.cY,d.t,d.lo,d.hi,eb.a.map λg=>⟨g,0,none⟩,eb.n,eb.c,fy⟩:=⟨_,rfl⟩;obtain⟨b3,bU⟩:=bU;have Jy:b3.cells=[.int .u8 d.k,.int .u64 d.cx,.int .u64 d.s1,.int .u64 d.s2,.int .u64 d.cY,.string d.t,.int .i64 d.lo,.int .i64 d.hi,.slice (eb.a.map λg=>⟨g,0,none⟩) eb.n eb.c]:=by rw[bU];rfl
   refine bD.k5 aY rfl (by simp) (e:=82) rfl rfl rfl out A4 rfl (cs:=[.int .u8 d.k,.int .u64 d.cx,.int .u64 d.s1,.int .u64 d.s2,.int .u64 d.cY,.string d.t,.int .i64 d.lo,.int .i64 d.hi,.slice (eb.a.map λg=>⟨g,0,none⟩) eb.n eb.c]) rfl rfl rfl (eb.ar 3++[dJ b9 ey]) (back.ar 3++cn.ar ⟨A.b,os,ds⟩) (congrArg (List.cons _) (dW _ [_] _).symm) (by omega) (by show(out.n+1)*96<=_;omega) ?_;intro np TA ac4 arj;refine bd.mk _ (c8 (i:=out.n) (by omega)) ?_;have A5:∀ c∈fy,0<=c/\c<=rb.length:=λc ao=>by
    rw[c7]at ao;obtain⟨q,aL,rfl⟩:=cP.1 ao;have wM:=hZ q aL;have Jz:q.toNat<ey.length:=by omega
    exact Dk (ey.getD q.toNat 0) (by simp only[bS,dg Jz,kL];exact bJ _)
   intro eF;have mf:((eb.ar 3++[dJ b9 ey])++(np.ar 82++(back.ar 3++cn.ar ⟨A.b,os,ds⟩))).Perm (eb.ar 3++(dJ b9 ey::(np.ar 82++(back.ar 3++cn.ar ⟨A.b,os,ds⟩)))):=by rw[dW];exact List.Perm.refl _
   have aw:=mm.F8 (J:=cA) (os:=eb) (e:=3) eF mf (T8 ey np eb);obtain⟨mK,hw,bf,dB,-⟩:=aR.Ai (b:=8) (e:=3) jt (by omega) aw (dJ b9 ey::(np.ar 82++(back.ar 3++cn.ar ⟨A.b,os,ds⟩)));refine⟨(out.n+1,ey,np,hp++[b3],mK),⟨⟨by simp only;omega,Nm,?_,by simp[ic],?_,?_,λb o h=>bf _ _ (cO _ _ h),Dk,?_⟩,by simp only;omega⟩,.perm mf (hw _ _ .refl),rh,.cons rfl (.nil)⟩
   ·simp only;rw[fI];have:([b3].flatMap al.cells)=b3.cells:=by simp
    rw[this,Jy];exact arj
   ·simp only;rw[gj y4,tL,NS,km,HP,y5];show(P.set m ((hp.map al.a4).length:Int),hp.map al.a4++[(nodeAt ds m).dX ((nodeAt ds m).au.map λk=>(P.set m ((hp.map al.a4).length:Int)).getD k.toNat 0)])=_;rw[bx,ic,tT,mJ,<-c7,cM,bU];rfl
   ·simp only;intro x ab;rcases cv.1 ab with ab | ab
    ·exact(A3 x ab).mono bf
    ·simp only[eN]at ab;rw[ab,bU];refine⟨fE.k,fE.cx,fE.s1,fE.s2,fE.cY,fE.t,fE.lo,fE.hi,dB,λc ao=>?_⟩;have:=A5 c ao;exact⟨by omega,by omega⟩
   ·simp only;intro x ab;rcases cv.1 ab with ab | ab
    ·exact iy x ab
    ·simp only[eN]at ab;rw[ab,bU];exact A5
  ·have c0:out.n=rb.length:=by have:¬ (out.n:Int)<(lo.n:Int):=dv h;omega
   refine bd.mk ((hp.length:Int)-1) (by show IntKind.i64.wrap ((out.n:Int)-1)=_;rw[wrap_i64 ⟨by omega,by omega⟩,ic]) ?_;intro eF;have mf:(dJ b9 P::(out.ar 82++(back.ar 3++cn.ar ⟨A.b,os,ds⟩))).Perm (out.ar 82++(dJ b9 P::(h2.ar 82++(back.ar 3++cn.ar ⟨A.b,os,ds⟩)))):=na.symm;have aw:=mm.F8 (J:=cA) (os:=out) (e:=82) eF mf (T8 P h2 h2);obtain⟨mK,hw,bf,dB,-⟩:=aR.Ai (b:=96) (e:=82) A4 (by omega) aw (dJ b9 P::(h2.ar 82++(back.ar 3++cn.ar ⟨A.b,os,ds⟩)));rw[fC (by omega)]at NS;obtain⟨Fm,mB,-,-⟩:=ug rb.length (b' _);rw[D4]at mB;have eh:hp.map al.a4=(T.bare A.ds).bu.post:=by rw[<-aei];exact congrArg Prod.snd (NS.symm.trans mB)
   exact⟨mK,[],.perm mf (hw _ _ (.sub (gd _) .refl)),λb o h=>bf _ _ (cO _ _ (a5 _ _ h)),rfl,⟨hp,out.a.map λg=>⟨g,0,none⟩,out.n,out.c,(hp.length:Int)-1⟩,rfl,⟨dB,λd ah=>(A3 d ah).mono bf,⟨by simp only;omega,by simp only;omega⟩⟩,⟨eh,rfl⟩⟩
structure r9(ds:List al)(JP:List Nat):Prop where
 fits:∀ d∈ds,fits d d.au.length=true
 au:∀ j (h:j<ds.length),∀ k∈ds[j].au,0<=k/\k<j
 diff:hQ (eL ds)
 gT:∀ k∈JP,k<ds.length/\(k:Int) ∉ eL ds
 s3:JP.Nodup
def NV(a b:List al):eL (a++b)=eL a++eL b:=by unfold eL;rw[fI]
def r9.add{ds:List al}(h:r9 ds (l++bl)){x:al}(ab:Go.V.fits x x.au.length=true)(ae:x.au.Sublist (l.map Int.ofNat)):r9 (ds++[x]) (ds.length::bl):=by
 have ei:∀ k∈x.au,∃ q∈l,k=(q:Int):=λk aL=>by obtain⟨q,aa,ad⟩:=cP.1 (ae.subset aL);exact⟨q,aa,ad.symm⟩
 have fo:eL (ds++[x])=eL ds++x.au:=by rw[NV];simp[eL]
 have bU:=sh.1 h.s3;refine⟨λd ah=>?_,λj ai k aL=>?_,?_,λk aL=>?_,?_⟩
 ·rcases cv.1 ah with ah | ah
  ·exact h.fits d ah
  ·rw[eN.1 ah];exact ab
 ·by_cases e:j<ds.length
  ·rw[yh e]at aL;exact h.au j e k aL
  ·rw[cr,od]at ai;have ark:j=ds.length:=by omega
   subst ark;rw[Cs (b' _)]at aL;simp only[mC,List.getElem_singleton]at aL;obtain⟨q,aa,rfl⟩:=ei k aL;have:=(h.gT q (iR _ aa)).1;omega
 ·rw[fo];refine rN.2 ⟨h.diff,?_,λa a7 b ag=>?_⟩
  ·refine List.Pairwise.sublist ae ?_;refine Cv.2 (bU.1.imp λbt e=>bt ?_);exact Int.ofNat.inj e
  ·rintro rfl;obtain⟨q,aa,rfl⟩:=ei _ ag;exact(h.gT q (iR _ aa)).2 a7
 ·rw[fo];rw[cr,od];rcases eI.1 aL with rfl | aL
  ·refine⟨by omega,λhm=>?_⟩;rcases cv.1 hm with hm | hm
   ·have:=Nt h.au _ hm;omega
   ·obtain⟨q,aa,e⟩:=ei _ hm;have:=(h.gT q (iR _ aa)).1;omega
  ·obtain⟨aa,ad⟩:=h.gT k (rj _ aL);refine⟨by omega,λhm=>?_⟩;rcases cv.1 hm with hm | hm
   ·exact ad hm
   ·obtain⟨q,ak,e⟩:=ei _ hm;have:k=q:=by omega
    subst this;exact bU.2.2 k ak k aL rfl
 ·refine lf.2 ⟨λhm=>?_,bU.2.1⟩;have:=(h.gT _ (rj _ hm)).1;omega
def r9.pick{ds:List al}(h:r9 ds (l++bl)){r:Nat}(af:r∈l):r9 ds (r::bl):=by
 have bU:=sh.1 h.s3;refine⟨h.fits,h.au,h.diff,λk ae=>?_,lf.2 ⟨λhm=>bU.2.2 r af r hm rfl,bU.2.1⟩⟩;rcases eI.1 ae with rfl | ae
 ·exact h.gT _ (iR _ af)
 ·exact h.gT _ (rj _ ae)
def JQ(d:al)(ds:List al):∀ l:List Nat,(jP d ds l).Sublist (l.map Int.ofNat)
 |[]=>.slnil
 |k::l=>by
  show List.Sublist ((bif pj d (ds.getD k vH)then [(k:Int)]else [])++jP d ds l) (Int.ofNat k::l.map Int.ofNat);cases pj d (ds.getD k vH)with
  |true=>exact(JQ d ds l).cons₂ _| false=>exact(JQ d ds l).cons _
def T'{d:al}(h:d.k=4\/d.k=5){n m:Int}(aD:2<=n)(hm:2<=m)(aB:Go.V.fits d n=true):Go.V.fits d m=true:=by
 unfold Go.V.fits at aB |-;rcases h with e | e<;>rw[e]at aB |-<;>simp[oR,nH]at aB |-<;>exact⟨⟨hm,.inl (by decide)⟩,aB.2⟩
def r9.join{ds:List al}(h:r9 ds (l++bl)){d:al}(ah:Go.V.fits d l.length=true)(ai:xk d l ds ds' r):0<=r/\r9 ds' (r.toNat::bl):=by
 unfold xk at ai;split at ai
 ·rename_i gA;rcases ai with⟨aa,rfl,ad⟩ | ⟨aa,ad⟩ | ⟨aa,rfl,bL,gw,c',ad⟩
  ·refine⟨by omega,?_⟩;rw[ad,hH];refine h.add ?_ (gd _);rcases gA with e | e
   ·rw[show d.k-4=0 by omega];rfl
   ·rw[show d.k-4=1 by omega];rfl
  ·have af:r∈l.map Int.ofNat:=(JQ d ds l).subset (by rw[aa];exact .head _);obtain⟨q,aL,rfl⟩:=cP.1 af;rw[ad];exact⟨Ih _,h.pick aL⟩
  ·refine⟨by omega,?_⟩;rw[ad,hH];refine h.add ?_ (JQ d ds l);show Go.V.fits d ((jP d ds l).length:Nat)=true;have oQ:(2:Int)<=((jP d ds l).length:Nat):=by omega
   have yp:(2:Int)<=(l.length:Nat):=by have:=(JQ d ds l).length_le;rw[bx]at this;omega
   exact T' gA yp oQ ah
 ·obtain⟨rfl,bL,gw,c',ad⟩:=ai;refine⟨by omega,?_⟩;rw[ad,hH];refine h.add ?_ (Nx _);show Go.V.fits d ((l.map Int.ofNat).length:Nat)=true;rw[bx];exact ah
def kl(d:al)(x:aP):Bool:=!decide (d.k=4) || !decide (x.d.k=0)
def JR(d:al)(xs:List aP):aP:=
 if d.k=4\/d.k=5 then match xs.filter (kl d)with
  |[]=>.mk (nothing (d.k-4)).bare []| [y]=>y| ys=>.mk d ys
 else .mk d xs
def nY(d:al)(xs:List aP):aP:=JR d.bare xs
def aP.lL(T:aP):aP:=(T.fold nY).bu
def ael(ns:List al)(T:aT):(T.bare ns).d=(nodeAt ns T.bs).bare:=by
 cases T with
 |mk k ks=>
 rw[aT.nt];rfl
def arl{ns:List al}(h:k<ns.length):ns.getD k vH=nodeAt ns k:=by rw[gr h];simp[bS,h]
def aem{d:al}{ds:List al}:∀ {ks:List aT},(∀ c∈ks,cD ds c)->jP d ds (ks.map aT.bs)=e3 (ks.filter λc=>kl d (c.bare ds))/\(ks.filter λc=>kl d (c.bare ds)).map (aT.bare ds)=(ks.map (aT.bare ds)).filter (kl d)
 |[],_=>⟨rfl,rfl⟩
 |c::ks,h=>by
  obtain⟨aa,ad⟩:=aem (d:=d) (ks:=ks) λx ab=>h x (.tail _ ab);have ao:=(h c (.head _)).nr;have e:pj d (ds.getD c.bs vH)=kl d (c.bare ds):=by unfold pj kl;rw[ael,al.adJ,arl ao]
  have ai:jP d ds ((c::ks).map aT.bs)=(bif pj d (ds.getD c.bs vH)then [(c.bs:Int)]else [])++jP d ds (ks.map aT.bs):=rfl;rw[ai,aa,e,xT,b5,xT];cases kl d (c.bare ds)with
  |true=>exact⟨rfl,by simp[ad]⟩| false=>exact⟨rfl,by simpa using ad⟩
def JS(d:al)(xs:List aP):nY d xs=if d.k=4\/d.k=5 then(match xs.filter (kl d)with
  |[]=>.mk (nothing (d.k-4)).bare []| [y]=>y| ys=>.mk d.bare ys)else .mk d.bare xs:=rfl
def xk.lt{d:al}{ds:List al}{ks:List aT}(er:∀ c∈ks,cD ds c)(h:xk d (ks.map aT.bs) ds ds' r) :
  (∃ m,ds'=ds++m)/\∃ T:aT,(T.bs:Int)=r/\cD ds' T/\T.bare ds'=nY d (ks.map (aT.bare ds)):=by
 obtain⟨ai,aB⟩:=aem (d:=d) er;have new:∀ (x:al) (l:List aT),(∀ c∈l,cD ds c)->x.au=e3 l->cD (ds++[x]) (.mk ds.length l)/\(aT.mk ds.length l).bare (ds++[x])=.mk x.bare (l.map (aT.bare ds)):=λx l ax ab=>by refine⟨.mk (by simp) (by rw[F4,ab];rfl) λc ao=>(ax c ao).app _,?_⟩;rw[aT.nt,F4];congr 1;exact fV λc ao=>aT.Dq ds (ax c ao) _
 unfold xk at h;rw[JS,<-aB];split at h
 ·rename_i gA;rw[bT gA];rw[ai]at h;have l8:∀ c∈ks.filter (λc=>kl d (c.bare ds)),cD ds c:=λc ao=>er c (n4.1 ao).1;generalize ks.filter (λc=>kl d (c.bare ds))=bo at h l8;rcases h with⟨aa,rfl,rfl⟩ | ⟨aa,rfl⟩ | ⟨aa,rfl,bL,gw,c',rfl⟩
  ·obtain rfl:bo=[]:=List.map_eq_nil_iff.1 aa;obtain⟨ew,e'⟩:=new (nothing (d.k-4)) [] (λc ao=>by cases ao) rfl;exact⟨⟨_,rfl⟩,_,rfl,ew,e'⟩
  ·match bo,aa with
   |[c],aa=>refine⟨⟨[],by simp⟩,c,?_,l8 c (.head _),rfl⟩;simpa[e3]using aa
  ·obtain⟨ew,e'⟩:=new (d.row bL gw c' (e3 bo)) bo l8 rfl;refine⟨⟨_,rfl⟩,_,rfl,ew,e'.trans ?_⟩
   match bo,aa with
   |fF::fz::l,aa=>rfl
 ·rename_i gA;rw[bN gA];obtain⟨rfl,bL,gw,c',rfl⟩:=h;obtain⟨ew,e'⟩:=new (d.row bL gw c' ((ks.map aT.bs).map Int.ofNat)) ks er (by rw[gu];rfl);exact⟨⟨_,rfl⟩,_,rfl,ew,e'⟩
def r9.perm{ds:List al}{a b:List Nat}(h:r9 ds a)(aJ:a.Perm b):r9 ds b:=⟨h.fits,h.au,h.diff,λk ae=>h.gT k (aJ.mem_iff.2 ae),aJ.nodup_iff.1 h.s3⟩
def vL(ns:List al)(i:Nat):List Nat:=(List.range i).filter λj=>!decide ((j:Int)∈eL (ns.take i))
def ih(P:List Int)(j:Nat):Nat:=(P.getD j 0).toNat
structure Ds(t:bk)(i:Nat)(ds:List al)(P:List Int):Prop where
 hi:i<=t.ns.length
 qK:P.length=t.ns.length
 len:ds.length<=i
 jM:∀ j,j<i->∃ T:aT,(T.bs:Int)=P.getD j 0/\cD ds T/\T.bare ds=(fq t.ns j).fold nY
 wd:r9 ds ((vL t.ns i).map (ih P))
def arm(h:g' t){j:Nat}(ai:j<t.ns.length):fq t.ns j=.mk t.ns[j].bare (t.ns[j].au.map (fq t.ns)):=by
 obtain⟨T,be,dI,he,-⟩:=h.lt ai;cases T with
 |mk k ks=>
 obtain rfl:k=j:=be;obtain⟨aa,ad,ak⟩:=dI.inv;rw[he,aT.nt,gr aa];rw[gr aa]at ad;rw[ad,gu];congr 1;exact fV λc ao=>(NF h.xj (ak c ao)).symm
def aen{ns:List al}(hi:i<ns.length):eL (ns.take (i+1))=eL (ns.take i)++ns[i].au:=by rw[gj hi,NV];simp[eL]
def JT{ns:List al}{j:Nat}:j∈vL ns i ↔ j<i/\(j:Int) ∉ eL (ns.take i):=by unfold vL;rw[n4,j9];simp
def Ds.step(af:g' t){ds:List al}{P:List Int}(h:Ds t i ds P)(hi:i<t.ns.length)(ai:xk t.ns[i] (t.ns[i].au.map λk=>ih P k.toNat) ds ds' r) :
  Ds t (i+1) ds' (P.set i r):=by
 have oc:=af.au i hi;obtain⟨ks,tH,e1⟩:=JJ (R:=λ(x:Int) (T:aT)=>T.bs=ih P x.toNat/\cD ds T/\T.bare ds=(fq t.ns x).fold nY) (l:=t.ns[i].au) λx ab=>by have:=oc x ab;obtain⟨T,aa,ad,ak⟩:=h.jM x.toNat (by omega);refine⟨T,by unfold ih;omega,ad,?_⟩;rw[show((x.toNat:Nat):Int)=x by omega]at ak;exact ak
 have er:∀ c∈ks,cD ds c:=λc ao=>by obtain⟨q,aL,rfl⟩:=hO ao;exact(e1 q (by omega) aL).2.1
 have zb:(t.ns[i].au.map λk=>ih P k.toNat)=ks.map aT.bs:=by refine oH (by simp[tH]) λq aL wM=>?_;rw[fW,fW];exact(e1 q (by simpa using aL) (by simpa using wM)).1.symm
 have Cg:ks.map (aT.bare ds)=t.ns[i].au.map λx=>(fq t.ns x).fold nY:=by refine oH (by simp[tH]) λq aL wM=>?_;rw[fW,fW];exact(e1 q (by simpa using wM) (by simpa using aL)).2.2
 have jS:=ai;rw[zb]at jS;obtain⟨⟨m,rfl⟩,T,kw,h0,qd⟩:=jS.lt er;have hold:∀ j,j≠i->(P.set i r).getD j 0=P.getD j 0:=λj bt=>by rw[bS,bS,iW,bN (λe=>bt e.symm)]
 have e8:(P.set i r).getD i 0=r:=by rw[bS,iW,bT rfl,bT (by have:=h.qK;omega)];rfl
 have fj:∀ x∈t.ns[i].au,0<=x/\x<i:=oc;have gm:hQ (eL (t.ns.take (i+1))):=by
  have e:eL t.ns=eL (t.ns.take (i+1))++eL (t.ns.drop (i+1)):=by rw[<-NV,pM]
  have:=af.diff;rw[e]at this;exact(rN.1 this).1
 rw[aen hi]at gm;obtain⟨d1,d2,d3⟩:=rN.1 gm;have arn:(t.ns[i].au.map Int.toNat).Nodup:=by refine Cv.2 (d2.imp_of_mem ?_);intro a b a7 ag bt e;have:=fj a a7;have:=fj b ag;exact bt (by omega)
 obtain⟨bl,pJ⟩:∃ bl,(vL t.ns i).filter (λj=>!decide (j∈t.ns[i].au.map Int.toNat))=bl:=⟨_,rfl⟩;have Aa:(vL t.ns i).Nodup:=BY.sublist zT;have aro:(vL t.ns (i+1)).Nodup:=BY.sublist zT;have Bg:∀ j,j∈bl ↔ j∈vL t.ns i/\j ∉ t.ns[i].au.map Int.toNat:=λj=>by rw[<-pJ,n4];simp
 have arp:(vL t.ns i).Perm (t.ns[i].au.map Int.toNat++bl):=by
  refine(TS Aa (sh.2 ⟨arn,by rw[<-pJ];exact Aa.sublist zT,λa a7 b ag e=>?_⟩)).2 λj=>?_;·subst e;exact((Bg a).1 ag).2 a7
  ·rw[cv,Bg];constructor
   ·intro ai;by_cases e:j∈t.ns[i].au.map Int.toNat
    ·exact .inl e
    ·exact .inr ⟨ai,e⟩
   ·rintro(ai | ai)
    ·obtain⟨x,ab,rfl⟩:=cP.1 ai;have:=fj x ab;refine JT.2 ⟨by omega,λhm=>?_⟩;rw[show((x.toNat:Nat):Int)=x by omega]at hm;exact d3 x hm x ab rfl
    ·exact ai.1
 have Sa:(vL t.ns (i+1)).Perm (i::bl):=by
  refine(TS aro (lf.2 ⟨λhm=>?_,by rw[<-pJ];exact Aa.sublist zT⟩)).2 λj=>?_;·have:=(JT.1 ((Bg i).1 hm).1).1;omega
  ·rw[eI,Bg,JT,JT,aen hi,cv];constructor
   ·rintro⟨aa,ad⟩;by_cases e:j=i
    ·exact .inl e
    ·refine .inr ⟨⟨by omega,λak=>ad (.inl ak)⟩,λak=>ad (.inr ?_)⟩;obtain⟨x,ab,rfl⟩:=cP.1 ak;have:=fj x ab;rw[show((x.toNat:Nat):Int)=x by omega];exact ab
   ·rintro(rfl | ⟨⟨aa,ad⟩,ak⟩)
    ·refine⟨by omega,λaK=>?_⟩;rcases aK with aK | aK
     ·obtain⟨d,ah,ab⟩:=hl.1 aK;obtain⟨q,aL,rfl⟩:=hO ah;rw[fO]at aL;rw[Qh]at ab;have:=af.au q (by omega) _ ab;omega
     ·have:=fj _ aK;omega
    ·refine⟨by omega,λaK=>?_⟩;rcases aK with aK | aK
     ·exact ad aK
     ·exact ak (cP.2 ⟨(j:Int),aK,by omega⟩)
 have hw:=h.wd.perm ((arp.map (ih P)).trans (by rw[cM,gu]));have iu:Go.V.fits t.ns[i] ((t.ns[i].au.map λk=>ih P k.toNat).length:Nat)=true:=by rw[bx];exact af.fits i hi
 obtain⟨mz,arq⟩:=hw.join iu ai;refine⟨hi,by rw[rO];exact h.qK,?_,λj ai=>?_,?_⟩
 ·have:m.length<=1:=by
   unfold xk at ai;split at ai
   ·rcases ai with⟨-,-,e⟩ | ⟨-,e⟩ | ⟨-,-,bL,gw,c',e⟩
    ·rw[TT e];simp
    ·have:m=[]:=by simpa using e
     rw[this];simp
    ·rw[TT e];simp
   ·obtain⟨-,bL,gw,c',e⟩:=ai;rw[TT e];simp
  have:=h.len;rw[cr];omega
 ·by_cases e:j=i
  ·subst e;refine⟨T,by rw[e8];exact kw,h0,?_⟩;rw[qd,Cg,arm af hi,aP.fold_eq,gu];rfl
  ·obtain⟨S,aa,ad,ak⟩:=h.jM j (by omega);exact⟨S,by rw[hold j e];exact aa,ad.app m,by rw[aT.Dq ds ad];exact ak⟩
 ·refine arq.perm ?_;have aI:(i::bl).map (ih (P.set i r))=r.toNat::bl.map (ih P):=by
   rw[b5];congr 1;·unfold ih;rw[e8]
   ·refine fV λj ai=>?_;have:=(JT.1 ((Bg j).1 ai).1).1;unfold ih;rw[hold j (by omega)]
  rw[<-aI];exact(Sa.map _).symm
def Ds.start(t:bk):Ds t 0 [] (List.replicate t.ns.length 0):=⟨dp _,zQ,b' _,λj ai=>absurd ai (ng _),⟨(λd ah=>by cases ah),λj h=>absurd h (ng _),List.Pairwise.nil,(λk ae=>by simp[vL]at ae),by simp[vL]⟩⟩
def cI.ars(I:aH):cI I (h2.a.map λg=>⟨g,0,none⟩) h2.n h2.c 1 8 (([]:List Int).map (.int .i64 ·)):=⟨rfl,⟨b' _,dp _⟩,.inl rfl⟩
def art(af:g' t)(hi:i<t.ns.length):t.ns[i].au.length<=i:=by
 have ae:=af.au i hi;have ah:hQ t.ns[i].au:=by rw[<-gr hi];exact adz af.diff hi
 have aa:(t.ns[i].au.map Int.toNat).Nodup:=by refine Cv.2 (ah.imp_of_mem ?_);intro a b a7 ag bt e;have:=ae a a7;have:=ae b ag;exact bt (by omega)
 have:=Nw (n:=i) aa λx ab=>by obtain⟨y,aC,rfl⟩:=cP.1 ab;have:=ae y aC;omega
 rwa [bx]at this
def aru(be:e2 I az)(aq:t.ok I)(af:right t=true)(aD:t.n<=1099511627776) :
  Spec Tryz.prog 111 [t.val] I [] λv I' M'=>(∀ b o,I b=some o->I' b=some o)/\M'=[]/\∃ bn:bk,v=.tuple #[bn.val,.bool true]/\bn.ok I'/\k' bn (bI t).lL:=by
 refine xQ [4] aY Tryz.func111 rfl rfl rfl ?_;intro B ay;have aV:=jv.1 af;have hk:=aq.n;have hA:=aq.a'.cap;refine a8.mk [] [] _ (.refl _) (n7 be.c aq) ?_;rintro v J N -⟨rfl,a5,rfl⟩;subst J;rw[af];refine aX.mk (λh=>by cases h) (λ_=>?_);refine bW.mk λp4 Fo yU=>?_;refine a8.mk [] _ _ (.refl _) aqM ?_;rintro v J N -⟨rfl,a5,rfl⟩;subst J;refine pB.mk t.n t.n rfl rfl (b' _) (by show 8*t.n<=_;omega) (by omega) ?_;refine bW.mk λb6 Lr arv=>?_;have nh:(rowOf [Value.int .i64 0] (t.n*1))=(List.replicate t.ns.length (0:Int)).map (Value.int .i64):=by rw[Ca,BX,gM,hk]
 have T8:∀ x∈(([]:List aE).map (·.num)),False:=λx ab=>by cases ab
 refine dt.uJ (ι:=Nat×List Int×aR×List al×aH) (λx=>{ bo:=[(1,.ref 1 0),(2,.ref 2 0),(4,.val (ptr p4)),(5,.ref 5 0),(6,.val (.slice (some ⟨b6,0,none⟩) t.n t.n)),(22,.val (.slice t.a t.n t.c)),(23,.val (.int .i64 t.n)),(24,.val (.int .i64 x.1))],cl:=[(1,t.cells),(2,[.slice none 0 0,.int .i64 0]),(5,TZ)],cH:=x.2.2.2.2,dd:=dJ b6 x.2.1::cn.ar ⟨p4,x.2.2.1,x.2.2.2.1⟩ }) (λx=>Ds t x.1 x.2.2.2.1 x.2.1/\cn.ok x.2.2.2.2 ⟨p4,x.2.2.1,x.2.2.2.1⟩/\∀ b o,I b=some o->x.2.2.2.2 b=some o) (λx=>t.n-x.1) ?_ ?_
 ·intro _;refine⟨(0,List.replicate t.ns.length 0,h2,[],I),⟨Ds.start t,⟨k1 9,rfl,(λd ah=>by cases ah)⟩,λ_ _ h=>h⟩,.ma ?_,kN,.cons rfl (.cons rfl (.cons rfl (.nil)))⟩;rw[nh];rfl
 rintro⟨i,P,os,ds,J⟩⟨bA,bg,a5⟩;simp only at bA bg a5;have A2:=bA.qK;have eo:=bA.hi;have z':=bA.len;refine aX.mk (λh=>?_) (λh=>?_)
 ·have aZ:(i:Int)<t.n:=cJ h;have ei:i<t.ns.length:=by omega
  obtain⟨m9,nP,jD⟩:=(aq.a'.mono a5).row al.cL (j:=i) (by omega) ei;have ah:=(aq.ns _ (bJ ei)).mono a5;have hZ:=aV.au i ei;have iy:=art aV ei;have iZ:=λds' r=>bA.step aV ei (ds':=ds') (r:=r);generalize fl:t.ns[i]=d at ah jD hZ iy iZ;have fj:=ah.aG;have pY:=ah.a'.cap;refine bm.mk m9 i nP rfl (by omega) ?_;refine aO.mk _ (jD _) ?_;refine dt.uJ (ι:=Nat×aR×List Int×aH×List aE) (λy=>{ bo:=[(1,.ref 1 0),(2,.ref 2 0),(4,.val (ptr p4)),(5,.ref 5 0),(6,.val (.slice (some ⟨b6,0,none⟩) t.n t.n)),(7,.val (.int .i64 i)),(8,.ref 8 0),(9,.val y.2.1.val),(22,.val (.slice t.a t.n t.c)),(23,.val (.int .i64 t.n)),(24,.val (.int .i64 i)),(30,.val (.slice d.b0 d.aG d.ch)),(31,.val (.int .i64 d.aG)),(32,.val (.int .i64 y.1))],cl:=[(1,t.cells),(2,[.slice none 0 0,.int .i64 0]),(5,TZ),(8,d.cells)],cH:=y.2.2.2.1,dd:=y.2.2.2.2++(dJ b6 P::cn.ar ⟨p4,os,ds⟩) }) (λy=>aed d P (y.1,y.2.1,y.2.2.1)/\((y.1<d.aG/\y.2.2.2.1=J/\y.2.2.2.2=y.2.1.ar 3)\/(y.1=d.aG/\(∀ b o,J b=some o->y.2.2.2.1 b=some o)/\y.2.2.2.2=[]/\cI y.2.2.2.1 (y.2.1.a.map λg=>⟨g,0,none⟩) y.2.1.n y.2.1.c 1 8 (y.2.2.1.map (.int .i64 ·))))) (λy=>d.aG-y.1) ?_ ?_
  ·intro _;refine⟨(0,h2,[],J,[]),⟨⟨dp _,k1 1,by simp⟩,?_⟩,.refl,GW,.cons rfl (.cons rfl (.cons rfl (.cons rfl (.nil))))⟩;by_cases dy:0<d.aG
   ·exact .inl ⟨dy,rfl,rfl⟩
   ·exact .inr ⟨by simp only;omega,λ_ _ h=>h,rfl,cI.ars _⟩
  rintro⟨k,eb,fy,iz,aeo⟩⟨⟨hR,jt,c7⟩,Ua⟩;simp only at hR jt c7 Ua;have arf:=jt.pW;have EM:fy.length=k:=by rw[c7,bx,fO];omega
  refine aX.mk (λad=>?_) (λad=>?_)
  ·have NU:k<d.aG:=by have:(k:Int)<(d.aG:Int):=cJ ad;omega
   obtain⟨rfl,rfl⟩:iz=J/\aeo=eb.ar 3:=by
    rcases Ua with⟨-,aa,ak⟩ | ⟨aa,-⟩;·exact⟨aa,ak⟩
    ·omega
   have ji:k<d.au.length:=by omega
   have aj:=hZ _ (bJ ji);have vE:d.au[k].toNat<P.length:=by omega
   have Dl:P.getD d.au[k].toNat 0=P[d.au[k].toNat]:=by simp[bS,vE]
   have Dr:cI iz d.b0 d.aG d.ch 1 8 (d.au.flatMap iI):=by rw[oq];exact ah.a'
   obtain⟨gn,fo,fh⟩:=Dr.row (f:=iI) (λ_=>rfl) (j:=k) (by omega) ji;refine bm.mk gn k fo rfl (show k<d.aG by omega) ?_;refine aO.mk _ (fh _) ?_;refine bm.mk ⟨b6,0,none⟩ d.au[k].toNat rfl (by omega) (by omega) ?_;refine aO.mk _ (Hr (by simp) vE) ?_;refine bW.mk λmM s5 arh=>?_;refine bD.k5 aY rfl (by simp) (e:=3) rfl rfl rfl eb jt rfl (cs:=[.int .i64 P[d.au[k].toNat]]) rfl rfl rfl [] (dJ b6 P::cn.ar ⟨p4,os,ds⟩) rfl (by omega) (by show(eb.n+1)*8<=_;omega) ?_;intro o3 aek ari T9;refine bd.mk _ (c8 (i:=k) (by omega)) ?_;have Ub:o3.ok 1 ((fy++[P[d.au[k].toNat]]).map (.int .i64 ·)):=by rw[cM];exact T9
   have aep:fy++[P[d.au[k].toNat]]=(d.au.take (k+1)).map (λk=>P.getD k.toNat 0):=by rw[c7,gj ji,cM,sZ,Dl]
   intro eF;by_cases dy:k+1<d.aG;·exact⟨(k+1,o3,fy++[P[d.au[k].toNat]],iz,o3.ar 3),⟨⟨⟨NU,Ub,aep⟩,.inl ⟨dy,rfl,rfl⟩⟩,by simp only;omega⟩,.refl,GW,.cons rfl (.cons rfl (.cons rfl (.cons rfl (.nil))))⟩
   ·have aw:=mm.F8 (os:=o3) (e:=3) (foot:=[]) eF (.refl _) (λx ab=>by cases ab);obtain⟨mK,hw,bf,dB,-⟩:=aR.Ai (b:=8) (e:=3) Ub (by rw[aek];omega) aw (dJ b6 P::cn.ar ⟨p4,os,ds⟩);exact⟨(k+1,o3,fy++[P[d.au[k].toNat]],mK,[]),⟨⟨⟨NU,Ub,aep⟩,.inr ⟨by simp only;omega,bf,rfl,dB⟩⟩,by simp only;omega⟩,hw _ _ .refl,GW,.cons rfl (.cons rfl (.cons rfl (.cons rfl (.nil))))⟩
  have c0:k=d.aG:=by have:¬ (k:Int)<(d.aG:Int):=dv ad;omega
  obtain⟨hq,rfl,dB⟩:(∀ b o,J b=some o->iz b=some o)/\aeo=[]/\cI iz (eb.a.map λg=>⟨g,0,none⟩) eb.n eb.c 1 8 (fy.map (.int .i64 ·)):=by
   rcases Ua with⟨aa,-⟩ | ⟨-,aa,ak,aK⟩;·omega
   ·exact⟨aa,ak,aK⟩
  subst c0;rw[fC (by omega)]at c7;have l0:∀ x∈d.au.map (λk=>ih P k.toNat),x<ds.length:=λx ab=>by obtain⟨y,aC,rfl⟩:=cP.1 ab;have:=hZ y aC;obtain⟨T,aa,ad,-⟩:=bA.jM y.toNat (by omega);have:=ad.nr;unfold ih;omega
  have NM:fy=(d.au.map (λk=>ih P k.toNat)).map Int.ofNat:=by rw[c7,gu];refine fV λy aC=>?_;have:=hZ y aC;obtain⟨T,aa,ad,-⟩:=bA.jM y.toNat (by omega);show P.getD y.toNat 0=((ih P y.toNat:Nat):Int);unfold ih;omega
  rw[NM]at dB;have NT:=bg.mono hq;have uh:=ah.mono hq;have kZ:=λj ai ae=>aqN (A:=⟨p4,os,ds⟩) NT (by simp only;omega) uh l0 (by rw[bx];omega) dB j ai ae;clear c7 NM;obtain⟨dK,cx,s1,s2,cY,g3,awG,awH,tP,tQ,tR,tS⟩:=d;have EK:dK=0\/dK=1\/dK=2\/dK=3\/dK=4\/dK=5\/dK=6\/dK=7\/dK=8\/dK=9:=by have aa:=QH (aV.fits i ei);rw[fl]at aa;have ad:=ah.k;simp only at aa ad;omega
  rcases EK with rfl | rfl | rfl | rfl | rfl | rfl | rfl | rfl | rfl | rfl
  ·refine cT.draw aY rfl rfl rfl ?_;refine cw.mk 0 rfl (by decide) ?_;refine eJ.uO rfl (cn.ar ⟨p4,os,ds⟩) [dJ b6 P] _ ?_ (kZ 0 (by decide) rfl) ?_
   ·exact(eU (l₁:=[dJ b6 P]))
   rintro v cA dD cO⟨-,br,ds',r,rfl,kG,rfl,nq⟩;refine bm.mk ⟨b6,0,none⟩ i rfl rfl (by omega) ?_;refine ck.iV (cn.ar ⟨p4,br,ds'⟩) [] (P.map (Value.int .i64)) 3 rfl (by rw[nR,bx];show 0+i*1+1<=_;omega) rfl ((P.set i r).map (Value.int .i64)) (by rw[du,gM];exact oU P i (by omega) r) ?_;refine bd.mk _ (c8 (i:=i) (by omega)) ?_;intro _;exact⟨(i+1,P.set i r,br,ds',cA),⟨⟨iZ _ _ nq,kG,λb o h=>cO _ _ (hq _ _ (a5 _ _ h))⟩,by simp only;omega⟩,.perm (eU (l₁:=cn.ar ⟨p4,br,ds'⟩)) .refl,kN,.cons rfl (.cons rfl (.cons rfl (.nil)))⟩
  ·refine cT.draw aY rfl rfl rfl ?_;refine cw.mk 1 rfl (by decide) ?_;refine eJ.uO rfl (cn.ar ⟨p4,os,ds⟩) [dJ b6 P] _ ?_ (kZ 1 (by decide) rfl) ?_
   ·exact(eU (l₁:=[dJ b6 P]))
   rintro v cA dD cO⟨-,br,ds',r,rfl,kG,rfl,nq⟩;refine bm.mk ⟨b6,0,none⟩ i rfl rfl (by omega) ?_;refine ck.iV (cn.ar ⟨p4,br,ds'⟩) [] (P.map (Value.int .i64)) 3 rfl (by rw[nR,bx];show 0+i*1+1<=_;omega) rfl ((P.set i r).map (Value.int .i64)) (by rw[du,gM];exact oU P i (by omega) r) ?_;refine bd.mk _ (c8 (i:=i) (by omega)) ?_;intro _;exact⟨(i+1,P.set i r,br,ds',cA),⟨⟨iZ _ _ nq,kG,λb o h=>cO _ _ (hq _ _ (a5 _ _ h))⟩,by simp only;omega⟩,.perm (eU (l₁:=cn.ar ⟨p4,br,ds'⟩)) .refl,kN,.cons rfl (.cons rfl (.cons rfl (.nil)))⟩
  ·refine cT.draw aY rfl rfl rfl ?_;refine cw.mk 2 rfl (by decide) ?_;refine eJ.uO rfl (cn.ar ⟨p4,os,ds⟩) [dJ b6 P] _ ?_ (kZ 2 (by decide) rfl) ?_
   ·exact(eU (l₁:=[dJ b6 P]))
   rintro v cA dD cO⟨-,br,ds',r,rfl,kG,rfl,nq⟩;refine bm.mk ⟨b6,0,none⟩ i rfl rfl (by omega) ?_;refine ck.iV (cn.ar ⟨p4,br,ds'⟩) [] (P.map (Value.int .i64)) 3 rfl (by rw[nR,bx];show 0+i*1+1<=_;omega) rfl ((P.set i r).map (Value.int .i64)) (by rw[du,gM];exact oU P i (by omega) r) ?_;refine bd.mk _ (c8 (i:=i) (by omega)) ?_;intro _;exact⟨(i+1,P.set i r,br,ds',cA),⟨⟨iZ _ _ nq,kG,λb o h=>cO _ _ (hq _ _ (a5 _ _ h))⟩,by simp only;omega⟩,.perm (eU (l₁:=cn.ar ⟨p4,br,ds'⟩)) .refl,kN,.cons rfl (.cons rfl (.cons rfl (.nil)))⟩
  ·refine cT.draw aY rfl rfl rfl ?_;refine cw.mk 3 rfl (by decide) ?_;refine eJ.uO rfl (cn.ar ⟨p4,os,ds⟩) [dJ b6 P] _ ?_ (kZ 3 (by decide) rfl) ?_
   ·exact(eU (l₁:=[dJ b6 P]))
   rintro v cA dD cO⟨-,br,ds',r,rfl,kG,rfl,nq⟩;refine bm.mk ⟨b6,0,none⟩ i rfl rfl (by omega) ?_;refine ck.iV (cn.ar ⟨p4,br,ds'⟩) [] (P.map (Value.int .i64)) 3 rfl (by rw[nR,bx];show 0+i*1+1<=_;omega) rfl ((P.set i r).map (Value.int .i64)) (by rw[du,gM];exact oU P i (by omega) r) ?_;refine bd.mk _ (c8 (i:=i) (by omega)) ?_;intro _;exact⟨(i+1,P.set i r,br,ds',cA),⟨⟨iZ _ _ nq,kG,λb o h=>cO _ _ (hq _ _ (a5 _ _ h))⟩,by simp only;omega⟩,.perm (eU (l₁:=cn.ar ⟨p4,br,ds'⟩)) .refl,kN,.cons rfl (.cons rfl (.cons rfl (.nil)))⟩
  ·refine cT.draw aY rfl rfl rfl ?_;refine cw.mk 4 rfl (by decide) ?_;refine eJ.uO rfl (cn.ar ⟨p4,os,ds⟩) [dJ b6 P] _ ?_ (kZ 4 (by decide) rfl) ?_
   ·exact(eU (l₁:=[dJ b6 P]))
   rintro v cA dD cO⟨-,br,ds',r,rfl,kG,rfl,nq⟩;refine bm.mk ⟨b6,0,none⟩ i rfl rfl (by omega) ?_;refine ck.iV (cn.ar ⟨p4,br,ds'⟩) [] (P.map (Value.int .i64)) 3 rfl (by rw[nR,bx];show 0+i*1+1<=_;omega) rfl ((P.set i r).map (Value.int .i64)) (by rw[du,gM];exact oU P i (by omega) r) ?_;refine bd.mk _ (c8 (i:=i) (by omega)) ?_;intro _;exact⟨(i+1,P.set i r,br,ds',cA),⟨⟨iZ _ _ nq,kG,λb o h=>cO _ _ (hq _ _ (a5 _ _ h))⟩,by simp only;omega⟩,.perm (eU (l₁:=cn.ar ⟨p4,br,ds'⟩)) .refl,kN,.cons rfl (.cons rfl (.cons rfl (.nil)))⟩
  ·refine cT.draw aY rfl rfl rfl ?_;refine cw.mk 5 rfl (by decide) ?_;refine eJ.uO rfl (cn.ar ⟨p4,os,ds⟩) [dJ b6 P] _ ?_ (kZ 5 (by decide) rfl) ?_
   ·exact(eU (l₁:=[dJ b6 P]))
   rintro v cA dD cO⟨-,br,ds',r,rfl,kG,rfl,nq⟩;refine bm.mk ⟨b6,0,none⟩ i rfl rfl (by omega) ?_;refine ck.iV (cn.ar ⟨p4,br,ds'⟩) [] (P.map (Value.int .i64)) 3 rfl (by rw[nR,bx];show 0+i*1+1<=_;omega) rfl ((P.set i r).map (Value.int .i64)) (by rw[du,gM];exact oU P i (by omega) r) ?_;refine bd.mk _ (c8 (i:=i) (by omega)) ?_;intro _;exact⟨(i+1,P.set i r,br,ds',cA),⟨⟨iZ _ _ nq,kG,λb o h=>cO _ _ (hq _ _ (a5 _ _ h))⟩,by simp only;omega⟩,.perm (eU (l₁:=cn.ar ⟨p4,br,ds'⟩)) .refl,kN,.cons rfl (.cons rfl (.cons rfl (.nil)))⟩
  ·refine cT.draw aY rfl rfl rfl ?_;refine cw.mk 6 rfl (by decide) ?_;refine eJ.uO rfl (cn.ar ⟨p4,os,ds⟩) [dJ b6 P] _ ?_ (kZ 6 (by decide) rfl) ?_
   ·exact(eU (l₁:=[dJ b6 P]))
   rintro v cA dD cO⟨-,br,ds',r,rfl,kG,rfl,nq⟩;refine bm.mk ⟨b6,0,none⟩ i rfl rfl (by omega) ?_;refine ck.iV (cn.ar ⟨p4,br,ds'⟩) [] (P.map (Value.int .i64)) 3 rfl (by rw[nR,bx];show 0+i*1+1<=_;omega) rfl ((P.set i r).map (Value.int .i64)) (by rw[du,gM];exact oU P i (by omega) r) ?_;refine bd.mk _ (c8 (i:=i) (by omega)) ?_;intro _;exact⟨(i+1,P.set i r,br,ds',cA),⟨⟨iZ _ _ nq,kG,λb o h=>cO _ _ (hq _ _ (a5 _ _ h))⟩,by simp only;omega⟩,.perm (eU (l₁:=cn.ar ⟨p4,br,ds'⟩)) .refl,kN,.cons rfl (.cons rfl (.cons rfl (.nil)))⟩
  ·refine cT.draw aY rfl rfl rfl ?_;refine cw.mk 7 rfl (by decide) ?_;refine eJ.uO rfl (cn.ar ⟨p4,os,ds⟩) [dJ b6 P] _ ?_ (kZ 7 (by decide) rfl) ?_
   ·exact(eU (l₁:=[dJ b6 P]))
   rintro v cA dD cO⟨-,br,ds',r,rfl,kG,rfl,nq⟩;refine bm.mk ⟨b6,0,none⟩ i rfl rfl (by omega) ?_;refine ck.iV (cn.ar ⟨p4,br,ds'⟩) [] (P.map (Value.int .i64)) 3 rfl (by rw[nR,bx];show 0+i*1+1<=_;omega) rfl ((P.set i r).map (Value.int .i64)) (by rw[du,gM];exact oU P i (by omega) r) ?_;refine bd.mk _ (c8 (i:=i) (by omega)) ?_;intro _;exact⟨(i+1,P.set i r,br,ds',cA),⟨⟨iZ _ _ nq,kG,λb o h=>cO _ _ (hq _ _ (a5 _ _ h))⟩,by simp only;omega⟩,.perm (eU (l₁:=cn.ar ⟨p4,br,ds'⟩)) .refl,kN,.cons rfl (.cons rfl (.cons rfl (.nil)))⟩
  ·refine cT.draw aY rfl rfl rfl ?_;refine cw.mk 8 rfl (by decide) ?_;refine eJ.uO rfl (cn.ar ⟨p4,os,ds⟩) [dJ b6 P] _ ?_ (kZ 8 (by decide) rfl) ?_
   ·exact(eU (l₁:=[dJ b6 P]))
   rintro v cA dD cO⟨-,br,ds',r,rfl,kG,rfl,nq⟩;refine bm.mk ⟨b6,0,none⟩ i rfl rfl (by omega) ?_;refine ck.iV (cn.ar ⟨p4,br,ds'⟩) [] (P.map (Value.int .i64)) 3 rfl (by rw[nR,bx];show 0+i*1+1<=_;omega) rfl ((P.set i r).map (Value.int .i64)) (by rw[du,gM];exact oU P i (by omega) r) ?_;refine bd.mk _ (c8 (i:=i) (by omega)) ?_;intro _;exact⟨(i+1,P.set i r,br,ds',cA),⟨⟨iZ _ _ nq,kG,λb o h=>cO _ _ (hq _ _ (a5 _ _ h))⟩,by simp only;omega⟩,.perm (eU (l₁:=cn.ar ⟨p4,br,ds'⟩)) .refl,kN,.cons rfl (.cons rfl (.cons rfl (.nil)))⟩
  ·refine cT.draw aY rfl rfl rfl ?_;refine cw.mk 9 rfl (by decide) ?_;refine eJ.uO rfl (cn.ar ⟨p4,os,ds⟩) [dJ b6 P] _ ?_ (kZ 9 (by decide) rfl) ?_
   ·exact(eU (l₁:=[dJ b6 P]))
   rintro v cA dD cO⟨-,br,ds',r,rfl,kG,rfl,nq⟩;refine bm.mk ⟨b6,0,none⟩ i rfl rfl (by omega) ?_;refine ck.iV (cn.ar ⟨p4,br,ds'⟩) [] (P.map (Value.int .i64)) 3 rfl (by rw[nR,bx];show 0+i*1+1<=_;omega) rfl ((P.set i r).map (Value.int .i64)) (by rw[du,gM];exact oU P i (by omega) r) ?_;refine bd.mk _ (c8 (i:=i) (by omega)) ?_;intro _;exact⟨(i+1,P.set i r,br,ds',cA),⟨⟨iZ _ _ nq,kG,λb o h=>cO _ _ (hq _ _ (a5 _ _ h))⟩,by simp only;omega⟩,.perm (eU (l₁:=cn.ar ⟨p4,br,ds'⟩)) .refl,kN,.cons rfl (.cons rfl (.cons rfl (.nil)))⟩
 ·have c0:i=t.ns.length:=by have:¬ (i:Int)<(t.n:Int):=dv h;omega
  subst c0;obtain⟨gV,hn⟩:=aV.bC;obtain⟨r,en⟩:=eG gV;have eH:r<t.ns.length:=by omega
  obtain⟨T,kw,h0,qd⟩:=bA.jM r eH;have arw:P[r]'(by omega)=(T.bs:Int):=by rw[kw,bS,dg (by omega)];rfl
  refine bm.mk ⟨b6,0,none⟩ r rfl en (by omega) ?_;refine aO.mk _ (Hs (by omega) arw (.head _)) ?_;have m1:=aq9 bg (by simp only;omega) bA.wd.au bA.wd.diff h0;refine a8.mk (cn.ar ⟨p4,os,ds⟩) [dJ b6 P] _ (eU (l₁:=[dJ b6 P])) m1 ?_;rintro v cA dD -⟨cO,rfl,bn,rfl,jN,dz⟩;intro _;refine⟨_,_,.sub (gd _) .refl,λb o h=>cO _ _ (a5 _ _ h),rfl,bn,rfl,jN,?_⟩;rw[show(bI t).lL=(T.bare ds).bu from by rw[qd];unfold aP.lL bI;rw[en]];exact dz
section
end
def arx{d:al}(h:d.k=0)(aB:Go.V.fits d n=true):n=0:=by unfold Go.V.fits at aB;rw[h]at aB;simp[oR,nH]at aB;have aa:jG[0]?.getD 0=0:=rfl;have ad:jG[1]?.getD 0=0:=rfl;rw[aa,ad]at aB;omega
def NW{M0:List aE}(be:e2 I az)(aq:t.ok I)(af:right t=true)(aD:t.n<=1099511627776) :
  Spec Tryz.prog 111 [t.val] I M0 λv I' M'=>(∀ b o,I b=some o->I' b=some o)/\M'=M0/\∃ bn:bk,v=.tuple #[bn.val,.bool true]/\bn.ok I'/\k' bn (bI t).lL:=by
 refine(Spec.frame (aru be aq af aD)).NI ?_;rintro v I' M'⟨M1,rfl,-,-,aa,rfl,ad⟩;exact⟨aa,rfl,ad⟩
def Uc{d:al}(h:d.k=4\/d.k=5)(aB:Go.V.fits d n=true):2<=n:=by
 unfold Go.V.fits at aB;rcases h with e | e<;>rw[e]at aB<;>simp[oR,nH]at aB<;>have:=aB.1.1<;>simp[jG]at this<;>omega
def aeq{d:al}(h:d.k=4\/d.k=5):eZ (.mk (nothing (d.k-4)).bare []):=by
 refine .mk ?_ λc ao=>by cases ao
 rcases h with e | e
 ·rw[show d.k-4=0 by omega];rfl
 ·rw[show d.k-4=1 by omega];rfl
def ary{d:al}{xs:List aP}(aB:Go.V.fits d xs.length=true)(ab:∀ x∈xs,eZ x):eZ (JR d xs):=by
 unfold JR;split
 ·rename_i gA;have ad:=Uc gA aB;have av:∀ y∈xs.filter (kl d),eZ y:=λy aC=>ab y (n4.1 aC).1;generalize xs.filter (kl d)=bo at av
  match bo,av with
  |[],_=>exact aeq gA| [y],av=>exact av y (.head _)| JU::JV::l,av=>exact .mk (T' gA (n:=(xs.length:Nat)) (by omega) (by simp;omega) aB) av
 ·exact .mk aB ab
def aer:∀ {T:aP},eZ T->eZ (T.fold nY):=by
 intro T
 induction T using aP.ind with
 |h d ks aQ=>intro h;rw[aP.fold_eq];refine ary (by rw[bx];exact h.inv.1) λx ab=>?_;obtain⟨c,ao,rfl⟩:=cP.1 ab;exact aQ c ao (h.inv.2 c ao)
def Ud(cd:Option Int):Prop:=cd=none\/cd=some 4\/cd=some 5
def aes(d:al):Ud (iJ d):=by
 unfold iJ Ud;split
 ·rename_i h;rcases h with e | e<;>rw[e]<;>simp
 ·exact .inl rfl
def Ue{α β:Type}{f:α->β}:∀ l:List α,l.map f=l.flatMap λc=>[f c]
 |[]=>rfl| a::l=>by rw[b5,Ue l];rfl
def Uf{α β:Type}{f:α->List β}:∀ {l:List α},(∀ x∈l,1<=(f x).length)->l.length<=(l.flatMap f).length
 |[],_=>b' _| a::l,h=>by have:=Uf (l:=l) λx ab=>h x (.tail _ ab);have:=h a (.head _);rw[iS,cr,et];omega
def arz:∀ {T:aP},eZ T->(∀ cd,Ud cd->1<=(T.fZ cd).length/\∀ U∈T.fZ cd,eZ U)/\eZ T.bu:=by
 intro T
 induction T using aP.ind with
 |h d ks aQ=>
  intro h;obtain⟨aB,ae⟩:=h.inv;have pk:eZ (aP.mk d ks).bu:=by
   show eZ (.mk d (ks.flatMap (aP.fZ (iJ d))));have aa:=Uf (f:=aP.fZ (iJ d)) λc ao=>((aQ c ao (ae c ao)).1 _ (aes d)).1;refine .mk ?_ λU eQ=>?_
   ·by_cases gA:d.k=4\/d.k=5
    ·have:=Uc gA aB;exact T' gA (n:=(ks.length:Nat)) (by omega) (by omega) aB
    ·have e:iJ d=none:=bN gA;have a6:ks.flatMap (aP.fZ (iJ d))=ks.map aP.bu:=by
      rw[e];rw[Ue];refine rT λc _=>?_;cases c with
      |mk d' JK=>rw[aP.qY,bN (by simp)]
     rw[a6,bx];exact aB
   ·obtain⟨c,ao,eQ⟩:=hl.1 eQ;exact((aQ c ao (ae c ao)).1 _ (aes d)).2 U eQ
  refine⟨λcd jW=>?_,pk⟩;rw[aP.qY];split
  ·rename_i e;have gA:d.k=4\/d.k=5:=by
    rcases jW with h | h | h<;>rw[h]at e
    ·cases e
    ·exact .inl (eX e)
    ·exact .inr (eX e)
   have ad:=Uc gA aB;have aa:=Uf (f:=aP.fZ cd) λc ao=>((aQ c ao (ae c ao)).1 _ jW).1;refine⟨by omega,λU eQ=>?_⟩;obtain⟨c,ao,eQ⟩:=hl.1 eQ;exact((aQ c ao (ae c ao)).1 _ jW).2 U eQ
  ·refine⟨b' _,λU eQ=>?_⟩;rw[eN.1 eQ];exact pk
def Dt{T:aP}(h:eZ T):eZ T.lL:=(arz (aer h)).2
def arA{d:al}{xs:List aP}(ab:∀ x∈xs,jd x)(ah:d.bare=d):jd (JR d xs):=by
 unfold JR;split
 ·have av:∀ y∈xs.filter (kl d),jd y:=λy aC=>ab y (n4.1 aC).1;generalize xs.filter (kl d)=bo at av
  match bo,av with
  |[],_=>exact .mk rfl λc ao=>by cases ao
  |[y],av=>exact av y (.head _)| JU::JV::l,av=>exact .mk ah av
 ·exact .mk ah ab
def arB:∀ (T:aP),jd (T.fold nY):=by
 intro T
 induction T using aP.ind with
 |h d ks aQ=>rw[aP.fold_eq];refine arA (λx ab=>?_) rfl;obtain⟨c,ao,rfl⟩:=cP.1 ab;exact aQ c ao
def arC:∀ {T:aP},jd T->(∀ cd,∀ U∈T.fZ cd,jd U)/\jd T.bu:=by
 intro T
 induction T using aP.ind with
 |h d ks aQ=>
  intro h;obtain⟨aB,ae⟩:=h.inv;have pk:jd (aP.mk d ks).bu:=by show jd (.mk d (ks.flatMap (aP.fZ (iJ d))));refine .mk aB λU eQ=>?_;obtain⟨c,ao,eQ⟩:=hl.1 eQ;exact(aQ c ao (ae c ao)).1 _ U eQ
  refine⟨λcd U eQ=>?_,pk⟩;rw[aP.qY]at eQ;split at eQ;·obtain⟨c,ao,eQ⟩:=hl.1 eQ;exact(aQ c ao (ae c ao)).1 _ U eQ
  ·rw[eN.1 eQ];exact pk
def JW(T:aP):jd T.lL:=(arC (arB T)).2
section
variable{α:Type}{F:al->List α->α}(bE:TO F)
include bE
theorem fold_filter{d:al}(xs:List aP)(ab:∀ x∈xs,eZ x):∀ ys:List α,F d (ys++xs.map (aP.fold F))=F d (ys++(xs.filter (kl d)).map (aP.fold F)):=by
 induction xs with
 |nil=>intro ys;rfl
 |cons x xs aQ=>
  intro ys;have aQ:=aQ λy aC=>ab y (.tail _ aC);rw[xT,b5];cases h:kl d x with
  |true=>have:=aQ (ys++[x.fold F]);simpa using this
  |false=>
   unfold kl at h;have aK:d.k=4:=by
    cases e:decide (d.k=4)with
    |true=>exact cJ e| false=>rw[e]at h;cases h
   have ay:x.d.k=0:=by
    cases e:decide (x.d.k=0)with
    |true=>exact cJ e| false=>rw[e,aK]at h;cases h
   have j5:=ab x (.head _);cases x with
   |mk d' ks=>
   have ae:ks=[]:=jl (arx ay j5.inv.1);subst ae;rw[aP.fold_eq,hy,bE.drop d d' ys _ aK ay,aQ];rfl
theorem arD{d:al}{xs:List aP}(ab:∀ x∈xs,eZ x):(nY d xs).fold F=F d (xs.map (aP.fold F)):=by
 have ag:F d.bare=F d:=bE.au d [];rw[JS];have h:=fold_filter bE (d:=d) xs ab [];rw[hX,hX]at h;split
 ·rename_i gA;rw[h];generalize xs.filter (kl d)=bo
  match bo with
  |[]=>
   rw[aP.fold_eq];rcases gA with e | e;·rw[show d.k-4=0 by omega];exact(bE.apY d (nothing 0).bare e rfl).symm
   ·rw[show d.k-4=1 by omega];exact(bE.apZ d (nothing 1).bare e rfl rfl rfl rfl rfl).symm
  |[y]=>exact(bE.one d _ gA).symm| JU::JV::l=>rw[aP.fold_eq,ag]
 ·rw[aP.fold_eq,ag]
theorem arE:∀ {T:aP},eZ T->(T.fold nY).fold F=T.fold F:=by
 intro T
 induction T using aP.ind with
 |h d ks aQ=>
  intro h;obtain⟨aB,ae⟩:=h.inv;rw[aP.fold_eq,arD bE (λx ab=>?_),aP.fold_eq,gu];·congr 1;exact fV λc ao=>aQ c ao (ae c ao)
  ·obtain⟨c,ao,rfl⟩:=cP.1 ab;exact aer (ae c ao)
theorem arF:∀ (T:aP),(∀ d,d.k=4\/d.k=5->∀ xs fi:List α,F d (xs++((T.fZ (some d.k)).map (aP.fold F)++fi))=F d (xs++(T.fold F::fi)))/\T.bu.fold F=T.fold F:=by
 intro T
 induction T using aP.ind with
 |h d ks aQ=>
  have flat:∀ (e:al),e.k=4\/e.k=5->∀ (l:List aP),(∀ c∈l,c∈ks)->∀ xs fi:List α,F e (xs++((l.flatMap (aP.fZ (some e.k))).map (aP.fold F)++fi))=F e (xs++(l.map (aP.fold F)++fi)):=by
   intro e he l
   induction l with
   |nil=>intro _ xs fi;rfl| cons c l T4=>intro ax xs fi;rw[iS,cM,dW,(aQ c (ax c (.head _))).1 e he];have:=T4 (λx ab=>ax x (.tail _ ab)) (xs++[c.fold F]) fi;simpa using this
  have pk:(aP.mk d ks).bu.fold F=(aP.mk d ks).fold F:=by
   show(aP.mk d (ks.flatMap (aP.fZ (iJ d)))).fold F=_;rw[aP.fold_eq,aP.fold_eq];by_cases gA:d.k=4\/d.k=5;·have e:iJ d=some d.k:=bT gA;have:=flat d gA ks (λc ao=>ao) [] [];rw[e];simpa using this
   ·have e:iJ d=none:=bN gA;congr 1;rw[e,AW];rw[Ue (f:=aP.fold F)];refine rT λc ao=>?_;have ad:=(aQ c ao).2;cases c with
    |mk d' JK=>
    rw[aP.qY,bN (by simp),sZ,ad]
  refine⟨λe he xs fi=>?_,pk⟩;rw[aP.qY];split;·rename_i ae;have ae:d.k=e.k:=eX ae;rw[flat e he ks (λc ao=>ao),aP.fold_eq];exact(bE.nest e d xs (ks.map (aP.fold F)) fi he ae).symm
  ·rw[sZ,pk];rfl
theorem Ug{T:aP}(h:eZ T):T.lL.fold F=T.fold F:=(arF bE _).2.trans (arE bE h)
end
namespace aT
def go:aT->List Int->Option aT
 |T,[]=>some T| T,i::p=>if 0<=i/\i<(T.sub.length:Int)then(T.sub.getD i.toNat T).go p else none
def po:aT->List Int->List (Nat×Int)
 |_,[]=>[]| T,i::p=>(T.bs,i)::(T.sub.getD i.toNat T).po p
end aT
namespace aP
def go:aP->List Int->Option aP
 |T,[]=>some T| T,i::p=>if 0<=i/\i<(T.sub.length:Int)then(T.sub.getD i.toNat T).go p else none
def put:aP->List Int->aP->aP
 |_,[],X=>X| T,i::p,X=>.mk T.d (T.sub.set i.toNat ((T.sub.getD i.toNat T).put p X))
end aP
def aet(ns:List al)(T:aT):(T.bare ns).sub=T.sub.map (aT.bare ns):=by
 cases T with
 |mk k ks=>
 rw[aT.nt];rfl
def getD_map{β:Type}(f:α->β)(l:List α)(i:Nat)(a:α):(l.map f).getD i (f a)=f (l.getD i a):=by rw[bS,bS,iB];cases l[i]?<;>rfl
def bare_go(ns:List al):∀ (p:List Int) (T:aT),(T.bare ns).go p=(T.go p).map (aT.bare ns)
 |[],T=>rfl
 |i::p,T=>by
  rw[aP.go,aT.go,aet,bx];split;·rw[getD_map,bare_go ns p]
  ·rfl
def cD.getD{ns:List al}(h:cD ns T)(i:Nat):cD ns (T.sub.getD i T):=by
 rw[bS];cases e:T.sub[i]? with
 |none=>exact h| some c=>exact h.Bb c (rk e)
def cD.go{ns:List al}:∀ (p:List Int) {T:aT},cD ns T->∀ {S},T.go p=some S->cD ns S
 |[],T,h,S,e=>by obtain rfl:=eX e;exact h
 |i::p,T,h,S,e=>by
  rw[aT.go]at e;split at e;·exact cD.go p (h.getD _) e
  ·cases e
structure mg(ds:List al)(JP:List Nat):Prop where
 wd:r9 ds JP
 all:∀ j,j<ds.length->(j:Int)∈eL ds\/j∈JP
def mg.perm{ds:List al}{a b:List Nat}(h:mg ds a)(aJ:a.Perm b):mg ds b:=⟨h.wd.perm aJ,λj ai=>(h.all j ai).imp id λh=>aJ.mem_iff.1 h⟩
def mg.add{ds:List al}(h:mg ds (l++bl)){x:al}(ab:Go.V.fits x l.length=true)(ae:x.au=l.map Int.ofNat):mg (ds++[x]) (ds.length::bl):=by
 refine⟨h.wd.add (by rw[ae,bx];exact ab) (by rw[ae];exact .refl _),λj ai=>?_⟩;have fo:eL (ds++[x])=eL ds++l.map Int.ofNat:=by rw[NV,<-ae];simp[eL]
 rw[cr,od]at ai;rw[fo,cv];by_cases e:j=ds.length
 ·exact .inr (by rw[e];exact .head _)
 ·rcases h.all j (by omega)with aa | aa
  ·exact .inl (.inl aa)
  ·rcases cv.1 aa with aa | aa
   ·exact .inl (.inr (cP.2 ⟨j,aa,rfl⟩))
   ·exact .inr (.tail _ aa)
def mg.nil:mg [] []:=⟨⟨(λd ah=>by cases ah),λj h=>absurd h (ng _),List.Pairwise.nil,(λk ae=>by cases ae),.nil⟩,λj h=>absurd h (ng _)⟩
def mg.right{ds:List al}{r:Nat}(h:mg ds [r])(aD:t.ns=ds)(af:t.bC=(r:Int)):g' t:=by
 subst aD;obtain⟨aa,ad⟩:=h.wd.gT r (.head _);refine⟨by rw[af];omega,λj ai=>h.wd.fits _ (bJ ai),h.wd.au,h.wd.diff,λj ai=>?_⟩;rw[af];constructor
 ·intro hm e;obtain rfl:j=r:=by omega
  exact ad hm
 ·intro bt;rcases h.all j ai with ak | ak
  ·exact ak
  ·exact absurd (by rw[eN.1 ak]) bt
def ff(q:List aT)(i:Nat):Nat:=1+((q.take i).flatMap aT.sub).length
structure vM(S:aT)(q:List aT)(i:Nat):Prop where
 hi:i<=q.length
 eq:q=S::(q.take i).flatMap aT.sub
 lt:∀ j,j<i->j<ff q j
 pm:S.c2.Perm ((q.take i).map aT.bs++(q.drop i).flatMap aT.c2)
def vM.start(S:aT):vM S [S] 0:=⟨dp _,rfl,(λj h=>absurd h (ng _)),by simp⟩
def vM.len(h:vM S q i):i+hF (q.drop i)=S.c2.length/\q.length<=S.c2.length:=by have aa:=h.pm.length_eq;have ad:=h.hi;have ak:=Bd (q.drop i);rw[cr,bx,fO,yi]at aa;rw[pF]at ak;unfold hF at ak |-;omega
def vM.step(h:vM S q i)(hi:i<q.length):vM S (q++q[i].sub) (i+1):=by
 have m1:(q++q[i].sub).take (i+1)=q.take i++[q[i]]:=by rw[BV (by omega),gj hi]
 have Ju:∀ j,j<=i->ff (q++q[i].sub) j=ff q j:=λj ai=>by unfold ff;rw[BV (by omega)]
 refine⟨by rw[cr];omega,?_,λj ai=>?_,?_⟩
 ·rw[m1,fI,nQ]
  conv=>lhs;lhs;rw[h.eq]
  rfl
 ·rw[Ju j (by omega)];by_cases e:j=i
  ·subst e;have:=congrArg List.length h.eq;rw[et]at this;unfold ff;omega
  ·exact h.lt j (by omega)
 ·rw[m1];refine h.pm.trans ?_;have aI:q.drop i=q[i]::q.drop (i+1):=fg hi;have a6:(q++q[i].sub).drop (i+1)=q.drop (i+1)++q[i].sub:=by rw[Q9 (by omega)]
  have cq:q[i].c2=q[i].sub.flatMap aT.c2++[q[i].bs]:=by
   cases q[i]with
   |mk k ks=>exact aT.mL k ks
  rw[aI,a6,iS,cq,cM,fI,sZ,dW,dW];refine TV _ ?_;have aa:=eU (l₁:=q[i].sub.flatMap aT.c2) (l₂:=[q[i].bs]++(q.drop (i+1)).flatMap aT.c2);simpa using aa
def vM.done(h:vM S q q.length):q=S::q.flatMap aT.sub/\(∀ j,j<q.length->j<ff q j)/\q.length=S.c2.length:=by
 obtain⟨aa,ad⟩:=h.len;refine⟨?_,h.lt,?_⟩
 ·have:=h.eq;rwa [D4]at this
 ·rw[List.drop_length]at aa;simpa[hF]using aa
def aeu(hi:i<q.length):ff q (i+1)=ff q i+q[i].sub.length:=by unfold ff;rw[gj hi,fI,cr,nQ];omega
def aev(h:q=S::q.flatMap aT.sub):ff q q.length=q.length:=by unfold ff;rw[D4];have:=congrArg List.length h;rw[et]at this;omega
def aew(h:q=S::q.flatMap aT.sub){j:Nat}(hi:i<q.length)(ai:j<q[i].sub.length):q[ff q i+j]?=some q[i].sub[j]:=by
 have e:q.flatMap aT.sub=(q.take i).flatMap aT.sub++(q[i].sub++(q.drop (i+1)).flatMap aT.sub):=by
  conv=>lhs;rw[<-pM i q,fg hi]
  rw[fI,iS]
 have aa:q[ff q i+j]?=(S::q.flatMap aT.sub)[ff q i+j]?:=congrArg (λl:List aT=>l[ff q i+j]?) h;rw[aa];unfold ff;rw[show 1+((q.take i).flatMap aT.sub).length+j=(((q.take i).flatMap aT.sub).length+j)+1 by omega,Gy,e,l3 (by omega),show((q.take i).flatMap aT.sub).length+j-((q.take i).flatMap aT.sub).length=j by omega,ri ai,dg ai]
structure xl(ns:List al)(cX:Nat)(qX:List Nat)(q:List aT)(i:Nat)(ec:List al):Prop where
 hi:i<=q.length
 len:ec.length=cX+(q.length-i)
 E1:mg ec ((List.range (ff q i-i)).map (λz=>cX+q.length-1-(i+z))++qX)
 jM:∀ p,i<=p->(h:p<q.length)->∃ T:aT,T.bs=cX+q.length-1-p/\cD ec T/\T.bare ec=q[p].bare ns
def xl.start{ns:List al}(h:q=S::q.flatMap aT.sub)(aw:mg ec qX):xl ns ec.length qX q q.length ec:=by refine⟨b' _,by omega,?_,λp aa ad=>absurd ad (by omega)⟩;rw[aev h,mC];exact aw
def xl.step{ns:List al}{cX:Nat}(aL:q=S::q.flatMap aT.sub)(aZ:∀ j,j<q.length->j<ff q j)(h:xl ns cX qX q (i+1) ec)(e5:cD ns (q[i]'(by have:=h.hi;omega)))(aB:∀ d∈ns,fits d d.au.length=true){x:al}(iv:x.bare=(nodeAt ns (q[i]'(by have:=h.hi;omega)).bs).bare)(Bh:x.au=(List.range (ff q (i+1)-ff q i)).map λz=>((cX+q.length-1-(ff q i+z):Nat):Int)) :
  xl ns cX qX q i (ec++[x]):=by
 have hi:i<q.length:=by have:=h.hi;omega
 have av:=aeu hi;have awI:=aZ i hi;have hh:=h.len;have kR:∀ j,j<q[i].sub.length->ff q i+j<q.length:=λj ai=>by have:=aew aL hi ai;exact(hG.1 this).1
 have e8:ec.length=cX+q.length-1-i:=by omega
 refine⟨by omega,by rw[cr,od];omega,?_,λp rY h3=>?_⟩
 ·have gG:ff q (i+1)-ff q i=q[i].sub.length:=by omega
  have ax:((List.range (ff q (i+1)-(i+1))).map (λz=>cX+q.length-1-(i+1+z))++qX).Perm ((List.range q[i].sub.length).map (λz=>cX+q.length-1-(ff q i+z))++((List.range (ff q i-(i+1))).map (λz=>cX+q.length-1-(i+1+z))++qX)):=by
   rw[<-dW];refine List.Perm.append_right _ ?_;have e:ff q (i+1)-(i+1)=(ff q i-(i+1))+q[i].sub.length:=by omega
   rw[e,List.range_add,cM,gu];refine eU.trans (List.Perm.append_right _ ?_);refine List.Perm.of_eq (fV λz bb=>?_);show cX+q.length-1-(i+1+(ff q i-(i+1)+z))=_;omega
  have arG:Go.V.fits x ((List.range q[i].sub.length).map (λz=>cX+q.length-1-(ff q i+z))).length=true:=by
   rw[bx,wR];have aa:=aB _ (bJ e5.nr);rw[<-gr e5.nr,e5.Ba]at aa;unfold e3 at aa;rw[bx]at aa;have ad:Go.V.fits x.bare (q[i].sub.length:Nat)=true:=by rw[iv];exact aa
   exact ad
  have aw:=(h.E1.perm ax).add (x:=x) arG (by rw[Bh,gG,gu];rfl);refine aw.perm ?_;rw[e8];have e:ff q i-i=(ff q i-(i+1))+1:=by omega
  rw[e,List.range_succ_eq_map,b5,gu,pN];refine List.Perm.of_eq ?_;congr 1;congr 1;refine fV λz bb=>?_;show _=cX+q.length-1-(i+(z+1));omega
 ·by_cases e:p=i
  ·subst e;obtain⟨ks,tH,e1⟩:=JJ (R:=λ(z:Nat) (T:aT)=>T.bs=cX+q.length-1-(ff q p+z)/\cD ec T/\∃ bb:z<q[p].sub.length,T.bare ec=q[p].sub[z].bare ns) (l:=List.range q[p].sub.length) λz bb=>by have bb:z<q[p].sub.length:=j9.1 bb;have ag:=kR z bb;obtain⟨T,aa,ad,ak⟩:=h.jM (ff q p+z) (by omega) ag;refine⟨T,aa,ad,bb,?_⟩;have aK:=aew aL hi bb;rw[dg ag]at aK;rw[ak,eX aK]
   rw[wR]at tH;have er:∀ c∈ks,cD ec c:=λc ao=>by obtain⟨z,bb,rfl⟩:=hO ao;exact(e1 z (by simpa using by omega) bb).2.1
   refine⟨.mk ec.length ks,by show ec.length=_;omega,.mk (by simp) ?_ λc ao=>(er c ao).app _,?_⟩;·rw[F4,Bh];refine oH (by simp;omega) λz bb gK=>?_;rw[fW,fW,wE];have:=(e1 z (by simpa using by simpa[tH]using gK) (by simpa using gK)).1;rw[wE]at this;omega
   ·rw[aT.nt,F4,iv];have tO:q[p].bare ns=.mk (nodeAt ns q[p].bs).bare (q[p].sub.map (aT.bare ns)):=by
     cases q[p]with
     |mk k l=>exact aT.nt ns k l
    rw[tO];congr 1;refine oH (by simp[tH]) λz bb gK=>?_;rw[fW,fW];have u':z<ks.length:=by simpa using bb
    obtain⟨-,bi,awJ,ca⟩:=e1 z (by simpa using by omega) u';simp only[wE]at ca;rw[aT.Dq ec (er _ (bJ u')),ca]
  ·obtain⟨T,aa,ad,ak⟩:=h.jM p (by omega) h3;exact⟨T,aa,ad.app _,by rw[aT.Dq ec ad];exact ak⟩
def xl.done{ns:List al}{cX:Nat}(aL:q=S::q.flatMap aT.sub)(h:xl ns cX qX q 0 ec):mg ec ((ec.length-1)::qX)/\∃ T:aT,T.bs=ec.length-1/\cD ec T/\T.bare ec=S.bare ns:=by
 have ax:=h.len;have ay:0<q.length:=by rw[aL];simp
 refine⟨?_,?_⟩
 ·have aw:=h.E1;have e:ff q 0-0=1:=by unfold ff;simp
  rw[e]at aw;have a6:cX+q.length-1-(0+0)=ec.length-1:=by omega
  simpa[a6,ax]using aw
 ·obtain⟨T,aa,ad,ak⟩:=h.jM 0 (b' _) ay;refine⟨T,by omega,ad,?_⟩;rw[ak];congr 1;have:=congrArg (λl:List aT=>l[0]?) aL;rw[dg ay]at this;exact eX this
def kH:a3:=⟨⟨#[]⟩,⟨[],none,0,0,0⟩⟩
def aex:∀ (ds ds':List a3) (a2:List (ByteArray×Int)) (i:Nat),ds.map a3.name=ds'.map a3.name->ob a2 i ds=ob a2 i ds'
 |[],[],_,_,_=>rfl| [],_::_,_,_,h=>by simp at h
 |_::_,[],_,_,h=>by simp at h
 |d::ds,d'::ds',a2,i,h=>by rw[b5,b5,zV]at h;rw[ob,ob,h.1,aex ds ds' _ _ h.2]
def eR(ds:List a3)(u:Nat)(y:bk):List a3:=ds.set u ⟨(ds.getD u kH).name,y⟩
def sb(ds:List a3)(u:Nat)(y:bk):(eR ds u y).length=ds.length:=by simp[eR]
def aey(ds:List a3)(u:Nat)(y:bk):(eR ds u y).map a3.name=ds.map a3.name:=by
 unfold eR;rw[rn];refine zU λi=>?_;rw[iW];split
 ·rename_i h;subst h;rw[bx,iB];by_cases h:u<ds.length
  ·simp[h,bS]
  ·simp[h]
 ·rfl
def Uh(ds:List a3)(u:Nat)(y:bk):bM (eR ds u y)=bM ds:=aex _ _ _ _ (aey ds u y)
def Ui{ds:List a3}{y:bk}(h:i≠u):(eR ds u y)[i]?=ds[i]?:=by unfold eR;rw[iW,bN (λe=>h e.symm)]
def NX{ds:List a3}{y:bk}(h:u<ds.length):(eR ds u y)[u]?=some ⟨ds[u].name,y⟩:=by unfold eR;rw[iW,bT rfl,bT h];simp[bS,h]
def aez{d:a3}(af:right d.t=true):i' pl F d=(ui pl F d.t).1.1:=(apW af).symm
def aeA(af:right t=true):(ui pl F t).1=gv pl F t.ns t.bC:=by obtain⟨gV,hn⟩:=l4 af;obtain⟨r,en⟩:=eG gV;rw[adt,en,M8 af (r+1) r (by omega) (by omega)]
section
end
inductive q0:aP->Prop
 |mk{d:al}{ks:List aP}:(d.k=4\/d.k=5->∀ c∈ks,c.d.k≠d.k/\¬ (c.d.k=0/\d.k=4))->(∀ c∈ks,q0 c)->q0 (.mk d ks)
def q0.inv{d:al}{ks:List aP}(h:q0 (.mk d ks)):(d.k=4\/d.k=5->∀ c∈ks,c.d.k≠d.k/\¬ (c.d.k=0/\d.k=4))/\∀ c∈ks,q0 c:=by
 cases h with
 |mk aa ad=>exact⟨aa,ad⟩
inductive xm:aP->Prop
 |mk{d:al}{ks:List aP}:(d.k=4->∀ c∈ks,c.d.k≠0)->(∀ c∈ks,xm c)->xm (.mk d ks)
def xm.inv{d:al}{ks:List aP}(h:xm (.mk d ks)):(d.k=4->∀ c∈ks,c.d.k≠0)/\∀ c∈ks,xm c:=by
 cases h with
 |mk aa ad=>exact⟨aa,ad⟩
def arH{d:al}{x:aP}(h:kl d x=true)(aK:d.k=4):x.d.k≠0:=by unfold kl at h;intro ay;rw[iX aK,iX ay]at h;cases h
def arI{d:al}{xs:List aP}(ab:∀ x∈xs,xm x):xm (nY d xs):=by
 rw[JS];split
 ·have av:∀ y∈xs.filter (kl d),xm y/\(d.k=4->y.d.k≠0):=λy aC=>⟨ab y (n4.1 aC).1,arH (n4.1 aC).2⟩;generalize xs.filter (kl d)=bo at av
  match bo,av with
  |[],_=>exact .mk (λ_ c ao=>by cases ao) λc ao=>by cases ao
  |[y],av=>exact(av y (.head _)).1| JU::JV::l,av=>exact .mk (λaK c ao=>(av c ao).2 aK) λc ao=>(av c ao).1
 ·rename_i gA;exact .mk (λaK=>absurd (.inl aK) gA) ab
def arJ:∀ (T:aP),xm (T.fold nY):=by
 intro T
 induction T using aP.ind with
 |h d ks aQ=>rw[aP.fold_eq];refine arI λx ab=>?_;obtain⟨c,ao,rfl⟩:=cP.1 ab;exact aQ c ao
def arK:∀ {T:aP},xm T->q0 T.bu/\∀ cd,∀ U∈T.fZ cd,q0 U/\some U.d.k≠cd/\(cd=some 4->T.d.k≠0->U.d.k≠0):=by
 intro T
 induction T using aP.ind with
 |h d ks aQ=>
  intro h;obtain⟨ay,ae⟩:=h.inv;have pk:q0 (aP.mk d ks).bu:=by
   show q0 (.mk d (ks.flatMap (aP.fZ (iJ d))));refine .mk (λgA U eQ=>?_) λU eQ=>?_;·obtain⟨c,ao,eQ⟩:=hl.1 eQ;have e:iJ d=some d.k:=bT gA;rw[e]at eQ;obtain⟨-,ad,ak⟩:=(aQ c ao (ae c ao)).2 _ U eQ;exact⟨λe=>ad (by rw[e]),λe=>ak (by rw[e.2]) (ay e.2 c ao) e.1⟩
   ·obtain⟨c,ao,eQ⟩:=hl.1 eQ;exact((aQ c ao (ae c ao)).2 _ U eQ).1
  refine⟨pk,λcd U eQ=>?_⟩;rw[aP.qY]at eQ;split at eQ;·rename_i e;obtain⟨c,ao,eQ⟩:=hl.1 eQ;obtain⟨aa,ad,ak⟩:=(aQ c ao (ae c ao)).2 _ U eQ;refine⟨aa,ad,λdS bt=>ak dS (ay ?_ c ao)⟩;rw[dS]at e;exact eX e
  ·rename_i e;rw[eN.1 eQ];exact⟨pk,e,λ_ bt=>bt⟩
def arL(T:aP):q0 T.lL:=(arK (arJ T)).1
def arM{ns:List al}{j:Int}(h:j∈eL ns):∃ p,∃ aJ:p<ns.length,j∈ns[p].au:=by unfold eL at h;obtain⟨d,ah,ai⟩:=hl.1 h;obtain⟨p,aJ,rfl⟩:=hO ah;exact⟨p,aJ,ai⟩
def g'.down(h:g' t){P:Nat->Prop}(ay:∀ r:Nat,t.bC=(r:Int)->P r)(step:∀ p (aJ:p<t.ns.length),P p->∀ j:Nat,(j:Int)∈t.ns[p].au->P j):∀ m j,j<t.ns.length->t.ns.length-j<=m->P j
 |0,j,ai,hm=>absurd hm (by omega)
 |m+1,j,ai,hm=>by
  by_cases e:(j:Int)=t.bC;·exact ay j e.symm
  ·obtain⟨p,aJ,vI⟩:=arM ((h.all j ai).2 e);have:=h.au p aJ _ vI;exact step p aJ (h.down ay step m p aJ (by omega)) j vI
def ze(af:right t=true){j:Nat}(ai:j<t.ns.length):fq t.ns j=.mk t.ns[j].bare (t.ns[j].au.map (fq t.ns)):=
 El (λd g eg h=>by rw[fV h]) af ai
def aeB(af:right t=true){j:Int}(ay:0<=j)(aa:j<t.ns.length):(fq t.ns j).d.k=iF t.ns j:=by
 obtain⟨q,rfl⟩:=eG ay;have aL:q<t.ns.length:=by omega
 rw[ze af aL];show t.ns[q].k=_;simp[iF,bS,aL]
def Uj{ns:List al}{kind:Int}:∀ {ks:List Int},ky ns kind ks=true ↔ ∀ k∈ks,iF ns k≠kind/\¬ (iF ns k=0/\kind=4)
 |[]=>by simp[ky]
 |k::ks=>by
  have aQ:=Uj (ns:=ns) (kind:=kind) (ks:=ks);rw[ky];constructor
  ·intro h;cases ag:decide (iF ns k=kind)||(decide (iF ns k=0)&&decide (kind=4))with
   |true=>rw[ag]at h;cases h
   |false=>
    rw[ag]at h;intro x ab;rcases eI.1 ab with rfl | ab;·simp only[tB,Bool.and_eq_false_iff,st]at ag;exact⟨ag.1,λe=>ag.2.elim (λh=>h e.1) λh=>h e.2⟩
    ·exact aQ.1 h x ab
  ·intro h;have aa:=h k (.head _);have ag:(decide (iF ns k=kind)||(decide (iF ns k=0)&&decide (kind=4)))=false:=by rw[eY aa.1,uM,<-JL];exact eY aa.2
   rw[ag];exact aQ.2 λx ab=>h x (.tail _ ab)
def aeC{ns:List al}:∀ {l:List al},kY ns l=true ↔ ∀ d∈l,d.k=4\/d.k=5->∀ k∈d.au,iF ns k≠d.k/\¬ (iF ns k=0/\d.k=4)
 |[]=>by simp[kY]
 |d::l=>by
  have aQ:=aeC (ns:=ns) (l:=l);rw[kY];by_cases gA:d.k=4\/d.k=5
  ·have ag:(!decide (d.k=4) && !decide (d.k=5))=false:=by
    rcases gA with e | e<;>simp[e]
   rw[ag,cE];constructor
   ·intro h;cases ae:ky ns d.k d.au with
    |false=>rw[ae]at h;cases h
    |true=>
     rw[ae]at h;intro x ab;rcases eI.1 ab with rfl | ab;·exact λ_=>Uj.1 ae
     ·exact aQ.1 h x ab
   ·intro h;rw[Uj.2 (h d (.head _) gA)];exact aQ.2 λx ab=>h x (.tail _ ab)
  ·have ag:(!decide (d.k=4) && !decide (d.k=5))=true:=by rw[eY λe=>gA (.inl e),eY λe=>gA (.inr e)];rfl
   rw[ag,cF,aQ];constructor
   ·intro h x ab;rcases eI.1 ab with rfl | ab
    ·exact λe=>absurd e gA
    ·exact h x ab
   ·exact λh x ab=>h x (.tail _ ab)
def Uk:normal t=true ↔ right t=true/\q0 (bI t):=by
 unfold normal;rw[cB];refine and_congr_right λaf=>?_;have aV:=jv.1 af;rw[aeC];constructor
 ·intro h;have key:∀ m j,j<m->j<t.ns.length->q0 (fq t.ns j):=by
   intro m
   induction m with
   |zero=>exact λj h=>absurd h (ng _)
   |succ m aQ=>
    intro j acb ai;rw[ze af ai];refine .mk (λgA c ao=>?_) λc ao=>?_;·obtain⟨k,ae,rfl⟩:=cP.1 ao;have e0:=aV.au j ai k ae;rw[aeB af e0.1 (by omega)];exact h _ (bJ ai) gA k ae
    ·obtain⟨k,ae,rfl⟩:=cP.1 ao;have e0:=aV.au j ai k ae;obtain⟨q,rfl⟩:=eG e0.1;exact aQ q (by omega) (by omega)
  obtain⟨gV,hn⟩:=aV.bC;obtain⟨r,en⟩:=eG gV;unfold bI;rw[en];exact key _ r (BC _) (by omega)
 ·intro h;have key:∀ j,j<t.ns.length->q0 (fq t.ns j):=λj ai=>aV.down (P:=λj=>q0 (fq t.ns j)) (λr en=>by rw[<-en];exact h) (λp aJ qK j vI=>by rw[ze af aJ]at qK;exact qK.inv.2 _ (vF vI)) _ j ai (b' _);intro d ah gA k ae;obtain⟨j,ai,rfl⟩:=hO ah;have aa:=key j ai;rw[ze af ai]at aa;have ad:=aa.inv.1 gA _ (vF ae);have e0:=aV.au j ai k ae;rw[aeB af e0.1 (by omega)]at ad;exact ad
inductive ij(P:al->Prop):aP->Prop
 |mk{d:al}{ks:List aP}:P d->(∀ c∈ks,ij P c)->ij P (.mk d ks)
def ij.inv{P:al->Prop}{d:al}{ks:List aP}(h:ij P (.mk d ks)):P d/\∀ c∈ks,ij P c:=by
 cases h with
 |mk aa ad=>exact⟨aa,ad⟩
section
variable{P:al->Prop}
def aeD(af:right t=true):ij P (bI t) ↔ ∀ d∈t.ns,P d.bare:=by
 have aV:=jv.1 af;constructor
 ·intro h d ah;obtain⟨j,ai,rfl⟩:=hO ah;have aa:=aV.down (P:=λj=>ij P (fq t.ns j)) (λr en=>by rw[<-en];exact h) (λp aJ qK j vI=>by rw[ze af aJ]at qK;exact qK.inv.2 _ (vF vI)) _ j ai (b' _);rw[ze af ai]at aa;exact aa.inv.1
 ·intro h;have key:∀ m j,j<m->j<t.ns.length->ij P (fq t.ns j):=by
   intro m
   induction m with
   |zero=>exact λj h=>absurd h (ng _)
   |succ m aQ=>intro j acb ai;rw[ze af ai];refine .mk (h _ (bJ ai)) λc ao=>?_;obtain⟨k,ae,rfl⟩:=cP.1 ao;have e0:=aV.au j ai k ae;obtain⟨q,rfl⟩:=eG e0.1;exact aQ q (by omega) (by omega)
  obtain⟨gV,hn⟩:=aV.bC;obtain⟨r,en⟩:=eG gV;unfold bI;rw[en];exact key _ r (BC _) (by omega)
def arN(ag:∀ d,P d->P d.bare)(ay:P (nothing 0).bare)(aa:P (nothing 1).bare):∀ {T:aP},ij P T->ij P (T.fold nY):=by
 intro T
 induction T using aP.ind with
 |h d ks aQ=>
  intro h;obtain⟨ah,ae⟩:=h.inv;rw[aP.fold_eq,JS];have ab:∀ x∈ks.map (aP.fold nY),ij P x:=λx ab=>by obtain⟨c,ao,rfl⟩:=cP.1 ab;exact aQ c ao (ae c ao)
  split
  ·rename_i gA;have av:∀ y∈(ks.map (aP.fold nY)).filter (kl d),ij P y:=λy aC=>ab y (n4.1 aC).1;generalize(ks.map (aP.fold nY)).filter (kl d)=bo at av
   match bo,av with
   |[],_=>
    refine .mk ?_ λc ao=>by cases ao
    rcases gA with e | e;·rw[show d.k-4=0 by omega];exact ay
    ·rw[show d.k-4=1 by omega];exact aa
   |[y],av=>exact av y (.head _)| JU::JV::l,av=>exact .mk (ag _ ah) av
  ·exact .mk (ag _ ah) ab
def arO:∀ {T:aP},ij P T->(∀ cd,∀ U∈T.fZ cd,ij P U)/\ij P T.bu:=by
 intro T
 induction T using aP.ind with
 |h d ks aQ=>
  intro h;obtain⟨aB,ae⟩:=h.inv;have pk:ij P (aP.mk d ks).bu:=by show ij P (.mk d (ks.flatMap (aP.fZ (iJ d))));refine .mk aB λU eQ=>?_;obtain⟨c,ao,eQ⟩:=hl.1 eQ;exact(aQ c ao (ae c ao)).1 _ U eQ
  refine⟨λcd U eQ=>?_,pk⟩;rw[aP.qY]at eQ;split at eQ;·obtain⟨c,ao,eQ⟩:=hl.1 eQ;exact(aQ c ao (ae c ao)).1 _ U eQ
  ·rw[eN.1 eQ];exact pk
def Ul(ag:∀ d,P d->P d.bare)(ay:P (nothing 0).bare)(aa:P (nothing 1).bare){T:aP}(h:ij P T):ij P T.lL:=(arO (arN ag ay aa h)).2
def aeE{X:aP}(ox:ij P X):∀ (p:List Int) {T:aP},ij P T->ij P (T.put p X)
 |[],T,h=>ox
 |i::p,.mk d ks,h=>by
  obtain⟨ah,ae⟩:=h.inv;rw[aP.put];show ij P (aP.mk d (ks.set i.toNat ((ks.getD i.toNat (.mk d ks)).put p X)));refine .mk ah λc ao=>?_;rcases xb ao with ao | rfl;·exact ae c ao
  ·refine aeE ox p ?_;rw[bS];cases e:ks[i.toNat]? with
   |none=>exact h| some c=>exact ae c (rk e)
end
def Um(nm:ByteArray):∀ (ds ds':List a3) (i:Nat),ds.map a3.name=ds'.map a3.name->eV nm ds i=eV nm ds' i
 |[],[],_,_=>rfl| [],_::_,_,h=>by simp at h
 |_::_,[],_,h=>by simp at h
 |d::ds,d'::ds',i,h=>by rw[b5,b5,zV]at h;rw[eV,eV,h.1,Um nm ds ds' _ h.2]
def Bi(ds:List a3)(d:al):Prop:=d.k=3->0<=eV d.t ds 0
def arP{g:cU}(iG:g.ds.length=g.n)(hm:c6 az g=0)(hu:u<g.ds.length){y:bk}(aC:normal y=true)(aD:∀ d∈y.ns,Bi g.ds d){h:cU}(q1:h.n=g.n)(ao:h.ds.map a3.a4=(eR g.ds u y).map a3.a4) :
  c6 az h=0\/c6 az h=40:=by
 have aI:c6 az h=c6 az (r5 (eR g.ds u y)):=by rw[<-CI,<-CI az (r5 _)];congr 1;unfold cU.a4 r5;rw[ao,q1,sb,iG]
 rw[aI];obtain⟨aa,ad,ak,aK,bz⟩:=JE.1 hm;have ax:=sb g.ds u y;have mu:=aey g.ds u y;have gh:∀ d∈eR g.ds u y,d∈g.ds\/d=⟨g.ds[u].name,y⟩:=λd ah=>by
  obtain⟨i,hi,rfl⟩:=hO ah;by_cases e:i=u;·subst e;have ak:=NX (y:=y) hu;rw[dg hi]at ak;exact .inr (eX ak)
  ·have ak:=Ui (ds:=g.ds) (y:=y) e;rw[dg hi,dg (by omega)]at ak;rw[eX ak];exact .inl (bJ _)
 have bg:=fS.1 ad;have nu:oa (eR g.ds u y)=true:=fS.2 λd ah=>by
  rcases gh d ah with h | rfl;·exact bg d h
  ·have:=bg _ (bJ hu);rw[cB]at this |-;exact⟨this.1,aC⟩
 have eC:(List.range (eR g.ds u y).length).all (p7 (eR g.ds u y))=true:=fS.2 λi hi=>by
  rw[j9,ax]at hi;have cu:=aK i hi;unfold p7 at cu |-;have a6:((eR g.ds u y)[i]'(by omega)).name=g.ds[i].name:=by
   have ep:((eR g.ds u y).map a3.name)[i]?=(g.ds.map a3.name)[i]?:=by rw[mu]
   rw[iB,iB,dg (by omega),dg hi]at ep;exact eX ep
  rw[dg hi]at cu;rw[dg (by omega)];show decide (eV ((eR g.ds u y)[i]'(by omega)).name _ 0=_)=true;rw[a6,Um _ _ _ _ mu];exact cu
 have dL:((eR g.ds u y).all λd=>d.t.ns.all (yV (eR g.ds u y)))=true:=fS.2 λd ah=>fS.2 λn xX=>by
  unfold yV;rw[Um _ _ _ _ mu];have:Bi g.ds n:=by
   rcases gh d ah with h | rfl;·exact bz d h n xX
   ·exact aD n xX
  by_cases e:n.k=3;·rw[iX (this e),Lx]
  ·rw[eY e];rfl
 rw[<-ab5];unfold M2;have arQ:oa (r5 (eR g.ds u y)).ds=true:=nu;have arR:(List.range (r5 (eR g.ds u y)).ds.length).all (p7 (r5 (eR g.ds u y)).ds)=true:=eC;have arS:((r5 (eR g.ds u y)).ds.all λd=>d.t.ns.all (yV (r5 (eR g.ds u y)).ds))=true:=dL;rw[arQ,arR,arS,eY (by show ¬ (((eR g.ds u y).length:Nat):Int)=0;omega)];cases pV az (r5 (eR g.ds u y))with
 |true=>exact .inr rfl| false=>exact .inl rfl
def arT(n b:Nat):Value:=.slice (some ⟨b,0,none⟩) n n
def arU(n:Nat)(cz:List Nat):List Value:=cz.map (arT n)++List.replicate (n-cz.length) (.slice none 0 0)
def ie(qz n:Nat)(cz:List Nat):aE:=⟨qz,.cells (arU n cz).toArray 193 (0,0)⟩
section
end
def um(x:Nat×Int):List Value:=[.int .i64 x.1,.int .i64 x.2]
structure arV(t:bk)(T:aT)(path:List Int)(x:Nat×aR×List (Nat×Int)×aT):Prop where
 hi:x.1<=path.length
 os:x.2.1.ok 2 (x.2.2.1.flatMap um)
 len:x.2.2.1.length=x.1
 po:x.2.2.1++x.2.2.2.po (path.drop x.1)=T.po path
 go:x.2.2.2.go (path.drop x.1)=T.go path
 bF:cD t.ns x.2.2.2
 Jl:x.1+x.2.2.2.bs<=T.bs
def arW(T:aT)(path:List Int)(I:aH)(v:Value)(I':aH)(M':List aE):Prop:=I'=I/\∃ (os:aR) (l:List (Nat×Int)) (k:Nat) (b:Bool),v=.tuple #[os.val,.int .i64 k,.bool b]/\M'=os.ar 268/\os.ok 2 (l.flatMap um) /\
 match T.go path with
 |none=>b=false| some S=>b=true/\k=S.bs/\l=T.po path/\l.length<=T.bs
def arX(aq:t.ok I)(ae:r6 t.ns)(be:cD t.ns T)(m5:t.bC=(T.bs:Int))(aD:t.n<=1099511627776){pa:Option Addr}{pn pc:Nat}{path:List Int}(aJ:cI I pa pn pc 1 8 (path.map (.int .i64 ·))) :
  Spec Tryz.prog 170 [t.val,.slice pa pn pc] I [] (arW T path I):=by
 refine bV [] aY Tryz.func170 rfl rfl rfl ?_;intro B ay;have hk:=aq.n;have rI:path.length=pn:=by have:=aJ.len;simpa using this
 have yq:cI I pa pn pc 1 8 (path.flatMap iI):=by rw[oq];exact aJ
 have arY:=be.nr;refine dt.inv (ι:=Nat×aR×List (Nat×Int)×aT) (λx=>{ bo:=[(2,.ref 2 0),(7,.val x.2.1.val),(8,.val (.int .i64 x.2.2.2.bs)),(14,.val (.slice pa pn pc)),(15,.val (.int .i64 pn)),(16,.val (.int .i64 x.1))],cl:=[(2,t.cells)],cH:=I,dd:=x.2.1.ar 268 }) (arV t T path) (λx=>path.length-x.1) ?_ ?_
 ·refine⟨(0,h2,[],T),⟨dp _,k1 2,rfl,rfl,rfl,be,by simp only;omega⟩,.refl,.cons .refl (.cons .refl (.cons ?_ (fG))),.cons rfl (.nil)⟩;simp only;rw[<-m5];exact .refl
 rintro⟨i,os,l,S⟩⟨hi,b4,nD,Bj,fv,e5,h8⟩;simp only at hi b4 nD Bj fv e5 h8;have ic:os.n=i:=by have:=b4.len;rw[gO um 2 (λ_=>rfl),nD]at this;omega
 have qc:=e5.nr;refine aX.mk (λh=>?_) (λh=>?_)
 ·have aZ:i<path.length:=by have:(i:Int)<(pn:Int):=cJ h;omega
  have ie:path.drop i=path[i]::path.drop (i+1):=fg aZ;rw[ie]at Bj fv;obtain⟨arZ,aeg,nv⟩:=yq.row (f:=iI) (λ_=>rfl) (j:=i) (by omega) aZ;obtain⟨m9,nP,jD⟩:=aq.a'.row al.cL (j:=S.bs) (by omega) qc;have ah:=aq.ns _ (bJ qc);have er:=e5.Ba;rw[gr qc]at er;generalize t.ns[S.bs]=d at ah jD er;have fj:=ah.aG;have c7:d.au.length=S.sub.length:=by rw[er];simp[e3]
  generalize su:path[i]=m7 at nv Bj fv;refine bm.mk arZ i aeg rfl (by omega) ?_;refine aO.mk _ (nv _) ?_;refine bm.mk m9 S.bs nP rfl (by omega) ?_;refine aO.mk _ ((jD _).part (k:=8) (m:=1) (by decide)) ?_;refine bX.mk (λaK=>?_) (λaK=>?_)
  ·have ar0:0<=m7:=by have:¬ m7<0:=dv aK;omega
   refine aX.mk (λbz=>?_) (λbz=>?_);·have c0:(d.aG:Int)<=m7:=cJ bz;refine⟨_,_,.sub (gd _) .refl,rfl,h2,[],0,false,rfl,rfl,k1 2,?_⟩;rw[<-fv,aT.go,bN (by omega)]
   ·have F9:m7<(d.aG:Int):=by have:¬ (d.aG:Int)<=m7:=dv bz;omega
    obtain⟨z,rfl⟩:=eG ar0;have bb:z<S.sub.length:=by omega
    have uU:S.sub.getD z S=S.sub[z]:=by simp[bS,bb]
    rw[aT.go,bT (by omega),hH,uU]at fv;rw[aT.po,hH,uU]at Bj;have ar1:d.au[z]'(by omega)=((S.sub[z]).bs:Int):=by
     have:d.au[z]?=(e3 S.sub)[z]?:=by rw[er]
     rw[dg (by omega)]at this;unfold e3 at this;rw[iB,dg bb]at this;exact eX this
    have NM:(S.sub[z]).bs<S.bs:=by
     cases S with
     |mk k ks=>exact e5.TR ae (bJ bb)
    have Dr:cI I d.b0 d.aG d.ch 1 8 (d.au.flatMap iI):=by rw[oq];exact ah.a'
    obtain⟨gn,fo,fh⟩:=Dr.row (f:=iI) (λ_=>rfl) (j:=z) (by omega) (by omega);rw[ar1]at fh;refine bW.mk λb9 m8 uk=>?_;refine bD.k5 aY rfl (by simp) (e:=268) rfl rfl rfl os b4 rfl (cs:=[.int .i64 S.bs,.int .i64 z]) rfl rfl rfl [] [] (by simp;rfl) (by omega) (by show(os.n+1)*16<=_;omega) ?_;intro ix aa ad ak;refine bm.mk gn z fo rfl (by omega) ?_;refine aO.mk _ (fh _) ?_;refine bd.mk _ (c8 (i:=i) (by omega)) ?_;refine⟨(i+1,ix,l++[(S.bs,(z:Int))],S.sub[z]),⟨⟨aZ,?_,by simp[nD],?_,fv,e5.Bb _ (bJ bb),by simp only;omega⟩,by simp only;omega⟩,.ma (by simp),zz,.cons rfl (.nil)⟩;·rw[fI];exact ak
    ·rw[dW];exact Bj
  ·have awK:m7<0:=cJ aK;refine⟨_,_,.sub (gd _) .refl,rfl,h2,[],0,false,rfl,rfl,k1 2,?_⟩;rw[<-fv,aT.go,bN (by omega)]
 ·have c0:i=path.length:=by have:¬ (i:Int)<(pn:Int):=dv h;omega
  subst c0;rw[List.drop_length]at Bj fv;refine⟨_,_,.refl,rfl,os,l,S.bs,true,rfl,rfl,b4,?_⟩;rw[<-fv];rw[aT.po,dF]at Bj;exact⟨rfl,rfl,Bj,by omega⟩
section
variable{X:c3}{β:Nat->Nat}{a:Act}{w:World}{F:Fr}{C:dN}{I:aH}{M:List aE}{o:Oper}{K:gl}
def ar2(aN:cW X.P X.E){t:Nat}(aA:o.op=.call { callee:=.builtin .append,args:=#[s,x],argTypes:=#[t,u] })(ah:∀ d,o.dst=some d->d<X.n)
  {e:Nat} {lY:ea} (aq:X.E t=some db) (dk:db.bP=.slice e) (hu:X.E u=some lY) (fN:∀ k,lY.bP≠.int k) (he:X.E e=some aF)
  (os:aR) (bg:os.ok aF.size xs) (av:bH F s=.val os.val)
  {pL:Value} (ab:bH F x=.val pL) (hm:0<m) (ax:cb.length=m*aF.size) (aa:fK cb=true)
  (cS:∀ w',(Builtin.lenOf pL).run X.P w'=.ok m w') (e8:∀ w,eM I M w->(Builtin.firstCells aF.size m pL).run X.P w=.ok cb.toArray w)
 (ba:M.Perm (os.ar e++Mr)) (b1:os.n+m<=maxLen) (b8:(os.n+m)*aF.bytes<=140737488355328)
  (k:∀ (g c:Nat) (aS:List Value) (J:List aE),I g=none->aS.length=c*aF.size->os.n+m<=c->c<=maxLen->aS.take ((os.n+m)*aF.size)=xs++cb->((os.a=some g/\J=[])\/J=os.ar e) ->
   K (put o.dst (.val (.slice (some ⟨g,0,none⟩) (os.n+m) c)) F) C I (⟨g,.cells aS.toArray e (0,0)⟩::(J++Mr))):bD X o F C I M K:=by
 refine⟨λa w Q ⟨β,iT⟩=>?_⟩;have aV:cN X β a w F C I (os.ar e++Mr):=iT.h7 (.perm ba .refl);obtain⟨inf,z,hi,ft,hW,im,kb⟩:=(aN _ _ he).inf;obtain⟨d,fP,fl⟩:=(aN _ _ hu).fs;obtain⟨g3,iU,kS⟩:=(aN _ _ aq).fs;have oO:g3=.slice e:=by rw[dk]at kS;cases g3<;>simp_all[fr]
 subst oO;have qx:z.cells.size=inf.size:=by rw[ft,<-(aN _ _ he).len,<-kb];simp
 rw[<-ft]at bg ax e8;obtain⟨g,c,aS,w',fb,bc,bi,ca,gf,n6⟩:=Pm (P:=X.P) (w:=w) t u o.type e inf z iU fP (λk cZ=>fN k (by rw[<-fl,cZ];rfl)) hi im qx bg (λg aw=>aV.holds.m ⟨g,.cells os.aS.toArray e (0,0)⟩ (by simp[aR.ar,aw])) (x:=pL) hm ax (zq aa) cS (λw' x5=>e8 w' (iT.holds.heap x5)) b1 (by rw[hW];exact b8);rw[ft]at bc gf;have zN:I g=none:=by
  rcases n6 with⟨aw,_⟩ | ⟨rfl,_⟩;·exact aV.holds.d ⟨g,.cells os.aS.toArray e (0,0)⟩ (by simp[aR.ar,aw])
  ·cases bA:I w.heap.size with
   |none=>rfl| some nF=>have:=aV.holds.i _ _ bA;simp at this
 have es:=dj aV.an av;have ex:=dj aV.an ab;rcases n6 with⟨aw,hw⟩ | ⟨rfl,hw⟩
 ·refine iN (by rw[aA];simp) (v:=.slice (some ⟨g,0,none⟩) (os.n+m) c) (w':=w') ?_ ⟨_,_,_,_,⟨β,cN.put (x:=.val (.slice (some ⟨g,0,none⟩) (os.n+m) c)) ?_ ah rfl⟩,k g c aS [] zN bc bi ca gf (.inl ⟨aw,rfl⟩)⟩
  ·unfold execOp;simp only[aA,resolve,invoke,builtin,cp,da,bZ,rm,b5,hy,es,ex,fb]
  ·subst hw;have ag:os.ar e=[⟨g,.cells os.aS.toArray e (0,0)⟩]:=by simp[aR.ar,aw]
   rw[ag]at aV;exact aV.xI (a9:=[]) (post:=Mr) rfl
 ·refine iN (by rw[aA];simp) (v:=.slice (some ⟨_,0,none⟩) (os.n+m) c) (w':=w') ?_ ⟨_,_,_,_,⟨β,cN.put (x:=.val (.slice (some ⟨_,0,none⟩) (os.n+m) c)) ?_ ah rfl⟩,k _ c aS (os.ar e) zN bc bi ca gf (.inr rfl)⟩
  ·unfold execOp;simp only[aA,resolve,invoke,builtin,cp,da,bZ,rm,b5,hy,es,ex,fb]
  ·subst hw;have ad:cN X β a w.drew F C I (os.ar e++Mr):=aV.world rfl;exact ad.n2 (.cells aS.toArray e (0,0))
def bD.aeF(aN:cW X.P X.E){t:Nat}(aA:o.op=.call { callee:=.builtin .append,args:=#[s,x],argTypes:=#[t,t] })(ah:∀ d,o.dst=some d->d<X.n)
  {e:Nat} (aq:X.E t=some db) (dk:db.bP=.slice e) (he:X.E e=some aF)
  (os:aR) (bg:os.ok aF.size xs) (av:bH F s=.val os.val)
 (ab:bH F x=.val (.slice (some ⟨b9,0,none⟩) 1 c')) (ax:cs.length=aF.size) (aa:fK cs=true)
  (a9 post:List aE) (ba:M=⟨b9,.cells cs.toArray e (0,0)⟩::(a9++(os.ar e++post))) (b1:os.n+1<=9223372036854775807) (b8:(os.n+1)*aF.bytes<=140737488355328)
  (k:∀ (br:aR) (J:List aE),br.n=os.n+1->(∀ g,br.a=some g->I g=none)->br.ok aF.size (xs++cs)->(∀ g∈(os.ar e).map (·.num),g∈(br.ar e++J).map (·.num))->K (put o.dst (.val br.val) F) C I (a9++(br.ar e++(J++post)))):bD X o F C I M K:=by
 refine .h7 (ar2 aN aA ah aq dk aq (λk=>by rw[dk];simp) he os bg av ab (m:=1) (cb:=cs) (by decide) (by rw[oI];exact ax) aa (λ_=>rfl) (λw hw=>?_) (Mr:=⟨b9,.cells cs.toArray e (0,0)⟩::(a9++post)) ?_ (by unfold maxLen;exact b1) b8 ?_)
 ·refine run_firstCells_some (P:=X.P) w aF.size 1 ⟨b9,0,none⟩ 1 c' cs (by rw[oI];exact ax) λj v ai=>?_;have ag:w.heap[b9]?=some (.cells cs.toArray e (0,0)):=hw.m ⟨b9,.cells cs.toArray e (0,0)⟩ (by rw[ba];exact .head _);rw[eS _ rfl,tl ag];simpa using ai
 ·rw[ba];have ad:(⟨b9,.cells cs.toArray e (0,0)⟩::(a9++(os.ar e++post)):List aE).Perm (⟨b9,.cells cs.toArray e (0,0)⟩::(os.ar e++(a9++post))):=.cons _ (yg _ _ _);exact ad.trans na.symm
 ·intro g c aS J bA ew e' fe jZ a5;refine⟨I,a9++((⟨some g,os.n+1,c,aS⟩:aR).ar e++(J++post)),.perm (M1:=⟨b9,.cells cs.toArray e (0,0)⟩::(a9++((⟨some g,os.n+1,c,aS⟩:aR).ar e++(J++post)))) ?_ (.sub (.cons _ (.refl _)) .refl),k ⟨some g,os.n+1,c,aS⟩ J rfl (λeg aw=>by cases aw;exact bA) ⟨?_,(λh=>by cases h),λeg aw=>?_⟩ λx ab=>?_⟩
  ·have aI:((⟨some g,os.n+1,c,aS⟩:aR).ar e)=[⟨g,.cells aS.toArray e (0,0)⟩]:=rfl;rw[aI];have Es:(⟨g,.cells aS.toArray e (0,0)⟩::(J++(⟨b9,.cells cs.toArray e (0,0)⟩::(a9++post))):List aE).Perm (⟨b9,.cells cs.toArray e (0,0)⟩::(⟨g,.cells aS.toArray e (0,0)⟩::(J++(a9++post)))):=(List.Perm.cons _ na).trans (List.Perm.swap _ _ _);refine Es.trans (List.Perm.cons _ ?_);have Et:(⟨g,.cells aS.toArray e (0,0)⟩::(J++(a9++post)):List aE).Perm (⟨g,.cells aS.toArray e (0,0)⟩::(a9++(J++post))):=List.Perm.cons _ (yg _ _ _);exact Et.trans na.symm
  ·rw[cr,bg.len,ax,lX,oI]
  ·cases aw;exact⟨ew,e',fe,jZ⟩
  ·rw[cM,cv];rcases a5 with⟨aa,rfl⟩ | rfl
   ·left
    have:os.ar e=[⟨g,.cells os.aS.toArray e (0,0)⟩]:=by simp[aR.ar,aa]
    rw[this]at ab;simpa[aR.ar]using ab
   ·exact .inr ab
end
structure JX(ns:List al)(I:aH)(os:aR)(ec:List al)(J:aH):Prop where
 a5:∀ b o,I b=some o->J b=some o
 os:os.ok 9 (ec.flatMap al.cells)
 ok:∀ d∈ec,d.ok J
 a9:∃ m,ec=ns++m
def zf(os br:aR)(je:List aE):Prop:=∀ g∈(os.ar 82).map (·.num),g∈(br.ar 82++je).map (·.num)
def ar3(S:aT)(tns ns:List al)(qX:List Nat)(os:aR)(I:aH)(v:Value)(I':aH)(M':List aE):Prop:=
 ∃ (br:aR) (jc:List al) (je:List aE),v=.tuple #[br.val,.int .i64 ((jc.length-1:Nat):Int)]/\M'=br.ar 82++je/\zf os br je/\JX ns I br jc I'/\mg jc ((jc.length-1)::qX)/\jc.length=ns.length+S.c2.length/\∃ mq:aT,mq.bs=jc.length-1/\cD jc mq/\mq.bare jc=S.bare tns
def F'(cX len e j:Nat):Int:=((cX+len-1-(e+j):Nat):Int)
def ar4(h:q=S::q.flatMap aT.sub)(i:Nat):ff q i<=q.length:=by
 have aa:=congrArg List.length h;have e:q.flatMap aT.sub=(q.take i).flatMap aT.sub++(q.drop i).flatMap aT.sub:=by rw[<-fI,pM]
 rw[et,e,cr]at aa;unfold ff;omega
structure ar5(cX len e aG:Nat)(y:Nat×List Int):Prop where
 j:y.1<=aG
 L:y.2.length=aG
 eq:y.2.take y.1=(List.range y.1).map (F' cX len e)
def aeG(aq:t.ok I)(aB:∀ d∈t.ns,fits d d.au.length=true)(cc:cD t.ns S){ns:List al}(b4:os.ok 9 (ns.flatMap al.cells))(jn:∀ d∈ns,d.ok I)(aw:mg ns qX)(ag:ns.length+S.c2.length<=1099511627776) :
  Spec Tryz.prog 176 [os.val,t.val,.int .i64 S.bs] I (os.ar 82) (ar3 S t.ns ns qX os I):=by
 refine xQ [] aY Tryz.func176 rfl rfl rfl ?_;intro B ay;have hk:=aq.n;have ic:os.n=ns.length:=by have:=b4.len;rw[gO _ 9 al.cL]at this;omega
 refine bW.mk λb1 jF T1=>?_;refine dt.inv (ι:=Nat×aR×List aT) (λx=>{ bo:=[(0,.val os.val),(4,.ref 4 0),(8,.val x.2.1.val),(9,.val (.int .i64 x.1))],cl:=[(4,t.cells)],cH:=I,dd:=x.2.1.ar 3++os.ar 82 }) (λx=>vM S x.2.2 x.1/\x.2.1.ok 1 ((e3 x.2.2).map (.int .i64 ·))/\∀ c∈x.2.2,cD t.ns c) (λx=>S.c2.length-x.1) ?_ ?_
 ·refine⟨(0,⟨some b1,1,1,[.int .i64 S.bs]⟩,[S]),⟨vM.start S,⟨rfl,(λh=>by cases h),λeg jU=>⟨rfl,b' _,by simp[maxLen],rfl⟩⟩,λc ao=>?_⟩,.refl,ee,.cons rfl (.nil)⟩;rw[eN.1 ao];exact cc
 rintro⟨i,ro,q⟩⟨bA,jj,e5⟩;simp only at bA jj e5;obtain⟨rA,sF⟩:=bA.len;have jD:=jj.pW;simp only[e3,bx]at jD;refine aX.mk (λh=>?_) (λh=>?_)
 ·have aZ:i<q.length:=by have:(i:Int)<(ro.n:Int):=cJ h;omega
  have gi:=e5 _ (bJ aZ);have Du:=gi.nr;obtain⟨Un,Uo,en⟩:=aR.CB (I:=I) (e:=3) (M:=ro.ar 3++os.ar 82) jj (λx ab=>by simp[ab]) (j:=i) (by simp[e3,aZ]);have zb:(e3 q)[i]'(by simp[e3,aZ])=(q[i].bs:Int):=by simp[e3]
  rw[zb]at en;obtain⟨m9,nP,Bk⟩:=aq.a'.row al.cL (j:=q[i].bs) (by omega) Du;have ah:=aq.ns _ (bJ Du);have er:=gi.Ba;rw[gr Du]at er;generalize t.ns[q[i].bs]=d at ah Bk er;have fj:=ah.aG;have pY:=ah.a'.cap;have c7:d.au.length=q[i].sub.length:=by rw[er];simp[e3]
  have fu:=bA.step aZ;obtain⟨pK,MT⟩:=fu.len;rw[cr]at MT;refine cT.draw aY rfl rfl rfl ?_;refine bm.mk Un i Uo rfl (by show i<ro.n;omega) ?_;refine aO.mk _ en ?_;refine bm.mk m9 q[i].bs nP rfl (by omega) ?_;refine aO.mk _ ((Bk _).part (k:=8) (m:=1) (by decide)) ?_;refine bD.wS aY rfl (by simp) (e:=3) rfl rfl rfl ro jj rfl (sa:=d.b0) (m:=d.aG) (c':=d.ch) (cb:=d.au.map (.int .i64 ·)) rfl (by rw[bx,fj];show _=d.aG*1;omega) (λay=>ah.a'.y1 _ ay) (FQ _) [] (os.ar 82) rfl (by omega) (by show(ro.n+d.aG)*8<=_;omega) ?_;intro s3 acW acX iU;rw[<-cM,er,<-F6]at iU;refine bd.mk _ (c8 (i:=i) (by omega)) ?_;refine⟨(i+1,s3,q++q[i].sub),⟨⟨fu,iU,λc ao=>?_⟩,by simp only;omega⟩,.refl,ee,.cons rfl (.nil)⟩;rcases cv.1 ao with ao | ao;·exact e5 c ao
  ·exact gi.Bb c ao
 ·have c0:i=q.length:=by have:¬ (i:Int)<(ro.n:Int):=dv h;have:=bA.hi;omega
  subst c0;obtain⟨aL,aZ,hC⟩:=bA.done;have yb:0<q.length:=by rw[aL];simp
  refine bd.mk ((q.length:Int)-1) (by show IntKind.i64.wrap ((ro.n:Int)-1)=_;rw[wrap_i64 ⟨by omega,by omega⟩,jD]) ?_;refine dt.uJ (ι:=Nat×aR×List al×aH×List aE) (λx=>{ bo:=[(0,.val x.2.1.val),(4,.ref 4 0),(8,.val ro.val),(10,.val (.int .i64 (ff q x.1))),(11,.val (.int .i64 ((x.1:Int)-1)))],cl:=[(4,t.cells)],cH:=x.2.2.2.1,dd:=x.2.1.ar 82++(x.2.2.2.2++ro.ar 3) }) (λx=>xl t.ns ns.length qX q x.1 x.2.2.1/\JX ns I x.2.1 x.2.2.1 x.2.2.2.1/\zf os x.2.1 x.2.2.2.2) (λx=>x.1) ?_ ?_;·intro _;refine⟨(q.length,os,ns,I,[]),⟨xl.start aL aw,⟨λ_ _ h=>h,b4,jn,[],by simp⟩,λg aw=>by rw[dF];exact aw⟩,.perm eU .refl,.cons .refl (.cons .refl (.cons .refl (.cons ?_ (.cons .refl (.nil))))),.cons rfl (.nil)⟩;simp only;rw[aev aL,<-jD];exact .refl
  rintro⟨i,no,ec,J,je⟩⟨fA,fu,yo⟩;simp only at fA fu yo;have hh:=fA.len;have eK:=fu.os;have Up:no.n=ec.length:=by have:=eK.len;rw[gO _ 9 al.cL]at this;omega
  refine aX.mk (λh=>?_) (λh=>?_)
  ·have aeH:(0:Int)<=(i:Int)-1:=cJ h;obtain⟨z,rfl⟩:∃ z,i=z+1:=⟨i-1,by omega⟩;have x8:z<q.length:=fA.hi;have gi:=e5 _ (bJ x8);have Du:=gi.nr;obtain⟨Un,Uo,en⟩:=aR.CB (I:=J) (e:=3) (M:=no.ar 82++(je++ro.ar 3)) jj (λx ab=>by simp[ab]) (j:=z) (by simp[e3,x8]);have zb:(e3 q)[z]'(by simp[e3,x8])=(q[z].bs:Int):=by simp[e3]
   rw[zb]at en;obtain⟨m9,nP,Bk⟩:=(aq.a'.mono fu.a5).row al.cL (j:=q[z].bs) (by omega) Du;have ah:=(aq.ns _ (bJ Du)).mono fu.a5;have er:=gi.Ba;have mJ:=gr Du;rw[mJ]at er;generalize t.ns[q[z].bs]=d at ah Bk er mJ;have fj:=ah.aG;have pY:=ah.a'.cap;have c7:d.au.length=q[z].sub.length:=by rw[er];simp[e3]
   refine cT.draw aY rfl rfl rfl ?_;refine bm.mk Un z Uo (by show((z+1:Nat):Int)-1=z;omega) (by show z<ro.n;omega) ?_;refine aO.mk _ en ?_;refine bm.mk m9 q[z].bs nP rfl (by omega) ?_;refine aO.mk _ (Bk _) ?_;refine bW.mk λgW aeI aeJ=>?_;refine ck.mk [] (no.ar 82++(je++ro.ar 3)) _ _ rfl rfl (bK rfl) rfl ?_;refine aO.mk [.slice d.b0 d.aG d.ch] (dr (cs:=d.cells) (k:=8) (n:=1) (T:=82) (.head _) (bK rfl)) ?_;have Eo:=aeu x8;have awL:=ar4 aL (z+1);refine pB.mk d.aG d.aG rfl rfl (b' _) (by show 8*d.aG<=_;omega) (by omega) ?_;refine bW.mk λlM awM awN=>?_;refine bd.mk ((ff q z:Nat):Int) (by show IntKind.i64.wrap (((ff q (z+1):Nat):Int)-(d.aG:Int))=_;rw[wrap_i64 ⟨by omega,by omega⟩];omega) ?_;have Tn:(rowOf [Value.int .i64 0] (d.aG*1))=(List.replicate d.aG (0:Int)).map (Value.int .i64):=by rw[Ca,BX,gM]
   refine dt.inv (ι:=Nat×List Int) (λy=>{ bo:=[(0,.val no.val),(4,.ref 4 0),(8,.val ro.val),(10,.val (.int .i64 (ff q z))),(11,.val (.int .i64 (((z+1:Nat):Int)-1))),(12,.val (ptr gW)),(13,.val (.slice (some ⟨lM,0,none⟩) d.aG d.aG)),(60,.val (.int .i64 d.aG)),(61,.val (.int .i64 y.1))],cl:=[(4,t.cells)],cH:=J,dd:=dJ lM y.2::⟨gW,.cells d.cells.toArray 82 (0,0)⟩::(no.ar 82++(je++ro.ar 3)) }) (ar5 ns.length q.length (ff q z) d.aG) (λy=>d.aG-y.1) ?_ ?_;·refine⟨(0,List.replicate d.aG 0),⟨dp _,zQ,rfl⟩,.ma ?_,lV,.cons rfl (.nil)⟩;rw[Tn];rfl
   rintro⟨j,L⟩⟨ai,bY,vu⟩;simp only at ai bY vu;refine aX.mk (λad=>?_) (λad=>?_)
   ·have fB:j<d.aG:=by have:(j:Int)<(d.aG:Int):=cJ ad;omega
    refine bd.mk (((no.n+z:Nat)):Int) (by show IntKind.i64.wrap ((no.n:Int)+(((z+1:Nat):Int)-1))=_;rw[wrap_i64 ⟨by omega,by omega⟩];omega) ?_;refine bd.mk (((ff q z+j:Nat)):Int) (by show IntKind.i64.wrap (((ff q z:Nat):Int)+(j:Int))=_;rw[wrap_i64 ⟨by omega,by omega⟩];omega) ?_;refine bd.mk (F' ns.length q.length (ff q z) j) (by show IntKind.i64.wrap (((no.n+z:Nat):Int)-((ff q z+j:Nat):Int))=_;rw[wrap_i64 ⟨by omega,by omega⟩];unfold F';omega) ?_;refine bm.mk ⟨lM,0,none⟩ j rfl rfl fB ?_;refine ck.iV [] (⟨gW,.cells d.cells.toArray 82 (0,0)⟩::(no.ar 82++(je++ro.ar 3))) (L.map (Value.int .i64)) 3 rfl (by rw[nR,bx];show 0+j*1+1<=_;omega) rfl ((L.set j (F' ns.length q.length (ff q z) j)).map (Value.int .i64)) (by rw[du,gM];exact oU L j (by omega) _) ?_;refine bd.mk _ (c8 (i:=j) (by omega)) ?_;refine⟨(j+1,L.set j (F' ns.length q.length (ff q z) j)),⟨⟨fB,by rw[rO];exact bY,?_⟩,by simp only;omega⟩,.refl,lV,.cons rfl (.nil)⟩;rw[ED,cM,<-vu,gj (by rw[rO];omega),List.getElem_set_self,List.take_set_of_le (b' _)];rfl
   have c0:j=d.aG:=by have:¬ (j:Int)<(d.aG:Int):=dv ad;omega
   subst c0;rw[fC (by omega)]at vu;refine ck.iV [dJ lM L] (no.ar 82++(je++ro.ar 3)) d.cells 82 rfl rfl rfl (d.row (some ⟨lM,0,none⟩) d.aG d.aG L).cells rfl ?_;refine aO.mk (d.row (some ⟨lM,0,none⟩) d.aG d.aG L).cells (dr (cs:=(d.row (some ⟨lM,0,none⟩) d.aG d.aG L).cells) (k:=0) (n:=9) (T:=82) (.tail _ (.head _)) (bK rfl)) ?_;refine bW.mk λmM s5 Dv=>?_;refine bD.aeF aY rfl (by simp) (e:=82) rfl rfl rfl no eK rfl (cs:=(d.row (some ⟨lM,0,none⟩) d.aG d.aG L).cells) rfl rfl rfl [dJ lM L,⟨gW,.cells (d.row (some ⟨lM,0,none⟩) d.aG d.aG L).cells.toArray 82 (0,0)⟩] (je++ro.ar 3) rfl (by omega) (by show(no.n+1)*96<=_;omega) ?_;intro JY cA aa ad ak e1;refine bd.mk ((z:Int)-1) (by show IntKind.i64.wrap ((((z+1:Nat):Int)-1)-1)=_;rw[wrap_i64 ⟨by omega,by omega⟩];omega) ?_;intro eF;have Dw:zf os JY (cA++je):=λg aw=>by
    have dR:=yo g aw;rw[cM,cv]at dR;rw[<-dW,cM,cv];rcases dR with dR | dR;·exact .inl (e1 g dR)
    ·exact .inr dR
   have mf:([dJ lM L,⟨gW,.cells (d.row (some ⟨lM,0,none⟩) d.aG d.aG L).cells.toArray 82 (0,0)⟩]++(JY.ar 82++(cA++(je++ro.ar 3)))).Perm ((⟨some lM,d.aG,d.aG,L.map (Value.int .i64)⟩:aR).ar 3++(⟨gW,.cells (d.row (some ⟨lM,0,none⟩) d.aG d.aG L).cells.toArray 82 (0,0)⟩::(JY.ar 82++((cA++je)++ro.ar 3)))):=by rw[dW cA];exact .refl _
   have m6:=mm.F8 (J:=J) (os:=⟨some lM,d.aG,d.aG,L.map (Value.int .i64)⟩) (e:=3) (foot:=(os.ar 82).map (·.num)) eF mf (λx ab=>by
    have dR:=Dw x ab;rw[<-dW,b5,cM];exact .tail _ (iR _ dR))
   have ar6:(⟨some lM,d.aG,d.aG,L.map (Value.int .i64)⟩:aR).ok 1 (L.map (.int .i64 ·)):=⟨by rw[bx];simp only;omega,(λh=>by cases h),λeg jU=>⟨by simp only[bx];omega,b' _,by unfold maxLen;simp only;omega,fC (by rw[bx];simp only;omega)⟩⟩;obtain⟨mK,hw,bf,dB,-⟩:=aR.Ai (b:=8) (e:=3) ar6 (by simp only;omega) m6 (⟨gW,.cells (d.row (some ⟨lM,0,none⟩) d.aG d.aG L).cells.toArray 82 (0,0)⟩::(JY.ar 82++((cA++je)++ro.ar 3)));have Bh:(d.row (some ⟨lM,0,none⟩) d.aG d.aG L).au=(List.range (ff q (z+1)-ff q z)).map λj=>((ns.length+q.length-1-(ff q z+j):Nat):Int):=by rw[show ff q (z+1)-ff q z=d.aG by omega];exact vu
   have ar7:=xl.step aL aZ fA gi aB (x:=d.row (some ⟨lM,0,none⟩) d.aG d.aG L) (by rw[mJ];rfl) Bh;have Uq:(d.row (some ⟨lM,0,none⟩) d.aG d.aG L).ok mK:=(ah.mono bf).row dB λx ab=>by rw[vu]at ab;obtain⟨y,aC,rfl⟩:=cP.1 ab;unfold F' hz;omega
   obtain⟨jw,iH⟩:=fu.a9;refine⟨(z,JY,ec++[d.row (some ⟨lM,0,none⟩) d.aG d.aG L],mK,cA++je),⟨⟨ar7,⟨λb o h=>bf _ _ (fu.a5 _ _ h),?_,λx ab=>?_,jw++[_],by rw[iH,dW]⟩,Dw⟩,by simp only;omega⟩,.perm mf (hw _ _ (.sub (.cons _ (.refl _)) .refl)),hx,.cons rfl (.nil)⟩
   ·rw[fI];have:([d.row (some ⟨lM,0,none⟩) d.aG d.aG L].flatMap al.cells)=(d.row (some ⟨lM,0,none⟩) d.aG d.aG L).cells:=by simp
    rw[this];exact ak
   ·rcases cv.1 ab with ab | ab
    ·exact(fu.ok x ab).mono bf
    ·rw[eN.1 ab];exact Uq
  ·have aeH:i=0:=by have:¬ (0:Int)<=(i:Int)-1:=dv h;omega
   subst aeH;obtain⟨vN,mq,kw,h0,qd⟩:=fA.done aL;refine bd.mk ((ec.length-1:Nat):Int) (by show IntKind.i64.wrap ((no.n:Int)-1)=_;rw[wrap_i64 ⟨by omega,by omega⟩];omega) ?_;intro _;refine⟨_,_,.sub (M1:=no.ar 82++je) ((Nx _).append (xd _ _)) .refl,no,ec,je,rfl,rfl,yo,fu,vN,by omega,mq,kw,h0,qd⟩
end Go.V
