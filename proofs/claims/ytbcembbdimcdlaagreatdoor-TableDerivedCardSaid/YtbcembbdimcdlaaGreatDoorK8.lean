/- Part 8 of what the proofs of this seat share: the executor, data in memory, walks.
-/
import Derived.Test.YtbcembbdimcdlaaGreatDoorK7
import Derived.Test.YtbcembbdimcdlaaGreatDoorK3
import Derived.Test.YtbcembbdimcdlaaGreatDoorK4
import Derived.Test.YtbcembbdimcdlaaGreatDoorK5
import Derived.Test.YtbcembbdimcdlaaGreatDoorK6
set_option linter.all false
set_option maxHeartbeats 8000000
set_option maxRecDepth 100000
namespace Go.V
open Go
def tB:=@List.drop_of_length_le
def I0:=@List.filter_append
def MI:=@List.any_eq_true
def I1:=@Bool.or_true
def Sq:=@List.drop_left
variable{dst:Option Nat}{D bD D0:bR}{x y:Operand}{u:Value}{F eD:Fr}{op:Op}{R α:Type}{call:aq->List aq->bp->Option (aq×bp)}{n et b e f g n0 size c':Nat}{ops:List Oper}{β:Nat->Nat}{X:c7}{Q:Exit->Act->World->Prop}{p q:Value->aR->List aI->Prop}{a a':Option Addr}{Y:hh}{I er I' J:aR}{M M0 M' N:List aI}{row:List (Nat×Nat)}{E:Env}{P:Program}{args:List aq}{us:List Value}{ex:vq}{w w':World}{ps:List Nat}{fD body:Code}{iq:Loc}{G:GT}{pr:mb}{arr:Array Value}{other:Prop}{nm:ByteArray}
def I2(Y:hh)(call:aq->List aq->bp->Option (aq×bp)):Prop:=∀ f l m v m',call f l m=some (v,m')->∀ (D:bR) (I:aR) (M:List aI) (u:Value) (us:List Value),aT D f u->bT D l us->dx Y D m I M -> (∃ g cE cs,u=.func (.func g) cE cs/\Spec Y.P g (cE.toList++us++cs.toList) I M λr I' M'=>∃ bD,D.ext bD m.n/\aT bD v r/\dx Y bD m' I' M') \/ ∃ q,u=.func (.yield q) #[] #[]/\GJ Y.P q us I M λr I' M'=>∃ bD,D.ext bD m.n/\aT bD v r/\dx Y bD m' I' M'
def wu(dst:Option Nat)(v:aq)(D:bR)(F eD:Fr):Prop:=(∀ d,dst=some d->gx D (eD d) v)/\∀ (D:bR) t sj,dst≠some t->gx D (F t) sj->gx D (eD t) sj
def wu.put{v:aq}{x:dQ}(F:Fr)(h:gx D x v):wu dst v D F (put dst x F):=by
 constructor
 ·rintro d rfl;simpa[Go.V.put,g3]using h
 ·intro D t sj bH h;cases dst with
  |none=>exact h| some d=>have:t≠d:=λe=>bH (by rw[e]);simp only[Go.V.put,g3,hy this,bf];exact h
def AL.v(h:AL dst u F eD){v:aq}(ak:aT D v u):wu dst v D F eD:=⟨λd ag=>by rw[h.1 d ag];exact .val ak,h.2⟩
section
variable{X:c7}{G:GT}{pr:mb}{D:bR}{m m':bp}{F:Fr}{al:bi aq}{C:d'}{I:aR}{M:List aI}{K:gp}{o:Oper}{v:aq}
def MJ(X:c7)(G:GT)(pr:mb)(o:Oper)(al:bi aq)(m:bp)(v:aq)(m':bp):Prop:=m.n<=m'.n/\∀ (D:bR) (F:Fr) (C:d') (I:aR) (M:List aI) (K:gp),jv D F al o.op.operands.toList->dx (ei X G pr) D m I M -> (∀ bD eD C' I' M',D.ext bD m.n->wu o.dst v bD F eD->dx (ei X G pr) bD m' I' M'->K eD C' I' M')->g6 X o F C I M K
def amI(au:o.op=op)(ae:lM X.E op=0)(h:cM X op (dD F) C I M (λx=>K (put o.dst x F) C I M) (bs X o F C I M K)):g6 X o F C I M K:=by
 obtain⟨dst,De,ty,pos,after,guard⟩:=o;simp only at au;subst au;cases De with
 |call c=>
  obtain⟨callee,args,ts⟩:=c;cases callee with
  |value f=>simp[lM]at ae| invoke r n=>exact h| builtin b=>exact h
 |alloc t=>simp[lM]at ae| box t x=>simp[lM]at ae| store t x y=>simp[lM]at ae| buildSlice t l ps=>simp[lM]at ae| makeSlice t l c=>simp[lM]at ae| _=>exact h
def abk(aO:c6 X.P X.E)(ag:∀ d,o.dst=some d->d<X.n){v:aq}(ae:lM X.E o.op=0)(h:v8 X.P X.E G m.t o.op al=some v)(H:jv D F al o.op.operands.toList)(hm:dx (ei X G pr) D m I M)
  (k:∀ x,gx D x v->K (put o.dst x F) C I M):g6 X o F C I M K:=by
 unfold v8 at h;split at h
 ·rename_i t x au;exact amF ag au h H k
 ·rename_i t x lo hi mx au;exact amG au (amD aO ag au h H hm k)
 ·rename_i t x hi mx au;exact amE aO ag au h H hm k
 ·exact amI rfl ae (akf aO h H hm k)
def Sr{K:bi aq->Option R}{r:R}(h:qm dst al v K=some r):∃ dj,K dj=some r/\(dst=none->dj=al)/\∀ d,dst=some d->∀ t w,dj.get t=some w->(t=d/\w=v)\/(t≠d/\al.get t=some w):=by
 unfold qm at h;cases dst with
 |none=>exact⟨al,h,λ_=>rfl,λd ag=>by cases ag⟩
 |some d=>
  have be:(QY v λv=>al.n' (some v) d K)=some r:=h;rw[ajM]at be;obtain⟨dj,U,aa⟩:=bi.pB (some v) al d;rw[U]at be;refine⟨dj,be,(λe=>by cases e),λLn ag t w hw=>?_⟩;cases ag;rcases aa t w hw with⟨az,aF⟩ | ⟨az,aF⟩;·exact .inl ⟨az,(pC aF).symm⟩
  ·exact .inr ⟨az,aF⟩
def abl(aO:c6 X.P X.E)(kL:∀ d,d<X.n->X.g5.contains d=true)(ag:∀ d,o.dst=some d->d<X.n)(m0:I2 (ei X G pr) call){K:bi aq->bp->Option R}{r:R}
  (h:AD (ei X G pr) call o al m K=some r):∃ v m' dj,MJ X G pr o al m v m'/\(qm o.dst al v λal=>K al m')=some r/\K dj m'=some r/\(o.dst=none->dj=al)/\∀ d,o.dst=some d->∀ t w,dj.get t=some w->(t=d/\w=v)\/(t≠d/\al.get t=some w):=by
 have fin:∀ {v:aq} {m':bp},MJ X G pr o al m v m'->(qm o.dst al v λal=>K al m')=some r->∃ v m' dj,MJ X G pr o al m v m'/\(qm o.dst al v λal=>K al m')=some r/\K dj m'=some r/\(o.dst=none->dj=al)/\∀ d,o.dst=some d->∀ t w,dj.get t=some w->(t=d/\w=v)\/(t≠d/\al.get t=some w):=fun {v m'} aN aD=>by obtain⟨dj,U,aa,af⟩:=Sr aD;exact⟨v,m',dj,aN,aD,U,aa,af⟩
 unfold AD at h;split at h
 ·
  rename_i f args ts au;unfold Zp at h;obtain⟨amJ,aC,h⟩:=c1 h;obtain⟨l,ap,h⟩:=c1 h;obtain⟨⟨v,m'⟩,aN,h⟩:=c1 h;obtain⟨aw,h⟩:=g1 h;refine fin ⟨b0 aw,λD F C I M K tC hm ae=>?_⟩ h;rw[au]at tC;obtain⟨u,az,aV⟩:=tC.bG (x:=f) (by simp[Op.operands,Call.operands]) aC;obtain⟨us,aF,a3⟩:=tC.mR (l:=args.toList) (by intro y aH;simp[Op.operands,Call.operands];exact .inr (by simpa using aH)) ap;obtain⟨dst,De,ty,pos,after,guard⟩:=o;simp only at au;subst au;rcases m0 _ _ _ _ _ aN D I M u us aV a3 hm with⟨g,cE,cs,rfl,ar⟩ | ⟨q,rfl,ar⟩
  ·simp only[g6,az,aF];exact a0.whole _ ar λr I' M' bL ab=>by obtain⟨bD,U,aa,af⟩:=ab;exact ae bD _ C I' M' U (.put F (.val aa)) af
  ·simp only[g6,az,aF];refine bs.yield rfl ag az aF ⟨M,[],_,by simp,ar,λr I' M' bL ab=>?_⟩;obtain⟨bD,U,aa,af⟩:=ab;rw[dX];exact ae bD _ C I' M' U (.put F (.val aa)) af
 ·rename_i op ee;unfold Zt at h;split at h
  ·rename_i cZ;unfold Zr at h;obtain⟨v,ak,h⟩:=c1 h;refine fin ⟨bY _,λD F C I M K tC hm ae=>?_⟩ h;exact abk aO ag cZ ak tC hm λx ab=>ae D _ C I M bR.pE (.put F ab) hm
  ·unfold Zq at h;obtain⟨d,fz,h⟩:=c1 h;obtain⟨⟨l,T,c,mk⟩,aE,h⟩:=c1 h;obtain⟨m2,aa,aw,af⟩:=Rt (Y:=ei X G pr) h;refine fin (v:=mk m.n) (m':=m2) ⟨by omega,λD F C I M K tC hm ae=>?_⟩ (by rw[fz];exact aa);refine ZO aO kL ag aE (by rw[fz];rfl) tC λb vs u eD C' bL aC iS b3 aN hu Ss=>?_;have aP:=af (vs:=vs) [] (b:=b) (c:=c) hm aC iS (by simpa using b3) aN;rw[dX]at aP;exact ae _ eD C' I _ bR.Fb (Ss.v (hu _ _ (bR.qo _ _ _))) aP
  ·unfold Zs at h;obtain⟨⟨v,m'⟩,ab,h⟩:=c1 h;obtain⟨aw,h⟩:=g1 h;refine fin ⟨b0 aw,λD F C I M K tC hm ae=>?_⟩ h;exact amH aO ag ab tC hm λbD u M' U aa af=>ae bD _ C I M' U (.put F (.val aa)) af
end
def lP(X:c7)(G:GT)(pr:mb)(D0:bR)(n0:Nat)(al:bi aq)(m:bp)(a:Act)(w:World):Prop:=
 ∃ D F C I M,Rel X a w F C I M/\re D F al/\dx (ei X G pr) D m I M/\D0.ext D n0/\n0<=m.n
section
variable{X:c7}{G:GT}{pr:mb}{D0:bR}{n0:Nat}{m m':bp}{al dj:bi aq}{a:Act}{w:World}
def bR.abm{Io:bR}(h:D.ext bD n)(be:bD.ext Io et)(aw:n<=et):D.ext Io n:=λi hi=>by rw[be i (by omega),h i hi]
def amK{ops:Array Oper}{o:Oper}{b:Bool}(h:v' ops.toList o al=some b)(bB:∀ t,e2 β (F t) (a.tmps.getD t undef))(vo:re D F al):Region.wanted o (yielded ops a.tmps)=b:=by
 unfold v' at h;split at h
 ·rename_i aA;cases h;simp[Region.wanted,aA]
 ·rename_i j c aA;split at h
  ·cases h
  ·rename_i d aj;have jS:(ops[j]?).bind (·.dst)=some d:=by rw[AI]at aj;simpa using aj
   have aH:=Ge jS a.tmps;split at h
   ·rename_i q ay;cases h;have ar:=vo _ _ ay;have ak:a.tmps.getD d undef=.bool q:=by
     have U:=bB d;rcases ar with⟨u,e,hu⟩ | ⟨fN,bA,e⟩;·rw[e]at U;rw[U,hu.bool]
     ·cases bA;rw[e]at U;exact U
    simp[Region.wanted,aA,aH,DP ak]
   ·rename_i l ay;cases h;have ar:=vo _ _ ay;obtain⟨u,e,hu⟩:=ar.xz (by simp);obtain⟨vs,_,rfl⟩:=hu.Rk;have U:=bB d;rw[e]at U;have BD:yielded ops a.tmps j=none:=by
     rw[aH];cases ml:a.tmps[d]? with
     |none=>rfl| some v=>simp only[e2,pN,ml,ib]at U;subst U;rfl
    simp[Region.wanted,aA,BD]
   ·cases h
def abn{o:Oper}{K:bi aq->Option R}{r:R}(h:CS o al K=some r):∃ dj,K dj=some r/\(o.dst=none->dj=al)/\∀ d,o.dst=some d->∀ t w,dj.get t=some w->(t=d/\w=.t [])\/(t≠d/\al.get t=some w):=by
 unfold CS at h;cases ag:o.dst with
 |none=>rw[ag]at h;exact⟨al,h,λ_=>rfl,λd e=>by cases e⟩
 |some d=>
  rw[ag]at h;obtain⟨dj,U,aa⟩:=bi.pB (some (aq.t [])) al d;simp only[U]at h;refine⟨dj,h,(λe=>by cases e),λLn iI t w hw=>?_⟩;cases iI;rcases aa t w hw with⟨az,aF⟩ | ⟨az,aF⟩;·exact .inl ⟨az,(pC aF).symm⟩
  ·exact .inr ⟨az,aF⟩
def re.step{v:aq}(h:re D F al)(bn:D.le bD)(aD:wu dst v bD F eD)(U:dst=none->dj=al)(aa:∀ d,dst=some d->∀ t w,dj.get t=some w->(t=d/\w=v)\/(t≠d/\al.get t=some w)):re bD eD dj:=λt u av=>by
 cases ag:dst with
 |none=>rw[U ag]at av;exact aD.2 bD t u (by rw[ag];simp) ((h t u av).mono bn)
 |some d=>
  rcases aa d ag t u av with⟨rfl,rfl⟩ | ⟨bH,aA⟩;·exact aD.1 _ ag
  ·exact aD.2 bD t u (by rw[ag];intro e;cases e;exact bH rfl) ((h t u aA).mono bn)
def St(aO:c6 X.P X.E)(kL:∀ d,d<X.n->X.g5.contains d=true){call:aq->List aq->bp->Option (aq×bp)}(m0:I2 (ei X G pr) call)(ops:Array Oper)(Q:Exit->Act->World->Prop)(vp:∀ a w,lP X G pr D0 n0 dj m' a w->Q .normal a w):∀ (l:List Oper) (k:Nat),(∀ j,l[j]?=ops[k+j]?)->(∀ o∈l,∀ d,o.dst=some d->d<X.n)->∀ {al m a w},E3 (ei X G pr) call ops.toList l al m=some (dj,m') -> lP X G pr D0 n0 al m a w->wpOpsIn (hq X) 0 X.P ops Q (List.range' k l.length) a w
 |[],k,_,_,al,m,a,w,h,ar=>by have be:some (al,m)=some (dj,m'):=h;cases be;exact vp _ _ ar
 |o::bd,k,ap,ag,al,m,a,w,h,ar=>by
  have ao:ops[k]?=some o:=by simpa using(ap 0).symm
  have ou:∀ j,bd[j]?=ops[k+1+j]?:=λj=>by have:=ap (j+1);simpa[rz,F7 1 j]using this
  have iI:∀ o∈bd,∀ d,o.dst=some d->d<X.n:=λo au=>ag o (by simp[au]);have zE:=ag o (by simp);have be:ch (v' ops.toList o al) none (λw=>cn w (AD (ei X G pr) call o al m λal m=>E3 (ei X G pr) call ops.toList bd al m) (CS o al λal=>E3 (ei X G pr) call ops.toList bd al m))=some (dj,m'):=h;obtain⟨b,ah,be⟩:=c1 be;obtain⟨D,F,C,I,M,⟨β,a4⟩,bB,hm,ab,aw⟩:=ar;have hw:=amK ah a4.al bB;simp only[eQ,NH,wpOpsIn,ao];rw[hw];cases b with
  |true=>have aa:AD (ei X G pr) call o al m (λal m=>E3 (ei X G pr) call ops.toList bd al m)=some (dj,m'):=be;obtain⟨v,dY,fJ,⟨IK,I3⟩,-,af,aV,a3⟩:=abl aO kL zE m0 aa;simp only[sD];refine tK (λa' w'=>?_) (DO aO zE ⟨β,a4⟩ (I3 D F C I M (λeD C' I' M'=>∃ bD,D.ext bD m.n/\re bD eD fJ/\dx (ei X G pr) bD dY I' M') (bB.op _) hm λbD eD C' I' M' az aF bo=>⟨bD,az,bB.step (hm.le az) aF aV a3,bo⟩));rintro⟨eD,C',I',M',hR,bD,az,aF,bo⟩;exact St aO kL m0 ops Q vp bd (k+1) ou iI af ⟨bD,eD,C',I',M',hR,aF,bo,bR.abm ab az aw,jN aw IK⟩
  |false=>have aa:CS o al (λal=>E3 (ei X G pr) call ops.toList bd al m)=some (dj,m'):=be;obtain⟨fJ,af,aV,a3⟩:=abn aa;simp only[lq,mh];refine⟨λ_ _=>trivial,St aO kL m0 ops Q vp bd (k+1) ou iI af ⟨D,put o.dst (.val undef) F,C,I,M,⟨β,a4.put (x:=.val undef) zE rfl⟩,bB.step (bR.le_refl D) (.put F (.val .undef)) aV a3,hm,ab,aw⟩⟩
end
def amL(aS:∀ j e,mY ops j e->e<j)(J:(Nat->Prop)->Act->World->Prop)(step:∀ (L:Nat->Prop) a w q o,J L a w->BJ ops L->(∀ i,L i->i<ops.length)->ops[q]?=some o->¬ L q->(∀ e,mY ops q e->L e) -> (Region.wanted o (yielded ops.toArray a.tmps)=true->o.wpIn (hq X) 0 X.P a w (J λj=>L j\/j=q) Q)/\(Region.wanted o (yielded ops.toArray a.tmps)=false->J (λj=>L j\/j=q) (a.put o.dst undef) w))
  (fin:∀ a w,J (λi=>i<ops.length) a w->Q .normal a w):∀ (eZ:Nat) (dP:Array Bool) (a:Act) (w:World),dP.size=ops.length->todo ops dP<=eZ->BJ ops (λi=>dP.getD i false=true) ->
   J (λi=>dP.getD i false=true) a w->wpAnyIn (hq X) 0 X.P .any ops.toArray Q eZ dP a w:=by
 have fh:∀ (dP:Array Bool) (i:Nat),dP.getD i false=true->i<dP.size:=λdP i h=>by refine DU λaw=>?_;simp[Array.getD,aw]at h
 have full:∀ (dP:Array Bool) a w,dP.size=ops.length->Region.ready .any ops.toArray dP=[]->J (λi=>dP.getD i false=true) a w->Q .normal a w:=λdP a w c8 nJ bZ=>by
  have all:∀ i,i<ops.length->dP.getD i false=true:=λi=>by
   induction i using Nat.strongRecOn with
   |ind i a7=>
    intro hi;refine DU λaw=>?_;have au:ops[i]?=some ops[i]:=eR hi;have:i∈Region.ready .any ops.toArray dP:=(mem_ready c8).2 ⟨_,au,aw,λe he=>by
     have U:=aS i e he;exact a7 e U (by omega)⟩
    rw[nJ]at this;cases this
  have e:(λi=>dP.getD i false=true)=λi=>i<ops.length:=by funext i;simp only[eq_iff_iff];exact⟨λh=>by have:=fh dP i h;omega,all i⟩
  rw[e]at bZ;exact fin a w bZ
 intro eZ
 induction eZ with
 |zero=>
  intro dP a w c8 aC fF bZ;have nJ:Region.ready .any ops.toArray dP=[]:=by
   cases ai:Region.ready .any ops.toArray dP with
   |nil=>rfl| cons i l=>obtain⟨o,au,aw,_⟩:=(mem_ready c8).1 (by rw[ai];simp:i∈Region.ready .any ops.toArray dP);have:=Kh (kc.1 au).1 c8 aw;omega
  exact⟨nJ,full dP a w c8 nJ bZ⟩
 |succ eZ a7=>
  intro dP a w c8 aC fF bZ;refine⟨λnJ=>full dP a w c8 nJ bZ,λq ay=>?_⟩;obtain⟨o,au,aw,ag⟩:=(mem_ready c8).1 ay;have b':=(kc.1 au).1;have iC:=UY (dP:=dP) (i:=q) (by omega);have next:∀ a' w',J (λj=>dP.getD j false=true\/j=q) a' w'->wpAnyIn (hq X) 0 X.P .any ops.toArray Q eZ (dP.setIfInBounds q true) a' w':=λa' w' h=>by
   refine a7 _ a' w' (by simpa using c8) ?_ ?_ (by rw[iC];exact h);·have:=Kh b' c8 aw;omega
   ·rw[iC];rintro j e (aj | rfl) he
    ·exact .inl (fF j e aj he)
    ·exact .inl (ag e he)
  obtain⟨s1,s2⟩:=step _ a w q o bZ fF (λi hi=>by have:=fh dP i hi;omega) au aw ag;have GC:ops.toArray[q]?=some o:=by simpa using au
  unfold wpOpIn;simp only[GC];cases hw:Region.wanted o (yielded ops.toArray a.tmps)with
  |true=>
   simp only[sD];exact tK next (s1 hw)
  |false=>simp only[lq,mh];exact⟨λ_ _=>trivial,next _ _ (s2 hw)⟩
def abo{S:List bp}{lo hi j:Nat}{p:bp->Bool}{m:bp}(h:E6 S lo hi p=true)(U:lo<=j)(aa:j<=hi)(aj:S[j]?=some m):p m=true:=by unfold E6 at h;refine gh.1 h m ?_;refine BH (i:=j-lo) ?_;rw[lp,cG (by omega),om,show lo+(j-lo)=j by omega];exact aj
def filter_le{p:α->Bool}{j:Nat}:∀ {l:List α},(∀ q e,l[q]?=some e->p e=true->q<j)->(l.filter p).length<=j:=by
 intro l h;have az:l.filter p=(l.take j).filter p:=by
  conv=>lhs;rw[<-vB j l]
  rw[I0];have:(l.drop j).filter p=[]:=by rw[List.filter_eq_nil_iff];intro a aE aD;obtain⟨q,ay⟩:=LL aE;rw[om]at ay;have:=h _ _ ay aD;omega
  rw[this,dX]
 rw[az];refine jN (Gs _ _) ?_;simp;omega
def le_filter{p:α->Bool}{j:Nat}{l:List α}(aj:j<=l.length)(h:∀ q e,q<j->l[q]?=some e->p e=true):j<=(l.filter p).length:=by
 have az:(l.take j).filter p=l.take j:=by
  rw[List.filter_eq_self];intro a aE;obtain⟨q,ay⟩:=LL aE;rw[lp]at ay;split at ay;·exact h q a (by assumption) ay
  ·cases ay
 have aF:l.filter p=(l.take j).filter p++(l.drop j).filter p:=by
  conv=>lhs;rw[<-vB j l]
  rw[I0]
 rw[aF,az,cP,gr];omega
mutual
def abp{D:bR}:∀ {x y:aq} {u:Value},E5 x y=true->aT D x u->aT D y u
 |x,y,u,h,ab=>by
  cases x<;>cases y<;>simp only[E5,lq,cp]at h
  case b.b=>
   have:=eq_of_beq h;subst this;exact ab
  case i.i=>
   obtain⟨U,aa⟩:=h;have:=IntKind.DL U;subst this;rw[zc,e5]at aa;subst aa;exact ab
  case s.s=>
   rw[CU,e5]at h;subst h;exact ab
  case pn.pn=>exact ab
  case p.p=>
   obtain⟨U,aa⟩:=h;have:=cK U;subst this;have:=cK aa;subst this;exact ab
  case g.g=>
   obtain⟨U,aa⟩:=h;have:=cK U;subst this;have:=cK aa;subst this;exact ab
  case sn.sn=>exact ab
  case sl.sl=>
   obtain⟨U,aa,af,aP⟩:=h;have:=cK U;subst this;have:=cK aa;subst this;have:=cK af;subst this;have:=cK aP;subst this;exact ab
  case sx.sx=>
   obtain⟨U,aa,af,aP⟩:=h;have:=cK U;subst this;have:=cK aa;subst this;have:=cK af;subst this;have:=cK aP;subst this;exact ab
  case gs.gs=>
   obtain⟨U,aa,af,aP⟩:=h;have:=cK U;subst this;have:=cK aa;subst this;have:=cK af;subst this;have:=cK aP;subst this;exact ab
  case mn.mn=>exact ab
  case m.m=>have:=cK h;subst this;exact ab
  case f.f=>
   obtain⟨U,aa,af⟩:=h;have:=cK U;subst this;simp only[aT]at ab |-;obtain⟨vs,ws,aV,a3,bW⟩:=ab;exact⟨vs,ws,FA aa aV,FA af a3,bW⟩
  case y.y=>have:=cK h;subst this;exact ab
  case fn.fn=>exact ab
  case ni.ni=>exact ab
  case t.t=>
   simp only[aT]at ab |-;obtain⟨vs,aV,a3⟩:=ab;exact⟨vs,FA h aV,a3⟩
  case a.a=>
   simp only[aT]at ab |-;obtain⟨vs,aV,a3⟩:=ab;exact⟨vs,FA h aV,a3⟩
def FA{D:bR}:∀ {x y:List aq} {us:List Value},xy x y=true->bT D x us->bT D y us
 |[],[],us,h,ab=>ab| [],_::_,us,h,ab=>by simp[xy]at h
 |_::_,[],us,h,ab=>by simp[xy]at h
 |x::l,y::m,us,h,ab=>by simp only[xy,cp]at h;obtain⟨u,us,aV,a3,rfl⟩:=ab.kV;exact .cons (abp h.1 aV) (FA h.2 a3)
end
def I4(dst:Option Nat)(al:bi aq)(v:aq)(dj:bi aq):Prop:=(dst=none->dj=al)/\∀ d,dst=some d->∀ t w,dj.get t=some w->(t=d/\w=v)\/(t≠d/\al.get t=some w)
def MK(m m':bp)(l:List aq)(T:Nat):Prop:=m'.n=m.n+1/\(∀ id e,m'.t.get id=some e->id=m.n\/m.t.get id=some e)
def zm(m m':bp):Prop:=m.n<=m'.n/\∀ id e,id<m.n->m'.t.get id=some e->m.t.get id=some e
def zm.refl(m:bp):zm m m:=⟨bY _,λ_ _ _ h=>h⟩
def zm.trans{a b c:bp}(h:zm a b)(k:zm b c):zm a c:=⟨jN h.1 k.1,λid e hi he=>h.2 id e hi (k.2 id e (JI hi h.1) he)⟩
def MK.grow{m m':bp}{l:List aq}{T:Nat}(h:MK m m' l T):zm m m':=⟨by rw[h.1];omega,λid e hi he=>by
 rcases h.2 id e he with U | U
 ·omega
 ·exact U⟩
def amM{m:bp}{l:List aq}{T:Nat}{K:Nat->bp->Option R}{r:R}(h:v9 m l T K=some r):∃ m',K m.n m'=some r/\MK m m' l T:=by unfold v9 at h;obtain⟨cs,U,aa⟩:=bi.zb l (.nil:bi aq) 0;rw[U]at h;obtain⟨dt,af,aP⟩:=Ip h;exact⟨_,aP,rfl,λid e hi=>(af id e hi).imp (λq=>q.1) λq=>q.2⟩
def dx.grow{m m':bp}(h:dx Y D m I M)(aA:zm m m'):dx Y D m' I M where
 jc id e a U aa:=h.jc id e a (aA.2 id e (h.j5 _ _ aa) U) aa
 inj id iP e bA a a' U yE aa qN ah:=h.inj id iP e bA a a' (aA.2 id e (h.j5 _ _ aa) U) (aA.2 iP bA (h.j5 _ _ qN) yE) aa qN ah
 j5 id a aa:=JI (h.j5 _ _ aa) aA.1
 rc:=h.rc
inductive me(X:c7)(G:GT)(pr:mb)(ops:List Oper):List (Nat×Nat)->bi aq->bp->List (Nat×aq)->bi aq->bp->List bp->List rb->Prop
 |nil{al m}:me X G pr ops [] al m [] al m [m] []| q {i o bd al m v dj vs hj gS S A} (au:ops[i]?=some o) (ae:lM X.E o.op=0) (hw:v' ops o al=some true) (ak:v8 X.P X.E G m.t o.op al=some v) (aD:I4 o.dst al v dj) (t:me X G pr ops bd dj m vs hj gS S A) : me X G pr ops ((i,0)::bd) al m ((i,v)::vs) hj gS S (bif qB o.op then .load i o al v::A else A)| a {i o d bd al m m' l T c mk dj vs hj gS S A} (au:ops[i]?=some o) (ae:lM X.E o.op=1) (hw:v' ops o al=some true) (ag:o.dst=some d) (ak:CR X.E o al=some (l,T,c,mk)) (aw:MK m m' l T) (aD:I4 o.dst al (mk m.n) dj) (t:me X G pr ops bd dj m' vs hj gS S A) : me X G pr ops ((i,1)::bd) al m ((i,mk m.n)::vs) hj gS S (.made i m.n l T::A)| e {i o bd al m m' v dj vs hj gS S A} (au:ops[i]?=some o) (ae:lM X.E o.op=2) (hw:v' ops o al=some true) (aN:MJ X G pr o al m v m') (aD:I4 o.dst al v dj) (t:me X G pr ops bd dj m' vs hj gS S A) : me X G pr ops ((i,2)::bd) al m ((i,v)::vs) hj gS (m::S) A| skip {i k o bd al m dj vs hj gS S A} (au:ops[i]?=some o) (ae:lM X.E o.op=k) (hw:v' ops o al=some false) (aD:I4 o.dst al (.t []) dj) (t:me X G pr ops bd dj m vs hj gS S A) : me X G pr ops ((i,k)::bd) al m ((i,.t [])::vs) hj gS (bif Nat.beq k 2 then m::S else S) A
section
variable{X:c7}{G:GT}{pr:mb}{ops:List Oper}
def I5(aO:c6 X.P X.E)(kL:∀ d,d<X.n->X.g5.contains d=true)(dy:∀ o∈ops,∀ d,o.dst=some d->d<X.n){call:aq->List aq->bp->Option (aq×bp)}(m0:I2 (ei X G pr) call):∀ (row:List (Nat×Nat)) {al:bi aq} {m:bp} {n6:List bp} {oX:List rb} {hj:bi aq} {gS:bp} {mP:List bp} {oe:List rb},pA (ei X G pr) call ops row al m n6 oX=some (hj,gS,mP,oe)->∃ vs S A,me X G pr ops row al m vs hj gS S A/\mP=S.reverse++n6/\(∀ h∈A,h∈oe)/\∀ h∈oX,h∈oe
 |[],al,m,n6,oX,hj,gS,mP,oe,h=>by simp only[pA,kd,Prod.mk.injEq]at h;obtain⟨rfl,rfl,rfl,rfl⟩:=h;exact⟨[],[m],[],.nil,by simp,by simp,λ_ h=>h⟩
 |(i,k)::bd,al,m,n6,oX,hj,gS,mP,oe,h=>by
  simp only[pA]at h;obtain⟨o,au,h⟩:=c1 h;obtain⟨w,hw,h⟩:=c1 h;obtain⟨ae,h⟩:=g1 h;rw[AI]at au;have jI:lM X.E o.op=k:=cK ae;have zE:=dy o (BH au);cases w with
  |false=>
   have aa:CS o al (λal=>pA (ei X G pr) call ops bd al m (cn (Nat.beq k 2) (m::n6) n6) oX)=some (hj,gS,mP,oe):=h;obtain⟨fJ,af,aV,a3⟩:=abn aa;obtain⟨vs,S,A,av,ga,h5,wv⟩:=I5 aO kL dy m0 bd af;refine⟨_,_,_,.skip au jI hw ⟨aV,a3⟩ av,?_,h5,wv⟩;rw[ga];cases Nat.beq k 2<;>simp[cn]
  |true=>
   have U:cn (Nat.beq k 0) (ch (v8 X.P X.E G m.t o.op al) none λv=>qm o.dst al v λdj=>pA (ei X G pr) call ops bd dj m n6 (cn (qB o.op) (.load i o al v::oX) oX)) (cn (Nat.beq k 1) (ch o.dst none λd=>ch (CR X.E o al) none λr=>v9 m r.1 r.2.1 λid m=>qm (some d) al (r.2.2.2 id) λal=>pA (ei X G pr) call ops bd al m n6 (.made i id r.1 r.2.1::oX)) (AD (ei X G pr) call o al m λal m'=>pA (ei X G pr) call ops bd al m' (m::n6) oX))=some (hj,gS,mP,oe):=h;by_cases j1:k=0
   ·subst j1;have aa:(ch (v8 X.P X.E G m.t o.op al) none λv=>qm o.dst al v λdj=>pA (ei X G pr) call ops bd dj m n6 (cn (qB o.op) (.load i o al v::oX) oX))=some (hj,gS,mP,oe):=U;obtain⟨v,ak,aa⟩:=c1 aa;obtain⟨fJ,af,aV,a3⟩:=Sr aa;obtain⟨vs,S,A,av,ga,h5,wv⟩:=I5 aO kL dy m0 bd af;refine⟨_,_,_,.q au jI hw ak ⟨aV,a3⟩ av,ga,λy aH=>?_,λy aH=>wv y ?_⟩
    ·cases ap:qB o.op with
     |false=>rw[ap]at aH;exact h5 y aH
     |true=>
      rw[ap]at aH;rcases eL.1 aH with rfl | aH;·refine wv _ ?_;rw[ap];simp[cn]
      ·exact h5 y aH
    ·cases qB o.op with
     |false=>exact aH| true=>exact oU _ aH
   rw[hy j1]at U;by_cases eJ:k=1
   ·subst eJ;have aa:(ch o.dst none λd=>ch (CR X.E o al) none λr=>v9 m r.1 r.2.1 λid m=>qm (some d) al (r.2.2.2 id) λal=>pA (ei X G pr) call ops bd al m n6 (.made i id r.1 r.2.1::oX))=some (hj,gS,mP,oe):=U;obtain⟨d,ag,aa⟩:=c1 aa;obtain⟨⟨l,T,c,mk⟩,aE,aa⟩:=c1 aa;obtain⟨m2,af,aw⟩:=amM aa;have jq:qm o.dst al (mk m.n) (λal=>pA (ei X G pr) call ops bd al m2 n6 (.made i m.n l T::oX))=some (hj,gS,mP,oe):=by rw[ag];exact af
    obtain⟨fJ,aP,aV,a3⟩:=Sr jq;obtain⟨vs,S,A,av,ga,h5,wv⟩:=I5 aO kL dy m0 bd aP;refine⟨_,_,_,.a au jI hw ag aE aw ⟨aV,a3⟩ av,ga,λy aH=>?_,λy aH=>wv y (oU _ aH)⟩;rcases eL.1 aH with rfl | aH;·exact wv _ (by simp)
    ·exact h5 y aH
   ·rw[hy eJ]at U;have aa:AD (ei X G pr) call o al m (λal m'=>pA (ei X G pr) call ops bd al m' (m::n6) oX)=some (hj,gS,mP,oe):=U;obtain⟨v,dY,fJ,I3,-,af,aV,a3⟩:=abl aO kL zE m0 aa;obtain⟨vs,S,A,av,ga,h5,wv⟩:=I5 aO kL dy m0 bd af;have fP:k=2:=by
     have:lM X.E o.op<=2:=by
      unfold lM;split<;>first | omega | (split<;>first | omega | (split<;>omega))
     rw[jI]at this;omega
    subst fP;exact⟨_,_,_,.e au jI hw I3 ⟨aV,a3⟩ av,by rw[ga];simp,h5,wv⟩
def me.head{al hj:bi aq}{m gS:bp}{vs:List (Nat×aq)}{S:List bp}{A:List rb}(h:me X G pr ops row al m vs hj gS S A):∃ m2 mP,S=m2::mP/\zm m m2:=by
 induction h with
 |nil=>exact⟨_,_,rfl,.refl _⟩| q _ _ _ _ _ _ a7=>exact a7| a _ _ _ _ _ aw _ _ a7=>obtain⟨m2,mP,U,aa⟩:=a7;exact⟨m2,mP,U,aw.grow.trans aa⟩
 |e _ _ _ _ _ _ _=>exact⟨_,_,rfl,.refl _⟩
 | @skip i k o bd al m dj vs hj gS S A _ _ _ _ _ a7=>
  cases ae:Nat.beq k 2 with
  |true=>exact⟨_,_,rfl,.refl _⟩| false=>simpa using a7
def me.ML{al hj:bi aq}{m gS:bp}{vs:List (Nat×aq)}{S:List bp}{A:List rb}(h:me X G pr ops row al m vs hj gS S A):m.n<=gS.n/\∀ i c l T,.made i c l T∈A->m.n<=c/\i∈row.map (·.1):=by
 induction h with
 |nil=>exact⟨bY _,λ_ _ _ _ h=>by cases h⟩
 | @q i o bd al m v dj vs hj gS S A _ _ _ _ _ _ a7=>
  refine⟨a7.1,λhv c l T hm=>?_⟩;have qH:.made hv c l T∈A:=by
   cases ap:qB o.op with
   |false=>rw[ap]at hm;exact hm
   |true=>
    rw[ap]at hm;rcases eL.1 hm with e | hm;·cases e
    ·exact hm
  exact⟨(a7.2 hv c l T qH).1,oU _ (a7.2 hv c l T qH).2⟩
 |a _ _ _ _ _ aw _ _ a7=>
  refine⟨jN aw.grow.1 a7.1,λhv c l T hm=>?_⟩;rcases eL.1 hm with e | hm;·cases e;exact⟨bY _,by simp⟩
  ·exact⟨jN aw.grow.1 (a7.2 hv c l T hm).1,oU _ (a7.2 hv c l T hm).2⟩
 |e _ _ _ aN _ _ a7=>exact⟨jN aN.1 a7.1,λhv c l T hm=>⟨jN aN.1 (a7.2 hv c l T hm).1,oU _ (a7.2 hv c l T hm).2⟩⟩| skip _ _ _ _ _ a7=>exact⟨a7.1,λhv c l T hm=>⟨(a7.2 hv c l T hm).1,oU _ (a7.2 hv c l T hm).2⟩⟩
def me.split:∀ (a8:List (Nat×Nat)) {bd:List (Nat×Nat)} {al hj:bi aq} {m gS:bp} {vs:List (Nat×aq)} {S:List bp} {A:List rb},me X G pr ops (a8++bd) al m vs hj gS S A -> ∃ xS zn fJ dY wx zo xT,vs=xS++zn/\xS.map (·.1)=a8.map (·.1)/\S=wx++zo/\wx.length=(a8.filter λr=>Nat.beq r.2 2).length/\me X G pr ops bd fJ dY zn hj gS zo xT/\(∀ h∈xT,h∈A)/\m.n<=dY.n /\ (∀ t w,fJ.get t=some w->(∃ i,(i,w)∈xS/\jk ops i=some t)\/((∀ i∈a8.map (·.1),jk ops i≠some t)/\al.get t=some w)) /\ (∀ i c l T,.made i c l T∈A->.made i c l T∈xT\/c<dY.n)
 |[],bd,al,hj,m,gS,vs,S,A,h=>⟨[],vs,al,m,[],S,A,rfl,rfl,rfl,rfl,h,λ_ h=>h,bY _,λt w hw=>.inr ⟨by simp,hw⟩,λ_ _ _ _ h=>.inl h⟩
 |(i,k)::a8,bd,al,hj,m,gS,vs,S,A,h=>by
  have fin:∀ {o:Oper} {dj:bi aq} {m':bp} {v:aq} {tP:List (Nat×aq)} {mP S:List bp} {oe A:List rb},ops[i]?=some o->I4 o.dst al v dj->m.n<=m'.n->me X G pr ops (a8++bd) dj m' tP hj gS mP oe -> (S=if Nat.beq k 2 then m::mP else mP)->(∀ h∈oe,h∈A)->(∀ i c l T,.made i c l T∈A->.made i c l T∈oe\/c<m'.n) ->
    ∃ xS zn fJ dY wx zo xT,(i,v)::tP=xS++zn/\xS.map (·.1)=((i,k)::a8).map (·.1)/\S=wx++zo/\wx.length=(((i,k)::a8).filter λr=>Nat.beq r.2 2).length/\me X G pr ops bd fJ dY zn hj gS zo xT/\(∀ h∈xT,h∈A)/\m.n<=dY.n /\ (∀ t w,fJ.get t=some w->(∃ i,(i,w)∈xS/\jk ops i=some t)\/((∀ hv∈((i,k)::a8).map (·.1),jk ops hv≠some t)/\al.get t=some w)) /\
     (∀ i c l T,.made i c l T∈A->.made i c l T∈xT\/c<dY.n):=by
   intro o dj m' v tP mP S oe A au aD IK av ga h5 amN;obtain⟨xS,zn,fJ,dY,wx,zo,xT,az,aF,bo,dw,gd,gM,hF,qi,xM⟩:=me.split a8 av;refine⟨(i,v)::xS,zn,fJ,dY,(if Nat.beq k 2 then m::wx else wx),zo,xT,by rw[az];rfl,by simp[aF],?_,?_,gd,λh bl=>h5 h (gM h bl),jN IK hF,λt w hw=>?_,λi c l T hm=>?_⟩
   ·rw[ga,bo];split<;>simp
   ·simp only[J3];split<;>simp[dw]
   ·rcases qi t w hw with⟨hv,U,aa⟩ | ⟨U,aa⟩
    ·exact .inl ⟨hv,oU _ U,aa⟩
    ·have qF:jk ops i=o.dst:=by simp[jk,au]
     cases ag:o.dst with
     |none=>
      rw[aD.1 ag]at aa;refine .inr ⟨λhv di=>?_,aa⟩;rcases eL.1 di with e | di;·rw[show hv=i from e,qF,ag];simp
      ·exact U hv di
     |some d=>
      rcases aD.2 d ag t w aa with⟨rfl,rfl⟩ | ⟨bH,af⟩;·exact .inl ⟨i,by simp,by rw[qF,ag]⟩
      ·refine .inr ⟨λhv di=>?_,af⟩;rcases eL.1 di with e | di
       ·rw[show hv=i from e,qF,ag];exact λe=>bH (by cases e;rfl)
       ·exact U hv di
   ·rcases amN i c l T hm with U | U
    ·exact xM i c l T U
    ·exact .inr (JI U hF)
  cases h with
  |q au ae hw ak aD t=>
   rename_i o v dj tP oe;refine fin au aD (bY _) t (by simp) (λh bl=>?_) λi c l T hm=>?_
   ·cases qB o.op with
    |false=>exact bl| true=>exact oU _ bl
   ·cases ap:qB o.op with
    |false=>rw[ap]at hm;exact .inl hm
    |true=>
     rw[ap]at hm;rcases eL.1 hm with e | hm;·cases e
     ·exact .inl hm
  |a au ae hw ag ak aw aD t=>
   refine fin au aD aw.grow.1 t (by simp) (λh bl=>oU _ bl) λi c l T hm=>?_;rcases eL.1 hm with e | hm;·cases e;exact .inr (by rw[aw.1];omega)
   ·exact .inl hm
  |e au ae hw aN aD t=>exact fin au aD aN.1 t (by simp) (λ_ h=>h) λ_ _ _ _ h=>.inl h
  |skip au ae hw aD t=>exact fin au aD (bY _) t (by cases Nat.beq k 2<;>rfl) (λ_ h=>h) λ_ _ _ _ h=>.inl h
end
section
variable{ops:List Oper}
def amO{i k:Nat}{o:Oper}(au:ops[i]?=some o)(h:Gw o k=true):∀ e,mY ops i e->k.testBit e=true:=by rintro e⟨o',nI,lX,rL,ah,rfl⟩;rw[au]at lX;cases lX;have:=gh.1 h nI (by simpa using rL);rw[ah]at this;simpa using this
def MM:∀ {row:List (Nat×Nat)} {k:Nat},xx ops row k=true->∀ (a8:List (Nat×Nat)) (i c:Nat) (post:List (Nat×Nat)),row=a8++(i,c)::post -> (∃ o,ops[i]?=some o)/\k.testBit i=false/\i ∉ a8.map (·.1)/\∀ e,mY ops i e->k.testBit e=true\/e∈a8.map (·.1)
 |[],k,h,a8,i,c,post,e=>by simp at e
 |(i0,qf)::row,k,h,a8,i,c,post,e=>by
  simp only[xx,cp,o7]at h;obtain⟨U,aa⟩:=h;split at aa
  ·rename_i o au;rw[cp]at aa;cases a8 with
   |nil=>simp only[kN,w7,Prod.mk.injEq]at e;obtain⟨⟨rfl,rfl⟩,rfl⟩:=e;exact⟨⟨o,au⟩,U,by simp,λe he=>.inl (amO au aa.1 e he)⟩
   |cons p a8=>
    simp only[rU,w7]at e;obtain⟨az,aF⟩:=e;obtain⟨aV,a3,bW,fx⟩:=MM aa.2 a8 i c post aF;have ah:∀ x,(k ||| 2^i0).testBit x=(k.testBit x||decide (x=i0)):=λx=>by rw[J4,J2];congr 1;exact decide_eq_decide.2 eq_comm
    rw[ah,o6]at a3;refine⟨aV,a3.1,?_,λe he=>?_⟩;·rw[<-az];simp only[dv,eL,not_or];exact⟨by simpa using a3.2,bW⟩
    ·rcases fx e he with h | h
     ·rw[ah,kM]at h;rcases h with h | h
      ·exact .inl h
      ·exact .inr (by rw[<-az];simp at h;simp[h])
     ·exact .inr (by rw[dv];exact oU _ h)
  ·cases aa
def Su:∀ {row:List (Nat×Nat)} {k:Nat},xx ops row k=true->∀ i,i<ops.length->k.testBit i=true\/i∈row.map (·.1)
 |[],k,h,i,hi=>by
  simp only[xx]at h;have:=cK h;subst this
  left
  rw[Nat.testBit_two_pow_sub_one];simpa using hi
 |(i0,qf)::row,k,h,i,hi=>by
  simp only[xx,cp,o7]at h;obtain⟨U,aa⟩:=h;split at aa
  ·rw[cp]at aa;rcases Su aa.2 i hi with h | h
   ·rw[J4,J2,kM]at h;rcases h with h | h
    ·exact .inl h
    ·have:i0=i:=by simpa using h
     exact .inr (by simp[this])
   ·exact .inr (by rw[dv];exact oU _ h)
  ·cases aa
def amP(h:xx ops row 0=true):(row.map (·.1)).Nodup:=by
 have key:∀ {row:List (Nat×Nat)} {k:Nat},xx ops row k=true->(row.map (·.1)).Nodup:=by
  intro row
  induction row with
  |nil=>intro k _;exact Bp
  |cons r row a7=>
   intro k h;obtain⟨i0,qf⟩:=r;have be:=h;simp only[xx,cp,o7]at h;obtain⟨U,aa⟩:=h;split at aa;·rw[cp]at aa;rw[dv,nB];refine⟨λhm=>?_,a7 aa.2⟩;obtain⟨⟨x,c⟩,ab,Sv⟩:=dC.1 hm;obtain⟨a8,post,e⟩:=v5 ab;have Sw:x=i0:=Sv;subst Sw;have:=(MM be ((x,qf)::a8) x c post (by rw[e];rfl)).2.2.1;exact this (by simp)
   ·cases aa
 exact key h
def abq{α β:Type}:∀ {l:List (α×β)},(l.map (·.1)).Nodup->∀ {k:α} {a b:β},(k,a)∈l->(k,b)∈l->a=b
 |[],_,k,a,b,h,_=>by cases h
 |(j1,c)::l,aw,k,a,b,h,be=>by
  rw[dv,nB]at aw;rcases eL.1 h with e | h
  ·cases e;rcases eL.1 be with bA | be
   ·cases bA;rfl
   ·exact(aw.1 (dC.2 ⟨_,be,rfl⟩)).elim
  ·rcases eL.1 be with bA | be
   ·cases bA;exact(aw.1 (dC.2 ⟨_,h,rfl⟩)).elim
   ·exact abq aw.2 h be
end
section
variable{X:c7}{G:GT}{pr:mb}{D0:bR}{n0:Nat}{a:Act}{w:World}
def MN{o:Oper}{b:Bool}{al:bi aq}(h:v' ops o al=some b)(bB:∀ t,e2 β (F t) (a.tmps.getD t undef))(H:∀ t∈looks ops o,∀ v,al.get t=some v->gx D (F t) v) :
  Region.wanted o (yielded ops.toArray a.tmps)=b:=by
 unfold v' at h;split at h
 ·rename_i aA;cases h;simp[Region.wanted,aA]
 ·rename_i j c aA;split at h
  ·cases h
  ·rename_i d aj;have jS:(ops[j]?).bind (·.dst)=some d:=by rw[AI]at aj;simpa using aj
   have amQ:(ops.toArray[j]?).bind (·.dst)=some d:=by simpa using jS
   have aH:=Ge amQ a.tmps;have qI:d∈looks ops o:=Oa aA jS;split at h
   ·rename_i q ay;cases h;have ar:=H _ qI _ ay;have ak:a.tmps.getD d undef=.bool q:=by
     have U:=bB d;rcases ar with⟨u,e,hu⟩ | ⟨fN,bA,e⟩;·rw[e]at U;rw[U,hu.bool]
     ·cases bA;rw[e]at U;exact U
    simp[Region.wanted,aA,aH,DP ak]
   ·rename_i l ay;cases h;have ar:=H _ qI _ ay;obtain⟨u,e,hu⟩:=ar.xz (by simp);obtain⟨vs,_,rfl⟩:=hu.Rk;have U:=bB d;rw[e]at U;have BD:yielded ops.toArray a.tmps j=none:=by
     rw[aH];cases ml:a.tmps[d]? with
     |none=>rfl| some v=>simp only[e2,pN,ml,ib]at U;subst U;rfl
    simp[Region.wanted,aA,BD]
   ·cases h
def amR{o:Oper}{al:bi aq}(H:∀ t∈looks ops o,∀ v,al.get t=some v->gx D (F t) v):jv D F al o.op.operands.toList:=λx ab v ak=>by
 cases x with
 |tmp t=>exact H t (Ob (by simpa using ab)) v ak| const c=>exact(show re D F .nil from λt v h=>by cases h).op [.const c] (.const c) (by simp) v ak| global g=>exact(show re D F .nil from λt v h=>by cases h).op [.global g] (.global g) (by simp) v ak| func f=>exact(show re D F .nil from λt v h=>by cases h).op [.func f] (.func f) (by simp) v ak
def amS{m m2:bi fW}{al:bi aq}(h:qB op=false):v8 X.P X.E G m op al=v8 X.P X.E G m2 op al:=by
 cases op with
 |load=>simp[qB]at h| slice t x lo hi mx=>cases mx<;>cases lo<;>cases hi<;>rfl
 |unOp u=>cases u<;>rfl
 |call c=>
  obtain⟨callee,args,ts⟩:=c;cases callee<;>rfl
 |_=>rfl
def FB(X:c7)(G:GT)(pr:mb)(D0:bR)(n0:Nat)(ops:List Oper)(es:List Nat)(al:bi aq)(vs:List (Nat×aq))(S:List bp)(A:List rb)(L:Nat->Prop)(a:Act)(w:World):Prop:=
 ∃ D F C I M j su,Rel X a w F C I M/\(∀ q e,es[q]?=some e->(L e ↔ q<j))/\j<=es.length/\S[j]?=some su/\dx (ei X G pr) D su I M/\(∀ i v t,L i->(i,v)∈vs->jk ops i=some t->gx D (F t) v) /\ (∀ t v,(∀ i,L i->jk ops i≠some t)->al.get t=some v->gx D (F t) v)/\(∀ i c l T,rb.made i c l T∈A->¬ L i->D c=none)/\D0.ext D n0
def FB.al(dE:wS ops){L:Nat->Prop}{q:Nat}{o:Oper}(ay:ops[q]?=some o)(rN:¬ L q){vs:List (Nat×aq)}(FC:(vs.map (·.1)).Nodup){v:aq}(ak:(q,v)∈vs){al:bi aq}(bn:D.le bD)(aD:wu o.dst v bD F eD)(h5:∀ i v t,L i->(i,v)∈vs->jk ops i=some t->gx D (F t) v)(amT:∀ t v,(∀ i,L i->jk ops i≠some t)->al.get t=some v->gx D (F t) v) :
  (∀ i v t,(L i\/i=q)->(i,v)∈vs->jk ops i=some t->gx bD (eD t) v)/\(∀ t v,(∀ i,(L i\/i=q)->jk ops i≠some t)->al.get t=some v->gx bD (eD t) v):=by
 have abr:jk ops q=o.dst:=by simp[jk,ay]
 constructor
 ·rintro i u t (hi | rfl) hm ag
  ·have bH:o.dst≠some t:=λe=>by obtain⟨gJ,iB,qF⟩:=GA ag;exact dE.N' i q gJ o t (λbA=>rN (bA ▸ hi)) iB ay qF e
   exact aD.2 bD t u bH ((h5 i u t hi hm ag).mono bn)
  ·rw[abq FC hm ak];rw[abr]at ag;exact aD.1 t ag
 ·intro t u ee aA;have bH:o.dst≠some t:=λe=>ee q (.inr rfl) (by rw[abr,e]);exact aD.2 bD t u bH ((amT t u (λi hi=>ee i (.inl hi)) aA).mono bn)
end
section
variable{X:c7}{G:GT}{pr:mb}{D0:bR}{n0:Nat}{a:Act}{w:World}
def Sx{hr:List Nat}:∀ {es:List Nat},L0 hr es=true->∀ (p q:Nat) (x y:Nat),p<q->es[p]?=some x->es[q]?=some y->(hr.getD y 0).testBit x=true
 |[],_,p,q,x,y,_,ab,_=>by simp at ab
 |e::es,h,p,q,x,y,sR,ab,aH=>by
  simp only[L0,cp]at h;cases q with
  |zero=>omega
  |succ q=>
   have wL:es[q]?=some y:=by simpa using aH
   cases p with
   |zero=>simp at ab;subst ab;exact gh.1 h.1 y (BH wL)| succ p=>exact Sx h.2 p q x y (by omega) (by simpa using ab) wL
def amU:e∈za E ops ↔ e<ops.length/\CT E ops e=2:=by
 unfold za;rw[yt,kI];constructor
 ·rintro⟨U,aa⟩;exact⟨U,cK aa⟩
 ·rintro⟨U,aa⟩;exact⟨U,by rw[aa];rfl⟩
def abt{i:Nat}{o:Oper}(h:ops[i]?=some o):CT E ops i=lM E o.op:=by unfold CT;rw[AI,h];rfl
def gx.same{x:dQ}{u v:aq}(h:gx D x u)(ar:E5 u v=true):gx D x v:=by
 rcases h with⟨y,rfl,h⟩ | ⟨q,rfl,rfl⟩
 ·exact .val (abp ar h)
 ·have:v=.b q:=by
   cases v<;>simp only[E5,lq]at ar
   rw[eq_of_beq ar]
  exact .inr ⟨q,this,rfl⟩
def amV(aO:c6 X.P X.E)(kL:∀ d,d<X.n->X.g5.contains d=true)(m0:I2 (ei X G pr) call){id:Nat}{I6:Array Oper}(g4:X.P.follows .mixedOrders=true)(aw:zG X.n I6=true)
  {al hj:bi aq} {m gS:bp} (h:Q9 (ei X G pr) call I6.toList al m=some (hj,gS)) (vp:∀ a w,lP X G pr D0 n0 hj gS a w->Q .normal a w) (ar:lP X G pr D0 n0 al m a w) :
  (Code.region id I6 true).wpIn (hq X) 0 X.P Q a w:=by
 refine wpIn_region_any g4 ?_;generalize wR:I6.toList=ops at h;have amW:I6=ops.toArray:=by apply g2;simpa using wR
 subst amW;have dy:∀ o∈ops,∀ d,o.dst=some d->d<X.n:=by simpa using JU aw
 unfold Q9 at h;obtain⟨kD,h⟩:=g1 h;unfold Zw at kD;simp only[cp]at kD;obtain⟨amX,kT,abu,uz⟩:=kD;have dE:wS ops:=UP amX;have abv:((Ie X.E ops).filter λr=>Nat.beq r.2 2).map (·.1)=za X.E ops:=by simpa using uz
 clear uz;generalize mw:za X.E ops=es at *;have Sy:∀ e,e∈es ↔ e<ops.length/\CT X.E ops e=2:=λe=>by rw[<-mw];exact amU
 generalize xP:Ie X.E ops=row at *;cases oS:pA (ei X G pr) call ops row al m [] []with
 |none=>rw[oS]at h;cases h| some amY=>
 obtain⟨amZ,am0,mP,oe⟩:=amY;rw[oS]at h;have be:cn (oe.all (Q8 (ei X G pr) es (lx ops) mP.reverse)) (some (amZ,am0)) none=some (hj,gS):=h;clear h;obtain⟨abw,be⟩:=g1 be;cases be;obtain⟨vs,S,A,MO,abx,am1,-⟩:=I5 aO kL dy m0 row oS;rw[dX]at abx;subst abx;rw[List.reverse_reverse]at abw;have aby:∀ y∈A,Q8 (ei X G pr) es (lx ops) S y=true:=λy aH=>gh.1 abw y (am1 y aH);have jV:(row.map (·.1)).Nodup:=amP kT;obtain⟨atd,ate,atf,atg,ath,ati,atj,iV,jY,pc,kt,am2,atk,am3,am4,atl⟩:=me.split row (bd:=[]) (by rw[dX];exact MO);have am5:(row.filter λr=>Nat.beq r.2 2).length=es.length:=by rw[<-abv,cD]
 cases am2;rw[dX]at iV;subst iV;have FC:(vs.map (·.1)).Nodup:=by rw[jY];exact jV
 have am6:=MO.ML;have am7:∀ (a8:List (Nat×Nat)) (bd:List (Nat×Nat)),row=a8++bd->BJ ops (λi=>i∈a8.map (·.1)):=λa8 bd nu j e aj he=>by
  obtain⟨⟨x,c⟩,ab,Sv⟩:=dC.1 aj;have Sw:x=j:=Sv;subst Sw;obtain⟨bC,p6,az⟩:=v5 ab;rcases(MM kT bC x c (p6++bd) (by rw[nu,az];simp)).2.2.2 e he with h | h;·simp at h
  ·show e∈a8.map (·.1);rw[az,fi];exact dV.2 (.inl h)
 let J:=FB X G pr D0 n0 ops es al vs S A
 have key:=amL (X:=X) (ops:=ops) (Q:=Q) dE.lt J ?step ?fin ops.length (Array.replicate ops.length false) a { w with drawn:=w.drawn+1 } (by simp) (by unfold todo;exact jN (Gs _ _) (by simp)) ?cl ?start
 case cl=>
  intro j e aj;exfalso;by_cases hi:j<ops.length<;>simp[pN,hi]at aj
 case start=>
  obtain⟨D,F,C,I,M,⟨β,a4⟩,bB,mJ,ab,mu⟩:=ar;obtain⟨m2,zo,am8,aA⟩:=MO.head;have cT:∀ i,¬ (Array.replicate ops.length false).getD i false=true:=λi=>by
   by_cases hi:i<ops.length<;>simp[pN,hi]
  refine⟨D,F,C,I,M,0,m2,⟨β,a4.world rfl⟩,λq e _=>⟨λh=>(cT e h).elim,λh=>by omega⟩,bw _,by rw[am8];rfl,mJ.grow aA,λi v t hi=>(cT i hi).elim,λt v _ aA=>bB t v aA,λi c l T m5 _=>?_,ab⟩;have:=(am6.2 i c l T m5).1;cases I7:D c with
  |none=>rfl| some b=>have:=mJ.j5 _ _ I7;omega
 case fin=>
  rintro a w⟨D,F,C,I,M,j,su,a4,xU,aj,wy,mJ,Df,Dg,eG,ab⟩;have gz:j=es.length:=by
   refine Nat.le_antisymm aj ?_;by_cases ao:es.length=0;·omega
   ·have aS:es.length-1<es.length:=by omega
    have U:=(xU (es.length-1) es[es.length-1] (eR aS)).1 ((Sy _).1 (cC aS)).1;omega
  have am9:su=gS:=by rw[gz,pc,l3 (by omega),kt,am5]at wy;simpa using wy.symm
  subst am9;refine vp a w ⟨D,F,C,I,M,a4,λt v aA=>?_,mJ,ab,?_⟩
  ·rcases am4 t v aA with⟨i,U,aa⟩ | ⟨U,aa⟩
   ·obtain⟨gJ,iB,_⟩:=GA aa;exact Df i v t (kc.1 iB).1 U aa
   ·refine Dg t v (λi hi=>?_) aa;rcases Su kT i hi with af | af
    ·simp at af
    ·exact U i af
  ·obtain⟨bD,eD,C',I',M',_,_,_,_,mu⟩:=ar;exact jN mu am3
 case step=>
  rintro L a w q o⟨D,F,C,I,M,j,su,⟨β,a4⟩,xU,aj,wy,mJ,Df,Dg,eG,ab⟩fF AV ay rN MP;have eS:q<ops.length:=(kc.1 ay).1;have pb:=dy o (BH ay);obtain⟨⟨fN,k⟩,CJ,Sz⟩:=dC.1 ((Su kT q eS).resolve_left (by simp));have ana:fN=q:=Sz;subst ana;obtain⟨a8,post,cg⟩:=v5 CJ;obtain⟨-,-,abz,anb⟩:=MM kT a8 fN k post cg;have anc:∀ e,mY ops fN e->e∈a8.map (·.1):=λe he=>(anb e he).resolve_left (by simp);have SA:=am7 a8 ((fN,k)::post) cg;have abA:=MO;rw[cg]at abA;obtain⟨xS,zn,fJ,dY,wx,zo,xT,az,aF,bo,dw,gd,gM,hF,qi,xM⟩:=me.split a8 abA;have atm:=gd.ML;have H:∀ t∈looks ops o,∀ v,fJ.get t=some v->gx D (F t) v:=λt av v ak=>by
   rcases qi t v ak with⟨i,U,aa⟩ | ⟨U,aa⟩
   ·obtain⟨gJ,iB,qF⟩:=GA aa;have abB:i∈a8.map (·.1):=by rw[<-aF];exact dC.2 ⟨_,U,rfl⟩
    have bH:i≠fN:=λe=>abz (e ▸ abB);rcases dE.ord i fN gJ o t bH iB ay qF av with ah | ah;·exact Df i v t (ah.mem fF MP) (by rw[az];exact dV.2 (.inl U)) aa
    ·exact(abz (ah.mem SA λe he=>SA i e abB he)).elim
   ·refine Dg t v (λi hi kO=>?_) aa;obtain⟨gJ,iB,qF⟩:=GA kO;have bH:i≠fN:=λe=>rN (e ▸ hi);rcases dE.ord i fN gJ o t bH iB ay qF av with ah | ah
    ·exact U i (ah.mem SA anc) kO
    ·exact rN (ah.mem fF λe he=>fF i e hi he)
  have tC:jv D F fJ o.op.operands.toList:=amR H;have eH:E4 es (lx ops) fN<=j:=filter_le λp e aD ah=>by exact(xU p e aD).1 ((zL ah).mem fF MP)
  have e1:j<=mI es (lx ops) fN:=le_filter aj λp e aD Dh=>by
   cases ah:((lx ops).getD e 0).testBit fN with
   |false=>rfl| true=>have ane:L e:=(xU p e Dh).2 aD;exact(rN ((zL ah).mem fF λd ag=>fF e d ane ag)).elim
  have abC:lM X.E o.op≠2->∀ p e,es[p]?=some e->((L e\/e=fN) ↔ p<j):=λae p e aD=>by
   have bH:e≠fN:=λhe=>ae (by
    have:=((Sy e).1 (BH aD)).2;rw[he,abt ay]at this;exact this)
   exact⟨λbl=>(xU p e aD).1 (bl.resolve_right bH),λbl=>.inl ((xU p e aD).2 bl)⟩
  have SB:lM X.E o.op=2->es[j]?=some fN/\j+1<=es.length/\∀ p e,es[p]?=some e->((L e\/e=fN) ↔ p<j+1):=λae=>by
   have Sz:fN∈es:=(Sy fN).2 ⟨eS,by rw[abt ay];exact ae⟩;obtain⟨xV,iD⟩:=LL Sz;have atn:=(kc.1 iD).1;have U:¬ xV<j:=λbl=>rN ((xU xV fN iD).2 bl);have aa:¬ j<xV:=λbl=>by
    have gz:j<es.length:=by omega
    have SC:=Sx abu j xV es[j] fN bl (eR gz) iD;have:=(xU j es[j] (eR gz)).1 ((zL SC).mem fF MP);omega
   have af:xV=j:=by omega
   subst af;refine⟨iD,by omega,λp e aD=>⟨λbl=>?_,λbl=>?_⟩⟩
   ·rcases bl with bl | rfl
    ·have:=(xU p e aD).1 bl;omega
    ·refine DU λaw=>?_;have SC:=Sx abu xV p e e (by omega) iD aD;exact rN ((zL SC).mem fF MP)
   ·by_cases sN:p<xV
    ·exact .inl ((xU p e aD).2 sN)
    ·have:p=xV:=by omega
     subst this;rw[iD]at aD;exact .inr (pC aD).symm
  have plain:∀ {v:aq} {eD:Fr} {C':d'} {a':Act} {w':World},(fN,v)∈vs->lM X.E o.op≠2->(∀ l T c,rb.made fN c l T ∉ A\/True)->Rel X a' w' eD C' I M->wu o.dst v D F eD->J (λj=>L j\/j=fN) a' w':=fun {v eD C' a' w'} ak ae _ wW aD=>by obtain⟨f1,f2⟩:=FB.al dE ay rN FC ak (bR.le_refl D) aD Df Dg;exact⟨D,eD,C',I,M,j,su,wW,abC ae,aj,wy,mJ,f1,f2,λi c l T hm ee=>eG i c l T hm λhi=>ee (.inl hi),ab⟩
  have I8:∀ {v:aq} {bd:List (Nat×aq)},zn=(fN,v)::bd->(fN,v)∈vs:=fun {v bd} he=>by rw[az,he];exact dV.2 (.inr (by simp))
  have anf:n0<=dY.n:=by obtain⟨bD,eD,C',I',M',_,_,_,_,mu⟩:=ar;exact jN mu hF
  have abD:∀ {k:Nat},k=2->row=a8++(fN,k)::post->lM X.E o.op=2->wx.length=j:=fun {k} fP ang ae=>by
   obtain⟨SD,gz,_⟩:=SB ae;have anh:es=(a8.filter λr=>Nat.beq r.2 2).map (·.1)++fN::((post.filter λr=>Nat.beq r.2 2).map (·.1)):=by rw[<-abv,ang,I0,fi,J3];subst fP;simp
   have cf:es.Nodup:=by rw[<-mw];exact List.nodup_range.sublist List.filter_sublist
   have U:es[wx.length]?=some fN:=by rw[anh,l3 (by rw[cD,dw];exact bY _),cD,dw,lE];rfl
   have zQ:=(kc.1 U).1;exact(List.getElem?_inj zQ cf).1 (by rw[U,SD])
  cases gd with
  | @q i o' bd nq lQ v dj tP SE SF n6 oX au ae Di ak aD t=>
   have Dj:o'=o:=pC (au.symm.trans ay);subst Dj;have hw:=MN Di a4.al H;refine⟨λ_=>?_,λaC=>by rw[hw]at aC;cases aC⟩;obtain⟨u,hu,ani⟩:∃ u,v8 X.P X.E G su.t o'.op fJ=some u/\∀ x,gx D x u->gx D x v:=by
    cases ap:qB o'.op with
    |false=>exact⟨v,by rw[amS ap (m2:=dY.t)];exact ak,λ_ h=>h⟩
    |true=>
     have gW:rb.load fN o' fJ v∈A:=gM _ (by rw[ap];simp);have U:=aby _ gW;have aa:=abo (show E6 S (E4 es (lx ops) fN) (mI es (lx ops) fN) (Q6 (ei X G pr) o' fJ v)=true from U) eH e1 wy;unfold Q6 at aa;split at aa;·rename_i u hu;exact⟨u,hu,λx ab=>ab.same aa⟩
     ·cases aa
   refine tK (λa' w'=>?_) (DO aO pb ⟨β,a4⟩ (abk (K:=λeD C' I' M'=>I'=I/\M'=M/\wu o'.dst v D F eD) aO pb ae hu tC mJ λx ab=>⟨rfl,rfl,.put F (ani x ab)⟩));rintro⟨eD,C',I',M',hR,rfl,rfl,Ss⟩;exact plain (I8 rfl) (by rw[ae];decide) (λ_ _ _=>.inr trivial) hR Ss
  | @a i o' d bd nq lQ m' l T c mk dj tP SE SF n6 oX au ae Di ag ak anj aD t=>
   have Dj:o'=o:=pC (au.symm.trans ay);subst Dj;have hw:=MN Di a4.al H;refine⟨λ_=>?_,λaC=>by rw[hw]at aC;cases aC⟩;have gW:rb.made fN dY.n l T∈A:=gM _ (by simp);have U:=aby _ gW;have aa:=abo (show E6 S (E4 es (lx ops) fN) (mI es (lx ops) fN) (Q7 dY.n l T)=true from U) eH e1 wy;unfold Q7 at aa;rw[cp]at aa;obtain⟨ank,aa⟩:=aa;have anl:dY.n<su.n:=b0 ank;split at aa
   ·rename_i cs jf fh qw;simp only[cp]at aa;obtain⟨bM,wc,aa⟩:=aa;have Gd:=cK bM;subst Gd;have Z3:=cK wc;subst Z3;split at aa
    ·rename_i l' ou;obtain⟨nj,eY,dS,s6⟩:=bi.E8 cs l.length 0 _ _ ou;have nS:nj=l':=pC s6;subst nS;have I7:D dY.n=none:=eG fN dY.n l jf gW rN;refine tK (λa' w'=>?_) (DO aO pb ⟨β,a4⟩ (ZO (K:=λeD C' I' M'=>∃ b us u,I'=I/\M'=⟨b,.cells us.toArray jf (0,0)⟩::M/\I b=none/\(∀ x∈M,x.num≠b)/\bT D l us/\(∀ i,X.E jf=some i->us.length=c*i.size)/\c<=maxLen /\ (∀ (bD:bR) id,bD id=some ⟨b,0,c⟩->aT bD (mk id) u)/\AL o'.dst u F eD) aO kL pb ak (by rw[ag];rfl) tC λb us u eD C' aV a3 bW fx p2 K4 SG=>⟨b,us,u,rfl,rfl,aV,a3,bW,fx,p2,K4,SG⟩));rintro⟨eD,C',I',M',hR,b,us,u,rfl,rfl,aV,a3,bW,fx,p2,K4,SG⟩;have bn:D.le (D.set dY.n ⟨b,0,c⟩):=bR.AK _ I7;have MQ:wu o'.dst (mk dY.n) (D.set dY.n ⟨b,0,c⟩) F eD:=SG.v (K4 _ _ (bR.qo _ _ _));obtain⟨f1,f2⟩:=FB.al dE ay rN FC (I8 rfl) bn MQ Df Dg;have oE:=FA aa bW;have iC:∀ id,id≠dY.n->(D.set dY.n ⟨b,0,c⟩) id=D id:=λid kF=>by unfold bR.set;rw[ca kF]
     have Ix:∀ id e hJ,su.t.get id=some e->D id=some hJ->hJ.b≠b:=λid e hJ hi gV y3=>by obtain⟨x,CY,FD⟩:=mJ.aL hi gV;exact a3 x CY (FD.trans y3)
     refine⟨D.set dY.n ⟨b,0,c⟩,eD,C',I',_,j,su,hR,abC (by rw[ae];decide),aj,wy,?_,f1,f2,?_,λi hi=>?_⟩
     ·refine⟨λid e hJ hi gV=>?_,λid iP e bA b1 cb hi di U aa y3=>?_,λid hJ gV=>?_,mJ.rc⟩
      ·by_cases kF:id=dY.n
       ·subst kF;rw[bR.qo]at gV;cases gV;rw[qw]at hi;cases hi;refine .cells us.toArray rfl (by simp) (by simp[bW.len]) (λi v hi ak=>?_) (λi hi=>by simpa using fx i hi) p2;have ls:nj[i]?=some v:=by have:=dS i hi;rw[dz,ak]at this;exact this.symm
        obtain⟨x,CY,FD⟩:=oE.get ls;exact⟨x,by simpa using CY,FD.mono bn⟩
       ·rw[iC id kF]at gV;exact(mJ.jc id e hJ hi gV).mono bn λx ab _=>oU _ ab
      ·by_cases kF:id=dY.n
       ·by_cases I9:iP=dY.n
        ·rw[kF,I9]
        ·rw[iC iP I9]at aa;rw[kF,bR.qo]at U;cases U;exact(Ix iP bA cb di aa y3.symm).elim
       ·rw[iC id kF]at U;by_cases I9:iP=dY.n
        ·rw[I9,bR.qo]at aa;cases aa;exact(Ix id e b1 hi U y3).elim
        ·rw[iC iP I9]at aa;exact mJ.inj id iP e bA b1 cb hi di U aa y3
      ·by_cases kF:id=dY.n
       ·rw[kF];exact anl
       ·rw[iC id kF]at gV;exact mJ.j5 _ _ gV
     ·intro i c' l' Ca m5 ee;have R9:c'≠dY.n:=λe=>by
       rcases xM i c' l' Ca m5 with h | h
       ·rcases eL.1 h with h | h
        ·cases h;exact ee (.inr rfl)
        ·have:=(t.ML.2 i c' l' Ca h).1;have:=anj.1;omega
       ·omega
      rw[iC c' R9];exact eG i c' l' Ca m5 λhi=>ee (.inl hi)
     ·rw[iC i (by omega)];exact ab i hi
    ·cases aa
   ·cases aa
  | @e i o' bd nq lQ m' v dj tP SE SF n6 oX au ae Di I3 aD t=>
   have Dj:o'=o:=pC (au.symm.trans ay);subst Dj;have hw:=MN Di a4.al H;refine⟨λ_=>?_,λaC=>by rw[hw]at aC;cases aC⟩;obtain⟨SD,gz,SH⟩:=SB ae;have Ja:=abD rfl cg ae;have SI:su=dY:=by rw[bo,l3 (by omega),Ja,lE]at wy;simpa using wy.symm
   subst SI;obtain⟨m2,anm,SJ,SK⟩:=t.head;refine tK (λa' w'=>?_) (DO aO pb ⟨β,a4⟩ (I3.2 D F C I M (λeD C' I' M'=>∃ bD,D.ext bD su.n/\wu o'.dst v bD F eD/\dx (ei X G pr) bD m' I' M') tC mJ λbD eD C' I' M' aV a3 bW=>⟨bD,aV,a3,bW⟩));rintro⟨eD,C',I',M',hR,bD,aV,a3,bW⟩;have bn:=mJ.le aV;obtain⟨f1,f2⟩:=FB.al dE ay rN FC (I8 rfl) bn a3 Df Dg;refine⟨bD,eD,C',I',M',j+1,m2,hR,SH,gz,?_,bW.grow SK,f1,f2,λi c l T m5 ee=>?_,bR.abm ab aV anf⟩;·rw[bo,l3 (by omega),Ja,show j+1-j=0+1 by omega,JG,SJ];rfl
   ·rcases xM i c l T m5 with h | h
    ·have:=(t.ML.2 i c l T h).1;cases I7:bD c with
     |none=>rfl| some b=>have:=bW.j5 _ _ I7;omega
    ·rw[aV c h];exact eG i c l T m5 λhi=>ee (.inl hi)
  | @skip i ed o' bd nq lQ dj tP SE SF n6 oX au ae Di aD t=>
   have Dj:o'=o:=pC (au.symm.trans ay);subst Dj;have hw:=MN Di a4.al H;refine⟨λaC=>(by rw[hw]at aC;cases aC),λ_=>?_⟩;have wW:Rel X (a.put o'.dst undef) w (put o'.dst (.val undef) F) C I M:=⟨β,a4.put (x:=.val undef) pb rfl⟩;have MQ:wu o'.dst (.t []) D F (put o'.dst (.val undef) F):=.put F (.val .undef);by_cases fP:k=2
   ·subst fP;obtain⟨SD,gz,SH⟩:=SB ae;have Ja:=abD rfl cg ae;have SI:su=dY:=by rw[bo,l3 (by omega),Ja,lE]at wy;simpa using wy.symm
    subst SI;obtain⟨m2,anm,SJ,SK⟩:=t.head;obtain⟨f1,f2⟩:=FB.al dE ay rN FC (I8 rfl) (bR.le_refl D) MQ Df Dg;refine⟨D,_,C,I,M,j+1,m2,wW,SH,gz,?_,mJ.grow SK,f1,f2,λi c l T m5 ee=>eG i c l T m5 λhi=>ee (.inl hi),ab⟩;rw[bo,l3 (by omega),Ja,show j+1-j=0+1 by omega];show(su::n6)[0+1]?=some m2;rw[JG,SJ];rfl
   ·exact plain (I8 rfl) (by rw[ae];exact fP) (λ_ _ _=>.inr trivial) wW MQ
 simpa using key
end
def Dk{n:Nat}:∀ {c:Code},iu n c=true->codeOk n c=true
 | .seq x y,h=>by simp only[iu,codeOk,cp]at h |-;exact⟨Dk h.1,Dk h.2⟩
 | .block _ c,h=>by simp only[iu,codeOk]at h |-;exact Dk h
 | .cond _ x y,h=>by simp only[iu,codeOk,cp]at h |-;exact⟨Dk h.1,Dk h.2⟩
 | .loop c,h=>by simp only[iu,codeOk]at h |-;exact Dk h
 | .region _ ops _,h=>h| .scope c,h=>rfl| .rangeFunc ..,h=>rfl| .skip,h | .exit _,h | .label _,h | .goto _,h | .ret,h | .refuse _,h=>rfl
def SL{n:Nat}:∀ {c:Code} {l:Nat} {r:Code},iu n c=true->findLabel c l=some r->iu n r=true
 | .seq x y,l,r,h,ap=>by
  simp only[iu,cp]at h;simp only[findLabel]at ap;split at ap;·rename_i bd ai;cases ap;simp only[iu,cp];exact⟨SL h.1 ai,h.2⟩
  ·exact SL h.2 ap
 | .label l',l,r,h,ap=>by
  simp only[findLabel]at ap;split at ap;·cases ap;rfl
  ·cases ap
 | .skip,_,_,_,ap | .exit _,_,_,_,ap | .goto _,_,_,_,ap | .ret,_,_,_,ap | .refuse _,_,_,_,ap | .block _ _,_,_,_,ap | .cond _ _ _,_,_,_,ap | .loop _,_,_,_,ap | .scope _,_,_,_,ap | .region _ _ _,_,_,_,ap | .rangeFunc _ _ _ _,_,_,_,ap=>by simp[findLabel]at ap
def xW(P:Program):Prop:=∀ (g:Nat) (fn:Func) (c:Code),P.funcs[g]?=some fn->fn.body=some c->iu fn.ntmps c=true/\(fn.name == "runtime.NumGoroutine")=false
def ann(P:Program):Bool:=P.funcs.toList.all λfn=>match fn.body with
 |some c=>iu fn.ntmps c && !(fn.name == "runtime.NumGoroutine")
 |none=>true
def ano(h:ann P=true):xW P:=λg fn c aC ah=>by have U:=gh.1 h fn (by rw[<-Array.mem_def];exact Array.mem_of_getElem? aC);simp only[ah,cp,o7]at U;exact U
def zp(Y:hh):Prop:=∀ g vs m v m',Y.pr g vs m=some (v,m')->∀ (D:bR) (I:aR) (M:List aI) (us:List Value),bT D vs us->dx Y D m I M->Spec Y.P g us I M λr I' M'=>∃ bD,D.ext bD m.n/\aT bD v r/\dx Y bD m' I' M'
def A6:vq->Exit
 | .normal=>.normal| .exit id=>.exit id| .goto l=>.goto l| .ret=>.ret
def j8(Y:hh)(n B:Nat)(ao:World)(er:aR)(cu:List Nat)(ro:Option Nat):c7:=⟨Y.P,Y.E,List.range n,n,B,ao,er,cu,ro⟩
def j8.g5{Y:hh}{n B:Nat}{ao:World}{er:aR}{cu:List Nat}{ro:Option Nat}:∀ d,d<(j8 Y n B ao er cu ro).n->(j8 Y n B ao er cu ro).g5.contains d=true:=λd ag=>by have iI:d<n:=ag;show(List.range n).contains d=true;simpa using iI
def Dl(Y:hh)(f:Nat):Prop:=∀ jb n c al m ex dj m',j4 Y f jb n c al m=some (ex,dj,m')->iu n c=true->∀ B ao er cu ro D0 n0 a w,(jb=true->ro=none)->lP (j8 Y n B ao er cu ro) Y.G Y.pr D0 n0 al m a w -> c.wpIn (hq (j8 Y n B ao er cu ro)) 0 Y.P (λe a w=>e=A6 ex/\lP (j8 Y n B ao er cu ro) Y.G Y.pr D0 n0 dj m' a w) a w
def SM{α:Type}:∀ (n k:Nat),(bi.bare n:bi α).get k=none
 |0,k=>rfl
 |n+1,k=>by
  rw[bi.bare,bi.Ih];cases Nat.beq k 0 with
  |true=>rfl
  |false=>
   cases Nat.beq (k%2) 1 with
   |true=>exact SM n _| false=>exact SM n _
section
variable{X:c7}{G:GT}{pr:mb}{D:bR}{m:bp}{F:Fr}{al:bi aq}{C:d'}{I:aR}{M:List aI}
def SN(bB:re D F al)(hm:dx (ei X G pr) D m I M):∀ {bg:List ResultVar} {vs:List aq} {K:List Value->Prop},AE (ei X G pr) al m.t bg=some vs->(∀ us,bT D vs us->K us)->pS X F C I M bg K
 |[],vs,K,h,ae=>by simp only[AE]at h;cases h;exact ae [] .nil
 | .tmp t::l,vs,K,h,ae=>by
  simp only[AE]at h;split at h;·rename_i v tP U aa;cases h;obtain⟨u,az,aV⟩:=(show gx D (dD F (.tmp t)) v from bB t v U).dR;unfold pS;rw[az];exact SN bB hm aa λus fZ=>ae _ (.cons aV fZ)
  ·cases h
 | .cell t ty::l,vs,K,h,ae=>by
  simp only[AE]at h;split at h
  ·rename_i x i tP U aa af;split at h
   ·rename_i v ak;cases h;have zd:∀ q,x≠.b q:=λq e=>by subst e;cases ak
    obtain⟨u,az,aV⟩:=gx.xz (bB t x U:gx D (dD F (.tmp t)) x) zd;obtain⟨ad,l',FE,rfl,bu,ap,aD⟩:=AJ hm aV ak;have qN:X.E ty=some i:=aa;have eA:dD F (.tmp t)=.val (.pointer (some ad)):=az;unfold pS;rw[eA,qN];exact⟨FE,bu,SN bB hm af λus fZ=>ae _ (.cons (Mb aD ap) fZ)⟩
   ·cases h
  ·cases h
end
def abE(aO:c6 Y.P Y.E)(bB:xW Y.P)(nu:zp Y)(aN:Dl Y f){m:bp}{v:aq}{fn:Func}{c:Code}(aC:Y.P.funcs[g]?=some fn)(ah:fn.body=some c)(bn:args.length<=fn.ntmps){al dj:bi aq}(vo:∀ t w,al.get t=some w->args[t]?=some w){dY:bp}(hex:ex=.normal\/ex=.ret)(h:j4 Y f true fn.ntmps c al m=some (ex,dj,dY)){vs:List aq}(ai:AE Y dj dY.t fn.results.toList=some vs)
  (ak:v=Zx vs) (hu:bT D args us) (hm:dx Y D m I M):yf Y.P g us I M λr I' M'=>∃ bD,D.ext bD m.n/\aT bD v r/\dx Y bD dY I' M':=by
 obtain⟨bb,sL⟩:=bB g fn c aC ah;refine NX (List.range fn.ntmps) aO aC ah sL ?_ λB ao a w a4=>?_
 ·rw[cp];exact⟨Dk bb,Cs (by rw[hu.len];exact bn)⟩
 ·have anp:re D (yp us) al:=λt w hw=>by obtain⟨x,U,aa⟩:=hu.get (vo t w hw);refine .inl ⟨x,?_,aa⟩;simp only[yp,U]
  have dT:lP (j8 Y fn.ntmps B ao I (M.map (·.num)) none) Y.G Y.pr D m.n al m a w:=⟨D,_,_,I,M,a4,anp,hm,bR.pE,bY _⟩;refine wpIn_mono (aN _ _ _ _ _ _ _ _ h bb B ao I (M.map (·.num)) none D m.n a w (λ_=>rfl) dT) ?_;rintro e a' w'⟨rfl,bD,eD,C',I',M',wW,Ub,qH,ab,aw⟩;have Hq:∀ C1,C1=.normal\/C1=.ret->wN (j8 Y fn.ntmps B ao I (M.map (·.num)) none) fn.results.toList (λr I' M'=>∃ bD,D.ext bD m.n/\aT bD v r/\dx Y bD dY I' M') C1 eD C' I' M':=λC1 he=>by
   have anq:=SN (X:=j8 Y fn.ntmps B ao I (M.map (·.num)) none) (G:=Y.G) (pr:=Y.pr) (C:=C') Ub qH ai (K:=λvs=>match vs with
    |[sj]=>wM (M.map (·.num)) I' M' ((λr I' M'=>∃ bD,D.ext bD m.n/\aT bD v r/\dx Y bD dY I' M') sj)
    |vs=>wM (M.map (·.num)) I' M' ((λr I' M'=>∃ bD,D.ext bD m.n/\aT bD v r/\dx Y bD dY I' M') (.tuple vs.toArray))) λFE fZ=>by
     clear ai
     match vs,FE,fZ,ak with
     |[],FE,fZ,ak=>rw[fZ.oa];refine⟨I',M',.refl,bD,ab,?_,qH⟩;rw[ak];exact .Ma .nil| [v1],FE,fZ,ak=>obtain⟨x,xs,U,aa,rfl⟩:=fZ.kV;rw[aa.oa];refine⟨I',M',.refl,bD,ab,?_,qH⟩;rw[ak];exact U
     |v1::v2::vs,FE,fZ,ak=>obtain⟨x,xs,U,aa,rfl⟩:=fZ.kV;obtain⟨y,il,af,aP,rfl⟩:=aa.kV;refine⟨I',M',.refl,bD,ab,?_,qH⟩;rw[ak];exact .Ma fZ
   rcases he with rfl | rfl<;>exact anq
  rcases hex with rfl | rfl;·exact⟨eD,C',I',M',wW,Hq _ (.inl rfl)⟩
  ·exact⟨eD,C',I',M',wW,Hq _ (.inr rfl)⟩
def Spec.lj{args:List Value}(h:Spec P f args I M p)(ae:∀ v I' M',p v I' M'->q v I' M'):Spec P f args I M q:=by
 rcases h with⟨U,aa⟩ | h
 ·refine .inl ⟨U,λw hw=>?_⟩;refine(aa w hw).mono ?_;rintro e w'⟨v,I',M',az,aF,bo,dw⟩;exact⟨v,I',M',az,ae _ _ _ aF,bo,dw⟩
 ·refine .inr λw hw=>?_;obtain⟨v,w',I',M',az,aF,bo,dw⟩:=h w hw;exact⟨v,w',I',M',az,ae _ _ _ aF,bo,dw⟩
section
variable{Y:hh}{D:bR}{m m':bp}{I:aR}{M:List aI}
def abF(aO:c6 Y.P Y.E)(bB:xW Y.P)(nu:zp Y)(aN:Dl Y f){v:aq}(h:L2 Y (j4 Y f) g args m=some (v,m'))(hu:bT D args us)(hm:dx Y D m I M) :
  yf Y.P g us I M λr I' M'=>∃ bD,D.ext bD m.n/\aT bD v r/\dx Y bD m' I' M':=by
 unfold L2 at h;obtain⟨fn,aC,U⟩:=c1 h;obtain⟨c,ah,aa⟩:=c1 U;obtain⟨bn,af⟩:=g1 aa;obtain⟨al,aV,a3⟩:=bi.zb args (bi.bare 12) 0;rw[aV]at af;have vo:∀ t w,al.get t=some w->args[t]?=some w:=λt w hw=>by
  rcases a3 t w hw with⟨_,h⟩ | ⟨_,h⟩;·simpa using h
  ·rw[SM]at h;cases h
 unfold Zy at af;split at af
 ·rename_i dj dY ab;unfold L1 at af;obtain⟨vs,ai,aP⟩:=c1 af;cases aP;exact abE aO bB nu aN aC ah (b0 bn) vo (.inl rfl) ab ai rfl hu hm
 ·rename_i dj dY ab;unfold L1 at af;obtain⟨vs,ai,aP⟩:=c1 af;cases aP;exact abE aO bB nu aN aC ah (b0 bn) vo (.inr rfl) ab ai rfl hu hm
 ·cases af
def abG(aO:c6 Y.P Y.E)(bB:xW Y.P)(nu:zp Y)(aN:Dl Y f){v:aq}(h:tj Y (j4 Y f) g args m=some (v,m'))(hu:bT D args us)(hm:dx Y D m I M) :
  Spec Y.P g us I M λr I' M'=>∃ bD,D.ext bD m.n/\aT bD v r/\dx Y bD m' I' M':=by
 unfold tj at h;cases aD:Y.pr g args m with
 |none=>rw[aD]at h;exact .inl (abF aO bB nu aN h hu hm)| some p=>rw[aD]at h;have be:some p=some (v,m'):=h;cases be;exact nu g args m v m' aD D I M us hu hm
def cR.kept{a:Act}{W:World}{C:d'}(h:cR X β a w F C I' M')(U:X.ao=W)(aa:X.B=W.heap.size)(af:X.er=er)(aP:X.cu=M0.map (·.num)):Kept er M0 W I' M' w where
 le:=by rw[<-af];exact h.iy
 vk b o ah:=by
  rcases h.h2 b o ah with bq | bq;·exact .inl (by rw[<-af];exact bq)
  ·exact .inr (by rw[<-aa];exact bq)
 wH x ab:=by
  rcases h.own x ab with bq | bq;·rw[aP]at bq;obtain⟨y,aH,e⟩:=dC.1 bq;exact .inl ⟨y,aH,e⟩
  ·exact .inr (by rw[<-aa];exact bq)
 dg b ah aw:=by rw[<-U];refine h.dg b (by rw[aa];exact ah) λhm=>?_;rw[aP]at hm;obtain⟨y,aH,e⟩:=dC.1 hm;exact aw y aH e
 out:=by rw[<-U];exact h.out
 sz:=by rw[<-aa];exact h.sz
def abH{R:Type}:∀ {ps:List Nat} {args:List aq} {nq:bi aq} {K:bi aq->Option R} {r:R} {us:List Value} {tmps:Array Value},E7 ps args nq K=some r->bT D args us->(∀ t∈ps,t<tmps.size)->(∀ t v,nq.get t=some v->aT D v (tmps.getD t undef)) -> ∃ fJ,K fJ=some r/\us.length=ps.length/\((ps.zip us).foldl (λ(tmps:Array Value) (p:Nat×Value)=>tmps.setIfInBounds p.1 p.2) tmps).size=tmps.size /\ ∀ t v,fJ.get t=some v->aT D v (((ps.zip us).foldl (λ(tmps:Array Value) (p:Nat×Value)=>tmps.setIfInBounds p.1 p.2) tmps).getD t undef)
 |[],[],nq,K,r,us,tmps,h,hu,aD,ao=>by have:=hu.oa;subst this;exact⟨nq,h,rfl,rfl,ao⟩
 |[],_::_,nq,K,r,us,tmps,h,hu,aD,ao=>by simp[E7]at h
 |_::_,[],nq,K,r,us,tmps,h,hu,aD,ao=>by simp[E7]at h
 |t0::ps,xX::args,nq,K,r,us,tmps,h,hu,aD,ao=>by
  obtain⟨x,xs,aV,a3,rfl⟩:=hu.kV;simp only[E7]at h;obtain⟨fJ,U,aa⟩:=bi.pB (some xX) nq t0;rw[U]at h;have aS:=aD t0 (by simp);obtain⟨wz,af,aP,bq,bj⟩:=abH (tmps:=tmps.setIfInBounds t0 x) h a3 (λt av=>by simpa using aD t (by simp[av])) λt v av=>by
   rw[pN,DF];rcases aa t v av with⟨rfl,e⟩ | ⟨bH,aA⟩;·have:=(pC e);subst this;simp only[sD,aS];exact aV
   ·rw[ca (sC bH),<-pN];exact ao t v aA
  exact⟨wz,af,by simp[aP],by simpa using bq,bj⟩
def lN.MR{a:Loc}{b:Bool}{al:bi aq}(h:lN D E M a (.loop b n al ps fD body)):∃ L,(⟨a.b,.loop L⟩:aI)∈M/\ZH D b n al ps fD body L:=by
 cases h with
 |loop L U aa=>exact⟨L,U,aa⟩
def lN.anr{a:Loc}{c:Code}{al:bi aq}(h:lN D E M a (.done c n al ps fD body)):∃ L,(⟨a.b,.loop L⟩:aI)∈M/\L.state=.done/\L.pending=some c:=by
 cases h with
 |done L U aa af=>exact⟨L,U,aa,af⟩
def dx.swap(h:dx Y D m I M){dt:bi fW}{l:Nat}{cJ az:fW}{o o':Obj}{Mr:List aI}(aA:m.t.get l=some cJ)(aE:D l=some iq)(a2:M.Perm (⟨iq.b,o⟩::Mr))(av:∀ id e,dt.get id=some e->(id=l/\some az=some e)\/(id≠l/\m.t.get id=some e))
  (he:lN D Y.E (⟨iq.b,o'⟩::Mr) iq az):dx Y D ⟨dt,m.n⟩ I (⟨iq.b,o'⟩::Mr):=by
 refine h.step (λid e hi=>(av id e hi).imp (λq=>⟨q.1,pC q.2⟩) λq=>q) aE (bR.le_refl D) (λ_ _=>rfl) h.j5 (λ_ _ h=>h) (λid e a' bH hi rh x ab aw=>?_) he λid e a' bH hi rh ah=>bH (h.inj _ _ _ _ _ _ hi aA rh aE ah);rcases eL.1 (a2.mem_iff.1 ab)with rfl | ab
 ·exact(bH (h.inj _ _ _ _ _ _ hi aA rh aE aw.symm)).elim
 ·exact oU _ ab
end
section
variable{Y:hh}{D:bR}{m m':bp}{I:aR}{M:List aI}
def ans(aN:Dl Y f){l:Nat}{v:aq}(h:Rc (j4 Y f) l args m=some (v,m'))(ap:D l=some iq)(hu:bT D args us)(hm:dx Y D m I M) :
  GJ Y.P iq.b us I M λr I' M'=>∃ bD,D.ext bD m.n/\aT bD v r/\dx Y bD m' I' M':=by
 unfold Rc at h;split at h
 ·rename_i n nq ps fD body aA;obtain⟨L,a2,cT⟩:=(hm.jc _ _ _ aA ap).MR;intro W hP;have GN:W.heap[iq.b]?=some (.loop L):=hP.m _ a2;have dT:L.state=.ready:=cT.aB;have wR:∀ t∈ps,t<L.tmps.size:=λt av=>by rw[cT.sz];exact cT.op t (by rw[cT.ps];exact av)
  obtain⟨fJ,U,b3,c8,abI⟩:=abH (tmps:=L.tmps) h hu wR cT.al;have lF:L.params.size=ps.length:=by rw[<-cT.ps];simp
  refine⟨_,_,_,_,run_yield GN (by rw[lF];simpa using b3),?_⟩;have Ok:(L.params.zip us.toArray).foldl (λtmps (x:Nat×Value)=>match x with | (t,a)=>tmps.setIfInBounds t a) L.tmps=(ps.zip us).foldl (λ(tmps:Array Value) (p:Nat×Value)=>tmps.setIfInBounds p.1 p.2) L.tmps:=by rw[<-NE,<-cT.ps];simp
  rw[Ok];generalize bM:(ps.zip us).foldl (λ(tmps:Array Value) (p:Nat×Value)=>tmps.setIfInBounds p.1 p.2) L.tmps=T at abI c8;rw[cT.fD,cT.body];have ss:iu n fD=true:=by rw[<-cT.fD];exact cT.B4
  have So:iu n body=true:=by rw[<-cT.body];exact cT.nL
  refine roundIn_of_wpIn (F:=Fence.wide) (n:=0) trivial ?_;let w0:c7:=j8 Y n W.heap.size W I (M.map (·.num)) (some iq.b)
  have Gn:cR w0 (λ_=>0) { tmps:=T,defers:=[] } W (λt=>.val (T.getD t undef)) (λ_=>none) I M:={
   size:=c8.trans cT.sz
   defers:=⟨[],rfl,Bp,λr ai=>by cases ai⟩
   holds:=hP
   al:=λt=>rfl
   cw:=λs cs ar=>by cases ar
   inj:=λs ct U=>by simp at U
   iy:=λb o ah=>ah
   h2:=λb o ah=>.inl ah
   own:=λx ab=>.inl (dC.2 ⟨x,ab,rfl⟩)
   dg:=λb ah aC=>rfl
   out:=.refl _
   sz:=bY _ }
  unfold ZA at U;split at U
  ·rename_i wz m2 ant;have gj:lP w0 Y.G Y.pr D m.n fJ m { tmps:=T,defers:=[] } W:=⟨D,_,_,I,M,⟨_,Gn⟩,λt v ak=>.val (abI t v ak),hm,bR.pE,bY _⟩;refine wpIn_mono (aN _ _ _ _ _ _ _ _ ant ss _ _ _ _ _ D m.n _ _ (λe=>by cases e) gj) ?_;rintro e bz iV⟨rfl,MS,abJ,abK,fE,ey,⟨abL,rP⟩,anu,sU,FD,jL⟩;have nS:MS l=some iq:=by rw[FD l (hm.j5 _ _ ap)];exact ap
   have aa:Ra (j4 Y f) l n body (m2.t.get l) wz m2=some (v,m'):=U;unfold Ra at aa;split at aa
   ·rename_i et anv anw anx Rb kP;obtain⟨Dm,Iy,u7⟩:=(sU.jc _ _ _ kP nS).MR;obtain⟨a8,post,cg⟩:=v5 Iy;have kT:ey.Perm (⟨iq.b,.loop Dm⟩::(a8++post)):=by rw[cg];exact qd
    have abM:iV.heap[iq.b]?=some (.loop Dm):=rP.holds.m _ Iy;have anz:=(lS.1 abM).1;refine⟨_,run_beginRound abM u7.aB,?_⟩;obtain⟨t3,af,aP⟩:=bi.pB (some (fW.loop true et anv anw anx Rb)) m2.t l;rw[af]at aa;have anA:cR w0 abL bz (iV.putObj iq.b (.loop { Dm with state:=.busy })) abJ abK fE (⟨iq.b,.loop { Dm with state:=.busy }⟩::(a8++post)):=
     (rP.iH (.perm kT .refl)).swap (by simp) (DV anz) (λb ah=>nz ah) (JN _ _ _)
    have mL:dx Y MS ⟨t3,m2.n⟩ fE (⟨iq.b,.loop { Dm with state:=.busy }⟩::(a8++post)):=sU.swap kP nS kT aP (.loop { Dm with state:=.busy } (by simp) ⟨rfl,u7.qG,u7.sz,u7.al,u7.ps,u7.fD,u7.body,u7.B4,u7.nL,u7.op⟩);unfold Zz at aa;obtain⟨⟨ex,ato,Jb⟩,HE,bq⟩:=c1 aa;have w3:lP w0 Y.G Y.pr D m.n wz ⟨t3,m2.n⟩ bz (iV.putObj iq.b (.loop { Dm with state:=.busy })):=⟨MS,abJ,abK,fE,_,⟨abL,anA⟩,anu,mL,FD,jL⟩;refine wpIn_mono (aN _ _ _ _ _ _ _ _ HE So _ _ _ _ _ D m.n _ _ (λe=>by cases e) w3) ?_;rintro e dN kt⟨rfl,SO,anB,anC,ms,kr,⟨anD,MT⟩,atp,Dn,abN,A7⟩;have abO:SO l=some iq:=by rw[abN l (hm.j5 _ _ ap)];exact ap
    have bj:Q' l (Jb.t.get l) (D5 ex) Jb=some (v,m'):=bq;unfold Q' at bj;split at bj
    ·rename_i tD abP abQ abR abS Cf;obtain⟨SP,R2,A8⟩:=(Dn.jc _ _ _ Cf abO).MR;obtain⟨abT,abU,anE⟩:=v5 R2;have abV:kr.Perm (⟨iq.b,.loop SP⟩::(abT++abU)):=by rw[anE];exact qd
     have abW:kt.heap[iq.b]?=some (.loop SP):=MT.holds.m _ R2;have anF:=(lS.1 abW).1;obtain⟨t5,eh,gF⟩:=bi.pB (some (ch (D5 ex) (fW.loop false tD abP abQ abR abS) λc=>fW.done c tD abP abQ abR abS)) Jb.t l;rw[eh]at bj;cases bj;have fin:∀ jump,D5 ex=jump->∃ sj w',(Instr.endRound iq.b jump).run Y.P kt=.ok sj w'/\∃ r I' M',Ending.returned sj=.returned r/\(∃ bD,D.ext bD m.n/\aT bD (.b (D5 ex).isNone) r/\dx Y bD ⟨t5,Jb.n⟩ I' M')/\eI I' M' w'/\Kept I M W I' M' w':=by
      rintro jump aj;let MU:Loop:={ SP with state:=if jump.isNone then .ready else .done,pending:=jump }
      have abX:cR w0 anD dN (kt.putObj iq.b (.loop MU)) anB anC ms (⟨iq.b,.loop MU⟩::(abT++abU)):=
       (MT.iH (.perm abV .refl)).swap (by simp) (DV anF) (λb ah=>nz ah) (JN _ _ _)
      refine⟨_,_,run_endRound jump abW,_,ms,_,rfl,⟨SO,abN,?_,Dn.swap Cf abO abV gF ?_⟩,abX.holds,abX.kept rfl rfl rfl rfl⟩;·rw[aj];simp[aT]
      ·rw[aj];cases jump with
       |none=>exact .loop MU (by simp) ⟨rfl,rfl,A8.sz,A8.al,A8.ps,A8.fD,A8.body,A8.B4,A8.nL,A8.op⟩| some c=>exact .done MU (by simp) rfl rfl
     cases ex with
     |normal=>exact fin none rfl| exit id=>exact fin _ rfl| goto t=>exact fin _ rfl| ret=>exact fin _ rfl
    ·cases bj
   ·cases aa
  ·cases U
 ·cases h
end
section
variable{Y:hh}
def anG(aO:c6 Y.P Y.E)(bB:xW Y.P)(nu:zp Y)(aN:Dl Y f):I2 Y (L3 Y (j4 Y f)):=λamJ l m v m' h D I M u us zD fZ hm=>by
 unfold L3 at h;split at h
 ·rename_i g cE cs;simp only[aT]at zD;obtain⟨vs,ws,U,aa,rfl⟩:=zD;refine .inl ⟨g,_,_,rfl,?_⟩;have:=abG aO bB nu aN h (U.append (fZ.append aa)) hm;simpa using this
 ·rename_i q;simp only[aT]at zD;obtain⟨iq,U,rfl⟩:=zD;exact .inr ⟨iq.b,rfl,ans aN h U fZ hm⟩
 ·cases h
def lP.world{al:bi aq}{m:bp}{a:Act}(h:lP X G pr D0 n0 al m a w):∃ D F β,(∀ t,e2 β (F t) (a.tmps.getD t undef))/\re D F al:=by obtain⟨D,F,C,I,M,⟨β,a4⟩,bB,_⟩:=h;exact⟨D,F,β,a4.al,bB⟩
def lP.eval{al:bi aq}{m:bp}{a:Act}(h:lP X G pr D0 n0 al m a w){b:Bool}(ab:dB al x=some (.b b)):a.eval x=.bool b:=by obtain⟨D,F,β,U,aa⟩:=h.world;obtain⟨u,az,aV⟩:=(aa.op [x]).bG (x:=x) (by simp) ab;rw[dk U az,aV.bool]
def gx.ok{x:dQ}{v:aq}(h:gx D x v)(ab:e2 β x u):aT D v u:=by
 rcases h with⟨y,rfl,h⟩ | ⟨q,rfl,rfl⟩
 ·have:u=y:=ab;subst this;exact h
 ·have:u=.bool q:=ab;subst this;simp[aT]
def anH(aO:c6 Y.P Y.E)(bB:xW Y.P)(nu:zp Y)(aN:Dl Y f){jb:Bool}{ps:Array Tmp}{al dj:bi aq}{m m':bp}(h:Re Y (j4 Y f) jb n (dB al x) ps.toList fD body al m=some (ex,dj,m'))(bb:iu n (.rangeFunc x ps fD body)=true){B:Nat}{ao:World}{cu:List Nat}{ro:Option Nat}{a:Act}(mm:jb=true->ro=none)(ar:lP (j8 Y n B ao er cu ro) Y.G Y.pr D0 n0 al m a w) :
  (Code.rangeFunc x ps fD body).wpIn (hq (j8 Y n B ao er cu ro)) 0 Y.P (λe a w=>e=A6 ex/\lP (j8 Y n B ao er cu ro) Y.G Y.pr D0 n0 dj m' a w) a w:=by
 unfold Re at h;split at h
 ·rename_i g cap ab;have Om:=mm rfl;subst Om;obtain⟨D,F,C,I,M,⟨β,a4⟩,SQ,hm,fT,mu⟩:=ar;obtain⟨u,az,aV⟩:=(SQ.op [x]).bG (x:=x) (by simp) ab;simp only[aT]at aV;obtain⟨vs,ws,U,aa,rfl⟩:=aV;have iS:=U.oa;subst iS;simp only[iu,cp]at bb;obtain⟨t1,af,aP⟩:=Ip h;refine wpIn_rangeFunc λfn _=>?_;let g8:Loop:={ state:=.ready,pending:=none,fn:=fn,tmps:=a.tmps,params:=ps,assign:=fD,body:=body,defers:=w.heap.size }
  let l:=w.heap.size+1
  let jY:World:=(w.alloc (.deferred (some []))).alloc (.loop g8)
  have BL:=a4.U3.oq (.loop g8);have ap:(w.alloc (.deferred (some []))).heap.size=l:=by simp[l]
  rw[ap]at BL;have anI:∀ q∈M,q.num≠l:=λq ay e=>by have:=a4.holds.lt ay;omega
  have abY:dx Y (D.set m.n ⟨l,0,0⟩) ⟨t1,m.n+1⟩ I (⟨l,.loop g8⟩::M):=hm.new (a:=⟨l,0,0⟩) af anI (.loop g8 (by simp) ⟨rfl,rfl,a4.size,λt v av=>((SQ t v av).ok (a4.al t)).mono (bR.AK _ hm.fresh),rfl,rfl,rfl,bb.1,bb.2.1,λt av=>b0 (gh.1 bb.2.2 t av)⟩);unfold ZD at aP;obtain⟨⟨v,m2⟩,m0,bq⟩:=c1 aP;have abZ:=bR.AK (D:=D) ⟨l,0,0⟩ hm.fresh;have nb:bT (D.set m.n ⟨l,0,0⟩) (.y m.n::cap) (.func (.yield l) #[] #[]::ws):=.cons (by simp only[aT];exact⟨_,bR.qo _ _ _,rfl⟩) (aa.mono abZ);obtain⟨qw,BC⟩:=abF aO bB nu aN m0 nb abY;have anJ:=BC jY BL.holds;have aF:=dk a4.al az;refine⟨l,[yh w.heap.size],jY,{ target:=.fn (.func g) ws.toArray,args:=#[.func (.yield l) #[] #[]] },jY,g,(.func (.yield l) #[] #[]::ws).toArray,jY,?_,?_,λ_ _=>trivial,?_,(λh=>by cases h),?_⟩;·show(Instr.enterLoop fn a.tmps ps fD body none).run Y.P w=_;exact run_enterLoop_outer fn a.tmps ps fD body
  ·show(Deferred.ofValue (a.eval x) (#[Operand.const (.func (.yield l) #[] #[])].map a.eval)).run Y.P jY=_;rw[aF];simp[Deferred.ofValue,Act.eval]
  ·simp only[invoke];rw[show #[Value.func (.yield l) #[] #[]]++ws.toArray=(.func (.yield l) #[] #[]::ws).toArray from by apply g2;simp];exact qw _ _
  ·refine(NS (X:=j8 Y n B ao er cu none) anJ _).mono ?_;rintro e pc⟨r,ie,kq,rfl,⟨FF,SR,r4,mL⟩,ab0,anK⟩;have w4:=BL.after (Mr:=[]) (by simp) ab0 anK;rw[dX]at w4;have BM:FF m.n=some ⟨l,0,0⟩:=by rw[SR m.n (zz _)];exact bR.qo _ _ _
   have IH:=abY.le SR;have anL:re FF F al:=λt v av=>(SQ t v av).mono (bR.le_trans abZ IH);have anM:D0.ext FF n0:=λi hi=>by
    have e9:i<m.n+1:=by
     have:i<m.n:=by omega
     omega
    rw[SR i e9];show(if i=m.n then _ else D i)=D0 i;rw[ca (by omega)];exact fT i hi
   have fin:∀ (L:Loop) (t4:bi fW) (j:Option Code),(⟨l,.loop L⟩:aI)∈kq->L.state≠.busy->L.pending=j->(∃ cJ,m2.t.get m.n=some cJ)->(∀ id e,t4.get id=some e->(id=m.n/\(none:Option fW)=some e)\/(id≠m.n/\m2.t.get id=some e))->n0<=m2.n ->
     ∃ kt,(Instr.endLoop l).run Y.P pc=.ok j kt/\lP (j8 Y n B ao er cu none) Y.G Y.pr D0 n0 al ⟨t4,m2.n⟩ { a with defers:=[yh w.heap.size]++a.defers } kt:=by
    rintro L t4 j cT ah aD⟨cJ,anN⟩Pj A7;have anO:pc.heap[l]?=some (.loop L):=ab0.m _ cT;obtain⟨a8,post,cg⟩:=v5 cT;have kT:kq.Perm (⟨l,.loop L⟩::(a8++post)):=by rw[cg];exact qd
    have hB:∀ i eT,t4.get i=some eT->i≠m.n/\m2.t.get i=some eT:=λi eT hi=>by
     rcases Pj i eT hi with⟨_,gF⟩ | gF;·cases gF
     ·exact gF
    have MT:=(w4.iH (.perm kT .refl)).GM (o':=.loop { L with state:=.exhausted });refine⟨_,(by rw[<-aD];exact run_endLoop anO ah),FF,F,C,ie,a8++post,⟨β,MT⟩,anL,⟨λi eT b hi gV=>?_,λi hv eT AR b hJ hi di=>mL.inj i hv eT AR b hJ (hB i eT hi).2 (hB hv AR di).2,mL.j5,mL.rc⟩,anM,A7⟩;refine(mL.jc i eT b (hB i eT hi).2 gV).mono (bR.le_refl FF) λq ay aw=>?_;rcases eL.1 (kT.mem_iff.1 ay)with rfl | ay;·exact((hB i eT hi).1 (mL.inj _ _ _ _ _ _ (hB i eT hi).2 anN gV BM aw.symm)).elim
    ·exact ay
   have jL:∀ {cJ:fW},m2.t.get m.n=some cJ->n0<=m2.n:=λ_=>by have:=mL.j5 _ _ BM;omega
   have bj:(match m2.t.get m.n with
    |some (.loop false ..)=>m2.t.n' none m.n λt=>some (vq.normal,al,(⟨t,m2.n⟩:bp))
    |some (.done c ..)=>ch (Rd c) none λex=>m2.t.n' none m.n λt=>some (ex,al,⟨t,m2.n⟩)
    |_=>none)=some (ex,dj,m'):=bq
   split at bj;·rename_i Eu anP anQ anR anS oE;obtain⟨L,cT,ab1⟩:=(mL.jc _ _ _ oE BM).MR;obtain⟨t4,eh,gF⟩:=bi.pB (none:Option fW) m2.t m.n;rw[eh]at bj;cases bj;obtain⟨kt,fI,rQ⟩:=fin L t4 none cT (by rw[ab1.aB];simp) ab1.qG ⟨_,oE⟩ gF (jL oE);exact⟨none,kt,fI,rfl,rQ⟩
   ·rename_i c Eu anP anQ anR anS oE;obtain⟨L,cT,dT,anT⟩:=(mL.jc _ _ _ oE BM).anr;obtain⟨C1,hex,bj⟩:=c1 bj;obtain⟨t4,eh,gF⟩:=bi.pB (none:Option fW) m2.t m.n;rw[eh]at bj;cases bj;obtain⟨kt,fI,rQ⟩:=fin L t4 (some c) cT (by rw[dT];simp) anT ⟨_,oE⟩ gF (jL oE);refine⟨some c,kt,fI,?_⟩;unfold Rd at hex;split at hex
    ·cases hex;exact wpIn_exit ⟨rfl,rQ⟩
    ·cases hex;exact wpIn_goto ⟨rfl,rQ⟩
    ·cases hex;exact wpIn_ret ⟨rfl,rQ⟩
    ·cases hex
   ·cases bj
 ·cases h
end
section
variable{Y:hh}
def ab2{next:Act->World->Prop}{a:Act}(h:Q (A6 ex) a w)(bH:ex≠.normal):Exit.then next Q (A6 ex) a w:=by cases ex<;>first | exact(bH rfl).elim | exact h
def anU(aO:c6 Y.P Y.E)(bB:xW Y.P)(nu:zp Y)(g4:Y.P.follows .mixedOrders=true):∀ f k,k<=f->Dl Y k:=by
 intro f
 induction f with
 |zero=>
  intro k ae jb n c al m ex dj m' h;have:k=0:=by omega
  subst this;cases h
 |succ f a7=>
  intro k ae;by_cases Hz:k<=f;·exact a7 k Hz
  have m6:k=f+1:=by omega
  subst m6;have aN:=a7 f (bY _);have m0:=anG aO bB nu aN;intro jb n c al m ex dj m' h bb B ao er cu ro D0 n0 a w mm ar;have U:Rf Y f (j4 Y f) jb n c al m=some (ex,dj,m'):=h;have kL:=@j8.g5 Y n B ao er cu ro;unfold Rf at U;cases c with
  |skip=>cases U;exact wpIn_skip ⟨rfl,ar⟩| label l=>cases U;exact wpIn_label ⟨rfl,ar⟩| ret=>cases U;exact wpIn_ret ⟨rfl,ar⟩| exit id=>cases U;exact wpIn_exit ⟨rfl,ar⟩| goto l=>cases U;exact wpIn_goto ⟨rfl,ar⟩| refuse s=>cases U
  |seq x y=>
   simp only[iu,cp]at bb;simp only[If]at U;split at U;·rename_i fJ dY ab;refine wpIn_seq (wpIn_mono (aN _ _ _ _ _ _ _ _ ab bb.1 B ao er cu ro D0 n0 a w mm ar) ?_);rintro e bz iV⟨rfl,gj⟩;exact aN _ _ _ _ _ _ _ _ U bb.2 B ao er cu ro D0 n0 bz iV mm gj
   ·rename_i ee;refine wpIn_seq (wpIn_mono (aN _ _ _ _ _ _ _ _ U bb.1 B ao er cu ro D0 n0 a w mm ar) ?_);rintro e bz iV⟨rfl,gj⟩;exact ab2 ⟨rfl,gj⟩ λe=>ee dj m' (by rw[U,e])
  |block id c=>
   simp only[iu]at bb;simp only[ZB]at U;split at U
   ·rename_i j fJ dY ab;refine wpIn_block (wpIn_mono (aN _ _ _ _ _ _ _ _ ab bb B ao er cu ro D0 n0 a w mm ar) ?_);rintro e bz iV⟨rfl,gj⟩;simp only[A6,Exit.inBlock];by_cases aj:j=id
    ·subst aj;rw[rB]at U;have aa:some (vq.normal,fJ,dY)=some (ex,dj,m'):=U;cases aa;rw[cG rfl];exact⟨rfl,gj⟩
    ·rw[hy aj]at U;have aa:some (vq.exit j,fJ,dY)=some (ex,dj,m'):=U;cases aa;rw[ca aj];exact⟨rfl,gj⟩
   ·rename_i ee;refine wpIn_block (wpIn_mono (aN _ _ _ _ _ _ _ _ U bb B ao er cu ro D0 n0 a w mm ar) ?_);rintro e bz iV⟨rfl,gj⟩;cases ex with
    |exit j=>exact(ee j dj m' U).elim| normal=>exact⟨rfl,gj⟩| goto l=>exact⟨rfl,gj⟩| ret=>exact⟨rfl,gj⟩
  |cond x eY dS=>
   simp only[iu,cp]at bb;simp only[ZC]at U;split at U
   ·rename_i b ab;refine wpIn_cond (ar.eval ab) ?_;cases b with
    |true=>exact aN _ _ _ _ _ _ _ _ U bb.1 B ao er cu ro D0 n0 a w mm ar| false=>exact aN _ _ _ _ _ _ _ _ U bb.2 B ao er cu ro D0 n0 a w mm ar
   ·cases U
  |loop c=>
   simp only[iu]at bb;let J (k:Nat) (a:Act) (w:World):Prop:=k<=f+1/\∃ fJ dY,j4 Y k jb n (.loop c) fJ dY=some (ex,dj,m')/\lP (j8 Y n B ao er cu ro) Y.G Y.pr D0 n0 fJ dY a w
   refine JV J (m:=f+1) ⟨bY _,al,m,h,ar⟩ ?_;rintro k bz iV⟨ae,fJ,dY,aa,gj⟩;cases k with
   |zero=>cases aa
   |succ k=>
    have ab3:=a7 k (by omega);have af:If (j4 Y k jb n c fJ dY) (j4 Y k jb n (.loop c))=some (ex,dj,m'):=aa;simp only[If]at af;split at af;·rename_i wz m2 ab;refine wpIn_mono (ab3 _ _ _ _ _ _ _ _ ab bb B ao er cu ro D0 n0 bz iV mm gj) ?_;rintro e bJ jY⟨rfl,mU⟩;exact⟨k,zz k,by omega,wz,m2,af,mU⟩
    ·rename_i ee;refine wpIn_mono (ab3 _ _ _ _ _ _ _ _ af bb B ao er cu ro D0 n0 bz iV mm gj) ?_;rintro e bJ jY⟨rfl,mU⟩;exact ab2 ⟨rfl,mU⟩ λe=>ee dj m' (by rw[af,e])
  |region id ops anV=>
   cases anV with
   |false=>simp only[L4]at U;obtain⟨⟨fJ,dY⟩,ab,aa⟩:=c1 U;cases aa;refine wpIn_region ?_;have:=St (X:=j8 Y n B ao er cu ro) (G:=Y.G) (pr:=Y.pr) (D0:=D0) (n0:=n0) aO kL m0 ops (λe a w=>e=A6 .normal/\lP (j8 Y n B ao er cu ro) Y.G Y.pr D0 n0 fJ dY a w) (λa w h=>⟨rfl,h⟩) ops.toList 0 (by simp) (JU bb) ab ar;have fI:wpOpsIn (hq (j8 Y n B ao er cu ro)) 0 Y.P ops (λe a w=>e=A6 .normal/\lP (j8 Y n B ao er cu ro) Y.G Y.pr D0 n0 fJ dY a w) (List.range' 0 ops.toList.length) a w:=this;rw[DG];simpa using fI
   |true=>simp only[L4]at U;obtain⟨⟨fJ,dY⟩,ab,aa⟩:=c1 U;cases aa;exact amV (X:=j8 Y n B ao er cu ro) (G:=Y.G) (pr:=Y.pr) (D0:=D0) (n0:=n0) aO kL m0 g4 bb ab (λa w h=>⟨rfl,h⟩) ar
  |scope c=>
   simp only[iu]at bb;have step:∀ (k:Nat) (x:Code) (fJ:bi aq) (dY:bp) (bz:Act) (iV:World),iu n x=true->Ig (j4 Y f) jb n c (k+1) x fJ dY=some (ex,dj,m')->lP (j8 Y n B ao er cu ro) Y.G Y.pr D0 n0 fJ dY bz iV ->
     x.wpIn (hq (j8 Y n B ao er cu ro)) 0 Y.P (λe a' w'=>match e with
      | .goto l=>∃ bd wz m2,findLabel c l=some bd/\Ig (j4 Y f) jb n c k bd wz m2=some (ex,dj,m')/\lP (j8 Y n B ao er cu ro) Y.G Y.pr D0 n0 wz m2 a' w'| e=>e=A6 ex/\lP (j8 Y n B ao er cu ro) Y.G Y.pr D0 n0 dj m' a' w') bz iV:=λk x fJ dY bz iV ab aa gj=>by
    have af:(match j4 Y f jb n x fJ dY with
     |some (.goto l,al,m)=>ch (findLabel c l) none λbd=>Ig (j4 Y f) jb n c k bd al m
     |r=>r)=some (ex,dj,m'):=aa
    split at af;·rename_i l wz m2 he;obtain⟨bd,zP,aP⟩:=c1 af;refine wpIn_mono (aN _ _ _ _ _ _ _ _ he ab B ao er cu ro D0 n0 bz iV mm gj) ?_;rintro e bJ jY⟨rfl,mU⟩;exact⟨bd,wz,m2,zP,aP,mU⟩
    ·rename_i ee;refine wpIn_mono (aN _ _ _ _ _ _ _ _ af ab B ao er cu ro D0 n0 bz iV mm gj) ?_;rintro e bJ jY⟨rfl,mU⟩;cases ex with
     |goto l=>exact(ee l dj m' af).elim| exit j=>exact⟨rfl,mU⟩| normal=>exact⟨rfl,mU⟩| ret=>exact⟨rfl,mU⟩
   let J (l k:Nat) (a:Act) (w:World):Prop:=∃ bd fJ dY,findLabel c l=some bd/\Ig (j4 Y f) jb n c k bd fJ dY=some (ex,dj,m')/\lP (j8 Y n B ao er cu ro) Y.G Y.pr D0 n0 fJ dY a w
   cases f with
   |zero=>cases U
   |succ B2=>
    refine U1 J (wpIn_mono (step B2 c al m a w bb U ar) ?_) ?_
    ·intro e bz iV he;cases e with
     |goto l=>exact⟨B2,he⟩| _=>exact he
    ·rintro l k bz iV⟨bd,fJ,dY,zP,aa,gj⟩;cases k with
     |zero=>cases aa
     |succ k=>
      refine⟨bd,zP,wpIn_mono (step k bd fJ dY bz iV (SL bb zP) aa gj) ?_⟩;intro e bJ jY he;cases e with
      |goto l'=>exact⟨k,zz k,he⟩| _=>exact he
  |rangeFunc x ps fD body=>exact anH aO bB nu aN U bb mm ar
def reckon(aO:c6 Y.P Y.E)(bB:xW Y.P)(nu:zp Y)(g4:Y.P.follows .mixedOrders=true){m m':bp}{v:aq}(h:tj Y (j4 Y f) g args m=some (v,m'))(hu:bT D args us)(hm:dx Y D m I M) : Spec Y.P g us I M λr I' M'=>∃ bD,D.ext bD m.n/\aT bD v r/\dx Y bD m' I' M':=
 abG aO bB nu (anU aO bB nu g4 f f (bY _)) h hu hm
end
def ab4(h:eI I M w)(U:eI I' M' w')(aa:Kept I [] w I' M' w') :
  eI I' (M'++M) w'/\Kept I M w I' (M'++M) w'/\∀ x∈M',∀ y∈M,x.num≠y.num:=by
 have aS:∀ x∈M,x.num<w.heap.size:=λx ab=>(lS.1 (h.m x ab)).1;have cm:∀ x∈M',w.heap.size<=x.num:=λx ab=>by
  rcases aa.wH x ab with⟨y,aH,_⟩ | h;·cases aH
  ·exact h
 have bH:∀ x∈M',∀ y∈M,x.num≠y.num:=λx ab y aH e=>by have:=aS y aH;have:=cm x ab;omega
 refine⟨⟨U.i,λx ab=>?_,λx ab=>?_,?_⟩,⟨aa.le,aa.vk,λx ab=>?_,λb ah _=>aa.dg b ah (by simp),aa.out,aa.sz⟩,bH⟩
 ·rcases dV.1 ab with ab | ab
  ·exact U.m x ab
  ·rw[aa.dg x.num (aS x ab) (by simp)];exact h.m x ab
 ·rcases dV.1 ab with ab | ab
  ·exact U.d x ab
  ·cases he:I' x.num with
   |none=>rfl
   |some o=>
    rcases aa.vk _ _ he with af | af;·rw[h.d x ab]at af;cases af
    ·have:=aS x ab;omega
 ·rw[fi,Bn];refine⟨U.cd,h.cd,λa aE b ah e=>?_⟩;obtain⟨x,ab,rfl⟩:=dC.1 aE;obtain⟨y,aH,rfl⟩:=dC.1 ah;exact bH x ab y aH e
 ·rcases dV.1 ab with ab | ab
  ·exact .inr (cm x ab)
  ·exact .inl ⟨x,ab,rfl⟩
def Spec.frame{args:List Value}{Q:Value->aR->List aI->Prop}(h:Spec P f args I [] Q):Spec P f args I M λr I' oz=>∃ M',oz=M'++M/\(∀ x∈M',∀ y∈M,x.num≠y.num)/\(∀ b o,I b=some o->I' b=some o)/\Q r I' M':=by
 have ao:∀ {w:World},eI I M w->eI I [] w:=λhw=>⟨hw.i,by simp,by simp,by simp⟩;rcases h with⟨U,aa⟩ | h
 ·refine .inl ⟨U,λw hw=>?_⟩;refine(aa w (ao hw)).mono ?_;rintro e w'⟨v,I',M',az,aF,bo,dw⟩;obtain⟨aV,a3,bW⟩:=ab4 hw bo dw;exact⟨v,I',M'++M,az,⟨M',rfl,bW,dw.le,aF⟩,aV,a3⟩
 ·refine .inr λw hw=>?_;obtain⟨v,w',I',M',az,aF,bo,dw⟩:=h w (ao hw);obtain⟨aV,a3,bW⟩:=ab4 hw bo dw;exact⟨v,w',I',M'++M,az,⟨M',rfl,bW,dw.le,aF⟩,aV,a3⟩
mutual
def j9(k:Nat):aq->aq
 | .p id off=>.p (Nat.add id k) off| .sl id off n c=>.sl (Nat.add id k) off n c| .sx id off e n=>.sx (Nat.add id k) off e n| .m id=>.m (Nat.add id k)| .y id=>.y (Nat.add id k)| .f g l r=>.f g (rj k l) (rj k r)| .H5 t v=>.H5 t (j9 k v)| .t l=>.t (rj k l)| .a l=>.a (rj k l)| .b x=>.b x| .i a n=>.i a n| .s l=>.s l| .pn=>.pn| .g n off=>.g n off| .sn=>.sn| .gs n off a c=>.gs n off a c| .so=>.so| .mn=>.mn| .fn=>.fn| .ni=>.ni
def rj(k:Nat):List aq->List aq
 |[]=>[]| v::l=>j9 k v::rj k l
end
section
mutual
def FG{D0 D:bR}{k:Nat}(dE:∀ id a,D0 id=some a->D (Nat.add id k)=some a):∀ (v:aq) {u:Value},aT D0 v u->aT D (j9 k v) u
 | .p id off,u,h=>by simp only[aT,j9]at h |-;obtain⟨a,aE,h⟩:=h;exact⟨a,dE _ _ aE,h⟩
 | .sl id off n c,u,h=>by simp only[aT,j9]at h |-;obtain⟨a,aE,h⟩:=h;exact⟨a,dE _ _ aE,h⟩
 | .sx id off e n,u,h=>by simp only[aT,j9]at h |-;obtain⟨a,aE,h⟩:=h;exact⟨a,dE _ _ aE,h⟩
 | .m id,u,h=>by simp only[aT,j9]at h |-;obtain⟨a,aE,h⟩:=h;exact⟨a,dE _ _ aE,h⟩
 | .y id,u,h=>by simp only[aT,j9]at h |-;obtain⟨a,aE,h⟩:=h;exact⟨a,dE _ _ aE,h⟩
 | .f g l r,u,h=>by simp only[aT,j9]at h |-;obtain⟨vs,ws,U,aa,h⟩:=h;exact⟨vs,ws,Jc dE l U,Jc dE r aa,h⟩
 | .H5 t v,u,h=>by simp only[aT,j9]at h |-;obtain⟨x,U,h⟩:=h;exact⟨x,FG dE v U,h⟩
 | .t l,u,h=>by simp only[aT,j9]at h |-;obtain⟨x,U,h⟩:=h;exact⟨x,Jc dE l U,h⟩
 | .a l,u,h=>by simp only[aT,j9]at h |-;obtain⟨x,U,h⟩:=h;exact⟨x,Jc dE l U,h⟩
 | .b x,u,h=>by simpa only[aT,j9]using h
 | .i a n,u,h=>by simpa only[aT,j9]using h
 | .s l,u,h=>by simpa only[aT,j9]using h
 | .pn,u,h=>by simpa only[aT,j9]using h
 | .g n off,u,h=>by simpa only[aT,j9]using h
 | .sn,u,h=>by simpa only[aT,j9]using h
 | .gs n off a c,u,h=>by simpa only[aT,j9]using h
 | .so,u,h=>by simpa only[aT,j9]using h
 | .mn,u,h=>by simpa only[aT,j9]using h
 | .fn,u,h=>by simpa only[aT,j9]using h
 | .ni,u,h=>by simpa only[aT,j9]using h
def Jc{D0 D:bR}{k:Nat}(dE:∀ id a,D0 id=some a->D (Nat.add id k)=some a):∀ (l:List aq) {us:List Value},bT D0 l us->bT D (rj k l) us
 |[],us,h=>by simpa only[bT,rj]using h
 |v::l,us,h=>by simp only[bT,rj]at h |-;obtain⟨x,xs,U,aa,h⟩:=h;exact⟨x,xs,FG dE v U,Jc dE l aa,h⟩
end
end
inductive wA where
 |cells(l:List aq)(T:Nat)| map (es:List (aq×aq))
noncomputable def Jd:fW->Option wA
 | .cells cs T fh=>cs.ET 0 fh λl=>some (.cells l T)
 | .map es=>some (.map es)| _=>none
noncomputable def readAll(t:bi fW):Nat->Nat->Option (List wA)
 |_,0=>some []| id,n+1=>ch (t.get id) none λe=>ch (Jd e) none λs=>ch (readAll t (Nat.add id 1) n) none λl=>some (s::l)
def SS(k:Nat):List (aq×aq)->List (aq×aq)
 |[]=>[]| p::l=>(j9 k p.1,j9 k p.2)::SS k l
noncomputable def wA.jc(k:Nat):wA->fW
 | .cells l T=>bi.y7 (rj k l) .nil 0 λcs=>.cells cs T l.length
 | .map es=>.map (SS k es)
noncomputable def MV{R:Type}(k:Nat):List wA->Nat->bi fW->(bi fW->R)->R
 |[],_,t,K=>K t| s::l,id,t,K=>t.n' (some (s.jc k)) id λt=>MV k l (Nat.add id 1) t K
noncomputable def SU(v:aq)(L:List wA)(m:bp):Option (aq×bp):=si m.n λn=>si (Nat.add n L.length) λet=>MV n L n m.t λt=>some (j9 n v,⟨t,et⟩)
def ab5{t:bi fW}:∀ {n id:Nat} {L:List wA},readAll t id n=some L->L.length=n/\∀ j s,L[j]?=some s->∃ e,t.get (id+j)=some e/\Jd e=some s
 |0,id,L,h=>by cases h;exact⟨rfl,by simp⟩
 |n+1,id,L,h=>by
  unfold readAll at h;obtain⟨e,U,h⟩:=c1 h;obtain⟨s,aa,h⟩:=c1 h;obtain⟨l,af,h⟩:=c1 h;cases h;obtain⟨aV,a3⟩:=ab5 af;refine⟨by simp[aV],λj ct aj=>?_⟩;cases j with
  |zero=>cases aj;exact⟨e,U,aa⟩| succ j=>obtain⟨bA,eJ,cU⟩:=a3 j ct (by simpa using aj);refine⟨bA,?_,cU⟩;rw[<-eJ];congr 1;show id+(j+1)=id+1+j;omega
def ab6(k:Nat):∀ (L:List wA) (id:Nat) (t:bi fW),∃ dt:bi fW,(∀ {R:Type} (K:bi fW->R),MV k L id t K=K dt) /\ ∀ j e,dt.get j=some e->(id<=j/\∃ s,L[j-id]?=some s/\e=s.jc k)\/((j<id\/id+L.length<=j)/\t.get j=some e)
 |[],id,t=>⟨t,λK=>rfl,λj e h=>.inr ⟨by simp;omega,h⟩⟩
 |s::L,id,t=>by
  obtain⟨t1,U,aa⟩:=bi.pB (some (s.jc k)) t id;obtain⟨dt,af,aP⟩:=ab6 k L (id+1) t1;refine⟨dt,λK=>?_,λj e h=>?_⟩;·unfold MV;rw[U];exact af K
  ·rcases aP j e h with⟨aV,ct,a3,bW⟩ | ⟨aV,a3⟩
   ·refine .inl ⟨by omega,ct,?_,bW⟩;rw[show j-id=(j-(id+1))+1 by omega];simpa using a3
   ·rcases aa j e a3 with⟨rfl,bW⟩ | ⟨bW,fx⟩
    ·refine .inl ⟨bY _,s,by simp,?_⟩;cases bW;rfl
    ·refine .inr ⟨?_,fx⟩;simp only[eQ];omega
def anW{k:Nat}(dE:∀ id a,D0 id=some a->D (Nat.add id k)=some a){es:List (aq×aq)}{l:List MapEntry}(h:rf D0 es l):rf D (SS k es) l:=by
 induction h with
 |nil=>exact .nil| cons ae ak t a7=>exact .cons (FG dE _ ae) (FG dE _ ak) a7
def ab7{k:Nat}:∀ {l:List aq} {i:Nat} {v:aq},(rj k l)[i]?=some v->∃ xX,l[i]?=some xX/\v=j9 k xX
 |[],i,v,h=>by simp[rj]at h
 |x::l,0,v,h=>by simp only[rj,List.getElem?_cons_zero,kd]at h;exact⟨x,rfl,h.symm⟩
 |x::l,i+1,v,h=>by simp only[rj,JG]at h;simpa using ab7 h
def anX{k:Nat}(dE:∀ id a,D0 id=some a->D (Nat.add id k)=some a)(a2:∀ x∈M,x∈M'){a:Loc}{e:fW}{s:wA}(h:lN D0 E M a e)(ai:Jd e=some s):lN D E M' a (s.jc k):=by
 cases h with
 | @cells cs T fh arr ao U aa af aP bq=>
  unfold Jd at ai;obtain⟨l,aV,a3,bW⟩:=bi.E8 cs fh 0 _ _ ai;cases bW;obtain⟨dt,eJ,cU⟩:=bi.zb (rj k l) (.nil:bi aq) 0;show lN D E M' a (bi.y7 (rj k l) .nil 0 λcs=>fW.cells cs T l.length);rw[eJ,aV];refine .cells arr ao (a2 _ U) aa (λi v hi aA=>?_) aP bq;rcases cU i v aA with⟨_,h⟩ | ⟨_,h⟩;·obtain⟨xX,az,rfl⟩:=ab7 (by simpa using h);have:=a3 i hi;rw[dz,az]at this;obtain⟨x,f1,f2⟩:=af i xX hi this;exact⟨x,f1,FG dE _ f2⟩
  ·cases h
 |map l clock U aa=>cases ai;exact .map l clock (a2 _ U) (anW dE aa)| loop L U aa=>cases ai| done L U aa af=>cases ai
def anY(aO:c6 Y.P Y.E)(bB:xW Y.P)(g4:Y.P.follows .mixedOrders=true){lQ:bp}{xX:aq}{L:List wA}(ao:tj ⟨Y.P,Y.E,λ_=>none,λ_ _ _=>none⟩ (j4 ⟨Y.P,Y.E,λ_=>none,λ_ _ _=>none⟩ f) g args ⟨.nil,0⟩=some (xX,lQ))(cT:readAll lQ.t 0 lQ.n=some L)(fF:∀ D us,bT D args us->bT (λ_=>none) args us){m m':bp}{v:aq}(h:SU xX L m=some (v,m'))(hu:bT D args us)(hm:dx Y D m I M) :
  Spec Y.P g us I M λr I' M'=>∃ bD,D.ext bD m.n/\aT bD v r/\dx Y bD m' I' M':=by
 have nu:zp ⟨Y.P,Y.E,λ_=>none,λ_ _ _=>none⟩:=λg vs m v m' h=>by cases h
 have anZ:dx ⟨Y.P,Y.E,λ_=>none,λ_ _ _=>none⟩ (λ_=>none) ⟨.nil,0⟩ I []:=⟨λid e a h be=>(by cases be),λid iP e bA a a' h U be=>(by cases be),λid a h=>(by cases h),λg cs h=>(by cases h)⟩;have ar:=(reckon (Y:=⟨Y.P,Y.E,λ_=>none,λ_ _ _=>none⟩) aO bB nu g4 ao (fF D us hu) anZ).frame (M:=M);refine Spec.lj ar ?_;rintro r I' oz⟨M0,rfl,bH,bn,D0,-,ak,FH⟩;unfold SU at h;rw[Rg,Rg]at h;obtain⟨dt,U,aa⟩:=ab6 m.n L m.n m.t;rw[U]at h;cases h;obtain⟨aV,a3⟩:=ab5 cT;let bD:bR:=λid=>if id<m.n then D id else D0 (id-m.n)
 have dE:∀ id a,D0 id=some a->bD (Nat.add id m.n)=some a:=λid a aE=>by show(if id+m.n<m.n then D (id+m.n)else D0 (id+m.n-m.n))=some a;rw[ca (by omega),Nat.add_sub_cancel,aE]
 have qx:D.le bD:=λid a aE=>by show(if id<m.n then D id else D0 (id-m.n))=some a;rw[cG (hm.j5 _ _ aE),aE]
 have lo:∀ id,id<m.n->bD id=D id:=λid hi=>cG hi;have di:∀ id,m.n<=id->bD id=D0 (id-m.n):=λid hi=>ca (by omega);have src:∀ id e a,dt.get id=some e->bD id=some a->(m.n<=id/\∃ s cJ,e=s.jc m.n/\lQ.t.get (id-m.n)=some cJ/\Jd cJ=some s/\D0 (id-m.n)=some a)\/(id<m.n/\m.t.get id=some e/\D id=some a):=λid e a he aE=>by
  rcases aa id e he with⟨eJ,s,cU,hs⟩ | ⟨eJ,cU⟩;·obtain⟨cJ,l5,Au⟩:=a3 _ _ cU;rw[dz]at l5;rw[di _ eJ]at aE;exact .inl ⟨eJ,s,cJ,hs,l5,Au,aE⟩
  ·rcases Mi id m.n with aS | cm
   ·rw[lo _ aS]at aE;exact .inr ⟨aS,cU,aE⟩
   ·rw[di _ cm]at aE;have:=FH.j5 _ _ aE;omega
 refine⟨bD,λid hi=>lo id hi,FG dE _ ak,⟨λid e a he aE=>?_,λid iP e bA a a' he tX aE Aq ah=>?_,λid a aE=>?_,hm.rc.mono bn⟩⟩
 ·rcases src id e a he aE with⟨eJ,s,cJ,rfl,cU,hs,l5⟩ | ⟨eJ,cU,hs⟩
  ·exact anX dE (λx ab=>ox _ ab) (FH.jc _ _ _ cU l5) hs
  ·exact(hm.jc _ _ _ cU hs).mono qx λx ab _=>tW _ ab
 ·rcases src id e a he aE with⟨eJ,s,cJ,rfl,cU,hs,l5⟩ | ⟨eJ,cU,hs⟩
  ·rcases src iP bA a' tX Aq with⟨js,ct,an0,rfl,hO,jG,SV⟩ | ⟨js,hO,jG⟩
   ·have:=FH.inj _ _ _ _ _ _ cU hO l5 SV ah;omega
   ·obtain⟨x,ab,hx⟩:=FH.aL cU l5;obtain⟨y,aH,A9⟩:=hm.aL hO jG;exact(bH x ab y aH (hx.trans (ah.trans A9.symm))).elim
  ·rcases src iP bA a' tX Aq with⟨js,ct,an0,rfl,hO,jG,SV⟩ | ⟨js,hO,jG⟩
   ·obtain⟨x,ab,hx⟩:=FH.aL hO SV;obtain⟨y,aH,A9⟩:=hm.aL cU hs;exact(bH x ab y aH (hx.trans (ah.symm.trans A9.symm))).elim
   ·exact hm.inj _ _ _ _ _ _ cU hO hs jG ah
 ·show id<m.n+L.length;rcases Mi id m.n with aS | cm
  ·omega
  ·rw[di _ cm]at aE;have:=FH.j5 _ _ aE;omega
open Go Go.Proofs
def an1(k:Nat):liesAt Tryz.prog Tryz.prog.depth 206 ((k+1)*2/Tryz.prog.cellsOf 206) 0 206 1=true:=by
 have aa:Tryz.prog.cellsOf 206=2:=by kernel_rfl
 have ag:Tryz.prog.depth=(Tryz.prog.depth-1)+1:=by kernel_rfl
 have jZ:sameLayout Tryz.prog Tryz.prog.depth 206 206=true:=by kernel_rfl
 have ai:rowAt Tryz.prog (sameLayout Tryz.prog Tryz.prog.depth · 206) Tryz.prog.depth 206 (k+1) 0 1=true:=by
  generalize aC:(sameLayout Tryz.prog Tryz.prog.depth · 206)=f;have wX:f 206=true:=by rw[<-aC];exact jZ
  rw[ag];unfold rowAt;simp only[aa,wX];simp
 rw[aa,Nat.mul_div_cancel _ (by decide:0<2)];rw[ag];unfold liesAt;rw[ai];rfl
def an2(a8 post:List aI)(b:Nat)(v:Value)(k:Nat)(bd:List Value)(ai:bd.length=2*k) :
  Spec Tryz.prog 179 [ptr b] I (a8++⟨b,.cells (.pointer none::v::bd).toArray 206 (0,0)⟩::post) λr I' M'=>r=.tuple #[]/\I'=I/\M'=a8++⟨b,.cells (bK (.pointer none::v::bd) 0 [ptr b]).toArray 206 (0,0)⟩::post:=by
 obtain⟨inf,z,hi,e9,_⟩:=(aU 206 _ rfl).inf;refine b4 [] aU Tryz.func179 rfl rfl rfl ?_;intro B ao;have hm:∀ {o:Obj},(⟨b,o⟩:aI)∈a8++⟨b,o⟩::post:=fun {o}=>dV.2 (.inr (.head _));have c8:(Value.pointer none::v::bd).toArray.size=(k+1)*2:=by simp[ai];omega
 have ap:liesAt Tryz.prog Tryz.prog.depth 206 ((Value.pointer none::v::bd).toArray.size/Tryz.prog.cellsOf 206) 0 206 1=true:=by rw[c8];exact an1 k
 refine aK.mk [.pointer none] (ew (cs:=.pointer none::v::bd) (k:=0) (n:=1) (T:=206) hm (by simp)) ?_;refine .other (bs.Kv aU rfl (by simp) rfl rfl rfl rfl ?_);refine aJ.mk (λ_=>?_) (λh=>by cases h);refine bs.conv rfl (by simp) rfl (λw hw=>Lib.run_to_unsafe (t:=206) (e:=206) w ⟨b,0,none⟩ (by kernel_rfl) (by kernel_rfl) (j:=inf) (cells:=(Value.pointer none::v::bd).toArray.size) hi (by rw[e9];decide) (Ky hw hm) (by rw[c8];show 0<_;omega)) ?_;refine a0.mk (a8++⟨b,.cells (.pointer none::v::bd).toArray 206 (0,0)⟩::post) [] _ (by simp) (OO _) ?_;rintro v I' M' -⟨rfl,rfl,rfl⟩;refine bs.conv rfl (by simp) rfl (λw hw=>Lib.run_from_unsafe (u:=206) (e:=206) w ⟨b,0,none⟩ (by kernel_rfl) (by kernel_rfl) (j:=inf) (cells:=(Value.pointer none::v::bd).toArray.size) hi (Ky hw (dV.2 (.inl hm))) ap) ?_;refine cz.mk a8 post _ _ (dX _) rfl (by rw[c8];show 0+0+1<=(k+1)*2;omega) rfl ?_;exact⟨_,_,.refl,rfl,rfl,rfl⟩
def an3{T:Nat}(a2:(⟨b,.cells arr T (0,0)⟩:aI)∈M)(ao:arr[0]?=some (ptr b)) :
  Spec Tryz.prog 179 [ptr b] I M λr I' M'=>r=.tuple #[]/\I'=I/\M'=M:=by
 refine b4 [] aU Tryz.func179 rfl rfl rfl ?_;intro B jX;have ai:cq I M ((⟨b,0,none⟩:Addr).add 0) 1 [ptr b]:=by
  obtain⟨l⟩:=arr;cases l with
  |nil=>simp at ao| cons x l=>simp only[BG,List.getElem?_cons_zero,kd]at ao;subst ao;exact ew (cs:=ptr b::l) (k:=0) (n:=1) a2 (by simp)
 refine aK.mk [ptr b] ai ?_;refine .other (bs.Kv aU rfl (by simp) rfl rfl rfl rfl ?_);refine aJ.mk (λh=>by cases h) (λ_=>?_);refine aK.mk [ptr b] ai ?_;refine .other (bs.VO aU rfl (by simp) rfl rfl rfl rfl rfl ?_);refine aJ.mk (λh=>by cases h) (λ_=>?_);exact⟨_,_,.refl,rfl,rfl,rfl⟩
def an4{m:bp}{id off:Nat}{cs:bi aq}{T fh:Nat}{a:Loc}{a8 post:List aI}(hm:dx Y D m I M)(aA:m.t.get id=some (.cells cs T fh))(aE:D id=some a)(au:a.o=0)(cg:M=a8++⟨a.b,.cells arr T (0,0)⟩::post)(c8:a.o+fh<=arr.size)(aN:∀ i v,i<fh->cs.get i=some v->∃ x,arr[a.o+i]?=some x/\aT D v x)(ae:∀ i,Y.E T=some i->arr.size=a.o+a.c*i.size)(g4:a.c<=maxLen)
  {l:List aq} {vs:List Value} (ap:bT D l vs) {K:bp->Option R} {r:R} (h:y' m (.p id off) l K=some r) :
  ∃ m',K m'=some r/\m'.n=m.n/\off+vs.length<=arr.size/\dx Y D m' I (a8++⟨a.b,.cells (bK arr.toList off vs).toArray T (0,0)⟩::post):=by
 unfold y' at h;simp only[aA]at h;cases ah:(Nat.ble (Nat.add off l.length) fh&&l.all aq.one)with
 |false=>rw[ah]at h;cases h
 |true=>
  rw[ah]at h;simp only[bh]at h;rw[cp]at ah;have wc:off+l.length<=fh:=b0 ah.1;obtain⟨cs',U,aa⟩:=bi.zb l cs off;rw[U]at h;obtain⟨dt,af,aP⟩:=bi.pB (some (fW.cells cs' T fh)) m.t id;rw[af]at h;have b3:=ap.len;have g9:off+vs.length<=arr.size:=by omega
  refine⟨_,h,rfl,g9,?_⟩;have gb:∀ x∈M,x.num≠a.b->x∈a8++⟨a.b,.cells (bK arr.toList off vs).toArray T (0,0)⟩::post:=λx ab aw=>by
   rw[cg]at ab;rcases dV.1 ab with ab | ab;·exact dV.2 (.inl ab)
   ·rcases eL.1 ab with rfl | ab
    ·exact(aw rfl).elim
    ·exact dV.2 (.inr (oU _ ab))
  refine hm.step (λi e hi=>(aP i e hi).imp (λq=>⟨q.1,pC q.2⟩) λq=>q) aE (bR.le_refl D) (λ_ _=>rfl) hm.j5 (λ_ _ h=>h) (λi e a' bH hi rh x ab aw=>gb x ab ?_) ?_ ?_;·rw[aw];exact λah=>bH (hm.inj _ _ _ _ _ _ hi aA rh aE ah)
  ·have AM:(bK arr.toList off vs).length=arr.size:=by rw[Rv (by simpa using g9)];simp
   refine .cells (bK arr.toList off vs).toArray au (by simp) (by simp[AM];exact c8) (λi v hi Ir=>?_) (λi hi=>by simp[AM];exact ae i hi) g4;rw[au,dz];simp only[BG];rw[ZQ (by simpa using g9)];rcases aa i v Ir with⟨aV,a3⟩ | ⟨aV,a3⟩;·have aS:=(kc.1 a3).1;rw[cG ⟨aV,by omega⟩];exact ap.get a3
   ·rw[ca (by omega)];have:=aN i v hi a3;rw[au,dz]at this;simpa using this
  ·intro i e a' bH hi rh ah;exact bH (hm.inj _ _ _ _ _ _ hi aA rh aE ah)
noncomputable def SW(m:bp)(vs:List aq):Option (aq×bp):=match vs with
 |[.p id 0]=>(match m.t.get id with
  |some (.cells cs T fh)=>cn (Nat.beq T 206&&Nat.ble 2 fh) (match cs.get 0 with
   |some .pn=>y' m (.p id 0) [.p id 0] λm=>some (.t [],m)
   |some (.p iP 0)=>cn (Nat.beq id iP) (some (.t [],m)) none| _=>none) none
  |_=>none)
 |_=>none
def an5(z0:Y.P=Tryz.prog)(an6:Y.E=k6){m m':bp}{vs:List aq}{v:aq}(h:SW m vs=some (v,m'))(hu:bT D vs us)(hm:dx Y D m I M) :
  Spec Y.P 179 us I M λr I' M'=>∃ bD,D.ext bD m.n/\aT bD v r/\dx Y bD m' I' M':=by
 unfold SW at h;split at h
 ·rename_i id;obtain⟨x,xs,ab,aw,rfl⟩:=hu.kV;obtain rfl:=aw.oa;obtain⟨a,aE,rfl⟩:=ab.ptr;split at h
  ·rename_i cs T fh aA;obtain⟨U,ay⟩:=g1 h;clear h;rw[cp]at U;obtain⟨bM,wc⟩:=U;obtain rfl:=cK bM;have wc:=b0 wc;obtain⟨arr,au,a2,ap,aN,ae,g4⟩:=hm.jc _ _ _ aA aE;have c8:=ae _ (by rw[an6];rfl);have c8:arr.size=a.c*2:=by rw[c8,au,dz]
   have aD:Value.pointer (some ⟨a.b,a.o+0,none⟩)=ptr a.b:=by rw[au];rfl
   split at ay
   ·rename_i zS;obtain⟨wV,fT,Dd⟩:=aN 0 _ (by omega) zS;obtain⟨a8,post,cg⟩:=v5 a2;obtain⟨dY,aa,af,aP,bq⟩:=an4 hm aA aE au cg ap aN ae g4 (l:=[.p id 0]) (vs:=[ptr a.b]) (by simp only[bT,aT];exact⟨_,_,⟨a,aE,aD.symm⟩,rfl,rfl⟩) ay;cases aa;rw[aD,z0,cg];obtain⟨l⟩:=arr;have an7:wV=.pointer none:=by simpa only[aT]using Dd
    rw[au]at fT
    match l,fT,c8 with
    |[],fT,_=>simp at fT| [_],_,c8=>simp at c8;omega
    |y::w::bd,fT,c8=>
     have aH:y=.pointer none:=by simpa[an7]using fT
     subst aH;have ek:bd.length=2*(a.c-1):=by simp at c8;omega
     refine Spec.lj (an2 a8 post a.b w (a.c-1) bd ek) ?_;rintro r I' M'⟨rfl,rfl,rfl⟩;exact⟨D,bR.pE,by simp only[aT,bT];exact⟨[],rfl,rfl⟩,bq⟩
   ·rename_i iP zS;obtain⟨aa,jH⟩:=g1 ay;obtain rfl:=cK aa;cases jH;obtain⟨wV,fT,Dd⟩:=aN 0 _ (by omega) zS;obtain⟨a',Aq,rfl⟩:=Dd.ptr;rw[aE]at Aq;cases Aq;rw[aD]at fT |-;rw[z0];refine Spec.lj (an3 a2 (by rw[<-fT,au])) ?_;rintro r I' M'⟨rfl,rfl,rfl⟩;exact⟨D,bR.pE,by simp only[aT,bT];exact⟨[],rfl,rfl⟩,hm⟩
   ·cases ay
  ·cases h
 ·cases h
def kW(I:aR):List aI->aR
 |[]=>I| x::l=>ins (kW I l) x.num x.obj
def MW{I:aR}:∀ {M:List aI} {b:Nat} {o:Obj},kW I M b=some o->I b=some o\/∃ x∈M,x.num=b/\x.obj=o
 |[],b,o,h=>.inl h
 |x::l,b,o,h=>by
  unfold kW ins at h;by_cases e:b=x.num;·subst e;simp only[rB,bh,kd]at h;exact .inr ⟨x,by simp,rfl,h⟩
  ·simp only[hy e,bf]at h;rcases MW h with h | ⟨y,U,aa,af⟩
   ·exact .inl h
   ·exact .inr ⟨y,by simp[U],aa,af⟩
def ab8{I:aR}:∀ {M:List aI} (aw:(M.map (·.num)).Nodup) {x:aI},x∈M->kW I M x.num=some x.obj
 |y::l,aw,x,h=>by
  simp only[dv,nB]at aw;rcases eL.1 h with rfl | h;·unfold kW ins;simp only[rB,bh]
  ·have e:x.num≠y.num:=λe=>aw.1 (dC.2 ⟨x,h,e⟩);unfold kW ins;simp only[hy e,bf];exact ab8 aw.2 h
def SX{I:aR}:∀ {M:List aI} (ag:∀ x∈M,I x.num=none) {b:Nat} {o:Obj},I b=some o->kW I M b=some o
 |[],ag,b,o,h=>h
 |y::l,ag,b,o,h=>by
  have e:b≠y.num:=λe=>by have:=ag y (by simp);rw[<-e,h]at this;cases this
  unfold kW ins;simp only[hy e,bf];exact SX (λx ab=>ag x (by simp[ab])) h
def an8(aw:(M.map (·.num)).Nodup)(ag:∀ x∈M,I x.num=none){o:Obj}(h:ix I M b o):kW I M b=some o:=by
 rcases h with h | ⟨x,U,rfl,rfl⟩
 ·exact SX ag h
 ·exact ab8 aw U
structure Dp(I:aR)(M:List aI)(J:aR):Prop where
 kn:∀ b o,ix I M b o->J b=some o
 inv:∀ b o,J b=some o->ix I M b o
def Dp.le(h:Dp I M J):∀ b o,I b=some o->J b=some o:=λb o ah=>h.kn b o (.inl ah)
def ab9(U:eI I' M' w')(aa:Kept I [] w I' M' w'):Dp I' M' (kW I' M')/\eI (kW I' M') [] w'/\Kept I [] w (kW I' M') [] w':=by
 refine⟨⟨λb o h=>an8 U.cd U.d h,λb o h=>?_⟩,⟨λb o h=>?_,by simp,by simp,by simp⟩,⟨λb o h=>SX U.d (aa.le _ _ h),λb o h=>?_,by simp,aa.dg,aa.out,aa.sz⟩⟩
 ·rcases MW h with h | ⟨x,aV,a3,bW⟩
  ·exact .inl h
  ·exact .inr ⟨x,aV,a3,bW⟩
 ·rcases MW h with h | ⟨x,aV,rfl,rfl⟩
  ·exact U.i _ _ h
  ·exact U.m _ aV
 ·rcases MW h with h | ⟨x,aV,rfl,rfl⟩
  ·exact aa.vk _ _ h
  ·rcases aa.wH _ aV with⟨y,aH,_⟩ | h
   ·cases aH
   ·exact .inr h
def Spec.kW{args:List Value}{Q:Value->aR->List aI->Prop}(h:Spec P f args I [] Q):Spec P f args I [] λr J oz=>oz=[]/\(∀ b o,I b=some o->J b=some o)/\∃ I' M',Q r I' M'/\Dp I' M' J:=by
 rcases h with⟨U,aa⟩ | h
 ·refine .inl ⟨U,λw hw=>?_⟩;refine(aa w hw).mono ?_;rintro e w'⟨v,I',M',az,aF,bo,dw⟩;obtain⟨aV,a3,bW⟩:=ab9 bo dw;exact⟨v,_,[],az,⟨rfl,bW.le,I',M',aF,aV⟩,a3,bW⟩
 ·refine .inr λw hw=>?_;obtain⟨v,w',I',M',az,aF,bo,dw⟩:=h w hw;obtain⟨aV,a3,bW⟩:=ab9 bo dw;exact⟨v,w',_,[],az,⟨rfl,bW.le,I',M',aF,aV⟩,a3,bW⟩
noncomputable def Dq{α:Type}(l:List α):bi α:=bi.y7 l .nil 0 id
def aca{l:List α}{i:Nat}{v:α}(h:(Dq l).get i=some v):l[i]?=some v:=by
 obtain⟨t,U,aa⟩:=bi.zb l (.nil:bi α) 0;unfold Dq at h;rw[U]at h;rcases aa _ _ h with⟨_,h⟩ | ⟨_,h⟩
 ·simpa using h
 ·cases h
noncomputable def SY:GT:=λg=>cn (Nat.beq g 0) (some (Dq (oC.map (aq.i .i64)))) (cn (Nat.beq g 1) (some (Dq (vI.map aq.s))) (cn (Nat.beq g 2) (some (Dq [.i .i64 0,.i .i64 1,.s [63],.i .i64 0,.i .i64 (-1),.s [42],.i .i64 1,.i .i64 (-1),.s [43]])) (cn (Nat.beq g 4) (some (Dq (oK.map (aq.i .u8)))) none)))
def SZ{f:α->aq}{h:α->Value}(aC:∀ x D,aT D (f x) (h x)){l:List α}{i:Nat}{v:aq}(ak:(Dq (l.map f)).get i=some v):∃ x,(l.map h).toArray[i]?=some x/\∀ D,aT D v x:=by
 have:=aca ak;rw[tJ]at this;cases ab:l[i]? with
 |none=>rw[ab]at this;cases this| some x=>rw[ab]at this;simp only[k3,kd]at this;subst this;exact⟨h x,by simp[ab],aC x⟩
def acb(bM:hU I oK):Ik SY I:=by
 intro g cs h;unfold SY at h;rw[kE,kE,kE,kE]at h;cases U:Nat.beq g 0 with
 |true=>rw[U,bh]at h;obtain rfl:=cK U;have h:=j0 h;subst h;obtain⟨T,f,h⟩:=bM.c;exact⟨_,T,f,h,λi v ak=>SZ (f:=aq.i .i64) (h:=Value.int .i64) (λx D=>by simp only[aT]) ak⟩
 |false=>
 rw[U,bf]at h;cases aa:Nat.beq g 1 with
 |true=>rw[aa,bh]at h;obtain rfl:=cK aa;have h:=j0 h;subst h;obtain⟨T,f,h⟩:=bM.s;exact⟨_,T,f,h,λi v ak=>SZ (f:=aq.s) (h:=λl=>Value.string (strOf l)) (λx D=>by simp only[aT,strOf]) ak⟩
 |false=>
 rw[aa,bf]at h;cases af:Nat.beq g 2 with
 |true=>
  rw[af,bh]at h;obtain rfl:=cK af;have h:=j0 h;subst h;obtain⟨T,f,h⟩:=bM.p;refine⟨_,T,f,h,λi v ak=>?_⟩;have ak:=aca ak;rcases i with _ | _ | _ | _ | _ | _ | _ | _ | _ | i
  all_goals first | (cases ak;exact⟨_,rfl,λD=>by simp only[aT]<;>rfl⟩) | (simp at ak)
 |false=>
 rw[af,bf]at h;cases aP:Nat.beq g 4 with
 |true=>rw[aP,bh]at h;obtain rfl:=cK aP;have h:=j0 h;subst h;obtain⟨_,_,T,f,h⟩:=bM.d;exact⟨_,T,f,h,λi v ak=>SZ (f:=aq.i .u8) (h:=Value.int .u8) (λx D=>by simp only[aT]) ak⟩
 |false=>
 rw[aP,bf]at h;cases h
noncomputable def MX:List UInt8->Nat->Nat->Int
 |[],_,_=>-1| b::l,c,k=>cn (Nat.beq b.toNat c) (Int.ofNat k) (MX l c (Nat.succ k))
def acc(c:UInt8):∀ (l:List UInt8) (k:Nat),MX l c.toNat k=if Lib.indexByte l c=-1 then -1 else Lib.indexByte l c+k
 |[],k=>rfl
 |b::l,k=>by
  have cm:=Lib.indexByte_ge l c;unfold MX Lib.indexByte;rw[kE];by_cases h:b=c;·subst h;simp
  ·have U:Nat.beq b.toNat c.toNat=false:=by
    cases ah:Nat.beq b.toNat c.toNat with
    |false=>rfl| true=>exact absurd (UInt8.toNat_inj.1 (cK ah)) h
   have aa:(b == c)=false:=by simpa using h
   rw[U,bf,aa,acc c l];simp only[lq,mh];by_cases af:Lib.indexByte l c=-1;·simp[af]
   ·have aP:(Lib.indexByte l c == -1)=false:=by simpa using af
    rw[aP,ca af];simp only[lq,mh];rw[ca (by omega)];omega
def Dr:xW Tryz.prog:=ano (by kernel_rfl)
def Ds:Tryz.prog.follows .mixedOrders=true:=by kernel_rfl
noncomputable def acd:hh:=⟨Tryz.prog,k6,λ_=>none,λ_ _ _=>none⟩
noncomputable def ace:List wA:=[.map [(.i .u8 123,.f 264 [] []),(.i .u8 34,.f 265 [] []),(.i .u8 91,.f 266 [] []),(.i .u8 46,.f 267 [] []),(.i .u8 47,.f 288 [] [.p 1 0]),(.i .u8 38,.f 288 [] [.p 2 0]),(.i .u8 33,.f 288 [] [.p 3 0]),(.i .u8 63,.f 288 [] [.p 4 0]),(.i .u8 42,.f 288 [] [.p 5 0]),(.i .u8 43,.f 288 [] [.p 6 0]),(.i .u8 40,.f 288 [] [.p 7 0]),(.i .u8 41,.f 288 [] [.p 8 0]),(.i .u8 60,.f 269 [] []),(.i .u8 62,.f 288 [] [.p 10 0]),(.i .u8 58,.f 288 [] [.p 11 0]),(.i .u8 65,.f 270 [] []),(.i .u8 66,.f 270 [] []),(.i .u8 67,.f 270 [] []),(.i .u8 68,.f 270 [] []),(.i .u8 69,.f 270 [] []),(.i .u8 70,.f 270 [] []),(.i .u8 71,.f 270 [] []),(.i .u8 72,.f 270 [] []),(.i .u8 73,.f 270 [] []),(.i .u8 74,.f 270 [] []),(.i .u8 75,.f 270 [] []),(.i .u8 76,.f 270 [] []),(.i .u8 77,.f 270 [] []),(.i .u8 78,.f 270 [] []),(.i .u8 79,.f 270 [] []),(.i .u8 80,.f 270 [] []),(.i .u8 81,.f 270 [] []),(.i .u8 82,.f 270 [] []),(.i .u8 83,.f 270 [] []),(.i .u8 84,.f 270 [] []),(.i .u8 85,.f 270 [] []),(.i .u8 86,.f 270 [] []),(.i .u8 87,.f 270 [] []),(.i .u8 88,.f 270 [] []),(.i .u8 89,.f 270 [] []),(.i .u8 90,.f 270 [] []),(.i .u8 95,.f 270 [] []),(.i .u8 97,.f 270 [] []),(.i .u8 98,.f 270 [] []),(.i .u8 99,.f 270 [] []),(.i .u8 100,.f 270 [] []),(.i .u8 101,.f 270 [] []),(.i .u8 102,.f 270 [] []),(.i .u8 103,.f 270 [] []),(.i .u8 104,.f 270 [] []),(.i .u8 105,.f 270 [] []),(.i .u8 106,.f 270 [] []),(.i .u8 107,.f 270 [] []),(.i .u8 108,.f 270 [] []),(.i .u8 109,.f 270 [] []),(.i .u8 110,.f 270 [] []),(.i .u8 111,.f 270 [] []),(.i .u8 112,.f 270 [] []),(.i .u8 113,.f 270 [] []),(.i .u8 114,.f 270 [] []),(.i .u8 115,.f 270 [] []),(.i .u8 116,.f 270 [] []),(.i .u8 117,.f 270 [] []),(.i .u8 118,.f 270 [] []),(.i .u8 119,.f 270 [] []),(.i .u8 120,.f 270 [] []),(.i .u8 121,.f 270 [] []),(.i .u8 122,.f 270 [] [])],.cells [.i .u8 3] 5,.cells [.i .u8 4] 5,.cells [.i .u8 5] 5,.cells [.i .u8 6] 5,.cells [.i .u8 7] 5,.cells [.i .u8 8] 5,.cells [.i .u8 9] 5,.cells [.i .u8 10] 5,.cells [.i .u8 11] 5,.cells [.i .u8 12] 5,.cells [.i .u8 13] 5]
def an9:(ch (tj acd (j4 acd 100000) 239 [] ⟨.nil,0⟩) none λp=>ch (readAll p.2.t 0 p.2.n) none λL=>some (p.1,L))=some (aq.m 0,ace):=by kernel_rfl
noncomputable def S0:mb:=λg vs m=>cn (Nat.beq g 303) (match vs with
 |[.s l,.i .u8 (.ofNat k)]=>cn (Nat.blt k 256) (some (.i .i64 (MX l k 0),m)) none| _=>none) (cn (Nat.beq g 219) (match vs with
 |[v]=>some (v,m)| _=>none) (cn (Nat.beq g 239) (match vs with
 |[]=>SU (.m 0) ace m| _=>none) (cn (Nat.beq g 179) (SW m vs) none)))
noncomputable def kY:hh:=⟨Tryz.prog,k6,SY,S0⟩
def FI:zp kY:=by
 intro g vs m v m' h D I M us hu hm;change S0 g vs m=some (v,m')at h;unfold S0 at h;rw[kE]at h;cases U:Nat.beq g 303 with
 |true=>
  rw[U,bh]at h;obtain rfl:=cK U;split at h
  ·rename_i l k;rw[kE]at h;cases ae:Nat.blt k 256 with
   |false=>rw[ae]at h;cases h
   |true=>
    rw[ae,bh]at h;have jI:k<256:=Nat.blt_eq ▸ ae;cases h;simp only[bT,aT]at hu;obtain⟨x,xs,rfl,⟨y,il,rfl,rfl,rfl⟩,rfl⟩:=hu;have n1:(UInt8.ofNat k).toNat=k:=by simp;omega
    have:=VQ (I:=I) (M:=M) ⟨l.toArray⟩ (UInt8.ofNat k);rw[n1]at this;refine Spec.lj this ?_;rintro r I' M'⟨rfl,rfl,rfl⟩;refine⟨D,bR.pE,?_,hm⟩;simp only[aT];have:=acc (UInt8.ofNat k) l 0;rw[n1]at this;rw[this];split;·rename_i e;simp[e]
    ·simp
  ·cases h
 |false=>
 rw[U,bf,kE]at h;cases aa:Nat.beq g 219 with
 |true=>
  rw[aa,bh]at h;obtain rfl:=cK aa;split at h;·cases h;simp only[bT]at hu;obtain⟨x,xs,hu,rfl,rfl⟩:=hu;refine Spec.lj (OO _) ?_;rintro r I' M'⟨rfl,rfl,rfl⟩;exact⟨D,bR.pE,hu,hm⟩
  ·cases h
 |false=>
 rw[aa,bf,kE]at h;cases af:Nat.beq g 239 with
 |true=>
  rw[af,bh]at h;obtain rfl:=cK af;split at h;·obtain⟨⟨xX,lQ⟩,aP,bq⟩:=c1 an9;obtain⟨L,bj,eh⟩:=c1 bq;cases eh;exact anY (Y:=kY) aU Dr Ds aP bj (λD us h=>by simpa only[bT]using h) h hu hm
  ·cases h
 |false=>
 rw[af,bf,kE]at h;cases aP:Nat.beq g 179 with
 |true=>rw[aP,bh]at h;obtain rfl:=cK aP;exact an5 rfl rfl h hu hm
 |false=>
 rw[aP,bf]at h;cases h
def aoa(bM:hU I oK){m':bp}{v:aq}(h:tj kY (j4 kY f) g args ⟨.nil,0⟩=some (v,m'))(hu:bT (λ_=>none) args us) :
  Spec Tryz.prog g us I [] λr J oz=>oz=[]/\(∀ b o,I b=some o->J b=some o)/\∃ I' M' bD,aT bD v r/\dx kY bD m' I' M'/\Dp I' M' J:=by
 have hm:dx kY (λ_=>none) ⟨.nil,0⟩ I []:=⟨λid e a h be=>(by cases be),λid iP e bA a a' h U be=>(by cases be),λid a h=>(by cases h),acb bM⟩;refine Spec.lj (reckon (Y:=kY) aU Dr FI Ds h hu hm).kW ?_;rintro r J oz⟨rfl,U,I',M',⟨bD,-,aa,af⟩,aP⟩;exact⟨rfl,U,I',M',bD,aa,af,aP⟩
def Dt{X:Bool}{p:Prop}(b:X=true)(h:X=false):p:=by rw[b]at h;cases h
def S1{X:Bool}{p:Prop}(b:X=false)(h:X=true):p:=by rw[b]at h;cases h
def a5.Je(bB:Dp I M J){os:a5}{xs:List Value}(h:os.ok size xs)(a2:∀ x∈os.aL e,x∈M)(ah:os.n*b<=140737488355328):dA J (os.a.map λg=>⟨g,0,none⟩) os.n os.c size b xs:=by
 obtain⟨a,n,c,aQ⟩:=os;cases a with
 |none=>obtain⟨U,aa⟩:=h.nil rfl;exact⟨h.len,⟨by simp only at U aa |-;omega,ah⟩,.inl U⟩
 |some g=>obtain⟨U,aa,af,aP⟩:=h.cap g rfl;exact⟨h.len,⟨aa,ah⟩,.inr ⟨⟨g,0,none⟩,rfl,rfl,aQ.toArray,e,(0,0),bB.kn _ _ (.inr ⟨⟨g,.cells aQ.toArray e (0,0)⟩,a2 _ (.head _),rfl,rfl⟩),by simpa using aP⟩⟩
def MY(v:α)(x:R)(f:α->R):ch (some v) x f=f v:=rfl
def aob(l l':List UInt8)(a b a' hJ:Int):ra Tryz.prog k6 8 110 (.a [.s l,.i .i64 a,.i .i64 b]) (.a [.s l',.i .i64 a',.i .i64 hJ])=some (q' l l'&&(np a a'&&np b hJ)):=by
 obtain⟨i36,aoc,aod⟩:∃ i,k6 110=some i/\i.bO=.struct [(9,0),(3,1),(3,2)]:=⟨_,rfl,rfl⟩;obtain⟨i9,fI,aoe⟩:∃ i,k6 9=some i/\i.bO=.string:=⟨_,rfl,rfl⟩;obtain⟨i3,af,w3⟩:∃ i,k6 3=some i/\i.bO=.int .i64:=⟨_,rfl,rfl⟩;have aD:QJ Tryz.prog 110=true:=by kernel_rfl
 have ay:∀ k a b,ra Tryz.prog k6 (k+1) 3 (.i .i64 a) (.i .i64 b)=some (np a b):=λk a b=>by simp only[ra,af,MY,w3];rfl
 have ah:∀ k a b,ra Tryz.prog k6 (k+1) 9 (.s a) (.s b)=some (q' a b):=λk a b=>by simp only[ra,fI,MY,aoe]
 rw[ra];simp only[aoc,MY,aod,aD];have xV:∀ qf eY dS,v7 k6 9 0 [.s qf,eY,dS]=some (.s qf):=λ_ _ _=>rfl;have bC:∀ qf eY dS,v7 k6 3 1 [qf,.i .i64 eY,dS]=some (.i .i64 eY):=λ_ _ _=>rfl;have p6:∀ qf eY dS,v7 k6 3 2 [qf,eY,.i .i64 dS]=some (.i .i64 dS):=λ_ _ _=>rfl;simp only[Az,xV,bC,p6,MY,ay,ah,kE];cases q' l l'<;>cases np a a'<;>cases np b hJ<;>rfl
def FJ(x y:dF):Bool:=q' x.name.data.toList y.name.data.toList&&(np x.lo y.lo&&np x.hi y.hi)
def acf(x y:dF):FJ x y=true ↔ x=y:=by
 obtain⟨⟨⟨n⟩⟩,l,h⟩:=x;obtain⟨⟨⟨et⟩⟩,l',be⟩:=y;unfold FJ;rw[CU,zc,zc];simp only[cp,e5,dF.mk.injEq,NF,Array.mk.injEq];constructor
 ·rintro⟨U,aa,af⟩;exact⟨U,by omega,by omega⟩
 ·rintro⟨U,aa,af⟩;exact⟨U,by omega,by omega⟩
def dF.acg(D:bR)(x:dF):bT D [.s x.name.data.toList,.i .i64 x.lo,.i .i64 x.hi] x.cells:=by simp[bT,aT,dF.cells]
def fM.aof{p q:dF}{V:Value->Prop}(h:V (.bool (!FJ p q))) :
  fM Tryz.prog .neq 110 x y (.val (.agg #[.string p.name,.int .i64 p.lo,.int .i64 p.hi])) (.val (.agg #[.string q.name,.int .i64 q.lo,.int .i64 q.hi])) V other:=by
 refine Ro (X:=⟨Tryz.prog,k6,[],0,0,default,λ_=>none,[],none⟩) (D:=λ_=>none) (v:=.b (!FJ p q)) aU ?_ (dF.acg _ p) (dF.acg _ q) (λu hu=>by simp only[aT]at hu;rw[hu];exact h);show CN Tryz.prog k6 .neq 110 _ _=_;unfold CN;rw[aob,show Tryz.prog.eqGuardType Tryz.prog.depth 110=false by kernel_rfl];rfl
def aog{l m:List α}{k:Nat}(ap:k<l.length)(hm:k<m.length)(h:l.take k=m.take k)(e:l[k]=m[k]):l.take (k+1)=m.take (k+1):=by rw[ho ap,ho hm,h,e]
def aoh{l m:List α}{k:Nat}(ap:k<l.length)(hm:k<m.length)(e:¬ l[k]=m[k]):¬ l=m:=λh=>by subst h;exact e rfl
def aoi{c hJ:Nat}{l l':List dF}(h:dA I a n c 3 b (l.flatMap dF.cells))(be:dA I a' et c' 3 hJ (l'.flatMap dF.cells))(ah:n<=140737488355327):Spec Tryz.prog 61 [.slice a n c,.slice a' et c'] I M0 λv I' M'=>(∃ r,v=.bool r/\(r=true ↔ l=l'))/\I'=I/\M'=M0:=by
 refine b4 [] aU Tryz.func61 rfl rfl rfl ?_;intro B ao;have ap:l.length=n:=by have:=h.len;rw[fb _ 3 dF.de]at this;omega
 have ou:l'.length=et:=by have:=be.len;rw[fb _ 3 dF.de]at this;omega
 by_cases aw:n=et
 rotate_left
 ·refine aJ.mk (λ_=>?_) (λh=>absurd h (by simp;omega));exact⟨_,_,.refl,⟨false,rfl,λe=>(by cases e),λe=>absurd (by rw[<-ap,<-ou,e]) aw⟩,rfl,rfl⟩
 subst aw;refine aJ.mk (λh=>absurd h (by simp)) (λ_=>?_);refine dG.inv (ι:=Nat) (λk=>{ bx:=[(0,.val (.slice a n c)),(1,.val (.slice a' n c')),(12,.val (.int .i64 n)),(13,.val (.int .i64 k))],c2:=I,du:=M0 }) (λk=>k<=n/\l.take k=l'.take k) (λk=>n-k) ?_ ?_
 ·exact⟨0,⟨bw _,rfl⟩,.refl,fO,.nil⟩
 rintro k⟨ae,av⟩;refine aJ.mk (λaa=>?_) (λaa=>?_)
 ·have aS:k<n:=by have:(k:Int)<(n:Int):=bS aa;omega
  have ep:k<l.length:=by omega
  have sT:k<l'.length:=by omega
  obtain⟨ad,bP,bu⟩:=h.row dF.de aS ep;obtain⟨Ka,S2,AP⟩:=be.row dF.de aS sT;have hex:=aog ep sT av;have bH:=aoh ep sT;generalize l[k]=x at bu hex bH;generalize l'[k]=y at AP hex bH;refine c4.draw aU rfl rfl rfl ?_;refine bk.mk ad k bP rfl aS ?_;refine aK.mk _ (bu _) ?_;refine bk.mk Ka k S2 rfl aS ?_;refine aK.mk _ (AP _) ?_;refine fM.aof (p:=x) (q:=y) ?_;refine aJ.mk (λe=>?_) (λe=>?_);·have aF:(!FJ x y)=true:=e;rw[o7,<-Bool.not_eq_true,acf]at aF;exact⟨_,_,.refl,⟨false,rfl,λe=>(by cases e),λe=>absurd e (bH aF)⟩,rfl,rfl⟩
  ·have aF:(!FJ x y)=false:=e;rw[Eb,acf]at aF;refine bc.mk _ (cF (i:=k) (by omega)) ?_;exact⟨k+1,⟨⟨aS,hex aF⟩,by omega⟩,.refl,fO,.nil⟩
 ·have cm:k=n:=by have:¬ (k:Int)<(n:Int):=cx aa;omega
  subst cm;rw[fq (by omega),fq (by omega)]at av;exact⟨_,_,.refl,⟨true,rfl,λ_=>av,λ_=>rfl⟩,rfl,rfl⟩
def aoj{o o':gC}{c:Nat}(h:dA I a n c 3 0 (o.cW.flatMap dF.cells))(be:dA I a' et c' 3 0 (o'.cW.flatMap dF.cells))(ah:n<=140737488355327) :
  Spec Tryz.prog 16 [jd o (.slice a n c),jd o' (.slice a' et c')] I M0 λv I' M'=>(∃ r,v=.bool r/\(r=true ↔ o=o'))/\I'=I/\M'=M0:=by
 refine b4 [] aU Tryz.func16 rfl rfl rfl ?_;intro B ao;obtain⟨k,to,l⟩:=o;obtain⟨ed,tt,l'⟩:=o';refine b2.mk (λaz=>?_) (λaz=>?_)
 rotate_left
 ·have aF:k≠ed:=λe=>by subst e;simp at az
  exact⟨_,_,.refl,⟨false,rfl,λe=>(by cases e),λe=>absurd (congrArg gC.ok e) aF⟩,rfl,rfl⟩
 have aF:k=ed:=by simpa using az
 refine b2.mk (λbo=>?_) (λbo=>?_)
 rotate_left
 ·have dw:to≠tt:=λe=>by subst e;simp at bo
  exact⟨_,_,.refl,⟨false,rfl,λe=>(by cases e),λe=>absurd (congrArg gC.to e) dw⟩,rfl,rfl⟩
 have dw:to=tt:=by have:(to:Int)=(tt:Int):=bS bo;omega
 refine a0.whole _ (aoi h be ah) ?_;rintro v I' M' -⟨⟨r,rfl,ai⟩,rfl,rfl⟩;refine⟨_,_,.refl,⟨r,rfl,?_⟩,rfl,rfl⟩;rw[ai];simp[aF,dw]
section
section
end
end
section
end
def rk{l:List dF}{c:Nat}(h:dA I a n c 3 0 (l.flatMap dF.cells)):l.length=n:=by have:=h.len;rw[fb _ 3 dF.de]at this;omega
def S3:∀ l:List dF,gU (l.flatMap dF.cells)=true
 |[]=>rfl| c::l=>by have:=S3 l;unfold gU at this |-;rw[nG,GW,this];rfl
def dA.S4{c:Nat}{vs:List Value}(h:dA I a n c size b vs)(M:List aI)(ao:0<n):∃ ad,a=some ad/\cq I M ad (n*size) vs:=by
 rcases h.rd with U | ⟨ad,U,aa,cs,T,al,af,aP⟩
 ·omega
 ·exact⟨ad,U,aa,cs,T,al,.inl af,aP,h.len⟩
def tE:List (aY×List Nat)->List Nat
 |[]=>[]| x::xs=>x.2++bif x.1.z then tE xs else []
def mf(pl:List (ByteArray×Int))(d:aM)(xs:List (aY×List Nat)):List Nat:=
 bif decide (d.k=3)then [((eB d.t pl).getD 0).toNat]else
 bif decide (d.k=4)then tE xs else
 bif decide (d.k=6)&&decide (d.hi=0)then []else xs.flatMap (·.2)
def A'(pl:List (ByteArray×Int))(F:List aY)(d:aM)(xs:List (aY×List Nat)):aY×List Nat:=
 (eF d (xs.map (·.1)++bif decide (d.k=3)then [F.getD ((eB d.t pl).getD 0).toNat b8]else []),mf pl d xs)
def gG(pl:List (ByteArray×Int))(F:List aY)(ns:List aM)(j:Int):aY×List Nat:=lB (b8,[]) (λd g=>A' pl F d (d.ax.map g)) ns j
def MZ{pl:List (ByteArray×Int)}{F:List aY}{t:bN}(ai:right t=true){j:Nat}(aj:j<t.ns.length):gG pl F t.ns j=A' pl F t.ns[j] (t.ns[j].ax.map (gG pl F t.ns)):=
 yF (λd g dH h=>by rw[mA h]) ai aj
def ach(aZ:List (aY×List Nat))(i:Nat):(aZ.getD i (b8,[])).1=(aZ.map (·.1)).getD i b8:=by
 simp only[cS,tJ];cases aZ[i]?<;>rfl
def aci(pl:List (ByteArray×Int))(F:List aY):∀ (ds:List aM) (aZ:List (aY×List Nat)),(l4 (b8,[]) (λd g=>A' pl F d (d.ax.map g)) ds aZ).map (·.1)=eg pl F ds (aZ.map (·.1))
 |[],aZ=>rfl
 |d::ds,aZ=>by
  have az:(A' pl F d (d.ax.map λk=>aZ.getD k.toNat (b8,[]))).1=eF d (ng pl F (aZ.map (·.1)) d):=by unfold A' ng;simp only[h7,HM,ach]
  have U:=aci pl F ds (aZ++[A' pl F d (d.ax.map λk=>aZ.getD k.toNat (b8,[]))]);rw[fi,dv,jh,az]at U;rw[l4,U,eg]
def M2(pl:List (ByteArray×Int))(F:List aY)(ns:List aM)(j:Int):(gG pl F ns j).1=(eg pl F ns []).getD j.toNat b8:=by have h:=aci pl F ns [];unfold gG lB;rw[ach,h];rfl
abbrev dM:=BitVec 64
def lR(k:Nat):dM:=1#64 <<< k
def M3{k i:Nat}(hi:i<64):(lR k).getLsbD i=decide (i=k):=by
 unfold lR;rw[BitVec.getLsbD_shiftLeft];simp only[hi,Ep,p4];by_cases h:i<k
 ·have bH:¬ i=k:=by omega
  simp[h,bH]
 ·simp only[h,LN,DX,p4];by_cases e:i=k
  ·subst e;simp
  ·rw[c0 e];have aa:0<i-k:=by omega
   rw[BitVec.getLsbD_one];simp;omega
def aok(l:List Nat):∀ (w:dM) {i:Nat},i<64->(l.foldl (λw k=>w ||| lR k) w).getLsbD i=(w.getLsbD i||l.contains i):=by
 induction l with
 |nil=>intro w i hi;simp| cons k l a7=>intro w i hi;rw[pP,a7 _ hi,AS,M3 hi,List.contains_cons,Bool.or_assoc];rfl
def nw(m:List dM):Nat->Nat->dM->dM
 |_,0,w=>w| k,f+1,w=>nw m (k+1) f (bif w.getLsbD k then w ||| m.getD k 0 else w)
def sv(m:List dM):List dM:=(List.range 64).map λi=>nw m 0 64 (m.getD i 0)
inductive rl(m:List dM):Nat->Nat->Prop
 |one{i k}(ae:k<64)(h:(m.getD i 0).getLsbD k=true):rl m i k| step {i j k} (h:(m.getD i 0).getLsbD j=true) (aj:j<64) (t:rl m j k):rl m i k
def rl.trans{m:List dM}{i j k:Nat}(h:rl m i j)(be:rl m j k):rl m i k:=by
 induction h with
 |one ae h=>exact .step h ae be| step h aj t a7=>exact .step h aj (a7 be)
def j'(x y:dM):Prop:=∀ i,i<64->x.getLsbD i=true->y.getLsbD i=true
def j'.refl(x:dM):j' x x:=λ_ _ h=>h
def j'.trans{x y z:dM}(h:j' x y)(be:j' y z):j' x z:=λi hi ab=>be i hi (h i hi ab)
def j'.or(x y:dM):j' x (x ||| y):=λi hi h=>by rw[AS,h];rfl
def j'.or'(x y:dM):j' y (x ||| y):=λi hi h=>by rw[AS,h,I1]
def j'.IT{x y:dM}(h:j' x y)(be:j' y x):x=y:=RF λi hi=>by
 have U:=h i hi;have aa:=be i hi;cases ab:x.getLsbD i<;>cases aH:y.getLsbD i<;>simp_all
def j'.and{x y:dM}(h:j' x y):x &&& y=x:=RF λi hi=>by
 have U:=h i hi;rw[RG];cases ab:x.getLsbD i<;>simp_all
def Jf(m:List dM):∀ (f k:Nat) (w:dM),j' w (nw m k f w)
 |0,k,w=>j'.refl w
 |f+1,k,w=>by
  rw[nw];cases w.getLsbD k with
  |true=>exact(j'.or _ _).trans (Jf m f (k+1) _)| false=>exact Jf m f (k+1) _
def S5{m:List dM}{P:Nat->Prop}(hm:∀ j,P j->∀ x,x<64->(m.getD j 0).getLsbD x=true->P x):∀ (f k:Nat) (w:dM),k+f<=64->(∀ x,x<64->w.getLsbD x=true->P x)->∀ x,x<64->(nw m k f w).getLsbD x=true->P x
 |0,k,w,_,hw=>hw
 |f+1,k,w,ae,hw=>by
  rw[nw];cases ah:w.getLsbD k with
  |true=>
   refine S5 hm f (k+1) _ (by omega) λx ab h=>?_;rw[bh,AS,kM]at h;rcases h with h | h;·exact hw x ab h
   ·exact hm k (hw k (by omega) ah) x ab h
  |false=>exact S5 hm f (k+1) _ (by omega) hw
def S6{m:List dM}:∀ (f k:Nat) {w:dM},nw m k f w=w->∀ j,k<=j->j<k+f->w.getLsbD j=true->j' (m.getD j 0) w
 |0,k,w,_,j,U,aa,_=>by omega
 |f+1,k,w,h,j,U,aa,aj=>by
  rw[nw]at h;cases ah:w.getLsbD k with
  |true=>
   rw[ah,bh]at h;have e:w ||| m.getD k 0=w:=by refine j'.IT ?_ (j'.or _ _);have:=Jf m f (k+1) (w ||| m.getD k 0);rwa [h]at this
   by_cases j6:j=k;·subst j6;have:=j'.or' w (m.getD j 0);rwa [e]at this
   ·rw[e]at h;exact S6 f (k+1) h j (by omega) (by omega) aj
  |false=>
   rw[ah,bf]at h;by_cases j6:j=k;·subst j6;rw[ah]at aj;cases aj
   ·exact S6 f (k+1) h j (by omega) (by omega) aj
def acj(m:List dM):(sv m).length=64:=by simp[sv]
def M4(m:List dM){i:Nat}(h:i<64):(sv m).getD i 0=nw m 0 64 (m.getD i 0):=by simp[sv,cS,h]
structure Ba(lQ m:List dM):Prop where
 len:m.length=64
 le:∀ i,i<64->j' (lQ.getD i 0) (m.getD i 0)
 ok:∀ i,i<64->∀ k,k<64->(m.getD i 0).getLsbD k=true->rl lQ i k
def Ba.start{lQ:List dM}(h:lQ.length=64):Ba lQ lQ:=⟨h,λi _=>j'.refl _,λi _ k ae ah=>.one ae ah⟩
def Ba.next{lQ m:List dM}(h:Ba lQ m):Ba lQ (sv m):=by
 refine⟨acj m,λi hi=>?_,λi hi k ae ah=>?_⟩
 ·rw[M4 m hi];exact(h.le i hi).trans (Jf m 64 0 _)
 ·rw[M4 m hi]at ah;refine S5 (P:=λx=>x<64/\rl lQ i x) (λj aj x ab ah=>⟨ab,aj.2.trans (h.ok j aj.1 x ab ah)⟩) 64 0 _ (bY _) (λx ab ah=>⟨ab,h.ok i hi x ab ah⟩) k ae ah |>.2
def Ba.done{lQ m:List dM}(h:Ba lQ m)(aC:sv m=m){i k:Nat}(hi:i<64)(ae:k<64):(m.getD i 0).getLsbD k=true ↔ rl lQ i k:=by
 refine⟨h.ok i hi k ae,λaN=>?_⟩;have fF:∀ i,i<64->∀ j,j<64->(m.getD i 0).getLsbD j=true->j' (m.getD j 0) (m.getD i 0):=λi hi j aj ah=>by have:=M4 m hi;rw[aC]at this;exact S6 64 0 this.symm j (bw _) (by omega) ah
 revert hi
 induction aN with
 |one jI ah=>exact λhi=>h.le _ hi _ jI ah
 |step ah aj t a7=>exact λhi=>fF _ hi _ aj (h.le _ hi _ aj ah) _ ae (a7 ae aj)
def Bb(m:List dM):Nat:=(m.map zl).sum
def ack:∀ {m n:List dM},m.length=n.length->(∀ i,i<m.length->j' (m.getD i 0) (n.getD i 0))->Bb n<=Bb m/\(Bb m<=Bb n->m=n)
 |[],[],_,_=>⟨bY _,λ_=>rfl⟩| [],_::_,h,_=>by simp at h
 |_::_,[],h,_=>by simp at h
 |a::m,b::n,h,ar=>by
  have ao:j' a b:=by simpa using ar 0 (by simp)
  obtain⟨U,aa⟩:=IU ao.and;obtain⟨t1,t2⟩:=ack (m:=m) (n:=n) (by simpa using h) λi hi=>by simpa using ar (i+1) (by simpa using hi)
  simp only[Bb,dv,pg]at t1 t2 |-;refine⟨by omega,λbn=>?_⟩;rw[aa (by omega),t2 (by omega)]
def aol{m:List dM}(ap:m.length=64)(h:sv m≠m):Bb (sv m)<Bb m:=by
 have ar:=ack (m:=m) (n:=sv m) (by rw[ap,acj]) λi hi=>by rw[M4 m (by omega)];exact Jf m 64 0 _
 refine Pc ar.1 λe=>h (ar.2 (by omega)).symm
def S7(m:List dM):dM:=(List.range 64).foldl (λw i=>w ||| ((m.getD i 0) &&& lR i)) 0
def acm(m:List dM):∀ (l:List Nat) (w:dM) {i:Nat},i<64->(∀ k∈l,k<64)->(l.foldl (λw i=>w ||| ((m.getD i 0) &&& lR i)) w).getLsbD i=(w.getLsbD i||(l.contains i&&(m.getD i 0).getLsbD i))
 |[],w,i,hi,_=>by simp
 |k::l,w,i,hi,ap=>by
  rw[pP,acm m l _ hi λk ae=>ap k (.tail _ ae),AS,RG,M3 hi,List.contains_cons];by_cases e:i=k
  ·subst e;simp;cases w.getLsbD i<;>cases(m.getD i 0).getLsbD i<;>simp
  ·have bA:(i == k)=false:=by simpa using e
   rw[c0 e,bA];simp
def aom(m:List dM){i:Nat}(hi:i<64):(S7 m).getLsbD i=(m.getD i 0).getLsbD i:=by
 unfold S7;rw[acm m _ _ hi λk ae=>kI.1 ae];have:(List.range 64).contains i=true:=by simpa using hi
 rw[this];simp
def bitsOf(w:dM)(n:Nat):List Nat:=(List.range n).filter λi=>w.getLsbD i
def acn(w:dM)(n:Nat):bitsOf w (n+1)=bitsOf w n++(bif w.getLsbD n then [n]else []):=by
 unfold bitsOf;rw[Cv,I0];cases h:w.getLsbD n<;>simp[h]
def aon(w:dM)(n:Nat):(bitsOf w n).length<=n:=by unfold bitsOf;have:=Gs (λi=>w.getLsbD i) (List.range n);simpa using this
def FK(x y:Int):Int:=IntKind.u64.wrap ((BitVec.ofInt 64 x ||| BitVec.ofInt 64 y).toNat:Int)
def M5(x y:BitVec 64):FK x.toNat y.toNat=((x ||| y).toNat:Int):=by unfold FK;rw[IR,IR,aaR]
def S8(x y:Int):Int:=IntKind.u64.wrap ((BitVec.ofInt 64 x &&& BitVec.ofInt 64 y).toNat:Int)
def aoo(x y:BitVec 64):S8 x.toNat y.toNat=((x &&& y).toNat:Int):=by unfold S8;rw[IR,IR,aaR]
def aop(x y:BitVec 64):np (x.toNat:Int) (y.toNat:Int)=decide (x=y):=by rw[zc,<-alZ,pQ];simp
def FL(v:α)(x:R)(f:α->R):ch (some v) x f=f v:=rfl
def aco(w:dM){k:Nat}(ae:k<64):IntKind.u64.wrap ((BitVec.ofInt 64 ((w.toNat:Int).fdiv (2^(min k 64))) &&& BitVec.ofInt 64 1).toNat:Int)=bif w.getLsbD k then 1 else 0:=by
 have aw:w.toNat<18446744073709551616:=w.isLt;have cJ:min k 64=k:=by omega
 have az:(w.toNat:Int).fdiv (2^k)=((w.toNat/2^k:Nat):Int):=by rw[GQ _ (by exact Int.le_of_lt (Int.pow_pos (by decide)))];simp
 rw[cJ,az];have aF:(BitVec.ofInt 64 ((w.toNat/2^k:Nat):Int) &&& BitVec.ofInt 64 1).toNat=w.toNat/2^k%2:=by
  have U:BitVec.ofInt 64 ((w.toNat/2^k:Nat):Int)=BitVec.ofNat 64 (w.toNat/2^k):=(show ∀ m:Nat,BitVec.ofInt 64 (m:Int)=BitVec.ofNat 64 m from λm=>by simp) _;have aa:BitVec.ofInt 64 1=BitVec.ofNat 64 1:=by decide
  rw[U,aa,GU,Ct,Ct];have af:w.toNat/2^k%2^64=w.toNat/2^k:=HN (Nat.lt_of_le_of_lt (Nat.div_le_self _ _) aw);rw[af,show 1%2^64=1 by decide,Nat.and_one_is_mod]
 rw[aF];have bo:IntKind.u64.wrap ((w.toNat/2^k%2:Nat):Int)=((w.toNat/2^k%2:Nat):Int):=by have:w.toNat/2^k%2<2:=Er _ (by decide);unfold IntKind.wrap;simp only[IntKind.bits,IntKind.signed];simp;omega
 rw[bo];have dw:w.getLsbD k=w.toNat.testBit k:=rfl;rw[dw,XT];have:w.toNat/2^k%2<2:=Er _ (by decide);by_cases h:w.toNat/2^k%2=1
 ·rw[h];rfl
 ·have ao:w.toNat/2^k%2=0:=by omega
  rw[ao];rfl
def S9{k:Nat}(ae:k<64):IntKind.u64.wrap (1*2^(min k 64))=((lR k).toNat:Int):=by
 have cJ:min k 64=k:=by omega
 have U:(2:Nat)^k<2^64:=Nat.pow_lt_pow_right (by decide) ae;have e:(lR k).toNat=2^k:=by unfold lR;rw[BitVec.toNat_shiftLeft];simp only[Ct];rw[Nat.shiftLeft_eq,show 1%2^64=1 by decide,oy,HN U]
 rw[cJ,e,Int.one_mul];have aF:((2:Int)^k)=((2^k:Nat):Int):=by simp
 rw[aF];unfold IntKind.wrap;simp only[IntKind.bits,IntKind.signed];simp;omega
def pH(w:dM):Value:=.int .u64 w.toNat
def acp{w:dM}{i:Nat}(aS:i<64)(aa:¬ IntKind.u64.wrap ((BitVec.ofInt 64 ((w.toNat:Int).fdiv (2^(min i 64))) &&& BitVec.ofInt 64 1).toNat:Int)=0):w.getLsbD i=true:=by
 have ah:=aco w aS;cases aA:w.getLsbD i with
 |true=>rfl| false=>rw[aA]at ah;exact absurd ah aa
def acq{w:dM}{i:Nat}(aS:i<64)(aa:IntKind.u64.wrap ((BitVec.ofInt 64 ((w.toNat:Int).fdiv (2^(min i 64))) &&& BitVec.ofInt 64 1).toNat:Int)=0):w.getLsbD i=false:=by
 have ah:=aco w aS;cases aA:w.getLsbD i with
 |false=>rfl| true=>rw[aA,aa]at ah;cases ah
def acr{a b:Int}(h:(!decide (a=b))=true):¬ a=b:=by simpa using h
def acs{a b:Int}(h:(!decide (a=b))=false):a=b:=by simpa using h
def acu(w:dM):Spec Tryz.prog 107 [.int .u64 w.toNat] I M0 λv I' M'=>I'=I/\∃ os:a5,os.ok 1 ((bitsOf w 64).map λn:Nat=>Value.int .i64 n)/\v=os.val/\M'=os.aL 3++M0:=by
 refine b4 [] aU Tryz.func107 rfl rfl rfl ?_;intro B ao;refine dG.inv (ι:=Nat×a5) (λx=>{ bx:=[(0,.val (.int .u64 w.toNat)),(3,.val x.2.val),(5,.val (.int .i64 x.1))],c2:=I,du:=x.2.aL 3++M0 }) (λx=>x.1<=64/\x.2.ok 1 ((bitsOf w x.1).map λn:Nat=>Value.int .i64 n)) (λx=>64-x.1) ?_ ?_
 ·exact⟨(0,qV),⟨by simp,ur 1⟩,.refl,f',.nil⟩
 rintro⟨i,os⟩⟨hi,dp⟩;simp only at hi dp;have oT:os.n<=64:=by have U:=dp.len;rw[cD]at U;have:=aon w i;omega
 refine aJ.mk (λh=>?_) (λh=>?_)
 rotate_left
 ·have cm:i=64:=by have:¬ (i:Int)<64:=cx h;omega
  rw[cm]at dp;exact⟨_,_,.refl,rfl,os,dp,rfl,rfl⟩
 have aS:i<64:=by have:(i:Int)<64:=bS h;omega
 refine sG.mk i rfl ?_;refine aJ.mk (λaa=>?_) (λaa=>?_)
 ·have hw:=acp (w:=w) aS (acr aa);refine cv.mk λb9 hD Ce=>?_;refine bs.uS aU rfl (by simp) (e:=3) rfl rfl rfl os dp rfl (cs:=[.int .i64 i]) rfl rfl rfl [] M0 rfl (by omega) (by show(os.n+1)*8<=_;omega) ?_;intro hg jL iL gy;refine bc.mk _ (cF (i:=i) (by omega)) ?_;refine⟨(i+1,hg),⟨⟨aS,?_⟩,by simp only;omega⟩,.refl,f',.nil⟩;simp only;rw[acn,hw,fi];exact gy
 ·have hw:=acq (w:=w) aS (acs aa);refine bc.mk _ (cF (i:=i) (by omega)) ?_;refine⟨(i+1,os),⟨⟨aS,?_⟩,by simp only;omega⟩,.refl,f',.nil⟩;simp only;rw[acn,hw,bf,dX];exact dp
def Bc(w:dM):aq:=.i .u64 w.toNat
def acv{aG:ec}(he:E e=some aG)(ar:aG.size=1)(aE:aG.bO.agg=false)(P:List aq)(x:aq)(r:List aq):v7 E e (P.length*aG.size) (P++x::r)=some x:=by unfold v7;rw[he,FL,ar,iU,Ii,Sq,aE];rfl
def acw{F:Nat->aq->aq->Option Bool}{E:Env}{e:Nat}{aG:ec}(he:E e=some aG)(ar:aG.size=1)(aE:aG.bO.agg=false)(bB:∀ a b,F e (.i .u64 a) (.i .u64 b)=some (np a b)):∀ (l m:List dM) (FM Jg:List aq),l.length=m.length->FM.length=Jg.length -> Az F E (FM++l.map Bc) (Jg++m.map Bc) ((List.range' FM.length l.length).map λi=>(e,i*aG.size))=some (decide (l=m))
 |[],[],FM,Jg,_,_=>rfl| [],_::_,_,_,h,_=>by simp at h
 |_::_,[],_,_,h,_=>by simp at h
 |a::l,b::m,FM,Jg,h,aD=>by
  have a7:=acw he ar aE bB l m (FM++[Bc a]) (Jg++[Bc b]) (by simpa using h) (by simpa using aD);rw[cP,y0,fA,fA,Hn,Hn]at a7;rw[eQ,NH,dv,dv,dv,Az,acv he ar aE,FL,aD,acv he ar aE,FL,<-aD];rw[show F e (Bc a) (Bc b)=some (decide (a=b)) by rw[<-aop];exact bB _ _,FL,kE];by_cases az:a=b;·subst az;simp only[Ep,sD];rw[a7];simp
  ·simp[az]
def lk(m:List dM):List Value:=(List.range 64).map λi=>pH (m.getD i 0)
def M6{m:List dM}(h:m.length=64):lk m=m.map pH:=by
 unfold lk;apply ys
 ·simp[h]
 ·intro i U aa;have:i<m.length:=by simpa using aa
  simp[cS,this]
def u9(m:List dM):(lk m).length=64:=by simp[lk]
def aoq{p q:List dM}(aD:p.length=64)(ay:q.length=64){V:Value->Prop}(h:V (.bool (decide (p=q)))) :
  fM Tryz.prog .eql 176 x y (.val (.agg (lk p).toArray)) (.val (.agg (lk q).toArray)) V other:=by
 rw[M6 aD,M6 ay];have ak:∀ l:List dM,bT (λ_=>none) (l.map Bc) (l.map pH):=λl=>by
  induction l with
  |nil=>exact .nil| cons a l a7=>exact .cons (by simp only[Bc,pH,aT]) a7
 refine Ro (X:=⟨Tryz.prog,k6,[],0,0,default,λ_=>none,[],none⟩) (D:=λ_=>none) (v:=.b (decide (p=q))) aU ?_ (ak p) (ak q) (λu hu=>by simp only[aT]at hu;rw[hu];exact h);show CN Tryz.prog k6 .eql 176 _ _=_;obtain⟨i1,U,gj⟩:∃ i,k6 176=some i/\i.bO=.array 64 54:=⟨_,rfl,rfl⟩;obtain⟨i2,aa,mU,S'⟩:∃ i,k6 54=some i/\i.bO=.int .u64/\i.size=1:=⟨_,rfl,rfl,rfl⟩;have bB:∀ a b,ra Tryz.prog k6 7 54 (.i .u64 a) (.i .u64 b)=some (np a b):=λa b=>by simp only[ra,aa,FL,mU];rfl
 have ae:=acw (F:=ra Tryz.prog k6 7) aa S' (by rw[mU];rfl) bB p q [] [] (by omega) rfl;unfold CN;rw[ra];simp only[U,FL,gj,aa];rw[kN,kN,ih,aD]at ae;rw[DG,ae,show Tryz.prog.eqGuardType Tryz.prog.depth 176=false by kernel_rfl];rfl
structure eb where
 n:Nat
 m:List dM
 w:dM
def eb.cells(s:eb):List Value:=.int .i64 s.n::(lk s.m++[pH s.w])
def eb.val(s:eb):Value:=.agg s.cells.toArray
def eb.aor(s:eb):Prop:=s.m.length=64/\s.n<=64
def xY(b:Nat)(m:List dM):aI:=⟨b,.cells (lk m).toArray 176 (0,0)⟩
def Jh{m:List dM}(a2:xY b m∈M):cq I M (⟨b,0,none⟩:Addr) 64 (lk m):=
 ⟨rfl,_,_,_,.inr ⟨_,a2,rfl,rfl⟩,by simp only[sQ];exact fq (by simp[u9]),u9 m⟩
def acx{m:List dM}(a2:xY b m∈M){j:Nat}(aj:j<64):cq I M ((⟨b,0,none⟩:Addr).add (j*1)) 1 [pH (m.getD j 0)]:=by rw[eo _ rfl];refine⟨rfl,_,_,_,.inr ⟨_,a2,rfl,rfl⟩,?_,rfl⟩;simp only[dz,iU];rw[e8 (by simpa[lk]using aj),pU,nH];simp[lk]
def acy(m:List dM)(hm:m.length=64)(j:Nat)(aj:j<64)(w:dM):bK (lk m) (0+j*1) [pH w]=lk (m.set j w):=by rw[M6 hm,M6 (by simpa using hm),dz,iU,Ys _ _ _ (by simp[hm];exact aj),J6]
def oY(m:List dM)(i:Nat):List dM:=(List.range i).map (λq=>nw m 0 64 (m.getD q 0))++m.drop i
def acz{m:List dM}(hm:m.length=64){i:Nat}(hi:i<=64):(oY m i).length=64:=by simp[oY,hm];omega
def aos{m:List dM}(hm:m.length=64){i:Nat}(hi:i<64):(oY m i).set i (m.getD i 0)=oY m i:=by
 unfold oY;have h:i<m.length:=by omega
 rw[yO _ _ (by simp)];simp only[cD,q0,lE];rw[e8 h,Ad];simp[cS,h]
def aot{m:List dM}(hm:m.length=64){i:Nat}(hi:i<64):(oY m i).set i (nw m 0 64 (m.getD i 0))=oY m (i+1):=by
 unfold oY;have h:i<m.length:=by omega
 rw[yO _ _ (by simp)];simp only[cD,q0,lE];rw[e8 h,Ad,Cv,fi,fA];rfl
def acA{m:List dM}(hm:m.length=64):oY m 64=sv m:=by unfold oY sv;rw[tB (by omega),dX]
def Bd(m:List dM)(k:Nat):dM:=(List.range k).foldl (λw i=>w ||| ((m.getD i 0) &&& lR i)) 0
def aou(m:List dM)(k:Nat):Bd m (k+1)=Bd m k ||| (m.getD k 0 &&& lR k):=by unfold Bd;rw[Cv,En];rfl
def aov{a b:Int}(h:a=b):tV (.val (.int .u64 a)) (.val (.int .u64 b)):=by subst h;exact .refl
def aow(m:List dM)(k:Nat):FK (Bd m k).toNat (S8 (m.getD k 0).toNat (lR k).toNat)=((Bd m (k+1)).toNat:Int):=by rw[aoo,M5,aou]
def aox{m:List dM}{k:Nat}{w:dM}(ae:k<64)(h:w.getLsbD k=true):nw m k (64-k) w=nw m (k+1) (64-(k+1)) (w ||| m.getD k 0):=by rw[show 64-k=(64-(k+1))+1 by omega,nw,h];rfl
def aoy{m:List dM}{k:Nat}{w:dM}(ae:k<64)(h:w.getLsbD k=false):nw m k (64-k) w=nw m (k+1) (64-(k+1)) w:=by rw[show 64-k=(64-(k+1))+1 by omega,nw,h];rfl
def Ta{m:List dM}{i:Nat}(hi:i<m.length)(w:dM):(m.set i w).getD i 0=w:=by simp[cS,hi]
def aoz(s:eb)(ar:s.aor):Spec Tryz.prog 108 [s.val] I M0 λv I' M'=>I'=I/\M'=M0/\∃ b:dM,v=.int .u64 b.toNat/\∀ i,i<64->(b.getLsbD i=true ↔ rl s.m i i):=by
 refine b4 [1,3,4] aU Tryz.func108 rfl rfl rfl ?_;intro B ao;obtain⟨gj,mU⟩:=ar;refine cv.mk λb1 oA PO=>?_;refine aK.mk (lk s.m) ?_ ?_
 ·refine⟨rfl,_,_,_,.inr ⟨_,.head _,rfl,rfl⟩,?_,u9 _⟩;show((s.cells).drop 1).take 64=_;rw[eb.cells,H4,sQ];exact rV (u9 _)
 refine cv.mk λc9 n8 atq=>?_;refine cz.to [] _ _ _ rfl rfl rfl rfl (lk s.m) rfl ?_;refine dG.inv (ι:=List dM) (λm=>{ bx:=[(3,.val (ptr c9))],c2:=I,du:=xY c9 m::M0 }) (Ba s.m) Bb ?_ ?_
 ·exact⟨s.m,.start gj,.sub (.cons_cons _ (.cons _ (.refl _))) .refl,.cons .refl (.nil),.nil⟩
 intro m hm;have l1:=hm.len;refine aK.mk _ (Jh (.head _)) ?_;refine cv.mk λeM alt atr=>?_;refine cz.to [] _ _ _ rfl rfl rfl rfl (lk m) rfl ?_;refine dG.inv (ι:=Nat) (λi=>{ bx:=[(3,.val (ptr c9)),(4,.val (ptr eM)),(13,.val (.int .i64 i))],c2:=I,du:=xY eM (oY m i)::(xY c9 m::M0) }) (λi=>i<=64) (λi=>64-i) ?_ ?_
 ·refine⟨0,bw _,.refl,f',.nil⟩
 intro i hi;refine aJ.mk (λh=>?_) (λh=>?_)
 rotate_left
 ·have cm:i=64:=by have:¬ (i:Int)<64:=cx h;omega
  subst cm;refine aK.mk _ (Jh (.head _)) ?_;refine aK.mk _ (Jh (.tail _ (.head _))) ?_;refine aoq (acz l1 (bY _)) l1 ?_;rw[acA l1];refine aJ.mk (λhe=>?_) (λhe=>?_)
  ·have tX:sv m=m:=bS he;refine aK.mk _ (Jh (.tail _ (.head _))) ?_;refine dG.inv (ι:=Nat) (λk=>{ bx:=[(7,.val (.int .u64 (Bd m k).toNat)),(40,.val (.agg (lk m).toArray)),(41,.val (.int .i64 k))],c2:=I,du:=M0 }) (λk=>k<=64) (λk=>64-k) ?_ ?_
   ·exact⟨0,bw _,.sub (.cons _ (.cons _ (.refl _))) .refl,f',.nil⟩
   intro k ae;refine aJ.mk (λh=>?_) (λh=>?_)
   rotate_left
   ·have cm:k=64:=by have:¬ (k:Int)<64:=cx h;omega
    subst cm;exact⟨_,_,.refl,rfl,rfl,Bd m 64,rfl,λi hi=>by rw[show Bd m 64=S7 m from rfl,aom m hi,hm.done tX hi hi]⟩
   have fP:k<64:=by have:(k:Int)<64:=bS h;omega
   clear h ae;have aN:k=0\/k=1\/k=2\/k=3\/k=4\/k=5\/k=6\/k=7\/k=8\/k=9\/k=10\/k=11\/k=12\/k=13\/k=14\/k=15\/k=16\/k=17\/k=18\/k=19\/k=20\/k=21\/k=22\/k=23\/k=24\/k=25\/k=26\/k=27\/k=28\/k=29\/k=30\/k=31\/k=32\/k=33\/k=34\/k=35\/k=36\/k=37\/k=38\/k=39\/k=40\/k=41\/k=42\/k=43\/k=44\/k=45\/k=46\/k=47\/k=48\/k=49\/k=50\/k=51\/k=52\/k=53\/k=54\/k=55\/k=56\/k=57\/k=58\/k=59\/k=60\/k=61\/k=62\/k=63:=by omega
   rcases aN with rfl | rfl | rfl | rfl | rfl | rfl | rfl | rfl | rfl | rfl | rfl | rfl | rfl | rfl | rfl | rfl | rfl | rfl | rfl | rfl | rfl | rfl | rfl | rfl | rfl | rfl | rfl | rfl | rfl | rfl | rfl | rfl | rfl | rfl | rfl | rfl | rfl | rfl | rfl | rfl | rfl | rfl | rfl | rfl | rfl | rfl | rfl | rfl | rfl | rfl | rfl | rfl | rfl | rfl | rfl | rfl | rfl | rfl | rfl | rfl | rfl | rfl | rfl | rfl
   all_goals
    refine ez.mk _ rfl fP ?_;refine sG.mk _ rfl ?_;refine bc.mk _ (S9 fP) ?_;refine bc.mk _ (cF (by omega)) ?_;exact⟨_,⟨fP,by omega⟩,.refl,.cons (aov (aow m _)) (yq),.nil⟩
  ·have tX:sv m≠m:=cx he;refine aK.mk _ (Jh (.head _)) ?_;refine cz.to [_] _ _ _ rfl rfl rfl rfl (lk (oY m 64)) rfl ?_;refine⟨sv m,⟨hm.next,aol l1 tX⟩,.sub (.cons _ (.refl _)) (.pz ?_),.cons .refl (.nil),.nil⟩;rw[acA l1];rfl
 have aS:i<64:=by have:(i:Int)<64:=bS h;omega
 have ua:=acz l1 hi;refine dG.inv (ι:=Nat×dM) (λs=>{ bx:=[(3,.val (ptr c9)),(4,.val (ptr eM)),(5,.val (.int .i64 i)),(13,.val (.int .i64 i)),(16,.val (.int .i64 s.1))],c2:=I,du:=xY eM ((oY m i).set i s.2)::(xY c9 m::M0) }) (λs=>s.1<=64/\nw m 0 64 (m.getD i 0)=nw m s.1 (64-s.1) s.2) (λs=>64-s.1) ?_ ?_
 ·refine⟨(0,m.getD i 0),⟨bw _,rfl⟩,.pz ?_,hS,.nil⟩;simp only;rw[aos l1 aS]
 rintro⟨k,w⟩⟨ae,kR⟩;simp only at ae kR;refine aJ.mk (λh=>?_) (λh=>?_)
 rotate_left
 ·have cm:k=64:=by have:¬ (k:Int)<64:=cx h;omega
  subst cm;have yY:nw m 0 64 (m.getD i 0)=w:=kR;refine bc.mk _ (cF (i:=i) (by omega)) ?_;refine⟨i+1,⟨aS,by omega⟩,.pz ?_,f',.nil⟩;rw[<-aot l1 aS,yY]
 have fP:k<64:=by have:(k:Int)<64:=bS h;omega
 have jZ:((oY m i).set i w).length=64:=by rw[uv,ua]
 have acB:∀ {M:List aI},xY eM ((oY m i).set i w)∈M->cq I M ((⟨eM,0,none⟩:Addr).add (i*1)) 1 [.int .u64 w.toNat]:=λa2=>by have:=acx (I:=I) a2 aS;rwa [Ta (by omega) w]at this
 have w4:∀ {M:List aI},xY c9 m∈M->cq I M ((⟨c9,0,none⟩:Addr).add (k*1)) 1 [.int .u64 (m.getD k 0).toNat]:=λa2=>acx (I:=I) a2 fP;refine ez.mk i rfl aS ?_;refine aK.mk _ (acB (.head _)) ?_;refine sG.mk k rfl ?_;refine aJ.mk (λaa=>?_) (λaa=>?_)
 ·have hw:=acp (w:=w) fP (acr aa);refine c4.draw aU rfl rfl rfl ?_;refine ez.mk i rfl aS ?_;refine aK.mk _ (acB (.head _)) ?_;refine ez.mk k rfl fP ?_;refine aK.mk _ (w4 (.tail _ (.head _))) ?_;refine ez.mk i rfl aS ?_;refine cz.jl [] (xY c9 m::M0) (lk ((oY m i).set i w)) _ rfl ?_ rfl (lk ((oY m i).set i (w ||| m.getD k 0))) ?_ ?_
  ·rw[nW,u9];show 0+i*1+1<=64;omega
  ·show bK _ _ [Value.int .u64 (FK w.toNat (m.getD k 0).toNat)]=_;rw[M5];have:=acy ((oY m i).set i w) jZ i aS (w ||| m.getD k 0);rw[Gv]at this;exact this
  refine bc.mk _ (cF (i:=k) (by omega)) ?_;exact⟨(k+1,w ||| m.getD k 0),⟨⟨fP,by rw[kR,aox fP hw]⟩,by simp only;omega⟩,.refl,hS,.nil⟩
 ·have hw:=acq (w:=w) fP (acs aa);refine bc.mk _ (cF (i:=k) (by omega)) ?_;exact⟨(k+1,w),⟨⟨fP,by rw[kR,aoy fP hw]⟩,by simp only;omega⟩,.refl,hS,.nil⟩
section
end
def Du(t:bN):Prop:=∀ n∈t.ns,n.kn<=3000000000000
def aoA:∀ {l:List Int} (h:0<l.length),l.headD 0=l[0]
 |a::l,_=>rfl
def oZ(ns:List aM)(xs:List aY):Bool:=ns.any λd=>decide (d.k=6)&&(decide (d.hi=-1)&&(xs.getD (d.ax.headD 0).toNat b8).z)
def aoB(p:α->Bool)(l:List α)(x:α):(l++[x]).any p=(l.any p||p x):=by simp
def aoC{p:α->Bool}{l:List α}{i:Nat}(h:(l.take i).any p=true):l.any p=true:=by rw[MI]at h |-;obtain⟨x,ab,aD⟩:=h;exact⟨x,w6 ab,aD⟩
def aoD{t:bN}(av:t.ok I)(ai:right t=true){xa:Option Addr}{xc:Nat}{xs:List aY}(ab:nY I M0 xa t.n xs):Spec Tryz.prog 166 [t.val,.slice xa t.n xc] I M0 λv I' M'=>v=.bool (oZ t.ns xs)/\I'=I/\M'=M0:=by
 refine b4 [] aU Tryz.func166 rfl rfl rfl ?_;intro B ao;have k':=av.n;have ig:=av.bg.cap;have hx:=ab.n;refine dG.inv (ι:=Nat) (λi=>{ bx:=[(1,.val (.slice xa t.n xc)),(8,.val (.slice t.a t.n t.c)),(9,.val (.int .i64 t.n)),(10,.val (.int .i64 i))],c2:=I,du:=M0 }) (λi=>i<=t.n/\(t.ns.take i).any (λd=>decide (d.k=6)&&(decide (d.hi=-1)&&(xs.getD (d.ax.headD 0).toNat b8).z))=false) (λi=>t.n-i) ?_ ?_
 ·exact⟨0,⟨bw _,rfl⟩,.refl,fO,.nil⟩
 rintro i⟨hi,ee⟩;refine aJ.mk (λh=>?_) (λh=>?_)
 rotate_left
 ·have cm:i=t.n:=by have:¬ (i:Int)<(t.n:Int):=cx h;omega
  rw[fq (by omega)]at ee;refine⟨_,_,.refl,?_,rfl,rfl⟩;rw[oZ,ee]
 have aS:i<t.n:=by have:(i:Int)<(t.n:Int):=bS h;omega
 have b':i<t.ns.length:=by omega
 obtain⟨ad,bP,bu⟩:=av.bg.row aM.de aS b';have ag:=av.ns _ (cC b');have uy:=Ec ai b';have iY:=mz ai i b';have cY:=ag.kn;have mK:(t.ns.take (i+1)).any (λd=>decide (d.k=6)&&(decide (d.hi=-1)&&(xs.getD (d.ax.headD 0).toNat b8).z))=(decide (t.ns[i].k=6)&&(decide (t.ns[i].hi=-1)&&(xs.getD (t.ns[i].ax.headD 0).toNat b8).z)):=by rw[ho b',aoB,ee,wO]
 generalize t.ns[i]=d at bu ag uy iY cY mK;refine bk.mk ad i bP rfl aS ?_;refine aK.mk _ (bu _) ?_;refine b2.mk (λbj=>?_) (λbj=>?_)
 rotate_left
 ·have Be:decide (d.k=6)=false:=bj;rw[Be]at mK;refine bc.mk _ (cF (i:=i) (by omega)) ?_;exact⟨i+1,⟨⟨aS,mK⟩,by omega⟩,.refl,fO,.nil⟩
 have Be:decide (d.k=6)=true:=bj;have ats:d.k=6:=bS Be;rw[Be,p4]at mK;refine b2.mk (λU=>?_) (λU=>?_)
 rotate_left
 ·have yE:decide (d.hi=-1)=false:=U;rw[yE]at mK;refine bc.mk _ (cF (i:=i) (by omega)) ?_;exact⟨i+1,⟨⟨aS,mK⟩,by omega⟩,.refl,fO,.nil⟩
 have yE:decide (d.hi=-1)=true:=U;rw[yE,p4]at mK;have cZ:0<d.ax.length:=by have:=Xr ag.k.1 uy (by omega);omega
 obtain⟨eK,fG,e0⟩:=ag.bg.one (j:=0) (by omega) cZ;have ak:=iY _ (cC cZ);have bl:d.ax.headD 0=d.ax[0]:=aoA cZ;rw[bl]at mK;have eS:d.ax[0].toNat<xs.length:=by omega
 obtain⟨Tb,Tc,Td⟩:=ab.rd _ eS;have aA:xs.getD d.ax[0].toNat b8=xs[d.ax[0].toNat]:=by simp[cS,eS]
 rw[aA]at mK;refine bk.mk eK 0 fG rfl (by omega) ?_;refine aK.mk _ (e0 _) ?_;refine bk.mk Tb d.ax[0].toNat Tc (by omega) (by omega) ?_;refine aK.mk _ (Td.part (k:=0) (m:=1) (by decide)) ?_;refine aJ.mk (λa9=>?_) (λa9=>?_)
 ·have h4:xs[d.ax[0].toNat].z=true:=a9;refine⟨_,_,.refl,?_,rfl,rfl⟩;rw[oZ,aoC (i:=i+1) (by rw[mK,h4])]
 ·have h4:xs[d.ax[0].toNat].z=false:=a9;rw[h4]at mK;refine bc.mk _ (cF (i:=i) (by omega)) ?_;exact⟨i+1,⟨⟨aS,mK⟩,by omega⟩,.refl,fO,.nil⟩
def eb.mark(s:eb)(i k:Nat):eb:=⟨s.n,s.m.set i (s.m.getD i 0 ||| lR k),s.w⟩
def kZ(b:Nat)(s:eb):aI:=⟨b,.cells s.cells.toArray 178 (0,0)⟩
def eb.de(s:eb):s.cells.length=66:=by simp[eb.cells,u9]
def aoE{s:eb}(a2:kZ b s∈M){j:Nat}(aj:j<64):cq I M (((⟨b,0,none⟩:Addr).add 1).add (j*1)) 1 [pH (s.m.getD j 0)]:=by rw[eo (⟨b,0,none⟩:Addr) rfl,eo _ rfl];refine⟨rfl,_,_,_,.inr ⟨_,a2,rfl,rfl⟩,?_,rfl⟩;simp only[dz,iU];show(s.cells.drop (1+j)).take 1=_;rw[eb.cells,F7 1 j,H4,XU (by rw[u9];omega),e8 (by rw[u9];exact aj),rU,pU,nH];simp[lk]
def aoF{s:eb}(ar:s.m.length=64){i k:Nat}(hi:i<64):bK s.cells (0+1+i*1) [pH (s.m.getD i 0 ||| lR k)]=(s.mark i k).cells:=by
 unfold eb.cells eb.mark;simp only;have az:bK (Value.int .i64 s.n::(lk s.m++[pH s.w])) (0+1+i*1) [pH (s.m.getD i 0 ||| lR k)]=Value.int .i64 s.n::(bK (lk s.m) (0+i*1) [pH (s.m.getD i 0 ||| lR k)]++[pH s.w]):=by have h:=Yr [Value.int .i64 s.n] (lk s.m) [pH s.w] i [pH (s.m.getD i 0 ||| lR k)] (by rw[u9];show i+1<=64;omega);simp only[y0,Hn,eQ,ih,dz,iU]at h |-;exact h
 rw[az,acy s.m ar i hi]
def cz.aoG{x y:Nat}{vs:List Value}{K:List aI->Prop}(a8 post:List aI)(cs:List Value)(T:Nat)(a2:M=a8++⟨b,.cells cs.toArray T (0,0)⟩::post)(ah:0+x+y+vs.length<=cs.length)(U:gU vs=true)
  (cs':List Value) (he:bK cs (0+x+y) vs=cs') (h:K (a8++⟨b,.cells cs'.toArray T (0,0)⟩::post)):cz M (((⟨b,0,none⟩:Addr).add x).add y) vs K:=by
 rw[eo (⟨b,0,none⟩:Addr) rfl,eo _ rfl];exact cz.to a8 post cs.toArray T a2 rfl (by rw[nW];simpa using ah) U cs' he h
def aoH{M1:List aI}{g:dn}(aA:g.ok I){k:Nat}(ae:df nm g.ds 0=k)(aoI:k<64){b1 b6 b7 i:Nat}(hi:i<64){s:eb}(ar:s.m.length=64)(U:(⟨b1,.cells #[.slice g.a g.n g.c] 24 (0,0)⟩:aI)∈M1)(eh:(⟨b7,.cells #[.int .i64 i] 3 (0,0)⟩:aI)∈M1) :
  Spec Tryz.prog 165 [.string nm,ptr b1,ptr b6,ptr b7] I (kZ b6 s::M1) λv I' M'=>I'=I/\M'=kZ b6 (s.mark i k)::M1:=by
 refine b4 [] aU Tryz.func165 rfl rfl rfl ?_;intro B ao;refine aK.mk [.slice g.a g.n g.c] ⟨rfl,_,_,_,.inr ⟨_,.tail _ U,rfl,rfl⟩,rfl,rfl⟩ ?_;have aC:Spec Tryz.prog 34 [g.val,.string nm] I (kZ b6 s::M1) λv I' M'=>v=.int .i64 k/\I'=I/\M'=kZ b6 s::M1:=by refine Spec.lj (Spec.frame (Wv aA nm)) ?_;rintro v J M⟨M',rfl,-,-,rfl,rfl,rfl⟩;rw[ae];exact⟨rfl,rfl,rfl⟩
 refine a0.whole _ aC ?_;rintro v J N -⟨rfl,bZ,eG⟩;subst J;subst N;refine aJ.mk (λ_=>?_) (λh=>?_)
 rotate_left
 ·have:¬ (0:Int)<=(k:Int):=cx h;omega
 refine c4.draw aU rfl rfl rfl ?_;refine aK.mk [.int .i64 i] ⟨rfl,_,_,_,.inr ⟨_,.tail _ eh,rfl,rfl⟩,rfl,rfl⟩ ?_;refine ez.mk i rfl hi ?_;refine aK.mk _ (aoE (.head _) hi) ?_;refine sG.mk k rfl ?_;refine bc.mk _ (S9 aoI) ?_;refine ez.mk i rfl hi ?_;refine cz.aoG [] M1 s.cells _ rfl ?_ rfl (s.mark i k).cells ?_ ?_
 ·rw[eb.de];show 0+1+i*1+1<=66;omega
 ·show bK s.cells (0+1+i*1) [Value.int .u64 (FK (s.m.getD i 0).toNat (lR k).toNat)]=_;rw[M5];exact aoF ar hi
 exact⟨_,_,.refl,rfl,rfl⟩
section
end
def acC(nm:ByteArray):∀ (ds:List bI) (i:Nat),yX nm ds i=bif decide (df nm ds i<0)then none else some (df nm ds i)
 |[],i=>rfl
 |d::ds,i=>by
  unfold yX df;rw[show decide (nm=d.name)=decide (d.name=nm) by rw[pQ];simp[eq_comm]];cases decide (d.name=nm)with
  |true=>rw[bh,bh,c0 (by omega)];rfl| false=>rw[bf,bf];exact acC nm ds (i+1)
def aoJ(nm:ByteArray)(ds:List bI):eB nm (bE ds)=bif decide (df nm ds 0<0)then none else some (df nm ds 0):=by rw[PK,acC]
def aoK{t:ByteArray}(h:0<t.size):MB t=⟨IV t[0],false⟩:=by
 unfold MB;have ao:0<t.data.toList.length:=by rw[yr];exact h
 have e:t.data.toList.take 1=[t[0]]:=by rw[ho ao,nH,kN,Array.getElem_toList];rfl
 rw[e];simp[aaW,cB.zero_or]
def M7{ds:List bI}(h:(eB nm (bE ds)).isSome=true):∃ q:Nat,df nm ds 0=q/\q<ds.length/\((eB nm (bE ds)).getD 0).toNat=q:=by
 have qI:=aoJ nm ds;cases ag:decide (df nm ds 0<0)with
 |true=>rw[ag,bh]at qI;rw[qI]at h;cases h| false=>rw[ag,bf]at qI;have aP:¬ df nm ds 0<0:=cx ag;obtain⟨q,ay⟩:=g' (by omega:0<=df nm ds 0);have acD:=qI;rw[PK]at acD;obtain⟨j,qO,m4⟩:=PL acD;refine⟨q,ay,by omega,?_⟩;rw[qI,ay];rfl
def eb.marks(s:eb)(i:Nat)(l:List Nat):eb:=l.foldl (λs k=>s.mark i k) s
def eb.acE(s:eb)(i:Nat)(l m:List Nat):s.marks i (l++m)=(s.marks i l).marks i m:=En
def eb.FN:∀ (l:List Nat) (s:eb) (i:Nat),(s.marks i l).m.length=s.m.length
 |[],s,i=>rfl| k::l,s,i=>by have:=eb.FN l (s.mark i k) i;unfold eb.marks at this |-;rw[pP,this];simp[eb.mark]
def Te(b1 b6 b7:Nat):Value:=.func (.func 165) #[] #[ptr b1,ptr b6,ptr b7]
def acF{I:aR}{g:dn}(aA:g.ok I)(mg:g.n<=64){t:bN}(av:t.ok I)(j7:Du t)(ai:right t=true)(ee:tb (bE g.ds) t.ns=true){F:List aY}{M1:List aI}{b1 b6 b7 i:Nat}(hi:i<64)(U:(⟨b1,.cells #[.slice g.a g.n g.c] 24 (0,0)⟩:aI)∈M1)(eh:(⟨b7,.cells #[.int .i64 i] 3 (0,0)⟩:aI)∈M1){xa:Option Addr}{xc:Nat}(ab:nY I M1 xa t.n (eg (bE g.ds) F t.ns [])) : ∀ (m j:Nat),j<m->∀ (aj:j<t.ns.length) (s:eb) (ar:s.m.length=64),Spec Tryz.prog 164 [t.val,.slice xa t.n xc,.int .i64 j,Te b1 b6 b7] I (kZ b6 s::M1) λv I' M'=>I'=I/\M'=kZ b6 (s.marks i (gG (bE g.ds) F t.ns j).2)::M1
 |0,j,h,_,_,_=>absurd h (xD _)
 |m+1,j,att,aj,s,ar=>by
  have a7:=acF (b6:=b6) (xc:=xc) aA mg av j7 ai ee hi U eh ab m;have k':=av.n;have gB:=aA.n;have eE:=cC aj;have ag:=av.ns _ eE;have cY:=ag.kn;have Tf:=j7 _ eE;have g9:=Ec ai aj;have FO:=Mx ag.k.1 g9;have iY:=mz ai j aj;have sL:=gh.1 ee _ eE;have bn:=MZ (pl:=bE g.ds) (F:=F) ai aj;have hc:=Hx (bE g.ds) F t.ns [];simp only[ih,dz]at hc;obtain⟨ad,bP,bu⟩:=av.bg.row aM.de (show j<t.n by omega) aj;have nS:(gG (bE g.ds) F t.ns j).2=mf (bE g.ds) t.ns[j] (t.ns[j].ax.map (gG (bE g.ds) F t.ns)):=by rw[bn];rfl
  rw[nS];clear bn nS;have xZ:∀ q (h:q<t.ns[j].ax.length),∃ k:Nat,t.ns[j].ax[q]=k/\k<j:=λq h=>by have:=iY _ (cC h);exact⟨t.ns[j].ax[q].toNat,by omega,by omega⟩
  generalize t.ns[j]=d at *;refine b4 [] aU Tryz.func164 rfl rfl rfl ?_;intro B ao;refine bk.mk ad j bP rfl (by omega) ?_;refine aK.mk _ (bu _) ?_;refine aJ.mk (λe=>?_) (λbo=>?_);·have e:d.k=3:=bS e;obtain⟨q,yW,jH,Dv⟩:=M7 (nm:=d.t) (ds:=g.ds) (by simpa[e]using sL);refine a0.whole _ (aoH aA yW (by omega) hi ar U eh) ?_;rintro v J N -⟨bZ,eG⟩;subst J;subst N;refine⟨_,_,.refl,rfl,?_⟩;rw[mf,fr e,bh,Dv];rfl
  have bo:¬ d.k=3:=cx bo;refine aJ.mk (λe=>?_) (λdw=>?_)
  ·have e:d.k=4:=bS e;have th:mf (bE g.ds) d (d.ax.map (gG (bE g.ds) F t.ns))=tE (d.ax.map (gG (bE g.ds) F t.ns)):=by rw[mf,c0 bo,fr e];rfl
   rw[th];refine dG.inv (ι:=Nat×eb) (λx=>{ bx:=[(1,.val (.slice xa t.n xc)),(3,.val (Te b1 b6 b7)),(4,.ref 4 0),(42,.val (.slice d.iW d.kn d.iz)),(43,.val (.int .i64 d.kn)),(44,.val (.int .i64 x.1))],cl:=[(4,t.cells)],c2:=I,du:=kZ b6 x.2::M1 }) (λx=>x.1<=d.kn/\x.2.m.length=64/\s.marks i (tE (d.ax.map (gG (bE g.ds) F t.ns)))=x.2.marks i (tE ((d.ax.drop x.1).map (gG (bE g.ds) F t.ns)))) (λx=>d.kn-x.1) ?_ ?_;·exact⟨(0,s),⟨bw _,ar,rfl⟩,.refl,km,.cons rfl (.nil)⟩
   rintro⟨q,ct⟩⟨ay,sI,kR⟩;simp only at ay sI kR;refine aJ.mk (λh=>?_) (λh=>?_)
   rotate_left
   ·have cm:d.ax.length<=q:=by have:¬ (q:Int)<(d.kn:Int):=cx h;omega
    rw[tB cm]at kR;refine⟨_,_,.refl,rfl,?_⟩;rw[kR];rfl
   have aS:q<d.kn:=by have:(q:Int)<(d.kn:Int):=bS h;omega
   have b':q<d.ax.length:=by omega
   obtain⟨eK,fG,e0⟩:=ag.bg.one aS b';obtain⟨k,ae,CI⟩:=xZ q b';rw[ae]at e0;have wB:k<(eg (bE g.ds) F t.ns []).length:=by omega
   obtain⟨Tb,Tc,Td⟩:=ab.rd k wB;have oS:(d.ax.drop q).map (gG (bE g.ds) F t.ns)=gG (bE g.ds) F t.ns k::(d.ax.drop (q+1)).map (gG (bE g.ds) F t.ns):=by rw[e8 b',dv,ae]
   have ld:(gG (bE g.ds) F t.ns k).1=(eg (bE g.ds) F t.ns [])[k]:=by rw[M2];simp[cS,wB]
   rw[oS,tE,ld,eb.acE]at kR;refine bk.mk eK q fG rfl aS ?_;refine aK.mk _ (e0 _) ?_;refine a0.whole _ (a7 k (by omega) (by omega) ct sI) ?_;rintro v J N -⟨bZ,eG⟩;subst J;subst N;refine bk.mk Tb k Tc rfl (by omega) ?_;refine aK.mk _ ((Td.sub λx ab=>.tail _ ab).part (k:=0) (m:=1) (by decide)) ?_;refine aJ.mk (λa9=>?_) (λa9=>?_)
   ·have h4:(eg (bE g.ds) F t.ns [])[k].z=false:=by simpa using a9
    rw[h4]at kR;refine⟨_,_,.refl,rfl,?_⟩;rw[kR];rfl
   ·have h4:(eg (bE g.ds) F t.ns [])[k].z=true:=by simpa using a9
    rw[h4]at kR;refine bc.mk _ (cF (i:=q) (by omega)) ?_;exact⟨(q+1,ct.marks i (gG (bE g.ds) F t.ns k).2),⟨⟨aS,by rw[eb.FN];exact sI,kR⟩,by simp only;omega⟩,.refl,km,.cons rfl (.nil)⟩
  have dw:¬ d.k=4:=cx dw;refine aJ.mk (λe=>?_) (λgM=>?_)
  ·have e:d.k=6:=bS e;have aoL:=FO.one (by omega);have cZ:0<d.ax.length:=by omega
   refine aJ.mk (λbl=>?_) (λbl=>?_)
   ·have By:decide (d.hi=0)=false:=by have Bx:(!decide (d.hi=0))=true:=bl;simpa using Bx
    obtain⟨eK,fG,e0⟩:=ag.bg.one (j:=0) (by omega) cZ;obtain⟨k,ae,CI⟩:=xZ 0 cZ;rw[ae]at e0;have th:mf (bE g.ds) d (d.ax.map (gG (bE g.ds) F t.ns))=(gG (bE g.ds) F t.ns k).2:=by
     have gq:d.ax=[(k:Int)]:=by
      match ab:d.ax,cZ,aoL,ae with
      |[a],_,_,ae=>simp only[vt]at ae;rw[ae]| _::_::_,_,h,_=>simp at h;omega
     rw[mf,c0 bo,c0 dw,By,gq];simp
    rw[th];refine c4.draw aU rfl rfl rfl ?_;refine bk.mk eK 0 fG rfl (by omega) ?_;refine aK.mk _ (e0 _) ?_;refine a0.whole _ (a7 k (by omega) (by omega) s ar) ?_;rintro v J N -⟨bZ,eG⟩;subst J;subst N;exact⟨_,_,.refl,rfl,rfl⟩
   ·have By:decide (d.hi=0)=true:=by have Bx:(!decide (d.hi=0))=false:=bl;simpa using Bx
    have th:mf (bE g.ds) d (d.ax.map (gG (bE g.ds) F t.ns))=[]:=by rw[mf,c0 bo,c0 dw,fr e,By];rfl
    rw[th];exact⟨_,_,.refl,rfl,rfl⟩
  have gM:¬ d.k=6:=cx gM;have th:mf (bE g.ds) d (d.ax.map (gG (bE g.ds) F t.ns))=(d.ax.map (gG (bE g.ds) F t.ns)).flatMap (·.2):=by rw[mf,c0 bo,c0 dw,c0 gM];rfl
  rw[th];refine dG.inv (ι:=Nat×eb) (λx=>{ bx:=[(1,.val (.slice xa t.n xc)),(3,.val (Te b1 b6 b7)),(4,.ref 4 0),(21,.val (.slice d.iW d.kn d.iz)),(22,.val (.int .i64 d.kn)),(23,.val (.int .i64 x.1))],cl:=[(4,t.cells)],c2:=I,du:=kZ b6 x.2::M1 }) (λx=>x.1<=d.kn/\x.2.m.length=64/\s.marks i ((d.ax.map (gG (bE g.ds) F t.ns)).flatMap (·.2))=x.2.marks i (((d.ax.drop x.1).map (gG (bE g.ds) F t.ns)).flatMap (·.2))) (λx=>d.kn-x.1) ?_ ?_;·exact⟨(0,s),⟨bw _,ar,rfl⟩,.refl,km,.cons rfl (.nil)⟩
  rintro⟨q,ct⟩⟨ay,sI,kR⟩;simp only at ay sI kR;refine aJ.mk (λh=>?_) (λh=>?_)
  rotate_left
  ·have cm:d.ax.length<=q:=by have:¬ (q:Int)<(d.kn:Int):=cx h;omega
   rw[tB cm]at kR;refine⟨_,_,.refl,rfl,?_⟩;rw[kR];rfl
  have aS:q<d.kn:=by have:(q:Int)<(d.kn:Int):=bS h;omega
  have b':q<d.ax.length:=by omega
  obtain⟨eK,fG,e0⟩:=ag.bg.one aS b';obtain⟨k,ae,CI⟩:=xZ q b';rw[ae]at e0;rw[e8 b',dv,ae,nG,eb.acE]at kR;refine bk.mk eK q fG rfl aS ?_;refine aK.mk _ (e0 _) ?_;refine a0.whole _ (a7 k (by omega) (by omega) ct sI) ?_;rintro v J N -⟨bZ,eG⟩;subst J;subst N;refine bc.mk _ (cF (i:=q) (by omega)) ?_;exact⟨(q+1,ct.marks i (gG (bE g.ds) F t.ns k).2),⟨⟨aS,by rw[eb.FN];exact sI,kR⟩,by simp only;omega⟩,.refl,km,.cons rfl (.nil)⟩
def eI.zq(h:eI I M w)(aD:M.Perm N):eI I N w:=
 ⟨h.i,λx ab=>h.m x (aD.mem_iff.2 ab),λx ab=>h.d x (aD.mem_iff.2 ab),((aD.map (·.num)).nodup_iff).1 h.cd⟩
def Kept.zq{x0:List aI}(h:Kept I M w I' M' w')(aD:M.Perm N)(qe:M'.Perm x0):Kept I N w I' x0 w':=
 ⟨h.le,h.vk,λx ab=>by
  rcases h.wH x (qe.mem_iff.2 ab)with⟨y,aH,e⟩ | U;·exact .inl ⟨y,aD.mem_iff.1 aH,e⟩
  ·exact .inr U,λb ah aH=>h.dg b ah λy wL=>aH y (aD.mem_iff.1 wL),h.out,h.sz⟩
def Spec.zq{args:List Value}(aD:M.Perm N)(ay:∀ v I' M',p v I' M'->∃ x0,M'.Perm x0/\q v I' x0)(h:Spec P f args I M p):Spec P f args I N q:=by
 rcases h with⟨U,aa⟩ | aa
 ·refine .inl ⟨U,λw hw=>(aa w (hw.zq aD.symm)).mono ?_⟩;rintro e w'⟨v,I',M',af,aP,bq,bj⟩;obtain⟨x0,eh,gF⟩:=ay _ _ _ aP;exact⟨v,I',x0,af,gF,bq.zq eh,bj.zq aD eh⟩
 ·refine .inr λw hw=>?_;obtain⟨v,w',I',M',af,aP,bq,bj⟩:=aa w (hw.zq aD.symm);obtain⟨x0,eh,gF⟩:=ay _ _ _ aP;exact⟨v,w',I',x0,af,gF,bq.zq eh,bj.zq aD eh⟩
def eb.loop(s:eb)(i:Nat):eb:=⟨s.n,s.m,s.w ||| lR i⟩
def rm(pl:List (ByteArray×Int))(F:List aY)(s:eb)(i:Nat)(d:bI):eb:=
 bif oZ d.t.ns (eg pl F d.t.ns [])then(s.marks i (gG pl F d.t.ns d.t.bF).2).loop i else s.marks i (gG pl F d.t.ns d.t.bF).2
def k0(n:Nat):eb:=⟨n,List.replicate 64 0,0⟩
def ka(pl:List (ByteArray×Int))(F:List aY):Nat->List bI->eb->eb
 |_,[],s=>s| i,d::ds,s=>ka pl F (i+1) ds (rm pl F s i d)
def rn(ds:List bI)(F:List aY):eb:=ka (bE ds) F 0 ds (k0 ds.length)
def acG(pl:List (ByteArray×Int))(F:List aY)(s:eb)(i:Nat)(d:bI):(rm pl F s i d).m.length=s.m.length:=by
 unfold rm;cases oZ d.t.ns (eg pl F d.t.ns [])with
 |true=>exact eb.FN _ s i| false=>exact eb.FN _ s i
def acH(pl:List (ByteArray×Int))(F:List aY):∀ (l:List bI) (i:Nat) (s:eb) (d:bI),ka pl F i (l++[d]) s=rm pl F (ka pl F i l s) (i+l.length) d
 |[],i,s,d=>rfl| a::l,i,s,d=>by rw[rU,ka,ka,acH pl F l];congr 1;simp;omega
def Tg(pl:List (ByteArray×Int))(F:List aY):∀ (l:List bI) (i:Nat) (s:eb),(ka pl F i l s).m.length=s.m.length
 |[],i,s=>rfl| d::l,i,s=>by rw[ka,Tg pl F l,acG]
def acI{s:eb}(a2:kZ b s∈M):cq I M ((⟨b,0,none⟩:Addr).add 65) 1 [pH s.w]:=by rw[eo _ rfl];refine⟨rfl,_,_,_,.inr ⟨_,a2,rfl,rfl⟩,?_,rfl⟩;show(s.cells.drop (0+65)).take 1=_;rw[eb.cells,dz,H4,GV (u9 _)];rfl
def aoM(s:eb)(i:Nat):bK s.cells (0+65) [pH (s.w ||| lR i)]=(s.loop i).cells:=by unfold eb.cells eb.loop bK;simp only[dz,eQ,ih];rw[pU,rV (u9 _),H4,tB (by simp[u9])];simp
def M8{s:eb}(a2:kZ b s∈M):cq I M (⟨b,0,none⟩:Addr) 66 s.cells:=
 ⟨rfl,_,_,_,.inr ⟨_,a2,rfl,rfl⟩,by simp only[sQ];exact fq (show s.cells.length<=66 by rw[eb.de];exact bY _),eb.de s⟩
def aoN{a1:List Int}(bM:hU I a1){g:dn}(aA:g.ok I)(j7:∀ d∈g.ds,Du d.t)(mg:gk a1 g=0->g.n<=64):Spec Tryz.prog 106 [g.val] I [] λv I' M'=>(∀ b o,I b=some o->I' b=some o)/\M'=[] /\
  ((gk a1 g≠0/\v=.tuple #[(k0 0).val,.int .i64 (gk a1 g)])\/(gk a1 g=0/\∃ F,qY g.ds F/\v=.tuple #[(rn g.ds F).val,.int .i64 0])):=by
 refine b4 [1,2,6,7] aU Tryz.func106 rfl rfl rfl ?_;intro B ao;have gB:=aA.n;have ig:=aA.bg.cap;refine cv.mk λb1 oA PO=>?_;refine cv.mk λcb hL Wy=>?_;refine aK.mk [.slice g.a g.n g.c] (ew (cs:=[.slice g.a g.n g.c]) (k:=0) (n:=1) (.tail _ (.head _)) (by simp)) ?_;refine a0.mk [] [kZ cb (k0 0),⟨b1,.cells #[.slice g.a g.n g.c] 24 (0,0)⟩] _ (.refl _) (ah2 bM aA) ?_;rintro v dO N -⟨dd,⟨hm,rfl,rfl⟩|⟨hm,od,F,rfl,rfl,bB⟩⟩
 ·refine aJ.mk (λ_=>?_) (λh=>absurd h (by simp[hm]));refine cz.to [] _ _ _ rfl rfl rfl rfl (k0 0).cells rfl ?_;refine aK.mk _ (M8 (.head _)) ?_;exact⟨_,_,.sub (fw _) .refl,dd,rfl,.inl ⟨hm,rfl⟩⟩
 refine aJ.mk (λh=>absurd h (by simp)) (λ_=>?_);have a2:=Lk gB hm;have acJ:F.length=g.n:=by rw[bB.len,gB]
 have aoO:=mg hm;refine aK.mk [.slice g.a g.n g.c] (ew (cs:=[.slice g.a g.n g.c]) (k:=0) (n:=1) (.tail _ (.tail _ (.head _))) (by simp)) ?_;refine cv.mk λb6 KL Wn=>?_;refine cz.to [] _ _ _ rfl rfl rfl rfl (k0 g.n).cells rfl ?_;refine aK.mk [.slice g.a g.n g.c] (ew (cs:=[.slice g.a g.n g.c]) (k:=0) (n:=1) (.tail _ (.tail _ (.tail _ (.head _)))) (by simp)) ?_;refine dG.inv (ι:=Nat×aR) (λx=>{ bx:=[(1,.val (ptr b1)),(2,.val (ptr cb)),(4,.val (.slice (some ⟨od,0,none⟩) g.n g.n)),(6,.val (ptr b6)),(25,.val (.slice g.a g.n g.c)),(26,.val (.int .i64 g.n)),(27,.val (.int .i64 x.1))],cl:=[],c2:=x.2,du:=[kZ b6 (ka (bE g.ds) F 0 (g.ds.take x.1) (k0 g.n)),fR od F,kZ cb (k0 0),⟨b1,.cells #[.slice g.a g.n g.c] 24 (0,0)⟩] }) (λx=>x.1<=g.n/\∀ b o,I b=some o->x.2 b=some o) (λx=>g.n-x.1) ?_ ?_
 ·exact⟨(0,dO),⟨bw _,dd⟩,.refl,ko,.nil⟩
 rintro⟨i,J⟩⟨hi,bZ⟩;simp only at hi bZ;refine aJ.mk (λh=>?_) (λh=>?_)
 rotate_left
 ·have cm:i=g.n:=by have:¬ (i:Int)<(g.n:Int):=cx h;omega
  refine aK.mk _ (M8 (.head _)) ?_;refine cz.to [kZ b6 (ka (bE g.ds) F 0 (g.ds.take i) (k0 g.n)),fR od F] _ _ _ rfl rfl rfl rfl (ka (bE g.ds) F 0 (g.ds.take i) (k0 g.n)).cells ?_ ?_;·rfl
  refine aK.mk _ (M8 (.tail _ (.tail _ (.head _)))) ?_;refine⟨_,_,.sub (fw _) .refl,bZ,rfl,.inr ⟨hm,F,bB,?_⟩⟩;rw[cm,fq (l:=g.ds) (by omega),rn,gB];rfl
 have aS:i<g.n:=by have:(i:Int)<(g.n:Int):=bS h;omega
 have b':i<g.ds.length:=by omega
 have wh:=aA.mono bZ;have Ji:=bM.mono bZ;obtain⟨ad,bP,bu⟩:=wh.bg.row bI.de aS b';have eE:=cC b';have ag:=wh.ds _ eE;have ai:=a2.right _ eE;have ee:=a2.named _ eE;have Tf:=j7 _ eE;have mK:ka (bE g.ds) F 0 (g.ds.take (i+1)) (k0 g.n)=rm (bE g.ds) F (ka (bE g.ds) F 0 (g.ds.take i) (k0 g.n)) i g.ds[i]:=by rw[ho b',acH,Lp (by omega),dz]
 have jZ:(ka (bE g.ds) F 0 (g.ds.take i) (k0 g.n)).m.length=64:=by rw[Tg];rfl
 generalize g.ds[i]=d at bu ag ai ee Tf mK;refine bk.mk ad i bP rfl aS ?_;refine aK.mk _ (bu _) ?_;refine cv.mk λb7 Lm PN=>?_;refine cz.to [] _ _ _ rfl rfl rfl rfl [.int .i64 i] rfl ?_;refine aK.mk [.slice g.a g.n g.c] (ew (cs:=[.slice g.a g.n g.c]) (k:=0) (n:=1) (.tail _ (.tail _ (.tail _ (.tail _ (.head _))))) (by simp)) ?_;generalize atu:ka (bE g.ds) F 0 (g.ds.take i) (k0 g.n)=s at jZ mK |-;have da:∀ {M:List aI},fR od F∈M->nY J M (some ⟨od,0,none⟩) g.n F:=λCC=>by have:=Lj (I:=J) CC;rwa [acJ]at this
 have acK:Am g F d.t=some (eg (bE g.ds) F d.t.ns []):=by rw[Am,ai,ee,fr acJ];rfl
 refine a0.whole _ (ahW (lc:=g.n) Ji wh ag.t (da (.tail _ (.tail _ (.head _))))) ?_;rintro v nx ey -⟨sw,⟨aw,-,-⟩|⟨r,cw,aw,rfl,rfl⟩⟩
 ·rw[acK]at aw;cases aw
 rw[acK]at aw;obtain rfl:=j0 aw;refine b2.mk (λh=>?_) (λh=>?_)
 rotate_left
 ·cases h
 refine aJ.mk (λh=>absurd h (by simp)) (λ_=>?_);have ha:=yC ai;have AM:=acF (b1:=b1) (b6:=b6) (b7:=b7) (i:=i) (xa:=some ⟨cw,0,none⟩) (xc:=d.t.n) (F:=F) (wh.mono sw) aoO (ag.t.mono sw) Tf ai ee (by omega) (M1:=[fR cw (eg (bE g.ds) F d.t.ns []),⟨b7,.cells #[.int .i64 i] 3 (0,0)⟩,fR od F,kZ cb (k0 0),⟨b1,.cells #[.slice g.a g.n g.c] 24 (0,0)⟩]) (.tail _ (.tail _ (.tail _ (.tail _ (.head _))))) (.tail _ (.head _)) (by
  have:=Lj (I:=nx) (M:=[fR cw (eg (bE g.ds) F d.t.ns []),⟨b7,.cells #[.int .i64 i] 3 (0,0)⟩,fR od F,kZ cb (k0 0),⟨b1,.cells #[.slice g.a g.n g.c] 24 (0,0)⟩]) (b:=cw) (l:=eg (bE g.ds) F d.t.ns []) (.head _);rw[Hx,ag.t.n]at this;simpa using this) d.t.ns.length d.t.bF.toNat (by omega) (by omega) s jZ
 rw[zV ha.1]at AM;have aoP:=Spec.zq (q:=λv I' M'=>I'=nx/\M'=kZ b6 (s.marks i (gG (bE g.ds) F d.t.ns d.t.bF.toNat).2)::[fR cw (eg (bE g.ds) F d.t.ns []),⟨b7,.cells #[.int .i64 i] 3 (0,0)⟩,fR od F,kZ cb (k0 0),⟨b1,.cells #[.slice g.a g.n g.c] 24 (0,0)⟩]) (qd (a:=kZ b6 s) (l₁:=[fR cw (eg (bE g.ds) F d.t.ns []),⟨b7,.cells #[.int .i64 i] 3 (0,0)⟩]) (l₂:=[fR od F,kZ cb (k0 0),⟨b1,.cells #[.slice g.a g.n g.c] 24 (0,0)⟩])).symm (λv I' M' h=>⟨M',.refl _,h⟩) AM;refine a0.whole _ aoP ?_;rintro v iG N -⟨e7,eG⟩;subst iG;subst N;generalize gj:s.marks i (gG (bE g.ds) F d.t.ns d.t.bF.toNat).2=s1 at *;have atv:s1.m.length=64:=by rw[<-gj,eb.FN,jZ]
 refine a0.whole _ (aoD (xs:=eg (bE g.ds) F d.t.ns []) (ag.t.mono sw) ai ?_) ?_
 ·have:=Lj (I:=nx) (M:=kZ b6 s1::[fR cw (eg (bE g.ds) F d.t.ns []),⟨b7,.cells #[.int .i64 i] 3 (0,0)⟩,fR od F,kZ cb (k0 0),⟨b1,.cells #[.slice g.a g.n g.c] 24 (0,0)⟩]) (b:=cw) (l:=eg (bE g.ds) F d.t.ns []) (.tail _ (.head _));rw[Hx,ag.t.n]at this;simpa using this
 rintro v iG N -⟨ak,e7,eG⟩;subst iG;subst N;subst v;have dT:(kZ b6 (rm (bE g.ds) F s i d))=(kZ b6 (bif oZ d.t.ns (eg (bE g.ds) F d.t.ns [])then s1.loop i else s1)):=by rw[rm,<-gj];rfl
 refine aJ.mk (λhe=>?_) (λhe=>?_)
 rotate_left
 ·have tX:oZ d.t.ns (eg (bE g.ds) F d.t.ns [])=false:=he;refine bc.mk _ (cF (i:=i) (by omega)) ?_;refine⟨(i+1,nx),⟨⟨aS,λb o h=>sw _ _ (bZ _ _ h)⟩,by simp only;omega⟩,.sub (.cons_cons _ (.cons _ (.cons _ (.refl _)))) (.pz ?_),ko,.nil⟩;simp only;rw[mK,dT,tX];rfl
 have tX:oZ d.t.ns (eg (bE g.ds) F d.t.ns [])=true:=he;refine c4.draw aU rfl rfl rfl ?_;refine aK.mk _ (acI (.head _)) ?_;refine aK.mk [.int .i64 i] (ew (cs:=[.int .i64 i]) (k:=0) (n:=1) (.tail _ (.tail _ (.head _))) (by simp)) ?_;refine sG.mk i rfl ?_;refine bc.mk _ (S9 (by omega)) ?_;refine cz.jl [] _ s1.cells _ rfl ?_ rfl (s1.loop i).cells ?_ ?_
 ·rw[eb.de];rfl
 ·show bK s1.cells (0+65) [Value.int .u64 (FK s1.w.toNat (lR i).toNat)]=_;rw[M5];exact aoM s1 i
 refine bc.mk _ (cF (i:=i) (by omega)) ?_;refine⟨(i+1,nx),⟨⟨aS,λb o h=>sw _ _ (bZ _ _ h)⟩,by simp only;omega⟩,.sub (.cons_cons _ (.cons _ (.cons _ (.refl _)))) (.pz ?_),ko,.nil⟩;simp only;rw[mK,dT,tX];rfl
end Go.V
