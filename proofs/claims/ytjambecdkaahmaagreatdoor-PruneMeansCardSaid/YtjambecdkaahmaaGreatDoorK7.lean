/- Part 7 of what the proofs of this seat share: the executor, data in memory, walks.
-/
import Derived.Test.YtjambecdkaahmaaGreatDoorK6
import Derived.Test.YtjambecdkaahmaaGreatDoorK2
import Derived.Test.YtjambecdkaahmaaGreatDoorK3
import Derived.Test.YtjambecdkaahmaaGreatDoorK5
import Derived.Test.YtjambecdkaahmaaGreatDoorK4
set_option linter.all false
set_option maxHeartbeats 8000000
set_option maxRecDepth 100000
namespace Go.V
open Go
def qC:=@List.drop_of_length_le
def wy:=@Nat.not_lt_zero
def BG:=@BitVec.getLsbD_or
def Hq:=@List.filter_append
def K7:=@List.any_eq_true
variable{D bx D0:bH}{n b e f g n0:Nat}{ops:List Oper}{F:List a2}{β:Nat->Nat}{R α:Type}{cH:Fr}{X:c3}{Q:Exit->Act->World->Prop}{p q:Value->aZ->List aB->Prop}{a:Act}{Y:gz}{I dM I':aZ}{M M0 M' N:List aB}{row:List (Nat×Nat)}{E:Env}{x:Operand}{P:Program}{args:List ao}{us:List Value}{ex:tT}{w w':World}{ps:List Nat}{fc body:Code}{iG:Loc}{G:GT}{pr:ly}{arr:Array Value}{t:cB}{ds:List aQ}{nm:ByteArray}{pl:List (ByteArray×Int)}{ax:List Int}{os:a'}
def k'(X:c3)(G:GT)(pr:ly)(D0:bH)(n0:Nat)(al:bg ao)(m:bm)(a:Act)(w:World):Prop:=
 ∃ D F C I M,Rel X a w F C I M/\qA D F al/\dc (dP X G pr) D m I M/\D0.ext D n0/\n0<=m.n
section
variable{X:c3}{G:GT}{pr:ly}{D0:bH}{n0:Nat}{m m':bm}{al da:bg ao}{a:Act}{w:World}
def bH.Zo{Hf:bH}{eO:Nat}(h:D.ext bx n)(aX:bx.ext Hf eO)(aq:n<=eO):D.ext Hf n:=λi hi=>by rw[aX i (by omega),h i hi]
def ak2{ops:Array Oper}{o:Oper}{b:Bool}{F:Fr}(h:uL ops.toList o al=some b)(bU:∀ t,eF β (F t) (a.tmps.getD t undef))(w3:qA D F al):Region.wanted o (yielded ops a.tmps)=b:=by
 unfold uL at h;split at h
 ·rename_i au;cases h;simp[Region.wanted,au]
 ·rename_i j c au;split at h
  ·cases h
  ·rename_i d an;have hW:(ops[j]?).bind (·.dst)=some d:=by rw[zG]at an;simpa using an
   have aF:=E0 hW a.tmps;split at h
   ·rename_i q aM;cases h;have ap:=w3 _ _ aM;have aj:a.tmps.getD d undef=.bool q:=by
     have aa:=bU d;rcases ap with⟨u,e,hu⟩ | ⟨fa,bq,e⟩;·rw[e]at aa;rw[aa,hu.bool]
     ·cases bq;rw[e]at aa;exact aa
    simp[Region.wanted,au,aF,Cq aj]
   ·rename_i l aM;cases h;have ap:=w3 _ _ aM;obtain⟨u,e,hu⟩:=ap.wo (by simp);obtain⟨vs,_,rfl⟩:=hu.Qe;have aa:=bU d;rw[e]at aa;have Aq:yielded ops a.tmps j=none:=by
     rw[aF];cases lI:a.tmps[d]? with
     |none=>rfl| some v=>simp only[eF,oV,lI,jS]at aa;subst aa;rfl
    simp[Region.wanted,au,Aq]
   ·cases h
def Zp{o:Oper}{K:bg ao->Option R}{r:R}(h:Bw o al K=some r):∃ da,K da=some r/\(o.dst=none->da=al)/\∀ d,o.dst=some d->∀ t w,da.get t=some w->(t=d/\w=.t [])\/(t≠d/\al.get t=some w):=by
 unfold Bw at h;cases ah:o.dst with
 |none=>rw[ah]at h;exact⟨al,h,λ_=>rfl,λd e=>by cases e⟩
 |some d=>
  rw[ah]at h;obtain⟨da,aa,ab⟩:=bg.oI (some (ao.t [])) al d;simp only[aa]at h;refine⟨da,h,(λe=>by cases e),λA9 hd t w hw=>?_⟩;cases hd;rcases ab t w hw with⟨az,aE⟩ | ⟨az,aE⟩;·exact .inl ⟨az,(oJ aE).symm⟩
  ·exact .inr ⟨az,aE⟩
def qA.step{F:Fr}{dst:Option Nat}{v:ao}(h:qA D F al)(bs:D.le bx)(aD:uP dst v bx F cH)(aa:dst=none->da=al)(ab:∀ d,dst=some d->∀ t w,da.get t=some w->(t=d/\w=v)\/(t≠d/\al.get t=some w)):qA bx cH da:=λt u ay=>by
 cases ah:dst with
 |none=>rw[aa ah]at ay;exact aD.2 bx t u (by rw[ah];simp) ((h t u ay).mono bs)
 |some d=>
  rcases ab d ah t u ay with⟨rfl,rfl⟩ | ⟨bK,au⟩;·exact aD.1 _ ah
  ·exact aD.2 bx t u (by rw[ah];intro e;cases e;exact bK rfl) ((h t u au).mono bs)
def QD(aN:c2 X.P X.E)(jU:∀ d,d<X.n->X.gC.contains d=true){call:ao->List ao->bm->Option (ao×bm)}(mi:Hp (dP X G pr) call)(ops:Array Oper)(Q:Exit->Act->World->Prop)(tS:∀ a w,k' X G pr D0 n0 da m' a w->Q .normal a w):∀ (l:List Oper) (k:Nat),(∀ j,l[j]?=ops[k+j]?)->(∀ o∈l,∀ d,o.dst=some d->d<X.n)->∀ {al m a w},DX (dP X G pr) call ops.toList l al m=some (da,m') -> k' X G pr D0 n0 al m a w->wpOpsIn (gP X) 0 X.P ops Q (List.range' k l.length) a w
 |[],k,_,_,al,m,a,w,h,ap=>by have aX:some (al,m)=some (da,m'):=h;cases aX;exact tS _ _ ap
 |o::bb,k,av,ah,al,m,a,w,h,ap=>by
  have ar:ops[k]?=some o:=by simpa using(av 0).symm
  have kd:∀ j,bb[j]?=ops[k+1+j]?:=λj=>by have:=av (j+1);simpa[qL,Cg 1 j]using this
  have hd:∀ o∈bb,∀ d,o.dst=some d->d<X.n:=λo aw=>ah o (by simp[aw]);have yC:=ah o (by simp);have aX:bX (uL ops.toList o al) none (λw=>b5 w (zA (dP X G pr) call o al m λal m=>DX (dP X G pr) call ops.toList bb al m) (Bw o al λal=>DX (dP X G pr) call ops.toList bb al m))=some (da,m'):=h;obtain⟨b,ai,aX⟩:=ct aX;obtain⟨D,F,C,I,M,⟨β,a5⟩,bU,hm,ae,aq⟩:=ap;have hw:=ak2 ai a5.al bU;simp only[ea,Io,wpOpsIn,ar];rw[hw];cases b with
  |true=>have ab:zA (dP X G pr) call o al m (λal m=>DX (dP X G pr) call ops.toList bb al m)=some (da,m'):=aX;obtain⟨v,dH,fh,⟨wz,Hr⟩,-,ag,a3,a6⟩:=Zn aN jU yC mi ab;simp only[pU];refine sE (λbY w'=>?_) (Cp aN yC ⟨β,a5⟩ (Hr D F C I M (λcH C' I' M'=>∃ bx,D.ext bx m.n/\qA bx cH fh/\dc (dP X G pr) bx dH I' M') (bU.op _) hm λbx cH C' I' M' az aE bz=>⟨bx,az,bU.step (hm.le az) aE a3 a6,bz⟩));rintro⟨cH,C',I',M',gZ,bx,az,aE,bz⟩;exact QD aN jU mi ops Q tS bb (k+1) kd hd ag ⟨bx,cH,C',I',M',gZ,aE,bz,bH.Zo ae az aq,lg aq wz⟩
  |false=>have ab:Bw o al (λal=>DX (dP X G pr) call ops.toList bb al m)=some (da,m'):=aX;obtain⟨fh,ag,a3,a6⟩:=Zp ab;simp only[kG,lG];refine⟨λ_ _=>trivial,QD aN jU mi ops Q tS bb (k+1) kd hd ag ⟨D,put o.dst (.val undef) F,C,I,M,⟨β,a5.put (x:=.val undef) yC rfl⟩,bU.step (bH.le_refl D) (.put F (.val .undef)) a3 a6,hm,ae,aq⟩⟩
end
def ak3(aR:∀ j e,me ops j e->e<j)(J:(Nat->Prop)->Act->World->Prop)(step:∀ (L:Nat->Prop) a w q o,J L a w->As ops L->(∀ i,L i->i<ops.length)->ops[q]?=some o->¬ L q->(∀ e,me ops q e->L e) -> (Region.wanted o (yielded ops.toArray a.tmps)=true->o.wpIn (gP X) 0 X.P a w (J λj=>L j\/j=q) Q)/\(Region.wanted o (yielded ops.toArray a.tmps)=false->J (λj=>L j\/j=q) (a.put o.dst undef) w))
  (fin:∀ a w,J (λi=>i<ops.length) a w->Q .normal a w):∀ (eL:Nat) (dt:Array Bool) (a:Act) (w:World),dt.size=ops.length->todo ops dt<=eL->As ops (λi=>dt.getD i false=true) ->
   J (λi=>dt.getD i false=true) a w->wpAnyIn (gP X) 0 X.P .any ops.toArray Q eL dt a w:=by
 have e1:∀ (dt:Array Bool) (i:Nat),dt.getD i false=true->i<dt.size:=λdt i h=>by refine Cd λaq=>?_;simp[Array.getD,aq]at h
 have full:∀ (dt:Array Bool) a w,dt.size=ops.length->Region.ready .any ops.toArray dt=[]->J (λi=>dt.getD i false=true) a w->Q .normal a w:=λdt a w df n9 bM=>by
  have all:∀ i,i<ops.length->dt.getD i false=true:=λi=>by
   induction i using Nat.strongRecOn with
   |ind i a7=>
    intro hi;refine Cd λaq=>?_;have aw:ops[i]?=some ops[i]:=eb hi;have:i∈Region.ready .any ops.toArray dt:=(mem_ready df).2 ⟨_,aw,aq,λe he=>by
     have aa:=aR i e he;exact a7 e aa (by omega)⟩
    rw[n9]at this;cases this
  have e:(λi=>dt.getD i false=true)=λi=>i<ops.length:=by funext i;simp only[eq_iff_iff];exact⟨λh=>by have:=e1 dt i h;omega,all i⟩
  rw[e]at bM;exact fin a w bM
 intro eL
 induction eL with
 |zero=>
  intro dt a w df aJ eA bM;have n9:Region.ready .any ops.toArray dt=[]:=by
   cases ak:Region.ready .any ops.toArray dt with
   |nil=>rfl| cons i l=>obtain⟨o,aw,aq,_⟩:=(mem_ready df).1 (by rw[ak];simp:i∈Region.ready .any ops.toArray dt);have:=IY (hT.1 aw).1 df aq;omega
  exact⟨n9,full dt a w df n9 bM⟩
 |succ eL a7=>
  intro dt a w df aJ eA bM;refine⟨λn9=>full dt a w df n9 bM,λq aM=>?_⟩;obtain⟨o,aw,aq,ah⟩:=(mem_ready df).1 aM;have bZ:=(hT.1 aw).1;have gU:=TH (dt:=dt) (i:=q) (by omega);have next:∀ bY w',J (λj=>dt.getD j false=true\/j=q) bY w'->wpAnyIn (gP X) 0 X.P .any ops.toArray Q eL (dt.setIfInBounds q true) bY w':=λbY w' h=>by
   refine a7 _ bY w' (by simpa using df) ?_ ?_ (by rw[gU];exact h);·have:=IY bZ df aq;omega
   ·rw[gU];rintro j e (an | rfl) he
    ·exact .inl (eA j e an he)
    ·exact .inl (ah e he)
  obtain⟨s1,s2⟩:=step _ a w q o bM eA (λi hi=>by have:=e1 dt i hi;omega) aw aq ah;have Fg:ops.toArray[q]?=some o:=by simpa using aw
  unfold wpOpIn;simp only[Fg];cases hw:Region.wanted o (yielded ops.toArray a.tmps)with
  |true=>
   simp only[pU];exact sE next (s1 hw)
  |false=>simp only[kG,lG];exact⟨λ_ _=>trivial,next _ _ (s2 hw)⟩
def Zq{S:List bm}{lo hi j:Nat}{p:bm->Bool}{m:bm}(h:D1 S lo hi p=true)(aa:lo<=j)(ab:j<=hi)(an:S[j]?=some m):p m=true:=by unfold D1 at h;refine eP.1 h m ?_;refine wV (i:=j-lo) ?_;rw[j9,cn (by omega),nZ,show lo+(j-lo)=j by omega];exact an
def filter_le{p:α->Bool}{j:Nat}:∀ {l:List α},(∀ q e,l[q]?=some e->p e=true->q<j)->(l.filter p).length<=j:=by
 intro l h;have az:l.filter p=(l.take j).filter p:=by
  conv=>lhs;rw[<-sV j l]
  rw[Hq];have:(l.drop j).filter p=[]:=by rw[List.filter_eq_nil_iff];intro a aC aD;obtain⟨q,aM⟩:=Ky aC;rw[nZ]at aM;have:=h _ _ aM aD;omega
  rw[this,eh]
 rw[az];refine lg (EQ _ _) ?_;simp;omega
def le_filter{p:α->Bool}{j:Nat}{l:List α}(an:j<=l.length)(h:∀ q e,q<j->l[q]?=some e->p e=true):j<=(l.filter p).length:=by
 have az:(l.take j).filter p=l.take j:=by
  rw[List.filter_eq_self];intro a aC;obtain⟨q,aM⟩:=Ky aC;rw[j9]at aM;split at aM;·exact h q a (by assumption) aM
  ·cases aM
 have aE:l.filter p=(l.take j).filter p++(l.drop j).filter p:=by
  conv=>lhs;rw[<-sV j l]
  rw[Hq]
 rw[aE,az,cI,hh];omega
mutual
def Zr{D:bH}:∀ {x y:ao} {u:Value},DZ x y=true->aT D x u->aT D y u
 |x,y,u,h,ae=>by
  cases x<;>cases y<;>simp only[DZ,kG,b']at h
  case b.b=>
   have:=eq_of_beq h;subst this;exact ae
  case i.i=>
   obtain⟨aa,ab⟩:=h;have:=IntKind.Cm aa;subst this;rw[yb,eU]at ab;subst ab;exact ae
  case s.s=>
   rw[By,eU]at h;subst h;exact ae
  case pn.pn=>exact ae
  case p.p=>
   obtain⟨aa,ab⟩:=h;have:=c6 aa;subst this;have:=c6 ab;subst this;exact ae
  case g.g=>
   obtain⟨aa,ab⟩:=h;have:=c6 aa;subst this;have:=c6 ab;subst this;exact ae
  case sn.sn=>exact ae
  case sl.sl=>
   obtain⟨aa,ab,ag,aW⟩:=h;have:=c6 aa;subst this;have:=c6 ab;subst this;have:=c6 ag;subst this;have:=c6 aW;subst this;exact ae
  case sx.sx=>
   obtain⟨aa,ab,ag,aW⟩:=h;have:=c6 aa;subst this;have:=c6 ab;subst this;have:=c6 ag;subst this;have:=c6 aW;subst this;exact ae
  case gs.gs=>
   obtain⟨aa,ab,ag,aW⟩:=h;have:=c6 aa;subst this;have:=c6 ab;subst this;have:=c6 ag;subst this;have:=c6 aW;subst this;exact ae
  case mn.mn=>exact ae
  case m.m=>have:=c6 h;subst this;exact ae
  case f.f=>
   obtain⟨aa,ab,ag⟩:=h;have:=c6 aa;subst this;simp only[aT]at ae |-;obtain⟨vs,ws,a3,a6,bI⟩:=ae;exact⟨vs,ws,Ec ab a3,Ec ag a6,bI⟩
  case y.y=>have:=c6 h;subst this;exact ae
  case fn.fn=>exact ae
  case ni.ni=>exact ae
  case t.t=>
   simp only[aT]at ae |-;obtain⟨vs,a3,a6⟩:=ae;exact⟨vs,Ec h a3,a6⟩
  case a.a=>
   simp only[aT]at ae |-;obtain⟨vs,a3,a6⟩:=ae;exact⟨vs,Ec h a3,a6⟩
def Ec{D:bH}:∀ {x y:List ao} {us:List Value},wm x y=true->bG D x us->bG D y us
 |[],[],us,h,ae=>ae| [],_::_,us,h,ae=>by simp[wm]at h
 |_::_,[],us,h,ae=>by simp[wm]at h
 |x::l,y::m,us,h,ae=>by simp only[wm,b']at h;obtain⟨u,us,a3,a6,rfl⟩:=ae.j6;exact .cons (Zr h.1 a3) (Ec h.2 a6)
end
def Hs(dst:Option Nat)(al:bg ao)(v:ao)(da:bg ao):Prop:=(dst=none->da=al)/\∀ d,dst=some d->∀ t w,da.get t=some w->(t=d/\w=v)\/(t≠d/\al.get t=some w)
def K8(m m':bm)(l:List ao)(T:Nat):Prop:=m'.n=m.n+1/\(∀ id e,m'.t.get id=some e->id=m.n\/m.t.get id=some e)
def ye(m m':bm):Prop:=m.n<=m'.n/\∀ id e,id<m.n->m'.t.get id=some e->m.t.get id=some e
def ye.refl(m:bm):ye m m:=⟨cj _,λ_ _ _ h=>h⟩
def ye.trans{a b c:bm}(h:ye a b)(k:ye b c):ye a c:=⟨lg h.1 k.1,λid e hi he=>h.2 id e hi (k.2 id e (Im hi h.1) he)⟩
def K8.grow{m m':bm}{l:List ao}{T:Nat}(h:K8 m m' l T):ye m m':=⟨by rw[h.1];omega,λid e hi he=>by
 rcases h.2 id e he with aa | aa
 ·omega
 ·exact aa⟩
def ak4{m:bm}{l:List ao}{T:Nat}{K:Nat->bm->Option R}{r:R}(h:uK m l T K=some r):∃ m',K m.n m'=some r/\K8 m m' l T:=by unfold uK at h;obtain⟨cs,aa,ab⟩:=bg.ya l (.nil:bg ao) 0;rw[aa]at h;obtain⟨cZ,ag,aW⟩:=Hg h;exact⟨_,aW,rfl,λid e hi=>(ag id e hi).imp (λq=>q.1) λq=>q.2⟩
def dc.grow{m m':bm}(h:dc Y D m I M)(au:ye m m'):dc Y D m' I M where
 ih id e a aa ab:=h.ih id e a (au.2 id e (h.jt _ _ ab) aa) ab
 inj id ij e bq a bY aa tY ab ix ai:=h.inj id ij e bq a bY (au.2 id e (h.jt _ _ ab) aa) (au.2 ij bq (h.jt _ _ ix) tY) ab ix ai
 jt id a ab:=Im (h.jt _ _ ab) au.1
 qz:=h.qz
inductive lB(X:c3)(G:GT)(pr:ly)(ops:List Oper):List (Nat×Nat)->bg ao->bm->List (Nat×ao)->bg ao->bm->List bm->List qy->Prop
 |nil{al m}:lB X G pr ops [] al m [] al m [m] []| q {i o bb al m v da vs gM gn S A} (aw:ops[i]?=some o) (af:k8 X.E o.op=0) (hw:uL ops o al=some true) (aj:uJ X.P X.E G m.t o.op al=some v) (aD:Hs o.dst al v da) (t:lB X G pr ops bb da m vs gM gn S A) : lB X G pr ops ((i,0)::bb) al m ((i,v)::vs) gM gn S (bif pZ o.op then .load i o al v::A else A)| a {i o d bb al m m' l T c mk da vs gM gn S A} (aw:ops[i]?=some o) (af:k8 X.E o.op=1) (hw:uL ops o al=some true) (ah:o.dst=some d) (aj:Bv X.E o al=some (l,T,c,mk)) (aq:K8 m m' l T) (aD:Hs o.dst al (mk m.n) da) (t:lB X G pr ops bb da m' vs gM gn S A) : lB X G pr ops ((i,1)::bb) al m ((i,mk m.n)::vs) gM gn S (.made i m.n l T::A)| e {i o bb al m m' v da vs gM gn S A} (aw:ops[i]?=some o) (af:k8 X.E o.op=2) (hw:uL ops o al=some true) (aA:K6 X G pr o al m v m') (aD:Hs o.dst al v da) (t:lB X G pr ops bb da m' vs gM gn S A) : lB X G pr ops ((i,2)::bb) al m ((i,v)::vs) gM gn (m::S) A| skip {i k o bb al m da vs gM gn S A} (aw:ops[i]?=some o) (af:k8 X.E o.op=k) (hw:uL ops o al=some false) (aD:Hs o.dst al (.t []) da) (t:lB X G pr ops bb da m vs gM gn S A) : lB X G pr ops ((i,k)::bb) al m ((i,.t [])::vs) gM gn (bif Nat.beq k 2 then m::S else S) A
section
variable{X:c3}{G:GT}{pr:ly}{ops:List Oper}
def Ht(aN:c2 X.P X.E)(jU:∀ d,d<X.n->X.gC.contains d=true)(gE:∀ o∈ops,∀ d,o.dst=some d->d<X.n){call:ao->List ao->bm->Option (ao×bm)}(mi:Hp (dP X G pr) call):∀ (row:List (Nat×Nat)) {al:bg ao} {m:bm} {m0:List bm} {nS:List qy} {gM:bg ao} {gn:bm} {l5:List bm} {nb:List qy},oH (dP X G pr) call ops row al m m0 nS=some (gM,gn,l5,nb)->∃ vs S A,lB X G pr ops row al m vs gM gn S A/\l5=S.reverse++m0/\(∀ h∈A,h∈nb)/\∀ h∈nS,h∈nb
 |[],al,m,m0,nS,gM,gn,l5,nb,h=>by simp only[oH,j',Prod.mk.injEq]at h;obtain⟨rfl,rfl,rfl,rfl⟩:=h;exact⟨[],[m],[],.nil,by simp,by simp,λ_ h=>h⟩
 |(i,k)::bb,al,m,m0,nS,gM,gn,l5,nb,h=>by
  simp only[oH]at h;obtain⟨o,aw,h⟩:=ct h;obtain⟨w,hw,h⟩:=ct h;obtain⟨af,h⟩:=fw h;rw[zG]at aw;have iI:k8 X.E o.op=k:=c6 af;have yC:=gE o (wV aw);cases w with
  |false=>
   have ab:Bw o al (λal=>oH (dP X G pr) call ops bb al m (b5 (Nat.beq k 2) (m::m0) m0) nS)=some (gM,gn,l5,nb):=h;obtain⟨fh,ag,a3,a6⟩:=Zp ab;obtain⟨vs,S,A,ay,jX,iw,uQ⟩:=Ht aN jU gE mi bb ag;refine⟨_,_,_,.skip aw iI hw ⟨a3,a6⟩ ay,?_,iw,uQ⟩;rw[jX];cases Nat.beq k 2<;>simp[b5]
  |true=>
   have aa:b5 (Nat.beq k 0) (bX (uJ X.P X.E G m.t o.op al) none λv=>pL o.dst al v λda=>oH (dP X G pr) call ops bb da m m0 (b5 (pZ o.op) (.load i o al v::nS) nS)) (b5 (Nat.beq k 1) (bX o.dst none λd=>bX (Bv X.E o al) none λr=>uK m r.1 r.2.1 λid m=>pL (some d) al (r.2.2.2 id) λal=>oH (dP X G pr) call ops bb al m m0 (.made i id r.1 r.2.1::nS)) (zA (dP X G pr) call o al m λal m'=>oH (dP X G pr) call ops bb al m' (m::m0) nS))=some (gM,gn,l5,nb):=h;by_cases ql:k=0
   ·subst ql;have ab:(bX (uJ X.P X.E G m.t o.op al) none λv=>pL o.dst al v λda=>oH (dP X G pr) call ops bb da m m0 (b5 (pZ o.op) (.load i o al v::nS) nS))=some (gM,gn,l5,nb):=aa;obtain⟨v,aj,ab⟩:=ct ab;obtain⟨fh,ag,a3,a6⟩:=QB ab;obtain⟨vs,S,A,ay,jX,iw,uQ⟩:=Ht aN jU gE mi bb ag;refine⟨_,_,_,.q aw iI hw aj ⟨a3,a6⟩ ay,jX,λy aF=>?_,λy aF=>uQ y ?_⟩
    ·cases av:pZ o.op with
     |false=>rw[av]at aF;exact iw y aF
     |true=>
      rw[av]at aF;rcases ef.1 aF with rfl | aF;·refine uQ _ ?_;rw[av];simp[b5]
      ·exact iw y aF
    ·cases pZ o.op with
     |false=>exact aF| true=>exact nQ _ aF
   rw[g3 ql]at aa;by_cases eg:k=1
   ·subst eg;have ab:(bX o.dst none λd=>bX (Bv X.E o al) none λr=>uK m r.1 r.2.1 λid m=>pL (some d) al (r.2.2.2 id) λal=>oH (dP X G pr) call ops bb al m m0 (.made i id r.1 r.2.1::nS))=some (gM,gn,l5,nb):=aa;obtain⟨d,ah,ab⟩:=ct ab;obtain⟨⟨l,T,c,mk⟩,aC,ab⟩:=ct ab;obtain⟨m2,ag,aq⟩:=ak4 ab;have gv:pL o.dst al (mk m.n) (λal=>oH (dP X G pr) call ops bb al m2 m0 (.made i m.n l T::nS))=some (gM,gn,l5,nb):=by rw[ah];exact ag
    obtain⟨fh,aW,a3,a6⟩:=QB gv;obtain⟨vs,S,A,ay,jX,iw,uQ⟩:=Ht aN jU gE mi bb aW;refine⟨_,_,_,.a aw iI hw ah aC aq ⟨a3,a6⟩ ay,jX,λy aF=>?_,λy aF=>uQ y (nQ _ aF)⟩;rcases ef.1 aF with rfl | aF;·exact uQ _ (by simp)
    ·exact iw y aF
   ·rw[g3 eg]at aa;have ab:zA (dP X G pr) call o al m (λal m'=>oH (dP X G pr) call ops bb al m' (m::m0) nS)=some (gM,gn,l5,nb):=aa;obtain⟨v,dH,fh,Hr,-,ag,a3,a6⟩:=Zn aN jU yC mi ab;obtain⟨vs,S,A,ay,jX,iw,uQ⟩:=Ht aN jU gE mi bb ag;have fI:k=2:=by
     have:k8 X.E o.op<=2:=by
      unfold k8;split<;>first | omega | (split<;>first | omega | (split<;>omega))
     rw[iI]at this;omega
    subst fI;exact⟨_,_,_,.e aw iI hw Hr ⟨a3,a6⟩ ay,by rw[jX];simp,iw,uQ⟩
def lB.head{al gM:bg ao}{m gn:bm}{vs:List (Nat×ao)}{S:List bm}{A:List qy}(h:lB X G pr ops row al m vs gM gn S A):∃ m2 l5,S=m2::l5/\ye m m2:=by
 induction h with
 |nil=>exact⟨_,_,rfl,.refl _⟩| q _ _ _ _ _ _ a7=>exact a7| a _ _ _ _ _ aq _ _ a7=>obtain⟨m2,l5,aa,ab⟩:=a7;exact⟨m2,l5,aa,aq.grow.trans ab⟩
 |e _ _ _ _ _ _ _=>exact⟨_,_,rfl,.refl _⟩
 | @skip i k o bb al m da vs gM gn S A _ _ _ _ _ a7=>
  cases af:Nat.beq k 2 with
  |true=>exact⟨_,_,rfl,.refl _⟩| false=>simpa using a7
def lB.K9{al gM:bg ao}{m gn:bm}{vs:List (Nat×ao)}{S:List bm}{A:List qy}(h:lB X G pr ops row al m vs gM gn S A):m.n<=gn.n/\∀ i c l T,.made i c l T∈A->m.n<=c/\i∈row.map (·.1):=by
 induction h with
 |nil=>exact⟨cj _,λ_ _ _ _ h=>by cases h⟩
 | @q i o bb al m v da vs gM gn S A _ _ _ _ _ _ a7=>
  refine⟨a7.1,λfx c l T hm=>?_⟩;have nq:.made fx c l T∈A:=by
   cases av:pZ o.op with
   |false=>rw[av]at hm;exact hm
   |true=>
    rw[av]at hm;rcases ef.1 hm with e | hm;·cases e
    ·exact hm
  exact⟨(a7.2 fx c l T nq).1,nQ _ (a7.2 fx c l T nq).2⟩
 |a _ _ _ _ _ aq _ _ a7=>
  refine⟨lg aq.grow.1 a7.1,λfx c l T hm=>?_⟩;rcases ef.1 hm with e | hm;·cases e;exact⟨cj _,by simp⟩
  ·exact⟨lg aq.grow.1 (a7.2 fx c l T hm).1,nQ _ (a7.2 fx c l T hm).2⟩
 |e _ _ _ aA _ _ a7=>exact⟨lg aA.1 a7.1,λfx c l T hm=>⟨lg aA.1 (a7.2 fx c l T hm).1,nQ _ (a7.2 fx c l T hm).2⟩⟩| skip _ _ _ _ _ a7=>exact⟨a7.1,λfx c l T hm=>⟨(a7.2 fx c l T hm).1,nQ _ (a7.2 fx c l T hm).2⟩⟩
def lB.split:∀ (bc:List (Nat×Nat)) {bb:List (Nat×Nat)} {al gM:bg ao} {m gn:bm} {vs:List (Nat×ao)} {S:List bm} {A:List qy},lB X G pr ops (bc++bb) al m vs gM gn S A -> ∃ wA yf fh dH uR yg wB,vs=wA++yf/\wA.map (·.1)=bc.map (·.1)/\S=uR++yg/\uR.length=(bc.filter λr=>Nat.beq r.2 2).length/\lB X G pr ops bb fh dH yf gM gn yg wB/\(∀ h∈wB,h∈A)/\m.n<=dH.n /\ (∀ t w,fh.get t=some w->(∃ i,(i,w)∈wA/\iv ops i=some t)\/((∀ i∈bc.map (·.1),iv ops i≠some t)/\al.get t=some w)) /\ (∀ i c l T,.made i c l T∈A->.made i c l T∈wB\/c<dH.n)
 |[],bb,al,gM,m,gn,vs,S,A,h=>⟨[],vs,al,m,[],S,A,rfl,rfl,rfl,rfl,h,λ_ h=>h,cj _,λt w hw=>.inr ⟨by simp,hw⟩,λ_ _ _ _ h=>.inl h⟩
 |(i,k)::bc,bb,al,gM,m,gn,vs,S,A,h=>by
  have fin:∀ {o:Oper} {da:bg ao} {m':bm} {v:ao} {sK:List (Nat×ao)} {l5 S:List bm} {nb A:List qy},ops[i]?=some o->Hs o.dst al v da->m.n<=m'.n->lB X G pr ops (bc++bb) da m' sK gM gn l5 nb -> (S=if Nat.beq k 2 then m::l5 else l5)->(∀ h∈nb,h∈A)->(∀ i c l T,.made i c l T∈A->.made i c l T∈nb\/c<m'.n) ->
    ∃ wA yf fh dH uR yg wB,(i,v)::sK=wA++yf/\wA.map (·.1)=((i,k)::bc).map (·.1)/\S=uR++yg/\uR.length=(((i,k)::bc).filter λr=>Nat.beq r.2 2).length/\lB X G pr ops bb fh dH yf gM gn yg wB/\(∀ h∈wB,h∈A)/\m.n<=dH.n /\ (∀ t w,fh.get t=some w->(∃ i,(i,w)∈wA/\iv ops i=some t)\/((∀ fx∈((i,k)::bc).map (·.1),iv ops fx≠some t)/\al.get t=some w)) /\
     (∀ i c l T,.made i c l T∈A->.made i c l T∈wB\/c<dH.n):=by
   intro o da m' v sK l5 S nb A aw aD wz ay jX iw ak5;obtain⟨wA,yf,fh,dH,uR,yg,wB,az,aE,bz,cT,fT,hD,m1,nM,tA⟩:=lB.split bc ay;refine⟨(i,v)::wA,yf,fh,dH,(if Nat.beq k 2 then m::uR else uR),yg,wB,by rw[az];rfl,by simp[aE],?_,?_,fT,λh br=>iw h (hD h br),lg wz m1,λt w hw=>?_,λi c l T hm=>?_⟩
   ·rw[jX,bz];split<;>simp
   ·simp only[Cf];split<;>simp[cT]
   ·rcases nM t w hw with⟨fx,aa,ab⟩ | ⟨aa,ab⟩
    ·exact .inl ⟨fx,nQ _ aa,ab⟩
    ·have p2:iv ops i=o.dst:=by simp[iv,aw]
     cases ah:o.dst with
     |none=>
      rw[aD.1 ah]at ab;refine .inr ⟨λfx c7=>?_,ab⟩;rcases ef.1 c7 with e | c7;·rw[show fx=i from e,p2,ah];simp
      ·exact aa fx c7
     |some d=>
      rcases aD.2 d ah t w ab with⟨rfl,rfl⟩ | ⟨bK,ag⟩;·exact .inl ⟨i,by simp,by rw[p2,ah]⟩
      ·refine .inr ⟨λfx c7=>?_,ag⟩;rcases ef.1 c7 with e | c7
       ·rw[show fx=i from e,p2,ah];exact λe=>bK (by cases e;rfl)
       ·exact aa fx c7
   ·rcases ak5 i c l T hm with aa | aa
    ·exact tA i c l T aa
    ·exact .inr (Im aa m1)
  cases h with
  |q aw af hw aj aD t=>
   rename_i o v da sK nb;refine fin aw aD (cj _) t (by simp) (λh br=>?_) λi c l T hm=>?_
   ·cases pZ o.op with
    |false=>exact br| true=>exact nQ _ br
   ·cases av:pZ o.op with
    |false=>rw[av]at hm;exact .inl hm
    |true=>
     rw[av]at hm;rcases ef.1 hm with e | hm;·cases e
     ·exact .inl hm
  |a aw af hw ah aj aq aD t=>
   refine fin aw aD aq.grow.1 t (by simp) (λh br=>nQ _ br) λi c l T hm=>?_;rcases ef.1 hm with e | hm;·cases e;exact .inr (by rw[aq.1];omega)
   ·exact .inl hm
  |e aw af hw aA aD t=>exact fin aw aD aA.1 t (by simp) (λ_ h=>h) λ_ _ _ _ h=>.inl h
  |skip aw af hw aD t=>exact fin aw aD (cj _) t (by cases Nat.beq k 2<;>rfl) (λ_ h=>h) λ_ _ _ _ h=>.inl h
end
section
variable{ops:List Oper}
def ak6{i k:Nat}{o:Oper}(aw:ops[i]?=some o)(h:E' o k=true):∀ e,me ops i e->k.testBit e=true:=by rintro e⟨o',mJ,o8,qW,ai,rfl⟩;rw[aw]at o8;cases o8;have:=eP.1 h mJ (by simpa using qW);rw[ai]at this;simpa using this
def K':∀ {row:List (Nat×Nat)} {k:Nat},wk ops row k=true->∀ (bc:List (Nat×Nat)) (i c:Nat) (post:List (Nat×Nat)),row=bc++(i,c)::post -> (∃ o,ops[i]?=some o)/\k.testBit i=false/\i ∉ bc.map (·.1)/\∀ e,me ops i e->k.testBit e=true\/e∈bc.map (·.1)
 |[],k,h,bc,i,c,post,e=>by simp at e
 |(i0,mU)::row,k,h,bc,i,c,post,e=>by
  simp only[wk,b',oX]at h;obtain⟨aa,ab⟩:=h;split at ab
  ·rename_i o aw;rw[b']at ab;cases bc with
   |nil=>simp only[jZ,y2,Prod.mk.injEq]at e;obtain⟨⟨rfl,rfl⟩,rfl⟩:=e;exact⟨⟨o,aw⟩,aa,by simp,λe he=>.inl (ak6 aw ab.1 e he)⟩
   |cons p bc=>
    simp only[qZ,y2]at e;obtain⟨az,aE⟩:=e;obtain⟨a3,a6,bI,eQ⟩:=K' ab.2 bc i c post aE;have ai:∀ x,(k ||| 2^i0).testBit x=(k.testBit x||decide (x=i0)):=λx=>by rw[Iq,Il];congr 1;exact decide_eq_decide.2 eq_comm
    rw[ai,oa]at a6;refine⟨a3,a6.1,?_,λe he=>?_⟩;·rw[<-az];simp only[cY,ef,not_or];exact⟨by simpa using a6.2,bI⟩
    ·rcases eQ e he with h | h
     ·rw[ai,kH]at h;rcases h with h | h
      ·exact .inl h
      ·exact .inr (by rw[<-az];simp at h;simp[h])
     ·exact .inr (by rw[cY];exact nQ _ h)
  ·cases ab
def QE:∀ {row:List (Nat×Nat)} {k:Nat},wk ops row k=true->∀ i,i<ops.length->k.testBit i=true\/i∈row.map (·.1)
 |[],k,h,i,hi=>by
  simp only[wk]at h;have:=c6 h;subst this
  left
  rw[Nat.testBit_two_pow_sub_one];simpa using hi
 |(i0,mU)::row,k,h,i,hi=>by
  simp only[wk,b',oX]at h;obtain⟨aa,ab⟩:=h;split at ab
  ·rw[b']at ab;rcases QE ab.2 i hi with h | h
   ·rw[Iq,Il,kH]at h;rcases h with h | h
    ·exact .inl h
    ·have:i0=i:=by simpa using h
     exact .inr (by simp[this])
   ·exact .inr (by rw[cY];exact nQ _ h)
  ·cases ab
def ak7(h:wk ops row 0=true):(row.map (·.1)).Nodup:=by
 have key:∀ {row:List (Nat×Nat)} {k:Nat},wk ops row k=true->(row.map (·.1)).Nodup:=by
  intro row
  induction row with
  |nil=>intro k _;exact Ae
  |cons r row a7=>
   intro k h;obtain⟨i0,mU⟩:=r;have aX:=h;simp only[wk,b',oX]at h;obtain⟨aa,ab⟩:=h;split at ab;·rw[b']at ab;rw[cY,nh];refine⟨λhm=>?_,a7 ab.2⟩;obtain⟨⟨x,c⟩,ae,QF⟩:=dA.1 hm;obtain⟨bc,post,e⟩:=uH ae;have QG:x=i0:=QF;subst QG;have:=(K' aX ((x,mU)::bc) x c post (by rw[e];rfl)).2.2.1;exact this (by simp)
   ·cases ab
 exact key h
def Zs{α β:Type}:∀ {l:List (α×β)},(l.map (·.1)).Nodup->∀ {k:α} {a b:β},(k,a)∈l->(k,b)∈l->a=b
 |[],_,k,a,b,h,_=>by cases h
 |(ql,c)::l,aq,k,a,b,h,aX=>by
  rw[cY,nh]at aq;rcases ef.1 h with e | h
  ·cases e;rcases ef.1 aX with bq | aX
   ·cases bq;rfl
   ·exact(aq.1 (dA.2 ⟨_,aX,rfl⟩)).elim
  ·rcases ef.1 aX with bq | aX
   ·cases bq;exact(aq.1 (dA.2 ⟨_,h,rfl⟩)).elim
   ·exact Zs aq.2 h aX
end
section
variable{X:c3}{G:GT}{pr:ly}{D0:bH}{n0:Nat}{a:Act}{w:World}
def La{o:Oper}{b:Bool}{F:Fr}{al:bg ao}(h:uL ops o al=some b)(bU:∀ t,eF β (F t) (a.tmps.getD t undef))(H:∀ t∈looks ops o,∀ v,al.get t=some v->fV D (F t) v) :
  Region.wanted o (yielded ops.toArray a.tmps)=b:=by
 unfold uL at h;split at h
 ·rename_i au;cases h;simp[Region.wanted,au]
 ·rename_i j c au;split at h
  ·cases h
  ·rename_i d an;have hW:(ops[j]?).bind (·.dst)=some d:=by rw[zG]at an;simpa using an
   have ak8:(ops.toArray[j]?).bind (·.dst)=some d:=by simpa using hW
   have aF:=E0 ak8 a.tmps;have p4:d∈looks ops o:=MM au hW;split at h
   ·rename_i q aM;cases h;have ap:=H _ p4 _ aM;have aj:a.tmps.getD d undef=.bool q:=by
     have aa:=bU d;rcases ap with⟨u,e,hu⟩ | ⟨fa,bq,e⟩;·rw[e]at aa;rw[aa,hu.bool]
     ·cases bq;rw[e]at aa;exact aa
    simp[Region.wanted,au,aF,Cq aj]
   ·rename_i l aM;cases h;have ap:=H _ p4 _ aM;obtain⟨u,e,hu⟩:=ap.wo (by simp);obtain⟨vs,_,rfl⟩:=hu.Qe;have aa:=bU d;rw[e]at aa;have Aq:yielded ops.toArray a.tmps j=none:=by
     rw[aF];cases lI:a.tmps[d]? with
     |none=>rfl| some v=>simp only[eF,oV,lI,jS]at aa;subst aa;rfl
    simp[Region.wanted,au,Aq]
   ·cases h
def ak9{o:Oper}{F:Fr}{al:bg ao}(H:∀ t∈looks ops o,∀ v,al.get t=some v->fV D (F t) v):iJ D F al o.op.operands.toList:=λx ae v aj=>by
 cases x with
 |tmp t=>exact H t (MN (by simpa using ae)) v aj| const c=>exact(show qA D F .nil from λt v h=>by cases h).op [.const c] (.const c) (by simp) v aj| global g=>exact(show qA D F .nil from λt v h=>by cases h).op [.global g] (.global g) (by simp) v aj| func f=>exact(show qA D F .nil from λt v h=>by cases h).op [.func f] (.func f) (by simp) v aj
def ala{m m2:bg e0}{op:Op}{al:bg ao}(h:pZ op=false):uJ X.P X.E G m op al=uJ X.P X.E G m2 op al:=by
 cases op with
 |load=>simp[pZ]at h| slice t x lo hi mx=>cases mx<;>cases lo<;>cases hi<;>rfl
 |unOp u=>cases u<;>rfl
 |call c=>
  obtain⟨callee,args,ts⟩:=c;cases callee<;>rfl
 |_=>rfl
def Ed(X:c3)(G:GT)(pr:ly)(D0:bH)(n0:Nat)(ops:List Oper)(es:List Nat)(al:bg ao)(vs:List (Nat×ao))(S:List bm)(A:List qy)(L:Nat->Prop)(a:Act)(w:World):Prop:=
 ∃ D F C I M j rC,Rel X a w F C I M/\(∀ q e,es[q]?=some e->(L e ↔ q<j))/\j<=es.length/\S[j]?=some rC/\dc (dP X G pr) D rC I M/\(∀ i v t,L i->(i,v)∈vs->iv ops i=some t->fV D (F t) v) /\ (∀ t v,(∀ i,L i->iv ops i≠some t)->al.get t=some v->fV D (F t) v)/\(∀ i c l T,qy.made i c l T∈A->¬ L i->D c=none)/\D0.ext D n0
def Ed.al(di:vp ops){L:Nat->Prop}{q:Nat}{o:Oper}(aM:ops[q]?=some o)(qY:¬ L q){vs:List (Nat×ao)}(Ee:(vs.map (·.1)).Nodup){v:ao}(aj:(q,v)∈vs){F:Fr}{al:bg ao}(bs:D.le bx)(aD:uP o.dst v bx F cH)(iw:∀ i v t,L i->(i,v)∈vs->iv ops i=some t->fV D (F t) v)(alb:∀ t v,(∀ i,L i->iv ops i≠some t)->al.get t=some v->fV D (F t) v) :
  (∀ i v t,(L i\/i=q)->(i,v)∈vs->iv ops i=some t->fV bx (cH t) v)/\(∀ t v,(∀ i,(L i\/i=q)->iv ops i≠some t)->al.get t=some v->fV bx (cH t) v):=by
 have Zt:iv ops q=o.dst:=by simp[iv,aM]
 constructor
 ·rintro i u t (hi | rfl) hm ah
  ·have bK:o.dst≠some t:=λe=>by obtain⟨gg,hJ,p2⟩:=Fe ah;exact di.ML i q gg o t (λbq=>qY (bq ▸ hi)) hJ aM p2 e
   exact aD.2 bx t u bK ((iw i u t hi hm ah).mono bs)
  ·rw[Zs Ee hm aj];rw[Zt]at ah;exact aD.1 t ah
 ·intro t u dB au;have bK:o.dst≠some t:=λe=>dB q (.inr rfl) (by rw[Zt,e]);exact aD.2 bx t u bK ((alb t u (λi hi=>dB i (.inl hi)) au).mono bs)
end
section
variable{X:c3}{G:GT}{pr:ly}{D0:bH}{n0:Nat}{a:Act}{w:World}
def QH{gT:List Nat}:∀ {es:List Nat},KL gT es=true->∀ (p q:Nat) (x y:Nat),p<q->es[p]?=some x->es[q]?=some y->(gT.getD y 0).testBit x=true
 |[],_,p,q,x,y,_,ae,_=>by simp at ae
 |e::es,h,p,q,x,y,rR,ae,aF=>by
  simp only[KL,b']at h;cases q with
  |zero=>omega
  |succ q=>
   have vh:es[q]?=some y:=by simpa using aF
   cases p with
   |zero=>simp at ae;subst ae;exact eP.1 h.1 y (wV vh)| succ p=>exact QH h.2 p q x y (by omega) (by simpa using ae) vh
def alc:e∈x' E ops ↔ e<ops.length/\Bx E ops e=2:=by
 unfold x';rw[sD,lF];constructor
 ·rintro⟨aa,ab⟩;exact⟨aa,c6 ab⟩
 ·rintro⟨aa,ab⟩;exact⟨aa,by rw[ab];rfl⟩
def Zu{i:Nat}{o:Oper}(h:ops[i]?=some o):Bx E ops i=k8 E o.op:=by unfold Bx;rw[zG,h];rfl
def fV.same{x:dn}{u v:ao}(h:fV D x u)(ap:DZ u v=true):fV D x v:=by
 rcases h with⟨y,rfl,h⟩ | ⟨q,rfl,rfl⟩
 ·exact .val (Zr ap h)
 ·have:v=.b q:=by
   cases v<;>simp only[DZ,kG]at ap
   rw[eq_of_beq ap]
  exact .inr ⟨q,this,rfl⟩
def ald(aN:c2 X.P X.E)(jU:∀ d,d<X.n->X.gC.contains d=true){call:ao->List ao->bm->Option (ao×bm)}(mi:Hp (dP X G pr) call){id:Nat}{Hu:Array Oper}(jP:X.P.follows .mixedOrders=true)(aq:yE X.n Hu=true)
  {al gM:bg ao} {m gn:bm} (h:P3 (dP X G pr) call Hu.toList al m=some (gM,gn)) (tS:∀ a w,k' X G pr D0 n0 gM gn a w->Q .normal a w) (ap:k' X G pr D0 n0 al m a w) :
  (Code.region id Hu true).wpIn (gP X) 0 X.P Q a w:=by
 refine wpIn_region_any jP ?_;generalize vn:Hu.toList=ops at h;have ale:Hu=ops.toArray:=by apply gO;simpa using vn
 subst ale;have gE:∀ o∈ops,∀ d,o.dst=some d->d<X.n:=by simpa using IH aq
 unfold P3 at h;obtain⟨k0,h⟩:=fw h;unfold YI at k0;simp only[b']at k0;obtain⟨alf,j5,Zv,oy⟩:=k0;have di:vp ops:=TA alf;have Zw:((G7 X.E ops).filter λr=>Nat.beq r.2 2).map (·.1)=x' X.E ops:=by simpa using oy
 clear oy;generalize lN:x' X.E ops=es at *;have QI:∀ e,e∈es ↔ e<ops.length/\Bx X.E ops e=2:=λe=>by rw[<-lN];exact alc
 generalize as1:G7 X.E ops=row at *;cases nP:oH (dP X G pr) call ops row al m [] []with
 |none=>rw[nP]at h;cases h| some alg=>
 obtain⟨alh,ali,l5,nb⟩:=alg;rw[nP]at h;have aX:b5 (nb.all (P2 (dP X G pr) es (kO ops) l5.reverse)) (some (alh,ali)) none=some (gM,gn):=h;clear h;obtain⟨Zx,aX⟩:=fw aX;cases aX;obtain⟨vs,S,A,Lb,Zy,alj,-⟩:=Ht aN jU gE mi row nP;rw[eh]at Zy;subst Zy;rw[List.reverse_reverse]at Zx;have Zz:∀ y∈A,P2 (dP X G pr) es (kO ops) S y=true:=λy aF=>eP.1 Zx y (alj y aF);have jE:(row.map (·.1)).Nodup:=ak7 j5;obtain⟨as2,as3,as4,as5,as6,as7,as8,hs,kj,lL,ia,F7,as9,alk,alm,ata⟩:=lB.split row (bb:=[]) (by rw[eh];exact Lb);have aln:(row.filter λr=>Nat.beq r.2 2).length=es.length:=by rw[<-Zw,c8]
 cases F7;rw[eh]at hs;subst hs;have Ee:(vs.map (·.1)).Nodup:=by rw[kj];exact jE
 have alo:=Lb.K9;have alp:∀ (bc:List (Nat×Nat)) (bb:List (Nat×Nat)),row=bc++bb->As ops (λi=>i∈bc.map (·.1)):=λbc bb mA j e an he=>by
  obtain⟨⟨x,c⟩,ae,QF⟩:=dA.1 an;have QG:x=j:=QF;subst QG;obtain⟨po,pq,az⟩:=uH ae;rcases(K' j5 po x c (pq++bb) (by rw[mA,az];simp)).2.2.2 e he with h | h;·simp at h
  ·show e∈bc.map (·.1);rw[az,e7];exact dQ.2 (.inl h)
 let J:=Ed X G pr D0 n0 ops es al vs S A
 have key:=ak3 (X:=X) (ops:=ops) (Q:=Q) di.lt J ?step ?fin ops.length (Array.replicate ops.length false) a { w with drawn:=w.drawn+1 } (by simp) (by unfold todo;exact lg (EQ _ _) (by simp)) ?cl ?start
 case cl=>
  intro j e an;exfalso;by_cases hi:j<ops.length<;>simp[oV,hi]at an
 case start=>
  obtain⟨D,F,C,I,M,⟨β,a5⟩,bU,l4,ae,ny⟩:=ap;obtain⟨m2,yg,alq,au⟩:=Lb.head;have b9:∀ i,¬ (Array.replicate ops.length false).getD i false=true:=λi=>by
   by_cases hi:i<ops.length<;>simp[oV,hi]
  refine⟨D,F,C,I,M,0,m2,⟨β,a5.world rfl⟩,λq e _=>⟨λh=>(b9 e h).elim,λh=>by omega⟩,bw _,by rw[alq];rfl,l4.grow au,λi v t hi=>(b9 i hi).elim,λt v _ au=>bU t v au,λi c l T q3 _=>?_,ae⟩;have:=(alo.2 i c l T q3).1;cases Hv:D c with
  |none=>rfl| some b=>have:=l4.jt _ _ Hv;omega
 case fin=>
  rintro a w⟨D,F,C,I,M,j,rC,a5,wC,an,uS,l4,BH,BI,dr,ae⟩;have fl:j=es.length:=by
   refine Nat.le_antisymm an ?_;by_cases ar:es.length=0;·omega
   ·have aR:es.length-1<es.length:=by omega
    have aa:=(wC (es.length-1) es[es.length-1] (eb aR)).1 ((QI _).1 (cJ aR)).1;omega
  have alr:rC=gn:=by rw[fl,lL,o9 (by omega),ia,aln]at uS;simpa using uS.symm
  subst alr;refine tS a w ⟨D,F,C,I,M,a5,λt v au=>?_,l4,ae,?_⟩
  ·rcases alm t v au with⟨i,aa,ab⟩ | ⟨aa,ab⟩
   ·obtain⟨gg,hJ,_⟩:=Fe ab;exact BH i v t (hT.1 hJ).1 aa ab
   ·refine BI t v (λi hi=>?_) ab;rcases QE j5 i hi with ag | ag
    ·simp at ag
    ·exact aa i ag
  ·obtain⟨bx,cH,C',I',M',_,_,_,_,ny⟩:=ap;exact lg ny alk
 case step=>
  rintro L a w q o⟨D,F,C,I,M,j,rC,⟨β,a5⟩,wC,an,uS,l4,BH,BI,dr,ae⟩eA QJ aM qY Lc;have fm:q<ops.length:=(hT.1 aM).1;have n':=gE o (wV aM);obtain⟨⟨fa,k⟩,Kr,QK⟩:=dA.1 ((QE j5 q fm).resolve_left (by simp));have als:fa=q:=QK;subst als;obtain⟨bc,post,ch⟩:=uH Kr;obtain⟨-,-,ZA,alt⟩:=K' j5 bc fa k post ch;have alu:∀ e,me ops fa e->e∈bc.map (·.1):=λe he=>(alt e he).resolve_left (by simp);have QL:=alp bc ((fa,k)::post) ch;have ZB:=Lb;rw[ch]at ZB;obtain⟨wA,yf,fh,dH,uR,yg,wB,az,aE,bz,cT,fT,hD,m1,nM,tA⟩:=lB.split bc ZB;have atb:=fT.K9;have H:∀ t∈looks ops o,∀ v,fh.get t=some v->fV D (F t) v:=λt ay v aj=>by
   rcases nM t v aj with⟨i,aa,ab⟩ | ⟨aa,ab⟩
   ·obtain⟨gg,hJ,p2⟩:=Fe ab;have ZC:i∈bc.map (·.1):=by rw[<-aE];exact dA.2 ⟨_,aa,rfl⟩
    have bK:i≠fa:=λe=>ZA (e ▸ ZC);rcases di.ord i fa gg o t bK hJ aM p2 ay with ai | ai;·exact BH i v t (ai.mem eA Lc) (by rw[az];exact dQ.2 (.inl aa)) ab
    ·exact(ZA (ai.mem QL λe he=>QL i e ZC he)).elim
   ·refine BI t v (λi hi lM=>?_) ab;obtain⟨gg,hJ,p2⟩:=Fe lM;have bK:i≠fa:=λe=>qY (e ▸ hi);rcases di.ord i fa gg o t bK hJ aM p2 ay with ai | ai
    ·exact aa i (ai.mem QL alu) lM
    ·exact qY (ai.mem eA λe he=>eA i e hi he)
  have sq:iJ D F fh o.op.operands.toList:=ak9 H;have e9:DY es (kO ops) fa<=j:=filter_le λp e aD ai=>by exact(wC p e aD).1 ((yJ ai).mem eA Lc)
  have fY:j<=oF es (kO ops) fa:=le_filter an λp e aD alv=>by
   cases ai:((kO ops).getD e 0).testBit fa with
   |false=>rfl| true=>have alw:L e:=(wC p e alv).2 aD;exact(qY ((yJ ai).mem eA λd ah=>eA e d alw ah)).elim
  have ZD:k8 X.E o.op≠2->∀ p e,es[p]?=some e->((L e\/e=fa) ↔ p<j):=λaf p e aD=>by
   have bK:e≠fa:=λhe=>af (by
    have:=((QI e).1 (wV aD)).2;rw[he,Zu aM]at this;exact this)
   exact⟨λbr=>(wC p e aD).1 (br.resolve_right bK),λbr=>.inl ((wC p e aD).2 br)⟩
  have QM:k8 X.E o.op=2->es[j]?=some fa/\j+1<=es.length/\∀ p e,es[p]?=some e->((L e\/e=fa) ↔ p<j+1):=λaf=>by
   have QK:fa∈es:=(QI fa).2 ⟨fm,by rw[Zu aM];exact af⟩;obtain⟨wD,iA⟩:=Ky QK;have atc:=(hT.1 iA).1;have aa:¬ wD<j:=λbr=>qY ((wC wD fa iA).2 br);have ab:¬ j<wD:=λbr=>by
    have fl:j<es.length:=by omega
    have QN:=QH Zv j wD es[j] fa br (eb fl) iA;have:=(wC j es[j] (eb fl)).1 ((yJ QN).mem eA Lc);omega
   have ag:wD=j:=by omega
   subst ag;refine⟨iA,by omega,λp e aD=>⟨λbr=>?_,λbr=>?_⟩⟩
   ·rcases br with br | rfl
    ·have:=(wC p e aD).1 br;omega
    ·refine Cd λaq=>?_;have QN:=QH Zv wD p e e (by omega) iA aD;exact qY ((yJ QN).mem eA Lc)
   ·by_cases rO:p<wD
    ·exact .inl ((wC p e aD).2 rO)
    ·have:p=wD:=by omega
     subst this;rw[iA]at aD;exact .inr (oJ aD).symm
  have plain:∀ {v:ao} {cH:Fr} {C':dp} {bY:Act} {w':World},(fa,v)∈vs->k8 X.E o.op≠2->(∀ l T c,qy.made fa c l T ∉ A\/True)->Rel X bY w' cH C' I M->uP o.dst v D F cH->J (λj=>L j\/j=fa) bY w':=fun {v cH C' bY w'} aj af _ vu aD=>by obtain⟨f1,f2⟩:=Ed.al di aM qY Ee aj (bH.le_refl D) aD BH BI;exact⟨D,cH,C',I,M,j,rC,vu,ZD af,an,uS,l4,f1,f2,λi c l T hm dB=>dr i c l T hm λhi=>dB (.inl hi),ae⟩
  have Hw:∀ {v:ao} {bb:List (Nat×ao)},yf=(fa,v)::bb->(fa,v)∈vs:=fun {v bb} he=>by rw[az,he];exact dQ.2 (.inr (by simp))
  have alx:n0<=dH.n:=by obtain⟨bx,cH,C',I',M',_,_,_,_,ny⟩:=ap;exact lg ny m1
  have ZE:∀ {k:Nat},k=2->row=bc++(fa,k)::post->k8 X.E o.op=2->uR.length=j:=fun {k} fI aly af=>by
   obtain⟨QO,fl,_⟩:=QM af;have alz:es=(bc.filter λr=>Nat.beq r.2 2).map (·.1)++fa::((post.filter λr=>Nat.beq r.2 2).map (·.1)):=by rw[<-Zw,aly,Hq,e7,Cf];subst fI;simp
   have cg:es.Nodup:=by rw[<-lN];exact Mp.sublist MV
   have aa:es[uR.length]?=some fa:=by rw[alz,o9 (by rw[c8,cT];exact cj _),c8,cT,pD];rfl
   have AA:=(hT.1 aa).1;exact(List.getElem?_inj AA cg).1 (by rw[aa,QO])
  cases fT with
  | @q i o' bb mz la v da sK QP QQ m0 nS aw af BJ aj aD t=>
   have BK:o'=o:=oJ (aw.symm.trans aM);subst BK;have hw:=La BJ a5.al H;refine⟨λ_=>?_,λaJ=>by rw[hw]at aJ;cases aJ⟩;obtain⟨u,hu,alA⟩:∃ u,uJ X.P X.E G rC.t o'.op fh=some u/\∀ x,fV D x u->fV D x v:=by
    cases av:pZ o'.op with
    |false=>exact⟨v,by rw[ala av (m2:=dH.t)];exact aj,λ_ h=>h⟩
    |true=>
     have g4:qy.load fa o' fh v∈A:=hD _ (by rw[av];simp);have aa:=Zz _ g4;have ab:=Zq (show D1 S (DY es (kO ops) fa) (oF es (kO ops) fa) (P0 (dP X G pr) o' fh v)=true from aa) e9 fY uS;unfold P0 at ab;split at ab;·rename_i u hu;exact⟨u,hu,λx ae=>ae.same ab⟩
     ·cases ab
   refine sE (λbY w'=>?_) (Cp aN n' ⟨β,a5⟩ (Zm (K:=λcH C' I' M'=>I'=I/\M'=M/\uP o'.dst v D F cH) aN n' af hu sq l4 λx ae=>⟨rfl,rfl,.put F (alA x ae)⟩));rintro⟨cH,C',I',M',gZ,rfl,rfl,QC⟩;exact plain (Hw rfl) (by rw[af];decide) (λ_ _ _=>.inr trivial) gZ QC
  | @a i o' d bb mz la m' l T c mk da sK QP QQ m0 nS aw af BJ ah aj alB aD t=>
   have BK:o'=o:=oJ (aw.symm.trans aM);subst BK;have hw:=La BJ a5.al H;refine⟨λ_=>?_,λaJ=>by rw[hw]at aJ;cases aJ⟩;have g4:qy.made fa dH.n l T∈A:=hD _ (by simp);have aa:=Zz _ g4;have ab:=Zq (show D1 S (DY es (kO ops) fa) (oF es (kO ops) fa) (P1 dH.n l T)=true from aa) e9 fY uS;unfold P1 at ab;rw[b']at ab;obtain⟨alC,ab⟩:=ab;have alD:dH.n<rC.n:=bS alC;split at ab
   ·rename_i cs mH e1 pX;simp only[b']at ab;obtain⟨bp,zJ,ab⟩:=ab;have EZ:=c6 bp;subst EZ;have Zg:=c6 zJ;subst Zg;split at ab
    ·rename_i cR kd;obtain⟨mv,fB,fC,r6⟩:=bg.D3 cs l.length 0 _ _ kd;have uf:mv=cR:=oJ r6;subst uf;have Hv:D dH.n=none:=dr fa dH.n l mH g4 qY;refine sE (λbY w'=>?_) (Cp aN n' ⟨β,a5⟩ (Y1 (K:=λcH C' I' M'=>∃ b us u,I'=I/\M'=⟨b,.cells us.toArray mH (0,0)⟩::M/\I b=none/\(∀ x∈M,x.num≠b)/\bG D l us/\(∀ i,X.E mH=some i->us.length=c*i.size)/\c<=maxLen /\ (∀ (bx:bH) id,bx id=some ⟨b,0,c⟩->aT bx (mk id) u)/\zI o'.dst u F cH) aN jU n' aj (by rw[ah];rfl) sq λb us u cH C' a3 a6 bI eQ j0 JO QR=>⟨b,us,u,rfl,rfl,a3,a6,bI,eQ,j0,JO,QR⟩));rintro⟨cH,C',I',M',gZ,b,us,u,rfl,rfl,a3,a6,bI,eQ,j0,JO,QR⟩;have bs:D.le (D.set dH.n ⟨b,0,c⟩):=bH.zH _ Hv;have Ld:uP o'.dst (mk dH.n) (D.set dH.n ⟨b,0,c⟩) F cH:=QR.v (JO _ _ (bH.pN _ _ _));obtain⟨f1,f2⟩:=Ed.al di aM qY Ee (Hw rfl) bs Ld BH BI;have q6:=Ec ab bI;have gU:∀ id,id≠dH.n->(D.set dH.n ⟨b,0,c⟩) id=D id:=λid lA=>by unfold bH.set;rw[cb lA]
     have Hn:∀ id e hb,rC.t.get id=some e->D id=some hb->hb.b≠b:=λid e hb hi iQ xZ=>by obtain⟨x,wx,yh⟩:=l4.aP hi iQ;exact a6 x wx (yh.trans xZ)
     refine⟨D.set dH.n ⟨b,0,c⟩,cH,C',I',_,j,rC,gZ,ZD (by rw[af];decide),an,uS,?_,f1,f2,?_,λi hi=>?_⟩
     ·refine⟨λid e hb hi iQ=>?_,λid ij e bq b1 cd hi c7 aa ab xZ=>?_,λid hb iQ=>?_,l4.qz⟩
      ·by_cases lA:id=dH.n
       ·subst lA;rw[bH.pN]at iQ;cases iQ;rw[pX]at hi;cases hi;refine .cells us.toArray rfl (by simp) (by simp[bI.len]) (λi v hi aj=>?_) (λi hi=>by simpa using eQ i hi) j0;have kL:mv[i]?=some v:=by have:=fC i hi;rw[c0,aj]at this;exact this.symm
        obtain⟨x,wx,yh⟩:=q6.get kL;exact⟨x,by simpa using wx,yh.mono bs⟩
       ·rw[gU id lA]at iQ;exact(l4.ih id e hb hi iQ).mono bs λx ae _=>nQ _ ae
      ·by_cases lA:id=dH.n
       ·by_cases Hx:ij=dH.n
        ·rw[lA,Hx]
        ·rw[gU ij Hx]at ab;rw[lA,bH.pN]at aa;cases aa;exact(Hn ij bq cd c7 ab xZ.symm).elim
       ·rw[gU id lA]at aa;by_cases Hx:ij=dH.n
        ·rw[Hx,bH.pN]at ab;cases ab;exact(Hn id e b1 hi aa xZ).elim
        ·rw[gU ij Hx]at ab;exact l4.inj id ij e bq b1 cd hi c7 aa ab xZ
      ·by_cases lA:id=dH.n
       ·rw[lA];exact alD
       ·rw[gU id lA]at iQ;exact l4.jt _ _ iQ
     ·intro i c' cR AO q3 dB;have QS:c'≠dH.n:=λe=>by
       rcases tA i c' cR AO q3 with h | h
       ·rcases ef.1 h with h | h
        ·cases h;exact dB (.inr rfl)
        ·have:=(t.K9.2 i c' cR AO h).1;have:=alB.1;omega
       ·omega
      rw[gU c' QS];exact dr i c' cR AO q3 λhi=>dB (.inl hi)
     ·rw[gU i (by omega)];exact ae i hi
    ·cases ab
   ·cases ab
  | @e i o' bb mz la m' v da sK QP QQ m0 nS aw af BJ Hr aD t=>
   have BK:o'=o:=oJ (aw.symm.trans aM);subst BK;have hw:=La BJ a5.al H;refine⟨λ_=>?_,λaJ=>by rw[hw]at aJ;cases aJ⟩;obtain⟨QO,fl,QT⟩:=QM af;have Hy:=ZE rfl ch af;have QU:rC=dH:=by rw[bz,o9 (by omega),Hy,pD]at uS;simpa using uS.symm
   subst QU;obtain⟨m2,alE,QV,QW⟩:=t.head;refine sE (λbY w'=>?_) (Cp aN n' ⟨β,a5⟩ (Hr.2 D F C I M (λcH C' I' M'=>∃ bx,D.ext bx rC.n/\uP o'.dst v bx F cH/\dc (dP X G pr) bx m' I' M') sq l4 λbx cH C' I' M' a3 a6 bI=>⟨bx,a3,a6,bI⟩));rintro⟨cH,C',I',M',gZ,bx,a3,a6,bI⟩;have bs:=l4.le a3;obtain⟨f1,f2⟩:=Ed.al di aM qY Ee (Hw rfl) bs a6 BH BI;refine⟨bx,cH,C',I',M',j+1,m2,gZ,QT,fl,?_,bI.grow QW,f1,f2,λi c l T q3 dB=>?_,bH.Zo ae a3 alx⟩;·rw[bz,o9 (by omega),Hy,show j+1-j=0+1 by omega,EP,QV];rfl
   ·rcases tA i c l T q3 with h | h
    ·have:=(t.K9.2 i c l T h).1;cases Hv:bx c with
     |none=>rfl| some b=>have:=bI.jt _ _ Hv;omega
    ·rw[a3 c h];exact dr i c l T q3 λhi=>dB (.inl hi)
  | @skip i dJ o' bb mz la da sK QP QQ m0 nS aw af BJ aD t=>
   have BK:o'=o:=oJ (aw.symm.trans aM);subst BK;have hw:=La BJ a5.al H;refine⟨λaJ=>(by rw[hw]at aJ;cases aJ),λ_=>?_⟩;have vu:Rel X (a.put o'.dst undef) w (put o'.dst (.val undef) F) C I M:=⟨β,a5.put (x:=.val undef) n' rfl⟩;have Ld:uP o'.dst (.t []) D F (put o'.dst (.val undef) F):=.put F (.val .undef);by_cases fI:k=2
   ·subst fI;obtain⟨QO,fl,QT⟩:=QM af;have Hy:=ZE rfl ch af;have QU:rC=dH:=by rw[bz,o9 (by omega),Hy,pD]at uS;simpa using uS.symm
    subst QU;obtain⟨m2,alE,QV,QW⟩:=t.head;obtain⟨f1,f2⟩:=Ed.al di aM qY Ee (Hw rfl) (bH.le_refl D) Ld BH BI;refine⟨D,_,C,I,M,j+1,m2,vu,QT,fl,?_,l4.grow QW,f1,f2,λi c l T q3 dB=>dr i c l T q3 λhi=>dB (.inl hi),ae⟩;rw[bz,o9 (by omega),Hy,show j+1-j=0+1 by omega];show(rC::m0)[0+1]?=some m2;rw[EP,QV];rfl
   ·exact plain (Hw rfl) (by rw[af];exact fI) (λ_ _ _=>.inr trivial) vu Ld
 simpa using key
end
def BL{n:Nat}:∀ {c:Code},hE n c=true->codeOk n c=true
 | .seq x y,h=>by simp only[hE,codeOk,b']at h |-;exact⟨BL h.1,BL h.2⟩
 | .block _ c,h=>by simp only[hE,codeOk]at h |-;exact BL h
 | .cond _ x y,h=>by simp only[hE,codeOk,b']at h |-;exact⟨BL h.1,BL h.2⟩
 | .loop c,h=>by simp only[hE,codeOk]at h |-;exact BL h
 | .region _ ops _,h=>h| .scope c,h=>rfl| .rangeFunc ..,h=>rfl| .skip,h | .exit _,h | .label _,h | .goto _,h | .ret,h | .refuse _,h=>rfl
def QX{n:Nat}:∀ {c:Code} {l:Nat} {r:Code},hE n c=true->findLabel c l=some r->hE n r=true
 | .seq x y,l,r,h,av=>by
  simp only[hE,b']at h;simp only[findLabel]at av;split at av;·rename_i bb ak;cases av;simp only[hE,b'];exact⟨QX h.1 ak,h.2⟩
  ·exact QX h.2 av
 | .label cR,l,r,h,av=>by
  simp only[findLabel]at av;split at av;·cases av;rfl
  ·cases av
 | .skip,_,_,_,av | .exit _,_,_,_,av | .goto _,_,_,_,av | .ret,_,_,_,av | .refuse _,_,_,_,av | .block _ _,_,_,_,av | .cond _ _ _,_,_,_,av | .loop _,_,_,_,av | .scope _,_,_,_,av | .region _ _ _,_,_,_,av | .rangeFunc _ _ _ _,_,_,_,av=>by simp[findLabel]at av
def wE(P:Program):Prop:=∀ (g:Nat) (fn:Func) (c:Code),P.funcs[g]?=some fn->fn.body=some c->hE fn.ntmps c=true/\(fn.name == "runtime.NumGoroutine")=false
def alF(P:Program):Bool:=P.funcs.toList.all λfn=>match fn.body with
 |some c=>hE fn.ntmps c && !(fn.name == "runtime.NumGoroutine")
 |none=>true
def alG(h:alF P=true):wE P:=λg fn c aJ ai=>by have aa:=eP.1 h fn (by rw[<-Array.mem_def];exact Array.mem_of_getElem? aJ);simp only[ai,b',oX]at aa;exact aa
def yi(Y:gz):Prop:=∀ g vs m v m',Y.pr g vs m=some (v,m')->∀ (D:bH) (I:aZ) (M:List aB) (us:List Value),bG D vs us->dc Y D m I M->Spec Y.P g us I M λr I' M'=>∃ bx,D.ext bx m.n/\aT bx v r/\dc Y bx m' I' M'
def zQ:tT->Exit
 | .normal=>.normal| .exit id=>.exit id| .goto l=>.goto l| .ret=>.ret
def ju(Y:gz)(n B:Nat)(ar:World)(dM:aZ)(cq:List Nat)(ro:Option Nat):c3:=⟨Y.P,Y.E,List.range n,n,B,ar,dM,cq,ro⟩
def ju.gC{Y:gz}{n B:Nat}{ar:World}{dM:aZ}{cq:List Nat}{ro:Option Nat}:∀ d,d<(ju Y n B ar dM cq ro).n->(ju Y n B ar dM cq ro).gC.contains d=true:=λd ah=>by have hd:d<n:=ah;show(List.range n).contains d=true;simpa using hd
def BM(Y:gz)(f:Nat):Prop:=∀ h3 n c al m ex da m',lz Y f h3 n c al m=some (ex,da,m')->hE n c=true->∀ B ar dM cq ro D0 n0 a w,(h3=true->ro=none)->k' (ju Y n B ar dM cq ro) Y.G Y.pr D0 n0 al m a w -> c.wpIn (gP (ju Y n B ar dM cq ro)) 0 Y.P (λe a w=>e=zQ ex/\k' (ju Y n B ar dM cq ro) Y.G Y.pr D0 n0 da m' a w) a w
def QY{α:Type}:∀ (n k:Nat),(bg.bare n:bg α).get k=none
 |0,k=>rfl
 |n+1,k=>by
  rw[bg.bare,bg.G'];cases Nat.beq k 0 with
  |true=>rfl
  |false=>
   cases Nat.beq (k%2) 1 with
   |true=>exact QY n _| false=>exact QY n _
section
variable{X:c3}{G:GT}{pr:ly}{D:bH}{m:bm}{F:Fr}{al:bg ao}{C:dp}{I:aZ}{M:List aB}
def QZ(bU:qA D F al)(hm:dc (dP X G pr) D m I M):∀ {a8:List ResultVar} {vs:List ao} {K:List Value->Prop},zB (dP X G pr) al m.t a8=some vs->(∀ us,bG D vs us->K us)->o3 X F C I M a8 K
 |[],vs,K,h,af=>by simp only[zB]at h;cases h;exact af [] .nil
 | .tmp t::l,vs,K,h,af=>by
  simp only[zB]at h;split at h;·rename_i v sK aa ab;cases h;obtain⟨u,az,a3⟩:=(show fV D (dq F (.tmp t)) v from bU t v aa).dR;unfold o3;rw[az];exact QZ bU hm ab λus fA=>af _ (.cons a3 fA)
  ·cases h
 | .cell t ty::l,vs,K,h,af=>by
  simp only[zB]at h;split at h
  ·rename_i x i sK aa ab ag;split at h
   ·rename_i v aj;cases h;have yc:∀ q,x≠.b q:=λq e=>by subst e;cases aj
    obtain⟨u,az,a3⟩:=fV.wo (bU t x aa:fV D (dq F (.tmp t)) x) yc;obtain⟨ad,cR,Ef,rfl,bk,av,aD⟩:=wq hm a3 aj;have ix:X.E ty=some i:=ab;have ei:dq F (.tmp t)=.val (.pointer (some ad)):=az;unfold o3;rw[ei,ix];exact⟨Ef,bk,QZ bU hm ag λus fA=>af _ (.cons (KX aD av) fA)⟩
   ·cases h
  ·cases h
end
def ZF(aN:c2 Y.P Y.E)(bU:wE Y.P)(mA:yi Y)(aA:BM Y f){m:bm}{v:ao}{fn:Func}{c:Code}(aJ:Y.P.funcs[g]?=some fn)(ai:fn.body=some c)(bs:args.length<=fn.ntmps){al da:bg ao}(w3:∀ t w,al.get t=some w->args[t]?=some w){dH:bm}(hex:ex=.normal\/ex=.ret)(h:lz Y f true fn.ntmps c al m=some (ex,da,dH)){vs:List ao}(ak:zB Y da dH.t fn.results.toList=some vs)
  (aj:v=YJ vs) (hu:bG D args us) (hm:dc Y D m I M):wY Y.P g us I M λr I' M'=>∃ bx,D.ext bx m.n/\aT bx v r/\dc Y bx dH I' M':=by
 obtain⟨bj,n6⟩:=bU g fn c aJ ai;refine MD (List.range fn.ntmps) aN aJ ai n6 ?_ λB ar a w a5=>?_
 ·rw[b'];exact⟨BL bj,Bg (by rw[hu.len];exact bs)⟩
 ·have alH:qA D (w9 us) al:=λt w hw=>by obtain⟨x,aa,ab⟩:=hu.get (w3 t w hw);refine .inl ⟨x,?_,ab⟩;simp only[w9,aa]
  have dE:k' (ju Y fn.ntmps B ar I (M.map (·.num)) none) Y.G Y.pr D m.n al m a w:=⟨D,_,_,I,M,a5,alH,hm,bH.oL,cj _⟩;refine wpIn_mono (aA _ _ _ _ _ _ _ _ h bj B ar I (M.map (·.num)) none D m.n a w (λ_=>rfl) dE) ?_;rintro e bY w'⟨rfl,bx,cH,C',I',M',vu,Cl,nq,ae,aq⟩;have Ga:∀ BE,BE=.normal\/BE=.ret->tU (ju Y fn.ntmps B ar I (M.map (·.num)) none) fn.results.toList (λr I' M'=>∃ bx,D.ext bx m.n/\aT bx v r/\dc Y bx dH I' M') BE cH C' I' M':=λBE he=>by
   have alI:=QZ (X:=ju Y fn.ntmps B ar I (M.map (·.num)) none) (G:=Y.G) (pr:=Y.pr) (C:=C') Cl nq ak (K:=λvs=>match vs with
    |[rz]=>vk (M.map (·.num)) I' M' ((λr I' M'=>∃ bx,D.ext bx m.n/\aT bx v r/\dc Y bx dH I' M') rz)
    |vs=>vk (M.map (·.num)) I' M' ((λr I' M'=>∃ bx,D.ext bx m.n/\aT bx v r/\dc Y bx dH I' M') (.tuple vs.toArray))) λEf fA=>by
     clear ak
     match vs,Ef,fA,aj with
     |[],Ef,fA,aj=>rw[fA.m9];refine⟨I',M',.refl,bx,ae,?_,nq⟩;rw[aj];exact .KW .nil| [v1],Ef,fA,aj=>obtain⟨x,xs,aa,ab,rfl⟩:=fA.j6;rw[ab.m9];refine⟨I',M',.refl,bx,ae,?_,nq⟩;rw[aj];exact aa
     |v1::v2::vs,Ef,fA,aj=>obtain⟨x,xs,aa,ab,rfl⟩:=fA.j6;obtain⟨y,kz,ag,aW,rfl⟩:=ab.j6;refine⟨I',M',.refl,bx,ae,?_,nq⟩;rw[aj];exact .KW fA
   rcases he with rfl | rfl<;>exact alI
  rcases hex with rfl | rfl;·exact⟨cH,C',I',M',vu,Ga _ (.inl rfl)⟩
  ·exact⟨cH,C',I',M',vu,Ga _ (.inr rfl)⟩
def Spec.nT{args:List Value}(h:Spec P f args I M p)(af:∀ v I' M',p v I' M'->q v I' M'):Spec P f args I M q:=by
 rcases h with⟨aa,ab⟩ | h
 ·refine .inl ⟨aa,λw hw=>?_⟩;refine(ab w hw).mono ?_;rintro e w'⟨v,I',M',az,aE,bz,cT⟩;exact⟨v,I',M',az,af _ _ _ aE,bz,cT⟩
 ·refine .inr λw hw=>?_;obtain⟨v,w',I',M',az,aE,bz,cT⟩:=h w hw;exact⟨v,w',I',M',az,af _ _ _ aE,bz,cT⟩
section
variable{Y:gz}{D:bH}{m m':bm}{I:aZ}{M:List aB}
def ZG(aN:c2 Y.P Y.E)(bU:wE Y.P)(mA:yi Y)(aA:BM Y f){v:ao}(h:KN Y (lz Y f) g args m=some (v,m'))(hu:bG D args us)(hm:dc Y D m I M) :
  wY Y.P g us I M λr I' M'=>∃ bx,D.ext bx m.n/\aT bx v r/\dc Y bx m' I' M':=by
 unfold KN at h;obtain⟨fn,aJ,aa⟩:=ct h;obtain⟨c,ai,ab⟩:=ct aa;obtain⟨bs,ag⟩:=fw ab;obtain⟨al,a3,a6⟩:=bg.ya args (bg.bare 12) 0;rw[a3]at ag;have w3:∀ t w,al.get t=some w->args[t]?=some w:=λt w hw=>by
  rcases a6 t w hw with⟨_,h⟩ | ⟨_,h⟩;·simpa using h
  ·rw[QY]at h;cases h
 unfold YK at ag;split at ag
 ·rename_i da dH ae;unfold KM at ag;obtain⟨vs,ak,aW⟩:=ct ag;cases aW;exact ZF aN bU mA aA aJ ai (bS bs) w3 (.inl rfl) ae ak rfl hu hm
 ·rename_i da dH ae;unfold KM at ag;obtain⟨vs,ak,aW⟩:=ct ag;cases aW;exact ZF aN bU mA aA aJ ai (bS bs) w3 (.inr rfl) ae ak rfl hu hm
 ·cases ag
def ZH(aN:c2 Y.P Y.E)(bU:wE Y.P)(mA:yi Y)(aA:BM Y f){v:ao}(h:zC Y (lz Y f) g args m=some (v,m'))(hu:bG D args us)(hm:dc Y D m I M) :
  Spec Y.P g us I M λr I' M'=>∃ bx,D.ext bx m.n/\aT bx v r/\dc Y bx m' I' M':=by
 unfold zC at h;cases aD:Y.pr g args m with
 |none=>rw[aD]at h;exact .inl (ZG aN bU mA aA h hu hm)| some p=>rw[aD]at h;have aX:some p=some (v,m'):=h;cases aX;exact mA g args m v m' aD D I M us hu hm
def cV.kept{W:World}{F:Fr}{C:dp}(h:cV X β a w F C I' M')(aa:X.ar=W)(ab:X.B=W.heap.size)(ag:X.dM=dM)(aW:X.cq=M0.map (·.num)):Kept dM M0 W I' M' w where
 le:=by rw[<-ag];exact h.hI
 tP b o ai:=by
  rcases h.hq b o ai with bC | bC;·exact .inl (by rw[<-ag];exact bC)
  ·exact .inr (by rw[<-ab];exact bC)
 u' x ae:=by
  rcases h.own x ae with bC | bC;·rw[aW]at bC;obtain⟨y,aF,e⟩:=dA.1 bC;exact .inl ⟨y,aF,e⟩
  ·exact .inr (by rw[<-ab];exact bC)
 du b ai aq:=by rw[<-aa];refine h.du b (by rw[ab];exact ai) λhm=>?_;rw[aW]at hm;obtain⟨y,aF,e⟩:=dA.1 hm;exact aq y aF e
 out:=by rw[<-aa];exact h.out
 sz:=by rw[<-ab];exact h.sz
def ZI{R:Type}:∀ {ps:List Nat} {args:List ao} {mz:bg ao} {K:bg ao->Option R} {r:R} {us:List Value} {tmps:Array Value},D2 ps args mz K=some r->bG D args us->(∀ t∈ps,t<tmps.size)->(∀ t v,mz.get t=some v->aT D v (tmps.getD t undef)) -> ∃ fh,K fh=some r/\us.length=ps.length/\((ps.zip us).foldl (λ(tmps:Array Value) (p:Nat×Value)=>tmps.setIfInBounds p.1 p.2) tmps).size=tmps.size /\ ∀ t v,fh.get t=some v->aT D v (((ps.zip us).foldl (λ(tmps:Array Value) (p:Nat×Value)=>tmps.setIfInBounds p.1 p.2) tmps).getD t undef)
 |[],[],mz,K,r,us,tmps,h,hu,aD,ar=>by have:=hu.m9;subst this;exact⟨mz,h,rfl,rfl,ar⟩
 |[],_::_,mz,K,r,us,tmps,h,hu,aD,ar=>by simp[D2]at h
 |_::_,[],mz,K,r,us,tmps,h,hu,aD,ar=>by simp[D2]at h
 |t0::ps,wF::args,mz,K,r,us,tmps,h,hu,aD,ar=>by
  obtain⟨x,xs,a3,a6,rfl⟩:=hu.j6;simp only[D2]at h;obtain⟨fh,aa,ab⟩:=bg.oI (some wF) mz t0;rw[aa]at h;have aR:=aD t0 (by simp);obtain⟨uT,ag,aW,bC,bP⟩:=ZI (tmps:=tmps.setIfInBounds t0 x) h a6 (λt ay=>by simpa using aD t (by simp[ay])) λt v ay=>by
   rw[oV,Cc];rcases ab t v ay with⟨rfl,e⟩ | ⟨bK,au⟩;·have:=(oJ e);subst this;simp only[pU,aR];exact a3
   ·rw[cb (rJ bK),<-oV];exact ar t v au
  exact⟨uT,ag,by simp[aW],by simpa using bC,bP⟩
def k9.Le{a:Loc}{b:Bool}{al:bg ao}(h:k9 D E M a (.loop b n al ps fc body)):∃ L,(⟨a.b,.loop L⟩:aB)∈M/\YU D b n al ps fc body L:=by
 cases h with
 |loop L aa ab=>exact⟨L,aa,ab⟩
def k9.alJ{a:Loc}{c:Code}{al:bg ao}(h:k9 D E M a (.done c n al ps fc body)):∃ L,(⟨a.b,.loop L⟩:aB)∈M/\L.state=.done/\L.pending=some c:=by
 cases h with
 |done L aa ab ag=>exact⟨L,aa,ab,ag⟩
def dc.swap(h:dc Y D m I M){cZ:bg e0}{l:Nat}{cG az:e0}{o o':Obj}{Mr:List aB}(au:m.t.get l=some cG)(aC:D l=some iG)(a1:M.Perm (⟨iG.b,o⟩::Mr))(ay:∀ id e,cZ.get id=some e->(id=l/\some az=some e)\/(id≠l/\m.t.get id=some e))
  (he:k9 D Y.E (⟨iG.b,o'⟩::Mr) iG az):dc Y D ⟨cZ,m.n⟩ I (⟨iG.b,o'⟩::Mr):=by
 refine h.step (λid e hi=>(ay id e hi).imp (λq=>⟨q.1,oJ q.2⟩) λq=>q) aC (bH.le_refl D) (λ_ _=>rfl) h.jt (λ_ _ h=>h) (λid e bY bK hi oN x ae aq=>?_) he λid e bY bK hi oN ai=>bK (h.inj _ _ _ _ _ _ hi au oN aC ai);rcases ef.1 (a1.mem_iff.1 ae)with rfl | ae
 ·exact(bK (h.inj _ _ _ _ _ _ hi au oN aC aq.symm)).elim
 ·exact nQ _ ae
end
section
variable{Y:gz}{D:bH}{m m':bm}{I:aZ}{M:List aB}
def alK(aA:BM Y f){l:Nat}{v:ao}(h:P7 (lz Y f) l args m=some (v,m'))(av:D l=some iG)(hu:bG D args us)(hm:dc Y D m I M) :
  Ft Y.P iG.b us I M λr I' M'=>∃ bx,D.ext bx m.n/\aT bx v r/\dc Y bx m' I' M':=by
 unfold P7 at h;split at h
 ·rename_i n mz ps fc body au;obtain⟨L,a1,b9⟩:=(hm.ih _ _ _ au av).Le;intro W im;have Fy:W.heap[iG.b]?=some (.loop L):=im.m _ a1;have dE:L.state=.ready:=b9.aG;have vn:∀ t∈ps,t<L.tmps.size:=λt ay=>by rw[b9.sz];exact b9.op t (by rw[b9.ps];exact ay)
  obtain⟨fh,aa,bQ,df,ZJ⟩:=ZI (tmps:=L.tmps) h hu vn b9.al;have rc:L.params.size=ps.length:=by rw[<-b9.ps];simp
  refine⟨_,_,_,_,run_yield Fy (by rw[rc];simpa using bQ),?_⟩;have CH:(L.params.zip us.toArray).foldl (λtmps (x:Nat×Value)=>match x with | (t,a)=>tmps.setIfInBounds t a) L.tmps=(ps.zip us).foldl (λ(tmps:Array Value) (p:Nat×Value)=>tmps.setIfInBounds p.1 p.2) L.tmps:=by rw[<-Mm,<-b9.ps];simp
  rw[CH];generalize bp:(ps.zip us).foldl (λ(tmps:Array Value) (p:Nat×Value)=>tmps.setIfInBounds p.1 p.2) L.tmps=T at ZJ df;rw[b9.fc,b9.body];have oP:hE n fc=true:=by rw[<-b9.fc];exact b9.xu
  have Qz:hE n body=true:=by rw[<-b9.body];exact b9.og
  refine roundIn_of_wpIn (F:=Fence.wide) (n:=0) trivial ?_;let vA:c3:=ju Y n W.heap.size W I (M.map (·.num)) (some iG.b)
  have E9:cV vA (λ_=>0) { tmps:=T,defers:=[] } W (λt=>.val (T.getD t undef)) (λ_=>none) I M:={
   size:=df.trans b9.sz
   defers:=⟨[],rfl,Ae,λr ak=>by cases ak⟩
   holds:=im
   al:=λt=>rfl
   ck:=λs cs ap=>by cases ap
   inj:=λs cc aa=>by simp at aa
   hI:=λb o ai=>ai
   hq:=λb o ai=>.inl ai
   own:=λx ae=>.inl (dA.2 ⟨x,ae,rfl⟩)
   du:=λb ai aJ=>rfl
   out:=.refl _
   sz:=cj _ }
  unfold YM at aa;split at aa
  ·rename_i uT m2 alL;have fs:k' vA Y.G Y.pr D m.n fh m { tmps:=T,defers:=[] } W:=⟨D,_,_,I,M,⟨_,E9⟩,λt v aj=>.val (ZJ t v aj),hm,bH.oL,cj _⟩;refine wpIn_mono (aA _ _ _ _ _ _ _ _ alL oP _ _ _ _ _ D m.n _ _ (λe=>by cases e) fs) ?_;rintro e cu hs⟨rfl,Q0,ZK,ZL,ev,ez,⟨ZM,pg⟩,alM,xo,yh,pI⟩;have uf:Q0 l=some iG:=by rw[yh l (hm.jt _ _ av)];exact av
   have ab:P5 (lz Y f) l n body (m2.t.get l) uT m2=some (v,m'):=aa;unfold P5 at ab;split at ab
   ·rename_i eO alN alO alP P6 jF;obtain⟨BN,ZN,wG⟩:=(xo.ih _ _ _ jF uf).Le;obtain⟨bc,post,ch⟩:=uH ZN;have j5:ez.Perm (⟨iG.b,.loop BN⟩::(bc++post)):=by rw[ch];exact qk
    have ZO:hs.heap[iG.b]?=some (.loop BN):=pg.holds.m _ ZN;have alQ:=(lD.1 ZO).1;refine⟨_,run_beginRound ZO wG.aG,?_⟩;obtain⟨t3,ag,aW⟩:=bg.oI (some (e0.loop true eO alN alO alP P6)) m2.t l;rw[ag]at ab;have alR:cV vA ZM cu (hs.putObj iG.b (.loop { BN with state:=.busy })) ZK ZL ev (⟨iG.b,.loop { BN with state:=.busy }⟩::(bc++post)):=
     (pg.h8 (.perm j5 .refl)).swap (by simp) (CC alQ) (λb ai=>mD ai) (Iy _ _ _)
    have ru:dc Y Q0 ⟨t3,m2.n⟩ ev (⟨iG.b,.loop { BN with state:=.busy }⟩::(bc++post)):=xo.swap jF uf j5 aW (.loop { BN with state:=.busy } (by simp) ⟨rfl,wG.p3,wG.sz,wG.al,wG.ps,wG.fc,wG.body,wG.xu,wG.og,wG.op⟩);unfold YL at ab;obtain⟨⟨ex,atd,Lf⟩,Gy,bC⟩:=ct ab;have vD:k' vA Y.G Y.pr D m.n uT ⟨t3,m2.n⟩ cu (hs.putObj iG.b (.loop { BN with state:=.busy })):=⟨Q0,ZK,ZL,ev,_,⟨ZM,alR⟩,alM,ru,yh,pI⟩;refine wpIn_mono (aA _ _ _ _ _ _ _ _ Gy Qz _ _ _ _ _ D m.n _ _ (λe=>by cases e) vD) ?_;rintro e fN ia⟨rfl,ZP,alS,alT,mL,rW,⟨alU,Lg⟩,ate,ZQ,ZR,ZS⟩;have ZT:ZP l=some iG:=by rw[ZR l (hm.jt _ _ av)];exact av
    have bP:P4 l (Lf.t.get l) (CG ex) Lf=some (v,m'):=bC;unfold P4 at bP;split at bP
    ·rename_i ZU ZV ZW ZX ZY C1;obtain⟨Q1,Q2,zR⟩:=(ZQ.ih _ _ _ C1 ZT).Le;obtain⟨ZZ,Z0,alV⟩:=uH Q2;have Z1:rW.Perm (⟨iG.b,.loop Q1⟩::(ZZ++Z0)):=by rw[alV];exact qk
     have Z2:ia.heap[iG.b]?=some (.loop Q1):=Lg.holds.m _ Q2;have alW:=(lD.1 Z2).1;obtain⟨t5,eo,fo⟩:=bg.oI (some (bX (CG ex) (e0.loop false ZU ZV ZW ZX ZY) λc=>e0.done c ZU ZV ZW ZX ZY)) Lf.t l;rw[eo]at bP;cases bP;have fin:∀ jump,CG ex=jump->∃ rz w',(Instr.endRound iG.b jump).run Y.P ia=.ok rz w'/\∃ r I' M',Ending.returned rz=.returned r/\(∃ bx,D.ext bx m.n/\aT bx (.b (CG ex).isNone) r/\dc Y bx ⟨t5,Lf.n⟩ I' M')/\ew I' M' w'/\Kept I M W I' M' w':=by
      rintro jump an;let Lh:Loop:={ Q1 with state:=if jump.isNone then .ready else .done,pending:=jump }
      have Z3:cV vA alU fN (ia.putObj iG.b (.loop Lh)) alS alT mL (⟨iG.b,.loop Lh⟩::(ZZ++Z0)):=
       (Lg.h8 (.perm Z1 .refl)).swap (by simp) (CC alW) (λb ai=>mD ai) (Iy _ _ _)
      refine⟨_,_,run_endRound jump Z2,_,mL,_,rfl,⟨ZP,ZR,?_,ZQ.swap C1 ZT Z1 fo ?_⟩,Z3.holds,Z3.kept rfl rfl rfl rfl⟩;·rw[an];simp[aT]
      ·rw[an];cases jump with
       |none=>exact .loop Lh (by simp) ⟨rfl,rfl,zR.sz,zR.al,zR.ps,zR.fc,zR.body,zR.xu,zR.og,zR.op⟩| some c=>exact .done Lh (by simp) rfl rfl
     cases ex with
     |normal=>exact fin none rfl| exit id=>exact fin _ rfl| goto t=>exact fin _ rfl| ret=>exact fin _ rfl
    ·cases bP
   ·cases ab
  ·cases aa
 ·cases h
end
section
variable{Y:gz}
def alX(aN:c2 Y.P Y.E)(bU:wE Y.P)(mA:yi Y)(aA:BM Y f):Hp Y (KO Y (lz Y f)):=λak1 l m v m' h D I M u us yB fA hm=>by
 unfold KO at h;split at h
 ·rename_i g cE cs;simp only[aT]at yB;obtain⟨vs,ws,aa,ab,rfl⟩:=yB;refine .inl ⟨g,_,_,rfl,?_⟩;have:=ZH aN bU mA aA h (aa.append (fA.append ab)) hm;simpa using this
 ·rename_i q;simp only[aT]at yB;obtain⟨iG,aa,rfl⟩:=yB;exact .inr ⟨iG.b,rfl,alK aA h aa fA hm⟩
 ·cases h
def k'.world{al:bg ao}{m:bm}(h:k' X G pr D0 n0 al m a w):∃ D F β,(∀ t,eF β (F t) (a.tmps.getD t undef))/\qA D F al:=by obtain⟨D,F,C,I,M,⟨β,a5⟩,bU,_⟩:=h;exact⟨D,F,β,a5.al,bU⟩
def k'.eval{al:bg ao}{m:bm}(h:k' X G pr D0 n0 al m a w){b:Bool}(ae:dm al x=some (.b b)):a.eval x=.bool b:=by obtain⟨D,F,β,aa,ab⟩:=h.world;obtain⟨u,az,a3⟩:=(ab.op [x]).bB (x:=x) (by simp) ae;rw[dh aa az,a3.bool]
def fV.ok{x:dn}{v:ao}{u:Value}(h:fV D x v)(ae:eF β x u):aT D v u:=by
 rcases h with⟨y,rfl,h⟩ | ⟨q,rfl,rfl⟩
 ·have:u=y:=ae;subst this;exact h
 ·have:u=.bool q:=ae;subst this;simp[aT]
def alY(aN:c2 Y.P Y.E)(bU:wE Y.P)(mA:yi Y)(aA:BM Y f){h3:Bool}{ps:Array Tmp}{al da:bg ao}{m m':bm}(h:P9 Y (lz Y f) h3 n (dm al x) ps.toList fc body al m=some (ex,da,m'))(bj:hE n (.rangeFunc x ps fc body)=true){B:Nat}{ar:World}{cq:List Nat}{ro:Option Nat}(jW:h3=true->ro=none)(ap:k' (ju Y n B ar dM cq ro) Y.G Y.pr D0 n0 al m a w) :
  (Code.rangeFunc x ps fc body).wpIn (gP (ju Y n B ar dM cq ro)) 0 Y.P (λe a w=>e=zQ ex/\k' (ju Y n B ar dM cq ro) Y.G Y.pr D0 n0 da m' a w) a w:=by
 unfold P9 at h;split at h
 ·rename_i g cap ae;have MY:=jW rfl;subst MY;obtain⟨D,F,C,I,M,⟨β,a5⟩,Q3,hm,fj,ny⟩:=ap;obtain⟨u,az,a3⟩:=(Q3.op [x]).bB (x:=x) (by simp) ae;simp only[aT]at a3;obtain⟨vs,ws,aa,ab,rfl⟩:=a3;have h7:=aa.m9;subst h7;simp only[hE,b']at bj;obtain⟨t1,ag,aW⟩:=Hg h;refine wpIn_rangeFunc λfn _=>?_;let hj:Loop:={ state:=.ready,pending:=none,fn:=fn,tmps:=a.tmps,params:=ps,assign:=fc,body:=body,defers:=w.heap.size }
  let l:=w.heap.size+1
  let kj:World:=(w.alloc (.deferred (some []))).alloc (.loop hj)
  have Az:=a5.TP.o0 (.loop hj);have av:(w.alloc (.deferred (some []))).heap.size=l:=by simp[l]
  rw[av]at Az;have alZ:∀ q∈M,q.num≠l:=λq aM e=>by have:=a5.holds.lt aM;omega
  have Z4:dc Y (D.set m.n ⟨l,0,0⟩) ⟨t1,m.n+1⟩ I (⟨l,.loop hj⟩::M):=hm.new (a:=⟨l,0,0⟩) ag alZ (.loop hj (by simp) ⟨rfl,rfl,a5.size,λt v ay=>((Q3 t v ay).ok (a5.al t)).mono (bH.zH _ hm.fresh),rfl,rfl,rfl,bj.1,bj.2.1,λt ay=>bS (eP.1 bj.2.2 t ay)⟩);unfold YP at aW;obtain⟨⟨v,m2⟩,mi,bC⟩:=ct aW;have Z5:=bH.zH (D:=D) ⟨l,0,0⟩ hm.fresh;have ms:bG (D.set m.n ⟨l,0,0⟩) (.y m.n::cap) (.func (.yield l) #[] #[]::ws):=.cons (by simp only[aT];exact⟨_,bH.pN _ _ _,rfl⟩) (ab.mono Z5);obtain⟨pX,Ap⟩:=ZG aN bU mA aA mi ms Z4;have N9:=Ap kj Az.holds;have aE:=dh a5.al az;refine⟨l,[w0 w.heap.size],kj,{ target:=.fn (.func g) ws.toArray,args:=#[.func (.yield l) #[] #[]] },kj,g,(.func (.yield l) #[] #[]::ws).toArray,kj,?_,?_,λ_ _=>trivial,?_,(λh=>by cases h),?_⟩;·show(Instr.enterLoop fn a.tmps ps fc body none).run Y.P w=_;exact run_enterLoop_outer fn a.tmps ps fc body
  ·show(Deferred.ofValue (a.eval x) (#[Operand.const (.func (.yield l) #[] #[])].map a.eval)).run Y.P kj=_;rw[aE];simp[Deferred.ofValue,Act.eval]
  ·simp only[invoke];rw[show #[Value.func (.yield l) #[] #[]]++ws.toArray=(.func (.yield l) #[] #[]::ws).toArray from by apply gO;simp];exact pX _ _
  ·refine(Mz (X:=ju Y n B ar dM cq none) N9 _).mono ?_;rintro e lL⟨r,hK,rV,rfl,⟨Hz,Q4,xD,ru⟩,Z6,al0⟩;have vE:=Az.after (Mr:=[]) (by simp) Z6 al0;rw[eh]at vE;have AB:Hz m.n=some ⟨l,0,0⟩:=by rw[Q4 m.n (Ip _)];exact bH.pN _ _ _
   have HA:=Z4.le Q4;have al1:qA Hz F al:=λt v ay=>(Q3 t v ay).mono (bH.le_trans Z5 HA);have al2:D0.ext Hz n0:=λi hi=>by
    have fb:i<m.n+1:=by
     have:i<m.n:=by omega
     omega
    rw[Q4 i fb];show(if i=m.n then _ else D i)=D0 i;rw[cb (by omega)];exact fj i hi
   have fin:∀ (L:Loop) (t4:bg e0) (j:Option Code),(⟨l,.loop L⟩:aB)∈rV->L.state≠.busy->L.pending=j->(∃ cG,m2.t.get m.n=some cG)->(∀ id e,t4.get id=some e->(id=m.n/\(none:Option e0)=some e)\/(id≠m.n/\m2.t.get id=some e))->n0<=m2.n ->
     ∃ ia,(Instr.endLoop l).run Y.P lL=.ok j ia/\k' (ju Y n B ar dM cq none) Y.G Y.pr D0 n0 al ⟨t4,m2.n⟩ { a with defers:=[w0 w.heap.size]++a.defers } ia:=by
    rintro L t4 j b9 ai aD⟨cG,al3⟩Ob ZS;have al4:lL.heap[l]?=some (.loop L):=Z6.m _ b9;obtain⟨bc,post,ch⟩:=uH b9;have j5:rV.Perm (⟨l,.loop L⟩::(bc++post)):=by rw[ch];exact qk
    have j3:∀ i eR,t4.get i=some eR->i≠m.n/\m2.t.get i=some eR:=λi eR hi=>by
     rcases Ob i eR hi with⟨_,fo⟩ | fo;·cases fo
     ·exact fo
    have Lg:=(vE.h8 (.perm j5 .refl)).Fx (o':=.loop { L with state:=.exhausted });refine⟨_,(by rw[<-aD];exact run_endLoop al4 ai),Hz,F,C,hK,bc++post,⟨β,Lg⟩,al1,⟨λi eR b hi iQ=>?_,λi fx eR zN b hb hi c7=>ru.inj i fx eR zN b hb (j3 i eR hi).2 (j3 fx zN c7).2,ru.jt,ru.qz⟩,al2,ZS⟩;refine(ru.ih i eR b (j3 i eR hi).2 iQ).mono (bH.le_refl Hz) λq aM aq=>?_;rcases ef.1 (j5.mem_iff.1 aM)with rfl | aM;·exact((j3 i eR hi).1 (ru.inj _ _ _ _ _ _ (j3 i eR hi).2 al3 iQ AB aq.symm)).elim
    ·exact aM
   have pI:∀ {cG:e0},m2.t.get m.n=some cG->n0<=m2.n:=λ_=>by have:=ru.jt _ _ AB;omega
   have bP:(match m2.t.get m.n with
    |some (.loop false ..)=>m2.t.m7 none m.n λt=>some (tT.normal,al,(⟨t,m2.n⟩:bm))
    |some (.done c ..)=>bX (P8 c) none λex=>m2.t.m7 none m.n λt=>some (ex,al,⟨t,m2.n⟩)
    |_=>none)=some (ex,da,m'):=bC
   split at bP;·rename_i JU al5 al6 al7 al8 q6;obtain⟨L,b9,Z7⟩:=(ru.ih _ _ _ q6 AB).Le;obtain⟨t4,eo,fo⟩:=bg.oI (none:Option e0) m2.t m.n;rw[eo]at bP;cases bP;obtain⟨ia,fe,pi⟩:=fin L t4 none b9 (by rw[Z7.aG];simp) Z7.p3 ⟨_,q6⟩ fo (pI q6);exact⟨none,ia,fe,rfl,pi⟩
   ·rename_i c JU al5 al6 al7 al8 q6;obtain⟨L,b9,dE,al9⟩:=(ru.ih _ _ _ q6 AB).alJ;obtain⟨BE,hex,bP⟩:=ct bP;obtain⟨t4,eo,fo⟩:=bg.oI (none:Option e0) m2.t m.n;rw[eo]at bP;cases bP;obtain⟨ia,fe,pi⟩:=fin L t4 (some c) b9 (by rw[dE];simp) al9 ⟨_,q6⟩ fo (pI q6);refine⟨some c,ia,fe,?_⟩;unfold P8 at hex;split at hex
    ·cases hex;exact wpIn_exit ⟨rfl,pi⟩
    ·cases hex;exact wpIn_goto ⟨rfl,pi⟩
    ·cases hex;exact wpIn_ret ⟨rfl,pi⟩
    ·cases hex
   ·cases bP
 ·cases h
end
section
variable{Y:gz}
def Z8{next:Act->World->Prop}(h:Q (zQ ex) a w)(bK:ex≠.normal):Exit.then next Q (zQ ex) a w:=by cases ex<;>first | exact(bK rfl).elim | exact h
def ama(aN:c2 Y.P Y.E)(bU:wE Y.P)(mA:yi Y)(jP:Y.P.follows .mixedOrders=true):∀ f k,k<=f->BM Y k:=by
 intro f
 induction f with
 |zero=>
  intro k af h3 n c al m ex da m' h;have:k=0:=by omega
  subst this;cases h
 |succ f a7=>
  intro k af;by_cases Gr:k<=f;·exact a7 k Gr
  have r1:k=f+1:=by omega
  subst r1;have aA:=a7 f (cj _);have mi:=alX aN bU mA aA;intro h3 n c al m ex da m' h bj B ar dM cq ro D0 n0 a w jW ap;have aa:P' Y f (lz Y f) h3 n c al m=some (ex,da,m'):=h;have jU:=@ju.gC Y n B ar dM cq ro;unfold P' at aa;cases c with
  |skip=>cases aa;exact wpIn_skip ⟨rfl,ap⟩| label l=>cases aa;exact wpIn_label ⟨rfl,ap⟩| ret=>cases aa;exact wpIn_ret ⟨rfl,ap⟩| exit id=>cases aa;exact wpIn_exit ⟨rfl,ap⟩| goto l=>cases aa;exact wpIn_goto ⟨rfl,ap⟩| refuse s=>cases aa
  |seq x y=>
   simp only[hE,b']at bj;simp only[G8]at aa;split at aa;·rename_i fh dH ae;refine wpIn_seq (wpIn_mono (aA _ _ _ _ _ _ _ _ ae bj.1 B ar dM cq ro D0 n0 a w jW ap) ?_);rintro e cu hs⟨rfl,fs⟩;exact aA _ _ _ _ _ _ _ _ aa bj.2 B ar dM cq ro D0 n0 cu hs jW fs
   ·rename_i dB;refine wpIn_seq (wpIn_mono (aA _ _ _ _ _ _ _ _ aa bj.1 B ar dM cq ro D0 n0 a w jW ap) ?_);rintro e cu hs⟨rfl,fs⟩;exact Z8 ⟨rfl,fs⟩ λe=>dB da m' (by rw[aa,e])
  |block id c=>
   simp only[hE]at bj;simp only[YN]at aa;split at aa
   ·rename_i j fh dH ae;refine wpIn_block (wpIn_mono (aA _ _ _ _ _ _ _ _ ae bj B ar dM cq ro D0 n0 a w jW ap) ?_);rintro e cu hs⟨rfl,fs⟩;simp only[zQ,Exit.inBlock];by_cases an:j=id
    ·subst an;rw[qN]at aa;have ab:some (tT.normal,fh,dH)=some (ex,da,m'):=aa;cases ab;rw[cn rfl];exact⟨rfl,fs⟩
    ·rw[g3 an]at aa;have ab:some (tT.exit j,fh,dH)=some (ex,da,m'):=aa;cases ab;rw[cb an];exact⟨rfl,fs⟩
   ·rename_i dB;refine wpIn_block (wpIn_mono (aA _ _ _ _ _ _ _ _ aa bj B ar dM cq ro D0 n0 a w jW ap) ?_);rintro e cu hs⟨rfl,fs⟩;cases ex with
    |exit j=>exact(dB j da m' aa).elim| normal=>exact⟨rfl,fs⟩| goto l=>exact⟨rfl,fs⟩| ret=>exact⟨rfl,fs⟩
  |cond x fB fC=>
   simp only[hE,b']at bj;simp only[YO]at aa;split at aa
   ·rename_i b ae;refine wpIn_cond (ap.eval ae) ?_;cases b with
    |true=>exact aA _ _ _ _ _ _ _ _ aa bj.1 B ar dM cq ro D0 n0 a w jW ap| false=>exact aA _ _ _ _ _ _ _ _ aa bj.2 B ar dM cq ro D0 n0 a w jW ap
   ·cases aa
  |loop c=>
   simp only[hE]at bj;let J (k:Nat) (a:Act) (w:World):Prop:=k<=f+1/\∃ fh dH,lz Y k h3 n (.loop c) fh dH=some (ex,da,m')/\k' (ju Y n B ar dM cq ro) Y.G Y.pr D0 n0 fh dH a w
   refine II J (m:=f+1) ⟨cj _,al,m,h,ap⟩ ?_;rintro k cu hs⟨af,fh,dH,ab,fs⟩;cases k with
   |zero=>cases ab
   |succ k=>
    have Z9:=a7 k (by omega);have ag:G8 (lz Y k h3 n c fh dH) (lz Y k h3 n (.loop c))=some (ex,da,m'):=ab;simp only[G8]at ag;split at ag;·rename_i uT m2 ae;refine wpIn_mono (Z9 _ _ _ _ _ _ _ _ ae bj B ar dM cq ro D0 n0 cu hs jW fs) ?_;rintro e dG kj⟨rfl,kJ⟩;exact⟨k,Ip k,by omega,uT,m2,ag,kJ⟩
    ·rename_i dB;refine wpIn_mono (Z9 _ _ _ _ _ _ _ _ ag bj B ar dM cq ro D0 n0 cu hs jW fs) ?_;rintro e dG kj⟨rfl,kJ⟩;exact Z8 ⟨rfl,kJ⟩ λe=>dB da m' (by rw[ag,e])
  |region id ops amb=>
   cases amb with
   |false=>simp only[KP]at aa;obtain⟨⟨fh,dH⟩,ae,ab⟩:=ct aa;cases ab;refine wpIn_region ?_;have:=QD (X:=ju Y n B ar dM cq ro) (G:=Y.G) (pr:=Y.pr) (D0:=D0) (n0:=n0) aN jU mi ops (λe a w=>e=zQ .normal/\k' (ju Y n B ar dM cq ro) Y.G Y.pr D0 n0 fh dH a w) (λa w h=>⟨rfl,h⟩) ops.toList 0 (by simp) (IH bj) ae ap;have fe:wpOpsIn (gP (ju Y n B ar dM cq ro)) 0 Y.P ops (λe a w=>e=zQ .normal/\k' (ju Y n B ar dM cq ro) Y.G Y.pr D0 n0 fh dH a w) (List.range' 0 ops.toList.length) a w:=this;rw[Ac];simpa using fe
   |true=>simp only[KP]at aa;obtain⟨⟨fh,dH⟩,ae,ab⟩:=ct aa;cases ab;exact ald (X:=ju Y n B ar dM cq ro) (G:=Y.G) (pr:=Y.pr) (D0:=D0) (n0:=n0) aN jU mi jP bj ae (λa w h=>⟨rfl,h⟩) ap
  |scope c=>
   simp only[hE]at bj;have step:∀ (k:Nat) (x:Code) (fh:bg ao) (dH:bm) (cu:Act) (hs:World),hE n x=true->G9 (lz Y f) h3 n c (k+1) x fh dH=some (ex,da,m')->k' (ju Y n B ar dM cq ro) Y.G Y.pr D0 n0 fh dH cu hs ->
     x.wpIn (gP (ju Y n B ar dM cq ro)) 0 Y.P (λe bY w'=>match e with
      | .goto l=>∃ bb uT m2,findLabel c l=some bb/\G9 (lz Y f) h3 n c k bb uT m2=some (ex,da,m')/\k' (ju Y n B ar dM cq ro) Y.G Y.pr D0 n0 uT m2 bY w'| e=>e=zQ ex/\k' (ju Y n B ar dM cq ro) Y.G Y.pr D0 n0 da m' bY w') cu hs:=λk x fh dH cu hs ae ab fs=>by
    have ag:(match lz Y f h3 n x fh dH with
     |some (.goto l,al,m)=>bX (findLabel c l) none λbb=>G9 (lz Y f) h3 n c k bb al m
     |r=>r)=some (ex,da,m'):=ab
    split at ag;·rename_i l uT m2 he;obtain⟨bb,yP,aW⟩:=ct ag;refine wpIn_mono (aA _ _ _ _ _ _ _ _ he ae B ar dM cq ro D0 n0 cu hs jW fs) ?_;rintro e dG kj⟨rfl,kJ⟩;exact⟨bb,uT,m2,yP,aW,kJ⟩
    ·rename_i dB;refine wpIn_mono (aA _ _ _ _ _ _ _ _ ag ae B ar dM cq ro D0 n0 cu hs jW fs) ?_;rintro e dG kj⟨rfl,kJ⟩;cases ex with
     |goto l=>exact(dB l da m' ag).elim| exit j=>exact⟨rfl,kJ⟩| normal=>exact⟨rfl,kJ⟩| ret=>exact⟨rfl,kJ⟩
   let J (l k:Nat) (a:Act) (w:World):Prop:=∃ bb fh dH,findLabel c l=some bb/\G9 (lz Y f) h3 n c k bb fh dH=some (ex,da,m')/\k' (ju Y n B ar dM cq ro) Y.G Y.pr D0 n0 fh dH a w
   cases f with
   |zero=>cases aa
   |succ f'=>
    refine TN J (wpIn_mono (step f' c al m a w bj aa ap) ?_) ?_
    ·intro e cu hs he;cases e with
     |goto l=>exact⟨f',he⟩| _=>exact he
    ·rintro l k cu hs⟨bb,fh,dH,yP,ab,fs⟩;cases k with
     |zero=>cases ab
     |succ k=>
      refine⟨bb,yP,wpIn_mono (step k bb fh dH cu hs (QX bj yP) ab fs) ?_⟩;intro e dG kj he;cases e with
      |goto cR=>exact⟨k,Ip k,he⟩| _=>exact he
  |rangeFunc x ps fc body=>exact alY aN bU mA aA aa bj jW ap
def reckon(aN:c2 Y.P Y.E)(bU:wE Y.P)(mA:yi Y)(jP:Y.P.follows .mixedOrders=true){m m':bm}{v:ao}(h:zC Y (lz Y f) g args m=some (v,m'))(hu:bG D args us)(hm:dc Y D m I M) : Spec Y.P g us I M λr I' M'=>∃ bx,D.ext bx m.n/\aT bx v r/\dc Y bx m' I' M':=
 ZH aN bU mA (ama aN bU mA jP f f (cj _)) h hu hm
end
def Z'(h:ew I M w)(aa:ew I' M' w')(ab:Kept I [] w I' M' w') :
  ew I' (M'++M) w'/\Kept I M w I' (M'++M) w'/\∀ x∈M',∀ y∈M,x.num≠y.num:=by
 have aR:∀ x∈M,x.num<w.heap.size:=λx ae=>(lD.1 (h.m x ae)).1;have cP:∀ x∈M',w.heap.size<=x.num:=λx ae=>by
  rcases ab.u' x ae with⟨y,aF,_⟩ | h;·cases aF
  ·exact h
 have bK:∀ x∈M',∀ y∈M,x.num≠y.num:=λx ae y aF e=>by have:=aR y aF;have:=cP x ae;omega
 refine⟨⟨aa.i,λx ae=>?_,λx ae=>?_,?_⟩,⟨ab.le,ab.tP,λx ae=>?_,λb ai _=>ab.du b ai (by simp),ab.out,ab.sz⟩,bK⟩
 ·rcases dQ.1 ae with ae | ae
  ·exact aa.m x ae
  ·rw[ab.du x.num (aR x ae) (by simp)];exact h.m x ae
 ·rcases dQ.1 ae with ae | ae
  ·exact aa.d x ae
  ·cases he:I' x.num with
   |none=>rfl
   |some o=>
    rcases ab.tP _ _ he with ag | ag;·rw[h.d x ae]at ag;cases ag
    ·have:=aR x ae;omega
 ·rw[e7,wW];refine⟨aa.bT,h.bT,λa aC b ai e=>?_⟩;obtain⟨x,ae,rfl⟩:=dA.1 aC;obtain⟨y,aF,rfl⟩:=dA.1 ai;exact bK x ae y aF e
 ·rcases dQ.1 ae with ae | ae
  ·exact .inr (cP x ae)
  ·exact .inl ⟨x,ae,rfl⟩
def Spec.frame{args:List Value}{Q:Value->aZ->List aB->Prop}(h:Spec P f args I [] Q):Spec P f args I M λr I' nw=>∃ M',nw=M'++M/\(∀ x∈M',∀ y∈M,x.num≠y.num)/\(∀ b o,I b=some o->I' b=some o)/\Q r I' M':=by
 have ar:∀ {w:World},ew I M w->ew I [] w:=λhw=>⟨hw.i,by simp,by simp,by simp⟩;rcases h with⟨aa,ab⟩ | h
 ·refine .inl ⟨aa,λw hw=>?_⟩;refine(ab w (ar hw)).mono ?_;rintro e w'⟨v,I',M',az,aE,bz,cT⟩;obtain⟨a3,a6,bI⟩:=Z' hw bz cT;exact⟨v,I',M'++M,az,⟨M',rfl,bI,cT.le,aE⟩,a3,a6⟩
 ·refine .inr λw hw=>?_;obtain⟨v,w',I',M',az,aE,bz,cT⟩:=h w (ar hw);obtain⟨a3,a6,bI⟩:=Z' hw bz cT;exact⟨v,w',I',M'++M,az,⟨M',rfl,bI,cT.le,aE⟩,a3,a6⟩
mutual
def jv(k:Nat):ao->ao
 | .p id off=>.p (Nat.add id k) off| .sl id off n c=>.sl (Nat.add id k) off n c| .sx id off e n=>.sx (Nat.add id k) off e n| .m id=>.m (Nat.add id k)| .y id=>.y (Nat.add id k)| .f g l r=>.f g (qD k l) (qD k r)| .GX t v=>.GX t (jv k v)| .t l=>.t (qD k l)| .a l=>.a (qD k l)| .b x=>.b x| .i a n=>.i a n| .s l=>.s l| .pn=>.pn| .g n off=>.g n off| .sn=>.sn| .gs n off a c=>.gs n off a c| .so=>.so| .mn=>.mn| .fn=>.fn| .ni=>.ni
def qD(k:Nat):List ao->List ao
 |[]=>[]| v::l=>jv k v::qD k l
end
section
mutual
def Eg{D0 D:bH}{k:Nat}(di:∀ id a,D0 id=some a->D (Nat.add id k)=some a):∀ (v:ao) {u:Value},aT D0 v u->aT D (jv k v) u
 | .p id off,u,h=>by simp only[aT,jv]at h |-;obtain⟨a,aC,h⟩:=h;exact⟨a,di _ _ aC,h⟩
 | .sl id off n c,u,h=>by simp only[aT,jv]at h |-;obtain⟨a,aC,h⟩:=h;exact⟨a,di _ _ aC,h⟩
 | .sx id off e n,u,h=>by simp only[aT,jv]at h |-;obtain⟨a,aC,h⟩:=h;exact⟨a,di _ _ aC,h⟩
 | .m id,u,h=>by simp only[aT,jv]at h |-;obtain⟨a,aC,h⟩:=h;exact⟨a,di _ _ aC,h⟩
 | .y id,u,h=>by simp only[aT,jv]at h |-;obtain⟨a,aC,h⟩:=h;exact⟨a,di _ _ aC,h⟩
 | .f g l r,u,h=>by simp only[aT,jv]at h |-;obtain⟨vs,ws,aa,ab,h⟩:=h;exact⟨vs,ws,HB di l aa,HB di r ab,h⟩
 | .GX t v,u,h=>by simp only[aT,jv]at h |-;obtain⟨x,aa,h⟩:=h;exact⟨x,Eg di v aa,h⟩
 | .t l,u,h=>by simp only[aT,jv]at h |-;obtain⟨x,aa,h⟩:=h;exact⟨x,HB di l aa,h⟩
 | .a l,u,h=>by simp only[aT,jv]at h |-;obtain⟨x,aa,h⟩:=h;exact⟨x,HB di l aa,h⟩
 | .b x,u,h=>by simpa only[aT,jv]using h
 | .i a n,u,h=>by simpa only[aT,jv]using h
 | .s l,u,h=>by simpa only[aT,jv]using h
 | .pn,u,h=>by simpa only[aT,jv]using h
 | .g n off,u,h=>by simpa only[aT,jv]using h
 | .sn,u,h=>by simpa only[aT,jv]using h
 | .gs n off a c,u,h=>by simpa only[aT,jv]using h
 | .so,u,h=>by simpa only[aT,jv]using h
 | .mn,u,h=>by simpa only[aT,jv]using h
 | .fn,u,h=>by simpa only[aT,jv]using h
 | .ni,u,h=>by simpa only[aT,jv]using h
def HB{D0 D:bH}{k:Nat}(di:∀ id a,D0 id=some a->D (Nat.add id k)=some a):∀ (l:List ao) {us:List Value},bG D0 l us->bG D (qD k l) us
 |[],us,h=>by simpa only[bG,qD]using h
 |v::l,us,h=>by simp only[bG,qD]at h |-;obtain⟨x,xs,aa,ab,h⟩:=h;exact⟨x,xs,Eg di v aa,HB di l ab,h⟩
end
end
inductive uU where
 |cells(l:List ao)(T:Nat)| map (es:List (ao×ao))
noncomputable def HC:e0->Option uU
 | .cells cs T e1=>cs.DN 0 e1 λl=>some (.cells l T)
 | .map es=>some (.map es)| _=>none
noncomputable def readAll(t:bg e0):Nat->Nat->Option (List uU)
 |_,0=>some []| id,n+1=>bX (t.get id) none λe=>bX (HC e) none λs=>bX (readAll t (Nat.add id 1) n) none λl=>some (s::l)
def Q5(k:Nat):List (ao×ao)->List (ao×ao)
 |[]=>[]| p::l=>(jv k p.1,jv k p.2)::Q5 k l
noncomputable def uU.ih(k:Nat):uU->e0
 | .cells l T=>bg.x5 (qD k l) .nil 0 λcs=>.cells cs T l.length
 | .map es=>.map (Q5 k es)
noncomputable def Li{R:Type}(k:Nat):List uU->Nat->bg e0->(bg e0->R)->R
 |[],_,t,K=>K t| s::l,id,t,K=>t.m7 (some (s.ih k)) id λt=>Li k l (Nat.add id 1) t K
noncomputable def Q6(v:ao)(L:List uU)(m:bm):Option (ao×bm):=ry m.n λn=>ry (Nat.add n L.length) λeO=>Li n L n m.t λt=>some (jv n v,⟨t,eO⟩)
def aaa{t:bg e0}:∀ {n id:Nat} {L:List uU},readAll t id n=some L->L.length=n/\∀ j s,L[j]?=some s->∃ e,t.get (id+j)=some e/\HC e=some s
 |0,id,L,h=>by cases h;exact⟨rfl,by simp⟩
 |n+1,id,L,h=>by
  unfold readAll at h;obtain⟨e,aa,h⟩:=ct h;obtain⟨s,ab,h⟩:=ct h;obtain⟨l,ag,h⟩:=ct h;cases h;obtain⟨a3,a6⟩:=aaa ag;refine⟨by simp[a3],λj cc an=>?_⟩;cases j with
  |zero=>cases an;exact⟨e,aa,ab⟩| succ j=>obtain⟨bq,eg,cA⟩:=a6 j cc (by simpa using an);refine⟨bq,?_,cA⟩;rw[<-eg];congr 1;show id+(j+1)=id+1+j;omega
def aab(k:Nat):∀ (L:List uU) (id:Nat) (t:bg e0),∃ cZ:bg e0,(∀ {R:Type} (K:bg e0->R),Li k L id t K=K cZ) /\ ∀ j e,cZ.get j=some e->(id<=j/\∃ s,L[j-id]?=some s/\e=s.ih k)\/((j<id\/id+L.length<=j)/\t.get j=some e)
 |[],id,t=>⟨t,λK=>rfl,λj e h=>.inr ⟨by simp;omega,h⟩⟩
 |s::L,id,t=>by
  obtain⟨t1,aa,ab⟩:=bg.oI (some (s.ih k)) t id;obtain⟨cZ,ag,aW⟩:=aab k L (id+1) t1;refine⟨cZ,λK=>?_,λj e h=>?_⟩;·unfold Li;rw[aa];exact ag K
  ·rcases aW j e h with⟨a3,cc,a6,bI⟩ | ⟨a3,a6⟩
   ·refine .inl ⟨by omega,cc,?_,bI⟩;rw[show j-id=(j-(id+1))+1 by omega];simpa using a6
   ·rcases ab j e a6 with⟨rfl,bI⟩ | ⟨bI,eQ⟩
    ·refine .inl ⟨cj _,s,by simp,?_⟩;cases bI;rfl
    ·refine .inr ⟨?_,eQ⟩;simp only[ea];omega
def amc{k:Nat}(di:∀ id a,D0 id=some a->D (Nat.add id k)=some a){es:List (ao×ao)}{l:List MapEntry}(h:qB D0 es l):qB D (Q5 k es) l:=by
 induction h with
 |nil=>exact .nil| cons af aj t a7=>exact .cons (Eg di _ af) (Eg di _ aj) a7
def aac{k:Nat}:∀ {l:List ao} {i:Nat} {v:ao},(qD k l)[i]?=some v->∃ wF,l[i]?=some wF/\v=jv k wF
 |[],i,v,h=>by simp[qD]at h
 |x::l,0,v,h=>by simp only[qD,List.getElem?_cons_zero,j']at h;exact⟨x,rfl,h.symm⟩
 |x::l,i+1,v,h=>by simp only[qD,EP]at h;simpa using aac h
def amd{k:Nat}(di:∀ id a,D0 id=some a->D (Nat.add id k)=some a)(a1:∀ x∈M,x∈M'){a:Loc}{e:e0}{s:uU}(h:k9 D0 E M a e)(ak:HC e=some s):k9 D E M' a (s.ih k):=by
 cases h with
 | @cells cs T e1 arr ar aa ab ag aW bC=>
  unfold HC at ak;obtain⟨l,a3,a6,bI⟩:=bg.D3 cs e1 0 _ _ ak;cases bI;obtain⟨cZ,eg,cA⟩:=bg.ya (qD k l) (.nil:bg ao) 0;show k9 D E M' a (bg.x5 (qD k l) .nil 0 λcs=>e0.cells cs T l.length);rw[eg,a3];refine .cells arr ar (a1 _ aa) ab (λi v hi au=>?_) aW bC;rcases cA i v au with⟨_,h⟩ | ⟨_,h⟩;·obtain⟨wF,az,rfl⟩:=aac (by simpa using h);have:=a6 i hi;rw[c0,az]at this;obtain⟨x,f1,f2⟩:=ag i wF hi this;exact⟨x,f1,Eg di _ f2⟩
  ·cases h
 |map l clock aa ab=>cases ak;exact .map l clock (a1 _ aa) (amc di ab)| loop L aa ab=>cases ak| done L aa ab ag=>cases ak
def ame(aN:c2 Y.P Y.E)(bU:wE Y.P)(jP:Y.P.follows .mixedOrders=true){la:bm}{wF:ao}{L:List uU}(ar:zC ⟨Y.P,Y.E,λ_=>none,λ_ _ _=>none⟩ (lz ⟨Y.P,Y.E,λ_=>none,λ_ _ _=>none⟩ f) g args ⟨.nil,0⟩=some (wF,la))(b9:readAll la.t 0 la.n=some L)(eA:∀ D us,bG D args us->bG (λ_=>none) args us){m m':bm}{v:ao}(h:Q6 wF L m=some (v,m'))(hu:bG D args us)(hm:dc Y D m I M) :
  Spec Y.P g us I M λr I' M'=>∃ bx,D.ext bx m.n/\aT bx v r/\dc Y bx m' I' M':=by
 have mA:yi ⟨Y.P,Y.E,λ_=>none,λ_ _ _=>none⟩:=λg vs m v m' h=>by cases h
 have amf:dc ⟨Y.P,Y.E,λ_=>none,λ_ _ _=>none⟩ (λ_=>none) ⟨.nil,0⟩ I []:=⟨λid e a h aX=>(by cases aX),λid ij e bq a bY h aa aX=>(by cases aX),λid a h=>(by cases h),λg cs h=>(by cases h)⟩;have ap:=(reckon (Y:=⟨Y.P,Y.E,λ_=>none,λ_ _ _=>none⟩) aN bU mA jP ar (eA D us hu) amf).frame (M:=M);refine Spec.nT ap ?_;rintro r I' nw⟨M0,rfl,bK,bs,D0,-,aj,Eh⟩;unfold Q6 at h;rw[Qa,Qa]at h;obtain⟨cZ,aa,ab⟩:=aab m.n L m.n m.t;rw[aa]at h;cases h;obtain⟨a3,a6⟩:=aaa b9;let bx:bH:=λid=>if id<m.n then D id else D0 (id-m.n)
 have di:∀ id a,D0 id=some a->bx (Nat.add id m.n)=some a:=λid a aC=>by show(if id+m.n<m.n then D (id+m.n)else D0 (id+m.n-m.n))=some a;rw[cb (by omega),Nat.add_sub_cancel,aC]
 have vd:D.le bx:=λid a aC=>by show(if id<m.n then D id else D0 (id-m.n))=some a;rw[cn (hm.jt _ _ aC),aC]
 have lo:∀ id,id<m.n->bx id=D id:=λid hi=>cn hi;have c7:∀ id,m.n<=id->bx id=D0 (id-m.n):=λid hi=>cb (by omega);have src:∀ id e a,cZ.get id=some e->bx id=some a->(m.n<=id/\∃ s cG,e=s.ih m.n/\la.t.get (id-m.n)=some cG/\HC cG=some s/\D0 (id-m.n)=some a)\/(id<m.n/\m.t.get id=some e/\D id=some a):=λid e a he aC=>by
  rcases ab id e he with⟨eg,s,cA,gu⟩ | ⟨eg,cA⟩;·obtain⟨cG,jG,v0⟩:=a6 _ _ cA;rw[c0]at jG;rw[c7 _ eg]at aC;exact .inl ⟨eg,s,cG,gu,jG,v0,aC⟩
  ·rcases Nat.lt_or_ge id m.n with aR | cP
   ·rw[lo _ aR]at aC;exact .inr ⟨aR,cA,aC⟩
   ·rw[c7 _ cP]at aC;have:=Eh.jt _ _ aC;omega
 refine⟨bx,λid hi=>lo id hi,Eg di _ aj,⟨λid e a he aC=>?_,λid ij e bq a bY he sQ aC wu ai=>?_,λid a aC=>?_,hm.qz.mono bs⟩⟩
 ·rcases src id e a he aC with⟨eg,s,cG,rfl,cA,gu,jG⟩ | ⟨eg,cA,gu⟩
  ·exact amd di (λx ae=>kF _ ae) (Eh.ih _ _ _ cA jG) gu
  ·exact(hm.ih _ _ _ cA gu).mono vd λx ae _=>pS _ ae
 ·rcases src id e a he aC with⟨eg,s,cG,rfl,cA,gu,jG⟩ | ⟨eg,cA,gu⟩
  ·rcases src ij bq bY sQ wu with⟨iE,cc,amg,rfl,hO,i',Q7⟩ | ⟨iE,hO,i'⟩
   ·have:=Eh.inj _ _ _ _ _ _ cA hO jG Q7 ai;omega
   ·obtain⟨x,ae,jK⟩:=Eh.aP cA jG;obtain⟨y,aF,HD⟩:=hm.aP hO i';exact(bK x ae y aF (jK.trans (ai.trans HD.symm))).elim
  ·rcases src ij bq bY sQ wu with⟨iE,cc,amg,rfl,hO,i',Q7⟩ | ⟨iE,hO,i'⟩
   ·obtain⟨x,ae,jK⟩:=Eh.aP hO Q7;obtain⟨y,aF,HD⟩:=hm.aP cA gu;exact(bK x ae y aF (jK.trans (ai.symm.trans HD.symm))).elim
   ·exact hm.inj _ _ _ _ _ _ cA hO gu i' ai
 ·show id<m.n+L.length;rcases Nat.lt_or_ge id m.n with aR | cP
  ·omega
  ·rw[c7 _ cP]at aC;have:=Eh.jt _ _ aC;omega
open Go Go.Proofs
def amh(k:Nat):liesAt Tryz.prog Tryz.prog.depth 240 ((k+1)*2/Tryz.prog.cellsOf 240) 0 240 1=true:=by
 have ab:Tryz.prog.cellsOf 240=2:=by kernel_rfl
 have ah:Tryz.prog.depth=(Tryz.prog.depth-1)+1:=by kernel_rfl
 have g6:sameLayout Tryz.prog Tryz.prog.depth 240 240=true:=by kernel_rfl
 have ak:rowAt Tryz.prog (sameLayout Tryz.prog Tryz.prog.depth · 240) Tryz.prog.depth 240 (k+1) 0 1=true:=by
  generalize aJ:(sameLayout Tryz.prog Tryz.prog.depth · 240)=f;have vy:f 240=true:=by rw[<-aJ];exact g6
  rw[ah];unfold rowAt;simp only[ab,vy];simp
 rw[ab,Nat.mul_div_cancel _ (by decide:0<2)];rw[ah];unfold liesAt;rw[ak];rfl
def ami(bc post:List aB)(b:Nat)(v:Value)(k:Nat)(bb:List Value)(ak:bb.length=2*k) :
  Spec Tryz.prog 191 [ptr b] I (bc++⟨b,.cells (.pointer none::v::bb).toArray 240 (0,0)⟩::post) λr I' M'=>r=.tuple #[]/\I'=I/\M'=bc++⟨b,.cells (bo (.pointer none::v::bb) 0 [ptr b]).toArray 240 (0,0)⟩::post:=by
 obtain⟨inf,z,hi,fb,_⟩:=(aV 240 _ rfl).inf;refine bN [] aV Tryz.func191 rfl rfl rfl ?_;intro B ar;have hm:∀ {o:Obj},(⟨b,o⟩:aB)∈bc++⟨b,o⟩::post:=fun {o}=>dQ.2 (.inr (.head _));have df:(Value.pointer none::v::bb).toArray.size=(k+1)*2:=by simp[ak];omega
 have av:liesAt Tryz.prog Tryz.prog.depth 240 ((Value.pointer none::v::bb).toArray.size/Tryz.prog.cellsOf 240) 0 240 1=true:=by rw[df];exact amh k
 refine aI.mk [.pointer none] (dO (cs:=.pointer none::v::bb) (k:=0) (n:=1) (T:=240) hm (by simp)) ?_;refine .other (bn.Jb aV rfl (by simp) rfl rfl rfl rfl ?_);refine aU.mk (λ_=>?_) (λh=>by cases h);refine bn.conv rfl (by simp) rfl (λw hw=>Lib.run_to_unsafe (t:=240) (e:=240) w ⟨b,0,none⟩ (by kernel_rfl) (by kernel_rfl) (j:=inf) (cells:=(Value.pointer none::v::bb).toArray.size) hi (by rw[fb];decide) (Jd hw hm) (by rw[df];show 0<_;omega)) ?_;refine a9.mk (bc++⟨b,.cells (.pointer none::v::bb).toArray 240 (0,0)⟩::post) [] _ (by simp) (Nq _) ?_;rintro v I' M' -⟨rfl,rfl,rfl⟩;refine bn.conv rfl (by simp) rfl (λw hw=>Lib.run_from_unsafe (u:=240) (e:=240) w ⟨b,0,none⟩ (by kernel_rfl) (by kernel_rfl) (j:=inf) (cells:=(Value.pointer none::v::bb).toArray.size) hi (Jd hw (dQ.2 (.inl hm))) av) ?_;refine cp.mk bc post _ _ (eh _) rfl (by rw[df];show 0+0+1<=(k+1)*2;omega) rfl ?_;exact⟨_,_,.refl,rfl,rfl,rfl⟩
def amj{T:Nat}(a1:(⟨b,.cells arr T (0,0)⟩:aB)∈M)(ar:arr[0]?=some (ptr b)) :
  Spec Tryz.prog 191 [ptr b] I M λr I' M'=>r=.tuple #[]/\I'=I/\M'=M:=by
 refine bN [] aV Tryz.func191 rfl rfl rfl ?_;intro B hY;have ak:cr I M ((⟨b,0,none⟩:Addr).add 0) 1 [ptr b]:=by
  obtain⟨l⟩:=arr;cases l with
  |nil=>simp at ar| cons x l=>simp only[Ab,List.getElem?_cons_zero,j']at ar;subst ar;exact dO (cs:=ptr b::l) (k:=0) (n:=1) a1 (by simp)
 refine aI.mk [ptr b] ak ?_;refine .other (bn.Jb aV rfl (by simp) rfl rfl rfl rfl ?_);refine aU.mk (λh=>by cases h) (λ_=>?_);refine aI.mk [ptr b] ak ?_;refine .other (bn.Ux aV rfl (by simp) rfl rfl rfl rfl rfl ?_);refine aU.mk (λh=>by cases h) (λ_=>?_);exact⟨_,_,.refl,rfl,rfl,rfl⟩
def amk{m:bm}{id off:Nat}{cs:bg ao}{T e1:Nat}{a:Loc}{bc post:List aB}(hm:dc Y D m I M)(au:m.t.get id=some (.cells cs T e1))(aC:D id=some a)(aw:a.o=0)(ch:M=bc++⟨a.b,.cells arr T (0,0)⟩::post)(df:a.o+e1<=arr.size)(aA:∀ i v,i<e1->cs.get i=some v->∃ x,arr[a.o+i]?=some x/\aT D v x)(af:∀ i,Y.E T=some i->arr.size=a.o+a.c*i.size)(jP:a.c<=maxLen)
  {l:List ao} {vs:List Value} (av:bG D l vs) {K:bm->Option R} {r:R} (h:x9 m (.p id off) l K=some r) :
  ∃ m',K m'=some r/\m'.n=m.n/\off+vs.length<=arr.size/\dc Y D m' I (bc++⟨a.b,.cells (bo arr.toList off vs).toArray T (0,0)⟩::post):=by
 unfold x9 at h;simp only[au]at h;cases ai:(Nat.ble (Nat.add off l.length) e1&&l.all ao.one)with
 |false=>rw[ai]at h;cases h
 |true=>
  rw[ai]at h;simp only[bl]at h;rw[b']at ai;have zJ:off+l.length<=e1:=bS ai.1;obtain⟨cs',aa,ab⟩:=bg.ya l cs off;rw[aa]at h;obtain⟨cZ,ag,aW⟩:=bg.oI (some (e0.cells cs' T e1)) m.t id;rw[ag]at h;have bQ:=av.len;have ga:off+vs.length<=arr.size:=by omega
  refine⟨_,h,rfl,ga,?_⟩;have gG:∀ x∈M,x.num≠a.b->x∈bc++⟨a.b,.cells (bo arr.toList off vs).toArray T (0,0)⟩::post:=λx ae aq=>by
   rw[ch]at ae;rcases dQ.1 ae with ae | ae;·exact dQ.2 (.inl ae)
   ·rcases ef.1 ae with rfl | ae
    ·exact(aq rfl).elim
    ·exact dQ.2 (.inr (nQ _ ae))
  refine hm.step (λi e hi=>(aW i e hi).imp (λq=>⟨q.1,oJ q.2⟩) λq=>q) aC (bH.le_refl D) (λ_ _=>rfl) hm.jt (λ_ _ h=>h) (λi e bY bK hi oN x ae aq=>gG x ae ?_) ?_ ?_;·rw[aq];exact λai=>bK (hm.inj _ _ _ _ _ _ hi au oN aC ai)
  ·have zK:(bo arr.toList off vs).length=arr.size:=by rw[Qp (by simpa using ga)];simp
   refine .cells (bo arr.toList off vs).toArray aw (by simp) (by simp[zK];exact df) (λi v hi Hi=>?_) (λi hi=>by simp[zK];exact af i hi) jP;rw[aw,c0];simp only[Ab];rw[Y3 (by simpa using ga)];rcases ab i v Hi with⟨a3,a6⟩ | ⟨a3,a6⟩;·have aR:=(hT.1 a6).1;rw[cn ⟨a3,by omega⟩];exact av.get a6
   ·rw[cb (by omega)];have:=aA i v hi a6;rw[aw,c0]at this;simpa using this
  ·intro i e bY bK hi oN ai;exact bK (hm.inj _ _ _ _ _ _ hi au oN aC ai)
noncomputable def Q8(m:bm)(vs:List ao):Option (ao×bm):=match vs with
 |[.p id 0]=>(match m.t.get id with
  |some (.cells cs T e1)=>b5 (Nat.beq T 240&&Nat.ble 2 e1) (match cs.get 0 with
   |some .pn=>x9 m (.p id 0) [.p id 0] λm=>some (.t [],m)
   |some (.p ij 0)=>b5 (Nat.beq id ij) (some (.t [],m)) none| _=>none) none
  |_=>none)
 |_=>none
def aml(vJ:Y.P=Tryz.prog)(amm:Y.E=hL){m m':bm}{vs:List ao}{v:ao}(h:Q8 m vs=some (v,m'))(hu:bG D vs us)(hm:dc Y D m I M) :
  Spec Y.P 191 us I M λr I' M'=>∃ bx,D.ext bx m.n/\aT bx v r/\dc Y bx m' I' M':=by
 unfold Q8 at h;split at h
 ·rename_i id;obtain⟨x,xs,ae,aq,rfl⟩:=hu.j6;obtain rfl:=aq.m9;obtain⟨a,aC,rfl⟩:=ae.ptr;split at h
  ·rename_i cs T e1 au;obtain⟨aa,aM⟩:=fw h;clear h;rw[b']at aa;obtain⟨bp,zJ⟩:=aa;obtain rfl:=c6 bp;have zJ:=bS zJ;obtain⟨arr,aw,a1,av,aA,af,jP⟩:=hm.ih _ _ _ au aC;have df:=af _ (by rw[amm];rfl);have df:arr.size=a.c*2:=by rw[df,aw,c0]
   have aD:Value.pointer (some ⟨a.b,a.o+0,none⟩)=ptr a.b:=by rw[aw];rfl
   split at aM
   ·rename_i CI;obtain⟨vt,fj,Q9⟩:=aA 0 _ (by omega) CI;obtain⟨bc,post,ch⟩:=uH a1;obtain⟨dH,ab,ag,aW,bC⟩:=amk hm au aC aw ch av aA af jP (l:=[.p id 0]) (vs:=[ptr a.b]) (by simp only[bG,aT];exact⟨_,_,⟨a,aC,aD.symm⟩,rfl,rfl⟩) aM;cases ab;rw[aD,vJ,ch];obtain⟨l⟩:=arr;have Q':vt=.pointer none:=by simpa only[aT]using Q9
    rw[aw]at fj
    match l,fj,df with
    |[],fj,_=>simp at fj| [_],_,df=>simp at df;omega
    |y::w::bb,fj,df=>
     have aF:y=.pointer none:=by simpa[Q']using fj
     subst aF;have gW:bb.length=2*(a.c-1):=by simp at df;omega
     refine Spec.nT (ami bc post a.b w (a.c-1) bb gW) ?_;rintro r I' M'⟨rfl,rfl,rfl⟩;exact⟨D,bH.oL,by simp only[aT,bG];exact⟨[],rfl,rfl⟩,bC⟩
   ·rename_i ij CI;obtain⟨ab,A7⟩:=fw aM;obtain rfl:=c6 ab;cases A7;obtain⟨vt,fj,Q9⟩:=aA 0 _ (by omega) CI;obtain⟨bY,wu,rfl⟩:=Q9.ptr;rw[aC]at wu;cases wu;rw[aD]at fj |-;rw[vJ];refine Spec.nT (amj a1 (by rw[<-fj,aw])) ?_;rintro r I' M'⟨rfl,rfl,rfl⟩;exact⟨D,bH.oL,by simp only[aT,bG];exact⟨[],rfl,rfl⟩,hm⟩
   ·cases aM
  ·cases h
 ·cases h
def ig(I:aZ):List aB->aZ
 |[]=>I| x::l=>ins (ig I l) x.num x.obj
def Lj{I:aZ}:∀ {M:List aB} {b:Nat} {o:Obj},ig I M b=some o->I b=some o\/∃ x∈M,x.num=b/\x.obj=o
 |[],b,o,h=>.inl h
 |x::l,b,o,h=>by
  unfold ig ins at h;by_cases e:b=x.num;·subst e;simp only[qN,bl,j']at h;exact .inr ⟨x,by simp,rfl,h⟩
  ·simp only[g3 e,bh]at h;rcases Lj h with h | ⟨y,aa,ab,ag⟩
   ·exact .inl h
   ·exact .inr ⟨y,by simp[aa],ab,ag⟩
def aad{I:aZ}:∀ {M:List aB} (aq:(M.map (·.num)).Nodup) {x:aB},x∈M->ig I M x.num=some x.obj
 |y::l,aq,x,h=>by
  simp only[cY,nh]at aq;rcases ef.1 h with rfl | h;·unfold ig ins;simp only[qN,bl]
  ·have e:x.num≠y.num:=λe=>aq.1 (dA.2 ⟨x,h,e⟩);unfold ig ins;simp only[g3 e,bh];exact aad aq.2 h
def Ra{I:aZ}:∀ {M:List aB} (ah:∀ x∈M,I x.num=none) {b:Nat} {o:Obj},I b=some o->ig I M b=some o
 |[],ah,b,o,h=>h
 |y::l,ah,b,o,h=>by
  have e:b≠y.num:=λe=>by have:=ah y (by simp);rw[<-e,h]at this;cases this
  unfold ig ins;simp only[g3 e,bh];exact Ra (λx ae=>ah x (by simp[ae])) h
def amn(aq:(M.map (·.num)).Nodup)(ah:∀ x∈M,I x.num=none){o:Obj}(h:hH I M b o):ig I M b=some o:=by
 rcases h with h | ⟨x,aa,rfl,rfl⟩
 ·exact Ra ah h
 ·exact aad aq aa
structure sr(I:aZ)(M:List aB)(J:aZ):Prop where
 kn:∀ b o,hH I M b o->J b=some o
 inv:∀ b o,J b=some o->hH I M b o
def aae(aa:ew I' M' w')(ab:Kept I [] w I' M' w'):sr I' M' (ig I' M')/\ew (ig I' M') [] w'/\Kept I [] w (ig I' M') [] w':=by
 refine⟨⟨λb o h=>amn aa.bT aa.d h,λb o h=>?_⟩,⟨λb o h=>?_,by simp,by simp,by simp⟩,⟨λb o h=>Ra aa.d (ab.le _ _ h),λb o h=>?_,by simp,ab.du,ab.out,ab.sz⟩⟩
 ·rcases Lj h with h | ⟨x,a3,a6,bI⟩
  ·exact .inl h
  ·exact .inr ⟨x,a3,a6,bI⟩
 ·rcases Lj h with h | ⟨x,a3,rfl,rfl⟩
  ·exact aa.i _ _ h
  ·exact aa.m _ a3
 ·rcases Lj h with h | ⟨x,a3,rfl,rfl⟩
  ·exact ab.tP _ _ h
  ·rcases ab.u' _ a3 with⟨y,aF,_⟩ | h
   ·cases aF
   ·exact .inr h
def Spec.ig{args:List Value}{Q:Value->aZ->List aB->Prop}(h:Spec P f args I [] Q):Spec P f args I [] λr J nw=>nw=[]/\(∀ b o,I b=some o->J b=some o)/\∃ I' M',Q r I' M'/\sr I' M' J:=by
 rcases h with⟨aa,ab⟩ | h
 ·refine .inl ⟨aa,λw hw=>?_⟩;refine(ab w hw).mono ?_;rintro e w'⟨v,I',M',az,aE,bz,cT⟩;obtain⟨a3,a6,bI⟩:=aae bz cT;exact⟨v,_,[],az,⟨rfl,bI.le,I',M',aE,a3⟩,a6,bI⟩
 ·refine .inr λw hw=>?_;obtain⟨v,w',I',M',az,aE,bz,cT⟩:=h w hw;obtain⟨a3,a6,bI⟩:=aae bz cT;exact⟨v,w',_,[],az,⟨rfl,bI.le,I',M',aE,a3⟩,a6,bI⟩
noncomputable def BO{α:Type}(l:List α):bg α:=bg.x5 l .nil 0 id
def aaf{l:List α}{i:Nat}{v:α}(h:(BO l).get i=some v):l[i]?=some v:=by
 obtain⟨t,aa,ab⟩:=bg.ya l (.nil:bg α) 0;unfold BO at h;rw[aa]at h;rcases ab _ _ h with⟨_,h⟩ | ⟨_,h⟩
 ·simpa using h
 ·cases h
noncomputable def Lk:GT:=λg=>b5 (Nat.beq g 0) (some (BO (mN.map (ao.i .i64)))) (b5 (Nat.beq g 1) (some (BO (ug.map ao.s))) (b5 (Nat.beq g 3) (some (BO [.i .i64 0,.i .i64 1,.s [63],.i .i64 0,.i .i64 (-1),.s [42],.i .i64 1,.i .i64 (-1),.s [43]])) (b5 (Nat.beq g 5) (some (BO (gb.map (ao.i .u8)))) none)))
def Rb{f:α->ao}{h:α->Value}(aJ:∀ x D,aT D (f x) (h x)){l:List α}{i:Nat}{v:ao}(aj:(BO (l.map f)).get i=some v):∃ x,(l.map h).toArray[i]?=some x/\∀ D,aT D v x:=by
 have:=aaf aj;rw[lE]at this;cases ae:l[i]? with
 |none=>rw[ae]at this;cases this| some x=>rw[ae]at this;simp only[ka,j']at this;subst this;exact⟨h x,by simp[ae],aJ x⟩
def amo(bp:e4 I gb):Hc Lk I:=by
 intro g cs h;unfold Lk at h;rw[js,js,js,js]at h;cases aa:Nat.beq g 0 with
 |true=>rw[aa,bl]at h;obtain rfl:=c6 aa;have h:=kV h;subst h;obtain⟨T,f,h⟩:=bp.c;exact⟨_,T,f,h,λi v aj=>Rb (f:=ao.i .i64) (h:=Value.int .i64) (λx D=>by simp only[aT]) aj⟩
 |false=>
 rw[aa,bh]at h;cases ab:Nat.beq g 1 with
 |true=>rw[ab,bl]at h;obtain rfl:=c6 ab;have h:=kV h;subst h;obtain⟨T,f,h⟩:=bp.s;exact⟨_,T,f,h,λi v aj=>Rb (f:=ao.s) (h:=λl=>Value.string (strOf l)) (λx D=>by simp only[aT,strOf]) aj⟩
 |false=>
 rw[ab,bh]at h;cases ag:Nat.beq g 3 with
 |true=>
  rw[ag,bl]at h;obtain rfl:=c6 ag;have h:=kV h;subst h;obtain⟨T,f,h⟩:=bp.p;refine⟨_,T,f,h,λi v aj=>?_⟩;have aj:=aaf aj;rcases i with _ | _ | _ | _ | _ | _ | _ | _ | _ | i
  all_goals first | (cases aj;exact⟨_,rfl,λD=>by simp only[aT]<;>rfl⟩) | (simp at aj)
 |false=>
 rw[ag,bh]at h;cases aW:Nat.beq g 5 with
 |true=>rw[aW,bl]at h;obtain rfl:=c6 aW;have h:=kV h;subst h;obtain⟨_,_,T,f,h⟩:=bp.d;exact⟨_,T,f,h,λi v aj=>Rb (f:=ao.i .u8) (h:=Value.int .u8) (λx D=>by simp only[aT]) aj⟩
 |false=>
 rw[aW,bh]at h;cases h
noncomputable def Ll:List UInt8->Nat->Nat->Int
 |[],_,_=>-1| b::l,c,k=>b5 (Nat.beq b.toNat c) (Int.ofNat k) (Ll l c (Nat.succ k))
def aag(c:UInt8):∀ (l:List UInt8) (k:Nat),Ll l c.toNat k=if Lib.indexByte l c=-1 then -1 else Lib.indexByte l c+k
 |[],k=>rfl
 |b::l,k=>by
  have cP:=Lib.indexByte_ge l c;unfold Ll Lib.indexByte;rw[js];by_cases h:b=c;·subst h;simp
  ·have aa:Nat.beq b.toNat c.toNat=false:=by
    cases ai:Nat.beq b.toNat c.toNat with
    |false=>rfl| true=>exact absurd (UInt8.toNat_inj.1 (c6 ai)) h
   have ab:(b == c)=false:=by simpa using h
   rw[aa,bh,ab,aag c l];simp only[kG,lG];by_cases ag:Lib.indexByte l c=-1;·simp[ag]
   ·have aW:(Lib.indexByte l c == -1)=false:=by simpa using ag
    rw[aW,cb ag];simp only[kG,lG];rw[cb (by omega)];omega
def aah:wE Tryz.prog:=alG (by kernel_rfl)
def aai:Tryz.prog.follows .mixedOrders=true:=by kernel_rfl
noncomputable def aaj:gz:=⟨Tryz.prog,hL,λ_=>none,λ_ _ _=>none⟩
noncomputable def aak:List uU:=[.map [(.i .u8 123,.f 249 [] []),(.i .u8 34,.f 250 [] []),(.i .u8 91,.f 251 [] []),(.i .u8 46,.f 252 [] []),(.i .u8 47,.f 274 [] [.p 1 0]),(.i .u8 38,.f 274 [] [.p 2 0]),(.i .u8 33,.f 274 [] [.p 3 0]),(.i .u8 63,.f 274 [] [.p 4 0]),(.i .u8 42,.f 274 [] [.p 5 0]),(.i .u8 43,.f 274 [] [.p 6 0]),(.i .u8 40,.f 274 [] [.p 7 0]),(.i .u8 41,.f 274 [] [.p 8 0]),(.i .u8 60,.f 254 [] []),(.i .u8 62,.f 274 [] [.p 10 0]),(.i .u8 58,.f 274 [] [.p 11 0]),(.i .u8 65,.f 255 [] []),(.i .u8 66,.f 255 [] []),(.i .u8 67,.f 255 [] []),(.i .u8 68,.f 255 [] []),(.i .u8 69,.f 255 [] []),(.i .u8 70,.f 255 [] []),(.i .u8 71,.f 255 [] []),(.i .u8 72,.f 255 [] []),(.i .u8 73,.f 255 [] []),(.i .u8 74,.f 255 [] []),(.i .u8 75,.f 255 [] []),(.i .u8 76,.f 255 [] []),(.i .u8 77,.f 255 [] []),(.i .u8 78,.f 255 [] []),(.i .u8 79,.f 255 [] []),(.i .u8 80,.f 255 [] []),(.i .u8 81,.f 255 [] []),(.i .u8 82,.f 255 [] []),(.i .u8 83,.f 255 [] []),(.i .u8 84,.f 255 [] []),(.i .u8 85,.f 255 [] []),(.i .u8 86,.f 255 [] []),(.i .u8 87,.f 255 [] []),(.i .u8 88,.f 255 [] []),(.i .u8 89,.f 255 [] []),(.i .u8 90,.f 255 [] []),(.i .u8 95,.f 255 [] []),(.i .u8 97,.f 255 [] []),(.i .u8 98,.f 255 [] []),(.i .u8 99,.f 255 [] []),(.i .u8 100,.f 255 [] []),(.i .u8 101,.f 255 [] []),(.i .u8 102,.f 255 [] []),(.i .u8 103,.f 255 [] []),(.i .u8 104,.f 255 [] []),(.i .u8 105,.f 255 [] []),(.i .u8 106,.f 255 [] []),(.i .u8 107,.f 255 [] []),(.i .u8 108,.f 255 [] []),(.i .u8 109,.f 255 [] []),(.i .u8 110,.f 255 [] []),(.i .u8 111,.f 255 [] []),(.i .u8 112,.f 255 [] []),(.i .u8 113,.f 255 [] []),(.i .u8 114,.f 255 [] []),(.i .u8 115,.f 255 [] []),(.i .u8 116,.f 255 [] []),(.i .u8 117,.f 255 [] []),(.i .u8 118,.f 255 [] []),(.i .u8 119,.f 255 [] []),(.i .u8 120,.f 255 [] []),(.i .u8 121,.f 255 [] []),(.i .u8 122,.f 255 [] [])],.cells [.i .u8 3] 5,.cells [.i .u8 4] 5,.cells [.i .u8 5] 5,.cells [.i .u8 6] 5,.cells [.i .u8 7] 5,.cells [.i .u8 8] 5,.cells [.i .u8 9] 5,.cells [.i .u8 10] 5,.cells [.i .u8 11] 5,.cells [.i .u8 12] 5,.cells [.i .u8 13] 5]
def amp:(bX (zC aaj (lz aaj 100000) 237 [] ⟨.nil,0⟩) none λp=>bX (readAll p.2.t 0 p.2.n) none λL=>some (p.1,L))=some (ao.m 0,aak):=by kernel_rfl
noncomputable def Rc:ly:=λg vs m=>b5 (Nat.beq g 291) (match vs with
 |[.s l,.i .u8 (.ofNat k)]=>b5 (Nat.blt k 256) (some (.i .i64 (Ll l k 0),m)) none| _=>none) (b5 (Nat.beq g 224) (match vs with
 |[v]=>some (v,m)| _=>none) (b5 (Nat.beq g 237) (match vs with
 |[]=>Q6 (.m 0) aak m| _=>none) (b5 (Nat.beq g 191) (Q8 m vs) none)))
noncomputable def yj:gz:=⟨Tryz.prog,hL,Lk,Rc⟩
def amq:yi yj:=by
 intro g vs m v m' h D I M us hu hm;change Rc g vs m=some (v,m')at h;unfold Rc at h;rw[js]at h;cases aa:Nat.beq g 291 with
 |true=>
  rw[aa,bl]at h;obtain rfl:=c6 aa;split at h
  ·rename_i l k;rw[js]at h;cases af:Nat.blt k 256 with
   |false=>rw[af]at h;cases h
   |true=>
    rw[af,bl]at h;have iI:k<256:=Nat.blt_eq ▸ af;cases h;simp only[bG,aT]at hu;obtain⟨x,xs,rfl,⟨y,kz,rfl,rfl,rfl⟩,rfl⟩:=hu;have A4:(UInt8.ofNat k).toNat=k:=by simp;omega
    have:=Uz (I:=I) (M:=M) ⟨l.toArray⟩ (UInt8.ofNat k);rw[A4]at this;refine Spec.nT this ?_;rintro r I' M'⟨rfl,rfl,rfl⟩;refine⟨D,bH.oL,?_,hm⟩;simp only[aT];have:=aag (UInt8.ofNat k) l 0;rw[A4]at this;rw[this];split;·rename_i e;simp[e]
    ·simp
  ·cases h
 |false=>
 rw[aa,bh,js]at h;cases ab:Nat.beq g 224 with
 |true=>
  rw[ab,bl]at h;obtain rfl:=c6 ab;split at h;·cases h;simp only[bG]at hu;obtain⟨x,xs,hu,rfl,rfl⟩:=hu;refine Spec.nT (Nq _) ?_;rintro r I' M'⟨rfl,rfl,rfl⟩;exact⟨D,bH.oL,hu,hm⟩
  ·cases h
 |false=>
 rw[ab,bh,js]at h;cases ag:Nat.beq g 237 with
 |true=>
  rw[ag,bl]at h;obtain rfl:=c6 ag;split at h;·obtain⟨⟨wF,la⟩,aW,bC⟩:=ct amp;obtain⟨L,bP,eo⟩:=ct bC;cases eo;exact ame (Y:=yj) aV aah aai aW bP (λD us h=>by simpa only[bG]using h) h hu hm
  ·cases h
 |false=>
 rw[ag,bh,js]at h;cases aW:Nat.beq g 191 with
 |true=>rw[aW,bl]at h;obtain rfl:=c6 aW;exact aml rfl rfl h hu hm
 |false=>
 rw[aW,bh]at h;cases h
def amr(bp:e4 I gb){m':bm}{v:ao}(h:zC yj (lz yj f) g args ⟨.nil,0⟩=some (v,m'))(hu:bG (λ_=>none) args us) :
  Spec Tryz.prog g us I [] λr J nw=>nw=[]/\(∀ b o,I b=some o->J b=some o)/\∃ I' M' bx,aT bx v r/\dc yj bx m' I' M'/\sr I' M' J:=by
 have hm:dc yj (λ_=>none) ⟨.nil,0⟩ I []:=⟨λid e a h aX=>(by cases aX),λid ij e bq a bY h aa aX=>(by cases aX),λid a h=>(by cases h),amo bp⟩;refine Spec.nT (reckon (Y:=yj) aV aah amq aai h hu hm).ig ?_;rintro r J nw⟨rfl,aa,I',M',⟨bx,-,ab,ag⟩,aW⟩;exact⟨rfl,aa,I',M',bx,ab,ag,aW⟩
section
end
structure ams(d:aS)(n:Int):Prop where
 z:d.k=0->d.t=⟨#[]⟩
 leaf:d.k<=3->n=0
 one:6<=d.k->n=1
 two:d.k=4\/d.k=5->2<=n
def HE{d:aS}{n:Int}(ar:0<=d.k)(h:fits d n=true):ams d n:=by
 have ap:=(FO h).k;have af:d.k=0\/d.k=1\/d.k=2\/d.k=3\/d.k=4\/d.k=5\/d.k=6\/d.k=7\/d.k=8\/d.k=9:=by omega
 have eA:∀ j:Fin 10,s5 j.val=mN.getD (j.val*2) 0/\p' j.val=mN.getD (j.val*2+1) 0:=by decide
 unfold fits at h;rcases af with e | e | e | e | e | e | e | e | e | e<;>rw[e]at h<;>simp[s5,p',mN]at h <;>
  refine⟨λq=>?_,λq=>?_,λq=>?_,λq=>?_⟩<;>first | (omega;done) | (exact h.2.2.1;done) | (exact h.2.1;done) | (simp_all;done)
def ss(sep:List UInt8):List (List UInt8)->List UInt8
 |[]=>[]| x::xs=>x++xs.flatMap λy=>sep++y
def aal(sep:List UInt8)(f:Int->List UInt8):∀ ks,qg sep f true ks=(ks.map f).flatMap λy=>sep++y
 |[]=>rfl| k::ks=>by rw[qg,aal sep f ks];simp
def amt(sep:List UInt8)(f:Int->List UInt8)(ks:List Int):qg sep f false ks=ss sep (ks.map f):=by
 cases ks with
 |nil=>rfl| cons k ks=>rw[qg,aal];simp[ss]
def Lm(ax:List Int)(d:aS)(L:List (List UInt8)):List UInt8:=
 bif decide (d.k=0)then [34,34]else
 bif decide (d.k=1)then vK ax d.dT d.s1 d.s2 d.ec else
 bif decide (d.k=2)then y4 d.t else
 bif decide (d.k=3)then d.t.data.toList else
 bif decide (d.k=7)then [38]++L.headD []else
 bif decide (d.k=8)then [33]++L.headD []else
 bif decide (d.k=6)then L.headD []++qe d.lo.toNat d.hi else
 bif decide (d.k=9)then [60]++d.t.data.toList++[58,32]++L.headD []++[62]else
 ss (bif decide (d.k=5)then [32,47,32]else [32]) L
def amu(ax:List Int)(ns:List aS){d:aS}(ar:0<=d.k)(h:fits d d.aL.length=true)(g:Int->List UInt8):y7 ax ns d g=Lm ax d (d.aL.map λk=>paren (g1 d.k (kW ns k)) (g k)):=by
 have ap:=(FO h).k;have hm:=HE ar h;have af:d.k=0\/d.k=1\/d.k=2\/d.k=3\/d.k=4\/d.k=5\/d.k=6\/d.k=7\/d.k=8\/d.k=9:=by omega
 unfold y7 Lm;rw[amt];generalize b9:(d.aL.map λk=>paren (g1 d.k (kW ns k)) (g k))=L;have jf:L.length=d.aL.length:=by rw[<-b9];simp
 have dT:h1 2=[]/\h1 3=[]/\h1 5=[]/\h1 8=[]/\h1 11=[]/\h1 12=[]/\h1 13=[32]/\h1 14=[]/\h1 15=[]/\h1 16=[32,47,32]/\h1 17=[]/\h1 18=[]/\h1 21=[38]/\h1 23=[]/\h1 24=[33]/\h1 26=[]/\h1 27=[60]/\h1 29=[62]:=by decide
 obtain⟨Eb,Ln,Rd,amv,amw,amx,amy,amz,amA,amB,amC,amD,amE,amF,amG,amH,amI,amJ⟩:=dT;have nil:d.k<=3->L=[]:=λq=>jh (by have:=hm.leaf q;omega);have one:6<=d.k->∃ x,L=[x]:=λq=>by
  have:=hm.one q
  match L,jf with
  |[x],_=>exact⟨x,rfl⟩| [],jf=>simp at jf;omega| _::_::_,jf=>simp at jf;omega
 rcases af with e | e | e | e | e | e | e | e | e | e
 ·rw[nil (by omega)];simp[kv,jI,px,ss,e,Eb,hm.z e,y4]
 ·rw[nil (by omega)];simp[kv,jI,px,ss,e,Rd]
 ·rw[nil (by omega)];simp[kv,jI,px,ss,e,amv]
 ·rw[nil (by omega)];simp[kv,jI,px,ss,e,amw]
 ·simp[kv,jI,px,e,amx,amy,amz]
 ·simp[kv,jI,px,e,amA,amB,amC]
 ·obtain⟨x,rfl⟩:=one (by omega);simp[kv,jI,px,ss,e,amD]
 ·obtain⟨x,rfl⟩:=one (by omega);simp[kv,jI,px,ss,e,amE,amF]
 ·obtain⟨x,rfl⟩:=one (by omega);simp[kv,jI,px,ss,e,amG,amH]
 ·obtain⟨x,rfl⟩:=one (by omega);simp[kv,jI,px,ss,e,amI,amJ]
def amK(lo:Nat)(hi:Int):qe lo hi≠[]:=by
 unfold qe y5;cases(decide ((0:Int)=lo)&&decide (1=hi))<;>cases(decide ((0:Int)=lo)&&decide (-1=hi))<;>cases(decide ((1:Int)=lo)&&decide (-1=hi))<;>cases decide (hi=lo)<;>cases decide (hi=-1)<;>simp
def amL(ax:List Int)(a b c d:Int):vK ax a b c d≠[]:=by
 unfold vK;cases(a == hM 0&&(b == hM 0&&(c == hM 0&&d == hM 0)))<;>simp
def amM{d:aS}{n:Int}(h:fits d n=true)(ag:d.k=3):d.t≠⟨#[]⟩:=by unfold fits at h;rw[ag]at h;simp[s5,p',mN,kl]at h;intro e;simp[e]at h
def amN(ax:List Int){d:aS}(ar:0<=d.k)(h:fits d d.aL.length=true){L:List (List UInt8)}(b9:L.length=d.aL.length):Lm ax d L≠[]:=by
 have ap:=(FO h).k;have hm:=HE ar h;have af:d.k=0\/d.k=1\/d.k=2\/d.k=3\/d.k=4\/d.k=5\/d.k=6\/d.k=7\/d.k=8\/d.k=9:=by omega
 have two:d.k=4\/d.k=5->∃ x y zs,L=x::y::zs:=λq=>by
  have:=hm.two q
  match L,b9 with
  |x::y::zs,_=>exact⟨x,y,zs,rfl⟩| [],b9=>simp at b9;omega| [_],b9=>simp at b9;omega
 unfold Lm;rcases af with e | e | e | e | e | e | e | e | e | e
 ·simp[e]
 ·simp only[e,C8,bl];exact amL ax d.dT d.s1 d.s2 d.ec
 ·simp[e,y4]
 ·have:=amM h e;simp[e];intro q;exact this (tM (by simpa using q))
 ·obtain⟨x,y,zs,rfl⟩:=two (.inl e);simp[e,ss]
 ·obtain⟨x,y,zs,rfl⟩:=two (.inr e);simp[e,ss]
 ·have:=amK d.lo.toNat d.hi;simp[e,this]
 ·simp[e]
 ·simp[e]
 ·simp[e]
def amO(ax:List Int)(ay:t.ok I)(ak:right t=true):kX ax t≠[]:=by
 obtain⟨a3,a6⟩:=vG ak;obtain⟨r,gZ⟩:=h' a3;have gW:r<t.ns.length:=by omega
 have ga:=AH ak gW;have ar:=(ay.ns _ (cJ gW)).k.1;rw[kX,ak,bl,gZ,NG ak gW,amu ax t.ns ar ga];exact amN ax ar ga (by simp)
def Re{i:Nat}(h:i<ds.length):oB ds i=decide (b2 ds[i].name ds 0=i):=by unfold oB;rw[eb h]
def aam(nm:ByteArray):∀ (ds:List aQ) (i:Nat),xK nm ds i=bif decide (b2 nm ds i<0)then none else some (b2 nm ds i)
 |[],i=>rfl
 |d::ds,i=>by
  unfold xK b2;rw[show decide (nm=d.name)=decide (d.name=nm) by rw[oY];simp[eq_comm]];cases decide (d.name=nm)with
  |true=>rw[bl,bl,de (by omega)];rfl| false=>rw[bh,bh];exact aam nm ds (i+1)
def aan(nm:ByteArray)(ds:List aQ):ee nm (bR ds)=bif decide (b2 nm ds 0<0)then none else some (b2 nm ds 0):=by rw[OE,aam]
section
end
def mB(t:cB):Prop:=∀ n∈t.ns,n.kn<=3000000000000
def aao(h:(ee nm (bR ds)).isSome=true):∃ q:Nat,b2 nm ds 0=q/\q<ds.length/\((ee nm (bR ds)).getD 0).toNat=q:=by
 have p4:=aan nm ds;cases ah:decide (b2 nm ds 0<0)with
 |true=>rw[ah,bl]at p4;rw[p4]at h;cases h| false=>rw[ah,bh]at p4;have aW:¬ b2 nm ds 0<0:=dj ah;obtain⟨q,aM⟩:=h' (by omega:0<=b2 nm ds 0);have aap:=p4;rw[OE]at aap;obtain⟨j,qb,lO⟩:=OF aap;refine⟨q,aM,by omega,?_⟩;rw[p4,aM];rfl
def tB:List (a2×List Nat)->List Nat
 |[]=>[]| x::xs=>x.2++bif x.1.z then tB xs else []
def nd(pl:List (ByteArray×Int))(d:aS)(xs:List (a2×List Nat)):List Nat:=
 bif decide (d.k=3)then [((ee d.t pl).getD 0).toNat]else
 bif decide (d.k=4)then tB xs else
 bif decide (d.k=6)&&decide (d.hi=0)then []else xs.flatMap (·.2)
def pO(pl:List (ByteArray×Int))(F:List a2)(d:aS)(xs:List (a2×List Nat)):a2×List Nat:=
 (hP d (xs.map (·.1)++bif decide (d.k=3)then [F.getD ((ee d.t pl).getD 0).toNat bL]else []),nd pl d xs)
def fE(pl:List (ByteArray×Int))(F:List a2)(ns:List aS)(j:Int):a2×List Nat:=qc (bL,[]) (λd g=>pO pl F d (d.aL.map g)) ns j
def Rf(ak:right t=true){j:Nat}(an:j<t.ns.length):fE pl F t.ns j=pO pl F t.ns[j] (t.ns[j].aL.map (fE pl F t.ns)):=
 FF (λd g dv h=>by rw[rT h]) ak an
def amP(pl:List (ByteArray×Int))(F:List a2)(ns:List aS)(j:Int):fE pl F (ns.map aS.ba) j=fE pl F ns j:=by unfold fE qc;rw[J' (f:=λd g=>pO pl F d (d.aL.map g)) (g:=λd g=>pO pl F d (d.aL.map g)) (λd q=>rfl)]
def aaq(a4:List (a2×List Nat))(i:Nat):(a4.getD i (bL,[])).1=(a4.map (·.1)).getD i bL:=by
 simp only[cC,lE];cases a4[i]?<;>rfl
def aar(pl:List (ByteArray×Int))(F:List a2):∀ (ds:List aS) (a4:List (a2×List Nat)),(mo (bL,[]) (λd g=>pO pl F d (d.aL.map g)) ds a4).map (·.1)=ek pl F ds (a4.map (·.1))
 |[],a4=>rfl
 |d::ds,a4=>by
  have az:(pO pl F d (d.aL.map λk=>a4.getD k.toNat (bL,[]))).1=hP d (sd pl F (a4.map (·.1)) d):=by unfold pO sd;simp only[jl,Function.comp_def,aaq]
  have aa:=aar pl F ds (a4++[pO pl F d (d.aL.map λk=>a4.getD k.toNat (bL,[]))]);rw[e7,cY,kR,az]at aa;rw[mo,aa,ek]
def Rg(pl:List (ByteArray×Int))(F:List a2)(ns:List aS)(j:Int):(fE pl F ns j).1=(ek pl F ns []).getD j.toNat bL:=by have h:=aar pl F ns [];unfold fE qc;rw[aaq,h];rfl
abbrev dy:=BitVec 64
def lb(k:Nat):dy:=1#64 <<< k
def Lo{k i:Nat}(hi:i<64):(lb k).getLsbD i=decide (i=k):=by
 unfold lb;rw[BitVec.getLsbD_shiftLeft];simp only[hi,C8,pd];by_cases h:i<k
 ·have bK:¬ i=k:=by omega
  simp[h,bK]
 ·simp only[h,decide_false,Ir,pd];by_cases e:i=k
  ·subst e;simp
  ·rw[de e];have ab:0<i-k:=by omega
   rw[BitVec.getLsbD_one];simp;omega
def amQ(l:List Nat):∀ (w:dy) {i:Nat},i<64->(l.foldl (λw k=>w ||| lb k) w).getLsbD i=(w.getLsbD i||l.contains i):=by
 induction l with
 |nil=>intro w i hi;simp| cons k l a7=>intro w i hi;rw[sC,a7 _ hi,BG,Lo hi,List.contains_cons,Bool.or_assoc];rfl
def mC(m:List dy):Nat->Nat->dy->dy
 |_,0,w=>w| k,f+1,w=>mC m (k+1) f (bif w.getLsbD k then w ||| m.getD k 0 else w)
def rD(m:List dy):List dy:=(List.range 64).map λi=>mC m 0 64 (m.getD i 0)
inductive qE(m:List dy):Nat->Nat->Prop
 |one{i k}(af:k<64)(h:(m.getD i 0).getLsbD k=true):qE m i k| step {i j k} (h:(m.getD i 0).getLsbD j=true) (an:j<64) (t:qE m j k):qE m i k
def qE.trans{m:List dy}{i j k:Nat}(h:qE m i j)(aX:qE m j k):qE m i k:=by
 induction h with
 |one af h=>exact .step h af aX| step h an t a7=>exact .step h an (a7 aX)
def jw(x y:dy):Prop:=∀ i,i<64->x.getLsbD i=true->y.getLsbD i=true
def jw.refl(x:dy):jw x x:=λ_ _ h=>h
def jw.trans{x y z:dy}(h:jw x y)(aX:jw y z):jw x z:=λi hi ae=>aX i hi (h i hi ae)
def jw.or(x y:dy):jw x (x ||| y):=λi hi h=>by rw[BG,h];rfl
def jw.or'(x y:dy):jw y (x ||| y):=λi hi h=>by rw[BG,h,Bool.or_true]
def jw.amR{x y:dy}(h:jw x y)(aX:jw y x):x=y:=O0 λi hi=>by
 have aa:=h i hi;have ab:=aX i hi;cases ae:x.getLsbD i<;>cases aF:y.getLsbD i<;>simp_all
def jw.and{x y:dy}(h:jw x y):x &&& y=x:=O0 λi hi=>by
 have aa:=h i hi;rw[O2];cases ae:x.getLsbD i<;>simp_all
def HF(m:List dy):∀ (f k:Nat) (w:dy),jw w (mC m k f w)
 |0,k,w=>jw.refl w
 |f+1,k,w=>by
  rw[mC];cases w.getLsbD k with
  |true=>exact(jw.or _ _).trans (HF m f (k+1) _)| false=>exact HF m f (k+1) _
def Rh{m:List dy}{P:Nat->Prop}(hm:∀ j,P j->∀ x,x<64->(m.getD j 0).getLsbD x=true->P x):∀ (f k:Nat) (w:dy),k+f<=64->(∀ x,x<64->w.getLsbD x=true->P x)->∀ x,x<64->(mC m k f w).getLsbD x=true->P x
 |0,k,w,_,hw=>hw
 |f+1,k,w,af,hw=>by
  rw[mC];cases ai:w.getLsbD k with
  |true=>
   refine Rh hm f (k+1) _ (by omega) λx ae h=>?_;rw[bl,BG,kH]at h;rcases h with h | h;·exact hw x ae h
   ·exact hm k (hw k (by omega) ai) x ae h
  |false=>exact Rh hm f (k+1) _ (by omega) hw
def Ri{m:List dy}:∀ (f k:Nat) {w:dy},mC m k f w=w->∀ j,k<=j->j<k+f->w.getLsbD j=true->jw (m.getD j 0) w
 |0,k,w,_,j,aa,ab,_=>by omega
 |f+1,k,w,h,j,aa,ab,an=>by
  rw[mC]at h;cases ai:w.getLsbD k with
  |true=>
   rw[ai,bl]at h;have e:w ||| m.getD k 0=w:=by refine jw.amR ?_ (jw.or _ _);have:=HF m f (k+1) (w ||| m.getD k 0);rwa [h]at this
   by_cases BP:j=k;·subst BP;have:=jw.or' w (m.getD j 0);rwa [e]at this
   ·rw[e]at h;exact Ri f (k+1) h j (by omega) (by omega) an
  |false=>
   rw[ai,bh]at h;by_cases BP:j=k;·subst BP;rw[ai]at an;cases an
   ·exact Ri f (k+1) h j (by omega) (by omega) an
def aas(m:List dy):(rD m).length=64:=by simp[rD]
def Lp(m:List dy){i:Nat}(h:i<64):(rD m).getD i 0=mC m 0 64 (m.getD i 0):=by simp[rD,cC,h]
structure zS(la m:List dy):Prop where
 len:m.length=64
 le:∀ i,i<64->jw (la.getD i 0) (m.getD i 0)
 ok:∀ i,i<64->∀ k,k<64->(m.getD i 0).getLsbD k=true->qE la i k
def zS.start{la:List dy}(h:la.length=64):zS la la:=⟨h,λi _=>jw.refl _,λi _ k af ai=>.one af ai⟩
def zS.next{la m:List dy}(h:zS la m):zS la (rD m):=by
 refine⟨aas m,λi hi=>?_,λi hi k af ai=>?_⟩
 ·rw[Lp m hi];exact(h.le i hi).trans (HF m 64 0 _)
 ·rw[Lp m hi]at ai;refine Rh (P:=λx=>x<64/\qE la i x) (λj an x ae ai=>⟨ae,an.2.trans (h.ok j an.1 x ae ai)⟩) 64 0 _ (cj _) (λx ae ai=>⟨ae,h.ok i hi x ae ai⟩) k af ai |>.2
def zS.done{la m:List dy}(h:zS la m)(aJ:rD m=m){i k:Nat}(hi:i<64)(af:k<64):(m.getD i 0).getLsbD k=true ↔ qE la i k:=by
 refine⟨h.ok i hi k af,λaA=>?_⟩;have eA:∀ i,i<64->∀ j,j<64->(m.getD i 0).getLsbD j=true->jw (m.getD j 0) (m.getD i 0):=λi hi j an ai=>by have:=Lp m hi;rw[aJ]at this;exact Ri 64 0 this.symm j (bw _) (by omega) ai
 revert hi
 induction aA with
 |one iI ai=>exact λhi=>h.le _ hi _ iI ai
 |step ai an t a7=>exact λhi=>eA _ hi _ an (h.le _ hi _ an ai) _ af (a7 af an)
def zT(m:List dy):Nat:=(m.map GV).sum
def aat:∀ {m n:List dy},m.length=n.length->(∀ i,i<m.length->jw (m.getD i 0) (n.getD i 0))->zT n<=zT m/\(zT m<=zT n->m=n)
 |[],[],_,_=>⟨cj _,λ_=>rfl⟩| [],_::_,h,_=>by simp at h
 |_::_,[],h,_=>by simp at h
 |a::m,b::n,h,ap=>by
  have ar:jw a b:=by simpa using ap 0 (by simp)
  obtain⟨aa,ab⟩:=ajH ar.and;obtain⟨t1,t2⟩:=aat (m:=m) (n:=n) (by simpa using h) λi hi=>by simpa using ap (i+1) (by simpa using hi)
  simp only[zT,cY,oc]at t1 t2 |-;refine⟨by omega,λbs=>?_⟩;rw[ab (by omega),t2 (by omega)]
def amS{m:List dy}(av:m.length=64)(h:rD m≠m):zT (rD m)<zT m:=by
 have ap:=aat (m:=m) (n:=rD m) (by rw[av,aas]) λi hi=>by rw[Lp m (by omega)];exact HF m 64 0 _
 refine Nat.lt_of_le_of_ne ap.1 λe=>h (ap.2 (by omega)).symm
def Rj(m:List dy):dy:=(List.range 64).foldl (λw i=>w ||| ((m.getD i 0) &&& lb i)) 0
def aau(m:List dy):∀ (l:List Nat) (w:dy) {i:Nat},i<64->(∀ k∈l,k<64)->(l.foldl (λw i=>w ||| ((m.getD i 0) &&& lb i)) w).getLsbD i=(w.getLsbD i||(l.contains i&&(m.getD i 0).getLsbD i))
 |[],w,i,hi,_=>by simp
 |k::l,w,i,hi,av=>by
  rw[sC,aau m l _ hi λk af=>av k (.tail _ af),BG,O2,Lo hi,List.contains_cons];by_cases e:i=k
  ·subst e;simp;cases w.getLsbD i<;>cases(m.getD i 0).getLsbD i<;>simp
  ·have bq:(i == k)=false:=by simpa using e
   rw[de e,bq];simp
def amT(m:List dy){i:Nat}(hi:i<64):(Rj m).getLsbD i=(m.getD i 0).getLsbD i:=by
 unfold Rj;rw[aau m _ _ hi λk af=>lF.1 af];have:(List.range 64).contains i=true:=by simpa using hi
 rw[this];simp
def bitsOf(w:dy)(n:Nat):List Nat:=(List.range n).filter λi=>w.getLsbD i
def aav(w:dy)(n:Nat):bitsOf w (n+1)=bitsOf w n++(bif w.getLsbD n then [n]else []):=by
 unfold bitsOf;rw[Dw,Hq];cases h:w.getLsbD n<;>simp[h]
def amU(w:dy)(n:Nat):(bitsOf w n).length<=n:=by unfold bitsOf;have:=EQ (λi=>w.getLsbD i) (List.range n);simpa using this
def aaw(w:dy){k:Nat}(af:k<64):IntKind.u64.wrap ((BitVec.ofInt 64 ((w.toNat:Int).fdiv (2^(min k 64))) &&& BitVec.ofInt 64 1).toNat:Int)=bif w.getLsbD k then 1 else 0:=by
 have aq:w.toNat<18446744073709551616:=w.isLt;have cG:min k 64=k:=by omega
 have az:(w.toNat:Int).fdiv (2^k)=((w.toNat/2^k:Nat):Int):=by rw[Fm _ (by exact Int.le_of_lt (Int.pow_pos (by decide)))];simp
 rw[cG,az];have aE:(BitVec.ofInt 64 ((w.toNat/2^k:Nat):Int) &&& BitVec.ofInt 64 1).toNat=w.toNat/2^k%2:=by
  have aa:BitVec.ofInt 64 ((w.toNat/2^k:Nat):Int)=BitVec.ofNat 64 (w.toNat/2^k):=(show ∀ m:Nat,BitVec.ofInt 64 (m:Int)=BitVec.ofNat 64 m from λm=>by simp) _;have ab:BitVec.ofInt 64 1=BitVec.ofNat 64 1:=by decide
  rw[aa,ab,Fp,Du,Du];have ag:w.toNat/2^k%2^64=w.toNat/2^k:=Kf (Nat.lt_of_le_of_lt (Nat.div_le_self _ _) aq);rw[ag,show 1%2^64=1 by decide,Nat.and_one_is_mod]
 rw[aE];have bz:IntKind.u64.wrap ((w.toNat/2^k%2:Nat):Int)=((w.toNat/2^k%2:Nat):Int):=by have:w.toNat/2^k%2<2:=Gf _ (by decide);unfold IntKind.wrap;simp only[IntKind.bits,IntKind.signed];simp;omega
 rw[bz];have cT:w.getLsbD k=w.toNat.testBit k:=rfl;rw[cT,Xd];have:w.toNat/2^k%2<2:=Gf _ (by decide);by_cases h:w.toNat/2^k%2=1
 ·rw[h];rfl
 ·have ar:w.toNat/2^k%2=0:=by omega
  rw[ar];rfl
def Rk{k:Nat}(af:k<64):IntKind.u64.wrap (1*2^(min k 64))=((lb k).toNat:Int):=by
 have cG:min k 64=k:=by omega
 have aa:(2:Nat)^k<2^64:=Nat.pow_lt_pow_right (by decide) af;have e:(lb k).toNat=2^k:=by unfold lb;rw[BitVec.toNat_shiftLeft];simp only[Du];rw[Nat.shiftLeft_eq,show 1%2^64=1 by decide,p6,Kf aa]
 rw[cG,e,Int.one_mul];have aE:((2:Int)^k)=((2^k:Nat):Int):=by simp
 rw[aE];unfold IntKind.wrap;simp only[IntKind.bits,IntKind.signed];simp;omega
def oQ(w:dy):Value:=.int .u64 w.toNat
def aax{w:dy}{i:Nat}(aR:i<64)(ab:¬ IntKind.u64.wrap ((BitVec.ofInt 64 ((w.toNat:Int).fdiv (2^(min i 64))) &&& BitVec.ofInt 64 1).toNat:Int)=0):w.getLsbD i=true:=by
 have ai:=aaw w aR;cases au:w.getLsbD i with
 |true=>rfl| false=>rw[au]at ai;exact absurd ai ab
def aay{w:dy}{i:Nat}(aR:i<64)(ab:IntKind.u64.wrap ((BitVec.ofInt 64 ((w.toNat:Int).fdiv (2^(min i 64))) &&& BitVec.ofInt 64 1).toNat:Int)=0):w.getLsbD i=false:=by
 have ai:=aaw w aR;cases au:w.getLsbD i with
 |false=>rfl| true=>rw[au,ab]at ai;cases ai
def aaz{a b:Int}(h:(!decide (a=b))=true):¬ a=b:=by simpa using h
def aaA{a b:Int}(h:(!decide (a=b))=false):a=b:=by simpa using h
def aaB(w:dy):Spec Tryz.prog 99 [.int .u64 w.toNat] I M0 λv I' M'=>I'=I/\∃ os:a',os.ok 1 ((bitsOf w 64).map λn:Nat=>Value.int .i64 n)/\v=os.val/\M'=os.aP 3++M0:=by
 refine bN [] aV Tryz.func99 rfl rfl rfl ?_;intro B ar;refine c4.inv (ι:=Nat×a') (λx=>{ bu:=[(0,.val (.int .u64 w.toNat)),(3,.val x.2.val),(5,.val (.int .i64 x.1))],cS:=I,db:=x.2.aP 3++M0 }) (λx=>x.1<=64/\x.2.ok 1 ((bitsOf w x.1).map λn:Nat=>Value.int .i64 n)) (λx=>64-x.1) ?_ ?_
 ·exact⟨(0,lu),⟨by simp,mT 1⟩,.refl,fH,.nil⟩
 rintro⟨i,os⟩⟨hi,ca⟩;simp only at hi ca;have l3:os.n<=64:=by have aa:=ca.len;rw[c8]at aa;have:=amU w i;omega
 refine aU.mk (λh=>?_) (λh=>?_)
 rotate_left
 ·have cP:i=64:=by have:¬ (i:Int)<64:=dj h;omega
  rw[cP]at ca;exact⟨_,_,.refl,rfl,os,ca,rfl,rfl⟩
 have aR:i<64:=by have:(i:Int)<64:=c1 h;omega
 refine rK.mk i rfl ?_;refine aU.mk (λab=>?_) (λab=>?_)
 ·have hw:=aax (w:=w) aR (aaz ab);refine b8.mk λbW gJ te=>?_;refine bn.uB aV rfl (by simp) (e:=3) rfl rfl rfl os ca rfl (cs:=[.int .i64 i]) rfl rfl rfl [] M0 rfl (by omega) (by show(os.n+1)*8<=_;omega) ?_;intro hn pI eM gh;refine bd.mk _ (cx (i:=i) (by omega)) ?_;refine⟨(i+1,hn),⟨⟨aR,?_⟩,by simp only;omega⟩,.refl,fH,.nil⟩;simp only;rw[aav,hw,e7];exact gh
 ·have hw:=aay (w:=w) aR (aaA ab);refine bd.mk _ (cx (i:=i) (by omega)) ?_;refine⟨(i+1,os),⟨⟨aR,?_⟩,by simp only;omega⟩,.refl,fH,.nil⟩;simp only;rw[aav,hw,bh,eh];exact ca
def zU(w:dy):ao:=.i .u64 w.toNat
def Lq{aH:dU}(he:E e=some aH)(ap:aH.size=1)(aC:aH.bE.agg=false)(P:List ao)(x:ao)(r:List ao):uI E e (P.length*aH.size) (P++x::r)=some x:=by unfold uI;rw[he,uN,ap,fP,Ha,List.drop_left,aC];rfl
def aaC{F:Nat->ao->ao->Option Bool}{E:Env}{e:Nat}{aH:dU}(he:E e=some aH)(ap:aH.size=1)(aC:aH.bE.agg=false)(bU:∀ a b,F e (.i .u64 a) (.i .u64 b)=some (my a b)):∀ (l m:List dy) (st uV:List ao),l.length=m.length->st.length=uV.length -> we F E (st++l.map zU) (uV++m.map zU) ((List.range' st.length l.length).map λi=>(e,i*aH.size))=some (decide (l=m))
 |[],[],st,uV,_,_=>rfl| [],_::_,_,_,h,_=>by simp at h
 |_::_,[],_,_,h,_=>by simp at h
 |a::l,b::m,st,uV,h,aD=>by
  have a7:=aaC he ap aC bU l m (st++[zU a]) (uV++[zU b]) (by simpa using h) (by simpa using aD);rw[cI,x0,fq,fq,AX,AX]at a7;rw[ea,Io,cY,cY,cY,we,Lq he ap aC,uN,aD,Lq he ap aC,uN,<-aD];rw[show F e (zU a) (zU b)=some (decide (a=b)) by rw[<-aj2];exact bU _ _,uN,js];by_cases az:a=b;·subst az;simp only[C8,pU];rw[a7];simp
  ·simp[az]
def kA(m:List dy):List Value:=(List.range 64).map λi=>oQ (m.getD i 0)
def Lr{m:List dy}(h:m.length=64):kA m=m.map oQ:=by
 unfold kA;apply xi
 ·simp[h]
 ·intro i aa ab;have:i<m.length:=by simpa using ab
  simp[cC,this]
def tC(m:List dy):(kA m).length=64:=by simp[kA]
def amV{y:Operand}{p q:List dy}(aD:p.length=64)(aM:q.length=64){V:Value->Prop}{other:Prop}(h:V (.bool (decide (p=q)))) :
  e' Tryz.prog .eql 182 x y (.val (.agg (kA p).toArray)) (.val (.agg (kA q).toArray)) V other:=by
 rw[Lr aD,Lr aM];have aj:∀ l:List dy,bG (λ_=>none) (l.map zU) (l.map oQ):=λl=>by
  induction l with
  |nil=>exact .nil| cons a l a7=>exact .cons (by simp only[zU,oQ,aT]) a7
 refine K1 (X:=⟨Tryz.prog,hL,[],0,0,default,λ_=>none,[],none⟩) (D:=λ_=>none) (v:=.b (decide (p=q))) aV ?_ (aj p) (aj q) (λu hu=>by simp only[aT]at hu;rw[hu];exact h);show x7 Tryz.prog hL .eql 182 _ _=_;obtain⟨i1,aa,fs⟩:∃ i,hL 182=some i/\i.bE=.array 64 47:=⟨_,rfl,rfl⟩;obtain⟨i2,ab,kJ,HG⟩:∃ i,hL 47=some i/\i.bE=.int .u64/\i.size=1:=⟨_,rfl,rfl,rfl⟩;have bU:∀ a b,m8 Tryz.prog hL 7 47 (.i .u64 a) (.i .u64 b)=some (my a b):=λa b=>by simp only[m8,ab,uN,kJ];rfl
 have af:=aaC (F:=m8 Tryz.prog hL 7) ab HG (by rw[kJ];rfl) bU p q [] [] (by omega) rfl;unfold x7;rw[m8];simp only[aa,uN,fs,ab];rw[jZ,jZ,gV,aD]at af;rw[Ac,af,show Tryz.prog.eqGuardType Tryz.prog.depth 182=false by kernel_rfl];rfl
structure dK where
 n:Nat
 m:List dy
 w:dy
def dK.cells(s:dK):List Value:=.int .i64 s.n::(kA s.m++[oQ s.w])
def dK.val(s:dK):Value:=.agg s.cells.toArray
def dK.amW(s:dK):Prop:=s.m.length=64/\s.n<=64
def wH(b:Nat)(m:List dy):aB:=⟨b,.cells (kA m).toArray 182 (0,0)⟩
def HH{m:List dy}(a1:wH b m∈M):cr I M (⟨b,0,none⟩:Addr) 64 (kA m):=
 ⟨rfl,_,_,_,.inr ⟨_,a1,rfl,rfl⟩,by simp only[sX];exact eW (by simp[tC]),tC m⟩
def aaD{m:List dy}(a1:wH b m∈M){j:Nat}(an:j<64):cr I M ((⟨b,0,none⟩:Addr).add (j*1)) 1 [oQ (m.getD j 0)]:=by rw[dL _ rfl];refine⟨rfl,_,_,_,.inr ⟨_,a1,rfl,rfl⟩,?_,rfl⟩;simp only[c0,fP];rw[eE (by simpa[kA]using an),nt,mK];simp[kA]
def aaE(m:List dy)(hm:m.length=64)(j:Nat)(an:j<64)(w:dy):bo (kA m) (0+j*1) [oQ w]=kA (m.set j w):=by rw[Lr hm,Lr (by simpa using hm),c0,fP,Xp _ _ _ (by simp[hm];exact an),Fs]
def nU(m:List dy)(i:Nat):List dy:=(List.range i).map (λq=>mC m 0 64 (m.getD q 0))++m.drop i
def aaF{m:List dy}(hm:m.length=64){i:Nat}(hi:i<=64):(nU m i).length=64:=by simp[nU,hm];omega
def amX{m:List dy}(hm:m.length=64){i:Nat}(hi:i<64):(nU m i).set i (m.getD i 0)=nU m i:=by
 unfold nU;have h:i<m.length:=by omega
 rw[C7 _ _ (by simp)];simp only[c8,se,pD];rw[eE h,Gd];simp[cC,h]
def amY{m:List dy}(hm:m.length=64){i:Nat}(hi:i<64):(nU m i).set i (mC m 0 64 (m.getD i 0))=nU m (i+1):=by
 unfold nU;have h:i<m.length:=by omega
 rw[C7 _ _ (by simp)];simp only[c8,se,pD];rw[eE h,Gd,Dw,e7,fq];rfl
def aaG{m:List dy}(hm:m.length=64):nU m 64=rD m:=by unfold nU rD;rw[qC (by omega),eh]
def zV(m:List dy)(k:Nat):dy:=(List.range k).foldl (λw i=>w ||| ((m.getD i 0) &&& lb i)) 0
def amZ(m:List dy)(k:Nat):zV m (k+1)=zV m k ||| (m.getD k 0 &&& lb k):=by unfold zV;rw[Dw,CV];rfl
def am0{a b:Int}(h:a=b):vi (.val (.int .u64 a)) (.val (.int .u64 b)):=by subst h;exact .refl
def am1(m:List dy)(k:Nat):D5 (zV m k).toNat (Qi (m.getD k 0).toNat (lb k).toNat)=((zV m (k+1)).toNat:Int):=by rw[aj1,K2,amZ]
def am2{m:List dy}{k:Nat}{w:dy}(af:k<64)(h:w.getLsbD k=true):mC m k (64-k) w=mC m (k+1) (64-(k+1)) (w ||| m.getD k 0):=by rw[show 64-k=(64-(k+1))+1 by omega,mC,h];rfl
def am3{m:List dy}{k:Nat}{w:dy}(af:k<64)(h:w.getLsbD k=false):mC m k (64-k) w=mC m (k+1) (64-(k+1)) w:=by rw[show 64-k=(64-(k+1))+1 by omega,mC,h];rfl
def Rl{m:List dy}{i:Nat}(hi:i<m.length)(w:dy):(m.set i w).getD i 0=w:=by simp[cC,hi]
def am4(s:dK)(ap:s.amW):Spec Tryz.prog 100 [s.val] I M0 λv I' M'=>I'=I/\M'=M0/\∃ b:dy,v=.int .u64 b.toNat/\∀ i,i<64->(b.getLsbD i=true ↔ qE s.m i i):=by
 refine bN [1,3,4] aV Tryz.func100 rfl rfl rfl ?_;intro B ar;obtain⟨fs,kJ⟩:=ap;refine b8.mk λb1 nx OJ=>?_;refine aI.mk (kA s.m) ?_ ?_
 ·refine⟨rfl,_,_,_,.inr ⟨_,.head _,rfl,rfl⟩,?_,tC _⟩;show((s.cells).drop 1).take 64=_;rw[dK.cells,GW,sX];exact p5 (tC _)
 refine b8.mk λdN m5 atf=>?_;refine cp.a0 [] _ _ _ rfl rfl rfl rfl (kA s.m) rfl ?_;refine c4.inv (ι:=List dy) (λm=>{ bu:=[(3,.val (ptr dN))],cS:=I,db:=wH dN m::M0 }) (zS s.m) zT ?_ ?_
 ·exact⟨s.m,.start fs,.sub (.cons_cons _ (.cons _ (.refl _))) .refl,.cons .refl (.nil),.nil⟩
 intro m hm;have iV:=hm.len;refine aI.mk _ (HH (.head _)) ?_;refine b8.mk λe6 am5 atg=>?_;refine cp.a0 [] _ _ _ rfl rfl rfl rfl (kA m) rfl ?_;refine c4.inv (ι:=Nat) (λi=>{ bu:=[(3,.val (ptr dN)),(4,.val (ptr e6)),(13,.val (.int .i64 i))],cS:=I,db:=wH e6 (nU m i)::(wH dN m::M0) }) (λi=>i<=64) (λi=>64-i) ?_ ?_
 ·refine⟨0,bw _,.refl,fH,.nil⟩
 intro i hi;refine aU.mk (λh=>?_) (λh=>?_)
 rotate_left
 ·have cP:i=64:=by have:¬ (i:Int)<64:=dj h;omega
  subst cP;refine aI.mk _ (HH (.head _)) ?_;refine aI.mk _ (HH (.tail _ (.head _))) ?_;refine amV (aaF iV (cj _)) iV ?_;rw[aaG iV];refine aU.mk (λhe=>?_) (λhe=>?_)
  ·have sQ:rD m=m:=c1 he;refine aI.mk _ (HH (.tail _ (.head _))) ?_;refine c4.inv (ι:=Nat) (λk=>{ bu:=[(7,.val (.int .u64 (zV m k).toNat)),(40,.val (.agg (kA m).toArray)),(41,.val (.int .i64 k))],cS:=I,db:=M0 }) (λk=>k<=64) (λk=>64-k) ?_ ?_
   ·exact⟨0,bw _,.sub (.cons _ (.cons _ (.refl _))) .refl,fH,.nil⟩
   intro k af;refine aU.mk (λh=>?_) (λh=>?_)
   rotate_left
   ·have cP:k=64:=by have:¬ (k:Int)<64:=dj h;omega
    subst cP;exact⟨_,_,.refl,rfl,rfl,zV m 64,rfl,λi hi=>by rw[show zV m 64=Rj m from rfl,amT m hi,hm.done sQ hi hi]⟩
   have fI:k<64:=by have:(k:Int)<64:=c1 h;omega
   clear h af;have aA:k=0\/k=1\/k=2\/k=3\/k=4\/k=5\/k=6\/k=7\/k=8\/k=9\/k=10\/k=11\/k=12\/k=13\/k=14\/k=15\/k=16\/k=17\/k=18\/k=19\/k=20\/k=21\/k=22\/k=23\/k=24\/k=25\/k=26\/k=27\/k=28\/k=29\/k=30\/k=31\/k=32\/k=33\/k=34\/k=35\/k=36\/k=37\/k=38\/k=39\/k=40\/k=41\/k=42\/k=43\/k=44\/k=45\/k=46\/k=47\/k=48\/k=49\/k=50\/k=51\/k=52\/k=53\/k=54\/k=55\/k=56\/k=57\/k=58\/k=59\/k=60\/k=61\/k=62\/k=63:=by omega
   rcases aA with rfl | rfl | rfl | rfl | rfl | rfl | rfl | rfl | rfl | rfl | rfl | rfl | rfl | rfl | rfl | rfl | rfl | rfl | rfl | rfl | rfl | rfl | rfl | rfl | rfl | rfl | rfl | rfl | rfl | rfl | rfl | rfl | rfl | rfl | rfl | rfl | rfl | rfl | rfl | rfl | rfl | rfl | rfl | rfl | rfl | rfl | rfl | rfl | rfl | rfl | rfl | rfl | rfl | rfl | rfl | rfl | rfl | rfl | rfl | rfl | rfl | rfl | rfl | rfl
   all_goals
    refine dV.mk _ rfl fI ?_;refine rK.mk _ rfl ?_;refine bd.mk _ (Rk fI) ?_;refine bd.mk _ (cx (by omega)) ?_;exact⟨_,⟨fI,by omega⟩,.refl,.cons (am0 (am1 m _)) (xb),.nil⟩
  ·have sQ:rD m≠m:=dj he;refine aI.mk _ (HH (.head _)) ?_;refine cp.a0 [_] _ _ _ rfl rfl rfl rfl (kA (nU m 64)) rfl ?_;refine⟨rD m,⟨hm.next,amS iV sQ⟩,.sub (.cons _ (.refl _)) (.pH ?_),.cons .refl (.nil),.nil⟩;rw[aaG iV];rfl
 have aR:i<64:=by have:(i:Int)<64:=c1 h;omega
 have mg:=aaF iV hi;refine c4.inv (ι:=Nat×dy) (λs=>{ bu:=[(3,.val (ptr dN)),(4,.val (ptr e6)),(5,.val (.int .i64 i)),(13,.val (.int .i64 i)),(16,.val (.int .i64 s.1))],cS:=I,db:=wH e6 ((nU m i).set i s.2)::(wH dN m::M0) }) (λs=>s.1<=64/\mC m 0 64 (m.getD i 0)=mC m s.1 (64-s.1) s.2) (λs=>64-s.1) ?_ ?_
 ·refine⟨(0,m.getD i 0),⟨bw _,rfl⟩,.pH ?_,gS,.nil⟩;simp only;rw[amX iV aR]
 rintro⟨k,w⟩⟨af,ic⟩;simp only at af ic;refine aU.mk (λh=>?_) (λh=>?_)
 rotate_left
 ·have cP:k=64:=by have:¬ (k:Int)<64:=dj h;omega
  subst cP;have xL:mC m 0 64 (m.getD i 0)=w:=ic;refine bd.mk _ (cx (i:=i) (by omega)) ?_;refine⟨i+1,⟨aR,by omega⟩,.pH ?_,fH,.nil⟩;rw[<-amY iV aR,xL]
 have fI:k<64:=by have:(k:Int)<64:=c1 h;omega
 have g6:((nU m i).set i w).length=64:=by rw[lT,mg]
 have aaH:∀ {M:List aB},wH e6 ((nU m i).set i w)∈M->cr I M ((⟨e6,0,none⟩:Addr).add (i*1)) 1 [.int .u64 w.toNat]:=λa1=>by have:=aaD (I:=I) a1 aR;rwa [Rl (by omega) w]at this
 have vE:∀ {M:List aB},wH dN m∈M->cr I M ((⟨dN,0,none⟩:Addr).add (k*1)) 1 [.int .u64 (m.getD k 0).toNat]:=λa1=>aaD (I:=I) a1 fI;refine dV.mk i rfl aR ?_;refine aI.mk _ (aaH (.head _)) ?_;refine rK.mk k rfl ?_;refine aU.mk (λab=>?_) (λab=>?_)
 ·have hw:=aax (w:=w) fI (aaz ab);refine c5.draw aV rfl rfl rfl ?_;refine dV.mk i rfl aR ?_;refine aI.mk _ (aaH (.head _)) ?_;refine dV.mk k rfl fI ?_;refine aI.mk _ (vE (.tail _ (.head _))) ?_;refine dV.mk i rfl aR ?_;refine cp.jj [] (wH dN m::M0) (kA ((nU m i).set i w)) _ rfl ?_ rfl (kA ((nU m i).set i (w ||| m.getD k 0))) ?_ ?_
  ·rw[oA,tC];show 0+i*1+1<=64;omega
  ·show bo _ _ [Value.int .u64 (D5 w.toNat (m.getD k 0).toNat)]=_;rw[K2];have:=aaE ((nU m i).set i w) g6 i aR (w ||| m.getD k 0);rw[I3]at this;exact this
  refine bd.mk _ (cx (i:=k) (by omega)) ?_;exact⟨(k+1,w ||| m.getD k 0),⟨⟨fI,by rw[ic,am2 fI hw]⟩,by simp only;omega⟩,.refl,gS,.nil⟩
 ·have hw:=aay (w:=w) fI (aaA ab);refine bd.mk _ (cx (i:=k) (by omega)) ?_;exact⟨(k+1,w),⟨⟨fI,by rw[ic,am3 fI hw]⟩,by simp only;omega⟩,.refl,gS,.nil⟩
def am6:∀ {l:List Int} (h:0<l.length),l.headD 0=l[0]
 |a::l,_=>rfl
def nV(ns:List aS)(xs:List a2):Bool:=ns.any λd=>decide (d.k=6)&&(decide (d.hi=-1)&&(xs.getD (d.aL.headD 0).toNat bL).z)
def am7(p:α->Bool)(l:List α)(x:α):(l++[x]).any p=(l.any p||p x):=by simp
def am8{p:α->Bool}{l:List α}{i:Nat}(h:(l.take i).any p=true):l.any p=true:=by rw[K7]at h |-;obtain⟨x,ae,aD⟩:=h;exact⟨x,CR ae,aD⟩
def am9(ay:t.ok I)(ak:right t=true){xa:Option Addr}{xc:Nat}{xs:List a2}(ae:mY I M0 xa t.n xs):Spec Tryz.prog 169 [t.val,.slice xa t.n xc] I M0 λv I' M'=>v=.bool (nV t.ns xs)/\I'=I/\M'=M0:=by
 refine bN [] aV Tryz.func169 rfl rfl rfl ?_;intro B ar;have lX:=ay.n;have hz:=ay.a8.cap;have jK:=ae.n;refine c4.inv (ι:=Nat) (λi=>{ bu:=[(1,.val (.slice xa t.n xc)),(8,.val (.slice t.a t.n t.c)),(9,.val (.int .i64 t.n)),(10,.val (.int .i64 i))],cS:=I,db:=M0 }) (λi=>i<=t.n/\(t.ns.take i).any (λd=>decide (d.k=6)&&(decide (d.hi=-1)&&(xs.getD (d.aL.headD 0).toNat bL).z))=false) (λi=>t.n-i) ?_ ?_
 ·exact⟨0,⟨bw _,rfl⟩,.refl,ey,.nil⟩
 rintro i⟨hi,dB⟩;refine aU.mk (λh=>?_) (λh=>?_)
 rotate_left
 ·have cP:i=t.n:=by have:¬ (i:Int)<(t.n:Int):=dj h;omega
  rw[eW (by omega)]at dB;refine⟨_,_,.refl,?_,rfl,rfl⟩;rw[nV,dB]
 have aR:i<t.n:=by have:(i:Int)<(t.n:Int):=c1 h;omega
 have bZ:i<t.ns.length:=by omega
 obtain⟨ad,bF,bk⟩:=ay.a8.row aS.cD aR bZ;have ah:=ay.ns _ (cJ bZ);have tj:=AH ak bZ;have lQ:=mm ak i bZ;have dS:=ah.kn;have g8:(t.ns.take (i+1)).any (λd=>decide (d.k=6)&&(decide (d.hi=-1)&&(xs.getD (d.aL.headD 0).toNat bL).z))=(decide (t.ns[i].k=6)&&(decide (t.ns[i].hi=-1)&&(xs.getD (t.ns[i].aL.headD 0).toNat bL).z)):=by rw[gf bZ,am7,dB,u7]
 generalize t.ns[i]=d at bk ah tj lQ dS g8;refine bi.mk ad i bF rfl aR ?_;refine aI.mk _ (bk _) ?_;refine b4.mk (λbP=>?_) (λbP=>?_)
 rotate_left
 ·have Ls:decide (d.k=6)=false:=bP;rw[Ls]at g8;refine bd.mk _ (cx (i:=i) (by omega)) ?_;exact⟨i+1,⟨⟨aR,g8⟩,by omega⟩,.refl,ey,.nil⟩
 have Ls:decide (d.k=6)=true:=bP;have ath:d.k=6:=c1 Ls;rw[Ls,pd]at g8;refine b4.mk (λaa=>?_) (λaa=>?_)
 rotate_left
 ·have tY:decide (d.hi=-1)=false:=aa;rw[tY]at g8;refine bd.mk _ (cx (i:=i) (by omega)) ?_;exact⟨i+1,⟨⟨aR,g8⟩,by omega⟩,.refl,ey,.nil⟩
 have tY:decide (d.hi=-1)=true:=aa;rw[tY,pd]at g8;have e3:0<d.aL.length:=by have:=Wb ah.k.1 tj (by omega);omega
 obtain⟨fR,fS,e2⟩:=ah.a8.one (j:=0) (by omega) e3;have aj:=lQ _ (cJ e3);have br:d.aL.headD 0=d.aL[0]:=am6 e3;rw[br]at g8;have fm:d.aL[0].toNat<xs.length:=by omega
 obtain⟨Rm,Rn,Ei⟩:=ae.rd _ fm;have au:xs.getD d.aL[0].toNat bL=xs[d.aL[0].toNat]:=by simp[cC,fm]
 rw[au]at g8;refine bi.mk fR 0 fS rfl (by omega) ?_;refine aI.mk _ (e2 _) ?_;refine bi.mk Rm d.aL[0].toNat Rn (by omega) (by omega) ?_;refine aI.mk _ (Ei.part (k:=0) (m:=1) (by decide)) ?_;refine aU.mk (λbf=>?_) (λbf=>?_)
 ·have g5:xs[d.aL[0].toNat].z=true:=bf;refine⟨_,_,.refl,?_,rfl,rfl⟩;rw[nV,am8 (i:=i+1) (by rw[g8,g5])]
 ·have g5:xs[d.aL[0].toNat].z=false:=bf;rw[g5]at g8;refine bd.mk _ (cx (i:=i) (by omega)) ?_;exact⟨i+1,⟨⟨aR,g8⟩,by omega⟩,.refl,ey,.nil⟩
def dK.mark(s:dK)(i k:Nat):dK:=⟨s.n,s.m.set i (s.m.getD i 0 ||| lb k),s.w⟩
def j7(b:Nat)(s:dK):aB:=⟨b,.cells s.cells.toArray 184 (0,0)⟩
def dK.cD(s:dK):s.cells.length=66:=by simp[dK.cells,tC]
def ana{s:dK}(a1:j7 b s∈M){j:Nat}(an:j<64):cr I M (((⟨b,0,none⟩:Addr).add 1).add (j*1)) 1 [oQ (s.m.getD j 0)]:=by rw[dL (⟨b,0,none⟩:Addr) rfl,dL _ rfl];refine⟨rfl,_,_,_,.inr ⟨_,a1,rfl,rfl⟩,?_,rfl⟩;simp only[c0,fP];show(s.cells.drop (1+j)).take 1=_;rw[dK.cells,Cg 1 j,GW,Xe (by rw[tC];omega),eE (by rw[tC];exact an),qZ,nt,mK];simp[kA]
def anb{s:dK}(ap:s.m.length=64){i k:Nat}(hi:i<64):bo s.cells (0+1+i*1) [oQ (s.m.getD i 0 ||| lb k)]=(s.mark i k).cells:=by
 unfold dK.cells dK.mark;simp only;have az:bo (Value.int .i64 s.n::(kA s.m++[oQ s.w])) (0+1+i*1) [oQ (s.m.getD i 0 ||| lb k)]=Value.int .i64 s.n::(bo (kA s.m) (0+i*1) [oQ (s.m.getD i 0 ||| lb k)]++[oQ s.w]):=by have h:=Xo [Value.int .i64 s.n] (kA s.m) [oQ s.w] i [oQ (s.m.getD i 0 ||| lb k)] (by rw[tC];show i+1<=64;omega);simp only[x0,AX,ea,gV,c0,fP]at h |-;exact h
 rw[az,aaE s.m ap i hi]
def cp.anc{x y:Nat}{vs:List Value}{K:List aB->Prop}(bc post:List aB)(cs:List Value)(T:Nat)(a1:M=bc++⟨b,.cells cs.toArray T (0,0)⟩::post)(ai:0+x+y+vs.length<=cs.length)(aa:fO vs=true)
  (cs':List Value) (he:bo cs (0+x+y) vs=cs') (h:K (bc++⟨b,.cells cs'.toArray T (0,0)⟩::post)):cp M (((⟨b,0,none⟩:Addr).add x).add y) vs K:=by
 rw[dL (⟨b,0,none⟩:Addr) rfl,dL _ rfl];exact cp.a0 bc post cs.toArray T a1 rfl (by rw[oA];simpa using ai) aa cs' he h
def ane{M1:List aB}{g:bJ}(au:g.ok I){k:Nat}(af:b2 nm g.ds 0=k)(anf:k<64){b1 b6 b7 i:Nat}(hi:i<64){s:dK}(ap:s.m.length=64)(aa:(⟨b1,.cells #[.slice g.a g.n g.c] 24 (0,0)⟩:aB)∈M1)(eo:(⟨b7,.cells #[.int .i64 i] 3 (0,0)⟩:aB)∈M1) :
  Spec Tryz.prog 168 [.string nm,ptr b1,ptr b6,ptr b7] I (j7 b6 s::M1) λv I' M'=>I'=I/\M'=j7 b6 (s.mark i k)::M1:=by
 refine bN [] aV Tryz.func168 rfl rfl rfl ?_;intro B ar;refine aI.mk [.slice g.a g.n g.c] ⟨rfl,_,_,_,.inr ⟨_,.tail _ aa,rfl,rfl⟩,rfl,rfl⟩ ?_;have aJ:Spec Tryz.prog 59 [g.val,.string nm] I (j7 b6 s::M1) λv I' M'=>v=.int .i64 k/\I'=I/\M'=j7 b6 s::M1:=by refine Spec.nT (Spec.frame (NR au nm)) ?_;rintro v J M⟨M',rfl,-,-,rfl,rfl,rfl⟩;rw[af];exact⟨rfl,rfl,rfl⟩
 refine a9.whole _ aJ ?_;rintro v J N -⟨rfl,bM,dr⟩;subst J;subst N;refine aU.mk (λ_=>?_) (λh=>?_)
 rotate_left
 ·have:¬ (0:Int)<=(k:Int):=dj h;omega
 refine c5.draw aV rfl rfl rfl ?_;refine aI.mk [.int .i64 i] ⟨rfl,_,_,_,.inr ⟨_,.tail _ eo,rfl,rfl⟩,rfl,rfl⟩ ?_;refine dV.mk i rfl hi ?_;refine aI.mk _ (ana (.head _) hi) ?_;refine rK.mk k rfl ?_;refine bd.mk _ (Rk anf) ?_;refine dV.mk i rfl hi ?_;refine cp.anc [] M1 s.cells _ rfl ?_ rfl (s.mark i k).cells ?_ ?_
 ·rw[dK.cD];show 0+1+i*1+1<=66;omega
 ·show bo s.cells (0+1+i*1) [Value.int .u64 (D5 (s.m.getD i 0).toNat (lb k).toNat)]=_;rw[K2];exact anb ap hi
 exact⟨_,_,.refl,rfl,rfl⟩
def dK.marks(s:dK)(i:Nat)(l:List Nat):dK:=l.foldl (λs k=>s.mark i k) s
def dK.aaI(s:dK)(i:Nat)(l m:List Nat):s.marks i (l++m)=(s.marks i l).marks i m:=CV
def dK.ho:∀ (l:List Nat) (s:dK) (i:Nat),(s.marks i l).m.length=s.m.length
 |[],s,i=>rfl| k::l,s,i=>by have:=dK.ho l (s.mark i k) i;unfold dK.marks at this |-;rw[sC,this];simp[dK.mark]
def Ro(b1 b6 b7:Nat):Value:=.func (.func 168) #[] #[ptr b1,ptr b6,ptr b7]
def aaJ{I:aZ}{g:bJ}(au:g.ok I)(iK:g.n<=64){t:cB}(ay:t.ok I)(jc:mB t)(ak:right t=true)(dB:vU (bR g.ds) t.ns=true){F:List a2}{M1:List aB}{b1 b6 b7 i:Nat}(hi:i<64)(aa:(⟨b1,.cells #[.slice g.a g.n g.c] 24 (0,0)⟩:aB)∈M1)(eo:(⟨b7,.cells #[.int .i64 i] 3 (0,0)⟩:aB)∈M1){xa:Option Addr}{xc:Nat}(ae:mY I M1 xa t.n (ek (bR g.ds) F t.ns [])) : ∀ (m j:Nat),j<m->∀ (an:j<t.ns.length) (s:dK) (ap:s.m.length=64),Spec Tryz.prog 167 [t.val,.slice xa t.n xc,.int .i64 j,Ro b1 b6 b7] I (j7 b6 s::M1) λv I' M'=>I'=I/\M'=j7 b6 (s.marks i (fE (bR g.ds) F t.ns j).2)::M1
 |0,j,h,_,_,_=>absurd h (wy _)
 |m+1,j,ati,an,s,ap=>by
  have a7:=aaJ (b6:=b6) (xc:=xc) au iK ay jc ak dB hi aa eo ae m;have lX:=ay.n;have eH:=au.n;have eS:=cJ an;have ah:=ay.ns _ eS;have dS:=ah.kn;have Rp:=jc _ eS;have ga:=AH ak an;have ang:=HE ah.k.1 ga;have lQ:=mm ak j an;have n6:=eP.1 dB _ eS;have bs:=Rf (pl:=bR g.ds) (F:=F) ak an;have fD:=Gn (bR g.ds) F t.ns [];simp only[gV,c0]at fD;obtain⟨ad,bF,bk⟩:=ay.a8.row aS.cD (show j<t.n by omega) an;have uf:(fE (bR g.ds) F t.ns j).2=nd (bR g.ds) t.ns[j] (t.ns[j].aL.map (fE (bR g.ds) F t.ns)):=by rw[bs];rfl
  rw[uf];clear bs uf;have Rq:∀ q (h:q<t.ns[j].aL.length),∃ k:Nat,t.ns[j].aL[q]=k/\k<j:=λq h=>by have:=lQ _ (cJ h);exact⟨t.ns[j].aL[q].toNat,by omega,by omega⟩
  generalize t.ns[j]=d at *;refine bN [] aV Tryz.func167 rfl rfl rfl ?_;intro B ar;refine bi.mk ad j bF rfl (by omega) ?_;refine aI.mk _ (bk _) ?_;refine aU.mk (λe=>?_) (λbz=>?_);·have e:d.k=3:=c1 e;obtain⟨q,Gq,A7,Rr⟩:=aao (nm:=d.t) (ds:=g.ds) (by simpa[e]using n6);refine a9.whole _ (ane au Gq (by omega) hi ap aa eo) ?_;rintro v J N -⟨bM,dr⟩;subst J;subst N;refine⟨_,_,.refl,rfl,?_⟩;rw[nd,eN e,bl,Rr];rfl
  have bz:¬ d.k=3:=dj bz;refine aU.mk (λe=>?_) (λcT=>?_)
  ·have e:d.k=4:=c1 e;have si:nd (bR g.ds) d (d.aL.map (fE (bR g.ds) F t.ns))=tB (d.aL.map (fE (bR g.ds) F t.ns)):=by rw[nd,de bz,eN e];rfl
   rw[si];refine c4.inv (ι:=Nat×dK) (λx=>{ bu:=[(1,.val (.slice xa t.n xc)),(3,.val (Ro b1 b6 b7)),(4,.ref 4 0),(42,.val (.slice d.hk d.kn d.gR)),(43,.val (.int .i64 d.kn)),(44,.val (.int .i64 x.1))],cl:=[(4,t.cells)],cS:=I,db:=j7 b6 x.2::M1 }) (λx=>x.1<=d.kn/\x.2.m.length=64/\s.marks i (tB (d.aL.map (fE (bR g.ds) F t.ns)))=x.2.marks i (tB ((d.aL.drop x.1).map (fE (bR g.ds) F t.ns)))) (λx=>d.kn-x.1) ?_ ?_;·exact⟨(0,s),⟨bw _,ap,rfl⟩,.refl,kf,.cons rfl (.nil)⟩
   rintro⟨q,cc⟩⟨aM,rM,ic⟩;simp only at aM rM ic;refine aU.mk (λh=>?_) (λh=>?_)
   rotate_left
   ·have cP:d.aL.length<=q:=by have:¬ (q:Int)<(d.kn:Int):=dj h;omega
    rw[qC cP]at ic;refine⟨_,_,.refl,rfl,?_⟩;rw[ic];rfl
   have aR:q<d.kn:=by have:(q:Int)<(d.kn:Int):=c1 h;omega
   have bZ:q<d.aL.length:=by omega
   obtain⟨fR,fS,e2⟩:=ah.a8.one aR bZ;obtain⟨k,af,DH⟩:=Rq q bZ;rw[af]at e2;have aaK:k<(ek (bR g.ds) F t.ns []).length:=by omega
   obtain⟨Rm,Rn,Ei⟩:=ae.rd k aaK;have nP:(d.aL.drop q).map (fE (bR g.ds) F t.ns)=fE (bR g.ds) F t.ns k::(d.aL.drop (q+1)).map (fE (bR g.ds) F t.ns):=by rw[eE bZ,cY,af]
   have lY:(fE (bR g.ds) F t.ns k).1=(ek (bR g.ds) F t.ns [])[k]:=by rw[Rg];simp[cC,aaK]
   rw[nP,tB,lY,dK.aaI]at ic;refine bi.mk fR q fS rfl aR ?_;refine aI.mk _ (e2 _) ?_;refine a9.whole _ (a7 k (by omega) (by omega) cc rM) ?_;rintro v J N -⟨bM,dr⟩;subst J;subst N;refine bi.mk Rm k Rn rfl (by omega) ?_;refine aI.mk _ ((Ei.sub λx ae=>.tail _ ae).part (k:=0) (m:=1) (by decide)) ?_;refine aU.mk (λbf=>?_) (λbf=>?_)
   ·have g5:(ek (bR g.ds) F t.ns [])[k].z=false:=by simpa using bf
    rw[g5]at ic;refine⟨_,_,.refl,rfl,?_⟩;rw[ic];rfl
   ·have g5:(ek (bR g.ds) F t.ns [])[k].z=true:=by simpa using bf
    rw[g5]at ic;refine bd.mk _ (cx (i:=q) (by omega)) ?_;exact⟨(q+1,cc.marks i (fE (bR g.ds) F t.ns k).2),⟨⟨aR,by rw[dK.ho];exact rM,ic⟩,by simp only;omega⟩,.refl,kf,.cons rfl (.nil)⟩
  have cT:¬ d.k=4:=dj cT;refine aU.mk (λe=>?_) (λhD=>?_)
  ·have e:d.k=6:=c1 e;have anh:=ang.one (by omega);have e3:0<d.aL.length:=by omega
   refine aU.mk (λbr=>?_) (λbr=>?_)
   ·have Al:decide (d.hi=0)=false:=by have Ak:(!decide (d.hi=0))=true:=br;simpa using Ak
    obtain⟨fR,fS,e2⟩:=ah.a8.one (j:=0) (by omega) e3;obtain⟨k,af,DH⟩:=Rq 0 e3;rw[af]at e2;have si:nd (bR g.ds) d (d.aL.map (fE (bR g.ds) F t.ns))=(fE (bR g.ds) F t.ns k).2:=by
     have hc:d.aL=[(k:Int)]:=by
      match ae:d.aL,e3,anh,af with
      |[a],_,_,af=>simp only[xh]at af;rw[af]| _::_::_,_,h,_=>simp at h;omega
     rw[nd,de bz,de cT,Al,hc];simp
    rw[si];refine c5.draw aV rfl rfl rfl ?_;refine bi.mk fR 0 fS rfl (by omega) ?_;refine aI.mk _ (e2 _) ?_;refine a9.whole _ (a7 k (by omega) (by omega) s ap) ?_;rintro v J N -⟨bM,dr⟩;subst J;subst N;exact⟨_,_,.refl,rfl,rfl⟩
   ·have Al:decide (d.hi=0)=true:=by have Ak:(!decide (d.hi=0))=false:=br;simpa using Ak
    have si:nd (bR g.ds) d (d.aL.map (fE (bR g.ds) F t.ns))=[]:=by rw[nd,de bz,de cT,eN e,Al];rfl
    rw[si];exact⟨_,_,.refl,rfl,rfl⟩
  have hD:¬ d.k=6:=dj hD;have si:nd (bR g.ds) d (d.aL.map (fE (bR g.ds) F t.ns))=(d.aL.map (fE (bR g.ds) F t.ns)).flatMap (·.2):=by rw[nd,de bz,de cT,de hD];rfl
  rw[si];refine c4.inv (ι:=Nat×dK) (λx=>{ bu:=[(1,.val (.slice xa t.n xc)),(3,.val (Ro b1 b6 b7)),(4,.ref 4 0),(21,.val (.slice d.hk d.kn d.gR)),(22,.val (.int .i64 d.kn)),(23,.val (.int .i64 x.1))],cl:=[(4,t.cells)],cS:=I,db:=j7 b6 x.2::M1 }) (λx=>x.1<=d.kn/\x.2.m.length=64/\s.marks i ((d.aL.map (fE (bR g.ds) F t.ns)).flatMap (·.2))=x.2.marks i (((d.aL.drop x.1).map (fE (bR g.ds) F t.ns)).flatMap (·.2))) (λx=>d.kn-x.1) ?_ ?_;·exact⟨(0,s),⟨bw _,ap,rfl⟩,.refl,kf,.cons rfl (.nil)⟩
  rintro⟨q,cc⟩⟨aM,rM,ic⟩;simp only at aM rM ic;refine aU.mk (λh=>?_) (λh=>?_)
  rotate_left
  ·have cP:d.aL.length<=q:=by have:¬ (q:Int)<(d.kn:Int):=dj h;omega
   rw[qC cP]at ic;refine⟨_,_,.refl,rfl,?_⟩;rw[ic];rfl
  have aR:q<d.kn:=by have:(q:Int)<(d.kn:Int):=c1 h;omega
  have bZ:q<d.aL.length:=by omega
  obtain⟨fR,fS,e2⟩:=ah.a8.one aR bZ;obtain⟨k,af,DH⟩:=Rq q bZ;rw[af]at e2;rw[eE bZ,cY,af,ob,dK.aaI]at ic;refine bi.mk fR q fS rfl aR ?_;refine aI.mk _ (e2 _) ?_;refine a9.whole _ (a7 k (by omega) (by omega) cc rM) ?_;rintro v J N -⟨bM,dr⟩;subst J;subst N;refine bd.mk _ (cx (i:=q) (by omega)) ?_;exact⟨(q+1,cc.marks i (fE (bR g.ds) F t.ns k).2),⟨⟨aR,by rw[dK.ho];exact rM,ic⟩,by simp only;omega⟩,.refl,kf,.cons rfl (.nil)⟩
def ew.yk(h:ew I M w)(aD:M.Perm N):ew I N w:=
 ⟨h.i,λx ae=>h.m x (aD.mem_iff.2 ae),λx ae=>h.d x (aD.mem_iff.2 ae),((aD.map (·.num)).nodup_iff).1 h.bT⟩
def Kept.yk{yl:List aB}(h:Kept I M w I' M' w')(aD:M.Perm N)(zf:M'.Perm yl):Kept I N w I' yl w':=
 ⟨h.le,h.tP,λx ae=>by
  rcases h.u' x (zf.mem_iff.2 ae)with⟨y,aF,e⟩ | aa;·exact .inl ⟨y,aD.mem_iff.1 aF,e⟩
  ·exact .inr aa,λb ai aF=>h.du b ai λy vh=>aF y (aD.mem_iff.1 vh),h.out,h.sz⟩
def Spec.yk{args:List Value}(aD:M.Perm N)(aM:∀ v I' M',p v I' M'->∃ yl,M'.Perm yl/\q v I' yl)(h:Spec P f args I M p):Spec P f args I N q:=by
 rcases h with⟨aa,ab⟩ | ab
 ·refine .inl ⟨aa,λw hw=>(ab w (hw.yk aD.symm)).mono ?_⟩;rintro e w'⟨v,I',M',ag,aW,bC,bP⟩;obtain⟨yl,eo,fo⟩:=aM _ _ _ aW;exact⟨v,I',yl,ag,fo,bC.yk eo,bP.yk aD eo⟩
 ·refine .inr λw hw=>?_;obtain⟨v,w',I',M',ag,aW,bC,bP⟩:=ab w (hw.yk aD.symm);obtain⟨yl,eo,fo⟩:=aM _ _ _ aW;exact⟨v,w',I',yl,ag,fo,bC.yk eo,bP.yk aD eo⟩
def dK.loop(s:dK)(i:Nat):dK:=⟨s.n,s.m,s.w ||| lb i⟩
def qF(pl:List (ByteArray×Int))(F:List a2)(s:dK)(i:Nat)(d:aQ):dK:=
 bif nV d.t.ns (ek pl F d.t.ns [])then(s.marks i (fE pl F d.t.ns d.t.bD).2).loop i else s.marks i (fE pl F d.t.ns d.t.bD).2
def j8(n:Nat):dK:=⟨n,List.replicate 64 0,0⟩
def jx(pl:List (ByteArray×Int))(F:List a2):Nat->List aQ->dK->dK
 |_,[],s=>s| i,d::ds,s=>jx pl F (i+1) ds (qF pl F s i d)
def qG(ds:List aQ)(F:List a2):dK:=jx (bR ds) F 0 ds (j8 ds.length)
def aaL(pl:List (ByteArray×Int))(F:List a2)(s:dK)(i:Nat)(d:aQ):(qF pl F s i d).m.length=s.m.length:=by
 unfold qF;cases nV d.t.ns (ek pl F d.t.ns [])with
 |true=>exact dK.ho _ s i| false=>exact dK.ho _ s i
def aaM(pl:List (ByteArray×Int))(F:List a2):∀ (l:List aQ) (i:Nat) (s:dK) (d:aQ),jx pl F i (l++[d]) s=qF pl F (jx pl F i l s) (i+l.length) d
 |[],i,s,d=>rfl| a::l,i,s,d=>by rw[qZ,jx,jx,aaM pl F l];congr 1;simp;omega
def Rs(pl:List (ByteArray×Int))(F:List a2):∀ (l:List aQ) (i:Nat) (s:dK),(jx pl F i l s).m.length=s.m.length
 |[],i,s=>rfl| d::l,i,s=>by rw[jx,Rs pl F l,aaL]
def aaN{s:dK}(a1:j7 b s∈M):cr I M ((⟨b,0,none⟩:Addr).add 65) 1 [oQ s.w]:=by rw[dL _ rfl];refine⟨rfl,_,_,_,.inr ⟨_,a1,rfl,rfl⟩,?_,rfl⟩;show(s.cells.drop (0+65)).take 1=_;rw[dK.cells,c0,GW,CD (tC _)];rfl
def ani(s:dK)(i:Nat):bo s.cells (0+65) [oQ (s.w ||| lb i)]=(s.loop i).cells:=by unfold dK.cells dK.loop bo;simp only[c0,ea,gV];rw[nt,p5 (tC _),GW,qC (by simp[tC])];simp
def Lt{s:dK}(a1:j7 b s∈M):cr I M (⟨b,0,none⟩:Addr) 66 s.cells:=
 ⟨rfl,_,_,_,.inr ⟨_,a1,rfl,rfl⟩,by simp only[sX];exact eW (show s.cells.length<=66 by rw[dK.cD];exact cj _),dK.cD s⟩
def anj(bp:e4 I ax){g:bJ}(au:g.ok I)(jc:∀ d∈g.ds,mB d.t)(iK:dF ax g=0->g.n<=64):Spec Tryz.prog 98 [g.val] I [] λv I' M'=>(∀ b o,I b=some o->I' b=some o)/\M'=[] /\
  ((dF ax g≠0/\v=.tuple #[(j8 0).val,.int .i64 (dF ax g)])\/(dF ax g=0/\∃ F,k3 g.ds F/\v=.tuple #[(qG g.ds F).val,.int .i64 0])):=by
 refine bN [1,2,6,7] aV Tryz.func98 rfl rfl rfl ?_;intro B ar;have eH:=au.n;have hz:=au.a8.cap;refine b8.mk λb1 nx OJ=>?_;refine b8.mk λcd gq NU=>?_;refine aI.mk [.slice g.a g.n g.c] (dO (cs:=[.slice g.a g.n g.c]) (k:=0) (n:=1) (.tail _ (.head _)) (by simp)) ?_;refine a9.mk [] [j7 cd (j8 0),⟨b1,.cells #[.slice g.a g.n g.c] 24 (0,0)⟩] _ (.refl _) (ahw bp au) ?_;rintro v cU N -⟨bO,⟨hm,rfl,rfl⟩|⟨hm,wI,F,rfl,rfl,bU⟩⟩
 ·refine aU.mk (λ_=>?_) (λh=>absurd h (by simp[hm]));refine cp.a0 [] _ _ _ rfl rfl rfl rfl (j8 0).cells rfl ?_;refine aI.mk _ (Lt (.head _)) ?_;exact⟨_,_,.sub (fZ _) .refl,bO,rfl,.inl ⟨hm,rfl⟩⟩
 refine aU.mk (λh=>absurd h (by simp)) (λ_=>?_);have a1:=J7 eH hm;have aaO:F.length=g.n:=by rw[bU.len,eH]
 have ank:=iK hm;refine aI.mk [.slice g.a g.n g.c] (dO (cs:=[.slice g.a g.n g.c]) (k:=0) (n:=1) (.tail _ (.tail _ (.head _))) (by simp)) ?_;refine b8.mk λb6 FX NQ=>?_;refine cp.a0 [] _ _ _ rfl rfl rfl rfl (j8 g.n).cells rfl ?_;refine aI.mk [.slice g.a g.n g.c] (dO (cs:=[.slice g.a g.n g.c]) (k:=0) (n:=1) (.tail _ (.tail _ (.tail _ (.head _)))) (by simp)) ?_;refine c4.inv (ι:=Nat×aZ) (λx=>{ bu:=[(1,.val (ptr b1)),(2,.val (ptr cd)),(4,.val (.slice (some ⟨wI,0,none⟩) g.n g.n)),(6,.val (ptr b6)),(25,.val (.slice g.a g.n g.c)),(26,.val (.int .i64 g.n)),(27,.val (.int .i64 x.1))],cl:=[],cS:=x.2,db:=[j7 b6 (jx (bR g.ds) F 0 (g.ds.take x.1) (j8 g.n)),fr wI F,j7 cd (j8 0),⟨b1,.cells #[.slice g.a g.n g.c] 24 (0,0)⟩] }) (λx=>x.1<=g.n/\∀ b o,I b=some o->x.2 b=some o) (λx=>g.n-x.1) ?_ ?_
 ·exact⟨(0,cU),⟨bw _,bO⟩,.refl,kg,.nil⟩
 rintro⟨i,J⟩⟨hi,bM⟩;simp only at hi bM;refine aU.mk (λh=>?_) (λh=>?_)
 rotate_left
 ·have cP:i=g.n:=by have:¬ (i:Int)<(g.n:Int):=dj h;omega
  refine aI.mk _ (Lt (.head _)) ?_;refine cp.a0 [j7 b6 (jx (bR g.ds) F 0 (g.ds.take i) (j8 g.n)),fr wI F] _ _ _ rfl rfl rfl rfl (jx (bR g.ds) F 0 (g.ds.take i) (j8 g.n)).cells ?_ ?_;·rfl
  refine aI.mk _ (Lt (.tail _ (.tail _ (.head _)))) ?_;refine⟨_,_,.sub (fZ _) .refl,bM,rfl,.inr ⟨hm,F,bU,?_⟩⟩;rw[cP,eW (l:=g.ds) (by omega),qG,eH];rfl
 have aR:i<g.n:=by have:(i:Int)<(g.n:Int):=c1 h;omega
 have bZ:i<g.ds.length:=by omega
 have ym:=au.mono bM;have Rt:=bp.mono bM;obtain⟨ad,bF,bk⟩:=ym.a8.row aQ.cD aR bZ;have eS:=cJ bZ;have ah:=ym.ds _ eS;have ak:=a1.right _ eS;have dB:=a1.named _ eS;have Rp:=jc _ eS;have g8:jx (bR g.ds) F 0 (g.ds.take (i+1)) (j8 g.n)=qF (bR g.ds) F (jx (bR g.ds) F 0 (g.ds.take i) (j8 g.n)) i g.ds[i]:=by rw[gf bZ,aaM,CP (by omega),c0]
 have g6:(jx (bR g.ds) F 0 (g.ds.take i) (j8 g.n)).m.length=64:=by rw[Rs];rfl
 generalize g.ds[i]=d at bk ah ak dB Rp g8;refine bi.mk ad i bF rfl aR ?_;refine aI.mk _ (bk _) ?_;refine b8.mk λb7 J9 OI=>?_;refine cp.a0 [] _ _ _ rfl rfl rfl rfl [.int .i64 i] rfl ?_;refine aI.mk [.slice g.a g.n g.c] (dO (cs:=[.slice g.a g.n g.c]) (k:=0) (n:=1) (.tail _ (.tail _ (.tail _ (.tail _ (.head _))))) (by simp)) ?_;generalize atj:jx (bR g.ds) F 0 (g.ds.take i) (j8 g.n)=s at g6 g8 |-;have kt:∀ {M:List aB},fr wI F∈M->mY J M (some ⟨wI,0,none⟩) g.n F:=λGN=>by have:=J5 (I:=J) GN;rwa [aaO]at this
 have aaP:zp g F d.t=some (ek (bR g.ds) F d.t.ns []):=by rw[zp,ak,dB,eN aaO];rfl
 refine a9.whole _ (ahq (lc:=g.n) Rt ym ah.t (kt (.tail _ (.tail _ (.head _))))) ?_;rintro v hF ez -⟨jy,⟨aq,-,-⟩|⟨r,ck,aq,rfl,rfl⟩⟩
 ·rw[aaP]at aq;cases aq
 rw[aaP]at aq;obtain rfl:=kV aq;refine b4.mk (λh=>?_) (λh=>?_)
 rotate_left
 ·cases h
 refine aU.mk (λh=>absurd h (by simp)) (λ_=>?_);have AG:=vG ak;have zK:=aaJ (b1:=b1) (b6:=b6) (b7:=b7) (i:=i) (xa:=some ⟨ck,0,none⟩) (xc:=d.t.n) (F:=F) (ym.mono jy) ank (ah.t.mono jy) Rp ak dB (by omega) (M1:=[fr ck (ek (bR g.ds) F d.t.ns []),⟨b7,.cells #[.int .i64 i] 3 (0,0)⟩,fr wI F,j7 cd (j8 0),⟨b1,.cells #[.slice g.a g.n g.c] 24 (0,0)⟩]) (.tail _ (.tail _ (.tail _ (.tail _ (.head _))))) (.tail _ (.head _)) (by
  have:=J5 (I:=hF) (M:=[fr ck (ek (bR g.ds) F d.t.ns []),⟨b7,.cells #[.int .i64 i] 3 (0,0)⟩,fr wI F,j7 cd (j8 0),⟨b1,.cells #[.slice g.a g.n g.c] 24 (0,0)⟩]) (b:=ck) (l:=ek (bR g.ds) F d.t.ns []) (.head _);rw[Gn,ah.t.n]at this;simpa using this) d.t.ns.length d.t.bD.toNat (by omega) (by omega) s g6
 rw[yN AG.1]at zK;have anl:=Spec.yk (q:=λv I' M'=>I'=hF/\M'=j7 b6 (s.marks i (fE (bR g.ds) F d.t.ns d.t.bD.toNat).2)::[fr ck (ek (bR g.ds) F d.t.ns []),⟨b7,.cells #[.int .i64 i] 3 (0,0)⟩,fr wI F,j7 cd (j8 0),⟨b1,.cells #[.slice g.a g.n g.c] 24 (0,0)⟩]) (qk (a:=j7 b6 s) (l₁:=[fr ck (ek (bR g.ds) F d.t.ns []),⟨b7,.cells #[.int .i64 i] 3 (0,0)⟩]) (l₂:=[fr wI F,j7 cd (j8 0),⟨b1,.cells #[.slice g.a g.n g.c] 24 (0,0)⟩])).symm (λv I' M' h=>⟨M',.refl _,h⟩) zK;refine a9.whole _ anl ?_;rintro v yn N -⟨wJ,dr⟩;subst yn;subst N;generalize fs:s.marks i (fE (bR g.ds) F d.t.ns d.t.bD.toNat).2=s1 at *;have atk:s1.m.length=64:=by rw[<-fs,dK.ho,g6]
 refine a9.whole _ (am9 (xs:=ek (bR g.ds) F d.t.ns []) (ah.t.mono jy) ak ?_) ?_
 ·have:=J5 (I:=hF) (M:=j7 b6 s1::[fr ck (ek (bR g.ds) F d.t.ns []),⟨b7,.cells #[.int .i64 i] 3 (0,0)⟩,fr wI F,j7 cd (j8 0),⟨b1,.cells #[.slice g.a g.n g.c] 24 (0,0)⟩]) (b:=ck) (l:=ek (bR g.ds) F d.t.ns []) (.tail _ (.head _));rw[Gn,ah.t.n]at this;simpa using this
 rintro v yn N -⟨aj,wJ,dr⟩;subst yn;subst N;subst v;have dE:(j7 b6 (qF (bR g.ds) F s i d))=(j7 b6 (bif nV d.t.ns (ek (bR g.ds) F d.t.ns [])then s1.loop i else s1)):=by rw[qF,<-fs];rfl
 refine aU.mk (λhe=>?_) (λhe=>?_)
 rotate_left
 ·have sQ:nV d.t.ns (ek (bR g.ds) F d.t.ns [])=false:=he;refine bd.mk _ (cx (i:=i) (by omega)) ?_;refine⟨(i+1,hF),⟨⟨aR,λb o h=>jy _ _ (bM _ _ h)⟩,by simp only;omega⟩,.sub (.cons_cons _ (.cons _ (.cons _ (.refl _)))) (.pH ?_),kg,.nil⟩;simp only;rw[g8,dE,sQ];rfl
 have sQ:nV d.t.ns (ek (bR g.ds) F d.t.ns [])=true:=he;refine c5.draw aV rfl rfl rfl ?_;refine aI.mk _ (aaN (.head _)) ?_;refine aI.mk [.int .i64 i] (dO (cs:=[.int .i64 i]) (k:=0) (n:=1) (.tail _ (.tail _ (.head _))) (by simp)) ?_;refine rK.mk i rfl ?_;refine bd.mk _ (Rk (by omega)) ?_;refine cp.jj [] _ s1.cells _ rfl ?_ rfl (s1.loop i).cells ?_ ?_
 ·rw[dK.cD];rfl
 ·show bo s1.cells (0+65) [Value.int .u64 (D5 s1.w.toNat (lb i).toNat)]=_;rw[K2];exact ani s1 i
 refine bd.mk _ (cx (i:=i) (by omega)) ?_;refine⟨(i+1,hF),⟨⟨aR,λb o h=>jy _ _ (bM _ _ h)⟩,by simp only;omega⟩,.sub (.cons_cons _ (.cons _ (.cons _ (.refl _)))) (.pH ?_),kg,.nil⟩;simp only;rw[g8,dE,sQ];rfl
def Ej(l:List Nat):List Value:=l.map λn:Nat=>Value.int .i64 n
def zW(s:dK):List Nat:=bitsOf s.w 64
open Classical in
noncomputable def wK(s:dK):List Nat:=(List.range 64).filter λi=>decide (qE s.m i i)
def anm{s:dK}{b:dy}(h:∀ i,i<64->(b.getLsbD i=true ↔ qE s.m i i)):bitsOf b 64=wK s:=by
 unfold bitsOf wK;apply ES;intro i hi;have:=h i (by simpa using hi);by_cases aA:qE s.m i i
 ·simp[aA,this.2 aA]
 ·have:b.getLsbD i=false:=by
   cases ai:b.getLsbD i with
   |false=>rfl| true=>exact absurd (this.1 ai) aA
  simp[aA,this]
def aaQ(pl:List (ByteArray×Int))(F:List a2):∀ (l:List aQ) (i:Nat) (s:dK),(jx pl F i l s).n=s.n
 |[],i,s=>rfl
 |d::l,i,s=>by
  rw[jx,aaQ pl F l];have hm:∀ (q:List Nat) (s:dK),(s.marks i q).n=s.n:=λq=>by
   induction q with
   |nil=>exact λs=>rfl
   |cons k q a7=>exact λs=>a7 (s.mark i k)
  unfold qF;cases nV d.t.ns (ek pl F d.t.ns [])with
  |true=>exact hm _ s| false=>exact hm _ s
def ann(ds:List aQ)(F:List a2):(qG ds F).n=ds.length:=aaQ _ _ _ _ _
def ano(ds:List aQ)(F:List a2):(qG ds F).m.length=64:=by rw[qG,Rs];rfl
noncomputable def HI(e:Int)(s:dK):Int×Int:=
 if e≠0 then(0,e)else if 0<(wK s).length then(((wK s).headD 0:Nat),42)else if 0<(zW s).length then(((zW s).headD 0:Nat),43)else(0,0)
def a'.pos{l:List Nat}(h:os.ok 1 (Ej l)):l.length=os.n:=by have:=h.len;simpa[Ej]using this
def aaR{l:List Nat}(h:os.ok 1 (Ej l))(av:0<l.length)(a1:os.aP e++M0=M):∃ ad,os.a.map (λg=>(⟨g,0,none⟩:Addr))=some ad/\cr I M (ad.add (0*1)) 1 [.int .i64 (l.headD 0:Nat)]:=by
 have aD:=a'.pos h;cases aC:os.a with
 |none=>have:=(h.nil aC).1;omega
 |some b=>
  obtain⟨aa,ab,ag,aW⟩:=h.cap b aC;refine⟨⟨b,0,none⟩,rfl,?_⟩;subst a1;cases l with
  |nil=>simp at av
  |cons a l=>
   cases aA:os.aK with
   |nil=>rw[aA]at aW;simp[Ej]at aW
   |cons x xs=>
    rw[aA]at aW;have aq:os.n*1=(os.n-1)+1:=by omega
    rw[aq,nt]at aW;have ae:x=.int .i64 a:=(List.cons.inj aW).1;refine⟨rfl,_,_,_,.inr ⟨⟨b,.cells os.aK.toArray e (0,0)⟩,?_,rfl,rfl⟩,?_,rfl⟩;·unfold a'.aP;rw[aC];exact .head _
    ·rw[aA,ae];rfl
def anp(bp:e4 I ax){g:bJ}(au:g.ok I)(jc:∀ d∈g.ds,mB d.t)(iK:dF ax g=0->g.n<=64):Spec Tryz.prog 50 [g.val] I [] λv I' M'=>(∀ b o,I b=some o->I' b=some o)/\M'=[] /\
  ∃ r:Int×Int,v=.tuple #[.int .i64 r.1,.int .i64 r.2]/\((dF ax g≠0/\r=(0,dF ax g))\/(dF ax g=0/\∃ F,k3 g.ds F/\r=HI 0 (qG g.ds F))):=by
 refine bN [4] aV Tryz.func50 rfl rfl rfl ?_;intro B ar;have eH:=au.n;refine a9.mk [] [] _ (.refl _) (anj bp au jc iK) ?_;rintro v cU N -⟨bO,rfl,⟨hm,rfl⟩|⟨hm,F,bU,rfl⟩⟩
 ·refine b8.mk λeI F6 Jz=>?_;refine cp.a0 [] _ _ _ rfl rfl rfl rfl (j8 0).cells rfl ?_;refine aU.mk (λh=>?_) (λh=>absurd h (by simp[hm]));exact⟨_,_,.sub (fZ _) .refl,bO,rfl,(0,dF ax g),rfl,.inl ⟨hm,rfl⟩⟩
 refine b8.mk λeI F6 Jz=>?_;refine cp.a0 [] _ _ _ rfl rfl rfl rfl (qG g.ds F).cells rfl ?_;have g8:=ann g.ds F;have g6:=ano g.ds F;have aq:=iK hm;generalize ap:qG g.ds F=s at g8 g6;refine aU.mk (λh=>absurd h (by simp)) (λ_=>?_);refine aI.mk _ (Lt (.head _)) ?_;refine a9.whole _ (am4 s ⟨g6,by omega⟩) ?_;rintro v J N -⟨rfl,rfl,b,rfl,ai⟩;refine a9.whole _ (aaB b) ?_;rintro v J N -⟨rfl,os,ca,rfl,rfl⟩;have ca:os.ok 1 (Ej (wK s)):=by rw[<-anm ai];exact ca
 have aD:=a'.pos ca;refine aU.mk (λh=>?_) (λh=>?_)
 ·have aX:0<(wK s).length:=by have:(0:Int)<(os.n:Int):=c1 h;omega
  obtain⟨ad,bF,bk⟩:=aaR (I:=J) ca aX rfl;refine bi.mk ad 0 bF rfl (by omega) ?_;refine aI.mk _ bk ?_;exact⟨_,_,.sub (fZ _) .refl,bO,rfl,(((wK s).headD 0:Nat),42),rfl,.inr ⟨hm,F,bU,by rw[ap,HI,cb (by simp),cn aX]⟩⟩
 have aX:¬ 0<(wK s).length:=by have:¬ (0:Int)<(os.n:Int):=dj h;omega
 refine aI.mk _ (aaN (pS _ (.head _))) ?_;refine a9.whole _ (aaB s.w) ?_;rintro v hF N -⟨rfl,Ru,Lu,rfl,rfl⟩;have Lu:Ru.ok 1 (Ej (zW s)):=Lu;have m4:=a'.pos Lu;refine aU.mk (λh=>?_) (λh=>?_)
 ·have ab:0<(zW s).length:=by have:(0:Int)<(Ru.n:Int):=c1 h;omega
  obtain⟨ad,bF,bk⟩:=aaR (I:=hF) Lu ab rfl;refine bi.mk ad 0 bF rfl (by omega) ?_;refine aI.mk _ bk ?_;exact⟨_,_,.sub (fZ _) .refl,bO,rfl,(((zW s).headD 0:Nat),43),rfl,.inr ⟨hm,F,bU,by rw[ap,HI,cb (by simp),cb aX,cn ab]⟩⟩
 have ab:¬ 0<(zW s).length:=by have:¬ (0:Int)<(Ru.n:Int):=dj h;omega
 exact⟨_,_,.sub (fZ _) .refl,bO,rfl,(0,0),rfl,.inr ⟨hm,F,bU,by rw[ap,HI,cb (by simp),cb aX,cb ab]⟩⟩
def Lv(l:List Nat)(w:dy):dy:=l.foldl (λw k=>w ||| lb k) w
def anq(l:List Nat)(w:dy){i:Nat}(hi:i<64):(Lv l w).getLsbD i=(w.getLsbD i||l.contains i):=amQ l w hi
def pN(m:List dy)(i:Nat):m.set i (m.getD i 0)=m:=by
 apply yO;intro j;rw[mh];by_cases h:i=j
 ·subst h;by_cases av:i<m.length
  ·simp[av,cC]
  ·simp[av]
 ·simp[h]
def aaS(i:Nat):∀ (l:List Nat) (s:dK),i<s.m.length->(s.marks i l).m=s.m.set i (Lv l (s.m.getD i 0))
 |[],s,h=>(pN s.m i).symm| k::l,s,h=>by have a7:=aaS i l (s.mark i k) (by simpa[dK.mark]using h);show((s.mark i k).marks i l).m=_;rw[a7,dK.mark];simp only;rw[I3,Rl (by simpa using h)];rfl
def Rv(i:Nat):∀ (l:List Nat) (s:dK),(s.marks i l).w=s.w
 |[],s=>rfl| k::l,s=>Rv i l (s.mark i k)
def aaT(pl:List (ByteArray×Int))(F:List a2)(s:dK)(i:Nat)(d:aQ)(h:i<s.m.length):(qF pl F s i d).m=s.m.set i (Lv (fE pl F d.t.ns d.t.bD).2 (s.m.getD i 0)):=by
 unfold qF;rw[<-aaS i _ s h];cases nV d.t.ns (ek pl F d.t.ns [])<;>rfl
def aaU(pl:List (ByteArray×Int))(F:List a2)(s:dK)(i:Nat)(d:aQ):(qF pl F s i d).w=bif nV d.t.ns (ek pl F d.t.ns [])then s.w ||| lb i else s.w:=by
 unfold qF;cases nV d.t.ns (ek pl F d.t.ns [])
 ·exact Rv i _ s
 ·show(s.marks i _).w ||| lb i=_
  rw[Rv];rfl
def Rw(pl:List (ByteArray×Int))(F:List a2):∀ (l:List aQ) (i:Nat) (s:dK),s.m.length=64->i+l.length<=64 -> (∀ j,j<i\/i+l.length<=j->(jx pl F i l s).m.getD j 0=s.m.getD j 0) /\ (∀ q (h:q<l.length),(jx pl F i l s).m.getD (i+q) 0=Lv (fE pl F l[q].t.ns l[q].t.bD).2 (s.m.getD (i+q) 0)) /\ (∀ j,j<64->j<i\/i+l.length<=j->(jx pl F i l s).w.getLsbD j=s.w.getLsbD j) /\ (∀ q (h:q<l.length),(jx pl F i l s).w.getLsbD (i+q)=(s.w.getLsbD (i+q)||nV l[q].t.ns (ek pl F l[q].t.ns [])))
 |[],i,s,_,_=>⟨λ_ _=>rfl,λ_ h=>absurd h (by simp),λ_ _ _=>rfl,λ_ h=>absurd h (by simp)⟩
 |d::l,i,s,ap,av=>by
  rw[ea]at av;obtain⟨aa,ab,ag,aW⟩:=Rw pl F l (i+1) (qF pl F s i d) (by rw[aaL,ap]) (by omega);have hm:∀ j,j≠i->(qF pl F s i d).m.getD j 0=s.m.getD j 0:=λj an=>by rw[aaT pl F s i d (by omega)];simp[cC,mh,rJ an]
  have hw:∀ j,j<64->j≠i->(qF pl F s i d).w.getLsbD j=s.w.getLsbD j:=λj an bK=>by
   rw[aaU];cases nV d.t.ns (ek pl F d.t.ns []);·rfl
   ·rw[bl,BG,Lo an];simp[bK]
  refine⟨λj an=>?_,λq h=>?_,λj an lO=>?_,λq h=>?_⟩;·rw[ea]at an;rw[jx,aa j (by omega),hm j (by omega)]
  ·cases q with
   |zero=>rw[jx,aa _ (by omega),aaT pl F s i d (by omega)];rw[nj,Rl (by omega)];rfl| succ q=>have:=ab q (by simpa using h);rw[show i+1+q=i+(q+1) by omega]at this;rw[jx,this,hm _ (by omega)];rfl
  ·rw[ea]at lO;rw[jx,ag j an (by omega),hw j an (by omega)]
  ·cases q with
   |zero=>
    rw[jx,ag _ (by omega) (by omega),aaU,nj,xh];cases he:nV d.t.ns (ek pl F d.t.ns []);·simp
    ·rw[bl,BG,Lo (by omega)];simp
   |succ q=>
    have aM:q<l.length:=by simpa using h
    have:=aW q aM;rw[show i+1+q=i+(q+1) by omega]at this;rw[jx,this,hw _ (by omega) (by omega)];rfl
def kB(ds:List aQ)(F:List a2)(i:Nat):List Nat:=match ds[i]? with
 |some d=>(fE (bR ds) F d.t.ns d.t.bD).2| none=>[]
def HJ(ds:List aQ)(F:List a2)(i:Nat):Bool:=match ds[i]? with
 |some d=>nV d.t.ns (ek (bR ds) F d.t.ns [])| none=>false
def Lw(aq:ds.length<=64){i k:Nat}(af:k<64):((qG ds F).m.getD i 0).getLsbD k=(kB ds F i).contains k:=by
 obtain⟨aa,ab,-,-⟩:=Rw (bR ds) F ds 0 (j8 ds.length) (by rfl) (by omega);have ar:∀ j,(j8 ds.length).m.getD j 0=0#64:=λj=>by
  simp only[j8,cC,Od];by_cases h:j<64<;>simp[h]
 unfold kB qG;by_cases h:i<ds.length
 ·have:=ab i h;rw[c0]at this;rw[this,ar,anq _ _ af,eb h];simp
 ·rw[aa i (by omega),ar,oW (by omega)];simp
def aaV(aq:ds.length<=64){i:Nat}(hi:i<64):(qG ds F).w.getLsbD i=HJ ds F i:=by
 obtain⟨-,-,aa,ab⟩:=Rw (bR ds) F ds 0 (j8 ds.length) (by rfl) (by omega);unfold HJ qG;by_cases h:i<ds.length
 ·have:=ab i h;rw[c0]at this;rw[this,eb h];simp[j8]
 ·rw[aa i hi (by omega),oW (by omega)];simp[j8]
section
end
section
end
structure anr(t:cB):Prop where
 n:t.n<2500
 ns:∀ bT∈t.ns,Of bT
def xH.ok(h:xH I t)(ap:anr t):t.ok I:=
 ⟨h.a8.AZ (by have:=ap.n;omega),λbT cg=>(h.ns bT cg).ok (ap.ns bT cg),h.bD⟩
def Lx{f:aQ->a2}{i:Nat}(h:i<ds.length):(ds.map f).getD i bL=f ds[i]:=by simp[cC,h]
def oC.all{l:List a2}(h:oC ds l):oC ds (ds.map (hQ (bR ds) l))/\ep l (ds.map (hQ (bR ds) l)):=by
 have bs:ep l (ds.map (hQ (bR ds) l)):=ep.of (by simp[h.len]) λi hi=>by rw[Lx (by rw[<-h.len];exact hi)];exact h.up i _
 refine⟨⟨by simp,λi hi=>?_,λm hm aA=>ep.of (by simp[hm]) λi hi=>?_⟩,bs⟩
 ·rw[Lx hi];exact Gu bs _
 ·have c7:i<ds.length:=by simpa using hi
  rw[Lx c7];exact(Gu (h.least m hm aA) _).trans (aA i c7)
def zX(b:Bool)(xs:List (a2×List Nat)):List Nat:=bif b then tB xs else xs.flatMap (·.2)
def ans(b:Bool):zX b []=[]:=by cases b<;>rfl
def ant(b:Bool)(x:a2×List Nat)(xs:List (a2×List Nat)):zX b (x::xs)=x.2++bif b && !x.1.z then []else zX b xs:=by
 cases b with
 |true=>
  cases bf:x.1.z<;>simp[zX,tB,bf]
 |false=>simp[zX]
def anu{d:aS}{xs:List (a2×List Nat)}(ag:¬ d.k=3)(bP:¬ (d.k=6/\d.hi=0)):nd pl d xs=zX (decide (d.k=4)) xs:=by
 unfold nd zX;rw[de ag,bh];cases aW:decide (d.k=4)with
 |true=>rfl
 |false=>
  rw[bh,bh];by_cases a:d.k=6;·have b:¬ d.hi=0:=λe=>bP ⟨a,e⟩;rw[eN a,de b];rfl
  ·rw[de a];rfl
end Go.V
