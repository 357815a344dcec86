/- Part 8 of what the proofs of this seat share: the executor, data in memory, walks.
-/
import Derived.Test.YtjambecdkaahmaaGreatDoorK7
import Derived.Test.YtjambecdkaahmaaGreatDoorK2
import Derived.Test.YtjambecdkaahmaaGreatDoorK3
import Derived.Test.YtjambecdkaahmaaGreatDoorK6
import Derived.Test.YtjambecdkaahmaaGreatDoorK4
import Derived.Test.YtjambecdkaahmaaGreatDoorK5
set_option linter.all false
set_option maxHeartbeats 8000000
set_option maxRecDepth 100000
namespace Go.V
open Go
def Bw:=@Nat.not_lt_zero
def yn:=@Bool.or_true
def M8:=@List.drop_of_length_le
def Jg:=@List.filter_append
def M9:=@List.any_eq_true
variable{D bH D0:bS}{n b e f g n0:Nat}{ops:List Oper}{F:List a8}{β:Nat->Nat}{R α:Type}{eV:Fr}{X:dw}{Q:Exit->Act->World->Prop}{Y:hF}{I dZ I':a5}{M M0 M':List aF}{row:List (Nat×Nat)}{E:Env}{x:Operand}{P:Program}{args:List ap}{us:List Value}{ex:vA}{w w':World}{W:List cD}{ps:List Nat}{fO body:Code}{iz:Loc}{G:GT}{pr:mG}{arr:Array Value}{nm s:ByteArray}
def l8(X:dw)(G:GT)(pr:mG)(D0:bS)(n0:Nat)(ak:bn ap)(m:bB)(a:Act)(w:World):Prop:=
 ∃ D F C I M,Rel X a w F C I M/\rN D F ak/\dE (et X G pr) D m I M/\D0.ext D n0/\n0<=m.n
section
variable{X:dw}{G:GT}{pr:mG}{D0:bS}{n0:Nat}{m m':bB}{ak dq:bn ap}{a:Act}{w:World}
def bS.abT{I6:bS}{fK:Nat}(h:D.ext bH n)(bg:bH.ext I6 fK)(az:n<=fK):D.ext I6 n:=λi hi=>by rw[bg i (by omega),h i hi]
def anR{ops:Array Oper}{o:Oper}{b:Bool}{F:Fr}(h:wM ops.toList o ak=some b)(cB:∀ t,fe β (F t) (a.tmps.getD t undef))(yV:rN D F ak):Region.wanted o (yielded ops a.tmps)=b:=by
 unfold wM at h;split at h
 ·rename_i aB;cases h;simp[Region.wanted,aB]
 ·rename_i j c aB;split at h
  ·cases h
  ·rename_i d an;have ji:(ops[j]?).bind (·.dst)=some d:=by rw[Bm]at an;simpa using an
   have aT:=Gx ji a.tmps;split at h
   ·rename_i q aL;cases h;have ax:=yV _ _ aL;have aj:a.tmps.getD d undef=.bool q:=by
     have U:=cB d;rcases ax with⟨u,e,hu⟩ | ⟨fG,a',e⟩;·rw[e]at U;rw[U,hu.bool]
     ·cases a';rw[e]at U;exact U
    simp[Region.wanted,aB,aT,D' aj]
   ·rename_i l aL;cases h;have ax:=yV _ _ aL;obtain⟨u,e,hu⟩:=ax.yl (by simp);obtain⟨vs,_,rfl⟩:=hu.SJ;have U:=cB d;rw[e]at U;have Cb:yielded ops a.tmps j=none:=by
     rw[aT];cases lQ:a.tmps[d]? with
     |none=>rfl| some v=>simp only[fe,p8,lQ,mb]at U;subst U;rfl
    simp[Region.wanted,aB,Cb]
   ·cases h
def abU{o:Oper}{K:bn ap->Option R}{r:R}(h:Dp o ak K=some r):∃ dq,K dq=some r/\(o.dst=none->dq=ak)/\∀ d,o.dst=some d->∀ t w,dq.get t=some w->(t=d/\w=.t [])\/(t≠d/\ak.get t=some w):=by
 unfold Dp at h;cases ah:o.dst with
 |none=>rw[ah]at h;exact⟨ak,h,λ_=>rfl,λd e=>by cases e⟩
 |some d=>
  rw[ah]at h;obtain⟨dq,U,aa⟩:=bn.pY (some (ap.t [])) ak d;simp only[U]at h;refine⟨dq,h,(λe=>by cases e),λzq iD t w hw=>?_⟩;cases iD;rcases aa t w hw with⟨aC,aA⟩ | ⟨aC,aA⟩;·exact .inl ⟨aC,(pZ aA).symm⟩
  ·exact .inr ⟨aC,aA⟩
def rN.step{F:Fr}{dst:Option Nat}{v:ap}(h:rN D F ak)(bz:D.le bH)(aK:wQ dst v bH F eV)(U:dst=none->dq=ak)(aa:∀ d,dst=some d->∀ t w,dq.get t=some w->(t=d/\w=v)\/(t≠d/\ak.get t=some w)):rN bH eV dq:=λt u aI=>by
 cases ah:dst with
 |none=>rw[U ah]at aI;exact aK.2 bH t u (by rw[ah];simp) ((h t u aI).mono bz)
 |some d=>
  rcases aa d ah t u aI with⟨rfl,rfl⟩ | ⟨bM,aB⟩;·exact aK.1 _ ah
  ·exact aK.2 bH t u (by rw[ah];intro e;cases e;exact bM rfl) ((h t u aB).mono bz)
def S9(aW:dm X.P X.E)(k6:∀ d,d<X.n->X.hs.contains d=true){call:ap->List ap->bB->Option (ap×bB)}(nB:Jf (et X G pr) call)(ops:Array Oper)(Q:Exit->Act->World->Prop)(vy:∀ a w,l8 X G pr D0 n0 dq m' a w->Q .normal a w):∀ (l:List Oper) (k:Nat),(∀ j,l[j]?=ops[k+j]?)->(∀ o∈l,∀ d,o.dst=some d->d<X.n)->∀ {ak m a w},FG (et X G pr) call ops.toList l ak m=some (dq,m') -> l8 X G pr D0 n0 ak m a w->wpOpsIn (hK X) 0 X.P ops Q (List.range' k l.length) a w
 |[],k,_,_,ak,m,a,w,h,ax=>by have bg:some (ak,m)=some (dq,m'):=h;cases bg;exact vy _ _ ax
 |o::au,k,aE,ah,ak,m,a,w,h,ax=>by
  have ay:ops[k]?=some o:=by simpa using(aE 0).symm
  have n5:∀ j,au[j]?=ops[k+1+j]?:=λj=>by have:=aE (j+1);simpa[p9,Gq 1 j]using this
  have iD:∀ o∈au,∀ d,o.dst=some d->d<X.n:=λo aD=>ah o (by simp[aD]);have vz:=ah o (by simp);have bg:cv (wM ops.toList o ak) none (λw=>cw w (Bh (et X G pr) call o ak m λak m=>FG (et X G pr) call ops.toList au ak m) (Dp o ak λak=>FG (et X G pr) call ops.toList au ak m))=some (dq,m'):=h;obtain⟨b,ag,bg⟩:=df bg;obtain⟨D,F,C,I,M,⟨β,ba⟩,cB,hm,ab,az⟩:=ax;have hw:=anR ag ba.ak cB;simp only[eM,Ow,wpOpsIn,ay];rw[hw];cases b with
  |true=>have aa:Bh (et X G pr) call o ak m (λak m=>FG (et X G pr) call ops.toList au ak m)=some (dq,m'):=bg;obtain⟨v,dI,fR,⟨z2,Jh⟩,-,af,a3,a6⟩:=abS aW k6 vz nB aa;simp only[s'];refine vr (λcf w'=>?_) (D9 aW vz ⟨β,ba⟩ (Jh D F C I M (λeV C' I' M'=>∃ bH,D.ext bH m.n/\rN bH eV fR/\dE (et X G pr) bH dI I' M') (cB.op _) hm λbH eV C' I' M' aC aA bx=>⟨bH,aC,cB.step (hm.le aC) aA a3 a6,bx⟩));rintro⟨eV,C',I',M',hf,bH,aC,aA,bx⟩;exact S9 aW k6 nB ops Q vy au (k+1) n5 iD af ⟨bH,eV,C',I',M',hf,aA,bx,bS.abT ab aC az,iU az z2⟩
  |false=>have aa:Dp o ak (λak=>FG (et X G pr) call ops.toList au ak m)=some (dq,m'):=bg;obtain⟨fR,af,a3,a6⟩:=abU aa;simp only[lN,mO];refine⟨λ_ _=>trivial,S9 aW k6 nB ops Q vy au (k+1) n5 iD af ⟨D,put o.dst (.val undef) F,C,I,M,⟨β,ba.put (x:=.val undef) vz rfl⟩,cB.step (bS.le_refl D) (.put F (.val .undef)) a3 a6,hm,ab,az⟩⟩
end
def anS(a0:∀ j e,nu ops j e->e<j)(J:(Nat->Prop)->Act->World->Prop)(step:∀ (L:Nat->Prop) a w q o,J L a w->Cg ops L->(∀ i,L i->i<ops.length)->ops[q]?=some o->¬ L q->(∀ e,nu ops q e->L e) -> (Region.wanted o (yielded ops.toArray a.tmps)=true->o.wpIn (hK X) 0 X.P a w (J λj=>L j\/j=q) Q)/\(Region.wanted o (yielded ops.toArray a.tmps)=false->J (λj=>L j\/j=q) (a.put o.dst undef) w))
  (fin:∀ a w,J (λi=>i<ops.length) a w->Q .normal a w):∀ (fuel:Nat) (dK:Array Bool) (a:Act) (w:World),dK.size=ops.length->todo ops dK<=fuel->Cg ops (λi=>dK.getD i false=true) ->
   J (λi=>dK.getD i false=true) a w->wpAnyIn (hK X) 0 X.P .any ops.toArray Q fuel dK a w:=by
 have ga:∀ (dK:Array Bool) (i:Nat),dK.getD i false=true->i<dK.size:=λdK i h=>by refine DY λaz=>?_;simp[Array.getD,az]at h
 have full:∀ (dK:Array Bool) a w,dK.size=ops.length->Region.ready .any ops.toArray dK=[]->J (λi=>dK.getD i false=true) a w->Q .normal a w:=λdK a w cI q1 dn=>by
  have all:∀ i,i<ops.length->dK.getD i false=true:=λi=>by
   induction i using Nat.strongRecOn with
   |ind i be=>
    intro hi;refine DY λaz=>?_;have aD:ops[i]?=some ops[i]:=g5 hi;have:i∈Region.ready .any ops.toArray dK:=(mem_ready cI).2 ⟨_,aD,az,λe he=>by
     have U:=a0 i e he;exact be e U (by omega)⟩
    rw[q1]at this;cases this
  have e:(λi=>dK.getD i false=true)=λi=>i<ops.length:=by funext i;simp only[eq_iff_iff];exact⟨λh=>by have:=ga dK i h;omega,all i⟩
  rw[e]at dn;exact fin a w dn
 intro fuel
 induction fuel with
 |zero=>
  intro dK a w cI ar ft dn;have q1:Region.ready .any ops.toArray dK=[]:=by
   cases al:Region.ready .any ops.toArray dK with
   |nil=>rfl| cons i l=>obtain⟨o,aD,az,_⟩:=(mem_ready cI).1 (by rw[al];simp:i∈Region.ready .any ops.toArray dK);have:=KE (kG.1 aD).1 cI az;omega
  exact⟨q1,full dK a w cI q1 dn⟩
 |succ fuel be=>
  intro dK a w cI ar ft dn;refine⟨λq1=>full dK a w cI q1 dn,λq aL=>?_⟩;obtain⟨o,aD,az,ah⟩:=(mem_ready cI).1 aL;have bZ:=(kG.1 aD).1;have jM:=VL (dK:=dK) (i:=q) (by omega);have next:∀ cf w',J (λj=>dK.getD j false=true\/j=q) cf w'->wpAnyIn (hK X) 0 X.P .any ops.toArray Q fuel (dK.setIfInBounds q true) cf w':=λcf w' h=>by
   refine be _ cf w' (by simpa using cI) ?_ ?_ (by rw[jM];exact h);·have:=KE bZ cI az;omega
   ·rw[jM];rintro j e (an | rfl) he
    ·exact .inl (ft j e an he)
    ·exact .inl (ah e he)
  obtain⟨s1,s2⟩:=step _ a w q o dn ft (λi hi=>by have:=ga dK i hi;omega) aD az ah;have GP:ops.toArray[q]?=some o:=by simpa using aD
  unfold wpOpIn;simp only[GP];cases hw:Region.wanted o (yielded ops.toArray a.tmps)with
  |true=>
   simp only[s'];exact vr next (s1 hw)
  |false=>simp only[lN,mO];exact⟨λ_ _=>trivial,next _ _ (s2 hw)⟩
def abV{S:List bB}{lo hi j:Nat}{p:bB->Bool}{m:bB}(h:FJ S lo hi p=true)(U:lo<=j)(aa:j<=hi)(an:S[j]?=some m):p m=true:=by unfold FJ at h;refine hI.1 h m ?_;refine BV (i:=j-lo) ?_;rw[mM,cF (by omega),s8,show lo+(j-lo)=j by omega];exact an
def filter_le{p:α->Bool}{j:Nat}:∀ {l:List α},(∀ q e,l[q]?=some e->p e=true->q<j)->(l.filter p).length<=j:=by
 intro l h;have aC:l.filter p=(l.take j).filter p:=by
  conv=>lhs;rw[<-y6 j l]
  rw[Jg];have:(l.drop j).filter p=[]:=by rw[List.filter_eq_nil_iff];intro a aH aK;obtain⟨q,aL⟩:=Mx aH;rw[s8]at aL;have:=h _ _ aL aK;omega
  rw[this,eo]
 rw[aC];refine iU (Gl _ _) ?_;simp;omega
def le_filter{p:α->Bool}{j:Nat}{l:List α}(an:j<=l.length)(h:∀ q e,q<j->l[q]?=some e->p e=true):j<=(l.filter p).length:=by
 have aC:(l.take j).filter p=l.take j:=by
  rw[List.filter_eq_self];intro a aH;obtain⟨q,aL⟩:=Mx aH;rw[mM]at aL;split at aL;·exact h q a (by assumption) aL
  ·cases aL
 have aA:l.filter p=(l.take j).filter p++(l.drop j).filter p:=by
  conv=>lhs;rw[<-y6 j l]
  rw[Jg]
 rw[aA,aC,di,mV];omega
mutual
def abW{D:bS}:∀ {x y:ap} {u:Value},FI x y=true->a1 D x u->a1 D y u
 |x,y,u,h,ab=>by
  cases x<;>cases y<;>simp only[FI,lN,ct]at h
  case b.b=>
   have:=eq_of_beq h;subst this;exact ab
  case i.i=>
   obtain⟨U,aa⟩:=h;have:=IntKind.D5 U;subst this;rw[zY,eY]at aa;subst aa;exact ab
  case s.s=>
   rw[Dr,eY]at h;subst h;exact ab
  case pn.pn=>exact ab
  case p.p=>
   obtain⟨U,aa⟩:=h;have:=cj U;subst this;have:=cj aa;subst this;exact ab
  case g.g=>
   obtain⟨U,aa⟩:=h;have:=cj U;subst this;have:=cj aa;subst this;exact ab
  case sn.sn=>exact ab
  case sl.sl=>
   obtain⟨U,aa,af,aN⟩:=h;have:=cj U;subst this;have:=cj aa;subst this;have:=cj af;subst this;have:=cj aN;subst this;exact ab
  case sx.sx=>
   obtain⟨U,aa,af,aN⟩:=h;have:=cj U;subst this;have:=cj aa;subst this;have:=cj af;subst this;have:=cj aN;subst this;exact ab
  case gs.gs=>
   obtain⟨U,aa,af,aN⟩:=h;have:=cj U;subst this;have:=cj aa;subst this;have:=cj af;subst this;have:=cj aN;subst this;exact ab
  case mn.mn=>exact ab
  case m.m=>have:=cj h;subst this;exact ab
  case f.f=>
   obtain⟨U,aa,af⟩:=h;have:=cj U;subst this;simp only[a1]at ab |-;obtain⟨vs,ws,a3,a6,bN⟩:=ab;exact⟨vs,ws,FT aa a3,FT af a6,bN⟩
  case y.y=>have:=cj h;subst this;exact ab
  case fn.fn=>exact ab
  case ni.ni=>exact ab
  case t.t=>
   simp only[a1]at ab |-;obtain⟨vs,a3,a6⟩:=ab;exact⟨vs,FT h a3,a6⟩
  case a.a=>
   simp only[a1]at ab |-;obtain⟨vs,a3,a6⟩:=ab;exact⟨vs,FT h a3,a6⟩
def FT{D:bS}:∀ {x y:List ap} {us:List Value},yj x y=true->b0 D x us->b0 D y us
 |[],[],us,h,ab=>ab| [],_::_,us,h,ab=>by simp[yj]at h
 |_::_,[],us,h,ab=>by simp[yj]at h
 |x::l,y::m,us,h,ab=>by simp only[yj,ct]at h;obtain⟨u,us,a3,a6,rfl⟩:=ab.lk;exact .cons (abW h.1 a3) (FT h.2 a6)
end
def Ji(dst:Option Nat)(ak:bn ap)(v:ap)(dq:bn ap):Prop:=(dst=none->dq=ak)/\∀ d,dst=some d->∀ t w,dq.get t=some w->(t=d/\w=v)\/(t≠d/\ak.get t=some w)
def Na(m m':bB)(l:List ap)(T:Nat):Prop:=m'.n=m.n+1/\(∀ id e,m'.t.get id=some e->id=m.n\/m.t.get id=some e)
def z3(m m':bB):Prop:=m.n<=m'.n/\∀ id e,id<m.n->m'.t.get id=some e->m.t.get id=some e
def z3.refl(m:bB):z3 m m:=⟨b2 _,λ_ _ _ h=>h⟩
def z3.trans{a b c:bB}(h:z3 a b)(k:z3 b c):z3 a c:=⟨iU h.1 k.1,λid e hi he=>h.2 id e hi (k.2 id e (J8 hi h.1) he)⟩
def Na.grow{m m':bB}{l:List ap}{T:Nat}(h:Na m m' l T):z3 m m':=⟨by rw[h.1];omega,λid e hi he=>by
 rcases h.2 id e he with U | U
 ·omega
 ·exact U⟩
def anT{m:bB}{l:List ap}{T:Nat}{K:Nat->bB->Option R}{r:R}(h:wL m l T K=some r):∃ m',K m.n m'=some r/\Na m m' l T:=by unfold wL at h;obtain⟨cs,U,aa⟩:=bn.zX l (.nil:bn ap) 0;rw[U]at h;obtain⟨fw,af,aN⟩:=I7 h;exact⟨_,aN,rfl,λid e hi=>(af id e hi).imp (λq=>q.1) λq=>q.2⟩
def dE.grow{m m':bB}(h:dE Y D m I M)(aB:z3 m m'):dE Y D m' I M where
 jH id e a U aa:=h.jH id e a (aB.2 id e (h.kB _ _ aa) U) aa
 inj id ju e a' a cf U nE aa jn ag:=h.inj id ju e a' a cf (aB.2 id e (h.kB _ _ aa) U) (aB.2 ju a' (h.kB _ _ jn) nE) aa jn ag
 kB id a aa:=J8 (h.kB _ _ aa) aB.1
 rM:=h.rM
inductive mI(X:dw)(G:GT)(pr:mG)(ops:List Oper):List (Nat×Nat)->bn ap->bB->List (Nat×ap)->bn ap->bB->List bB->List rL->Prop
 |nil{ak m}:mI X G pr ops [] ak m [] ak m [m] []| q {i o au ak m v dq vs hH ha S A} (aD:ops[i]?=some o) (ae:l5 X.E o.op=0) (hw:wM ops o ak=some true) (aj:wK X.P X.E G m.t o.op ak=some v) (aK:Ji o.dst ak v dq) (t:mI X G pr ops au dq m vs hH ha S A) : mI X G pr ops ((i,0)::au) ak m ((i,v)::vs) hH ha S (bif qX o.op then .load i o ak v::A else A)| a {i o d au ak m m' l T c mk dq vs hH ha S A} (aD:ops[i]?=some o) (ae:l5 X.E o.op=1) (hw:wM ops o ak=some true) (ah:o.dst=some d) (aj:Dn X.E o ak=some (l,T,c,mk)) (az:Na m m' l T) (aK:Ji o.dst ak (mk m.n) dq) (t:mI X G pr ops au dq m' vs hH ha S A) : mI X G pr ops ((i,1)::au) ak m ((i,mk m.n)::vs) hH ha S (.made i m.n l T::A)| e {i o au ak m m' v dq vs hH ha S A} (aD:ops[i]?=some o) (ae:l5 X.E o.op=2) (hw:wM ops o ak=some true) (aJ:M7 X G pr o ak m v m') (aK:Ji o.dst ak v dq) (t:mI X G pr ops au dq m' vs hH ha S A) : mI X G pr ops ((i,2)::au) ak m ((i,v)::vs) hH ha (m::S) A| skip {i k o au ak m dq vs hH ha S A} (aD:ops[i]?=some o) (ae:l5 X.E o.op=k) (hw:wM ops o ak=some false) (aK:Ji o.dst ak (.t []) dq) (t:mI X G pr ops au dq m vs hH ha S A) : mI X G pr ops ((i,k)::au) ak m ((i,.t [])::vs) hH ha (bif Nat.beq k 2 then m::S else S) A
section
variable{X:dw}{G:GT}{pr:mG}{ops:List Oper}
def Jj(aW:dm X.P X.E)(k6:∀ d,d<X.n->X.hs.contains d=true)(fi:∀ o∈ops,∀ d,o.dst=some d->d<X.n){call:ap->List ap->bB->Option (ap×bB)}(nB:Jf (et X G pr) call):∀ (row:List (Nat×Nat)) {ak:bn ap} {m:bB} {gU:List bB} {pe:List rL} {hH:bn ap} {ha:bB} {e5:List bB} {oE:List rL},pX (et X G pr) call ops row ak m gU pe=some (hH,ha,e5,oE)->∃ vs S A,mI X G pr ops row ak m vs hH ha S A/\e5=S.reverse++gU/\(∀ h∈A,h∈oE)/\∀ h∈pe,h∈oE
 |[],ak,m,gU,pe,hH,ha,e5,oE,h=>by simp only[pX,hq,KY]at h;obtain⟨rfl,rfl,rfl,rfl⟩:=h;exact⟨[],[m],[],.nil,by simp,by simp,λ_ h=>h⟩
 |(i,k)::au,ak,m,gU,pe,hH,ha,e5,oE,h=>by
  simp only[pX]at h;obtain⟨o,aD,h⟩:=df h;obtain⟨w,hw,h⟩:=df h;obtain⟨ae,h⟩:=hG h;rw[Bm]at aD;have hZ:l5 X.E o.op=k:=cj ae;have vz:=fi o (BV aD);cases w with
  |false=>
   have aa:Dp o ak (λak=>pX (et X G pr) call ops au ak m (cw (Nat.beq k 2) (m::gU) gU) pe)=some (hH,ha,e5,oE):=h;obtain⟨fR,af,a3,a6⟩:=abU aa;obtain⟨vs,S,A,aI,c2,gl,tY⟩:=Jj aW k6 fi nB au af;refine⟨_,_,_,.skip aD hZ hw ⟨a3,a6⟩ aI,?_,gl,tY⟩;rw[c2];cases Nat.beq k 2<;>simp[cw]
  |true=>
   have U:cw (Nat.beq k 0) (cv (wK X.P X.E G m.t o.op ak) none λv=>qK o.dst ak v λdq=>pX (et X G pr) call ops au dq m gU (cw (qX o.op) (.load i o ak v::pe) pe)) (cw (Nat.beq k 1) (cv o.dst none λd=>cv (Dn X.E o ak) none λr=>wL m r.1 r.2.1 λid m=>qK (some d) ak (r.2.2.2 id) λak=>pX (et X G pr) call ops au ak m gU (.made i id r.1 r.2.1::pe)) (Bh (et X G pr) call o ak m λak m'=>pX (et X G pr) call ops au ak m' (m::gU) pe))=some (hH,ha,e5,oE):=h;by_cases qx:k=0
   ·subst qx;have aa:(cv (wK X.P X.E G m.t o.op ak) none λv=>qK o.dst ak v λdq=>pX (et X G pr) call ops au dq m gU (cw (qX o.op) (.load i o ak v::pe) pe))=some (hH,ha,e5,oE):=U;obtain⟨v,aj,aa⟩:=df aa;obtain⟨fR,af,a3,a6⟩:=S7 aa;obtain⟨vs,S,A,aI,c2,gl,tY⟩:=Jj aW k6 fi nB au af;refine⟨_,_,_,.q aD hZ hw aj ⟨a3,a6⟩ aI,c2,λy aT=>?_,λy aT=>tY y ?_⟩
    ·cases aE:qX o.op with
     |false=>rw[aE]at aT;exact gl y aT
     |true=>
      rw[aE]at aT;rcases eu.1 aT with rfl | aT;·refine tY _ ?_;rw[aE];simp[cw]
      ·exact gl y aT
    ·cases qX o.op with
     |false=>exact aT| true=>exact pc _ aT
   rw[hW qx]at U;by_cases eJ:k=1
   ·subst eJ;have aa:(cv o.dst none λd=>cv (Dn X.E o ak) none λr=>wL m r.1 r.2.1 λid m=>qK (some d) ak (r.2.2.2 id) λak=>pX (et X G pr) call ops au ak m gU (.made i id r.1 r.2.1::pe))=some (hH,ha,e5,oE):=U;obtain⟨d,ah,aa⟩:=df aa;obtain⟨⟨l,T,c,mk⟩,aH,aa⟩:=df aa;obtain⟨m2,af,az⟩:=anT aa;have er:qK o.dst ak (mk m.n) (λak=>pX (et X G pr) call ops au ak m2 gU (.made i m.n l T::pe))=some (hH,ha,e5,oE):=by rw[ah];exact af
    obtain⟨fR,aN,a3,a6⟩:=S7 er;obtain⟨vs,S,A,aI,c2,gl,tY⟩:=Jj aW k6 fi nB au aN;refine⟨_,_,_,.a aD hZ hw ah aH az ⟨a3,a6⟩ aI,c2,λy aT=>?_,λy aT=>tY y (pc _ aT)⟩;rcases eu.1 aT with rfl | aT;·exact tY _ (by simp)
    ·exact gl y aT
   ·rw[hW eJ]at U;have aa:Bh (et X G pr) call o ak m (λak m'=>pX (et X G pr) call ops au ak m' (m::gU) pe)=some (hH,ha,e5,oE):=U;obtain⟨v,dI,fR,Jh,-,af,a3,a6⟩:=abS aW k6 vz nB aa;obtain⟨vs,S,A,aI,c2,gl,tY⟩:=Jj aW k6 fi nB au af;have fI:k=2:=by
     have:l5 X.E o.op<=2:=by
      unfold l5;split<;>first | omega | (split<;>first | omega | (split<;>omega))
     rw[hZ]at this;omega
    subst fI;exact⟨_,_,_,.e aD hZ hw Jh ⟨a3,a6⟩ aI,by rw[c2];simp,gl,tY⟩
def mI.head{ak hH:bn ap}{m ha:bB}{vs:List (Nat×ap)}{S:List bB}{A:List rL}(h:mI X G pr ops row ak m vs hH ha S A):∃ m2 e5,S=m2::e5/\z3 m m2:=by
 induction h with
 |nil=>exact⟨_,_,rfl,.refl _⟩| q _ _ _ _ _ _ be=>exact be| a _ _ _ _ _ az _ _ be=>obtain⟨m2,e5,U,aa⟩:=be;exact⟨m2,e5,U,az.grow.trans aa⟩
 |e _ _ _ _ _ _ _=>exact⟨_,_,rfl,.refl _⟩
 | @skip i k o au ak m dq vs hH ha S A _ _ _ _ _ be=>
  cases ae:Nat.beq k 2 with
  |true=>exact⟨_,_,rfl,.refl _⟩| false=>simpa using be
def mI.Nb{ak hH:bn ap}{m ha:bB}{vs:List (Nat×ap)}{S:List bB}{A:List rL}(h:mI X G pr ops row ak m vs hH ha S A):m.n<=ha.n/\∀ i c l T,.made i c l T∈A->m.n<=c/\i∈row.map (·.1):=by
 induction h with
 |nil=>exact⟨b2 _,λ_ _ _ _ h=>by cases h⟩
 | @q i o au ak m v dq vs hH ha S A _ _ _ _ _ _ be=>
  refine⟨be.1,λhV c l T hm=>?_⟩;have tk:.made hV c l T∈A:=by
   cases aE:qX o.op with
   |false=>rw[aE]at hm;exact hm
   |true=>
    rw[aE]at hm;rcases eu.1 hm with e | hm;·cases e
    ·exact hm
  exact⟨(be.2 hV c l T tk).1,pc _ (be.2 hV c l T tk).2⟩
 |a _ _ _ _ _ az _ _ be=>
  refine⟨iU az.grow.1 be.1,λhV c l T hm=>?_⟩;rcases eu.1 hm with e | hm;·cases e;exact⟨b2 _,by simp⟩
  ·exact⟨iU az.grow.1 (be.2 hV c l T hm).1,pc _ (be.2 hV c l T hm).2⟩
 |e _ _ _ aJ _ _ be=>exact⟨iU aJ.1 be.1,λhV c l T hm=>⟨iU aJ.1 (be.2 hV c l T hm).1,pc _ (be.2 hV c l T hm).2⟩⟩| skip _ _ _ _ _ be=>exact⟨be.1,λhV c l T hm=>⟨(be.2 hV c l T hm).1,pc _ (be.2 hV c l T hm).2⟩⟩
def mI.split:∀ (bi:List (Nat×Nat)) {au:List (Nat×Nat)} {ak hH:bn ap} {m ha:bB} {vs:List (Nat×ap)} {S:List bB} {A:List rL},mI X G pr ops (bi++au) ak m vs hH ha S A -> ∃ yo z4 fR dI wR my yp,vs=yo++z4/\yo.map (·.1)=bi.map (·.1)/\S=wR++my/\wR.length=(bi.filter λr=>Nat.beq r.2 2).length/\mI X G pr ops au fR dI z4 hH ha my yp/\(∀ h∈yp,h∈A)/\m.n<=dI.n /\ (∀ t w,fR.get t=some w->(∃ i,(i,w)∈yo/\jL ops i=some t)\/((∀ i∈bi.map (·.1),jL ops i≠some t)/\ak.get t=some w)) /\ (∀ i c l T,.made i c l T∈A->.made i c l T∈yp\/c<dI.n)
 |[],au,ak,hH,m,ha,vs,S,A,h=>⟨[],vs,ak,m,[],S,A,rfl,rfl,rfl,rfl,h,λ_ h=>h,b2 _,λt w hw=>.inr ⟨by simp,hw⟩,λ_ _ _ _ h=>.inl h⟩
 |(i,k)::bi,au,ak,hH,m,ha,vs,S,A,h=>by
  have fin:∀ {o:Oper} {dq:bn ap} {m':bB} {v:ap} {tc:List (Nat×ap)} {e5 S:List bB} {oE A:List rL},ops[i]?=some o->Ji o.dst ak v dq->m.n<=m'.n->mI X G pr ops (bi++au) dq m' tc hH ha e5 oE -> (S=if Nat.beq k 2 then m::e5 else e5)->(∀ h∈oE,h∈A)->(∀ i c l T,.made i c l T∈A->.made i c l T∈oE\/c<m'.n) ->
    ∃ yo z4 fR dI wR my yp,(i,v)::tc=yo++z4/\yo.map (·.1)=((i,k)::bi).map (·.1)/\S=wR++my/\wR.length=(((i,k)::bi).filter λr=>Nat.beq r.2 2).length/\mI X G pr ops au fR dI z4 hH ha my yp/\(∀ h∈yp,h∈A)/\m.n<=dI.n /\ (∀ t w,fR.get t=some w->(∃ i,(i,w)∈yo/\jL ops i=some t)\/((∀ hV∈((i,k)::bi).map (·.1),jL ops hV≠some t)/\ak.get t=some w)) /\
     (∀ i c l T,.made i c l T∈A->.made i c l T∈yp\/c<dI.n):=by
   intro o dq m' v tc e5 S oE A aD aK z2 aI c2 gl anU;obtain⟨yo,z4,fR,dI,wR,my,yp,aC,aA,bx,cU,e8,gg,m5,qC,qN⟩:=mI.split bi aI;refine⟨(i,v)::yo,z4,fR,dI,(if Nat.beq k 2 then m::wR else wR),my,yp,by rw[aC];rfl,by simp[aA],?_,?_,e8,λh aR=>gl h (gg h aR),iU z2 m5,λt w hw=>?_,λi c l T hm=>?_⟩
   ·rw[c2,bx];split<;>simp
   ·simp only[J9];split<;>simp[cU]
   ·rcases qC t w hw with⟨hV,U,aa⟩ | ⟨U,aa⟩
    ·exact .inl ⟨hV,pc _ U,aa⟩
    ·have qZ:jL ops i=o.dst:=by simp[jL,aD]
     cases ah:o.dst with
     |none=>
      rw[aK.1 ah]at aa;refine .inr ⟨λhV dx=>?_,aa⟩;rcases eu.1 dx with e | dx;·rw[show hV=i from e,qZ,ah];simp
      ·exact U hV dx
     |some d=>
      rcases aK.2 d ah t w aa with⟨rfl,rfl⟩ | ⟨bM,af⟩;·exact .inl ⟨i,by simp,by rw[qZ,ah]⟩
      ·refine .inr ⟨λhV dx=>?_,af⟩;rcases eu.1 dx with e | dx
       ·rw[show hV=i from e,qZ,ah];exact λe=>bM (by cases e;rfl)
       ·exact U hV dx
   ·rcases anU i c l T hm with U | U
    ·exact qN i c l T U
    ·exact .inr (J8 U m5)
  cases h with
  |q aD ae hw aj aK t=>
   rename_i o v dq tc oE;refine fin aD aK (b2 _) t (by simp) (λh aR=>?_) λi c l T hm=>?_
   ·cases qX o.op with
    |false=>exact aR| true=>exact pc _ aR
   ·cases aE:qX o.op with
    |false=>rw[aE]at hm;exact .inl hm
    |true=>
     rw[aE]at hm;rcases eu.1 hm with e | hm;·cases e
     ·exact .inl hm
  |a aD ae hw ah aj az aK t=>
   refine fin aD aK az.grow.1 t (by simp) (λh aR=>pc _ aR) λi c l T hm=>?_;rcases eu.1 hm with e | hm;·cases e;exact .inr (by rw[az.1];omega)
   ·exact .inl hm
  |e aD ae hw aJ aK t=>exact fin aD aK aJ.1 t (by simp) (λ_ h=>h) λ_ _ _ _ h=>.inl h
  |skip aD ae hw aK t=>exact fin aD aK (b2 _) t (by cases Nat.beq k 2<;>rfl) (λ_ h=>h) λ_ _ _ _ h=>.inl h
end
section
variable{ops:List Oper}
def anV{i k:Nat}{o:Oper}(aD:ops[i]?=some o)(h:GI o k=true):∀ e,nu ops i e->k.testBit e=true:=by rintro e⟨o',n6,sd,r',ag,rfl⟩;rw[aD]at sd;cases sd;have:=hI.1 h n6 (by simpa using r');rw[ag]at this;simpa using this
def Nc:∀ {row:List (Nat×Nat)} {k:Nat},yi ops row k=true->∀ (bi:List (Nat×Nat)) (i c:Nat) (post:List (Nat×Nat)),row=bi++(i,c)::post -> (∃ o,ops[i]?=some o)/\k.testBit i=false/\i ∉ bi.map (·.1)/\∀ e,nu ops i e->k.testBit e=true\/e∈bi.map (·.1)
 |[],k,h,bi,i,c,post,e=>by simp at e
 |(i0,nJ)::row,k,h,bi,i,c,post,e=>by
  simp only[yi,ct,pk]at h;obtain⟨U,aa⟩:=h;split at aa
  ·rename_i o aD;rw[ct]at aa;cases bi with
   |nil=>simp only[nz,zb,KY]at e;obtain⟨⟨rfl,rfl⟩,rfl⟩:=e;exact⟨⟨o,aD⟩,U,by simp,λe he=>.inl (anV aD aa.1 e he)⟩
   |cons p bi=>
    simp only[py,zb]at e;obtain⟨aC,aA⟩:=e;obtain⟨a3,a6,bN,gP⟩:=Nc aa.2 bi i c post aA;have ag:∀ x,(k ||| 2^i0).testBit x=(k.testBit x||decide (x=i0)):=λx=>by rw[J',J7];congr 1;exact decide_eq_decide.2 eq_comm
    rw[ag,n8]at a6;refine⟨a3,a6.1,?_,λe he=>?_⟩;·rw[<-aC];simp only[dQ,eu,not_or];exact⟨by simpa using a6.2,bN⟩
    ·rcases gP e he with h | h
     ·rw[ag,lq]at h;rcases h with h | h
      ·exact .inl h
      ·exact .inr (by rw[<-aC];simp at h;simp[h])
     ·exact .inr (by rw[dQ];exact pc _ h)
  ·cases aa
def S':∀ {row:List (Nat×Nat)} {k:Nat},yi ops row k=true->∀ i,i<ops.length->k.testBit i=true\/i∈row.map (·.1)
 |[],k,h,i,hi=>by
  simp only[yi]at h;have:=cj h;subst this
  left
  rw[Nat.testBit_two_pow_sub_one];simpa using hi
 |(i0,nJ)::row,k,h,i,hi=>by
  simp only[yi,ct,pk]at h;obtain⟨U,aa⟩:=h;split at aa
  ·rw[ct]at aa;rcases S' aa.2 i hi with h | h
   ·rw[J',J7,lq]at h;rcases h with h | h
    ·exact .inl h
    ·have:i0=i:=by simpa using h
     exact .inr (by simp[this])
   ·exact .inr (by rw[dQ];exact pc _ h)
  ·cases aa
def anW(h:yi ops row 0=true):(row.map (·.1)).Nodup:=by
 have key:∀ {row:List (Nat×Nat)} {k:Nat},yi ops row k=true->(row.map (·.1)).Nodup:=by
  intro row
  induction row with
  |nil=>intro k _;exact yO
  |cons r row be=>
   intro k h;obtain⟨i0,nJ⟩:=r;have bg:=h;simp only[yi,ct,pk]at h;obtain⟨U,aa⟩:=h;split at aa;·rw[ct]at aa;rw[dQ,mN];refine⟨λhm=>?_,be aa.2⟩;obtain⟨⟨x,c⟩,ab,u6⟩:=eh.1 hm;obtain⟨bi,post,e⟩:=wI ab;have Ta:x=i0:=u6;subst Ta;have:=(Nc bg ((x,nJ)::bi) x c post (by rw[e];rfl)).2.2.1;exact this (by simp)
   ·cases aa
 exact key h
def abX{α β:Type}:∀ {l:List (α×β)},(l.map (·.1)).Nodup->∀ {k:α} {a b:β},(k,a)∈l->(k,b)∈l->a=b
 |[],_,k,a,b,h,_=>by cases h
 |(qx,c)::l,az,k,a,b,h,bg=>by
  rw[dQ,mN]at az;rcases eu.1 h with e | h
  ·cases e;rcases eu.1 bg with a' | bg
   ·cases a';rfl
   ·exact(az.1 (eh.2 ⟨_,bg,rfl⟩)).elim
  ·rcases eu.1 bg with a' | bg
   ·cases a';exact(az.1 (eh.2 ⟨_,h,rfl⟩)).elim
   ·exact abX az.2 h bg
end
section
variable{X:dw}{G:GT}{pr:mG}{D0:bS}{n0:Nat}{a:Act}{w:World}
def Nd{o:Oper}{b:Bool}{F:Fr}{ak:bn ap}(h:wM ops o ak=some b)(cB:∀ t,fe β (F t) (a.tmps.getD t undef))(H:∀ t∈looks ops o,∀ v,ak.get t=some v->gV D (F t) v) :
  Region.wanted o (yielded ops.toArray a.tmps)=b:=by
 unfold wM at h;split at h
 ·rename_i aB;cases h;simp[Region.wanted,aB]
 ·rename_i j c aB;split at h
  ·cases h
  ·rename_i d an;have ji:(ops[j]?).bind (·.dst)=some d:=by rw[Bm]at an;simpa using an
   have anX:(ops.toArray[j]?).bind (·.dst)=some d:=by simpa using ji
   have aT:=Gx anX a.tmps;have q2:d∈looks ops o:=OW aB ji;split at h
   ·rename_i q aL;cases h;have ax:=H _ q2 _ aL;have aj:a.tmps.getD d undef=.bool q:=by
     have U:=cB d;rcases ax with⟨u,e,hu⟩ | ⟨fG,a',e⟩;·rw[e]at U;rw[U,hu.bool]
     ·cases a';rw[e]at U;exact U
    simp[Region.wanted,aB,aT,D' aj]
   ·rename_i l aL;cases h;have ax:=H _ q2 _ aL;obtain⟨u,e,hu⟩:=ax.yl (by simp);obtain⟨vs,_,rfl⟩:=hu.SJ;have U:=cB d;rw[e]at U;have Cb:yielded ops.toArray a.tmps j=none:=by
     rw[aT];cases lQ:a.tmps[d]? with
     |none=>rfl| some v=>simp only[fe,p8,lQ,mb]at U;subst U;rfl
    simp[Region.wanted,aB,Cb]
   ·cases h
def anY{o:Oper}{F:Fr}{ak:bn ap}(H:∀ t∈looks ops o,∀ v,ak.get t=some v->gV D (F t) v):jW D F ak o.op.operands.toList:=λx ab v aj=>by
 cases x with
 |tmp t=>exact H t (OX (by simpa using ab)) v aj| const c=>exact(show rN D F .nil from λt v h=>by cases h).op [.const c] (.const c) (by simp) v aj| global g=>exact(show rN D F .nil from λt v h=>by cases h).op [.global g] (.global g) (by simp) v aj| func f=>exact(show rN D F .nil from λt v h=>by cases h).op [.func f] (.func f) (by simp) v aj
def anZ{m m2:bn gn}{op:Op}{ak:bn ap}(h:qX op=false):wK X.P X.E G m op ak=wK X.P X.E G m2 op ak:=by
 cases op with
 |load=>simp[qX]at h| slice t x lo hi mx=>cases mx<;>cases lo<;>cases hi<;>rfl
 |unOp u=>cases u<;>rfl
 |call c=>
  obtain⟨callee,args,ts⟩:=c;cases callee<;>rfl
 |_=>rfl
def FU(X:dw)(G:GT)(pr:mG)(D0:bS)(n0:Nat)(ops:List Oper)(es:List Nat)(ak:bn ap)(vs:List (Nat×ap))(S:List bB)(A:List rL)(L:Nat->Prop)(a:Act)(w:World):Prop:=
 ∃ D F C I M j sZ,Rel X a w F C I M/\(∀ q e,es[q]?=some e->(L e ↔ q<j))/\j<=es.length/\S[j]?=some sZ/\dE (et X G pr) D sZ I M/\(∀ i v t,L i->(i,v)∈vs->jL ops i=some t->gV D (F t) v) /\ (∀ t v,(∀ i,L i->jL ops i≠some t)->ak.get t=some v->gV D (F t) v)/\(∀ i c l T,rL.made i c l T∈A->¬ L i->D c=none)/\D0.ext D n0
def FU.ak(dH:xj ops){L:Nat->Prop}{q:Nat}{o:Oper}(aL:ops[q]?=some o)(sc:¬ L q){vs:List (Nat×ap)}(FV:(vs.map (·.1)).Nodup){v:ap}(aj:(q,v)∈vs){F:Fr}{ak:bn ap}(bz:D.le bH)(aK:wQ o.dst v bH F eV)(gl:∀ i v t,L i->(i,v)∈vs->jL ops i=some t->gV D (F t) v)(an0:∀ t v,(∀ i,L i->jL ops i≠some t)->ak.get t=some v->gV D (F t) v) :
  (∀ i v t,(L i\/i=q)->(i,v)∈vs->jL ops i=some t->gV bH (eV t) v)/\(∀ t v,(∀ i,(L i\/i=q)->jL ops i≠some t)->ak.get t=some v->gV bH (eV t) v):=by
 have abY:jL ops q=o.dst:=by simp[jL,aL]
 constructor
 ·rintro i u t (hi | rfl) hm ah
  ·have bM:o.dst≠some t:=λe=>by obtain⟨g4,iZ,qZ⟩:=GN ah;exact dH.OV i q g4 o t (λa'=>sc (a' ▸ hi)) iZ aL qZ e
   exact aK.2 bH t u bM ((gl i u t hi hm ah).mono bz)
  ·rw[abX FV hm aj];rw[abY]at ah;exact aK.1 t ah
 ·intro t u eb aB;have bM:o.dst≠some t:=λe=>eb q (.inr rfl) (by rw[abY,e]);exact aK.2 bH t u bM ((an0 t u (λi hi=>eb i (.inl hi)) aB).mono bz)
end
section
variable{X:dw}{G:GT}{pr:mG}{D0:bS}{n0:Nat}{a:Act}{w:World}
def Tb{hO:List Nat}:∀ {es:List Nat},ML hO es=true->∀ (p q:Nat) (x y:Nat),p<q->es[p]?=some x->es[q]?=some y->(hO.getD y 0).testBit x=true
 |[],_,p,q,x,y,_,ab,_=>by simp at ab
 |e::es,h,p,q,x,y,tj,ab,aT=>by
  simp only[ML,ct]at h;cases q with
  |zero=>omega
  |succ q=>
   have xb:es[q]?=some y:=by simpa using aT
   cases p with
   |zero=>simp at ab;subst ab;exact hI.1 h.1 y (BV xb)| succ p=>exact Tb h.2 p q x y (by omega) (by simpa using ab) xb
def an1:e∈zW E ops ↔ e<ops.length/\Dq E ops e=2:=by
 unfold zW;rw[yN,me];constructor
 ·rintro⟨U,aa⟩;exact⟨U,cj aa⟩
 ·rintro⟨U,aa⟩;exact⟨U,by rw[aa];rfl⟩
def abZ{i:Nat}{o:Oper}(h:ops[i]?=some o):Dq E ops i=l5 E o.op:=by unfold Dq;rw[Bm,h];rfl
def gV.same{x:dW}{u v:ap}(h:gV D x u)(ax:FI u v=true):gV D x v:=by
 rcases h with⟨y,rfl,h⟩ | ⟨q,rfl,rfl⟩
 ·exact .val (abW ax h)
 ·have:v=.b q:=by
   cases v<;>simp only[FI,lN]at ax
   rw[eq_of_beq ax]
  exact .inr ⟨q,this,rfl⟩
def an2(aW:dm X.P X.E)(k6:∀ d,d<X.n->X.hs.contains d=true){call:ap->List ap->bB->Option (ap×bB)}(nB:Jf (et X G pr) call){id:Nat}{Jk:Array Oper}(k2:X.P.follows .mixedOrders=true)(az:Ce X.n Jk=true)
  {ak hH:bn ap} {m ha:bB} (h:Sx (et X G pr) call Jk.toList ak m=some (hH,ha)) (vy:∀ a w,l8 X G pr D0 n0 hH ha a w->Q .normal a w) (ax:l8 X G pr D0 n0 ak m a w) :
  (Code.region id Jk true).wpIn (hK X) 0 X.P Q a w:=by
 refine wpIn_region_any k2 ?_;generalize xi:Jk.toList=ops at h;have an3:Jk=ops.toArray:=by apply hJ;simpa using xi
 subst an3;have fi:∀ o∈ops,∀ d,o.dst=some d->d<X.n:=by simpa using Kn az
 unfold Sx at h;obtain⟨lG,h⟩:=hG h;unfold abc at lG;simp only[ct]at lG;obtain⟨an4,lh,ab0,sy⟩:=lG;have dH:xj ops:=VE an4;have ab1:((IX X.E ops).filter λr=>Nat.beq r.2 2).map (·.1)=zW X.E ops:=by simpa using sy
 clear sy;generalize mX:zW X.E ops=es at *;have Tc:∀ e,e∈es ↔ e<ops.length/\Dq X.E ops e=2:=λe=>by rw[<-mX];exact an1
 generalize auh:IX X.E ops=row at *;cases o8:pX (et X G pr) call ops row ak m [] []with
 |none=>rw[o8]at h;cases h| some an5=>
 obtain⟨an6,an7,e5,oE⟩:=an5;rw[o8]at h;have bg:cw (oE.all (Sw (et X G pr) es (lT ops) e5.reverse)) (some (an6,an7)) none=some (hH,ha):=h;clear h;obtain⟨ab2,bg⟩:=hG bg;cases bg;obtain⟨vs,S,A,Nf,ab3,Jl,-⟩:=Jj aW k6 fi nB row o8;rw[eo]at ab3;subst ab3;rw[List.reverse_reverse]at ab2;have ab4:∀ y∈A,Sw (et X G pr) es (lT ops) S y=true:=λy aT=>hI.1 ab2 y (Jl y aT);have lW:(row.map (·.1)).Nodup:=anW lh;obtain⟨aui,auj,auk,aul,aum,aun,auo,h4,kq,jz,j6,an8,aup,an9,aoa,auq⟩:=mI.split row (au:=[]) (by rw[eo];exact Nf);have aob:(row.filter λr=>Nat.beq r.2 2).length=es.length:=by rw[<-ab1,eW]
 cases an8;rw[eo]at h4;subst h4;have FV:(vs.map (·.1)).Nodup:=by rw[kq];exact lW
 have aoc:=Nf.Nb;have aod:∀ (bi:List (Nat×Nat)) (au:List (Nat×Nat)),row=bi++au->Cg ops (λi=>i∈bi.map (·.1)):=λbi au nW j e an he=>by
  obtain⟨⟨x,c⟩,ab,u6⟩:=eh.1 an;have Ta:x=j:=u6;subst Ta;obtain⟨pH,pI,aC⟩:=wI ab;rcases(Nc lh pH x c (pI++au) (by rw[nW,aC];simp)).2.2.2 e he with h | h;·simp at h
  ·show e∈bi.map (·.1);rw[aC,gW];exact dV.2 (.inl h)
 let J:=FU X G pr D0 n0 ops es ak vs S A
 have key:=anS (X:=X) (ops:=ops) (Q:=Q) dH.lt J ?step ?fin ops.length (Array.replicate ops.length false) a { w with drawn:=w.drawn+1 } (by simp) (by unfold todo;exact iU (Gl _ _) (by simp)) ?cl ?start
 case cl=>
  intro j e an;exfalso;by_cases hi:j<ops.length<;>simp[p8,hi]at an
 case start=>
  obtain⟨D,F,C,I,M,⟨β,ba⟩,cB,l7,ab,hP⟩:=ax;obtain⟨m2,my,aoe,aB⟩:=Nf.head;have c4:∀ i,¬ (Array.replicate ops.length false).getD i false=true:=λi=>by
   by_cases hi:i<ops.length<;>simp[p8,hi]
  refine⟨D,F,C,I,M,0,m2,⟨β,ba.world rfl⟩,λq e _=>⟨λh=>(c4 e h).elim,λh=>by omega⟩,bF _,by rw[aoe];rfl,l7.grow aB,λi v t hi=>(c4 i hi).elim,λt v _ aB=>cB t v aB,λi c l T sk _=>?_,ab⟩;have:=(aoc.2 i c l T sk).1;cases Jm:D c with
  |none=>rfl| some b=>have:=l7.kB _ _ Jm;omega
 case fin=>
  rintro a w⟨D,F,C,I,M,j,sZ,ba,yq,an,wS,l7,DA,DB,cM,ab⟩;have fp:j=es.length:=by
   refine Nat.le_antisymm an ?_;by_cases ay:es.length=0;·omega
   ·have a0:es.length-1<es.length:=by omega
    have U:=(yq (es.length-1) es[es.length-1] (g5 a0)).1 ((Tc _).1 (dr a0)).1;omega
  have aof:sZ=ha:=by rw[fp,jz,qg (by omega),j6,aob]at wS;simpa using wS.symm
  subst aof;refine vy a w ⟨D,F,C,I,M,ba,λt v aB=>?_,l7,ab,?_⟩
  ·rcases aoa t v aB with⟨i,U,aa⟩ | ⟨U,aa⟩
   ·obtain⟨g4,iZ,_⟩:=GN aa;exact DA i v t (kG.1 iZ).1 U aa
   ·refine DB t v (λi hi=>?_) aa;rcases S' lh i hi with af | af
    ·simp at af
    ·exact U i af
  ·obtain⟨bH,eV,C',I',M',_,_,_,_,hP⟩:=ax;exact iU hP an9
 case step=>
  rintro L a w q o⟨D,F,C,I,M,j,sZ,⟨β,ba⟩,yq,an,wS,l7,DA,DB,cM,ab⟩ft Ng aL sc Nh;have gT:q<ops.length:=(kG.1 aL).1;have se:=fi o (BV aL);obtain⟨⟨fG,k⟩,Db,Td⟩:=eh.1 ((S' lh q gT).resolve_left (by simp));have aog:fG=q:=Td;subst aog;obtain⟨bi,post,bL⟩:=wI Db;obtain⟨-,-,ab5,aoh⟩:=Nc lh bi fG k post bL;have aoi:∀ e,nu ops fG e->e∈bi.map (·.1):=λe he=>(aoh e he).resolve_left (by simp);have Te:=aod bi ((fG,k)::post) bL;have ab6:=Nf;rw[bL]at ab6;obtain⟨yo,z4,fR,dI,wR,my,yp,aC,aA,bx,cU,e8,gg,m5,qC,qN⟩:=mI.split bi ab6;have aur:=e8.Nb;have H:∀ t∈looks ops o,∀ v,fR.get t=some v->gV D (F t) v:=λt aI v aj=>by
   rcases qC t v aj with⟨i,U,aa⟩ | ⟨U,aa⟩
   ·obtain⟨g4,iZ,qZ⟩:=GN aa;have ab7:i∈bi.map (·.1):=by rw[<-aA];exact eh.2 ⟨_,U,rfl⟩
    have bM:i≠fG:=λe=>ab5 (e ▸ ab7);rcases dH.ord i fG g4 o t bM iZ aL qZ aI with ag | ag;·exact DA i v t (ag.mem ft Nh) (by rw[aC];exact dV.2 (.inl U)) aa
    ·exact(ab5 (ag.mem Te λe he=>Te i e ab7 he)).elim
   ·refine DB t v (λi hi mW=>?_) aa;obtain⟨g4,iZ,qZ⟩:=GN mW;have bM:i≠fG:=λe=>sc (e ▸ hi);rcases dH.ord i fG g4 o t bM iZ aL qZ aI with ag | ag
    ·exact U i (ag.mem Te aoi) mW
    ·exact sc (ag.mem ft λe he=>ft i e hi he)
  have tX:jW D F fR o.op.operands.toList:=anY H;have dg:FH es (lT ops) fG<=j:=filter_le λp e aK ag=>by exact(yq p e aK).1 ((Ar ag).mem ft Nh)
  have fT:j<=C4 es (lT ops) fG:=le_filter an λp e aK Jn=>by
   cases ag:((lT ops).getD e 0).testBit fG with
   |false=>rfl| true=>have aoj:L e:=(yq p e Jn).2 aK;exact(sc ((Ar ag).mem ft λd ah=>ft e d aoj ah)).elim
  have ab8:l5 X.E o.op≠2->∀ p e,es[p]?=some e->((L e\/e=fG) ↔ p<j):=λae p e aK=>by
   have bM:e≠fG:=λhe=>ae (by
    have:=((Tc e).1 (BV aK)).2;rw[he,abZ aL]at this;exact this)
   exact⟨λaR=>(yq p e aK).1 (aR.resolve_right bM),λaR=>.inl ((yq p e aK).2 aR)⟩
  have Tf:l5 X.E o.op=2->es[j]?=some fG/\j+1<=es.length/\∀ p e,es[p]?=some e->((L e\/e=fG) ↔ p<j+1):=λae=>by
   have Td:fG∈es:=(Tc fG).2 ⟨gT,by rw[abZ aL];exact ae⟩;obtain⟨yr,jQ⟩:=Mx Td;have aus:=(kG.1 jQ).1;have U:¬ yr<j:=λaR=>sc ((yq yr fG jQ).2 aR);have aa:¬ j<yr:=λaR=>by
    have fp:j<es.length:=by omega
    have Tg:=Tb ab0 j yr es[j] fG aR (g5 fp) jQ;have:=(yq j es[j] (g5 fp)).1 ((Ar Tg).mem ft Nh);omega
   have af:yr=j:=by omega
   subst af;refine⟨jQ,by omega,λp e aK=>⟨λaR=>?_,λaR=>?_⟩⟩
   ·rcases aR with aR | rfl
    ·have:=(yq p e aK).1 aR;omega
    ·refine DY λaz=>?_;have Tg:=Tb ab0 yr p e e (by omega) jQ aK;exact sc ((Ar Tg).mem ft Nh)
   ·by_cases vC:p<yr
    ·exact .inl ((yq p e aK).2 vC)
    ·have:p=yr:=by omega
     subst this;rw[jQ]at aK;exact .inr (pZ aK).symm
  have plain:∀ {v:ap} {eV:Fr} {C':dX} {cf:Act} {w':World},(fG,v)∈vs->l5 X.E o.op≠2->(∀ l T c,rL.made fG c l T ∉ A\/True)->Rel X cf w' eV C' I M->wQ o.dst v D F eV->J (λj=>L j\/j=fG) cf w':=fun {v eV C' cf w'} aj ae _ tl aK=>by obtain⟨f1,f2⟩:=FU.ak dH aL sc FV aj (bS.le_refl D) aK DA DB;exact⟨D,eV,C',I,M,j,sZ,tl,ab8 ae,an,wS,l7,f1,f2,λi c l T hm eb=>cM i c l T hm λhi=>eb (.inl hi),ab⟩
  have Jo:∀ {v:ap} {au:List (Nat×ap)},z4=(fG,v)::au->(fG,v)∈vs:=fun {v au} he=>by rw[aC,he];exact dV.2 (.inr (by simp))
  have aok:n0<=dI.n:=by obtain⟨bH,eV,C',I',M',_,_,_,_,hP⟩:=ax;exact iU hP m5
  have ab9:∀ {k:Nat},k=2->row=bi++(fG,k)::post->l5 X.E o.op=2->wR.length=j:=fun {k} fI aol ae=>by
   obtain⟨Th,fp,_⟩:=Tf ae;have aom:es=(bi.filter λr=>Nat.beq r.2 2).map (·.1)++fG::((post.filter λr=>Nat.beq r.2 2).map (·.1)):=by rw[<-ab1,aol,Jg,gW,J9];subst fI;simp
   have bV:es.Nodup:=by rw[<-mX];exact List.nodup_range.sublist List.filter_sublist
   have U:es[wR.length]?=some fG:=by rw[aom,qg (by rw[eW,cU];exact b2 _),eW,cU,rp];rfl
   have AA:=(kG.1 U).1;exact(List.getElem?_inj AA bV).1 (by rw[U,Th])
  cases e8 with
  | @q i o' au nV lC v dq tc Ti Tj gU pe aD ae DC aj aK t=>
   have DD:o'=o:=pZ (aD.symm.trans aL);subst DD;have hw:=Nd DC ba.ak H;refine⟨λ_=>?_,λar=>by rw[hw]at ar;cases ar⟩;obtain⟨u,hu,Tk⟩:∃ u,wK X.P X.E G sZ.t o'.op fR=some u/\∀ x,gV D x u->gV D x v:=by
    cases aE:qX o'.op with
    |false=>exact⟨v,by rw[anZ aE (m2:=dI.t)];exact aj,λ_ h=>h⟩
    |true=>
     have h3:rL.load fG o' fR v∈A:=gg _ (by rw[aE];simp);have U:=ab4 _ h3;have aa:=abV (show FJ S (FH es (lT ops) fG) (C4 es (lT ops) fG) (Su (et X G pr) o' fR v)=true from U) dg fT wS;unfold Su at aa;split at aa;·rename_i u hu;exact⟨u,hu,λx ab=>ab.same aa⟩
     ·cases aa
   refine vr (λcf w'=>?_) (D9 aW se ⟨β,ba⟩ (abR (K:=λeV C' I' M'=>I'=I/\M'=M/\wQ o'.dst v D F eV) aW se ae hu tX l7 λx ab=>⟨rfl,rfl,.put F (Tk x ab)⟩));rintro⟨eV,C',I',M',hf,rfl,rfl,S8⟩;exact plain (Jo rfl) (by rw[ae];decide) (λ_ _ _=>.inr trivial) hf S8
  | @a i o' d au nV lC m' l T c mk dq tc Ti Tj gU pe aD ae DC ah aj aon aK t=>
   have DD:o'=o:=pZ (aD.symm.trans aL);subst DD;have hw:=Nd DC ba.ak H;refine⟨λ_=>?_,λar=>by rw[hw]at ar;cases ar⟩;have h3:rL.made fG dI.n l T∈A:=gg _ (by simp);have U:=ab4 _ h3;have aa:=abV (show FJ S (FH es (lT ops) fG) (C4 es (lT ops) fG) (Sv dI.n l T)=true from U) dg fT wS;unfold Sv at aa;rw[ct]at aa;obtain⟨qG,aa⟩:=aa;have aoo:dI.n<sZ.n:=bP qG;split at aa
   ·rename_i cs n3 ga qV;simp only[ct]at aa;obtain⟨bO,o5,aa⟩:=aa;have Gw:=cj bO;subst Gw;have abL:=cj o5;subst abL;split at aa
    ·rename_i c8 n5;obtain⟨kZ,fm,fj,oX⟩:=bn.FL cs l.length 0 _ _ n5;have mu:kZ=c8:=pZ oX;subst mu;have Jm:D dI.n=none:=cM fG dI.n l n3 h3 sc;refine vr (λcf w'=>?_) (D9 aW se ⟨β,ba⟩ (abw (K:=λeV C' I' M'=>∃ b us u,I'=I/\M'=⟨b,.cells us.toArray n3 (0,0)⟩::M/\I b=none/\(∀ x∈M,x.num≠b)/\b0 D l us/\(∀ i,X.E n3=some i->us.length=c*i.size)/\c<=maxLen /\ (∀ (bH:bS) id,bH id=some ⟨b,0,c⟩->a1 bH (mk id) u)/\Bp o'.dst u F eV) aW k6 se aj (by rw[ah];rfl) tX λb us u eV C' a3 a6 bN gP pA Lh Tl=>⟨b,us,u,rfl,rfl,a3,a6,bN,gP,pA,Lh,Tl⟩));rintro⟨eV,C',I',M',hf,b,us,u,rfl,rfl,a3,a6,bN,gP,pA,Lh,Tl⟩;have bz:D.le (D.set dI.n ⟨b,0,c⟩):=bS.Bo _ Jm;have Ni:wQ o'.dst (mk dI.n) (D.set dI.n ⟨b,0,c⟩) F eV:=Tl.v (Lh _ _ (bS.qM _ _ _));obtain⟨f1,f2⟩:=FU.ak dH aL sc FV (Jo rfl) bz Ni DA DB;have mq:=FT aa bN;have jM:∀ id,id≠dI.n->(D.set dI.n ⟨b,0,c⟩) id=D id:=λid mH=>by unfold bS.set;rw[b8 mH]
     have Jd:∀ id e h2,sZ.t.get id=some e->D id=some h2->h2.b≠b:=λid e h2 hi ht zG=>by obtain⟨x,Dv,FW⟩:=l7.aO hi ht;exact a6 x Dv (FW.trans zG)
     refine⟨D.set dI.n ⟨b,0,c⟩,eV,C',I',_,j,sZ,hf,ab8 (by rw[ae];decide),an,wS,?_,f1,f2,?_,λi hi=>?_⟩
     ·refine⟨λid e h2 hi ht=>?_,λid ju e a' b1 ch hi dx U aa zG=>?_,λid h2 ht=>?_,l7.rM⟩
      ·by_cases mH:id=dI.n
       ·subst mH;rw[bS.qM]at ht;cases ht;rw[qV]at hi;cases hi;refine .cells us.toArray rfl (by simp) (by simp[bN.len]) (λi v hi aj=>?_) (λi hi=>by simpa using gP i hi) pA;have nq:kZ[i]?=some v:=by have:=fj i hi;rw[dp,aj]at this;exact this.symm
        obtain⟨x,Dv,FW⟩:=mq.get nq;exact⟨x,by simpa using Dv,FW.mono bz⟩
       ·rw[jM id mH]at ht;exact(l7.jH id e h2 hi ht).mono bz λx ab _=>pc _ ab
      ·by_cases mH:id=dI.n
       ·by_cases Jp:ju=dI.n
        ·rw[mH,Jp]
        ·rw[jM ju Jp]at aa;rw[mH,bS.qM]at U;cases U;exact(Jd ju a' ch dx aa zG.symm).elim
       ·rw[jM id mH]at U;by_cases Jp:ju=dI.n
        ·rw[Jp,bS.qM]at aa;cases aa;exact(Jd id e b1 hi U zG).elim
        ·rw[jM ju Jp]at aa;exact l7.inj id ju e a' b1 ch hi dx U aa zG
      ·by_cases mH:id=dI.n
       ·rw[mH];exact aoo
       ·rw[jM id mH]at ht;exact l7.kB _ _ ht
     ·intro i c' c8 CC sk eb;have Jq:c'≠dI.n:=λe=>by
       rcases qN i c' c8 CC sk with h | h
       ·rcases eu.1 h with h | h
        ·cases h;exact eb (.inr rfl)
        ·have:=(t.Nb.2 i c' c8 CC h).1;have:=aon.1;omega
       ·omega
      rw[jM c' Jq];exact cM i c' c8 CC sk λhi=>eb (.inl hi)
     ·rw[jM i (by omega)];exact ab i hi
    ·cases aa
   ·cases aa
  | @e i o' au nV lC m' v dq tc Ti Tj gU pe aD ae DC Jh aK t=>
   have DD:o'=o:=pZ (aD.symm.trans aL);subst DD;have hw:=Nd DC ba.ak H;refine⟨λ_=>?_,λar=>by rw[hw]at ar;cases ar⟩;obtain⟨Th,fp,Tm⟩:=Tf ae;have Jr:=ab9 rfl bL ae;have Tn:sZ=dI:=by rw[bx,qg (by omega),Jr,rp]at wS;simpa using wS.symm
   subst Tn;obtain⟨m2,aop,To,Tp⟩:=t.head;refine vr (λcf w'=>?_) (D9 aW se ⟨β,ba⟩ (Jh.2 D F C I M (λeV C' I' M'=>∃ bH,D.ext bH sZ.n/\wQ o'.dst v bH F eV/\dE (et X G pr) bH m' I' M') tX l7 λbH eV C' I' M' a3 a6 bN=>⟨bH,a3,a6,bN⟩));rintro⟨eV,C',I',M',hf,bH,a3,a6,bN⟩;have bz:=l7.le a3;obtain⟨f1,f2⟩:=FU.ak dH aL sc FV (Jo rfl) bz a6 DA DB;refine⟨bH,eV,C',I',M',j+1,m2,hf,Tm,fp,?_,bN.grow Tp,f1,f2,λi c l T sk eb=>?_,bS.abT ab a3 aok⟩;·rw[bx,qg (by omega),Jr,show j+1-j=0+1 by omega,J5,To];rfl
   ·rcases qN i c l T sk with h | h
    ·have:=(t.Nb.2 i c l T h).1;cases Jm:bH c with
     |none=>rfl| some b=>have:=bN.kB _ _ Jm;omega
    ·rw[a3 c h];exact cM i c l T sk λhi=>eb (.inl hi)
  | @skip i cO o' au nV lC dq tc Ti Tj gU pe aD ae DC aK t=>
   have DD:o'=o:=pZ (aD.symm.trans aL);subst DD;have hw:=Nd DC ba.ak H;refine⟨λar=>(by rw[hw]at ar;cases ar),λ_=>?_⟩;have tl:Rel X (a.put o'.dst undef) w (put o'.dst (.val undef) F) C I M:=⟨β,ba.put (x:=.val undef) se rfl⟩;have Ni:wQ o'.dst (.t []) D F (put o'.dst (.val undef) F):=.put F (.val .undef);by_cases fI:k=2
   ·subst fI;obtain⟨Th,fp,Tm⟩:=Tf ae;have Jr:=ab9 rfl bL ae;have Tn:sZ=dI:=by rw[bx,qg (by omega),Jr,rp]at wS;simpa using wS.symm
    subst Tn;obtain⟨m2,aop,To,Tp⟩:=t.head;obtain⟨f1,f2⟩:=FU.ak dH aL sc FV (Jo rfl) (bS.le_refl D) Ni DA DB;refine⟨D,_,C,I,M,j+1,m2,tl,Tm,fp,?_,l7.grow Tp,f1,f2,λi c l T sk eb=>cM i c l T sk λhi=>eb (.inl hi),ab⟩;rw[bx,qg (by omega),Jr,show j+1-j=0+1 by omega];show(sZ::gU)[0+1]?=some m2;rw[J5,To];rfl
   ·exact plain (Jo rfl) (by rw[ae];exact fI) (λ_ _ _=>.inr trivial) tl Ni
 simpa using key
end
def DE{n:Nat}:∀ {c:Code},iS n c=true->codeOk n c=true
 | .seq x y,h=>by simp only[iS,codeOk,ct]at h |-;exact⟨DE h.1,DE h.2⟩
 | .block _ c,h=>by simp only[iS,codeOk]at h |-;exact DE h
 | .cond _ x y,h=>by simp only[iS,codeOk,ct]at h |-;exact⟨DE h.1,DE h.2⟩
 | .loop c,h=>by simp only[iS,codeOk]at h |-;exact DE h
 | .region _ ops _,h=>h| .scope c,h=>rfl| .rangeFunc ..,h=>rfl| .skip,h | .exit _,h | .label _,h | .goto _,h | .ret,h | .refuse _,h=>rfl
def Tq{n:Nat}:∀ {c:Code} {l:Nat} {r:Code},iS n c=true->findLabel c l=some r->iS n r=true
 | .seq x y,l,r,h,aE=>by
  simp only[iS,ct]at h;simp only[findLabel]at aE;split at aE;·rename_i au al;cases aE;simp only[iS,ct];exact⟨Tq h.1 al,h.2⟩
  ·exact Tq h.2 aE
 | .label c8,l,r,h,aE=>by
  simp only[findLabel]at aE;split at aE;·cases aE;rfl
  ·cases aE
 | .skip,_,_,_,aE | .exit _,_,_,_,aE | .goto _,_,_,_,aE | .ret,_,_,_,aE | .refuse _,_,_,_,aE | .block _ _,_,_,_,aE | .cond _ _ _,_,_,_,aE | .loop _,_,_,_,aE | .scope _,_,_,_,aE | .region _ _ _,_,_,_,aE | .rangeFunc _ _ _ _,_,_,_,aE=>by simp[findLabel]at aE
def ys(P:Program):Prop:=∀ (g:Nat) (fn:Func) (c:Code),P.funcs[g]?=some fn->fn.body=some c->iS fn.ntmps c=true/\(fn.name == "runtime.NumGoroutine")=false
def aoq(P:Program):Bool:=P.funcs.toList.all λfn=>match fn.body with
 |some c=>iS fn.ntmps c && !(fn.name == "runtime.NumGoroutine")
 |none=>true
def aor(h:aoq P=true):ys P:=λg fn c ar ag=>by have U:=hI.1 h fn (by rw[<-Array.mem_def];exact Array.mem_of_getElem? ar);simp only[ag,ct,pk]at U;exact U
def z5(Y:hF):Prop:=∀ g vs m v m',Y.pr g vs m=some (v,m')->∀ (D:bS) (I:a5) (M:List aF) (us:List Value),b0 D vs us->dE Y D m I M->Spec Y.P g us I M λr I' M'=>∃ bH,D.ext bH m.n/\a1 bH v r/\dE Y bH m' I' M'
def Bx:vA->Exit
 | .normal=>.normal| .exit id=>.exit id| .goto l=>.goto l| .ret=>.ret
def kC(Y:hF)(n B:Nat)(ay:World)(dZ:a5)(cL:List Nat)(ro:Option Nat):dw:=⟨Y.P,Y.E,List.range n,n,B,ay,dZ,cL,ro⟩
def kC.hs{Y:hF}{n B:Nat}{ay:World}{dZ:a5}{cL:List Nat}{ro:Option Nat}:∀ d,d<(kC Y n B ay dZ cL ro).n->(kC Y n B ay dZ cL ro).hs.contains d=true:=λd ah=>by have iD:d<n:=ah;show(List.range n).contains d=true;simpa using iD
def DF(Y:hF)(f:Nat):Prop:=∀ jG n c ak m ex dq m',lJ Y f jG n c ak m=some (ex,dq,m')->iS n c=true->∀ B ay dZ cL ro D0 n0 a w,(jG=true->ro=none)->l8 (kC Y n B ay dZ cL ro) Y.G Y.pr D0 n0 ak m a w -> c.wpIn (hK (kC Y n B ay dZ cL ro)) 0 Y.P (λe a w=>e=Bx ex/\l8 (kC Y n B ay dZ cL ro) Y.G Y.pr D0 n0 dq m' a w) a w
def Tr{α:Type}:∀ (n k:Nat),(bn.bare n:bn α).get k=none
 |0,k=>rfl
 |n+1,k=>by
  rw[bn.bare,bn.I0];cases Nat.beq k 0 with
  |true=>rfl
  |false=>
   cases Nat.beq (k%2) 1 with
   |true=>exact Tr n _| false=>exact Tr n _
section
variable{X:dw}{G:GT}{pr:mG}{D:bS}{m:bB}{F:Fr}{ak:bn ap}{C:dX}{I:a5}{M:List aF}
def Ts(cB:rN D F ak)(hm:dE (et X G pr) D m I M):∀ {bj:List ResultVar} {vs:List ap} {K:List Value->Prop},Bi (et X G pr) ak m.t bj=some vs->(∀ us,b0 D vs us->K us)->qc X F C I M bj K
 |[],vs,K,h,ae=>by simp only[Bi]at h;cases h;exact ae [] .nil
 | .tmp t::l,vs,K,h,ae=>by
  simp only[Bi]at h;split at h;·rename_i v tc U aa;cases h;obtain⟨u,aC,a3⟩:=(show gV D (dN F (.tmp t)) v from cB t v U).ey;unfold qc;rw[aC];exact Ts cB hm aa λus gK=>ae _ (.cons a3 gK)
  ·cases h
 | .cell t ty::l,vs,K,h,ae=>by
  simp only[Bi]at h;split at h
  ·rename_i x i tc U aa af;split at h
   ·rename_i v aj;cases h;have p0:∀ q,x≠.b q:=λq e=>by subst e;cases aj
    obtain⟨u,aC,a3⟩:=gV.yl (cB t x U:gV D (dN F (.tmp t)) x) p0;obtain⟨ad,c8,FX,rfl,br,aE,aK⟩:=Bn hm a3 aj;have jn:X.E ty=some i:=aa;have dO:dN F (.tmp t)=.val (.pointer (some ad)):=aC;unfold qc;rw[dO,jn];exact⟨FX,br,Ts cB hm af λus gK=>ae _ (.cons (MX aK aE) gK)⟩
   ·cases h
  ·cases h
end
def aca(aW:dm Y.P Y.E)(cB:ys Y.P)(nW:z5 Y)(aJ:DF Y f){m:bB}{v:ap}{fn:Func}{c:Code}(ar:Y.P.funcs[g]?=some fn)(ag:fn.body=some c)(bz:args.length<=fn.ntmps){ak dq:bn ap}(yV:∀ t w,ak.get t=some w->args[t]?=some w){dI:bB}(hex:ex=.normal\/ex=.ret)(h:lJ Y f true fn.ntmps c ak m=some (ex,dq,dI)){vs:List ap}(al:Bi Y dq dI.t fn.results.toList=some vs)
  (aj:v=abd vs) (hu:b0 D args us) (hm:dE Y D m I M):w4 Y.P g us I M λr I' M'=>∃ bH,D.ext bH m.n/\a1 bH v r/\dE Y bH dI I' M':=by
 obtain⟨bw,tg⟩:=cB g fn c ar ag;refine ON (List.range fn.ntmps) aW ar ag tg ?_ λB ay a w ba=>?_
 ·rw[ct];exact⟨DE bw,CW (by rw[hu.len];exact bz)⟩
 ·have aos:rN D (yY us) ak:=λt w hw=>by obtain⟨x,U,aa⟩:=hu.get (yV t w hw);refine .inl ⟨x,?_,aa⟩;simp only[yY,U]
  have cR:l8 (kC Y fn.ntmps B ay I (M.map (·.num)) none) Y.G Y.pr D m.n ak m a w:=⟨D,_,_,I,M,ba,aos,hm,bS.p1,b2 _⟩;refine wpIn_mono (aJ _ _ _ _ _ _ _ _ h bw B ay I (M.map (·.num)) none D m.n a w (λ_=>rfl) cR) ?_;rintro e cf w'⟨rfl,bH,eV,C',I',M',tl,U2,tk,ab,az⟩;have oY:∀ Dy,Dy=.normal\/Dy=.ret->xf (kC Y fn.ntmps B ay I (M.map (·.num)) none) fn.results.toList (λr I' M'=>∃ bH,D.ext bH m.n/\a1 bH v r/\dE Y bH dI I' M') Dy eV C' I' M':=λDy he=>by
   have aot:=Ts (X:=kC Y fn.ntmps B ay I (M.map (·.num)) none) (G:=Y.G) (pr:=Y.pr) (C:=C') U2 tk al (K:=λvs=>match vs with
    |[nK]=>xe (M.map (·.num)) I' M' ((λr I' M'=>∃ bH,D.ext bH m.n/\a1 bH v r/\dE Y bH dI I' M') nK)
    |vs=>xe (M.map (·.num)) I' M' ((λr I' M'=>∃ bH,D.ext bH m.n/\a1 bH v r/\dE Y bH dI I' M') (.tuple vs.toArray))) λFX gK=>by
     clear al
     match vs,FX,gK,aj with
     |[],FX,gK,aj=>rw[gK.oD];refine⟨I',M',.refl,bH,ab,?_,tk⟩;rw[aj];exact .MW .nil| [v1],FX,gK,aj=>obtain⟨x,xs,U,aa,rfl⟩:=gK.lk;rw[aa.oD];refine⟨I',M',.refl,bH,ab,?_,tk⟩;rw[aj];exact U
     |v1::v2::vs,FX,gK,aj=>obtain⟨x,xs,U,aa,rfl⟩:=gK.lk;obtain⟨y,kY,af,aN,rfl⟩:=aa.lk;refine⟨I',M',.refl,bH,ab,?_,tk⟩;rw[aj];exact .MW gK
   rcases he with rfl | rfl<;>exact aot
  rcases hex with rfl | rfl;·exact⟨eV,C',I',M',tl,oY _ (.inl rfl)⟩
  ·exact⟨eV,C',I',M',tl,oY _ (.inr rfl)⟩
def Spec.p2{args:List Value}{p q:Value->a5->List aF->Prop}(h:Spec P f args I M p)(ae:∀ v I' M',p v I' M'->q v I' M'):Spec P f args I M q:=by
 rcases h with⟨U,aa⟩ | h
 ·refine .inl ⟨U,λw hw=>?_⟩;refine(aa w hw).mono ?_;rintro e w'⟨v,I',M',aC,aA,bx,cU⟩;exact⟨v,I',M',aC,ae _ _ _ aA,bx,cU⟩
 ·refine .inr λw hw=>?_;obtain⟨v,w',I',M',aC,aA,bx,cU⟩:=h w hw;exact⟨v,w',I',M',aC,ae _ _ _ aA,bx,cU⟩
section
variable{Y:hF}{D:bS}{m m':bB}{I:a5}{M:List aF}
def acb(aW:dm Y.P Y.E)(cB:ys Y.P)(nW:z5 Y)(aJ:DF Y f){v:ap}(h:MN Y (lJ Y f) g args m=some (v,m'))(hu:b0 D args us)(hm:dE Y D m I M) :
  w4 Y.P g us I M λr I' M'=>∃ bH,D.ext bH m.n/\a1 bH v r/\dE Y bH m' I' M':=by
 unfold MN at h;obtain⟨fn,ar,U⟩:=df h;obtain⟨c,ag,aa⟩:=df U;obtain⟨bz,af⟩:=hG aa;obtain⟨ak,a3,a6⟩:=bn.zX args (bn.bare 12) 0;rw[a3]at af;have yV:∀ t w,ak.get t=some w->args[t]?=some w:=λt w hw=>by
  rcases a6 t w hw with⟨_,h⟩ | ⟨_,h⟩;·simpa using h
  ·rw[Tr]at h;cases h
 unfold abe at af;split at af
 ·rename_i dq dI ab;unfold MM at af;obtain⟨vs,al,aN⟩:=df af;cases aN;exact aca aW cB nW aJ ar ag (bP bz) yV (.inl rfl) ab al rfl hu hm
 ·rename_i dq dI ab;unfold MM at af;obtain⟨vs,al,aN⟩:=df af;cases aN;exact aca aW cB nW aJ ar ag (bP bz) yV (.inr rfl) ab al rfl hu hm
 ·cases af
def acc(aW:dm Y.P Y.E)(cB:ys Y.P)(nW:z5 Y)(aJ:DF Y f){v:ap}(h:yk Y (lJ Y f) g args m=some (v,m'))(hu:b0 D args us)(hm:dE Y D m I M) :
  Spec Y.P g us I M λr I' M'=>∃ bH,D.ext bH m.n/\a1 bH v r/\dE Y bH m' I' M':=by
 unfold yk at h;cases aK:Y.pr g args m with
 |none=>rw[aK]at h;exact .inl (acb aW cB nW aJ h hu hm)| some p=>rw[aK]at h;have bg:some p=some (v,m'):=h;cases bg;exact nW g args m v m' aK D I M us hu hm
def db.kept{a:Act}{W:World}{F:Fr}{C:dX}(h:db X β a w F C I' M')(U:X.ay=W)(aa:X.B=W.heap.size)(af:X.dZ=dZ)(aN:X.cL=M0.map (·.num)):Kept dZ M0 W I' M' w where
 le:=by rw[<-af];exact h.iY
 vv b o ag:=by
  rcases h.ih b o ag with bq | bq;·exact .inl (by rw[<-af];exact bq)
  ·exact .inr (by rw[<-aa];exact bq)
 w3 x ab:=by
  rcases h.own x ab with bq | bq;·rw[aN]at bq;obtain⟨y,aT,e⟩:=eh.1 bq;exact .inl ⟨y,aT,e⟩
  ·exact .inr (by rw[<-aa];exact bq)
 dS b ag az:=by rw[<-U];refine h.dS b (by rw[aa];exact ag) λhm=>?_;rw[aN]at hm;obtain⟨y,aT,e⟩:=eh.1 hm;exact az y aT e
 out:=by rw[<-U];exact h.out
 sz:=by rw[<-aa];exact h.sz
def acd{R:Type}:∀ {ps:List Nat} {args:List ap} {nV:bn ap} {K:bn ap->Option R} {r:R} {us:List Value} {tmps:Array Value},FK ps args nV K=some r->b0 D args us->(∀ t∈ps,t<tmps.size)->(∀ t v,nV.get t=some v->a1 D v (tmps.getD t undef)) -> ∃ fR,K fR=some r/\us.length=ps.length/\((ps.zip us).foldl (λ(tmps:Array Value) (p:Nat×Value)=>tmps.setIfInBounds p.1 p.2) tmps).size=tmps.size /\ ∀ t v,fR.get t=some v->a1 D v (((ps.zip us).foldl (λ(tmps:Array Value) (p:Nat×Value)=>tmps.setIfInBounds p.1 p.2) tmps).getD t undef)
 |[],[],nV,K,r,us,tmps,h,hu,aK,ay=>by have:=hu.oD;subst this;exact⟨nV,h,rfl,rfl,ay⟩
 |[],_::_,nV,K,r,us,tmps,h,hu,aK,ay=>by simp[FK]at h
 |_::_,[],nV,K,r,us,tmps,h,hu,aK,ay=>by simp[FK]at h
 |t0::ps,yt::args,nV,K,r,us,tmps,h,hu,aK,ay=>by
  obtain⟨x,xs,a3,a6,rfl⟩:=hu.lk;simp only[FK]at h;obtain⟨fR,U,aa⟩:=bn.pY (some yt) nV t0;rw[U]at h;have a0:=aK t0 (by simp);obtain⟨wT,af,aN,bq,bp⟩:=acd (tmps:=tmps.setIfInBounds t0 x) h a6 (λt aI=>by simpa using aK t (by simp[aI])) λt v aI=>by
   rw[p8,DW];rcases aa t v aI with⟨rfl,e⟩ | ⟨bM,aB⟩;·have:=(pZ e);subst this;simp only[s',a0];exact a3
   ·rw[b8 (s9 bM),<-p8];exact ay t v aB
  exact⟨wT,af,by simp[aN],by simpa using bq,bp⟩
def l6.Nj{a:Loc}{b:Bool}{ak:bn ap}(h:l6 D E M a (.loop b n ak ps fO body)):∃ L,(⟨a.b,.loop L⟩:aF)∈M/\abo D b n ak ps fO body L:=by
 cases h with
 |loop L U aa=>exact⟨L,U,aa⟩
def l6.aou{a:Loc}{c:Code}{ak:bn ap}(h:l6 D E M a (.done c n ak ps fO body)):∃ L,(⟨a.b,.loop L⟩:aF)∈M/\L.state=.done/\L.pending=some c:=by
 cases h with
 |done L U aa af=>exact⟨L,U,aa,af⟩
def dE.swap(h:dE Y D m I M){fw:bn gn}{l:Nat}{b' aC:gn}{o o':Obj}{Mr:List aF}(aB:m.t.get l=some b')(aH:D l=some iz)(a2:M.Perm (⟨iz.b,o⟩::Mr))(aI:∀ id e,fw.get id=some e->(id=l/\some aC=some e)\/(id≠l/\m.t.get id=some e))
  (he:l6 D Y.E (⟨iz.b,o'⟩::Mr) iz aC):dE Y D ⟨fw,m.n⟩ I (⟨iz.b,o'⟩::Mr):=by
 refine h.step (λid e hi=>(aI id e hi).imp (λq=>⟨q.1,pZ q.2⟩) λq=>q) aH (bS.le_refl D) (λ_ _=>rfl) h.kB (λ_ _ h=>h) (λid e cf bM hi rP x ab az=>?_) he λid e cf bM hi rP ag=>bM (h.inj _ _ _ _ _ _ hi aB rP aH ag);rcases eu.1 (a2.mem_iff.1 ab)with rfl | ab
 ·exact(bM (h.inj _ _ _ _ _ _ hi aB rP aH az.symm)).elim
 ·exact pc _ ab
end
section
variable{Y:hF}{D:bS}{m m':bB}{I:a5}{M:List aF}
def aov(aJ:DF Y f){l:Nat}{v:ap}(h:SB (lJ Y f) l args m=some (v,m'))(aE:D l=some iz)(hu:b0 D args us)(hm:dE Y D m I M) :
  G5 Y.P iz.b us I M λr I' M'=>∃ bH,D.ext bH m.n/\a1 bH v r/\dE Y bH m' I' M':=by
 unfold SB at h;split at h
 ·rename_i n nV ps fO body aB;obtain⟨L,a2,c4⟩:=(hm.jH _ _ _ aB aE).Nj;intro W hd;have G9:W.heap[iz.b]?=some (.loop L):=hd.m _ a2;have cR:L.state=.ready:=c4.ao;have xi:∀ t∈ps,t<L.tmps.size:=λt aI=>by rw[c4.sz];exact c4.op t (by rw[c4.ps];exact aI)
  obtain⟨fR,U,cg,cI,ace⟩:=acd (tmps:=L.tmps) h hu xi c4.ak;have iM:L.params.size=ps.length:=by rw[<-c4.ps];simp
  refine⟨_,_,_,_,run_yield G9 (by rw[iM];simpa using cg),?_⟩;have O8:(L.params.zip us.toArray).foldl (λtmps (x:Nat×Value)=>match x with | (t,a)=>tmps.setIfInBounds t a) L.tmps=(ps.zip us).foldl (λ(tmps:Array Value) (p:Nat×Value)=>tmps.setIfInBounds p.1 p.2) L.tmps:=by rw[<-Oq,<-c4.ps];simp
  rw[O8];generalize bO:(ps.zip us).foldl (λ(tmps:Array Value) (p:Nat×Value)=>tmps.setIfInBounds p.1 p.2) L.tmps=T at ace cI;rw[c4.fO,c4.body];have z6:iS n fO=true:=by rw[<-c4.fO];exact c4.za
  have S5:iS n body=true:=by rw[<-c4.body];exact c4.pB
  refine roundIn_of_wpIn (F:=Fence.wide) (n:=0) trivial ?_;let xu:dw:=kC Y n W.heap.size W I (M.map (·.num)) (some iz.b)
  have GH:db xu (λ_=>0) { tmps:=T,defers:=[] } W (λt=>.val (T.getD t undef)) (λ_=>none) I M:={
   size:=cI.trans c4.sz
   defers:=⟨[],rfl,yO,λr al=>by cases al⟩
   holds:=hd
   ak:=λt=>rfl
   cC:=λs cs ax=>by cases ax
   inj:=λs cH U=>by simp at U
   iY:=λb o ag=>ag
   ih:=λb o ag=>.inl ag
   own:=λx ab=>.inl (eh.2 ⟨x,ab,rfl⟩)
   dS:=λb ag ar=>rfl
   out:=.refl _
   sz:=b2 _ }
  unfold abg at U;split at U
  ·rename_i wT m2 aow;have g3:l8 xu Y.G Y.pr D m.n fR m { tmps:=T,defers:=[] } W:=⟨D,_,_,I,M,⟨_,GH⟩,λt v aj=>.val (ace t v aj),hm,bS.p1,b2 _⟩;refine wpIn_mono (aJ _ _ _ _ _ _ _ _ aow z6 _ _ _ _ _ D m.n _ _ (λe=>by cases e) g3) ?_;rintro e bW h4⟨rfl,Nk,acf,acg,eC,dU,⟨ach,ik⟩,aox,uI,FW,sU⟩;have mu:Nk l=some iz:=by rw[FW l (hm.kB _ _ aE)];exact aE
   have aa:Sz (lJ Y f) l n body (m2.t.get l) wT m2=some (v,m'):=U;unfold Sz at aa;split at aa
   ·rename_i fK aoy aoz aoA SA iJ;obtain⟨DG,jt,vg⟩:=(uI.jH _ _ _ iJ mu).Nj;obtain⟨bi,post,bL⟩:=wI jt;have lh:dU.Perm (⟨iz.b,.loop DG⟩::(bi++post)):=by rw[bL];exact rn
    have aci:h4.heap[iz.b]?=some (.loop DG):=ik.holds.m _ jt;have aoB:=(ma.1 aci).1;refine⟨_,run_beginRound aci vg.ao,?_⟩;obtain⟨t3,af,aN⟩:=bn.pY (some (gn.loop true fK aoy aoz aoA SA)) m2.t l;rw[af]at aa;have tR:db xu ach bW (h4.putObj iz.b (.loop { DG with state:=.busy })) acf acg eC (⟨iz.b,.loop { DG with state:=.busy }⟩::(bi++post)):=
     (ik.j0 (.perm lh .refl)).swap (by simp) (Ei aoB) (λb ag=>nY ag) (Kh _ _ _)
    have pb:dE Y Nk ⟨t3,m2.n⟩ eC (⟨iz.b,.loop { DG with state:=.busy }⟩::(bi++post)):=uI.swap iJ mu lh aN (.loop { DG with state:=.busy } (by simp) ⟨rfl,vg.q0,vg.sz,vg.ak,vg.ps,vg.fO,vg.body,vg.za,vg.pB,vg.op⟩);unfold abf at aa;obtain⟨⟨ex,aut,FY⟩,H0,bq⟩:=df aa;have xy:l8 xu Y.G Y.pr D m.n wT ⟨t3,m2.n⟩ bW (h4.putObj iz.b (.loop { DG with state:=.busy })):=⟨Nk,acf,acg,eC,_,⟨ach,tR⟩,aox,pb,FW,sU⟩;refine wpIn_mono (aJ _ _ _ _ _ _ _ _ H0 S5 _ _ _ _ _ D m.n _ _ (λe=>by cases e) xy) ?_;rintro e fs j6⟨rfl,acj,aoC,aoD,ql,tp,⟨aoE,Nl⟩,auu,Js,ack,Nm⟩;have acm:acj l=some iz:=by rw[ack l (hm.kB _ _ aE)];exact aE
    have bp:Sy l (FY.t.get l) (Ek ex) FY=some (v,m'):=bq;unfold Sy at bp;split at bp
    ·rename_i AW acn aco acp acq xG;obtain⟨Tt,Iz,By⟩:=(Js.jH _ _ _ xG acm).Nj;obtain⟨acr,acs,aoF⟩:=wI Iz;have acu:tp.Perm (⟨iz.b,.loop Tt⟩::(acr++acs)):=by rw[aoF];exact rn
     have acv:j6.heap[iz.b]?=some (.loop Tt):=Nl.holds.m _ Iz;have aoG:=(ma.1 acv).1;obtain⟨t5,ec,eX⟩:=bn.pY (some (cv (Ek ex) (gn.loop false AW acn aco acp acq) λc=>gn.done c AW acn aco acp acq)) FY.t l;rw[ec]at bp;cases bp;have fin:∀ jump,Ek ex=jump->∃ nK w',(Instr.endRound iz.b jump).run Y.P j6=.ok nK w'/\∃ r I' M',Ending.returned nK=.returned r/\(∃ bH,D.ext bH m.n/\a1 bH (.b (Ek ex).isNone) r/\dE Y bH ⟨t5,FY.n⟩ I' M')/\e1 I' M' w'/\Kept I M W I' M' w':=by
      rintro jump an;let Nn:Loop:={ Tt with state:=if jump.isNone then .ready else .done,pending:=jump }
      have acw:db xu aoE fs (j6.putObj iz.b (.loop Nn)) aoC aoD ql (⟨iz.b,.loop Nn⟩::(acr++acs)):=
       (Nl.j0 (.perm acu .refl)).swap (by simp) (Ei aoG) (λb ag=>nY ag) (Kh _ _ _)
      refine⟨_,_,run_endRound jump acv,_,ql,_,rfl,⟨acj,ack,?_,Js.swap xG acm acu eX ?_⟩,acw.holds,acw.kept rfl rfl rfl rfl⟩;·rw[an];simp[a1]
      ·rw[an];cases jump with
       |none=>exact .loop Nn (by simp) ⟨rfl,rfl,By.sz,By.ak,By.ps,By.fO,By.body,By.za,By.pB,By.op⟩| some c=>exact .done Nn (by simp) rfl rfl
     cases ex with
     |normal=>exact fin none rfl| exit id=>exact fin _ rfl| goto t=>exact fin _ rfl| ret=>exact fin _ rfl
    ·cases bp
   ·cases aa
  ·cases U
 ·cases h
end
section
variable{Y:hF}
def aoH(aW:dm Y.P Y.E)(cB:ys Y.P)(nW:z5 Y)(aJ:DF Y f):Jf Y (MO Y (lJ Y f)):=λanQ l m v m' h D I M u us Aj gK hm=>by
 unfold MO at h;split at h
 ·rename_i g cT cs;simp only[a1]at Aj;obtain⟨vs,ws,U,aa,rfl⟩:=Aj;refine .inl ⟨g,_,_,rfl,?_⟩;have:=acc aW cB nW aJ h (U.append (gK.append aa)) hm;simpa using this
 ·rename_i q;simp only[a1]at Aj;obtain⟨iz,U,rfl⟩:=Aj;exact .inr ⟨iz.b,rfl,aov aJ h U gK hm⟩
 ·cases h
def l8.world{ak:bn ap}{m:bB}{a:Act}(h:l8 X G pr D0 n0 ak m a w):∃ D F β,(∀ t,fe β (F t) (a.tmps.getD t undef))/\rN D F ak:=by obtain⟨D,F,C,I,M,⟨β,ba⟩,cB,_⟩:=h;exact⟨D,F,β,ba.ak,cB⟩
def l8.eval{ak:bn ap}{m:bB}{a:Act}(h:l8 X G pr D0 n0 ak m a w){b:Bool}(ab:dG ak x=some (.b b)):a.eval x=.bool b:=by obtain⟨D,F,β,U,aa⟩:=h.world;obtain⟨u,aC,a3⟩:=(aa.op [x]).bU (x:=x) (by simp) ab;rw[dJ U aC,a3.bool]
def gV.ok{D:bS}{β:Nat->Nat}{x:dW}{v:ap}{u:Value}(h:gV D x v)(ab:fe β x u):a1 D v u:=by
 rcases h with⟨y,rfl,h⟩ | ⟨q,rfl,rfl⟩
 ·have:u=y:=ab;subst this;exact h
 ·have:u=.bool q:=ab;subst this;simp[a1]
def aoI(aW:dm Y.P Y.E)(cB:ys Y.P)(nW:z5 Y)(aJ:DF Y f){jG:Bool}{ps:Array Tmp}{ak dq:bn ap}{m m':bB}(h:SD Y (lJ Y f) jG n (dG ak x) ps.toList fO body ak m=some (ex,dq,m'))(bw:iS n (.rangeFunc x ps fO body)=true){B:Nat}{ay:World}{cL:List Nat}{ro:Option Nat}{a:Act}(mR:jG=true->ro=none)(ax:l8 (kC Y n B ay dZ cL ro) Y.G Y.pr D0 n0 ak m a w) :
  (Code.rangeFunc x ps fO body).wpIn (hK (kC Y n B ay dZ cL ro)) 0 Y.P (λe a w=>e=Bx ex/\l8 (kC Y n B ay dZ cL ro) Y.G Y.pr D0 n0 dq m' a w) a w:=by
 unfold SD at h;split at h
 ·rename_i g cap ab;have O':=mR rfl;subst O';obtain⟨D,F,C,I,M,⟨β,ba⟩,Tu,hm,gx,hP⟩:=ax;obtain⟨u,aC,a3⟩:=(Tu.op [x]).bU (x:=x) (by simp) ab;simp only[a1]at a3;obtain⟨vs,ws,U,aa,rfl⟩:=a3;have jx:=U.oD;subst jx;simp only[iS,ct]at bw;obtain⟨t1,af,aN⟩:=I7 h;refine wpIn_rangeFunc λfn _=>?_;let h9:Loop:={ state:=.ready,pending:=none,fn:=fn,tmps:=a.tmps,params:=ps,assign:=fO,body:=body,defers:=w.heap.size }
  let l:=w.heap.size+1
  let kq:World:=(w.alloc (.deferred (some []))).alloc (.loop h9)
  have Ck:=ba.VU.qb (.loop h9);have aE:(w.alloc (.deferred (some []))).heap.size=l:=by simp[l]
  rw[aE]at Ck;have aoJ:∀ q∈M,q.num≠l:=λq aL e=>by have:=ba.holds.lt aL;omega
  have acx:dE Y (D.set m.n ⟨l,0,0⟩) ⟨t1,m.n+1⟩ I (⟨l,.loop h9⟩::M):=hm.new (a:=⟨l,0,0⟩) af aoJ (.loop h9 (by simp) ⟨rfl,rfl,ba.size,λt v aI=>((Tu t v aI).ok (ba.ak t)).mono (bS.Bo _ hm.fresh),rfl,rfl,rfl,bw.1,bw.2.1,λt aI=>bP (hI.1 bw.2.2 t aI)⟩);unfold abj at aN;obtain⟨⟨v,m2⟩,nB,bq⟩:=df aN;have acy:=bS.Bo (D:=D) ⟨l,0,0⟩ hm.fresh;have m3:b0 (D.set m.n ⟨l,0,0⟩) (.y m.n::cap) (.func (.yield l) #[] #[]::ws):=.cons (by simp only[a1];exact⟨_,bS.qM _ _ _,rfl⟩) (aa.mono acy);obtain⟨qV,Ca⟩:=acb aW cB nW aJ nB m3 acx;have aoK:=Ca kq Ck.holds;have aA:=dJ ba.ak aC;refine⟨l,[yT w.heap.size],kq,{ target:=.fn (.func g) ws.toArray,args:=#[.func (.yield l) #[] #[]] },kq,g,(.func (.yield l) #[] #[]::ws).toArray,kq,?_,?_,λ_ _=>trivial,?_,(λh=>by cases h),?_⟩;·show(Instr.enterLoop fn a.tmps ps fO body none).run Y.P w=_;exact run_enterLoop_outer fn a.tmps ps fO body
  ·show(Deferred.ofValue (a.eval x) (#[Operand.const (.func (.yield l) #[] #[])].map a.eval)).run Y.P kq=_;rw[aA];simp[Deferred.ofValue,Act.eval]
  ·simp only[invoke];rw[show #[Value.func (.yield l) #[] #[]]++ws.toArray=(.func (.yield l) #[] #[]::ws).toArray from by apply hJ;simp];exact qV _ _
  ·refine(OG (X:=kC Y n B ay dZ cL none) aoK _).mono ?_;rintro e jz⟨r,la,xv,rfl,⟨Jt,Tv,tE,pb⟩,acz,Tw⟩;have xz:=Ck.after (Mr:=[]) (by simp) acz Tw;rw[eo]at xz;have Cl:Jt m.n=some ⟨l,0,0⟩:=by rw[Tv m.n (yM _)];exact bS.qM _ _ _
   have Ju:=acx.le Tv;have aoL:rN Jt F ak:=λt v aI=>(Tu t v aI).mono (bS.le_trans acy Ju);have aoM:D0.ext Jt n0:=λi hi=>by
    have gL:i<m.n+1:=by
     have:i<m.n:=by omega
     omega
    rw[Tv i gL];show(if i=m.n then _ else D i)=D0 i;rw[b8 (by omega)];exact gx i hi
   have fin:∀ (L:Loop) (t4:bn gn) (j:Option Code),(⟨l,.loop L⟩:aF)∈xv->L.state≠.busy->L.pending=j->(∃ b',m2.t.get m.n=some b')->(∀ id e,t4.get id=some e->(id=m.n/\(none:Option gn)=some e)\/(id≠m.n/\m2.t.get id=some e))->n0<=m2.n ->
     ∃ j6,(Instr.endLoop l).run Y.P jz=.ok j j6/\l8 (kC Y n B ay dZ cL none) Y.G Y.pr D0 n0 ak ⟨t4,m2.n⟩ { a with defers:=[yT w.heap.size]++a.defers } j6:=by
    rintro L t4 j c4 ag aK⟨b',Jv⟩P0 Nm;have aoN:jz.heap[l]?=some (.loop L):=acz.m _ c4;obtain⟨bi,post,bL⟩:=wI c4;have lh:xv.Perm (⟨l,.loop L⟩::(bi++post)):=by rw[bL];exact rn
    have nF:∀ i fB,t4.get i=some fB->i≠m.n/\m2.t.get i=some fB:=λi fB hi=>by
     rcases P0 i fB hi with⟨_,eX⟩ | eX;·cases eX
     ·exact eX
    have Nl:=(xz.j0 (.perm lh .refl)).G8 (o':=.loop { L with state:=.exhausted });refine⟨_,(by rw[<-aK];exact run_endLoop aoN ag),Jt,F,C,la,bi++post,⟨β,Nl⟩,aoL,⟨λi fB b hi ht=>?_,λi hV fB Bt b h2 hi dx=>pb.inj i hV fB Bt b h2 (nF i fB hi).2 (nF hV Bt dx).2,pb.kB,pb.rM⟩,aoM,Nm⟩;refine(pb.jH i fB b (nF i fB hi).2 ht).mono (bS.le_refl Jt) λq aL az=>?_;rcases eu.1 (lh.mem_iff.1 aL)with rfl | aL;·exact((nF i fB hi).1 (pb.inj _ _ _ _ _ _ (nF i fB hi).2 Jv ht Cl az.symm)).elim
    ·exact aL
   have sU:∀ {b':gn},m2.t.get m.n=some b'->n0<=m2.n:=λ_=>by have:=pb.kB _ _ Cl;omega
   have bp:(match m2.t.get m.n with
    |some (.loop false ..)=>m2.t.oC none m.n λt=>some (vA.normal,ak,(⟨t,m2.n⟩:bB))
    |some (.done c ..)=>cv (SC c) none λex=>m2.t.oC none m.n λt=>some (ex,ak,⟨t,m2.n⟩)
    |_=>none)=some (ex,dq,m'):=bq
   split at bp;·rename_i tF aoO aoP aoQ aoR mq;obtain⟨L,c4,acA⟩:=(pb.jH _ _ _ mq Cl).Nj;obtain⟨t4,ec,eX⟩:=bn.pY (none:Option gn) m2.t m.n;rw[ec]at bp;cases bp;obtain⟨j6,dk,qn⟩:=fin L t4 none c4 (by rw[acA.ao];simp) acA.q0 ⟨_,mq⟩ eX (sU mq);exact⟨none,j6,dk,rfl,qn⟩
   ·rename_i c tF aoO aoP aoQ aoR mq;obtain⟨L,c4,cR,aoS⟩:=(pb.jH _ _ _ mq Cl).aou;obtain⟨Dy,hex,bp⟩:=df bp;obtain⟨t4,ec,eX⟩:=bn.pY (none:Option gn) m2.t m.n;rw[ec]at bp;cases bp;obtain⟨j6,dk,qn⟩:=fin L t4 (some c) c4 (by rw[cR];simp) aoS ⟨_,mq⟩ eX (sU mq);refine⟨some c,j6,dk,?_⟩;unfold SC at hex;split at hex
    ·cases hex;exact wpIn_exit ⟨rfl,qn⟩
    ·cases hex;exact wpIn_goto ⟨rfl,qn⟩
    ·cases hex;exact wpIn_ret ⟨rfl,qn⟩
    ·cases hex
   ·cases bp
 ·cases h
end
section
variable{Y:hF}
def acB{next:Act->World->Prop}{a:Act}(h:Q (Bx ex) a w)(bM:ex≠.normal):Exit.then next Q (Bx ex) a w:=by cases ex<;>first | exact(bM rfl).elim | exact h
def aoT(aW:dm Y.P Y.E)(cB:ys Y.P)(nW:z5 Y)(k2:Y.P.follows .mixedOrders=true):∀ f k,k<=f->DF Y k:=by
 intro f
 induction f with
 |zero=>
  intro k ae jG n c ak m ex dq m' h;have:k=0:=by omega
  subst this;cases h
 |succ f be=>
  intro k ae;by_cases HV:k<=f;·exact be k HV
  have tu:k=f+1:=by omega
  subst tu;have aJ:=be f (b2 _);have nB:=aoH aW cB nW aJ;intro jG n c ak m ex dq m' h bw B ay dZ cL ro D0 n0 a w mR ax;have U:SE Y f (lJ Y f) jG n c ak m=some (ex,dq,m'):=h;have k6:=@kC.hs Y n B ay dZ cL ro;unfold SE at U;cases c with
  |skip=>cases U;exact wpIn_skip ⟨rfl,ax⟩| label l=>cases U;exact wpIn_label ⟨rfl,ax⟩| ret=>cases U;exact wpIn_ret ⟨rfl,ax⟩| exit id=>cases U;exact wpIn_exit ⟨rfl,ax⟩| goto l=>cases U;exact wpIn_goto ⟨rfl,ax⟩| refuse s=>cases U
  |seq x y=>
   simp only[iS,ct]at bw;simp only[IY]at U;split at U;·rename_i fR dI ab;refine wpIn_seq (wpIn_mono (aJ _ _ _ _ _ _ _ _ ab bw.1 B ay dZ cL ro D0 n0 a w mR ax) ?_);rintro e bW h4⟨rfl,g3⟩;exact aJ _ _ _ _ _ _ _ _ U bw.2 B ay dZ cL ro D0 n0 bW h4 mR g3
   ·rename_i eb;refine wpIn_seq (wpIn_mono (aJ _ _ _ _ _ _ _ _ U bw.1 B ay dZ cL ro D0 n0 a w mR ax) ?_);rintro e bW h4⟨rfl,g3⟩;exact acB ⟨rfl,g3⟩ λe=>eb dq m' (by rw[U,e])
  |block id c=>
   simp only[iS]at bw;simp only[abh]at U;split at U
   ·rename_i j fR dI ab;refine wpIn_block (wpIn_mono (aJ _ _ _ _ _ _ _ _ ab bw B ay dZ cL ro D0 n0 a w mR ax) ?_);rintro e bW h4⟨rfl,g3⟩;simp only[Bx,Exit.inBlock];by_cases an:j=id
    ·subst an;rw[r2]at U;have aa:some (vA.normal,fR,dI)=some (ex,dq,m'):=U;cases aa;rw[cF rfl];exact⟨rfl,g3⟩
    ·rw[hW an]at U;have aa:some (vA.exit j,fR,dI)=some (ex,dq,m'):=U;cases aa;rw[b8 an];exact⟨rfl,g3⟩
   ·rename_i eb;refine wpIn_block (wpIn_mono (aJ _ _ _ _ _ _ _ _ U bw B ay dZ cL ro D0 n0 a w mR ax) ?_);rintro e bW h4⟨rfl,g3⟩;cases ex with
    |exit j=>exact(eb j dq m' U).elim| normal=>exact⟨rfl,g3⟩| goto l=>exact⟨rfl,g3⟩| ret=>exact⟨rfl,g3⟩
  |cond x fm fj=>
   simp only[iS,ct]at bw;simp only[abi]at U;split at U
   ·rename_i b ab;refine wpIn_cond (ax.eval ab) ?_;cases b with
    |true=>exact aJ _ _ _ _ _ _ _ _ U bw.1 B ay dZ cL ro D0 n0 a w mR ax| false=>exact aJ _ _ _ _ _ _ _ _ U bw.2 B ay dZ cL ro D0 n0 a w mR ax
   ·cases U
  |loop c=>
   simp only[iS]at bw;let J (k:Nat) (a:Act) (w:World):Prop:=k<=f+1/\∃ fR dI,lJ Y k jG n (.loop c) fR dI=some (ex,dq,m')/\l8 (kC Y n B ay dZ cL ro) Y.G Y.pr D0 n0 fR dI a w
   refine Ko J (m:=f+1) ⟨b2 _,ak,m,h,ax⟩ ?_;rintro k bW h4⟨ae,fR,dI,aa,g3⟩;cases k with
   |zero=>cases aa
   |succ k=>
    have acC:=be k (by omega);have af:IY (lJ Y k jG n c fR dI) (lJ Y k jG n (.loop c))=some (ex,dq,m'):=aa;simp only[IY]at af;split at af;·rename_i wT m2 ab;refine wpIn_mono (acC _ _ _ _ _ _ _ _ ab bw B ay dZ cL ro D0 n0 bW h4 mR g3) ?_;rintro e da kq⟨rfl,nl⟩;exact⟨k,yM k,by omega,wT,m2,af,nl⟩
    ·rename_i eb;refine wpIn_mono (acC _ _ _ _ _ _ _ _ af bw B ay dZ cL ro D0 n0 bW h4 mR g3) ?_;rintro e da kq⟨rfl,nl⟩;exact acB ⟨rfl,nl⟩ λe=>eb dq m' (by rw[af,e])
  |region id ops aoU=>
   cases aoU with
   |false=>simp only[MP]at U;obtain⟨⟨fR,dI⟩,ab,aa⟩:=df U;cases aa;refine wpIn_region ?_;have:=S9 (X:=kC Y n B ay dZ cL ro) (G:=Y.G) (pr:=Y.pr) (D0:=D0) (n0:=n0) aW k6 nB ops (λe a w=>e=Bx .normal/\l8 (kC Y n B ay dZ cL ro) Y.G Y.pr D0 n0 fR dI a w) (λa w h=>⟨rfl,h⟩) ops.toList 0 (by simp) (Kn bw) ab ax;have dk:wpOpsIn (hK (kC Y n B ay dZ cL ro)) 0 Y.P ops (λe a w=>e=Bx .normal/\l8 (kC Y n B ay dZ cL ro) Y.G Y.pr D0 n0 fR dI a w) (List.range' 0 ops.toList.length) a w:=this;rw[DZ];simpa using dk
   |true=>simp only[MP]at U;obtain⟨⟨fR,dI⟩,ab,aa⟩:=df U;cases aa;exact an2 (X:=kC Y n B ay dZ cL ro) (G:=Y.G) (pr:=Y.pr) (D0:=D0) (n0:=n0) aW k6 nB k2 bw ab (λa w h=>⟨rfl,h⟩) ax
  |scope c=>
   simp only[iS]at bw;have step:∀ (k:Nat) (x:Code) (fR:bn ap) (dI:bB) (bW:Act) (h4:World),iS n x=true->IZ (lJ Y f) jG n c (k+1) x fR dI=some (ex,dq,m')->l8 (kC Y n B ay dZ cL ro) Y.G Y.pr D0 n0 fR dI bW h4 ->
     x.wpIn (hK (kC Y n B ay dZ cL ro)) 0 Y.P (λe cf w'=>match e with
      | .goto l=>∃ au wT m2,findLabel c l=some au/\IZ (lJ Y f) jG n c k au wT m2=some (ex,dq,m')/\l8 (kC Y n B ay dZ cL ro) Y.G Y.pr D0 n0 wT m2 cf w'| e=>e=Bx ex/\l8 (kC Y n B ay dZ cL ro) Y.G Y.pr D0 n0 dq m' cf w') bW h4:=λk x fR dI bW h4 ab aa g3=>by
    have af:(match lJ Y f jG n x fR dI with
     |some (.goto l,ak,m)=>cv (findLabel c l) none λau=>IZ (lJ Y f) jG n c k au ak m
     |r=>r)=some (ex,dq,m'):=aa
    split at af;·rename_i l wT m2 he;obtain⟨au,tm,aN⟩:=df af;refine wpIn_mono (aJ _ _ _ _ _ _ _ _ he ab B ay dZ cL ro D0 n0 bW h4 mR g3) ?_;rintro e da kq⟨rfl,nl⟩;exact⟨au,wT,m2,tm,aN,nl⟩
    ·rename_i eb;refine wpIn_mono (aJ _ _ _ _ _ _ _ _ af ab B ay dZ cL ro D0 n0 bW h4 mR g3) ?_;rintro e da kq⟨rfl,nl⟩;cases ex with
     |goto l=>exact(eb l dq m' af).elim| exit j=>exact⟨rfl,nl⟩| normal=>exact⟨rfl,nl⟩| ret=>exact⟨rfl,nl⟩
   let J (l k:Nat) (a:Act) (w:World):Prop:=∃ au fR dI,findLabel c l=some au/\IZ (lJ Y f) jG n c k au fR dI=some (ex,dq,m')/\l8 (kC Y n B ay dZ cL ro) Y.G Y.pr D0 n0 fR dI a w
   cases f with
   |zero=>cases U
   |succ f'=>
    refine VS J (wpIn_mono (step f' c ak m a w bw U ax) ?_) ?_
    ·intro e bW h4 he;cases e with
     |goto l=>exact⟨f',he⟩| _=>exact he
    ·rintro l k bW h4⟨au,fR,dI,tm,aa,g3⟩;cases k with
     |zero=>cases aa
     |succ k=>
      refine⟨au,tm,wpIn_mono (step k au fR dI bW h4 (Tq bw tm) aa g3) ?_⟩;intro e da kq he;cases e with
      |goto c8=>exact⟨k,yM k,he⟩| _=>exact he
  |rangeFunc x ps fO body=>exact aoI aW cB nW aJ U bw mR ax
def reckon(aW:dm Y.P Y.E)(cB:ys Y.P)(nW:z5 Y)(k2:Y.P.follows .mixedOrders=true){m m':bB}{v:ap}(h:yk Y (lJ Y f) g args m=some (v,m'))(hu:b0 D args us)(hm:dE Y D m I M) : Spec Y.P g us I M λr I' M'=>∃ bH,D.ext bH m.n/\a1 bH v r/\dE Y bH m' I' M':=
 acc aW cB nW (aoT aW cB nW k2 f f (b2 _)) h hu hm
end
def acD(h:e1 I M w)(U:e1 I' M' w')(aa:Kept I [] w I' M' w') :
  e1 I' (M'++M) w'/\Kept I M w I' (M'++M) w'/\∀ x∈M',∀ y∈M,x.num≠y.num:=by
 have a0:∀ x∈M,x.num<w.heap.size:=λx ab=>(ma.1 (h.m x ab)).1;have cE:∀ x∈M',w.heap.size<=x.num:=λx ab=>by
  rcases aa.w3 x ab with⟨y,aT,_⟩ | h;·cases aT
  ·exact h
 have bM:∀ x∈M',∀ y∈M,x.num≠y.num:=λx ab y aT e=>by have:=a0 y aT;have:=cE x ab;omega
 refine⟨⟨U.i,λx ab=>?_,λx ab=>?_,?_⟩,⟨aa.le,aa.vv,λx ab=>?_,λb ag _=>aa.dS b ag (by simp),aa.out,aa.sz⟩,bM⟩
 ·rcases dV.1 ab with ab | ab
  ·exact U.m x ab
  ·rw[aa.dS x.num (a0 x ab) (by simp)];exact h.m x ab
 ·rcases dV.1 ab with ab | ab
  ·exact U.d x ab
  ·cases he:I' x.num with
   |none=>rfl
   |some o=>
    rcases aa.vv _ _ he with af | af;·rw[h.d x ab]at af;cases af
    ·have:=a0 x ab;omega
 ·rw[gW,D1];refine⟨U.aG,h.aG,λa aH b ag e=>?_⟩;obtain⟨x,ab,rfl⟩:=eh.1 aH;obtain⟨y,aT,rfl⟩:=eh.1 ag;exact bM x ab y aT e
 ·rcases dV.1 ab with ab | ab
  ·exact .inr (cE x ab)
  ·exact .inl ⟨x,ab,rfl⟩
def Spec.frame{args:List Value}{Q:Value->a5->List aF->Prop}(h:Spec P f args I [] Q):Spec P f args I M λr I' oP=>∃ M',oP=M'++M/\(∀ x∈M',∀ y∈M,x.num≠y.num)/\(∀ b o,I b=some o->I' b=some o)/\Q r I' M':=by
 have ay:∀ {w:World},e1 I M w->e1 I [] w:=λhw=>⟨hw.i,by simp,by simp,by simp⟩;rcases h with⟨U,aa⟩ | h
 ·refine .inl ⟨U,λw hw=>?_⟩;refine(aa w (ay hw)).mono ?_;rintro e w'⟨v,I',M',aC,aA,bx,cU⟩;obtain⟨a3,a6,bN⟩:=acD hw bx cU;exact⟨v,I',M'++M,aC,⟨M',rfl,bN,cU.le,aA⟩,a3,a6⟩
 ·refine .inr λw hw=>?_;obtain⟨v,w',I',M',aC,aA,bx,cU⟩:=h w (ay hw);obtain⟨a3,a6,bN⟩:=acD hw bx cU;exact⟨v,w',I',M'++M,aC,⟨M',rfl,bN,cU.le,aA⟩,a3,a6⟩
mutual
def kD(k:Nat):ap->ap
 | .p id off=>.p (Nat.add id k) off| .sl id off n c=>.sl (Nat.add id k) off n c| .sx id off e n=>.sx (Nat.add id k) off e n| .m id=>.m (Nat.add id k)| .y id=>.y (Nat.add id k)| .f g l r=>.f g (rQ k l) (rQ k r)| .IM t v=>.IM t (kD k v)| .t l=>.t (rQ k l)| .a l=>.a (rQ k l)| .b x=>.b x| .i a n=>.i a n| .s l=>.s l| .pn=>.pn| .g n off=>.g n off| .sn=>.sn| .gs n off a c=>.gs n off a c| .so=>.so| .mn=>.mn| .fn=>.fn| .ni=>.ni
def rQ(k:Nat):List ap->List ap
 |[]=>[]| v::l=>kD k v::rQ k l
end
section
mutual
def FZ{D0 D:bS}{k:Nat}(dH:∀ id a,D0 id=some a->D (Nat.add id k)=some a):∀ (v:ap) {u:Value},a1 D0 v u->a1 D (kD k v) u
 | .p id off,u,h=>by simp only[a1,kD]at h |-;obtain⟨a,aH,h⟩:=h;exact⟨a,dH _ _ aH,h⟩
 | .sl id off n c,u,h=>by simp only[a1,kD]at h |-;obtain⟨a,aH,h⟩:=h;exact⟨a,dH _ _ aH,h⟩
 | .sx id off e n,u,h=>by simp only[a1,kD]at h |-;obtain⟨a,aH,h⟩:=h;exact⟨a,dH _ _ aH,h⟩
 | .m id,u,h=>by simp only[a1,kD]at h |-;obtain⟨a,aH,h⟩:=h;exact⟨a,dH _ _ aH,h⟩
 | .y id,u,h=>by simp only[a1,kD]at h |-;obtain⟨a,aH,h⟩:=h;exact⟨a,dH _ _ aH,h⟩
 | .f g l r,u,h=>by simp only[a1,kD]at h |-;obtain⟨vs,ws,U,aa,h⟩:=h;exact⟨vs,ws,Jw dH l U,Jw dH r aa,h⟩
 | .IM t v,u,h=>by simp only[a1,kD]at h |-;obtain⟨x,U,h⟩:=h;exact⟨x,FZ dH v U,h⟩
 | .t l,u,h=>by simp only[a1,kD]at h |-;obtain⟨x,U,h⟩:=h;exact⟨x,Jw dH l U,h⟩
 | .a l,u,h=>by simp only[a1,kD]at h |-;obtain⟨x,U,h⟩:=h;exact⟨x,Jw dH l U,h⟩
 | .b x,u,h=>by simpa only[a1,kD]using h
 | .i a n,u,h=>by simpa only[a1,kD]using h
 | .s l,u,h=>by simpa only[a1,kD]using h
 | .pn,u,h=>by simpa only[a1,kD]using h
 | .g n off,u,h=>by simpa only[a1,kD]using h
 | .sn,u,h=>by simpa only[a1,kD]using h
 | .gs n off a c,u,h=>by simpa only[a1,kD]using h
 | .so,u,h=>by simpa only[a1,kD]using h
 | .mn,u,h=>by simpa only[a1,kD]using h
 | .fn,u,h=>by simpa only[a1,kD]using h
 | .ni,u,h=>by simpa only[a1,kD]using h
def Jw{D0 D:bS}{k:Nat}(dH:∀ id a,D0 id=some a->D (Nat.add id k)=some a):∀ (l:List ap) {us:List Value},b0 D0 l us->b0 D (rQ k l) us
 |[],us,h=>by simpa only[b0,rQ]using h
 |v::l,us,h=>by simp only[b0,rQ]at h |-;obtain⟨x,xs,U,aa,h⟩:=h;exact⟨x,xs,FZ dH v U,Jw dH l aa,h⟩
end
end
inductive wU where
 |cells(l:List ap)(T:Nat)| map (es:List (ap×ap))
noncomputable def Jx:gn->Option wU
 | .cells cs T ga=>cs.Fw 0 ga λl=>some (.cells l T)
 | .map es=>some (.map es)| _=>none
noncomputable def readAll(t:bn gn):Nat->Nat->Option (List wU)
 |_,0=>some []| id,n+1=>cv (t.get id) none λe=>cv (Jx e) none λs=>cv (readAll t (Nat.add id 1) n) none λl=>some (s::l)
def Tx(k:Nat):List (ap×ap)->List (ap×ap)
 |[]=>[]| p::l=>(kD k p.1,kD k p.2)::Tx k l
noncomputable def wU.jH(k:Nat):wU->gn
 | .cells l T=>bn.zS (rQ k l) .nil 0 λcs=>.cells cs T l.length
 | .map es=>.map (Tx k es)
noncomputable def No{R:Type}(k:Nat):List wU->Nat->bn gn->(bn gn->R)->R
 |[],_,t,K=>K t| s::l,id,t,K=>t.oC (some (s.jH k)) id λt=>No k l (Nat.add id 1) t K
noncomputable def Ty(v:ap)(L:List wU)(m:bB):Option (ap×bB):=sW m.n λn=>sW (Nat.add n L.length) λfK=>No n L n m.t λt=>some (kD n v,⟨t,fK⟩)
def acE{t:bn gn}:∀ {n id:Nat} {L:List wU},readAll t id n=some L->L.length=n/\∀ j s,L[j]?=some s->∃ e,t.get (id+j)=some e/\Jx e=some s
 |0,id,L,h=>by cases h;exact⟨rfl,by simp⟩
 |n+1,id,L,h=>by
  unfold readAll at h;obtain⟨e,U,h⟩:=df h;obtain⟨s,aa,h⟩:=df h;obtain⟨l,af,h⟩:=df h;cases h;obtain⟨a3,a6⟩:=acE af;refine⟨by simp[a3],λj cH an=>?_⟩;cases j with
  |zero=>cases an;exact⟨e,U,aa⟩| succ j=>obtain⟨a',eJ,c3⟩:=a6 j cH (by simpa using an);refine⟨a',?_,c3⟩;rw[<-eJ];congr 1;show id+(j+1)=id+1+j;omega
def acF(k:Nat):∀ (L:List wU) (id:Nat) (t:bn gn),∃ fw:bn gn,(∀ {R:Type} (K:bn gn->R),No k L id t K=K fw) /\ ∀ j e,fw.get j=some e->(id<=j/\∃ s,L[j-id]?=some s/\e=s.jH k)\/((j<id\/id+L.length<=j)/\t.get j=some e)
 |[],id,t=>⟨t,λK=>rfl,λj e h=>.inr ⟨by simp;omega,h⟩⟩
 |s::L,id,t=>by
  obtain⟨t1,U,aa⟩:=bn.pY (some (s.jH k)) t id;obtain⟨fw,af,aN⟩:=acF k L (id+1) t1;refine⟨fw,λK=>?_,λj e h=>?_⟩;·unfold No;rw[U];exact af K
  ·rcases aN j e h with⟨a3,cH,a6,bN⟩ | ⟨a3,a6⟩
   ·refine .inl ⟨by omega,cH,?_,bN⟩;rw[show j-id=(j-(id+1))+1 by omega];simpa using a6
   ·rcases aa j e a6 with⟨rfl,bN⟩ | ⟨bN,gP⟩
    ·refine .inl ⟨b2 _,s,by simp,?_⟩;cases bN;rfl
    ·refine .inr ⟨?_,gP⟩;simp only[eM];omega
def aoV{k:Nat}(dH:∀ id a,D0 id=some a->D (Nat.add id k)=some a){es:List (ap×ap)}{l:List MapEntry}(h:rO D0 es l):rO D (Tx k es) l:=by
 induction h with
 |nil=>exact .nil| cons ae aj t be=>exact .cons (FZ dH _ ae) (FZ dH _ aj) be
def acG{k:Nat}:∀ {l:List ap} {i:Nat} {v:ap},(rQ k l)[i]?=some v->∃ yt,l[i]?=some yt/\v=kD k yt
 |[],i,v,h=>by simp[rQ]at h
 |x::l,0,v,h=>by simp only[rQ,List.getElem?_cons_zero,hq]at h;exact⟨x,rfl,h.symm⟩
 |x::l,i+1,v,h=>by simp only[rQ,J5]at h;simpa using acG h
def aoW{k:Nat}(dH:∀ id a,D0 id=some a->D (Nat.add id k)=some a)(a2:∀ x∈M,x∈M'){a:Loc}{e:gn}{s:wU}(h:l6 D0 E M a e)(al:Jx e=some s):l6 D E M' a (s.jH k):=by
 cases h with
 | @cells cs T ga arr ay U aa af aN bq=>
  unfold Jx at al;obtain⟨l,a3,a6,bN⟩:=bn.FL cs ga 0 _ _ al;cases bN;obtain⟨fw,eJ,c3⟩:=bn.zX (rQ k l) (.nil:bn ap) 0;show l6 D E M' a (bn.zS (rQ k l) .nil 0 λcs=>gn.cells cs T l.length);rw[eJ,a3];refine .cells arr ay (a2 _ U) aa (λi v hi aB=>?_) aN bq;rcases c3 i v aB with⟨_,h⟩ | ⟨_,h⟩;·obtain⟨yt,aC,rfl⟩:=acG (by simpa using h);have:=a6 i hi;rw[dp,aC]at this;obtain⟨x,f1,f2⟩:=af i yt hi this;exact⟨x,f1,FZ dH _ f2⟩
  ·cases h
 |map l clock U aa=>cases al;exact .map l clock (a2 _ U) (aoV dH aa)| loop L U aa=>cases al| done L U aa af=>cases al
def aoX(aW:dm Y.P Y.E)(cB:ys Y.P)(k2:Y.P.follows .mixedOrders=true){lC:bB}{yt:ap}{L:List wU}(ay:yk ⟨Y.P,Y.E,λ_=>none,λ_ _ _=>none⟩ (lJ ⟨Y.P,Y.E,λ_=>none,λ_ _ _=>none⟩ f) g args ⟨.nil,0⟩=some (yt,lC))(c4:readAll lC.t 0 lC.n=some L)(ft:∀ D us,b0 D args us->b0 (λ_=>none) args us){m m':bB}{v:ap}(h:Ty yt L m=some (v,m'))(hu:b0 D args us)(hm:dE Y D m I M) :
  Spec Y.P g us I M λr I' M'=>∃ bH,D.ext bH m.n/\a1 bH v r/\dE Y bH m' I' M':=by
 have nW:z5 ⟨Y.P,Y.E,λ_=>none,λ_ _ _=>none⟩:=λg vs m v m' h=>by cases h
 have aoY:dE ⟨Y.P,Y.E,λ_=>none,λ_ _ _=>none⟩ (λ_=>none) ⟨.nil,0⟩ I []:=⟨λid e a h bg=>(by cases bg),λid ju e a' a cf h U bg=>(by cases bg),λid a h=>(by cases h),λg cs h=>(by cases h)⟩;have ax:=(reckon (Y:=⟨Y.P,Y.E,λ_=>none,λ_ _ _=>none⟩) aW cB nW k2 ay (ft D us hu) aoY).frame (M:=M);refine Spec.p2 ax ?_;rintro r I' oP⟨M0,rfl,bM,bz,D0,-,aj,F0⟩;unfold Ty at h;rw[SF,SF]at h;obtain⟨fw,U,aa⟩:=acF m.n L m.n m.t;rw[U]at h;cases h;obtain⟨a3,a6⟩:=acE c4;let bH:bS:=λid=>if id<m.n then D id else D0 (id-m.n)
 have dH:∀ id a,D0 id=some a->bH (Nat.add id m.n)=some a:=λid a aH=>by show(if id+m.n<m.n then D (id+m.n)else D0 (id+m.n-m.n))=some a;rw[b8 (by omega),Nat.add_sub_cancel,aH]
 have w8:D.le bH:=λid a aH=>by show(if id<m.n then D id else D0 (id-m.n))=some a;rw[cF (hm.kB _ _ aH),aH]
 have lo:∀ id,id<m.n->bH id=D id:=λid hi=>cF hi;have dx:∀ id,m.n<=id->bH id=D0 (id-m.n):=λid hi=>b8 (by omega);have src:∀ id e a,fw.get id=some e->bH id=some a->(m.n<=id/\∃ s b',e=s.jH m.n/\lC.t.get (id-m.n)=some b'/\Jx b'=some s/\D0 (id-m.n)=some a)\/(id<m.n/\m.t.get id=some e/\D id=some a):=λid e a he aH=>by
  rcases aa id e he with⟨eJ,s,c3,gr⟩ | ⟨eJ,c3⟩;·obtain⟨b',mZ,CZ⟩:=a6 _ _ c3;rw[dp]at mZ;rw[dx _ eJ]at aH;exact .inl ⟨eJ,s,b',gr,mZ,CZ,aH⟩
  ·rcases Hn id m.n with a0 | cE
   ·rw[lo _ a0]at aH;exact .inr ⟨a0,c3,aH⟩
   ·rw[dx _ cE]at aH;have:=F0.kB _ _ aH;omega
 refine⟨bH,λid hi=>lo id hi,FZ dH _ aj,⟨λid e a he aH=>?_,λid ju e a' a cf he uA aH Dt ag=>?_,λid a aH=>?_,hm.rM.mono bz⟩⟩
 ·rcases src id e a he aH with⟨eJ,s,b',rfl,c3,gr,mZ⟩ | ⟨eJ,c3,gr⟩
  ·exact aoW dH (λx ab=>r0 _ ab) (F0.jH _ _ _ c3 mZ) gr
  ·exact(hm.jH _ _ _ c3 gr).mono w8 λx ab _=>oI _ ab
 ·rcases src id e a he aH with⟨eJ,s,b',rfl,c3,gr,mZ⟩ | ⟨eJ,c3,gr⟩
  ·rcases src ju a' cf uA Dt with⟨gF,cH,C9,rfl,gv,gG,Tz⟩ | ⟨gF,gv,gG⟩
   ·have:=F0.inj _ _ _ _ _ _ c3 gv mZ Tz ag;omega
   ·obtain⟨x,ab,Np⟩:=F0.aO c3 mZ;obtain⟨y,aT,TA⟩:=hm.aO gv gG;exact(bM x ab y aT (Np.trans (ag.trans TA.symm))).elim
  ·rcases src ju a' cf uA Dt with⟨gF,cH,C9,rfl,gv,gG,Tz⟩ | ⟨gF,gv,gG⟩
   ·obtain⟨x,ab,Np⟩:=F0.aO gv Tz;obtain⟨y,aT,TA⟩:=hm.aO c3 gr;exact(bM x ab y aT (Np.trans (ag.symm.trans TA.symm))).elim
   ·exact hm.inj _ _ _ _ _ _ c3 gv gr gG ag
 ·show id<m.n+L.length;rcases Hn id m.n with a0 | cE
  ·omega
  ·rw[dx _ cE]at aH;have:=F0.kB _ _ aH;omega
open Go Go.Proofs
def aoZ(k:Nat):liesAt Tryz.prog Tryz.prog.depth 240 ((k+1)*2/Tryz.prog.cellsOf 240) 0 240 1=true:=by
 have aa:Tryz.prog.cellsOf 240=2:=by kernel_rfl
 have ah:Tryz.prog.depth=(Tryz.prog.depth-1)+1:=by kernel_rfl
 have j9:sameLayout Tryz.prog Tryz.prog.depth 240 240=true:=by kernel_rfl
 have al:rowAt Tryz.prog (sameLayout Tryz.prog Tryz.prog.depth · 240) Tryz.prog.depth 240 (k+1) 0 1=true:=by
  generalize ar:(sameLayout Tryz.prog Tryz.prog.depth · 240)=f;have sg:f 240=true:=by rw[<-ar];exact j9
  rw[ah];unfold rowAt;simp only[aa,sg];simp
 rw[aa,Nat.mul_div_cancel _ (by decide:0<2)];rw[ah];unfold liesAt;rw[al];rfl
def ao0(bi post:List aF)(b:Nat)(v:Value)(k:Nat)(au:List Value)(al:au.length=2*k) :
  Spec Tryz.prog 191 [ptr b] I (bi++⟨b,.cells (.pointer none::v::au).toArray 240 (0,0)⟩::post) λr I' M'=>r=.tuple #[]/\I'=I/\M'=bi++⟨b,.cells (bQ (.pointer none::v::au) 0 [ptr b]).toArray 240 (0,0)⟩::post:=by
 obtain⟨inf,z,hi,gL,_⟩:=(aV 240 _ rfl).inf;refine bY [] aV Tryz.func191 rfl rfl rfl ?_;intro B ay;have hm:∀ {o:Obj},(⟨b,o⟩:aF)∈bi++⟨b,o⟩::post:=fun {o}=>dV.2 (.inr (.head _));have cI:(Value.pointer none::v::au).toArray.size=(k+1)*2:=by simp[al];omega
 have aE:liesAt Tryz.prog Tryz.prog.depth 240 ((Value.pointer none::v::au).toArray.size/Tryz.prog.cellsOf 240) 0 240 1=true:=by rw[cI];exact aoZ k
 refine aw.mk [.pointer none] (dt (cs:=.pointer none::v::au) (k:=0) (n:=1) (T:=240) hm (by simp)) ?_;refine .other (bE.KK aV rfl (by simp) rfl rfl rfl rfl ?_);refine aM.mk (λ_=>?_) (λh=>by cases h);refine bE.conv rfl (by simp) rfl (λw hw=>Lib.run_to_unsafe (t:=240) (e:=240) w ⟨b,0,none⟩ (by kernel_rfl) (by kernel_rfl) (j:=inf) (cells:=(Value.pointer none::v::au).toArray.size) hi (by rw[gL];decide) (KN hw hm) (by rw[cI];show 0<_;omega)) ?_;refine a9.mk (bi++⟨b,.cells (.pointer none::v::au).toArray 240 (0,0)⟩::post) [] _ (by simp) (Pt _) ?_;rintro v I' M' -⟨rfl,rfl,rfl⟩;refine bE.conv rfl (by simp) rfl (λw hw=>Lib.run_from_unsafe (u:=240) (e:=240) w ⟨b,0,none⟩ (by kernel_rfl) (by kernel_rfl) (j:=inf) (cells:=(Value.pointer none::v::au).toArray.size) hi (KN hw (dV.2 (.inl hm))) aE) ?_;refine cc.mk bi post _ _ (eo _) rfl (by rw[cI];show 0+0+1<=(k+1)*2;omega) rfl ?_;exact⟨_,_,.refl,rfl,rfl,rfl⟩
def ao1{T:Nat}(a2:(⟨b,.cells arr T (0,0)⟩:aF)∈M)(ay:arr[0]?=some (ptr b)) :
  Spec Tryz.prog 191 [ptr b] I M λr I' M'=>r=.tuple #[]/\I'=I/\M'=M:=by
 refine bY [] aV Tryz.func191 rfl rfl rfl ?_;intro B j4;have al:cx I M ((⟨b,0,none⟩:Addr).add 0) 1 [ptr b]:=by
  obtain⟨l⟩:=arr;cases l with
  |nil=>simp at ay| cons x l=>simp only[BU,List.getElem?_cons_zero,hq]at ay;subst ay;exact dt (cs:=ptr b::l) (k:=0) (n:=1) a2 (by simp)
 refine aw.mk [ptr b] al ?_;refine .other (bE.KK aV rfl (by simp) rfl rfl rfl rfl ?_);refine aM.mk (λh=>by cases h) (λ_=>?_);refine aw.mk [ptr b] al ?_;refine .other (bE.WJ aV rfl (by simp) rfl rfl rfl rfl rfl ?_);refine aM.mk (λh=>by cases h) (λ_=>?_);exact⟨_,_,.refl,rfl,rfl,rfl⟩
def ao2{m:bB}{id off:Nat}{cs:bn ap}{T ga:Nat}{a:Loc}{bi post:List aF}(hm:dE Y D m I M)(aB:m.t.get id=some (.cells cs T ga))(aH:D id=some a)(aD:a.o=0)(bL:M=bi++⟨a.b,.cells arr T (0,0)⟩::post)(cI:a.o+ga<=arr.size)(aJ:∀ i v,i<ga->cs.get i=some v->∃ x,arr[a.o+i]?=some x/\a1 D v x)(ae:∀ i,Y.E T=some i->arr.size=a.o+a.c*i.size)(k2:a.c<=maxLen)
  {l:List ap} {vs:List Value} (aE:b0 D l vs) {K:bB->Option R} {r:R} (h:zV m (.p id off) l K=some r) :
  ∃ m',K m'=some r/\m'.n=m.n/\off+vs.length<=arr.size/\dE Y D m' I (bi++⟨a.b,.cells (bQ arr.toList off vs).toArray T (0,0)⟩::post):=by
 unfold zV at h;simp only[aB]at h;cases ag:(Nat.ble (Nat.add off l.length) ga&&l.all ap.one)with
 |false=>rw[ag]at h;cases h
 |true=>
  rw[ag]at h;simp only[a4]at h;rw[ct]at ag;have o5:off+l.length<=ga:=bP ag.1;obtain⟨cs',U,aa⟩:=bn.zX l cs off;rw[U]at h;obtain⟨fw,af,aN⟩:=bn.pY (some (gn.cells cs' T ga)) m.t id;rw[af]at h;have cg:=aE.len;have hz:off+vs.length<=arr.size:=by omega
  refine⟨_,h,rfl,hz,?_⟩;have hy:∀ x∈M,x.num≠a.b->x∈bi++⟨a.b,.cells (bQ arr.toList off vs).toArray T (0,0)⟩::post:=λx ab az=>by
   rw[bL]at ab;rcases dV.1 ab with ab | ab;·exact dV.2 (.inl ab)
   ·rcases eu.1 ab with rfl | ab
    ·exact(az rfl).elim
    ·exact dV.2 (.inr (pc _ ab))
  refine hm.step (λi e hi=>(aN i e hi).imp (λq=>⟨q.1,pZ q.2⟩) λq=>q) aH (bS.le_refl D) (λ_ _=>rfl) hm.kB (λ_ _ h=>h) (λi e cf bM hi rP x ab az=>hy x ab ?_) ?_ ?_;·rw[az];exact λag=>bM (hm.inj _ _ _ _ _ _ hi aB rP aH ag)
  ·have Bq:(bQ arr.toList off vs).length=arr.size:=by rw[SW (by simpa using hz)];simp
   refine .cells (bQ arr.toList off vs).toArray aD (by simp) (by simp[Bq];exact cI) (λi v hi I9=>?_) (λi hi=>by simp[Bq];exact ae i hi) k2;rw[aD,dp];simp only[BU];rw[aby (by simpa using hz)];rcases aa i v I9 with⟨a3,a6⟩ | ⟨a3,a6⟩;·have a0:=(kG.1 a6).1;rw[cF ⟨a3,by omega⟩];exact aE.get a6
   ·rw[b8 (by omega)];have:=aJ i v hi a6;rw[aD,dp]at this;simpa using this
  ·intro i e cf bM hi rP ag;exact bM (hm.inj _ _ _ _ _ _ hi aB rP aH ag)
noncomputable def TB(m:bB)(vs:List ap):Option (ap×bB):=match vs with
 |[.p id 0]=>(match m.t.get id with
  |some (.cells cs T ga)=>cw (Nat.beq T 240&&Nat.ble 2 ga) (match cs.get 0 with
   |some .pn=>zV m (.p id 0) [.p id 0] λm=>some (.t [],m)
   |some (.p ju 0)=>cw (Nat.beq id ju) (some (.t [],m)) none| _=>none) none
  |_=>none)
 |_=>none
def ao3(uM:Y.P=Tryz.prog)(ao4:Y.E=lv){m m':bB}{vs:List ap}{v:ap}(h:TB m vs=some (v,m'))(hu:b0 D vs us)(hm:dE Y D m I M) :
  Spec Y.P 191 us I M λr I' M'=>∃ bH,D.ext bH m.n/\a1 bH v r/\dE Y bH m' I' M':=by
 unfold TB at h;split at h
 ·rename_i id;obtain⟨x,xs,ab,az,rfl⟩:=hu.lk;obtain rfl:=az.oD;obtain⟨a,aH,rfl⟩:=ab.ptr;split at h
  ·rename_i cs T ga aB;obtain⟨U,aL⟩:=hG h;clear h;rw[ct]at U;obtain⟨bO,o5⟩:=U;obtain rfl:=cj bO;have o5:=bP o5;obtain⟨arr,aD,a2,aE,aJ,ae,k2⟩:=hm.jH _ _ _ aB aH;have cI:=ae _ (by rw[ao4];rfl);have cI:arr.size=a.c*2:=by rw[cI,aD,dp]
   have aK:Value.pointer (some ⟨a.b,a.o+0,none⟩)=ptr a.b:=by rw[aD];rfl
   split at aL
   ·rename_i El;obtain⟨xn,gx,TC⟩:=aJ 0 _ (by omega) El;obtain⟨bi,post,bL⟩:=wI a2;obtain⟨dI,aa,af,aN,bq⟩:=ao2 hm aB aH aD bL aE aJ ae k2 (l:=[.p id 0]) (vs:=[ptr a.b]) (by simp only[b0,a1];exact⟨_,_,⟨a,aH,aK.symm⟩,rfl,rfl⟩) aL;cases aa;rw[aK,uM,bL];obtain⟨l⟩:=arr;have ao5:xn=.pointer none:=by simpa only[a1]using TC
    rw[aD]at gx
    match l,gx,cI with
    |[],gx,_=>simp at gx| [_],_,cI=>simp at cI;omega
    |y::w::au,gx,cI=>
     have aT:y=.pointer none:=by simpa[ao5]using gx
     subst aT;have hA:au.length=2*(a.c-1):=by simp at cI;omega
     refine Spec.p2 (ao0 bi post a.b w (a.c-1) au hA) ?_;rintro r I' M'⟨rfl,rfl,rfl⟩;exact⟨D,bS.p1,by simp only[a1,b0];exact⟨[],rfl,rfl⟩,bq⟩
   ·rename_i ju El;obtain⟨aa,nP⟩:=hG aL;obtain rfl:=cj aa;cases nP;obtain⟨xn,gx,TC⟩:=aJ 0 _ (by omega) El;obtain⟨cf,Dt,rfl⟩:=TC.ptr;rw[aH]at Dt;cases Dt;rw[aK]at gx |-;rw[uM];refine Spec.p2 (ao1 a2 (by rw[<-gx,aD])) ?_;rintro r I' M'⟨rfl,rfl,rfl⟩;exact⟨D,bS.p1,by simp only[a1,b0];exact⟨[],rfl,rfl⟩,hm⟩
   ·cases aL
  ·cases h
 ·cases h
def oB(I:a5):List aF->a5
 |[]=>I| x::l=>ins (oB I l) x.num x.obj
def Nq{I:a5}:∀ {M:List aF} {b:Nat} {o:Obj},oB I M b=some o->I b=some o\/∃ x∈M,x.num=b/\x.obj=o
 |[],b,o,h=>.inl h
 |x::l,b,o,h=>by
  unfold oB ins at h;by_cases e:b=x.num;·subst e;simp only[r2,a4,hq]at h;exact .inr ⟨x,by simp,rfl,h⟩
  ·simp only[hW e,aQ]at h;rcases Nq h with h | ⟨y,U,aa,af⟩
   ·exact .inl h
   ·exact .inr ⟨y,by simp[U],aa,af⟩
def acH{I:a5}:∀ {M:List aF} (az:(M.map (·.num)).Nodup) {x:aF},x∈M->oB I M x.num=some x.obj
 |y::l,az,x,h=>by
  simp only[dQ,mN]at az;rcases eu.1 h with rfl | h;·unfold oB ins;simp only[r2,a4]
  ·have e:x.num≠y.num:=λe=>az.1 (eh.2 ⟨x,h,e⟩);unfold oB ins;simp only[hW e,aQ];exact acH az.2 h
def TD{I:a5}:∀ {M:List aF} (ah:∀ x∈M,I x.num=none) {b:Nat} {o:Obj},I b=some o->oB I M b=some o
 |[],ah,b,o,h=>h
 |y::l,ah,b,o,h=>by
  have e:b≠y.num:=λe=>by have:=ah y (by simp);rw[<-e,h]at this;cases this
  unfold oB ins;simp only[hW e,aQ];exact TD (λx ab=>ah x (by simp[ab])) h
def ao6(az:(M.map (·.num)).Nodup)(ah:∀ x∈M,I x.num=none){o:Obj}(h:iX I M b o):oB I M b=some o:=by
 rcases h with h | ⟨x,U,rfl,rfl⟩
 ·exact TD ah h
 ·exact acH az U
structure Nr(I:a5)(M:List aF)(J:a5):Prop where
 kn:∀ b o,iX I M b o->J b=some o
 inv:∀ b o,J b=some o->iX I M b o
def acI(U:e1 I' M' w')(aa:Kept I [] w I' M' w'):Nr I' M' (oB I' M')/\e1 (oB I' M') [] w'/\Kept I [] w (oB I' M') [] w':=by
 refine⟨⟨λb o h=>ao6 U.aG U.d h,λb o h=>?_⟩,⟨λb o h=>?_,by simp,by simp,by simp⟩,⟨λb o h=>TD U.d (aa.le _ _ h),λb o h=>?_,by simp,aa.dS,aa.out,aa.sz⟩⟩
 ·rcases Nq h with h | ⟨x,a3,a6,bN⟩
  ·exact .inl h
  ·exact .inr ⟨x,a3,a6,bN⟩
 ·rcases Nq h with h | ⟨x,a3,rfl,rfl⟩
  ·exact U.i _ _ h
  ·exact U.m _ a3
 ·rcases Nq h with h | ⟨x,a3,rfl,rfl⟩
  ·exact aa.vv _ _ h
  ·rcases aa.w3 _ a3 with⟨y,aT,_⟩ | h
   ·cases aT
   ·exact .inr h
def Spec.oB{args:List Value}{Q:Value->a5->List aF->Prop}(h:Spec P f args I [] Q):Spec P f args I [] λr J oP=>oP=[]/\(∀ b o,I b=some o->J b=some o)/\∃ I' M',Q r I' M'/\Nr I' M' J:=by
 rcases h with⟨U,aa⟩ | h
 ·refine .inl ⟨U,λw hw=>?_⟩;refine(aa w hw).mono ?_;rintro e w'⟨v,I',M',aC,aA,bx,cU⟩;obtain⟨a3,a6,bN⟩:=acI bx cU;exact⟨v,_,[],aC,⟨rfl,bN.le,I',M',aA,a3⟩,a6,bN⟩
 ·refine .inr λw hw=>?_;obtain⟨v,w',I',M',aC,aA,bx,cU⟩:=h w hw;obtain⟨a3,a6,bN⟩:=acI bx cU;exact⟨v,w',_,[],aC,⟨rfl,bN.le,I',M',aA,a3⟩,a6,bN⟩
noncomputable def DH{α:Type}(l:List α):bn α:=bn.zS l .nil 0 id
def acJ{l:List α}{i:Nat}{v:α}(h:(DH l).get i=some v):l[i]?=some v:=by
 obtain⟨t,U,aa⟩:=bn.zX l (.nil:bn α) 0;unfold DH at h;rw[U]at h;rcases aa _ _ h with⟨_,h⟩ | ⟨_,h⟩
 ·simpa using h
 ·cases h
noncomputable def TE:GT:=λg=>cw (Nat.beq g 0) (some (DH (oS.map (ap.i .i64)))) (cw (Nat.beq g 1) (some (DH (vU.map ap.s))) (cw (Nat.beq g 3) (some (DH [.i .i64 0,.i .i64 1,.s [63],.i .i64 0,.i .i64 (-1),.s [42],.i .i64 1,.i .i64 (-1),.s [43]])) (cw (Nat.beq g 5) (some (DH (iN.map (ap.i .u8)))) none)))
def TF{f:α->ap}{h:α->Value}(ar:∀ x D,a1 D (f x) (h x)){l:List α}{i:Nat}{v:ap}(aj:(DH (l.map f)).get i=some v):∃ x,(l.map h).toArray[i]?=some x/\∀ D,a1 D v x:=by
 have:=acJ aj;rw[yL]at this;cases ab:l[i]? with
 |none=>rw[ab]at this;cases this| some x=>rw[ab]at this;simp only[mc,hq]at this;subst this;exact⟨h x,by simp[ab],ar x⟩
def acK(bO:gu I iN):I3 TE I:=by
 intro g cs h;unfold TE at h;rw[k4,k4,k4,k4]at h;cases U:Nat.beq g 0 with
 |true=>rw[U,a4]at h;obtain rfl:=cj U;have h:=ld h;subst h;obtain⟨T,f,h⟩:=bO.c;exact⟨_,T,f,h,λi v aj=>TF (f:=ap.i .i64) (h:=Value.int .i64) (λx D=>by simp only[a1]) aj⟩
 |false=>
 rw[U,aQ]at h;cases aa:Nat.beq g 1 with
 |true=>rw[aa,a4]at h;obtain rfl:=cj aa;have h:=ld h;subst h;obtain⟨T,f,h⟩:=bO.s;exact⟨_,T,f,h,λi v aj=>TF (f:=ap.s) (h:=λl=>Value.string (strOf l)) (λx D=>by simp only[a1,strOf]) aj⟩
 |false=>
 rw[aa,aQ]at h;cases af:Nat.beq g 3 with
 |true=>
  rw[af,a4]at h;obtain rfl:=cj af;have h:=ld h;subst h;obtain⟨T,f,h⟩:=bO.p;refine⟨_,T,f,h,λi v aj=>?_⟩;have aj:=acJ aj;rcases i with _ | _ | _ | _ | _ | _ | _ | _ | _ | i
  all_goals first | (cases aj;exact⟨_,rfl,λD=>by simp only[a1]<;>rfl⟩) | (simp at aj)
 |false=>
 rw[af,aQ]at h;cases aN:Nat.beq g 5 with
 |true=>rw[aN,a4]at h;obtain rfl:=cj aN;have h:=ld h;subst h;obtain⟨_,_,T,f,h⟩:=bO.d;exact⟨_,T,f,h,λi v aj=>TF (f:=ap.i .u8) (h:=Value.int .u8) (λx D=>by simp only[a1]) aj⟩
 |false=>
 rw[aN,aQ]at h;cases h
noncomputable def Ns:List UInt8->Nat->Nat->Int
 |[],_,_=>-1| b::l,c,k=>cw (Nat.beq b.toNat c) (Int.ofNat k) (Ns l c (Nat.succ k))
def acL(c:UInt8):∀ (l:List UInt8) (k:Nat),Ns l c.toNat k=if Lib.indexByte l c=-1 then -1 else Lib.indexByte l c+k
 |[],k=>rfl
 |b::l,k=>by
  have cE:=Lib.indexByte_ge l c;unfold Ns Lib.indexByte;rw[k4];by_cases h:b=c;·subst h;simp
  ·have U:Nat.beq b.toNat c.toNat=false:=by
    cases ag:Nat.beq b.toNat c.toNat with
    |false=>rfl| true=>exact absurd (UInt8.toNat_inj.1 (cj ag)) h
   have aa:(b == c)=false:=by simpa using h
   rw[U,aQ,aa,acL c l];simp only[lN,mO];by_cases af:Lib.indexByte l c=-1;·simp[af]
   ·have aN:(Lib.indexByte l c == -1)=false:=by simpa using af
    rw[aN,b8 af];simp only[lN,mO];rw[b8 (by omega)];omega
def Nt:ys Tryz.prog:=aor (by kernel_rfl)
def Nu:Tryz.prog.follows .mixedOrders=true:=by kernel_rfl
noncomputable def acM:hF:=⟨Tryz.prog,lv,λ_=>none,λ_ _ _=>none⟩
noncomputable def acN:List wU:=[.map [(.i .u8 123,.f 249 [] []),(.i .u8 34,.f 250 [] []),(.i .u8 91,.f 251 [] []),(.i .u8 46,.f 252 [] []),(.i .u8 47,.f 274 [] [.p 1 0]),(.i .u8 38,.f 274 [] [.p 2 0]),(.i .u8 33,.f 274 [] [.p 3 0]),(.i .u8 63,.f 274 [] [.p 4 0]),(.i .u8 42,.f 274 [] [.p 5 0]),(.i .u8 43,.f 274 [] [.p 6 0]),(.i .u8 40,.f 274 [] [.p 7 0]),(.i .u8 41,.f 274 [] [.p 8 0]),(.i .u8 60,.f 254 [] []),(.i .u8 62,.f 274 [] [.p 10 0]),(.i .u8 58,.f 274 [] [.p 11 0]),(.i .u8 65,.f 255 [] []),(.i .u8 66,.f 255 [] []),(.i .u8 67,.f 255 [] []),(.i .u8 68,.f 255 [] []),(.i .u8 69,.f 255 [] []),(.i .u8 70,.f 255 [] []),(.i .u8 71,.f 255 [] []),(.i .u8 72,.f 255 [] []),(.i .u8 73,.f 255 [] []),(.i .u8 74,.f 255 [] []),(.i .u8 75,.f 255 [] []),(.i .u8 76,.f 255 [] []),(.i .u8 77,.f 255 [] []),(.i .u8 78,.f 255 [] []),(.i .u8 79,.f 255 [] []),(.i .u8 80,.f 255 [] []),(.i .u8 81,.f 255 [] []),(.i .u8 82,.f 255 [] []),(.i .u8 83,.f 255 [] []),(.i .u8 84,.f 255 [] []),(.i .u8 85,.f 255 [] []),(.i .u8 86,.f 255 [] []),(.i .u8 87,.f 255 [] []),(.i .u8 88,.f 255 [] []),(.i .u8 89,.f 255 [] []),(.i .u8 90,.f 255 [] []),(.i .u8 95,.f 255 [] []),(.i .u8 97,.f 255 [] []),(.i .u8 98,.f 255 [] []),(.i .u8 99,.f 255 [] []),(.i .u8 100,.f 255 [] []),(.i .u8 101,.f 255 [] []),(.i .u8 102,.f 255 [] []),(.i .u8 103,.f 255 [] []),(.i .u8 104,.f 255 [] []),(.i .u8 105,.f 255 [] []),(.i .u8 106,.f 255 [] []),(.i .u8 107,.f 255 [] []),(.i .u8 108,.f 255 [] []),(.i .u8 109,.f 255 [] []),(.i .u8 110,.f 255 [] []),(.i .u8 111,.f 255 [] []),(.i .u8 112,.f 255 [] []),(.i .u8 113,.f 255 [] []),(.i .u8 114,.f 255 [] []),(.i .u8 115,.f 255 [] []),(.i .u8 116,.f 255 [] []),(.i .u8 117,.f 255 [] []),(.i .u8 118,.f 255 [] []),(.i .u8 119,.f 255 [] []),(.i .u8 120,.f 255 [] []),(.i .u8 121,.f 255 [] []),(.i .u8 122,.f 255 [] [])],.cells [.i .u8 3] 5,.cells [.i .u8 4] 5,.cells [.i .u8 5] 5,.cells [.i .u8 6] 5,.cells [.i .u8 7] 5,.cells [.i .u8 8] 5,.cells [.i .u8 9] 5,.cells [.i .u8 10] 5,.cells [.i .u8 11] 5,.cells [.i .u8 12] 5,.cells [.i .u8 13] 5]
def ao7:(cv (yk acM (lJ acM 100000) 237 [] ⟨.nil,0⟩) none λp=>cv (readAll p.2.t 0 p.2.n) none λL=>some (p.1,L))=some (ap.m 0,acN):=by kernel_rfl
noncomputable def TG:mG:=λg vs m=>cw (Nat.beq g 291) (match vs with
 |[.s l,.i .u8 (.ofNat k)]=>cw (Nat.blt k 256) (some (.i .i64 (Ns l k 0),m)) none| _=>none) (cw (Nat.beq g 224) (match vs with
 |[v]=>some (v,m)| _=>none) (cw (Nat.beq g 237) (match vs with
 |[]=>Ty (.m 0) acN m| _=>none) (cw (Nat.beq g 191) (TB m vs) none)))
noncomputable def qO:hF:=⟨Tryz.prog,lv,TE,TG⟩
def TH:z5 qO:=by
 intro g vs m v m' h D I M us hu hm;change TG g vs m=some (v,m')at h;unfold TG at h;rw[k4]at h;cases U:Nat.beq g 291 with
 |true=>
  rw[U,a4]at h;obtain rfl:=cj U;split at h
  ·rename_i l k;rw[k4]at h;cases ae:Nat.blt k 256 with
   |false=>rw[ae]at h;cases h
   |true=>
    rw[ae,a4]at h;have hZ:k<256:=Nat.blt_eq ▸ ae;cases h;simp only[b0,a1]at hu;obtain⟨x,xs,rfl,⟨y,kY,rfl,rfl,rfl⟩,rfl⟩:=hu;have LG:(UInt8.ofNat k).toNat=k:=by simp;omega
    have:=WL (I:=I) (M:=M) ⟨l.toArray⟩ (UInt8.ofNat k);rw[LG]at this;refine Spec.p2 this ?_;rintro r I' M'⟨rfl,rfl,rfl⟩;refine⟨D,bS.p1,?_,hm⟩;simp only[a1];have:=acL (UInt8.ofNat k) l 0;rw[LG]at this;rw[this];split;·rename_i e;simp[e]
    ·simp
  ·cases h
 |false=>
 rw[U,aQ,k4]at h;cases aa:Nat.beq g 224 with
 |true=>
  rw[aa,a4]at h;obtain rfl:=cj aa;split at h;·cases h;simp only[b0]at hu;obtain⟨x,xs,hu,rfl,rfl⟩:=hu;refine Spec.p2 (Pt _) ?_;rintro r I' M'⟨rfl,rfl,rfl⟩;exact⟨D,bS.p1,hu,hm⟩
  ·cases h
 |false=>
 rw[aa,aQ,k4]at h;cases af:Nat.beq g 237 with
 |true=>
  rw[af,a4]at h;obtain rfl:=cj af;split at h;·obtain⟨⟨yt,lC⟩,aN,bq⟩:=df ao7;obtain⟨L,bp,ec⟩:=df bq;cases ec;exact aoX (Y:=qO) aV Nt Nu aN bp (λD us h=>by simpa only[b0]using h) h hu hm
  ·cases h
 |false=>
 rw[af,aQ,k4]at h;cases aN:Nat.beq g 191 with
 |true=>rw[aN,a4]at h;obtain rfl:=cj aN;exact ao3 rfl rfl h hu hm
 |false=>
 rw[aN,aQ]at h;cases h
def ao8(bO:gu I iN){m':bB}{v:ap}(h:yk qO (lJ qO f) g args ⟨.nil,0⟩=some (v,m'))(hu:b0 (λ_=>none) args us) :
  Spec Tryz.prog g us I [] λr J oP=>oP=[]/\(∀ b o,I b=some o->J b=some o)/\∃ I' M' bH,a1 bH v r/\dE qO bH m' I' M'/\Nr I' M' J:=by
 have hm:dE qO (λ_=>none) ⟨.nil,0⟩ I []:=⟨λid e a h bg=>(by cases bg),λid ju e a' a cf h U bg=>(by cases bg),λid a h=>(by cases h),acK bO⟩;refine Spec.p2 (reckon (Y:=qO) aV Nt TH Nu h hu hm).oB ?_;rintro r J oP⟨rfl,U,I',M',⟨bH,-,aa,af⟩,aN⟩;exact⟨rfl,U,I',M',bH,aa,af,aN⟩
section
end
structure ao9(d:bh)(n:Int):Prop where
 z:d.k=0->d.t=⟨#[]⟩
 leaf:d.k<=3->n=0
 one:6<=d.k->n=1
 two:d.k=4\/d.k=5->2<=n
def Nv{d:bh}{n:Int}(ay:0<=d.k)(h:fits d n=true):ao9 d n:=by
 have ax:=(Hq h).k;have ae:d.k=0\/d.k=1\/d.k=2\/d.k=3\/d.k=4\/d.k=5\/d.k=6\/d.k=7\/d.k=8\/d.k=9:=by omega
 have ft:∀ j:Fin 10,sh j.val=oS.getD (j.val*2) 0/\mY j.val=oS.getD (j.val*2+1) 0:=by decide
 unfold fits at h;rcases ae with e | e | e | e | e | e | e | e | e | e<;>rw[e]at h<;>simp[sh,mY,oS]at h <;>
  refine⟨λq=>?_,λq=>?_,λq=>?_,λq=>?_⟩<;>first | (omega;done) | (exact h.2.2.1;done) | (exact h.2.1;done) | (simp_all;done)
def acO(nm:ByteArray):∀ (ds:List bD) (i:Nat),zy nm ds i=bif decide (ee nm ds i<0)then none else some (ee nm ds i)
 |[],i=>rfl
 |d::ds,i=>by
  unfold zy ee;rw[show decide (nm=d.name)=decide (d.name=nm) by rw[nZ];simp[eq_comm]];cases decide (d.name=nm)with
  |true=>rw[a4,a4,bG (by omega)];rfl| false=>rw[aQ,aQ];exact acO nm ds (i+1)
def apa(nm:ByteArray)(ds:List bD):eL nm (bJ ds)=bif decide (ee nm ds 0<0)then none else some (ee nm ds 0):=by rw[QL,acO]
section
end
def Bz(t:eH):Prop:=∀ n∈t.ns,n.kn<=3000000000000
def apb{t:ByteArray}(h:0<t.size):Mw t=⟨IJ t[0],false⟩:=by
 unfold Mw;have ay:0<t.data.toList.length:=by rw[Av];exact h
 have e:t.data.toList.take 1=[t[0]]:=by rw[iT ay,oM,nz,Array.getElem_toList];rfl
 rw[e];simp[aao,cJ.zero_or]
def Nw{ds:List bD}(h:(eL nm (bJ ds)).isSome=true):∃ q:Nat,ee nm ds 0=q/\q<ds.length/\((eL nm (bJ ds)).getD 0).toNat=q:=by
 have q2:=apa nm ds;cases ah:decide (ee nm ds 0<0)with
 |true=>rw[ah,a4]at q2;rw[q2]at h;cases h| false=>rw[ah,aQ]at q2;have aN:¬ ee nm ds 0<0:=cu ah;obtain⟨q,aL⟩:=lX (by omega:0<=ee nm ds 0);have acP:=q2;rw[QL]at acP;obtain⟨j,kt,mo⟩:=QM acP;refine⟨q,aL,by omega,?_⟩;rw[q2,aL];rfl
structure tZ(s:ByteArray)(x:a8×cD)(a:Nat)(c:bo):Prop where
 z:c.ao=3->c.av=a->x.1.z=true/\x.2.f=true
 s:c.ao=3->c.av≠a->x.1.s=true/\∃ h:a<s.data.size,x.2.w.has s.data[a].toNat=true
 f:c.ao=2->x.1.f=true
def tZ.zero{s:ByteArray}{x:a8×cD}{a:Nat}{c:bo}(h:c.ao=0):tZ s x a c:=⟨λe=>by omega,λe=>by omega,λe=>by omega⟩
def tZ.lD{x:a8×cD}{a:Nat}{c:bo}(h:tZ s x a c)(af:c.ao=3):x.1.lD=true:=by
 unfold a8.lD;by_cases e:c.av=a
 ·rw[(h.z af e).1];rfl
 ·rw[(h.s af e).1,yn]
def vh(s:ByteArray)(a:Nat)(w:cJ):Prop:=∃ h:a<s.data.size,w.has s.data[a].toNat=true
def vh.acQ{a:Nat}{w:cJ}(h:vh s a w)(v:cJ):vh s a (w.or v):=by obtain⟨U,aa⟩:=h;exact⟨U,by rw[cJ.aat,aa,HO]⟩
def vh.acR{a:Nat}{w:cJ}(h:vh s a w)(v:cJ):vh s a (v.or w):=by obtain⟨U,aa⟩:=h;exact⟨U,by rw[cJ.aat,aa,yn]⟩
structure acS(s:ByteArray)(a b:Nat)(p:a8×Bool)(w:cD):Prop where
 le:a<=b
 iz:p.2=true
 z:b=a->p.1.z=true/\w.f=true
 s:b≠a->p.1.s=true/\vh s a w.w
def apc{p:a8×Bool}(h:p.1.s=true)(k:a8):(mz p k).1.s=true:=by unfold mz;simp[h]
def apd{p:a8×Bool}(h:p.1.f=true)(k:a8):(mz p k).1.f=true:=by unfold mz;simp[h]
def acT{p:a8×Bool}:∀ (ks:List a8),p.1.f=true->(ks.foldl mz p).1.f=true
 |[],h=>h| k::ks,h=>acT (p:=mz p k) ks (apd h k)
def acU{s:ByteArray}{m:Nat->Nat->bo}(aB:A1 m){a:Nat}:∀ (L:List (Nat×(a8×cD))) (b n:Nat) (p:a8×Bool) (w:cD),(∀ x∈L,∀ b,tZ s x.2 b (m x.1 b))->acS s a b p w -> ((fV m (L.map (·.1)) b n).ao=3->acS s a (fV m (L.map (·.1)) b n).av ((L.map (·.2.1)).foldl mz p) ((L.map (·.2.2)).foldl cD.seq w)) /\ ((fV m (L.map (·.1)) b n).ao=2->((L.map (·.2.1)).foldl mz p).1.f=true)
 |[],b,n,p,w,_,h=>⟨λ_=>h,λe=>(by cases e)⟩
 |x::L,b,n,p,w,c4,h=>by
  have ab:=c4 x (.head _) b;rw[dQ,dQ,dQ,fV,uj,uj];cases af:Nat.beq (m x.1 b).ao 3 with
  |true=>
   have bx:(m x.1 b).ao=3:=cj af;have cE:=aB x.1 b bx;rw[a4];refine acU aB L _ _ _ _ (λy aT=>c4 y (.tail _ aT)) ⟨iU h.le cE,?_,λe=>?_,λe=>?_⟩;·show(p.2&&x.2.1.lD)=true;rw[h.iz,ab.lD bx];rfl
   ·have ag:b=a:=by have:=h.le;omega
    obtain⟨U,aa⟩:=h.z ag;obtain⟨aN,bq⟩:=ab.z bx (by omega);refine⟨?_,?_⟩;·show(p.1.z&&x.2.1.z)=true;rw[U,aN];rfl
    ·unfold cD.seq;rw[aa,a4];exact bq
   ·by_cases ag:b=a
    ·obtain⟨U,aa⟩:=h.z ag;obtain⟨aN,bq⟩:=ab.s bx (by omega);refine⟨?_,?_⟩
     ·show(p.1.s||x.2.1.s)=true;rw[aN,yn]
     ·unfold cD.seq;rw[aa,a4];have bp:vh s b x.2.2.w:=bq;rw[ag]at bp;exact bp.acR _
    ·obtain⟨U,aa⟩:=h.s ag;refine⟨apc U _,?_⟩;unfold cD.seq;cases w.f with
     |true=>exact aa.acQ _| false=>exact aa
  |false=>
   rw[aQ];have tF:(m x.1 b).ao≠3:=λe=>by rw[e]at af;cases af
   refine⟨λe=>absurd e tF,λe=>acT _ ?_⟩;show(p.1.f||(p.2&&x.2.1.f))=true;rw[h.iz,ab.f e,q3,yn]
structure yu(s:ByteArray)(a:Nat)(c:bo)(x:a8)(w:cD):Prop where
 z:c.ao=3->c.av=a->x.z=true/\w.f=true
 s:c.ao=3->c.av≠a->x.s=true/\vh s a w.w
def yu.step{a:Nat}{c:bo}{x:a8}{w:cD}(h:yu s a c x w)(k:a8)(v:cD):yu s a c (oj x k) (w.choice v):=by
 refine⟨λaf e=>?_,λaf e=>?_⟩
 ·obtain⟨U,aa⟩:=h.z af e;exact⟨by unfold oj;simp[U],by unfold cD.choice;simp[aa]⟩
 ·obtain⟨U,aa⟩:=h.s af e;exact⟨by unfold oj;simp[U],aa.acQ _⟩
def yu.fold{s:ByteArray}{a:Nat}{c:bo}:∀ (L:List (a8×cD)) {x:a8} {w:cD},yu s a c x w->yu s a c ((L.map (·.1)).foldl oj x) ((L.map (·.2)).foldl cD.choice w)
 |[],x,w,h=>h| y::L,x,w,h=>yu.fold L (h.step y.1 y.2)
def acV{s:ByteArray}{m:Nat->Nat->bo}{a:Nat}:∀ (L:List (Nat×(a8×cD))) (x:a8) (w:cD),(∀ y∈L,tZ s y.2 a (m y.1 a))->x.f=true -> yu s a (gH m (L.map (·.1)) a) ((L.map (·.2.1)).foldl oj x) ((L.map (·.2.2)).foldl cD.choice w) /\ ((gH m (L.map (·.1)) a).ao=2->((L.map (·.2.1)).foldl oj x).f=true)
 |[],x,w,_,ar=>⟨⟨λh=>(by cases h),λh=>(by cases h)⟩,λ_=>ar⟩
 |y::L,x,w,c4,ar=>by
  have aT:=c4 y (.head _);rw[dQ,dQ,dQ,gH,uj,uj];cases aa:Nat.beq (m y.1 a).ao 2 with
  |true=>rw[a4];refine acV L _ _ (λz bk=>c4 z (.tail _ bk)) ?_;show(x.f&&y.2.1.f)=true;rw[ar,aT.f (cj aa)];rfl
  |false=>
   rw[aQ];refine⟨?_,λe=>by rw[e]at aa;cases aa⟩;have U:yu s a (m y.1 a) (oj x y.2.1) (w.choice y.2.2):=by
    refine⟨λaf e=>?_,λaf e=>?_⟩;·obtain⟨ed,dP⟩:=aT.z af e;exact⟨by unfold oj;simp[ar,ed],by unfold cD.choice;simp[dP]⟩
    ·obtain⟨ed,dP⟩:=aT.s af e;have gS:vh s a y.2.2.w:=dP;exact⟨by unfold oj;simp[ar,ed],gS.acR _⟩
   have:=yu.fold (L.map (·.2)) U;rwa [ms,ms]at this
structure ape(s:ByteArray)(a b i:Nat)(k:a8×cD):Prop where
 le:a<=b
 zero:i=0->b=a
 z:b=a->i≠0->k.1.z=true/\k.2.f=true
 s:b≠a->k.1.s=true/\vh s a k.2.w
def acW{s:ByteArray}{m:Nat->Nat->bo}(aB:A1 m){a q:Nat}{k:a8×cD}(ae:∀ b,tZ s k b (m q b)){d:bh}(dg:d.k=6->0<=d.lo)(bp:d.k=6)(ay:d.hi≠0):∀ (j i b n:Nat),ape s a b i k->(d.hi≠-1->i+j≠0) -> tZ s (o0 d k.1,yc d k.2) a (e0 m q d.lo d.hi j i b n)
 |0,i,b,n,h,an=>by
  rw[e0];cases he:decide (d.hi=-1)with
  |true=>exact .zero rfl
  |false=>
   rw[aQ];have TI:i≠0:=by have:=an (cu he);omega
   refine⟨λ_ e=>?_,λ_ e=>?_,λe=>(by cases e)⟩;·obtain⟨U,aa⟩:=h.z e TI;exact⟨by unfold o0;simp[ay,U],by unfold yc;simp[ay,aa]⟩
   ·obtain⟨U,aa⟩:=h.s e;exact⟨by unfold o0;simp[ay,U],by unfold yc;simp only[ay,Mz,aQ];exact aa⟩
 |j+1,i,b,n,h,an=>by
  have ag:=ae b;rw[e0];cases aa:Nat.beq (m q b).ao 2 with
  |true=>
   have ar:=ag.f (cj aa);rw[a4];cases aE:decide ((i:Int)<d.lo)with
   |true=>
    have:(0:Int)<d.lo:=by have:=cm aE;omega
    refine⟨λe=>(by cases e),λe=>(by cases e),λ_=>by unfold o0;simp[ay,ar,this]⟩
   |false=>
    have mu:=cu aE;refine⟨λ_ e=>?_,λ_ e=>?_,λe=>(by cases e)⟩
    ·by_cases TI:i=0
     ·have bk:d.lo=0:=by have:=dg bp;omega
      exact⟨by unfold o0;simp[ay,bk,ar],by unfold yc;simp[ay,bk]⟩
     ·obtain⟨U,af⟩:=h.z e TI;exact⟨by unfold o0;simp[ay,U],by unfold yc;simp[ay,af]⟩
    ·obtain⟨U,af⟩:=h.s e;exact⟨by unfold o0;simp[ay,U],by unfold yc;simp only[ay,Mz,aQ];exact af⟩
  |false=>
   rw[aQ];cases af:Nat.beq (m q b).ao 3 with
   |false=>exact .zero rfl
   |true=>
    have bx:=cj af;rw[a4];cases he:decide (d.hi=-1)&&decide ((m q b).av=b)with
    |true=>exact .zero rfl
    |false=>
     rw[aQ];have cE:=aB q b bx;refine acW aB ae dg bp ay j (i+1) _ _ ⟨iU h.le cE,λe=>by omega,λe _=>?_,λe=>?_⟩ (λ_=>by omega)
     ·have Da:b=a:=by have:=h.le;omega
      exact ag.z bx (by omega)
     ·by_cases Da:b=a
      ·obtain⟨ed,dP⟩:=ag.s bx (by omega);have gS:vh s b k.2.w:=dP;rw[Da]at gS;exact⟨ed,gS⟩
      ·exact h.s Da
def apf{d:bh}{n:Int}(h:fits d n=true)(aa:d.k=2):0<d.t.size:=by
 unfold fits at h;rw[aa]at h;simp only[show decide ((10:Int)<=2)=false from rfl,aQ,show decide ((2:Int)=1)=false from rfl,show decide ((2:Int)=2)=true from rfl,a4]at h;cases U:(decide (n<sh (2:Int).toNat)||(decide (0<=mY (2:Int).toNat)&&decide (mY (2:Int).toNat<n)))with
 |true=>rw[U]at h;cases h
 |false=>
  rw[U,aQ]at h;have af:decide (d.t=⟨#[]⟩)=false:=by
   cases aN:decide (d.t=⟨#[]⟩)with
   |false=>rfl| true=>rw[aN]at h;simp at h
  have bq:=cu af;rcases Nat.eq_zero_or_pos d.t.size with bp | bp
  ·exact absurd (by
    have ec:∀ u:ByteArray,u.size=0->u=⟨#[]⟩:=λu hu=>by obtain⟨⟨l⟩⟩:=u;have:l.length=0:=hu;rw[nx this]
    exact ec _ bp) bq
  ·exact bp
def Nx{x:Int}(h:hh x)(i:Nat)(hi:i<64):(BitVec.ofInt 64 x).getLsbD i=x.toNat.testBit i:=by obtain⟨w,rfl⟩:=amj h;rw[IF,qS];rfl
def apg{d:bh}(ay:hh d.e2)(U:hh d.s1)(aa:hh d.s2)(af:hh d.eK)(az:n<256):d.ws.has n=jS d n:=by
 unfold cJ.has jS;have hm:n%64<64:=Ez _ (by decide);have aL:n/64=0\/n/64=1\/n/64=2\/n/64=3:=by omega
 rcases aL with e | e | e | e<;>rw[e]
 ·exact Nx ay _ hm
 ·exact Nx U _ hm
 ·exact Nx aa _ hm
 ·exact Nx af _ hm
def aph{d:bh}(h:jS d b=true):d.oT=false:=by
 cases bk:d.oT with
 |false=>rfl
 |true=>
  exfalso;unfold bh.oT at bk;simp only[ct,beq_iff_eq]at bk;obtain⟨api,oZ,v',C6⟩:=bk;unfold jS at h;rw[api,oZ,v',C6]at h;have:∀ j,([(0:Int),0,0,0].getD j 0).toNat=0:=λj=>by
   match j with
   |0=>rfl| 1=>rfl| 2=>rfl| 3=>rfl| j+4=>rfl
  rw[this]at h;simp at h
def apj{g:cA}(aB:g.ok I)(hm:ie g)(eb:∀ d∈g.ds,tH (bJ g.ds) d.t.ns=true)(cB:rs g.ds F)(hd:IK g.ds F W) :
  ∀ (n i j:Nat) (hi:i<g.ds.length) (an:j<g.ds[i].t.ns.length) (a:Nat),tZ s (tT (bJ g.ds) F W g.ds[i].t.ns j) a (fa (cd g s) n (fZ g i j) a):=by
 intro n
 induction n with
 |zero=>intro i j hi an a;exact .zero rfl
 |succ n be=>
  intro i j hi an a;have eI:=dr hi;have ba:=hm.r _ eI;have ah:=((aB.ds _ eI).t.ns _ (dr an));have ar:=ba.fits j an;have F1:=Nv ah.k.1 ar;have jJ:=Hq ar;have hl:=aah s hi an;have qp:=ba.aS j an;rw[amu (E0.2 ba) an];show tZ s _ a (ef (cd g s) (fa (cd g s) n) (fZ g i j) a);have cE:=E4 (cd g s) n;have gp:=hI.1 (eb _ eI) _ (dr an);have yv:∀ k∈g.ds[i].t.ns[j].aS,∃ q:Nat,k=q/\q<g.ds[i].t.ns.length:=λk ae=>by have:=qp k ae;exact⟨k.toNat,by omega,by omega⟩
  have iM:(cd g s).s=s:=rfl;have apk:=λq aL b=>be i q hi aL b;have TJ:=apf ar;generalize dH:g.ds[i].t.ns[j]=y at *;have ae:∀ {x:Int},y.k=x->((cd g s).ai (fZ g i j)).d.k=x:=λe=>by rw[hl];exact e
  have has:y.k≠3->((cd g s).ai (fZ g i j)).bd=y.aS.map λk=>fZ g i k.toNat:=λe=>by rw[hl];show jf _ _ _=_;rw[jf,bG e,aQ];rfl
  let L:List (Nat×(a8×cD)):=y.aS.map λk=>(fZ g i k.toNat,tT (bJ g.ds) F W g.ds[i].t.ns k)
  have TK:L.map (·.1)=y.aS.map λk=>fZ g i k.toNat:=by simp only[L,ms];rfl
  have vg:L.map (·.2.1)=(y.aS.map (tT (bJ g.ds) F W g.ds[i].t.ns)).map (·.1):=by simp only[L,ms];rfl
  have apl:L.map (·.2.2)=(y.aS.map (tT (bJ g.ds) F W g.ds[i].t.ns)).map (·.2):=by simp only[L,ms];rfl
  have Ny:∀ x∈L,∀ b,tZ s x.2 b (fa (cd g s) n x.1 b):=λx ab b=>by obtain⟨k,F2,rfl⟩:=eh.1 ab;obtain⟨q,rfl,aL⟩:=yv k F2;exact apk q aL b
  have hM:6<=y.k->∃ x,L=[x]:=λbp=>by
   have U:=F1.one bp;have aa:L.length=1:=by simp only[L,eW];omega
   match L,aa with
   |[x],_=>exact⟨x,rfl⟩
  have DI:y.k≠3->tS (bJ g.ds) F W y (y.aS.map (tT (bJ g.ds) F W g.ds[i].t.ns))=(eO y (L.map (·.2.1)),l4 y (eO y (L.map (·.2.1))) (L.map (·.2.2))):=λe=>by unfold tS;rw[bG e,aQ,aQ,eo,eo,<-vg,<-apl]
  have acX:∀ x,L=[x]->((cd g s).ai (fZ g i j)).bd.getD 0 0=x.1\/y.k=3:=λx ab=>by
   by_cases e:y.k=3;·exact .inr e
   ·left
    rw[has e,<-TK,ab];rfl
  have h7:y.k=0\/y.k=1\/y.k=2\/y.k=3\/y.k=4\/y.k=5\/y.k=6\/y.k=7\/y.k=8\/y.k=9:=by have:=ah.k.1;have:=jJ.k;omega
  rcases h7 with e | e | e | e | e | e | e | e | e | e;·rw[DI (by omega),xU (ae e)];refine⟨λ_ _=>?_,λ_ h=>absurd rfl h,λh=>(by cases h)⟩;simp[eO,l4,e,a8.lD]
  ·rw[DI (by omega),xV (ae e),iM];have cM:∀ b,jS ((cd g s).ai (fZ g i j)).d b=jS y b:=λb=>by rw[hl];rfl
   cases ag:s.data[a]? with
   |none=>refine⟨λh=>(by cases h),λh=>(by cases h),λ_=>?_⟩;simp[eO,e]
   |some b=>
    obtain⟨a0,apm⟩:=ma.1 ag;simp only[cM];cases aR:jS y b.toNat with
    |false=>refine⟨λh=>(by cases h),λh=>(by cases h),λ_=>?_⟩;simp[eO,e]
    |true=>
     refine⟨λ_ h=>?_,λ_ _=>⟨?_,a0,?_⟩,λh=>(by cases h)⟩;·have:a+1=a:=h;omega
     ·simp[eO,e,aph aR]
     ·rw[apm];have aN:(l4 y (eO y (L.map (·.2.1))) (L.map (·.2.2)))=⟨y.ws,false⟩:=by simp[l4,e]
      rw[aN];show y.ws.has b.toNat=true;rw[apg ah.e2 ah.s1 ah.s2 ah.eK b.toNat_lt,aR]
  ·rw[DI (by omega),xW (ae e),iM];have aI:((cd g s).ai (fZ g i j)).d.t=y.t:=by rw[hl];rfl
   rw[aI];have ay:=TJ e;cases aK:preB s y.t a with
   |false=>refine⟨λh=>(by cases h),λh=>(by cases h),λ_=>?_⟩;simp[eO,e]
   |true=>
    refine⟨λ_ h=>?_,λ_ _=>⟨?_,?_⟩,λh=>(by cases h)⟩;·have:a+y.t.size=a:=h;omega
    ·simp[eO,e]
    ·unfold preB at aK;rw[ct]at aK;have U:a+y.t.size<=s.size:=cm aK.1;have aa:s.extract a (a+y.t.size)=y.t:=cm aK.2;have a0:a<s.data.size:=by have:s.size=s.data.size:=rfl;omega
     refine⟨a0,?_⟩;have aN:(l4 y (eO y (L.map (·.2.1))) (L.map (·.2.2)))=Mw y.t:=by simp[l4,e]
     rw[aN,apb ay];have bq:y.t[0]=s.data[a]:=by
      have bp:∀ (u:ByteArray) (hu:u=y.t) (h:0<u.size),u[0]=y.t[0]:=λu hu h=>by subst hu;rfl
      rw[<-bp _ aa (by rw[aa];exact ay)];rw[ByteArray.getElem_extract];simp;rfl
     rw[bq];show(IJ s.data[a]).has _=true;rw[ams _ (UInt8.toNat_lt _),dF rfl]
  ·
   rw[wj (ae e)];have af:(eL y.t (bJ g.ds)).isSome=true:=by simpa[e]using gp
   obtain⟨q,zx,nP,DJ⟩:=Nw af;have acY:=hm.r _ (dr nP);obtain⟨r,al⟩:=lX acY.bR.1;have hA:r<g.ds[q].t.ns.length:=by have:=acY.bR.2;omega
   have jE:((cd g s).ai (fZ g i j)).bd.getD 0 0=fZ g q r:=by rw[hl];show(jf _ _ _).getD 0 0=_;rw[jf,dF e,a4,zx,<-aai nP al];rfl
   rw[jE];have U:=be q r nP hA a;rw[aax]at U;have apn:=cB.fix q nP;have apo:=hd.fix q nP;have l0:y.aS=[]:=nx (by have:=F1.leaf (by omega);omega);have bq:tS (bJ g.ds) F W y (y.aS.map (tT (bJ g.ds) F W g.ds[i].t.ns))=(F.getD q cb,W.getD q ki):=by unfold tS;rw[dF e,a4,a4,l0,DJ];simp[eO,l4,e]
   rw[bq,apn];have gy:W.getD q ki=(wH (bJ g.ds) W (ep (bJ g.ds) F g.ds[q].t.ns []) g.ds[q].t.ns []).getD (r:Int).toNat ki:=by refine Eq.trans apo ?_;unfold Bd;rw[g5 nP];show(wH _ _ _ _ _).getD g.ds[q].t.bR.toNat ki=_;rw[al]
   rw[gy];unfold om;rw[al];exact U
  ·rw[DI (by omega),xX (ae e),has (by omega),<-TK];have U:=acU cE (a:=a) L a 0 (⟨true,false,false⟩,true) Mt Ny ⟨b2 _,rfl,λ_=>⟨rfl,rfl⟩,λh=>absurd rfl h⟩;have aC:eO y (L.map (·.2.1))=ES (L.map (·.2.1)):=by simp[eO,e]
   have aA:l4 y (eO y (L.map (·.2.1))) (L.map (·.2.2))=aap (L.map (·.2.2)):=by simp[l4,e]
   rw[aA,aC];refine⟨λaf h=>(U.1 af).z h,λaf h=>?_,λaa=>U.2 aa⟩;obtain⟨ed,dP⟩:=(U.1 af).s h;refine⟨?_,dP⟩;show((rq _).1.s&&(rq _).2)=true;unfold rq;rw[ed,(U.1 af).iz];rfl
  ·rw[DI (by omega),xY (ae e),has (by omega),<-TK];have U:=acV (s:=s) (m:=fa (cd g s) n) (a:=a) L ⟨false,false,true⟩ ki (λx ab=>Ny x ab a) rfl;have aC:eO y (L.map (·.2.1))=HT (L.map (·.2.1)):=by simp[eO,e]
   have aA:l4 y (eO y (L.map (·.2.1))) (L.map (·.2.2))=aaq (L.map (·.2.2)):=by simp[l4,e]
   rw[aA,aC];exact⟨U.1.z,U.1.s,U.2⟩
  ·obtain⟨x,ab⟩:=hM (by omega);have nH:=(acX x ab).resolve_right (by omega);have fT:((cd g s).ai (fZ g i j)).d.hi=y.hi:=by rw[hl];rfl
   have dg:((cd g s).ai (fZ g i j)).d.lo=y.lo:=by rw[hl];rfl
   have apq:=jJ.kR e;rw[DI (by omega),tJ (ae e),nH,fT,dg,ab];have aC:eO y ([x].map (·.2.1))=o0 y x.2.1:=by simp[eO,e]
   have aA:l4 y (eO y ([x].map (·.2.1))) ([x].map (·.2.2))=yc y x.2.2:=by simp[l4,e]
   rw[aA,aC];have cM:y.hi≠-1->m4 (cd g s) ((cd g s).ai (fZ g i j)).d a=y.hi.toNat:=λh=>by unfold m4;rw[fT,bG h];rfl
   by_cases ay:y.hi=0;·rw[cM (by omega),ay];refine⟨λ_ _=>?_,λ_ h=>absurd rfl h,λh=>(by cases h)⟩;simp[o0,yc,ay,Mt]
   ·refine acW cE (k:=x.2) (λb=>Ny x (by rw[ab];exact .head _) b) (λ_=>apq.1) e ay _ 0 a 0 ⟨b2 _,λ_=>rfl,λ_ h=>absurd rfl h,λh=>absurd rfl h⟩ λh=>?_;rw[cM h];omega
  all_goals
   obtain⟨x,ab⟩:=hM (by omega);have nH:=(acX x ab).resolve_right (by omega);have kf:=Ny x (by rw[ab];exact .head _) a;rw[DI (by omega),ab]
  ·rw[wk (ae e),nH];cases af:Nat.beq (fa (cd g s) n x.1 a).ao 3 with
   |true=>have TL:=kf.lD (cj af);refine⟨λ_ _=>?_,λ_ h=>absurd rfl h,λh=>(by cases h)⟩;simp[eO,l4,e,TL];simp[a8.lD]
   |false=>
    refine⟨λh=>?_,λh=>?_,λh=>?_⟩;·rw[show(fa (cd g s) n x.1 a).ao=3 from h]at af;cases af
    ·rw[show(fa (cd g s) n x.1 a).ao=3 from h]at af;cases af
    ·have:=kf.f h;simp[eO,e,this]
  ·rw[wm (ae e),nH];cases aa:Nat.beq (fa (cd g s) n x.1 a).ao 2 with
   |true=>have mw:=kf.f (cj aa);refine⟨λ_ _=>?_,λ_ h=>absurd rfl h,λh=>(by cases h)⟩;simp[eO,l4,e,mw];simp[a8.lD]
   |false=>
    cases af:Nat.beq (fa (cd g s) n x.1 a).ao 3 with
    |true=>have TL:=kf.lD (cj af);refine⟨λh=>(by cases h),λh=>(by cases h),λ_=>?_⟩;simp[eO,e,TL]| false=>exact .zero rfl
  ·have dk:ef (cd g s) (fa (cd g s) n) (fZ g i j) a=bif Nat.beq (fa (cd g s) n x.1 a).ao 3 then⟨fr (fa (cd g s) n x.1 a).n 1,(fa (cd g s) n x.1 a).av,3⟩else fa (cd g s) n x.1 a:=by have AO:=ae e;rw[wo (by omega) (by omega) (by omega) (by omega) (by omega) (by omega) (by omega) (by omega) (by omega),nH]
   rw[dk];have aC:eO y ([x].map (·.2.1))=x.2.1:=by simp[eO,e]
   have aA:l4 y (eO y ([x].map (·.2.1))) ([x].map (·.2.2))=x.2.2:=by simp[l4,e]
   rw[aA,aC];cases af:Nat.beq (fa (cd g s) n x.1 a).ao 3 with
   |true=>have bx:=cj af;exact⟨λ_ h=>kf.z bx h,λ_ h=>kf.s bx h,λh=>(by cases h)⟩| false=>exact kf
def apr{g:cA}(aB:g.ok I)(hm:ie g)(eb:∀ d∈g.ds,tH (bJ g.ds) d.t.ns=true)(cB:rs g.ds F)(hd:IK g.ds F W)(i j:Nat)(hi:i<g.ds.length)(an:j<g.ds[i].t.ns.length)(a:Nat) :
  tZ s (tT (bJ g.ds) F W g.ds[i].t.ns j) a (bs (cd g s) (fZ g i j) a):=by
 by_cases ah:cn (bs (cd g s) (fZ g i j) a)
 ·obtain⟨n,az⟩:=qD ah;rw[<-az];exact apj aB hm eb cB hd n i j hi an a
 ·exact .zero (by rw[(sG (cd g s) (fZ g i j) a).zero ah];rfl)
def t':List (a8×List Nat)->List Nat
 |[]=>[]| x::xs=>x.2++bif x.1.z then t' xs else []
def mJ(pl:List (ByteArray×Int))(d:bh)(xs:List (a8×List Nat)):List Nat:=
 bif decide (d.k=3)then [((eL d.t pl).getD 0).toNat]else
 bif decide (d.k=4)then t' xs else
 bif decide (d.k=6)&&decide (d.hi=0)then []else xs.flatMap (·.2)
def BA(pl:List (ByteArray×Int))(F:List a8)(d:bh)(xs:List (a8×List Nat)):a8×List Nat:=
 (eO d (xs.map (·.1)++bif decide (d.k=3)then [F.getD ((eL d.t pl).getD 0).toNat cb]else []),mJ pl d xs)
def g1(pl:List (ByteArray×Int))(F:List a8)(ns:List bh)(j:Int):a8×List Nat:=xA (cb,[]) (λd g=>BA pl F d (d.aS.map g)) ns j
def Nz{pl:List (ByteArray×Int)}{t:eH}(al:right t=true){j:Nat}(an:j<t.ns.length):g1 pl F t.ns j=BA pl F t.ns[j] (t.ns[j].aS.map (g1 pl F t.ns)):=
 Hf (λd g eD h=>by rw[xo h]) al an
def acZ(bc:List (a8×List Nat))(i:Nat):(bc.getD i (cb,[])).1=(bc.map (·.1)).getD i cb:=by
 simp only[dB,yL];cases bc[i]?<;>rfl
def ac0(pl:List (ByteArray×Int))(F:List a8):∀ (ds:List bh) (bc:List (a8×List Nat)),(rb (cb,[]) (λd g=>BA pl F d (d.aS.map g)) ds bc).map (·.1)=ep pl F ds (bc.map (·.1))
 |[],bc=>rfl
 |d::ds,bc=>by
  have aC:(BA pl F d (d.aS.map λk=>bc.getD k.toNat (cb,[]))).1=eO d (nO pl F (bc.map (·.1)) d):=by unfold BA nO;simp only[ms,C7,acZ]
  have U:=ac0 pl F ds (bc++[BA pl F d (d.aS.map λk=>bc.getD k.toNat (cb,[]))]);rw[gW,dQ,oN,aC]at U;rw[rb,U,ep]
def NA(pl:List (ByteArray×Int))(F:List a8)(ns:List bh)(j:Int):(g1 pl F ns j).1=(ep pl F ns []).getD j.toNat cb:=by have h:=ac0 pl F ns [];unfold g1 xA;rw[acZ,h];rfl
abbrev dM:=BitVec 64
def l9(k:Nat):dM:=1#64 <<< k
def NB{k i:Nat}(hi:i<64):(l9 k).getLsbD i=decide (i=k):=by
 unfold l9;rw[BitVec.getLsbD_shiftLeft];simp only[hi,zc,q3];by_cases h:i<k
 ·have bM:¬ i=k:=by omega
  simp[h,bM]
 ·simp only[h,Mz,Ka,q3];by_cases e:i=k
  ·subst e;simp
  ·rw[bG e];have aa:0<i-k:=by omega
   rw[BitVec.getLsbD_one];simp;omega
def aps(l:List Nat):∀ (w:dM) {i:Nat},i<64->(l.foldl (λw k=>w ||| l9 k) w).getLsbD i=(w.getLsbD i||l.contains i):=by
 induction l with
 |nil=>intro w i hi;simp| cons k l be=>intro w i hi;rw[uj,be _ hi,A6,NB hi,List.contains_cons,Bool.or_assoc];rfl
def nX(m:List dM):Nat->Nat->dM->dM
 |_,0,w=>w| k,f+1,w=>nX m (k+1) f (bif w.getLsbD k then w ||| m.getD k 0 else w)
def s0(m:List dM):List dM:=(List.range 64).map λi=>nX m 0 64 (m.getD i 0)
inductive rR(m:List dM):Nat->Nat->Prop
 |one{i k}(ae:k<64)(h:(m.getD i 0).getLsbD k=true):rR m i k| step {i j k} (h:(m.getD i 0).getLsbD j=true) (an:j<64) (t:rR m j k):rR m i k
def rR.trans{m:List dM}{i j k:Nat}(h:rR m i j)(bg:rR m j k):rR m i k:=by
 induction h with
 |one ae h=>exact .step h ae bg| step h an t be=>exact .step h an (be bg)
def kE(x y:dM):Prop:=∀ i,i<64->x.getLsbD i=true->y.getLsbD i=true
def kE.refl(x:dM):kE x x:=λ_ _ h=>h
def kE.trans{x y z:dM}(h:kE x y)(bg:kE y z):kE x z:=λi hi ab=>bg i hi (h i hi ab)
def kE.or(x y:dM):kE x (x ||| y):=λi hi h=>by rw[A6,h];rfl
def kE.or'(x y:dM):kE y (x ||| y):=λi hi h=>by rw[A6,h,yn]
def kE.IH{x y:dM}(h:kE x y)(bg:kE y x):x=y:=Rs λi hi=>by
 have U:=h i hi;have aa:=bg i hi;cases ab:x.getLsbD i<;>cases aT:y.getLsbD i<;>simp_all
def kE.and{x y:dM}(h:kE x y):x &&& y=x:=Rs λi hi=>by
 have U:=h i hi;rw[Rt];cases ab:x.getLsbD i<;>simp_all
def Jy(m:List dM):∀ (f k:Nat) (w:dM),kE w (nX m k f w)
 |0,k,w=>kE.refl w
 |f+1,k,w=>by
  rw[nX];cases w.getLsbD k with
  |true=>exact(kE.or _ _).trans (Jy m f (k+1) _)| false=>exact Jy m f (k+1) _
def TM{m:List dM}{P:Nat->Prop}(hm:∀ j,P j->∀ x,x<64->(m.getD j 0).getLsbD x=true->P x):∀ (f k:Nat) (w:dM),k+f<=64->(∀ x,x<64->w.getLsbD x=true->P x)->∀ x,x<64->(nX m k f w).getLsbD x=true->P x
 |0,k,w,_,hw=>hw
 |f+1,k,w,ae,hw=>by
  rw[nX];cases ag:w.getLsbD k with
  |true=>
   refine TM hm f (k+1) _ (by omega) λx ab h=>?_;rw[a4,A6,lq]at h;rcases h with h | h;·exact hw x ab h
   ·exact hm k (hw k (by omega) ag) x ab h
  |false=>exact TM hm f (k+1) _ (by omega) hw
def TN{m:List dM}:∀ (f k:Nat) {w:dM},nX m k f w=w->∀ j,k<=j->j<k+f->w.getLsbD j=true->kE (m.getD j 0) w
 |0,k,w,_,j,U,aa,_=>by omega
 |f+1,k,w,h,j,U,aa,an=>by
  rw[nX]at h;cases ag:w.getLsbD k with
  |true=>
   rw[ag,a4]at h;have e:w ||| m.getD k 0=w:=by refine kE.IH ?_ (kE.or _ _);have:=Jy m f (k+1) (w ||| m.getD k 0);rwa [h]at this
   by_cases TO:j=k;·subst TO;have:=kE.or' w (m.getD j 0);rwa [e]at this
   ·rw[e]at h;exact TN f (k+1) h j (by omega) (by omega) an
  |false=>
   rw[ag,aQ]at h;by_cases TO:j=k;·subst TO;rw[ag]at an;cases an
   ·exact TN f (k+1) h j (by omega) (by omega) an
def ac1(m:List dM):(s0 m).length=64:=by simp[s0]
def NC(m:List dM){i:Nat}(h:i<64):(s0 m).getD i 0=nX m 0 64 (m.getD i 0):=by simp[s0,dB,h]
structure BB(lC m:List dM):Prop where
 len:m.length=64
 le:∀ i,i<64->kE (lC.getD i 0) (m.getD i 0)
 ok:∀ i,i<64->∀ k,k<64->(m.getD i 0).getLsbD k=true->rR lC i k
def BB.start{lC:List dM}(h:lC.length=64):BB lC lC:=⟨h,λi _=>kE.refl _,λi _ k ae ag=>.one ae ag⟩
def BB.next{lC m:List dM}(h:BB lC m):BB lC (s0 m):=by
 refine⟨ac1 m,λi hi=>?_,λi hi k ae ag=>?_⟩
 ·rw[NC m hi];exact(h.le i hi).trans (Jy m 64 0 _)
 ·rw[NC m hi]at ag;refine TM (P:=λx=>x<64/\rR lC i x) (λj an x ab ag=>⟨ab,an.2.trans (h.ok j an.1 x ab ag)⟩) 64 0 _ (b2 _) (λx ab ag=>⟨ab,h.ok i hi x ab ag⟩) k ae ag |>.2
def BB.done{lC m:List dM}(h:BB lC m)(ar:s0 m=m){i k:Nat}(hi:i<64)(ae:k<64):(m.getD i 0).getLsbD k=true ↔ rR lC i k:=by
 refine⟨h.ok i hi k ae,λaJ=>?_⟩;have ft:∀ i,i<64->∀ j,j<64->(m.getD i 0).getLsbD j=true->kE (m.getD j 0) (m.getD i 0):=λi hi j an ag=>by have:=NC m hi;rw[ar]at this;exact TN 64 0 this.symm j (bF _) (by omega) ag
 revert hi
 induction aJ with
 |one hZ ag=>exact λhi=>h.le _ hi _ hZ ag
 |step ag an t be=>exact λhi=>ft _ hi _ an (h.le _ hi _ an ag) _ ae (be ae an)
def BC(m:List dM):Nat:=(m.map zR).sum
def ac2:∀ {m n:List dM},m.length=n.length->(∀ i,i<m.length->kE (m.getD i 0) (n.getD i 0))->BC n<=BC m/\(BC m<=BC n->m=n)
 |[],[],_,_=>⟨b2 _,λ_=>rfl⟩| [],_::_,h,_=>by simp at h
 |_::_,[],h,_=>by simp at h
 |a::m,b::n,h,ax=>by
  have ay:kE a b:=by simpa using ax 0 (by simp)
  obtain⟨U,aa⟩:=II ay.and;obtain⟨t1,t2⟩:=ac2 (m:=m) (n:=n) (by simpa using h) λi hi=>by simpa using ax (i+1) (by simpa using hi)
  simp only[BC,dQ,k']at t1 t2 |-;refine⟨by omega,λbz=>?_⟩;rw[aa (by omega),t2 (by omega)]
def apt{m:List dM}(aE:m.length=64)(h:s0 m≠m):BC (s0 m)<BC m:=by
 have ax:=ac2 (m:=m) (n:=s0 m) (by rw[aE,ac1]) λi hi=>by rw[NC m (by omega)];exact Jy m 64 0 _
 refine Qj ax.1 λe=>h (ax.2 (by omega)).symm
def TP(m:List dM):dM:=(List.range 64).foldl (λw i=>w ||| ((m.getD i 0) &&& l9 i)) 0
def ac3(m:List dM):∀ (l:List Nat) (w:dM) {i:Nat},i<64->(∀ k∈l,k<64)->(l.foldl (λw i=>w ||| ((m.getD i 0) &&& l9 i)) w).getLsbD i=(w.getLsbD i||(l.contains i&&(m.getD i 0).getLsbD i))
 |[],w,i,hi,_=>by simp
 |k::l,w,i,hi,aE=>by
  rw[uj,ac3 m l _ hi λk ae=>aE k (.tail _ ae),A6,Rt,NB hi,List.contains_cons];by_cases e:i=k
  ·subst e;simp;cases w.getLsbD i<;>cases(m.getD i 0).getLsbD i<;>simp
  ·have a':(i == k)=false:=by simpa using e
   rw[bG e,a'];simp
def apu(m:List dM){i:Nat}(hi:i<64):(TP m).getLsbD i=(m.getD i 0).getLsbD i:=by
 unfold TP;rw[ac3 m _ _ hi λk ae=>me.1 ae];have:(List.range 64).contains i=true:=by simpa using hi
 rw[this];simp
def bitsOf(w:dM)(n:Nat):List Nat:=(List.range n).filter λi=>w.getLsbD i
def ac4(w:dM)(n:Nat):bitsOf w (n+1)=bitsOf w n++(bif w.getLsbD n then [n]else []):=by
 unfold bitsOf;rw[C8,Jg];cases h:w.getLsbD n<;>simp[h]
def apv(w:dM)(n:Nat):(bitsOf w n).length<=n:=by unfold bitsOf;have:=Gl (λi=>w.getLsbD i) (List.range n);simpa using this
def ac5(w:dM){k:Nat}(ae:k<64):IntKind.u64.wrap ((BitVec.ofInt 64 ((w.toNat:Int).fdiv (2^(min k 64))) &&& BitVec.ofInt 64 1).toNat:Int)=bif w.getLsbD k then 1 else 0:=by
 have az:w.toNat<18446744073709551616:=w.isLt;have b':min k 64=k:=by omega
 have aC:(w.toNat:Int).fdiv (2^k)=((w.toNat/2^k:Nat):Int):=by rw[GV _ (by exact Int.le_of_lt (Int.pow_pos (by decide)))];simp
 rw[b',aC];have aA:(BitVec.ofInt 64 ((w.toNat/2^k:Nat):Int) &&& BitVec.ofInt 64 1).toNat=w.toNat/2^k%2:=by
  have U:BitVec.ofInt 64 ((w.toNat/2^k:Nat):Int)=BitVec.ofNat 64 (w.toNat/2^k):=(show ∀ m:Nat,BitVec.ofInt 64 (m:Int)=BitVec.ofNat 64 m from λm=>by simp) _;have aa:BitVec.ofInt 64 1=BitVec.ofNat 64 1:=by decide
  rw[U,aa,GY,CX,CX];have af:w.toNat/2^k%2^64=w.toNat/2^k:=H' (Nat.lt_of_le_of_lt (Q1 _ _) az);rw[af,show 1%2^64=1 by decide,Nat.and_one_is_mod]
 rw[aA];have bx:IntKind.u64.wrap ((w.toNat/2^k%2:Nat):Int)=((w.toNat/2^k%2:Nat):Int):=by have:w.toNat/2^k%2<2:=Ez _ (by decide);unfold IntKind.wrap;simp only[IntKind.bits,IntKind.signed];simp;omega
 rw[bx];have cU:w.getLsbD k=w.toNat.testBit k:=rfl;rw[cU,Y6];have:w.toNat/2^k%2<2:=Ez _ (by decide);by_cases h:w.toNat/2^k%2=1
 ·rw[h];rfl
 ·have ay:w.toNat/2^k%2=0:=by omega
  rw[ay];rfl
def TQ{k:Nat}(ae:k<64):IntKind.u64.wrap (1*2^(min k 64))=((l9 k).toNat:Int):=by
 have b':min k 64=k:=by omega
 have U:(2:Nat)^k<2^64:=Nat.pow_lt_pow_right (by decide) ae;have e:(l9 k).toNat=2^k:=by unfold l9;rw[BitVec.toNat_shiftLeft];simp only[CX];rw[Nat.shiftLeft_eq,show 1%2^64=1 by decide,qj,H' U]
 rw[b',e,Int.one_mul];have aA:((2:Int)^k)=((2^k:Nat):Int):=by simp
 rw[aA];unfold IntKind.wrap;simp only[IntKind.bits,IntKind.signed];simp;omega
def p3(w:dM):Value:=.int .u64 w.toNat
def ac6{w:dM}{i:Nat}(a0:i<64)(aa:¬ IntKind.u64.wrap ((BitVec.ofInt 64 ((w.toNat:Int).fdiv (2^(min i 64))) &&& BitVec.ofInt 64 1).toNat:Int)=0):w.getLsbD i=true:=by
 have ag:=ac5 w a0;cases aB:w.getLsbD i with
 |true=>rfl| false=>rw[aB]at ag;exact absurd ag aa
def ac7{w:dM}{i:Nat}(a0:i<64)(aa:IntKind.u64.wrap ((BitVec.ofInt 64 ((w.toNat:Int).fdiv (2^(min i 64))) &&& BitVec.ofInt 64 1).toNat:Int)=0):w.getLsbD i=false:=by
 have ag:=ac5 w a0;cases aB:w.getLsbD i with
 |false=>rfl| true=>rw[aB,aa]at ag;cases ag
def ac8{a b:Int}(h:(!decide (a=b))=true):¬ a=b:=by simpa using h
def ac9{a b:Int}(h:(!decide (a=b))=false):a=b:=by simpa using h
def ada(w:dM):Spec Tryz.prog 99 [.int .u64 w.toNat] I M0 λv I' M'=>I'=I/\∃ os:bf,os.ok 1 ((bitsOf w 64).map λn:Nat=>Value.int .i64 n)/\v=os.val/\M'=os.aO 3++M0:=by
 refine bY [] aV Tryz.func99 rfl rfl rfl ?_;intro B ay;refine ea.inv (ι:=Nat×bf) (λx=>{ bK:=[(0,.val (.int .u64 w.toNat)),(3,.val x.2.val),(5,.val (.int .i64 x.1))],dz:=I,d':=x.2.aO 3++M0 }) (λx=>x.1<=64/\x.2.ok 1 ((bitsOf w x.1).map λn:Nat=>Value.int .i64 n)) (λx=>64-x.1) ?_ ?_
 ·exact⟨(0,uU),⟨by simp,zl 1⟩,.refl,gX,.nil⟩
 rintro⟨i,os⟩⟨hi,cr⟩;simp only at hi cr;have zK:os.n<=64:=by have U:=cr.len;rw[eW]at U;have:=apv w i;omega
 refine aM.mk (λh=>?_) (λh=>?_)
 rotate_left
 ·have cE:i=64:=by have:¬ (i:Int)<64:=cu h;omega
  rw[cE]at cr;exact⟨_,_,.refl,rfl,os,cr,rfl,rfl⟩
 have a0:i<64:=by have:(i:Int)<64:=cm h;omega
 refine tb.mk i rfl ?_;refine aM.mk (λaa=>?_) (λaa=>?_)
 ·have hw:=ac6 (w:=w) a0 (ac8 aa);refine cy.mk λcS g7 zh=>?_;refine bE.x5 aV rfl (by simp) (e:=3) rfl rfl rfl os cr rfl (cs:=[.int .i64 i]) rfl rfl rfl [] M0 rfl (by omega) (by show(os.n+1)*8<=_;omega) ?_;intro b5 sU h5 gb;refine bb.mk _ (c7 (i:=i) (by omega)) ?_;refine⟨(i+1,b5),⟨⟨a0,?_⟩,by simp only;omega⟩,.refl,gX,.nil⟩;simp only;rw[ac4,hw,gW];exact gb
 ·have hw:=ac7 (w:=w) a0 (ac9 aa);refine bb.mk _ (c7 (i:=i) (by omega)) ?_;refine⟨(i+1,os),⟨⟨a0,?_⟩,by simp only;omega⟩,.refl,gX,.nil⟩;simp only;rw[ac4,hw,aQ,eo];exact cr
def BD(w:dM):ap:=.i .u64 w.toNat
def adb{aP:eE}(he:E e=some aP)(ax:aP.size=1)(aH:aP.bT.agg=false)(P:List ap)(x:ap)(r:List ap):wJ E e (P.length*aP.size) (P++x::r)=some x:=by unfold wJ;rw[he,FO,ax,jk,I1,List.drop_left,aH];rfl
def ade{F:Nat->ap->ap->Option Bool}{E:Env}{e:Nat}{aP:eE}(he:E e=some aP)(ax:aP.size=1)(aH:aP.bT.agg=false)(cB:∀ a b,F e (.i .u64 a) (.i .u64 b)=some (nU a b)):∀ (l m:List dM) (F3 Jz:List ap),l.length=m.length->F3.length=Jz.length -> Bf F E (F3++l.map BD) (Jz++m.map BD) ((List.range' F3.length l.length).map λi=>(e,i*aP.size))=some (decide (l=m))
 |[],[],F3,Jz,_,_=>rfl| [],_::_,_,_,h,_=>by simp at h
 |_::_,[],_,_,h,_=>by simp at h
 |a::l,b::m,F3,Jz,h,aK=>by
  have be:=ade he ax aH cB l m (F3++[BD a]) (Jz++[BD b]) (by simpa using h) (by simpa using aK);rw[di,zH,gz,gz,HM,HM]at be;rw[eM,Ow,dQ,dQ,dQ,Bf,adb he ax aH,FO,aK,adb he ax aH,FO,<-aK];rw[show F e (BD a) (BD b)=some (decide (a=b)) by rw[<-amP];exact cB _ _,FO,k4];by_cases aC:a=b;·subst aC;simp only[zc,s'];rw[be];simp
  ·simp[aC]
def lK(m:List dM):List Value:=(List.range 64).map λi=>p3 (m.getD i 0)
def ND{m:List dM}(h:m.length=64):lK m=m.map p3:=by
 unfold lK;apply xq
 ·simp[h]
 ·intro i U aa;have:i<m.length:=by simpa using aa
  simp[dB,this]
def vi(m:List dM):(lK m).length=64:=by simp[lK]
def apw{y:Operand}{p q:List dM}(aK:p.length=64)(aL:q.length=64){V:Value->Prop}{other:Prop}(h:V (.bool (decide (p=q)))) :
  fU Tryz.prog .eql 182 x y (.val (.agg (lK p).toArray)) (.val (.agg (lK q).toArray)) V other:=by
 rw[ND aK,ND aL];have aj:∀ l:List dM,b0 (λ_=>none) (l.map BD) (l.map p3):=λl=>by
  induction l with
  |nil=>exact .nil| cons a l be=>exact .cons (by simp only[BD,p3,a1]) be
 refine SN (X:=⟨Tryz.prog,lv,[],0,0,default,λ_=>none,[],none⟩) (D:=λ_=>none) (v:=.b (decide (p=q))) aV ?_ (aj p) (aj q) (λu hu=>by simp only[a1]at hu;rw[hu];exact h);show Dj Tryz.prog lv .eql 182 _ _=_;obtain⟨i1,U,g3⟩:∃ i,lv 182=some i/\i.bT=.array 64 47:=⟨_,rfl,rfl⟩;obtain⟨i2,aa,nl,apx⟩:∃ i,lv 47=some i/\i.bT=.int .u64/\i.size=1:=⟨_,rfl,rfl,rfl⟩;have cB:∀ a b,rK Tryz.prog lv 7 47 (.i .u64 a) (.i .u64 b)=some (nU a b):=λa b=>by simp only[rK,aa,FO,nl];rfl
 have ae:=ade (F:=rK Tryz.prog lv 7) aa apx (by rw[nl];rfl) cB p q [] [] (by omega) rfl;unfold Dj;rw[rK];simp only[U,FO,g3,aa];rw[nz,nz,ko,aK]at ae;rw[DZ,ae,show Tryz.prog.eqGuardType Tryz.prog.depth 182=false by kernel_rfl];rfl
structure eg where
 n:Nat
 m:List dM
 w:dM
def eg.cells(s:eg):List Value:=.int .i64 s.n::(lK s.m++[p3 s.w])
def eg.val(s:eg):Value:=.agg s.cells.toArray
def eg.apy(s:eg):Prop:=s.m.length=64/\s.n<=64
def yw(b:Nat)(m:List dM):aF:=⟨b,.cells (lK m).toArray 182 (0,0)⟩
def JA{m:List dM}(a2:yw b m∈M):cx I M (⟨b,0,none⟩:Addr) 64 (lK m):=
 ⟨rfl,_,_,_,.inr ⟨_,a2,rfl,rfl⟩,by simp only[xr];exact gM (by simp[vi]),vi m⟩
def adf{m:List dM}(a2:yw b m∈M){j:Nat}(an:j<64):cx I M ((⟨b,0,none⟩:Addr).add (j*1)) 1 [p3 (m.getD j 0)]:=by rw[dY _ rfl];refine⟨rfl,_,_,_,.inr ⟨_,a2,rfl,rfl⟩,?_,rfl⟩;simp only[dp,jk];rw[fg (by simpa[lK]using an),oL,oM];simp[lK]
def adg(m:List dM)(hm:m.length=64)(j:Nat)(an:j<64)(w:dM):bQ (lK m) (0+j*1) [p3 w]=lK (m.set j w):=by rw[ND hm,ND (by simpa using hm),dp,jk,Ra _ _ _ (by simp[hm];exact an),G3]
def pf(m:List dM)(i:Nat):List dM:=(List.range i).map (λq=>nX m 0 64 (m.getD q 0))++m.drop i
def adh{m:List dM}(hm:m.length=64){i:Nat}(hi:i<=64):(pf m i).length=64:=by simp[pf,hm];omega
def apz{m:List dM}(hm:m.length=64){i:Nat}(hi:i<64):(pf m i).set i (m.getD i 0)=pf m i:=by
 unfold pf;have h:i<m.length:=by omega
 rw[EN _ _ (by simp)];simp only[eW,tK,rp];rw[fg h,Lw];simp[dB,h]
def apA{m:List dM}(hm:m.length=64){i:Nat}(hi:i<64):(pf m i).set i (nX m 0 64 (m.getD i 0))=pf m (i+1):=by
 unfold pf;have h:i<m.length:=by omega
 rw[EN _ _ (by simp)];simp only[eW,tK,rp];rw[fg h,Lw,C8,gW,gz];rfl
def adi{m:List dM}(hm:m.length=64):pf m 64=s0 m:=by unfold pf s0;rw[M8 (by omega),eo]
def BE(m:List dM)(k:Nat):dM:=(List.range k).foldl (λw i=>w ||| ((m.getD i 0) &&& l9 i)) 0
def apB(m:List dM)(k:Nat):BE m (k+1)=BE m k ||| (m.getD k 0 &&& l9 k):=by unfold BE;rw[C8,Qk];rfl
def apC{a b:Int}(h:a=b):xd (.val (.int .u64 a)) (.val (.int .u64 b)):=by subst h;exact .refl
def apD(m:List dM)(k:Nat):FN (BE m k).toNat (SO (m.getD k 0).toNat (l9 k).toNat)=((BE m (k+1)).toNat:Int):=by rw[amO,M3,apB]
def apE{m:List dM}{k:Nat}{w:dM}(ae:k<64)(h:w.getLsbD k=true):nX m k (64-k) w=nX m (k+1) (64-(k+1)) (w ||| m.getD k 0):=by rw[show 64-k=(64-(k+1))+1 by omega,nX,h];rfl
def apF{m:List dM}{k:Nat}{w:dM}(ae:k<64)(h:w.getLsbD k=false):nX m k (64-k) w=nX m (k+1) (64-(k+1)) w:=by rw[show 64-k=(64-(k+1))+1 by omega,nX,h];rfl
def TR{m:List dM}{i:Nat}(hi:i<m.length)(w:dM):(m.set i w).getD i 0=w:=by simp[dB,hi]
def apG(s:eg)(ax:s.apy):Spec Tryz.prog 100 [s.val] I M0 λv I' M'=>I'=I/\M'=M0/\∃ b:dM,v=.int .u64 b.toNat/\∀ i,i<64->(b.getLsbD i=true ↔ rR s.m i i):=by
 refine bY [1,3,4] aV Tryz.func100 rfl rfl rfl ?_;intro B ay;obtain⟨g3,nl⟩:=ax;refine cy.mk λb1 jN Yz=>?_;refine aw.mk (lK s.m) ?_ ?_
 ·refine⟨rfl,_,_,_,.inr ⟨_,.head _,rfl,rfl⟩,?_,vi _⟩;show((s.cells).drop 1).take 64=_;rw[eg.cells,IL,xr];exact sf (vi _)
 refine cy.mk λb9 jU apH=>?_;refine cc.av [] _ _ _ rfl rfl rfl rfl (lK s.m) rfl ?_;refine ea.inv (ι:=List dM) (λm=>{ bK:=[(3,.val (ptr b9))],dz:=I,d':=yw b9 m::M0 }) (BB s.m) BC ?_ ?_
 ·exact⟨s.m,.start g3,.sub (.cons_cons _ (.cons _ (.refl _))) .refl,.cons .refl (.nil),.nil⟩
 intro m hm;have q':=hm.len;refine aw.mk _ (JA (.head _)) ?_;refine cy.mk λcK Mn apI=>?_;refine cc.av [] _ _ _ rfl rfl rfl rfl (lK m) rfl ?_;refine ea.inv (ι:=Nat) (λi=>{ bK:=[(3,.val (ptr b9)),(4,.val (ptr cK)),(13,.val (.int .i64 i))],dz:=I,d':=yw cK (pf m i)::(yw b9 m::M0) }) (λi=>i<=64) (λi=>64-i) ?_ ?_
 ·refine⟨0,bF _,.refl,gX,.nil⟩
 intro i hi;refine aM.mk (λh=>?_) (λh=>?_)
 rotate_left
 ·have cE:i=64:=by have:¬ (i:Int)<64:=cu h;omega
  subst cE;refine aw.mk _ (JA (.head _)) ?_;refine aw.mk _ (JA (.tail _ (.head _))) ?_;refine apw (adh q' (b2 _)) q' ?_;rw[adi q'];refine aM.mk (λhe=>?_) (λhe=>?_)
  ·have uA:s0 m=m:=cm he;refine aw.mk _ (JA (.tail _ (.head _))) ?_;refine ea.inv (ι:=Nat) (λk=>{ bK:=[(7,.val (.int .u64 (BE m k).toNat)),(40,.val (.agg (lK m).toArray)),(41,.val (.int .i64 k))],dz:=I,d':=M0 }) (λk=>k<=64) (λk=>64-k) ?_ ?_
   ·exact⟨0,bF _,.sub (.cons _ (.cons _ (.refl _))) .refl,gX,.nil⟩
   intro k ae;refine aM.mk (λh=>?_) (λh=>?_)
   rotate_left
   ·have cE:k=64:=by have:¬ (k:Int)<64:=cu h;omega
    subst cE;exact⟨_,_,.refl,rfl,rfl,BE m 64,rfl,λi hi=>by rw[show BE m 64=TP m from rfl,apu m hi,hm.done uA hi hi]⟩
   have fI:k<64:=by have:(k:Int)<64:=cm h;omega
   clear h ae;have aJ:k=0\/k=1\/k=2\/k=3\/k=4\/k=5\/k=6\/k=7\/k=8\/k=9\/k=10\/k=11\/k=12\/k=13\/k=14\/k=15\/k=16\/k=17\/k=18\/k=19\/k=20\/k=21\/k=22\/k=23\/k=24\/k=25\/k=26\/k=27\/k=28\/k=29\/k=30\/k=31\/k=32\/k=33\/k=34\/k=35\/k=36\/k=37\/k=38\/k=39\/k=40\/k=41\/k=42\/k=43\/k=44\/k=45\/k=46\/k=47\/k=48\/k=49\/k=50\/k=51\/k=52\/k=53\/k=54\/k=55\/k=56\/k=57\/k=58\/k=59\/k=60\/k=61\/k=62\/k=63:=by omega
   rcases aJ with rfl | rfl | rfl | rfl | rfl | rfl | rfl | rfl | rfl | rfl | rfl | rfl | rfl | rfl | rfl | rfl | rfl | rfl | rfl | rfl | rfl | rfl | rfl | rfl | rfl | rfl | rfl | rfl | rfl | rfl | rfl | rfl | rfl | rfl | rfl | rfl | rfl | rfl | rfl | rfl | rfl | rfl | rfl | rfl | rfl | rfl | rfl | rfl | rfl | rfl | rfl | rfl | rfl | rfl | rfl | rfl | rfl | rfl | rfl | rfl | rfl | rfl | rfl | rfl
   all_goals
    refine dR.mk _ rfl fI ?_;refine tb.mk _ rfl ?_;refine bb.mk _ (TQ fI) ?_;refine bb.mk _ (c7 (by omega)) ?_;exact⟨_,⟨fI,by omega⟩,.refl,.cons (apC (apD m _)) (Cf),.nil⟩
  ·have uA:s0 m≠m:=cu he;refine aw.mk _ (JA (.head _)) ?_;refine cc.av [_] _ _ _ rfl rfl rfl rfl (lK (pf m 64)) rfl ?_;refine⟨s0 m,⟨hm.next,apt q' uA⟩,.sub (.cons _ (.refl _)) (.o6 ?_),.cons .refl (.nil),.nil⟩;rw[adi q'];rfl
 have a0:i<64:=by have:(i:Int)<64:=cm h;omega
 have n7:=adh q' hi;refine ea.inv (ι:=Nat×dM) (λs=>{ bK:=[(3,.val (ptr b9)),(4,.val (ptr cK)),(5,.val (.int .i64 i)),(13,.val (.int .i64 i)),(16,.val (.int .i64 s.1))],dz:=I,d':=yw cK ((pf m i).set i s.2)::(yw b9 m::M0) }) (λs=>s.1<=64/\nX m 0 64 (m.getD i 0)=nX m s.1 (64-s.1) s.2) (λs=>64-s.1) ?_ ?_
 ·refine⟨(0,m.getD i 0),⟨bF _,rfl⟩,.o6 ?_,jj,.nil⟩;simp only;rw[apz q' a0]
 rintro⟨k,w⟩⟨ae,jB⟩;simp only at ae jB;refine aM.mk (λh=>?_) (λh=>?_)
 rotate_left
 ·have cE:k=64:=by have:¬ (k:Int)<64:=cu h;omega
  subst cE;have zA:nX m 0 64 (m.getD i 0)=w:=jB;refine bb.mk _ (c7 (i:=i) (by omega)) ?_;refine⟨i+1,⟨a0,by omega⟩,.o6 ?_,gX,.nil⟩;rw[<-apA q' a0,zA]
 have fI:k<64:=by have:(k:Int)<64:=cm h;omega
 have j9:((pf m i).set i w).length=64:=by rw[qz,n7]
 have adj:∀ {M:List aF},yw cK ((pf m i).set i w)∈M->cx I M ((⟨cK,0,none⟩:Addr).add (i*1)) 1 [.int .u64 w.toNat]:=λa2=>by have:=adf (I:=I) a2 a0;rwa [TR (by omega) w]at this
 have xz:∀ {M:List aF},yw b9 m∈M->cx I M ((⟨b9,0,none⟩:Addr).add (k*1)) 1 [.int .u64 (m.getD k 0).toNat]:=λa2=>adf (I:=I) a2 fI;refine dR.mk i rfl a0 ?_;refine aw.mk _ (adj (.head _)) ?_;refine tb.mk k rfl ?_;refine aM.mk (λaa=>?_) (λaa=>?_)
 ·have hw:=ac6 (w:=w) fI (ac8 aa);refine cq.draw aV rfl rfl rfl ?_;refine dR.mk i rfl a0 ?_;refine aw.mk _ (adj (.head _)) ?_;refine dR.mk k rfl fI ?_;refine aw.mk _ (xz (.tail _ (.head _))) ?_;refine dR.mk i rfl a0 ?_;refine cc.jO [] (yw b9 m::M0) (lK ((pf m i).set i w)) _ rfl ?_ rfl (lK ((pf m i).set i (w ||| m.getD k 0))) ?_ ?_
  ·rw[og,vi];show 0+i*1+1<=64;omega
  ·show bQ _ _ [Value.int .u64 (FN w.toNat (m.getD k 0).toNat)]=_;rw[M3];have:=adg ((pf m i).set i w) j9 i a0 (w ||| m.getD k 0);rw[KG]at this;exact this
  refine bb.mk _ (c7 (i:=k) (by omega)) ?_;exact⟨(k+1,w ||| m.getD k 0),⟨⟨fI,by rw[jB,apE fI hw]⟩,by simp only;omega⟩,.refl,jj,.nil⟩
 ·have hw:=ac7 (w:=w) fI (ac9 aa);refine bb.mk _ (c7 (i:=k) (by omega)) ?_;exact⟨(k+1,w),⟨⟨fI,by rw[jB,apF fI hw]⟩,by simp only;omega⟩,.refl,jj,.nil⟩
def apJ:∀ {l:List Int} (h:0<l.length),l.headD 0=l[0]
 |a::l,_=>rfl
def pg(ns:List bh)(xs:List a8):Bool:=ns.any λd=>decide (d.k=6)&&(decide (d.hi=-1)&&(xs.getD (d.aS.headD 0).toNat cb).z)
def apK(p:α->Bool)(l:List α)(x:α):(l++[x]).any p=(l.any p||p x):=by simp
def apL{p:α->Bool}{l:List α}{i:Nat}(h:(l.take i).any p=true):l.any p=true:=by rw[M9]at h |-;obtain⟨x,ab,aK⟩:=h;exact⟨x,Hm ab,aK⟩
def apM{t:eH}(aI:t.ok I)(al:right t=true){xa:Option Addr}{xc:Nat}{xs:List a8}(ab:oi I M0 xa t.n xs):Spec Tryz.prog 169 [t.val,.slice xa t.n xc] I M0 λv I' M'=>v=.bool (pg t.ns xs)/\I'=I/\M'=M0:=by
 refine bY [] aV Tryz.func169 rfl rfl rfl ?_;intro B ay;have ri:=aI.n;have iH:=aI.bj.cap;have Np:=ab.n;refine ea.inv (ι:=Nat) (λi=>{ bK:=[(1,.val (.slice xa t.n xc)),(8,.val (.slice t.a t.n t.c)),(9,.val (.int .i64 t.n)),(10,.val (.int .i64 i))],dz:=I,d':=M0 }) (λi=>i<=t.n/\(t.ns.take i).any (λd=>decide (d.k=6)&&(decide (d.hi=-1)&&(xs.getD (d.aS.headD 0).toNat cb).z))=false) (λi=>t.n-i) ?_ ?_
 ·exact⟨0,⟨bF _,rfl⟩,.refl,fo,.nil⟩
 rintro i⟨hi,eb⟩;refine aM.mk (λh=>?_) (λh=>?_)
 rotate_left
 ·have cE:i=t.n:=by have:¬ (i:Int)<(t.n:Int):=cu h;omega
  rw[gM (by omega)]at eb;refine⟨_,_,.refl,?_,rfl,rfl⟩;rw[pg,eb]
 have a0:i<t.n:=by have:(i:Int)<(t.n:Int):=cm h;omega
 have bZ:i<t.ns.length:=by omega
 obtain⟨ad,b3,br⟩:=aI.bj.row bh.dc a0 bZ;have ah:=aI.ns _ (dr bZ);have rr:=Ep al bZ;have qp:=pD al i bZ;have ev:=ah.kn;have nf:(t.ns.take (i+1)).any (λd=>decide (d.k=6)&&(decide (d.hi=-1)&&(xs.getD (d.aS.headD 0).toNat cb).z))=(decide (t.ns[i].k=6)&&(decide (t.ns[i].hi=-1)&&(xs.getD (t.ns[i].aS.headD 0).toNat cb).z)):=by rw[iT bZ,apK,eb,w2]
 generalize t.ns[i]=d at br ah rr qp ev nf;refine bl.mk ad i b3 rfl a0 ?_;refine aw.mk _ (br _) ?_;refine c0.mk (λbp=>?_) (λbp=>?_)
 rotate_left
 ·have s3:decide (d.k=6)=false:=bp;rw[s3]at nf;refine bb.mk _ (c7 (i:=i) (by omega)) ?_;exact⟨i+1,⟨⟨a0,nf⟩,by omega⟩,.refl,fo,.nil⟩
 have s3:decide (d.k=6)=true:=bp;have auv:d.k=6:=cm s3;rw[s3,q3]at nf;refine c0.mk (λU=>?_) (λU=>?_)
 rotate_left
 ·have nE:decide (d.hi=-1)=false:=U;rw[nE]at nf;refine bb.mk _ (c7 (i:=i) (by omega)) ?_;exact⟨i+1,⟨⟨a0,nf⟩,by omega⟩,.refl,fo,.nil⟩
 have nE:decide (d.hi=-1)=true:=U;rw[nE,q3]at nf;have e3:0<d.aS.length:=by have:=Yk ah.k.1 rr (by omega);omega
 obtain⟨h',iI,gY⟩:=ah.bj.one (j:=0) (by omega) e3;have aj:=qp _ (dr e3);have aR:d.aS.headD 0=d.aS[0]:=apJ e3;rw[aR]at nf;have gT:d.aS[0].toNat<xs.length:=by omega
 obtain⟨TS,TT,TU⟩:=ab.rd _ gT;have aB:xs.getD d.aS[0].toNat cb=xs[d.aS[0].toNat]:=by simp[dB,gT]
 rw[aB]at nf;refine bl.mk h' 0 iI rfl (by omega) ?_;refine aw.mk _ (gY _) ?_;refine bl.mk TS d.aS[0].toNat TT (by omega) (by omega) ?_;refine aw.mk _ (TU.part (k:=0) (m:=1) (by decide)) ?_;refine aM.mk (λbk=>?_) (λbk=>?_)
 ·have ij:xs[d.aS[0].toNat].z=true:=bk;refine⟨_,_,.refl,?_,rfl,rfl⟩;rw[pg,apL (i:=i+1) (by rw[nf,ij])]
 ·have ij:xs[d.aS[0].toNat].z=false:=bk;rw[ij]at nf;refine bb.mk _ (c7 (i:=i) (by omega)) ?_;exact⟨i+1,⟨⟨a0,nf⟩,by omega⟩,.refl,fo,.nil⟩
def eg.mark(s:eg)(i k:Nat):eg:=⟨s.n,s.m.set i (s.m.getD i 0 ||| l9 k),s.w⟩
def ll(b:Nat)(s:eg):aF:=⟨b,.cells s.cells.toArray 184 (0,0)⟩
def eg.dc(s:eg):s.cells.length=66:=by simp[eg.cells,vi]
def apN{s:eg}(a2:ll b s∈M){j:Nat}(an:j<64):cx I M (((⟨b,0,none⟩:Addr).add 1).add (j*1)) 1 [p3 (s.m.getD j 0)]:=by rw[dY (⟨b,0,none⟩:Addr) rfl,dY _ rfl];refine⟨rfl,_,_,_,.inr ⟨_,a2,rfl,rfl⟩,?_,rfl⟩;simp only[dp,jk];show(s.cells.drop (1+j)).take 1=_;rw[eg.cells,Gq 1 j,IL,Y7 (by rw[vi];omega),fg (by rw[vi];exact an),py,oL,oM];simp[lK]
def apO{s:eg}(ax:s.m.length=64){i k:Nat}(hi:i<64):bQ s.cells (0+1+i*1) [p3 (s.m.getD i 0 ||| l9 k)]=(s.mark i k).cells:=by
 unfold eg.cells eg.mark;simp only;have aC:bQ (Value.int .i64 s.n::(lK s.m++[p3 s.w])) (0+1+i*1) [p3 (s.m.getD i 0 ||| l9 k)]=Value.int .i64 s.n::(bQ (lK s.m) (0+i*1) [p3 (s.m.getD i 0 ||| l9 k)]++[p3 s.w]):=by have h:=Zr [Value.int .i64 s.n] (lK s.m) [p3 s.w] i [p3 (s.m.getD i 0 ||| l9 k)] (by rw[vi];show i+1<=64;omega);simp only[zH,HM,eM,ko,dp,jk]at h |-;exact h
 rw[aC,adg s.m ax i hi]
def cc.apP{x y:Nat}{vs:List Value}{K:List aF->Prop}(bi post:List aF)(cs:List Value)(T:Nat)(a2:M=bi++⟨b,.cells cs.toArray T (0,0)⟩::post)(ag:0+x+y+vs.length<=cs.length)(U:iW vs=true)
  (cs':List Value) (he:bQ cs (0+x+y) vs=cs') (h:K (bi++⟨b,.cells cs'.toArray T (0,0)⟩::post)):cc M (((⟨b,0,none⟩:Addr).add x).add y) vs K:=by
 rw[dY (⟨b,0,none⟩:Addr) rfl,dY _ rfl];exact cc.av bi post cs.toArray T a2 rfl (by rw[og];simpa using ag) U cs' he h
def apQ{M1:List aF}{g:cA}(aB:g.ok I){k:Nat}(ae:ee nm g.ds 0=k)(apR:k<64){b1 b6 b7 i:Nat}(hi:i<64){s:eg}(ax:s.m.length=64)(U:(⟨b1,.cells #[.slice g.a g.n g.c] 24 (0,0)⟩:aF)∈M1)(ec:(⟨b7,.cells #[.int .i64 i] 3 (0,0)⟩:aF)∈M1) :
  Spec Tryz.prog 168 [.string nm,ptr b1,ptr b6,ptr b7] I (ll b6 s::M1) λv I' M'=>I'=I/\M'=ll b6 (s.mark i k)::M1:=by
 refine bY [] aV Tryz.func168 rfl rfl rfl ?_;intro B ay;refine aw.mk [.slice g.a g.n g.c] ⟨rfl,_,_,_,.inr ⟨_,.tail _ U,rfl,rfl⟩,rfl,rfl⟩ ?_;have ar:Spec Tryz.prog 59 [g.val,.string nm] I (ll b6 s::M1) λv I' M'=>v=.int .i64 k/\I'=I/\M'=ll b6 s::M1:=by refine Spec.p2 (Spec.frame (Xn aB nm)) ?_;rintro v J M⟨M',rfl,-,-,rfl,rfl,rfl⟩;rw[ae];exact⟨rfl,rfl,rfl⟩
 refine a9.whole _ ar ?_;rintro v J N -⟨rfl,dn,cM⟩;subst J;subst N;refine aM.mk (λ_=>?_) (λh=>?_)
 rotate_left
 ·have:¬ (0:Int)<=(k:Int):=cu h;omega
 refine cq.draw aV rfl rfl rfl ?_;refine aw.mk [.int .i64 i] ⟨rfl,_,_,_,.inr ⟨_,.tail _ ec,rfl,rfl⟩,rfl,rfl⟩ ?_;refine dR.mk i rfl hi ?_;refine aw.mk _ (apN (.head _) hi) ?_;refine tb.mk k rfl ?_;refine bb.mk _ (TQ apR) ?_;refine dR.mk i rfl hi ?_;refine cc.apP [] M1 s.cells _ rfl ?_ rfl (s.mark i k).cells ?_ ?_
 ·rw[eg.dc];show 0+1+i*1+1<=66;omega
 ·show bQ s.cells (0+1+i*1) [Value.int .u64 (FN (s.m.getD i 0).toNat (l9 k).toNat)]=_;rw[M3];exact apO ax hi
 exact⟨_,_,.refl,rfl,rfl⟩
def eg.marks(s:eg)(i:Nat)(l:List Nat):eg:=l.foldl (λs k=>s.mark i k) s
def eg.adk(s:eg)(i:Nat)(l m:List Nat):s.marks i (l++m)=(s.marks i l).marks i m:=Qk
def eg.F4:∀ (l:List Nat) (s:eg) (i:Nat),(s.marks i l).m.length=s.m.length
 |[],s,i=>rfl| k::l,s,i=>by have:=eg.F4 l (s.mark i k) i;unfold eg.marks at this |-;rw[uj,this];simp[eg.mark]
def TV(b1 b6 b7:Nat):Value:=.func (.func 168) #[] #[ptr b1,ptr b6,ptr b7]
def adl{I:a5}{g:cA}(aB:g.ok I)(mK:g.n<=64){t:eH}(aI:t.ok I)(vj:Bz t)(al:right t=true)(eb:tH (bJ g.ds) t.ns=true){F:List a8}{M1:List aF}{b1 b6 b7 i:Nat}(hi:i<64)(U:(⟨b1,.cells #[.slice g.a g.n g.c] 24 (0,0)⟩:aF)∈M1)(ec:(⟨b7,.cells #[.int .i64 i] 3 (0,0)⟩:aF)∈M1){xa:Option Addr}{xc:Nat}(ab:oi I M1 xa t.n (ep (bJ g.ds) F t.ns [])) : ∀ (m j:Nat),j<m->∀ (an:j<t.ns.length) (s:eg) (ax:s.m.length=64),Spec Tryz.prog 167 [t.val,.slice xa t.n xc,.int .i64 j,TV b1 b6 b7] I (ll b6 s::M1) λv I' M'=>I'=I/\M'=ll b6 (s.marks i (g1 (bJ g.ds) F t.ns j).2)::M1
 |0,j,h,_,_,_=>absurd h (Bw _)
 |m+1,j,auw,an,s,ax=>by
  have be:=adl (b6:=b6) (xc:=xc) aB mK aI vj al eb hi U ec ab m;have ri:=aI.n;have gC:=aB.n;have eI:=dr an;have ah:=aI.ns _ eI;have ev:=ah.kn;have TW:=vj _ eI;have hz:=Ep al an;have F1:=Nv ah.k.1 hz;have qp:=pD al j an;have tg:=hI.1 eb _ eI;have bz:=Nz (pl:=bJ g.ds) (F:=F) al an;have m0:=HU (bJ g.ds) F t.ns [];simp only[ko,dp]at m0;obtain⟨ad,b3,br⟩:=aI.bj.row bh.dc (show j<t.n by omega) an;have mu:(g1 (bJ g.ds) F t.ns j).2=mJ (bJ g.ds) t.ns[j] (t.ns[j].aS.map (g1 (bJ g.ds) F t.ns)):=by rw[bz];rfl
  rw[mu];clear bz mu;have yv:∀ q (h:q<t.ns[j].aS.length),∃ k:Nat,t.ns[j].aS[q]=k/\k<j:=λq h=>by have:=qp _ (dr h);exact⟨t.ns[j].aS[q].toNat,by omega,by omega⟩
  generalize t.ns[j]=d at *;refine bY [] aV Tryz.func167 rfl rfl rfl ?_;intro B ay;refine bl.mk ad j b3 rfl (by omega) ?_;refine aw.mk _ (br _) ?_;refine aM.mk (λe=>?_) (λbx=>?_);·have e:d.k=3:=cm e;obtain⟨q,zx,nP,DJ⟩:=Nw (nm:=d.t) (ds:=g.ds) (by simpa[e]using tg);refine a9.whole _ (apQ aB zx (by omega) hi ax U ec) ?_;rintro v J N -⟨dn,cM⟩;subst J;subst N;refine⟨_,_,.refl,rfl,?_⟩;rw[mJ,dF e,a4,DJ];rfl
  have bx:¬ d.k=3:=cu bx;refine aM.mk (λe=>?_) (λcU=>?_)
  ·have e:d.k=4:=cm e;have tO:mJ (bJ g.ds) d (d.aS.map (g1 (bJ g.ds) F t.ns))=t' (d.aS.map (g1 (bJ g.ds) F t.ns)):=by rw[mJ,bG bx,dF e];rfl
   rw[tO];refine ea.inv (ι:=Nat×eg) (λx=>{ bK:=[(1,.val (.slice xa t.n xc)),(3,.val (TV b1 b6 b7)),(4,.ref 4 0),(42,.val (.slice d.ml d.kn d.k7)),(43,.val (.int .i64 d.kn)),(44,.val (.int .i64 x.1))],cl:=[(4,t.cells)],dz:=I,d':=ll b6 x.2::M1 }) (λx=>x.1<=d.kn/\x.2.m.length=64/\s.marks i (t' (d.aS.map (g1 (bJ g.ds) F t.ns)))=x.2.marks i (t' ((d.aS.drop x.1).map (g1 (bJ g.ds) F t.ns)))) (λx=>d.kn-x.1) ?_ ?_;·exact⟨(0,s),⟨bF _,ax,rfl⟩,.refl,e7,.cons rfl (.nil)⟩
   rintro⟨q,cH⟩⟨aL,te,jB⟩;simp only at aL te jB;refine aM.mk (λh=>?_) (λh=>?_)
   rotate_left
   ·have cE:d.aS.length<=q:=by have:¬ (q:Int)<(d.kn:Int):=cu h;omega
    rw[M8 cE]at jB;refine⟨_,_,.refl,rfl,?_⟩;rw[jB];rfl
   have a0:q<d.kn:=by have:(q:Int)<(d.kn:Int):=cm h;omega
   have bZ:q<d.aS.length:=by omega
   obtain⟨h',iI,gY⟩:=ah.bj.one a0 bZ;obtain⟨k,ae,RO⟩:=yv q bZ;rw[ae]at gY;have zM:k<(ep (bJ g.ds) F t.ns []).length:=by omega
   obtain⟨TS,TT,TU⟩:=ab.rd k zM;have o8:(d.aS.drop q).map (g1 (bJ g.ds) F t.ns)=g1 (bJ g.ds) F t.ns k::(d.aS.drop (q+1)).map (g1 (bJ g.ds) F t.ns):=by rw[fg bZ,dQ,ae]
   have mw:(g1 (bJ g.ds) F t.ns k).1=(ep (bJ g.ds) F t.ns [])[k]:=by rw[NA];simp[dB,zM]
   rw[o8,t',mw,eg.adk]at jB;refine bl.mk h' q iI rfl a0 ?_;refine aw.mk _ (gY _) ?_;refine a9.whole _ (be k (by omega) (by omega) cH te) ?_;rintro v J N -⟨dn,cM⟩;subst J;subst N;refine bl.mk TS k TT rfl (by omega) ?_;refine aw.mk _ ((TU.sub λx ab=>.tail _ ab).part (k:=0) (m:=1) (by decide)) ?_;refine aM.mk (λbk=>?_) (λbk=>?_)
   ·have ij:(ep (bJ g.ds) F t.ns [])[k].z=false:=by simpa using bk
    rw[ij]at jB;refine⟨_,_,.refl,rfl,?_⟩;rw[jB];rfl
   ·have ij:(ep (bJ g.ds) F t.ns [])[k].z=true:=by simpa using bk
    rw[ij]at jB;refine bb.mk _ (c7 (i:=q) (by omega)) ?_;exact⟨(q+1,cH.marks i (g1 (bJ g.ds) F t.ns k).2),⟨⟨a0,by rw[eg.F4];exact te,jB⟩,by simp only;omega⟩,.refl,e7,.cons rfl (.nil)⟩
  have cU:¬ d.k=4:=cu cU;refine aM.mk (λe=>?_) (λgg=>?_)
  ·have e:d.k=6:=cm e;have apS:=F1.one (by omega);have e3:0<d.aS.length:=by omega
   refine aM.mk (λaR=>?_) (λaR=>?_)
   ·have B7:decide (d.hi=0)=false:=by have B6:(!decide (d.hi=0))=true:=aR;simpa using B6
    obtain⟨h',iI,gY⟩:=ah.bj.one (j:=0) (by omega) e3;obtain⟨k,ae,RO⟩:=yv 0 e3;rw[ae]at gY;have tO:mJ (bJ g.ds) d (d.aS.map (g1 (bJ g.ds) F t.ns))=(g1 (bJ g.ds) F t.ns k).2:=by
     have h7:d.aS=[(k:Int)]:=by
      match ab:d.aS,e3,apS,ae with
      |[a],_,_,ae=>simp only[y4]at ae;rw[ae]| _::_::_,_,h,_=>simp at h;omega
     rw[mJ,bG bx,bG cU,B7,h7];simp
    rw[tO];refine cq.draw aV rfl rfl rfl ?_;refine bl.mk h' 0 iI rfl (by omega) ?_;refine aw.mk _ (gY _) ?_;refine a9.whole _ (be k (by omega) (by omega) s ax) ?_;rintro v J N -⟨dn,cM⟩;subst J;subst N;exact⟨_,_,.refl,rfl,rfl⟩
   ·have B7:decide (d.hi=0)=true:=by have B6:(!decide (d.hi=0))=false:=aR;simpa using B6
    have tO:mJ (bJ g.ds) d (d.aS.map (g1 (bJ g.ds) F t.ns))=[]:=by rw[mJ,bG bx,bG cU,dF e,B7];rfl
    rw[tO];exact⟨_,_,.refl,rfl,rfl⟩
  have gg:¬ d.k=6:=cu gg;have tO:mJ (bJ g.ds) d (d.aS.map (g1 (bJ g.ds) F t.ns))=(d.aS.map (g1 (bJ g.ds) F t.ns)).flatMap (·.2):=by rw[mJ,bG bx,bG cU,bG gg];rfl
  rw[tO];refine ea.inv (ι:=Nat×eg) (λx=>{ bK:=[(1,.val (.slice xa t.n xc)),(3,.val (TV b1 b6 b7)),(4,.ref 4 0),(21,.val (.slice d.ml d.kn d.k7)),(22,.val (.int .i64 d.kn)),(23,.val (.int .i64 x.1))],cl:=[(4,t.cells)],dz:=I,d':=ll b6 x.2::M1 }) (λx=>x.1<=d.kn/\x.2.m.length=64/\s.marks i ((d.aS.map (g1 (bJ g.ds) F t.ns)).flatMap (·.2))=x.2.marks i (((d.aS.drop x.1).map (g1 (bJ g.ds) F t.ns)).flatMap (·.2))) (λx=>d.kn-x.1) ?_ ?_;·exact⟨(0,s),⟨bF _,ax,rfl⟩,.refl,e7,.cons rfl (.nil)⟩
  rintro⟨q,cH⟩⟨aL,te,jB⟩;simp only at aL te jB;refine aM.mk (λh=>?_) (λh=>?_)
  rotate_left
  ·have cE:d.aS.length<=q:=by have:¬ (q:Int)<(d.kn:Int):=cu h;omega
   rw[M8 cE]at jB;refine⟨_,_,.refl,rfl,?_⟩;rw[jB];rfl
  have a0:q<d.kn:=by have:(q:Int)<(d.kn:Int):=cm h;omega
  have bZ:q<d.aS.length:=by omega
  obtain⟨h',iI,gY⟩:=ah.bj.one a0 bZ;obtain⟨k,ae,RO⟩:=yv q bZ;rw[ae]at gY;rw[fg bZ,dQ,ae,qh,eg.adk]at jB;refine bl.mk h' q iI rfl a0 ?_;refine aw.mk _ (gY _) ?_;refine a9.whole _ (be k (by omega) (by omega) cH te) ?_;rintro v J N -⟨dn,cM⟩;subst J;subst N;refine bb.mk _ (c7 (i:=q) (by omega)) ?_;exact⟨(q+1,cH.marks i (g1 (bJ g.ds) F t.ns k).2),⟨⟨a0,by rw[eg.F4];exact te,jB⟩,by simp only;omega⟩,.refl,e7,.cons rfl (.nil)⟩
end Go.V
