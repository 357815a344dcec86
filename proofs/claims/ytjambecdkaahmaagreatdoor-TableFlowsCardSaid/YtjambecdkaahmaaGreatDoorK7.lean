/- Part 7 of what the proofs of this seat share: the executor, data in memory, walks.
-/
import Derived.Test.YtjambecdkaahmaaGreatDoorK6
import Derived.Test.YtjambecdkaahmaaGreatDoorK2
import Derived.Test.YtjambecdkaahmaaGreatDoorK3
import Derived.Test.YtjambecdkaahmaaGreatDoorK5
import Derived.Test.YtjambecdkaahmaaGreatDoorK4
set_option linter.all false
set_option maxHeartbeats 16000000
set_option maxRecDepth 100000
namespace Go.V
open Go
def T2:=@List.getElem_append_right
def Hq:=@Bool.or_true
variable{f n0 n aP:Nat}{l W:List a7}{args:List ak}{v:ak}{us:List Value}{X:cD}{G:GT}{pr:j3}{D0:bp}{aj:a8 ak}{m m':bi}{w w':World}{x:Operand}{D M M':List ay}{ex:qB}{Q:Value->aS->List ay->Prop}{g:dX}{I I':aS}{P:Program}{Y:fE}{arr:Array Value}{α:Type}{d:a9}{c:cy}{os:bk}{bU s:ByteArray}{ds:List bE}{t:ef}{p:aZ×Bool}{F:List aZ}{aW:List Int}{L parts:List (Nat×Nat)}{y' Ba Bb Bc:ay}
section
variable{Y:fE}{D:bp}{m m':bi}{I:aS}{M:List ay}
def aer(aL:y9 Y f){l:Nat}{gd:Loc}(h:LH (h9 Y f) l args m=some (v,m'))(ar:D l=some gd)(hu:bx D args us)(hm:cR Y D m I M) :
  B3 Y.P gd.b us I M λr I' M'=>∃ bm,D.ext bm m.n/\aI bm v r/\cR Y bm m' I' M':=by
 unfold LH at h;split at h
 ·rename_i n kY ps eC body aA;obtain⟨L,a4,c7⟩:=(hm.hg _ _ _ aA ar).Hp;intro W fY;have B7:W.heap[gd.b]?=some (.loop L):=fY.m _ a4;have dw:L.state=.ready:=c7.au;have sR:∀ t∈ps,t<L.tmps.size:=λt av=>by rw[c7.sz];exact c7.op t (by rw[c7.ps];exact av)
  obtain⟨eI,U,bV,cI,T3⟩:=T1 (tmps:=L.tmps) h hu sR c7.aj;have my:L.params.size=ps.length:=by rw[<-c7.ps];simp
  refine⟨_,_,_,_,run_yield B7 (by rw[my];simpa using bV),?_⟩;have IL:(L.params.zip us.toArray).foldl (λtmps (x:Nat×Value)=>match x with | (t,a)=>tmps.setIfInBounds t a) L.tmps=(ps.zip us).foldl (λ(tmps:Array Value) (p:Nat×Value)=>tmps.setIfInBounds p.1 p.2) L.tmps:=by rw[<-H6,<-c7.ps];simp
  rw[IL];generalize b6:(ps.zip us).foldl (λ(tmps:Array Value) (p:Nat×Value)=>tmps.setIfInBounds p.1 p.2) L.tmps=T at T3 cI;rw[c7.eC,c7.body];have D5:gM n eC=true:=by rw[<-c7.eC];exact c7.x4
  have Ma:gM n body=true:=by rw[<-c7.body];exact c7.mg
  refine roundIn_of_wpIn (F:=Fence.wide) (n:=0) trivial ?_;let s5:cD:=ia Y n W.heap.size W I (M.map (·.num)) (some gd.b)
  have BL:cp s5 (λ_=>0) { tmps:=T,defers:=[] } W (λt=>.val (T.getD t undef)) (λ_=>none) I M:={
   size:=cI.trans c7.sz
   defers:=⟨[],rfl,xt,λr al=>by cases al⟩
   holds:=fY
   aj:=λt=>rfl
   b5:=λs cs ap=>by cases ap
   inj:=λs cq U=>by simp at U
   gP:=λb o ai=>ai
   gu:=λb o ai=>.inl ai
   own:=λx ab=>.inl (ej.2 ⟨x,ab,rfl⟩)
   c3:=λb ai az=>rfl
   out:=.refl _
   sz:=cC _ }
  unfold S3 at U;split at U
  ·rename_i sw m2 aes;have gQ:jR s5 Y.G Y.pr D m.n eI m { tmps:=T,defers:=[] } W:=⟨D,_,_,I,M,⟨_,BL⟩,λt v ag=>.val (T3 t v ag),hm,bp.mJ,cC _⟩;refine wpIn_mono (aL _ _ _ _ _ _ _ _ aes D5 _ _ _ _ _ D m.n _ _ (λe=>by cases e) gQ) ?_;rintro e cc hK⟨rfl,Hr,T4,T5,dP,dr,⟨T6,oZ⟩,aet,pT,A9,wS⟩;have uL:Hr l=some gd:=by rw[A9 l (hm.h' _ _ ar)];exact ar
   have aa:LF (h9 Y f) l n body (m2.t.get l) sw m2=some (v,m'):=U;unfold LF at aa;split at aa
   ·rename_i hA aeu aev aew LG jj;obtain⟨za,T7,rl⟩:=(pT.hg _ _ _ jj uL).Hp;obtain⟨a6,post,b0⟩:=sm T7;have iT:dr.Perm (⟨gd.b,.loop za⟩::(a6++post)):=by rw[b0];exact pi
    have T8:hK.heap[gd.b]?=some (.loop za):=oZ.holds.m _ T7;have aex:=(jS.1 T8).1;refine⟨_,run_beginRound T8 rl.au,?_⟩;obtain⟨t3,af,aR⟩:=a8.mG (some (fe.loop true hA aeu aev aew LG)) m2.t l;rw[af]at aa;have aey:cp s5 T6 cc (hK.putObj gd.b (.loop { za with state:=.busy })) T4 T5 dP (⟨gd.b,.loop { za with state:=.busy }⟩::(a6++post)):=
     (oZ.hh (.perm iT .refl)).swap (by simp) (zG aex) (λb ai=>k1 ai) (ED _ _ _)
    have ku:cR Y Hr ⟨t3,m2.n⟩ dP (⟨gd.b,.loop { za with state:=.busy }⟩::(a6++post)):=pT.swap jj uL iT aR (.loop { za with state:=.busy } (by simp) ⟨rfl,rl.nK,rl.sz,rl.aj,rl.ps,rl.eC,rl.body,rl.x4,rl.mg,rl.op⟩);unfold S2 at aa;obtain⟨⟨ex,aiU,D6⟩,u1,bC⟩:=ck aa;have vW:jR s5 Y.G Y.pr D m.n sw ⟨t3,m2.n⟩ cc (hK.putObj gd.b (.loop { za with state:=.busy })):=⟨Hr,T4,T5,dP,_,⟨T6,aey⟩,aet,ku,A9,wS⟩;refine wpIn_mono (aL _ _ _ _ _ _ _ _ u1 Ma _ _ _ _ _ D m.n _ _ (λe=>by cases e) vW) ?_;rintro e fx iu⟨rfl,MB,aez,aeA,mf,nQ,⟨aeB,Hs⟩,aiV,zb,T9,T'⟩;have Ua:MB l=some gd:=by rw[T9 l (hm.h' _ _ ar)];exact ar
    have bO:LD l (D6.t.get l) (zM ex) D6=some (v,m'):=bC;unfold LD at bO;split at bO
    ·rename_i Ub Uc Ud Ue Uf yh;obtain⟨MC,MD,xk⟩:=(zb.hg _ _ _ yh Ua).Hp;obtain⟨Ug,Uh,aeC⟩:=sm MD;have Ui:nQ.Perm (⟨gd.b,.loop MC⟩::(Ug++Uh)):=by rw[aeC];exact pi
     have Uj:iu.heap[gd.b]?=some (.loop MC):=Hs.holds.m _ MD;have aeD:=(jS.1 Uj).1;obtain⟨t5,eo,gg⟩:=a8.mG (some (bN (zM ex) (fe.loop false Ub Uc Ud Ue Uf) λc=>fe.done c Ub Uc Ud Ue Uf)) D6.t l;rw[eo]at bO;cases bO;have fin:∀ jump,zM ex=jump->∃ pB w',(Instr.endRound gd.b jump).run Y.P iu=.ok pB w'/\∃ r I' M',Ending.returned pB=.returned r/\(∃ bm,D.ext bm m.n/\aI bm (.b (zM ex).isNone) r/\cR Y bm ⟨t5,D6.n⟩ I' M')/\dY I' M' w'/\Kept I M W I' M' w':=by
      rintro jump an;let Ht:Loop:={ MC with state:=if jump.isNone then .ready else .done,pending:=jump }
      have Uk:cp s5 aeB fx (iu.putObj gd.b (.loop Ht)) aez aeA mf (⟨gd.b,.loop Ht⟩::(Ug++Uh)):=
       (Hs.hh (.perm Ui .refl)).swap (by simp) (zG aeD) (λb ai=>k1 ai) (ED _ _ _)
      refine⟨_,_,run_endRound jump Uj,_,mf,_,rfl,⟨MB,T9,?_,zb.swap yh Ua Ui gg ?_⟩,Uk.holds,Uk.kept rfl rfl rfl rfl⟩;·rw[an];simp[aI]
      ·rw[an];cases jump with
       |none=>exact .loop Ht (by simp) ⟨rfl,rfl,xk.sz,xk.aj,xk.ps,xk.eC,xk.body,xk.x4,xk.mg,xk.op⟩| some c=>exact .done Ht (by simp) rfl rfl
     cases ex with
     |normal=>exact fin none rfl| exit id=>exact fin _ rfl| goto t=>exact fin _ rfl| ret=>exact fin _ rfl
    ·cases bO
   ·cases aa
  ·cases U
 ·cases h
end
section
variable{Y:fE}
def aeE(aE:cE Y.P Y.E)(cr:tP Y.P)(k0:vp Y)(aL:y9 Y f):DS Y (GZ Y (h9 Y f)):=λadJ l m v m' h D I M u us vD e' hm=>by
 unfold GZ at h;split at h
 ·rename_i g b' cs;simp only[aI]at vD;obtain⟨vs,ws,U,aa,rfl⟩:=vD;refine .inl ⟨g,_,_,rfl,?_⟩;have:=T0 aE cr k0 aL h (U.append (e'.append aa)) hm;simpa using this
 ·rename_i q;simp only[aI]at vD;obtain⟨gd,U,rfl⟩:=vD;exact .inr ⟨gd.b,rfl,aer aL h U e' hm⟩
 ·cases h
def jR.world{a:Act}(h:jR X G pr D0 n0 aj m a w):∃ D F β,(∀ t,dZ β (F t) (a.tmps.getD t undef))/\om D F aj:=by obtain⟨D,F,C,I,M,⟨β,a1⟩,cr,_⟩:=h;exact⟨D,F,β,a1.aj,cr⟩
def jR.eval{a:Act}(h:jR X G pr D0 n0 aj m a w){b:Bool}(ab:cS aj x=some (.b b)):a.eval x=.bool b:=by obtain⟨D,F,β,U,aa⟩:=h.world;obtain⟨u,aw,aT⟩:=(aa.op [x]).br (x:=x) (by simp) ab;rw[cV U aw,aT.bool]
def ff.ok{D:bp}{β:Nat->Nat}{x:c6}{u:Value}(h:ff D x v)(ab:dZ β x u):aI D v u:=by
 rcases h with⟨y,rfl,h⟩ | ⟨q,rfl,rfl⟩
 ·have:u=y:=ab;subst this;exact h
 ·have:u=.bool q:=ab;subst this;simp[aI]
def aeF(aE:cE Y.P Y.E)(cr:tP Y.P)(k0:vp Y)(aL:y9 Y f){hf:Bool}{ps:Array Tmp}{eC body:Code}{cF:a8 ak}(h:LJ Y (h9 Y f) hf n (cS aj x) ps.toList eC body aj m=some (ex,cF,m'))(bf:gM n (.rangeFunc x ps eC body)=true){B:Nat}{ao:World}{dj:aS}{bW:List Nat}{ro:Option Nat}{a:Act}(kc:hf=true->ro=none)(ap:jR (ia Y n B ao dj bW ro) Y.G Y.pr D0 n0 aj m a w) :
  (Code.rangeFunc x ps eC body).wpIn (fN (ia Y n B ao dj bW ro)) 0 Y.P (λe a w=>e=xi ex/\jR (ia Y n B ao dj bW ro) Y.G Y.pr D0 n0 cF m' a w) a w:=by
 unfold LJ at h;split at h
 ·rename_i g cap ab;have IN:=kc rfl;subst IN;obtain⟨D,F,C,I,M,⟨β,a1⟩,ME,hm,e7,lH⟩:=ap;obtain⟨u,aw,aT⟩:=(ME.op [x]).br (x:=x) (by simp) ab;simp only[aI]at aT;obtain⟨vs,ws,U,aa,rfl⟩:=aT;have g7:=U.ly;subst g7;simp only[gM,b3]at bf;obtain⟨t1,af,aR⟩:=DH h;refine wpIn_rangeFunc λfn _=>?_;let gm:Loop:={ state:=.ready,pending:=none,fn:=fn,tmps:=a.tmps,params:=ps,assign:=eC,body:=body,defers:=w.heap.size }
  let l:=w.heap.size+1
  let kI:World:=(w.alloc (.deferred (some []))).alloc (.loop gm)
  have xS:=a1.Ol.mM (.loop gm);have ar:(w.alloc (.deferred (some []))).heap.size=l:=by simp[l]
  rw[ar]at xS;have aeG:∀ q∈M,q.num≠l:=λq aO e=>by have:=a1.holds.lt aO;omega
  have Ul:cR Y (D.set m.n ⟨l,0,0⟩) ⟨t1,m.n+1⟩ I (⟨l,.loop gm⟩::M):=hm.new (a:=⟨l,0,0⟩) af aeG (.loop gm (by simp) ⟨rfl,rfl,a1.size,λt v av=>((ME t v av).ok (a1.aj t)).mono (bp.w7 _ hm.fresh),rfl,rfl,rfl,bf.1,bf.2.1,λt av=>bJ (gi.1 bf.2.2 t av)⟩);unfold S6 at aR;obtain⟨⟨v,m2⟩,kJ,bC⟩:=ck aR;have Um:=bp.w7 (D:=D) ⟨l,0,0⟩ hm.fresh;have kQ:bx (D.set m.n ⟨l,0,0⟩) (.y m.n::cap) (.func (.yield l) #[] #[]::ws):=.cons (by simp only[aI];exact⟨_,bp.pC _ _ _,rfl⟩) (aa.mono Um);obtain⟨nB,xF⟩:=TZ aE cr k0 aL kJ kQ Ul;have aeH:=xF kI xS.holds;have aB:=cV a1.aj aw;refine⟨l,[uj w.heap.size],kI,{ target:=.fn (.func g) ws.toArray,args:=#[.func (.yield l) #[] #[]] },kI,g,(.func (.yield l) #[] #[]::ws).toArray,kI,?_,?_,λ_ _=>trivial,?_,(λh=>by cases h),?_⟩;·show(Instr.enterLoop fn a.tmps ps eC body none).run Y.P w=_;exact run_enterLoop_outer fn a.tmps ps eC body
  ·show(Deferred.ofValue (a.eval x) (#[Operand.const (.func (.yield l) #[] #[])].map a.eval)).run Y.P kI=_;rw[aB];simp[Deferred.ofValue,Act.eval]
  ·simp only[invoke];rw[show #[Value.func (.yield l) #[] #[]]++ws.toArray=(.func (.yield l) #[] #[]::ws).toArray from by apply fM;simp];exact nB _ _
  ·refine(Ij (X:=ia Y n B ao dj bW none) aeH _).mono ?_;rintro e me⟨r,hL,mc,rfl,⟨Bd,MF,tf,ku⟩,Un,aeI⟩;have vX:=xS.after (Mr:=[]) (by simp) Un aeI;rw[dF]at vX;have xU:Bd m.n=some ⟨l,0,0⟩:=by rw[MF m.n (Eu _)];exact bp.pC _ _ _
   have D7:=Ul.le MF;have aeJ:om Bd F aj:=λt v av=>(ME t v av).mono (bp.le_trans Um D7);have aeK:D0.ext Bd n0:=λi hi=>by
    have fa:i<m.n+1:=by
     have:i<m.n:=by omega
     omega
    rw[MF i fa];show(if i=m.n then _ else D i)=D0 i;rw[cA (by omega)];exact e7 i hi
   have fin:∀ (L:Loop) (t4:a8 fe) (j:Option Code),(⟨l,.loop L⟩:ay)∈mc->L.state≠.busy->L.pending=j->(∃ cv,m2.t.get m.n=some cv)->(∀ id e,t4.get id=some e->(id=m.n/\(none:Option fe)=some e)\/(id≠m.n/\m2.t.get id=some e))->n0<=m2.n ->
     ∃ iu,(Instr.endLoop l).run Y.P me=.ok j iu/\jR (ia Y n B ao dj bW none) Y.G Y.pr D0 n0 aj ⟨t4,m2.n⟩ { a with defers:=[uj w.heap.size]++a.defers } iu:=by
    rintro L t4 j c7 ai aG⟨cv,aeL⟩JE T';have aeM:me.heap[l]?=some (.loop L):=Un.m _ c7;obtain⟨a6,post,b0⟩:=sm c7;have iT:mc.Perm (⟨l,.loop L⟩::(a6++post)):=by rw[b0];exact pi
    have kN:∀ i ey,t4.get i=some ey->i≠m.n/\m2.t.get i=some ey:=λi ey hi=>by
     rcases JE i ey hi with⟨_,gg⟩ | gg;·cases gg
     ·exact gg
    have Hs:=(vX.hh (.perm iT .refl)).B6 (o':=.loop { L with state:=.exhausted });refine⟨_,(by rw[<-aG];exact run_endLoop aeM ai),Bd,F,C,hL,a6++post,⟨β,Hs⟩,aeJ,⟨λi ey b hi hI=>?_,λi fQ ey xe b hX hi cw=>ku.inj i fQ ey xe b hX (kN i ey hi).2 (kN fQ xe cw).2,ku.h',ku.oj⟩,aeK,T'⟩;refine(ku.hg i ey b (kN i ey hi).2 hI).mono (bp.le_refl Bd) λq aO ax=>?_;rcases eg.1 (iT.mem_iff.1 aO)with rfl | aO;·exact((kN i ey hi).1 (ku.inj _ _ _ _ _ _ (kN i ey hi).2 aeL hI xU ax.symm)).elim
    ·exact aO
   have wS:∀ {cv:fe},m2.t.get m.n=some cv->n0<=m2.n:=λ_=>by have:=ku.h' _ _ xU;omega
   have bO:(match m2.t.get m.n with
    |some (.loop false ..)=>m2.t.lx none m.n λt=>some (qB.normal,aj,(⟨t,m2.n⟩:bi))
    |some (.done c ..)=>bN (LI c) none λex=>m2.t.lx none m.n λt=>some (ex,aj,⟨t,m2.n⟩)
    |_=>none)=some (ex,cF,m'):=bC
   split at bO;·rename_i z9 aeN aeO aeP aeQ ml;obtain⟨L,c7,Uo⟩:=(ku.hg _ _ _ ml xU).Hp;obtain⟨t4,eo,gg⟩:=a8.mG (none:Option fe) m2.t m.n;rw[eo]at bO;cases bO;obtain⟨iu,eT,o1⟩:=fin L t4 none c7 (by rw[Uo.au];simp) Uo.nK ⟨_,ml⟩ gg (wS ml);exact⟨none,iu,eT,rfl,o1⟩
   ·rename_i c z9 aeN aeO aeP aeQ ml;obtain⟨L,c7,dw,aeR⟩:=(ku.hg _ _ _ ml xU).aeq;obtain⟨y2,hex,bO⟩:=ck bO;obtain⟨t4,eo,gg⟩:=a8.mG (none:Option fe) m2.t m.n;rw[eo]at bO;cases bO;obtain⟨iu,eT,o1⟩:=fin L t4 (some c) c7 (by rw[dw];simp) aeR ⟨_,ml⟩ gg (wS ml);refine⟨some c,iu,eT,?_⟩;unfold LI at hex;split at hex
    ·cases hex;exact wpIn_exit ⟨rfl,o1⟩
    ·cases hex;exact wpIn_goto ⟨rfl,o1⟩
    ·cases hex;exact wpIn_ret ⟨rfl,o1⟩
    ·cases hex
   ·cases bO
 ·cases h
end
section
variable{Y:fE}
def Up{next:Act->World->Prop}{Q:Exit->Act->World->Prop}{a:Act}(h:Q (xi ex) a w)(bB:ex≠.normal):Exit.then next Q (xi ex) a w:=by cases ex<;>first | exact(bB rfl).elim | exact h
def aeS(aE:cE Y.P Y.E)(cr:tP Y.P)(k0:vp Y)(iE:Y.P.follows .mixedOrders=true):∀ f k,k<=f->y9 Y k:=by
 intro f
 induction f with
 |zero=>
  intro k ae hf n c aj m ex cF m' h;have:k=0:=by omega
  subst this;cases h
 |succ f be=>
  intro k ae;by_cases uZ:k<=f;·exact be k uZ
  have Ck:k=f+1:=by omega
  subst Ck;have aL:=be f (cC _);have kJ:=aeE aE cr k0 aL;intro hf n c aj m ex cF m' h bf B ao dj bW ro D0 n0 a w kc ap;have U:LK Y f (h9 Y f) hf n c aj m=some (ex,cF,m'):=h;have iL:=@ia.fH Y n B ao dj bW ro;unfold LK at U;cases c with
  |skip=>cases U;exact wpIn_skip ⟨rfl,ap⟩| label l=>cases U;exact wpIn_label ⟨rfl,ap⟩| ret=>cases U;exact wpIn_ret ⟨rfl,ap⟩| exit id=>cases U;exact wpIn_exit ⟨rfl,ap⟩| goto l=>cases U;exact wpIn_goto ⟨rfl,ap⟩| refuse s=>cases U
  |seq x y=>
   simp only[gM,b3]at bf;simp only[Dz]at U;split at U;·rename_i eI c8 ab;refine wpIn_seq (wpIn_mono (aL _ _ _ _ _ _ _ _ ab bf.1 B ao dj bW ro D0 n0 a w kc ap) ?_);rintro e cc hK⟨rfl,gQ⟩;exact aL _ _ _ _ _ _ _ _ U bf.2 B ao dj bW ro D0 n0 cc hK kc gQ
   ·rename_i d';refine wpIn_seq (wpIn_mono (aL _ _ _ _ _ _ _ _ U bf.1 B ao dj bW ro D0 n0 a w kc ap) ?_);rintro e cc hK⟨rfl,gQ⟩;exact Up ⟨rfl,gQ⟩ λe=>d' cF m' (by rw[U,e])
  |block id c=>
   simp only[gM]at bf;simp only[S4]at U;split at U
   ·rename_i j eI c8 ab;refine wpIn_block (wpIn_mono (aL _ _ _ _ _ _ _ _ ab bf B ao dj bW ro D0 n0 a w kc ap) ?_);rintro e cc hK⟨rfl,gQ⟩;simp only[xi,Exit.inBlock];by_cases an:j=id
    ·subst an;rw[oE]at U;have aa:some (qB.normal,eI,c8)=some (ex,cF,m'):=U;cases aa;rw[cK rfl];exact⟨rfl,gQ⟩
    ·rw[fX an]at U;have aa:some (qB.exit j,eI,c8)=some (ex,cF,m'):=U;cases aa;rw[cA an];exact⟨rfl,gQ⟩
   ·rename_i d';refine wpIn_block (wpIn_mono (aL _ _ _ _ _ _ _ _ U bf B ao dj bW ro D0 n0 a w kc ap) ?_);rintro e cc hK⟨rfl,gQ⟩;cases ex with
    |exit j=>exact(d' j cF m' U).elim| normal=>exact⟨rfl,gQ⟩| goto l=>exact⟨rfl,gQ⟩| ret=>exact⟨rfl,gQ⟩
  |cond x eE eL=>
   simp only[gM,b3]at bf;simp only[S5]at U;split at U
   ·rename_i b ab;refine wpIn_cond (ap.eval ab) ?_;cases b with
    |true=>exact aL _ _ _ _ _ _ _ _ U bf.1 B ao dj bW ro D0 n0 a w kc ap| false=>exact aL _ _ _ _ _ _ _ _ U bf.2 B ao dj bW ro D0 n0 a w kc ap
   ·cases U
  |loop c=>
   simp only[gM]at bf;let J (k:Nat) (a:Act) (w:World):Prop:=k<=f+1/\∃ eI c8,h9 Y k hf n (.loop c) eI c8=some (ex,cF,m')/\jR (ia Y n B ao dj bW ro) Y.G Y.pr D0 n0 eI c8 a w
   refine EM J (m:=f+1) ⟨cC _,aj,m,h,ap⟩ ?_;rintro k cc hK⟨ae,eI,c8,aa,gQ⟩;cases k with
   |zero=>cases aa
   |succ k=>
    have Uq:=be k (by omega);have af:Dz (h9 Y k hf n c eI c8) (h9 Y k hf n (.loop c))=some (ex,cF,m'):=aa;simp only[Dz]at af;split at af;·rename_i sw m2 ab;refine wpIn_mono (Uq _ _ _ _ _ _ _ _ ab bf B ao dj bW ro D0 n0 cc hK kc gQ) ?_;rintro e dd kI⟨rfl,mN⟩;exact⟨k,Eu k,by omega,sw,m2,af,mN⟩
    ·rename_i d';refine wpIn_mono (Uq _ _ _ _ _ _ _ _ af bf B ao dj bW ro D0 n0 cc hK kc gQ) ?_;rintro e dd kI⟨rfl,mN⟩;exact Up ⟨rfl,mN⟩ λe=>d' cF m' (by rw[af,e])
  |region id ops aeT=>
   cases aeT with
   |false=>simp only[G0]at U;obtain⟨⟨eI,c8⟩,ab,aa⟩:=ck U;cases aa;refine wpIn_region ?_;have:=Me (X:=ia Y n B ao dj bW ro) (G:=Y.G) (pr:=Y.pr) (D0:=D0) (n0:=n0) aE iL kJ ops (λe a w=>e=xi .normal/\jR (ia Y n B ao dj bW ro) Y.G Y.pr D0 n0 eI c8 a w) (λa w h=>⟨rfl,h⟩) ops.toList 0 (by simp) (EL bf) ab ap;have eT:wpOpsIn (fN (ia Y n B ao dj bW ro)) 0 Y.P ops (λe a w=>e=xi .normal/\jR (ia Y n B ao dj bW ro) Y.G Y.pr D0 n0 eI c8 a w) (List.range' 0 ops.toList.length) a w:=this;rw[H4];simpa using eT
   |true=>simp only[G0]at U;obtain⟨⟨eI,c8⟩,ab,aa⟩:=ck U;cases aa;exact adV (X:=ia Y n B ao dj bW ro) (G:=Y.G) (pr:=Y.pr) (D0:=D0) (n0:=n0) aE iL kJ iE bf ab (λa w h=>⟨rfl,h⟩) ap
  |scope c=>
   simp only[gM]at bf;have step:∀ (k:Nat) (x:Code) (eI:a8 ak) (c8:bi) (cc:Act) (hK:World),gM n x=true->DA (h9 Y f) hf n c (k+1) x eI c8=some (ex,cF,m')->jR (ia Y n B ao dj bW ro) Y.G Y.pr D0 n0 eI c8 cc hK ->
     x.wpIn (fN (ia Y n B ao dj bW ro)) 0 Y.P (λe bS w'=>match e with
      | .goto l=>∃ a2 sw m2,findLabel c l=some a2/\DA (h9 Y f) hf n c k a2 sw m2=some (ex,cF,m')/\jR (ia Y n B ao dj bW ro) Y.G Y.pr D0 n0 sw m2 bS w'| e=>e=xi ex/\jR (ia Y n B ao dj bW ro) Y.G Y.pr D0 n0 cF m' bS w') cc hK:=λk x eI c8 cc hK ab aa gQ=>by
    have af:(match h9 Y f hf n x eI c8 with
     |some (.goto l,aj,m)=>bN (findLabel c l) none λa2=>DA (h9 Y f) hf n c k a2 aj m
     |r=>r)=some (ex,cF,m'):=aa
    split at af;·rename_i l sw m2 he;obtain⟨a2,vS,aR⟩:=ck af;refine wpIn_mono (aL _ _ _ _ _ _ _ _ he ab B ao dj bW ro D0 n0 cc hK kc gQ) ?_;rintro e dd kI⟨rfl,mN⟩;exact⟨a2,sw,m2,vS,aR,mN⟩
    ·rename_i d';refine wpIn_mono (aL _ _ _ _ _ _ _ _ af ab B ao dj bW ro D0 n0 cc hK kc gQ) ?_;rintro e dd kI⟨rfl,mN⟩;cases ex with
     |goto l=>exact(d' l cF m' af).elim| exit j=>exact⟨rfl,mN⟩| normal=>exact⟨rfl,mN⟩| ret=>exact⟨rfl,mN⟩
   let J (l k:Nat) (a:Act) (w:World):Prop:=∃ a2 eI c8,findLabel c l=some a2/\DA (h9 Y f) hf n c k a2 eI c8=some (ex,cF,m')/\jR (ia Y n B ao dj bW ro) Y.G Y.pr D0 n0 eI c8 a w
   cases f with
   |zero=>cases U
   |succ Cj=>
    refine Oj J (wpIn_mono (step Cj c aj m a w bf U ap) ?_) ?_
    ·intro e cc hK he;cases e with
     |goto l=>exact⟨Cj,he⟩| _=>exact he
    ·rintro l k cc hK⟨a2,eI,c8,vS,aa,gQ⟩;cases k with
     |zero=>cases aa
     |succ k=>
      refine⟨a2,vS,wpIn_mono (step k a2 eI c8 cc hK (My bf vS) aa gQ) ?_⟩;intro e dd kI he;cases e with
      |goto c4=>exact⟨k,Eu k,he⟩| _=>exact he
  |rangeFunc x ps eC body=>exact aeF aE cr k0 aL U bf kc ap
def reckon(aE:cE Y.P Y.E)(cr:tP Y.P)(k0:vp Y)(iE:Y.P.follows .mixedOrders=true){g:Nat}(h:qg Y (h9 Y f) g args m=some (v,m')){D:bp}(hu:bx D args us)(hm:cR Y D m I M) : Spec Y.P g us I M λr I' M'=>∃ bm,D.ext bm m.n/\aI bm v r/\cR Y bm m' I' M':=
 T0 aE cr k0 (aeS aE cr k0 iE f f (cC _)) h hu hm
end
def Ur(h:dY I M w)(U:dY I' M' w')(aa:Kept I [] w I' M' w') :
  dY I' (M'++M) w'/\Kept I M w I' (M'++M) w'/\∀ x∈M',∀ y∈M,x.num≠y.num:=by
 have aK:∀ x∈M,x.num<w.heap.size:=λx ab=>(jS.1 (h.m x ab)).1;have c1:∀ x∈M',w.heap.size<=x.num:=λx ab=>by
  rcases aa.ug x ab with⟨y,aN,_⟩ | h;·cases aN
  ·exact h
 have bB:∀ x∈M',∀ y∈M,x.num≠y.num:=λx ab y aN e=>by have:=aK y aN;have:=c1 x ab;omega
 refine⟨⟨U.i,λx ab=>?_,λx ab=>?_,?_⟩,⟨aa.le,aa.sF,λx ab=>?_,λb ai _=>aa.c3 b ai (by simp),aa.out,aa.sz⟩,bB⟩
 ·rcases eb.1 ab with ab | ab
  ·exact U.m x ab
  ·rw[aa.c3 x.num (aK x ab) (by simp)];exact h.m x ab
 ·rcases eb.1 ab with ab | ab
  ·exact U.d x ab
  ·cases he:I' x.num with
   |none=>rfl
   |some o=>
    rcases aa.sF _ _ he with af | af;·rw[h.d x ab]at af;cases af
    ·have:=aK x ab;omega
 ·rw[gX,zr];refine⟨U.ch,h.ch,λa aC b ai e=>?_⟩;obtain⟨x,ab,rfl⟩:=ej.1 aC;obtain⟨y,aN,rfl⟩:=ej.1 ai;exact bB x ab y aN e
 ·rcases eb.1 ab with ab | ab
  ·exact .inr (c1 x ab)
  ·exact .inl ⟨x,ab,rfl⟩
def Spec.frame{args:List Value}(h:Spec P f args I [] Q):Spec P f args I M λr I' lG=>∃ M',lG=M'++M/\(∀ x∈M',∀ y∈M,x.num≠y.num)/\(∀ b o,I b=some o->I' b=some o)/\Q r I' M':=by
 have ao:∀ {w:World},dY I M w->dY I [] w:=λhw=>⟨hw.i,by simp,by simp,by simp⟩;rcases h with⟨U,aa⟩ | h
 ·refine .inl ⟨U,λw hw=>?_⟩;refine(aa w (ao hw)).mono ?_;rintro e w'⟨v,I',M',aw,aB,bD,dH⟩;obtain⟨aT,aU,bG⟩:=Ur hw bD dH;exact⟨v,I',M'++M,aw,⟨M',rfl,bG,dH.le,aB⟩,aT,aU⟩
 ·refine .inr λw hw=>?_;obtain⟨v,w',I',M',aw,aB,bD,dH⟩:=h w (ao hw);obtain⟨aT,aU,bG⟩:=Ur hw bD dH;exact⟨v,w',I',M'++M,aw,⟨M',rfl,bG,dH.le,aB⟩,aT,aU⟩
mutual
def ib(k:Nat):ak->ak
 | .p id off=>.p (Nat.add id k) off| .sl id off n c=>.sl (Nat.add id k) off n c| .sx id off e n=>.sx (Nat.add id k) off e n| .m id=>.m (Nat.add id k)| .y id=>.y (Nat.add id k)| .f g l r=>.f g (ou k l) (ou k r)| .Dm t v=>.Dm t (ib k v)| .t l=>.t (ou k l)| .a l=>.a (ou k l)| .b x=>.b x| .i a n=>.i a n| .s l=>.s l| .pn=>.pn| .g n off=>.g n off| .sn=>.sn| .gs n off a c=>.gs n off a c| .so=>.so| .mn=>.mn| .fn=>.fn| .ni=>.ni
def ou(k:Nat):List ak->List ak
 |[]=>[]| v::l=>ib k v::ou k l
end
section
mutual
def Be{D0 D:bp}{k:Nat}(cT:∀ id a,D0 id=some a->D (Nat.add id k)=some a):∀ (v:ak) {u:Value},aI D0 v u->aI D (ib k v) u
 | .p id off,u,h=>by simp only[aI,ib]at h |-;obtain⟨a,aC,h⟩:=h;exact⟨a,cT _ _ aC,h⟩
 | .sl id off n c,u,h=>by simp only[aI,ib]at h |-;obtain⟨a,aC,h⟩:=h;exact⟨a,cT _ _ aC,h⟩
 | .sx id off e n,u,h=>by simp only[aI,ib]at h |-;obtain⟨a,aC,h⟩:=h;exact⟨a,cT _ _ aC,h⟩
 | .m id,u,h=>by simp only[aI,ib]at h |-;obtain⟨a,aC,h⟩:=h;exact⟨a,cT _ _ aC,h⟩
 | .y id,u,h=>by simp only[aI,ib]at h |-;obtain⟨a,aC,h⟩:=h;exact⟨a,cT _ _ aC,h⟩
 | .f g l r,u,h=>by simp only[aI,ib]at h |-;obtain⟨vs,ws,U,aa,h⟩:=h;exact⟨vs,ws,D8 cT l U,D8 cT r aa,h⟩
 | .Dm t v,u,h=>by simp only[aI,ib]at h |-;obtain⟨x,U,h⟩:=h;exact⟨x,Be cT v U,h⟩
 | .t l,u,h=>by simp only[aI,ib]at h |-;obtain⟨x,U,h⟩:=h;exact⟨x,D8 cT l U,h⟩
 | .a l,u,h=>by simp only[aI,ib]at h |-;obtain⟨x,U,h⟩:=h;exact⟨x,D8 cT l U,h⟩
 | .b x,u,h=>by simpa only[aI,ib]using h
 | .i a n,u,h=>by simpa only[aI,ib]using h
 | .s l,u,h=>by simpa only[aI,ib]using h
 | .pn,u,h=>by simpa only[aI,ib]using h
 | .g n off,u,h=>by simpa only[aI,ib]using h
 | .sn,u,h=>by simpa only[aI,ib]using h
 | .gs n off a c,u,h=>by simpa only[aI,ib]using h
 | .so,u,h=>by simpa only[aI,ib]using h
 | .mn,u,h=>by simpa only[aI,ib]using h
 | .fn,u,h=>by simpa only[aI,ib]using h
 | .ni,u,h=>by simpa only[aI,ib]using h
def D8{D0 D:bp}{k:Nat}(cT:∀ id a,D0 id=some a->D (Nat.add id k)=some a):∀ (l:List ak) {us:List Value},bx D0 l us->bx D (ou k l) us
 |[],us,h=>by simpa only[bx,ou]using h
 |v::l,us,h=>by simp only[bx,ou]at h |-;obtain⟨x,xs,U,aa,h⟩:=h;exact⟨x,xs,Be cT v U,D8 cT l aa,h⟩
end
end
inductive sy where
 |cells(l:List ak)(T:Nat)| map (es:List (ak×ak))
noncomputable def D9:fe->Option sy
 | .cells cs T eQ=>cs.AH 0 eQ λl=>some (.cells l T)
 | .map es=>some (.map es)| _=>none
noncomputable def readAll(t:a8 fe):Nat->Nat->Option (List sy)
 |_,0=>some []| id,n+1=>bN (t.get id) none λe=>bN (D9 e) none λs=>bN (readAll t (Nat.add id 1) n) none λl=>some (s::l)
def MG(k:Nat):List (ak×ak)->List (ak×ak)
 |[]=>[]| p::l=>(ib k p.1,ib k p.2)::MG k l
noncomputable def sy.hg(k:Nat):sy->fe
 | .cells l T=>a8.vc (ou k l) .nil 0 λcs=>.cells cs T l.length
 | .map es=>.map (MG k es)
noncomputable def Hu{R:Type}(k:Nat):List sy->Nat->a8 fe->(a8 fe->R)->R
 |[],_,t,K=>K t| s::l,id,t,K=>t.lx (some (s.hg k)) id λt=>Hu k l (Nat.add id 1) t K
noncomputable def MH(v:ak)(L:List sy)(m:bi):Option (ak×bi):=pA m.n λn=>pA (Nat.add n L.length) λhA=>Hu n L n m.t λt=>some (ib n v,⟨t,hA⟩)
def Us{t:a8 fe}:∀ {n id:Nat} {L:List sy},readAll t id n=some L->L.length=n/\∀ j s,L[j]?=some s->∃ e,t.get (id+j)=some e/\D9 e=some s
 |0,id,L,h=>by cases h;exact⟨rfl,by simp⟩
 |n+1,id,L,h=>by
  unfold readAll at h;obtain⟨e,U,h⟩:=ck h;obtain⟨s,aa,h⟩:=ck h;obtain⟨l,af,h⟩:=ck h;cases h;obtain⟨aT,aU⟩:=Us af;refine⟨by simp[aT],λj cq an=>?_⟩;cases j with
  |zero=>cases an;exact⟨e,U,aa⟩| succ j=>obtain⟨bn,dO,bL⟩:=aU j cq (by simpa using an);refine⟨bn,?_,bL⟩;rw[<-dO];congr 1;show id+(j+1)=id+1+j;omega
def Ut(k:Nat):∀ (L:List sy) (id:Nat) (t:a8 fe),∃ eS:a8 fe,(∀ {R:Type} (K:a8 fe->R),Hu k L id t K=K eS) /\ ∀ j e,eS.get j=some e->(id<=j/\∃ s,L[j-id]?=some s/\e=s.hg k)\/((j<id\/id+L.length<=j)/\t.get j=some e)
 |[],id,t=>⟨t,λK=>rfl,λj e h=>.inr ⟨by simp;omega,h⟩⟩
 |s::L,id,t=>by
  obtain⟨t1,U,aa⟩:=a8.mG (some (s.hg k)) t id;obtain⟨eS,af,aR⟩:=Ut k L (id+1) t1;refine⟨eS,λK=>?_,λj e h=>?_⟩;·unfold Hu;rw[U];exact af K
  ·rcases aR j e h with⟨aT,cq,aU,bG⟩ | ⟨aT,aU⟩
   ·refine .inl ⟨by omega,cq,?_,bG⟩;rw[show j-id=(j-(id+1))+1 by omega];simpa using aU
   ·rcases aa j e aU with⟨rfl,bG⟩ | ⟨bG,fk⟩
    ·refine .inl ⟨cC _,s,by simp,?_⟩;cases bG;rfl
    ·refine .inr ⟨?_,fk⟩;simp only[e1];omega
def aeU{D:bp}{k:Nat}(cT:∀ id a,D0 id=some a->D (Nat.add id k)=some a){es:List (ak×ak)}{l:List MapEntry}(h:oo D0 es l):oo D (MG k es) l:=by
 induction h with
 |nil=>exact .nil| cons ae ag t be=>exact .cons (Be cT _ ae) (Be cT _ ag) be
def Uu{k:Nat}:∀ {l:List ak} {i:Nat} {v:ak},(ou k l)[i]?=some v->∃ tQ,l[i]?=some tQ/\v=ib k tQ
 |[],i,v,h=>by simp[ou]at h
 |x::l,0,v,h=>by simp only[ou,List.getElem?_cons_zero,iJ]at h;exact⟨x,rfl,h.symm⟩
 |x::l,i+1,v,h=>by simp only[ou,Eo]at h;simpa using Uu h
def aeV{D:bp}{k:Nat}(cT:∀ id a,D0 id=some a->D (Nat.add id k)=some a){E:Env}(a4:∀ x∈M,x∈M'){a:Loc}{e:fe}{s:sy}(h:jQ D0 E M a e)(al:D9 e=some s):jQ D E M' a (s.hg k):=by
 cases h with
 | @cells cs T eQ arr ao U aa af aR bC=>
  unfold D9 at al;obtain⟨l,aT,aU,bG⟩:=a8.AW cs eQ 0 _ _ al;cases bG;obtain⟨eS,dO,bL⟩:=a8.vh (ou k l) (.nil:a8 ak) 0;show jQ D E M' a (a8.vc (ou k l) .nil 0 λcs=>fe.cells cs T l.length);rw[dO,aT];refine .cells arr ao (a4 _ U) aa (λi v hi aA=>?_) aR bC;rcases bL i v aA with⟨_,h⟩ | ⟨_,h⟩;·obtain⟨tQ,aw,rfl⟩:=Uu (by simpa using h);have:=aU i hi;rw[dk,aw]at this;obtain⟨x,f1,f2⟩:=af i tQ hi this;exact⟨x,f1,Be cT _ f2⟩
  ·cases h
 |map l clock U aa=>cases al;exact .map l clock (a4 _ U) (aeU cT aa)| loop L U aa=>cases al| done L U aa af=>cases al
def aeW(aE:cE Y.P Y.E)(cr:tP Y.P)(iE:Y.P.follows .mixedOrders=true){g:Nat}{vo:bi}{tQ:ak}{L:List sy}(ao:qg ⟨Y.P,Y.E,λ_=>none,λ_ _ _=>none⟩ (h9 ⟨Y.P,Y.E,λ_=>none,λ_ _ _=>none⟩ f) g args ⟨.nil,0⟩=some (tQ,vo))(c7:readAll vo.t 0 vo.n=some L)(e3:∀ D us,bx D args us->bx (λ_=>none) args us)(h:MH tQ L m=some (v,m')){D:bp}(hu:bx D args us)(hm:cR Y D m I M) :
  Spec Y.P g us I M λr I' M'=>∃ bm,D.ext bm m.n/\aI bm v r/\cR Y bm m' I' M':=by
 have k0:vp ⟨Y.P,Y.E,λ_=>none,λ_ _ _=>none⟩:=λg vs m v m' h=>by cases h
 have aeX:cR ⟨Y.P,Y.E,λ_=>none,λ_ _ _=>none⟩ (λ_=>none) ⟨.nil,0⟩ I []:=⟨λid e a h a'=>(by cases a'),λid g4 e bn a bS h U a'=>(by cases a'),λid a h=>(by cases h),λg cs h=>(by cases h)⟩;have ap:=(reckon (Y:=⟨Y.P,Y.E,λ_=>none,λ_ _ _=>none⟩) aE cr k0 iE ao (e3 D us hu) aeX).frame (M:=M);refine Spec.xj ap ?_;rintro r I' lG⟨M0,rfl,bB,bo,D0,-,ag,Bf⟩;unfold MH at h;rw[LL,LL]at h;obtain⟨eS,U,aa⟩:=Ut m.n L m.n m.t;rw[U]at h;cases h;obtain⟨aT,aU⟩:=Us c7;let bm:bp:=λid=>if id<m.n then D id else D0 (id-m.n)
 have cT:∀ id a,D0 id=some a->bm (Nat.add id m.n)=some a:=λid a aC=>by show(if id+m.n<m.n then D (id+m.n)else D0 (id+m.n-m.n))=some a;rw[cA (by omega),Nat.add_sub_cancel,aC]
 have oH:D.le bm:=λid a aC=>by show(if id<m.n then D id else D0 (id-m.n))=some a;rw[cK (hm.h' _ _ aC),aC]
 have lo:∀ id,id<m.n->bm id=D id:=λid hi=>cK hi;have cw:∀ id,m.n<=id->bm id=D0 (id-m.n):=λid hi=>cA (by omega);have src:∀ id e a,eS.get id=some e->bm id=some a->(m.n<=id/\∃ s cv,e=s.hg m.n/\vo.t.get (id-m.n)=some cv/\D9 cv=some s/\D0 (id-m.n)=some a)\/(id<m.n/\m.t.get id=some e/\D id=some a):=λid e a he aC=>by
  rcases aa id e he with⟨dO,s,bL,fB⟩ | ⟨dO,bL⟩;·obtain⟨cv,k7,C1⟩:=aU _ _ bL;rw[dk]at k7;rw[cw _ dO]at aC;exact .inl ⟨dO,s,cv,fB,k7,C1,aC⟩
  ·rcases Gv id m.n with aK | c1
   ·rw[lo _ aK]at aC;exact .inr ⟨aK,bL,aC⟩
   ·rw[cw _ c1]at aC;have:=Bf.h' _ _ aC;omega
 refine⟨bm,λid hi=>lo id hi,Be cT _ ag,⟨λid e a he aC=>?_,λid g4 e bn a bS he EX aC yW ai=>?_,λid a aC=>?_,hm.oj.mono bo⟩⟩
 ·rcases src id e a he aC with⟨dO,s,cv,rfl,bL,fB,k7⟩ | ⟨dO,bL,fB⟩
  ·exact aeV cT (λx ab=>zq _ ab) (Bf.hg _ _ _ bL k7) fB
  ·exact(hm.hg _ _ _ bL fB).mono oH λx ab _=>zp _ ab
 ·rcases src id e a he aC with⟨dO,s,cv,rfl,bL,fB,k7⟩ | ⟨dO,bL,fB⟩
  ·rcases src g4 bn bS EX yW with⟨h6,cq,aeY,rfl,hd,iS,MI⟩ | ⟨h6,hd,iS⟩
   ·have:=Bf.inj _ _ _ _ _ _ bL hd k7 MI ai;omega
   ·obtain⟨x,ab,Hv⟩:=Bf.aY bL k7;obtain⟨y,aN,MJ⟩:=hm.aY hd iS;exact(bB x ab y aN (Hv.trans (ai.trans MJ.symm))).elim
  ·rcases src g4 bn bS EX yW with⟨h6,cq,aeY,rfl,hd,iS,MI⟩ | ⟨h6,hd,iS⟩
   ·obtain⟨x,ab,Hv⟩:=Bf.aY hd MI;obtain⟨y,aN,MJ⟩:=hm.aY bL fB;exact(bB x ab y aN (Hv.trans (ai.symm.trans MJ.symm))).elim
   ·exact hm.inj _ _ _ _ _ _ bL hd fB iS ai
 ·show id<m.n+L.length;rcases Gv id m.n with aK | c1
  ·omega
  ·rw[cw _ c1]at aC;have:=Bf.h' _ _ aC;omega
open Go Go.Proofs
def aeZ(k:Nat):liesAt Tryz.prog Tryz.prog.depth 240 ((k+1)*2/Tryz.prog.cellsOf 240) 0 240 1=true:=by
 have aa:Tryz.prog.cellsOf 240=2:=by kernel_rfl
 have ah:Tryz.prog.depth=(Tryz.prog.depth-1)+1:=by kernel_rfl
 have m9:sameLayout Tryz.prog Tryz.prog.depth 240 240=true:=by kernel_rfl
 have al:rowAt Tryz.prog (sameLayout Tryz.prog Tryz.prog.depth · 240) Tryz.prog.depth 240 (k+1) 0 1=true:=by
  generalize az:(sameLayout Tryz.prog Tryz.prog.depth · 240)=f;have vT:f 240=true:=by rw[<-az];exact m9
  rw[ah];unfold rowAt;simp only[aa,vT];simp
 rw[aa,Nat.mul_div_cancel _ (by decide:0<2)];rw[ah];unfold liesAt;rw[al];rfl
def ae0(a6 post:List ay)(b:Nat)(v:Value)(k:Nat)(a2:List Value)(al:a2.length=2*k) :
  Spec Tryz.prog 191 [ptr b] I (a6++⟨b,.cells (.pointer none::v::a2).toArray 240 (0,0)⟩::post) λr I' M'=>r=.tuple #[]/\I'=I/\M'=a6++⟨b,.cells (bu (.pointer none::v::a2) 0 [ptr b]).toArray 240 (0,0)⟩::post:=by
 obtain⟨inf,z,hi,fa,_⟩:=(aV 240 _ rfl).inf;refine bX [] aV Tryz.func191 rfl rfl rfl ?_;intro B ao;have hm:∀ {o:Obj},(⟨b,o⟩:ay)∈a6++⟨b,o⟩::post:=fun {o}=>eb.2 (.inr (.head _));have cI:(Value.pointer none::v::a2).toArray.size=(k+1)*2:=by simp[al];omega
 have ar:liesAt Tryz.prog Tryz.prog.depth 240 ((Value.pointer none::v::a2).toArray.size/Tryz.prog.cellsOf 240) 0 240 1=true:=by rw[cI];exact aeZ k
 refine aF.mk [.pointer none] (dn (cs:=.pointer none::v::a2) (k:=0) (n:=1) (T:=240) hm (by simp)) ?_;refine .other (bl.Fj aV rfl (by simp) rfl rfl rfl rfl ?_);refine a0.mk (λ_=>?_) (λh=>by cases h);refine bl.conv rfl (by simp) rfl (λw hw=>Lib.run_to_unsafe (t:=240) (e:=240) w ⟨b,0,none⟩ (by kernel_rfl) (by kernel_rfl) (j:=inf) (cells:=(Value.pointer none::v::a2).toArray.size) hi (by rw[fa];decide) (Fm hw hm) (by rw[cI];show 0<_;omega)) ?_;refine bb.mk (a6++⟨b,.cells (.pointer none::v::a2).toArray 240 (0,0)⟩::post) [] _ (by simp) (I6 _) ?_;rintro v I' M' -⟨rfl,rfl,rfl⟩;refine bl.conv rfl (by simp) rfl (λw hw=>Lib.run_from_unsafe (u:=240) (e:=240) w ⟨b,0,none⟩ (by kernel_rfl) (by kernel_rfl) (j:=inf) (cells:=(Value.pointer none::v::a2).toArray.size) hi (Fm hw (eb.2 (.inl hm))) ar) ?_;refine cg.mk a6 post _ _ (dF _) rfl (by rw[cI];show 0+0+1<=(k+1)*2;omega) rfl ?_;exact⟨_,_,.refl,rfl,rfl,rfl⟩
def ae1{b:Nat}{T:Nat}(a4:(⟨b,.cells arr T (0,0)⟩:ay)∈M)(ao:arr[0]?=some (ptr b)) :
  Spec Tryz.prog 191 [ptr b] I M λr I' M'=>r=.tuple #[]/\I'=I/\M'=M:=by
 refine bX [] aV Tryz.func191 rfl rfl rfl ?_;intro B hp;have al:ca I M ((⟨b,0,none⟩:Addr).add 0) 1 [ptr b]:=by
  obtain⟨l⟩:=arr;cases l with
  |nil=>simp at ao| cons x l=>simp only[xp,List.getElem?_cons_zero,iJ]at ao;subst ao;exact dn (cs:=ptr b::l) (k:=0) (n:=1) a4 (by simp)
 refine aF.mk [ptr b] al ?_;refine .other (bl.Fj aV rfl (by simp) rfl rfl rfl rfl ?_);refine a0.mk (λh=>by cases h) (λ_=>?_);refine aF.mk [ptr b] al ?_;refine .other (bl.Pd aV rfl (by simp) rfl rfl rfl rfl rfl ?_);refine a0.mk (λh=>by cases h) (λ_=>?_);exact⟨_,_,.refl,rfl,rfl,rfl⟩
def ae2{D:bp}{R:Type}{id off:Nat}{cs:a8 ak}{T eQ:Nat}{a:Loc}{a6 post:List ay}(hm:cR Y D m I M)(aA:m.t.get id=some (.cells cs T eQ))(aC:D id=some a)(aq:a.o=0)(b0:M=a6++⟨a.b,.cells arr T (0,0)⟩::post)(cI:a.o+eQ<=arr.size)(aL:∀ i v,i<eQ->cs.get i=some v->∃ x,arr[a.o+i]?=some x/\aI D v x)(ae:∀ i,Y.E T=some i->arr.size=a.o+a.c*i.size)(iE:a.c<=maxLen)
  {l:List ak} {vs:List Value} (ar:bx D l vs) {K:bi->Option R} {r:R} (h:vf m (.p id off) l K=some r) :
  ∃ m',K m'=some r/\m'.n=m.n/\off+vs.length<=arr.size/\cR Y D m' I (a6++⟨a.b,.cells (bu arr.toList off vs).toArray T (0,0)⟩::post):=by
 unfold vf at h;simp only[aA]at h;cases ai:(Nat.ble (Nat.add off l.length) eQ&&l.all ak.one)with
 |false=>rw[ai]at h;cases h
 |true=>
  rw[ai]at h;simp only[bh]at h;rw[b3]at ai;have w9:off+l.length<=eQ:=bJ ai.1;obtain⟨cs',U,aa⟩:=a8.vh l cs off;rw[U]at h;obtain⟨eS,af,aR⟩:=a8.mG (some (fe.cells cs' T eQ)) m.t id;rw[af]at h;have bV:=ar.len;have fS:off+vs.length<=arr.size:=by omega
  refine⟨_,h,rfl,fS,?_⟩;have gn:∀ x∈M,x.num≠a.b->x∈a6++⟨a.b,.cells (bu arr.toList off vs).toArray T (0,0)⟩::post:=λx ab ax=>by
   rw[b0]at ab;rcases eb.1 ab with ab | ab;·exact eb.2 (.inl ab)
   ·rcases eg.1 ab with rfl | ab
    ·exact(ax rfl).elim
    ·exact eb.2 (.inr (lZ _ ab))
  refine hm.step (λi e hi=>(aR i e hi).imp (λq=>⟨q.1,mH q.2⟩) λq=>q) aC (bp.le_refl D) (λ_ _=>rfl) hm.h' (λ_ _ h=>h) (λi e bS bB hi ot x ab ax=>gn x ab ?_) ?_ ?_;·rw[ax];exact λai=>bB (hm.inj _ _ _ _ _ _ hi aA ot aC ai)
  ·have DJ:(bu arr.toList off vs).length=arr.size:=by rw[L1 (by simpa using fS)];simp
   refine .cells (bu arr.toList off vs).toArray aq (by simp) (by simp[DJ];exact cI) (λi v hi DK=>?_) (λi hi=>by simp[DJ];exact ae i hi) iE;rw[aq,dk];simp only[xp];rw[Tm (by simpa using fS)];rcases aa i v DK with⟨aT,aU⟩ | ⟨aT,aU⟩;·have aK:=(iI.1 aU).1;rw[cK ⟨aT,by omega⟩];exact ar.get aU
   ·rw[cA (by omega)];have:=aL i v hi aU;rw[aq,dk]at this;simpa using this
  ·intro i e bS bB hi ot ai;exact bB (hm.inj _ _ _ _ _ _ hi aA ot aC ai)
noncomputable def MK(m:bi)(vs:List ak):Option (ak×bi):=match vs with
 |[.p id 0]=>(match m.t.get id with
  |some (.cells cs T eQ)=>bR (Nat.beq T 240&&Nat.ble 2 eQ) (match cs.get 0 with
   |some .pn=>vf m (.p id 0) [.p id 0] λm=>some (.t [],m)
   |some (.p g4 0)=>bR (Nat.beq id g4) (some (.t [],m)) none| _=>none) none
  |_=>none)
 |_=>none
def ae3(v9:Y.P=Tryz.prog)(ae4:Y.E=jI){vs:List ak}(h:MK m vs=some (v,m')){D:bp}(hu:bx D vs us)(hm:cR Y D m I M) :
  Spec Y.P 191 us I M λr I' M'=>∃ bm,D.ext bm m.n/\aI bm v r/\cR Y bm m' I' M':=by
 unfold MK at h;split at h
 ·rename_i id;obtain⟨x,xs,ab,ax,rfl⟩:=hu.iW;obtain rfl:=ax.ly;obtain⟨a,aC,rfl⟩:=ab.ptr;split at h
  ·rename_i cs T eQ aA;obtain⟨U,aO⟩:=fF h;clear h;rw[b3]at U;obtain⟨b6,w9⟩:=U;obtain rfl:=cf b6;have w9:=bJ w9;obtain⟨arr,aq,a4,ar,aL,ae,iE⟩:=hm.hg _ _ _ aA aC;have cI:=ae _ (by rw[ae4];rfl);have cI:arr.size=a.c*2:=by rw[cI,aq,dk]
   have aG:Value.pointer (some ⟨a.b,a.o+0,none⟩)=ptr a.b:=by rw[aq];rfl
   split at aO
   ·rename_i zN;obtain⟨sV,e7,ML⟩:=aL 0 _ (by omega) zN;obtain⟨a6,post,b0⟩:=sm a4;obtain⟨c8,aa,af,aR,bC⟩:=ae2 hm aA aC aq b0 ar aL ae iE (l:=[.p id 0]) (vs:=[ptr a.b]) (by simp only[bx,aI];exact⟨_,_,⟨a,aC,aG.symm⟩,rfl,rfl⟩) aO;cases aa;rw[aG,v9,b0];obtain⟨l⟩:=arr;have ae5:sV=.pointer none:=by simpa only[aI]using ML
    rw[aq]at e7
    match l,e7,cI with
    |[],e7,_=>simp at e7| [_],_,cI=>simp at cI;omega
    |y::w::a2,e7,cI=>
     have aN:y=.pointer none:=by simpa[ae5]using e7
     subst aN;have gx:a2.length=2*(a.c-1):=by simp at cI;omega
     refine Spec.xj (ae0 a6 post a.b w (a.c-1) a2 gx) ?_;rintro r I' M'⟨rfl,rfl,rfl⟩;exact⟨D,bp.mJ,by simp only[aI,bx];exact⟨[],rfl,rfl⟩,bC⟩
   ·rename_i g4 zN;obtain⟨aa,n8⟩:=fF aO;obtain rfl:=cf aa;cases n8;obtain⟨sV,e7,ML⟩:=aL 0 _ (by omega) zN;obtain⟨bS,yW,rfl⟩:=ML.ptr;rw[aC]at yW;cases yW;rw[aG]at e7 |-;rw[v9];refine Spec.xj (ae1 a4 (by rw[<-e7,aq])) ?_;rintro r I' M'⟨rfl,rfl,rfl⟩;exact⟨D,bp.mJ,by simp only[aI,bx];exact⟨[],rfl,rfl⟩,hm⟩
   ·cases aO
  ·cases h
 ·cases h
def mE(I:aS):List ay->aS
 |[]=>I| x::l=>ins (mE I l) x.num x.obj
def Hw{I:aS}:∀ {M:List ay} {b:Nat} {o:Obj},mE I M b=some o->I b=some o\/∃ x∈M,x.num=b/\x.obj=o
 |[],b,o,h=>.inl h
 |x::l,b,o,h=>by
  unfold mE ins at h;by_cases e:b=x.num;·subst e;simp only[oE,bh,iJ]at h;exact .inr ⟨x,by simp,rfl,h⟩
  ·simp only[fX e,ba]at h;rcases Hw h with h | ⟨y,U,aa,af⟩
   ·exact .inl h
   ·exact .inr ⟨y,by simp[U],aa,af⟩
def Uv{I:aS}:∀ {M:List ay} (ax:(M.map (·.num)).Nodup) {x:ay},x∈M->mE I M x.num=some x.obj
 |y::l,ax,x,h=>by
  simp only[dV,lA]at ax;rcases eg.1 h with rfl | h;·unfold mE ins;simp only[oE,bh]
  ·have e:x.num≠y.num:=λe=>ax.1 (ej.2 ⟨x,h,e⟩);unfold mE ins;simp only[fX e,ba];exact Uv ax.2 h
def MM{I:aS}:∀ {M:List ay} (ah:∀ x∈M,I x.num=none) {b:Nat} {o:Obj},I b=some o->mE I M b=some o
 |[],ah,b,o,h=>h
 |y::l,ah,b,o,h=>by
  have e:b≠y.num:=λe=>by have:=ah y (by simp);rw[<-e,h]at this;cases this
  unfold mE ins;simp only[fX e,ba];exact MM (λx ab=>ah x (by simp[ab])) h
def ae6(ax:(M.map (·.num)).Nodup)(ah:∀ x∈M,I x.num=none){b:Nat}{o:Obj}(h:gO I M b o):mE I M b=some o:=by
 rcases h with h | ⟨x,U,rfl,rfl⟩
 ·exact MM ah h
 ·exact Uv ax U
structure Hx(I:aS)(M:List ay)(J:aS):Prop where
 kn:∀ b o,gO I M b o->J b=some o
 inv:∀ b o,J b=some o->gO I M b o
def Uw(U:dY I' M' w')(aa:Kept I [] w I' M' w'):Hx I' M' (mE I' M')/\dY (mE I' M') [] w'/\Kept I [] w (mE I' M') [] w':=by
 refine⟨⟨λb o h=>ae6 U.ch U.d h,λb o h=>?_⟩,⟨λb o h=>?_,by simp,by simp,by simp⟩,⟨λb o h=>MM U.d (aa.le _ _ h),λb o h=>?_,by simp,aa.c3,aa.out,aa.sz⟩⟩
 ·rcases Hw h with h | ⟨x,aT,aU,bG⟩
  ·exact .inl h
  ·exact .inr ⟨x,aT,aU,bG⟩
 ·rcases Hw h with h | ⟨x,aT,rfl,rfl⟩
  ·exact U.i _ _ h
  ·exact U.m _ aT
 ·rcases Hw h with h | ⟨x,aT,rfl,rfl⟩
  ·exact aa.sF _ _ h
  ·rcases aa.ug _ aT with⟨y,aN,_⟩ | h
   ·cases aN
   ·exact .inr h
def Spec.mE{args:List Value}(h:Spec P f args I [] Q):Spec P f args I [] λr J lG=>lG=[]/\(∀ b o,I b=some o->J b=some o)/\∃ I' M',Q r I' M'/\Hx I' M' J:=by
 rcases h with⟨U,aa⟩ | h
 ·refine .inl ⟨U,λw hw=>?_⟩;refine(aa w hw).mono ?_;rintro e w'⟨v,I',M',aw,aB,bD,dH⟩;obtain⟨aT,aU,bG⟩:=Uw bD dH;exact⟨v,_,[],aw,⟨rfl,bG.le,I',M',aB,aT⟩,aU,bG⟩
 ·refine .inr λw hw=>?_;obtain⟨v,w',I',M',aw,aB,bD,dH⟩:=h w hw;obtain⟨aT,aU,bG⟩:=Uw bD dH;exact⟨v,w',_,[],aw,⟨rfl,bG.le,I',M',aB,aT⟩,aU,bG⟩
noncomputable def zc{α:Type}(l:List α):a8 α:=a8.vc l .nil 0 id
def Ux{l:List α}{i:Nat}{v:α}(h:(zc l).get i=some v):l[i]?=some v:=by
 obtain⟨t,U,aa⟩:=a8.vh l (.nil:a8 α) 0;unfold zc at h;rw[U]at h;rcases aa _ _ h with⟨_,h⟩ | ⟨_,h⟩
 ·simpa using h
 ·cases h
noncomputable def MN:GT:=λg=>bR (Nat.beq g 0) (some (zc (lJ.map (ak.i .i64)))) (bR (Nat.beq g 1) (some (zc (rU.map ak.s))) (bR (Nat.beq g 3) (some (zc [.i .i64 0,.i .i64 1,.s [63],.i .i64 0,.i .i64 (-1),.s [42],.i .i64 1,.i .i64 (-1),.s [43]])) (bR (Nat.beq g 5) (some (zc (mz.map (ak.i .u8)))) none)))
def MO{f:α->ak}{h:α->Value}(az:∀ x D,aI D (f x) (h x)){l:List α}{i:Nat}(ag:(zc (l.map f)).get i=some v):∃ x,(l.map h).toArray[i]?=some x/\∀ D,aI D v x:=by
 have:=Ux ag;rw[zs]at this;cases ab:l[i]? with
 |none=>rw[ab]at this;cases this| some x=>rw[ab]at this;simp only[jT,iJ]at this;subst this;exact⟨h x,by simp[ab],az x⟩
def Uy(b6:ix I mz):DD MN I:=by
 intro g cs h;unfold MN at h;rw[iH,iH,iH,iH]at h;cases U:Nat.beq g 0 with
 |true=>rw[U,bh]at h;obtain rfl:=cf U;have h:=m6 h;subst h;obtain⟨T,f,h⟩:=b6.c;exact⟨_,T,f,h,λi v ag=>MO (f:=ak.i .i64) (h:=Value.int .i64) (λx D=>by simp only[aI]) ag⟩
 |false=>
 rw[U,ba]at h;cases aa:Nat.beq g 1 with
 |true=>rw[aa,bh]at h;obtain rfl:=cf aa;have h:=m6 h;subst h;obtain⟨T,f,h⟩:=b6.s;exact⟨_,T,f,h,λi v ag=>MO (f:=ak.s) (h:=λl=>Value.string (strOf l)) (λx D=>by simp only[aI,strOf]) ag⟩
 |false=>
 rw[aa,ba]at h;cases af:Nat.beq g 3 with
 |true=>
  rw[af,bh]at h;obtain rfl:=cf af;have h:=m6 h;subst h;obtain⟨T,f,h⟩:=b6.p;refine⟨_,T,f,h,λi v ag=>?_⟩;have ag:=Ux ag;rcases i with _ | _ | _ | _ | _ | _ | _ | _ | _ | i
  all_goals first | (cases ag;exact⟨_,rfl,λD=>by simp only[aI]<;>rfl⟩) | (simp at ag)
 |false=>
 rw[af,ba]at h;cases aR:Nat.beq g 5 with
 |true=>rw[aR,bh]at h;obtain rfl:=cf aR;have h:=m6 h;subst h;obtain⟨_,_,T,f,h⟩:=b6.d;exact⟨_,T,f,h,λi v ag=>MO (f:=ak.i .u8) (h:=Value.int .u8) (λx D=>by simp only[aI]) ag⟩
 |false=>
 rw[aR,ba]at h;cases h
noncomputable def Hy:List UInt8->Nat->Nat->Int
 |[],_,_=>-1| b::l,c,k=>bR (Nat.beq b.toNat c) (Int.ofNat k) (Hy l c (Nat.succ k))
def Uz(c:UInt8):∀ (l:List UInt8) (k:Nat),Hy l c.toNat k=if Lib.indexByte l c=-1 then -1 else Lib.indexByte l c+k
 |[],k=>rfl
 |b::l,k=>by
  have c1:=Lib.indexByte_ge l c;unfold Hy Lib.indexByte;rw[iH];by_cases h:b=c;·subst h;simp
  ·have U:Nat.beq b.toNat c.toNat=false:=by
    cases ai:Nat.beq b.toNat c.toNat with
    |false=>rfl| true=>exact absurd (UInt8.toNat_inj.1 (cf ai)) h
   have aa:(b == c)=false:=by simpa using h
   rw[U,ba,aa,Uz c l];simp only[jw,j8];by_cases af:Lib.indexByte l c=-1;·simp[af]
   ·have aR:(Lib.indexByte l c == -1)=false:=by simpa using af
    rw[aR,cA af];simp only[jw,j8];rw[cA (by omega)];omega
def zd:tP Tryz.prog:=aen (by kernel_rfl)
def ze:Tryz.prog.follows .mixedOrders=true:=by kernel_rfl
noncomputable def UA:fE:=⟨Tryz.prog,jI,λ_=>none,λ_ _ _=>none⟩
noncomputable def UB:List sy:=[.map [(.i .u8 123,.f 249 [] []),(.i .u8 34,.f 250 [] []),(.i .u8 91,.f 251 [] []),(.i .u8 46,.f 252 [] []),(.i .u8 47,.f 274 [] [.p 1 0]),(.i .u8 38,.f 274 [] [.p 2 0]),(.i .u8 33,.f 274 [] [.p 3 0]),(.i .u8 63,.f 274 [] [.p 4 0]),(.i .u8 42,.f 274 [] [.p 5 0]),(.i .u8 43,.f 274 [] [.p 6 0]),(.i .u8 40,.f 274 [] [.p 7 0]),(.i .u8 41,.f 274 [] [.p 8 0]),(.i .u8 60,.f 254 [] []),(.i .u8 62,.f 274 [] [.p 10 0]),(.i .u8 58,.f 274 [] [.p 11 0]),(.i .u8 65,.f 255 [] []),(.i .u8 66,.f 255 [] []),(.i .u8 67,.f 255 [] []),(.i .u8 68,.f 255 [] []),(.i .u8 69,.f 255 [] []),(.i .u8 70,.f 255 [] []),(.i .u8 71,.f 255 [] []),(.i .u8 72,.f 255 [] []),(.i .u8 73,.f 255 [] []),(.i .u8 74,.f 255 [] []),(.i .u8 75,.f 255 [] []),(.i .u8 76,.f 255 [] []),(.i .u8 77,.f 255 [] []),(.i .u8 78,.f 255 [] []),(.i .u8 79,.f 255 [] []),(.i .u8 80,.f 255 [] []),(.i .u8 81,.f 255 [] []),(.i .u8 82,.f 255 [] []),(.i .u8 83,.f 255 [] []),(.i .u8 84,.f 255 [] []),(.i .u8 85,.f 255 [] []),(.i .u8 86,.f 255 [] []),(.i .u8 87,.f 255 [] []),(.i .u8 88,.f 255 [] []),(.i .u8 89,.f 255 [] []),(.i .u8 90,.f 255 [] []),(.i .u8 95,.f 255 [] []),(.i .u8 97,.f 255 [] []),(.i .u8 98,.f 255 [] []),(.i .u8 99,.f 255 [] []),(.i .u8 100,.f 255 [] []),(.i .u8 101,.f 255 [] []),(.i .u8 102,.f 255 [] []),(.i .u8 103,.f 255 [] []),(.i .u8 104,.f 255 [] []),(.i .u8 105,.f 255 [] []),(.i .u8 106,.f 255 [] []),(.i .u8 107,.f 255 [] []),(.i .u8 108,.f 255 [] []),(.i .u8 109,.f 255 [] []),(.i .u8 110,.f 255 [] []),(.i .u8 111,.f 255 [] []),(.i .u8 112,.f 255 [] []),(.i .u8 113,.f 255 [] []),(.i .u8 114,.f 255 [] []),(.i .u8 115,.f 255 [] []),(.i .u8 116,.f 255 [] []),(.i .u8 117,.f 255 [] []),(.i .u8 118,.f 255 [] []),(.i .u8 119,.f 255 [] []),(.i .u8 120,.f 255 [] []),(.i .u8 121,.f 255 [] []),(.i .u8 122,.f 255 [] [])],.cells [.i .u8 3] 5,.cells [.i .u8 4] 5,.cells [.i .u8 5] 5,.cells [.i .u8 6] 5,.cells [.i .u8 7] 5,.cells [.i .u8 8] 5,.cells [.i .u8 9] 5,.cells [.i .u8 10] 5,.cells [.i .u8 11] 5,.cells [.i .u8 12] 5,.cells [.i .u8 13] 5]
def ae7:(bN (qg UA (h9 UA 100000) 237 [] ⟨.nil,0⟩) none λp=>bN (readAll p.2.t 0 p.2.n) none λL=>some (p.1,L))=some (ak.m 0,UB):=by kernel_rfl
noncomputable def MP:j3:=λg vs m=>bR (Nat.beq g 291) (match vs with
 |[.s l,.i .u8 (.ofNat k)]=>bR (Nat.blt k 256) (some (.i .i64 (Hy l k 0),m)) none| _=>none) (bR (Nat.beq g 224) (match vs with
 |[v]=>some (v,m)| _=>none) (bR (Nat.beq g 237) (match vs with
 |[]=>MH (.m 0) UB m| _=>none) (bR (Nat.beq g 191) (MK m vs) none)))
noncomputable def iX:fE:=⟨Tryz.prog,jI,MN,MP⟩
def Bg:vp iX:=by
 intro g vs m v m' h D I M us hu hm;change MP g vs m=some (v,m')at h;unfold MP at h;rw[iH]at h;cases U:Nat.beq g 291 with
 |true=>
  rw[U,bh]at h;obtain rfl:=cf U;split at h
  ·rename_i l k;rw[iH]at h;cases ae:Nat.blt k 256 with
   |false=>rw[ae]at h;cases h
   |true=>
    rw[ae,bh]at h;have jv:k<256:=Nat.blt_eq ▸ ae;cases h;simp only[bx,aI]at hu;obtain⟨x,xs,rfl,⟨y,jo,rfl,rfl,rfl⟩,rfl⟩:=hu;have Ae:(UInt8.ofNat k).toNat=k:=by simp;omega
    have:=Pf (I:=I) (M:=M) ⟨l.toArray⟩ (UInt8.ofNat k);rw[Ae]at this;refine Spec.xj this ?_;rintro r I' M'⟨rfl,rfl,rfl⟩;refine⟨D,bp.mJ,?_,hm⟩;simp only[aI];have:=Uz (UInt8.ofNat k) l 0;rw[Ae]at this;rw[this];split;·rename_i e;simp[e]
    ·simp
  ·cases h
 |false=>
 rw[U,ba,iH]at h;cases aa:Nat.beq g 224 with
 |true=>
  rw[aa,bh]at h;obtain rfl:=cf aa;split at h;·cases h;simp only[bx]at hu;obtain⟨x,xs,hu,rfl,rfl⟩:=hu;refine Spec.xj (I6 _) ?_;rintro r I' M'⟨rfl,rfl,rfl⟩;exact⟨D,bp.mJ,hu,hm⟩
  ·cases h
 |false=>
 rw[aa,ba,iH]at h;cases af:Nat.beq g 237 with
 |true=>
  rw[af,bh]at h;obtain rfl:=cf af;split at h;·obtain⟨⟨tQ,vo⟩,aR,bC⟩:=ck ae7;obtain⟨L,bO,eo⟩:=ck bC;cases eo;exact aeW (Y:=iX) aV zd ze aR bO (λD us h=>by simpa only[bx]using h) h hu hm
  ·cases h
 |false=>
 rw[af,ba,iH]at h;cases aR:Nat.beq g 191 with
 |true=>rw[aR,bh]at h;obtain rfl:=cf aR;exact ae3 rfl rfl h hu hm
 |false=>
 rw[aR,ba]at h;cases h
def ae8(b6:ix I mz){g:Nat}(h:qg iX (h9 iX f) g args ⟨.nil,0⟩=some (v,m'))(hu:bx (λ_=>none) args us) :
  Spec Tryz.prog g us I [] λr J lG=>lG=[]/\(∀ b o,I b=some o->J b=some o)/\∃ I' M' bm,aI bm v r/\cR iX bm m' I' M'/\Hx I' M' J:=by
 have hm:cR iX (λ_=>none) ⟨.nil,0⟩ I []:=⟨λid e a h a'=>(by cases a'),λid g4 e bn a bS h U a'=>(by cases a'),λid a h=>(by cases h),Uy b6⟩;refine Spec.xj (reckon (Y:=iX) aV zd Bg ze h hu hm).mE ?_;rintro r J lG⟨rfl,U,I',M',⟨bm,-,aa,af⟩,aR⟩;exact⟨rfl,U,I',M',bm,aa,af,aR⟩
section
end
structure ae9(d:a9)(n:Int):Prop where
 z:d.k=0->d.t=⟨#[]⟩
 leaf:d.k<=3->n=0
 one:6<=d.k->n=1
 two:d.k=4\/d.k=5->2<=n
def afa{n:Int}(ao:0<=d.k)(h:fits d n=true):ae9 d n:=by
 have ap:=(FE h).k;have ae:d.k=0\/d.k=1\/d.k=2\/d.k=3\/d.k=4\/d.k=5\/d.k=6\/d.k=7\/d.k=8\/d.k=9:=by omega
 have e3:∀ j:Fin 10,qO j.val=lJ.getD (j.val*2) 0/\mZ j.val=lJ.getD (j.val*2+1) 0:=by decide
 unfold fits at h;rcases ae with e | e | e | e | e | e | e | e | e | e<;>rw[e]at h<;>simp[qO,mZ,lJ]at h <;>
  refine⟨λq=>?_,λq=>?_,λq=>?_,λq=>?_⟩<;>first | (omega;done) | (exact h.2.2.1;done) | (exact h.2.1;done) | (simp_all;done)
def UC(bU:ByteArray):∀ (ds:List bE) (i:Nat),r4 bU ds i=bif decide (c9 bU ds i<0)then none else some (c9 bU ds i)
 |[],i=>rfl
 |d::ds,i=>by
  unfold r4 c9;rw[show decide (bU=d.name)=decide (d.name=bU) by rw[l2];simp[eq_comm]];cases decide (d.name=bU)with
  |true=>rw[bh,bh,ea (by omega)];rfl| false=>rw[ba,ba];exact UC bU ds (i+1)
def afb(bU:ByteArray)(ds:List bE):dI bU (bM ds)=bif decide (c9 bU ds 0<0)then none else some (c9 bU ds 0):=by rw[Gf,UC]
def Hz{k:Nat}(ae:k<64):IntKind.u64.wrap (1*2^(min k IntKind.u64.bits))=((1#64 <<< k).toNat:Int):=by
 have U:(1#64 <<< k).toNat=2^k:=by rw[BitVec.toNat_shiftLeft,Nat.shiftLeft_eq];have:2^k<2^64:=Nat.pow_lt_pow_right (by decide) ae;simp only[CL];rw[Ad (by decide:1<2^64),oX];exact Ad this
 have aa:min k IntKind.u64.bits=k:=by simp only[IntKind.bits];omega
 have af:2^k<2^64:=Nat.pow_lt_pow_right (by decide) ae;rw[U,aa,Int.one_mul];have e:((2:Int)^k)=((2^k:Nat):Int):=by simp
 rw[e];generalize 2^k=q at af;unfold IntKind.wrap;simp only[IntKind.bits,IntKind.signed];simp;omega
def afc(l:List UInt8)(b:UInt8):se (l++[b])=(se l).or (oh b):=by simp[se]
def afd(s:ByteArray)(ap:s.size<=140737488355328):Spec Tryz.prog 213 [.string s] I M λr I' M'=>r=(se s.data.toList).val/\I'=I/\M'=M:=by
 refine bX [] aV Tryz.func213 rfl rfl rfl ?_;intro B ao;have cI:s.data.toList.length=s.size:=uC;refine dB.inv (ι:=Nat) (λi=>{ bj:=[(0,.val (.string s)),(2,.ref 2 0),(3,.ref 3 0),(4,.val (.int .i64 i))],cl:=[(2,bw.zero.cells),(3,(se (s.data.toList.take i)).cells)],c5:=I,dv:=M }) (λi=>i<=s.size) (λi=>s.size-i) ?_ ?_
 ·exact⟨0,bq _,.refl,ew,.cons rfl (.cons rfl (.nil))⟩
 intro i hi;refine a0.mk (λh=>?_) (λh=>?_)
 rotate_left
 ·have c1:s.size<=i:=by have:¬ (i:Int)<(s.size:Int):=dt h;omega
  have hw:s.data.toList.take i=s.data.toList:=hn (by omega);refine⟨_,_,.refl,?_,rfl,rfl⟩;show(se (s.data.toList.take i)).val=_;rw[hw]
 have aK:i<s.size:=by have:(i:Int)<(s.size:Int):=du h;omega
 have BE:s.data.toList[i]'(by omega)=s[i]:=by rw[Array.getElem_toList];rfl
 have D':se (s.data.toList.take (i+1))=(se (s.data.toList.take i)).or (oh s[i]):=by rw[hU (by omega),afc,BE]
 generalize se (s.data.toList.take i)=w at D';have ai:=s[i].toNat_lt;have em:((s[i].toNat:Int)).tmod 64=((s[i].toNat%64:Nat):Int):=rfl;have je:((s[i].toNat:Int)).tdiv 64=((s[i].toNat/64:Nat):Int):=rfl;refine cW.draw aV rfl rfl rfl ?_;refine oC.mk i rfl aK ?_;refine l4.mk (by decide) ?_;rcases(by omega:s[i].toNat/64=0\/s[i].toNat/64=1\/s[i].toNat/64=2\/s[i].toNat/64=3)with an | an | an | an
 ·refine a5.mk 0 (by rw[je,an];decide) ?_;refine cH.mk 0 rfl (by decide) ?_;refine oC.mk i rfl aK ?_;refine l4.mk (by decide) ?_;refine qq.mk (s[i].toNat%64) em ?_;refine a5.mk _ (Hz (by omega)) ?_;refine cH.mk 0 rfl (by decide) ?_;refine a5.mk _ (cm (i:=i) (by omega)) ?_;refine⟨i+1,⟨aK,by omega⟩,.refl,ew,.cons rfl (.cons ?_ .nil)⟩;rw[D',show oh s[i]=bw.one 0 (1#64 <<< (s[i].toNat%64)) by rw[oh,an]];refine congrArg some ?_;show([.int .u64 (kZ w.a.toNat (1#64 <<< (s[i].toNat%64)).toNat),.int .u64 w.b.toNat,.int .u64 w.c.toNat,.int .u64 w.d.toNat]:List Value)=_;rw[w6];simp[bw.cells,bw.or,bw.one]
 ·refine a5.mk 1 (by rw[je,an];decide) ?_;refine cH.mk 1 rfl (by decide) ?_;refine oC.mk i rfl aK ?_;refine l4.mk (by decide) ?_;refine qq.mk (s[i].toNat%64) em ?_;refine a5.mk _ (Hz (by omega)) ?_;refine cH.mk 1 rfl (by decide) ?_;refine a5.mk _ (cm (i:=i) (by omega)) ?_;refine⟨i+1,⟨aK,by omega⟩,.refl,ew,.cons rfl (.cons ?_ .nil)⟩;rw[D',show oh s[i]=bw.one 1 (1#64 <<< (s[i].toNat%64)) by rw[oh,an]];refine congrArg some ?_;show([.int .u64 w.a.toNat,.int .u64 (kZ w.b.toNat (1#64 <<< (s[i].toNat%64)).toNat),.int .u64 w.c.toNat,.int .u64 w.d.toNat]:List Value)=_;rw[w6];simp[bw.cells,bw.or,bw.one]
 ·refine a5.mk 2 (by rw[je,an];decide) ?_;refine cH.mk 2 rfl (by decide) ?_;refine oC.mk i rfl aK ?_;refine l4.mk (by decide) ?_;refine qq.mk (s[i].toNat%64) em ?_;refine a5.mk _ (Hz (by omega)) ?_;refine cH.mk 2 rfl (by decide) ?_;refine a5.mk _ (cm (i:=i) (by omega)) ?_;refine⟨i+1,⟨aK,by omega⟩,.refl,ew,.cons rfl (.cons ?_ .nil)⟩;rw[D',show oh s[i]=bw.one 2 (1#64 <<< (s[i].toNat%64)) by rw[oh,an]];refine congrArg some ?_;show([.int .u64 w.a.toNat,.int .u64 w.b.toNat,.int .u64 (kZ w.c.toNat (1#64 <<< (s[i].toNat%64)).toNat),.int .u64 w.d.toNat]:List Value)=_;rw[w6];simp[bw.cells,bw.or,bw.one]
 ·refine a5.mk 3 (by rw[je,an];decide) ?_;refine cH.mk 3 rfl (by decide) ?_;refine oC.mk i rfl aK ?_;refine l4.mk (by decide) ?_;refine qq.mk (s[i].toNat%64) em ?_;refine a5.mk _ (Hz (by omega)) ?_;refine cH.mk 3 rfl (by decide) ?_;refine a5.mk _ (cm (i:=i) (by omega)) ?_;refine⟨i+1,⟨aK,by omega⟩,.refl,ew,.cons rfl (.cons ?_ .nil)⟩;rw[D',show oh s[i]=bw.one 3 (1#64 <<< (s[i].toNat%64)) by rw[oh,an]];refine congrArg some ?_;show([.int .u64 w.a.toNat,.int .u64 w.b.toNat,.int .u64 w.c.toNat,.int .u64 (kZ w.d.toNat (1#64 <<< (s[i].toNat%64)).toNat)]:List Value)=_;rw[w6];simp[bw.cells,bw.or,bw.one]
section
variable{I:aS}{M:List ay}{d:a9}{x:aZ}{a:Option Addr}{n c:Nat}{ks:List a7}
def tB.head(ae:tB I M a n ks)(ao:0<n):∃ ad,a=some ad/\ca I M (ad.add (0*5)) 5 (ks.headD cQ).cells:=by
 have U:0<ks.length:=by rw[ae.n];exact ao
 obtain⟨ad,aa,af⟩:=ae.rd 0 U;refine⟨ad,aa,?_⟩;cases ks with
 |nil=>simp at U| cons k ks=>exact af
def MQ:Spec Tryz.prog 158 [d.val,x.val,.slice a n c] I M λv I' M'=>v=a7.val ⟨.zero,x.hQ⟩/\I'=I/\M'=M:=by refine bX [] aV Tryz.func158 rfl rfl rfl ?_;intro B ao;refine bb.mk M [] _ perm_nil (F6 x) ?_;rintro v I' M' -⟨rfl,rfl,rfl⟩;rw[dF];exact⟨_,_,.refl,rfl,rfl,rfl⟩
def HA{z:Int}(h:eh z):((BitVec.ofInt 64 z).toNat:Int)=z:=by obtain⟨w,rfl⟩:=R9 h;rw[GF]
def afe(ah:eh d.dJ/\eh d.s1/\eh d.s2/\eh d.dQ):Spec Tryz.prog 159 [d.val,x.val,.slice a n c] I M λv I' M'=>v=a7.val ⟨d.ws,false⟩/\I'=I/\M'=M:=by refine bX [] aV Tryz.func159 rfl rfl rfl ?_;intro B ao;refine⟨_,_,.refl,?_,rfl,rfl⟩;obtain⟨ao,U,aa,af⟩:=ah;simp only[a7.val,a9.ws,HA ao,HA U,HA aa,HA af];rfl
def aff(U:1<=d.t.size):Spec Tryz.prog 160 [d.val,x.val,.slice a n c] I M λv I' M'=>v=(AG d.t).val/\I'=I/\M'=M:=by
 refine bX [] aV Tryz.func160 rfl rfl rfl ?_;intro B ao;refine ie.mk 0 1 rfl rfl (by decide) U ?_;have ar:(d.t.extract 0 1).data.toList=d.t.data.toList.take 1:=by simp
 refine bb.mk M [] _ perm_nil (afd (d.t.extract 0 1) (by simp;omega)) ?_;rintro v I' M' -⟨rfl,rfl,rfl⟩;rw[dF];refine⟨_,_,.refl,?_,rfl,rfl⟩;rw[ar];rfl
def UD(ae:tB I M a n ks)(ao:0<n):Spec Tryz.prog 161 [d.val,x.val,.slice a n c] I M λv I' M'=>v=(ks.headD cQ).val/\I'=I/\M'=M:=by refine bX [] aV Tryz.func161 rfl rfl rfl ?_;intro B hp;obtain⟨ad,b7,bs⟩:=ae.head ao;refine bc.mk ad 0 b7 rfl ao ?_;refine aF.mk _ bs ?_;exact⟨_,_,.refl,rfl,rfl,rfl⟩
def afg(ae:tB I M a n ks)(ao:0<n):Spec Tryz.prog 164 [d.val,x.val,.slice a n c] I M λv I' M'=>v=(pz d (ks.headD cQ)).val/\I'=I/\M'=M:=by
 refine bX [] aV Tryz.func164 rfl rfl rfl ?_;intro B hp;obtain⟨ad,b7,bs⟩:=ae.head ao;generalize ks.headD cQ=k at bs;obtain⟨⟨p8,dO,bL,fB⟩,CJ⟩:=k;refine a0.mk (λh=>?_) (λh=>?_)
 ·refine⟨_,_,.refl,?_,rfl,rfl⟩;simp[pz,h];rfl
 refine cW.draw aV rfl rfl rfl ?_;refine bc.mk ad 0 b7 rfl ao ?_;refine aF.mk _ (bs.part (k:=0) (m:=4) (by decide)) ?_;refine bc.mk ad 0 b7 rfl ao ?_;refine aF.mk _ (bs.part (k:=4) (m:=1) (by decide)) ?_;refine cB.mk (λaa=>?_) (λaa=>?_)
 all_goals
  have az:CJ=_:=aa;subst az;refine⟨_,_,.refl,?_,rfl,rfl⟩;simp[pz,h];rfl
def afh(ae:tB I M a n ks)(ax:n<=140737488355328):Spec Tryz.prog 163 [d.val,x.val,.slice a n c] I M λv I' M'=>v=(yJ ks).val/\I'=I/\M'=M:=by
 refine bX [] aV Tryz.func163 rfl rfl rfl ?_;intro B hp;have dR:=ae.n;refine dB.inv (ι:=Nat×a7) (λs=>{ bj:=[(6,.ref 6 0),(7,.ref 7 0),(10,.val (.slice a n c)),(11,.val (.int .i64 n)),(12,.val (.int .i64 s.1))],cl:=[(6,cQ.cells),(7,s.2.cells)],c5:=I,dv:=M }) (λs=>s.1<=n/\s.2=yJ (ks.take s.1)) (λs=>n-s.1) ?_ ?_
 ·exact⟨(0,cQ),⟨bq _,rfl⟩,.refl,g',.cons rfl (.cons rfl (.nil))⟩
 rintro⟨i,f⟩⟨hi,az⟩;simp only at hi az;refine a0.mk (λh=>?_) (λh=>?_)
 rotate_left
 ·have c1:n<=i:=by have:=dt h;omega
  refine⟨_,_,.refl,?_,rfl,rfl⟩;rw[hn (by omega)]at az;rw[<-az];rfl
 have aK:i<n:=by have:=du h;omega
 obtain⟨ad,b7,bs⟩:=ae.rd i (by omega);have dw:f.choice (ks[i]'(by omega))=yJ (ks.take (i+1)):=by rw[hU (by omega),yJ,Je,az];rfl
 generalize ks[i]'(by omega)=k at bs dw;refine bc.mk ad i b7 rfl aK ?_;refine aF.mk _ bs ?_;refine bb.mk M [] _ perm_nil (acG f k) ?_;rintro v I' M' -⟨rfl,rfl,rfl⟩;rw[dF];refine a5.mk _ (cm (i:=i) (by omega)) ?_;exact⟨(i+1,f.choice k),⟨⟨by simp only;omega,dw⟩,by simp only;omega⟩,.refl,g',.cons rfl (.cons rfl (.nil))⟩
def afi(ae:tB I M a n ks)(ax:n<=140737488355328):Spec Tryz.prog 162 [d.val,x.val,.slice a n c] I M λv I' M'=>v=(yI ks).val/\I'=I/\M'=M:=by
 refine bX [] aV Tryz.func162 rfl rfl rfl ?_;intro B hp;have dR:=ae.n;refine dB.inv (ι:=Nat×a7) (λs=>{ bj:=[(6,.ref 6 0),(7,.ref 7 0),(11,.val (.slice a n c)),(12,.val (.int .i64 n)),(13,.val (.int .i64 s.1))],cl:=[(6,cQ.cells),(7,s.2.cells)],c5:=I,dv:=M }) (λs=>s.1<=n/\s.2=yI (ks.take s.1)) (λs=>n-s.1) ?_ ?_
 ·exact⟨(0,Dj),⟨bq _,rfl⟩,.refl,g',.cons rfl (.cons rfl (.nil))⟩
 rintro⟨i,f⟩⟨hi,az⟩;simp only at hi az;refine a0.mk (λh=>?_) (λh=>?_)
 rotate_left
 ·have c1:n<=i:=by have:=dt h;omega
  refine⟨_,_,.refl,?_,rfl,rfl⟩;rw[hn (by omega)]at az;rw[<-az];rfl
 have aK:i<n:=by have:=du h;omega
 obtain⟨ad,b7,bs⟩:=ae.rd i (by omega);have dw:f.seq (ks[i]'(by omega))=yI (ks.take (i+1)):=by rw[hU (by omega),yI,Je,az];rfl
 generalize ks[i]'(by omega)=k at bs dw;refine bc.mk ad i b7 rfl aK ?_;refine aF.mk _ bs ?_;refine bb.mk M [] _ perm_nil (acF f k) ?_;rintro v I' M' -⟨rfl,rfl,rfl⟩;rw[dF];refine a5.mk _ (cm (i:=i) (by omega)) ?_;exact⟨(i+1,f.seq k),⟨⟨by simp only;omega,dw⟩,by simp only;omega⟩,.refl,g',.cons rfl (.cons rfl (.nil))⟩
end
def afj:List Nat:=[158,159,160,161,162,163,164,158,158,161]
def MR:List Value:=[.func (.func 158) #[] #[],.func (.func 159) #[] #[],.func (.func 160) #[] #[],.func (.func 161) #[] #[],.func (.func 162) #[] #[],.func (.func 163) #[] #[],.func (.func 164) #[] #[],.func (.func 158) #[] #[],.func (.func 158) #[] #[],.func (.func 161) #[] #[]]
def afk:Spec Tryz.prog 96 [] I [] λv I' M'=>v=.agg MR.toArray/\I'=I/\M'=[]:=by refine bX [] aV Tryz.func96 rfl rfl rfl ?_;intro B ao;exact⟨_,_,.refl,rfl,rfl,rfl⟩
def tR{x:aZ}{a:Option Addr}{c:Nat}{ks:List a7}(hu:eh d.dJ/\eh d.s1/\eh d.s2/\eh d.dQ)(ae:tB I M a n ks)(ax:n<=140737488355328)(j:Nat)(an:j<10)(ah:d.k=j)(ao:(j=3\/j=6\/j=9)->0<n)(av:j=2->1<=d.t.size) :
  Spec Tryz.prog (afj.getD j 0) [d.val,x.val,.slice a n c] I M λv I' M'=>v=(eV d x ks).val/\I'=I/\M'=M:=by
 match j,an,ah,ao,av with
 |0,_,ah,_,_=>rw[show eV d x ks=⟨.zero,x.hQ⟩ by simp[eV,ah]];exact MQ (d:=d) (x:=x) (a:=a) (n:=n) (c:=c)| 1,_,ah,_,_=>rw[show eV d x ks=⟨d.ws,false⟩ by simp[eV,ah]];exact afe (d:=d) (x:=x) (a:=a) (n:=n) (c:=c) hu| 2,_,ah,_,av=>rw[show eV d x ks=AG d.t by simp[eV,ah]];exact aff (d:=d) (x:=x) (a:=a) (n:=n) (c:=c) (av rfl)| 3,_,ah,ao,_=>rw[show eV d x ks=ks.headD cQ by simp[eV,ah]];exact UD (d:=d) (x:=x) (c:=c) ae (ao (by omega))| 4,_,ah,_,_=>rw[show eV d x ks=yI ks by simp[eV,ah]];exact afi (d:=d) (x:=x) (c:=c) ae ax| 5,_,ah,_,_=>rw[show eV d x ks=yJ ks by simp[eV,ah]];exact afh (d:=d) (x:=x) (c:=c) ae ax| 6,_,ah,ao,_=>rw[show eV d x ks=pz d (ks.headD cQ) by simp[eV,ah]];exact afg (d:=d) (x:=x) (c:=c) ae (ao (by omega))| 7,_,ah,_,_=>rw[show eV d x ks=⟨.zero,x.hQ⟩ by simp[eV,ah]];exact MQ (d:=d) (x:=x) (a:=a) (n:=n) (c:=c)| 8,_,ah,_,_=>rw[show eV d x ks=⟨.zero,x.hQ⟩ by simp[eV,ah]];exact MQ (d:=d) (x:=x) (a:=a) (n:=n) (c:=c)| 9,_,ah,ao,_=>rw[show eV d x ks=ks.headD cQ by simp[eV,ah]];exact UD (d:=d) (x:=x) (c:=c) ae (ao (by omega))
def g5(b:Nat)(l:List a7):ay:=⟨b,.cells (l.flatMap a7.cells).toArray 51 (0,0)⟩
def Bh(l:List a7):(l.flatMap a7.cells).length=l.length*5:=hb _ 5 a7.de l
def Bi{b:Nat}(a4:g5 b l∈M){j:Nat}(an:j<l.length):ca I M ((⟨b,0,none⟩:Addr).add (j*5)) 5 l[j].cells:=by have h:=dn (I:=I) (cs:=l.flatMap a7.cells) (k:=j*5) (n:=5) a4 (by rw[Bh];omega);rwa [rM a7.cells 5 a7.de l j an]at h
def afl{b:Nat}(a4:g5 b l∈M):tB I M (some ⟨b,0,none⟩) l.length l:=
 ⟨rfl,λj an=>⟨_,rfl,Bi a4 an⟩⟩
def UE(l:List a7)(j:Nat)(an:j<l.length)(x:a7):bu (l.flatMap a7.cells) (j*5) x.cells=(l.set j x).flatMap a7.cells:=by
 have e:l.flatMap a7.cells=(l.take j).flatMap a7.cells++(l[j].cells++(l.drop (j+1)).flatMap a7.cells):=by
  have U:l=l.take j++(l[j]::l.drop (j+1)):=by rw[<-fg an,uB]
  have aa:=congrArg (λq:List a7=>q.flatMap a7.cells) U;simp only[mm,lD]at aa;exact aa
 have ar:((l.take j).flatMap a7.cells).length=j*5:=by rw[Bh,ma];congr 1;omega
 unfold bu;rw[xM,cK an,mm,lD,e,gl];congr 1
 ·rw[<-ar,zI]
 ·congr 1;rw[a7.de,<-ar,<-gl,B0 (by rw[cU,a7.de])]
def UF(l:List a7)(x:a7):(l++[x]).flatMap a7.cells=l.flatMap a7.cells++x.cells:=by simp
def bk.UG{e:Nat}(h:os.ok 5 (l.flatMap a7.cells))(a4:∀ x∈os.aY e,x∈M):tB I M (os.a.map λg=>⟨g,0,none⟩) os.n l:=by
 have ar:=h.len;rw[Bh]at ar;refine⟨by omega,λj an=>?_⟩;obtain⟨a,n,c,aJ⟩:=os;simp only at ar;cases a with
 |none=>have:=(h.nil rfl).1;simp only at this;omega
 |some g=>
  obtain⟨U,aa,af,aR⟩:=h.cap g rfl;simp only at U aa aR;refine⟨⟨g,0,none⟩,rfl,?_⟩;have hm:(⟨g,.cells aJ.toArray e (0,0)⟩:ay)∈M:=a4 _ (by simp[bk.aY]);have al:=dn (I:=I) (cs:=aJ) (k:=j*5) (n:=5) hm (by omega);have aw:(aJ.drop (j*5)).take 5=((aJ.take (n*5)).drop (j*5)).take 5:=by rw[uE,sZ];congr 1;omega
  rw[aw,aR,rM a7.cells 5 a7.de l j an]at al;exact al
def afm(aM:List a7)(n i:Nat)(ar:aM.length=i)(hi:i<n)(x:a7):(aM++List.replicate (n-i) cQ).set i x=(aM++[x])++List.replicate (n-(i+1)) cQ:=by subst ar;rw[JV _ _ (cC _),q1,show n-aM.length=(n-(aM.length+1))+1 by omega,q0,List.set_cons_zero];simp
def UH(f:α->List Value)(z:α)(size:Nat)(bg:(f z).length=size)(ao:0<size):∀ n:Nat,rowOf (f z) (n*size)=(List.replicate n z).flatMap f:=λn=>by
 have bV:((List.replicate n z).flatMap f).length=n*size:=by
  induction n with
  |zero=>simp| succ n be=>rw[q0,lD,cU,be,bg,jG];omega
 apply uD
 ·rw[bV];simp[vx,madeCells]
 intro i U aa;have af:i<n*size:=by rw[bV]at aa;exact aa
 have key:∀ (n i:Nat) (h:i<((List.replicate n z).flatMap f).length),((List.replicate n z).flatMap f)[i]=(f z)[i%size]!:=by
  intro n
  induction n with
  |zero=>intro i h;simp at h
  |succ n be=>
   intro i h;by_cases hi:i<size
   ·have e:((List.replicate (n+1) z).flatMap f)=f z++(List.replicate n z).flatMap f:=by rw[q0,lD]
    simp only[e];rw[Fu (by omega),Ad hi];rw[getElem!_pos (f z) i (by omega)]
   ·have e:((List.replicate (n+1) z).flatMap f)=f z++(List.replicate n z).flatMap f:=by rw[q0,lD]
    simp only[e]at h |-;rw[T2 (by omega)];have:=be (i-(f z).length) (by rw[cU]at h;omega);rw[this,bg,Nat.mod_eq_sub_mod (a:=i) (by omega)]
 rw[key n i aa];simp only[rowOf,lE,ph,bg]
def UI(n:Nat):rowOf cQ.cells (n*5)=(List.replicate n cQ).flatMap a7.cells:=UH a7.cells cQ 5 rfl (by decide) n
def tS{aM:List a7}{i:Nat}(fR:aM.length=i)(aK:i<n)(x:a7):Nat.ble (0+i*5+x.cells.length) ((aM++List.replicate (n-i) cQ).flatMap a7.cells).length=true:=by rw[mA,Bh,a7.de,cU,xO];omega
def UJ(bU:ByteArray):∀ (ds:List bE) (i:Nat),r4 bU ds i=bif decide (c9 bU ds i<0)then none else some (c9 bU ds i)
 |[],i=>rfl
 |d::ds,i=>by
  unfold r4 c9;rw[show decide (bU=d.name)=decide (d.name=bU) by rw[l2];simp[eq_comm]];cases decide (d.name=bU)with
  |true=>rw[bh,bh,ea (by omega)];rfl| false=>rw[ba,ba];exact UJ bU ds (i+1)
def afn{q:Int}(h:dI bU (bM ds)=some q):c9 bU ds 0=q:=by
 rw[Gf,UJ]at h;cases ah:decide (c9 bU ds 0<0)with
 |true=>rw[ah]at h;cases h| false=>rw[ah]at h;simpa using h
def afo{n:Int}(h:fits d n=true)(ae:d.k=2):1<=d.t.size:=by apply Nat.pos_of_ne_zero;intro e;have he:d.t=⟨#[]⟩:=ry (E5 e);simp[fits,ae,he]at h
def HB(t:dG):Prop:=∀ n∈t.ns,n.kn<=3000000000000
def afp{M0:List ay}(aA:g.ok I){t:dG}(av:t.ok I)(Ea:HB t)(al:right t=true){q2:Option Addr}{ln lc:Nat}{bj:List a7}(n4:tB I M0 q2 ln bj)(aL:J2 (bM g.ds) ln t.ns){HC:Option Addr}{xc:Nat}{xs:List aZ}(l0:kT I M0 HC t.n xs) :
  Spec Tryz.prog 47 [g.val,.slice q2 ln lc,t.val,.slice HC t.n xc] I M0 λv I' M'=>I'=I/\∃ b,v=.slice (some ⟨b,0,none⟩) t.n t.n/\M'=g5 b (hT (bM g.ds) bj xs t.ns [])::M0:=by
 refine bX [] aV Tryz.func47 rfl rfl rfl ?_;intro B ao;have pf:=av.n;have gb:=aA.n;have ki:=av.bd.cap;have Hv:=l0.n;refine bb.mk [] M0 _ (.refl _) afk ?_;rintro v cL M1 -⟨rfl,rfl,rfl⟩;refine oD.mk t.n t.n rfl rfl (cC _) (by show 40*t.n<=_;omega) (by omega) ?_;refine cz.mk λcO J4 Zy=>?_;refine dB.inv (ι:=Nat×List a7×bk) (λx=>{ bj:=[(1,.val (.slice q2 ln lc)),(3,.val (.slice HC t.n xc)),(4,.ref 4 0),(9,.ref 9 0),(10,.val (.slice (some ⟨cO,0,none⟩) t.n t.n)),(11,.val x.2.2.val),(22,.val (.slice t.a t.n t.c)),(23,.val (.int .i64 t.n)),(24,.val (.int .i64 x.1))],cl:=[(4,[.slice g.a g.n g.c]),(9,MR)],c5:=cL,dv:=g5 cO (x.2.1++List.replicate (t.n-x.1) cQ)::(x.2.2.aY 51++M0) }) (λx=>x.1<=t.n/\x.2.1.length=x.1/\hT (bM g.ds) bj xs t.ns []=hT (bM g.ds) bj xs (t.ns.drop x.1) x.2.1/\∃ ks,x.2.2.ok 5 ks) (λx=>t.n-x.1) ?_ ?_
 ·refine⟨(0,[],qX),⟨bq _,rfl,rfl,[],uS 5⟩,?_,hk,.cons rfl (.cons rfl (.nil))⟩;have e:rowOf cQ.cells (t.n*5)=(List.replicate t.n cQ).flatMap a7.cells:=UI t.n;simp only[g5,mT,tj];rw[<-e];exact .refl
 rintro⟨i,aM,yr⟩⟨hi,fR,uY,Zz,CM⟩;simp only at hi fR uY CM;refine a0.mk (λh=>?_) (λh=>?_)
 rotate_left
 ·have c1:i=t.n:=by have:¬ (i:Int)<(t.n:Int):=dt h;omega
  subst c1;rw[ir (by omega),hT]at uY;refine⟨cL,g5 cO (aM++List.replicate (t.n-t.n) cQ)::M0,.sub (.cons_cons _ (kH _ _)) .refl,rfl,cO,rfl,?_⟩;rw[uY,q1,JX,dF]
 have aK:i<t.n:=by have:(i:Int)<(t.n:Int):=du h;omega
 have bP:i<t.ns.length:=by omega
 obtain⟨ad,b7,bs⟩:=av.bd.row a9.de aK bP;have eA:=dK bP;have ah:=av.ns _ eA;have dR:=ah.kn;have Ae:=ah.bd.cap;have afq:=Ea _ eA;have p0:=qP al i bP;have pj:=Fi al bP;have CN:=aL _ eA;obtain⟨tT,tU,sA⟩:=l0.rd i (by omega);have afr:xs.getD i bY=xs[i]'(by omega):=by simp[dh,show i<xs.length by omega]
 have Af:hT (bM g.ds) bj xs t.ns []=hT (bM g.ds) bj xs (t.ns.drop (i+1)) (aM++[eV t.ns[i] (xs[i]'(by omega)) (qc (bM g.ds) bj aM t.ns[i])]):=by rw[uY,fg bP,hT,fR,afr]
 generalize xs[i]'(by omega)=x at sA Af;generalize t.ns[i]=d at bs ah dR Ae afq p0 pj CN Af;have fI:=ah.k.1;have Gd:=J3 pj;have hu:eh d.dJ/\eh d.s1/\eh d.s2/\eh d.dQ:=⟨ah.dJ,ah.s1,ah.s2,ah.dQ⟩;have pw:d.k=2->1<=d.t.size:=afo pj;have q3:∀ {M:List ay} {q:Int},g5 cO (aM++List.replicate (t.n-i) cQ)∈M->q∈d.aX->ca cL M ((⟨cO,0,none⟩:Addr).add (q.toNat*5)) 5 (aM.getD q.toNat cQ).cells:=fun {M q} a4 aO=>by
  have ZA:=p0 q aO;have e5:q.toNat<aM.length:=by omega
  have:=Bi (I:=cL) a4 (j:=q.toNat) (by rw[cU];omega);rw[Fu e5]at this;simpa[dh,e5]using this
 refine bc.mk ad i b7 rfl aK ?_;refine aF.mk _ (bs _) ?_;refine ie.mk 0 0 rfl rfl (cC _) (bq _) ?_;refine dB.inv (ι:=Nat×bk×List a7) (λs=>{ bj:=[(1,.val (.slice q2 ln lc)),(3,.val (.slice HC t.n xc)),(4,.ref 4 0),(9,.ref 9 0),(10,.val (.slice (some ⟨cO,0,none⟩) t.n t.n)),(11,.val s.2.1.val),(12,.val (.int .i64 i)),(13,.ref 13 0),(22,.val (.slice t.a t.n t.c)),(23,.val (.int .i64 t.n)),(24,.val (.int .i64 i)),(32,.val (.slice d.kg d.kn d.jc)),(33,.val (.int .i64 d.kn)),(34,.val (.int .i64 s.1))],cl:=[(4,[.slice g.a g.n g.c]),(9,MR),(13,d.cells)],c5:=cL,dv:=g5 cO (aM++List.replicate (t.n-i) cQ)::(s.2.1.aY 51++M0) }) (λs=>s.1<=d.kn/\s.2.1.ok 5 (s.2.2.flatMap a7.cells)/\s.2.2=(d.aX.take s.1).map λk=>aM.getD k.toNat cQ) (λs=>d.kn-s.1) ?_ ?_
 ·exact⟨(0,⟨yr.a,0,yr.c,yr.aJ⟩,[]),⟨bq _,bk.zero CM,rfl⟩,.refl,ET,.cons rfl (.cons rfl (.cons rfl (.nil)))⟩
 rintro⟨k,bL,k4⟩⟨ae,fC,fr⟩;simp only at ae fC fr;have ZB:bL.n=k4.length:=by have:=fC.len;rw[Bh]at this;omega
 have J5:k4.length<=k:=by rw[fr,eX];exact zH _ _
 refine a0.mk (λh=>?_) (λh=>?_)
 ·have gv:k<d.kn:=by have:(k:Int)<(d.kn:Int):=du h;omega
  have rE:k<d.aX.length:=by omega
  obtain⟨hq,h2,gI⟩:=ah.bd.one gv rE;have aO:=p0 _ (dK rE);refine bc.mk hq k h2 rfl gv ?_;refine aF.mk _ (gI _) ?_;refine bc.mk ⟨cO,0,none⟩ d.aX[k].toNat rfl (by omega) (by omega) ?_;refine aF.mk _ (q3 (.head _) (dK rE)) ?_;refine cz.mk λb9 gz yg=>?_;refine bl.wP aV rfl (by simp) (e:=51) rfl rfl rfl bL fC rfl (b9:=b9) (cs:=(aM.getD d.aX[k].toNat cQ).cells) rfl rfl rfl [g5 cO (aM++List.replicate (t.n-i) cQ)] M0 rfl (by omega) (by show(bL.n+1)*40<=_;omega) ?_;intro fB aw aB bD;refine a5.mk _ (cm (i:=k) (by omega)) ?_;refine⟨(k+1,fB,k4++[aM.getD d.aX[k].toNat cQ]),⟨⟨by simp only;omega,?_,?_⟩,by simp only;omega⟩,.refl,ET,.cons rfl (.cons rfl (.cons rfl (.nil)))⟩;·simp only;rw[UF];exact bD
  ·simp only;rw[hU rE,gX,<-fr];rfl
 have c1:d.kn<=k:=by have:¬ (k:Int)<(d.kn:Int):=dt h;omega
 rw[hn (by omega)]at fr;have ZC:k4.length=d.aX.length:=by rw[fr,eX]
 have eW:bL.n+1<=140737488355328:=by omega
 clear h ae J5;have fj:∀ y:a7,bu ((aM++List.replicate (t.n-i) cQ).flatMap a7.cells) (0+i*5) y.cells=((aM++[y])++List.replicate (t.n-(i+1)) cQ).flatMap a7.cells:=λy=>by rw[dk,UE _ _ (by simp;omega),afm aM t.n i fR aK]
 have hinv:∀ (yt:bk) (yu:List Value),yt.ok 5 yu->((i+1<=t.n/\(aM++[eV d x (qc (bM g.ds) bj aM d)]).length=i+1/\hT (bM g.ds) bj xs t.ns []=hT (bM g.ds) bj xs (t.ns.drop (i+1)) (aM++[eV d x (qc (bM g.ds) bj aM d)])/\∃ ks,yt.ok 5 ks)/\t.n-(i+1)<t.n-i):=λyt yu aa=>
  ⟨⟨aK,by simp[fR],Af,yu,aa⟩,by omega⟩
 by_cases af:d.k=3
 ·refine a0.mk (λ_=>?_) (λh=>absurd h (by simp[af]));obtain⟨q,yv,n8⟩:=CN af;have uZ:qc (bM g.ds) bj aM d=k4++[bj.getD q cQ]:=by rw[qc,<-fr,yv,af];rfl
  have e5:q<bj.length:=by rw[n4.n];exact n8
  obtain⟨gd,wj,gx⟩:=n4.rd q e5;have J6:bj.getD q cQ=bj[q]:=by simp[dh,e5]
  have MS:=afn yv;refine bb.mk [] _ _ (.refl _) (Yi aA d.t) ?_;rintro v dP dr -⟨rfl,rfl,rfl⟩;refine bc.mk gd q wj MS n8 ?_;refine aF.mk _ (gx.sub λx ab=>by simp[ab]) ?_;refine cz.mk λb9 gz yg=>?_;refine bl.wP aV rfl (by simp) (e:=51) rfl rfl rfl bL fC rfl (b9:=b9) (cs:=bj[q].cells) rfl rfl rfl [g5 cO (aM++List.replicate (t.n-i) cQ)] M0 rfl (by omega) (by show(bL.n+1)*40<=_;omega) ?_;intro fB aw aB bD;rw[<-UF,<-J6,<-uZ]at bD;have eU:=bk.UG (I:=dP) (M:=g5 cO (aM++List.replicate (t.n-i) cQ)::(fB.aY 51++M0)) (e:=51) bD (λx ab=>by simp[ab]);obtain⟨iy,dJ,s1,s2,dQ,fl,lo,cw,jq,jr,js,jt⟩:=d;simp only at af;subst af;refine cW.draw aV rfl rfl rfl ?_;refine cH.mk 3 rfl (by decide) ?_;refine bc.mk tT i tU rfl aK ?_;refine aF.mk _ (sA.sub λx ab=>by simp[ab]) ?_;refine fi.whole _ (tR (d:=⟨3,dJ,s1,s2,dQ,fl,lo,cw,jq,jr,js,jt⟩) (x:=x) hu eU (by omega) 3 (by decide) rfl (λ_=>by rw[aw];exact Nat.succ_pos _) (λh=>absurd h (by decide))) (λv I' M' h x ab=>by rw[h.2.2];exact ab) ?_;rintro v hL mc -⟨rfl,rfl,rfl⟩;refine bc.mk ⟨cO,0,none⟩ i rfl rfl aK ?_;refine cg.f' [] (fB.aY 51++M0) ((aM++List.replicate (t.n-i) cQ).flatMap a7.cells) _ rfl (tS fR aK _) rfl _ (fj _) ?_;refine a5.mk _ (cm (i:=i) (by omega)) ?_;exact⟨(i+1,_,fB),hinv _ _ bD,.refl,hk,.cons rfl (.cons rfl (.nil))⟩
 refine a0.mk (λh=>absurd (du h) af) (λ_=>?_);have uZ:qc (bM g.ds) bj aM d=k4:=by rw[qc,<-fr,ea af];simp
 rw[uZ]at hinv;have eU:=bk.UG (I:=cL) (M:=g5 cO (aM++List.replicate (t.n-i) cQ)::(bL.aY 51++M0)) (e:=51) fC (λx ab=>by simp[ab]);have jX:6<=d.k->0<bL.n:=λbO=>by have:=QD fI pj bO;omega
 have uX:d.k=0\/d.k=1\/d.k=2\/d.k=4\/d.k=5\/d.k=6\/d.k=7\/d.k=8\/d.k=9:=by omega
 obtain⟨iy,dJ,s1,s2,dQ,fl,lo,cw,jq,jr,js,jt⟩:=d;simp only at uX jX af pw;refine cW.draw aV rfl rfl rfl ?_;rcases uX with rfl | rfl | rfl | rfl | rfl | rfl | rfl | rfl | rfl
 ·refine cH.mk 0 rfl (by decide) ?_;refine bc.mk tT i tU rfl aK ?_;refine aF.mk _ (sA.sub λx ab=>by simp[ab]) ?_;refine fi.whole _ (tR (d:=⟨0,dJ,s1,s2,dQ,fl,lo,cw,jq,jr,js,jt⟩) (x:=x) hu eU (lT eW) 0 (by decide) rfl (λh=>by omega) (λh=>absurd h (by decide))) (λv I' M' h x ab=>by rw[h.2.2];exact ab) ?_;rintro v dP dr -⟨rfl,rfl,rfl⟩;refine bc.mk ⟨cO,0,none⟩ i rfl rfl aK ?_;refine cg.f' [] (bL.aY 51++M0) ((aM++List.replicate (t.n-i) cQ).flatMap a7.cells) _ rfl (tS fR aK _) rfl _ (fj _) ?_;refine a5.mk _ (cm (i:=i) (by omega)) ?_;exact⟨(i+1,_,bL),hinv _ _ fC,.refl,hk,.cons rfl (.cons rfl (.nil))⟩
 ·refine cH.mk 1 rfl (by decide) ?_;refine bc.mk tT i tU rfl aK ?_;refine aF.mk _ (sA.sub λx ab=>by simp[ab]) ?_;refine fi.whole _ (tR (d:=⟨1,dJ,s1,s2,dQ,fl,lo,cw,jq,jr,js,jt⟩) (x:=x) hu eU (lT eW) 1 (by decide) rfl (λh=>by omega) (λh=>absurd h (by decide))) (λv I' M' h x ab=>by rw[h.2.2];exact ab) ?_;rintro v dP dr -⟨rfl,rfl,rfl⟩;refine bc.mk ⟨cO,0,none⟩ i rfl rfl aK ?_;refine cg.f' [] (bL.aY 51++M0) ((aM++List.replicate (t.n-i) cQ).flatMap a7.cells) _ rfl (tS fR aK _) rfl _ (fj _) ?_;refine a5.mk _ (cm (i:=i) (by omega)) ?_;exact⟨(i+1,_,bL),hinv _ _ fC,.refl,hk,.cons rfl (.cons rfl (.nil))⟩
 ·refine cH.mk 2 rfl (by decide) ?_;refine bc.mk tT i tU rfl aK ?_;refine aF.mk _ (sA.sub λx ab=>by simp[ab]) ?_;refine fi.whole _ (tR (d:=⟨2,dJ,s1,s2,dQ,fl,lo,cw,jq,jr,js,jt⟩) (x:=x) hu eU (lT eW) 2 (by decide) rfl (λh=>by omega) (λ_=>pw rfl)) (λv I' M' h x ab=>by rw[h.2.2];exact ab) ?_;rintro v dP dr -⟨rfl,rfl,rfl⟩;refine bc.mk ⟨cO,0,none⟩ i rfl rfl aK ?_;refine cg.f' [] (bL.aY 51++M0) ((aM++List.replicate (t.n-i) cQ).flatMap a7.cells) _ rfl (tS fR aK _) rfl _ (fj _) ?_;refine a5.mk _ (cm (i:=i) (by omega)) ?_;exact⟨(i+1,_,bL),hinv _ _ fC,.refl,hk,.cons rfl (.cons rfl (.nil))⟩
 ·refine cH.mk 4 rfl (by decide) ?_;refine bc.mk tT i tU rfl aK ?_;refine aF.mk _ (sA.sub λx ab=>by simp[ab]) ?_;refine fi.whole _ (tR (d:=⟨4,dJ,s1,s2,dQ,fl,lo,cw,jq,jr,js,jt⟩) (x:=x) hu eU (lT eW) 4 (by decide) rfl (λh=>by omega) (λh=>absurd h (by decide))) (λv I' M' h x ab=>by rw[h.2.2];exact ab) ?_;rintro v dP dr -⟨rfl,rfl,rfl⟩;refine bc.mk ⟨cO,0,none⟩ i rfl rfl aK ?_;refine cg.f' [] (bL.aY 51++M0) ((aM++List.replicate (t.n-i) cQ).flatMap a7.cells) _ rfl (tS fR aK _) rfl _ (fj _) ?_;refine a5.mk _ (cm (i:=i) (by omega)) ?_;exact⟨(i+1,_,bL),hinv _ _ fC,.refl,hk,.cons rfl (.cons rfl (.nil))⟩
 ·refine cH.mk 5 rfl (by decide) ?_;refine bc.mk tT i tU rfl aK ?_;refine aF.mk _ (sA.sub λx ab=>by simp[ab]) ?_;refine fi.whole _ (tR (d:=⟨5,dJ,s1,s2,dQ,fl,lo,cw,jq,jr,js,jt⟩) (x:=x) hu eU (lT eW) 5 (by decide) rfl (λh=>by omega) (λh=>absurd h (by decide))) (λv I' M' h x ab=>by rw[h.2.2];exact ab) ?_;rintro v dP dr -⟨rfl,rfl,rfl⟩;refine bc.mk ⟨cO,0,none⟩ i rfl rfl aK ?_;refine cg.f' [] (bL.aY 51++M0) ((aM++List.replicate (t.n-i) cQ).flatMap a7.cells) _ rfl (tS fR aK _) rfl _ (fj _) ?_;refine a5.mk _ (cm (i:=i) (by omega)) ?_;exact⟨(i+1,_,bL),hinv _ _ fC,.refl,hk,.cons rfl (.cons rfl (.nil))⟩
 ·refine cH.mk 6 rfl (by decide) ?_;refine bc.mk tT i tU rfl aK ?_;refine aF.mk _ (sA.sub λx ab=>by simp[ab]) ?_;refine fi.whole _ (tR (d:=⟨6,dJ,s1,s2,dQ,fl,lo,cw,jq,jr,js,jt⟩) (x:=x) hu eU (lT eW) 6 (by decide) rfl (λ_=>jX (by decide)) (λh=>absurd h (by decide))) (λv I' M' h x ab=>by rw[h.2.2];exact ab) ?_;rintro v dP dr -⟨rfl,rfl,rfl⟩;refine bc.mk ⟨cO,0,none⟩ i rfl rfl aK ?_;refine cg.f' [] (bL.aY 51++M0) ((aM++List.replicate (t.n-i) cQ).flatMap a7.cells) _ rfl (tS fR aK _) rfl _ (fj _) ?_;refine a5.mk _ (cm (i:=i) (by omega)) ?_;exact⟨(i+1,_,bL),hinv _ _ fC,.refl,hk,.cons rfl (.cons rfl (.nil))⟩
 ·refine cH.mk 7 rfl (by decide) ?_;refine bc.mk tT i tU rfl aK ?_;refine aF.mk _ (sA.sub λx ab=>by simp[ab]) ?_;refine fi.whole _ (tR (d:=⟨7,dJ,s1,s2,dQ,fl,lo,cw,jq,jr,js,jt⟩) (x:=x) hu eU (lT eW) 7 (by decide) rfl (λh=>by omega) (λh=>absurd h (by decide))) (λv I' M' h x ab=>by rw[h.2.2];exact ab) ?_;rintro v dP dr -⟨rfl,rfl,rfl⟩;refine bc.mk ⟨cO,0,none⟩ i rfl rfl aK ?_;refine cg.f' [] (bL.aY 51++M0) ((aM++List.replicate (t.n-i) cQ).flatMap a7.cells) _ rfl (tS fR aK _) rfl _ (fj _) ?_;refine a5.mk _ (cm (i:=i) (by omega)) ?_;exact⟨(i+1,_,bL),hinv _ _ fC,.refl,hk,.cons rfl (.cons rfl (.nil))⟩
 ·refine cH.mk 8 rfl (by decide) ?_;refine bc.mk tT i tU rfl aK ?_;refine aF.mk _ (sA.sub λx ab=>by simp[ab]) ?_;refine fi.whole _ (tR (d:=⟨8,dJ,s1,s2,dQ,fl,lo,cw,jq,jr,js,jt⟩) (x:=x) hu eU (lT eW) 8 (by decide) rfl (λh=>by omega) (λh=>absurd h (by decide))) (λv I' M' h x ab=>by rw[h.2.2];exact ab) ?_;rintro v dP dr -⟨rfl,rfl,rfl⟩;refine bc.mk ⟨cO,0,none⟩ i rfl rfl aK ?_;refine cg.f' [] (bL.aY 51++M0) ((aM++List.replicate (t.n-i) cQ).flatMap a7.cells) _ rfl (tS fR aK _) rfl _ (fj _) ?_;refine a5.mk _ (cm (i:=i) (by omega)) ?_;exact⟨(i+1,_,bL),hinv _ _ fC,.refl,hk,.cons rfl (.cons rfl (.nil))⟩
 ·refine cH.mk 9 rfl (by decide) ?_;refine bc.mk tT i tU rfl aK ?_;refine aF.mk _ (sA.sub λx ab=>by simp[ab]) ?_;refine fi.whole _ (tR (d:=⟨9,dJ,s1,s2,dQ,fl,lo,cw,jq,jr,js,jt⟩) (x:=x) hu eU (lT eW) 9 (by decide) rfl (λ_=>jX (by decide)) (λh=>absurd h (by decide))) (λv I' M' h x ab=>by rw[h.2.2];exact ab) ?_;rintro v dP dr -⟨rfl,rfl,rfl⟩;refine bc.mk ⟨cO,0,none⟩ i rfl rfl aK ?_;refine cg.f' [] (bL.aY 51++M0) ((aM++List.replicate (t.n-i) cQ).flatMap a7.cells) _ rfl (tS fR aK _) rfl _ (fj _) ?_;refine a5.mk _ (cm (i:=i) (by omega)) ?_;exact⟨(i+1,_,bL),hinv _ _ fC,.refl,hk,.cons rfl (.cons rfl (.nil))⟩
def afs{t:ByteArray}(h:0<t.size):AG t=⟨oh t[0],false⟩:=by
 unfold AG;have ao:0<t.data.toList.length:=by rw[uC];exact h
 have e:t.data.toList.take 1=[t[0]]:=by rw[hU ao,pR,mT,Array.getElem_toList];rfl
 rw[e];simp[se,bw.zero_or]
def aft(h:(dI bU (bM ds)).isSome=true):∃ q:Nat,c9 bU ds 0=q/\q<ds.length/\((dI bU (bM ds)).getD 0).toNat=q:=by
 have nO:=afb bU ds;cases ah:decide (c9 bU ds 0<0)with
 |true=>rw[ah,bh]at nO;rw[nO]at h;cases h| false=>rw[ah,ba]at nO;have aR:¬ c9 bU ds 0<0:=dt ah;obtain⟨q,aO⟩:=oV (by omega:0<=c9 bU ds 0);have UK:=nO;rw[Gf]at UK;obtain⟨j,nY,o3⟩:=J' UK;refine⟨q,aO,by omega,?_⟩;rw[nO,aO];rfl
structure pG(s:ByteArray)(x:aZ×a7)(a:Nat)(c:cy):Prop where
 z:c.au=3->c.aP=a->x.1.z=true/\x.2.f=true
 s:c.au=3->c.aP≠a->x.1.s=true/\∃ h:a<s.data.size,x.2.w.has s.data[a].toNat=true
 f:c.au=2->x.1.f=true
def pG.zero{s:ByteArray}{x:aZ×a7}{a:Nat}{c:cy}(h:c.au=0):pG s x a c:=⟨λe=>by omega,λe=>by omega,λe=>by omega⟩
def pG.hQ{x:aZ×a7}{a:Nat}(h:pG s x a c)(af:c.au=3):x.1.hQ=true:=by
 unfold aZ.hQ;by_cases e:c.aP=a
 ·rw[(h.z af e).1];rfl
 ·rw[(h.s af e).1,Hq]
def rm(s:ByteArray)(a:Nat)(w:bw):Prop:=∃ h:a<s.data.size,w.has s.data[a].toNat=true
def rm.UL{a:Nat}{w:bw}(h:rm s a w)(v:bw):rm s a (w.or v):=by obtain⟨U,aa⟩:=h;exact⟨U,by rw[bw.Sf,aa,FC]⟩
def rm.UM{a:Nat}{w:bw}(h:rm s a w)(v:bw):rm s a (v.or w):=by obtain⟨U,aa⟩:=h;exact⟨U,by rw[bw.Sf,aa,Hq]⟩
structure UN(s:ByteArray)(a b:Nat)(p:aZ×Bool)(w:a7):Prop where
 le:a<=b
 gd:p.2=true
 z:b=a->p.1.z=true/\w.f=true
 s:b≠a->p.1.s=true/\rm s a w.w
def afu(h:p.1.s=true)(k:aZ):(jZ p k).1.s=true:=by unfold jZ;simp[h]
def afv(h:p.1.f=true)(k:aZ):(jZ p k).1.f=true:=by unfold jZ;simp[h]
def UO{p:aZ×Bool}:∀ (ks:List aZ),p.1.f=true->(ks.foldl jZ p).1.f=true
 |[],h=>h| k::ks,h=>UO (p:=jZ p k) ks (afv h k)
def UP{s:ByteArray}{m:Nat->Nat->cy}(aA:wO m){a:Nat}:∀ (L:List (Nat×(aZ×a7))) (b n:Nat) (p:aZ×Bool) (w:a7),(∀ x∈L,∀ b,pG s x.2 b (m x.1 b))->UN s a b p w -> ((g3 m (L.map (·.1)) b n).au=3->UN s a (g3 m (L.map (·.1)) b n).aP ((L.map (·.2.1)).foldl jZ p) ((L.map (·.2.2)).foldl a7.seq w)) /\ ((g3 m (L.map (·.1)) b n).au=2->((L.map (·.2.1)).foldl jZ p).1.f=true)
 |[],b,n,p,w,_,h=>⟨λ_=>h,λe=>(by cases e)⟩
 |x::L,b,n,p,w,c7,h=>by
  have ab:=c7 x (.head _) b;rw[dV,dV,dV,g3,uc,uc];cases af:Nat.beq (m x.1 b).au 3 with
  |true=>
   have bD:(m x.1 b).au=3:=cf af;have c1:=aA x.1 b bD;rw[bh];refine UP aA L _ _ _ _ (λy aN=>c7 y (.tail _ aN)) ⟨jx h.le c1,?_,λe=>?_,λe=>?_⟩;·show(p.2&&x.2.1.hQ)=true;rw[h.gd,ab.hQ bD];rfl
   ·have ai:b=a:=by have:=h.le;omega
    obtain⟨U,aa⟩:=h.z ai;obtain⟨aR,bC⟩:=ab.z bD (by omega);refine⟨?_,?_⟩;·show(p.1.z&&x.2.1.z)=true;rw[U,aR];rfl
    ·unfold a7.seq;rw[aa,bh];exact bC
   ·by_cases ai:b=a
    ·obtain⟨U,aa⟩:=h.z ai;obtain⟨aR,bC⟩:=ab.s bD (by omega);refine⟨?_,?_⟩
     ·show(p.1.s||x.2.1.s)=true;rw[aR,Hq]
     ·unfold a7.seq;rw[aa,bh];have bO:rm s b x.2.2.w:=bC;rw[ai]at bO;exact bO.UM _
    ·obtain⟨U,aa⟩:=h.s ai;refine⟨afu U _,?_⟩;unfold a7.seq;cases w.f with
     |true=>exact aa.UL _| false=>exact aa
  |false=>
   rw[ba];have z9:(m x.1 b).au≠3:=λe=>by rw[e]at af;cases af
   refine⟨λe=>absurd e z9,λe=>UO _ ?_⟩;show(p.1.f||(p.2&&x.2.1.f))=true;rw[h.gd,ab.f e,s0,Hq]
structure tV(s:ByteArray)(a:Nat)(c:cy)(x:aZ)(w:a7):Prop where
 z:c.au=3->c.aP=a->x.z=true/\w.f=true
 s:c.au=3->c.aP≠a->x.s=true/\rm s a w.w
def tV.step{a:Nat}{x:aZ}{w:a7}(h:tV s a c x w)(k:aZ)(v:a7):tV s a c (lk x k) (w.choice v):=by
 refine⟨λaf e=>?_,λaf e=>?_⟩
 ·obtain⟨U,aa⟩:=h.z af e;exact⟨by unfold lk;simp[U],by unfold a7.choice;simp[aa]⟩
 ·obtain⟨U,aa⟩:=h.s af e;exact⟨by unfold lk;simp[U],aa.UL _⟩
def tV.fold{s:ByteArray}{a:Nat}{c:cy}:∀ (L:List (aZ×a7)) {x:aZ} {w:a7},tV s a c x w->tV s a c ((L.map (·.1)).foldl lk x) ((L.map (·.2)).foldl a7.choice w)
 |[],x,w,h=>h| y::L,x,w,h=>tV.fold L (h.step y.1 y.2)
def UQ{s:ByteArray}{m:Nat->Nat->cy}{a:Nat}:∀ (L:List (Nat×(aZ×a7))) (x:aZ) (w:a7),(∀ y∈L,pG s y.2 a (m y.1 a))->x.f=true -> tV s a (hC m (L.map (·.1)) a) ((L.map (·.2.1)).foldl lk x) ((L.map (·.2.2)).foldl a7.choice w) /\ ((hC m (L.map (·.1)) a).au=2->((L.map (·.2.1)).foldl lk x).f=true)
 |[],x,w,_,az=>⟨⟨λh=>(by cases h),λh=>(by cases h)⟩,λ_=>az⟩
 |y::L,x,w,c7,az=>by
  have aN:=c7 y (.head _);rw[dV,dV,dV,hC,uc,uc];cases aa:Nat.beq (m y.1 a).au 2 with
  |true=>rw[bh];refine UQ L _ _ (λz bg=>c7 z (.tail _ bg)) ?_;show(x.f&&y.2.1.f)=true;rw[az,aN.f (cf aa)];rfl
  |false=>
   rw[ba];refine⟨?_,λe=>by rw[e]at aa;cases aa⟩;have U:tV s a (m y.1 a) (lk x y.2.1) (w.choice y.2.2):=by
    refine⟨λaf e=>?_,λaf e=>?_⟩;·obtain⟨eY,ez⟩:=aN.z af e;exact⟨by unfold lk;simp[az,eY],by unfold a7.choice;simp[ez]⟩
    ·obtain⟨eY,ez⟩:=aN.s af e;have ga:rm s a y.2.2.w:=ez;exact⟨by unfold lk;simp[az,eY],ga.UM _⟩
   have:=tV.fold (L.map (·.2)) U;rwa [lM,lM]at this
structure afw(s:ByteArray)(a b i:Nat)(k:aZ×a7):Prop where
 le:a<=b
 zero:i=0->b=a
 z:b=a->i≠0->k.1.z=true/\k.2.f=true
 s:b≠a->k.1.s=true/\rm s a k.2.w
def UR{s:ByteArray}{m:Nat->Nat->cy}(aA:wO m){a q:Nat}{k:aZ×a7}(ae:∀ b,pG s k b (m q b)){d:a9}(ev:d.k=6->0<=d.lo)(bO:d.k=6)(ao:d.hi≠0):∀ (j i b n:Nat),afw s a b i k->(d.hi≠-1->i+j≠0) -> pG s (lS d k.1,pz d k.2) a (ft m q d.lo d.hi j i b n)
 |0,i,b,n,h,an=>by
  rw[ft];cases he:decide (d.hi=-1)with
  |true=>exact .zero rfl
  |false=>
   rw[ba];have MT:i≠0:=by have:=an (dt he);omega
   refine⟨λ_ e=>?_,λ_ e=>?_,λe=>(by cases e)⟩;·obtain⟨U,aa⟩:=h.z e MT;exact⟨by unfold lS;simp[ao,U],by unfold pz;simp[ao,aa]⟩
   ·obtain⟨U,aa⟩:=h.s e;exact⟨by unfold lS;simp[ao,U],by unfold pz;simp only[ao,decide_false,ba];exact aa⟩
 |j+1,i,b,n,h,an=>by
  have ai:=ae b;rw[ft];cases aa:Nat.beq (m q b).au 2 with
  |true=>
   have az:=ai.f (cf aa);rw[bh];cases ar:decide ((i:Int)<d.lo)with
   |true=>
    have:(0:Int)<d.lo:=by have:=du ar;omega
    refine⟨λe=>(by cases e),λe=>(by cases e),λ_=>by unfold lS;simp[ao,az,this]⟩
   |false=>
    have uL:=dt ar;refine⟨λ_ e=>?_,λ_ e=>?_,λe=>(by cases e)⟩
    ·by_cases MT:i=0
     ·have bg:d.lo=0:=by have:=ev bO;omega
      exact⟨by unfold lS;simp[ao,bg,az],by unfold pz;simp[ao,bg]⟩
     ·obtain⟨U,af⟩:=h.z e MT;exact⟨by unfold lS;simp[ao,U],by unfold pz;simp[ao,af]⟩
    ·obtain⟨U,af⟩:=h.s e;exact⟨by unfold lS;simp[ao,U],by unfold pz;simp only[ao,decide_false,ba];exact af⟩
  |false=>
   rw[ba];cases af:Nat.beq (m q b).au 3 with
   |false=>exact .zero rfl
   |true=>
    have bD:=cf af;rw[bh];cases he:decide (d.hi=-1)&&decide ((m q b).aP=b)with
    |true=>exact .zero rfl
    |false=>
     rw[ba];have c1:=aA q b bD;refine UR aA ae ev bO ao j (i+1) _ _ ⟨jx h.le c1,λe=>by omega,λe _=>?_,λe=>?_⟩ (λ_=>by omega)
     ·have Dc:b=a:=by have:=h.le;omega
      exact ai.z bD (by omega)
     ·by_cases Dc:b=a
      ·obtain⟨eY,ez⟩:=ai.s bD (by omega);have ga:rm s b k.2.w:=ez;rw[Dc]at ga;exact⟨eY,ga⟩
      ·exact h.s Dc
def afx{n:Int}(h:fits d n=true)(aa:d.k=2):0<d.t.size:=by
 unfold fits at h;rw[aa]at h;simp only[show decide ((10:Int)<=2)=false from rfl,ba,show decide ((2:Int)=1)=false from rfl,show decide ((2:Int)=2)=true from rfl,bh]at h;cases U:(decide (n<qO (2:Int).toNat)||(decide (0<=mZ (2:Int).toNat)&&decide (mZ (2:Int).toNat<n)))with
 |true=>rw[U]at h;cases h
 |false=>
  rw[U,ba]at h;have af:decide (d.t=⟨#[]⟩)=false:=by
   cases aR:decide (d.t=⟨#[]⟩)with
   |false=>rfl| true=>rw[aR]at h;simp at h
  have bC:=dt af;rcases Nat.eq_zero_or_pos d.t.size with bO | bO
  ·exact absurd (by
    have eo:∀ u:ByteArray,u.size=0->u=⟨#[]⟩:=λu hu=>by obtain⟨⟨l⟩⟩:=u;have:l.length=0:=hu;rw[l' this]
    exact eo _ bO) bC
  ·exact bO
def HD{x:Int}(h:eh x)(i:Nat)(hi:i<64):(BitVec.ofInt 64 x).getLsbD i=x.toNat.testBit i:=by obtain⟨w,rfl⟩:=R9 h;rw[GF,oz];rfl
def afy(ao:eh d.dJ)(U:eh d.s1)(aa:eh d.s2)(af:eh d.dQ)(ax:n<256):d.ws.has n=lf d n:=by
 unfold bw.has lf;have hm:n%64<64:=Nat.mod_lt _ (by decide);have aO:n/64=0\/n/64=1\/n/64=2\/n/64=3:=by omega
 rcases aO with e | e | e | e<;>rw[e]
 ·exact HD ao _ hm
 ·exact HD U _ hm
 ·exact HD aa _ hm
 ·exact HD af _ hm
def afz{b:Nat}(h:lf d b=true):d.lK=false:=by
 cases bg:d.lK with
 |false=>rfl
 |true=>
  exfalso;unfold a9.lK at bg;simp only[b3,beq_iff_eq]at bg;obtain⟨afA,rj,A5,Eb⟩:=bg;unfold lf at h;rw[afA,rj,A5,Eb]at h;have:∀ j,([(0:Int),0,0,0].getD j 0).toNat=0:=λj=>by
   match j with
   |0=>rfl| 1=>rfl| 2=>rfl| 3=>rfl| j+4=>rfl
  rw[this]at h;simp at h
def afB(aA:g.ok I)(hm:po g)(d':∀ d∈g.ds,r5 (bM g.ds) d.t.ns=true)(cr:u0 g.ds F)(fY:GI g.ds F W) :
  ∀ (n i j:Nat) (hi:i<g.ds.length) (an:j<g.ds[i].t.ns.length) (a:Nat),pG s (sf (bM g.ds) F W g.ds[i].t.ns j) a (eO (eu g s) n (jO g i j) a):=by
 intro n
 induction n with
 |zero=>intro i j hi an a;exact .zero rfl
 |succ n be=>
  intro i j hi an a;have eA:=dK hi;have a1:=hm.r _ eA;have ah:=((aA.ds _ eA).t.ns _ (dK an));have az:=a1.fits j an;have US:=afa ah.k.1 az;have j':=FE az;have jl:=abO s hi an;have p0:=a1.aX j an;rw[ab7 (QU.2 a1) an];show pG s _ a (dM (eu g s) (eO (eu g s) n) (jO g i j) a);have c1:=Ao (eu g s) n;have xK:=gi.1 (d' _ eA) _ (dK an);have afC:∀ k∈g.ds[i].t.ns[j].aX,∃ q:Nat,k=q/\q<g.ds[i].t.ns.length:=λk ae=>by have:=p0 k ae;exact⟨k.toNat,by omega,by omega⟩
  have my:(eu g s).s=s:=rfl;have afD:=λq aO b=>be i q hi aO b;have UT:=afx az;generalize cT:g.ds[i].t.ns[j]=y at *;have ae:∀ {x:Int},y.k=x->((eu g s).aH (jO g i j)).d.k=x:=λe=>by rw[jl];exact e
  have has:y.k≠3->((eu g s).aH (jO g i j)).bT=y.aX.map λk=>jO g i k.toNat:=λe=>by rw[jl];show ko _ _ _=_;rw[ko,ea e,ba];rfl
  let L:List (Nat×(aZ×a7)):=y.aX.map λk=>(jO g i k.toNat,sf (bM g.ds) F W g.ds[i].t.ns k)
  have MU:L.map (·.1)=y.aX.map λk=>jO g i k.toNat:=by simp only[L,lM];rfl
  have rl:L.map (·.2.1)=(y.aX.map (sf (bM g.ds) F W g.ds[i].t.ns)).map (·.1):=by simp only[L,lM];rfl
  have afE:L.map (·.2.2)=(y.aX.map (sf (bM g.ds) F W g.ds[i].t.ns)).map (·.2):=by simp only[L,lM];rfl
  have HE:∀ x∈L,∀ b,pG s x.2 b (eO (eu g s) n x.1 b):=λx ab b=>by obtain⟨k,afF,rfl⟩:=ej.1 ab;obtain⟨q,rfl,aO⟩:=afC k afF;exact afD q aO b
  have jA:6<=y.k->∃ x,L=[x]:=λbO=>by
   have U:=US.one bO;have aa:L.length=1:=by simp only[L,eX];omega
   match L,aa with
   |[x],_=>exact⟨x,rfl⟩
  have zf:y.k≠3->qd (bM g.ds) F W y (y.aX.map (sf (bM g.ds) F W g.ds[i].t.ns))=(dN y (L.map (·.2.1)),eV y (dN y (L.map (·.2.1))) (L.map (·.2.2))):=λe=>by unfold qd;rw[ea e,ba,ba,dF,dF,<-rl,<-afE]
  have UU:∀ x,L=[x]->((eu g s).aH (jO g i j)).bT.getD 0 0=x.1\/y.k=3:=λx ab=>by
   by_cases e:y.k=3;·exact .inr e
   ·left
    rw[has e,<-MU,ab];rfl
  have gv:y.k=0\/y.k=1\/y.k=2\/y.k=3\/y.k=4\/y.k=5\/y.k=6\/y.k=7\/y.k=8\/y.k=9:=by have:=ah.k.1;have:=j'.k;omega
  rcases gv with e | e | e | e | e | e | e | e | e | e;·rw[zf (by omega),wF (ae e)];refine⟨λ_ _=>?_,λ_ h=>absurd rfl h,λh=>(by cases h)⟩;simp[dN,eV,e,aZ.hQ]
  ·rw[zf (by omega),wG (ae e),my];have fD:∀ b,lf ((eu g s).aH (jO g i j)).d b=lf y b:=λb=>by rw[jl];rfl
   cases ai:s.data[a]? with
   |none=>refine⟨λh=>(by cases h),λh=>(by cases h),λ_=>?_⟩;simp[dN,e]
   |some b=>
    obtain⟨aK,afG⟩:=jS.1 ai;simp only[fD];cases bA:lf y b.toNat with
    |false=>refine⟨λh=>(by cases h),λh=>(by cases h),λ_=>?_⟩;simp[dN,e]
    |true=>
     refine⟨λ_ h=>?_,λ_ _=>⟨?_,aK,?_⟩,λh=>(by cases h)⟩;·have:a+1=a:=h;omega
     ·simp[dN,e,afz bA]
     ·rw[afG];have aR:(eV y (dN y (L.map (·.2.1))) (L.map (·.2.2)))=⟨y.ws,false⟩:=by simp[eV,e]
      rw[aR];show y.ws.has b.toNat=true;rw[afy ah.dJ ah.s1 ah.s2 ah.dQ b.toNat_lt,bA]
  ·rw[zf (by omega),wH (ae e),my];have av:((eu g s).aH (jO g i j)).d.t=y.t:=by rw[jl];rfl
   rw[av];have ao:=UT e;cases aG:preB s y.t a with
   |false=>refine⟨λh=>(by cases h),λh=>(by cases h),λ_=>?_⟩;simp[dN,e]
   |true=>
    refine⟨λ_ h=>?_,λ_ _=>⟨?_,?_⟩,λh=>(by cases h)⟩;·have:a+y.t.size=a:=h;omega
    ·simp[dN,e]
    ·unfold preB at aG;rw[b3]at aG;have U:a+y.t.size<=s.size:=du aG.1;have aa:s.extract a (a+y.t.size)=y.t:=du aG.2;have aK:a<s.data.size:=by have:s.size=s.data.size:=rfl;omega
     refine⟨aK,?_⟩;have aR:(eV y (dN y (L.map (·.2.1))) (L.map (·.2.2)))=AG y.t:=by simp[eV,e]
     rw[aR,afs ao];have bC:y.t[0]=s.data[a]:=by
      have bO:∀ (u:ByteArray) (hu:u=y.t) (h:0<u.size),u[0]=y.t[0]:=λu hu h=>by subst hu;rfl
      rw[<-bO _ aa (by rw[aa];exact ao)];rw[ByteArray.getElem_extract];simp;rfl
     rw[bC];show(oh s.data[a]).has _=true;rw[ab5 _ (UInt8.toNat_lt _),iQ rfl]
  ·
   rw[wI (ae e)];have af:(dI y.t (bM g.ds)).isSome=true:=by simpa[e]using xK
   obtain⟨q,yv,n8,afH⟩:=aft af;have UW:=hm.r _ (dK n8);obtain⟨r,al⟩:=oV UW.b1.1;have gx:r<g.ds[q].t.ns.length:=by have:=UW.b1.2;omega
   have HF:((eu g s).aH (jO g i j)).bT.getD 0 0=jO g q r:=by rw[jl];show(ko _ _ _).getD 0 0=_;rw[ko,iQ e,bh,yv,<-R8 n8 al];rfl
   rw[HF];have U:=be q r n8 gx a;rw[Sj]at U;have afI:=cr.fix q n8;have afJ:=fY.fix q n8;have m0:y.aX=[]:=l' (by have:=US.leaf (by omega);omega);have bC:qd (bM g.ds) F W y (y.aX.map (sf (bM g.ds) F W g.ds[i].t.ns))=(F.getD q bY,W.getD q cQ):=by unfold qd;rw[iQ e,bh,bh,m0,afH];simp[dN,eV,e]
   rw[bC,afI];have eW:W.getD q cQ=(hT (bM g.ds) W (eN (bM g.ds) F g.ds[q].t.ns []) g.ds[q].t.ns []).getD (r:Int).toNat cQ:=by refine Eq.trans afJ ?_;unfold kX;rw[g0 n8];show(hT _ _ _ _ _).getD g.ds[q].t.b1.toNat cQ=_;rw[al]
   rw[eW];unfold kU;rw[al];exact U
  ·rw[zf (by omega),wJ (ae e),has (by omega),<-MU];have U:=UP c1 (a:=a) L a 0 (⟨true,false,false⟩,true) Dj HE ⟨cC _,rfl,λ_=>⟨rfl,rfl⟩,λh=>absurd rfl h⟩;have aw:dN y (L.map (·.2.1))=Ac (L.map (·.2.1)):=by simp[dN,e]
   have aB:eV y (dN y (L.map (·.2.1))) (L.map (·.2.2))=yI (L.map (·.2.2)):=by simp[eV,e]
   rw[aB,aw];refine⟨λaf h=>(U.1 af).z h,λaf h=>?_,λaa=>U.2 aa⟩;obtain⟨eY,ez⟩:=(U.1 af).s h;refine⟨?_,ez⟩;show((n7 _).1.s&&(n7 _).2)=true;unfold n7;rw[eY,(U.1 af).gd];rfl
  ·rw[zf (by omega),wK (ae e),has (by omega),<-MU];have U:=UQ (s:=s) (m:=eO (eu g s) n) (a:=a) L ⟨false,false,true⟩ cQ (λx ab=>HE x ab a) rfl;have aw:dN y (L.map (·.2.1))=CI (L.map (·.2.1)):=by simp[dN,e]
   have aB:eV y (dN y (L.map (·.2.1))) (L.map (·.2.2))=yJ (L.map (·.2.2)):=by simp[eV,e]
   rw[aB,aw];exact⟨U.1.z,U.1.s,U.2⟩
  ·obtain⟨x,ab⟩:=jA (by omega);have pb:=(UU x ab).resolve_right (by omega);have e2:((eu g s).aH (jO g i j)).d.hi=y.hi:=by rw[jl];rfl
   have ev:((eu g s).aH (jO g i j)).d.lo=y.lo:=by rw[jl];rfl
   have afK:=j'.m7 e;rw[zf (by omega),tp (ae e),pb,e2,ev,ab];have aw:dN y ([x].map (·.2.1))=lS y x.2.1:=by simp[dN,e]
   have aB:eV y (dN y ([x].map (·.2.1))) ([x].map (·.2.2))=pz y x.2.2:=by simp[eV,e]
   rw[aB,aw];have fD:y.hi≠-1->wE (eu g s) ((eu g s).aH (jO g i j)).d a=y.hi.toNat:=λh=>by unfold wE;rw[e2,ea h];rfl
   by_cases ao:y.hi=0;·rw[fD (by omega),ao];refine⟨λ_ _=>?_,λ_ h=>absurd rfl h,λh=>(by cases h)⟩;simp[lS,pz,ao,Dj]
   ·refine UR c1 (k:=x.2) (λb=>HE x (by rw[ab];exact .head _) b) (λ_=>afK.1) e ao _ 0 a 0 ⟨cC _,λ_=>rfl,λ_ h=>absurd rfl h,λh=>absurd rfl h⟩ λh=>?_;rw[fD h];omega
  all_goals
   obtain⟨x,ab⟩:=jA (by omega);have pb:=(UU x ab).resolve_right (by omega);have tL:=HE x (by rw[ab];exact .head _) a;rw[zf (by omega),ab]
  ·rw[wL (ae e),pb];cases af:Nat.beq (eO (eu g s) n x.1 a).au 3 with
   |true=>have MV:=tL.hQ (cf af);refine⟨λ_ _=>?_,λ_ h=>absurd rfl h,λh=>(by cases h)⟩;simp[dN,eV,e,MV];simp[aZ.hQ]
   |false=>
    refine⟨λh=>?_,λh=>?_,λh=>?_⟩;·rw[show(eO (eu g s) n x.1 a).au=3 from h]at af;cases af
    ·rw[show(eO (eu g s) n x.1 a).au=3 from h]at af;cases af
    ·have:=tL.f h;simp[dN,e,this]
  ·rw[wM (ae e),pb];cases aa:Nat.beq (eO (eu g s) n x.1 a).au 2 with
   |true=>have n4:=tL.f (cf aa);refine⟨λ_ _=>?_,λ_ h=>absurd rfl h,λh=>(by cases h)⟩;simp[dN,eV,e,n4];simp[aZ.hQ]
   |false=>
    cases af:Nat.beq (eO (eu g s) n x.1 a).au 3 with
    |true=>have MV:=tL.hQ (cf af);refine⟨λh=>(by cases h),λh=>(by cases h),λ_=>?_⟩;simp[dN,e,MV]| false=>exact .zero rfl
  ·have eT:dM (eu g s) (eO (eu g s) n) (jO g i j) a=bif Nat.beq (eO (eu g s) n x.1 a).au 3 then⟨fs (eO (eu g s) n x.1 a).n 1,(eO (eu g s) n x.1 a).aP,3⟩else eO (eu g s) n x.1 a:=by have FG:=ae e;rw[wN (by omega) (by omega) (by omega) (by omega) (by omega) (by omega) (by omega) (by omega) (by omega),pb]
   rw[eT];have aw:dN y ([x].map (·.2.1))=x.2.1:=by simp[dN,e]
   have aB:eV y (dN y ([x].map (·.2.1))) ([x].map (·.2.2))=x.2.2:=by simp[eV,e]
   rw[aB,aw];cases af:Nat.beq (eO (eu g s) n x.1 a).au 3 with
   |true=>have bD:=cf af;exact⟨λ_ h=>tL.z bD h,λ_ h=>tL.s bD h,λh=>(by cases h)⟩| false=>exact tL
def afL(aA:g.ok I)(hm:po g)(d':∀ d∈g.ds,r5 (bM g.ds) d.t.ns=true)(cr:u0 g.ds F)(fY:GI g.ds F W)(i j:Nat)(hi:i<g.ds.length)(an:j<g.ds[i].t.ns.length)(a:Nat) :
  pG s (sf (bM g.ds) F W g.ds[i].t.ns j) a (b8 (eu g s) (jO g i j) a):=by
 by_cases ah:eH (b8 (eu g s) (jO g i j) a)
 ·obtain⟨n,ax⟩:=n' ah;rw[<-ax];exact afB aA hm d' cr fY n i j hi an a
 ·exact .zero (by rw[(tq (eu g s) (jO g i j) a).zero ah];rfl)
def afM(aA:g.ok I)(hm:po g)(d':∀ d∈g.ds,r5 (bM g.ds) d.t.ns=true)(cr:u0 g.ds F)(fY:GI g.ds F W)(i:Nat)(hi:i<g.ds.length)(a:Nat) :
  pG s (F.getD i bY,W.getD i cQ) a (b8 (eu g s) (u4 g i) a):=by
 have a1:=hm.r _ (dK hi);obtain⟨r,al⟩:=oV a1.b1.1;have gx:r<g.ds[i].t.ns.length:=by have:=a1.b1.2;omega
 have U:=afL aA hm d' (s:=s) cr fY i r hi gx a;rw[Sj]at U;have eW:W.getD i cQ=(hT (bM g.ds) W (eN (bM g.ds) F g.ds[i].t.ns []) g.ds[i].t.ns []).getD (r:Int).toNat cQ:=by refine Eq.trans (fY.fix i hi) ?_;unfold kX;rw[g0 hi];show(hT _ _ _ _ _).getD g.ds[i].t.b1.toNat cQ=_;rw[al]
 rw[R8 hi al,eW,cr.fix i hi];unfold kU;rw[al];exact U
def zg(b:Nat)(n:Nat):Value:=.slice (some ⟨b,0,none⟩) n n
structure HG(I:aS)(pl:List (ByteArray×Int))(F:List aZ)(ds:List bE)(k:Nat)(rows:List Value):Prop where
 len:rows.length=ds.length
 row:∀ i (h:i<ds.length),i<k->∃ b,rows[i]?=some (zg b ds[i].t.n)/\I b=some (ee b (eN pl F ds[i].t.ns [])).obj
def afN{b:Nat}{l:List aZ}(h:I b=some (ee b l).obj):kT I M (some ⟨b,0,none⟩) l.length l:=
 ⟨rfl,λj an=>⟨_,rfl,by
  have U:=wA (I:=I) (M:=[ee b l]) (.head _) an;obtain⟨eY,cs,T,f,ez,ga,jk⟩:=U;rw[dS _ rfl]at ez |-;refine⟨rfl,(l.flatMap aZ.cells).toArray,_,_,.inl h,?_,jk⟩;rcases ez with ez | ⟨x,ab,aw,aB⟩;·rw[dS _ rfl]at ga;have:some (Obj.cells cs T f)=some (ee b l).obj:=ez.symm.trans h;simp only[ee,iJ,Obj.cells.injEq]at this;rw[<-this.1];exact ga
  ·simp only[iY]at ab;subst ab;rw[dS _ rfl]at ga;simp only[ee,Obj.cells.injEq]at aB;rw[aB.1];exact ga⟩⟩
def mK(bQ dy gf e8 bI:Nat)(g:dX)(l:List a7)(rows:List Value):List ay:=[⟨bQ,.cells #[.slice (some ⟨dy,0,none⟩) g.n g.n] 37 (0,0)⟩,⟨gf,.cells #[.slice (some ⟨e8,0,none⟩) g.n g.n] 99 (0,0)⟩,g5 dy l,⟨e8,.cells rows.toArray 34 (0,0)⟩,⟨bI,.cells #[.slice g.a g.n g.c] 24 (0,0)⟩]
def UX{b:Nat}{f:a7}(a4:(⟨b,.cells f.cells.toArray 51 (0,0)⟩:ay)∈M):ca I M (⟨b,0,none⟩:Addr) 5 f.cells:=⟨rfl,_,_,_,.inr ⟨_,a4,rfl,rfl⟩,rfl,rfl⟩
def afO{i:Nat}(hi:i<l.length){x:a7}:Nat.ble (0+i*5+x.cells.length) (l.flatMap a7.cells).length=true:=by rw[mA,Bh,a7.de];omega
def afP(l:List Value)(k:Nat)(v:Value)(h:k<l.length):bu l k [v]=l.set k v:=by rw[bu,xM,cK h];simp
def afQ(body:List α->Nat->α){i:Nat}(h:i<n)(l:List α):lv body i (n-i) l=lv body (i+1) (n-(i+1)) (l.set i (body l i)):=by rw[show n-i=(n-(i+1))+1 by omega,lv]
def MW{pl:List (ByteArray×Int)}:∀ {l m:List a7},e6 iV l m->∀ i,i<n->iV.le (kX pl F ds l i) (kX pl F ds m i):=λh i _=>ab2 h i
def afR(aA:g.ok I)(Ea:∀ d∈g.ds,HB d.t)(hm:Kb g){rows:List Value}(UY:HG I (bM g.ds) F g.ds g.ds.length rows){bQ dy gf e8 bI:Nat}{dC:List a7}(vB:GJ g.ds F dC) :
  Spec Tryz.prog 46 [ptr bI,ptr bQ,ptr gf] I (mK bQ dy gf e8 bI g dC rows) λv I' M'=>v=.bool (decide (lv (kX (bM g.ds) F g.ds) 0 g.n dC≠dC))/\I'=I/\M'=mK bQ dy gf e8 bI g (lv (kX (bM g.ds) F g.ds) 0 g.n dC) rows:=by
 refine bX [] aV Tryz.func46 rfl rfl rfl ?_;intro B ao;have gb:=aA.n;have ki:=aA.bd.cap;have Kd:∀ {M:List ay},(⟨bI,.cells #[.slice g.a g.n g.c] 24 (0,0)⟩:ay)∈M->ca I M ((⟨bI,0,none⟩:Addr).add 0) 1 [.slice g.a g.n g.c]:=λa4=>dn (cs:=[.slice g.a g.n g.c]) (k:=0) (n:=1) a4 (by simp);have afS:∀ {M:List ay},(⟨bI,.cells #[.slice g.a g.n g.c] 24 (0,0)⟩:ay)∈M->ca I M (⟨bI,0,none⟩:Addr) 1 [.slice g.a g.n g.c]:=λa4=>⟨rfl,_,_,_,.inr ⟨_,a4,rfl,rfl⟩,rfl,rfl⟩;have CR:∀ {M:List ay},(⟨bQ,.cells #[.slice (some ⟨dy,0,none⟩) g.n g.n] 37 (0,0)⟩:ay)∈M->ca I M (⟨bQ,0,none⟩:Addr) 1 [.slice (some ⟨dy,0,none⟩) g.n g.n]:=λa4=>⟨rfl,_,_,_,.inr ⟨_,a4,rfl,rfl⟩,rfl,rfl⟩;have afT:∀ {M:List ay},(⟨gf,.cells #[.slice (some ⟨e8,0,none⟩) g.n g.n] 99 (0,0)⟩:ay)∈M->ca I M (⟨gf,0,none⟩:Addr) 1 [.slice (some ⟨e8,0,none⟩) g.n g.n]:=λa4=>⟨rfl,_,_,_,.inr ⟨_,a4,rfl,rfl⟩,rfl,rfl⟩;refine aF.mk _ (Kd (by simp[mK])) ?_;refine dB.inv (ι:=Nat×List a7) (λx=>{ bj:=[(0,.val (ptr bI)),(1,.val (ptr bQ)),(2,.val (ptr gf)),(4,.val (.bool (decide (x.2≠dC)))),(9,.val (.slice g.a g.n g.c)),(10,.val (.int .i64 g.n)),(11,.val (.int .i64 x.1))],c5:=I,dv:=mK bQ dy gf e8 bI g x.2 rows }) (λx=>x.1<=g.n/\GJ g.ds F x.2/\e6 iV dC x.2/\lv (kX (bM g.ds) F g.ds) 0 g.n dC=lv (kX (bM g.ds) F g.ds) x.1 (g.n-x.1) x.2) (λx=>g.n-x.1) ?_ ?_
 ·refine⟨(0,dC),⟨bq _,vB,e6.refl _,rfl⟩,.refl,.cons .refl (.cons .refl (.cons .refl (.cons ?_ (fZ)))),.nil⟩;exact Ab (by simp)
 rintro⟨i,l⟩⟨hi,lp,bo,r6⟩;simp only at hi lp bo r6;have oI:=lp.len;refine a0.mk (λh=>?_) (λh=>?_)
 rotate_left
 ·have c1:i=g.n:=by have:¬ (i:Int)<(g.n:Int):=dt h;omega
  rw[c1,q1,lv]at r6;exact⟨_,_,.refl,by rw[r6],rfl,by rw[r6]⟩
 have aK:i<g.n:=by have:(i:Int)<(g.n:Int):=du h;omega
 have bP:i<g.ds.length:=by omega
 have ek:i<l.length:=by omega
 obtain⟨ad,b7,bs⟩:=aA.bd.row bE.de aK bP;have eA:=dK bP;have ah:=aA.ds _ eA;have al:=hm.right _ eA;have UZ:=Ea _ eA;have tn:=Ka (hm.named _ eA);rw[show g.ds.length=l.length from oI.symm]at tn;obtain⟨Ai,oH⟩:=qb.step MW lp bP;have q6:lv (kX (bM g.ds) F g.ds) 0 g.n dC=lv (kX (bM g.ds) F g.ds) (i+1) (g.n-(i+1)) (l.set i (kX (bM g.ds) F g.ds l i)):=by rw[r6,afQ _ aK]
 obtain⟨yy,U0,U1⟩:=UY.row i bP bP;have U2:i<rows.length:=by rw[UY.len];exact bP
 have u1:kX (bM g.ds) F g.ds l i=(hT (bM g.ds) l (eN (bM g.ds) F g.ds[i].t.ns []) g.ds[i].t.ns []).getD g.ds[i].t.b1.toNat cQ:=by unfold kX;rw[g0 bP]
 generalize kX (bM g.ds) F g.ds l i=f at Ai oH q6 u1;generalize g.ds[i]=d at bs ah al UZ tn u1 U0 U1;have zT:=Cb al;have pf:=ah.t.n;have kP:=J1 (bM g.ds) F d.t.ns [];simp only[jh,dk]at kP;have qH:=Sd (bM g.ds) l (eN (bM g.ds) F d.t.ns []) d.t.ns [];simp only[jh,dk]at qH;have gx:d.t.b1.toNat<(hT (bM g.ds) l (eN (bM g.ds) F d.t.ns []) d.t.ns []).length:=by omega
 have pM:(hT (bM g.ds) l (eN (bM g.ds) F d.t.ns []) d.t.ns [])[d.t.b1.toNat]=f:=by rw[u1];simp[dh,gx]
 have l0:∀ M,kT I M (some ⟨yy,0,none⟩) d.t.n (eN (bM g.ds) F d.t.ns []):=λM=>by have:=afN (I:=I) (M:=M) U1;rwa [kP,pf]at this
 have Aj:∀ {M:List ay},g5 dy l∈M->Spec Tryz.prog 47 [g.val,.slice (some ⟨dy,0,none⟩) g.n g.n,d.t.val,.slice (some ⟨yy,0,none⟩) d.t.n d.t.n] I M λv I' M'=>I'=I/\∃ b,v=.slice (some ⟨b,0,none⟩) d.t.n d.t.n/\M'=g5 b (hT (bM g.ds) l (eN (bM g.ds) F d.t.ns []) d.t.ns [])::M:=fun {M} a4=>by have jl:=afl (I:=I) a4;have:=afp (M0:=M) (lc:=g.n) (xc:=d.t.n) aA ah.t UZ al jl tn (l0 M);rwa [show l.length=g.n by omega]at this
 refine bc.mk ad i b7 rfl aK ?_;refine aF.mk _ (bs _) ?_;have Ke:l.getD i cQ=l[i]:=by simp[dh,ek]
 have more:(!decide (f=l[i]))=true->decide (l.set i f≠dC)=true:=λh=>by
  have bB:f≠l[i]:=by simpa using h
  rw[e0];intro e;have aB:l.set i f=l:=by refine e6.GG (O:=iV) ?_ oH;rw[e];exact bo
  have af:=Dl l cQ i i f ek;rw[aB,cK rfl,Ke]at af;exact bB af.symm
 have same:(!decide (f=l[i]))=false->l.set i f=l:=λh=>by
  have he:f=l[i]:=by simpa using h
  rw[he];exact List.set_getElem_self ek
 have afU:∀ {M:List ay},(⟨e8,.cells rows.toArray 34 (0,0)⟩:ay)∈M->ca I M ((⟨e8,0,none⟩:Addr).add (i*1)) 1 [zg yy d.t.n]:=λa4=>by
  have h:=dn (I:=I) (cs:=rows) (k:=i) (n:=1) a4 (by omega);have afV:rows[i]=zg yy d.t.n:=by have:=U0;rw[g0 U2]at this;exact m6 this
  rw[fg U2,qI,pR,afV]at h;rw[kd];exact h
 refine cW.WX aV rfl rfl rfl (ι:=Nat) (λs=>{ bj:=[(0,.val (ptr bI)),(1,.val (ptr bQ)),(2,.val (ptr gf)),(4,.val (.bool (decide (l≠dC)))),(5,.val (.int .i64 i)),(7,.val (ptr s)),(9,.val (.slice g.a g.n g.c)),(10,.val (.int .i64 g.n)),(11,.val (.int .i64 i))],c5:=I,dv:=⟨s,.cells f.cells.toArray 51 (0,0)⟩::mK bQ dy gf e8 bI g l rows }) (λ_=>True) ?_ ?_
 ·refine aF.mk _ (afS (by simp[mK])) ?_;refine aF.mk _ (CR (by simp[mK])) ?_;refine aF.mk _ (afT (by simp[mK])) ?_;refine bc.mk ⟨e8,0,none⟩ i rfl rfl aK ?_;refine aF.mk _ (afU (by simp[mK])) ?_;refine⟨?_,?_⟩
  ·refine fi.whole _ (Aj (by simp[mK])) (λv I' M' h x ab=>by obtain⟨-,b,-,rfl⟩:=h;exact .tail _ ab) ?_;rintro v dP dr -⟨rfl,b,rfl,rfl⟩;refine bc.mk ⟨b,0,none⟩ d.t.b1.toNat rfl (by omega) (by omega) ?_;refine aF.mk _ (Bi (.head _) gx) ?_;rw[pM];refine cz.mk λs ap afW=>?_;refine cg.aP [] _ _ _ rfl rfl rfl rfl f.cells rfl ?_;exact⟨s,trivial,.sub (.cons_cons _ (.cons _ (.refl _))) .refl,hk,.nil⟩
  ·refine cz.mk λs ap afW=>?_;refine fi.whole _ (Aj (by simp[mK])) (λv I' M' h x ab=>by obtain⟨-,b,-,rfl⟩:=h;exact .tail _ ab) ?_;rintro v dP dr -⟨rfl,b,rfl,rfl⟩;refine bc.mk ⟨b,0,none⟩ d.t.b1.toNat rfl (by omega) (by omega) ?_;refine aF.mk _ (Bi (.head _) gx) ?_;rw[pM];refine cg.aP [_] _ _ _ rfl rfl rfl rfl f.cells rfl ?_;exact⟨s,trivial,.sub (.cons _ (.refl _)) .refl,hk,.nil⟩
 rintro s -;refine cW.draw aV rfl rfl rfl ?_;refine aF.mk f.cells (UX (by simp)) ?_;refine aF.mk _ (CR (by simp[mK])) ?_;refine bc.mk ⟨dy,0,none⟩ i rfl rfl aK ?_;refine aF.mk _ (Bi (by simp[mK]) ek) ?_;refine fh.acE (p:=f) (q:=l[i]) ?_;refine a0.mk (λh=>?_) (λh=>?_)
 ·refine aF.mk _ (CR (by simp[mK])) ?_;refine aF.mk f.cells (UX (by simp)) ?_;refine bc.mk ⟨dy,0,none⟩ i rfl rfl aK ?_;refine cg.f' [⟨s,.cells f.cells.toArray 51 (0,0)⟩,⟨bQ,.cells #[.slice (some ⟨dy,0,none⟩) g.n g.n] 37 (0,0)⟩,⟨gf,.cells #[.slice (some ⟨e8,0,none⟩) g.n g.n] 99 (0,0)⟩] [⟨e8,.cells rows.toArray 34 (0,0)⟩,⟨bI,.cells #[.slice g.a g.n g.c] 24 (0,0)⟩] (l.flatMap a7.cells) _ rfl (afO ek) rfl ((l.set i f).flatMap a7.cells) (by rw[dk];exact UE l i ek f) ?_;refine a5.mk _ (cm (i:=i) (by omega)) ?_;exact⟨(i+1,l.set i f),⟨⟨by simp only;omega,Ai,bo.trans oH,q6⟩,by simp only;omega⟩,.sub (M1:=mK bQ dy gf e8 bI g (l.set i f) rows) (by exact .cons _ (.refl _)) .refl,.cons .refl (.cons .refl (.cons .refl (.cons (Ab (more h).symm) (fZ)))),.nil⟩
 ·have he:l.set i f=l:=same h;rw[he]at q6;refine a5.mk _ (cm (i:=i) (by omega)) ?_;exact⟨(i+1,l),⟨⟨by simp only;omega,lp,bo,q6⟩,by simp only;omega⟩,.sub (M1:=mK bQ dy gf e8 bI g l rows) (by exact .cons _ (.refl _)) .refl,im,.nil⟩
def afX(a b c d e:α):[a,b,c,d,e].Perm [c,a,d,b,e]:=(pi (l₁:=[a,b]) (l₂:=[d,e])).trans (.cons _ (.cons _ (.swap _ _ _)))
def xl:Value:=.slice none 0 0
def afY(n:Nat):rowOf [xl] (n*1)=List.replicate n xl:=by
 have key:∀ n:Nat,(List.replicate n xl).flatMap (λv:Value=>[v])=List.replicate n xl:=by
  intro n
  induction n with
  |zero=>rfl| succ n be=>rw[q0,lD,be];rfl
 exact(UH (λv:Value=>[v]) xl 1 rfl (by decide) n).trans (key n)
def U3(b6:ix I aW)(aA:g.ok I)(Ea:∀ d∈g.ds,HB d.t):Spec Tryz.prog 12 [g.val] I [] λv I' M'=>(∀ b o,I b=some o->I' b=some o) /\
  ((g1 aW g≠0/\v=.tuple #[.slice none 0 0,.int .i64 (g1 aW g)]/\M'=[])\/(g1 aW g=0/\∃ F b l,u0 g.ds F/\GI g.ds F l/\v=.tuple #[.slice (some ⟨b,0,none⟩) g.n g.n,.int .i64 0]/\M'=[g5 b l])):=by
 refine bX [1,6,7] aV Tryz.func12 rfl rfl rfl ?_;intro B ao;have gb:=aA.n;have ki:=aA.bd.cap;refine cz.mk λbI nS ZO=>?_;refine aF.mk [.slice g.a g.n g.c] ⟨rfl,_,_,_,.inr ⟨_,.head _,rfl,rfl⟩,rfl,rfl⟩ ?_;refine bb.mk [] [⟨bI,.cells #[.slice g.a g.n g.c] 24 (0,0)⟩] _ (.refl _) (Kg b6 aA) ?_;rintro v cL M1 -⟨cM,⟨hm,rfl,rfl⟩|⟨hm,og,F,rfl,rfl,cr⟩⟩
 ·refine a0.mk (λh=>?_) (λh=>?_)
  ·exact⟨_,_,.sub (ho _) .refl,cM,.inl ⟨hm,rfl,rfl⟩⟩
  ·exact absurd h (by simp[hm])
 refine a0.mk (λh=>absurd h (by simp)) (λ_=>?_);have a4:=Kc gb hm;have kj:=aA.mono cM;have afZ:=cr.len;refine aF.mk _ (dn (b:=bI) (cs:=[.slice g.a g.n g.c]) (k:=0) (n:=1) (T:=24) (.tail _ (.head _)) (by simp)) ?_;refine oD.mk g.n g.n rfl rfl (cC _) (by show 40*g.n<=_;omega) (by omega) ?_;refine cz.mk λdy oY ZP=>?_;refine cz.mk λbQ FL PO=>?_;refine cg.aP [] _ _ _ rfl rfl rfl rfl [.slice (some ⟨dy,0,none⟩) g.n g.n] rfl ?_;refine aF.mk _ (dn (b:=bI) (cs:=[.slice g.a g.n g.c]) (k:=0) (n:=1) (T:=24) (by simp) (by simp)) ?_;refine oD.mk g.n g.n rfl rfl (cC _) (by show 24*g.n<=_;omega) (by omega) ?_;refine cz.mk λe8 aiW aiX=>?_;refine cz.mk λgf Kf QP=>?_;refine cg.aP [] _ _ _ rfl rfl rfl rfl [.slice (some ⟨e8,0,none⟩) g.n g.n] rfl ?_;refine aF.mk _ (dn (b:=bI) (cs:=[.slice g.a g.n g.c]) (k:=0) (n:=1) (T:=24) (by simp) (by simp)) ?_;have e:rowOf cQ.cells (g.n*5)=(List.replicate g.ds.length cQ).flatMap a7.cells:=by rw[gb];exact UI g.n
 have aB:rowOf [xl] (g.n*1)=List.replicate g.n xl:=afY g.n;refine dB.EJ (ι:=Nat×aS×List Value) (λx=>{ bj:=[(1,.val (ptr bI)),(4,.val (.slice (some ⟨og,0,none⟩) g.n g.n)),(6,.val (ptr bQ)),(7,.val (ptr gf)),(28,.val (.slice g.a g.n g.c)),(29,.val (.int .i64 g.n)),(30,.val (.int .i64 x.1))],c5:=x.2.1,dv:=[⟨gf,.cells #[.slice (some ⟨e8,0,none⟩) g.n g.n] 99 (0,0)⟩,⟨e8,.cells x.2.2.toArray 34 (0,0)⟩,⟨bQ,.cells #[.slice (some ⟨dy,0,none⟩) g.n g.n] 37 (0,0)⟩,g5 dy (List.replicate g.ds.length cQ),ee og F,⟨bI,.cells #[.slice g.a g.n g.c] 24 (0,0)⟩] }) (λx=>x.1<=g.n/\(∀ b o,cL b=some o->x.2.1 b=some o)/\HG x.2.1 (bM g.ds) F g.ds x.1 x.2.2) (λx=>g.n-x.1) (λ_=>?_) ?_
 ·refine⟨(0,cL,List.replicate g.n xl),⟨bq _,λ_ _ h=>h,⟨by simp[gb],λi _ h=>by simp at h⟩⟩,?_,im,.nil⟩;simp only[g5];rw[<-e,<-aB];exact .refl
 rintro⟨i,J,rows⟩⟨hi,dm,a1⟩;simp only at hi dm a1;have Bj:=kj.mono dm;refine a0.mk (λh=>?_) (λh=>?_)
 ·have aK:i<g.n:=by have:(i:Int)<(g.n:Int):=du h;omega
  have bP:i<g.ds.length:=by omega
  obtain⟨ad,b7,bs⟩:=Bj.bd.row bE.de aK bP;have eA:=dK bP;have ah:=Bj.ds _ eA;have al:=a4.right _ eA;have d':=a4.named _ eA;have U4:=a1.len;refine bc.mk ad i b7 rfl aK ?_;refine aF.mk _ (bs _) ?_;have af0:=(b6.mono cM).mono dm;have MX:wC g F g.ds[i].t=some (eN (bM g.ds) F g.ds[i].t.ns []):=by rw[wC,show decide (F.length=g.n)=true by rw[afZ];simp[gb],al,d'];rfl
  have lL:∀ (xm:aS) (b:Nat),(∀ b o,J b=some o->xm b=some o)->xm b=none->HG (ins xm b (ee b (eN (bM g.ds) F g.ds[i].t.ns [])).obj) (bM g.ds) F g.ds (i+1) (rows.set i (zg b g.ds[i].t.n)):=λxm b zh ai=>by
   refine⟨by simpa using U4,λj an BS=>?_⟩;by_cases xn:j=i;·subst xn;exact⟨b,by simp[U4,an],s8 ..⟩
   ·obtain⟨yy,eY,ez⟩:=a1.row j an (by omega);exact⟨yy,by rw[List.getElem?_set_ne (by omega)];exact eY,pY ai _ _ (zh _ _ ez)⟩
  generalize g.ds[i]=d at bs ah al d' MX lL;refine cW.draw aV rfl rfl rfl ?_;refine aF.mk [.slice (some ⟨e8,0,none⟩) g.n g.n] ⟨rfl,_,_,_,.inr ⟨_,.head _,rfl,rfl⟩,rfl,rfl⟩ ?_;refine aF.mk [.slice g.a g.n g.c] ⟨rfl,_,_,_,.inr ⟨⟨bI,.cells #[.slice g.a g.n g.c] 24 (0,0)⟩,by simp,rfl,rfl⟩,rfl,rfl⟩ ?_;have jl:kT J [⟨gf,.cells #[.slice (some ⟨e8,0,none⟩) g.n g.n] 99 (0,0)⟩,⟨e8,.cells rows.toArray 34 (0,0)⟩,⟨bQ,.cells #[.slice (some ⟨dy,0,none⟩) g.n g.n] 37 (0,0)⟩,g5 dy (List.replicate g.ds.length cQ),ee og F,⟨bI,.cells #[.slice g.a g.n g.c] 24 (0,0)⟩] (some ⟨og,0,none⟩) g.n F:=by have:=QM (I:=J) (M:=[⟨gf,.cells #[.slice (some ⟨e8,0,none⟩) g.n g.n] 99 (0,0)⟩,⟨e8,.cells rows.toArray 34 (0,0)⟩,⟨bQ,.cells #[.slice (some ⟨dy,0,none⟩) g.n g.n] 37 (0,0)⟩,g5 dy (List.replicate g.ds.length cQ),ee og F,⟨bI,.cells #[.slice g.a g.n g.c] 24 (0,0)⟩]) (b:=og) (l:=F) (by simp);rwa [show F.length=g.n by omega]at this
  refine fi.whole _ (ZL (lc:=g.n) af0 Bj ah.t jl) (λv I' M' h x ab=>by
   rcases h.2 with⟨-,-,rfl⟩ | ⟨r,b,-,-,rfl⟩;·exact ab
   ·exact .tail _ ab) ?_
  rintro v xm dr -⟨zh,⟨ax,-,-⟩|⟨r,b,ax,rfl,rfl⟩⟩;·rw[MX]at ax;cases ax
  rw[MX]at ax;obtain rfl:=m6 ax;refine bc.mk ⟨e8,0,none⟩ i rfl rfl aK ?_;refine cg.f' [_,_] _ rows _ rfl (by rw[mA];show 0+i*1+1<=rows.length;omega) rfl (rows.set i (zg b d.t.n)) ?_ ?_;·show bu rows (0+i*1) [zg b d.t.n]=_;rw[dk,kd,afP _ _ _ (by omega)]
  refine a5.mk _ (cm (i:=i) (by omega)) ?_;intro ja;have ai:=ja.d (ee b (eN (bM g.ds) F d.t.ns [])) (.head _);exact⟨(i+1,ins xm b (ee b (eN (bM g.ds) F d.t.ns [])).obj,rows.set i (zg b d.t.n)),⟨⟨aK,λb o h=>pY ai _ _ (zh _ _ (dm _ _ h)),lL xm b zh ai⟩,by simp only;omega⟩,.qs rfl (by simp) .refl,im,.nil⟩
 have c1:i=g.n:=by have:¬ (i:Int)<(g.n:Int):=dt h;omega
 subst c1;have qG:HG J (bM g.ds) F g.ds g.ds.length rows:=by rw[gb];exact a1
 refine dB.inv (ι:=List a7) (λl=>{ bj:=[(6,.val (ptr bQ)),(10,.val (.func (.func 46) #[] #[ptr bI,ptr bQ,ptr gf]))],c5:=J,dv:=mK bQ dy gf e8 bI g l rows }) (GJ g.ds F) wW ?_ ?_
 ·refine⟨List.replicate g.ds.length cQ,qb.start (O:=iV) _ _,.sub (.cons_cons _ (.cons_cons _ (.cons_cons _ (.cons_cons _ (.cons _ (.refl _)))))) (.perm (afX ..) .refl),vK,.nil⟩
 intro l ar;refine bb.whole _ (afR Bj Ea a4 qG ar) ?_;rintro v HH mc -⟨rfl,rfl,rfl⟩;have MY:g.ds.length=g.n:=gb;obtain⟨gC,eG,-⟩:=K3 MW g.ds.length 0 (dk _) ar;rw[MY]at gC eG;refine a0.mk (λh=>?_) (λh=>?_)
 ·exact⟨_,⟨by unfold GJ;rw[MY];exact gC,abY eG (du h)⟩,.refl,vK,.nil⟩
 ·have az:lv (kX (bM g.ds) F g.ds) 0 g.n l=l:=by have:=dt h;exact Classical.not_not.1 this
  rw[az];refine aF.mk [.slice (some ⟨dy,0,none⟩) g.n g.n] ⟨rfl,_,_,_,.inr ⟨_,.head _,rfl,rfl⟩,rfl,rfl⟩ ?_;refine⟨HH,[g5 dy l],.sub (.cons _ (.cons _ (.cons_cons _ (ho _)))) .refl,λb o h=>dm _ _ (cM _ _ h),.inr ⟨hm,F,dy,l,cr,?_,rfl,rfl⟩⟩;exact qb.done MW ar (by rw[MY];exact az)
def U5{β:Type}{l:List α}{f g:α->List β}(h:∀ x∈l,f x=g x):l.flatMap f=l.flatMap g:=by
 induction l with
 |nil=>rfl| cons a l be=>rw[lD,lD,h a (.head _),be λx ab=>h x (.tail _ ab)]
def af1{l:List Nat}{x:Nat}(h:x∈l):x<=l.sum:=by
 induction l with
 |nil=>cases h
 |cons a l be=>
  rw[qK];rcases eg.1 h with rfl | h;·omega
  ·have:=be h;omega
def af2(ao:t.n0=0):t.cs (tx t.P t.nn)=(List.replicate (t.nn*t.w) h7).flatMap b2.cells:=by rw[<-RT];unfold ef.cs ls;rw[ao,tj];refine U5 λj an=>U5 λa aC=>?_;rw[dk,GC (l3.1 an)];have aa:a<t.s.size+1:=l3.1 aC;show a<=t.s.size;omega
def af3(I:aS)(aW:List Int)(g:dX)(s:ByteArray)(v:Value)(I':aS)(M':List ay):Prop:=
 (∀ b o,I b=some o->I' b=some o)/\M'=[]/\((g1 aW g≠0/\v=.tuple #[.pointer none,.int .i64 (g1 aW g)])\/(g1 aW g=0/\4096<s.size/\v=.tuple #[.pointer none,.int .i64 40]) \/ (g1 aW g=0/\s.size<=4096/\∃ (t:ef) (T:Nat->Nat->b2),v=.tuple #[ptr t.bt,.int .i64 0]/\re I' g s t T))
structure af4(I:aS)(g:dX)(gW g6:bk)(i:Nat)(fw:bk)(xs:List a9)(J:aS):Prop where
 ii:i<=g.n
 le:∀ b o,I b=some o->J b=some o
 bU:fb J (gW.a.map λg=>⟨g,0,none⟩) gW.n gW.c 1 16 (g.ds.map va)
 rt:fb J (g6.a.map λg=>⟨g,0,none⟩) g6.n g6.c 1 8 ((gU 0 g.ds).map b4)
 ok:fw.ok 9 (xs.flatMap a9.cells)
 pn:xs.map a9.pn=tz g.ds i
 xs:∀ y∈xs,y.ok J/\y.t.size<=4096/\∀ x∈y.aX,0<=x
def af5(b6:ix I aW)(aA:g.ok I)(ax:g.n<=4096)(s:ByteArray):Spec Tryz.prog 10 [g.val,.string s] I [] (af3 I aW g s):=by
 refine NO [25] aV Tryz.func10 rfl rfl rfl ?_;intro B ao;have gb:=aA.n;refine bb.whole _ (PY b6 aA) ?_;rintro v dj M' -⟨rfl,pZ,rfl⟩;have Ku:=aA.mono pZ;refine a0.mk (λe=>?_) (λe=>?_)
 ·have bn:g1 aW g≠0:=by simpa using e
  intro _;exact⟨_,_,.refl,pZ,rfl,.inl ⟨bn,rfl⟩⟩
 have rn:g1 aW g=0:=by simpa using e
 refine a0.mk (λaB=>?_) (λaB=>?_)
 ·have dW:4096<s.size:=by have:=du aB;omega
  intro _;exact⟨_,_,.refl,pZ,rfl,.inr (.inl ⟨rn,dW,rfl⟩)⟩
 have ap:s.size<=4096:=by have:=dt aB;omega
 have hm:po g:=QX rn λd ah=>(aA.ds d ah).t.n;have CU:=hm.QW;have yE:=Al 0 g.ds;have fI:∀ d∈g.ds,∀ n∈d.t.ns,0<=n.k:=λd ah n ax=>((aA.ds d ah).t.ns n ax).k.1;obtain⟨u9,cJ⟩:=R1 hm fI ap;refine bb.whole _ (abm (M0:=[]) Ku ax) ?_;rintro v cL M1 -⟨rfl,gW,rfl,U6,af6,rfl⟩;refine cz.mk λbt af7 aiY=>?_;have aiZ:qX.aY 3=[]:=rfl;refine dB.EJ (ι:=Nat×bk×aS) (λx=>{ bj:=[(1,.val (.string s)),(2,.ref 2 0),(7,.val (ptr bt)),(8,.val (.int .i64 (cP (g.ds.take x.1):Nat))),(27,.val (.slice g.a g.n g.c)),(28,.val (.int .i64 g.n)),(29,.val (.int .i64 x.1))],cl:=[(2,[.slice g.a g.n g.c])],c5:=x.2.2,dv:=mD bt s gW.val x.2.1.val (.slice none 0 0) (.slice none 0 0)::(x.2.1.aY 3++[]) }) (λx=>x.1<=g.n/\(∀ b o,I b=some o->x.2.2 b=some o)/\fb x.2.2 (gW.a.map λg=>⟨g,0,none⟩) gW.n gW.c 1 16 (g.ds.map va)/\x.2.1.n=x.1/\x.2.1.ok 1 (((gU 0 g.ds).take x.1).map b4)) (λx=>g.n-x.1) ?_ ?_
 ·intro ja;have af8:=KY (J:=cL) (os:=gW) (e:=9) (M:=[]) λx ab=>ja.d x (.tail _ ab);exact⟨(0,qX,vb cL gW 9),⟨bq _,λb o h=>af8 _ _ (pZ _ _ h),KZ af6 (by omega),rfl,uS 1⟩,.perm (M1:=gW.aY 9++[mD bt s gW.val (.slice none 0 0) (.slice none 0 0) (.slice none 0 0)]) (by rw[dF];exact(ha (l₁:=[_]))) (KX λg _=>by simp),im,.cons rfl (.nil)⟩
 rintro⟨i,g6,J⟩⟨hi,HI,Ec,nL,HJ⟩;simp only at hi HI Ec nL HJ;have Bj:=aA.mono HI;refine a0.mk (λbD=>?_) (λbD=>?_)
 ·have aK:i<g.n:=by simpa using bD
  have bP:i<g.ds.length:=by omega
  obtain⟨ad,b7,bs⟩:=Bj.bd.row bE.de aK bP;have eA:g.ds[i]∈g.ds:=dK bP;have pf:=(aA.ds _ eA).t.n;have zT:=(hm.r _ eA).b1;have nT:=KP bP;have bo:=KQ g.ds (i+1);have U7:=KR 0 g.ds i bP (by omega);refine bc.mk ad i b7 rfl aK ?_;refine aF.mk _ (bs _) ?_;refine cW.draw aV rfl rfl rfl ?_;refine aF.mk _ (yG (j:=2) (.head _) (by decide)) ?_;refine a5.mk (((gU 0 g.ds)[i]:Nat):Int) (gB (show((cP (g.ds.take i):Nat):Int)+(g.ds[i]).t.b1=_ by omega) (by omega)) ?_;refine cz.mk λb9 gz iD=>?_;intro G kF;refine uv.wP aV rfl (e:=3) rfl rfl rfl g6 HJ (Aw (kF _ (by simp[Op.operands,Call.operands])) rfl) (Aw (kF _ (by simp[Op.operands,Call.operands])) rfl) (cs:=[b4 (gU 0 g.ds)[i]]) rfl rfl [mD bt s gW.val g6.val (.slice none 0 0) (.slice none 0 0)] [] rfl (by omega) (by show(g6.n+1)*8<=_;omega) ?_;intro cY U aa aR;refine cg.mk [⟨b9,_⟩] (cY.aY 3++[]) _ _ rfl rfl (bJ rfl) rfl ?_;refine a5.mk ((cP (g.ds.take (i+1)):Nat):Int) (gB (show((cP (g.ds.take i):Nat):Int)+((g.ds[i]).t.n:Int)=_ by omega) (by omega)) ?_;refine a5.mk _ (cm (i:=i) (by omega)) ?_;intro _;refine⟨(i+1,cY,J),⟨⟨by omega,HI,Ec,by simp only;omega,?_⟩,by simp only;omega⟩,.sub (.cons _ (.refl _)) .refl,im,.cons rfl (.nil)⟩;simp only;rw[hU (by omega),gX];exact aR
 have c1:g.n<=i:=by simpa using bD
 obtain rfl:i=g.n:=by omega
 rw[hn (by omega)]at HJ;refine dB.EJ (ι:=Nat×bk×List a9×aS) (λx=>{ bj:=[(1,.val (.string s)),(2,.ref 2 0),(7,.val (ptr bt)),(55,.val (.slice g.a g.n g.c)),(56,.val (.int .i64 g.n)),(57,.val (.int .i64 x.1))],cl:=[(2,[.slice g.a g.n g.c])],c5:=x.2.2.2,dv:=mD bt s gW.val g6.val x.2.1.val (.slice none 0 0)::(x.2.1.aY 83++[]) }) (λx=>af4 I g gW g6 x.1 x.2.1 x.2.2.1 x.2.2.2) (λx=>g.n-x.1) ?_ ?_
 ·intro ja;have U8:=KY (J:=J) (os:=g6) (e:=3) (M:=[]) λx ab=>ja.d x (.tail _ ab);exact⟨(0,qX,[],vb J g6 3),⟨bq _,λb o h=>U8 _ _ (HI _ _ h),Ec.mono U8,KZ HJ (by omega),uS 9,rfl,λy aN=>(by cases aN)⟩,.perm (M1:=g6.aY 3++[mD bt s gW.val g6.val (.slice none 0 0) (.slice none 0 0)]) (by rw[dF];exact(ha (l₁:=[_]))) (KX λg _=>by simp),nF,.cons rfl (.nil)⟩
 rintro⟨i,fw,xs,K⟩fD;have hi:=fD.ii;have HK:=fD.le;simp only at hi HK;have MZ:=aA.mono HK;have kP:xs.length=cP (g.ds.take i):=by have:=congrArg List.length fD.pn;rw[abL,eX]at this;exact this
 have HL:fw.n=xs.length:=by have U:fw.ok 9 (xs.flatMap a9.cells):=fD.ok;have:=U.len;rw[hb _ 9 a9.de]at this;omega
 have uQ:gW.n=g.ds.length:=by omega
 have nm:g6.n=g.ds.length:=by omega
 refine a0.mk (λdH=>?_) (λdH=>?_)
 ·have aK:i<g.n:=by simpa using dH
  have bP:i<g.ds.length:=by omega
  obtain⟨ad,b7,bs⟩:=MZ.bd.row bE.de aK bP;have eA:g.ds[i]∈g.ds:=dK bP;have ke:=(MZ.ds _ eA).t;have pf:=ke.n;have Bk:=hm.r _ eA;have nT:=KP bP;have bo:=KQ g.ds (i+1);have af9:=abJ bP;have MS:=hm.find _ eA;generalize g.ds[i]=d at *;have x5:RV K g.ds (gW.a.map λg=>⟨g,0,none⟩) (g6.a.map λg=>⟨g,0,none⟩) gW.c g6.c xs.length d.t:=by
   refine⟨by rw[<-uQ];exact fD.bU,by rw[<-nm];exact fD.rt,λn ax=>?_,λx ab=>?_,by omega,by omega⟩;·obtain⟨j,an,xn⟩:=x6 ax;have m0:=Bk.aX j an;have az:=Bk.fits j an;rw[xn]at m0 az;have av:=abk az (ke.ns n ax).k.1;have fr:n.aX.length<=j:=Kh j _ (Bk.diff.sublist (Kj ax)) m0;exact⟨λk ae=>by have:=m0 k ae;omega,by omega,by omega⟩
   ·have:=Gj 0 g.ds (λd ah=>(hm.r d ah).b1) x ab;omega
  have b0:=abt ke x5 fD.ok bt s (.slice none 0 0);rw[<-uQ]at b0;have gJ:Value.slice (g6.a.map λg=>⟨g,0,none⟩) gW.n g6.c=g6.val:=by unfold bk.val;rw[nm,uQ]
  rw[gJ]at b0;refine bc.mk ad i b7 rfl aK ?_;refine aF.mk _ (bs _) ?_;refine bb.whole _ b0 ?_;rintro v I' M' -⟨rfl,j,cY,kb,iM,rfl,ag⟩;rcases ag with⟨rfl,rfl⟩ | ⟨rfl,n,ax,aga,ai0⟩
  rotate_left
  ·exact absurd (MS n ax aga) (by omega)
  refine a0.mk (λe=>by cases e) (λ_=>?_);refine a5.mk _ (cm (i:=i) (by omega)) ?_;intro ja;have agb:(mD bt s gW.val g6.val cY.val (.slice none 0 0)::(cY.aY 83++kb.map iG)).Perm (kb.map iG++(mD bt s gW.val g6.val cY.val (.slice none 0 0)::(cY.aY 83++[]))):=by rw[dF,<-sY];exact ha
  have Gz:=iM.len pf;obtain⟨qz,U7⟩:=R0 (I:=I') kb (λp aG=>ja.d (iG p) (.tail _ (zp _ (ej.2 ⟨p,aG,rfl⟩)))) (by
   have U:=ja.ch;have aa:((kb.map iG).map (·.num)).Sublist ((mD bt s gW.val g6.val cY.val (.slice none 0 0)::(cY.aY 83++kb.map iG)).map (·.num)):=((kH _ _).cons _).map _;have af:=U.sublist aa;rw[lM]at af;exact af)
  have HF:∀ p∈kb,p.2.length<=4096/\∀ x∈p.2,x<=4096:=λp aG=>by
   have U:p.2∈kb.map (·.2):=ej.2 ⟨p,aG,rfl⟩;rw[iM.kb]at U;obtain⟨n,ax,e⟩:=ej.1 U;have E4:=Fx ax;obtain⟨eY,ez,ga⟩:=x5.ns n E4;rw[<-e,ko];cases decide (n.k=3)with
   |true=>
    rw[bh];refine⟨by show 1<=4096;omega,λx ab=>?_⟩;rw[iY.1 ab,dh];cases aO:(gU 0 g.ds)[(c9 n.t g.ds 0).toNat]? with
    |none=>exact bq _| some z=>exact x5.abq z (xq aO)
   |false=>rw[ba];refine⟨by rw[eX];omega,λx ab=>?_⟩;obtain⟨k,ae,rfl⟩:=ej.1 ab;obtain⟨j,an,xn⟩:=x6 E4;have m0:=Bk.aX j an;rw[xn]at m0;have:=m0 k ae;omega
  have agc:=R2 (J:=AA I' kb) (kb:=kb) (ns:=d.t.ns.take d.t.n) (λp aG=>⟨U7 p aG,by have:=(HF p aG).1;omega,λx ab=>by have:=(HF p aG).2 x ab;omega⟩) (λn ax=>(ke.ns n (Fx ax)).mono qz);refine⟨(i+1,cY,xs++nr kb (d.t.ns.take d.t.n),AA I' kb),⟨⟨aK,λb o h=>qz _ _ (HK _ _ h),fD.bU.mono qz,fD.rt.mono qz,iM.ok,?_,λy aN=>?_⟩,by simp only;omega⟩,.perm agb (RZ kb λp _=>by simp),nF,.cons rfl (.nil)⟩;·simp only;have agd:xs.map a9.pn=tz g.ds i:=fD.pn;have wh:d.t.ns.take d.t.n=d.t.ns:=hn (by omega);rw[gX,R3 Gz,R4 iM.kb,af9,agd,kP,wh]
  ·rcases eb.1 aN with aN | aN
   ·obtain⟨rj,A5,Eb⟩:=fD.xs y aN;exact⟨rj.mono qz,A5,Eb⟩
   ·obtain⟨rj,⟨p,A5,Eb⟩,n,age,agf⟩:=agc y aN;refine⟨rj,by rw[agf];exact(x5.ns n (Fx age)).2.2,λx ab=>?_⟩;rw[Eb]at ab;obtain⟨q,_,rfl⟩:=ej.1 ab;omega
 have P0:g.n<=i:=by simpa using dH
 obtain rfl:i=g.n:=by omega
 have ai1:xs.length=cP g.ds:=by rw[kP,hn (by omega)]
 have U9:xs.map a9.pn=(n9 g.ds).map tw:=by have U:xs.map a9.pn=tz g.ds g.n:=fD.pn;rw[U,<-gb,abK]
 have Di:fw.n=cP g.ds:=by omega
 have jX:0<cP g.ds:=by
  obtain⟨d,ah⟩:=List.exists_mem_of_length_pos (show 0<g.ds.length by have:=hm.n;omega);have al:=(hm.r d ah).b1;have U:d.t.ns.length<=cP g.ds:=by unfold cP;exact af1 (ej.2 ⟨d,ah,rfl⟩)
  omega
 have agh:fw.ok 9 (xs.flatMap a9.cells):=fD.ok;have Ec:fb K (gW.a.map λg=>⟨g,0,none⟩) gW.n gW.c 1 16 (g.ds.map va):=fD.bU;have agi:fb K (g6.a.map λg=>⟨g,0,none⟩) g6.n g6.c 1 8 ((gU 0 g.ds).map b4):=fD.rt;have l0:∀ y∈xs,y.ok K/\y.t.size<=4096/\∀ x∈y.aX,0<=x:=fD.xs;clear fD;refine aF.mk _ (yG (j:=3) (.head _) (by decide)) ?_;refine a5.mk ((s.size+1:Nat):Int) (gB (by simp) (by omega)) ?_;refine bb.whole _ (abi fw.n (s.size+1) (by omega) (by omega) (by omega)) ?_;rintro v I' M' -⟨rfl,iF,eP,rfl,rfl⟩;refine cg.mk [_,_] (fw.aY 83++[]) _ _ rfl rfl (bJ rfl) rfl ?_;refine .EB λja=>?_;have HM:=ja.d;have RU:I' iF=none:=HM _ (.head _);have Dc:I' eP=none:=HM _ (.tail _ (.head _));have agj:I' bt=none:=HM _ (.tail _ (.tail _ (.head _)));have Ax:∀ x∈fw.aY 83++([]:List ay),I' x.num=none:=λx ab=>HM x (.tail _ (.tail _ (.tail _ ab)));have Bl:(iF::eP::bt::(fw.aY 83++([]:List ay)).map (λx:ay=>x.num)).Nodup:=ja.ch;obtain⟨hs,Bl⟩:=lA.1 Bl;obtain⟨kO,Bl⟩:=lA.1 Bl;obtain⟨z9,Bl⟩:=lA.1 Bl;obtain⟨tW,M2⟩:∃ tW:Obj,tW=.cells ([.string s,gW.val,g6.val,fw.val,.slice (some ⟨iF,0,none⟩) fw.n fw.n]:List Value).toArray 91 (0,0):=⟨_,rfl⟩;obtain⟨qk,U'⟩:∃ qk:Obj,qk=.cells (Db eP (s.size+1) fw.n).toArray 105 (0,0):=⟨_,rfl⟩;have agk:∀ b o,I' b=some o->ins I' iF qk b=some o:=pY RU;have nS:ins I' iF qk bt=none:=by unfold ins;rw[fX λe=>hs (by rw[<-e];exact .tail _ (.head _))];exact agj
 have Va:∀ b o,ins I' iF qk b=some o->ins (ins I' iF qk) bt tW b=some o:=pY nS;have M3:=KY (J:=ins (ins I' iF qk) bt tW) (os:=fw) (e:=83) (M:=[]) λx ab=>by have zQ:x.num∈(fw.aY 83++([]:List ay)).map (λx:ay=>x.num):=ej.2 ⟨x,ab,rfl⟩;unfold ins;rw[fX λe=>z9 (by rw[<-e];exact zQ),fX λe=>hs (by rw[<-e];exact .tail _ (.tail _ zQ))];exact Ax x ab
 have bo:∀ b o,I' b=some o->vb (ins (ins I' iF qk) bt tW) fw 83 b=some o:=λb o h=>M3 _ _ (Va _ _ (agk _ _ h));have dw:vb (ins (ins I' iF qk) bt tW) fw 83 bt=some tW:=M3 _ _ (s8 ..);have agl:vb (ins (ins I' iF qk) bt tW) fw 83 iF=some qk:=M3 _ _ (Va _ _ (s8 ..));have agm:=KZ (J:=ins (ins I' iF qk) bt tW) (e:=83) (b:=96) agh (by omega);have q3:=abD (MZ.mono bo) (bt:=bt) (s:=s) (nv:=gW.val) (rv:=g6.val) (rwv:=.slice (some ⟨iF,0,none⟩) fw.n fw.n) (na:=fw.a.map λg=>⟨g,0,none⟩) (nn:=fw.n) (nc:=fw.c) (by rw[dw,M2];rfl) Di (by omega);refine bb.Ia (vb (ins (ins I' iF qk) bt tW) fw 83) [] [⟨eP,.cells ((List.replicate (fw.n*(s.size+1)) h7).flatMap b2.cells).toArray 107 (0,0)⟩] _ ?_ q3 ?_
 ·subst U';subst M2;refine .qs rfl (by simp) (.perm (.swap _ _ _) (.qs rfl (by simp) (.perm (M1:=fw.aY 83++[⟨eP,.cells ((List.replicate (fw.n*(s.size+1)) h7).flatMap b2.cells).toArray 107 (0,0)⟩]) ?_ (KX λg _=>by simp))));rw[dF];exact ha (l₁:=[_])
 rintro v hL mc jJ -⟨-,gN,L,cN,rfl,gC,eG,gT,lQ,qY,rfl⟩;have D7:∀ b o,I' b=some o->hL b=some o:=λb o h=>jJ _ _ (bo _ _ h);obtain⟨t0,sB⟩:∃ t0:ef,t0=⟨bt,s,gW.val,g6.val,xs,fw.a.map λg=>⟨g,0,none⟩,fw.n,fw.c,some ⟨iF,0,none⟩,fw.n,(List.range fw.n).map λk=>⟨eP,k*((s.size+1)*4),none⟩,0,eP⟩:=⟨_,rfl⟩;have lp:t0.P=eu g s:=by rw[sB];show(⟨xs.map a9.pn,s,0⟩:da)=_;rw[U9];rfl
 have jd:=af2 (t:=t0) (by rw[sB]);have JJ:t0.aY (tx t0.P t0.nn)=⟨eP,.cells ((List.replicate (fw.n*(s.size+1)) h7).flatMap b2.cells).toArray 107 (0,0)⟩:=by unfold ef.aY;rw[jd,sB];rfl
 have hM:∀ y∈xs,∀ x∈y.aX,x.toNat<fw.n:=λy aN x ab=>by
  have U:y.pn∈(n9 g.ds).map tw:=by rw[<-U9];exact ej.2 ⟨y,aN,rfl⟩
  obtain⟨a,aC,q7⟩:=ej.1 U;have aa:=(Kk hm fI (s:=s) (aH:=0) (bq _) ap).ns a aC;have af:x.toNat∈a.bT:=by have gJ:a.bT=y.aX.map Int.toNat:=congrArg n5.bT q7;rw[gJ];exact ej.2 ⟨x,ab,rfl⟩
  have aR:=aa.bT _ af;have bC:(u3 g s 0).ns.length=cP g.ds:=GB g.ds;omega
 have Gy:t0.ok hL (tx t0.P t0.nn):=by
  rw[sB];refine⟨?_,agm.mono jJ,λy aN=>(l0 y aN).1.mono D7,λy aN=>(l0 y aN).2.1,λy aN x ab=>⟨(l0 y aN).2.2 x ab,hM y aN x ab⟩,?_,λa aC=>?_,λk ae ao=>absurd ao (Nat.not_lt_zero _),λk ae _=>?_,ap,by show fw.n<=4096;omega⟩;·rw[jJ _ _ dw,M2];rfl
  ·refine⟨by simp,⟨cC _,by show fw.n*24<=_;omega⟩,.inr ⟨⟨iF,0,none⟩,rfl,rfl,_,_,_,(jJ _ _ agl).trans (congrArg some U'),?_⟩⟩;show((Db eP (s.size+1) fw.n).drop 0).take (fw.n*1)=_;rw[zJ,hn (by simp[Db]),Db,lM];rfl
  ·obtain⟨k,_,rfl⟩:=ej.1 aC;rfl
  ·simp only[lE,ph,tj];rfl
 have ai2:t0.n0=0:=by rw[sB]
 have Vb:t0.nn=fw.n:=by rw[sB]
 have Vc:t0.bt=bt:=by rw[sB]
 have M4:t0.eP=eP:=by rw[sB]
 have dL:t0.s=s:=by rw[sB]
 have agn:t0.rv=g6.val:=by rw[sB]
 have ago:t0.nv=gW.val:=by rw[sB]
 have n4:RM hL t0 (tx t0.P t0.nn) L:=by
  refine⟨Gy,abI _ _,λk ae=>?_,λk=>by rw[lp];exact u9 k,by omega,λk ae=>⟨by omega,?_⟩,λk _ ae=>?_,λk ae=>by omega⟩;·rw[lp,Vb,Di];exact cJ k (by omega)
  ·have:=(lQ k).1 ae;omega
  ·exact(lQ k).2 (by omega)
 have sK:=aa6 n4 (gN:=gN) (nN:=fw.n) (cN:=cN) gC eG (by omega) (by omega) (low:=0) (bq _);rw[Vc]at sK;refine bb.mk [t0.aY (tx t0.P t0.nn),cZ gN cN] [] _ (by rw[JJ];exact .swap _ _ _) sK ?_;rintro v mf nQ -⟨rfl,T,f1,f2,f3,rfl⟩;intro agp;have M5:mf eP=none:=by have:=agp.d (t0.aY T) (.head _);rw[<-M4];exact this
 have oe:t0.ok mf T:=Gy.ra λk ae b=>by omega
 refine⟨ins mf eP (.cells (t0.cs T).toArray 107 (0,0)),[],.qs (by rw[<-M4];rfl) (by simp) .refl,λb o h=>pY M5 _ _ (D7 _ _ (HK _ _ h)),rfl,.inr (.inr ⟨rn,ap,{ t0 with n0:=t0.nn },T,by show _=Value.tuple #[ptr t0.bt,.int .i64 0];rw[Vc],?_⟩)⟩;have Vd:∀ b o,I' b=some o->ins mf eP (.cells (t0.cs T).toArray 107 (0,0)) b=some o:=λb o h=>pY M5 _ _ (D7 _ _ h);refine⟨oe.mE (pY M5) (by rw[M4];exact s8 ..),f1,lp,dL,λk b=>by rw[<-lp];exact f2 k b (bq _),rfl,Vb.trans Di,⟨g6.a.map λg=>⟨g,0,none⟩,g6.c,?_,?_⟩,⟨gW.a.map λg=>⟨g,0,none⟩,gW.c,?_,?_⟩⟩
 ·show t0.rv=_;rw[agn,bk.val,nL]
 ·rw[<-nL];exact agi.mono Vd
 ·show t0.nv=_;rw[ago,bk.val,U6]
 ·rw[<-U6];exact Ec.mono Vd
def hE(x:Nat×Nat):List Value:=[.int .i64 x.1,.int .i64 x.2]
def tX(x:Nat×Nat):(hE x).length=2:=rfl
structure agq(A dC:List (Nat×Nat))(lu:bk)(x:Nat×bk×List (Nat×Nat)):Prop where
 i:2*x.1<=dC.length+1
 ok:x.2.1.ok 2 ((A++x.2.2).flatMap hE)
 len:x.2.2.length=dC.length
 aH:∀ k,k<dC.length->x.2.2[k]?=if k<x.1\/dC.length<=k+x.1 then dC[dC.length-1-k]? else dC[k]?
 a:x.2.1.a=lu.a
 v:x.2.1.val=lu.val
structure rp(I:aS)(t:ef)(T:Nat->Nat->b2):Prop where
 ok:t.ok I T
 inv:hR t.P t.nn T
 all:∀ k b,(T k b).ce=b8 t.P k b
 n0:t.n0=t.nn
 ch:∀ k,k<t.nn->tt t.P t.nn k
 na:∀ k,tu t.P k
 iA:z' t.P
def rp.kn{T:Nat->Nat->b2}(h:rp I t T){k a:Nat}(aC:a<=t.s.size):dU t.P k a=j0 (T k a).ce:=by unfold dU;rw[qa (show a<=t.P.s.size from aC),h.all]
def rp.au{T:Nat->Nat->b2}(h:rp I t T){k a:Nat}(aC:a<=t.s.size):((T k a).au=2/\(dU t.P k a).au=3/\(dU t.P k a).aP=(T k a).aP/\(dU t.P k a).n=min (T k a).n 65537)\/((T k a).au≠2/\(dU t.P k a).au≠3):=by
 rw[h.kn aC];rcases pt (h.inv.au k a)with⟨e,bn⟩ | ⟨e,bn⟩ | ⟨e,bn⟩
 ·right
  rw[e,bn];exact⟨by decide,by decide⟩
 ·right
  rw[e,bn];exact⟨by decide,by decide⟩
 ·left
  rw[bn];exact⟨e,rfl,rfl,rfl⟩
def Ed(b bt:Nat):ay:=⟨b,.cells [ptr bt].toArray 30 (0,0)⟩
def M6(b aP:Nat):ay:=⟨b,.cells [.int .i64 aP].toArray 3 (0,0)⟩
def HN(b:Nat)(v:Value):ay:=⟨b,.cells [v].toArray 255 (0,0)⟩
def tY(X:ay)(bt dx cO fm aP:Nat)(os:bk):List ay:=X::Ed dx bt::M6 cO aP::HN fm os.val::os.aY 254
def HO{T:Nat->Nat->b2}(h:rp I t T)(X:ay){dx cO fm k:Nat}(ep:os.ok 2 (L.flatMap hE))(ae:k<t.nn)(aa:aP<=t.s.size)(c7:(T k aP).au=2->L.length<=1048576) :
  Spec Tryz.prog 216 [.int .i64 k,ptr dx,ptr cO,ptr fm] I (tY X t.bt dx cO fm aP os) λv I' M'=>I'=I /\
   (((dU t.P k aP).au≠3/\v=.bool false/\M'=tY X t.bt dx cO fm aP os) \/
    ((dU t.P k aP).au=3/\v=.bool true/\∃ cY:bk,cY.ok 2 ((L++bif Nat.beq (dU t.P k aP).n 0 then []else [(k,aP)]).flatMap hE)/\M'=tY X t.bt dx cO fm (dU t.P k aP).aP cY)):=by
 refine bX [] aV Tryz.func216 rfl rfl rfl ?_;intro B ao;have bf:=h.ok;have cI:=bf.sz;have dw:=h.au (k:=k) aa;obtain⟨gC,eG,gT⟩:=h.inv.rg k aP ae aa;have eG:(T k aP).aP<=t.s.size:=eG;have Gg:os.n=L.length:=by have:=ep.len;rw[hb _ 2 tX]at this;omega
 obtain⟨ei,iC,r,al,g9,-,j2⟩:=bf.row ae;have d':t.n0<t.nn->∀ M:List ay,t.aY T∈M:=λe=>absurd e (by have:=h.n0;omega);refine cW.draw aV rfl rfl rfl ?_;refine aF.mk _ (dn (k:=0) (n:=1) (cs:=[ptr t.bt]) (T:=30) (b:=dx) (.tail _ (.head _)) (by simp)) ?_;refine aF.mk _ (bf.gh (j:=4) (by decide)) ?_;refine bc.mk ei k iC rfl ae ?_;refine aF.mk _ (g9 _) ?_;refine aF.mk _ (dn (k:=0) (n:=1) (cs:=[.int .i64 aP]) (T:=3) (b:=cO) (.tail _ (.tail _ (.head _))) (by simp)) ?_;refine bc.mk r aP rfl rfl (by show aP<t.s.size+1;omega) ?_;refine aF.mk _ (j2 _ (λe=>d' e _) aP aa) ?_;generalize T k aP=c at *;refine cz.mk λbQ FL abE=>?_;refine cg.mk [] _ _ _ rfl rfl (bJ rfl) rfl ?_;have jM:∀ {M:List ay} j,j+1<=4->(⟨bQ,.cells c.cells.toArray 107 (0,0)⟩:ay)∈M->ca I M ((⟨bQ,0,none⟩:Addr).add j) 1 ((c.cells.drop j).take 1):=λj an a4=>dn a4 an;refine aF.mk _ (jM 2 (by decide) (.head _)) ?_;refine a0.mk (λe=>?_) (λe=>?_)
 ·have bn:c.au≠2:=λaB=>by rw[aB]at e;cases e
  rcases dw with dw | dw;·exact absurd dw.1 bn
  exact⟨_,_,.sub (.cons _ (.refl _)) .refl,rfl,.inl ⟨dw.2,rfl,rfl⟩⟩
 have mN:c.au=2:=by have aB:(!decide ((c.au:Int)=2))=false:=e;simp only[Fy,e0]at aB;omega
 rcases dw with⟨-,aT,aU,bG⟩ | dw
 rotate_left
 ·exact absurd mN dw.1
 refine aF.mk _ (jM 0 (by decide) (.head _)) ?_;refine a0.mk (λe=>?_) (λe=>?_)
 ·have lH:c.n≠0:=by have:(0:Int)<(c.n:Int):=du e;omega
  have x8:Nat.beq (dU t.P k aP).n 0=false:=by rw[wb];exact λe=>by have:=cf e;omega
  have Mk:=c7 mN;refine aF.mk _ (dn (k:=0) (n:=1) (cs:=[os.val]) (T:=255) (b:=fm) (.tail _ (.tail _ (.tail _ (.tail _ (.head _))))) (by simp)) ?_;refine aF.mk _ (dn (k:=0) (n:=1) (cs:=[.int .i64 aP]) (T:=3) (b:=cO) (.tail _ (.tail _ (.tail _ (.head _)))) (by simp)) ?_;refine cz.mk λb9 gz iD=>?_;refine bl.RS aV rfl (by simp) (e:=254) rfl rfl rfl os ep rfl (cs:=hE (k,aP)) rfl rfl rfl [⟨bQ,.cells c.cells.toArray 107 (0,0)⟩,X,Ed dx t.bt,M6 cO aP,HN fm os.val] rfl (by omega) (by show(os.n+1)*16<=_;omega) ?_;rintro tZ wi-vU;refine cg.mk [⟨bQ,.cells c.cells.toArray 107 (0,0)⟩,X,Ed dx t.bt,M6 cO aP] (tZ.aY 254) [os.val].toArray 255 rfl rfl (bJ rfl) rfl ?_;refine aF.mk _ (jM 1 (by decide) (.head _)) ?_;refine a5.mk (c.aP:Int) (gB rfl (by omega)) ?_;refine cg.mk [⟨bQ,.cells c.cells.toArray 107 (0,0)⟩,X,Ed dx t.bt] (HN fm tZ.val::tZ.aY 254) [.int .i64 aP].toArray 3 rfl rfl (bJ rfl) rfl ?_;refine⟨_,tY X t.bt dx cO fm c.aP tZ,.sub (.cons _ (.refl _)) .refl,rfl,.inr ⟨aT,rfl,tZ,?_,by rw[aU]⟩⟩;rw[x8,ba,mm];simpa using vU
 ·have lH:c.n=0:=by have:¬ (0:Int)<(c.n:Int):=dt e;omega
  refine aF.mk _ (jM 1 (by decide) (.head _)) ?_;refine a5.mk (c.aP:Int) (gB rfl (by omega)) ?_;refine cg.mk [⟨bQ,.cells c.cells.toArray 107 (0,0)⟩,X,Ed dx t.bt] (HN fm os.val::os.aY 254) [.int .i64 aP].toArray 3 rfl rfl (bJ rfl) rfl ?_;refine⟨_,tY X t.bt dx cO fm c.aP os,.sub (.cons _ (.refl _)) .refl,rfl,.inr ⟨aT,rfl,os,?_,by rw[aU]⟩⟩;rw[bG,lH,show Nat.beq (min 0 65537) 0=true from rfl,bh,dF];exact ep
def M7(dx cO fm:Nat):Value:=.func (.func 216) #[] #[ptr dx,ptr cO,ptr fm]
structure zi(z:Nat)(L parts:List (Nat×Nat))(a2:List (Nat×Nat))(aP:Nat)(os:bk):Prop where
 hi:aP<=z
 ok:∃ ql,os.ok 2 ((L++ql).flatMap hE)/\ql++a2=parts
def zi.next{z:Nat}{p a2 ql:List (Nat×Nat)}{Ve:Nat}{iU:bk}(aL:Ve<=z)(bf:iU.ok 2 (((L++ql)++p).flatMap hE))(fz:ql++(p++a2)=parts):zi z L parts a2 Ve iU:=
 ⟨aL,ql++p,by rw[<-gl];exact bf,by rw[gl];exact fz⟩
def M8:(y'::Ba::Bb::Bc::D).Perm (Ba::Bc::y'::Bb::D):=by have U:([y',Ba,Bb,Bc]:List ay).Perm [Ba,Bc,y',Bb]:=(by decide:[0,1,2,3].Perm [1,3,0,2]).map λi=>[y',Ba,Bb,Bc].getD i y';exact U.append_right D
def HP:List.Sublist D (Ba::Bc::y'::Bb::D):=.cons _ (.cons _ (.cons _ (.cons _ (.refl _))))
def Vf{T:Nat->Nat->b2}(h:rp I t T)(ep:os.ok 2 (L.flatMap hE)){k a:Nat}(ae:k<t.nn)(aa:a<=t.s.size)(aG:kl t.P (dU t.P) k a parts)(ai:L.length+parts.length<=1048576) :
  Spec Tryz.prog 165 [ptr t.bt,os.val,.agg #[.int .i64 k,.int .i64 a]] I (os.aY 254) λv I' M'=>I'=I/\∃ cY:bk,v=cY.val/\cY.ok 2 ((L++parts).flatMap hE)/\M'=cY.aY 254:=by
 refine bX [3,4,8] aV Tryz.func165 rfl rfl rfl ?_;intro B ao;have bf:=h.ok;have cI:=bf.sz;obtain⟨y,aN,jL,iB,pw,hM,ad,b7,bs⟩:=bf.aH ae;have dR:=iB.kn;have ai3:y.kn<=140737488355328:=by have:=iB.bd.cap.2;omega
 obtain⟨g2,M9⟩:∃ g2,g2=y.aX.map Int.toNat:=⟨_,rfl⟩;have Mk:g2.length=y.aX.length:=by rw[M9,eX]
 have ask:∀ j (an:j<g2.length),g2[j]<t.nn/\∃ sC,y.kg=some sC/\∀ M,ca I M (sC.add (j*1)) 1 [Value.int .i64 ((g2[j]:Nat):Int)]:=λj an=>by
  have ij:j<y.aX.length:=by omega
  obtain⟨sC,aT,aU⟩:=iB.bd.one (f:=λ(k:Int)=>Value.int .i64 k) (j:=j) (by omega) ij;have ab:=hM _ (dK ij);have e:g2[j]=y.aX[j].toNat:=by simp only[M9,lE]
  rw[e];refine⟨ab.2,sC,aT,λM=>?_⟩;have e:((y.aX[j].toNat:Nat):Int)=y.aX[j]:=by omega
  rw[e];exact aU M
 have jA:=(h.na k).one;unfold kl at aG;rw[jL]at aG jA;have Az:y.pn.bT=g2:=M9.symm;have Vg:t.P.a3=0:=rfl;rw[Vg,Az]at aG;rw[Az]at jA;refine cz.mk λdx lX ai4=>?_;refine cz.mk λfm ai5 MD=>?_;refine cW.draw aV rfl rfl rfl ?_;refine aF.mk _ (dn (k:=0) (n:=1) (cs:=[ptr t.bt]) (T:=30) (b:=dx) (.tail _ (.head _)) (by simp)) ?_;refine aF.mk _ (bf.gh (j:=3) (by decide)) ?_;refine bc.mk ad k b7 rfl ae ?_;refine aF.mk _ (bs _) ?_;refine cz.mk λgf Kf ai6=>?_;refine cg.mk [] _ _ _ rfl rfl (bJ rfl) rfl ?_;refine cz.mk λcO J4 abv=>?_;refine cg.mk [] _ [.int .i64 0].toArray 3 rfl rfl (bJ rfl) rfl ?_;have eo:∀ {M:List ay} j,j+1<=9->(⟨gf,.cells y.cells.toArray 83 (0,0)⟩:ay)∈M->ca I M ((⟨gf,0,none⟩:Addr).add j) 1 ((y.cells.drop j).take 1):=λj an a4=>dn a4 an;refine aF.mk _ (eo 0 (by decide) (.tail _ (.head _))) ?_;have Vh:∀ {q aP:Nat},aP<=t.s.size->(dU t.P q aP).au=3->aP<=(dU t.P q aP).aP/\(dU t.P q aP).aP<=t.s.size:=fun {q aP} lj af=>by have:=(Rv (P:=t.P) rfl q aP).m af;rw[Vg,dk]at this;exact⟨this.1,this.2.1⟩
 have fin:∀ {aP:Nat} {os:bk},zi t.s.size L parts [] aP os->os.ok 2 ((L++parts).flatMap hE):=λhw=>by obtain⟨ql,eY,ez⟩:=hw.ok;rw[dF]at ez;rwa [ez]at eY
 have ai7:∀ {os:bk} {aP:Nat},(⟨gf,.cells y.cells.toArray 83 (0,0)⟩:ay)∈tY ⟨gf,.cells y.cells.toArray 83 (0,0)⟩ t.bt dx cO fm aP os:=.head _;have aR:∀ {os:bk} {aP:Nat},ca I (tY ⟨gf,.cells y.cells.toArray 83 (0,0)⟩ t.bt dx cO fm aP os) ((⟨fm,0,none⟩:Addr).add 0) 1 (([os.val].drop 0).take 1):=fun {os aP}=>dn (T:=255) (cs:=[os.val]) (.tail _ (.tail _ (.tail _ (.head _)))) (cC _);have ai8:∀ j:Int,y.pn.d.k=j ↔ y.k=j:=λj=>Iff.rfl;refine a0.mk (λkp=>?_) (λkp=>?_)
 ·have bO:y.pn.d.k=6:=du kp;rw[cK bO]at aG;obtain⟨q,aO⟩:=jA (.inr (by omega));have Vi:y.aX.length=1:=by rw[<-Mk,aO];rfl
  obtain⟨lH,sC,Bm,vq⟩:=ask 0 (by omega);have cv:g2[0]'(by omega)=q:=by simp only[aO];rfl
  rw[cv]at lH vq;have z5:kS (dU t.P) 0 q y.hi 0 a parts:=by rw[aO]at aG;exact aG
  refine dB.inv (ι:=Nat×Nat×bk) (λz=>{ bj:=[(4,.val (ptr fm)),(7,.val (ptr gf)),(9,.val (M7 dx cO fm)),(10,.val (.int .i64 z.1))],c5:=I,dv:=tY ⟨gf,.cells y.cells.toArray 83 (0,0)⟩ t.bt dx cO fm z.2.1 z.2.2 }) (λz=>z.1<=1000001/\∃ a2,kS (dU t.P) 0 q y.hi z.1 z.2.1 a2/\zi t.s.size L parts a2 z.2.1 z.2.2) (λz=>1000002-z.1) ?_ ?_;·exact⟨(0,a,os),⟨by simp,parts,z5,aa,[],by rw[dF];exact ep,rfl⟩,.perm M8 .refl,ew,.nil⟩
  rintro⟨n,aP,tZ⟩⟨av,a2,fq,hw⟩;simp only at av fq hw;have eW:=hw.hi;obtain⟨ql,vU,fz⟩:=hw.ok;have uQ:(L++ql).length<=1048576:=by have:=congrArg List.length fz;rw[cU]at this |-;omega
  cases fq with
  |stop ap=>
   refine aF.mk _ (eo 7 (by decide) (.head _)) ?_;refine cB.mk (λe=>?_) (λ_=>?_);·have aB:(!decide ((n:Int)=y.hi))=true:=e;rw[ap]at aB;simp at aB
   refine aF.mk _ aR ?_;exact⟨_,_,.sub HP .refl,rfl,tZ,rfl,fin hw,rfl⟩
  |fail ap nX=>
   have nX:(dU t.P q aP).au=2:=nX;refine aF.mk _ (eo 7 (by decide) (.head _)) ?_;refine cB.mk (λ_=>?_) (λe=>?_)
   rotate_left
   ·have aB:(!decide ((n:Int)=y.hi))=false:=e;simp only[Fy,e0]at aB;exact absurd aB ap
   refine aF.mk _ (eo 8 (by decide) (.head _)) ?_;refine bc.mk sC 0 Bm rfl (by omega) ?_;refine aF.mk _ (vq _) ?_;refine bb.whole _ (HO h _ vU lH eW (λ_=>uQ)) ?_;rintro v I' M' -⟨rfl,⟨af,rfl,rfl⟩|⟨af,-⟩⟩;·refine a0.mk (λe=>by cases e) (λ_=>?_);refine aF.mk _ aR ?_;exact⟨_,_,.sub HP .refl,rfl,tZ,rfl,fin hw,rfl⟩
   ·rw[nX]at af;cases af
  | @more _ _ l af7 ap hz r=>
   have hz:(dU t.P q aP).au=3:=hz;have r:kS (dU t.P) 0 q y.hi (n+1) (dU t.P q aP).aP l:=r;have e3:=Vh eW hz;refine aF.mk _ (eo 7 (by decide) (.head _)) ?_;refine cB.mk (λ_=>?_) (λe=>?_)
   rotate_left
   ·have aB:(!decide ((n:Int)=y.hi))=false:=e;simp only[Fy,e0]at aB;exact absurd aB ap
   refine aF.mk _ (eo 8 (by decide) (.head _)) ?_;refine bc.mk sC 0 Bm rfl (by omega) ?_;refine aF.mk _ (vq _) ?_;refine bb.whole _ (HO h _ vU lH eW (λ_=>uQ)) ?_;rintro v I' M' -⟨rfl,⟨af,-⟩|⟨af,rfl,iU,h0,rfl⟩⟩;·exact absurd hz af
   ·refine a0.mk (λ_=>?_) (λe=>by cases e);refine a5.mk _ (cm (i:=n) (by omega)) ?_;exact⟨(n+1,_,iU),⟨⟨by simp only;omega,l,r,zi.next e3.2 h0 fz⟩,by simp only;omega⟩,.refl,ew,.nil⟩
 have agr:¬ y.pn.d.k=6:=dt kp;rw[cA agr]at aG;refine a0.mk (λgJ=>?_) (λgJ=>?_)
 ·have bC:y.pn.d.k=5:=du gJ;rw[cK bC]at aG;obtain⟨tv,q9⟩:=aG;refine aF.mk _ (eo 8 (by decide) (.tail _ (.head _))) ?_;refine dB.inv (ι:=Nat) (λj=>{ bj:=[(4,.val (ptr fm)),(9,.val (M7 dx cO fm)),(58,.val (.slice y.kg y.kn y.jc)),(59,.val (.int .i64 y.kn)),(60,.val (.int .i64 j))],c5:=I,dv:=tY ⟨gf,.cells y.cells.toArray 83 (0,0)⟩ t.bt dx cO fm a os }) (λj=>j<=g2.length/\uW (dU t.P) 0 (g2.drop j) a/\parts=nh (dU t.P) 0 (g2.drop j) a) (λj=>g2.length-j) ?_ ?_
  ·exact⟨0,⟨bq _,tv,q9⟩,.perm M8 .refl,g',.nil⟩
  rintro j⟨an,nY,o3⟩;refine a0.mk (λe=>?_) (λe=>?_)
  rotate_left
  ·have c1:¬ (j:Int)<(y.kn:Int):=dt e;rw[ir (by omega)]at nY;exact nY.elim
  have aK:(j:Int)<(y.kn:Int):=du e;have fU:j<g2.length:=by omega
  obtain⟨pe,sC,Bm,vq⟩:=ask j fU;rw[fg fU]at nY o3;generalize g2[j]=q at pe vq nY o3;refine bc.mk sC j Bm rfl (by omega) ?_;refine aF.mk _ (vq _) ?_;refine bb.whole _ (HO h _ ep pe aa (λ_=>by omega)) ?_;rintro v I' M' -⟨rfl,⟨af,rfl,rfl⟩|⟨af,rfl,iU,h0,rfl⟩⟩
  ·refine a0.mk (λe=>by cases e) (λ_=>?_);refine a5.mk _ (cm (i:=j) (by omega)) ?_;have lX:Nat.beq (dU t.P q (a-0)).au 3=false:=by rw[wb];exact λe=>af (cf e)
   refine⟨j+1,⟨⟨by omega,?_,?_⟩,by omega⟩,.refl,g',.nil⟩
   ·rcases nY with e | e
    ·exact absurd e af
    ·exact e.2
   ·rw[o3];simp only[nh,lX,ba]
  ·refine a0.mk (λ_=>?_) (λe=>by cases e);have he:parts=bif Nat.beq (dU t.P q a).n 0 then []else [(q,a)]:=by
    have lX:Nat.beq (dU t.P q (a-0)).au 3=true:=by rw[show(dU t.P q (a-0)).au=3 from af];rfl
    rw[o3];simp only[nh,lX,bh];rfl
   refine aF.mk _ aR ?_;exact⟨_,_,.sub HP .refl,rfl,iU,rfl,by rw[he];exact h0,rfl⟩
 have ags:¬ y.pn.d.k=5:=dt gJ;rw[cA ags]at aG;obtain⟨tv,q9⟩:=aG;refine aF.mk _ (eo 8 (by decide) (.tail _ (.head _))) ?_;refine dB.inv (ι:=Nat×Nat×bk) (λz=>{ bj:=[(4,.val (ptr fm)),(9,.val (M7 dx cO fm)),(29,.val (.slice y.kg y.kn y.jc)),(30,.val (.int .i64 y.kn)),(31,.val (.int .i64 z.1))],c5:=I,dv:=tY ⟨gf,.cells y.cells.toArray 83 (0,0)⟩ t.bt dx cO fm z.2.1 z.2.2 }) (λz=>z.1<=g2.length/\allM (dU t.P) 0 (g2.drop z.1) z.2.1/\zi t.s.size L parts (lg (dU t.P) 0 (g2.drop z.1) z.2.1) z.2.1 z.2.2) (λz=>g2.length-z.1) ?_ ?_
 ·exact⟨(0,a,os),⟨bq _,tv,aa,[],by rw[dF];exact ep,q9.symm⟩,.perm M8 .refl,g',.nil⟩
 rintro⟨j,aP,tZ⟩⟨an,nY,hw⟩;simp only at an nY hw;refine a0.mk (λe=>?_) (λe=>?_)
 rotate_left
 ·have c1:¬ (j:Int)<(y.kn:Int):=dt e;rw[ir (by omega)]at hw;refine aF.mk _ aR ?_;exact⟨_,_,.sub HP .refl,rfl,tZ,rfl,fin hw,rfl⟩
 have aK:(j:Int)<(y.kn:Int):=du e;have fU:j<g2.length:=by omega
 obtain⟨pe,sC,Bm,vq⟩:=ask j fU;rw[fg fU]at nY hw;generalize g2[j]=q at pe vq nY hw;obtain⟨hz,o3⟩:=nY;have hz:(dU t.P q aP).au=3:=hz;have eW:=hw.hi;obtain⟨ql,vU,fz⟩:=hw.ok;have uQ:(L++ql).length<=1048576:=by have:=congrArg List.length fz;rw[cU]at this |-;omega
 have e3:=Vh eW hz;refine bc.mk sC j Bm rfl (by omega) ?_;refine aF.mk _ (vq _) ?_;refine bb.whole _ (HO h _ vU pe eW (λ_=>uQ)) ?_;rintro v I' M' -⟨rfl,⟨af,-⟩|⟨af,rfl,iU,h0,rfl⟩⟩
 ·exact absurd hz af
 refine a5.mk _ (cm (i:=j) (by omega)) ?_;refine⟨(j+1,_,iU),⟨⟨by simp only;omega,o3,zi.next e3.2 h0 ?_⟩,by simp only;omega⟩,.refl,g',.nil⟩;rw[<-fz];have lX:Nat.beq (dU t.P q (aP-0)).au 3=true:=by rw[show(dU t.P q (aP-0)).au=3 from af];rfl
 simp only[lg,lX,bh];show ql++((bif Nat.beq (dU t.P q aP).n 0 then []else [(q,aP)])++lg (dU t.P) 0 (g2.drop (j+1)) (dU t.P q aP).aP)=ql++bif Nat.beq (dU t.P q aP).n 0 then lg (dU t.P) 0 (g2.drop (j+1)) (dU t.P q aP).aP else(q,aP)::lg (dU t.P) 0 (g2.drop (j+1)) (dU t.P q aP).aP;cases Nat.beq (dU t.P q aP).n 0<;>rfl
def h4.cells(c:h4):List Value:=[.string c.name,.int .i64 c.lo,.int .i64 c.hi]
def h4.de(c:h4):c.cells.length=3:=rfl
structure Vj(m:db)(kn:Nat->Nat->cy)(x:Nat×Nat):Prop where
 k:x.1<m.ns.n
 lo:m.a3<=x.2
 hi:x.2<=m.s.size
 au:(kn x.1 (x.2-m.a3)).au=3
def zj(m:db)(kn:Nat->Nat->cy)(x:Nat×Nat):Prop:=Vj m kn x/\(kn x.1 (x.2-m.a3)).n≠0
section
variable{m:db}{kn:Nat->Nat->cy}
def Vk(h:∀ k p,wx m.iA (m.a3+p) (kn k p)){q:Nat}(ev:m.a3<=aP)(af:(kn q (aP-m.a3)).au=3):m.a3<=(kn q (aP-m.a3)).aP/\(kn q (aP-m.a3)).aP<=m.s.size:=by have:=(h q (aP-m.a3)).m af;rw[wa ev]at this;exact⟨by omega,this.2.1⟩
def Vl(h:∀ k p,wx m.iA (m.a3+p) (kn k p)):∀ (L:List Nat) (a:Nat),(∀ x∈L,x<m.ns.n)->m.a3<=a->a<=m.s.size->allM kn m.a3 L a->∀ x∈lg kn m.a3 L a,zj m kn x
 |[],a,_,_,_,_,x,ab=>by cases ab
 |k::L,a,c7,U,aa,⟨af,aR⟩,x,ab=>by
  have ax:=Vk h U af;have be:=Vl h L _ (λx ab=>c7 x (.tail _ ab)) ax.1 ax.2 aR;simp only[lg,af]at ab;rw[show Nat.beq 3 3=true from rfl,bh]at ab;cases ao:Nat.beq (kn k (a-m.a3)).n 0 with
  |true=>rw[ao]at ab;exact be x ab
  |false=>
   rw[ao]at ab;rcases eg.1 ab with rfl | ab;·exact⟨⟨c7 k (.head _),U,aa,af⟩,λe=>by rw[e]at ao;cases ao⟩
   ·exact be x ab
def Vm:∀ (L:List Nat) (a:Nat),(∀ x∈L,x<m.ns.n)->m.a3<=a->a<=m.s.size->∀ x∈nh kn m.a3 L a,zj m kn x
 |[],a,_,_,_,x,ab=>by cases ab
 |k::L,a,c7,U,aa,x,ab=>by
  simp only[nh]at ab;cases af:Nat.beq (kn k (a-m.a3)).au 3 with
  |false=>rw[af]at ab;exact Vm L a (λx ab=>c7 x (.tail _ ab)) U aa x ab
  |true=>
   rw[af,bh]at ab;cases ao:Nat.beq (kn k (a-m.a3)).n 0 with
   |true=>rw[ao]at ab;cases ab| false=>rw[ao,ba,iY]at ab;subst ab;exact⟨⟨c7 k (.head _),U,aa,cf af⟩,λe=>by simp only at e;rw[e]at ao;cases ao⟩
def kS.ok(h:∀ k p,wx m.iA (m.a3+p) (kn k p)){k:Nat}(ae:k<m.ns.n){hi:Int}{t a:Nat}{l:List (Nat×Nat)}(hw:kS kn m.a3 k hi t a l):m.a3<=a->a<=m.s.size->∀ x∈l,zj m kn x:=by
 induction hw with
 |stop=>exact λ_ _ x ab=>by cases ab
 |fail=>exact λ_ _ x ab=>by cases ab
 | @more t a l ai ap af r be=>
  intro U aa x ab;have ax:=Vk h U af;rcases eb.1 ab with ab | ab
  ·cases ao:Nat.beq (kn k (a-m.a3)).n 0 with
   |true=>rw[ao]at ab;cases ab| false=>rw[ao,ba,iY]at ab;subst ab;exact⟨⟨ae,U,aa,af⟩,λe=>by simp only at e;rw[e]at ao;cases ao⟩
  ·exact be ax.1 ax.2 x ab
def agt(h:∀ k p,wx m.iA (m.a3+p) (kn k p))(xK:m.ns.xs.length=m.ns.n)(lp:z' m.iA){k a:Nat}(ae:k<m.ns.n)(U:m.a3<=a)(aa:a<=m.s.size){l:List (Nat×Nat)}(aG:kl m.iA kn k a l):∀ x∈l,zj m kn x:=by
 have KL:m.iA.ns.length=m.ns.n:=by simp[db.iA,xK]
 have aq:=da.Za lp (k:=k) (by omega);have ar:∀ x∈(m.iA.aH k).bT,x<m.ns.n:=λx ab=>by rw[<-KL];exact aq.bT x ab
 unfold kl at aG;by_cases bO:(m.iA.aH k).d.k=6
 ·rw[cK bO]at aG;have Vi:=aq.one (by omega);have aA:(m.iA.aH k).bT.getD 0 0<m.ns.n:=by
   have e:(m.iA.aH k).bT.getD 0 0=(m.iA.aH k).bT[0]:=by simp[dh,Vi]
   rw[e];exact ar _ (dK (by omega))
  exact kS.ok h aA aG U aa
 ·rw[cA bO]at aG;by_cases bC:(m.iA.aH k).d.k=5
  ·rw[cK bC]at aG;rw[aG.2];exact Vm _ _ ar U aa
  ·rw[cA bC]at aG;rw[aG.2];exact Vl h _ _ ar U aa aG.1
def Na(aA:wz m.iA kn):∀ (L:List (Nat×Nat)),(∀ x∈L,zj m kn x)->∃ n l,h5 m.iA kn n L l/\L.length<=l.length
 |[],_=>⟨0,[],.nil,cC _⟩
 |(k,a)::L,h=>by
  obtain⟨n,l,U,aa⟩:=Na aA L λx ab=>h x (.tail _ ab);obtain⟨⟨dO,bL,fB,k7⟩,C1⟩:=h (k,a) (.head _);obtain⟨hA,c4,h6,hd,-⟩:=aA k (a-m.a3) k7;have e:m.iA.a3+(a-m.a3)=a:=by show m.a3+(a-m.a3)=a;simp only at bL;omega
  rw[e]at h6;refine⟨hA+n,c4++l,h6.app U,?_⟩;have:0<c4.length:=by unfold km at hd;simp only at C1;omega
  rw[cU,e1];omega
end
def Vn{v pB:Value}(h:pB=v):sL (.val v) (.val pB):=by rw[h];exact .refl
structure Nb(m:db)(kn:Nat->Nat->cy)(l:List h4)(n:Nat)(L:List (Nat×Nat))(os hF:bk):Prop where
 os:os.ok 2 (L.reverse.flatMap hE)
 eF:∀ x∈L,Vj m kn x
 agu:L.length<=1\/∀ x∈L,zj m kn x
 g:∃ pk kV,h5 m.iA kn n L kV/\pk++kV=l/\hF.ok 3 (pk.flatMap h4.cells)
def Nb.len{m:db}{kn:Nat->Nat->cy}{l:List h4}{hF:bk}(h:Nb m kn l n L os hF)(aA:wz m.iA kn)(ar:l.length<=65536):L.length<=65537:=by
 rcases h.agu with U | U
 ·omega
 ·obtain⟨pk,kV,aT,aU,-⟩:=h.g;obtain⟨hA,c4,h6,hd⟩:=Na aA L U;have e:=aT.Am h6;subst e;have:=congrArg List.length aU;rw[cU]at this;omega
end Go.V
