/- Part 8 of what the proofs of this seat share: the executor, data in memory, walks.
-/
import Derived.Test.YtbcembbdimcdlaaGreatDoorK7
import Derived.Test.YtbcembbdimcdlaaGreatDoorK3
import Derived.Test.YtbcembbdimcdlaaGreatDoorK4
import Derived.Test.YtbcembbdimcdlaaGreatDoorK5
import Derived.Lib.TrailingZeros
import Derived.Carry
import Derived.Test.YtbcembbdimcdlaaGreatDoorK6
set_option linter.all false
set_option maxHeartbeats 8000000
set_option maxRecDepth 100000
namespace Go.V
open Go
def BQ:=@Nat.not_lt_zero
def KJ:=@List.countP_cons
def YA:=@Nat.testBit_two_pow_mul_add
def KK:=@List.all_nil
variable{f:(Nat->Nat->b8)->b8}{args:List al}{I dN I' J:aH}{M M0 M' Mr a9:List aE}{p other:Prop}{g:cE}{v:al}{us vs:List Value}{X:cW}{β:Nat->Nat}{W b n n0 T j:Nat}{E:Env}{aj:be al}{ps bs:List Nat}{fm:Code}{c c':dc}{jz:Loc}{o:Obj}{G:GT}{pr:lP}{D0 D:bH}{m m':bo}{x y:Operand}{ex:sY}{Q:Value->aH->List aE->Prop}{w':World}{Y:gE}{arr:Array Value}{R α:Type}{t:bB}{L:List (List UInt8)}{d:a3}{aL:List Int}{ds:List bm}{os:a'}
def Spec.rN{P:Program}{f:Nat}{args:List Value}{p q:Value->aH->List aE->Prop}(h:Spec P f args I M p)(af:∀ v I' M',p v I' M'->q v I' M'):Spec P f args I M q:=by
 rcases h with⟨U,aa⟩ | h
 ·refine .inl ⟨U,λw hw=>?_⟩;refine(aa w hw).mono ?_;rintro e w'⟨v,I',M',aC,ay,bf,b3⟩;exact⟨v,I',M',aC,af _ _ _ ay,bf,b3⟩
 ·refine .inr λw hw=>?_;obtain⟨v,w',I',M',aC,ay,bf,b3⟩:=h w hw;exact⟨v,w',I',M',aC,af _ _ _ ay,bf,b3⟩
section
variable{Y:gE}{D:bH}{m m':bo}{I:aH}{M:List aE}
def YB(aP:cY Y.P Y.E)(c6:wL Y.P)(mP:x0 Y){f:Nat}(aN:BP Y f){g:Nat}(h:JV Y (jx Y f) g args m=some (v,m'))(hu:bM D args us)(hm:df Y D m I M) :
  wZ Y.P g us I M λr I' M'=>∃ br,D.ext br m.n/\aU br v r/\df Y br m' I' M':=by
 unfold JV at h;obtain⟨fn,aF,U⟩:=cL h;obtain⟨c,ag,aa⟩:=cL U;obtain⟨bk,ae⟩:=gF aa;obtain⟨aj,aV,aX⟩:=be.xL args (be.bare 12) 0;rw[aV]at ae;have w3:∀ t w,aj.get t=some w->args[t]?=some w:=λt w hw=>by
  rcases aX t w hw with⟨_,h⟩ | ⟨_,h⟩;·simpa using h
  ·rw[QE]at h;cases h
 unfold WD at ae;split at ae
 ·rename_i c4 dG ab;unfold JU at ae;obtain⟨vs,ao,aR⟩:=cL ae;cases aR;exact Yz aP c6 mP aN aF ag (bN bk) w3 (.inl rfl) ab ao rfl hu hm
 ·rename_i c4 dG ab;unfold JU at ae;obtain⟨vs,ao,aR⟩:=cL ae;cases aR;exact Yz aP c6 mP aN aF ag (bN bk) w3 (.inr rfl) ab ao rfl hu hm
 ·cases ae
def YC(aP:cY Y.P Y.E)(c6:wL Y.P)(mP:x0 Y){f:Nat}(aN:BP Y f){g:Nat}(h:sB Y (jx Y f) g args m=some (v,m'))(hu:bM D args us)(hm:df Y D m I M) :
  Spec Y.P g us I M λr I' M'=>∃ br,D.ext br m.n/\aU br v r/\df Y br m' I' M':=by
 unfold sB at h;cases aK:Y.pr g args m with
 |none=>rw[aK]at h;exact .inl (YB aP c6 mP aN h hu hm)| some p=>rw[aK]at h;have bh:some p=some (v,m'):=h;cases bh;exact mP g args m v m' aK D I M us hu hm
def cH.kept{a:Act}{w W:World}{F:Fr}{C:dM}(h:cH X β a w F C I' M')(U:X.aq=W)(aa:X.B=W.heap.size)(ae:X.dN=dN)(aR:X.b6=M0.map (·.num)):Kept dN M0 W I' M' w where
 le:=by rw[<-ae];exact h.hS
 tR b o ag:=by
  rcases h.ht b o ag with bn | bn;·exact .inl (by rw[<-ae];exact bn)
  ·exact .inr (by rw[<-aa];exact bn)
 vk x ab:=by
  rcases h.own x ab with bn | bn;·rw[aR]at bn;obtain⟨y,aG,e⟩:=dp.1 bn;exact .inl ⟨y,aG,e⟩
  ·exact .inr (by rw[<-aa];exact bn)
 c2 b ag an:=by rw[<-U];refine h.c2 b (by rw[aa];exact ag) λhm=>?_;rw[aR]at hm;obtain⟨y,aG,e⟩:=dp.1 hm;exact an y aG e
 out:=by rw[<-U];exact h.out
 sz:=by rw[<-aa];exact h.sz
def YD{R:Type}:∀ {ps:List Nat} {args:List al} {mN:be al} {K:be al->Option R} {r:R} {us:List Value} {tmps:Array Value},Dy ps args mN K=some r->bM D args us->(∀ t∈ps,t<tmps.size)->(∀ t v,mN.get t=some v->aU D v (tmps.getD t undef)) -> ∃ fr,K fr=some r/\us.length=ps.length/\((ps.zip us).foldl (λ(tmps:Array Value) (p:Nat×Value)=>tmps.setIfInBounds p.1 p.2) tmps).size=tmps.size /\ ∀ t v,fr.get t=some v->aU D v (((ps.zip us).foldl (λ(tmps:Array Value) (p:Nat×Value)=>tmps.setIfInBounds p.1 p.2) tmps).getD t undef)
 |[],[],mN,K,r,us,tmps,h,hu,aK,aq=>by have:=hu.nm;subst this;exact⟨mN,h,rfl,rfl,aq⟩
 |[],_::_,mN,K,r,us,tmps,h,hu,aK,aq=>by simp[Dy]at h
 |_::_,[],mN,K,r,us,tmps,h,hu,aK,aq=>by simp[Dy]at h
 |t0::ps,wM::args,mN,K,r,us,tmps,h,hu,aK,aq=>by
  obtain⟨x,xs,aV,aX,rfl⟩:=hu.kf;simp only[Dy]at h;obtain⟨fr,U,aa⟩:=be.oJ (some wM) mN t0;rw[U]at h;have aO:=aK t0 (by simp);obtain⟨u',ae,aR,bn,b2⟩:=YD (tmps:=tmps.setIfInBounds t0 x) h aX (λt au=>by simpa using aK t (by simp[au])) λt v au=>by
   rw[oS,Cb];rcases aa t v au with⟨rfl,e⟩ | ⟨bu,aB⟩;·have:=(oK e);subst this;simp only[sQ,aO];exact aV
   ·rw[cG (sP bu),<-oS];exact aq t v aB
  exact⟨u',ae,by simp[aR],by simpa using bn,b2⟩
def lh.KL{a:Loc}{b:Bool}{body:Code}(h:lh D E M a (.loop b n aj ps fm body)):∃ L,(⟨a.b,.loop L⟩:aE)∈M/\WN D b n aj ps fm body L:=by
 cases h with
 |loop L U aa=>exact⟨L,U,aa⟩
def lh.ajh{a:Loc}{c:Code}{body:Code}(h:lh D E M a (.done c n aj ps fm body)):∃ L,(⟨a.b,.loop L⟩:aE)∈M/\L.state=.done/\L.pending=some c:=by
 cases h with
 |done L U aa ae=>exact⟨L,U,aa,ae⟩
def df.swap(h:df Y D m I M){e9:be fW}{l:Nat}{cd aC:fW}{o':Obj}(aB:m.t.get l=some cd)(ax:D l=some jz)(bb:M.Perm (⟨jz.b,o⟩::Mr))(au:∀ id e,e9.get id=some e->(id=l/\some aC=some e)\/(id≠l/\m.t.get id=some e))
  (he:lh D Y.E (⟨jz.b,o'⟩::Mr) jz aC):df Y D ⟨e9,m.n⟩ I (⟨jz.b,o'⟩::Mr):=by
 refine h.step (λid e hi=>(au id e hi).imp (λq=>⟨q.1,oK q.2⟩) λq=>q) ax (bH.le_refl D) (λ_ _=>rfl) h.jy (λ_ _ h=>h) (λid e bX bu hi nq x ab an=>?_) he λid e bX bu hi nq ag=>bu (h.inj _ _ _ _ _ _ hi aB nq ax ag);rcases et.1 (bb.mem_iff.1 ab)with rfl | ab
 ·exact(bu (h.inj _ _ _ _ _ _ hi aB nq ax an.symm)).elim
 ·exact nX _ ab
end
section
variable{Y:gE}{D:bH}{m m':bo}{I:aH}{M:List aE}
def aji{f:Nat}(aN:BP Y f){l:Nat}(h:O3 (jx Y f) l args m=some (v,m'))(aw:D l=some jz)(hu:bM D args us)(hm:df Y D m I M) :
  Fc Y.P jz.b us I M λr I' M'=>∃ br,D.ext br m.n/\aU br v r/\df Y br m' I' M':=by
 unfold O3 at h;split at h
 ·rename_i n mN ps fm body aB;obtain⟨L,bb,bQ⟩:=(hm.iD _ _ _ aB aw).KL;intro W gV;have Fi:W.heap[jz.b]?=some (.loop L):=gV.m _ bb;have cf:L.state=.ready:=bQ.aA;have vv:∀ t∈ps,t<L.tmps.size:=λt au=>by rw[bQ.sz];exact bQ.op t (by rw[bQ.ps];exact au)
  obtain⟨fr,U,bY,cr,YE⟩:=YD (tmps:=L.tmps) h hu vv bQ.aj;have nQ:L.params.size=ps.length:=by rw[<-bQ.ps];simp
  refine⟨_,_,_,_,run_yield Fi (by rw[nQ];simpa using bY),?_⟩;have Mf:(L.params.zip us.toArray).foldl (λtmps (x:Nat×Value)=>match x with | (t,a)=>tmps.setIfInBounds t a) L.tmps=(ps.zip us).foldl (λ(tmps:Array Value) (p:Nat×Value)=>tmps.setIfInBounds p.1 p.2) L.tmps:=by rw[<-LA,<-bQ.ps];simp
  rw[Mf];generalize bS:(ps.zip us).foldl (λ(tmps:Array Value) (p:Nat×Value)=>tmps.setIfInBounds p.1 p.2) L.tmps=T at YE cr;rw[bQ.fm,bQ.body];have xQ:hQ n fm=true:=by rw[<-bQ.fm];exact bQ.AG
  have Qi:hQ n body=true:=by rw[<-bQ.body];exact bQ.mZ
  refine roundIn_of_wpIn (F:=Fence.wide) (n:=0) trivial ?_;let vE:cW:=jA Y n W.heap.size W I (M.map (·.num)) (some jz.b)
  have ER:cH vE (λ_=>0) { tmps:=T,defers:=[] } W (λt=>.val (T.getD t undef)) (λ_=>none) I M:={
   size:=cr.trans bQ.sz
   defers:=⟨[],rfl,zU,λr ao=>by cases ao⟩
   holds:=gV
   aj:=λt=>rfl
   cp:=λs cs ap=>by cases ap
   inj:=λs cB U=>by simp at U
   hS:=λb o ag=>ag
   ht:=λb o ag=>.inl ag
   own:=λx ab=>.inl (dp.2 ⟨x,ab,rfl⟩)
   c2:=λb ag aF=>rfl
   out:=.refl _
   sz:=b1 _ }
  unfold WG at U;split at U
  ·rename_i u' m2 ajj;have gT:lr vE Y.G Y.pr D m.n fr m { tmps:=T,defers:=[] } W:=⟨D,_,_,I,M,⟨_,ER⟩,λt v ai=>.val (YE t v ai),hm,bH.oM,b1 _⟩;refine wpIn_mono (aN _ _ _ _ _ _ _ _ ajj xQ _ _ _ _ _ D m.n _ _ (λe=>by cases e) gT) ?_;rintro e cg iM⟨rfl,KM,YF,er,eU,eJ,⟨YG,q8⟩,ajk,pc,wK,uN⟩;have vM:KM l=some jz:=by rw[wK l (hm.jy _ _ aw)];exact aw
   have aa:O1 (jx Y f) l n body (m2.t.get l) u' m2=some (v,m'):=U;unfold O1 at aa;split at aa
   ·rename_i fA ajl ajm ajn O2 hU;obtain⟨BR,GP,rO⟩:=(pc.iD _ _ _ hU vM).KL;obtain⟨a9,post,bZ⟩:=tB GP;have kd:eJ.Perm (⟨jz.b,.loop BR⟩::(a9++post)):=by rw[bZ];exact rj
    have YH:iM.heap[jz.b]?=some (.loop BR):=q8.holds.m _ GP;have ajo:=(lv.1 YH).1;refine⟨_,run_beginRound YH rO.aA,?_⟩;obtain⟨t3,ae,aR⟩:=be.oJ (some (fW.loop true fA ajl ajm ajn O2)) m2.t l;rw[ae]at aa;have ajp:cH vE YG cg (iM.putObj jz.b (.loop { BR with state:=.busy })) YF er eU (⟨jz.b,.loop { BR with state:=.busy }⟩::(a9++post)):=
     (q8.ir (.perm kd .refl)).swap (by simp) (Cp ajo) (λb ag=>mS ag) (HV _ _ _)
    have kg:df Y KM ⟨t3,m2.n⟩ eU (⟨jz.b,.loop { BR with state:=.busy }⟩::(a9++post)):=pc.swap hU vM kd aR (.loop { BR with state:=.busy } (by simp) ⟨rfl,rO.p5,rO.sz,rO.aj,rO.ps,rO.fm,rO.body,rO.AG,rO.mZ,rO.op⟩);unfold WE at aa;obtain⟨⟨ex,aoJ,Hi⟩,ajq,bn⟩:=cL aa;have vH:lr vE Y.G Y.pr D m.n u' ⟨t3,m2.n⟩ cg (iM.putObj jz.b (.loop { BR with state:=.busy })):=⟨KM,YF,er,eU,_,⟨YG,ajp⟩,ajk,kg,wK,uN⟩;refine wpIn_mono (aN _ _ _ _ _ _ _ _ ajq Qi _ _ _ _ _ D m.n _ _ (λe=>by cases e) vH) ?_;rintro e fI jM⟨rfl,QG,ajr,tI,j6,lG,⟨ajs,KN⟩,aoK,BS,KO,QH⟩;have YI:QG l=some jz:=by rw[KO l (hm.jy _ _ aw)];exact aw
    have b2:O0 l (Hi.t.get l) (Cx ex) Hi=some (v,m'):=bn;unfold O0 at b2;split at b2
    ·rename_i zP YJ YK YL YM vQ;obtain⟨QI,PL,zQ⟩:=(BS.iD _ _ _ vQ YI).KL;obtain⟨YN,YO,ajt⟩:=tB PL;have YP:lG.Perm (⟨jz.b,.loop QI⟩::(YN++YO)):=by rw[ajt];exact rj
     have YQ:jM.heap[jz.b]?=some (.loop QI):=KN.holds.m _ PL;have PX:=(lv.1 YQ).1;obtain⟨t5,eh,fg⟩:=be.oJ (some (b4 (Cx ex) (fW.loop false zP YJ YK YL YM) λc=>fW.done c zP YJ YK YL YM)) Hi.t l;rw[eh]at b2;cases b2;have fin:∀ jump,Cx ex=jump->∃ np w',(Instr.endRound jz.b jump).run Y.P jM=.ok np w'/\∃ r I' M',Ending.returned np=.returned r/\(∃ br,D.ext br m.n/\aU br (.b (Cx ex).isNone) r/\df Y br ⟨t5,Hi.n⟩ I' M')/\ef I' M' w'/\Kept I M W I' M' w':=by
      rintro jump ak;let KP:Loop:={ QI with state:=if jump.isNone then .ready else .done,pending:=jump }
      have YR:cH vE ajs fI (jM.putObj jz.b (.loop KP)) ajr tI j6 (⟨jz.b,.loop KP⟩::(YN++YO)):=
       (KN.ir (.perm YP .refl)).swap (by simp) (Cp PX) (λb ag=>mS ag) (HV _ _ _)
      refine⟨_,_,run_endRound jump YQ,_,j6,_,rfl,⟨QG,KO,?_,BS.swap vQ YI YP fg ?_⟩,YR.holds,YR.kept rfl rfl rfl rfl⟩;·rw[ak];simp[aU]
      ·rw[ak];cases jump with
       |none=>exact .loop KP (by simp) ⟨rfl,rfl,zQ.sz,zQ.aj,zQ.ps,zQ.fm,zQ.body,zQ.AG,zQ.mZ,zQ.op⟩| some c=>exact .done KP (by simp) rfl rfl
     cases ex with
     |normal=>exact fin none rfl| exit id=>exact fin _ rfl| goto t=>exact fin _ rfl| ret=>exact fin _ rfl
    ·cases b2
   ·cases aa
  ·cases U
 ·cases h
end
section
variable{Y:gE}
def aju(aP:cY Y.P Y.E)(c6:wL Y.P)(mP:x0 Y){f:Nat}(aN:BP Y f):G' Y (JW Y (jx Y f)):=λaiD l m v m' h D I M u us yh fu hm=>by
 unfold JW at h;split at h
 ·rename_i g cb cs;simp only[aU]at yh;obtain⟨vs,ws,U,aa,rfl⟩:=yh;refine .inl ⟨g,_,_,rfl,?_⟩;have:=YC aP c6 mP aN h (U.append (fu.append aa)) hm;simpa using this
 ·rename_i q;simp only[aU]at yh;obtain⟨jz,U,rfl⟩:=yh;exact .inr ⟨jz.b,rfl,aji aN h U fu hm⟩
 ·cases h
def lr.world{a:Act}{w:World}(h:lr X G pr D0 n0 aj m a w):∃ D F β,(∀ t,eO β (F t) (a.tmps.getD t undef))/\qz D F aj:=by obtain⟨D,F,C,I,M,⟨β,a8⟩,c6,_⟩:=h;exact⟨D,F,β,a8.aj,c6⟩
def lr.eval{a:Act}{w:World}(h:lr X G pr D0 n0 aj m a w){b:Bool}(ab:dj aj x=some (.b b)):a.eval x=.bool b:=by obtain⟨D,F,β,U,aa⟩:=h.world;obtain⟨u,aC,aV⟩:=(aa.op [x]).bw (x:=x) (by simp) ab;rw[dq U aC,aV.bool]
def gd.ok{x:dD}{u:Value}(h:gd D x v)(ab:eO β x u):aU D v u:=by
 rcases h with⟨y,rfl,h⟩ | ⟨q,rfl,rfl⟩
 ·have:u=y:=ab;subst this;exact h
 ·have:u=.bool q:=ab;subst this;simp[aU]
def ajv(aP:cY Y.P Y.E)(c6:wL Y.P)(mP:x0 Y){f:Nat}(aN:BP Y f){iC:Bool}{ps:Array Tmp}{body:Code}{c4:be al}(h:O5 Y (jx Y f) iC n (dj aj x) ps.toList fm body aj m=some (ex,c4,m'))(a5:hQ n (.rangeFunc x ps fm body)=true){B:Nat}{aq:World}{b6:List Nat}{ro:Option Nat}{a:Act}{w:World}(kR:iC=true->ro=none)(ap:lr (jA Y n B aq dN b6 ro) Y.G Y.pr D0 n0 aj m a w) :
  (Code.rangeFunc x ps fm body).wpIn (gR (jA Y n B aq dN b6 ro)) 0 Y.P (λe a w=>e=zO ex/\lr (jA Y n B aq dN b6 ro) Y.G Y.pr D0 n0 c4 m' a w) a w:=by
 unfold O5 at h;split at h
 ·rename_i g cap ab;have Mg:=kR rfl;subst Mg;obtain⟨D,F,C,I,M,⟨β,a8⟩,QJ,hm,fE,jN⟩:=ap;obtain⟨u,aC,aV⟩:=(QJ.op [x]).bw (x:=x) (by simp) ab;simp only[aU]at aV;obtain⟨vs,ws,U,aa,rfl⟩:=aV;have im:=U.nm;subst im;simp only[hQ,cA]at a5;obtain⟨t1,ae,aR⟩:=GH h;refine wpIn_rangeFunc λfn _=>?_;let ep:Loop:={ state:=.ready,pending:=none,fn:=fn,tmps:=a.tmps,params:=ps,assign:=fm,body:=body,defers:=w.heap.size }
  let l:=w.heap.size+1
  let kX:World:=(w.alloc (.deferred (some []))).alloc (.loop ep)
  have Ao:=a8.SC.nu (.loop ep);have aw:(w.alloc (.deferred (some []))).heap.size=l:=by simp[l]
  rw[aw]at Ao;have ajw:∀ q∈M,q.num≠l:=λq az e=>by have:=a8.holds.lt az;omega
  have YS:df Y (D.set m.n ⟨l,0,0⟩) ⟨t1,m.n+1⟩ I (⟨l,.loop ep⟩::M):=hm.new (a:=⟨l,0,0⟩) ae ajw (.loop ep (by simp) ⟨rfl,rfl,a8.size,λt v au=>((QJ t v au).ok (a8.aj t)).mono (bH.zr _ hm.fresh),rfl,rfl,rfl,a5.1,a5.2.1,λt au=>bN (g0.1 a5.2.2 t au)⟩);unfold WJ at aR;obtain⟨⟨v,m2⟩,mB,bn⟩:=cL aR;have YT:=bH.zr (D:=D) ⟨l,0,0⟩ hm.fresh;have l9:bM (D.set m.n ⟨l,0,0⟩) (.y m.n::cap) (.func (.yield l) #[] #[]::ws):=.cons (by simp only[aU];exact⟨_,bH.rD _ _ _,rfl⟩) (aa.mono YT);obtain⟨pU,z9⟩:=YB aP c6 mP aN mB l9 YS;have ajx:=z9 kX Ao.holds;have ay:=dq a8.aj aC;refine⟨l,[w1 w.heap.size],kX,{ target:=.fn (.func g) ws.toArray,args:=#[.func (.yield l) #[] #[]] },kX,g,(.func (.yield l) #[] #[]::ws).toArray,kX,?_,?_,λ_ _=>trivial,?_,(λh=>by cases h),?_⟩;·show(Instr.enterLoop fn a.tmps ps fm body none).run Y.P w=_;exact run_enterLoop_outer fn a.tmps ps fm body
  ·show(Deferred.ofValue (a.eval x) (#[Operand.const (.func (.yield l) #[] #[])].map a.eval)).run Y.P kX=_;rw[ay];simp[Deferred.ofValue,Act.eval]
  ·simp only[invoke];rw[show #[Value.func (.yield l) #[] #[]]++ws.toArray=(.func (.yield l) #[] #[]::ws).toArray from by apply gG;simp];exact pU _ _
  ·refine(LM (X:=jA Y n B aq dN b6 none) ajx _).mono ?_;rintro e oe⟨r,g2,kY,rfl,⟨D4,QK,vV,kg⟩,YU,QL⟩;have yz:=Ao.after (Mr:=[]) (by simp) YU QL;rw[c8]at yz;have Ap:D4 m.n=some ⟨l,0,0⟩:=by rw[QK m.n (Cd _)];exact bH.rD _ _ _
   have Hj:=YS.le QK;have ajy:qz D4 F aj:=λt v au=>(QJ t v au).mono (bH.le_trans YT Hj);have ajz:D0.ext D4 n0:=λi hi=>by
    have eA:i<m.n+1:=by
     have:i<m.n:=by omega
     omega
    rw[QK i eA];show(if i=m.n then _ else D i)=D0 i;rw[cG (by omega)];exact fE i hi
   have fin:∀ (L:Loop) (t4:be fW) (j:Option Code),(⟨l,.loop L⟩:aE)∈kY->L.state≠.busy->L.pending=j->(∃ cd,m2.t.get m.n=some cd)->(∀ id e,t4.get id=some e->(id=m.n/\(none:Option fW)=some e)\/(id≠m.n/\m2.t.get id=some e))->n0<=m2.n ->
     ∃ jM,(Instr.endLoop l).run Y.P oe=.ok j jM/\lr (jA Y n B aq dN b6 none) Y.G Y.pr D0 n0 aj ⟨t4,m2.n⟩ { a with defers:=[w1 w.heap.size]++a.defers } jM:=by
    rintro L t4 j bQ ag aK⟨cd,ajA⟩Np QH;have ajB:oe.heap[l]?=some (.loop L):=YU.m _ bQ;obtain⟨a9,post,bZ⟩:=tB bQ;have kd:kY.Perm (⟨l,.loop L⟩::(a9++post)):=by rw[bZ];exact rj
    have mH:∀ i e',t4.get i=some e'->i≠m.n/\m2.t.get i=some e':=λi e' hi=>by
     rcases Np i e' hi with⟨_,fg⟩ | fg;·cases fg
     ·exact fg
    have KN:=(yz.ir (.perm kd .refl)).Fg (o':=.loop { L with state:=.exhausted });refine⟨_,(by rw[<-aK];exact run_endLoop ajB ag),D4,F,C,g2,a9++post,⟨β,KN⟩,ajy,⟨λi e' b hi h2=>?_,λi fX e' zz b iq hi dw=>kg.inj i fX e' zz b iq (mH i e' hi).2 (mH fX zz dw).2,kg.jy,kg.qy⟩,ajz,QH⟩;refine(kg.iD i e' b (mH i e' hi).2 h2).mono (bH.le_refl D4) λq az an=>?_;rcases et.1 (kd.mem_iff.1 az)with rfl | az;·exact((mH i e' hi).1 (kg.inj _ _ _ _ _ _ (mH i e' hi).2 ajA h2 Ap an.symm)).elim
    ·exact az
   have uN:∀ {cd:fW},m2.t.get m.n=some cd->n0<=m2.n:=λ_=>by have:=kg.jy _ _ Ap;omega
   have b2:(match m2.t.get m.n with
    |some (.loop false ..)=>m2.t.nl none m.n λt=>some (sY.normal,aj,(⟨t,m2.n⟩:bo))
    |some (.done c ..)=>b4 (O4 c) none λex=>m2.t.nl none m.n λt=>some (ex,aj,⟨t,m2.n⟩)
    |_=>none)=some (ex,c4,m'):=bn
   split at b2;·rename_i tl ajC ajD ajE ajF mI;obtain⟨L,bQ,YV⟩:=(kg.iD _ _ _ mI Ap).KL;obtain⟨t4,eh,fg⟩:=be.oJ (none:Option fW) m2.t m.n;rw[eh]at b2;cases b2;obtain⟨jM,ew,o8⟩:=fin L t4 none bQ (by rw[YV.aA];simp) YV.p5 ⟨_,mI⟩ fg (uN mI);exact⟨none,jM,ew,rfl,o8⟩
   ·rename_i c tl ajC ajD ajE ajF mI;obtain⟨L,bQ,cf,ajG⟩:=(kg.iD _ _ _ mI Ap).ajh;obtain⟨Bt,hex,b2⟩:=cL b2;obtain⟨t4,eh,fg⟩:=be.oJ (none:Option fW) m2.t m.n;rw[eh]at b2;cases b2;obtain⟨jM,ew,o8⟩:=fin L t4 (some c) bQ (by rw[cf];simp) ajG ⟨_,mI⟩ fg (uN mI);refine⟨some c,jM,ew,?_⟩;unfold O4 at hex;split at hex
    ·cases hex;exact wpIn_exit ⟨rfl,o8⟩
    ·cases hex;exact wpIn_goto ⟨rfl,o8⟩
    ·cases hex;exact wpIn_ret ⟨rfl,o8⟩
    ·cases hex
   ·cases b2
 ·cases h
end
section
variable{Y:gE}
def YW{next:Act->World->Prop}{Q:Exit->Act->World->Prop}{a:Act}{w:World}(h:Q (zO ex) a w)(bu:ex≠.normal):Exit.then next Q (zO ex) a w:=by cases ex<;>first | exact(bu rfl).elim | exact h
def ajH(aP:cY Y.P Y.E)(c6:wL Y.P)(mP:x0 Y)(e8:Y.P.follows .mixedOrders=true):∀ f k,k<=f->BP Y k:=by
 intro f
 induction f with
 |zero=>
  intro k af iC n c aj m ex c4 m' h;have:k=0:=by omega
  subst this;cases h
 |succ f bc=>
  intro k af;by_cases ajI:k<=f;·exact bc k ajI
  have l4:k=f+1:=by omega
  subst l4;have aN:=bc f (b1 _);have mB:=aju aP c6 mP aN;intro iC n c aj m ex c4 m' h a5 B aq dN b6 ro D0 n0 a w kR ap;have U:O6 Y f (jx Y f) iC n c aj m=some (ex,c4,m'):=h;have j4:=@jA.gJ Y n B aq dN b6 ro;unfold O6 at U;cases c with
  |skip=>cases U;exact wpIn_skip ⟨rfl,ap⟩| label l=>cases U;exact wpIn_label ⟨rfl,ap⟩| ret=>cases U;exact wpIn_ret ⟨rfl,ap⟩| exit id=>cases U;exact wpIn_exit ⟨rfl,ap⟩| goto l=>cases U;exact wpIn_goto ⟨rfl,ap⟩| refuse s=>cases U
  |seq x y=>
   simp only[hQ,cA]at a5;simp only[Gx]at U;split at U;·rename_i fr dG ab;refine wpIn_seq (wpIn_mono (aN _ _ _ _ _ _ _ _ ab a5.1 B aq dN b6 ro D0 n0 a w kR ap) ?_);rintro e cg iM⟨rfl,gT⟩;exact aN _ _ _ _ _ _ _ _ U a5.2 B aq dN b6 ro D0 n0 cg iM kR gT
   ·rename_i ea;refine wpIn_seq (wpIn_mono (aN _ _ _ _ _ _ _ _ U a5.1 B aq dN b6 ro D0 n0 a w kR ap) ?_);rintro e cg iM⟨rfl,gT⟩;exact YW ⟨rfl,gT⟩ λe=>ea c4 m' (by rw[U,e])
  |block id c=>
   simp only[hQ]at a5;simp only[WH]at U;split at U
   ·rename_i j fr dG ab;refine wpIn_block (wpIn_mono (aN _ _ _ _ _ _ _ _ ab a5 B aq dN b6 ro D0 n0 a w kR ap) ?_);rintro e cg iM⟨rfl,gT⟩;simp only[zO,Exit.inBlock];by_cases ak:j=id
    ·subst ak;rw[qS]at U;have aa:some (sY.normal,fr,dG)=some (ex,c4,m'):=U;cases aa;rw[dd rfl];exact⟨rfl,gT⟩
    ·rw[gS ak]at U;have aa:some (sY.exit j,fr,dG)=some (ex,c4,m'):=U;cases aa;rw[cG ak];exact⟨rfl,gT⟩
   ·rename_i ea;refine wpIn_block (wpIn_mono (aN _ _ _ _ _ _ _ _ U a5 B aq dN b6 ro D0 n0 a w kR ap) ?_);rintro e cg iM⟨rfl,gT⟩;cases ex with
    |exit j=>exact(ea j c4 m' U).elim| normal=>exact⟨rfl,gT⟩| goto l=>exact⟨rfl,gT⟩| ret=>exact⟨rfl,gT⟩
  |cond x cT c3=>
   simp only[hQ,cA]at a5;simp only[WI]at U;split at U
   ·rename_i b ab;refine wpIn_cond (ap.eval ab) ?_;cases b with
    |true=>exact aN _ _ _ _ _ _ _ _ U a5.1 B aq dN b6 ro D0 n0 a w kR ap| false=>exact aN _ _ _ _ _ _ _ _ U a5.2 B aq dN b6 ro D0 n0 a w kR ap
   ·cases U
  |loop c=>
   simp only[hQ]at a5;let J (k:Nat) (a:Act) (w:World):Prop:=k<=f+1/\∃ fr dG,jx Y k iC n (.loop c) fr dG=some (ex,c4,m')/\lr (jA Y n B aq dN b6 ro) Y.G Y.pr D0 n0 fr dG a w
   refine H4 J (m:=f+1) ⟨b1 _,aj,m,h,ap⟩ ?_;rintro k cg iM⟨af,fr,dG,aa,gT⟩;cases k with
   |zero=>cases aa
   |succ k=>
    have YX:=bc k (by omega);have ae:Gx (jx Y k iC n c fr dG) (jx Y k iC n (.loop c))=some (ex,c4,m'):=aa;simp only[Gx]at ae;split at ae;·rename_i u' m2 ab;refine wpIn_mono (YX _ _ _ _ _ _ _ _ ab a5 B aq dN b6 ro D0 n0 cg iM kR gT) ?_;rintro e dv kX⟨rfl,ko⟩;exact⟨k,Cd k,by omega,u',m2,ae,ko⟩
    ·rename_i ea;refine wpIn_mono (YX _ _ _ _ _ _ _ _ ae a5 B aq dN b6 ro D0 n0 cg iM kR gT) ?_;rintro e dv kX⟨rfl,ko⟩;exact YW ⟨rfl,ko⟩ λe=>ea c4 m' (by rw[ae,e])
  |region id ops ajJ=>
   cases ajJ with
   |false=>simp only[JX]at U;obtain⟨⟨fr,dG⟩,ab,aa⟩:=cL U;cases aa;refine wpIn_region ?_;have:=Qm (X:=jA Y n B aq dN b6 ro) (G:=Y.G) (pr:=Y.pr) (D0:=D0) (n0:=n0) aP j4 mB ops (λe a w=>e=zO .normal/\lr (jA Y n B aq dN b6 ro) Y.G Y.pr D0 n0 fr dG a w) (λa w h=>⟨rfl,h⟩) ops.toList 0 (by simp) (H3 a5) ab ap;have ew:wpOpsIn (gR (jA Y n B aq dN b6 ro)) 0 Y.P ops (λe a w=>e=zO .normal/\lr (jA Y n B aq dN b6 ro) Y.G Y.pr D0 n0 fr dG a w) (List.range' 0 ops.toList.length) a w:=this;rw[Ly];simpa using ew
   |true=>simp only[JX]at U;obtain⟨⟨fr,dG⟩,ab,aa⟩:=cL U;cases aa;exact aiN (X:=jA Y n B aq dN b6 ro) (G:=Y.G) (pr:=Y.pr) (D0:=D0) (n0:=n0) aP j4 mB e8 a5 ab (λa w h=>⟨rfl,h⟩) ap
  |scope c=>
   simp only[hQ]at a5;have step:∀ (k:Nat) (x:Code) (fr:be al) (dG:bo) (cg:Act) (iM:World),hQ n x=true->Gy (jx Y f) iC n c (k+1) x fr dG=some (ex,c4,m')->lr (jA Y n B aq dN b6 ro) Y.G Y.pr D0 n0 fr dG cg iM ->
     x.wpIn (gR (jA Y n B aq dN b6 ro)) 0 Y.P (λe bX w'=>match e with
      | .goto l=>∃ a6 u' m2,findLabel c l=some a6/\Gy (jx Y f) iC n c k a6 u' m2=some (ex,c4,m')/\lr (jA Y n B aq dN b6 ro) Y.G Y.pr D0 n0 u' m2 bX w'| e=>e=zO ex/\lr (jA Y n B aq dN b6 ro) Y.G Y.pr D0 n0 c4 m' bX w') cg iM:=λk x fr dG cg iM ab aa gT=>by
    have ae:(match jx Y f iC n x fr dG with
     |some (.goto l,aj,m)=>b4 (findLabel c l) none λa6=>Gy (jx Y f) iC n c k a6 aj m
     |r=>r)=some (ex,c4,m'):=aa
    split at ae;·rename_i l u' m2 he;obtain⟨a6,vC,aR⟩:=cL ae;refine wpIn_mono (aN _ _ _ _ _ _ _ _ he ab B aq dN b6 ro D0 n0 cg iM kR gT) ?_;rintro e dv kX⟨rfl,ko⟩;exact⟨a6,u',m2,vC,aR,ko⟩
    ·rename_i ea;refine wpIn_mono (aN _ _ _ _ _ _ _ _ ae ab B aq dN b6 ro D0 n0 cg iM kR gT) ?_;rintro e dv kX⟨rfl,ko⟩;cases ex with
     |goto l=>exact(ea l c4 m' ae).elim| exit j=>exact⟨rfl,ko⟩| normal=>exact⟨rfl,ko⟩| ret=>exact⟨rfl,ko⟩
   let J (l k:Nat) (a:Act) (w:World):Prop:=∃ a6 fr dG,findLabel c l=some a6/\Gy (jx Y f) iC n c k a6 fr dG=some (ex,c4,m')/\lr (jA Y n B aq dN b6 ro) Y.G Y.pr D0 n0 fr dG a w
   cases f with
   |zero=>cases U
   |succ IS=>
    refine SA J (wpIn_mono (step IS c aj m a w a5 U ap) ?_) ?_
    ·intro e cg iM he;cases e with
     |goto l=>exact⟨IS,he⟩| _=>exact he
    ·rintro l k cg iM⟨a6,fr,dG,vC,aa,gT⟩;cases k with
     |zero=>cases aa
     |succ k=>
      refine⟨a6,vC,wpIn_mono (step k a6 fr dG cg iM (QD a5 vC) aa gT) ?_⟩;intro e dv kX he;cases e with
      |goto dg=>exact⟨k,Cd k,he⟩| _=>exact he
  |rangeFunc x ps fm body=>exact ajv aP c6 mP aN U a5 kR ap
def reckon(aP:cY Y.P Y.E)(c6:wL Y.P)(mP:x0 Y)(e8:Y.P.follows .mixedOrders=true){f g:Nat}(h:sB Y (jx Y f) g args m=some (v,m'))(hu:bM D args us)(hm:df Y D m I M) : Spec Y.P g us I M λr I' M'=>∃ br,D.ext br m.n/\aU br v r/\df Y br m' I' M':=
 YC aP c6 mP (ajH aP c6 mP e8 f f (b1 _)) h hu hm
end
def YY{w:World}(h:ef I M w)(U:ef I' M' w')(aa:Kept I [] w I' M' w') :
  ef I' (M'++M) w'/\Kept I M w I' (M'++M) w'/\∀ x∈M',∀ y∈M,x.num≠y.num:=by
 have aO:∀ x∈M,x.num<w.heap.size:=λx ab=>(lv.1 (h.m x ab)).1;have cI:∀ x∈M',w.heap.size<=x.num:=λx ab=>by
  rcases aa.vk x ab with⟨y,aG,_⟩ | h;·cases aG
  ·exact h
 have bu:∀ x∈M',∀ y∈M,x.num≠y.num:=λx ab y aG e=>by have:=aO y aG;have:=cI x ab;omega
 refine⟨⟨U.i,λx ab=>?_,λx ab=>?_,?_⟩,⟨aa.le,aa.tR,λx ab=>?_,λb ag _=>aa.c2 b ag (by simp),aa.out,aa.sz⟩,bu⟩
 ·rcases dW.1 ab with ab | ab
  ·exact U.m x ab
  ·rw[aa.c2 x.num (aO x ab) (by simp)];exact h.m x ab
 ·rcases dW.1 ab with ab | ab
  ·exact U.d x ab
  ·cases he:I' x.num with
   |none=>rfl
   |some o=>
    rcases aa.tR _ _ he with ae | ae;·rw[h.d x ab]at ae;cases ae
    ·have:=aO x ab;omega
 ·rw[fC,x'];refine⟨U.cn,h.cn,λa ax b ag e=>?_⟩;obtain⟨x,ab,rfl⟩:=dp.1 ax;obtain⟨y,aG,rfl⟩:=dp.1 ag;exact bu x ab y aG e
 ·rcases dW.1 ab with ab | ab
  ·exact .inr (cI x ab)
  ·exact .inl ⟨x,ab,rfl⟩
def Spec.frame{P:Program}{f:Nat}{args:List Value}(h:Spec P f args I [] Q):Spec P f args I M λr I' mA=>∃ M',mA=M'++M/\(∀ x∈M',∀ y∈M,x.num≠y.num)/\(∀ b o,I b=some o->I' b=some o)/\Q r I' M':=by
 have aq:∀ {w:World},ef I M w->ef I [] w:=λhw=>⟨hw.i,by simp,by simp,by simp⟩;rcases h with⟨U,aa⟩ | h
 ·refine .inl ⟨U,λw hw=>?_⟩;refine(aa w (aq hw)).mono ?_;rintro e w'⟨v,I',M',aC,ay,bf,b3⟩;obtain⟨aV,aX,bq⟩:=YY hw bf b3;exact⟨v,I',M'++M,aC,⟨M',rfl,bq,b3.le,ay⟩,aV,aX⟩
 ·refine .inr λw hw=>?_;obtain⟨v,w',I',M',aC,ay,bf,b3⟩:=h w (aq hw);obtain⟨aV,aX,bq⟩:=YY hw bf b3;exact⟨v,w',I',M'++M,aC,⟨M',rfl,bq,b3.le,ay⟩,aV,aX⟩
mutual
def jB(k:Nat):al->al
 | .p id off=>.p (Nat.add id k) off| .sl id off n c=>.sl (Nat.add id k) off n c| .sx id off e n=>.sx (Nat.add id k) off e n| .m id=>.m (Nat.add id k)| .y id=>.y (Nat.add id k)| .f g l r=>.f g (qI k l) (qI k r)| .Gl t v=>.Gl t (jB k v)| .t l=>.t (qI k l)| .a l=>.a (qI k l)| .b x=>.b x| .i a n=>.i a n| .s l=>.s l| .pn=>.pn| .g n off=>.g n off| .sn=>.sn| .gs n off a c=>.gs n off a c| .so=>.so| .mn=>.mn| .fn=>.fn| .ni=>.ni
def qI(k:Nat):List al->List al
 |[]=>[]| v::l=>jB k v::qI k l
end
section
mutual
def D5{D0 D:bH}{k:Nat}(dr:∀ id a,D0 id=some a->D (Nat.add id k)=some a):∀ (v:al) {u:Value},aU D0 v u->aU D (jB k v) u
 | .p id off,u,h=>by simp only[aU,jB]at h |-;obtain⟨a,ax,h⟩:=h;exact⟨a,dr _ _ ax,h⟩
 | .sl id off n c,u,h=>by simp only[aU,jB]at h |-;obtain⟨a,ax,h⟩:=h;exact⟨a,dr _ _ ax,h⟩
 | .sx id off e n,u,h=>by simp only[aU,jB]at h |-;obtain⟨a,ax,h⟩:=h;exact⟨a,dr _ _ ax,h⟩
 | .m id,u,h=>by simp only[aU,jB]at h |-;obtain⟨a,ax,h⟩:=h;exact⟨a,dr _ _ ax,h⟩
 | .y id,u,h=>by simp only[aU,jB]at h |-;obtain⟨a,ax,h⟩:=h;exact⟨a,dr _ _ ax,h⟩
 | .f g l r,u,h=>by simp only[aU,jB]at h |-;obtain⟨vs,ws,U,aa,h⟩:=h;exact⟨vs,ws,Hk dr l U,Hk dr r aa,h⟩
 | .Gl t v,u,h=>by simp only[aU,jB]at h |-;obtain⟨x,U,h⟩:=h;exact⟨x,D5 dr v U,h⟩
 | .t l,u,h=>by simp only[aU,jB]at h |-;obtain⟨x,U,h⟩:=h;exact⟨x,Hk dr l U,h⟩
 | .a l,u,h=>by simp only[aU,jB]at h |-;obtain⟨x,U,h⟩:=h;exact⟨x,Hk dr l U,h⟩
 | .b x,u,h=>by simpa only[aU,jB]using h
 | .i a n,u,h=>by simpa only[aU,jB]using h
 | .s l,u,h=>by simpa only[aU,jB]using h
 | .pn,u,h=>by simpa only[aU,jB]using h
 | .g n off,u,h=>by simpa only[aU,jB]using h
 | .sn,u,h=>by simpa only[aU,jB]using h
 | .gs n off a c,u,h=>by simpa only[aU,jB]using h
 | .so,u,h=>by simpa only[aU,jB]using h
 | .mn,u,h=>by simpa only[aU,jB]using h
 | .fn,u,h=>by simpa only[aU,jB]using h
 | .ni,u,h=>by simpa only[aU,jB]using h
def Hk{D0 D:bH}{k:Nat}(dr:∀ id a,D0 id=some a->D (Nat.add id k)=some a):∀ (l:List al) {us:List Value},bM D0 l us->bM D (qI k l) us
 |[],us,h=>by simpa only[bM,qI]using h
 |v::l,us,h=>by simp only[bM,qI]at h |-;obtain⟨x,xs,U,aa,h⟩:=h;exact⟨x,xs,D5 dr v U,Hk dr l aa,h⟩
end
end
inductive va where
 |cells(l:List al)(T:Nat)| map (es:List (al×al))
noncomputable def Hl:fW->Option va
 | .cells cs T fh=>cs.Di 0 fh λl=>some (.cells l T)
 | .map es=>some (.map es)| _=>none
noncomputable def readAll(t:be fW):Nat->Nat->Option (List va)
 |_,0=>some []| id,n+1=>b4 (t.get id) none λe=>b4 (Hl e) none λs=>b4 (readAll t (Nat.add id 1) n) none λl=>some (s::l)
def QM(k:Nat):List (al×al)->List (al×al)
 |[]=>[]| p::l=>(jB k p.1,jB k p.2)::QM k l
noncomputable def va.iD(k:Nat):va->fW
 | .cells l T=>be.xF (qI k l) .nil 0 λcs=>.cells cs T l.length
 | .map es=>.map (QM k es)
noncomputable def KQ{R:Type}(k:Nat):List va->Nat->be fW->(be fW->R)->R
 |[],_,t,K=>K t| s::l,id,t,K=>t.nl (some (s.iD k)) id λt=>KQ k l (Nat.add id 1) t K
noncomputable def QN(v:al)(L:List va)(m:bo):Option (al×bo):=rC m.n λn=>rC (Nat.add n L.length) λfA=>KQ n L n m.t λt=>some (jB n v,⟨t,fA⟩)
def YZ{t:be fW}:∀ {n id:Nat} {L:List va},readAll t id n=some L->L.length=n/\∀ j s,L[j]?=some s->∃ e,t.get (id+j)=some e/\Hl e=some s
 |0,id,L,h=>by cases h;exact⟨rfl,by simp⟩
 |n+1,id,L,h=>by
  unfold readAll at h;obtain⟨e,U,h⟩:=cL h;obtain⟨s,aa,h⟩:=cL h;obtain⟨l,ae,h⟩:=cL h;cases h;obtain⟨aV,aX⟩:=YZ ae;refine⟨by simp[aV],λj cB ak=>?_⟩;cases j with
  |zero=>cases ak;exact⟨e,U,aa⟩| succ j=>obtain⟨a4,db,cR⟩:=aX j cB (by simpa using ak);refine⟨a4,?_,cR⟩;rw[<-db];congr 1;show id+(j+1)=id+1+j;omega
def Y0(k:Nat):∀ (L:List va) (id:Nat) (t:be fW),∃ e9:be fW,(∀ {R:Type} (K:be fW->R),KQ k L id t K=K e9) /\ ∀ j e,e9.get j=some e->(id<=j/\∃ s,L[j-id]?=some s/\e=s.iD k)\/((j<id\/id+L.length<=j)/\t.get j=some e)
 |[],id,t=>⟨t,λK=>rfl,λj e h=>.inr ⟨by simp;omega,h⟩⟩
 |s::L,id,t=>by
  obtain⟨t1,U,aa⟩:=be.oJ (some (s.iD k)) t id;obtain⟨e9,ae,aR⟩:=Y0 k L (id+1) t1;refine⟨e9,λK=>?_,λj e h=>?_⟩;·unfold KQ;rw[U];exact ae K
  ·rcases aR j e h with⟨aV,cB,aX,bq⟩ | ⟨aV,aX⟩
   ·refine .inl ⟨by omega,cB,?_,bq⟩;rw[show j-id=(j-(id+1))+1 by omega];simpa using aX
   ·rcases aa j e aX with⟨rfl,bq⟩ | ⟨bq,eK⟩
    ·refine .inl ⟨b1 _,s,by simp,?_⟩;cases bq;rfl
    ·refine .inr ⟨?_,eK⟩;simp only[dL];omega
def ajK{k:Nat}(dr:∀ id a,D0 id=some a->D (Nat.add id k)=some a){es:List (al×al)}{l:List MapEntry}(h:qA D0 es l):qA D (QM k es) l:=by
 induction h with
 |nil=>exact .nil| cons af ai t bc=>exact .cons (D5 dr _ af) (D5 dr _ ai) bc
def Y1{k:Nat}:∀ {l:List al} {i:Nat} {v:al},(qI k l)[i]?=some v->∃ wM,l[i]?=some wM/\v=jB k wM
 |[],i,v,h=>by simp[qI]at h
 |x::l,0,v,h=>by simp only[qI,List.getElem?_cons_zero,lx]at h;exact⟨x,rfl,h.symm⟩
 |x::l,i+1,v,h=>by simp only[qI,HN]at h;simpa using Y1 h
def ajL{k:Nat}(dr:∀ id a,D0 id=some a->D (Nat.add id k)=some a)(bb:∀ x∈M,x∈M'){a:Loc}{e:fW}{s:va}(h:lh D0 E M a e)(ao:Hl e=some s):lh D E M' a (s.iD k):=by
 cases h with
 | @cells cs T fh arr aq U aa ae aR bn=>
  unfold Hl at ao;obtain⟨l,aV,aX,bq⟩:=be.Dz cs fh 0 _ _ ao;cases bq;obtain⟨e9,db,cR⟩:=be.xL (qI k l) (.nil:be al) 0;show lh D E M' a (be.xF (qI k l) .nil 0 λcs=>fW.cells cs T l.length);rw[db,aV];refine .cells arr aq (bb _ U) aa (λi v hi aB=>?_) aR bn;rcases cR i v aB with⟨_,h⟩ | ⟨_,h⟩;·obtain⟨wM,aC,rfl⟩:=Y1 (by simpa using h);have:=aX i hi;rw[dK,aC]at this;obtain⟨x,f1,f2⟩:=ae i wM hi this;exact⟨x,f1,D5 dr _ f2⟩
  ·cases h
 |map l clock U aa=>cases ao;exact .map l clock (bb _ U) (ajK dr aa)| loop L U aa=>cases ao| done L U aa ae=>cases ao
def ajM(aP:cY Y.P Y.E)(c6:wL Y.P)(e8:Y.P.follows .mixedOrders=true){f g:Nat}{xZ:bo}{wM:al}{L:List va}(aq:sB ⟨Y.P,Y.E,λ_=>none,λ_ _ _=>none⟩ (jx ⟨Y.P,Y.E,λ_=>none,λ_ _ _=>none⟩ f) g args ⟨.nil,0⟩=some (wM,xZ))(bQ:readAll xZ.t 0 xZ.n=some L)(ed:∀ D us,bM D args us->bM (λ_=>none) args us)(h:QN wM L m=some (v,m'))(hu:bM D args us)(hm:df Y D m I M) :
  Spec Y.P g us I M λr I' M'=>∃ br,D.ext br m.n/\aU br v r/\df Y br m' I' M':=by
 have mP:x0 ⟨Y.P,Y.E,λ_=>none,λ_ _ _=>none⟩:=λg vs m v m' h=>by cases h
 have x1:df ⟨Y.P,Y.E,λ_=>none,λ_ _ _=>none⟩ (λ_=>none) ⟨.nil,0⟩ I []:=⟨λid e a h bh=>(by cases bh),λid ih e a4 a bX h U bh=>(by cases bh),λid a h=>(by cases h),λg cs h=>(by cases h)⟩;have ap:=(reckon (Y:=⟨Y.P,Y.E,λ_=>none,λ_ _ _=>none⟩) aP c6 mP e8 aq (ed D us hu) x1).frame (M:=M);refine Spec.rN ap ?_;rintro r I' mA⟨M0,rfl,bu,bk,D0,-,ai,D6⟩;unfold QN at h;rw[O7,O7]at h;obtain⟨e9,U,aa⟩:=Y0 m.n L m.n m.t;rw[U]at h;cases h;obtain⟨aV,aX⟩:=YZ bQ;let br:bH:=λid=>if id<m.n then D id else D0 (id-m.n)
 have dr:∀ id a,D0 id=some a->br (Nat.add id m.n)=some a:=λid a ax=>by show(if id+m.n<m.n then D (id+m.n)else D0 (id+m.n-m.n))=some a;rw[cG (by omega),Nat.add_sub_cancel,ax]
 have z4:D.le br:=λid a ax=>by show(if id<m.n then D id else D0 (id-m.n))=some a;rw[dd (hm.jy _ _ ax),ax]
 have lo:∀ id,id<m.n->br id=D id:=λid hi=>dd hi;have dw:∀ id,m.n<=id->br id=D0 (id-m.n):=λid hi=>cG (by omega);have src:∀ id e a,e9.get id=some e->br id=some a->(m.n<=id/\∃ s cd,e=s.iD m.n/\xZ.t.get (id-m.n)=some cd/\Hl cd=some s/\D0 (id-m.n)=some a)\/(id<m.n/\m.t.get id=some e/\D id=some a):=λid e a he ax=>by
  rcases aa id e he with⟨db,s,cR,eB⟩ | ⟨db,cR⟩;·obtain⟨cd,ha,wa⟩:=aX _ _ cR;rw[dK]at ha;rw[dw _ db]at ax;exact .inl ⟨db,s,cd,eB,ha,wa,ax⟩
  ·rcases Nat.lt_or_ge id m.n with aO | cI
   ·rw[lo _ aO]at ax;exact .inr ⟨aO,cR,ax⟩
   ·rw[dw _ cI]at ax;have:=D6.jy _ _ ax;omega
 refine⟨br,λid hi=>lo id hi,D5 dr _ ai,⟨λid e a he ax=>?_,λid ih e a4 a bX he r6 ax zs ag=>?_,λid a ax=>?_,hm.qy.mono bk⟩⟩
 ·rcases src id e a he ax with⟨db,s,cd,rfl,cR,eB,ha⟩ | ⟨db,cR,eB⟩
  ·exact ajL dr (λx ab=>n9 _ ab) (D6.iD _ _ _ cR ha) eB
  ·exact(hm.iD _ _ _ cR eB).mono z4 λx ab _=>r3 _ ab
 ·rcases src id e a he ax with⟨db,s,cd,rfl,cR,eB,ha⟩ | ⟨db,cR,eB⟩
  ·rcases src ih a4 bX r6 zs with⟨hY,cB,ajN,rfl,hD,h',QO⟩ | ⟨hY,hD,h'⟩
   ·have:=D6.inj _ _ _ _ _ _ cR hD ha QO ag;omega
   ·obtain⟨x,ab,pL⟩:=D6.aQ cR ha;obtain⟨y,aG,QP⟩:=hm.aQ hD h';exact(bu x ab y aG (pL.trans (ag.trans QP.symm))).elim
  ·rcases src ih a4 bX r6 zs with⟨hY,cB,ajN,rfl,hD,h',QO⟩ | ⟨hY,hD,h'⟩
   ·obtain⟨x,ab,pL⟩:=D6.aQ hD QO;obtain⟨y,aG,QP⟩:=hm.aQ cR eB;exact(bu x ab y aG (pL.trans (ag.symm.trans QP.symm))).elim
   ·exact hm.inj _ _ _ _ _ _ cR hD eB h' ag
 ·show id<m.n+L.length;rcases Nat.lt_or_ge id m.n with aO | cI
  ·omega
  ·rw[dw _ cI]at ax;have:=D6.jy _ _ ax;omega
open Go Go.Proofs
def ajO(k:Nat):liesAt Tryz.prog Tryz.prog.depth 206 ((k+1)*2/Tryz.prog.cellsOf 206) 0 206 1=true:=by
 have aa:Tryz.prog.cellsOf 206=2:=by kernel_rfl
 have ah:Tryz.prog.depth=(Tryz.prog.depth-1)+1:=by kernel_rfl
 have m6:sameLayout Tryz.prog Tryz.prog.depth 206 206=true:=by kernel_rfl
 have ao:rowAt Tryz.prog (sameLayout Tryz.prog Tryz.prog.depth · 206) Tryz.prog.depth 206 (k+1) 0 1=true:=by
  generalize aF:(sameLayout Tryz.prog Tryz.prog.depth · 206)=f;have yw:f 206=true:=by rw[<-aF];exact m6
  rw[ah];unfold rowAt;simp only[aa,yw];simp
 rw[aa,Nat.mul_div_cancel _ (by decide:0<2)];rw[ah];unfold liesAt;rw[ao];rfl
def ajP(a9 post:List aE)(b:Nat)(v:Value)(k:Nat)(a6:List Value)(ao:a6.length=2*k) :
  Spec Tryz.prog 179 [ptr b] I (a9++⟨b,.cells (.pointer none::v::a6).toArray 206 (0,0)⟩::post) λr I' M'=>r=.tuple #[]/\I'=I/\M'=a9++⟨b,.cells (bO (.pointer none::v::a6) 0 [ptr b]).toArray 206 (0,0)⟩::post:=by
 obtain⟨inf,z,hi,eA,_⟩:=(aT 206 _ rfl).inf;refine bU [] aT Tryz.func179 rfl rfl rfl ?_;intro B aq;have hm:∀ {o:Obj},(⟨b,o⟩:aE)∈a9++⟨b,o⟩::post:=fun {o}=>dW.2 (.inr (.head _));have cr:(Value.pointer none::v::a6).toArray.size=(k+1)*2:=by simp[ao];omega
 have aw:liesAt Tryz.prog Tryz.prog.depth 206 ((Value.pointer none::v::a6).toArray.size/Tryz.prog.cellsOf 206) 0 206 1=true:=by rw[cr];exact ajO k
 refine aD.mk [.pointer none] (dP (cs:=.pointer none::v::a6) (k:=0) (n:=1) (T:=206) hm (by simp)) ?_;refine .other (bp.IJ aT rfl (by simp) rfl rfl rfl rfl ?_);refine aI.mk (λ_=>?_) (λh=>by cases h);refine bp.conv rfl (by simp) rfl (λw hw=>Lib.run_to_unsafe (t:=206) (e:=206) w ⟨b,0,none⟩ (by kernel_rfl) (by kernel_rfl) (j:=inf) (cells:=(Value.pointer none::v::a6).toArray.size) hi (by rw[eA];decide) (IM hw hm) (by rw[cr];show 0<_;omega)) ?_;refine aZ.mk (a9++⟨b,.cells (.pointer none::v::a6).toArray 206 (0,0)⟩::post) [] _ (by simp) (MF _) ?_;rintro v I' M' -⟨rfl,rfl,rfl⟩;refine bp.conv rfl (by simp) rfl (λw hw=>Lib.run_from_unsafe (u:=206) (e:=206) w ⟨b,0,none⟩ (by kernel_rfl) (by kernel_rfl) (j:=inf) (cells:=(Value.pointer none::v::a6).toArray.size) hi (IM hw (dW.2 (.inl hm))) aw) ?_;refine cV.mk a9 post _ _ (c8 _) rfl (by rw[cr];show 0+0+1<=(k+1)*2;omega) rfl ?_;exact⟨_,_,.refl,rfl,rfl,rfl⟩
def ajQ(bb:(⟨b,.cells arr T (0,0)⟩:aE)∈M)(aq:arr[0]?=some (ptr b)) :
  Spec Tryz.prog 179 [ptr b] I M λr I' M'=>r=.tuple #[]/\I'=I/\M'=M:=by
 refine bU [] aT Tryz.func179 rfl rfl rfl ?_;intro B mX;have ao:bD I M ((⟨b,0,none⟩:Addr).add 0) 1 [ptr b]:=by
  obtain⟨l⟩:=arr;cases l with
  |nil=>simp at aq| cons x l=>simp only[Af,List.getElem?_cons_zero,lx]at aq;subst aq;exact dP (cs:=ptr b::l) (k:=0) (n:=1) bb (by simp)
 refine aD.mk [ptr b] ao ?_;refine .other (bp.IJ aT rfl (by simp) rfl rfl rfl rfl ?_);refine aI.mk (λh=>by cases h) (λ_=>?_);refine aD.mk [ptr b] ao ?_;refine .other (bp.To aT rfl (by simp) rfl rfl rfl rfl rfl ?_);refine aI.mk (λh=>by cases h) (λ_=>?_);exact⟨_,_,.refl,rfl,rfl,rfl⟩
def ajR{id off:Nat}{cs:be al}{fh:Nat}{a:Loc}{post:List aE}(hm:df Y D m I M)(aB:m.t.get id=some (.cells cs T fh))(ax:D id=some a)(ar:a.o=0)(bZ:M=a9++⟨a.b,.cells arr T (0,0)⟩::post)(cr:a.o+fh<=arr.size)(aN:∀ i v,i<fh->cs.get i=some v->∃ x,arr[a.o+i]?=some x/\aU D v x)(af:∀ i,Y.E T=some i->arr.size=a.o+a.c*i.size)(e8:a.c<=maxLen)
  {l:List al} (aw:bM D l vs) {K:bo->Option R} {r:R} (h:xJ m (.p id off) l K=some r) :
  ∃ m',K m'=some r/\m'.n=m.n/\off+vs.length<=arr.size/\df Y D m' I (a9++⟨a.b,.cells (bO arr.toList off vs).toArray T (0,0)⟩::post):=by
 unfold xJ at h;simp only[aB]at h;cases ag:(Nat.ble (Nat.add off l.length) fh&&l.all al.one)with
 |false=>rw[ag]at h;cases h
 |true=>
  rw[ag]at h;simp only[bg]at h;rw[cA]at ag;have uX:off+l.length<=fh:=bN ag.1;obtain⟨cs',U,aa⟩:=be.xL l cs off;rw[U]at h;obtain⟨e9,ae,aR⟩:=be.oJ (some (fW.cells cs' T fh)) m.t id;rw[ae]at h;have bY:=aw.len;have fP:off+vs.length<=arr.size:=by omega
  refine⟨_,h,rfl,fP,?_⟩;have fx:∀ x∈M,x.num≠a.b->x∈a9++⟨a.b,.cells (bO arr.toList off vs).toArray T (0,0)⟩::post:=λx ab an=>by
   rw[bZ]at ab;rcases dW.1 ab with ab | ab;·exact dW.2 (.inl ab)
   ·rcases et.1 ab with rfl | ab
    ·exact(an rfl).elim
    ·exact dW.2 (.inr (nX _ ab))
  refine hm.step (λi e hi=>(aR i e hi).imp (λq=>⟨q.1,oK q.2⟩) λq=>q) ax (bH.le_refl D) (λ_ _=>rfl) hm.jy (λ_ _ h=>h) (λi e bX bu hi nq x ab an=>fx x ab ?_) ?_ ?_;·rw[an];exact λag=>bu (hm.inj _ _ _ _ _ _ hi aB nq ax ag)
  ·have GJ:(bO arr.toList off vs).length=arr.size:=by rw[Pn (by simpa using fP)];simp
   refine .cells (bO arr.toList off vs).toArray ar (by simp) (by simp[GJ];exact cr) (λi v hi GK=>?_) (λi hi=>by simp[GJ];exact af i hi) e8;rw[ar,dK];simp only[Af];rw[WZ (by simpa using fP)];rcases aa i v GK with⟨aV,aX⟩ | ⟨aV,aX⟩;·have aO:=(iY.1 aX).1;rw[dd ⟨aV,by omega⟩];exact aw.get aX
   ·rw[cG (by omega)];have:=aN i v hi aX;rw[ar,dK]at this;simpa using this
  ·intro i e bX bu hi nq ag;exact bu (hm.inj _ _ _ _ _ _ hi aB nq ax ag)
noncomputable def QQ(m:bo)(vs:List al):Option (al×bo):=match vs with
 |[.p id 0]=>(match m.t.get id with
  |some (.cells cs T fh)=>b7 (Nat.beq T 206&&Nat.ble 2 fh) (match cs.get 0 with
   |some .pn=>xJ m (.p id 0) [.p id 0] λm=>some (.t [],m)
   |some (.p ih 0)=>b7 (Nat.beq id ih) (some (.t [],m)) none| _=>none) none
  |_=>none)
 |_=>none
def ajS(yP:Y.P=Tryz.prog)(ajT:Y.E=nI){vs:List al}(h:QQ m vs=some (v,m'))(hu:bM D vs us)(hm:df Y D m I M) :
  Spec Y.P 179 us I M λr I' M'=>∃ br,D.ext br m.n/\aU br v r/\df Y br m' I' M':=by
 unfold QQ at h;split at h
 ·rename_i id;obtain⟨x,xs,ab,an,rfl⟩:=hu.kf;obtain rfl:=an.nm;obtain⟨a,ax,rfl⟩:=ab.ptr;split at h
  ·rename_i cs T fh aB;obtain⟨U,az⟩:=gF h;clear h;rw[cA]at U;obtain⟨bS,uX⟩:=U;obtain rfl:=cM bS;have uX:=bN uX;obtain⟨arr,ar,bb,aw,aN,af,e8⟩:=hm.iD _ _ _ aB ax;have cr:=af _ (by rw[ajT];rfl);have cr:arr.size=a.c*2:=by rw[cr,ar,dK]
   have aK:Value.pointer (some ⟨a.b,a.o+0,none⟩)=ptr a.b:=by rw[ar];rfl
   split at az
   ·rename_i Cz;obtain⟨vA,fE,BG⟩:=aN 0 _ (by omega) Cz;obtain⟨a9,post,bZ⟩:=tB bb;obtain⟨dG,aa,ae,aR,bn⟩:=ajR hm aB ax ar bZ aw aN af e8 (l:=[.p id 0]) (vs:=[ptr a.b]) (by simp only[bM,aU];exact⟨_,_,⟨a,ax,aK.symm⟩,rfl,rfl⟩) az;cases aa;rw[aK,yP,bZ];obtain⟨l⟩:=arr;have ajU:vA=.pointer none:=by simpa only[aU]using BG
    rw[ar]at fE
    match l,fE,cr with
    |[],fE,_=>simp at fE| [_],_,cr=>simp at cr;omega
    |y::w::a6,fE,cr=>
     have aG:y=.pointer none:=by simpa[ajU]using fE
     subst aG;have hN:a6.length=2*(a.c-1):=by simp at cr;omega
     refine Spec.rN (ajP a9 post a.b w (a.c-1) a6 hN) ?_;rintro r I' M'⟨rfl,rfl,rfl⟩;exact⟨D,bH.oM,by simp only[aU,bM];exact⟨[],rfl,rfl⟩,bn⟩
   ·rename_i ih Cz;obtain⟨aa,C2⟩:=gF az;obtain rfl:=cM aa;cases C2;obtain⟨vA,fE,BG⟩:=aN 0 _ (by omega) Cz;obtain⟨bX,zs,rfl⟩:=BG.ptr;rw[ax]at zs;cases zs;rw[aK]at fE |-;rw[yP];refine Spec.rN (ajQ bb (by rw[<-fE,ar])) ?_;rintro r I' M'⟨rfl,rfl,rfl⟩;exact⟨D,bH.oM,by simp only[aU,bM];exact⟨[],rfl,rfl⟩,hm⟩
   ·cases az
  ·cases h
 ·cases h
def kL(I:aH):List aE->aH
 |[]=>I| x::l=>ins (kL I l) x.num x.obj
def BT{I:aH}:∀ {M:List aE} {b:Nat} {o:Obj},kL I M b=some o->I b=some o\/∃ x∈M,x.num=b/\x.obj=o
 |[],b,o,h=>.inl h
 |x::l,b,o,h=>by
  unfold kL ins at h;by_cases e:b=x.num;·subst e;simp only[qS,bg,lx]at h;exact .inr ⟨x,by simp,rfl,h⟩
  ·simp only[gS e,bd]at h;rcases BT h with h | ⟨y,U,aa,ae⟩
   ·exact .inl h
   ·exact .inr ⟨y,by simp[U],aa,ae⟩
def QR{I:aH}:∀ {M:List aE} (an:(M.map (·.num)).Nodup) {x:aE},x∈M->kL I M x.num=some x.obj
 |y::l,an,x,h=>by
  simp only[ek,mo]at an;rcases et.1 h with rfl | h;·unfold kL ins;simp only[qS,bg]
  ·have e:x.num≠y.num:=λe=>an.1 (dp.2 ⟨x,h,e⟩);unfold kL ins;simp only[gS e,bd];exact QR an.2 h
def KR{I:aH}:∀ {M:List aE} (ah:∀ x∈M,I x.num=none) {b:Nat} {o:Obj},I b=some o->kL I M b=some o
 |[],ah,b,o,h=>h
 |y::l,ah,b,o,h=>by
  have e:b≠y.num:=λe=>by have:=ah y (by simp);rw[<-e,h]at this;cases this
  unfold kL ins;simp only[gS e,bd];exact KR (λx ab=>ah x (by simp[ab])) h
def Y2(an:(M.map (·.num)).Nodup)(ah:∀ x∈M,I x.num=none)(h:il I M b o):kL I M b=some o:=by
 rcases h with h | ⟨x,U,rfl,rfl⟩
 ·exact KR ah h
 ·exact QR an U
structure wN(I:aH)(M:List aE)(J:aH):Prop where
 kn:∀ b o,il I M b o->J b=some o
 inv:∀ b o,J b=some o->il I M b o
def wN.le(h:wN I M J):∀ b o,I b=some o->J b=some o:=λb o ag=>h.kn b o (.inl ag)
def Y3{w:World}(U:ef I' M' w')(aa:Kept I [] w I' M' w'):wN I' M' (kL I' M')/\ef (kL I' M') [] w'/\Kept I [] w (kL I' M') [] w':=by
 refine⟨⟨λb o h=>Y2 U.cn U.d h,λb o h=>?_⟩,⟨λb o h=>?_,by simp,by simp,by simp⟩,⟨λb o h=>KR U.d (aa.le _ _ h),λb o h=>?_,by simp,aa.c2,aa.out,aa.sz⟩⟩
 ·rcases BT h with h | ⟨x,aV,aX,bq⟩
  ·exact .inl h
  ·exact .inr ⟨x,aV,aX,bq⟩
 ·rcases BT h with h | ⟨x,aV,rfl,rfl⟩
  ·exact U.i _ _ h
  ·exact U.m _ aV
 ·rcases BT h with h | ⟨x,aV,rfl,rfl⟩
  ·exact aa.tR _ _ h
  ·rcases aa.vk _ aV with⟨y,aG,_⟩ | h
   ·cases aG
   ·exact .inr h
def Spec.kL{P:Program}{f:Nat}{args:List Value}(h:Spec P f args I [] Q):Spec P f args I [] λr J mA=>mA=[]/\(∀ b o,I b=some o->J b=some o)/\∃ I' M',Q r I' M'/\wN I' M' J:=by
 rcases h with⟨U,aa⟩ | h
 ·refine .inl ⟨U,λw hw=>?_⟩;refine(aa w hw).mono ?_;rintro e w'⟨v,I',M',aC,ay,bf,b3⟩;obtain⟨aV,aX,bq⟩:=Y3 bf b3;exact⟨v,_,[],aC,⟨rfl,bq.le,I',M',ay,aV⟩,aX,bq⟩
 ·refine .inr λw hw=>?_;obtain⟨v,w',I',M',aC,ay,bf,b3⟩:=h w hw;obtain⟨aV,aX,bq⟩:=Y3 bf b3;exact⟨v,w',_,[],aC,⟨rfl,bq.le,I',M',ay,aV⟩,aX,bq⟩
noncomputable def BU{α:Type}(l:List α):be α:=be.xF l .nil 0 id
def Y4{l:List α}{i:Nat}{v:α}(h:(BU l).get i=some v):l[i]?=some v:=by
 obtain⟨t,U,aa⟩:=be.xL l (.nil:be α) 0;unfold BU at h;rw[U]at h;rcases aa _ _ h with⟨_,h⟩ | ⟨_,h⟩
 ·simpa using h
 ·cases h
noncomputable def QS:GT:=λg=>b7 (Nat.beq g 0) (some (BU (m0.map (al.i .i64)))) (b7 (Nat.beq g 1) (some (BU (ur.map al.s))) (b7 (Nat.beq g 2) (some (BU [.i .i64 0,.i .i64 1,.s [63],.i .i64 0,.i .i64 (-1),.s [42],.i .i64 1,.i .i64 (-1),.s [43]])) (b7 (Nat.beq g 4) (some (BU (kG.map (al.i .u8)))) none)))
def QT{f:α->al}{h:α->Value}(aF:∀ x D,aU D (f x) (h x)){l:List α}{i:Nat}(ai:(BU (l.map f)).get i=some v):∃ x,(l.map h).toArray[i]?=some x/\∀ D,aU D v x:=by
 have:=Y4 ai;rw[vj]at this;cases ab:l[i]? with
 |none=>rw[ab]at this;cases this| some x=>rw[ab]at this;simp only[ly,lx]at this;subst this;exact⟨h x,by simp[ab],aF x⟩
def Y5(bS:kC I kG):GB QS I:=by
 intro g cs h;unfold QS at h;rw[ke,ke,ke,ke]at h;cases U:Nat.beq g 0 with
 |true=>rw[U,bg]at h;obtain rfl:=cM U;have h:=qi h;subst h;obtain⟨T,f,h⟩:=bS.c;exact⟨_,T,f,h,λi v ai=>QT (f:=al.i .i64) (h:=Value.int .i64) (λx D=>by simp only[aU]) ai⟩
 |false=>
 rw[U,bd]at h;cases aa:Nat.beq g 1 with
 |true=>rw[aa,bg]at h;obtain rfl:=cM aa;have h:=qi h;subst h;obtain⟨T,f,h⟩:=bS.s;exact⟨_,T,f,h,λi v ai=>QT (f:=al.s) (h:=λl=>Value.string (strOf l)) (λx D=>by simp only[aU,strOf]) ai⟩
 |false=>
 rw[aa,bd]at h;cases ae:Nat.beq g 2 with
 |true=>
  rw[ae,bg]at h;obtain rfl:=cM ae;have h:=qi h;subst h;obtain⟨T,f,h⟩:=bS.p;refine⟨_,T,f,h,λi v ai=>?_⟩;have ai:=Y4 ai;rcases i with _ | _ | _ | _ | _ | _ | _ | _ | _ | i
  all_goals first | (cases ai;exact⟨_,rfl,λD=>by simp only[aU]<;>rfl⟩) | (simp at ai)
 |false=>
 rw[ae,bd]at h;cases aR:Nat.beq g 4 with
 |true=>rw[aR,bg]at h;obtain rfl:=cM aR;have h:=qi h;subst h;obtain⟨_,_,T,f,h⟩:=bS.d;exact⟨_,T,f,h,λi v ai=>QT (f:=al.i .u8) (h:=Value.int .u8) (λx D=>by simp only[aU]) ai⟩
 |false=>
 rw[aR,bd]at h;cases h
noncomputable def KS:List UInt8->Nat->Nat->Int
 |[],_,_=>-1| b::l,c,k=>b7 (Nat.beq b.toNat c) (Int.ofNat k) (KS l c (Nat.succ k))
def Y6(c:UInt8):∀ (l:List UInt8) (k:Nat),KS l c.toNat k=if Lib.indexByte l c=-1 then -1 else Lib.indexByte l c+k
 |[],k=>rfl
 |b::l,k=>by
  have cI:=Lib.indexByte_ge l c;unfold KS Lib.indexByte;rw[ke];by_cases h:b=c;·subst h;simp
  ·have U:Nat.beq b.toNat c.toNat=false:=by
    cases ag:Nat.beq b.toNat c.toNat with
    |false=>rfl| true=>exact absurd (UInt8.toNat_inj.1 (cM ag)) h
   have aa:(b == c)=false:=by simpa using h
   rw[U,bd,aa,Y6 c l];simp only[j0,kO];by_cases ae:Lib.indexByte l c=-1;·simp[ae]
   ·have aR:(Lib.indexByte l c == -1)=false:=by simpa using ae
    rw[aR,cG ae];simp only[j0,kO];rw[cG (by omega)];omega
def BV:wL Tryz.prog:=aje (by kernel_rfl)
def BW:Tryz.prog.follows .mixedOrders=true:=by kernel_rfl
noncomputable def Y7:gE:=⟨Tryz.prog,nI,λ_=>none,λ_ _ _=>none⟩
noncomputable def Y8:List va:=[.map [(.i .u8 123,.f 264 [] []),(.i .u8 34,.f 265 [] []),(.i .u8 91,.f 266 [] []),(.i .u8 46,.f 267 [] []),(.i .u8 47,.f 288 [] [.p 1 0]),(.i .u8 38,.f 288 [] [.p 2 0]),(.i .u8 33,.f 288 [] [.p 3 0]),(.i .u8 63,.f 288 [] [.p 4 0]),(.i .u8 42,.f 288 [] [.p 5 0]),(.i .u8 43,.f 288 [] [.p 6 0]),(.i .u8 40,.f 288 [] [.p 7 0]),(.i .u8 41,.f 288 [] [.p 8 0]),(.i .u8 60,.f 269 [] []),(.i .u8 62,.f 288 [] [.p 10 0]),(.i .u8 58,.f 288 [] [.p 11 0]),(.i .u8 65,.f 270 [] []),(.i .u8 66,.f 270 [] []),(.i .u8 67,.f 270 [] []),(.i .u8 68,.f 270 [] []),(.i .u8 69,.f 270 [] []),(.i .u8 70,.f 270 [] []),(.i .u8 71,.f 270 [] []),(.i .u8 72,.f 270 [] []),(.i .u8 73,.f 270 [] []),(.i .u8 74,.f 270 [] []),(.i .u8 75,.f 270 [] []),(.i .u8 76,.f 270 [] []),(.i .u8 77,.f 270 [] []),(.i .u8 78,.f 270 [] []),(.i .u8 79,.f 270 [] []),(.i .u8 80,.f 270 [] []),(.i .u8 81,.f 270 [] []),(.i .u8 82,.f 270 [] []),(.i .u8 83,.f 270 [] []),(.i .u8 84,.f 270 [] []),(.i .u8 85,.f 270 [] []),(.i .u8 86,.f 270 [] []),(.i .u8 87,.f 270 [] []),(.i .u8 88,.f 270 [] []),(.i .u8 89,.f 270 [] []),(.i .u8 90,.f 270 [] []),(.i .u8 95,.f 270 [] []),(.i .u8 97,.f 270 [] []),(.i .u8 98,.f 270 [] []),(.i .u8 99,.f 270 [] []),(.i .u8 100,.f 270 [] []),(.i .u8 101,.f 270 [] []),(.i .u8 102,.f 270 [] []),(.i .u8 103,.f 270 [] []),(.i .u8 104,.f 270 [] []),(.i .u8 105,.f 270 [] []),(.i .u8 106,.f 270 [] []),(.i .u8 107,.f 270 [] []),(.i .u8 108,.f 270 [] []),(.i .u8 109,.f 270 [] []),(.i .u8 110,.f 270 [] []),(.i .u8 111,.f 270 [] []),(.i .u8 112,.f 270 [] []),(.i .u8 113,.f 270 [] []),(.i .u8 114,.f 270 [] []),(.i .u8 115,.f 270 [] []),(.i .u8 116,.f 270 [] []),(.i .u8 117,.f 270 [] []),(.i .u8 118,.f 270 [] []),(.i .u8 119,.f 270 [] []),(.i .u8 120,.f 270 [] []),(.i .u8 121,.f 270 [] []),(.i .u8 122,.f 270 [] [])],.cells [.i .u8 3] 5,.cells [.i .u8 4] 5,.cells [.i .u8 5] 5,.cells [.i .u8 6] 5,.cells [.i .u8 7] 5,.cells [.i .u8 8] 5,.cells [.i .u8 9] 5,.cells [.i .u8 10] 5,.cells [.i .u8 11] 5,.cells [.i .u8 12] 5,.cells [.i .u8 13] 5]
def ajV:(b4 (sB Y7 (jx Y7 100000) 239 [] ⟨.nil,0⟩) none λp=>b4 (readAll p.2.t 0 p.2.n) none λL=>some (p.1,L))=some (al.m 0,Y8):=by kernel_rfl
noncomputable def QU:lP:=λg vs m=>b7 (Nat.beq g 303) (match vs with
 |[.s l,.i .u8 (.ofNat k)]=>b7 (Nat.blt k 256) (some (.i .i64 (KS l k 0),m)) none| _=>none) (b7 (Nat.beq g 219) (match vs with
 |[v]=>some (v,m)| _=>none) (b7 (Nat.beq g 239) (match vs with
 |[]=>QN (.m 0) Y8 m| _=>none) (b7 (Nat.beq g 179) (QQ m vs) none)))
noncomputable def kk:gE:=⟨Tryz.prog,nI,QS,QU⟩
def D7:x0 kk:=by
 intro g vs m v m' h D I M us hu hm;change QU g vs m=some (v,m')at h;unfold QU at h;rw[ke]at h;cases U:Nat.beq g 303 with
 |true=>
  rw[U,bg]at h;obtain rfl:=cM U;split at h
  ·rename_i l k;rw[ke]at h;cases af:Nat.blt k 256 with
   |false=>rw[af]at h;cases h
   |true=>
    rw[af,bg]at h;have kJ:k<256:=Nat.blt_eq ▸ af;cases h;simp only[bM,aU]at hu;obtain⟨x,xs,rfl,⟨y,ic,rfl,rfl,rfl⟩,rfl⟩:=hu;have QV:(UInt8.ofNat k).toNat=k:=by simp;omega
    have:=Tq (I:=I) (M:=M) ⟨l.toArray⟩ (UInt8.ofNat k);rw[QV]at this;refine Spec.rN this ?_;rintro r I' M'⟨rfl,rfl,rfl⟩;refine⟨D,bH.oM,?_,hm⟩;simp only[aU];have:=Y6 (UInt8.ofNat k) l 0;rw[QV]at this;rw[this];split;·rename_i e;simp[e]
    ·simp
  ·cases h
 |false=>
 rw[U,bd,ke]at h;cases aa:Nat.beq g 219 with
 |true=>
  rw[aa,bg]at h;obtain rfl:=cM aa;split at h;·cases h;simp only[bM]at hu;obtain⟨x,xs,hu,rfl,rfl⟩:=hu;refine Spec.rN (MF _) ?_;rintro r I' M'⟨rfl,rfl,rfl⟩;exact⟨D,bH.oM,hu,hm⟩
  ·cases h
 |false=>
 rw[aa,bd,ke]at h;cases ae:Nat.beq g 239 with
 |true=>
  rw[ae,bg]at h;obtain rfl:=cM ae;split at h;·obtain⟨⟨wM,xZ⟩,aR,bn⟩:=cL ajV;obtain⟨L,b2,eh⟩:=cL bn;cases eh;exact ajM (Y:=kk) aT BV BW aR b2 (λD us h=>by simpa only[bM]using h) h hu hm
  ·cases h
 |false=>
 rw[ae,bd,ke]at h;cases aR:Nat.beq g 179 with
 |true=>rw[aR,bg]at h;obtain rfl:=cM aR;exact ajS rfl rfl h hu hm
 |false=>
 rw[aR,bd]at h;cases h
def ajW(bS:kC I kG){f g:Nat}(h:sB kk (jx kk f) g args ⟨.nil,0⟩=some (v,m'))(hu:bM (λ_=>none) args us) :
  Spec Tryz.prog g us I [] λr J mA=>mA=[]/\(∀ b o,I b=some o->J b=some o)/\∃ I' M' br,aU br v r/\df kk br m' I' M'/\wN I' M' J:=by
 have hm:df kk (λ_=>none) ⟨.nil,0⟩ I []:=⟨λid e a h bh=>(by cases bh),λid ih e a4 a bX h U bh=>(by cases bh),λid a h=>(by cases h),Y5 bS⟩;refine Spec.rN (reckon (Y:=kk) aT BV D7 BW h hu hm).kL ?_;rintro r J mA⟨rfl,U,I',M',⟨br,-,aa,ae⟩,aR⟩;exact⟨rfl,U,I',M',br,aa,ae,aR⟩
def D8{X:Bool}(b:X=true)(h:X=false):p:=by rw[b]at h;cases h
def Y9{X:Bool}(b:X=false)(h:X=true):p:=by rw[b]at h;cases h
def KT(v:α)(x:R)(f:α->R):b4 (some v) x f=f v:=rfl
def ajX(l dg:List UInt8)(a b bX iq:Int):oH Tryz.prog nI 8 110 (.a [.s l,.i .i64 a,.i .i64 b]) (.a [.s dg,.i .i64 bX,.i .i64 iq])=some (qw l dg&&(oG a bX&&oG b iq)):=by
 obtain⟨i36,ajY,ajZ⟩:∃ i,nI 110=some i/\i.bK=.struct [(9,0),(3,1),(3,2)]:=⟨_,rfl,rfl⟩;obtain⟨i9,ew,aj0⟩:∃ i,nI 9=some i/\i.bK=.string:=⟨_,rfl,rfl⟩;obtain⟨i3,ae,vH⟩:∃ i,nI 3=some i/\i.bK=.int .i64:=⟨_,rfl,rfl⟩;have aK:Oz Tryz.prog 110=true:=by kernel_rfl
 have az:∀ k a b,oH Tryz.prog nI (k+1) 3 (.i .i64 a) (.i .i64 b)=some (oG a b):=λk a b=>by simp only[oH,ae,KT,vH];rfl
 have ag:∀ k a b,oH Tryz.prog nI (k+1) 9 (.s a) (.s b)=some (qw a b):=λk a b=>by simp only[oH,ew,KT,aj0]
 rw[oH];simp only[ajY,KT,ajZ,aK];have wJ:∀ jf cT c3,xH nI 9 0 [.s jf,cT,c3]=some (.s jf):=λ_ _ _=>rfl;have qb:∀ jf cT c3,xH nI 3 1 [jf,.i .i64 cT,c3]=some (.i .i64 cT):=λ_ _ _=>rfl;have qc:∀ jf cT c3,xH nI 3 2 [jf,cT,.i .i64 c3]=some (.i .i64 c3):=λ_ _ _=>rfl;simp only[Dn,wJ,qb,qc,KT,az,ag,ke];cases qw l dg<;>cases oG a bX<;>cases oG b iq<;>rfl
def Hm(x y:eD):Bool:=qw x.name.data.toList y.name.data.toList&&(oG x.lo y.lo&&oG x.hi y.hi)
def aj1(x y:eD):Hm x y=true ↔ x=y:=by
 obtain⟨⟨⟨n⟩⟩,l,h⟩:=x;obtain⟨⟨⟨fA⟩⟩,dg,bh⟩:=y;unfold Hm;rw[Bm,zk,zk];simp only[cA,e7,eD.mk.injEq,LB,Array.mk.injEq];constructor
 ·rintro⟨U,aa,ae⟩;exact⟨U,by omega,by omega⟩
 ·rintro⟨U,aa,ae⟩;exact⟨U,by omega,by omega⟩
def eD.Y'(D:bH)(x:eD):bM D [.s x.name.data.toList,.i .i64 x.lo,.i .i64 x.hi] x.cells:=by simp[bM,aU,eD.cells]
def cC.aj2{p q:eD}{V:Value->Prop}(h:V (.bool (!Hm p q))) :
  cC Tryz.prog .neq 110 x y (.val (.agg #[.string p.name,.int .i64 p.lo,.int .i64 p.hi])) (.val (.agg #[.string q.name,.int .i64 q.lo,.int .i64 q.hi])) V other:=by
 refine WO (X:=⟨Tryz.prog,nI,[],0,0,default,λ_=>none,[],none⟩) (D:=λ_=>none) (v:=.b (!Hm p q)) aT ?_ (eD.Y' _ p) (eD.Y' _ q) (λu hu=>by simp only[aU]at hu;rw[hu];exact h);show Gn Tryz.prog nI .neq 110 _ _=_;unfold Gn;rw[ajX,show Tryz.prog.eqGuardType Tryz.prog.depth 110=false by kernel_rfl];rfl
structure Za(P ki:cu)(n:Nat):Prop where
 ns:ki.ns=P.ns
 a0:ki.a0=P.a0+n
 s:∃ t:ByteArray,t.size=n/\ki.s=t++P.s
section
variable{P ki:cu}{n:Nat}
def Za.size(h:Za P ki n):ki.s.size=P.s.size+n:=by obtain⟨t,U,aa⟩:=h.s;rw[aa,yI];omega
section
end
end
section
end
section
end
section
end
def BX(aL:List Int):Prop:=∀ a b c d:Int,(∀ x∈[a,b,c,d],fo x)->DU (oO (ln [a,b,c,d]) 256)=tf aL a b c d
def Hn(l:List UInt8):List Value:=[.string (strOf l)]
def D9(L:List (List UInt8)):List Value:=L.flatMap Hn
def Zb(L:List (List UInt8))(x:List UInt8):D9 (L++[x])=D9 L++[.string (strOf x)]:=by simp[D9,Hn]
def aj3(L:List (List UInt8)):(D9 L).length=L.length:=by have:=g3 Hn 1 (λ_=>rfl) L;simpa[D9]using this
def cC.aj4{P:Program}{t:Nat}{a:List UInt8}{b:ByteArray}(ap:a.length+b.size<=9223372036854775807){V:Value->Prop}(h:V (.string (strOf (a++b.data.toList)))):cC P .add t x y (.val (.string (strOf a))) (.val (.string b)) V other:=
 cC.concat (a:=strOf a) (b:=b) ap (by rw[<-TG,MN]at h;exact h)
def Zc{sep:List UInt8}{f:Int->List UInt8}:∀ {ks:List Int} {b:Bool} {k:Int},k∈ks->(f k).length<=(oq sep f b ks).length
 |fN::ks,b,k,h=>by
  unfold oq;simp only[b5];rcases et.1 h with rfl | h;·omega
  ·have:=Zc (sep:=sep) (f:=f) (b:=true) h;omega
def Zd(sep:List UInt8)(L:List (List UInt8))(i:Nat):(jZ sep (L.take i)).length<=(jZ sep L).length:=by
 cases L with
 |nil=>simp
 |cons x xs=>
  cases i with
  |zero=>simp[jZ]
  |succ i=>
   rw[pX,jZ,jZ,b5,b5];have:((xs.take i).flatMap λy=>sep++y).length<=(xs.flatMap λy=>sep++y).length:=by
    conv=>rhs;rw[<-yH i xs,jP,b5]
    omega
   omega
def head_mem(h:0<L.length):L.headD []=L[0]:=by
 cases L with
 |nil=>simp at h| cons x xs=>rfl
def Ze{I:aH}{aL:List Int}(ed:BX aL){t:bB}(au:t.ok I)(ao:right t=true)(af:∀ d∈t.ns,d.kn<=1099511627776):∀ (m j:Nat),j<m->∀ (ak:j<t.ns.length),(gf aL t.ns j).length<=1152921504606846976 -> Spec Tryz.prog 230 [t.val,.int .i64 j] I [] λr I' M'=>r=.string (strOf (gf aL t.ns j))/\I'=I/\M'=[]
 |0,j,h,_,_=>absurd h (BQ _)
 |m+1,j,aoL,ak,bY=>by
  have bc:=Ze (I:=I) ed au ao af m;have kE:=au.n;have eC:t.ns[j]∈t.ns:=cZ ak;have fQ:=au.ns t.ns[j] eC;have eg:=fQ.kn;have UE:=af _ eC;have hM:=r9 ao j ak;have fP:=II ao ak;have hh:=AI fP;have KU:=Kv fQ.k.1 fP;have gx:j<t.n:=by omega
  obtain⟨ad,bI,bl⟩:=au.a2.row a3.da gx ak;have iA:gf aL t.ns j=rL aL t.ns[j] (t.ns[j].aM.map λk=>paren (fT t.ns[j].k (fM t.ns k)) (gf aL t.ns k)):=by rw[FC ao ak,X1 aL t.ns fQ.k.1 fP]
  have fz:∀ k∈t.ns[j].aM,(paren (fT t.ns[j].k (fM t.ns k)) (gf aL t.ns k)).length<=1152921504606846976:=λk D'=>by refine jD ?_ bY;rw[FC ao ak,xk];have:=Zc (sep:=ot t.ns[j]) (f:=λk=>paren (fT t.ns[j].k (fM t.ns k)) (gf aL t.ns k)) (b:=false) D';simp only[b5]at this |-;omega
  generalize ah:t.ns[j]=d at *;generalize c6:(λk:Int=>paren (fT d.k (fM t.ns k)) (gf aL t.ns k))=F at *;have Zf:∀ k,F k=paren (fT d.k (fM t.ns k)) (gf aL t.ns k):=λk=>by rw[<-c6]
  refine bU [] aT Tryz.func230 rfl rfl rfl ?_;intro B aq;refine a7.mk ad j bI rfl gx ?_;refine aD.mk _ (bl _) ?_;refine cx.inv (ι:=Nat×a') (λx=>{ cc:=[(2,.ref 2 0),(5,.ref 5 0),(6,.val x.2.val),(7,.val (.int .i64 x.1))],cl:=[(2,t.cells),(5,d.cells)],ck:=I,de:=x.2.aQ 9 }) (λx=>x.1<=d.kn/\x.2.ok 1 (D9 ((d.aM.take x.1).map F))) (λx=>d.kn-x.1) ?_ ?_;·exact⟨(0,jd),⟨bi _,ka 1⟩,.refl,ec,.cons rfl (.cons rfl .nil)⟩
  rintro⟨i,os⟩⟨hi,cj⟩;simp only at hi cj;have pF:os.n=i:=by have:=cj.len;rw[aj3,dx,I9 (by omega)]at this;omega
  refine aI.mk (λh=>?_) (λh=>?_)
  ·have aO:i<d.kn:=by simpa using h
   have eP:i<d.aM.length:=by omega
   obtain⟨dh,ev,dV⟩:=fQ.a2.one aO eP;have D':d.aM[i]∈d.aM:=cZ eP;have hH:=hM _ D';have sI:=fz _ D';have rK:(d.aM.take (i+1)).map F=(d.aM.take i).map F++[F d.aM[i]]:=by rw[hR eP,fC];rfl
   generalize Fy:d.aM[i]=M7 at *;obtain⟨q,rfl⟩:=iN hH.1;have fa:q<t.ns.length:=by omega
   have k3:q<t.n:=by omega
   obtain⟨jS,m7,sp⟩:=au.a2.row a3.da k3 fa;have m8:∀ M,bD I M ((jS.add (q*9)).add 0) 1 [.int .u8 t.ns[q].k]:=λM=>(sp M).part (k:=0) (m:=1) (by decide);have qh:fM t.ns ((q:Nat):Int)=t.ns[q].k:=by simp[fM,dI,fa]
   have pj:(gf aL t.ns q).length<=1152921504606846976:=by rw[paren]at sI;simp only[b5]at sI;omega
   refine cU.draw aT rfl rfl rfl ?_;refine a7.mk dh i ev rfl aO ?_;refine aD.mk _ (dV _) ?_;refine aZ.mk [] (os.aQ 9) _ (.refl _) (bc q (by omega) fa pj) ?_;rintro v J N -⟨rfl,cm,rfl⟩;subst J;refine cU.draw aT rfl rfl rfl ?_;refine a7.mk dh i ev rfl aO ?_;refine aD.mk _ (dV _) ?_;refine a7.mk jS q m7 rfl k3 ?_;refine aD.mk _ (m8 _) ?_;refine aZ.mk [] (os.aQ 9) _ (.refl _) (ahR d.k t.ns[q].k) ?_;rintro v J N -⟨rfl,cm,rfl⟩;subst J;have QW:=Zf q;rw[qh]at QW;refine aI.mk (λaa=>?_) (λaa=>?_)
   ·have QX:F q=[40]++gf aL t.ns q++[41]:=by rw[QW,aa];rfl
    refine cC.eV (a:=[40]) (by simp only[dL,fS];omega) ?_;refine cC.eV (b:=[41]) (by simp only[b5,dL,fS];omega) ?_;refine cw.mk λb9 fK xn=>?_;refine bp.yA aT rfl (by simp) (e:=9) rfl rfl rfl os cj rfl (m:=1) rfl (bV:=[.string (strOf ([40]++gf aL t.ns q++[41]))]) (by decide) (dP (b:=b9) (cs:=[.string (strOf ([40]++gf aL t.ns q++[41]))]) (k:=0) (n:=1) (T:=9) (.head _) (by simp)) rfl (Mr:=[⟨b9,.cells #[.string (strOf ([40]++gf aL t.ns q++[41]))] 9 (0,0)⟩]) (fR (l₁:=[_])) (by simp only[maxLen];omega) (by show(os.n+1)*16<=_;omega) ?_;intro dz c' gY xT dJ c9 dT fL;refine aW.mk _ (b0 (i:=i) (by omega)) ?_;refine⟨(i+1,⟨some dz,os.n+1,c',gY⟩),⟨⟨by simp only;omega,?_⟩,by simp only;omega⟩,.sub (List.Sublist.cons_cons _ (eG _)) .refl,ec,.cons rfl (.cons rfl .nil)⟩;simp only;rw[rK,QX,Zb];exact T7 cj dJ c9 dT fL
   ·have QX:F q=gf aL t.ns q:=by rw[QW,aa];simp[paren]
    refine cw.mk λb9 fK xn=>?_;refine bp.yA aT rfl (by simp) (e:=9) rfl rfl rfl os cj rfl (m:=1) rfl (bV:=[.string (strOf (gf aL t.ns q))]) (by decide) (dP (b:=b9) (cs:=[.string (strOf (gf aL t.ns q))]) (k:=0) (n:=1) (T:=9) (.head _) (by simp)) rfl (Mr:=[⟨b9,.cells #[.string (strOf (gf aL t.ns q))] 9 (0,0)⟩]) (fR (l₁:=[_])) (by simp only[maxLen];omega) (by show(os.n+1)*16<=_;omega) ?_;intro dz c' gY xT dJ c9 dT fL;refine aW.mk _ (b0 (i:=i) (by omega)) ?_;refine⟨(i+1,⟨some dz,os.n+1,c',gY⟩),⟨⟨by simp only;omega,?_⟩,by simp only;omega⟩,.sub (List.Sublist.cons_cons _ (eG _)) .refl,ec,.cons rfl (.cons rfl .nil)⟩;simp only;rw[rK,QX,Zb];exact T7 cj dJ c9 dT fL
  ·have aj5:i=d.kn:=by simp at h;omega
   have rK:(d.aM.take i).map F=d.aM.map F:=by rw[g4 (by omega)]
   rw[rK]at cj;generalize bQ:d.aM.map F=L at *;have zA:L.length=d.kn:=by rw[<-bQ];simp;omega
   have row:∀ {i:Nat} (hi:i<L.length),∃ ad,(os.a.map λg=>(⟨g,0,none⟩:Addr))=some ad/\bD I (os.aQ 9) (ad.add (i*1)) 1 (Hn L[i]):=fun {i} hi=>a'.ok.row (I:=I) (M:=os.aQ 9) (f:=Hn) (λ_=>rfl) (by decide) cj (e:=9) (λy aG=>aG) hi;have Ea:∀ x∈L,x.length<=1152921504606846976:=λx ab=>by rw[<-bQ]at ab;obtain⟨k,D',rfl⟩:=dp.1 ab;rw[Zf];exact fz k D'
   have h3:6<=d.k->0<L.length/\L.headD []=L.headD []:=λb2=>⟨by have:=KU.one b2;omega,rfl⟩;refine aI.mk (λjf=>?_) (λjf=>?_);·exact⟨_,_,.sub (eG _) .refl,by rw[iA,rL,jf];rfl,rfl,rfl⟩
   refine aI.mk (λcT=>?_) (λcT=>?_)
   ·have gl:∀ x∈[d.fY,d.s1,d.s2,d.gM],fo x:=by
     intro x ab;simp only[et,IF,or_false]at ab;rcases ab with rfl | rfl | rfl | rfl;·exact fQ.fY
     ·exact fQ.s1
     ·exact fQ.s2
     ·exact fQ.gM
    have bZ:=ahN (I:=I) gl;rw[ed _ _ _ _ gl]at bZ;refine aZ.mk [] (os.aQ 9) _ (.refl _) bZ ?_;rintro v J N -⟨rfl,cm,rfl⟩;subst J;exact⟨_,_,.sub (eG _) .refl,by rw[iA,rL,jf,cT];rfl,rfl,rfl⟩
   refine aI.mk (λc3=>?_) (λc3=>?_);·refine aZ.mk [] (os.aQ 9) _ (.refl _) (ahL d.t (by have:=hh.t;omega)) ?_;rintro v J N -⟨rfl,cm,rfl⟩;subst J;exact⟨_,_,.sub (eG _) .refl,by rw[iA,rL,jf,cT,c3];rfl,rfl,rfl⟩
   refine aI.mk (λhc=>?_) (λhc=>?_);·exact⟨_,_,.sub (eG _) .refl,by rw[iA,rL,jf,cT,c3,hc];exact congrArg Value.string (MN d.t).symm,rfl,rfl⟩
   refine aI.mk (λxw=>?_) (λxw=>?_);·have lq:0<L.length:=(h3 (by simp at xw;omega)).1;have uo:=Ea _ (cZ lq);obtain⟨d',vb,h6⟩:=row (i:=0) lq;refine a7.mk d' 0 vb rfl (show 0<os.n by omega) ?_;refine aD.mk _ (h6.sub λy aG=>aG) ?_;refine cC.eV (a:=[38]) (by simp only[dL,fS];omega) ?_;exact⟨_,_,.sub (eG _) .refl,by rw[iA,rL,jf,cT,c3,hc,xw,head_mem lq];rfl,rfl,rfl⟩
   refine aI.mk (λy2=>?_) (λy2=>?_);·have lq:0<L.length:=(h3 (by simp at y2;omega)).1;have uo:=Ea _ (cZ lq);obtain⟨d',vb,h6⟩:=row (i:=0) lq;refine a7.mk d' 0 vb rfl (show 0<os.n by omega) ?_;refine aD.mk _ (h6.sub λy aG=>aG) ?_;refine cC.eV (a:=[33]) (by simp only[dL,fS];omega) ?_;exact⟨_,_,.sub (eG _) .refl,by rw[iA,rL,jf,cT,c3,hc,xw,y2,head_mem lq];rfl,rfl,rfl⟩
   refine aI.mk (λxt=>?_) (λxt=>?_)
   ·have zb:d.k=6:=by simpa using xt
    have lq:0<L.length:=(h3 (by omega)).1;have uo:=Ea _ (cZ lq);have nV:=hh.l7 zb;have eS:((d.lo.toNat:Nat):Int)=d.lo:=by omega
    have bZ:=ahS (I:=I) d.lo.toNat d.hi (by omega) (by omega);rw[eS]at bZ;have iH:=TE d.lo.toNat d.hi;refine cU.draw aT rfl rfl rfl ?_;obtain⟨d',vb,h6⟩:=row (i:=0) lq;refine a7.mk d' 0 vb rfl (show 0<os.n by omega) ?_;refine aD.mk _ (h6.sub λy aG=>aG) ?_;refine kU.mk _ bZ ?_;rintro v J N -⟨rfl,cm,rfl⟩;subst J;refine cC.eV (a:=L[0]) (by omega) ?_;exact⟨_,_,.sub (eG _) .refl,by rw[iA,rL,jf,cT,c3,hc,xw,y2,xt,head_mem lq];rfl,rfl,rfl⟩
   refine aI.mk (λHo=>?_) (λHo=>?_)
   ·have BY:d.k=9:=by simpa using Ho
    have lq:0<L.length:=(h3 (by omega)).1;have uo:=Ea _ (cZ lq);have cO:=hh.t;have xl:d.t.data.toList.length=d.t.size:=rfl;refine cU.draw aT rfl rfl rfl ?_;refine cC.aj4 (a:=[60]) (by simp only[dL,fS];omega) ?_;refine cC.eV (b:=[58,32]) (by simp only[b5,dL,fS];omega) ?_;obtain⟨d',vb,h6⟩:=row (i:=0) lq;refine a7.mk d' 0 vb rfl (show 0<os.n by omega) ?_;refine aD.mk _ (h6.sub λy aG=>aG) ?_;refine cC.eV (b:=L[0]) (by simp only[b5,dL,fS];omega) ?_;refine cC.eV (b:=[62]) (by simp only[b5,dL,fS];omega) ?_;exact⟨_,_,.sub (eG _) .refl,by rw[iA,rL,jf,cT,c3,hc,xw,y2,xt,Ho,head_mem lq];rfl,rfl,rfl⟩
   have lq:0<L.length:=by
    have:d.k=4\/d.k=5:=by have U:=hh.k;have aa:=fQ.k.1;simp at jf cT c3 hc xw y2 xt Ho;omega
    have:=KU.two this;omega
   have Zg:∀ sep,(bif decide (d.k=5)then [32,47,32]else [32])=sep->gf aL t.ns j=jZ sep L:=λsep aj6=>by rw[iA,rL,jf,cT,c3,hc,xw,y2,xt,Ho,aj6];rfl
   refine aI.mk (λrl=>?_) (λrl=>?_)
   ·have Hp:=Zg [32,47,32] (by rw[rl];rfl);obtain⟨d',vb,h6⟩:=row (i:=0) lq;refine a7.mk d' 0 vb rfl (show 0<os.n by omega) ?_;refine aD.mk _ (h6.sub λy aG=>aG) ?_;refine cx.inv (ι:=Nat×List UInt8) (λx=>{ cc:=[(6,.val os.val),(9,.val (.string (strOf [32,47,32]))),(10,.val (.string (strOf x.2))),(11,.val (.int .i64 x.1))],ck:=I,de:=os.aQ 9 }) (λx=>1<=x.1/\x.1<=os.n/\x.2=jZ [32,47,32] (L.take x.1)) (λx=>os.n-x.1) ?_ ?_
    ·refine⟨(1,L[0]),⟨b1 _,by simp only;omega,?_⟩,.refl,ec,.nil⟩;simp only;rw[hR lq];simp[jZ]
    rintro⟨i,w⟩⟨eA,gw,hw⟩;simp only at eA gw hw;have oP:=Zd [32,47,32] L i;have ed:=bY;rw[Hp]at ed;rw[<-hw]at oP;refine aI.mk (λh=>?_) (λh=>?_)
    ·have aO:i<os.n:=by simpa using h
     have eP:i<L.length:=by omega
     have ag:=Ea _ (cZ eP);obtain⟨QY,nq,QZ⟩:=row eP;have bu:L.take i≠[]:=by intro h;have:=congrArg List.length h;rw[I9 (by omega)]at this;simp at this;omega
     have cf:=X0 [32,47,32] (L.take i) bu L[i];rw[<-hR eP,<-hw]at cf;refine cC.eV (a:=w) (by simp only[dL,fS];omega) ?_;refine a7.mk QY i nq rfl aO ?_;refine aD.mk _ (QZ.sub λy aG=>aG) ?_;refine cC.eV (b:=L[i]) (by simp only[b5,dL,fS];omega) ?_;refine aW.mk _ (b0 (i:=i) (by omega)) ?_;refine⟨(i+1,_),⟨⟨by simp only;omega,aO,?_⟩,by simp only;omega⟩,.refl,ec,.nil⟩;exact cf.symm
    ·have aj7:i=L.length:=by simp at h;omega
     rw[g4 (by omega)]at hw;exact⟨_,_,.sub (eG _) .refl,by rw[Hp,hw],rfl,rfl⟩
   ·have Hp:=Zg [32] (by rw[rl];rfl);obtain⟨d',vb,h6⟩:=row (i:=0) lq;refine a7.mk d' 0 vb rfl (show 0<os.n by omega) ?_;refine aD.mk _ (h6.sub λy aG=>aG) ?_;refine cx.inv (ι:=Nat×List UInt8) (λx=>{ cc:=[(6,.val os.val),(9,.val (.string (strOf [32]))),(10,.val (.string (strOf x.2))),(11,.val (.int .i64 x.1))],ck:=I,de:=os.aQ 9 }) (λx=>1<=x.1/\x.1<=os.n/\x.2=jZ [32] (L.take x.1)) (λx=>os.n-x.1) ?_ ?_
    ·refine⟨(1,L[0]),⟨b1 _,by simp only;omega,?_⟩,.refl,ec,.nil⟩;simp only;rw[hR lq];simp[jZ]
    rintro⟨i,w⟩⟨eA,gw,hw⟩;simp only at eA gw hw;have oP:=Zd [32] L i;have ed:=bY;rw[Hp]at ed;rw[<-hw]at oP;refine aI.mk (λh=>?_) (λh=>?_)
    ·have aO:i<os.n:=by simpa using h
     have eP:i<L.length:=by omega
     have ag:=Ea _ (cZ eP);obtain⟨QY,nq,QZ⟩:=row eP;have bu:L.take i≠[]:=by intro h;have:=congrArg List.length h;rw[I9 (by omega)]at this;simp at this;omega
     have cf:=X0 [32] (L.take i) bu L[i];rw[<-hR eP,<-hw]at cf;refine cC.eV (a:=w) (by simp only[dL,fS];omega) ?_;refine a7.mk QY i nq rfl aO ?_;refine aD.mk _ (QZ.sub λy aG=>aG) ?_;refine cC.eV (b:=L[i]) (by simp only[b5,dL,fS];omega) ?_;refine aW.mk _ (b0 (i:=i) (by omega)) ?_;refine⟨(i+1,_),⟨⟨by simp only;omega,aO,?_⟩,by simp only;omega⟩,.refl,ec,.nil⟩;exact cf.symm
    ·have aj7:i=L.length:=by simp at h;omega
     rw[g4 (by omega)]at hw;exact⟨_,_,.sub (eG _) .refl,by rw[Hp,hw],rfl,rfl⟩
def aj8(lo:Nat)(hi:Int):lI lo hi≠[]:=by
 unfold lI uq;cases(decide ((0:Int)=lo)&&decide (1=hi))<;>cases(decide ((0:Int)=lo)&&decide (-1=hi))<;>cases(decide ((1:Int)=lo)&&decide (-1=hi))<;>cases decide (hi=lo)<;>cases decide (hi=-1)<;>simp
def aj9(aL:List Int)(a b c d:Int):tf aL a b c d≠[]:=by
 unfold tf;cases(a == g5 0&&(b == g5 0&&(c == g5 0&&d == g5 0)))<;>simp
def aka{n:Int}(h:fits d n=true)(ae:d.k=3):d.t≠⟨#[]⟩:=by unfold fits at h;rw[ae]at h;simp[s9,p9,m0,hA]at h;intro e;simp[e]at h
def akb(aL:List Int)(aq:0<=d.k)(h:fits d d.aM.length=true)(bQ:L.length=d.aM.length):rL aL d L≠[]:=by
 have ap:=(AI h).k;have hm:=Kv aq h;have af:d.k=0\/d.k=1\/d.k=2\/d.k=3\/d.k=4\/d.k=5\/d.k=6\/d.k=7\/d.k=8\/d.k=9:=by omega
 have two:d.k=4\/d.k=5->∃ x y yd,L=x::y::yd:=λq=>by
  have:=hm.two q
  match L,bQ with
  |x::y::yd,_=>exact⟨x,y,yd,rfl⟩| [],bQ=>simp at bQ;omega| [_],bQ=>simp at bQ;omega
 unfold rL;rcases af with e | e | e | e | e | e | e | e | e | e
 ·simp[e]
 ·simp only[e,FM,bg];exact aj9 aL d.fY d.s1 d.s2 d.gM
 ·simp[e,vL]
 ·have:=aka h e;simp[e];intro q;exact this (qP (by simpa using q))
 ·obtain⟨x,y,yd,rfl⟩:=two (.inl e);simp[e,jZ]
 ·obtain⟨x,y,yd,rfl⟩:=two (.inr e);simp[e,jZ]
 ·have:=aj8 d.lo.toNat d.hi;simp[e,this]
 ·simp[e]
 ·simp[e]
 ·simp[e]
def akc(aL:List Int)(au:t.ok I)(ao:right t=true):ix aL t≠[]:=by
 obtain⟨aV,aX⟩:=CC ao;obtain⟨r,gh⟩:=iN aV;have hN:r<t.ns.length:=by omega
 have fP:=II ao hN;have aq:=(au.ns _ (cZ hN)).k.1;rw[ix,ao,bg,gh,FC ao hN,X1 aL t.ns aq fP];exact akb aL aq fP (by simp)
def akd(ed:BX aL)(au:t.ok I)(aF:Fit t W)(gV:W<=1099511627776):Spec Tryz.prog 212 [t.val] I [] λr I' M'=>r=.string (strOf (ix aL t))/\I'=I/\M'=[]:=by
 refine bU [] aT Tryz.func212 rfl rfl rfl ?_;intro B aq;refine aZ.mk [] [] _ (.refl _) (CU au W aF.w aF.b) ?_;rintro v J N -⟨rfl,cm,rfl⟩;subst J;refine aI.mk (λh=>?_) (λh=>?_)
 ·have ao:right t=false:=by simpa using h
  exact⟨_,_,.refl,by rw[ix,ao];rfl,rfl,rfl⟩
 ·have ao:right t=true:=by simpa using h
  obtain⟨aV,aX⟩:=CC ao;obtain⟨r,gh⟩:=iN aV;have an:=aF.n;have kE:=au.n;have bY:=IW aL t;have bZ:=Ze ed au ao (λd ah=>by have:=aF.w d ah;omega) (r+1) r (by omega) (by omega) (by rw[ix,ao,bg,gh]at bY;omega);rw[<-gh]at bZ;refine aZ.mk [] [] _ (.refl _) bZ ?_;rintro v J N -⟨rfl,cm,rfl⟩;subst J;exact⟨_,_,.refl,by rw[ix,ao];rfl,rfl,rfl⟩
def ake(l:List UInt8):decide (strOf l=⟨#[]⟩)=decide (l=[]):=by
 congr 1;rw[eq_iff_iff];constructor
 ·intro h;have:=congrArg (λb:ByteArray=>b.data.toList) h;simpa[strOf]using this
 ·rintro rfl;rfl
def akf(ed:BX aL){d:bm}(ah:d.ok I)(aF:Fit d.t W)(gV:W<=1099511627776):Spec Tryz.prog 172 [d.val] I [] λr I' M'=>r=.string (strOf (l8 aL d))/\I'=I/\M'=[]:=by
 refine bU [] aT Tryz.func172 rfl rfl rfl ?_;intro B aq;refine aZ.mk [] [] _ (.refl _) (NE I d.name) ?_;rintro v J N -⟨rfl,cm,rfl⟩;subst J;refine bP.mk (λU=>?_) (λU=>?_)
 ·have hm:hA d.name=true:=by simpa using U
  refine aZ.mk [] [] _ (.refl _) (CU ah.t W aF.w aF.b) ?_;rintro v J N -⟨rfl,cm,rfl⟩;subst J;refine aI.mk (λaa=>?_) (λaa=>?_)
  ·have ao:right d.t=false:=by simpa using aa
   exact⟨_,_,.refl,by rw[l8,ix,ao];rfl,rfl,rfl⟩
  ·have ao:right d.t=true:=by simpa using aa
   have bu:=akc aL ah.t ao;have aw:=IW aL d.t;have an:=aF.n;have kE:=ah.t.n;have xf:=M5 hm;have ub:d.name.data.toList.length=d.name.size:=rfl;refine cU.draw aT rfl rfl rfl ?_;refine cC.concat (a:=d.name) (b:=strOf [32,60,45,32]) (by show _+4<=_;omega) ?_;refine kU.mk _ (akd ed ah.t aF gV) ?_;rintro v J N -⟨rfl,cm,rfl⟩;subst J;refine cC.concat (a:=d.name++strOf [32,60,45,32]) (b:=strOf (ix aL d.t)) (by rw[yI];show _+4+(ix aL d.t).length<=_;omega) ?_;refine cC.concat (a:=d.name++strOf [32,60,45,32]++strOf (ix aL d.t)) (b:=strOf [10]) (by rw[yI,yI];show _+4+(ix aL d.t).length+1<=_;omega) ?_;refine⟨_,_,.refl,congrArg Value.string (yN ?_),rfl,rfl⟩;rw[l8,ake,c0 bu,hm];simp[strOf]
 ·have hm:hA d.name=false:=by simpa using U
  exact⟨_,_,.refl,by rw[l8,hm,Ah,Bool.or_true];rfl,rfl,rfl⟩
def Zh(ed:BX aL)(aB:g.ok I)(an:g.n<=64)(aF:∀ d∈g.ds,Fit d.t W/\d.t.n<=1024)(gV:W<=1099511627776):Spec Tryz.prog 118 [g.val] I [] λr I' M'=>r=.string (strOf (iy aL g.ds []))/\I'=I/\M'=[]:=by
 refine bU [] aT Tryz.func118 rfl rfl rfl ?_;intro B aq;have fU:=aB.n;have xl:∀ d∈g.ds,d.t.ns.length<=1024:=λd ah=>by rw[(aB.ds d ah).t.n];exact(aF d ah).2
 refine cx.inv (ι:=Nat×List UInt8) (λp=>{ cc:=[(1,.ref 1 0),(3,.val (.string (strOf p.2))),(4,.val (.int .i64 p.1))],cl:=[(1,[.slice g.a g.n g.c])],ck:=I }) (λp=>p.1<=g.n/\p.2.length<=2500000*p.1/\iy aL g.ds []=iy aL (g.ds.drop p.1) p.2) (λp=>g.n-p.1) ?_ ?_
 ·exact⟨(0,[]),⟨by simp,by simp,rfl⟩,.refl,dO,.cons rfl .nil⟩
 rintro⟨i,w⟩⟨hi,oP,hw⟩;simp only at hi oP hw;refine aI.mk (λh=>?_) (λh=>?_)
 ·have aO:i<g.n:=by simpa using h
  have bG:i<g.ds.length:=by omega
  obtain⟨ad,bI,bl⟩:=aB.a2.row bm.da aO bG;have eC:g.ds[i]∈g.ds:=cZ bG;have vR:=M6 aL g.ds[i];have ew:=xl _ eC;have fp:g.ds.drop i=g.ds[i]::g.ds.drop (i+1):=eE bG;refine a7.mk ad i bI rfl aO ?_;refine aD.mk _ (bl _) ?_;refine aZ.mk [] [] _ (.refl _) (akf ed (aB.ds _ eC) (aF _ eC).1 gV) ?_;rintro v J N -⟨rfl,cm,rfl⟩;subst J;refine aI.mk (λU=>?_) (λU=>?_);·exact⟨_,_,.refl,by rw[hw,fp,iy,U];rfl,rfl,rfl⟩
  ·refine cC.eV (a:=w) (by omega) ?_;refine aW.mk _ (b0 (i:=i) (by omega)) ?_;refine⟨(i+1,_),⟨⟨by simp only;omega,?_,?_⟩,by simp only;omega⟩,.refl,dO,.cons rfl .nil⟩
   ·simp only[b5];omega
   ·simp only;rw[hw,fp,iy,U];rfl
 ·have cI:g.n<=i:=by simpa using h
  have fv:g.ds.drop i=[]:=hJ (by omega);exact⟨_,_,.refl,by rw[hw,fv];rfl,rfl,rfl⟩
def Eb(aB:g.ok I)(name:ByteArray):Spec Tryz.prog 76 [g.val,.string name] I [] (λv I' M'=>v=.int .i64 (cy name g.ds 0)/\I'=I/\M'=[]):=by
 refine bU [] aT Tryz.func76 rfl rfl rfl ?_;intro B aq;have fU:=aB.n;have k2:=aB.a2.cap;refine cx.inv (ι:=Nat) (λi=>{ cc:=[(1,.val (.string name)),(2,.ref 2 0),(5,.val (.int .i64 i))],cl:=[(2,[.slice g.a g.n g.c])],ck:=I }) (λi=>i<=g.n/\cy name g.ds 0=cy name (g.ds.drop i) i) (λi=>g.n-i) ?_ ?_
 ·exact⟨0,⟨by simp,rfl⟩,.refl,dO,.cons rfl .nil⟩
 rintro i⟨hi,aF⟩;refine aI.mk (λh=>?_) (λh=>?_)
 ·have aO:i<g.n:=by simpa using h
  have bG:i<g.ds.length:=by omega
  obtain⟨ad,bI,bl⟩:=aB.a2.row bm.da aO bG;have fp:g.ds.drop i=g.ds[i]::g.ds.drop (i+1):=eE bG;refine a7.mk ad i bI rfl aO ?_;refine aD.mk _ (bD.part (k:=0) (m:=1) (bl _) (by decide)) ?_;refine aI.mk (λaa=>?_) (λaa=>?_);·exact⟨_,_,.refl,by rw[aF,fp,cy,aa];rfl,rfl,rfl⟩
  ·refine aW.mk _ (b0 (i:=i) (by omega)) ?_;refine⟨i+1,⟨⟨by omega,?_⟩,by omega⟩,.refl,dO,.cons rfl .nil⟩;rw[aF,fp,cy,aa];rfl
 ·have cI:g.n<=i:=by simpa using h
  have fv:g.ds.drop i=[]:=hJ (by omega);exact⟨_,_,.refl,by rw[aF,fv];rfl,rfl,rfl⟩
def akg:lJ t<=t.n:=by
 unfold lJ;cases right t<;>simp
def akh(aB:g.ok I)(aF:∀ d∈g.ds,Fit d.t W)(an:g.n<=1000000):Spec Tryz.prog 117 [g.val] I [] (λv I' M'=>v=.int .i64 (ow g:Nat)/\I'=I/\M'=[]):=by
 refine bU [] aT Tryz.func117 rfl rfl rfl ?_;intro B aq;have fU:=aB.n;refine cx.inv (ι:=Nat×Nat) (λx=>{ cc:=[(1,.ref 1 0),(3,.val (.int .i64 x.2)),(4,.val (.int .i64 x.1))],cl:=[(1,[.slice g.a g.n g.c])],ck:=I }) (λx=>x.1<=g.n/\x.2=((g.ds.take x.1).map λd=>lJ d.t).sum/\x.2<=1099511627776*x.1) (λx=>g.n-x.1) ?_ ?_
 ·exact⟨(0,0),⟨by simp,by simp,by simp⟩,.refl,dO,.cons rfl .nil⟩
 rintro⟨i,s⟩⟨hi,ap,ag⟩;simp only at hi ap ag;refine aI.mk (λh=>?_) (λh=>?_)
 ·have aO:i<g.n:=by simpa using h
  have bG:i<g.ds.length:=by omega
  obtain⟨ad,bI,bl⟩:=aB.a2.row bm.da aO bG;have eC:g.ds[i]∈g.ds:=cZ bG;have mU:=aF _ eC;have cr:=akg (t:=g.ds[i].t);have KV:=mU.n;refine a7.mk ad i bI rfl aO ?_;refine aD.mk _ (bD.part (k:=1) (m:=2) (bl _) (by decide)) ?_;refine aZ.mk [] [] _ (.refl _) (ahO (aB.ds _ eC).t mU) ?_;rintro v J N -⟨rfl,cm,rfl⟩;subst J;refine aW.mk ((s+lJ g.ds[i].t:Nat):Int) (wrap_i64 (x:=((s+lJ g.ds[i].t:Nat):Int)) ⟨by omega,by omega⟩) ?_;refine aW.mk _ (b0 (i:=i) (by omega)) ?_;refine⟨(i+1,s+lJ g.ds[i].t),⟨⟨by simp only;omega,?_,by simp only;omega⟩,by simp only;omega⟩,.refl,dO,.cons rfl .nil⟩;simp only;rw[ap,hR bG,fC,Fv];simp
 ·have cI:g.n<=i:=by simpa using h
  rw[g4 (by omega)]at ap;exact⟨_,_,.refl,by rw[ap];rfl,rfl,rfl⟩
structure KW(g:cE):Prop where
 n:g.n<=1000000
 ds:∀ d∈g.ds,Fit d.t 1000000
def aki(d:bm)(ds:List bm):pq (d::ds)=((hA d.name&&normal d.t)&&pq ds):=rfl
def Zi(h:(decide (1024<ow g) || !g.ds.all λd=>fF d.t)=true):jv aL g=true:=by
 unfold jv;generalize(g.ds.all λd=>fF d.t)=a at *;generalize decide (1024<ow g)=c at *;cases a<;>cases c<;>simp at h |-
def Zj{i:Nat}(h:i<ds.length):oz ds i=decide (cy ds[i].name ds 0=i):=by unfold oz;rw[fJ h]
def Zk{i:Nat}(p:Nat->Bool)(h:i<n):((List.range n).drop i).all p=(p i&&((List.range n).drop (i+1)).all p):=by rw[eE (by simpa using h),tO];simp
def Zl(h:∀ d∈ds,d.t.ns.length<=1024)(an:ds.length<=64):(iy aL ds []).length<=160000000:=by have:=T0 aL ds [] 0 h (by simp);omega
def akj(ed:BX aL)(aB:g.ok I)(aF:KW g):Spec Tryz.prog 70 [g.val] I [] (λv I' M'=>v=.int .i64 (xx aL g)/\I'=I/\M'=[]):=by
 refine bU [] aT Tryz.func70 rfl rfl rfl ?_;intro B aq;have fU:=aB.n;have KV:=aF.n;refine aI.mk (λcd=>?_) (λcd=>?_)
 ·exact⟨_,_,.refl,by rw[xx,cd];rfl,rfl,rfl⟩
 refine cx.inv (ι:=Nat) (λi=>{ cc:=[(1,.ref 1 0),(3,.val (.int .i64 i))],cl:=[(1,[.slice g.a g.n g.c])],ck:=I }) (λi=>i<=g.n/\pq g.ds=pq (g.ds.drop i)) (λi=>g.n-i) ?_ ?_
 ·exact⟨0,⟨bi _,rfl⟩,.refl,kS,.cons rfl .nil⟩
 rintro i⟨hi,a5⟩;refine aI.mk (λh=>?_) (λh=>?_)
 ·have aO:i<g.n:=by simpa using h
  have bG:i<g.ds.length:=by omega
  obtain⟨ad,bI,bl⟩:=aB.a2.row bm.da aO bG;have eC:g.ds[i]∈g.ds:=cZ bG;have fp:g.ds.drop i=g.ds[i]::g.ds.drop (i+1):=eE bG;rw[fp,aki]at a5;refine a7.mk ad i bI rfl aO ?_;refine aD.mk _ (bD.part (k:=0) (m:=1) (bl _) (by decide)) ?_;refine aZ.mk [] [] _ (.refl _) (NE I g.ds[i].name) ?_;rintro v J N -⟨rfl,cm,rfl⟩;subst J;refine bP.mk (λU=>?_) (λU=>?_)
  ·have hm:hA g.ds[i].name=true:=by simpa using U
   refine a7.mk ad i bI rfl aO ?_;refine aD.mk _ (bD.part (k:=1) (m:=2) (bl _) (by decide)) ?_;refine aZ.mk [] [] _ (.refl _) (ahQ (aB.ds _ eC).t (aF.ds _ eC)) ?_;rintro v J N -⟨rfl,cm,rfl⟩;subst J;refine aI.mk (λaa=>?_) (λaa=>?_)
   ·have ea:normal g.ds[i].t=false:=by simpa using aa
    exact⟨_,_,.refl,by rw[xx,cd,a5,ea,Jf];rfl,rfl,rfl⟩
   ·have ea:normal g.ds[i].t=true:=by simpa using aa
    refine aW.mk _ (b0 (i:=i) (by omega)) ?_;refine⟨i+1,⟨⟨by omega,?_⟩,by omega⟩,.refl,kS,.cons rfl .nil⟩;rw[a5,hm,ea];rfl
  ·have hm:hA g.ds[i].name=false:=by simpa using U
   exact⟨_,_,.refl,by rw[xx,cd,a5,hm,pe,pe];rfl,rfl,rfl⟩
 have aj5:i=g.n:=by simp at h;omega
 have akk:pq g.ds=true:=by rw[a5,wD (by omega)];rfl
 have pM:xx aL g=bif jv aL g then 40 else bif !(List.range g.ds.length).all (oz g.ds)then 6 else bif g.ds.all λd=>d.t.ns.all (pu g.ds)then 0 else 41:=by rw[xx,cd,akk];rfl
 have pos:0<g.n:=by simp at cd;omega
 refine bP.mk (λU=>?_) (λU=>?_)
 ·have Ec:g.n<=64:=by simp at U;omega
  refine aZ.mk [] [] _ (.refl _) (akh aB aF.ds KV) ?_;rintro v J N -⟨rfl,cm,rfl⟩;subst J;refine cx.inv (ι:=Nat×Bool) (λx=>{ cc:=[(1,.ref 1 0),(4,.val (.bool x.2)),(5,.val (.int .i64 x.1))],cl:=[(1,[.slice g.a g.n g.c])],ck:=I }) (λx=>x.1<=g.n/\(decide (1024<ow g) || !g.ds.all λd=>fF d.t)=(x.2 || !(g.ds.drop x.1).all λd=>fF d.t)) (λx=>g.n-x.1) ?_ ?_;·exact⟨(0,decide (((1024:Nat):Int)<(ow g:Nat))),⟨bi _,by simp only[oZ];congr 1;exact decide_eq_decide.2 (by omega)⟩,.refl,dO,.cons rfl .nil⟩
  rintro⟨k,b⟩⟨af,ag⟩;simp only at af ag;refine bP.mk (λdb=>?_) (λdb=>?_)
  ·have fz:k<g.n:=by simpa using db
   have kz:k<g.ds.length:=by omega
   refine aI.mk (λcR=>?_) (λcR=>?_)
   ·have vc:b=false:=by simpa using cR
    obtain⟨ad,bI,bl⟩:=aB.a2.row bm.da fz kz;have eC:g.ds[k]∈g.ds:=cZ kz;have fp:g.ds.drop k=g.ds[k]::g.ds.drop (k+1):=eE kz;refine a7.mk ad k bI rfl fz ?_;refine aD.mk _ (bD.part (k:=1) (m:=2) (bl _) (by decide)) ?_;refine aZ.mk [] [] _ (.refl _) (P0 (aB.ds _ eC).t (aF.ds _ eC)) ?_;rintro v J N -⟨rfl,cm,rfl⟩;subst J;refine aW.mk _ (b0 (i:=k) (by omega)) ?_;refine⟨(k+1,!fF g.ds[k].t),⟨⟨by simp only;omega,?_⟩,by simp only;omega⟩,.refl,dO,.cons rfl .nil⟩;simp only;rw[ag,fp,tO,vc,tZ,Bool.not_and]
   ·have qE:b=true:=by simpa using cR
    have cP:(decide (1024<ow g) || !g.ds.all λd=>fF d.t)=b:=by rw[ag,qE,y0]
    refine bP.mk (λeB=>?_) (λeB=>?_)
    ·have vc:b=false:=by simpa using eB
     rw[vc,nC,Az,g0]at cP;have eT:∀ d∈g.ds,Fit d.t 1000000/\d.t.n<=1024:=λd ah=>by have:=cP.2 d ah;unfold fF at this;simp only[cA,e7]at this;exact⟨aF.ds d ah,this.1⟩
     have Zm:=Zl (aL:=aL) (ds:=g.ds) (λd ah=>by rw[(aB.ds d ah).t.n];exact(eT d ah).2) (by omega);refine aZ.mk [] [] _ (.refl _) (Zh ed aB Ec eT (by decide)) ?_;rintro v J N -⟨rfl,cm,rfl⟩;subst J;have Hq:jv aL g=decide (8192<(iy aL g.ds []).length):=by have aC:decide (64<g.n)=false:=c0 (by omega);have ay:(g.ds.all λd=>fF d.t)=true:=g0.2 cP.2;rw[jv,aC,ay,cP.1];rfl
     have cr:((strOf (iy aL g.ds [])).size:Int)=((iy aL g.ds []).length:Int):=rfl;refine aI.mk (λha=>?_) (λha=>?_)
     ·have:jv aL g=true:=by rw[Hq];rw[cr]at ha;simp at ha |-;omega
      exact⟨_,_,.refl,by rw[pM,this];rfl,rfl,rfl⟩
     have Q0:jv aL g=false:=by rw[Hq];rw[cr]at ha;simp at ha |-;omega
     rw[Q0,bd]at pM;refine cx.inv (ι:=Nat) (λi=>{ cc:=[(1,.ref 1 0),(6,.val (.int .i64 i))],cl:=[(1,[.slice g.a g.n g.c])],ck:=I }) (λi=>i<=g.n/\(List.range g.ds.length).all (oz g.ds)=((List.range g.ds.length).drop i).all (oz g.ds)) (λi=>g.n-i) ?_ ?_;·exact⟨0,⟨bi _,rfl⟩,.refl,kS,.cons rfl .nil⟩
     rintro u⟨hu,og⟩;refine aI.mk (λh=>?_) (λh=>?_)
     ·have aO:u<g.n:=by simpa using h
      have bG:u<g.ds.length:=by omega
      obtain⟨ad,bI,bl⟩:=aB.a2.row bm.da aO bG;rw[Zk _ bG,Zj bG]at og;refine cU.draw aT rfl rfl rfl ?_;refine a7.mk ad u bI rfl aO ?_;refine aD.mk _ (bD.part (k:=0) (m:=1) (bl _) (by decide)) ?_;refine kU.mk _ (Eb aB g.ds[u].name) ?_;rintro v J N -⟨rfl,cm,rfl⟩;subst J;refine aI.mk (λaa=>?_) (λaa=>?_)
      ·have e:decide (cy g.ds[u].name g.ds 0=(u:Int))=false:=by simpa using aa
       exact⟨_,_,.refl,by rw[pM,og,e,pe];rfl,rfl,rfl⟩
      ·have e:decide (cy g.ds[u].name g.ds 0=(u:Int))=true:=by simpa using aa
       refine aW.mk _ (b0 (i:=u) (by omega)) ?_;refine⟨u+1,⟨⟨by omega,?_⟩,by omega⟩,.refl,kS,.cons rfl .nil⟩;rw[og,e,pf]
     have Fo:u=g.n:=by simp at h;omega
     rw[wD (by simp;omega)]at og;rw[og,KK,nE,bd]at pM;refine cx.inv (ι:=Nat) (λi=>{ cc:=[(1,.ref 1 0),(7,.val (.int .i64 i))],cl:=[(1,[.slice g.a g.n g.c])],ck:=I }) (λi=>i<=g.n/\(g.ds.all λd=>d.t.ns.all (pu g.ds))=((g.ds.drop i).all λd=>d.t.ns.all (pu g.ds))) (λi=>g.n-i) ?_ ?_;·exact⟨0,⟨bi _,rfl⟩,.refl,kS,.cons rfl .nil⟩
     rintro p⟨aK,od⟩;refine aI.mk (λh=>?_) (λh=>?_)
     ·have aO:p<g.n:=by simpa using h
      have bG:p<g.ds.length:=by omega
      obtain⟨ad,bI,bl⟩:=aB.a2.row bm.da aO bG;have fp:g.ds.drop p=g.ds[p]::g.ds.drop (p+1):=eE bG;have au:=(aB.ds _ (cZ bG)).t;rw[fp,tO]at od;generalize g.ds[p]=d at bl od au;have kE:=au.n;refine a7.mk ad p bI rfl aO ?_;refine aD.mk _ (bD.part (k:=0) (m:=1) (bD.part (k:=1) (m:=2) (bl _) (by decide)) (by decide)) ?_;refine cx.inv (ι:=Nat) (λk=>{ cc:=[(1,.ref 1 0),(7,.val (.int .i64 p)),(8,.val (.slice d.t.a d.t.n d.t.c)),(9,.val (.int .i64 k))],cl:=[(1,[.slice g.a g.n g.c])],ck:=I }) (λk=>k<=d.t.n/\d.t.ns.all (pu g.ds)=(d.t.ns.drop k).all (pu g.ds)) (λk=>d.t.n-k) ?_ ?_;·exact⟨0,⟨bi _,rfl⟩,.refl,ec,.cons rfl .nil⟩
      rintro w⟨hw,sK⟩;refine aI.mk (λae=>?_) (λae=>?_)
      ·have oP:w<d.t.n:=by simpa using ae
       have Hr:w<d.t.ns.length:=by omega
       obtain⟨jS,m7,m8⟩:=au.a2.row a3.da oP Hr;have k2:=au.a2.cap;have Q1:d.t.ns.drop w=d.t.ns[w]::d.t.ns.drop (w+1):=eE Hr;rw[Q1,tO,pu]at sK;refine cU.draw aT rfl rfl rfl ?_;refine a7.mk jS w m7 rfl oP ?_;refine aD.mk _ (bD.part (k:=0) (m:=1) (m8 _) (by decide)) ?_;refine bP.mk (λcT=>?_) (λcT=>?_)
       ·have bf:decide (d.t.ns[w].k=3)=true:=cT;refine a7.mk jS w m7 rfl oP ?_;refine aD.mk _ (bD.part (k:=5) (m:=1) (m8 _) (by decide)) ?_;refine aZ.mk [] [] _ (.refl _) (Eb aB d.t.ns[w].t) ?_;rintro v J N -⟨rfl,cm,rfl⟩;subst J;refine aI.mk (λc3=>?_) (λc3=>?_)
        ·have e:decide (0<=cy d.t.ns[w].t g.ds 0)=false:=by simp at c3 |-;omega
         exact⟨_,_,.refl,by rw[pM,od,sK,bf,e];rfl,rfl,rfl⟩
        ·have e:decide (0<=cy d.t.ns[w].t g.ds 0)=true:=by simp at c3 |-;omega
         refine aW.mk _ (b0 (i:=w) (by omega)) ?_;refine⟨w+1,⟨⟨by omega,?_⟩,by omega⟩,.refl,ec,.cons rfl .nil⟩;rw[sK,e,Bool.or_true,pf]
       ·have bf:decide (d.t.ns[w].k=3)=false:=cT;refine aW.mk _ (b0 (i:=w) (by omega)) ?_;refine⟨w+1,⟨⟨by omega,?_⟩,by omega⟩,.refl,ec,.cons rfl .nil⟩;rw[sK,bf];rfl
      ·have akl:w=d.t.n:=by simp at ae;omega
       rw[wD (by omega)]at sK;refine aW.mk _ (b0 (i:=p) (by omega)) ?_;refine⟨p+1,⟨⟨by omega,?_⟩,by omega⟩,.refl,kS,.cons rfl .nil⟩;rw[od,sK,KK,pf]
     ·have BL:p=g.n:=by simp at h;omega
      rw[wD (by omega)]at od;exact⟨_,_,.refl,by rw[pM,od];rfl,rfl,rfl⟩
    ·have qE:b=true:=by simpa using eB
     exact⟨_,_,.refl,by rw[pM,Zi (aL:=aL) (cP.trans qE)];rfl,rfl,rfl⟩
  ·have uj:k=g.n:=by simp at db;omega
   have cP:(decide (1024<ow g) || !g.ds.all λd=>fF d.t)=b:=by rw[ag,uj,wD (by omega)];simp
   refine bP.mk (λeB=>?_) (λeB=>?_)
   ·have vc:b=false:=by simpa using eB
    rw[vc,nC,Az,g0]at cP;have eT:∀ d∈g.ds,Fit d.t 1000000/\d.t.n<=1024:=λd ah=>by have:=cP.2 d ah;unfold fF at this;simp only[cA,e7]at this;exact⟨aF.ds d ah,this.1⟩
    have Zm:=Zl (aL:=aL) (ds:=g.ds) (λd ah=>by rw[(aB.ds d ah).t.n];exact(eT d ah).2) (by omega);refine aZ.mk [] [] _ (.refl _) (Zh ed aB Ec eT (by decide)) ?_;rintro v J N -⟨rfl,cm,rfl⟩;subst J;have Hq:jv aL g=decide (8192<(iy aL g.ds []).length):=by have aC:decide (64<g.n)=false:=c0 (by omega);have ay:(g.ds.all λd=>fF d.t)=true:=g0.2 cP.2;rw[jv,aC,ay,cP.1];rfl
    have cr:((strOf (iy aL g.ds [])).size:Int)=((iy aL g.ds []).length:Int):=rfl;refine aI.mk (λha=>?_) (λha=>?_)
    ·have:jv aL g=true:=by rw[Hq];rw[cr]at ha;simp at ha |-;omega
     exact⟨_,_,.refl,by rw[pM,this];rfl,rfl,rfl⟩
    have Q0:jv aL g=false:=by rw[Hq];rw[cr]at ha;simp at ha |-;omega
    rw[Q0,bd]at pM;refine cx.inv (ι:=Nat) (λi=>{ cc:=[(1,.ref 1 0),(6,.val (.int .i64 i))],cl:=[(1,[.slice g.a g.n g.c])],ck:=I }) (λi=>i<=g.n/\(List.range g.ds.length).all (oz g.ds)=((List.range g.ds.length).drop i).all (oz g.ds)) (λi=>g.n-i) ?_ ?_;·exact⟨0,⟨bi _,rfl⟩,.refl,kS,.cons rfl .nil⟩
    rintro u⟨hu,og⟩;refine aI.mk (λh=>?_) (λh=>?_)
    ·have aO:u<g.n:=by simpa using h
     have bG:u<g.ds.length:=by omega
     obtain⟨ad,bI,bl⟩:=aB.a2.row bm.da aO bG;rw[Zk _ bG,Zj bG]at og;refine cU.draw aT rfl rfl rfl ?_;refine a7.mk ad u bI rfl aO ?_;refine aD.mk _ (bD.part (k:=0) (m:=1) (bl _) (by decide)) ?_;refine kU.mk _ (Eb aB g.ds[u].name) ?_;rintro v J N -⟨rfl,cm,rfl⟩;subst J;refine aI.mk (λaa=>?_) (λaa=>?_)
     ·have e:decide (cy g.ds[u].name g.ds 0=(u:Int))=false:=by simpa using aa
      exact⟨_,_,.refl,by rw[pM,og,e,pe];rfl,rfl,rfl⟩
     ·have e:decide (cy g.ds[u].name g.ds 0=(u:Int))=true:=by simpa using aa
      refine aW.mk _ (b0 (i:=u) (by omega)) ?_;refine⟨u+1,⟨⟨by omega,?_⟩,by omega⟩,.refl,kS,.cons rfl .nil⟩;rw[og,e,pf]
    have Fo:u=g.n:=by simp at h;omega
    rw[wD (by simp;omega)]at og;rw[og,KK,nE,bd]at pM;refine cx.inv (ι:=Nat) (λi=>{ cc:=[(1,.ref 1 0),(7,.val (.int .i64 i))],cl:=[(1,[.slice g.a g.n g.c])],ck:=I }) (λi=>i<=g.n/\(g.ds.all λd=>d.t.ns.all (pu g.ds))=((g.ds.drop i).all λd=>d.t.ns.all (pu g.ds))) (λi=>g.n-i) ?_ ?_;·exact⟨0,⟨bi _,rfl⟩,.refl,kS,.cons rfl .nil⟩
    rintro p⟨aK,od⟩;refine aI.mk (λh=>?_) (λh=>?_)
    ·have aO:p<g.n:=by simpa using h
     have bG:p<g.ds.length:=by omega
     obtain⟨ad,bI,bl⟩:=aB.a2.row bm.da aO bG;have fp:g.ds.drop p=g.ds[p]::g.ds.drop (p+1):=eE bG;have au:=(aB.ds _ (cZ bG)).t;rw[fp,tO]at od;generalize g.ds[p]=d at bl od au;have kE:=au.n;refine a7.mk ad p bI rfl aO ?_;refine aD.mk _ (bD.part (k:=0) (m:=1) (bD.part (k:=1) (m:=2) (bl _) (by decide)) (by decide)) ?_;refine cx.inv (ι:=Nat) (λk=>{ cc:=[(1,.ref 1 0),(7,.val (.int .i64 p)),(8,.val (.slice d.t.a d.t.n d.t.c)),(9,.val (.int .i64 k))],cl:=[(1,[.slice g.a g.n g.c])],ck:=I }) (λk=>k<=d.t.n/\d.t.ns.all (pu g.ds)=(d.t.ns.drop k).all (pu g.ds)) (λk=>d.t.n-k) ?_ ?_;·exact⟨0,⟨bi _,rfl⟩,.refl,ec,.cons rfl .nil⟩
     rintro w⟨hw,sK⟩;refine aI.mk (λae=>?_) (λae=>?_)
     ·have oP:w<d.t.n:=by simpa using ae
      have Hr:w<d.t.ns.length:=by omega
      obtain⟨jS,m7,m8⟩:=au.a2.row a3.da oP Hr;have k2:=au.a2.cap;have Q1:d.t.ns.drop w=d.t.ns[w]::d.t.ns.drop (w+1):=eE Hr;rw[Q1,tO,pu]at sK;refine cU.draw aT rfl rfl rfl ?_;refine a7.mk jS w m7 rfl oP ?_;refine aD.mk _ (bD.part (k:=0) (m:=1) (m8 _) (by decide)) ?_;refine bP.mk (λcT=>?_) (λcT=>?_)
      ·have bf:decide (d.t.ns[w].k=3)=true:=cT;refine a7.mk jS w m7 rfl oP ?_;refine aD.mk _ (bD.part (k:=5) (m:=1) (m8 _) (by decide)) ?_;refine aZ.mk [] [] _ (.refl _) (Eb aB d.t.ns[w].t) ?_;rintro v J N -⟨rfl,cm,rfl⟩;subst J;refine aI.mk (λc3=>?_) (λc3=>?_)
       ·have e:decide (0<=cy d.t.ns[w].t g.ds 0)=false:=by simp at c3 |-;omega
        exact⟨_,_,.refl,by rw[pM,od,sK,bf,e];rfl,rfl,rfl⟩
       ·have e:decide (0<=cy d.t.ns[w].t g.ds 0)=true:=by simp at c3 |-;omega
        refine aW.mk _ (b0 (i:=w) (by omega)) ?_;refine⟨w+1,⟨⟨by omega,?_⟩,by omega⟩,.refl,ec,.cons rfl .nil⟩;rw[sK,e,Bool.or_true,pf]
      ·have bf:decide (d.t.ns[w].k=3)=false:=cT;refine aW.mk _ (b0 (i:=w) (by omega)) ?_;refine⟨w+1,⟨⟨by omega,?_⟩,by omega⟩,.refl,ec,.cons rfl .nil⟩;rw[sK,bf];rfl
     ·have akl:w=d.t.n:=by simp at ae;omega
      rw[wD (by omega)]at sK;refine aW.mk _ (b0 (i:=p) (by omega)) ?_;refine⟨p+1,⟨⟨by omega,?_⟩,by omega⟩,.refl,kS,.cons rfl .nil⟩;rw[od,sK,KK,pf]
    ·have BL:p=g.n:=by simp at h;omega
     rw[wD (by omega)]at od;exact⟨_,_,.refl,by rw[pM,od];rfl,rfl,rfl⟩
   ·have qE:b=true:=by simpa using eB
    exact⟨_,_,.refl,by rw[pM,Zi (aL:=aL) (cP.trans qE)];rfl,rfl,rfl⟩
 ·have Ec:64<g.n:=by simp at U;omega
  refine cx.inv (ι:=Nat×Bool) (λx=>{ cc:=[(1,.ref 1 0),(4,.val (.bool x.2)),(5,.val (.int .i64 x.1))],cl:=[(1,[.slice g.a g.n g.c])],ck:=I }) (λx=>x.1<=g.n/\true=(x.2 || !(g.ds.drop x.1).all λd=>fF d.t)) (λx=>g.n-x.1) ?_ ?_;·exact⟨(0,true),⟨bi _,rfl⟩,.refl,.cons .refl (.cons .lit (.cons .refl .nil)),.cons rfl .nil⟩
  rintro⟨k,b⟩⟨af,ag⟩;simp only at af ag;refine bP.mk (λdb=>?_) (λdb=>?_)
  ·have fz:k<g.n:=by simpa using db
   have kz:k<g.ds.length:=by omega
   refine aI.mk (λcR=>?_) (λcR=>?_)
   ·have vc:b=false:=by simpa using cR
    obtain⟨ad,bI,bl⟩:=aB.a2.row bm.da fz kz;have eC:g.ds[k]∈g.ds:=cZ kz;have fp:g.ds.drop k=g.ds[k]::g.ds.drop (k+1):=eE kz;refine a7.mk ad k bI rfl fz ?_;refine aD.mk _ (bD.part (k:=1) (m:=2) (bl _) (by decide)) ?_;refine aZ.mk [] [] _ (.refl _) (P0 (aB.ds _ eC).t (aF.ds _ eC)) ?_;rintro v J N -⟨rfl,cm,rfl⟩;subst J;refine aW.mk _ (b0 (i:=k) (by omega)) ?_;refine⟨(k+1,!fF g.ds[k].t),⟨⟨by simp only;omega,?_⟩,by simp only;omega⟩,.refl,dO,.cons rfl .nil⟩;simp only;rw[ag,fp,tO,vc,tZ,Bool.not_and]
   ·have qE:b=true:=by simpa using cR
    have cP:true=b:=by rw[ag,qE,y0]
    refine bP.mk (λeB=>?_) (λeB=>?_)
    ·have vc:b=false:=by simpa using eB
     rw[vc]at cP;cases cP
    ·have qE:b=true:=by simpa using eB
     exact⟨_,_,.refl,by rw[pM,show jv aL g=true from by rw[jv,gX Ec,y0]];rfl,rfl,rfl⟩
  ·have uj:k=g.n:=by simp at db;omega
   have cP:true=b:=by rw[ag,uj,wD (by omega)];simp
   refine bP.mk (λeB=>?_) (λeB=>?_)
   ·have vc:b=false:=by simpa using eB
    rw[vc]at cP;cases cP
   ·have qE:b=true:=by simpa using eB
    exact⟨_,_,.refl,by rw[pM,show jv aL g=true from by rw[jv,gX Ec,y0]];rfl,rfl,rfl⟩
def Zn(aB:g.ok I)(name:ByteArray){q:Nat}(az:cy name g.ds 0=q):Spec Tryz.prog 76 [g.val,.string name] I M0 (λv I' M'=>v=.int .i64 q/\I'=I/\M'=M0):=by refine Spec.rN (Spec.frame (Eb aB name)) ?_;rintro v J M⟨M',rfl,-,-,rfl,rfl,rfl⟩;rw[az];exact⟨rfl,rfl,rfl⟩
section
end
section
end
structure akm(t:bB):Prop where
 n:t.n<2500
 ns:∀ cn∈t.ns,Nt cn
def uA.ok(h:uA I t)(ap:akm t):t.ok I:=
 ⟨h.a2.AX (by have:=ap.n;omega),λcn cq=>(h.ns cn cq).ok (ap.ns cn cq),h.bJ⟩
def aoM(g:cE)(e2:List bB)(i:Nat):List bB:=e2++(g.ds.take i).map bm.t
def akn(ed:BX aL)(aB:g.ok I)(aF:KW g):Spec Tryz.prog 70 [g.val] I M0 (λv I' M'=>v=.int .i64 (jc aL g)/\I'=I/\M'=M0):=by refine Spec.rN (Spec.frame (akj ed aB aF)) ?_;rintro v J M⟨M',rfl,-,-,rfl,rfl,rfl⟩;rw[Uy];exact⟨rfl,rfl,rfl⟩
structure Ed(d:a3):Prop where
 kn:d.kn<400
 t:d.t.size<8020
structure BZ(t:bB):Prop where
 n:t.n<400
 ns:∀ cn∈t.ns,Ed cn
structure Hs(d:bm):Prop where
 name:d.name.size<8020
 t:BZ d.t
structure Ee(g:cE):Prop where
 n:g.n<400
 ds:∀ d∈g.ds,Hs d
def AW.Ef(h:AW I d)(ap:Ed d):d.ok I:=
 ⟨h.k,h.fY,h.s1,h.s2,h.gM,h.ts,h.lo,h.hi,h.a2.AX (by have:=ap.kn;omega),h.aM⟩
def uA.Ef(h:uA I t)(ap:BZ t):t.ok I:=
 ⟨h.a2.AX (by have:=ap.n;omega),λcn cq=>(h.ns cn cq).Ef (ap.ns cn cq),h.bJ⟩
def vX.Ef(h:vX I g)(ap:Ee g):g.ok I:=
 ⟨h.a2.AX (by have:=ap.n;omega),λd ah=>⟨by have:=(ap.ds d ah).name;omega,(h.ds d ah).t.Ef (ap.ds d ah).t⟩⟩
def Zo{a b:Int}(h:a=b):w8 (.val (.int .i64 a)) (.val (.int .i64 b)):=by subst h;exact .refl
structure rP(t:bB)(x:Nat×Nat):Prop where
 j:x.2<=t.n
 n:x.1<=2000
 len:x.1<400->t.n<400
 small:x.1<400->∀ i (h:i<t.ns.length),i<x.2->Ed t.ns[i]
structure qJ(g:cE)(x:Nat×Nat):Prop where
 k:x.2<=g.n
 n:x.1<=2000
 small:x.1<400->x.2<=x.1/\∀ i (h:i<g.ds.length),i<x.2->Hs g.ds[i]
structure Eg(g:cE)(t:bB)(k:Nat)(x:Nat×Nat):Prop where
 j:x.2<=t.n
 n:x.1<=2000
 small:x.1<400->t.n<400/\k+1<=x.1/\(∀ i (h:i<g.ds.length),i<k->Hs g.ds[i])/\(∀ h:k<g.ds.length,g.ds[k].name.size<8020)/\∀ i (h:i<t.ns.length),i<x.2->Ed t.ns[i]
def jY:List Bool->Nat
 |[]=>0| b::r=>bif b then jY r+1 else jY r
section
end
section
end
section
end
def Zp{p:Nat->Bool}{k:Nat}:∀ {l:List Nat},l.Pairwise (· < ·)->k∈l->p k=true->(∀ j∈l,j<k->p j=false)->l.filter p=k::l.filter λj=>p j && !decide (j=k)
 |x::xs,ap,af,aK,ag=>by
  obtain⟨U,aa⟩:=List.pairwise_cons.1 ap;rcases et.1 af with rfl | af
  ·have e:(k::xs).filter (λj=>p j && !decide (j=k))=xs.filter p:=by
    rw[yn];simp;apply Ie;intro j ak;have:=U j ak;have:¬ j=k:=by omega
    simp[this]
   rw[e,yn,aK];rfl
  ·have ab:=U k af;have uk:=ag x (by simp) ab;rw[yn,uk,yn,uk];simp only[pe,j0,kO];exact Zp aa af aK λj ak KX=>ag j (by simp[ak]) KX
def ako(aq:n≠0)(h:n<2^64):∃ k,k<64/\n &&& (2^64-n)=2^k/\n.testBit k=true/\(∀ j,j<k->n.testBit j=false)/\∀ j,(n &&& (n-1)).testBit j=(n.testBit j && !decide (j=k)):=by
 obtain⟨m,hm,af⟩:=Lib.ctzFrom_spec 64 n (by omega) h;generalize Lib.ctzFrom 64 n=k at hm af;have aC:n=2^(k+1)*m+2^k:=by rw[hm,Nat.pow_succ,IG,h4,Nat.mul_assoc]
 have aK:=Nat.two_pow_pos k;have ay:n-1=2^(k+1)*m+(2^k-1):=by omega
 have mD:2^k<2^(k+1):=by rw[Nat.pow_succ];omega
 have t1:∀ j,n.testBit j=if j<k+1 then decide (k=j)else m.testBit (j-(k+1)):=λj=>by rw[aC,YA _ mD,EX]
 have t2:∀ j,(n-1).testBit j=if j<k+1 then decide (j<k)else m.testBit (j-(k+1)):=λj=>by rw[ay,YA _ (by omega),PT]
 refine⟨k,af,?_,?_,λj ak=>?_,λj=>?_⟩
 ·have:=Lib.and_neg 64 k m (by rw[<-hm];exact h);rwa [<-hm]at this
 ·rw[t1];simp
 ·rw[t1,dd (by omega)];simp;omega
 ·rw[L0,t1,t2];by_cases ak:j<k+1
  ·rw[dd ak,dd ak];by_cases KX:j=k
   ·subst KX;simp
   ·have:¬ k=j:=λe=>KX e.symm;simp[this]
  ·rw[cG ak,cG ak];have:¬ j=k:=by omega
   simp[this]
def akp:∀ k:Fin 64,kG.getD (2^k.val*285870213051353865%18446744073709551616/288230376151711744) 0=(k.val:Int):=by decide +kernel
def akq{k:Nat}(aq:n≠0)(h:n<2^64)(af:k<64)(aw:n &&& (2^64-n)=2^k):se kG (n:Int)=k:=by
 have cd:decide ((n:Int)=0)=false:=c0 (by omega);have hw:IntKind.u64.wrap (0-(n:Int))=((2^64-n:Nat):Int):=by simp[IntKind.wrap,IntKind.signed,IntKind.bits];omega
 have ax:CI (n:Int) ((2^64-n:Nat):Int)=((2^k:Nat):Int):=by rw[MI ⟨by omega,by omega⟩ ⟨by omega,by omega⟩,mm,mm,aw]
 have au:(ra (n:Int)).toNat=2^k*285870213051353865%18446744073709551616:=by
  unfold ra;rw[hw,ax];have:((2^k:Nat):Int)*285870213051353865=((2^k*285870213051353865:Nat):Int):=by simp
  rw[this];generalize 2^k*285870213051353865=q;simp[IntKind.wrap,IntKind.signed,IntKind.bits];omega
 unfold se;rw[cd,bd,au];exact akp ⟨k,af⟩
def akr(aq:n≠0)(h:n<2^64):vK (n:Int)=((n &&& (n-1):Nat):Int):=by have ap:fo ((n:Int)-1):=⟨by omega,by omega⟩;unfold vK;rw[vJ ap,MI ⟨by omega,by omega⟩ ap];congr 2;omega
def Ht(i:Nat)(hi:i<4):∀ (f n:Nat),n<2^64->((List.range 64).filter n.testBit).length<=f->sg kG i f (n:Int)=((List.range 64).filter n.testBit).map λj=>UInt8.ofNat (i*64+j)
 |0,n,h,aF=>by rw[nB (Nat.le_zero.1 aF)];rfl
 |f+1,n,h,aF=>by
  unfold sg;by_cases aq:n=0;·subst aq;simp
  ·have cd:decide ((n:Int)=0)=false:=c0 (by omega);obtain⟨k,af,aw,ag,aO,aks⟩:=ako aq h;have akt:(List.range 64).filter n.testBit=k::(List.range 64).filter (n &&& (n-1)).testBit:=by rw[Zp List.pairwise_lt_range (j2.2 af) ag λj _ ak=>aO j ak];congr 1;apply Ie;intro j _;rw[aks]
   rw[akt]at aF |-;have bk:n &&& (n-1)<=n-1:=Nat.and_le_right;rw[cd,bd,akr aq h,Ht i hi f _ (by omega) (by simp at aF;omega),ek];congr 1;unfold byteOf;rw[akq aq h af aw];have:IntKind.u8.wrap ((i:Int)*64+(k:Int))=((i*64+k:Nat):Int):=by simp[IntKind.wrap,IntKind.signed,IntKind.bits];omega
   rw[this,mm]
def aku{a b c d:Int}(gl:∀ x∈[a,b,c,d],fo x):hp kG 0 [a,b,c,d]=((List.range 256).filter (ln [a,b,c,d])).map UInt8.ofNat:=by
 have nat:∀ x∈[a,b,c,d],∃ n:Nat,x=n/\n<2^64:=λx ab=>by have:=gl x ab;obtain⟨n,rfl⟩:=iN this.1;exact⟨n,rfl,by have:=this.2;omega⟩
 obtain⟨a,rfl,ax⟩:=nat a (by simp);obtain⟨b,rfl,ag⟩:=nat b (by simp);obtain⟨c,rfl,aN⟩:=nat c (by simp);obtain⟨d,rfl,ah⟩:=nat d (by simp);have len:∀ n:Nat,((List.range 64).filter n.testBit).length<=64:=λn=>by have:=Cq n.testBit (List.range 64);simpa using this
 unfold hp hp hp hp hp;rw[Ht 0 (by decide) 64 a ax (len _),Ht (0+1) (by decide) 64 b ag (len _),Ht (0+1+1) (by decide) 64 c aN (len _),Ht (0+1+1+1) (by decide) 64 d ah (len _)];have ao:List.range 256=(List.range 64).map (0*64+·)++((List.range 64).map (1*64+·)++((List.range 64).map (2*64+·)++(List.range 64).map (3*64+·))):=by decide +kernel
 have part:∀ (i:Nat) (n:Nat),i<4->([(a:Int),b,c,d].getD i 0)=n->(((List.range 64).map (i*64+·)).filter (ln [(a:Int),b,c,d]))=((List.range 64).filter n.testBit).map (i*64+·):=λi n hi an=>by rw[List.filter_map];congr 1;apply Ie;intro j ak;have ak:=j2.1 ak;simp only[Function.comp,ln];rw[show(i*64+j)/64=i by omega,show(i*64+j)%64=j by omega,an,mm]
 rw[ao];simp only[DQ,fC];rw[part 0 a (by decide) rfl,part 1 b (by decide) rfl,part 2 c (by decide) rfl,part 3 d (by decide) rfl];simp only[jt,c8];rfl
def rQ(p:Nat->Bool)(n:Nat):List UInt8:=((List.range n).filter p).map UInt8.ofNat
def KY(p:Nat->Bool)(n:Nat):rQ p (n+1)=rQ p n++(bif p n then [UInt8.ofNat n]else []):=by
 unfold rQ;rw[zc,DQ,fC];cases h:p n<;>simp[h]
def akv(l:List (UInt8×UInt8))(b:UInt8):((pi l b).getLast?).map (·.2)=some b:=by
 unfold pi;split
 ·rename_i p h;cases decide ((p.2.toNat:Int)+1=b.toNat)<;>simp
 ·rfl
def akw(l:List UInt8):((j8 l).getLast?).map (·.2)=l.getLast?:=by
 rcases My l with h | ⟨m,b,h⟩
 ·subst h;rfl
 ·rw[h,List.concat_eq_append,IT,akv];simp
def Zq(p:Nat->Bool):∀ (n:Nat),n<=256->∀ x,(rQ p n).getLast?=some x->∃ j,j<n/\p j=true/\x.toNat=j
 |0,_,x,h=>by simp[rQ]at h
 |n+1,an,x,h=>by
  rw[KY]at h;cases aK:p n with
  |true=>rw[aK,bg]at h;simp at h;exact⟨n,by omega,aK,by rw[<-h];exact wE (by omega)⟩| false=>rw[aK,bd,c8]at h;obtain⟨j,U,aa,ae⟩:=Zq p n (by omega) x h;exact⟨j,by omega,aa,ae⟩
def Zr(p:Nat->Bool)(an:n<256)(aK:n=0\/p (n-1)=false):pi (j8 (rQ p n)) (UInt8.ofNat n)=j8 (rQ p n)++[(UInt8.ofNat n,UInt8.ofNat n)]:=by
 unfold pi;split
 ·rename_i q h;have aw:=akw (rQ p n);rw[h]at aw;obtain⟨j,U,aa,ae⟩:=Zq p n (by omega) q.2 aw.symm;have bu:decide ((q.2.toNat:Int)+1=(UInt8.ofNat n).toNat)=false:=by
   rw[wE an,ae];apply c0;intro e;have:j=n-1:=by omega
   rcases aK with aK | aK;·omega
   ·rw[this,aK]at aa;cases aa
  rw[bu];rfl
 ·rename_i h;have:j8 (rQ p n)=[]:=List.getLast?_eq_none_iff.1 h;rw[this];rfl
def akx(p:Nat->Bool)(ap:n=0\/p (n-1)=false):∀ t,n<=t->t<256->(∀ j,n<=j->j<=t->p j=true)->j8 (rQ p (t+1))=j8 (rQ p n)++[(UInt8.ofNat n,UInt8.ofNat t)]:=by
 intro t
 induction t with
 |zero=>
  intro U aa ae;have:n=0:=by omega
  subst this;rw[KY,ae 0 (b1 _) (b1 _),bg,IT];exact Zr p aa ap
 |succ t bc=>
  intro U aa ae;rw[KY,ae (t+1) U (b1 _),bg,IT];by_cases an:n=t+1;·subst an;exact Zr p aa ap
  ·rw[bc (by omega) (by omega) (λj a b=>ae j a (by omega))];unfold pi;rw[List.getLast?_concat];simp only;have:decide (((UInt8.ofNat t).toNat:Int)+1=(UInt8.ofNat (t+1)).toNat)=true:=by rw[wE (by omega),wE (by omega)];simp
   rw[this,bg,List.dropLast_concat]
def KZ(p:Nat->Bool):∀ (f t:Nat),t<=hG p f t/\hG p f t<=t+f/\(∀ j,t<j->j<=hG p f t->p j=true)/\(hG p f t<t+f->p (hG p f t+1)=false)
 |0,t=>⟨b1 _,b1 _,λj a b=>by simp[hG]at b;omega,λh=>by simp[hG]at h⟩
 |f+1,t=>by
  unfold hG;cases h:p (t+1)with
  |false=>exact⟨b1 _,by simp,λj a b=>by simp at b;omega,λ_=>h⟩
  |true=>
   obtain⟨U,aa,ae,aR⟩:=KZ p f (t+1);refine⟨by simp;omega,by simp;omega,λj a b=>?_,λq=>?_⟩
   ·simp at b;by_cases e:j=t+1
    ·rw[e];exact h
    ·exact ae j (by omega) b
   ·simp at q |-;exact aR (by omega)
def wO(p:Nat->Bool)(n:Nat):Nat:=bif decide (0<n)&&p (n-1)then hG p (256-n) (n-1)+1 else n
def Zs(p:Nat->Bool):∀ n,n<=256->oO p n=j8 (rQ p (wO p n))
 |0,_=>rfl
 |n+1,an=>by
  have bc:=Zs p n (by omega);have sF:wO p (n+1)=bif p n then hG p (255-n) n+1 else n+1:=by unfold wO;simp only[Nat.add_sub_cancel,show 256-(n+1)=255-n by omega];have:decide (0<n+1)=true:=gX (by omega);rw[this,pf]
  rw[XS,sF,bc];cases aK:p n with
  |false=>
   have ap:nZ p n=false:=by rw[nZ,aK];rfl
   have u9:wO p n=n:=by
    unfold wO;cases ag:decide (0<n)&&p (n-1)with
    |false=>rfl
    |true=>
     simp at ag;have e:hG p (256-n) (n-1)=n-1:=by rw[show 256-n=(255-n)+1 by omega,hG,show n-1+1=n by omega,aK];rfl
     rw[bg,e];omega
   rw[ap,bd,c8,u9,bd,KY,aK];simp
  |true=>
   rw[bg];cases ag:decide (0<n)&&p (n-1)with
   |true=>
    have h2:=ag;simp at h2;have ap:nZ p n=false:=by have:decide (n=0)=false:=c0 (by omega);rw[nZ,aK,h2.2,this];rfl
    have u9:wO p n=hG p (255-n) n+1:=by unfold wO;rw[ag,bg,show 256-n=(255-n)+1 by omega,hG,show n-1+1=n by omega,aK,bg]
    rw[ap,bd,c8,u9]
   |false=>
    have cf:n=0\/p (n-1)=false:=by
     simp at ag;by_cases h:n=0;·exact .inl h
     ·exact .inr (ag (by omega))
    have ap:nZ p n=true:=by
     rw[nZ,aK];rcases cf with h | h;·simp[h]
     ·simp[h]
    have u9:wO p n=n:=by unfold wO;rw[ag];rfl
    obtain⟨U,aa,ae,_⟩:=KZ p (255-n) n;rw[ap,bg,u9,akx p cf _ U (by omega) λj a b=>by
     by_cases e:j=n;·rw[e];exact aK
     ·exact ae j (by omega) b]
def Zt(p:Nat->Bool):oO p 256=j8 (rQ p 256):=by rw[Zs p 256 (b1 _)];congr 2;unfold wO;simp[hG]
def aky{x y:UInt8}(h:x.toNat<=y.toNat):lS (x,y)=sh (x,y):=by
 have ab:=x.toNat_lt;have aG:=y.toNat_lt;have aC:IntKind.u8.wrap ((y.toNat:Int)-x.toNat)=(y.toNat:Int)-x.toNat:=by simp[IntKind.wrap,IntKind.signed,IntKind.bits];omega
 unfold lS sh;simp only;rw[aC];have d1:decide ((x.toNat:Int)+1<y.toNat)=decide (1<(y.toNat:Int)-x.toNat):=decide_eq_decide.2 (by omega);have d2:decide ((x.toNat:Int)<y.toNat)=!decide ((y.toNat:Int)=x.toNat):=by rw[<-decide_not];exact decide_eq_decide.2 (by omega)
 rw[d1,d2]
def akz(p:Nat->Bool)(n:Nat)(an:n<=256):∀ q∈oO p n,q.1.toNat<=q.2.toNat:=by intro q az;obtain⟨i,hi,rfl⟩:=dp.1 az;have hi:=j2.1 (yq.1 hi).1;obtain⟨U,aa,_⟩:=KZ p (255-i) i;simp only;rw[wE (by omega),wE (by omega)];exact U
def akA{a b c d:Int}(gl:∀ x∈[a,b,c,d],fo x):zF (oO (ln [a,b,c,d]) 256)=(a == g5 0&&(b == g5 0&&(c == g5 0&&d == g5 0))):=by
 have jN:g5 0=18446744073709551615:=by decide
 rw[pQ];simp only[cA,beq_iff_eq,jN];constructor
 ·intro h;have eT:∀ n,n<256->ln [a,b,c,d] n=true:=by
   generalize aK:ln [a,b,c,d]=p at h
   match ao:oO p 256,h with
   |[q],h=>
    simp[zF]at h;have az:q∈oO p 256:=by rw[ao];simp
    obtain⟨i,hi,D2⟩:=dp.1 az;have cf:=(yq.1 hi).2;have hi:=j2.1 (yq.1 hi).1;obtain⟨U,aa,ae,_⟩:=KZ p (255-i) i;have XW:q.1.toNat=i:=by rw[<-D2];exact wE (by omega)
    have C2:q.2.toNat=hG p (255-i) i:=by rw[<-D2];exact wE (by omega)
    have akB:i=0:=by have:=h.1;omega
    have he:hG p (255-i) i=255:=by have:=h.2;omega
    intro n an;by_cases e:n=0;·subst akB;rw[e];unfold nZ at cf;simp at cf;exact cf
    ·exact ae n (by omega) (by omega)
  have word:∀ (i:Nat) (x:Int),i<4->[a,b,c,d].getD i 0=x->fo x->x=18446744073709551615:=λi x hi ab hu=>by
   obtain⟨n,rfl⟩:=iN hu.1;have an:n<2^64:=by have:=hu.2;omega
   have:n=2^64-1:=by
    apply Nat.eq_of_testBit_eq;intro j;rw[PT];by_cases ak:j<64;·have:=eT (i*64+j) (by omega);unfold ln at this;rw[show(i*64+j)/64=i by omega,show(i*64+j)%64=j by omega,ab,mm]at this;rw[this];simp[ak]
    ·rw[Mw (Ex an (Mz (by omega) (by omega)))];simp[ak]
   omega
  exact⟨word 0 a (by decide) rfl (gl a (by simp)),word 1 b (by decide) rfl (gl b (by simp)),word 2 c (by decide) rfl (gl c (by simp)),word 3 d (by decide) rfl (gl d (by simp))⟩
 ·rintro⟨rfl,rfl,rfl,rfl⟩;have:zF (oO (ln [18446744073709551615,18446744073709551615,18446744073709551615,18446744073709551615]) 256)=true:=by kernel_rfl
  exact this
def akC:BX kG:=λa b c d gl=>by
 unfold DU tf;rw[akA gl];congr 1;congr 1;congr 1;rw[aku gl,Zt];have h:=akz (ln [a,b,c,d]) 256 (b1 _);rw[Zt]at h;unfold rQ at h |-;generalize j8 _=a2 at *;clear gl
 induction a2 with
 |nil=>rfl| cons q a2 bc=>rw[pZ,pZ,bc λq az=>h q (by simp[az])];congr 1;exact aky (x:=q.1) (y:=q.2) (h q (by simp))
section
end
noncomputable def K0(f g:Nat)(args:List al):Option al:=b4 (sB kk (jx kk f) g args ⟨.nil,0⟩) none λp=>some p.1
def Zu(bS:kC I kG){f g:Nat}{b:Bool}(h:K0 f g args=some (.b b))(hu:bM (λ_=>none) args us) :
  Spec Tryz.prog g us I [] λr J mA=>r=.bool b/\(∀ b o,I b=some o->J b=some o)/\mA=[]:=by
 unfold K0 at h;obtain⟨⟨v,m'⟩,U,h⟩:=cL h;cases h;refine Spec.rN (ajW bS U hu) ?_;rintro r J mA⟨rfl,bk,I',M',br,ai,hm,cm⟩;simp only[aU]at ai;exact⟨ai,bk,rfl⟩
section
end
def Ee.fit(h:Ee g)(aB:g.ok I):KW g:=by refine⟨by have:=h.n;omega,λd ah=>?_⟩;have ap:=(h.ds d ah).t;have an:=ap.n;refine⟨λcn cq=>by have:=(ap.ns cn cq).kn;omega,by omega,by omega⟩
def BZ.fit(h:BZ t):Fit t 1000000:=by have an:=h.n;exact⟨λcn cq=>by have:=(h.ns cn cq).kn;omega,by omega,by omega⟩
def bv(b:Bool):List Value:=[.bool b]
def dX.Zv{a:Option Addr}{c size:Nat}(h:dX I a n c size b vs)(M:List aE)(aq:0<n):∃ ad,a=some ad/\bD I M ad (n*size) vs:=by
 rcases h.rd with U | ⟨ad,U,aa,cs,T,aj,ae,aR⟩
 ·omega
 ·exact⟨ad,U,aa,cs,T,aj,.inl ae,aR,h.len⟩
def akD(l:List Int):gI (l.map (.int .i64 ·))=true:=g0.2 λv ai=>by obtain⟨k,_,rfl⟩:=dp.1 ai;rfl
def akE{f:α->List Value}(h:∀ x,gI (f x)=true)(l:List α):gI (l.flatMap f)=true:=g0.2 λv ai=>by obtain⟨x,_,ab⟩:=List.mem_flatMap.1 ai;exact g0.1 (h x) v ab
def a3.one(d:a3):gI d.cells=true:=rfl
def akF{L:List a3}{i:Nat}(hi:i<L.length)(h:d.cz=L[i].cz):(L.set i d).map a3.cz=L.map a3.cz:=by
 rw[Ih,h];refine Cr λj=>?_;rw[qZ];split
 ·rename_i e;subst e;rw[dx,dd hi,vj,fJ hi];rfl
 ·rfl
def akG{bA:a'}(h:os.val=bA.val):os.n=bA.n/\os.c=bA.c:=by
 unfold a'.val at h;injection h with U aa ae
 exact⟨aa,ae⟩
section
end
def akH{t:dt}{T:Nat->Nat->bW}(h:t.ok I T):Spec Tryz.prog 21 [ptr t.bt] I M0 λv I' M'=>v=.string t.s/\I'=I/\M'=M0:=by refine bU [] aT Tryz.func21 rfl rfl rfl ?_;intro B aq;refine cC.u2 aT rfl rfl ?_;refine aI.mk (λe=>by cases e) (λ_=>?_);refine aD.mk _ (h.dH (j:=0) (by decide)) ?_;exact⟨_,_,.refl,rfl,rfl,rfl⟩
def Zw{a b:Int}(h:a=b):w8 (.val (.int .i64 a)) (.val (.int .i64 b)):=by subst h;exact .refl
def n2(f:Nat->Bool):Nat->Nat
 |0=>0| n+1=>n2 f n+(bif f n then 1 else 0)
def K1(f:Nat->Bool):∀ n,n2 f n<=n
 |0=>b1 _
 |n+1=>by
  have:=K1 f n;unfold n2;cases f n<;>simp<;>omega
def rR(f:Nat->Nat):Nat->Nat
 |0=>0| n+1=>rR f n+f n
def Q2{f:Nat->Nat}{C:Nat}:∀ n,(∀ i,i<n->f i<=C)->rR f n<=n*C
 |0,_=>by simp[rR]
 |n+1,h=>by have U:=Q2 n λi hi=>h i (by omega);have aa:=h n (by omega);rw[rR,iJ,o0];omega
noncomputable def mQ(g:cE)(s:ByteArray)(i a:Nat):Bool:=!Nat.beq (bj (gZ g s) (jw g i) a).aA 0
noncomputable def tJ(g:cE)(s:ByteArray)(i:Nat):Nat:=n2 (mQ g s i) (s.size+1)
noncomputable def Zx(g:cE)(s:ByteArray):Nat:=rR (tJ g s) g.n
def Zy(g:cE)(s:ByteArray)(i:Nat):tJ g s i<=s.size+1:=K1 _ _
section
variable{I:aH}{g:cE}{s:ByteArray}{t:dt}{T:Nat->Nat->bW}
def akI(h:lj I g s t T)(hm:me g)(lR:rI I t T)(fU:g.ds.length=g.n)(an:g.n<=4096):Spec Tryz.prog 13 [ptr t.bt] I M0 λv I' M'=>v=.int .i64 (Zx g s)/\I'=I/\M'=M0:=by
 refine bU [] aT Tryz.func13 rfl rfl rfl ?_;intro B aq;obtain⟨c1,ez,oN,lB⟩:=h.rv;have a5:=lR.ok;have cr:=a5.sz;have cO:=h.ts;have qG:s.size<=4096:=by rw[<-cO];exact cr
 have ea:t.n0<t.nn->∀ M:List aE,t.aQ T∈M:=λe=>absurd e (by have:=lR.n0;omega);have hh:t.cb.getD 2 undef=.slice c1 g.n ez:=oN;have aa:∀ M,bD I M ((⟨t.bt,0,none⟩:Addr).add 2) 1 [.slice c1 g.n ez]:=λM=>by have:=a5.dH (M:=M) (j:=2) (by decide);rwa [hh]at this
 refine cC.u2 aT rfl rfl ?_;refine aI.mk (λe=>by cases e) (λ_=>?_);refine aD.mk _ (aa _) ?_;refine cx.inv (ι:=Nat) (λi=>{ cc:=[(0,.val (ptr t.bt)),(3,.val (.int .i64 (rR (tJ g s) i))),(13,.val (.slice c1 g.n ez)),(14,.val (.int .i64 g.n)),(15,.val (.int .i64 i))],cl:=[],ck:=I,de:=M0 }) (λi=>i<=g.n) (λi=>g.n-i) ?_ ?_
 ·exact⟨0,bi _,.refl,ja,.nil⟩
 intro i hi;have aoN:=Q2 (f:=tJ g s) (C:=4097) i λj _=>by have:=Zy g s j;omega
 refine aI.mk (λe=>?_) (λe=>?_)
 rotate_left
 ·have cI:g.n<=i:=by simpa using e
  obtain rfl:i=g.n:=by omega
  exact⟨_,_,.refl,rfl,rfl,rfl⟩
 have aO:i<g.n:=by simpa using e
 obtain⟨XP,XQ,zE,ik,ad,bI,bl⟩:=h.bJ hm aO fU;rw[oN]at zE;cases zE;obtain⟨PV,PW,r,ao,hx,-,ie⟩:=a5.row ik;refine a7.mk ad i bI rfl aO ?_;refine aD.mk _ (bl _) ?_;refine aD.mk _ (a5.dH (j:=4) (by decide)) ?_;refine a7.mk PV (jw g i) PW rfl ik ?_;refine aD.mk _ (hx _) ?_;refine cx.inv (ι:=Nat) (λj=>{ cc:=[(0,.val (ptr t.bt)),(3,.val (.int .i64 ((rR (tJ g s) i+n2 (mQ g s i) j:Nat):Int))),(13,.val (.slice c1 g.n ez)),(14,.val (.int .i64 g.n)),(15,.val (.int .i64 i)),(25,.val (.slice (some r) t.w t.w)),(26,.val (.int .i64 t.w)),(27,.val (.int .i64 j))],cl:=[],ck:=I,de:=M0 }) (λj=>j<=t.w) (λj=>t.w-j) ?_ ?_
 ·exact⟨0,bi _,.refl,qX,.nil⟩
 intro j ak;have iH:=K1 (mQ g s i) j;have hw:t.w=s.size+1:=by show t.s.size+1=_;rw[cO]
 refine aI.mk (λay=>?_) (λay=>?_)
 rotate_left
 ·have cI:t.w<=j:=by simpa using ay
  obtain rfl:j=t.w:=by omega
  refine aW.mk _ (b0 (i:=i) (by omega)) ?_;refine⟨i+1,⟨by omega,by omega⟩,.refl,.cons .refl (.cons (Zw ?_) (dO)),.nil⟩;rw[rR,tJ,hw]
 have xE:j<t.w:=by simpa using ay
 have akJ:j<=t.s.size:=by have:t.w=t.s.size+1:=rfl;omega
 have cf:=PU (lR.inv.aA (jw g i) j) (h.all (jw g i) j);refine a7.mk r j rfl rfl xE ?_;refine aD.mk _ (ie _ (λe=>ea e _) j akJ) ?_;have Hu:n2 (mQ g s i) (j+1)=n2 (mQ g s i) j+(bif !Nat.beq (T (jw g i) j).aA 0 then 1 else 0):=by
  rw[n2];congr 1;have bf:mQ g s i j=!Nat.beq (T (jw g i) j).aA 0:=by
   unfold mQ;rcases cf with⟨dJ,c9⟩ | ⟨dJ,c9⟩ | ⟨dJ,c9,-⟩<;>rw[dJ,c9]<;>rfl
  rw[bf]
 generalize T (jw g i) j=c at *;refine aI.mk (λbf=>?_) (λbf=>?_)
 ·have b3:Nat.beq c.aA 0=false:=by have:=Dd (j:=0) (b:=true) bf;simpa using this
  rw[b3]at Hu;refine aW.mk ((rR (tJ g s) i+n2 (mQ g s i) (j+1):Nat):Int) (e0 (by rw[Hu];simp only[Ah,bg];omega) (by rw[Hu];simp only[Ah,bg];omega)) ?_;refine aW.mk _ (b0 (i:=j) (by omega)) ?_;exact⟨j+1,⟨by omega,by omega⟩,.refl,qX,.nil⟩
 ·have b3:Nat.beq c.aA 0=true:=by have:=Dd (j:=0) (b:=false) bf;simpa using this
  rw[b3]at Hu;refine aW.mk _ (b0 (i:=j) (by omega)) ?_;refine⟨j+1,⟨by omega,by omega⟩,.refl,.cons .refl (.cons (Zw ?_) (jo)),.nil⟩;rw[Hu];rfl
end
structure akK(t:bB)(x:Nat×Nat):Prop where
 j:x.2<=t.n
 n:x.1<=2000
 len:x.1<300->t.n<400
 small:x.1<300->∀ i (h:i<t.ns.length),i<x.2->Ed t.ns[i]
structure Zz(g:cE)(x:Nat×Nat):Prop where
 k:x.2<=g.n
 n:x.1<=2000
 small:x.1<300->x.2<=x.1/\∀ i (h:i<g.ds.length),i<x.2->Hs g.ds[i]
structure akL(g:cE)(t:bB)(k:Nat)(x:Nat×Nat):Prop where
 j:x.2<=t.n
 n:x.1<=2000
 small:x.1<300->t.n<400/\k+1<=x.1/\(∀ i (h:i<g.ds.length),i<k->Hs g.ds[i])/\(∀ h:k<g.ds.length,g.ds[k].name.size<8020)/\∀ i (h:i<t.ns.length),i<x.2->Ed t.ns[i]
def akM(aB:vX I g)(au:uA I t)(s:ByteArray) :
  Spec Tryz.prog 9 [g.val,t.val,.string s] I [] λv I' M'=>(∃ r,v=.bool r/\(r=false->Ee g/\BZ t/\s.size<=40))/\I'=I/\M'=[]:=by
 refine bU [] aT Tryz.func9 rfl rfl rfl ?_;intro B aq;have fU:=aB.n;have kE:=au.n;have adk:=au.a2.len;refine cx.inv (ι:=Nat×Nat) (λx=>{ cc:=[(2,.val (.string s)),(3,.ref 3 0),(4,.ref 4 0),(7,.val (.int .i64 x.1)),(8,.val (.int .i64 x.2))],cl:=[(3,[.slice g.a g.n g.c]),(4,t.cells)],ck:=I }) (akK t) (λx=>t.n-x.2) ?_ ?_
 ·refine⟨(min 300 t.n,0),⟨bi _,by simp only;omega,λh=>by simp only at h;omega,λ_ i _ h=>by simp at h⟩,.refl,.cons .refl (.cons .refl (.cons .refl (.cons ?_ (.cons .refl .nil)))),.cons rfl (.cons rfl (.nil))⟩;refine Zo ?_;omega
 rintro⟨n,j⟩⟨ak,an,aw,Q3⟩;simp only at ak an aw Q3;refine bP.mk (λh=>aI.mk (λaa=>?body) (λaa=>?aC)) (λh=>?ay)
 case body=>
  have aO:j<t.n:=by simpa using h
  have uN:n<300:=by have:=cv aa;omega
  have bG:j<t.ns.length:=by omega
  obtain⟨jT,lk,Eh⟩:=au.a2.row a3.da aO bG;have cq:=au.ns _ (cZ bG);have cO:=cq.ts;have lL:∀ M,bD I M ((jT.add (j*9)).add 8) 1 [.slice t.ns[j].hK t.ns[j].kn t.ns[j].hk]:=λM=>(Eh M).part (k:=8) (m:=1) (by decide);have rk:∀ M,bD I M ((jT.add (j*9)).add 5) 1 [.string t.ns[j].t]:=λM=>(Eh M).part (k:=5) (m:=1) (by decide);generalize Q4:t.ns[j]=cn at cq cO lL rk;refine cU.draw aT rfl rfl rfl ?_;refine a7.mk jT j lk rfl aO ?_;refine aD.mk _ (lL _) ?_;refine aW.mk ((n+min 300 cn.kn:Nat):Int) (e0 (by omega) (by omega)) ?_;refine a7.mk jT j lk rfl aO ?_;refine aD.mk _ (rk _) ?_;refine h0.mk (by decide) ?_;refine aW.mk ((cn.t.size/20:Nat):Int) (e0 (by rw[I8 (by omega)];omega) (by omega)) ?_;refine aW.mk ((n+min 300 cn.kn+min 300 (cn.t.size/20):Nat):Int) (e0 (by omega) (by omega)) ?_;refine aW.mk _ (b0 (i:=j) (by omega)) ?_;refine⟨(_,j+1),⟨⟨by simp only;omega,by simp only;omega,λeh=>by simp only at eh;exact aw (by omega),λeh i hi gw=>?_⟩,by simp only;omega⟩,.refl,ja,.cons rfl (.cons rfl (.nil))⟩;simp only at eh gw;by_cases e:i=j;·subst e;rw[Q4];exact⟨by omega,by omega⟩
  ·exact Q3 (by omega) i hi (by omega)
 case' aC=>have ab:n<300->j=t.n:=λbC=>by have:=ct aa;omega
 case' ay=>have ab:n<300->j=t.n:=λbC=>by have:¬ (j:Int)<(t.n:Int):=ct h;omega
 all_goals
  clear h;have bS:n<300->BZ t:=λbC=>⟨aw bC,λcn cq=>by
   obtain⟨y,aG,rfl⟩:=th cq;exact Q3 bC y aG (by have:=ab bC;omega)⟩
  refine cx.inv (ι:=(Nat×Nat)×Nat) (λx=>{ cc:=[(2,.val (.string s)),(3,.ref 3 0),(7,.val (.int .i64 x.1.1)),(9,.val (.int .i64 x.2)),(10,.val (.int .i64 x.1.2))],cl:=[(3,[.slice g.a g.n g.c])],ck:=I }) (λx=>(Zz g x.1/\n<=x.1.1)/\1<=x.2/\x.2<=9000) (λx=>g.n-x.1.2) ?_ ?_;·exact⟨((n,0),1),⟨⟨⟨bi _,an,λ_=>⟨bi _,λi _ h=>by simp at h⟩⟩,b1 _⟩,b1 _,by simp only;omega⟩,.refl,ja,.cons rfl (.nil)⟩
  rintro⟨⟨m,k⟩,akN⟩⟨⟨⟨af,hm,Q5⟩,cI⟩,vP,ZA⟩;simp only at af hm Q5 cI vP ZA;have fin:(m<300->k=g.n)->m<300->Ee g/\BZ t:=λU BS=>by obtain⟨s1,s2⟩:=Q5 BS;have ae:=U BS;refine⟨⟨by omega,λd ah=>?_⟩,bS (by omega)⟩;obtain⟨y,aG,rfl⟩:=th ah;exact s2 y aG (by omega)
  refine bP.mk (λae=>aI.mk (λaR=>?_) (λaR=>?_)) (λae=>?_)
  ·have fz:k<g.n:=by simpa using ae
   have pc:m<300:=by have a1:((m:Nat):Int)<300:=cv aR;omega
   obtain⟨s1,s2⟩:=Q5 pc;have kz:k<g.ds.length:=by omega
   obtain⟨ad,bI,bl⟩:=aB.a2.row bm.da fz kz;have ah:=aB.ds _ (cZ kz);have vn:=ah.name;have gV:=ah.t;have akO:=gV.n;have k9:∀ M,bD I M ((ad.add (k*3)).add 0) 1 [.string g.ds[k].name]:=λM=>(bl M).part (k:=0) (m:=1) (by decide);have hX:∀ M,bD I M ((ad.add (k*3)).add 1) 2 g.ds[k].t.cells:=λM=>(bl M).part (k:=1) (m:=2) (by decide);have IK:∀ (q:Nat),q<8020->g.ds[k].name.size=q->∀ h:k<g.ds.length,g.ds[k].name.size<8020:=λq az e h=>by rw[e];exact az
   generalize fv:g.ds[k].name=di at vn k9 IK;generalize B0:g.ds[k].t=u at gV akO hX;refine a7.mk ad k bI rfl fz ?_;refine aD.mk _ (hX _) ?_;refine cU.draw aT rfl rfl rfl ?_;refine aW.mk ((m+5:Nat):Int) (e0 (show(m:Int)+5=_ by omega) (by omega)) ?_;refine aW.mk ((m+5+min 300 u.n:Nat):Int) (e0 (by omega) (by omega)) ?_;refine a7.mk ad k bI rfl fz ?_;refine aD.mk _ (k9 _) ?_;refine h0.mk (by decide) ?_;refine aW.mk ((di.size/20:Nat):Int) (e0 (by rw[I8 (by omega)];omega) (by omega)) ?_;refine aW.mk ((m+5+min 300 u.n+min 300 (di.size/20):Nat):Int) (e0 (by omega) (by omega)) ?_;refine cx.inv (ι:=(Nat×Nat)×Nat) (λx=>{ cc:=[(2,.val (.string s)),(3,.ref 3 0),(7,.val (.int .i64 x.1.1)),(9,.val (.int .i64 x.2)),(10,.val (.int .i64 k)),(11,.ref 11 0),(12,.val (.int .i64 x.1.2))],cl:=[(3,[.slice g.a g.n g.c]),(11,u.cells)],ck:=I }) (λx=>(akL g u k x.1/\n<=x.1.1)/\1<=x.2/\x.2<=9000) (λx=>u.n-x.1.2) ?_ ?_;·exact⟨((_,0),akN),⟨⟨⟨bi _,by simp only;omega,λh=>by simp only at h;exact⟨by omega,by simp only;omega,s2,λh=>IK di.size (by omega) rfl h,λi _ h=>by simp at h⟩⟩,by simp only;omega⟩,vP,ZA⟩,.refl,nz,.cons rfl (.cons rfl (.nil))⟩
   rintro⟨⟨p,q⟩,rf⟩⟨⟨⟨az,aK,Q6⟩,BL⟩,K2,K3⟩;simp only at az aK BL Q6 K2 K3;have out:(p<300->q=u.n)->Zz g (p,k+1):=λU=>by
    refine⟨by simp only;omega,aK,λaa=>?_⟩;simp only at aa;obtain⟨uW,rE,zw,Q7,Q8⟩:=Q6 aa;have aoO:=U aa;refine⟨rE,λi hi gw=>?_⟩;by_cases e:i=k
    ·subst e;refine⟨Q7 hi,?_⟩;rw[B0];exact⟨uW,λcn cq=>by
      obtain⟨y,aG,rfl⟩:=th cq;exact Q8 y aG (by omega)⟩
    ·exact zw i hi (by simp only at gw;omega)
   refine bP.mk (λbn=>aI.mk (λb2=>?_) (λb2=>?_)) (λbn=>?_)
   ·have fa:q<u.n:=by simpa using bn
    have pB:p<300:=by have a1:((p:Nat):Int)<300:=cv b2;omega
    obtain⟨uW,rE,zw,Q7,Q8⟩:=Q6 pB;have k3:q<u.ns.length:=by omega
    obtain⟨jT,lk,Eh⟩:=gV.a2.row a3.da fa k3;have cq:=gV.ns _ (cZ k3);have cO:=cq.ts;have lL:∀ M,bD I M ((jT.add (q*9)).add 8) 1 [.slice u.ns[q].hK u.ns[q].kn u.ns[q].hk]:=λM=>(Eh M).part (k:=8) (m:=1) (by decide);have rk:∀ M,bD I M ((jT.add (q*9)).add 5) 1 [.string u.ns[q].t]:=λM=>(Eh M).part (k:=5) (m:=1) (by decide);have tj:∀ M,bD I M ((jT.add (q*9)).add 6) 1 [.int .i64 u.ns[q].lo]:=λM=>(Eh M).part (k:=6) (m:=1) (by decide);generalize Q4:u.ns[q]=cn at cq cO lL rk tj;refine cU.draw aT rfl rfl rfl ?_;refine a7.mk jT q lk rfl fa ?_;refine aD.mk _ (lL _) ?_;refine aW.mk ((p+min 300 cn.kn:Nat):Int) (e0 (show(p:Int)+min 300 (cn.kn:Int)=_ by omega) (by omega)) ?_;refine a7.mk jT q lk rfl fa ?_;refine aD.mk _ (rk _) ?_;refine h0.mk (by decide) ?_;refine aW.mk ((cn.t.size/20:Nat):Int) (e0 (by rw[I8 (by omega)];omega) (by omega)) ?_;refine aW.mk ((p+min 300 cn.kn+min 300 (cn.t.size/20):Nat):Int) (e0 (by omega) (by omega)) ?_;refine a7.mk jT q lk rfl fa ?_;refine aD.mk _ (tj _) ?_;obtain⟨z,M3,akP,akQ⟩:∃ z:Nat,max (1:Int) (min 9000 cn.lo)=(z:Int)/\1<=z/\z<=9000:=⟨(max (1:Int) (min 9000 cn.lo)).toNat,by omega,by omega,by omega⟩;have hmul:rf*z<=81000000:=by have:=N6 K3 akQ;omega
    have kP:1<=rf*z:=Nat.mul_pos K2 akP;refine aW.mk ((rf*z:Nat):Int) (e0 (show(rf:Int)*max 1 (min 9000 cn.lo)=_ by rw[M3];simp) (by omega)) ?_;refine aW.mk _ (b0 (i:=q) (by omega)) ?_;have xe:min (9000:Int) ((rf*z:Nat):Int)=((min 9000 (rf*z):Nat):Int):=by omega
    refine⟨((_,q+1),min 9000 (rf*z)),⟨⟨⟨⟨by simp only;omega,by simp only;omega,λeh=>?_⟩,by simp only;omega⟩,by simp only;omega,by simp only;omega⟩,by simp only;omega⟩,.refl,.cons .refl (.cons .refl (.cons .refl (.cons (Zo xe) (dO)))),.cons rfl (.cons rfl (.nil))⟩;simp only at eh |-;refine⟨uW,by omega,zw,Q7,λi hi gw=>?_⟩;by_cases e:i=q;·subst e;rw[Q4];exact⟨by omega,by omega⟩
    ·exact Q8 i hi (by omega)
   ·have pB:300<=p:=by have a1:¬ ((p:Nat):Int)<300:=ct b2;omega
    refine aW.mk _ (b0 (i:=k) (by omega)) ?_;exact⟨((p,k+1),rf),⟨⟨⟨out λh=>by omega,BL⟩,K2,K3⟩,by simp only;omega⟩,.refl,ja,.cons rfl (.nil)⟩
   ·have fa:u.n<=q:=by simpa using bn
    refine aW.mk _ (b0 (i:=k) (by omega)) ?_;exact⟨((p,k+1),rf),⟨⟨⟨out λh=>by omega,BL⟩,K2,K3⟩,by simp only;omega⟩,.refl,ja,.cons rfl (.nil)⟩
  ·have pc:300<=m:=by have a1:¬ ((m:Nat):Int)<300:=ct aR;omega
   refine bP.mk (λaV=>?_) (λaV=>?_)
   ·have aV:decide ((300:Int)<=(m:Int))=false:=aV;have kg:m<300:=by have:=ct aV;omega
    refine bP.mk (λaX=>?_) (λaX=>?_)
    ·have aX:decide ((40:Int)<(s.size:Int))=false:=aX;have K4:s.size<=40:=by have:=ct aX;omega
     exact⟨_,_,.refl,⟨_,rfl,λ_=>⟨(fin (λh=>by omega) kg).1,(fin (λh=>by omega) kg).2,K4⟩⟩,rfl,rfl⟩
    ·exact⟨_,_,.refl,⟨true,rfl,λh=>by cases h⟩,rfl,rfl⟩
   ·exact⟨_,_,.refl,⟨true,rfl,λh=>by cases h⟩,rfl,rfl⟩
  ·have Nc:g.n<=k:=by simpa using ae
   refine bP.mk (λaV=>?_) (λaV=>?_)
   ·have aV:decide ((300:Int)<=(m:Int))=false:=aV;have kg:m<300:=by have:=ct aV;omega
    refine bP.mk (λaX=>?_) (λaX=>?_)
    ·have aX:decide ((40:Int)<(s.size:Int))=false:=aX;have K4:s.size<=40:=by have:=ct aX;omega
     exact⟨_,_,.refl,⟨_,rfl,λ_=>⟨(fin (λh=>by omega) kg).1,(fin (λh=>by omega) kg).2,K4⟩⟩,rfl,rfl⟩
    ·exact⟨_,_,.refl,⟨true,rfl,λh=>by cases h⟩,rfl,rfl⟩
   ·exact⟨_,_,.refl,⟨true,rfl,λh=>by cases h⟩,rfl,rfl⟩
def ZB(v:al):Bool:=match v with
 | .p _ _=>true| _=>false
noncomputable def akR:Option al:=b4 (sB kk (jx kk 1000000) 49 [.s [97,32,60,45,32,60,120,58,32,34,112,34,32,97,32,47,32,34,34,62],.s [112,112]] ⟨.nil,0⟩) none λp=>b4 (sB kk (jx kk 1000000) 24 [p.1,.i .i64 0,.i .i64 0] p.2) none λq=>
 b4 (sB kk (jx kk 1000000) 50 [p.1,.i .i64 0,.i .i64 0,.s [109,97,116,99,104,32,50,10,120,32,48,32,50,10,120,32,49,32,50,10,120,32,50,32,50,10]] q.2) none λr=>b7 (ZB p.1) (some (.t [q.1,r.1])) none
def akS:akR=some (.t [.t [.i .i64 3,.i .i64 0],.b true]):=by kernel_rfl
noncomputable def akT:Option al:=b4 (sB kk (jx kk 1000000) 49 [.s [97,32,60,45,32,97],.s [120]] ⟨.nil,0⟩) none λp=>b4 (sB kk (jx kk 1000000) 50 [p.1,.i .i64 0,.i .i64 0,.s [110,111,110,101]] p.2) none λr=>some r.1
def akU:akT=some (.b true):=by kernel_rfl
def akV:K0 1000000 51 [.s [38,34,112,34],.s [112,112],.i .i64 1,.s [109,97,116,99,104,32,49,10]]=some (.b true):=by kernel_rfl
def akW:K0 1000000 51 [.s [33,46],.s [112,112],.i .i64 2,.s [109,97,116,99,104,32,50,10]]=some (.b true):=by kernel_rfl
def ZC(bS:kC I kG):df kk (λ_=>none) ⟨.nil,0⟩ I []:=⟨λid e a h bh=>(by cases bh),λid ih e a4 a bX h U bh=>(by cases bh),λid a h=>(by cases h),Y5 bS⟩
def Q9(bS:kC I kG):Spec Tryz.prog 10 [] I [] λr J mA=>r=.bool true/\(∀ b o,I b=some o->J b=some o)/\mA=[]:=by
 obtain⟨⟨v1,dG⟩,cg,dv⟩:=cL akS;obtain⟨⟨v2,m2⟩,dC,fI⟩:=cL dv;obtain⟨⟨Ei,TH⟩,iE,km⟩:=cL fI;obtain⟨jE,lX⟩:=gF km;simp only[lx,al.t.injEq,ta,and_true]at lX;obtain⟨rfl,rfl⟩:=lX;obtain⟨⟨v4,Hi⟩,b',ch⟩:=cL akU;obtain⟨⟨akX,aoP⟩,dS,e5⟩:=cL ch;simp only[lx]at e5;subst e5;simp only at dC iE jE dS;obtain⟨akY,K5,rfl⟩:∃ id off,v1=.p id off:=by
  unfold ZB at jE;split at jE;·exact⟨_,_,rfl⟩
  ·cases jE
 refine bU [] aT Tryz.func10 rfl rfl rfl ?_;intro B aq;refine aZ.mk [] [] _ (.refl _) (reckon (Y:=kk) aT BV D7 BW cg (us:=[.string ⟨([97,32,60,45,32,60,120,58,32,34,112,34,32,97,32,47,32,34,34,62]:List UInt8).toArray⟩,.string ⟨([112,112]:List UInt8).toArray⟩]) (by simp[bM,aU]) (ZC bS)) ?_;rintro v dm M1 dF⟨tu,-,w7,vI⟩;rw[c8];simp only[aU]at w7;obtain⟨ad,bI,rfl⟩:=w7;refine cC.u2 aT rfl rfl ?_;refine aI.mk (λe=>by cases e) (λ_=>?_);have ru:aU tu (.p akY K5) (.pointer (some ⟨ad.b,ad.o+K5,none⟩)):=by simp only[aU];exact⟨ad,bI,rfl⟩
 refine aZ.mk M1 [] _ (by rw[c8]) (reckon (Y:=kk) aT BV D7 BW dC (us:=[.pointer (some ⟨ad.b,ad.o+K5,none⟩),.int .i64 0,.int .i64 0]) (by simp[bM,aU,bI]) vI) ?_;rintro v eU eJ l5⟨KM,akZ,vo,pc⟩;rw[c8];simp only[aU,bM]at vo;obtain⟨vs,⟨Q',aoQ,rfl,⟨F8,aoR,rfl,rfl,rfl⟩,rfl⟩,rfl⟩:=vo;have Ra:=vI.le akZ _ _ bI;refine aZ.mk eJ [] _ (by rw[c8]) (reckon (Y:=kk) aT BV D7 BW iE (us:=[.pointer (some ⟨ad.b,ad.o+K5,none⟩),.int .i64 0,.int .i64 0,.string ⟨([109,97,116,99,104,32,50,10,120,32,48,32,50,10,120,32,49,32,50,10,120,32,50,32,50,10]:List UInt8).toArray⟩]) (by simp[bM,aU,Ra]) pc) ?_;rintro v g2 kY jR⟨D4,-,vV,kg⟩;rw[c8];simp only[aU]at vV;subst vV;have Hv:kC g2 kG:=bS.mono λb o h=>jR _ _ (l5 _ _ (dF _ _ h));refine bP.mk (λ_=>?_) (λh=>D8 rfl h);refine bP.mk (λ_=>?_) (λh=>D8 rfl h);refine bP.mk (λ_=>?_) (λh=>D8 rfl h);refine aZ.mk [] kY _ (.refl _) (reckon (Y:=kk) aT BV D7 BW b' (us:=[.string ⟨([97,32,60,45,32,97]:List UInt8).toArray⟩,.string ⟨([120]:List UInt8).toArray⟩]) (by simp[bM,aU]) (ZC Hv)) ?_;rintro ak0 j6 lG Qe⟨QG,-,Nq,BS⟩;refine aZ.mk lG kY _ (.refl _) (reckon (Y:=kk) aT BV D7 BW dS (us:=[ak0,.int .i64 0,.int .i64 0,.string ⟨([110,111,110,101]:List UInt8).toArray⟩]) (by simp[bM,aU,Nq]) BS) ?_;rintro v yU nF Qg⟨aoS,-,Jj,aoT⟩;simp only[aU]at Jj;subst Jj;have ZD:kC yU kG:=Hv.mono λb o h=>Qg _ _ (Qe _ _ h);refine bP.mk (λ_=>?_) (λh=>D8 rfl h);refine aZ.mk [] (nF++kY) _ (.refl _) (Zu ZD akV (us:=[.string ⟨([38,34,112,34]:List UInt8).toArray⟩,.string ⟨([112,112]:List UInt8).toArray⟩,.int .i64 1,.string ⟨([109,97,116,99,104,32,49,10]:List UInt8).toArray⟩]) (by simp[bM,aU])) ?_;rintro v I0 I1 ZE⟨rfl,-,rfl⟩;have ak1:kC I0 kG:=ZD.mono ZE;refine bP.mk (λ_=>?_) (λh=>D8 rfl h);refine aZ.mk [] (nF++kY) _ (.refl _) (Zu ak1 akW (us:=[.string ⟨([33,46]:List UInt8).toArray⟩,.string ⟨([112,112]:List UInt8).toArray⟩,.int .i64 2,.string ⟨([109,97,116,99,104,32,50,10]:List UInt8).toArray⟩]) (by simp[bM,aU])) ?_;rintro v CM AO ak2⟨rfl,-,rfl⟩;exact⟨_,[],.sub (eG _) .refl,rfl,λb o h=>ak2 _ _ (ZE _ _ (Qg _ _ (Qe _ _ (jR _ _ (l5 _ _ (dF _ _ h)))))),rfl⟩
section
section
end
section
end
end
def u3.caps{P:cu}{k a:Nat}{o:rq}{e:Int}(h:u3 P k a o e):o.caps.length<=65536:=by
 cases h with
 |none h ar he=>rw[ar];exact bi _| fail h ar he=>rw[ar];exact bi _| many h an ar he=>rw[ar];exact bi _| is h an he a5 iz aw=>omega
def ak3{w:World}(h:ef I M w):ef (kL I M) [] w/\wN I M (kL I M):=by
 refine⟨⟨λb o ag=>?_,by simp,by simp,by simp⟩,⟨λb o ag=>Y2 h.cn h.d ag,λb o ag=>?_⟩⟩
 ·rcases BT ag with ag | ⟨x,ab,rfl,rfl⟩
  ·exact h.i _ _ ag
  ·exact h.m _ ab
 ·rcases BT ag with ag | ⟨x,U,aa,ae⟩
  ·exact .inl ag
  ·exact .inr ⟨x,U,aa,ae⟩
def vd(I:aH)(M:List aE):aH:=λb=>if M.any (λx=>Nat.beq x.num b)then none else I b
def ZF{x:aE}(h:x∈M):vd I M x.num=none:=by unfold vd;rw[dd (List.any_eq_true.2 ⟨x,h,Nat.beq_refl _⟩)]
def Rb(h:∀ x∈M,x.num≠b):vd I M b=I b:=by unfold vd;rw[cG];intro U;obtain⟨x,ab,e⟩:=List.any_eq_true.1 U;exact h x ab (cM e)
def Rc(h:vd I M b=some o):I b=some o/\∀ x∈M,x.num≠b:=by
 have an:∀ x∈M,x.num≠b:=λx ab e=>by subst e;rw[ZF ab]at h;cases h
 exact⟨by rw[Rb an]at h;exact h,an⟩
def ak4{dm:aH}{M1:List aE}{w:World}(h:ef I M w)(U:ef dm M1 w')(aa:Kept (kL I M) [] w dm M1 w') :
  ef (vd dm M) (M1++M) w'/\Kept I M w (vd dm M) (M1++M) w'/\(∀ b o,I b=some o->vd dm M b=some o)/\∀ x∈M1,∀ y∈M,x.num≠y.num:=by
 have gU:∀ x∈M,dm x.num=some x.obj:=λx ab=>aa.le _ _ (QR h.cn ab);have bu:∀ x∈M1,∀ y∈M,x.num≠y.num:=λx ab y aG e=>by have a:=U.d x ab;rw[e,gU y aG]at a;cases a
 have ak5:∀ b o,I b=some o->∀ x∈M,x.num≠b:=λb o ag x ab e=>by have:=h.d x ab;rw[e,ag]at this;cases this
 have bk:∀ b o,I b=some o->vd dm M b=some o:=λb o ag=>by rw[Rb (ak5 b o ag)];exact aa.le _ _ (KR h.d ag)
 have aO:∀ x∈M,x.num<w.heap.size:=λx ab=>(lv.1 (h.m x ab)).1;refine⟨⟨λb o ag=>U.i _ _ (Rc ag).1,λx ab=>?_,λx ab=>?_,?_⟩,⟨bk,λb o ag=>?_,λx ab=>?_,λb ag bb=>aa.c2 b ag (by simp),aa.out,aa.sz⟩,bk,bu⟩
 ·rcases dW.1 ab with ab | ab
  ·exact U.m x ab
  ·exact U.i _ _ (gU x ab)
 ·rcases dW.1 ab with ab | ab
  ·cases he:vd dm M x.num with
   |none=>rfl| some o=>have:=U.d x ab;rw[(Rc he).1]at this;cases this
  ·exact ZF ab
 ·rw[fC,x'];refine⟨U.cn,h.cn,λa ax b ag e=>?_⟩;obtain⟨x,ab,rfl⟩:=dp.1 ax;obtain⟨y,aG,rfl⟩:=dp.1 ag;exact bu x ab y aG e
 ·obtain⟨cg,dv⟩:=Rc ag;rcases aa.tR _ _ cg with dC | dC
  ·rcases BT dC with dC | ⟨x,ab,rfl,-⟩
   ·exact .inl dC
   ·exact absurd rfl (dv x ab)
  ·exact .inr dC
 ·rcases dW.1 ab with ab | ab
  ·rcases aa.vk x ab with⟨y,aG,_⟩ | a
   ·cases aG
   ·exact .inr a
  ·exact .inl ⟨x,ab,rfl⟩
structure x2(T:Nat)(M:List aE)(a:Option Addr)(n c size b:Nat)(vs:List Value):Prop where
 len:vs.length=n*size
 cap:n<=c/\n*b<=140737488355328
 rd:n=0\/∃ g cs,a=some ⟨g,0,none⟩/\(⟨g,.cells cs T (0,0)⟩:aE)∈M/\cs.toList.take (n*size)=vs/\n*size<=cs.size
def x2.mono{a:Option Addr}{c size:Nat}(h:x2 T M a n c size b vs)(bb:∀ x∈M,x∈M'):x2 T M' a n c size b vs:=
 ⟨h.len,h.cap,h.rd.imp id λ⟨g,cs,U,aa,ae,aR⟩=>⟨g,cs,U,bb _ aa,ae,aR⟩⟩
def x2.kL(c6:wN I M J){a:Option Addr}{c size:Nat}(h:x2 T M a n c size b vs):dX J a n c size b vs:=
 ⟨h.len,h.cap,h.rd.imp id λ⟨g,cs,U,aa,ae,aR⟩=>⟨⟨g,0,none⟩,U,rfl,cs,T,(0,0),c6.kn _ _ (.inr ⟨_,aa,rfl,rfl⟩),by rw[oZ];exact ae⟩⟩
def x2.ak6{size e:Nat}{xs:List Value}(h:os.ok size xs)(ag:os.n*b<=140737488355328):x2 e (os.aQ e) (os.a.map λg=>⟨g,0,none⟩) os.n os.c size b xs:=by
 obtain⟨a,n,c,aS⟩:=os;cases a with
 |none=>obtain⟨U,aa⟩:=h.nil rfl;exact⟨h.len,⟨by simp only at U aa |-;omega,ag⟩,.inl U⟩
 |some g=>obtain⟨U,aa,ae,aR⟩:=h.cap g rfl;refine⟨h.len,⟨aa,ag⟩,.inr ⟨g,aS.toArray,rfl,.head _,aR,?_⟩⟩;simp only at U aa |-;have:=rV size aa;show n*size<=aS.length;omega
section
variable{H:Type}{enc:TypeId×Value->H}
def ak7{W:World}{a0:Nat}{v:Value}{d:DataW H}{p:List MemPlace}(h:DataW.Trod enc Tryz.prog W 0 (λ_=>true) true 28 v d p)(ai:Value.okWide Tryz.prog W .any a0 28 v):∃ t:bB,v=t.val/\uA (qj W) t:=by obtain⟨cb,au,-⟩:=CS (P:=Tryz.prog) (t:=28) (l:=[(26,0),(3,1)]) (by kernel_rfl);obtain⟨cs,rfl⟩:=Uo au ai;obtain⟨eI,aF⟩:=h;obtain⟨g,e,aB⟩:=Un aF;refine⟨g,?_,aB⟩;have a4:cs.toList=g.cells:=e;cases cs;simp only at a4;subst a4;rfl
end
open Go Go.Proofs Go.ChangeShapes
section
variable{H:Type}{enc:TypeId×Value->H}{P:Program}{w:World}{a0:Nat}{spare:Nat->Bool}{held:Bool}
def ak8{t e9 ZG t3 t4:TypeId}{args:Array Value}{ds:List (DataW H)}{ps:List MemPlace}(h:DataW.TrodAll enc P w a0 spare held [t,e9,ZG,t3,t4] args.toList ds ps) :
  ∃ v np K6 Ei v4 d xz K7 d3 d4 p hg K8 ti CQ,args=#[v,np,K6,Ei,v4]/\ds=[d,xz,K7,d3,d4]/\ps=p++hg++K8++ti++CQ/\DataW.Trod enc P w a0 spare held t v d p/\DataW.Trod enc P w a0 spare held e9 np xz hg/\DataW.Trod enc P w a0 spare held ZG K6 K7 K8/\DataW.Trod enc P w a0 spare held t3 Ei d3 ti/\DataW.Trod enc P w a0 spare held t4 v4 d4 CQ:=by
 obtain⟨v,vs,d,aoU,p,q,l9,rfl,rfl,ah,vC⟩:=trodAll_cons h;obtain⟨np,rY,xz,aoV,hg,ft,rfl,rfl,rfl,hI,ak9⟩:=trodAll_cons vC;obtain⟨K6,aoW,K7,aoX,K8,aoY,rfl,rfl,rfl,ala,alb⟩:=trodAll_cons ak9;obtain⟨Ei,aoZ,d3,ao0,ti,dT,rfl,rfl,rfl,AV,alc⟩:=trodAll_cons alb;obtain⟨v4,ao1,d4,ao2,CQ,fL,rfl,rfl,rfl,Nr,ald⟩:=trodAll_cons alc;obtain⟨rfl,rfl,rfl⟩:=trodAll_nil ald;exact⟨v,np,K6,Ei,v4,d,xz,K7,d3,d4,p,hg,K8,ti,CQ,by cases args;simp_all,rfl,by simp,ah,hI,ala,AV,Nr⟩
end
def lV(C:Nat->Nat->dc)(k p:Nat)(c:dc):Nat->Nat->dc:=λc7 hg=>bif Nat.beq c7 k&&Nat.beq hg p then c else C c7 hg
def ZH(C:Nat->Nat->dc)(k p:Nat)(c:dc):lV C k p c k p=c:=by simp[lV]
def Hw{C:Nat->Nat->dc}{k p c7 hg:Nat}(h:¬ (c7=k/\hg=p)):lV C k p c c7 hg=C c7 hg:=by
 unfold lV;cases U:Nat.beq c7 k with
 |false=>rfl
 |true=>
  cases aa:Nat.beq hg p with
  |false=>rfl| true=>exact absurd ⟨cM U,cM aa⟩ h
def rS(C:Nat->Nat->dc)(k p:Nat)(c:dc)(c7 hg:Nat):(c7=k/\hg=p/\lV C k p c c7 hg=c)\/(¬ (c7=k/\hg=p)/\lV C k p c c7 hg=C c7 hg):=by
 by_cases h:c7=k/\hg=p
 ·obtain⟨rfl,rfl⟩:=h;exact .inl ⟨rfl,rfl,ZH ..⟩
 ·exact .inr ⟨h,Hw h⟩
structure gr(P:cu)(A:Nat->Nat->Prop)(C:Nat->Nat->dc):Prop where
 le:∀ k a,(C k a).is<=4
 ask:∀ k a,(C k a).is=1->A k a
 ls:∀ k a,(C k a).is=2->qq P A k a
 fin:∀ k a,3<=(C k a).is->bj P k a=(C k a).ce
 z:∀ k a,(C k a).is=3->(C k a).n=0
structure fi(P:cu)(A:Nat->Nat->Prop)(f:(Nat->Nat->b8)->b8)(c:dc):Prop where
 is:c.is=2\/c.is=3\/c.is=4
 ls:c.is=2->ry P A f
 fin:3<=c.is->f (bj P)=c.ce
 z:c.is=3->c.n=0
structure pN(C C':Nat->Nat->dc)(none:Prop):Prop where
 new:∀ k a,(C' k a).is=0->(C k a).is=0
 ls:¬ none->∀ k a,(C' k a).is=2->(C k a).is=2
def pN.refl{C:Nat->Nat->dc}:pN C C p:=⟨λ_ _ h=>h,λ_ _ _ h=>h⟩
def pN.trans{C C' ZI:Nat->Nat->dc}{q r:Prop}(h:pN C C' p)(bh:pN C' ZI q)(aK:p->r)(az:q->r):pN C ZI r:=
 ⟨λk a e=>h.new k a (bh.new k a e),λao k a e=>h.ls (λx=>ao (aK x)) k a (bh.ls (λx=>ao (az x)) k a e)⟩
def pN.s0{C C':Nat->Nat->dc}{q:Prop}(h:pN C C' p)(aK:p->q):pN C C' q:=⟨h.new,λaz=>h.ls λx=>az (aK x)⟩
def ZJ(h:c.is=4):c.ce=⟨c.n,c.to,3⟩:=by unfold dc.ce;rw[h];rfl
def ale(h:c.is=3):c.ce=iS:=by unfold dc.ce;rw[h];rfl
section
variable{P:cu}{A:Nat->Nat->Prop}{C:Nat->Nat->dc}
def qq.alf{je:Nat->Nat->Prop}{k a:Nat}(h:qq P A k a)(eH:∀ x y,A x y->je x y):qq P je k a:=λn ah=>by obtain⟨x,y,fA,U,aa,ae⟩:=h n ah;exact⟨x,y,fA,U,eH _ _ aa,ae⟩
def gr.known(h:gr P A C){k a:Nat}(aq:(C k a).is≠0)(U:(C k a).is≠1):fi P A (λm=>m k a) (C k a):=
 ⟨by have:=h.le k a;omega,λe=>(h.ls k a e).le,λe=>h.fin k a e,λe=>h.z k a e⟩
def gr.asked(h:gr P A C){k a:Nat}(U:(C k a).is=1)(t n:Nat):fi P A (λm=>m k a) ⟨2,t,n⟩:=
 ⟨.inl rfl,λ_ n ah=>⟨k,a,n,b1 _,h.ask k a U,ah⟩,λe=>by simp only at e;omega,λe=>by simp only at e;omega⟩
def gr.push(h:gr P A C){k a:Nat}(aN:c.is=1):gr P (λx y=>A x y\/(x=k/\y=a)) (lV C k a c):=by
 refine⟨λx y=>?_,λx y e=>?_,λx y e=>?_,λx y e=>?_,λx y e=>?_⟩
 ·rcases rS C k a c x y with⟨rfl,rfl,e⟩ | ⟨-,e⟩<;>rw[e]
  ·omega
  ·exact h.le x y
 ·rcases rS C k a c x y with⟨rfl,rfl,a4⟩ | ⟨-,a4⟩
  ·exact .inr ⟨rfl,rfl⟩
  ·rw[a4]at e;exact .inl (h.ask x y e)
 ·rcases rS C k a c x y with⟨rfl,rfl,a4⟩ | ⟨-,a4⟩<;>rw[a4]at e
  ·omega
  ·exact(h.ls x y e).alf λ_ _=>.inl
 ·rcases rS C k a c x y with⟨rfl,rfl,a4⟩ | ⟨-,a4⟩<;>rw[a4]at e |-
  ·omega
  ·exact h.fin x y e
 ·rcases rS C k a c x y with⟨rfl,rfl,a4⟩ | ⟨-,a4⟩<;>rw[a4]at e |-
  ·omega
  ·exact h.z x y e
def gr.pop{er:Nat->Nat->dc}{k a:Nat}{cT:dc}(aq:(C k a).is=0)(h:gr P A C)(sF:cT.is=1)(aa:gr P (λx y=>A x y\/(x=k/\y=a)) er)(aN:fi P (λx y=>A x y\/(x=k/\y=a)) (λm=>cX P m k a) c)(aw:pN (lV C k a cT) er (c.is=2)) :
  gr P A (lV er k a c)/\fi P A (λm=>m k a) c/\pN C (lV er k a c) (c.is=2):=by
 have bk:c.is<=4:=by have:=aN.is;omega
 have jr:c.is=2->qq P A k a:=λe=>aeM (aN.ls e) λx y h=>h;have hold:∀ x y,¬ (x=k/\y=a)->(er x y).is=2->qq P A x y:=λx y bu e=>by
  by_cases ay:c.is=2;·exact(aa.ls x y e).less (jr ay) λx y h=>h
  ·have:=aw.ls ay x y e;rw[Hw bu]at this;exact h.ls x y this
 refine⟨⟨λx y=>?_,λx y e=>?_,λx y e=>?_,λx y e=>?_,λx y e=>?_⟩,⟨aN.is,λe=>(jr e).le,λe=>by rw[<-Js];exact aN.fin e,aN.z⟩,⟨λx y e=>?_,λan x y e=>?_⟩⟩
 ·rcases rS er k a c x y with⟨rfl,rfl,e⟩ | ⟨-,e⟩<;>rw[e]
  ·exact bk
  ·exact aa.le x y
 ·rcases rS er k a c x y with⟨rfl,rfl,a4⟩ | ⟨bu,a4⟩<;>rw[a4]at e
  ·have:=aN.is;omega
  ·rcases aa.ask x y e with h | h
   ·exact h
   ·exact absurd h bu
 ·rcases rS er k a c x y with⟨rfl,rfl,a4⟩ | ⟨bu,a4⟩<;>rw[a4]at e
  ·exact jr e
  ·exact hold x y bu e
 ·rcases rS er k a c x y with⟨rfl,rfl,a4⟩ | ⟨bu,a4⟩<;>rw[a4]at e |-
  ·rw[<-Js];exact aN.fin e
  ·exact aa.fin x y e
 ·rcases rS er k a c x y with⟨rfl,rfl,a4⟩ | ⟨bu,a4⟩<;>rw[a4]at e |-
  ·exact aN.z e
  ·exact aa.z x y e
 ·rcases rS er k a c x y with⟨rfl,rfl,a4⟩ | ⟨bu,a4⟩<;>rw[a4]at e
  ·exact aq
  ·have:=aw.new x y e;rwa [Hw bu]at this
 ·rcases rS er k a c x y with⟨rfl,rfl,a4⟩ | ⟨bu,a4⟩<;>rw[a4]at e
  ·exact absurd e an
  ·have:=aw.ls an x y e;rwa [Hw bu]at this
def Rd(N w:Nat):List (Nat×Nat):=(List.range N).flatMap λk=>(List.range w).map λa=>(k,a)
def alg{N w k a:Nat}:(k,a)∈Rd N w ↔ k<N/\a<w:=by unfold Rd;simp[List.mem_flatMap]
def Re{α:Type}{p q:α->Bool}:∀ {l:List α},(∀ x∈l,p x=true->q x=true)->l.countP p<=l.countP q
 |[],_=>b1 _
 |x::l,h=>by
  have bc:=Re (l:=l) λy aG=>h y (.tail _ aG);have U:=h x (.head _);rw[KJ,KJ];cases aK:p x with
  |false=>cases q x<;>simp<;>omega
  |true=>rw[U aK];simp;omega
def ZK{α:Type}{p q:α->Bool}:∀ {l:List α},(∀ x∈l,p x=true->q x=true)->∀ {z:α},z∈l->p z=false->q z=true->l.countP p<l.countP q
 |[],_,z,a1,_,_=>by cases a1
 |x::l,h,z,a1,ZL,ZM=>by
  have U:=h x (.head _);have bc:=Re (l:=l) λy aG=>h y (.tail _ aG);rw[KJ,KJ];rcases et.1 a1 with rfl | a1;·rw[ZL,ZM];simp;omega
  ·have:=ZK (l:=l) (λy aG=>h y (.tail _ aG)) a1 ZL ZM;cases aK:p x with
   |false=>cases q x<;>simp<;>omega
   |true=>rw[U aK];simp;omega
def B1(N w:Nat)(C:Nat->Nat->dc):Nat:=(Rd N w).countP λx=>Nat.beq (C x.1 x.2).is 0
def K9{N w:Nat}{C C':Nat->Nat->dc}(h:pN C C' p):B1 N w C'<=B1 N w C:=
 Re λx _ e=>by have:=h.new x.1 x.2 (cM e);rw[this];rfl
def alh{N w k a:Nat}(af:k<N)(ax:a<w)(aq:(C k a).is=0)(aN:c.is=1):B1 N w (lV C k a c)<B1 N w C:=by
 refine ZK (λx _ e=>?_) (alg.2 ⟨af,ax⟩) ?_ ?_
 ·rcases rS C k a c x.1 x.2 with⟨U,aa,a4⟩ | ⟨-,a4⟩
  ·rw[U,aa,aq];rfl
  ·rwa [a4]at e
 ·rw[ZH,aN];rfl
 ·simp only[aq];rfl
def fi.to{g:(Nat->Nat->b8)->b8}(h:fi P A g c)(au:lN P f g):fi P A f c:=
 ⟨h.is,λe=>(h.ls e).to au,λe=>au.l.trans (h.fin e),h.z⟩
def fi.none{q a:Nat}(h:fi P A (λm=>m q a) c)(aa:c.is=2)(ah:∀ m,dQ (f m)->dQ (m q a))(aN:c'.is=2):fi P A f c':=
 ⟨.inl aN,λ_=>(h.ls aa).ask ah,λe=>by omega,λe=>by omega⟩
def fi.qK{q a:Nat}(h:fi P A (λm=>m q a) c)(aR:c.is=4):bj P q a=⟨c.n,c.to,3⟩:=by have:=h.fin (by omega);rwa [ZJ aR]at this
def fi.ve{q a:Nat}(h:fi P A (λm=>m q a) c)(ae:c.is=3):bj P q a=iS:=by have:=h.fin (by omega);rwa [ale ae]at this
def fi.rg{q a:Nat}(h:fi P A (λm=>m q a) c)(aR:c.is=4):a<=c.to/\(a<=P.s.size->c.to<=P.s.size)/\c.n<=1099511627776:=by have U:=h.qK aR;have aa:=(tp P q a).ge (by rw[U]);rw[U]at aa;exact aa
def fi.pure(aN:(c.is=3/\c.n=0)\/c.is=4)(h:f (bj P)=c.ce):fi P A f c:=
 ⟨by omega,λe=>by omega,λ_=>h,λe=>by omega⟩
variable{q a n:Nat}{L:List Nat}{c:dc}
def ali:fi P A (λm=>fO m [] a n) ⟨4,a,n⟩:=.pure (.inr rfl) rfl
def alj(h:fi P A (λm=>m q a) c)(aa:c.is=2)(aN:c'.is=2):fi P A (λm=>fO m (q::L) a n) c':=h.none aa (λ_=>Vy) aN
def alk(h:fi P A (λm=>m q a) c)(ae:c.is=3)(t:Nat):fi P A (λm=>fO m (q::L) a n) ⟨3,t,0⟩:=.pure (.inl ⟨rfl,rfl⟩) (by
 show fO (bj P) (q::L) a n=iS;rw[fO,h.ve ae];rfl)
def alm(h:fi P A (λm=>m q a) c)(aR:c.is=4):lN P (λm=>fO m (q::L) a n) (λm=>fO m L c.to (e1 n c.n)):=
 lN.ask (λ_=>Vy) λm e=>by show fO m (q::L) a n=_;rw[fO,e,h.qK aR];rfl
def aln(t:Nat):fi P A (λm=>gb m [] a) ⟨3,t,0⟩:=.pure (.inl ⟨rfl,rfl⟩) rfl
def alo(h:fi P A (λm=>m q a) c)(ae:c.is=3):lN P (λm=>gb m (q::L) a) (λm=>gb m L a):=
 lN.ask (λ_=>Vz) λm e=>by show gb m (q::L) a=_;rw[gb,e,h.ve ae];rfl
def alp(h:fi P A (λm=>m q a) c)(ae:c.is≠3):fi P A (λm=>gb m (q::L) a) c:=by
 refine⟨h.is,λe=>(h.ls e).ask λ_=>Vz,λe=>?_,h.z⟩;have aR:c.is=4:=by have:=h.is;omega
 show gb (bj P) (q::L) a=_;rw[gb,h.qK aR,ZJ aR];rfl
variable{lo hi:Int}{i j:Nat}
def ZN(h:fi P A (λm=>m q a) c)(aa:c.is=2)(aN:c'.is=2):fi P A (λm=>ej m q lo hi (j+1) i a n) c':=h.none aa (λ_=>N0) aN
def ZO(h:fi P A (λm=>m q a) c)(ae:c.is=3)(dw:(i:Int)<lo)(t:Nat):fi P A (λm=>ej m q lo hi (j+1) i a n) ⟨3,t,0⟩:=.pure (.inl ⟨rfl,rfl⟩) (by
 show ej (bj P) q lo hi (j+1) i a n=iS;rw[ej,h.ve ae,gX dw];rfl)
def ZP(h:fi P A (λm=>m q a) c)(ae:c.is=3)(dw:¬ (i:Int)<lo):fi P A (λm=>ej m q lo hi (j+1) i a n) ⟨4,a,n⟩:=.pure (.inr rfl) (by
 show ej (bj P) q lo hi (j+1) i a n=⟨n,a,3⟩;rw[ej,h.ve ae,c0 dw];rfl)
def alq(h:fi P A (λm=>m q a) c)(aR:c.is=4)(bC:hi=-1)(au:c.to=a)(aN:c'.is=2):fi P A (λm=>ej m q lo hi (j+1) i a n) c':=by
 refine⟨.inl aN,λ_=>ry.never λfA ah=>?_,λe=>by omega,λe=>by omega⟩;have U:=za (N0 ah)
 replace ah:dQ (ej (gC P fA) q lo hi (j+1) i a n):=ah
 rw[ej,<-U,h.qK aR,bC,au,gX rfl,gX rfl]at ah;exact absurd ah nT
def ZQ(h:fi P A (λm=>m q a) c)(aR:c.is=4)(bC:¬ (hi=-1/\c.to=a)):lN P (λm=>ej m q lo hi (j+1) i a n) (λm=>ej m q lo hi j (i+1) c.to (e1 n c.n)):=
 lN.ask (λ_=>N0) λm e=>by
  show ej m q lo hi (j+1) i a n=_;rw[ej,e,h.qK aR];have:(decide (hi=-1)&&decide (c.to=a))=false:=by
   by_cases aC:hi=-1;·rw[c0 λay=>bC ⟨aC,ay⟩,Jf]
   ·rw[c0 aC,pe]
  simp only[this];rfl
def alr(bC:hi≠-1):fi P A (λm=>ej m q lo hi 0 i a n) ⟨4,a,n⟩:=.pure (.inr rfl) (by
 show ej (bj P) q lo hi 0 i a n=⟨n,a,3⟩;rw[ej,c0 bC];rfl)
variable{k:Nat}
def Rf(h:fi P A (λm=>m q a) c)(af:(P.av k).d.k=7)(az:(P.av k).bL=[q]):fi P A (λm=>cX P m k a) (bif Nat.beq c.is 4 then⟨4,a,0⟩else bif Nat.beq c.is 3 then⟨3,0,0⟩else c):=by
 have kD:(P.av k).bL.getD 0 0=q:=by rw[az];rfl
 have ah:∀ m,dQ (cX P m k a)->dQ (m q a):=λm=>Jw (.inr (by omega)) kD;rcases h.is with e | e | e
 ·rw[e];exact h.none e ah e
 ·rw[e];refine .pure (.inl ⟨rfl,rfl⟩) ?_;show cX P (bj P) k a=_;rw[st af,kD,h.ve e];rfl
 ·rw[e];refine .pure (.inr rfl) ?_;show cX P (bj P) k a=_;rw[st af,kD,h.qK e];rfl
def Rg(h:fi P A (λm=>m q a) c)(af:(P.av k).d.k=8)(az:(P.av k).bL=[q]):fi P A (λm=>cX P m k a) (bif Nat.beq c.is 3 then⟨4,a,0⟩else bif Nat.beq c.is 4 then⟨3,0,0⟩else c):=by
 have kD:(P.av k).bL.getD 0 0=q:=by rw[az];rfl
 have ah:∀ m,dQ (cX P m k a)->dQ (m q a):=λm=>Jw (.inr (by omega)) kD;rcases h.is with e | e | e
 ·rw[e];exact h.none e ah e
 ·rw[e];refine .pure (.inr rfl) ?_;show cX P (bj P) k a=_;rw[su af,kD,h.ve e];rfl
 ·rw[e];refine .pure (.inl ⟨rfl,rfl⟩) ?_;show cX P (bj P) k a=_;rw[su af,kD,h.qK e];rfl
def ZR(h:fi P A (λm=>m q a) c)(aq:(P.av k).d.k=9)(az:(P.av k).bL=[q]):fi P A (λm=>cX P m k a) (bif Nat.beq c.is 4 then⟨4,c.to,e1 c.n 1⟩else bif Nat.beq c.is 3 then⟨3,0,0⟩else c):=by
 have kD:(P.av k).bL.getD 0 0=q:=by rw[az];rfl
 have ar:∀ m,cX P m k a=bif Nat.beq (m q a).aA 3 then⟨e1 (m q a).n 1,(m q a).to,3⟩else m q a:=λm=>by rw[uI (by omega) (by omega) (by omega) (by omega) (by omega) (by omega) (by omega) (by omega) (by omega),kD]
 have ah:∀ m,dQ (cX P m k a)->dQ (m q a):=λm=>Jw (.inr (by omega)) kD;rcases h.is with e | e | e
 ·rw[e];exact h.none e ah e
 ·rw[e];refine .pure (.inl ⟨rfl,rfl⟩) ?_;show cX P (bj P) k a=_;rw[ar,h.ve e];rfl
 ·rw[e];refine .pure (.inr rfl) ?_;show cX P (bj P) k a=_;rw[ar,h.qK e];rfl
def als(h:fi P A (λm=>m q a) c)(af:(P.av k).d.k=3)(az:(P.av k).bL=[q]):fi P A (λm=>cX P m k a) c:=by
 have kD:(P.av k).bL.getD 0 0=q:=by rw[az];rfl
 refine⟨h.is,λe=>(h.ls e).ask λm=>Jw (.inl af) kD,λe=>?_,h.z⟩;show cX P (bj P) k a=_;rw[uH af,kD];exact h.fin e
end
open Go Go.Proofs
def dc.cells(c:dc):List Value:=[.int .i64 c.is,.int .i64 c.to,.int .i64 c.n]
def dc.val(c:dc):Value:=.agg #[.int .i64 c.is,.int .i64 c.to,.int .i64 c.n]
def dc.da(c:dc):c.cells.length=3:=rfl
def qL(C:Nat->Nat->dc)(k w:Nat):List Value:=(List.range w).flatMap λa=>(C k a).cells
def ZS(C:Nat->Nat->dc)(k w:Nat):(qL C k w).length=w*3:=by unfold qL;rw[g3 _ 3 λa=>rfl,qs]
def alt(C:Nat->Nat->dc)(k w:Nat){a:Nat}(ax:a<w):((qL C k w).drop (a*3)).take 3=(C k a).cells:=by unfold qL;rw[yB _ 3 (λa=>rfl) _ a (by rw[qs];exact ax),nj]
def vf(C:Nat->Nat->dc)(w k b:Nat):aE:=⟨b,.cells (qL C k w).toArray 124 (0,0)⟩
def cF(C:Nat->Nat->dc)(w:Nat):Nat->List Nat->List aE
 |_,[]=>[]| k,b::bs=>vf C w k b::cF C w (k+1) bs
def K'{C:Nat->Nat->dc}{w:Nat}:∀ {bs:List Nat} {k j:Nat} (h:j<bs.length),cF C w k bs=cF C w k (bs.take j)++vf C w (k+j) bs[j]::cF C w (k+j+1) (bs.drop (j+1))
 |b::bs,k,0,_=>rfl| b::bs,k,j+1,h=>by have:=K' (C:=C) (w:=w) (bs:=bs) (k:=k+1) (j:=j) (by simpa using h);rw[cF,this,pX,cF,List.drop_succ_cons,EV,qa,show k+1+j=k+(j+1) by omega]
def Rh{C:Nat->Nat->dc}{w q a:Nat}{c:dc}:∀ {bs:List Nat} {k:Nat},q<k\/k+bs.length<=q->cF (lV C q a c) w k bs=cF C w k bs
 |[],_,_=>rfl| b::bs,k,h=>by have aa:cF (lV C q a c) w (k+1) bs=cF C w (k+1) bs:=Rh (by rw[dL]at h;omega);rw[cF,cF,aa];congr 1;unfold vf qL;congr 4;funext x;rw[Hw (by rw[dL]at h;omega)]
def alu{C:Nat->Nat->dc}{k w a:Nat}(ax:a<w){o:Nat}(aN:bO (C k a).cells o vs=c.cells)(ar:o+vs.length<=3):bO (qL C k w) (a*3+o) vs=qL (lV C k a c) k w:=by
 have e:∀ D:Nat->Nat->dc,qL D k w=((List.range w).map (D k)).flatMap dc.cells:=λD=>by unfold qL;rw[Dc]
 have aw:a<((List.range w).map (C k)).length:=by simpa using ax
 rw[e,e,Jx dc.cells 3 dc.da _ a aw o vs ar c (by rw[lH,nj];exact aN)];congr 1;apply yp
 ·simp
 intro i U aa;have ae:((List.range w).map (lV C k a c k))[i]=lV C k a c k i:=by rw[lH,nj]
 rw[ae,LZ];rcases rS C k a c k i with⟨-,rfl,ay⟩ | ⟨bu,ay⟩
 ·rw[ay,dd rfl]
 ·rw[ay,cG λx=>bu ⟨rfl,x.symm⟩,lH,nj]
def alv{C:Nat->Nat->dc}{w k a:Nat}(af:k<bs.length):cF (lV C k a c) w 0 bs=cF C w 0 (bs.take k)++vf (lV C k a c) w k bs[k]::cF C w (k+1) (bs.drop (k+1)):=by rw[K' af,dK];rw[Rh (C:=C) (k:=0) (bs:=bs.take k) (by rw[mV];omega),Rh (C:=C) (k:=k+1) (by omega)]
structure eM where
 bt:Nat
 s:ByteArray
 g:cE
 ts:List bB
 ba:Option Addr
 Ri:Nat
 Ej:Option Addr
 zC:Nat
 qV:List Value
 bs:List Nat
def eM.w(t:eM):Nat:=t.s.size+1
def eM.P(t:eM):cu:=⟨qD t.g.ds 0 t.ts,t.s,0⟩
def eM.N(t:eM):Nat:=fH t.ts t.ts.length
def eM.cb(t:eM):List Value:=[.string t.s,.slice t.g.a t.g.n t.g.c,.slice t.ba t.ts.length t.Ri,.slice t.Ej t.ts.length t.zC]
structure eM.ok(I:aH)(t:eM):Prop where
 aA:I t.bt=some (.cells t.cb.toArray 122 (0,0))
 g:t.g.ok I
 jT:dX I t.ba t.ts.length t.Ri 2 32 (t.ts.flatMap bB.cells)
 ts:∀ x∈t.ts,x.ok I
 cl:dX I t.Ej t.ts.length t.zC 1 24 t.qV
 md:∀ i (h:i<t.ts.length),∃ fG ep,t.qV[i]?=some (.slice fG t.ts[i].ns.length ep)/\dX I fG t.ts[i].ns.length ep 1 24 ((List.range t.ts[i].ns.length).map λj=>Value.slice (some ⟨t.bs.getD (fH t.ts i+j) 0,0,none⟩) t.w t.w)
 Hx:t.bs.length=t.N
 rt:∀ x∈t.ts,CY x
 di:∀ x∈t.ts,∀ n∈x.ns,n.k=3->0<=cy n.t t.g.ds 0
 a9:∃ more,t.ts=t.g.ds.map (·.t)++more
 sz:t.s.size<=4096
def eM.ok.mono{t:eM}(h:t.ok I)(bx:∀ b o,I b=some o->I' b=some o):t.ok I':=
 { h with aA:=bx _ _ h.aA,g:=h.g.mono bx,jT:=h.jT.mono bx,ts:=λx ab=>(h.ts x ab).mono bx,cl:=h.cl.mono bx,md:=λi hi=>(let ⟨fG,ep,U,aa⟩:=h.md i hi;⟨fG,ep,U,aa.mono bx⟩) }
section
variable{I:aH}{t:eM}
def eM.ok.dH(h:t.ok I)(ak:j<4):bD I M ((⟨t.bt,0,none⟩:Addr).add j) 1 [t.cb.getD j undef]:=by
 rw[ei _ rfl];refine⟨rfl,_,_,_,.inl h.aA,?_,rfl⟩
 match j,ak with
 |0,_=>rfl| 1,_=>rfl| 2,_=>rfl| 3,_=>rfl
def eM.no(t:eM)(i j:Nat):Nat:=fH t.ts i+j
def eM.ZT{i:Nat}(hi:i<t.ts.length)(ak:j<t.ts[i].ns.length):t.no i j<t.N:=by have U:=PD (ts:=t.ts) (i:=i+1) (j:=t.ts.length) hi (b1 _);rw[Kf hi]at U;unfold eM.no eM.N;omega
def eM.av{i:Nat}(hi:i<t.ts.length)(ak:j<t.ts[i].ns.length):t.P.av (t.no i j)=xD t.g.ds (fH t.ts i) t.ts[i].ns[j]:=by have h:=Xs (ds:=t.g.ds) (b:=0) hi ak;rw[dK]at h;unfold cu.av;rw[dI];show((qD t.g.ds 0 t.ts)[fH t.ts i+j]?).getD _=_;rw[h];rfl
def eM.ok.body(h:t.ok I){i:Nat}(hi:i<t.ts.length):∃ ad,t.ba=some ad/\∀ M,bD I M (ad.add (i*2)) 2 t.ts[i].cells:=by obtain⟨ad,U,aa⟩:=dX.row (f:=bB.cells) (λ_=>rfl) h.jT hi hi;exact⟨ad,U,aa⟩
def eM.ok.cell(h:t.ok I){i:Nat}(hi:i<t.ts.length)(ak:j<t.ts[i].ns.length):∃ ac fG ep c1 b,t.Ej=some ac/\(∀ M,bD I M (ac.add (i*1)) 1 [.slice (some fG) t.ts[i].ns.length ep])/\c1=fG /\
  (∀ M,bD I M (fG.add (j*1)) 1 [.slice (some ⟨b,0,none⟩) t.w t.w])/\t.no i j<t.bs.length/\t.bs[t.no i j]?=some b:=by
 obtain⟨fG,ep,U,aa⟩:=h.md i hi;have xf:t.qV.length=t.ts.length:=by have:=h.cl.len;omega
 have dw:i<t.qV.length:=by omega
 have aO:=eM.ZT hi ak;rw[<-h.Hx]at aO;rw[fJ dw,lx]at U;obtain⟨ac,aC,ay⟩:=h.cl.idx (j:=i) (by omega);obtain⟨ad,bf,b3⟩:=aa.idx (j:=j) ak;subst bf;refine⟨ac,ad,ep,ad,t.bs[t.no i j],aC,λM=>?_,rfl,λM=>?_,aO,fJ aO⟩
 ·have:=ay M;rw[h4,eE dw,pX,r5,U]at this;rwa [h4]
 ·have:=b3 M;have fq:j<((List.range t.ts[i].ns.length).map λj=>Value.slice (some ⟨t.bs.getD (fH t.ts i+j) 0,0,none⟩) t.w t.w).length:=by simpa using ak
  rw[h4,eE fq,pX,r5,lH,nj]at this;rw[h4];have e:t.bs.getD (fH t.ts i+j) 0=t.bs[t.no i j]:=by rw[dI];show(t.bs[t.no i j]?).getD 0=_;rw[fJ aO];rfl
  rwa [e]at this
def alw{C:Nat->Nat->dc}{k a w:Nat}(af:k<bs.length)(ag:bs[k]?=some b)(ax:a<w):bD I (cF C w 0 bs++Mr) ((⟨b,0,none⟩:Addr).add (a*3)) 3 (C k a).cells:=by
 have e:bs[k]=b:=by rw[fJ af]at ag;simpa using ag
 have hm:vf C w k b∈cF C w 0 bs++Mr:=by rw[K' af,e,dK];simp
 have:=dP (I:=I) (cs:=qL C k w) (k:=a*3) (n:=3) hm (by rw[ZS];omega);rwa [alt C k w ax]at this
def ZU{C:Nat->Nat->dc}{k a w o:Nat}(af:k<bs.length)(ag:bs[k]?=some b)(ax:a<w)(aN:bO (C k a).cells o vs=c.cells)(ar:o+vs.length<=3)(U:gI vs=true)
  {K:List aE->Prop} (bb:M=a9++(cF C w 0 bs++Mr)) (h:K (a9++(cF (lV C k a c) w 0 bs++Mr))):cV M (((⟨b,0,none⟩:Addr).add (a*3)).add o) vs K:=by
 have e:bs[k]=b:=by rw[fJ af]at ag;simpa using ag
 rw[alv af,e]at h;rw[K' af,e,dK]at bb;rw[show((⟨b,0,none⟩:Addr).add (a*3))=⟨b,a*3,none⟩ by rw[ei _ rfl,dK]];refine cV.oh (a9++cF C w 0 (bs.take k)) (cF C w (k+1) (bs.drop (k+1))++Mr) (qL C k w) 124 (by rw[bb];simp[vf]) (by rw[ZS,oE];omega) U (qL (lV C k a c) k w) (alu ax aN ar) ?_;simpa[vf]using h
end
end Go.V
