/- Part 6 of what the proofs of this seat share: the executor, data in memory, walks.
-/
import Derived.Test.YtelfblhcphnbmaaGreatDoorK5
import Derived.Test.YtelfblhcphnbmaaGreatDoorK2
import Derived.Test.YtelfblhcphnbmaaGreatDoorK3
import Derived.Test.YtelfblhcphnbmaaGreatDoorK4
set_option linter.all false
set_option maxHeartbeats 8000000
namespace Go.V
open Go
def ub:=@List.drop_of_length_le
def zx:=@List.range_succ
def EI:=@Nat.not_lt_zero
def EJ:=@Nat.lt_or_ge
def Il:=@Bool.and_false
variable{P:Program}{f g W n n0 T:Nat}{args:List ak}{I dd I' J:aN}{M M':List aC}{v:ak}{us vs:List Value}{X:cx}{β:Nat->Nat}{w w':World}{E:Env}{aj:a4 ak}{ps:List Nat}{eC:Code}{L:List (List UInt8)}{hX:Loc}{o:Obj}{G:GT}{pr:j5}{D0 D:bu}{m':a8}{ex:q2}{Q:Value->aN->List aC->Prop}{Y:fC}{arr:Array Value}{α:Type}{d:Int}{t:bJ}{deb:List Int}
def Spec.qH{args:List Value}{p q:Value->aN->List aC->Prop}(h:Spec P f args I M p)(ae:∀ v I' M',p v I' M'->q v I' M'):Spec P f args I M q:=by
 rcases h with⟨U,aa⟩ | h
 ·refine .inl ⟨U,λw hw=>?_⟩;refine(aa w hw).mono ?_;rintro e w'⟨v,I',M',ax,az,bc,ct⟩;exact⟨v,I',M',ax,ae _ _ _ az,bc,ct⟩
 ·refine .inr λw hw=>?_;obtain⟨v,w',I',M',ax,az,bc,ct⟩:=h w hw;exact⟨v,w',I',M',ax,ae _ _ _ az,bc,ct⟩
section
variable{Y:fC}{D:bu}{m m':a8}{I:aN}{M:List aC}
def Uz(aH:cB Y.P Y.E)(cS:ua Y.P)(k9:vB Y)(aA:zw Y f)(h:HR Y (jv Y f) g args m=some (v,m'))(hu:bq D args us)(hm:cE Y D m I M) :
  uD Y.P g us I M λr I' M'=>∃ bf,D.ext bf m.n/\aM bf v r/\cE Y bf m' I' M':=by
 unfold HR at h;obtain⟨fn,aw,U⟩:=ch h;obtain⟨c,af,aa⟩:=ch U;obtain⟨hle,ag⟩:=fS aa;obtain⟨aj,aR,aV⟩:=a4.vu args (a4.bare 12) 0;rw[aR]at ag;have uH:∀ t w,aj.get t=some w->args[t]?=some w:=λt w hw=>by
  rcases aV t w hw with⟨_,h⟩ | ⟨_,h⟩;·simpa using h
  ·rw[Nw]at h;cases h
 unfold TC at ag;split at ag
 ·rename_i cv c3 ab;unfold HQ at ag;obtain⟨vs,an,aK⟩:=ch ag;cases aK;exact Uy aH cS k9 aA aw af (bB hle) uH (.inl rfl) ab an rfl hu hm
 ·rename_i cv c3 ab;unfold HQ at ag;obtain⟨vs,an,aK⟩:=ch ag;cases aK;exact Uy aH cS k9 aA aw af (bB hle) uH (.inr rfl) ab an rfl hu hm
 ·cases ag
def UA(aH:cB Y.P Y.E)(cS:ua Y.P)(k9:vB Y)(aA:zw Y f)(h:tU Y (jv Y f) g args m=some (v,m'))(hu:bq D args us)(hm:cE Y D m I M) :
  Spec Y.P g us I M λr I' M'=>∃ bf,D.ext bf m.n/\aM bf v r/\cE Y bf m' I' M':=by
 unfold tU at h;cases aO:Y.pr g args m with
 |none=>rw[aO]at h;exact .inl (Uz aH cS k9 aA h hu hm)| some p=>rw[aO]at h;have a1:some p=some (v,m'):=h;cases a1;exact k9 g args m v m' aO D I M us hu hm
def cc.kept{a:Act}{W:World}{F:Fr}{C:c7}{M0:List aC}(h:cc X β a w F C I' M')(U:X.aq=W)(aa:X.B=W.heap.size)(ag:X.dd=dd)(aK:X.bP=M0.map (·.num)):Kept dd M0 W I' M' w where
 le:=by rw[<-ag];exact h.g3
 sV b o af:=by
  rcases h.gF b o af with bg | bg;·exact .inl (by rw[<-ag];exact bg)
  ·exact .inr (by rw[<-aa];exact bg)
 uC x ab:=by
  rcases h.own x ab with bg | bg;·rw[aK]at bg;obtain⟨y,aG,e⟩:=du.1 bg;exact .inl ⟨y,aG,e⟩
  ·exact .inr (by rw[<-aa];exact bg)
 cY b af av:=by rw[<-U];refine h.cY b (by rw[aa];exact af) λhm=>?_;rw[aK]at hm;obtain⟨y,aG,e⟩:=du.1 hm;exact av y aG e
 out:=by rw[<-U];exact h.out
 sz:=by rw[<-aa];exact h.sz
def UB{R:Type}:∀ {ps:List Nat} {args:List ak} {k8:a4 ak} {K:a4 ak->Option R} {r:R} {us:List Value} {tmps:Array Value},Bm ps args k8 K=some r->bq D args us->(∀ t∈ps,t<tmps.size)->(∀ t v,k8.get t=some v->aM D v (tmps.getD t undef)) -> ∃ eL,K eL=some r/\us.length=ps.length/\((ps.zip us).foldl (λ(tmps:Array Value) (p:Nat×Value)=>tmps.setIfInBounds p.1 p.2) tmps).size=tmps.size /\ ∀ t v,eL.get t=some v->aM D v (((ps.zip us).foldl (λ(tmps:Array Value) (p:Nat×Value)=>tmps.setIfInBounds p.1 p.2) tmps).getD t undef)
 |[],[],k8,K,r,us,tmps,h,hu,aO,aq=>by have:=hu.lL;subst this;exact⟨k8,h,rfl,rfl,aq⟩
 |[],_::_,k8,K,r,us,tmps,h,hu,aO,aq=>by simp[Bm]at h
 |_::_,[],k8,K,r,us,tmps,h,hu,aO,aq=>by simp[Bm]at h
 |t0::ps,uc::args,k8,K,r,us,tmps,h,hu,aO,aq=>by
  obtain⟨x,xs,aR,aV,rfl⟩:=hu.iU;simp only[Bm]at h;obtain⟨eL,U,aa⟩:=a4.mU (some uc) k8 t0;rw[U]at h;have aL:=aO t0 (by simp);obtain⟨sD,ag,aK,bg,bD⟩:=UB (tmps:=tmps.setIfInBounds t0 x) h aV (λt au=>by simpa using aO t (by simp[au])) λt v au=>by
   rw[m6,z4];rcases aa t v au with⟨rfl,e⟩ | ⟨bk,ar⟩;·have:=(mV e);subst this;simp only[o1,aL];exact aR
   ·rw[dc (qT bk),<-m6];exact aq t v ar
  exact⟨sD,ag,by simp[aK],by simpa using bg,bD⟩
def jT.Im{a:Loc}{b:Bool}{body:Code}(h:jT D E M a (.loop b n aj ps eC body)):∃ L,(⟨a.b,.loop L⟩:aC)∈M/\Ek D b n aj ps eC body L:=by
 cases h with
 |loop L U aa=>exact⟨L,U,aa⟩
def jT.aez{a:Loc}{c:Code}{body:Code}(h:jT D E M a (.done c n aj ps eC body)):∃ L,(⟨a.b,.loop L⟩:aC)∈M/\L.state=.done/\L.pending=some c:=by
 cases h with
 |done L U aa ag=>exact⟨L,U,aa,ag⟩
def Ek.mono{bf:bu}(cH:D.le bf){b:Bool}{body:Code}{L:Loop}(h:Ek D b n aj ps eC body L):Ek bf b n aj ps eC body L:={ h with aj:=λt v au=>(h.aj t v au).mono cH }
def cE.swap(h:cE Y D m I M){eB:a4 fj}{l:Nat}{b7 ax:fj}{o':Obj}{Mr:List aC}(ar:m.t.get l=some b7)(aD:D l=some hX)(a7:M.Perm (⟨hX.b,o⟩::Mr))(au:∀ id e,eB.get id=some e->(id=l/\some ax=some e)\/(id≠l/\m.t.get id=some e))
  (he:jT D Y.E (⟨hX.b,o'⟩::Mr) hX ax):cE Y D ⟨eB,m.n⟩ I (⟨hX.b,o'⟩::Mr):=by
 refine h.step (λid e hi=>(au id e hi).imp (λq=>⟨q.1,mV q.2⟩) λq=>q) aD (bu.le_refl D) (λ_ _=>rfl) h.h' (λ_ _ h=>h) (λid e bF bk hi lM x ab av=>?_) he λid e bF bk hi lM af=>bk (h.inj _ _ _ _ _ _ hi ar lM aD af);rcases dE.1 (a7.mem_iff.1 ab)with rfl | ab
 ·exact(bk (h.inj _ _ _ _ _ _ hi ar lM aD av.symm)).elim
 ·exact l' _ ab
end
section
variable{Y:fC}{D:bu}{m m':a8}{I:aN}{M:List aC}
def aeA(aA:zw Y f){l:Nat}(h:My (jv Y f) l args m=some (v,m'))(ay:D l=some hX)(hu:bq D args us)(hm:cE Y D m I M) :
  CS Y.P hX.b us I M λr I' M'=>∃ bf,D.ext bf m.n/\aM bf v r/\cE Y bf m' I' M':=by
 unfold My at h;split at h
 ·rename_i n k8 ps eC body ar;obtain⟨L,a7,b1⟩:=(hm.hy _ _ _ ar ay).Im;intro W gV;have CX:W.heap[hX.b]?=some (.loop L):=gV.m _ a7;have dB:L.state=.ready:=b1.aB;have s7:∀ t∈ps,t<L.tmps.size:=λt au=>by rw[b1.sz];exact b1.op t (by rw[b1.ps];exact au)
  obtain⟨eL,U,hlen,cm,UC⟩:=UB (tmps:=L.tmps) h hu s7 b1.aj;have rn:L.params.size=ps.length:=by rw[<-b1.ps];simp
  refine⟨_,_,_,_,run_yield CX (by rw[rn];simpa using hlen),?_⟩;have Kb:(L.params.zip us.toArray).foldl (λtmps (x:Nat×Value)=>match x with | (t,a)=>tmps.setIfInBounds t a) L.tmps=(ps.zip us).foldl (λ(tmps:Array Value) (p:Nat×Value)=>tmps.setIfInBounds p.1 p.2) L.tmps:=by rw[<-Jr,<-b1.ps];simp
  rw[Kb];generalize br:(ps.zip us).foldl (λ(tmps:Array Value) (p:Nat×Value)=>tmps.setIfInBounds p.1 p.2) L.tmps=T at UC cm;rw[b1.eC,b1.body];have aeB:g1 n eC=true:=by rw[<-b1.eC];exact b1.yt
  have M9:g1 n body=true:=by rw[<-b1.body];exact b1.mG
  refine roundIn_of_wpIn (F:=Fence.wide) (n:=0) trivial ?_;let th:cx:=ia Y n W.heap.size W I (M.map (·.num)) (some hX.b)
  have Cz:cc th (λ_=>0) { tmps:=T,defers:=[] } W (λt=>.val (T.getD t undef)) (λ_=>none) I M:={
   size:=cm.trans b1.sz
   defers:=⟨[],rfl,xP,λr an=>by cases an⟩
   holds:=gV
   aj:=λt=>rfl
   bX:=λs cs ao=>by cases ao
   inj:=λs b0 U=>by simp at U
   g3:=λb o af=>af
   gF:=λb o af=>.inl af
   own:=λx ab=>.inl (du.2 ⟨x,ab,rfl⟩)
   cY:=λb af aw=>rfl
   out:=.refl _
   sz:=b6 _ }
  unfold TE at U;split at U
  ·rename_i sD m2 aeC;have fY:jV th Y.G Y.pr D m.n eL m { tmps:=T,defers:=[] } W:=⟨D,_,_,I,M,⟨_,Cz⟩,λt v ah=>.val (UC t v ah),hm,bu.mX,b6 _⟩;refine wpIn_mono (aA _ _ _ _ _ _ _ _ aeC aeB _ _ _ _ _ D m.n _ _ (λe=>by cases e) fY) ?_;rintro e bN hT⟨rfl,Io,UD,fx,dQ,dt,⟨UE,nu⟩,aeD,re,xt,EK⟩;have tr:Io l=some hX:=by rw[xt l (hm.h' _ _ ay)];exact ay
   have aa:Mw (jv Y f) l n body (m2.t.get l) sD m2=some (v,m'):=U;unfold Mw at aa;split at aa
   ·rename_i fB aeE aeF aeG Mx l1;obtain⟨wV,UF,ud⟩:=(re.hy _ _ _ l1 tr).Im;obtain⟨pre,post,bQ⟩:=ss UF;have iV:dt.Perm (⟨hX.b,.loop wV⟩::(pre++post)):=by rw[bQ];exact qy
    have UG:hT.heap[hX.b]?=some (.loop wV):=nu.holds.m _ UF;have aeH:=(kg.1 UG).1;refine⟨_,run_beginRound UG ud.aB,?_⟩;obtain⟨t3,ag,aK⟩:=a4.mU (some (fj.loop true fB aeE aeF aeG Mx)) m2.t l;rw[ag]at aa;have aeI:cc th UE bN (hT.putObj hX.b (.loop { wV with state:=.busy })) UD fx dQ (⟨hX.b,.loop { wV with state:=.busy }⟩::(pre++post)):=
     (nu.hA (.perm iV .refl)).swap (by simp) (Aq aeH) (λb af=>lf af) (FO _ _ _)
    have l8:cE Y Io ⟨t3,m2.n⟩ dQ (⟨hX.b,.loop { wV with state:=.busy }⟩::(pre++post)):=re.swap l1 tr iV aK (.loop { wV with state:=.busy } (by simp) ⟨rfl,ud.od,ud.sz,ud.aj,ud.ps,ud.eC,ud.body,ud.yt,ud.mG,ud.op⟩);unfold TD at aa;obtain⟨⟨ex,alH,Ip⟩,aeJ,bg⟩:=ch aa;have wq:jV th Y.G Y.pr D m.n sD ⟨t3,m2.n⟩ bN (hT.putObj hX.b (.loop { wV with state:=.busy })):=⟨Io,UD,fx,dQ,_,⟨UE,aeI⟩,aeD,l8,xt,EK⟩;refine wpIn_mono (aA _ _ _ _ _ _ _ _ aeJ M9 _ _ _ _ _ D m.n _ _ (λe=>by cases e) wq) ?_;rintro e fk iy⟨rfl,UH,aeK,aeL,nq,p9,⟨aeM,Iq⟩,alI,DU,UI,UJ⟩;have UK:UH l=some hX:=by rw[UI l (hm.h' _ _ ay)];exact ay
    have bD:Mv l (Ip.t.get l) (Av ex) Ip=some (v,m'):=bg;unfold Mv at bD;split at bD
    ·rename_i zy UL UM UN UO u2;obtain⟨Ny,UP,xv⟩:=(DU.hy _ _ _ u2 UK).Im;obtain⟨UQ,UR,aeN⟩:=ss UP;have US:p9.Perm (⟨hX.b,.loop Ny⟩::(UQ++UR)):=by rw[aeN];exact qy
     have UT:iy.heap[hX.b]?=some (.loop Ny):=Iq.holds.m _ UP;have Nz:=(kg.1 UT).1;obtain⟨t5,eg,eU⟩:=a4.mU (some (bK (Av ex) (fj.loop false zy UL UM UN UO) λc=>fj.done c zy UL UM UN UO)) Ip.t l;rw[eg]at bD;cases bD;have fin:∀ jump,Av ex=jump->∃ k7 w',(Instr.endRound hX.b jump).run Y.P iy=.ok k7 w'/\∃ r I' M',Ending.returned k7=.returned r/\(∃ bf,D.ext bf m.n/\aM bf (.b (Av ex).isNone) r/\cE Y bf ⟨t5,Ip.n⟩ I' M')/\dU I' M' w'/\Kept I M W I' M' w':=by
      rintro jump al;let Ir:Loop:={ Ny with state:=if jump.isNone then .ready else .done,pending:=jump }
      have UU:cc th aeM fk (iy.putObj hX.b (.loop Ir)) aeK aeL nq (⟨hX.b,.loop Ir⟩::(UQ++UR)):=
       (Iq.hA (.perm US .refl)).swap (by simp) (Aq Nz) (λb af=>lf af) (FO _ _ _)
      refine⟨_,_,run_endRound jump UT,_,nq,_,rfl,⟨UH,UI,?_,DU.swap u2 UK US eU ?_⟩,UU.holds,UU.kept rfl rfl rfl rfl⟩;·rw[al];simp[aM]
      ·rw[al];cases jump with
       |none=>exact .loop Ir (by simp) ⟨rfl,rfl,xv.sz,xv.aj,xv.ps,xv.eC,xv.body,xv.yt,xv.mG,xv.op⟩| some c=>exact .done Ir (by simp) rfl rfl
     cases ex with
     |normal=>exact fin none rfl| exit id=>exact fin _ rfl| goto t=>exact fin _ rfl| ret=>exact fin _ rfl
    ·cases bD
   ·cases aa
  ·cases U
 ·cases h
end
section
variable{Y:fC}
def aeO(aH:cB Y.P Y.E)(cS:ua Y.P)(k9:vB Y)(aA:zw Y f):Ez Y (HS Y (jv Y f)):=λadU l m v m' h D I M u us v5 fm hm=>by
 unfold HS at h;split at h
 ·rename_i g bT cs;simp only[aM]at v5;obtain⟨vs,ws,U,aa,rfl⟩:=v5;refine .inl ⟨g,_,_,rfl,?_⟩;have:=UA aH cS k9 aA h (U.append (fm.append aa)) hm;simpa using this
 ·rename_i q;simp only[aM]at v5;obtain⟨hX,U,rfl⟩:=v5;exact .inr ⟨hX.b,rfl,aeA aA h U fm hm⟩
 ·cases h
def jV.world{m:a8}{a:Act}(h:jV X G pr D0 n0 aj m a w):∃ D F β,(∀ t,dV β (F t) (a.tmps.getD t undef))/\oK D F aj:=by obtain⟨D,F,C,I,M,⟨β,aZ⟩,cS,_⟩:=h;exact⟨D,F,β,aZ.aj,cS⟩
def jV.eval{m:a8}{a:Act}(h:jV X G pr D0 n0 aj m a w){x:Operand}{b:Bool}(ab:cI aj x=some (.b b)):a.eval x=.bool b:=by obtain⟨D,F,β,U,aa⟩:=h.world;obtain⟨u,ax,aR⟩:=(aa.op [x]).bm (x:=x) (by simp) ab;rw[cZ U ax,aR.bool]
def fs.ok{x:cW}{u:Value}(h:fs D x v)(ab:dV β x u):aM D v u:=by
 rcases h with⟨y,rfl,h⟩ | ⟨q,rfl,rfl⟩
 ·have:u=y:=ab;subst this;exact h
 ·have:u=.bool q:=ab;subst this;simp[aM]
def aeP(aH:cB Y.P Y.E)(cS:ua Y.P)(k9:vB Y)(aA:zw Y f){hx:Bool}{x:Operand}{ps:Array Tmp}{body:Code}{cv:a4 ak}{m:a8}(h:MA Y (jv Y f) hx n (cI aj x) ps.toList eC body aj m=some (ex,cv,m'))(bb:g1 n (.rangeFunc x ps eC body)=true){B:Nat}{aq:World}{bP:List Nat}{ro:Option Nat}{a:Act}(kp:hx=true->ro=none)(ao:jV (ia Y n B aq dd bP ro) Y.G Y.pr D0 n0 aj m a w) :
  (Code.rangeFunc x ps eC body).wpIn (fW (ia Y n B aq dd bP ro)) 0 Y.P (λe a w=>e=xu ex/\jV (ia Y n B aq dd bP ro) Y.G Y.pr D0 n0 cv m' a w) a w:=by
 unfold MA at h;split at h
 ·rename_i g cap ab;have Kc:=kp rfl;subst Kc;obtain⟨D,F,C,I,M,⟨β,aZ⟩,NA,hm,e',qa⟩:=ao;obtain⟨u,ax,aR⟩:=(NA.op [x]).bm (x:=x) (by simp) ab;simp only[aM]at aR;obtain⟨vs,ws,U,aa,rfl⟩:=aR;have hn:=U.lL;subst hn;simp only[g1,bL]at bb;obtain⟨t1,ag,aK⟩:=Er h;refine wpIn_rangeFunc λfn _=>?_;let eb:Loop:={ state:=.ready,pending:=none,fn:=fn,tmps:=a.tmps,params:=ps,assign:=eC,body:=body,defers:=w.heap.size }
  let l:=w.heap.size+1
  let kU:World:=(w.alloc (.deferred (some []))).alloc (.loop eb)
  have yf:=aZ.P7.m7 (.loop eb);have ay:(w.alloc (.deferred (some []))).heap.size=l:=by simp[l]
  rw[ay]at yf;have aeQ:∀ q∈M,q.num≠l:=λq aE e=>by have:=aZ.holds.lt aE;omega
  have UW:cE Y (D.set m.n ⟨l,0,0⟩) ⟨t1,m.n+1⟩ I (⟨l,.loop eb⟩::M):=hm.new (a:=⟨l,0,0⟩) ag aeQ (.loop eb (by simp) ⟨rfl,rfl,aZ.size,λt v au=>((NA t v au).ok (aZ.aj t)).mono (bu.xg _ hm.fresh),rfl,rfl,rfl,bb.1,bb.2.1,λt au=>bB (gq.1 bb.2.2 t au)⟩);unfold TH at aK;obtain⟨⟨v,m2⟩,kV,bg⟩:=ch aK;have UX:=bu.xg (D:=D) ⟨l,0,0⟩ hm.fresh;have kB:bq (D.set m.n ⟨l,0,0⟩) (.y m.n::cap) (.func (.yield l) #[] #[]::ws):=.cons (by simp only[aM];exact⟨_,bu.pG _ _ _,rfl⟩) (aa.mono UX);obtain⟨n8,x2⟩:=Uz aH cS k9 aA kV kB UW;have aeR:=x2 kU yf.holds;have az:=cZ aZ.aj ax;refine⟨l,[uF w.heap.size],kU,{ target:=.fn (.func g) ws.toArray,args:=#[.func (.yield l) #[] #[]] },kU,g,(.func (.yield l) #[] #[]::ws).toArray,kU,?_,?_,λ_ _=>trivial,?_,(λh=>by cases h),?_⟩;·show(Instr.enterLoop fn a.tmps ps eC body none).run Y.P w=_;exact run_enterLoop_outer fn a.tmps ps eC body
  ·show(Deferred.ofValue (a.eval x) (#[Operand.const (.func (.yield l) #[] #[])].map a.eval)).run Y.P kU=_;rw[az];simp[Deferred.ofValue,Act.eval]
  ·simp only[invoke];rw[show #[Value.func (.yield l) #[] #[]]++ws.toArray=(.func (.yield l) #[] #[]::ws).toArray from by apply fV;simp];exact n8 _ _
  ·refine(JE (X:=ia Y n B aq dd bP none) aeR _).mono ?_;rintro e mF⟨r,j1,wk,rfl,⟨EL,NB,aaw,l8⟩,UY,aeS⟩;have wu:=yf.after (Mr:=[]) (by simp) UY aeS;rw[fo]at wu;have yg:EL m.n=some ⟨l,0,0⟩:=by rw[NB m.n (Cd _)];exact bu.pG _ _ _
   have EM:=UW.le NB;have aeT:oK EL F aj:=λt v au=>(NA t v au).mono (bu.le_trans UX EM);have aeU:D0.ext EL n0:=λi hi=>by
    have eA:i<m.n+1:=by
     have:i<m.n:=by omega
     omega
    rw[NB i eA];show(if i=m.n then _ else D i)=D0 i;rw[dc (by omega)];exact e' i hi
   have fin:∀ (L:Loop) (t4:a4 fj) (j:Option Code),(⟨l,.loop L⟩:aC)∈wk->L.state≠.busy->L.pending=j->(∃ b7,m2.t.get m.n=some b7)->(∀ id e,t4.get id=some e->(id=m.n/\(none:Option fj)=some e)\/(id≠m.n/\m2.t.get id=some e))->n0<=m2.n ->
     ∃ iy,(Instr.endLoop l).run Y.P mF=.ok j iy/\jV (ia Y n B aq dd bP none) Y.G Y.pr D0 n0 aj ⟨t4,m2.n⟩ { a with defers:=[uF w.heap.size]++a.defers } iy:=by
    rintro L t4 j b1 af aO⟨b7,aeV⟩Lf UJ;have aeW:mF.heap[l]?=some (.loop L):=UY.m _ b1;obtain⟨pre,post,bQ⟩:=ss b1;have iV:wk.Perm (⟨l,.loop L⟩::(pre++post)):=by rw[bQ];exact qy
    have kZ:∀ i eE,t4.get i=some eE->i≠m.n/\m2.t.get i=some eE:=λi eE hi=>by
     rcases Lf i eE hi with⟨_,eU⟩ | eU;·cases eU
     ·exact eU
    have Iq:=(wu.hA (.perm iV .refl)).CW (o':=.loop { L with state:=.exhausted });refine⟨_,(by rw[<-aO];exact run_endLoop aeW af),EL,F,C,j1,pre++post,⟨β,Iq⟩,aeT,⟨λi eE b hi ha=>?_,λi fw eE xm b iq hi cT=>l8.inj i fw eE xm b iq (kZ i eE hi).2 (kZ fw xm cT).2,l8.h',l8.oI⟩,aeU,UJ⟩;refine(l8.hy i eE b (kZ i eE hi).2 ha).mono (bu.le_refl EL) λq aE av=>?_;rcases dE.1 (iV.mem_iff.1 aE)with rfl | aE;·exact((kZ i eE hi).1 (l8.inj _ _ _ _ _ _ (kZ i eE hi).2 aeV ha yg av.symm)).elim
    ·exact aE
   have EK:∀ {b7:fj},m2.t.get m.n=some b7->n0<=m2.n:=λ_=>by have:=l8.h' _ _ yg;omega
   have bD:(match m2.t.get m.n with
    |some (.loop false ..)=>m2.t.lK none m.n λt=>some (q2.normal,aj,(⟨t,m2.n⟩:a8))
    |some (.done c ..)=>bK (Mz c) none λex=>m2.t.lK none m.n λt=>some (ex,aj,⟨t,m2.n⟩)
    |_=>none)=some (ex,cv,m'):=bg
   split at bD;·rename_i rq aeX aeY aeZ ae0 nE;obtain⟨L,b1,UZ⟩:=(l8.hy _ _ _ nE yg).Im;obtain⟨t4,eg,eU⟩:=a4.mU (none:Option fj) m2.t m.n;rw[eg]at bD;cases bD;obtain⟨iy,eK,rc⟩:=fin L t4 none b1 (by rw[UZ.aB];simp) UZ.od ⟨_,nE⟩ eU (EK nE);exact⟨none,iy,eK,rfl,rc⟩
   ·rename_i c rq aeX aeY aeZ ae0 nE;obtain⟨L,b1,dB,ae1⟩:=(l8.hy _ _ _ nE yg).aez;obtain⟨zo,hex,bD⟩:=ch bD;obtain⟨t4,eg,eU⟩:=a4.mU (none:Option fj) m2.t m.n;rw[eg]at bD;cases bD;obtain⟨iy,eK,rc⟩:=fin L t4 (some c) b1 (by rw[dB];simp) ae1 ⟨_,nE⟩ eU (EK nE);refine⟨some c,iy,eK,?_⟩;unfold Mz at hex;split at hex
    ·cases hex;exact wpIn_exit ⟨rfl,rc⟩
    ·cases hex;exact wpIn_goto ⟨rfl,rc⟩
    ·cases hex;exact wpIn_ret ⟨rfl,rc⟩
    ·cases hex
   ·cases bD
 ·cases h
end
section
variable{Y:fC}
def U0{next:Act->World->Prop}{Q:Exit->Act->World->Prop}{a:Act}(h:Q (xu ex) a w)(bk:ex≠.normal):Exit.then next Q (xu ex) a w:=by cases ex<;>first | exact(bk rfl).elim | exact h
def ae2(aH:cB Y.P Y.E)(cS:ua Y.P)(k9:vB Y)(iH:Y.P.follows .mixedOrders=true):∀ f k,k<=f->zw Y k:=by
 intro f
 induction f with
 |zero=>
  intro k ae hx n c aj m ex cv m' h;have:k=0:=by omega
  subst this;cases h
 |succ f a2=>
  intro k ae;by_cases ae3:k<=f;·exact a2 k ae3
  have ys:k=f+1:=by omega
  subst ys;have aA:=a2 f (b6 _);have kV:=aeO aH cS k9 aA;intro hx n c aj m ex cv m' h bb B aq dd bP ro D0 n0 a w kp ao;have U:MB Y f (jv Y f) hx n c aj m=some (ex,cv,m'):=h;have iR:=@ia.fM Y n B aq dd bP ro;unfold MB at U;cases c with
  |skip=>cases U;exact wpIn_skip ⟨rfl,ao⟩| label l=>cases U;exact wpIn_label ⟨rfl,ao⟩| ret=>cases U;exact wpIn_ret ⟨rfl,ao⟩| exit id=>cases U;exact wpIn_exit ⟨rfl,ao⟩| goto l=>cases U;exact wpIn_goto ⟨rfl,ao⟩| refuse s=>cases U
  |seq x y=>
   simp only[g1,bL]at bb;simp only[Eg]at U;split at U;·rename_i eL c3 ab;refine wpIn_seq (wpIn_mono (aA _ _ _ _ _ _ _ _ ab bb.1 B aq dd bP ro D0 n0 a w kp ao) ?_);rintro e bN hT⟨rfl,fY⟩;exact aA _ _ _ _ _ _ _ _ U bb.2 B aq dd bP ro D0 n0 bN hT kp fY
   ·rename_i eO;refine wpIn_seq (wpIn_mono (aA _ _ _ _ _ _ _ _ U bb.1 B aq dd bP ro D0 n0 a w kp ao) ?_);rintro e bN hT⟨rfl,fY⟩;exact U0 ⟨rfl,fY⟩ λe=>eO cv m' (by rw[U,e])
  |block id c=>
   simp only[g1]at bb;simp only[TF]at U;split at U
   ·rename_i j eL c3 ab;refine wpIn_block (wpIn_mono (aA _ _ _ _ _ _ _ _ ab bb B aq dd bP ro D0 n0 a w kp ao) ?_);rintro e bN hT⟨rfl,fY⟩;simp only[xu,Exit.inBlock];by_cases al:j=id
    ·subst al;rw[o3]at U;have aa:some (q2.normal,eL,c3)=some (ex,cv,m'):=U;cases aa;rw[dv rfl];exact⟨rfl,fY⟩
    ·rw[gh al]at U;have aa:some (q2.exit j,eL,c3)=some (ex,cv,m'):=U;cases aa;rw[dc al];exact⟨rfl,fY⟩
   ·rename_i eO;refine wpIn_block (wpIn_mono (aA _ _ _ _ _ _ _ _ U bb B aq dd bP ro D0 n0 a w kp ao) ?_);rintro e bN hT⟨rfl,fY⟩;cases ex with
    |exit j=>exact(eO j cv m' U).elim| normal=>exact⟨rfl,fY⟩| goto l=>exact⟨rfl,fY⟩| ret=>exact⟨rfl,fY⟩
  |cond x dw ef=>
   simp only[g1,bL]at bb;simp only[TG]at U;split at U
   ·rename_i b ab;refine wpIn_cond (ao.eval ab) ?_;cases b with
    |true=>exact aA _ _ _ _ _ _ _ _ U bb.1 B aq dd bP ro D0 n0 a w kp ao| false=>exact aA _ _ _ _ _ _ _ _ U bb.2 B aq dd bP ro D0 n0 a w kp ao
   ·cases U
  |loop c=>
   simp only[g1]at bb;let J (k:Nat) (a:Act) (w:World):Prop:=k<=f+1/\∃ eL c3,jv Y k hx n (.loop c) eL c3=some (ex,cv,m')/\jV (ia Y n B aq dd bP ro) Y.G Y.pr D0 n0 eL c3 a w
   refine FX J (m:=f+1) ⟨b6 _,aj,m,h,ao⟩ ?_;rintro k bN hT⟨ae,eL,c3,aa,fY⟩;cases k with
   |zero=>cases aa
   |succ k=>
    have U1:=a2 k (by omega);have ag:Eg (jv Y k hx n c eL c3) (jv Y k hx n (.loop c))=some (ex,cv,m'):=aa;simp only[Eg]at ag;split at ag;·rename_i sD m2 ab;refine wpIn_mono (U1 _ _ _ _ _ _ _ _ ab bb B aq dd bP ro D0 n0 bN hT kp fY) ?_;rintro e cG kU⟨rfl,ja⟩;exact⟨k,Cd k,by omega,sD,m2,ag,ja⟩
    ·rename_i eO;refine wpIn_mono (U1 _ _ _ _ _ _ _ _ ag bb B aq dd bP ro D0 n0 bN hT kp fY) ?_;rintro e cG kU⟨rfl,ja⟩;exact U0 ⟨rfl,ja⟩ λe=>eO cv m' (by rw[ag,e])
  |region id ops ae4=>
   cases ae4 with
   |false=>simp only[HT]at U;obtain⟨⟨eL,c3⟩,ab,aa⟩:=ch U;cases aa;refine wpIn_region ?_;have:=Nd (X:=ia Y n B aq dd bP ro) (G:=Y.G) (pr:=Y.pr) (D0:=D0) (n0:=n0) aH iR kV ops (λe a w=>e=xu .normal/\jV (ia Y n B aq dd bP ro) Y.G Y.pr D0 n0 eL c3 a w) (λa w h=>⟨rfl,h⟩) ops.toList 0 (by simp) (FW bb) ab ao;have eK:wpOpsIn (fW (ia Y n B aq dd bP ro)) 0 Y.P ops (λe a w=>e=xu .normal/\jV (ia Y n B aq dd bP ro) Y.G Y.pr D0 n0 eL c3 a w) (List.range' 0 ops.toList.length) a w:=this;rw[Jp];simpa using eK
   |true=>simp only[HT]at U;obtain⟨⟨eL,c3⟩,ab,aa⟩:=ch U;cases aa;exact ad4 (X:=ia Y n B aq dd bP ro) (G:=Y.G) (pr:=Y.pr) (D0:=D0) (n0:=n0) aH iR kV iH bb ab (λa w h=>⟨rfl,h⟩) ao
  |scope c=>
   simp only[g1]at bb;have step:∀ (k:Nat) (x:Code) (eL:a4 ak) (c3:a8) (bN:Act) (hT:World),g1 n x=true->Eh (jv Y f) hx n c (k+1) x eL c3=some (ex,cv,m')->jV (ia Y n B aq dd bP ro) Y.G Y.pr D0 n0 eL c3 bN hT ->
     x.wpIn (fW (ia Y n B aq dd bP ro)) 0 Y.P (λe bF w'=>match e with
      | .goto l=>∃ rest sD m2,findLabel c l=some rest/\Eh (jv Y f) hx n c k rest sD m2=some (ex,cv,m')/\jV (ia Y n B aq dd bP ro) Y.G Y.pr D0 n0 sD m2 bF w'| e=>e=xu ex/\jV (ia Y n B aq dd bP ro) Y.G Y.pr D0 n0 cv m' bF w') bN hT:=λk x eL c3 bN hT ab aa fY=>by
    have ag:(match jv Y f hx n x eL c3 with
     |some (.goto l,aj,m)=>bK (findLabel c l) none λrest=>Eh (jv Y f) hx n c k rest aj m
     |r=>r)=some (ex,cv,m'):=aa
    split at ag;·rename_i l sD m2 he;obtain⟨rest,tf,aK⟩:=ch ag;refine wpIn_mono (aA _ _ _ _ _ _ _ _ he ab B aq dd bP ro D0 n0 bN hT kp fY) ?_;rintro e cG kU⟨rfl,ja⟩;exact⟨rest,sD,m2,tf,aK,ja⟩
    ·rename_i eO;refine wpIn_mono (aA _ _ _ _ _ _ _ _ ag ab B aq dd bP ro D0 n0 bN hT kp fY) ?_;rintro e cG kU⟨rfl,ja⟩;cases ex with
     |goto l=>exact(eO l cv m' ag).elim| exit j=>exact⟨rfl,ja⟩| normal=>exact⟨rfl,ja⟩| ret=>exact⟨rfl,ja⟩
   let J (l k:Nat) (a:Act) (w:World):Prop:=∃ rest eL c3,findLabel c l=some rest/\Eh (jv Y f) hx n c k rest eL c3=some (ex,cv,m')/\jV (ia Y n B aq dd bP ro) Y.G Y.pr D0 n0 eL c3 a w
   cases f with
   |zero=>cases U
   |succ wI=>
    refine P5 J (wpIn_mono (step wI c aj m a w bb U ao) ?_) ?_
    ·intro e bN hT he;cases e with
     |goto l=>exact⟨wI,he⟩| _=>exact he
    ·rintro l k bN hT⟨rest,eL,c3,tf,aa,fY⟩;cases k with
     |zero=>cases aa
     |succ k=>
      refine⟨rest,tf,wpIn_mono (step k rest eL c3 bN hT (Nv bb tf) aa fY) ?_⟩;intro e cG kU he;cases e with
      |goto cU=>exact⟨k,Cd k,he⟩| _=>exact he
  |rangeFunc x ps eC body=>exact aeP aH cS k9 aA U bb kp ao
def reckon(aH:cB Y.P Y.E)(cS:ua Y.P)(k9:vB Y)(iH:Y.P.follows .mixedOrders=true){m:a8}(h:tU Y (jv Y f) g args m=some (v,m'))(hu:bq D args us)(hm:cE Y D m I M) : Spec Y.P g us I M λr I' M'=>∃ bf,D.ext bf m.n/\aM bf v r/\cE Y bf m' I' M':=
 UA aH cS k9 (ae2 aH cS k9 iH f f (b6 _)) h hu hm
end
def U2(h:dU I M w)(U:dU I' M' w')(aa:Kept I [] w I' M' w') :
  dU I' (M'++M) w'/\Kept I M w I' (M'++M) w'/\∀ x∈M',∀ y∈M,x.num≠y.num:=by
 have aL:∀ x∈M,x.num<w.heap.size:=λx ab=>(kg.1 (h.m x ab)).1;have c1:∀ x∈M',w.heap.size<=x.num:=λx ab=>by
  rcases aa.uC x ab with⟨y,aG,_⟩ | h;·cases aG
  ·exact h
 have bk:∀ x∈M',∀ y∈M,x.num≠y.num:=λx ab y aG e=>by have:=aL y aG;have:=c1 x ab;omega
 refine⟨⟨U.i,λx ab=>?_,λx ab=>?_,?_⟩,⟨aa.le,aa.sV,λx ab=>?_,λb af _=>aa.cY b af (by simp),aa.out,aa.sz⟩,bk⟩
 ·rcases en.1 ab with ab | ab
  ·exact U.m x ab
  ·rw[aa.cY x.num (aL x ab) (by simp)];exact h.m x ab
 ·rcases en.1 ab with ab | ab
  ·exact U.d x ab
  ·cases he:I' x.num with
   |none=>rfl
   |some o=>
    rcases aa.sV _ _ he with ag | ag;·rw[h.d x ab]at ag;cases ag
    ·have:=aL x ab;omega
 ·rw[gg,xM];refine⟨U.bS,h.bS,λa aD b af e=>?_⟩;obtain⟨x,ab,rfl⟩:=du.1 aD;obtain⟨y,aG,rfl⟩:=du.1 af;exact bk x ab y aG e
 ·rcases en.1 ab with ab | ab
  ·exact .inr (c1 x ab)
  ·exact .inl ⟨x,ab,rfl⟩
def Spec.frame{args:List Value}(h:Spec P f args I [] Q):Spec P f args I M λr I' lX=>∃ M',lX=M'++M/\(∀ x∈M',∀ y∈M,x.num≠y.num)/\(∀ b o,I b=some o->I' b=some o)/\Q r I' M':=by
 have aq:∀ {w:World},dU I M w->dU I [] w:=λhw=>⟨hw.i,by simp,by simp,by simp⟩;rcases h with⟨U,aa⟩ | h
 ·refine .inl ⟨U,λw hw=>?_⟩;refine(aa w (aq hw)).mono ?_;rintro e w'⟨v,I',M',ax,az,bc,ct⟩;obtain⟨aR,aV,bl⟩:=U2 hw bc ct;exact⟨v,I',M'++M,ax,⟨M',rfl,bl,ct.le,az⟩,aR,aV⟩
 ·refine .inr λw hw=>?_;obtain⟨v,w',I',M',ax,az,bc,ct⟩:=h w (aq hw);obtain⟨aR,aV,bl⟩:=U2 hw bc ct;exact⟨v,w',I',M'++M,ax,⟨M',rfl,bl,ct.le,az⟩,aR,aV⟩
mutual
def ib(k:Nat):ak->ak
 | .p id off=>.p (Nat.add id k) off| .sl id off n c=>.sl (Nat.add id k) off n c| .sx id off e n=>.sx (Nat.add id k) off e n| .m id=>.m (Nat.add id k)| .y id=>.y (Nat.add id k)| .f g l r=>.f g (oN k l) (oN k r)| .A8 t v=>.A8 t (ib k v)| .t l=>.t (oN k l)| .a l=>.a (oN k l)| .b x=>.b x| .i a n=>.i a n| .s l=>.s l| .pn=>.pn| .g n off=>.g n off| .sn=>.sn| .gs n off a c=>.gs n off a c| .so=>.so| .mn=>.mn| .fn=>.fn| .ni=>.ni
def oN(k:Nat):List ak->List ak
 |[]=>[]| v::l=>ib k v::oN k l
end
section
mutual
def BC{D0 D:bu}{k:Nat}(cH:∀ id a,D0 id=some a->D (Nat.add id k)=some a):∀ (v:ak) {u:Value},aM D0 v u->aM D (ib k v) u
 | .p id off,u,h=>by simp only[aM,ib]at h |-;obtain⟨a,aD,h⟩:=h;exact⟨a,cH _ _ aD,h⟩
 | .sl id off n c,u,h=>by simp only[aM,ib]at h |-;obtain⟨a,aD,h⟩:=h;exact⟨a,cH _ _ aD,h⟩
 | .sx id off e n,u,h=>by simp only[aM,ib]at h |-;obtain⟨a,aD,h⟩:=h;exact⟨a,cH _ _ aD,h⟩
 | .m id,u,h=>by simp only[aM,ib]at h |-;obtain⟨a,aD,h⟩:=h;exact⟨a,cH _ _ aD,h⟩
 | .y id,u,h=>by simp only[aM,ib]at h |-;obtain⟨a,aD,h⟩:=h;exact⟨a,cH _ _ aD,h⟩
 | .f g l r,u,h=>by simp only[aM,ib]at h |-;obtain⟨vs,ws,U,aa,h⟩:=h;exact⟨vs,ws,EN cH l U,EN cH r aa,h⟩
 | .A8 t v,u,h=>by simp only[aM,ib]at h |-;obtain⟨x,U,h⟩:=h;exact⟨x,BC cH v U,h⟩
 | .t l,u,h=>by simp only[aM,ib]at h |-;obtain⟨x,U,h⟩:=h;exact⟨x,EN cH l U,h⟩
 | .a l,u,h=>by simp only[aM,ib]at h |-;obtain⟨x,U,h⟩:=h;exact⟨x,EN cH l U,h⟩
 | .b x,u,h=>by simpa only[aM,ib]using h
 | .i a n,u,h=>by simpa only[aM,ib]using h
 | .s l,u,h=>by simpa only[aM,ib]using h
 | .pn,u,h=>by simpa only[aM,ib]using h
 | .g n off,u,h=>by simpa only[aM,ib]using h
 | .sn,u,h=>by simpa only[aM,ib]using h
 | .gs n off a c,u,h=>by simpa only[aM,ib]using h
 | .so,u,h=>by simpa only[aM,ib]using h
 | .mn,u,h=>by simpa only[aM,ib]using h
 | .fn,u,h=>by simpa only[aM,ib]using h
 | .ni,u,h=>by simpa only[aM,ib]using h
def EN{D0 D:bu}{k:Nat}(cH:∀ id a,D0 id=some a->D (Nat.add id k)=some a):∀ (l:List ak) {us:List Value},bq D0 l us->bq D (oN k l) us
 |[],us,h=>by simpa only[bq,oN]using h
 |v::l,us,h=>by simp only[bq,oN]at h |-;obtain⟨x,xs,U,aa,h⟩:=h;exact⟨x,xs,BC cH v U,EN cH l aa,h⟩
end
end
inductive sE where
 |cells(l:List ak)(T:Nat)| map (es:List (ak×ak))
noncomputable def EO:fj->Option sE
 | .cells cs T eT=>cs.A7 0 eT λl=>some (.cells l T)
 | .map es=>some (.map es)| _=>none
noncomputable def readAll(t:a4 fj):Nat->Nat->Option (List sE)
 |_,0=>some []| id,n+1=>bK (t.get id) none λe=>bK (EO e) none λs=>bK (readAll t (Nat.add id 1) n) none λl=>some (s::l)
def NC(k:Nat):List (ak×ak)->List (ak×ak)
 |[]=>[]| p::l=>(ib k p.1,ib k p.2)::NC k l
noncomputable def sE.hy(k:Nat):sE->fj
 | .cells l T=>a4.vo (oN k l) .nil 0 λcs=>.cells cs T l.length
 | .map es=>.map (NC k es)
noncomputable def Is{R:Type}(k:Nat):List sE->Nat->a4 fj->(a4 fj->R)->R
 |[],_,t,K=>K t| s::l,id,t,K=>t.lK (some (s.hy k)) id λt=>Is k l (Nat.add id 1) t K
noncomputable def ND(v:ak)(L:List sE)(m:a8):Option (ak×a8):=pF m.n λn=>pF (Nat.add n L.length) λfB=>Is n L n m.t λt=>some (ib n v,⟨t,fB⟩)
def U3{t:a4 fj}:∀ {n id:Nat} {L:List sE},readAll t id n=some L->L.length=n/\∀ j s,L[j]?=some s->∃ e,t.get (id+j)=some e/\EO e=some s
 |0,id,L,h=>by cases h;exact⟨rfl,by simp⟩
 |n+1,id,L,h=>by
  unfold readAll at h;obtain⟨e,U,h⟩:=ch h;obtain⟨s,aa,h⟩:=ch h;obtain⟨l,ag,h⟩:=ch h;cases h;obtain⟨aR,aV⟩:=U3 ag;refine⟨by simp[aR],λj b0 al=>?_⟩;cases j with
  |zero=>cases al;exact⟨e,U,aa⟩| succ j=>obtain⟨a0,cM,cp⟩:=aV j b0 (by simpa using al);refine⟨a0,?_,cp⟩;rw[<-cM];congr 1;show id+(j+1)=id+1+j;omega
def U4(k:Nat):∀ (L:List sE) (id:Nat) (t:a4 fj),∃ eB:a4 fj,(∀ {R:Type} (K:a4 fj->R),Is k L id t K=K eB) /\ ∀ j e,eB.get j=some e->(id<=j/\∃ s,L[j-id]?=some s/\e=s.hy k)\/((j<id\/id+L.length<=j)/\t.get j=some e)
 |[],id,t=>⟨t,λK=>rfl,λj e h=>.inr ⟨by simp;omega,h⟩⟩
 |s::L,id,t=>by
  obtain⟨t1,U,aa⟩:=a4.mU (some (s.hy k)) t id;obtain⟨eB,ag,aK⟩:=U4 k L (id+1) t1;refine⟨eB,λK=>?_,λj e h=>?_⟩;·unfold Is;rw[U];exact ag K
  ·rcases aK j e h with⟨aR,b0,aV,bl⟩ | ⟨aR,aV⟩
   ·refine .inl ⟨by omega,b0,?_,bl⟩;rw[show j-id=(j-(id+1))+1 by omega];simpa using aV
   ·rcases aa j e aV with⟨rfl,bl⟩ | ⟨bl,fP⟩
    ·refine .inl ⟨b6 _,s,by simp,?_⟩;cases bl;rfl
    ·refine .inr ⟨?_,fP⟩;simp only[c5];omega
def ae5{k:Nat}(cH:∀ id a,D0 id=some a->D (Nat.add id k)=some a){es:List (ak×ak)}{l:List MapEntry}(h:oL D0 es l):oL D (NC k es) l:=by
 induction h with
 |nil=>exact .nil| cons ae ah t a2=>exact .cons (BC cH _ ae) (BC cH _ ah) a2
def U5{k:Nat}:∀ {l:List ak} {i:Nat} {v:ak},(oN k l)[i]?=some v->∃ uc,l[i]?=some uc/\v=ib k uc
 |[],i,v,h=>by simp[oN]at h
 |x::l,0,v,h=>by simp only[oN,List.getElem?_cons_zero,ki]at h;exact⟨x,rfl,h.symm⟩
 |x::l,i+1,v,h=>by simp only[oN,FE]at h;simpa using U5 h
def ae6{k:Nat}(cH:∀ id a,D0 id=some a->D (Nat.add id k)=some a)(a7:∀ x∈M,x∈M'){a:Loc}{e:fj}{s:sE}(h:jT D0 E M a e)(an:EO e=some s):jT D E M' a (s.hy k):=by
 cases h with
 | @cells cs T eT arr aq U aa ag aK bg=>
  unfold EO at an;obtain⟨l,aR,aV,bl⟩:=a4.Bn cs eT 0 _ _ an;cases bl;obtain⟨eB,cM,cp⟩:=a4.vu (oN k l) (.nil:a4 ak) 0;show jT D E M' a (a4.vo (oN k l) .nil 0 λcs=>fj.cells cs T l.length);rw[cM,aR];refine .cells arr aq (a7 _ U) aa (λi v hi ar=>?_) aK bg;rcases cp i v ar with⟨_,h⟩ | ⟨_,h⟩;·obtain⟨uc,ax,rfl⟩:=U5 (by simpa using h);have:=aV i hi;rw[dK,ax]at this;obtain⟨x,f1,f2⟩:=ag i uc hi this;exact⟨x,f1,BC cH _ f2⟩
  ·cases h
 |map l clock U aa=>cases an;exact .map l clock (a7 _ U) (ae5 cH aa)| loop L U aa=>cases an| done L U aa ag=>cases an
def ae7(aH:cB Y.P Y.E)(cS:ua Y.P)(iH:Y.P.follows .mixedOrders=true){nS:a8}{uc:ak}{L:List sE}(aq:tU ⟨Y.P,Y.E,λ_=>none,λ_ _ _=>none⟩ (jv ⟨Y.P,Y.E,λ_=>none,λ_ _ _=>none⟩ f) g args ⟨.nil,0⟩=some (uc,nS))(b1:readAll nS.t 0 nS.n=some L)(dL:∀ D us,bq D args us->bq (λ_=>none) args us){m:a8}(h:ND uc L m=some (v,m'))(hu:bq D args us)(hm:cE Y D m I M) :
  Spec Y.P g us I M λr I' M'=>∃ bf,D.ext bf m.n/\aM bf v r/\cE Y bf m' I' M':=by
 have k9:vB ⟨Y.P,Y.E,λ_=>none,λ_ _ _=>none⟩:=λg vs m v m' h=>by cases h
 have ae8:cE ⟨Y.P,Y.E,λ_=>none,λ_ _ _=>none⟩ (λ_=>none) ⟨.nil,0⟩ I []:=⟨λid e a h a1=>(by cases a1),λid hh e a0 a bF h U a1=>(by cases a1),λid a h=>(by cases h),λg cs h=>(by cases h)⟩;have ao:=(reckon (Y:=⟨Y.P,Y.E,λ_=>none,λ_ _ _=>none⟩) aH cS k9 iH aq (dL D us hu) ae8).frame (M:=M);refine Spec.qH ao ?_;rintro r I' lX⟨M0,rfl,bk,hle,D0,-,ah,BD⟩;unfold ND at h;rw[MC,MC]at h;obtain⟨eB,U,aa⟩:=U4 m.n L m.n m.t;rw[U]at h;cases h;obtain⟨aR,aV⟩:=U3 b1;let bf:bu:=λid=>if id<m.n then D id else D0 (id-m.n)
 have cH:∀ id a,D0 id=some a->bf (Nat.add id m.n)=some a:=λid a aD=>by show(if id+m.n<m.n then D (id+m.n)else D0 (id+m.n-m.n))=some a;rw[dc (by omega),Nat.add_sub_cancel,aD]
 have Co:D.le bf:=λid a aD=>by show(if id<m.n then D id else D0 (id-m.n))=some a;rw[dv (hm.h' _ _ aD),aD]
 have lo:∀ id,id<m.n->bf id=D id:=λid hi=>dv hi;have cT:∀ id,m.n<=id->bf id=D0 (id-m.n):=λid hi=>dc (by omega);have src:∀ id e a,eB.get id=some e->bf id=some a->(m.n<=id/\∃ s b7,e=s.hy m.n/\nS.t.get (id-m.n)=some b7/\EO b7=some s/\D0 (id-m.n)=some a)\/(id<m.n/\m.t.get id=some e/\D id=some a):=λid e a he aD=>by
  rcases aa id e he with⟨cM,s,cp,eD⟩ | ⟨cM,cp⟩;·obtain⟨b7,hd,D4⟩:=aV _ _ cp;rw[dK]at hd;rw[cT _ cM]at aD;exact .inl ⟨cM,s,b7,eD,hd,D4,aD⟩
  ·rcases EJ id m.n with aL | c1
   ·rw[lo _ aL]at aD;exact .inr ⟨aL,cp,aD⟩
   ·rw[cT _ c1]at aD;have:=BD.h' _ _ aD;omega
 refine⟨bf,λid hi=>lo id hi,BC cH _ ah,⟨λid e a he aD=>?_,λid hh e a0 a bF he F9 aD zi af=>?_,λid a aD=>?_,hm.oI.mono hle⟩⟩
 ·rcases src id e a he aD with⟨cM,s,b7,rfl,cp,eD,hd⟩ | ⟨cM,cp,eD⟩
  ·exact ae6 cH (λx ab=>Ca _ ab) (BD.hy _ _ _ cp hd) eD
  ·exact(hm.hy _ _ _ cp eD).mono Co λx ab _=>FF _ ab
 ·rcases src id e a he aD with⟨cM,s,b7,rfl,cp,eD,hd⟩ | ⟨cM,cp,eD⟩
  ·rcases src hh a0 bF F9 zi with⟨tL,b0,ae9,rfl,pD,vC,NE⟩ | ⟨tL,pD,vC⟩
   ·have:=BD.inj _ _ _ _ _ _ cp pD hd NE af;omega
   ·obtain⟨x,ab,NF⟩:=BD.aY cp hd;obtain⟨y,aG,NG⟩:=hm.aY pD vC;exact(bk x ab y aG (NF.trans (af.trans NG.symm))).elim
  ·rcases src hh a0 bF F9 zi with⟨tL,b0,ae9,rfl,pD,vC,NE⟩ | ⟨tL,pD,vC⟩
   ·obtain⟨x,ab,NF⟩:=BD.aY pD NE;obtain⟨y,aG,NG⟩:=hm.aY cp eD;exact(bk x ab y aG (NF.trans (af.symm.trans NG.symm))).elim
   ·exact hm.inj _ _ _ _ _ _ cp pD eD vC af
 ·show id<m.n+L.length;rcases EJ id m.n with aL | c1
  ·omega
  ·rw[cT _ c1]at aD;have:=BD.h' _ _ aD;omega
open Go Go.Proofs
def afa(k:Nat):liesAt Tryz.prog Tryz.prog.depth 174 ((k+1)*2/Tryz.prog.cellsOf 174) 0 174 1=true:=by
 have aa:Tryz.prog.cellsOf 174=2:=by kernel_rfl
 have ai:Tryz.prog.depth=(Tryz.prog.depth-1)+1:=by kernel_rfl
 have kw:sameLayout Tryz.prog Tryz.prog.depth 174 174=true:=by kernel_rfl
 have an:rowAt Tryz.prog (sameLayout Tryz.prog Tryz.prog.depth · 174) Tryz.prog.depth 174 (k+1) 0 1=true:=by
  generalize aw:(sameLayout Tryz.prog Tryz.prog.depth · 174)=f;have wj:f 174=true:=by rw[<-aw];exact kw
  rw[ai];unfold rowAt;simp only[aa,wj];simp
 rw[aa,Nat.mul_div_cancel _ (by decide:0<2)];rw[ai];unfold liesAt;rw[an];rfl
def afb(pre post:List aC)(b:Nat)(v:Value)(k:Nat)(rest:List Value)(an:rest.length=2*k) :
  Spec Tryz.prog 152 [ptr b] I (pre++⟨b,.cells (.pointer none::v::rest).toArray 174 (0,0)⟩::post) λr I' M'=>r=.tuple #[]/\I'=I/\M'=pre++⟨b,.cells (bw (.pointer none::v::rest) 0 [ptr b]).toArray 174 (0,0)⟩::post:=by
 obtain⟨inf,z,hi,eA,_⟩:=(aS 174 _ rfl).inf;refine bC [] aS Tryz.func152 rfl rfl rfl ?_;intro B aq;have hm:∀ {o:Obj},(⟨b,o⟩:aC)∈pre++⟨b,o⟩::post:=fun {o}=>en.2 (.inr (.head _));have cm:(Value.pointer none::v::rest).toArray.size=(k+1)*2:=by simp[an];omega
 have ay:liesAt Tryz.prog Tryz.prog.depth 174 ((Value.pointer none::v::rest).toArray.size/Tryz.prog.cellsOf 174) 0 174 1=true:=by rw[cm];exact afa k
 refine aJ.mk [.pointer none] (dM (cs:=.pointer none::v::rest) (k:=0) (n:=1) (T:=174) hm (by simp)) ?_;refine .other (be.Gv aS rfl (by simp) rfl rfl rfl rfl ?_);refine aI.mk (λ_=>?_) (λh=>by cases h);refine be.conv rfl (by simp) rfl (λw hw=>Lib.run_to_unsafe (t:=174) (e:=174) w ⟨b,0,none⟩ (by kernel_rfl) (by kernel_rfl) (j:=inf) (cells:=(Value.pointer none::v::rest).toArray.size) hi (by rw[eA];decide) (Gy hw hm) (by rw[cm];show 0<_;omega)) ?_;refine aT.mk (pre++⟨b,.cells (.pointer none::v::rest).toArray 174 (0,0)⟩::post) [] _ (by simp) (Kx _) ?_;rintro v I' M' -⟨rfl,rfl,rfl⟩;refine be.conv rfl (by simp) rfl (λw hw=>Lib.run_from_unsafe (u:=174) (e:=174) w ⟨b,0,none⟩ (by kernel_rfl) (by kernel_rfl) (j:=inf) (cells:=(Value.pointer none::v::rest).toArray.size) hi (Gy hw (en.2 (.inl hm))) ay) ?_;refine cX.mk pre post _ _ (fo _) rfl (by rw[cm];show 0+0+1<=(k+1)*2;omega) rfl ?_;exact⟨_,_,.refl,rfl,rfl,rfl⟩
def afc{b:Nat}(a7:(⟨b,.cells arr T (0,0)⟩:aC)∈M)(aq:arr[0]?=some (ptr b)) :
  Spec Tryz.prog 152 [ptr b] I M λr I' M'=>r=.tuple #[]/\I'=I/\M'=M:=by
 refine bC [] aS Tryz.func152 rfl rfl rfl ?_;intro B kr;have an:bE I M ((⟨b,0,none⟩:Addr).add 0) 1 [ptr b]:=by
  obtain⟨l⟩:=arr;cases l with
  |nil=>simp at aq| cons x l=>simp only[xK,List.getElem?_cons_zero,ki]at aq;subst aq;exact dM (cs:=ptr b::l) (k:=0) (n:=1) a7 (by simp)
 refine aJ.mk [ptr b] an ?_;refine .other (be.Gv aS rfl (by simp) rfl rfl rfl rfl ?_);refine aI.mk (λh=>by cases h) (λ_=>?_);refine aJ.mk [ptr b] an ?_;refine .other (be.QO aS rfl (by simp) rfl rfl rfl rfl rfl ?_);refine aI.mk (λh=>by cases h) (λ_=>?_);exact⟨_,_,.refl,rfl,rfl,rfl⟩
def afd{m:a8}{R:Type}{id off:Nat}{cs:a4 ak}{eT:Nat}{a:Loc}{pre post:List aC}(hm:cE Y D m I M)(ar:m.t.get id=some (.cells cs T eT))(aD:D id=some a)(ap:a.o=0)(bQ:M=pre++⟨a.b,.cells arr T (0,0)⟩::post)(cm:a.o+eT<=arr.size)(aA:∀ i v,i<eT->cs.get i=some v->∃ x,arr[a.o+i]?=some x/\aM D v x)(ae:∀ i,Y.E T=some i->arr.size=a.o+a.c*i.size)(iH:a.c<=maxLen)
  {l:List ak} (ay:bq D l vs) {K:a8->Option R} {r:R} (h:vr m (.p id off) l K=some r) :
  ∃ m',K m'=some r/\m'.n=m.n/\off+vs.length<=arr.size/\cE Y D m' I (pre++⟨a.b,.cells (bw arr.toList off vs).toArray T (0,0)⟩::post):=by
 unfold vr at h;simp only[ar]at h;cases af:(Nat.ble (Nat.add off l.length) eT&&l.all ak.one)with
 |false=>rw[af]at h;cases h
 |true=>
  rw[af]at h;simp only[ba]at h;rw[bL]at af;have xj:off+l.length<=eT:=bB af.1;obtain⟨cs',U,aa⟩:=a4.vu l cs off;rw[U]at h;obtain⟨eB,ag,aK⟩:=a4.mU (some (fj.cells cs' T eT)) m.t id;rw[ag]at h;have hlen:=ay.len;have fe:off+vs.length<=arr.size:=by omega
  refine⟨_,h,rfl,fe,?_⟩;have fO:∀ x∈M,x.num≠a.b->x∈pre++⟨a.b,.cells (bw arr.toList off vs).toArray T (0,0)⟩::post:=λx ab av=>by
   rw[bQ]at ab;rcases en.1 ab with ab | ab;·exact en.2 (.inl ab)
   ·rcases dE.1 ab with rfl | ab
    ·exact(av rfl).elim
    ·exact en.2 (.inr (l' _ ab))
  refine hm.step (λi e hi=>(aK i e hi).imp (λq=>⟨q.1,mV q.2⟩) λq=>q) aD (bu.le_refl D) (λ_ _=>rfl) hm.h' (λ_ _ h=>h) (λi e bF bk hi lM x ab av=>fO x ab ?_) ?_ ?_;·rw[av];exact λaf=>bk (hm.inj _ _ _ _ _ _ hi ar lM aD af)
  ·have Et:(bw arr.toList off vs).length=arr.size:=by rw[MU (by simpa using fe)];simp
   refine .cells (bw arr.toList off vs).toArray ap (by simp) (by simp[Et];exact cm) (λi v hi Eu=>?_) (λi hi=>by simp[Et];exact ae i hi) iH;rw[ap,dK];simp only[xK];rw[TU (by simpa using fe)];rcases aa i v Eu with⟨aR,aV⟩ | ⟨aR,aV⟩;·have aL:=(ij.1 aV).1;rw[dv ⟨aR,by omega⟩];exact ay.get aV
   ·rw[dc (by omega)];have:=aA i v hi aV;rw[ap,dK]at this;simpa using this
  ·intro i e bF bk hi lM af;exact bk (hm.inj _ _ _ _ _ _ hi ar lM aD af)
noncomputable def NH(m:a8)(vs:List ak):Option (ak×a8):=match vs with
 |[.p id 0]=>(match m.t.get id with
  |some (.cells cs T eT)=>bH (Nat.beq T 174&&Nat.ble 2 eT) (match cs.get 0 with
   |some .pn=>vr m (.p id 0) [.p id 0] λm=>some (.t [],m)
   |some (.p hh 0)=>bH (Nat.beq id hh) (some (.t [],m)) none| _=>none) none
  |_=>none)
 |_=>none
def afe(to:Y.P=Tryz.prog)(aff:Y.E=yk){m:a8}{vs:List ak}(h:NH m vs=some (v,m'))(hu:bq D vs us)(hm:cE Y D m I M) :
  Spec Y.P 152 us I M λr I' M'=>∃ bf,D.ext bf m.n/\aM bf v r/\cE Y bf m' I' M':=by
 unfold NH at h;split at h
 ·rename_i id;obtain⟨x,xs,ab,av,rfl⟩:=hu.iU;obtain rfl:=av.lL;obtain⟨a,aD,rfl⟩:=ab.ptr;split at h
  ·rename_i cs T eT ar;obtain⟨U,aE⟩:=fS h;clear h;rw[bL]at U;obtain⟨br,xj⟩:=U;obtain rfl:=cC br;have xj:=bB xj;obtain⟨arr,ap,a7,ay,aA,ae,iH⟩:=hm.hy _ _ _ ar aD;have cm:=ae _ (by rw[aff];rfl);have cm:arr.size=a.c*2:=by rw[cm,ap,dK]
   have aO:Value.pointer (some ⟨a.b,a.o+0,none⟩)=ptr a.b:=by rw[ap];rfl
   split at aE
   ·rename_i Aw;obtain⟨ta,e',NI⟩:=aA 0 _ (by omega) Aw;obtain⟨pre,post,bQ⟩:=ss a7;obtain⟨c3,aa,ag,aK,bg⟩:=afd hm ar aD ap bQ ay aA ae iH (l:=[.p id 0]) (vs:=[ptr a.b]) (by simp only[bq,aM];exact⟨_,_,⟨a,aD,aO.symm⟩,rfl,rfl⟩) aE;cases aa;rw[aO,to,bQ];obtain⟨l⟩:=arr;have afg:ta=.pointer none:=by simpa only[aM]using NI
    rw[ap]at e'
    match l,e',cm with
    |[],e',_=>simp at e'| [_],_,cm=>simp at cm;omega
    |y::w::rest,e',cm=>
     have aG:y=.pointer none:=by simpa[afg]using e'
     subst aG;have jl:rest.length=2*(a.c-1):=by simp at cm;omega
     refine Spec.qH (afb pre post a.b w (a.c-1) rest jl) ?_;rintro r I' M'⟨rfl,rfl,rfl⟩;exact⟨D,bu.mX,by simp only[aM,bq];exact⟨[],rfl,rfl⟩,bg⟩
   ·rename_i hh Aw;obtain⟨aa,DY⟩:=fS aE;obtain rfl:=cC aa;cases DY;obtain⟨ta,e',NI⟩:=aA 0 _ (by omega) Aw;obtain⟨bF,zi,rfl⟩:=NI.ptr;rw[aD]at zi;cases zi;rw[aO]at e' |-;rw[to];refine Spec.qH (afc a7 (by rw[<-e',ap])) ?_;rintro r I' M'⟨rfl,rfl,rfl⟩;exact⟨D,bu.mX,by simp only[aM,bq];exact⟨[],rfl,rfl⟩,hm⟩
   ·cases aE
  ·cases h
 ·cases h
def nT(I:aN):List aC->aN
 |[]=>I| x::l=>ins (nT I l) x.num x.obj
def It{I:aN}:∀ {M:List aC} {b:Nat} {o:Obj},nT I M b=some o->I b=some o\/∃ x∈M,x.num=b/\x.obj=o
 |[],b,o,h=>.inl h
 |x::l,b,o,h=>by
  unfold nT ins at h;by_cases e:b=x.num;·subst e;simp only[o3,ba,ki]at h;exact .inr ⟨x,by simp,rfl,h⟩
  ·simp only[gh e,a5]at h;rcases It h with h | ⟨y,U,aa,ag⟩
   ·exact .inl h
   ·exact .inr ⟨y,by simp[U],aa,ag⟩
def U6{I:aN}:∀ {M:List aC} (av:(M.map (·.num)).Nodup) {x:aC},x∈M->nT I M x.num=some x.obj
 |y::l,av,x,h=>by
  simp only[dA,lg]at av;rcases dE.1 h with rfl | h;·unfold nT ins;simp only[o3,ba]
  ·have e:x.num≠y.num:=λe=>av.1 (du.2 ⟨x,h,e⟩);unfold nT ins;simp only[gh e,a5];exact U6 av.2 h
def NJ{I:aN}:∀ {M:List aC} (ai:∀ x∈M,I x.num=none) {b:Nat} {o:Obj},I b=some o->nT I M b=some o
 |[],ai,b,o,h=>h
 |y::l,ai,b,o,h=>by
  have e:b≠y.num:=λe=>by have:=ai y (by simp);rw[<-e,h]at this;cases this
  unfold nT ins;simp only[gh e,a5];exact NJ (λx ab=>ai x (by simp[ab])) h
def afh(av:(M.map (·.num)).Nodup)(ai:∀ x∈M,I x.num=none){b:Nat}(h:hl I M b o):nT I M b=some o:=by
 rcases h with h | ⟨x,U,rfl,rfl⟩
 ·exact NJ ai h
 ·exact U6 av U
structure zz(I:aN)(M:List aC)(J:aN):Prop where
 kn:∀ b o,hl I M b o->J b=some o
 inv:∀ b o,J b=some o->hl I M b o
def zz.rd(h:zz I M J){a:Addr}(an:bE I M a n vs)(M':List aC):bE J M' a n vs:=by obtain⟨U,cs,T,f,aa,ag,aK⟩:=an;exact⟨U,cs,T,f,.inl (h.kn _ _ aa),ag,aK⟩
def zz.le(h:zz I M J):∀ b o,I b=some o->J b=some o:=λb o af=>h.kn b o (.inl af)
def U7(U:dU I' M' w')(aa:Kept I [] w I' M' w'):zz I' M' (nT I' M')/\dU (nT I' M') [] w'/\Kept I [] w (nT I' M') [] w':=by
 refine⟨⟨λb o h=>afh U.bS U.d h,λb o h=>?_⟩,⟨λb o h=>?_,by simp,by simp,by simp⟩,⟨λb o h=>NJ U.d (aa.le _ _ h),λb o h=>?_,by simp,aa.cY,aa.out,aa.sz⟩⟩
 ·rcases It h with h | ⟨x,aR,aV,bl⟩
  ·exact .inl h
  ·exact .inr ⟨x,aR,aV,bl⟩
 ·rcases It h with h | ⟨x,aR,rfl,rfl⟩
  ·exact U.i _ _ h
  ·exact U.m _ aR
 ·rcases It h with h | ⟨x,aR,rfl,rfl⟩
  ·exact aa.sV _ _ h
  ·rcases aa.uC _ aR with⟨y,aG,_⟩ | h
   ·cases aG
   ·exact .inr h
def Spec.nT{args:List Value}(h:Spec P f args I [] Q):Spec P f args I [] λr J lX=>lX=[]/\(∀ b o,I b=some o->J b=some o)/\∃ I' M',Q r I' M'/\zz I' M' J:=by
 rcases h with⟨U,aa⟩ | h
 ·refine .inl ⟨U,λw hw=>?_⟩;refine(aa w hw).mono ?_;rintro e w'⟨v,I',M',ax,az,bc,ct⟩;obtain⟨aR,aV,bl⟩:=U7 bc ct;exact⟨v,_,[],ax,⟨rfl,bl.le,I',M',az,aR⟩,aV,bl⟩
 ·refine .inr λw hw=>?_;obtain⟨v,w',I',M',ax,az,bc,ct⟩:=h w hw;obtain⟨aR,aV,bl⟩:=U7 bc ct;exact⟨v,w',_,[],ax,⟨rfl,bl.le,I',M',az,aR⟩,aV,bl⟩
noncomputable def zA{α:Type}(l:List α):a4 α:=a4.vo l .nil 0 id
def U8{l:List α}{i:Nat}{v:α}(h:(zA l).get i=some v):l[i]?=some v:=by
 obtain⟨t,U,aa⟩:=a4.vu l (.nil:a4 α) 0;unfold zA at h;rw[U]at h;rcases aa _ _ h with⟨_,h⟩ | ⟨_,h⟩
 ·simpa using h
 ·cases h
noncomputable def NK:GT:=λg=>bH (Nat.beq g 0) (some (zA (lu.map (ak.i .i64)))) (bH (Nat.beq g 1) (some (zA (r4.map ak.s))) (bH (Nat.beq g 3) (some (zA [.i .i64 0,.i .i64 1,.s [63],.i .i64 0,.i .i64 (-1),.s [42],.i .i64 1,.i .i64 (-1),.s [43]])) (bH (Nat.beq g 6) (some (zA (fv.map (ak.i .u8)))) none)))
def NL{f:α->ak}{h:α->Value}(aw:∀ x D,aM D (f x) (h x)){l:List α}{i:Nat}(ah:(zA (l.map f)).get i=some v):∃ x,(l.map h).toArray[i]?=some x/\∀ D,aM D v x:=by
 have:=U8 ah;rw[xN]at this;cases ab:l[i]? with
 |none=>rw[ab]at this;cases this| some x=>rw[ab]at this;simp only[kj,ki]at this;subst this;exact⟨h x,by simp[ab],aw x⟩
def U9(br:hG I fv):El NK I:=by
 intro g cs h;unfold NK at h;rw[jw,jw,jw,jw]at h;cases U:Nat.beq g 0 with
 |true=>rw[U,ba]at h;obtain rfl:=cC U;have h:=qp h;subst h;obtain⟨T,f,h⟩:=br.c;exact⟨_,T,f,h,λi v ah=>NL (f:=ak.i .i64) (h:=Value.int .i64) (λx D=>by simp only[aM]) ah⟩
 |false=>
 rw[U,a5]at h;cases aa:Nat.beq g 1 with
 |true=>rw[aa,ba]at h;obtain rfl:=cC aa;have h:=qp h;subst h;obtain⟨T,f,h⟩:=br.s;exact⟨_,T,f,h,λi v ah=>NL (f:=ak.s) (h:=λl=>Value.string (strOf l)) (λx D=>by simp only[aM,strOf]) ah⟩
 |false=>
 rw[aa,a5]at h;cases ag:Nat.beq g 3 with
 |true=>
  rw[ag,ba]at h;obtain rfl:=cC ag;have h:=qp h;subst h;obtain⟨T,f,h⟩:=br.p;refine⟨_,T,f,h,λi v ah=>?_⟩;have ah:=U8 ah;rcases i with _ | _ | _ | _ | _ | _ | _ | _ | _ | i
  all_goals first | (cases ah;exact⟨_,rfl,λD=>by simp only[aM]<;>rfl⟩) | (simp at ah)
 |false=>
 rw[ag,a5]at h;cases aK:Nat.beq g 6 with
 |true=>rw[aK,ba]at h;obtain rfl:=cC aK;have h:=qp h;subst h;obtain⟨_,_,T,f,h⟩:=br.d;exact⟨_,T,f,h,λi v ah=>NL (f:=ak.i .u8) (h:=Value.int .u8) (λx D=>by simp only[aM]) ah⟩
 |false=>
 rw[aK,a5]at h;cases h
noncomputable def Iu:List UInt8->Nat->Nat->Int
 |[],_,_=>-1| b::l,c,k=>bH (Nat.beq b.toNat c) (Int.ofNat k) (Iu l c (Nat.succ k))
def U'(c:UInt8):∀ (l:List UInt8) (k:Nat),Iu l c.toNat k=if Lib.indexByte l c=-1 then -1 else Lib.indexByte l c+k
 |[],k=>rfl
 |b::l,k=>by
  have c1:=Lib.indexByte_ge l c;unfold Iu Lib.indexByte;rw[jw];by_cases h:b=c;·subst h;simp
  ·have U:Nat.beq b.toNat c.toNat=false:=by
    cases af:Nat.beq b.toNat c.toNat with
    |false=>rfl| true=>exact absurd (UInt8.toNat_inj.1 (cC af)) h
   have aa:(b == c)=false:=by simpa using h
   rw[U,a5,aa,U' c l];simp only[iP,jC];by_cases ag:Lib.indexByte l c=-1;·simp[ag]
   ·have aK:(Lib.indexByte l c == -1)=false:=by simpa using ag
    rw[aK,dc ag];simp only[iP,jC];rw[dc (by omega)];omega
def Iv:ua Tryz.prog:=aew (by kernel_rfl)
def Iw:Tryz.prog.follows .mixedOrders=true:=by kernel_rfl
noncomputable def Va:fC:=⟨Tryz.prog,yk,λ_=>none,λ_ _ _=>none⟩
noncomputable def Vb:List sE:=[.map [(.i .u8 123,.f 192 [] []),(.i .u8 34,.f 193 [] []),(.i .u8 91,.f 194 [] []),(.i .u8 46,.f 195 [] []),(.i .u8 47,.f 219 [] [.p 1 0]),(.i .u8 38,.f 219 [] [.p 2 0]),(.i .u8 33,.f 219 [] [.p 3 0]),(.i .u8 63,.f 219 [] [.p 4 0]),(.i .u8 42,.f 219 [] [.p 5 0]),(.i .u8 43,.f 219 [] [.p 6 0]),(.i .u8 40,.f 219 [] [.p 7 0]),(.i .u8 41,.f 219 [] [.p 8 0]),(.i .u8 60,.f 197 [] []),(.i .u8 62,.f 219 [] [.p 10 0]),(.i .u8 58,.f 219 [] [.p 11 0]),(.i .u8 65,.f 198 [] []),(.i .u8 66,.f 198 [] []),(.i .u8 67,.f 198 [] []),(.i .u8 68,.f 198 [] []),(.i .u8 69,.f 198 [] []),(.i .u8 70,.f 198 [] []),(.i .u8 71,.f 198 [] []),(.i .u8 72,.f 198 [] []),(.i .u8 73,.f 198 [] []),(.i .u8 74,.f 198 [] []),(.i .u8 75,.f 198 [] []),(.i .u8 76,.f 198 [] []),(.i .u8 77,.f 198 [] []),(.i .u8 78,.f 198 [] []),(.i .u8 79,.f 198 [] []),(.i .u8 80,.f 198 [] []),(.i .u8 81,.f 198 [] []),(.i .u8 82,.f 198 [] []),(.i .u8 83,.f 198 [] []),(.i .u8 84,.f 198 [] []),(.i .u8 85,.f 198 [] []),(.i .u8 86,.f 198 [] []),(.i .u8 87,.f 198 [] []),(.i .u8 88,.f 198 [] []),(.i .u8 89,.f 198 [] []),(.i .u8 90,.f 198 [] []),(.i .u8 95,.f 198 [] []),(.i .u8 97,.f 198 [] []),(.i .u8 98,.f 198 [] []),(.i .u8 99,.f 198 [] []),(.i .u8 100,.f 198 [] []),(.i .u8 101,.f 198 [] []),(.i .u8 102,.f 198 [] []),(.i .u8 103,.f 198 [] []),(.i .u8 104,.f 198 [] []),(.i .u8 105,.f 198 [] []),(.i .u8 106,.f 198 [] []),(.i .u8 107,.f 198 [] []),(.i .u8 108,.f 198 [] []),(.i .u8 109,.f 198 [] []),(.i .u8 110,.f 198 [] []),(.i .u8 111,.f 198 [] []),(.i .u8 112,.f 198 [] []),(.i .u8 113,.f 198 [] []),(.i .u8 114,.f 198 [] []),(.i .u8 115,.f 198 [] []),(.i .u8 116,.f 198 [] []),(.i .u8 117,.f 198 [] []),(.i .u8 118,.f 198 [] []),(.i .u8 119,.f 198 [] []),(.i .u8 120,.f 198 [] []),(.i .u8 121,.f 198 [] []),(.i .u8 122,.f 198 [] [])],.cells [.i .u8 3] 5,.cells [.i .u8 4] 5,.cells [.i .u8 5] 5,.cells [.i .u8 6] 5,.cells [.i .u8 7] 5,.cells [.i .u8 8] 5,.cells [.i .u8 9] 5,.cells [.i .u8 10] 5,.cells [.i .u8 11] 5,.cells [.i .u8 12] 5,.cells [.i .u8 13] 5]
def afi:(bK (tU Va (jv Va 100000) 178 [] ⟨.nil,0⟩) none λp=>bK (readAll p.2.t 0 p.2.n) none λL=>some (p.1,L))=some (ak.m 0,Vb):=by kernel_rfl
noncomputable def NM:j5:=λg vs m=>bH (Nat.beq g 242) (match vs with
 |[.s l,.i .u8 (.ofNat k)]=>bH (Nat.blt k 256) (some (.i .i64 (Iu l k 0),m)) none| _=>none) (bH (Nat.beq g 172) (match vs with
 |[v]=>some (v,m)| _=>none) (bH (Nat.beq g 178) (match vs with
 |[]=>ND (.m 0) Vb m| _=>none) (bH (Nat.beq g 152) (NH m vs) none)))
noncomputable def nU:fC:=⟨Tryz.prog,yk,NK,NM⟩
def NN:vB nU:=by
 intro g vs m v m' h D I M us hu hm;change NM g vs m=some (v,m')at h;unfold NM at h;rw[jw]at h;cases U:Nat.beq g 242 with
 |true=>
  rw[U,ba]at h;obtain rfl:=cC U;split at h
  ·rename_i l k;rw[jw]at h;cases ae:Nat.blt k 256 with
   |false=>rw[ae]at h;cases h
   |true=>
    rw[ae,ba]at h;have jt:k<256:=Nat.blt_eq ▸ ae;cases h;simp only[bq,aM]at hu;obtain⟨x,xs,rfl,⟨y,me,rfl,rfl,rfl⟩,rfl⟩:=hu;have Vc:(UInt8.ofNat k).toNat=k:=by simp;omega
    have:=QQ (I:=I) (M:=M) ⟨l.toArray⟩ (UInt8.ofNat k);rw[Vc]at this;refine Spec.qH this ?_;rintro r I' M'⟨rfl,rfl,rfl⟩;refine⟨D,bu.mX,?_,hm⟩;simp only[aM];have:=U' (UInt8.ofNat k) l 0;rw[Vc]at this;rw[this];split;·rename_i e;simp[e]
    ·simp
  ·cases h
 |false=>
 rw[U,a5,jw]at h;cases aa:Nat.beq g 172 with
 |true=>
  rw[aa,ba]at h;obtain rfl:=cC aa;split at h;·cases h;simp only[bq]at hu;obtain⟨x,xs,hu,rfl,rfl⟩:=hu;refine Spec.qH (Kx _) ?_;rintro r I' M'⟨rfl,rfl,rfl⟩;exact⟨D,bu.mX,hu,hm⟩
  ·cases h
 |false=>
 rw[aa,a5,jw]at h;cases ag:Nat.beq g 178 with
 |true=>
  rw[ag,ba]at h;obtain rfl:=cC ag;split at h;·obtain⟨⟨uc,nS⟩,aK,bg⟩:=ch afi;obtain⟨L,bD,eg⟩:=ch bg;cases eg;exact ae7 (Y:=nU) aS Iv Iw aK bD (λD us h=>by simpa only[bq]using h) h hu hm
  ·cases h
 |false=>
 rw[ag,a5,jw]at h;cases aK:Nat.beq g 152 with
 |true=>rw[aK,ba]at h;obtain rfl:=cC aK;exact afe rfl rfl h hu hm
 |false=>
 rw[aK,a5]at h;cases h
def afj(br:hG I fv)(h:tU nU (jv nU f) g args ⟨.nil,0⟩=some (v,m'))(hu:bq (λ_=>none) args us) :
  Spec Tryz.prog g us I [] λr J lX=>lX=[]/\(∀ b o,I b=some o->J b=some o)/\∃ I' M' bf,aM bf v r/\cE nU bf m' I' M'/\zz I' M' J:=by
 have hm:cE nU (λ_=>none) ⟨.nil,0⟩ I []:=⟨λid e a h a1=>(by cases a1),λid hh e a0 a bF h U a1=>(by cases a1),λid a h=>(by cases h),U9 br⟩;refine Spec.qH (reckon (Y:=nU) aS Iv NN Iw h hu hm).nT ?_;rintro r J lX⟨rfl,U,I',M',⟨bf,-,aa,ag⟩,aK⟩;exact⟨rfl,U,I',M',bf,aa,ag,aK⟩
def rE{X:Bool}{p:Prop}(b:X=true)(h:X=false):p:=by rw[b]at h;cases h
def Vd{X:Bool}{p:Prop}(b:X=false)(h:X=true):p:=by rw[b]at h;cases h
structure NO(I:aN)(o:Hx)(v:Value):Prop where
 x:∃ a n c,v=acw o (.slice a n c)/\dW I a n c 3 0 (o.ach.flatMap lI.cells)
def NO.mono{o:Hx}{v:Value}(h:NO I o v)(a9:∀ b o,I b=some o->I' b=some o):NO I' o v:=by obtain⟨a,n,c,U,aa⟩:=h.x;exact⟨a,n,c,U,aa.mono a9⟩
noncomputable def EP(f g:Nat)(args:List ak):Option ak:=bK (tU nU (jv nU f) g args ⟨.nil,0⟩) none λp=>some p.1
def NP(br:hG I fv){b:Bool}(h:EP f g args=some (.b b))(hu:bq (λ_=>none) args us) :
  Spec Tryz.prog g us I [] λr J lX=>r=.bool b/\(∀ b o,I b=some o->J b=some o)/\lX=[]:=by
 unfold EP at h;obtain⟨⟨v,m'⟩,U,h⟩:=ch h;cases h;refine Spec.qH (afj br U hu) ?_;rintro r J lX⟨rfl,hle,I',M',bf,ah,hm,bO⟩;simp only[aM]at ah;exact⟨ah,hle,rfl⟩
noncomputable def afk:Option ak:=bK (tU nU (jv nU 1000000) 14 [.s [97,32,60,45,32,34,120,34,32,97,32,47,32,34,34]] ⟨.nil,0⟩) none λp=>bK (tU nU (jv nU 1000000) 17 [p.1,.s [120,120]] p.2) none λq=>some q.1
def afl:afk=some (.t [.i .i64 108,.i .i64 0]):=by kernel_rfl
def afm:EP 1000000 11 [.s [97,32,60,45,32,34,120,34,32,97,32,47,32,34,34],.i .i64 6]=some (.b true):=by kernel_rfl
def afn:EP 1000000 12 [.s [97,32,60,45,32,34,120,34,32,97,32,47,32,34,34],.i .i64 2,.i .i64 0,.i .i64 30]=some (.b true):=by kernel_rfl
def afo:EP 1000000 11 [.s [97,32,60,45,32,34,97,98,34,123,50,44,53,125],.i .i64 11]=some (.b true):=by kernel_rfl
def afp(br:hG I fv):cE nU (λ_=>none) ⟨.nil,0⟩ I []:=⟨λid e a h a1=>(by cases a1),λid hh e a0 a bF h U a1=>(by cases a1),λid a h=>(by cases h),U9 br⟩
def afq:nK 6 2 0=108:=by decide
set_option maxRecDepth 100000 in
def Ve(br:hG I fv):Spec Tryz.prog 10 [] I [] λr J lX=>r=.bool true/\(∀ b o,I b=some o->J b=some o)/\lX=[]:=by obtain⟨⟨v1,c3⟩,bN,cG⟩:=ch afl;obtain⟨⟨v2,m2⟩,c6,fk⟩:=ch cG;simp only[ki]at fk;subst fk;refine bC [] aS Tryz.func10 rfl rfl rfl ?_;intro B aq;refine aT.mk [] [] _ (.refl _) (reckon (Y:=nU) aS Iv NN Iw bN (us:=[.string ⟨([97,32,60,45,32,34,120,34,32,97,32,47,32,34,34]:List UInt8).toArray⟩]) (by simp[bq,aM]) (afp br)) ?_;rintro v c8 M1 cn⟨sF,-,Ah,C6⟩;rw[fo];refine aT.mk M1 [] _ (by rw[fo]) (reckon (Y:=nU) aS Iv NN Iw c6 (us:=[v,.string ⟨([120,120]:List UInt8).toArray⟩]) (by simp[bq,aM,Ah]) C6) ?_;rintro k7 dQ dt jM⟨Io,alJ,Ai,re⟩;rw[fo];simp only[aM,bq]at Ai;obtain⟨vs,⟨BE,alK,rfl,⟨xw,alL,rfl,rfl,rfl⟩,rfl⟩,rfl⟩:=Ai;have Vf:hG dQ fv:=br.mono λb o h=>jM _ _ (cn _ _ h);refine aT.mk [] dt _ (.refl _) (NP Vf afm (us:=[.string ⟨([97,32,60,45,32,34,120,34,32,97,32,47,32,34,34]:List UInt8).toArray⟩,.int .i64 6]) (by simp[bq,aM])) ?_;rintro v GS KX Vg⟨rfl,-,rfl⟩;have NQ:hG GS fv:=Vf.mono Vg;refine bo.mk (λ_=>?_) (λh=>rE rfl h);refine aT.mk [] dt _ (.refl _) (Sq 6 2 0 ⟨by decide,by decide⟩ ⟨by decide,by decide⟩ ⟨by decide,by decide⟩) ?_;rintro v yH AG Vh⟨rfl,a9,rfl⟩;rw[afq];refine bo.mk (λ_=>?_) (λh=>rE rfl h);have Ix:hG yH fv:=NQ.mono Vh;refine aT.mk [] dt _ (.refl _) (NP Ix afn (us:=[.string ⟨([97,32,60,45,32,34,120,34,32,97,32,47,32,34,34]:List UInt8).toArray⟩,.int .i64 2,.int .i64 0,.int .i64 30]) (by simp[bq,aM])) ?_;rintro v GU KY Vi⟨rfl,-,rfl⟩;have afr:hG GU fv:=Ix.mono Vi;refine bo.mk (λ_=>?_) (λh=>rE rfl h);refine aT.mk [] dt _ (.refl _) (NP afr afo (us:=[.string ⟨([97,32,60,45,32,34,97,98,34,123,50,44,53,125]:List UInt8).toArray⟩,.int .i64 11]) (by simp[bq,aM])) ?_;rintro v alM alN afs⟨rfl,-,rfl⟩;refine bo.mk (λ_=>?_) (λh=>rE rfl h);refine bo.mk (λ_=>?_) (λh=>rE rfl h);exact⟨_,[],.sub (dJ _) .refl,rfl,λb o h=>afs _ _ (Vi _ _ (Vh _ _ (Vg _ _ (jM _ _ (cn _ _ h))))),rfl⟩
structure cA where
 a:BitVec 64
 b:BitVec 64
 c:BitVec 64
 d:BitVec 64
 deriving DecidableEq
def cA.zero:cA:=⟨0,0,0,0⟩
def cA.or(x y:cA):cA:=⟨x.a ||| y.a,x.b ||| y.b,x.c ||| y.c,x.d ||| y.d⟩
def cA.and(x y:cA):cA:=⟨x.a &&& y.a,x.b &&& y.b,x.c &&& y.c,x.d &&& y.d⟩
def cA.sub(x y:cA):Bool:=decide (x.and y=x)
def cA.cells(x:cA):List Value:=[.int .u64 x.a.toNat,.int .u64 x.b.toNat,.int .u64 x.c.toNat,.int .u64 x.d.toNat]
def cA.val(x:cA):Value:=.agg #[.int .u64 x.a.toNat,.int .u64 x.b.toNat,.int .u64 x.c.toNat,.int .u64 x.d.toNat]
structure cF where
 w:cA
 f:Bool
 deriving DecidableEq
def cF.cells(x:cF):List Value:=[.int .u64 x.w.a.toNat,.int .u64 x.w.b.toNat,.int .u64 x.w.c.toNat,.int .u64 x.w.d.toNat,.bool x.f]
def cF.val(x:cF):Value:=.agg #[.int .u64 x.w.a.toNat,.int .u64 x.w.b.toNat,.int .u64 x.w.c.toNat,.int .u64 x.w.d.toNat,.bool x.f]
def cF.c0(x:cF):x.cells.length=5:=rfl
def oO:cF:=⟨.zero,false⟩
def Vj:cF:=⟨.zero,true⟩
def cF.seq(a b:cF):cF:=bif a.f then⟨a.w.or b.w,b.f⟩else a
def cF.choice(a b:cF):cF:=⟨a.w.or b.w,a.f||b.f⟩
def cF.within(a b:cF):Bool:=a.w.sub b.w&&(!a.f||b.f)
def cA.ext'{x y:cA}(U:x.a=y.a)(aa:x.b=y.b)(ag:x.c=y.c)(aK:x.d=y.d):x=y:=by obtain⟨a,b,c,d⟩:=x;obtain⟨bF,iq,c',rz⟩:=y;simp only at U aa ag aK;subst U aa ag aK;rfl
def cA.or_assoc(x y z:cA):(x.or y).or z=x.or (y.or z):=by simp only[cA.or,BitVec.or_assoc]
def cA.or_comm(x y:cA):x.or y=y.or x:=by simp only[cA.or,BitVec.or_comm]
def cA.or_self(x:cA):x.or x=x:=by simp[cA.or]
def cA.zero_or(x:cA):cA.zero.or x=x:=by simp[cA.or,cA.zero]
def xx{x y:BitVec 64}:x &&& y=x ↔ x ||| y=y:=by
 constructor
 ·intro h;apply BitVec.eq_of_getElem_eq;intro i hi;have:=congrArg (λw:BitVec 64=>w[i]) h;simp only[BitVec.getElem_and,BitVec.getElem_or]at this |-;revert this;cases x[i]<;>cases y[i]<;>simp
 ·intro h;apply BitVec.eq_of_getElem_eq;intro i hi;have:=congrArg (λw:BitVec 64=>w[i]) h;simp only[BitVec.getElem_and,BitVec.getElem_or]at this |-;revert this;cases x[i]<;>cases y[i]<;>simp
def cA.EQ{x y:cA}:x.sub y=true ↔ x.or y=y:=by
 unfold cA.sub;rw[ft];constructor
 ·intro h;have U:=congrArg cA.a h;have aa:=congrArg cA.b h;have ag:=congrArg cA.c h;have aK:=congrArg cA.d h;exact cA.ext' (xx.1 U) (xx.1 aa) (xx.1 ag) (xx.1 aK)
 ·intro h;have U:=congrArg cA.a h;have aa:=congrArg cA.b h;have ag:=congrArg cA.c h;have aK:=congrArg cA.d h;exact cA.ext' (xx.2 U) (xx.2 aa) (xx.2 ag) (xx.2 aK)
def cA.aft(x:cA):x.sub x=true:=cA.EQ.2 x.or_self
def cA.afu{x y z:cA}(h:x.sub y=true)(a1:y.sub z=true):x.sub z=true:=by rw[cA.EQ]at h a1 |-;rw[<-a1,<-cA.or_assoc,h]
def cA.NR{x y:cA}(h:x.sub y=true)(a1:y.sub x=true):x=y:=by rw[cA.EQ]at h a1;exact a1.symm.trans ((cA.or_comm y x).trans h)
def cA.Vk(x y:cA):x.sub (x.or y)=true:=by rw[cA.EQ,<-cA.or_assoc,cA.or_self]
def cA.zero_sub(x:cA):cA.zero.sub x=true:=by rw[cA.EQ,cA.zero_or]
structure vD(I:aN)(M:List aC)(a:Option Addr)(n:Nat)(ks:List cF):Prop where
 n:ks.length=n
 rd:∀ j (h:j<ks.length),∃ ad,a=some ad/\bE I M (ad.add (j*5)) 5 ks[j].cells
structure cF.le(a b:cF):Prop where
 w:a.w.sub b.w=true
 f:a.f=true->b.f=true
def cF.le_refl(a:cF):a.le a:=⟨cA.aft _,id⟩
def cF.le.trans{a b c:cF}(h:a.le b)(a1:b.le c):a.le c:=⟨cA.afu h.w a1.w,λx=>a1.f (h.f x)⟩
def cF.le.antisymm{a b:cF}(h:a.le b)(a1:b.le a):a=b:=by
 have U:=cA.NR h.w a1.w;obtain⟨alO,LS⟩:=a;obtain⟨alP,Hz⟩:=b;simp only at U;subst U;have aw:=h.f;have wj:=a1.f;cases LS<;>cases Hz<;>simp_all
def cF.lG(a:cF):oO.le a:=⟨cA.zero_sub _,λh=>by cases h⟩
structure BF(α:Type) where
 le:α->α->Prop
 lG:α
 refl:∀ a,le a a
 trans:∀ {a b c},le a b->le b c->le a c
 alQ:∀ {a b},le a b->le b a->a=b
 low:∀ a,le lG a
structure jy{α:Type}(O:BF α)(l m:List α):Prop where
 len:l.length=m.length
 at':∀ i,O.le (l.getD i O.lG) (m.getD i O.lG)
section
variable{α:Type}{O:BF α}
def jy.refl(l:List α):jy O l l:=⟨rfl,λ_=>O.refl _⟩
def jy.trans{a b c:List α}(h:jy O a b)(a1:jy O b c):jy O a c:=⟨h.len.trans a1.len,λi=>O.trans (h.at' i) (a1.at' i)⟩
def jy.of{a b:List α}(ay:a.length=b.length)(h:∀ i,i<a.length->O.le (a.getD i O.lG) (b.getD i O.lG)):jy O a b:=⟨ay,λi=>by
 by_cases hi:i<a.length
 ·exact h i hi
 ·have e:a.getD i O.lG=O.lG:=by simp[cQ,z7 (Nat.le_of_not_lt hi)]
  rw[e];exact O.low _⟩
def jy.snoc{a b:List α}{x y:α}(h:jy O a b)(ab:O.le x y):jy O (a++[x]) (b++[y]):=by
 have ay:=h.len;refine .of (by simp[ay]) λi hi=>?_;rcases EJ i a.length with U | U
 ·have aa:i<b.length:=by omega
  have:=h.at' i;simpa[cQ,kJ U,kJ aa]using this
 ·have aa:i=a.length:=by simp at hi;omega
  subst aa;have ax:(a++[x]).getD a.length O.lG=x:=by simp[cQ]
  have az:(b++[y]).getD a.length O.lG=y:=by rw[ay];simp[cQ]
  rw[ax,az];exact ab
def NS(l:List α)(b:α)(i j:Nat)(x:α)(hi:i<l.length):(l.set i x).getD j b=if i=j then x else l.getD j b:=by
 simp only[cQ,mC];by_cases e:i=j
 ·subst e;simp[hi]
 ·rw[dc e,dc e]
structure BG(O:BF α)(n:Nat)(body:List α->Nat->α)(l:List α):Prop where
 len:l.length=n
 up:∀ i,i<n->O.le (l.getD i O.lG) (body l i)
 least:∀ m:List α,m.length=n->(∀ i,i<n->O.le (body m i) (m.getD i O.lG))->jy O l m
structure afv(O:BF α)(n:Nat)(body:List α->Nat->α)(l:List α):Prop where
 len:l.length=n
 fix:∀ i,i<n->l.getD i O.lG=body l i
 least:∀ m:List α,m.length=n->(∀ i,i<n->O.le (body m i) (m.getD i O.lG))->jy O l m
section
variable{n:Nat}{body:List α->Nat->α}(ue:∀ {l m:List α},jy O l m->∀ i,i<n->O.le (body l i) (body m i))
include ue
def BG.step{l:List α}(h:BG O n body l){i:Nat}(hi:i<n):BG O n body (l.set i (body l i))/\jy O l (l.set i (body l i)):=by
 have ep:i<l.length:=by rw[h.len];exact hi
 have hle:jy O l (l.set i (body l i)):=.of (by simp) λj al=>by
  rw[NS _ _ _ _ _ ep];by_cases e:i=j;·subst e;rw[dv rfl];exact h.up i hi
  ·rw[dc e];exact O.refl _
 refine⟨⟨by simpa using h.len,λj al=>?_,λm hm aA=>?_⟩,hle⟩
 ·rw[NS _ _ _ _ _ ep];by_cases e:i=j
  ·subst e;rw[dv rfl];exact ue hle _ hi
  ·rw[dc e];exact O.trans (h.up j al) (ue hle _ al)
 ·have DP:=h.least m hm aA;refine .of (by simp[h.len,hm]) λj al=>?_;rw[NS _ _ _ _ _ ep];by_cases e:i=j
  ·subst e;rw[dv rfl];exact O.trans (ue DP _ hi) (aA i hi)
  ·rw[dc e];exact DP.at' j
end
end
def xy:BF cF:=⟨cF.le,oO,cF.le_refl,λh a1=>h.trans a1,λh a1=>h.antisymm a1,cF.lG⟩
def cA.at(w:cA)(i:Nat):BitVec 64:=bif decide (i=0)then w.a else bif decide (i=1)then w.b else bif decide (i=2)then w.c else w.d
def cA.one(i:Nat)(x:BitVec 64):cA:=⟨bif decide (i=0)then x else 0,bif decide (i=1)then x else 0,bif decide (i=2)then x else 0,bif decide (i=3)then x else 0⟩
def afw(b:UInt8):cA:=.one (b.toNat/64) (1#64 <<< (b.toNat%64))
def afx(l:List UInt8):cA:=l.foldl (λw b=>w.or (afw b)) .zero
def aP.ws(d:aP):cA:=⟨BitVec.ofInt 64 d.eh,BitVec.ofInt 64 d.s1,BitVec.ofInt 64 d.s2,BitVec.ofInt 64 d.fJ⟩
def afy(d:aP)(k:cF):cF:=bif decide (d.hi=0)then Vj else⟨k.w,k.f||decide (d.lo=0)⟩
def afz(ks:List cF):cF:=ks.foldl cF.seq Vj
def afA(ks:List cF):cF:=ks.foldl cF.choice oO
def afB(t:ByteArray):cF:=⟨afx (t.data.toList.take 1),false⟩
def afC(d:aP)(x:bp)(ks:List cF):cF:=
 bif decide (d.k=0)then⟨.zero,x.pA⟩else
 bif decide (d.k=1)then⟨d.ws,false⟩else
 bif decide (d.k=2)then afB d.t else
 bif decide (d.k=3)then ks.headD oO else
 bif decide (d.k=4)then afz ks else
 bif decide (d.k=5)then afA ks else
 bif decide (d.k=6)then afy d (ks.headD oO)else
 bif decide (d.k=7)then⟨.zero,x.pA⟩else
 bif decide (d.k=8)then⟨.zero,x.pA⟩else ks.headD oO
def afD(pl:List (ByteArray×Int))(bA acc:List cF)(d:aP):List cF:=
 d.kids.map (λk=>acc.getD k.toNat oO)++bif decide (d.k=3)then [bA.getD ((hg d.t pl).getD 0).toNat oO]else []
def ER(pl:List (ByteArray×Int))(bA:List cF)(xs:List bp):List aP->List cF->List cF
 |[],acc=>acc| d::ds,acc=>ER pl bA xs ds (acc++[afC d (xs.getD acc.length gL) (afD pl bA acc d)])
def Vl(pl:List (ByteArray×Int))(bA:List cF)(xs:List bp):∀ (ds:List aP) (acc:List cF),(ER pl bA xs ds acc).length=acc.length+ds.length
 |[],acc=>rfl| d::ds,acc=>by rw[ER,Vl];simp;omega
def afE.map{f g:α->cF}{l:List α}(h:∀ x∈l,(f x).le (g x)):jy xy (l.map f) (l.map g):=.of (by simp) λi hi=>by
 have cT:i<l.length:=by simpa using hi
 have:=h _ (cO cT);simpa[cQ,cT]using(show xy.le _ _ from this)
def afE.append{a b c d:List cF}(h:jy xy a b)(a1:jy xy c d):jy xy (a++c) (b++d):=by
 have ay:=h.len;have o7:=a1.len;refine .of (by simp[ay,o7]) λi hi=>?_;rcases EJ i a.length with U | U
 ·have aa:i<b.length:=by omega
  have:=h.at' i;simpa[cQ,kJ U,kJ aa]using this
 ·have aa:b.length<=i:=by omega
  have:=a1.at' (i-a.length);simp only[cQ,ng U,ng aa]at this |-;rwa [ay]at this |-
def afF(pl:List (ByteArray×Int))(F:List bp)(ds:List a')(l:List cF)(i:Nat):cF:=match ds[i]? with
 |some d=>(ER pl l (ry pl F d.t.ns []) d.t.ns []).getD d.t.root.toNat oO| none=>oO
def afG(ds:List a')(F:List bp)(l:List cF):Prop:=afv xy ds.length (afF (l7 ds) F ds) l
def cA.has(w:cA)(n:Nat):Bool:=(w.at (n/64)).getLsbD (n%64)
structure qI(x:bp)(k:cF):Prop where
 z:x.z=true->k.f=true
 s:x.s=true->k.w≠.zero
def qI.none(k:cF):qI gL k:=⟨λh=>(by cases h),λh=>(by cases h)⟩
def qI.pA{x:bp}{k:cF}(h:qI x k)(ao:x.pA=true):k.f=true\/k.w≠.zero:=by simp only[bp.pA,jY]at ao;exact ao.imp h.z h.s
inductive j8:List bp->List cF->Prop
 |nil:j8 [] []| cons {x k l m} (h:qI x k) (t:j8 l m):j8 (x::l) (k::m)
def j8.snoc:∀ {l:List bp} {m:List cF} {x:bp} {k:cF},j8 l m->qI x k->j8 (l++[x]) (m++[k])
 |_,_,_,_,.nil,h=>.cons h .nil| _,_,_,_,.cons h t,a1=>.cons h (t.snoc a1)
def j8.getD:∀ {l:List bp} {m:List cF},j8 l m->∀ i,qI (l.getD i gL) (m.getD i oO)
 |_,_,.nil,i=>by simpa using qI.none oO
 |_,_,.cons h t,0=>h| _,_,.cons h t,i+1=>by simpa using t.getD i
def j8.len:∀ {l:List bp} {m:List cF},j8 l m->l.length=m.length
 |_,_,.nil=>rfl| _,_,.cons h t=>by simp[t.len]
def j8.of:∀ {l:List bp} {m:List cF},l.length=m.length->(∀ i,i<l.length->qI (l.getD i gL) (m.getD i oO))->j8 l m
 |[],[],_,_=>.nil| x::l,k::m,ay,h=>.cons (by simpa using h 0 (by simp)) (j8.of (by simpa using ay) λi hi=>by simpa using h (i+1) (by simpa using hi))
def j8.head{l:List bp}{m:List cF}(h:j8 l m):qI (l.headD gL) (m.headD oO):=by
 cases h with
 |nil=>exact qI.none _| cons h t=>exact h
def j8.map{α:Type}{f:α->bp}{g:α->cF}:∀ {l:List α},(∀ x∈l,qI (f x) (g x))->j8 (l.map f) (l.map g)
 |[],_=>.nil| x::l,h=>.cons (h x (.head _)) (j8.map λy aG=>h y (.tail _ aG))
def j8.append:∀ {a:List bp} {b:List cF} {c:List bp} {d:List cF},j8 a b->j8 c d->j8 (a++c) (b++d)
 |_,_,_,_,.nil,h=>h| _,_,_,_,.cons h t,a1=>.cons h (t.append a1)
def NT{x y:cA}(h:x≠.zero\/y≠.zero):x.or y≠.zero:=by
 intro e;have ab:x=.zero:=cA.NR (by rw[<-e];exact cA.Vk x y) (cA.zero_sub _);have aG:y=.zero:=cA.NR (by rw[<-e,cA.or_comm];exact cA.Vk y x) (cA.zero_sub _);rcases h with h | h
 ·exact h ab
 ·exact h aG
structure NU(p:bp×Bool)(k:cF):Prop where
 z:p.1.z=true->k.f=true
 s:p.1.s=true->p.2=true->k.w≠.zero
 c:p.2=true->k.f=true\/k.w≠.zero
def NU.step{p:bp×Bool}{k:cF}{x:bp}{y:cF}(h:NU p k)(ab:qI x y):NU (sg p x) (k.seq y):=by
 obtain⟨⟨alR,ps,alS⟩,alT⟩:=p;obtain⟨U,aa,ag⟩:=h;obtain⟨alU,xs,alV⟩:=x;have ao:=ab.pA;obtain⟨aR,aV⟩:=ab;obtain⟨alW,afH⟩:=k;obtain⟨alX,alY⟩:=y;simp only[sg,bp.pA]at *;cases afH with
 |false=>
  simp only[cF.seq,a5];refine⟨?_,?_,?_⟩;·intro h;simp only[bL]at h;exact U h.1
  ·intro _ h;simp only[bL]at h;exact(ag h.1).resolve_left (by simp)
  ·intro h;simp only[bL]at h;exact .inr ((ag h.1).resolve_left (by simp))
 |true=>
  simp only[cF.seq,ba];refine⟨?_,?_,?_⟩;·intro h;simp only[bL]at h;exact aR h.2
  ·intro h a1;simp only[jY,bL]at h a1;rcases h with h | h
   ·exact NT (.inl (aa h a1.1))
   ·exact NT (.inr (aV h))
  ·intro h;simp only[bL]at h;rcases ao h.2 with e | e
   ·exact .inl e
   ·exact .inr (NT (.inr e))
def Vm:List (bp×List Nat)->List Nat
 |[]=>[]| x::xs=>x.2++bif x.1.z then Vm xs else []
def afI(pl:List (ByteArray×Int))(d:aP)(xs:List (bp×List Nat)):List Nat:=
 bif decide (d.k=3)then [((hg d.t pl).getD 0).toNat]else
 bif decide (d.k=4)then Vm xs else
 bif decide (d.k=6)&&decide (d.hi=0)then []else xs.flatMap (·.2)
def Vn(pl:List (ByteArray×Int))(F:List bp)(d:aP)(xs:List (bp×List Nat)):bp×List Nat:=
 (DF d (xs.map (·.1)++bif decide (d.k=3)then [F.getD ((hg d.t pl).getD 0).toNat gL]else []),afI pl d xs)
def afJ(pl:List (ByteArray×Int))(F:List bp)(ns:List aP)(j:Int):bp×List Nat:=wC (gL,[]) (λd g=>Vn pl F d (d.kids.map g)) ns j
abbrev iJ:=BitVec 64
def afK(k:Nat):iJ:=1#64 <<< k
def zB(m:List iJ):Nat->Nat->iJ->iJ
 |_,0,w=>w| k,f+1,w=>zB m (k+1) f (bif w.getLsbD k then w ||| m.getD k 0 else w)
def ES(m:List iJ):List iJ:=(List.range 64).map λi=>zB m 0 64 (m.getD i 0)
inductive vE(m:List iJ):Nat->Nat->Prop
 |one{i k}(ae:k<64)(h:(m.getD i 0).getLsbD k=true):vE m i k| step {i j k} (h:(m.getD i 0).getLsbD j=true) (al:j<64) (t:vE m j k):vE m i k
def vE.trans{m:List iJ}{i j k:Nat}(h:vE m i j)(a1:vE m j k):vE m i k:=by
 induction h with
 |one ae h=>exact .step h ae a1| step h al t a2=>exact .step h al (a2 a1)
def pK(x y:iJ):Prop:=∀ i,i<64->x.getLsbD i=true->y.getLsbD i=true
def pK.refl(x:iJ):pK x x:=λ_ _ h=>h
def pK.trans{x y z:iJ}(h:pK x y)(a1:pK y z):pK x z:=λi hi ab=>a1 i hi (h i hi ab)
def pK.or(x y:iJ):pK x (x ||| y):=λi hi h=>by rw[BitVec.getLsbD_or,h];rfl
def pK.and{x y:iJ}(h:pK x y):x &&& y=x:=BitVec.eq_of_getLsbD_eq λi hi=>by
 have U:=h i hi;rw[BitVec.getLsbD_and];cases ab:x.getLsbD i<;>simp_all
def NV(m:List iJ):∀ (f k:Nat) (w:iJ),pK w (zB m k f w)
 |0,k,w=>pK.refl w
 |f+1,k,w=>by
  rw[zB];cases w.getLsbD k with
  |true=>exact(pK.or _ _).trans (NV m f (k+1) _)| false=>exact NV m f (k+1) _
def NW{m:List iJ}{P:Nat->Prop}(hm:∀ j,P j->∀ x,x<64->(m.getD j 0).getLsbD x=true->P x):∀ (f k:Nat) (w:iJ),k+f<=64->(∀ x,x<64->w.getLsbD x=true->P x)->∀ x,x<64->(zB m k f w).getLsbD x=true->P x
 |0,k,w,_,hw=>hw
 |f+1,k,w,ae,hw=>by
  rw[zB];cases af:w.getLsbD k with
  |true=>
   refine NW hm f (k+1) _ (by omega) λx ab h=>?_;rw[ba,BitVec.getLsbD_or,jY]at h;rcases h with h | h;·exact hw x ab h
   ·exact hm k (hw k (by omega) af) x ab h
  |false=>exact NW hm f (k+1) _ (by omega) hw
def afL(m:List iJ):(ES m).length=64:=by simp[ES]
def Vo(m:List iJ){i:Nat}(h:i<64):(ES m).getD i 0=zB m 0 64 (m.getD i 0):=by simp[ES,cQ,h]
structure NX(nS m:List iJ):Prop where
 len:m.length=64
 le:∀ i,i<64->pK (nS.getD i 0) (m.getD i 0)
 ok:∀ i,i<64->∀ k,k<64->(m.getD i 0).getLsbD k=true->vE nS i k
def NX.next{nS m:List iJ}(h:NX nS m):NX nS (ES m):=by
 refine⟨afL m,λi hi=>?_,λi hi k ae af=>?_⟩
 ·rw[Vo m hi];exact(h.le i hi).trans (NV m 64 0 _)
 ·rw[Vo m hi]at af;refine NW (P:=λx=>x<64/\vE nS i x) (λj al x ab af=>⟨ab,al.2.trans (h.ok j al.1 x ab af)⟩) 64 0 _ (b6 _) (λx ab af=>⟨ab,h.ok i hi x ab af⟩) k ae af |>.2
def afM(n:Nat)(av:n<64):Spec Tryz.prog 167 [.int .i64 n] I [] λv I' M'=>v=.int .u64 ((2^n:Nat):Int)/\I'=I/\M'=[]:=by
 refine bC [] aS Tryz.func167 rfl rfl rfl ?_;intro B aq;refine cD.inv (ι:=Nat) (λi=>{ bA:=[(0,.val (.int .i64 n)),(3,.val (.int .u64 ((2^i:Nat):Int))),(4,.val (.int .i64 i))],cj:=I }) (λi=>i<=n) (λi=>n-i) ?_ ?_
 ·exact⟨0,bj _,.refl,da,.nil⟩
 intro i hi;refine aI.mk (λh=>?_) (λh=>?_)
 ·have aL:i<n:=by simpa using h
  have aO:2^(i+1)<=2^63:=J5 (by omega) (by omega);have e:((2^i:Nat):Int)*2=((2^(i+1):Nat):Int):=by rw[Nat.pow_succ];simp
  refine aQ.mk ((2^(i+1):Nat):Int) (by rw[e];exact tl ⟨Hg _,by omega⟩) ?_;refine aQ.mk _ (bU (i:=i) (by omega)) ?_;exact⟨i+1,⟨aL,by omega⟩,.refl,da,.nil⟩
 ·have:i=n:=by simp at h;omega
  subst this;exact⟨_,_,.refl,rfl,rfl,rfl⟩
def jW(ws:List Int)(n:Nat):Bool:=(ws.getD (n/64) 0).toNat.testBit (n%64)
def afN{w:Int}(hw:eF w)(k:Nat):decide ((w.tdiv ((2^k:Nat):Int)).tmod 2=1)=w.toNat.testBit k:=by obtain⟨n,rfl⟩:=jf hw.1;rw[R1];have e:((n:Int).tdiv ((2^k:Nat):Int)).tmod 2=((n/2^k%2:Nat):Int):=rfl;rw[e,jA];congr 1;simp only[eq_iff_iff];omega
def Vp{a b c:Int}(fz:∀ x∈[a,b,c,d],eF x)(x:UInt8):Spec Tryz.prog 139 [.agg #[.int .u64 a,.int .u64 b,.int .u64 c,.int .u64 d],.int .u8 x.toNat] I [] λv I' M'=>v=.bool (jW [a,b,c,d] x.toNat)/\I'=I/\M'=[]:=by
 have ab:=x.toNat_lt;have key:∀ (w:Int) (j:Nat),x.toNat/64=j->[a,b,c,d].getD j 0=w->eF w->decide ((w.tdiv ((2^(x.toNat%64):Nat):Int)).tmod 2=1)=jW [a,b,c,d] x.toNat:=λw j al hw hu=>by rw[afN hu,jW,al,hw]
 have BH:=afM (I:=I) (x.toNat%64) (by omega);have hr:(0:Int)<((2^(x.toNat%64):Nat):Int):=by have:=Nat.two_pow_pos (x.toNat%64);omega
 have em:((x.toNat:Int)).tmod 64=((x.toNat%64:Nat):Int):=rfl;have jd:((x.toNat:Int)).tdiv 64=((x.toNat/64:Nat):Int):=rfl;have hdiv:∀ w:Int,eF w->IntKind.u64.wrap (w.tdiv ((2^(x.toNat%64):Nat):Int))=w.tdiv ((2^(x.toNat%64):Nat):Int):=λw hw=>by obtain⟨n,rfl⟩:=jf hw.1;have e:(n:Int).tdiv ((2^(x.toNat%64):Nat):Int)=((n/2^(x.toNat%64):Nat):Int):=rfl;rw[e];have U:=LA n (2^(x.toNat%64));have aa:=hw.2;generalize n/2^(x.toNat%64)=q at *;exact tl ⟨by omega,by omega⟩
 refine bC [] aS Tryz.func139 rfl rfl rfl ?_;intro B aq;refine cL.draw aS rfl rfl rfl ?_;refine aQ.mk (x.toNat:Int) (wrap_i64 ⟨by omega,by omega⟩) ?_;refine gE.mk (by decide) ?_;rcases(by omega:x.toNat/64=0\/x.toNat/64=1\/x.toNat/64=2\/x.toNat/64=3)with al | al | al | al
 ·refine aQ.mk 0 (by rw[jd,al];decide) ?_;refine dT.mk 0 rfl (by decide) ?_;refine aQ.mk (x.toNat:Int) (wrap_i64 ⟨by omega,by omega⟩) ?_;refine gE.mk (by decide) ?_;refine jc.mk _ BH ?_;rintro v J N -⟨rfl,rfl,rfl⟩;refine gE.mk (by omega) ?_;refine aQ.mk _ (hdiv a (fz a (by simp))) ?_;refine gE.mk (by decide) ?_;exact⟨_,_,.refl,congrArg Value.bool (key a 0 al rfl (fz a (by simp))),rfl,rfl⟩
 ·refine aQ.mk 1 (by rw[jd,al];decide) ?_;refine dT.mk 1 rfl (by decide) ?_;refine aQ.mk (x.toNat:Int) (wrap_i64 ⟨by omega,by omega⟩) ?_;refine gE.mk (by decide) ?_;refine jc.mk _ BH ?_;rintro v J N -⟨rfl,rfl,rfl⟩;refine gE.mk (by omega) ?_;refine aQ.mk _ (hdiv b (fz b (by simp))) ?_;refine gE.mk (by decide) ?_;exact⟨_,_,.refl,congrArg Value.bool (key b 1 al rfl (fz b (by simp))),rfl,rfl⟩
 ·refine aQ.mk 2 (by rw[jd,al];decide) ?_;refine dT.mk 2 rfl (by decide) ?_;refine aQ.mk (x.toNat:Int) (wrap_i64 ⟨by omega,by omega⟩) ?_;refine gE.mk (by decide) ?_;refine jc.mk _ BH ?_;rintro v J N -⟨rfl,rfl,rfl⟩;refine gE.mk (by omega) ?_;refine aQ.mk _ (hdiv c (fz c (by simp))) ?_;refine gE.mk (by decide) ?_;exact⟨_,_,.refl,congrArg Value.bool (key c 2 al rfl (fz c (by simp))),rfl,rfl⟩
 ·refine aQ.mk 3 (by rw[jd,al];decide) ?_;refine dT.mk 3 rfl (by decide) ?_;refine aQ.mk (x.toNat:Int) (wrap_i64 ⟨by omega,by omega⟩) ?_;refine gE.mk (by decide) ?_;refine jc.mk _ BH ?_;rintro v J N -⟨rfl,rfl,rfl⟩;refine gE.mk (by omega) ?_;refine aQ.mk _ (hdiv d (fz d (by simp))) ?_;refine gE.mk (by decide) ?_;exact⟨_,_,.refl,congrArg Value.bool (key d 3 al rfl (fz d (by simp))),rfl,rfl⟩
def gO(p:Nat->Bool):Nat->Nat->Nat
 |0,t=>t| f+1,t=>bif p (t+1)then gO p f (t+1)else t
def mh(p:Nat->Bool)(i:Nat):Bool:=p i&&(decide (i=0) || !p (i-1))
def mY(p:Nat->Bool)(n:Nat):List (UInt8×UInt8):=((List.range n).filter (mh p)).map λi=>(UInt8.ofNat i,UInt8.ofNat (gO p (255-i) i))
def Vq(p:Nat->Bool)(n:Nat):mY p (n+1)=mY p n++(bif mh p n then [(UInt8.ofNat n,UInt8.ofNat (gO p (255-n) n))]else []):=by
 unfold mY;rw[zx,Bq,gg];cases h:mh p n<;>simp[h]
def Vr(p:Nat->Bool)(n:Nat):(mY p n).length<=n:=by have:=xL (mh p) (List.range n);simpa[mY]using this
def Iy{os:bn}{aU:List (UInt8×UInt8)}{x:UInt8×UInt8}(dN:os.ok 2 (jm aU)){c:Nat}{cur:List Value}(U:cur.length=c*2)(aa:os.n+1<=c)(ag:c<=maxLen)(aK:cur.take ((os.n+1)*2)=jm aU++fq x) :
  bn.ok ⟨some g,os.n+1,c,cur⟩ 2 (jm (aU++[x])):=by
 have r1:jm (aU++[x])=jm aU++fq x:=by simp[jm]
 have ay:=dN.len;refine⟨?_,(λh=>by cases h),λbl nE=>⟨U,aa,ag,by rw[r1];exact aK⟩⟩;rw[r1,ck,ay];simp[fq];omega
def uf(h:n<256):(UInt8.ofNat n).toNat=n:=by rw[UInt8.toNat_ofNat'];omega
def oP(h:n<256):IntKind.u8.wrap (n:Int)=((UInt8.ofNat n).toNat:Int):=by rw[uf h];simp[IntKind.wrap,IntKind.signed,IntKind.bits];omega
def afO{a b c:Int}(fz:∀ x∈[a,b,c,d],eF x)(av:n<256):Spec Tryz.prog 139 [.agg #[.int .u64 a,.int .u64 b,.int .u64 c,.int .u64 d],.int .u8 (UInt8.ofNat n).toNat] I [] λv I' M'=>v=.bool (jW [a,b,c,d] n)/\I'=I/\M'=[]:=by have h:=Vp (I:=I) fz (UInt8.ofNat n);rwa [show jW [a,b,c,d] (UInt8.ofNat n).toNat=jW [a,b,c,d] n from by rw[uf av]]at h
def afP{a b c:Int}(fz:∀ x∈[a,b,c,d],eF x):Spec Tryz.prog 211 [.agg #[.int .u64 a,.int .u64 b,.int .u64 c,.int .u64 d]] I [] λv I' M'=>I'=I/\∃ os:bn,v=os.val/\os.ok 2 (jm (mY (jW [a,b,c,d]) 256))/\M'=os.aY 272:=by
 refine bC [] aS Tryz.func211 rfl rfl rfl ?_;intro B aq;generalize aO:jW [a,b,c,d]=p;have h0:∀ {n:Nat},n<256->Spec Tryz.prog 139 [.agg #[.int .u64 a,.int .u64 b,.int .u64 c,.int .u64 d],.int .u8 (UInt8.ofNat n).toNat] I [] λv I' M'=>v=.bool (p n)/\I'=I/\M'=[]:=λav=>by rw[<-aO];exact afO fz av
 refine cD.inv (ι:=Nat×bn) (λx=>{ bA:=[(1,.ref 1 0),(3,.val x.2.val),(4,.val (.int .i64 x.1))],cl:=[(1,uW a b c d)],cj:=I,dx:=x.2.aY 272 }) (λx=>x.1<=256/\x.2.ok 2 (jm (mY p x.1))) (λx=>256-x.1) ?_ ?_
 ·exact⟨(0,sb),⟨by simp,wQ 2⟩,.refl,da,.cons rfl .nil⟩
 rintro⟨n,os⟩⟨av,dN⟩;simp only at av dN;have alZ:os.n<=256:=by have U:=dN.len;have aa:=Vr p n;rw[AD]at U;omega
 have BI:=Vq p n;refine aI.mk (λh=>?_) (λh=>?_)
 ·have aL:n<256:=by simp at h;omega
  refine aQ.mk _ (oP aL) ?_;refine aT.mk [] (os.aY 272) _ (.refl _) (h0 aL) ?_;rintro v J N -⟨rfl,bO,rfl⟩;subst J;refine bo.mk (λU=>?_) (λU=>?_)
  ·have jz:p n=true:=by simpa using U
   refine bo.mk (λaa=>?_) (λaa=>?_)
   ·have n':0<n:=by simpa using aa
    refine aQ.mk ((n-1:Nat):Int) (by rw[wrap_i64 ⟨by omega,by omega⟩];omega) ?_;refine aQ.mk _ (oP (n:=n-1) (by omega)) ?_;refine aT.mk [] (os.aY 272) _ (.refl _) (h0 (n:=n-1) (by omega)) ?_;rintro v J N -⟨rfl,bO,rfl⟩;subst J;refine aI.mk (λag=>?_) (λag=>?_)
    ·refine aQ.mk _ (bU (i:=n) (by omega)) ?_;refine⟨(n+1,os),⟨⟨by simp only;omega,?_⟩,by simp only;omega⟩,.refl,da,.cons rfl .nil⟩;simp only;have dB:mh p n=false:=by
      have e:decide (n=0)=false:=by simp;omega
      rw[mh,jz,ag,e];rfl
     rw[BI,dB,a5,fo];exact dN
    have dB:mh p n=true:=by rw[mh,jz,ag];simp
    refine cD.inv (ι:=Nat) (λt=>{ bA:=[(1,.ref 1 0),(3,.val os.val),(4,.val (.int .i64 n)),(5,.val (.int .i64 t))],cl:=[(1,uW a b c d)],cj:=I,dx:=os.aY 272 }) (λt=>n<=t/\t<=255/\gO p (255-n) n=gO p (255-t) t) (λt=>255-t) ?_ ?_;·exact⟨n,⟨b6 _,by omega,rfl⟩,.refl,dr,.cons rfl .nil⟩
    intro t ⟨yG,rl,wR⟩;refine bo.mk (λaK=>?_) (λaK=>?_)
    ·have Nz:t<255:=by simp at aK;omega
     have hU:gO p (255-t) t=bif p (t+1)then gO p (255-(t+1)) (t+1)else t:=by rw[show 255-t=(255-(t+1))+1 from by omega,gO]
     refine aQ.mk _ (bU (i:=t) (by omega)) ?_;refine aQ.mk _ (oP (n:=t+1) (by omega)) ?_;refine aT.mk [] (os.aY 272) _ (.refl _) (h0 (n:=t+1) (by omega)) ?_;rintro v J N -⟨rfl,bO,rfl⟩;subst J;refine aI.mk (λbg=>?_) (λbg=>?_);·refine aQ.mk _ (bU (i:=t) (by omega)) ?_;exact⟨t+1,⟨⟨by omega,by omega,by rw[wR,hU,bg,ba]⟩,by omega⟩,.refl,dr,.cons rfl .nil⟩
     ·have zC:gO p (255-n) n=t:=by rw[wR,hU,bg,a5]
      refine aQ.mk _ (oP (n:=n) (by omega)) ?_;refine aQ.mk _ (oP (n:=t) (by omega)) ?_;refine cz.mk λbZ gb tv=>?_;refine be.wv aS rfl (by simp) (e:=272) rfl rfl rfl os dN rfl (m:=1) rfl (news:=fq (UInt8.ofNat n,UInt8.ofNat t)) (by decide) (dM (b:=bZ) (cs:=fq (UInt8.ofNat n,UInt8.ofNat t)) (k:=0) (n:=2) (T:=272) (.head _) (b6 2)) rfl (Mr:=[⟨bZ,.cells (fq (UInt8.ofNat n,UInt8.ofNat t)).toArray 272 (0,0)⟩]) (f' (l₁:=[_])) (by simp only[maxLen];omega) (by show(os.n+1)*2<=_;omega) ?_;intro c2 c' ga zD eH eI fK gK;refine aQ.mk _ (bU (i:=n) (by omega)) ?_;refine⟨(n+1,⟨some c2,os.n+1,c',ga⟩),⟨⟨by simp only;omega,?_⟩,by simp only;omega⟩,.sub (List.Sublist.cons_cons _ (dJ _)) .refl,da,.cons rfl .nil⟩;simp only;rw[BI,dB,ba,zC];exact Iy dN eH eI fK gK
    ·have Dz:t=255:=by simp at aK;omega
     have zC:gO p (255-n) n=t:=by rw[wR,Dz];rfl
     refine aQ.mk _ (oP (n:=n) (by omega)) ?_;refine aQ.mk _ (oP (n:=t) (by omega)) ?_;refine cz.mk λbZ gb tv=>?_;refine be.wv aS rfl (by simp) (e:=272) rfl rfl rfl os dN rfl (m:=1) rfl (news:=fq (UInt8.ofNat n,UInt8.ofNat t)) (by decide) (dM (b:=bZ) (cs:=fq (UInt8.ofNat n,UInt8.ofNat t)) (k:=0) (n:=2) (T:=272) (.head _) (b6 2)) rfl (Mr:=[⟨bZ,.cells (fq (UInt8.ofNat n,UInt8.ofNat t)).toArray 272 (0,0)⟩]) (f' (l₁:=[_])) (by simp only[maxLen];omega) (by show(os.n+1)*2<=_;omega) ?_;intro c2 c' ga zD eH eI fK gK;refine aQ.mk _ (bU (i:=n) (by omega)) ?_;refine⟨(n+1,⟨some c2,os.n+1,c',ga⟩),⟨⟨by simp only;omega,?_⟩,by simp only;omega⟩,.sub (List.Sublist.cons_cons _ (dJ _)) .refl,da,.cons rfl .nil⟩;simp only;rw[BI,dB,ba,zC];exact Iy dN eH eI fK gK
   ·have dB:mh p n=true:=by
     have e:n=0:=by simp at aa;omega
     rw[mh,jz,e];rfl
    refine cD.inv (ι:=Nat) (λt=>{ bA:=[(1,.ref 1 0),(3,.val os.val),(4,.val (.int .i64 n)),(5,.val (.int .i64 t))],cl:=[(1,uW a b c d)],cj:=I,dx:=os.aY 272 }) (λt=>n<=t/\t<=255/\gO p (255-n) n=gO p (255-t) t) (λt=>255-t) ?_ ?_;·exact⟨n,⟨b6 _,by omega,rfl⟩,.refl,dr,.cons rfl .nil⟩
    intro t ⟨yG,rl,wR⟩;refine bo.mk (λaK=>?_) (λaK=>?_)
    ·have Nz:t<255:=by simp at aK;omega
     have hU:gO p (255-t) t=bif p (t+1)then gO p (255-(t+1)) (t+1)else t:=by rw[show 255-t=(255-(t+1))+1 from by omega,gO]
     refine aQ.mk _ (bU (i:=t) (by omega)) ?_;refine aQ.mk _ (oP (n:=t+1) (by omega)) ?_;refine aT.mk [] (os.aY 272) _ (.refl _) (h0 (n:=t+1) (by omega)) ?_;rintro v J N -⟨rfl,bO,rfl⟩;subst J;refine aI.mk (λbg=>?_) (λbg=>?_);·refine aQ.mk _ (bU (i:=t) (by omega)) ?_;exact⟨t+1,⟨⟨by omega,by omega,by rw[wR,hU,bg,ba]⟩,by omega⟩,.refl,dr,.cons rfl .nil⟩
     ·have zC:gO p (255-n) n=t:=by rw[wR,hU,bg,a5]
      refine aQ.mk _ (oP (n:=n) (by omega)) ?_;refine aQ.mk _ (oP (n:=t) (by omega)) ?_;refine cz.mk λbZ gb tv=>?_;refine be.wv aS rfl (by simp) (e:=272) rfl rfl rfl os dN rfl (m:=1) rfl (news:=fq (UInt8.ofNat n,UInt8.ofNat t)) (by decide) (dM (b:=bZ) (cs:=fq (UInt8.ofNat n,UInt8.ofNat t)) (k:=0) (n:=2) (T:=272) (.head _) (b6 2)) rfl (Mr:=[⟨bZ,.cells (fq (UInt8.ofNat n,UInt8.ofNat t)).toArray 272 (0,0)⟩]) (f' (l₁:=[_])) (by simp only[maxLen];omega) (by show(os.n+1)*2<=_;omega) ?_;intro c2 c' ga zD eH eI fK gK;refine aQ.mk _ (bU (i:=n) (by omega)) ?_;refine⟨(n+1,⟨some c2,os.n+1,c',ga⟩),⟨⟨by simp only;omega,?_⟩,by simp only;omega⟩,.sub (List.Sublist.cons_cons _ (dJ _)) .refl,da,.cons rfl .nil⟩;simp only;rw[BI,dB,ba,zC];exact Iy dN eH eI fK gK
    ·have Dz:t=255:=by simp at aK;omega
     have zC:gO p (255-n) n=t:=by rw[wR,Dz];rfl
     refine aQ.mk _ (oP (n:=n) (by omega)) ?_;refine aQ.mk _ (oP (n:=t) (by omega)) ?_;refine cz.mk λbZ gb tv=>?_;refine be.wv aS rfl (by simp) (e:=272) rfl rfl rfl os dN rfl (m:=1) rfl (news:=fq (UInt8.ofNat n,UInt8.ofNat t)) (by decide) (dM (b:=bZ) (cs:=fq (UInt8.ofNat n,UInt8.ofNat t)) (k:=0) (n:=2) (T:=272) (.head _) (b6 2)) rfl (Mr:=[⟨bZ,.cells (fq (UInt8.ofNat n,UInt8.ofNat t)).toArray 272 (0,0)⟩]) (f' (l₁:=[_])) (by simp only[maxLen];omega) (by show(os.n+1)*2<=_;omega) ?_;intro c2 c' ga zD eH eI fK gK;refine aQ.mk _ (bU (i:=n) (by omega)) ?_;refine⟨(n+1,⟨some c2,os.n+1,c',ga⟩),⟨⟨by simp only;omega,?_⟩,by simp only;omega⟩,.sub (List.Sublist.cons_cons _ (dJ _)) .refl,da,.cons rfl .nil⟩;simp only;rw[BI,dB,ba,zC];exact Iy dN eH eI fK gK
  ·have jz:p n=false:=by simpa using U
   refine aQ.mk _ (bU (i:=n) (by omega)) ?_;refine⟨(n+1,os),⟨⟨by simp only;omega,?_⟩,by simp only;omega⟩,.refl,da,.cons rfl .nil⟩;simp only;rw[BI,mh,jz,nk,a5,fo];exact dN
 ·have:n=256:=by simp at h;omega
  subst this;exact⟨_,_,.refl,rfl,os,rfl,dN,rfl⟩
def Vs(w:iJ):Value:=.int .u64 w.toNat
def NY(m:List iJ):List Value:=(List.range 64).map λi=>Vs (m.getD i 0)
def afQ(m:List iJ):(NY m).length=64:=by simp[NY]
structure ug where
 n:Nat
 m:List iJ
 w:iJ
def ug.cells(s:ug):List Value:=.int .i64 s.n::(NY s.m++[Vs s.w])
def ug.val(s:ug):Value:=.agg s.cells.toArray
section
variable{I:aN}{M:List aC}{d:aP}{x:bp}{a:Option Addr}{n c:Nat}{ks:List cF}
def vD.head(ae:vD I M a n ks)(aq:0<n):∃ ad,a=some ad/\bE I M (ad.add (0*5)) 5 (ks.headD oO).cells:=by
 have U:0<ks.length:=by rw[ae.n];exact aq
 obtain⟨ad,aa,ag⟩:=ae.rd 0 U;refine⟨ad,aa,?_⟩;cases ks with
 |nil=>simp at U| cons k ks=>exact ag
end
def vD.mono{a:Option Addr}{ks:List cF}(h:vD I M a n ks)(a9:∀ b o,I b=some o->I' b=some o):vD I' M a n ks:=
 ⟨h.n,λj al=>by
  obtain⟨ad,U,aa⟩:=h.rd j al;exact⟨ad,U,aa.mono a9⟩⟩
def vD.sub{I:aN}{M M':List aC}{a:Option Addr}{n:Nat}{ks:List cF}(h:vD I M a n ks)(a7:∀ x∈M,x∈M'):vD I M' a n ks:=
 ⟨h.n,λj al=>by
  obtain⟨ad,U,aa⟩:=h.rd j al;exact⟨ad,U,aa.sub a7⟩⟩
def NZ(t:bJ):Prop:=∀ n∈t.ns,n.kn<=3000000000000
def ug.c0(s:ug):s.cells.length=66:=by simp[ug.cells,afQ]
def cA.ints(w:cA):∀ x∈[(w.a.toNat:Int),(w.b.toNat:Int),(w.c.toNat:Int),(w.d.toNat:Int)],eF x:=by
 have U:=w.a.isLt;have aa:=w.b.isLt;have ag:=w.c.isLt;have aK:=w.d.isLt;intro x ab;simp only[dE,Dg,or_false]at ab;unfold eF;rcases ab with rfl | rfl | rfl | rfl<;>omega
section
variable{I:aN}{M:List aC}{d:aP}{a:Option Addr}{n c:Nat}{ks:List bp}
end
def afR:∀ n:Fin 16,(wF.extract n.val (n.val+1)).data.toList=[mJ n.val]:=by decide +kernel
def Iz(n:Nat)(av:n<16):Spec Tryz.prog 231 [.int .i64 n] I [] λv I' M'=>v=.string (strOf [mJ n])/\I'=I/\M'=[]:=by refine bC [] aS Tryz.func231 rfl rfl rfl ?_;intro B aq;refine aQ.mk ((n+1:Nat):Int) (by rw[wrap_i64 ⟨by omega,by omega⟩];omega) ?_;refine i'.mk n (n+1) rfl rfl (by omega) (by show _<=16;omega) ?_;refine⟨_,_,.refl,?_,rfl,rfl⟩;have:wF.extract n (n+1)=strOf [mJ n]:=wG (afR ⟨n,av⟩);rw[<-this];rfl
def IA(c:UInt8)(s:ByteArray):Bool:=s.data.toList.any λx=>decide (x.toNat=c.toNat)
def afS(c:UInt8)(s:ByteArray)(ao:s.size<=140737488355328):Spec Tryz.prog 232 [.int .u8 c.toNat,.string s] I [] λv I' M'=>v=.bool (IA c s)/\I'=I/\M'=[]:=by
 refine bC [] aS Tryz.func232 rfl rfl rfl ?_;intro B aq;have kw:s.data.toList.length=s.size:=rfl;refine cD.inv (ι:=Nat) (λi=>{ bA:=[(0,.val (.int .u8 c.toNat)),(1,.val (.string s)),(5,.val (.int .i64 i))],cj:=I }) (λi=>i<=s.size/\IA c s=(s.data.toList.drop i).any λx=>decide (x.toNat=c.toNat)) (λi=>s.size-i) ?_ ?_
 ·exact⟨0,⟨bj _,rfl⟩,.refl,da,.nil⟩
 intro i ⟨hi,e8⟩;refine aI.mk (λh=>?_) (λh=>?_)
 ·have aL:i<s.size:=by simpa using h
  rw[dS (show i<s.data.toList.length from aL),List.any_cons]at e8;have Lk:s.data.toList[i]'aL=s[i]:=rfl;rw[Lk]at e8;refine o2.mk i rfl aL ?_;refine aI.mk (λaa=>?_) (λaa=>?_)
  ·have e:decide (s[i].toNat=c.toNat)=true:=by simp at aa |-;omega
   rw[e,si]at e8;exact⟨_,_,.refl,congrArg Value.bool e8.symm,rfl,rfl⟩
  ·have e:decide (s[i].toNat=c.toNat)=false:=by simp at aa |-;omega
   rw[e,qS]at e8;refine aQ.mk _ (bU (i:=i) (by omega)) ?_;exact⟨i+1,⟨⟨by omega,e8⟩,by omega⟩,.refl,da,.nil⟩
 ·have:i=s.size:=by simp at h;omega
  subst this;rw[ub (by omega)]at e8;exact⟨_,_,.refl,congrArg Value.bool e8.symm,rfl,rfl⟩
def rF(c:UInt8)(dO:ByteArray):List UInt8:=
 bif decide ((c.toNat:Int)=10)then [92,110]else
 bif decide ((c.toNat:Int)=13)then [92,114]else
 bif decide ((c.toNat:Int)=9)then [92,116]else
 bif decide ((c.toNat:Int)<32)||decide (126<(c.toNat:Int))then [92,120,mJ (c.toNat/16),mJ (c.toNat%16)]else
 bif IA c dO then [92,c]else [c]
def ET(c:UInt8)(dO:ByteArray)(ao:dO.size<=140737488355328):Spec Tryz.prog 212 [.int .u8 c.toNat,.string dO] I [] λv I' M'=>v=.string (strOf (rF c dO))/\I'=I/\M'=[]:=by
 refine bC [] aS Tryz.func212 rfl rfl rfl ?_;intro B aq;have aA:=c.toNat_lt;refine aI.mk (λU=>?_) (λU=>?_)
 ·exact⟨_,_,.refl,by rw[rF,U];rfl,rfl,rfl⟩
 refine aI.mk (λaa=>?_) (λaa=>?_)
 ·exact⟨_,_,.refl,by rw[rF,U,aa];rfl,rfl,rfl⟩
 refine aI.mk (λag=>?_) (λag=>?_)
 ·exact⟨_,_,.refl,by rw[rF,U,aa,ag];rfl,rfl,rfl⟩
 have Vt:(decide ((c.toNat:Int)<32)||decide (126<(c.toNat:Int)))=true->rF c dO=[92,120,mJ (c.toNat/16),mJ (c.toNat%16)]:=λh=>by rw[rF,U,aa,ag,h];rfl
 have Vu:(decide ((c.toNat:Int)<32)||decide (126<(c.toNat:Int)))=false->rF c dO=bif IA c dO then [92,c]else [c]:=λh=>by rw[rF,U,aa,ag,h];rfl
 refine bo.mk (λaK=>?_) (λaK=>?_)
 ·refine aI.mk (λbg=>?_) (λbg=>?_)
  ·have aE:(decide ((c.toNat:Int)<32)||decide (126<(c.toNat:Int)))=true:=by rw[aK,bg];rfl
   refine aQ.mk (c.toNat:Int) (wrap_i64 ⟨by omega,by omega⟩) ?_;refine gE.mk (by decide) ?_;refine aQ.mk ((c.toNat/16:Nat):Int) (wrap_i64 (x:=((c.toNat/16:Nat):Int)) ⟨by omega,by omega⟩) ?_;refine aT.mk [] [] _ (.refl _) (Iz (c.toNat/16) (by omega)) ?_;rintro v J N -⟨rfl,bO,rfl⟩;subst J;refine cu.ek (a:=[92,120]) (by simp) ?_;refine aQ.mk (c.toNat:Int) (wrap_i64 ⟨by omega,by omega⟩) ?_;refine gE.mk (by decide) ?_;refine aT.mk [] [] _ (.refl _) (Iz (c.toNat%16) (by omega)) ?_;rintro v J N -⟨rfl,bO,rfl⟩;subst J;refine cu.ek (a:=[92,120,mJ (c.toNat/16)]) (by simp) ?_;exact⟨_,_,.refl,by rw[Vt aE];rfl,rfl,rfl⟩
  have aE:(decide ((c.toNat:Int)<32)||decide (126<(c.toNat:Int)))=false:=by rw[aK,bg];rfl
  refine aT.mk [] [] _ (.refl _) (afS c dO ao) ?_;rintro v J N -⟨rfl,bO,rfl⟩;subst J;refine aI.mk (λbD=>?_) (λbD=>?_);·refine cz.mk λb af tk=>?_;refine be.AT aS rfl (by simp) rfl rfl rfl rfl rfl rfl (ad:=⟨b,0,none⟩) (n:=1) (l:=[c]) rfl rfl (dM (b:=b) (cs:=[.int .u8 c.toNat]) (k:=0) (n:=1) (T:=5) (.head _) (by simp)) ?_;refine cu.ek (a:=[92]) (b:=[c]) (by simp) ?_;exact⟨_,_,.sub (dJ _) .refl,by rw[Vu aE,bD];rfl,rfl,rfl⟩
  ·refine cz.mk λb af tk=>?_;refine be.AT aS rfl (by simp) rfl rfl rfl rfl rfl rfl (ad:=⟨b,0,none⟩) (n:=1) (l:=[c]) rfl rfl (dM (b:=b) (cs:=[.int .u8 c.toNat]) (k:=0) (n:=1) (T:=5) (.head _) (by simp)) ?_;exact⟨_,_,.sub (dJ _) .refl,by rw[Vu aE,bD];rfl,rfl,rfl⟩
 ·have aE:(decide ((c.toNat:Int)<32)||decide (126<(c.toNat:Int)))=true:=by simp at aK;simp[aK]
  refine aQ.mk (c.toNat:Int) (wrap_i64 ⟨by omega,by omega⟩) ?_;refine gE.mk (by decide) ?_;refine aQ.mk ((c.toNat/16:Nat):Int) (wrap_i64 (x:=((c.toNat/16:Nat):Int)) ⟨by omega,by omega⟩) ?_;refine aT.mk [] [] _ (.refl _) (Iz (c.toNat/16) (by omega)) ?_;rintro v J N -⟨rfl,bO,rfl⟩;subst J;refine cu.ek (a:=[92,120]) (by simp) ?_;refine aQ.mk (c.toNat:Int) (wrap_i64 ⟨by omega,by omega⟩) ?_;refine gE.mk (by decide) ?_;refine aT.mk [] [] _ (.refl _) (Iz (c.toNat%16) (by omega)) ?_;rintro v J N -⟨rfl,bO,rfl⟩;subst J;refine cu.ek (a:=[92,120,mJ (c.toNat/16)]) (by simp) ?_;exact⟨_,_,.refl,by rw[Vt aE];rfl,rfl,rfl⟩
def N0:ByteArray:=⟨#[34,92]⟩
def BJ:ByteArray:=⟨#[93,45,94,92]⟩
def EU(c:UInt8):rF c N0=hF c mK/\rF c BJ=hF c l2:=by
 have h:∀ n:Fin 256,rF (UInt8.ofNat n.val) N0=hF (UInt8.ofNat n.val) mK/\rF (UInt8.ofNat n.val) BJ=hF (UInt8.ofNat n.val) l2:=by decide +kernel
 have:=h ⟨c.toNat,c.toNat_lt⟩;simpa using this
def afT(s:ByteArray)(ao:s.size<=1099511627776):Spec Tryz.prog 190 [.string s] I [] λr I' M'=>r=.string (strOf (tq s))/\I'=I/\M'=[]:=by
 refine bC [] aS Tryz.func190 rfl rfl rfl ?_;intro B aq;have u9:∀ i,((s.data.toList.take i).flatMap (hF · mK)).length<=4*i:=λi=>by have:=yu (hF · mK) 4 (λc=>qh c mK) (s.data.toList.take i);have aa:=As i s.data.toList;omega
 refine cD.inv (ι:=Nat) (λi=>{ bA:=[(0,.val (.string s)),(3,.val (.string (strOf ((s.data.toList.take i).flatMap (hF · mK))))),(4,.val (.int .i64 i))],cj:=I }) (λi=>i<=s.size) (λi=>s.size-i) ?_ ?_
 ·exact⟨0,bj _,.refl,da,.nil⟩
 intro i hi;have IB:=u9 i;refine aI.mk (λh=>?_) (λh=>?_)
 ·have aL:i<s.size:=by simpa using h
  have bi:i<s.data.toList.length:=aL;refine o2.mk i rfl aL ?_;have yB:=ET (I:=I) s[i] N0 (by decide);rw[(EU s[i]).1]at yB;refine aT.mk [] [] _ (.refl _) yB ?_;rintro v J N -⟨rfl,bO,rfl⟩;subst J;have tp:=qh s[i] mK;refine cu.ek (by omega) ?_;refine aQ.mk _ (bU (i:=i) (by omega)) ?_;have e:(s.data.toList.take (i+1)).flatMap (hF · mK)=(s.data.toList.take i).flatMap (hF · mK)++hF s[i] mK:=by rw[g9 bi,lr];simp;rfl
  refine⟨i+1,⟨aL,by omega⟩,.refl,.cons .refl (.cons ?_ (.cons .refl .nil)),.nil⟩;rw[e];exact .refl
 ·have:i=s.size:=by simp at h;omega
  subst this;have e:s.data.toList.take s.size=s.data.toList:=gv (b6 _);refine cu.ek (a:=[34]) (by simp only[c5,eY];omega) ?_;refine cu.ek (b:=[34]) (by simp only[ck,c5,eY];omega) ?_;exact⟨_,_,.refl,by rw[tq,e],rfl,rfl⟩
def IC(n:Nat)(av:n<100):Spec Tryz.prog 213 [.int .i64 n] I [] λr I' M'=>r=.string (r0 n)/\I'=I/\M'=[]:=by
 refine bC [] aS Tryz.func213 rfl rfl rfl ?_;intro B aq;refine aQ.mk (n:Int) (tl ⟨by omega,by omega⟩) ?_;refine aI.mk (λh=>by simp at h;omega) (λ_=>?_);refine cD.inv (ι:=Bool) (λx=>{ bA:=[(3,.val (.int .u64 ((bif x then n/10 else n:Nat):Int))),(4,.val (.string (strOf []))),(5,.val (.string (strOf (bif x then [UInt8.ofNat (48+n%10)]else []))))],cj:=I }) (λx=>x=true->10<=n) (λx=>bif x then 0 else 1) ?_ ?_
 ·exact⟨false,(λh=>by cases h),.refl,da,.nil⟩
 intro x ab;cases x with
 |false=>
  refine aI.mk (λh=>?_) (λh=>?_)
  ·have eK:10<=n:=by simp at h;omega
   refine gE.mk (by decide) ?_;refine aQ.mk ((48+n%10:Nat):Int) (tl (x:=((48+n%10:Nat):Int)) ⟨by omega,by omega⟩) ?_;refine aQ.mk _ (oP (n:=48+n%10) (by omega)) ?_;refine cz.mk λb af tk=>?_;refine be.AT aS rfl (by simp) rfl rfl rfl rfl rfl rfl (ad:=⟨b,0,none⟩) (n:=1) (l:=[UInt8.ofNat (48+n%10)]) rfl rfl (dM (b:=b) (cs:=[.int .u8 (UInt8.ofNat (48+n%10)).toNat]) (k:=0) (n:=1) (T:=5) (.head _) (by simp)) ?_;refine cu.ek (a:=[UInt8.ofNat (48+n%10)]) (b:=[]) (by simp) ?_;refine gE.mk (by decide) ?_;refine aQ.mk ((n/10:Nat):Int) (tl (x:=((n/10:Nat):Int)) ⟨by omega,by omega⟩) ?_;exact⟨true,⟨λ_=>eK,by decide⟩,.sub (dJ _) .refl,da,.nil⟩
  ·have eK:n<10:=by simp at h;omega
   refine aQ.mk ((48+n:Nat):Int) (tl (x:=((48+n:Nat):Int)) ⟨by omega,by omega⟩) ?_;refine aQ.mk _ (oP (n:=48+n) (by omega)) ?_;refine cz.mk λb af tk=>?_;refine be.AT aS rfl (by simp) rfl rfl rfl rfl rfl rfl (ad:=⟨b,0,none⟩) (n:=1) (l:=[UInt8.ofNat (48+n)]) rfl rfl (dM (b:=b) (cs:=[.int .u8 (UInt8.ofNat (48+n)).toNat]) (k:=0) (n:=1) (T:=5) (.head _) (by simp)) ?_;refine cu.ek (a:=[]) (b:=[UInt8.ofNat (48+n)]) (by simp) ?_;refine cu.ek (a:=[]++[UInt8.ofNat (48+n)]) (b:=[]) (by simp) ?_;have e:g7 n=[UInt8.ofNat (48+n)]:=by
    have:Nat.blt n 10=true:=by simp[Nat.blt_eq];omega
    rw[g7,this];rfl
   exact⟨_,_,.sub (dJ _) .refl,by rw[r0,e];rfl,rfl,rfl⟩
 |true=>
  have eK:=ab rfl;refine aI.mk (λh=>?_) (λh=>?_);·simp at h;omega
  refine aQ.mk ((48+n/10:Nat):Int) (tl (x:=((48+n/10:Nat):Int)) ⟨by omega,by omega⟩) ?_;refine aQ.mk _ (oP (n:=48+n/10) (by omega)) ?_;refine cz.mk λb af tk=>?_;refine be.AT aS rfl (by simp) rfl rfl rfl rfl rfl rfl (ad:=⟨b,0,none⟩) (n:=1) (l:=[UInt8.ofNat (48+n/10)]) rfl rfl (dM (b:=b) (cs:=[.int .u8 (UInt8.ofNat (48+n/10)).toNat]) (k:=0) (n:=1) (T:=5) (.head _) (by simp)) ?_;refine cu.ek (a:=[]) (b:=[UInt8.ofNat (48+n/10)]) (by simp) ?_;refine cu.ek (a:=[]++[UInt8.ofNat (48+n/10)]) (b:=[UInt8.ofNat (48+n%10)]) (by simp) ?_;have e:g7 n=[UInt8.ofNat (48+n/10),UInt8.ofNat (48+n%10)]:=by
   have:Nat.blt n 10=false:=by rw[yO];simp[Nat.blt_eq];omega
   rw[g7,this];rfl
  exact⟨_,_,.sub (dJ _) .refl,by rw[r0,e];rfl,rfl,rfl⟩
def j9(p:UInt8×UInt8):List UInt8:=hF p.1 l2++((bif decide ((p.1.toNat:Int)+1<p.2.toNat)then [45]else [])++(bif decide ((p.1.toNat:Int)<p.2.toNat)then hF p.2 l2 else []))
def xz(aU:List (UInt8×UInt8)):Bool:=match aU with
 |[p]=>((p.1.toNat:Int) == 0)&&((p.2.toNat:Int) == 255)| _=>false
def BK(aU:List (UInt8×UInt8)):List UInt8:=bif xz aU then [46]else [91]++aU.flatMap j9++[93]
def afU(p:UInt8×UInt8):(j9 p).length<=9:=by
 have U:=qh p.1 l2;have aa:=qh p.2 l2;unfold j9;cases decide ((p.1.toNat:Int)+1<p.2.toNat)<;>cases decide ((p.1.toNat:Int)<p.2.toNat)<;>simp<;>omega
def afV{a b c:Int}(fz:∀ x∈[a,b,c,d],eF x):Spec Tryz.prog 189 [.agg #[.int .u64 a,.int .u64 b,.int .u64 c,.int .u64 d]] I []
  λr I' M'=>r=.string (strOf (BK (mY (jW [a,b,c,d]) 256)))/\I'=I/\M'=[]:=by
 refine bC [] aS Tryz.func189 rfl rfl rfl ?_;intro B aq;refine aT.mk [] [] _ (.refl _) (afP fz) ?_;rintro v J N -⟨bO,os,rfl,dN,rfl⟩;subst J;have jl:=Vr (jW [a,b,c,d]) 256;generalize mY (jW [a,b,c,d]) 256=aU at *;have av:aU.length=os.n:=by have:=dN.len;rw[AD]at this;omega
 have main:xz aU=false->BK aU=[91]++aU.flatMap j9++[93]:=λh=>by rw[BK,h];rfl
 have u9:∀ i,((aU.take i).flatMap j9).length<=9*i:=λi=>by have:=yu j9 9 afU (aU.take i);have aa:=As i aU;omega
 have row:∀ {i:Nat} (hi:i<aU.length) (M:List aC),(∀ y∈os.aY 272,y∈M)->∃ ad,(os.a.map λg=>(⟨g,0,none⟩:Addr))=some ad/\bE I M (ad.add (i*2)) 2 (fq aU[i]):=fun {i} hi M a7=>bn.ok.row (I:=I) (M:=M) (f:=fq) (λ_=>rfl) (by decide) dN (e:=272) a7 hi;refine bo.mk (λU=>?_) (λU=>?_)
 ·have tu:os.n=1:=by simp at U;omega
  obtain⟨p,rfl⟩:∃ p,aU=[p]:=by
   match aU,(show aU.length=1 by omega)with
   |[p],_=>exact⟨p,rfl⟩
  obtain⟨ad,bR,bh⟩:=row (i:=0) (by simp) (os.aY 272++[]) (λy aG=>by simp[aG]);refine a6.mk ad 0 bR rfl (by omega) ?_;refine aJ.mk _ bh ?_;refine cu.abJ aS (e:=5) rfl rfl rfl rfl (by kernel_rfl) ?_;refine aI.mk (λaa=>?_) (λaa=>?_);·exact⟨_,_,.sub (dJ _) .refl,by rw[BK,show xz [p]=true from aa];rfl,rfl,rfl⟩
  ·have eP:xz [p]=false:=aa;have hm:=main eP;refine cD.inv (ι:=Nat×List UInt8) (λx=>{ bA:=[(3,.val os.val),(4,.val (.string (strOf x.2))),(5,.val (.int .i64 x.1))],cj:=I,dx:=os.aY 272 }) (λx=>x.1<=os.n/\x.2=([p].take x.1).flatMap j9) (λx=>os.n-x.1) ?_ ?_
   ·exact⟨(0,[]),⟨bj _,rfl⟩,.perm (by simp) .refl,da,.nil⟩
   rintro⟨i,w⟩⟨hi,hw⟩;simp only at hi hw;have IB:=u9 i;rw[<-hw]at IB;refine aI.mk (λh=>?_) (λh=>?_)
   ·have aL:i<os.n:=by simpa using h
    have bi:i<([p]:List (UInt8×UInt8)).length:=by omega
    obtain⟨ad,bR,bh⟩:=row (i:=i) bi (os.aY 272) (λy aG=>aG);have pL:([p].take (i+1)).flatMap j9=([p].take i).flatMap j9++j9 ([p]:List (UInt8×UInt8))[i]:=by rw[g9 bi,lr];simp
    generalize aE:([p]:List (UInt8×UInt8))[i]=q at bh pL;have Vv:=q.1.toNat_lt;have DY:=q.2.toNat_lt;have wm:=qh q.1 l2;have tr:=qh q.2 l2;refine cL.draw aS rfl rfl rfl ?_;refine a6.mk ad i bR rfl aL ?_;refine dT.mk 0 rfl (by decide) ?_;refine aJ.mk _ (bE.part (k:=0*1) (m:=1) bh (by decide)) ?_;refine aQ.mk (q.1.toNat:Int) (wrap_i64 ⟨by omega,by omega⟩) ?_;refine a6.mk ad i bR rfl aL ?_;refine dT.mk 1 rfl (by decide) ?_;refine aJ.mk _ (bE.part (k:=1*1) (m:=1) bh (by decide)) ?_;refine aQ.mk (q.2.toNat:Int) (wrap_i64 ⟨by omega,by omega⟩) ?_;have N1:IntKind.u8.wrap (q.1.toNat:Int)=(q.1.toNat:Int):=by simp[IntKind.wrap,IntKind.signed,IntKind.bits];omega
    have yW:IntKind.u8.wrap (q.2.toNat:Int)=(q.2.toNat:Int):=by simp[IntKind.wrap,IntKind.signed,IntKind.bits];omega
    refine aQ.mk _ N1 ?_;have fY:=ET (I:=I) q.1 BJ (by decide);rw[(EU q.1).2]at fY;refine aT.mk [] (os.aY 272) _ (.refl _) fY ?_;rintro v J N -⟨rfl,bO,rfl⟩;subst J;refine cu.ek (a:=w) (by omega) ?_;refine aQ.mk ((q.1.toNat:Int)+1) (wrap_i64 ⟨by omega,by omega⟩) ?_;have ja:=ET (I:=I) q.2 BJ (by decide);rw[(EU q.2).2]at ja;refine aI.mk (λcM=>?_) (λcM=>?_)
    ·refine cu.ek (b:=[45]) (by simp only[ck,c5,eY];omega) ?_;refine aI.mk (λcp=>?_) (λcp=>?_)
     ·refine aQ.mk _ yW ?_;refine aT.mk [] (os.aY 272) _ (.refl _) ja ?_;rintro v J N -⟨rfl,bO,rfl⟩;subst J;refine cu.ek (by simp only[ck,c5,eY];omega) ?_;refine aQ.mk _ (bU (i:=i) (by omega)) ?_;refine⟨(i+1,_),⟨⟨aL,?_⟩,by simp only;omega⟩,.refl,da,.nil⟩;simp only;rw[hw,pL,j9,cM,cp,ba,ba,<-fN,<-fN]
     ·simp at cM cp;omega
    ·refine aI.mk (λcp=>?_) (λcp=>?_)
     ·refine aQ.mk _ yW ?_;refine aT.mk [] (os.aY 272) _ (.refl _) ja ?_;rintro v J N -⟨rfl,bO,rfl⟩;subst J;refine cu.ek (by simp only[ck,c5,eY];omega) ?_;refine aQ.mk _ (bU (i:=i) (by omega)) ?_;refine⟨(i+1,_),⟨⟨aL,?_⟩,by simp only;omega⟩,.refl,da,.nil⟩;simp only;rw[hw,pL,j9,cM,cp,a5,ba,nj,<-fN]
     ·refine aQ.mk _ (bU (i:=i) (by omega)) ?_;refine⟨(i+1,_),⟨⟨aL,?_⟩,by simp only;omega⟩,.refl,da,.nil⟩;simp only;rw[hw,pL,j9,cM,cp,a5,a5,nj,fo]
   ·have:i=os.n:=by simp at h;omega
    subst this;have e:[p].take os.n=[p]:=gv (by omega);refine cu.ek (a:=[91]) (by simp only[c5,eY];omega) ?_;refine cu.ek (b:=[93]) (by simp only[ck,c5,eY];omega) ?_;exact⟨_,_,.sub (dJ _) .refl,by rw[hm,hw,e],rfl,rfl⟩
 ·have eP:xz aU=false:=by
   match aU,av with
   |[],_=>rfl| [p],av=>simp at U av;omega| _::_::_,_=>rfl
  have hm:=main eP;refine cD.inv (ι:=Nat×List UInt8) (λx=>{ bA:=[(3,.val os.val),(4,.val (.string (strOf x.2))),(5,.val (.int .i64 x.1))],cj:=I,dx:=os.aY 272 }) (λx=>x.1<=os.n/\x.2=(aU.take x.1).flatMap j9) (λx=>os.n-x.1) ?_ ?_;·exact⟨(0,[]),⟨bj _,rfl⟩,.perm (by simp) .refl,da,.nil⟩
  rintro⟨i,w⟩⟨hi,hw⟩;simp only at hi hw;have IB:=u9 i;rw[<-hw]at IB;refine aI.mk (λh=>?_) (λh=>?_)
  ·have aL:i<os.n:=by simpa using h
   have bi:i<(aU:List (UInt8×UInt8)).length:=by omega
   obtain⟨ad,bR,bh⟩:=row (i:=i) bi (os.aY 272) (λy aG=>aG);have pL:(aU.take (i+1)).flatMap j9=(aU.take i).flatMap j9++j9 (aU:List (UInt8×UInt8))[i]:=by rw[g9 bi,lr];simp
   generalize aE:(aU:List (UInt8×UInt8))[i]=q at bh pL;have Vv:=q.1.toNat_lt;have DY:=q.2.toNat_lt;have wm:=qh q.1 l2;have tr:=qh q.2 l2;refine cL.draw aS rfl rfl rfl ?_;refine a6.mk ad i bR rfl aL ?_;refine dT.mk 0 rfl (by decide) ?_;refine aJ.mk _ (bE.part (k:=0*1) (m:=1) bh (by decide)) ?_;refine aQ.mk (q.1.toNat:Int) (wrap_i64 ⟨by omega,by omega⟩) ?_;refine a6.mk ad i bR rfl aL ?_;refine dT.mk 1 rfl (by decide) ?_;refine aJ.mk _ (bE.part (k:=1*1) (m:=1) bh (by decide)) ?_;refine aQ.mk (q.2.toNat:Int) (wrap_i64 ⟨by omega,by omega⟩) ?_;have N1:IntKind.u8.wrap (q.1.toNat:Int)=(q.1.toNat:Int):=by simp[IntKind.wrap,IntKind.signed,IntKind.bits];omega
   have yW:IntKind.u8.wrap (q.2.toNat:Int)=(q.2.toNat:Int):=by simp[IntKind.wrap,IntKind.signed,IntKind.bits];omega
   refine aQ.mk _ N1 ?_;have fY:=ET (I:=I) q.1 BJ (by decide);rw[(EU q.1).2]at fY;refine aT.mk [] (os.aY 272) _ (.refl _) fY ?_;rintro v J N -⟨rfl,bO,rfl⟩;subst J;refine cu.ek (a:=w) (by omega) ?_;refine aQ.mk ((q.1.toNat:Int)+1) (wrap_i64 ⟨by omega,by omega⟩) ?_;have ja:=ET (I:=I) q.2 BJ (by decide);rw[(EU q.2).2]at ja;refine aI.mk (λcM=>?_) (λcM=>?_)
   ·refine cu.ek (b:=[45]) (by simp only[ck,c5,eY];omega) ?_;refine aI.mk (λcp=>?_) (λcp=>?_)
    ·refine aQ.mk _ yW ?_;refine aT.mk [] (os.aY 272) _ (.refl _) ja ?_;rintro v J N -⟨rfl,bO,rfl⟩;subst J;refine cu.ek (by simp only[ck,c5,eY];omega) ?_;refine aQ.mk _ (bU (i:=i) (by omega)) ?_;refine⟨(i+1,_),⟨⟨aL,?_⟩,by simp only;omega⟩,.refl,da,.nil⟩;simp only;rw[hw,pL,j9,cM,cp,ba,ba,<-fN,<-fN]
    ·simp at cM cp;omega
   ·refine aI.mk (λcp=>?_) (λcp=>?_)
    ·refine aQ.mk _ yW ?_;refine aT.mk [] (os.aY 272) _ (.refl _) ja ?_;rintro v J N -⟨rfl,bO,rfl⟩;subst J;refine cu.ek (by simp only[ck,c5,eY];omega) ?_;refine aQ.mk _ (bU (i:=i) (by omega)) ?_;refine⟨(i+1,_),⟨⟨aL,?_⟩,by simp only;omega⟩,.refl,da,.nil⟩;simp only;rw[hw,pL,j9,cM,cp,a5,ba,nj,<-fN]
    ·refine aQ.mk _ (bU (i:=i) (by omega)) ?_;refine⟨(i+1,_),⟨⟨aL,?_⟩,by simp only;omega⟩,.refl,da,.nil⟩;simp only;rw[hw,pL,j9,cM,cp,a5,a5,nj,fo]
  ·have:i=os.n:=by simp at h;omega
   subst this;have e:aU.take os.n=aU:=gv (by omega);refine cu.ek (a:=[91]) (by simp only[c5,eY];omega) ?_;refine cu.ek (b:=[93]) (by simp only[ck,c5,eY];omega) ?_;exact⟨_,_,.sub (dJ _) .refl,by rw[hm,hw,e],rfl,rfl⟩
def afW(au:t.ok I)(aw:Fit t W):Spec Tryz.prog 119 [t.val] I [] (λv I' M'=>v=.int .i64 (j3 t:Nat)/\I'=I/\M'=[]):=by
 refine bC [] aS Tryz.func119 rfl rfl rfl ?_;intro B aq;refine aT.mk [] [] _ (.refl _) (AL au W aw.w aw.b) ?_;rintro v J N -⟨rfl,bO,rfl⟩;subst J;refine aI.mk (λh=>?_) (λh=>?_)
 ·refine⟨_,_,.refl,?_,rfl,rfl⟩;simp[j3,show right t=false by simpa using h]
 ·refine⟨_,_,.refl,?_,rfl,rfl⟩;simp[j3,show right t=true by simpa using h]
def afX(au:t.ok I)(aw:Fit t W):Spec Tryz.prog 106 [t.val] I [] (λv I' M'=>v=.int .i64 (depth t)/\I'=I/\M'=[]):=by
 refine bC [] aS Tryz.func106 rfl rfl rfl ?_;intro B aq;have av:=au.n;have ny:=au.aU.cap;refine aT.mk [] [] _ (.refl _) (AL au W aw.w aw.b) ?_;rintro v J N -⟨rfl,bO,rfl⟩;subst J;refine aI.mk (λh=>?_) (λh=>?_)
 ·refine⟨_,_,.refl,?_,rfl,rfl⟩;simp[depth,show right t=false by simpa using h]
 ·have an:right t=true:=by simpa using h
  have jk:=qf an;obtain⟨aR,aV⟩:=Az an;refine qU.mk t.n t.n rfl rfl (b6 _) (by show 8*t.n<=_;omega) (by omega) ?_;refine cz.mk λb af tk=>?_;refine cD.inv (ι:=Nat×List Int) (λx=>{ bA:=[(1,.ref 1 0),(3,.val (.slice (some ⟨b,0,none⟩) t.n t.n)),(4,.val (.int .i64 x.1))],cl:=[(1,t.cells)],cj:=I,dx:=[kY b x.2] }) (λx=>x.1<=t.n/\x.2.length=t.n/\(∀ j,0<=x.2.getD j 0/\x.2.getD j 0<=x.1)/\(∀ j,x.1<=j->x.2.getD j 0=0)/\pk 0 t.ns (List.replicate t.ns.length 0)=pk x.1 (t.ns.drop x.1) x.2) (λx=>t.n-x.1) ?_ ?_
  ·have z:∀ j,(List.replicate t.n (0:Int)).getD j 0=0:=λj=>by
    by_cases al:j<t.n<;>simp[cQ,al]
   refine⟨(0,List.replicate t.n 0),⟨by omega,by simp,λj=>by rw[z];simp,λj _=>z j,by simp[av]⟩,?_,da,.cons rfl .nil⟩;show hP _ _ [⟨b,.cells (rowOf [Value.int .i64 0] (t.n*1)).toArray 3 (0,0)⟩] _ [kY b (List.replicate t.n 0)];rw[Ax,hD];simp only[kY,Gm];exact .refl
  ·rintro⟨i,dz⟩⟨eA,gG,gH,iS,rP⟩;simp only at eA gG gH iS rP;refine aI.mk (λh=>?_) (λh=>?_)
   ·have aL:i<t.n:=by simpa using h
    have bi:i<t.ns.length:=by omega
    obtain⟨ad,bR,bh⟩:=au.aU.row aP.c0 aL bi;have fg:=au.ns t.ns[i] (cO bi);have dP:=fg.kn;have eR:t.ns.drop i=t.ns[i]::t.ns.drop (i+1):=dS bi;have Vw:∀ M,bE I M ((ad.add (i*9)).add 8) 1 [.slice t.ns[i].kX t.ns[i].kn t.ns[i].j0]:=λM=>(bh M).part (k:=8) (m:=1) (by decide);refine cD.inv (ι:=Nat×Int) (λx=>{ bA:=[(1,.ref 1 0),(3,.val (.slice (some ⟨b,0,none⟩) t.n t.n)),(4,.val (.int .i64 i)),(5,.val (.int .i64 x.1))],cl:=[(1,t.cells)],cj:=I,dx:=[kY b (dz.set i x.2)] }) (λx=>x.1<=t.ns[i].kn/\0<=x.2/\x.2<=i/\wB dz t.ns[i].kids 0=wB dz (t.ns[i].kids.drop x.1) x.2) (λx=>t.ns[i].kn-x.1) ?_ ?_
    ·refine⟨(0,0),⟨by omega,by omega,by simp,rfl⟩,?_,dr,.cons rfl .nil⟩;have e:dz.set i 0=dz:=by
      have U:=iS i (b6 _);rw[cQ]at U;apply Gn;intro j;rw[mC];split
      ·rename_i e;subst e;have:i<dz.length:=by omega
       simp[this]at U |-;exact U.symm
      ·rfl
     simp only;rw[e];exact .refl
    ·rintro⟨j,m⟩⟨C5,ym,wz,yn⟩;simp only at C5 ym wz yn;refine a6.mk ad i bR rfl aL ?_;refine aJ.mk _ (Vw _) ?_;refine aI.mk (λh=>?_) (λh=>?_)
     ·have dF:j<t.ns[i].kn:=by simpa using h
      have gn:j<t.ns[i].kids.length:=by omega
      obtain⟨ec,e6,eo⟩:=fg.aU.one dF gn;have hq:t.ns[i].kids.drop j=t.ns[i].kids[j]::t.ns[i].kids.drop (j+1):=dS gn;have ae:=jk i bi t.ns[i].kids[j] (cO gn);have fQ:t.ns[i].kids[j]=((t.ns[i].kids[j].toNat:Nat):Int):=by omega
      have dG:t.ns[i].kids[j].toNat<t.n:=by omega
      refine cL.draw aS rfl rfl rfl ?_;have ep:i<(dz.set i m).length:=by simp;omega
      have jj:t.ns[i].kids[j].toNat<(dz.set i m).length:=by simp;omega
      have yo:(dz.set i m)[i]=m:=by simp
      have gT:(dz.set i m)[t.ns[i].kids[j].toNat]=dz.getD t.ns[i].kids[j].toNat 0:=by
       have bk:i≠t.ns[i].kids[j].toNat:=by omega
       have eK:t.ns[i].kids[j].toNat<dz.length:=by omega
       rw[Gp,dc bk];simp[cQ,eK]
      refine a6.mk ⟨b,0,none⟩ i rfl rfl aL ?_;refine aJ.mk [.int .i64 m] (wA ep yo (by simp)) ?_;refine a6.mk ad i bR rfl aL ?_;refine aJ.mk _ (Vw _) ?_;refine a6.mk ec j e6 rfl dF ?_;refine aJ.mk [.int .i64 t.ns[i].kids[j]] (eo _) ?_;refine a6.mk ⟨b,0,none⟩ t.ns[i].kids[j].toNat rfl fQ dG ?_;refine aJ.mk [.int .i64 (dz.getD t.ns[i].kids[j].toNat 0)] (wA jj gT (by simp)) ?_;refine a6.mk ⟨b,0,none⟩ i rfl rfl aL ?_;refine cX.add [] [] _ 3 rfl ?_ rfl ?_;·simp only[oY,ei];show 0+i*1+1<=_;simp;omega
      have eJ:IntKind.i64.wrap ((j:Int)+1)=((j+1:Nat):Int):=by rw[wrap_i64 ⟨by omega,by have:=fg.aU.cap;omega⟩];omega
      refine aQ.mk _ eJ ?_;have Zq:=gH t.ns[i].kids[j].toNat;refine⟨(j+1,max m (dz.getD t.ns[i].kids[j].toNat 0)),⟨⟨by omega,by simp only;omega,by simp only;omega,?_⟩,by show _<_;simp only;omega⟩,?_,dr,.cons rfl .nil⟩;·simp only;rw[yn,hq];rfl
      ·have e:=C7 (dz.set i m) i ep (max m (dz.getD t.ns[i].kids[j].toNat 0));simp only[kY];rw[Gs]at e;rw[<-e];simp only[dK,hD];exact .refl
     ·have dF:¬ j<t.ns[i].kn:=by simpa using h
      have rY:t.ns[i].kids.drop j=[]:=hc (by omega);have hm:wB dz t.ns[i].kids 0=m:=by rw[yn,rY];rfl
      have ep:i<(dz.set i m).length:=by simp;omega
      have yo:(dz.set i m)[i]=m:=by simp
      have C8:IntKind.i64.wrap (m+1)=m+1:=wrap_i64 ⟨by omega,by omega⟩;have eJ:IntKind.i64.wrap ((i:Int)+1)=((i+1:Nat):Int):=by rw[wrap_i64 ⟨by omega,by omega⟩];omega
      refine a6.mk ⟨b,0,none⟩ i rfl rfl aL ?_;refine aJ.mk [.int .i64 m] (wA ep yo (by simp)) ?_;refine aQ.mk _ C8 ?_;refine a6.mk ⟨b,0,none⟩ i rfl rfl aL ?_;refine cX.add [] [] _ 3 rfl ?_ rfl ?_;·simp only[oY,ei];show 0+i*1+1<=_;omega
      refine aQ.mk _ eJ ?_;refine⟨(i+1,dz.set i (m+1)),⟨⟨by omega,by simp[gG],?_,?_,?_⟩,by show _<_;simp only;omega⟩,?_,da,.cons rfl .nil⟩
      ·intro q;have Ku:=gH q;simp only[cQ,mC]at Ku |-;split
       ·rename_i e;subst e;have:i<dz.length:=by omega
        simp[this];omega
       ·omega
      ·intro q aE;have C9:=iS q (by omega);simp only at aE;simp only[cQ,mC]at C9 |-;rw[dc (by omega)];exact C9
      ·simp only;rw[rP,eR];simp only[pk,hm]
      ·have e:=C7 (dz.set i m) i ep (m+1);simp only[kY];rw[Gs]at e;rw[<-e];simp only[dK,hD];exact .refl
   ·have c1:¬ i<t.n:=by simpa using h
    have fa:t.ns.drop i=[]:=hc (by omega);have eP:pk 0 t.ns (List.replicate t.ns.length 0)=dz:=by rw[rP,fa];rfl
    have gY:t.root=((t.root.toNat:Nat):Int):=by omega
    have jl:t.root.toNat<dz.length:=by omega
    refine a6.mk ⟨b,0,none⟩ t.root.toNat rfl gY (by omega) ?_;refine aJ.mk [.int .i64 dz[t.root.toNat]] (wA jl rfl (by simp)) ?_;refine⟨_,_,.sub (dJ _) .refl,?_,rfl,rfl⟩;have:depth t=dz[t.root.toNat]:=by unfold depth;rw[an,eP];simp[cQ,jl]
    rw[this];rfl
def Vx(au:t.ok I)(aw:Fit t W):Spec Tryz.prog 73 [t.val] I [] (λv I' M'=>v=.bool (gZ t)/\I'=I/\M'=[]):=by
 refine bC [] aS Tryz.func73 rfl rfl rfl ?_;intro B aq;refine aT.mk [] [] _ (.refl _) (AL au W aw.w aw.b) ?_;rintro v J N -⟨rfl,bO,rfl⟩;subst J;refine bo.mk (λU=>?_) (λU=>?_)
 ·refine bo.mk (λaa=>?_) (λaa=>?_)
  ·refine aT.mk [] [] _ (.refl _) (afX au aw) ?_;rintro v J N -⟨rfl,bO,rfl⟩;subst J;refine⟨_,_,.refl,?_,rfl,rfl⟩;have h3:t.n<=1024:=by simp at aa;omega
   simp[gZ,U,h3]
  ·refine⟨_,_,.refl,?_,rfl,rfl⟩;have h3:¬ t.n<=1024:=by simp at aa;omega
   simp[gZ,h3]
 ·refine⟨_,_,.refl,?_,rfl,rfl⟩;have h4:right t=false:=U;simp[gZ,h4]
def kF(mZ e9:Int):Bool:=(decide (mZ=4)&&(decide (e9=4)||decide (e9=0)))||(decide (mZ=5)&&decide (e9=5))
def zE(ns:List aP):List aP->Bool
 |[]=>true| d::ds=>(d.kids.all λk=>!kF d.k (e7 ns k))&&zE ns ds
def N2(ns:List aP)(mZ:Int)(h:mZ=4\/mZ=5):∀ ks,jO ns mZ ks=ks.all λk=>!kF mZ (e7 ns k)
 |[]=>rfl
 |k::ks=>by
  rw[jO,qR,N2 ns mZ h ks];have e:(decide (e7 ns k=mZ)||(decide (e7 ns k=0)&&decide (mZ=4)))=kF mZ (e7 ns k):=by
   unfold kF;rcases h with rfl | rfl;·simp
   ·simp
  rw[e];cases kF mZ (e7 ns k)<;>rfl
def Vy(ns:List aP):∀ ds,jP ns ds=zE ns ds
 |[]=>rfl
 |d::ds=>by
  rw[jP,zE,Vy ns ds];by_cases aK:d.k=4
  ·rw[N2 ns d.k (.inl aK)];simp only[aK,DM,lR,nk,a5];cases(d.kids.all λk=>!kF 4 (e7 ns k))<;>rfl
  ·by_cases bg:d.k=5
   ·rw[N2 ns d.k (.inr bg)];simp only[bg,DM,lR,Il,a5];cases(d.kids.all λk=>!kF 5 (e7 ns k))<;>rfl
   ·have e:(d.kids.all λk=>!kF d.k (e7 ns k))=true:=by rw[gq];intro k _;simp[kF,aK,bg]
    rw[e];simp[aK,bg]
def afY(au:t.ok I)(aw:Fit t W):Spec Tryz.prog 89 [t.val] I [] (λv I' M'=>v=.bool (normal t)/\I'=I/\M'=[]):=by
 refine bC [] aS Tryz.func89 rfl rfl rfl ?_;intro B aq;have av:=au.n;have ny:=au.aU.cap;refine aT.mk [] [] _ (.refl _) (AL au W aw.w aw.b) ?_;rintro v J N -⟨rfl,bO,rfl⟩;subst J;refine aI.mk (λh=>?_) (λh=>?_)
 ·refine⟨_,_,.refl,?_,rfl,rfl⟩;simp[normal,show right t=false by simpa using h]
 have an:right t=true:=by simpa using h
 have eO:normal t=zE t.ns t.ns:=by simp[normal,an,Vy]
 refine cD.inv (ι:=Nat) (λi=>{ bA:=[(1,.ref 1 0),(3,.val (.int .i64 i))],cl:=[(1,t.cells)],cj:=I }) (λi=>i<=t.n/\zE t.ns t.ns=zE t.ns (t.ns.drop i)) (λi=>t.n-i) ?_ ?_
 ·exact⟨0,⟨by simp,rfl⟩,.refl,ln,.cons rfl .nil⟩
 rintro i⟨hi,e8⟩;refine aI.mk (λh=>?_) (λh=>?_)
 ·have aL:i<t.n:=by simpa using h
  have bi:i<t.ns.length:=by omega
  obtain⟨ad,bR,bh⟩:=au.aU.row aP.c0 aL bi;have fg:=au.ns t.ns[i] (cO bi);have dP:=fg.kn;have eR:t.ns.drop i=t.ns[i]::t.ns.drop (i+1):=dS bi;have jk:=qf an i bi;generalize ai:t.ns[i]=d at bh fg dP eR jk;rw[eR,zE]at e8;refine a6.mk ad i bR rfl aL ?_;refine aJ.mk _ (bh _) ?_;refine cD.inv (ι:=Nat) (λj=>{ bA:=[(1,.ref 1 0),(3,.val (.int .i64 i)),(4,.ref 4 0),(5,.val (.int .i64 j))],cl:=[(1,t.cells),(4,d.cells)],cj:=I }) (λj=>j<=d.kn/\(d.kids.all λk=>!kF d.k (e7 t.ns k))=((d.kids.drop j).all λk=>!kF d.k (e7 t.ns k))) (λj=>d.kn-j) ?_ ?_;·exact⟨0,⟨by simp,rfl⟩,.refl,dr,.cons rfl (.cons rfl .nil)⟩
  rintro j⟨al,ow⟩;refine aI.mk (λh=>?_) (λh=>?_)
  ·have dF:j<d.kn:=by simpa using h
   have gn:j<d.kids.length:=by omega
   obtain⟨ec,e6,eo⟩:=fg.aU.one dF gn;have hq:d.kids.drop j=d.kids[j]::d.kids.drop (j+1):=dS gn;have gT:=jk _ (cO gn);generalize Dc:d.kids[j]=K2 at eo hq gT;obtain⟨q,rfl⟩:=jf gT.1;have fr:q<t.ns.length:=by omega
   have jN:q<t.n:=by omega
   obtain⟨iE,lA,qu⟩:=au.aU.row aP.c0 jN fr;have lB:∀ M,bE I M ((iE.add (q*9)).add 0) 1 [.int .u8 t.ns[q].k]:=λM=>(qu M).part (k:=0) (m:=1) (by decide);have ov:e7 t.ns ((q:Nat):Int)=t.ns[q].k:=by simp[e7,cQ,fr]
   rw[hq,qR,ov]at ow;have bad:kF d.k t.ns[q].k=true->normal t=false:=λaf=>by rw[eO,e8,ow,af];rfl
   have r9:kF d.k t.ns[q].k=false->(d.kids.all λk=>!kF d.k (e7 t.ns k))=((d.kids.drop (j+1)).all λk=>!kF d.k (e7 t.ns k)):=λaf=>by rw[ow,af];rfl
   have eJ:=bU (i:=j) (by have:=fg.aU.cap;omega);refine cL.draw aS rfl rfl rfl ?_;refine a6.mk ec j e6 rfl dF ?_;refine aJ.mk _ (eo _) ?_;refine a6.mk iE q lA rfl jN ?_;refine aJ.mk _ (lB _) ?_;refine bo.mk (λdw=>?_) (λdw=>?_)
   ·have d4:d.k=4:=by simpa using dw
    refine bo.mk (λef=>?_) (λef=>?_)
    ·refine bo.mk (λhV=>?_) (λhV=>?_)
     ·refine bo.mk (λtC=>?_) (λ_=>?_)
      ·exfalso;simp at tC;omega
      refine aQ.mk _ eJ ?_;exact⟨j+1,⟨⟨by omega,r9 (by simp at ef hV;simp[kF,d4,ef,hV])⟩,by omega⟩,.refl,dr,.cons rfl (.cons rfl .nil)⟩
     ·exact⟨_,_,.refl,congrArg Value.bool (bad (by simp at hV;simp[kF,d4,hV])).symm,rfl,rfl⟩
    ·exact⟨_,_,.refl,congrArg Value.bool (bad (by simp at ef;simp[kF,d4,ef])).symm,rfl,rfl⟩
   ·have d4:d.k≠4:=by simpa using dw
    refine bo.mk (λtC=>?_) (λtC=>?_)
    ·have d5:d.k=5:=by simpa using tC
     refine aI.mk (λpz=>?_) (λpz=>?_);·exact⟨_,_,.refl,congrArg Value.bool (bad (by simp at pz;simp[kF,d5,pz])).symm,rfl,rfl⟩
     ·refine aQ.mk _ eJ ?_;exact⟨j+1,⟨⟨by omega,r9 (by simp at pz;simp[kF,d5,pz])⟩,by omega⟩,.refl,dr,.cons rfl (.cons rfl .nil)⟩
    ·have d5:d.k≠5:=by simpa using tC
     refine aQ.mk _ eJ ?_;exact⟨j+1,⟨⟨by omega,r9 (by simp[kF,d4,d5])⟩,by omega⟩,.refl,dr,.cons rfl (.cons rfl .nil)⟩
  ·have rY:d.kids.drop j=[]:=hc (by simp at h;omega);refine aQ.mk _ (bU (i:=i) (by omega)) ?_;refine⟨i+1,⟨⟨by omega,?_⟩,by omega⟩,.refl,ln,.cons rfl .nil⟩;rw[e8,ow,rY];rfl
 ·have c1:t.n<=i:=by simpa using h
  have fa:t.ns.drop i=[]:=hc (by omega);refine⟨_,_,.refl,?_,rfl,rfl⟩;rw[eO,e8,fa];rfl
def afZ(a b:Int):Spec Tryz.prog 188 [.int .u8 a,.int .u8 b] I [] λr I' M'=>r=.bool (fh a b)/\I'=I/\M'=[]:=by
 refine bC [] aS Tryz.func188 rfl rfl rfl ?_;intro B aq
 repeat' first
  |refine aI.mk (λh=>?_) (λh=>?_)| refine bo.mk (λh=>?_) (λh=>?_)
 all_goals (first | (exfalso;simp at *;omega;done) | refine⟨_,_,.refl,?_,rfl,rfl⟩)
 all_goals (simp only[ft,mB,lR,Ch]at *;simp_all[fh])
def af0(lo:Nat)(hi:Int)(dX:lo<=99)(eX:hi=-1\/((lo:Int)<=hi/\hi<=99)):Spec Tryz.prog 191 [.int .i64 lo,.int .i64 hi] I [] λr I' M'=>r=.string (strOf (j2 lo hi))/\I'=I/\M'=[]:=by
 have ai:=wH lo;have lC:=wH hi.toNat;refine bC [] aS Tryz.func191 rfl rfl rfl ?_;intro B aq;have ea:2<=lo->j2 lo (-1)=[123]++g7 lo++[44,125]:=λh=>by have ax:decide ((0:Int)=lo)=false:=b8 (by omega);have az:decide ((1:Int)=lo)=false:=b8 (by omega);have bc:decide ((-1:Int)=lo)=false:=b8 (by omega);simp[j2,r3,ax,az,bc]
 have rs:j2 lo lo=[123]++g7 lo++[125]:=by
  have ax:(decide ((0:Int)=lo)&&decide ((1:Int)=lo))=false:=by
   rw[yv];by_cases h:(0:Int)=lo;·exact .inr (b8 (by omega))
   ·exact .inl (b8 h)
  have bc:decide ((-1:Int)=lo)=false:=b8 (by omega);unfold j2 r3;rw[ax,bc];simp
 have fc:∀ h:Nat,lo<h->¬ (lo=0/\h=1)->j2 lo (h:Int)=[123]++g7 lo++[44]++g7 h++[125]:=λh U aa=>by
  have ax:(decide ((0:Int)=lo)&&decide ((1:Int)=h))=false:=by
   rw[yv];by_cases h:(0:Int)=lo;·exact .inr (b8 (by omega))
   ·exact .inl (b8 h)
  have bc:decide ((-1:Int)=h)=false:=b8 (by omega);have ct:decide ((h:Int)=lo)=false:=b8 (by omega);have ej:decide ((h:Int)=-1)=false:=b8 (by omega);unfold j2 r3;rw[ax,bc,ct,ej];simp
 rcases eX with rfl | ⟨U,aa⟩
 ·rcases(by omega:lo=0\/lo=1\/2<=lo)with rfl | rfl | af1
  ·repeat' first
    |refine aI.mk (λh=>?_) (λh=>?_)| refine bo.mk (λh=>?_) (λh=>?_)
   all_goals (try (exfalso;simp at *;done))
   all_goals exact⟨_,_,.refl,rfl,rfl,rfl⟩
  ·repeat' first
    |refine aI.mk (λh=>?_) (λh=>?_)| refine bo.mk (λh=>?_) (λh=>?_)
   all_goals (try (exfalso;simp at *;done))
   all_goals exact⟨_,_,.refl,rfl,rfl,rfl⟩
  ·have e:=ea af1;clear ea rs fc
   repeat' first
    |refine aI.mk (λh=>?_) (λh=>?_)| refine bo.mk (λh=>?_) (λh=>?_)
   all_goals (try (exfalso;simp at *;done))
   all_goals (try (exfalso;simp at *;omega;done))
   refine aT.mk [] [] _ (.refl _) (IC lo (by omega)) ?_;rintro v J N -⟨rfl,rfl,rfl⟩;refine cu.ek (a:=[123]) (b:=g7 lo) (by simp;omega) ?_;refine cu.ek (b:=[44,125]) (by simp;omega) ?_;exact⟨_,_,.refl,by rw[e],rfl,rfl⟩
 ·obtain⟨w,rfl⟩:=jf (show 0<=hi by omega);rcases(by omega:(lo=0/\w=1)\/lo=w\/(lo<w/\¬ (lo=0/\w=1)))with⟨rfl,rfl⟩ | rfl | ⟨cM,cp⟩
  ·clear ea rs fc
   repeat' first
    |refine aI.mk (λh=>?_) (λh=>?_)| refine bo.mk (λh=>?_) (λh=>?_)
   all_goals (try (exfalso;simp at *;done))
   all_goals exact⟨_,_,.refl,rfl,rfl,rfl⟩
  ·clear ea fc
   repeat' first
    |refine aI.mk (λh=>?_) (λh=>?_)| refine bo.mk (λh=>?_) (λh=>?_)
   all_goals (try (exfalso;simp at *;done))
   all_goals (try (exfalso;simp at *;omega;done))
   all_goals
    refine aT.mk [] [] _ (.refl _) (IC lo (by omega)) ?_;rintro v J N -⟨rfl,rfl,rfl⟩;refine cu.ek (a:=[123]) (b:=g7 lo) (by simp;omega) ?_;refine cu.ek (b:=[125]) (by simp;omega) ?_;exact⟨_,_,.refl,by rw[rs],rfl,rfl⟩
  ·have e:=fc w cM cp;clear ea rs fc
   repeat' first
    |refine aI.mk (λh=>?_) (λh=>?_)| refine bo.mk (λh=>?_) (λh=>?_)
   all_goals (try (exfalso;simp at *;done))
   all_goals (try (exfalso;simp at *;omega;done))
   all_goals
    have yL:(g7 w).length<=2:=wH w;refine aT.mk [] [] _ (.refl _) (IC lo (by omega)) ?_;rintro v J N -⟨rfl,rfl,rfl⟩;refine cu.ek (a:=[123]) (b:=g7 lo) (by simp;omega) ?_;refine cu.ek (b:=[44]) (by simp;omega) ?_;refine aT.mk [] [] _ (.refl _) (IC w (by omega)) ?_;rintro v J N -⟨rfl,rfl,rfl⟩;refine cu.ek (b:=g7 w) (by simp;omega) ?_;refine cu.ek (b:=[125]) (by simp;omega) ?_;exact⟨_,_,.refl,by rw[e],rfl,rfl⟩
structure af2(d:aP)(n:Int):Prop where
 z:d.k=0->d.t=⟨#[]⟩
 leaf:d.k<=3->n=0
 one:6<=d.k->n=1
 two:d.k=4\/d.k=5->2<=n
def ID{d:aP}{n:Int}(aq:0<=d.k)(h:fits d n=true):af2 d n:=by
 have ao:=(yA h).k;have ae:d.k=0\/d.k=1\/d.k=2\/d.k=3\/d.k=4\/d.k=5\/d.k=6\/d.k=7\/d.k=8\/d.k=9:=by omega
 have dL:∀ j:Fin 10,qd j.val=lu.getD (j.val*2) 0/\mH j.val=lu.getD (j.val*2+1) 0:=by decide
 unfold fits at h;rcases ae with e | e | e | e | e | e | e | e | e | e<;>rw[e]at h<;>simp[qd,mH,lu]at h <;>
  refine⟨λq=>?_,λq=>?_,λq=>?_,λq=>?_⟩<;>first | (omega;done) | (exact h.2.2.1;done) | (exact h.2.1;done) | (simp_all;done)
def iK(sep:List UInt8):List (List UInt8)->List UInt8
 |[]=>[]| x::xs=>x++xs.flatMap λy=>sep++y
def Vz(sep:List UInt8)(f:Int->List UInt8):∀ ks,mM sep f true ks=(ks.map f).flatMap λy=>sep++y
 |[]=>rfl| k::ks=>by rw[mM,Vz sep f ks];simp
def af3(sep:List UInt8)(f:Int->List UInt8)(ks:List Int):mM sep f false ks=iK sep (ks.map f):=by
 cases ks with
 |nil=>rfl| cons k ks=>rw[mM,Vz];simp[iK]
def VA(sep:List UInt8)(L:List (List UInt8))(h:L≠[])(y:List UInt8):iK sep (L++[y])=iK sep L++sep++y:=by
 cases L with
 |nil=>exact absurd rfl h| cons x xs=>simp[iK]
def pM(deb:List Int)(d:aP)(L:List (List UInt8)):List UInt8:=
 bif decide (d.k=0)then [34,34]else
 bif decide (d.k=1)then rk deb d.eh d.s1 d.s2 d.fJ else
 bif decide (d.k=2)then tq d.t else
 bif decide (d.k=3)then d.t.data.toList else
 bif decide (d.k=7)then [38]++L.headD []else
 bif decide (d.k=8)then [33]++L.headD []else
 bif decide (d.k=6)then L.headD []++j2 d.lo.toNat d.hi else
 bif decide (d.k=9)then [60]++d.t.data.toList++[58,32]++L.headD []++[62]else
 iK (bif decide (d.k=5)then [32,47,32]else [32]) L
def VB(deb:List Int)(ns:List aP){d:aP}(aq:0<=d.k)(h:fits d d.kids.length=true)(g:Int->List UInt8):u0 deb ns d g=pM deb d (d.kids.map λk=>paren (fh d.k (e7 ns k)) (g k)):=by
 have ao:=(yA h).k;have hm:=ID aq h;have ae:d.k=0\/d.k=1\/d.k=2\/d.k=3\/d.k=4\/d.k=5\/d.k=6\/d.k=7\/d.k=8\/d.k=9:=by omega
 unfold u0 pM;rw[af3];generalize b1:(d.kids.map λk=>paren (fh d.k (e7 ns k)) (g k))=L;have o6:L.length=d.kids.length:=by rw[<-b1];simp
 have eh:hf 2=[]/\hf 3=[]/\hf 5=[]/\hf 8=[]/\hf 11=[]/\hf 12=[]/\hf 13=[32]/\hf 14=[]/\hf 15=[]/\hf 16=[32,47,32]/\hf 17=[]/\hf 18=[]/\hf 21=[38]/\hf 23=[]/\hf 24=[33]/\hf 26=[]/\hf 27=[60]/\hf 29=[62]:=by decide
 obtain⟨sv,IE,N3,af4,af5,af6,af7,af8,af9,aga,agb,agc,agd,age,agf,agh,agi,agj⟩:=eh;have nil:d.k<=3->L=[]:=λq=>lV (by have:=hm.leaf q;omega);have one:6<=d.k->∃ x,L=[x]:=λq=>by
  have:=hm.one q
  match L,o6 with
  |[x],_=>exact⟨x,rfl⟩| [],o6=>simp at o6;omega| _::_::_,o6=>simp at o6;omega
 rcases ae with e | e | e | e | e | e | e | e | e | e
 ·rw[nil (by omega)];simp[jq,iD,mN,iK,e,sv,hm.z e,tq]
 ·rw[nil (by omega)];simp[jq,iD,mN,iK,e,N3]
 ·rw[nil (by omega)];simp[jq,iD,mN,iK,e,af4]
 ·rw[nil (by omega)];simp[jq,iD,mN,iK,e,af5]
 ·simp[jq,iD,mN,e,af6,af7,af8]
 ·simp[jq,iD,mN,e,af9,aga,agb]
 ·obtain⟨x,rfl⟩:=one (by omega);simp[jq,iD,mN,iK,e,agc]
 ·obtain⟨x,rfl⟩:=one (by omega);simp[jq,iD,mN,iK,e,agd,age]
 ·obtain⟨x,rfl⟩:=one (by omega);simp[jq,iD,mN,iK,e,agf,agh]
 ·obtain⟨x,rfl⟩:=one (by omega);simp[jq,iD,mN,iK,e,agi,agj]
def zF(deb:List Int):Prop:=∀ a b c d:Int,(∀ x∈[a,b,c,d],eF x)->BK (mY (jW [a,b,c,d]) 256)=rk deb a b c d
def EV(l:List UInt8):List Value:=[.string (strOf l)]
def BL(L:List (List UInt8)):List Value:=L.flatMap EV
def VC(L:List (List UInt8))(x:List UInt8):BL (L++[x])=BL L++[.string (strOf x)]:=by simp[BL,EV]
def agk(L:List (List UInt8)):(BL L).length=L.length:=by have:=ji EV 1 (λ_=>rfl) L;simpa[BL]using this
def cu.agl{t:Nat}{x y:Operand}{a:List UInt8}{b:ByteArray}(ao:a.length+b.size<=9223372036854775807){V:Value->Prop}{other:Prop}(h:V (.string (strOf (a++b.data.toList)))):cu P .add t x y (.val (.string (strOf a))) (.val (.string b)) V other:=
 cu.concat (a:=strOf a) (b:=b) ao (by rw[<-Q8,KK]at h;exact h)
def VD{sep:List UInt8}{f:Int->List UInt8}:∀ {ks:List Int} {b:Bool} {k:Int},k∈ks->(f k).length<=(mM sep f b ks).length
 |gy::ks,b,k,h=>by
  unfold mM;simp only[ck];rcases dE.1 h with rfl | h;·omega
  ·have:=VD (sep:=sep) (f:=f) (b:=true) h;omega
def VE(sep:List UInt8)(L:List (List UInt8))(i:Nat):(iK sep (L.take i)).length<=(iK sep L).length:=by
 cases L with
 |nil=>simp
 |cons x xs=>
  cases i with
  |zero=>simp[iK]
  |succ i=>
   rw[oe,iK,iK,ck,ck];have:((xs.take i).flatMap λy=>sep++y).length<=(xs.flatMap λy=>sep++y).length:=by
    conv=>rhs;rw[<-uR i xs,lr,ck]
    omega
   omega
def head_mem(h:0<L.length):L.headD []=L[0]:=by
 cases L with
 |nil=>simp at h| cons x xs=>rfl
set_option maxRecDepth 100000 in
def VF{I:aN}{deb:List Int}(dL:zF deb){t:bJ}(au:t.ok I)(an:right t=true)(ae:∀ d∈t.ns,d.kn<=1099511627776):∀ (m j:Nat),j<m->∀ (al:j<t.ns.length),(fu deb t.ns j).length<=1152921504606846976 -> Spec Tryz.prog 175 [t.val,.int .i64 j] I [] λr I' M'=>r=.string (strOf (fu deb t.ns j))/\I'=I/\M'=[]
 |0,j,h,_,_=>absurd h (EI _)
 |m+1,j,al0,al,hlen=>by
  have a2:=VF (I:=I) dL au an ae m;have kz:=au.n;have er:t.ns[j]∈t.ns:=cO al;have fg:=au.ns t.ns[j] er;have dP:=fg.kn;have RU:=ae _ er;have jk:=qf an j al;have fe:=Gu an al;have h2:=yA fe;have IF:=ID fg.k.1 fe;have gm:j<t.n:=by omega
  obtain⟨ad,bR,bh⟩:=au.aU.row aP.c0 gm al;have j':fu deb t.ns j=pM deb t.ns[j] (t.ns[j].kids.map λk=>paren (fh t.ns[j].k (e7 t.ns k)) (fu deb t.ns k)):=by rw[Dm an al,VB deb t.ns fg.k.1 fe]
  have dG:∀ k∈t.ns[j].kids,(paren (fh t.ns[j].k (e7 t.ns k)) (fu deb t.ns k)).length<=1152921504606846976:=λk BM=>by refine jB ?_ hlen;rw[Dm an al,u0];have:=VD (sep:=mN t.ns[j]) (f:=λk=>paren (fh t.ns[j].k (e7 t.ns k)) (fu deb t.ns k)) (b:=false) BM;simp only[ck]at this |-;omega
  generalize ai:t.ns[j]=d at *;generalize cS:(λk:Int=>paren (fh d.k (e7 t.ns k)) (fu deb t.ns k))=F at *;have VG:∀ k,F k=paren (fh d.k (e7 t.ns k)) (fu deb t.ns k):=λk=>by rw[<-cS]
  refine bC [] aS Tryz.func175 rfl rfl rfl ?_;intro B aq;refine a6.mk ad j bR rfl gm ?_;refine aJ.mk _ (bh _) ?_;refine cD.inv (ι:=Nat×bn) (λx=>{ bA:=[(2,.ref 2 0),(5,.ref 5 0),(6,.val x.2.val),(7,.val (.int .i64 x.1))],cl:=[(2,t.cells),(5,d.cells)],cj:=I,dx:=x.2.aY 9 }) (λx=>x.1<=d.kn/\x.2.ok 1 (BL ((d.kids.take x.1).map F))) (λx=>d.kn-x.1) ?_ ?_;·exact⟨(0,sb),⟨bj _,wQ 1⟩,.refl,dr,.cons rfl (.cons rfl .nil)⟩
  rintro⟨i,os⟩⟨hi,dN⟩;simp only at hi dN;have vF:os.n=i:=by have:=dN.len;rw[agk,ei,Hd (by omega)]at this;omega
  refine aI.mk (λh=>?_) (λh=>?_)
  ·have aL:i<d.kn:=by simpa using h
   have ep:i<d.kids.length:=by omega
   obtain⟨ec,e6,eo⟩:=fg.aU.one aL ep;have BM:d.kids[i]∈d.kids:=cO ep;have gT:=jk _ BM;have VH:=dG _ BM;have pL:(d.kids.take (i+1)).map F=(d.kids.take i).map F++[F d.kids[i]]:=by rw[g9 ep,gg];rfl
   generalize Dc:d.kids[i]=K2 at *;obtain⟨q,rfl⟩:=jf gT.1;have fr:q<t.ns.length:=by omega
   have jN:q<t.n:=by omega
   obtain⟨iE,lA,qu⟩:=au.aU.row aP.c0 jN fr;have lB:∀ M,bE I M ((iE.add (q*9)).add 0) 1 [.int .u8 t.ns[q].k]:=λM=>(qu M).part (k:=0) (m:=1) (by decide);have ov:e7 t.ns ((q:Nat):Int)=t.ns[q].k:=by simp[e7,cQ,fr]
   have tp:(fu deb t.ns q).length<=1152921504606846976:=by rw[paren]at VH;simp only[ck]at VH;omega
   refine cL.draw aS rfl rfl rfl ?_;refine a6.mk ec i e6 rfl aL ?_;refine aJ.mk _ (eo _) ?_;refine aT.mk [] (os.aY 9) _ (.refl _) (a2 q (by omega) fr tp) ?_;rintro v J N -⟨rfl,bO,rfl⟩;subst J;refine cL.draw aS rfl rfl rfl ?_;refine a6.mk ec i e6 rfl aL ?_;refine aJ.mk _ (eo _) ?_;refine a6.mk iE q lA rfl jN ?_;refine aJ.mk _ (lB _) ?_;refine aT.mk [] (os.aY 9) _ (.refl _) (afZ d.k t.ns[q].k) ?_;rintro v J N -⟨rfl,bO,rfl⟩;subst J;have N4:=VG q;rw[ov]at N4;refine aI.mk (λaa=>?_) (λaa=>?_)
   ·have N5:F q=[40]++fu deb t.ns q++[41]:=by rw[N4,aa];rfl
    refine cu.ek (a:=[40]) (by simp only[c5,eY];omega) ?_;refine cu.ek (b:=[41]) (by simp only[ck,c5,eY];omega) ?_;refine cz.mk λbZ gb tv=>?_;refine be.wv aS rfl (by simp) (e:=9) rfl rfl rfl os dN rfl (m:=1) rfl (news:=[.string (strOf ([40]++fu deb t.ns q++[41]))]) (by decide) (dM (b:=bZ) (cs:=[.string (strOf ([40]++fu deb t.ns q++[41]))]) (k:=0) (n:=1) (T:=9) (.head _) (by simp)) rfl (Mr:=[⟨bZ,.cells #[.string (strOf ([40]++fu deb t.ns q++[41]))] 9 (0,0)⟩]) (f' (l₁:=[_])) (by simp only[maxLen];omega) (by show(os.n+1)*16<=_;omega) ?_;intro c2 c' ga zD eH eI fK gK;refine aQ.mk _ (bU (i:=i) (by omega)) ?_;refine⟨(i+1,⟨some c2,os.n+1,c',ga⟩),⟨⟨by simp only;omega,?_⟩,by simp only;omega⟩,.sub (List.Sublist.cons_cons _ (dJ _)) .refl,dr,.cons rfl (.cons rfl .nil)⟩;simp only;rw[pL,N5,VC];exact Ru dN eH eI fK gK
   ·have N5:F q=fu deb t.ns q:=by rw[N4,aa];simp[paren]
    refine cz.mk λbZ gb tv=>?_;refine be.wv aS rfl (by simp) (e:=9) rfl rfl rfl os dN rfl (m:=1) rfl (news:=[.string (strOf (fu deb t.ns q))]) (by decide) (dM (b:=bZ) (cs:=[.string (strOf (fu deb t.ns q))]) (k:=0) (n:=1) (T:=9) (.head _) (by simp)) rfl (Mr:=[⟨bZ,.cells #[.string (strOf (fu deb t.ns q))] 9 (0,0)⟩]) (f' (l₁:=[_])) (by simp only[maxLen];omega) (by show(os.n+1)*16<=_;omega) ?_;intro c2 c' ga zD eH eI fK gK;refine aQ.mk _ (bU (i:=i) (by omega)) ?_;refine⟨(i+1,⟨some c2,os.n+1,c',ga⟩),⟨⟨by simp only;omega,?_⟩,by simp only;omega⟩,.sub (List.Sublist.cons_cons _ (dJ _)) .refl,dr,.cons rfl (.cons rfl .nil)⟩;simp only;rw[pL,N5,VC];exact Ru dN eH eI fK gK
  ·have agm:i=d.kn:=by simp at h;omega
   have pL:(d.kids.take i).map F=d.kids.map F:=by rw[gv (by omega)]
   rw[pL]at dN;generalize b1:d.kids.map F=L at *;have Ih:L.length=d.kn:=by rw[<-b1];simp;omega
   have row:∀ {i:Nat} (hi:i<L.length),∃ ad,(os.a.map λg=>(⟨g,0,none⟩:Addr))=some ad/\bE I (os.aY 9) (ad.add (i*1)) 1 (EV L[i]):=fun {i} hi=>bn.ok.row (I:=I) (M:=os.aY 9) (f:=EV) (λ_=>rfl) (by decide) dN (e:=9) (λy aG=>aG) hi;have BN:∀ x∈L,x.length<=1152921504606846976:=λx ab=>by rw[<-b1]at ab;obtain⟨k,BM,rfl⟩:=du.1 ab;rw[VG];exact dG k BM
   have jb:6<=d.k->0<L.length/\L.headD []=L.headD []:=λbD=>⟨by have:=IF.one bD;omega,rfl⟩;refine aI.mk (λhJ=>?_) (λhJ=>?_);·exact⟨_,_,.sub (dJ _) .refl,by rw[j',pM,hJ];rfl,rfl,rfl⟩
   refine aI.mk (λdw=>?_) (λdw=>?_)
   ·have fz:∀ x∈[d.eh,d.s1,d.s2,d.fJ],eF x:=by
     intro x ab;simp only[dE,Dg,or_false]at ab;rcases ab with rfl | rfl | rfl | rfl;·exact fg.eh
     ·exact fg.s1
     ·exact fg.s2
     ·exact fg.fJ
    have bQ:=afV (I:=I) fz;rw[dL _ _ _ _ fz]at bQ;refine aT.mk [] (os.aY 9) _ (.refl _) bQ ?_;rintro v J N -⟨rfl,bO,rfl⟩;subst J;exact⟨_,_,.sub (dJ _) .refl,by rw[j',pM,hJ,dw];rfl,rfl,rfl⟩
   refine aI.mk (λef=>?_) (λef=>?_);·refine aT.mk [] (os.aY 9) _ (.refl _) (afT d.t (by have:=h2.t;omega)) ?_;rintro v J N -⟨rfl,bO,rfl⟩;subst J;exact⟨_,_,.sub (dJ _) .refl,by rw[j',pM,hJ,dw,ef];rfl,rfl,rfl⟩
   refine aI.mk (λhV=>?_) (λhV=>?_);·exact⟨_,_,.sub (dJ _) .refl,by rw[j',pM,hJ,dw,ef,hV];exact congrArg Value.string (KK d.t).symm,rfl,rfl⟩
   refine aI.mk (λva=>?_) (λva=>?_);·have k':0<L.length:=(jb (by simp at va;omega)).1;have uY:=BN _ (cO k');obtain⟨dq,sG,gY⟩:=row (i:=0) k';refine a6.mk dq 0 sG rfl (show 0<os.n by omega) ?_;refine aJ.mk _ (gY.sub λy aG=>aG) ?_;refine cu.ek (a:=[38]) (by simp only[c5,eY];omega) ?_;exact⟨_,_,.sub (dJ _) .refl,by rw[j',pM,hJ,dw,ef,hV,va,head_mem k'];rfl,rfl,rfl⟩
   refine aI.mk (λwT=>?_) (λwT=>?_);·have k':0<L.length:=(jb (by simp at wT;omega)).1;have uY:=BN _ (cO k');obtain⟨dq,sG,gY⟩:=row (i:=0) k';refine a6.mk dq 0 sG rfl (show 0<os.n by omega) ?_;refine aJ.mk _ (gY.sub λy aG=>aG) ?_;refine cu.ek (a:=[33]) (by simp only[c5,eY];omega) ?_;exact⟨_,_,.sub (dJ _) .refl,by rw[j',pM,hJ,dw,ef,hV,va,wT,head_mem k'];rfl,rfl,rfl⟩
   refine aI.mk (λu7=>?_) (λu7=>?_)
   ·have uh:d.k=6:=by simpa using u7
    have k':0<L.length:=(jb (by omega)).1;have uY:=BN _ (cO k');have st:=h2.l3 uh;have dX:((d.lo.toNat:Nat):Int)=d.lo:=by omega
    have bQ:=af0 (I:=I) d.lo.toNat d.hi (by omega) (by omega);rw[dX]at bQ;have hR:=Q6 d.lo.toNat d.hi;refine cL.draw aS rfl rfl rfl ?_;obtain⟨dq,sG,gY⟩:=row (i:=0) k';refine a6.mk dq 0 sG rfl (show 0<os.n by omega) ?_;refine aJ.mk _ (gY.sub λy aG=>aG) ?_;refine jc.mk _ bQ ?_;rintro v J N -⟨rfl,bO,rfl⟩;subst J;refine cu.ek (a:=L[0]) (by omega) ?_;exact⟨_,_,.sub (dJ _) .refl,by rw[j',pM,hJ,dw,ef,hV,va,wT,u7,head_mem k'];rfl,rfl,rfl⟩
   refine aI.mk (λEW=>?_) (λEW=>?_)
   ·have zG:d.k=9:=by simpa using EW
    have k':0<L.length:=(jb (by omega)).1;have uY:=BN _ (cO k');have dg:=h2.t;have u1:d.t.data.toList.length=d.t.size:=rfl;refine cL.draw aS rfl rfl rfl ?_;refine cu.agl (a:=[60]) (by simp only[c5,eY];omega) ?_;refine cu.ek (b:=[58,32]) (by simp only[ck,c5,eY];omega) ?_;obtain⟨dq,sG,gY⟩:=row (i:=0) k';refine a6.mk dq 0 sG rfl (show 0<os.n by omega) ?_;refine aJ.mk _ (gY.sub λy aG=>aG) ?_;refine cu.ek (b:=L[0]) (by simp only[ck,c5,eY];omega) ?_;refine cu.ek (b:=[62]) (by simp only[ck,c5,eY];omega) ?_;exact⟨_,_,.sub (dJ _) .refl,by rw[j',pM,hJ,dw,ef,hV,va,wT,u7,EW,head_mem k'];rfl,rfl,rfl⟩
   have k':0<L.length:=by
    have:d.k=4\/d.k=5:=by have U:=h2.k;have aa:=fg.k.1;simp at hJ dw ef hV va wT u7 EW;omega
    have:=IF.two this;omega
   have VI:∀ sep,(bif decide (d.k=5)then [32,47,32]else [32])=sep->fu deb t.ns j=iK sep L:=λsep agn=>by rw[j',pM,hJ,dw,ef,hV,va,wT,u7,EW,agn];rfl
   refine aI.mk (λpz=>?_) (λpz=>?_)
   ·have EX:=VI [32,47,32] (by rw[pz];rfl);obtain⟨dq,sG,gY⟩:=row (i:=0) k';refine a6.mk dq 0 sG rfl (show 0<os.n by omega) ?_;refine aJ.mk _ (gY.sub λy aG=>aG) ?_;refine cD.inv (ι:=Nat×List UInt8) (λx=>{ bA:=[(6,.val os.val),(9,.val (.string (strOf [32,47,32]))),(10,.val (.string (strOf x.2))),(11,.val (.int .i64 x.1))],cj:=I,dx:=os.aY 9 }) (λx=>1<=x.1/\x.1<=os.n/\x.2=iK [32,47,32] (L.take x.1)) (λx=>os.n-x.1) ?_ ?_
    ·refine⟨(1,L[0]),⟨b6 _,by simp only;omega,?_⟩,.refl,dr,.nil⟩;simp only;rw[g9 k'];simp[iK]
    rintro⟨i,w⟩⟨eA,gG,hw⟩;simp only at eA gG hw;have nH:=VE [32,47,32] L i;have dL:=hlen;rw[EX]at dL;rw[<-hw]at nH;refine aI.mk (λh=>?_) (λh=>?_)
    ·have aL:i<os.n:=by simpa using h
     have ep:i<L.length:=by omega
     have af:=BN _ (cO ep);obtain⟨N6,lM,N7⟩:=row ep;have bk:L.take i≠[]:=by intro h;have:=congrArg List.length h;rw[Hd (by omega)]at this;simp at this;omega
     have dB:=VA [32,47,32] (L.take i) bk L[i];rw[<-g9 ep,<-hw]at dB;refine cu.ek (a:=w) (by simp only[c5,eY];omega) ?_;refine a6.mk N6 i lM rfl aL ?_;refine aJ.mk _ (N7.sub λy aG=>aG) ?_;refine cu.ek (b:=L[i]) (by simp only[ck,c5,eY];omega) ?_;refine aQ.mk _ (bU (i:=i) (by omega)) ?_;refine⟨(i+1,_),⟨⟨by simp only;omega,aL,?_⟩,by simp only;omega⟩,.refl,dr,.nil⟩;exact dB.symm
    ·have ago:i=L.length:=by simp at h;omega
     rw[gv (by omega)]at hw;exact⟨_,_,.sub (dJ _) .refl,by rw[EX,hw],rfl,rfl⟩
   ·have EX:=VI [32] (by rw[pz];rfl);obtain⟨dq,sG,gY⟩:=row (i:=0) k';refine a6.mk dq 0 sG rfl (show 0<os.n by omega) ?_;refine aJ.mk _ (gY.sub λy aG=>aG) ?_;refine cD.inv (ι:=Nat×List UInt8) (λx=>{ bA:=[(6,.val os.val),(9,.val (.string (strOf [32]))),(10,.val (.string (strOf x.2))),(11,.val (.int .i64 x.1))],cj:=I,dx:=os.aY 9 }) (λx=>1<=x.1/\x.1<=os.n/\x.2=iK [32] (L.take x.1)) (λx=>os.n-x.1) ?_ ?_
    ·refine⟨(1,L[0]),⟨b6 _,by simp only;omega,?_⟩,.refl,dr,.nil⟩;simp only;rw[g9 k'];simp[iK]
    rintro⟨i,w⟩⟨eA,gG,hw⟩;simp only at eA gG hw;have nH:=VE [32] L i;have dL:=hlen;rw[EX]at dL;rw[<-hw]at nH;refine aI.mk (λh=>?_) (λh=>?_)
    ·have aL:i<os.n:=by simpa using h
     have ep:i<L.length:=by omega
     have af:=BN _ (cO ep);obtain⟨N6,lM,N7⟩:=row ep;have bk:L.take i≠[]:=by intro h;have:=congrArg List.length h;rw[Hd (by omega)]at this;simp at this;omega
     have dB:=VA [32] (L.take i) bk L[i];rw[<-g9 ep,<-hw]at dB;refine cu.ek (a:=w) (by simp only[c5,eY];omega) ?_;refine a6.mk N6 i lM rfl aL ?_;refine aJ.mk _ (N7.sub λy aG=>aG) ?_;refine cu.ek (b:=L[i]) (by simp only[ck,c5,eY];omega) ?_;refine aQ.mk _ (bU (i:=i) (by omega)) ?_;refine⟨(i+1,_),⟨⟨by simp only;omega,aL,?_⟩,by simp only;omega⟩,.refl,dr,.nil⟩;exact dB.symm
    ·have ago:i=L.length:=by simp at h;omega
     rw[gv (by omega)]at hw;exact⟨_,_,.sub (dJ _) .refl,by rw[EX,hw],rfl,rfl⟩
def agp(lo:Nat)(hi:Int):j2 lo hi≠[]:=by
 unfold j2 r3;cases(decide ((0:Int)=lo)&&decide (1=hi))<;>cases(decide ((0:Int)=lo)&&decide (-1=hi))<;>cases(decide ((1:Int)=lo)&&decide (-1=hi))<;>cases decide (hi=lo)<;>cases decide (hi=-1)<;>simp
def agq(deb:List Int)(a b c d:Int):rk deb a b c d≠[]:=by
 unfold rk;cases(a == gk 0&&(b == gk 0&&(c == gk 0&&d == gk 0)))<;>simp
def agr{d:aP}{n:Int}(h:fits d n=true)(ag:d.k=3):d.t≠⟨#[]⟩:=by unfold fits at h;rw[ag]at h;simp[qd,mH,lu,gI]at h;intro e;simp[e]at h
def ags(deb:List Int){d:aP}(aq:0<=d.k)(h:fits d d.kids.length=true)(b1:L.length=d.kids.length):pM deb d L≠[]:=by
 have ao:=(yA h).k;have hm:=ID aq h;have ae:d.k=0\/d.k=1\/d.k=2\/d.k=3\/d.k=4\/d.k=5\/d.k=6\/d.k=7\/d.k=8\/d.k=9:=by omega
 have two:d.k=4\/d.k=5->∃ x y vX,L=x::y::vX:=λq=>by
  have:=hm.two q
  match L,b1 with
  |x::y::vX,_=>exact⟨x,y,vX,rfl⟩| [],b1=>simp at b1;omega| [_],b1=>simp at b1;omega
 unfold pM;rcases ae with e | e | e | e | e | e | e | e | e | e
 ·simp[e]
 ·simp only[e,DM,ba];exact agq deb d.eh d.s1 d.s2 d.fJ
 ·simp[e,tq]
 ·have:=agr h e;simp[e];intro q;exact this (oZ (by simpa using q))
 ·obtain⟨x,y,vX,rfl⟩:=two (.inl e);simp[e,iK]
 ·obtain⟨x,y,vX,rfl⟩:=two (.inr e);simp[e,iK]
 ·have:=agp d.lo.toNat d.hi;simp[e,this]
 ·simp[e]
 ·simp[e]
 ·simp[e]
def agt(deb:List Int)(au:t.ok I)(an:right t=true):hs deb t≠[]:=by
 obtain⟨aR,aV⟩:=Az an;obtain⟨r,fH⟩:=jf aR;have jl:r<t.ns.length:=by omega
 have fe:=Gu an jl;have aq:=(au.ns _ (cO jl)).k.1;rw[hs,an,ba,fH,Dm an jl,VB deb t.ns aq fe];exact ags deb aq fe (by simp)
def agu(dL:zF deb)(au:t.ok I)(aw:Fit t W)(gV:W<=1099511627776):Spec Tryz.prog 158 [t.val] I [] λr I' M'=>r=.string (strOf (hs deb t))/\I'=I/\M'=[]:=by
 refine bC [] aS Tryz.func158 rfl rfl rfl ?_;intro B aq;refine aT.mk [] [] _ (.refl _) (AL au W aw.w aw.b) ?_;rintro v J N -⟨rfl,bO,rfl⟩;subst J;refine aI.mk (λh=>?_) (λh=>?_)
 ·have an:right t=false:=by simpa using h
  exact⟨_,_,.refl,by rw[hs,an];rfl,rfl,rfl⟩
 ·have an:right t=true:=by simpa using h
  obtain⟨aR,aV⟩:=Az an;obtain⟨r,fH⟩:=jf aR;have av:=aw.n;have kz:=au.n;have hlen:=GM deb t;have bQ:=VF dL au an (λd ai=>by have:=aw.w d ai;omega) (r+1) r (by omega) (by omega) (by rw[hs,an,ba,fH]at hlen;omega);rw[<-fH]at bQ;refine aT.mk [] [] _ (.refl _) bQ ?_;rintro v J N -⟨rfl,bO,rfl⟩;subst J;exact⟨_,_,.refl,by rw[hs,an];rfl,rfl,rfl⟩
def agv(l:List UInt8):decide (strOf l=⟨#[]⟩)=decide (l=[]):=by
 congr 1;rw[eq_iff_iff];constructor
 ·intro h;have:=congrArg (λb:ByteArray=>b.data.toList) h;simpa[strOf]using this
 ·rintro rfl;rfl
def agw(dL:zF deb){d:a'}(ai:d.ok I)(aw:Fit d.t W)(gV:W<=1099511627776):Spec Tryz.prog 120 [d.val] I [] λr I' M'=>r=.string (strOf (ky deb d))/\I'=I/\M'=[]:=by
 refine bC [] aS Tryz.func120 rfl rfl rfl ?_;intro B aq;refine aT.mk [] [] _ (.refl _) (Lq I d.name) ?_;rintro v J N -⟨rfl,bO,rfl⟩;subst J;refine bo.mk (λU=>?_) (λU=>?_)
 ·have hm:gI d.name=true:=by simpa using U
  refine aT.mk [] [] _ (.refl _) (AL ai.t W aw.w aw.b) ?_;rintro v J N -⟨rfl,bO,rfl⟩;subst J;refine aI.mk (λaa=>?_) (λaa=>?_)
  ·have an:right d.t=false:=by simpa using aa
   exact⟨_,_,.refl,by rw[ky,hs,an];rfl,rfl,rfl⟩
  ·have an:right d.t=true:=by simpa using aa
   have bk:=agt deb ai.t an;have ay:=GM deb d.t;have av:=aw.n;have kz:=ai.t.n;have uT:=K0 hm;have p6:d.name.data.toList.length=d.name.size:=rfl;refine cL.draw aS rfl rfl rfl ?_;refine cu.concat (a:=d.name) (b:=strOf [32,60,45,32]) (by show _+4<=_;omega) ?_;refine jc.mk _ (agu dL ai.t aw gV) ?_;rintro v J N -⟨rfl,bO,rfl⟩;subst J;refine cu.concat (a:=d.name++strOf [32,60,45,32]) (b:=strOf (hs deb d.t)) (by rw[yw];show _+4+(hs deb d.t).length<=_;omega) ?_;refine cu.concat (a:=d.name++strOf [32,60,45,32]++strOf (hs deb d.t)) (b:=strOf [10]) (by rw[yw,yw];show _+4+(hs deb d.t).length+1<=_;omega) ?_;refine⟨_,_,.refl,congrArg Value.string (wG ?_),rfl,rfl⟩;rw[ky,agv,b8 bk,hm];simp[strOf]
 ·have hm:gI d.name=false:=by simpa using U
  exact⟨_,_,.refl,by rw[ky,hm,Ch,qz];rfl,rfl,rfl⟩
def VJ(dL:zF deb){g:b3}(ar:g.ok I)(av:g.n<=64)(aw:∀ d∈g.ds,Fit d.t W/\d.t.n<=1024)(gV:W<=1099511627776):Spec Tryz.prog 91 [g.val] I [] λr I' M'=>r=.string (strOf (ht deb g.ds []))/\I'=I/\M'=[]:=by
 refine bC [] aS Tryz.func91 rfl rfl rfl ?_;intro B aq;have js:=ar.n;have u1:∀ d∈g.ds,d.t.ns.length<=1024:=λd ai=>by rw[(ar.ds d ai).t.n];exact(aw d ai).2
 refine cD.inv (ι:=Nat×List UInt8) (λp=>{ bA:=[(1,.ref 1 0),(3,.val (.string (strOf p.2))),(4,.val (.int .i64 p.1))],cl:=[(1,[.slice g.a g.n g.c])],cj:=I }) (λp=>p.1<=g.n/\p.2.length<=2500000*p.1/\ht deb g.ds []=ht deb (g.ds.drop p.1) p.2) (λp=>g.n-p.1) ?_ ?_
 ·exact⟨(0,[]),⟨by simp,by simp,rfl⟩,.refl,da,.cons rfl .nil⟩
 rintro⟨i,w⟩⟨hi,nH,hw⟩;simp only at hi nH hw;refine aI.mk (λh=>?_) (λh=>?_)
 ·have aL:i<g.n:=by simpa using h
  have bi:i<g.ds.length:=by omega
  obtain⟨ad,bR,bh⟩:=ar.aU.row a'.c0 aL bi;have er:g.ds[i]∈g.ds:=cO bi;have Dt:=K1 deb g.ds[i];have eK:=u1 _ er;have eR:g.ds.drop i=g.ds[i]::g.ds.drop (i+1):=dS bi;refine a6.mk ad i bR rfl aL ?_;refine aJ.mk _ (bh _) ?_;refine aT.mk [] [] _ (.refl _) (agw dL (ar.ds _ er) (aw _ er).1 gV) ?_;rintro v J N -⟨rfl,bO,rfl⟩;subst J;refine aI.mk (λU=>?_) (λU=>?_);·exact⟨_,_,.refl,by rw[hw,eR,ht,U];rfl,rfl,rfl⟩
  ·refine cu.ek (a:=w) (by omega) ?_;refine aQ.mk _ (bU (i:=i) (by omega)) ?_;refine⟨(i+1,_),⟨⟨by simp only;omega,?_,?_⟩,by simp only;omega⟩,.refl,da,.cons rfl .nil⟩
   ·simp only[ck];omega
   ·simp only;rw[hw,eR,ht,U];rfl
 ·have c1:g.n<=i:=by simpa using h
  have fa:g.ds.drop i=[]:=hc (by omega);exact⟨_,_,.refl,by rw[hw,fa];rfl,rfl,rfl⟩
def EY{g:b3}(ar:g.ok I)(name:ByteArray):Spec Tryz.prog 74 [g.val,.string name] I [] (λv I' M'=>v=.int .i64 (cV name g.ds 0)/\I'=I/\M'=[]):=by
 refine bC [] aS Tryz.func74 rfl rfl rfl ?_;intro B aq;have js:=ar.n;have ny:=ar.aU.cap;refine cD.inv (ι:=Nat) (λi=>{ bA:=[(1,.val (.string name)),(2,.ref 2 0),(5,.val (.int .i64 i))],cl:=[(2,[.slice g.a g.n g.c])],cj:=I }) (λi=>i<=g.n/\cV name g.ds 0=cV name (g.ds.drop i) i) (λi=>g.n-i) ?_ ?_
 ·exact⟨0,⟨by simp,rfl⟩,.refl,da,.cons rfl .nil⟩
 rintro i⟨hi,aw⟩;refine aI.mk (λh=>?_) (λh=>?_)
 ·have aL:i<g.n:=by simpa using h
  have bi:i<g.ds.length:=by omega
  obtain⟨ad,bR,bh⟩:=ar.aU.row a'.c0 aL bi;have eR:g.ds.drop i=g.ds[i]::g.ds.drop (i+1):=dS bi;refine a6.mk ad i bR rfl aL ?_;refine aJ.mk _ (bE.part (k:=0) (m:=1) (bh _) (by decide)) ?_;refine aI.mk (λaa=>?_) (λaa=>?_);·exact⟨_,_,.refl,by rw[aw,eR,cV,aa];rfl,rfl,rfl⟩
  ·refine aQ.mk _ (bU (i:=i) (by omega)) ?_;refine⟨i+1,⟨⟨by omega,?_⟩,by omega⟩,.refl,da,.cons rfl .nil⟩;rw[aw,eR,cV,aa];rfl
 ·have c1:g.n<=i:=by simpa using h
  have fa:g.ds.drop i=[]:=hc (by omega);exact⟨_,_,.refl,by rw[aw,fa];rfl,rfl,rfl⟩
def agx:j3 t<=t.n:=by
 unfold j3;cases right t<;>simp
def agy{g:b3}(ar:g.ok I)(aw:∀ d∈g.ds,Fit d.t W)(av:g.n<=1000000):Spec Tryz.prog 90 [g.val] I [] (λv I' M'=>v=.int .i64 (mP g:Nat)/\I'=I/\M'=[]):=by
 refine bC [] aS Tryz.func90 rfl rfl rfl ?_;intro B aq;have js:=ar.n;refine cD.inv (ι:=Nat×Nat) (λx=>{ bA:=[(1,.ref 1 0),(3,.val (.int .i64 x.2)),(4,.val (.int .i64 x.1))],cl:=[(1,[.slice g.a g.n g.c])],cj:=I }) (λx=>x.1<=g.n/\x.2=((g.ds.take x.1).map λd=>j3 d.t).sum/\x.2<=1099511627776*x.1) (λx=>g.n-x.1) ?_ ?_
 ·exact⟨(0,0),⟨by simp,by simp,by simp⟩,.refl,da,.cons rfl .nil⟩
 rintro⟨i,s⟩⟨hi,ao,af⟩;simp only at hi ao af;refine aI.mk (λh=>?_) (λh=>?_)
 ·have aL:i<g.n:=by simpa using h
  have bi:i<g.ds.length:=by omega
  obtain⟨ad,bR,bh⟩:=ar.aU.row a'.c0 aL bi;have er:g.ds[i]∈g.ds:=cO bi;have ll:=aw _ er;have cm:=agx (t:=g.ds[i].t);have IG:=ll.n;refine a6.mk ad i bR rfl aL ?_;refine aJ.mk _ (bE.part (k:=1) (m:=2) (bh _) (by decide)) ?_;refine aT.mk [] [] _ (.refl _) (afW (ar.ds _ er).t ll) ?_;rintro v J N -⟨rfl,bO,rfl⟩;subst J;refine aQ.mk ((s+j3 g.ds[i].t:Nat):Int) (wrap_i64 (x:=((s+j3 g.ds[i].t:Nat):Int)) ⟨by omega,by omega⟩) ?_;refine aQ.mk _ (bU (i:=i) (by omega)) ?_;refine⟨(i+1,s+j3 g.ds[i].t),⟨⟨by simp only;omega,?_,by simp only;omega⟩,by simp only;omega⟩,.refl,da,.cons rfl .nil⟩;simp only;rw[ao,g9 bi,gg,yy];simp
 ·have c1:g.n<=i:=by simpa using h
  rw[gv (by omega)]at ao;exact⟨_,_,.refl,by rw[ao];rfl,rfl,rfl⟩
end Go.V
