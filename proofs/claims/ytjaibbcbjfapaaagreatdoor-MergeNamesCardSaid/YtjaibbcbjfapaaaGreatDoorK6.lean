/- Part 6 of what the proofs of this seat share: the executor, data in memory, walks.
-/
import Derived.Test.YtjaibbcbjfapaaaGreatDoorK5
import Derived.Test.YtjaibbcbjfapaaaGreatDoorK2
import Derived.Test.YtjaibbcbjfapaaaGreatDoorK3
import Derived.Test.YtjaibbcbjfapaaaGreatDoorK4
import Derived.Lib.TrailingZeros
set_option linter.all false
set_option maxHeartbeats 8000000
set_option maxRecDepth 100000
namespace Go.V
open Go
def m6:=@Nat.not_lt_zero
def w0:=@List.mem_or_eq_of_mem_set
def CG:=@List.length_reverse
def E5:=@List.any_eq_true
def aar:=@List.getElem_concat_length
def RW:=@List.mem_reverse
variable{P:Program}{f b n n0 e T size:Nat}{args:List aq}{I dA I' J:aH}{M M0 M' N:List aA}{p q Q:Value->aH->List aA->Prop}{g:cE}{v:aq}{us vs:List Value}{X:cN}{β:Nat->Nat}{a:Option Addr}{w w':World}{F:List aX}{E:Env}{an:bk aq}{ps l fC:List Nat}{fi body:Code}{jc:Loc}{o:Obj}{G:GT}{pr:lV}{D0 D:bR}{m m':bA}{x:Operand}{u:Value}{ex:sj}{Y:gH}{arr:Array Value}{R α:Type}{t:bs}{s:ec}{ay:List Int}{os:aT}{A:Nat->List Nat}{r:Int×Int}{text:List UInt8}
def Spec.jN{args:List Value}(h:Spec P f args I M p)(ae:∀ v I' M',p v I' M'->q v I' M'):Spec P f args I M q:=by
 rcases h with⟨aa,ad⟩ | h
 ·refine .inl ⟨aa,λw hw=>?_⟩;refine(ad w hw).mono ?_;rintro e w'⟨v,I',M',aK,ba,cA,ee⟩;exact⟨v,I',M',aK,ae _ _ _ ba,cA,ee⟩
 ·refine .inr λw hw=>?_;obtain⟨v,w',I',M',aK,ba,cA,ee⟩:=h w hw;exact⟨v,w',I',M',aK,ae _ _ _ ba,cA,ee⟩
section
variable{Y:gH}{D:bR}{m m':bA}{I:aH}{M:List aA}
def aas(aL:cU Y.P Y.E)(bw:wZ Y.P)(lX:yv Y)(ao:CF Y f){g:Nat}(h:Lr Y (ll Y f) g args m=some (v,m'))(hu:bO D args us)(hm:dc Y D m I M) :
  vV Y.P g us I M λr I' M'=>∃ bF,D.ext bF m.n/\aV bF v r/\dc Y bF m' I' M':=by
 unfold Lr at h;obtain⟨fn,aE,aa⟩:=ct h;obtain⟨c,ag,ad⟩:=ct aa;obtain⟨bn,aj⟩:=fV ad;obtain⟨an,a',bh⟩:=bk.ym args (bk.bare 12) 0;rw[a']at aj;have xx:∀ t w,an.get t=some w->args[t]?=some w:=λt w hw=>by
  rcases bh t w hw with⟨_,h⟩ | ⟨_,h⟩;·simpa using h
  ·rw[RU]at h;cases h
 unfold Zc at aj;split at aj
 ·rename_i da cW ab;unfold Lq at aj;obtain⟨vs,af,aJ⟩:=ct aj;cases aJ;exact aaq aL bw lX ao aE ag (bJ bn) xx (.inl rfl) ab af rfl hu hm
 ·rename_i da cW ab;unfold Lq at aj;obtain⟨vs,af,aJ⟩:=ct aj;cases aJ;exact aaq aL bw lX ao aE ag (bJ bn) xx (.inr rfl) ab af rfl hu hm
 ·cases aj
def aat(aL:cU Y.P Y.E)(bw:wZ Y.P)(lX:yv Y)(ao:CF Y f){g:Nat}(h:yl Y (ll Y f) g args m=some (v,m'))(hu:bO D args us)(hm:dc Y D m I M) :
  Spec Y.P g us I M λr I' M'=>∃ bF,D.ext bF m.n/\aV bF v r/\dc Y bF m' I' M':=by
 unfold yl at h;cases aI:Y.pr g args m with
 |none=>rw[aI]at h;exact .inl (aas aL bw lX ao h hu hm)| some p=>rw[aI]at h;have bd:some p=some (v,m'):=h;cases bd;exact lX g args m v m' aI D I M us hu hm
def cM.kept{a:Act}{W:World}{F:Fr}{C:de}(h:cM X β a w F C I' M')(aa:X.ax=W)(ad:X.B=W.heap.size)(aj:X.dA=dA)(aJ:X.foot=M0.map (·.num)):Kept dA M0 W I' M' w where
 le:=by rw[<-aj];exact h.h5
 uz b o ag:=by
  rcases h.hE b o ag with bD | bD;·exact .inl (by rw[<-aj];exact bD)
  ·exact .inr (by rw[<-ad];exact bD)
 vU x ab:=by
  rcases h.own x ab with bD | bD;·rw[aJ]at bD;obtain⟨y,aG,e⟩:=c3.1 bD;exact .inl ⟨y,aG,e⟩
  ·exact .inr (by rw[<-ad];exact bD)
 dI b ag aC:=by rw[<-aa];refine h.dI b (by rw[ad];exact ag) λhm=>?_;rw[aJ]at hm;obtain⟨y,aG,e⟩:=c3.1 hm;exact aC y aG e
 out:=by rw[<-aa];exact h.out
 sz:=by rw[<-ad];exact h.sz
def aau{R:Type}:∀ {ps:List Nat} {args:List aq} {m3:bk aq} {K:bk aq->Option R} {r:R} {us:List Value} {tmps:Array Value},EG ps args m3 K=some r->bO D args us->(∀ t∈ps,t<tmps.size)->(∀ t v,m3.get t=some v->aV D v (tmps.getD t undef)) -> ∃ fG,K fG=some r/\us.length=ps.length/\((ps.zip us).foldl (λ(tmps:Array Value) (p:Nat×Value)=>tmps.setIfInBounds p.1 p.2) tmps).size=tmps.size /\ ∀ t v,fG.get t=some v->aV D v (((ps.zip us).foldl (λ(tmps:Array Value) (p:Nat×Value)=>tmps.setIfInBounds p.1 p.2) tmps).getD t undef)
 |[],[],m3,K,r,us,tmps,h,hu,aI,ax=>by have:=hu.nM;subst this;exact⟨m3,h,rfl,rfl,ax⟩
 |[],_::_,m3,K,r,us,tmps,h,hu,aI,ax=>by simp[EG]at h
 |_::_,[],m3,K,r,us,tmps,h,hu,aI,ax=>by simp[EG]at h
 |t0::ps,w1::args,m3,K,r,us,tmps,h,hu,aI,ax=>by
  obtain⟨x,xs,a',bh,rfl⟩:=hu.kj;simp only[EG]at h;obtain⟨fG,aa,ad⟩:=bk.oR (some w1) m3 t0;rw[aa]at h;have a1:=aI t0 am;obtain⟨vr,aj,aJ,bD,cG⟩:=aau (tmps:=tmps.setIfInBounds t0 x) h bh (λt au=>by simpa using aI t (by simp[au])) λt v au=>by
   rw[p8,F1];rcases ad t v au with⟨rfl,e⟩ | ⟨bz,aw⟩;·have:=(oW e);subst this;simp only[s7,a1];exact a'
   ·rw[bS (r9 bz),<-p8];exact ax t v aw
  exact⟨vr,aj,by simp[aJ],by simpa using bD,cG⟩
def lp.L1{a:Loc}{b:Bool}(h:lp D E M a (.loop b n an ps fi body)):∃ L,(⟨a.b,.loop L⟩:aA)∈M/\Zl D b n an ps fi body L:=by
 cases h with
 |loop L aa ad=>exact⟨L,aa,ad⟩
def lp.amL{a:Loc}{c:Code}(h:lp D E M a (.done c n an ps fi body)):∃ L,(⟨a.b,.loop L⟩:aA)∈M/\L.state=.done/\L.pending=some c:=by
 cases h with
 |done L aa ad aj=>exact⟨L,aa,ad,aj⟩
def dc.swap(h:dc Y D m I M){bi:bk fF}{l:Nat}{eB aK:fF}{o':Obj}{Mr:List aA}(aw:m.t.get l=some eB)(a7:D l=some jc)(bc:M.Perm (⟨jc.b,o⟩::Mr))(au:∀ id e,bi.get id=some e->(id=l/\some aK=some e)\/(id≠l/\m.t.get id=some e))
  (he:lp D Y.E (⟨jc.b,o'⟩::Mr) jc aK):dc Y D ⟨bi,m.n⟩ I (⟨jc.b,o'⟩::Mr):=by
 refine h.step (λid e hi=>(au id e hi).imp (λq=>⟨q.1,oW q.2⟩) λq=>q) a7 (bR.le_refl D) (λ_ _=>rfl) h.jL (λ_ _ h=>h) (λid e bN bz hi qH x ab aC=>?_) he λid e bN bz hi qH ag=>bz (h.inj _ _ _ _ _ _ hi aw qH a7 ag);rcases er.1 (bc.mem_iff.1 ab)with rfl | ab
 ·exact(bz (h.inj _ _ _ _ _ _ hi aw qH a7 aC.symm)).elim
 ·exact nO _ ab
end
section
variable{Y:gH}{D:bR}{m m':bA}{I:aH}{M:List aA}
def amM(ao:CF Y f){l:Nat}(h:QX (ll Y f) l args m=some (v,m'))(az:D l=some jc)(hu:bO D args us)(hm:dc Y D m I M) :
  DA Y.P jc.b us I M λr I' M'=>∃ bF,D.ext bF m.n/\aV bF v r/\dc Y bF m' I' M':=by
 unfold QX at h;split at h
 ·rename_i n m3 ps fi body aw;obtain⟨L,bc,bZ⟩:=(hm.iL _ _ _ aw az).L1;intro W k1;have GH:W.heap[jc.b]?=some (.loop L):=k1.m _ bc;have ff:L.state=.ready:=bZ.a2;have xH:∀ t∈ps,t<L.tmps.size:=λt au=>by rw[bZ.sz];exact bZ.op t (by rw[bZ.ps];exact au)
  obtain⟨fG,aa,cQ,dk,aav⟩:=aau (tmps:=L.tmps) h hu xH bZ.an;have D1:L.params.size=ps.length:=by rw[<-bZ.ps];simp
  refine⟨_,_,_,_,run_yield GH (by rw[D1];simpa using cQ),?_⟩;have h':(L.params.zip us.toArray).foldl (λtmps (x:Nat×Value)=>match x with | (t,a)=>tmps.setIfInBounds t a) L.tmps=(ps.zip us).foldl (λ(tmps:Array Value) (p:Nat×Value)=>tmps.setIfInBounds p.1 p.2) L.tmps:=by rw[<-NN,<-bZ.ps];simp
  rw[h'];generalize a6:(ps.zip us).foldl (λ(tmps:Array Value) (p:Nat×Value)=>tmps.setIfInBounds p.1 p.2) L.tmps=T at aav dk;rw[bZ.fi,bZ.body];have ob:hW n fi=true:=by rw[<-bZ.fi];exact bZ.BE
  have LQ:hW n body=true:=by rw[<-bZ.body];exact bZ.nu
  refine roundIn_of_wpIn (F:=Fence.wide) (n:=0) trivial ?_;let wk:cN:=jM Y n W.heap.size W I (M.map (·.num)) (some jc.b)
  have Gn:cM wk (λ_=>0) { tmps:=T,defers:=[] } W (λt=>.val (T.getD t undef)) (λ_=>none) I M:={
   size:=dk.trans bZ.sz
   defers:=⟨[],rfl,A2,λr af=>by cases af⟩
   holds:=k1
   an:=λt=>rfl
   cm:=λs cs av=>by cases av
   inj:=λs cq aa=>by simp at aa
   h5:=λb o ag=>ag
   hE:=λb o ag=>.inl ag
   own:=λx ab=>.inl (c3.2 ⟨x,ab,rfl⟩)
   dI:=λb ag aE=>rfl
   out:=.refl _
   sz:=cc _
   fA:=λx ab=>by
    obtain⟨y,aG,rfl⟩:=c3.1 ab;exact(l4.1 (k1.m y aG)).1 }
  unfold Ze at aa;split at aa
  ·rename_i vr m2 amN;have gw:ls wk Y.G Y.pr D m.n fG m { tmps:=T,defers:=[] } W:=⟨D,_,_,I,M,⟨_,Gn⟩,λt v ak=>.val (aav t v ak),hm,bR.oY,cc _⟩;refine wpIn_mono (ao _ _ _ _ _ _ _ _ amN ob _ _ _ _ _ D m.n _ _ (λe=>by cases e) gw) ?_;rintro e cP jZ⟨rfl,RX,aaw,aax,ew,dv,⟨aay,mQ⟩,L2,zq,An,lq⟩;have sB:RX l=some jc:=by rw[An l (hm.jL _ _ az)];exact az
   have ad:QV (ll Y f) l n body (m2.t.get l) vr m2=some (v,m'):=aa;unfold QV at ad;split at ad
   ·rename_i hM amO amP amQ QW mS;obtain⟨ju,Ih,oc⟩:=(zq.iL _ _ _ mS sB).L1;obtain⟨a9,post,di⟩:=vf Ih;have mq:dv.Perm (⟨jc.b,.loop ju⟩::(a9++post)):=by rw[di];exact mm
    have aaz:jZ.heap[jc.b]?=some (.loop ju):=mQ.holds.m _ Ih;have amR:=(l4.1 aaz).1;refine⟨_,run_beginRound aaz oc.a2,?_⟩;obtain⟨t3,aj,aJ⟩:=bk.oR (some (fF.loop true hM amO amP amQ QW)) m2.t l;rw[aj]at ad;have yw:cM wk aay cP (jZ.putObj jc.b (.loop { ju with state:=.busy })) aaw aax ew (⟨jc.b,.loop { ju with state:=.busy }⟩::(a9++post)):=
     (mQ.hT (.perm mq .refl)).swap am (Dv amR) (λb ag=>nh ag) (JQ _ _ _)
    have o1:dc Y RX ⟨t3,m2.n⟩ ew (⟨jc.b,.loop { ju with state:=.busy }⟩::(a9++post)):=zq.swap mS sB mq aJ (.loop { ju with state:=.busy } am ⟨rfl,oc.q',oc.sz,oc.an,oc.ps,oc.fi,oc.body,oc.BE,oc.nu,oc.op⟩);unfold Zd at ad;obtain⟨⟨ex,axt,L3⟩,Hs,bD⟩:=ct ad;have zn:ls wk Y.G Y.pr D m.n vr ⟨t3,m2.n⟩ cP (jZ.putObj jc.b (.loop { ju with state:=.busy })):=⟨RX,aaw,aax,ew,_,⟨aay,yw⟩,L2,o1,An,lq⟩;refine wpIn_mono (ao _ _ _ _ _ _ _ _ Hs LQ _ _ _ _ _ D m.n _ _ (λe=>by cases e) zn) ?_;rintro e g' kz⟨rfl,aaA,amS,amT,ql,rj,⟨amU,rO⟩,axu,aaB,aaC,aaD⟩;have CH:aaA l=some jc:=by rw[aaC l (hm.jL _ _ az)];exact az
    have cG:QU l (L3.t.get l) (DC ex) L3=some (v,m'):=bD;unfold QU at cG;split at cG
    ·rename_i aaE aaF aaG aaH aaI DY;obtain⟨RY,sS,Aq⟩:=(aaB.iL _ _ _ DY CH).L1;obtain⟨aaJ,aaK,amV⟩:=vf sS;have aaL:rj.Perm (⟨jc.b,.loop RY⟩::(aaJ++aaK)):=by rw[amV];exact mm
     have aaM:kz.heap[jc.b]?=some (.loop RY):=rO.holds.m _ sS;have amW:=(l4.1 aaM).1;obtain⟨t5,eZ,fx⟩:=bk.oR (some (bu (DC ex) (fF.loop false aaE aaF aaG aaH aaI) λc=>fF.done c aaE aaF aaG aaH aaI)) L3.t l;rw[eZ]at cG;cases cG;have fin:∀ jump,DC ex=jump->∃ vh w',(Instr.endRound jc.b jump).run Y.P kz=.ok vh w'/\∃ r I' M',Ending.returned vh=.returned r/\(∃ bF,D.ext bF m.n/\aV bF (.b (DC ex).isNone) r/\dc Y bF ⟨t5,L3.n⟩ I' M')/\eJ I' M' w'/\Kept I M W I' M' w':=by
      rintro jump ah;let L4:Loop:={ RY with state:=if jump.isNone then .ready else .done,pending:=jump }
      have L5:cM wk amU g' (kz.putObj jc.b (.loop L4)) amS amT ql (⟨jc.b,.loop L4⟩::(aaJ++aaK)):=
       (rO.hT (.perm aaL .refl)).swap am (Dv amW) (λb ag=>nh ag) (JQ _ _ _)
      refine⟨_,_,run_endRound jump aaM,_,ql,_,rfl,⟨aaA,aaC,?_,aaB.swap DY CH aaL fx ?_⟩,L5.holds,L5.kept rfl rfl rfl rfl⟩;·rw[ah];simp[aV]
      ·rw[ah];cases jump with
       |none=>exact .loop L4 am ⟨rfl,rfl,Aq.sz,Aq.an,Aq.ps,Aq.fi,Aq.body,Aq.BE,Aq.nu,Aq.op⟩| some c=>exact .done L4 am rfl rfl
     cases ex with
     |normal=>exact fin none rfl| exit id=>exact fin _ rfl| goto t=>exact fin _ rfl| ret=>exact fin _ rfl
    ·cases cG
   ·cases ad
  ·cases aa
 ·cases h
end
section
variable{Y:gH}
def amX(aL:cU Y.P Y.E)(bw:wZ Y.P)(lX:yv Y)(ao:CF Y f):H5 Y (Ls Y (ll Y f)):=λal7 l m v m' h D I M u us y2 fI hm=>by
 unfold Ls at h;split at h
 ·rename_i g et cs;simp only[aV]at y2;obtain⟨vs,ws,aa,ad,rfl⟩:=y2;refine .inl ⟨g,_,_,rfl,?_⟩;have:=aat aL bw lX ao h (aa.append (fI.append ad)) hm;simpa using this
 ·rename_i q;simp only[aV]at y2;obtain⟨jc,aa,rfl⟩:=y2;exact .inr ⟨jc.b,rfl,amM ao h aa fI hm⟩
 ·cases h
def ls.world{a:Act}(h:ls X G pr D0 n0 an m a w):∃ D F β,(∀ t,e9 β (F t) (a.tmps.getD t undef))/\qE D F an:=by obtain⟨D,F,C,I,M,⟨β,aM⟩,bw,_⟩:=h;exact⟨D,F,β,aM.an,bw⟩
def ls.eval{a:Act}(h:ls X G pr D0 n0 an m a w){b:Bool}(ab:dq an x=some (.b b)):a.eval x=.bool b:=by obtain⟨D,F,β,aa,ad⟩:=h.world;obtain⟨u,aK,a'⟩:=(ad.op [x]).bG (x:=x) am ab;rw[df aa aK,a'.bool]
def gv.ok{x:dx}(h:gv D x v)(ab:e9 β x u):aV D v u:=by
 rcases h with⟨y,rfl,h⟩ | ⟨q,rfl,rfl⟩
 ·have:u=y:=ab;subst this;exact h
 ·have:u=.bool q:=ab;subst this;simp[aV]
def amY(aL:cU Y.P Y.E)(bw:wZ Y.P)(lX:yv Y)(ao:CF Y f){gP:Bool}{ps:Array Tmp}{da:bk aq}(h:QZ Y (ll Y f) gP n (dq an x) ps.toList fi body an m=some (ex,da,m'))(bf:hW n (.rangeFunc x ps fi body)=true){B:Nat}{ax:World}{foot:List Nat}{ro:Option Nat}{a:Act}(iS:gP=true->ro=none)(av:ls (jM Y n B ax dA foot ro) Y.G Y.pr D0 n0 an m a w) :
  (Code.rangeFunc x ps fi body).wpIn (g2 (jM Y n B ax dA foot ro)) 0 Y.P (λe a w=>e=Ap ex/\ls (jM Y n B ax dA foot ro) Y.G Y.pr D0 n0 da m' a w) a w:=by
 unfold QZ at h;split at h
 ·rename_i g cap ab;have OB:=iS rfl;subst OB;obtain⟨D,F,C,I,M,⟨β,aM⟩,RZ,hm,gd,sv⟩:=av;obtain⟨u,aK,a'⟩:=(RZ.op [x]).bG (x:=x) am ab;simp only[aV]at a';obtain⟨vs,ws,aa,ad,rfl⟩:=a';have ij:=aa.nM;subst ij;simp only[hW,cC]at bf;obtain⟨t1,aj,aJ⟩:=HZ h;refine wpIn_rangeFunc λfn _=>?_;let gE:Loop:={ state:=.ready,pending:=none,fn:=fn,tmps:=a.tmps,params:=ps,assign:=fi,body:=body,defers:=w.heap.size }
  let l:=w.heap.size+1
  let nZ:World:=(w.alloc (.deferred (some []))).alloc (.loop gE)
  have xN:=aM.VA.nX (.loop gE);have az:(w.alloc (.deferred (some []))).heap.size=l:=by simp[l]
  rw[az]at xN;have amZ:∀ q∈M,q.num≠l:=λq aO e=>by have:=aM.holds.lt aO;omega
  have aaN:dc Y (D.set m.n ⟨l,0,0⟩) ⟨t1,m.n+1⟩ I (⟨l,.loop gE⟩::M):=hm.new (a:=⟨l,0,0⟩) aj amZ (.loop gE am ⟨rfl,rfl,aM.size,λt v au=>((RZ t v au).ok (aM.an t)).mono (bR.Ab _ hm.fresh),rfl,rfl,rfl,bf.1,bf.2.1,λt au=>bJ (fN.1 bf.2.2 t au)⟩);unfold Zh at aJ;obtain⟨⟨v,m2⟩,mN,bD⟩:=ct aJ;have aaO:=bR.Ab (D:=D) ⟨l,0,0⟩ hm.fresh;have ml:bO (D.set m.n ⟨l,0,0⟩) (.y m.n::cap) (.func (.yield l) #[] #[]::ws):=.cons (by simp only[aV];exact⟨_,bR.pS _ _ _,rfl⟩) (ad.mono aaO);obtain⟨qc,Be⟩:=aas aL bw lX ao mN ml aaN;have am0:=Be nZ xN.holds;have ba:=df aM.an aK;refine⟨l,[xu w.heap.size],nZ,{ target:=.fn (.func g) ws.toArray,args:=#[.func (.yield l) #[] #[]] },nZ,g,(.func (.yield l) #[] #[]::ws).toArray,nZ,?_,?_,λ_ _=>trivial,?_,(λh=>ci),?_⟩;·show(Instr.enterLoop fn a.tmps ps fi body none).run Y.P w=_;exact run_enterLoop_outer fn a.tmps ps fi body
  ·show(Deferred.ofValue (a.eval x) (#[Operand.const (.func (.yield l) #[] #[])].map a.eval)).run Y.P nZ=_;rw[ba];simp[Deferred.ofValue,Act.eval]
  ·simp only[invoke];rw[show #[Value.func (.yield l) #[] #[]]++ws.toArray=(.func (.yield l) #[] #[]::ws).toArray from by apply lH;simp];exact qc _ _
  ·refine(N1 (X:=jM Y n B ax dA foot none) am0 _).mono ?_;rintro e qk⟨r,k8,oB,rfl,⟨Ii,R0,Hc,o1⟩,aaP,R1⟩;have su:=xN.after (Mr:=[]) am aaP R1;rw[dK]at su;have rk:Ii m.n=some ⟨l,0,0⟩:=by rw[R0 m.n (A1 _)];exact bR.pS _ _ _
   have L6:=aaN.le R0;have am1:qE Ii F an:=λt v au=>(RZ t v au).mono (bR.le_trans aaO L6);have am2:D0.ext Ii n0:=λi hi=>by
    have fq:i<m.n+1:=by
     have:i<m.n:=by omega
     omega
    rw[R0 i fq];show(if i=m.n then _ else D i)=D0 i;rw[bS Z];exact gd i hi
   have fin:∀ (L:Loop) (t4:bk fF) (j:Option Code),(⟨l,.loop L⟩:aA)∈oB->L.state≠.busy->L.pending=j->(∃ eB,m2.t.get m.n=some eB)->(∀ id e,t4.get id=some e->(id=m.n/\(none:Option fF)=some e)\/(id≠m.n/\m2.t.get id=some e))->n0<=m2.n ->
     ∃ kz,(Instr.endLoop l).run Y.P qk=.ok j kz/\ls (jM Y n B ax dA foot none) Y.G Y.pr D0 n0 an ⟨t4,m2.n⟩ { a with defers:=[xu w.heap.size]++a.defers } kz:=by
    rintro L t4 j bZ ag aI⟨eB,am3⟩Pw aaD;have am4:qk.heap[l]?=some (.loop L):=aaP.m _ bZ;obtain⟨a9,post,di⟩:=vf bZ;have mq:oB.Perm (⟨l,.loop L⟩::(a9++post)):=by rw[di];exact mm
    have j1:∀ i e7,t4.get i=some e7->i≠m.n/\m2.t.get i=some e7:=λi e7 hi=>by
     rcases Pw i e7 hi with⟨_,fx⟩ | fx;·cases fx
     ·exact fx
    have rO:=(su.hT (.perm mq .refl)).GD (o':=.loop { L with state:=.exhausted });refine⟨_,(by rw[<-aI];exact run_endLoop am4 ag),Ii,F,C,k8,a9++post,⟨β,rO⟩,am1,⟨λi e7 b hi ha=>?_,λi gQ e7 Ai b ik hi cz=>o1.inj i gQ e7 Ai b ik (j1 i e7 hi).2 (j1 gQ Ai cz).2,o1.jL,o1.qD⟩,am2,aaD⟩;refine(o1.iL i e7 b (j1 i e7 hi).2 ha).mono (bR.le_refl Ii) λq aO aC=>?_;rcases er.1 (mq.mem_iff.1 aO)with rfl | aO;·exact((j1 i e7 hi).1 (o1.inj _ _ _ _ _ _ (j1 i e7 hi).2 am3 ha rk aC.symm)).elim
    ·exact aO
   have lq:∀ {eB:fF},m2.t.get m.n=some eB->n0<=m2.n:=λ_=>by have:=o1.jL _ _ rk;omega
   have cG:(match m2.t.get m.n with
    |some (.loop false ..)=>m2.t.nL none m.n λt=>some (sj.normal,an,(⟨t,m2.n⟩:bA))
    |some (.done c ..)=>bu (QY c) none λex=>m2.t.nL none m.n λt=>some (ex,an,⟨t,m2.n⟩)
    |_=>none)=some (ex,da,m'):=bD
   split at cG;·rename_i am5 am6 am7 am8 am9 sA;obtain⟨L,bZ,aaQ⟩:=(o1.iL _ _ _ sA rk).L1;obtain⟨t4,eZ,fx⟩:=bk.oR (none:Option fF) m2.t m.n;rw[eZ]at cG;cases cG;obtain⟨kz,dT,qs⟩:=fin L t4 none bZ (by rw[aaQ.a2];simp) aaQ.q' ⟨_,sA⟩ fx (lq sA);exact⟨none,kz,dT,rfl,qs⟩
   ·rename_i c am5 am6 am7 am8 am9 sA;obtain⟨L,bZ,ff,R2⟩:=(o1.iL _ _ _ sA rk).amL;obtain⟨Cv,hex,cG⟩:=ct cG;obtain⟨t4,eZ,fx⟩:=bk.oR (none:Option fF) m2.t m.n;rw[eZ]at cG;cases cG;obtain⟨kz,dT,qs⟩:=fin L t4 (some c) bZ (by rw[ff];simp) R2 ⟨_,sA⟩ fx (lq sA);refine⟨some c,kz,dT,?_⟩;unfold QY at hex;split at hex
    ·cases hex;exact wpIn_exit ⟨rfl,qs⟩
    ·cases hex;exact wpIn_goto ⟨rfl,qs⟩
    ·cases hex;exact wpIn_ret ⟨rfl,qs⟩
    ·cases hex
   ·cases cG
 ·cases h
end
section
variable{Y:gH}
def aaR{next:Act->World->Prop}{Q:Exit->Act->World->Prop}{a:Act}(h:Q (Ap ex) a w)(bz:ex≠.normal):Exit.then next Q (Ap ex) a w:=by cases ex<;>first | exact(bz rfl).elim | exact h
def ana(aL:cU Y.P Y.E)(bw:wZ Y.P)(lX:yv Y)(ih:Y.P.follows .mixedOrders=true):∀ f k,k<=f->CF Y k:=by
 intro f
 induction f with
 |zero=>
  intro k ae gP n c an m ex da m' h;have:k=0:=by omega
  subst this;cases h
 |succ f aQ=>
  intro k ae;by_cases Hk:k<=f;·exact aQ k Hk
  have tz:k=f+1:=by omega
  subst tz;have ao:=aQ f (cc _);have mN:=amX aL bw lX ao;intro gP n c an m ex da m' h bf B ax dA foot ro D0 n0 a w iS av;have aa:Q0 Y f (ll Y f) gP n c an m=some (ex,da,m'):=h;have kc:=@jM.gC Y n B ax dA foot ro;unfold Q0 at aa;cases c with
  |skip=>cases aa;exact wpIn_skip ⟨rfl,av⟩| label l=>cases aa;exact wpIn_label ⟨rfl,av⟩| ret=>cases aa;exact wpIn_ret ⟨rfl,av⟩| exit id=>cases aa;exact wpIn_exit ⟨rfl,av⟩| goto l=>cases aa;exact wpIn_goto ⟨rfl,av⟩| refuse s=>cases aa
  |seq x y=>
   simp only[hW,cC]at bf;simp only[HL]at aa;split at aa;·rename_i fG cW ab;refine wpIn_seq (wpIn_mono (ao _ _ _ _ _ _ _ _ ab bf.1 B ax dA foot ro D0 n0 a w iS av) ?_);rintro e cP jZ⟨rfl,gw⟩;exact ao _ _ _ _ _ _ _ _ aa bf.2 B ax dA foot ro D0 n0 cP jZ iS gw
   ·rename_i ed;refine wpIn_seq (wpIn_mono (ao _ _ _ _ _ _ _ _ aa bf.1 B ax dA foot ro D0 n0 a w iS av) ?_);rintro e cP jZ⟨rfl,gw⟩;exact aaR ⟨rfl,gw⟩ λe=>ed da m' (by rw[aa,e])
  |block id c=>
   simp only[hW]at bf;simp only[Zf]at aa;split at aa
   ·rename_i j fG cW ab;refine wpIn_block (wpIn_mono (ao _ _ _ _ _ _ _ _ ab bf B ax dA foot ro D0 n0 a w iS av) ?_);rintro e cP jZ⟨rfl,gw⟩;simp only[Ap,Exit.inBlock];by_cases ah:j=id
    ·subst ah;rw[ta]at aa;have ad:some (sj.normal,fG,cW)=some (ex,da,m'):=aa;cases ad;rw[b2 rfl];exact⟨rfl,gw⟩
    ·rw[hF ah]at aa;have ad:some (sj.exit j,fG,cW)=some (ex,da,m'):=aa;cases ad;rw[bS ah];exact⟨rfl,gw⟩
   ·rename_i ed;refine wpIn_block (wpIn_mono (ao _ _ _ _ _ _ _ _ aa bf B ax dA foot ro D0 n0 a w iS av) ?_);rintro e cP jZ⟨rfl,gw⟩;cases ex with
    |exit j=>exact(ed j da m' aa).elim| normal=>exact⟨rfl,gw⟩| goto l=>exact⟨rfl,gw⟩| ret=>exact⟨rfl,gw⟩
  |cond x fP fr=>
   simp only[hW,cC]at bf;simp only[Zg]at aa;split at aa
   ·rename_i b ab;refine wpIn_cond (av.eval ab) ?_;cases b with
    |true=>exact ao _ _ _ _ _ _ _ _ aa bf.1 B ax dA foot ro D0 n0 a w iS av| false=>exact ao _ _ _ _ _ _ _ _ aa bf.2 B ax dA foot ro D0 n0 a w iS av
   ·cases aa
  |loop c=>
   simp only[hW]at bf;let J (k:Nat) (a:Act) (w:World):Prop:=k<=f+1/\∃ fG cW,ll Y k gP n (.loop c) fG cW=some (ex,da,m')/\ls (jM Y n B ax dA foot ro) Y.G Y.pr D0 n0 fG cW a w
   refine JV J (m:=f+1) ⟨cc _,an,m,h,av⟩ ?_;rintro k cP jZ⟨ae,fG,cW,ad,gw⟩;cases k with
   |zero=>cases ad
   |succ k=>
    have Ij:=aQ k Z;have aj:HL (ll Y k gP n c fG cW) (ll Y k gP n (.loop c))=some (ex,da,m'):=ad;simp only[HL]at aj;split at aj;·rename_i vr m2 ab;refine wpIn_mono (Ij _ _ _ _ _ _ _ _ ab bf B ax dA foot ro D0 n0 cP jZ iS gw) ?_;rintro e ek nZ⟨rfl,qb⟩;exact⟨k,A1 k,Z,vr,m2,aj,qb⟩
    ·rename_i ed;refine wpIn_mono (Ij _ _ _ _ _ _ _ _ aj bf B ax dA foot ro D0 n0 cP jZ iS gw) ?_;rintro e ek nZ⟨rfl,qb⟩;exact aaR ⟨rfl,qb⟩ λe=>ed da m' (by rw[aj,e])
  |region id ops anb=>
   cases anb with
   |false=>simp only[Lt]at aa;obtain⟨⟨fG,cW⟩,ab,ad⟩:=ct aa;cases ad;refine wpIn_region ?_;have:=RB (X:=jM Y n B ax dA foot ro) (G:=Y.G) (pr:=Y.pr) (D0:=D0) (n0:=n0) aL kc mN ops (λe a w=>e=Ap .normal/\ls (jM Y n B ax dA foot ro) Y.G Y.pr D0 n0 fG cW a w) (λa w h=>⟨rfl,h⟩) ops.toList 0 am (JU bf) ab av;have dT:wpOpsIn (g2 (jM Y n B ax dA foot ro)) 0 Y.P ops (λe a w=>e=Ap .normal/\ls (jM Y n B ax dA foot ro) Y.G Y.pr D0 n0 fG cW a w) (List.range' 0 ops.toList.length) a w:=this;rw[Df];simpa using dT
   |true=>simp only[Lt]at aa;obtain⟨⟨fG,cW⟩,ab,ad⟩:=ct aa;cases ad;exact amj (X:=jM Y n B ax dA foot ro) (G:=Y.G) (pr:=Y.pr) (D0:=D0) (n0:=n0) aL kc mN ih bf ab (λa w h=>⟨rfl,h⟩) av
  |scope c=>
   simp only[hW]at bf;have step:∀ (k:Nat) (x:Code) (fG:bk aq) (cW:bA) (cP:Act) (jZ:World),hW n x=true->HM (ll Y f) gP n c (k+1) x fG cW=some (ex,da,m')->ls (jM Y n B ax dA foot ro) Y.G Y.pr D0 n0 fG cW cP jZ ->
     x.wpIn (g2 (jM Y n B ax dA foot ro)) 0 Y.P (λe bN w'=>match e with
      | .goto l=>∃ bm vr m2,findLabel c l=some bm/\HM (ll Y f) gP n c k bm vr m2=some (ex,da,m')/\ls (jM Y n B ax dA foot ro) Y.G Y.pr D0 n0 vr m2 bN w'| e=>e=Ap ex/\ls (jM Y n B ax dA foot ro) Y.G Y.pr D0 n0 da m' bN w') cP jZ:=λk x fG cW cP jZ ab ad gw=>by
    have aj:(match ll Y f gP n x fG cW with
     |some (.goto l,an,m)=>bu (findLabel c l) none λbm=>HM (ll Y f) gP n c k bm an m
     |r=>r)=some (ex,da,m'):=ad
    split at aj;·rename_i l vr m2 he;obtain⟨bm,re,aJ⟩:=ct aj;refine wpIn_mono (ao _ _ _ _ _ _ _ _ he ab B ax dA foot ro D0 n0 cP jZ iS gw) ?_;rintro e ek nZ⟨rfl,qb⟩;exact⟨bm,vr,m2,re,aJ,qb⟩
    ·rename_i ed;refine wpIn_mono (ao _ _ _ _ _ _ _ _ aj ab B ax dA foot ro D0 n0 cP jZ iS gw) ?_;rintro e ek nZ⟨rfl,qb⟩;cases ex with
     |goto l=>exact(ed l da m' aj).elim| exit j=>exact⟨rfl,qb⟩| normal=>exact⟨rfl,qb⟩| ret=>exact⟨rfl,qb⟩
   let J (l k:Nat) (a:Act) (w:World):Prop:=∃ bm fG cW,findLabel c l=some bm/\HM (ll Y f) gP n c k bm fG cW=some (ex,da,m')/\ls (jM Y n B ax dA foot ro) Y.G Y.pr D0 n0 fG cW a w
   cases f with
   |zero=>cases aa
   |succ xT=>
    refine Vt J (wpIn_mono (step xT c an m a w bf aa av) ?_) ?_
    ·intro e cP jZ he;cases e with
     |goto l=>exact⟨xT,he⟩| _=>exact he
    ·rintro l k cP jZ⟨bm,fG,cW,re,ad,gw⟩;cases k with
     |zero=>cases ad
     |succ k=>
      refine⟨bm,re,wpIn_mono (step k bm fG cW cP jZ (RT bf re) ad gw) ?_⟩;intro e ek nZ he;cases e with
      |goto eF=>exact⟨k,A1 k,he⟩| _=>exact he
  |rangeFunc x ps fi body=>exact amY aL bw lX ao aa bf iS av
def reckon(aL:cU Y.P Y.E)(bw:wZ Y.P)(lX:yv Y)(ih:Y.P.follows .mixedOrders=true){g:Nat}(h:yl Y (ll Y f) g args m=some (v,m'))(hu:bO D args us)(hm:dc Y D m I M) : Spec Y.P g us I M λr I' M'=>∃ bF,D.ext bF m.n/\aV bF v r/\dc Y bF m' I' M':=
 aat aL bw lX (ana aL bw lX ih f f (cc _)) h hu hm
end
def aaS(h:eJ I M w)(aa:eJ I' M' w')(ad:Kept I [] w I' M' w') :
  eJ I' (M'++M) w'/\Kept I M w I' (M'++M) w'/\∀ x∈M',∀ y∈M,x.num≠y.num:=by
 have a1:∀ x∈M,x.num<w.heap.size:=λx ab=>(l4.1 (h.m x ab)).1;have cV:∀ x∈M',w.heap.size<=x.num:=λx ab=>by
  rcases ad.vU x ab with⟨y,aG,_⟩ | h;·cases aG
  ·exact h
 have bz:∀ x∈M',∀ y∈M,x.num≠y.num:=λx ab y aG e=>by have:=a1 y aG;have:=cV x ab;omega
 refine⟨⟨aa.i,λx ab=>?_,λx ab=>?_,?_⟩,⟨ad.le,ad.uz,λx ab=>?_,λb ag _=>ad.dI b ag am,ad.out,ad.sz⟩,bz⟩
 ·rcases c1.1 ab with ab | ab
  ·exact aa.m x ab
  ·rw[ad.dI x.num (a1 x ab) am];exact h.m x ab
 ·rcases c1.1 ab with ab | ab
  ·exact aa.d x ab
  ·cases he:I' x.num with
   |none=>rfl
   |some o=>
    rcases ad.uz _ _ he with aj | aj;·rw[h.d x ab]at aj;cases aj
    ·have:=a1 x ab;omega
 ·rw[cR,uu];refine⟨aa.cu,h.cu,λa a7 b ag e=>?_⟩;obtain⟨x,ab,rfl⟩:=c3.1 a7;obtain⟨y,aG,rfl⟩:=c3.1 ag;exact bz x ab y aG e
 ·rcases c1.1 ab with ab | ab
  ·exact .inr (cV x ab)
  ·exact .inl ⟨x,ab,rfl⟩
def Spec.frame{args:List Value}(h:Spec P f args I [] Q):Spec P f args I M λr I' ky=>∃ M',ky=M'++M/\(∀ x∈M',∀ y∈M,x.num≠y.num)/\(∀ b o,I b=some o->I' b=some o)/\Q r I' M':=by
 have ax:∀ {w:World},eJ I M w->eJ I [] w:=λhw=>⟨hw.i,am,am,am⟩;rcases h with⟨aa,ad⟩ | h
 ·refine .inl ⟨aa,λw hw=>?_⟩;refine(ad w (ax hw)).mono ?_;rintro e w'⟨v,I',M',aK,ba,cA,ee⟩;obtain⟨a',bh,bW⟩:=aaS hw cA ee;exact⟨v,I',M'++M,aK,⟨M',rfl,bW,ee.le,ba⟩,a',bh⟩
 ·refine .inr λw hw=>?_;obtain⟨v,w',I',M',aK,ba,cA,ee⟩:=h w (ax hw);obtain⟨a',bh,bW⟩:=aaS hw cA ee;exact⟨v,w',I',M'++M,aK,⟨M',rfl,bW,ee.le,ba⟩,a',bh⟩
mutual
def jO(k:Nat):aq->aq
 | .p id off=>.p (Nat.add id k) off| .sl id off n c=>.sl (Nat.add id k) off n c| .sx id off e n=>.sx (Nat.add id k) off e n| .m id=>.m (Nat.add id k)| .y id=>.y (Nat.add id k)| .f g l r=>.f g (qI k l) (qI k r)| .Hy t v=>.Hy t (jO k v)| .t l=>.t (qI k l)| .a l=>.a (qI k l)| .b x=>.b x| .i a n=>.i a n| .s l=>.s l| .pn=>.pn| .g n off=>.g n off| .sn=>.sn| .gs n off a c=>.gs n off a c| .so=>.so| .mn=>.mn| .fn=>.fn| .ni=>.ni
def qI(k:Nat):List aq->List aq
 |[]=>[]| v::l=>jO k v::qI k l
end
section
mutual
def E6{D0 D:bR}{k:Nat}(dh:∀ id a,D0 id=some a->D (Nat.add id k)=some a):∀ (v:aq) {u:Value},aV D0 v u->aV D (jO k v) u
 | .p id off,u,h=>by simp only[aV,jO]at h |-;obtain⟨a,a7,h⟩:=h;exact⟨a,dh _ _ a7,h⟩
 | .sl id off n c,u,h=>by simp only[aV,jO]at h |-;obtain⟨a,a7,h⟩:=h;exact⟨a,dh _ _ a7,h⟩
 | .sx id off e n,u,h=>by simp only[aV,jO]at h |-;obtain⟨a,a7,h⟩:=h;exact⟨a,dh _ _ a7,h⟩
 | .m id,u,h=>by simp only[aV,jO]at h |-;obtain⟨a,a7,h⟩:=h;exact⟨a,dh _ _ a7,h⟩
 | .y id,u,h=>by simp only[aV,jO]at h |-;obtain⟨a,a7,h⟩:=h;exact⟨a,dh _ _ a7,h⟩
 | .f g l r,u,h=>by simp only[aV,jO]at h |-;obtain⟨vs,ws,aa,ad,h⟩:=h;exact⟨vs,ws,Ik dh l aa,Ik dh r ad,h⟩
 | .Hy t v,u,h=>by simp only[aV,jO]at h |-;obtain⟨x,aa,h⟩:=h;exact⟨x,E6 dh v aa,h⟩
 | .t l,u,h=>by simp only[aV,jO]at h |-;obtain⟨x,aa,h⟩:=h;exact⟨x,Ik dh l aa,h⟩
 | .a l,u,h=>by simp only[aV,jO]at h |-;obtain⟨x,aa,h⟩:=h;exact⟨x,Ik dh l aa,h⟩
 | .b x,u,h=>by simpa only[aV,jO]using h
 | .i a n,u,h=>by simpa only[aV,jO]using h
 | .s l,u,h=>by simpa only[aV,jO]using h
 | .pn,u,h=>by simpa only[aV,jO]using h
 | .g n off,u,h=>by simpa only[aV,jO]using h
 | .sn,u,h=>by simpa only[aV,jO]using h
 | .gs n off a c,u,h=>by simpa only[aV,jO]using h
 | .so,u,h=>by simpa only[aV,jO]using h
 | .mn,u,h=>by simpa only[aV,jO]using h
 | .fn,u,h=>by simpa only[aV,jO]using h
 | .ni,u,h=>by simpa only[aV,jO]using h
def Ik{D0 D:bR}{k:Nat}(dh:∀ id a,D0 id=some a->D (Nat.add id k)=some a):∀ (l:List aq) {us:List Value},bO D0 l us->bO D (qI k l) us
 |[],us,h=>by simpa only[bO,qI]using h
 |v::l,us,h=>by simp only[bO,qI]at h |-;obtain⟨x,xs,aa,ad,h⟩:=h;exact⟨x,xs,E6 dh v aa,Ik dh l ad,h⟩
end
end
inductive vt where
 |cells(l:List aq)(T:Nat)| map (es:List (aq×aq))
noncomputable def Il:fF->Option vt
 | .cells cs T fK=>cs.Et 0 fK λl=>some (.cells l T)
 | .map es=>some (.map es)| _=>none
noncomputable def readAll(t:bk fF):Nat->Nat->Option (List vt)
 |_,0=>some []| id,n+1=>bu (t.get id) none λe=>bu (Il e) none λs=>bu (readAll t (Nat.add id 1) n) none λl=>some (s::l)
def R3(k:Nat):List (aq×aq)->List (aq×aq)
 |[]=>[]| p::l=>(jO k p.1,jO k p.2)::R3 k l
noncomputable def vt.iL(k:Nat):vt->fF
 | .cells l T=>bk.yf (qI k l) .nil 0 λcs=>.cells cs T l.length
 | .map es=>.map (R3 k es)
noncomputable def L7{R:Type}(k:Nat):List vt->Nat->bk fF->(bk fF->R)->R
 |[],_,t,K=>K t| s::l,id,t,K=>t.nL (some (s.iL k)) id λt=>L7 k l (Nat.add id 1) t K
noncomputable def R4(v:aq)(L:List vt)(m:bA):Option (aq×bA):=rJ m.n λn=>rJ (Nat.add n L.length) λhM=>L7 n L n m.t λt=>some (jO n v,⟨t,hM⟩)
def aaT{t:bk fF}:∀ {n id:Nat} {L:List vt},readAll t id n=some L->L.length=n/\∀ j s,L[j]?=some s->∃ e,t.get (id+j)=some e/\Il e=some s
 |0,id,L,h=>by cases h;exact⟨rfl,am⟩
 |n+1,id,L,h=>by
  unfold readAll at h;obtain⟨e,aa,h⟩:=ct h;obtain⟨s,ad,h⟩:=ct h;obtain⟨l,aj,h⟩:=ct h;cases h;obtain⟨a',bh⟩:=aaT aj;refine⟨by simp[a'],λj cq ah=>?_⟩;cases j with
  |zero=>cases ah;exact⟨e,aa,ad⟩| succ j=>obtain⟨c2,eQ,cZ⟩:=bh j cq lm;refine⟨c2,?_,cZ⟩;rw[<-eQ];congr 1;show id+(j+1)=id+1+j;omega
def aaU(k:Nat):∀ (L:List vt) (id:Nat) (t:bk fF),∃ bi:bk fF,(∀ {R:Type} (K:bk fF->R),L7 k L id t K=K bi) /\ ∀ j e,bi.get j=some e->(id<=j/\∃ s,L[j-id]?=some s/\e=s.iL k)\/((j<id\/id+L.length<=j)/\t.get j=some e)
 |[],id,t=>⟨t,λK=>rfl,λj e h=>.inr ⟨d4,h⟩⟩
 |s::L,id,t=>by
  obtain⟨t1,aa,ad⟩:=bk.oR (some (s.iL k)) t id;obtain⟨bi,aj,aJ⟩:=aaU k L (id+1) t1;refine⟨bi,λK=>?_,λj e h=>?_⟩;·unfold L7;rw[aa];exact aj K
  ·rcases aJ j e h with⟨a',cq,bh,bW⟩ | ⟨a',bh⟩
   ·refine .inl ⟨Z,cq,?_,bW⟩;rw[show j-id=(j-(id+1))+1 by omega];simpa using bh
   ·rcases ad j e bh with⟨rfl,bW⟩ | ⟨bW,fu⟩
    ·refine .inl ⟨cc _,s,am,?_⟩;cases bW;rfl
    ·refine .inr ⟨?_,fu⟩;simp only[ep];omega
def anc{k:Nat}(dh:∀ id a,D0 id=some a->D (Nat.add id k)=some a){es:List (aq×aq)}{l:List MapEntry}(h:qF D0 es l):qF D (R3 k es) l:=by
 induction h with
 |nil=>exact .nil| cons ae ak t aQ=>exact .cons (E6 dh _ ae) (E6 dh _ ak) aQ
def aaV{k:Nat}:∀ {l:List aq} {i:Nat} {v:aq},(qI k l)[i]?=some v->∃ w1,l[i]?=some w1/\v=jO k w1
 |[],i,v,h=>by simp[qI]at h
 |x::l,0,v,h=>by simp only[qI,List.getElem?_cons_zero,kr]at h;exact⟨x,rfl,h.symm⟩
 |x::l,i+1,v,h=>by simp only[qI,F3]at h;simpa using aaV h
def ane{k:Nat}(dh:∀ id a,D0 id=some a->D (Nat.add id k)=some a)(bc:∀ x∈M,x∈M'){a:Loc}{e:fF}{s:vt}(h:lp D0 E M a e)(af:Il e=some s):lp D E M' a (s.iL k):=by
 cases h with
 | @cells cs T fK arr ax aa ad aj aJ bD=>
  unfold Il at af;obtain⟨l,a',bh,bW⟩:=bk.EH cs fK 0 _ _ af;cases bW;obtain⟨bi,eQ,cZ⟩:=bk.ym (qI k l) (.nil:bk aq) 0;show lp D E M' a (bk.yf (qI k l) .nil 0 λcs=>fF.cells cs T l.length);rw[eQ,a'];refine .cells arr ax (bc _ aa) ad (λi v hi aw=>?_) aJ bD;rcases cZ i v aw with⟨_,h⟩ | ⟨_,h⟩;·obtain⟨w1,aK,rfl⟩:=aaV i5;have:=bh i hi;rw[dn,aK]at this;obtain⟨x,f1,f2⟩:=aj i w1 hi this;exact⟨x,f1,E6 dh _ f2⟩
  ·cases h
 |map l clock aa ad=>cases af;exact .map l clock (bc _ aa) (anc dh ad)| loop L aa ad=>cases af| done L aa ad aj=>cases af
def anf(aL:cU Y.P Y.E)(bw:wZ Y.P)(ih:Y.P.follows .mixedOrders=true){g:Nat}{je:bA}{w1:aq}{L:List vt}(ax:yl ⟨Y.P,Y.E,λ_=>none,λ_ _ _=>none⟩ (ll ⟨Y.P,Y.E,λ_=>none,λ_ _ _=>none⟩ f) g args ⟨.nil,0⟩=some (w1,je))(bZ:readAll je.t 0 je.n=some L)(dp:∀ D us,bO D args us->bO (λ_=>none) args us)(h:R4 w1 L m=some (v,m'))(hu:bO D args us)(hm:dc Y D m I M) :
  Spec Y.P g us I M λr I' M'=>∃ bF,D.ext bF m.n/\aV bF v r/\dc Y bF m' I' M':=by
 have lX:yv ⟨Y.P,Y.E,λ_=>none,λ_ _ _=>none⟩:=λg vs m v m' h=>by cases h
 have tW:dc ⟨Y.P,Y.E,λ_=>none,λ_ _ _=>none⟩ (λ_=>none) ⟨.nil,0⟩ I []:=⟨λid e a h bd=>(by cases bd),λid iM e c2 a bN h aa bd=>(by cases bd),λid a h=>ci,λg cs h=>ci⟩;have av:=(reckon (Y:=⟨Y.P,Y.E,λ_=>none,λ_ _ _=>none⟩) aL bw lX ih ax (dp D us hu) tW).frame (M:=M);refine Spec.jN av ?_;rintro r I' ky⟨M0,rfl,bz,bn,D0,-,ak,tX⟩;unfold R4 at h;rw[Q2,Q2]at h;obtain⟨bi,aa,ad⟩:=aaU m.n L m.n m.t;rw[aa]at h;cases h;obtain⟨a',bh⟩:=aaT bZ;let bF:bR:=λid=>if id<m.n then D id else D0 (id-m.n)
 have dh:∀ id a,D0 id=some a->bF (Nat.add id m.n)=some a:=λid a a7=>by show(if id+m.n<m.n then D (id+m.n)else D0 (id+m.n-m.n))=some a;rw[bS Z,Nat.add_sub_cancel,a7]
 have gf:D.le bF:=λid a a7=>by show(if id<m.n then D id else D0 (id-m.n))=some a;rw[b2 (hm.jL _ _ a7),a7]
 have lo:∀ id,id<m.n->bF id=D id:=λid hi=>b2 hi;have cz:∀ id,m.n<=id->bF id=D0 (id-m.n):=λid hi=>bS Z;have src:∀ id e a,bi.get id=some e->bF id=some a->(m.n<=id/\∃ s eB,e=s.iL m.n/\je.t.get (id-m.n)=some eB/\Il eB=some s/\D0 (id-m.n)=some a)\/(id<m.n/\m.t.get id=some e/\D id=some a):=λid e a he a7=>by
  rcases ad id e he with⟨eQ,s,cZ,hq⟩ | ⟨eQ,cZ⟩;·obtain⟨eB,nA,R5⟩:=bh _ _ cZ;rw[dn]at nA;rw[cz _ eQ]at a7;exact .inl ⟨eQ,s,eB,hq,nA,R5,a7⟩
  ·rcases Nat.lt_or_ge id m.n with a1 | cV
   ·rw[lo _ a1]at a7;exact .inr ⟨a1,cZ,a7⟩
   ·rw[cz _ cV]at a7;have:=tX.jL _ _ a7;omega
 refine⟨bF,λid hi=>lo id hi,E6 dh _ ak,⟨λid e a he a7=>?_,λid iM e c2 a bN he tV a7 sM ag=>?_,λid a a7=>?_,hm.qD.mono bn⟩⟩
 ·rcases src id e a he a7 with⟨eQ,s,eB,rfl,cZ,hq,nA⟩ | ⟨eQ,cZ,hq⟩
  ·exact ane dh (λx ab=>iv _ ab) (tX.iL _ _ _ cZ nA) hq
  ·exact(hm.iL _ _ _ cZ hq).mono gf λx ab _=>r6 _ ab
 ·rcases src id e a he a7 with⟨eQ,s,eB,rfl,cZ,hq,nA⟩ | ⟨eQ,cZ,hq⟩
  ·rcases src iM c2 bN tV sM with⟨R6,cq,ang,rfl,CI,Im,R7⟩ | ⟨R6,CI,Im⟩
   ·have:=tX.inj _ _ _ _ _ _ cZ CI nA R7 ag;omega
   ·obtain⟨x,ab,rP⟩:=tX.ar cZ nA;obtain⟨y,aG,R8⟩:=hm.ar CI Im;exact(bz x ab y aG (rP.trans (ag.trans R8.symm))).elim
  ·rcases src iM c2 bN tV sM with⟨R6,cq,ang,rfl,CI,Im,R7⟩ | ⟨R6,CI,Im⟩
   ·obtain⟨x,ab,rP⟩:=tX.ar CI R7;obtain⟨y,aG,R8⟩:=hm.ar cZ hq;exact(bz x ab y aG (rP.trans (ag.symm.trans R8.symm))).elim
   ·exact hm.inj _ _ _ _ _ _ cZ CI hq Im ag
 ·show id<m.n+L.length;rcases Nat.lt_or_ge id m.n with a1 | cV
  ·omega
  ·rw[cz _ cV]at a7;have:=tX.jL _ _ a7;omega
open Go Go.Proofs
def anh(k:Nat):liesAt Tryz.prog Tryz.prog.depth 341 ((k+1)*2/Tryz.prog.cellsOf 341) 0 341 1=true:=by
 have ad:Tryz.prog.cellsOf 341=2:=by kernel_rfl
 have ai:Tryz.prog.depth=(Tryz.prog.depth-1)+1:=by kernel_rfl
 have gY:sameLayout Tryz.prog Tryz.prog.depth 341 341=true:=by kernel_rfl
 have af:rowAt Tryz.prog (sameLayout Tryz.prog Tryz.prog.depth · 341) Tryz.prog.depth 341 (k+1) 0 1=true:=by
  generalize aE:(sameLayout Tryz.prog Tryz.prog.depth · 341)=f;have wi:f 341=true:=by rw[<-aE];exact gY
  rw[ai];unfold rowAt;simp only[ad,wi];simp
 rw[ad,Nat.mul_div_cancel _ (by decide:0<2)];rw[ai];unfold liesAt;rw[af];rfl
def ani(a9 post:List aA)(b:Nat)(v:Value)(k:Nat)(bm:List Value)(af:bm.length=2*k) :
  Spec Tryz.prog 344 [ptr b] I (a9++⟨b,.cells (.pointer none::v::bm).toArray 341 (0,0)⟩::post) λr I' M'=>r=.tuple #[]/\I'=I/\M'=a9++⟨b,.cells (cd (.pointer none::v::bm) 0 [ptr b]).toArray 341 (0,0)⟩::post:=by
 obtain⟨inf,z,hi,fq,_⟩:=(a0 341 _ rfl).inf;refine bU [] a0 Tryz.func344 rfl rfl rfl ?_;intro B ax;have hm:∀ {o:Obj},(⟨b,o⟩:aA)∈a9++⟨b,o⟩::post:=fun {o}=>c1.2 (.inr (.head _));have dk:(Value.pointer none::v::bm).toArray.size=(k+1)*2:=by simp[af];omega
 have az:liesAt Tryz.prog Tryz.prog.depth 341 ((Value.pointer none::v::bm).toArray.size/Tryz.prog.cellsOf 341) 0 341 1=true:=by rw[dk];exact anh k
 refine aU.mk [.pointer none] (dm (cs:=.pointer none::v::bm) (k:=0) (n:=1) (T:=341) hm am) ?_;refine .other (bC.Kq a0 rfl am rfl rfl rfl rfl ?_);refine aZ.mk (λ_=>?_) (λh=>ci);refine bC.conv rfl am rfl (λw hw=>Lib.run_to_unsafe (t:=341) (e:=341) w ⟨b,0,none⟩ d0 d0 (j:=inf) (cells:=(Value.pointer none::v::bm).toArray.size) hi (by rw[fq];decide) (Ks hw hm) (by rw[dk];show 0<_;omega)) ?_;refine a8.mk (a9++⟨b,.cells (.pointer none::v::bm).toArray 341 (0,0)⟩::post) [] _ am (O0 _) ?_;rintro v I' M' -⟨rfl,rfl,rfl⟩;refine bC.conv rfl am rfl (λw hw=>Lib.run_from_unsafe (u:=341) (e:=341) w ⟨b,0,none⟩ d0 d0 (j:=inf) (cells:=(Value.pointer none::v::bm).toArray.size) hi (Ks hw (c1.2 (.inl hm))) az) ?_;refine b4.mk a9 post _ _ (dK _) rfl (by rw[dk];show 0+0+1<=(k+1)*2;omega) rfl ?_;exact⟨_,_,.refl,rfl,rfl,rfl⟩
def anj(bc:(⟨b,.cells arr T (0,0)⟩:aA)∈M)(ax:arr[0]?=some (ptr b)) :
  Spec Tryz.prog 344 [ptr b] I M λr I' M'=>r=.tuple #[]/\I'=I/\M'=M:=by
 refine bU [] a0 Tryz.func344 rfl rfl rfl ?_;intro B iC;have af:c6 I M ((⟨b,0,none⟩:Addr).add 0) 1 [ptr b]:=by
  obtain⟨l⟩:=arr;cases l with
  |nil=>simp at ax| cons x l=>simp only[A0,List.getElem?_cons_zero,kr]at ax;subst ax;exact dm (cs:=ptr b::l) (k:=0) (n:=1) bc am
 refine aU.mk [ptr b] af ?_;refine .other (bC.Kq a0 rfl am rfl rfl rfl rfl ?_);refine aZ.mk (λh=>ci) (λ_=>?_);refine aU.mk [ptr b] af ?_;refine .other (bC.Wj a0 rfl am rfl rfl rfl rfl rfl ?_);refine aZ.mk (λh=>ci) (λ_=>?_);exact⟨_,_,.refl,rfl,rfl,rfl⟩
def ank{id off:Nat}{cs:bk aq}{fK:Nat}{a:Loc}{a9 post:List aA}(hm:dc Y D m I M)(aw:m.t.get id=some (.cells cs T fK))(a7:D id=some a)(aD:a.o=0)(di:M=a9++⟨a.b,.cells arr T (0,0)⟩::post)(dk:a.o+fK<=arr.size)(ao:∀ i v,i<fK->cs.get i=some v->∃ x,arr[a.o+i]?=some x/\aV D v x)(ae:∀ i,Y.E T=some i->arr.size=a.o+a.c*i.size)(ih:a.c<=maxLen)
  {l:List aq} (az:bO D l vs) {K:bA->Option R} {r:R} (h:yj m (.p id off) l K=some r) :
  ∃ m',K m'=some r/\m'.n=m.n/\off+vs.length<=arr.size/\dc Y D m' I (a9++⟨a.b,.cells (cd arr.toList off vs).toArray T (0,0)⟩::post):=by
 unfold yj at h;simp only[aw]at h;cases ag:(Nat.ble (Nat.add off l.length) fK&&l.all aq.one)with
 |false=>rw[ag]at h;cases h
 |true=>
  rw[ag]at h;simp only[cF]at h;rw[cC]at ag;have Ad:off+l.length<=fK:=bJ ag.1;obtain⟨cs',aa,ad⟩:=bk.ym l cs off;rw[aa]at h;obtain⟨bi,aj,aJ⟩:=bk.oR (some (fF.cells cs' T fK)) m.t id;rw[aj]at h;have cQ:=az.len;have ib:off+vs.length<=arr.size:=by omega
  refine⟨_,h,rfl,ib,?_⟩;have e6:∀ x∈M,x.num≠a.b->x∈a9++⟨a.b,.cells (cd arr.toList off vs).toArray T (0,0)⟩::post:=λx ab aC=>by
   rw[di]at ab;rcases c1.1 ab with ab | ab;·exact c1.2 (.inl ab)
   ·rcases er.1 ab with rfl | ab
    ·exact(aC rfl).elim
    ·exact c1.2 (.inr (nO _ ab))
  refine hm.step (λi e hi=>(aJ i e hi).imp (λq=>⟨q.1,oW q.2⟩) λq=>q) a7 (bR.le_refl D) (λ_ _=>rfl) hm.jL (λ_ _ h=>h) (λi e bN bz hi qH x ab aC=>e6 x ab ?_) ?_ ?_;·rw[aC];exact λag=>bz (hm.inj _ _ _ _ _ _ hi aw qH a7 ag)
  ·have Ae:(cd arr.toList off vs).length=arr.size:=by rw[Rk wt];simp
   refine .cells (cd arr.toList off vs).toArray aD am (by simp[Ae];exact dk) (λi v hi vj=>?_) (λi hi=>by simp[Ae];exact ae i hi) ih;rw[aD,dn];simp only[A0];rw[ZL wt];rcases ad i v vj with⟨a',bh⟩ | ⟨a',bh⟩;·have a1:=(iP.1 bh).1;rw[b2 ⟨a',Z⟩];exact az.get bh
   ·rw[bS Z];have:=ao i v hi bh;rw[aD,dn]at this;simpa using this
  ·intro i e bN bz hi qH ag;exact bz (hm.inj _ _ _ _ _ _ hi aw qH a7 ag)
noncomputable def R9(m:bA)(vs:List aq):Option (aq×bA):=match vs with
 |[.p id 0]=>(match m.t.get id with
  |some (.cells cs T fK)=>bX (Nat.beq T 341&&Nat.ble 2 fK) (match cs.get 0 with
   |some .pn=>yj m (.p id 0) [.p id 0] λm=>some (.t [],m)
   |some (.p iM 0)=>bX (Nat.beq id iM) (some (.t [],m)) none| _=>none) none
  |_=>none)
 |_=>none
def anl(rq:Y.P=Tryz.prog)(anm:Y.E=sw){vs:List aq}(h:R9 m vs=some (v,m'))(hu:bO D vs us)(hm:dc Y D m I M) :
  Spec Y.P 344 us I M λr I' M'=>∃ bF,D.ext bF m.n/\aV bF v r/\dc Y bF m' I' M':=by
 unfold R9 at h;split at h
 ·rename_i id;obtain⟨x,xs,ab,aC,rfl⟩:=hu.kj;obtain rfl:=aC.nM;obtain⟨a,a7,rfl⟩:=ab.ptr;split at h
  ·rename_i cs T fK aw;obtain⟨aa,aO⟩:=fV h;clear h;rw[cC]at aa;obtain⟨a6,Ad⟩:=aa;obtain rfl:=ea a6;have Ad:=bJ Ad;obtain⟨arr,aD,bc,az,ao,ae,ih⟩:=hm.iL _ _ _ aw a7;have dk:=ae _ (by rw[anm];rfl);have dk:arr.size=a.c*2:=by rw[dk,aD,dn]
   have aI:Value.pointer (some ⟨a.b,a.o+0,none⟩)=ptr a.b:=by rw[aD];rfl
   split at aO
   ·rename_i wq;obtain⟨wh,gd,Io⟩:=ao 0 _ Z wq;obtain⟨a9,post,di⟩:=vf bc;obtain⟨cW,ad,aj,aJ,bD⟩:=ank hm aw a7 aD di az ao ae ih (l:=[.p id 0]) (vs:=[ptr a.b]) (by simp only[bO,aV];exact⟨_,_,⟨a,a7,aI.symm⟩,rfl,rfl⟩) aO;cases ad;rw[aI,rq,di];obtain⟨l⟩:=arr;have ann:wh=.pointer none:=by simpa only[aV]using Io
    rw[aD]at gd
    match l,gd,dk with
    |[],gd,_=>simp at gd| [_],_,dk=>simp at dk;omega
    |y::w::bm,gd,dk=>
     have aG:y=.pointer none:=by simpa[ann]using gd
     subst aG;have eD:bm.length=2*(a.c-1):=by simp at dk;omega
     refine Spec.jN (ani a9 post a.b w (a.c-1) bm eD) ?_;rintro r I' M'⟨rfl,rfl,rfl⟩;exact⟨D,bR.oY,ar',bD⟩
   ·rename_i iM wq;obtain⟨ad,zO⟩:=fV aO;obtain rfl:=ea ad;cases zO;obtain⟨wh,gd,Io⟩:=ao 0 _ Z wq;obtain⟨bN,sM,rfl⟩:=Io.ptr;rw[a7]at sM;cases sM;rw[aI]at gd |-;rw[rq];refine Spec.jN (anj bc (by rw[<-gd,aD])) ?_;rintro r I' M'⟨rfl,rfl,rfl⟩;exact⟨D,bR.oY,ar',hm⟩
   ·cases aO
  ·cases h
 ·cases h
def jg(I:aH):List aA->aH
 |[]=>I| x::l=>ins (jg I l) x.num x.obj
def L8{I:aH}:∀ {M:List aA} {b:Nat} {o:Obj},jg I M b=some o->I b=some o\/∃ x∈M,x.num=b/\x.obj=o
 |[],b,o,h=>.inl h
 |x::l,b,o,h=>by
  unfold jg ins at h;by_cases e:b=x.num;·subst e;simp only[ta,cF,kr]at h;exact .inr ⟨x,am,rfl,h⟩
  ·simp only[hF e,cD]at h;rcases L8 h with h | ⟨y,aa,ad,aj⟩
   ·exact .inl h
   ·exact .inr ⟨y,WP,ad,aj⟩
def aaW{I:aH}:∀ {M:List aA} (aC:(M.map (·.num)).Nodup) {x:aA},x∈M->jg I M x.num=some x.obj
 |y::l,aC,x,h=>by
  simp only[b0,lG]at aC;rcases er.1 h with rfl | h;·unfold jg ins;simp only[ta,cF]
  ·have e:x.num≠y.num:=λe=>aC.1 (c3.2 ⟨x,h,e⟩);unfold jg ins;simp only[hF e,cD];exact aaW aC.2 h
def R'{I:aH}:∀ {M:List aA} (ai:∀ x∈M,I x.num=none) {b:Nat} {o:Obj},I b=some o->jg I M b=some o
 |[],ai,b,o,h=>h
 |y::l,ai,b,o,h=>by
  have e:b≠y.num:=λe=>by have:=ai y am;rw[<-e,h]at this;cases this
  unfold jg ins;simp only[hF e,cD];exact R' (λx ab=>ai x f9) h
def ano(aC:(M.map (·.num)).Nodup)(ai:∀ x∈M,I x.num=none)(h:h4 I M b o):jg I M b=some o:=by
 rcases h with h | ⟨x,aa,rfl,rfl⟩
 ·exact R' ai h
 ·exact aaW aC aa
structure tY(I:aH)(M:List aA)(J:aH):Prop where
 aF:∀ b o,h4 I M b o->J b=some o
 inv:∀ b o,J b=some o->h4 I M b o
def tY.le(h:tY I M J):∀ b o,I b=some o->J b=some o:=λb o ag=>h.aF b o (.inl ag)
def aaX(aa:eJ I' M' w')(ad:Kept I [] w I' M' w'):tY I' M' (jg I' M')/\eJ (jg I' M') [] w'/\Kept I [] w (jg I' M') [] w':=by
 refine⟨⟨λb o h=>ano aa.cu aa.d h,λb o h=>?_⟩,⟨λb o h=>?_,am,am,am⟩,⟨λb o h=>R' aa.d (ad.le _ _ h),λb o h=>?_,am,ad.dI,ad.out,ad.sz⟩⟩
 ·rcases L8 h with h | ⟨x,a',bh,bW⟩
  ·exact .inl h
  ·exact .inr ⟨x,a',bh,bW⟩
 ·rcases L8 h with h | ⟨x,a',rfl,rfl⟩
  ·exact aa.i _ _ h
  ·exact aa.m _ a'
 ·rcases L8 h with h | ⟨x,a',rfl,rfl⟩
  ·exact ad.uz _ _ h
  ·rcases ad.vU _ a' with⟨y,aG,_⟩ | h
   ·cases aG
   ·exact .inr h
def Spec.jg{args:List Value}(h:Spec P f args I [] Q):Spec P f args I [] λr J ky=>ky=[]/\(∀ b o,I b=some o->J b=some o)/\∃ I' M',Q r I' M'/\tY I' M' J:=by
 rcases h with⟨aa,ad⟩ | h
 ·refine .inl ⟨aa,λw hw=>?_⟩;refine(ad w hw).mono ?_;rintro e w'⟨v,I',M',aK,ba,cA,ee⟩;obtain⟨a',bh,bW⟩:=aaX cA ee;exact⟨v,_,[],aK,⟨rfl,bW.le,I',M',ba,a'⟩,bh,bW⟩
 ·refine .inr λw hw=>?_;obtain⟨v,w',I',M',aK,ba,cA,ee⟩:=h w hw;obtain⟨a',bh,bW⟩:=aaX cA ee;exact⟨v,w',_,[],aK,⟨rfl,bW.le,I',M',ba,a'⟩,bh,bW⟩
noncomputable def CJ{α:Type}(l:List α):bk α:=bk.yf l .nil 0 id
def aaY{l:List α}{i:Nat}{v:α}(h:(CJ l).get i=some v):l[i]?=some v:=by
 obtain⟨t,aa,ad⟩:=bk.ym l (.nil:bk α) 0;unfold CJ at h;rw[aa]at h;rcases ad _ _ h with⟨_,h⟩ | ⟨_,h⟩
 ·simpa using h
 ·cases h
noncomputable def Ip:GT:=λg=>bX (Nat.beq g 0) (some (CJ (jq.map (aq.i .i64)))) (bX (Nat.beq g 1) (some (CJ (uW.map aq.s))) (bX (Nat.beq g 2) (some (CJ [.i .i64 0,.i .i64 1,.s [63],.i .i64 0,.i .i64 (-1),.s [42],.i .i64 1,.i .i64 (-1),.s [43]])) (bX (Nat.beq g 4) (some (CJ (fw.map (aq.i .u8)))) none)))
def Sa{f:α->aq}{h:α->Value}(aE:∀ x D,aV D (f x) (h x)){l:List α}{i:Nat}(ak:(CJ (l.map f)).get i=some v):∃ x,(l.map h).toArray[i]?=some x/\∀ D,aV D v x:=by
 have:=aaY ak;rw[jJ]at this;cases ab:l[i]? with
 |none=>rw[ab]at this;cases this| some x=>rw[ab]at this;simp only[kW,kr]at this;subst this;exact⟨h x,f9,aE x⟩
def anp(a6:en I fw):HR Ip I:=by
 intro g cs h;unfold Ip at h;rw[ki,ki,ki,ki]at h;cases aa:Nat.beq g 0 with
 |true=>rw[aa,cF]at h;obtain rfl:=ea aa;have h:=e1 h;subst h;obtain⟨T,f,h⟩:=a6.c;exact⟨_,T,f,h,λi v ak=>Sa (f:=aq.i .i64) (h:=Value.int .i64) (λx D=>io) ak⟩
 |false=>
 rw[aa,cD]at h;cases ad:Nat.beq g 1 with
 |true=>rw[ad,cF]at h;obtain rfl:=ea ad;have h:=e1 h;subst h;obtain⟨T,f,h⟩:=a6.s;exact⟨_,T,f,h,λi v ak=>Sa (f:=aq.s) (h:=λl=>Value.string (strOf l)) (λx D=>by simp only[aV,strOf]) ak⟩
 |false=>
 rw[ad,cD]at h;cases aj:Nat.beq g 2 with
 |true=>
  rw[aj,cF]at h;obtain rfl:=ea aj;have h:=e1 h;subst h;obtain⟨T,f,h⟩:=a6.p;refine⟨_,T,f,h,λi v ak=>?_⟩;have ak:=aaY ak;rcases i with _ | _ | _ | _ | _ | _ | _ | _ | _ | i
  all_goals first | (cases ak;exact⟨_,rfl,λD=>by simp only[aV]<;>rfl⟩) | (simp at ak)
 |false=>
 rw[aj,cD]at h;cases aJ:Nat.beq g 4 with
 |true=>rw[aJ,cF]at h;obtain rfl:=ea aJ;have h:=e1 h;subst h;obtain⟨_,_,T,f,h⟩:=a6.d;exact⟨_,T,f,h,λi v ak=>Sa (f:=aq.i .u8) (h:=Value.int .u8) (λx D=>io) ak⟩
 |false=>
 rw[aJ,cD]at h;cases h
noncomputable def L9:List UInt8->Nat->Nat->Int
 |[],_,_=>-1| b::l,c,k=>bX (Nat.beq b.toNat c) (Int.ofNat k) (L9 l c (Nat.succ k))
def aaZ(c:UInt8):∀ (l:List UInt8) (k:Nat),L9 l c.toNat k=if Lib.indexByte l c=-1 then -1 else Lib.indexByte l c+k
 |[],k=>rfl
 |b::l,k=>by
  have cV:=Lib.indexByte_ge l c;unfold L9 Lib.indexByte;rw[ki];by_cases h:b=c;·subst h;simp
  ·have aa:Nat.beq b.toNat c.toNat=false:=by
    cases ag:Nat.beq b.toNat c.toNat with
    |false=>rfl| true=>exact absurd (UInt8.toNat_inj.1 (ea ag)) h
   have ad:(b == c)=false:=by simpa using h
   rw[aa,cD,ad,aaZ c l];simp only[lE,mB];by_cases aj:Lib.indexByte l c=-1;·simp[aj]
   ·have aJ:(Lib.indexByte l c == -1)=false:=by simpa using aj
    rw[aJ,bS aj];simp only[lE,mB];rw[bS Z];omega
def aa0:wZ Tryz.prog:=amJ d0
def aa1:Tryz.prog.follows .mixedOrders=true:=by kernel_rfl
noncomputable def aa2:gH:=⟨Tryz.prog,sw,λ_=>none,λ_ _ _=>none⟩
noncomputable def aa3:List vt:=[.map [(.i .u8 123,.f 366 [] []),(.i .u8 34,.f 367 [] []),(.i .u8 91,.f 368 [] []),(.i .u8 46,.f 369 [] []),(.i .u8 47,.f 388 [] [.p 1 0]),(.i .u8 38,.f 388 [] [.p 2 0]),(.i .u8 33,.f 388 [] [.p 3 0]),(.i .u8 63,.f 388 [] [.p 4 0]),(.i .u8 42,.f 388 [] [.p 5 0]),(.i .u8 43,.f 388 [] [.p 6 0]),(.i .u8 40,.f 388 [] [.p 7 0]),(.i .u8 41,.f 388 [] [.p 8 0]),(.i .u8 60,.f 371 [] []),(.i .u8 62,.f 388 [] [.p 10 0]),(.i .u8 58,.f 388 [] [.p 11 0]),(.i .u8 65,.f 372 [] []),(.i .u8 66,.f 372 [] []),(.i .u8 67,.f 372 [] []),(.i .u8 68,.f 372 [] []),(.i .u8 69,.f 372 [] []),(.i .u8 70,.f 372 [] []),(.i .u8 71,.f 372 [] []),(.i .u8 72,.f 372 [] []),(.i .u8 73,.f 372 [] []),(.i .u8 74,.f 372 [] []),(.i .u8 75,.f 372 [] []),(.i .u8 76,.f 372 [] []),(.i .u8 77,.f 372 [] []),(.i .u8 78,.f 372 [] []),(.i .u8 79,.f 372 [] []),(.i .u8 80,.f 372 [] []),(.i .u8 81,.f 372 [] []),(.i .u8 82,.f 372 [] []),(.i .u8 83,.f 372 [] []),(.i .u8 84,.f 372 [] []),(.i .u8 85,.f 372 [] []),(.i .u8 86,.f 372 [] []),(.i .u8 87,.f 372 [] []),(.i .u8 88,.f 372 [] []),(.i .u8 89,.f 372 [] []),(.i .u8 90,.f 372 [] []),(.i .u8 95,.f 372 [] []),(.i .u8 97,.f 372 [] []),(.i .u8 98,.f 372 [] []),(.i .u8 99,.f 372 [] []),(.i .u8 100,.f 372 [] []),(.i .u8 101,.f 372 [] []),(.i .u8 102,.f 372 [] []),(.i .u8 103,.f 372 [] []),(.i .u8 104,.f 372 [] []),(.i .u8 105,.f 372 [] []),(.i .u8 106,.f 372 [] []),(.i .u8 107,.f 372 [] []),(.i .u8 108,.f 372 [] []),(.i .u8 109,.f 372 [] []),(.i .u8 110,.f 372 [] []),(.i .u8 111,.f 372 [] []),(.i .u8 112,.f 372 [] []),(.i .u8 113,.f 372 [] []),(.i .u8 114,.f 372 [] []),(.i .u8 115,.f 372 [] []),(.i .u8 116,.f 372 [] []),(.i .u8 117,.f 372 [] []),(.i .u8 118,.f 372 [] []),(.i .u8 119,.f 372 [] []),(.i .u8 120,.f 372 [] []),(.i .u8 121,.f 372 [] []),(.i .u8 122,.f 372 [] [])],.cells [.i .u8 3] 5,.cells [.i .u8 4] 5,.cells [.i .u8 5] 5,.cells [.i .u8 6] 5,.cells [.i .u8 7] 5,.cells [.i .u8 8] 5,.cells [.i .u8 9] 5,.cells [.i .u8 10] 5,.cells [.i .u8 11] 5,.cells [.i .u8 12] 5,.cells [.i .u8 13] 5]
def anq:(bu (yl aa2 (ll aa2 100000) 346 [] ⟨.nil,0⟩) none λp=>bu (readAll p.2.t 0 p.2.n) none λL=>some (p.1,L))=some (aq.m 0,aa3):=by kernel_rfl
noncomputable def Sb:lV:=λg vs m=>bX (Nat.beq g 407) (match vs with
 |[.s l,.i .u8 (.ofNat k)]=>bX (Nat.blt k 256) (some (.i .i64 (L9 l k 0),m)) none| _=>none) (bX (Nat.beq g 365) (match vs with
 |[v]=>some (v,m)| _=>none) (bX (Nat.beq g 346) (match vs with
 |[]=>R4 (.m 0) aa3 m| _=>none) (bX (Nat.beq g 344) (R9 m vs) none)))
noncomputable def vu:gH:=⟨Tryz.prog,sw,Ip,Sb⟩
def anr:yv vu:=by
 intro g vs m v m' h D I M us hu hm;change Sb g vs m=some (v,m')at h;unfold Sb at h;rw[ki]at h;cases aa:Nat.beq g 407 with
 |true=>
  rw[aa,cF]at h;obtain rfl:=ea aa;split at h
  ·rename_i l k;rw[ki]at h;cases ae:Nat.blt k 256 with
   |false=>rw[ae]at h;cases h
   |true=>
    rw[ae,cF]at h;have hA:k<256:=Nat.blt_eq ▸ ae;cases h;simp only[bO,aV]at hu;obtain⟨x,xs,rfl,⟨y,ys,rfl,rfl,rfl⟩,rfl⟩:=hu;have pN:(UInt8.ofNat k).toNat=k:=by simp;omega
    have:=Wl (I:=I) (M:=M) ⟨l.toArray⟩ (UInt8.ofNat k);rw[pN]at this;refine Spec.jN this ?_;rintro r I' M'⟨rfl,rfl,rfl⟩;refine⟨D,bR.oY,?_,hm⟩;simp only[aV];have:=aaZ (UInt8.ofNat k) l 0;rw[pN]at this;rw[this];split;·rename_i e;simp[e]
    ·simp
  ·cases h
 |false=>
 rw[aa,cD,ki]at h;cases ad:Nat.beq g 365 with
 |true=>
  rw[ad,cF]at h;obtain rfl:=ea ad;split at h;·cases h;simp only[bO]at hu;obtain⟨x,xs,hu,rfl,rfl⟩:=hu;refine Spec.jN (O0 _) ?_;rintro r I' M'⟨rfl,rfl,rfl⟩;exact⟨D,bR.oY,hu,hm⟩
  ·cases h
 |false=>
 rw[ad,cD,ki]at h;cases aj:Nat.beq g 346 with
 |true=>
  rw[aj,cF]at h;obtain rfl:=ea aj;split at h;·obtain⟨⟨w1,je⟩,aJ,bD⟩:=ct anq;obtain⟨L,cG,eZ⟩:=ct bD;cases eZ;exact anf (Y:=vu) a0 aa0 aa1 aJ cG (λD us h=>by simpa only[bO]using h) h hu hm
  ·cases h
 |false=>
 rw[aj,cD,ki]at h;cases aJ:Nat.beq g 344 with
 |true=>rw[aJ,cF]at h;obtain rfl:=ea aJ;exact anl rfl rfl h hu hm
 |false=>
 rw[aJ,cD]at h;cases h
def aa4(a6:en I fw){g:Nat}(h:yl vu (ll vu f) g args ⟨.nil,0⟩=some (v,m'))(hu:bO (λ_=>none) args us) :
  Spec Tryz.prog g us I [] λr J ky=>ky=[]/\(∀ b o,I b=some o->J b=some o)/\∃ I' M' bF,aV bF v r/\dc vu bF m' I' M'/\tY I' M' J:=by
 have hm:dc vu (λ_=>none) ⟨.nil,0⟩ I []:=⟨λid e a h bd=>(by cases bd),λid iM e c2 a bN h aa bd=>(by cases bd),λid a h=>ci,anp a6⟩;refine Spec.jN (reckon (Y:=vu) a0 aa0 anr aa1 h hu hm).jg ?_;rintro r J ky⟨rfl,aa,I',M',⟨bF,-,ad,aj⟩,aJ⟩;exact⟨rfl,aa,I',M',bF,ad,aj,aJ⟩
def ans:∀ {l:List Int} (h:0<l.length),l.headD 0=l[0]
 |a::l,_=>rfl
def od(ns:List al)(xs:List aX):Bool:=ns.any λd=>decide (d.k=6)&&(decide (d.hi=-1)&&(xs.getD (d.ap.headD 0).toNat cg).z)
def ant(p:α->Bool)(l:List α)(x:α):(l++[x]).any p=(l.any p||p x):=by simp
def anu{p:α->Bool}{l:List α}{i:Nat}(h:(l.take i).any p=true):l.any p=true:=by rw[E5]at h |-;obtain⟨x,ab,aI⟩:=h;exact⟨x,uU ab,aI⟩
def anv(au:t.ok I)(af:right t=true){xa:Option Addr}{xc:Nat}{xs:List aX}(ab:lT I M0 xa t.n xs):Spec Tryz.prog 266 [t.val,.slice xa t.n xc] I M0 λv I' M'=>v=.bool (od t.ns xs)/\I'=I/\M'=M0:=by
 refine bU [] a0 Tryz.func266 rfl rfl rfl ?_;intro B ax;have g7:=au.n;have hk:=au.bb.cap;have rP:=ab.n;refine du.inv (ι:=Nat) (λi=>{ bp:=[(1,.val (.slice xa t.n xc)),(8,.val (.slice t.a t.n t.c)),(9,.val (.int .i64 t.n)),(10,.val (.int .i64 i))],cO:=I,c5:=M0 }) (λi=>i<=t.n/\(t.ns.take i).any (λd=>decide (d.k=6)&&(decide (d.hi=-1)&&(xs.getD (d.ap.headD 0).toNat cg).z))=false) (λi=>t.n-i) ?_ ?_
 ·exact⟨0,⟨dQ _,rfl⟩,.refl,dM,.nil⟩
 rintro i⟨hi,ed⟩;refine aZ.mk (λh=>?_) (λh=>?_)
 rotate_left
 ·have cV:i=t.n:=by have:¬ (i:Int)<(t.n:Int):=dU h;omega
  rw[fD Z]at ed;refine⟨_,_,.refl,?_,rfl,rfl⟩;rw[od,ed]
 have a1:i<t.n:=by have:(i:Int)<(t.n:Int):=cT h;omega
 have cI:i<t.ns.length:=by omega
 obtain⟨aR,bI,bo⟩:=au.bb.row al.cL a1 cI;have ai:=au.ns _ (bK cI);have tH:=DG af cI;have hJ:=lb af i cI;have fh:=ai.aF;have lr:(t.ns.take (i+1)).any (λd=>decide (d.k=6)&&(decide (d.hi=-1)&&(xs.getD (d.ap.headD 0).toNat cg).z))=(decide (t.ns[i].k=6)&&(decide (t.ns[i].hi=-1)&&(xs.getD (t.ns[i].ap.headD 0).toNat cg).z)):=by rw[gk cI,ant,ed,yY]
 generalize t.ns[i]=d at bo ai tH hJ fh lr;refine bt.mk aR i bI rfl a1 ?_;refine aU.mk _ (bo _) ?_;refine b5.mk (λcG=>?_) (λcG=>?_)
 rotate_left
 ·have L':decide (d.k=6)=false:=cG;rw[L']at lr;refine be.mk _ (c9 (i:=i) Z) ?_;exact⟨i+1,⟨⟨a1,lr⟩,Z⟩,.refl,dM,.nil⟩
 have L':decide (d.k=6)=true:=cG;have axv:d.k=6:=cT L';rw[L',nY]at lr;refine b5.mk (λaa=>?_) (λaa=>?_)
 rotate_left
 ·have wx:decide (d.hi=-1)=false:=aa;rw[wx]at lr;refine be.mk _ (c9 (i:=i) Z) ?_;exact⟨i+1,⟨⟨a1,lr⟩,Z⟩,.refl,dM,.nil⟩
 have wx:decide (d.hi=-1)=true:=aa;rw[wx,nY]at lr;have la:0<d.ap.length:=by have:=XF ai.k.1 tH Z;omega
 obtain⟨gn,fk,fc⟩:=ai.bb.one (j:=0) Z la;have ak:=hJ _ (bK la);have dg:d.ap.headD 0=d.ap[0]:=ans la;rw[dg]at lr;have iH:d.ap[0].toNat<xs.length:=by omega
 obtain⟨Sc,Sd,m7⟩:=ab.rd _ iH;have aw:xs.getD d.ap[0].toNat cg=xs[d.ap[0].toNat]:=by simp[bT,iH]
 rw[aw]at lr;refine bt.mk gn 0 fk rfl Z ?_;refine aU.mk _ (fc _) ?_;refine bt.mk Sc d.ap[0].toNat Sd Z Z ?_;refine aU.mk _ (m7.part (k:=0) (m:=1) bv) ?_;refine aZ.mk (λbg=>?_) (λbg=>?_)
 ·have gL:xs[d.ap[0].toNat].z=true:=bg;refine⟨_,_,.refl,?_,rfl,rfl⟩;rw[od,anu (i:=i+1) (by rw[lr,gL])]
 ·have gL:xs[d.ap[0].toNat].z=false:=bg;rw[gL]at lr;refine be.mk _ (c9 (i:=i) Z) ?_;exact⟨i+1,⟨⟨a1,lr⟩,Z⟩,.refl,dM,.nil⟩
def ec.mark(s:ec)(i k:Nat):ec:=⟨s.n,s.m.set i (s.m.getD i 0 ||| lh k),s.w⟩
def kl(b:Nat)(s:ec):aA:=⟨b,.cells s.cells.toArray 215 (0,0)⟩
def ec.cL(s:ec):s.cells.length=66:=by simp[ec.cells,tU]
def anw(bc:kl b s∈M){j:Nat}(ah:j<64):c6 I M (((⟨b,0,none⟩:Addr).add 1).add (j*1)) 1 [oT (s.m.getD j 0)]:=by rw[eM (⟨b,0,none⟩:Addr) rfl,eM _ rfl];refine⟨rfl,_,_,_,.inr ⟨_,bc,rfl,rfl⟩,?_,rfl⟩;simp only[dn,gM];show(s.cells.drop (1+j)).take 1=_;rw[ec.cells,JL 1 j,Hl,PQ (by rw[tU];omega),e2 (by rw[tU];exact ah),pz,rf,qi];simp[kR]
def anx(av:s.m.length=64){i k:Nat}(hi:i<64):cd s.cells (0+1+i*1) [oT (s.m.getD i 0 ||| lh k)]=(s.mark i k).cells:=by
 unfold ec.cells ec.mark;simp only;have aK:cd (Value.int .i64 s.n::(kR s.m++[oT s.w])) (0+1+i*1) [oT (s.m.getD i 0 ||| lh k)]=Value.int .i64 s.n::(cd (kR s.m) (0+i*1) [oT (s.m.getD i 0 ||| lh k)]++[oT s.w]):=by have h:=Zo [Value.int .i64 s.n] (kR s.m) [oT s.w] i [oT (s.m.getD i 0 ||| lh k)] (by rw[tU];show i+1<=64;omega);simp only[oV,qy,ep,hj,dn,gM]at h |-;exact h
 rw[aK,Zy s.m av i hi]
def b4.anz{x y:Nat}{K:List aA->Prop}(a9 post:List aA)(cs:List Value)(T:Nat)(bc:M=a9++⟨b,.cells cs.toArray T (0,0)⟩::post)(ag:0+x+y+vs.length<=cs.length)(aa:fH vs=true)
  (cs':List Value) (he:cd cs (0+x+y) vs=cs') (h:K (a9++⟨b,.cells cs'.toArray T (0,0)⟩::post)):b4 M (((⟨b,0,none⟩:Addr).add x).add y) vs K:=by
 rw[eM (⟨b,0,none⟩:Addr) rfl,eM _ rfl];exact b4.rF a9 post cs.toArray T bc rfl (by rw[mT];simpa using ag) aa cs' he h
def anA{M1:List aA}(aw:g.ok I){nm:ByteArray}{k:Nat}(ae:eO nm g.ds 0=k)(Se:k<64){b1 b6 b7 i:Nat}(hi:i<64)(av:s.m.length=64)(aa:(⟨b1,.cells #[.slice g.a g.n g.c] 28 (0,0)⟩:aA)∈M1)(eZ:(⟨b7,.cells #[.int .i64 i] 3 (0,0)⟩:aA)∈M1) :
  Spec Tryz.prog 265 [.string nm,ptr b1,ptr b6,ptr b7] I (kl b6 s::M1) λv I' M'=>I'=I/\M'=kl b6 (s.mark i k)::M1:=by
 refine bU [] a0 Tryz.func265 rfl rfl rfl ?_;intro B ax;refine aU.mk [.slice g.a g.n g.c] ⟨rfl,_,_,_,.inr ⟨_,.tail _ aa,rfl,rfl⟩,rfl,rfl⟩ ?_;have aE:Spec Tryz.prog 111 [g.val,.string nm] I (kl b6 s::M1) λv I' M'=>v=.int .i64 k/\I'=I/\M'=kl b6 s::M1:=by refine Spec.jN (Spec.frame (aiP aw nm)) ?_;rintro v J M⟨M',rfl,-,-,rfl,rfl,rfl⟩;rw[ae];exact⟨rfl,rfl,rfl⟩
 refine a8.whole _ aE ?_;rintro v J N -⟨rfl,a4,gJ⟩;subst J;subst N;refine aZ.mk (λ_=>?_) (λh=>?_)
 rotate_left
 ·have:¬ (0:Int)<=(k:Int):=dU h;omega
 refine cY.draw a0 rfl rfl rfl ?_;refine aU.mk [.int .i64 i] ⟨rfl,_,_,_,.inr ⟨_,.tail _ eZ,rfl,rfl⟩,rfl,rfl⟩ ?_;refine cw.mk i rfl hi ?_;refine aU.mk _ (anw (.head _) hi) ?_;refine sc.mk k rfl ?_;refine be.mk _ (Q9 Se) ?_;refine cw.mk i rfl hi ?_;refine b4.anz [] M1 s.cells _ rfl ?_ rfl (s.mark i k).cells ?_ ?_
 ·rw[ec.cL];show 0+1+i*1+1<=66;omega
 ·show cd s.cells (0+1+i*1) [Value.int .u64 (kQ (s.m.getD i 0).toNat (lh k).toNat)]=_;rw[tT];exact anx av hi
 exact⟨_,_,.refl,rfl,rfl⟩
section
end
structure anB(d:al)(n:Int):Prop where
 z:d.k=0->d.t=⟨#[]⟩
 leaf:d.k<=3->n=0
 one:6<=d.k->n=1
 two:d.k=4\/d.k=5->2<=n
theorem aa5{d:al}{n:Int}(ax:0<=d.k)(h:fits d n=true):anB d n:=by
 have av:=(Pb h).k;have ae:d.k=0\/d.k=1\/d.k=2\/d.k=3\/d.k=4\/d.k=5\/d.k=6\/d.k=7\/d.k=8\/d.k=9:=by omega
 have dp:∀ j:Fin 10,oE j.val=jq.getD (j.val*2) 0/\nw j.val=jq.getD (j.val*2+1) 0:=by decide
 unfold fits at h;rcases ae with e | e | e | e | e | e | e | e | e | e<;>rw[e]at h<;>simp[oE,nw,jq]at h <;>
  refine⟨λq=>?_,λq=>?_,λq=>?_,λq=>?_⟩<;>first | (omega;done) | (exact h.2.2.1;done) | (exact h.2.1;done) | (simp_all;done)
def aa6(nm:ByteArray):∀ (ds:List a3) (i:Nat),eO nm ds i=bif decide (eO nm ds 0<0)then -1 else eO nm ds 0+i
 |[],i=>rfl
 |d::ds,i=>by
  unfold eO;cases h:decide (d.name=nm)with
  |true=>
   have:decide ((((0:Nat):Int))<0)=false:=by decide
   simp[this]
  |false=>
   rw[cD,cD,aa6 nm ds (i+1),aa6 nm ds (0+1)];have af:eO nm ds 0<0\/0<=eO nm ds 0:=by omega
   rcases af with af | af;·rw[gy af];rfl
   ·have e:decide (eO nm ds 0<0)=false:=e8 Z;rw[e,cD,cD];have ba:decide (eO nm ds 0+((0+1:Nat):Int)<0)=false:=e8 Z;rw[ba,cD];omega
def aa7(nm:ByteArray)(av ch:List a3):eO nm (av++ch) 0=bif decide (eO nm av 0<0)then eO nm ch av.length else eO nm av 0:=by
 have key:∀ (av:List a3) (i:Nat),eO nm (av++ch) i=bif decide (eO nm av i<0)then eO nm ch (i+av.length)else eO nm av i:=by
  intro av
  induction av with
  |nil=>intro i;simp[eO]
  |cons d av aQ=>
   intro i;rw[pz,eO,eO];cases decide (d.name=nm)with
   |true=>have:decide ((i:Int)<0)=false:=e8 Z;rw[cF,cF,this,cD]| false=>rw[cD,cD,aQ (i+1),ep];rw[show i+1+av.length=i+(av.length+1)from by omega]
 have:=key av 0;rwa [dn]at this
structure E7(av:List a3)(a5:List (ByteArray×Int)):Prop where
 look:∀ nm,(eP nm a5).isSome=decide (0<=eO nm av 0)
def aa8(nm:ByteArray)(p:ByteArray×Int):∀ a5:List (ByteArray×Int),(eP nm (a5++[p])).isSome=((eP nm a5).isSome||decide (nm=p.1))
 |[]=>by
  show(bif decide (nm=p.1)then some p.2 else none:Option Int).isSome=_;cases decide (nm=p.1)<;>rfl
 |q::a5=>by
  rw[pz,eP,eP];cases decide (nm=q.1)with
  |true=>rfl| false=>rw[cD,cD,aa8 nm p a5]
def E7.snoc{av:List a3}{a5:List (ByteArray×Int)}(h:E7 av a5)(d:a3)(v:Int):E7 (av++[d]) (a5++[(d.name,v)]):=by
 refine⟨λnm=>?_⟩;rw[aa8,h.look,aa7];by_cases af:eO nm av 0<0
 ·rw[gy af,cF,e8 (by omega:¬ 0<=eO nm av 0),yY];unfold eO;have:decide (d.name=nm)=decide (nm=d.name):=decide_eq_decide.2 ⟨Eq.symm,Eq.symm⟩;rw[this];cases decide (nm=d.name)with
  |true=>simp| false=>rw[cD];rfl
 ·rw[e8 af,cD,gy (by omega:0<=eO nm av 0),Bool.true_or]
def pT(ds:List a3)(i:Nat):Bool:=match ds[i]? with
 |some d=>decide (eO d.name ds 0=i)| none=>true
def anC(d:a3)(ch:List a3)(i:Nat):eO d.name (d::ch) i=i:=by rw[eO,gy rfl];rfl
def anD(ch:List a3):∀ (av:List a3) (a5:List (ByteArray×Int)),E7 av a5->(∀ i,i<av.length->pT (av++ch) i=true) ->
  match lR a5 av.length ch with
  |none=>∃ i,i<(av++ch).length/\pT (av++ch) i=false/\∀ k,k<i->pT (av++ch) k=true| some r=>E7 (av++ch) r/\∀ i,i<(av++ch).length->pT (av++ch) i=true:=by
 induction ch with
 |nil=>intro av a5 h aE;rw[dK]at *;exact⟨h,aE⟩
 |cons d ch aQ=>
  intro av a5 h aE;have eS:(av++d::ch)[av.length]?=some d:=by simp
  have sf:pT (av++d::ch) av.length=!(eP d.name a5).isSome:=by
   unfold pT;rw[eS,h.look];simp only;rw[aa7];by_cases af:eO d.name av 0<0;·rw[gy af,cF,anC];simp;omega
   ·rw[e8 af,cD];have a1:eO d.name av 0<av.length:=by
     have:∀ (av:List a3) (i:Nat),0<=eO d.name av i->eO d.name av i<i+av.length:=by
      intro av
      induction av with
      |nil=>intro i h;simp[eO]at h
      |cons e av Sf=>
       intro i h;unfold eO at h |-;cases ao:decide (e.name=d.name)with
       |true=>simp;omega| false=>rw[ao,cD]at h;rw[cD];have:=Sf (i+1) h;simp;omega
     have:=this av 0 Z;omega
    have aK:decide (eO d.name av 0=(av.length:Int))=false:=e8 Z;have ba:decide (0<=eO d.name av 0)=true:=gy Z;rw[aK,ba];rfl
  rw[lR];cases az:(eP d.name a5).isSome with
  |true=>rw[az]at sf;exact⟨av.length,am,sf,aE⟩
  |false=>
   rw[az]at sf;have:=aQ (av++[d]) (a5++[(d.name,(av.length:Int))]) (h.snoc d _) (λi hi=>by
    rw[dW];simp at hi;rcases Nat.lt_or_eq_of_le (Nat.lt_succ_iff.1 (by omega:i<av.length+1))with aa | aa;·exact aE i aa
    ·rw[aa];exact sf)
   rw[cn,dW]at this;exact this
def anE:E7 [] []:=⟨λnm=>by simp[eP,eO]⟩
def yx(ds:List a3)(n:al):Bool:=!decide (n.k=3)||decide (0<=eO n.t ds 0)
def aa9(p:al->Bool):∀ (ds:List a3) (i:Nat),((qx i ds).all λx=>p x.2)=ds.all λd=>d.t.ns.all p
 |[],i=>rfl| d::ds,i=>by rw[qx,GV,xp,aa9 p ds (i+1),K1];rfl
def Ma(ay:List Int)(g:cE):Int:=
 bif decide ((g.n:Int)=0)then 4 else bif !n6 g.ds then 4 else bif pJ ay g then 40 else
 bif !(List.range g.ds.length).all (pT g.ds)then 6 else bif g.ds.all λd=>d.t.ns.all (yx g.ds)then 0 else 41
def aba(ay:List Int)(g:cE):Ma ay g=dO ay g:=by
 unfold Ma dO;have h:=anD g.ds [] [] anE (λi hi=>by simp at hi);simp only[hj,hI]at h;cases ai:lR [] 0 g.ds with
 |none=>
  rw[ai]at h;obtain⟨i,aa,ad,_⟩:=h;have:(List.range g.ds.length).all (pT g.ds)=false:=by rw[Bool.eq_false_iff];intro eG;rw[fN]at eG;have:=eG i (j9.2 aa);rw[ad]at this;cases this
  rw[this];rfl
 |some a5=>
  rw[ai]at h;obtain⟨aa,ad⟩:=h;have aj:(List.range g.ds.length).all (pT g.ds)=true:=by rw[fN];intro i hi;exact ad i (j9.1 hi)
  rw[aj];have aJ:(g.ds.all λd=>d.t.ns.all (yx g.ds))=rA a5 g.ds:=by unfold rA;rw[aa9];congr 1;funext d;congr 1;funext n;unfold zI yx;rw[aa.look]
  rw[aJ];rfl
def abb(nm:ByteArray):∀ (ds:List a3) (i:Nat),yc nm ds i=bif decide (eO nm ds i<0)then none else some (eO nm ds i)
 |[],i=>rfl
 |d::ds,i=>by
  unfold yc eO;rw[show decide (nm=d.name)=decide (d.name=nm) by rw[r8];simp[eq_comm]];cases decide (d.name=nm)with
  |true=>rw[cF,cF,e8 Z];rfl| false=>rw[cD,cD];exact abb nm ds (i+1)
def anF(nm:ByteArray)(ds:List a3):eP nm (bM ds)=bif decide (eO nm ds 0<0)then none else some (eO nm ds 0):=by rw[PY,abb]
def abc{nm:ByteArray}{ds:List a3}(h:(eP nm (bM ds)).isSome=true):∃ q:Nat,eO nm ds 0=q/\q<ds.length/\((eP nm (bM ds)).getD 0).toNat=q:=by
 have mb:=anF nm ds;cases ai:decide (eO nm ds 0<0)with
 |true=>rw[ai,cF]at mb;rw[mb]at h;cases h| false=>rw[ai,cD]at mb;have aJ:¬ eO nm ds 0<0:=dU ai;obtain⟨q,aO⟩:=eh (by omega:0<=eO nm ds 0);have abd:=mb;rw[PY]at abd;obtain⟨j,Kp,tq⟩:=PZ abd;refine⟨q,aO,Z,?_⟩;rw[mb,aO];rfl
def ec.marks(s:ec)(i:Nat)(l:List Nat):ec:=l.foldl (λs k=>s.mark i k) s
def ec.abe(s:ec)(i:Nat)(l m:List Nat):s.marks i (l++m)=(s.marks i l).marks i m:=tB
def ec.E8:∀ (l:List Nat) (s:ec) (i:Nat),(s.marks i l).m.length=s.m.length
 |[],s,i=>rfl| k::l,s,i=>by have:=ec.E8 l (s.mark i k) i;unfold ec.marks at this |-;rw[kt,this];simp[ec.mark]
def Sg(b1 b6 b7:Nat):Value:=.func (.func 265) #[] #[ptr b1,ptr b6,ptr b7]
def abf{I:aH}{g:cE}(aw:g.ok I)(lu:g.n<=64){t:bs}(au:t.ok I)(jP:vg t)(af:right t=true)(ed:wH (bM g.ds) t.ns=true){F:List aX}{M1:List aA}{b1 b6 b7 i:Nat}(hi:i<64)(aa:(⟨b1,.cells #[.slice g.a g.n g.c] 28 (0,0)⟩:aA)∈M1)(eZ:(⟨b7,.cells #[.int .i64 i] 3 (0,0)⟩:aA)∈M1){xa:Option Addr}{xc:Nat}(ab:lT I M1 xa t.n (ey (bM g.ds) F t.ns [])) : ∀ (m j:Nat),j<m->∀ (ah:j<t.ns.length) (s:ec) (av:s.m.length=64),Spec Tryz.prog 264 [t.val,.slice xa t.n xc,.int .i64 j,Sg b1 b6 b7] I (kl b6 s::M1) λv I' M'=>I'=I/\M'=kl b6 (s.marks i (gu (bM g.ds) F t.ns j).2)::M1
 |0,j,h,_,_,_=>absurd h (m6 _)
 |m+1,j,abg,ah,s,av=>by
  have aQ:=abf (b6:=b6) (xc:=xc) aw lu au jP af ed hi aa eZ ab m;have g7:=au.n;have ic:=aw.n;have g6:=bK ah;have ai:=au.ns _ g6;have fh:=ai.aF;have Sh:=jP _ g6;have ib:=DG af ah;have Si:=aa5 ai.k.1 ib;have hJ:=lb af j ah;have nn:=fN.1 ed _ g6;have bn:=Qf (pl:=bM g.ds) (F:=F) af ah;have kG:=Hi (bM g.ds) F t.ns [];simp only[hj,dn]at kG;obtain⟨aR,bI,bo⟩:=au.bb.row al.cL (show j<t.n by omega) ah;have sB:(gu (bM g.ds) F t.ns j).2=lg (bM g.ds) t.ns[j] (t.ns[j].ap.map (gu (bM g.ds) F t.ns)):=by rw[bn];rfl
  rw[sB];clear bn sB;have vv:∀ q (h:q<t.ns[j].ap.length),∃ k:Nat,t.ns[j].ap[q]=k/\k<j:=λq h=>by have:=hJ _ (bK h);exact⟨t.ns[j].ap[q].toNat,Z,Z⟩
  generalize t.ns[j]=d at *;refine bU [] a0 Tryz.func264 rfl rfl rfl ?_;intro B ax;refine bt.mk aR j bI rfl Z ?_;refine aU.mk _ (bo _) ?_;refine aZ.mk (λe=>?_) (λcA=>?_);·have e:d.k=3:=cT e;obtain⟨q,Hj,zO,Sj⟩:=abc (nm:=d.t) (ds:=g.ds) (by simpa[e]using nn);refine a8.whole _ (anA aw Hj Z hi av aa eZ) ?_;rintro v J N -⟨a4,gJ⟩;subst J;subst N;refine⟨_,_,.refl,rfl,?_⟩;rw[lg,gy e,cF,Sj];rfl
  have cA:¬ d.k=3:=dU cA;refine aZ.mk (λe=>?_) (λee=>?_)
  ·have e:d.k=4:=cT e;have CK:lg (bM g.ds) d (d.ap.map (gu (bM g.ds) F t.ns))=j4 (d.ap.map (gu (bM g.ds) F t.ns)):=by rw[lg,e8 cA,gy e];rfl
   rw[CK];refine du.inv (ι:=Nat×ec) (λx=>{ bp:=[(1,.val (.slice xa t.n xc)),(3,.val (Sg b1 b6 b7)),(4,.ref 4 0),(42,.val (.slice d.ca d.aF d.cr)),(43,.val (.int .i64 d.aF)),(44,.val (.int .i64 x.1))],cl:=[(4,t.cells)],cO:=I,c5:=kl b6 x.2::M1 }) (λx=>x.1<=d.aF/\x.2.m.length=64/\s.marks i (j4 (d.ap.map (gu (bM g.ds) F t.ns)))=x.2.marks i (j4 ((d.ap.drop x.1).map (gu (bM g.ds) F t.ns)))) (λx=>d.aF-x.1) ?_ ?_;·exact⟨(0,s),⟨dQ _,av,rfl⟩,.refl,y7,.cons rfl (.nil)⟩
   rintro⟨q,cq⟩⟨aO,ow,eW⟩;simp only at aO ow eW;refine aZ.mk (λh=>?_) (λh=>?_)
   rotate_left
   ·have cV:d.ap.length<=q:=by have:¬ (q:Int)<(d.aF:Int):=dU h;omega
    rw[oU cV]at eW;refine⟨_,_,.refl,rfl,?_⟩;rw[eW];rfl
   have a1:q<d.aF:=by have:(q:Int)<(d.aF:Int):=cT h;omega
   have cI:q<d.ap.length:=by omega
   obtain⟨gn,fk,fc⟩:=ai.bb.one a1 cI;obtain⟨k,ae,Iq⟩:=vv q cI;rw[ae]at fc;have abh:k<(ey (bM g.ds) F t.ns []).length:=by omega
   obtain⟨Sc,Sd,m7⟩:=ab.rd k abh;have kS:(d.ap.drop q).map (gu (bM g.ds) F t.ns)=gu (bM g.ds) F t.ns k::(d.ap.drop (q+1)).map (gu (bM g.ds) F t.ns):=by rw[e2 cI,b0,ae]
   have mY:(gu (bM g.ds) F t.ns k).1=(ey (bM g.ds) F t.ns [])[k]:=by rw[Qg];simp[bT,abh]
   rw[kS,j4,mY,ec.abe]at eW;refine bt.mk gn q fk rfl a1 ?_;refine aU.mk _ (fc _) ?_;refine a8.whole _ (aQ k Z Z cq ow) ?_;rintro v J N -⟨a4,gJ⟩;subst J;subst N;refine bt.mk Sc k Sd rfl Z ?_;refine aU.mk _ ((m7.sub λx ab=>.tail _ ab).part (k:=0) (m:=1) bv) ?_;refine aZ.mk (λbg=>?_) (λbg=>?_)
   ·have gL:(ey (bM g.ds) F t.ns [])[k].z=false:=by simpa using bg
    rw[gL]at eW;refine⟨_,_,.refl,rfl,?_⟩;rw[eW];rfl
   ·have gL:(ey (bM g.ds) F t.ns [])[k].z=true:=by simpa using bg
    rw[gL]at eW;refine be.mk _ (c9 (i:=q) Z) ?_;exact⟨(q+1,cq.marks i (gu (bM g.ds) F t.ns k).2),⟨⟨a1,by rw[ec.E8];exact ow,eW⟩,ce⟩,.refl,y7,.cons rfl (.nil)⟩
  have ee:¬ d.k=4:=dU ee;refine aZ.mk (λe=>?_) (λm4=>?_)
  ·have e:d.k=6:=cT e;have anG:=Si.one Z;have la:0<d.ap.length:=by omega
   refine aZ.mk (λdg=>?_) (λdg=>?_)
   ·have A':decide (d.hi=0)=false:=by have A9:(!decide (d.hi=0))=true:=dg;simpa using A9
    obtain⟨gn,fk,fc⟩:=ai.bb.one (j:=0) Z la;obtain⟨k,ae,Iq⟩:=vv 0 la;rw[ae]at fc;have CK:lg (bM g.ds) d (d.ap.map (gu (bM g.ds) F t.ns))=(gu (bM g.ds) F t.ns k).2:=by
     have e5:d.ap=[(k:Int)]:=by
      match ab:d.ap,la,anG,ae with
      |[a],_,_,ae=>simp only[ti]at ae;rw[ae]| _::_::_,_,h,_=>simp at h;omega
     rw[lg,e8 cA,e8 ee,A',e5];simp
    rw[CK];refine cY.draw a0 rfl rfl rfl ?_;refine bt.mk gn 0 fk rfl Z ?_;refine aU.mk _ (fc _) ?_;refine a8.whole _ (aQ k Z Z s av) ?_;rintro v J N -⟨a4,gJ⟩;subst J;subst N;exact⟨_,_,.refl,rfl,rfl⟩
   ·have A':decide (d.hi=0)=true:=by have A9:(!decide (d.hi=0))=false:=dg;simpa using A9
    have CK:lg (bM g.ds) d (d.ap.map (gu (bM g.ds) F t.ns))=[]:=by rw[lg,e8 cA,e8 ee,gy e,A'];rfl
    rw[CK];exact⟨_,_,.refl,rfl,rfl⟩
  have m4:¬ d.k=6:=dU m4;have CK:lg (bM g.ds) d (d.ap.map (gu (bM g.ds) F t.ns))=(d.ap.map (gu (bM g.ds) F t.ns)).flatMap (·.2):=by rw[lg,e8 cA,e8 ee,e8 m4];rfl
  rw[CK];refine du.inv (ι:=Nat×ec) (λx=>{ bp:=[(1,.val (.slice xa t.n xc)),(3,.val (Sg b1 b6 b7)),(4,.ref 4 0),(21,.val (.slice d.ca d.aF d.cr)),(22,.val (.int .i64 d.aF)),(23,.val (.int .i64 x.1))],cl:=[(4,t.cells)],cO:=I,c5:=kl b6 x.2::M1 }) (λx=>x.1<=d.aF/\x.2.m.length=64/\s.marks i ((d.ap.map (gu (bM g.ds) F t.ns)).flatMap (·.2))=x.2.marks i (((d.ap.drop x.1).map (gu (bM g.ds) F t.ns)).flatMap (·.2))) (λx=>d.aF-x.1) ?_ ?_;·exact⟨(0,s),⟨dQ _,av,rfl⟩,.refl,y7,.cons rfl (.nil)⟩
  rintro⟨q,cq⟩⟨aO,ow,eW⟩;simp only at aO ow eW;refine aZ.mk (λh=>?_) (λh=>?_)
  rotate_left
  ·have cV:d.ap.length<=q:=by have:¬ (q:Int)<(d.aF:Int):=dU h;omega
   rw[oU cV]at eW;refine⟨_,_,.refl,rfl,?_⟩;rw[eW];rfl
  have a1:q<d.aF:=by have:(q:Int)<(d.aF:Int):=cT h;omega
  have cI:q<d.ap.length:=by omega
  obtain⟨gn,fk,fc⟩:=ai.bb.one a1 cI;obtain⟨k,ae,Iq⟩:=vv q cI;rw[ae]at fc;rw[e2 cI,b0,ae,iA,ec.abe]at eW;refine bt.mk gn q fk rfl a1 ?_;refine aU.mk _ (fc _) ?_;refine a8.whole _ (aQ k Z Z cq ow) ?_;rintro v J N -⟨a4,gJ⟩;subst J;subst N;refine be.mk _ (c9 (i:=q) Z) ?_;exact⟨(q+1,cq.marks i (gu (bM g.ds) F t.ns k).2),⟨⟨a1,by rw[ec.E8];exact ow,eW⟩,ce⟩,.refl,y7,.cons rfl (.nil)⟩
def eJ.yy(h:eJ I M w)(aI:M.Perm N):eJ I N w:=
 ⟨h.i,λx ab=>h.m x (aI.mem_iff.2 ab),λx ab=>h.d x (aI.mem_iff.2 ab),((aI.map (·.num)).nodup_iff).1 h.cu⟩
def Kept.yy{yz:List aA}(h:Kept I M w I' M' w')(aI:M.Perm N)(x5:M'.Perm yz):Kept I N w I' yz w':=
 ⟨h.le,h.uz,λx ab=>by
  rcases h.vU x (x5.mem_iff.2 ab)with⟨y,aG,e⟩ | aa;·exact .inl ⟨y,aI.mem_iff.1 aG,e⟩
  ·exact .inr aa,λb ag aG=>h.dI b ag λy te=>aG y (aI.mem_iff.1 te),h.out,h.sz⟩
def Spec.yy{args:List Value}(aI:M.Perm N)(aO:∀ v I' M',p v I' M'->∃ yz,M'.Perm yz/\q v I' yz)(h:Spec P f args I M p):Spec P f args I N q:=by
 rcases h with⟨aa,ad⟩ | ad
 ·refine .inl ⟨aa,λw hw=>(ad w (hw.yy aI.symm)).mono ?_⟩;rintro e w'⟨v,I',M',aj,aJ,bD,cG⟩;obtain⟨yz,eZ,fx⟩:=aO _ _ _ aJ;exact⟨v,I',yz,aj,fx,bD.yy eZ,cG.yy aI eZ⟩
 ·refine .inr λw hw=>?_;obtain⟨v,w',I',M',aj,aJ,bD,cG⟩:=ad w (hw.yy aI.symm);obtain⟨yz,eZ,fx⟩:=aO _ _ _ aJ;exact⟨v,w',I',yz,aj,fx,bD.yy eZ,cG.yy aI eZ⟩
def ec.loop(s:ec)(i:Nat):ec:=⟨s.n,s.m,s.w ||| lh i⟩
def qJ(pl:List (ByteArray×Int))(F:List aX)(s:ec)(i:Nat)(d:a3):ec:=
 bif od d.t.ns (ey pl F d.t.ns [])then(s.marks i (gu pl F d.t.ns d.t.bx).2).loop i else s.marks i (gu pl F d.t.ns d.t.bx).2
def km(n:Nat):ec:=⟨n,List.replicate 64 0,0⟩
def jQ(pl:List (ByteArray×Int))(F:List aX):Nat->List a3->ec->ec
 |_,[],s=>s| i,d::ds,s=>jQ pl F (i+1) ds (qJ pl F s i d)
def qK(ds:List a3)(F:List aX):ec:=jQ (bM ds) F 0 ds (km ds.length)
def abi(pl:List (ByteArray×Int))(F:List aX)(s:ec)(i:Nat)(d:a3):(qJ pl F s i d).m.length=s.m.length:=by
 unfold qJ;cases od d.t.ns (ey pl F d.t.ns [])with
 |true=>exact ec.E8 _ s i| false=>exact ec.E8 _ s i
def abj(pl:List (ByteArray×Int))(F:List aX):∀ (l:List a3) (i:Nat) (s:ec) (d:a3),jQ pl F i (l++[d]) s=qJ pl F (jQ pl F i l s) (i+l.length) d
 |[],i,s,d=>rfl| a::l,i,s,d=>by rw[pz,jQ,jQ,abj pl F l];congr 1;simp;omega
def Sk(pl:List (ByteArray×Int))(F:List aX):∀ (l:List a3) (i:Nat) (s:ec),(jQ pl F i l s).m.length=s.m.length
 |[],i,s=>rfl| d::l,i,s=>by rw[jQ,Sk pl F l,abi]
def abk(bc:kl b s∈M):c6 I M ((⟨b,0,none⟩:Addr).add 65) 1 [oT s.w]:=by rw[eM _ rfl];refine⟨rfl,_,_,_,.inr ⟨_,bc,rfl,rfl⟩,?_,rfl⟩;show(s.cells.drop (0+65)).take 1=_;rw[ec.cells,dn,Hl,GB (tU _)];rfl
def anH(s:ec)(i:Nat):cd s.cells (0+65) [oT (s.w ||| lh i)]=(s.loop i).cells:=by unfold ec.cells ec.loop cd;simp only[dn,ep,hj];rw[rf,st (tU _),Hl,oU (by simp[tU])];simp
def Mb(bc:kl b s∈M):c6 I M (⟨b,0,none⟩:Addr) 66 s.cells:=
 ⟨rfl,_,_,_,.inr ⟨_,bc,rfl,rfl⟩,by simp only[tl];exact fD (show s.cells.length<=66 by rw[ec.cL];exact cc _),ec.cL s⟩
def anI(a6:en I ay)(aw:g.ok I)(jP:∀ d∈g.ds,vg d.t)(lu:dO ay g=0->g.n<=64):Spec Tryz.prog 191 [g.val] I [] λv I' M'=>(∀ b o,I b=some o->I' b=some o)/\M'=[] /\
  ((dO ay g≠0/\v=.tuple #[(km 0).val,.int .i64 (dO ay g)])\/(dO ay g=0/\∃ F,ie g.ds F/\v=.tuple #[(qK g.ds F).val,.int .i64 0])):=by
 refine bU [1,2,6,7] a0 Tryz.func191 rfl rfl rfl ?_;intro B ax;have ic:=aw.n;have hk:=aw.bb.cap;refine bQ.mk λb1 ia P1=>?_;refine bQ.mk λbH il Pr=>?_;refine aU.mk [.slice g.a g.n g.c] (dm (cs:=[.slice g.a g.n g.c]) (k:=0) (n:=1) (.tail _ (.head _)) am) ?_;refine a8.mk [] [kl bH (km 0),⟨b1,.cells #[.slice g.a g.n g.c] 28 (0,0)⟩] _ (.refl _) (ajW a6 aw) ?_;rintro v I1 N -⟨c8,⟨hm,rfl,rfl⟩|⟨hm,tP,F,rfl,rfl,bw⟩⟩
 ·refine aZ.mk (λ_=>?_) (λh=>absurd h (by simp[hm]));refine b4.rF [] _ _ _ rfl rfl rfl rfl (km 0).cells rfl ?_;refine aU.mk _ (Mb (.head _)) ?_;exact⟨_,_,.sub (fs _) .refl,c8,rfl,.inl ⟨hm,rfl⟩⟩
 refine aZ.mk (λh=>absurd h am) (λ_=>?_);have bc:=K6 ic hm;have abl:F.length=g.n:=by rw[bw.len,ic]
 have anJ:=lu hm;refine aU.mk [.slice g.a g.n g.c] (dm (cs:=[.slice g.a g.n g.c]) (k:=0) (n:=1) (.tail _ (.tail _ (.head _))) am) ?_;refine bQ.mk λb6 KH WT=>?_;refine b4.rF [] _ _ _ rfl rfl rfl rfl (km g.n).cells rfl ?_;refine aU.mk [.slice g.a g.n g.c] (dm (cs:=[.slice g.a g.n g.c]) (k:=0) (n:=1) (.tail _ (.tail _ (.tail _ (.head _)))) am) ?_;refine du.inv (ι:=Nat×aH) (λx=>{ bp:=[(1,.val (ptr b1)),(2,.val (ptr bH)),(4,.val (.slice (some ⟨tP,0,none⟩) g.n g.n)),(6,.val (ptr b6)),(25,.val (.slice g.a g.n g.c)),(26,.val (.int .i64 g.n)),(27,.val (.int .i64 x.1))],cl:=[],cO:=x.2,c5:=[kl b6 (jQ (bM g.ds) F 0 (g.ds.take x.1) (km g.n)),fM tP F,kl bH (km 0),⟨b1,.cells #[.slice g.a g.n g.c] 28 (0,0)⟩] }) (λx=>x.1<=g.n/\∀ b o,I b=some o->x.2 b=some o) (λx=>g.n-x.1) ?_ ?_
 ·exact⟨(0,I1),⟨dQ _,c8⟩,.refl,q6,.nil⟩
 rintro⟨i,J⟩⟨hi,a4⟩;simp only at hi a4;refine aZ.mk (λh=>?_) (λh=>?_)
 rotate_left
 ·have cV:i=g.n:=by have:¬ (i:Int)<(g.n:Int):=dU h;omega
  refine aU.mk _ (Mb (.head _)) ?_;refine b4.rF [kl b6 (jQ (bM g.ds) F 0 (g.ds.take i) (km g.n)),fM tP F] _ _ _ rfl rfl rfl rfl (jQ (bM g.ds) F 0 (g.ds.take i) (km g.n)).cells ?_ ?_;·rfl
  refine aU.mk _ (Mb (.tail _ (.tail _ (.head _)))) ?_;refine⟨_,_,.sub (fs _) .refl,a4,rfl,.inr ⟨hm,F,bw,?_⟩⟩;rw[cV,fD (l:=g.ds) Z,qK,ic];rfl
 have a1:i<g.n:=by have:(i:Int)<(g.n:Int):=cT h;omega
 have cI:i<g.ds.length:=by omega
 have Ir:=aw.mono a4;have Is:=a6.mono a4;obtain⟨aR,bI,bo⟩:=Ir.bb.row a3.cL a1 cI;have g6:=bK cI;have ai:=Ir.ds _ g6;have af:=bc.right _ g6;have ed:=bc.named _ g6;have Sh:=jP _ g6;have lr:jQ (bM g.ds) F 0 (g.ds.take (i+1)) (km g.n)=qJ (bM g.ds) F (jQ (bM g.ds) F 0 (g.ds.take i) (km g.n)) i g.ds[i]:=by rw[gk cI,abj,KX Z,dn]
 have gY:(jQ (bM g.ds) F 0 (g.ds.take i) (km g.n)).m.length=64:=by rw[Sk];rfl
 generalize g.ds[i]=d at bo ai af ed Sh lr;refine bt.mk aR i bI rfl a1 ?_;refine aU.mk _ (bo _) ?_;refine bQ.mk λb7 Ht K9=>?_;refine b4.rF [] _ _ _ rfl rfl rfl rfl [.int .i64 i] rfl ?_;refine aU.mk [.slice g.a g.n g.c] (dm (cs:=[.slice g.a g.n g.c]) (k:=0) (n:=1) (.tail _ (.tail _ (.tail _ (.tail _ (.head _))))) am) ?_;generalize axw:jQ (bM g.ds) F 0 (g.ds.take i) (km g.n)=s at gY lr |-;have eS:∀ {M:List aA},fM tP F∈M->lT J M (some ⟨tP,0,none⟩) g.n F:=λyq=>by have:=K5 (I:=J) yq;rwa [abl]at this
 have abm:zQ g F d.t=some (ey (bM g.ds) F d.t.ns []):=by rw[zQ,af,ed,gy abl];rfl
 refine a8.whole _ (ajR (lc:=g.n) Is Ir ai.t (eS (.tail _ (.tail _ (.head _))))) ?_;rintro v cv dv -⟨cj,⟨aC,-,-⟩|⟨r,cm,aC,rfl,rfl⟩⟩
 ·rw[abm]at aC;cases aC
 rw[abm]at aC;obtain rfl:=e1 aC;refine b5.mk (λh=>?_) (λh=>?_)
 rotate_left
 ·cases h
 refine aZ.mk (λh=>absurd h am) (λ_=>?_);have pB:=kE af;have Ae:=abf (b1:=b1) (b6:=b6) (b7:=b7) (i:=i) (xa:=some ⟨cm,0,none⟩) (xc:=d.t.n) (F:=F) (Ir.mono cj) anJ (ai.t.mono cj) Sh af ed Z (M1:=[fM cm (ey (bM g.ds) F d.t.ns []),⟨b7,.cells #[.int .i64 i] 3 (0,0)⟩,fM tP F,kl bH (km 0),⟨b1,.cells #[.slice g.a g.n g.c] 28 (0,0)⟩]) (.tail _ (.tail _ (.tail _ (.tail _ (.head _))))) (.tail _ (.head _)) (by
  have:=K5 (I:=cv) (M:=[fM cm (ey (bM g.ds) F d.t.ns []),⟨b7,.cells #[.int .i64 i] 3 (0,0)⟩,fM tP F,kl bH (km 0),⟨b1,.cells #[.slice g.a g.n g.c] 28 (0,0)⟩]) (b:=cm) (l:=ey (bM g.ds) F d.t.ns []) (.head _);rw[Hi,ai.t.n]at this;simpa using this) d.t.ns.length d.t.bx.toNat Z Z s gY
 rw[zf pB.1]at Ae;have anK:=Spec.yy (q:=λv I' M'=>I'=cv/\M'=kl b6 (s.marks i (gu (bM g.ds) F d.t.ns d.t.bx.toNat).2)::[fM cm (ey (bM g.ds) F d.t.ns []),⟨b7,.cells #[.int .i64 i] 3 (0,0)⟩,fM tP F,kl bH (km 0),⟨b1,.cells #[.slice g.a g.n g.c] 28 (0,0)⟩]) (mm (a:=kl b6 s) (l₁:=[fM cm (ey (bM g.ds) F d.t.ns []),⟨b7,.cells #[.int .i64 i] 3 (0,0)⟩]) (l₂:=[fM tP F,kl bH (km 0),⟨b1,.cells #[.slice g.a g.n g.c] 28 (0,0)⟩])).symm (λv I' M' h=>⟨M',.refl _,h⟩) Ae;refine a8.whole _ anK ?_;rintro v hN N -⟨hY,gJ⟩;subst hN;subst N;generalize gw:s.marks i (gu (bM g.ds) F d.t.ns d.t.bx.toNat).2=s1 at *;have axx:s1.m.length=64:=by rw[<-gw,ec.E8,gY]
 refine a8.whole _ (anv (xs:=ey (bM g.ds) F d.t.ns []) (ai.t.mono cj) af ?_) ?_
 ·have:=K5 (I:=cv) (M:=kl b6 s1::[fM cm (ey (bM g.ds) F d.t.ns []),⟨b7,.cells #[.int .i64 i] 3 (0,0)⟩,fM tP F,kl bH (km 0),⟨b1,.cells #[.slice g.a g.n g.c] 28 (0,0)⟩]) (b:=cm) (l:=ey (bM g.ds) F d.t.ns []) (.tail _ (.head _));rw[Hi,ai.t.n]at this;simpa using this
 rintro v hN N -⟨ak,hY,gJ⟩;subst hN;subst N;subst v;have ff:(kl b6 (qJ (bM g.ds) F s i d))=(kl b6 (bif od d.t.ns (ey (bM g.ds) F d.t.ns [])then s1.loop i else s1)):=by rw[qJ,<-gw];rfl
 refine aZ.mk (λhe=>?_) (λhe=>?_)
 rotate_left
 ·have tV:od d.t.ns (ey (bM g.ds) F d.t.ns [])=false:=he;refine be.mk _ (c9 (i:=i) Z) ?_;refine⟨(i+1,cv),⟨⟨a1,λb o h=>cj _ _ (a4 _ _ h)⟩,ce⟩,.sub (.cons_cons _ (.cons _ (.cons _ (.refl _)))) (.m1 ?_),q6,.nil⟩;simp only;rw[lr,ff,tV];rfl
 have tV:od d.t.ns (ey (bM g.ds) F d.t.ns [])=true:=he;refine cY.draw a0 rfl rfl rfl ?_;refine aU.mk _ (abk (.head _)) ?_;refine aU.mk [.int .i64 i] (dm (cs:=[.int .i64 i]) (k:=0) (n:=1) (.tail _ (.tail _ (.head _))) am) ?_;refine sc.mk i rfl ?_;refine be.mk _ (Q9 Z) ?_;refine b4.iE [] _ s1.cells _ rfl ?_ rfl (s1.loop i).cells ?_ ?_
 ·rw[ec.cL];rfl
 ·show cd s1.cells (0+65) [Value.int .u64 (kQ s1.w.toNat (lh i).toNat)]=_;rw[tT];exact anH s1 i
 refine be.mk _ (c9 (i:=i) Z) ?_;refine⟨(i+1,cv),⟨⟨a1,λb o h=>cj _ _ (a4 _ _ h)⟩,ce⟩,.sub (.cons_cons _ (.cons _ (.cons _ (.refl _)))) (.m1 ?_),q6,.nil⟩;simp only;rw[lr,ff,tV];rfl
def E9(l:List Nat):List Value:=l.map λn:Nat=>Value.int .i64 n
def Ar(s:ec):List Nat:=bitsOf s.w 64
open Classical in
noncomputable def w2(s:ec):List Nat:=(List.range 64).filter λi=>decide (qB s.m i i)
def anL{b:dw}(h:∀ i,i<64->(b.getLsbD i=true ↔ qB s.m i i)):bitsOf b 64=w2 s:=by
 unfold bitsOf w2;apply F4;intro i hi;have:=h i i6;by_cases ao:qB s.m i i
 ·simp[ao,this.2 ao]
 ·have:b.getLsbD i=false:=by
   cases ag:b.getLsbD i with
   |false=>rfl| true=>exact absurd (this.1 ag) ao
  simp[ao,this]
def abn(pl:List (ByteArray×Int))(F:List aX):∀ (l:List a3) (i:Nat) (s:ec),(jQ pl F i l s).n=s.n
 |[],i,s=>rfl
 |d::l,i,s=>by
  rw[jQ,abn pl F l];have hm:∀ (q:List Nat) (s:ec),(s.marks i q).n=s.n:=λq=>by
   induction q with
   |nil=>exact λs=>rfl
   |cons k q aQ=>exact λs=>aQ (s.mark i k)
  unfold qJ;cases od d.t.ns (ey pl F d.t.ns [])with
  |true=>exact hm _ s| false=>exact hm _ s
def anM(ds:List a3)(F:List aX):(qK ds F).n=ds.length:=abn _ _ _ _ _
def anN(ds:List a3)(F:List aX):(qK ds F).m.length=64:=by rw[qK,Sk];rfl
noncomputable def It(e:Int)(s:ec):Int×Int:=
 if e≠0 then(0,e)else if 0<(w2 s).length then(((w2 s).headD 0:Nat),42)else if 0<(Ar s).length then(((Ar s).headD 0:Nat),43)else(0,0)
def aT.pos(h:os.ok 1 (E9 l)):l.length=os.n:=by have:=h.len;simpa[E9]using this
def abo(h:os.ok 1 (E9 l))(az:0<l.length)(bc:os.ar e++M0=M):∃ aR,os.a.map (λg=>(⟨g,0,none⟩:Addr))=some aR/\c6 I M (aR.add (0*1)) 1 [.int .i64 (l.headD 0:Nat)]:=by
 have aI:=aT.pos h;cases a7:os.a with
 |none=>have:=(h.nil a7).1;omega
 |some b=>
  obtain⟨aa,ad,aj,aJ⟩:=h.cap b a7;refine⟨⟨b,0,none⟩,rfl,?_⟩;subst bc;cases l with
  |nil=>simp at az
  |cons a l=>
   cases ao:os.aS with
   |nil=>rw[ao]at aJ;simp[E9]at aJ
   |cons x xs=>
    rw[ao]at aJ;have aC:os.n*1=(os.n-1)+1:=by omega
    rw[aC,rf]at aJ;have ab:x=.int .i64 a:=(List.cons.inj aJ).1;refine⟨rfl,_,_,_,.inr ⟨⟨b,.cells os.aS.toArray e (0,0)⟩,?_,rfl,rfl⟩,?_,rfl⟩;·unfold aT.ar;rw[a7];exact .head _
    ·rw[ao,ab];rfl
def anO(a6:en I ay)(aw:g.ok I)(jP:∀ d∈g.ds,vg d.t)(lu:dO ay g=0->g.n<=64):Spec Tryz.prog 110 [g.val] I [] λv I' M'=>(∀ b o,I b=some o->I' b=some o)/\M'=[] /\
  ∃ r:Int×Int,v=.tuple #[.int .i64 r.1,.int .i64 r.2]/\((dO ay g≠0/\r=(0,dO ay g))\/(dO ay g=0/\∃ F,ie g.ds F/\r=It 0 (qK g.ds F))):=by
 refine bU [4] a0 Tryz.func110 rfl rfl rfl ?_;intro B ax;have ic:=aw.n;refine a8.mk [] [] _ (.refl _) (anI a6 aw jP lu) ?_;rintro v I1 N -⟨c8,rfl,⟨hm,rfl⟩|⟨hm,F,bw,rfl⟩⟩
 ·refine bQ.mk λdR BW KK=>?_;refine b4.rF [] _ _ _ rfl rfl rfl rfl (km 0).cells rfl ?_;refine aZ.mk (λh=>?_) (λh=>absurd h (by simp[hm]));exact⟨_,_,.sub (fs _) .refl,c8,rfl,(0,dO ay g),rfl,.inl ⟨hm,rfl⟩⟩
 refine bQ.mk λdR BW KK=>?_;refine b4.rF [] _ _ _ rfl rfl rfl rfl (qK g.ds F).cells rfl ?_;have lr:=anM g.ds F;have gY:=anN g.ds F;have aC:=lu hm;generalize av:qK g.ds F=s at lr gY;refine aZ.mk (λh=>absurd h am) (λ_=>?_);refine aU.mk _ (Mb (.head _)) ?_;refine a8.whole _ (ak5 s ⟨gY,Z⟩) ?_;rintro v J N -⟨rfl,rfl,b,rfl,ag⟩;refine a8.whole _ (Zu b) ?_;rintro v J N -⟨rfl,os,b3,rfl,rfl⟩;have b3:os.ok 1 (E9 (w2 s)):=by rw[<-anL ag];exact b3
 have aI:=aT.pos b3;refine aZ.mk (λh=>?_) (λh=>?_)
 ·have bd:0<(w2 s).length:=by have:(0:Int)<(os.n:Int):=cT h;omega
  obtain⟨aR,bI,bo⟩:=abo (I:=J) b3 bd rfl;refine bt.mk aR 0 bI rfl Z ?_;refine aU.mk _ bo ?_;exact⟨_,_,.sub (fs _) .refl,c8,rfl,(((w2 s).headD 0:Nat),42),rfl,.inr ⟨hm,F,bw,by rw[av,It,bS am,b2 bd]⟩⟩
 have bd:¬ 0<(w2 s).length:=by have:¬ (0:Int)<(os.n:Int):=dU h;omega
 refine aU.mk _ (abk (r6 _ (.head _))) ?_;refine a8.whole _ (Zu s.w) ?_;rintro v cv N -⟨rfl,Sl,Mc,rfl,rfl⟩;have Mc:Sl.ok 1 (E9 (Ar s)):=Mc;have nN:=aT.pos Mc;refine aZ.mk (λh=>?_) (λh=>?_)
 ·have ad:0<(Ar s).length:=by have:(0:Int)<(Sl.n:Int):=cT h;omega
  obtain⟨aR,bI,bo⟩:=abo (I:=cv) Mc ad rfl;refine bt.mk aR 0 bI rfl Z ?_;refine aU.mk _ bo ?_;exact⟨_,_,.sub (fs _) .refl,c8,rfl,(((Ar s).headD 0:Nat),43),rfl,.inr ⟨hm,F,bw,by rw[av,It,bS am,bS bd,b2 ad]⟩⟩
 have ad:¬ 0<(Ar s).length:=by have:¬ (0:Int)<(Sl.n:Int):=dU h;omega
 exact⟨_,_,.sub (fs _) .refl,c8,rfl,(0,0),rfl,.inr ⟨hm,F,bw,by rw[av,It,bS am,bS bd,bS ad]⟩⟩
def Md(l:List Nat)(w:dw):dw:=l.foldl (λw k=>w ||| lh k) w
def anP(l:List Nat)(w:dw){i:Nat}(hi:i<64):(Md l w).getLsbD i=(w.getLsbD i||l.contains i):=akp l w hi
def pS(m:List dw)(i:Nat):m.set i (m.getD i 0)=m:=by
 apply Bq;intro j;rw[iB];by_cases h:i=j
 ·subst h;by_cases az:i<m.length
  ·simp[az,bT]
  ·simp[az]
 ·simp[h]
def abp(i:Nat):∀ (l:List Nat) (s:ec),i<s.m.length->(s.marks i l).m=s.m.set i (Md l (s.m.getD i 0))
 |[],s,h=>(pS s.m i).symm| k::l,s,h=>by have aQ:=abp i l (s.mark i k) (by simpa[ec.mark]using h);show((s.mark i k).marks i l).m=_;rw[aQ,ec.mark];simp only;rw[GC,Rb i5];rfl
def Sm(i:Nat):∀ (l:List Nat) (s:ec),(s.marks i l).w=s.w
 |[],s=>rfl| k::l,s=>Sm i l (s.mark i k)
def abq(pl:List (ByteArray×Int))(F:List aX)(s:ec)(i:Nat)(d:a3)(h:i<s.m.length):(qJ pl F s i d).m=s.m.set i (Md (gu pl F d.t.ns d.t.bx).2 (s.m.getD i 0)):=by
 unfold qJ;rw[<-abp i _ s h];cases od d.t.ns (ey pl F d.t.ns [])<;>rfl
def abr(pl:List (ByteArray×Int))(F:List aX)(s:ec)(i:Nat)(d:a3):(qJ pl F s i d).w=bif od d.t.ns (ey pl F d.t.ns [])then s.w ||| lh i else s.w:=by
 unfold qJ;cases od d.t.ns (ey pl F d.t.ns [])
 ·exact Sm i _ s
 ·show(s.marks i _).w ||| lh i=_
  rw[Sm];rfl
def Sn(pl:List (ByteArray×Int))(F:List aX):∀ (l:List a3) (i:Nat) (s:ec),s.m.length=64->i+l.length<=64 -> (∀ j,j<i\/i+l.length<=j->(jQ pl F i l s).m.getD j 0=s.m.getD j 0) /\ (∀ q (h:q<l.length),(jQ pl F i l s).m.getD (i+q) 0=Md (gu pl F l[q].t.ns l[q].t.bx).2 (s.m.getD (i+q) 0)) /\ (∀ j,j<64->j<i\/i+l.length<=j->(jQ pl F i l s).w.getLsbD j=s.w.getLsbD j) /\ (∀ q (h:q<l.length),(jQ pl F i l s).w.getLsbD (i+q)=(s.w.getLsbD (i+q)||od l[q].t.ns (ey pl F l[q].t.ns [])))
 |[],i,s,_,_=>⟨λ_ _=>rfl,λ_ h=>absurd h am,λ_ _ _=>rfl,λ_ h=>absurd h am⟩
 |d::l,i,s,av,az=>by
  rw[ep]at az;obtain⟨aa,ad,aj,aJ⟩:=Sn pl F l (i+1) (qJ pl F s i d) (by rw[abi,av]) Z;have hm:∀ j,j≠i->(qJ pl F s i d).m.getD j 0=s.m.getD j 0:=λj ah=>by rw[abq pl F s i d Z];simp[bT,iB,r9 ah]
  have hw:∀ j,j<64->j≠i->(qJ pl F s i d).w.getLsbD j=s.w.getLsbD j:=λj ah bz=>by
   rw[abr];cases od d.t.ns (ey pl F d.t.ns []);·rfl
   ·rw[cF,B6,Lc ah];simp[bz]
  refine⟨λj ah=>?_,λq h=>?_,λj ah tq=>?_,λq h=>?_⟩;·rw[ep]at ah;rw[jQ,aa j Z,hm j Z]
  ·cases q with
   |zero=>rw[jQ,aa _ Z,abq pl F s i d Z];rw[pg,Rb Z];rfl| succ q=>have:=ad q i5;rw[show i+1+q=i+(q+1) by omega]at this;rw[jQ,this,hm _ Z];rfl
  ·rw[ep]at tq;rw[jQ,aj j ah Z,hw j ah Z]
  ·cases q with
   |zero=>
    rw[jQ,aj _ Z Z,abr,pg,ti];cases he:od d.t.ns (ey pl F d.t.ns []);·simp
    ·rw[cF,B6,Lc Z];simp
   |succ q=>
    have aO:q<l.length:=by simpa using h
    have:=aJ q aO;rw[show i+1+q=i+(q+1) by omega]at this;rw[jQ,this,hw _ Z Z];rfl
def lY(ds:List a3)(F:List aX)(i:Nat):List Nat:=match ds[i]? with
 |some d=>(gu (bM ds) F d.t.ns d.t.bx).2| none=>[]
def Iu(ds:List a3)(F:List aX)(i:Nat):Bool:=match ds[i]? with
 |some d=>od d.t.ns (ey (bM ds) F d.t.ns [])| none=>false
def Me{ds:List a3}(aC:ds.length<=64){i k:Nat}(ae:k<64):((qK ds F).m.getD i 0).getLsbD k=(lY ds F i).contains k:=by
 obtain⟨aa,ad,-,-⟩:=Sn (bM ds) F ds 0 (km ds.length) (by rfl) Z;have ax:∀ j,(km ds.length).m.getD j 0=0#64:=λj=>by
  simp only[km,bT,List.getElem?_replicate];by_cases h:j<64<;>simp[h]
 unfold lY qK;by_cases h:i<ds.length
 ·have:=ad i h;rw[dn]at this;rw[this,ax,anP _ _ ae,dy h];simp
 ·rw[aa i Z,ax,tj Z];simp
def abt{ds:List a3}(aC:ds.length<=64){i:Nat}(hi:i<64):(qK ds F).w.getLsbD i=Iu ds F i:=by
 obtain⟨-,-,aa,ad⟩:=Sn (bM ds) F ds 0 (km ds.length) (by rfl) Z;unfold Iu qK;by_cases h:i<ds.length
 ·have:=ad i h;rw[dn]at this;rw[this,dy h];simp[km]
 ·rw[aa i hi Z,tj Z];simp[km]
section
end
section
end
def So(a b c d:Int):al:=⟨1,a,b,c,d,⟨#[]⟩,0,0,none,0,0,[]⟩
def abu{a b c d:Int}(a7:ga a)(ag:ga b)(ao:ga c)(ai:ga d):Spec Tryz.prog 36 [.agg #[.int .u64 a,.int .u64 b,.int .u64 c,.int .u64 d]] I [] λv I' M'=>(∀ b o,I b=some o->I' b=some o)/\∃ t:bs,v=t.val/\t.ok I'/\t.ns=[So a b c d]/\t.bx=0/\M'=[]:=by refine bU [] a0 Tryz.func36 rfl rfl rfl ?_;intro B ax;have bf:(So a b c d).ok I:=⟨⟨by show(0:Int)<=1;decide,by show(1:Int)<256;decide⟩,a7,ag,ao,ai,by show(0:Nat)<=_;decide,i0,i0,⟨rfl,⟨cc _,by show 0*8<=_;omega⟩,.inl rfl⟩,λx ab=>wl⟩;have az:=PE (I:=I) bf;have ak:(So a b c d).val=.agg #[.int .u8 1,.int .u64 a,.int .u64 b,.int .u64 c,.int .u64 d,.string ⟨#[]⟩,.int .i64 0,.int .i64 0,.slice none 0 0]:=rfl;rw[ak]at az;refine a8.mk [] [] _ (.refl _) az ?_;rintro v I' M' -⟨bE,t,rfl,au,aa,ad,rfl⟩;exact⟨_,_,.refl,bE,t,rfl,au,aa,ad,rfl⟩
structure anQ(t:bs):Prop where
 n:t.n<2500
 ns:∀ cu∈t.ns,PD cu
structure ju(L:List bs)(n0:Nat)(x:Nat×Nat):Prop where
 i:x.2<=L.length
 n:x.1<=6000
 ge:n0<=x.1
 small:x.1<2500->x.2<=x.1/\∀ j (h:j<L.length),j<x.2->anQ L[j]
def Mf{ds:List a3}{f:a3->aX}{i:Nat}(h:i<ds.length):(ds.map f).getD i cg=f ds[i]:=by simp[bT,h]
def oO.all{ds:List a3}{l:List aX}(h:oO ds l):oO ds (ds.map (iJ (bM ds) l))/\dP l (ds.map (iJ (bM ds) l)):=by
 have bn:dP l (ds.map (iJ (bM ds) l)):=dP.of (by simp[h.len]) λi hi=>by rw[Mf (by rw[<-h.len];exact hi)];exact h.up i _
 refine⟨⟨am,λi hi=>?_,λm hm ao=>dP.of (by simp[hm]) λi hi=>?_⟩,bn⟩
 ·rw[Mf hi];exact Hp bn _
 ·have cz:i<ds.length:=by simpa using hi
  rw[Mf cz];exact(Hp (h.least m hm ao) _).trans (ao i cz)
def As(b:Bool)(xs:List (aX×List Nat)):List Nat:=bif b then j4 xs else xs.flatMap (·.2)
def anR(b:Bool):As b []=[]:=by cases b<;>rfl
def anS(b:Bool)(x:aX×List Nat)(xs:List (aX×List Nat)):As b (x::xs)=x.2++bif b && !x.1.z then []else As b xs:=by
 cases b with
 |true=>
  cases bg:x.1.z<;>simp[As,j4,bg]
 |false=>simp[As]
def anT{pl:List (ByteArray×Int)}{d:al}{xs:List (aX×List Nat)}(aj:¬ d.k=3)(cG:¬ (d.k=6/\d.hi=0)):lg pl d xs=As (decide (d.k=4)) xs:=by
 unfold lg As;rw[e8 aj,cD];cases aJ:decide (d.k=4)with
 |true=>rfl
 |false=>
  rw[cD,cD];by_cases a:d.k=6;·have b:¬ d.hi=0:=λe=>cG ⟨a,e⟩;rw[gy a,e8 b];rfl
  ·rw[e8 a];rfl
def yA(pl:List (ByteArray×Int))(F:List aX)(d:al)(xs:List ((aX×List Nat)×Bool)):Bool:=xs.any λx=>(decide (d.k=6)&&(decide (d.hi=-1)&&x.1.1.z))||x.2
def hO(pl:List (ByteArray×Int))(F:List aX)(d:al)(xs:List ((aX×List Nat)×Bool)):(aX×List Nat)×Bool:=(rH pl F d (xs.map (·.1)),yA pl F d xs)
def o2(pl:List (ByteArray×Int))(F:List aX)(ns:List al)(j:Int):(aX×List Nat)×Bool:=mf ((cg,[]),false) (λd g=>hO pl F d (d.ap.map g)) ns j
def abv{pl:List (ByteArray×Int)}(af:right t=true){j:Nat}(ah:j<t.ns.length):o2 pl F t.ns j=hO pl F t.ns[j] (t.ns[j].ap.map (o2 pl F t.ns)):=
 DF (λd g ei h=>by rw[fR h]) af ah
def Mg{pl:List (ByteArray×Int)}{F:List aX}{t:bs}(af:right t=true):∀ (m j:Nat),j<m->j<t.ns.length->(o2 pl F t.ns j).1=gu pl F t.ns j
 |0,j,h,_=>absurd h (m6 _)
 |m+1,j,hm,ah=>by
  rw[abv af ah,Qf af ah];have:(t.ns[j].ap.map (o2 pl F t.ns)).map (·.1)=t.ns[j].ap.map (gu pl F t.ns):=by rw[gj];refine fR λk ae=>?_;obtain⟨aa,ad⟩:=lb af j ah k ae;obtain⟨q,rfl⟩:=eh aa;exact Mg af m q Z Z
  show rH pl F t.ns[j] _=_;rw[this]
def anU(pl:List (ByteArray×Int))(F:List aX)(ns:List al)(j:Int):o2 pl F (ns.map al.aW) j=o2 pl F ns j:=by unfold o2 mf;rw[Hu (f:=λd g=>hO pl F d (d.ap.map g)) (g:=λd g=>hO pl F d (d.ap.map g)) (λd q=>rfl)]
def pU(ds:List a3)(F:List aX)(i:Nat):List Nat:=(List.range ds.length).filter λk=>(lY ds F i).contains k
def w3(ds:List a3)(F:List aX)(i:Nat):Bool:=match ds[i]? with
 |some d=>(o2 (bM ds) F d.t.ns d.t.bx).2| none=>false
def pV(ds:List a3)(F:List aX):List Nat:=(List.range ds.length).filter (w3 ds F)
inductive ms(A:Nat->List Nat):Nat->Nat->Prop
 |one{i k}(h:k∈A i):ms A i k| step {i j k} (h:j∈A i) (t:ms A j k):ms A i k
def ms.snoc{i j k:Nat}(h:ms A i j)(ae:k∈A j):ms A i k:=by
 induction h with
 |one h=>exact .step h (.one ae)| step h t aQ=>exact .step h (aQ ae)
def vw:List Nat->List Nat->List Nat
 |[],l=>l| x::r,l=>vw r (bif l.contains x then l else l++[x])
def E':∀ (r l:List Nat) (x:Nat),x∈vw r l ↔ x∈l\/x∈r
 |[],l,x=>by simp[vw]
 |y::r,l,x=>by
  rw[vw,E' r];cases h:l.contains y with
  |true=>
   have aG:y∈l:=by simpa using h
   rw[cF];constructor
   ·rintro(a | a)
    ·exact .inl a
    ·exact .inr (.tail _ a)
   ·rintro(a | a)
    ·exact .inl a
    ·rcases er.1 a with rfl | a
     ·exact .inl aG
     ·exact .inr a
  |false=>
   rw[cD];rw[c1,eL,er];constructor
   ·rintro((a | a) | a)
    ·exact .inl a
    ·exact .inr (.inl a)
    ·exact .inr (.inr a)
   ·rintro(a | a | a)
    ·exact .inl (.inl a)
    ·exact .inl (.inr a)
    ·exact .inr a
def abw:∀ (r l:List Nat),∃ s,vw r l=l++s
 |[],l=>⟨[],by simp[vw]⟩
 |y::r,l=>by
  obtain⟨s,av⟩:=abw r (bif l.contains y then l else l++[y]);rw[vw,av];cases l.contains y with
  |true=>exact⟨s,rfl⟩| false=>exact⟨[y]++s,am⟩
def abx:∀ (r l:List Nat),l.Nodup->(vw r l).Nodup
 |[],l,h=>h
 |y::r,l,h=>by
  rw[vw];apply abx r;cases ao:l.contains y with
  |true=>exact h
  |false=>
   have aG:y ∉ l:=by simpa using ao
   rw[cD,uu];refine⟨h,am,λa a7 b ag e=>?_⟩;have:b=y:=by simpa using ag
   subst this;subst e;exact aG a7
def aby:∀ (n:Nat) (l:List Nat),l.Nodup->(∀ x∈l,x<n)->l.length<=n
 |0,[],_,_=>cc _| 0,a::l,_,h=>absurd (h a (.head _)) (m6 _)
 |n+1,l,ai,h=>by
  have aa:=aby n (l.erase n) (ai.erase n) λx ab=>by have ad:=h x (List.mem_of_mem_erase ab);have aj:x≠n:=(ai.mem_erase_iff.1 ab).1;omega
  have aJ:=List.length_erase (a:=n) (l:=l);split at aJ<;>omega
def Fa(A:Nat->List Nat):Nat->Nat->List Nat->List Nat
 |0,_,l=>l
 |f+1,k,l=>match l[k]? with
  |some x=>Fa A f (k+1) (vw (A x) l)| none=>l
structure tZ(A:Nat->List Nat)(n k:Nat)(fC l:List Nat):Prop where
 cu:l.Nodup
 lt:∀ x∈l,x<n
 sub:∀ x∈fC,x∈l
 src:∀ x∈l,x∈fC\/∃ y∈fC,ms A y x
 Iv:∀ j x,j<k->l[j]?=some x->∀ y∈A x,y∈l
 k:k<=l.length
def tZ.len{k:Nat}(h:tZ A n k fC l):l.length<=n:=aby n l h.cu h.lt
def tZ.next{k:Nat}(dD:∀ x,∀ y∈A x,y<n)(h:tZ A n k fC l){x:Nat}(ab:l[k]?=some x):tZ A n (k+1) fC (vw (A x) l):=by
 obtain⟨s,av⟩:=abw (A x) l;have ae:k<l.length:=by
  rcases Nat.lt_or_ge k l.length with aa | aa;·exact aa
  ·rw[tj aa]at ab;cases ab
 have kG:x∈l:=r7 ab;refine⟨abx _ _ h.cu,λz bg=>?_,λz bg=>(E' _ _ _).2 (.inl (h.sub z bg)),λz bg=>?_,λj z ah bg y aG=>?_,by rw[av];simp;omega⟩
 ·rcases(E' _ _ _).1 bg with a | a
  ·exact h.lt z a
  ·exact dD x z a
 ·rcases(E' _ _ _).1 bg with a | a
  ·exact h.src z a
  ·rcases h.src x kG with b | ⟨w,hw,b⟩
   ·exact .inr ⟨x,b,.one a⟩
   ·exact .inr ⟨w,hw,b.snoc a⟩
 ·have gL:l[j]?=some z:=by rw[av,sr Z]at bg;exact bg
  by_cases e:j=k;·subst e;rw[ab]at gL;obtain rfl:=e1 gL;exact(E' _ _ _).2 (.inr aG)
  ·exact(E' _ _ _).2 (.inl (h.Iv j z Z gL y aG))
def tZ.done{i:Nat}(h:tZ A n l.length (A i) l)(x:Nat):x∈l ↔ ms A i x:=by
 constructor
 ·intro ab;rcases h.src x ab with a | ⟨y,aG,a⟩
  ·exact .one a
  ·exact .step aG a
 ·have cl:∀ {y z:Nat},ms A y z->y∈l->z∈l:=fun {y z} ao=>by
   induction ao with
   |one ae=>intro aG;obtain⟨j,ah,e⟩:=iI aG;exact h.Iv j _ ah (by rw[dy ah,e]) _ ae
   |step ah t aQ=>intro aG;refine aQ ?_;obtain⟨q,aO,e⟩:=iI aG;exact h.Iv q _ aO (by rw[dy aO,e]) _ ah
  intro ao;cases ao with
  |one ae=>exact h.sub x ae| step ah t=>exact cl t (h.sub _ ah)
def Sp{pl:List (ByteArray×Int)}(af:right t=true){j:Nat}(ah:j<t.ns.length):(o2 pl F t.ns j).2=true ↔ ∃ k∈t.ns[j].ap,(t.ns[j].k=6/\t.ns[j].hi=-1/\(ey pl F t.ns []).getD k.toNat cg=(ey pl F t.ns []).getD k.toNat cg/\((ey pl F t.ns []).getD k.toNat cg).z=true)\/(o2 pl F t.ns k).2=true:=by
 have mY:∀ k∈t.ns[j].ap,(o2 pl F t.ns k).1.1=(ey pl F t.ns []).getD k.toNat cg:=λk ae=>by obtain⟨aa,ad⟩:=lb af j ah k ae;obtain⟨q,rfl⟩:=eh aa;rw[Mg af (q+1) q Z Z,Qg]
 rw[abv af ah];show yA pl F t.ns[j] _=true ↔ _;unfold yA;rw[E5];constructor
 ·rintro⟨x,ab,h⟩;obtain⟨k,ae,rfl⟩:=c3.1 ab;refine⟨k,ae,?_⟩;rw[mY k ae]at h;simp only[nj,cC,h3]at h;rcases h with⟨a,b,c⟩ | h
  ·exact .inl ⟨a,b,rfl,c⟩
  ·exact .inr h
 ·rintro⟨k,ae,h⟩;refine⟨_,c3.2 ⟨k,ae,rfl⟩,?_⟩;rw[mY k ae];simp only[nj,cC,h3];rcases h with⟨a,b,-,c⟩ | h
  ·exact .inl ⟨a,b,c⟩
  ·exact .inr h
def abz{pl:List (ByteArray×Int)}{F:List aX}{t:bs}(af:right t=true):∀ (m j:Nat),j<t.ns.length->t.ns.length-j<=m->(o2 pl F t.ns j).2=true->(o2 pl F t.ns t.bx).2=true
 |0,j,ah,hm,_=>by omega
 |m+1,j,ah,hm,h=>by
  by_cases e:(j:Int)=t.bx;·rw[<-e];exact h
  ·obtain⟨p,aI,ae,a1⟩:=Xp af ah e;exact abz af m p aI Z ((Sp af aI).2 ⟨_,ae,.inr h⟩)
def anV{l:List Int}{k:Int}(ae:k∈l)(h:l.length=1):l.headD 0=k:=by
 match l,h with
 |[a],_=>exact(eL.1 ae).symm
def abA{pl:List (ByteArray×Int)}{F:List aX}{t:bs}(af:right t=true)(aa:∀ d∈t.ns,d.k=6->d.ap.length=1):∀ (m j:Nat),j<m->∀ (ah:j<t.ns.length),(o2 pl F t.ns j).2=true->od t.ns (ey pl F t.ns [])=true
 |0,j,h,_,_=>absurd h (m6 _)
 |m+1,j,hm,ah,h=>by
  obtain⟨k,ae,⟨a,b,-,c⟩ | h⟩:=(Sp af ah).1 h;·refine E5.2 ⟨t.ns[j],bK ah,?_⟩;simp only[cC,h3];refine⟨a,b,?_⟩;rw[anV ae (aa _ (bK ah) a)];exact c
  ·obtain⟨ad,aj⟩:=lb af j ah k ae;obtain⟨q,rfl⟩:=eh ad;exact abA af aa m q Z Z h
def anW{pl:List (ByteArray×Int)}(af:right t=true)(aa:∀ d∈t.ns,d.k=6->d.ap.length=1):(o2 pl F t.ns t.bx).2=od t.ns (ey pl F t.ns []):=by
 obtain⟨g0,hy⟩:=kE af;obtain⟨r,eb⟩:=eh g0;apply r8.2;constructor
 ·intro h;rw[eb]at h;exact abA af aa (r+1) r Z Z h
 ·intro h;obtain⟨d,ai,h⟩:=E5.1 h;obtain⟨j,ah,rfl⟩:=iI ai;simp only[cC,h3]at h;obtain⟨a,b,c⟩:=h;have az:=aa _ ai a;have ae:t.ns[j].ap.headD 0∈t.ns[j].ap:=by
   match ab:t.ns[j].ap,az with
   |[q],_=>simp
  exact abz af t.ns.length j ah Z ((Sp af ah).2 ⟨_,ae,.inl ⟨a,b,rfl,c⟩⟩)
def abB{b:Bool}{x:Nat}:∀ {xs:List (aX×List Nat)},x∈As b xs->∃ y∈xs,x∈y.2
 |[],h=>by rw[anR]at h;cases h
 |y::xs,h=>by
  rw[anS]at h;rcases c1.1 h with h | h;·exact⟨y,.head _,h⟩
  ·cases ag:b && !y.1.z with
   |true=>rw[ag]at h;cases h| false=>rw[ag]at h;obtain⟨z,bg,ab⟩:=abB (xs:=xs) h;exact⟨z,.tail _ bg,ab⟩
def abC{ds:List a3}{F:List aX}{t:bs}(af:right t=true)(ed:wH (bM ds) t.ns=true):∀ (m j:Nat),j<m->j<t.ns.length->∀ x∈(gu (bM ds) F t.ns j).2,x<ds.length
 |0,j,h,_=>absurd h (m6 _)
 |m+1,j,hm,ah=>by
  intro x ab;rw[Qf af ah]at ab;have ab:x∈lg (bM ds) t.ns[j] (t.ns[j].ap.map (gu (bM ds) F t.ns)):=ab;have nn:=fN.1 ed _ (bK ah);by_cases aj:t.ns[j].k=3
  ·obtain⟨q,Hj,zO,Sj⟩:=abc (nm:=t.ns[j].t) (ds:=ds) (by simpa[aj]using nn);rw[lg,gy aj,cF,Sj]at ab;have:x=q:=by simpa using ab
   omega
  by_cases cG:t.ns[j].k=6/\t.ns[j].hi=0;·rw[lg,e8 aj,cD,e8 (show ¬ t.ns[j].k=4 by omega),cD,gy cG.1,gy cG.2]at ab;cases ab
  ·rw[anT aj cG]at ab;obtain⟨y,aG,anX⟩:=abB ab;obtain⟨k,ae,rfl⟩:=c3.1 aG;obtain⟨aa,ad⟩:=lb af j ah k ae;obtain⟨q,rfl⟩:=eh aa;exact abC af ed m q Z Z x anX
def Sq(bc:wI g)(i:Nat):∀ k∈lY g.ds F i,k<g.ds.length:=by
 intro k ae;unfold lY at ae;by_cases h:i<g.ds.length
 ·rw[dy h]at ae;have g6:=bK h;have af:=bc.right _ g6;obtain⟨g0,hy⟩:=kE af;obtain⟨r,eb⟩:=eh g0;have ae:k∈(gu (bM g.ds) F g.ds[i].t.ns g.ds[i].t.bx).2:=ae;rw[eb]at ae;exact abC af (bc.named _ g6) (r+1) r Z Z k ae
 ·rw[tj Z]at ae;cases ae
def abD(bc:wI g)(lu:g.ds.length<=64){i k:Nat}(hi:i<64):qB (qK g.ds F).m i k ↔ ms (lY g.ds F) i k:=by
 constructor
 ·intro h
  induction h with
  |one ae h=>rw[Me lu ae]at h;exact .one i5| step h ah t aQ=>rw[Me lu ah]at h;exact .step i5 (aQ ah)
 ·intro h
  induction h with
  |one h=>have:=Sq bc _ _ h;exact .one Z (by rw[Me lu Z];simpa using h)| step h t aQ=>have:=Sq bc _ _ h;exact .step (by rw[Me lu Z];simpa using h) Z (aQ Z)
def abE(aC:n<=64)(p q:Nat->Bool)(aa:∀ k,k<n->p k=q k)(ad:∀ k,n<=k->k<64->p k=false):(List.range 64).filter p=(List.range n).filter q:=by
 have lu:(List.range 64)=List.range n++(List.range' n (64-n)):=by rw[Df,Df,show 64=n+(64-n) by omega,<-List.range'_append_1];simp
 have aj:(List.range' n (64-n)).filter p=[]:=by rw[List.filter_eq_nil_iff];intro k ae;rw[List.mem_range'_1]at ae;rw[ad k Z Z];simp
 rw[lu,Ed,aj,dK];apply F4;intro k ae;exact aa k (by simpa using ae)
def anY(aw:g.ok I)(bc:wI g)(F:List aX)(i:Nat):w3 g.ds F i=Iu g.ds F i:=by
 unfold w3 Iu;by_cases h:i<g.ds.length
 ·rw[dy h];have g6:=bK h;have af:=bc.right _ g6;have au:=(aw.ds _ g6).t;refine anW af λd ai ae=>?_;obtain⟨j,ah,rfl⟩:=iI ai;have b':=au.ns _ ai;have:=(aa5 b'.k.1 (DG af ah)).one Z;omega
 ·rw[tj Z]
def anZ(aw:g.ok I)(bc:wI g)(lu:g.ds.length<=64)(F:List aX):Ar (qK g.ds F)=pV g.ds F:=by
 unfold Ar pV bitsOf;refine abE lu _ _ (λk ae=>?_) (λk ae eU=>?_)
 ·rw[abt lu Z,anY aw bc]
 ·rw[abt lu eU,Iu,tj ae]
open Classical in
noncomputable def rQ(ds:List a3)(F:List aX):List Nat:=(List.range ds.length).filter λi=>decide (ms (lY ds F) i i)
def abF{ds:List a3}{i:Nat}(h:ds.length<=i):lY ds F i=[]:=by rw[lY,tj h]
open Classical in
def an0(bc:wI g)(lu:g.ds.length<=64)(F:List aX):w2 (qK g.ds F)=rQ g.ds F:=by
 unfold w2 rQ;refine abE lu _ _ (λk ae=>?_) (λk ae eU=>?_)
 ·exact decide_eq_decide.2 (abD bc lu Z)
 ·refine e8 λao=>?_;have ao:=(abD bc lu eU).1 ao;have aC:=abF (F:=F) ae;cases ao with
  |one h=>rw[aC]at h;cases h| step h t=>rw[aC]at h;cases h
def Sr(h:dO ay g=0):g.n<=64:=by
 unfold dO at h;cases aa:decide ((g.n:Int)=0)with
 |true=>rw[aa]at h;simp at h
 |false=>
  rw[aa,cD]at h;cases ad:n6 g.ds with
  |false=>rw[ad]at h;simp at h
  |true=>
   rw[ad]at h;cases aj:pJ ay g with
   |true=>rw[aj]at h;simp at h| false=>unfold pJ at aj;simp only[tk,ss]at aj;omega
def abG{A:Nat->List Nat}{n:Nat}{fC:List Nat}(dD:∀ x,∀ y∈A x,y<n):∀ (f k:Nat) (l:List Nat),tZ A n k fC l->n+1<=f+k->tZ A n (Fa A f k l).length fC (Fa A f k l)
 |0,k,l,h,aE=>by have:=h.len;have:=h.k;omega
 |f+1,k,l,h,aE=>by
  rw[Fa];cases ab:l[k]? with
  |none=>
   have aa:k=l.length:=by have:=h.k;have:=List.getElem?_eq_none_iff.1 ab;omega
   subst aa;exact h
  |some x=>exact abG dD f (k+1) _ (h.next dD ab) Z
def ms.congr{B:Nat->List Nat}(h:∀ i k,k∈A i->k∈B i){i k:Nat}(ao:ms A i k):ms B i k:=by
 induction ao with
 |one aa=>exact .one (h _ _ aa)| step aa t aQ=>exact .step (h _ _ aa) aQ
def abH(bc:wI g){i k:Nat}:k∈pU g.ds F i ↔ k∈lY g.ds F i:=by
 unfold pU;rw[nV];constructor
 ·rintro⟨-,h⟩;simpa using h
 ·intro h;exact⟨by simpa using Sq bc i k h,i5⟩
def an1(bc:wI g){i k:Nat}:ms (pU g.ds F) i k ↔ ms (lY g.ds F) i k:=
 ⟨ms.congr λ_ _ h=>(abH bc).1 h,ms.congr λ_ _ h=>(abH bc).2 h⟩
def abI{ds:List a3}{i k:Nat}(h:k∈pU ds F i):k<ds.length:=by unfold pU at h;simpa using(nV.1 h).1
def an2(ds:List a3)(F:List aX)(i:Nat):(pU ds F i).Nodup:=List.Nodup.sublist zg EM
def tZ.start{ds:List a3}(i:Nat):tZ (pU ds F) ds.length 0 (pU ds F i) (pU ds F i):=
 ⟨an2 ds F i,λx ab=>abI ab,λ_ h=>h,λ_ h=>.inl h,λj x ah=>absurd ah (m6 _),dQ _⟩
def CL(ds:List a3)(F:List aX):List Nat:=(List.range ds.length).filter λi=>(Fa (pU ds F) (ds.length+1) 0 (pU ds F i)).contains i
open Classical in
def an3(bc:wI g)(F:List aX):CL g.ds F=rQ g.ds F:=by
 unfold CL rQ;refine F4 λi _=>?_;have aa:=abG (λx y aG=>abI aG) (g.ds.length+1) 0 _ (tZ.start (ds:=g.ds) (F:=F) i) Z;have ad:=(aa.done i).trans (an1 bc);cases ao:(Fa (pU g.ds F) (g.ds.length+1) 0 (pU g.ds F i)).contains i with
 |true=>exact(gy (ad.1 (by simpa using ao))).symm| false=>refine(e8 λh=>?_).symm;have:=ad.2 h;rw[<-List.contains_iff_mem,ao]at this;cases this
def vx:List Bool->Nat
 |[]=>0| b::r=>bif b then vx r+1 else vx r
open Classical in
noncomputable def Mh(ds:List a3):List aX:=if h:∃ F,ie ds F then h.choose else []
def Ss{ds:List a3}(h:ie ds F):Mh ds=F:=by have ab:∃ F,ie ds F:=⟨F,h⟩;unfold Mh;rw[dif_pos ab];exact ab.choose_spec.unique h
def j6(ay:List Int)(g:cE)(r:Int×Int):Prop:=(dO ay g≠0/\r=(0,dO ay g))\/(dO ay g=0/\∃ F,ie g.ds F/\r=if 0<(rQ g.ds F).length then((((rQ g.ds F).headD 0:Nat):Int),42)else if 0<(pV g.ds F).length then((((pV g.ds F).headD 0:Nat):Int),43)else(0,0))
def j6.eq{l m:Int×Int}(h:j6 ay g l)(bd:j6 ay g m):l=m:=by
 rcases h with⟨a,rfl⟩ | ⟨a,F,d,rfl⟩<;>rcases bd with⟨bN,rfl⟩ | ⟨bN,c7,d',rfl⟩
 ·rfl
 ·exact absurd bN a
 ·exact absurd a bN
 ·rw[d.unique d']
def an4(a6:en I ay)(aw:g.ok I)(jP:∀ d∈g.ds,vg d.t):Spec Tryz.prog 110 [g.val] I [] λv I' M'=>(∀ b o,I b=some o->I' b=some o)/\M'=[] /\ ∃ r:Int×Int,v=.tuple #[.int .i64 r.1,.int .i64 r.2]/\j6 ay g r:=
 Spec.jN (anO a6 aw jP Sr) λv I' M' h=>by
  obtain⟨aa,ad,r,aj,bD⟩:=h;refine⟨aa,ad,r,aj,?_⟩;rcases bD with bD | ⟨hm,F,c,d⟩;·exact .inl bD
  ·have bc:=K6 aw.n hm;have lu:=Sr hm;have ic:=aw.n;refine .inr ⟨hm,F,c,?_⟩;rw[d,It,bS am,an0 bc Z,anZ aw bc Z]
def St(a6:en I ay)(aw:g.ok I)(jP:∀ d∈g.ds,vg d.t):Spec Tryz.prog 39 [g.val] I [] λv I' M'=>(∀ b o,I b=some o->I' b=some o)/\M'=[] /\
  ∃ r:Int×Int,v=.int .i64 r.2/\j6 ay g r:=by
 refine bU [] a0 Tryz.func39 rfl rfl rfl ?_;intro B ax;refine a8.mk [] [] _ (.refl _) (an4 a6 aw jP) ?_;rintro v I1 N -⟨c8,rfl,r,rfl,h⟩;exact⟨_,_,.refl,c8,rfl,r,rfl,h⟩
section
end
structure rR where
 k:Int
 cf:Int
 s1:Int
 s2:Int
 cH:Int
 t:List UInt8
 lo:Int
 hi:Int
 ap:List Int
def rR.cu(c:rR)(a:Option Addr)(n k:Nat):al:=⟨c.k,c.cf,c.s1,c.s2,c.cH,⟨c.t.toArray⟩,c.lo,c.hi,a,n,k,c.ap⟩
inductive yB:List rR->List al->Prop
 |nil:yB [] []| cons {c cs ns} (a:Option Addr) (n k:Nat) (t:yB cs ns):yB (c::cs) (c.cu a n k::ns)
structure hZ where
 ns:List rR
 bx:Int
structure Fb(c:hZ)(t:bs):Prop where
 ns:yB c.ns t.ns
 bx:t.bx=c.bx
structure gK where
 name:List UInt8
 t:hZ
inductive lZ:List gK->List a3->Prop
 |nil:lZ [] []| cons {c cs ds} {t:bs} (h:Fb c.t t) (k:lZ cs ds):lZ (c::cs) (⟨⟨c.name.toArray⟩,t⟩::ds)
def abJ:Int->Bool
 | .ofNat k=>Nat.ble k 9223372036854775807| .negSucc k=>Nat.ble k 9223372036854775807
def abK:Int->Bool
 | .ofNat k=>Nat.ble k 18446744073709551615| .negSucc _=>false
def okB:Int->Bool
 | .ofNat k=>Nat.ble k 255| .negSucc _=>false
def an5{x:Int}(h:abJ x=true):eC x:=by
 cases x with
 |ofNat k=>have:=bJ h;exact⟨by simp only[BI];omega,by simp only[BI];omega⟩| negSucc k=>have:=bJ h;exact⟨Z,Z⟩
def an6{x:Int}(h:abK x=true):ga x:=by
 cases x with
 |ofNat k=>have:=bJ h;exact⟨am,d4⟩| negSucc k=>cases h
def an7{x:Int}(h:okB x=true):0<=x/\x<256:=by
 cases x with
 |ofNat k=>have:=bJ h;exact⟨am,d4⟩| negSucc k=>cases h
noncomputable def Su:aq->Option Int
 | .i .u8 n=>bX (okB n) (some n) none| _=>none
noncomputable def Fc:aq->Option Int
 | .i .u64 n=>bX (abK n) (some n) none| _=>none
noncomputable def Fe:aq->Option Int
 | .i .i64 n=>bX (abJ n) (some n) none| _=>none
noncomputable def Mi:aq->Option (List UInt8)
 | .s l=>bX (Nat.ble l.length 140737488355328) (some l) none| _=>none
section
variable{D:bR}{v:aq}{u:Value}
def an8{n:Int}(h:Su v=some n)(ak:aV D v u):u=.int .u8 n/\0<=n/\n<256:=by
 unfold Su at h;split at h
 ·obtain⟨aa,ad⟩:=fV h;cases ad;simp only[aV]at ak;exact⟨ak,an7 aa⟩
 ·cases h
def Mj{n:Int}(h:Fc v=some n)(ak:aV D v u):u=.int .u64 n/\ga n:=by
 unfold Fc at h;split at h
 ·obtain⟨aa,ad⟩:=fV h;cases ad;simp only[aV]at ak;exact⟨ak,an6 aa⟩
 ·cases h
def Mk{n:Int}(h:Fe v=some n)(ak:aV D v u):u=.int .i64 n/\eC n:=by
 unfold Fe at h;split at h
 ·obtain⟨aa,ad⟩:=fV h;cases ad;simp only[aV]at ak;exact⟨ak,an5 aa⟩
 ·cases h
def abL{l:List UInt8}(h:Mi v=some l)(ak:aV D v u):u=.string ⟨l.toArray⟩/\(⟨l.toArray⟩:ByteArray).size<=140737488355328:=by
 unfold Mi at h;split at h
 ·obtain⟨aa,ad⟩:=fV h;cases ad;simp only[aV]at ak;exact⟨ak,bJ aa⟩
 ·cases h
end
noncomputable def Iw{R:Type}(G:GT)(m:bk fF)(x:aq)(size b:Nat)(K:List aq->Option R):Option R:=match x with
 | .sn=>K []| .so=>K []| .sl id off n c=>bX (Nat.ble n c) (bX (Nat.ble (Nat.mul n b) 140737488355328) (tQ G m (.p id off) (Nat.mul n size) K) none) none| .sx id off e n=>bX (Nat.ble (Nat.mul n b) 140737488355328) (tQ G m (.p id off) (Nat.mul n size) K) none| _=>none
noncomputable def ints:List aq->Option (List Int)
 |[]=>some []| v::l=>bu (Fe v) none λn=>bu (ints l) none λr=>some (n::r)
noncomputable def Ml(G:GT)(m:bk fF):List aq->Option (List rR)
 |[]=>some []
 |a::b::c::d::e::f::g::h::x::l=>bu (Su a) none λa=>bu (Fc b) none λb=>bu (Fc c) none λc=>bu (Fc d) none λd=>bu (Fc e) none λe=>bu (Mi f) none λf=>bu (Fe g) none λg=>bu (Fe h) none λh=>
  bu (Iw G m x 1 8 ints) none λks=>bu (Ml G m l) none λns=>some (⟨a,b,c,d,e,f,g,h,ks⟩::ns)
 |_=>none
noncomputable def Mm(G:GT)(m:bk fF)(x r:aq):Option hZ:=bu (Iw G m x 9 96 (Ml G m)) none λns=>bu (Fe r) none λr=>some ⟨ns,r⟩
noncomputable def Mn(G:GT)(m:bk fF):List aq->Option (List gK)
 |[]=>some []| a::x::r::l=>bu (Mi a) none λa=>bu (Mm G m x r) none λt=>bu (Mn G m l) none λds=>some (⟨a,t⟩::ds)
 |_=>none
noncomputable def Sv(G:GT)(m:bk fF):aq->Option (List gK)
 | .a [x]=>Iw G m x 3 48 (Mn G m)| _=>none
section
variable{Y:gH}{D:bR}{m:bA}{I J:aH}{M:List aA}
def Sw(h:dc Y D m I M)(a4:tY I M J){x:aq}(ab:aV D x u){K:List aq->Option R}{r:R}(af:Iw Y.G m.t x size b K=some r) :
  ∃ a n c l vs,u=.slice a n c/\cx J a n c size b vs/\bO D l vs/\K l=some r:=by
 unfold Iw at af;split at af
 ·simp only[aV]at ab;exact⟨none,0,0,[],[],ab,⟨am,⟨cc _,Z⟩,.inl rfl⟩,by simp[bO],af⟩
 ·simp only[aV]at ab;obtain⟨a,c,ab⟩:=ab;exact⟨some a,0,c,[],[],ab,⟨am,⟨dQ _,Z⟩,.inl rfl⟩,by simp[bO],af⟩
 ·rename_i id off n c;obtain⟨aa,af⟩:=fV af;obtain⟨ad,af⟩:=fV af;simp only[aV]at ab;obtain⟨a,a7,ab⟩:=ab;obtain⟨aR,l,vs,aK,ba,cA,ee⟩:=wQ h (x:=.p id off) (u:=.pointer (some ⟨a.b,a.o+off,none⟩)) fd af;cases aK;obtain⟨a',cs,T,f,bh,bW,fu⟩:=ba;exact⟨_,n,c,l,vs,ab,⟨fu,⟨bJ aa,bJ ad⟩,.inr ⟨_,rfl,rfl,cs,T,f,a4.aF _ _ bh,bW⟩⟩,cA,ee⟩
 ·rename_i id off e n;obtain⟨ad,af⟩:=fV af;simp only[aV]at ab;obtain⟨a,a7,ao,ab⟩:=ab;obtain⟨aR,l,vs,aK,ba,cA,ee⟩:=wQ h (x:=.p id off) (u:=.pointer (some ⟨a.b,a.o+off,none⟩)) fd af;cases aK;obtain⟨a',cs,T,f,bh,bW,fu⟩:=ba;exact⟨_,n,a.c-e,l,vs,ab,⟨fu,⟨Z,bJ ad⟩,.inr ⟨_,rfl,rfl,cs,T,f,a4.aF _ _ bh,bW⟩⟩,cA,ee⟩
 ·cases af
def abM:∀ {l:List aq} {vs:List Value} {ks:List Int},ints l=some ks->bO D l vs->vs=ks.map (Value.int .i64 ·)/\∀ x∈ks,eC x
 |[],vs,ks,h,ak=>by cases h;simp only[bO]at ak;exact⟨ak,am⟩
 |v::l,vs,ks,h,ak=>by unfold ints at h;obtain⟨n,aa,h⟩:=ct h;obtain⟨r,ad,h⟩:=ct h;cases h;simp only[bO]at ak;obtain⟨x,xs,a',bh,rfl⟩:=ak;obtain⟨rfl,aK⟩:=Mk aa a';obtain⟨rfl,ba⟩:=abM ad bh;exact⟨rfl,λx ab=>(er.1 ab).elim (λe=>e ▸ aK) (ba x)⟩
def abN(h:dc Y D m I M)(a4:tY I M J):∀ (l:List aq) {vs:List Value} {cs:List rR},Ml Y.G m.t l=some cs->bO D l vs->∃ ns:List al,vs=ns.flatMap al.cells/\yB cs ns/\∀ d∈ns,d.ok J
 |[],vs,cs,af,ak=>by cases af;simp only[bO]at ak;exact⟨[],ak,.nil,am⟩
 |a::b::c::d::e::f::g::i::x::l,vs,cs,af,ak=>by
  unfold Ml at af;obtain⟨bN,aa,af⟩:=ct af;obtain⟨ik,ad,af⟩:=ct af;obtain⟨c',aj,af⟩:=ct af;obtain⟨d',aJ,af⟩:=ct af;obtain⟨c2,bD,af⟩:=ct af;obtain⟨xT,cG,af⟩:=ct af;obtain⟨ei,eZ,af⟩:=ct af;obtain⟨gQ,fx,af⟩:=ct af;obtain⟨ks,dT,af⟩:=ct af;obtain⟨jh,qs,af⟩:=ct af;cases af;simp only[bO]at ak;obtain⟨_,_,eQ,⟨_,_,cZ,⟨_,_,hq,⟨_,_,nA,⟨_,_,R5,⟨_,_,an9,⟨_,_,aoa,⟨_,_,aob,⟨_,_,aoc,aod,rfl⟩,rfl⟩,rfl⟩,rfl⟩,rfl⟩,rfl⟩,rfl⟩,rfl⟩,rfl⟩:=ak;obtain⟨rfl,aK⟩:=an8 aa eQ;obtain⟨rfl,ba⟩:=Mj ad cZ;obtain⟨rfl,cA⟩:=Mj aj hq;obtain⟨rfl,ee⟩:=Mj aJ nA;obtain⟨rfl,ny⟩:=Mj bD R5;obtain⟨rfl,m4⟩:=abL cG an9;obtain⟨rfl,EW⟩:=Mk eZ aoa;obtain⟨rfl,H'⟩:=Mk fx aob;obtain⟨ca,aF,cr,li,axy,rfl,wX,aoe,aof⟩:=Sw h a4 aoc dT;obtain⟨rfl,Sx⟩:=abM aof aoe;obtain⟨ns,rfl,Sy,aog⟩:=abN h a4 l qs aod;refine⟨rR.cu ⟨bN,ik,c',d',c2,xT,ei,gQ,ks⟩ ca aF cr::ns,rfl,.cons ca aF cr Sy,λy aG=>?_⟩;rcases er.1 aG with rfl | aG;·exact⟨aK,ba,cA,ee,ny,jU m4 bv,EW,H',wX,Sx⟩
  ·exact aog y aG
def abO(h:dc Y D m I M)(a4:tY I M J){x r:aq}{w:Value}{c:hZ}(af:Mm Y.G m.t x r=some c)(ab:aV D x u)(hw:aV D r w):∃ t:bs,u=.slice t.a t.n t.c/\w=.int .i64 t.bx/\t.ok J/\Fb c t:=by unfold Mm at af;obtain⟨ns,aa,af⟩:=ct af;obtain⟨k,ad,af⟩:=ct af;cases af;obtain⟨rfl,aK⟩:=Mk ad hw;obtain⟨a,n,c,l,vs,rfl,ba,cA,ee⟩:=Sw h a4 ab aa;obtain⟨ds,rfl,ny,m4⟩:=abN h a4 l ee cA;exact⟨⟨ds,a,n,c,k⟩,rfl,rfl,⟨ba,m4,aK⟩,⟨ny,rfl⟩⟩
def abP(h:dc Y D m I M)(a4:tY I M J):∀ (l:List aq) {vs:List Value} {cs:List gK},Mn Y.G m.t l=some cs->bO D l vs->∃ ds:List a3,vs=ds.flatMap a3.cells/\lZ cs ds/\∀ d∈ds,d.ok J
 |[],vs,cs,af,ak=>by cases af;simp only[bO]at ak;exact⟨[],ak,.nil,am⟩
 |a::x::r::l,vs,cs,af,ak=>by
  unfold Mn at af;obtain⟨bN,aa,af⟩:=ct af;obtain⟨bi,ad,af⟩:=ct af;obtain⟨ds',aj,af⟩:=ct af;cases af;simp only[bO]at ak;obtain⟨_,_,eQ,⟨_,_,cZ,⟨_,_,hq,nA,rfl⟩,rfl⟩,rfl⟩:=ak;obtain⟨rfl,aK⟩:=abL aa eQ;obtain⟨t,rfl,rfl,ba,cA⟩:=abO h a4 ad cZ hq;obtain⟨ds,rfl,ee,ny⟩:=abP h a4 l aj nA;refine⟨⟨⟨bN.toArray⟩,t⟩::ds,rfl,.cons (c:=⟨bN,bi⟩) cA ee,λy aG=>?_⟩;rcases er.1 aG with rfl | aG;·exact⟨aK,ba⟩
  ·exact ny y aG
def aoh(h:dc Y D m I M)(a4:tY I M J){x:aq}{cs:List gK}(af:Sv Y.G m.t x=some cs)(ab:aV D x u):∃ g:cE,u=g.val/\g.ok J/\lZ cs g.ds:=by
 unfold Sv at af;split at af
 ·simp only[aV,bO]at ab;obtain⟨_,⟨y,_,ab,rfl,rfl⟩,rfl⟩:=ab;obtain⟨a,n,c,l,vs,rfl,ba,cA,ee⟩:=Sw h a4 ab af;obtain⟨ds,rfl,ny,m4⟩:=abP h a4 l ee cA;exact⟨⟨ds,a,n,c⟩,rfl,⟨ba,m4⟩,ny⟩
 ·cases af
end
noncomputable def nQ(f g:Nat)(text:List UInt8):Option (List gK×Int×IntKind×Int):=bu (yl vu (ll vu f) g [.s text] ⟨.nil,0⟩) none λp=>match p.1 with
 | .t [x,.i .i64 a,.i k e]=>bu (Sv Ip p.2.t x) none λc=>some (c,a,k,e)
 |_=>none
noncomputable def lv(f g:Nat)(text:List UInt8):Option (hZ×Int×IntKind×Int):=bu (yl vu (ll vu f) g [.s text] ⟨.nil,0⟩) none λp=>match p.1 with
 | .t [.a [x,r],.i .i64 a,.i k e]=>bu (Mm Ip p.2.t x r) none λc=>some (c,a,k,e)
 |_=>none
def aoi(a6:en I fw){g:Nat}{c:List gK}{a:Int}{k:IntKind}{e:Int}(h:nQ f g text=some (c,a,k,e)) :
  Spec Tryz.prog g [.string ⟨text.toArray⟩] I [] λr J ky=>ky=[]/\(∀ b o,I b=some o->J b=some o)/\∃ G:cE,r=.tuple #[G.val,.int .i64 a,.int k e]/\G.ok J/\lZ c G.ds:=by
 unfold nQ at h;obtain⟨⟨v,m'⟩,aa,h⟩:=ct h;refine Spec.jN (aa4 a6 aa (us:=[.string ⟨text.toArray⟩]) (by simp[bO,aV])) ?_;rintro r J ky⟨rfl,bn,I',M',bF,ak,hm,a4⟩;refine⟨rfl,bn,?_⟩;simp only at h;split at h
 ·obtain⟨c',ad,h⟩:=ct h;cases h;simp only[aV,bO]at ak;obtain⟨_,⟨u,_,hu,⟨_,_,rfl,⟨_,_,rfl,rfl,rfl⟩,rfl⟩,rfl⟩,rfl⟩:=ak;obtain⟨G,rfl,a',bh⟩:=aoh hm a4 ad hu;exact⟨G,rfl,a',bh⟩
 ·cases h
def abQ(a6:en I fw){g:Nat}{c:hZ}{a:Int}{k:IntKind}{e:Int}(h:lv f g text=some (c,a,k,e)) :
  Spec Tryz.prog g [.string ⟨text.toArray⟩] I [] λr J ky=>ky=[]/\(∀ b o,I b=some o->J b=some o)/\∃ t:bs,r=.tuple #[t.val,.int .i64 a,.int k e]/\t.ok J/\Fb c t:=by
 unfold lv at h;obtain⟨⟨v,m'⟩,aa,h⟩:=ct h;refine Spec.jN (aa4 a6 aa (us:=[.string ⟨text.toArray⟩]) (by simp[bO,aV])) ?_;rintro r J ky⟨rfl,bn,I',M',bF,ak,hm,a4⟩;refine⟨rfl,bn,?_⟩;simp only at h;split at h
 ·obtain⟨c',ad,h⟩:=ct h;cases h;simp only[aV,bO]at ak;obtain⟨_,⟨u,_,⟨_,⟨_,_,ab,⟨_,_,af,rfl,rfl⟩,rfl⟩,rfl⟩,⟨_,_,rfl,⟨_,_,rfl,rfl,rfl⟩,rfl⟩,rfl⟩,rfl⟩:=ak;obtain⟨t,rfl,rfl,a',bh⟩:=abO hm a4 ad ab af;exact⟨t,rfl,a',bh⟩
 ·cases h
def rR.pl(c:rR):al:=c.cu none 0 0
def hZ.jv(c:hZ):bs:=⟨c.ns.map rR.pl,none,c.ns.length,0,c.bx⟩
def gK.Sz(c:gK):a3:=⟨⟨c.name.toArray⟩,c.t.jv⟩
def fW(cs:List gK):cE:=⟨cs.map gK.Sz,none,cs.length,0⟩
def yB.aW{cs:List rR}{ns:List al}(h:yB cs ns):ns.map al.aW=cs.map rR.pl:=by
 induction h with
 |nil=>rfl| cons a n k t aQ=>rw[b0,b0,aQ];rfl
def yB.len{cs:List rR}{ns:List al}(h:yB cs ns):ns.length=cs.length:=by
 induction h with
 |nil=>rfl| cons a n k t aQ=>simp[aQ]
def Fb.aW{c:hZ}(h:Fb c t)(au:t.ok I):t.aW=c.jv:=by unfold bs.aW hZ.jv;rw[h.ns.aW,h.bx,<-au.n,h.ns.len]
def lZ.aW{cs:List gK}{ds:List a3}(h:lZ cs ds)(ai:∀ d∈ds,d.ok I):ds.map a3.aW=cs.map gK.Sz:=by
 induction h with
 |nil=>rfl| cons h k aQ=>rw[b0,b0,aQ λd fO=>ai d (.tail _ fO)];congr 1;unfold a3.aW gK.Sz;rw[h.aW (ai _ (.head _)).t]
def lZ.len{cs:List gK}{ds:List a3}(h:lZ cs ds):ds.length=cs.length:=by
 induction h with
 |nil=>rfl| cons h k aQ=>simp[aQ]
def At{cs:List gK}(h:lZ cs g.ds)(aw:g.ok I):g.aW=fW cs:=by unfold cE.aW fW;rw[h.aW aw.ds,<-aw.n,h.len]
def aoj(c:hZ):Bool:=c.ns.all λn=>decide (n.ap.length<=1000)
def aok{c:hZ}(h:Fb c t)(au:t.ok I)(ae:aoj c=true):vg t:=λn aC=>by
 have aa:=(au.ns n aC).aF;have ad:n.aW∈c.ns.map rR.pl:=by rw[<-h.ns.aW];exact c3.2 ⟨n,aC,rfl⟩
 obtain⟨x,ab,e⟩:=c3.1 ad;have aj:=cT (fN.1 ae x ab);have aJ:x.ap=n.ap:=congrArg al.ap e;rw[aJ]at aj;omega
def aol{cs:List gK}{ds:List a3}(h:lZ cs ds)(ai:∀ d∈ds,d.ok I)(ae:(cs.all λd=>d.t.ns.all λn=>decide (n.ap.length<=1000))=true):∀ d∈ds,vg d.t:=by
 induction h with
 |nil=>intro d ai;cases ai
 |cons h k aQ=>
  simp only[xp,cC]at ae;intro d hm;rcases er.1 hm with rfl | hm;·exact aok h (ai _ (.head _)).t ae.1
  ·exact aQ (λd fO=>ai d (.tail _ fO)) (by simpa using ae.2) d hm
def SA(ds:List a3)(F:List aX)(i:Nat):lY (ds.map a3.aW) F i=lY ds F i:=by
 unfold lY;rw[jJ,Ej];cases ds[i]? with
 |none=>rfl| some d=>show(gu (bM ds) F (d.t.ns.map al.aW) d.t.bx).2=_;rw[ako]
def aom(ds:List a3)(F:List aX)(i:Nat):w3 (ds.map a3.aW) F i=w3 ds F i:=by
 unfold w3;rw[jJ,Ej];cases ds[i]? with
 |none=>rfl| some d=>show(o2 (bM ds) F (d.t.ns.map al.aW) d.t.bx).2=_;rw[anU]
def aon(ds:List a3)(F:List aX):pU (ds.map a3.aW) F=pU ds F:=by funext i;unfold pU;rw[bB,SA]
def SB(ds:List a3)(F:List aX):pV (ds.map a3.aW) F=pV ds F:=by unfold pV;rw[bB];exact F4 λi _=>aom ds F i
def aoo(ds:List a3)(F:List aX):CL (ds.map a3.aW) F=CL ds F:=by unfold CL;rw[bB,aon]
def abR{ds:List a3}{l:List aX}(h:ie (ds.map a3.aW) l):ie ds l:=by
 refine⟨by rw[h.len,bB],λi hi=>?_,λm hm ao=>?_⟩
 ·have:=h.fix i i6;rwa [Ej,gh,K']at this
 ·refine h.least m (by rw[hm,bB]) λi hi=>?_;rw[Ej,gh,K'];exact ao i i6
def sT(ds:List a3)(F:List aX):Int×Int:=bif decide (0<(CL ds F).length)then((((CL ds F).headD 0:Nat):Int),42)else bif decide (0<(pV ds F).length)then((((pV ds F).headD 0:Nat):Int),43)else(0,0)
structure CM(cs:List gK)(F:List aX):Prop where
 may:dO fw (fW cs)=0
 Ix:ie (fW cs).ds F
 PG:(cs.all λd=>d.t.ns.all λn=>decide (n.ap.length<=1000))=true
def CM.of{cs:List gK}(dj:CM cs F)(aw:g.ok I)(aM:lZ cs g.ds):dO fw g=0/\ie g.ds F/\(∀ d∈g.ds,vg d.t):=by
 have ej:=At aM aw;have fE:g.ds.map a3.aW=(fW cs).ds:=congrArg cE.ds ej;have hm:dO fw g=0:=by rw[<-B9,ej];exact dj.may
 refine⟨hm,?_,aol aM aw.ds dj.PG⟩;have:=dj.Ix;rw[<-fE]at this;exact abR this
def SC{cs:List gK}(dj:CM cs F)(aw:g.ok I)(aM:lZ cs g.ds)(h:j6 fw g r):r=sT (fW cs).ds F:=by
 obtain⟨hm,bw,-⟩:=dj.of aw aM;have fE:g.ds.map a3.aW=(fW cs).ds:=congrArg cE.ds (At aM aw);have bc:=K6 aw.n hm;rcases h with⟨a,-⟩ | ⟨-,c7,mE,rfl⟩
 ·exact absurd hm a
 ·obtain rfl:=bw.unique mE;rw[<-fE,sT,aoo,SB,an3 bc];by_cases aa:0<(rQ g.ds F).length
  ·rw[b2 aa,gy aa,cF]
  ·rw[bS aa,e8 aa,cD];by_cases ad:0<(pV g.ds F).length
   ·rw[b2 ad,gy ad,cF]
   ·rw[bS ad,e8 ad,cD]
def Iy(ds:List a3):Nat->List aX->List aX
 |0,L=>L| k+1,L=>Iy ds k (ds.map (iJ (bM ds) L))
def abS{ds:List a3}:∀ (k:Nat) {L:List aX},oO ds L->ds.map (iJ (bM ds) (Iy ds k L))=Iy ds k L->ie ds (Iy ds k L)
 |0,L,aI,h=>by refine⟨aI.len,λi hi=>?_,aI.least⟩;have:=Mf (f:=iJ (bM ds) L) hi;have aa:ds.map (iJ (bM ds) L)=L:=h;rw[aa]at this;exact this
 |k+1,L,aI,h=>abS k aI.all.1 h
def qL(cs:List gK)(k:Nat):List aX:=Iy (fW cs).ds k (List.replicate (fW cs).ds.length cg)
def rS(cs:List gK)(F:List aX)(k:Nat):Bool:=decide (dO fw (fW cs)=0)&&(decide (qL cs k=F)&&(decide ((fW cs).ds.map (iJ (bM (fW cs).ds) F)=F)&&cs.all λd=>d.t.ns.all λn=>decide (n.ap.length<=1000)))
def Iz{cs:List gK}{k:Nat}(h:rS cs F k=true):CM cs F:=by simp only[rS,cC,h3]at h;obtain⟨aa,ad,aj,aJ⟩:=h;refine⟨aa,?_,v6⟩;have:=abS k (oO.start (fW cs).ds);unfold qL at ad;rw[ad]at this;exact this aj
section
end
section
end
def j6.get(hm:dO ay g=0)(h:j6 ay g r):r.2=0 ↔ (rQ g.ds (Mh g.ds)).length=0/\(pV g.ds (Mh g.ds)).length=0:=by
 rcases h with⟨a,-⟩ | ⟨-,F,c,rfl⟩
 ·exact absurd hm a
 ·rw[Ss c];by_cases aa:0<(rQ g.ds F).length
  ·rw[b2 aa];simp only;omega
  ·rw[bS aa];by_cases ad:0<(pV g.ds F).length
   ·rw[b2 ad];simp only;omega
   ·rw[bS ad];exact⟨λ_=>⟨Z,Z⟩,λ_=>rfl⟩
def aT.jg(bw:tY I M J){xs:List Value}(h:os.ok size xs)(bc:∀ x∈os.ar e,x∈M)(ag:os.n*b<=140737488355328):cx J (os.a.map λg=>⟨g,0,none⟩) os.n os.c size b xs:=by
 obtain⟨a,n,c,aS⟩:=os;cases a with
 |none=>obtain⟨aa,ad⟩:=h.nil rfl;exact⟨h.len,⟨aj',ag⟩,.inl aa⟩
 |some g=>obtain⟨aa,ad,aj,aJ⟩:=h.cap g rfl;exact⟨h.len,⟨ad,ag⟩,.inr ⟨⟨g,0,none⟩,rfl,rfl,aS.toArray,e,(0,0),bw.aF _ _ (.inr ⟨⟨g,.cells aS.toArray e (0,0)⟩,bc _ (.head _),rfl,rfl⟩),v6⟩⟩
def cx.yC{c:Nat}(h:cx I a n c size b vs)(M:List aA)(ax:0<n):∃ aR,a=some aR/\c6 I M aR (n*size) vs:=by
 rcases h.rd with aa | ⟨aR,aa,ad,cs,T,an,aj,aJ⟩
 ·omega
 ·exact⟨aR,aa,ad,cs,T,an,.inl aj,aJ,h.len⟩
def Ff(l:List Int):fH (l.map (.int .i64 ·))=true:=fN.2 λv ak=>by obtain⟨k,_,rfl⟩:=c3.1 ak;rfl
def Mo{f:α->List Value}(h:∀ x,fH (f x)=true)(l:List α):fH (l.flatMap f)=true:=fN.2 λv ak=>by obtain⟨x,_,ab⟩:=hl.1 ak;exact fN.1 (h x) v ab
def al.one(d:al):fH d.cells=true:=rfl
def a3.one(d:a3):fH d.cells=true:=rfl
def aop{c:Nat}(h:cx I a n c 1 8 vs)(aa:fH vs=true):Spec Tryz.prog 279 [.slice a n c] I M0 λv I' M'=>I'=I/\∃ os:aT,os.n=n/\os.ok 1 vs/\v=os.val/\M'=os.ar 3++M0:=by
 refine bU [] a0 Tryz.func279 rfl rfl rfl ?_;intro B ax;have hk:=h.cap;refine fL.Rv a0 rfl rfl ?_;refine aZ.mk (λao=>?_) (λao=>?_)
 ·have aC:n=0:=by
   rcases h.rd with ad | ⟨aR,ad,_⟩;·exact ad
   ·rw[ad]at ao;cases ao
  subst aC;have aj:vs=[]:=im (by rw[h.len,zj]);subst aj;exact⟨_,_,.refl,rfl,hL,rfl,kL 1,rfl,rfl⟩
 refine bQ.mk λb ag wu=>?_;refine bC.zX a0 rfl am (e:=3) rfl rfl rfl ⟨some b,0,0,[]⟩ (xs:=[]) ⟨rfl,(λh=>ci),(λg h=>⟨rfl,cc _,dQ _,rfl⟩)⟩ rfl (sa:=a) (m:=n) (c':=c) (b8:=vs) rfl h.len (h.yC _) aa [] M0 rfl ce (by show(0+n)*8<=_;omega) ?_;intro os aC bE bf;rw[hI]at bf;exact⟨_,_,.refl,rfl,os,aC.trans (dn n),bf,rfl,rfl⟩
def aoq{c:Nat}(h:cx I a n c 1 8 vs)(aa:fH vs=true):Spec Tryz.prog 279 [.slice a n c] I M0 λv I' M'=>(∀ b o,I b=some o->I' b=some o)/\M'=M0/\∃ bN c',v=.slice bN n c'/\cx I' bN n c' 1 8 vs:=by refine Spec.jN (Spec.frame (Spec.jg (aop (M0:=[]) h aa))) ?_;rintro v J M⟨M',rfl,-,a4,rfl,-,I',M1,⟨rfl,os,rfl,b3,rfl,rfl⟩,bw⟩;have hk:=h.cap;exact⟨a4,rfl,_,_,rfl,aT.jg bw b3 (λz bg=>iv _ bg) hk.2⟩
def aor{c:Nat}(h:cx I a n c 9 96 vs)(aa:fH vs=true):Spec Tryz.prog 287 [.slice a n c] I M0 λv I' M'=>I'=I/\∃ os:aT,os.n=n/\os.ok 9 vs/\v=os.val/\M'=os.ar 88++M0:=by
 refine bU [] a0 Tryz.func287 rfl rfl rfl ?_;intro B ax;have hk:=h.cap;refine fL.Rv a0 rfl rfl ?_;refine aZ.mk (λao=>?_) (λao=>?_)
 ·have aC:n=0:=by
   rcases h.rd with ad | ⟨aR,ad,_⟩;·exact ad
   ·rw[ad]at ao;cases ao
  subst aC;have aj:vs=[]:=im (by rw[h.len,zj]);subst aj;exact⟨_,_,.refl,rfl,hL,rfl,kL 9,rfl,rfl⟩
 refine bQ.mk λb ag wu=>?_;refine bC.zX a0 rfl am (e:=88) rfl rfl rfl ⟨some b,0,0,[]⟩ (xs:=[]) ⟨rfl,(λh=>ci),(λg h=>⟨rfl,cc _,dQ _,rfl⟩)⟩ rfl (sa:=a) (m:=n) (c':=c) (b8:=vs) rfl h.len (h.yC _) aa [] M0 rfl ce (by show(0+n)*96<=_;omega) ?_;intro os aC bE bf;rw[hI]at bf;exact⟨_,_,.refl,rfl,os,aC.trans (dn n),bf,rfl,rfl⟩
def aos{c:Nat}(h:cx I a n c 3 48 vs)(aa:fH vs=true):Spec Tryz.prog 286 [.slice a n c] I M0 λv I' M'=>I'=I/\∃ os:aT,os.n=n/\os.ok 3 vs/\v=os.val/\M'=os.ar 32++M0:=by
 refine bU [] a0 Tryz.func286 rfl rfl rfl ?_;intro B ax;have hk:=h.cap;refine fL.Rv a0 rfl rfl ?_;refine aZ.mk (λao=>?_) (λao=>?_)
 ·have aC:n=0:=by
   rcases h.rd with ad | ⟨aR,ad,_⟩;·exact ad
   ·rw[ad]at ao;cases ao
  subst aC;have aj:vs=[]:=im (by rw[h.len,zj]);subst aj;exact⟨_,_,.refl,rfl,hL,rfl,kL 3,rfl,rfl⟩
 refine bQ.mk λb ag wu=>?_;refine bC.zX a0 rfl am (e:=32) rfl rfl rfl ⟨some b,0,0,[]⟩ (xs:=[]) ⟨rfl,(λh=>ci),(λg h=>⟨rfl,cc _,dQ _,rfl⟩)⟩ rfl (sa:=a) (m:=n) (c':=c) (b8:=vs) rfl h.len (h.yC _) aa [] M0 rfl ce (by show(0+n)*48<=_;omega) ?_;intro os aC bE bf;rw[hI]at bf;exact⟨_,_,.refl,rfl,os,aC.trans (dn n),bf,rfl,rfl⟩
structure aot(I:aH)(t:bs)(os0:aT)(x:Nat×aT×List al×aH):Prop where
 i:x.1<=t.n
 ok:x.2.1.ok 9 (x.2.2.1.flatMap al.cells)
 aW:x.2.2.1.map al.aW=t.ns.map al.aW
 ns:∀ d∈x.2.2.1,d.ok x.2.2.2
 le:∀ b o,I b=some o->x.2.2.2 b=some o
 a:x.2.1.a=os0.a
 v:x.2.1.val=os0.val
def aou{L:List al}{i:Nat}(hi:i<L.length){d:al}(h:d.aW=L[i].aW):(L.set i d).map al.aW=L.map al.aW:=by
 rw[ri,h];refine Bq λj=>?_;rw[iB];split
 ·rename_i e;subst e;rw[bB,b2 hi,jJ,dy hi];rfl
 ·rfl
def yD{bq:aT}(h:os.val=bq.val):os.n=bq.n/\os.c=bq.c:=by
 unfold aT.val at h;injection h with aa ad aj
 exact⟨ad,aj⟩
def aov(au:t.ok I):Spec Tryz.prog 218 [t.val] I [] λv I' M'=>(∀ b o,I b=some o->I' b=some o)/\∃ (os:aT) (L:List al),v=.agg #[os.val,.int .i64 t.bx]/\os.n=t.n/\os.ok 9 (L.flatMap al.cells)/\M'=os.ar 88/\L.map al.aW=t.ns.map al.aW/\∀ d∈L,d.ok I':=by
 refine bU [] a0 Tryz.func218 rfl rfl rfl ?_;intro B ax;have g7:=au.n;have hk:=au.bb.cap;refine a8.whole _ (aor au.bb (Mo al.one _)) ?_;rintro v J N -⟨rfl,os0,aow,Au,rfl,gJ⟩;subst N;refine du.inv (ι:=Nat×aT×List al×aH) (λx=>{ bp:=[(1,.ref 1 0),(2,.ref 2 0),(10,.val os0.val),(11,.val (.int .i64 os0.n)),(12,.val (.int .i64 x.1))],cl:=[(1,[os0.val,.int .i64 t.bx]),(2,[.slice none 0 0,.int .i64 0])],cO:=x.2.2.2,c5:=x.2.1.ar 88++[] }) (λx=>aot J t os0 x) (λx=>t.n-x.1) ?_ ?_
 ·exact⟨(0,os0,t.ns,J),⟨dQ _,Au,rfl,au.ns,λ_ _ h=>h,rfl,rfl⟩,.refl,hh,.cons rfl (.cons rfl (.nil))⟩
 rintro⟨i,os,L,K⟩⟨hi,b3,ej,oe,bn,ob,lx⟩;simp only at hi b3 ej oe bn ob lx;have IA:L.length=t.ns.length:=by simpa using congrArg List.length ej
 obtain⟨hX,abT⟩:=yD lx;refine aZ.mk (λh=>?_) (λh=>?_)
 rotate_left
 ·exact⟨_,_,.refl,bn,os,L,by rw[lx];rfl,Z,b3,ak',ej,oe⟩
 have a1:i<t.n:=by have:(i:Int)<(os0.n:Int):=cT h;omega
 have lk:i<L.length:=by omega
 obtain⟨aR,bI,bo⟩:=aT.ok.row (I:=K) (M:=os.ar 88++[]) (e:=88) al.cL bv b3 (λz bg=>iv _ bg) lk;have hP:=oe _ (bK lk);have sU:=bI;rw[ob]at sU;refine bt.mk aR i sU rfl Z ?_;refine aU.mk _ bo ?_;refine cY.draw a0 rfl rfl rfl ?_;refine ev.whole _ (aoq hP.bb (Ff _)) (λv I' M' h x ab=>Pi) ?_;rintro v hQ N -⟨vy,gJ,bN,c',rfl,dB⟩;subst N;refine bt.mk aR i sU rfl Z ?_;have e6:({ L[i]with ca:=bN,cr:=c' }:al).ok hQ:={ hP.mono vy with bb:=dB };have SD:({ L[i]with ca:=bN,cr:=c' }:al).aW=L[i].aW:=rfl;have g4:=aou lk SD;refine aT.EL (e:=88) al.cells 9 al.cL b3 lk 8 (vs:=[.slice bN L[i].aF c']) (bJ rfl) rfl { L[i]with ca:=bN,cr:=c' } rfl [] [] am bI ?_;intro ig ma m8 lq iX;refine be.mk _ (c9 (i:=i) Z) ?_;refine⟨(i+1,ig,L.set i { L[i]with ca:=bN,cr:=c' },hQ),⟨⟨a1,iX,g4.trans ej,λd ai=>?_,λb o h=>vy _ _ (bn _ _ h),m8.trans ob,ma.trans lx⟩,ce⟩,.refl,hh,.cons rfl (.cons rfl (.nil))⟩;rcases w0 ai with ai | rfl
 ·exact(oe _ ai).mono vy
 ·exact e6
def abU(au:t.ok I):Spec Tryz.prog 218 [t.val] I M0 λv I' M'=>(∀ b o,I b=some o->I' b=some o)/\M'=M0/\∃ bi:bs,v=bi.val/\bi.ok I'/\bi.aW=t.aW:=by refine Spec.jN (Spec.frame (Spec.jg (aov au))) ?_;rintro v J M⟨M',rfl,-,a4,rfl,-,I',M1,⟨aa,os,L,rfl,aC,b3,rfl,ej,oe⟩,bw⟩;have hk:=au.bb.cap;refine⟨a4,rfl,⟨L,os.a.map λg=>⟨g,0,none⟩,os.n,os.c,t.bx⟩,rfl,⟨aT.jg bw b3 (λ_ h=>h) Z,λd ai=>(oe d ai).mono bw.le,au.bx⟩,?_⟩;unfold bs.aW;rw[ej,aC]
structure aox(I:aH)(g:cE)(os0:aT)(x:Nat×aT×List a3×aH):Prop where
 i:x.1<=g.n
 ok:x.2.1.ok 3 (x.2.2.1.flatMap a3.cells)
 aW:x.2.2.1.map a3.aW=g.ds.map a3.aW
 ds:∀ d∈x.2.2.1,d.ok x.2.2.2
 le:∀ b o,I b=some o->x.2.2.2 b=some o
 a:x.2.1.a=os0.a
 v:x.2.1.val=os0.val
def aoy{L:List a3}{i:Nat}(hi:i<L.length){d:a3}(h:d.aW=L[i].aW):(L.set i d).map a3.aW=L.map a3.aW:=by
 rw[ri,h];refine Bq λj=>?_;rw[iB];split
 ·rename_i e;subst e;rw[bB,b2 hi,jJ,dy hi];rfl
 ·rfl
def aoz(aw:g.ok I):Spec Tryz.prog 217 [g.val] I [] λv I' M'=>(∀ b o,I b=some o->I' b=some o)/\∃ (os:aT) (L:List a3),v=.agg #[os.val]/\os.n=g.n/\os.ok 3 (L.flatMap a3.cells)/\M'=os.ar 32/\L.map a3.aW=g.ds.map a3.aW/\∀ d∈L,d.ok I':=by
 refine bU [] a0 Tryz.func217 rfl rfl rfl ?_;intro B ax;have ic:=aw.n;have hk:=aw.bb.cap;refine a8.whole _ (aos aw.bb (Mo a3.one _)) ?_;rintro v J N -⟨rfl,os0,aow,Au,rfl,gJ⟩;subst N;refine du.inv (ι:=Nat×aT×List a3×aH) (λx=>{ bp:=[(1,.ref 1 0),(2,.ref 2 0),(10,.val os0.val),(11,.val (.int .i64 os0.n)),(12,.val (.int .i64 x.1))],cl:=[(1,[os0.val]),(2,[.slice none 0 0])],cO:=x.2.2.2,c5:=x.2.1.ar 32++[] }) (λx=>aox J g os0 x) (λx=>g.n-x.1) ?_ ?_
 ·exact⟨(0,os0,g.ds,J),⟨dQ _,Au,rfl,aw.ds,λ_ _ h=>h,rfl,rfl⟩,.refl,hh,.cons rfl (.cons rfl (.nil))⟩
 rintro⟨i,os,L,K⟩⟨hi,b3,ej,fE,bn,ob,lx⟩;simp only at hi b3 ej fE bn ob lx;have IA:L.length=g.ds.length:=by simpa using congrArg List.length ej
 obtain⟨hX,abT⟩:=yD lx;refine aZ.mk (λh=>?_) (λh=>?_)
 rotate_left
 ·exact⟨_,_,.refl,bn,os,L,by rw[lx];rfl,Z,b3,ak',ej,fE⟩
 have a1:i<g.n:=by have:(i:Int)<(os0.n:Int):=cT h;omega
 have lk:i<L.length:=by omega
 obtain⟨aR,bI,bo⟩:=aT.ok.row (I:=K) (M:=os.ar 32++[]) (e:=32) a3.cL bv b3 (λz bg=>iv _ bg) lk;have hP:=fE _ (bK lk);have sU:=bI;rw[ob]at sU;refine bt.mk aR i sU rfl Z ?_;refine aU.mk _ bo ?_;refine cY.draw a0 rfl rfl rfl ?_;refine ev.whole _ (abU hP.t) (λv I' M' h x ab=>Pi) ?_;rintro v hQ N -⟨vy,gJ,bi,rfl,jw,SE⟩;subst N;refine bt.mk aR i sU rfl Z ?_;have e6:(⟨L[i].name,bi⟩:a3).ok hQ:=⟨hP.name,jw⟩;have SD:(⟨L[i].name,bi⟩:a3).aW=L[i].aW:=by unfold a3.aW;rw[SE]
 have g4:=aoy lk SD;refine aT.EL (e:=32) a3.cells 3 a3.cL b3 lk 1 (vs:=[.slice bi.a bi.n bi.c,.int .i64 bi.bx]) (bJ rfl) rfl ⟨L[i].name,bi⟩ rfl [] [] am bI ?_;intro ig ma m8 lq iX;refine be.mk _ (c9 (i:=i) Z) ?_;refine⟨(i+1,ig,L.set i ⟨L[i].name,bi⟩,hQ),⟨⟨a1,iX,g4.trans ej,λd ai=>?_,λb o h=>vy _ _ (bn _ _ h),m8.trans ob,ma.trans lx⟩,ce⟩,.refl,hh,.cons rfl (.cons rfl (.nil))⟩;rcases w0 ai with ai | rfl
 ·exact(fE _ ai).mono vy
 ·exact e6
def aoA(aw:g.ok I):Spec Tryz.prog 217 [g.val] I M0 λv I' M'=>(∀ b o,I b=some o->I' b=some o)/\∃ (os:aT) (L:List a3),v=.agg #[os.val]/\os.n=g.n/\os.ok 3 (L.flatMap a3.cells)/\M'=os.ar 32++M0/\L.map a3.aW=g.ds.map a3.aW/\∀ d∈L,d.ok I':=by refine Spec.jN (Spec.frame (aoz aw)) ?_;rintro v J M⟨M',rfl,-,a4,aa,os,L,rfl,aC,b3,rfl,ej,fE⟩;exact⟨a4,os,L,rfl,aC,b3,rfl,ej,fE⟩
def aoB(f:α->List Value)(size:Nat)(aE:∀ x,(f x).length=size)(l:List α)(j:Nat):(l.drop j).flatMap f=(l.flatMap f).drop (j*size):=by
 by_cases h:j<=l.length
 ·have e:l.flatMap f=(l.take j).flatMap f++(l.drop j).flatMap f:=by rw[<-fS,px]
  have ad:((l.take j).flatMap f).length=j*size:=by rw[hc f size aE,KX h]
  rw[e,<-ad,Ra]
 ·have aa:l.length<=j:=by omega
  rw[oU aa,oU (by rw[hc f size aE];exact p' _ aa)];rfl
def aoC(aw:g.ok I){u:Nat}(hu:u<g.ds.length)(aC:g.n<=1000000)(au:t.ok I):Spec Tryz.prog 143 [g.val,.int .i64 u,t.val] I [] λv I' M'=>(∀ b o,I b=some o->I' b=some o)/\∃ (os:aT) (L:List a3),v=.tuple #[.agg #[os.val],.bool true]/\os.n=g.n/\os.ok 3 (L.flatMap a3.cells)/\M'=os.ar 32/\L.map a3.aW=(g.ds.set u ⟨g.ds[u].name,t⟩).map a3.aW/\∀ d∈L,d.ok I':=by
 refine bU [] a0 Tryz.func143 rfl rfl rfl ?_;intro B ax;have ic:=aw.n;refine b5.mk (λ_=>?_) (λh=>absurd h am);refine aZ.mk (λh=>?_) (λ_=>?_)
 ·have:(g.n:Int)<=(u:Int):=cT h;omega
 refine a8.whole _ (aoA aw) ?_;rintro v J N -⟨a4,os,L,rfl,hX,b3,gJ,ej,fE⟩;subst N;have IA:L.length=g.ds.length:=by simpa using congrArg List.length ej
 have Mp:u<L.length:=by omega
 refine cY.draw a0 rfl rfl rfl ?_;refine ev.whole _ (abU (au.mono a4)) (λv I' M' h x ab=>Pi) ?_;rintro v hQ N -⟨vy,gJ,bi,rfl,jw,SE⟩;subst N;obtain⟨aR,bI,bo⟩:=aT.ok.row (I:=hQ) (M:=os.ar 32++[]) (e:=32) a3.cL bv b3 (λz bg=>iv _ bg) Mp;have n1:L[u].aW=g.ds[u].aW:=by
  have aa:(L.map a3.aW)[u]?=(g.ds.map a3.aW)[u]?:=by rw[ej]
  rw[jJ,jJ,dy Mp,dy hu]at aa;exact e1 aa
 have nn:L[u].name=g.ds[u].name:=by have aa:L[u].aW.name=g.ds[u].aW.name:=congrArg a3.name n1;exact aa
 have e6:(⟨L[u].name,bi⟩:a3).ok hQ:=⟨(fE _ (bK Mp)).name,jw⟩;refine bt.mk aR u bI rfl (show u<os.n by omega) ?_;refine aT.EL (e:=32) a3.cells 3 a3.cL b3 Mp 1 (vs:=[.slice bi.a bi.n bi.c,.int .i64 bi.bx]) (bJ rfl) rfl ⟨L[u].name,bi⟩ rfl [] [] am bI ?_;intro ig ma m8 lq iX;refine⟨_,_,.refl,λb o h=>vy _ _ (a4 _ _ h),ig,L.set u ⟨L[u].name,bi⟩,by rw[ma];rfl,Z,iX,am,?_,λd ai=>?_⟩
 ·rw[ri,ri,ej];congr 1;unfold a3.aW;rw[SE,nn]
 ·rcases w0 ai with ai | rfl
  ·exact(fE _ ai).mono vy
  ·exact e6
def aoD(aw:g.ok I){u:Nat}(hu:u<g.ds.length)(aC:g.n<=1000000)(au:t.ok I):Spec Tryz.prog 143 [g.val,.int .i64 u,t.val] I M0 λv I' M'=>(∀ b o,I b=some o->I' b=some o)/\M'=M0/\∃ h:cE,v=.tuple #[h.val,.bool true]/\h.ok I'/\h.n=g.n/\h.ds.map a3.aW=(g.ds.set u ⟨g.ds[u].name,t⟩).map a3.aW:=by refine Spec.jN (Spec.frame (Spec.jg (aoC aw hu aC au))) ?_;rintro v J M⟨M',rfl,-,a4,rfl,-,I',M1,⟨aa,os,L,rfl,hX,b3,rfl,ej,fE⟩,bw⟩;exact⟨a4,rfl,⟨L,os.a.map λg=>⟨g,0,none⟩,os.n,os.c⟩,rfl,⟨aT.jg bw b3 (λ_ h=>h) Z,λd ai=>(fE d ai).mono bw.le⟩,hX,ej⟩
def ir(z:Int):List Value:=[.int .i64 z]
def og:∀ l:List Int,l.flatMap ir=l.map (.int .i64 ·)
 |[]=>rfl| z::l=>by rw[iA,og l];rfl
structure aoE(fC:List Int)(I:aH)(os0:aT)(x:Nat×aT×List Int):Prop where
 i:2*x.1<=fC.length+1
 ok:x.2.1.ok 1 (x.2.2.flatMap ir)
 len:x.2.2.length=fC.length
 bl:∀ k,k<fC.length->x.2.2[k]?=if k<x.1\/fC.length<=k+x.1 then fC[fC.length-1-k]? else fC[k]?
 a:x.2.1.a=os0.a
 v:x.2.1.val=os0.val
def abV{os0:aT}{fC:List Int}(Au:os0.ok 1 (fC.map (.int .i64 ·)))(ag:os0.n<=1099511627776):Spec Tryz.prog 228 [os0.val] I (os0.ar 3++M0) λv I' M'=>I'=I/\∃ bq:aT,bq.val=os0.val/\bq.ok 1 (fC.reverse.map (.int .i64 ·))/\M'=bq.ar 3++M0:=by
 refine bU [] a0 Tryz.func228 rfl rfl rfl ?_;intro B ax;have rE:=Au.pK;refine be.mk ((fC.length:Int)-1) (by show IntKind.i64.wrap ((os0.n:Int)-1)=_;rw[wrap_i64 ⟨Z,Z⟩,rE]) ?_;refine du.inv (ι:=Nat×aT×List Int) (λx=>{ bp:=[(0,.val os0.val),(2,.val (.int .i64 x.1)),(3,.val (.int .i64 ((fC.length:Int)-1-x.1)))],cl:=[],cO:=I,c5:=x.2.1.ar 3++M0 }) (λx=>aoE fC I os0 x) (λx=>fC.length-x.1) ?_ ?_
 ·refine⟨(0,os0,fC),⟨am,by rw[og];exact Au,rfl,λk ae=>?_,rfl,rfl⟩,.refl,.cons .refl (.cons .refl (.cons ?_ .nil)),.nil⟩
  ·simp only;rw[bS Z]
  ·simp only[Int.ofNat_zero,Int.sub_zero];exact .refl
 rintro⟨i,os,l⟩⟨hi,b3,cQ,eS,ob,lx⟩;simp only at hi b3 cQ eS ob lx;obtain⟨hX,abT⟩:=yD lx;refine aZ.mk (λh=>?_) (λh=>?_)
 rotate_left
 ·have cV:¬ (i:Int)<(fC.length:Int)-1-i:=dU h;refine⟨_,_,.refl,rfl,os,lx,?_,rfl⟩;have e:l=fC.reverse:=by
   refine Bq λk=>?_;by_cases ae:k<fC.length
   ·rw[eS k ae,List.getElem?_reverse ae];split
    ·rfl
    ·congr 1;omega
   ·rw[tj Z,tj (by rw[CG];omega)]
  rw[<-e,<-og];exact b3
 have a1:(i:Int)<(fC.length:Int)-1-i:=cT h;obtain⟨j,ah⟩:∃ j:Nat,(fC.length:Int)-1-i=(j:Int):=⟨fC.length-1-i,Z⟩;have dN:i<l.length:=by omega
 have gi:j<l.length:=by omega
 obtain⟨aR,bI,aoF⟩:=aT.ok.row (I:=I) (M:=os.ar 3++M0) (e:=3) (f:=ir) (size:=1) (λ_=>rfl) bv b3 (λz bg=>iv _ bg) gi;obtain⟨sV,w4,aoG⟩:=aT.ok.row (I:=I) (M:=os.ar 3++M0) (e:=3) (f:=ir) (size:=1) (λ_=>rfl) bv b3 (λz bg=>iv _ bg) dN;obtain rfl:aR=sV:=e1 (bI.symm.trans w4);have sU:=bI;rw[ob]at sU;have axz:l.length=os0.n:=by omega
 refine cY.draw a0 rfl rfl rfl ?_;refine bt.mk aR j sU ah Z ?_;refine aU.mk _ aoF ?_;refine bt.mk aR i sU rfl Z ?_;refine aU.mk _ aoG ?_;refine bt.mk aR i sU rfl Z ?_;refine aT.HT ir 1 (λ_=>rfl) (e:=3) b3 dN l[j] rfl [] M0 rfl bI ?_;intro ig ma m8 lq iX;refine bt.mk aR j sU ah Z ?_;refine aT.HT ir 1 (λ_=>rfl) (e:=3) iX (show j<(l.set i l[j]).length by rw[rD];exact gi) l[i] rfl [] M0 rfl (by rw[m8];exact bI) ?_;intro Mq Hc vz CN zl;refine be.mk _ (c9 (i:=i) Z) ?_;refine be.mk ((fC.length:Int)-1-((i+1:Nat):Int)) f8 ?_;refine⟨(i+1,Mq,(l.set i l[j]).set j l[i]),⟨⟨ce,zl,by simp only[rD];exact cQ,λk ae=>?_,(vz.trans m8).trans ob,(Hc.trans ma).trans lx⟩,ce⟩,.refl,fQ,.nil⟩;have n8:=eS i Z;have Iq:=eS j Z;rw[bS Z,dy dN]at n8;rw[bS Z,dy gi]at Iq;simp only;rw[iB,iB,rD];by_cases aK:j=k
 ·subst aK;rw[b2 rfl,b2 gi,b2 Z,n8];congr 1;omega
 ·rw[bS aK];by_cases ba:i=k
  ·subst ba;rw[b2 rfl,b2 dN,b2 Z,Iq];congr 1;omega
  ·rw[bS ba,eS k ae];by_cases cA:k<i\/fC.length<=k+i
   ·rw[b2 cA,b2 Z]
   ·rw[bS cA,bS Z]
def aoH(au:t.ok I)(af:right t=true)(aC:t.n<=1099511627776){node:Nat}(Fg:node<t.n) :
  Spec Tryz.prog 230 [t.val,.int .i64 node] I M0 λv I' M'=>I'=I/\∃ os:aT,os.ok 1 ((zM t.ns node).reverse.map (.int .i64 ·))/\v=os.val/\os.n<=t.n/\valid t.ns.length (zM t.ns node).reverse/\M'=os.ar 3++M0:=by
 refine bU [] a0 Tryz.func230 rfl rfl rfl ?_;intro B ax;have g7:=au.n;have axA:lS t.ns node<=t.ns.length:=Hf af t.ns.length node Z Z;refine bQ.mk λb1 ia P1=>?_;refine du.inv (ι:=aT×List Int×aT×List Int×Nat) (λx=>{ bp:=[(2,.ref 2 0),(5,.val x.2.2.1.val),(6,.val x.1.val)],cl:=[(2,t.cells)],cO:=I,c5:=x.2.2.1.ar 3++(x.1.ar 3++M0) }) (ajq t node) (λx=>gO (lS t.ns) x.2.1) ?_ ?_
 ·refine⟨(⟨some b1,1,1,[.int .i64 node]⟩,[(node:Int)],hL,[],t.ns.length+1),⟨⟨rfl,(λh=>ci),λei jB=>⟨rfl,cc _,azb,rfl⟩⟩,kL 1,λk ae=>?_,(λk ae=>ap'),?_,?_,rfl⟩,.refl,fQ,.cons rfl (.nil)⟩
  ·simp only[eL]at ae;omega
  ·simp[gO]
  ·simp only[gO,b0,hs,hr,BK];omega
 rintro⟨todo,SF,back,gG,f⟩⟨Fh,t',Ms,Fi,Fj,SG,BC⟩;simp only at Fh t' Ms Fi Fj SG BC;have kA:=t'.pK;have zD:=Fh.pK;refine aZ.mk (λh=>?_) (λh=>?_)
 ·have abW:0<todo.n:=by have:(0:Int)<(todo.n:Int):=cT h;omega
  obtain⟨o3,m,rfl⟩:∃ o3 m,SF=o3++[m]:=by
   rcases ze SF with aa | ⟨r,p,aa⟩;·subst aa;simp at zD;omega
   ·exact⟨r,p,rx⟩
  have hm:=Ms m am;obtain⟨m,rfl⟩:=eh hm.1;have jF:m<t.n:=by omega
  have rm:m<t.ns.length:=by omega
  have axB:todo.n=o3.length+1:=by simpa using zD
  have abX:=D6 af rm;rw[Hg]at Fj SG;have gw:gO (lS t.ns) [(m:Int)]=lS t.ns m:=by simp[gO]
  rw[gw,abX]at Fj SG;have axC:o3.length<=gO (lS t.ns) o3:=KU af λk ae=>Ms k (by simp[ae]);have axD:t.ns[m].ap.length<=gO (lS t.ns) t.ns[m].ap:=KU af λk ae=>by have:=lb af m rm k ae;omega
  have w5:o3.length+t.ns[m].ap.length<=t.ns.length:=by omega
  obtain⟨aR,bI,bo⟩:=aT.BZ (I:=I) (e:=3) (M:=back.ar 3++(todo.ar 3++M0)) Fh (λx ab=>f9) (j:=o3.length) am;rw[aar rfl]at bo;have oh:=Fh;rw[cR]at oh;have oh:=aT.pop oh;have he:todo.n-1=o3.length:=by omega
  rw[he]at oh;have IB:o3.length<=todo.c:=by
   cases ua:todo.a with
   |none=>have:=(Fh.nil ua).1;omega| some IC=>have:=(Fh.cap IC ua).2.1;omega
  obtain⟨mW,mX,jn⟩:=au.bb.row al.cL jF rm;have ai:=au.ns _ (bK rm);have fh:=ai.aF;have pN:=ai.bb.cap;have hJ:=lb af m rm;refine be.mk ((o3.length:Nat):Int) mt ?_;refine bt.mk aR o3.length bI rfl (show o3.length<todo.n by omega) ?_;refine aU.mk _ bo ?_;refine cY.draw a0 rfl rfl rfl ?_;refine be.mk ((o3.length:Nat):Int) mt ?_;refine kY.mk 0 o3.length rfl rfl (dQ _) IB ?_;refine bt.mk mW m mX rfl jF ?_;refine aU.mk _ ((jn _).part (k:=8) (m:=1) bv) ?_;have aoI:∀ M,0<t.ns[m].aF->∃ aR,t.ns[m].ca=some aR/\c6 I M aR (t.ns[m].aF*1) (t.ns[m].ap.map (.int .i64 ·)):=λM ax=>ai.bb.yC M ax;refine bC.zX a0 rfl am (e:=3) rfl rfl rfl ⟨todo.a,o3.length,todo.c,todo.aS⟩ oh rfl (sa:=t.ns[m].ca) (m:=t.ns[m].aF) (c':=t.ns[m].cr) (b8:=t.ns[m].ap.map (.int .i64 ·)) rfl (by rw[bB,fh];show _=t.ns[m].aF*1;omega) (aoI _) (Ff _) (back.ar 3) M0 rfl ce (by show(o3.length+t.ns[m].aF)*8<=_;omega) ?_;intro sW abY abZ iD;rw[<-cR]at iD;refine bQ.mk λbH il Pr=>?_;refine bC.lU a0 rfl am (e:=3) rfl rfl rfl back t' rfl (cs:=[.int .i64 m]) rfl rfl rfl [] (sW.ar 3++M0) rfl Z (by show(back.n+1)*8<=_;omega) ?_;intro ab0 axE axF ID;have ID:ab0.ok 1 ((gG++[(m:Int)]).map (.int .i64 ·)):=by rw[cR];exact ID
  refine⟨(sW,o3++t.ns[m].ap,ab0,gG++[(m:Int)],f-1),⟨⟨iD,ID,λk ae=>?_,λk ae=>?_,?_,?_,?_⟩,?_⟩,.refl,fQ,.cons rfl (.nil)⟩
  ·rcases c1.1 ae with ae | ae
   ·exact Ms k (by simp[ae])
   ·have:=hJ k ae;omega
  ·rcases c1.1 ae with ae | ae
   ·exact Fi k ae
   ·simp only[eL]at ae;omega
  ·simp only[Hg,cn,ep,hj];omega
  ·simp only[Hg];omega
  ·obtain⟨xT,rfl⟩:∃ xT,f=xT+1:=⟨f-1,Z⟩;rw[BC,Xs,hC,gr rm];rfl
  ·simp only;rw[Hg,Hg,gw,abX];omega
 have aoJ:SF=[]:=by have:¬ (0:Int)<(todo.n:Int):=dU h;exact im Z
 subst aoJ;rw[Xr]at BC;simp only[gO,hs,BK,dn]at Fj;refine a8.whole _ (abV (os0:=back) t' Z) ?_;rintro v J N -⟨rfl,os,lx,b3,gJ⟩;subst N;refine⟨_,os.ar 3++M0,.sub (.append (.refl _) (mL _ _)) .refl,rfl,os,by rw[BC];exact b3,lx.symm,?_,λk ae=>Fi k (by rw[BC]at ae;exact RW.1 ae),rfl⟩;have:=(yD lx).1;omega
section
variable{X:cN}{β:Nat->Nat}{F:Fr}{C:de}{I:aH}{M:List aA}{o:Oper}{K:fz}
def bC.SH(aL:cU X.P X.E){y:Operand}{t:Nat}(aD:o.op=.call { callee:=.builtin .copy,args:=#[x,y],argTypes:=#[t,t] })(ai:∀ d,o.dst=some d->d<X.n)
 {cS aB:dH} (au:X.E t=some cS) (dt:cS.bL=.slice e) (he:X.E e=some aB)
 {g c:Nat} {aS:List Value} (ab:bG F x=.val (.slice (some ⟨g,0,none⟩) n c)) (ao:n*aB.size<=aS.length)
  {sa:Option Addr} {c':Nat} (aG:bG F y=.val (.slice sa n c')) {b8:List Value} (az:b8.length=n*aB.size) (aC:0<n->∃ aR,sa=some aR/\c6 I M aR (n*aB.size) b8) (aa:fH b8=true)
  (a9 post:List aA) (bc:M=a9++⟨g,.cells aS.toArray e (0,0)⟩::post)
  (k:K (put o.dst (.val (.int .i64 n)) F) C I (a9++⟨g,.cells (cd aS 0 b8).toArray e (0,0)⟩::post)):bC X o F C I M K:=by
 refine⟨λa w Q ⟨β,aM⟩=>?_⟩;have hu:=Ru aL au dt;obtain⟨inf,z,hi,fq,iy,iz,k3⟩:=(aL _ _ he).inf;have aw:w.heap[g]?=some (.cells aS.toArray e (0,0)):=aM.holds.m ⟨g,.cells aS.toArray e (0,0)⟩ (by rw[bc];simp);have ff:=run_storeCells_at X.P g 0 e b8 0 aS.toArray w aw (by rw[az];simpa using ao) (yZ aa);simp only[pg]at ff;have aE:(Builtin.firstCells aB.size n (.slice sa n c')).run X.P w=.ok b8.toArray w:=by
  by_cases ax:0<n
  ·obtain⟨aR,rfl,di,cs,T,an,fh,ak,az⟩:=aC ax;refine run_firstCells_some (P:=X.P) w aB.size n aR n c' b8 az λj v ah=>?_;rw[eM _ di,td (fh.heap aM.holds)];rw[<-ak,l5]at ah;split at ah
   ·rw[oq]at ah;simpa using ah
   ·cases ah
  ·have ad:n=0:=by omega
   subst ad;have aj:b8=[]:=im (by rw[az,zj]);subst aj;cases sa with
   |none=>simp[Builtin.firstCells]| some aR=>exact run_firstCells_some (P:=X.P) w aB.size 0 aR 0 c' [] am λj v ah=>by simp at ah
 have ex:=df aM.an ab;have oD:=df aM.an aG;refine ix f7 (v:=.int .i64 n) (w':=w.setRow g (cd aS 0 b8).toArray) ?_ ⟨_,_,_,_,⟨β,cM.put (x:=.val (.int .i64 n)) ?_ ai rfl⟩,k⟩
 ·have e':(Builtin.copy_ #[t,t] o.type #[.slice (some ⟨g,0,none⟩) n c,.slice sa n c']).run X.P w=.ok (.int .i64 n) (w.setRow g (cd aS 0 b8).toArray):=by rw[<-fq]at aE;simp[Builtin.copy_,run_underlying hu,Builtin.lenOf,sizeOf,typeInfo,hi,aE,ff,cd,goInt]
  unfold execOp;simp only[aD,resolve,invoke,builtin,cp,db,bY,rh,b0,hs,ex,oD,e']
 ·exact aM.xy bc
end
end Go.V
