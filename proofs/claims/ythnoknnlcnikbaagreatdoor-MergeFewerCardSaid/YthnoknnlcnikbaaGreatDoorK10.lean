/- Part 10 of what the proofs of this seat share: the executor, data in memory, walks.
-/
import Derived.Test.YthnoknnlcnikbaaGreatDoorK9
import Derived.Test.YthnoknnlcnikbaaGreatDoorK8
import Derived.Test.YthnoknnlcnikbaaGreatDoorK7
import Derived.Test.YthnoknnlcnikbaaGreatDoorK4
set_option linter.all false
set_option maxHeartbeats 16000000
set_option maxRecDepth 100000
namespace Go.V
open Go Go.Proofs
def agu:=@Int.tdiv_eq_ediv_of_nonneg
variable{K:dH->aJ->List aF->Prop}{s want:List UInt8}{x:Nat×List Int}{t n c c' u pn pc cx b1 Ol f:Nat}{e aY w pass way rule cN:Int}{c6 aG:dR}{sa a pa cf:Option Addr}{J I I':aJ}{ay p path:List Int}{g h:cg}{F:List aR}{S X:aS}{bf:bn}{L:List bn}{M0:List aF}{r:Int×Int}{cs:List kg}{k:IntKind}{fF fB:nj}{is:Bool}
section
variable{X:c1}{F:Fr}{C:dO}{I:aJ}{M:List aF}{o:Oper}
def kM.avh(aO:cX X.P X.E){s x:Operand}(aC:o.op=.call { callee:=.builtin .append,args:=#[s,x],argTypes:=#[t,t] })
  {e:Nat} (au:X.E t=some c6) (dz:c6.bQ=.slice e) (he:X.E e=some aG)
 (av:bH F s=.val (.slice sa n c)) (m0:n<=c) {xa:Option Addr} (ad:bH F x=.val (.slice xa 0 c'))
  (h:K (.val (.slice sa n c)) I M):kM X o F C I M K:=by
 refine⟨fun β a w Q aX=>?_⟩;obtain⟨inf,z,hi,fv,hW,ik,j4⟩:=(aO _ _ he).inf;obtain⟨g2,iO,kS⟩:=(aO _ _ au).ft;have oO:g2=.slice e:=by rw[dz]at kS;cases g2<;>simp_all[fs]
 subst oO;have e':=Xk (w:=w) t t o.type e inf iO iO (λk cU=>by cases cU) hi (sa:=sa) m0 (.inl ⟨xa,c',rfl⟩);have es:=dh aX.an av;have ex:=dh aX.an ad;refine iJ (by rw[aC];simp) (v:=.slice sa n c) (w':=w) ?_ ⟨_,.val (.slice sa n c),I,M,rfl,rfl,aX,h,rfl⟩;unfold execOp;simp only[aC,resolve,invoke,builtin,cu,c7,bY,rz,ca,hH,es,ex,e']
def kM.Vl(aO:cX X.P X.E){s x:Operand}(aC:o.op=.call { callee:=.builtin .append,args:=#[s,x],argTypes:=#[t,t] })
  {e:Nat} (au:X.E t=some c6) (dz:c6.bQ=.slice e) (he:X.E e=some aG)
  (os:aQ) {xs:List Value} (bi:os.ok aG.size xs) (av:bH F s=.val os.val)
 {m:Nat} {b3:List Value} (ad:bH F x=.val (.slice sa m c')) (aA:b3.length=m*aG.size) (aD:0<m->∃ aP,sa=some aP/\cY I M aP (m*aG.size) b3) (aa:fJ b3=true)
  (a9 post:List aF) (bb:M=a9++(os.ar e++post)) (b1:os.n+m<=maxLen) (bW:(os.n+m)*aG.bytes<=140737488355328)
  (k:∀ bu:aQ,bu.n=os.n+m->bu.ok aG.size (xs++b3)->K (.val bu.val) I (a9++(bu.ar e++post))):kM X o F C I M K:=by
 by_cases aw:m=0
 ·subst aw;have lq:b3=[]:=iD (by simpa using aA);subst lq;refine kM.avh aO aC au dz he (sa:=os.a.map λg=>⟨g,0,none⟩) (n:=os.n) (c:=os.c) av ?_ ad ?_
  ·cases a6:os.a with
   |none=>obtain⟨ew,e9⟩:=bi.nil a6;omega
   |some g=>exact(bi.cap g a6).2.1
  ·have:=k os rfl (by rw[dD];exact bi);rw[bb];exact this
 obtain⟨aP,rfl,bt⟩:=aD (by omega);refine kM.aed aO aC au dz he os bi av ad (by omega) bt aa (Mr:=a9++post) ?_ b1 bW (λbu=>a9++(bu.ar e++post)) (λbu=>?_) λbu aa _ ab=>k bu aa ab
 ·rw[bb];exact yn _ _ _
 ·exact(yn _ _ _).symm
end
structure avi(ay:List Int)(g:cg)(u:Nat)(X:aS)(I':aJ)(h:cg)(b:Bool):Prop where
 is:b=xG ay g u X
 ok:b=true->h.ok I'/\h.n=g.n/\∃ bf,k7 bf X/\bf.ns.length=bf.n/\h.ds.map a0.a1=(ez g.ds u bf).map a0.a1/\du ay h=0/\∃ r,lI ay h r/\r.2=0
def avj(hw:Gd ay g F)(eW:∀ d∈g.ds,d.t.ns.length=d.t.n)(aD:∀ d∈g.ds,d.t.n<=549755813888)(hu:u<g.ds.length){x:aS}(cv:(bU g.ds[u].t).go p=some S)(ad:Oc g S x)(r8:dG x<=549755813888)(c4:h.ok J)(te:h.n=g.n)(ey:h.ds.map a0.a1=(ez g.ds u bf).map a0.a1)(dm:k7 bf (jK g u p x)) :
  bf.ns.length=bf.n/\(∀ e∈h.ds,vz e.t)/\(du ay h=0\/du ay h=40)/\xG ay g u (jK g u p x)=decide (du ay h=0)/\∀ r,lI ay h r->(r.2=0 ↔ du ay h=0):=by
 have kH:g.ds.getD u iY=g.ds[u]:=by simp[bM,hu]
 have Vj:bf.ns.length=bf.n:=by
  have hm:=congrArg (λl:List a0=>l[u]?) ey;simp only[ju]at hm;have Hu:u<h.ds.length:=by have:=c4.n;have:=hw.n;omega
  rw[NV hu,dt Hu]at hm;have hm:=e2 hm;have aa:=(c4.ds _ (bJ Hu)).t.n;have ab:h.ds[u].t.a1=bf.a1:=congrArg a0.t hm;have ai:h.ds[u].t.ns.length=bf.ns.length:=by have:=congrArg (λt:bn=>t.ns.length) ab;simpa[bn.a1]using this
  have aL:h.ds[u].t.a1.n=bf.a1.n:=congrArg bn.n ab;have aL:h.ds[u].t.n=bf.n:=aL;omega
 obtain⟨s1,s2,avk⟩:=auh hw hu cv ad dm Vj te c4.n ey;refine⟨Vj,λe he=>?_,s1,s2,avk⟩;have bq:e.a1∈(ez g.ds u bf).map a0.a1:=by rw[<-ey];exact c0.2 ⟨e,he,rfl⟩
 obtain⟨cU,rA,b'⟩:=c0.1 bq;have dZ:e.t.a1=cU.t.a1:=(congrArg a0.t b').symm;have eX:right cU.t=true/\cU.t.n<=1099511627776:=by
  obtain⟨i,hi,rfl⟩:=hM rA;by_cases aG:i=u;·subst aG;have dT:=NV (y:=bf) hu;rw[dt hi]at dT;rw[e2 dT];refine⟨dm.right (af2 hw (p:=p) hu ad.ok).1,?_⟩;have pL:=congrArg List.length dm.a1;rw[bE,Ds]at pL;unfold jK at pL;rw[kH]at pL;have MC:=Od ((bU g.ds[i].t).put p x);have avl:=Gf (X:=x) p _ cv;have ayQ:=zi (pz hw.m (bJ hu));have ayR:=eW _ (bJ hu);have ayS:=aD _ (bJ hu);show bf.n<=_;omega
  ·have dT:=Uo (ds:=g.ds) (y:=bf) aG;have ed:i<g.ds.length:=by rw[sj]at hi;exact hi
   rw[dt hi,dt ed]at dT;rw[e2 dT];exact⟨pz hw.m (bJ ed),by have:=aD _ (bJ ed);omega⟩
 refine agt (c4.ds e he).t ?_ ?_
 ·rw[<-ud,dZ,ud];exact eX.1
 ·have dT:e.t.a1.n=cU.t.a1.n:=congrArg bn.n dZ;have dT:e.t.n=cU.t.n:=dT;omega
def avm(hu:u<g.ds.length)(cv:(bU g.ds[u].t).go p=some S)(x:aS):v0 g (u:Int) p x=some (jK g u p x):=by
 have kH:g.ds.getD u iY=g.ds[u]:=by simp[bM,hu]
 unfold v0 qj jK;rw[bT (by omega),gN,kH,cv];rfl
def v8.mono(h:v8 I a c L)(bB:∀ b o,I b=some o->I' b=some o):v8 I' a c L:=⟨h.ba.mono bB,λt au=>⟨(h.ok t au).1.mono bB,(h.ok t au).2⟩,h.n,h.l⟩
def Vm(L:List bn):(L.flatMap bn.cells).length=L.length*2:=gL _ 2 (λ_=>rfl) L
def Om:∀ L:List bn,fJ (L.flatMap bn.cells)=true
 |[]=>rfl| t::L=>by rw[jf];show fJ (.slice t.a t.n t.c::.int .i64 t.br::L.flatMap bn.cells)=true;have:=Om L;simpa[fJ,Value.oneCell']using this
def Dx(w:Int):Nat:=if w=1 then 57 else 56
def avn(bl:ff I ay)(w:Int)(b8:v8 I a c L):Spec Tryz.prog (Dx w) [.slice a L.length c] I M0 (ow (some (rh (i' w) (L.map bU))) I M0):=by
 unfold Dx i';by_cases h:w=1
 ·rw[bT h,bT h];exact auZ bl b8
 ·rw[bP h,bP h];exact auY bl b8
def On(x:BitVec 64):fl (x.toNat:Int):=⟨Ih _,by have:=x.isLt;omega⟩
def agv(bl:ff I ay)(hw:Gd ay g F)(ax:g.ok I)(aD:∀ d∈g.ds,d.t.n<=549755813888)(yu:g.n<=1000000)(hu:u<g.ds.length)(aH:cD I pa pn pc 1 8 (kI path))(cv:(bU g.ds[u].t).go path=some S)
 (b8:v8 I cf cx L) (Kb:(L.map (·.n)).sum<=274877906944/\L.length<=274877906944) {aY:Nat} (eU:aY+1<L.length) {s:bh} {x:aS} (ad:x=rh (i' w) ((L.take aY).map bU++ki s::(L.drop (aY+2)).map bU)) (Dl:Oc g S x) (r8:dG x<=549755813888)
 {bW dA gT ea:Nat} (aa:I b1=some (.cells #[.slice cf L.length cx] 69 (0,0))) (ab:I bW=some (.cells #[.int .i64 aY] 3 (0,0))) (ai:I dA=some (.cells #[.func (.func (Dx w)) #[] #[]] 85 (0,0))) (aL:I gT=some (.cells #[.slice g.a g.n g.c] 30 (0,0))) (bq:I ea=some (.cells #[.int .i64 u,.slice pa pn pc] 77 (0,0))) :
  Spec Tryz.prog 165 [s.val,ptr b1,ptr bW,ptr dA,ptr gT,ptr ea] I [] λv I' M'=>(∀ b o,I b=some o->I' b=some o)/\M'=[]/\∃ (h:cg) (b:Bool),v=.tuple #[h.val,.bool b]/\avi ay g u (jK g u path x) I' h b:=by
 refine b0 [] a3 Tryz.func165 rfl rfl rfl ?_;intro B aw;have FG:=b8.ba.len;have ayT:=b8.ba.cap;have LQ:∀ {J:aJ} (M:List aF),(∀ b o,I b=some o->J b=some o)->cY J M ⟨b1,0,none⟩ 1 [.slice cf L.length cx]:=λM a8=>⟨rfl,_,_,_,.inl (a8 _ _ aa),rfl,rfl⟩;have K6:∀ {J:aJ} (M:List aF),(∀ b o,I b=some o->J b=some o)->cY J M ⟨bW,0,none⟩ 1 [.int .i64 aY]:=λM a8=>⟨rfl,_,_,_,.inl (a8 _ _ ab),rfl,rfl⟩;have avo:∀ {J:aJ} (M:List aF),(∀ b o,I b=some o->J b=some o)->cY J M ⟨dA,0,none⟩ 1 [.func (.func (Dx w)) #[] #[]]:=λM a8=>⟨rfl,_,_,_,.inl (a8 _ _ ai),rfl,rfl⟩;have avp:∀ {J:aJ} (M:List aF),(∀ b o,I b=some o->J b=some o)->cY J M ⟨gT,0,none⟩ 1 [.slice g.a g.n g.c]:=λM a8=>⟨rfl,_,_,_,.inl (a8 _ _ aL),rfl,rfl⟩;have Cx:∀ {J:aJ} (M:List aF),(∀ b o,I b=some o->J b=some o)->cY J M ⟨ea,0,none⟩ 2 [.int .i64 u,.slice pa pn pc]:=λM a8=>⟨rfl,_,_,_,.inl (a8 _ _ bq),rfl,rfl⟩;have agw:=b8.ba.TO (f:=bn.cells) (λ_=>rfl) (lo:=0) (hi:=aY) (by omega) (by omega) rfl;have Gl:=b8.ba.TO (f:=bn.cells) (λ_=>rfl) (lo:=aY+2) (hi:=L.length) (by omega) (by omega) rfl;have aK:(if cx=0 then cf else cf.map (·.add (0*2)))=cf:=by
  split;·rfl
  ·cases cf with
   |none=>rfl| some aP=>simp[Addr.add]
 rw[aK,tA,Ep,Ep]at agw;rw[fS (by simp)]at Gl;refine aV.mk _ (LQ _ λ_ _ h=>h) ?_;refine aV.mk _ (K6 _ λ_ _ h=>h) ?_;refine lf.mk 0 aY rfl rfl (dj _) (by omega) ?_
 refine bF.An a3 rfl (by simp) (e:=56) rfl rfl rfl h3 (xs:=[]) (k0 2) rfl (sa:=cf) (m:=aY) (c':=cx) rfl (b3:=(L.take aY).flatMap bn.cells) (by rw[Vm,fR];show min aY L.length*2=aY*2;omega) (λh=>?_) (Om _) [] [] rfl (by show 0+aY<=_;omega) (by show(0+aY)*32<=_;omega) ?_
 ·obtain⟨aP,bI,de,cs,T,an,bB,ao⟩:=agw.rd.resolve_left (by omega);exact⟨aP,bI,de,cs,T,an,.inl bB,ao,by rw[Vm,fR];show min aY L.length*2=aY*2;omega⟩
 intro uw nL _ Vn;have dz:=acC (I:=I) (On s.a) (On s.b) (On s.c) (On s.d);refine bc.mk [] _ _ (.refl _) dz ?_;rintro v J N a8⟨-,e7,rfl,dz,Vo,Nn,rfl⟩;refine bZ.mk λayU ayV ayW=>?_;refine bF.l7 a3 rfl (by simp) (e:=56) rfl rfl rfl uw Vn rfl (cs:=e7.cells) rfl rfl rfl [] [] rfl (by rw[nL];show 0+aY+1<=_;omega) (by rw[nL];show(0+aY+1)*32<=_;omega) ?_;intro e4 lG _ kF;have kF:e4.ok 2 ((L.take aY++[e7]).flatMap bn.cells):=by rw[fX,o0];exact kF
 have lG:e4.n=aY+1:=by
  rw[lG,nL];show 0+aY+1=_
  omega
 have kv:=bl.mono a8;have Oo:=b8.mono a8;have lS:k7 e7 (ki s):=by
  refine⟨?_,?_⟩;·rw[Vo];unfold ki;rw[aS.k1];rfl
  ·rw[Vo,Nn];rfl
 have JB:=lS.right (U5 s);have zk:=lS.bU (U5 s) (.mk rfl λc ao=>by cases ao);have ayX:e7.n=1:=by rw[<-dz.n,Vo];rfl
 have yD:∀ fO:aQ,fO.n=e4.n+(L.length-(aY+2))->fO.ok 2 ((L.take aY++[e7]).flatMap bn.cells++(L.drop (aY+2)).flatMap bn.cells)->(∀ b o,J b=some o->me J fO 56 b=some o)->Spec Tryz.prog (Dx w) [.slice (fO.a.map λg=>⟨g,0,none⟩) fO.n fO.c] (me J fO 56) [] (ow (some x) (me J fO 56) []):=by
  intro fO C6 xJ bk;rw[<-fX]at xJ;have u1:(L.take aY++[e7]++L.drop (aY+2)).length=fO.n:=by simp only[cm,fR,qw,o5];omega
  have dr:=Oa (J:=J) (e:=56) (b:=32) xJ (by omega);have j9:((L.take aY++[e7]++L.drop (aY+2)).map (·.n)).sum<=(L.map (·.n)).sum+1:=by
   have aa:=U6 L aY eU
   have ab:=congrArg (λl:List bn=>(l.map (·.n)).sum) aa;simp only[cS,pO,ca,hz,hH,B0]at ab |-;omega
  have mA:v8 (me J fO 56) (fO.a.map λg=>⟨g,0,none⟩) fO.c (L.take aY++[e7]++L.drop (aY+2)):=by
   refine⟨by rw[u1];exact dr,λt au=>?_,by omega,by omega⟩;rcases cC.1 au with au | au
   ·rcases cC.1 au with au | au
    ·exact⟨(Oo.ok t (u5 au)).1.mono bk,(Oo.ok t (u5 au)).2⟩
    ·rw[eC.1 au];exact⟨dz.mono bk,JB⟩
   ·exact⟨(Oo.ok t (Fx au)).1.mono bk,(Oo.ok t (Fx au)).2⟩
  have:=avn (M0:=[]) (kv.mono bk) w mA;rw[u1]at this;rw[ad];simpa only[cS,ca,hH,zk,ec,qO]using this
 have Gl:=Gl.mono a8;have agx:∀ {M:List aF},0<L.length-(aY+2)->∃ aP,(if cx=aY+2 then cf else cf.map (·.add ((aY+2)*2)))=some aP/\cY J M aP ((L.length-(aY+2))*2) ((L.drop (aY+2)).flatMap bn.cells):=by intro M h;obtain⟨aP,bI,de,cs,T,an,bB,ao⟩:=Gl.rd.resolve_left (by omega);exact⟨aP,bI,de,cs,T,an,.inl bB,ao,Gl.len⟩
 have agy:=Gl.len;have ek:IntKind.i64.wrap ((aY:Int)+2)=((aY+2:Nat):Int):=l2 (by simp) (by omega);refine c2.WA (im':=λi=>Nat.blt i 4) a3 rfl rfl rfl (ι:=Nat×bn×aJ) (λz=>{ bp:=[(4,.val (ptr gT)),(5,.val (ptr ea)),(7,.ref 7 0),(10,.val (ptr z.1)),(11,.val (.bool true))],cl:=[(7,[.slice none 0 0])],cP:=z.2.2,da:=[⟨z.1,.cells z.2.1.cells.toArray 56 (0,0)⟩] }) (λz=>(∀ b o,I b=some o->z.2.2 b=some o)/\z.2.1.ok z.2.2/\k7 z.2.1 x/\eY x/\jr x) ?_ ?_
 ·refine aV.mk _ (avo _ a8) ?_;refine aV.mk _ (LQ _ a8) ?_;refine aV.mk _ (K6 _ a8) ?_;refine be.mk _ ek ?_;refine lf.mk (aY+2) L.length rfl rfl (by omega) (by omega) ?_;refine⟨?_,?_⟩
  ·intro G g9;refine kM.Vl a3 rfl (e:=56) rfl rfl rfl e4 kF (F9 (g9 _ (by simp[Op.operands,Call.operands])) rfl) (F9 (g9 _ (by simp[Op.operands,Call.operands])) rfl) agy agx (Om _) [] [] rfl (by unfold maxLen;omega) (by show(e4.n+_)*32<=_;omega) ?_;intro fO C6 xJ;have Oq:=yD fO C6 xJ;refine⟨?_,?_⟩
   ·refine bc.wi λeS=>?_;have bk:∀ b o,J b=some o->me J fO 56 b=some o:=Gb (M:=[]) eS.d;refine bc.zo (me J fO 56) [] [] _ (N' (λg _=>by simp)) (Oq bk) ?_;rintro v cE N cI -⟨-,rfl,bf,rfl,jI,dm,bi,tg⟩;refine bZ.mk λql Kc Kd=>?_;refine cd.mk [] [] _ _ rfl rfl (bK rfl) rfl ?_;exact⟨(ql,bf,cE),⟨λb o h=>cI _ _ (bk _ _ (a8 _ _ h)),jI,dm,bi,tg⟩,.refl,il,.cons rfl (.nil)⟩
   ·refine bZ.mk λql Kc Kd=>?_;refine eH.wi λeS=>?_;have bk:∀ b o,J b=some o->me J fO 56 b=some o:=Gb (M:=[]) λy aE=>eS.d _ (.tail _ aE);cases vP:fO.a with
    |none=>have:=(xJ.nil vP).1;omega| some b5=>
    have kR:fO.ar 56=[⟨b5,.cells fO.aU.toArray 56 (0,0)⟩]:=by simp[aQ.ar,vP]
    have fq:me J fO 56=ins J b5 (.cells fO.aU.toArray 56 (0,0)):=by simp[me,vP]
    have Dv:=Oq bk;rw[fq]at Dv bk;refine eH.O3 b5 (.cells fO.aU.toArray 56 (0,0)) [] [⟨ql,.cells #[.slice none 0 0,.int .i64 0] 56 (0,0)⟩] (ow (some x) (ins J b5 (.cells fO.aU.toArray 56 (0,0))) []) (by rw[kR];exact .swap _ _ _) (by simp) Dv (λv I' M' _ x ad=>by cases ad) ?_;rintro v cE N cI -⟨-,rfl,bf,rfl,jI,dm,bi,tg⟩;refine cd.mk [] [] _ _ rfl rfl (bK rfl) rfl ?_;exact⟨(ql,bf,cE),⟨λb o h=>cI _ _ (bk _ _ (a8 _ _ h)),jI,dm,bi,tg⟩,.refl,il,.cons rfl (.nil)⟩
  ·refine bZ.mk λql Kc Kd=>?_;intro G g9;refine kM.Vl a3 rfl (e:=56) rfl rfl rfl e4 kF (F9 (g9 _ (by simp[Op.operands,Call.operands])) rfl) (F9 (g9 _ (by simp[Op.operands,Call.operands])) rfl) agy agx (Om _) [⟨ql,.cells #[.slice none 0 0,.int .i64 0] 56 (0,0)⟩] [] rfl (by unfold maxLen;omega) (by show(e4.n+_)*32<=_;omega) ?_;intro fO C6 xJ;have Oq:=yD fO C6 xJ;refine eH.wi λeS=>?_;have bk:∀ b o,J b=some o->me J fO 56 b=some o:=Gb (M:=[]) λy aE=>eS.d _ (.tail _ aE);cases vP:fO.a with
   |none=>have:=(xJ.nil vP).1;omega| some b5=>
   have kR:fO.ar 56=[⟨b5,.cells fO.aU.toArray 56 (0,0)⟩]:=by simp[aQ.ar,vP]
   have fq:me J fO 56=ins J b5 (.cells fO.aU.toArray 56 (0,0)):=by simp[me,vP]
   have Dv:=Oq bk;rw[fq]at Dv bk;refine eH.O3 b5 (.cells fO.aU.toArray 56 (0,0)) [] [⟨ql,.cells #[.slice none 0 0,.int .i64 0] 56 (0,0)⟩] (ow (some x) (ins J b5 (.cells fO.aU.toArray 56 (0,0))) []) (by rw[kR];exact .swap _ _ _) (by simp) Dv (λv I' M' _ x ad=>by cases ad) ?_;rintro v cE N cI -⟨-,rfl,bf,rfl,jI,dm,bi,tg⟩;refine cd.mk [] [] _ _ rfl rfl (bK rfl) rfl ?_;exact⟨(ql,bf,cE),⟨λb o h=>cI _ _ (bk _ _ (a8 _ _ h)),jI,dm,bi,tg⟩,.refl,il,.cons rfl (.nil)⟩
 rintro⟨ql,bf,cE⟩⟨cI,jI,dm,bi,tg⟩;simp only at cI jI dm;have h0:=bl.mono cI;have m6:=ax.mono cI;have f':=aH.mono cI;have ir:=dm.bU bi tg;have ph:=dm.right bi;have q3:bf.n<=549755813888:=by have aa:=congrArg List.length dm.a1;rw[bE,Ds]at aa;have:=jI.n;omega
 have agz:=at6 (M0:=[]) h0 m6 (Vk hw.m aD) yu jI ph q3 (rule:=(u:Int)) f';rw[ir,avm hu cv]at agz;refine a5.mk (λh=>by cases h) (λ_=>?_);refine aV.mk _ (avp _ cI) ?_;refine aV.mk _ (Cx _ cI) ?_;refine aV.mk bf.cells ⟨rfl,_,_,_,.inr ⟨_,.head _,rfl,rfl⟩,rfl,rfl⟩ ?_;refine bc.mk [] _ _ (.refl _) agz ?_;rintro v iG N jG⟨-,rfl,h,t2,rfl,c4,te,ey,Bk,ji,ayY⟩;rw[gN]at ey;obtain⟨ew,e9,fb,jS,Es⟩:=avj hw (λd ah=>(ax.ds d ah).t.n) aD hu cv Dl r8 c4 te ey Bk;refine cT.mk (λ_=>?_) (λh=>by cases h);refine bc.mk [] _ _ (.refl _) (M6 (h0.mono jG) c4 e9) ?_;rintro v ox N lM⟨-,rfl,r,rfl,af⟩;have bk:∀ b o,I b=some o->ox b=some o:=λb o h=>lM _ _ (jG _ _ (cI _ _ h));refine a5.mk (λbq=>?_) (λbq=>?_)
 ·have bq:¬ r.2=0:=by have:(!decide (r.2=0))=true:=bq;simpa using this
  exact⟨_,_,.sub (fC _) .refl,bk,rfl,⟨[],none,0,0⟩,false,rfl,by rw[jS,fo λe=>bq ((Es r af).2 e)],λh=>by cases h⟩
 ·have bq:r.2=0:=by have:(!decide (r.2=0))=false:=bq;simpa using this
  have q2:=(Es r af).1 bq;exact⟨_,_,.sub (fC _) .refl,bk,rfl,h,true,rfl,by rw[jS,iQ q2],λ_=>⟨c4.mono lM,te,t2,Bk,ew,ey,q2,r,af,bq⟩⟩
def Gm:∀ {l:List Nat} {x:Nat},x∈l->x<=l.sum
 |y::l,x,h=>by
  rw[hz];rcases eA.1 h with rfl | h;·omega
  ·have:=Gm h;omega
def agA{x:bn}(ad:x.ok I)(af:right x=true)(w:Int):Spec Tryz.prog 101 [x.val,.int .u8 w] I M0 λv I' M'=>I'=I/\M'=M0/\∃ b,v=.bool b/\b=decide ((bU x).d.k=i' w):=by
 refine b0 [] a3 Tryz.func101 rfl rfl rfl ?_;intro B aw;have q3:=ad.n;obtain⟨gG,hd⟩:=lZ af;obtain⟨r,en⟩:=eF gG;have eJ:r<x.ns.length:=by omega
 obtain⟨aP,bI,bt⟩:=ad.ba.row al.cH (show r<x.n by omega) eJ;have ir:=J' af en eJ;have e:(bU x).d.k=x.ns[r].k:=by rw[ir];rfl
 rw[e];generalize x.ns[r]=d at bt;refine bA.mk aP r bI en (by omega) ?_;refine aV.mk _ ((bt _).part (k:=0) (m:=1) (by decide)) ?_;refine a5.mk (λh=>?_) (λh=>?_)
 ·have aa:w=1:=c5 h;exact⟨_,_,.refl,rfl,rfl,_,rfl,by rw[i',bT aa]⟩
 ·have aa:¬ w=1:=dP h;exact⟨_,_,.refl,rfl,rfl,_,rfl,by rw[i',bP aa]⟩
structure Ke(ay:List Int)(g:cg)(u:Nat)(p:List Int)(w aY:Int)(I':aJ)(h:cg)(b:Bool):Prop where
 is:b=lO ay g u p w aY
 ok:b=true->h.ok I'/\h.n=g.n/\∃ X bf,nZ g u p w aY=some X/\k7 bf X/\bf.ns.length=bf.n/\h.ds.map a0.a1=(ez g.ds u bf).map a0.a1/\du ay h=0/\∃ r,lI ay h r/\r.2=0
def Ke.no(h:nZ g u p w aY=none):Ke ay g u p w aY I' ⟨[],none,0,0⟩ false:=⟨by unfold lO;rw[h],λh=>by cases h⟩
def agB(hu:u<g.ds.length)(cv:(bU g.ds[u].t).go p=some S):nZ g u p w aY=(nt w aY S).map λx=>jK g u p x:=by
 have kH:g.ds.getD u iY=g.ds[u]:=by simp[bM,hu]
 unfold nZ;rw[kH,cv];rfl
def h6.all{foot:List Nat}:∀ {M:List aF},(∀ x∈M,x.num ∉ foot)->h6 foot I M (Dt I M) []:=by intro M h;have:=af8 (foot:=foot) (M:=[]) (I:=I) M h;rwa [dD]at this
def Gn(ea b6 dQ b9 gW:Nat)(g:cg)(u:Nat)(pa:Option Addr)(pn pc:Nat)(cf:Option Addr)(n cx:Nat)(aY:Int)(fn:Nat):List aF:=[⟨gW,.cells #[.func (.func fn) #[] #[]] 85 (0,0)⟩,⟨b9,.cells #[.int .i64 aY] 3 (0,0)⟩,⟨dQ,.cells #[.slice cf n cx] 69 (0,0)⟩,⟨b6,.cells #[.int .i64 u,.slice pa pn pc] 77 (0,0)⟩,⟨ea,.cells #[.slice g.a g.n g.c] 30 (0,0)⟩]
def agC(bl:ff I ay)(hw:Gd ay g F)(ax:g.ok I)(aD:∀ d∈g.ds,d.t.n<=274877906944)(yu:g.n<=1000000)(hu:u<g.ds.length)(aH:cD I pa pn pc 1 8 (kI path))(cv:(bU g.ds[u].t).go path=some S)
 (b8:v8 I cf cx L) (Kb:(L.map (·.n)).sum<=274877906944/\L.length<=274877906944) (Kf:L.map bU=S.sub) (z0:1<=w/\w<=3) (ae:S.d.k=i' w) (eU:ha aY) :
  Spec Tryz.prog 102 [g.val,J5 (u:Int) pa pn pc,.int .u8 w,.slice cf L.length cx,.int .i64 aY] I [] λv I' M'=>(∀ b o,I b=some o->I' b=some o)/\M'=[]/\∃ (h:cg) (b:Bool),v=.tuple #[h.val,.bool b]/\Ke ay g u path w aY I' h b:=by
 have st:=agB (w:=w) (aY:=aY) hu cv;have agD:=afY path (U1 (pz hw.m (bJ hu))) cv;have agE:dG S<=549755813888:=by have aa:=Gf (X:=ki bh.zero) path _ cv;have ab:=zi (pz hw.m (bJ hu));have ai:=(ax.ds _ (bJ hu)).t.n;have aL:=aD _ (bJ hu);have bq:dG (ki bh.zero)=1:=lN _ _;have b':=Bi ((bU g.ds[u].t).put path (ki bh.zero));omega
 have g6:S.sub.length=L.length:=by rw[<-Kf,bE]
 refine b0 [5,6,8,9,12] a3 Tryz.func102 rfl rfl rfl ?_;intro B aw;refine bZ.mk λea Cm NB=>?_;refine bZ.mk λb6 Lo asu=>?_;refine bZ.mk λdQ sZ v3=>?_;refine bZ.mk λb9 m8 uv=>?_;refine aV.mk [.int .i64 aY] ⟨rfl,_,_,_,.inr ⟨_,.head _,rfl,rfl⟩,rfl,rfl⟩ ?_;by_cases Nl:aY<0
 ·refine cT.mk (λh=>absurd h (by simp[Nl])) (λ_=>?_);exact⟨_,_,.sub (fC _) .refl,λ_ _ h=>h,rfl,⟨[],none,0,0⟩,false,rfl,.no (by rw[st,nt,bP λh=>absurd h.2.1 (by omega)];rfl)⟩
 refine cT.mk (λ_=>?_) (λh=>absurd h (by simp[Nl]));refine aV.mk [.int .i64 aY] ⟨rfl,_,_,_,.inr ⟨_,.head _,rfl,rfl⟩,rfl,rfl⟩ ?_;refine aV.mk [.slice cf L.length cx] ⟨rfl,_,_,_,.inr ⟨_,.tail _ (.head _),rfl,rfl⟩,rfl,rfl⟩ ?_;refine be.mk ((L.length:Int)-1) (l2 rfl (by omega)) ?_;refine a5.mk (λh=>?_) (λh=>?_)
 ·have aa:(L.length:Int)-1<=aY:=c5 h
  exact⟨_,_,.sub (fC _) .refl,λ_ _ h=>h,rfl,⟨[],none,0,0⟩,false,rfl,.no (by rw[st,nt,bP λh=>absurd h.2.2 (by omega)];rfl)⟩
 have aa:¬ (L.length:Int)-1<=aY:=dP h
 obtain⟨i,rfl⟩:=eF (show 0<=aY by omega);have hi:i+1<L.length:=by omega
 have fQ:=(b8.ok _ (bJ (show i<L.length by omega)));have agF:=(b8.ok _ (bJ hi));have q3:L[i].n<=1099511627776:=by have aa:=Gm (xy (f:=λt:bn=>t.n) (bJ (show i<L.length by omega)));have ab:=Kb.1;exact ja aa (ja ab (by decide))
 have Gp:=agf (M0:=[]) bl (w:=w) (by omega) fQ.1 agF.1 q3;have avq:S.sub[i]'(by omega)=bU L[i]:=by
  have:S.sub[i]?=(L.map bU)[i]?:=by rw[Kf]
  rw[dt (by omega),ju,dt (by omega)]at this;exact e2 this
 have avr:S.sub[i+1]'(by omega)=bU L[i+1]:=by
  have:S.sub[i+1]?=(L.map bU)[i+1]?:=by rw[Kf]
  rw[dt (by omega),ju,dt hi]at this;exact e2 this
 have avs:oy w L[i] L[i+1]=v7 w (S.sub[i]'(by omega)) (S.sub[i+1]'(by omega)):=by unfold oy;rw[fQ.2,agF.2,avq,avr];rfl
 rw[avs]at Gp;have ri:nt w (i:Int) S=(v7 w (S.sub[i]'(by omega)) (S.sub[i+1]'(by omega))).map λs=>rh (i' w) ((L.take i).map bU++ki s::(L.drop (i+2)).map bU):=by
  unfold nt;rw[bT ⟨ae,by omega,by omega⟩];have aK:S.sub.getD ((i:Nat):Int).toNat S=S.sub[i]'(by omega):=by
   show S.sub.getD i S=_;have:i<S.sub.length:=by omega
   simp[bM,this]
  have a7:S.sub.getD (((i:Nat):Int).toNat+1) S=S.sub[i+1]'(by omega):=by
   show S.sub.getD (i+1) S=_;have:i+1<S.sub.length:=by omega
   simp[bM,this]
  rw[aK,a7];have ck:S.sub.take ((i:Nat):Int).toNat=(L.take i).map bU:=by rw[<-Kf,KS];rfl
  have dM:S.sub.drop (((i:Nat):Int).toNat+2)=(L.drop (i+2)).map bU:=by rw[<-Kf,KR];rfl
  rw[ck,dM]
 generalize v7 w (S.sub[i]'(by omega)) (S.sub[i+1]'(by omega))=o at Gp ri;obtain⟨aP,bI,agG⟩:=b8.ba.row (f:=bn.cells) (λ_=>rfl) (show i<L.length by omega) (show i<L.length by omega);obtain⟨zE,Nh,Du⟩:=b8.ba.row (f:=bn.cells) (λ_=>rfl) hi hi;have Sj:zE=aP:=by rw[bI]at Nh;exact(e2 Nh).symm
 subst Sj;generalize L[i]=x at *;generalize L[i+1]=y at *;have cN:IntKind.i64.wrap ((i:Int)+1)=((i+1:Nat):Int):=l2 (by simp) (by omega);refine bZ.mk λgW ae9 afa=>?_;refine cd.mk [] _ _ _ rfl rfl (bK rfl) rfl ?_;refine a5.mk (λzl=>?_) (λzl=>?_)
 ·have zl:w=1:=c5 zl;have yD:Dx w=57:=bT zl;refine cd.mk [] _ _ _ rfl rfl (bK rfl) rfl ?_;refine c2.BO a3 rfl rfl rfl (ι:=Nat×bh×Bool×aJ) (λz=>{ bp:=[(10,.ref 10 0),(13,.val (.func (.func 165) #[] #[ptr dQ,ptr b9,ptr gW,ptr ea,ptr b6])),(14,.val (ptr z.1)),(15,.val (.bool z.2.2.1))],cl:=[(10,[.slice none 0 0])],cP:=z.2.2.2,da:=⟨z.1,.cells z.2.1.cells.toArray 62 (0,0)⟩::Gn ea b6 dQ b9 gW g u pa pn pc cf L.length cx (i:Int) 57 }) (λz=>(∀ b o,I b=some o->z.2.2.2 b=some o)/\o=bif z.2.2.1 then some z.2.1 else none) ?_ ?_
  ·refine aV.mk [.slice cf L.length cx] ⟨rfl,_,_,_,.inr ⟨_,.tail _ (.tail _ (.head _)),rfl,rfl⟩,rfl,rfl⟩ ?_;refine aV.mk [.int .i64 (i:Int)] ⟨rfl,_,_,_,.inr ⟨_,.tail _ (.head _),rfl,rfl⟩,rfl,rfl⟩ ?_;refine bA.mk zE i bI rfl (by omega) ?_;refine aV.mk _ (agG _) ?_;refine aV.mk [.slice cf L.length cx] ⟨rfl,_,_,_,.inr ⟨_,.tail _ (.tail _ (.head _)),rfl,rfl⟩,rfl,rfl⟩ ?_;refine aV.mk [.int .i64 (i:Int)] ⟨rfl,_,_,_,.inr ⟨_,.tail _ (.head _),rfl,rfl⟩,rfl,rfl⟩ ?_;refine be.mk _ cN ?_;refine bA.mk zE (i+1) bI rfl hi ?_;refine aV.mk _ (Du _) ?_;refine⟨?_,?_⟩
   ·refine bc.mk [] _ _ (.refl _) Gp ?_;rintro v J N a8⟨-,rfl,s,b,rfl,aC,-⟩;refine bZ.mk λtd Df JW=>?_;refine cd.mk [] (Gn ea b6 dQ b9 gW g u pa pn pc cf L.length cx (i:Int) 57) _ _ rfl rfl (bK rfl) rfl ?_;exact⟨(td,s,b,J),⟨a8,aC⟩,.refl,dY,.cons rfl (.nil)⟩
   ·refine bZ.mk λtd Df JW=>?_;refine eH.mk _ Gp ?_;rintro v J N a8⟨-,rfl,s,b,rfl,aC,-⟩;refine cd.mk [] (Gn ea b6 dQ b9 gW g u pa pn pc cf L.length cx (i:Int) 57) _ _ rfl rfl (bK rfl) rfl ?_;exact⟨(td,s,b,J),⟨a8,aC⟩,.refl,dY,.cons rfl (.nil)⟩
  rintro⟨td,s,b,J⟩⟨a8,aC⟩;simp only at a8 aC;refine a5.mk (λag=>?_) (λag=>?_)
  ·have ag:b=false:=by simpa using ag
   exact⟨_,_,.sub (fC _) .refl,a8,rfl,⟨[],none,0,0⟩,false,rfl,.no (by rw[st,ri,aC,ag];rfl)⟩
  have ag:b=true:=by simpa using ag
  subst ag;have aC:o=some s:=aC;rw[aC]at ri;have ri:nt w (i:Int) S=some (rh (i' w) ((L.take i).map bU++ki s::(L.drop (i+2)).map bU)):=ri;rw[ri]at st;have st:nZ g u path w (i:Int)=some (jK g u path (rh (i' w) ((L.take i).map bU++ki s::(L.drop (i+2)).map bU))):=st;have Dl:=af6 (g:=g) agD ri;have r8:=U7 ri;refine aV.mk s.cells ⟨rfl,_,_,_,.inr ⟨_,.head _,rfl,rfl⟩,rfl,rfl⟩ ?_;refine bc.wi λeS=>?_;obtain⟨bk,v'⟩:=U8 _ eS.d eS.bX;have gl:∀ b o,I b=some o->Dt J _ b=some o:=λb o h=>bk _ _ (a8 _ _ h);refine bc.zo _ [] [] _ (h6.all λ_ _=>by simp) (agv (w:=w) (s:=s) (bl.mono gl) hw (ax.mono gl) (λd ah=>by have:=aD d ah;omega) yu hu (aH.mono gl) cv (b8.mono gl) Kb hi rfl Dl (by omega) (v' _ (.tail _ (.tail _ (.tail _ (.head _))))) (v' _ (.tail _ (.tail _ (.head _)))) (by rw[yD];exact v' _ (.tail _ (.head _))) (v' _ (.tail _ (.tail _ (.tail _ (.tail _ (.tail _ (.head _))))))) (v' _ (.tail _ (.tail _ (.tail _ (.tail _ (.head _))))))) ?_;rintro v cE N cI -⟨-,rfl,h,b,rfl,aX⟩;exact⟨_,_,.refl,λb o h=>cI _ _ (gl _ _ h),rfl,h,b,rfl,⟨by rw[aX.is];unfold lO;rw[st],λag=>by
   obtain⟨ew,e9,bf,fb⟩:=aX.ok ag;exact⟨ew,e9,_,bf,st,fb⟩⟩⟩
 ·have zl:¬ w=1:=dP zl;have yD:Dx w=56:=bP zl;refine c2.BO a3 rfl rfl rfl (ι:=Nat×bh×Bool×aJ) (λz=>{ bp:=[(10,.ref 10 0),(13,.val (.func (.func 165) #[] #[ptr dQ,ptr b9,ptr gW,ptr ea,ptr b6])),(14,.val (ptr z.1)),(15,.val (.bool z.2.2.1))],cl:=[(10,[.slice none 0 0])],cP:=z.2.2.2,da:=⟨z.1,.cells z.2.1.cells.toArray 62 (0,0)⟩::Gn ea b6 dQ b9 gW g u pa pn pc cf L.length cx (i:Int) 56 }) (λz=>(∀ b o,I b=some o->z.2.2.2 b=some o)/\o=bif z.2.2.1 then some z.2.1 else none) ?_ ?_
  ·refine aV.mk [.slice cf L.length cx] ⟨rfl,_,_,_,.inr ⟨_,.tail _ (.tail _ (.head _)),rfl,rfl⟩,rfl,rfl⟩ ?_;refine aV.mk [.int .i64 (i:Int)] ⟨rfl,_,_,_,.inr ⟨_,.tail _ (.head _),rfl,rfl⟩,rfl,rfl⟩ ?_;refine bA.mk zE i bI rfl (by omega) ?_;refine aV.mk _ (agG _) ?_;refine aV.mk [.slice cf L.length cx] ⟨rfl,_,_,_,.inr ⟨_,.tail _ (.tail _ (.head _)),rfl,rfl⟩,rfl,rfl⟩ ?_;refine aV.mk [.int .i64 (i:Int)] ⟨rfl,_,_,_,.inr ⟨_,.tail _ (.head _),rfl,rfl⟩,rfl,rfl⟩ ?_;refine be.mk _ cN ?_;refine bA.mk zE (i+1) bI rfl hi ?_;refine aV.mk _ (Du _) ?_;refine⟨?_,?_⟩
   ·refine bc.mk [] _ _ (.refl _) Gp ?_;rintro v J N a8⟨-,rfl,s,b,rfl,aC,-⟩;refine bZ.mk λtd Df JW=>?_;refine cd.mk [] (Gn ea b6 dQ b9 gW g u pa pn pc cf L.length cx (i:Int) 56) _ _ rfl rfl (bK rfl) rfl ?_;exact⟨(td,s,b,J),⟨a8,aC⟩,.refl,dY,.cons rfl (.nil)⟩
   ·refine bZ.mk λtd Df JW=>?_;refine eH.mk _ Gp ?_;rintro v J N a8⟨-,rfl,s,b,rfl,aC,-⟩;refine cd.mk [] (Gn ea b6 dQ b9 gW g u pa pn pc cf L.length cx (i:Int) 56) _ _ rfl rfl (bK rfl) rfl ?_;exact⟨(td,s,b,J),⟨a8,aC⟩,.refl,dY,.cons rfl (.nil)⟩
  rintro⟨td,s,b,J⟩⟨a8,aC⟩;simp only at a8 aC;refine a5.mk (λag=>?_) (λag=>?_)
  ·have ag:b=false:=by simpa using ag
   exact⟨_,_,.sub (fC _) .refl,a8,rfl,⟨[],none,0,0⟩,false,rfl,.no (by rw[st,ri,aC,ag];rfl)⟩
  have ag:b=true:=by simpa using ag
  subst ag;have aC:o=some s:=aC;rw[aC]at ri;have ri:nt w (i:Int) S=some (rh (i' w) ((L.take i).map bU++ki s::(L.drop (i+2)).map bU)):=ri;rw[ri]at st;have st:nZ g u path w (i:Int)=some (jK g u path (rh (i' w) ((L.take i).map bU++ki s::(L.drop (i+2)).map bU))):=st;have Dl:=af6 (g:=g) agD ri;have r8:=U7 ri;refine aV.mk s.cells ⟨rfl,_,_,_,.inr ⟨_,.head _,rfl,rfl⟩,rfl,rfl⟩ ?_;refine bc.wi λeS=>?_;obtain⟨bk,v'⟩:=U8 _ eS.d eS.bX;have gl:∀ b o,I b=some o->Dt J _ b=some o:=λb o h=>bk _ _ (a8 _ _ h);refine bc.zo _ [] [] _ (h6.all λ_ _=>by simp) (agv (w:=w) (s:=s) (bl.mono gl) hw (ax.mono gl) (λd ah=>by have:=aD d ah;omega) yu hu (aH.mono gl) cv (b8.mono gl) Kb hi rfl Dl (by omega) (v' _ (.tail _ (.tail _ (.tail _ (.head _))))) (v' _ (.tail _ (.tail _ (.head _)))) (by rw[yD];exact v' _ (.tail _ (.head _))) (v' _ (.tail _ (.tail _ (.tail _ (.tail _ (.tail _ (.head _))))))) (v' _ (.tail _ (.tail _ (.tail _ (.tail _ (.head _))))))) ?_;rintro v cE N cI -⟨-,rfl,h,b,rfl,aX⟩;exact⟨_,_,.refl,λb o h=>cI _ _ (gl _ _ h),rfl,h,b,rfl,⟨by rw[aX.is];unfold lO;rw[st],λag=>by
   obtain⟨ew,e9,bf,fb⟩:=aX.ok ag;exact⟨ew,e9,_,bf,st,fb⟩⟩⟩
def Vp(x:Nat×List Int)(w:Int)(aY:Int)(a:Option Addr)(c:Nat):Value:=.agg #[.int .u8 5,.int .u8 w,.int .i64 x.1,.slice a x.2.length c,.int .i64 aY]
def avt(p:List Int):(kI p).length=p.length:=by simp[kI]
def avu(p:List Int):fJ (kI p)=true:=by
 unfold kI
 induction p with
 |nil=>rfl| cons x p aN=>simpa[fJ,Value.oneCell']using aN
def avv(aH:cD I pa x.2.length pc 1 8 (kI x.2))(w aY:Int) :
  Spec Tryz.prog 164 [J5 (x.1:Int) pa x.2.length pc,.int .u8 w,.int .i64 aY] I [] λv I' M'=>(∀ b o,I b=some o->I' b=some o)/\M'=[]/\∃ a c,v=Vp x w aY a c/\cD I' a x.2.length c 1 8 (kI x.2):=by
 refine x2 [] a3 Tryz.func164 rfl rfl rfl ?_;intro B aw;have hy:=aH.cap;obtain⟨u,path⟩:=x;refine c2.Pe (λi=>Nat.blt i 5) a3 rfl rfl rfl ?_;intro G g9;refine kM.Vl a3 rfl (e:=3) rfl rfl rfl h3 (xs:=[]) (k0 1) (F9 (g9 _ (by simp[Op.operands,Call.operands])) rfl) (sa:=pa) (m:=path.length) (c':=pc) (F9 (g9 _ (by simp[Op.operands,Call.operands])) rfl) (b3:=kI path) (by rw[avt];exact(gP _).symm) (λh=>?_) (avu _) [] [] rfl (by unfold maxLen;show 0+_<=_;simp only at hy;omega) (by show(0+path.length)*8<=_;simp only at hy;omega) ?_
 ·obtain⟨aP,bI,de,cs,T,an,bB,ao⟩:=aH.rd.resolve_left (by simp only;omega);exact⟨aP,bI,de,cs,T,an,.inl bB,ao,aH.len⟩
 intro uw nL Vn;intro eS;have nL:uw.n=path.length:=by rw[nL];exact dp _
 have dr:=Oa (J:=I) (e:=3) (b:=8) Vn (by rw[nL];simp only at hy;omega);rw[nL]at dr;refine⟨me I uw 3,[],N' (λg _=>by simp),Gb (M:=[]) eS.d,rfl,uw.a.map λg=>⟨g,0,none⟩,uw.c,?_,dr⟩;show Value.agg #[_,_,_,.slice _ uw.n _,_]=_;rw[nL];rfl
abbrev pA:=(Nat×List Int)×Int×Int
def xK(g:cg)(x:Nat×List Int):Nat:=match(bU (g.ds.getD x.1 iY).t).go x.2 with
 |some S=>S.sub.length| none=>0
def qm(ay:List Int)(g:cg)(x:Nat×List Int)(w:Int):Nat->Nat->List pA
 |0,_=>[]| n+1,j=>(bif lO ay g x.1 x.2 w (j:Int)then [(x,w,(j:Int))]else [])++qm ay g x w n (j+1)
def oz(ay:List Int)(g:cg)(x:Nat×List Int)(k:Nat):Nat->Nat->List pA
 |0,_=>[]| n+1,w=>qm ay g x (w:Int) k 0++oz ay g x k n (w+1)
def zm(ay:List Int)(g:cg)(x:Nat×List Int):List pA:=oz ay g x (xK g x) 3 1
def wa(ay:List Int)(g:cg):List pA:=(kj 0 g.ds).flatMap (zm ay g)
open Classical in
noncomputable def th(ay:List Int)(g:cg):List pA:=if ∃ r,lI ay g r/\r.2=0 then wa ay g else []
def Vq(af:lI ay g r):th ay g=if r.2=0 then wa ay g else []:=by
 unfold th;by_cases h:r.2=0
 ·rw[bT h,bT ⟨r,af,h⟩]
 ·rw[bP h,bP];rintro⟨mR,fA,bj⟩;rw[fA.eq af]at bj;exact h bj
def avw(hu:u<g.ds.length)(cv:(bU g.ds[u].t).go p=some S)(h:S.d.k≠i' w)(aY:Int):lO ay g u p w aY=false:=by unfold lO;rw[agB hu cv,nt,bP λe=>h e.1];rfl
def agH{ay:List Int}{g:cg}{x:Nat×List Int}{w:Int}(h:∀ j:Nat,lO ay g x.1 x.2 w (j:Int)=false):∀ n j,qm ay g x w n j=[]
 |0,_=>rfl| n+1,j=>by rw[qm,h,agH h n (j+1)];rfl
def agI(ay:List Int)(g:cg)(x:Nat×List Int)(w:Int):∀ n j,(qm ay g x w n j).length<=n
 |0,_=>b2 _
 |n+1,j=>by
  have:=agI ay g x w n (j+1);rw[qm,cm];cases lO ay g x.1 x.2 w (j:Int)<;>simp<;>omega
def avx(l:List pA)(k:Nat)(vs:List Value)(I:aJ):Prop:=∃ x w aY a c,l[k]?=some (x,w,aY)/\vs=[Vp x w aY a c]/\cD I a x.2.length c 1 8 (kI x.2)
def agJ(g:cg):Spec Tryz.prog 100 [g.val] I [] λr I' M'=>∃ b1,r=.func (.func 163) #[] #[ptr b1]/\I' b1=some (.cells #[.slice g.a g.n g.c] 30 (0,0))/\(∀ b o,I b=some o->I' b=some o)/\M'=[]:=by refine b0 [1] a3 Tryz.func100 rfl rfl rfl ?_;intro B aw;refine bZ.mk λb1 iN T6=>?_;exact⟨_,_,.n1 rfl (by simp) .refl,b1,rfl,pS ..,mz iN,rfl⟩
def agK{t:bn}(au:t.ok I)(af:right t=true)(aD:t.n<=1048576)(ht:bU t=X){r:Nat}(en:t.br=(r:Int))(eJ:r<t.ns.length)(dr:cD J a n c 2 0 (L.flatMap bn.cells))(b8:L.length=(nodeAt t.ns r).aq.length)(eI:∀ q (h:q<L.length),(L[q]).ok J/\p2 t ((nodeAt t.ns r).aq.getD q 0) L[q]) :
  n=L.length/\v8 J a c L/\L.map bU=X.sub/\(L.map (·.n)).sum<=274877906944/\L.length<=274877906944:=by
 rw[gy eJ]at b8 eI;have oL:n=L.length:=by have:=dr.len;rw[Vm]at this;omega
 have aX:=jm.1 af;have eU:∀ q (h:q<L.length),k7 L[q] (fr t.ns (t.ns[r].aq[q]'(by omega)))/\eY (fr t.ns (t.ns[r].aq[q]'(by omega)))/\jr (fr t.ns (t.ns[r].aq[q]'(by omega))):=λq h=>by
  have aa:=(eI q h).2;have aM:q<t.ns[r].aq.length:=by omega
  have e:t.ns[r].aq.getD q 0=t.ns[r].aq[q]:=by simp[bM,aM]
  rw[e]at aa;exact agc af eJ (bJ aM) aa
 have hm:L.map bU=X.sub:=by rw[<-ht,J' af en eJ];show _=t.ns[r].aq.map (fr t.ns);refine oH (by simpa using b8) λq aa ab=>?_;rw[gg,gg];obtain⟨fF,fB,l0⟩:=eU q (by simpa using aa);exact fF.bU fB l0
 have ho:=au.n;have dk:=zi af;have atZ:dG X=(X.sub.map dG).sum+1:=by
  conv=>lhs;rw[X.eta]
  exact lN _ _
 have FK:(L.map (·.n)).sum=(X.sub.map dG).sum:=by rw[<-hm,gh];congr 1;refine fT λy aE=>?_;obtain⟨q,aM,rfl⟩:=hM aE;obtain⟨fF,fB,l0⟩:=eU q aM;have aa:=congrArg List.length fF.a1;rw[bE,Ds]at aa;have ab:=(eI q aM).1.n;show L[q].n=dG (bU L[q]);rw[fF.bU fB l0];omega
 have cQ:L.length<=(X.sub.map dG).sum:=by
  have:∀ l:List aS,l.length<=(l.map dG).sum:=λl=>by
   induction l with
   |nil=>exact b2 _| cons x l aN=>have:=Bi x;simp only[eo,ca,hz];omega
  have aa:=this X.sub;rw[<-hm,bE]at aa;rw[<-hm];exact aa
 rw[ht]at dk;have hy:=dr.cap;refine⟨oL,⟨?_,λy aE=>?_,by omega,by omega⟩,hm,by omega,by omega⟩
 ·rw[<-oL];exact⟨dr.len,⟨hy.1,by omega⟩,dr.rd⟩
 ·obtain⟨q,aM,rfl⟩:=hM aE;obtain⟨fF,fB,l0⟩:=eU q aM;exact⟨(eI q aM).1,fF.right fB⟩
def agL(UT:aS):∀ (i:Nat) (l:List aS),(∀ c∈l,∀ p∈c.paths,∃ S,c.go p=some S)->∀ q∈aS.v9 i l,∃ j p S,∃ h:j<l.length,q=((i+j:Nat):Int)::p/\l[j].go p=some S
 |_,[],_,q,h=>by rw[aS.Vf]at h;cases h
 |i,c::l,aN,q,h=>by
  rw[aS.Ve]at h;rcases cC.1 h with h | h;·obtain⟨p,aH,rfl⟩:=c0.1 h;obtain⟨S,cv⟩:=aN c (.head _) p aH;exact⟨0,p,S,by simp,rfl,cv⟩
  ·obtain⟨j,p,S,ak,rfl,cv⟩:=agL UT (i+1) l (λc ao=>aN c (.tail _ ao)) q h;exact⟨j+1,p,S,by simp;omega,by rw[show i+1+j=i+(j+1) by omega],by simpa using cv⟩
def avy:∀ (T:aS),∀ p∈T.paths,∃ S,T.go p=some S:=by
 intro T
 induction T using aS.ind with
 |h d ks aN=>
  intro p aH;rw[aS.Ka]at aH;rcases eA.1 aH with rfl | aH;·exact⟨_,rfl⟩
  ·obtain⟨j,q,S,ak,rfl,cv⟩:=agL (.mk d ks) 0 ks aN p aH;refine⟨S,?_⟩;rw[aS.go];have jM:j<(aS.mk d ks).sub.length:=ak;rw[bT (by omega)];have e:(aS.mk d ks).sub.getD (((0+j:Nat):Int)).toNat (.mk d ks)=ks[j]:=by rw[dp];show ks.getD j _=_;rw[bM,dt ak];rfl
   rw[e];exact cv
def agM:∀ (ds:List a0) (i:Nat),∀ x∈kj i ds,∃ j,∃ h:j<ds.length,x.1=i+j/\x.2∈(bU ds[j].t).paths
 |[],i,x,h=>by cases h
 |d::ds,i,x,h=>by
  rw[kj]at h;rcases cC.1 h with h | h;·obtain⟨p,aH,rfl⟩:=c0.1 h;exact⟨0,by simp,rfl,aH⟩
  ·obtain⟨j,ak,e,aH⟩:=agM ds (i+1) x h;exact⟨j+1,by simp;omega,by omega,by simpa using aH⟩
def Kg(h:x∈kj 0 g.ds):∃ hu:x.1<g.ds.length,∃ S,(bU g.ds[x.1].t).go x.2=some S:=by
 obtain⟨j,ak,e,aH⟩:=agM g.ds 0 x h;obtain⟨u,p⟩:=x;simp only at e aH;obtain rfl:u=j:=by omega
 exact⟨ak,avy _ _ aH⟩
structure wb(ay:List Int)(I:aJ)(g:cg):Prop where
 au:ff I ay
 ax:g.ok I
 aD:∀ d∈g.ds,d.t.n<=549755813888
 ag:g.n<=1000000
 xv:(g.ds.map λd=>d.t.ns.length).sum<=1048576
 ae:∀ d∈g.ds,vz d.t
def wb.mono(h:wb ay I g)(bB:∀ b o,I b=some o->I' b=some o):wb ay I' g:=⟨h.au.mono bB,h.ax.mono bB,h.aD,h.ag,h.xv,h.ae⟩
def agN(aH:wb ay I g)(iN:I b1=some (.cells #[.slice g.a g.n g.c] 30 (0,0))) :
  WD Tryz.prog 163 [ptr b1] I (th ay g).length (avx (th ay g)):=by
 intro y R lr uZ rO dS M0 oV iM;refine BF [] a3 Tryz.func163 rfl rfl rfl ?_;intro B aw;have bt:∀ (I1:aJ) (M:List aF),(∀ b o,I b=some o->I1 b=some o)->cY I1 M ⟨b1,0,none⟩ 1 [.slice g.a g.n g.c]:=λI1 M db=>⟨rfl,_,_,_,.inl (db _ _ iN),rfl,rfl⟩;have gC:=aH.mono oV;have hL:=aH.ax.n;refine aV.mk _ (bt _ _ oV) ?_;refine bc.mk [] M0 _ (.refl _) (M6 gC.au gC.ax gC.ae) ?_;rintro v I1 N db⟨-,rfl,r,rfl,af⟩;have cQ:=Vq af;have Vr:∀ b o,I b=some o->I1 b=some o:=λb o h=>db _ _ (oV _ _ h);refine a5.mk (λh=>?_) (λh=>?_)
 ·have hm:r.2≠0:=by have:(!decide (r.2=0))=true:=h;simpa using this
  rw[bP hm]at cQ;have di:0=(th ay g).length:=by rw[cQ];rfl
  exact⟨_,_,.refl,.inl (di ▸ uZ _ _ _ _ db iM)⟩
 have hm:r.2=0:=by have:(!decide (r.2=0))=false:=h;simpa using this
 rw[bT hm]at cQ;obtain⟨F,hw⟩:=af.Dr hL hm;rw[cQ]at rO |-;have r6:=aH.mono Vr;refine aV.mk _ (bt _ _ Vr) ?_;refine bc.mk [] M0 _ (.refl _) (avg r6.au r6.ax aH.xv) ?_;rintro v eE N gx⟨-,os,L,rfl,cc,b8,rfl,nX⟩;rw[bT hw.m]at nX;have Gk:∀ b o,I b=some o->eE b=some o:=λb o h=>gx _ _ (Vr _ _ h);have FO:os.n=L.length:=by have:=cc.len;rw[gL _ 2 jt.cH]at this;omega
 have Kb:L.length<=1048576:=by have aa:=Ok g.ds 0 λd ah=>pz hw.m ah;have ab:=congrArg List.length nX;rw[bE]at ab;have:=aH.xv;omega
 have m3:=uZ _ _ _ _ (λb o h=>gx _ _ (db _ _ h)) iM;have avz:(wa ay g).drop 0=((L.map jt.nu).drop 0).flatMap (zm ay g):=by rw[tA,tA,nX];rfl
 have HQ:∀ d∈g.ds,d.t.n<=274877906944:=λd ah=>by have ai:=Gm (xy (f:=λd:a0=>d.t.ns.length) ah);have aL:=aH.xv;have bq:=(aH.ax.ds d ah).t.n;omega
 generalize wa ay g=sl at *;refine dx.inv (ι:=Nat×Nat×aJ×List aF) (λx=>{ bp:=[(0,.val (.func (.yield y) #[] #[])),(1,.val (ptr b1)),(16,.val os.val),(17,.val (.int .i64 os.n)),(18,.val (.int .i64 (x.1:Int)))],cl:=[],cP:=x.2.2.1,da:=os.ar 77++x.2.2.2 }) (λx=>x.1<=os.n/\(∀ b o,eE b=some o->x.2.2.1 b=some o)/\R x.2.1 x.2.2.1 x.2.2.2/\x.2.1<=sl.length/\sl.drop x.2.1=((L.map jt.nu).drop x.1).flatMap (zm ay g)) (λx=>os.n-x.1) ?_ ?_
 ·exact⟨(0,0,eE,M0),⟨dj _,λ_ _ h=>h,m3,dj _,avz⟩,.refl,il,.nil⟩
 rintro⟨i,vO,J,M1⟩⟨hi,a8,h',Fo,k5⟩;simp only at hi a8 h' Fo k5;refine a5.mk (λh=>?_) (λh=>?_)
 rotate_left
 ·have c8:¬ (i:Int)<(os.n:Int):=dP h;have aK:(L.map jt.nu).drop i=[]:=mr (by rw[bE];omega);rw[aK,PE,Hg]at k5;have:vO=sl.length:=by omega
  subst this;exact⟨_,_,.sub (mT _ _) .refl,.inl h'⟩
 have a4:i<os.n:=by have:(i:Int)<(os.n:Int):=c5 h;omega
 have cJ:i<L.length:=by omega
 have Vs:∀ b o,I b=some o->J b=some o:=λb o h=>a8 _ _ (Gk _ _ h);have Dy:=aH.mono Vs;obtain⟨aP,bI,Kh⟩:=aQ.ok.row (I:=J) (M:=os.ar 77++M1) jt.cH (by decide) cc (e:=77) (λx ad=>im _ ad) cJ;have pf:=(b8 _ (bJ cJ)).mono a8;have FW:(L.map jt.nu).drop i=L[i].nu::(L.map jt.nu).drop (i+1):=by rw[fi (by rw[bE];exact cJ),gg]
 have gk:L[i].nu∈kj 0 g.ds:=by rw[<-nX];exact xy (bJ cJ)
 rw[FW]at k5;generalize L[i]=x at *;obtain⟨u,path,xa,xc⟩:=x;obtain⟨hu,S,cv⟩:=Kg gk;simp only[jt.nu]at hu cv k5 gk;rw[jf]at k5;have Vt:cD J xa path.length xc 1 8 (kI path):=pf.ba;have kH:g.ds.getD u iY=g.ds[u]:=by simp[bM,hu]
 have avA:xK g (u,path)=S.sub.length:=by unfold xK;simp only[kH,cv]
 have eW:qj g (u:Int) path=some S:=by unfold qj;rw[bT (by omega),gN,kH,cv]
 have avB:=dc (i:=i) (by omega);refine bA.mk aP i bI rfl a4 ?_;refine aV.mk [.int .i64 (u:Int),.slice xa path.length xc] Kh ?_;have F5:=afW (M0:=[]) Dy.au.c Dy.ax (Vk hw.m aH.aD) (rule:=(u:Int)) Vt;rw[eW]at F5;refine aV.mk _ (bt _ _ Vs) ?_;refine bc.mk [] _ _ (.refl _) F5 ?_;rintro v cE N cI⟨-,rfl,t,rfl,au,dm,bi,tg⟩;have agp:∀ b o,eE b=some o->cE b=some o:=λb o h=>cI _ _ (a8 _ _ h);have pq:=dm.right bi;have ir:=dm.bU bi tg;obtain⟨gG,hd⟩:=lZ pq;obtain⟨k,ae⟩:=eF gG;have cW:k<t.ns.length:=by omega
 have agE:dG S<=1048576:=by have aa:=Gf (X:=ki bh.zero) path _ cv;have ab:=zi (pz hw.m (bJ hu));have ai:=Gm (xy (f:=λd:a0=>d.t.ns.length) (bJ hu));have aL:=aH.xv;have bq:dG (ki bh.zero)=1:=lN _ _;have b':=Bi ((bU g.ds[u].t).put path (ki bh.zero));omega
 have ho:t.n<=1048576:=by have aa:=congrArg List.length dm.a1;rw[bE,Ds]at aa;have:=au.n;omega
 refine a5.mk (λh=>by cases h) (λ_=>?_);refine bc.mk [] _ _ (.refl _) (U9 (M0:=[]) (Dy.au.mono cI) au pq (by omega) ae) ?_;rintro v iG N jG⟨-,rfl,cf,az,cx,jL,rfl,dr,Bm,eI⟩;obtain⟨rfl,Vu,Ot,Vv,Vw⟩:=agK au pq ho ir ae cW dr Bm eI;have eL:S.sub.length=jL.length:=by rw[<-Ot,bE]
 have Ki:∀ b o,J b=some o->iG b=some o:=λb o h=>jG _ _ (cI _ _ h);have ayZ:jL.length<=1048576:=by
  have aa:S.sub.length<=(S.sub.map dG).sum:=by
   have:∀ l:List aS,l.length<=(l.map dG).sum:=λl=>by
    induction l with
    |nil=>exact b2 _| cons x l aN=>have:=Bi x;simp only[eo,ca,hz];omega
   exact this _
  have ab:dG S=(S.sub.map dG).sum+1:=by
   conv=>lhs;rw[S.eta]
   exact lN _ _
  omega
 have agO:∀ b o,I b=some o->iG b=some o:=λb o h=>Ki _ _ (Vs _ _ h);have JA:=au.mono jG;have yV:=uZ _ _ _ _ Ki h';rw[show zm ay g (u,path)=oz ay g (u,path) jL.length 3 1 by unfold zm;rw[avA,eL]]at k5;clear F5 eI Bm dr pf dm Kh bI;generalize rH:((L.map jt.nu).drop (i+1)).flatMap (zm ay g)=bo at k5;refine dx.inv (ι:=Nat×Nat×aJ×List aF) (λz=>{ bp:=[(0,.val (.func (.yield y) #[] #[])),(1,.val (ptr b1)),(4,.ref 4 0),(5,.ref 5 0),(7,.val (.slice cf jL.length cx)),(8,.val (.int .u8 (z.1:Int))),(16,.val os.val),(17,.val (.int .i64 os.n)),(18,.val (.int .i64 (i:Int)))],cl:=[(4,[.int .i64 (u:Int),.slice xa path.length xc]),(5,t.cells)],cP:=z.2.2.1,da:=os.ar 77++z.2.2.2 }) (λz=>(1<=z.1/\z.1<=4)/\(∀ b o,iG b=some o->z.2.2.1 b=some o)/\R z.2.1 z.2.2.1 z.2.2.2/\z.2.1<=sl.length/\sl.drop z.2.1=oz ay g (u,path) jL.length (4-z.1) z.1++bo) (λz=>4-z.1) ?_ ?_
 ·exact⟨(1,vO,iG,M1),⟨⟨b2 _,show 1<=4 by decide⟩,λ_ _ h=>h,yV,Fo,k5⟩,.refl,mS,.cons rfl (.cons rfl (.nil))⟩
 rintro⟨w,Vx,K,dy⟩⟨⟨zl,Vc⟩,eG,Ou,Ov,Dz⟩;simp only at zl Vc eG Ou Ov Dz;have ay0:∀ b o,I b=some o->K b=some o:=λb o h=>eG _ _ (agO _ _ h);refine a5.mk (λh=>?_) (λh=>?_)
 rotate_left
 ·have c8:¬ (w:Int)<4:=dP h;obtain rfl:w=4:=by omega
  rw[show 4-4=0 from rfl,oz,hX,<-rH]at Dz;refine be.mk _ avB ?_;exact⟨(i+1,Vx,K,dy),⟨⟨a4,λb o h=>eG _ _ (Ki _ _ (a8 _ _ h)),Ou,Ov,Dz⟩,by simp only;omega⟩,.refl,il,.nil⟩
 have agP:w<4:=by have:(w:Int)<4:=c5 h;omega
 have Kj:IntKind.u8.wrap ((w:Int)+1)=((w+1:Nat):Int):=by rw[show((w:Int)+1)=((w+1:Nat):Int) by omega];exact amx _ (by omega)
 rw[show 4-w=(4-(w+1))+1 by omega,oz,ec]at Dz;refine bc.mk [] _ _ (.refl _) (agA (M0:=[]) (JA.mono eG) pq (w:Int)) ?_;rintro v sm N -⟨Vy,rfl,b,rfl,ag⟩;subst sm;rw[ir]at ag;refine a5.mk (λh=>?_) (λh=>?_)
 ·have zn:b=false:=by have:(!b)=true:=h;simpa using this
  have bD:S.d.k≠i' (w:Int):=dP (by rw[<-ag,zn]);rw[agH (λj=>avw hu cv bD _),hX]at Dz;refine be.mk _ Kj ?_;exact⟨(w+1,Vx,K,dy),⟨⟨⟨by omega,agP⟩,eG,Ou,Ov,Dz⟩,by simp only;omega⟩,.refl,mS,.cons rfl (.cons rfl (.nil))⟩
 have xL:b=true:=by have:(!b)=false:=h;simpa using this
 have va:S.d.k=i' (w:Int):=c5 (by rw[<-ag,xL]);have Je:=aH.ax;refine dx.inv (ι:=Nat×Nat×aJ×List aF) (λz=>{ bp:=[(0,.val (.func (.yield y) #[] #[])),(1,.val (ptr b1)),(4,.ref 4 0),(5,.ref 5 0),(7,.val (.slice cf jL.length cx)),(8,.val (.int .u8 (w:Int))),(16,.val os.val),(17,.val (.int .i64 os.n)),(18,.val (.int .i64 (i:Int))),(41,.val (.int .i64 (jL.length:Int))),(42,.val (.int .i64 (z.1:Int)))],cl:=[(4,[.int .i64 (u:Int),.slice xa path.length xc]),(5,t.cells)],cP:=z.2.2.1,da:=os.ar 77++z.2.2.2 }) (λz=>z.1<=jL.length/\(∀ b o,K b=some o->z.2.2.1 b=some o)/\R z.2.1 z.2.2.1 z.2.2.2/\z.2.1<=sl.length/\sl.drop z.2.1=qm ay g (u,path) (w:Int) (jL.length-z.1) z.1++(oz ay g (u,path) jL.length (4-(w+1)) (w+1)++bo)) (λz=>jL.length-z.1) ?_ ?_
 ·exact⟨(0,Vx,K,dy),⟨dj _,λ_ _ h=>h,Ou,Ov,Dz⟩,.refl,GO,.cons rfl (.cons rfl (.nil))⟩
 rintro⟨j,Bn,Q,oM⟩⟨ak,nA,Ow,Vz,uF⟩;simp only at ak nA Ow Vz uF;have Kk:∀ b o,iG b=some o->Q b=some o:=λb o h=>nA _ _ (eG _ _ h);have VA:∀ b o,I b=some o->Q b=some o:=λb o h=>Kk _ _ (agO _ _ h);refine a5.mk (λh=>?_) (λh=>?_)
 rotate_left
 ·have c8:¬ (j:Int)<(jL.length:Int):=dP h;have di:jL.length-j=0:=by omega
  rw[di,qm,hX]at uF;refine be.mk _ Kj ?_;exact⟨(w+1,Bn,Q,oM),⟨⟨⟨by omega,agP⟩,Kk,Ow,Vz,uF⟩,by simp only;omega⟩,.refl,mS,.cons rfl (.cons rfl (.nil))⟩
 have agQ:j<jL.length:=by have:(j:Int)<(jL.length:Int):=c5 h;omega
 rw[show jL.length-j=(jL.length-(j+1))+1 by omega,qm,ec]at uF;have agR:=aH.mono VA;have Er:=agC agR.au hw agR.ax (λd ah=>HQ d ah) aH.ag hu (pa:=xa) (pn:=path.length) (pc:=xc) (Vt.mono (λb o h=>Kk _ _ (Ki _ _ h))) cv (Vu.mono Kk) ⟨Vv,Vw⟩ Ot (w:=(w:Int)) (by omega) va (aY:=(j:Int)) ⟨by omega,by omega⟩;have agS:=dc (i:=j) (by omega);refine aV.mk _ (bt _ _ VA) ?_;refine bc.mk [] _ _ (.refl _) Er ?_;rintro v VB N Ox⟨-,rfl,h,b,rfl,avC⟩;have Gq:=avC.is;have avD:∀ b o,K b=some o->VB b=some o:=λb o h=>Ox _ _ (nA _ _ h);refine a5.mk (λag=>?_) (λag=>?_)
 ·have zn:b=false:=by have:(!b)=true:=ag;simpa using this
  have a7:lO ay g (u,path).1 (u,path).2 (w:Int) (j:Int)=false:=by rw[<-zn];exact Gq.symm
  rw[a7]at uF;refine be.mk _ agS ?_;exact⟨(j+1,Bn,VB,oM),⟨⟨agQ,avD,uZ _ _ _ _ Ox Ow,Vz,uF⟩,by simp only;omega⟩,.refl,GO,.cons rfl (.cons rfl (.nil))⟩
 have xL:b=true:=by have:(!b)=false:=ag;simpa using this
 have a7:lO ay g (u,path).1 (u,path).2 (w:Int) (j:Int)=true:=by rw[<-xL];exact Gq.symm
 rw[a7]at uF;have uF:sl.drop Bn=((u,path),(w:Int),(j:Int))::(qm ay g (u,path) (w:Int) (jL.length-(j+1)) (j+1)++(oz ay g (u,path) jL.length (4-(w+1)) (w+1)++bo)):=uF;have I5:Bn<sl.length:=by have:=congrArg List.length uF;rw[qw,eo]at this;omega
 have eU:sl[Bn]?=some ((u,path),(w:Int),(j:Int)):=by
  have aa:(sl.drop Bn)[0]?=some ((u,path),(w:Int),(j:Int)):=by rw[uF];rfl
  rwa [nw,pD]at aa
 have avE:cD VB xa path.length xc 1 8 (kI path):=Vt.mono (λb o h=>Ox _ _ (Kk _ _ (Ki _ _ h)));refine bc.mk [] _ _ (.refl _) (avv (x:=(u,path)) avE (w:Int) (j:Int)) ?_;rintro v agT N avF⟨-,rfl,sa,HY,rfl,JB⟩;have VC:∀ b o,Q b=some o->agT b=some o:=λb o h=>avF _ _ (Ox _ _ h);refine bF.yield rfl (by simp) rfl rfl ?_;have aE:=rO Bn I5 [Vp (u,path) (w:Int) (j:Int) sa HY] agT oM (λb o h=>VC _ _ (VA _ _ h)) ⟨(u,path),(w:Int),(j:Int),sa,HY,eU,rfl,JB⟩ (uZ _ _ _ _ VC Ow);refine BQ.mk oM (os.ar 77) _ (eT (l₁:=os.ar 77) (l₂:=oM)) aE ?_;rintro abq avG qE avH (⟨rfl,MQ⟩ | ⟨rfl,ad⟩)
 ·refine a5.mk (λh=>by simp at h) (λ_=>?_);refine be.mk _ agS ?_;refine⟨(j+1,Bn+1,avG,qE),⟨⟨agQ,λb o h=>avH _ _ (VC _ _ (nA _ _ h)),MQ,I5,?_⟩,by simp only;omega⟩,.perm eT .refl,GO,.cons rfl (.cons rfl (.nil))⟩;simp only;rw[<-DU,uF];rfl
 ·refine a5.mk (λ_=>?_) (λh=>by simp at h);exact⟨_,_,.sub (xq _ _) .refl,.inr ad⟩
def wc:cg:=⟨[],none,0,0⟩
section
end
section
end
section
end
def agU{α:Type}(f:α->Nat)(m:Nat):∀ (l:List α),(∀ x∈l,f x<=m)->(l.map f).sum<=m*l.length
 |[],_=>by simp
 |a::l,h=>by have aa:=agU f m l λx ad=>h x (.tail _ ad);have ab:=h a (.head _);rw[ca,hz,eo,Nat.mul_succ];omega
def avI(bl:ff I ay)(ax:g.ok I)(av:AW g):wb ay I g:=by
 have aa:=av.n;have ab:∀ d∈g.ds,d.t.n<400:=λd ah=>(av.ds d ah).t.n;have ai:=agU (λd:a0=>d.t.ns.length) 400 g.ds λd ah=>by have:=(ax.ds d ah).t.n;have:=ab d ah;omega
 have aL:=ax.n;refine⟨bl,ax,λd ah=>by have:=ab d ah;omega,by omega,?_,λd ah n aD=>?_⟩
 ·have:400*g.ds.length<=400*400:=Nat.mul_le_mul_left _ (by omega);omega
 ·have:=((av.ds d ah).t.ns n aD).az;omega
def Kl(hm:du ay g=0):(∀ d∈g.ds,d.t.n<=1024)/\(g.ds.map λd=>d.t.n).sum<=1024:=by
 obtain⟨aa,ab,ai,aL,bq⟩:=JC.1 hm;unfold pX at ai;simp only[tI,sE]at ai;have b':mB g<=1024:=by omega
 have e:mB g=(g.ds.map λd=>d.t.n).sum:=by unfold mB;congr 1;refine fT λd ah=>?_;unfold h1;rw[pz hm ah];rfl
 rw[e]at b';refine⟨λd ah=>?_,b'⟩;have:=adN (l:=g.ds.map λd=>d.t.n) (x:=d.t.n) (c0.2 ⟨d,ah,rfl⟩);omega
def agV(bl:ff I ay)(ax:g.ok I)(hm:du ay g=0):wb ay I g:=by obtain⟨aa,ab⟩:=Kl hm;have k6:=Jj hm;have e:(g.ds.map λd=>d.t.ns.length)=g.ds.map λd=>d.t.n:=fT λd ah=>(ax.ds d ah).t.n;refine⟨bl,ax,λd ah=>by have:=aa d ah;omega,by omega,by rw[e];omega,λd ah=>agt (ax.ds d ah).t (pz hm ah) (by have:=aa d ah;omega)⟩
def Oy(t:bn):bU t.a1=bU t:=aeq t.ns t.br
def agW:∀ (ds:List a0) (i:Nat),kj i (ds.map a0.a1)=kj i ds
 |[],_=>rfl| d::ds,i=>by rw[ca,kj,kj,agW ds (i+1)];show(bU d.t.a1).paths.map _++_=_;rw[Oy]
def VD(ds:List a0)(u:Nat):bU ((ds.map a0.a1).getD u iY).t=bU (ds.getD u iY).t:=by
 rw[bM,bM,ju];cases ds[u]? with
 |none=>rfl| some d=>exact Oy d.t
def avJ:(a0.a1 ∘ a0.a1)=a0.a1:=by funext d;show a0.mk d.name (d.t.a1.a1)=⟨d.name,d.t.a1⟩;congr 1;show bn.mk ((d.t.ns.map al.a1).map al.a1) _ _ _ _=⟨d.t.ns.map al.a1,_,_,_,_⟩;rw[gh];rfl
def avK(ds:List a0)(u:Nat)(y:bn):(ez (ds.map a0.a1) u y).map a0.a1=(ez ds u y).map a0.a1:=by
 unfold ez;rw[qy,qy,gh];have e:=avJ;rw[e];by_cases h:u<ds.length
 ·have:((ds.map a0.a1).getD u iY).name=(ds.getD u iY).name:=by simp[bM,h,a0.a1]
  rw[this]
 ·rw[List.set_eq_of_length_le (by rw[bE];omega),List.set_eq_of_length_le (by rw[bE];omega)]
def avL(ay:List Int)(g:cg)(u:Nat)(X:aS):xG ay g.a1 u X=xG ay g u X:=by unfold xG;congr 2;rw[<-Cy,<-Cy ay (sf (ez g.ds u (jD X.post)))];congr 1;unfold cg.a1 sf;simp only[avK,sj,bE]
structure kk where
 ps:Int
 w:Int
 rule:Nat
 path:List Int
 aY:Int
 a:Option Addr
 c:Nat
def kk.cells(x:kk):List Value:=[.int .u8 x.ps,.int .u8 x.w,.int .i64 x.rule,.slice x.a x.path.length x.c,.int .i64 x.aY]
def kk.cH(x:kk):x.cells.length=5:=rfl
def kk.val(x:kk):Value:=.agg x.cells.toArray
structure kk.ok(I:aJ)(x:kk):Prop where
 ba:cD I x.a x.path.length x.c 1 8 (kI x.path)
def kk.ok.mono{x:kk}(h:x.ok I)(bB:∀ b o,I b=some o->I' b=some o):x.ok I':=⟨h.ba.mono bB⟩
def kk.nu(x:kk):pA:=((x.rule,x.path),x.w,x.aY)
def agX{α β:Type}(f:α->List β)(m:Nat):∀ l:List α,(∀ x∈l,(f x).length<=m)->(l.flatMap f).length<=l.length*m
 |[],_=>by simp
 |a::l,h=>by have aa:=agX f m l λx ad=>h x (.tail _ ad);have ab:=h a (.head _);rw[jf,cm,eo,Kv];omega
def agY(ay:List Int)(g:cg)(x:Nat×List Int)(k:Nat):∀ n w,(oz ay g x k n w).length<=n*k
 |0,_=>by simp[oz]
 |n+1,w=>by have aa:=agY ay g x k n (w+1);have ab:=agI ay g x (w:Int) k 0;rw[oz,cm,Kv];omega
def agZ(S:aS):S.sub.length<=dG S:=by
 have:∀ l:List aS,l.length<=(l.map dG).sum:=λl=>by
  induction l with
  |nil=>exact b2 _| cons x l aN=>have:=Bi x;simp only[eo,ca,hz];omega
 have aa:=this S.sub;have ab:dG S=(S.sub.map dG).sum+1:=by
  conv=>lhs;rw[S.eta]
  exact lN _ _
 omega
def VE{T:aS}(h:T.go p=some S):dG S<=dG T:=by have aa:=Gf (X:=ki bh.zero) p _ h;have bq:dG (ki bh.zero)=1:=lN _ _;have b':=Bi (T.put p (ki bh.zero));omega
def avM(aD:g.ds.length=g.n)(bi:∀ d∈g.ds,d.t.ns.length=d.t.n):(th ay g).length<=4194304:=by
 unfold th;split
 ·rename_i h;obtain⟨r,af,aw⟩:=h;obtain⟨F,hw⟩:=af.Dr aD aw;obtain⟨cM,m2⟩:=Kl hw.m;have FK:(g.ds.map λd=>d.t.ns.length).sum<=1024:=by rw[show(g.ds.map λd=>d.t.ns.length)=g.ds.map λd=>d.t.n from fT λd ah=>bi d ah];exact m2
  have aa:=Ok g.ds 0 λd ah=>pz hw.m ah;have ab:=agX (zm ay g) 3072 (kj 0 g.ds) λx ad=>by
   have ai:=agY ay g x (xK g x) 3 1;obtain⟨hu,S,cv⟩:=Kg ad;have kH:g.ds.getD x.1 iY=g.ds[x.1]:=by simp[bM,hu]
   have aL:xK g x=S.sub.length:=by unfold xK;rw[kH,cv]
   have bq:=agZ S;have b':=VE cv;have dZ:=zi (pz hw.m (bJ hu));have eX:=cM _ (bJ hu);have dT:=bi _ (bJ hu);show(oz ay g x (xK g x) 3 1).length<=_;omega
  show((kj 0 g.ds).flatMap (zm ay g)).length<=_;have:(kj 0 g.ds).length*3072<=1024*3072:=qn _ (by omega);omega
 ·exact dj _
def ag0(aH:wb ay I g):Spec Tryz.prog 44 [g.val] I [] λv I' M'=>(∀ b o,I b=some o->I' b=some o) /\
  ∃ (os:aQ) (L:List kk),v=os.val/\os.ok 5 (L.flatMap kk.cells)/\(∀ x∈L,x.ok I'/\x.ps=5)/\M'=os.ar 40/\L.map kk.nu=th ay g:=by
 refine b0 [3] a3 Tryz.func44 rfl rfl rfl ?_;intro B aw;have g6:=avM (ay:=ay) aH.ax.n λd ah=>(aH.ax.ds d ah).t.n;refine bZ.mk λdA Ay Vh=>?_;refine bc.mk [] [_] _ (.refl _) (agJ g) ?_;rintro v cE N cI⟨b1,rfl,iN,-,rfl⟩;have f':=aH.mono cI;have uY:=agN f' iN;generalize th ay g=sl at *;refine c2.Ha (A:=tE) tE.cons a3 rfl rfl rfl (I1:=cE) (M1:=[⟨dA,.cells #[h3.val] 42 (0,0)⟩]) .refl uY (λk vs I h aM=>by
   obtain⟨x,w,aY,a,c,-,rfl,-⟩:=aM;rfl) (λj I' M'=>∃ (e4:aQ) (jE:List kk),M'=⟨dA,.cells #[e4.val] 42 (0,0)⟩::e4.ar 40/\e4.ok 5 (jE.flatMap kk.cells)/\(∀ y∈jE,y.ok I'/\y.ps=5)/\jE.map kk.nu=sl.take j) (λex I M=>False)
  (λk I I' M h ⟨e4,jE,aa,ab,ai,aL⟩=>⟨e4,jE,aa,ab,λy aE=>⟨(ai y aE).1.mono h,(ai y aE).2⟩,aL⟩) ⟨h3,[],rfl,k0 5,(λy aE=>by cases aE),rfl⟩ ?_ ?_ (λex I' M' _ h=>h.elim)
 ·rintro j ak vs I' M' gl⟨⟨xM,Oz⟩,w,aY,a,c,ad,rfl,dr⟩⟨e4,jE,rfl,kF,oi,zj⟩l B aw hx;have bq:=congrArg List.length zj;rw[bE,fR]at bq;have b':=kF.len;rw[gL _ 5 kk.cH]at b';refine aV.mk [e4.val] (dq (cs:=[e4.val]) (k:=0) (n:=1) (T:=42) (.head _) (by simp)) ?_;refine bZ.mk λb9 m8 uv=>?_;refine bF.l7 a3 rfl (by simp) (e:=40) rfl rfl rfl e4 kF rfl (cs:=(⟨5,w,xM,Oz,aY,a,c⟩:kk).cells) rfl rfl rfl [_] [] (by rw[dD];rfl) (by omega) (by show(e4.n+1)*48<=_;omega) ?_;intro fO aa ab ai;refine cd.mk [] (fO.ar 40++[]) #[e4.val] 42 rfl rfl (bK rfl) rfl ?_;refine⟨_,_,.l6 (by rw[dD];rfl),fO,jE++[⟨5,w,xM,Oz,aY,a,c⟩],rfl,?_,?_,?_⟩
  ·rw[fX,o0];exact ai
  ·intro y aE;rcases cC.1 aE with aE | aE
   ·exact oi y aE
   ·rw[eC.1 aE];exact⟨⟨dr⟩,rfl⟩
  ·obtain⟨tH,AO⟩:=iz.1 ad;rw[cS,zj,gH tH,AO];rfl
 ·rintro I' M' gl⟨e4,jE,rfl,kF,oi,zj⟩;refine aV.mk [e4.val] (dq (cs:=[e4.val]) (k:=0) (n:=1) (T:=42) (.head _) (by simp)) ?_;refine⟨_,_,.sub (wK _ _) .refl,λb o h=>gl _ _ (cI _ _ h),e4,jE,rfl,kF,oi,rfl,?_⟩;rw[zj,fS (b2 _)]
def avN:Value:=.agg #[.int .u8 0,.int .u8 0,.int .i64 0,.slice none 0 0,.int .i64 0]
def avO(aH:wb ay I g):Spec Tryz.prog 45 [g.val] I [] λv I' M'=>(∀ b o,I b=some o->I' b=some o)/\M'=[] /\
  ((th ay g=[]/\v=.tuple #[avN,.bool false])\/∃ x:kk,x.ok I'/\x.ps=5/\(th ay g)[0]?=some x.nu/\v=.tuple #[x.val,.bool true]):=by
 refine b0 [2,3] a3 Tryz.func45 rfl rfl rfl ?_;intro B aw;refine bZ.mk λbW iC SQ=>?_;refine bZ.mk λdA Ay Vh=>?_;refine bc.mk [] _ _ (.refl _) (agJ g) ?_;rintro v cE N cI⟨b1,rfl,iN,-,rfl⟩;have f':=aH.mono cI;have uY:=agN f' iN;generalize th ay g=sl at *;refine c2.Ha (A:=tE) tE.cons a3 rfl rfl rfl (I1:=cE) .refl uY (λk vs I h aM=>by
   obtain⟨x,w,aY,a,c,-,rfl,-⟩:=aM;rfl) (λj I' M'=>(0<j->False)/\M'=[⟨dA,.cells #[.bool false] 4 (0,0)⟩,⟨bW,.cells #[.int .u8 0,.int .u8 0,.int .i64 0,.slice none 0 0,.int .i64 0] 40 (0,0)⟩]) (λex I M=>ex=.ret/\∃ x:kk,x.ok I/\x.ps=5/\sl[0]?=some x.nu/\M=[⟨dA,.cells #[.bool true] 4 (0,0)⟩,⟨bW,.cells x.cells.toArray 40 (0,0)⟩])
  (λk I I' M h bb=>bb) ⟨λh=>absurd h (Nat.lt_irrefl _),rfl⟩ ?_ ?_ ?_
 ·rintro j ak vs I' M' gl⟨⟨xM,Oz⟩,w,aY,a,c,ad,rfl,dr⟩⟨RV,rfl⟩l B aw hx;obtain rfl:j=0:=Nat.eq_zero_of_not_pos RV;refine cd.mk [⟨dA,.cells #[.bool false] 4 (0,0)⟩] [] #[.int .u8 0,.int .u8 0,.int .i64 0,.slice none 0 0,.int .i64 0] _ rfl rfl (bK rfl) rfl ?_;refine cd.mk [] [_] #[.bool false] _ rfl rfl (bK rfl) rfl ?_;exact⟨_,_,.refl,rfl,⟨5,w,xM,Oz,aY,a,c⟩,⟨dr⟩,rfl,ad,rfl⟩
 ·rintro I' M' gl⟨aD,rfl⟩;have lq:sl=[]:=iD (Nat.eq_zero_of_not_pos aD);refine cd.mk [⟨dA,.cells #[.bool false] 4 (0,0)⟩] [] #[.int .u8 0,.int .u8 0,.int .i64 0,.slice none 0 0,.int .i64 0] _ rfl rfl (bK rfl) rfl ?_;refine cd.mk [] [_] #[.bool false] _ rfl rfl (bK rfl) rfl ?_;refine aV.mk [.int .u8 0,.int .u8 0,.int .i64 0,.slice none 0 0,.int .i64 0] ⟨rfl,_,_,_,.inr ⟨_,.tail _ (.head _),rfl,rfl⟩,rfl,rfl⟩ ?_;refine aV.mk [.bool false] ⟨rfl,_,_,_,.inr ⟨_,.head _,rfl,rfl⟩,rfl,rfl⟩ ?_;exact⟨_,_,.sub (fC _) .refl,λb o h=>gl _ _ (cI _ _ h),rfl,.inl ⟨lq,rfl⟩⟩
 ·rintro ex I' M' gl⟨rfl,x,pf,bq,ad,rfl⟩;refine⟨by simp,?_⟩;refine aV.mk x.cells ⟨rfl,_,_,_,.inr ⟨_,.tail _ (.head _),rfl,rfl⟩,rfl,rfl⟩ ?_;refine aV.mk [.bool true] ⟨rfl,_,_,_,.inr ⟨_,.head _,rfl,rfl⟩,rfl,rfl⟩ ?_;exact⟨_,_,.sub (fC _) .refl,λb o h=>gl _ _ (cI _ _ h),rfl,.inr ⟨x,pf,bq,ad,rfl⟩⟩
def OA(ay:List Int)(g:cg)(pass way rule:Int)(path:List Int)(aY:Int):Prop:=pass=5/\(0<=rule/\rule<(g.ds.length:Int))/\lO ay g rule.toNat path way aY=true
structure Gr(ay:List Int)(g:cg)(pass way:Int)(rule:Int)(path:List Int)(aY:Int)(I':aJ)(h:cg)(e:Int):Prop where
 bad:∀ r,lI ay g r->r.2≠0->e=r.2/\h=wc
 no:∀ r,lI ay g r->r.2=0->¬ OA ay g pass way rule path aY->e=47/\h=wc
 avP:∀ r,lI ay g r->r.2=0->OA ay g pass way rule path aY->e=0/\h.ok I'/\h.n=g.n/\∃ X bf,nZ g rule.toNat path way aY=some X/\k7 bf X/\bf.ns.length=bf.n/\h.ds.map a0.a1=(ez g.ds rule.toNat bf).map a0.a1/\du ay h=0/\∃ r,lI ay h r/\r.2=0
def Gr.ag1(af:lI ay g r)(aw:r.2=0)(aD:¬ OA ay g pass way rule path aY):Gr ay g pass way rule path aY I' wc 47:=
 ⟨λmR fA bD=>by rw[fA.eq af]at bD;exact absurd aw bD,λ_ _ _ _=>⟨rfl,rfl⟩,λ_ _ _ aE=>absurd aE aD⟩
def avQ{x:aS}(h:nt w aY S=some x):1<=w/\w<=3:=by
 obtain⟨i,s,-,-,hi,au,-⟩:=J8 h;unfold v7 at au;split at au
 ·omega
 split at au
 ·omega
 split at au
 ·omega
 ·cases au
def VF(h:lO ay g u p w aY=true):∃ S x,(bU (g.ds.getD u iY).t).go p=some S/\nt w aY S=some x/\nZ g u p w aY=some (jK g u p x)/\xG ay g u (jK g u p x)=true:=by
 unfold lO at h;cases ht:nZ g u p w aY with
 |none=>rw[ht]at h;cases h
 |some X=>
  rw[ht]at h;have ay1:=ht;unfold nZ at ht;cases cv:(bU (g.ds.getD u iY).t).go p with
  |none=>rw[cv]at ht;cases ht
  |some S=>
   rw[cv]at ht;have ht:((nt w aY S).map λx=>jK g u p x)=some X:=ht;cases ad:nt w aY S with
   |none=>rw[ad]at ht;cases ht| some x=>rw[ad]at ht;have e:jK g u p x=X:=e2 ht;subst e;exact⟨S,x,rfl,ad,rfl,h⟩
def avR(aH:wb ay I g)(ay2:0<=way)(l':cD I pa pn pc 1 8 (kI path))(eU:ha aY) :
  Spec Tryz.prog 46 [g.val,.agg #[.int .u8 pass,.int .u8 way,.int .i64 rule,.slice pa pn pc,.int .i64 aY]] I [] λv I' M'=>(∀ b o,I b=some o->I' b=some o)/\M'=[]/\∃ (h:cg) (e:Int),v=.tuple #[h.val,.int .i64 e]/\Gr ay g pass way rule path aY I' h e:=by
 refine b0 [] a3 Tryz.func46 rfl rfl rfl ?_;intro B aw;have hL:=aH.ax.n;refine bc.mk [] [] _ (.refl _) (M6 aH.au aH.ax aH.ae) ?_;rintro v J N -⟨a8,rfl,r,rfl,af⟩;refine a5.mk (λh=>?_) (λh=>?_)
 ·have hm:r.2≠0:=by have:(!decide (r.2=0))=true:=h;simpa using this
  exact⟨_,_,.refl,a8,rfl,wc,r.2,rfl,λmR fA _=>by rw[fA.eq af];exact⟨rfl,rfl⟩,λmR fA aw=>by rw[fA.eq af]at aw;exact absurd aw hm,λmR fA aw=>by rw[fA.eq af]at aw;exact absurd aw hm⟩
 have hm:r.2=0:=by have:(!decide (r.2=0))=false:=h;simpa using this
 obtain⟨F,hw⟩:=af.Dr hL hm;have Dy:=aH.mono a8;have ag2:=l'.mono a8;refine bc.mk [] [] _ (.refl _) (afW (M0:=[]) Dy.au.c Dy.ax (Vk hw.m aH.aD) ag2) ?_;rintro v cE N cI vA;obtain⟨xa,Gs,xc,xM,b,rfl,u7⟩:=vA.shape;obtain⟨-,rfl,vA⟩:=vA;have sB:∀ b o,I b=some o->cE b=some o:=λb o h=>cI _ _ (a8 _ _ h);cases eW:qj g rule path with
 |none=>rw[eW]at u7;have zn:b=false:=u7;subst zn;refine cT.mk (λh=>by cases h) (λ_=>?_);refine⟨_,_,.refl,sB,rfl,wc,47,rfl,Gr.ag1 af hm λh=>?_⟩;unfold qj at eW;rw[bT h.2.1]at eW;obtain⟨S,x,aa,-⟩:=VF h.2.2;rw[aa]at eW;cases eW
 |some S=>
 rw[eW]at u7 vA;have xL:b=true:=u7;subst xL;obtain⟨x,IW,ad,dm,bi,tg⟩:=vA;have VG:0<=rule/\rule<(g.ds.length:Int):=by
  unfold qj at eW;split at eW;·assumption
  ·cases eW
 obtain⟨u,rfl⟩:=eF VG.1;have hu:u<g.ds.length:=by omega
 have kH:g.ds.getD u iY=g.ds[u]:=by simp[bM,hu]
 have VH:((u:Nat):Int).toNat=u:=gN u;have cv:(bU g.ds[u].t).go path=some S:=by unfold qj at eW;rw[bT VG,gN,kH]at eW;exact eW
 have avS:Value.agg #[.slice xa Gs xc,.int .i64 xM]=x.val:=by
  injection IW with e
  simp at e;exact e
 obtain⟨Km,ag3,ag4,ag5,ag6⟩:=x;have avT:xa=ag3/\Gs=ag4/\xc=ag5/\xM=ag6:=by
  have e:Value.agg #[.slice xa Gs xc,.int .i64 xM]=.agg #[.slice ag3 ag4 ag5,.int .i64 ag6]:=avS;injection e with e
  simp at e;exact⟨e.1.1,e.1.2.1,e.1.2.2,e.2⟩
 obtain⟨rfl,rfl,rfl,rfl⟩:=avT;have eD:∀ {J},(pass=5->1<=way/\way<=3->S.d.k=i' way->lO ay g u path way aY=false)->Gr ay g pass way (u:Int) path aY J wc 47:=λaD=>Gr.ag1 af hm λh=>by have ai:=h.2.2;rw[VH]at ai;obtain⟨jo,x,aL,bq,-⟩:=VF ai;rw[kH,cv]at aL;cases aL;obtain⟨-,-,-,b',-⟩:=J8 bq;have dZ:=aD h.1 (avQ bq) b';rw[ai]at dZ;cases dZ
 refine cT.mk (λ_=>?_) (λh=>by cases h);by_cases aa:pass=5
 rotate_left
 ·refine cT.mk (λh=>absurd h (by simp[aa])) (λ_=>?_);exact⟨_,_,.refl,sB,rfl,wc,47,rfl,eD λh=>absurd h aa⟩
 refine cT.mk (λ_=>?_) (λh=>absurd h (by simp[aa]));by_cases ab:way=0
 ·refine cT.mk (λh=>absurd h (by simp[ab])) (λ_=>?_);exact⟨_,_,.refl,sB,rfl,wc,47,rfl,eD λ_ h=>by omega⟩
 refine cT.mk (λ_=>?_) (λh=>absurd h (by simp[ab]));by_cases ai:4<=way
 ·refine cT.mk (λh=>absurd h (by simp[ai])) (λ_=>?_);exact⟨_,_,.refl,sB,rfl,wc,47,rfl,eD λ_ h=>by omega⟩
 refine cT.mk (λ_=>?_) (λh=>absurd h (by simp[ai]));have ph:=dm.right bi;have ir:=dm.bU bi tg;obtain⟨gG,hd⟩:=lZ ph;obtain⟨VI,en⟩:=eF gG;have eJ:VI<Km.length:=by simp only at hd en;omega
 refine bc.mk [] [] _ (.refl _) (agA (M0:=[]) ad ph way) ?_;rintro v K N -⟨eG,rfl,b,rfl,ag⟩;subst K;rw[ir]at ag;refine a5.mk (λh=>?_) (λh=>?_)
 ·have zn:b=false:=by have:(!b)=true:=h;simpa using this
  have bD:S.d.k≠i' way:=dP (by rw[<-ag,zn]);exact⟨_,_,.refl,sB,rfl,wc,47,rfl,eD λ_ _ h=>absurd h bD⟩
 have xL:b=true:=by have:(!b)=false:=h;simpa using this
 have va:S.d.k=i' way:=c5 (by rw[<-ag,xL]);have f':=Dy.mono cI;have agE:dG S<=1048576:=by have ab:=VE cv;have ai:=zi (pz hw.m (bJ hu));have aL:=Gm (xy (f:=λd:a0=>d.t.ns.length) (bJ hu));have bq:=aH.xv;omega
 have q3:Gs<=1048576:=by have aa:=congrArg List.length dm.a1;rw[bE,Ds]at aa;have ab:=ad.n;simp only at aa ab;omega
 have HQ:∀ d∈g.ds,d.t.n<=274877906944:=λd ah=>by have ai:=Gm (xy (f:=λd:a0=>d.t.ns.length) ah);have aL:=aH.xv;have bq:=(aH.ax.ds d ah).t.n;omega
 have vM:=U9 (M0:=[]) (t:=⟨Km,xa,Gs,xc,xM⟩) f'.au ad ph (by simp only;omega) en;have Er:∀ {iG:aJ} {cf:Option Addr} {az cx:Nat} {jL:List bn},(∀ b o,cE b=some o->iG b=some o)->cD iG cf az cx 2 0 (jL.flatMap bn.cells)->jL.length=(nodeAt Km VI).aq.length->(∀ q (h:q<jL.length),(jL[q]).ok iG/\p2 ⟨Km,xa,Gs,xc,xM⟩ ((nodeAt Km VI).aq.getD q 0) jL[q])->Spec Tryz.prog 102 [g.val,J5 (u:Int) pa pn pc,.int .u8 way,.slice cf az cx,.int .i64 aY] iG [] λv I' M'=>(∀ b o,iG b=some o->I' b=some o)/\M'=[]/\∃ (h:cg) (b:Bool),v=.tuple #[h.val,.bool b]/\Ke ay g u path way aY I' h b:=by intro iG cf az cx jL jG dr Bm eI;obtain⟨rfl,Vu,Ot,Vv,Vw⟩:=agK ad ph q3 ir en eJ dr Bm eI;have Kn:=f'.mono jG;exact agC Kn.au hw Kn.ax HQ aH.ag hu ((ag2.mono cI).mono jG) cv Vu ⟨Vv,Vw⟩ Ot (by omega) va eU
 refine c2.BO a3 rfl rfl rfl (ι:=Nat×cg×Bool×aJ) (λz=>{ bp:=[(4,.ref 4 0),(5,.val (.int .i64 0)),(9,.val (.bool z.2.2.1)),(10,.val (ptr z.1))],cl:=[(4,[.slice none 0 0])],cP:=z.2.2.2,da:=[⟨z.1,.cells #[.slice z.2.1.a z.2.1.n z.2.1.c] 30 (0,0)⟩] }) (λz=>(∀ b o,cE b=some o->z.2.2.2 b=some o)/\Ke ay g u path way aY z.2.2.2 z.2.1 z.2.2.1) ?_ ?_
 ·refine⟨?_,?_⟩
  ·refine eH.mk _ vM ?_;rintro v iG N jG⟨-,hC,cf,az,cx,jL,rfl,dr,Bm,eI⟩;subst N;have pg:=Er jG dr Bm eI;refine⟨?_,?_⟩
   ·refine bc.mk [] _ _ (.refl _) pg ?_;rintro v ox N lM⟨-,rfl,h,b,rfl,sb⟩;refine bZ.mk λql Kc Kd=>?_;refine cd.mk [] [] _ _ rfl rfl (bK rfl) rfl ?_;exact⟨(ql,h,b,ox),⟨λb o h=>lM _ _ (jG _ _ h),sb⟩,.refl,dY,.cons rfl (.nil)⟩
   ·refine bZ.mk λql Kc Kd=>?_;refine eH.mk _ pg ?_;rintro v ox N lM⟨-,rfl,h,b,rfl,sb⟩;refine cd.mk [] [] _ _ rfl rfl (bK rfl) rfl ?_;exact⟨(ql,h,b,ox),⟨λb o h=>lM _ _ (jG _ _ h),sb⟩,.refl,dY,.cons rfl (.nil)⟩
  ·refine bZ.mk λql Kc Kd=>?_;refine eH.mk _ vM ?_;rintro v iG N jG⟨-,hC,cf,az,cx,jL,rfl,dr,Bm,eI⟩;subst N;refine eH.mk _ (Er jG dr Bm eI) ?_;rintro v ox N lM⟨-,rfl,h,b,rfl,sb⟩;refine cd.mk [] [] _ _ rfl rfl (bK rfl) rfl ?_;exact⟨(ql,h,b,ox),⟨λb o h=>lM _ _ (jG _ _ h),sb⟩,.refl,dY,.cons rfl (.nil)⟩
 rintro⟨ql,h,b,ox⟩⟨lM,sb⟩;simp only at lM sb;have ag7:∀ b o,I b=some o->ox b=some o:=λb o h=>lM _ _ (sB _ _ h);have Gq:=sb.is;refine a5.mk (λag=>?_) (λag=>?_)
 ·have zn:b=false:=by have:(!b)=true:=ag;simpa using this
  exact⟨_,_,.sub (fC _) .refl,ag7,rfl,wc,47,rfl,eD λ_ _ _=>by rw[<-Gq,zn]⟩
 ·have xL:b=true:=by have:(!b)=false:=ag;simpa using this
  refine aV.mk [.slice h.a h.n h.c] ⟨rfl,_,_,_,.inr ⟨_,.head _,rfl,rfl⟩,rfl,rfl⟩ ?_;refine⟨_,_,.sub (fC _) .refl,ag7,rfl,h,0,rfl,?_⟩;obtain⟨eK,cR,X,bf,g'⟩:=sb.ok xL;exact⟨λmR fA bD=>by rw[fA.eq af]at bD;exact absurd hm bD,λ_ _ _ aD=>absurd ⟨aa,VG,by rw[VH,<-Gq,xL]⟩ aD,λ_ _ _ _=>⟨rfl,eK,cR,X,bf,by rw[VH];exact g'⟩⟩
def avU(g:cg)(u:Nat)(p:List Int)(x:aS):jK g.a1 u p x=jK g u p x:=by unfold jK;show((bU ((g.ds.map a0.a1).getD u iY).t).put p x).lK=_;rw[VD]
def avV(g:cg)(u:Nat)(p:List Int)(w a:Int):nZ g.a1 u p w a=nZ g u p w a:=by unfold nZ;show((bU ((g.ds.map a0.a1).getD u iY).t).go p).bind _=_;rw[VD];congr 1;funext S;congr 1;funext x;exact avU g u p x
def avW(ay:List Int)(g:cg)(u:Nat)(p:List Int)(w a:Int):lO ay g.a1 u p w a=lO ay g u p w a:=by
 unfold lO;rw[avV];cases nZ g u p w a with
 |none=>rfl| some X=>exact avL ay g u X
def avX(g:cg)(x:Nat×List Int):xK g.a1 x=xK g x:=by
 unfold xK;show(match(bU ((g.ds.map a0.a1).getD x.1 iY).t).go x.2 with
  |some S=>S.sub.length| none=>0)=_
 rw[VD];first|done|rfl
def ag8(ay:List Int)(g:cg)(x:Nat×List Int)(w:Int):∀ n j,qm ay g.a1 x w n j=qm ay g x w n j
 |0,_=>rfl| n+1,j=>by rw[qm,qm,avW,ag8 ay g x w n]
def ag9(ay:List Int)(g:cg)(x:Nat×List Int)(k:Nat):∀ n w,oz ay g.a1 x k n w=oz ay g x k n w
 |0,_=>rfl| n+1,w=>by rw[oz,oz,ag8,ag9 ay g x k n]
def avY(ay:List Int)(g:cg):wa ay g.a1=wa ay g:=by unfold wa;show(kj 0 (g.ds.map a0.a1)).flatMap _=_;rw[agW];congr 1;funext x;unfold zm;rw[avX,ag9]
def avZ(w:Int)(x y:bn):oy w x.a1 y.a1=oy w x y:=by unfold oy;rw[ud,ud,Oy,Oy]
def Ko(cs:List kg)(F:List aR):List pA:=if(Tx (q7 cs).ds F).2=0 then wa hN (q7 cs)else []
def av0(eG:Jl cs F)(ax:g.ok I)(aX:qa cs g.ds)(hm:du hN g=0):th hN g=Ko cs F:=by have af:lI hN g _:=.inr ⟨hm,F,(eG.of ax aX).2.1,rfl⟩;rw[Vq af,apN eG ax aX af];unfold Ko;rw[<-Tu aX ax,avY]
def av1(bl:ff I hN)(vY:FE Ol 74 s=some (cs,cN,k,e)):Spec Tryz.prog 64 [.string ⟨s.toArray⟩] I M0 λv I' M'=>(∀ b o,I b=some o->I' b=some o)/\M'=M0/\∃ g:cg,v=g.val/\g.ok I'/\qa cs g.ds:=by refine b0 [] a3 Tryz.func64 rfl rfl rfl ?_;intro B aw;refine bc.mk [] M0 _ (.refl _) (apG bl vY) ?_;rintro v ix N -⟨rfl,hr,g,rfl,ax,aX⟩;exact⟨_,_,.refl,hr,rfl,g,rfl,ax,aX⟩
def DA(fF fB:nj)(w:Int)(is:Bool)(want:List UInt8):Bool:=match oy w fF.jH fB.jH with
 |some x=>is&&decide (x=oc want)| none=>!is&&decide (bh.zero=oc want)
def av2(h:DA fF fB w is want=true){v:Value}(aj:Gh (oy w fF.jH fB.jH) v):v=.tuple #[(oc want).val,.bool is]:=by
 obtain⟨x,b,rfl,aC,ag⟩:=aj;unfold DA at h;rw[aC]at h;cases b with
 |true=>have h:(is&&decide (x=oc want))=true:=h;rw[cw]at h;rw[h.1,c5 h.2]
 |false=>
  have h:(!is&&decide (bh.zero=oc want))=true:=h;rw[cw]at h;rw[ag rfl,c5 h.2];cases is with
  |false=>rfl| true=>cases h.1
def OB(bl:ff I hN){av3:Nat}{s1 s2:List UInt8}{ej:Int}(aa:xu Ol 121 s1=some (fF,cN,.i64,0))(ab:xu av3 121 s2=some (fB,ej,.i64,0))(hw:0<=w)(Co:want.length<=1000)(aD:fF.ns.length<=1000)(ad:DA fF fB w is want=true) :
  Spec Tryz.prog 61 [.string ⟨s1.toArray⟩,.string ⟨s2.toArray⟩,.int .u8 w,.bool is,.string ⟨want.toArray⟩] I [] λv I' M'=>v=.bool true/\(∀ b o,I b=some o->I' b=some o)/\M'=[]:=by
 refine b0 [] a3 Tryz.func61 rfl rfl rfl ?_;intro B aw;refine bc.mk [] [] _ (.refl _) (ac5 bl aa) ?_;rintro v ix N -⟨rfl,hr,x,rfl,pf,aha⟩;refine bc.mk [] [] _ (.refl _) (ac5 (bl.mono hr) ab) ?_;rintro v cE N -⟨rfl,cI,y,rfl,ahb,av4⟩;have h0:=(bl.mono hr).mono cI;have aM:oy w x y=oy w fF.jH fB.jH:=by rw[<-avZ,aha.a1 pf,av4.a1 ahb]
 have q3:x.n<=1000:=by have:=pf.n;rw[aha.ns.len]at this;omega
 have ahc:=agf (M0:=[]) h0 (w:=w) hw (pf.mono cI) ahb (by omega);rw[aM]at ahc;refine bc.mk [] [] _ (.refl _) ahc ?_;rintro v iG N jG⟨-,rfl,aj⟩;have aj:=av2 ad aj;subst aj;have Bl:=aaI (I:=iG) (M:=[]) ⟨want.toArray⟩ (by show want.toArray.size<=_;rw[tz];omega);have e:(ByteArray.mk want.toArray).data.toList=want:=by simp
 rw[e]at Bl;generalize oc want=z at Bl;have bk:∀ b o,I b=some o->iG b=some o:=λb o h=>jG _ _ (cI _ _ (hr _ _ h));cases is with
 |true=>refine c2.draw a3 rfl rfl rfl ?_;refine cT.mk (λ_=>?_) (λh=>by cases h);refine cT.mk (λ_=>?_) (λh=>by cases h);refine cT.mk (λ_=>?_) (λh=>by cases h);refine eH.mk _ Bl ?_;rintro v ox N -⟨rfl,lM,rfl⟩;subst ox;refine fW.aat ?_;exact⟨_,_,.refl,by simp,bk,rfl⟩
 |false=>refine c2.draw a3 rfl rfl rfl ?_;refine cT.mk (λ_=>?_) (λh=>by cases h);refine cT.mk (λ_=>?_) (λh=>by cases h);refine cT.mk (λ_=>?_) (λh=>by cases h);refine eH.mk _ Bl ?_;rintro v ox N -⟨rfl,lM,rfl⟩;subst ox;refine fW.aat ?_;exact⟨_,_,.refl,by simp,bk,rfl⟩
def DB(x:pA):Int:=x.2.1*1000+(x.1.1:Int)*100+(x.1.2.length:Int)*10+x.2.2
def VJ(x:pA):Bool:=decide (0<=x.2.1)&&(decide (x.2.1<=3)&&(decide (x.1.1<=1000)&&(decide (x.1.2.length<=1000)&&(decide (0<=x.2.2)&&decide (x.2.2<=1000)))))
def av5(bl:ff I hN)(vY:FE Ol 74 s=some (cs,cN,k,e))(ao:Jo cs F f=true){sl:List pA}(g6:Ko cs F=sl)(bi:sl.all VJ=true)(aA:sl.length<=1000) :
  Spec Tryz.prog 122 [.string ⟨s.toArray⟩] I [] λv I' M'=>(∀ b o,I b=some o->I' b=some o)/\∃ os:aQ,v=os.val/\os.ok 1 (sl.map λx=>.int .i64 (DB x))/\M'=os.ar 3:=by
 refine b0 [] a3 Tryz.func122 rfl rfl rfl ?_;intro B aw;have eG:=apO ao;refine bc.mk [] [] _ (.refl _) (av1 bl vY) ?_;rintro v I1 N -⟨db,rfl,g,rfl,ax,aX⟩;have kv:=bl.mono db;have hm:=(eG.of ax aX).1;have fa:=ag0 (agV kv ax hm);rw[av0 eG ax aX hm,g6]at fa;refine bc.DG [] [] _ (.refl _) fa ?_;rintro v eE N gx dw⟨-,os,L,rfl,cc,b8,rfl,nX⟩;have AM:L.length=sl.length:=by rw[<-nX,bE]
 have FO:os.n=L.length:=by have:=cc.len;rw[gL _ 5 kk.cH]at this;omega
 have MR:∀ b o,eE b=some o->me eE os 40 b=some o:=Gb dw;have dr:=Oa (J:=eE) (e:=40) (b:=48) cc (by omega);have bk:∀ b o,I b=some o->me eE os 40 b=some o:=λb o h=>MR _ _ (gx _ _ (db _ _ h));generalize jG:me eE os 40=iG at dr bk MR;have Hb:h6 [] eE (os.ar 40++[]) iG []:=by rw[<-jG];exact N' (λg _=>by simp)
 refine dx.inv (ι:=Nat×aQ) (λx=>{ bp:=[(3,.val x.2.val),(4,.val os.val),(5,.val (.int .i64 (x.1:Int)))],cl:=[],cP:=iG,da:=x.2.ar 3 }) (λx=>x.1<=os.n/\x.2.n=x.1/\x.2.ok 1 ((sl.take x.1).map λx=>.int .i64 (DB x))) (λx=>os.n-x.1) ?_ ?_
 ·exact⟨(0,h3),⟨dj _,rfl,k0 1⟩,Hb,fw,.nil⟩
 rintro⟨i,e4⟩⟨hi,lG,kF⟩;simp only at hi lG kF;refine a5.mk (λh=>?_) (λh=>?_)
 rotate_left
 ·have c8:¬ (i:Int)<(os.n:Int):=dP h;rw[fS (by omega)]at kF;exact⟨_,_,.refl,bk,e4,rfl,kF,rfl⟩
 have a4:i<os.n:=by have:(i:Int)<(os.n:Int):=c5 h;omega
 have ed:i<L.length:=by omega
 obtain⟨aP,bI,bt⟩:=dr.row kk.cH a4 ed;have ad:sl[i]'(by omega)=L[i].nu:=by
  have:(L.map kk.nu)[i]?=sl[i]?:=by rw[nX]
  rw[ju,dt ed,dt (by omega)]at this;exact(e2 this).symm
 have pf:=fV.1 bi _ (bJ (show i<sl.length by omega));have m1:sl.take (i+1)=sl.take i++[sl[i]'(by omega)]:=gH (by omega);rw[ad]at pf m1;generalize L[i]=x at bt pf m1;obtain⟨ps,w,rule,path,aY,xa,xc⟩:=x;simp only[VJ,kk.nu,cw,hS]at pf;obtain⟨ew,e9,fb,jS,Es,Qs⟩:=pf;have ew:0<=w:=c5 ew;have e9:w<=3:=c5 e9;have fb:rule<=1000:=c5 fb;have jS:path.length<=1000:=c5 jS;have Es:0<=aY:=c5 Es
 have Qs:aY<=1000:=c5 Qs
 refine c2.Pe (λi=>Nat.blt i 29) a3 rfl rfl rfl ?_;refine bA.mk aP i bI rfl a4 ?_;refine aV.mk _ ((bt _).part (k:=1) (m:=1) (by decide)) ?_;refine be.mk w (l2 rfl (by omega)) ?_;refine be.mk (w*1000) (l2 rfl (by omega)) ?_;refine bA.mk aP i bI rfl a4 ?_;refine aV.mk _ ((bt _).part (k:=2) (m:=1) (by decide)) ?_;refine be.mk ((rule:Int)*100) (l2 rfl (by omega)) ?_;refine be.mk (w*1000+(rule:Int)*100) (l2 rfl (by omega)) ?_;refine bA.mk aP i bI rfl a4 ?_;refine aV.mk _ ((bt _).part (k:=3) (m:=1) (by decide)) ?_;refine be.mk ((path.length:Int)*10) (l2 rfl (by omega)) ?_;refine be.mk (w*1000+(rule:Int)*100+(path.length:Int)*10) (l2 rfl (by omega)) ?_;refine bA.mk aP i bI rfl a4 ?_;refine aV.mk _ ((bt _).part (k:=4) (m:=1) (by decide)) ?_;refine be.mk (DB ((rule,path),w,aY)) (l2 rfl (by unfold DB;simp only;omega)) ?_;refine bZ.mk λb9 m8 uv=>?_;refine bF.l7 a3 rfl (by simp) (e:=3) rfl rfl rfl e4 kF rfl (cs:=[.int .i64 (DB ((rule,path),w,aY))]) rfl rfl rfl [] [] (by rw[dD];rfl) (by omega) (by show(e4.n+1)*8<=_;omega) ?_;intro fO C6 _ xJ;refine be.mk _ (dc (i:=i) (by omega)) ?_;refine⟨(i+1,fO),⟨⟨a4,by simp only;omega,?_⟩,by simp only;omega⟩,.l6 (by rw[dD];rfl),fw,.nil⟩;simp only;rw[m1,cS];exact xJ
def av6(bl:ff I hN)(vY:FE Ol 74 s=some (cs,cN,k,e))(ao:Jo cs F f=true){sl:List pA}(g6:Ko cs F=sl)(bi:sl.all VJ=true)(aA:sl.length<=1000)
 {want:List Int} (hw:cD I a n c 1 8 (want.map (.int .i64 ·))) (Kj:want=sl.map DB) :
  Spec Tryz.prog 62 [.string ⟨s.toArray⟩,.slice a n c] I [] λv I' M'=>v=.bool true/\(∀ b o,I b=some o->I' b=some o)/\M'=[]:=by
 refine b0 [] a3 Tryz.func62 rfl rfl rfl ?_;intro B aw;refine bc.mk [] [] _ (.refl _) (av5 bl vY ao g6 bi aA) ?_;rintro v J N a8⟨-,os,rfl,cc,rfl⟩;have Co:want.length=n:=by have:=hw.len;rw[bE]at this;omega
 have FO:os.n=n:=by have:=cc.len;rw[bE]at this;rw[Kj,bE]at Co;omega
 rw[show(sl.map λx=>Value.int .i64 (DB x))=want.map (.int .i64 ·) by rw[Kj,gh];rfl]at cc;refine a5.mk (λh=>absurd h (by simp[FO])) (λ_=>?_);refine dx.inv (ι:=Nat) (λx=>{ bp:=[(1,.val (.slice a n c)),(5,.val os.val),(6,.val (.int .i64 (x:Int)))],cl:=[],cP:=J,da:=os.ar 3 }) (λx=>x<=n) (λx=>n-x) ?_ ?_
 ·exact⟨0,dj _,.l6 (by rw[dD]),fw,.nil⟩
 intro i hi;refine a5.mk (λh=>?_) (λh=>?_)
 rotate_left
 ·exact⟨_,_,.sub (fC _) .refl,rfl,a8,rfl⟩
 have a4:i<n:=by have:(i:Int)<(os.n:Int):=c5 h;omega
 have ed:i<want.length:=by omega
 obtain⟨aP,bI,bt⟩:=(hw.mono a8).one a4 ed;rw[<-oo]at cc;obtain⟨FZ,Dd,zd⟩:=aQ.ok.row (I:=J) (M:=os.ar 3) (f:=iH) (λ_=>rfl) (by decide) cc (e:=3) (λx ad=>ad) ed;generalize want[i]=z at bt zd;refine c2.draw a3 rfl rfl rfl ?_;refine bA.mk FZ i Dd rfl (by omega) ?_;refine aV.mk _ zd ?_;refine bA.mk aP i bI rfl a4 ?_;refine aV.mk _ (bt _) ?_;refine a5.mk (λh=>absurd h (by simp)) (λ_=>?_);refine be.mk _ (dc (i:=i) (by have:=hw.cap;omega)) ?_;exact⟨i+1,⟨a4,by omega⟩,.refl,fw,.nil⟩
def OC:nj:=⟨[⟨1,0,60129542144,0,0,[],0,0,[]⟩],0⟩
def VK:xu 100000 121 [91,97,45,99,93]=some (OC,0,.i64,0):=by kernel_rfl
def ahd:nj:=⟨[⟨2,0,0,0,0,[100],0,0,[]⟩],0⟩
def av7:xu 100000 121 [34,100,34]=some (ahd,0,.i64,0):=by kernel_rfl
def ahe:nj:=⟨[⟨2,0,0,0,0,[97,98],0,0,[]⟩],0⟩
def av8:xu 100000 121 [34,97,98,34]=some (ahe,0,.i64,0):=by kernel_rfl
def ahf:nj:=⟨[⟨1,0,34359738368,0,0,[],0,0,[]⟩],0⟩
def av9:xu 100000 121 [91,99,93]=some (ahf,0,.i64,0):=by kernel_rfl
def ahg:nj:=⟨[⟨1,0,17179869184,0,0,[],0,0,[]⟩,⟨8,0,0,0,0,[],0,0,[0]⟩],1⟩
def awa:xu 100000 121 [33,91,98,93]=some (ahg,0,.i64,0):=by kernel_rfl
def ahh:nj:=⟨[⟨1,0,144115170895986688,0,0,[],0,0,[]⟩,⟨7,0,0,0,0,[],0,0,[0]⟩],1⟩
def awb:xu 100000 121 [38,91,98,45,120,93]=some (ahh,0,.i64,0):=by kernel_rfl
def awc:DA OC ahd 1 true [97,98,99,100]=true:=by kernel_rfl
def awd:DA ahe ahf 1 false []=true:=by kernel_rfl
def awe:DA ahg OC 2 true [97,99]=true:=by kernel_rfl
def awf:DA ahh OC 3 true [98,99]=true:=by kernel_rfl
def Kp:List kg:=[⟨[97],⟨[⟨1,0,8589934592,0,0,[],0,0,[]⟩,⟨2,0,0,0,0,[98],0,0,[]⟩,⟨2,0,0,0,0,[99],0,0,[]⟩,⟨3,0,0,0,0,[120],0,0,[]⟩,⟨4,0,0,0,0,[],0,0,[2,3]⟩,⟨5,0,0,0,0,[],0,0,[0,1,4]⟩],5⟩⟩,⟨[120],⟨[⟨2,0,0,0,0,[121],0,0,[]⟩],0⟩⟩]
def awg:FE 100000 74 [97,32,60,45,32,91,97,93,32,47,32,34,98,34,32,47,32,34,99,34,32,120,32,120,32,60,45,32,34,121,34]=some (Kp,0,.i64,0):=by kernel_rfl
def awh:Jo Kp (Nd Kp 5) 5=true:=by kernel_rfl
def awi:Ko Kp (Nd Kp 5)=[((0,[]),1,0)]:=by kernel_rfl
def awj{b:Nat}(k:Int):cD (ins I b (.cells #[.int .i64 k] 3 (0,0))) (some ⟨b,0,none⟩) 1 1 1 8 (kI [k]):=
 ⟨rfl,⟨b2 _,by decide⟩,.inr ⟨⟨b,0,none⟩,rfl,rfl,_,_,_,pS ..,rfl⟩⟩
def ahi(bl:ff I hN):Spec Tryz.prog 35 [] I [] λv J kQ=>v=.bool true/\(∀ b o,I b=some o->J b=some o)/\kQ=[]:=by refine b0 [] a3 Tryz.func35 rfl rfl rfl ?_;intro B aw;refine bc.mk [] [] _ (.refl _) (OB bl VK av7 (w:=1) (by decide) (is:=true) (want:=[97,98,99,100]) (by decide) (by decide) awc) ?_;rintro v I1 N -⟨rfl,db,rfl⟩;have kv:=bl.mono db;refine cT.mk (λ_=>?_) (λh=>by cases h);refine bc.mk [] [] _ (.refl _) (OB kv av8 av9 (w:=1) (by decide) (is:=false) (want:=[]) (by decide) (by decide) awd) ?_;rintro v eE N -⟨rfl,gx,rfl⟩;have h0:=kv.mono gx;refine cT.mk (λ_=>?_) (λh=>by cases h);refine bc.mk [] [] _ (.refl _) (OB h0 awa VK (w:=2) (by decide) (is:=true) (want:=[97,99]) (by decide) (by decide) awe) ?_;rintro v ls N -⟨rfl,mA,rfl⟩;have qf:=h0.mono mA;refine cT.mk (λ_=>?_) (λh=>by cases h);refine bc.mk [] [] _ (.refl _) (OB qf awb VK (w:=3) (by decide) (is:=true) (want:=[98,99]) (by decide) (by decide) awf) ?_;rintro v qD N -⟨rfl,za,rfl⟩;have UW:=qf.mono za;refine cT.mk (λ_=>?_) (λh=>by cases h);refine bZ.mk λb9 m8 uv=>?_;have bk:∀ b o,qD b=some o->ins qD b9 (.cells #[.int .i64 1000] 3 (0,0)) b=some o:=mz m8;refine bc.zo (ins qD b9 (.cells #[.int .i64 1000] 3 (0,0))) [] [] _ (.n1 rfl (by simp) .refl) (av6 (UW.mono bk) awg awh awi (by decide) (by decide) (awj 1000) rfl) ?_;rintro v J N a8 -⟨rfl,-,rfl⟩;exact⟨_,_,.refl,rfl,λb o h=>a8 _ _ (bk _ _ (za _ _ (mA _ _ (gx _ _ (db _ _ h))))),rfl⟩
structure awk(u:bn)(x:Nat×Nat):Prop where
 q:x.2<=u.n
 p:x.1<=600
 small:x.1<200->u.n<200/\x.2<=u.n/\u.n<=x.1/\∀ i (h:i<u.ns.length),i<x.2->Tm u.ns[i]
def ahj{u:bn}(iB:wT I u) :
  Spec Tryz.prog 90 [u.val] I M0 λv I' M'=>(∃ w:Nat,v=.int .i64 w/\w<=600/\(w<200->y1 u))/\I'=I/\M'=M0:=by
 refine b0 [] a3 Tryz.func90 rfl rfl rfl ?_;intro B aw;have ay3:=iB.n;have hy:=iB.ba.cap;refine dx.inv (ι:=Nat×Nat) (λx=>{ bp:=[(1,.ref 1 0),(3,.val (.int .i64 x.1)),(4,.val (.int .i64 x.2))],cl:=[(1,u.cells)],cP:=I,da:=M0 }) (λx=>awk u x) (λx=>u.n-x.2) ?_ ?_
 ·refine⟨(min 200 u.n,0),⟨dj _,by simp only;omega,λh=>⟨by simp only at h;omega,dj _,by simp only at h |-;omega,λi _ h=>by simp at h⟩⟩,.refl,.cons .refl (.cons ?_ (.cons .refl .nil)),.cons rfl (.nil)⟩;simp only;rw[show((min 200 u.n:Nat):Int)=min 200 (u.n:Int) by omega];exact .refl
 rintro⟨p,q⟩⟨aM,aH,zk⟩;simp only at aM aH zk;have fin:(p<200->u.n<=q)->∃ w:Nat,Value.int .i64 (p:Int)=.int .i64 w/\w<=600/\(w<200->y1 u):=λh=>by
  refine⟨p,rfl,aH,λab=>?_⟩;obtain⟨nf,kz,Fg,VL⟩:=zk ab;have:=h ab;exact⟨by omega,λbX bV=>by
   obtain⟨y,aE,rfl⟩:=hM bV;exact VL y aE (by omega)⟩
 refine cT.mk (λbq=>a5.mk (λb'=>?_) (λb'=>?_)) (λbq=>?_)
 ·have hA:q<u.n:=by simpa using bq
  have f':p<200:=by have:=c5 b';omega
  obtain⟨nf,kz,Fg,VL⟩:=zk f';have oX:q<u.ns.length:=by omega
  obtain⟨HW,ahk,ot⟩:=iB.ba.row al.cH hA oX;have bV:=iB.ns _ (bJ oX);have dz:=bV.e7;have qR:∀ M,cY I M ((HW.add (q*9)).add 8) 1 [.slice u.ns[q].cf u.ns[q].az u.ns[q].cx]:=λM=>(ot M).part (k:=8) (m:=1) (by decide);have Ac:∀ M,cY I M ((HW.add (q*9)).add 5) 1 [.string u.ns[q].t]:=λM=>(ot M).part (k:=5) (m:=1) (by decide);generalize awl:u.ns[q]=bX at bV dz qR Ac;refine c2.draw a3 rfl rfl rfl ?_;refine bA.mk HW q ahk rfl hA ?_;refine aV.mk _ (qR _) ?_;refine be.mk ((p+min 200 bX.az:Nat):Int) (l2 (by omega) (by omega)) ?_;refine bA.mk HW q ahk rfl hA ?_;refine aV.mk _ (Ac _) ?_;refine uL.mk (by decide) ?_;refine be.mk ((bX.t.size/20:Nat):Int) (l2 (by rw[agu (by omega)];omega) (by omega)) ?_;refine be.mk ((p+min 200 bX.az+min 200 (bX.t.size/20):Nat):Int) (l2 (by omega) (by omega)) ?_;refine be.mk _ (dc (i:=q) (by omega)) ?_;refine⟨(_,q+1),⟨⟨by simp only;omega,by simp only;omega,λdZ=>?_⟩,by simp only;omega⟩,.refl,fw,.cons rfl (.nil)⟩;simp only at dZ |-;refine⟨nf,by omega,by omega,λi hi hW=>?_⟩;by_cases e:i=q;·subst e;rw[awl];exact⟨by omega,by omega⟩
  ·exact VL i hi (by omega)
 ·have f':200<=p:=by have:=dP b';omega
  exact⟨_,_,.refl,fin (λh=>by omega),rfl,rfl⟩
 ·have hA:u.n<=q:=by simpa using bq
  exact⟨_,_,.refl,fin (λh=>hA),rfl,rfl⟩
structure awm(g:cg)(x:Nat×Nat):Prop where
 k:x.2<=g.n
 p:x.1<=1200
 small:x.1<200->x.2<=x.1/\∀ i (h:i<g.ds.length),i<x.2->acR g.ds[i]
structure ahl(g:cg)(L:List bn)(x:Nat×Nat):Prop where
 k:x.2<=L.length
 p:x.1<=1200
 small:x.1<200->AW g/\∀ i (h:i<L.length),i<x.2->y1 L[i]
def awn(ax:rZ I g)(b8:∀ t∈L,wT I t){la:Option Addr}{lc:Nat}(Kh:∀ j (h:j<L.length),∃ aP,la=some aP/\cY I M0 (aP.add (j*2)) 2 L[j].cells)(FG:L.length<=1000) :
  Spec Tryz.prog 34 [g.val,.slice la L.length lc] I M0 λv I' M'=>(∃ r,v=.bool r/\(r=false->AW g/\∀ t∈L,y1 t))/\I'=I/\M'=M0:=by
 refine b0 [] a3 Tryz.func34 rfl rfl rfl ?_;intro B aw;have hL:=ax.n;have hy:=ax.ba.cap;refine dx.inv (ι:=Nat×Nat) (λx=>{ bp:=[(1,.val (.slice la L.length lc)),(2,.ref 2 0),(5,.val (.int .i64 x.1)),(6,.val (.int .i64 x.2))],cl:=[(2,[.slice g.a g.n g.c])],cP:=I,da:=M0 }) (λx=>awm g x) (λx=>g.n-x.2) ?_ ?_
 ·exact⟨(0,0),⟨dj _,dj _,λh=>⟨b2 _,λi _ h=>by simp at h⟩⟩,.refl,dY,.cons rfl (.nil)⟩
 rintro⟨p,k⟩⟨ae,aH,zk⟩;simp only at ae aH zk;have fin:(p<200->g.n<=k)->p<200->AW g:=λh f'=>by
  obtain⟨nf,kz⟩:=zk f';have:=h f';exact⟨by omega,λd ah=>by
   obtain⟨y,aE,rfl⟩:=hM ah;exact kz y aE (by omega)⟩
 have ahm:∀ j (h:j<L.length),Spec Tryz.prog 90 [L[j].val] I M0 λv I' M'=>(∃ w:Nat,v=.int .i64 w/\w<=600/\(w<200->y1 L[j]))/\I'=I/\M'=M0:=λj h=>ahj (b8 _ (bJ h));refine cT.mk (λbq=>a5.mk (λb'=>?_) (λb'=>?_)) (λbq=>?_)
 ·have cW:k<g.n:=by simpa using bq
  have f':p<200:=by have:=c5 b';omega
  obtain⟨nf,kz⟩:=zk f';have yd:k<g.ds.length:=by omega
  obtain⟨aP,bI,bt⟩:=ax.ba.row a0.cH cW yd;have ah:=ax.ds _ (bJ yd);have mq:=ah.name;have iB:=ah.t;have hd:∀ M,cY I M ((aP.add (k*3)).add 0) 1 [.string g.ds[k].name]:=λM=>(bt M).part (k:=0) (m:=1) (by decide);have o1:∀ M,cY I M ((aP.add (k*3)).add 1) 2 g.ds[k].t.cells:=λM=>(bt M).part (k:=1) (m:=2) (by decide);have fD:g.ds[k]=⟨g.ds[k].name,g.ds[k].t⟩:=rfl;generalize g.ds[k].name=nm at mq hd fD;generalize g.ds[k].t=u at iB o1 fD;refine c2.draw a3 rfl rfl rfl ?_;refine be.mk ((p+1:Nat):Int) (l2 (by omega) (by omega)) ?_;refine bA.mk aP k bI rfl cW ?_;refine aV.mk _ (hd _) ?_;refine uL.mk (by decide) ?_;refine be.mk ((nm.size/20:Nat):Int) (l2 (by rw[agu (by omega)];omega) (by omega)) ?_;refine be.mk ((p+1+min 200 (nm.size/20):Nat):Int) (l2 (by omega) (by omega)) ?_;refine bA.mk aP k bI rfl cW ?_;refine aV.mk _ (o1 _) ?_;refine eH.whole _ (ahj (M0:=M0) iB) (λv I' M' h x ad=>by rw[h.2.2];exact ad) ?_;rintro v hg N -⟨⟨w,rfl,hw,rN⟩,sd,hC⟩;subst hg;subst N;refine be.mk ((p+1+min 200 (nm.size/20)+w:Nat):Int) (l2 (by omega) (by omega)) ?_;refine be.mk _ (dc (i:=k) (by omega)) ?_;refine⟨(_,k+1),⟨⟨by simp only;omega,by simp only;omega,λdZ=>?_⟩,by simp only;omega⟩,.refl,dY,.cons rfl (.nil)⟩;simp only at dZ |-;refine⟨by omega,λi hi hW=>?_⟩;by_cases e:i=k;·subst e;rw[fD];exact⟨by simp only;omega,rN (by omega)⟩
  ·exact kz i hi (by omega)
 ·have f':200<=p:=by have:=dP b';omega
  refine dx.inv (ι:=Nat×Nat) (λx=>{ bp:=[(1,.val (.slice la L.length lc)),(5,.val (.int .i64 x.1)),(7,.val (.int .i64 x.2))],cl:=[],cP:=I,da:=M0 }) (λx=>ahl g L x) (λx=>L.length-x.2) ?_ ?_;·exact⟨(p,0),⟨dj _,aH,λh=>⟨fin (λh=>by omega) h,λi _ h=>by simp at h⟩⟩,.refl,fw,.nil⟩
  rintro⟨q,m⟩⟨hm,aM,DC⟩;simp only at hm aM DC;have Kq:(q<200->L.length<=m)->∀ c:Bool,c=decide ((200:Int)<=(q:Int))->(c=false->AW g/\∀ t∈L,y1 t):=λh c ao aB=>by
   rw[aB]at ao;have f':q<200:=by have:=dP ao.symm;omega
   obtain⟨nf,kz⟩:=DC f';have:=h f';exact⟨nf,λd ah=>by
    obtain⟨y,aE,rfl⟩:=hM ah;exact kz y aE (by omega)⟩
  refine cT.mk (λdZ=>a5.mk (λeX=>?_) (λeX=>?_)) (λdZ=>?_)
  ·have hn:m<L.length:=by simpa using dZ
   have tY:q<200:=by have:=c5 eX;omega
   obtain⟨nf,kz⟩:=DC tY;obtain⟨aP,bI,bt⟩:=Kh m hn;have hw:=ahm m hn;have awo:L[m]=L[m]:=rfl;generalize vI:L[m]=u at bt hw;refine be.mk ((q+1:Nat):Int) (l2 (by omega) (by omega)) ?_;refine bA.mk aP m bI rfl hn ?_;refine aV.mk _ bt ?_;refine bc.mk M0 [] _ (by rw[dD]) hw ?_;rintro v hg N -⟨⟨w,rfl,hw,rN⟩,sd,hC⟩;subst hg;subst N;refine be.mk ((q+1+w:Nat):Int) (l2 (by omega) (by omega)) ?_;refine be.mk _ (dc (i:=m) (by omega)) ?_;refine⟨(_,m+1),⟨⟨hn,by simp only;omega,λdT=>?_⟩,by simp only;omega⟩,.l6 (by rw[dD]),fw,.nil⟩;simp only at dT |-;refine⟨nf,λi hi hW=>?_⟩;by_cases e:i=m;·subst e;rw[vI];exact rN (by omega)
   ·exact kz i hi (by omega)
  ·have f':200<=q:=by have:=dP eX;omega
   exact⟨_,_,.refl,⟨_,rfl,Kq (λh=>by omega) _ rfl⟩,rfl,rfl⟩
  ·have cW:L.length<=m:=by simpa using dZ
   exact⟨_,_,.refl,⟨_,rfl,Kq (λh=>cW) _ rfl⟩,rfl,rfl⟩
 ·have cW:g.n<=k:=by simpa using bq
  refine dx.inv (ι:=Nat×Nat) (λx=>{ bp:=[(1,.val (.slice la L.length lc)),(5,.val (.int .i64 x.1)),(7,.val (.int .i64 x.2))],cl:=[],cP:=I,da:=M0 }) (λx=>ahl g L x) (λx=>L.length-x.2) ?_ ?_;·exact⟨(p,0),⟨dj _,aH,λh=>⟨fin (λ_=>cW) h,λi _ h=>by simp at h⟩⟩,.refl,fw,.nil⟩
  rintro⟨q,m⟩⟨hm,aM,DC⟩;simp only at hm aM DC;have Kq:(q<200->L.length<=m)->∀ c:Bool,c=decide ((200:Int)<=(q:Int))->(c=false->AW g/\∀ t∈L,y1 t):=λh c ao aB=>by
   rw[aB]at ao;have f':q<200:=by have:=dP ao.symm;omega
   obtain⟨nf,kz⟩:=DC f';have:=h f';exact⟨nf,λd ah=>by
    obtain⟨y,aE,rfl⟩:=hM ah;exact kz y aE (by omega)⟩
  refine cT.mk (λdZ=>a5.mk (λeX=>?_) (λeX=>?_)) (λdZ=>?_)
  ·have hn:m<L.length:=by simpa using dZ
   have tY:q<200:=by have:=c5 eX;omega
   obtain⟨nf,kz⟩:=DC tY;obtain⟨aP,bI,bt⟩:=Kh m hn;have hw:=ahm m hn;have awo:L[m]=L[m]:=rfl;generalize vI:L[m]=u at bt hw;refine be.mk ((q+1:Nat):Int) (l2 (by omega) (by omega)) ?_;refine bA.mk aP m bI rfl hn ?_;refine aV.mk _ bt ?_;refine bc.mk M0 [] _ (by rw[dD]) hw ?_;rintro v hg N -⟨⟨w,rfl,hw,rN⟩,sd,hC⟩;subst hg;subst N;refine be.mk ((q+1+w:Nat):Int) (l2 (by omega) (by omega)) ?_;refine be.mk _ (dc (i:=m) (by omega)) ?_;refine⟨(_,m+1),⟨⟨hn,by simp only;omega,λdT=>?_⟩,by simp only;omega⟩,.l6 (by rw[dD]),fw,.nil⟩;simp only at dT |-;refine⟨nf,λi hi hW=>?_⟩;by_cases e:i=m;·subst e;rw[vI];exact rN (by omega)
   ·exact kz i hi (by omega)
  ·have f':200<=q:=by have:=dP eX;omega
   exact⟨_,_,.refl,⟨_,rfl,Kq (λh=>by omega) _ rfl⟩,rfl,rfl⟩
  ·have cW:L.length<=m:=by simpa using dZ
   exact⟨_,_,.refl,⟨_,rfl,Kq (λh=>cW) _ rfl⟩,rfl,rfl⟩
def awp(ax:rZ I g):Spec Tryz.prog 34 [g.val,.slice none 0 0] I [] λv I' M'=>(∃ r,v=.bool r/\(r=false->AW g))/\I'=I/\M'=[]:=by refine Spec.mH (awn (L:=[]) (la:=none) (lc:=0) ax (λt au=>by cases au) (λj h=>by cases h) (dj _)) ?_;rintro v J M⟨⟨r,aa,ab⟩,ai⟩;exact⟨⟨r,aa,λh=>(ab h).1⟩,ai⟩
def ahn{ay:List Int}{g:cg}{x:Nat×List Int}{w:Int}{y:pA}:∀ {n j:Nat},y∈qm ay g x w n j->y.1=x/\y.2.1=w/\∃ i:Nat,y.2.2=(i:Int)/\lO ay g x.1 x.2 w (i:Int)=true/\j<=i/\i<j+n
 |0,_,h=>by cases h
 |n+1,j,h=>by
  rw[qm]at h;rcases cC.1 h with h | h
  ·cases ag:lO ay g x.1 x.2 w (j:Int)with
   |false=>rw[ag]at h;cases h| true=>rw[ag]at h;rw[eC.1 h];exact⟨rfl,rfl,j,rfl,ag,b2 _,by omega⟩
  ·obtain⟨aa,ab,i,ai,aL,bq,b'⟩:=ahn h;exact⟨aa,ab,i,ai,aL,by omega,by omega⟩
def aho{ay:List Int}{g:cg}{x:Nat×List Int}{k:Nat}{y:pA}:∀ {n w:Nat},y∈oz ay g x k n w->y.1=x/\∃ v:Nat,w<=v/\v<w+n/\y.2.1=(v:Int)/\∃ i:Nat,y.2.2=(i:Int)/\lO ay g x.1 x.2 (v:Int) (i:Int)=true/\i<k
 |0,_,h=>by cases h
 |n+1,w,h=>by
  rw[oz]at h;rcases cC.1 h with h | h;·obtain⟨aa,ab,i,ai,aL,bq,b'⟩:=ahn h;exact⟨aa,w,b2 _,by omega,ab,i,ai,aL,by omega⟩
  ·obtain⟨aa,v,ab,ai,aL⟩:=aho h;exact⟨aa,v,by omega,by omega,aL⟩
def ahp{y:pA}(h:y∈wa ay g):y.1∈kj 0 g.ds/\(1<=y.2.1/\y.2.1<=3)/\0<=y.2.2/\lO ay g y.1.1 y.1.2 y.2.1 y.2.2=true:=by obtain⟨x,ad,aE⟩:=hc.1 h;obtain⟨aa,v,ab,ai,aL,i,bq,b',-⟩:=aho aE;subst aa;rw[aL,bq];exact⟨ad,⟨by omega,by omega⟩,by omega,b'⟩
def awq{y:pA}(h:y∈wa ay g):OA ay g 5 y.2.1 (y.1.1:Int) y.1.2 y.2.2:=by obtain⟨aa,-,-,aL⟩:=ahp h;obtain⟨hu,-⟩:=Kg aa;exact⟨rfl,⟨by omega,by omega⟩,by rw[gN];exact aL⟩
def awr(hu:u<g.ds.length)(ao:h.ds.map a0.a1=(ez g.ds u bf).map a0.a1):mB h+h1 g.ds[u].t=mB g+h1 bf.a1:=by
 have aK:∀ ds:List a0,(ds.map λd=>h1 d.t).sum=((ds.map a0.a1).map λd=>h1 d.t).sum:=λds=>by rw[gh];congr 1;refine fT λd _=>?_;show h1 d.t=h1 d.t.a1;unfold h1;rw[ud];rfl
 unfold mB;rw[aK h.ds,ao,<-aK];have aa:=U4 (g.ds.map λd=>h1 d.t) u (h1 bf) (by simpa using hu);have ab:(ez g.ds u bf).map (λd=>h1 d.t)=(g.ds.map λd=>h1 d.t).set u (h1 bf):=by unfold ez;rw[qy]
 rw[ab];rw[gg]at aa;have ai:h1 bf.a1=h1 bf:=by unfold h1;rw[ud];rfl
 rw[ai];exact aa
def aws(hw:Gd ay g F)(eW:∀ d∈g.ds,d.t.ns.length=d.t.n)(hu:u<g.ds.length){a:Int}(ht:nZ g u p w a=some X)(dm:k7 bf X)(ho:bf.ns.length=bf.n)(ao:h.ds.map a0.a1=(ez g.ds u bf).map a0.a1):mB h<mB g:=by
 have aa:=awr hu ao;have ab:=auF hu ht;have Ge:=pz hw.m (bJ hu);have ai:=zi Ge;have aL:h1 g.ds[u].t=g.ds[u].t.n:=by unfold h1;rw[Ge];rfl
 have bq:h1 bf.a1<=dG X:=by
  have b':=congrArg List.length dm.a1;rw[bE,Ds]at b';unfold h1;cases right bf.a1 with
  |false=>exact dj _| true=>show bf.a1.n<=_;show bf.n<=_;omega
 have b':=eW _ (bJ hu);omega
def awt(bl:ff I hN)(xg:rZ I g):wh Tryz.prog 7 [g.val] I [] λv _ _=>v=.bool true:=by
 refine BF [] a3 Tryz.func7 rfl rfl rfl ?_;intro B aw;refine bc.mk [] [] _ (.refl _) (awp xg) ?_;rintro v J N -⟨⟨r,rfl,af⟩,BP,ay4⟩;subst J;subst N;cases r with
 |true=>refine cT.mk (λh=>absurd h (by simp)) (λ_=>?_);refine bc.mk [] [] _ (.refl _) (ahi bl) ?_;rintro v ix N -⟨rfl,hr,rfl⟩;exact⟨_,_,.refl,rfl⟩
 |false=>
 refine cT.mk (λ_=>?_) (λh=>absurd h (by simp));refine bc.mk [] [] _ (.refl _) (ahi bl) ?_;rintro v ix N -⟨rfl,hr,rfl⟩;refine a5.mk (λh=>by cases h) (λ_=>?_);have xV:=af rfl;have kv:=bl.mono hr;have ax:=(xg.mono hr).Ji xV;have r6:=avI kv ax xV;clear xg af xV ax;refine bc.mk [] [] _ (.refl _) (M6 r6.au r6.ax r6.ae) ?_;rintro v hg N sd⟨-,rfl,gG,rfl,n7⟩;refine a5.mk (λao=>?_) (λao=>?_)
 ·exact⟨_,_,.refl,rfl⟩
 have q2:gG.2=0:=by simpa using ao
 obtain⟨F,hw⟩:=n7.Dr r6.ax.n q2;have f':=r6.mono sd;have VM:∀ {K:aJ} {g:cg},wb hN K g->du hN g=0->Spec Tryz.prog 50 [g.val] K [] λv I' M'=>v=.int .i64 (mB g:Nat)/\I'=K/\M'=[]:=λaH hm=>by have k6:=Jj hm;exact X3 aH.au.c aH.ax (by omega) (Kl hm).1
 refine bc.mk [] [] _ (.refl _) (VM f' hw.m) ?_;rintro v sm N -⟨rfl,Vy,rfl⟩;subst sm;generalize ahq:mB g=many;have Gq:many<=65536:=by
  rw[<-ahq];have aa:=P7 (λd:a0=>h1 d.t) 1024 g.ds λd ah=>by
   unfold h1;have:=(Kl hw.m).1 d ah;cases right d.t with
   |false=>exact dj _| true=>exact this
  have ab:=Jj hw.m;have ai:=f'.ax.n;unfold mB;omega
 refine dx.inv (ι:=Nat×cg×aJ) (λx=>{ bp:=[(1,.ref 1 0),(3,.val (.int .i64 (many:Int))),(4,.val (.int .i64 (x.1:Int)))],cl:=[(1,[.slice x.2.1.a x.2.1.n x.2.1.c])],cP:=x.2.2 }) (λx=>mB x.2.1+x.1<=many/\wb hN x.2.2 x.2.1/\∃ r,lI hN x.2.1 r/\r.2=0) (λx=>many+1-x.1) ?_ ?_
 ·exact⟨(0,g,hg),⟨by simp only;omega,f',gG,n7,q2⟩,.refl,fw,.cons rfl (.nil)⟩
 clear r6 f' hw n7 ahq;rintro⟨i,g,K⟩⟨hi,aH,r,af,n7⟩;simp only at hi aH af;have hL:=aH.ax.n;obtain⟨F,hw⟩:=af.Dr hL n7;have ahr:=Vq af;rw[bT n7]at ahr;refine a5.mk (λ_=>?_) (λh=>?_)
 rotate_left
 ·have:¬ (i:Int)<=(many:Int):=dP h;omega
 refine bc.mk [] [] _ (.refl _) (avO aH) ?_;rintro v sm N Vy⟨-,rfl,aj⟩;have f':=aH.mono Vy;rcases aj with⟨fa,rfl⟩ | ⟨x,ad,awu,fQ,rfl⟩
 ·refine a5.mk (λ_=>?_) (λh=>absurd h (by simp));refine bc.mk [] [] _ (.refl _) (ag0 f') ?_;rintro v ahs N I4⟨-,os,L,rfl,cc,b8,rfl,nX⟩;have qG:os.n=0:=by rw[fa]at nX;have aa:=cc.len;rw[List.map_eq_nil_iff.1 nX]at aa;simp at aa;omega
  refine⟨_,_,.sub (fC _) .refl,?_⟩;simp[qG]
 refine a5.mk (λh=>absurd h (by simp)) (λ_=>?_);obtain⟨ps,w,rule,path,aY,xa,xc⟩:=x;have Ab:ps=5:=awu;subst Ab;rw[ahr]at fQ;have gk:(((rule,path),w,aY):pA)∈wa hN g:=rv fQ;obtain⟨cM,m2,sN,AQ⟩:=ahp gk;have bi:=awq gk;have cM:(rule,path)∈kj 0 g.ds:=cM;have AQ:lO hN g rule path w aY=true:=AQ
 have m2:1<=w/\w<=3:=m2;have sN:0<=aY:=sN
 have eU:ha aY:=by
  obtain⟨hu,S,cv⟩:=Kg cM;have hu:rule<g.ds.length:=hu;obtain⟨jo,x,aL,bq,-⟩:=VF AQ;have kH:g.ds.getD rule iY=g.ds[rule]:=by simp[bM,hu]
  rw[kH]at aL;obtain⟨j,s,b',-,dZ,-⟩:=J8 bq;have eX:=agZ jo;have dT:=VE aL;have pL:=zi (pz hw.m (bJ hu));have MC:=(Kl hw.m).1 _ (bJ hu);have avl:=(aH.ax.ds _ (bJ hu)).t.n;exact⟨by omega,by omega⟩
 refine bc.mk [] [] _ (.refl _) (avR f' (pass:=5) (way:=w) (by omega) (rule:=(rule:Int)) (pa:=xa) (pn:=path.length) (pc:=xc) ad.ba eU) ?_;rintro v ahs N I4⟨-,rfl,h,e,rfl,dw⟩;obtain⟨he,c4,te,X,bf,ht,dm,ho,ey,aht,awv⟩:=dw.avP r af n7 bi;obtain⟨hu,-⟩:=Kg cM;have hu:rule<g.ds.length:=hu;rw[gN]at ht ey;have ay5:=aws hw (λd ah=>(aH.ax.ds d ah).t.n) hu ht dm ho ey;have Kn:=agV (f'.au.mono I4) c4 aht;have aww:=f'.mono I4;subst he;have qK:=VM Kn aht;have j':=VM aww hw.m;have xe:mB g<=65536:=by omega
 clear dw;refine c2.draw a3 rfl rfl rfl ?_;refine cT.mk (λ_=>?_) (λh=>by cases h);refine eH.mk _ qK ?_;rintro v ox N -⟨rfl,lM,rfl⟩;subst ox;refine bc.mk [] [] _ (.refl _) j' ?_;rintro v ox N -⟨rfl,lM,rfl⟩;subst ox;refine cT.mk (λ_=>?_) (λh=>absurd h (by simp;omega));refine a5.mk (λh=>absurd h (by simp[te])) (λ_=>?_);refine be.mk _ (dc (i:=i) (by omega)) ?_;exact⟨(i+1,h,ahs),⟨⟨by simp only;omega,Kn,awv⟩,by simp only;omega⟩,.refl,fw,.cons rfl (.nil)⟩
end Go.V
