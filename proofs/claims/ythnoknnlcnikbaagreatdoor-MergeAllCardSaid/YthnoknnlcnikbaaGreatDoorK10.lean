/- Part 10 of what the proofs of this seat share: the executor, data in memory, walks.
-/
import Derived.Test.YthnoknnlcnikbaaGreatDoorK9
import Derived.Test.YthnoknnlcnikbaaGreatDoorK7
import Derived.Test.YthnoknnlcnikbaaGreatDoorK4
import Derived.Test.YthnoknnlcnikbaaGreatDoorK8
set_option linter.all false
set_option maxHeartbeats 16000000
set_option maxRecDepth 100000
namespace Go.V
open Go Go.Proofs
def afQ:=@Int.tdiv_eq_ediv_of_nonneg
variable{I:aH}{az p eu:List Int}{g:cU}{S:aP}{cs:List kk}{F:List aW}{M0:List aE}{Ok f n c gw c' j:Nat}{s want:List UInt8}{cQ e w:Int}{k:IntKind}{fF fz:nl}{is:Bool}{sl:List mN}{a bL:Option Addr}{L:List bk}{x:Nat×List Int}
def atT(aJ:DG az I g){b1:Nat}(jF:I b1=some (.cells #[.slice g.a g.n g.c] 30 (0,0))) :
  Wx Tryz.prog 163 [ptr b1] I (vW az g).length (atO (vW az g)):=by
 intro y R ls uS kv dQ M0 oW iT;refine BU [] aY Tryz.func163 rfl rfl rfl ?_;intro B ay;have bp:∀ (I1:aH) (M:List aE),(∀ b o,I b=some o->I1 b=some o)->cR I1 M ⟨b1,0,none⟩ 1 [.slice g.a g.n g.c]:=λI1 M de=>⟨rfl,_,_,_,.inl (de _ _ jF),rfl,rfl⟩;have gy:=aJ.mono oW;have iG:=aJ.aw.n;refine aO.mk _ (bp _ _ oW) ?_;refine a8.mk [] M0 _ (.refl _) (Di gy.aq gy.aw gy.ae) ?_;rintro v I1 N de⟨-,rfl,r,rfl,af⟩;have cS:=U2 af;have U4:∀ b o,I b=some o->I1 b=some o:=λb o h=>de _ _ (oW _ _ h);refine aX.mk (λh=>?_) (λh=>?_)
 ·have hm:r.2≠0:=by have:(!decide (r.2=0))=true:=h;simpa using this
  rw[bN hm]at cS;have dy:0=(vW az g).length:=by rw[cS];rfl
  exact⟨_,_,.refl,.inl (dy ▸ uS _ _ _ _ de iT)⟩
 have hm:r.2=0:=by have:(!decide (r.2=0))=false:=h;simpa using this
 rw[bT hm]at cS;obtain⟨F,hw⟩:=af.J2 iG hm;rw[cS]at kv |-;have rY:=aJ.mono U4;refine aO.mk _ (bp _ _ U4) ?_;refine a8.mk [] M0 _ (.refl _) (afx rY.aq rY.aw aJ.vB) ?_;rintro v eA N gq⟨-,os,L,rfl,b4,bY,rfl,nv⟩;rw[bT hw.m]at nv;have Gk:∀ b o,I b=some o->eA b=some o:=λb o h=>gq _ _ (U4 _ _ h);have A6:os.n=L.length:=by have:=b4.len;rw[gO _ 2 gJ.cL]at this;omega
 have Gl:L.length<=1048576:=by have aa:=J9 g.ds 0 λd ah=>pq hw.m ah;have ad:=congrArg List.length nv;rw[bx]at ad;have:=aJ.vB;omega
 have m3:=uS _ _ _ _ (λb o h=>gq _ _ (de _ _ h)) iT;have U5:(xx az g).drop 0=((L.map gJ.jf).drop 0).flatMap (q3 az g):=by rw[qp,qp,nv];rfl
 have HX:∀ d∈g.ds,d.t.n<=274877906944:=λd ah=>by have ak:=Gm (vF (f:=λd:a3=>d.t.ns.length) ah);have aK:=aJ.vB;have bz:=(aJ.aw.ds d ah).t.n;omega
 generalize xx az g=sl at *;refine dt.inv (ι:=Nat×Nat×aH×List aE) (λx=>{ bo:=[(0,.val (.func (.yield y) #[] #[])),(1,.val (ptr b1)),(16,.val os.val),(17,.val (.int .i64 os.n)),(18,.val (.int .i64 (x.1:Int)))],cl:=[],cH:=x.2.2.1,dd:=os.ar 77++x.2.2.2 }) (λx=>x.1<=os.n/\(∀ b o,eA b=some o->x.2.2.1 b=some o)/\R x.2.1 x.2.2.1 x.2.2.2/\x.2.1<=sl.length/\sl.drop x.2.1=((L.map gJ.jf).drop x.1).flatMap (q3 az g)) (λx=>os.n-x.1) ?_ ?_
 ·exact⟨(0,0,eA,M0),⟨dp _,λ_ _ h=>h,m3,dp _,U5⟩,.refl,hx,.nil⟩
 rintro⟨i,vz,J,M1⟩⟨hi,a5,h',FB,ie⟩;simp only at hi a5 h' FB ie;refine aX.mk (λh=>?_) (λh=>?_)
 rotate_left
 ·have c0:¬ (i:Int)<(os.n:Int):=dv h;have aI:(L.map gJ.jf).drop i=[]:=lW (by rw[bx];omega);rw[aI,Ld,Eh]at ie;have:vz=sl.length:=by omega
  subst this;exact⟨_,_,.sub (mT _ _) .refl,.inl h'⟩
 have aZ:i<os.n:=by have:(i:Int)<(os.n:Int):=cJ h;omega
 have cy:i<L.length:=by omega
 have Ol:∀ b o,I b=some o->J b=some o:=λb o h=>a5 _ _ (Gk _ _ h);have vX:=aJ.mono Ol;obtain⟨aM,bB,Bv⟩:=aR.ok.row (I:=J) (M:=os.ar 77++M1) gJ.cL (by decide) b4 (e:=77) (λx ab=>iR _ ab) cy;have j5:=(bY _ (bJ cy)).mono a5;have A':(L.map gJ.jf).drop i=L[i].jf::(L.map gJ.jf).drop (i+1):=by rw[fg (by rw[bx];exact cy),fW]
 have gh:L[i].jf∈jQ 0 g.ds:=by rw[<-nv];exact vF (bJ cy)
 rw[A']at ie;generalize L[i]=x at *;obtain⟨u,path,xa,xc⟩:=x;obtain⟨hu,S,cc⟩:=U3 gh;simp only[gJ.jf]at hu cc ie gh;rw[iS]at ie;have vY:cI J xa path.length xc 1 8 (iA path):=j5.a';have nZ:g.ds.getD u kH=g.ds[u]:=by simp[bS,hu]
 have U6:ux g (u,path)=S.sub.length:=by unfold ux;simp only[nZ,cc]
 have fv:sd g (u:Int) path=some S:=by unfold sd;rw[bT (by omega),hH,nZ,cc]
 have U7:=c8 (i:=i) (by omega);refine bm.mk aM i bB rfl aZ ?_;refine aO.mk [.int .i64 (u:Int),.slice xa path.length xc] Bv ?_;have xn:=ae2 (M0:=[]) vX.aq.c vX.aw (J' hw.m aJ.aD) (rule:=(u:Int)) vY;rw[fv]at xn;refine aO.mk _ (bp _ _ Ol) ?_;refine a8.mk [] _ _ (.refl _) xn ?_;rintro v cA N cO⟨-,rfl,t,rfl,aq,dz,bg,s6⟩;have afv:∀ b o,eA b=some o->cA b=some o:=λb o h=>cO _ _ (a5 _ _ h);have lK:=dz.right bg;have ir:=dz.bI bg s6;obtain⟨gV,hn⟩:=l4 lK;obtain⟨k,ae⟩:=eG gV;have c7:k<t.ns.length:=by omega
 have afJ:dM S<=1048576:=by have aa:=J4 (X:=ht bj.zero) path _ cc;have ad:=DA (pq hw.m (bJ hu));have ak:=Gm (vF (f:=λd:a3=>d.t.ns.length) (bJ hu));have aK:=aJ.vB;have bz:dM (ht bj.zero)=1:=lO _ _;have cu:=Bp ((bI g.ds[u].t).put path (ht bj.zero));omega
 have hk:t.n<=1048576:=by have aa:=congrArg List.length dz.a4;rw[bx,Bq]at aa;have:=aq.n;omega
 refine aX.mk (λh=>by cases h) (λ_=>?_);refine a8.mk [] _ _ (.refl _) (UK (M0:=[]) (vX.aq.mono cO) aq lK (by omega) ae) ?_;rintro v kF N k9⟨-,rfl,b0,aG,ch,dm,rfl,dB,Kd,eO⟩;obtain⟨rfl,U8,Bw,Om,U9⟩:=afN aq lK hk ir ae c7 dB Kd eO;have er:S.sub.length=dm.length:=by rw[<-Bw,bx]
 have Ke:∀ b o,J b=some o->kF b=some o:=λb o h=>k9 _ _ (cO _ _ h);have atU:dm.length<=1048576:=by
  have aa:S.sub.length<=(S.sub.map dM).sum:=by
   have:∀ l:List aP,l.length<=(l.map dM).sum:=λl=>by
    induction l with
    |nil=>exact b' _| cons x l aQ=>have:=Bp x;simp only[et,b5,hj];omega
   exact this _
  have ad:dM S=(S.sub.map dM).sum+1:=by
   conv=>lhs;rw[S.eta]
   exact lO _ _
  omega
 have afR:∀ b o,I b=some o->kF b=some o:=λb o h=>Ke _ _ (Ol _ _ h);have JC:=aq.mono k9;have yT:=uS _ _ _ _ Ke h';rw[show q3 az g (u,path)=iM az g (u,path) dm.length 3 1 by unfold q3;rw[U6,er]]at ie;clear xn eO Kd dB j5 dz Bv bB;generalize pJ:((L.map gJ.jf).drop (i+1)).flatMap (q3 az g)=bl at ie;refine dt.inv (ι:=Nat×Nat×aH×List aE) (λz=>{ bo:=[(0,.val (.func (.yield y) #[] #[])),(1,.val (ptr b1)),(4,.ref 4 0),(5,.ref 5 0),(7,.val (.slice b0 dm.length ch)),(8,.val (.int .u8 (z.1:Int))),(16,.val os.val),(17,.val (.int .i64 os.n)),(18,.val (.int .i64 (i:Int)))],cl:=[(4,[.int .i64 (u:Int),.slice xa path.length xc]),(5,t.cells)],cH:=z.2.2.1,dd:=os.ar 77++z.2.2.2 }) (λz=>(1<=z.1/\z.1<=4)/\(∀ b o,kF b=some o->z.2.2.1 b=some o)/\R z.2.1 z.2.2.1 z.2.2.2/\z.2.1<=sl.length/\sl.drop z.2.1=iM az g (u,path) dm.length (4-z.1) z.1++bl) (λz=>4-z.1) ?_ ?_
 ·exact⟨(1,vz,kF,M1),⟨⟨b' _,show 1<=4 by decide⟩,λ_ _ h=>h,yT,FB,ie⟩,.refl,lV,.cons rfl (.cons rfl (.nil))⟩
 rintro⟨w,U',K,dD⟩⟨⟨vU,J8⟩,ek,On,Oo,s'⟩;simp only at vU J8 ek On Oo s';have axa:∀ b o,I b=some o->K b=some o:=λb o h=>ek _ _ (afR _ _ h);refine aX.mk (λh=>?_) (λh=>?_)
 rotate_left
 ·have c0:¬ (w:Int)<4:=dv h;obtain rfl:w=4:=by omega
  rw[show 4-4=0 from rfl,iM,hX,<-pJ]at s';refine bd.mk _ U7 ?_;exact⟨(i+1,U',K,dD),⟨⟨aZ,λb o h=>ek _ _ (Ke _ _ (a5 _ _ h)),On,Oo,s'⟩,by simp only;omega⟩,.refl,hx,.nil⟩
 have Oq:w<4:=by have:(w:Int)<4:=cJ h;omega
 have DH:IntKind.u8.wrap ((w:Int)+1)=((w+1:Nat):Int):=by rw[show((w:Int)+1)=((w+1:Nat):Int) by omega];exact aau _ (by omega)
 rw[show 4-w=(4-(w+1))+1 by omega,iM,dW]at s';refine a8.mk [] _ _ (.refl _) (atJ (M0:=[]) (JC.mono ek) lK (w:Int)) ?_;rintro v uq N -⟨Va,rfl,b,rfl,ag⟩;subst uq;rw[ir]at ag;refine aX.mk (λh=>?_) (λh=>?_)
 ·have Vb:b=false:=by have:(!b)=true:=h;simpa using this
  have bt:S.d.k≠g7 (w:Int):=dv (by rw[<-ag,Vb]);rw[afL (λj=>afK hu cc bt _),hX]at s';refine bd.mk _ DH ?_;exact⟨(w+1,U',K,dD),⟨⟨⟨by omega,Oq⟩,ek,On,Oo,s'⟩,by simp only;omega⟩,.refl,lV,.cons rfl (.cons rfl (.nil))⟩
 have Vc:b=true:=by have:(!b)=false:=h;simpa using this
 have pQ:S.d.k=g7 (w:Int):=cJ (by rw[<-ag,Vc]);have Jg:=aJ.aw;refine dt.inv (ι:=Nat×Nat×aH×List aE) (λz=>{ bo:=[(0,.val (.func (.yield y) #[] #[])),(1,.val (ptr b1)),(4,.ref 4 0),(5,.ref 5 0),(7,.val (.slice b0 dm.length ch)),(8,.val (.int .u8 (w:Int))),(16,.val os.val),(17,.val (.int .i64 os.n)),(18,.val (.int .i64 (i:Int))),(41,.val (.int .i64 (dm.length:Int))),(42,.val (.int .i64 (z.1:Int)))],cl:=[(4,[.int .i64 (u:Int),.slice xa path.length xc]),(5,t.cells)],cH:=z.2.2.1,dd:=os.ar 77++z.2.2.2 }) (λz=>z.1<=dm.length/\(∀ b o,K b=some o->z.2.2.1 b=some o)/\R z.2.1 z.2.2.1 z.2.2.2/\z.2.1<=sl.length/\sl.drop z.2.1=iL az g (u,path) (w:Int) (dm.length-z.1) z.1++(iM az g (u,path) dm.length (4-(w+1)) (w+1)++bl)) (λz=>dm.length-z.1) ?_ ?_
 ·exact⟨(0,U',K,dD),⟨dp _,λ_ _ h=>h,On,Oo,s'⟩,.refl,GV,.cons rfl (.cons rfl (.nil))⟩
 rintro⟨j,Bx,Q,oM⟩⟨ai,kM,Ot,Vd,mi⟩;simp only at ai kM Ot Vd mi;have Kf:∀ b o,kF b=some o->Q b=some o:=λb o h=>kM _ _ (ek _ _ h);have Ve:∀ b o,I b=some o->Q b=some o:=λb o h=>Kf _ _ (afR _ _ h);refine aX.mk (λh=>?_) (λh=>?_)
 rotate_left
 ·have c0:¬ (j:Int)<(dm.length:Int):=dv h;have dy:dm.length-j=0:=by omega
  rw[dy,iL,hX]at mi;refine bd.mk _ DH ?_;exact⟨(w+1,Bx,Q,oM),⟨⟨⟨by omega,Oq⟩,Kf,Ot,Vd,mi⟩,by simp only;omega⟩,.refl,lV,.cons rfl (.cons rfl (.nil))⟩
 have zk:j<dm.length:=by have:(j:Int)<(dm.length:Int):=cJ h;omega
 rw[show dm.length-j=(dm.length-(j+1))+1 by omega,iL,dW]at mi;have Gq:=aJ.mono Ve;have Qk:=atK Gq.aq hw Gq.aw (λd ah=>HX d ah) aJ.ag hu (pa:=xa) (pn:=path.length) (pc:=xc) (vY.mono (λb o h=>Kf _ _ (Ke _ _ h))) cc (U8.mono Kf) ⟨Om,U9⟩ Bw (w:=(w:Int)) (by omega) pQ (bF:=(j:Int)) ⟨by omega,by omega⟩;have uy:=c8 (i:=j) (by omega);refine aO.mk _ (bp _ _ Ve) ?_;refine a8.mk [] _ _ (.refl _) Qk ?_;rintro v Vf N Ou⟨-,rfl,h,b,rfl,atV⟩;have Kg:=atV.is;have atW:∀ b o,K b=some o->Vf b=some o:=λb o h=>Ou _ _ (kM _ _ h);refine aX.mk (λag=>?_) (λag=>?_)
 ·have Vb:b=false:=by have:(!b)=true:=ag;simpa using this
  have a6:iK az g (u,path).1 (u,path).2 (w:Int) (j:Int)=false:=by rw[<-Vb];exact Kg.symm
  rw[a6]at mi;refine bd.mk _ uy ?_;exact⟨(j+1,Bx,Vf,oM),⟨⟨zk,atW,uS _ _ _ _ Ou Ot,Vd,mi⟩,by simp only;omega⟩,.refl,GV,.cons rfl (.cons rfl (.nil))⟩
 have Vc:b=true:=by have:(!b)=false:=ag;simpa using this
 have a6:iK az g (u,path).1 (u,path).2 (w:Int) (j:Int)=true:=by rw[<-Vc];exact Kg.symm
 rw[a6]at mi;have mi:sl.drop Bx=((u,path),(w:Int),(j:Int))::(iL az g (u,path) (w:Int) (dm.length-(j+1)) (j+1)++(iM az g (u,path) dm.length (4-(w+1)) (w+1)++bl)):=mi;have I8:Bx<sl.length:=by have:=congrArg List.length mi;rw[pF,et]at this;omega
 have e5:sl[Bx]?=some ((u,path),(w:Int),(j:Int)):=by
  have aa:(sl.drop Bx)[0]?=some ((u,path),(w:Int),(j:Int)):=by rw[mi];rfl
  rwa [mO,oz]at aa
 have Ov:cI Vf xa path.length xc 1 8 (iA path):=vY.mono (λb o h=>Ou _ _ (Kf _ _ (Ke _ _ h)));refine a8.mk [] _ _ (.refl _) (atN (x:=(u,path)) Ov (w:Int) (j:Int)) ?_;rintro v afS N atX⟨-,rfl,sa,Aj,rfl,Dm⟩;have Vg:∀ b o,Q b=some o->afS b=some o:=λb o h=>atX _ _ (Ou _ _ h);refine bD.yield rfl (by simp) rfl rfl ?_;have aC:=kv Bx I8 [U1 (u,path) (w:Int) (j:Int) sa Aj] afS oM (λb o h=>Vg _ _ (Ve _ _ h)) ⟨(u,path),(w:Int),(j:Int),sa,Aj,e5,rfl,Dm⟩ (uS _ _ _ _ Vg Ot);refine B4.mk oM (os.ar 77) _ (eU (l₁:=os.ar 77) (l₂:=oM)) aC ?_;rintro abd By qw Vh (⟨rfl,MV⟩ | ⟨rfl,ab⟩)
 ·refine aX.mk (λh=>by simp at h) (λ_=>?_);refine bd.mk _ uy ?_;refine⟨(j+1,Bx+1,By,qw),⟨⟨zk,λb o h=>Vh _ _ (Vg _ _ (kM _ _ h)),MV,I8,?_⟩,by simp only;omega⟩,.perm eU .refl,GV,.cons rfl (.cons rfl (.nil))⟩;simp only;rw[<-zA,mi];rfl
 ·refine aX.mk (λ_=>?_) (λh=>by simp at h);exact⟨_,_,.sub (xd _ _) .refl,.inr ab⟩
section
end
section
end
section
end
def afT{α:Type}(f:α->Nat)(m:Nat):∀ (l:List α),(∀ x∈l,f x<=m)->(l.map f).sum<=m*l.length
 |[],_=>by simp
 |a::l,h=>by have aa:=afT f m l λx ab=>h x (.tail _ ab);have ad:=h a (.head _);rw[b5,hj,et,Nat.mul_succ];omega
def atY(be:e2 I az)(aw:g.ok I)(av:AZ g):DG az I g:=by
 have aa:=av.n;have ad:∀ d∈g.ds,d.t.n<400:=λd ah=>(av.ds d ah).t.n;have ak:=afT (λd:a3=>d.t.ns.length) 400 g.ds λd ah=>by have:=(aw.ds d ah).t.n;have:=ad d ah;omega
 have aK:=aw.n;refine⟨be,aw,λd ah=>by have:=ad d ah;omega,by omega,?_,λd ah n aD=>?_⟩
 ·have:400*g.ds.length<=400*400:=Nat.mul_le_mul_left _ (by omega);omega
 ·have:=((av.ds d ah).t.ns n aD).aG;omega
def afU(hm:c6 az g=0):(∀ d∈g.ds,d.t.n<=1024)/\(g.ds.map λd=>d.t.n).sum<=1024:=by
 obtain⟨aa,ad,ak,aK,bz⟩:=JE.1 hm;unfold pV at ak;simp only[tB,st]at ak;have cu:va g<=1024:=by omega
 have e:va g=(g.ds.map λd=>d.t.n).sum:=by unfold va;congr 1;refine fV λd ah=>?_;unfold sK;rw[pq hm ah];rfl
 rw[e]at cu;refine⟨λd ah=>?_,cu⟩;have:=ads (l:=g.ds.map λd=>d.t.n) (x:=d.t.n) (cP.2 ⟨d,ah,rfl⟩);omega
def atZ(be:e2 I az)(aw:g.ok I)(hm:c6 az g=0):DG az I g:=by obtain⟨aa,ad⟩:=afU hm;have lI:=Th hm;have e:(g.ds.map λd=>d.t.ns.length)=g.ds.map λd=>d.t.n:=fV λd ah=>(aw.ds d ah).t.n;refine⟨be,aw,λd ah=>by have:=aa d ah;omega,by omega,by rw[e];omega,λd ah=>afA (aw.ds d ah).t (pq hm ah) (by have:=aa d ah;omega)⟩
def Ow(t:bk):bI t.a4=bI t:=ad3 t.ns t.bC
def afV:∀ (ds:List a3) (i:Nat),jQ i (ds.map a3.a4)=jQ i ds
 |[],_=>rfl| d::ds,i=>by rw[b5,jQ,jQ,afV ds (i+1)];show(bI d.t.a4).paths.map _++_=_;rw[Ow]
def Vi(ds:List a3)(u:Nat):bI ((ds.map a3.a4).getD u kH).t=bI (ds.getD u kH).t:=by
 rw[bS,bS,iB];cases ds[u]? with
 |none=>rfl| some d=>exact Ow d.t
def at0:(a3.a4 ∘ a3.a4)=a3.a4:=by funext d;show a3.mk d.name (d.t.a4.a4)=⟨d.name,d.t.a4⟩;congr 1;show bk.mk ((d.t.ns.map al.a4).map al.a4) _ _ _ _=⟨d.t.ns.map al.a4,_,_,_,_⟩;rw[gu];rfl
def at1(ds:List a3)(u:Nat)(y:bk):(eR (ds.map a3.a4) u y).map a3.a4=(eR ds u y).map a3.a4:=by
 unfold eR;rw[rn,rn,gu];have e:=at0;rw[e];by_cases h:u<ds.length
 ·have:((ds.map a3.a4).getD u kH).name=(ds.getD u kH).name:=by simp[bS,h,a3.a4]
  rw[this]
 ·rw[List.set_eq_of_length_le (by rw[bx];omega),List.set_eq_of_length_le (by rw[bx];omega)]
def at2(az:List Int)(g:cU)(u:Nat)(X:aP):xq az g.a4 u X=xq az g u X:=by unfold xq;congr 2;rw[<-CI,<-CI az (r5 (eR g.ds u (jK X.post)))];congr 1;unfold cU.a4 r5;simp only[at1,sb,bx]
structure kJ where
 ps:Int
 w:Int
 rule:Nat
 path:List Int
 bF:Int
 a:Option Addr
 c:Nat
def kJ.cells(x:kJ):List Value:=[.int .u8 x.ps,.int .u8 x.w,.int .i64 x.rule,.slice x.a x.path.length x.c,.int .i64 x.bF]
def kJ.cL(x:kJ):x.cells.length=5:=rfl
structure kJ.ok(I:aH)(x:kJ):Prop where
 a':cI I x.a x.path.length x.c 1 8 (iA x.path)
def kJ.ok.mono{I':aH}{x:kJ}(h:x.ok I)(bA:∀ b o,I b=some o->I' b=some o):x.ok I':=⟨h.a'.mono bA⟩
def kJ.jf(x:kJ):mN:=((x.rule,x.path),x.w,x.bF)
def afW{α β:Type}(f:α->List β)(m:Nat):∀ l:List α,(∀ x∈l,(f x).length<=m)->(l.flatMap f).length<=l.length*m
 |[],_=>by simp
 |a::l,h=>by have aa:=afW f m l λx ab=>h x (.tail _ ab);have ad:=h a (.head _);rw[iS,cr,et,Ky];omega
def afX(az:List Int)(g:cU)(x:Nat×List Int)(k:Nat):∀ n w,(iM az g x k n w).length<=n*k
 |0,_=>by simp[iM]
 |n+1,w=>by have aa:=afX az g x k n (w+1);have ad:=afM az g x (w:Int) k 0;rw[iM,cr,Ky];omega
def afY(S:aP):S.sub.length<=dM S:=by
 have:∀ l:List aP,l.length<=(l.map dM).sum:=λl=>by
  induction l with
  |nil=>exact b' _| cons x l aQ=>have:=Bp x;simp only[et,b5,hj];omega
 have aa:=this S.sub;have ad:dM S=(S.sub.map dM).sum+1:=by
  conv=>lhs;rw[S.eta]
  exact lO _ _
 omega
def afZ{T:aP}(h:T.go p=some S):dM S<=dM T:=by have aa:=J4 (X:=ht bj.zero) p _ h;have bz:dM (ht bj.zero)=1:=lO _ _;have cu:=Bp (T.put p (ht bj.zero));omega
def af0(aD:g.ds.length=g.n)(bg:∀ d∈g.ds,d.t.ns.length=d.t.n):(vW az g).length<=4194304:=by
 unfold vW;split
 ·rename_i h;obtain⟨r,af,ay⟩:=h;obtain⟨F,hw⟩:=af.J2 aD ay;obtain⟨c1,m2⟩:=afU hw.m;have FV:(g.ds.map λd=>d.t.ns.length).sum<=1024:=by rw[show(g.ds.map λd=>d.t.ns.length)=g.ds.map λd=>d.t.n from fV λd ah=>bg d ah];exact m2
  have aa:=J9 g.ds 0 λd ah=>pq hw.m ah;have ad:=afW (q3 az g) 3072 (jQ 0 g.ds) λx ab=>by
   have ak:=afX az g x (ux g x) 3 1;obtain⟨hu,S,cc⟩:=U3 ab;have nZ:g.ds.getD x.1 kH=g.ds[x.1]:=by simp[bS,hu]
   have aK:ux g x=S.sub.length:=by unfold ux;rw[nZ,cc]
   have bz:=afY S;have cu:=afZ cc;have ep:=DA (pq hw.m (bJ hu));have fa:=c1 _ (bJ hu);have dR:=bg _ (bJ hu);show(iM az g x (ux g x) 3 1).length<=_;omega
  show((jQ 0 g.ds).flatMap (q3 az g)).length<=_;have:(jQ 0 g.ds).length*3072<=1024*3072:=qg _ (by omega);omega
 ·exact dp _
def af1(aJ:DG az I g):Spec Tryz.prog 44 [g.val] I [] λv I' M'=>(∀ b o,I b=some o->I' b=some o) /\
  ∃ (os:aR) (L:List kJ),v=os.val/\os.ok 5 (L.flatMap kJ.cells)/\(∀ x∈L,x.ok I'/\x.ps=5)/\M'=os.ar 40/\L.map kJ.jf=vW az g:=by
 refine bV [3] aY Tryz.func44 rfl rfl rfl ?_;intro B ay;have gG:=af0 (az:=az) aJ.aw.n λd ah=>(aJ.aw.ds d ah).t.n;refine bW.mk λev CX afr=>?_;refine a8.mk [] [_] _ (.refl _) (atP g) ?_;rintro v cA N cO⟨b1,rfl,jF,-,rfl⟩;have h3:=aJ.mono cO;have x2:=atT h3 jF;generalize vW az g=sl at *;refine cT.K4 (A:=wu) wu.cons aY rfl rfl rfl (I1:=cA) (M1:=[⟨ev,.cells #[h2.val] 42 (0,0)⟩]) .refl x2 (λk vs I h aL=>by
   obtain⟨x,w,bF,a,c,-,rfl,-⟩:=aL;rfl) (λj I' M'=>∃ (eC:aR) (jL:List kJ),M'=⟨ev,.cells #[eC.val] 42 (0,0)⟩::eC.ar 40/\eC.ok 5 (jL.flatMap kJ.cells)/\(∀ y∈jL,y.ok I'/\y.ps=5)/\jL.map kJ.jf=sl.take j) (λex I M=>False)
  (λk I I' M h ⟨eC,jL,aa,ad,ak,aK⟩=>⟨eC,jL,aa,ad,λy aC=>⟨(ak y aC).1.mono h,(ak y aC).2⟩,aK⟩) ⟨h2,[],rfl,k1 5,(λy aC=>by cases aC),rfl⟩ ?_ ?_ (λex I' M' _ h=>h.elim)
 ·rintro j ai vs I' M' g0⟨⟨af2,af3⟩,w,bF,a,c,ab,rfl,dB⟩⟨eC,jL,rfl,ig,oj,zi⟩l B ay hg;have bz:=congrArg List.length zi;rw[bx,fO]at bz;have cu:=ig.len;rw[gO _ 5 kJ.cL]at cu;refine aO.mk [eC.val] (dr (cs:=[eC.val]) (k:=0) (n:=1) (T:=42) (.head _) (by simp)) ?_;refine bW.mk λb9 m8 uk=>?_;refine bD.k5 aY rfl (by simp) (e:=40) rfl rfl rfl eC ig rfl (cs:=(⟨5,w,af2,af3,bF,a,c⟩:kJ).cells) rfl rfl rfl [_] [] (by rw[dF];rfl) (by omega) (by show(eC.n+1)*48<=_;omega) ?_;intro dL aa ad ak;refine ck.mk [] (dL.ar 40++[]) #[eC.val] 42 rfl rfl (bK rfl) rfl ?_;refine⟨_,_,.ma (by rw[dF];rfl),dL,jL++[⟨5,w,af2,af3,bF,a,c⟩],rfl,?_,?_,?_⟩
  ·rw[fI,nQ];exact ak
  ·intro y aC;rcases cv.1 aC with aC | aC
   ·exact oj y aC
   ·rw[eN.1 aC];exact⟨⟨dB⟩,rfl⟩
  ·obtain⟨tz,AR⟩:=hG.1 ab;rw[cM,zi,gj tz,AR];rfl
 ·rintro I' M' g0⟨eC,jL,rfl,ig,oj,zi⟩;refine aO.mk [eC.val] (dr (cs:=[eC.val]) (k:=0) (n:=1) (T:=42) (.head _) (by simp)) ?_;refine⟨_,_,.sub (tA _ _) .refl,λb o h=>g0 _ _ (cO _ _ h),eC,jL,rfl,ig,oj,rfl,?_⟩;rw[zi,fC (b' _)]
def at3(g:cU)(u:Nat)(p:List Int)(x:aP):lN g.a4 u p x=lN g u p x:=by unfold lN;show((bI ((g.ds.map a3.a4).getD u kH).t).put p x).lL=_;rw[Vi]
def at4(g:cU)(u:Nat)(p:List Int)(w a:Int):ur g.a4 u p w a=ur g u p w a:=by unfold ur;show((bI ((g.ds.map a3.a4).getD u kH).t).go p).bind _=_;rw[Vi];congr 1;funext S;congr 1;funext x;exact at3 g u p x
def at5(az:List Int)(g:cU)(u:Nat)(p:List Int)(w a:Int):iK az g.a4 u p w a=iK az g u p w a:=by
 unfold iK;rw[at4];cases ur g u p w a with
 |none=>rfl| some X=>exact at2 az g u X
def at6(g:cU)(x:Nat×List Int):ux g.a4 x=ux g x:=by
 unfold ux;show(match(bI ((g.ds.map a3.a4).getD x.1 kH).t).go x.2 with
  |some S=>S.sub.length| none=>0)=_
 rw[Vi];rfl
def af4(az:List Int)(g:cU)(x:Nat×List Int)(w:Int):∀ n j,iL az g.a4 x w n j=iL az g x w n j
 |0,_=>rfl| n+1,j=>by rw[iL,iL,at5,af4 az g x w n]
def af5(az:List Int)(g:cU)(x:Nat×List Int)(k:Nat):∀ n w,iM az g.a4 x k n w=iM az g x k n w
 |0,_=>rfl| n+1,w=>by rw[iM,iM,af4,af5 az g x k n]
def at7(az:List Int)(g:cU):xx az g.a4=xx az g:=by unfold xx;show(jQ 0 (g.ds.map a3.a4)).flatMap _=_;rw[afV];congr 1;funext x;unfold q3;rw[at6,af5]
def aua(w:Int)(x y:bk):nx w x.a4 y.a4=nx w x y:=by unfold nx;rw[wQ,wQ,Ow,Ow]
def Kh(cs:List kk)(F:List aW):List mN:=if(Ts (qW cs).ds F).2=0 then xx dA (qW cs)else []
def aub(ek:Jo cs F)(aw:g.ok I)(aV:qa cs g.ds)(hm:c6 dA g=0):vW dA g=Kh cs F:=by have af:pg dA g _:=.inr ⟨hm,F,(ek.of aw aV).2.1,rfl⟩;rw[U2 af,aoQ ek aw aV af];unfold Kh;rw[<-Tp aV aw,at7]
def auc(be:e2 I dA)(vN:FP Ok 74 s=some (cs,cQ,k,e)):Spec Tryz.prog 64 [.string ⟨s.toArray⟩] I M0 λv I' M'=>(∀ b o,I b=some o->I' b=some o)/\M'=M0/\∃ g:cU,v=g.val/\g.ok I'/\qa cs g.ds:=by refine bV [] aY Tryz.func64 rfl rfl rfl ?_;intro B ay;refine a8.mk [] M0 _ (.refl _) (aoJ be vN) ?_;rintro v iz N -⟨rfl,hq,g,rfl,aw,aV⟩;exact⟨_,_,.refl,hq,rfl,g,rfl,aw,aV⟩
def DI(fF fz:nl)(w:Int)(is:Bool)(want:List UInt8):Bool:=match nx w fF.jM fz.jM with
 |some x=>is&&decide (x=o5 want)| none=>!is&&decide (bj.zero=o5 want)
def aud(h:DI fF fz w is want=true){v:Value}(aj:Gf (nx w fF.jM fz.jM) v):v=.tuple #[(o5 want).val,.bool is]:=by
 obtain⟨x,b,rfl,aA,ag⟩:=aj;unfold DI at h;rw[aA]at h;cases b with
 |true=>have h:(is&&decide (x=o5 want))=true:=h;rw[cB]at h;rw[h.1,cJ h.2]
 |false=>
  have h:(!is&&decide (bj.zero=o5 want))=true:=h;rw[cB]at h;rw[ag rfl,cJ h.2];cases is with
  |false=>rfl| true=>cases h.1
def Ox(be:e2 I dA){aue:Nat}{s1 s2:List UInt8}{ef:Int}(aa:xg Ok 121 s1=some (fF,cQ,.i64,0))(ad:xg aue 121 s2=some (fz,ef,.i64,0))(hw:0<=w)(NO:want.length<=1000)(aD:fF.ns.length<=1000)(ab:DI fF fz w is want=true) :
  Spec Tryz.prog 61 [.string ⟨s1.toArray⟩,.string ⟨s2.toArray⟩,.int .u8 w,.bool is,.string ⟨want.toArray⟩] I [] λv I' M'=>v=.bool true/\(∀ b o,I b=some o->I' b=some o)/\M'=[]:=by
 refine bV [] aY Tryz.func61 rfl rfl rfl ?_;intro B ay;refine a8.mk [] [] _ (.refl _) (acO be aa) ?_;rintro v iz N -⟨rfl,hq,x,rfl,j5,af6⟩;refine a8.mk [] [] _ (.refl _) (acO (be.mono hq) ad) ?_;rintro v cA N -⟨rfl,cO,y,rfl,Gr,auf⟩;have h0:=(be.mono hq).mono cO;have aL:nx w x y=nx w fF.jM fz.jM:=by rw[<-aua,af6.a4 j5,auf.a4 Gr]
 have om:x.n<=1000:=by have:=j5.n;rw[af6.ns.len]at this;omega
 have af7:=UO (M0:=[]) h0 (w:=w) hw (j5.mono cO) Gr (by omega);rw[aL]at af7;refine a8.mk [] [] _ (.refl _) af7 ?_;rintro v kF N k9⟨-,rfl,aj⟩;have aj:=aud ab aj;subst aj;have Br:=aav (I:=kF) (M:=[]) ⟨want.toArray⟩ (by show want.toArray.size<=_;rw[tr];omega);have e:(ByteArray.mk want.toArray).data.toList=want:=by simp
 rw[e]at Br;generalize o5 want=z at Br;have bf:∀ b o,I b=some o->kF b=some o:=λb o h=>k9 _ _ (cO _ _ (hq _ _ h));cases is with
 |true=>refine cT.draw aY rfl rfl rfl ?_;refine bX.mk (λ_=>?_) (λh=>by cases h);refine bX.mk (λ_=>?_) (λh=>by cases h);refine bX.mk (λ_=>?_) (λh=>by cases h);refine eJ.mk _ Br ?_;rintro v zh N -⟨rfl,qe,rfl⟩;subst zh;refine fT.aaf ?_;exact⟨_,_,.refl,by simp,bf,rfl⟩
 |false=>refine cT.draw aY rfl rfl rfl ?_;refine bX.mk (λ_=>?_) (λh=>by cases h);refine bX.mk (λ_=>?_) (λh=>by cases h);refine bX.mk (λ_=>?_) (λh=>by cases h);refine eJ.mk _ Br ?_;rintro v zh N -⟨rfl,qe,rfl⟩;subst zh;refine fT.aaf ?_;exact⟨_,_,.refl,by simp,bf,rfl⟩
def DJ(x:mN):Int:=x.2.1*1000+(x.1.1:Int)*100+(x.1.2.length:Int)*10+x.2.2
def Vj(x:mN):Bool:=decide (0<=x.2.1)&&(decide (x.2.1<=3)&&(decide (x.1.1<=1000)&&(decide (x.1.2.length<=1000)&&(decide (0<=x.2.2)&&decide (x.2.2<=1000)))))
def aug(be:e2 I dA)(vN:FP Ok 74 s=some (cs,cQ,k,e))(ao:Jr cs F f=true)(gG:Kh cs F=sl)(bg:sl.all Vj=true)(ax:sl.length<=1000) :
  Spec Tryz.prog 122 [.string ⟨s.toArray⟩] I [] λv I' M'=>(∀ b o,I b=some o->I' b=some o)/\∃ os:aR,v=os.val/\os.ok 1 (sl.map λx=>.int .i64 (DJ x))/\M'=os.ar 3:=by
 refine bV [] aY Tryz.func122 rfl rfl rfl ?_;intro B ay;have ek:=aoR ao;refine a8.mk [] [] _ (.refl _) (auc be vN) ?_;rintro v I1 N -⟨de,rfl,g,rfl,aw,aV⟩;have kw:=be.mono de;have hm:=(ek.of aw aV).1;have fu:=af1 (atZ kw aw hm);rw[aub ek aw aV hm,gG]at fu;refine a8.xD [] [] _ (.refl _) fu ?_;rintro v eA N gq dx⟨-,os,L,rfl,b4,bY,rfl,nv⟩;have AP:L.length=sl.length:=by rw[<-nv,bx]
 have A6:os.n=L.length:=by have:=b4.len;rw[gO _ 5 kJ.cL]at this;omega
 have AT:∀ b o,eA b=some o->hs eA os 40 b=some o:=xp dx;have dB:=Dy (J:=eA) (e:=40) (b:=48) b4 (by omega);have bf:∀ b o,I b=some o->hs eA os 40 b=some o:=λb o h=>AT _ _ (gq _ _ (de _ _ h));generalize k9:hs eA os 40=kF at dB bf AT;have x1:hc [] eA (os.ar 40++[]) kF []:=by rw[<-k9];exact Bo (λg _=>by simp)
 refine dt.inv (ι:=Nat×aR) (λx=>{ bo:=[(3,.val x.2.val),(4,.val os.val),(5,.val (.int .i64 (x.1:Int)))],cl:=[],cH:=kF,dd:=x.2.ar 3 }) (λx=>x.1<=os.n/\x.2.n=x.1/\x.2.ok 1 ((sl.take x.1).map λx=>.int .i64 (DJ x))) (λx=>os.n-x.1) ?_ ?_
 ·exact⟨(0,h2),⟨dp _,rfl,k1 1⟩,x1,fG,.nil⟩
 rintro⟨i,eC⟩⟨hi,jy,ig⟩;simp only at hi jy ig;refine aX.mk (λh=>?_) (λh=>?_)
 rotate_left
 ·have c0:¬ (i:Int)<(os.n:Int):=dv h;rw[fC (by omega)]at ig;exact⟨_,_,.refl,bf,eC,rfl,ig,rfl⟩
 have aZ:i<os.n:=by have:(i:Int)<(os.n:Int):=cJ h;omega
 have eo:i<L.length:=by omega
 obtain⟨aM,bB,bp⟩:=dB.row kJ.cL aZ eo;have ab:sl[i]'(by omega)=L[i].jf:=by
  have:(L.map kJ.jf)[i]?=sl[i]?:=by rw[nv]
  rw[iB,dg eo,dg (by omega)]at this;exact(eX this).symm
 have j5:=fS.1 bg _ (bJ (show i<sl.length by omega));have m1:sl.take (i+1)=sl.take i++[sl[i]'(by omega)]:=gj (by omega);rw[ab]at j5 m1;generalize L[i]=x at bp j5 m1;obtain⟨ps,w,rule,path,bF,xa,xc⟩:=x;simp only[Vj,kJ.jf,cB,h6]at j5;obtain⟨ew,e',fe,jZ,EE,Qr⟩:=j5;have ew:0<=w:=cJ ew;have e':w<=3:=cJ e';have fe:rule<=1000:=cJ fe;have jZ:path.length<=1000:=cJ jZ;have EE:0<=bF:=cJ EE
 have Qr:bF<=1000:=cJ Qr
 refine cT.Hh (λi=>Nat.blt i 29) aY rfl rfl rfl ?_;refine bm.mk aM i bB rfl aZ ?_;refine aO.mk _ ((bp _).part (k:=1) (m:=1) (by decide)) ?_;refine bd.mk w (lA rfl (by omega)) ?_;refine bd.mk (w*1000) (lA rfl (by omega)) ?_;refine bm.mk aM i bB rfl aZ ?_;refine aO.mk _ ((bp _).part (k:=2) (m:=1) (by decide)) ?_;refine bd.mk ((rule:Int)*100) (lA rfl (by omega)) ?_;refine bd.mk (w*1000+(rule:Int)*100) (lA rfl (by omega)) ?_;refine bm.mk aM i bB rfl aZ ?_;refine aO.mk _ ((bp _).part (k:=3) (m:=1) (by decide)) ?_;refine bd.mk ((path.length:Int)*10) (lA rfl (by omega)) ?_;refine bd.mk (w*1000+(rule:Int)*100+(path.length:Int)*10) (lA rfl (by omega)) ?_;refine bm.mk aM i bB rfl aZ ?_;refine aO.mk _ ((bp _).part (k:=4) (m:=1) (by decide)) ?_;refine bd.mk (DJ ((rule,path),w,bF)) (lA rfl (by unfold DJ;simp only;omega)) ?_;refine bW.mk λb9 m8 uk=>?_;refine bD.k5 aY rfl (by simp) (e:=3) rfl rfl rfl eC ig rfl (cs:=[.int .i64 (DJ ((rule,path),w,bF))]) rfl rfl rfl [] [] (by rw[dF];rfl) (by omega) (by show(eC.n+1)*8<=_;omega) ?_;intro dL ot _ ny;refine bd.mk _ (c8 (i:=i) (by omega)) ?_;refine⟨(i+1,dL),⟨⟨aZ,by simp only;omega,?_⟩,by simp only;omega⟩,.ma (by rw[dF];rfl),fG,.nil⟩;simp only;rw[m1,cM];exact ny
def auh(be:e2 I dA)(vN:FP Ok 74 s=some (cs,cQ,k,e))(ao:Jr cs F f=true)(gG:Kh cs F=sl)(bg:sl.all Vj=true)(ax:sl.length<=1000)
 {want:List Int} (hw:cI I a n c 1 8 (want.map (.int .i64 ·))) (DH:want=sl.map DJ) :
  Spec Tryz.prog 62 [.string ⟨s.toArray⟩,.slice a n c] I [] λv I' M'=>v=.bool true/\(∀ b o,I b=some o->I' b=some o)/\M'=[]:=by
 refine bV [] aY Tryz.func62 rfl rfl rfl ?_;intro B ay;refine a8.mk [] [] _ (.refl _) (aug be vN ao gG bg ax) ?_;rintro v J N a5⟨-,os,rfl,b4,rfl⟩;have NO:want.length=n:=by have:=hw.len;rw[bx]at this;omega
 have A6:os.n=n:=by have:=b4.len;rw[bx]at this;rw[DH,bx]at NO;omega
 rw[show(sl.map λx=>Value.int .i64 (DJ x))=want.map (.int .i64 ·) by rw[DH,gu];rfl]at b4;refine aX.mk (λh=>absurd h (by simp[A6])) (λ_=>?_);refine dt.inv (ι:=Nat) (λx=>{ bo:=[(1,.val (.slice a n c)),(5,.val os.val),(6,.val (.int .i64 (x:Int)))],cl:=[],cH:=J,dd:=os.ar 3 }) (λx=>x<=n) (λx=>n-x) ?_ ?_
 ·exact⟨0,dp _,.ma (by rw[dF]),fG,.nil⟩
 intro i hi;refine aX.mk (λh=>?_) (λh=>?_)
 rotate_left
 ·exact⟨_,_,.sub (gd _) .refl,rfl,a5,rfl⟩
 have aZ:i<n:=by have:(i:Int)<(os.n:Int):=cJ h;omega
 have eo:i<want.length:=by omega
 obtain⟨aM,bB,bp⟩:=(hw.mono a5).one aZ eo;rw[<-oq]at b4;obtain⟨Be,zc,vJ⟩:=aR.ok.row (I:=J) (M:=os.ar 3) (f:=iI) (λ_=>rfl) (by decide) b4 (e:=3) (λx ab=>ab) eo;generalize want[i]=z at bp vJ;refine cT.draw aY rfl rfl rfl ?_;refine bm.mk Be i zc rfl (by omega) ?_;refine aO.mk _ vJ ?_;refine bm.mk aM i bB rfl aZ ?_;refine aO.mk _ (bp _) ?_;refine aX.mk (λh=>absurd h (by simp)) (λ_=>?_);refine bd.mk _ (c8 (i:=i) (by have:=hw.cap;omega)) ?_;exact⟨i+1,⟨aZ,by omega⟩,.refl,fG,.nil⟩
def Oy:nl:=⟨[⟨1,0,60129542144,0,0,[],0,0,[]⟩],0⟩
def Vk:xg 100000 121 [91,97,45,99,93]=some (Oy,0,.i64,0):=by kernel_rfl
def af8:nl:=⟨[⟨2,0,0,0,0,[100],0,0,[]⟩],0⟩
def aui:xg 100000 121 [34,100,34]=some (af8,0,.i64,0):=by kernel_rfl
def af9:nl:=⟨[⟨2,0,0,0,0,[97,98],0,0,[]⟩],0⟩
def auj:xg 100000 121 [34,97,98,34]=some (af9,0,.i64,0):=by kernel_rfl
def aga:nl:=⟨[⟨1,0,34359738368,0,0,[],0,0,[]⟩],0⟩
def auk:xg 100000 121 [91,99,93]=some (aga,0,.i64,0):=by kernel_rfl
def agb:nl:=⟨[⟨1,0,17179869184,0,0,[],0,0,[]⟩,⟨8,0,0,0,0,[],0,0,[0]⟩],1⟩
def aul:xg 100000 121 [33,91,98,93]=some (agb,0,.i64,0):=by kernel_rfl
def agc:nl:=⟨[⟨1,0,144115170895986688,0,0,[],0,0,[]⟩,⟨7,0,0,0,0,[],0,0,[0]⟩],1⟩
def aum:xg 100000 121 [38,91,98,45,120,93]=some (agc,0,.i64,0):=by kernel_rfl
def aun:DI Oy af8 1 true [97,98,99,100]=true:=by kernel_rfl
def auo:DI af9 aga 1 false []=true:=by kernel_rfl
def aup:DI agb Oy 2 true [97,99]=true:=by kernel_rfl
def auq:DI agc Oy 3 true [98,99]=true:=by kernel_rfl
def Ki:List kk:=[⟨[97],⟨[⟨1,0,8589934592,0,0,[],0,0,[]⟩,⟨2,0,0,0,0,[98],0,0,[]⟩,⟨2,0,0,0,0,[99],0,0,[]⟩,⟨3,0,0,0,0,[120],0,0,[]⟩,⟨4,0,0,0,0,[],0,0,[2,3]⟩,⟨5,0,0,0,0,[],0,0,[0,1,4]⟩],5⟩⟩,⟨[120],⟨[⟨2,0,0,0,0,[121],0,0,[]⟩],0⟩⟩]
def aur:FP 100000 74 [97,32,60,45,32,91,97,93,32,47,32,34,98,34,32,47,32,34,99,34,32,120,32,120,32,60,45,32,34,121,34]=some (Ki,0,.i64,0):=by kernel_rfl
def aus:Jr Ki (Nh Ki 5) 5=true:=by kernel_rfl
def aut:Kh Ki (Nh Ki 5)=[((0,[]),1,0)]:=by kernel_rfl
def auu{b:Nat}(k:Int):cI (ins I b (.cells #[.int .i64 k] 3 (0,0))) (some ⟨b,0,none⟩) 1 1 1 8 (iA [k]):=
 ⟨rfl,⟨b' _,by decide⟩,.inr ⟨⟨b,0,none⟩,rfl,rfl,_,_,_,n8 ..,rfl⟩⟩
def agd(be:e2 I dA):Spec Tryz.prog 35 [] I [] λv J kQ=>v=.bool true/\(∀ b o,I b=some o->J b=some o)/\kQ=[]:=by refine bV [] aY Tryz.func35 rfl rfl rfl ?_;intro B ay;refine a8.mk [] [] _ (.refl _) (Ox be Vk aui (w:=1) (by decide) (is:=true) (want:=[97,98,99,100]) (by decide) (by decide) aun) ?_;rintro v I1 N -⟨rfl,de,rfl⟩;have kw:=be.mono de;refine bX.mk (λ_=>?_) (λh=>by cases h);refine a8.mk [] [] _ (.refl _) (Ox kw auj auk (w:=1) (by decide) (is:=false) (want:=[]) (by decide) (by decide) auo) ?_;rintro v eA N -⟨rfl,gq,rfl⟩;have h0:=kw.mono gq;refine bX.mk (λ_=>?_) (λh=>by cases h);refine a8.mk [] [] _ (.refl _) (Ox h0 aul Vk (w:=2) (by decide) (is:=true) (want:=[97,99]) (by decide) (by decide) aup) ?_;rintro v lu N -⟨rfl,kX,rfl⟩;have qd:=h0.mono kX;refine bX.mk (λ_=>?_) (λh=>by cases h);refine a8.mk [] [] _ (.refl _) (Ox qd aum Vk (w:=3) (by decide) (is:=true) (want:=[98,99]) (by decide) (by decide) auq) ?_;rintro v qv N -⟨rfl,y',rfl⟩;have Uw:=qd.mono y';refine bX.mk (λ_=>?_) (λh=>by cases h);refine bW.mk λb9 m8 uk=>?_;have bf:∀ b o,qv b=some o->ins qv b9 (.cells #[.int .i64 1000] 3 (0,0)) b=some o:=lz m8;refine a8.uF (ins qv b9 (.cells #[.int .i64 1000] 3 (0,0))) [] [] _ (.mP rfl (by simp) .refl) (auh (Uw.mono bf) aur aus aut (by decide) (by decide) (auu 1000) rfl) ?_;rintro v J N a5 -⟨rfl,-,rfl⟩;exact⟨_,_,.refl,rfl,λb o h=>a5 _ _ (bf _ _ (y' _ _ (kX _ _ (gq _ _ (de _ _ h))))),rfl⟩
structure auv(u:bk)(x:Nat×Nat):Prop where
 q:x.2<=u.n
 p:x.1<=600
 small:x.1<200->u.n<200/\x.2<=u.n/\u.n<=x.1/\∀ i (h:i<u.ns.length),i<x.2->Tg u.ns[i]
def age{u:bk}(iD:Ag I u) :
  Spec Tryz.prog 90 [u.val] I M0 λv I' M'=>(∃ w:Nat,v=.int .i64 w/\w<=600/\(w<200->yZ u))/\I'=I/\M'=M0:=by
 refine bV [] aY Tryz.func90 rfl rfl rfl ?_;intro B ay;have axb:=iD.n;have hA:=iD.a'.cap;refine dt.inv (ι:=Nat×Nat) (λx=>{ bo:=[(1,.ref 1 0),(3,.val (.int .i64 x.1)),(4,.val (.int .i64 x.2))],cl:=[(1,u.cells)],cH:=I,dd:=M0 }) (λx=>auv u x) (λx=>u.n-x.2) ?_ ?_
 ·refine⟨(min 200 u.n,0),⟨dp _,by simp only;omega,λh=>⟨by simp only at h;omega,dp _,by simp only at h |-;omega,λi _ h=>by simp at h⟩⟩,.refl,.cons .refl (.cons ?_ (.cons .refl .nil)),.cons rfl (.nil)⟩;simp only;rw[show((min 200 u.n:Nat):Int)=min 200 (u.n:Int) by omega];exact .refl
 rintro⟨p,q⟩⟨aL,aJ,vT⟩;simp only at aL aJ vT;have fin:(p<200->u.n<=q)->∃ w:Nat,Value.int .i64 (p:Int)=.int .i64 w/\w<=600/\(w<200->yZ u):=λh=>by
  refine⟨p,rfl,aJ,λad=>?_⟩;obtain⟨nf,kC,Ft,Vl⟩:=vT ad;have:=h ad;exact⟨by omega,λb3 bU=>by
   obtain⟨y,aC,rfl⟩:=hO bU;exact Vl y aC (by omega)⟩
 refine bX.mk (λbz=>aX.mk (λcu=>?_) (λcu=>?_)) (λbz=>?_)
 ·have hC:q<u.n:=by simpa using bz
  have h3:p<200:=by have:=cJ cu;omega
  obtain⟨nf,kC,Ft,Vl⟩:=vT h3;have oY:q<u.ns.length:=by omega
  obtain⟨H4,agf,ov⟩:=iD.a'.row al.cL hC oY;have bU:=iD.ns _ (bJ oY);have dk:=bU.dC;have qI:∀ M,cR I M ((H4.add (q*9)).add 8) 1 [.slice u.ns[q].b0 u.ns[q].aG u.ns[q].ch]:=λM=>(ov M).part (k:=8) (m:=1) (by decide);have Af:∀ M,cR I M ((H4.add (q*9)).add 5) 1 [.string u.ns[q].t]:=λM=>(ov M).part (k:=5) (m:=1) (by decide);generalize auw:u.ns[q]=b3 at bU dk qI Af;refine cT.draw aY rfl rfl rfl ?_;refine bm.mk H4 q agf rfl hC ?_;refine aO.mk _ (qI _) ?_;refine bd.mk ((p+min 200 b3.aG:Nat):Int) (lA (by omega) (by omega)) ?_;refine bm.mk H4 q agf rfl hC ?_;refine aO.mk _ (Af _) ?_;refine uD.mk (by decide) ?_;refine bd.mk ((b3.t.size/20:Nat):Int) (lA (by rw[afQ (by omega)];omega) (by omega)) ?_;refine bd.mk ((p+min 200 b3.aG+min 200 (b3.t.size/20):Nat):Int) (lA (by omega) (by omega)) ?_;refine bd.mk _ (c8 (i:=q) (by omega)) ?_;refine⟨(_,q+1),⟨⟨by simp only;omega,by simp only;omega,λep=>?_⟩,by simp only;omega⟩,.refl,fG,.cons rfl (.nil)⟩;simp only at ep |-;refine⟨nf,by omega,by omega,λi hi hW=>?_⟩;by_cases e:i=q;·subst e;rw[auw];exact⟨by omega,by omega⟩
  ·exact Vl i hi (by omega)
 ·have h3:200<=p:=by have:=dv cu;omega
  exact⟨_,_,.refl,fin (λh=>by omega),rfl,rfl⟩
 ·have hC:u.n<=q:=by simpa using bz
  exact⟨_,_,.refl,fin (λh=>hC),rfl,rfl⟩
structure auy(g:cU)(x:Nat×Nat):Prop where
 k:x.2<=g.n
 p:x.1<=1200
 small:x.1<200->x.2<=x.1/\∀ i (h:i<g.ds.length),i<x.2->acD g.ds[i]
structure agh(g:cU)(L:List bk)(x:Nat×Nat):Prop where
 k:x.2<=L.length
 p:x.1<=1200
 small:x.1<200->AZ g/\∀ i (h:i<L.length),i<x.2->yZ L[i]
def auz(aw:rR I g)(bY:∀ t∈L,Ag I t){la:Option Addr}{lc:Nat}(Bv:∀ j (h:j<L.length),∃ aM,la=some aM/\cR I M0 (aM.add (j*2)) 2 L[j].cells)(y3:L.length<=1000) :
  Spec Tryz.prog 34 [g.val,.slice la L.length lc] I M0 λv I' M'=>(∃ r,v=.bool r/\(r=false->AZ g/\∀ t∈L,yZ t))/\I'=I/\M'=M0:=by
 refine bV [] aY Tryz.func34 rfl rfl rfl ?_;intro B ay;have iG:=aw.n;have hA:=aw.a'.cap;refine dt.inv (ι:=Nat×Nat) (λx=>{ bo:=[(1,.val (.slice la L.length lc)),(2,.ref 2 0),(5,.val (.int .i64 x.1)),(6,.val (.int .i64 x.2))],cl:=[(2,[.slice g.a g.n g.c])],cH:=I,dd:=M0 }) (λx=>auy g x) (λx=>g.n-x.2) ?_ ?_
 ·exact⟨(0,0),⟨dp _,dp _,λh=>⟨b' _,λi _ h=>by simp at h⟩⟩,.refl,ee,.cons rfl (.nil)⟩
 rintro⟨p,k⟩⟨ae,aJ,vT⟩;simp only at ae aJ vT;have fin:(p<200->g.n<=k)->p<200->AZ g:=λh h3=>by
  obtain⟨nf,kC⟩:=vT h3;have:=h h3;exact⟨by omega,λd ah=>by
   obtain⟨y,aC,rfl⟩:=hO ah;exact kC y aC (by omega)⟩
 have agi:∀ j (h:j<L.length),Spec Tryz.prog 90 [L[j].val] I M0 λv I' M'=>(∃ w:Nat,v=.int .i64 w/\w<=600/\(w<200->yZ L[j]))/\I'=I/\M'=M0:=λj h=>age (bY _ (bJ h));refine bX.mk (λbz=>aX.mk (λcu=>?_) (λcu=>?_)) (λbz=>?_)
 ·have c7:k<g.n:=by simpa using bz
  have h3:p<200:=by have:=cJ cu;omega
  obtain⟨nf,kC⟩:=vT h3;have x6:k<g.ds.length:=by omega
  obtain⟨aM,bB,bp⟩:=aw.a'.row a3.cL c7 x6;have ah:=aw.ds _ (bJ x6);have mu:=ah.name;have iD:=ah.t;have hn:∀ M,cR I M ((aM.add (k*3)).add 0) 1 [.string g.ds[k].name]:=λM=>(bp M).part (k:=0) (m:=1) (by decide);have o1:∀ M,cR I M ((aM.add (k*3)).add 1) 2 g.ds[k].t.cells:=λM=>(bp M).part (k:=1) (m:=2) (by decide);have fD:g.ds[k]=⟨g.ds[k].name,g.ds[k].t⟩:=rfl;generalize g.ds[k].name=nm at mu hn fD;generalize g.ds[k].t=u at iD o1 fD;refine cT.draw aY rfl rfl rfl ?_;refine bd.mk ((p+1:Nat):Int) (lA (by omega) (by omega)) ?_;refine bm.mk aM k bB rfl c7 ?_;refine aO.mk _ (hn _) ?_;refine uD.mk (by decide) ?_;refine bd.mk ((nm.size/20:Nat):Int) (lA (by rw[afQ (by omega)];omega) (by omega)) ?_;refine bd.mk ((p+1+min 200 (nm.size/20):Nat):Int) (lA (by omega) (by omega)) ?_;refine bm.mk aM k bB rfl c7 ?_;refine aO.mk _ (o1 _) ?_;refine eJ.whole _ (age (M0:=M0) iD) (λv I' M' h x ab=>by rw[h.2.2];exact ab) ?_;rintro v hE N -⟨⟨w,rfl,hw,rG⟩,ue,ho⟩;subst hE;subst N;refine bd.mk ((p+1+min 200 (nm.size/20)+w:Nat):Int) (lA (by omega) (by omega)) ?_;refine bd.mk _ (c8 (i:=k) (by omega)) ?_;refine⟨(_,k+1),⟨⟨by simp only;omega,by simp only;omega,λep=>?_⟩,by simp only;omega⟩,.refl,ee,.cons rfl (.nil)⟩;simp only at ep |-;refine⟨by omega,λi hi hW=>?_⟩;by_cases e:i=k;·subst e;rw[fD];exact⟨by simp only;omega,rG (by omega)⟩
  ·exact kC i hi (by omega)
 ·have h3:200<=p:=by have:=dv cu;omega
  refine dt.inv (ι:=Nat×Nat) (λx=>{ bo:=[(1,.val (.slice la L.length lc)),(5,.val (.int .i64 x.1)),(7,.val (.int .i64 x.2))],cl:=[],cH:=I,dd:=M0 }) (λx=>agh g L x) (λx=>L.length-x.2) ?_ ?_;·exact⟨(p,0),⟨dp _,aJ,λh=>⟨fin (λh=>by omega) h,λi _ h=>by simp at h⟩⟩,.refl,fG,.nil⟩
  rintro⟨q,m⟩⟨hm,aL,DK⟩;simp only at hm aL DK;have Kj:(q<200->L.length<=m)->∀ c:Bool,c=decide ((200:Int)<=(q:Int))->(c=false->AZ g/\∀ t∈L,yZ t):=λh c ao aB=>by
   rw[aB]at ao;have h3:q<200:=by have:=dv ao.symm;omega
   obtain⟨nf,kC⟩:=DK h3;have:=h h3;exact⟨nf,λd ah=>by
    obtain⟨y,aC,rfl⟩:=hO ah;exact kC y aC (by omega)⟩
  refine bX.mk (λep=>aX.mk (λfa=>?_) (λfa=>?_)) (λep=>?_)
  ·have hh:m<L.length:=by simpa using ep
   have tO:q<200:=by have:=cJ fa;omega
   obtain⟨nf,kC⟩:=DK tO;obtain⟨aM,bB,bp⟩:=Bv m hh;have hw:=agi m hh;have auA:L[m]=L[m]:=rfl;generalize vu:L[m]=u at bp hw;refine bd.mk ((q+1:Nat):Int) (lA (by omega) (by omega)) ?_;refine bm.mk aM m bB rfl hh ?_;refine aO.mk _ bp ?_;refine a8.mk M0 [] _ (by rw[dF]) hw ?_;rintro v hE N -⟨⟨w,rfl,hw,rG⟩,ue,ho⟩;subst hE;subst N;refine bd.mk ((q+1+w:Nat):Int) (lA (by omega) (by omega)) ?_;refine bd.mk _ (c8 (i:=m) (by omega)) ?_;refine⟨(_,m+1),⟨⟨hh,by simp only;omega,λdR=>?_⟩,by simp only;omega⟩,.ma (by rw[dF]),fG,.nil⟩;simp only at dR |-;refine⟨nf,λi hi hW=>?_⟩;by_cases e:i=m;·subst e;rw[vu];exact rG (by omega)
   ·exact kC i hi (by omega)
  ·have h3:200<=q:=by have:=dv fa;omega
   exact⟨_,_,.refl,⟨_,rfl,Kj (λh=>by omega) _ rfl⟩,rfl,rfl⟩
  ·have c7:L.length<=m:=by simpa using ep
   exact⟨_,_,.refl,⟨_,rfl,Kj (λh=>c7) _ rfl⟩,rfl,rfl⟩
 ·have c7:g.n<=k:=by simpa using bz
  refine dt.inv (ι:=Nat×Nat) (λx=>{ bo:=[(1,.val (.slice la L.length lc)),(5,.val (.int .i64 x.1)),(7,.val (.int .i64 x.2))],cl:=[],cH:=I,dd:=M0 }) (λx=>agh g L x) (λx=>L.length-x.2) ?_ ?_;·exact⟨(p,0),⟨dp _,aJ,λh=>⟨fin (λ_=>c7) h,λi _ h=>by simp at h⟩⟩,.refl,fG,.nil⟩
  rintro⟨q,m⟩⟨hm,aL,DK⟩;simp only at hm aL DK;have Kj:(q<200->L.length<=m)->∀ c:Bool,c=decide ((200:Int)<=(q:Int))->(c=false->AZ g/\∀ t∈L,yZ t):=λh c ao aB=>by
   rw[aB]at ao;have h3:q<200:=by have:=dv ao.symm;omega
   obtain⟨nf,kC⟩:=DK h3;have:=h h3;exact⟨nf,λd ah=>by
    obtain⟨y,aC,rfl⟩:=hO ah;exact kC y aC (by omega)⟩
  refine bX.mk (λep=>aX.mk (λfa=>?_) (λfa=>?_)) (λep=>?_)
  ·have hh:m<L.length:=by simpa using ep
   have tO:q<200:=by have:=cJ fa;omega
   obtain⟨nf,kC⟩:=DK tO;obtain⟨aM,bB,bp⟩:=Bv m hh;have hw:=agi m hh;have auA:L[m]=L[m]:=rfl;generalize vu:L[m]=u at bp hw;refine bd.mk ((q+1:Nat):Int) (lA (by omega) (by omega)) ?_;refine bm.mk aM m bB rfl hh ?_;refine aO.mk _ bp ?_;refine a8.mk M0 [] _ (by rw[dF]) hw ?_;rintro v hE N -⟨⟨w,rfl,hw,rG⟩,ue,ho⟩;subst hE;subst N;refine bd.mk ((q+1+w:Nat):Int) (lA (by omega) (by omega)) ?_;refine bd.mk _ (c8 (i:=m) (by omega)) ?_;refine⟨(_,m+1),⟨⟨hh,by simp only;omega,λdR=>?_⟩,by simp only;omega⟩,.ma (by rw[dF]),fG,.nil⟩;simp only at dR |-;refine⟨nf,λi hi hW=>?_⟩;by_cases e:i=m;·subst e;rw[vu];exact rG (by omega)
   ·exact kC i hi (by omega)
  ·have h3:200<=q:=by have:=dv fa;omega
   exact⟨_,_,.refl,⟨_,rfl,Kj (λh=>by omega) _ rfl⟩,rfl,rfl⟩
  ·have c7:L.length<=m:=by simpa using ep
   exact⟨_,_,.refl,⟨_,rfl,Kj (λh=>c7) _ rfl⟩,rfl,rfl⟩
def auB(aw:rR I g):Spec Tryz.prog 34 [g.val,.slice none 0 0] I [] λv I' M'=>(∃ r,v=.bool r/\(r=false->AZ g))/\I'=I/\M'=[]:=by refine Spec.mH (auz (L:=[]) (la:=none) (lc:=0) aw (λt aq=>by cases aq) (λj h=>by cases h) (dp _)) ?_;rintro v J M⟨⟨r,aa,ad⟩,ak⟩;exact⟨⟨r,aa,λh=>(ad h).1⟩,ak⟩
def Vm{az:List Int}{g:cU}{x:Nat×List Int}{w:Int}{y:mN}:∀ {n j:Nat},y∈iL az g x w n j->y.1=x/\y.2.1=w/\∃ i:Nat,y.2.2=(i:Int)/\iK az g x.1 x.2 w (i:Int)=true/\j<=i/\i<j+n
 |0,_,h=>by cases h
 |n+1,j,h=>by
  rw[iL]at h;rcases cv.1 h with h | h
  ·cases ag:iK az g x.1 x.2 w (j:Int)with
   |false=>rw[ag]at h;cases h| true=>rw[ag]at h;rw[eN.1 h];exact⟨rfl,rfl,j,rfl,ag,b' _,by omega⟩
  ·obtain⟨aa,ad,i,ak,aK,bz,cu⟩:=Vm h;exact⟨aa,ad,i,ak,aK,by omega,by omega⟩
def Vn{az:List Int}{g:cU}{x:Nat×List Int}{k:Nat}{y:mN}:∀ {n w:Nat},y∈iM az g x k n w->y.1=x/\∃ v:Nat,w<=v/\v<w+n/\y.2.1=(v:Int)/\∃ i:Nat,y.2.2=(i:Int)/\iK az g x.1 x.2 (v:Int) (i:Int)=true/\i<k
 |0,_,h=>by cases h
 |n+1,w,h=>by
  rw[iM]at h;rcases cv.1 h with h | h;·obtain⟨aa,ad,i,ak,aK,bz,cu⟩:=Vm h;exact⟨aa,w,b' _,by omega,ad,i,ak,aK,by omega⟩
  ·obtain⟨aa,v,ad,ak,aK⟩:=Vn h;exact⟨aa,v,by omega,by omega,aK⟩
def agj(x:Int):Spec Tryz.prog 180 [.int .i64 x] I M0 λv I' M'=>v=.bool false/\I'=I/\M'=M0:=by refine bV [] aY Tryz.func180 rfl rfl rfl ?_;intro B ay;exact⟨_,_,.refl,by simp,rfl,rfl⟩
def Bz(x y:Int):Int:=if x<y then -1 else if y<x then 1 else 0
def agk{x y:Int}:Bz x y=0 ↔ x=y:=by
 unfold Bz;split
 ·omega
 ·split<;>omega
def agl(x y:Int):Spec Tryz.prog 115 [.int .i64 x,.int .i64 y] I M0 λv I' M'=>v=.int .i64 (Bz x y)/\I'=I/\M'=M0:=by
 refine bV [] aY Tryz.func115 rfl rfl rfl ?_;intro B ay;refine a8.mk [] M0 _ (.refl _) (agj (M0:=[]) x) ?_;rintro v J N -⟨rfl,a5,rfl⟩;subst J;refine a8.mk [] M0 _ (.refl _) (agj (M0:=[]) y) ?_;rintro v J N -⟨rfl,a5,rfl⟩;subst J;refine aX.mk (λh=>by cases h) (λ_=>?_);refine aX.mk (λh=>by cases h) (λ_=>?_);refine aX.mk (λh=>?_) (λh=>?_)
 ·have h:x<y:=cJ h;exact⟨_,_,.refl,by rw[Bz,bT h],rfl,rfl⟩
 ·have aa:¬ x<y:=dv h;refine aX.mk (λh=>?_) (λh=>?_)
  ·have h:y<x:=cJ h;exact⟨_,_,.refl,by rw[Bz,bN aa,bT h],rfl,rfl⟩
  ·have h:¬ y<x:=dv h;exact⟨_,_,.refl,by rw[Bz,bN aa,bN h],rfl,rfl⟩
def auC{l:List Int}(h:cI I a n c 1 8 (iA l))(bq:cI I bL gw c' 1 8 (iA eu)):Spec Tryz.prog 116 [.slice a n c,.slice bL gw c'] I M0 λv I' M'=>I'=I/\M'=M0/\∃ r,v=.int .i64 r/\(r=0 ↔ l=eu):=by
 have ax:l.length=n:=by have:=h.len;simpa[iA]using this
 have ql:eu.length=gw:=by have:=bq.len;simpa[iA]using this
 have ao:=h.cap;refine bV [] aY Tryz.func116 rfl rfl rfl ?_;intro B ay;refine dt.inv (ι:=Nat) (λi=>{ bo:=[(0,.val (.slice a n c)),(1,.val (.slice bL gw c')),(9,.val (.slice a n c)),(10,.val (.int .i64 n)),(11,.val (.int .i64 (i:Int)))],cl:=[],cH:=I,dd:=M0 }) (λi=>i<=n/\i<=gw/\l.take i=eu.take i) (λi=>n-i) ?_ ?_
 ·exact⟨0,⟨dp _,dp _,rfl⟩,.refl,hx,.nil⟩
 rintro i⟨hi,cC,aq⟩;refine aX.mk (λe=>?_) (λe=>?_)
 ·have aZ:i<n:=by have:(i:Int)<(n:Int):=cJ e;omega
  obtain⟨aM,bB,bp⟩:=h.one aZ (show i<l.length by omega);refine bm.mk aM i bB rfl aZ ?_;refine aO.mk _ (bp _) ?_;refine aX.mk (λe=>?_) (λe=>?_)
  ·have c0:(gw:Int)<=(i:Int):=cJ e;refine⟨_,_,.refl,rfl,rfl,1,rfl,?_⟩;constructor
   ·intro h;cases h
   ·intro h;have:=congrArg List.length h;omega
  ·have F9:i<gw:=by have:¬ (gw:Int)<=(i:Int):=dv e;omega
   obtain⟨Be,zc,vJ⟩:=bq.one F9 (show i<eu.length by omega);refine bm.mk Be i zc rfl F9 ?_;refine aO.mk _ (vJ _) ?_;refine a8.mk [] M0 _ (.refl _) (agl (M0:=[]) _ _) ?_;rintro v J N -⟨rfl,a5,rfl⟩;subst J;have hg:=agk (x:=l[i]'(by omega)) (y:=eu[i]'(by omega));generalize bb:Bz (l[i]'(by omega)) (eu[i]'(by omega))=z at hg |-;refine aX.mk (λe=>?_) (λe=>?_)
   ·have bt:¬ z=0:=by have:(!decide (z=0))=true:=e;simpa using this
    refine⟨_,_,.refl,rfl,rfl,z,rfl,?_⟩;constructor;·intro h;exact absurd h bt
    ·intro h;exact absurd (hg.2 (by simp only[h])) bt
   ·have uY:z=0:=by have:(!decide (z=0))=false:=e;simpa using this
    refine bd.mk _ (c8 (i:=i) (by omega)) ?_;refine⟨i+1,⟨⟨aZ,F9,?_⟩,by omega⟩,.refl,hx,.nil⟩;rw[gj (by omega),gj (by omega),aq,hg.1 uY]
 ·have c0:¬ (i:Int)<(n:Int):=dv e;have a6:i=n:=by omega
  subst a6;rw[fC (by omega)]at aq;refine aX.mk (λe=>?_) (λe=>?_)
  ·have aZ:(i:Int)<(gw:Int):=cJ e;refine⟨_,_,.refl,rfl,rfl,-1,rfl,?_⟩;constructor
   ·intro h;cases h
   ·intro h;have:=congrArg List.length h;omega
  ·have aZ:¬ (i:Int)<(gw:Int):=dv e;refine⟨_,_,.refl,rfl,rfl,0,rfl,?_⟩;rw[fC (by omega)]at aq;exact⟨λ_=>aq,λ_=>rfl⟩
def agm{r r':Int}{l:List Int}(h:cI I a n c 1 8 (iA l))(bq:cI I bL gw c' 1 8 (iA eu)):Spec Tryz.prog 59 [Ge r a n c,Ge r' bL gw c'] I M0 λv I' M'=>I'=I/\M'=M0/\∃ z,v=.int .i64 z/\(z=0 ↔ r=r'/\l=eu):=by
 refine bV [] aY Tryz.func59 rfl rfl rfl ?_;intro B ay;refine a8.mk [] M0 _ (.refl _) (agl (M0:=[]) r r') ?_;rintro v J N -⟨rfl,a5,rfl⟩;subst J;have hg:=agk (x:=r) (y:=r');generalize Bz r r'=z at hg |-;refine aX.mk (λe=>?_) (λe=>?_)
 ·have bt:¬ z=0:=by have:(!decide (z=0))=true:=e;simpa using this
  exact⟨_,_,.refl,rfl,rfl,z,rfl,λh=>absurd h bt,λh=>absurd (hg.2 h.1) bt⟩
 ·have uY:z=0:=by have:(!decide (z=0))=false:=e;simpa using this
  refine a8.mk [] M0 _ (.refl _) (auC (M0:=[]) h bq) ?_;rintro v J N -⟨a5,rfl,w,rfl,hw⟩;subst J;exact⟨_,_,.refl,rfl,rfl,w,rfl,λe=>⟨hg.1 uY,hw.1 e⟩,λe=>hw.2 e.2⟩
def agn:∀ (i:Nat) (l:List aP),(∀ c∈l,c.paths.Nodup)->(aP.s9 i l).Nodup/\∀ q∈aP.s9 i l,∃ j p,i<=j/\q=((j:Nat):Int)::p
 |_,[],_=>by rw[aP.Oc];exact⟨zp,λq h=>by cases h⟩
 |i,c::l,aQ=>by
  obtain⟨aa,ad⟩:=agn (i+1) l λx ab=>aQ x (.tail _ ab);rw[aP.Ob];refine⟨sh.2 ⟨?_,aa,λa a7 b ag e=>?_⟩,λq aL=>?_⟩;·exact List.Pairwise.map _ (λa b j0 e=>j0 (Hp e).2) (aQ c (.head _))
  ·obtain⟨p,-,rfl⟩:=cP.1 a7;obtain⟨j,mo,ai,rfl⟩:=ad b ag;have:=(Hp e).1;omega
  ·rcases cv.1 aL with aL | aL
   ·obtain⟨p,-,rfl⟩:=cP.1 aL;exact⟨i,p,b' _,rfl⟩
   ·obtain⟨j,p,ai,rfl⟩:=ad q aL;exact⟨j,p,by omega,rfl⟩
def auD:∀ T:aP,T.paths.Nodup:=by
 intro T
 induction T using aP.ind with
 |h d ks aQ=>rw[aP.Gj];obtain⟨aa,ad⟩:=agn 0 ks aQ;refine lf.2 ⟨λh=>?_,aa⟩;obtain⟨j,p,-,e⟩:=ad _ h;cases e
def ago:∀ (ds:List a3) (i:Nat),(jQ i ds).Nodup/\∀ x∈jQ i ds,i<=x.1
 |[],i=>⟨zp,λx h=>by cases h⟩
 |d::ds,i=>by
  obtain⟨aa,ad⟩:=ago ds (i+1);rw[jQ];refine⟨sh.2 ⟨List.Pairwise.map _ (λa b j0 e=>j0 (Prod.mk.inj e).2) (auD _),aa,λa a7 b ag e=>?_⟩,λx ab=>?_⟩;·obtain⟨p,-,rfl⟩:=cP.1 a7;have:=ad b ag;rw[<-e]at this;simp only at this;omega
  ·rcases cv.1 ab with ab | ab
   ·obtain⟨p,-,rfl⟩:=cP.1 ab;exact b' _
   ·have:=ad x ab;omega
def auE{u:Nat}(hu:u<g.ds.length)(cc:(bI g.ds[u].t).go p=some S)(h:S.sub.length<=j+1):iK az g u p w (j:Int)=false:=by unfold iK;rw[Oi hu cc,pt,bN λe=>absurd e.2.2 (by omega)];rfl
def auF(hu:x.1<g.ds.length)(cc:(bI g.ds[x.1].t).go x.2=some S)(h:S.sub.length<=j+1):iL az g x w (S.sub.length-j) j=[]:=by
 rcases(show S.sub.length-j=0\/S.sub.length-j=1 by omega)with e | e
 ·rw[e];rfl
 ·rw[e,iL,auE hu cc h];rfl
def auG{w k m:Nat}{bl:List mN}(ah:sl.drop c=iL az g x (w:Int) (n+1) j++(iM az g x k m (w+1)++bl))(af:∀ y∈bl,y.1≠x):sl[c]?=some (x,(w:Int),(j:Int)) ↔ iK az g x.1 x.2 (w:Int) (j:Int)=true:=by
 have aa:sl[c]?=(iL az g x (w:Int) (n+1) j++(iM az g x k m (w+1)++bl))[0]?:=by rw[<-ah,mO,oz]
 rw[aa,iL];cases ag:iK az g x.1 x.2 (w:Int) (j:Int)with
 |true=>exact⟨λ_=>rfl,λ_=>rfl⟩
 |false=>
  refine⟨λh=>?_,λh=>by cases h⟩;have hm:((x,(w:Int),(j:Int)):mN)∈iL az g x (w:Int) n (j+1)++(iM az g x k m (w+1)++bl):=rk h;rcases cv.1 hm with hm | hm;·obtain⟨-,-,i,ak,-,bz,-⟩:=Vm hm;simp only at ak;omega
  ·rcases cv.1 hm with hm | hm
   ·obtain⟨-,v,ad,-,aK,-⟩:=Vn hm;simp only at aK;omega
   ·exact absurd rfl (af _ hm)
def auH{l:List (Nat×List Int)}{i:Nat}(hi:i<l.length)(aD:l.Nodup):∀ y∈(l.drop (i+1)).flatMap (q3 az g),y.1≠l[i]:=by intro y aC he;obtain⟨x,ab,aC⟩:=hl.1 aC;obtain⟨aa,-⟩:=Vn aC;rw[aa]at he;subst he;have ad:l.drop i=l[i]::l.drop (i+1):=fg hi;have ak:(l.drop i).Nodup:=aD.sublist (List.drop_sublist _ _);rw[ad,lf]at ak;exact ak.1 ab
def auI{J:aH}{b0:Option Addr}{ch:Nat}(bY:s8 J b0 ch L)(Gl:(L.map (·.n)).sum<=274877906944/\L.length<=274877906944)(ai:j+1<L.length){dC:bk}{s:bj}(dk:dC.ok J)(aa:dC.ns=[Jj s.a.toNat s.b.toNat s.c.toNat s.d.toNat])(ad:dC.bC=0){dL:aR}(ot:dL.n=j+1+(L.length-(j+2)))(ny:dL.ok 2 ((L.take j++[dC]).flatMap bk.cells++(L.drop (j+2)).flatMap bk.cells))(bf:∀ b o,J b=some o->hs J dL 56 b=some o) :
  ∃ Jk:List bk,Jk.length=dL.n/\s8 (hs J dL 56) (dL.a.map λg=>⟨g,0,none⟩) dL.c Jk/\Jk.map bI=(L.take j).map bI++ht s::(L.drop (j+2)).map bI:=by
 have kr:k' dC (ht s):=by
  refine⟨?_,?_⟩;·rw[aa];unfold ht;rw[aP.kz];rfl
  ·rw[aa,ad];rfl
 have Dm:=kr.right (J6 s);have vT:=kr.bI (J6 s) (.mk rfl λc ao=>by cases ao);have atI:dC.n=1:=by rw[<-dk.n,aa];rfl
 rw[<-fI]at ny;have pK:(L.take j++[dC]++L.drop (j+2)).length=dL.n:=by simp only[cr,fO,pF,od];omega
 have dB:=Dy (J:=J) (e:=56) (b:=32) ny (by omega);have jX:((L.take j++[dC]++L.drop (j+2)).map (·.n)).sum<=(L.map (·.n)).sum+1:=by have aa:=N8 L j ai;have ad:=congrArg (λl:List bk=>(l.map (·.n)).sum) aa;simp only[cM,oT,b5,hj,hy,zW]at ad |-;omega
 refine⟨_,pK,⟨by rw[pK];exact dB,λt aq=>?_,by omega,by omega⟩,?_⟩
 ·rcases cv.1 aq with aq | aq
  ·rcases cv.1 aq with aq | aq
   ·exact⟨(bY.ok t (sA aq)).1.mono bf,(bY.ok t (sA aq)).2⟩
   ·rw[eN.1 aq];exact⟨dk.mono bf,Dm⟩
  ·exact⟨(bY.ok t (AV aq)).1.mono bf,(bY.ok t (AV aq)).2⟩
 ·rw[cM,cM,b5,hy,vT,dW];rfl
def auJ(be:e2 I dA)(w3:rR I g):v7 Tryz.prog 8 [g.val] I [] λv _ _=>v=.bool true:=by
 refine BU [] aY Tryz.func8 rfl rfl rfl ?_;intro B ay;refine a8.mk [] [] _ (.refl _) (auB w3) ?_;rintro v J N -⟨⟨r,rfl,af⟩,B3,axc⟩;subst J;subst N;cases r with
 |true=>refine bX.mk (λh=>absurd h (by simp)) (λ_=>?_);refine a8.mk [] [] _ (.refl _) (agd be) ?_;rintro v iz N -⟨rfl,hq,rfl⟩;exact⟨_,_,.refl,rfl⟩
 |false=>
 refine bX.mk (λ_=>?_) (λh=>absurd h (by simp));refine a8.mk [] [] _ (.refl _) (agd be) ?_;rintro v iz N -⟨rfl,hq,rfl⟩;refine aX.mk (λh=>by cases h) (λ_=>?_);have xJ:=af rfl;have kw:=be.mono hq;have aw:=(w3.mono hq).Jm xJ;have rY:=atY kw aw xJ;clear w3 af xJ aw;have gG:=af0 (az:=dA) rY.aw.n λd ah=>(rY.aw.ds d ah).t.n;refine a8.xD [] [] _ (.refl _) (af1 rY) ?_;rintro v cA N cO dx⟨-,os,L,rfl,b4,bY,rfl,nv⟩;have h3:=rY.mono cO;have y3:L.length=(vW dA g).length:=by rw[<-nv,bx]
 have A6:os.n=L.length:=by have:=b4.len;rw[gO _ 5 kJ.cL]at this;omega
 have AT:∀ b o,cA b=some o->hs cA os 40 b=some o:=xp dx;have Vo:=Dy (J:=cA) (e:=40) (b:=48) b4 (by omega);have x1:hc [] cA (os.ar 40++[]) (hs cA os 40) []:=Bo (λg _=>by simp);generalize hs cA os 40=kF at Vo AT x1;have Kk:=h3.mono AT;have Vp:∀ x∈L,x.ok kF/\x.ps=5:=λx ab=>⟨(bY x ab).1.mono AT,(bY x ab).2⟩;refine a8.uF kF [] [] _ x1 (Di Kk.aq Kk.aw Kk.ae) ?_;rintro v zh N qe -⟨-,rfl,gV,rfl,mz⟩;have Oz:=U2 mz;refine aX.mk (λao=>?_) (λao=>?_)
 ·have iH:gV.2≠0:=by simpa using ao
  rw[bN iH]at Oz;have qy:os.n=0:=by rw[A6,y3,Oz];rfl
  refine⟨_,_,.refl,?_⟩;simp[qy]
 have iH:gV.2=0:=by simpa using ao
 rw[bT iH]at Oz;obtain⟨F,hw⟩:=mz.J2 rY.aw.n iH;have Gs:=Kk.mono qe;have ua:∀ x∈L,x.ok zh/\x.ps=5:=λx ab=>⟨(Vp x ab).1.mono qe,(Vp x ab).2⟩;have agp:=Vo.mono qe;rw[Oz]at nv y3 gG;refine a8.xD [] [] _ (.refl _) (afx Gs.aq Gs.aw Gs.vB) ?_;rintro v By N Vh agq⟨-,ps,q4,rfl,wG,agr,rfl,q'⟩;rw[bT hw.m]at q';have axd:ps.n=q4.length:=by have:=wG.len;rw[gO _ 2 gJ.cL]at this;omega
 have FW:q4.length<=1048576:=by have aa:=J9 g.ds 0 λd ah=>pq hw.m ah;have ad:=congrArg List.length q';rw[bx]at ad;have:=Gs.vB;omega
 have DL:∀ b o,By b=some o->hs By ps 77 b=some o:=xp agq;have Vq:=Dy (J:=By) (e:=77) (b:=32) wG (by omega);have ags:hc [] By (ps.ar 77++[]) (hs By ps 77) []:=Bo (λg _=>by simp);generalize hs By ps 77=Gt at Vq DL ags;have Vr:∀ b o,zh b=some o->Gt b=some o:=λb o h=>DL _ _ (Vh _ _ h);have auK:=Gs.mono Vr;have agt:∀ x∈L,x.ok Gt/\x.ps=5:=λx ab=>⟨(ua x ab).1.mono Vr,(ua x ab).2⟩;have agu:=agp.mono Vr;have auL:∀ x∈q4,x.ok Gt:=λx ab=>(agr x ab).mono DL;have U5:(xx dA g).drop 0=((q4.map gJ.jf).drop 0).flatMap (q3 dA g):=by rw[qp,qp,q'];rfl
 have auM:(q4.map gJ.jf).Nodup:=by rw[q'];exact(ago g.ds 0).1
 generalize xx dA g=sl at *;clear rY h3 Kk Gs bY Vp ua Vo agp agr b4 wG dx agq x1;generalize yA:(os.a.map λg=>(⟨g,0,none⟩:Addr))=la at agu;generalize Hk:(ps.a.map λg=>(⟨g,0,none⟩:Addr))=axe at Vq;refine dt.inv (ι:=Nat×Nat×aH) (λx=>{ bo:=[(1,.ref 1 0),(3,.val os.val),(4,.val (.int .i64 (x.2.1:Int))),(5,.val ps.val),(6,.val (.int .i64 (x.1:Int)))],cl:=[(1,[.slice g.a g.n g.c])],cH:=x.2.2 }) (λx=>x.1<=ps.n/\(∀ b o,Gt b=some o->x.2.2 b=some o)/\x.2.1<=sl.length/\sl.drop x.2.1=((q4.map gJ.jf).drop x.1).flatMap (q3 dA g)) (λx=>ps.n-x.1) ?_ ?_
 ·exact⟨(0,0,Gt),⟨dp _,λ_ _ h=>h,dp _,U5⟩,ags,hx,.cons rfl (.nil)⟩
 rintro⟨i,n,J⟩⟨hi,a5,aD,ie⟩;simp only at hi a5 aD ie;refine aX.mk (λh=>?_) (λh=>?_)
 rotate_left
 ·have c0:¬ (i:Int)<(ps.n:Int):=dv h;have aI:(q4.map gJ.jf).drop i=[]:=lW (by rw[bx];omega);rw[aI,Ld,Eh]at ie;refine⟨_,_,.refl,?_⟩;have:n=os.n:=by omega
  simp[this]
 have aZ:i<ps.n:=by have:(i:Int)<(ps.n:Int):=cJ h;omega
 have cy:i<q4.length:=by omega
 have Ol:=a5;have vX:=auK.mono a5;obtain⟨aM,bB,Bv⟩:=(Vq.mono (λb o h=>a5 _ _ (h:Gt b=some o))).row (f:=gJ.cells) gJ.cL aZ cy;have j5:=(auL _ (bJ cy)).mono a5;have A':(q4.map gJ.jf).drop i=q4[i].jf::(q4.map gJ.jf).drop (i+1):=by rw[fg (by rw[bx];exact cy),fW]
 have gh:q4[i].jf∈jQ 0 g.ds:=by rw[<-q'];exact vF (bJ cy)
 have BI:=auH (az:=dA) (g:=g) (l:=q4.map gJ.jf) (i:=i) (by rw[bx];exact cy) auM;rw[fW]at BI;rw[A']at ie;generalize q4[i]=x at *;obtain⟨u,path,xa,xc⟩:=x;obtain⟨hu,S,cc⟩:=U3 gh;simp only[gJ.jf]at hu cc ie gh BI;rw[iS]at ie;have vY:cI J xa path.length xc 1 8 (iA path):=j5.a';have nZ:g.ds.getD u kH=g.ds[u]:=by simp[bS,hu]
 have U6:ux g (u,path)=S.sub.length:=by unfold ux;simp only[nZ,cc]
 have fv:sd g (u:Int) path=some S:=by unfold sd;rw[bT (by omega),hH,nZ,cc]
 have U7:=c8 (i:=i) (by omega);have xn:=ae2 (M0:=[]) vX.aq.c vX.aw (J' hw.m vX.aD) (rule:=(u:Int)) vY;rw[fv]at xn;refine bm.mk aM i (Hk.trans bB) rfl aZ ?_;refine aO.mk [.int .i64 (u:Int),.slice xa path.length xc] (Bv _) ?_;refine a8.mk [] _ _ (.refl _) xn ?_;rintro v uq N Va⟨-,rfl,t,rfl,aq,dz,bg,s6⟩;have lK:=dz.right bg;have ir:=dz.bI bg s6;obtain⟨auN,hn⟩:=l4 lK;obtain⟨k,ae⟩:=eG auN;have c7:k<t.ns.length:=by omega
 have afJ:dM S<=1048576:=by have ad:=afZ cc;have ak:=DA (pq hw.m (bJ hu));have aK:=Gm (vF (f:=λd:a3=>d.t.ns.length) (bJ hu));have bz:=vX.vB;omega
 have hk:t.n<=1048576:=by have aa:=congrArg List.length dz.a4;rw[bx,Bq]at aa;have:=aq.n;omega
 have Vs:=vX.aq.mono Va;have Ak:=UK (M0:=[]) Vs aq lK (by omega) ae;have Kl:(t.ns[k].dX []).k=S.d.k:=by rw[<-ir,Gg lK ae c7];rfl
 have m5:=fun {K:aH} (be:e2 K dA) (h:t.ok K)=>aoS (M0:=[]) be h lK ae c7;generalize t.ns[k].dX []=d at Kl m5;refine cT.draw aY rfl rfl rfl ?_;refine eJ.mk _ Ak ?_;rintro v xy N I7⟨-,ho,b0,aG,ch,dm,rfl,dB,Kd,eO⟩;subst N;refine a8.mk [] [] _ (.refl _) (m5 (Vs.mono I7) (aq.mono I7)) ?_;rintro v auO N -⟨rfl,axf,rfl⟩;subst auO;obtain⟨rfl,U8,Bw,Om,U9⟩:=afN aq lK hk ir ae c7 dB Kd eO;have er:S.sub.length=dm.length:=by rw[<-Bw,bx]
 have atU:dm.length<=1048576:=by have:=afY S;omega
 have k9:∀ b o,J b=some o->xy b=some o:=λb o h=>I7 _ _ (Va _ _ h);have auP:=vX.mono k9;have auQ:=vY.mono k9;have agv:∀ x∈L,x.ok xy/\x.ps=5:=λx ab=>⟨(agt x ab).1.mono (λb o h=>k9 _ _ (a5 _ _ h)),(agt x ab).2⟩;have Vt:=agu.mono (λb o h=>k9 _ _ (a5 _ _ h));have Oj:=UC path (N4 (pq hw.m (bJ hu))) cc;rw[show q3 dA g (u,path)=iM dA g (u,path) dm.length 3 1 by unfold q3;rw[U6,er]]at ie;clear eO Kd dB Ak m5 xn Bv bB Vs vX vY j5;generalize pJ:((q4.map gJ.jf).drop (i+1)).flatMap (q3 dA g)=bl at ie BI;refine dt.inv (ι:=Nat×Nat×aH) (λz=>{ bo:=[(1,.ref 1 0),(3,.val os.val),(4,.val (.int .i64 (z.2.1:Int))),(5,.val ps.val),(6,.val (.int .i64 (i:Int))),(7,.ref 7 0),(10,.val (.slice b0 dm.length ch)),(11,.val (.int .u8 d.k)),(12,.val (.int .u8 (z.1:Int)))],cl:=[(1,[.slice g.a g.n g.c]),(7,[.int .i64 (u:Int),.slice xa path.length xc])],cH:=z.2.2 }) (λz=>(1<=z.1/\z.1<=4)/\(∀ b o,xy b=some o->z.2.2 b=some o)/\z.2.1<=sl.length/\sl.drop z.2.1=iM dA g (u,path) dm.length (4-z.1) z.1++bl) (λz=>4-z.1) ?_ ?_
 ·exact⟨(1,n,xy),⟨⟨b' _,show 1<=4 by decide⟩,λ_ _ h=>h,aD,ie⟩,.refl,lV,.cons rfl (.cons rfl (.nil))⟩
 rintro⟨w,jY,K⟩⟨⟨vU,J8⟩,ek,jy,s'⟩;simp only at vU J8 ek jy s';refine aX.mk (λh=>?_) (λh=>?_)
 rotate_left
 ·have c0:¬ (w:Int)<=3:=dv h;obtain rfl:w=4:=by omega
  rw[show 4-4=0 from rfl,iM,hX,<-pJ]at s';refine bd.mk _ U7 ?_;exact⟨(i+1,jY,K),⟨⟨aZ,λb o h=>ek _ _ (k9 _ _ (a5 _ _ h)),jy,s'⟩,by simp only;omega⟩,.refl,hx,.cons rfl (.nil)⟩
 have Oq:w<4:=by have:(w:Int)<=3:=cJ h;omega
 have DH:IntKind.u8.wrap ((w:Int)+1)=((w+1:Nat):Int):=by rw[show((w:Int)+1)=((w+1:Nat):Int) by omega];exact aau _ (by omega)
 rw[show 4-w=(4-(w+1))+1 by omega,iM,dW]at s';refine dt.inv (ι:=Nat×Nat×aH) (λz=>{ bo:=[(1,.ref 1 0),(3,.val os.val),(4,.val (.int .i64 (z.2.1:Int))),(5,.val ps.val),(6,.val (.int .i64 (i:Int))),(7,.ref 7 0),(10,.val (.slice b0 dm.length ch)),(11,.val (.int .u8 d.k)),(12,.val (.int .u8 (w:Int))),(13,.val (.int .i64 (z.1:Int)))],cl:=[(1,[.slice g.a g.n g.c]),(7,[.int .i64 (u:Int),.slice xa path.length xc])],cH:=z.2.2 }) (λz=>z.1<=dm.length/\(∀ b o,K b=some o->z.2.2 b=some o)/\z.2.1<=sl.length/\sl.drop z.2.1=iL dA g (u,path) (w:Int) (dm.length-z.1) z.1++(iM dA g (u,path) dm.length (4-(w+1)) (w+1)++bl)) (λz=>dm.length-z.1) ?_ ?_
 ·exact⟨(0,jY,K),⟨dp _,λ_ _ h=>h,jy,s'⟩,.refl,uL,.cons rfl (.cons rfl (.nil))⟩
 rintro⟨j,eP,Q⟩⟨ai,kM,ot,mi⟩;simp only at ai kM ot mi;have uy:IntKind.i64.wrap ((j:Int)+1)=((j+1:Nat):Int):=c8 (i:=j) (by omega);refine bd.mk _ uy ?_;refine aX.mk (λh=>?_) (λh=>?_)
 rotate_left
 ·have c0:¬ ((j+1:Nat):Int)<(dm.length:Int):=dv h;rw[<-er,auF (x:=(u,path)) hu cc (by omega),hX]at mi;rw[er]at mi;refine bd.mk _ DH ?_;exact⟨(w+1,eP,Q),⟨⟨⟨by omega,Oq⟩,λb o h=>kM _ _ (ek _ _ h),ot,mi⟩,by simp only;omega⟩,.refl,lV,.cons rfl (.cons rfl (.nil))⟩
 have zk:j+1<dm.length:=by have:((j+1:Nat):Int)<(dm.length:Int):=cJ h;omega
 rw[show dm.length-j=(dm.length-(j+1))+1 by omega]at mi;have OA:=auG mi BI;have OB:∀ b o,xy b=some o->Q b=some o:=λb o h=>kM _ _ (ek _ _ h);have Gu:=U8.mono OB;have Gq:=auP.mono OB;obtain⟨lQ,y,kv⟩:∃ (lQ:Addr) (y:kJ),eP<L.length->(la=some lQ/\(∀ M,cR xy M (lQ.add (eP*5)) 5 y.cells)/\sl[eP]?=some y.jf/\cI xy y.a y.path.length y.c 1 8 (iA y.path)/\y.ps=5):=by
  by_cases ei:eP<L.length;·obtain⟨lQ,Km,n1⟩:=Vt.row kJ.cL (by omega) ei;exact⟨lQ,L[eP],λ_=>⟨Km,n1,by rw[<-nv,iB,dg ei];rfl,(agv _ (bJ ei)).1.a',(agv _ (bJ ei)).2⟩⟩
  ·exact⟨⟨0,0,none⟩,⟨0,0,0,[],0,none,0⟩,λh=>absurd h ei⟩
 obtain⟨FE,xz,BA,Gv,rU,agw,agx⟩:=y;have Ov:=auQ.mono OB;have fB:j<dm.length:=by omega
 have fM:=Gu.ok _ (bJ fB);have Gp:=Gu.ok _ (bJ zk);have om:dm[j].n<=1099511627776:=by have aa:=Gm (vF (f:=λt:bk=>t.n) (bJ fB));exact jg aa (jg Om (by decide))
 have sg:=UO (M0:=[]) Gq.aq (w:=(w:Int)) (by omega) fM.1 Gp.1 om;have UY:S.sub[j]'(by omega)=bI dm[j]:=by
  have:S.sub[j]?=(dm.map bI)[j]?:=by rw[Bw]
  rw[dg (by omega),iB,dg fB]at this;exact eX this
 have UZ:S.sub[j+1]'(by omega)=bI dm[j+1]:=by
  have:S.sub[j+1]?=(dm.map bI)[j+1]?:=by rw[Bw]
  rw[dg (by omega),iB,dg zk]at this;exact eX this
 have U0:nx (w:Int) dm[j] dm[j+1]=s7 (w:Int) (S.sub[j]'(by omega)) (S.sub[j+1]'(by omega)):=by unfold nx;rw[fM.2,Gp.2,UY,UZ];rfl
 rw[U0]at sg;have kI:pt (w:Int) (j:Int) S=if S.d.k=g7 (w:Int)then(s7 (w:Int) (S.sub[j]'(by omega)) (S.sub[j+1]'(by omega))).map λs=>lP (g7 (w:Int)) ((dm.take j).map bI++ht s::(dm.drop (j+2)).map bI)else none:=by
  unfold pt;by_cases e:S.d.k=g7 (w:Int)
  ·rw[bT ⟨e,by omega,by omega⟩,bT e];have aI:S.sub.getD ((j:Nat):Int).toNat S=S.sub[j]'(by omega):=by
    show S.sub.getD j S=_;have:j<S.sub.length:=by omega
    simp[bS,this]
   have a6:S.sub.getD (((j:Nat):Int).toNat+1) S=S.sub[j+1]'(by omega):=by
    show S.sub.getD (j+1) S=_;have:j+1<S.sub.length:=by omega
    simp[bS,this]
   have cq:S.sub.take ((j:Nat):Int).toNat=(dm.take j).map bI:=by rw[<-Bw,G4];rfl
   have dS:S.sub.drop (((j:Nat):Int).toNat+2)=(dm.drop (j+2)).map bI:=by rw[<-Bw,G3];rfl
   rw[aI,a6,cq,dS]
  ·rw[bN λh=>e h.1,bN e]
 have nz:=Oi (w:=(w:Int)) (bF:=(j:Int)) hu cc;generalize s7 (w:Int) (S.sub[j]'(by omega)) (S.sub[j+1]'(by omega))=o at sg kI;obtain⟨aM,bB,Kc⟩:=Gu.a'.row (f:=bk.cells) (λ_=>rfl) fB fB;obtain⟨ts,Dj,xu⟩:=Gu.a'.row (f:=bk.cells) (λ_=>rfl) zk zk;have IQ:ts=aM:=by rw[bB]at Dj;exact(eX Dj).symm
 subst IQ;generalize dm[j]=uQ at fM sg Kc;generalize dm[j+1]=Pg at Gp sg xu;have skip:iK dA g u path (w:Int) (j:Int)=false->sl.drop eP=iL dA g (u,path) (w:Int) (dm.length-(j+1)) (j+1)++(iM dA g (u,path) dm.length (4-(w+1)) (w+1)++bl):=λaB=>by have aa:=mi;rw[iL,show iK dA g (u,path).1 (u,path).2 (w:Int) (j:Int)=false from aB]at aa;exact aa
 refine cT.x0 aY rfl rfl rfl (ι:=Nat×bj×Bool×aH) (λz=>{ bo:=[(1,.ref 1 0),(3,.val os.val),(4,.val (.int .i64 (eP:Int))),(5,.val ps.val),(6,.val (.int .i64 (i:Int))),(7,.ref 7 0),(10,.val (.slice b0 dm.length ch)),(11,.val (.int .u8 d.k)),(12,.val (.int .u8 (w:Int))),(13,.val (.int .i64 (j:Int))),(14,.val (ptr z.1)),(15,.val (.bool z.2.2.1))],cl:=[(1,[.slice g.a g.n g.c]),(7,[.int .i64 (u:Int),.slice xa path.length xc])],cH:=z.2.2.2 }) (λz=>(∀ b o,Q b=some o->z.2.2.2 b=some o)/\z.2.2.2 z.1=some (.cells z.2.1.cells.toArray 62 (0,0))/\o=bif z.2.2.1 then some z.2.1 else none) ?_ ?_
 ·refine bm.mk ts j bB rfl (by omega) ?_;refine aO.mk _ (Kc _) ?_;refine bd.mk _ uy ?_;refine bm.mk ts (j+1) bB rfl zk ?_;refine aO.mk _ (xu _) ?_;refine⟨?_,?_⟩
  ·refine a8.mk [] [] _ (.refl _) sg ?_;rintro v H N hU⟨-,rfl,s,b,rfl,aA,-⟩;refine bW.mk λmM s5 Dv=>?_;refine ck.mk [] [] _ _ rfl rfl (bK rfl) rfl ?_;exact⟨(mM,s,b,ins H mM (.cells s.cells.toArray 62 (0,0))),⟨λb o h=>lz s5 _ _ (hU _ _ h),n8 ..,aA⟩,.mP rfl (by simp) .refl,KQ,.cons rfl (.cons rfl (.nil))⟩
  ·refine bW.mk λmM s5 Dv=>?_;refine eJ.xD _ sg ?_;rintro v H N hU sq⟨-,rfl,s,b,rfl,aA,-⟩;have auR:=sq _ (rj _ (.head _));refine ck.mk [] [] _ _ rfl rfl (bK rfl) rfl ?_;exact⟨(mM,s,b,ins H mM (.cells s.cells.toArray 62 (0,0))),⟨λb o h=>lz auR _ _ (hU _ _ h),n8 ..,aA⟩,.mP rfl (by simp) .refl,KQ,.cons rfl (.cons rfl (.nil))⟩
 rintro⟨mM,s,b,H⟩⟨hU,s5,aA⟩;simp only at hU s5 aA;have Kn:∀ b o,K b=some o->H b=some o:=λb o h=>hU _ _ (kM _ _ h);cases b with
 |false=>
  have aB:iK dA g u path (w:Int) (j:Int)=false:=by
   unfold iK;rw[nz,kI,aA];by_cases e:S.d.k=g7 (w:Int);·rw[bT e];rfl
   ·rw[bN e];rfl
  refine bX.mk (λh=>by cases h) (λ_=>?_);refine bd.mk _ uy ?_;exact⟨(j+1,eP,H),⟨⟨by omega,Kn,ot,skip aB⟩,by simp only;omega⟩,.refl,uL,.cons rfl (.cons rfl (.nil))⟩
 |true=>
 have aA:o=some s:=aA;by_cases pQ:S.d.k=g7 (w:Int)
 rotate_left
 ·have aB:=afK (az:=dA) hu cc pQ (j:Int);by_cases Vu:w=1
  ·subst Vu;have bt:¬ d.k=5:=λe=>pQ (by rw[<-Kl,e];rfl);refine bX.mk (λ_=>?_) (λh=>by cases h);refine bX.mk (λ_=>?_) (λh=>by cases h);refine bX.mk (λh=>absurd h (by simp[bt])) (λ_=>?_);refine bd.mk _ uy ?_;exact⟨(j+1,eP,H),⟨⟨by omega,Kn,ot,skip aB⟩,by simp only;omega⟩,.refl,uL,.cons rfl (.cons rfl (.nil))⟩
  ·have bt:¬ d.k=4:=λe=>pQ (by rw[<-Kl,e,g7,bN (by omega)]);refine bX.mk (λ_=>?_) (λh=>by cases h);refine bX.mk (λh=>absurd h (by simp;omega)) (λ_=>?_);refine bX.mk (λ_=>?_) (λh=>absurd h (by simp;omega));refine aX.mk (λ_=>?_) (λh=>absurd h (by simp[bt]));refine bd.mk _ uy ?_;exact⟨(j+1,eP,H),⟨⟨by omega,Kn,ot,skip aB⟩,by simp only;omega⟩,.refl,uL,.cons rfl (.cons rfl (.nil))⟩
 rw[bT pQ,aA]at kI;have kI:pt (w:Int) (j:Int) S=some (lP (g7 (w:Int)) ((dm.take j).map bI++ht s::(dm.drop (j+2)).map bI)):=kI;rw[kI]at nz;have nz:ur g u path (w:Int) (j:Int)=some (lN g u path (lP (g7 (w:Int)) ((dm.take j).map bI++ht s::(dm.drop (j+2)).map bI))):=nz;have xo:=UH (g:=g) Oj kI;have qS:=UI kI;have Kg:iK dA g u path (w:Int) (j:Int)=xq dA g u (lN g u path (lP (g7 (w:Int)) ((dm.take j).map bI++ht s::(dm.drop (j+2)).map bI))):=by unfold iK;rw[nz]
 have OC:=Gu.mono hU;have Vv:=Gq.mono hU;have OD:=Ov.mono hU;have agy:∀ b o,xy b=some o->H b=some o:=λb o h=>hU _ _ (OB _ _ h);have axg:=OC.a'.cap;have Bu:=OC.a'.JD (f:=bk.cells) (λ_=>rfl) (lo:=0) (hi:=j) (by omega) (by omega) rfl;have uw:=OC.a'.JD (f:=bk.cells) (λ_=>rfl) (lo:=j+2) (hi:=dm.length) (by omega) (by omega) rfl;have aI:(if ch=0 then b0 else b0.map (·.add (0*2)))=b0:=by
  split;·rfl
  ·cases b0 with
   |none=>rfl| some aM=>simp[Addr.add]
 rw[aI,qp,Ab,Ab]at Bu;rw[fC (by simp)]at uw;have ef:IntKind.i64.wrap ((j:Int)+2)=((j+2:Nat):Int):=lA (by simp) (by omega);have dk:=Td (I:=H) (Bt s.a) (Bt s.b) (Bt s.c) (Bt s.d);have agz:∀ M,cR H M ⟨mM,0,none⟩ 4 s.cells:=λM=>⟨rfl,_,_,_,.inl s5,rfl,rfl⟩;have agA:∀ {M:List aE},0<j->∃ aM,b0=some aM/\cR H M aM (j*2) ((dm.take j).flatMap bk.cells):=by intro M h;obtain⟨aM,bB,c9,cs,T,an,bA,ao⟩:=Bu.rd.resolve_left (by omega);exact⟨aM,bB,c9,cs,T,an,.inl bA,ao,Bu.len⟩
 have agB:∀ {C6:aH} {M:List aE},(∀ b o,H b=some o->C6 b=some o)->0<dm.length-(j+2)->∃ aM,(if ch=j+2 then b0 else b0.map (·.add ((j+2)*2)))=some aM/\cR C6 M aM ((dm.length-(j+2))*2) ((dm.drop (j+2)).flatMap bk.cells):=by intro C6 M bf h;obtain⟨aM,bB,c9,cs,T,an,bA,ao⟩:=(uw.mono bf).rd.resolve_left (by omega);exact⟨aM,bB,c9,cs,T,an,.inl bA,ao,uw.len⟩
 have rA:=Bu.len;have sF:=uw.len;have kZ:∀ {pu Gw:aH} {dC:bk} {dL:aR},(∀ b o,H b=some o->pu b=some o)->dC.ok pu->dC.ns=[Jj s.a.toNat s.b.toNat s.c.toNat s.d.toNat]->dC.bC=0->dL.n=j+1+(dm.length-(j+2))->dL.ok 2 ((dm.take j++[dC]).flatMap bk.cells++(dm.drop (j+2)).flatMap bk.cells)->(∀ b o,pu b=some o->hs pu dL 56 b=some o)->(∀ b o,hs pu dL 56 b=some o->Gw b=some o) ->
   Spec Tryz.prog 56 [.slice (dL.a.map λg=>⟨g,0,none⟩) dL.n dL.c] Gw [] (nw (some (lP 4 ((dm.take j).map bI++ht s::(dm.drop (j+2)).map bI))) Gw [])/\Spec Tryz.prog 57 [.slice (dL.a.map λg=>⟨g,0,none⟩) dL.n dL.c] Gw [] (nw (some (lP 5 ((dm.take j).map bI++ht s::(dm.drop (j+2)).map bI))) Gw []):=by
  intro pu Gw dC dL bf xv jn Gx ot ny zl DL;obtain⟨Jk,pK,kX,p6⟩:=auI (OC.mono bf) ⟨Om,U9⟩ zk xv jn Gx ot ny zl;have agC:=((Vv.aq.mono bf).mono zl).mono DL;have agD:=afn (M0:=[]) agC (kX.mono DL);have Aj:=afo (M0:=[]) agC (kX.mono DL);rw[pK,p6]at agD Aj;exact⟨agD,Aj⟩
 clear Bu uw sg kI Gu Gq Ov;generalize OE:lP (g7 (w:Int)) ((dm.take j).map bI++ht s::(dm.drop (j+2)).map bI)=OF at *;by_cases Vu:w=1
 ·subst Vu;have Qq:d.k=5:=by rw[Kl,pQ];rfl
  refine bX.mk (λ_=>?_) (λh=>by cases h);refine bX.mk (λ_=>?_) (λh=>by cases h);refine bX.mk (λ_=>?_) (λh=>absurd h (by simp[Qq]));refine bX.mk (λh=>absurd h (by simp)) (λ_=>?_);refine cT.Hh (λi=>Nat.beq i 5) aY rfl rfl rfl ?_;refine jR.mk 0 j rfl rfl (dp _) (by omega) ?_;refine aO.mk _ (agz _) ?_;refine bd.mk _ ef ?_;refine jR.mk (j+2) dm.length rfl rfl (by omega) (by omega) ?_;refine bW.mk λOf afC afD=>?_;intro G fA;refine jC.Ka aY rfl (e:=56) rfl rfl rfl ⟨some Of,0,0,[]⟩ (xs:=[]) ⟨rfl,(λh=>by cases h),λeg _=>⟨rfl,b' _,dp _,rfl⟩⟩ (sc (fA _ (by simp[Op.operands,Call.operands])) rfl) (sc (fA _ (by simp[Op.operands,Call.operands])) rfl) rA agA (Bs _) [] [] rfl (by unfold maxLen;show 0+j<=_;omega) (by show(0+j)*32<=_;omega) ?_;intro nu kx DF;have kx:nu.n=j:=by rw[kx];exact du _
  refine eJ.mk _ dk ?_;rintro v pu N BB⟨-,dC,rfl,xv,jn,Gx,ho⟩;subst N;refine bW.mk λKo auS auT=>?_;intro G fA;refine jC.k5 aY rfl (e:=56) rfl rfl rfl nu DF (sc (fA _ (by simp[Op.operands,Call.operands])) rfl) (sc (fA _ (by simp[Op.operands,Call.operands])) rfl) (cs:=dC.cells) rfl rfl [] [] rfl (by omega) (by show(nu.n+1)*32<=_;omega) ?_;intro eC jy _ ig;have ig:eC.ok 2 ((dm.take j++[dC]).flatMap bk.cells):=by rw[fI,nQ];exact ig
  refine bD.wS aY rfl (by simp) (e:=56) rfl rfl rfl eC ig rfl rfl sF (agB BB) (Bs _) [⟨Ko,.cells dC.cells.toArray 56 (0,0)⟩] [] rfl (by omega) (by show(eC.n+_)*32<=_;omega) ?_;intro dL auU _ ny;refine a8.pC λeF=>?_;have zl:∀ b o,pu b=some o->hs pu dL 56 b=some o:=xp (M:=[]) λy aC=>eF.d y (.tail _ aC);have Kp:hc [] pu (⟨Ko,.cells dC.cells.toArray 56 (0,0)⟩::(dL.ar 56++[])) (hs pu dL 56) []:=.sub (tA _ _) (Bo λg _=>by simp);refine a8.uF _ [] [] _ Kp (kZ BB xv jn Gx (by omega) ny zl λ_ _ h=>h).1 ?_;rintro v axh N agE -⟨-,rfl,axi,rfl,-⟩;refine aX.mk (λ_=>?_) (λh=>absurd h (by simp));refine a8.mk [] [] _ (.refl _) ((kZ BB xv jn Gx (by omega) ny zl agE).2) ?_;rintro v OG N q5⟨-,rfl,x,rfl,ab,uj,j5,iv⟩;have uj:k' x OF:=by rw[<-OE];exact uj
  have j5:eZ OF:=by rw[<-OE];exact j5
  have iv:jd OF:=by rw[<-OE];exact iv
  have Vw:∀ b o,hs pu dL 56 b=some o->OG b=some o:=λb o h=>q5 _ _ (agE _ _ h);have q5:∀ b o,H b=some o->OG b=some o:=λb o h=>Vw _ _ (zl _ _ (BB _ _ h));have pw:=Vv.mono q5;have Vx:=uj.bI j5 iv;have vY:=uj.right j5;have om:x.n<=549755813888:=by have aa:=congrArg List.length uj.a4;rw[bx,Bq]at aa;have:=ab.n;omega
  have xw:=UA (M0:=[]) pw.aq pw.aw (J' hw.m pw.aD) pw.ag ab vY om (rule:=(u:Int)) (OD.mono q5);rw[Vx,UU hu cc]at xw;refine a8.mk [] [] _ (.refl _) xw ?_;rintro v vZ N zm⟨-,rfl,h,t2,rfl,cG,q1,eh,uv,iE,afI⟩;rw[hH]at eh;have aL:=UT hw (λd ah=>(pw.aw.ds d ah).t.n) pw.aD hu cc xo (by omega) cG q1 eh uv;have DM:∀ b o,xy b=some o->vZ b=some o:=λb o h=>zm _ _ (q5 _ _ (agy _ _ h));have Kq:∀ b o,K b=some o->vZ b=some o:=λb o h=>zm _ _ (q5 _ _ (Kn _ _ h));have auV:=Vt.mono DM;have DN:=(pw.aq.mono zm);have Vy:=(OD.mono q5).mono zm;have Kr:=Kg.trans aL.2.2.2.1;have Vz:=aL.2.2.1;have iy:=aL.2.1;have Ks:=aL.2.2.2.2;clear xw Kp pw aL;have DO:sl[eP]?=some ((u,path),((1:Nat):Int),(j:Int)) ↔ c6 dA h=0:=by rw[OA];show iK dA g u path ((1:Nat):Int) (j:Int)=true ↔ _;rw[Kr,S7]
  have VA:IntKind.i64.wrap ((eP:Int)+1)=((eP+1:Nat):Int):=c8 (i:=eP) (by omega);have fv:sl[eP]?=some ((u,path),((1:Nat):Int),(j:Int))->eP<sl.length/\sl.drop (eP+1)=iL dA g (u,path) ((1:Nat):Int) (dm.length-(j+1)) (j+1)++(iM dA g (u,path) dm.length (4-(1+1)) (1+1)++bl):=λe=>by
   have aa:=mi;rw[iL,show iK dA g (u,path).1 (u,path).2 ((1:Nat):Int) (j:Int)=true from OA.1 e]at aa;have ad:sl.drop (eP+1)=(sl.drop eP).drop 1:=by rw[zA]
   refine⟨(hG.1 e).1,?_⟩;rw[ad,aa];rfl
  have xW:c6 dA h≠0->sl.drop eP=iL dA g (u,path) ((1:Nat):Int) (dm.length-(j+1)) (j+1)++(iM dA g (u,path) dm.length (4-(1+1)) (1+1)++bl):=λe=>skip (Kr.trans (eY e));refine cT.x0 aY rfl rfl rfl (ι:=Bool) (λz=>{ bo:=[(1,.ref 1 0),(3,.val os.val),(4,.val (.int .i64 (eP:Int))),(5,.val ps.val),(6,.val (.int .i64 (i:Int))),(7,.ref 7 0),(10,.val (.slice b0 dm.length ch)),(11,.val (.int .u8 d.k)),(12,.val (.int .u8 ((1:Nat):Int))),(13,.val (.int .i64 (j:Int))),(19,.ref 19 0),(21,.val (.bool z))],cl:=[(1,[.slice g.a g.n g.c]),(7,[.int .i64 (u:Int),.slice xa path.length xc]),(19,[.slice h.a h.n h.c])],cH:=vZ }) (λz=>z=decide (c6 dA h=0)) ?_ ?_
  ·by_cases ei:eP<L.length
   rotate_left
   ·refine bX.mk (λh=>absurd h (by simp;omega)) (λ_=>?_);have eK:c6 dA h≠0:=λe=>by have:=(hG.1 (DO.2 e)).1;omega
    exact⟨false,(eY eK).symm,.refl,.cons .refl (.cons .refl (.cons .refl (.cons .refl (.cons .refl (.cons .refl (.cons .refl (.cons .refl (.cons .refl (.cons .refl (.cons .refl (.cons .lit .nil))))))))))),.cons rfl (.cons rfl (.cons rfl (.nil)))⟩
   have Km:=(kv ei).1;have n1:∀ M,cR vZ M (lQ.add (eP*5)) 5 [.int .u8 FE,.int .u8 xz,.int .i64 BA,.slice agw Gv.length agx,.int .i64 rU]:=λM=>((kv ei).2.1 M).mono DM;have VB:=(kv ei).2.2.1;have Gr:=(kv ei).2.2.2.1.mono DM;have VC:FE=5:=(kv ei).2.2.2.2;have DP:(((BA,Gv),xz,rU):mN)=((u,path),((1:Nat):Int),(j:Int)) ↔ c6 dA h=0:=by rw[<-DO,VB];exact⟨λe=>congrArg some e,λe=>eX e⟩
   have VD:=agm (I:=vZ) (M0:=[]) (r:=(BA:Int)) (r':=(u:Int)) Gr Vy;have px:=yA.trans Km;have py:eP<os.n:=by omega
   have VE:xz≠((1:Nat):Int)->c6 dA h≠0:=λbt e=>bt (congrArg (λz:mN=>z.2.1) (DP.2 e));have pC:rU≠(j:Int)->c6 dA h≠0:=λbt e=>bt (congrArg (λz:mN=>z.2.2) (DP.2 e));have VF:xz=((1:Nat):Int)->rU=(j:Int)->∀ z:Int,(z=0 ↔ (BA:Int)=(u:Int)/\Gv=path)->decide (z=0)=decide (c6 dA h=0):=λaI a6 z bb=>decide_eq_decide.2 (by rw[bb,<-DP,ym,ym,ym];exact⟨λe=>⟨⟨by omega,e.2⟩,aI,a6⟩,λe=>⟨by omega,e.1.2⟩⟩);by_cases v0:xz=((1:Nat):Int)
   rotate_left
   ·refine bX.mk (λ_=>?_) (λh=>absurd h (by simp;omega));refine bm.mk lQ eP px rfl py ?_;refine aO.mk _ ((n1 _).part (k:=1) (m:=1) (by decide)) ?_;refine bX.mk (λh=>absurd (cJ h) v0) (λ_=>?_);exact⟨false,(eY (VE v0)).symm,.refl,.cons .refl (.cons .refl (.cons .refl (.cons .refl (.cons .refl (.cons .refl (.cons .refl (.cons .refl (.cons .refl (.cons .refl (.cons .refl (.cons .lit .nil))))))))))),.cons rfl (.cons rfl (.cons rfl (.nil)))⟩
   by_cases tU:rU=(j:Int)
   rotate_left
   ·refine bX.mk (λ_=>?_) (λh=>absurd h (by simp;omega));refine bm.mk lQ eP px rfl py ?_;refine aO.mk _ ((n1 _).part (k:=1) (m:=1) (by decide)) ?_;refine bX.mk (λ_=>?_) (λh=>absurd h (by simp[v0]));refine bm.mk lQ eP px rfl py ?_;refine aO.mk _ ((n1 _).part (k:=4) (m:=1) (by decide)) ?_;refine bX.mk (λh=>absurd (cJ h) tU) (λ_=>?_);exact⟨false,(eY (pC tU)).symm,.refl,.cons .refl (.cons .refl (.cons .refl (.cons .refl (.cons .refl (.cons .refl (.cons .refl (.cons .refl (.cons .refl (.cons .refl (.cons .refl (.cons .lit .nil))))))))))),.cons rfl (.cons rfl (.cons rfl (.nil)))⟩
   refine bX.mk (λ_=>?_) (λh=>absurd h (by simp;omega));refine bm.mk lQ eP px rfl py ?_;refine aO.mk _ ((n1 _).part (k:=1) (m:=1) (by decide)) ?_;refine bX.mk (λ_=>?_) (λh=>absurd h (by simp[v0]));refine bm.mk lQ eP px rfl py ?_;refine aO.mk _ ((n1 _).part (k:=4) (m:=1) (by decide)) ?_;refine bX.mk (λ_=>?_) (λh=>absurd h (by simp[tU]));refine bm.mk lQ eP px rfl py ?_;refine aO.mk _ ((n1 _).part (k:=0) (m:=1) (by decide)) ?_;refine bX.mk (λ_=>?_) (λh=>absurd h (by simp[VC]));refine bm.mk lQ eP px rfl py ?_;refine aO.mk _ ((n1 _).part (k:=2) (m:=1) (by decide)) ?_;refine bm.mk lQ eP px rfl py ?_;refine aO.mk _ ((n1 _).part (k:=3) (m:=1) (by decide)) ?_;refine a8.mk [] [] _ (.refl _) VD ?_;rintro v zn N -⟨ta,rfl,z,rfl,bb⟩;subst zn;exact⟨decide (z=0),VF v0 tU z bb,.refl,KQ,.cons rfl (.cons rfl (.cons rfl (.nil)))⟩
  intro z bb;cases z with
  |true=>have iH:c6 dA h=0:=cJ bb.symm;have Kt:=fv (DO.2 iH);refine a8.mk [] [] _ (.refl _) (Di DN cG iy) ?_;rintro v zn N ta⟨-,rfl,zo,rfl,DQ⟩;have mz:=(Ks zo DQ).2 iH;refine bX.mk (λ_=>?_) (λh=>absurd h (by simp[mz]));refine bX.mk (λh=>by cases h) (λ_=>?_);refine aX.mk (λ_=>?_) (λh=>by cases h);refine bd.mk _ VA ?_;refine bd.mk _ uy ?_;exact⟨(j+1,eP+1,zn),⟨⟨by omega,λb o h=>ta _ _ (Kq _ _ h),by have:=Kt.1;simp only;omega,Kt.2⟩,by simp only;omega⟩,.refl,uL,.cons rfl (.cons rfl (.nil))⟩
  |false=>have iH:c6 dA h≠0:=dv bb.symm;have VG:c6 dA h=40:=Vz.resolve_left iH;have Dz:=fun {H:aH} (be:e2 H dA) (cG:h.ok H)=>Lz be cG;rw[VG]at Dz;refine a8.mk [] [] _ (.refl _) (Di DN cG iy) ?_;rintro v zn N ta⟨-,rfl,zo,rfl,DQ⟩;have mz:¬ zo.2=0:=λe=>iH ((Ks zo DQ).1 e);refine bX.mk (λ_=>?_) (λh=>absurd h (by simp[mz]));refine bX.mk (λ_=>?_) (λh=>by cases h);refine a8.mk [] [] _ (.refl _) (Dz (DN.mono ta) (cG.mono ta)) ?_;rintro v VH N -⟨rfl,VI,rfl⟩;refine aX.mk (λh=>by cases h) (λ_=>?_);refine aX.mk (λh=>by cases h) (λ_=>?_);refine bd.mk _ uy ?_;exact⟨(j+1,eP,VH),⟨⟨by omega,λb o h=>VI _ _ (ta _ _ (Kq _ _ h)),ot,xW iH⟩,by simp only;omega⟩,.refl,uL,.cons rfl (.cons rfl (.nil))⟩
 ·have HX:d.k=4:=by rw[Kl,pQ,g7,bN (by omega)]
  refine bX.mk (λ_=>?_) (λh=>by cases h);refine bX.mk (λh=>absurd h (by simp;omega)) (λ_=>?_);refine bX.mk (λ_=>?_) (λh=>absurd h (by simp;omega));refine aX.mk (λh=>absurd h (by simp[HX])) (λ_=>?_);refine cT.Hh (λi=>Nat.beq i 5) aY rfl rfl rfl ?_;refine jR.mk 0 j rfl rfl (dp _) (by omega) ?_;refine aO.mk _ (agz _) ?_;refine bd.mk _ ef ?_;refine jR.mk (j+2) dm.length rfl rfl (by omega) (by omega) ?_;refine bW.mk λOf afC afD=>?_;intro G fA;refine jC.Ka aY rfl (e:=56) rfl rfl rfl ⟨some Of,0,0,[]⟩ (xs:=[]) ⟨rfl,(λh=>by cases h),λeg _=>⟨rfl,b' _,dp _,rfl⟩⟩ (sc (fA _ (by simp[Op.operands,Call.operands])) rfl) (sc (fA _ (by simp[Op.operands,Call.operands])) rfl) rA agA (Bs _) [] [] rfl (by unfold maxLen;show 0+j<=_;omega) (by show(0+j)*32<=_;omega) ?_;intro nu kx DF;have kx:nu.n=j:=by rw[kx];exact du _
  refine eJ.mk _ dk ?_;rintro v pu N BB⟨-,dC,rfl,xv,jn,Gx,ho⟩;subst N;refine bW.mk λKo auS auT=>?_;intro G fA;refine jC.k5 aY rfl (e:=56) rfl rfl rfl nu DF (sc (fA _ (by simp[Op.operands,Call.operands])) rfl) (sc (fA _ (by simp[Op.operands,Call.operands])) rfl) (cs:=dC.cells) rfl rfl [] [] rfl (by omega) (by show(nu.n+1)*32<=_;omega) ?_;intro eC jy _ ig;have ig:eC.ok 2 ((dm.take j++[dC]).flatMap bk.cells):=by rw[fI,nQ];exact ig
  refine bD.wS aY rfl (by simp) (e:=56) rfl rfl rfl eC ig rfl rfl sF (agB BB) (Bs _) [⟨Ko,.cells dC.cells.toArray 56 (0,0)⟩] [] rfl (by omega) (by show(eC.n+_)*32<=_;omega) ?_;intro dL auU _ ny;refine a8.pC λeF=>?_;have zl:∀ b o,pu b=some o->hs pu dL 56 b=some o:=xp (M:=[]) λy aC=>eF.d y (.tail _ aC);have Kp:hc [] pu (⟨Ko,.cells dC.cells.toArray 56 (0,0)⟩::(dL.ar 56++[])) (hs pu dL 56) []:=.sub (tA _ _) (Bo λg _=>by simp);refine a8.uF _ [] [] _ Kp (kZ BB xv jn Gx (by omega) ny zl λ_ _ h=>h).1 ?_;rintro v OG N q5 -⟨-,rfl,x,rfl,ab,uj,j5,iv⟩;have aeY:lP 4 ((dm.take j).map bI++ht s::(dm.drop (j+2)).map bI)=OF:=by rw[<-OE,g7,bN (by omega)]
  rw[aeY]at uj j5 iv;refine aX.mk (λh=>absurd h (by simp;omega)) (λ_=>?_);have Vw:=q5;have q5:∀ b o,H b=some o->OG b=some o:=λb o h=>Vw _ _ (zl _ _ (BB _ _ h));have pw:=Vv.mono q5;have Vx:=uj.bI j5 iv;have vY:=uj.right j5;have om:x.n<=549755813888:=by have aa:=congrArg List.length uj.a4;rw[bx,Bq]at aa;have:=ab.n;omega
  have xw:=UA (M0:=[]) pw.aq pw.aw (J' hw.m pw.aD) pw.ag ab vY om (rule:=(u:Int)) (OD.mono q5);rw[Vx,UU hu cc]at xw;refine a8.mk [] [] _ (.refl _) xw ?_;rintro v vZ N zm⟨-,rfl,h,t2,rfl,cG,q1,eh,uv,iE,afI⟩;rw[hH]at eh;have aL:=UT hw (λd ah=>(pw.aw.ds d ah).t.n) pw.aD hu cc xo (by omega) cG q1 eh uv;have DM:∀ b o,xy b=some o->vZ b=some o:=λb o h=>zm _ _ (q5 _ _ (agy _ _ h));have Kq:∀ b o,K b=some o->vZ b=some o:=λb o h=>zm _ _ (q5 _ _ (Kn _ _ h));have auV:=Vt.mono DM;have DN:=(pw.aq.mono zm);have Vy:=(OD.mono q5).mono zm;have Kr:=Kg.trans aL.2.2.2.1;have Vz:=aL.2.2.1;have iy:=aL.2.1;have Ks:=aL.2.2.2.2;clear xw Kp pw aL;have DO:sl[eP]?=some ((u,path),(w:Int),(j:Int)) ↔ c6 dA h=0:=by rw[OA];show iK dA g u path (w:Int) (j:Int)=true ↔ _;rw[Kr,S7]
  have VA:IntKind.i64.wrap ((eP:Int)+1)=((eP+1:Nat):Int):=c8 (i:=eP) (by omega);have fv:sl[eP]?=some ((u,path),(w:Int),(j:Int))->eP<sl.length/\sl.drop (eP+1)=iL dA g (u,path) (w:Int) (dm.length-(j+1)) (j+1)++(iM dA g (u,path) dm.length (4-(w+1)) (w+1)++bl):=λe=>by
   have aa:=mi;rw[iL,show iK dA g (u,path).1 (u,path).2 (w:Int) (j:Int)=true from OA.1 e]at aa;have ad:sl.drop (eP+1)=(sl.drop eP).drop 1:=by rw[zA]
   refine⟨(hG.1 e).1,?_⟩;rw[ad,aa];rfl
  have xW:c6 dA h≠0->sl.drop eP=iL dA g (u,path) (w:Int) (dm.length-(j+1)) (j+1)++(iM dA g (u,path) dm.length (4-(w+1)) (w+1)++bl):=λe=>skip (Kr.trans (eY e));refine cT.x0 aY rfl rfl rfl (ι:=Bool) (λz=>{ bo:=[(1,.ref 1 0),(3,.val os.val),(4,.val (.int .i64 (eP:Int))),(5,.val ps.val),(6,.val (.int .i64 (i:Int))),(7,.ref 7 0),(10,.val (.slice b0 dm.length ch)),(11,.val (.int .u8 d.k)),(12,.val (.int .u8 (w:Int))),(13,.val (.int .i64 (j:Int))),(19,.ref 19 0),(21,.val (.bool z))],cl:=[(1,[.slice g.a g.n g.c]),(7,[.int .i64 (u:Int),.slice xa path.length xc]),(19,[.slice h.a h.n h.c])],cH:=vZ }) (λz=>z=decide (c6 dA h=0)) ?_ ?_
  ·by_cases ei:eP<L.length
   rotate_left
   ·refine bX.mk (λh=>absurd h (by simp;omega)) (λ_=>?_);have eK:c6 dA h≠0:=λe=>by have:=(hG.1 (DO.2 e)).1;omega
    exact⟨false,(eY eK).symm,.refl,.cons .refl (.cons .refl (.cons .refl (.cons .refl (.cons .refl (.cons .refl (.cons .refl (.cons .refl (.cons .refl (.cons .refl (.cons .refl (.cons .lit .nil))))))))))),.cons rfl (.cons rfl (.cons rfl (.nil)))⟩
   have Km:=(kv ei).1;have n1:∀ M,cR vZ M (lQ.add (eP*5)) 5 [.int .u8 FE,.int .u8 xz,.int .i64 BA,.slice agw Gv.length agx,.int .i64 rU]:=λM=>((kv ei).2.1 M).mono DM;have VB:=(kv ei).2.2.1;have Gr:=(kv ei).2.2.2.1.mono DM;have VC:FE=5:=(kv ei).2.2.2.2;have DP:(((BA,Gv),xz,rU):mN)=((u,path),(w:Int),(j:Int)) ↔ c6 dA h=0:=by rw[<-DO,VB];exact⟨λe=>congrArg some e,λe=>eX e⟩
   have VD:=agm (I:=vZ) (M0:=[]) (r:=(BA:Int)) (r':=(u:Int)) Gr Vy;have px:=yA.trans Km;have py:eP<os.n:=by omega
   have VE:xz≠(w:Int)->c6 dA h≠0:=λbt e=>bt (congrArg (λz:mN=>z.2.1) (DP.2 e));have pC:rU≠(j:Int)->c6 dA h≠0:=λbt e=>bt (congrArg (λz:mN=>z.2.2) (DP.2 e));have VF:xz=(w:Int)->rU=(j:Int)->∀ z:Int,(z=0 ↔ (BA:Int)=(u:Int)/\Gv=path)->decide (z=0)=decide (c6 dA h=0):=λaI a6 z bb=>decide_eq_decide.2 (by rw[bb,<-DP,ym,ym,ym];exact⟨λe=>⟨⟨by omega,e.2⟩,aI,a6⟩,λe=>⟨by omega,e.1.2⟩⟩);by_cases v0:xz=(w:Int)
   rotate_left
   ·refine bX.mk (λ_=>?_) (λh=>absurd h (by simp;omega));refine bm.mk lQ eP px rfl py ?_;refine aO.mk _ ((n1 _).part (k:=1) (m:=1) (by decide)) ?_;refine bX.mk (λh=>absurd (cJ h) v0) (λ_=>?_);exact⟨false,(eY (VE v0)).symm,.refl,.cons .refl (.cons .refl (.cons .refl (.cons .refl (.cons .refl (.cons .refl (.cons .refl (.cons .refl (.cons .refl (.cons .refl (.cons .refl (.cons .lit .nil))))))))))),.cons rfl (.cons rfl (.cons rfl (.nil)))⟩
   by_cases tU:rU=(j:Int)
   rotate_left
   ·refine bX.mk (λ_=>?_) (λh=>absurd h (by simp;omega));refine bm.mk lQ eP px rfl py ?_;refine aO.mk _ ((n1 _).part (k:=1) (m:=1) (by decide)) ?_;refine bX.mk (λ_=>?_) (λh=>absurd h (by simp[v0]));refine bm.mk lQ eP px rfl py ?_;refine aO.mk _ ((n1 _).part (k:=4) (m:=1) (by decide)) ?_;refine bX.mk (λh=>absurd (cJ h) tU) (λ_=>?_);exact⟨false,(eY (pC tU)).symm,.refl,.cons .refl (.cons .refl (.cons .refl (.cons .refl (.cons .refl (.cons .refl (.cons .refl (.cons .refl (.cons .refl (.cons .refl (.cons .refl (.cons .lit .nil))))))))))),.cons rfl (.cons rfl (.cons rfl (.nil)))⟩
   refine bX.mk (λ_=>?_) (λh=>absurd h (by simp;omega));refine bm.mk lQ eP px rfl py ?_;refine aO.mk _ ((n1 _).part (k:=1) (m:=1) (by decide)) ?_;refine bX.mk (λ_=>?_) (λh=>absurd h (by simp[v0]));refine bm.mk lQ eP px rfl py ?_;refine aO.mk _ ((n1 _).part (k:=4) (m:=1) (by decide)) ?_;refine bX.mk (λ_=>?_) (λh=>absurd h (by simp[tU]));refine bm.mk lQ eP px rfl py ?_;refine aO.mk _ ((n1 _).part (k:=0) (m:=1) (by decide)) ?_;refine bX.mk (λ_=>?_) (λh=>absurd h (by simp[VC]));refine bm.mk lQ eP px rfl py ?_;refine aO.mk _ ((n1 _).part (k:=2) (m:=1) (by decide)) ?_;refine bm.mk lQ eP px rfl py ?_;refine aO.mk _ ((n1 _).part (k:=3) (m:=1) (by decide)) ?_;refine a8.mk [] [] _ (.refl _) VD ?_;rintro v zn N -⟨ta,rfl,z,rfl,bb⟩;subst zn;exact⟨decide (z=0),VF v0 tU z bb,.refl,KQ,.cons rfl (.cons rfl (.cons rfl (.nil)))⟩
  intro z bb;cases z with
  |true=>have iH:c6 dA h=0:=cJ bb.symm;have Kt:=fv (DO.2 iH);refine a8.mk [] [] _ (.refl _) (Di DN cG iy) ?_;rintro v zn N ta⟨-,rfl,zo,rfl,DQ⟩;have mz:=(Ks zo DQ).2 iH;refine bX.mk (λ_=>?_) (λh=>absurd h (by simp[mz]));refine bX.mk (λh=>by cases h) (λ_=>?_);refine aX.mk (λ_=>?_) (λh=>by cases h);refine bd.mk _ VA ?_;refine bd.mk _ uy ?_;exact⟨(j+1,eP+1,zn),⟨⟨by omega,λb o h=>ta _ _ (Kq _ _ h),by have:=Kt.1;simp only;omega,Kt.2⟩,by simp only;omega⟩,.refl,uL,.cons rfl (.cons rfl (.nil))⟩
  |false=>have iH:c6 dA h≠0:=dv bb.symm;have VG:c6 dA h=40:=Vz.resolve_left iH;have Dz:=fun {H:aH} (be:e2 H dA) (cG:h.ok H)=>Lz be cG;rw[VG]at Dz;refine a8.mk [] [] _ (.refl _) (Di DN cG iy) ?_;rintro v zn N ta⟨-,rfl,zo,rfl,DQ⟩;have mz:¬ zo.2=0:=λe=>iH ((Ks zo DQ).1 e);refine bX.mk (λ_=>?_) (λh=>absurd h (by simp[mz]));refine bX.mk (λ_=>?_) (λh=>by cases h);refine a8.mk [] [] _ (.refl _) (Dz (DN.mono ta) (cG.mono ta)) ?_;rintro v VH N -⟨rfl,VI,rfl⟩;refine aX.mk (λh=>by cases h) (λ_=>?_);refine aX.mk (λh=>by cases h) (λ_=>?_);refine bd.mk _ uy ?_;exact⟨(j+1,eP,VH),⟨⟨by omega,λb o h=>VI _ _ (ta _ _ (Kq _ _ h)),ot,xW iH⟩,by simp only;omega⟩,.refl,uL,.cons rfl (.cons rfl (.nil))⟩
end Go.V
