/- Part 5 of what the proofs of this seat share: the executor, data in memory, walks.
-/
import Derived.Test.YtjambecdkaahmaaGreatDoorK4
import Derived.Test.YtjambecdkaahmaaGreatDoorK2
set_option linter.all false
set_option maxHeartbeats 8000000
set_option maxRecDepth 100000
namespace Go.V
open Go Go.Proofs
def As:=@List.length_singleton
def Gt:=@List.getElem?_of_mem
def C5:=@List.flatMap_map
def KB:=@List.getElem_set_self
def Gu:=@decide_eq_decide
def KD:=@List.reverse_append
def KE:=@Int.natCast_nonneg
def KF:=@Function.comp_def
def KG:=@List.range_succ
def Gv:=@Nat.lt_or_ge
variable{I J I':aS}{M M0:List ay}{aJ xs cs vs:List Value}{L eB:List Nat}{t:ef}{α R:Type}{os:bk}{F:List aZ}{K:c6->aS->List ay->Prop}{x:Operand}{dc aD:dz}{b9 c' bt:Nat}{y:BitVec 64}{kk:Option Addr}{nv rv rwv:Value}{kb:List (Nat×List Nat)}{pl:List (ByteArray×Int)}
def b4(k:Nat):Value:=.int .i64 (k:Int)
def cZ(g:Nat)(aJ:List Value):ay:=⟨g,.cells aJ.toArray 3 (0,0)⟩
def C6:List Value:=[138,139,140,141,142,143,144,145,146,147].map λf=>.func (.func f) #[] #[]
def aaN:Spec Tryz.prog 92 [] I M λv I' M'=>v=.agg C6.toArray/\I'=I/\M'=M:=by refine bX [] aV Tryz.func92 rfl rfl rfl ?_;intro B ao;exact⟨_,_,.refl,rfl,rfl,rfl⟩
def aaO{g:Nat}(a4:cZ g aJ∈M){i:Nat}{m:Nat}(al:(aJ.drop i).take (m-i)=(L.drop i).map b4)(hm:L.length=m)(hi:i<m):ca I M ((⟨g,0,none⟩:Addr).add (i*1)) 1 [b4 (L[i]'(by omega))]:=by
 rw[dS _ rfl];have yC:i<L.length:=by omega
 refine⟨rfl,aJ.toArray,3,(0,0),.inr ⟨_,a4,rfl,rfl⟩,?_,rfl⟩;have e:((aJ.drop i).take (m-i)).take 1=[b4 L[i]]:=by rw[al,<-List.map_take,fg yC,qI,pR];rfl
 rw[sZ,Bs (by omega)]at e;show(aJ.drop (0+i*1)).take 1=_;rw[dk,kd];exact e
def KH(h:aJ.take L.length=L.map b4)(ar:L.length<aJ.length)(k:Nat):(bu aJ (L.length*1) [b4 k]).length=aJ.length/\(bu aJ (L.length*1) [b4 k]).take (L++[k]).length=(L++[k]).map b4 /\
  ∀ i,L.length+1<=i->(bu aJ (L.length*1) [b4 k]).drop i=aJ.drop i:=by
 rw[kd,aal _ _ _ ar];refine⟨yp,?_,λi hi=>?_⟩
 ·rw[cU,As,hU (by rw[yp];exact ar),KB,List.take_set_of_le (cC _),h,gX];rfl
 ·rw[List.drop_set_of_lt (by omega)]
def aaP{D:List Nat}(h:aJ.take D.length=D.map b4)(ar:D.length+L.length<=aJ.length):(bu aJ (D.length*1) (L.map b4)).length=aJ.length/\(bu aJ (D.length*1) (L.map b4)).take (D++L).length=(D++L).map b4:=by
 rw[kd];unfold bu;rw[h,<-gX];refine⟨?_,?_⟩
 ·simp only[cU,eX,vR];omega
 ·have e:(D++L).length=((D++L).map b4).length:=by rw[eX]
  rw[e];exact zI
def aaQ{T:Nat->Nat->b2}{k a:Nat}(ae:k<t.nn)(ao:t.n0<=k)(aC:a<t.w)(c:b2):bu (t.cs T) ((k-t.n0)*(t.w*4)+a*4) c.cells=t.cs (fu T k a c):=by
 unfold ef.cs;have q3:∀ j,bu (ls T (t.n0+j) t.w) (a*4+0) c.cells=(((List.range t.w).map λb=>(T (t.n0+j) b)).set a c).flatMap b2.cells:=λj=>by
  have:=Kx b2.cells 4 b2.de ((List.range t.w).map λb=>(T (t.n0+j) b)) a (by simpa using aC) 0 c.cells (by rw[b2.de];omega) c (by
   unfold bu;rw[pR,mT,ir (by rw[b2.de,b2.de];omega),dF])
  rw[C5]at this;exact this
 have aw:((List.range (t.nn-t.n0)).flatMap λj=>ls T (t.n0+j) t.w)=(((List.range (t.nn-t.n0)).map λj=>(⟨ls T (t.n0+j) t.w,yA T _ t.w⟩:{l:List Value // l.length=t.w*4})).flatMap λr=>r.1):=by rw[C5]
 have bV:(bu (ls T k t.w) (a*4) c.cells).length=t.w*4:=by unfold bu;simp only[cU,ma,vR,yA,b2.de];omega
 rw[aw];have aaR:=Kx (λr:{l:List Value // l.length=t.w*4}=>r.1) (t.w*4) (λr=>r.2) ((List.range (t.nn-t.n0)).map λj=>⟨ls T (t.n0+j) t.w,yA T _ t.w⟩) (k-t.n0) (by simp;omega) (a*4) c.cells (by rw[b2.de];omega) ⟨bu (ls T k t.w) (a*4) c.cells,bV⟩ (by
  simp only[lE,ph];rw[wa ao])
 rw[aaR];rw[show((List.range (t.nn-t.n0)).flatMap λj=>ls (fu T k a c) (t.n0+j) t.w)=(((List.range (t.nn-t.n0)).map λj=>(⟨ls (fu T k a c) (t.n0+j) t.w,yA _ _ t.w⟩:{l:List Value // l.length=t.w*4})).flatMap λr=>r.1) by rw[C5]];congr 1;refine uD (by simp) λj U aa=>?_;simp only[eX,r3]at aa;rw[lE,ph];by_cases e:k-t.n0=j
 ·subst e;rw[KB];refine Subtype.ext ?_;simp only;rw[wa ao];have af:=q3 (k-t.n0);rw[wa ao,qn]at af;rw[af];have aR:ls (fu T k a c) k t.w=((List.range t.w).map λb=>fu T k a c k b).flatMap b2.cells:=by rw[C5];rfl
  rw[aR];congr 1;refine uD (by simp) λb aT aU=>?_;simp only[eX,r3]at aU;rw[lE,ph];by_cases C7:a=b;·subst C7;rw[KB,Aq]
  ·rw[List.getElem_set_ne C7,lE,ph,u6 λx=>C7 x.2.symm]
 ·rw[List.getElem_set_ne e,lE,ph];refine Subtype.ext ?_;simp only;unfold ls;congr 1;funext b;rw[u6 λx=>e (by omega)]
def ef.ok.ra{T k3:Nat->Nat->b2}(h:t.ok I T)(he:∀ k,k<t.n0->∀ a,k3 k a=T k a):t.ok I k3:=by refine { h with c3:=λk ae ao=>?_ };obtain⟨cs,fK,aj,U,aa⟩:=h.c3 k ae ao;refine⟨cs,fK,aj,U,aa.trans ?_⟩;unfold ls;congr 1;funext a;rw[he k ao a]
def kW(g c:Nat){n m:Nat}(h:n=m):sL (.val (.slice (some ⟨g,0,none⟩) n c)) (.val (.slice (some ⟨g,0,none⟩) m c)):=by rw[h];exact .refl
structure Gw(I:aS)(t:ef)(fK:Nat->Nat->b2)(eB:List Nat)(a:Nat):Prop where
 ok:t.ok I fK
 inv:hR t.P t.nn fK
 ch:∀ k,k<t.nn->tt t.P t.nn k
 na:∀ k,tu t.P k
 n0:t.n0<t.nn
 lo:∀ k∈eB,t.n0<=k/\k<t.nn
 a:a<=t.s.size
structure Gx where
 T:Nat->Nat->b2
 L:List Nat
 D:List Nat
 cj:List Value
 cn:List Value
structure aaS(t:ef)(fK:Nat->Nat->b2)(eB D0:List Nat)(a nA nD:Nat)(x:Gx):Prop where
 inv:hR t.P t.nn x.T
 ra:∀ k b,¬ (k∈eB/\b=a)->x.T k b=fK k b
 perm:(x.D++x.L).Perm (D0++eB)
 kn:∀ k∈eB,k∈x.L\/(x.T k a).au≠0
 sub:∀ k∈x.L,k∈eB
 At:x.cj.length=nA
 r':x.cj.take x.L.length=x.L.map b4
 C8:x.cn.length=nD
 wR:x.cn.take x.D.length=x.D.map b4
structure KI(t:ef)(fK:Nat->Nat->b2)(eB D0:List Nat)(a nA nD:Nat)(hS:List Nat)(d1 i:Nat)(x:Gx):Prop where
 ii:i<=hS.length
 aaT:x.L.length<=i
 inv:hR t.P t.nn x.T
 ra:∀ k b,¬ (k∈eB/\b=a)->x.T k b=fK k b
 perm:(x.D++(x.L++hS.drop i)).Perm (D0++eB)
 kn:∀ k∈eB,k∈x.L\/k∈hS.drop i\/(x.T k a).au≠0
 sub:∀ k∈x.L,k∈eB
 un:x.D.length=d1->∀ k∈x.L,(dp t.P x.T k a).au=0
 RF:x.D.length+x.L.length=d1+i
 ge:d1<=x.D.length
 At:x.cj.length=nA
 r':x.cj.take x.L.length=x.L.map b4
 RG:(x.cj.drop i).take (hS.length-i)=(hS.drop i).map b4
 C8:x.cn.length=nD
 wR:x.cn.take x.D.length=x.D.map b4
def Gw.a6{fK:Nat->Nat->b2}{a:Nat}(h:Gw I t fK eB a){T:Nat->Nat->b2}(hi:hR t.P t.nn T)(aL:∀ k b,¬ (k∈eB/\b=a)->T k b=fK k b)(a4:t.aY T∈M){k:Nat}(ae:k∈eB):od I t T M k a:=
 ⟨h.ok.ra λq aO b=>aL q b λe=>by have:=(h.lo q e.1).1;omega,hi,h.ch,h.na,λ_=>a4,(h.lo k ae).2,h.a⟩
def aaU(A B C:List α)(k:α):(A++(B++k::C)).Perm (A++[k]++(B++C)):=by rw[gl];exact List.Perm.append_left _ pi
def aaV{fK:Nat->Nat->b2}{D0:List Nat}{a:Nat}(h:Gw I t fK eB a){gA gD nA nD:Nat}{cA0 cD0:List Value}(jg:cA0.length=nA)(cT:cD0.length=nD)(r':cA0.take eB.length=eB.map b4)(wR:cD0.take D0.length=D0.map b4)(aif:eB.length<=nA)(aih:D0.length+eB.length<=nD)(aii:nA<=1048576)(aij:nD<=1048576) :
  Spec Tryz.prog 93 [ptr t.bt,.agg C6.toArray,.slice (some ⟨gA,0,none⟩) eB.length nA,.slice (some ⟨gD,0,none⟩) D0.length nD,.int .i64 a] I [t.aY fK,cZ gA cA0,cZ gD cD0] λv I' M'=>I'=I /\
   ∃ (T:Nat->Nat->b2) (Au:List Nat) (cj cn:List Value),hR t.P t.nn T/\(∀ k b,¬ (k∈eB/\b=a)->T k b=fK k b)/\(∀ k∈eB,(T k a).au=0->(dp t.P T k a).au=0)/\Au.Perm (D0++eB)/\cj.length=nA/\cn.length=nD/\cn.take Au.length=Au.map b4 /\
    v=.slice (some ⟨gD,0,none⟩) Au.length nD/\M'=[t.aY T,cZ gA cj,cZ gD cn]:=by
 refine bX [] aV Tryz.func93 rfl rfl rfl ?_;intro B ao;refine dB.inv (ι:=Gx) (λx=>{ bj:=[(0,.val (ptr t.bt)),(2,.val (.slice (some ⟨gA,0,none⟩) x.L.length nA)),(3,.val (.slice (some ⟨gD,0,none⟩) x.D.length nD)),(4,.val (.int .i64 a)),(6,.ref 6 0)],cl:=[(6,C6)],c5:=I,dv:=[t.aY x.T,cZ gA x.cj,cZ gD x.cn] }) (λx=>aaS t fK eB D0 a nA nD x) (λx=>x.L.length) ?_ ?_
 ·exact⟨⟨fK,eB,D0,cA0,cD0⟩,⟨h.inv,λ_ _ _=>rfl,.refl _,λk ae=>.inl ae,λk ae=>ae,jg,r',cT,wR⟩,.refl,g',.cons rfl (.nil)⟩
 rintro⟨Jt,hS,rb,aaW,aaX⟩cM;have aaY:=cM.perm.length_eq;simp only[cU]at aaY;have aik:hS.length<=nA:=by have U:=congrArg List.length cM.r';have aa:=cM.At;simp only[ma,eX]at U aa;omega
 refine ie.mk 0 0 rfl rfl (cC _) (bq _) ?_;refine dB.inv (ι:=Nat×Gx) (λx=>{ bj:=[(0,.val (ptr t.bt)),(3,.val (.slice (some ⟨gD,0,none⟩) x.2.D.length nD)),(4,.val (.int .i64 a)),(6,.ref 6 0),(11,.val (.int .i64 rb.length)),(12,.val (.slice (some ⟨gA,0,none⟩) x.2.L.length nA)),(20,.val (.slice (some ⟨gA,0,none⟩) hS.length nA)),(21,.val (.int .i64 hS.length)),(22,.val (.int .i64 x.1))],cl:=[(6,C6)],c5:=I,dv:=[t.aY x.2.T,cZ gA x.2.cj,cZ gD x.2.cn] }) (λx=>KI t fK eB D0 a nA nD hS rb.length x.1 x.2) (λx=>hS.length-x.1) ?_ ?_
 ·refine⟨(0,⟨Jt,[],rb,aaW,aaX⟩),⟨bq _,cC _,cM.inv,cM.ra,cM.perm,λk ae=>.inr (cM.kn k ae),λk ae=>(by cases ae),λ_ k ae=>(by cases ae),by simp,cC _,cM.At,by simp,by simpa using cM.r',cM.C8,cM.wR⟩,.refl,hk,.cons rfl (.nil)⟩
 rintro⟨i,⟨T,L,D,cj,cn⟩⟩dm;have aaZ:=dm.ii;have aa0:=dm.aaT;have aa1:=dm.RF;have RH:=dm.ge;simp only at aaZ aa0 aa1 RH;have C9:cj.length=nA:=dm.At;have Da:cn.length=nD:=dm.C8;refine a0.mk (λe=>?_) (λe=>?_)
 ·have aK:i<hS.length:=by simpa using e
  obtain⟨k,ae⟩:∃ k,hS[i]=k:=⟨_,rfl⟩;have nm:hS.drop i=k::hS.drop (i+1):=by rw[fg aK,ae]
  have zZ:k∈eB:=cM.sub k (by rw[<-ae];exact dK aK);have RI:=fun {M:List ay} (a4:cZ gA cj∈M)=>aaO (I:=I) a4 dm.RG rfl aK;rw[ae]at RI;have sb:=fun {M:List ay} (a4:t.aY T∈M)=>h.a6 dm.inv dm.ra a4 zZ;obtain⟨fI,dR⟩:=h.lo k zZ;have oe:t.ok I T:=(sb (M:=[t.aY T]) (.head _)).ok;obtain⟨y,aN,jL,iB,pw,hM,ad,b7,bs⟩:=oe.aH dR;obtain⟨ei,iC,r,al,g9,nL,j2⟩:=oe.row dR;have pU:=nL fI;subst pU;have pu:a<t.w:=by have:=h.a;show a<t.s.size+1;omega
  have KJ:∀ aJ:List Value,aJ.drop (i+1)=cj.drop (i+1)->(aJ.drop (i+1)).take (hS.length-(i+1))=(hS.drop (i+1)).map b4:=λaJ aL=>by have U:=congrArg (List.drop 1) dm.RG;rw[<-List.map_drop,xQ,uE,xQ]at U;rw[aL,show hS.length-(i+1)=hS.length-i-1 by omega];exact U
  have stay:(dp t.P T k a).au=0->KI t fK eB D0 a nA nD hS rb.length (i+1) ⟨T,L++[k],D,bu cj (L.length*1) [b4 k],cn⟩:=λbg=>by
   obtain⟨m3,o5,ym⟩:=KH (L:=L) (aJ:=cj) dm.r' (by show L.length<cj.length;omega) k;have aG:=dm.perm;simp only[nm]at aG;refine⟨by omega,by simp only[cU,As];omega,dm.inv,dm.ra,?_,λq aO=>?_,λq aO=>?_,λah q aO=>?_,by simp only[cU,As];omega,RH,m3.trans C9,o5,KJ _ (ym _ (by omega)),Da,dm.wR⟩;·simp only;rw[gl L [k]];exact aG
   ·rcases dm.kn q aO with U | U | U
    ·exact .inl (zq _ U)
    ·simp only at U;rw[nm]at U;rcases eg.1 U with rfl | U
     ·exact .inl (zp _ (.head _))
     ·exact .inr (.inl U)
    ·exact .inr (.inr U)
   ·rcases eb.1 aO with U | U
    ·exact dm.sub q U
    ·rw[iY.1 U];exact zZ
   ·rcases eb.1 aO with U | U
    ·exact dm.un ah q U
    ·rw[iY.1 U];exact bg
  have done:(dp t.P T k a).au≠0->KI t fK eB D0 a nA nD hS rb.length (i+1) ⟨fu T k a (dp t.P T k a),L,D++[k],cj,bu cn (D.length*1) [b4 k]⟩:=λbg=>by
   obtain⟨m3,o5,ym⟩:=KH (L:=D) (aJ:=cn) dm.wR (by show D.length<cn.length;omega) k;have aG:=dm.perm;simp only[nm]at aG;refine⟨by omega,by simp only;omega,dm.inv.set dR h.a (h.ch k dR) rfl bg,λq b aO=>?_,?_,λq aO=>?_,dm.sub,λah q aO=>?_,by simp only[cU,As];omega,by simp only[cU,As];omega,C9,dm.r',KJ _ rfl,m3.trans Da,o5⟩;·simp only;rw[u6 λx=>aO ⟨by rw[x.1];exact zZ,x.2⟩];exact dm.ra q b aO
   ·simp only;exact(aaU D L (hS.drop (i+1)) k).symm.trans aG
   ·simp only;by_cases eq:q=k
    ·subst eq;rw[Aq];exact .inr (.inr bg)
    ·rw[u6 λx=>eq x.1];rcases dm.kn q aO with U | U | U
     ·exact .inl U
     ·simp only at U;rw[nm]at U;rcases eg.1 U with U | U
      ·exact absurd U eq
      ·exact .inr (.inl U)
     ·exact .inr (.inr U)
   ·simp only[cU,As]at ah;omega
  have sc:=aaQ (t:=t) (T:=T) dR fI pu (dp t.P T k a);have RJ:=t.aaq T;have fS:(k-t.n0)*(t.w*4)+a*4+4<=(t.cs T).length:=by rw[RJ];have U:(k-t.n0+1)*(t.w*4)<=(t.nn-t.n0)*(t.w*4):=rr _ (by omega);rw[jG,oX]at U;omega
  obtain⟨c,aL⟩:∃ c,dp t.P T k a=c:=⟨_,rfl⟩;rw[aL]at stay done sc;refine bc.mk ⟨gA,0,none⟩ i rfl rfl aK ?_;refine aF.mk _ (RI (.tail _ (.head _))) ?_;refine aF.mk _ (oe.gh (j:=3) (by decide)) ?_;refine bc.mk ad k b7 rfl dR ?_;refine aF.mk _ ((bs _).part (k:=0) (m:=1) (by decide)) ?_;have Gd:=(h.na k).lt;have RK:=(h.na k).p8;have rc:(t.P.aH k).d.k=y.k:=by rw[jL];rfl
  rw[rc]at Gd RK;clear jL nm RJ KJ dm cM iB pw hM aN;obtain⟨iy,dJ,s1,s2,dQ,fl,ail,aim,jq,jr,js,jt⟩:=y;simp only at rc Gd RK;have uX:iy=0\/iy=1\/iy=2\/iy=3\/iy=4\/iy=5\/iy=6\/iy=7\/iy=8\/iy=9:=by omega
  rcases uX with rfl | rfl | rfl | rfl | rfl | rfl | rfl | rfl | rfl | rfl
  ·refine cH.mk 0 rfl (by decide) ?_;have b0:=aaB (sb (M:=[t.aY T,cZ gA cj,cZ gD cn]) (.head _)) rc;unfold kr at b0;rw[aL]at b0;refine bb.whole _ b0 ?_;rintro v I' M' -⟨rfl,rfl,rfl⟩;refine a0.mk (λaB=>?_) (λaB=>?_)
   ·have dW:c.au=0:=by have:=du aB;omega
    refine cz.mk λb9 gz iD=>?_;refine bl.jN aV rfl (by simp) (e:=3) rfl rfl rfl (g:=gA) (n:=L.length) (c:=nA) (aJ:=cj) rfl (show cj.length=nA*1 by omega) (ad:=⟨b9,0,none⟩) (m:=1) (c':=1) rfl (ct:=[b4 k]) ⟨rfl,_,_,_,.inr ⟨_,.head _,rfl,rfl⟩,rfl,rfl⟩ rfl (by omega) [_,t.aY T] [cZ gD cn] rfl ?_;refine a5.mk _ (cm (i:=i) (by omega)) ?_;have bV:L.length+1=(L++[k]).length:=by simp
    exact⟨(i+1,⟨T,L++[k],D,bu cj (L.length*1) [b4 k],cn⟩),⟨stay dW,by simp only;omega⟩,.sub (.cons _ (.refl _)) .refl,.cons .refl (.cons .refl (.cons .refl (.cons .refl (.cons .refl (.cons (kW gA nA bV) (fZ)))))),.cons rfl (.nil)⟩
   ·have dW:c.au≠0:=by have:=dt aB;omega
    refine cW.draw aV rfl rfl rfl ?_;refine aF.mk _ (oe.gh (j:=4) (by decide)) ?_;refine bc.mk ei k iC rfl dR ?_;refine aF.mk _ (g9 _) ?_;refine bc.mk ⟨t.eP,(k-t.n0)*(t.w*4),none⟩ a rfl rfl pu ?_;refine cg.f' [] [cZ gA cj,cZ gD cn] (t.cs T) _ rfl (by rw[mA];exact fS) rfl (t.cs (fu T k a c)) sc ?_;refine cz.mk λb9 gz iD=>?_;refine bl.jN aV rfl (by simp) (e:=3) rfl rfl rfl (g:=gD) (n:=D.length) (c:=nD) (aJ:=cn) rfl (show cn.length=nD*1 by omega) (ad:=⟨b9,0,none⟩) (m:=1) (c':=1) rfl (ct:=[b4 k]) ⟨rfl,_,_,_,.inr ⟨_,.head _,rfl,rfl⟩,rfl,rfl⟩ rfl (by omega) [_,t.aY (fu T k a c),cZ gA cj] [] rfl ?_;refine a5.mk _ (cm (i:=i) (by omega)) ?_;have bV:D.length+1=(D++[k]).length:=by simp
    exact⟨(i+1,⟨fu T k a c,L,D++[k],cj,bu cn (D.length*1) [b4 k]⟩),⟨done dW,by simp only;omega⟩,.sub (.cons _ (.refl _)) .refl,.cons .refl (.cons (kW gD nD bV) (im)),.cons rfl (.nil)⟩
  ·refine cH.mk 1 rfl (by decide) ?_;have b0:=aaG (sb (M:=[t.aY T,cZ gA cj,cZ gD cn]) (.head _)) rc;unfold kr at b0;rw[aL]at b0;refine bb.whole _ b0 ?_;rintro v I' M' -⟨rfl,rfl,rfl⟩;refine a0.mk (λaB=>?_) (λaB=>?_)
   ·have dW:c.au=0:=by have:=du aB;omega
    refine cz.mk λb9 gz iD=>?_;refine bl.jN aV rfl (by simp) (e:=3) rfl rfl rfl (g:=gA) (n:=L.length) (c:=nA) (aJ:=cj) rfl (show cj.length=nA*1 by omega) (ad:=⟨b9,0,none⟩) (m:=1) (c':=1) rfl (ct:=[b4 k]) ⟨rfl,_,_,_,.inr ⟨_,.head _,rfl,rfl⟩,rfl,rfl⟩ rfl (by omega) [_,t.aY T] [cZ gD cn] rfl ?_;refine a5.mk _ (cm (i:=i) (by omega)) ?_;have bV:L.length+1=(L++[k]).length:=by simp
    exact⟨(i+1,⟨T,L++[k],D,bu cj (L.length*1) [b4 k],cn⟩),⟨stay dW,by simp only;omega⟩,.sub (.cons _ (.refl _)) .refl,.cons .refl (.cons .refl (.cons .refl (.cons .refl (.cons .refl (.cons (kW gA nA bV) (fZ)))))),.cons rfl (.nil)⟩
   ·have dW:c.au≠0:=by have:=dt aB;omega
    refine cW.draw aV rfl rfl rfl ?_;refine aF.mk _ (oe.gh (j:=4) (by decide)) ?_;refine bc.mk ei k iC rfl dR ?_;refine aF.mk _ (g9 _) ?_;refine bc.mk ⟨t.eP,(k-t.n0)*(t.w*4),none⟩ a rfl rfl pu ?_;refine cg.f' [] [cZ gA cj,cZ gD cn] (t.cs T) _ rfl (by rw[mA];exact fS) rfl (t.cs (fu T k a c)) sc ?_;refine cz.mk λb9 gz iD=>?_;refine bl.jN aV rfl (by simp) (e:=3) rfl rfl rfl (g:=gD) (n:=D.length) (c:=nD) (aJ:=cn) rfl (show cn.length=nD*1 by omega) (ad:=⟨b9,0,none⟩) (m:=1) (c':=1) rfl (ct:=[b4 k]) ⟨rfl,_,_,_,.inr ⟨_,.head _,rfl,rfl⟩,rfl,rfl⟩ rfl (by omega) [_,t.aY (fu T k a c),cZ gA cj] [] rfl ?_;refine a5.mk _ (cm (i:=i) (by omega)) ?_;have bV:D.length+1=(D++[k]).length:=by simp
    exact⟨(i+1,⟨fu T k a c,L,D++[k],cj,bu cn (D.length*1) [b4 k]⟩),⟨done dW,by simp only;omega⟩,.sub (.cons _ (.refl _)) .refl,.cons .refl (.cons (kW gD nD bV) (im)),.cons rfl (.nil)⟩
  ·refine cH.mk 2 rfl (by decide) ?_;have b0:=aaH (sb (M:=[t.aY T,cZ gA cj,cZ gD cn]) (.head _)) rc;unfold kr at b0;rw[aL]at b0;refine bb.whole _ b0 ?_;rintro v I' M' -⟨rfl,rfl,rfl⟩;refine a0.mk (λaB=>?_) (λaB=>?_)
   ·have dW:c.au=0:=by have:=du aB;omega
    refine cz.mk λb9 gz iD=>?_;refine bl.jN aV rfl (by simp) (e:=3) rfl rfl rfl (g:=gA) (n:=L.length) (c:=nA) (aJ:=cj) rfl (show cj.length=nA*1 by omega) (ad:=⟨b9,0,none⟩) (m:=1) (c':=1) rfl (ct:=[b4 k]) ⟨rfl,_,_,_,.inr ⟨_,.head _,rfl,rfl⟩,rfl,rfl⟩ rfl (by omega) [_,t.aY T] [cZ gD cn] rfl ?_;refine a5.mk _ (cm (i:=i) (by omega)) ?_;have bV:L.length+1=(L++[k]).length:=by simp
    exact⟨(i+1,⟨T,L++[k],D,bu cj (L.length*1) [b4 k],cn⟩),⟨stay dW,by simp only;omega⟩,.sub (.cons _ (.refl _)) .refl,.cons .refl (.cons .refl (.cons .refl (.cons .refl (.cons .refl (.cons (kW gA nA bV) (fZ)))))),.cons rfl (.nil)⟩
   ·have dW:c.au≠0:=by have:=dt aB;omega
    refine cW.draw aV rfl rfl rfl ?_;refine aF.mk _ (oe.gh (j:=4) (by decide)) ?_;refine bc.mk ei k iC rfl dR ?_;refine aF.mk _ (g9 _) ?_;refine bc.mk ⟨t.eP,(k-t.n0)*(t.w*4),none⟩ a rfl rfl pu ?_;refine cg.f' [] [cZ gA cj,cZ gD cn] (t.cs T) _ rfl (by rw[mA];exact fS) rfl (t.cs (fu T k a c)) sc ?_;refine cz.mk λb9 gz iD=>?_;refine bl.jN aV rfl (by simp) (e:=3) rfl rfl rfl (g:=gD) (n:=D.length) (c:=nD) (aJ:=cn) rfl (show cn.length=nD*1 by omega) (ad:=⟨b9,0,none⟩) (m:=1) (c':=1) rfl (ct:=[b4 k]) ⟨rfl,_,_,_,.inr ⟨_,.head _,rfl,rfl⟩,rfl,rfl⟩ rfl (by omega) [_,t.aY (fu T k a c),cZ gA cj] [] rfl ?_;refine a5.mk _ (cm (i:=i) (by omega)) ?_;have bV:D.length+1=(D++[k]).length:=by simp
    exact⟨(i+1,⟨fu T k a c,L,D++[k],cj,bu cn (D.length*1) [b4 k]⟩),⟨done dW,by simp only;omega⟩,.sub (.cons _ (.refl _)) .refl,.cons .refl (.cons (kW gD nD bV) (im)),.cons rfl (.nil)⟩
  ·refine cH.mk 3 rfl (by decide) ?_;have b0:=aaC (sb (M:=[t.aY T,cZ gA cj,cZ gD cn]) (.head _)) rc;unfold kr at b0;rw[aL]at b0;refine bb.whole _ b0 ?_;rintro v I' M' -⟨rfl,rfl,rfl⟩;refine a0.mk (λaB=>?_) (λaB=>?_)
   ·have dW:c.au=0:=by have:=du aB;omega
    refine cz.mk λb9 gz iD=>?_;refine bl.jN aV rfl (by simp) (e:=3) rfl rfl rfl (g:=gA) (n:=L.length) (c:=nA) (aJ:=cj) rfl (show cj.length=nA*1 by omega) (ad:=⟨b9,0,none⟩) (m:=1) (c':=1) rfl (ct:=[b4 k]) ⟨rfl,_,_,_,.inr ⟨_,.head _,rfl,rfl⟩,rfl,rfl⟩ rfl (by omega) [_,t.aY T] [cZ gD cn] rfl ?_;refine a5.mk _ (cm (i:=i) (by omega)) ?_;have bV:L.length+1=(L++[k]).length:=by simp
    exact⟨(i+1,⟨T,L++[k],D,bu cj (L.length*1) [b4 k],cn⟩),⟨stay dW,by simp only;omega⟩,.sub (.cons _ (.refl _)) .refl,.cons .refl (.cons .refl (.cons .refl (.cons .refl (.cons .refl (.cons (kW gA nA bV) (fZ)))))),.cons rfl (.nil)⟩
   ·have dW:c.au≠0:=by have:=dt aB;omega
    refine cW.draw aV rfl rfl rfl ?_;refine aF.mk _ (oe.gh (j:=4) (by decide)) ?_;refine bc.mk ei k iC rfl dR ?_;refine aF.mk _ (g9 _) ?_;refine bc.mk ⟨t.eP,(k-t.n0)*(t.w*4),none⟩ a rfl rfl pu ?_;refine cg.f' [] [cZ gA cj,cZ gD cn] (t.cs T) _ rfl (by rw[mA];exact fS) rfl (t.cs (fu T k a c)) sc ?_;refine cz.mk λb9 gz iD=>?_;refine bl.jN aV rfl (by simp) (e:=3) rfl rfl rfl (g:=gD) (n:=D.length) (c:=nD) (aJ:=cn) rfl (show cn.length=nD*1 by omega) (ad:=⟨b9,0,none⟩) (m:=1) (c':=1) rfl (ct:=[b4 k]) ⟨rfl,_,_,_,.inr ⟨_,.head _,rfl,rfl⟩,rfl,rfl⟩ rfl (by omega) [_,t.aY (fu T k a c),cZ gA cj] [] rfl ?_;refine a5.mk _ (cm (i:=i) (by omega)) ?_;have bV:D.length+1=(D++[k]).length:=by simp
    exact⟨(i+1,⟨fu T k a c,L,D++[k],cj,bu cn (D.length*1) [b4 k]⟩),⟨done dW,by simp only;omega⟩,.sub (.cons _ (.refl _)) .refl,.cons .refl (.cons (kW gD nD bV) (im)),.cons rfl (.nil)⟩
  ·refine cH.mk 4 rfl (by decide) ?_;have b0:=aaI (sb (M:=[t.aY T,cZ gA cj,cZ gD cn]) (.head _)) rc;unfold kr at b0;rw[aL]at b0;refine bb.whole _ b0 ?_;rintro v I' M' -⟨rfl,rfl,rfl⟩;refine a0.mk (λaB=>?_) (λaB=>?_)
   ·have dW:c.au=0:=by have:=du aB;omega
    refine cz.mk λb9 gz iD=>?_;refine bl.jN aV rfl (by simp) (e:=3) rfl rfl rfl (g:=gA) (n:=L.length) (c:=nA) (aJ:=cj) rfl (show cj.length=nA*1 by omega) (ad:=⟨b9,0,none⟩) (m:=1) (c':=1) rfl (ct:=[b4 k]) ⟨rfl,_,_,_,.inr ⟨_,.head _,rfl,rfl⟩,rfl,rfl⟩ rfl (by omega) [_,t.aY T] [cZ gD cn] rfl ?_;refine a5.mk _ (cm (i:=i) (by omega)) ?_;have bV:L.length+1=(L++[k]).length:=by simp
    exact⟨(i+1,⟨T,L++[k],D,bu cj (L.length*1) [b4 k],cn⟩),⟨stay dW,by simp only;omega⟩,.sub (.cons _ (.refl _)) .refl,.cons .refl (.cons .refl (.cons .refl (.cons .refl (.cons .refl (.cons (kW gA nA bV) (fZ)))))),.cons rfl (.nil)⟩
   ·have dW:c.au≠0:=by have:=dt aB;omega
    refine cW.draw aV rfl rfl rfl ?_;refine aF.mk _ (oe.gh (j:=4) (by decide)) ?_;refine bc.mk ei k iC rfl dR ?_;refine aF.mk _ (g9 _) ?_;refine bc.mk ⟨t.eP,(k-t.n0)*(t.w*4),none⟩ a rfl rfl pu ?_;refine cg.f' [] [cZ gA cj,cZ gD cn] (t.cs T) _ rfl (by rw[mA];exact fS) rfl (t.cs (fu T k a c)) sc ?_;refine cz.mk λb9 gz iD=>?_;refine bl.jN aV rfl (by simp) (e:=3) rfl rfl rfl (g:=gD) (n:=D.length) (c:=nD) (aJ:=cn) rfl (show cn.length=nD*1 by omega) (ad:=⟨b9,0,none⟩) (m:=1) (c':=1) rfl (ct:=[b4 k]) ⟨rfl,_,_,_,.inr ⟨_,.head _,rfl,rfl⟩,rfl,rfl⟩ rfl (by omega) [_,t.aY (fu T k a c),cZ gA cj] [] rfl ?_;refine a5.mk _ (cm (i:=i) (by omega)) ?_;have bV:D.length+1=(D++[k]).length:=by simp
    exact⟨(i+1,⟨fu T k a c,L,D++[k],cj,bu cn (D.length*1) [b4 k]⟩),⟨done dW,by simp only;omega⟩,.sub (.cons _ (.refl _)) .refl,.cons .refl (.cons (kW gD nD bV) (im)),.cons rfl (.nil)⟩
  ·refine cH.mk 5 rfl (by decide) ?_;have b0:=aaJ (sb (M:=[t.aY T,cZ gA cj,cZ gD cn]) (.head _)) rc;unfold kr at b0;rw[aL]at b0;refine bb.whole _ b0 ?_;rintro v I' M' -⟨rfl,rfl,rfl⟩;refine a0.mk (λaB=>?_) (λaB=>?_)
   ·have dW:c.au=0:=by have:=du aB;omega
    refine cz.mk λb9 gz iD=>?_;refine bl.jN aV rfl (by simp) (e:=3) rfl rfl rfl (g:=gA) (n:=L.length) (c:=nA) (aJ:=cj) rfl (show cj.length=nA*1 by omega) (ad:=⟨b9,0,none⟩) (m:=1) (c':=1) rfl (ct:=[b4 k]) ⟨rfl,_,_,_,.inr ⟨_,.head _,rfl,rfl⟩,rfl,rfl⟩ rfl (by omega) [_,t.aY T] [cZ gD cn] rfl ?_;refine a5.mk _ (cm (i:=i) (by omega)) ?_;have bV:L.length+1=(L++[k]).length:=by simp
    exact⟨(i+1,⟨T,L++[k],D,bu cj (L.length*1) [b4 k],cn⟩),⟨stay dW,by simp only;omega⟩,.sub (.cons _ (.refl _)) .refl,.cons .refl (.cons .refl (.cons .refl (.cons .refl (.cons .refl (.cons (kW gA nA bV) (fZ)))))),.cons rfl (.nil)⟩
   ·have dW:c.au≠0:=by have:=dt aB;omega
    refine cW.draw aV rfl rfl rfl ?_;refine aF.mk _ (oe.gh (j:=4) (by decide)) ?_;refine bc.mk ei k iC rfl dR ?_;refine aF.mk _ (g9 _) ?_;refine bc.mk ⟨t.eP,(k-t.n0)*(t.w*4),none⟩ a rfl rfl pu ?_;refine cg.f' [] [cZ gA cj,cZ gD cn] (t.cs T) _ rfl (by rw[mA];exact fS) rfl (t.cs (fu T k a c)) sc ?_;refine cz.mk λb9 gz iD=>?_;refine bl.jN aV rfl (by simp) (e:=3) rfl rfl rfl (g:=gD) (n:=D.length) (c:=nD) (aJ:=cn) rfl (show cn.length=nD*1 by omega) (ad:=⟨b9,0,none⟩) (m:=1) (c':=1) rfl (ct:=[b4 k]) ⟨rfl,_,_,_,.inr ⟨_,.head _,rfl,rfl⟩,rfl,rfl⟩ rfl (by omega) [_,t.aY (fu T k a c),cZ gA cj] [] rfl ?_;refine a5.mk _ (cm (i:=i) (by omega)) ?_;have bV:D.length+1=(D++[k]).length:=by simp
    exact⟨(i+1,⟨fu T k a c,L,D++[k],cj,bu cn (D.length*1) [b4 k]⟩),⟨done dW,by simp only;omega⟩,.sub (.cons _ (.refl _)) .refl,.cons .refl (.cons (kW gD nD bV) (im)),.cons rfl (.nil)⟩
  ·refine cH.mk 6 rfl (by decide) ?_;have b0:=aaM (sb (M:=[t.aY T,cZ gA cj,cZ gD cn]) (.head _)) rc;unfold kr at b0;rw[aL]at b0;refine bb.whole _ b0 ?_;rintro v I' M' -⟨rfl,rfl,rfl⟩;refine a0.mk (λaB=>?_) (λaB=>?_)
   ·have dW:c.au=0:=by have:=du aB;omega
    refine cz.mk λb9 gz iD=>?_;refine bl.jN aV rfl (by simp) (e:=3) rfl rfl rfl (g:=gA) (n:=L.length) (c:=nA) (aJ:=cj) rfl (show cj.length=nA*1 by omega) (ad:=⟨b9,0,none⟩) (m:=1) (c':=1) rfl (ct:=[b4 k]) ⟨rfl,_,_,_,.inr ⟨_,.head _,rfl,rfl⟩,rfl,rfl⟩ rfl (by omega) [_,t.aY T] [cZ gD cn] rfl ?_;refine a5.mk _ (cm (i:=i) (by omega)) ?_;have bV:L.length+1=(L++[k]).length:=by simp
    exact⟨(i+1,⟨T,L++[k],D,bu cj (L.length*1) [b4 k],cn⟩),⟨stay dW,by simp only;omega⟩,.sub (.cons _ (.refl _)) .refl,.cons .refl (.cons .refl (.cons .refl (.cons .refl (.cons .refl (.cons (kW gA nA bV) (fZ)))))),.cons rfl (.nil)⟩
   ·have dW:c.au≠0:=by have:=dt aB;omega
    refine cW.draw aV rfl rfl rfl ?_;refine aF.mk _ (oe.gh (j:=4) (by decide)) ?_;refine bc.mk ei k iC rfl dR ?_;refine aF.mk _ (g9 _) ?_;refine bc.mk ⟨t.eP,(k-t.n0)*(t.w*4),none⟩ a rfl rfl pu ?_;refine cg.f' [] [cZ gA cj,cZ gD cn] (t.cs T) _ rfl (by rw[mA];exact fS) rfl (t.cs (fu T k a c)) sc ?_;refine cz.mk λb9 gz iD=>?_;refine bl.jN aV rfl (by simp) (e:=3) rfl rfl rfl (g:=gD) (n:=D.length) (c:=nD) (aJ:=cn) rfl (show cn.length=nD*1 by omega) (ad:=⟨b9,0,none⟩) (m:=1) (c':=1) rfl (ct:=[b4 k]) ⟨rfl,_,_,_,.inr ⟨_,.head _,rfl,rfl⟩,rfl,rfl⟩ rfl (by omega) [_,t.aY (fu T k a c),cZ gA cj] [] rfl ?_;refine a5.mk _ (cm (i:=i) (by omega)) ?_;have bV:D.length+1=(D++[k]).length:=by simp
    exact⟨(i+1,⟨fu T k a c,L,D++[k],cj,bu cn (D.length*1) [b4 k]⟩),⟨done dW,by simp only;omega⟩,.sub (.cons _ (.refl _)) .refl,.cons .refl (.cons (kW gD nD bV) (im)),.cons rfl (.nil)⟩
  ·refine cH.mk 7 rfl (by decide) ?_;have b0:=aaD (sb (M:=[t.aY T,cZ gA cj,cZ gD cn]) (.head _)) rc;unfold kr at b0;rw[aL]at b0;refine bb.whole _ b0 ?_;rintro v I' M' -⟨rfl,rfl,rfl⟩;refine a0.mk (λaB=>?_) (λaB=>?_)
   ·have dW:c.au=0:=by have:=du aB;omega
    refine cz.mk λb9 gz iD=>?_;refine bl.jN aV rfl (by simp) (e:=3) rfl rfl rfl (g:=gA) (n:=L.length) (c:=nA) (aJ:=cj) rfl (show cj.length=nA*1 by omega) (ad:=⟨b9,0,none⟩) (m:=1) (c':=1) rfl (ct:=[b4 k]) ⟨rfl,_,_,_,.inr ⟨_,.head _,rfl,rfl⟩,rfl,rfl⟩ rfl (by omega) [_,t.aY T] [cZ gD cn] rfl ?_;refine a5.mk _ (cm (i:=i) (by omega)) ?_;have bV:L.length+1=(L++[k]).length:=by simp
    exact⟨(i+1,⟨T,L++[k],D,bu cj (L.length*1) [b4 k],cn⟩),⟨stay dW,by simp only;omega⟩,.sub (.cons _ (.refl _)) .refl,.cons .refl (.cons .refl (.cons .refl (.cons .refl (.cons .refl (.cons (kW gA nA bV) (fZ)))))),.cons rfl (.nil)⟩
   ·have dW:c.au≠0:=by have:=dt aB;omega
    refine cW.draw aV rfl rfl rfl ?_;refine aF.mk _ (oe.gh (j:=4) (by decide)) ?_;refine bc.mk ei k iC rfl dR ?_;refine aF.mk _ (g9 _) ?_;refine bc.mk ⟨t.eP,(k-t.n0)*(t.w*4),none⟩ a rfl rfl pu ?_;refine cg.f' [] [cZ gA cj,cZ gD cn] (t.cs T) _ rfl (by rw[mA];exact fS) rfl (t.cs (fu T k a c)) sc ?_;refine cz.mk λb9 gz iD=>?_;refine bl.jN aV rfl (by simp) (e:=3) rfl rfl rfl (g:=gD) (n:=D.length) (c:=nD) (aJ:=cn) rfl (show cn.length=nD*1 by omega) (ad:=⟨b9,0,none⟩) (m:=1) (c':=1) rfl (ct:=[b4 k]) ⟨rfl,_,_,_,.inr ⟨_,.head _,rfl,rfl⟩,rfl,rfl⟩ rfl (by omega) [_,t.aY (fu T k a c),cZ gA cj] [] rfl ?_;refine a5.mk _ (cm (i:=i) (by omega)) ?_;have bV:D.length+1=(D++[k]).length:=by simp
    exact⟨(i+1,⟨fu T k a c,L,D++[k],cj,bu cn (D.length*1) [b4 k]⟩),⟨done dW,by simp only;omega⟩,.sub (.cons _ (.refl _)) .refl,.cons .refl (.cons (kW gD nD bV) (im)),.cons rfl (.nil)⟩
  ·refine cH.mk 8 rfl (by decide) ?_;have b0:=aaE (sb (M:=[t.aY T,cZ gA cj,cZ gD cn]) (.head _)) rc;unfold kr at b0;rw[aL]at b0;refine bb.whole _ b0 ?_;rintro v I' M' -⟨rfl,rfl,rfl⟩;refine a0.mk (λaB=>?_) (λaB=>?_)
   ·have dW:c.au=0:=by have:=du aB;omega
    refine cz.mk λb9 gz iD=>?_;refine bl.jN aV rfl (by simp) (e:=3) rfl rfl rfl (g:=gA) (n:=L.length) (c:=nA) (aJ:=cj) rfl (show cj.length=nA*1 by omega) (ad:=⟨b9,0,none⟩) (m:=1) (c':=1) rfl (ct:=[b4 k]) ⟨rfl,_,_,_,.inr ⟨_,.head _,rfl,rfl⟩,rfl,rfl⟩ rfl (by omega) [_,t.aY T] [cZ gD cn] rfl ?_;refine a5.mk _ (cm (i:=i) (by omega)) ?_;have bV:L.length+1=(L++[k]).length:=by simp
    exact⟨(i+1,⟨T,L++[k],D,bu cj (L.length*1) [b4 k],cn⟩),⟨stay dW,by simp only;omega⟩,.sub (.cons _ (.refl _)) .refl,.cons .refl (.cons .refl (.cons .refl (.cons .refl (.cons .refl (.cons (kW gA nA bV) (fZ)))))),.cons rfl (.nil)⟩
   ·have dW:c.au≠0:=by have:=dt aB;omega
    refine cW.draw aV rfl rfl rfl ?_;refine aF.mk _ (oe.gh (j:=4) (by decide)) ?_;refine bc.mk ei k iC rfl dR ?_;refine aF.mk _ (g9 _) ?_;refine bc.mk ⟨t.eP,(k-t.n0)*(t.w*4),none⟩ a rfl rfl pu ?_;refine cg.f' [] [cZ gA cj,cZ gD cn] (t.cs T) _ rfl (by rw[mA];exact fS) rfl (t.cs (fu T k a c)) sc ?_;refine cz.mk λb9 gz iD=>?_;refine bl.jN aV rfl (by simp) (e:=3) rfl rfl rfl (g:=gD) (n:=D.length) (c:=nD) (aJ:=cn) rfl (show cn.length=nD*1 by omega) (ad:=⟨b9,0,none⟩) (m:=1) (c':=1) rfl (ct:=[b4 k]) ⟨rfl,_,_,_,.inr ⟨_,.head _,rfl,rfl⟩,rfl,rfl⟩ rfl (by omega) [_,t.aY (fu T k a c),cZ gA cj] [] rfl ?_;refine a5.mk _ (cm (i:=i) (by omega)) ?_;have bV:D.length+1=(D++[k]).length:=by simp
    exact⟨(i+1,⟨fu T k a c,L,D++[k],cj,bu cn (D.length*1) [b4 k]⟩),⟨done dW,by simp only;omega⟩,.sub (.cons _ (.refl _)) .refl,.cons .refl (.cons (kW gD nD bV) (im)),.cons rfl (.nil)⟩
  ·refine cH.mk 9 rfl (by decide) ?_;have b0:=aaF (sb (M:=[t.aY T,cZ gA cj,cZ gD cn]) (.head _)) rc;unfold kr at b0;rw[aL]at b0;refine bb.whole _ b0 ?_;rintro v I' M' -⟨rfl,rfl,rfl⟩;refine a0.mk (λaB=>?_) (λaB=>?_)
   ·have dW:c.au=0:=by have:=du aB;omega
    refine cz.mk λb9 gz iD=>?_;refine bl.jN aV rfl (by simp) (e:=3) rfl rfl rfl (g:=gA) (n:=L.length) (c:=nA) (aJ:=cj) rfl (show cj.length=nA*1 by omega) (ad:=⟨b9,0,none⟩) (m:=1) (c':=1) rfl (ct:=[b4 k]) ⟨rfl,_,_,_,.inr ⟨_,.head _,rfl,rfl⟩,rfl,rfl⟩ rfl (by omega) [_,t.aY T] [cZ gD cn] rfl ?_;refine a5.mk _ (cm (i:=i) (by omega)) ?_;have bV:L.length+1=(L++[k]).length:=by simp
    exact⟨(i+1,⟨T,L++[k],D,bu cj (L.length*1) [b4 k],cn⟩),⟨stay dW,by simp only;omega⟩,.sub (.cons _ (.refl _)) .refl,.cons .refl (.cons .refl (.cons .refl (.cons .refl (.cons .refl (.cons (kW gA nA bV) (fZ)))))),.cons rfl (.nil)⟩
   ·have dW:c.au≠0:=by have:=dt aB;omega
    refine cW.draw aV rfl rfl rfl ?_;refine aF.mk _ (oe.gh (j:=4) (by decide)) ?_;refine bc.mk ei k iC rfl dR ?_;refine aF.mk _ (g9 _) ?_;refine bc.mk ⟨t.eP,(k-t.n0)*(t.w*4),none⟩ a rfl rfl pu ?_;refine cg.f' [] [cZ gA cj,cZ gD cn] (t.cs T) _ rfl (by rw[mA];exact fS) rfl (t.cs (fu T k a c)) sc ?_;refine cz.mk λb9 gz iD=>?_;refine bl.jN aV rfl (by simp) (e:=3) rfl rfl rfl (g:=gD) (n:=D.length) (c:=nD) (aJ:=cn) rfl (show cn.length=nD*1 by omega) (ad:=⟨b9,0,none⟩) (m:=1) (c':=1) rfl (ct:=[b4 k]) ⟨rfl,_,_,_,.inr ⟨_,.head _,rfl,rfl⟩,rfl,rfl⟩ rfl (by omega) [_,t.aY (fu T k a c),cZ gA cj] [] rfl ?_;refine a5.mk _ (cm (i:=i) (by omega)) ?_;have bV:D.length+1=(D++[k]).length:=by simp
    exact⟨(i+1,⟨fu T k a c,L,D++[k],cj,bu cn (D.length*1) [b4 k]⟩),⟨done dW,by simp only;omega⟩,.sub (.cons _ (.refl _)) .refl,.cons .refl (.cons (kW gD nD bV) (im)),.cons rfl (.nil)⟩
 ·have c1:¬ (i:Int)<(hS.length:Int):=dt e;obtain rfl:i=hS.length:=by omega
  have iT:(D++(L++hS.drop hS.length)).Perm (D0++eB):=dm.perm;have dR:∀ k∈eB,k∈L\/k∈hS.drop hS.length\/(T k a).au≠0:=dm.kn;simp only[List.drop_length,dF]at iT dR;have KK:=iT.length_eq;simp only[cU]at KK;have jA:hH (L.map b4)=true:=by unfold hH;rw[gi];intro x ab;obtain⟨z,_,rfl⟩:=ej.1 ab;rfl
  have px:ca I [t.aY T,cZ gA cj,cZ gD cn] ⟨gA,0,none⟩ (L.length*1) (L.map b4):=by refine⟨rfl,cj.toArray,3,(0,0),.inr ⟨_,.tail _ (.head _),rfl,rfl⟩,?_,by rw[eX,kd]⟩;rw[kd];exact dm.r'
  obtain⟨eY,ez⟩:=aaP (D:=D) (aJ:=cn) dm.wR (L:=L) (by show D.length+L.length<=cn.length;omega);have fin:((L.length:Nat)=0\/D.length=rb.length)->(∀ k∈eB,(T k a).au=0->(dp t.P T k a).au=0):=λbA k ae ao=>by
   rcases dR k ae with U | U | U
   ·rcases bA with bA | bA
    ·rw[l' bA]at U;cases U
    ·exact dm.un bA k U
   ·cases U
   ·exact absurd ao U
  refine cB.mk (λg=>?_) (λg=>?_)
  ·refine a0.mk (λaU=>?_) (λaU=>?_)
   ·have RL:D.length=rb.length:=by have bG:(D.length:Int)=(rb.length:Int):=du aU;omega
    refine bl.jN aV rfl (by simp) (e:=3) rfl rfl rfl (g:=gD) (n:=D.length) (c:=nD) (aJ:=cn) rfl (show cn.length=nD*1 by omega) (ad:=⟨gA,0,none⟩) (m:=L.length) (c':=nA) rfl (ct:=L.map b4) px jA (by omega) [t.aY T,cZ gA cj] [] rfl ?_;exact⟨_,_,.refl,rfl,T,D++L,cj,_,dm.inv,dm.ra,fin (.inr RL),iT,C9,eY.trans Da,ez,by rw[cU],rfl⟩
   ·have RL:D.length≠rb.length:=by have bG:¬ (D.length:Int)=(rb.length:Int):=dt aU;omega
    exact⟨⟨T,L,D,cj,cn⟩,⟨⟨dm.inv,dm.ra,iT,λk ae=>(dR k ae).imp id λx=>x.elim (λy=>(by cases y)) id,dm.sub,C9,dm.r',Da,dm.wR⟩,by simp only;omega⟩,.refl,g',.cons rfl (.nil)⟩
  ·have dD:L.length=0:=by have:decide ((L.length:Int)=0)=true:=g;have:=du this;omega
   refine bl.jN aV rfl (by simp) (e:=3) rfl rfl rfl (g:=gD) (n:=D.length) (c:=nD) (aJ:=cn) rfl (show cn.length=nD*1 by omega) (ad:=⟨gA,0,none⟩) (m:=L.length) (c':=nA) rfl (ct:=L.map b4) px jA (by omega) [t.aY T,cZ gA cj] [] rfl ?_;exact⟨_,_,.refl,rfl,T,D++L,cj,_,dm.inv,dm.ra,fin (.inl dD),iT,C9,eY.trans Da,ez,by rw[cU],rfl⟩
structure RM(I:aS)(t:ef)(fK:Nat->Nat->b2)(eB:List Nat):Prop where
 ok:t.ok I fK
 inv:hR t.P t.nn fK
 ch:∀ k,k<t.nn->tt t.P t.nn k
 na:∀ k,tu t.P k
 n0:t.n0<t.nn
 lo:∀ k∈eB,t.n0<=k/\k<t.nn
 all:∀ k,t.n0<=k->k<t.nn->k∈eB
 c3:∀ k,k<t.n0->∀ b,(fK k b).ce=b8 t.P k b
structure RN where
 p:Nat
 v:Int
 T:Nat->Nat->b2
 L:List Nat
 gA:Nat
 nA:Nat
 cj:List Value
 gD:Nat
 nD:Nat
 d:Nat
 cn:List Value
structure aa2(t:ef)(fK:Nat->Nat->b2)(eB:List Nat)(low:Nat)(x:RN):Prop where
 v:x.v=(x.p:Int)-1
 p:x.p<=t.s.size+1
 aa3:low<=x.p
 inv:hR t.P t.nn x.T
 up:∀ k b,x.p<=b->(x.T k b).ce=b8 t.P k b
 c3:∀ k,k<t.n0->∀ b,x.T k b=fK k b
 perm:x.L.Perm eB
 At:x.cj.length=x.nA
 r':x.cj.take x.L.length=x.L.map b4
 C8:x.cn.length=x.nD
 jg:eB.length<=x.nA
 cT:eB.length<=x.nD
 aa4:x.nA<=1048576
 aa5:x.nD<=1048576
def aa6{fK:Nat->Nat->b2}(h:RM I t fK eB){gN nN:Nat}{cN:List Value}(fD:cN.length=nN)(aa7:cN.take eB.length=eB.map b4)(c7:eB.length<=nN)(KL:nN<=1048576){low:Nat}(ain:low<=t.s.size) :
  Spec Tryz.prog 40 [ptr t.bt,.slice (some ⟨gN,0,none⟩) eB.length nN,.int .i64 low] I [t.aY fK,cZ gN cN] λv I' M'=>I'=I /\
   ∃ (T:Nat->Nat->b2),hR t.P t.nn T/\(∀ k b,low<=b->(T k b).ce=b8 t.P k b)/\(∀ k,k<t.n0->∀ b,T k b=fK k b)/\M'=[t.aY T]:=by
 refine bX [] aV Tryz.func40 rfl rfl rfl ?_;intro B ao;have cI:=h.ok.sz;refine bb.whole _ aaN ?_;rintro v I' M' -⟨rfl,rfl,rfl⟩;refine oD.mk 0 eB.length rfl rfl (bq _) (by show 8*eB.length<=_;omega) (by omega) ?_;refine cz.mk λaa8 aio aip=>?_;refine aF.mk _ (h.ok.gh (j:=0) (by decide)) ?_;refine dB.inv (ι:=RN) (λx=>{ bj:=[(0,.val (ptr t.bt)),(1,.val (.slice (some ⟨x.gA,0,none⟩) x.L.length x.nA)),(2,.val (.int .i64 low)),(6,.ref 6 0),(7,.val (.slice (some ⟨x.gD,0,none⟩) x.d x.nD)),(8,.val (.int .i64 x.v))],cl:=[(6,C6)],c5:=I',dv:=[t.aY x.T,cZ x.gA x.cj,cZ x.gD x.cn] }) (λx=>aa2 t fK eB low x) (λx=>x.p) ?_ ?_
 ·refine⟨⟨t.s.size+1,t.s.size,fK,eB,gN,nN,cN,aa8,eB.length,0,rowOf [b4 0] (eB.length*1)⟩,⟨by simp only;omega,cC _,by simp only;omega,h.inv,λk b ai=>h.inv.out k b λe=>by have aa:b<=t.s.size:=e.2;simp only at ai;omega,λ_ _ _=>rfl,.refl _,fD,aa7,by simp[rowOf],c7,cC _,KL,by simp only;omega⟩,.perm ?_ .refl,nF,.cons rfl (.nil)⟩;exact(List.Perm.swap _ _ _).trans (.cons _ (.swap _ _ _))
 rintro⟨p,v,T,L,gA,nA,cj,gD,nD,d,cn⟩bF;have ag:=bF.v;have aG:=bF.p;have aa9:=bF.aa3;have KM:=bF.aa4;have KN:=bF.aa5;have RO:=bF.jg;have RP:=bF.cT;have KK:=bF.perm.length_eq;simp only at ag aG aa9 KM KN RO RP KK;refine a0.mk (λe=>?_) (λe=>?_)
 ·have c1:(low:Int)<=v:=du e;obtain⟨a,rfl⟩:∃ a,p=a+1:=⟨p-1,by omega⟩;obtain rfl:v=(a:Int):=by omega
  have RQ:Gw I' t T L a:=⟨h.ok.ra λk ae b=>bF.c3 k ae b,bF.inv,h.ch,h.na,h.n0,λk ae=>h.lo k (bF.perm.mem_iff.1 ae),by omega⟩;have b0:=aaV (D0:=[]) RQ (gA:=gA) (gD:=gD) (nA:=nA) (nD:=nD) (cA0:=cj) (cD0:=cn) bF.At bF.C8 bF.r' (by simp) (by omega) (by simp;omega) KM KN;refine cW.draw aV rfl rfl rfl ?_;refine ie.mk 0 0 rfl rfl (cC _) (bq _) ?_;refine fi.aah _ b0 ?_;rintro v dP dr -⟨rfl,k3,Au,aba,abb,s1,s2,dQ,yD,abc,abd,abe,rfl,rfl⟩;rw[mT]at yD;have RR:=yD.length_eq;have hold:∀ k,k<t.n0->∀ b,k3 k b=fK k b:=λk ae b=>by rw[s2 k b λx=>by have:=(RQ.lo k x.1).1;omega];exact bF.c3 k ae b
  have CZ:∀ k b,a<b->(k3 k b).ce=b8 t.P k b:=λk b ai=>by rw[s2 k b λx=>by omega];exact bF.up k b ai
  have gS:∀ k,(k3 k a).ce=b8 t.P k a:=Z4 s1 h.ch CZ (λk ae bg=>by
   by_cases fI:k<t.n0;·refine Z5 s1 ae (by show a<=t.s.size;omega) (h.ch k ae) ?_ bg;rw[hold k fI a];exact h.c3 k fI a
   ·exact dQ k (bF.perm.mem_iff.2 (h.all k (by omega) ae)) bg) (by show a<=t.s.size;omega)
  refine a5.mk ((a:Int)-1) (gB rfl (by omega)) ?_;refine⟨⟨a,(a:Int)-1,k3,Au,gD,nD,abb,gA,nA,L.length,aba⟩,⟨⟨rfl,by simp only;omega,by simp only;omega,s1,λk b ai=>?_,hold,yD.trans bF.perm,abd,abe,abc,RP,RO,KN,KM⟩,by simp only;omega⟩,.perm (.cons _ (.swap _ _ _)) .refl,nF,.cons rfl (.nil)⟩;by_cases e:b=a;·rw[e];exact gS k
  ·exact CZ k b (by simp only at ai;omega)
 ·have aK:¬ (low:Int)<=v:=dt e;refine⟨_,_,.sub (M1:=[t.aY T]) (.cons_cons _ (.cons _ (.cons _ .slnil))) .refl,rfl,T,bF.inv,λk b ai=>bF.up k b (by simp only;omega),bF.c3,rfl⟩
def Rx.n{a2:List p9}{f:p9}{g:Nat}(h:Rx os a2 f g):os.n=a2.length+1:=by have:=h.ok.len;rw[hb _ 5 p9.de]at this;simp at this;omega
def bl.RS{X:cD}{F:Fr}{C:c2}{o:Oper}{K:fo}(aE:cE X.P X.E){s:Operand}{t:Nat}(aq:o.op=.call { callee:=.builtin .append,args:=#[s,x],argTypes:=#[t,t] })(ah:∀ d,o.dst=some d->d<X.n)
  {e:Nat} (av:X.E t=some dc) (dL:dc.bz=.slice e) (he:X.E e=some aD)
  (os:bk) (bf:os.ok aD.size xs) (ap:br F s=.val os.val)
 (ab:br F x=.val (.slice (some ⟨b9,0,none⟩) 1 c')) (ar:cs.length=aD.size) (U:hH cs=true)
  (a6:List ay) (a4:M=⟨b9,.cells cs.toArray e (0,0)⟩::(a6++os.aY e)) (bI:os.n+1<=9223372036854775807) (cx:(os.n+1)*aD.bytes<=140737488355328)
  (k:∀ cY:bk,cY.n=os.n+1->(∀ g,cY.a=some g->I g=none)->cY.ok aD.size (xs++cs)->K (put o.dst (.val cY.val) F) C I (a6++cY.aY e)):bl X o F C I M K:=
 .wP aE aq ah av dL he os bf ap ab ar U a6 [] (by rw[dF];exact a4) bI cx λcY aa af aR=>by rw[dF];exact k cY aa af aR
section
variable{X:cD}{F:Fr}{C:c2}{I:aS}{M:List ay}{o:Oper}
def uv.abf(aE:cE X.P X.E){s:Operand}{t:Nat}(aq:o.op=.call { callee:=.builtin .append,args:=#[s,x],argTypes:=#[t,t] })
  {e:Nat} (av:X.E t=some dc) (dL:dc.bz=.slice e) (he:X.E e=some aD)
  (os:bk) (bf:os.ok aD.size xs) (ap:br F s=.val os.val)
  {ad:Addr} {m:Nat} (ab:br F x=.val (.slice (some ad) m c')) {ct:List Value} (hm:0<m) (ax:ca I M ad (m*aD.size) ct) (U:hH ct=true)
  {Mr:List ay} (a4:M.Perm (os.aY e++Mr)) (bI:os.n+m<=maxLen) (cx:(os.n+m)*aD.bytes<=140737488355328)
  (M':bk->List ay) (KO:∀ cY:bk,(cY.aY e++Mr).Perm (M' cY))
  (k:∀ cY:bk,cY.n=os.n+m->(∀ g,cY.a=some g->I g=none)->cY.ok aD.size (xs++ct)->K (.val cY.val) I (M' cY)):uv X o F C I M K:=by
 refine⟨fun β a w Q jY=>?_⟩;have yE:ct.length=m*aD.size:=by obtain⟨_,_,_,_,_,_,h⟩:=ax;exact h
 have gn:∀ w,dY I M w->(Builtin.firstCells aD.size m (.slice (some ad) m c')).run X.P w=.ok ct.toArray w:=λw hw=>by
  obtain⟨b0,cs,T,aj,dR,ag,ar⟩:=ax;refine run_firstCells_some (P:=X.P) w aD.size m ad m c' ct ar λj v an=>?_;rw[dS _ b0,sH (dR.heap hw)];rw[<-ag,kx]at an;split at an;·rw[pI]at an;simpa using an
  ·cases an
 have a1:cp X β a w F C I (os.aY e++Mr):=jY.hh (.perm a4 .refl);obtain⟨inf,z,hi,fa,g8,hY,ka⟩:=(aE _ _ he).inf;obtain⟨fl,pS,ke⟩:=(aE _ _ av).eJ;have rL:fl=.slice e:=by rw[dL]at ke;cases fl<;>simp_all[eD]
 subst rL;have uF:z.cells.size=inf.size:=by rw[fa,<-(aE _ _ he).len,<-ka];simp
 have Gy:=bf;rw[<-fa]at bf yE gn;obtain⟨g,c,aJ,w',eK,aT,aU,bG,fk,mX⟩:=Ou (P:=X.P) (w:=w) t t o.type e inf z pS pS (λk bn=>by cases bn) hi hY uF bf (λg aA=>a1.holds.m ⟨g,.cells os.aJ.toArray e (0,0)⟩ (by simp[bk.aY,aA])) (x:=.slice (some ad) m c') hm yE (xx U) (λ_=>rfl) (λw' IT=>gn w' (jY.holds.heap IT)) bI (by rw[g8];exact cx);rw[fa]at aT fk yE;have IU:I g=none:=by
  rcases mX with⟨aA,_⟩ | ⟨rfl,_⟩;·exact a1.holds.d ⟨g,.cells os.aJ.toArray e (0,0)⟩ (by simp[bk.aY,aA])
  ·cases bF:I w.heap.size with
   |none=>rfl| some mg=>have:=a1.holds.i _ _ bF;simp at this
 have es:=cV a1.aj ap;have ex:=cV a1.aj ab;have abg:(⟨some g,os.n+m,c,aJ⟩:bk).ok aD.size (xs++ct):=by
  refine⟨?_,(λh=>by cases h),λdD aA=>?_⟩;·rw[cU,Gy.len,yE,jG]
  ·cases aA;exact⟨aT,aU,bG,fk⟩
 refine hV (by rw[aq];simp) (v:=.slice (some ⟨g,0,none⟩) (os.n+m) c) (w':=w') ?_ ⟨_,.val (.slice (some ⟨g,0,none⟩) (os.n+m) c),I,M' ⟨some g,os.n+m,c,aJ⟩,rfl,rfl,?_,k ⟨some g,os.n+m,c,aJ⟩ rfl (λdD aA=>by cases aA;exact IU) abg,rfl⟩
 ·unfold execOp;simp only[aq,resolve,invoke,builtin,bZ,cG,bK,sX,dV,mU,es,ex,eK]
 ·refine cp.hh ?_ (.perm (KO _) .refl);rcases mX with⟨aA,rfl⟩ | ⟨rfl,rfl⟩
  ·have ai:os.aY e=[⟨g,.cells os.aJ.toArray e (0,0)⟩]:=by simp[bk.aY,aA]
   rw[ai]at a1;exact a1.vy (a6:=[]) (post:=Mr) rfl
  ·have aa:cp X β a w.drew F C I (os.aY e++Mr):=a1.world rfl;have af:=aa.mM (.cells aJ.toArray e (0,0));refine af.hh (.sub ?_ .refl);exact List.Sublist.cons_cons _ (kH _ _)
def uv.wP(aE:cE X.P X.E){s:Operand}{t:Nat}(aq:o.op=.call { callee:=.builtin .append,args:=#[s,x],argTypes:=#[t,t] })
  {e:Nat} (av:X.E t=some dc) (dL:dc.bz=.slice e) (he:X.E e=some aD)
  (os:bk) (bf:os.ok aD.size xs) (ap:br F s=.val os.val)
 (ab:br F x=.val (.slice (some ⟨b9,0,none⟩) 1 c')) (ar:cs.length=aD.size) (U:hH cs=true)
  (a6 post:List ay) (a4:M=⟨b9,.cells cs.toArray e (0,0)⟩::(a6++(os.aY e++post))) (bI:os.n+1<=9223372036854775807) (cx:(os.n+1)*aD.bytes<=140737488355328)
  (k:∀ cY:bk,cY.n=os.n+1->(∀ g,cY.a=some g->I g=none)->cY.ok aD.size (xs++cs)->K (.val cY.val) I (⟨b9,.cells cs.toArray e (0,0)⟩::(a6++(cY.aY e++post)))):uv X o F C I M K:=by
 have aG:∀ cY:bk,(cY.aY e++(⟨b9,.cells cs.toArray e (0,0)⟩::(a6++post)):List ay).Perm (⟨b9,.cells cs.toArray e (0,0)⟩::(a6++(cY.aY e++post))):=λcY=>
  pi.trans (.cons _ (CK _ _ _))
 refine .abf aE aq av dL he os bf ap (m:=1) (ct:=cs) ab (by decide) ?_ U (Mr:=⟨b9,.cells cs.toArray e (0,0)⟩::(a6++post)) ?_ (by unfold maxLen;exact bI) cx _ aG k
 ·rw[oX];refine⟨rfl,_,_,_,.inr ⟨⟨b9,.cells cs.toArray e (0,0)⟩,by rw[a4];exact .head _,rfl,rfl⟩,?_,ar⟩;simp only[zJ];exact hn (by omega)
 ·rw[a4];exact(aG os).symm
end
def KP{ds:List bE}{i:Nat}(hi:i<ds.length):cP (ds.take (i+1))=cP (ds.take i)+ds[i].t.ns.length:=by unfold cP;rw[hU hi,gX,Jh];simp
def KQ(ds:List bE)(i:Nat):cP (ds.take i)<=cP ds:=by
 conv=>rhs;rw[<-uB i ds]
 unfold cP;rw[gX,Jh];omega
def KR:∀ (b:Nat) (ds:List bE) (i:Nat) (hi:i<ds.length) (cw:i<(gU b ds).length),(gU b ds)[i]=b+cP (ds.take i)+ds[i].t.b1.toNat
 |b,d::ds,0,_,_=>by simp[gU,cP]
 |b,d::ds,i+1,hi,cw=>by have:=KR (b+d.t.ns.length) ds i (by simpa using hi) (by simpa[gU]using cw);simp only[gU,E8,this,qI];simp[cP];omega
def abh(m:Nat):rowOf h7.cells (m*4)=(List.replicate m h7).flatMap b2.cells:=by
 induction m with
 |zero=>rfl
 |succ w be=>
  have e:(w+1)*4=w*4+4:=by omega
  have aB:rowOf h7.cells ((w+1)*4)=rowOf h7.cells (w*4)++h7.cells:=by
   unfold rowOf;rw[e,List.range_add,gX];congr 1;apply uD (by rfl);intro i U aa;simp only[lE,ph];have af:i<4:=by simpa using U
   have aR:(w*4+i)%h7.cells.length=i:=by show(w*4+i)%4=i;omega
   rw[aR]
   match i,af with
   |0,_=>rfl| 1,_=>rfl| 2,_=>rfl| 3,_=>rfl
  rw[aB,be,List.replicate_succ'];simp
def RT(w:Nat):∀ n,((List.range n).flatMap λ_=>(List.range w).flatMap λ_=>h7.cells)=(List.replicate (n*w) h7).flatMap b2.cells
 |0=>by rw[B1];rfl
 |n+1=>by
  have U:((List.range w).flatMap λ_=>h7.cells)=(List.replicate w h7).flatMap b2.cells:=by
   have e:(List.range w).map (λ_=>h7)=List.replicate w h7:=by rw[List.map_const',r3]
   rw[<-e,C5]
  rw[KG,mm,RT w n,lD,List.flatMap_nil,dF,U,<-mm,List.replicate_append_replicate,jG,oX]
def Av(eP w i:Nat):Value:=.slice (some ⟨eP,i*(w*4),none⟩) w w
def Db(eP w n:Nat):List Value:=(List.range n).map (Av eP w)
def abi(n w:Nat)(ax:n<=4096)(hw:w<=8192)(U:1<=w):Spec Tryz.prog 39 [.int .i64 n,.int .i64 w] I M0 λv I' M'=>I'=I/\∃ iF eP,v=.slice (some ⟨iF,0,none⟩) n n /\
  M'=⟨iF,.cells (Db eP w n).toArray 105 (0,0)⟩::⟨eP,.cells ((List.replicate (n*w) h7).flatMap b2.cells).toArray 107 (0,0)⟩::M0:=by
 refine bX [] aV Tryz.func39 rfl rfl rfl ?_;intro B ao;have bo:∀ i,i<=n->i*w<=33554432:=λi hi=>by have:=Nat.mul_le_mul (jx hi ax) hw;omega
 have aiq:=bo n (cC _);refine a5.mk ((n*w:Nat):Int) (gB (by simp) (by omega)) ?_;refine oD.mk (n*w) (n*w) rfl rfl (cC _) (by show 16*(n*w)<=_;omega) (by omega) ?_;refine cz.mk λeP Dc air=>?_;refine oD.mk n n rfl rfl (cC _) (by show 24*n<=_;omega) (by omega) ?_;refine cz.mk λiF RU ais=>?_;refine dB.inv (ι:=Nat) (λi=>{ bj:=[(1,.val (.int .i64 w)),(5,.val (.slice (some ⟨eP,0,none⟩) (n*w) (n*w))),(6,.val (.slice (some ⟨iF,0,none⟩) n n)),(15,.val (.int .i64 n)),(16,.val (.int .i64 i))],cl:=[],c5:=I,dv:=⟨iF,.cells ((List.range i).map (Av eP w)++List.replicate (n-i) (Value.slice none 0 0)).toArray 105 (0,0)⟩::⟨eP,.cells ((List.replicate (n*w) h7).flatMap b2.cells).toArray 107 (0,0)⟩::M0 }) (λi=>i<=n) (λi=>n-i) ?_ ?_
 ·refine⟨0,bq _,.Gp ?_,g',.nil⟩;have aw:rowOf [Value.slice none 0 0] (n*1)=List.replicate n (Value.slice none 0 0):=by rw[Fg,kd]
  have aB:=abh (n*w);show(⟨iF,.cells (rowOf [Value.slice none 0 0] (n*1)).toArray 105 (0,0)⟩:ay)::⟨eP,.cells (rowOf h7.cells (n*w*4)).toArray 107 (0,0)⟩::M0=_;rw[aw,aB];rfl
 intro i hi;refine a0.mk (λe=>?_) (λe=>?_)
 ·have aK:i<n:=by simpa using e
  have fa:=bo i hi;have g8:=bo (i+1) (by omega);have KS:(i+1)*w=i*w+w:=by rw[jG,oX]
  have abj:(i+1)*w<=n*w:=rr _ aK;refine a5.mk ((i*w:Nat):Int) (gB (by simp) (by omega)) ?_;refine a5.mk _ (cm (i:=i) (by omega)) ?_;refine a5.mk (((i+1)*w:Nat):Int) (gB (by simp) (by omega)) ?_;refine a5.mk _ (cm (i:=i) (by omega)) ?_;refine a5.mk (((i+1)*w:Nat):Int) (gB (by simp) (by omega)) ?_;refine bl.slice3 aV rfl (by simp) (e:=107) rfl rfl rfl (i*w) ((i+1)*w) ((i+1)*w) (ad:=some ⟨eP,0,none⟩) (n:=n*w) (c:=n*w) rfl rfl rfl rfl (by omega) (cC _) abj ?_;refine bc.mk ⟨iF,0,none⟩ i rfl rfl aK ?_;refine cg.f' [] _ ((List.range i).map (Av eP w)++List.replicate (n-i) (Value.slice none 0 0)) _ rfl ?_ rfl ((List.range (i+1)).map (Av eP w)++List.replicate (n-(i+1)) (Value.slice none 0 0)) ?_ ?_;·rw[mA,cU,eX,r3,xO];show 0+i*1+1<=_;omega
  ·have r9:List.replicate (n-i) (Value.slice none 0 0)=.slice none 0 0::List.replicate (n-(i+1)) (Value.slice none 0 0):=by rw[show n-i=(n-(i+1))+1 from by omega,q0]
   have ag:(Value.slice (if(i+1)*w=i*w then some ⟨eP,0,none⟩else(some (⟨eP,0,none⟩:Addr)).map (·.add (i*w*4))) ((i+1)*w-i*w) ((i+1)*w-i*w))=Av eP w i:=by rw[cA (by omega),KS,JU];unfold Av;rw[jT,dS _ rfl,dk,Nat.mul_assoc]
   rw[r9,KG,gX,gl];refine(P3 (k:=0+i*1) (by rw[eX,r3];omega)).trans ?_;rw[ag];rfl
  refine a5.mk _ (cm (i:=i) (by omega)) ?_;exact⟨i+1,⟨by omega,by omega⟩,.refl,g',.nil⟩
 ·have c1:n<=i:=by simpa using e
  obtain rfl:i=n:=by omega
  refine⟨_,_,.refl,rfl,iF,eP,rfl,?_⟩;rw[q1,JX,dF];rfl
def Aw{G F:Fr}{y:Operand}{r:c6}(h:c0 G y=c0 F y)(a':br F y=r):br G y=r:=by simp only[br,di,h];exact a'
def abk{d:a9}{n:Int}(h:fits d n=true)(ao:0<=d.k):d.t.size<=255:=by
 unfold fits at h;have z:(⟨#[]⟩:ByteArray).size=0:=rfl;cases U:decide (10<=d.k)with
 |true=>rw[U]at h;cases h
 |false=>
  rw[U,ba]at h;cases aa:decide (n<qO d.k.toNat)||(decide (0<=mZ d.k.toNat)&&decide (mZ d.k.toNat<n))with
  |true=>rw[aa]at h;cases h
  |false=>
   rw[aa,ba]at h;cases af:decide (d.k=1)with
   |true=>rw[af,bh]at h;simp only[b3,e0]at h;rw[h.1,z];omega
   |false=>
    rw[af,ba]at h;cases aR:decide (d.k=2)with
    |true=>rw[aR,bh]at h;simp only[b3,nw,oW,nP]at h;omega
    |false=>
     rw[aR,ba]at h;cases bC:decide (d.k=3)||decide (d.k=9)with
     |true=>rw[bC,bh]at h;simp only[kM,b3,e0]at h;omega
     |false=>
      rw[bC,ba]at h;cases bO:decide (d.k=6)with
      |true=>rw[bO,bh]at h;simp only[b3,e0]at h;rw[h.2.2,z];omega| false=>rw[bO,ba]at h;simp only[b3,e0]at h;rw[h.2.1,z];omega
def abl{b T:Nat}{l:List Nat}(h:I b=some (.cells (l.map λ(k:Nat)=>Value.int .i64 (k:Int)).toArray T (0,0)))(ar:l.length<=1048576){n:Nat}(ax:l.length=n):fb I (some ⟨b,0,none⟩) n n 1 8 (l.map λ(k:Nat)=>Value.int .i64 (k:Int)):=by subst ax;refine⟨by simp,⟨cC _,by omega⟩,.inr ⟨_,rfl,rfl,_,T,(0,0),h,?_⟩⟩;simp only[zJ];exact hn (by simp)
def va(d:bE):Value:=.string d.name
def abm{g:dX}(aA:g.ok I)(ax:g.n<=4096):Spec Tryz.prog 37 [g.val] I M0 λv I' M'=>I'=I/\∃ os:bk,v=os.val/\os.n=g.n/\os.ok 1 (g.ds.map va)/\M'=os.aY 9++M0:=by
 refine bX [] aV Tryz.func37 rfl rfl rfl ?_;intro B ao;have gb:=aA.n;refine dB.inv (ι:=Nat×bk) (λx=>{ bj:=[(3,.val x.2.val),(7,.val (.slice g.a g.n g.c)),(8,.val (.int .i64 g.n)),(9,.val (.int .i64 x.1))],c5:=I,dv:=x.2.aY 9++M0 }) (λx=>x.1<=g.n/\x.2.n=x.1/\x.2.ok 1 ((g.ds.take x.1).map va)) (λx=>g.n-x.1) ?_ ?_
 ·exact⟨(0,qX),⟨bq _,rfl,uS 1⟩,.refl,ew,.nil⟩
 rintro⟨i,os⟩⟨hi,Ax,ep⟩;simp only at hi Ax ep;refine a0.mk (λh=>?_) (λh=>?_)
 ·have aK:i<g.n:=by simpa using h
  have bP:i<g.ds.length:=by omega
  obtain⟨ad,b7,bs⟩:=aA.bd.row bE.de aK bP;refine bc.mk ad i b7 rfl aK ?_;refine aF.mk _ (bs _) ?_;refine cz.mk λb9 gz yg=>?_;refine bl.wP aV rfl (by simp) (e:=9) rfl rfl rfl os ep rfl (cs:=[.string (g.ds[i]).name]) rfl rfl rfl [] M0 rfl (by omega) (by show(os.n+1)*16<=_;omega) ?_;intro iU wS ht h0;refine a5.mk _ (cm (i:=i) (by omega)) ?_;refine⟨(i+1,iU),⟨⟨aK,by simp only;omega,?_⟩,by simp only;omega⟩,.refl,ew,.nil⟩;simp only;rw[hU bP,gX];exact h0
 ·have c1:g.n<=i:=by simpa using h
  obtain rfl:i=g.n:=by omega
  rw[hn (by omega)]at ep;exact⟨_,_,.refl,rfl,os,rfl,Ax,ep,rfl⟩
def abn{ds:List bE}{n c:Nat}(al:fb I kk n c 1 16 (ds.map va))(bU:ByteArray):Spec Tryz.prog 91 [.slice kk n c,.string bU] I M0 λv I' M'=>v=.int .i64 (c9 bU ds 0)/\I'=I/\M'=M0:=by
 refine bX [] aV Tryz.func91 rfl rfl rfl ?_;intro B ao;have ax:ds.length=n:=by have:=al.len;rw[eX]at this;omega
 have ki:=al.cap.2;refine dB.inv (ι:=Nat) (λi=>{ bj:=[(0,.val (.slice kk n c)),(1,.val (.string bU)),(7,.val (.int .i64 n)),(8,.val (.int .i64 i))],c5:=I,dv:=M0 }) (λi=>i<=n/\c9 bU ds 0=c9 bU (ds.drop i) i) (λi=>n-i) ?_ ?_
 ·exact⟨0,⟨bq _,rfl⟩,.refl,ew,.nil⟩
 rintro i⟨hi,az⟩;refine a0.mk (λh=>?_) (λh=>?_)
 ·have aK:i<n:=by simpa using h
  have bP:i<ds.length:=by omega
  obtain⟨ad,b7,bs⟩:=al.one (f:=va) aK bP;have ji:ds.drop i=ds[i]::ds.drop (i+1):=fg bP;rw[ji,c9]at az;refine bc.mk ad i b7 rfl aK ?_;refine aF.mk _ (bs _) ?_;refine a0.mk (λaa=>?_) (λaa=>?_);·have e:(ds[i]).name=bU:=(du aa).symm;rw[iQ e,bh]at az;exact⟨_,_,.refl,by rw[az],rfl,rfl⟩
  ·have e:¬ (ds[i]).name=bU:=λe=>dt aa e.symm;rw[ea e,ba]at az;refine a5.mk _ (cm (i:=i) (by omega)) ?_;exact⟨i+1,⟨⟨aK,az⟩,by omega⟩,.refl,ew,.nil⟩
 ·have c1:n<=i:=by simpa using h
  refine⟨_,_,.refl,?_,rfl,rfl⟩;rw[az,ir (by omega)];rfl
def mD(bt:Nat)(s:ByteArray)(nv rv yF rwv:Value):ay:=⟨bt,.cells [.string s,nv,rv,yF,rwv].toArray 91 (0,0)⟩
def yG{s:ByteArray}{yF:Value}(a4:mD bt s nv rv yF rwv∈M){j:Nat}(an:j<5):ca I M ((⟨bt,0,none⟩:Addr).add j) 1 [([.string s,nv,rv,yF,rwv]:List Value).getD j undef]:=by
 have h:=dn (I:=I) (cs:=[.string s,nv,rv,yF,rwv]) (k:=j) (n:=1) a4 (by show j+1<=5;omega);have:(([.string s,nv,rv,yF,rwv]:List Value).drop j).take 1=[([.string s,nv,rv,yF,rwv]:List Value).getD j undef]:=by
  match j,an with
  |0,_=>rfl| 1,_=>rfl| 2,_=>rfl| 3,_=>rfl| 4,_=>rfl
 rwa [this]at h
def sd(b:Nat)(L:List Nat)(n:a9):a9:={ n with kg:=some ⟨b,0,none⟩,kn:=L.length,jc:=L.length,aX:=L.map λ(k:Nat)=>(k:Int) }
def abo(b:Nat)(L:List Nat)(n:a9):(sd b L n).pn=⟨n.yz,L⟩:=by unfold a9.pn sd;congr 1;rw[lM];exact List.map_id'' (λx=>by simp) L
def abp{b T:Nat}{n:a9}(h:n.ok I)(bF:I b=some (.cells (L.map b4).toArray T (0,0)))(ar:L.length<=1048576)(c7:∀ x∈L,x<=1048576):(sd b L n).ok I:=by
 refine { h with bd:=?_,aX:=λx ab=>?_ }
 ·show fb I (some ⟨b,0,none⟩) L.length L.length 1 8 ((L.map λ(k:Nat)=>(k:Int)).map (.int .i64 ·));rw[lM];exact abl (T:=T) bF ar rfl
 ·obtain⟨y,aN,rfl⟩:=ej.1 ab;have:=c7 y aN;unfold mY;omega
structure RV(I:aS)(ds:List bE)(kk ei:Option Addr)(nq h8:Nat)(a3:Nat)(t:dG):Prop where
 bU:fb I kk ds.length nq 1 16 (ds.map va)
 rt:fb I ei ds.length h8 1 8 ((gU 0 ds).map b4)
 ns:∀ n∈t.ns,(∀ k∈n.aX,0<=k/\k.toNat<=4096)/\n.aX.length<=4096/\n.t.size<=4096
 abq:∀ x∈gU 0 ds,x<=4096
 len:ds.length<=4096
 many:a3+t.n<=4096
def Ay(ds:List bE)(a3:Nat)(n:a9):n5:=⟨n.yz,ko ds a3 n⟩
def iG(p:Nat×List Nat):ay:=⟨p.1,.cells (p.2.map b4).toArray 3 (0,0)⟩
def nr(kb:List (Nat×List Nat))(ns:List a9):List a9:=List.zipWith (λp n=>sd p.1 p.2 n) kb ns
structure Dd(ds:List bE)(xs:List a9)(t:dG)(i:Nat)(os:bk)(kb:List (Nat×List Nat)):Prop where
 ii:i<=t.n
 n:os.n=xs.length+i
 ok:os.ok 9 ((xs++nr kb (t.ns.take i)).flatMap a9.cells)
 kb:kb.map (·.2)=(t.ns.take i).map (ko ds xs.length)
 find:∀ n∈t.ns.take i,n.k=3->0<=c9 n.t ds 0
def abr{ns:List a9}(h:kb.length=ns.length)(p:Nat×List Nat)(n:a9):nr (kb++[p]) (ns++[n])=nr kb ns++[sd p.1 p.2 n]:=by unfold nr;rw[List.zipWith_append h];rfl
def Dd.len{ds:List bE}{xs:List a9}{t:dG}{i:Nat}(h:Dd ds xs t i os kb)(ax:t.ns.length=t.n):kb.length=(t.ns.take i).length:=by have:=congrArg List.length h.kb;simpa using this
def RW(x y:ay)(A:List ay)(kb:List (Nat×List Nat)){p:Nat×List Nat}(ab:x=iG p:=by rfl):(x::y::(A++kb.map iG)).Perm (y::(A++(kb++[p]).map iG)):=by subst ab;rw[gX,<-gl];exact(List.Perm.swap _ _ _).trans (.cons _ (ha (l₁:=[iG p]) (l₂:=A++kb.map iG)))
def abt{t:dG}(av:t.ok I){ds:List bE}{ei:Option Addr}{nq h8:Nat}{xs:List a9}(h:RV I ds kk ei nq h8 xs.length t){lu:bk}(De:lu.ok 9 (xs.flatMap a9.cells))(bt:Nat)(s:ByteArray)(rwv:Value) :
  Spec Tryz.prog 38 [ptr bt,t.val] I (mD bt s (.slice kk ds.length nq) (.slice ei ds.length h8) lu.val rwv::(lu.aY 83++[])) λv I' M'=>I'=I/\∃ (i:Nat) (os:bk) (kb:List (Nat×List Nat)),Dd ds xs t i os kb /\
   M'=mD bt s (.slice kk ds.length nq) (.slice ei ds.length h8) os.val rwv::(os.aY 83++kb.map iG)/\((v=.bool true/\i=t.n)\/(v=.bool false/\∃ n∈t.ns,n.k=3/\c9 n.t ds 0<0)):=by
 refine bX [] aV Tryz.func38 rfl rfl rfl ?_;intro B ao;have pf:=av.n;have ait:=h.many;have abu:lu.n=xs.length:=by have:=De.len;rw[hb _ 9 a9.de]at this;omega
 refine aF.mk _ (yG (j:=3) (.head _) (by decide)) ?_;refine dB.inv (ι:=Nat×bk×List (Nat×List Nat)) (λx=>{ bj:=[(0,.val (ptr bt)),(4,.lit false),(5,.val (.int .i64 lu.n)),(18,.val (.slice t.a t.n t.c)),(19,.val (.int .i64 t.n)),(20,.val (.int .i64 x.1))],cl:=[],c5:=I,dv:=mD bt s (.slice kk ds.length nq) (.slice ei ds.length h8) x.2.1.val rwv::(x.2.1.aY 83++x.2.2.map iG) }) (λx=>Dd ds xs t x.1 x.2.1 x.2.2) (λx=>t.n-x.1) ?_ ?_
 ·exact⟨(0,lu,[]),⟨bq _,abu,by simpa[nr]using De,rfl,λn ax=>(by cases ax)⟩,.refl,nF,.nil⟩
 rintro⟨i,os,kb⟩iM;have hi:=iM.ii;have Ax:=iM.n;have KT:=iM.ok;have Gz:=iM.len pf;simp only at hi Ax KT Gz;refine a0.mk (λe=>?_) (λe=>?_)
 rotate_left
 ·have c1:t.n<=i:=by simpa using e
  obtain rfl:i=t.n:=by omega
  exact⟨_,_,.refl,rfl,t.n,os,kb,iM,rfl,.inl ⟨rfl,rfl⟩⟩
 have aK:i<t.n:=by simpa using e
 have bP:i<t.ns.length:=by omega
 obtain⟨ad,b7,bs⟩:=av.bd.row a9.de aK bP;obtain⟨d,ah⟩:∃ d,t.ns[i]=d:=⟨_,rfl⟩;have eA:d∈t.ns:=by rw[<-ah];exact dK bP
 have oU:=av.ns d eA;have dR:=oU.kn;obtain⟨fI,fr,pw⟩:=h.ns d eA;rw[ah]at bs;have nT:t.ns.take (i+1)=t.ns.take i++[d]:=by rw[hU bP,ah]
 have CF:∀ (b:Nat) (L:List Nat),((xs++nr kb (t.ns.take i)).flatMap a9.cells)++(sd b L d).cells=(xs++nr (kb++[(b,L)]) (t.ns.take (i+1))).flatMap a9.cells:=λb L=>by rw[nT,abr Gz,<-gl,mm];simp
 have next:∀ (b:Nat) (L:List Nat) (cY:bk),L=ko ds xs.length d->(d.k=3->0<=c9 d.t ds 0)->cY.n=os.n+1->cY.ok 9 ((xs++nr kb (t.ns.take i)).flatMap a9.cells++(sd b L d).cells)->Dd ds xs t (i+1) cY (kb++[(b,L)]):=λb L cY c7 az ax bf=>by
  refine⟨aK,by omega,by rw[<-CF];exact bf,?_,λn ax=>?_⟩;·rw[gX,iM.kb,nT,gX,c7];rfl
  ·rw[nT]at ax;rcases eb.1 ax with ax | ax
   ·exact iM.find n ax
   ·rw[iY.1 ax];exact az
 refine bc.mk ad i b7 rfl aK ?_;refine aF.mk _ (bs _) ?_;refine oD.mk d.kn d.kn rfl rfl (cC _) (by show 8*d.kn<=_;omega) (by omega) ?_;refine cz.mk λcO J4 abv=>?_;refine dB.inv (ι:=Nat) (λj=>{ bj:=[(0,.val (ptr bt)),(4,.lit false),(5,.val (.int .i64 lu.n)),(7,.ref 7 0),(8,.val (.slice (some ⟨cO,0,none⟩) d.kn d.kn)),(18,.val (.slice t.a t.n t.c)),(19,.val (.int .i64 t.n)),(20,.val (.int .i64 i)),(29,.val (.slice d.kg d.kn d.jc)),(30,.val (.int .i64 d.kn)),(31,.val (.int .i64 j))],cl:=[(7,d.cells)],c5:=I,dv:=⟨cO,.cells ((d.aX.take j).map (λk=>b4 (xs.length+k.toNat))++List.replicate (d.kn-j) (b4 0)).toArray 3 (0,0)⟩::mD bt s (.slice kk ds.length nq) (.slice ei ds.length h8) os.val rwv::(os.aY 83++kb.map iG) }) (λj=>j<=d.kn) (λj=>d.kn-j) ?_ ?_
 ·refine⟨0,bq _,.Gp ?_,NQ,.cons rfl (.nil)⟩;have e:rowOf [b4 0] (d.kn*1)=List.replicate d.kn (b4 0):=by rw[Fg,kd]
  show(⟨cO,.cells (rowOf [b4 0] (d.kn*1)).toArray 3 (0,0)⟩:ay)::_=_;rw[e];rfl
 intro j an;refine a0.mk (λaB=>?_) (λaB=>?_)
 ·have yH:j<d.kn:=by simpa using aB
  have KU:j<d.aX.length:=by omega
  obtain⟨hq,h2,gI⟩:=oU.bd.one (f:=λ(k:Int)=>Value.int .i64 k) yH KU;have aiu:=fI _ (dK KU);refine bc.mk hq j h2 rfl yH ?_;refine aF.mk _ (gI _) ?_;refine a5.mk ((xs.length+d.aX[j].toNat:Nat):Int) (gB (by omega) (by omega)) ?_;refine bc.mk ⟨cO,0,none⟩ j rfl rfl yH ?_;refine cg.f' [] _ ((d.aX.take j).map (λk=>b4 (xs.length+k.toNat))++List.replicate (d.kn-j) (b4 0)) _ rfl ?_ rfl ((d.aX.take (j+1)).map (λk=>b4 (xs.length+k.toNat))++List.replicate (d.kn-(j+1)) (b4 0)) ?_ ?_;·rw[mA,cU,eX,ma,xO];show 0+j*1+1<=_;omega
  ·have r9:List.replicate (d.kn-j) (b4 0)=b4 0::List.replicate (d.kn-(j+1)) (b4 0):=by rw[show d.kn-j=(d.kn-(j+1))+1 from by omega,q0]
   rw[r9,hU KU,gX,gl];exact P3 (k:=0+j*1) (by rw[eX,ma];omega)
  refine a5.mk _ (cm (i:=j) (by omega)) ?_;exact⟨j+1,⟨by omega,by omega⟩,.refl,NQ,.cons rfl (.nil)⟩
 have c1:d.kn<=j:=by simpa using aB
 obtain rfl:j=d.kn:=by omega
 have q3:(d.aX.take d.kn).map (λk=>b4 (xs.length+k.toNat))++List.replicate (d.kn-d.kn) (b4 0)=(d.aX.map λk=>xs.length+k.toNat).map b4:=by rw[hn (by omega),q1];simp[KF]
 rw[q3];refine a0.mk (λaf=>?_) (λaf=>?_)
 ·have Df:d.k=3:=du af;refine cW.draw aV rfl rfl rfl ?_;refine aF.mk _ (yG (j:=1) (.tail _ (.head _)) (by decide)) ?_;refine bb.whole _ (abn h.bU d.t) ?_;rintro v I' M' -⟨rfl,rfl,rfl⟩;refine a0.mk (λdH=>?_) (λdH=>?_)
  ·have RX:c9 d.t ds 0<0:=du dH;exact⟨_,_,.sub (.cons _ (.refl _)) .refl,rfl,i,os,kb,iM,rfl,.inr ⟨rfl,d,eA,Df,RX⟩⟩
  have RX:¬ c9 d.t ds 0<0:=dt dH;have n4:=Ki ds 0 (by omega:0<=c9 d.t ds 0);obtain⟨q,aO⟩:∃ q:Nat,c9 d.t ds 0=(q:Int):=⟨(c9 d.t ds 0).toNat,by omega⟩;have e5:q<ds.length:=by omega
  have GA:q<(gU 0 ds).length:=by rw[Al];exact e5
  obtain⟨ac,abw,j2⟩:=h.rt.one (f:=b4) e5 GA;have Az:[(gU 0 ds)[q]]=ko ds xs.length d:=by rw[ko,iQ Df,bh,aO];simp[dh,GA]
  refine aF.mk _ (yG (j:=2) (.tail _ (.head _)) (by decide)) ?_;refine bc.mk ac q abw aO e5 ?_;refine aF.mk _ (j2 _) ?_;refine cz.mk λDg aiv aiw=>?_;refine cW.draw aV rfl rfl rfl ?_;refine aF.mk _ (yG (j:=3) (.tail _ (.tail _ (.head _))) (by decide)) ?_;refine cz.mk λb9 gz iD=>?_;intro G kF;refine uv.wP aV rfl (e:=83) rfl rfl rfl os KT (Aw (kF _ (by simp[Op.operands,Call.operands])) rfl) (Aw (kF _ (by simp[Op.operands,Call.operands])) rfl) (cs:=(sd Dg [(gU 0 ds)[q]] d).cells) rfl rfl ([iG (Dg,[(gU 0 ds)[q]]),⟨cO,.cells ((d.aX.map λk=>xs.length+k.toNat).map b4).toArray 3 (0,0)⟩,mD bt s (.slice kk ds.length nq) (.slice ei ds.length h8) os.val rwv]) (kb.map iG) rfl (by omega) (by show(os.n+1)*96<=_;omega) ?_;intro cY U aa aR;refine cg.mk (⟨b9,_⟩::[iG (Dg,[(gU 0 ds)[q]]),⟨cO,.cells ((d.aX.map λk=>xs.length+k.toNat).map b4).toArray 3 (0,0)⟩]) (cY.aY 83++kb.map iG) _ _ rfl rfl (bJ rfl) rfl ?_;refine a5.mk _ (cm (i:=i) (by omega)) ?_;refine⟨(i+1,cY,kb++[(Dg,[(gU 0 ds)[q]])]),⟨next _ _ _ Az (λ_=>by omega) U aR,by simp only;omega⟩,.sub (M1:=iG (Dg,[(gU 0 ds)[q]])::mD bt s (.slice kk ds.length nq) (.slice ei ds.length h8) cY.val rwv::(cY.aY 83++kb.map iG)) (.cons _ (.cons_cons _ (.cons _ (.refl _)))) (.perm (RW _ _ _ _) .refl),nF,.nil⟩
 ·have Df:¬ d.k=3:=dt af;have Az:(d.aX.map λk=>xs.length+k.toNat)=ko ds xs.length d:=by rw[ko,ea Df,ba]
  have abx:(d.aX.map λk=>xs.length+k.toNat).length=d.kn:=by rw[eX,dR]
  rw[<-abx];refine cW.draw aV rfl rfl rfl ?_;refine aF.mk _ (yG (j:=3) (.tail _ (.head _)) (by decide)) ?_;refine cz.mk λb9 gz iD=>?_;intro G kF;refine uv.wP aV rfl (e:=83) rfl rfl rfl os KT (Aw (kF _ (by simp[Op.operands,Call.operands])) rfl) (Aw (kF _ (by simp[Op.operands,Call.operands])) rfl) (cs:=(sd cO (d.aX.map λk=>xs.length+k.toNat) d).cells) rfl rfl ([iG (cO,d.aX.map λk=>xs.length+k.toNat),mD bt s (.slice kk ds.length nq) (.slice ei ds.length h8) os.val rwv]) (kb.map iG) rfl (by omega) (by show(os.n+1)*96<=_;omega) ?_;intro cY U aa aR;refine cg.mk (⟨b9,_⟩::[iG (cO,d.aX.map λk=>xs.length+k.toNat)]) (cY.aY 83++kb.map iG) _ _ rfl rfl (bJ rfl) rfl ?_;refine a5.mk _ (cm (i:=i) (by omega)) ?_;refine⟨(i+1,cY,kb++[(cO,d.aX.map λk=>xs.length+k.toNat)]),⟨next _ _ _ Az (λh=>absurd h Df) U aR,by simp only;omega⟩,.sub (M1:=iG (cO,d.aX.map λk=>xs.length+k.toNat)::mD bt s (.slice kk ds.length nq) (.slice ei ds.length h8) cY.val rwv::(cY.aY 83++kb.map iG)) (.cons _ (.refl _)) (.perm (RW _ _ _ _) .refl),nF,.nil⟩
def bE.KV(d:bE):Value:=.agg #[.string d.name,.slice d.t.a d.t.n d.t.c,.int .i64 d.t.b1]
def Dh:bE:=⟨⟨#[]⟩,⟨[],none,0,0,0⟩⟩
def py(l:List bE)(m:Nat):List (List Value):=(List.range m).reverse.map λi:Nat=>[.int .i64 (i:Int),(l.getD i Dh).KV]
def aby(l:List bE)(m:Nat):py l (m+1)=[.int .i64 m,(l.getD m Dh).KV]::py l m:=by unfold py;rw[KG,KD,List.reverse_singleton,List.singleton_append,dV]
def KW(l:List bE)(m:Nat):(py l m).length=m:=by simp[py]
def abz(l:List bE){m k:Nat}(ae:k<m):(py l m)[k]'(by rw[KW];exact ae)=[.int .i64 ((m-1-k:Nat):Int),(l.getD (m-1-k) Dh).KV]:=by simp only[py,lE,List.getElem_reverse,r3,ph]
def abA(a:Option Addr)(n c:Nat):Spec Tryz.prog 94 [.slice a n c] I [] λr I' M'=>∃ b,r=.func (.func 148) #[] #[ptr b]/\I' b=some (.cells #[.slice a n c] 22 (0,0))/\(∀ b o,I b=some o->I' b=some o)/\M'=[]:=by refine bX [1] aV Tryz.func94 rfl rfl rfl ?_;intro B ao;refine cz.mk λg aA zU=>?_;exact⟨_,_,.qs rfl (by simp) .refl,g,rfl,s8 ..,pY aA,rfl⟩
def abB{g:dX}(aA:g.ok I){b:Nat}(ai:I b=some (.cells #[.slice g.a g.n g.c] 22 (0,0))) :
  Iter Tryz.prog 148 [ptr b] I (py g.ds g.n):=by
 intro y R rK v9 dj M0 pZ jY;refine BM [] aV Tryz.func148 rfl rfl rfl ?_;intro B ao;have ki:=aA.bd.cap;have Gg:=aA.n;have bs:∀ (cL:aS) (M:List ay),(∀ b o,I b=some o->cL b=some o)->ca cL M ((⟨b,0,none⟩:Addr).add 0) 1 [.slice g.a g.n g.c]:=λcL M cM=>⟨rfl,_,_,_,.inl (cM _ _ ai),rfl,rfl⟩;refine aF.mk _ (bs _ _ pZ) ?_;refine a5.mk ((g.n:Int)-1) (by rw[wrap_i64 (by unfold mY;omega)]) ?_;refine dB.inv (ι:=Nat×Nat×aS×List ay) (λx=>{ bj:=[(0,.val (.func (.yield y) #[] #[])),(1,.val (ptr b)),(3,.val (.int .i64 ((x.1:Int)-1)))],c5:=x.2.2.1,dv:=x.2.2.2 }) (λx=>x.1<=g.n/\(∀ b o,I b=some o->x.2.2.1 b=some o)/\R x.2.1 x.2.2.1 x.2.2.2/\x.2.1<=(py g.ds g.n).length/\(py g.ds g.n).drop x.2.1=py g.ds x.1) (λx=>x.1) ?_ ?_
 ·exact⟨(g.n,0,dj,M0),⟨by simp,pZ,jY,by simp,rfl⟩,.refl,fZ,.nil⟩
 ·rintro⟨m,k,cL,M1⟩⟨hm,cM,k8,fr,hc⟩;simp only at hm cM k8 fr hc;refine a0.mk (λh=>?_) (λh=>?_)
  ·have aK:(0:Int)<=(m:Int)-1:=du h;obtain⟨m,rfl⟩:∃ q,m=q+1:=⟨m-1,by omega⟩;have aw:((m+1:Nat):Int)-1=(m:Int):=by omega
   obtain⟨ad,b7,Jy⟩:=(aA.bd.mono cM).row bE.de (j:=m) (by omega) (by omega);rw[aby]at hc;obtain⟨ae,ag,nf⟩:=drop_cons hc;refine aF.mk _ (bs _ _ cM) ?_;refine bc.mk ad m b7 aw (by omega) ?_;refine aF.mk _ (Jy _) ?_;refine bl.yield rfl (by simp) rfl rfl ?_;have aN:=v9 k ae cL M1 cM k8;rw[ag]at aN;have aB:g.ds.getD m Dh=g.ds[m]:=by simp[dh,show m<g.ds.length by omega]
   rw[aB,<-aw]at aN;refine Fa.mk M1 [] _ (by simp) aN ?_;rintro v dP dr ht (⟨rfl,oZ⟩ | ⟨rfl,ab⟩);·refine a0.mk (λh=>by simp at h) (λ_=>?_);refine a5.mk ((m:Int)-1) (by rw[wrap_i64 (by unfold mY;omega)];omega) ?_;exact⟨(m,k+1,dP,dr),⟨⟨by simp only;omega,λb o h=>ht b o (cM b o h),oZ,ae,nf⟩,by simp only;omega⟩,.perm (by simp) .refl,fZ,.nil⟩
   ·refine a0.mk (λ_=>?_) (λh=>by simp at h);exact⟨_,_,.perm (by simp) .refl,.inr ab⟩
  ·have c1:¬ (0:Int)<=(m:Int)-1:=dt h;obtain rfl:m=0:=by omega
   refine⟨_,_,.refl,.inl ?_⟩;have x3:k=(py g.ds g.n).length:=by have:(py g.ds g.n).drop k=[]:=hc.trans (by simp[py]);have:=II.1 this;omega
   rw[<-x3];exact k8
structure abC(ds:List bE)(gN nn eZ bQ m:Nat)(L:List Nat)(cN:List Value)(M:List ay):Prop where
 M:M=[⟨eZ,.cells [.slice (some ⟨gN,0,none⟩) L.length nn].toArray 70 (0,0)⟩,⟨bQ,.cells [.int .i64 ((cP (ds.take m):Nat):Int)].toArray 3 (0,0)⟩,cZ gN cN]
 len:cN.length=nn
 aH:cN.take L.length=L.map b4
 RF:L.length+cP (ds.take m)=nn
 mem:∀ x,x∈L ↔ cP (ds.take m)<=x/\x<nn
 ch:L.Nodup
def abD{g:dX}(aA:g.ok I){s:ByteArray}{na:Option Addr}{nn nc:Nat}(dw:I bt=some (.cells ([.string s,nv,rv,.slice na nn nc,rwv]:List Value).toArray 91 (0,0)))(Di:nn=cP g.ds)(ai:nn<=1048576) :
  Spec Tryz.prog 41 [ptr bt,g.val] I [] λv I' M'=>(∀ b o,I b=some o->I' b=some o)/\∃ (gN:Nat) (L:List Nat) (cN:List Value),v=.slice (some ⟨gN,0,none⟩) L.length nn/\cN.length=nn/\cN.take L.length=L.map b4/\L.length=nn/\(∀ x,x∈L ↔ x<nn)/\L.Nodup/\M'=[cZ gN cN]:=by
 refine bX [5,6] aV Tryz.func41 rfl rfl rfl ?_;intro B ao;have gb:=aA.n;have RY:∀ {I':aS} {M:List ay},(∀ b o,I b=some o->I' b=some o)->ca I' M ((⟨bt,0,none⟩:Addr).add 3) 1 [.slice na nn nc]:=λh=>by rw[dS _ rfl];exact⟨rfl,_,_,_,.inl (h _ _ dw),rfl,rfl⟩
 refine aF.mk _ (RY λ_ _ h=>h) ?_;refine oD.mk 0 nn rfl rfl (bq _) (by show 8*nn<=_;omega) (by omega) ?_;refine cz.mk λgN aix aiy=>?_;refine cz.mk λeZ PZ aiz=>?_;refine cg.mk [] [⟨gN,_⟩] _ _ rfl rfl (bJ rfl) rfl ?_;refine aF.mk _ (RY λ_ _ h=>h) ?_;refine cz.mk λbQ FL abE=>?_;refine cg.mk [] [⟨eZ,_⟩,⟨gN,_⟩] _ _ rfl rfl (bJ rfl) rfl ?_;refine bb.mk [] _ _ (.refl _) (abA g.a g.n g.c) ?_;rintro v cL M1 cM⟨cu,rfl,JA,-,rfl⟩;have kj:=aA.mono cM;have CU:cP (g.ds.take g.n)=nn:=by rw[hn (by omega),Di]
 refine cW.range (M1:=[⟨eZ,.cells [.slice (some ⟨gN,0,none⟩) 0 nn].toArray 70 (0,0)⟩,⟨bQ,.cells [.int .i64 (nn:Nat)].toArray 3 (0,0)⟩,cZ gN (rowOf [b4 0] (nn*1))]) aV rfl rfl rfl (.perm (.swap _ _ _) .refl) (abB kj JA) (λvs h=>?_) (λk I' M'=>∃ (L:List Nat) (cN:List Value),(∀ b o,cL b=some o->I' b=some o)/\abC g.ds gN nn eZ bQ (g.n-k) L cN M') (λex I' M'=>False) ⟨[],rowOf [b4 0] (nn*1),λ_ _ h=>h,⟨?_,by simp[rowOf],rfl,by rw[tj,CU];simp,λx=>?_,xt⟩⟩ ?_ ?_ (λex I' M' _ h=>h.elim)
 ·obtain⟨p,_,rfl⟩:=ej.1 h;rfl
 ·rw[tj,CU];rfl
 ·rw[tj,CU];simp
 ·rintro k ae I' M' -⟨L,cN,bo,a1⟩l B ao hp;obtain⟨rfl,eG,gT,lQ,qY,CD⟩:=a1;rw[KW]at ae;have ag:=abz g.ds ae;rw[ag];obtain⟨m,hm⟩:∃ m,g.n-k=m+1:=⟨g.n-k-1,by omega⟩;have pT:g.n-1-k=m:=by omega
  have ku:g.n-(k+1)=m:=by omega
  have zR:m<g.ds.length:=by omega
  have IR:g.ds.getD m Dh=g.ds[m]:=by simp[dh,zR]
  have nT:=KP zR;have pf:=(aA.ds _ (dK zR)).t.n;have qz:=KQ g.ds (m+1);rw[pT,IR];rw[hm]at lQ qY;simp only[hm];generalize g.ds[m]=d at nT pf;have wk:∀ {M:List ay} {e:Nat},(⟨bQ,.cells [.int .i64 (e:Int)].toArray 3 (0,0)⟩:ay)∈M->ca I' M ⟨bQ,0,none⟩ 1 [.int .i64 (e:Int)]:=λa4=>⟨rfl,_,_,_,.inr ⟨_,a4,rfl,rfl⟩,rfl,rfl⟩;have abF:∀ {M:List ay} {v:Value},(⟨eZ,.cells [v].toArray 70 (0,0)⟩:ay)∈M->ca I' M ⟨eZ,0,none⟩ 1 [v]:=λa4=>⟨rfl,_,_,_,.inr ⟨_,a4,rfl,rfl⟩,rfl,rfl⟩;refine aF.mk _ (wk (e:=cP (g.ds.take (m+1))) (.tail _ (.head _))) ?_;refine a5.mk ((cP (g.ds.take m):Nat):Int) (gB (by omega) (by omega)) ?_;refine dB.inv (ι:=Nat×List Value) (λx=>{ bj:=[(5,.val (ptr eZ)),(6,.val (ptr bQ)),(9,.val (.int .i64 (cP (g.ds.take m):Nat))),(10,.val (.int .i64 ((cP (g.ds.take m)+x.1:Nat):Int)))],cl:=[],c5:=I',dv:=[⟨eZ,.cells [.slice (some ⟨gN,0,none⟩) (L++List.range' (cP (g.ds.take m)) x.1).length nn].toArray 70 (0,0)⟩,⟨bQ,.cells [.int .i64 ((cP (g.ds.take (m+1)):Nat):Int)].toArray 3 (0,0)⟩,cZ gN x.2] }) (λx=>x.1<=d.t.n/\x.2.length=nn/\x.2.take (L++List.range' (cP (g.ds.take m)) x.1).length=(L++List.range' (cP (g.ds.take m)) x.1).map b4) (λx=>d.t.n-x.1) ?_ ?_;·exact⟨(0,cN),⟨bq _,eG,by simpa using gT⟩,.Gp (by simp),ew,.nil⟩
  rintro⟨x,c⟩⟨ab,e3,iP⟩;simp only at ab e3 iP;have oI:(L++List.range' (cP (g.ds.take m)) x).length=L.length+x:=by rw[cU,List.length_range']
  refine aF.mk _ (wk (e:=cP (g.ds.take (m+1))) (.tail _ (.head _))) ?_;refine a0.mk (λe=>?_) (λe=>?_)
  ·have aK:x<d.t.n:=by have bn:((cP (g.ds.take m)+x:Nat):Int)<((cP (g.ds.take (m+1)):Nat):Int):=du e;omega
   have gj:List.range' (cP (g.ds.take m)) (x+1)=List.range' (cP (g.ds.take m)) x++[cP (g.ds.take m)+x]:=by rw[List.range'_concat];simp
   have uL:(L++List.range' (cP (g.ds.take m)) (x+1)).length=(L++List.range' (cP (g.ds.take m)) x).length+1:=by rw[gj,<-gl,cU];rfl
   obtain⟨m3,o5,ym⟩:=KH (L:=L++List.range' (cP (g.ds.take m)) x) iP (by omega) (cP (g.ds.take m)+x);refine aF.mk _ (abF (.head _)) ?_;refine cz.mk λb9 gz iD=>?_;refine bl.jN aV rfl (by simp) (e:=3) rfl rfl rfl (g:=gN) (n:=(L++List.range' (cP (g.ds.take m)) x).length) (c:=nn) (aJ:=c) rfl (show c.length=nn*1 by omega) (ad:=⟨b9,0,none⟩) (m:=1) (c':=1) rfl (ct:=[b4 (cP (g.ds.take m)+x)]) ⟨rfl,_,_,_,.inr ⟨_,.head _,rfl,rfl⟩,rfl,rfl⟩ rfl (by omega) [_,_,_] [] rfl ?_;refine cg.mk [_] [_,_] _ _ rfl rfl (bJ rfl) rfl ?_;refine a5.mk ((cP (g.ds.take m)+(x+1):Nat):Int) (gB (by omega) (by omega)) ?_;refine⟨(x+1,bu c ((L++List.range' (cP (g.ds.take m)) x).length*1) [b4 (cP (g.ds.take m)+x)]),⟨⟨aK,m3.trans e3,?_⟩,by simp only;omega⟩,.sub (.cons _ (.refl _)) (.Gp ?_),ew,.nil⟩;·simp only;rw[gj,<-gl];exact o5
   ·simp only;rw[uL];rfl
  ·have c1:d.t.n<=x:=by have bn:¬ ((cP (g.ds.take m)+x:Nat):Int)<((cP (g.ds.take (m+1)):Nat):Int):=dt e;omega
   obtain rfl:x=d.t.n:=by omega
   refine cg.mk [_] [_] _ _ rfl rfl (bJ rfl) rfl ?_;refine⟨_,_,.refl,L++List.range' (cP (g.ds.take m)) d.t.n,c,bo,⟨?_,e3,iP,?_,λy=>?_,?_⟩⟩;·rw[ku];rfl
   ·rw[ku,oI];omega
   ·rw[ku,eb,qY,List.mem_range'_1];omega
   ·refine zr.2 ⟨CD,List.nodup_range',λa aC b ai iR=>?_⟩;rw[qY]at aC;rw[List.mem_range'_1]at ai;omega
 ·rintro I' M' -⟨L,cN,bo,a1⟩;rw[KW,q1]at a1;obtain⟨rfl,eG,gT,lQ,qY,CD⟩:=a1;have F0:cP (g.ds.take 0)=0:=rfl;rw[F0]at lQ qY;refine aF.mk _ ⟨rfl,_,_,_,.inr ⟨_,.head _,rfl,rfl⟩,rfl,rfl⟩ ?_;refine⟨_,_,.sub (.cons _ (.cons _ (.refl _))) .refl,λb o h=>bo _ _ (cM _ _ h),gN,L,cN,rfl,eG,gT,by omega,λx=>by rw[qY];omega,CD,rfl⟩
def vb(J:aS)(os:bk)(e:Nat):aS:=match os.a with
 |some g=>ins J g (.cells os.aJ.toArray e (0,0))| none=>J
def KX{bW:List Nat}{e:Nat}{post:List ay}(az:∀ g,os.a=some g->g ∉ bW):i' bW J (os.aY e++post) (vb J os e) post:=by
 obtain⟨a,n,c,aJ⟩:=os;cases a with
 |none=>exact .refl| some g=>exact .qs rfl (az g rfl) .refl
def KY{e:Nat}(h:∀ x∈os.aY e++M,J x.num=none):∀ b o,J b=some o->vb J os e b=some o:=by
 obtain⟨a,n,c,aJ⟩:=os;cases a with
 |none=>exact λ_ _ h=>h
 |some g=>exact pY (h ⟨g,_⟩ (.head _))
def KZ{size e b:Nat}(h:os.ok size xs)(ai:os.n*b<=140737488355328):fb (vb J os e) (os.a.map λg=>⟨g,0,none⟩) os.n os.c size b xs:=by
 obtain⟨a,n,c,aJ⟩:=os;cases a with
 |none=>obtain⟨U,aa⟩:=h.nil rfl;exact⟨h.len,⟨by simp only at U aa |-;omega,ai⟩,.inl U⟩
 |some g=>obtain⟨U,aa,af,aR⟩:=h.cap g rfl;exact⟨h.len,⟨aa,ai⟩,.inr ⟨⟨g,0,none⟩,rfl,rfl,aJ.toArray,e,(0,0),s8 ..,by simpa using aR⟩⟩
def AA(I:aS):List (Nat×List Nat)->aS
 |[]=>I| p::L=>AA (ins I p.1 (.cells (p.2.map b4).toArray 3 (0,0))) L
def RZ{bW:List Nat}{M:List ay}:∀ {I:aS} (kb:List (Nat×List Nat)),(∀ p∈kb,p.1 ∉ bW)->i' bW I (kb.map iG++M) (AA I kb) M
 |I,[],_=>.refl| I,p::L,h=>.qs rfl (h p (.head _)) (RZ L λq aO=>h q (.tail _ aO))
def R0:∀ {I:aS} (kb:List (Nat×List Nat)),(∀ p∈kb,I p.1=none)->(kb.map (·.1)).Nodup->(∀ b o,I b=some o->AA I kb b=some o)/\∀ p∈kb,AA I kb p.1=some (.cells (p.2.map b4).toArray 3 (0,0))
 |I,[],_,_=>⟨λ_ _ h=>h,λp aG=>by cases aG⟩
 |I,p::L,h,ax=>by
  rw[dV,lA]at ax;have bF:∀ q∈L,(ins I p.1 (.cells (p.2.map b4).toArray 3 (0,0))) q.1=none:=λq aO=>by unfold ins;rw[fX λe=>ax.1 (ej.2 ⟨q,aO,e⟩)];exact h q (.tail _ aO)
  obtain⟨U,aa⟩:=R0 L bF ax.2;refine⟨λb o ai=>U b o (pY (h p (.head _)) b o ai),λq aO=>?_⟩;rcases eg.1 aO with rfl | aO;·exact U _ _ (s8 ..)
  ·exact aa q aO
def tw(x:n5):n5:=⟨x.d.yz,x.bT⟩
def eu(g:dX)(s:ByteArray):da:=⟨(n9 g.ds).map tw,s,0⟩
def abG{g:dX}(s:ByteArray){k:Nat}(ae:k<(n9 g.ds).length):(eu g s).aH k=tw (n9 g.ds)[k]:=by simp[da.aH,eu,dh,ae]
def GB(ds:List bE):(n9 ds).length=cP ds:=by simp[n9,Gi]
def R1{g:dX}(hm:po g)(fI:∀ d∈g.ds,∀ n∈d.t.ns,0<=n.k){s:ByteArray}(ap:s.size<=4096):(∀ k,tu (eu g s) k)/\∀ k,k<cP g.ds->tt (eu g s) (cP g.ds) k:=by
 have bf:=Kk hm fI (s:=s) (aH:=0) (bq _) ap;have bV:(u3 g s 0).ns.length=cP g.ds:=GB g.ds;have jl:∀ k (ae:k<cP g.ds),∃ a:n5,F3 (u3 g s 0) a/\(eu g s).aH k=tw a:=λk ae=>by
  have jv:k<(n9 g.ds).length:=by rw[GB];exact ae
  exact⟨_,bf.ns _ (dK jv),abG s jv⟩
 refine⟨λk=>?_,λk ae=>?_⟩
 ·by_cases ae:k<cP g.ds
  ·obtain⟨a,aC,e⟩:=jl k ae;rw[show tu (eu g s) k ↔ tu (eu g s) k from Iff.rfl];refine⟨by rw[e];exact aC.k.1,λU=>?_,by rw[e];exact aC.k.2,λbO=>?_⟩
   ·rw[e]at U |-;have:=aC.one U
    match ab:a.bT,this with
    |[q],_=>exact⟨q,rfl⟩
   ·rw[e]at bO |-;have:=aC.m7 bO;show a.d.hi=-1\/(0<=a.d.hi/\a.d.hi<=99);omega
  ·have e:(eu g s).aH k=⟨Qk,[]⟩:=by
    have:(n9 g.ds).length<=k:=by rw[GB];omega
    simp[da.aH,eu,dh,this]
   refine⟨by rw[e];exact Int.le_refl 0,λU=>?_,by rw[e];show(0:Int)<10;omega,λbO=>?_⟩;·rw[e]at U;have aa:(0:Int)=3\/6<=(0:Int):=U;omega
   ·rw[e]at bO;have aa:(0:Int)=6:=bO;omega
 ·obtain⟨a,aC,e⟩:=jl k ae;refine⟨by rw[e];exact aC.k.1,λU=>?_,λq aO=>?_,λbO=>?_⟩
  ·rw[e]at U |-;have aa:=aC.one U;show a.bT.getD 0 0<_;have aB:a.bT.getD 0 0=a.bT[0]:=by simp[dh,aa]
   rw[aB,<-bV];exact aC.bT _ (dK (by omega))
  ·rw[e]at aO;rw[<-bV];exact aC.bT q aO
  ·rw[e]at bO |-;exact(aC.m7 bO).2.1
def K0(c:cy):b2:=⟨c.n,c.aP,bif Nat.beq c.au 3 then 2 else bif Nat.beq c.au 2 then 1 else 0,0⟩
def abH{z a:Nat}{c:cy}(h:iz z a c):(K0 c).ce=c:=by
 rcases h with rfl | rfl | ⟨h,-⟩
 ·rfl
 ·rfl
 ·obtain⟨n,aP,au⟩:=c;simp only at h;subst h;rfl
open Classical in
noncomputable def tx(P:da)(N:Nat)(k a:Nat):b2:=if k<N/\a<=P.s.size then h7 else K0 (b8 P k a)
def GC{P:da}{N k a:Nat}(ae:k<N)(aC:a<=P.s.size):tx P N k a=h7:=cK ⟨ae,aC⟩
def abI(P:da)(N:Nat):hR P N (tx P N):=by
 have fV:∀ k a,¬ (k<N/\a<=P.s.size)->(tx P N k a).ce=b8 P k a:=λk a h=>by unfold tx;rw[cA h];exact abH (tq P k a)
 refine⟨λk a=>?_,λk a h=>?_,λk a ae aC _ _ h=>?_,λk a ae aC=>?_,fV⟩
 ·unfold tx;split
  ·exact bq _
  ·unfold K0;cases Nat.beq (b8 P k a).au 3<;>cases Nat.beq (b8 P k a).au 2<;>simp
 ·by_cases e:k<N/\a<=P.s.size
  ·rw[GC e.1 e.2]at h;exact absurd rfl h
  ·exact(fV k a e).symm
 ·rw[GC ae aC]at h;exact absurd rfl h
 ·rw[GC ae aC];exact⟨bq _,bq _,bq _⟩
structure re(I:aS)(g:dX)(s:ByteArray)(t:ef)(T:Nat->Nat->b2):Prop where
 ok:t.ok I T
 inv:hR t.P t.nn T
 P:t.P=eu g s
 ts:t.s=s
 all:∀ k b,(T k b).ce=b8 (eu g s) k b
 n0:t.n0=t.nn
 nn:t.nn=cP g.ds
 rv:∃ ei h8,t.rv=.slice ei g.n h8/\fb I ei g.n h8 1 8 ((gU 0 g.ds).map b4)
 nv:∃ kk nq,t.nv=.slice kk g.n nq/\fb I kk g.n nq 1 16 (g.ds.map va)
def ef.ok.mono{T:Nat->Nat->b2}(h:t.ok I T)(bF:∀ b o,I b=some o->I' b=some o):t.ok I' T:=
 { h with au:=bF _ _ h.au,ns:=h.ns.mono bF,jo:=λy aN=>(h.jo y aN).mono bF,rw:=h.rw.mono bF,c3:=λk ae ao=>(let ⟨cs,fK,aj,U,aa⟩:=h.c3 k ae ao;⟨cs,fK,aj,bF _ _ U,aa⟩) }
def re.mono{g:dX}{s:ByteArray}{T:Nat->Nat->b2}(h:re I g s t T)(bF:∀ b o,I b=some o->I' b=some o):re I' g s t T:=by obtain⟨ei,h8,aw,aB⟩:=h.rv;obtain⟨kk,nq,bD,dH⟩:=h.nv;exact { h with ok:=h.ok.mono bF,rv:=⟨ei,h8,aw,aB.mono bF⟩,nv:=⟨kk,nq,bD,dH.mono bF⟩ }
def ef.ok.mE{T:Nat->Nat->b2}(h:t.ok I T)(bF:∀ b o,I b=some o->I' b=some o)(ai:I' t.eP=some (.cells (t.cs T).toArray 107 (0,0))):({ t with n0:=t.nn }:ef).ok I' T:=by
 have hm:=h.mono bF;refine⟨hm.au,hm.ns,hm.jo,hm.Rz,hm.RA,hm.rw,hm.eF,λk ae ao=>?_,λk ae ao=>?_,hm.sz,hm.many⟩
 ·by_cases fI:k<t.n0
  ·exact hm.c3 k ae fI
  ·refine⟨_,_,_,by rw[hm.new k ae (by omega)];exact ai,?_⟩;rw[hm.new k ae (by omega)];show((t.cs T).toArray.toList.drop ((k-t.n0)*(t.w*4))).take (t.w*4)=_;unfold ef.cs;rw[rM _ (t.w*4) (λj=>yA T _ t.w) _ (k-t.n0) (by rw[r3];simp only at ao;omega),ph,wa (by omega)];rfl
 ·have U:k<t.rows.length:=ae;have aa:=hm.Kz;have af:t.nn<=k:=ao;omega
def R2{J:aS}:∀ {kb:List (Nat×List Nat)} {ns:List a9},(∀ p∈kb,J p.1=some (.cells (p.2.map b4).toArray 3 (0,0))/\p.2.length<=1048576/\∀ x∈p.2,x<=1048576)->(∀ n∈ns,n.ok J)->∀ y∈nr kb ns,y.ok J/\(∃ p∈kb,y.aX=p.2.map λ(k:Nat)=>(k:Int))/\∃ n∈ns,y.t=n.t
 |[],ns,_,_,y,aN=>by simp[nr]at aN
 |p::kb,[],_,_,y,aN=>by simp[nr]at aN
 |p::kb,n::ns,h,ax,y,aN=>by
  have e:nr (p::kb) (n::ns)=sd p.1 p.2 n::nr kb ns:=rfl;rw[e]at aN;rcases eg.1 aN with rfl | aN;·obtain⟨U,aa,af⟩:=h p (.head _);exact⟨abp (ax n (.head _)) U aa af,⟨p,.head _,rfl⟩,n,.head _,rfl⟩
  ·obtain⟨i1,⟨q,i2,i3⟩,m,i4,i5⟩:=R2 (λq aO=>h q (.tail _ aO)) (λm hm=>ax m (.tail _ hm)) y aN;exact⟨i1,⟨q,.tail _ i2,i3⟩,m,.tail _ i4,i5⟩
def R3:∀ {kb:List (Nat×List Nat)} {ns:List a9},kb.length=ns.length->(nr kb ns).map a9.pn=List.zipWith (λp n=>⟨n.yz,p.2⟩) kb ns
 |[],[],_=>rfl| p::kb,n::ns,h=>by show(sd p.1 p.2 n).pn::(nr kb ns).map a9.pn=_;rw[abo,R3 (by simpa using h)];rfl
def R4{ds:List bE}{a3:Nat}:∀ {kb:List (Nat×List Nat)} {ns:List a9},kb.map (·.2)=ns.map (ko ds a3)->List.zipWith (λ(p:Nat×List Nat) (n:a9)=>(⟨n.yz,p.2⟩:n5)) kb ns=ns.map (Ay ds a3)
 |[],[],_=>rfl| p::kb,n::ns,h=>by rw[dV,dV,uK]at h;rw[List.zipWith_cons_cons,dV,R4 h.2,h.1];rfl
def tz(ds:List bE)(i:Nat):List n5:=(nj 0 (ds.take i)).map λp=>tw ⟨p.2,ko ds p.1 p.2⟩
def R5:∀ (b:Nat) (A B:List bE),nj b (A++B)=nj b A++nj (b+cP A) B
 |b,[],B=>by simp[nj,cP]
 |b,d::A,B=>by
  have e:cP (d::A)=d.t.ns.length+cP A:=by simp[cP]
  rw[sY,nj,nj,R5 _ A B,gl,e,oA]
def abJ{ds:List bE}{i:Nat}(hi:i<ds.length):tz ds (i+1)=tz ds i++ds[i].t.ns.map (Ay ds (cP (ds.take i))):=by unfold tz;rw[hU hi,R5,gX,dk];congr 1;simp[nj,Ay,tw]
def abK(ds:List bE):tz ds ds.length=(n9 ds).map tw:=by unfold tz n9;rw[List.take_length,lM];rfl
def abL(ds:List bE)(i:Nat):(tz ds i).length=cP (ds.take i):=by simp[tz,Gi]
def AB(ds:List bE):Nat->List dG->List n5
 |_,[]=>[]| b,t::ts=>t.ns.map (Ay ds b)++AB ds (b+t.ns.length) ts
def tA(ts:List dG)(i:Nat):Nat:=((ts.take i).map λt=>t.ns.length).sum
def abM(t:dG)(ts:List dG)(i:Nat):tA (t::ts) (i+1)=t.ns.length+tA ts i:=by unfold tA;simp
def R6{ds:List bE}:∀ {ts:List dG} {b i j:Nat} (hi:i<ts.length) (an:j<ts[i].ns.length),(AB ds b ts)[tA ts i+j]?=some (Ay ds (b+tA ts i) ts[i].ns[j])
 |t::ts,b,0,j,hi,an=>by have ij:j<t.ns.length:=an;rw[AB,show tA (t::ts) 0=0 from rfl,dk,oy (by rw[eX];exact ij),zs,g0 ij];rfl
 |t::ts,b,i+1,j,hi,an=>by have be:=R6 (ds:=ds) (ts:=ts) (b:=b+t.ns.length) (i:=i) (j:=j) (by simpa using hi) (by simpa using an);rw[AB,abM,mS (by rw[eX];omega),eX,show t.ns.length+tA ts i+j-t.ns.length=tA ts i+j by omega,be,oA];rfl
def R7(K1:List bE):∀ (b:Nat) (ds:List bE),AB K1 b (ds.map (·.t))=(nj b ds).map λp=>tw ⟨p.2,ko K1 p.1 p.2⟩
 |_,[]=>rfl| b,d::ds=>by rw[dV,AB,nj,gX,lM,R7 K1 _ ds];rfl
def abN(ds:List bE)(more:List dG){i:Nat}(hi:i<=ds.length):tA (ds.map (·.t)++more) i=cP (ds.take i):=by unfold tA cP;rw[E6 (by rw[eX];exact hi),<-List.map_take,lM];rfl
def jO(g:dX)(i j:Nat):Nat:=cP (g.ds.take i)+j
def abO{g:dX}(s:ByteArray){i j:Nat}(hi:i<g.ds.length)(an:j<g.ds[i].t.ns.length):(eu g s).aH (jO g i j)=Ay g.ds (cP (g.ds.take i)) g.ds[i].t.ns[j]:=by
 have cw:i<(g.ds.map (·.t)).length:=by rw[eX];exact hi
 have h:=R6 (ds:=g.ds) (ts:=g.ds.map (·.t)) (b:=0) (i:=i) (j:=j) cw (by rw[lE];exact an);have ai:=abN g.ds [] (i:=i) (by omega);rw[dF]at ai;rw[ai,dk,R7]at h;unfold da.aH eu jO;simp only[lE]at h;rw[dh];unfold n9;rw[lM];show(((nj 0 g.ds).map λp=>tw ⟨p.2,ko g.ds p.1 p.2⟩)[cP (g.ds.take i)+j]?).getD _=_;rw[h];rfl
def R8{g:dX}{i r:Nat}(hi:i<g.ds.length)(al:g.ds[i].t.b1=(r:Int)):u4 g i=jO g i r:=by have yE:=Al 0 g.ds;unfold u4 jO;rw[dh,g0 (by omega:i<(gU 0 g.ds).length),j6,KR 0 g.ds i hi (by omega),dk,al];rfl
structure bw where
 a:BitVec 64
 b:BitVec 64
 c:BitVec 64
 d:BitVec 64
 deriving DecidableEq
def bw.zero:bw:=⟨0,0,0,0⟩
def bw.or(x y:bw):bw:=⟨x.a ||| y.a,x.b ||| y.b,x.c ||| y.c,x.d ||| y.d⟩
def bw.and(x y:bw):bw:=⟨x.a &&& y.a,x.b &&& y.b,x.c &&& y.c,x.d &&& y.d⟩
def bw.sub(x y:bw):Bool:=decide (x.and y=x)
def bw.cells(x:bw):List Value:=[.int .u64 x.a.toNat,.int .u64 x.b.toNat,.int .u64 x.c.toNat,.int .u64 x.d.toNat]
def bw.val(x:bw):Value:=.agg #[.int .u64 x.a.toNat,.int .u64 x.b.toNat,.int .u64 x.c.toNat,.int .u64 x.d.toNat]
structure a7 where
 w:bw
 f:Bool
 deriving DecidableEq
def a7.cells(x:a7):List Value:=[.int .u64 x.w.a.toNat,.int .u64 x.w.b.toNat,.int .u64 x.w.c.toNat,.int .u64 x.w.d.toNat,.bool x.f]
def a7.val(x:a7):Value:=.agg #[.int .u64 x.w.a.toNat,.int .u64 x.w.b.toNat,.int .u64 x.w.c.toNat,.int .u64 x.w.d.toNat,.bool x.f]
def a7.de(x:a7):x.cells.length=5:=rfl
def cQ:a7:=⟨.zero,false⟩
def Dj:a7:=⟨.zero,true⟩
def a7.seq(a b:a7):a7:=bif a.f then⟨a.w.or b.w,b.f⟩else a
def a7.choice(a b:a7):a7:=⟨a.w.or b.w,a.f||b.f⟩
def bw.ext'{x y:bw}(U:x.a=y.a)(aa:x.b=y.b)(af:x.c=y.c)(aR:x.d=y.d):x=y:=by obtain⟨a,b,c,d⟩:=x;obtain⟨bS,hX,c',CT⟩:=y;simp only at U aa af aR;subst U aa af aR;rfl
def bw.or_assoc(x y z:bw):(x.or y).or z=x.or (y.or z):=by simp only[bw.or,BitVec.or_assoc]
def bw.or_comm(x y:bw):x.or y=y.or x:=by simp only[bw.or,BitVec.or_comm]
def bw.or_self(x:bw):x.or x=x:=by simp[bw.or]
def bw.zero_or(x:bw):bw.zero.or x=x:=by simp[bw.or,bw.zero]
def wT{x:BitVec 64}:x &&& y=x ↔ x ||| y=y:=by
 constructor
 ·intro h;apply BitVec.eq_of_getElem_eq;intro i hi;have:=congrArg (λw:BitVec 64=>w[i]) h;simp only[BitVec.getElem_and,BitVec.getElem_or]at this |-;revert this;cases x[i]<;>cases y[i]<;>simp
 ·intro h;apply BitVec.eq_of_getElem_eq;intro i hi;have:=congrArg (λw:BitVec 64=>w[i]) h;simp only[BitVec.getElem_and,BitVec.getElem_or]at this |-;revert this;cases x[i]<;>cases y[i]<;>simp
def bw.AD{x y:bw}:x.sub y=true ↔ x.or y=y:=by
 unfold bw.sub;rw[e0];constructor
 ·intro h;have U:=congrArg bw.a h;have aa:=congrArg bw.b h;have af:=congrArg bw.c h;have aR:=congrArg bw.d h;exact bw.ext' (wT.1 U) (wT.1 aa) (wT.1 af) (wT.1 aR)
 ·intro h;have U:=congrArg bw.a h;have aa:=congrArg bw.b h;have af:=congrArg bw.c h;have aR:=congrArg bw.d h;exact bw.ext' (wT.2 U) (wT.2 aa) (wT.2 af) (wT.2 aR)
def bw.abP(x:bw):x.sub x=true:=bw.AD.2 x.or_self
def bw.GD{x y z:bw}(h:x.sub y=true)(a':y.sub z=true):x.sub z=true:=by rw[bw.AD]at h a' |-;rw[<-a',<-bw.or_assoc,h]
def bw.abQ{x y:bw}(h:x.sub y=true)(a':y.sub x=true):x=y:=by rw[bw.AD]at h a';exact a'.symm.trans ((bw.or_comm y x).trans h)
def bw.K2(x y:bw):x.sub (x.or y)=true:=by rw[bw.AD,<-bw.or_assoc,bw.or_self]
def bw.abR{x y z:bw}(h:x.sub z=true)(a':y.sub z=true):(x.or y).sub z=true:=by rw[bw.AD]at h a' |-;rw[bw.or_assoc,a',h]
def bw.zero_sub(x:bw):bw.zero.sub x=true:=by rw[bw.AD,bw.zero_or]
def bw.or_mono{x y u v:bw}(h:x.sub y=true)(a':u.sub v=true):(x.or u).sub (y.or v)=true:=
 bw.abR (bw.GD h (bw.K2 _ _)) (bw.GD a' (by rw[bw.or_comm];exact bw.K2 _ _))
structure tB(I:aS)(M:List ay)(a:Option Addr)(n:Nat)(ks:List a7):Prop where
 n:ks.length=n
 rd:∀ j (h:j<ks.length),∃ ad,a=some ad/\ca I M (ad.add (j*5)) 5 ks[j].cells
structure a7.le(a b:a7):Prop where
 w:a.w.sub b.w=true
 f:a.f=true->b.f=true
def a7.le_refl(a:a7):a.le a:=⟨bw.abP _,id⟩
def a7.le.trans{a b c:a7}(h:a.le b)(a':b.le c):a.le c:=⟨bw.GD h.w a'.w,λx=>a'.f (h.f x)⟩
def a7.le.antisymm{a b:a7}(h:a.le b)(a':b.le a):a=b:=by
 have U:=bw.abQ h.w a'.w;obtain⟨abS,wU⟩:=a;obtain⟨abT,og⟩:=b;simp only at U;subst U;have az:=h.f;have vT:=a'.f;cases wU<;>cases og<;>simp_all
def a7.ju(a:a7):cQ.le a:=⟨bw.zero_sub _,λh=>by cases h⟩
def a7.abU{a b x y:a7}(h:a.le b)(a':x.le y):(a.choice x).le (b.choice y):=by refine⟨bw.or_mono h.w a'.w,?_⟩;simp only[a7.choice,j7];exact λg=>g.imp h.f a'.f
def a7.Ge{a b x y:a7}(h:a.le b)(a':x.le y):(a.seq x).le (b.seq y):=by
 obtain⟨abS,wU⟩:=a;obtain⟨abT,og⟩:=b;obtain⟨U,aa⟩:=h;simp only at U aa;cases wU with
 |true=>obtain rfl:=aa rfl;exact⟨bw.or_mono U a'.w,a'.f⟩
 |false=>
  cases og with
  |true=>exact⟨bw.GD U (bw.K2 _ _),λh=>by simp[a7.seq]at h⟩| false=>exact⟨U,λh=>by simp[a7.seq]at h⟩
def GF(x:BitVec 64):BitVec.ofInt 64 (x.toNat:Int)=x:=by rw[BitVec.ofInt_natCast,BitVec.ofNat_toNat,BitVec.setWidth_eq]
def abV(x:BitVec 64):IntKind.u64.wrap (x.toNat:Int)=(x.toNat:Int):=by have:=x.isLt;unfold IntKind.wrap;simp only[IntKind.bits,IntKind.signed];simp;omega
def abW{x:BitVec 64}:((x.toNat:Int) == (y.toNat:Int))=decide (x=y):=by rw[l2];simp[BitVec.toNat_eq];omega
def R9{x:Int}(h:0<=x/\x<18446744073709551616):∃ w:BitVec 64,x=(w.toNat:Int):=by refine⟨BitVec.ofNat 64 x.toNat,?_⟩;rw[CL,Ad (by omega)];omega
structure Dk(α:Type) where
 le:α->α->Prop
 ju:α
 refl:∀ a,le a a
 trans:∀ {a b c},le a b->le b c->le a c
 GG:∀ {a b},le a b->le b a->a=b
 low:∀ a,le ju a
structure e6{α:Type}(O:Dk α)(l m:List α):Prop where
 len:l.length=m.length
 at':∀ i,O.le (l.getD i O.ju) (m.getD i O.ju)
section
variable{α:Type}{O:Dk α}
def e6.refl(l:List α):e6 O l l:=⟨rfl,λ_=>O.refl _⟩
def e6.trans{a b c:List α}(h:e6 O a b)(a':e6 O b c):e6 O a c:=⟨h.len.trans a'.len,λi=>O.trans (h.at' i) (a'.at' i)⟩
def e6.GG{a b:List α}(h:e6 O a b)(a':e6 O b a):a=b:=by apply uD h.len;intro i U aa;have:=O.GG (h.at' i) (a'.at' i);simpa[dh,U,aa]using this
def e6.of{a b:List α}(ar:a.length=b.length)(h:∀ i,i<a.length->O.le (a.getD i O.ju) (b.getD i O.ju)):e6 O a b:=⟨ar,λi=>by
 by_cases hi:i<a.length
 ·exact h i hi
 ·have e:a.getD i O.ju=O.ju:=by simp[dh,xo (Nat.le_of_not_lt hi)]
  rw[e];exact O.low _⟩
def e6.snoc{a b:List α}{x y:α}(h:e6 O a b)(ab:O.le x y):e6 O (a++[x]) (b++[y]):=by
 have ar:=h.len;refine .of (by simp[ar]) λi hi=>?_;rcases Gv i a.length with U | U
 ·have aa:i<b.length:=by omega
  have:=h.at' i;simpa[dh,oy U,oy aa]using this
 ·have aa:i=a.length:=by simp at hi;omega
  subst aa;have aw:(a++[x]).getD a.length O.ju=x:=by simp[dh]
  have aB:(b++[y]).getD a.length O.ju=y:=by rw[ar];simp[dh]
  rw[aw,aB];exact ab
def Dl(l:List α)(b:α)(i j:Nat)(x:α)(hi:i<l.length):(l.set i x).getD j b=if i=j then x else l.getD j b:=by
 simp only[dh,sW];by_cases e:i=j
 ·subst e;simp[hi]
 ·rw[cA e,cA e]
def lv(body:List α->Nat->α):Nat->Nat->List α->List α
 |_,0,l=>l| i,k+1,l=>lv body (i+1) k (l.set i (body l i))
structure qb(O:Dk α)(n:Nat)(body:List α->Nat->α)(l:List α):Prop where
 len:l.length=n
 up:∀ i,i<n->O.le (l.getD i O.ju) (body l i)
 least:∀ m:List α,m.length=n->(∀ i,i<n->O.le (body m i) (m.getD i O.ju))->e6 O l m
structure R'(O:Dk α)(n:Nat)(body:List α->Nat->α)(l:List α):Prop where
 len:l.length=n
 fix:∀ i,i<n->l.getD i O.ju=body l i
 least:∀ m:List α,m.length=n->(∀ i,i<n->O.le (body m i) (m.getD i O.ju))->e6 O l m
def Sa(n i:Nat)(b:α):(List.replicate n b).getD i b=b:=by
 by_cases h:i<n<;>simp[dh,List.getElem?_replicate,h]
def qb.start(n:Nat)(body:List α->Nat->α):qb O n body (List.replicate n O.ju):=by
 refine⟨by simp,λi h=>?_,λm hm _=>⟨by simp[hm],λi=>?_⟩⟩
 ·rw[Sa];exact O.low _
 ·rw[Sa];exact O.low _
section
variable{n:Nat}{body:List α->Nat->α}(AE:∀ {l m:List α},e6 O l m->∀ i,i<n->O.le (body l i) (body m i))
include AE
def qb.step{l:List α}(h:qb O n body l){i:Nat}(hi:i<n):qb O n body (l.set i (body l i))/\e6 O l (l.set i (body l i)):=by
 have ek:i<l.length:=by rw[h.len];exact hi
 have bo:e6 O l (l.set i (body l i)):=.of (by simp) λj an=>by
  rw[Dl _ _ _ _ _ ek];by_cases e:i=j;·subst e;rw[cK rfl];exact h.up i hi
  ·rw[cA e];exact O.refl _
 refine⟨⟨by simpa using h.len,λj an=>?_,λm hm aL=>?_⟩,bo⟩
 ·rw[Dl _ _ _ _ _ ek];by_cases e:i=j
  ·subst e;rw[cK rfl];exact AE bo _ hi
  ·rw[cA e];exact O.trans (h.up j an) (AE bo _ an)
 ·have CP:=h.least m hm aL;refine .of (by simp[h.len,hm]) λj an=>?_;rw[Dl _ _ _ _ _ ek];by_cases e:i=j
  ·subst e;rw[cK rfl];exact O.trans (AE CP _ hi) (aL i hi)
  ·rw[cA e];exact CP.at' j
def K3:∀ (k i:Nat) {l:List α},i+k=n->qb O n body l->qb O n body (lv body i k l)/\e6 O l (lv body i k l) /\ (lv body i k l=l->∀ j,j<n->i<=j->l.getD j O.ju=body l j)
 |0,i,l,ae,h=>⟨h,e6.refl l,λ_ j an c1=>by omega⟩
 |k+1,i,l,ae,h=>by
  have hi:i<n:=by omega
  have ek:i<l.length:=by rw[h.len];exact hi
  obtain⟨s1,s2⟩:=h.step AE hi;obtain⟨gC,eG,gT⟩:=K3 k (i+1) (by omega) s1;refine⟨gC,s2.trans eG,λe j an c1=>?_⟩;have cv:lv body i (k+1) l=lv body (i+1) k (l.set i (body l i)):=rfl;have aw:l.set i (body l i)=l:=by refine e6.GG (O:=O) ?_ s2;rw[cv]at e;rw[e]at eG;exact eG
  have aB:lv body (i+1) k l=l:=by rw[cv,aw]at e;exact e
  rw[aw]at gT;by_cases aG:j=i;·subst aG;have aR:=Dl l O.ju j j (body l j) ek;rw[aw,cK rfl]at aR;exact aR
  ·exact gT aB j an (by omega)
def qb.done{l:List α}(h:qb O n body l)(az:lv body 0 n l=l):R' O n body l:=
 ⟨h.len,λi hi=>(K3 AE n 0 (dk n) h).2.2 az i hi (bq _),h.least⟩
end
end
def Sb{α:Type}{p q:α->Bool}:∀ {l:List α},(∀ x∈l,p x=true->q x=true)->l.countP q<=l.countP p->∀ x∈l,q x=true->p x=true
 |[],_,_,x,ab,_=>by cases ab
 |y::l,h,bo,x,ab,aO=>by
  have hm:=List.countP_mono_left (p:=p) (q:=q) (l:=l) (λx ab=>h x (.tail _ ab));rw[List.countP_cons,List.countP_cons]at bo;have aN:=h y (.head _);have key:(q y=true->p y=true)/\l.countP q<=l.countP p:=by cases aG:p y<;>cases aiA:q y<;>simp_all<;>omega
  rcases eg.1 ab with rfl | ab;·exact key.1 aO
  ·exact Sb (λx ab=>h x (.tail _ ab)) key.2 x ab aO
def wV(x:BitVec 64):Nat:=(List.range 64).countP λi=>!x.getLsbD i
def GH{x:BitVec 64}(h:x &&& y=x):wV y<=wV x/\(wV x<=wV y->x=y):=by
 have ai:∀ i,x.getLsbD i=true->y.getLsbD i=true:=λi ab=>by have:=congrArg (λw:BitVec 64=>w.getLsbD i) h;simp only[BitVec.getLsbD_and,ab,s0]at this;exact this
 have aG:∀ i∈List.range 64,(!y.getLsbD i)=true->(!x.getLsbD i)=true:=λi _ hi=>by
  have U:=ai i;cases ab:x.getLsbD i with
  |false=>rfl| true=>rw[U ab]at hi;cases hi
 refine⟨List.countP_mono_left aG,λbo=>?_⟩;have:=Sb aG bo;apply BitVec.eq_of_getLsbD_eq;intro i hi;have U:=ai i;have aa:=this i (l3.2 hi);cases ab:x.getLsbD i<;>cases aN:y.getLsbD i<;>simp_all
def AF(x:a7):Nat:=(wV x.w.a+wV x.w.b+wV x.w.c+wV x.w.d)+(bif x.f then 0 else 1)
def abX{a b:a7}(h:a.le b):AF b<=AF a/\(AF a<=AF b->a=b):=by
 obtain⟨U,aa⟩:=h;obtain⟨⟨cc,dd,df,fx⟩,wU⟩:=a;obtain⟨⟨bI,cx,dx,fm⟩,og⟩:=b;have U:=du U;simp only[bw.and,bw.mk.injEq]at U;obtain⟨aT,aU,bG,fk⟩:=U;obtain⟨m3,eY⟩:=GH aT;obtain⟨o5,ez⟩:=GH aU;obtain⟨ym,ga⟩:=GH bG;obtain⟨Yz,jk⟩:=GH fk;simp only at aa;have az:(bif og then 0 else 1)<=(bif wU then 0 else 1)/\((bif wU then 0 else 1)<=(bif og then 0 else 1)->wU=og):=by cases wU<;>cases og<;>simp_all
 unfold AF;simp only;refine⟨by omega,λbo=>?_⟩;obtain rfl:=eY (by omega);obtain rfl:=ez (by omega);obtain rfl:=ga (by omega);obtain rfl:=jk (by omega);obtain rfl:=az.2 (by omega);rfl
def iV:Dk a7:=⟨a7.le,cQ,a7.le_refl,λh a'=>h.trans a',λh a'=>h.antisymm a',a7.ju⟩
def wW(l:List a7):Nat:=(l.map AF).sum
def Sc:∀ {l m:List a7},e6 iV l m->wW m<=wW l/\(wW l<=wW m->l=m)
 |[],[],_=>⟨cC _,λ_=>rfl⟩| [],_::_,h=>by have:=h.len;simp at this
 |_::_,[],h=>by have:=h.len;simp at this
 |a::l,b::m,h=>by have ao:a.le b:=h.at' 0;have av:e6 iV l m:=⟨by simpa using h.len,λi=>by simpa using h.at' (i+1)⟩;obtain⟨U,aa⟩:=abX ao;obtain⟨t1,t2⟩:=Sc av;simp only[wW,dV,qK]at t1 t2 |-;refine⟨by omega,λh=>?_⟩;rw[aa (by omega),t2 (by omega)]
def abY{l m:List a7}(h:e6 iV l m)(bB:m≠l):wW m<wW l:=by obtain⟨U,aa⟩:=Sc h;apply Nat.lt_of_le_of_ne U;intro e;exact bB (aa (by omega)).symm
def bw.at(w:bw)(i:Nat):BitVec 64:=bif decide (i=0)then w.a else bif decide (i=1)then w.b else bif decide (i=2)then w.c else w.d
def bw.one(i:Nat)(x:BitVec 64):bw:=⟨bif decide (i=0)then x else 0,bif decide (i=1)then x else 0,bif decide (i=2)then x else 0,bif decide (i=3)then x else 0⟩
def oh(b:UInt8):bw:=.one (b.toNat/64) (1#64 <<< (b.toNat%64))
def se(l:List UInt8):bw:=l.foldl (λw b=>w.or (oh b)) .zero
def a9.ws(d:a9):bw:=⟨BitVec.ofInt 64 d.dJ,BitVec.ofInt 64 d.s1,BitVec.ofInt 64 d.s2,BitVec.ofInt 64 d.dQ⟩
def pz(d:a9)(k:a7):a7:=bif decide (d.hi=0)then Dj else⟨k.w,k.f||decide (d.lo=0)⟩
def yI(ks:List a7):a7:=ks.foldl a7.seq Dj
def yJ(ks:List a7):a7:=ks.foldl a7.choice cQ
def AG(t:ByteArray):a7:=⟨se (t.data.toList.take 1),false⟩
def eV(d:a9)(x:aZ)(ks:List a7):a7:=
 bif decide (d.k=0)then⟨.zero,x.hQ⟩else
 bif decide (d.k=1)then⟨d.ws,false⟩else
 bif decide (d.k=2)then AG d.t else
 bif decide (d.k=3)then ks.headD cQ else
 bif decide (d.k=4)then yI ks else
 bif decide (d.k=5)then yJ ks else
 bif decide (d.k=6)then pz d (ks.headD cQ)else
 bif decide (d.k=7)then⟨.zero,x.hQ⟩else
 bif decide (d.k=8)then⟨.zero,x.hQ⟩else ks.headD cQ
def qc(pl:List (ByteArray×Int))(bj aM:List a7)(d:a9):List a7:=
 d.aX.map (λk=>aM.getD k.toNat cQ)++bif decide (d.k=3)then [bj.getD ((dI d.t pl).getD 0).toNat cQ]else []
def hT(pl:List (ByteArray×Int))(bj:List a7)(xs:List aZ):List a9->List a7->List a7
 |[],aM=>aM| d::ds,aM=>hT pl bj xs ds (aM++[eV d (xs.getD aM.length bY) (qc pl bj aM d)])
def Sd(pl:List (ByteArray×Int))(bj:List a7)(xs:List aZ):∀ (ds:List a9) (aM:List a7),(hT pl bj xs ds aM).length=aM.length+ds.length
 |[],aM=>rfl| d::ds,aM=>by rw[hT,Sd];simp;omega
def K4.map{f g:α->a7}{l:List α}(h:∀ x∈l,(f x).le (g x)):e6 iV (l.map f) (l.map g):=.of (by simp) λi hi=>by
 have cw:i<l.length:=by simpa using hi
 have:=h _ (dK cw);simpa[dh,cw]using(show iV.le _ _ from this)
def K5{f:a7->a7->a7}(az:∀ {a b x y:a7},a.le b->x.le y->(f a x).le (f b y)):∀ {l m:List a7} {a b:a7},e6 iV l m->a.le b->(l.foldl f a).le (m.foldl f b)
 |[],[],_,_,_,h=>h| [],_::_,_,_,h,_=>by have:=h.len;simp at this
 |_::_,[],_,_,h,_=>by have:=h.len;simp at this
 |x::l,y::m,a,b,h,a'=>K5 az (l:=l) (m:=m) ⟨by simpa using h.len,λi=>by simpa using h.at' (i+1)⟩ (az a' (h.at' 0))
def abZ{l m:List a7}(h:e6 iV l m):(l.headD cQ).le (m.headD cQ):=by
 have:=h.at' 0;cases l<;>cases m<;>exact this
def ab0(d:a9)(x:aZ){a b:List a7}(h:e6 iV a b):(eV d x a).le (eV d x b):=by
 have bA:=abZ h;unfold eV;cases decide (d.k=0)with
 |true=>exact a7.le_refl _| false=>
 cases decide (d.k=1)with
 |true=>exact a7.le_refl _| false=>
 cases decide (d.k=2)with
 |true=>exact a7.le_refl _| false=>
 cases decide (d.k=3)with
 |true=>exact bA| false=>
 cases decide (d.k=4)with
 |true=>exact K5 a7.Ge h (a7.le_refl _)| false=>
 cases decide (d.k=5)with
 |true=>exact K5 a7.abU h (a7.le_refl _)| false=>
 cases decide (d.k=6)with
 |true=>
  simp only[bh,ba,pz];cases decide (d.hi=0)with
  |true=>exact a7.le_refl _| false=>refine⟨bA.w,?_⟩;simp only[ba,j7];exact λg=>g.imp bA.f id
 |false=>
 cases decide (d.k=7)with
 |true=>exact a7.le_refl _| false=>
 cases decide (d.k=8)with
 |true=>exact a7.le_refl _| false=>exact bA
def K4.append{a b c d:List a7}(h:e6 iV a b)(a':e6 iV c d):e6 iV (a++c) (b++d):=by
 have ar:=h.len;have oJ:=a'.len;refine .of (by simp[ar,oJ]) λi hi=>?_;rcases Gv i a.length with U | U
 ·have aa:i<b.length:=by omega
  have:=h.at' i;simpa[dh,oy U,oy aa]using this
 ·have aa:b.length<=i:=by omega
  have:=a'.at' (i-a.length);simp only[dh,mS U,mS aa]at this |-;rwa [ar]at this |-
def ab1{bj p' aM q4:List a7}(h:e6 iV bj p')(aC:e6 iV aM q4)(d:a9):e6 iV (qc pl bj aM d) (qc pl p' q4 d):=by
 unfold qc;refine K4.append (K4.map λk _=>aC.at' _) ?_;cases decide (d.k=3)with
 |true=>
  refine .of rfl λi hi=>?_;have:i=0:=by simpa using hi
  subst this;exact h.at' _
 |false=>exact e6.refl _
def Se{pl:List (ByteArray×Int)}{bj p':List a7}{xs:List aZ}(h:e6 iV bj p'):∀ (ds:List a9) {aM q4:List a7},e6 iV aM q4->e6 iV (hT pl bj xs ds aM) (hT pl p' xs ds q4)
 |[],_,_,aC=>aC| d::ds,aM,q4,aC=>by rw[hT,hT,<-aC.len];exact Se h ds (aC.snoc (ab0 d _ (ab1 h aC d)))
def kX(pl:List (ByteArray×Int))(F:List aZ)(ds:List bE)(l:List a7)(i:Nat):a7:=match ds[i]? with
 |some d=>(hT pl l (eN pl F d.t.ns []) d.t.ns []).getD d.t.b1.toNat cQ| none=>cQ
def ab2{ds:List bE}{l m:List a7}(h:e6 iV l m)(i:Nat):(kX pl F ds l i).le (kX pl F ds m i):=by
 unfold kX;split
 ·exact(Se h _ (e6.refl _)).at' _
 ·exact a7.le_refl _
def GI(ds:List bE)(F:List aZ)(l:List a7):Prop:=R' iV ds.length (kX (bM ds) F ds) l
def GJ(ds:List bE)(F:List aZ)(l:List a7):Prop:=qb iV ds.length (kX (bM ds) F ds) l
def bw.has(w:bw)(n:Nat):Bool:=(w.at (n/64)).getLsbD (n%64)
def bw.ab3(x y:bw)(j:Nat):(x.or y).at j=x.at j ||| y.at j:=by
 unfold bw.at
 cases decide (j=0)<;>cases decide (j=1)<;>cases decide (j=2)<;>rfl
def bw.Sf(x y:bw)(n:Nat):(x.or y).has n=(x.has n||y.has n):=by unfold bw.has;rw[bw.ab3,BitVec.getLsbD_or]
def bw.at_one{i:Nat}(x:BitVec 64){j:Nat}(an:j<4):(bw.one i x).at j=if j=i then x else 0:=by
 unfold bw.at bw.one;rcases(by omega:j=0\/j=1\/j=2\/j=3)with rfl | rfl | rfl | rfl
 ·by_cases h:i=0<;>simp[h];omega
 ·by_cases h:i=1<;>simp[h];omega
 ·by_cases h:i=2<;>simp[h];omega
 ·by_cases h:i=3<;>simp[h];omega
def ab4(k i:Nat)(ae:k<64)(hi:i<64):(1#64 <<< k).getLsbD i=decide (i=k):=by rw[BitVec.getLsbD_shiftLeft,l2];simp only[hi,Gb,s0,b3,nw,nP,e0,BitVec.getLsbD_one];omega
def ab5(b:UInt8){n:Nat}(h:n<256):(oh b).has n=decide (n=b.toNat):=by
 have ai:=b.toNat_lt;unfold bw.has oh;rw[bw.at_one _ (by omega)];by_cases e:n/64=b.toNat/64
 ·rw[cK e,ab4 _ _ (by omega) (by omega),l2,e0,e0];omega
 ·rw[cA e];have:¬ n=b.toNat:=λh=>e (by rw[h]);simp[this]
def Sg(pl:List (ByteArray×Int))(bj:List aZ):∀ (ds:List a9) (aM:List aZ),∃ r,eN pl bj ds aM=aM++r
 |[],aM=>⟨[],by simp[eN]⟩| d::ds,aM=>by obtain⟨r,h⟩:=Sg pl bj ds (aM++[dN d (lU pl bj aM d)]);exact⟨_,by rw[eN,h,gl]⟩
def ab6(pl:List (ByteArray×Int))(bj:List aZ)(d:a9)(ds:List a9)(aM:List aZ):(eN pl bj (d::ds) aM).getD aM.length bY=dN d (lU pl bj aM d):=by obtain⟨r,h⟩:=Sg pl bj ds (aM++[dN d (lU pl bj aM d)]);rw[eN,h];simp[dh]
def qd(pl:List (ByteArray×Int))(F:List aZ)(l:List a7)(d:a9)(xs:List (aZ×a7)):aZ×a7:=
 (dN d (xs.map (·.1)++bif decide (d.k=3)then [F.getD ((dI d.t pl).getD 0).toNat bY]else []),eV d (dN d (xs.map (·.1)++bif decide (d.k=3)then [F.getD ((dI d.t pl).getD 0).toNat bY]else [])) (xs.map (·.2)++bif decide (d.k=3)then [l.getD ((dI d.t pl).getD 0).toNat cQ]else []))
def sf(pl:List (ByteArray×Int))(F:List aZ)(l:List a7)(ns:List a9)(j:Int):aZ×a7:=xZ (bY,cQ) (λd g=>qd pl F l d (d.aX.map g)) ns j
def K6(aM:List (aZ×a7))(i:Nat):(aM.getD i (bY,cQ)).1=(aM.map (·.1)).getD i bY:=by
 simp only[dh,zs];cases aM[i]?<;>rfl
def Sh(aM:List (aZ×a7))(i:Nat):(aM.getD i (bY,cQ)).2=(aM.map (·.2)).getD i cQ:=by
 simp only[dh,zs];cases aM[i]?<;>rfl
def Si(pl:List (ByteArray×Int))(F:List aZ)(l:List a7):∀ (ds:List a9) (aM:List (aZ×a7)),(pV (bY,cQ) (λd g=>qd pl F l d (d.aX.map g)) ds aM).map (·.1)=eN pl F ds (aM.map (·.1)) /\ (pV (bY,cQ) (λd g=>qd pl F l d (d.aX.map g)) ds aM).map (·.2)=hT pl l (eN pl F ds (aM.map (·.1))) ds (aM.map (·.2))
 |[],aM=>⟨rfl,rfl⟩
 |d::ds,aM=>by
  have aw:(qd pl F l d (d.aX.map λk=>aM.getD k.toNat (bY,cQ))).1=dN d (lU pl F (aM.map (·.1)) d):=by unfold qd lU;simp only[lM,KF,K6]
  have aB:(qd pl F l d (d.aX.map λk=>aM.getD k.toNat (bY,cQ))).2=eV d (dN d (lU pl F (aM.map (·.1)) d)) (qc pl l (aM.map (·.2)) d):=by unfold qd lU qc;simp only[lM,KF,K6,Sh]
  obtain⟨U,aa⟩:=Si pl F l ds (aM++[qd pl F l d (d.aX.map λk=>aM.getD k.toNat (bY,cQ))]);rw[gX,gX,dV,mU,dV,mU,aw,aB]at aa;rw[gX,dV,mU,aw]at U;have af:=ab6 pl F d ds (aM.map (·.1));refine⟨by rw[pV,U,eN],?_⟩;rw[pV,aa,hT,eX];rw[eX]at af;rw[af,eN]
def Sj(pl:List (ByteArray×Int))(F:List aZ)(l:List a7)(ns:List a9)(j:Int):sf pl F l ns j=((eN pl F ns []).getD j.toNat bY,(hT pl l (eN pl F ns []) ns []).getD j.toNat cQ):=by
 have h:=Si pl F l ns [];unfold sf xZ;refine Prod.ext ?_ ?_
 ·rw[K6,h.1];rfl
 ·rw[Sh,h.2];rfl
def ab7{l:List a7}{t:dG}(al:right t=true){j:Nat}(an:j<t.ns.length):sf pl F l t.ns j=qd pl F l t.ns[j] (t.ns[j].aX.map (sf pl F l t.ns)):=
 I5 (λd g dD h=>by rw[BZ h]) al an
noncomputable section
inductive a8(α:Type) where
 |nil| node (x:Option α) (l r:a8 α)
def bR{α:Type}(b:Bool)(x y:α):α:=@Bool.rec (λ_=>α) y x b
def bN{α R:Type}(o:Option α)(x:R)(f:α->R):R:=@Option.rec α (λ_=>R) x f o
section
variable{α R:Type}
def a8.get(t:a8 α):Nat->Option α:=@a8.rec α (λ_=>Nat->Option α) (λ_=>none) (λx _ _ ab8 ab9 k=>bR (Nat.beq k 0) x (bR (Nat.beq (Nat.mod k 2) 1) (ab8 (Nat.div k 2)) (ab9 (Nat.sub (Nat.div k 2) 1)))) t
def a8.lx(v:Option α)(t:a8 α):Nat->(a8 α->R)->R:=@a8.rec α (λ_=>Nat->(a8 α->R)->R) (λk K=>bR (Nat.beq k 0) (K (.node v .nil .nil)) (K .nil)) (λx l r sl aca k K=>bR (Nat.beq k 0) (K (.node v l r)) (bR (Nat.beq (Nat.mod k 2) 1) (sl (Nat.div k 2) λl=>K (.node x l r)) (aca (Nat.sub (Nat.div k 2) 1) λr=>K (.node x l r)))) t
def a8.AH(t:a8 α)(off n:Nat):(List α->Option R)->Option R:=@Nat.rec (λ_=>Nat->(List α->Option R)->Option R) (λ_ K=>K []) (λ_ be off K=>bN (t.get off) none λv=>be (Nat.add off 1) λl=>K (v::l)) n off
def a8.vc(l:List α)(t:a8 α)(off:Nat)(K:a8 α->R):R:=@List.rec α (λ_=>a8 α->Nat->R) (λt _=>K t) (λv _ be t off=>t.lx (some v) off λt=>be t (Nat.add off 1)) l t off
def a8.bare:Nat->a8 α
 |0=>.nil| n+1=>.node none (a8.bare n) (a8.bare n)
end
inductive ak where
 |b(x:Bool) | i (k:IntKind) (n:Int) | s (l:List UInt8)| pn | p (id off:Nat) | g (n off:Nat)| sn | sl (id off n c:Nat) | sx (id off e n:Nat) | gs (g off n c:Nat) | so| mn | m (id:Nat)| f (g:Nat) (l r:List ak) | y (id:Nat) | fn| ni | Dm (t:Nat) (v:ak)| t (l:List ak) | a (l:List ak)
def ak.cells:ak->List ak
 | .a l=>l| v=>[v]
def ak.one:ak->Bool
 | .a _ | .t _=>false| _=>true
def Dn:Value->Option ak
 | .bool x=>some (.b x)| .int k n=>some (.i k n)| .string q=>some (.s q.data.toList)| .pointer none=>some .pn| .slice none 0 0=>some .sn| .map none=>some .mn| .nilFunc=>some .fn| .nilIface=>some .ni| _=>none
def vd:List Value->Option (List ak)
 |[]=>some []
 |v::vs=>match Dn v,vd vs with
  |some x,some l=>some (x::l)| _,_=>none
def AI:Value->Option ak
 | .agg cs=>match vd cs.toList with
  |some l=>some (.a l)| none=>none
 |v=>Dn v
def ak.nat:ak->Option Nat
 | .i _ (.ofNat n)=>some n| _=>none
inductive fe where
 |cells(cs:a8 ak)(T eQ:Nat)| map (es:List (ak×ak))| loop (busy:Bool) (n:Nat) (aj:a8 ak) (ps:List Nat) (eC body:Code)| done (c:Code) (n:Nat) (aj:a8 ak) (ps:List Nat) (eC body:Code)
structure bi where
 t:a8 fe
 n:Nat
def gV:Int->Int->Bool
 | .ofNat a,.ofNat b=>Nat.beq a b| .negSucc a,.negSucc b=>Nat.beq a b| _,_=>false
def yK:Int->Int->Bool
 | .ofNat a,.ofNat b=>Nat.ble a b| .negSucc a,.negSucc b=>Nat.ble b a| .negSucc _,.ofNat _=>true| .ofNat _,.negSucc _=>false
def zv(a b:Int):Bool:=!yK b a
def K7(op:BinOp)(x y:Int):Option Bool:=match op with
 | .eql=>some (gV x y)| .neq=>some (!gV x y)| .lss=>some (zv x y)| .leq=>some (yK x y)| .gtr=>some (zv y x)| .geq=>some (yK y x)| _=>none
def GK:IntKind->Nat
 | .i8=>127 | .i16=>32767 | .i32=>2147483647 | .i64=>9223372036854775807| .u8=>255 | .u16=>65535 | .u32=>4294967295 | .u64=>18446744073709551615
def tC(k:IntKind):Int->Int
 | .ofNat n=>bif Nat.ble n (GK k)then .ofNat n else k.wrap (.ofNat n)| n=>k.wrap n
def Sk:Int->Int->Int
 | .ofNat a,.ofNat b=>.ofNat (Nat.add a b)| a,b=>a+b
def K8:Int->Int->Int
 | .ofNat a,.ofNat b=>bif Nat.ble b a then .ofNat (Nat.sub a b)else(.ofNat a:Int) - .ofNat b| a,b=>a-b
def Sl:Int->Int->Int
 | .ofNat a,.ofNat b=>.ofNat (Nat.mul a b)| a,b=>a*b
def Sm:Int->Int->Int
 | .ofNat a,.ofNat b=>.ofNat (Nat.div a b)| a,b=>a.tdiv b
def Sn:Int->Int->Int
 | .ofNat a,.ofNat b=>.ofNat (Nat.mod a b)| a,b=>a.tmod b
def So:Int->Nat->Int
 | .ofNat a,j=>.ofNat (Nat.mul a (Nat.pow 2 j))| a,j=>a*2^j
def Sp:Int->Nat->Int
 | .ofNat a,j=>.ofNat (Nat.div a (Nat.pow 2 j))| a,j=>a.fdiv (2^j)
def AJ(op:BinOp)(k:IntKind)(x y:Int):Option Int:=
 match k,x,y with
 | .u64,.ofNat a,.ofNat b=>
  bif Nat.ble a 18446744073709551615&&Nat.ble b 18446744073709551615 then
   (match op with
   | .and=>some (.ofNat (Nat.land a b))| .or=>some (.ofNat (Nat.lor a b))| .xor=>some (.ofNat (Nat.xor a b))| .andNot=>some (.ofNat (Nat.land a (Nat.sub 18446744073709551615 b)))| _=>none)
  else none
 |_,_,_=>rA op k x y
def K9(a b:UInt8):Bool:=Nat.beq a.toNat b.toNat
def sg:List UInt8->List UInt8->Bool
 |[],[]=>true| a::l,b::m=>bif K9 a b then sg l m else false| _,_=>false
def AK:ak->ak->Option Bool
 | .b x,.b w=>some (x == w)| .i k x,.i l w=>bR (IntKind.jU k l) (some (gV x w)) none| .s x,.s w=>some (sg x w)| _,_=>none
def Sq:List ak->List ak->Option Bool
 |[],[]=>some true
 |x::l,w::m=>match AK x w with
  |some true=>Sq l m
  |some false=>(match Sq l m with
   |some _=>some false| none=>none)
  |none=>none
 |_,_=>none
def aiB:ak->ak->Option Bool
 | .pn,.pn=>some true| .pn,.p _ _=>some false| .p _ _,.pn=>some false| .pn,.g _ _=>some false| .g _ _,.pn=>some false| _,_=>none
def K'(op:BinOp)(k dq:IntKind)(a b:Int):Option ak:=match op with
 | .shl=>(match b with
  | .ofNat j=>some (.i k (tC k (So a (bR (Nat.ble j k.bits) j k.bits))))| _=>none)
 | .shr=>(match b with
  | .ofNat j=>some (.i k (Sp a (bR (Nat.ble j k.bits) j k.bits)))| _=>none)
 | .add=>bR (IntKind.jU k dq) (some (.i k (tC k (Sk a b)))) none| .sub=>bR (IntKind.jU k dq) (some (.i k (tC k (K8 a b)))) none| .mul=>bR (IntKind.jU k dq) (some (.i k (tC k (Sl a b)))) none| .quo=>bR (IntKind.jU k dq) (bR (gV b 0) none (some (.i k (tC k (Sm a b))))) none| .rem=>bR (IntKind.jU k dq) (bR (gV b 0) none (some (.i k (Sn a b)))) none| .and=>bR (IntKind.jU k dq) (bN (AJ .and k a b) none λr=>some (.i k r)) none| .or=>bR (IntKind.jU k dq) (bN (AJ .or k a b) none λr=>some (.i k r)) none| .xor=>bR (IntKind.jU k dq) (bN (AJ .xor k a b) none λr=>some (.i k r)) none| .andNot=>bR (IntKind.jU k dq) (bN (AJ .andNot k a b) none λr=>some (.i k r)) none| op=>bR (IntKind.jU k dq) (bN (K7 op a b) none λr=>some (.b r)) none
def La(op:BinOp)(a b:List UInt8):Option ak:=match op with
 | .eql=>some (.b (sg a b))| .neq=>some (.b (bR (sg a b) false true))| .add=>bR (Nat.ble (Nat.add a.length b.length) 9223372036854775807) (some (.s (a++b))) none| _=>none
def Lb(op:BinOp)(dc:Option dz)(a b:Bool):Option ak:=match dc with
 |some { bz:=.bool,.. }=>
  (match op with
  | .eql=>some (.b (a == b))| .neq=>some (.b (!(a == b)))| _=>none)
 |_=>none
def AL(agg:Bool)(l:List ak):Option ak:=bif agg then some (.a l)else match l with
 |[v]=>some v| _=>none
def yL:Nat->List ak->Option (List ak)
 |0,_=>some []| _+1,[]=>none
 |n+1,v::l=>match yL n l with
  |some r=>some (v::r)| none=>none
def yM{α:Type}:List α->Nat->List α
 |[],_=>[]| v::l,n=>bif Nat.beq n 0 then v::l else yM l (Nat.sub n 1)
def rf(E:Env)(t o:Nat)(l:List ak):Option ak:=bN (E t) none λi=>bR (Nat.beq i.size 0) none <| bN (yL i.size (yM l o)) none λr=>AL i.bz.agg r
def yN(F:Nat->ak->ak->Option Bool)(E:Env)(l m:List ak):List (Nat×Nat)->Option Bool
 |[]=>some true|(t,o)::r=>bN (rf E t o l) none λx=>bN (rf E t o m) none λy=>bN (F t x y) none λb=>bR b (yN F E l m r) (some false)
def Lc(P:Program)(t:Nat):Bool:=match P.underlying t with
 |some (.struct b')=>!P.stoodInHeld t&&b'.toList.all λf=>decide (f.name ≠ "_")
 |_=>false
def qe(P:Program)(E:Env):Nat->Nat->ak->ak->Option Bool
 |0,_,_,_=>none
 |d+1,t,x,y=>bN (E t) none λi=>match i.bz,x,y with
  | .bool,.b a,.b b=>some (a == b)| .int _,.i k a,.i dq b=>bR (IntKind.jU k dq) (some (gV a b)) none| .string,.s a,.s b=>some (sg a b)| .struct b',.a l,.a m=>bR (Lc P t) (yN (qe P E d) E l m b') none| .array n e,.a l,.a m=>bN (E e) none λaD=>yN (qe P E d) E l m ((List.range n).map λi=>(e,i*aD.size))
  |_,_,_=>none
def Dp(P:Program)(E:Env)(op:BinOp)(t:Nat)(l m:List ak):Option ak:=bR (P.eqGuardType P.depth t) none (bN (qe P E 8 t (.a l) (.a m)) none λb=>match op with
 | .eql=>some (.b b)| .neq=>some (.b (!b))| _=>none)
def Ld:ak->Option Bool
 | .sn=>some true| .sl .. | .sx .. | .gs .. | .so=>some false| _=>none
def Le:ak->Option Bool
 | .pn=>some true| .p .. | .g ..=>some false| _=>none
def GL(op:BinOp)(b:Bool):Option ak:=match op with
 | .eql=>some (.b b)| .neq=>some (.b (!b))| _=>none
def Lf(P:Program)(E:Env)(op:BinOp)(t:Nat)(x y:ak):Option ak:=
 match x,y with
 | .i k a,.i dq b=>K' op k dq a b| .s a,.s b=>La op a b| .b a,.b b=>Lb op (E t) a b| .a l,.a m=>Dp P E op t l m
 |x,.sn=>bN (E t) none λi=>(match i.bz with
  | .slice _=>bN (Ld x) none λb=>GL op b
  |_=>none)
 |x,.pn=>bN (E t) none λi=>(match i.bz with
  | .pointer _=>bN (Le x) none λb=>GL op b
  |_=>none)
 |_,_=>none
def tD{α:Type}:List α->Nat->Option α
 |[],_=>none| v::l,n=>bif Nat.beq n 0 then some v else tD l (Nat.sub n 1)
def ve:List ak->Nat->List ak->Option (List ak)
 |cs,0,[]=>some cs
 |_::cs,0,v::vs=>match ve cs 0 vs with
  |some r=>some (v::r)| none=>none
 |c::cs,n+1,vs=>match ve cs n vs with
  |some r=>some (c::r)| none=>none
 |[],_,_=>none
def wX(place:Nat->Option (Nat×Nat)):List ak->List (Nat×ak)->Option (List ak)
 |cells,[]=>some cells
 |cells,(i,v)::a2=>match place i with
  |none=>none
  |some (off,size)=>bif Nat.beq v.cells.length size then(match ve cells off v.cells with
   |some cs=>wX place cs a2| none=>none)else none
def cS(aj:a8 ak):Operand->Option ak
 | .tmp t=>aj.get t| .const v=>AI v| .global g=>some (.g g 0)| .func f=>some (.f f [] [])
def lY(aj:a8 ak):List Operand->Option (List ak)
 |[]=>some []
 |x::xs=>match cS aj x,lY aj xs with
  |some v,some l=>some (v::l)| _,_=>none
def AM(aj:a8 ak):List (Nat×Operand)->Option (List (Nat×ak))
 |[]=>some []
 |(i,x)::xs=>match cS aj x,AM aj xs with
  |some v,some l=>some ((i,v)::l)| _,_=>none
abbrev GT:=Nat->Option (a8 ak)
def tE{R:Type}(G:GT)(m:a8 fe)(x:ak)(n:Nat)(K:List ak->Option R):Option R:=match x with
 | .p id off=>(match m.get id with
  |some (.cells cs _ eQ)=>bif Nat.ble (Nat.add off n) eQ then cs.AH off n K else none| _=>none)
 | .g g off=>(match G g with
  |some cs=>cs.AH off n K| none=>none)
 |_=>none
def Dq(x:ak)(n:Nat):Option ak:=match x with
 | .p id off=>some (.p id (Nat.add off n))| .g g off=>some (.g g (Nat.add off n))| _=>none
def GM(x:ak)(j sz:Nat):Option ak:=match x with
 | .sl id off n _=>bif Nat.blt j n then some (.p id (Nat.add off (Nat.mul j sz)))else none| .sx id off _ n=>bif Nat.blt j n then some (.p id (Nat.add off (Nat.mul j sz)))else none| .gs g off n _=>bif Nat.blt j n then some (.g g (Nat.add off (Nat.mul j sz)))else none| _=>none
def tF:ak->Option Nat
 | .sn | .so=>some 0| .sl _ _ n _ | .sx _ _ _ n | .gs _ _ n _=>some n| _=>none
def qf(v:ak):Option Nat:=match v with
 | .s l=>some l.length| v=>tF v
def Lg(x:ak)(sz l:Nat)(h:Option Nat):Option ak:=match x with
 | .sn=>bif Nat.beq l 0&&Nat.beq (h.getD 0) 0 then some .sn else none
 | .sl id off n c=>let h:=h.getD n
  bif Nat.ble l h&&Nat.ble h c then bif Nat.beq c l then some (.sl id off (Nat.sub h l) 0)else some (.sl id (Nat.add off (Nat.mul l sz)) (Nat.sub h l) (Nat.sub c l))else none
 | .sx id off e n=>let h:=h.getD n
  bif Nat.ble l h&&Nat.ble h n then(bif Nat.beq l 0||Nat.blt l n then some (.sx id (Nat.add off (Nat.mul l sz)) (Nat.add e l) (Nat.sub h l))else some .so)else none
 |_=>none
def yO(o:Option (Option ak)):Option (Option Nat):=match o with
 |none=>some none
 |some (some v)=>(match v.nat with
  |some n=>some (some n)| none=>none)
 |some none=>none
def Lh(l:List UInt8)(lo hi:Nat):List UInt8:=(yM l lo).take (Nat.sub hi lo)
def Sr(c a b:Option ak):Option ak:=match c,a,b with
 |some (.b c),some u,some v=>some (bR c u v)| _,_,_=>none
def Ss(op:UnOp)(x:Option ak):Option ak:=match op,x with
 | .not,some (.b b)=>some (.b (bR b false true))| .neg,some (.i k n)=>some (.i k (tC k (0-n)))| _,_=>none
def St(P:Program)(E:Env)(op:BinOp)(t:Nat)(x y:Option ak):Option ak:=bN x none λx=>bN y none λy=>Lf P E op t x y
def Su(G:GT)(m:a8 fe)(i:Option dz)(x:Option ak):Option ak:=bN i none λi=>bN x none λx=>tE G m x i.size λl=>AL i.bz.agg l
def Sv(x:Option ak):Option ak:=match x with
 |some (.p id off)=>some (.p id off)| some (.g g off)=>some (.g g off)| _=>none
def GN(E:Env)(t i:Nat):Option (Nat×dz):=match E t with
 |some { bz:=.struct b',.. }=>(match tD b' i with
  |some (kA,off)=>(match E kA with
   |some fW=>some (off,fW)| none=>none)
  |none=>none)
 |_=>none
def Sw(r:Option (Nat×dz))(x:Option ak):Option ak:=bN r none λr=>bN x none λx=>bR (Nat.beq r.2.size 0) none (Dq x r.1)
def GO(aD:dz)(cs:List ak)(off:Nat):Option ak:=bR (Nat.beq aD.size 0) none <| bN (yL aD.size (yM cs off)) none λl=>AL aD.bz.agg l
def Sx(r:Option (Nat×dz))(x:Option ak):Option ak:=match r,x with
 |some (off,fW),some (.a cs)=>GO fW cs off| _,_=>none
def Li(E:Env)(t:Nat):Option (Option Nat×dz):=match E t with
 |some { bz:=.slice e,.. }=>(match E e with
  |some aD=>some (none,aD)| none=>none)
 |some { bz:=.array n e,.. }=>(match E e with
  |some aD=>some (some n,aD)| none=>none)
 |_=>none
def Sy(r:Option (Option Nat×dz))(x i:Option ak):Option ak:=bN r none λr=>bN x none λx=>bN i none λi=>bN i.nat none λj=>
 bN r.1 (GM x j r.2.size) λn=>bR (Nat.blt j n) (Dq x (Nat.mul j r.2.size)) none
def Lj(l:List UInt8)(j:Nat):Option ak:=bN (tD l j) none λb=>some (.i .u8 (.ofNat b.toNat))
def Sz(cs:List ak)(j n:Nat)(aD:dz):Option ak:=bR (Nat.beq (Nat.mul n aD.size) cs.length&&Nat.blt j n) (GO aD cs (Nat.mul j aD.size)) none
def Dr(E:Env)(t:Nat)(x i:Option ak):Option ak:=match E t,x,i with
 |some { bz:=.string,.. },some (.s l),some i=>bN i.nat none λj=>Lj l j
 |some { bz:=.array n e,.. },some (.a cs),some i=>bN (E e) none λaD=>bN i.nat none λj=>Sz cs j n aD
 |_,_,_=>none
def Ds(o:Option (List ak)):Option ak:=bN o none λl=>some (.a l)
def SA(E:Env)(t:Nat)(ps:Option (List (Nat×ak))):Option ak:=match E t,ps with
 |some i,some vs=>bN (vd i.zero) none λz=>(match i.bz with
  | .struct b'=>bR (zt E b') (Ds (wX (places E b') z vs)) none| .array _ e=>bN (E e) none λaD=>Ds (wX (λj=>some (j*aD.size,aD.size)) z vs)
  |_=>none)
 |_,_=>none
def SB(f:Fn)(b' cs:Option (List ak)):Option ak:=match f,b',cs with
 | .func g,some b',some cs=>some (.f g b' cs)| _,_,_=>none
def Lk(aD:dz)(x:ak)(lo hi:Option Nat):Option ak:=match lo,hi with
 |none,none=>(match x with
  | .sn | .sl .. | .sx .. | .so=>some x| _=>none)
 |lo,hi=>Lg x aD.size (lo.getD 0) hi
def Ll(l:List UInt8)(lo hi:Option Nat):Option ak:=match lo,hi with
 |none,none=>some (.s l)| lo,hi=>bR (Nat.ble (lo.getD 0) (hi.getD l.length)&&Nat.ble (hi.getD l.length) l.length) (some (.s (Lh l (lo.getD 0) (hi.getD l.length)))) none
def Dt(E:Env)(t:Nat)(x:Option ak)(lo hi:Option (Option Nat)):Option ak:=match E t,x,lo,hi with
 |some { bz:=.slice e,.. },some x,some lo,some hi=>bN (E e) none λaD=>Lk aD x lo hi
 |some { bz:=.string,.. },some (.s l),some lo,some hi=>Ll l lo hi| _,_,_,_=>none
def SC(x:Option ak)(i:Nat):Option ak:=match x with
 |some (.t vs)=>tD vs i| _=>none
def SD(E:Env)(s d:Nat)(x:Option ak):Option ak:=match E s,E d,x with
 |some _,some { bz:=.int k,.. },some (.i _ n)=>some (.i k (tC k n))| _,_,_=>none
def GP(o:Option Nat):Option ak:=bN o none λn=>some (.i .i64 (.ofNat n))
def SE(E:Env)(ts:List Nat)(l:Option (List ak)):Option ak:=match ts,l with
 |[t],some [v]=>(match E t,v with
  |some { bz:=.slice _,.. },v=>GP (tF v)| some { bz:=.string,.. },.s l=>GP (some l.length)| some { bz:=.array n _,.. },_=>GP (some n)| _,_=>none)
 |_,_=>none
def SF(l:Option (List ak)):Option ak:=match l with
 |some [.i k a,.i _ b]=>some (.i k (bR (yK a b) b a))| _=>none
def SG(l:Option (List ak)):Option ak:=match l with
 |some [.i k a,.i _ b]=>some (.i k (bR (yK a b) a b))| _=>none
def SH(E:Env)(ts:List Nat)(l:Option (List ak)):Option ak:=match ts,l with
 |[t],some [.sl _ _ _ c]=>(match E t with
  |some { bz:=.slice _,.. }=>some (.i .i64 (.ofNat c))| _=>none)
 |_,_=>none
def SI(l:Option (List ak)):Option ak:=match l with
 |some [.sn]=>some .pn| some [.sl id off n c]=>bR (Nat.beq c 0) none (some (.p id off))| some [.sx id off e n]=>bR (Nat.beq n 0) none (some (.p id off))| _=>none
def Lm(E:Env)(b:Builtin)(ts:List Nat)(l:Option (List ak)):Option ak:=match b with
 | .len=>SE E ts l| .max=>SF l| .min=>SG l| .cap=>SH E ts l| .unsafeSliceData=>SI l| _=>none
def Ln(P:Program)(E:Env)(G:GT)(m:a8 fe)(op:Op)(aj:a8 ak):Option ak:=
 match op with
 | .move x=>cS aj x| .assign x=>cS aj x| .pick c a b=>Sr (cS aj c) (cS aj a) (cS aj b)| .unOp op _ x=>Ss op (cS aj x)| .binOp op t x y _=>St P E op t (cS aj x) (cS aj y)| .load t x=>Su G m (E t) (cS aj x)| .nilCheck x=>Sv (cS aj x)| .fieldAddr t x i=>Sw (GN E t i) (cS aj x)| .field t x i=>Sx (GN E t i) (cS aj x)| .indexAddr t x i=>Sy (Li E t) (cS aj x) (cS aj i)| .index t x i=>Dr E t (cS aj x) (cS aj i)| .build t parts=>SA E t (AM aj parts.toList)| .makeFunc f first captured=>SB f (lY aj first.toList) (lY aj captured.toList)
 | .slice t x lo hi none=>Dt E t (cS aj x) (yO (lo.map (cS aj))) (yO (hi.map (cS aj)))| .extract x i=>SC (cS aj x) i| .convert s d x=>SD E s d (cS aj x)| .call { callee:=.builtin b,args,argTypes }=>Lm E b argTypes.toList (lY aj args.toList)| _=>none
def Lo(E:Env)(t:Nat)(x hi mx:Option ak):Option ak:=match E t,x,hi,mx with
 |some { bz:=.slice e,.. },some (.sl id off n c),some (.i _ (.ofNat h)),some (.i _ (.ofNat k))=>bN (E e) none λaD=>
  bR (Nat.ble h k&&(Nat.ble k c&&Nat.blt 0 k)) (some (.sl id off h k)) none
 |some { bz:=.slice e,.. },some (.sx id off aB n),some (.i _ (.ofNat h)),some (.i _ (.ofNat k))=>bN (E e) none λaD=>
  bR (Nat.ble h k&&(Nat.ble k n&&Nat.blt 0 k)) (some (.sl id off h k)) none
 |_,_,_,_=>none
def Lp(E:Env)(t:Nat)(x lo hi mx:Option ak):Option ak:=match E t,x,lo,hi,mx with
 |some { bz:=.slice e,.. },some (.sl id off n c),some (.i _ (.ofNat l)),some (.i _ (.ofNat h)),some (.i _ (.ofNat k))=>bN (E e) none λaD=>
  bR (Nat.ble l h&&(Nat.ble h k&&(Nat.ble k c&&Nat.blt l k))) (some (.sl id (Nat.add off (Nat.mul l aD.size)) (Nat.sub h l) (Nat.sub k l))) none
 |_,_,_,_,_=>none
def Lq(x:Option ak):Option ak:=match x with
 |some (.i .u64 n)=>some (.i .u64 (hN n))| _=>none
def sh(P:Program)(E:Env)(G:GT)(m:a8 fe)(op:Op)(aj:a8 ak):Option ak:=
 match op with
 | .unOp .xor t x=>Lq (cS aj x)| .slice t x (some lo) (some hi) (some mx)=>Lp E t (cS aj x) (cS aj lo) (cS aj hi) (cS aj mx)| .slice t x none (some hi) (some mx)=>Lo E t (cS aj x) (cS aj hi) (cS aj mx)| op=>Ln P E G m op aj
def pA{R:Type}(n:Nat)(K:Nat->R):R:=Nat.casesOn (Nat.add n 1) (K 0) K
def SJ{R:Type}(n:Int)(K:Int->R):R:=match n with
 | .ofNat n=>pA n λn=>K (.ofNat n)
 | .negSucc n=>pA n λn=>K (.negSucc n)
def SK{R:Type}(b:Bool)(K:Bool->R):R:=bR b (K true) (K false)
def Lr{R:Type}(v:ak)(K:ak->R):R:=match v with
 | .b x=>SK x λx=>K (.b x)
 | .i k n=>SJ n λn=>K (.i k n)
 | .p id off=>pA off λoff=>K (.p id off)
 | .g id off=>pA off λoff=>K (.g id off)
 | .sl id off n c=>pA off λoff=>pA n λn=>pA c λc=>K (.sl id off n c)
 | .sx id off e n=>pA off λoff=>pA e λe=>pA n λn=>K (.sx id off e n)
 |v=>K v
def yP{R:Type}(m:bi)(e:fe)(K:Nat->bi->R):R:=pA m.n λn=>m.t.lx (some e) n λt=>K n ⟨t,Nat.add n 1⟩
def si{R:Type}(m:bi)(l:List ak)(T:Nat)(K:Nat->bi->R):R:=a8.vc l .nil 0 λcs=>yP m (.cells cs T l.length) K
def vf{R:Type}(m:bi)(x:ak)(l:List ak)(K:bi->Option R):Option R:=match x with
 | .p id off=>(match m.t.get id with
  |some (.cells cs T eQ)=>bif Nat.ble (Nat.add off l.length) eQ&&l.all ak.one then a8.vc l cs off λcs=>m.t.lx (some (.cells cs T eQ)) id λt=>K ⟨t,m.n⟩else none
  |_=>none)
 |_=>none
def yQ:Nat->List ak->List ak
 |0,_=>[]| n+1,z=>z++yQ n z
def AN(i:Option dz):Bool:=match i with
 |some { bz:=.int .u8,.. }=>true| _=>false
def tG(u:Option dz)(aD:dz)(x:ak):Bool:=match u,x with
 |some { bz:=.slice _,.. },.sn=>true| some { bz:=.slice _,.. },.so=>true| some { bz:=.slice _,.. },.sl ..=>true| some { bz:=.slice _,.. },.sx ..=>true| some { bz:=.string,.. },.s _=>Nat.beq aD.size 1| _,_=>false
def AO(G:GT)(m:a8 fe)(x:ak)(sz:Nat){R:Type}(K:List ak->Option R):Option R:=match x with
 | .sn | .so=>K []| .sl id off n _ | .sx id off _ n=>tE G m (.p id off) (Nat.mul n sz) K| .s l=>K (l.map λb=>.i .u8 (.ofNat b.toNat))| _=>none
def Ls(G:GT)(m:bi)(id off n c:Nat)(l:List ak)(k sz T:Nat):Option (ak×bi):=
 bR (Nat.ble (Nat.add n k) c) (vf m (.p id (Nat.add off (Nat.mul n sz))) l λm=>some (.sl id off (Nat.add n k) c,m)) (tE G m.t (.p id off) (Nat.mul n sz) λc3=>si m (c3++l) T λid m=>some (.sx id 0 0 (Nat.add n k),m))
def Lt(m:bi)(id:Nat)(n:Nat)(cs:a8 ak)(eQ:Nat)(l:List ak)(k sz T:Nat):Option (ak×bi):=
 bR (Nat.ble (Nat.mul n sz) eQ) (m.t.lx none id λt=>a8.vc l cs (Nat.mul n sz) λcs=>yP ⟨t,m.n⟩ (.cells cs T (Nat.mul (Nat.add n k) sz)) λid m=>some (.sx id 0 0 (Nat.add n k),m)) none
def Du(G:GT)(m:bi)(s:ak)(l:List ak)(k sz bytes T:Nat):Option (ak×bi):=match s with
 | .sn=>bR (Nat.ble (Nat.mul k bytes) 140737488355328&&Nat.ble k 9223372036854775807) (si m l T λid m=>some (.sx id 0 0 k,m)) none| .sl id off n c=>bR (Nat.ble (Nat.mul (Nat.add n k) bytes) 140737488355328&&Nat.ble (Nat.add n k) 9223372036854775807) (Ls G m id off n c l k sz T) none
 | .sx id off e n=>(match m.t.get id with
  |some (.cells cs k3 eQ)=>bR ((Nat.beq off 0&&Nat.beq e 0)&&(Nat.beq k3 T&&(Nat.ble (Nat.mul (Nat.add n k) bytes) 140737488355328&&Nat.ble (Nat.add n k) 9223372036854775807))) (Lt m id n cs eQ l k sz T) none| _=>none)
 |_=>none
def AP:List ak->Option (List UInt8)
 |[]=>some []
 | .i .u8 (.ofNat n)::l=>bif Nat.ble n 255 then(match AP l with
  |some r=>some (UInt8.ofNat n::r)| none=>none)else none
 |_=>none
def Dv:ak->List (ak×ak)->Option (Option ak)
 |_,[]=>some none
 |k,(x,v)::l=>match AK k x with
  |some true=>some (some v)| some false=>Dv k l| none=>none
def Dw(k v:ak):List (ak×ak)->Option (List (ak×ak))
 |[]=>some [(k,v)]
 |(x,u)::l=>match AK k x with
  |some true=>some ((k,v)::l)
  |some false=>(match Dw k v l with
   |some r=>some ((x,u)::r)| none=>none)
  |none=>none
abbrev j3:=Nat->List ak->bi->Option (ak×bi)
structure fE where
 P:Program
 E:Env
 G:GT
 pr:j3
def SL(i:Option dz)(t:Nat)(x:Option ak):Option (List ak×Nat×Nat×(Nat->ak)):=bN i none λi=>bN x none λv=>bR (Nat.beq v.cells.length i.size) (some (v.cells,t,1,λid=>.p id 0)) none
def SM(i:Option dz)(t:Nat):Option (List ak×Nat×Nat×(Nat->ak)):=bN i none λi=>bN (vd i.zero) none λz=>some (z,t,1,λid=>.p id 0)
def SN(E:Env)(t len:Nat)(ps:Option (List (Nat×ak))):Option (List ak×Nat×Nat×(Nat->ak)):=match E t,ps with
 |some { bz:=.slice e,.. },some vs=>bN (E e) none λaD=>bN (vd aD.zero) none λz=>
  bR (Nat.ble (Nat.mul len aD.size) 16777216&&Nat.blt 0 (Nat.mul len aD.size)) (bN (wX (λj=>some (j*aD.size,aD.size)) (yQ len z) vs) none λcs=>some (cs,e,len,λid=>.sl id 0 len len)) (bR (Nat.beq len 0&&vs.isEmpty) (some ([],e,0,λid=>.sl id 0 0 0)) none)
 |_,_=>none
def SO(E:Env)(t:Nat)(l c:Option ak):Option (List ak×Nat×Nat×(Nat->ak)):=match E t,l,c with
 |some { bz:=.slice e,.. },some l,some c=>bN (E e) none λaD=>bN l.nat none λn=>bN c.nat none λk=>bN (vd aD.zero) none λz=>
  bR (Nat.ble n k&&(Nat.ble (Nat.mul aD.bytes k) 140737488355328&&Nat.ble k 9223372036854775807)) (some (yQ k z,e,k,λid=>.sl id 0 n k)) none
 |_,_,_=>none
def yR(E:Env)(o:Oper)(aj:a8 ak):Option (List ak×Nat×Nat×(Nat->ak)):=
 match o.op with
 | .box t x=>SL (E t) t (cS aj x)| .alloc t=>SM (E t) t| .buildSlice t len parts=>SN E t len (AM aj parts.toList)| .makeSlice t l c=>SO E t (cS aj l) (cS aj c)| _=>none
def GQ(i:Option dz)(m:bi)(x y:Option ak):Option (ak×bi):=bN i none λi=>bN x none λx=>bN y none λv=>bR (Nat.beq v.cells.length i.size) (vf m x v.cells λm=>some (.t [],m)) none
def GR(i:Option dz)(m:bi):Option (ak×bi):=match i with
 |some { bz:=.map k e,.. }=>yP m (.map []) λid m=>some (.m id,m)
 |_=>none
def GS(i:Option dz)(v:ak):Bool:=match i,v with
 |some { bz:=.int k,.. },.i dq _=>IntKind.jU k dq| some { bz:=.string,.. },.s _=>true| _,_=>false
def SP(ok:Bool)(z:ak)(r:Option ak):ak:=bR ok (bN r (.t [z,.b false]) λv=>.t [v,.b true]) (bN r z λv=>v)
def Lu(P:Program)(E:Env)(t:Nat)(m:bi)(x y:Option ak)(ok:Bool):Option (ak×bi):=match E t,x,y with
 |some { bz:=.map k e,.. },some (.m id),some y=>bR (GS (E k) y) (match m.t.get id with
  |some (.map es)=>bN (Dv y es) none λr=>bN (P.info? e) none λinf=>bN inf.zero none λz=>bN (AI z) none λz=>some (SP ok z r,m)
  |_=>none) none
 |_,_,_=>none
def Dx(E:Env)(t:Nat)(m:bi)(x y z:Option ak):Option (ak×bi):=match E t,x,y,z with
 |some { bz:=.map k e,.. },some (.m id),some y,some v=>bR (GS (E k) y) (match m.t.get id with
  |some (.map es)=>bN (Dw y v es) none λes=>m.t.lx (some (.map es)) id λt=>some (.t [],⟨t,m.n⟩)
  |_=>none) none
 |_,_,_,_=>none
def GU(G:GT)(m:bi)(id off n:Nat):Option (ak×bi):=tE G m.t (.p id off) n λl=>bN (AP l) none λl=>some (.s l,m)
def GV(Y:fE)(m:bi)(s d:Nat)(x:Option ak):Option (ak×bi):=match Y.E s,Y.E d,x with
 |some { bz:=.slice e,.. },some { bz:=.string,.. },some (.sl id off n _)=>bR (AN (Y.E e)) (GU Y.G m id off n) none| some { bz:=.slice e,.. },some { bz:=.string,.. },some (.sx id off _ n)=>bR (AN (Y.E e)) (GU Y.G m id off n) none| some { bz:=.slice e,.. },some { bz:=.string,.. },some .sn=>bR (AN (Y.E e)) (some (.s [],m)) none| _,_,_=>none
def AQ:ak->Bool
 | .sn | .so | .sx ..=>true| .sl _ _ n c=>Nat.ble n c| _=>false
def Lv(Y:fE)(m:bi)(ts:List Nat)(l:Option (List ak)):Option (ak×bi):=match ts,l with
 |[t,u],some [s,x]=>(match Y.E t with
  |some { bz:=.slice e,.. }=>bN (Y.E e) none λaD=>bR (tG (Y.E u) aD x) (AO Y.G m.t x aD.size λl=>bN (qf x) none λk=>
    bR (Nat.beq k 0) (bR (AQ s) (some (s,m)) none) (bR (l.all ak.one) (Du Y.G m s l k aD.size aD.bytes e) none)) none
  |_=>none)
 |_,_=>none
def Lw(Y:fE)(m:bi)(ts:List Nat)(l:Option (List ak)):Option (ak×bi):=match ts,l with
 |[t,u],some [.sl id off n c,.s q]=>(match Y.E t with
  |some { bz:=.slice e,.. }=>bN (Y.E e) none λaD=>bR (Nat.beq aD.size 1&&Nat.ble q.length n) (vf m (.p id off) (q.map λb=>.i .u8 (.ofNat b.toNat)) λm=>some (.i .i64 (.ofNat q.length),m)) none
  |_=>none)
 |_,_=>none
def Lx(Y:fE)(m:bi)(ts:List Nat)(l:Option (List ak)):Option (ak×bi):=match ts,l with
 |[rJ,it],some [.pn,.i .i64 (.ofNat 0)]=>some (.s [],m)
 |[rJ,it],some [.p id 0,.i .i64 (.ofNat n)]=>(match Y.E rJ,m.t.get id with
  |some { bz:=.pointer e,.. },some (.cells cs T eQ)=>bN (Y.E e) none λaD=>
   bR (Nat.beq aD.size 1&&(Nat.beq T e&&Nat.blt 0 n)) (tE Y.G m.t (.p id 0) n λl=>bN (AP l) none λl=>bR (Nat.ble n 9223372036854775807) (m.t.lx none id λt=>some (.s l,⟨t,m.n⟩)) none) none
  |_,_=>none)
 |_,_=>none
def SQ(Y:fE)(m:bi)(b:Builtin)(ts:List Nat)(l:Option (List ak)):Option (ak×bi):=match b with
 | .append=>Lv Y m ts l| .copy=>Lw Y m ts l| .unsafeString=>Lx Y m ts l| _=>none
def Ly(Y:fE)(m:bi)(o:Oper)(aj:a8 ak):Option (ak×bi):=
 match o.op with
 | .store t x y=>bN o.dst (GQ (Y.E t) m (cS aj x) (cS aj y)) λ_=>none
 | .makeMap t none=>GR (Y.E t) m
 | .makeMap t (some x)=>(match cS aj x with
  |some (.i _ _)=>GR (Y.E t) m| _=>none)
 | .lookup t x y ok=>Lu Y.P Y.E t m (cS aj x) (cS aj y) ok| .mapUpdate t x y z=>bN o.dst (Dx Y.E t m (cS aj x) (cS aj y) (cS aj z)) λ_=>none
 | .insert t x y z=>bN o.dst (Dx Y.E t m (cS aj x) (cS aj y) (cS aj z)) λ_=>none
 | .convert s d x=>GV Y m s d (cS aj x)| .call { callee:=.builtin b,args,argTypes }=>SQ Y m b argTypes.toList (lY aj args.toList)| _=>none
def jP(E:Env)(op:Op):Nat:=match op with
 | .move _ | .assign _ | .pick .. | .binOp .. | .load .. | .nilCheck _ | .fieldAddr .. | .field .. | .indexAddr .. | .index .. | .build .. | .makeFunc .. | .extract .. | .unOp .. | .slice ..=>0| .alloc _ | .box .. | .buildSlice .. | .makeSlice ..=>1
 | .convert s d _=>(match E d with
  |some { bz:=.int _,.. }=>0| _=>2)
 | .call { callee:=.builtin .len,argTypes,.. }=>(match argTypes.toList with
  |[t]=>(match E t with
   |some { bz:=.map ..,.. }=>2| _=>0)
  |_=>2)
 | .call { callee:=.builtin .cap,.. }=>0| .call { callee:=.builtin .max,.. }=>0| .call { callee:=.builtin .min,.. }=>0| .call { callee:=.builtin .unsafeSliceData,.. }=>0| _=>2
def nt{R:Type}(dst:Option Nat)(aj:a8 ak)(v:ak)(K:a8 ak->Option R):Option R:=bN dst (K aj) λd=>Lr v λv=>aj.lx (some v) d K
def SR{R:Type}(call:ak->List ak->bi->Option (ak×bi))(dst:Option Nat)(f:Option ak)(l:Option (List ak))(aj:a8 ak)(m:bi)(K:a8 ak->bi->Option R):Option R:=
 bN f none λf=>bN l none λl=>bN (call f l m) none λr=>bR (Nat.ble m.n r.2.n) (nt dst aj r.1 λaj=>K aj r.2) none
def SS{R:Type}(dst:Option Nat)(r:Option (List ak×Nat×Nat×(Nat->ak)))(aj:a8 ak)(m:bi)(K:a8 ak->bi->Option R):Option R:=
 bN dst none λd=>bN r none λr=>si m r.1 r.2.1 λid m=>nt (some d) aj (r.2.2.2 id) λaj=>K aj m
def SU{R:Type}(dst:Option Nat)(v:Option ak)(aj:a8 ak)(m:bi)(K:a8 ak->bi->Option R):Option R:=
 bN v none λv=>nt dst aj v λaj=>K aj m
def SV{R:Type}(dst:Option Nat)(n:Nat)(r:Option (ak×bi))(aj:a8 ak)(K:a8 ak->bi->Option R):Option R:=
 bN r none λr=>bR (Nat.ble n r.2.n) (nt dst aj r.1 λaj=>K aj r.2) none
def SW{R:Type}(Y:fE)(k:Nat)(o:Oper)(aj:a8 ak)(m:bi)(K:a8 ak->bi->Option R):Option R:=match k with
 |0=>SU o.dst (sh Y.P Y.E Y.G m.t o.op aj) aj m K| 1=>SS o.dst (yR Y.E o aj) aj m K| _=>SV o.dst m.n (Ly Y m o aj) aj K
def wY{R:Type}(Y:fE)(call:ak->List ak->bi->Option (ak×bi))(o:Oper)(aj:a8 ak)(m:bi)(K:a8 ak->bi->Option R):Option R:=
 match o.op with
 | .call { callee:=.value f,args,.. }=>SR call o.dst (cS aj f) (lY aj args.toList) aj m K| op=>SW Y (jP Y.E op) o aj m K
def yS{R:Type}(o:Oper)(aj:a8 ak)(K:a8 ak->Option R):Option R:=match o.dst with
 |none=>K aj| some d=>aj.lx (some (.t [])) d K
def sj(ops:List Oper)(o:Oper)(aj:a8 ak):Option Bool:=match o.guard with
 |none=>some true
 |some (j,b)=>match(tD ops j).bind (·.dst)with
  |none=>none
  |some d=>match aj.get d with
   |some (.b c)=>some (c == b)| some (.t _)=>some false| _=>none
def AR(Y:fE)(call:ak->List ak->bi->Option (ak×bi))(ops:List Oper)(l:List Oper):a8 ak->bi->Option (a8 ak×bi):=
 @List.rec Oper (λ_=>a8 ak->bi->Option (a8 ak×bi)) (λaj m=>some (aj,m)) (λo _ be aj m=>bN (sj ops o aj) none λw=>bR w (wY Y call o aj m be) (yS o aj λaj=>be aj m)) l
def yT(E:Env)(ops:List Oper)(i:Nat):Nat:=bN (tD ops i) 2 λo=>jP E o.op
def vg(E:Env)(ops:List Oper):List Nat:=(List.range ops.length).filter λi=>Nat.beq (yT E ops i) 2
def AS(es fP:List Nat)(i:Nat):Nat:=(es.filter λe=>(fP.getD i 0).testBit e).length
def yC(es fP:List Nat)(i:Nat):Nat:=(es.filter λe=>!(fP.getD e 0).testBit i).length
def SX(E:Env)(ops:List Oper)(es fP:List Nat)(j:Nat):List (Nat×Nat):=((List.range ops.length).filter λi=>!Nat.beq (yT E ops i) 2&&Nat.beq (AS es fP i) j).map λi=>(i,yT E ops i)
def SY(E:Env)(ops:List Oper)(es fP:List Nat):List Nat->Nat->List (Nat×Nat)
 |[],j=>SX E ops es fP j| e::l,j=>SX E ops es fP j++(e,2)::SY E ops es fP l (j+1)
def Dy(E:Env)(ops:List Oper):List (Nat×Nat):=SY E ops (vg E ops) (jD ops) (vg E ops) 0
def tH(ops:List Oper):List (Nat×Nat)->Nat->Bool
 |[],k=>Nat.beq k (2^ops.length-1)
 |(i,_)::l,k=>!k.testBit i&&(match ops[i]? with
  |some o=>BN o k&&tH ops l (k ||| 2^i)| none=>false)
def GW(fP:List Nat):List Nat->Bool
 |[]=>true| x::l=>l.all (λy=>(fP.getD y 0).testBit x)&&GW fP l
def SZ(E:Env)(ops:List Oper):Bool:=zD ops&&(tH ops (Dy E ops) 0&&(GW (jD ops) (vg E ops)&&(((Dy E ops).filter λr=>Nat.beq r.2 2).map (·.1) == vg E ops)))
mutual
def AT:ak->ak->Bool
 | .b x,.b w=>x == w| .i k x,.i l w=>IntKind.jU k l&&gV x w| .s x,.s w=>sg x w| .pn,.pn=>true| .p i x,.p j w=>Nat.beq i j&&Nat.beq x w| .g i x,.g j w=>Nat.beq i j&&Nat.beq x w| .sn,.sn=>true| .sl i x n c,.sl j w m d=>Nat.beq i j&&(Nat.beq x w&&(Nat.beq n m&&Nat.beq c d))| .sx i x n c,.sx j w m d=>Nat.beq i j&&(Nat.beq x w&&(Nat.beq n m&&Nat.beq c d))| .gs i x n c,.gs j w m d=>Nat.beq i j&&(Nat.beq x w&&(Nat.beq n m&&Nat.beq c d))| .mn,.mn=>true| .m i,.m j=>Nat.beq i j| .f g l r,.f h m s=>Nat.beq g h&&(tI l m&&tI r s)| .y i,.y j=>Nat.beq i j| .fn,.fn=>true| .ni,.ni=>true| .t l,.t m=>tI l m| .a l,.a m=>tI l m| _,_=>false
def tI:List ak->List ak->Bool
 |[],[]=>true| x::l,w::m=>AT x w&&tI l m| _,_=>false
end
inductive oi where
 |made(i id:Nat)(l:List ak)(T:Nat)| load (i:Nat) (o:Oper) (aj:a8 ak) (v:ak)
def mF(Y:fE)(call:ak->List ak->bi->Option (ak×bi))(ops:List Oper):List (Nat×Nat)->a8 ak->bi->List bi->List oi->Option (a8 ak×bi×List bi×List oi)
 |[],aj,m,S,A=>some (aj,m,m::S,A)|(i,k)::a2,aj,m,S,A=>bN (tD ops i) none λo=>bN (sj ops o aj) none λw=>bR (Nat.beq (jP Y.E o.op) k) (bR w (bR (Nat.beq k 0) (bN (sh Y.P Y.E Y.G m.t o.op aj) none λv=>nt o.dst aj v λcF=>mF Y call ops a2 cF m S (bR (nG o.op) (.load i o aj v::A) A)) (bR (Nat.beq k 1) (bN o.dst none λd=>bN (yR Y.E o aj) none λr=>si m r.1 r.2.1 λid m=>nt (some d) aj (r.2.2.2 id) λaj=>mF Y call ops a2 aj m S (.made i id r.1 r.2.1::A)) (wY Y call o aj m λaj m'=>mF Y call ops a2 aj m' (m::S) A))) (yS o aj λaj=>mF Y call ops a2 aj m (bR (Nat.beq k 2) (m::S) S) A)) none
def AU(S:List bi)(lo hi:Nat)(p:bi->Bool):Bool:=((S.drop lo).take (hi+1-lo)).all p
def Lz(Y:fE)(o:Oper)(aj:a8 ak)(v:ak)(m:bi):Bool:=match sh Y.P Y.E Y.G m.t o.op aj with
 |some u=>AT u v| none=>false
def LA(id:Nat)(l:List ak)(T:Nat)(m:bi):Bool:=Nat.blt id m.n&&(match m.t.get id with
 |some (.cells cs k3 eQ)=>Nat.beq k3 T&&(Nat.beq eQ l.length&&(match cs.AH 0 l.length (λc4=>some c4)with
  |some c4=>tI l c4| none=>false))
 |_=>false)
def LB(Y:fE)(es fP:List Nat)(S:List bi):oi->Bool
 | .made i id l T=>AU S (AS es fP i) (yC es fP i) (LA id l T)| .load i o aj v=>AU S (AS es fP i) (yC es fP i) (Lz Y o aj v)
def LC(Y:fE)(call:ak->List ak->bi->Option (ak×bi))(ops:List Oper)(aj:a8 ak)(m:bi):Option (a8 ak×bi):=
 bR (SZ Y.E ops) (match mF Y call ops (Dy Y.E ops) aj m [] []with
  |none=>none| some (aj,m,S,A)=>bR (A.all (LB Y (vg Y.E ops) (jD ops) S.reverse)) (some (aj,m)) none) none
def AV{R:Type}:List Nat->List ak->a8 ak->(a8 ak->Option R)->Option R
 |[],[],aj,K=>K aj| t::ps,v::vs,aj,K=>aj.lx (some v) t λaj=>AV ps vs aj K
 |_,_,_,_=>none
def wZ(Y:fE)(aj:a8 ak)(m:a8 fe):List ResultVar->Option (List ak)
 |[]=>some []
 | .tmp t::l=>(match aj.get t,wZ Y aj m l with
  |some v,some vs=>some (v::vs)| _,_=>none)
 | .cell t ty::l=>(match aj.get t,Y.E ty,wZ Y aj m l with
  |some x,some i,some vs=>(match tE Y.G m x i.size λl=>AL i.bz.agg l with
   |some v=>some (v::vs)| none=>none)
  |_,_,_=>none)
abbrev nu:=qB×a8 ak×bi
abbrev rh:=Bool->Nat->Code->a8 ak->bi->Option nu
def S0:List ak->ak
 |[v]=>v| vs=>.t vs
def GX(Y:fE)(aj:a8 ak)(m:bi)(bd:List ResultVar):Option (ak×bi):=bN (wZ Y aj m.t bd) none λvs=>some (S0 vs,m)
def S1(Y:fE)(r:Option nu)(bd:List ResultVar):Option (ak×bi):=match r with
 |some (.normal,aj,m)=>GX Y aj m bd| some (.ret,aj,m)=>GX Y aj m bd| _=>none
def GY(Y:fE)(rec:rh)(g:Nat)(args:List ak)(m:bi):Option (ak×bi):=
 bN (Y.P.funcs[g]?) none λfn=>bN fn.body none λc=>bR (Nat.ble args.length fn.ntmps) (a8.vc args (a8.bare 12) 0 λaj=>S1 Y (rec true fn.ntmps c aj m) fn.results.toList) none
def qg(Y:fE)(rec:rh)(g:Nat)(args:List ak)(m:bi):Option (ak×bi):=bN (Y.pr g args m) (GY Y rec g args m) some
def LD(l:Nat)(e:Option fe)(jump:Option Code)(m:bi):Option (ak×bi):=match e with
 |some (.loop true n kY ps eC body)=>m.t.lx (some (bN jump (.loop false n kY ps eC body) λc=>.done c n kY ps eC body)) l λt=>some (.b jump.isNone,⟨t,m.n⟩)
 |_=>none
def S2(l:Nat)(r:Option nu):Option (ak×bi):=bN r none λr=>LD l (r.2.2.t.get l) (zM r.1) r.2.2
def LF(rec:rh)(l n:Nat)(body:Code)(e:Option fe)(aj:a8 ak)(m:bi):Option (ak×bi):=match e with
 |some (.loop false hA kY ps eC LG)=>m.t.lx (some (.loop true hA kY ps eC LG)) l λt=>S2 l (rec false n body aj ⟨t,m.n⟩)
 |_=>none
def S3(rec:rh)(l n:Nat)(body:Code)(r:Option nu):Option (ak×bi):=match r with
 |some (.normal,aj,m)=>LF rec l n body (m.t.get l) aj m| _=>none
def LH(rec:rh)(l:Nat)(args:List ak)(m:bi):Option (ak×bi):=match m.t.get l with
 |some (.loop false n kY ps eC body)=>AV ps args kY λaj=>S3 rec l n body (rec false n eC aj m)
 |_=>none
def GZ(Y:fE)(rec:rh)(f:ak)(args:List ak)(m:bi):Option (ak×bi):=match f with
 | .f g l r=>qg Y rec g (l++(args++r)) m| .y l=>LH rec l args m| _=>none
def LI:Code->Option qB
 | .exit id=>some (.exit id)| .goto l=>some (.goto l)| .ret=>some .ret| _=>none
def Dz(r:Option nu)(k:a8 ak->bi->Option nu):Option nu:=match r with
 |some (.normal,aj,m)=>k aj m| r=>r
def S4(id:Nat)(r:Option nu):Option nu:=match r with
 |some (.exit j,aj,m)=>bR (Nat.beq j id) (some (.normal,aj,m)) (some (.exit j,aj,m))| r=>r
def G0(r:Option (a8 ak×bi)):Option nu:=bN r none λr=>some (.normal,r.1,r.2)
def S5(v:Option ak)(x y:Option nu):Option nu:=match v with
 |some (.b b)=>bR b x y| _=>none
def DA(rec:rh)(hf:Bool)(n:Nat)(c:Code)(k:Nat):Code->a8 ak->bi->Option nu:=@Nat.rec (λ_=>Code->a8 ak->bi->Option nu) (λ_ _ _=>none)
 (λ_ be x aj m=>match rec hf n x aj m with
  |some (.goto l,aj,m)=>bN (findLabel c l) none λa2=>be a2 aj m
  |r=>r) k
def S6(l:Nat)(aj:a8 ak)(r:Option (ak×bi)):Option nu:=bN r none λr=>match r.2.t.get l with
 |some (.loop false ..)=>r.2.t.lx none l λt=>some (.normal,aj,⟨t,r.2.n⟩)
 |some (.done c ..)=>bN (LI c) none λex=>r.2.t.lx none l λt=>some (ex,aj,⟨t,r.2.n⟩)
 |_=>none
def LJ(Y:fE)(rec:rh)(hf:Bool)(n:Nat)(v:Option ak)(ps:List Nat)(eC body:Code)(aj:a8 ak)(m:bi):Option nu:=match hf,v with
 |true,some (.f g [] r)=>yP m (.loop false n aj ps eC body) λl m=>S6 l aj (GY Y rec g (.y l::r) m)
 |_,_=>none
def LK(Y:fE)(f:Nat)(rec:rh):rh:=λhf n c aj m=>match c with
 | .skip=>some (.normal,aj,m)| .label _=>some (.normal,aj,m)| .ret=>some (.ret,aj,m)| .exit id=>some (.exit id,aj,m)| .goto l=>some (.goto l,aj,m)| .seq x y=>Dz (rec hf n x aj m) (rec hf n y)| .block id c=>S4 id (rec hf n c aj m)| .cond c x y=>S5 (cS aj c) (rec hf n x aj m) (rec hf n y aj m)| .loop c=>Dz (rec hf n c aj m) (rec hf n (.loop c))| .region _ ops false=>G0 (AR Y (GZ Y rec) ops.toList ops.toList aj m)| .region _ ops true=>G0 (LC Y (GZ Y rec) ops.toList aj m)| .scope c=>DA rec hf n c f c aj m| .rangeFunc x ps eC body=>LJ Y rec hf n (cS aj x) ps.toList eC body aj m| .refuse _=>none
def h9(Y:fE)(f:Nat):rh:=@Nat.rec (λ_=>rh) (λ_ _ _ _ _=>none) (λf be=>LK Y f be) f
end
section
variable{α R:Type}
def iH(b:Bool)(x y:α):bR b x y=bif b then x else y:=by cases b<;>rfl
def ck{o:Option α}{f:α->Option R}{r:R}(h:bN o none f=some r):∃ v,o=some v/\f v=some r:=by
 cases o with
 |none=>cases h| some v=>exact⟨v,rfl,h⟩
def fF{b:Bool}{x:Option α}{r:α}(h:bR b x none=some r):b=true/\x=some r:=by
 cases b with
 |true=>exact⟨rfl,h⟩| false=>cases h
def w0{b:Bool}{x:Option α}{r:α}(h:bR b none x=some r):b=false/\x=some r:=by
 cases b with
 |false=>exact⟨rfl,h⟩| true=>cases h
def a8.DB(x:Option α)(l r:a8 α)(k:Nat):(a8.node x l r).get k=bif Nat.beq k 0 then x else bif Nat.beq (k%2) 1 then l.get (k/2)else r.get (k/2-1):=by show bR _ _ (bR _ _ _)=_;rw[iH,iH];rfl
def a8.mG(v:Option α):∀ (t:a8 α) (k:Nat),∃ eS:a8 α,(∀ {R:Type} (K:a8 α->R),t.lx v k K=K eS)/\∀ j x,eS.get j=some x->(j=k/\v=some x)\/(j≠k/\t.get j=some x)
 | .nil,k=>by
  cases ae:Nat.beq k 0 with
  |true=>
   have:=cf ae;subst this;refine⟨.node v .nil .nil,λK=>rfl,λj x h=>?_⟩;rw[a8.DB]at h;cases an:Nat.beq j 0 with
   |true=>rw[an]at h;exact .inl ⟨cf an,h⟩
   |false=>
    rw[an]at h;cases hm:Nat.beq (j%2) 1<;>(rw[hm]at h;cases h)
  |false=>refine⟨.nil,λK=>?_,λj x h=>by cases h⟩;show bR _ _ _=_;rw[iH,ae];rfl
 | .node x l r,k=>by
  cases ae:Nat.beq k 0 with
  |true=>
   have:=cf ae;subst this;refine⟨.node v l r,λK=>rfl,λj y h=>?_⟩;rw[a8.DB]at h |-;cases an:Nat.beq j 0 with
   |true=>rw[an]at h;exact .inl ⟨cf an,h⟩| false=>rw[an]at h;exact .inr ⟨(λe=>by subst e;cases an),h⟩
  |false=>
   have fI:k≠0:=λe=>by subst e;cases ae
   cases hm:Nat.beq (k%2) 1 with
   |true=>
    have pQ:=cf hm;obtain⟨c4,U,aa⟩:=a8.mG v l (k/2);refine⟨.node x c4 r,λK=>?_,λj y h=>?_⟩;·show bR _ _ (bR _ _ _)=_;rw[iH,iH,ae];show(bif Nat.beq (k%2) 1 then _ else _)=_;rw[hm];exact U _
    ·rw[a8.DB]at h |-;cases an:Nat.beq j 0 with
     |true=>rw[an]at h;exact .inr ⟨λe=>by have:=cf an;omega,h⟩
     |false=>
      rw[an]at h;have acb:j≠0:=λe=>by subst e;cases an
      cases ri:Nat.beq (j%2) 1 with
      |true=>
       have acc:=cf ri;rw[ri]at h;rcases aa _ _ h with⟨e,ag⟩ | ⟨e,ag⟩;·exact .inl ⟨by omega,ag⟩
       ·exact .inr ⟨λbn=>e (by rw[bn]),ag⟩
      |false=>rw[ri]at h;exact .inr ⟨(λe=>by subst e;rw[hm]at ri;cases ri),h⟩
   |false=>
    have pQ:k%2≠1:=λe=>by rw[e]at hm;cases hm
    obtain⟨rG,U,aa⟩:=a8.mG v r (k/2-1);refine⟨.node x l rG,λK=>?_,λj y h=>?_⟩;·show bR _ _ (bR _ _ _)=_;rw[iH,iH,ae];show(bif Nat.beq (k%2) 1 then _ else _)=_;rw[hm];exact U _
    ·rw[a8.DB]at h |-;cases an:Nat.beq j 0 with
     |true=>rw[an]at h;exact .inr ⟨λe=>by have:=cf an;omega,h⟩
     |false=>
      rw[an]at h;have acb:j≠0:=λe=>by subst e;cases an
      cases ri:Nat.beq (j%2) 1 with
      |true=>rw[ri]at h;exact .inr ⟨(λe=>by subst e;rw[hm]at ri;cases ri),h⟩
      |false=>
       have acc:j%2≠1:=λe=>by rw[e]at ri;cases ri
       rw[ri]at h;rcases aa _ _ h with⟨e,ag⟩ | ⟨e,ag⟩;·exact .inl ⟨by omega,ag⟩
       ·exact .inr ⟨λbn=>e (by rw[bn]),ag⟩
def a8.AW(t:a8 α):∀ (n off:Nat) (K:List α->Option R) (r:R),t.AH off n K=some r->∃ l,l.length=n/\(∀ i,i<n->t.get (off+i)=l[i]?)/\K l=some r
 |0,off,K,r,h=>⟨[],rfl,λi hi=>by omega,h⟩
 |n+1,off,K,r,h=>by
  have a':bN (t.get off) none (λv=>t.AH (off+1) n λl=>K (v::l))=some r:=h;obtain⟨v,ag,a'⟩:=ck a';obtain⟨l,U,aa,af⟩:=a8.AW t n (off+1) _ r a';refine⟨v::l,by simp[U],λi hi=>?_,af⟩;cases i with
  |zero=>simpa using ag| succ i=>have:=aa i (by omega);rw[show off+(i+1)=off+1+i by omega,this];simp
def a8.vh:∀ (l:List α) (t:a8 α) (off:Nat),∃ eS:a8 α,(∀ {R:Type} (K:a8 α->R),a8.vc l t off K=K eS) /\ ∀ j x,eS.get j=some x->(off<=j/\l[j-off]?=some x)\/((j<off\/off+l.length<=j)/\t.get j=some x)
 |[],t,off=>⟨t,λK=>rfl,λj x h=>.inr ⟨by simp;omega,h⟩⟩
 |v::l,t,off=>by
  obtain⟨t1,U,aa⟩:=a8.mG (some v) t off;obtain⟨t2,af,aR⟩:=a8.vh l t1 (off+1);refine⟨t2,λK=>(U _).trans (af K),λj x h=>?_⟩;rcases aR j x h with⟨aT,aU⟩ | ⟨aT,aU⟩;·exact .inl ⟨by omega,by rw[show j-off=(j-(off+1))+1 by omega];simpa using aU⟩
  ·rcases aa j x aU with⟨rfl,e⟩ | ⟨e,bG⟩
   ·exact .inl ⟨cC _,by simp at e;simp[e]⟩
   ·exact .inr ⟨by simp only[e1];omega,bG⟩
end
def LL(n:Nat)(K:Nat->R):pA n K=K n:=rfl
def acd(n:Int)(K:Int->R):SJ n K=K n:=by cases n<;>rfl
def ace(b:Bool)(K:Bool->R):SK b K=K b:=by cases b<;>rfl
def acf(v:ak)(K:ak->R):Lr v K=K v:=by
 cases v with
 |b x=>exact ace x λx=>K (.b x)
 |i k n=>exact acd n λn=>K (.i k n)
 |_=>rfl
def LM(a b:Nat):Nat.beq a b=decide (a=b):=by
 by_cases h:a=b
 ·subst h;simp
 ·rw[fX h];simp[h]
def G1(a b:Nat):Nat.ble a b=decide (a<=b):=by
 by_cases h:a<=b
 ·rw[yo h];simp[h]
 ·cases ai:Nat.ble a b with
  |false=>simp[h]| true=>exact absurd (bJ ai) h
def yU(a b:Int):gV a b=decide (a=b):=by
 cases a<;>cases b<;>simp only[gV,LM]<;>simp
 omega
def G2(a b:Int):yK a b=decide (a<=b):=by
 cases a<;>cases b<;>simp only[yK]
 ·rw[G1];simp only[Gu];exact Int.ofNat_le.symm
 ·symm;simp only[nP];rename_i a b;have:=Int.negSucc_lt_zero b;have:(0:Int)<=Int.ofNat a:=KE a;omega
 ·symm;simp only[e0];rename_i a b;have:=Int.negSucc_lt_zero a;have:(0:Int)<=Int.ofNat b:=KE b;omega
 ·rw[G1];simp only[Gu,Int.negSucc_eq];omega
def acg(a b:Int):zv a b=decide (a<b):=by
 unfold zv;rw[G2];by_cases h:a<b
 ·simp[h]
 ·simp[h];omega
def ach(op:BinOp)(x y:Int):K7 op x y=uf op x y:=by cases op<;>simp only[K7,uf,yU,acg,G2]
def w1(k:IntKind)(n:Int):tC k n=k.wrap n:=by
 cases n with
 |negSucc n=>rfl
 |ofNat n=>
  simp only[tC];cases h:Nat.ble n (GK k)with
  |false=>rfl
  |true=>
   have a':=bJ h;simp only[bh];cases k<;>simp only[GK]at a'<;>simp only[IntKind.wrap,IntKind.signed,IntKind.bits]<;>simp<;>omega
def aci(a b:Int):Sk a b=a+b:=by cases a<;>cases b<;>rfl
def acj(a b:Int):K8 a b=a-b:=by
 cases a<;>cases b<;>try rfl
 rename_i a b;simp only[K8];cases h:Nat.ble b a with
 |false=>rfl| true=>have:=bJ h;show((a-b:Nat):Int)=(a:Int)-b;omega
def ack(a b:Int):Sl a b=a*b:=by cases a<;>cases b<;>rfl
def acm(a b:Int):Sm a b=a.tdiv b:=by cases a<;>cases b<;>rfl
def acn(a b:Int):Sn a b=a.tmod b:=by cases a<;>cases b<;>rfl
def aco(a:Int)(j:Nat):So a j=a*2^j:=by
 cases a with
 |negSucc a=>rfl| ofNat a=>show((a*2^j:Nat):Int)=(a:Int)*2^j;simp
def acp(a:Int)(j:Nat):Sp a j=a.fdiv (2^j):=by
 cases a with
 |negSucc a=>rfl| ofNat a=>show((a/2^j:Nat):Int)=(a:Int).fdiv (2^j);rw[show(2:Int)^j=((2^j:Nat):Int) by simp];rw[E7 _ (KE _)];simp
def S7(j b:Nat):(bif Nat.ble j b then j else b)=min j b:=by
 rw[G1];by_cases h:j<=b
 ·simp[h,Bs h]
 ·simp[h];omega
def w2{a:Nat}(h:a<=18446744073709551615):(BitVec.ofInt IntKind.u64.bits (Int.ofNat a)).toNat=a:=by show(BitVec.ofInt 64 (a:Int)).toNat=a;rw[BitVec.ofInt_natCast,CL];omega
def wrap64{a:Nat}(h:a<=18446744073709551615):IntKind.u64.wrap (a:Int)=Int.ofNat a:=by show IntKind.u64.wrap (.ofNat a)=_;rw[<-w1];simp only[tC,GK,yo h,bh]
def G3{op:BinOp}{k:IntKind}{x y r:Int}(h:AJ op k x y=some r):rA op k x y=some r:=by
 unfold AJ at h;split at h
 ·rename_i a b;cases aL:(Nat.ble a 18446744073709551615&&Nat.ble b 18446744073709551615)with
  |false=>rw[aL]at h;cases h
  |true=>
   rw[aL]at h;rw[b3]at aL;have aC:=bJ aL.1;have ai:=bJ aL.2;have S8:a<2^64:=by omega
   have G4:b<2^64:=by omega
   simp only[bh]at h;split at h;·rw[<-h];simp only[rA,E',w2 aC,w2 ai];rw[wrap64 (by have:=Nat.and_lt_two_pow a G4;omega)];rfl
   ·rw[<-h];simp only[rA,BitVec.toNat_or,w2 aC,w2 ai];rw[wrap64 (by have:=Nat.or_lt_two_pow S8 G4;omega)];rfl
   ·rw[<-h];simp only[rA,BitVec.toNat_xor,w2 aC,w2 ai];rw[wrap64 (by have:=Nat.xor_lt_two_pow S8 G4;omega)];rfl
   ·rw[<-h];have ax:(~~~(BitVec.ofInt IntKind.u64.bits (Int.ofNat b))).toNat=18446744073709551615-b:=by rw[BitVec.toNat_not,w2 ai];rfl
    simp only[rA,E',w2 aC,ax];rw[wrap64 (by have:=Nat.and_lt_two_pow a (show 18446744073709551615-b<2^64 by omega);omega)];rfl
   ·cases h
 ·exact h
def acq(a b:UInt8):K9 a b=decide (a=b):=by unfold K9;rw[LM];simp only[Gu];exact UInt8.toNat_inj
def AX:∀ (l m:List UInt8),sg l m=decide (l=m)
 |[],[]=>by simp[sg]
 |[],_::_=>by simp[sg]
 |_::_,[]=>by simp[sg]
 |a::l,b::m=>by
  simp only[sg,acq,AX l m];by_cases h:a=b;·subst h;simp
  ·simp[h]
def w3{α:Type}:∀ (l:List α) (n:Nat),tD l n=l[n]?
 |[],n=>by simp[tD]
 |v::l,n=>by
  unfold tD;cases n with
  |zero=>rfl| succ n=>exact(w3 l n).trans (by simp)
def G5{α:Type}:∀ (l:List α) (n:Nat),yM l n=l.drop n
 |[],n=>by simp[yM]
 |v::l,n=>by
  unfold yM;cases n with
  |zero=>rfl| succ n=>exact(G5 l n).trans (by simp)
def S9{n:Nat}{l r:List ak}(h:yL n l=some r):r=l.take n/\r.length=n:=by
 induction n generalizing l r with
 |zero=>simp[yL]at h;subst h;simp
 |succ n be=>
  cases l with
  |nil=>simp[yL]at h
  |cons v l=>
   simp only[yL]at h;split at h;·rename_i q aO;obtain⟨rfl,aa⟩:=be aO;cases h;simp at aa |-;omega
   ·cases h
structure Loc where
 b:Nat
 o:Nat
 c:Nat
abbrev bp:=Nat->Option Loc
def bp.le(D bm:bp):Prop:=∀ i a,D i=some a->bm i=some a
mutual
def aI(D:bp):ak->Value->Prop
 | .b x,u=>u=.bool x| .i k n,u=>u=.int k n| .s l,u=>u=.string ⟨l.toArray⟩| .pn,u=>u=.pointer none| .p id off,u=>∃ a,D id=some a/\u=.pointer (some ⟨a.b,a.o+off,none⟩)| .g n off,u=>u=.pointer (some ⟨n,off,none⟩)| .sn,u=>u=.slice none 0 0| .sl id off n c,u=>∃ a,D id=some a/\u=.slice (some ⟨a.b,a.o+off,none⟩) n c| .sx id off e n,u=>∃ a,D id=some a/\e+n<=a.c/\u=.slice (some ⟨a.b,a.o+off,none⟩) n (a.c-e)| .gs n off k c,u=>u=.slice (some ⟨n,off,none⟩) k c| .so,u=>∃ a c,u=.slice (some a) 0 c| .mn,u=>u=.map none| .m id,u=>∃ a,D id=some a/\u=.map (some a.b)| .f g l r,u=>∃ vs ws,bx D l vs/\bx D r ws/\u=.func (.func g) vs.toArray ws.toArray| .y id,u=>∃ a,D id=some a/\u=.func (.yield a.b) #[] #[]| .fn,u=>u=.nilFunc| .ni,u=>u=.nilIface| .Dm t v,u=>∃ x,aI D v x/\u=.iface t x| .t l,u=>∃ vs,bx D l vs/\u=.tuple vs.toArray| .a l,u=>∃ vs,bx D l vs/\u=.agg vs.toArray
def bx(D:bp):List ak->List Value->Prop
 |[],us=>us=[]| v::l,us=>∃ x xs,aI D v x/\bx D l xs/\us=x::xs
end
section
variable{D bm:bp}
mutual
def aI.mono(h:D.le bm):∀ {v:ak} {u:Value},aI D v u->aI bm v u
 | .b _,_,ag | .i _ _,_,ag | .s _,_,ag | .pn,_,ag | .g _ _,_,ag | .sn,_,ag | .gs ..,_,ag | .so,_,ag | .mn,_,ag | .fn,_,ag | .ni,_,ag=>by simpa only[aI]using ag
 | .p ..,_,ag | .sl ..,_,ag | .m _,_,ag | .y _,_,ag=>by simp only[aI]at ag |-;obtain⟨a,U,aa⟩:=ag;exact⟨a,h _ _ U,aa⟩
 | .sx ..,_,ag=>by simp only[aI]at ag |-;obtain⟨a,U,aa⟩:=ag;exact⟨a,h _ _ U,aa⟩
 | .f _ l r,_,ag=>by simp only[aI]at ag |-;obtain⟨vs,ws,U,aa,af⟩:=ag;exact⟨vs,ws,bx.mono h U,bx.mono h aa,af⟩
 | .Dm _ v,_,ag=>by simp only[aI]at ag |-;obtain⟨x,U,aa⟩:=ag;exact⟨x,aI.mono h U,aa⟩
 | .t l,_,ag=>by simp only[aI]at ag |-;obtain⟨x,U,aa⟩:=ag;exact⟨x,bx.mono h U,aa⟩
 | .a l,_,ag=>by simp only[aI]at ag |-;obtain⟨x,U,aa⟩:=ag;exact⟨x,bx.mono h U,aa⟩
def bx.mono(h:D.le bm):∀ {l:List ak} {us:List Value},bx D l us->bx bm l us
 |[],_,ag=>by simpa only[bx]using ag
 |v::l,_,ag=>by simp only[bx]at ag |-;obtain⟨x,xs,U,aa,af⟩:=ag;exact⟨x,xs,aI.mono h U,bx.mono h aa,af⟩
end
def bx.nil:bx D [] []:=by simp[bx]
def bx.cons{v:ak}{l:List ak}{x:Value}{xs:List Value}(h:aI D v x)(k:bx D l xs):bx D (v::l) (x::xs):=by simp only[bx];exact⟨x,xs,h,k,rfl⟩
def bx.iW{v:ak}{l:List ak}{us:List Value}(h:bx D (v::l) us):∃ x xs,aI D v x/\bx D l xs/\us=x::xs:=by simpa only[bx]using h
def bx.ly{us:List Value}(h:bx D [] us):us=[]:=by simpa only[bx]using h
def bx.len:∀ {l:List ak} {us:List Value},bx D l us->us.length=l.length
 |[],_,h=>by rw[h.ly];rfl
 |v::l,_,h=>by obtain⟨x,xs,U,aa,rfl⟩:=h.iW;simp[bx.len aa]
def bx.get:∀ {l:List ak} {us:List Value} {i:Nat} {v:ak},bx D l us->l[i]?=some v->∃ x,us[i]?=some x/\aI D v x
 |[],_,i,v,h,hi=>by simp at hi
 |w::l,_,i,v,h,hi=>by
  obtain⟨x,xs,U,aa,rfl⟩:=h.iW;cases i with
  |zero=>simp at hi;subst hi;exact⟨x,rfl,U⟩| succ i=>simpa using bx.get aa (by simpa using hi)
def bx.LN:∀ {l:List ak} {us:List Value},us.length=l.length->(∀ (i:Nat) (v:ak),l[i]?=some v->∃ x,us[i]?=some x/\aI D v x)->bx D l us
 |[],us,ar,h=>by have:us=[]:=l' (by simpa using ar);subst this;exact .nil
 |w::l,us,ar,h=>by
  cases us with
  |nil=>simp at ar| cons x xs=>obtain⟨y,aN,U⟩:=h 0 w rfl;simp at aN;subst aN;exact .cons U (bx.LN (by simpa using ar) λi v hi=>by simpa using h (i+1) v (by simpa using hi))
def bx.append:∀ {l:List ak} {us:List Value} {m:List ak} {ws:List Value},bx D l us->bx D m ws->bx D (l++m) (us++ws)
 |[],_,m,ws,h,k=>by rw[h.ly];exact k
 |w::l,_,m,ws,h,k=>by obtain⟨x,xs,U,aa,rfl⟩:=h.iW;exact .cons U (bx.append aa k)
def bx.take:∀ {l:List ak} {us:List Value} (n:Nat),bx D l us->bx D (l.take n) (us.take n)
 |[],_,n,h=>by rw[h.ly];simpa using bx.nil
 |w::l,_,n,h=>by
  obtain⟨x,xs,U,aa,rfl⟩:=h.iW;cases n with
  |zero=>simpa using bx.nil| succ n=>simpa using bx.cons U (bx.take n aa)
def bx.drop:∀ {l:List ak} {us:List Value} (n:Nat),bx D l us->bx D (l.drop n) (us.drop n)
 |[],_,n,h=>by rw[h.ly];simpa using bx.nil
 |w::l,us,n,h=>by
  cases n with
  |zero=>simpa using h| succ n=>obtain⟨x,xs,U,aa,rfl⟩:=h.iW;simpa using bx.drop n aa
def bx.m7{l:List ak}{us:List Value}(h:bx D l us):∀ n,bx D (yQ n l) ((List.replicate n us).flatten)
 |0=>by simpa[yQ]using bx.nil
 |n+1=>by rw[q0,Jd];exact h.append (bx.m7 h n)
def aI.bool{x:Bool}{u:Value}(h:aI D (.b x) u):u=.bool x:=by simpa only[aI]using h
def aI.int{k:IntKind}{n:Int}{u:Value}(h:aI D (.i k n) u):u=.int k n:=by simpa only[aI]using h
def aI.str{l:List UInt8}{u:Value}(h:aI D (.s l) u):u=.string ⟨l.toArray⟩:=by simpa only[aI]using h
def aI.ptr{id off:Nat}{u:Value}(h:aI D (.p id off) u):∃ a,D id=some a/\u=.pointer (some ⟨a.b,a.o+off,none⟩):=by simpa only[aI]using h
def aI.oj{id off:Nat}{u:Value}(h:aI D (.g id off) u):u=.pointer (some ⟨id,off,none⟩):=by simpa only[aI]using h
def aI.qh{id off n c:Nat}{u:Value}(h:aI D (.sl id off n c) u):∃ a,D id=some a/\u=.slice (some ⟨a.b,a.o+off,none⟩) n c:=by simpa only[aI]using h
def aI.sk{id off e n:Nat}{u:Value}(h:aI D (.sx id off e n) u):∃ a,D id=some a/\e+n<=a.c/\u=.slice (some ⟨a.b,a.o+off,none⟩) n (a.c-e):=by simpa only[aI]using h
def aI.LO{id off n c:Nat}{u:Value}(h:aI D (.gs id off n c) u):u=.slice (some ⟨id,off,none⟩) n c:=by simpa only[aI]using h
def aI.G6{u:Value}(h:aI D .so u):∃ a c,u=.slice (some a) 0 c:=by simpa only[aI]using h
def aI.yV{u:Value}(h:aI D .sn u):u=.slice none 0 0:=by simpa only[aI]using h
def aI.agg{l:List ak}{u:Value}(h:aI D (.a l) u):∃ vs,bx D l vs/\u=.agg vs.toArray:=by simpa only[aI]using h
def aI.LP{l:List ak}{u:Value}(h:aI D (.t l) u):∃ vs,bx D l vs/\u=.tuple vs.toArray:=by simpa only[aI]using h
def aI.G7{l:List ak}(h:bx D l vs):aI D (.a l) (.agg vs.toArray):=by simp only[aI];exact⟨vs,h,rfl⟩
def aI.G8{l:List ak}(h:bx D l vs):aI D (.t l) (.tuple vs.toArray):=by simp only[aI];exact⟨vs,h,rfl⟩
def aI.undef:aI D (.t []) undef:=by simp only[aI];exact⟨[],.nil,rfl⟩
def aI.cells{v:ak}{u:Value}(h:aI D v u):bx D v.cells u.cells.toList:=by
 cases v<;>simp only[ak.cells]
 case a l=>obtain⟨vs,U,rfl⟩:=h.agg;simpa[Value.cells]using U
 all_goals
  have key:∀ w:Value,(∀ cs,w≠.agg cs)->w.cells.toList=[w]:=λw hw=>by cases w<;>first | rfl | exact(hw _ rfl).elim
  rw[key u ?_];·exact .cons h .nil
  ·rintro cs rfl;simp[aI]at h
def aI.one{v:ak}{u:Value}(h:aI D v u)(aq:v.one=true):u.oneCell'=true:=by
 cases v<;>simp only[ak.one,jw]at aq<;>simp only[aI]at h
 all_goals first
  |(subst h;rfl)|(obtain⟨_,_,rfl⟩:=h;rfl)|(obtain⟨_,_,_,rfl⟩:=h;rfl)|(obtain⟨_,_,_,_,rfl⟩:=h;rfl)
def bx.one{l:List ak}{us:List Value}(h:bx D l us)(aq:l.all ak.one=true):hH us=true:=by refine gi.2 λx ab=>?_;obtain⟨i,hi⟩:=Gt ab;have aK:=(iI.1 hi).1;rw[h.len]at aK;obtain⟨y,aN,ag⟩:=h.get (g0 aK);rw[hi]at aN;cases aN;exact ag.one (gi.1 aq _ (dK aK))
def aI.S'{u:Value}{v:ak}(h:Dn u=some v):aI D v u:=by
 unfold Dn at h;split at h<;>cases h<;>simp[aI]
def bx.AY:∀ {us:List Value} {l:List ak},vd us=some l->bx D l us
 |[],l,h=>by simp only[vd]at h;cases h;exact .nil
 |u::us,l,h=>by
  simp only[vd]at h;split at h;·rename_i x m U aa;cases h;exact .cons (.S' U) (bx.AY aa)
  ·cases h
def aI.of{u:Value}{v:ak}(h:AI u=some v):aI D v u:=by
 unfold AI at h;split at h
 ·split at h
  ·rename_i l ar;cases h;have:=bx.AY (D:=D) ar;simpa using aI.G7 this
  ·cases h
 ·exact .S' h
def G9{agg:Bool}{l:List ak}{v:ak}(h:AL agg l=some v)(ar:bx D l vs):aI D v (pack agg vs):=by
 unfold AL at h;cases agg with
 |true=>simp only[bh]at h;cases h;exact .G7 ar
 |false=>
  simp only[ba]at h;split at h;·cases h;obtain⟨x,xs,U,aa,rfl⟩:=ar.iW;rw[aa.ly];exact U
  ·cases h
def LQ:∀ {cs:List ak} {off:Nat} {vs r:List ak} {us xs:List Value},ve cs off vs=some r->bx D cs us->bx D vs xs->bx D r (bu us off xs)/\off+xs.length<=us.length
 |cs,0,[],r,us,xs,h,aL,ag=>by simp[ve]at h;subst h;rw[ag.ly];exact⟨by simpa[bu]using aL,by simp⟩
 |[],0,_::_,r,us,xs,h,aL,ag=>by simp[ve]at h
 |[],_+1,_,r,us,xs,h,aL,ag=>by simp[ve]at h
 |c::cs,0,v::vs,r,us,xs,h,aL,ag=>by
  simp only[ve]at h;split at h
  ·rename_i q aO;cases h;obtain⟨x,us,U,aa,rfl⟩:=aL.iW;obtain⟨y,xs,af,aR,rfl⟩:=ag.iW;obtain⟨bC,bO⟩:=LQ aO aa aR;refine⟨?_,by simp at bO |-;omega⟩;have e:bu (x::us) 0 (y::xs)=y::bu us 0 xs:=by simp[bu]
   rw[e];exact .cons af bC
  ·cases h
 |c::cs,n+1,vs,r,us,xs,h,aL,ag=>by
  simp only[ve]at h;split at h
  ·rename_i q aO;cases h;obtain⟨x,us,U,aa,rfl⟩:=aL.iW;obtain⟨bC,bO⟩:=LQ aO aa ag;refine⟨?_,by simp;omega⟩;have e:bu (x::us) (n+1) xs=x::bu us n xs:=by simp only[bu,qI,sY,uK,true_and];rw[show n+1+xs.length=(n+xs.length)+1 by omega,List.drop_succ_cons]
   rw[e];exact .cons U bC
  ·cases h
inductive DC(D:bp):List (Nat×ak)->List (Nat×Value)->Prop
 |nil:DC D [] []| cons {i v u l us} (h:aI D v u) (k:DC D l us):DC D ((i,v)::l) ((i,u)::us)
def G'{place:Nat->Option (Nat×Nat)}:∀ {vs:List (Nat×ak)} {cells r:List ak} {us:List Value} {xs:List (Nat×Value)},wX place cells vs=some r->bx D cells us->DC D vs xs -> ∃ bd,qu place us xs=some bd/\bx D r bd
 |[],cells,r,us,_,h,aL,.nil=>by simp only[wX]at h;cases h;exact⟨us,rfl,aL⟩
 |(i,v)::vs,cells,r,us,_,h,aL,.cons (u:=u) (us:=xs) ag g7=>by
  simp only[wX]at h;split at h;·cases h
  ·rename_i off size aG;cases ai:Nat.beq v.cells.length size with
   |false=>rw[ai]at h;cases h
   |true=>
    rw[ai]at h;simp only[bh]at h;split at h
    ·rename_i cs jd;obtain⟨U,aa⟩:=LQ jd aL ag.cells;obtain⟨bd,af,aR⟩:=G' h U g7;refine⟨bd,?_,aR⟩;have ar:u.cells.size=v.cells.length:=by simpa using ag.cells.len
     simp only[qu,aG,ar,ai];rw[show Nat.ble (off+size) us.length=true by rw[G1,e0];have:=cf ai;simp at aa;omega];exact af
    ·cases h
end
def ff(D:bp)(x:c6)(v:ak):Prop:=(∃ u,x=.val u/\aI D v u)\/∃ q,v=.b q/\x=.lit q
def ff.val{D:bp}{u:Value}{v:ak}(h:aI D v u):ff D (.val u) v:=.inl ⟨u,rfl,h⟩
def ff.mono{D bm:bp}(cT:D.le bm){x:c6}{v:ak}(h:ff D x v):ff bm x v:=by
 rcases h with⟨u,rfl,h⟩ | ⟨q,rfl,rfl⟩
 ·exact .val (h.mono cT)
 ·exact .inr ⟨q,rfl,rfl⟩
def om(D:bp)(F:Fr)(aj:a8 ak):Prop:=∀ t v,aj.get t=some v->ff D (F t) v
def hD(D:bp)(F:Fr)(aj:a8 ak)(xs:List Operand):Prop:=∀ x∈xs,∀ v,cS aj x=some v->ff D (c0 F x) v
def om.op{D:bp}{F:Fr}{aj:a8 ak}(h:om D F aj)(xs:List Operand):hD D F aj xs:=λx _ v ag=>by
 cases x with
 |tmp t=>exact h t v ag
 |const c=>
  have kB:AI c=some v:=ag;cases c with
  |bool q=>
   have:v=.b q:=by simp[AI,Dn]at kB;exact kB.symm
   exact .inr ⟨q,this,rfl⟩
  |_=>exact .val (.of kB)
 |global g=>
  have:v=.g g 0:=by simpa[cS]using ag.symm
  subst this;exact .val (by simp[aI])
 |func f=>
  have:v=.f f [] []:=by simpa[cS]using ag.symm
  subst this;exact .val (by simp only[aI];exact⟨[],[],.nil,.nil,rfl⟩)
section
variable{D:bp}{F:Fr}{aj:a8 ak}{xs:List Operand}
def ff.di{v:ak}(h:ff D (c0 F x) v):∃ u,br F x=.val u/\aI D v u:=by
 unfold br Go.V.di;rcases h with⟨u,h,ag⟩ | ⟨q,rfl,h⟩
 ·rw[h];exact⟨u,rfl,ag⟩
 ·rw[h];exact⟨.bool q,rfl,by simp[aI]⟩
def ff.tJ{x:c6}{v:ak}(h:ff D x v)(ag:∀ q,v≠.b q):∃ u,x=.val u/\aI D v u:=by
 rcases h with h | ⟨q,h,_⟩
 ·exact h
 ·exact(ag q h).elim
def hD.br(h:hD D F aj xs)(ab:x∈xs){v:ak}(ag:cS aj x=some v):∃ u,br F x=.val u/\aI D v u:=(h x ab v ag).di
def hD.kz(h:hD D F aj xs):∀ {l:List Operand} {vs:List ak},(∀ x∈l,x∈xs)->lY aj l=some vs->∃ us,kz F l=some us/\bx D vs us
 |[],vs,_,ag=>by simp only[lY]at ag;cases ag;exact⟨[],rfl,.nil⟩
 |x::l,vs,ar,ag=>by
  simp only[lY]at ag;split at ag;·rename_i v vs U aa;cases ag;obtain⟨u,aw,aT⟩:=h.br (ar x (by simp)) U;obtain⟨us,aB,aU⟩:=hD.kz h (λy aN=>ar y (by simp[aN])) aa;refine⟨u::us,?_,.cons aT aU⟩;show ih (c0 F) (x::l)=_;rw[ih];have dA:di (c0 F) x=.val u:=aw;have dW:ih (c0 F) l=some us:=aB;rw[dA,dW]
  ·cases ag
def hD.parts(h:hD D F aj xs):∀ {l:List (Nat×Operand)} {vs:List (Nat×ak)},(∀ x∈l.map (·.2),x∈xs)->AM aj l=some vs->∃ us,xv F l=some us/\DC D vs us
 |[],vs,_,ag=>by simp only[AM]at ag;cases ag;exact⟨[],rfl,.nil⟩
 |(i,x)::l,vs,ar,ag=>by
  simp only[AM]at ag;split at ag;·rename_i v vs U aa;cases ag;obtain⟨u,aw,aT⟩:=h.br (ar x (by simp)) U;obtain⟨us,aB,aU⟩:=hD.parts h (λy aN=>ar y (by simp only[dV,eg];exact .inr aN)) aa;refine⟨(i,u)::us,?_,.cons aT aU⟩;show qv (c0 F) ((i,x)::l)=_;rw[qv];have dA:di (c0 F) x=.val u:=aw;have dW:qv (c0 F) l=some us:=aB;rw[dA,dW]
  ·cases ag
end
inductive oo(D:bp):List (ak×ak)->List MapEntry->Prop
 |nil:oo D [] []| cons {k v es e l} (ae:aI D k e.key) (ag:aI D v e.val) (t:oo D es l):oo D ((k,v)::es) (e::l)
def gM(n:Nat):Code->Bool
 | .seq x y=>gM n x&&gM n y| .block _ c=>gM n c| .cond _ x y=>gM n x&&gM n y| .loop c=>gM n c| .scope c=>gM n c| .region _ ops _=>vH n ops| .rangeFunc _ ps eC body=>gM n eC&&(gM n body&&ps.toList.all λt=>Nat.blt t n)| _=>true
structure Ta(D:bp)(busy:Bool)(n:Nat)(aj:a8 ak)(ps:List Nat)(eC body:Code)(L:Loop):Prop where
 au:L.state=bif busy then .busy else .ready
 nK:L.pending=none
 sz:L.tmps.size=n
 aj:∀ t v,aj.get t=some v->aI D v (L.tmps.getD t undef)
 ps:L.params.toList=ps
 eC:L.assign=eC
 body:L.body=body
 x4:gM n L.assign=true
 mg:gM n L.body=true
 op:∀ t∈L.params.toList,t<n
inductive jQ(D:bp)(E:Env)(M:List ay)(a:Loc):fe->Prop
 |cells{cs:a8 ak}{T eQ:Nat}(arr:Array Value)(aq:a.o=0)(a4:(⟨a.b,.cells arr T (0,0)⟩:ay)∈M)(ar:a.o+eQ<=arr.size)(aL:∀ i v,i<eQ->cs.get i=some v->∃ x,arr[a.o+i]?=some x/\aI D v x)(ae:∀ i,E T=some i->arr.size=a.o+a.c*i.size)(hm:a.c<=maxLen):jQ D E M a (.cells cs T eQ)| map {es:List (ak×ak)} (l:List MapEntry) (clock:Nat) (a4:(⟨a.b,.map l.toArray clock⟩:ay)∈M) (he:oo D es l):jQ D E M a (.map es)| loop {busy n aj ps eC body} (L:Loop) (a4:(⟨a.b,.loop L⟩:ay)∈M) (c7:Ta D busy n aj ps eC body L):jQ D E M a (.loop busy n aj ps eC body)| done {c n aj ps eC body} (L:Loop) (a4:(⟨a.b,.loop L⟩:ay)∈M) (ap:L.state=.done) (aG:L.pending=some c):jQ D E M a (.done c n aj ps eC body)
def oo.mono{D bm:bp}(cT:D.le bm){es:List (ak×ak)}{l:List MapEntry}(h:oo D es l):oo bm es l:=by
 induction h with
 |nil=>exact .nil| cons ae ag t be=>exact .cons (ae.mono cT) (ag.mono cT) be
def jQ.mono{D bm:bp}{E:Env}{M':List ay}{a:Loc}(cT:D.le bm)(a4:∀ x∈M,x.num=a.b->x∈M'){e:fe}(h:jQ D E M a e):jQ bm E M' a e:=by
 cases h with
 |cells arr ao U aa af aR bC=>exact .cells arr ao (a4 _ U rfl) aa (λi v hi aA=>by obtain⟨x,aT,aU⟩:=af i v hi aA;exact⟨x,aT,aU.mono cT⟩) aR bC| map l clock U aa=>exact .map l clock (a4 _ U rfl) (aa.mono cT)| loop L U aa=>exact .loop L (a4 _ U rfl) { aa with aj:=λt v av=>(aa.aj t v av).mono cT }| done L U aa af=>exact .done L (a4 _ U rfl) aa af
def DD(G:GT)(I:aS):Prop:=∀ g cs,G g=some cs->∃ (arr:Array Value) (T:Nat) (f:Nat×Nat),I g=some (.cells arr T f)/\∀ i v,cs.get i=some v->∃ x,arr[i]?=some x/\∀ D,aI D v x
structure cR(Y:fE)(D:bp)(m:bi)(I:aS)(M:List ay):Prop where
 hg:∀ id e a,m.t.get id=some e->D id=some a->jQ D Y.E M a e
 inj:∀ id g4 e bn a bS,m.t.get id=some e->m.t.get g4=some bn->D id=some a->D g4=some bS->a.b=bS.b->id=g4
 h':∀ id a,D id=some a->id<m.n
 oj:DD Y.G I
section
variable{Y:fE}{D:bp}{m:bi}{I:aS}{M:List ay}{R:Type}
def w4(h:cR Y D m I M){x:ak}{u:Value}(ab:aI D x u){n:Nat}{K:List ak->Option R}{r:R}(al:tE Y.G m.t x n K=some r) :
  ∃ ad l vs,u=.pointer (some ad)/\ca I M ad n vs/\bx D l vs/\K l=some r:=by
 have key:∀ (arr:Array Value) (a3 off:Nat) (l:List ak),l.length=n->a3+off+n<=arr.size->(∀ i,i<n->∀ v,l[i]?=some v->∃ x,arr[a3+off+i]?=some x/\aI D v x) ->
   ((arr.toList.drop (a3+off)).take n).length=n/\bx D l ((arr.toList.drop (a3+off)).take n):=by
  intro arr a3 off l ar cI aA;have bV:((arr.toList.drop (a3+off)).take n).length=n:=by simp;omega
  refine⟨bV,bx.LN (by rw[bV,ar]) λi v hi=>?_⟩;have hx:i<n:=by rw[<-ar];exact(iI.1 hi).1
  obtain⟨x,U,aa⟩:=aA i hx v hi;refine⟨x,?_,aa⟩;rw[kx,cK hx,pI];simpa using U
 unfold tE at al;split at al
 ·rename_i id off;split at al
  ·rename_i cs T eQ aA;cases ai:Nat.ble (Nat.add off n) eQ with
   |false=>rw[ai]at al;cases al
   |true=>
    rw[ai]at al;have hI:off+n<=eQ:=bJ ai;simp only[bh]at al;obtain⟨l,U,aa,af⟩:=a8.AW cs n off K r al;obtain⟨a,aC,hu⟩:=ab.ptr;have he:=h.hg _ _ _ aA aC;obtain⟨arr,-,a4,ar,aL,-,-⟩:=he;obtain⟨dO,bL⟩:=key arr a.o off l U (by omega) λi hi v ag=>by have:=aL (off+i) v (by omega) (by rw[aa i hi,ag]);rw[<-oA]at this;exact this
    exact⟨_,l,_,hu,⟨rfl,arr,T,(0,0),.inr ⟨_,a4,rfl,rfl⟩,rfl,dO⟩,bL,af⟩
  ·cases al
 ·rename_i g off;split at al
  ·rename_i cs aA;obtain⟨l,U,aa,af⟩:=a8.AW cs n off K r al;obtain⟨arr,T,f,bF,aL⟩:=h.oj _ _ aA;have hu:=ab.oj;have gS:∀ i,i<n->∀ v,l[i]?=some v->∃ x,arr[0+off+i]?=some x/\aI D v x:=λi hi v ag=>by obtain⟨x,aT,aU⟩:=aL (off+i) v (by rw[aa i hi,ag]);exact⟨x,by simpa using aT,aU D⟩
   by_cases ax:n=0;·subst ax;have:l=[]:=l' U;subst this;exact⟨_,[],[],hu,⟨rfl,arr,T,f,.inl bF,by simp,rfl⟩,.nil,af⟩
   ·have cI:0+off+n<=arr.size:=by
     have aK:n-1<l.length:=by omega
     obtain⟨x,aT,_⟩:=gS (n-1) (by omega) l[n-1] (g0 aK);have:=(jS.1 aT).1;omega
    obtain⟨dO,bL⟩:=key arr 0 off l U cI gS;simp only[dk]at dO bL;exact⟨_,l,_,hu,⟨rfl,arr,T,f,.inl bF,rfl,dO⟩,bL,af⟩
  ·cases al
 ·cases al
end
end Go.V
