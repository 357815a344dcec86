/- Part 8 of what the proofs of this seat share: the executor, data in memory, walks.
-/
import Derived.Test.YtelfblhcphnbmaaGreatDoorK7
import Derived.Test.YtelfblhcphnbmaaGreatDoorK5
import Derived.Test.YtelfblhcphnbmaaGreatDoorK4
import Derived.Test.YtelfblhcphnbmaaGreatDoorK6
set_option linter.all false
set_option maxHeartbeats 8000000
namespace Go.V
open Go Go.Proofs
def BX:=@List.length_singleton
def qM:=@Nat.ble_eq
def BY:=@List.flatMap_map
def OE:=@List.getElem_set_self
variable{I J I':aN}{M M0 post Mr:List aC}{cur vs:List Value}{L ee bP bs:List Nat}{m a n bt j iM e size z o base:Nat}{t:eV}{α:Type}{fi eG:Option Addr}{c:cK}{nv rv rwv:Value}{kb:List (Nat×List Nat)}{xs:List aP}{os:bn}{C:Nat->Nat->cK}{K:List aC->Prop}{A:Nat->Nat->Prop}
def bW(k:Nat):Value:=.int .i64 (k:Int)
def cP(g:Nat)(cur:List Value):aC:=⟨g,.cells cur.toArray 3 (0,0)⟩
def Fh:List Value:=[123,124,125,126,127,128,129,130,131,132].map λf=>.func (.func f) #[] #[]
def aia:Spec Tryz.prog 95 [] I M λv I' M'=>v=.agg Fh.toArray/\I'=I/\M'=M:=by refine bC [] aS Tryz.func95 rfl rfl rfl ?_;intro B aq;exact⟨_,_,.refl,rfl,rfl,rfl⟩
def aib{g:Nat}(a7:cP g cur∈M){i:Nat}(an:(cur.drop i).take (m-i)=(L.drop i).map bW)(hm:L.length=m)(hi:i<m):bE I M ((⟨g,0,none⟩:Addr).add (i*1)) 1 [bW (L[i]'(by omega))]:=by
 rw[d' _ rfl];have zf:i<L.length:=by omega
 refine⟨rfl,cur.toArray,3,(0,0),.inr ⟨_,a7,rfl,rfl⟩,?_,rfl⟩;have e:((cur.drop i).take (m-i)).take 1=[bW L[i]]:=by rw[an,<-List.map_take,dS zf,oe,p8];rfl
 rw[ye,Ce (by omega)]at e;show(cur.drop (0+i*1)).take 1=_;rw[dK,hD];exact e
def OF(h:cur.take L.length=L.map bW)(ay:L.length<cur.length)(k:Nat):(bw cur (L.length*1) [bW k]).length=cur.length/\(bw cur (L.length*1) [bW k]).take (L++[k]).length=(L++[k]).map bW /\
  ∀ i,L.length+1<=i->(bw cur (L.length*1) [bW k]).drop i=cur.drop i:=by
 rw[hD,ab2 _ _ _ ay];refine⟨yP,?_,λi hi=>?_⟩
 ·rw[ck,BX,g9 (by rw[yP];exact ay),OE,List.take_set_of_le (b6 _),h,gg];rfl
 ·rw[List.drop_set_of_lt (by omega)]
def aic{D:List Nat}(h:cur.take D.length=D.map bW)(ay:D.length+L.length<=cur.length):(bw cur (D.length*1) (L.map bW)).length=cur.length/\(bw cur (D.length*1) (L.map bW)).take (D++L).length=(D++L).map bW:=by
 rw[hD];unfold bw;rw[h,<-gg];refine⟨?_,?_⟩
 ·simp only[ck,ei,wh];omega
 ·have e:(D++L).length=((D++L).map bW).length:=by rw[ei]
  rw[e];exact Gr
def aid{T:Nat->Nat->bY}{k:Nat}(ae:k<t.nn)(aq:t.n0<=k)(aD:a<t.w)(c:bY):bw (t.cs T) ((k-t.n0)*(t.w*4)+a*4) c.cells=t.cs (fE T k a c):=by
 unfold eV.cs;have xq:∀ j,bw (lP T (t.n0+j) t.w) (a*4+0) c.cells=(((List.range t.w).map λb=>(T (t.n0+j) b)).set a c).flatMap bY.cells:=λj=>by
  have:=Hq bY.cells 4 bY.c0 ((List.range t.w).map λb=>(T (t.n0+j) b)) a (by simpa using aD) 0 c.cells (by rw[bY.c0];omega) c (by
   unfold bw;rw[p8,nj,hc (by rw[bY.c0,bY.c0];omega),fo])
  rw[BY]at this;exact this
 have ax:((List.range (t.nn-t.n0)).flatMap λj=>lP T (t.n0+j) t.w)=(((List.range (t.nn-t.n0)).map λj=>(⟨lP T (t.n0+j) t.w,zT T _ t.w⟩:{l:List Value // l.length=t.w*4})).flatMap λr=>r.1):=by rw[BY]
 have hlen:(bw (lP T k t.w) (a*4) c.cells).length=t.w*4:=by unfold bw;simp only[ck,nh,wh,zT,bY.c0];omega
 rw[ax];have aie:=Hq (λr:{l:List Value // l.length=t.w*4}=>r.1) (t.w*4) (λr=>r.2) ((List.range (t.nn-t.n0)).map λj=>⟨lP T (t.n0+j) t.w,zT T _ t.w⟩) (k-t.n0) (by simp;omega) (a*4) c.cells (by rw[bY.c0];omega) ⟨bw (lP T k t.w) (a*4) c.cells,hlen⟩ (by
  simp only[jJ,mb];rw[AQ aq])
 rw[aie];rw[show((List.range (t.nn-t.n0)).flatMap λj=>lP (fE T k a c) (t.n0+j) t.w)=(((List.range (t.nn-t.n0)).map λj=>(⟨lP (fE T k a c) (t.n0+j) t.w,zT _ _ t.w⟩:{l:List Value // l.length=t.w*4})).flatMap λr=>r.1) by rw[BY]];congr 1;refine wi (by simp) λj U aa=>?_;simp only[ei,qJ]at aa;rw[jJ,mb];by_cases e:k-t.n0=j
 ·subst e;rw[OE];refine Subtype.ext ?_;simp only;rw[AQ aq];have ag:=xq (k-t.n0);rw[AQ aq,o0]at ag;rw[ag];have aK:lP (fE T k a c) k t.w=((List.range t.w).map λb=>fE T k a c k b).flatMap bY.cells:=by rw[BY];rfl
  rw[aK];congr 1;refine wi (by simp) λb aR aV=>?_;simp only[ei,qJ]at aV;rw[jJ,mb];by_cases vv:a=b;·subst vv;rw[OE,BU]
  ·rw[List.getElem_set_ne vv,jJ,mb,vK λx=>vv x.2.symm]
 ·rw[List.getElem_set_ne e,jJ,mb];refine Subtype.ext ?_;simp only;unfold lP;congr 1;funext b;rw[vK λx=>e (by omega)]
def eV.ok.rG{T lk:Nat->Nat->bY}(h:t.ok I T)(he:∀ k,k<t.n0->∀ a,lk k a=T k a):t.ok I lk:=by refine { h with cY:=λk ae aq=>?_ };obtain⟨cs,fU,aj,U,aa⟩:=h.cY k ae aq;refine⟨cs,fU,aj,U,aa.trans ?_⟩;unfold lP;congr 1;funext a;rw[he k aq a]
def ld(g c:Nat)(h:n=m):x4 (.val (.slice (some ⟨g,0,none⟩) n c)) (.val (.slice (some ⟨g,0,none⟩) m c)):=by rw[h];exact .refl
structure I4(I:aN)(t:eV)(fU:Nat->Nat->bY)(ee:List Nat)(a:Nat):Prop where
 ok:t.ok I fU
 inv:hY t.P t.nn fU
 bS:∀ k,k<t.nn->ur t.P t.nn k
 na:∀ k,zR t.P k
 n0:t.n0<t.nn
 lo:∀ k∈ee,t.n0<=k/\k<t.nn
 a:a<=t.s.size
structure I5 where
 T:Nat->Nat->bY
 L:List Nat
 D:List Nat
 b9:List Value
 cb:List Value
structure aif(t:eV)(fU:Nat->Nat->bY)(ee D0:List Nat)(a nA nD:Nat)(x:I5):Prop where
 inv:hY t.P t.nn x.T
 rG:∀ k b,¬ (k∈ee/\b=a)->x.T k b=fU k b
 perm:(x.D++x.L).Perm (D0++ee)
 kn:∀ k∈ee,k∈x.L\/(x.T k a).aB≠0
 sub:∀ k∈x.L,k∈ee
 BZ:x.b9.length=nA
 sK:x.b9.take x.L.length=x.L.map bW
 Fi:x.cb.length=nD
 xH:x.cb.take x.D.length=x.D.map bW
structure OG(t:eV)(fU:Nat->Nat->bY)(ee D0:List Nat)(a nA nD:Nat)(hK:List Nat)(d1 i:Nat)(x:I5):Prop where
 ii:i<=hK.length
 aih:x.L.length<=i
 inv:hY t.P t.nn x.T
 rG:∀ k b,¬ (k∈ee/\b=a)->x.T k b=fU k b
 perm:(x.D++(x.L++hK.drop i)).Perm (D0++ee)
 kn:∀ k∈ee,k∈x.L\/k∈hK.drop i\/(x.T k a).aB≠0
 sub:∀ k∈x.L,k∈ee
 un:x.D.length=d1->∀ k∈x.L,(dp t.P x.T k a).aB=0
 iL:x.D.length+x.L.length=d1+i
 ge:d1<=x.D.length
 BZ:x.b9.length=nA
 sK:x.b9.take x.L.length=x.L.map bW
 WM:(x.b9.drop i).take (hK.length-i)=(hK.drop i).map bW
 Fi:x.cb.length=nD
 xH:x.cb.take x.D.length=x.D.map bW
def I4.pre{fU:Nat->Nat->bY}(h:I4 I t fU ee a){T:Nat->Nat->bY}(hi:hY t.P t.nn T)(aA:∀ k b,¬ (k∈ee/\b=a)->T k b=fU k b)(a7:t.aY T∈M){k:Nat}(ae:k∈ee):oU I t T M k a:=
 ⟨h.ok.rG λq aE b=>aA q b λe=>by have:=(h.lo q e.1).1;omega,hi,h.bS,h.na,λ_=>a7,(h.lo k ae).2,h.a⟩
def aii(A B C:List α)(k:α):(A++(B++k::C)).Perm (A++[k]++(B++C)):=by rw[fN];exact List.Perm.append_left _ qy
set_option maxRecDepth 100000 in
def aij{fU:Nat->Nat->bY}{D0:List Nat}(h:I4 I t fU ee a){gA gD nA nD:Nat}{cA0 cD0:List Value}(ea:cA0.length=nA)(cH:cD0.length=nD)(sK:cA0.take ee.length=ee.map bW)(xH:cD0.take D0.length=D0.map bW)(amc:ee.length<=nA)(amd:D0.length+ee.length<=nD)(ame:nA<=1048576)(amf:nD<=1048576) :
  Spec Tryz.prog 96 [ptr t.bt,.agg Fh.toArray,.slice (some ⟨gA,0,none⟩) ee.length nA,.slice (some ⟨gD,0,none⟩) D0.length nD,.int .i64 a] I [t.aY fU,cP gA cA0,cP gD cD0] λv I' M'=>I'=I /\
   ∃ (T:Nat->Nat->bY) (B0:List Nat) (b9 cb:List Value),hY t.P t.nn T/\(∀ k b,¬ (k∈ee/\b=a)->T k b=fU k b)/\(∀ k∈ee,(T k a).aB=0->(dp t.P T k a).aB=0)/\B0.Perm (D0++ee)/\b9.length=nA/\cb.length=nD/\cb.take B0.length=B0.map bW /\
    v=.slice (some ⟨gD,0,none⟩) B0.length nD/\M'=[t.aY T,cP gA b9,cP gD cb]:=by
 refine bC [] aS Tryz.func96 rfl rfl rfl ?_;intro B aq;refine cD.inv (ι:=I5) (λx=>{ bA:=[(0,.val (ptr t.bt)),(2,.val (.slice (some ⟨gA,0,none⟩) x.L.length nA)),(3,.val (.slice (some ⟨gD,0,none⟩) x.D.length nD)),(4,.val (.int .i64 a)),(6,.ref 6 0)],cl:=[(6,Fh)],cj:=I,dx:=[t.aY x.T,cP gA x.b9,cP gD x.cb] }) (λx=>aif t fU ee D0 a nA nD x) (λx=>x.L.length) ?_ ?_
 ·exact⟨⟨fU,ee,D0,cA0,cD0⟩,⟨h.inv,λ_ _ _=>rfl,.refl _,λk ae=>.inl ae,λk ae=>ae,ea,sK,cH,xH⟩,.refl,kQ,.cons rfl (.nil)⟩
 rintro⟨KV,hK,sF,aik,ail⟩cn;have aim:=cn.perm.length_eq;simp only[ck]at aim;have amg:hK.length<=nA:=by have U:=congrArg List.length cn.sK;have aa:=cn.BZ;simp only[nh,ei]at U aa;omega
 refine i'.mk 0 0 rfl rfl (b6 _) (bj _) ?_;refine cD.inv (ι:=Nat×I5) (λx=>{ bA:=[(0,.val (ptr t.bt)),(3,.val (.slice (some ⟨gD,0,none⟩) x.2.D.length nD)),(4,.val (.int .i64 a)),(6,.ref 6 0),(11,.val (.int .i64 sF.length)),(12,.val (.slice (some ⟨gA,0,none⟩) x.2.L.length nA)),(20,.val (.slice (some ⟨gA,0,none⟩) hK.length nA)),(21,.val (.int .i64 hK.length)),(22,.val (.int .i64 x.1))],cl:=[(6,Fh)],cj:=I,dx:=[t.aY x.2.T,cP gA x.2.b9,cP gD x.2.cb] }) (λx=>OG t fU ee D0 a nA nD hK sF.length x.1 x.2) (λx=>hK.length-x.1) ?_ ?_
 ·refine⟨(0,⟨KV,[],sF,aik,ail⟩),⟨bj _,b6 _,cn.inv,cn.rG,cn.perm,λk ae=>.inr (cn.kn k ae),λk ae=>(by cases ae),λ_ k ae=>(by cases ae),by simp,b6 _,cn.BZ,by simp,by simpa using cn.sK,cn.Fi,cn.xH⟩,.refl,CA,.cons rfl (.nil)⟩
 rintro⟨i,⟨T,L,D,b9,cb⟩⟩bO;have ain:=bO.ii;have aio:=bO.aih;have aip:=bO.iL;have WN:=bO.ge;simp only at ain aio aip WN;have Fj:b9.length=nA:=bO.BZ;have Fk:cb.length=nD:=bO.Fi;refine aI.mk (λe=>?_) (λe=>?_)
 ·have aL:i<hK.length:=by simpa using e
  obtain⟨k,ae⟩:∃ k,hK[i]=k:=⟨_,rfl⟩;have nR:hK.drop i=k::hK.drop (i+1):=by rw[dS aL,ae]
  have AE:k∈ee:=cn.sub k (by rw[<-ae];exact cO aL);have WO:=fun {M:List aC} (a7:cP gA b9∈M)=>aib (I:=I) a7 bO.WM rfl aL;rw[ae]at WO;have sL:=fun {M:List aC} (a7:t.aY T∈M)=>h.pre bO.inv bO.rG a7 AE;obtain⟨fQ,dP⟩:=h.lo k AE;have oV:t.ok I T:=(sL (M:=[t.aY T]) (.head _)).ok;obtain⟨y,aG,jz,hj,j',hq,ad,bR,bh⟩:=oV.at_ dP;obtain⟨eG,lb,r,an,iw,hb,mg⟩:=oV.row dP;have gY:=hb fQ;subst gY;have ke:a<t.w:=by have:=h.a;show a<t.s.size+1;omega
  have OH:∀ cur:List Value,cur.drop (i+1)=b9.drop (i+1)->(cur.drop (i+1)).take (hK.length-(i+1))=(hK.drop (i+1)).map bW:=λcur aA=>by have U:=congrArg (List.drop 1) bO.WM;rw[<-List.map_drop,yd,yc,yd]at U;rw[aA,show hK.length-(i+1)=hK.length-i-1 by omega];exact U
  have stay:(dp t.P T k a).aB=0->OG t fU ee D0 a nA nD hK sF.length (i+1) ⟨T,L++[k],D,bw b9 (L.length*1) [bW k],cb⟩:=λbd=>by
   obtain⟨qk,ql,rp⟩:=OF (L:=L) (cur:=b9) bO.sK (by show L.length<b9.length;omega) k;have aO:=bO.perm;simp only[nR]at aO;refine⟨by omega,by simp only[ck,BX];omega,bO.inv,bO.rG,?_,λq aE=>?_,λq aE=>?_,λai q aE=>?_,by simp only[ck,BX];omega,WN,qk.trans Fj,ql,OH _ (rp _ (by omega)),Fk,bO.xH⟩;·simp only;rw[fN L [k]];exact aO
   ·rcases bO.kn q aE with U | U | U
    ·exact .inl (Ca _ U)
    ·simp only at U;rw[nR]at U;rcases dE.1 U with rfl | U
     ·exact .inl (FF _ (.head _))
     ·exact .inr (.inl U)
    ·exact .inr (.inr U)
   ·rcases en.1 aE with U | U
    ·exact bO.sub q U
    ·rw[kh.1 U];exact AE
   ·rcases en.1 aE with U | U
    ·exact bO.un ai q U
    ·rw[kh.1 U];exact bd
  have done:(dp t.P T k a).aB≠0->OG t fU ee D0 a nA nD hK sF.length (i+1) ⟨fE T k a (dp t.P T k a),L,D++[k],b9,bw cb (D.length*1) [bW k]⟩:=λbd=>by
   obtain⟨qk,ql,rp⟩:=OF (L:=D) (cur:=cb) bO.xH (by show D.length<cb.length;omega) k;have aO:=bO.perm;simp only[nR]at aO;refine⟨by omega,by simp only;omega,bO.inv.set dP h.a (h.bS k dP) rfl bd,λq b aE=>?_,?_,λq aE=>?_,bO.sub,λai q aE=>?_,by simp only[ck,BX];omega,by simp only[ck,BX];omega,Fj,bO.sK,OH _ rfl,qk.trans Fk,ql⟩;·simp only;rw[vK λx=>aE ⟨by rw[x.1];exact AE,x.2⟩];exact bO.rG q b aE
   ·simp only;exact(aii D L (hK.drop (i+1)) k).symm.trans aO
   ·simp only;by_cases eq:q=k
    ·subst eq;rw[BU];exact .inr (.inr bd)
    ·rw[vK λx=>eq x.1];rcases bO.kn q aE with U | U | U
     ·exact .inl U
     ·simp only at U;rw[nR]at U;rcases dE.1 U with U | U
      ·exact absurd U eq
      ·exact .inr (.inl U)
     ·exact .inr (.inr U)
   ·simp only[ck,BX]at ai;omega
  have sM:=aid (t:=t) (T:=T) dP fQ ke (dp t.P T k a);have WQ:=t.ahM T;have fe:(k-t.n0)*(t.w*4)+a*4+4<=(t.cs T).length:=by rw[WQ];have U:(k-t.n0+1)*(t.w*4)<=(t.nn-t.n0)*(t.w*4):=qP _ (by omega);rw[jg,nm]at U;omega
  obtain⟨c,aA⟩:∃ c,dp t.P T k a=c:=⟨_,rfl⟩;rw[aA]at stay done sM;refine a6.mk ⟨gA,0,none⟩ i rfl rfl aL ?_;refine aJ.mk _ (WO (.tail _ (.head _))) ?_;refine aJ.mk _ (oV.e5 (j:=3) (by decide)) ?_;refine a6.mk ad k bR rfl dP ?_;refine aJ.mk _ ((bh _).part (k:=0) (m:=1) (by decide)) ?_;have I6:=(h.na k).lt;have WR:=(h.na k).gy;have rH:(t.P.at_ k).d.k=y.k:=by rw[jz];rfl
  rw[rH]at I6 WR;clear jz nR WQ OH bO cn hj j' hq aG;obtain⟨lD,eh,s1,s2,fJ,lZ,amh,ami,amj,amk,aml,amm⟩:=y;simp only at rH I6 WR;have Ls:lD=0\/lD=1\/lD=2\/lD=3\/lD=4\/lD=5\/lD=6\/lD=7\/lD=8\/lD=9:=by omega
  rcases Ls with rfl | rfl | rfl | rfl | rfl | rfl | rfl | rfl | rfl | rfl
  ·refine dT.mk 0 rfl (by decide) ?_;have bQ:=ahW (sL (M:=[t.aY T,cP gA b9,cP gD cb]) (.head _)) rH;unfold kH at bQ;rw[aA]at bQ;refine aT.whole _ bQ ?_;rintro v I' M' -⟨rfl,rfl,rfl⟩;refine aI.mk (λaz=>?_) (λaz=>?_)
   ·have dZ:c.aB=0:=by have:=cr az;omega
    refine cz.mk λbZ gb ig=>?_;refine be.jU aS rfl (by simp) (e:=3) rfl rfl rfl (g:=gA) (n:=L.length) (c:=nA) (cur:=b9) rfl (show b9.length=nA*1 by omega) (ad:=⟨bZ,0,none⟩) (m:=1) (c':=1) rfl (news:=[bW k]) ⟨rfl,_,_,_,.inr ⟨_,.head _,rfl,rfl⟩,rfl,rfl⟩ rfl (by omega) [_,t.aY T] [cP gD cb] rfl ?_;refine aQ.mk _ (bU (i:=i) (by omega)) ?_;have hlen:L.length+1=(L++[k]).length:=by simp
    exact⟨(i+1,⟨T,L++[k],D,bw b9 (L.length*1) [bW k],cb⟩),⟨stay dZ,by simp only;omega⟩,.sub (.cons _ (.refl _)) .refl,.cons .refl (.cons .refl (.cons .refl (.cons .refl (.cons .refl (.cons (ld gA nA hlen) (da)))))),.cons rfl (.nil)⟩
   ·have dZ:c.aB≠0:=by have:=b' az;omega
    refine cL.draw aS rfl rfl rfl ?_;refine aJ.mk _ (oV.e5 (j:=4) (by decide)) ?_;refine a6.mk eG k lb rfl dP ?_;refine aJ.mk _ (iw _) ?_;refine a6.mk ⟨t.ev,(k-t.n0)*(t.w*4),none⟩ a rfl rfl ke ?_;refine cX.qe [] [cP gA b9,cP gD cb] (t.cs T) _ rfl (by rw[qM];exact fe) rfl (t.cs (fE T k a c)) sM ?_;refine cz.mk λbZ gb ig=>?_;refine be.jU aS rfl (by simp) (e:=3) rfl rfl rfl (g:=gD) (n:=D.length) (c:=nD) (cur:=cb) rfl (show cb.length=nD*1 by omega) (ad:=⟨bZ,0,none⟩) (m:=1) (c':=1) rfl (news:=[bW k]) ⟨rfl,_,_,_,.inr ⟨_,.head _,rfl,rfl⟩,rfl,rfl⟩ rfl (by omega) [_,t.aY (fE T k a c),cP gA b9] [] rfl ?_;refine aQ.mk _ (bU (i:=i) (by omega)) ?_;have hlen:D.length+1=(D++[k]).length:=by simp
    exact⟨(i+1,⟨fE T k a c,L,D++[k],b9,bw cb (D.length*1) [bW k]⟩),⟨done dZ,by simp only;omega⟩,.sub (.cons _ (.refl _)) .refl,.cons .refl (.cons (ld gD nD hlen) (lT)),.cons rfl (.nil)⟩
  ·refine dT.mk 1 rfl (by decide) ?_;have bQ:=ah1 (sL (M:=[t.aY T,cP gA b9,cP gD cb]) (.head _)) rH;unfold kH at bQ;rw[aA]at bQ;refine aT.whole _ bQ ?_;rintro v I' M' -⟨rfl,rfl,rfl⟩;refine aI.mk (λaz=>?_) (λaz=>?_)
   ·have dZ:c.aB=0:=by have:=cr az;omega
    refine cz.mk λbZ gb ig=>?_;refine be.jU aS rfl (by simp) (e:=3) rfl rfl rfl (g:=gA) (n:=L.length) (c:=nA) (cur:=b9) rfl (show b9.length=nA*1 by omega) (ad:=⟨bZ,0,none⟩) (m:=1) (c':=1) rfl (news:=[bW k]) ⟨rfl,_,_,_,.inr ⟨_,.head _,rfl,rfl⟩,rfl,rfl⟩ rfl (by omega) [_,t.aY T] [cP gD cb] rfl ?_;refine aQ.mk _ (bU (i:=i) (by omega)) ?_;have hlen:L.length+1=(L++[k]).length:=by simp
    exact⟨(i+1,⟨T,L++[k],D,bw b9 (L.length*1) [bW k],cb⟩),⟨stay dZ,by simp only;omega⟩,.sub (.cons _ (.refl _)) .refl,.cons .refl (.cons .refl (.cons .refl (.cons .refl (.cons .refl (.cons (ld gA nA hlen) (da)))))),.cons rfl (.nil)⟩
   ·have dZ:c.aB≠0:=by have:=b' az;omega
    refine cL.draw aS rfl rfl rfl ?_;refine aJ.mk _ (oV.e5 (j:=4) (by decide)) ?_;refine a6.mk eG k lb rfl dP ?_;refine aJ.mk _ (iw _) ?_;refine a6.mk ⟨t.ev,(k-t.n0)*(t.w*4),none⟩ a rfl rfl ke ?_;refine cX.qe [] [cP gA b9,cP gD cb] (t.cs T) _ rfl (by rw[qM];exact fe) rfl (t.cs (fE T k a c)) sM ?_;refine cz.mk λbZ gb ig=>?_;refine be.jU aS rfl (by simp) (e:=3) rfl rfl rfl (g:=gD) (n:=D.length) (c:=nD) (cur:=cb) rfl (show cb.length=nD*1 by omega) (ad:=⟨bZ,0,none⟩) (m:=1) (c':=1) rfl (news:=[bW k]) ⟨rfl,_,_,_,.inr ⟨_,.head _,rfl,rfl⟩,rfl,rfl⟩ rfl (by omega) [_,t.aY (fE T k a c),cP gA b9] [] rfl ?_;refine aQ.mk _ (bU (i:=i) (by omega)) ?_;have hlen:D.length+1=(D++[k]).length:=by simp
    exact⟨(i+1,⟨fE T k a c,L,D++[k],b9,bw cb (D.length*1) [bW k]⟩),⟨done dZ,by simp only;omega⟩,.sub (.cons _ (.refl _)) .refl,.cons .refl (.cons (ld gD nD hlen) (lT)),.cons rfl (.nil)⟩
  ·refine dT.mk 2 rfl (by decide) ?_;have bQ:=ah2 (sL (M:=[t.aY T,cP gA b9,cP gD cb]) (.head _)) rH;unfold kH at bQ;rw[aA]at bQ;refine aT.whole _ bQ ?_;rintro v I' M' -⟨rfl,rfl,rfl⟩;refine aI.mk (λaz=>?_) (λaz=>?_)
   ·have dZ:c.aB=0:=by have:=cr az;omega
    refine cz.mk λbZ gb ig=>?_;refine be.jU aS rfl (by simp) (e:=3) rfl rfl rfl (g:=gA) (n:=L.length) (c:=nA) (cur:=b9) rfl (show b9.length=nA*1 by omega) (ad:=⟨bZ,0,none⟩) (m:=1) (c':=1) rfl (news:=[bW k]) ⟨rfl,_,_,_,.inr ⟨_,.head _,rfl,rfl⟩,rfl,rfl⟩ rfl (by omega) [_,t.aY T] [cP gD cb] rfl ?_;refine aQ.mk _ (bU (i:=i) (by omega)) ?_;have hlen:L.length+1=(L++[k]).length:=by simp
    exact⟨(i+1,⟨T,L++[k],D,bw b9 (L.length*1) [bW k],cb⟩),⟨stay dZ,by simp only;omega⟩,.sub (.cons _ (.refl _)) .refl,.cons .refl (.cons .refl (.cons .refl (.cons .refl (.cons .refl (.cons (ld gA nA hlen) (da)))))),.cons rfl (.nil)⟩
   ·have dZ:c.aB≠0:=by have:=b' az;omega
    refine cL.draw aS rfl rfl rfl ?_;refine aJ.mk _ (oV.e5 (j:=4) (by decide)) ?_;refine a6.mk eG k lb rfl dP ?_;refine aJ.mk _ (iw _) ?_;refine a6.mk ⟨t.ev,(k-t.n0)*(t.w*4),none⟩ a rfl rfl ke ?_;refine cX.qe [] [cP gA b9,cP gD cb] (t.cs T) _ rfl (by rw[qM];exact fe) rfl (t.cs (fE T k a c)) sM ?_;refine cz.mk λbZ gb ig=>?_;refine be.jU aS rfl (by simp) (e:=3) rfl rfl rfl (g:=gD) (n:=D.length) (c:=nD) (cur:=cb) rfl (show cb.length=nD*1 by omega) (ad:=⟨bZ,0,none⟩) (m:=1) (c':=1) rfl (news:=[bW k]) ⟨rfl,_,_,_,.inr ⟨_,.head _,rfl,rfl⟩,rfl,rfl⟩ rfl (by omega) [_,t.aY (fE T k a c),cP gA b9] [] rfl ?_;refine aQ.mk _ (bU (i:=i) (by omega)) ?_;have hlen:D.length+1=(D++[k]).length:=by simp
    exact⟨(i+1,⟨fE T k a c,L,D++[k],b9,bw cb (D.length*1) [bW k]⟩),⟨done dZ,by simp only;omega⟩,.sub (.cons _ (.refl _)) .refl,.cons .refl (.cons (ld gD nD hlen) (lT)),.cons rfl (.nil)⟩
  ·refine dT.mk 3 rfl (by decide) ?_;have bQ:=ahX (sL (M:=[t.aY T,cP gA b9,cP gD cb]) (.head _)) rH;unfold kH at bQ;rw[aA]at bQ;refine aT.whole _ bQ ?_;rintro v I' M' -⟨rfl,rfl,rfl⟩;refine aI.mk (λaz=>?_) (λaz=>?_)
   ·have dZ:c.aB=0:=by have:=cr az;omega
    refine cz.mk λbZ gb ig=>?_;refine be.jU aS rfl (by simp) (e:=3) rfl rfl rfl (g:=gA) (n:=L.length) (c:=nA) (cur:=b9) rfl (show b9.length=nA*1 by omega) (ad:=⟨bZ,0,none⟩) (m:=1) (c':=1) rfl (news:=[bW k]) ⟨rfl,_,_,_,.inr ⟨_,.head _,rfl,rfl⟩,rfl,rfl⟩ rfl (by omega) [_,t.aY T] [cP gD cb] rfl ?_;refine aQ.mk _ (bU (i:=i) (by omega)) ?_;have hlen:L.length+1=(L++[k]).length:=by simp
    exact⟨(i+1,⟨T,L++[k],D,bw b9 (L.length*1) [bW k],cb⟩),⟨stay dZ,by simp only;omega⟩,.sub (.cons _ (.refl _)) .refl,.cons .refl (.cons .refl (.cons .refl (.cons .refl (.cons .refl (.cons (ld gA nA hlen) (da)))))),.cons rfl (.nil)⟩
   ·have dZ:c.aB≠0:=by have:=b' az;omega
    refine cL.draw aS rfl rfl rfl ?_;refine aJ.mk _ (oV.e5 (j:=4) (by decide)) ?_;refine a6.mk eG k lb rfl dP ?_;refine aJ.mk _ (iw _) ?_;refine a6.mk ⟨t.ev,(k-t.n0)*(t.w*4),none⟩ a rfl rfl ke ?_;refine cX.qe [] [cP gA b9,cP gD cb] (t.cs T) _ rfl (by rw[qM];exact fe) rfl (t.cs (fE T k a c)) sM ?_;refine cz.mk λbZ gb ig=>?_;refine be.jU aS rfl (by simp) (e:=3) rfl rfl rfl (g:=gD) (n:=D.length) (c:=nD) (cur:=cb) rfl (show cb.length=nD*1 by omega) (ad:=⟨bZ,0,none⟩) (m:=1) (c':=1) rfl (news:=[bW k]) ⟨rfl,_,_,_,.inr ⟨_,.head _,rfl,rfl⟩,rfl,rfl⟩ rfl (by omega) [_,t.aY (fE T k a c),cP gA b9] [] rfl ?_;refine aQ.mk _ (bU (i:=i) (by omega)) ?_;have hlen:D.length+1=(D++[k]).length:=by simp
    exact⟨(i+1,⟨fE T k a c,L,D++[k],b9,bw cb (D.length*1) [bW k]⟩),⟨done dZ,by simp only;omega⟩,.sub (.cons _ (.refl _)) .refl,.cons .refl (.cons (ld gD nD hlen) (lT)),.cons rfl (.nil)⟩
  ·refine dT.mk 4 rfl (by decide) ?_;have bQ:=ah3 (sL (M:=[t.aY T,cP gA b9,cP gD cb]) (.head _)) rH;unfold kH at bQ;rw[aA]at bQ;refine aT.whole _ bQ ?_;rintro v I' M' -⟨rfl,rfl,rfl⟩;refine aI.mk (λaz=>?_) (λaz=>?_)
   ·have dZ:c.aB=0:=by have:=cr az;omega
    refine cz.mk λbZ gb ig=>?_;refine be.jU aS rfl (by simp) (e:=3) rfl rfl rfl (g:=gA) (n:=L.length) (c:=nA) (cur:=b9) rfl (show b9.length=nA*1 by omega) (ad:=⟨bZ,0,none⟩) (m:=1) (c':=1) rfl (news:=[bW k]) ⟨rfl,_,_,_,.inr ⟨_,.head _,rfl,rfl⟩,rfl,rfl⟩ rfl (by omega) [_,t.aY T] [cP gD cb] rfl ?_;refine aQ.mk _ (bU (i:=i) (by omega)) ?_;have hlen:L.length+1=(L++[k]).length:=by simp
    exact⟨(i+1,⟨T,L++[k],D,bw b9 (L.length*1) [bW k],cb⟩),⟨stay dZ,by simp only;omega⟩,.sub (.cons _ (.refl _)) .refl,.cons .refl (.cons .refl (.cons .refl (.cons .refl (.cons .refl (.cons (ld gA nA hlen) (da)))))),.cons rfl (.nil)⟩
   ·have dZ:c.aB≠0:=by have:=b' az;omega
    refine cL.draw aS rfl rfl rfl ?_;refine aJ.mk _ (oV.e5 (j:=4) (by decide)) ?_;refine a6.mk eG k lb rfl dP ?_;refine aJ.mk _ (iw _) ?_;refine a6.mk ⟨t.ev,(k-t.n0)*(t.w*4),none⟩ a rfl rfl ke ?_;refine cX.qe [] [cP gA b9,cP gD cb] (t.cs T) _ rfl (by rw[qM];exact fe) rfl (t.cs (fE T k a c)) sM ?_;refine cz.mk λbZ gb ig=>?_;refine be.jU aS rfl (by simp) (e:=3) rfl rfl rfl (g:=gD) (n:=D.length) (c:=nD) (cur:=cb) rfl (show cb.length=nD*1 by omega) (ad:=⟨bZ,0,none⟩) (m:=1) (c':=1) rfl (news:=[bW k]) ⟨rfl,_,_,_,.inr ⟨_,.head _,rfl,rfl⟩,rfl,rfl⟩ rfl (by omega) [_,t.aY (fE T k a c),cP gA b9] [] rfl ?_;refine aQ.mk _ (bU (i:=i) (by omega)) ?_;have hlen:D.length+1=(D++[k]).length:=by simp
    exact⟨(i+1,⟨fE T k a c,L,D++[k],b9,bw cb (D.length*1) [bW k]⟩),⟨done dZ,by simp only;omega⟩,.sub (.cons _ (.refl _)) .refl,.cons .refl (.cons (ld gD nD hlen) (lT)),.cons rfl (.nil)⟩
  ·refine dT.mk 5 rfl (by decide) ?_;have bQ:=ah6 (sL (M:=[t.aY T,cP gA b9,cP gD cb]) (.head _)) rH;unfold kH at bQ;rw[aA]at bQ;refine aT.whole _ bQ ?_;rintro v I' M' -⟨rfl,rfl,rfl⟩;refine aI.mk (λaz=>?_) (λaz=>?_)
   ·have dZ:c.aB=0:=by have:=cr az;omega
    refine cz.mk λbZ gb ig=>?_;refine be.jU aS rfl (by simp) (e:=3) rfl rfl rfl (g:=gA) (n:=L.length) (c:=nA) (cur:=b9) rfl (show b9.length=nA*1 by omega) (ad:=⟨bZ,0,none⟩) (m:=1) (c':=1) rfl (news:=[bW k]) ⟨rfl,_,_,_,.inr ⟨_,.head _,rfl,rfl⟩,rfl,rfl⟩ rfl (by omega) [_,t.aY T] [cP gD cb] rfl ?_;refine aQ.mk _ (bU (i:=i) (by omega)) ?_;have hlen:L.length+1=(L++[k]).length:=by simp
    exact⟨(i+1,⟨T,L++[k],D,bw b9 (L.length*1) [bW k],cb⟩),⟨stay dZ,by simp only;omega⟩,.sub (.cons _ (.refl _)) .refl,.cons .refl (.cons .refl (.cons .refl (.cons .refl (.cons .refl (.cons (ld gA nA hlen) (da)))))),.cons rfl (.nil)⟩
   ·have dZ:c.aB≠0:=by have:=b' az;omega
    refine cL.draw aS rfl rfl rfl ?_;refine aJ.mk _ (oV.e5 (j:=4) (by decide)) ?_;refine a6.mk eG k lb rfl dP ?_;refine aJ.mk _ (iw _) ?_;refine a6.mk ⟨t.ev,(k-t.n0)*(t.w*4),none⟩ a rfl rfl ke ?_;refine cX.qe [] [cP gA b9,cP gD cb] (t.cs T) _ rfl (by rw[qM];exact fe) rfl (t.cs (fE T k a c)) sM ?_;refine cz.mk λbZ gb ig=>?_;refine be.jU aS rfl (by simp) (e:=3) rfl rfl rfl (g:=gD) (n:=D.length) (c:=nD) (cur:=cb) rfl (show cb.length=nD*1 by omega) (ad:=⟨bZ,0,none⟩) (m:=1) (c':=1) rfl (news:=[bW k]) ⟨rfl,_,_,_,.inr ⟨_,.head _,rfl,rfl⟩,rfl,rfl⟩ rfl (by omega) [_,t.aY (fE T k a c),cP gA b9] [] rfl ?_;refine aQ.mk _ (bU (i:=i) (by omega)) ?_;have hlen:D.length+1=(D++[k]).length:=by simp
    exact⟨(i+1,⟨fE T k a c,L,D++[k],b9,bw cb (D.length*1) [bW k]⟩),⟨done dZ,by simp only;omega⟩,.sub (.cons _ (.refl _)) .refl,.cons .refl (.cons (ld gD nD hlen) (lT)),.cons rfl (.nil)⟩
  ·refine dT.mk 6 rfl (by decide) ?_;have bQ:=ah9 (sL (M:=[t.aY T,cP gA b9,cP gD cb]) (.head _)) rH;unfold kH at bQ;rw[aA]at bQ;refine aT.whole _ bQ ?_;rintro v I' M' -⟨rfl,rfl,rfl⟩;refine aI.mk (λaz=>?_) (λaz=>?_)
   ·have dZ:c.aB=0:=by have:=cr az;omega
    refine cz.mk λbZ gb ig=>?_;refine be.jU aS rfl (by simp) (e:=3) rfl rfl rfl (g:=gA) (n:=L.length) (c:=nA) (cur:=b9) rfl (show b9.length=nA*1 by omega) (ad:=⟨bZ,0,none⟩) (m:=1) (c':=1) rfl (news:=[bW k]) ⟨rfl,_,_,_,.inr ⟨_,.head _,rfl,rfl⟩,rfl,rfl⟩ rfl (by omega) [_,t.aY T] [cP gD cb] rfl ?_;refine aQ.mk _ (bU (i:=i) (by omega)) ?_;have hlen:L.length+1=(L++[k]).length:=by simp
    exact⟨(i+1,⟨T,L++[k],D,bw b9 (L.length*1) [bW k],cb⟩),⟨stay dZ,by simp only;omega⟩,.sub (.cons _ (.refl _)) .refl,.cons .refl (.cons .refl (.cons .refl (.cons .refl (.cons .refl (.cons (ld gA nA hlen) (da)))))),.cons rfl (.nil)⟩
   ·have dZ:c.aB≠0:=by have:=b' az;omega
    refine cL.draw aS rfl rfl rfl ?_;refine aJ.mk _ (oV.e5 (j:=4) (by decide)) ?_;refine a6.mk eG k lb rfl dP ?_;refine aJ.mk _ (iw _) ?_;refine a6.mk ⟨t.ev,(k-t.n0)*(t.w*4),none⟩ a rfl rfl ke ?_;refine cX.qe [] [cP gA b9,cP gD cb] (t.cs T) _ rfl (by rw[qM];exact fe) rfl (t.cs (fE T k a c)) sM ?_;refine cz.mk λbZ gb ig=>?_;refine be.jU aS rfl (by simp) (e:=3) rfl rfl rfl (g:=gD) (n:=D.length) (c:=nD) (cur:=cb) rfl (show cb.length=nD*1 by omega) (ad:=⟨bZ,0,none⟩) (m:=1) (c':=1) rfl (news:=[bW k]) ⟨rfl,_,_,_,.inr ⟨_,.head _,rfl,rfl⟩,rfl,rfl⟩ rfl (by omega) [_,t.aY (fE T k a c),cP gA b9] [] rfl ?_;refine aQ.mk _ (bU (i:=i) (by omega)) ?_;have hlen:D.length+1=(D++[k]).length:=by simp
    exact⟨(i+1,⟨fE T k a c,L,D++[k],b9,bw cb (D.length*1) [bW k]⟩),⟨done dZ,by simp only;omega⟩,.sub (.cons _ (.refl _)) .refl,.cons .refl (.cons (ld gD nD hlen) (lT)),.cons rfl (.nil)⟩
  ·refine dT.mk 7 rfl (by decide) ?_;have bQ:=ahY (sL (M:=[t.aY T,cP gA b9,cP gD cb]) (.head _)) rH;unfold kH at bQ;rw[aA]at bQ;refine aT.whole _ bQ ?_;rintro v I' M' -⟨rfl,rfl,rfl⟩;refine aI.mk (λaz=>?_) (λaz=>?_)
   ·have dZ:c.aB=0:=by have:=cr az;omega
    refine cz.mk λbZ gb ig=>?_;refine be.jU aS rfl (by simp) (e:=3) rfl rfl rfl (g:=gA) (n:=L.length) (c:=nA) (cur:=b9) rfl (show b9.length=nA*1 by omega) (ad:=⟨bZ,0,none⟩) (m:=1) (c':=1) rfl (news:=[bW k]) ⟨rfl,_,_,_,.inr ⟨_,.head _,rfl,rfl⟩,rfl,rfl⟩ rfl (by omega) [_,t.aY T] [cP gD cb] rfl ?_;refine aQ.mk _ (bU (i:=i) (by omega)) ?_;have hlen:L.length+1=(L++[k]).length:=by simp
    exact⟨(i+1,⟨T,L++[k],D,bw b9 (L.length*1) [bW k],cb⟩),⟨stay dZ,by simp only;omega⟩,.sub (.cons _ (.refl _)) .refl,.cons .refl (.cons .refl (.cons .refl (.cons .refl (.cons .refl (.cons (ld gA nA hlen) (da)))))),.cons rfl (.nil)⟩
   ·have dZ:c.aB≠0:=by have:=b' az;omega
    refine cL.draw aS rfl rfl rfl ?_;refine aJ.mk _ (oV.e5 (j:=4) (by decide)) ?_;refine a6.mk eG k lb rfl dP ?_;refine aJ.mk _ (iw _) ?_;refine a6.mk ⟨t.ev,(k-t.n0)*(t.w*4),none⟩ a rfl rfl ke ?_;refine cX.qe [] [cP gA b9,cP gD cb] (t.cs T) _ rfl (by rw[qM];exact fe) rfl (t.cs (fE T k a c)) sM ?_;refine cz.mk λbZ gb ig=>?_;refine be.jU aS rfl (by simp) (e:=3) rfl rfl rfl (g:=gD) (n:=D.length) (c:=nD) (cur:=cb) rfl (show cb.length=nD*1 by omega) (ad:=⟨bZ,0,none⟩) (m:=1) (c':=1) rfl (news:=[bW k]) ⟨rfl,_,_,_,.inr ⟨_,.head _,rfl,rfl⟩,rfl,rfl⟩ rfl (by omega) [_,t.aY (fE T k a c),cP gA b9] [] rfl ?_;refine aQ.mk _ (bU (i:=i) (by omega)) ?_;have hlen:D.length+1=(D++[k]).length:=by simp
    exact⟨(i+1,⟨fE T k a c,L,D++[k],b9,bw cb (D.length*1) [bW k]⟩),⟨done dZ,by simp only;omega⟩,.sub (.cons _ (.refl _)) .refl,.cons .refl (.cons (ld gD nD hlen) (lT)),.cons rfl (.nil)⟩
  ·refine dT.mk 8 rfl (by decide) ?_;have bQ:=ahZ (sL (M:=[t.aY T,cP gA b9,cP gD cb]) (.head _)) rH;unfold kH at bQ;rw[aA]at bQ;refine aT.whole _ bQ ?_;rintro v I' M' -⟨rfl,rfl,rfl⟩;refine aI.mk (λaz=>?_) (λaz=>?_)
   ·have dZ:c.aB=0:=by have:=cr az;omega
    refine cz.mk λbZ gb ig=>?_;refine be.jU aS rfl (by simp) (e:=3) rfl rfl rfl (g:=gA) (n:=L.length) (c:=nA) (cur:=b9) rfl (show b9.length=nA*1 by omega) (ad:=⟨bZ,0,none⟩) (m:=1) (c':=1) rfl (news:=[bW k]) ⟨rfl,_,_,_,.inr ⟨_,.head _,rfl,rfl⟩,rfl,rfl⟩ rfl (by omega) [_,t.aY T] [cP gD cb] rfl ?_;refine aQ.mk _ (bU (i:=i) (by omega)) ?_;have hlen:L.length+1=(L++[k]).length:=by simp
    exact⟨(i+1,⟨T,L++[k],D,bw b9 (L.length*1) [bW k],cb⟩),⟨stay dZ,by simp only;omega⟩,.sub (.cons _ (.refl _)) .refl,.cons .refl (.cons .refl (.cons .refl (.cons .refl (.cons .refl (.cons (ld gA nA hlen) (da)))))),.cons rfl (.nil)⟩
   ·have dZ:c.aB≠0:=by have:=b' az;omega
    refine cL.draw aS rfl rfl rfl ?_;refine aJ.mk _ (oV.e5 (j:=4) (by decide)) ?_;refine a6.mk eG k lb rfl dP ?_;refine aJ.mk _ (iw _) ?_;refine a6.mk ⟨t.ev,(k-t.n0)*(t.w*4),none⟩ a rfl rfl ke ?_;refine cX.qe [] [cP gA b9,cP gD cb] (t.cs T) _ rfl (by rw[qM];exact fe) rfl (t.cs (fE T k a c)) sM ?_;refine cz.mk λbZ gb ig=>?_;refine be.jU aS rfl (by simp) (e:=3) rfl rfl rfl (g:=gD) (n:=D.length) (c:=nD) (cur:=cb) rfl (show cb.length=nD*1 by omega) (ad:=⟨bZ,0,none⟩) (m:=1) (c':=1) rfl (news:=[bW k]) ⟨rfl,_,_,_,.inr ⟨_,.head _,rfl,rfl⟩,rfl,rfl⟩ rfl (by omega) [_,t.aY (fE T k a c),cP gA b9] [] rfl ?_;refine aQ.mk _ (bU (i:=i) (by omega)) ?_;have hlen:D.length+1=(D++[k]).length:=by simp
    exact⟨(i+1,⟨fE T k a c,L,D++[k],b9,bw cb (D.length*1) [bW k]⟩),⟨done dZ,by simp only;omega⟩,.sub (.cons _ (.refl _)) .refl,.cons .refl (.cons (ld gD nD hlen) (lT)),.cons rfl (.nil)⟩
  ·refine dT.mk 9 rfl (by decide) ?_;have bQ:=ah0 (sL (M:=[t.aY T,cP gA b9,cP gD cb]) (.head _)) rH;unfold kH at bQ;rw[aA]at bQ;refine aT.whole _ bQ ?_;rintro v I' M' -⟨rfl,rfl,rfl⟩;refine aI.mk (λaz=>?_) (λaz=>?_)
   ·have dZ:c.aB=0:=by have:=cr az;omega
    refine cz.mk λbZ gb ig=>?_;refine be.jU aS rfl (by simp) (e:=3) rfl rfl rfl (g:=gA) (n:=L.length) (c:=nA) (cur:=b9) rfl (show b9.length=nA*1 by omega) (ad:=⟨bZ,0,none⟩) (m:=1) (c':=1) rfl (news:=[bW k]) ⟨rfl,_,_,_,.inr ⟨_,.head _,rfl,rfl⟩,rfl,rfl⟩ rfl (by omega) [_,t.aY T] [cP gD cb] rfl ?_;refine aQ.mk _ (bU (i:=i) (by omega)) ?_;have hlen:L.length+1=(L++[k]).length:=by simp
    exact⟨(i+1,⟨T,L++[k],D,bw b9 (L.length*1) [bW k],cb⟩),⟨stay dZ,by simp only;omega⟩,.sub (.cons _ (.refl _)) .refl,.cons .refl (.cons .refl (.cons .refl (.cons .refl (.cons .refl (.cons (ld gA nA hlen) (da)))))),.cons rfl (.nil)⟩
   ·have dZ:c.aB≠0:=by have:=b' az;omega
    refine cL.draw aS rfl rfl rfl ?_;refine aJ.mk _ (oV.e5 (j:=4) (by decide)) ?_;refine a6.mk eG k lb rfl dP ?_;refine aJ.mk _ (iw _) ?_;refine a6.mk ⟨t.ev,(k-t.n0)*(t.w*4),none⟩ a rfl rfl ke ?_;refine cX.qe [] [cP gA b9,cP gD cb] (t.cs T) _ rfl (by rw[qM];exact fe) rfl (t.cs (fE T k a c)) sM ?_;refine cz.mk λbZ gb ig=>?_;refine be.jU aS rfl (by simp) (e:=3) rfl rfl rfl (g:=gD) (n:=D.length) (c:=nD) (cur:=cb) rfl (show cb.length=nD*1 by omega) (ad:=⟨bZ,0,none⟩) (m:=1) (c':=1) rfl (news:=[bW k]) ⟨rfl,_,_,_,.inr ⟨_,.head _,rfl,rfl⟩,rfl,rfl⟩ rfl (by omega) [_,t.aY (fE T k a c),cP gA b9] [] rfl ?_;refine aQ.mk _ (bU (i:=i) (by omega)) ?_;have hlen:D.length+1=(D++[k]).length:=by simp
    exact⟨(i+1,⟨fE T k a c,L,D++[k],b9,bw cb (D.length*1) [bW k]⟩),⟨done dZ,by simp only;omega⟩,.sub (.cons _ (.refl _)) .refl,.cons .refl (.cons (ld gD nD hlen) (lT)),.cons rfl (.nil)⟩
 ·have c1:¬ (i:Int)<(hK.length:Int):=b' e;obtain rfl:i=hK.length:=by omega
  have iV:(D++(L++hK.drop hK.length)).Perm (D0++ee):=bO.perm;have dP:∀ k∈ee,k∈L\/k∈hK.drop hK.length\/(T k a).aB≠0:=bO.kn;simp only[KI,fo]at iV dP;have OI:=iV.length_eq;simp only[ck]at OI;have jb:gS (L.map bW)=true:=by unfold gS;rw[gq];intro x ab;obtain⟨z,_,rfl⟩:=du.1 ab;rfl
  have pI:bE I [t.aY T,cP gA b9,cP gD cb] ⟨gA,0,none⟩ (L.length*1) (L.map bW):=by refine⟨rfl,b9.toArray,3,(0,0),.inr ⟨_,.tail _ (.head _),rfl,rfl⟩,?_,by rw[ei,hD]⟩;rw[hD];exact bO.sK
  obtain⟨eH,eI⟩:=aic (D:=D) (cur:=cb) bO.xH (L:=L) (by show D.length+L.length<=cb.length;omega);have fin:((L.length:Nat)=0\/D.length=sF.length)->(∀ k∈ee,(T k a).aB=0->(dp t.P T k a).aB=0):=λbI k ae aq=>by
   rcases dP k ae with U | U | U
   ·rcases bI with bI | bI
    ·rw[lV bI]at U;cases U
    ·exact bO.un bI k U
   ·cases U
   ·exact absurd aq U
  refine bo.mk (λg=>?_) (λg=>?_)
  ·refine aI.mk (λaV=>?_) (λaV=>?_)
   ·have WS:D.length=sF.length:=by have bl:(D.length:Int)=(sF.length:Int):=cr aV;omega
    refine be.jU aS rfl (by simp) (e:=3) rfl rfl rfl (g:=gD) (n:=D.length) (c:=nD) (cur:=cb) rfl (show cb.length=nD*1 by omega) (ad:=⟨gA,0,none⟩) (m:=L.length) (c':=nA) rfl (news:=L.map bW) pI jb (by omega) [t.aY T,cP gA b9] [] rfl ?_;exact⟨_,_,.refl,rfl,T,D++L,b9,_,bO.inv,bO.rG,fin (.inr WS),iV,Fj,eH.trans Fk,eI,by rw[ck],rfl⟩
   ·have WS:D.length≠sF.length:=by have bl:¬ (D.length:Int)=(sF.length:Int):=b' aV;omega
    exact⟨⟨T,L,D,b9,cb⟩,⟨⟨bO.inv,bO.rG,iV,λk ae=>(dP k ae).imp id λx=>x.elim (λy=>(by cases y)) id,bO.sub,Fj,bO.sK,Fk,bO.xH⟩,by simp only;omega⟩,.refl,kQ,.cons rfl (.nil)⟩
  ·have c2:L.length=0:=by have:decide ((L.length:Int)=0)=true:=g;have:=cr this;omega
   refine be.jU aS rfl (by simp) (e:=3) rfl rfl rfl (g:=gD) (n:=D.length) (c:=nD) (cur:=cb) rfl (show cb.length=nD*1 by omega) (ad:=⟨gA,0,none⟩) (m:=L.length) (c':=nA) rfl (news:=L.map bW) pI jb (by omega) [t.aY T,cP gA b9] [] rfl ?_;exact⟨_,_,.refl,rfl,T,D++L,b9,_,bO.inv,bO.rG,fin (.inl c2),iV,Fj,eH.trans Fk,eI,by rw[ck],rfl⟩
structure WT(I:aN)(t:eV)(fU:Nat->Nat->bY)(ee:List Nat):Prop where
 ok:t.ok I fU
 inv:hY t.P t.nn fU
 bS:∀ k,k<t.nn->ur t.P t.nn k
 na:∀ k,zR t.P k
 n0:t.n0<t.nn
 lo:∀ k∈ee,t.n0<=k/\k<t.nn
 all:∀ k,t.n0<=k->k<t.nn->k∈ee
 cY:∀ k,k<t.n0->∀ b,(fU k b).ce=bV t.P k b
structure WU where
 p:Nat
 v:Int
 T:Nat->Nat->bY
 L:List Nat
 gA:Nat
 nA:Nat
 b9:List Value
 gD:Nat
 nD:Nat
 d:Nat
 cb:List Value
structure aiq(t:eV)(fU:Nat->Nat->bY)(ee:List Nat)(low:Nat)(x:WU):Prop where
 v:x.v=(x.p:Int)-1
 p:x.p<=t.s.size+1
 air:low<=x.p
 inv:hY t.P t.nn x.T
 up:∀ k b,x.p<=b->(x.T k b).ce=bV t.P k b
 cY:∀ k,k<t.n0->∀ b,x.T k b=fU k b
 perm:x.L.Perm ee
 BZ:x.b9.length=x.nA
 sK:x.b9.take x.L.length=x.L.map bW
 Fi:x.cb.length=x.nD
 ea:ee.length<=x.nA
 cH:ee.length<=x.nD
 ais:x.nA<=1048576
 ait:x.nD<=1048576
set_option maxRecDepth 100000 in
def aiu{fU:Nat->Nat->bY}(h:WT I t fU ee){gN nN:Nat}{cN:List Value}(gp:cN.length=nN)(aiv:cN.take ee.length=ee.map bW)(b1:ee.length<=nN)(aiw:nN<=1048576){low:Nat}(amn:low<=t.s.size) :
  Spec Tryz.prog 62 [ptr t.bt,.slice (some ⟨gN,0,none⟩) ee.length nN,.int .i64 low] I [t.aY fU,cP gN cN] λv I' M'=>I'=I /\
   ∃ (T:Nat->Nat->bY),hY t.P t.nn T/\(∀ k b,low<=b->(T k b).ce=bV t.P k b)/\(∀ k,k<t.n0->∀ b,T k b=fU k b)/\M'=[t.aY T]:=by
 refine bC [] aS Tryz.func62 rfl rfl rfl ?_;intro B aq;have cm:=h.ok.sz;refine aT.whole _ aia ?_;rintro v I' M' -⟨rfl,rfl,rfl⟩;refine qU.mk 0 ee.length rfl rfl (bj _) (by show 8*ee.length<=_;omega) (by omega) ?_;refine cz.mk λaix amo amp=>?_;refine aJ.mk _ (h.ok.e5 (j:=0) (by decide)) ?_;refine cD.inv (ι:=WU) (λx=>{ bA:=[(0,.val (ptr t.bt)),(1,.val (.slice (some ⟨x.gA,0,none⟩) x.L.length x.nA)),(2,.val (.int .i64 low)),(6,.ref 6 0),(7,.val (.slice (some ⟨x.gD,0,none⟩) x.d x.nD)),(8,.val (.int .i64 x.v))],cl:=[(6,Fh)],cj:=I',dx:=[t.aY x.T,cP x.gA x.b9,cP x.gD x.cb] }) (λx=>aiq t fU ee low x) (λx=>x.p) ?_ ?_
 ·refine⟨⟨t.s.size+1,t.s.size,fU,ee,gN,nN,cN,aix,ee.length,0,rowOf [bW 0] (ee.length*1)⟩,⟨by simp only;omega,b6 _,by simp only;omega,h.inv,λk b af=>h.inv.out k b λe=>by have aa:b<=t.s.size:=e.2;simp only at af;omega,λ_ _ _=>rfl,.refl _,gp,aiv,by simp[rowOf],b1,b6 _,aiw,by simp only;omega⟩,.perm ?_ .refl,nb,.cons rfl (.nil)⟩;exact(List.Perm.swap _ _ _).trans (.cons _ (.swap _ _ _))
 rintro⟨p,v,T,L,gA,nA,b9,gD,nD,d,cb⟩a9;have ah:=a9.v;have aO:=a9.p;have aiy:=a9.air;have OJ:=a9.ais;have OK:=a9.ait;have WV:=a9.ea;have WW:=a9.cH;have OI:=a9.perm.length_eq;simp only at ah aO aiy OJ OK WV WW OI;refine aI.mk (λe=>?_) (λe=>?_)
 ·have c1:(low:Int)<=v:=cr e;obtain⟨a,rfl⟩:∃ a,p=a+1:=⟨p-1,by omega⟩;obtain rfl:v=(a:Int):=by omega
  have WX:I4 I' t T L a:=⟨h.ok.rG λk ae b=>a9.cY k ae b,a9.inv,h.bS,h.na,h.n0,λk ae=>h.lo k (a9.perm.mem_iff.1 ae),by omega⟩;have bQ:=aij (D0:=[]) WX (gA:=gA) (gD:=gD) (nA:=nA) (nD:=nD) (cA0:=b9) (cD0:=cb) a9.BZ a9.Fi a9.sK (by simp) (by omega) (by simp;omega) OJ OK;refine cL.draw aS rfl rfl rfl ?_;refine i'.mk 0 0 rfl rfl (b6 _) (bj _) ?_;refine jc.abL _ bQ ?_;rintro v dQ dt -⟨rfl,lk,B0,aiz,aiA,s1,s2,fJ,AV,aiB,aiC,aiD,rfl,rfl⟩;rw[nj]at AV;have Ua:=AV.length_eq;have hold:∀ k,k<t.n0->∀ b,lk k b=fU k b:=λk ae b=>by rw[s2 k b λx=>by have:=(WX.lo k x.1).1;omega];exact a9.cY k ae b
  have Fb:∀ k b,a<b->(lk k b).ce=bV t.P k b:=λk b af=>by rw[s2 k b λx=>by omega];exact a9.up k b af
  have eP:∀ k,(lk k a).ce=bV t.P k a:=ahs s1 h.bS Fb (λk ae bd=>by
   by_cases fQ:k<t.n0;·refine aht s1 ae (by show a<=t.s.size;omega) (h.bS k ae) ?_ bd;rw[hold k fQ a];exact h.cY k fQ a
   ·exact fJ k (a9.perm.mem_iff.2 (h.all k (by omega) ae)) bd) (by show a<=t.s.size;omega)
  refine aQ.mk ((a:Int)-1) (e4 rfl (by omega)) ?_;refine⟨⟨a,(a:Int)-1,lk,B0,gD,nD,aiA,gA,nA,L.length,aiz⟩,⟨⟨rfl,by simp only;omega,by simp only;omega,s1,λk b af=>?_,hold,AV.trans a9.perm,aiC,aiD,aiB,WW,WV,OK,OJ⟩,by simp only;omega⟩,.perm (.cons _ (.swap _ _ _)) .refl,nb,.cons rfl (.nil)⟩;by_cases e:b=a;·rw[e];exact eP k
  ·exact Fb k b (by simp only at af;omega)
 ·have aL:¬ (low:Int)<=v:=b' e;refine⟨_,_,.sub (M1:=[t.aY T]) (.cons_cons _ (.cons _ (.cons _ .slnil))) .refl,rfl,T,a9.inv,λk b af=>a9.up k b (by simp only;omega),a9.cY,rfl⟩
def aiE(m:Nat):rowOf ic.cells (m*4)=(List.replicate m ic).flatMap bY.cells:=by
 induction m with
 |zero=>rfl
 |succ w a2=>
  have e:(w+1)*4=w*4+4:=by omega
  have az:rowOf ic.cells ((w+1)*4)=rowOf ic.cells (w*4)++ic.cells:=by
   unfold rowOf;rw[e,MJ,gg];congr 1;apply wi (by rfl);intro i U aa;simp only[jJ,mb];have ag:i<4:=by simpa using U
   have aK:(w*4+i)%ic.cells.length=i:=by show(w*4+i)%4=i;omega
   rw[aK]
   match i,ag with
   |0,_=>rfl| 1,_=>rfl| 2,_=>rfl| 3,_=>rfl
  rw[az,a2,List.replicate_succ'];simp
def WY(w:Nat):∀ n,((List.range n).flatMap λ_=>(List.range w).flatMap λ_=>ic.cells)=(List.replicate (n*w) ic).flatMap bY.cells
 |0=>by rw[At];rfl
 |n+1=>by
  have U:((List.range w).flatMap λ_=>ic.cells)=(List.replicate w ic).flatMap bY.cells:=by
   have e:(List.range w).map (λ_=>ic)=List.replicate w ic:=by rw[List.map_const',qJ]
   rw[<-e,BY]
  rw[zx,lr,WY w n,og,GJ,fo,U,<-lr,List.replicate_append_replicate,jg,nm]
def B1(ev w i:Nat):Value:=.slice (some ⟨ev,i*(w*4),none⟩) w w
def Fl(ev w n:Nat):List Value:=(List.range n).map (B1 ev w)
def aiF(n w:Nat)(av:n<=4096)(hw:w<=8192)(U:1<=w):Spec Tryz.prog 61 [.int .i64 n,.int .i64 w] I M0 λv I' M'=>I'=I/\∃ iN ev,v=.slice (some ⟨iN,0,none⟩) n n /\
  M'=⟨iN,.cells (Fl ev w n).toArray 108 (0,0)⟩::⟨ev,.cells ((List.replicate (n*w) ic).flatMap bY.cells).toArray 107 (0,0)⟩::M0:=by
 refine bC [] aS Tryz.func61 rfl rfl rfl ?_;intro B aq;have hle:∀ i,i<=n->i*w<=33554432:=λi hi=>by have:=Nat.mul_le_mul (jB hi av) hw;omega
 have amq:=hle n (b6 _);refine aQ.mk ((n*w:Nat):Int) (e4 (by simp) (by omega)) ?_;refine qU.mk (n*w) (n*w) rfl rfl (b6 _) (by show 16*(n*w)<=_;omega) (by omega) ?_;refine cz.mk λev aiG amr=>?_;refine qU.mk n n rfl rfl (b6 _) (by show 24*n<=_;omega) (by omega) ?_;refine cz.mk λiN WZ ams=>?_;refine cD.inv (ι:=Nat) (λi=>{ bA:=[(1,.val (.int .i64 w)),(5,.val (.slice (some ⟨ev,0,none⟩) (n*w) (n*w))),(6,.val (.slice (some ⟨iN,0,none⟩) n n)),(15,.val (.int .i64 n)),(16,.val (.int .i64 i))],cl:=[],cj:=I,dx:=⟨iN,.cells ((List.range i).map (B1 ev w)++List.replicate (n-i) (Value.slice none 0 0)).toArray 108 (0,0)⟩::⟨ev,.cells ((List.replicate (n*w) ic).flatMap bY.cells).toArray 107 (0,0)⟩::M0 }) (λi=>i<=n) (λi=>n-i) ?_ ?_
 ·refine⟨0,bj _,.AU ?_,kQ,.nil⟩;have ax:rowOf [Value.slice none 0 0] (n*1)=List.replicate n (Value.slice none 0 0):=by rw[Ax,hD]
  have az:=aiE (n*w);show(⟨iN,.cells (rowOf [Value.slice none 0 0] (n*1)).toArray 108 (0,0)⟩:aC)::⟨ev,.cells (rowOf ic.cells (n*w*4)).toArray 107 (0,0)⟩::M0=_;rw[ax,az];rfl
 intro i hi;refine aI.mk (λe=>?_) (λe=>?_)
 ·have aL:i<n:=by simpa using e
  have eA:=hle i hi;have gG:=hle (i+1) (by omega);have MY:(i+1)*w=i*w+w:=by rw[jg,nm]
  have aiH:(i+1)*w<=n*w:=qP _ aL;refine aQ.mk ((i*w:Nat):Int) (e4 (by simp) (by omega)) ?_;refine aQ.mk _ (bU (i:=i) (by omega)) ?_;refine aQ.mk (((i+1)*w:Nat):Int) (e4 (by simp) (by omega)) ?_;refine aQ.mk _ (bU (i:=i) (by omega)) ?_;refine aQ.mk (((i+1)*w:Nat):Int) (e4 (by simp) (by omega)) ?_;refine be.slice3 aS rfl (by simp) (e:=107) rfl rfl rfl (i*w) ((i+1)*w) ((i+1)*w) (ad:=some ⟨ev,0,none⟩) (n:=n*w) (c:=n*w) rfl rfl rfl rfl (by omega) (b6 _) aiH ?_;refine a6.mk ⟨iN,0,none⟩ i rfl rfl aL ?_;refine cX.qe [] _ ((List.range i).map (B1 ev w)++List.replicate (n-i) (Value.slice none 0 0)) _ rfl ?_ rfl ((List.range (i+1)).map (B1 ev w)++List.replicate (n-(i+1)) (Value.slice none 0 0)) ?_ ?_;·rw[qM,ck,ei,qJ,Gk];show 0+i*1+1<=_;omega
  ·have st:List.replicate (n-i) (Value.slice none 0 0)=.slice none 0 0::List.replicate (n-(i+1)) (Value.slice none 0 0):=by rw[show n-i=(n-(i+1))+1 from by omega,Hf]
   have ah:(Value.slice (if(i+1)*w=i*w then some ⟨ev,0,none⟩else(some (⟨ev,0,none⟩:Addr)).map (·.add (i*w*4))) ((i+1)*w-i*w) ((i+1)*w-i*w))=B1 ev w i:=by rw[dc (by omega),MY,Nat.add_sub_cancel_left];unfold B1;rw[kj,d' _ rfl,dK,Nat.mul_assoc]
   rw[st,zx,gg,fN];refine(Rz (k:=0+i*1) (by rw[ei,qJ];omega)).trans ?_;rw[ah];rfl
  refine aQ.mk _ (bU (i:=i) (by omega)) ?_;exact⟨i+1,⟨by omega,by omega⟩,.refl,kQ,.nil⟩
 ·have c1:n<=i:=by simpa using e
  obtain rfl:i=n:=by omega
  refine⟨_,_,.refl,rfl,iN,ev,rfl,?_⟩;rw[zh,List.replicate_zero,fo];rfl
def vM(d:a'):Value:=.string d.name
def aiI{g:b3}(ar:g.ok I)(av:g.n<=4096):Spec Tryz.prog 59 [g.val] I M0 λv I' M'=>I'=I/\∃ os:bn,v=os.val/\os.n=g.n/\os.ok 1 (g.ds.map vM)/\M'=os.aY 9++M0:=by
 refine bC [] aS Tryz.func59 rfl rfl rfl ?_;intro B aq;have js:=ar.n;refine cD.inv (ι:=Nat×bn) (λx=>{ bA:=[(3,.val x.2.val),(7,.val (.slice g.a g.n g.c)),(8,.val (.int .i64 g.n)),(9,.val (.int .i64 x.1))],cj:=I,dx:=x.2.aY 9++M0 }) (λx=>x.1<=g.n/\x.2.n=x.1/\x.2.ok 1 ((g.ds.take x.1).map vM)) (λx=>g.n-x.1) ?_ ?_
 ·exact⟨(0,sb),⟨bj _,rfl,wQ 1⟩,.refl,dr,.nil⟩
 rintro⟨i,os⟩⟨hi,vF,dN⟩;simp only at hi vF dN;refine aI.mk (λh=>?_) (λh=>?_)
 ·have aL:i<g.n:=by simpa using h
  have bi:i<g.ds.length:=by omega
  obtain⟨ad,bR,bh⟩:=ar.aU.row a'.c0 aL bi;refine a6.mk ad i bR rfl aL ?_;refine aJ.mk _ (bh _) ?_;refine cz.mk λbZ gb tv=>?_;refine be.wY aS rfl (by simp) (e:=9) rfl rfl rfl os dN rfl (cs:=[.string (g.ds[i]).name]) rfl rfl rfl [] M0 rfl (by omega) (by show(os.n+1)*16<=_;omega) ?_;intro y6 EK jM J';refine aQ.mk _ (bU (i:=i) (by omega)) ?_;refine⟨(i+1,y6),⟨⟨aL,by simp only;omega,?_⟩,by simp only;omega⟩,.refl,dr,.nil⟩;simp only;rw[g9 bi,gg];exact J'
 ·have c1:g.n<=i:=by simpa using h
  obtain rfl:i=g.n:=by omega
  rw[gv (by omega)]at dN;exact⟨_,_,.refl,rfl,os,rfl,vF,dN,rfl⟩
def aiJ{ds:List a'}{c:Nat}(an:dW I fi n c 1 16 (ds.map vM))(db:ByteArray):Spec Tryz.prog 94 [.slice fi n c,.string db] I M0 λv I' M'=>v=.int .i64 (cV db ds 0)/\I'=I/\M'=M0:=by
 refine bC [] aS Tryz.func94 rfl rfl rfl ?_;intro B aq;have av:ds.length=n:=by have:=an.len;rw[ei]at this;omega
 have ny:=an.cap.2;refine cD.inv (ι:=Nat) (λi=>{ bA:=[(0,.val (.slice fi n c)),(1,.val (.string db)),(7,.val (.int .i64 n)),(8,.val (.int .i64 i))],cj:=I,dx:=M0 }) (λi=>i<=n/\cV db ds 0=cV db (ds.drop i) i) (λi=>n-i) ?_ ?_
 ·exact⟨0,⟨bj _,rfl⟩,.refl,dr,.nil⟩
 rintro i⟨hi,aw⟩;refine aI.mk (λh=>?_) (λh=>?_)
 ·have aL:i<n:=by simpa using h
  have bi:i<ds.length:=by omega
  obtain⟨ad,bR,bh⟩:=an.one (f:=vM) aL bi;have eR:ds.drop i=ds[i]::ds.drop (i+1):=dS bi;rw[eR,cV]at aw;refine a6.mk ad i bR rfl aL ?_;refine aJ.mk _ (bh _) ?_;refine aI.mk (λaa=>?_) (λaa=>?_);·have e:(ds[i]).name=db:=(cr aa).symm;rw[fA e,ba]at aw;exact⟨_,_,.refl,by rw[aw],rfl,rfl⟩
  ·have e:¬ (ds[i]).name=db:=λe=>b' aa e.symm;rw[b8 e,a5]at aw;refine aQ.mk _ (bU (i:=i) (by omega)) ?_;exact⟨i+1,⟨⟨aL,aw⟩,by omega⟩,.refl,dr,.nil⟩
 ·have c1:n<=i:=by simpa using h
  refine⟨_,_,.refl,?_,rfl,rfl⟩;rw[aw,hc (by omega)];rfl
def m4(bt:Nat)(s:ByteArray)(nv rv zW rwv:Value):aC:=⟨bt,.cells [.string s,nv,rv,zW,rwv].toArray 100 (0,0)⟩
def zX{s:ByteArray}{zW:Value}(a7:m4 bt s nv rv zW rwv∈M)(al:j<5):bE I M ((⟨bt,0,none⟩:Addr).add j) 1 [([.string s,nv,rv,zW,rwv]:List Value).getD j undef]:=by
 have h:=dM (I:=I) (cs:=[.string s,nv,rv,zW,rwv]) (k:=j) (n:=1) a7 (by show j+1<=5;omega);have:(([.string s,nv,rv,zW,rwv]:List Value).drop j).take 1=[([.string s,nv,rv,zW,rwv]:List Value).getD j undef]:=by
  match j,al with
  |0,_=>rfl| 1,_=>rfl| 2,_=>rfl| 3,_=>rfl| 4,_=>rfl
 rwa [this]at h
def sN(b:Nat)(L:List Nat)(n:aP):aP:={ n with kX:=some ⟨b,0,none⟩,kn:=L.length,j0:=L.length,kids:=L.map λ(k:Nat)=>(k:Int) }
def aiK(b:Nat)(L:List Nat)(n:aP):(sN b L n).pn=⟨n.BW,L⟩:=by unfold aP.pn sN;congr 1;rw[oq];exact List.map_id'' (λx=>by simp) L
def aiL{b T:Nat}{n:aP}(h:n.ok I)(a9:I b=some (.cells (L.map bW).toArray T (0,0)))(ay:L.length<=1048576)(b1:∀ x∈L,x<=1048576):(sN b L n).ok I:=by
 refine { h with aU:=?_,kids:=λx ab=>?_ }
 ·show dW I (some ⟨b,0,none⟩) L.length L.length 1 8 ((L.map λ(k:Nat)=>(k:Int)).map (.int .i64 ·));rw[oq];exact ack (T:=T) a9 ay rfl
 ·obtain⟨y,aG,rfl⟩:=du.1 ab;have:=b1 y aG;unfold gj;omega
structure W0(I:aN)(ds:List a')(fi eG:Option Addr)(ml iM:Nat)(base:Nat)(t:bJ):Prop where
 db:dW I fi ds.length ml 1 16 (ds.map vM)
 rt:dW I eG ds.length iM 1 8 ((gM 0 ds).map bW)
 ns:∀ n∈t.ns,(∀ k∈n.kids,0<=k/\k.toNat<=4096)/\n.kids.length<=4096/\n.t.size<=4096
 aiM:∀ x∈gM 0 ds,x<=4096
 len:ds.length<=4096
 many:base+t.n<=4096
def zY(ds:List a')(base:Nat)(n:aP):oA:=⟨n.BW,k6 ds base n⟩
def iO(p:Nat×List Nat):aC:=⟨p.1,.cells (p.2.map bW).toArray 3 (0,0)⟩
def n3(kb:List (Nat×List Nat))(ns:List aP):List aP:=List.zipWith (λp n=>sN p.1 p.2 n) kb ns
structure Fm(ds:List a')(xs:List aP)(t:bJ)(i:Nat)(os:bn)(kb:List (Nat×List Nat)):Prop where
 ii:i<=t.n
 n:os.n=xs.length+i
 ok:os.ok 9 ((xs++n3 kb (t.ns.take i)).flatMap aP.cells)
 kb:kb.map (·.2)=(t.ns.take i).map (k6 ds xs.length)
 find:∀ n∈t.ns.take i,n.k=3->0<=cV n.t ds 0
def aiN{ns:List aP}(h:kb.length=ns.length)(p:Nat×List Nat)(n:aP):n3 (kb++[p]) (ns++[n])=n3 kb ns++[sN p.1 p.2 n]:=by unfold n3;rw[List.zipWith_append h];rfl
def Fm.len{ds:List a'}{t:bJ}{i:Nat}(h:Fm ds xs t i os kb)(av:t.ns.length=t.n):kb.length=(t.ns.take i).length:=by have:=congrArg List.length h.kb;simpa using this
def W1(x y:aC)(A:List aC)(kb:List (Nat×List Nat)){p:Nat×List Nat}(ab:x=iO p:=by rfl):(x::y::(A++kb.map iO)).Perm (y::(A++(kb++[p]).map iO)):=by subst ab;rw[gg,<-fN];exact(List.Perm.swap _ _ _).trans (.cons _ (f' (l₁:=[iO p]) (l₂:=A++kb.map iO)))
set_option maxRecDepth 100000 in
def aiO{t:bJ}(au:t.ok I){ds:List a'}{ml:Nat}(h:W0 I ds fi eG ml iM xs.length t){zZ:bn}(W2:zZ.ok 9 (xs.flatMap aP.cells))(bt:Nat)(s:ByteArray)(rwv:Value) :
  Spec Tryz.prog 60 [ptr bt,t.val] I (m4 bt s (.slice fi ds.length ml) (.slice eG ds.length iM) zZ.val rwv::(zZ.aY 72++[])) λv I' M'=>I'=I/\∃ (i:Nat) (os:bn) (kb:List (Nat×List Nat)),Fm ds xs t i os kb /\
   M'=m4 bt s (.slice fi ds.length ml) (.slice eG ds.length iM) os.val rwv::(os.aY 72++kb.map iO)/\((v=.bool true/\i=t.n)\/(v=.bool false/\∃ n∈t.ns,n.k=3/\cV n.t ds 0<0)):=by
 refine bC [] aS Tryz.func60 rfl rfl rfl ?_;intro B aq;have kz:=au.n;have amt:=h.many;have aiP:zZ.n=xs.length:=by have:=W2.len;rw[ji _ 9 aP.c0]at this;omega
 refine aJ.mk _ (zX (j:=3) (.head _) (by decide)) ?_;refine cD.inv (ι:=Nat×bn×List (Nat×List Nat)) (λx=>{ bA:=[(0,.val (ptr bt)),(4,.lit false),(5,.val (.int .i64 zZ.n)),(18,.val (.slice t.a t.n t.c)),(19,.val (.int .i64 t.n)),(20,.val (.int .i64 x.1))],cl:=[],cj:=I,dx:=m4 bt s (.slice fi ds.length ml) (.slice eG ds.length iM) x.2.1.val rwv::(x.2.1.aY 72++x.2.2.map iO) }) (λx=>Fm ds xs t x.1 x.2.1 x.2.2) (λx=>t.n-x.1) ?_ ?_
 ·exact⟨(0,zZ,[]),⟨bj _,aiP,by simpa[n3]using W2,rfl,λn av=>(by cases av)⟩,.refl,nb,.nil⟩
 rintro⟨i,os,kb⟩g4;have hi:=g4.ii;have vF:=g4.n;have OL:=g4.ok;have I7:=g4.len kz;simp only at hi vF OL I7;refine aI.mk (λe=>?_) (λe=>?_)
 rotate_left
 ·have c1:t.n<=i:=by simpa using e
  obtain rfl:i=t.n:=by omega
  exact⟨_,_,.refl,rfl,t.n,os,kb,g4,rfl,.inl ⟨rfl,rfl⟩⟩
 have aL:i<t.n:=by simpa using e
 have bi:i<t.ns.length:=by omega
 obtain⟨ad,bR,bh⟩:=au.aU.row aP.c0 aL bi;obtain⟨d,ai⟩:∃ d,t.ns[i]=d:=⟨_,rfl⟩;have er:d∈t.ns:=by rw[<-ai];exact cO bi
 have ph:=au.ns d er;have dP:=ph.kn;obtain⟨fQ,dG,j'⟩:=h.ns d er;rw[ai]at bh;have oj:t.ns.take (i+1)=t.ns.take i++[d]:=by rw[g9 bi,ai]
 have DB:∀ (b:Nat) (L:List Nat),((xs++n3 kb (t.ns.take i)).flatMap aP.cells)++(sN b L d).cells=(xs++n3 (kb++[(b,L)]) (t.ns.take (i+1))).flatMap aP.cells:=λb L=>by rw[oj,aiN I7,<-fN,lr];simp
 have next:∀ (b:Nat) (L:List Nat) (dC:bn),L=k6 ds xs.length d->(d.k=3->0<=cV d.t ds 0)->dC.n=os.n+1->dC.ok 9 ((xs++n3 kb (t.ns.take i)).flatMap aP.cells++(sN b L d).cells)->Fm ds xs t (i+1) dC (kb++[(b,L)]):=λb L dC b1 aw av bb=>by
  refine⟨aL,by omega,by rw[<-DB];exact bb,?_,λn av=>?_⟩;·rw[gg,g4.kb,oj,gg,b1];rfl
  ·rw[oj]at av;rcases en.1 av with av | av
   ·exact g4.find n av
   ·rw[kh.1 av];exact aw
 refine a6.mk ad i bR rfl aL ?_;refine aJ.mk _ (bh _) ?_;refine qU.mk d.kn d.kn rfl rfl (b6 _) (by show 8*d.kn<=_;omega) (by omega) ?_;refine cz.mk λpT aiQ aiR=>?_;refine cD.inv (ι:=Nat) (λj=>{ bA:=[(0,.val (ptr bt)),(4,.lit false),(5,.val (.int .i64 zZ.n)),(7,.ref 7 0),(8,.val (.slice (some ⟨pT,0,none⟩) d.kn d.kn)),(18,.val (.slice t.a t.n t.c)),(19,.val (.int .i64 t.n)),(20,.val (.int .i64 i)),(29,.val (.slice d.kX d.kn d.j0)),(30,.val (.int .i64 d.kn)),(31,.val (.int .i64 j))],cl:=[(7,d.cells)],cj:=I,dx:=⟨pT,.cells ((d.kids.take j).map (λk=>bW (xs.length+k.toNat))++List.replicate (d.kn-j) (bW 0)).toArray 3 (0,0)⟩::m4 bt s (.slice fi ds.length ml) (.slice eG ds.length iM) os.val rwv::(os.aY 72++kb.map iO) }) (λj=>j<=d.kn) (λj=>d.kn-j) ?_ ?_
 ·refine⟨0,bj _,.AU ?_,PE,.cons rfl (.nil)⟩;have e:rowOf [bW 0] (d.kn*1)=List.replicate d.kn (bW 0):=by rw[Ax,hD]
  show(⟨pT,.cells (rowOf [bW 0] (d.kn*1)).toArray 3 (0,0)⟩:aC)::_=_;rw[e];rfl
 intro j al;refine aI.mk (λaz=>?_) (λaz=>?_)
 ·have OM:j<d.kn:=by simpa using az
  have ON:j<d.kids.length:=by omega
  obtain⟨ec,e6,eo⟩:=ph.aU.one (f:=λ(k:Int)=>Value.int .i64 k) OM ON;have amu:=fQ _ (cO ON);refine a6.mk ec j e6 rfl OM ?_;refine aJ.mk _ (eo _) ?_;refine aQ.mk ((xs.length+d.kids[j].toNat:Nat):Int) (e4 (by omega) (by omega)) ?_;refine a6.mk ⟨pT,0,none⟩ j rfl rfl OM ?_;refine cX.qe [] _ ((d.kids.take j).map (λk=>bW (xs.length+k.toNat))++List.replicate (d.kn-j) (bW 0)) _ rfl ?_ rfl ((d.kids.take (j+1)).map (λk=>bW (xs.length+k.toNat))++List.replicate (d.kn-(j+1)) (bW 0)) ?_ ?_;·rw[qM,ck,ei,nh,Gk];show 0+j*1+1<=_;omega
  ·have st:List.replicate (d.kn-j) (bW 0)=bW 0::List.replicate (d.kn-(j+1)) (bW 0):=by rw[show d.kn-j=(d.kn-(j+1))+1 from by omega,Hf]
   rw[st,g9 ON,gg,fN];exact Rz (k:=0+j*1) (by rw[ei,nh];omega)
  refine aQ.mk _ (bU (i:=j) (by omega)) ?_;exact⟨j+1,⟨by omega,by omega⟩,.refl,PE,.cons rfl (.nil)⟩
 have c1:d.kn<=j:=by simpa using az
 obtain rfl:j=d.kn:=by omega
 have xq:(d.kids.take d.kn).map (λk=>bW (xs.length+k.toNat))++List.replicate (d.kn-d.kn) (bW 0)=(d.kids.map λk=>xs.length+k.toNat).map bW:=by rw[gv (by omega),zh];simp[Function.comp_def]
 rw[xq];refine aI.mk (λag=>?_) (λag=>?_)
 ·have Fo:d.k=3:=cr ag;refine cL.draw aS rfl rfl rfl ?_;refine aJ.mk _ (zX (j:=1) (.tail _ (.head _)) (by decide)) ?_;refine aT.whole _ (aiJ h.db d.t) ?_;rintro v I' M' -⟨rfl,rfl,rfl⟩;refine aI.mk (λct=>?_) (λct=>?_)
  ·have W3:cV d.t ds 0<0:=cr ct;exact⟨_,_,.sub (.cons _ (.refl _)) .refl,rfl,i,os,kb,g4,rfl,.inr ⟨rfl,d,er,Fo,W3⟩⟩
  have W3:¬ cV d.t ds 0<0:=b' ct;have u9:=Hv ds 0 (by omega:0<=cV d.t ds 0);obtain⟨q,aE⟩:∃ q:Nat,cV d.t ds 0=(q:Int):=⟨(cV d.t ds 0).toNat,by omega⟩;have fr:q<ds.length:=by omega
  have Ij:q<(gM 0 ds).length:=by rw[y2];exact fr
  obtain⟨ac,Fp,mg⟩:=h.rt.one (f:=bW) fr Ij;have B2:[(gM 0 ds)[q]]=k6 ds xs.length d:=by rw[k6,fA Fo,ba,aE];simp[cQ,Ij]
  refine aJ.mk _ (zX (j:=2) (.tail _ (.head _)) (by decide)) ?_;refine a6.mk ac q Fp aE fr ?_;refine aJ.mk _ (mg _) ?_;refine cz.mk λFq amv amw=>?_;refine cL.draw aS rfl rfl rfl ?_;refine aJ.mk _ (zX (j:=3) (.tail _ (.tail _ (.head _))) (by decide)) ?_;refine cz.mk λbZ gb ig=>?_;intro G jG;refine s4.wY aS rfl (e:=72) rfl rfl rfl os OL (w3 (jG _ (by simp[Op.operands,Call.operands])) rfl) (w3 (jG _ (by simp[Op.operands,Call.operands])) rfl) (cs:=(sN Fq [(gM 0 ds)[q]] d).cells) rfl rfl ([iO (Fq,[(gM 0 ds)[q]]),⟨pT,.cells ((d.kids.map λk=>xs.length+k.toNat).map bW).toArray 3 (0,0)⟩,m4 bt s (.slice fi ds.length ml) (.slice eG ds.length iM) os.val rwv]) (kb.map iO) rfl (by omega) (by show(os.n+1)*96<=_;omega) ?_;intro dC U aa aK;refine cX.mk (⟨bZ,_⟩::[iO (Fq,[(gM 0 ds)[q]]),⟨pT,.cells ((d.kids.map λk=>xs.length+k.toNat).map bW).toArray 3 (0,0)⟩]) (dC.aY 72++kb.map iO) _ _ rfl rfl (bB rfl) rfl ?_;refine aQ.mk _ (bU (i:=i) (by omega)) ?_;refine⟨(i+1,dC,kb++[(Fq,[(gM 0 ds)[q]])]),⟨next _ _ _ B2 (λ_=>by omega) U aK,by simp only;omega⟩,.sub (M1:=iO (Fq,[(gM 0 ds)[q]])::m4 bt s (.slice fi ds.length ml) (.slice eG ds.length iM) dC.val rwv::(dC.aY 72++kb.map iO)) (.cons _ (.cons_cons _ (.cons _ (.refl _)))) (.perm (W1 _ _ _ _) .refl),nb,.nil⟩
 ·have Fo:¬ d.k=3:=b' ag;have B2:(d.kids.map λk=>xs.length+k.toNat)=k6 ds xs.length d:=by rw[k6,b8 Fo,a5]
  have aiS:(d.kids.map λk=>xs.length+k.toNat).length=d.kn:=by rw[ei,dP]
  rw[<-aiS];refine cL.draw aS rfl rfl rfl ?_;refine aJ.mk _ (zX (j:=3) (.tail _ (.head _)) (by decide)) ?_;refine cz.mk λbZ gb ig=>?_;intro G jG;refine s4.wY aS rfl (e:=72) rfl rfl rfl os OL (w3 (jG _ (by simp[Op.operands,Call.operands])) rfl) (w3 (jG _ (by simp[Op.operands,Call.operands])) rfl) (cs:=(sN pT (d.kids.map λk=>xs.length+k.toNat) d).cells) rfl rfl ([iO (pT,d.kids.map λk=>xs.length+k.toNat),m4 bt s (.slice fi ds.length ml) (.slice eG ds.length iM) os.val rwv]) (kb.map iO) rfl (by omega) (by show(os.n+1)*96<=_;omega) ?_;intro dC U aa aK;refine cX.mk (⟨bZ,_⟩::[iO (pT,d.kids.map λk=>xs.length+k.toNat)]) (dC.aY 72++kb.map iO) _ _ rfl rfl (bB rfl) rfl ?_;refine aQ.mk _ (bU (i:=i) (by omega)) ?_;refine⟨(i+1,dC,kb++[(pT,d.kids.map λk=>xs.length+k.toNat)]),⟨next _ _ _ B2 (λh=>absurd h Fo) U aK,by simp only;omega⟩,.sub (M1:=iO (pT,d.kids.map λk=>xs.length+k.toNat)::m4 bt s (.slice fi ds.length ml) (.slice eG ds.length iM) dC.val rwv::(dC.aY 72++kb.map iO)) (.cons _ (.refl _)) (.perm (W1 _ _ _ _) .refl),nb,.nil⟩
def a'.OO(d:a'):Value:=.agg #[.string d.name,.slice d.t.a d.t.n d.t.c,.int .i64 d.t.root]
def Fs:a':=⟨⟨#[]⟩,⟨[],none,0,0,0⟩⟩
def pU(l:List a')(m:Nat):List (List Value):=(List.range m).reverse.map λi:Nat=>[.int .i64 (i:Int),(l.getD i Fs).OO]
def aiT(l:List a')(m:Nat):pU l (m+1)=[.int .i64 m,(l.getD m Fs).OO]::pU l m:=by unfold pU;rw[zx,List.reverse_append,List.reverse_singleton,List.singleton_append,dA]
def OP(l:List a')(m:Nat):(pU l m).length=m:=by simp[pU]
def aiU(l:List a'){k:Nat}(ae:k<m):(pU l m)[k]'(by rw[OP];exact ae)=[.int .i64 ((m-1-k:Nat):Int),(l.getD (m-1-k) Fs).OO]:=by simp only[pU,jJ,List.getElem_reverse,qJ,mb]
def aiV(a:Option Addr)(n c:Nat):Spec Tryz.prog 97 [.slice a n c] I [] λr I' M'=>∃ b,r=.func (.func 133) #[] #[ptr b]/\I' b=some (.cells #[.slice a n c] 28 (0,0))/\(∀ b o,I b=some o->I' b=some o)/\M'=[]:=by refine bC [1] aS Tryz.func97 rfl rfl rfl ?_;intro B aq;refine cz.mk λg ar wE=>?_;exact⟨_,_,.pZ rfl (by simp) .refl,g,rfl,tm ..,ri ar,rfl⟩
def aiW{g:b3}(ar:g.ok I){b:Nat}(af:I b=some (.cells #[.slice g.a g.n g.c] 28 (0,0))) :
  Iter Tryz.prog 133 [ptr b] I (pU g.ds g.n):=by
 intro y R ra to dd M0 nB jh;refine Al [] aS Tryz.func133 rfl rfl rfl ?_;intro B aq;have ny:=ar.aU.cap;have amx:=ar.n;have bh:∀ (c8:aN) (M:List aC),(∀ b o,I b=some o->c8 b=some o)->bE c8 M ((⟨b,0,none⟩:Addr).add 0) 1 [.slice g.a g.n g.c]:=λc8 M cn=>⟨rfl,_,_,_,.inl (cn _ _ af),rfl,rfl⟩;refine aJ.mk _ (bh _ _ nB) ?_;refine aQ.mk ((g.n:Int)-1) (by rw[wrap_i64 (by unfold gj;omega)]) ?_;refine cD.inv (ι:=Nat×Nat×aN×List aC) (λx=>{ bA:=[(0,.val (.func (.yield y) #[] #[])),(1,.val (ptr b)),(3,.val (.int .i64 ((x.1:Int)-1)))],cj:=x.2.2.1,dx:=x.2.2.2 }) (λx=>x.1<=g.n/\(∀ b o,I b=some o->x.2.2.1 b=some o)/\R x.2.1 x.2.2.1 x.2.2.2/\x.2.1<=(pU g.ds g.n).length/\(pU g.ds g.n).drop x.2.1=pU g.ds x.1) (λx=>x.1) ?_ ?_
 ·exact⟨(g.n,0,dd,M0),⟨by simp,nB,jh,by simp,rfl⟩,.refl,da,.nil⟩
 ·rintro⟨m,k,c8,M1⟩⟨hm,cn,h5,dG,fR⟩;simp only at hm cn h5 dG fR;refine aI.mk (λh=>?_) (λh=>?_)
  ·have aL:(0:Int)<=(m:Int)-1:=cr h;obtain⟨m,rfl⟩:∃ q,m=q+1:=⟨m-1,by omega⟩;have ax:((m+1:Nat):Int)-1=(m:Int):=by omega
   obtain⟨ad,bR,Du⟩:=(ar.aU.mono cn).row a'.c0 (j:=m) (by omega) (by omega);rw[aiT]at fR;obtain⟨ae,ah,lC⟩:=drop_cons fR;refine aJ.mk _ (bh _ _ cn) ?_;refine a6.mk ad m bR ax (by omega) ?_;refine aJ.mk _ (Du _) ?_;refine be.yield rfl (by simp) rfl rfl ?_;have aG:=to k ae c8 M1 cn h5;rw[ah]at aG;have az:g.ds.getD m Fs=g.ds[m]:=by simp[cQ,show m<g.ds.length by omega]
   rw[az,<-ax]at aG;refine CT.mk M1 [] _ (by simp) aG ?_;rintro v dQ dt jM (⟨rfl,nu⟩ | ⟨rfl,ab⟩);·refine aI.mk (λh=>by simp at h) (λ_=>?_);refine aQ.mk ((m:Int)-1) (by rw[wrap_i64 (by unfold gj;omega)];omega) ?_;exact⟨(m,k+1,dQ,dt),⟨⟨by simp only;omega,λb o h=>jM b o (cn b o h),nu,ae,lC⟩,by simp only;omega⟩,.perm (by simp) .refl,da,.nil⟩
   ·refine aI.mk (λ_=>?_) (λh=>by simp at h);exact⟨_,_,.perm (by simp) .refl,.inr ab⟩
  ·have c1:¬ (0:Int)<=(m:Int)-1:=b' h;obtain rfl:m=0:=by omega
   refine⟨_,_,.refl,.inl ?_⟩;have qn:k=(pU g.ds g.n).length:=by have:(pU g.ds g.n).drop k=[]:=fR.trans (by simp[pU]);have:=Gl.1 this;omega
   rw[<-qn];exact h5
structure aiX(ds:List a')(gN nn h9 dj m:Nat)(L:List Nat)(cN:List Value)(M:List aC):Prop where
 M:M=[⟨h9,.cells [.slice (some ⟨gN,0,none⟩) L.length nn].toArray 70 (0,0)⟩,⟨dj,.cells [.int .i64 ((cw (ds.take m):Nat):Int)].toArray 3 (0,0)⟩,cP gN cN]
 len:cN.length=nn
 at_:cN.take L.length=L.map bW
 iL:L.length+cw (ds.take m)=nn
 mem:∀ x,x∈L ↔ cw (ds.take m)<=x/\x<nn
 bS:L.Nodup
set_option maxRecDepth 100000 in
def aiY{g:b3}(ar:g.ok I){s:ByteArray}{na:Option Addr}{nn nc:Nat}(dB:I bt=some (.cells ([.string s,nv,rv,.slice na nn nc,rwv]:List Value).toArray 100 (0,0)))(Ft:nn=cw g.ds)(af:nn<=1048576) :
  Spec Tryz.prog 63 [ptr bt,g.val] I [] λv I' M'=>(∀ b o,I b=some o->I' b=some o)/\∃ (gN:Nat) (L:List Nat) (cN:List Value),v=.slice (some ⟨gN,0,none⟩) L.length nn/\cN.length=nn/\cN.take L.length=L.map bW/\L.length=nn/\(∀ x,x∈L ↔ x<nn)/\L.Nodup/\M'=[cP gN cN]:=by
 refine bC [5,6] aS Tryz.func63 rfl rfl rfl ?_;intro B aq;have js:=ar.n;have W4:∀ {I':aN} {M:List aC},(∀ b o,I b=some o->I' b=some o)->bE I' M ((⟨bt,0,none⟩:Addr).add 3) 1 [.slice na nn nc]:=λh=>by rw[d' _ rfl];exact⟨rfl,_,_,_,.inl (h _ _ dB),rfl,rfl⟩
 refine aJ.mk _ (W4 λ_ _ h=>h) ?_;refine qU.mk 0 nn rfl rfl (bj _) (by show 8*nn<=_;omega) (by omega) ?_;refine cz.mk λgN amy amz=>?_;refine cz.mk λh9 K7 amA=>?_;refine cX.mk [] [⟨gN,_⟩] _ _ rfl rfl (bB rfl) rfl ?_;refine aJ.mk _ (W4 λ_ _ h=>h) ?_;refine cz.mk λdj Z5 amB=>?_;refine cX.mk [] [⟨h9,_⟩,⟨gN,_⟩] _ _ rfl rfl (bB rfl) rfl ?_;refine aT.mk [] _ _ (.refl _) (aiV g.a g.n g.c) ?_;rintro v c8 M1 cn⟨ca,rfl,yJ,-,rfl⟩;have jn:=ar.mono cn;have vl:cw (g.ds.take g.n)=nn:=by rw[gv (by omega),Ft]
 refine cL.range (M1:=[⟨h9,.cells [.slice (some ⟨gN,0,none⟩) 0 nn].toArray 70 (0,0)⟩,⟨dj,.cells [.int .i64 (nn:Nat)].toArray 3 (0,0)⟩,cP gN (rowOf [bW 0] (nn*1))]) aS rfl rfl rfl (.perm (.swap _ _ _) .refl) (aiW jn yJ) (λvs h=>?_) (λk I' M'=>∃ (L:List Nat) (cN:List Value),(∀ b o,c8 b=some o->I' b=some o)/\aiX g.ds gN nn h9 dj (g.n-k) L cN M') (λex I' M'=>False) ⟨[],rowOf [bW 0] (nn*1),λ_ _ h=>h,⟨?_,by simp[rowOf],rfl,by rw[xd,vl];simp,λx=>?_,xP⟩⟩ ?_ ?_ (λex I' M' _ h=>h.elim)
 ·obtain⟨p,_,rfl⟩:=du.1 h;rfl
 ·rw[xd,vl];rfl
 ·rw[xd,vl];simp
 ·rintro k ae I' M' -⟨L,cN,hle,aZ⟩l B aq kr;obtain⟨rfl,nI,qA,sd,u6,DA⟩:=aZ;rw[OP]at ae;have ah:=aiU g.ds ae;rw[ah];obtain⟨m,hm⟩:∃ m,g.n-k=m+1:=⟨g.n-k-1,by omega⟩;have re:g.n-1-k=m:=by omega
  have l8:g.n-(k+1)=m:=by omega
  have uT:m<g.ds.length:=by omega
  have Kf:g.ds.getD m Fs=g.ds[m]:=by simp[cQ,uT]
  have oj:=LU uT;have kz:=(ar.ds _ (cO uT)).t.n;have n9:=LV g.ds (m+1);rw[re,Kf];rw[hm]at sd u6;simp only[hm];generalize g.ds[m]=d at oj kz;have wM:∀ {M:List aC} {e:Nat},(⟨dj,.cells [.int .i64 (e:Int)].toArray 3 (0,0)⟩:aC)∈M->bE I' M ⟨dj,0,none⟩ 1 [.int .i64 (e:Int)]:=λa7=>⟨rfl,_,_,_,.inr ⟨_,a7,rfl,rfl⟩,rfl,rfl⟩;have aiZ:∀ {M:List aC} {v:Value},(⟨h9,.cells [v].toArray 70 (0,0)⟩:aC)∈M->bE I' M ⟨h9,0,none⟩ 1 [v]:=λa7=>⟨rfl,_,_,_,.inr ⟨_,a7,rfl,rfl⟩,rfl,rfl⟩;refine aJ.mk _ (wM (e:=cw (g.ds.take (m+1))) (.tail _ (.head _))) ?_;refine aQ.mk ((cw (g.ds.take m):Nat):Int) (e4 (by omega) (by omega)) ?_;refine cD.inv (ι:=Nat×List Value) (λx=>{ bA:=[(5,.val (ptr h9)),(6,.val (ptr dj)),(9,.val (.int .i64 (cw (g.ds.take m):Nat))),(10,.val (.int .i64 ((cw (g.ds.take m)+x.1:Nat):Int)))],cl:=[],cj:=I',dx:=[⟨h9,.cells [.slice (some ⟨gN,0,none⟩) (L++List.range' (cw (g.ds.take m)) x.1).length nn].toArray 70 (0,0)⟩,⟨dj,.cells [.int .i64 ((cw (g.ds.take (m+1)):Nat):Int)].toArray 3 (0,0)⟩,cP gN x.2] }) (λx=>x.1<=d.t.n/\x.2.length=nn/\x.2.take (L++List.range' (cw (g.ds.take m)) x.1).length=(L++List.range' (cw (g.ds.take m)) x.1).map bW) (λx=>d.t.n-x.1) ?_ ?_;·exact⟨(0,cN),⟨bj _,nI,by simpa using qA⟩,.AU (by simp),dr,.nil⟩
  rintro⟨x,c⟩⟨ab,dL,iC⟩;simp only at ab dL iC;have o6:(L++List.range' (cw (g.ds.take m)) x).length=L.length+x:=by rw[ck,List.length_range']
  refine aJ.mk _ (wM (e:=cw (g.ds.take (m+1))) (.tail _ (.head _))) ?_;refine aI.mk (λe=>?_) (λe=>?_)
  ·have aL:x<d.t.n:=by have a0:((cw (g.ds.take m)+x:Nat):Int)<((cw (g.ds.take (m+1)):Nat):Int):=cr e;omega
   have fH:List.range' (cw (g.ds.take m)) (x+1)=List.range' (cw (g.ds.take m)) x++[cw (g.ds.take m)+x]:=by rw[List.range'_concat];simp
   have tr:(L++List.range' (cw (g.ds.take m)) (x+1)).length=(L++List.range' (cw (g.ds.take m)) x).length+1:=by rw[fH,<-fN,ck];rfl
   obtain⟨qk,ql,rp⟩:=OF (L:=L++List.range' (cw (g.ds.take m)) x) iC (by omega) (cw (g.ds.take m)+x);refine aJ.mk _ (aiZ (.head _)) ?_;refine cz.mk λbZ gb ig=>?_;refine be.jU aS rfl (by simp) (e:=3) rfl rfl rfl (g:=gN) (n:=(L++List.range' (cw (g.ds.take m)) x).length) (c:=nn) (cur:=c) rfl (show c.length=nn*1 by omega) (ad:=⟨bZ,0,none⟩) (m:=1) (c':=1) rfl (news:=[bW (cw (g.ds.take m)+x)]) ⟨rfl,_,_,_,.inr ⟨_,.head _,rfl,rfl⟩,rfl,rfl⟩ rfl (by omega) [_,_,_] [] rfl ?_;refine cX.mk [_] [_,_] _ _ rfl rfl (bB rfl) rfl ?_;refine aQ.mk ((cw (g.ds.take m)+(x+1):Nat):Int) (e4 (by omega) (by omega)) ?_;refine⟨(x+1,bw c ((L++List.range' (cw (g.ds.take m)) x).length*1) [bW (cw (g.ds.take m)+x)]),⟨⟨aL,qk.trans dL,?_⟩,by simp only;omega⟩,.sub (.cons _ (.refl _)) (.AU ?_),dr,.nil⟩;·simp only;rw[fH,<-fN];exact ql
   ·simp only;rw[tr];rfl
  ·have c1:d.t.n<=x:=by have a0:¬ ((cw (g.ds.take m)+x:Nat):Int)<((cw (g.ds.take (m+1)):Nat):Int):=b' e;omega
   obtain rfl:x=d.t.n:=by omega
   refine cX.mk [_] [_] _ _ rfl rfl (bB rfl) rfl ?_;refine⟨_,_,.refl,L++List.range' (cw (g.ds.take m)) d.t.n,c,hle,⟨?_,dL,iC,?_,λy=>?_,?_⟩⟩;·rw[l8];rfl
   ·rw[l8,o6];omega
   ·rw[l8,en,u6,List.mem_range'_1];omega
   ·refine xM.2 ⟨DA,List.nodup_range',λa aD b af gd=>?_⟩;rw[u6]at aD;rw[List.mem_range'_1]at af;omega
 ·rintro I' M' -⟨L,cN,hle,aZ⟩;rw[OP,zh]at aZ;obtain⟨rfl,nI,qA,sd,u6,DA⟩:=aZ;have G6:cw (g.ds.take 0)=0:=rfl;rw[G6]at sd u6;refine aJ.mk _ ⟨rfl,_,_,_,.inr ⟨_,.head _,rfl,rfl⟩,rfl,rfl⟩ ?_;refine⟨_,_,.sub (.cons _ (.cons _ (.refl _))) .refl,λb o h=>hle _ _ (cn _ _ h),gN,L,cN,rfl,nI,qA,by omega,λx=>by rw[u6];omega,DA,rfl⟩
def oW(J:aN)(os:bn)(e:Nat):aN:=match os.a with
 |some g=>ins J g (.cells os.cur.toArray e (0,0))| none=>J
def Fu(aw:∀ g,os.a=some g->g ∉ bP):hP bP J (os.aY e++post) (oW J os e) post:=by
 obtain⟨a,n,c,cur⟩:=os;cases a with
 |none=>exact .refl| some g=>exact .pZ rfl (aw g rfl) .refl
def B3(h:∀ x∈os.aY e++M,J x.num=none):∀ b o,J b=some o->oW J os e b=some o:=by
 obtain⟨a,n,c,cur⟩:=os;cases a with
 |none=>exact λ_ _ h=>h
 |some g=>exact ri (h ⟨g,_⟩ (.head _))
def B4{b:Nat}{xs:List Value}(h:os.ok size xs)(af:os.n*b<=140737488355328):dW (oW J os e) (os.a.map λg=>⟨g,0,none⟩) os.n os.c size b xs:=by
 obtain⟨a,n,c,cur⟩:=os;cases a with
 |none=>obtain⟨U,aa⟩:=h.nil rfl;exact⟨h.len,⟨by simp only at U aa |-;omega,af⟩,.inl U⟩
 |some g=>obtain⟨U,aa,ag,aK⟩:=h.cap g rfl;exact⟨h.len,⟨aa,af⟩,.inr ⟨⟨g,0,none⟩,rfl,rfl,cur.toArray,e,(0,0),tm ..,by simpa using aK⟩⟩
def B5(I:aN):List (Nat×List Nat)->aN
 |[]=>I| p::L=>B5 (ins I p.1 (.cells (p.2.map bW).toArray 3 (0,0))) L
def W5{bP:List Nat}{M:List aC}:∀ {I:aN} (kb:List (Nat×List Nat)),(∀ p∈kb,p.1 ∉ bP)->hP bP I (kb.map iO++M) (B5 I kb) M
 |I,[],_=>.refl| I,p::L,h=>.pZ rfl (h p (.head _)) (W5 L λq aE=>h q (.tail _ aE))
def W6:∀ {I:aN} (kb:List (Nat×List Nat)),(∀ p∈kb,I p.1=none)->(kb.map (·.1)).Nodup->(∀ b o,I b=some o->B5 I kb b=some o)/\∀ p∈kb,B5 I kb p.1=some (.cells (p.2.map bW).toArray 3 (0,0))
 |I,[],_,_=>⟨λ_ _ h=>h,λp aO=>by cases aO⟩
 |I,p::L,h,av=>by
  rw[dA,lg]at av;have a9:∀ q∈L,(ins I p.1 (.cells (p.2.map bW).toArray 3 (0,0))) q.1=none:=λq aE=>by unfold ins;rw[gh λe=>av.1 (du.2 ⟨q,aE,e⟩)];exact h q (.tail _ aE)
  obtain⟨U,aa⟩:=W6 L a9 av.2;refine⟨λb o af=>U b o (ri (h p (.head _)) b o af),λq aE=>?_⟩;rcases dE.1 aE with rfl | aE;·exact U _ _ (tm ..)
  ·exact aa q aE
def vN(x:oA):oA:=⟨x.d.BW,x.asks⟩
def jX(g:b3)(s:ByteArray):cq:=⟨(oE g.ds).map vN,s,0⟩
def ai0{g:b3}(s:ByteArray){k:Nat}(ae:k<(oE g.ds).length):(jX g s).at_ k=vN (oE g.ds)[k]:=by simp[cq.at_,jX,cQ,ae]
def I8(ds:List a'):(oE ds).length=cw ds:=by simp[oE,Hs]
def W7{g:b3}(hm:lJ g)(fQ:∀ d∈g.ds,∀ n∈d.t.ns,0<=n.k){s:ByteArray}(ao:s.size<=4096):(∀ k,zR (jX g s) k)/\∀ k,k<cw g.ds->ur (jX g s) (cw g.ds) k:=by
 have bb:=LR hm fQ (s:=s) (at_:=0) (bj _) ao;have hlen:(vk g s 0).ns.length=cw g.ds:=I8 g.ds;have pq:∀ k (ae:k<cw g.ds),∃ a:oA,LN (vk g s 0) a/\(jX g s).at_ k=vN a:=λk ae=>by
  have jt:k<(oE g.ds).length:=by rw[I8];exact ae
  exact⟨_,bb.ns _ (cO jt),ai0 s jt⟩
 refine⟨λk=>?_,λk ae=>?_⟩
 ·by_cases ae:k<cw g.ds
  ·obtain⟨a,aD,e⟩:=pq k ae;rw[show zR (jX g s) k ↔ zR (jX g s) k from Iff.rfl];refine⟨by rw[e];exact aD.k.1,λU=>?_,by rw[e];exact aD.k.2,λbD=>?_⟩
   ·rw[e]at U |-;have:=aD.one U
    match ab:a.asks,this with
    |[q],_=>exact⟨q,rfl⟩
   ·rw[e]at bD |-;have:=aD.l3 bD;show a.d.hi=-1\/(0<=a.d.hi/\a.d.hi<=99);omega
  ·have e:(jX g s).at_ k=⟨St,[]⟩:=by
    have:(oE g.ds).length<=k:=by rw[I8];omega
    simp[cq.at_,jX,cQ,this]
   refine⟨by rw[e];exact Int.le_refl 0,λU=>?_,by rw[e];show(0:Int)<10;omega,λbD=>?_⟩;·rw[e]at U;have aa:(0:Int)=3\/6<=(0:Int):=U;omega
   ·rw[e]at bD;have aa:(0:Int)=6:=bD;omega
 ·obtain⟨a,aD,e⟩:=pq k ae;refine⟨by rw[e];exact aD.k.1,λU=>?_,λq aE=>?_,λbD=>?_⟩
  ·rw[e]at U |-;have aa:=aD.one U;show a.asks.getD 0 0<_;have az:a.asks.getD 0 0=a.asks[0]:=by simp[cQ,aa]
   rw[az,<-hlen];exact aD.asks _ (cO (by omega))
  ·rw[e]at aE;rw[<-hlen];exact aD.asks q aE
  ·rw[e]at bD |-;exact(aD.l3 bD).2.1
def OQ(c:bG):bY:=⟨c.n,c.aW,bif Nat.beq c.aB 3 then 2 else bif Nat.beq c.aB 2 then 1 else 0,0⟩
def ai1{c:bG}(h:iX z a c):(OQ c).ce=c:=by
 rcases h with rfl | rfl | ⟨h,-⟩
 ·rfl
 ·rfl
 ·obtain⟨n,aW,aB⟩:=c;simp only at h;subst h;rfl
open Classical in
noncomputable def uu(P:cq)(N:Nat)(k a:Nat):bY:=if k<N/\a<=P.s.size then ic else OQ (bV P k a)
def I9{P:cq}{N k:Nat}(ae:k<N)(aD:a<=P.s.size):uu P N k a=ic:=dv ⟨ae,aD⟩
def ai2(P:cq)(N:Nat):hY P N (uu P N):=by
 have gR:∀ k a,¬ (k<N/\a<=P.s.size)->(uu P N k a).ce=bV P k a:=λk a h=>by unfold uu;rw[dc h];exact ai1 (sJ P k a)
 refine⟨λk a=>?_,λk a h=>?_,λk a ae aD _ _ h=>?_,λk a ae aD=>?_,gR⟩
 ·unfold uu;split
  ·exact bj _
  ·unfold OQ;cases Nat.beq (bV P k a).aB 3<;>cases Nat.beq (bV P k a).aB 2<;>simp
 ·by_cases e:k<N/\a<=P.s.size
  ·rw[I9 e.1 e.2]at h;exact absurd rfl h
  ·exact(gR k a e).symm
 ·rw[I9 ae aD]at h;exact absurd rfl h
 ·rw[I9 ae aD];exact⟨bj _,bj _,bj _⟩
structure vO(I:aN)(g:b3)(s:ByteArray)(t:eV)(T:Nat->Nat->bY):Prop where
 ok:t.ok I T
 inv:hY t.P t.nn T
 P:t.P=jX g s
 ts:t.s=s
 all:∀ k b,(T k b).ce=bV (jX g s) k b
 n0:t.n0=t.nn
 nn:t.nn=cw g.ds
 rv:∃ eG iM,t.rv=.slice eG g.n iM/\dW I eG g.n iM 1 8 ((gM 0 g.ds).map bW)
 nv:∃ fi ml,t.nv=.slice fi g.n ml/\dW I fi g.n ml 1 16 (g.ds.map vM)
def eV.ok.mono{T:Nat->Nat->bY}(h:t.ok I T)(a9:∀ b o,I b=some o->I' b=some o):t.ok I' T:=
 { h with aB:=a9 _ _ h.aB,ns:=h.ns.mono a9,me:=λy aG=>(h.me y aG).mono a9,rw:=h.rw.mono a9,cY:=λk ae aq=>(let ⟨cs,fU,aj,U,aa⟩:=h.cY k ae aq;⟨cs,fU,aj,a9 _ _ U,aa⟩) }
def vO.mono{g:b3}{s:ByteArray}{T:Nat->Nat->bY}(h:vO I g s t T)(a9:∀ b o,I b=some o->I' b=some o):vO I' g s t T:=by obtain⟨eG,iM,ax,az⟩:=h.rv;obtain⟨fi,ml,bc,ct⟩:=h.nv;exact { h with ok:=h.ok.mono a9,rv:=⟨eG,iM,ax,az.mono a9⟩,nv:=⟨fi,ml,bc,ct.mono a9⟩ }
def eV.ok.nT{T:Nat->Nat->bY}(h:t.ok I T)(a9:∀ b o,I b=some o->I' b=some o)(af:I' t.ev=some (.cells (t.cs T).toArray 107 (0,0))):({ t with n0:=t.nn }:eV).ok I' T:=by
 have hm:=h.mono a9;refine⟨hm.aB,hm.ns,hm.me,hm.I0,hm.mZ,hm.rw,hm.dO,λk ae aq=>?_,λk ae aq=>?_,hm.sz,hm.many⟩
 ·by_cases fQ:k<t.n0
  ·exact hm.cY k ae fQ
  ·refine⟨_,_,_,by rw[hm.new k ae (by omega)];exact af,?_⟩;rw[hm.new k ae (by omega)];show((t.cs T).toArray.toList.drop ((k-t.n0)*(t.w*4))).take (t.w*4)=_;unfold eV.cs;rw[wx _ (t.w*4) (λj=>zT T _ t.w) _ (k-t.n0) (by rw[qJ];simp only at aq;omega),mb,AQ (by omega)];rfl
 ·have U:k<t.rows.length:=ae;have aa:=hm.MR;have ag:t.nn<=k:=aq;omega
def W8{J:aN}:∀ {kb:List (Nat×List Nat)} {ns:List aP},(∀ p∈kb,J p.1=some (.cells (p.2.map bW).toArray 3 (0,0))/\p.2.length<=1048576/\∀ x∈p.2,x<=1048576)->(∀ n∈ns,n.ok J)->∀ y∈n3 kb ns,y.ok J/\(∃ p∈kb,y.kids=p.2.map λ(k:Nat)=>(k:Int))/\∃ n∈ns,y.t=n.t
 |[],ns,_,_,y,aG=>by simp[n3]at aG
 |p::kb,[],_,_,y,aG=>by simp[n3]at aG
 |p::kb,n::ns,h,av,y,aG=>by
  have e:n3 (p::kb) (n::ns)=sN p.1 p.2 n::n3 kb ns:=rfl;rw[e]at aG;rcases dE.1 aG with rfl | aG;·obtain⟨U,aa,ag⟩:=h p (.head _);exact⟨aiL (av n (.head _)) U aa ag,⟨p,.head _,rfl⟩,n,.head _,rfl⟩
  ·obtain⟨i1,⟨q,i2,i3⟩,m,i4,i5⟩:=W8 (λq aE=>h q (.tail _ aE)) (λm hm=>av m (.tail _ hm)) y aG;exact⟨i1,⟨q,.tail _ i2,i3⟩,m,.tail _ i4,i5⟩
def W9:∀ {kb:List (Nat×List Nat)} {ns:List aP},kb.length=ns.length->(n3 kb ns).map aP.pn=List.zipWith (λp n=>⟨n.BW,p.2⟩) kb ns
 |[],[],_=>rfl| p::kb,n::ns,h=>by show(sN p.1 p.2 n).pn::(n3 kb ns).map aP.pn=_;rw[aiK,W9 (by simpa using h)];rfl
def W'{ds:List a'}{base:Nat}:∀ {kb:List (Nat×List Nat)} {ns:List aP},kb.map (·.2)=ns.map (k6 ds base)->List.zipWith (λ(p:Nat×List Nat) (n:aP)=>(⟨n.BW,p.2⟩:oA)) kb ns=ns.map (zY ds base)
 |[],[],_=>rfl| p::kb,n::ns,h=>by rw[dA,dA,uZ]at h;rw[List.zipWith_cons_cons,dA,W' h.2,h.1];rfl
def uv(ds:List a')(i:Nat):List oA:=(oD 0 (ds.take i)).map λp=>vN ⟨p.2,k6 ds p.1 p.2⟩
def Xa:∀ (b:Nat) (A B:List a'),oD b (A++B)=oD b A++oD (b+cw A) B
 |b,[],B=>by simp[oD,cw]
 |b,d::A,B=>by
  have e:cw (d::A)=d.t.ns.length+cw A:=by simp[cw]
  rw[p7,oD,oD,Xa _ A B,fN,e,mm]
def ai3{ds:List a'}{i:Nat}(hi:i<ds.length):uv ds (i+1)=uv ds i++ds[i].t.ns.map (zY ds (cw (ds.take i))):=by unfold uv;rw[g9 hi,Xa,gg,dK];congr 1;simp[oD,zY,vN]
def ai4(ds:List a'):uv ds ds.length=(oE ds).map vN:=by unfold uv oE;rw[List.take_length,oq];rfl
def ai5(ds:List a')(i:Nat):(uv ds i).length=cw (ds.take i):=by simp[uv,Hs]
def xI(ds:List a'):Nat->List bJ->List oA
 |_,[]=>[]| b,t::ts=>t.ns.map (zY ds b)++xI ds (b+t.ns.length) ts
def gf(ts:List bJ)(i:Nat):Nat:=((ts.take i).map λt=>t.ns.length).sum
def Ja{ts:List bJ}{i:Nat}(h:i<ts.length):gf ts (i+1)=gf ts i+ts[i].ns.length:=by unfold gf;rw[g9 h,gg,yy];simp only[dA,pi,oh,List.sum_nil,o0]
def ai6(t:bJ)(ts:List bJ)(i:Nat):gf (t::ts) (i+1)=t.ns.length+gf ts i:=by unfold gf;simp
def OR{ts:List bJ}:∀ {i j:Nat},i<=j->j<=ts.length->gf ts i<=gf ts j
 |i,0,h,_=>by
  obtain rfl:i=0:=by omega
  exact b6 _
 |i,j+1,h,al=>by
  by_cases e:i=j+1;·rw[e];exact b6 _
  ·have U:=OR (ts:=ts) (i:=i) (j:=j) (by omega) (by omega);rw[Ja (by omega:j<ts.length)];omega
def Xb{ds:List a'}:∀ {ts:List bJ} {b i j:Nat} (hi:i<ts.length) (al:j<ts[i].ns.length),(xI ds b ts)[gf ts i+j]?=some (zY ds (b+gf ts i) ts[i].ns[j])
 |t::ts,b,0,j,hi,al=>by have gm:j<t.ns.length:=al;rw[xI,show gf (t::ts) 0=0 from rfl,dK,kJ (by rw[ei];exact gm),xN,gu gm];rfl
 |t::ts,b,i+1,j,hi,al=>by have a2:=Xb (ds:=ds) (ts:=ts) (b:=b+t.ns.length) (i:=i) (j:=j) (by simpa using hi) (by simpa using al);rw[xI,ai6,ng (by rw[ei];omega),ei,show t.ns.length+gf ts i+j-t.ns.length=gf ts i+j by omega,a2,mm];rfl
def Xc(OS:List a'):∀ (b:Nat) (ds:List a'),xI OS b (ds.map (·.t))=(oD b ds).map λp=>vN ⟨p.2,k6 OS p.1 p.2⟩
 |_,[]=>rfl| b,d::ds=>by rw[dA,xI,oD,gg,oq,Xc OS _ ds];rfl
def Xd(ds:List a')(more:List bJ){i:Nat}(hi:i<=ds.length):gf (ds.map (·.t)++more) i=cw (ds.take i):=by unfold gf cw;rw[CN (by rw[ei];exact hi),<-List.map_take,oq];rfl
def cK.cells(c:cK):List Value:=[.int .i64 c.is,.int .i64 c.aW,.int .i64 c.n]
def cK.val(c:cK):Value:=.agg #[.int .i64 c.is,.int .i64 c.aW,.int .i64 c.n]
def cK.c0(c:cK):c.cells.length=3:=rfl
def oX(C:Nat->Nat->cK)(k w:Nat):List Value:=(List.range w).flatMap λa=>(C k a).cells
def Xe(C:Nat->Nat->cK)(k w:Nat):(oX C k w).length=w*3:=by unfold oX;rw[ji _ 3 λa=>rfl,qJ]
def ai7(C:Nat->Nat->cK)(k w:Nat)(aD:a<w):((oX C k w).drop (a*3)).take 3=(C k a).cells:=by unfold oX;rw[wx _ 3 (λa=>rfl) _ a (by rw[qJ];exact aD),mb]
def sO(C:Nat->Nat->cK)(w k b:Nat):aC:=⟨b,.cells (oX C k w).toArray 117 (0,0)⟩
def ew(C:Nat->Nat->cK)(w:Nat):Nat->List Nat->List aC
 |_,[]=>[]| k,b::bs=>sO C w k b::ew C w (k+1) bs
def Jb{C:Nat->Nat->cK}{w:Nat}:∀ {bs:List Nat} {k j:Nat} (h:j<bs.length),ew C w k bs=ew C w k (bs.take j)++sO C w (k+j) bs[j]::ew C w (k+j+1) (bs.drop (j+1))
 |b::bs,k,0,_=>rfl| b::bs,k,j+1,h=>by have:=Jb (C:=C) (w:=w) (bs:=bs) (k:=k+1) (j:=j) (by simpa using h);rw[ew,this,oe,ew,List.drop_succ_cons,CO,p7,show k+1+j=k+(j+1) by omega]
def OT{C:Nat->Nat->cK}{w q a:Nat}{c:cK}:∀ {bs:List Nat} {k:Nat},q<k\/k+bs.length<=q->ew (kc C q a c) w k bs=ew C w k bs
 |[],_,_=>rfl| b::bs,k,h=>by have aa:ew (kc C q a c) w (k+1) bs=ew C w (k+1) bs:=OT (by rw[c5]at h;omega);rw[ew,ew,aa];congr 1;unfold sO oX;congr 4;funext x;rw[Fc (by rw[c5]at h;omega)]
def ai8{k w:Nat}(aD:a<w)(aA:bw (C k a).cells o vs=c.cells)(ap:o+vs.length<=3):bw (oX C k w) (a*3+o) vs=oX (kc C k a c) k w:=by
 have e:∀ D:Nat->Nat->cK,oX D k w=((List.range w).map (D k)).flatMap cK.cells:=λD=>by unfold oX;rw[BY]
 have ay:a<((List.range w).map (C k)).length:=by simpa using aD
 rw[e,e,Hq cK.cells 3 cK.c0 _ a ay o vs ap c (by rw[jJ,mb];exact aA)];congr 1;apply wi
 ·simp
 intro i U aa;have ag:((List.range w).map (kc C k a c k))[i]=kc C k a c k i:=by rw[jJ,mb]
 rw[ag,Gp];rcases pS C k a c k i with⟨-,rfl,az⟩ | ⟨bk,az⟩
 ·rw[az,dv rfl]
 ·rw[az,dc λx=>bk ⟨rfl,x.symm⟩,jJ,mb]
def ai9{w k:Nat}(ae:k<bs.length):ew (kc C k a c) w 0 bs=ew C w 0 (bs.take k)++sO (kc C k a c) w k bs[k]::ew C w (k+1) (bs.drop (k+1)):=by rw[Jb ae,dK];rw[OT (C:=C) (k:=0) (bs:=bs.take k) (by rw[nh];omega),OT (C:=C) (k:=k+1) (by omega)]
structure ez where
 bt:Nat
 s:ByteArray
 g:b3
 ts:List bJ
 ev:Option Addr
 OU:Nat
 B6:Option Addr
 Fv:Nat
 qN:List Value
 bs:List Nat
def ez.w(t:ez):Nat:=t.s.size+1
def ez.P(t:ez):cq:=⟨xI t.g.ds 0 t.ts,t.s,0⟩
def ez.N(t:ez):Nat:=gf t.ts t.ts.length
def ez.bT(t:ez):List Value:=[.string t.s,.slice t.g.a t.g.n t.g.c,.slice t.ev t.ts.length t.OU,.slice t.B6 t.ts.length t.Fv]
structure ez.ok(I:aN)(t:ez):Prop where
 aB:I t.bt=some (.cells t.bT.toArray 115 (0,0))
 g:t.g.ok I
 lF:dW I t.ev t.ts.length t.OU 2 32 (t.ts.flatMap bJ.cells)
 ts:∀ x∈t.ts,x.ok I
 cl:dW I t.B6 t.ts.length t.Fv 1 24 t.qN
 md:∀ i (h:i<t.ts.length),∃ ie eb,t.qN[i]?=some (.slice ie t.ts[i].ns.length eb)/\dW I ie t.ts[i].ns.length eb 1 24 ((List.range t.ts[i].ns.length).map λj=>Value.slice (some ⟨t.bs.getD (gf t.ts i+j) 0,0,none⟩) t.w t.w)
 A4:t.bs.length=t.N
 rt:∀ x∈t.ts,y1 x
 db:∀ x∈t.ts,∀ n∈x.ns,n.k=3->0<=cV n.t t.g.ds 0
 pre:∃ more,t.ts=t.g.ds.map (·.t)++more
 sz:t.s.size<=4096
def ez.ok.mono{t:ez}(h:t.ok I)(a9:∀ b o,I b=some o->I' b=some o):t.ok I':=
 { h with aB:=a9 _ _ h.aB,g:=h.g.mono a9,lF:=h.lF.mono a9,ts:=λx ab=>(h.ts x ab).mono a9,cl:=h.cl.mono a9,md:=λi hi=>(let ⟨ie,eb,U,aa⟩:=h.md i hi;⟨ie,eb,U,aa.mono a9⟩) }
section
variable{I:aN}{t:ez}
def ez.ok.e5(h:t.ok I)(al:j<4):bE I M ((⟨t.bt,0,none⟩:Addr).add j) 1 [t.bT.getD j undef]:=by
 rw[d' _ rfl];refine⟨rfl,_,_,_,.inl h.aB,?_,rfl⟩
 match j,al with
 |0,_=>rfl| 1,_=>rfl| 2,_=>rfl| 3,_=>rfl
def ez.no(t:ez)(i j:Nat):Nat:=gf t.ts i+j
def ez.Xf{i:Nat}(hi:i<t.ts.length)(al:j<t.ts[i].ns.length):t.no i j<t.N:=by have U:=OR (ts:=t.ts) (i:=i+1) (j:=t.ts.length) hi (b6 _);rw[Ja hi]at U;unfold ez.no ez.N;omega
def ez.at_{i:Nat}(hi:i<t.ts.length)(al:j<t.ts[i].ns.length):t.P.at_ (t.no i j)=zY t.g.ds (gf t.ts i) t.ts[i].ns[j]:=by have h:=Xb (ds:=t.g.ds) (b:=0) hi al;rw[dK]at h;unfold cq.at_;rw[cQ];show((xI t.g.ds 0 t.ts)[gf t.ts i+j]?).getD _=_;rw[h];rfl
def ez.ok.body(h:t.ok I){i:Nat}(hi:i<t.ts.length):∃ ad,t.ev=some ad/\∀ M,bE I M (ad.add (i*2)) 2 t.ts[i].cells:=by obtain⟨ad,U,aa⟩:=dW.row (f:=bJ.cells) (λ_=>rfl) h.lF hi hi;exact⟨ad,U,aa⟩
def ez.ok.cell(h:t.ok I){i:Nat}(hi:i<t.ts.length)(al:j<t.ts[i].ns.length):∃ ac ie eb eG b,t.B6=some ac/\(∀ M,bE I M (ac.add (i*1)) 1 [.slice (some ie) t.ts[i].ns.length eb])/\eG=ie /\
  (∀ M,bE I M (ie.add (j*1)) 1 [.slice (some ⟨b,0,none⟩) t.w t.w])/\t.no i j<t.bs.length/\t.bs[t.no i j]?=some b:=by
 obtain⟨ie,eb,U,aa⟩:=h.md i hi;have uT:t.qN.length=t.ts.length:=by have:=h.cl.len;omega
 have cT:i<t.qN.length:=by omega
 have aL:=ez.Xf hi al;rw[<-h.A4]at aL;rw[gu cT,ki]at U;obtain⟨ac,ax,az⟩:=h.cl.idx (j:=i) (by omega);obtain⟨ad,bc,ct⟩:=aa.idx (j:=j) al;subst bc;refine⟨ac,ad,eb,ad,t.bs[t.no i j],ax,λM=>?_,rfl,λM=>?_,aL,gu aL⟩
 ·have:=az M;rw[hD,dS cT,oe,p8,U]at this;rwa [hD]
 ·have:=ct M;have dF:j<((List.range t.ts[i].ns.length).map λj=>Value.slice (some ⟨t.bs.getD (gf t.ts i+j) 0,0,none⟩) t.w t.w).length:=by simpa using al
  rw[hD,dS dF,oe,p8,jJ,mb]at this;rw[hD];have e:t.bs.getD (gf t.ts i+j) 0=t.bs[t.no i j]:=by rw[cQ];show(t.bs[t.no i j]?).getD 0=_;rw[gu aL];rfl
  rwa [e]at this
def aja{k b w:Nat}(ae:k<bs.length)(af:bs[k]?=some b)(aD:a<w):bE I (ew C w 0 bs++Mr) ((⟨b,0,none⟩:Addr).add (a*3)) 3 (C k a).cells:=by
 have e:bs[k]=b:=by rw[gu ae]at af;simpa using af
 have hm:sO C w k b∈ew C w 0 bs++Mr:=by rw[Jb ae,e,dK];simp
 have:=dM (I:=I) (cs:=oX C k w) (k:=a*3) (n:=3) hm (by rw[Xe];omega);rwa [ai7 C k w aD]at this
def Xg{k b w:Nat}(ae:k<bs.length)(af:bs[k]?=some b)(aD:a<w)(aA:bw (C k a).cells o vs=c.cells)(ap:o+vs.length<=3)(U:gS vs=true){pre:List aC}
 (a7:M=pre++(ew C w 0 bs++Mr)) (h:K (pre++(ew (kc C k a c) w 0 bs++Mr))):cX M (((⟨b,0,none⟩:Addr).add (a*3)).add o) vs K:=by
 have e:bs[k]=b:=by rw[gu ae]at af;simpa using af
 rw[ai9 ae,e]at h;rw[Jb ae,e,dK]at a7;rw[show((⟨b,0,none⟩:Addr).add (a*3))=⟨b,a*3,none⟩ by rw[d' _ rfl,dK]];refine cX.qe (pre++ew C w 0 (bs.take k)) (ew C w (k+1) (bs.drop (k+1))++Mr) (oX C k w) 117 (by rw[a7];simp[sO]) (by rw[Xe,qM];omega) U (oX (kc C k a c) k w) (ai8 aD aA ap) ?_;simpa[sO]using h
end
def Xh{β:Type}{l:List α}{f g:α->List β}(h:∀ x∈l,f x=g x):l.flatMap f=l.flatMap g:=by
 induction l with
 |nil=>rfl| cons a l a2=>rw[og,og,h a (.head _),a2 λx ab=>h x (.tail _ ab)]
def Xi{l:List Nat}{x:Nat}(h:x∈l):x<=l.sum:=by
 induction l with
 |nil=>cases h
 |cons a l a2=>
  rw[oh];rcases dE.1 h with rfl | h;·omega
  ·have:=a2 h;omega
def ajb(aq:t.n0=0):t.cs (uu t.P t.nn)=(List.replicate (t.nn*t.w) ic).flatMap bY.cells:=by rw[<-WY];unfold eV.cs lP;rw[aq,xd];refine Xh λj al=>Xh λa aD=>?_;rw[dK,I9 (kk.1 al)];have aa:a<t.s.size+1:=kk.1 aD;show a<=t.s.size;omega
def Xj(I:aN)(deb:List Int)(g:b3)(s:ByteArray)(v:Value)(I':aN)(M':List aC):Prop:=
 (∀ b o,I b=some o->I' b=some o)/\M'=[]/\((ed deb g≠0/\v=.tuple #[.pointer none,.int .i64 (ed deb g)])\/(ed deb g=0/\4096<s.size/\v=.tuple #[.pointer none,.int .i64 40]) \/ (ed deb g=0/\s.size<=4096/\∃ (t:eV) (T:Nat->Nat->bY),v=.tuple #[ptr t.bt,.int .i64 0]/\vO I' g s t T))
structure ajc(I:aN)(g:b3)(g8 hk:bn)(i:Nat)(fF:bn)(xs:List aP)(J:aN):Prop where
 ii:i<=g.n
 le:∀ b o,I b=some o->J b=some o
 db:dW J (g8.a.map λg=>⟨g,0,none⟩) g8.n g8.c 1 16 (g.ds.map vM)
 rt:dW J (hk.a.map λg=>⟨g,0,none⟩) hk.n hk.c 1 8 ((gM 0 g.ds).map bW)
 ok:fF.ok 9 (xs.flatMap aP.cells)
 pn:xs.map aP.pn=uv g.ds i
 xs:∀ y∈xs,y.ok J/\y.t.size<=4096/\∀ x∈y.kids,0<=x
set_option maxRecDepth 100000 in
def ajd{deb:List Int}(br:hG I deb){g:b3}(ar:g.ok I)(av:g.n<=4096)(s:ByteArray):Spec Tryz.prog 26 [g.val,.string s] I [] (Xj I deb g s):=by
 refine PC [25] aS Tryz.func26 rfl rfl rfl ?_;intro B aq;have js:=ar.n;refine aT.whole _ (K6 br ar) ?_;rintro v dd M' -⟨rfl,nB,rfl⟩;have aje:=ar.mono nB;refine aI.mk (λe=>?_) (λe=>?_)
 ·have a0:ed deb g≠0:=by simpa using e
  intro _;exact⟨_,_,.refl,nB,rfl,.inl ⟨a0,rfl⟩⟩
 have rI:ed deb g=0:=by simpa using e
 refine aI.mk (λaz=>?_) (λaz=>?_)
 ·have dZ:4096<s.size:=by have:=cr az;omega
  intro _;exact⟨_,_,.refl,nB,rfl,.inr (.inl ⟨rI,dZ,rfl⟩)⟩
 have ao:s.size<=4096:=by have:=b' az;omega
 have hm:lJ g:=y3 rI λd ai=>(ar.ds d ai).t.n;have vl:=hm.DX;have yX:=y2 0 g.ds;have fQ:∀ d∈g.ds,∀ n∈d.t.ns,0<=n.k:=λd ai n av=>((ar.ds d ai).t.ns n av).k.1;obtain⟨OV,cf⟩:=W7 hm fQ ao;refine aT.whole _ (aiI (M0:=[]) aje av) ?_;rintro v c8 M1 -⟨rfl,g8,rfl,Xk,ajf,rfl⟩;refine cz.mk λbt pN ajg=>?_;have amC:sb.aY 3=[]:=rfl;refine cD.FV (ι:=Nat×bn×aN) (λx=>{ bA:=[(1,.val (.string s)),(2,.ref 2 0),(7,.val (ptr bt)),(8,.val (.int .i64 (cw (g.ds.take x.1):Nat))),(27,.val (.slice g.a g.n g.c)),(28,.val (.int .i64 g.n)),(29,.val (.int .i64 x.1))],cl:=[(2,[.slice g.a g.n g.c])],cj:=x.2.2,dx:=m4 bt s g8.val x.2.1.val (.slice none 0 0) (.slice none 0 0)::(x.2.1.aY 3++[]) }) (λx=>x.1<=g.n/\(∀ b o,I b=some o->x.2.2 b=some o)/\dW x.2.2 (g8.a.map λg=>⟨g,0,none⟩) g8.n g8.c 1 16 (g.ds.map vM)/\x.2.1.n=x.1/\x.2.1.ok 1 (((gM 0 g.ds).take x.1).map bW)) (λx=>g.n-x.1) ?_ ?_
 ·intro hQ;have ajh:=B3 (J:=c8) (os:=g8) (e:=9) (M:=[]) λx ab=>hQ.d x (.tail _ ab);exact⟨(0,sb,oW c8 g8 9),⟨bj _,λb o h=>ajh _ _ (nB _ _ h),B4 ajf (by omega),rfl,wQ 1⟩,.perm (M1:=g8.aY 9++[m4 bt s g8.val (.slice none 0 0) (.slice none 0 0) (.slice none 0 0)]) (by rw[fo];exact(f' (l₁:=[_]))) (Fu λg _=>by simp),lT,.cons rfl (.nil)⟩
 rintro⟨i,hk,J⟩⟨hi,uw,Fw,hb,Jc⟩;simp only at hi uw Fw hb Jc;have aji:=ar.mono uw;refine aI.mk (λbc=>?_) (λbc=>?_)
 ·have aL:i<g.n:=by simpa using bc
  have bi:i<g.ds.length:=by omega
  obtain⟨ad,bR,bh⟩:=aji.aU.row a'.c0 aL bi;have er:g.ds[i]∈g.ds:=cO bi;have kz:=(ar.ds _ er).t.n;have AA:=(hm.r _ er).root;have oj:=LU bi;have hle:=LV g.ds (i+1);have Xl:=HA 0 g.ds i bi (by omega);refine a6.mk ad i bR rfl aL ?_;refine aJ.mk _ (bh _) ?_;refine cL.draw aS rfl rfl rfl ?_;refine aJ.mk _ (zX (j:=2) (.head _) (by decide)) ?_;refine aQ.mk (((gM 0 g.ds)[i]:Nat):Int) (e4 (show((cw (g.ds.take i):Nat):Int)+(g.ds[i]).t.root=_ by omega) (by omega)) ?_;refine cz.mk λbZ gb ig=>?_;intro G jG;refine s4.wY aS rfl (e:=3) rfl rfl rfl hk Jc (w3 (jG _ (by simp[Op.operands,Call.operands])) rfl) (w3 (jG _ (by simp[Op.operands,Call.operands])) rfl) (cs:=[bW (gM 0 g.ds)[i]]) rfl rfl [m4 bt s g8.val hk.val (.slice none 0 0) (.slice none 0 0)] [] rfl (by omega) (by show(hk.n+1)*8<=_;omega) ?_;intro dC U aa aK;refine cX.mk [⟨bZ,_⟩] (dC.aY 3++[]) _ _ rfl rfl (bB rfl) rfl ?_;refine aQ.mk ((cw (g.ds.take (i+1)):Nat):Int) (e4 (show((cw (g.ds.take i):Nat):Int)+((g.ds[i]).t.n:Int)=_ by omega) (by omega)) ?_;refine aQ.mk _ (bU (i:=i) (by omega)) ?_;intro _;refine⟨(i+1,dC,J),⟨⟨by omega,uw,Fw,by simp only;omega,?_⟩,by simp only;omega⟩,.sub (.cons _ (.refl _)) .refl,lT,.cons rfl (.nil)⟩;simp only;rw[g9 (by omega),gg];exact aK
 have c1:g.n<=i:=by simpa using bc
 obtain rfl:i=g.n:=by omega
 rw[gv (by omega)]at Jc;refine cD.FV (ι:=Nat×bn×List aP×aN) (λx=>{ bA:=[(1,.val (.string s)),(2,.ref 2 0),(7,.val (ptr bt)),(55,.val (.slice g.a g.n g.c)),(56,.val (.int .i64 g.n)),(57,.val (.int .i64 x.1))],cl:=[(2,[.slice g.a g.n g.c])],cj:=x.2.2.2,dx:=m4 bt s g8.val hk.val x.2.1.val (.slice none 0 0)::(x.2.1.aY 72++[]) }) (λx=>ajc I g g8 hk x.1 x.2.1 x.2.2.1 x.2.2.2) (λx=>g.n-x.1) ?_ ?_
 ·intro hQ;have B7:=B3 (J:=J) (os:=hk) (e:=3) (M:=[]) λx ab=>hQ.d x (.tail _ ab);exact⟨(0,sb,[],oW J hk 3),⟨bj _,λb o h=>B7 _ _ (uw _ _ h),Fw.mono B7,B4 Jc (by omega),wQ 9,rfl,λy aG=>(by cases aG)⟩,.perm (M1:=hk.aY 3++[m4 bt s g8.val hk.val (.slice none 0 0) (.slice none 0 0)]) (by rw[fo];exact(f' (l₁:=[_]))) (Fu λg _=>by simp),nb,.cons rfl (.nil)⟩
 rintro⟨i,fF,xs,K⟩gp;have hi:=gp.ii;have Jd:=gp.le;simp only at hi Jd;have xJ:=ar.mono Jd;have lx:xs.length=cw (g.ds.take i):=by have:=congrArg List.length gp.pn;rw[ai5,ei]at this;exact this
 have amD:fF.n=xs.length:=by have U:fF.ok 9 (xs.flatMap aP.cells):=gp.ok;have:=U.len;rw[ji _ 9 aP.c0]at this;omega
 have Dt:g8.n=g.ds.length:=by omega
 have nR:hk.n=g.ds.length:=by omega
 refine aI.mk (λct=>?_) (λct=>?_)
 ·have aL:i<g.n:=by simpa using ct
  have bi:i<g.ds.length:=by omega
  obtain⟨ad,bR,bh⟩:=xJ.aU.row a'.c0 aL bi;have er:g.ds[i]∈g.ds:=cO bi;have hE:=(xJ.ds _ er).t;have kz:=hE.n;have z0:=hm.r _ er;have oj:=LU bi;have hle:=LV g.ds (i+1);have ajj:=ai3 bi;have ajk:=hm.find _ er;generalize g.ds[i]=d at *;have tp:W0 K g.ds (g8.a.map λg=>⟨g,0,none⟩) (hk.a.map λg=>⟨g,0,none⟩) g8.c hk.c xs.length d.t:=by
   refine⟨by rw[<-Dt];exact gp.db,by rw[<-nR];exact gp.rt,λn av=>?_,λx ab=>?_,by omega,by omega⟩;·obtain⟨j,al,OW⟩:=yx av;have jk:=z0.kids j al;have aw:=z0.fits j al;rw[OW]at jk aw;have au:=SN aw (hE.ns n av).k.1;have dG:n.kids.length<=j:=Hu j _ (z0.diff.sublist (Hw av)) jk;exact⟨λk ae=>by have:=jk k ae;omega,by omega,by omega⟩
   ·have:=Ht 0 g.ds (λd ai=>(hm.r d ai).root) x ab;omega
  have bQ:=aiO hE tp gp.ok bt s (.slice none 0 0);rw[<-Dt]at bQ;have ej:Value.slice (hk.a.map λg=>⟨g,0,none⟩) g8.n hk.c=hk.val:=by unfold bn.val;rw[nR,Dt]
  rw[ej]at bQ;refine a6.mk ad i bR rfl aL ?_;refine aJ.mk _ (bh _) ?_;refine aT.whole _ bQ ?_;rintro v I' M' -⟨rfl,j,dC,kb,g4,rfl,ah⟩;rcases ah with⟨rfl,rfl⟩ | ⟨rfl,n,av,ajl,Xm⟩
  rotate_left
  ·exact absurd (ajk n av ajl) (by omega)
  refine aI.mk (λe=>by cases e) (λ_=>?_);refine aQ.mk _ (bU (i:=i) (by omega)) ?_;intro hQ;have BH:(m4 bt s g8.val hk.val dC.val (.slice none 0 0)::(dC.aY 72++kb.map iO)).Perm (kb.map iO++(m4 bt s g8.val hk.val dC.val (.slice none 0 0)::(dC.aY 72++[]))):=by rw[fo,<-p7];exact f'
  have I7:=g4.len kz;obtain⟨n9,Xl⟩:=W6 (I:=I') kb (λp aO=>hQ.d (iO p) (.tail _ (FF _ (du.2 ⟨p,aO,rfl⟩)))) (by
   have U:=hQ.bS;have aa:((kb.map iO).map (·.num)).Sublist ((m4 bt s g8.val hk.val dC.val (.slice none 0 0)::(dC.aY 72++kb.map iO)).map (·.num)):=((mA _ _).cons _).map _;have ag:=U.sublist aa;rw[oq]at ag;exact ag)
  have Xn:∀ p∈kb,p.2.length<=4096/\∀ x∈p.2,x<=4096:=λp aO=>by
   have U:p.2∈kb.map (·.2):=du.2 ⟨p,aO,rfl⟩;rw[g4.kb]at U;obtain⟨n,av,e⟩:=du.1 U;have Gh:=GG av;obtain⟨eH,eI,fK⟩:=tp.ns n Gh;rw[<-e,k6];cases decide (n.k=3)with
   |true=>
    rw[ba];refine⟨by show 1<=4096;omega,λx ab=>?_⟩;rw[kh.1 ab,cQ];cases aE:(gM 0 g.ds)[(cV n.t g.ds 0).toNat]? with
    |none=>exact bj _| some z=>exact tp.aiM z (vQ aE)
   |false=>rw[a5];refine⟨by rw[ei];omega,λx ab=>?_⟩;obtain⟨k,ae,rfl⟩:=du.1 ab;obtain⟨j,al,OW⟩:=yx Gh;have jk:=z0.kids j al;rw[OW]at jk;have:=jk k ae;omega
  have ajm:=W8 (J:=B5 I' kb) (kb:=kb) (ns:=d.t.ns.take d.t.n) (λp aO=>⟨Xl p aO,by have:=(Xn p aO).1;omega,λx ab=>by have:=(Xn p aO).2 x ab;omega⟩) (λn av=>(hE.ns n (GG av)).mono n9);refine⟨(i+1,dC,xs++n3 kb (d.t.ns.take d.t.n),B5 I' kb),⟨⟨aL,λb o h=>n9 _ _ (Jd _ _ h),gp.db.mono n9,gp.rt.mono n9,g4.ok,?_,λy aG=>?_⟩,by simp only;omega⟩,.perm BH (W5 kb λp _=>by simp),nb,.cons rfl (.nil)⟩;·simp only;have ajn:xs.map aP.pn=uv g.ds i:=gp.pn;have yG:d.t.ns.take d.t.n=d.t.ns:=gv (by omega);rw[gg,W9 I7,W' g4.kb,ajj,ajn,lx,yG]
  ·rcases en.1 aG with aG | aG
   ·obtain⟨tV,sv,IE⟩:=gp.xs y aG;exact⟨tV.mono n9,sv,IE⟩
   ·obtain⟨tV,⟨p,sv,IE⟩,n,ajo,N3⟩:=ajm y aG;refine⟨tV,by rw[N3];exact(tp.ns n (GG ajo)).2.2,λx ab=>?_⟩;rw[IE]at ab;obtain⟨q,_,rfl⟩:=du.1 ab;omega
 have K8:g.n<=i:=by simpa using ct
 obtain rfl:i=g.n:=by omega
 have amE:xs.length=cw g.ds:=by rw[lx,gv (by omega)]
 have Xo:xs.map aP.pn=(oE g.ds).map vN:=by have U:xs.map aP.pn=uv g.ds g.n:=gp.pn;rw[U,<-js,ai4]
 have Ft:fF.n=cw g.ds:=by omega
 have n':0<cw g.ds:=by
  obtain⟨d,ai⟩:=List.exists_mem_of_length_pos (show 0<g.ds.length by have:=hm.n;omega);have an:=(hm.r d ai).root;have U:d.t.ns.length<=cw g.ds:=by unfold cw;exact Xi (du.2 ⟨d,ai,rfl⟩)
  omega
 have ajp:fF.ok 9 (xs.flatMap aP.cells):=gp.ok;have Fw:dW K (g8.a.map λg=>⟨g,0,none⟩) g8.n g8.c 1 16 (g.ds.map vM):=gp.db;have ajq:dW K (hk.a.map λg=>⟨g,0,none⟩) hk.n hk.c 1 8 ((gM 0 g.ds).map bW):=gp.rt;have qG:∀ y∈xs,y.ok K/\y.t.size<=4096/\∀ x∈y.kids,0<=x:=gp.xs;clear gp;refine aJ.mk _ (zX (j:=3) (.head _) (by decide)) ?_;refine aQ.mk ((s.size+1:Nat):Int) (e4 (by simp) (by omega)) ?_;refine aT.whole _ (aiF fF.n (s.size+1) (by omega) (by omega) (by omega)) ?_;rintro v I' M' -⟨rfl,iN,ev,rfl,rfl⟩;refine cX.mk [_,_] (fF.aY 72++[]) _ _ rfl rfl (bB rfl) rfl ?_;refine .FM λhQ=>?_;have Je:=hQ.d;have WZ:I' iN=none:=Je _ (.head _);have aiG:I' ev=none:=Je _ (.tail _ (.head _));have ajr:I' bt=none:=Je _ (.tail _ (.tail _ (.head _)));have vF:∀ x∈fF.aY 72++([]:List aC),I' x.num=none:=λx ab=>Je x (.tail _ (.tail _ (.tail _ ab)));have B8:(iN::ev::bt::(fF.aY 72++([]:List aC)).map (λx:aC=>x.num)).Nodup:=hQ.bS;obtain⟨h6,B8⟩:=lg.1 B8;obtain⟨iA,B8⟩:=lg.1 B8;obtain⟨rq,B8⟩:=lg.1 B8;obtain⟨ux,OX⟩:∃ ux:Obj,ux=.cells ([.string s,g8.val,hk.val,fF.val,.slice (some ⟨iN,0,none⟩) fF.n fF.n]:List Value).toArray 100 (0,0):=⟨_,rfl⟩;obtain⟨qO,Xp⟩:∃ qO:Obj,qO=.cells (Fl ev (s.size+1) fF.n).toArray 108 (0,0):=⟨_,rfl⟩;have ajs:∀ b o,I' b=some o->ins I' iN qO b=some o:=ri WZ;have nr:ins I' iN qO bt=none:=by unfold ins;rw[gh λe=>h6 (by rw[<-e];exact .tail _ (.head _))];exact ajr
 have Xq:∀ b o,ins I' iN qO b=some o->ins (ins I' iN qO) bt ux b=some o:=ri nr;have OY:=B3 (J:=ins (ins I' iN qO) bt ux) (os:=fF) (e:=72) (M:=[]) λx ab=>by have C6:x.num∈(fF.aY 72++([]:List aC)).map (λx:aC=>x.num):=du.2 ⟨x,ab,rfl⟩;unfold ins;rw[gh λe=>rq (by rw[<-e];exact C6),gh λe=>h6 (by rw[<-e];exact .tail _ (.tail _ C6))];exact vF x ab
 have hle:∀ b o,I' b=some o->oW (ins (ins I' iN qO) bt ux) fF 72 b=some o:=λb o h=>OY _ _ (Xq _ _ (ajs _ _ h));have dB:oW (ins (ins I' iN qO) bt ux) fF 72 bt=some ux:=OY _ _ (tm ..);have ajt:oW (ins (ins I' iN qO) bt ux) fF 72 iN=some qO:=OY _ _ (Xq _ _ (tm ..));have aju:=B4 (J:=ins (ins I' iN qO) bt ux) (e:=72) (b:=96) ajp (by omega);have xq:=aiY (xJ.mono hle) (bt:=bt) (s:=s) (nv:=g8.val) (rv:=hk.val) (rwv:=.slice (some ⟨iN,0,none⟩) fF.n fF.n) (na:=fF.a.map λg=>⟨g,0,none⟩) (nn:=fF.n) (nc:=fF.c) (by rw[dB,OX];rfl) Ft (by omega);refine aT.Jw (oW (ins (ins I' iN qO) bt ux) fF 72) [] [⟨ev,.cells ((List.replicate (fF.n*(s.size+1)) ic).flatMap bY.cells).toArray 107 (0,0)⟩] _ ?_ xq ?_
 ·subst Xp;subst OX;refine .pZ rfl (by simp) (.perm (.swap _ _ _) (.pZ rfl (by simp) (.perm (M1:=fF.aY 72++[⟨ev,.cells ((List.replicate (fF.n*(s.size+1)) ic).flatMap bY.cells).toArray 107 (0,0)⟩]) ?_ (Fu λg _=>by simp))));rw[fo];exact f' (l₁:=[_])
 rintro v j1 wk k0 -⟨-,gN,L,cN,rfl,ve,nI,qA,sd,u6,rfl⟩;have EM:∀ b o,I' b=some o->j1 b=some o:=λb o h=>k0 _ _ (hle _ _ h);obtain⟨t0,sP⟩:∃ t0:eV,t0=⟨bt,s,g8.val,hk.val,xs,fF.a.map λg=>⟨g,0,none⟩,fF.n,fF.c,some ⟨iN,0,none⟩,fF.n,(List.range fF.n).map λk=>⟨ev,k*((s.size+1)*4),none⟩,0,ev⟩:=⟨_,rfl⟩;have dk:t0.P=jX g s:=by rw[sP];show(⟨xs.map aP.pn,s,0⟩:cq)=_;rw[Xo];rfl
 have kq:=ajb (t:=t0) (by rw[sP]);have Lm:t0.aY (uu t0.P t0.nn)=⟨ev,.cells ((List.replicate (fF.n*(s.size+1)) ic).flatMap bY.cells).toArray 107 (0,0)⟩:=by unfold eV.aY;rw[kq,sP];rfl
 have hq:∀ y∈xs,∀ x∈y.kids,x.toNat<fF.n:=λy aG x ab=>by
  have U:y.pn∈(oE g.ds).map vN:=by rw[<-Xo];exact du.2 ⟨y,aG,rfl⟩
  obtain⟨a,aD,rA⟩:=du.1 U;have aa:=(LR hm fQ (s:=s) (at_:=0) (bj _) ao).ns a aD;have ag:x.toNat∈a.asks:=by have ej:a.asks=y.kids.map Int.toNat:=congrArg oA.asks rA;rw[ej];exact du.2 ⟨x,ab,rfl⟩
  have aK:=aa.asks _ ag;have bg:(vk g s 0).ns.length=cw g.ds:=I8 g.ds;omega
 have Hn:t0.ok j1 (uu t0.P t0.nn):=by
  rw[sP];refine⟨?_,aju.mono k0,λy aG=>(qG y aG).1.mono EM,λy aG=>(qG y aG).2.1,λy aG x ab=>⟨(qG y aG).2.2 x ab,hq y aG x ab⟩,?_,λa aD=>?_,λk ae aq=>absurd aq (EI _),λk ae _=>?_,ao,by show fF.n<=4096;omega⟩;·rw[k0 _ _ dB,OX];rfl
  ·refine⟨by simp,⟨b6 _,by show fF.n*24<=_;omega⟩,.inr ⟨⟨iN,0,none⟩,rfl,rfl,_,_,_,(k0 _ _ ajt).trans (congrArg some Xp),?_⟩⟩;show((Fl ev (s.size+1) fF.n).drop 0).take (fF.n*1)=_;rw[td,gv (by simp[Fl]),Fl,oq];rfl
  ·obtain⟨k,_,rfl⟩:=du.1 aD;rfl
  ·simp only[jJ,mb,xd];rfl
 have amF:t0.n0=0:=by rw[sP]
 have Xr:t0.nn=fF.n:=by rw[sP]
 have Xs:t0.bt=bt:=by rw[sP]
 have OZ:t0.ev=ev:=by rw[sP]
 have dg:t0.s=s:=by rw[sP]
 have ajv:t0.rv=hk.val:=by rw[sP]
 have ajw:t0.nv=g8.val:=by rw[sP]
 have u9:WT j1 t0 (uu t0.P t0.nn) L:=by
  refine⟨Hn,ai2 _ _,λk ae=>?_,λk=>by rw[dk];exact OV k,by omega,λk ae=>⟨by omega,?_⟩,λk _ ae=>?_,λk ae=>by omega⟩;·rw[dk,Xr,Ft];exact cf k (by omega)
  ·have:=(sd k).1 ae;omega
  ·exact(sd k).2 (by omega)
 have sY:=aiu u9 (gN:=gN) (nN:=fF.n) (cN:=cN) ve nI (by omega) (by omega) (low:=0) (bj _);rw[Xs]at sY;refine aT.mk [t0.aY (uu t0.P t0.nn),cP gN cN] [] _ (by rw[Lm];exact .swap _ _ _) sY ?_;rintro v nq p9 -⟨rfl,T,f1,f2,f3,rfl⟩;intro ajx;have O0:nq ev=none:=by have:=ajx.d (t0.aY T) (.head _);rw[<-OZ];exact this
 have oV:t0.ok nq T:=Hn.rG λk ae b=>by omega
 refine⟨ins nq ev (.cells (t0.cs T).toArray 107 (0,0)),[],.pZ (by rw[<-OZ];rfl) (by simp) .refl,λb o h=>ri O0 _ _ (EM _ _ (Jd _ _ h)),rfl,.inr (.inr ⟨rI,ao,{ t0 with n0:=t0.nn },T,by show _=Value.tuple #[ptr t0.bt,.int .i64 0];rw[Xs],?_⟩)⟩;have Xt:∀ b o,I' b=some o->ins nq ev (.cells (t0.cs T).toArray 107 (0,0)) b=some o:=λb o h=>ri O0 _ _ (EM _ _ h);refine⟨oV.nT (ri O0) (by rw[OZ];exact tm ..),f1,dk,dg,λk b=>by rw[<-dk];exact f2 k b (bj _),rfl,Xr.trans Ft,⟨hk.a.map λg=>⟨g,0,none⟩,hk.c,?_,?_⟩,⟨g8.a.map λg=>⟨g,0,none⟩,g8.c,?_,?_⟩⟩
 ·show t0.rv=_;rw[ajv,bn.val,hb]
 ·rw[<-hb];exact ajq.mono Xt
 ·show t0.nv=_;rw[ajw,bn.val,Xk]
 ·rw[<-Xk];exact Fw.mono Xt
structure z1(I:aN)(t:eV)(T:Nat->Nat->bY):Prop where
 ok:t.ok I T
 inv:hY t.P t.nn T
 all:∀ k b,(T k b).ce=bV t.P k b
 n0:t.n0=t.nn
 bS:∀ k,k<t.nn->ur t.P t.nn k
 na:∀ k,zR t.P k
 w0:LO t.P
def z1.kn{T:Nat->Nat->bY}(h:z1 I t T){k:Nat}(aD:a<=t.s.size):BV t.P k a=Ox (T k a).ce:=by unfold BV;rw[ahu (show a<=t.P.s.size from aD),h.all]
def z1.aB{T:Nat->Nat->bY}(h:z1 I t T){k:Nat}(aD:a<=t.s.size):((T k a).aB=2/\(BV t.P k a).aB=3/\(BV t.P k a).aW=(T k a).aW/\(BV t.P k a).n=min (T k a).n 65537)\/((T k a).aB≠2/\(BV t.P k a).aB≠3):=by
 rw[h.kn aD];rcases pQ (h.inv.aB k a)with⟨e,a0⟩ | ⟨e,a0⟩ | ⟨e,a0⟩
 ·right
  rw[e,a0];exact⟨by decide,by decide⟩
 ·right
  rw[e,a0];exact⟨by decide,by decide⟩
 ·left
  rw[a0];exact⟨e,rfl,rfl,rfl⟩
structure Xu(z:Nat)(L parts:List (Nat×Nat))(rest:List (Nat×Nat))(aW:Nat)(os:bn):Prop where
 hi:aW<=z
 ok:∃ oG,os.ok 2 ((L++oG).flatMap D3)/\oG++rest=parts
def Xu.next{L parts p rest oG:List (Nat×Nat)}{A6:Nat}{y6:bn}(aA:A6<=z)(bb:y6.ok 2 (((L++oG)++p).flatMap D3))(fa:oG++(p++rest)=parts):Xu z L parts rest A6 y6:=
 ⟨aA,oG++p,by rw[<-fN];exact bb,by rw[fN];exact fa⟩
def cu.ajy{P:Program}{E:Env}(aH:cB P E){t:Nat}{c9:dH}{x y:Operand}(au:E t=some c9)(dg:c9.bz=.pointer e){p:Option Addr}{V:Value->Prop}{other:Prop}
  (h:V (.bool p.isNone)):cu P .eql t x y (.val (.pointer p)) (.val (.pointer none)) V other:=by
 obtain⟨d,e3,ff⟩:=(aH _ _ au).e1;have aa:d=.pointer e:=by rw[dg]at ff;cases d<;>simp_all[eW]
 subst aa;refine .mk _ _ _ rfl rfl (λw=>?_) h;have ax:(eqGuard .eql t x y (.pointer p) (.pointer none)).run P w=.ok () w:=by unfold eqGuard;rfl
 have az:(Op.equal t (.pointer p) (.pointer none)).run P w=.ok p.isNone w:=by
  have key:∀ d,(Op.equalIn (d+1) t (.pointer p) (.pointer none)).run P w=.ok p.isNone w:=λd=>by cases p<;>simp[Op.equalIn,run_underlying e3]
  exact key 9999
 simp only[bM,ax,bx,binOp];simp[az]
def ajz{g:b3}(hm:lJ g)(fQ:∀ d∈g.ds,∀ n∈d.t.ns,0<=n.k){s:ByteArray}(ao:s.size<=4096):LO (jX g s):=by
 have bb:=LR hm fQ (s:=s) (at_:=0) (bj _) ao;have ay:(jX g s).ns.length=(vk g s 0).ns.length:=by simp[jX,vk]
 refine⟨λa aD=>?_,bj _,ao⟩;obtain⟨b,af,rfl⟩:=du.1 aD;have h:=bb.ns b af;exact⟨h.k,λx ab=>by rw[ay];exact h.asks x ab,h.many,h.one,h.l3,h.len⟩
def vO.ajA{g:b3}{s:ByteArray}{T:Nat->Nat->bY}(h:vO I g s t T)(hm:lJ g)(fQ:∀ d∈g.ds,∀ n∈d.t.ns,0<=n.k)(ao:s.size<=4096):z1 I t T:=by obtain⟨OV,cf⟩:=W7 hm fQ ao;refine⟨h.ok,h.inv,λk b=>by rw[h.P];exact h.all k b,h.n0,λk ae=>?_,λk=>by rw[h.P];exact OV k,by rw[h.P];exact ajz hm fQ ao⟩;rw[h.P,h.nn];exact cf k (by rw[<-h.nn];exact ae)
def ajB{P:cq}{c:bY}{k:Nat}(aa:c.aB<=2)(h:c.ce=bV P k a):(c.aB=0/\(bV P k a).aB=0)\/(c.aB=1/\(bV P k a).aB=2)\/(c.aB=2/\(bV P k a).aB=3/\(bV P k a).n=c.n/\(bV P k a).aW=c.aW):=by
 rw[<-h];rcases pQ aa with⟨e,a0⟩ | ⟨e,a0⟩ | ⟨e,a0⟩
 ·exact .inl ⟨e,by rw[a0];rfl⟩
 ·exact .inr (.inl ⟨e,by rw[a0];rfl⟩)
 ·exact .inr (.inr ⟨e,by rw[a0];exact⟨rfl,rfl,rfl⟩⟩)
section
variable{I:aN}{t:eV}{T:Nat->Nat->bY}
def lQ(n z:Nat)(eZ a:Int):Bool:=decide (0<=eZ)&&(decide (eZ<(n:Int))&&(decide (0<=a)&&decide (a<=(z:Int))))
def ajC(h:z1 I t T)(Fx:t.rv=.slice eG n iM)(eZ a:Int):Spec Tryz.prog 64 [ptr t.bt,.int .i64 eZ,.int .i64 a] I M0 λv I' M'=>v=.bool (lQ n t.s.size eZ a)/\I'=I/\M'=M0:=by
 refine bC [] aS Tryz.func64 rfl rfl rfl ?_;intro B aq;have bb:=h.ok;have h2:t.bT.getD 2 undef=.slice eG n iM:=Fx;have aa:∀ M,bE I M ((⟨t.bt,0,none⟩:Addr).add 2) 1 [.slice eG n iM]:=λM=>by have:=bb.e5 (M:=M) (j:=2) (by decide);rwa [h2]at this
 refine bo.mk (λaR=>?_) (λaR=>?_)
 ·have aR:decide (0<=eZ)=true:=aR;refine aJ.mk _ (aa _) ?_;refine bo.mk (λaV=>?_) (λaV=>?_)
  ·have aV:decide (eZ<(n:Int))=true:=aV;refine bo.mk (λbl=>?_) (λbl=>?_)
   ·have bl:decide (0<=a)=true:=bl;refine aJ.mk _ (bb.e5 (j:=0) (by decide)) ?_;exact⟨_,_,.refl,by rw[lQ,aR,aV,bl];rfl,rfl,rfl⟩
   ·have bl:decide (0<=a)=false:=bl;exact⟨_,_,.refl,by rw[lQ,aR,aV,bl];rfl,rfl,rfl⟩
  ·have aV:decide (eZ<(n:Int))=false:=aV;exact⟨_,_,.refl,by rw[lQ,aR,aV];rfl,rfl,rfl⟩
 ·have aR:decide (0<=eZ)=false:=aR;exact⟨_,_,.refl,by rw[lQ,aR];rfl,rfl,rfl⟩
def Xv{eZ a:Int}(h:lQ n z eZ a=true):∃ i j:Nat,eZ=i/\a=j/\i<n/\j<=z:=by simp only[lQ,bL,ft]at h;exact⟨eZ.toNat,a.toNat,by omega,by omega,by omega,by omega⟩
end
section
variable{I:aN}{g:b3}{s:ByteArray}{t:eV}{T:Nat->Nat->bY}
def vO.root(h:vO I g s t T)(hm:lJ g){i:Nat}(hi:i<g.n)(js:g.ds.length=g.n):∃ eG iM,t.rv=.slice eG g.n iM/\oF g i<t.nn/\∃ ad,eG=some ad/\∀ M,bE I M (ad.add (i*1)) 1 [.int .i64 (oF g i)]:=by
 obtain⟨eG,iM,U,aa⟩:=h.rv;have ay:i<(gM 0 g.ds).length:=by rw[y2];omega
 have e:oF g i=(gM 0 g.ds)[i]:=by simp[oF,cQ,ay]
 obtain⟨ad,eH,eI⟩:=aa.one (f:=bW) hi ay;refine⟨eG,iM,U,?_,ad,eH,λM=>by rw[e];exact eI M⟩;have:=Ht 0 g.ds (λd ai=>(hm.r d ai).root) _ (cO ay);rw[e,h.nn];omega
inductive vP(g:b3)(s:ByteArray)(eZ a:Int)(n:Nat)(e:Int):Prop
 |no(h:lQ g.n s.size eZ a=false)(av:n=0)(he:e=1)| none (i j:Nat) (hi:eZ=i) (al:a=j) (e8:i<g.n) (ow:j<=s.size) (h:(bV (jX g s) (oF g i) j).aB=0) (av:n=0) (he:e=5)| fail (i j:Nat) (hi:eZ=i) (al:a=j) (e8:i<g.n) (ow:j<=s.size) (h:(bV (jX g s) (oF g i) j).aB=2) (av:n=0) (he:e=0)| is (i j:Nat) (hi:eZ=i) (al:a=j) (e8:i<g.n) (ow:j<=s.size) (h:(bV (jX g s) (oF g i) j).aB=3) (av:n=(bV (jX g s) (oF g i) j).n) (he:e=0)
def ajD(h:vO I g s t T)(hm:lJ g)(sQ:z1 I t T)(js:g.ds.length=g.n)(eZ a:Int):Spec Tryz.prog 28 [ptr t.bt,.int .i64 eZ,.int .i64 a] I M0 λv I' M'=>I'=I/\M'=M0/\∃ (n:Nat) (e:Int),vP g s eZ a n e/\v=.tuple #[.int .i64 n,.int .i64 e]:=by
 refine bC [] aS Tryz.func28 rfl rfl rfl ?_;intro B aq;obtain⟨eG,iM,Fx,-⟩:=h.rv;refine cu.ajy aS rfl rfl ?_;refine aI.mk (λe=>by cases e) (λ_=>?_);have Xw:=ajC sQ Fx eZ a (M0:=M0);rw[h.ts]at Xw;refine aT.whole _ Xw ?_;rintro v I' M' -⟨rfl,rfl,rfl⟩;refine aI.mk (λe=>?_) (λe=>?_)
 ·have a0:lQ g.n s.size eZ a=false:=by simpa using e
  exact⟨_,_,.refl,rfl,rfl,0,1,.no a0 rfl rfl,rfl⟩
 have a0:lQ g.n s.size eZ a=true:=by simpa using e
 obtain⟨i,j,rfl,rfl,hi,al⟩:=Xv a0;obtain⟨amG,amH,Xx,z0,ad,bR,bh⟩:=h.root hm hi js;rw[Fx]at Xx;cases Xx;have bb:=sQ.ok;have gm:j<=t.s.size:=by rw[h.ts];exact al
 have eO:t.n0<t.nn->∀ M:List aC,t.aY T∈M:=λe=>absurd e (by have:=sQ.n0;omega);have h2:t.bT.getD 2 undef=.slice eG g.n iM:=Fx;have aa:∀ M,bE I' M ((⟨t.bt,0,none⟩:Addr).add 2) 1 [.slice eG g.n iM]:=λM=>by have:=bb.e5 (M:=M) (j:=2) (by decide);rwa [h2]at this
 obtain⟨ajE,ajF,r,an,iw,-,mg⟩:=bb.row z0;have dB:=ajB (sQ.inv.aB (oF g i) j) (h.all (oF g i) j);refine cL.draw aS rfl rfl rfl ?_;refine aJ.mk _ (bb.e5 (j:=4) (by decide)) ?_;refine aJ.mk _ (aa _) ?_;refine a6.mk ad i bR rfl hi ?_;refine aJ.mk _ (bh _) ?_;refine a6.mk ajE (oF g i) ajF rfl z0 ?_;refine aJ.mk _ (iw _) ?_;refine a6.mk r j rfl rfl (by show j<t.s.size+1;omega) ?_;refine aJ.mk _ (mg _ (λe=>eO e _) j gm) ?_;generalize T (oF g i) j=c at *;refine cz.mk λpT aiQ aiR=>?_;refine cX.mk [] _ _ _ rfl rfl (bB rfl) rfl ?_;have eU:∀ {M:List aC} j,j+1<=4->(⟨pT,.cells c.cells.toArray 107 (0,0)⟩:aC)∈M->bE I' M ((⟨pT,0,none⟩:Addr).add j) 1 ((c.cells.drop j).take 1):=λj al a7=>dM a7 al;refine aJ.mk _ (eU 2 (by decide) (.head _)) ?_;refine aI.mk (λe=>?_) (λe=>?_)
 ·have a0:c.aB=0:=by have:=cr e;omega
  rcases dB with dB | dB | dB;·exact⟨_,_,.sub (.cons _ (.refl _)) .refl,rfl,rfl,0,5,.none i j rfl rfl hi al dB.2 rfl rfl,rfl⟩
  ·omega
  ·omega
 have b7:c.aB≠0:=by have:=b' e;omega
 refine aI.mk (λe=>?_) (λe=>?_)
 ·have a0:c.aB=1:=by have:=cr e;omega
  rcases dB with dB | dB | dB;·omega
  ·exact⟨_,_,.sub (.cons _ (.refl _)) .refl,rfl,rfl,0,0,.fail i j rfl rfl hi al dB.2 rfl rfl,rfl⟩
  ·omega
 have ax:c.aB≠1:=by have:=b' e;omega
 rcases dB with dB | dB | dB
 ·omega
 ·omega
 refine aJ.mk _ (eU 0 (by decide) (.head _)) ?_;exact⟨_,_,.sub (.cons _ (.refl _)) .refl,rfl,rfl,c.n,0,.is i j rfl rfl hi al dB.2.1 dB.2.2.1.symm rfl,rfl⟩
end
def O1(t:ez)(A:Nat->Nat->Prop)(C:Nat->Nat->cK)(f:(Nat->Nat->bG)->bG)(I:aN)(Mr:List aC)(v:Value)(I':aN)(M':List aC):Prop:=
 I'=I/\∃ (c:cK) (C':Nat->Nat->cK),v=c.val/\M'=ew C' t.w 0 t.bs++Mr/\kd t.P A C'/\eM t.P A f c/\n1 C C' (c.is=2)
def Jf(I:aN)(t:ez)(n:Nat):Prop:=∀ (A:Nat->Nat->Prop) (C:Nat->Nat->cK) (i j a:Nat) (Mr:List aC),zS t.N t.w C<n->kd t.P A C->(∃ h:i<t.ts.length,j<t.ts[i].ns.length)->a<=t.s.size -> Spec Tryz.prog 69 [ptr t.bt,.int .i64 i,.int .i64 j,.int .i64 a] I (ew C t.w 0 t.bs++Mr) (O1 t A C (λm=>m (t.no i j) a) I Mr)
structure Xy(I:aN)(t:ez)(i m:Nat)(y:aP)(k:Nat):Prop where
 ok:y.ok I
 at_:t.P.at_ k=zY t.g.ds (gf t.ts i) y
 mZ:∀ x∈y.kids,0<=x/\x.toNat<m
 one:6<=y.k->y.kids.length=1
 l3:y.k=6->y.hi=-1\/(0<=y.hi/\y.hi<=99)
 db:y.k=3->0<=cV y.t t.g.ds 0
 I0:y.t.size<=4096
 k:0<=y.k/\y.k<10
def ajG{a b c d:Int}(fz:∀ x∈[a,b,c,d],eF x)(x:UInt8):Spec Tryz.prog 139 [.agg #[.int .u64 a,.int .u64 b,.int .u64 c,.int .u64 d],.int .u8 x.toNat] I M0 λv I' M'=>v=.bool (jW [a,b,c,d] x.toNat)/\I'=I/\M'=M0:=by refine Spec.qH (Spec.frame (Vp fz x)) ?_;rintro v J M⟨M',rfl,-,-,rfl,rfl,rfl⟩;exact⟨rfl,rfl,rfl⟩
def Jg(a b:Nat):(min (1099511627776:Int) ((a+b:Nat):Int))=((e0 a b:Nat):Int):=by unfold e0;omega
def ajH{k:Int}(h:0<=k/\k<10)(n0:k≠0)(h6:k≠1)(iA:k≠2)(rq:k≠3)(zy:k≠4)(Xz:k≠5)(uy:k≠6):k=7\/k=8\/k=9:=by omega
def ez.ok.eZ{t:ez}(h:t.ok I){db:ByteArray}(aq:0<=cV db t.g.ds 0):∃ q r:Nat,cV db t.g.ds 0=q/\∃ aE:q<t.ts.length,t.ts[q].root=(r:Int)/\r<t.ts[q].ns.length/\(gM 0 t.g.ds).getD (cV db t.g.ds 0).toNat 0=t.no q r:=by
 obtain⟨more,hm⟩:=h.pre;have U:=Hv t.g.ds 0 aq;obtain⟨q,aE⟩:=jf aq;have fr:q<t.g.ds.length:=by omega
 have sR:q<t.ts.length:=by rw[hm];simp;omega
 have e:t.ts[q]=t.g.ds[q].t:=by
  have:(t.g.ds.map (·.t)++more)[q]?=some t.g.ds[q].t:=by rw[kJ (by rw[ei];exact fr),xN,gu fr];rfl
  rw[<-hm,gu sR]at this;simpa using this
 have an:=(h.rt _ (cO sR)).root;obtain⟨r,lp⟩:=jf an.1;refine⟨q,r,aE,sR,lp,by omega,?_⟩;have yX:=y2 0 t.g.ds;rw[aE,jA,cQ,gu (by omega:q<(gM 0 t.g.ds).length),iZ,HA 0 t.g.ds q fr (by omega),dK];unfold ez.no;rw[show gf t.ts q=cw (t.g.ds.take q) by rw[hm];exact Xd _ _ (by omega),<-e,lp];rfl
set_option maxRecDepth 100000 in
def ajI{t:ez}(a2:Jf I t n)(h:t.ok I)(av:zS t.N t.w C<n)(fc:kd t.P A C){i:Nat}(hi:i<t.ts.length)(aD:a<=t.s.size){y:aP}{gy:Nat}(aG:Xy I t i t.ts[i].ns.length y gy)(Mr:List aC) :
  Spec Tryz.prog 101 [ptr t.bt,.int .i64 i,y.val,.int .i64 a] I (ew C t.w 0 t.bs++Mr) (O1 t A C (λm=>di t.P m gy a) I Mr):=by
 have pq:=aG.at_;have hj:=aG.ok;have dP:=hj.kn;have ny:=hj.aU.cap.2;have cm:=h.sz;have j':=aG.I0;have ai:∀ {x:Int},y.k=x->(t.P.at_ gy).d.k=x:=λe=>by rw[pq];exact e
 have B2:y.k≠3->(t.P.at_ gy).asks=y.kids.map λk=>gf t.ts i+k.toNat:=λe=>by rw[pq];show k6 _ _ _=_;rw[k6,b8 e,a5]
 have O2:∀ x,x<y.kn->∃ (ec:Addr) (q:Nat),y.kX=some ec/\(∃ h:i<t.ts.length,q<t.ts[i].ns.length)/\(∀ M,bE I M (ec.add (x*1)) 1 [.int .i64 q])/\y.kids[x]?=some (q:Int):=λx ab=>by
  have h1:x<y.kids.length:=by omega
  obtain⟨ec,e6,eo⟩:=hj.aU.one (f:=λ(k:Int)=>Value.int .i64 k) ab h1;obtain⟨zD,eH⟩:=aG.mZ _ (cO h1);obtain⟨q,aE⟩:=jf zD;rw[aE]at eo;exact⟨ec,q,e6,⟨hi,by omega⟩,eo,by rw[gu h1,aE]⟩
 have eR:∀ (x q:Nat),y.kids[x]?=some (q:Int)->(y.kids.map λk=>gf t.ts i+k.toNat).drop x=t.no i q::(y.kids.map λk=>gf t.ts i+k.toNat).drop (x+1):=λx q aE=>by obtain⟨ab,e⟩:=ij.1 aE;rw[dS (by rw[ei];exact ab),jJ,e];rfl
 have jb:6<=y.k->∃ (ec:Addr) (q:Nat),y.kn=1/\y.kX=some ec/\(∃ h:i<t.ts.length,q<t.ts[i].ns.length)/\(∀ M,bE I M (ec.add (0*1)) 1 [.int .i64 q])/\(t.P.at_ gy).asks=[t.no i q]:=λbD=>by have U:=aG.one bD;obtain⟨ec,q,ax,az,bc,ct⟩:=O2 0 (by omega);refine⟨ec,q,by omega,ax,az,bc,?_⟩;rw[B2 (by omega)];have:=eR 0 q ct;rw[td]at this;rw[this,hc (by rw[ei];omega)]
 refine bC [] aS Tryz.func101 rfl rfl rfl ?_;intro B aq;refine aI.mk (λe=>?_) (λe=>?_)
 ·have a0:y.k=0:=cr e;exact⟨_,_,.refl,rfl,⟨4,a,0⟩,C,rfl,rfl,fc,.pure (.inr rfl) (zK (ai a0)),.refl⟩
 have n0:y.k≠0:=b' e;refine aI.mk (λe=>?_) (λe=>?_)
 ·have a0:y.k=1:=cr e;have ap:=λm=>zL (m:=m) (a:=a) (ai a0);have rn:t.P.s=t.s:=rfl;have gp:∀ b,qB (t.P.at_ gy).d b=jW [y.eh,y.s1,y.s2,y.fJ] b:=λb=>by rw[pq];rfl
  rw[rn]at ap;refine cL.draw aS rfl rfl rfl ?_;refine aJ.mk _ (h.e5 (j:=0) (by decide)) ?_;refine bo.mk (λg=>?_) (λg=>?_)
  ·have aL:a<t.s.size:=by have:(a:Int)<(t.s.size:Int):=cr g;omega
   have ax:t.s.data[a]?=some t.s[a]:=B' aL;refine aJ.mk _ (h.e5 (j:=0) (by decide)) ?_;refine o2.mk a rfl aL ?_;refine aT.whole _ (ajG (a:=y.eh) (b:=y.s1) (c:=y.s2) (d:=y.fJ) (λz bd=>by
    simp only[dE,Dg,or_false]at bd;rcases bd with rfl | rfl | rfl | rfl;·exact hj.eh
    ·exact hj.s1
    ·exact hj.s2
    ·exact hj.fJ) t.s[a]) ?_
   rintro v I' M' -⟨rfl,rfl,rfl⟩;refine aI.mk (λaz=>?_) (λaz=>?_);·refine aQ.mk ((a+1:Nat):Int) (e4 (by simp) (by omega)) ?_;exact⟨_,_,.refl,rfl,⟨4,a+1,0⟩,C,rfl,rfl,fc,.pure (.inr rfl) (by rw[ap,ax];simp only[gp,az,ba];rfl),.refl⟩
   ·exact⟨_,_,.refl,rfl,⟨3,0,0⟩,C,rfl,rfl,fc,.pure (.inl ⟨rfl,rfl⟩) (by rw[ap,ax];simp only[gp,az,a5];rfl),.refl⟩
  ·have c1:t.s.data.size<=a:=by have:¬ (a:Int)<(t.s.size:Int):=b' g;have aa:t.s.size=t.s.data.size:=rfl;omega
   have ax:t.s.data[a]?=none:=Array.getElem?_eq_none c1;exact⟨_,_,.refl,rfl,⟨3,0,0⟩,C,rfl,rfl,fc,.pure (.inl ⟨rfl,rfl⟩) (by rw[ap,ax];rfl),.refl⟩
 have h6:y.k≠1:=b' e;refine aI.mk (λe=>?_) (λe=>?_)
 ·have a0:y.k=2:=cr e;have ap:∀ m,di t.P m gy a=bif preB t.s y.t a then⟨0,a+y.t.size,3⟩else hW:=λm=>by rw[zM (ai a0),pq];rfl
  refine cL.draw aS rfl rfl rfl ?_;refine aJ.mk _ (h.e5 (j:=0) (by decide)) ?_;refine aQ.mk ((t.s.size-a:Nat):Int) (e4 (by omega) (by omega)) ?_;refine bo.mk (λg=>?_) (λg=>?_)
  ·have hle:a+y.t.size<=t.s.size:=by have:(y.t.size:Int)<=((t.s.size-a:Nat):Int):=cr g;omega
   refine aJ.mk _ (h.e5 (j:=0) (by decide)) ?_;refine aQ.mk ((a+y.t.size:Nat):Int) (e4 (by omega) (by omega)) ?_;refine i'.mk a (a+y.t.size) rfl rfl (by omega) hle ?_;refine aI.mk (λaz=>?_) (λaz=>?_)
   ·have aO:preB t.s y.t a=true:=by unfold preB;rw[fA hle];exact az
    refine aQ.mk ((a+y.t.size:Nat):Int) (e4 (by omega) (by omega)) ?_;exact⟨_,_,.refl,rfl,⟨4,a+y.t.size,0⟩,C,rfl,rfl,fc,.pure (.inr rfl) (by rw[ap,aO];rfl),.refl⟩
   ·have aO:preB t.s y.t a=false:=by unfold preB;rw[fA hle];exact az
    exact⟨_,_,.refl,rfl,⟨3,0,0⟩,C,rfl,rfl,fc,.pure (.inl ⟨rfl,rfl⟩) (by rw[ap,aO];rfl),.refl⟩
  ·have hle:¬ a+y.t.size<=t.s.size:=by have:¬ (y.t.size:Int)<=((t.s.size-a:Nat):Int):=b' g;omega
   have aO:preB t.s y.t a=false:=by unfold preB;rw[b8 hle];rfl
   exact⟨_,_,.refl,rfl,⟨3,0,0⟩,C,rfl,rfl,fc,.pure (.inl ⟨rfl,rfl⟩) (by rw[ap,aO];rfl),.refl⟩
 have iA:y.k≠2:=b' e;refine aI.mk (λe=>?_) (λe=>?_)
 ·have a0:y.k=3:=cr e;obtain⟨q,r,aE,sR,an,jl,AA⟩:=h.eZ (aG.db a0);have has:(t.P.at_ gy).asks=[t.no q r]:=by rw[pq];show k6 _ _ _=_;rw[k6,fA a0,ba,AA]
  obtain⟨ad,bR,bh⟩:=h.body sR;have O3:∀ M,bE I M ((ad.add (q*2)).add 1) 1 [.int .i64 r]:=λM=>by have:=(bh M).part (k:=1) (m:=1) (by decide);unfold bJ.cells at this;rw[an]at this;exact this
  refine cL.draw aS rfl rfl rfl ?_;refine aJ.mk _ (h.e5 (j:=1) (by decide)) ?_;refine aT.whole _ (agD h.g y.t aE) ?_;rintro v I' M' -⟨rfl,rfl,rfl⟩;refine aJ.mk _ (h.e5 (j:=2) (by decide)) ?_;refine a6.mk ad q bR rfl sR ?_;refine aJ.mk _ (O3 _) ?_;refine aT.whole _ (a2 A C q r a Mr av fc ⟨sR,jl⟩ aD) ?_;rintro v dQ dt -⟨rfl,c,C',rfl,rfl,XA,dk,b1⟩;exact⟨_,_,.refl,rfl,c,C',rfl,rfl,XA,ahL dk (ai a0) has,b1⟩
 have rq:y.k≠3:=b' e;have has:=B2 rq;refine aI.mk (λe=>?_) (λe=>?_)
 ·have a0:y.k=4:=cr e;have ap:ka t.P (λm=>di t.P m gy a) (λm=>gB m ((y.kids.map λk=>gf t.ts i+k.toNat).drop 0) a 0):=by rw[td,show(λm=>di t.P m gy a)=λm=>gB m (y.kids.map λk=>gf t.ts i+k.toNat) a 0 from funext λm=>by rw[zN (ai a0),has]];exact .refl
  refine cD.inv (ι:=Nat×Nat×Nat×(Nat->Nat->cK)) (λx=>{ bA:=[(0,.val (ptr t.bt)),(1,.val (.int .i64 i)),(6,.ref 6 0),(8,.ref 8 0),(11,.val (.int .i64 x.2.1)),(12,.val (.int .i64 x.2.2.1)),(13,.val (.int .i64 x.1))],cl:=[(6,y.cells),(8,cK.cells ⟨0,0,0⟩)],cj:=I,dx:=ew x.2.2.2 t.w 0 t.bs++Mr }) (λx=>x.1<=y.kn/\x.2.1<=t.s.size/\x.2.2.1<=1099511627776/\kd t.P A x.2.2.2/\n1 C x.2.2.2 False/\ka t.P (λm=>di t.P m gy a) (λm=>gB m ((y.kids.map λk=>gf t.ts i+k.toNat).drop x.1) x.2.1 x.2.2.1)) (λx=>y.kn-x.1) ?_ ?_;·exact⟨(0,a,0,C),⟨bj _,aD,bj _,fc,.refl,ap⟩,.refl,lT,.cons rfl (.cons rfl (.nil))⟩
  rintro⟨x,aW,iL,rV⟩⟨ab,la,sC,pV,iY,br⟩;simp only at ab la sC pV iY br;refine aI.mk (λe=>?_) (λe=>?_)
  ·have aL:x<y.kn:=by simpa using e
   obtain⟨ec,q,e6,aE,eo,Ff⟩:=O2 x aL;rw[eR x q Ff]at br;refine a6.mk ec x e6 rfl aL ?_;refine aJ.mk _ (eo _) ?_;refine aT.whole _ (a2 A rV i q aW Mr (DL (IZ iY) av) pV aE la) ?_;rintro v dQ dt -⟨rfl,c,fx,rfl,rfl,ih,dk,b1⟩;refine aI.mk (λaz=>?_) (λaz=>?_)
   ·have zy:c.is≠4:=λbc=>by rw[bc]at az;cases az
    have ajJ:eM t.P A (λm=>di t.P m gy a) ⟨c.is,0,0⟩:=by
     refine eM.aW ?_ br;rcases dk.is with bc | bc | bc;·exact ahD dk bc bc
     ·rw[bc];exact ahE dk bc 0
     ·exact absurd bc zy
    exact⟨_,_,.refl,rfl,⟨c.is,0,0⟩,fx,rfl,rfl,ih,ajJ,iY.trans b1 (λx=>x.elim) (λx=>x)⟩
   ·have ct:c.is=4:=by
     have:¬ ((c.is:Int)≠4):=λag=>by have aK:(!decide ((c.is:Int)=4))=false:=az;rw[b8 ag]at aK;cases aK
     omega
    have n2:=dk.rg ct;refine aQ.mk ((iL+c.n:Nat):Int) (e4 (show(iL:Int)+(c.n:Int)=_ by omega) (by omega)) ?_;refine aQ.mk _ (bU (i:=x) (by omega)) ?_;exact⟨(x+1,c.aW,e0 iL c.n,fx),⟨⟨aL,n2.2.1 la,pP _ _,ih,iY.trans b1 (λx=>x) (λx=>by omega),br.trans (ahF dk ct)⟩,by simp only;omega⟩,.refl,
     .cons .refl (.cons .refl (.cons .refl (.cons .refl (.cons .refl (.cons (pE (by
      show Value.int .i64 ((e0 iL c.n:Nat):Int)=.int .i64 (min (1099511627776:Int) ((iL+c.n:Nat):Int));rw[Jg])) (.cons .refl .nil)))))),.cons rfl (.cons rfl (.nil))⟩
  ·have c1:y.kn<=x:=by simpa using e
   rw[hc (by rw[ei];omega)]at br;exact⟨_,_,.refl,rfl,⟨4,aW,iL⟩,rV,rfl,rfl,pV,ahC.aW br,iY.q4 λx=>x.elim⟩
 have zy:y.k≠4:=b' e;refine aI.mk (λe=>?_) (λe=>?_)
 ·have a0:y.k=5:=cr e;have ap:ka t.P (λm=>di t.P m gy a) (λm=>gP m ((y.kids.map λk=>gf t.ts i+k.toNat).drop 0) a):=by rw[td,show(λm=>di t.P m gy a)=λm=>gP m (y.kids.map λk=>gf t.ts i+k.toNat) a from funext λm=>by rw[zO (ai a0),has]];exact .refl
  refine cD.inv (ι:=Nat×(Nat->Nat->cK)) (λx=>{ bA:=[(0,.val (ptr t.bt)),(1,.val (.int .i64 i)),(3,.val (.int .i64 a)),(6,.ref 6 0),(8,.ref 8 0),(9,.ref 9 0),(15,.val (.int .i64 x.1))],cl:=[(6,y.cells),(8,cK.cells ⟨0,0,0⟩),(9,cK.cells ⟨3,0,0⟩)],cj:=I,dx:=ew x.2 t.w 0 t.bs++Mr }) (λx=>x.1<=y.kn/\kd t.P A x.2/\n1 C x.2 False/\ka t.P (λm=>di t.P m gy a) (λm=>gP m ((y.kids.map λk=>gf t.ts i+k.toNat).drop x.1) a)) (λx=>y.kn-x.1) ?_ ?_;·exact⟨(0,C),⟨bj _,fc,.refl,ap⟩,.refl,lT,.cons rfl (.cons rfl (.cons rfl (.nil)))⟩
  rintro⟨x,rV⟩⟨ab,pV,iY,br⟩;simp only at ab pV iY br;refine aI.mk (λe=>?_) (λe=>?_)
  ·have aL:x<y.kn:=by simpa using e
   obtain⟨ec,q,e6,aE,eo,Ff⟩:=O2 x aL;rw[eR x q Ff]at br;refine a6.mk ec x e6 rfl aL ?_;refine aJ.mk _ (eo _) ?_;refine aT.whole _ (a2 A rV i q a Mr (DL (IZ iY) av) pV aE aD) ?_;rintro v dQ dt -⟨rfl,c,fx,rfl,rfl,ih,dk,b1⟩;refine aI.mk (λaz=>?_) (λaz=>?_)
   ·have rq:c.is≠3:=λbc=>by rw[bc]at az;cases az
    exact⟨_,_,.refl,rfl,c,fx,rfl,rfl,ih,(ahI dk rq).aW br,iY.trans b1 (λx=>x.elim) (λx=>x)⟩
   ·have bc:c.is=3:=by
     have:¬ ((c.is:Int)≠3):=λag=>by have aK:(!decide ((c.is:Int)=3))=false:=az;rw[b8 ag]at aK;cases aK
     omega
    refine aQ.mk _ (bU (i:=x) (by omega)) ?_;exact⟨(x+1,fx),⟨⟨aL,ih,iY.trans b1 (λx=>x) (λx=>by omega),br.trans (ahH dk bc)⟩,by simp only;omega⟩,.refl,lT,.cons rfl (.cons rfl (.cons rfl (.nil)))⟩
  ·have c1:y.kn<=x:=by simpa using e
   rw[hc (by rw[ei];omega)]at br;exact⟨_,_,.refl,rfl,⟨3,0,0⟩,rV,rfl,rfl,pV,(ahG 0).aW br,iY.q4 λx=>x.elim⟩
 have Xz:y.k≠5:=b' e;refine aI.mk (λe=>?_) (λe=>?_)
 ·have a0:y.k=6:=cr e;obtain⟨ec,q,ajK,e6,aE,eo,uz⟩:=jb (by omega);have st:=aG.l3 a0;have amI:=hj.lo;have eX:(t.P.at_ gy).d.hi=y.hi:=by rw[pq];rfl
  have dX:(t.P.at_ gy).d.lo=y.lo:=by rw[pq];rfl
  have jr:(t.P.at_ gy).asks.getD 0 0=t.no i q:=by rw[uz];rfl
  have rn:t.P.s=t.s:=rfl;obtain⟨N,gp⟩:∃ N,BP t.P (t.P.at_ gy).d a=N:=⟨_,rfl⟩;have Jh:(y.hi=-1->N=t.s.size+1-a)/\(y.hi≠-1->N=y.hi.toNat):=by rw[<-gp];unfold BP;rw[eX,rn];refine⟨λax=>by rw[fA ax];rfl,λax=>by rw[b8 ax];rfl⟩
  have ap:ka t.P (λm=>di t.P m gy a) (λm=>eu m (t.no i q) y.lo y.hi (N-0) 0 a 0):=by rw[show(λm=>di t.P m gy a)=λm=>eu m (t.no i q) y.lo y.hi (N-0) 0 a 0 from funext λm=>by rw[vG (ai a0),gp,dX,eX,jr];rfl];exact .refl
  refine cD.inv (ι:=Nat×Nat×Nat×(Nat->Nat->cK)) (λx=>{ bA:=[(0,.val (ptr t.bt)),(1,.val (.int .i64 i)),(6,.ref 6 0),(8,.ref 8 0),(9,.ref 9 0),(17,.val (.int .i64 x.2.1)),(18,.val (.int .i64 x.2.2.1)),(19,.val (.int .i64 x.1))],cl:=[(6,y.cells),(8,cK.cells ⟨0,0,0⟩),(9,cK.cells ⟨3,0,0⟩)],cj:=I,dx:=ew x.2.2.2 t.w 0 t.bs++Mr }) (λx=>x.1<=N/\x.2.1<=t.s.size/\(y.hi=-1->a+x.1<=x.2.1)/\x.2.2.1<=1099511627776/\kd t.P A x.2.2.2/\n1 C x.2.2.2 False/\ka t.P (λm=>di t.P m gy a) (λm=>eu m (t.no i q) y.lo y.hi (N-x.1) x.1 x.2.1 x.2.2.1)) (λx=>N-x.1) ?_ ?_;·exact⟨(0,a,0,C),⟨bj _,aD,λ_=>b6 _,bj _,fc,.refl,ap⟩,.refl,uL,.cons rfl (.cons rfl (.cons rfl (.nil)))⟩
  rintro⟨x,aW,iL,rV⟩⟨ab,la,c1,sC,pV,iY,br⟩;simp only at ab la c1 sC pV iY br;have amJ:N<=4200:=by
   by_cases ax:y.hi=-1;·have:=Jh.1 ax;omega
   ·have:=Jh.2 ax;omega
  have loop:∀ {F:Prop},True:=fun {F}=>trivial;refine bo.mk (λg=>?_) (λg=>?_)
  ·have bk:¬ y.hi<0:=b' g;have ajL:=Jh.2 (by omega);refine aI.mk (λaz=>?_) (λaz=>?_)
   ·have aL:x<N:=by have:(x:Int)<y.hi:=cr az;omega
    obtain⟨j,al⟩:∃ j,N-x=j+1:=⟨N-x-1,by omega⟩;have gm:N-(x+1)=j:=by omega
    rw[al]at br;refine a6.mk ec 0 e6 rfl (by omega) ?_;refine aJ.mk _ (eo _) ?_;refine aT.whole _ (a2 A rV i q aW Mr (DL (IZ iY) av) pV aE la) ?_;rintro v dQ dt -⟨rfl,c,fx,rfl,rfl,ih,dk,b1⟩;refine aI.mk (λbc=>?_) (λbc=>?_)
    ·have i3:c.is=3:=by have:((c.is:Nat):Int)=3:=cr bc;omega
     refine aI.mk (λct=>?_) (λct=>?_);·exact⟨_,_,.refl,rfl,⟨3,0,0⟩,fx,rfl,rfl,ih,(WH dk i3 (cr ct) 0).aW br,iY.trans b1 (λx=>x.elim) (λx=>by omega)⟩
     ·exact⟨_,_,.refl,rfl,⟨4,aW,iL⟩,fx,rfl,rfl,ih,(WI dk i3 (b' ct)).aW br,iY.trans b1 (λx=>x.elim) (λx=>by omega)⟩
    have i3:c.is≠3:=by have:¬ ((c.is:Nat):Int)=3:=b' bc;omega
    refine bo.mk (λaV=>?_) (λaV=>?_)
    rotate_left
    ·have i2:c.is=2:=by have:((c.is:Nat):Int)=2:=cr aV;omega
     exact⟨_,_,.refl,rfl,⟨2,0,0⟩,fx,rfl,rfl,ih,(WG dk i2 rfl).aW br,iY.trans b1 (λx=>x.elim) (λx=>rfl)⟩
    have i2:c.is≠2:=by have:¬ ((c.is:Nat):Int)=2:=b' aV;omega
    have i4:c.is=4:=by have:=dk.is;omega
    have n2:=dk.rg i4;refine bo.mk (λbl=>absurd (cr bl) bk) (λbl=>?_);refine aQ.mk ((iL+c.n:Nat):Int) (e4 (show(iL:Int)+(c.n:Int)=_ by omega) (by omega)) ?_;refine aQ.mk _ (bU (i:=x) (by omega)) ?_;exact⟨(x+1,c.aW,e0 iL c.n,fx),⟨⟨by simp only;omega,n2.2.1 la,λU=>by omega,pP _ _,ih,iY.trans b1 (λx=>x) (λx=>by omega),br.trans (by rw[gm];exact WJ dk i4 λU=>by omega)⟩,by simp only;omega⟩,.refl,
     .cons .refl (.cons .refl (.cons .refl (.cons .refl (.cons .refl (.cons .refl (.cons (pE (by
      show Value.int .i64 ((e0 iL c.n:Nat):Int)=.int .i64 (min (1099511627776:Int) ((iL+c.n:Nat):Int));rw[Jg])) (.cons .refl .nil))))))),.cons rfl (.cons rfl (.cons rfl (.nil)))⟩
   ·have aL:N<=x:=by have:¬ (x:Int)<y.hi:=b' az;omega
    rw[show N-x=0 by omega]at br;exact⟨_,_,.refl,rfl,⟨4,aW,iL⟩,rV,rfl,rfl,pV,(ahK (by omega)).aW br,iY.q4 λx=>x.elim⟩
  ·have Xm:y.hi<0:=cr g;have bI:y.hi=-1:=by omega
   have ajL:=Jh.1 bI;have amK:=c1 bI;have aL:x<N:=by omega
   obtain⟨j,al⟩:∃ j,N-x=j+1:=⟨N-x-1,by omega⟩;have gm:N-(x+1)=j:=by omega
   rw[al]at br;refine a6.mk ec 0 e6 rfl (by omega) ?_;refine aJ.mk _ (eo _) ?_;refine aT.whole _ (a2 A rV i q aW Mr (DL (IZ iY) av) pV aE la) ?_;rintro v dQ dt -⟨rfl,c,fx,rfl,rfl,ih,dk,b1⟩;refine aI.mk (λbc=>?_) (λbc=>?_)
   ·have i3:c.is=3:=by have:((c.is:Nat):Int)=3:=cr bc;omega
    refine aI.mk (λct=>?_) (λct=>?_);·exact⟨_,_,.refl,rfl,⟨3,0,0⟩,fx,rfl,rfl,ih,(WH dk i3 (cr ct) 0).aW br,iY.trans b1 (λx=>x.elim) (λx=>by omega)⟩
    ·exact⟨_,_,.refl,rfl,⟨4,aW,iL⟩,fx,rfl,rfl,ih,(WI dk i3 (b' ct)).aW br,iY.trans b1 (λx=>x.elim) (λx=>by omega)⟩
   have i3:c.is≠3:=by have:¬ ((c.is:Nat):Int)=3:=b' bc;omega
   refine bo.mk (λaV=>?_) (λaV=>?_)
   rotate_left
   ·have i2:c.is=2:=by have:((c.is:Nat):Int)=2:=cr aV;omega
    exact⟨_,_,.refl,rfl,⟨2,0,0⟩,fx,rfl,rfl,ih,(WG dk i2 rfl).aW br,iY.trans b1 (λx=>x.elim) (λx=>rfl)⟩
   have i2:c.is≠2:=by have:¬ ((c.is:Nat):Int)=2:=b' aV;omega
   have i4:c.is=4:=by have:=dk.is;omega
   have n2:=dk.rg i4;refine bo.mk (λbl=>?_) (λbl=>absurd Xm (b' bl));refine aI.mk (λej=>?_) (λej=>?_)
   ·have gz:c.aW=aW:=by have:((c.aW:Nat):Int)=(aW:Int):=cr ej;omega
    exact⟨_,_,.refl,rfl,⟨2,0,0⟩,fx,rfl,rfl,ih,(ahJ dk i4 bI gz rfl).aW br,iY.trans b1 (λx=>x.elim) (λx=>rfl)⟩
   ·have gz:c.aW≠aW:=by have:¬ ((c.aW:Nat):Int)=(aW:Int):=b' ej;omega
    refine aQ.mk ((iL+c.n:Nat):Int) (e4 (show(iL:Int)+(c.n:Int)=_ by omega) (by omega)) ?_;refine aQ.mk _ (bU (i:=x) (by omega)) ?_;exact⟨(x+1,c.aW,e0 iL c.n,fx),⟨⟨by simp only;omega,n2.2.1 la,λU=>by have:=c1 U;simp only;omega,pP _ _,ih,iY.trans b1 (λx=>x) (λx=>by omega),br.trans (by rw[gm];exact WJ dk i4 λU=>gz U.2)⟩,by simp only;omega⟩,.refl,
     .cons .refl (.cons .refl (.cons .refl (.cons .refl (.cons .refl (.cons .refl (.cons (pE (by
      show Value.int .i64 ((e0 iL c.n:Nat):Int)=.int .i64 (min (1099511627776:Int) ((iL+c.n:Nat):Int));rw[Jg])) (.cons .refl .nil))))))),.cons rfl (.cons rfl (.cons rfl (.nil)))⟩
 have uy:y.k≠6:=b' e;have I6:=aG.k;have O4:=ajH I6 n0 h6 iA rq zy Xz uy;obtain⟨ec,q,ajK,e6,aE,eo,uz⟩:=jb (by omega);refine a6.mk ec 0 e6 rfl (by omega) ?_;refine aJ.mk _ (eo _) ?_;refine aT.whole _ (a2 A C i q a Mr av fc aE aD) ?_;rintro v dQ dt -⟨rfl,c,fx,rfl,rfl,ih,dk,b1⟩;refine aI.mk (λbc=>?_) (λbc=>?_)
 ·have i2:c.is=2:=by have:((c.is:Nat):Int)=2:=cr bc;omega
  refine⟨_,_,.refl,rfl,c,fx,rfl,rfl,ih,?_,b1⟩;have eg:=λe=>OC dk (ai (x:=7) e) uz;have eU:=λe=>OD dk (ai (x:=8) e) uz;have eK:=λe=>WK dk (ai (x:=9) e) uz;rw[i2]at eg eU eK;rcases O4 with e | e | e;·exact eg e
  ·exact eU e
  ·exact eK e
 have i2:c.is≠2:=by have:¬ ((c.is:Nat):Int)=2:=b' bc;omega
 have XB:=dk.is;refine bo.mk (λg=>?_) (λg=>?_)
 ·have zG:y.k=9:=cr g;have eK:=WK dk (ai (x:=9) zG) uz;refine aI.mk (λct=>?_) (λct=>?_)
  ·have i4:c.is=4:=by have:((c.is:Nat):Int)=4:=cr ct;omega
   have n2:=dk.rg i4;rw[i4]at eK;refine aQ.mk ((c.n+1:Nat):Int) (e4 (show(c.n:Int)+1=_ by omega) (by omega)) ?_;refine⟨_,_,.refl,rfl,⟨4,c.aW,e0 c.n 1⟩,fx,?_,rfl,ih,eK,b1.q4 λx=>by omega⟩;show Value.agg #[.int .i64 4,.int .i64 c.aW,.int .i64 (min (1099511627776:Int) ((c.n+1:Nat):Int))]=_;rw[Jg];rfl
  ·have i3:c.is=3:=by have:¬ ((c.is:Nat):Int)=4:=b' ct;omega
   rw[i3]at eK;refine aI.mk (λej=>?_) (λej=>absurd zG (b' ej));exact⟨_,_,.refl,rfl,⟨3,0,0⟩,fx,rfl,rfl,ih,eK,b1.q4 λx=>by omega⟩
 have zG:¬ y.k=9:=b' g;refine aI.mk (λej=>absurd (cr ej) zG) (λej=>?_);refine aI.mk (λgz=>?_) (λgz=>?_)
 ·have af:decide (y.k=7)=decide ((c.is:Int)=4):=eq_of_beq gz;refine⟨_,_,.refl,rfl,⟨4,a,0⟩,fx,rfl,rfl,ih,?_,b1.q4 λx=>by omega⟩;rcases O4 with e | e | e
  ·have i4:c.is=4:=by rw[fA e]at af;have:=cr af.symm;omega
   have eg:=OC dk (ai (x:=7) e) uz;rw[i4]at eg;exact eg
  ·have i3:c.is=3:=by rw[b8 (by omega)]at af;have:=b' af.symm;omega
   have eU:=OD dk (ai (x:=8) e) uz;rw[i3]at eU;exact eU
  ·exact absurd e zG
 ·have af:decide (y.k=7)≠decide ((c.is:Int)=4):=λx=>by rw[x,z8]at gz;cases gz
  refine⟨_,_,.refl,rfl,⟨3,0,0⟩,fx,rfl,rfl,ih,?_,b1.q4 λx=>by omega⟩;rcases O4 with e | e | e
  ·have i3:c.is=3:=by
    rcases XB with x | x | x;·exact absurd x i2
    ·exact x
    ·exact absurd (by rw[fA e,fA (by omega)]) af
   have eg:=OC dk (ai (x:=7) e) uz;rw[i3]at eg;exact eg
  ·have i4:c.is=4:=by
    rcases XB with x | x | x;·exact absurd x i2
    ·exact absurd (by rw[b8 (by omega),b8 (by omega)]) af
    ·exact x
   have eU:=OD dk (ai (x:=8) e) uz;rw[i4]at eU;exact eU
  ·exact absurd e zG
def ez.ok.ajM{t:ez}(h:t.ok I){i:Nat}(hi:i<t.ts.length)(al:j<t.ts[i].ns.length):Xy I t i t.ts[i].ns.length t.ts[i].ns[j] (t.no i j):=by
 have hm:=cO hi;have xp:=cO al;have aZ:=h.rt _ hm;have ai:=(h.ts _ hm).ns _ xp;have aw:=aZ.fits j al;have IF:=ID ai.k.1 aw;have h2:=yA aw;refine⟨ai,ez.at_ hi al,λx ab=>?_,λe=>?_,λe=>?_,λe=>h.db _ hm _ xp e,(by have:=h2.t;omega),ai.k.1,?_⟩
 ·have:=aZ.kids j al x ab;omega
 ·have:=IF.one e;omega
 ·have:=h2.l3 e;omega
 ·exact h2.k
def ajN{k b w:Nat}(ae:k<bs.length)(af:bs[k]?=some b)(aD:a<w)(aA:vs=c.cells){pre:List aC}
 (a7:M=pre++(ew C w 0 bs++Mr)) (h:K (pre++(ew (kc C k a c) w 0 bs++Mr))):cX M ((⟨b,0,none⟩:Addr).add (a*3)) vs K:=by
 have:=Xg (o:=0) (c:=c) ae af aD (vs:=vs) (by subst aA;rfl) (by subst aA;exact b6 _) (by subst aA;rfl) a7 h;have ax:(⟨b,0,none⟩:Addr).add (a*3)=⟨b,a*3,none⟩:=by rw[d' _ rfl,dK]
 rw[ax]at this |-;rw[d' _ rfl]at this;exact this
set_option maxRecDepth 100000 in
def ajO{t:ez}(a2:Jf I t n)(h:t.ok I):Jf I t (n+1):=by
 rintro A C i j a Mr av fc⟨hi,al⟩aD;obtain⟨ac,ie,eb,eG,b,Fp,hp,-,lp,ls,af⟩:=h.cell hi al;obtain⟨ad,bR,wX⟩:=h.body hi;have rT:=h.ajM hi al;have zq:=h.ts _ (cO hi);have kz:=zq.n;obtain⟨fi,kA,hb⟩:=zq.aU.row aP.c0 (j:=j) (by omega) al;have ke:a<t.w:=by show a<t.s.size+1;omega
 have p6:=ez.Xf hi al;refine bC [] aS Tryz.func69 rfl rfl rfl ?_;intro B aq;refine aJ.mk _ (h.e5 (j:=3) (by decide)) ?_;refine a6.mk ac i Fp rfl hi ?_;refine aJ.mk _ (hp _) ?_;refine a6.mk ie j rfl rfl al ?_;refine aJ.mk _ (lp _) ?_;refine a6.mk ⟨b,0,none⟩ a rfl rfl ke ?_;refine aJ.mk _ (aja ls af ke) ?_;refine aI.mk (λe=>?_) (λe=>?_)
 ·have ax:(C (t.no i j) a).is=1:=by have:(((C (t.no i j) a).is:Nat):Int)=1:=cr e;omega
  exact⟨_,_,.refl,rfl,⟨2,0,0⟩,C,rfl,rfl,fc,fc.asked ax 0 0,.refl⟩
 have ax:(C (t.no i j) a).is≠1:=by have:¬ (((C (t.no i j) a).is:Nat):Int)=1:=b' e;omega
 refine aI.mk (λaz=>?_) (λaz=>?_)
 ·have b7:(C (t.no i j) a).is≠0:=λbc=>by rw[bc]at az;cases az
  exact⟨_,_,.refl,rfl,C (t.no i j) a,C,rfl,rfl,fc,fc.known b7 ax,.refl⟩
 have b7:(C (t.no i j) a).is=0:=by
  have:¬ (((C (t.no i j) a).is:Int)≠0):=λag=>by have aK:(!decide (((C (t.no i j) a).is:Int)=0))=false:=az;rw[b8 ag]at aK;cases aK
  omega
 obtain⟨dw,sw⟩:∃ dw:cK,dw=⟨1,(C (t.no i j) a).aW,(C (t.no i j) a).n⟩:=⟨_,rfl⟩;have O5:dw.is=1:=by rw[sw]
 refine aJ.mk _ (h.e5 (j:=3) (by decide)) ?_;refine a6.mk ac i Fp rfl hi ?_;refine aJ.mk _ (hp _) ?_;refine a6.mk ie j rfl rfl al ?_;refine aJ.mk _ (lp _) ?_;refine a6.mk ⟨b,0,none⟩ a rfl rfl ke ?_;refine Xg (c:=dw) ls af ke (by rw[sw];rfl) (bB rfl) rfl (pre:=[]) rfl ?_;have pV:=fc.push (k:=t.no i j) (a:=a) O5;have tu:zS t.N t.w (kc C (t.no i j) a dw)<n:=by have:=ahB (C:=C) (c:=dw) (N:=t.N) (w:=t.w) p6 ke b7 O5;omega
 refine aJ.mk _ (h.e5 (j:=2) (by decide)) ?_;refine a6.mk ad i bR rfl hi ?_;refine aJ.mk _ ((wX _).part (k:=0) (m:=1) (by decide)) ?_;refine a6.mk fi j kA rfl (by omega) ?_;refine aJ.mk _ (hb _) ?_;refine aT.whole _ (ajI a2 h tu pV hi aD rT Mr) ?_;rintro v dQ dt -⟨rfl,c,fx,rfl,rfl,ih,dk,b1⟩;obtain⟨qk,ql,rp⟩:=kd.pop b7 fc O5 ih dk b1;refine cL.draw aS rfl rfl rfl ?_;refine aJ.mk _ (h.e5 (j:=3) (by decide)) ?_;refine a6.mk ac i Fp rfl hi ?_;refine aJ.mk _ (hp _) ?_;refine a6.mk ie j rfl rfl al ?_;refine aJ.mk _ (lp _) ?_;refine a6.mk ⟨b,0,none⟩ a rfl rfl ke ?_;refine ajN (c:=c) ls af ke rfl (pre:=[]) rfl ?_;exact⟨_,_,.refl,rfl,c,_,rfl,rfl,qk,ql,rp⟩
def XC{I:aN}{t:ez}(h:t.ok I):∀ n,Jf I t n
 |0=>λA C i j a Mr av=>absurd av (EI _)
 |n+1=>ajO (XC h n) h
def ajP{t:ez}(h:t.ok I)(fc:kd t.P A C){i:Nat}(ajQ:∃ h:i<t.ts.length,j<t.ts[i].ns.length)(aD:a<=t.s.size)(Mr:List aC) :
  Spec Tryz.prog 69 [ptr t.bt,.int .i64 i,.int .i64 j,.int .i64 a] I (ew C t.w 0 t.bs++Mr) (O1 t A C (λm=>m (t.no i j) a) I Mr):=
 XC h _ A C i j a Mr (Cd _) fc ajQ aD
def dW.ajR{a:Option Addr}{c b:Nat}(h:dW I a n c size b vs)(M:List aC)(aq:0<n):∃ ad,a=some ad/\bE I M ad (n*size) vs:=by
 rcases h.rd with U | ⟨ad,U,aa,cs,T,aj,ag,aK⟩
 ·omega
 ·exact⟨ad,U,aa,cs,T,aj,.inl ag,aK,h.len⟩
def ajS(l:List α)(x:α){q:Nat}(h:l.length=q):(l++[x])[q]?=some x:=by subst h;exact J2
def ajT{M':List aC}(aw:∀ g,os.a=some g->g ∉ bP)(h:hP bP (oW J os e) post I' M'):hP bP J (os.aY e++post) I' M':=by
 obtain⟨a,n,c,cur⟩:=os;cases a with
 |none=>exact h| some g=>exact .pZ rfl (aw g rfl) h
def kf:Nat->Nat->cK:=λ_ _=>⟨0,0,0⟩
def ajU(k w:Nat):rowOf (cK.cells ⟨0,0,0⟩) (w*3)=oX kf k w:=by
 induction w with
 |zero=>rfl
 |succ w a2=>
  have e:(w+1)*3=w*3+3:=by omega
  have az:rowOf (cK.cells ⟨0,0,0⟩) ((w+1)*3)=rowOf (cK.cells ⟨0,0,0⟩) (w*3)++cK.cells ⟨0,0,0⟩:=by
   unfold rowOf;rw[e,MJ,gg];congr 1;apply wi (by rfl);intro i U aa;simp only[jJ,mb];have ag:i<3:=by simpa using U
   have aK:(w*3+i)%(cK.cells ⟨0,0,0⟩).length=i:=by show(w*3+i)%3=i;omega
   rw[aK]
   match i,ag with
   |0,_=>rfl| 1,_=>rfl| 2,_=>rfl
  rw[az,a2];unfold oX;rw[zx,lr];rfl
def XD(C:Nat->Nat->cK)(w:Nat):∀ (bs:List Nat) (k b:Nat),ew C w k (bs++[b])=ew C w k bs++[sO C w (k+bs.length) b]
 |[],k,b=>rfl| a::bs,k,b=>by rw[p7,ew,ew,XD C w bs (k+1) b,p7,c5,show k+1+bs.length=k+(bs.length+1) by omega]
def sS(bs:List Nat)(base k w:Nat):List Value:=(List.range k).map λj=>Value.slice (some ⟨bs.getD (base+j) 0,0,none⟩) w w
def XE{w:Nat}(h:base+n<=bs.length):sS (bs++L) base n w=sS bs base n w:=by unfold sS;refine Ar λj al=>?_;have:=kk.1 al;rw[cQ,cQ,kJ (by omega)]
def ajV{k w b:Nat}(h:bs.length=base+k):sS (bs++[b]) base (k+1) w=sS bs base k w++[.slice (some ⟨b,0,none⟩) w w]:=by
 have U:sS (bs++[b]) base (k+1) w=sS (bs++[b]) base k w++[.slice (some ⟨(bs++[b]).getD (base+k) 0,0,none⟩) w w]:=by unfold sS;rw[zx,gg];rfl
 rw[U,XE (by omega),<-h,cQ,J2];rfl
structure ez.mem(I:aN)(t:ez):Prop where
 aB:I t.bt=some (.cells t.bT.toArray 115 (0,0))
 g:t.g.ok I
 lF:dW I t.ev t.ts.length t.OU 2 32 (t.ts.flatMap bJ.cells)
 ts:∀ x∈t.ts,x.ok I
 cl:dW I t.B6 t.ts.length t.Fv 1 24 t.qN
 md:∀ i (h:i<t.ts.length),∃ ie eb,t.qN[i]?=some (.slice ie t.ts[i].ns.length eb)/\dW I ie t.ts[i].ns.length eb 1 24 (sS t.bs (gf t.ts i) t.ts[i].ns.length t.w)
 A4:t.bs.length=t.N
def ez.mem.ok{t:ez}(h:t.mem I)(rt:∀ x∈t.ts,y1 x)(db:∀ x∈t.ts,∀ n∈x.ns,n.k=3->0<=cV n.t t.g.ds 0)(pre:∃ more,t.ts=t.g.ds.map (·.t)++more)(sz:t.s.size<=4096):t.ok I:=
 ⟨h.aB,h.g,h.lF,h.ts,h.cl,h.md,h.A4,rt,db,pre,sz⟩
def XF:∀ l:List bJ,gS (l.flatMap bJ.cells)=true
 |[]=>rfl| t::l=>by have:=XF l;unfold gS at this |-;rw[og,Dh,this];rfl
def m5(bt:Nat)(s:ByteArray)(g:b3)(bv xi:Value):aC:=⟨bt,.cells [.string s,.slice g.a g.n g.c,bv,xi].toArray 115 (0,0)⟩
def Fy{s:ByteArray}{g:b3}{bv xi:Value}(a7:m5 bt s g bv xi∈M)(al:j<4):bE I M ((⟨bt,0,none⟩:Addr).add j) 1 [([.string s,.slice g.a g.n g.c,bv,xi]:List Value).getD j undef]:=by
 have h:=dM (I:=I) (cs:=[.string s,.slice g.a g.n g.c,bv,xi]) (k:=j) (n:=1) a7 (by show j+1<=4;omega);have:(([.string s,.slice g.a g.n g.c,bv,xi]:List Value).drop j).take 1=[([.string s,.slice g.a g.n g.c,bv,xi]:List Value).getD j undef]:=by
  match j,al with
  |0,_=>rfl| 1,_=>rfl| 2,_=>rfl| 3,_=>rfl
 rwa [this]at h
structure ajW(I J:aN)(s:ByteArray)(ts:List bJ)(hM:bn)(i:Nat)(hN:bn)(qN:List Value)(bs:List Nat):Prop where
 ii:i<=ts.length
 le:∀ b o,I b=some o->J b=some o
 lF:dW J (hM.a.map λg=>⟨g,0,none⟩) ts.length hM.c 2 32 (ts.flatMap bJ.cells)
 n:hN.n=i
 ok:hN.ok 1 qN
 A4:bs.length=gf ts i
 md:∀ q (h:q<ts.length),q<i->∃ ie eb,qN[q]?=some (.slice ie ts[q].ns.length eb)/\dW J ie ts[q].ns.length eb 1 24 (sS bs (gf ts q) ts[q].ns.length (s.size+1))
set_option maxRecDepth 100000 in
def ajX{g:b3}(ar:g.ok I)(av:g.n<=4096)(s:ByteArray)(ao:s.size<=4096){more:List bJ}{ma:Option Addr}{mn mc:Nat}(hm:dW I ma mn mc 2 32 (more.flatMap bJ.cells))(ajY:∀ x∈more,x.ok I)(uT:mn<=4)(Ji:∀ x∈g.ds.map (·.t)++more,x.ns.length<=4096) :
  Spec Tryz.prog 68 [g.val,.string s,.slice ma mn mc] I [] λv I' M'=>(∀ b o,I b=some o->I' b=some o)/\∃ t:ez,v=ptr t.bt/\M'=ew kf t.w 0 t.bs++[]/\t.s=s/\t.g=g/\t.ts=g.ds.map (·.t)++more/\t.mem I':=by
 have js:=ar.n;have xp:more.length=mn:=by have:=hm.len;rw[ji bJ.cells 2 (λ_=>rfl)]at this;omega
 obtain⟨ts,dg⟩:∃ ts,g.ds.map (·.t)++more=ts:=⟨_,rfl⟩;have u1:ts.length=g.n+mn:=by rw[<-dg,ck,ei];omega
 have bb:∀ x∈ts,x.ok I:=λx ab=>by
  rw[<-dg]at ab;rcases en.1 ab with ab | ab;·obtain⟨d,ai,rfl⟩:=du.1 ab;exact(ar.ds d ai).t
  ·exact ajY x ab
 rw[dg]at Ji |-;refine PC [15] aS Tryz.func68 rfl rfl rfl ?_;intro B aq;refine cz.mk λbt pN ajg=>?_;refine cD.inv (ι:=Nat×bn) (λx=>{ bA:=[(1,.val (.string s)),(2,.val (.slice ma mn mc)),(3,.ref 3 0),(7,.val (ptr bt)),(8,.val (.int .i64 x.1))],cl:=[(3,[.slice g.a g.n g.c])],cj:=I,dx:=m5 bt s g x.2.val (.slice none 0 0)::(x.2.aY 47++[]) }) (λx=>x.1<=g.n/\x.2.n=x.1/\x.2.ok 2 ((ts.take x.1).flatMap bJ.cells)) (λx=>g.n-x.1) ?_ ?_
 ·exact⟨(0,sb),⟨bj _,rfl,wQ 2⟩,.refl,kQ,.cons rfl (.nil)⟩
 rintro⟨i,os⟩⟨hi,vF,dN⟩;simp only at hi vF dN;refine aI.mk (λe=>?_) (λe=>?_)
 ·have aL:i<g.n:=by simpa using e
  have bi:i<g.ds.length:=by omega
  obtain⟨ad,bR,bh⟩:=ar.aU.row a'.c0 aL bi;have Gt:i<ts.length:=by omega
  have ajZ:ts[i]=g.ds[i].t:=by
   have:ts[i]?=some g.ds[i].t:=by rw[<-dg,kJ (by rw[ei];exact bi),xN,gu bi];rfl
   rw[gu Gt]at this;simpa using this
  have aj0:∀ M,bE I M ((ad.add (i*3)).add 1) 2 ts[i].cells:=λM=>by rw[ajZ];exact(bh M).part (k:=1) (m:=2) (by decide)
  refine cL.draw aS rfl rfl rfl ?_;refine aJ.mk _ (Fy (j:=2) (.head _) (by decide)) ?_;refine a6.mk ad i bR rfl aL ?_;refine aJ.mk _ (aj0 _) ?_;refine cz.mk λbZ gb ig=>?_;intro G jG;refine s4.wY aS rfl (e:=47) rfl rfl rfl os dN (w3 (jG _ (by simp[Op.operands,Call.operands])) rfl) (w3 (jG _ (by simp[Op.operands,Call.operands])) rfl) (cs:=ts[i].cells) rfl rfl [m5 bt s g os.val (.slice none 0 0)] [] rfl (by omega) (by show(os.n+1)*32<=_;omega) ?_;intro dC U aa aK;refine cX.mk [⟨bZ,_⟩] (dC.aY 47++[]) _ _ rfl rfl (bB rfl) rfl ?_;refine aQ.mk _ (bU (i:=i) (by omega)) ?_;refine⟨(i+1,dC),⟨⟨aL,by simp only;omega,?_⟩,by simp only;omega⟩,.sub (.cons _ (.refl _)) .refl,kQ,.cons rfl (.nil)⟩;simp only;rw[g9 Gt,lr,og,GJ,fo];exact aK
 have c1:g.n<=i:=by simpa using e
 obtain rfl:i=g.n:=by omega
 have aj1:(ts.take g.n).flatMap bJ.cells++more.flatMap bJ.cells=ts.flatMap bJ.cells:=by rw[<-dg,CN (by rw[ei];omega),gv (by rw[ei];omega),lr]
 refine aJ.mk _ (Fy (j:=2) (.head _) (by decide)) ?_;refine be.abM aS rfl (by simp) (e:=47) rfl rfl rfl os dN rfl (sa:=ma) (m:=mn) (c':=mc) (news:=more.flatMap bJ.cells) rfl (by rw[ji bJ.cells 2 (λ_=>rfl),xp]) (λaq=>hm.ajR _ aq) (XF more) [m5 bt s g os.val (.slice none 0 0)] [] rfl (by omega) (by show(os.n+mn)*32<=_;omega) ?_;intro hM U aa XG;rw[aj1]at XG;have XH:hM.n=ts.length:=by omega
 refine cX.mk [] (hM.aY 47++[]) _ _ rfl rfl (bB rfl) rfl ?_;refine cD.FV (ι:=Nat×aN×bn×List Value×List Nat) (λx=>{ bA:=[(1,.val (.string s)),(7,.val (ptr bt)),(9,.val (.int .i64 x.1))],cl:=[],cj:=x.2.1,dx:=m5 bt s g hM.val x.2.2.1.val::(x.2.2.1.aY 163++ew kf (s.size+1) 0 x.2.2.2.2) }) (λx=>ajW I x.2.1 s ts hM x.1 x.2.2.1 x.2.2.2.1 x.2.2.2.2) (λx=>ts.length-x.1) ?_ ?_
 ·intro hQ;have aj2:=B3 (J:=I) (os:=hM) (e:=47) (M:=[]) λx ab=>hQ.d x (.tail _ ab);refine⟨(0,oW I hM 47,sb,[],[]),⟨bj _,aj2,by rw[<-XH];exact B4 XG (by omega),rfl,wQ 1,rfl,λq h aq=>absurd aq (EI _)⟩,.perm (M1:=hM.aY 47++[m5 bt s g hM.val (.slice none 0 0)]) (by rw[fo];exact(f' (l₁:=[_]))) (Fu λg _=>by simp),da,.nil⟩
 rintro⟨i,J,hN,qN,bs⟩jx;have hi:=jx.ii;have uw:=jx.le;have O6:=jx.n;have Jj:=jx.ok;have ls:=jx.A4;simp only at hi uw O6 Jj ls;refine aJ.mk _ (Fy (j:=2) (.head _) (by decide)) ?_;refine aI.mk (λaz=>?_) (λaz=>?_)
 ·have aL:i<ts.length:=by have bc:(i:Int)<((hM.n:Nat):Int):=cr az;omega
  have tY:=Ji _ (cO aL);have j':=bb _ (cO aL);have kz:=j'.n;obtain⟨ad,bR,bh⟩:=dW.row (f:=bJ.cells) (λ_=>rfl) jx.lF aL aL;have mS:=Ja aL;have l0:=jx.md;refine cD.inv (ι:=Nat×bn×List Nat) (λx=>{ bA:=[(1,.val (.string s)),(7,.val (ptr bt)),(9,.val (.int .i64 i)),(10,.val x.2.1.val),(11,.val (.int .i64 x.1))],cl:=[],cj:=J,dx:=m5 bt s g hM.val hN.val::(hN.aY 163++(x.2.1.aY 164++ew kf (s.size+1) 0 (bs++x.2.2))) }) (λx=>x.1<=ts[i].ns.length/\x.2.1.n=x.1/\x.2.2.length=x.1/\x.2.1.ok 1 (sS (bs++x.2.2) (gf ts i) x.1 (s.size+1))) (λx=>ts[i].ns.length-x.1) ?_ ?_;·exact⟨(0,sb,[]),⟨bj _,rfl,rfl,wQ 1⟩,.AU (by simp only[fo];rfl),kQ,.nil⟩
  rintro⟨k,rJ,L⟩⟨ae,CZ,Ih,O7⟩;simp only at ae CZ Ih O7;refine aJ.mk _ (Fy (j:=2) (.head _) (by decide)) ?_;refine a6.mk ad i bR rfl (by omega) ?_;refine aJ.mk _ ((bh _).part (k:=0) (m:=1) (by decide)) ?_;refine aI.mk (λbc=>?_) (λbc=>?_)
  ·have aj3:k<ts[i].ns.length:=by have ct:(k:Int)<((ts[i].n:Nat):Int):=cr bc;omega
   refine aQ.mk ((s.size+1:Nat):Int) (e4 (by simp) (by omega)) ?_;refine qU.mk (s.size+1) (s.size+1) rfl rfl (b6 _) (by show 24*(s.size+1)<=_;omega) (by omega) ?_;refine cz.mk λnM F0 amL=>?_;refine cz.mk λbZ gb ig=>?_;refine be.wY aS rfl (by simp) (e:=164) rfl rfl rfl rJ O7 rfl (cs:=[.slice (some ⟨nM,0,none⟩) (s.size+1) (s.size+1)]) rfl rfl rfl (⟨nM,.cells (rowOf (cK.cells ⟨0,0,0⟩) ((s.size+1)*3)).toArray 117 (0,0)⟩::m5 bt s g hM.val hN.val::hN.aY 163) (ew kf (s.size+1) 0 (bs++L)) rfl (by omega) (by show(rJ.n+1)*24<=_;omega) ?_;intro O8 bg bD eg;refine aQ.mk _ (bU (i:=k) (by omega)) ?_;have M6:ew kf (s.size+1) 0 (bs++(L++[nM]))=ew kf (s.size+1) 0 (bs++L)++[sO kf (s.size+1) (bs++L).length nM]:=by rw[<-fN,XD,dK]
   refine⟨(k+1,O8,L++[nM]),⟨⟨aj3,by simp only;omega,by simp only[ck,Ih];rfl,?_⟩,by simp only;omega⟩,.perm (M1:=m5 bt s g hM.val hN.val::(hN.aY 163++(O8.aY 164++ew kf (s.size+1) 0 (bs++(L++[nM]))))) ?_ .refl,kQ,.nil⟩;·simp only;rw[<-fN,ajV (by rw[ck];omega)];exact eg
   ·rw[M6];have Bx:(⟨nM,.cells (rowOf (cK.cells ⟨0,0,0⟩) ((s.size+1)*3)).toArray 117 (0,0)⟩:aC)=sO kf (s.size+1) (bs++L).length nM:=by rw[ajU (bs++L).length];rfl
    rw[Bx];generalize sO kf (s.size+1) (bs++L).length nM=z;generalize m5 bt s g hM.val hN.val=sv;generalize hN.aY 163=A;generalize O8.aY 164=oM;generalize ew kf (s.size+1) 0 (bs++L)=Jk;have:(sv::(A++(oM++(Jk++[z]))))=(sv::A++(oM++Jk))++[z]:=by simp
    rw[this];exact(f' (l₁:=[z]))
  ·have amM:ts[i].ns.length<=k:=by have ct:¬ (k:Int)<((ts[i].n:Nat):Int):=b' bc;omega
   obtain rfl:k=ts[i].ns.length:=by omega
   refine aJ.mk _ (Fy (j:=3) (.head _) (by decide)) ?_;refine cz.mk λbZ gb ig=>?_;refine be.wY aS rfl (by simp) (e:=163) rfl rfl rfl hN Jj rfl (cs:=[rJ.val]) rfl rfl rfl [m5 bt s g hM.val hN.val] (rJ.aY 164++ew kf (s.size+1) 0 (bs++L)) rfl (by omega) (by show(hN.n+1)*24<=_;omega) ?_;intro z2 bg bD eg;refine cX.mk [] _ _ _ rfl rfl (bB rfl) rfl ?_;refine aQ.mk _ (bU (i:=i) (by omega)) ?_;intro hQ;have XI:(m5 bt s g hM.val z2.val::(z2.aY 163++(rJ.aY 164++ew kf (s.size+1) 0 (bs++L)))).Perm (rJ.aY 164++(m5 bt s g hM.val z2.val::(z2.aY 163++ew kf (s.size+1) 0 (bs++L)))):=by generalize m5 bt s g hM.val z2.val=sv;generalize z2.aY 163=A;generalize rJ.aY 164=oM;generalize ew kf (s.size+1) 0 (bs++L)=Jk;exact(Hb (sv::A) oM Jk)
   have B7:=B3 (J:=J) (os:=rJ) (e:=164) (M:=[]) λx ab=>hQ.d x (by rw[fo]at ab;exact XI.mem_iff.2 (Ca _ ab));refine⟨(i+1,oW J rJ 164,z2,qN++[rJ.val],bs++L),⟨⟨aL,λb o h=>B7 _ _ (uw _ _ h),jx.lF.mono B7,by simp only;omega,eg,by simp only[ck];omega,λq aE aj4=>?_⟩,by simp only;omega⟩,.perm XI (Fu λg _=>by simp),da,.nil⟩;simp only at aj4 |-;have aj5:qN.length=i:=by have:=Jj.len;omega
   by_cases ej:q<i
   ·obtain⟨ie,eb,f1,f2⟩:=l0 q aE ej;simp only at f1 f2;have K7:=OR (ts:=ts) (i:=q+1) (j:=i) (by omega) (by omega);rw[Ja aE]at K7;refine⟨ie,eb,?_,?_⟩
    ·rw[kJ (by omega)];exact f1
    ·rw[XE (by omega)];exact f2.mono B7
   ·obtain rfl:q=i:=by omega
    refine⟨rJ.a.map λg=>⟨g,0,none⟩,rJ.c,?_,?_⟩;·rw[ajS _ _ aj5];unfold bn.val;rw[CZ]
    ·have:=B4 (J:=J) (e:=164) (b:=24) O7 (by omega);rwa [CZ]at this
 ·have K8:ts.length<=i:=by have bc:¬ (i:Int)<((hM.n:Nat):Int):=b' az;omega
  obtain rfl:i=ts.length:=by omega
  intro hQ;have aj6:=B3 (J:=J) (os:=hN) (e:=163) (M:=[]) λx ab=>hQ.d x (by rw[fo]at ab;exact .tail _ (Ca _ ab));have pN:J bt=none:=hQ.d (m5 bt s g hM.val hN.val) (.head _);have cf:=hQ.bS;have aj7:oW J hN 163 bt=none:=by
   obtain⟨B6,ml,Fv,aj8⟩:=hN;cases B6 with
   |none=>exact pN
   |some q=>
    have bk:bt≠q:=λe=>by have U:bt ∉ (((⟨some q,ml,Fv,aj8⟩:bn).aY 163++ew kf (s.size+1) 0 bs).map (·.num)):=(lg.1 cf).1;exact U (by rw[e];exact du.2 ⟨_,.head _,rfl⟩)
    show ins J q _ bt=none;unfold ins;rw[gh bk];exact pN
  have n9:=ri (o:=.cells [.string s,.slice g.a g.n g.c,hM.val,hN.val].toArray 115 (0,0)) aj7;have J9:hP (List.map aC.num []) J (m5 bt s g hM.val hN.val::(hN.aY 163++ew kf (s.size+1) 0 bs)) (ins (oW J hN 163) bt (.cells [.string s,.slice g.a g.n g.c,hM.val,hN.val].toArray 115 (0,0))) (ew kf (s.size+1) 0 bs++[]):=by refine .perm (M1:=hN.aY 163++(m5 bt s g hM.val hN.val::ew kf (s.size+1) 0 bs)) qy.symm (ajT (λg _=>by simp) ?_);exact .pZ rfl (by simp) (.AU (by simp))
  have Fz:∀ b o,J b=some o->ins (oW J hN 163) bt (.cells [.string s,.slice g.a g.n g.c,hM.val,hN.val].toArray 115 (0,0)) b=some o:=λb o h=>n9 _ _ (aj6 _ _ h);have l0:=jx.md;have wX:=jx.lF;refine⟨_,_,J9,λb o h=>Fz _ _ (uw _ _ h),⟨bt,s,g,ts,hM.a.map λg=>⟨g,0,none⟩,hM.c,hN.a.map λg=>⟨g,0,none⟩,hN.c,qN,bs⟩,rfl,rfl,rfl,rfl,rfl,?_⟩;refine⟨?_,ar.mono λb o h=>Fz _ _ (uw _ _ h),wX.mono Fz,λx ab=>(bb x ab).mono λb o h=>Fz _ _ (uw _ _ h),?_,λq aE=>?_,ls⟩;·show ins _ bt _ bt=_;rw[tm];unfold ez.bT bn.val;rw[XH,O6]
  ·have:=B4 (J:=J) (e:=163) (b:=24) Jj (by omega);rw[O6]at this;exact this.mono n9
  ·obtain⟨ie,eb,f1,f2⟩:=l0 q aE aE;exact⟨ie,eb,f1,f2.mono Fz⟩
def aj9{P:cq}:kd P A kf:=
 ⟨λ_ _=>bj _,λ_ _ e=>(by cases e),λ_ _ e=>(by cases e),λ_ _ e=>absurd e (by show ¬ 3<=0;omega),λ_ _ e=>(by cases e)⟩
def ez.aka{t:ez}{g:b3}{s:ByteArray}(U:t.g=g)(aa:t.s=s)(ag:t.ts=g.ds.map (·.t)):t.P=jX g s:=by subst U;subst aa;unfold ez.P jX oE;rw[ag,Xc,oq];rfl
def ez.ok.root{t:ez}(h:t.ok I){i:Nat}(hi:i<t.g.ds.length):∃ (r:Nat) (aE:i<t.ts.length),t.ts[i].root=(r:Int)/\r<t.ts[i].ns.length/\t.no i r=oF t.g i:=by
 obtain⟨more,hm⟩:=h.pre;have sR:i<t.ts.length:=by rw[hm];simp;omega
 have e:t.ts[i]=t.g.ds[i].t:=by
  have:(t.g.ds.map (·.t)++more)[i]?=some t.g.ds[i].t:=by rw[kJ (by rw[ei];exact hi),xN,gu hi];rfl
  rw[<-hm,gu sR]at this;simpa using this
 have an:=(h.rt _ (cO sR)).root;obtain⟨r,lp⟩:=jf an.1;refine⟨r,sR,lp,by omega,?_⟩;have yX:=y2 0 t.g.ds;unfold oF;rw[cQ,gu (by omega:i<(gM 0 t.g.ds).length),iZ,HA 0 t.g.ds i hi (by omega),dK];unfold ez.no;rw[show gf t.ts i=cw (t.g.ds.take i) by rw[hm];exact Xd _ _ (by omega),<-e,lp];rfl
def akb(I:aN)(g:b3)(s:ByteArray)(dD:Int)(v:Value)(I':aN)(M':List aC):Prop:=
 (∀ b o,I b=some o->I' b=some o)/\((dD≠0/\v=.tuple #[.pointer none,.int .i64 dD]/\M'=[])\/(dD=0/\4096<s.size/\v=.tuple #[.pointer none,.int .i64 40]/\M'=[]) \/ (dD=0/\s.size<=4096/\∃ t:ez,v=.tuple #[ptr t.bt,.int .i64 0]/\M'=ew kf t.w 0 t.bs++[]/\t.s=s/\t.g=g/\t.ts=g.ds.map (·.t)/\t.ok I'))
def akc{g:b3}(ar:g.ok I)(aw:ui g)(av:g.n<=4096){dD:Int}(hI:ed fv g=dD)(s:ByteArray):Spec Tryz.prog 32 [g.val,.string s] I [] (akb I g s dD):=by
 have rI:=Oc (M0:=[]) Oi ar aw;rw[hI]at rI;refine bC [] aS Tryz.func32 rfl rfl rfl ?_;intro B aq;refine aT.whole _ rI ?_;rintro v J N -⟨rfl,rfl,rfl⟩;refine aI.mk (λe=>?_) (λe=>?_)
 ·have a0:dD≠0:=λaz=>by rw[az]at e;cases e
  exact⟨_,_,.refl,λ_ _ h=>h,.inl ⟨a0,rfl,rfl⟩⟩
 have a0:dD=0:=by
  have aK:(!decide (dD=0))=false:=e;by_cases bg:dD=0;·exact bg
  ·rw[b8 bg]at aK;cases aK
 refine aI.mk (λaz=>?_) (λaz=>?_)
 ·have bc:4096<s.size:=by have:=cr az;omega
  exact⟨_,_,.refl,λ_ _ h=>h,.inr (.inl ⟨a0,bc,rfl,rfl⟩)⟩
 have bc:s.size<=4096:=by have:=b' az;omega
 have hm:lJ g:=y3 (hI.trans a0) λd ai=>(ar.ds d ai).t.n;have vl:=hm.DX;have Ji:∀ x∈g.ds.map (·.t)++[],x.ns.length<=4096:=λx ab=>by rw[fo]at ab;obtain⟨d,ai,rfl⟩:=du.1 ab;have xt:d.t.ns.length∈g.ds.map λd=>d.t.ns.length:=du.2 ⟨d,ai,rfl⟩;have:=Xi xt;unfold cw at vl;omega
 refine aT.whole _ (ajX ar av s bc (more:=[]) (ma:=none) (mn:=0) (mc:=0) ⟨rfl,⟨b6 _,by decide⟩,.inl rfl⟩ (λx ab=>by cases ab) (by omega) Ji) ?_;rintro v K M -⟨fl,t,rfl,rfl,dg,sQ,vf,gU⟩;rw[fo]at vf;refine⟨_,_,.refl,fl,.inr (.inr ⟨a0,bc,t,rfl,rfl,dg,sQ,vf,gU.ok (λx ab=>?_) (λx ab n av ae=>?_) ⟨[],by rw[fo,vf,sQ]⟩ (by rw[dg];exact bc)⟩)⟩
 ·rw[vf]at ab;obtain⟨d,ai,rfl⟩:=du.1 ab;exact hm.r d ai
 ·rw[vf]at ab;rw[sQ];obtain⟨d,ai,rfl⟩:=du.1 ab;exact hm.find d ai n av ae
section
variable{I:aN}{t:ez}{C:Nat->Nat->cK}
def akd(h:t.ok I)(eZ a:Int):Spec Tryz.prog 70 [ptr t.bt,.int .i64 eZ,.int .i64 a] I M0 λv I' M'=>v=.bool (lQ t.g.n t.s.size eZ a)/\I'=I/\M'=M0:=by
 refine bC [] aS Tryz.func70 rfl rfl rfl ?_;intro B aq;refine bo.mk (λaR=>?_) (λaR=>?_)
 ·have aR:decide (0<=eZ)=true:=aR;refine aJ.mk _ (h.e5 (j:=1) (by decide)) ?_;refine bo.mk (λaV=>?_) (λaV=>?_)
  ·have aV:decide (eZ<(t.g.n:Int))=true:=aV;refine bo.mk (λbl=>?_) (λbl=>?_)
   ·have bl:decide (0<=a)=true:=bl;refine aJ.mk _ (h.e5 (j:=0) (by decide)) ?_;exact⟨_,_,.refl,by rw[lQ,aR,aV,bl];rfl,rfl,rfl⟩
   ·have bl:decide (0<=a)=false:=bl;exact⟨_,_,.refl,by rw[lQ,aR,aV,bl];rfl,rfl,rfl⟩
  ·have aV:decide (eZ<(t.g.n:Int))=false:=aV;exact⟨_,_,.refl,by rw[lQ,aR,aV];rfl,rfl,rfl⟩
 ·have aR:decide (0<=eZ)=false:=aR;exact⟨_,_,.refl,by rw[lQ,aR];rfl,rfl,rfl⟩
def XJ:Nat->Nat->Prop:=λ_ _=>False
def ake(h:t.ok I){g:b3}{s:ByteArray}(dk:t.P=jX g s)(O9:t.g=g)(dB:t.s=s)(fc:kd t.P XJ C)(eZ a:Int):Spec Tryz.prog 36 [ptr t.bt,.int .i64 eZ,.int .i64 a] I (ew C t.w 0 t.bs++Mr)
  λv I' M'=>I'=I/\∃ (n:Nat) (e:Int) (C':Nat->Nat->cK),vP g s eZ a n e/\v=.tuple #[.int .i64 n,.int .i64 e]/\M'=ew C' t.w 0 t.bs++Mr/\kd t.P XJ C':=by
 refine bC [] aS Tryz.func36 rfl rfl rfl ?_;intro B aq;refine aT.whole _ (akd h eZ a) ?_;rintro v J N -⟨rfl,rfl,rfl⟩;refine aI.mk (λe=>?_) (λe=>?_)
 ·have a0:lQ g.n s.size eZ a=false:=by rw[<-O9,<-dB];simpa using e
  exact⟨_,_,.refl,rfl,0,1,C,.no a0 rfl rfl,rfl,rfl,fc⟩
 have a0:lQ t.g.n t.s.size eZ a=true:=by simpa using e
 obtain⟨i,j,rfl,rfl,hi,al⟩:=Xv a0;have js:=h.g.n;obtain⟨r,aE,an,jl,eO⟩:=h.root (i:=i) (by omega);obtain⟨ad,bR,wX⟩:=h.body aE;have O3:∀ M,bE J M ((ad.add (i*2)).add 1) 1 [.int .i64 r]:=λM=>by have:=(wX M).part (k:=1) (m:=1) (by decide);unfold bJ.cells at this;rw[an]at this;exact this
 refine aJ.mk _ (h.e5 (j:=2) (by decide)) ?_;refine a6.mk ad i bR rfl aE ?_;refine aJ.mk _ (O3 _) ?_;refine aT.whole _ (ajP h fc ⟨aE,jl⟩ al Mr) ?_;rintro v dQ dt -⟨rfl,c,fx,rfl,rfl,ih,uN,b1⟩;rw[eO,O9]at uN;have cT:i<g.n:=by rw[<-O9];exact hi
 have gm:j<=s.size:=by rw[<-dB];exact al
 refine aI.mk (λaz=>?_) (λaz=>?_)
 ·have i2:c.is=2:=by have:((c.is:Nat):Int)=2:=cr az;omega
  have bd:=(uN.m3 i2).none λ_ _ h=>h;rw[dk]at bd;exact⟨_,_,.refl,rfl,0,5,fx,.none i j rfl rfl cT gm (by rw[bd];rfl) rfl rfl,rfl,rfl,ih⟩
 have i2:c.is≠2:=by have:¬ ((c.is:Nat):Int)=2:=b' az;omega
 refine⟨_,_,.refl,rfl,c.n,0,fx,?_,rfl,rfl,ih⟩;rcases uN.is with x | x | x
 ·exact absurd x i2
 ·have ag:=uN.xF x;rw[dk]at ag;exact .fail i j rfl rfl cT gm (by rw[ag];rfl) (uN.z x) rfl
 ·have aK:=uN.vL x;rw[dk]at aK;exact .is i j rfl rfl cT gm (by rw[aK]) (by rw[aK]) rfl
end
def vP.eq{g:b3}{s:ByteArray}{eZ a:Int}{fB:Nat}{e a0:Int}(h:vP g s eZ a n e)(a1:vP g s eZ a fB a0):n=fB/\e=a0:=by
 have au:∀ {i j:Nat},eZ=i->a=j->i<g.n->j<=s.size->lQ g.n s.size eZ a=true:=λU aa ag aK=>by subst U;subst aa;simp only[lQ,bL,ft];omega
 rcases h with⟨t1,bN,cG⟩ | ⟨i,j,BE,xw,FA,FB,z3,bN,cG⟩ | ⟨i,j,BE,xw,FA,FB,z3,bN,cG⟩ | ⟨i,j,BE,xw,FA,FB,z3,bN,cG⟩<;>rcases a1 with⟨amN,cg,b2⟩ | ⟨fw,O',XK,IX,XL,XM,Jl,cg,b2⟩ | ⟨fw,O',XK,IX,XL,XM,Jl,cg,b2⟩ | ⟨fw,O',XK,IX,XL,XM,Jl,cg,b2⟩
 all_goals first
  |exact⟨bN.trans cg.symm,cG.trans b2.symm⟩|(rw[au ‹eZ=_› ‹a=_› ‹_<g.n› ‹_<=s.size›]at *;contradiction)
  |(obtain rfl:i=fw:=by omega
    obtain rfl:j=O':=by omega
    first
     |(rw[z3]at Jl;cases Jl;done)|(refine⟨?_,cG.trans b2.symm⟩;omega))
section
variable{I:aN}{M0:List aC}
def pW(a b:Nat)(aD:a<=9223372036854775807)(af:b<=9223372036854775807):Spec Tryz.prog 53 [.int .i64 a,.int .i64 b] I M0 λv I' M'=>v=.int .i64 ((a3 (a+b):Nat):Int)/\I'=I/\M'=M0:=by
 refine bC [] aS Tryz.func53 rfl rfl rfl ?_;intro B aq;have sf:1099511627776<a+b->a3 (a+b)=1099511627776:=λh=>by unfold a3;omega
 refine bo.mk (λU=>?_) (λU=>?_)
 rotate_left
 ·have aa:1099511627776<a:=by have ag:decide ((1099511627776:Int)<(a:Int))=true:=U;have:=cr ag;omega
  exact⟨_,_,.refl,by rw[sf (by omega)];rfl,rfl,rfl⟩
 have aa:a<=1099511627776:=by have ag:decide ((1099511627776:Int)<(a:Int))=false:=U;have:=b' ag;omega
 refine bo.mk (λag=>?_) (λag=>?_)
 rotate_left
 ·have aK:1099511627776<b:=by have ag:decide ((1099511627776:Int)<(b:Int))=true:=ag;have:=cr ag;omega
  exact⟨_,_,.refl,by rw[sf (by omega)];rfl,rfl,rfl⟩
 have aK:b<=1099511627776:=by have ag:decide ((1099511627776:Int)<(b:Int))=false:=ag;have:=b' ag;omega
 refine aQ.mk ((a+b:Nat):Int) (e4 (by omega) (by omega)) ?_;refine aI.mk (λbg=>?_) (λbg=>?_)
 ·have bD:(1099511627776:Int)<((a+b:Nat):Int):=cr bg;exact⟨_,_,.refl,by rw[sf (by omega)];rfl,rfl,rfl⟩
 ·have bD:¬ (1099511627776:Int)<((a+b:Nat):Int):=b' bg;refine aQ.mk ((a+b:Nat):Int) (e4 (by omega) (by omega)) ?_;refine⟨_,_,.refl,?_,rfl,rfl⟩;rw[show a3 (a+b)=a+b by unfold a3;omega]
def XN(a:Nat):min (a:Int) 1099511627776=((a3 a:Nat):Int):=by unfold a3;omega
def Pa(h:a<=1099511627776):a3 a=a:=by unfold a3;omega
def akf(a:Nat):a3 (a3 a)=a3 a:=Pa (hv a)
def Pb(a b:Nat):Spec Tryz.prog 54 [.int .i64 a,.int .i64 b] I M0 λv I' M'=>v=.int .i64 ((a3 (a*b):Nat):Int)/\I'=I/\M'=M0:=by
 refine bC [] aS Tryz.func54 rfl rfl rfl ?_;intro B aq;refine cD.inv (ι:=Nat×Nat×Nat) (λx=>{ bA:=[(0,.val (.int .i64 x.1)),(1,.val (.int .i64 x.2.1)),(5,.val (.int .i64 x.2.2))],cl:=[],cj:=I,dx:=M0 }) (λx=>x.1<=1099511627776/\x.2.1<=1099511627776/\x.2.2<=1099511627776/\a3 (x.2.2+x.1*x.2.1)=a3 (a*b)) (λx=>x.2.1) ?_ ?_
 ·refine⟨(a3 a,a3 b,0),⟨hv _,hv _,bj _,?_⟩,.refl,.cons (pE ?_) (.cons (pE ?_) (.cons .refl .nil)),.nil⟩
  ·simp only;rw[dK,yT,yU]
  ·exact congrArg (Value.int .i64) (XN a).symm
  ·exact congrArg (Value.int .i64) (XN b).symm
 rintro⟨x,y,o⟩⟨ab,aG,ap,he⟩;simp only at ab aG ap he;refine aI.mk (λe=>?_) (λe=>?_)
 ·have n':0<y:=by have:(0:Int)<(y:Int):=cr e;omega
  have Sp:x+x<=9223372036854775807:=by omega
  have akg:∀ p,p+x*y=p+(y%2)*x+(x+x)*(y/2):=λp=>by
   have U:y=y%2+2*(y/2):=by omega
   have aa:x*y=x*(y%2+2*(y/2)):=congrArg _ U;rw[aa,CQ,<-Nat.mul_assoc,Nat.mul_two,yz x (y%2),mm]
  have hU:∀ zQ,a3 (o+(y%2)*x)=a3 zQ->a3 (zQ+a3 (x+x)*(y/2))=a3 (a*b):=λzQ h=>by rw[<-he,akg o];rw[<-Hm zQ,yT,Hm,<-lH,<-h,lH]
  refine gE.mk (by decide) ?_;refine aI.mk (λaz=>?_) (λaz=>?_)
  ·have U:y%2=1:=by have:((y%2:Nat):Int)=1:=cr az;omega
   refine aT.whole _ (pW o x (by omega) (by omega)) ?_;rintro v I' M' -⟨rfl,rfl,rfl⟩;refine aT.whole _ (pW x x (by omega) (by omega)) ?_;rintro v I' M' -⟨rfl,rfl,rfl⟩;refine gE.mk (by decide) ?_;refine aQ.mk ((y/2:Nat):Int) (e4 rfl (by omega)) ?_;refine⟨(a3 (x+x),y/2,a3 (o+x)),⟨⟨hv _,by simp only;omega,hv _,hU _ ?_⟩,by simp only;omega⟩,.refl,da,.nil⟩;rw[U,nm,akf]
  ·have U:y%2=0:=by have:¬ ((y%2:Nat):Int)=1:=b' az;omega
   refine aT.whole _ (pW x x (by omega) (by omega)) ?_;rintro v I' M' -⟨rfl,rfl,rfl⟩;refine gE.mk (by decide) ?_;refine aQ.mk ((y/2:Nat):Int) (e4 rfl (by omega)) ?_;refine⟨(a3 (x+x),y/2,o),⟨⟨hv _,by simp only;omega,ap,hU _ ?_⟩,by simp only;omega⟩,.refl,da,.nil⟩;rw[U,At,o0]
 ·have bd:y=0:=by have:¬ (0:Int)<(y:Int):=b' e;omega
  subst bd;refine⟨_,_,.refl,?_,rfl,rfl⟩;rw[<-he,Nat.mul_zero,o0,Pa ap]
def XO(w b c:Int){u:Int}(hu:nK w b c=u)(hw:gj w)(af:gj b)(aA:gj c):Spec Tryz.prog 22 [.int .i64 w,.int .i64 b,.int .i64 c] I M0 λv I' M'=>v=.int .i64 u/\I'=I/\M'=M0:=by
 refine bC [] aS Tryz.func22 rfl rfl rfl ?_;intro B aq;refine bo.mk (λU=>?_) (λU=>?_)
 rotate_left
 ·exact⟨_,_,.refl,by rw[<-hu,nK,show decide (w<0)=true from U];rfl,rfl,rfl⟩
 refine bo.mk (λaa=>?_) (λaa=>?_)
 rotate_left
 ·exact⟨_,_,.refl,by rw[<-hu,nK,show decide (b<0)=true from aa,si,qz];rfl,rfl,rfl⟩
 refine aI.mk (λag=>?_) (λag=>?_)
 ·exact⟨_,_,.refl,by rw[<-hu,nK,show decide (c<0)=true from ag,qz,qz];rfl,rfl,rfl⟩
 have DD:¬ w<0:=b' U;have g6:¬ b<0:=b' aa;have hJ:¬ c<0:=b' ag;have e:nK w b c=((yV w.toNat b.toNat c.toNat:Nat):Int):=by rw[nK,b8 DD,b8 g6,b8 hJ];rfl
 rw[e]at hu;obtain⟨w,rfl⟩:∃ n:Nat,w=n:=⟨w.toNat,by omega⟩;obtain⟨b,rfl⟩:∃ n:Nat,b=n:=⟨b.toNat,by omega⟩;obtain⟨c,rfl⟩:∃ n:Nat,c=n:=⟨c.toNat,by omega⟩;obtain⟨-,yW⟩:=hw;obtain⟨-,m8⟩:=af;obtain⟨-,vg⟩:=aA;have AV:=hv (a3 (w*a3 (b+1))*a3 (b+4));refine aT.whole _ (pW b 1 (by omega) (by omega)) ?_;rintro v I' M' -⟨rfl,rfl,rfl⟩;refine aT.whole _ (Pb w (a3 (b+1))) ?_;rintro v I' M' -⟨rfl,rfl,rfl⟩;refine aT.whole _ (pW b 4 (by omega) (by omega)) ?_;rintro v I' M' -⟨rfl,rfl,rfl⟩;refine aT.whole _ (Pb (a3 (w*a3 (b+1))) (a3 (b+4))) ?_;rintro v I' M' -⟨rfl,rfl,rfl⟩;refine aT.whole _ (pW (a3 (a3 (w*a3 (b+1))*a3 (b+4))) c (by omega) (by omega)) ?_;rintro v I' M' -⟨rfl,rfl,rfl⟩;refine⟨_,_,.refl,?_,rfl,rfl⟩;have e:a3 (a3 (a3 (w*a3 (b+1))*a3 (b+4))+c)=yV w b c:=by unfold yV;rw[yU w,yU _ (b+4),yT (w*(b+1)),lH]
 rw[e,<-hu];rfl
end
def XP{ds:List a'}{i:Nat}(h:i<ds.length):dR (ds.take (i+1))=dR (ds.take i)++ds[i].t.ns:=by unfold dR;rw[g9 h,lr,og,GJ,fo]
def XQ{f:aP->Nat}{c:Nat}:∀ {l:List aP},(∀ n∈l,f n<=c)->dn f l<=l.length*c
 |[],_=>by simp[dn]
 |n::l,h=>by have a2:=XQ (f:=f) (c:=c) (l:=l) λx ab=>h x (.tail _ ab);have:=h n (.head _);rw[c5,jg,nm];unfold dn at a2 |-;rw[dA,oh];omega
def akh(ds:List a'):(dR ds).length=cw ds:=by unfold dR cw;rw[List.length_flatMap]
def aki{n:aP}(h:HC n):eS n<=300:=by
 unfold eS;have au:=h.t;cases aa:decide (n.k=2)with
 |true=>simp only[ba];omega
 |false=>
  cases bD:decide (n.k=6)with
  |true=>have:=h.lo (cr bD);simp only[ba,a5];omega| false=>simp only[a5];omega
end Go.V
