/- Part 8 of what the proofs of this seat share: the executor, data in memory, walks.
-/
import Derived.Test.YthnoknnlcnikbaaGreatDoorK7
import Derived.Test.YthnoknnlcnikbaaGreatDoorK5
import Derived.Test.YthnoknnlcnikbaaGreatDoorK2
import Derived.Test.YthnoknnlcnikbaaGreatDoorK4
set_option linter.all false
set_option maxHeartbeats 8000000
set_option maxRecDepth 100000
namespace Go.V
open Go Go.Proofs
def xy:=@List.mem_map_of_mem
def Da:=@List.flatMap_assoc
def TX:=@List.perm_ext_iff_of_nodup
def TY:=@List.append_cancel_left
def JK:=@Bool.decide_and
def TZ:=@List.length_eq_one_iff
def Nv:=@List.Sublist.refl
def T0:=@List.Perm.append_left
def T1:=@List.map_reverse
def Nw:=@List.map_id
variable{iX ei ds':List al}{T S:aT}{α:Type}{K:dH->aJ->List aF->Prop}{s x:Operand}{t:bn}{e m c' b9 n c k i bC u:Nat}{c6 aG:dR}{xs b3 cs:List Value}{aP:Addr}{Mr M:List aF}{F:List aR}{r:Int}{I J:aJ}{a:Option Addr}{ks ay:List Int}{os:aQ}{l bo qc:List Nat}{q:List aT}{pl:List (ByteArray×Int)}
def FV{α β:Type}{f g:α->List β}:∀ {l:List α},(∀ c∈l,(f c).Sublist (g c))->(l.flatMap f).Sublist (l.flatMap g)
 |[],_=>.slnil| a::l,h=>by rw[jf,jf];exact(h a (.head _)).append (FV λc ao=>h c (.tail _ ao))
def iI(d:al):Option Int:=if d.k=4\/d.k=5 then some d.k else none
namespace aT
section
variable(ns:List al)
mutual
def pt(cj:Option Int):aT->List aT
 |mk k ks=>if some (nodeAt ns k).k=cj then Nx cj ks else [mk k ks]
def Nx(cj:Option Int):List aT->List aT
 |[]=>[]| a::l=>pt cj a++Nx cj l
end
mutual
def ga(cj:Option Int):aT->List aT
 |mk k ks=>if some (nodeAt ns k).k=cj then vT cj ks else [mk k (vT (iI (nodeAt ns k)) ks)]
def vT(cj:Option Int):List aT->List aT
 |[]=>[]| a::l=>ga cj a++vT cj l
end
def ad2(cj:Option Int):∀ l,Nx ns cj l=l.flatMap (pt ns cj)
 |[]=>rfl| a::l=>by rw[Nx,ad2 cj l];rfl
def Db(cj:Option Int):∀ l,vT ns cj l=l.flatMap (ga ns cj)
 |[]=>rfl| a::l=>by rw[vT,Db cj l];rfl
def parts(T:aT):List aT:=T.sub.flatMap (pt ns (iI (nodeAt ns T.bw)))
def bx:aT->aT
 |mk k ks=>mk k (ks.flatMap (ga ns (iI (nodeAt ns k))))
def y9(cj:Option Int)(k:Nat)(ks:List aT):pt ns cj (mk k ks)=if some (nodeAt ns k).k=cj then ks.flatMap (pt ns cj)else [mk k ks]:=by rw[pt,ad2]
def q8(cj:Option Int)(k:Nat)(ks:List aT):ga ns cj (mk k ks)=if some (nodeAt ns k).k=cj then ks.flatMap (ga ns cj)else [bx ns (mk k ks)]:=by rw[ga,Db,Db];rfl
def ad3:∀ T,(bx ns T).bw=T.bw
 |mk k ks=>rfl
def aq9(cj:Option Int):∀ T,(pt ns cj T).map (bx ns)=ga ns cj T:=by
 intro T
 induction T using aT.ind generalizing cj with
 |h k ks aN=>
  rw[y9,q8];split;·rw[AT];exact r0 λc ao=>aN c ao cj
  ·rfl
def ad4:∀ T,(bx ns T).sub=(parts ns T).map (bx ns)
 |mk k ks=>by show ks.flatMap _=(ks.flatMap _).map _;rw[AT];exact r0 λc ao=>(aq9 ns _ c).symm
def ara(cj:Option Int):∀ T,((pt ns cj T).flatMap cZ).Sublist T.cZ:=by
 intro T
 induction T using aT.ind with
 |h k ks aN=>
  rw[y9,mK];split;·rw[Da];exact(FV λc ao=>aN c ao).trans (xq _ _)
  ·rw[o0,mK];exact .refl _
def arb(cj:Option Int):∀ T,((ga ns cj T).flatMap cZ).Sublist T.cZ:=by
 intro T
 induction T using aT.ind generalizing cj with
 |h k ks aN=>
  rw[q8,mK];split;·rw[Da];exact(FV λc ao=>aN c ao cj).trans (xq _ _)
  ·rw[o0];show((mk k (ks.flatMap (ga ns _))).cZ).Sublist _;rw[mK,Da];exact(FV λc ao=>aN c ao _).append (.refl _)
def arc:∀ T,((bx ns T).cZ).Sublist T.cZ
 |mk k ks=>by show((mk k (ks.flatMap (ga ns _))).cZ).Sublist _;rw[mK,mK,Da];exact(FV λc ao=>arb ns _ c).append (.refl _)
def ard(cj:Option Int):∀ {T},cF iX T->∀ S∈pt ns cj T,cF iX S:=by
 intro T
 induction T using aT.ind with
 |h k ks aN=>
  intro h S cv;rw[y9]at cv;split at cv;·obtain⟨c,ao,cv⟩:=hc.1 cv;exact aN c ao (h.inv.2.2 c ao) S cv
  ·rw[eC.1 cv];exact h
def ad5(h:cF ns T):∀ S∈parts ns T,cF ns S:=by
 intro S cv;cases T with
 |mk k ks=>
 obtain⟨c,ao,cv⟩:=hc.1 cv;exact ard ns _ (h.inv.2.2 c ao) S cv
def are:∀ {T},cF ns T->∀ cj,(∀ S,cF ns S->S.bw∈(ga ns cj T).flatMap cZ->S.bw<iX.length/\(nodeAt iX S.bw).aq=(parts ns S).map λc=>(c.bw:Int))->∀ U∈ga ns cj T,cF iX U:=by
 intro T
 induction T using aT.ind with
 |h k ks aN=>
  intro h cj H U eR;rw[q8]at eR H;split at eR;·rename_i e;rw[bT e]at H;obtain⟨c,ao,eR⟩:=hc.1 eR;refine aN c ao (h.inv.2.2 c ao) cj (λS cv hm=>H S cv ?_) U eR;rw[Da];exact hc.2 ⟨c,ao,hm⟩
  ·rename_i e;rw[bP e]at H;rw[eC.1 eR];have aw:=H (mk k ks) h (by simp;exact FT (bx ns (mk k ks)));have he:=ad4 ns (mk k ks);refine .mk aw.1 ?_ λarf T2=>?_
   ·rw[show(aT.mk k ks).bw=k from rfl]at aw;rw[aw.2];show _=List.map _ (bx ns (mk k ks)).sub;rw[he,gh];exact fT λc ao=>by simp[ad3]
   ·obtain⟨c,ao,T2⟩:=hc.1 T2;refine aN c ao (h.inv.2.2 c ao) _ (λS cv hm=>H S cv ?_) arf T2;rw[o0];show S.bw∈(mk k (ks.flatMap (ga ns _))).cZ;rw[mK,Da];exact im _ (hc.2 ⟨c,ao,hm⟩)
def arh(h:cF ns T)(H:∀ S,cF ns S->S.bw∈(bx ns T).cZ->S.bw<iX.length/\(nodeAt iX S.bw).aq=(parts ns S).map λc=>(c.bw:Int)):cF iX (bx ns T):=by
 cases T with
 |mk k ks=>
 have e:ga ns none (mk k ks)=[bx ns (mk k ks)]:=by rw[q8,bP (by simp)]
 refine are ns h none (λS cv hm=>H S cv ?_) _ (by rw[e];exact .head _);rw[e,o0]at hm;exact hm
end
end aT
inductive aS where
 |mk:al->List aS->aS
def al.bare(d:al):al:=d.ep []
def al.ad6(d:al):d.bare.k=d.k:=rfl
def ad7(d:al):iI d.bare=iI d:=rfl
namespace aS
def d:aS->al
 |mk d _=>d
def sub:aS->List aS
 |mk _ ks=>ks
def ind{P:aS->Prop}(h:∀ d ks,(∀ c∈ks,P c)->P (mk d ks)):∀ T,P T
 |mk d ks=>h d ks (λc ao=>ind h c)
section
variable{α:Type}(F:al->List α->α)
mutual
def fold:aS->α
 |mk d ks=>F d (Ny ks)
def Ny:List aS->List α
 |[]=>[]| a::l=>fold a::Ny l
end
def ad8:∀ l,Ny F l=l.map (fold F)
 |[]=>rfl| a::l=>by rw[Ny,ad8 l];rfl
def fold_eq(d:al)(ks:List aS):fold F (mk d ks)=F d (ks.map (fold F)):=by rw[fold,ad8]
end
mutual
def ga(cj:Option Int):aS->List aS
 |mk d ks=>if some d.k=cj then vT cj ks else [mk d (vT (iI d) ks)]
def vT(cj:Option Int):List aS->List aS
 |[]=>[]| a::l=>ga cj a++vT cj l
end
def Db(cj:Option Int):∀ l,vT cj l=l.flatMap (ga cj)
 |[]=>rfl| a::l=>by rw[vT,Db cj l];rfl
def bx:aS->aS
 |mk d ks=>mk d (ks.flatMap (ga (iI d)))
def q8(cj:Option Int)(d:al)(ks:List aS):ga cj (mk d ks)=if some d.k=cj then ks.flatMap (ga cj)else [bx (mk d ks)]:=by rw[ga,Db,Db];rfl
end aS
namespace aT
section
variable(ns:List al)
mutual
def bare:aT->aS
 |mk k ks=>.mk (nodeAt ns k).bare (Nz ks)
def Nz:List aT->List aS
 |[]=>[]| a::l=>bare a::Nz l
end
def ad9:∀ l,Nz ns l=l.map (bare ns)
 |[]=>rfl| a::l=>by rw[Nz,ad9 l];rfl
def nq(k:Nat)(ks:List aT):bare ns (mk k ks)=.mk (nodeAt ns k).bare (ks.map (bare ns)):=by rw[bare,ad9]
def ari(cj:Option Int):∀ T,(ga ns cj T).map (bare ns)=(bare ns T).ga cj:=by
 intro T
 induction T using aT.ind generalizing cj with
 |h k ks aN=>
  rw[q8,nq,aS.q8,al.ad6];split;·rw[AT,yt];exact r0 λc ao=>aN c ao cj
  ·show [bare ns (mk k (ks.flatMap (ga ns _)))]=[aS.mk _ ((ks.map (bare ns)).flatMap (aS.ga (iI (nodeAt ns k).bare)))];rw[nq,AT,yt,ad7];congr 2;exact r0 λc ao=>aN c ao _
def arj:∀ T,bare ns (bx ns T)=(bare ns T).bx
 |mk k ks=>by show bare ns (mk k (ks.flatMap (ga ns _)))=_;rw[nq,nq];show _=aS.mk _ ((ks.map (bare ns)).flatMap (aS.ga (iI (nodeAt ns k).bare)));rw[AT,yt,ad7];congr 1;exact r0 λc ao=>ari ns _ c
def aea:∀ T,(∀ x∈cZ T,(nodeAt iX x).bare=(nodeAt ns x).bare)->bare iX T=bare ns T:=by
 intro T
 induction T using aT.ind with
 |h k ks aN=>intro h;rw[nq,nq,h k (FT (mk k ks))];congr 1;refine fT λc ao=>aN c ao λx ad=>h x ?_;rw[mK];exact im _ (hc.2 ⟨c,ao,ad⟩)
def Dc(h:cF ns T)(m:List al):bare (ns++m) T=bare ns T:=aea ns T λx ad=>by rw[adV (h.lt x ad)]
end
end aT
def aeb{z:α}{F:al->List α->α}(bs:∀ d l,F (d.ep l)=F d){ns:List al}(ae:sg ns):∀ {T:aT},cF ns T->mv z (λd g=>F d (d.aq.map g)) ns T.bw=(T.bare ns).fold F:=by
 intro T
 induction T using aT.ind with
 |h k ks aN=>intro bl;obtain⟨aa,ab,ai⟩:=bl.inv;have h:=La (z:=z) (f:=λd g=>F d (d.aq.map g)) ns [] k aa;simp only[g3,dp]at h;rw[aT.nq,aS.fold_eq];show(fH z _ ns []).getD (k:Int).toNat z=F ((nodeAt ns k).ep []) _;rw[bs,bM,gN,h,kK,<-gy aa,ab,gh,gh];congr 1;refine fT λc ao=>?_;rw[Function.comp,Function.comp,<-aN c ao (ai c ao)];have:=bl.TW ae ao;unfold mv;rw[bM,bM,k9,bT (by omega)]
section
variable{X:c1}{F:Fr}{C:dO}{I:aJ}{M:List aF}{o:Oper}
def kM.aec(aO:cX X.P X.E){t:Nat}(aC:o.op=.call { callee:=.builtin .append,args:=#[s,x],argTypes:=#[t,t] })
 (au:X.E t=some c6) (dz:c6.bQ=.slice e) (he:X.E e=some aG)
  (os:aQ) (bi:os.ok aG.size xs) (av:bH F s=.val os.val)
 (ad:bH F x=.val (.slice (some aP) m c')) (hm:0<m) (aD:cY I M aP (m*aG.size) b3) (aa:fJ b3=true)
 (bb:M.Perm (os.ar e++Mr)) (b1:os.n+m<=maxLen) (bW:(os.n+m)*aG.bytes<=140737488355328)
  (M':aQ->List aF) (yQ:∀ bu:aQ,(bu.ar e++Mr).Perm (M' bu))
  (k:∀ bu:aQ,bu.n=os.n+m->(∀ g,bu.a=some g->I g=none/\(os.a=none->g ∉ X.foot))->bu.ok aG.size (xs++b3)->K (.val bu.val) I (M' bu)):kM X o F C I M K:=by
 refine⟨fun β a w Q iM=>?_⟩;have y':b3.length=m*aG.size:=by obtain⟨_,_,_,_,_,_,h⟩:=aD;exact h
 have eV:∀ w,eN I M w->(Builtin.firstCells aG.size m (.slice (some aP) m c')).run X.P w=.ok b3.toArray w:=λw hw=>by
  obtain⟨de,cs,T,an,fh,aj,aA⟩:=aD;refine run_firstCells_some (P:=X.P) w aG.size m aP m c' b3 aA λj v ak=>?_;rw[eO _ de,ts (fh.heap hw)];rw[<-aj,k9]at ak;split at ak;·rw[nw]at ak;simpa using ak
  ·cases ak
 have aX:cL X β a w F C I (os.ar e++Mr):=iM.h7 (.perm bb .refl);obtain⟨inf,z,hi,fv,hW,ik,j4⟩:=(aO _ _ he).inf;obtain⟨g2,iO,kS⟩:=(aO _ _ au).ft;have oO:g2=.slice e:=by rw[dz]at kS;cases g2<;>simp_all[fs]
 subst oO;have qF:z.cells.size=inf.size:=by rw[fv,<-(aO _ _ he).len,<-j4];simp
 have ark:=bi;rw[<-fv]at bi y' eV;obtain⟨g,c,aU,w',e',a',bg,b5,gf,n6⟩:=Pk (P:=X.P) (w:=w) t t o.type e inf z iO iO (λk cU=>by cases cU) hi ik qF bi (λg ax=>aX.holds.m ⟨g,.cells os.aU.toArray e (0,0)⟩ (by simp[aQ.ar,ax])) (x:=.slice (some aP) m c') hm y' (zp aa) (λ_=>rfl) (λw' yc=>eV w' (iM.holds.heap yc)) b1 (by rw[hW];exact bW);rw[fv]at a' gf y';have zN:I g=none:=by
  rcases n6 with⟨ax,_⟩ | ⟨rfl,_⟩;·exact aX.holds.d ⟨g,.cells os.aU.toArray e (0,0)⟩ (by simp[aQ.ar,ax])
  ·cases bB:I w.heap.size with
   |none=>rfl| some nD=>have:=aX.holds.i _ _ bB;simp at this
 have arl:os.a=none->g ∉ X.foot:=λaw hm=>by
  rcases n6 with⟨ax,_⟩ | ⟨rfl,_⟩;·rw[aw]at ax;cases ax
  ·have aa:=aX.fy _ hm;have ab:=aX.sz;omega
 have es:=dh aX.an av;have ex:=dh aX.an ad;have kE:(⟨some g,os.n+m,c,aU⟩:aQ).ok aG.size (xs++b3):=by
  refine⟨?_,(λh=>by cases h),λeu ax=>?_⟩;·rw[cm,ark.len,y',lT]
  ·cases ax;exact⟨a',bg,b5,gf⟩
 refine iJ (by rw[aC];simp) (v:=.slice (some ⟨g,0,none⟩) (os.n+m) c) (w':=w') ?_ ⟨_,.val (.slice (some ⟨g,0,none⟩) (os.n+m) c),I,M' ⟨some g,os.n+m,c,aU⟩,rfl,rfl,?_,k ⟨some g,os.n+m,c,aU⟩ rfl (λeu ax=>by cases ax;exact⟨zN,arl⟩) kE,rfl⟩
 ·unfold execOp;simp only[aC,resolve,invoke,builtin,cu,c7,bY,rz,ca,hH,es,ex,e']
 ·refine cL.h7 ?_ (.perm (yQ _) .refl);rcases n6 with⟨ax,rfl⟩ | ⟨rfl,rfl⟩
  ·have ag:os.ar e=[⟨g,.cells os.aU.toArray e (0,0)⟩]:=by simp[aQ.ar,ax]
   rw[ag]at aX;exact aX.xU (a9:=[]) (post:=Mr) rfl
  ·have ab:cL X β a w.drew F C I (os.ar e++Mr):=aX.world rfl;have ai:=ab.n2 (.cells aU.toArray e (0,0));refine ai.h7 (.sub ?_ .refl);exact List.Sublist.cons_cons _ (mT _ _)
def kM.aed(aO:cX X.P X.E){t:Nat}(aC:o.op=.call { callee:=.builtin .append,args:=#[s,x],argTypes:=#[t,t] })
 (au:X.E t=some c6) (dz:c6.bQ=.slice e) (he:X.E e=some aG)
  (os:aQ) (bi:os.ok aG.size xs) (av:bH F s=.val os.val)
 (ad:bH F x=.val (.slice (some aP) m c')) (hm:0<m) (aD:cY I M aP (m*aG.size) b3) (aa:fJ b3=true)
 (bb:M.Perm (os.ar e++Mr)) (b1:os.n+m<=maxLen) (bW:(os.n+m)*aG.bytes<=140737488355328)
  (M':aQ->List aF) (yQ:∀ bu:aQ,(bu.ar e++Mr).Perm (M' bu))
  (k:∀ bu:aQ,bu.n=os.n+m->(∀ g,bu.a=some g->I g=none)->bu.ok aG.size (xs++b3)->K (.val bu.val) I (M' bu)):kM X o F C I M K:=
 kM.aec aO aC au dz he os bi av ad hm aD aa bb b1 bW M' yQ λbu aa ab ai=>k bu aa (λg ax=>(ab g ax).1) ai
def kM.l7(aO:cX X.P X.E){t:Nat}(aC:o.op=.call { callee:=.builtin .append,args:=#[s,x],argTypes:=#[t,t] })
 (au:X.E t=some c6) (dz:c6.bQ=.slice e) (he:X.E e=some aG)
  (os:aQ) (bi:os.ok aG.size xs) (av:bH F s=.val os.val)
 (ad:bH F x=.val (.slice (some ⟨b9,0,none⟩) 1 c')) (aA:cs.length=aG.size) (aa:fJ cs=true)
  (a9 post:List aF) (bb:M=⟨b9,.cells cs.toArray e (0,0)⟩::(a9++(os.ar e++post))) (b1:os.n+1<=9223372036854775807) (bW:(os.n+1)*aG.bytes<=140737488355328)
  (k:∀ bu:aQ,bu.n=os.n+1->(∀ g,bu.a=some g->I g=none)->bu.ok aG.size (xs++cs)->K (.val bu.val) I (⟨b9,.cells cs.toArray e (0,0)⟩::(a9++(bu.ar e++post)))):kM X o F C I M K:=by
 have aH:∀ bu:aQ,(bu.ar e++(⟨b9,.cells cs.toArray e (0,0)⟩::(a9++post)):List aF).Perm (⟨b9,.cells cs.toArray e (0,0)⟩::(a9++(bu.ar e++post))):=λbu=>
  na.trans (.cons _ (yn _ _ _))
 refine .aed aO aC au dz he os bi av (m:=1) (b3:=cs) ad (by decide) ?_ aa (Mr:=⟨b9,.cells cs.toArray e (0,0)⟩::(a9++post)) ?_ (by unfold maxLen;exact b1) bW _ aH k
 ·rw[oI];refine⟨rfl,_,_,_,.inr ⟨⟨b9,.cells cs.toArray e (0,0)⟩,by rw[bb];exact .head _,rfl,rfl⟩,?_,aA⟩;simp only[tA];exact fS (by omega)
 ·rw[bb];exact(aH os).symm
end
def NA{G F:Fr}{y:Operand}{r:dH}(h:dn G y=dn F y)(bj:bH F y=r):bH G y=r:=by simp only[bH,dB,h];exact bj
structure ct where
 b:Nat
 os:aQ
 ds:List al
def ct.ah(A:ct):aF:=⟨A.b,.cells #[A.os.val] 216 (0,0)⟩
def ct.ar(A:ct):List aF:=A.ah::A.os.ar 82
structure ct.ok(I:aJ)(A:ct):Prop where
 os:A.os.ok 9 (A.ds.flatMap al.cells)
 n:A.os.n=A.ds.length
 ds:∀ d∈A.ds,d.ok I
def ct.ok.mono{I':aJ}{A:ct}(h:A.ok I)(bB:∀ b o,I b=some o->I' b=some o):A.ok I':=⟨h.os,h.n,λd ah=>(h.ds d ah).mono bB⟩
def aee{A:ct}(dI:A.ok I)(aD:A.ds.length<=1099511627776){d:al}(ah:d.ok I) :
  Spec Tryz.prog 274 [ptr A.b,d.val] I A.ar λv I' M'=>v=.int .i64 A.ds.length/\I'=I/\∃ os,M'=ct.ar ⟨A.b,os,A.ds++[d]⟩/\ct.ok I ⟨A.b,os,A.ds++[d]⟩:=by
 refine b0 [] a3 Tryz.func274 rfl rfl rfl ?_;intro B aw;obtain⟨k,cz,s1,s2,cV,s,lo,hi,cf,az,cx,aq⟩:=d;have cc:=dI.os;have bt:∀ (os:aQ) (M:List aF),(⟨A.b,.cells #[os.val] 216 (0,0)⟩:aF)∈M->cY I M ((⟨A.b,0,none⟩:Addr).add 0) 1 [os.val]:=λos M hm=>dq (cs:=[os.val]) (k:=0) (n:=1) (T:=216) hm (by simp);refine c2.draw a3 rfl rfl rfl ?_;refine aV.mk _ (bt A.os _ (.head _)) ?_;refine bZ.mk λb9 m8 uv=>?_;intro G g9;refine kM.l7 a3 rfl (e:=82) rfl rfl rfl A.os cc (NA (g9 _ (by simp[Op.operands,Call.operands])) rfl) (NA (g9 _ (by simp[Op.operands,Call.operands])) rfl) (cs:=al.cells ⟨k,cz,s1,s2,cV,s,lo,hi,cf,az,cx,aq⟩) rfl rfl [A.ah] [] (by rw[dD];rfl) (by have:=dI.n;omega) (by have:=dI.n;show(A.os.n+1)*96<=_;omega) ?_;intro bu aa ab ai;refine cd.mk [_] (bu.ar _++[]) #[A.os.val] 216 rfl rfl (bK rfl) rfl ?_;refine aV.mk _ (bt bu _ (.tail _ (.head _))) ?_;have x8:=dI.n;refine⟨(A.ds.length:Int),?_,?_⟩
 ·rw[wrap_i64 (by unfold ha;omega)];omega
 refine⟨_,_,.sub (M1:=ct.ar ⟨A.b,bu,A.ds++[⟨k,cz,s1,s2,cV,s,lo,hi,cf,az,cx,aq⟩]⟩) ?_ .refl,rfl,rfl,bu,rfl,?_⟩
 ·show List.Sublist (_::(bu.ar _)) (_::_::(bu.ar _++[]));rw[dD];exact .cons _ (.refl _)
 ·refine⟨?_,?_,λx ad=>?_⟩
  ·rw[fX];simpa using ai
  ·rw[aa,cm,dI.n];rfl
  ·rcases cC.1 ad with ad | ad
   ·exact dI.ds x ad
   ·rw[eC.1 ad];exact ah
def al.row(d:al)(a:Option Addr)(n c:Nat)(ks:List Int):al:=⟨d.k,d.cz,d.s1,d.s2,d.cV,d.t,d.lo,d.hi,a,n,c,ks⟩
def al.ok.row{d:al}(h:d.ok I)(af:cD I a n c 1 8 (ks.map (.int .i64 ·)))(ae:∀ x∈ks,ha x):(d.row a n c ks).ok I:=⟨h.k,h.cz,h.s1,h.s2,h.cV,h.t,h.lo,h.hi,af,ae⟩
def arm(A:ct)(d:al)(I:aJ)(v:Value)(I':aJ)(M':List aF):Prop:=v=.int .i64 A.ds.length/\I'=I/\∃ os,M'=ct.ar ⟨A.b,os,A.ds++[d]⟩/\ct.ok I ⟨A.b,os,A.ds++[d]⟩
def aef{A:ct}(dI:A.ok I)(aD:A.ds.length<=1099511627776){d:al}(ah:d.ok I)(af:cD I a n c 1 8 (ks.map (.int .i64 ·)))(ae:∀ x∈ks,ha x) :
  Spec Tryz.prog 222 [ptr A.b,d.val,.slice a n c] I A.ar (arm A (d.row a n c ks) I):=by
 refine b0 [] a3 Tryz.func222 rfl rfl rfl ?_;intro B aw;have fE:=ah.row af ae;obtain⟨k,cz,s1,s2,cV,s,lo,hi,cf,az,cx,aq⟩:=d;have de:=aee dI aD fE;refine bc.mk A.ar [] _ (by rw[dD]) de ?_;rintro v I' M' -⟨rfl,rfl,os,rfl,h⟩;exact⟨_,_,.sub (M1:=ct.ar ⟨A.b,os,A.ds++[_]⟩) (by simp) .refl,rfl,rfl,os,rfl,h⟩
def mL(d:al)(x:al):Bool:=!decide (d.k=4) || !decide (x.k=0)
def sh(A:ct)(d:al)(os:aQ)(p5 p4 p9:Nat):List aF:=⟨p5,.cells d.cells.toArray 82 (0,0)⟩::⟨p4,.cells #[ptr A.b] 220 (0,0)⟩::⟨p9,.cells #[os.val] 38 (0,0)⟩::(os.ar 3++A.ar)
def arn{A:ct}(dI:A.ok I)(aD:A.ds.length<=1099511627776){d:al}(ah:d.ok I){l:List Int}(cc:os.ok 1 (l.map (.int .i64 ·)))(aA:os.n<=1099511627776){p5 p4 p9:Nat}(ae:k<A.ds.length) :
  Spec Tryz.prog 297 [.int .i64 k,ptr p5,ptr p4,ptr p9] I (sh A d os p5 p4 p9) λv I' M'=>I'=I/\∃ bu,M'=sh A d bu p5 p4 p9/\bu.ok 1 ((l++bif mL d A.ds[k]then [(k:Int)]else []).map (.int .i64 ·)):=by
 refine b0 [] a3 Tryz.func297 rfl rfl rfl ?_;intro B aw;obtain⟨aP,bI,bt⟩:=aQ.ok.row (I:=I) (M:=sh A d os p5 p4 p9) al.cH (by decide) dI.os (e:=82) (λx ad=>by simp[sh,ct.ar,ad]) (j:=k) ae;obtain⟨dN,cz,s1,s2,cV,s,lo,hi,cf,az,cx,aq⟩:=d;refine aV.mk [.int .u8 dN] (dq (cs:=al.cells ⟨dN,cz,s1,s2,cV,s,lo,hi,cf,az,cx,aq⟩) (k:=0) (n:=1) (T:=82) (.head _) (by simp[al.cells])) ?_;refine cT.mk (λaL=>?_) (λaL=>?_)
 ·have dM:dN=4:=by simpa using aL
  refine aV.mk [ptr A.b] (dq (cs:=[ptr A.b]) (k:=0) (n:=1) (T:=220) (.tail _ (.head _)) (by simp)) ?_;refine aV.mk [A.os.val] (dq (cs:=[A.os.val]) (k:=0) (n:=1) (T:=216) (by simp[sh,ct.ar,ct.ah]) (by simp)) ?_;refine bA.mk aP k bI rfl (by have:=dI.n;omega) ?_;refine aV.mk [.int .u8 A.ds[k].k] (cY.part (k:=0) (m:=1) bt (by decide)) ?_;refine a5.mk (λaw=>?_) (λaw=>?_)
  ·have ae:mL ⟨dN,cz,s1,s2,cV,s,lo,hi,cf,az,cx,aq⟩ A.ds[k]=true:=by unfold mL;have hx:(!decide (A.ds[k].k=0))=true:=aw;rw[hx,L0]
   refine aV.mk [os.val] (dq (cs:=[os.val]) (k:=0) (n:=1) (T:=38) (.tail _ (.tail _ (.head _))) (by simp)) ?_;refine bZ.mk λb9 m8 uv=>?_;refine bF.l7 a3 rfl (by simp) (e:=3) rfl rfl rfl os cc rfl (cs:=[.int .i64 k]) rfl rfl rfl [_,_,_] A.ar rfl (by omega) (by show(os.n+1)*8<=_;omega) ?_;intro bu aa ab ai;refine cd.mk [_,_] (bu.ar 3++A.ar) #[os.val] 38 rfl rfl (bK rfl) rfl ?_;refine⟨_,_,.refl,rfl,bu,rfl,?_⟩;rw[ae,cS];exact ai
  ·have ae:mL ⟨dN,cz,s1,s2,cV,s,lo,hi,cf,az,cx,aq⟩ A.ds[k]=false:=by unfold mL;have Cn:(!decide (dN=4))=false:=aL;have hx:(!decide (A.ds[k].k=0))=false:=aw;rw[Cn,hx];rfl
   refine⟨_,_,.refl,rfl,os,rfl,?_⟩;rw[ae];simpa using cc
 ·have ae:mL ⟨dN,cz,s1,s2,cV,s,lo,hi,cf,az,cx,aq⟩ A.ds[k]=true:=by unfold mL;have Cn:(!decide (dN=4))=true:=aL;rw[Cn,Bool.true_or]
  refine aV.mk [os.val] (dq (cs:=[os.val]) (k:=0) (n:=1) (T:=38) (.tail _ (.tail _ (.head _))) (by simp)) ?_;refine bZ.mk λb9 m8 uv=>?_;refine bF.l7 a3 rfl (by simp) (e:=3) rfl rfl rfl os cc rfl (cs:=[.int .i64 k]) rfl rfl rfl [_,_,_] A.ar rfl (by omega) (by show(os.n+1)*8<=_;omega) ?_;intro bu aa ab ai;refine cd.mk [_,_] (bu.ar 3++A.ar) #[os.val] 38 rfl rfl (bK rfl) rfl ?_;refine⟨_,_,.refl,rfl,bu,rfl,?_⟩;rw[ae,cS];exact ai
def mM:al:=⟨0,0,0,0,0,⟨#[]⟩,0,0,none,0,0,[]⟩
def iy(d:al)(ds:List al)(l:List Nat):List Int:=l.flatMap λk=>bif mL d (ds.getD k mM)then [(k:Int)]else []
structure aro(A:ct)(d:al)(l:List Nat)(x:Nat×aQ):Prop where
 i:x.1<=l.length
 os:x.2.ok 1 ((iy d A.ds (l.take x.1)).map (.int .i64 ·))
def aeg{A:ct}(dI:A.ok I)(aD:A.ds.length<=1099511627776){d z:al}(ah:d.ok I)(bd:z.ok I)(aA:∀ k∈l,k<A.ds.length)(s0:l.length<=1099511627776)(af:cD I a n c 1 8 ((l.map Int.ofNat).map (.int .i64 ·))) :
  Spec Tryz.prog 275 [ptr A.b,d.val,.slice a n c,z.val] I A.ar λv I' M'=>(∀ b o,I b=some o->I' b=some o)/\∃ bu ds' r,M'=ct.ar ⟨A.b,bu,ds'⟩/\ct.ok I' ⟨A.b,bu,ds'⟩/\v=.int .i64 r /\
   ((iy d A.ds l=[]/\r=(A.ds.length:Int)/\ds'=A.ds++[z])\/(iy d A.ds l=[r]/\ds'=A.ds)\/(2<=(iy d A.ds l).length/\r=(A.ds.length:Int)/\∃ bN gA c',ds'=A.ds++[d.row bN gA c' (iy d A.ds l)])):=by
 refine b0 [4,5,9] a3 Tryz.func275 rfl rfl rfl ?_;intro B aw;obtain⟨dN,cz,s1,s2,cV,s,lo,hi,cf,az,cx,aq⟩:=d;obtain⟨arp,arq,AG,Sh,ars,fg,art,aru,arv,arw,arx,ary⟩:=z;refine bZ.mk λp4 za yW=>?_;refine bZ.mk λp5 ayi NB=>?_;refine bZ.mk λp9 ayj uv=>?_;have IS:l.length=n:=by have aa:=af.len;simpa using aa
 refine dx.inv (ι:=Nat×aQ) (λx=>{ bp:=[(4,.val (ptr p4)),(5,.val (ptr p5)),(7,.ref 7 0),(9,.val (ptr p9)),(10,.val (.func (.func 297) #[] #[ptr p5,ptr p4,ptr p9])),(14,.val (.slice a n c)),(15,.val (.int .i64 n)),(16,.val (.int .i64 x.1))],cl:=[(7,al.cells ⟨arp,arq,AG,Sh,ars,fg,art,aru,arv,arw,arx,ary⟩)],cP:=I,da:=sh A ⟨dN,cz,s1,s2,cV,s,lo,hi,cf,az,cx,aq⟩ x.2 p5 p4 p9 }) (aro A ⟨dN,cz,s1,s2,cV,s,lo,hi,cf,az,cx,aq⟩ l) (λx=>l.length-x.1) ?_ ?_
 ·refine⟨(0,⟨none,0,0,[]⟩),⟨dj _,⟨rfl,λ_=>⟨rfl,rfl⟩,λg h=>by cases h⟩⟩,.perm ?_ .refl,kL,.cons rfl (.nil)⟩;exact(na (l₁:=[_,_])).symm
 ·rintro⟨i,os⟩⟨cG,cc⟩;simp only at cG cc;have fA:cD I a n c 1 8 ((l.map Int.ofNat).flatMap iH):=by rw[oo];exact af
  have cQ:(iy ⟨dN,cz,s1,s2,cV,s,lo,hi,cf,az,cx,aq⟩ A.ds (l.take i)).length<=i:=by
   refine ja ?_ (D9 i l);generalize l.take i=dC;unfold iy
   induction dC with
   |nil=>exact b2 _
   |cons x dC aN=>
    rw[jf,cm,eo];have:(bif mL ⟨dN,cz,s1,s2,cV,s,lo,hi,cf,az,cx,aq⟩ (A.ds.getD x mM)then [(x:Int)]else []).length<=1:=by cases mL ⟨dN,cz,s1,s2,cV,s,lo,hi,cf,az,cx,aq⟩ (A.ds.getD x mM)<;>simp
    omega
  have ic:=cc.pY;refine a5.mk (λh=>?_) (λh=>?_)
  ·have a4:(i:Int)<n:=c5 h;have ed:i<l.length:=by omega
   obtain⟨aP,bI,bt⟩:=fA.row (f:=iH) (λ_=>rfl) (j:=i) (by omega) (by simpa using ed);rw[gg]at bt;refine bA.mk aP i bI rfl (by omega) ?_;refine aV.mk _ (bt _) ?_;have FN:=aA _ (bJ ed);have de:=arn (p5:=p5) (p4:=p4) (p9:=p9) dI aD ah cc (by omega) FN;refine bc.mk (sh A ⟨dN,cz,s1,s2,cV,s,lo,hi,cf,az,cx,aq⟩ os p5 p4 p9) [] _ (by rw[dD]) de ?_;rintro v I' M' -⟨rfl,bu,rfl,Cd⟩;refine be.mk ((i+1:Nat):Int) (l2 (by simp only;omega) (by omega)) ?_;refine⟨(i+1,bu),⟨⟨by simp only;omega,?_⟩,by simp only;omega⟩,.perm (by rw[dD]) .refl,kL,.cons rfl (.nil)⟩
   ·show bu.ok 1 ((iy ⟨dN,cz,s1,s2,cV,s,lo,hi,cf,az,cx,aq⟩ A.ds (l.take (i+1))).map (.int .i64 ·));have e:iy ⟨dN,cz,s1,s2,cV,s,lo,hi,cf,az,cx,aq⟩ A.ds (l.take (i+1))=iy ⟨dN,cz,s1,s2,cV,s,lo,hi,cf,az,cx,aq⟩ A.ds (l.take i)++bif mL ⟨dN,cz,s1,s2,cV,s,lo,hi,cf,az,cx,aq⟩ A.ds[l[i]]then [((l[i]:Nat):Int)]else []:=by unfold iy;rw[gH ed,fX];congr 1;simp[bM,FN]
    rw[e];exact Cd
  ·have c8:¬ (i:Int)<n:=dP h;obtain rfl:i=l.length:=by omega
   rw[DS]at cc cQ ic;refine aV.mk [os.val] (dq (cs:=[os.val]) (k:=0) (n:=1) (T:=38) (.tail _ (.tail _ (.head _))) (by simp)) ?_;have mF:(sh A ⟨dN,cz,s1,s2,cV,s,lo,hi,cf,az,cx,aq⟩ os p5 p4 p9).Perm (A.ar++([⟨p5,.cells (al.cells ⟨dN,cz,s1,s2,cV,s,lo,hi,cf,az,cx,aq⟩).toArray 82 (0,0)⟩,⟨p4,.cells #[ptr A.b] 220 (0,0)⟩,⟨p9,.cells #[os.val] 38 (0,0)⟩]++os.ar 3)):=by
    have:sh A ⟨dN,cz,s1,s2,cV,s,lo,hi,cf,az,cx,aq⟩ os p5 p4 p9=([⟨p5,.cells (al.cells ⟨dN,cz,s1,s2,cV,s,lo,hi,cf,az,cx,aq⟩).toArray 82 (0,0)⟩,⟨p4,.cells #[ptr A.b] 220 (0,0)⟩,⟨p9,.cells #[os.val] 38 (0,0)⟩]++os.ar 3)++A.ar:=by simp[sh]
    rw[this];exact eT
   refine a5.mk (λaw=>?_) (λaw=>?_)
   ·have di:os.n=0:=by simpa using aw
    refine aV.mk [ptr A.b] (dq (cs:=[ptr A.b]) (k:=0) (n:=1) (T:=220) (.tail _ (.head _)) (by simp)) ?_;refine bc.mk A.ar _ _ mF (aee dI aD bd) ?_;rintro v I' M' -⟨rfl,rfl,iw,rfl,bi⟩;exact⟨_,_,.sub (xq _ _) .refl,λ_ _ h=>h,iw,_,_,rfl,bi,rfl,.inl ⟨iD (by omega),rfl,rfl⟩⟩
   ·refine a5.mk (λaa=>?_) (λaa=>?_)
    ·have aK:os.n=1:=by
      have:(os.n:Int)=1:=by simpa using aa
      omega
     have u0:(iy ⟨dN,cz,s1,s2,cV,s,lo,hi,cf,az,cx,aq⟩ A.ds l).length=1:=by omega
     obtain⟨r,h9⟩:=TZ.1 u0;refine aV.mk [os.val] (dq (cs:=[os.val]) (k:=0) (n:=1) (T:=38) (.tail _ (.tail _ (.head _))) (by simp)) ?_;rw[<-oo]at cc;obtain⟨aP,bI,bt⟩:=aQ.ok.row (I:=I) (M:=sh A ⟨dN,cz,s1,s2,cV,s,lo,hi,cf,az,cx,aq⟩ os p5 p4 p9) (e:=3) (f:=iH) (size:=1) (λ_=>rfl) (by decide) cc (λx ad=>by simp[sh,ad]) (j:=0) (by omega);refine bA.mk aP 0 bI rfl (by omega) ?_;refine aV.mk _ bt ?_;refine⟨_,_,.sub (M1:=A.ar) (.cons _ (.cons _ (.cons _ (mT _ _)))) .refl,λ_ _ h=>h,A.os,A.ds,r,rfl,dI,?_,.inr (.inl ⟨h9,rfl⟩)⟩;simp[h9];rfl
    ·refine aV.mk [ptr A.b] (dq (cs:=[ptr A.b]) (k:=0) (n:=1) (T:=220) (.tail _ (.head _)) (by simp)) ?_;refine aV.mk (al.cells ⟨dN,cz,s1,s2,cV,s,lo,hi,cf,az,cx,aq⟩) (dq (cs:=al.cells ⟨dN,cz,s1,s2,cV,s,lo,hi,cf,az,cx,aq⟩) (k:=0) (n:=9) (T:=82) (.head _) (by simp[al.cells])) ?_;refine aV.mk [os.val] (dq (cs:=[os.val]) (k:=0) (n:=1) (T:=38) (.tail _ (.tail _ (.head _))) (by simp)) ?_;have hx:¬ os.n=0:=λe=>by have ab:decide ((os.n:Int)=0)=false:=aw;simp[e]at ab
     have tK:¬ os.n=1:=λe=>by have ab:decide ((os.n:Int)=1)=false:=aa;simp[e]at ab
     refine bc.wi λeS=>?_;have mb:(sh A ⟨dN,cz,s1,s2,cV,s,lo,hi,cf,az,cx,aq⟩ os p5 p4 p9).Perm (os.ar 3++(A.ar++[⟨p5,.cells (al.cells ⟨dN,cz,s1,s2,cV,s,lo,hi,cf,az,cx,aq⟩).toArray 82 (0,0)⟩,⟨p4,.cells #[ptr A.b] 220 (0,0)⟩,⟨p9,.cells #[os.val] 38 (0,0)⟩])):=by have e:sh A ⟨dN,cz,s1,s2,cV,s,lo,hi,cf,az,cx,aq⟩ os p5 p4 p9=[⟨p5,.cells (al.cells ⟨dN,cz,s1,s2,cV,s,lo,hi,cf,az,cx,aq⟩).toArray 82 (0,0)⟩,⟨p4,.cells #[ptr A.b] 220 (0,0)⟩,⟨p9,.cells #[os.val] 38 (0,0)⟩]++(os.ar 3++A.ar):=rfl;rw[e,<-ec (os.ar 3)];exact eT
     have ax:∀ g,os.a=some g->I g=none/\g ∉ A.ar.map (·.num):=λg ax=>by
      have ag:os.ar 3=[⟨g,.cells os.aU.toArray 3 (0,0)⟩]:=by unfold aQ.ar;rw[ax]
      have bV:=(mb.map (·.num)).nodup_iff.1 eS.bX;rw[ag]at bV mb;refine⟨eS.d _ (mb.mem_iff.2 (.head _)),λhm=>?_⟩;rw[cS]at bV;simp only[ca,hH,qO,mg,cS]at bV;exact bV.1 (im _ hm)
     obtain⟨eE,hw,gx,dr,-⟩:=aQ.Ae (b:=8) cc (by omega) ax (A.ar++[⟨p5,.cells (al.cells ⟨dN,cz,s1,s2,cV,s,lo,hi,cf,az,cx,aq⟩).toArray 82 (0,0)⟩,⟨p4,.cells #[ptr A.b] 220 (0,0)⟩,⟨p9,.cells #[os.val] 38 (0,0)⟩]);have S6:∀ x∈iy ⟨dN,cz,s1,s2,cV,s,lo,hi,cf,az,cx,aq⟩ A.ds l,ha x:=λx ad=>by
      obtain⟨k,ae,ad⟩:=hc.1 ad;have:=aA k ae;cases aM:mL ⟨dN,cz,s1,s2,cV,s,lo,hi,cf,az,cx,aq⟩ (A.ds.getD k mM)with
      |false=>rw[aM]at ad;cases ad| true=>rw[aM]at ad;rw[eC.1 ad];unfold ha;omega
     have de:=aef (dI.mono gx) aD (ah.mono gx) dr S6;refine bc.zo eE A.ar [⟨p5,.cells (al.cells ⟨dN,cz,s1,s2,cV,s,lo,hi,cf,az,cx,aq⟩).toArray 82 (0,0)⟩,⟨p4,.cells #[ptr A.b] 220 (0,0)⟩,⟨p9,.cells #[os.val] 38 (0,0)⟩] _ (.perm mb (hw _ _ .refl)) de ?_;rintro v I' M' bk -⟨rfl,rfl,iw,rfl,bi⟩;exact⟨_,_,.sub (xq _ _) .refl,gx,iw,_,_,rfl,bi,rfl,.inr (.inr ⟨by omega,rfl,_,_,_,rfl⟩)⟩
namespace aS
mutual
def post:aS->List al
 |mk d ks=>sX d (NC ks)
def NC:List aS->List (List al)
 |[]=>[]| a::l=>post a::NC l
end
def aeh:∀ l,NC l=l.map post
 |[]=>rfl| a::l=>by rw[NC,aeh l];rfl
def k1(d:al)(ks:List aS):post (mk d ks)=sX d (ks.map post):=by rw[post,aeh]
end aS
inductive eY:aS->Prop
 |mk{d:al}{ks:List aS}:fits d ks.length=true->(∀ c∈ks,eY c)->eY (.mk d ks)
def eY.inv{d:al}{ks:List aS}(h:eY (.mk d ks)):fits d ks.length=true/\∀ c∈ks,eY c:=by
 cases h with
 |mk aa ab=>exact⟨aa,ab⟩
def aei:∀ {T:aS},eY T->hf (jD T.post):=by
 intro T
 induction T using aS.ind with
 |h d ks aN=>intro h;rw[aS.k1];refine aqS (λl aA=>?_) (by rw[bE];exact h.inv.1);obtain⟨c,ao,rfl⟩:=c0.1 aA;exact aN c ao (h.inv.2 c ao)
def arz{l:List al}(h:hf (jD l)):0<l.length/\∀ d∈l,∀ k∈d.aq,0<=k:=by
 have:=h.br;refine⟨?_,λd ah k ae=>?_⟩
 ·have aa:(0:Int)<=(l.length:Int)-1:=this.1;omega
 ·obtain⟨j,ak,rfl⟩:=hM ah;exact(h.aq j ak k ae).1
def arA{z:α}{F:al->List α->α}(bs:∀ d l,F (d.ep l)=F d):∀ {T:aS},eY T->A3 z F T.post=T.fold F:=by
 intro T
 induction T using aS.ind with
 |h d ks aN=>
  intro h;rw[aS.k1,aS.fold_eq,aqQ bs,gh];·congr 1;exact fT λc ao=>aN c ao (h.inv.2 c ao)
  ·intro l aA;obtain⟨c,ao,rfl⟩:=c0.1 aA;exact arz (aei (h.inv.2 c ao))
def aT.hs(T:aT):List Int:=T.cZ.map λx:Nat=>(x:Int)
def aT.JL(k:Nat)(ks:List aT):(aT.mk k ks).hs=ks.flatMap aT.hs++[(k:Int)]:=by unfold aT.hs;rw[aT.mK,cS,AT];rfl
def aT.arB(T:aT):∃ K,T.hs=K++[(T.bw:Int)]:=by
 cases T with
 |mk k ks=>exact⟨_,aT.JL k ks⟩
structure JM(ns:List al)(A rb:List Int)(ou:List aT)(aI:List al×List Int):Prop where
 len:aI.1.length=(ou.flatMap aT.hs).length
 nodes:aI.1.map (jJ (A.length:Int))=(ou.flatMap aT.hs).map (nR ns rb)
 roots:aI.2.map (·+(A.length:Int))=ou.map λc=>k2 rb (c.bw:Int)
def arC(n:Nat)(a:Int)(x:al):jJ a (x.ep (x.aq.map λk=>(n:Int)+k))=jJ (a+(n:Int)) x:=by unfold jJ;show x.ep ((x.aq.map λk=>(n:Int)+k).map (·+a))=_;rw[gh];congr 1;refine fT λk ae=>?_;show(n:Int)+k+a=k+(a+n);omega
def JM.step{ns:List al}{A B rb:List Int}{ou:List aT}{aI:List al×List Int}(h:JM ns A rb ou aI){c:aT}{l:List al}
  (ot:rb=(A++ou.flatMap aT.hs)++(c.hs++B)) (ah:hQ rb) (aA:c.hs.map (nR ns rb)=l.map (jJ ((A++ou.flatMap aT.hs).length:Int))):JM ns A rb (ou++[c]) (jl aI l):=by
 have nz:c.hs.length=l.length:=by simpa using congrArg List.length aA
 obtain⟨aa,ab,ai⟩:=h;have aK:(ou++[c]).flatMap aT.hs=ou.flatMap aT.hs++c.hs:=by rw[fX,o0]
 refine⟨?_,?_,?_⟩
 ·rw[aK];show(aI.1++l.map _).length=_;rw[cm,bE,cm,aa,nz]
 ·rw[aK,cS,aA,<-ab];show(aI.1++l.map λx=>x.ep (x.aq.map λk=>(aI.1.length:Int)+k)).map _=_;rw[cS,gh];congr 1;refine fT λx ad=>?_;show jJ _ (x.ep _)=_;rw[arC,aa,cm];congr 1
 ·rw[cS,<-ai];show(aI.2++[((aI.1.length+l.length:Nat):Int)-1]).map _=_;rw[cS];congr 1;obtain⟨K,eG⟩:=c.arB;have hm:(c.bw:Int)∈c.hs:=by rw[eG];simp
  have FW:hQ c.hs:=by rw[ot]at ah;exact(rV.1 (rV.1 ah).2.1).1
  have aH:k2 rb (c.bw:Int)=k2 c.hs (c.bw:Int)+((A++ou.flatMap aT.hs).length:Int):=by rw[ot]at ah |-;exact TM ah hm
  have f':k2 c.hs (c.bw:Int)=(c.hs.length:Int)-1:=by rw[eG]at FW |-;rw[adE FW,cm];simp
  rw[s',s',aH,f',cm,<-aa,<-nz];congr 1;omega
def arD{ns:List al}:∀ {S:aT},cF ns S->∀ (A B rb:List Int),rb=A++(S.hs++B)->hQ rb->S.hs.map (nR ns rb)=(S.bare ns).post.map (jJ (A.length:Int)):=by
 intro S
 induction S using aT.ind with
 |h k ks aN=>
  intro cv A B rb ot ah;obtain⟨aa,ab,ai⟩:=cv.inv;have key:∀ (wZ ou:List aT) (aI:List al×List Int),ou++wZ=ks->JM ns A rb ou aI->JM ns A rb ks ((wZ.map λc=>(c.bare ns).post).foldl jl aI):=by
   intro wZ
   induction wZ with
   |nil=>intro ou aI e h;rw[dD]at e;rw[<-e];exact h
   |cons c wZ S7=>
    intro ou aI e h;have ao:c∈ks:=by rw[<-e];simp
    have aej:rb=(A++ou.flatMap aT.hs)++(c.hs++(wZ.flatMap aT.hs++([(k:Int)]++B))):=by rw[ot,aT.JL,<-e];simp
    rw[ca,kl];exact S7 (ou++[c]) _ (by rw[<-e];simp) (h.step aej ah (aN c ao (ai c ao) _ _ _ aej ah))
  have h:=key ks [] ([],[]) rfl ⟨rfl,rfl,rfl⟩;obtain⟨a',bg,b5⟩:=h;rw[aT.JL,aT.nq,aS.k1,gh];show _=(sX (nodeAt ns k).bare (ks.map λc=>(c.bare ns).post)).map _;unfold sX;generalize(ks.map λc=>(c.bare ns).post).foldl jl ([],[])=aI at a' bg b5;rw[cS,cS,bg];congr 1;rw[s',s'];congr 1;show(nodeAt ns (k:Int).toNat).ep _=(nodeAt ns k).ep (aI.2.map (·+(A.length:Int)));rw[b5,gN,ab,gh];rfl
def aek:∀ (fY:List (List al)) (aI:List al×List Int),(∀ x∈aI.1,x.a1=x)->∀ x∈(fY.foldl jl aI).1,x.a1=x
 |[],_,h=>h
 |l::fY,aI,h=>aek fY (jl aI l) λx ad=>by
  rcases cC.1 (show x∈aI.1++l.map (λx=>x.ep (x.aq.map λk=>(aI.1.length:Int)+k))from ad)with ad | ad;·exact h x ad
  ·obtain⟨y,aE,rfl⟩:=c0.1 ad;rfl
def ael(T:aS):∀ x∈T.post,x.a1=x:=by
 cases T with
 |mk d ks=>
 intro x ad;rw[aS.k1]at ad;rcases cC.1 ad with ad | ad
 ·exact aek _ _ (λx ad=>by cases ad) x ad
 ·rw[eC.1 ad];rfl
def aem{ns:List al}(h:cF ns S)(aD:S.cZ.Nodup):S.hs.map (nR ns S.hs)=(S.bare ns).post:=by
 have ah:hQ S.hs:=Cj.2 (List.Pairwise.imp (fun {a b} bD e=>bD (by omega)) aD);have:=arD h [] [] S.hs (by simp) ah;rw[this];refine(fT λx ad=>?_).trans (Nw _);have e:=ael _ x ad;have a7:jJ (([]:List Int).length:Int) x=x.a1:=by show x.ep (x.aq.map (·+(0:Int)))=x.ep x.aq;congr 1;refine(fT λk ae=>?_).trans (Nw _);show k+0=k;omega
 rw[a7,e];rfl
def fr(ns:List al)(k:Int):aS:=mv (aS.mk mM []) (λd g=>(λ(d:al) (xs:List aS)=>aS.mk d.bare xs) d (d.aq.map g)) ns k
def bU(t:bn):aS:=fr t.ns t.br
def arE(ns:List al):∀ S:aT,(S.bare ns).fold (λ(d:al) (xs:List aS)=>aS.mk d.bare xs)=S.bare ns:=by
 intro S
 induction S using aT.ind with
 |h k ks aN=>rw[aT.nq,aS.fold_eq,gh];congr 1;exact fT λc ao=>aN c ao
def ND{ns:List al}(ae:sg ns)(h:cF ns T):fr ns T.bw=T.bare ns:=by unfold fr;rw[aeb (λd l=>rfl) ae h,arE]
def hf.xz(h:hf t):sg t.ns:=h.aq
def hf.lt(h:hf t){j:Nat}(ak:j<t.ns.length):∃ T:aT,T.bw=j/\cF t.ns T/\fr t.ns j=T.bare t.ns/\T.cZ.Nodup:=by obtain⟨T,bl,dI⟩:=cF.ex h.xz j ak;refine⟨T,bl,dI,?_,dI.nodup h.xz h.diff⟩;rw[<-bl];exact ND h.xz dI
def NE{ns:List al}(aB:∀ d∈ns,fits d d.aq.length=true):∀ {T:aT},cF ns T->eY (T.bare ns):=by
 intro T
 induction T using aT.ind with
 |h k ks aN=>
  intro h;obtain⟨aa,ab,ai⟩:=h.inv;rw[aT.nq];refine .mk ?_ λc ao=>?_;·have:=aB _ (bJ aa);rw[<-gy aa]at this;show fits ((nodeAt ns k).ep []) _=true;rw[TT,bE];rw[ab,bE]at this;exact this
  ·obtain⟨c',zF,rfl⟩:=c0.1 ao;exact aN c' zF (ai c' zF)
def hf.fit(h:hf t):∀ d∈t.ns,Go.V.fits d d.aq.length=true:=λd ah=>by obtain⟨j,ak,rfl⟩:=hM ah;exact h.fits j ak
def aen(h:hf t){j:Nat}(ak:j<t.ns.length):eY (fr t.ns j):=by obtain⟨T,bl,dI,he,-⟩:=h.lt ak;rw[he];exact NE h.fit dI
def arF{z:α}{F:al->List α->α}(bs:∀ d l,F (d.ep l)=F d)(h:hf t){j:Nat}(ak:j<t.ns.length):mv z (λd g=>F d (d.aq.map g)) t.ns j=(fr t.ns j).fold F:=by obtain⟨T,bl,dI,he,-⟩:=h.lt ak;rw[he,<-bl];exact aeb bs h.xz dI
def arG(h:hf t):∀ {T:aT},cF t.ns T->er t.ns (T.bw:Int)=T.hs:=by
 intro T
 induction T using aT.ind with
 |h k ks aN=>intro bl;obtain⟨aa,ab,ai⟩:=bl.inv;show er t.ns (k:Int)=_;rw[Go.V.k1 h aa,ab,aT.JL,yt];congr 1;exact r0 λc ao=>aN c ao (ai c ao)
def aeo(h:hf t){j:Nat}(ak:j<t.ns.length):wU t.ns j=(fr t.ns j).post:=by obtain⟨T,bl,dI,he,aD⟩:=h.lt ak;rw[EH h ak,he,<-aem dI aD,<-bl,arG h dI]
structure k7(t:bn)(T:aS):Prop where
 a1:t.ns.map al.a1=T.post
 br:t.br=(t.ns.length:Int)-1
def aep(h:hf t){j:Nat}(ak:j<t.ns.length){bf:bn}(av:p2 t j bf):k7 bf (fr t.ns j):=⟨by rw[av.a1,aeo h ak],av.br⟩
def aeq(ns:List al)(k:Int):fr (ns.map al.a1) k=fr ns k:=by unfold fr mv;rw[H9 (f:=λd g=>(λ(d:al) (xs:List aS)=>aS.mk d.bare xs) d (d.aq.map g)) (g:=λd g=>(λ(d:al) (xs:List aS)=>aS.mk d.bare xs) d (d.aq.map g)) (λd q=>rfl)]
inductive jr:aS->Prop
 |mk{d:al}{ks:List aS}:d.bare=d->(∀ c∈ks,jr c)->jr (.mk d ks)
def jr.inv{d:al}{ks:List aS}(h:jr (.mk d ks)):d.bare=d/\∀ c∈ks,jr c:=by
 cases h with
 |mk aa ab=>exact⟨aa,ab⟩
def jr.fold:∀ {T:aS},jr T->T.fold (λ(d:al) (xs:List aS)=>aS.mk d.bare xs)=T:=by
 intro T
 induction T using aS.ind with
 |h d ks aN=>intro h;rw[aS.fold_eq,h.inv.1];congr 1;exact(fT λc ao=>aN c ao (h.inv.2 c ao)).trans (Nw _)
def aer(ns:List al):∀ S:aT,jr (S.bare ns):=by
 intro S
 induction S using aT.ind with
 |h k ks aN=>rw[aT.nq];refine .mk rfl λc ao=>?_;obtain⟨c',zF,rfl⟩:=c0.1 ao;exact aN c' zF
def aes(h:hf t){j:Nat}(ak:j<t.ns.length):jr (fr t.ns j):=by obtain⟨T,bl,dI,he,-⟩:=h.lt ak;rw[he];exact aer _ _
def k7.right{T:aS}(h:k7 t T)(bl:eY T):right t=true:=by
 have aa:=aei bl;rw[<-h.a1]at aa;have ab:=aa.br;refine jm.2 ⟨?_,λj ak=>?_,λj ak k ae=>?_,?_,λj ak=>?_⟩
 ·rw[h.br];have:(0:Int)<=((t.ns.map al.a1).length:Int)-1/\((t.ns.map al.a1).length:Int)-1<((t.ns.map al.a1).length:Int):=ab;rw[bE]at this;exact this
 ·have:=aa.fits j (by show j<(t.ns.map al.a1).length;rw[bE];exact ak);simp only[jD,gg]at this;exact this
 ·refine aa.aq j (by show j<(t.ns.map al.a1).length;rw[bE];exact ak) k ?_;simp only[jD,gg];exact ae
 ·have:hQ (eM (t.ns.map al.a1)):=aa.diff;unfold eM at this;rw[yt]at this;exact this
 ·have:=aa.all j (by show j<(t.ns.map al.a1).length;rw[bE];exact ak);have e:eM (jD (t.ns.map al.a1)).ns=eM t.ns:=by show eM (t.ns.map al.a1)=_;unfold eM;rw[yt];rfl
  have a7:(jD (t.ns.map al.a1)).br=t.br:=by show(((t.ns.map al.a1).length:Nat):Int)-1=_;rw[bE,h.br]
  rw[e,a7]at this;exact this
def k7.bU{T:aS}(h:k7 t T)(bl:eY T)(ag:jr T):Go.V.bU t=T:=by unfold Go.V.bU;rw[h.br,<-aeq,h.a1];have:=arA (z:=aS.mk mM []) (F:=λ(d:al) (xs:List aS)=>aS.mk d.bare xs) (λd l=>rfl) bl;rw[ag.fold]at this;unfold A3 at this;rw[<-h.a1]at this |-;rw[bE]at this;exact this
def T3(A:ct)(d z:al)(l:List Nat)(I:aJ)(v:Value)(I':aJ)(M':List aF):Prop:=(∀ b o,I b=some o->I' b=some o)/\∃ bu ds' r,M'=ct.ar ⟨A.b,bu,ds'⟩/\ct.ok I' ⟨A.b,bu,ds'⟩/\v=.int .i64 r /\ ((iy d A.ds l=[]/\r=(A.ds.length:Int)/\ds'=A.ds++[z])\/(iy d A.ds l=[r]/\ds'=A.ds)\/(2<=(iy d A.ds l).length/\r=(A.ds.length:Int)/\∃ bN gA c',ds'=A.ds++[d.row bN gA c' (iy d A.ds l)]))
def nothing(k:Int):al:=⟨k,0,0,0,0,⟨#[]⟩,0,0,none,0,0,[]⟩
def NF(I:aJ){k:Int}(ae:0<=k/\k<256):(nothing k).ok I:=⟨ae,by unfold nothing fl;simp,by unfold nothing fl;simp,by unfold nothing fl;simp,by unfold nothing fl;simp,by show 0<=_;decide,by unfold nothing ha;simp,by unfold nothing ha;simp,⟨rfl,⟨b2 _,by simp[nothing]⟩,.inl rfl⟩,λx ad=>by cases ad⟩
def arH{A:ct}(dI:A.ok I)(aD:A.ds.length<=1099511627776){d:al}(ah:d.ok I)(aA:∀ k∈l,k<A.ds.length)(s0:l.length<=1099511627776)(af:cD I a n c 1 8 ((l.map Int.ofNat).map (.int .i64 ·))) :
  Spec Tryz.prog 223 [ptr A.b,d.val,.slice a n c] I A.ar (T3 A d (nothing 0) l I):=by
 refine b0 [] a3 Tryz.func223 rfl rfl rfl ?_;intro B aw;have de:=aeg (z:=nothing 0) dI aD ah (NF I (by decide)) aA s0 af;obtain⟨dN,cz,s1,s2,cV,s,lo,hi,cf,az,cx,aq⟩:=d;refine bc.mk A.ar [] _ (by rw[dD]) de ?_;rintro v I' M'-h;obtain⟨kV,bu,ds',r,rfl,bi,rfl,h⟩:=h;exact⟨_,_,.sub (by simp) .refl,kV,bu,ds',r,rfl,bi,rfl,h⟩
def arI{A:ct}(dI:A.ok I)(aD:A.ds.length<=1099511627776){d:al}(ah:d.ok I)(aA:∀ k∈l,k<A.ds.length)(s0:l.length<=1099511627776)(af:cD I a n c 1 8 ((l.map Int.ofNat).map (.int .i64 ·))) :
  Spec Tryz.prog 224 [ptr A.b,d.val,.slice a n c] I A.ar (T3 A d (nothing 1) l I):=by
 refine b0 [] a3 Tryz.func224 rfl rfl rfl ?_;intro B aw;have de:=aeg (z:=nothing 1) dI aD ah (NF I (by decide)) aA s0 af;obtain⟨dN,cz,s1,s2,cV,s,lo,hi,cf,az,cx,aq⟩:=d;refine bc.mk A.ar [] _ (by rw[dD]) de ?_;rintro v I' M'-h;obtain⟨kV,bu,ds',r,rfl,bi,rfl,h⟩:=h;exact⟨_,_,.sub (by simp) .refl,kV,bu,ds',r,rfl,bi,rfl,h⟩
def q9(l:List Int)(m:Nat):List (List Value):=(List.range m).reverse.map λi:Nat=>[.int .i64 (i:Int),.int .i64 (l.getD i 0)]
def arJ(l:List Int)(m:Nat):q9 l (m+1)=[.int .i64 m,.int .i64 (l.getD m 0)]::q9 l m:=by unfold q9;rw[EN,yq,zP,qO,ca]
def arK(a:Option Addr)(n c:Nat):Spec Tryz.prog 276 [.slice a n c] I [] λr I' M'=>∃ b,r=.func (.func 298) #[] #[ptr b]/\I' b=some (.cells #[.slice a n c] 38 (0,0))/\(∀ b o,I b=some o->I' b=some o)/\M'=[]:=by refine b0 [1] a3 Tryz.func276 rfl rfl rfl ?_;intro B aw;refine bZ.mk λg ax Ec=>?_;exact⟨_,_,.n1 rfl (by simp) .refl,g,rfl,pS ..,mz ax,rfl⟩
def arL{l:List Int}(af:cD I a n c 1 8 (l.map (.int .i64 ·))){b:Nat}(ag:I b=some (.cells #[.slice a n c] 38 (0,0))) :
  Iter Tryz.prog 298 [ptr b] I (q9 l n):=by
 intro y R lr rO dS M0 oV iM;refine BF [] a3 Tryz.func298 rfl rfl rfl ?_;intro B aw;have hy:=af.cap;have s0:l.length=n:=by have aa:=af.len;simpa using aa
 have fA:cD I a n c 1 8 (l.flatMap iH):=by rw[oo];exact af
 have bt:∀ (I1:aJ) (M:List aF),(∀ b o,I b=some o->I1 b=some o)->cY I1 M ((⟨b,0,none⟩:Addr).add 0) 1 [.slice a n c]:=λI1 M db=>⟨rfl,_,_,_,.inl (db _ _ ag),rfl,rfl⟩;refine aV.mk _ (bt _ _ oV) ?_;refine be.mk ((n:Int)-1) (by rw[wrap_i64 (by unfold ha;omega)]) ?_;refine dx.inv (ι:=Nat×Nat×aJ×List aF) (λx=>{ bp:=[(0,.val (.func (.yield y) #[] #[])),(1,.val (ptr b)),(3,.val (.int .i64 ((x.1:Int)-1)))],cP:=x.2.2.1,da:=x.2.2.2 }) (λx=>x.1<=n/\(∀ b o,I b=some o->x.2.2.1 b=some o)/\R x.2.1 x.2.2.1 x.2.2.2/\x.2.1<=(q9 l n).length/\(q9 l n).drop x.2.1=q9 l x.1) (λx=>x.1) ?_ ?_
 ·exact⟨(n,0,dS,M0),⟨by simp,oV,iM,by simp,rfl⟩,.refl,fw,.nil⟩
 ·rintro⟨m,k,I1,M1⟩⟨hm,db,h',cW,iR⟩;simp only at hm db h' cW iR;refine a5.mk (λh=>?_) (λh=>?_)
  ·have a4:(0:Int)<=(m:Int)-1:=c5 h;obtain⟨m,rfl⟩:∃ q,m=q+1:=⟨m-1,by omega⟩;have aK:((m+1:Nat):Int)-1=(m:Int):=by omega
   obtain⟨aP,bI,P8⟩:=(fA.mono db).row (f:=iH) (λ_=>rfl) (j:=m) (by omega) (by omega);rw[arJ]at iR;obtain⟨ae,aj,sT⟩:=drop_cons iR;refine aV.mk _ (bt _ _ db) ?_;refine bA.mk aP m bI aK (by omega) ?_;refine aV.mk _ (P8 _) ?_;refine bF.yield rfl (by simp) rfl rfl ?_;have aE:=rO k ae I1 M1 db h';rw[aj]at aE;have a7:l.getD m 0=l[m]:=by simp[bM,show m<l.length by omega]
   rw[a7,<-aK]at aE;refine BQ.mk M1 [] _ (by simp) aE ?_;rintro v eE dy gx (⟨rfl,m3⟩ | ⟨rfl,ad⟩);·refine a5.mk (λh=>by simp at h) (λ_=>?_);refine be.mk ((m:Int)-1) (by rw[wrap_i64 (by unfold ha;omega)];omega) ?_;exact⟨(m,k+1,eE,dy),⟨⟨by simp only;omega,λb o h=>gx b o (db b o h),m3,ae,sT⟩,by simp only;omega⟩,.perm (by simp) .refl,fw,.nil⟩
   ·refine a5.mk (λ_=>?_) (λh=>by simp at h);exact⟨_,_,.perm (by simp) .refl,.inr ad⟩
  ·have c8:¬ (0:Int)<=(m:Int)-1:=dP h;obtain rfl:m=0:=by omega
   refine⟨_,_,.refl,.inl ?_⟩;have va:k=(q9 l n).length:=by have:(q9 l n).drop k=[]:=iR.trans (by simp[q9]);have:=Hg.1 this;omega
   rw[<-va];exact h'
def Spec.NG{P:Program}{f:Nat}{args:List Value}{p q:Value->aJ->List aF->Prop}(h:Spec P f args I M p)(mX:∀ v I' M',p v I' M'->q v I' M'):Spec P f args I M q:=by
 rcases h with⟨aa,ab⟩ | ab
 ·refine .inl ⟨aa,λw hw=>(ab w hw).mono ?_⟩;rintro e w'⟨v,I',M',ai,aL,bq⟩;exact⟨v,I',M',ai,mX _ _ _ aL,bq⟩
 ·refine .inr λw hw=>?_;obtain⟨v,w',I',M',ai,aL,bq⟩:=ab w hw;exact⟨v,w',I',M',ai,mX _ _ _ aL,bq⟩
def zb:Nat:=222
def aet:List Nat:=[zb,zb,zb,zb,223,224,zb,zb,zb,zb]
def T4:List Value:=aet.map λf=>.func (.func f) #[] #[]
def arM:Spec Tryz.prog 173 [] I [] λv I' M'=>v=.agg T4.toArray/\I'=I/\M'=[]:=by refine b0 [] a3 Tryz.func173 rfl rfl rfl ?_;intro B aw;exact⟨_,_,.refl,rfl,rfl,rfl⟩
def qd(d:al)(l:List Nat)(ds ds':List al)(r:Int):Prop:=
 if d.k=4\/d.k=5 then
  (iy d ds l=[]/\r=(ds.length:Int)/\ds'=ds++[nothing (d.k-4)])\/(iy d ds l=[r]/\ds'=ds)\/(2<=(iy d ds l).length/\r=(ds.length:Int)/\∃ bN gA c',ds'=ds++[d.row bN gA c' (iy d ds l)])
 else r=(ds.length:Int)/\∃ bN gA c',ds'=ds++[d.row bN gA c' (l.map Int.ofNat)]
def T5(A:ct)(d:al)(l:List Nat)(I:aJ)(v:Value)(I':aJ)(M':List aF):Prop:=(∀ b o,I b=some o->I' b=some o)/\∃ bu ds' r,M'=ct.ar ⟨A.b,bu,ds'⟩/\ct.ok I' ⟨A.b,bu,ds'⟩/\v=.int .i64 r/\qd d l A.ds ds' r
def arN{A:ct}(dI:A.ok I)(aD:A.ds.length<=1099511627776){d:al}(ah:d.ok I)(aA:∀ k∈l,k<A.ds.length)(s0:l.length<=1099511627776)(af:cD I a n c 1 8 ((l.map Int.ofNat).map (.int .i64 ·)))(j:Nat)(ak:j<10)(ae:d.k=j) :
  Spec Tryz.prog (aet.getD j 0) [ptr A.b,d.val,.slice a n c] I A.ar (T5 A d l I):=by
 have arO:∀ x∈l.map Int.ofNat,ha x:=λx ad=>by obtain⟨k,ae,rfl⟩:=c0.1 ad;have:=aA k ae;unfold ha;simp only[BZ];omega
 have nC:¬ (d.k=4\/d.k=5)->Spec Tryz.prog zb [ptr A.b,d.val,.slice a n c] I A.ar (T5 A d l I):=λbD=>by refine Spec.NG (aef dI aD ah af arO) ?_;rintro v I' M'⟨rfl,rfl,os,rfl,bi⟩;refine⟨λ_ _ h=>h,os,_,_,rfl,bi,rfl,?_⟩;unfold qd;rw[bP bD];exact⟨rfl,_,_,_,rfl⟩
 have aeu:∀ {k:Int},d.k=k+4->(k=0\/k=1)->∀ {f:Nat},Spec Tryz.prog f [ptr A.b,d.val,.slice a n c] I A.ar (T3 A d (nothing k) l I)->Spec Tryz.prog f [ptr A.b,d.val,.slice a n c] I A.ar (T5 A d l I):=fun {k} ae hR {f} h=>by refine Spec.NG h ?_;rintro v I' M'⟨kV,os,ds',r,rfl,bi,rfl,h⟩;refine⟨kV,os,ds',r,rfl,bi,rfl,?_⟩;unfold qd;rw[bT (by omega),show d.k-4=k by omega];exact h
 match j,ak with
 |0,_=>exact nC (by omega)| 1,_=>exact nC (by omega)| 2,_=>exact nC (by omega)| 3,_=>exact nC (by omega)| 4,_=>exact aeu (by omega) (.inl rfl) (arH dI aD ah aA s0 af)| 5,_=>exact aeu (by omega) (.inr rfl) (arI dI aD ah aA s0 af)| 6,_=>exact nC (by omega)| 7,_=>exact nC (by omega)| 8,_=>exact nC (by omega)| 9,_=>exact nC (by omega)
def e3(l:List aT):List Int:=l.map λS=>(S.bw:Int)
def FX(a b:List aT):e3 (a++b)=e3 a++e3 b:=cS
def arP{ns:List al}(h:iI (nodeAt ns T.bw)=none):T.parts ns=T.sub:=by
 unfold aT.parts;rw[h];have:∀ c:aT,aT.pt ns none c=[c]:=λc=>by
  cases c with
  |mk k ks=>rw[aT.y9,bP (by simp)]
 refine(r0 λc _=>this c).trans ?_;simp
def cF.w1{ns:List al}:∀ {T:aT},cF ns T->(nodeAt ns T.bw).aq=e3 T.sub
 | .mk k ks,h=>h.inv.2.1
def cF.A6{ns:List al}:∀ {T:aT},cF ns T->∀ c∈T.sub,cF ns c
 | .mk k ks,h=>h.inv.2.2
def hD(l:List aT):Nat:=(l.map λS=>S.cZ.length).sum
def A7(a b:List aT):hD (a++b)=hD a+hD b:=by unfold hD;rw[cS,pO]
def FY:∀ T:aT,T.cZ.length=hD T.sub+1
 | .mk k ks=>by rw[aT.mK,cm,yp];rfl
def aev(a:List aT):hD a.reverse=hD a:=by unfold hD;rw[T1,List.sum_reverse]
def A8:∀ l:List aT,l.length<=hD l
 |[]=>dj _| c::l=>by have:=A8 l;have ab:=FY c;show l.length+1<=c.cZ.length+hD l;omega
structure arQ(I:aJ)(A:ct)(cj:Option Int)(arR:List aT)(sz:Nat)(lo dg:aQ)(hl aI:List aT)(J:aJ):Prop where
 a8:∀ b o,I b=some o->J b=some o
 lo:lo.ok 1 ((e3 hl).map (.int .i64 ·))
 dg:dg.ok 1 ((e3 aI).map (.int .i64 ·))
 aY:∀ S∈aI,cF A.ds S
 same:hl++aI.reverse.flatMap (aT.pt A.ds cj)=arR
 sz:hl.length+hD aI<=sz
def JN(l:List Int)(n:Nat):(q9 l n).length=n:=by simp[q9]
def arS(l:List Int)(h:k<(q9 l n).length)(ae:n-1-k<l.length):(q9 l n)[k]=[.int .i64 ((n-1-k:Nat):Int),.int .i64 l[n-1-k]]:=by simp only[q9,gg,List.getElem_reverse,wO,w2];rw[bM,dt ae];rfl
def arT{A:ct}(dI:A.ok I)(aD:A.ds.length<=1099511627776)(bl:cF A.ds T)(dk:T.cZ.length<=1099511627776) :
  Spec Tryz.prog 225 [ptr A.b,.int .i64 T.bw] I A.ar λv I' M'=>(∀ b o,I b=some o->I' b=some o)/\M'=A.ar/\∃ a n c,v=.slice a n c/\cD I' a n c 1 8 ((e3 (T.parts A.ds)).map (.int .i64 ·)):=by
 refine x2 [7] a3 Tryz.func225 rfl rfl rfl ?_;intro B aw;have cW:=bl.np;have aew:=dI.n;obtain⟨aP,bI,bt⟩:=aQ.ok.row (I:=I) (M:=A.ar) al.cH (by decide) dI.os (e:=82) (λx ad=>by simp[ct.ar,ad]) (j:=T.bw) cW;have h5:=dI.ds _ (bJ cW);have mI:=gy cW;have rM:=bl.w1;generalize fk:A.ds[T.bw]=d at bt h5 mI;rw[mI]at rM;obtain⟨dN,cz,s1,s2,cV,s,lo,hi,cf,az,cx,aq⟩:=d;refine aV.mk [A.os.val] (dq (cs:=[A.os.val]) (k:=0) (n:=1) (T:=216) (by simp[ct.ar,ct.ah]) (by simp)) ?_;refine bA.mk aP T.bw bI rfl (by omega) ?_;refine aV.mk _ bt ?_;refine cT.mk (λaL=>?_) (λaL=>?_)
 case' refine_1=>
  have arU:dN≠4:=by simpa using aL
  refine a5.mk (λbq=>?_) (λbq=>?_)
  case' refine_1=>
   have arV:dN≠5:=by simpa using bq
   intro _;refine⟨_,_,.refl,λ_ _ h=>h,rfl,cf,az,cx,rfl,?_⟩;rw[arP (by rw[mI];unfold iI;rw[bP];simp[arU,arV]),<-rM];exact h5.ba
  have gi:dN=4\/dN=5:=.inr (by simpa using bq)
 case' refine_2=>have gi:dN=4\/dN=5:=.inl (by simpa using aL)
 all_goals
  have vU:iI (nodeAt A.ds T.bw)=some dN:=by rw[mI];unfold iI;rw[bT gi]
  have xv:T.parts A.ds=T.sub.flatMap (aT.pt A.ds (some dN)):=by unfold aT.parts;rw[vU]
  refine bZ.mk λb1 iN T6=>?_;refine bZ.mk λb7 H8 ayk=>?_;refine cd.mk [] (⟨b1,_⟩::A.ar) _ _ rfl rfl (bK rfl) rfl ?_;clear bI bt;refine dx.uR (ι:=aQ×aQ×List aT×List aT×aJ) (λx=>{ bp:=[(0,.val (ptr A.b)),(5,.ref 5 0),(6,.val x.1.val),(7,.val (ptr b7))],cl:=[(5,al.cells ⟨dN,cz,s1,s2,cV,s,lo,hi,cf,az,cx,aq⟩)],cP:=x.2.2.2.2,da:=⟨b7,.cells #[x.2.1.val] 38 (0,0)⟩::(x.2.1.ar 3++(x.1.ar 3++A.ar)) }) (λx=>arQ I A (some dN) (T.parts A.ds) T.cZ.length x.1 x.2.1 x.2.2.1 x.2.2.2.1 x.2.2.2.2) (λx=>hD x.2.2.2.1) ?_ ?_
  ·intro _;refine⟨(⟨none,0,0,[]⟩,⟨some b1,1,1,[.int .i64 T.bw]⟩,[],[T],I),⟨λ_ _ h=>h,⟨rfl,(λ_=>⟨rfl,rfl⟩),λg h=>by cases h⟩,⟨rfl,(λh=>by cases h),λeu jO=>⟨rfl,b2 _,by simp[maxLen],rfl⟩⟩,λS cv=>?_,?_,?_⟩,.refl,dY,.cons rfl (.nil)⟩
   ·rw[eC.1 cv];exact bl
   ·rw[hX,zP,o0,xv];cases T with
    |mk k ks=>
    rw[aT.y9,bT (by rw[show nodeAt A.ds k=_ from mI])];rfl
   ·simp[hD]
  rintro⟨lo,dg,hl,aI,J⟩⟨a8,eZ,nh,eU,tc,aex⟩;simp only at a8 eZ nh eU tc aex;have nz:=eZ.pY;have vQ:=nh.pY;have g6:=A8 aI;simp only[e3,bE]at nz vQ;refine aV.mk [dg.val] (dq (cs:=[dg.val]) (k:=0) (n:=1) (T:=38) (.head _) (by simp)) ?_;refine a5.mk (λh=>?_) (λh=>?_)
  ·have adi:0<dg.n:=by have:(0:Int)<(dg.n:Int):=c5 h;omega
   obtain⟨gb,S,rfl⟩:∃ r p,aI=r++[p]:=by
    rcases zR aI with aa | ⟨r,p,aa⟩;·subst aa;simp at vQ;omega
    ·exact⟨r,p,by simpa using aa⟩
   have cv:=eU S (by simp);have qe:=cv.np;have T7:=FY S;have vk:hD [S]=S.cZ.length:=by simp[hD]
   have arW:=A8 S.sub;rw[A7,vk,T7]at aex g6;have ic:dg.n=gb.length+1:=by have dT:=vQ;simp only[cm,o5]at dT;omega
   rw[yq,zP,qO,jf]at tc;obtain⟨aP,bI,bt⟩:=aQ.Cr (I:=J) (e:=3) (M:=⟨b7,.cells #[dg.val] 38 (0,0)⟩::(dg.ar 3++(lo.ar 3++A.ar))) nh (λx ad=>by simp[ad]) (j:=gb.length) (by simp[e3]);have zc:(e3 (gb++[S]))[gb.length]'(by simp[e3])=(S.bw:Int):=by simp[e3]
   rw[zc]at bt;have oq:=nh;rw[FX,cS]at oq;have oq:aQ.ok ⟨dg.a,dg.n-1,dg.c,dg.aU⟩ 1 ((e3 gb).map (.int .i64 ·)):=aQ.pop oq;have he:dg.n-1=gb.length:=by omega
   rw[he]at oq;have Jp:gb.length<=dg.c:=by
    cases AY:dg.a with
    |none=>have:=(nh.nil AY).1;omega| some Jq=>have:=(nh.cap Jq AY).2.1;omega
   refine aV.mk [dg.val] (dq (cs:=[dg.val]) (k:=0) (n:=1) (T:=38) (.head _) (by simp)) ?_;refine aV.mk [dg.val] (dq (cs:=[dg.val]) (k:=0) (n:=1) (T:=38) (.head _) (by simp)) ?_;refine be.mk ((gb.length:Nat):Int) (by show IntKind.i64.wrap ((dg.n:Int)-1)=_;rw[wrap_i64 ⟨by omega,by omega⟩];omega) ?_;refine bA.mk aP gb.length bI rfl (show gb.length<dg.n by omega) ?_;refine aV.mk _ bt ?_;refine aV.mk [dg.val] (dq (cs:=[dg.val]) (k:=0) (n:=1) (T:=38) (.head _) (by simp)) ?_;refine aV.mk [dg.val] (dq (cs:=[dg.val]) (k:=0) (n:=1) (T:=38) (.head _) (by simp)) ?_;refine be.mk ((gb.length:Nat):Int) (by show IntKind.i64.wrap ((dg.n:Int)-1)=_;rw[wrap_i64 ⟨by omega,by omega⟩];omega) ?_;refine lf.mk 0 gb.length rfl rfl (dj _) Jp ?_;refine cd.mk [] (dg.ar 3++(lo.ar 3++A.ar)) #[dg.val] 38 rfl rfl (bK rfl) rfl ?_;have aey:=dI.mono a8;obtain⟨FZ,Dd,zd⟩:=aQ.ok.row (I:=J) (M:=⟨b7,.cells #[(⟨dg.a,gb.length,dg.c,dg.aU⟩:aQ).val] 38 (0,0)⟩::(dg.ar 3++(lo.ar 3++A.ar))) al.cH (by decide) aey.os (e:=82) (λx ad=>by simp[ct.ar,ad]) (j:=S.bw) qe;have NH:=gy qe;have NI:=aey.ds _ (bJ qe);have NJ:=cv.w1;rw[NH]at NJ;generalize aez:A.ds[S.bw]=si at zd NH NI NJ;refine c2.draw a3 rfl rfl rfl ?_;refine aV.mk [A.os.val] (dq (cs:=[A.os.val]) (k:=0) (n:=1) (T:=216) (by simp[ct.ar,ct.ah]) (by simp)) ?_;refine bA.mk FZ S.bw Dd rfl (by omega) ?_;refine aV.mk _ (cY.part (k:=0) (m:=1) zd (by decide)) ?_;refine a5.mk (λb'=>?_) (λb'=>?_)
   ·have bD:si.k≠dN:=by simpa using b'
    have T8:aT.pt A.ds (some dN) S=[S]:=by
     cases S with
     |mk k ks=>
     rw[aT.y9,bP];intro e;rw[show nodeAt A.ds k=si from NH]at e;exact bD (e2 e)
    rw[T8,qO]at tc;refine bZ.mk λb9 m8 uv=>?_;refine bF.l7 a3 rfl (by simp) (e:=3) rfl rfl rfl lo eZ rfl (cs:=[.int .i64 S.bw]) rfl rfl rfl (⟨b7,.cells #[(⟨dg.a,gb.length,dg.c,dg.aU⟩:aQ).val] 38 (0,0)⟩::dg.ar 3) A.ar rfl (by omega) (by show(lo.n+1)*8<=_;omega) ?_;intro R' aa ab ai;intro _;refine⟨(R',⟨dg.a,gb.length,dg.c,dg.aU⟩,hl++[S],gb,J),⟨⟨a8,?_,oq,λx ad=>eU x (by simp[ad]),?_,?_⟩,?_⟩,.refl,dY,.cons rfl (.nil)⟩;·rw[FX,cS];exact ai
    ·rw[ec,qO];exact tc
    ·show(hl++[S]).length+hD gb<=T.cZ.length;rw[cm,o5];omega
    ·show hD gb<hD (gb++[S]);rw[A7,vk];omega
   ·have he:si.k=dN:=by simpa using b'
    have T8:aT.pt A.ds (some dN) S=S.sub.flatMap (aT.pt A.ds (some dN)):=by
     cases S with
     |mk k ks=>
     rw[aT.y9,bT];·rfl
     ·rw[show nodeAt A.ds k=si from NH,he]
    have fh:=NI.az;have p0:=NI.ba.cap;have NK:si.aq.length=S.sub.length:=by rw[NJ];simp[e3]
    refine aV.mk [A.os.val] (dq (cs:=[A.os.val]) (k:=0) (n:=1) (T:=216) (by simp[ct.ar,ct.ah]) (by simp)) ?_;refine bA.mk FZ S.bw Dd rfl (by omega) ?_;refine aV.mk _ (cY.part (k:=8) (m:=1) zd (by decide)) ?_;refine bc.mk [] _ _ (.refl _) (arK si.cf si.az si.cx) ?_;rintro v ix M1 -⟨c3,rfl,yu,hr,rfl⟩;have arX:∀ b o,I b=some o->ix b=some o:=λb o h=>hr _ _ (a8 _ _ h);refine c2.range a3 rfl rfl rfl .refl (arL (NI.ba.mono hr) yu) (λvs h=>?_) (λk I' M'=>∃ e4:aQ,(∀ b o,ix b=some o->I' b=some o)/\e4.ok 1 ((e3 (gb++S.sub.reverse.take k)).map (.int .i64 ·))/\M'=⟨b7,.cells #[e4.val] 38 (0,0)⟩::(e4.ar 3++(lo.ar 3++A.ar))) (λex I' M'=>False) ⟨⟨dg.a,gb.length,dg.c,dg.aU⟩,λ_ _ h=>h,by simpa using oq,rfl⟩ ?_ ?_ (λex I' M' _ h=>h.elim);·obtain⟨p,_,rfl⟩:=c0.1 h;rfl
    ·rintro k ae I' M' -⟨e4,kV,kF,rfl⟩l B aw hx;have e1:k<S.sub.length:=by rw[JN]at ae;omega
     have aj:=arS si.aq ae (by rw[JN]at ae;omega);have e0:si.aq[si.az-1-k]'(by rw[JN]at ae;omega)=((S.sub.reverse[k]'(by rw[C4];exact e1)).bw:Int):=by
      have aa:si.aq[si.az-1-k]?=(e3 S.sub)[si.az-1-k]?:=by rw[NJ]
      rw[dt (by rw[JN]at ae;omega)]at aa;unfold e3 at aa;rw[ju,dt (by omega)]at aa;rw[e2 aa,List.getElem_reverse];congr 3;omega
     rw[e0]at aj;rw[aj];have arY:=kF.pY;simp only[e3,bE,cm,fR,C4]at arY;refine aV.mk [e4.val] (dq (cs:=[e4.val]) (k:=0) (n:=1) (T:=38) (.head _) (by simp)) ?_;refine bZ.mk λb9 m8 uv=>?_;refine bF.l7 a3 rfl (by simp) (e:=3) rfl rfl rfl e4 kF rfl (cs:=[.int .i64 (S.sub.reverse[k]'(by rw[C4];exact e1)).bw]) rfl rfl rfl [_] (lo.ar 3++A.ar) rfl (by omega) (by show(e4.n+1)*8<=_;omega) ?_;intro fO aa ab ai;refine cd.mk [] (fO.ar 3++(lo.ar 3++A.ar)) #[e4.val] 38 rfl rfl (bK rfl) rfl ?_;refine⟨_,_,.refl,fO,kV,?_,rfl⟩;rw[gH (by rw[C4];exact e1),<-ec,FX,cS];exact ai
    ·rintro I' M' -⟨e4,kV,kF,rfl⟩;rw[JN,fS (by rw[C4];omega)]at kF;intro _;refine⟨(lo,e4,hl,gb++S.sub.reverse,I'),⟨⟨λb o h=>kV _ _ (arX _ _ h),eZ,kF,λx ad=>?_,?_,?_⟩,?_⟩,.refl,dY,.cons rfl (.nil)⟩
     ·rcases cC.1 ad with ad | ad
      ·exact eU x (by simp[ad])
      ·exact cv.A6 x (Td.1 ad)
     ·rw[yq,Sg,fX,<-T8];exact tc
     ·show hl.length+hD (gb++S.sub.reverse)<=T.cZ.length;rw[A7,aev];omega
     ·show hD (gb++S.sub.reverse)<hD (gb++[S]);rw[A7,A7,aev,vk];omega
  ·have aw:dg.n=0:=by have:¬ (0:Int)<(dg.n:Int):=dP h;omega
   obtain rfl:aI=[]:=iD (by omega);intro eS;have eS:mj J (⟨b7,.cells #[dg.val] 38 (0,0)⟩::(dg.ar 3++(lo.ar 3++A.ar))):=eS;have Fi:hl=T.parts A.ds:=by simpa using tc
   subst Fi;have mb:(⟨b7,.cells #[dg.val] 38 (0,0)⟩::(dg.ar 3++(lo.ar 3++A.ar)):List aF).Perm (lo.ar 3++(A.ar++([⟨b7,.cells #[dg.val] 38 (0,0)⟩]++dg.ar 3))):=by have:=eT (l₁:=([⟨b7,.cells #[dg.val] 38 (0,0)⟩]++dg.ar 3:List aF)) (l₂:=lo.ar 3++A.ar);simpa using this
   have ax:∀ g,lo.a=some g->J g=none/\g ∉ A.ar.map (·.num):=λg ax=>by
    have ag:lo.ar 3=[⟨g,.cells lo.aU.toArray 3 (0,0)⟩]:=by unfold aQ.ar;rw[ax]
    have bV:=(mb.map (·.num)).nodup_iff.1 eS.bX;rw[ag]at bV;refine⟨eS.d ⟨g,.cells lo.aU.toArray 3 (0,0)⟩ (by simp[ag]),λhm=>?_⟩;rw[cS]at bV;simp only[ca,hH,qO,mg,cS]at bV;exact bV.1 (im _ hm)
   obtain⟨eE,hw,gx,dr,-⟩:=aQ.Ae (b:=8) (e:=3) eZ (by omega) ax (A.ar++([⟨b7,.cells #[dg.val] 38 (0,0)⟩]++dg.ar 3));exact⟨eE,A.ar,.perm mb (hw _ _ (.sub (xq _ _) .refl)),λb o h=>gx _ _ (a8 _ _ h),rfl,_,_,_,rfl,dr⟩
def ze(l:List Nat):List Int:=l.map λx:Nat=>(x:Int)
structure NL(I:aJ)(A:ct)(T:aT)(lo dg:aQ)(hl:List Nat)(aI:List aT)(os:aQ)(ds:List al)(J:aJ):Prop where
 a8:∀ b o,I b=some o->J b=some o
 ok:ct.ok J ⟨A.b,os,ds⟩
 lo:lo.ok 1 ((ze hl).map (.int .i64 ·))
 dg:dg.ok 1 ((e3 aI).map (.int .i64 ·))
 aY:∀ S∈aI,cF A.ds S
 bX:(hl++aI.flatMap aT.cZ).Nodup
 len:ds.length=A.ds.length
 a:os.a=A.os.a
 same:∀ w,w ∉ hl->nodeAt ds w=nodeAt A.ds w
 done:∀ w∈hl,∃ S a n c,cF A.ds S/\S.bw=w/\nodeAt ds w=(nodeAt A.ds w).row a n c (e3 (S.parts A.ds))
 out:hl++aI.reverse.flatMap (λS=>(S.bx A.ds).cZ.reverse)=(T.bx A.ds).cZ.reverse
def NL.lt{A:ct}{lo dg:aQ}{hl:List Nat}{aI:List aT}{ds:List al}(h:NL I A T lo dg hl aI os ds J):hl.length+hD aI<=A.ds.length:=by
 have aa:=Nu (n:=A.ds.length) h.bX λx ad=>by
  rcases cC.1 ad with ad | ad;·obtain⟨S,-,-,-,cv,rfl,-⟩:=h.done x ad;exact cv.np
  ·obtain⟨S,cv,ad⟩:=hc.1 ad;exact(h.aY S cv).lt x ad
 rw[cm,yp]at aa;exact aa
def mj.F0{foot:List Nat}(eS:mj J M)(aH:M.Perm (os.ar e++Mr))(aB:∀ x∈foot,x∈Mr.map (·.num)):∀ g,os.a=some g->J g=none/\g ∉ foot:=λg ax=>by
 have ag:os.ar e=[⟨g,.cells os.aU.toArray e (0,0)⟩]:=by unfold aQ.ar;rw[ax]
 have bV:=(aH.map (·.num)).nodup_iff.1 eS.bX;refine⟨eS.d ⟨g,.cells os.aU.toArray e (0,0)⟩ (aH.mem_iff.2 (by rw[ag];exact .head _)),λhm=>?_⟩;rw[ag,cS]at bV;simp only[ca,hH,qO,mg]at bV;exact bV.1 (aB g hm)
def arZ{bu:aQ}(h:os.val=bu.val):os.a.map (λg=>(⟨g,0,none⟩:Addr))=bu.a.map (λg=>(⟨g,0,none⟩:Addr)):=by unfold aQ.val at h;injection h
structure aeA(d:al)(dU:List Int)(y:Nat×aQ×List Int):Prop where
 k:y.1<=d.az
 ok:y.2.1.ok 1 (y.2.2.map (.int .i64 ·))
 eq:y.2.2=(d.aq.take y.1).map (λk=>dU.getD k.toNat 0)
def ar0{ns:List al}(h:∀ w,(nodeAt ei w).k=(nodeAt ns w).k)(cj:Option Int):∀ S:aT,S.pt ei cj=S.pt ns cj:=by
 intro S
 induction S using aT.ind with
 |h k ks aN=>
  rw[aT.y9,aT.y9,h k];split;·exact r0 λc ao=>aN c ao
  ·rfl
def ar1{d e:al}(h:d.k=e.k):iI d=iI e:=by unfold iI;rw[h]
def ar2{ns:List al}(h:∀ w,(nodeAt ei w).k=(nodeAt ns w).k)(S:aT):S.parts ei=S.parts ns:=by unfold aT.parts;rw[ar1 (h S.bw)];exact r0 λc ao=>ar0 h _ c
def al.ar3(d:al)(a:Option Addr)(n c:Nat)(ks:List Int):cq d.cells 8 [.slice a n c]=(d.row a n c ks).cells:=rfl
def ar4{ns:List al}:∀ {T:aT},cF ns T->p1 ns T.hs:=by
 intro T
 induction T using aT.ind with
 |h k ks aN=>
  intro h;obtain⟨aa,ab,ai⟩:=h.inv;have aB:p1 ns (ks.flatMap aT.hs):=by
   have:∀ l:List aT,(∀ c∈l,p1 ns c.hs)->p1 ns (l.flatMap aT.hs):=λl=>by
    induction l with
    |nil=>intro _ i h;simp at h| cons c l T9=>intro aA;rw[jf];exact(aA c (.head _)).append (T9 λx ad=>aA x (.tail _ ad))
   exact this ks λc ao=>aN c ao (ai c ao)
  rw[aT.JL];intro i hi x ad;by_cases e:i<(ks.flatMap aT.hs).length;·rw[yo e]at ad;rw[BG (by omega)];exact aB i e x ad
  ·rw[cm,o5]at hi;have aG:i=(ks.flatMap aT.hs).length:=by omega
   subst aG;rw[Cg (b2 _)]at ad;simp only[mD,List.getElem_singleton,gN]at ad;rw[wv];rw[ab]at ad;obtain⟨c,ao,rfl⟩:=c0.1 ad;exact hc.2 ⟨c,ao,c0.2 ⟨c.bw,c.FT,rfl⟩⟩
def ar5{ns:List al}:∀ {T:aT},cF ns T->∀ x∈T.cZ,∀ q∈(nodeAt ns x).aq,0<=q/\q<ns.length:=by
 intro T
 induction T using aT.ind with
 |h k ks aN=>
  intro h x ad q aM;obtain⟨aa,ab,ai⟩:=h.inv;rw[aT.mK]at ad;rcases cC.1 ad with ad | ad;·obtain⟨c,ao,ad⟩:=hc.1 ad;exact aN c ao (ai c ao) x ad q aM
  ·rw[eC.1 ad,ab]at aM;obtain⟨c,ao,rfl⟩:=c0.1 aM;have:=(ai c ao).np;omega
def aT.ar6(ns:List al)(S:aT):((S.parts ns).flatMap aT.cZ).Sublist (S.sub.flatMap aT.cZ):=by unfold aT.parts;rw[Da];exact FV λc ao=>aT.ara ns _ c
def ar7{ds:List al}{j:Nat}(ak:j<ds.length)(x:al)(w:Nat):nodeAt (ds.set j x) w=if w=j then x else nodeAt ds w:=by
 unfold nodeAt;rw[bM,bM,iv];by_cases e:w=j
 ·subst e;rw[bT rfl,bT ak,bT rfl];rfl
 ·rw[bP (λh=>e h.symm),bP e]
def ar8(ns:List al)(S:aT):(S.bx ns).cZ.reverse=S.bw::(S.parts ns).reverse.flatMap λc=>(c.bx ns).cZ.reverse:=by
 have h:=aT.ad4 ns S;have aA:=aT.ad3 ns S;generalize S.bx ns=O at h aA;cases O with
 |mk k ks=>
 obtain rfl:k=S.bw:=aA;rw[aT.mK,show ks=_ from h,yq,zP,qO,List.reverse_flatMap,<-T1,yt];rfl
def ar9{A:ct}(dI:A.ok I)(aD:A.ds.length<=1099511627776)(ae:sg A.ds)(ah:hQ (eM A.ds))(bl:cF A.ds T) :
  Spec Tryz.prog 174 [ptr A.b,.int .i64 T.bw] I A.ar λv I' M'=>(∀ b o,I b=some o->I' b=some o)/\M'=[]/\∃ bf:bn,v=bf.val/\bf.ok I'/\k7 bf (T.bare A.ds).bx:=by
 refine x2 [] a3 Tryz.func174 rfl rfl rfl ?_;intro B aw;refine bZ.mk λb1 iN T6=>?_;refine dx.inv (ι:=aQ×aQ×List Nat×List aT×aQ×List al×aJ) (λx=>{ bp:=[(0,.val (ptr A.b)),(4,.ref 4 0),(5,.val x.1.val),(6,.val x.2.1.val)],cl:=[(4,[.slice none 0 0,.int .i64 0])],cP:=x.2.2.2.2.2.2,da:=x.2.1.ar 3++(x.1.ar 3++ct.ar ⟨A.b,x.2.2.2.2.1,x.2.2.2.2.2.1⟩) }) (λx=>NL I A T x.1 x.2.1 x.2.2.1 x.2.2.2.1 x.2.2.2.2.1 x.2.2.2.2.2.1 x.2.2.2.2.2.2) (λx=>hD x.2.2.2.1) ?_ ?_
 ·refine⟨(⟨none,0,0,[]⟩,⟨some b1,1,1,[.int .i64 T.bw]⟩,[],[T],A.os,A.ds,I),⟨λ_ _ h=>h,dI,⟨rfl,(λ_=>⟨rfl,rfl⟩),λg h=>by cases h⟩,⟨rfl,(λh=>by cases h),λeu jO=>⟨rfl,b2 _,by simp[maxLen],rfl⟩⟩,λS cv=>?_,?_,rfl,rfl,λw _=>rfl,(λw hw=>by cases hw),?_⟩,.refl,dY,.cons rfl (.nil)⟩
  ·rw[eC.1 cv];exact bl
  ·rw[hX,o0];exact bl.nodup ae ah
  ·rw[hX,zP,o0]
 rintro⟨lo,dg,hl,aI,os,ds,J⟩bB;have bB:NL I A T lo dg hl aI os ds J:=bB;have a4:=bB.lt;obtain⟨a8,bi,eZ,nh,eU,bV,cQ,aeB,tc,Fs,se⟩:=bB;have nz:=eZ.pY;have vQ:=nh.pY;have g6:=A8 aI;simp only[e3,ze,bE]at nz vQ;refine a5.mk (λh=>?_) (λh=>?_)
 ·have adi:0<dg.n:=by have:(0:Int)<(dg.n:Int):=c5 h;omega
  obtain⟨gb,S,rfl⟩:∃ r p,aI=r++[p]:=by
   rcases zR aI with aa | ⟨r,p,aa⟩;·subst aa;simp at vQ;omega
   ·exact⟨r,p,by simpa using aa⟩
  have cv:=eU S (by simp);have qe:=cv.np;have T7:=FY S;have vk:hD [S]=S.cZ.length:=by simp[hD]
  have arW:=A8 S.sub;rw[A7,vk,T7]at a4 g6;have ic:dg.n=gb.length+1:=by have dT:=vQ;simp only[cm,o5]at dT;omega
  have T':∀ w∈S.cZ,w ∉ hl:=λw hw Co=>by have:=(uG.1 bV).2.2 w Co w (by rw[fX,o0];exact sF _ hw);exact this rfl
  have aez:cF ds S:=cv.congr λw hw=>⟨by rw[cQ];exact cv.lt w hw,by rw[tc w (T' w hw)]⟩;have e0:∀ w,(nodeAt ds w).k=(nodeAt A.ds w).k:=λw=>by
   by_cases hw:w∈hl;·obtain⟨jo,a,n,c,-,-,e⟩:=Fs w hw;rw[e];rfl
   ·rw[tc w hw]
  have SV:S.parts ds=S.parts A.ds:=ar2 e0 S;obtain⟨aP,bI,bt⟩:=aQ.Cr (I:=J) (e:=3) (M:=dg.ar 3++(lo.ar 3++ct.ar ⟨A.b,os,ds⟩)) nh (λx ad=>by simp[ad]) (j:=gb.length) (by simp[e3]);have zc:(e3 (gb++[S]))[gb.length]'(by simp[e3])=(S.bw:Int):=by simp[e3]
  rw[zc]at bt;have oq:=nh;rw[FX,cS]at oq;have oq:aQ.ok ⟨dg.a,dg.n-1,dg.c,dg.aU⟩ 1 ((e3 gb).map (.int .i64 ·)):=aQ.pop oq;have he:dg.n-1=gb.length:=by omega
  rw[he]at oq;have Jp:gb.length<=dg.c:=by
   cases AY:dg.a with
   |none=>have:=(nh.nil AY).1;omega| some Jq=>have:=(nh.cap Jq AY).2.1;omega
  refine be.mk ((gb.length:Nat):Int) (by show IntKind.i64.wrap ((dg.n:Int)-1)=_;rw[wrap_i64 ⟨by omega,by omega⟩];omega) ?_;refine bA.mk aP gb.length bI rfl (show gb.length<dg.n by omega) ?_;refine aV.mk _ bt ?_;refine c2.draw a3 rfl rfl rfl ?_;refine aV.mk [os.val] (dq (cs:=[os.val]) (k:=0) (n:=1) (T:=216) (by simp[ct.ar,ct.ah]) (by simp)) ?_;refine eH.oJ (ct.ar ⟨A.b,os,ds⟩) (dg.ar 3++(lo.ar 3++[])) _ ?_ (arT (A:=⟨A.b,os,ds⟩) bi (by simp only;omega) aez (by omega)) ?_ ?_;·have:=eT (l₁:=(dg.ar 3++lo.ar 3)) (l₂:=ct.ar ⟨A.b,os,ds⟩);simpa using this
  ·rintro v I' M'⟨-,rfl,-⟩x ad;exact ad
  rintro v ix M1 -⟨hr,rfl,a,n,c,rfl,dr⟩;simp only at dr;rw[SV]at dr;have z9:S.bw<ds.length:=by omega
  have ya:=bi.mono hr;obtain⟨FZ,Dd,zd⟩:=aQ.ok.row (I:=ix) (M:=ct.ar ⟨A.b,os,ds⟩++(dg.ar 3++(lo.ar 3++[]))) al.cH (by decide) ya.os (e:=82) (λx ad=>by simp[ct.ar,ad]) (j:=S.bw) z9;refine bA.mk FZ S.bw Dd rfl (by have:=ya.n;simp only at this |-;omega) ?_;refine aQ.E9 al.cells 9 al.cH (e:=82) ya.os z9 8 (vs:=[.slice a n c]) (bK rfl) rfl (ds[S.bw].row a n c (e3 (S.parts A.ds))) (al.ar3 _ _ _ _ _) [⟨A.b,.cells #[os.val] 216 (0,0)⟩] (dg.ar 3++(lo.ar 3++[])) rfl Dd ?_;intro iw lR nk lG Ua;obtain⟨A9,NM⟩:∃ A9,ds.set S.bw (ds[S.bw].row a n c (e3 (S.parts A.ds)))=A9:=⟨_,rfl⟩;rw[NM]at Ua;have r9:A9.length=ds.length:=by rw[<-NM,rW]
  have Ub:∀ w,nodeAt A9 w=if w=S.bw then(nodeAt A.ds S.bw).row a n c (e3 (S.parts A.ds))else nodeAt ds w:=λw=>by rw[<-NM,ar7 z9,<-gy z9,tc _ (T' _ S.FT)]
  have j9:=S.ar6 A.ds;have ayl:hD (S.parts A.ds)<=hD S.sub:=by have:=j9.length_le;rw[yp,yp]at this;exact this
  have rQ:=A8 (S.parts A.ds);have oL:n=(S.parts A.ds).length:=by have:=dr.len;simp only[e3,bE]at this;omega
  have G9:(ds[S.bw].row a n c (e3 (S.parts A.ds))).ok ix:=by
   have aa:=(ya.ds _ (bJ z9)).row dr λx ad=>by obtain⟨c',zF,rfl⟩:=c0.1 ad;have:=(aT.ad5 A.ds cv c' zF).np;unfold ha;omega
   exact aa
  have dT:iw.n=A9.length:=by rw[lG,r9];exact ya.n
  have ji:ct.ok ix ⟨A.b,iw,A9⟩:=⟨Ua,dT,λx ad=>by
   rw[<-NM]at ad;rcases xp ad with ad | rfl;·exact ya.ds x ad
   ·exact G9⟩
  obtain⟨asa,aeC,NN⟩:=aQ.ok.row (I:=ix) (M:=[⟨A.b,.cells #[os.val] 216 (0,0)⟩]++(iw.ar 82++(dg.ar 3++(lo.ar 3++[])))) al.cH (by decide) Ua (e:=82) (λx ad=>by simp[ad]) (j:=S.bw) (by omega);have wX:A9[S.bw]'(by omega)=ds[S.bw].row a n c (e3 (S.parts A.ds)):=by have aa:=Ub S.bw;rw[bT rfl,gy (by omega),<-tc _ (T' _ S.FT),gy z9]at aa;exact aa
  rw[wX]at NN;have aeD:=dr.cap;refine c2.draw a3 rfl rfl rfl ?_;refine be.mk ((gb.length:Nat):Int) (by show IntKind.i64.wrap ((dg.n:Int)-1)=_;rw[wrap_i64 ⟨by omega,by omega⟩];omega) ?_;refine lf.mk 0 gb.length rfl rfl (dj _) Jp ?_;refine aV.mk [os.val] (dq (cs:=[os.val]) (k:=0) (n:=1) (T:=216) (by simp) (by simp)) ?_;refine bA.mk asa S.bw (by rw[nk]at aeC;exact aeC) rfl (by have:=ya.n;simp only at this |-;omega) ?_;refine aV.mk _ (NN.part (k:=8) (m:=1) (by decide)) ?_;refine bF.An a3 rfl (by simp) (e:=3) rfl rfl rfl ⟨dg.a,gb.length,dg.c,dg.aU⟩ oq rfl (sa:=a) (m:=n) (c':=c) (b3:=(e3 (S.parts A.ds)).map (.int .i64 ·)) rfl (by rw[bE,oL];simp[e3]) (λaw=>dr.y3 _ aw) (FF _) ([⟨A.b,.cells #[os.val] 216 (0,0)⟩]++iw.ar 82) (lo.ar 3++[]) rfl (by simp only;omega) (by show(gb.length+n)*8<=_;omega) ?_;intro tb adk adl iO;rw[<-cS,<-FX]at iO;refine bZ.mk λbW iC Qj=>?_;refine bF.l7 a3 rfl (by simp) (e:=3) rfl rfl rfl lo eZ rfl (cs:=[.int .i64 S.bw]) rfl rfl rfl ([⟨A.b,.cells #[os.val] 216 (0,0)⟩]++iw.ar 82++tb.ar 3) [] (congrArg (List.cons _) (ec _ _ _).symm) (by omega) (by show(lo.n+1)*8<=_;omega) ?_;intro NO aym ayn asb;refine⟨(NO,tb,hl++[S.bw],gb++S.parts A.ds,iw,A9,ix),⟨⟨λb o h=>hr _ _ (a8 _ _ h),ji,?_,iO,λx ad=>?_,?_,r9.trans cQ,nk.trans aeB,λw hw=>?_,λw hw=>?_,?_⟩,?_⟩,.perm ?_ .refl,dY,.cons rfl (.nil)⟩;·show NO.ok 1 ((ze (hl++[S.bw])).map (.int .i64 ·));unfold ze;rw[cS,cS];exact asb
  ·rcases cC.1 ad with ad | ad
   ·exact eU x (by simp[ad])
   ·exact aT.ad5 A.ds cv x ad
  ·have aa:((hl++[S.bw])++(gb++S.parts A.ds).flatMap aT.cZ).Perm (hl++(gb.flatMap aT.cZ++((S.parts A.ds).flatMap aT.cZ++[S.bw]))):=by rw[ec,fX];refine T0 hl ?_;have:=eT (l₁:=[S.bw]) (l₂:=gb.flatMap aT.cZ++(S.parts A.ds).flatMap aT.cZ);simpa using this
   refine aa.nodup_iff.2 (List.Nodup.sublist ?_ bV);rw[fX,o0];refine(Nv _).append ((Nv _).append ?_);have:S.cZ=S.sub.flatMap aT.cZ++[S.bw]:=by cases S;exact aT.mK _ _
   rw[this];exact j9.append (.refl _)
  ·rw[Ub,bP (λe=>hw (by rw[e];simp)),tc w (λh=>hw (im _ h))]
  ·rw[Ub];by_cases e:w=S.bw
   ·subst e;rw[bT rfl];exact⟨S,a,n,c,cv,rfl,rfl⟩
   ·rw[bP e];rcases cC.1 hw with hw | hw
    ·exact Fs w hw
    ·exact absurd (eC.1 hw) e
  ·rw[<-se,yq,yq,fX,fX,zP,o0,ar8 A.ds S,ec];rfl
  ·show hD (gb++S.parts A.ds)<hD (gb++[S]);rw[A7,A7,vk];omega
  ·show List.Perm _ (tb.ar 3++(NO.ar 3++(⟨A.b,.cells #[iw.val] 216 (0,0)⟩::iw.ar 82)));rw[lR];have:=eT (l₁:=(⟨A.b,.cells #[os.val] 216 (0,0)⟩::iw.ar 82)) (l₂:=tb.ar 3++NO.ar 3);simpa using this
 ·have aw:dg.n=0:=by have:¬ (0:Int)<(dg.n:Int):=dP h;omega
  obtain rfl:aI=[]:=iD (by omega);have Fi:hl.reverse=(T.bx A.ds).cZ:=by rw[List.reverse_nil,PE,dD]at se;rw[se,Sg]
  obtain⟨rb,ot⟩:∃ rb,(T.bx A.ds).hs=rb:=⟨_,rfl⟩;have asc:ze hl.reverse=rb:=by rw[Fi,<-ot];rfl
  have e0:∀ w,(nodeAt ds w).bare=(nodeAt A.ds w).bare:=λw=>by
   by_cases hw:w∈hl;·obtain⟨jo,a,n,c,-,-,e⟩:=Fs w hw;rw[e];rfl
   ·rw[tc w hw]
  have aeE:(T.bx A.ds).cZ.Nodup:=(bl.nodup ae ah).sublist (aT.arc _ T);have vV:cF ds (T.bx A.ds):=aT.arh A.ds bl λS cv hm=>by rw[<-Fi]at hm;obtain⟨jo,a,n,c,MK,e,a7⟩:=Fs S.bw (Td.1 hm);obtain rfl:=MK.aq6 cv e;exact⟨by rw[cQ];exact cv.np,by rw[a7];rfl⟩
  have asd:(T.bx A.ds).bare ds=(T.bare A.ds).bx:=by rw[aT.aea A.ds _ λx ad=>e0 x,aT.arj]
  have aeF:=aem vV aeE;rw[ot,asd]at aeF;have uq:=sub_fold (t:=jD ds) (rb:=rb) (by
   rw[<-ot];exact Cj.2 (List.Pairwise.imp (fun {a b} bD e=>bD (by omega)) aeE)) (by
   rw[<-ot];exact ar4 vV) (λk ae=>by
   rw[<-ot]at ae;obtain⟨x,ad,rfl⟩:=c0.1 ae;have:=vV.lt x ad;exact⟨by omega,by show(x:Int)<ds.length;omega⟩)
  have uP:lo.ok 1 ((ze hl).map (.int .i64 ·)):=eZ;have aew:os.n=ds.length:=bi.n;refine bc.mk (lo.ar 3++[]) (dg.ar 3++ct.ar ⟨A.b,os,ds⟩) _ ?_ (adh (M0:=[]) uP (by show lo.n<=_;omega)) ?_;·have:=(eT (l₁:=lo.ar 3) (l₂:=dg.ar 3)).append_right (ct.ar ⟨A.b,os,ds⟩);simpa using this.symm
  rintro v ix M1 -⟨hr,back,aeG,uo,rfl⟩;subst ix;have kR:(ze hl).reverse=rb:=by rw[<-asc];unfold ze;rw[T1]
  rw[kR]at uo;have GM:=uo.pY;have s0:lo.n=back.n:=(y4 aeG).1.symm;have eJ:rb.length=lo.n:=by rw[<-kR,C4];unfold ze;rw[bE];omega
  refine aV.mk [os.val] (dq (cs:=[os.val]) (k:=0) (n:=1) (T:=216) (by simp[ct.ar,ct.ah]) (by simp)) ?_;refine pE.mk os.n os.n rfl rfl (b2 _) (by show 8*os.n<=_;omega) (by omega) ?_;refine bZ.mk λb9 m8 Ce=>?_;refine pE.mk 0 lo.n rfl rfl (dj _) (by show 96*lo.n<=_;omega) (by omega) ?_;refine bZ.mk λb7 H8 LR=>?_;have xk:(rowOf [Value.int .i64 0] (os.n*1))=(List.replicate ds.length (0:Int)).map (Value.int .i64):=by rw[BX,BI,gP,aew]
  have Uc:∀ (P:List Int) (out eh:aQ),∀ x∈A.ar.map (·.num),x∈(dL b9 P::(out.ar 82++(back.ar 3++ct.ar ⟨A.b,os,ds⟩))).map (·.num):=λP out eh x ad=>by
   have e:(ct.ar ⟨A.b,os,ds⟩).map (·.num)=A.ar.map (·.num):=by
    show A.b::(os.ar 82).map (·.num)=A.b::(A.os.ar 82).map (·.num);unfold aQ.ar;rw[aeB];cases A.os.a<;>rfl
   rw[<-e]at ad;simp only[ca,cS];exact nS _ (sF _ (sF _ ad))
  refine dx.uR (ι:=Nat×List Int×aQ×List al×aJ) (λx=>{ bp:=[(0,.val (ptr A.b)),(4,.ref 4 0),(8,.val (.slice (some ⟨b9,0,none⟩) os.n os.n)),(9,.val x.2.2.1.val),(66,.val lo.val),(67,.val (.int .i64 lo.n)),(68,.val (.int .i64 x.1))],cl:=[(4,[.slice none 0 0,.int .i64 0])],cP:=x.2.2.2.2,da:=dL b9 x.2.1::(x.2.2.1.ar 82++(back.ar 3++ct.ar ⟨A.b,os,ds⟩)) }) (YE J (jD ds) rb) (λx=>rb.length-x.1) ?_ ?_
  ·intro _;refine⟨(0,List.replicate ds.length 0,⟨some b7,0,lo.n,rowOf [.int .u8 0,.int .u64 0,.int .u64 0,.int .u64 0,.int .u64 0,.string ⟨#[]⟩,.int .i64 0,.int .i64 0,.slice none 0 0] (lo.n*9)⟩,[],J),⟨dj _,by rw[zQ];rfl,⟨rfl,(λh=>by cases h),λeu jO=>⟨by simp[tp,madeCells],dj _,by unfold maxLen;simp only;omega,by simp⟩⟩,rfl,rfl,(λd ah=>by cases ah),λ_ _ h=>h,(λc ao=>by have:=Qb ao;omega),(λd ah=>by cases ah)⟩,?_,ru,.cons rfl (.nil)⟩;refine .perm (List.Perm.swap _ _ _) ?_;refine .perm (List.Perm.cons _ (List.Perm.cons _ (?_:List.Perm _ ((back.ar 3++ct.ar ⟨A.b,os,ds⟩)++dg.ar 3)))) ?_
   ·rw[dD,ec];exact T0 _ eT
   refine .sub (.cons₂ _ (.cons₂ _ (xq _ _))) (.l6 ?_);rw[xk];rfl
  rintro⟨j,P,out,hq,cE⟩⟨ak,AZ,A1,ic,NP,A0,cI,Jt,jF⟩;simp only at ak AZ A1 ic NP A0 cI Jt jF;have AZ:P.length=ds.length:=AZ;have ase:out.n=j:=by have:=A1.len;rw[gL _ 9 al.cH,ic]at this;omega
  subst ase;refine a5.mk (λh=>?_) (λh=>?_)
  ·have y5:out.n<rb.length:=by have:(out.n:Int)<(lo.n:Int):=c5 h;omega
   have hm:∀ y∈rb,0<=y/\y<ds.length:=λy aE=>by rw[<-ot]at aE;obtain⟨x,ad,rfl⟩:=c0.1 aE;have:=vV.lt x ad;omega
   have hm:=hm _ (bJ y5);obtain⟨m,y6⟩:=eF hm.1;rw[y6]at hm;have hn:m<ds.length:=by omega
   obtain⟨aP,bI,Ju⟩:=aQ.Cr (I:=cE) (e:=3) (M:=dL b9 P::(out.ar 82++(back.ar 3++ct.ar ⟨A.b,os,ds⟩))) uo (λx ad=>by simp[ad]) y5;rw[y6]at Ju;have NQ:=bi.mono cI;have fE:ds[m].ok cE:=NQ.ds _ (bJ hn);have mI:nodeAt ds m=ds[m]:=gy hn;have g1:=oT P m (by omega) (out.n:Int);generalize uc:P.set m (out.n:Int)=dU at g1;have Nk:dU.length=ds.length:=by rw[<-uc];simpa using AZ
   obtain⟨lz,nN,jw⟩:=aQ.ok.row (I:=cE) (M:=dL b9 dU::(out.ar 82++(back.ar 3++ct.ar ⟨A.b,os,ds⟩))) al.cH (by decide) NQ.os (e:=82) (λx ad=>by simp[ct.ar,ad]) (j:=m) hn;have jw:cY cE (dL b9 dU::(out.ar 82++(back.ar 3++ct.ar ⟨A.b,os,ds⟩))) (lz.add (m*9)) 9 ds[m].cells:=jw;generalize fk:ds[m]=d at fE jw mI;have fh:=fE.az;have p0:=fE.ba.cap;have C7:∀ c∈dU,0<=c/\c<=rb.length:=λc ao=>by
    rw[<-uc]at ao;rcases xp ao with ao | rfl;·exact Jt c ao
    ·omega
   refine bA.mk aP out.n (by have:=(arZ aeG);rw[this]at bI;exact bI) rfl (show _<lo.n by omega) ?_;refine aV.mk _ Ju ?_;refine bA.mk ⟨b9,0,none⟩ m rfl rfl (by omega) ?_;refine cd.iP [] (out.ar 82++(back.ar 3++ct.ar ⟨A.b,os,ds⟩)) (P.map (Value.int .i64)) 3 rfl (by rw[nO,bE];show 0+m*1+1<=_;omega) rfl (dU.map (Value.int .i64)) (by rw[dp,gP];exact g1) ?_;refine aV.mk [os.val] (dq (cs:=[os.val]) (k:=0) (n:=1) (T:=216) (by simp[ct.ar,ct.ah]) (by simp)) ?_;refine bA.mk lz m nN rfl (by omega) ?_;refine aV.mk _ jw ?_;have wJ:(out.n+1)*96<=140737488355328:=by omega
   have hZ:∀ q∈d.aq,0<=q/\q<dU.length:=λq aM=>by
    have aa:q∈(nodeAt ds m).aq:=by rw[mI];exact aM
    have A':(m:Int)∈rb:=by rw[<-y6];exact bJ y5
    rw[<-ot]at A';obtain⟨x,ad,e⟩:=c0.1 A';obtain rfl:x=m:=Int.ofNat.inj e;have:=ar5 vV x ad q aa;omega
   refine dx.inv (ι:=Nat×aQ×List Int) (λy=>{ bp:=[(0,.val (ptr A.b)),(4,.ref 4 0),(8,.val (.slice (some ⟨b9,0,none⟩) os.n os.n)),(9,.val out.val),(10,.val (.int .i64 out.n)),(12,.ref 12 0),(13,.val y.2.1.val),(66,.val lo.val),(67,.val (.int .i64 lo.n)),(68,.val (.int .i64 out.n)),(85,.val (.slice d.cf d.az d.cx)),(86,.val (.int .i64 d.az)),(87,.val (.int .i64 y.1))],cl:=[(4,[.slice none 0 0,.int .i64 0]),(12,d.cells)],cP:=cE,da:=y.2.1.ar 3++(dL b9 dU::(out.ar 82++(back.ar 3++ct.ar ⟨A.b,os,ds⟩))) }) (λy=>aeA d dU y) (λy=>d.az-y.1) ?_ ?_;·exact⟨(0,h3,[]),⟨dj _,k0 1,by simp⟩,.refl,V',.cons rfl (.cons rfl (.nil))⟩
   rintro⟨k,eh,fz⟩⟨hR,iF,cW⟩;simp only at hR iF cW;have asf:=iF.pY;have Ez:fz.length=k:=by rw[cW,bE,fR];omega
   refine a5.mk (λab=>?_) (λab=>?_)
   ·have NR:k<d.az:=by have:(k:Int)<(d.az:Int):=c5 ab;omega
    have jc:k<d.aq.length:=by omega
    have aj:=hZ _ (bJ jc);have vS:d.aq[k].toNat<dU.length:=by omega
    have C8:dU.getD d.aq[k].toNat 0=dU[d.aq[k].toNat]:=by simp[bM,vS]
    have De:cD cE d.cf d.az d.cx 1 8 (d.aq.flatMap iH):=by rw[oo];exact fE.ba
    obtain⟨gv,fm,fe⟩:=De.row (f:=iH) (λ_=>rfl) (j:=k) (by omega) jc;refine bA.mk gv k fm rfl (show k<d.az by omega) ?_;refine aV.mk _ (fe _) ?_;refine bA.mk ⟨b9,0,none⟩ d.aq[k].toNat rfl (by omega) (by omega) ?_;refine aV.mk _ (Hk (by simp) vS) ?_;refine bZ.mk λtd Df asg=>?_;refine bF.l7 a3 rfl (by simp) (e:=3) rfl rfl rfl eh iF rfl (cs:=[.int .i64 dU[d.aq[k].toNat]]) rfl rfl rfl [] (dL b9 dU::(out.ar 82++(back.ar 3++ct.ar ⟨A.b,os,ds⟩))) rfl (by omega) (by show(eh.n+1)*8<=_;omega) ?_;intro o3 aeH ash Ud;refine be.mk _ (dc (i:=k) (by omega)) ?_;refine⟨(k+1,o3,fz++[dU[d.aq[k].toNat]]),⟨⟨NR,?_,?_⟩,by simp only;omega⟩,.refl,V',.cons rfl (.cons rfl (.nil))⟩;·rw[cS];exact Ud
    ·rw[cW,gH jc,cS,s',C8]
   have c8:k=d.az:=by have:¬ (k:Int)<(d.az:Int):=dP ab;omega
   subst c8;rw[fS (by omega)]at cW;refine bZ.mk λado adp adq=>?_;have bV:∃ bX:al,bX=⟨d.k,d.cz,d.s1,d.s2,d.cV,d.t,d.lo,d.hi,eh.a.map λg=>⟨g,0,none⟩,eh.n,eh.c,fz⟩:=⟨_,rfl⟩;obtain⟨bX,bV⟩:=bV;have Jw:bX.cells=[.int .u8 d.k,.int .u64 d.cz,.int .u64 d.s1,.int .u64 d.s2,.int .u64 d.cV,.string d.t,.int .i64 d.lo,.int .i64 d.hi,.slice (eh.a.map λg=>⟨g,0,none⟩) eh.n eh.c]:=by rw[bV];rfl
   refine bF.l7 a3 rfl (by simp) (e:=82) rfl rfl rfl out A1 rfl (cs:=[.int .u8 d.k,.int .u64 d.cz,.int .u64 d.s1,.int .u64 d.s2,.int .u64 d.cV,.string d.t,.int .i64 d.lo,.int .i64 d.hi,.slice (eh.a.map λg=>⟨g,0,none⟩) eh.n eh.c]) rfl rfl rfl (eh.ar 3++[dL b9 dU]) (back.ar 3++ct.ar ⟨A.b,os,ds⟩) (congrArg (List.cons _) (ec _ [_] _).symm) (by omega) (by show(out.n+1)*96<=_;omega) ?_;intro nl TG adr asi;refine be.mk _ (dc (i:=out.n) (by omega)) ?_;have A2:∀ c∈fz,0<=c/\c<=rb.length:=λc ao=>by
    rw[cW]at ao;obtain⟨q,aM,rfl⟩:=c0.1 ao;have wY:=hZ q aM;have Jx:q.toNat<dU.length:=by omega
    exact C7 (dU.getD q.toNat 0) (by simp only[bM,dt Jx,kK];exact bJ _)
   intro eS;have mb:((eh.ar 3++[dL b9 dU])++(nl.ar 82++(back.ar 3++ct.ar ⟨A.b,os,ds⟩))).Perm (eh.ar 3++(dL b9 dU::(nl.ar 82++(back.ar 3++ct.ar ⟨A.b,os,ds⟩)))):=by rw[ec];exact List.Perm.refl _
   have ax:=mj.F0 (J:=cE) (os:=eh) (e:=3) eS mb (Uc dU nl eh);obtain⟨mJ,hw,bk,dr,-⟩:=aQ.Ae (b:=8) (e:=3) iF (by omega) ax (dL b9 dU::(nl.ar 82++(back.ar 3++ct.ar ⟨A.b,os,ds⟩)));refine⟨(out.n+1,dU,nl,hq++[bX],mJ),⟨⟨by simp only;omega,Nk,?_,by simp[ic],?_,?_,λb o h=>bk _ _ (cI _ _ h),C7,?_⟩,by simp only;omega⟩,.perm mb (hw _ _ .refl),ru,.cons rfl (.nil)⟩
   ·simp only;rw[fX];have:([bX].flatMap al.cells)=bX.cells:=by simp
    rw[this,Jw];exact asi
   ·simp only;rw[gH y5,tT,NP,kl,HI,y6];show(P.set m ((hq.map al.a1).length:Int),hq.map al.a1++[(nodeAt ds m).ep ((nodeAt ds m).aq.map λk=>(P.set m ((hq.map al.a1).length:Int)).getD k.toNat 0)])=_;rw[bE,ic,uc,mI,<-cW,cS,bV];rfl
   ·simp only;intro x ad;rcases cC.1 ad with ad | ad
    ·exact(A0 x ad).mono bk
    ·simp only[eC]at ad;rw[ad,bV];refine⟨fE.k,fE.cz,fE.s1,fE.s2,fE.cV,fE.t,fE.lo,fE.hi,dr,λc ao=>?_⟩;have:=A2 c ao;exact⟨by omega,by omega⟩
   ·simp only;intro x ad;rcases cC.1 ad with ad | ad
    ·exact jF x ad
    ·simp only[eC]at ad;rw[ad,bV];exact A2
  ·have c8:out.n=rb.length:=by have:¬ (out.n:Int)<(lo.n:Int):=dP h;omega
   refine be.mk ((hq.length:Int)-1) (by show IntKind.i64.wrap ((out.n:Int)-1)=_;rw[wrap_i64 ⟨by omega,by omega⟩,ic]) ?_;intro eS;have mb:(dL b9 P::(out.ar 82++(back.ar 3++ct.ar ⟨A.b,os,ds⟩))).Perm (out.ar 82++(dL b9 P::(h3.ar 82++(back.ar 3++ct.ar ⟨A.b,os,ds⟩)))):=na.symm;have ax:=mj.F0 (J:=cE) (os:=out) (e:=82) eS mb (Uc P h3 h3);obtain⟨mJ,hw,bk,dr,-⟩:=aQ.Ae (b:=96) (e:=82) A1 (by omega) ax (dL b9 P::(h3.ar 82++(back.ar 3++ct.ar ⟨A.b,os,ds⟩)));rw[fS (by omega)]at NP;obtain⟨Fa,mC,-,-⟩:=uq rb.length (b2 _);rw[DS]at mC;have ey:hq.map al.a1=(T.bare A.ds).bx.post:=by rw[<-aeF];exact congrArg Prod.snd (NP.symm.trans mC)
   exact⟨mJ,[],.perm mb (hw _ _ (.sub (fC _) .refl)),λb o h=>bk _ _ (cI _ _ (a8 _ _ h)),rfl,⟨hq,out.a.map λg=>⟨g,0,none⟩,out.n,out.c,(hq.length:Int)-1⟩,rfl,⟨dr,λd ah=>(A0 d ah).mono bk,⟨by simp only;omega,by simp only;omega⟩⟩,⟨ey,rfl⟩⟩
def Ue{α:Type}{F:al->List α->α}(bs:C9 F){d:al}(ds:List al)(v:Nat->α):∀ (l:List Nat) (aj:∀ k∈l,(ds.getD k mM).k=0->v k=F (ds.getD k mM) []) (xs:List α),F d (xs++l.map v)=F d (xs++(iy d ds l).map λk=>v k.toNat)
 |[],_,xs=>rfl
 |k::l,aj,xs=>by
  have ak:iy d ds (k::l)=(bif mL d (ds.getD k mM)then [(k:Int)]else [])++iy d ds l:=rfl;rw[ak,ca];cases h:mL d (ds.getD k mM)with
  |true=>have aN:=Ue bs (d:=d) ds v l (λq aM=>aj q (.tail _ aM)) (xs++[v k]);simpa using aN
  |false=>
   have aN:=Ue bs (d:=d) ds v l (λq aM=>aj q (.tail _ aM)) xs;unfold mL at h;have aL:d.k=4:=by
    cases e:decide (d.k=4)with
    |true=>exact c5 e| false=>rw[e]at h;cases h
   have aw:(ds.getD k mM).k=0:=by
    cases e:decide ((ds.getD k mM).k=0)with
    |true=>exact c5 e| false=>rw[e,aL]at h;cases h
   rw[aj k (.head _) aw,bs.drop d _ xs _ aL aw,aN];rfl
def aeI{F:al->List α->α}(bs:C9 F)(d:al)(a:Option Addr)(n c:Nat)(ks:List Int):F (d.row a n c ks)=F d:=
 ((bs.aq (d.row a n c ks) []).symm.trans (bs.aq d []))
def qd.val{F:al->List α->α}(bs:C9 F){d:al}{ds:List al}(h:qd d l ds ds' r)(v qZ:Nat->α)(aj:∀ k∈l,(ds.getD k mM).k=0->v k=F (ds.getD k mM) [])(aA:∀ k∈l,qZ k=v k)
  (eV:∀ x,ds'=ds++[x]->qZ ds.length=F x (x.aq.map λk=>v k.toNat)):qZ r.toNat=F d (l.map v):=by
 unfold qd at h;have ah:=Ue bs (d:=d) ds v l aj [];rw[hX,hX]at ah;split at h
 ·rename_i gi;rcases h with⟨aa,rfl,ab⟩ | ⟨aa,ab⟩ | ⟨_,rfl,bN,gA,c',ab⟩
  ·rw[ah,aa,gN,eV _ ab];rcases gi with e | e
   ·rw[show d.k-4=0 by omega];exact(bs.adP d (nothing 0) e rfl).symm
   ·rw[show d.k-4=1 by omega];exact(bs.adQ d (nothing 1) e rfl rfl rfl rfl rfl).symm
  ·rw[ah,aa,ca,hH,bs.one d _ gi];have af:r∈iy d ds l:=by rw[aa];exact .head _
   obtain⟨k,ae,ad⟩:=hc.1 af;cases aM:mL d (ds.getD k mM)with
   |false=>rw[aM]at ad;cases ad| true=>rw[aM]at ad;rw[eC.1 ad,gN];exact aA k ae
  ·rw[gN,eV _ ab,aeI bs,ah];rfl
 ·obtain⟨rfl,bN,gA,c',ab⟩:=h;rw[gN,eV _ ab,aeI bs];show F d ((l.map Int.ofNat).map λk=>v k.toNat)=_;rw[gh];rfl
structure q'(ds:List al)(F1:List Nat):Prop where
 fits:∀ d∈ds,fits d d.aq.length=true
 aq:∀ j (h:j<ds.length),∀ k∈ds[j].aq,0<=k/\k<j
 diff:hQ (eM ds)
 gF:∀ k∈F1,k<ds.length/\(k:Int) ∉ eM ds
 tb:F1.Nodup
def NS(a b:List al):eM (a++b)=eM a++eM b:=by unfold eM;rw[fX]
def q'.add{ds:List al}(h:q' ds (l++bo)){x:al}(ad:Go.V.fits x x.aq.length=true)(ae:x.aq.Sublist (l.map Int.ofNat)):q' (ds++[x]) (ds.length::bo):=by
 have fq:∀ k∈x.aq,∃ q∈l,k=(q:Int):=λk aM=>by obtain⟨q,aa,ab⟩:=c0.1 (ae.subset aM);exact⟨q,aa,ab.symm⟩
 have fm:eM (ds++[x])=eM ds++x.aq:=by rw[NS];simp[eM]
 have bV:=uG.1 h.tb;refine⟨λd ah=>?_,λj ak k aM=>?_,?_,λk aM=>?_,?_⟩
 ·rcases cC.1 ah with ah | ah
  ·exact h.fits d ah
  ·rw[eC.1 ah];exact ad
 ·by_cases e:j<ds.length
  ·rw[yo e]at aM;exact h.aq j e k aM
  ·rw[cm,o5]at ak;have asj:j=ds.length:=by omega
   subst asj;rw[Cg (b2 _)]at aM;simp only[mD,List.getElem_singleton]at aM;obtain⟨q,aa,rfl⟩:=fq k aM;have:=(h.gF q (im _ aa)).1;omega
 ·rw[fm];refine rV.2 ⟨h.diff,?_,λa a6 b ag=>?_⟩
  ·refine List.Pairwise.sublist ae ?_;refine Cj.2 (bV.1.imp λbD e=>bD ?_);exact Int.ofNat.inj e
  ·rintro rfl;obtain⟨q,aa,rfl⟩:=fq _ ag;exact(h.gF q (im _ aa)).2 a6
 ·rw[fm];rw[cm,o5];rcases eA.1 aM with rfl | aM
  ·refine⟨by omega,λhm=>?_⟩;rcases cC.1 hm with hm | hm
   ·have:=Nr h.aq _ hm;omega
   ·obtain⟨q,aa,e⟩:=fq _ hm;have:=(h.gF q (im _ aa)).1;omega
  ·obtain⟨aa,ab⟩:=h.gF k (sF _ aM);refine⟨by omega,λhm=>?_⟩;rcases cC.1 hm with hm | hm
   ·exact ab hm
   ·obtain⟨q,ai,e⟩:=fq _ hm;have:k=q:=by omega
    subst this;exact bV.2.2 k ai k aM rfl
 ·refine mg.2 ⟨λhm=>?_,bV.2.1⟩;have:=(h.gF _ (sF _ hm)).1;omega
def q'.pick{ds:List al}(h:q' ds (l++bo)){r:Nat}(af:r∈l):q' ds (r::bo):=by
 have bV:=uG.1 h.tb;refine⟨h.fits,h.aq,h.diff,λk ae=>?_,mg.2 ⟨λhm=>bV.2.2 r af r hm rfl,bV.2.1⟩⟩;rcases eA.1 ae with rfl | ae
 ·exact h.gF _ (im _ af)
 ·exact h.gF _ (sF _ ae)
def JO(d:al)(ds:List al):∀ l:List Nat,(iy d ds l).Sublist (l.map Int.ofNat)
 |[]=>.slnil
 |k::l=>by
  show List.Sublist ((bif mL d (ds.getD k mM)then [(k:Int)]else [])++iy d ds l) (Int.ofNat k::l.map Int.ofNat);cases mL d (ds.getD k mM)with
  |true=>exact(JO d ds l).cons₂ _| false=>exact(JO d ds l).cons _
def Uf{d:al}(h:d.k=4\/d.k=5){n m:Int}(aD:2<=n)(hm:2<=m)(aB:Go.V.fits d n=true):Go.V.fits d m=true:=by
 unfold Go.V.fits at aB |-;rcases h with e | e<;>rw[e]at aB |-<;>simp[oQ,nF]at aB |-<;>exact⟨⟨hm,.inl (by decide)⟩,aB.2⟩
def q'.join{ds:List al}(h:q' ds (l++bo)){d:al}(ah:Go.V.fits d l.length=true)(ak:qd d l ds ds' r):0<=r/\q' ds' (r.toNat::bo):=by
 unfold qd at ak;split at ak
 ·rename_i gi;rcases ak with⟨aa,rfl,ab⟩ | ⟨aa,ab⟩ | ⟨aa,rfl,bN,gA,c',ab⟩
  ·refine⟨by omega,?_⟩;rw[ab,gN];refine h.add ?_ (fC _);rcases gi with e | e
   ·rw[show d.k-4=0 by omega];rfl
   ·rw[show d.k-4=1 by omega];rfl
  ·have af:r∈l.map Int.ofNat:=(JO d ds l).subset (by rw[aa];exact .head _);obtain⟨q,aM,rfl⟩:=c0.1 af;rw[ab];exact⟨Ih _,h.pick aM⟩
  ·refine⟨by omega,?_⟩;rw[ab,gN];refine h.add ?_ (JO d ds l);show Go.V.fits d ((iy d ds l).length:Nat)=true;have m4:(2:Int)<=((iy d ds l).length:Nat):=by omega
   have sV:(2:Int)<=(l.length:Nat):=by have:=(JO d ds l).length_le;rw[bE]at this;omega
   exact Uf gi sV m4 ah
 ·obtain⟨rfl,bN,gA,c',ab⟩:=ak;refine⟨by omega,?_⟩;rw[ab,gN];refine h.add ?_ (Nv _);show Go.V.fits d ((l.map Int.ofNat).length:Nat)=true;rw[bE];exact ah
def kh(d:al)(x:aS):Bool:=!decide (d.k=4) || !decide (x.d.k=0)
def JP(d:al)(xs:List aS):aS:=
 if d.k=4\/d.k=5 then match xs.filter (kh d)with
  |[]=>.mk (nothing (d.k-4)).bare []| [y]=>y| ys=>.mk d ys
 else .mk d xs
def nW(d:al)(xs:List aS):aS:=JP d.bare xs
def aS.lK(T:aS):aS:=(T.fold nW).bx
def aeJ(ns:List al)(T:aT):(T.bare ns).d=(nodeAt ns T.bw).bare:=by
 cases T with
 |mk k ks=>
 rw[aT.nq];rfl
def asl{ns:List al}(h:k<ns.length):ns.getD k mM=nodeAt ns k:=by rw[gy h];simp[bM,h]
def aeK{d:al}{ds:List al}:∀ {ks:List aT},(∀ c∈ks,cF ds c)->iy d ds (ks.map aT.bw)=e3 (ks.filter λc=>kh d (c.bare ds))/\(ks.filter λc=>kh d (c.bare ds)).map (aT.bare ds)=(ks.map (aT.bare ds)).filter (kh d)
 |[],_=>⟨rfl,rfl⟩
 |c::ks,h=>by
  obtain⟨aa,ab⟩:=aeK (d:=d) (ks:=ks) λx ad=>h x (.tail _ ad);have ao:=(h c (.head _)).np;have e:mL d (ds.getD c.bw mM)=kh d (c.bare ds):=by unfold mL kh;rw[aeJ,al.ad6,asl ao]
  have ak:iy d ds ((c::ks).map aT.bw)=(bif mL d (ds.getD c.bw mM)then [(c.bw:Int)]else [])++iy d ds (ks.map aT.bw):=rfl;rw[ak,aa,e,x5,ca,x5];cases kh d (c.bare ds)with
  |true=>exact⟨rfl,by simp[ab]⟩| false=>exact⟨rfl,by simpa using ab⟩
def JQ(d:al)(xs:List aS):nW d xs=if d.k=4\/d.k=5 then(match xs.filter (kh d)with
  |[]=>.mk (nothing (d.k-4)).bare []| [y]=>y| ys=>.mk d.bare ys)else .mk d.bare xs:=rfl
def qd.lt{d:al}{ds:List al}{ks:List aT}(eL:∀ c∈ks,cF ds c)(h:qd d (ks.map aT.bw) ds ds' r) :
  (∃ m,ds'=ds++m)/\∃ T:aT,(T.bw:Int)=r/\cF ds' T/\T.bare ds'=nW d (ks.map (aT.bare ds)):=by
 obtain⟨ak,aB⟩:=aeK (d:=d) eL;have new:∀ (x:al) (l:List aT),(∀ c∈l,cF ds c)->x.aq=e3 l->cF (ds++[x]) (.mk ds.length l)/\(aT.mk ds.length l).bare (ds++[x])=.mk x.bare (l.map (aT.bare ds)):=λx l aA ad=>by refine⟨.mk (by simp) (by rw[FU,ad];rfl) λc ao=>(aA c ao).app _,?_⟩;rw[aT.nq,FU];congr 1;exact fT λc ao=>aT.Dc ds (aA c ao) _
 unfold qd at h;rw[JQ,<-aB];split at h
 ·rename_i gi;rw[bT gi];rw[ak]at h;have l3:∀ c∈ks.filter (λc=>kh d (c.bare ds)),cF ds c:=λc ao=>eL c (n4.1 ao).1;generalize ks.filter (λc=>kh d (c.bare ds))=bp at h l3;rcases h with⟨aa,rfl,rfl⟩ | ⟨aa,rfl⟩ | ⟨aa,rfl,bN,gA,c',rfl⟩
  ·obtain rfl:bp=[]:=List.map_eq_nil_iff.1 aa;obtain⟨ew,e9⟩:=new (nothing (d.k-4)) [] (λc ao=>by cases ao) rfl;exact⟨⟨_,rfl⟩,_,rfl,ew,e9⟩
  ·match bp,aa with
   |[c],aa=>refine⟨⟨[],by simp⟩,c,?_,l3 c (.head _),rfl⟩;simpa[e3]using aa
  ·obtain⟨ew,e9⟩:=new (d.row bN gA c' (e3 bp)) bp l3 rfl;refine⟨⟨_,rfl⟩,_,rfl,ew,e9.trans ?_⟩
   match bp,aa with
   |fF::fB::l,aa=>rfl
 ·rename_i gi;rw[bP gi];obtain⟨rfl,bN,gA,c',rfl⟩:=h;obtain⟨ew,e9⟩:=new (d.row bN gA c' ((ks.map aT.bw).map Int.ofNat)) ks eL (by rw[gh];rfl);exact⟨⟨_,rfl⟩,_,rfl,ew,e9⟩
def q'.perm{ds:List al}{a b:List Nat}(h:q' ds a)(aH:a.Perm b):q' ds b:=⟨h.fits,h.aq,h.diff,λk ae=>h.gF k (aH.mem_iff.2 ae),aH.nodup_iff.1 h.tb⟩
def vW(ns:List al)(i:Nat):List Nat:=(List.range i).filter λj=>!decide ((j:Int)∈eM (ns.take i))
def ie(P:List Int)(j:Nat):Nat:=(P.getD j 0).toNat
structure Dg(t:bn)(i:Nat)(ds:List al)(P:List Int):Prop where
 hi:i<=t.ns.length
 qS:P.length=t.ns.length
 len:ds.length<=i
 jH:∀ j,j<i->∃ T:aT,(T.bw:Int)=P.getD j 0/\cF ds T/\T.bare ds=(fr t.ns j).fold nW
 wd:q' ds ((vW t.ns i).map (ie P))
def asm(h:hf t){j:Nat}(ak:j<t.ns.length):fr t.ns j=.mk t.ns[j].bare (t.ns[j].aq.map (fr t.ns)):=by
 obtain⟨T,bl,dI,he,-⟩:=h.lt ak;cases T with
 |mk k ks=>
 obtain rfl:k=j:=bl;obtain⟨aa,ab,ai⟩:=dI.inv;rw[he,aT.nq,gy aa];rw[gy aa]at ab;rw[ab,gh];congr 1;exact fT λc ao=>(ND h.xz (ai c ao)).symm
def aeL{ns:List al}(hi:i<ns.length):eM (ns.take (i+1))=eM (ns.take i)++ns[i].aq:=by rw[gH hi,NS];simp[eM]
def JR{ns:List al}{j:Nat}:j∈vW ns i ↔ j<i/\(j:Int) ∉ eM (ns.take i):=by unfold vW;rw[n4,j0];simp
def Dg.step(af:hf t){ds:List al}{P:List Int}(h:Dg t i ds P)(hi:i<t.ns.length)(ak:qd t.ns[i] (t.ns[i].aq.map λk=>ie P k.toNat) ds ds' r) :
  Dg t (i+1) ds' (P.set i r):=by
 have ob:=af.aq i hi;obtain⟨ks,tP,e1⟩:=JI (R:=λ(x:Int) (T:aT)=>T.bw=ie P x.toNat/\cF ds T/\T.bare ds=(fr t.ns x).fold nW) (l:=t.ns[i].aq) λx ad=>by have:=ob x ad;obtain⟨T,aa,ab,ai⟩:=h.jH x.toNat (by omega);refine⟨T,by unfold ie;omega,ab,?_⟩;rw[show((x.toNat:Nat):Int)=x by omega]at ai;exact ai
 have eL:∀ c∈ks,cF ds c:=λc ao=>by obtain⟨q,aM,rfl⟩:=hM ao;exact(e1 q (by omega) aM).2.1
 have zc:(t.ns[i].aq.map λk=>ie P k.toNat)=ks.map aT.bw:=by refine oH (by simp[tP]) λq aM wY=>?_;rw[gg,gg];exact(e1 q (by simpa using aM) (by simpa using wY)).1.symm
 have B5:ks.map (aT.bare ds)=t.ns[i].aq.map λx=>(fr t.ns x).fold nW:=by refine oH (by simp[tP]) λq aM wY=>?_;rw[gg,gg];exact(e1 q (by simpa using wY) (by simpa using aM)).2.2
 have jM:=ak;rw[zc]at jM;obtain⟨⟨m,rfl⟩,T,kv,h0,qf⟩:=jM.lt eL;have hold:∀ j,j≠i->(P.set i r).getD j 0=P.getD j 0:=λj bD=>by rw[bM,bM,iv,bP (λe=>bD e.symm)]
 have eV:(P.set i r).getD i 0=r:=by rw[bM,iv,bT rfl,bT (by have:=h.qS;omega)];rfl
 have fh:∀ x∈t.ns[i].aq,0<=x/\x<i:=ob;have gu:hQ (eM (t.ns.take (i+1))):=by
  have e:eM t.ns=eM (t.ns.take (i+1))++eM (t.ns.drop (i+1)):=by rw[<-NS,pM]
  have:=af.diff;rw[e]at this;exact(rV.1 this).1
 rw[aeL hi]at gu;obtain⟨d1,d2,d3⟩:=rV.1 gu;have asn:(t.ns[i].aq.map Int.toNat).Nodup:=by refine Cj.2 (d2.imp_of_mem ?_);intro a b a6 ag bD e;have:=fh a a6;have:=fh b ag;exact bD (by omega)
 obtain⟨bo,rH⟩:∃ bo,(vW t.ns i).filter (λj=>!decide (j∈t.ns[i].aq.map Int.toNat))=bo:=⟨_,rfl⟩;have z':(vW t.ns i).Nodup:=BJ.sublist zT;have aso:(vW t.ns (i+1)).Nodup:=BJ.sublist zT;have A':∀ j,j∈bo ↔ j∈vW t.ns i/\j ∉ t.ns[i].aq.map Int.toNat:=λj=>by rw[<-rH,n4];simp
 have asp:(vW t.ns i).Perm (t.ns[i].aq.map Int.toNat++bo):=by
  refine(TX z' (uG.2 ⟨asn,by rw[<-rH];exact z'.sublist zT,λa a6 b ag e=>?_⟩)).2 λj=>?_;·subst e;exact((A' a).1 ag).2 a6
  ·rw[cC,A'];constructor
   ·intro ak;by_cases e:j∈t.ns[i].aq.map Int.toNat
    ·exact .inl e
    ·exact .inr ⟨ak,e⟩
   ·rintro(ak | ak)
    ·obtain⟨x,ad,rfl⟩:=c0.1 ak;have:=fh x ad;refine JR.2 ⟨by omega,λhm=>?_⟩;rw[show((x.toNat:Nat):Int)=x by omega]at hm;exact d3 x hm x ad rfl
    ·exact ak.1
 have Si:(vW t.ns (i+1)).Perm (i::bo):=by
  refine(TX aso (mg.2 ⟨λhm=>?_,by rw[<-rH];exact z'.sublist zT⟩)).2 λj=>?_;·have:=(JR.1 ((A' i).1 hm).1).1;omega
  ·rw[eA,A',JR,JR,aeL hi,cC];constructor
   ·rintro⟨aa,ab⟩;by_cases e:j=i
    ·exact .inl e
    ·refine .inr ⟨⟨by omega,λai=>ab (.inl ai)⟩,λai=>ab (.inr ?_)⟩;obtain⟨x,ad,rfl⟩:=c0.1 ai;have:=fh x ad;rw[show((x.toNat:Nat):Int)=x by omega];exact ad
   ·rintro(rfl | ⟨⟨aa,ab⟩,ai⟩)
    ·refine⟨by omega,λaL=>?_⟩;rcases aL with aL | aL
     ·obtain⟨d,ah,ad⟩:=hc.1 aL;obtain⟨q,aM,rfl⟩:=hM ah;rw[fR]at aM;rw[Qh]at ad;have:=af.aq q (by omega) _ ad;omega
     ·have:=fh _ aL;omega
    ·refine⟨by omega,λaL=>?_⟩;rcases aL with aL | aL
     ·exact ab aL
     ·exact ai (c0.2 ⟨(j:Int),aL,by omega⟩)
 have hw:=h.wd.perm ((asp.map (ie P)).trans (by rw[cS,gh]));have iu:Go.V.fits t.ns[i] ((t.ns[i].aq.map λk=>ie P k.toNat).length:Nat)=true:=by rw[bE];exact af.fits i hi
 obtain⟨n7,asq⟩:=hw.join iu ak;refine⟨hi,by rw[rW];exact h.qS,?_,λj ak=>?_,?_⟩
 ·have:m.length<=1:=by
   unfold qd at ak;split at ak
   ·rcases ak with⟨-,-,e⟩ | ⟨-,e⟩ | ⟨-,-,bN,gA,c',e⟩
    ·rw[TY e];simp
    ·have:m=[]:=by simpa using e
     rw[this];simp
    ·rw[TY e];simp
   ·obtain⟨-,bN,gA,c',e⟩:=ak;rw[TY e];simp
  have:=h.len;rw[cm];omega
 ·by_cases e:j=i
  ·subst e;refine⟨T,by rw[eV];exact kv,h0,?_⟩;rw[qf,B5,asm af hi,aS.fold_eq,gh];rfl
  ·obtain⟨S,aa,ab,ai⟩:=h.jH j (by omega);exact⟨S,by rw[hold j e];exact aa,ab.app m,by rw[aT.Dc ds ab];exact ai⟩
 ·refine asq.perm ?_;have aK:(i::bo).map (ie (P.set i r))=r.toNat::bo.map (ie P):=by
   rw[ca];congr 1;·unfold ie;rw[eV]
   ·refine fT λj ak=>?_;have:=(JR.1 ((A' j).1 ak).1).1;unfold ie;rw[hold j (by omega)]
  rw[<-aK];exact(Si.map _).symm
def Dg.start(t:bn):Dg t 0 [] (List.replicate t.ns.length 0):=⟨dj _,zQ,b2 _,λj ak=>absurd ak (ng _),⟨(λd ah=>by cases ah),λj h=>absurd h (ng _),List.Pairwise.nil,(λk ae=>by simp[vW]at ae),by simp[vW]⟩⟩
def cD.asr(I:aJ):cD I (h3.a.map λg=>⟨g,0,none⟩) h3.n h3.c 1 8 (([]:List Int).map (.int .i64 ·)):=⟨rfl,⟨b2 _,dj _⟩,.inl rfl⟩
def ass(af:hf t)(hi:i<t.ns.length):t.ns[i].aq.length<=i:=by
 have ae:=af.aq i hi;have ah:hQ t.ns[i].aq:=by rw[<-gy hi];exact adW af.diff hi
 have aa:(t.ns[i].aq.map Int.toNat).Nodup:=by refine Cj.2 (ah.imp_of_mem ?_);intro a b a6 ag bD e;have:=ae a a6;have:=ae b ag;exact bD (by omega)
 have:=Nu (n:=i) aa λx ad=>by obtain⟨y,aE,rfl⟩:=c0.1 ad;have:=ae y aE;omega
 rwa [bE]at this
def ast(bl:ff I ay)(au:t.ok I)(af:right t=true)(aD:t.n<=1099511627776) :
  Spec Tryz.prog 111 [t.val] I [] λv I' M'=>(∀ b o,I b=some o->I' b=some o)/\M'=[]/\∃ bf:bn,v=.tuple #[bf.val,.bool true]/\bf.ok I'/\k7 bf (bU t).lK:=by
 refine x2 [4] a3 Tryz.func111 rfl rfl rfl ?_;intro B aw;have aX:=jm.1 af;have ho:=au.n;have hy:=au.ba.cap;refine bc.mk [] [] _ (.refl _) (oR bl.c au) ?_;rintro v J N -⟨rfl,a8,rfl⟩;subst J;rw[af];refine a5.mk (λh=>by cases h) (λ_=>?_);refine bZ.mk λp4 Fb yW=>?_;refine bc.mk [] _ _ (.refl _) arM ?_;rintro v J N -⟨rfl,a8,rfl⟩;subst J;refine pE.mk t.n t.n rfl rfl (b2 _) (by show 8*t.n<=_;omega) (by omega) ?_;refine bZ.mk λb6 Lo asu=>?_;have kA:(rowOf [Value.int .i64 0] (t.n*1))=(List.replicate t.ns.length (0:Int)).map (Value.int .i64):=by rw[BX,BI,gP,ho]
 have Uc:∀ x∈(([]:List aF).map (·.num)),False:=λx ad=>by cases ad
 refine dx.uR (ι:=Nat×List Int×aQ×List al×aJ) (λx=>{ bp:=[(1,.ref 1 0),(2,.ref 2 0),(4,.val (ptr p4)),(5,.ref 5 0),(6,.val (.slice (some ⟨b6,0,none⟩) t.n t.n)),(22,.val (.slice t.a t.n t.c)),(23,.val (.int .i64 t.n)),(24,.val (.int .i64 x.1))],cl:=[(1,t.cells),(2,[.slice none 0 0,.int .i64 0]),(5,T4)],cP:=x.2.2.2.2,da:=dL b6 x.2.1::ct.ar ⟨p4,x.2.2.1,x.2.2.2.1⟩ }) (λx=>Dg t x.1 x.2.2.2.1 x.2.1/\ct.ok x.2.2.2.2 ⟨p4,x.2.2.1,x.2.2.2.1⟩/\∀ b o,I b=some o->x.2.2.2.2 b=some o) (λx=>t.n-x.1) ?_ ?_
 ·intro _;refine⟨(0,List.replicate t.ns.length 0,h3,[],I),⟨Dg.start t,⟨k0 9,rfl,(λd ah=>by cases ah)⟩,λ_ _ h=>h⟩,.l6 ?_,kL,.cons rfl (.cons rfl (.cons rfl (.nil)))⟩;rw[kA];rfl
 rintro⟨i,P,os,ds,J⟩⟨bB,bi,a8⟩;simp only at bB bi a8;have AZ:=bB.qS;have ed:=bB.hi;have z9:=bB.len;refine a5.mk (λh=>?_) (λh=>?_)
 ·have a4:(i:Int)<t.n:=c5 h;have fq:i<t.ns.length:=by omega
  obtain⟨lz,nN,jw⟩:=(au.ba.mono a8).row al.cH (j:=i) (by omega) fq;have ah:=(au.ns _ (bJ fq)).mono a8;have hZ:=aX.aq i fq;have jF:=ass aX fq;have iS:=λds' r=>bB.step aX fq (ds':=ds') (r:=r);generalize fk:t.ns[i]=d at ah jw hZ jF iS;have fh:=ah.az;have p0:=ah.ba.cap;refine bA.mk lz i nN rfl (by omega) ?_;refine aV.mk _ (jw _) ?_;refine dx.uR (ι:=Nat×aQ×List Int×aJ×List aF) (λy=>{ bp:=[(1,.ref 1 0),(2,.ref 2 0),(4,.val (ptr p4)),(5,.ref 5 0),(6,.val (.slice (some ⟨b6,0,none⟩) t.n t.n)),(7,.val (.int .i64 i)),(8,.ref 8 0),(9,.val y.2.1.val),(22,.val (.slice t.a t.n t.c)),(23,.val (.int .i64 t.n)),(24,.val (.int .i64 i)),(30,.val (.slice d.cf d.az d.cx)),(31,.val (.int .i64 d.az)),(32,.val (.int .i64 y.1))],cl:=[(1,t.cells),(2,[.slice none 0 0,.int .i64 0]),(5,T4),(8,d.cells)],cP:=y.2.2.2.1,da:=y.2.2.2.2++(dL b6 P::ct.ar ⟨p4,os,ds⟩) }) (λy=>aeA d P (y.1,y.2.1,y.2.2.1)/\((y.1<d.az/\y.2.2.2.1=J/\y.2.2.2.2=y.2.1.ar 3)\/(y.1=d.az/\(∀ b o,J b=some o->y.2.2.2.1 b=some o)/\y.2.2.2.2=[]/\cD y.2.2.2.1 (y.2.1.a.map λg=>⟨g,0,none⟩) y.2.1.n y.2.1.c 1 8 (y.2.2.1.map (.int .i64 ·))))) (λy=>d.az-y.1) ?_ ?_
  ·intro _;refine⟨(0,h3,[],J,[]),⟨⟨dj _,k0 1,by simp⟩,?_⟩,.refl,GP,.cons rfl (.cons rfl (.cons rfl (.cons rfl (.nil))))⟩;by_cases di:0<d.az
   ·exact .inl ⟨di,rfl,rfl⟩
   ·exact .inr ⟨by simp only;omega,λ_ _ h=>h,rfl,cD.asr _⟩
  rintro⟨k,eh,fz,ix,aeM⟩⟨⟨hR,iF,cW⟩,Ug⟩;simp only at hR iF cW Ug;have asf:=iF.pY;have Ez:fz.length=k:=by rw[cW,bE,fR];omega
  refine a5.mk (λab=>?_) (λab=>?_)
  ·have NR:k<d.az:=by have:(k:Int)<(d.az:Int):=c5 ab;omega
   obtain⟨rfl,rfl⟩:ix=J/\aeM=eh.ar 3:=by
    rcases Ug with⟨-,aa,ai⟩ | ⟨aa,-⟩;·exact⟨aa,ai⟩
    ·omega
   have jc:k<d.aq.length:=by omega
   have aj:=hZ _ (bJ jc);have vS:d.aq[k].toNat<P.length:=by omega
   have C8:P.getD d.aq[k].toNat 0=P[d.aq[k].toNat]:=by simp[bM,vS]
   have De:cD ix d.cf d.az d.cx 1 8 (d.aq.flatMap iH):=by rw[oo];exact ah.ba
   obtain⟨gv,fm,fe⟩:=De.row (f:=iH) (λ_=>rfl) (j:=k) (by omega) jc;refine bA.mk gv k fm rfl (show k<d.az by omega) ?_;refine aV.mk _ (fe _) ?_;refine bA.mk ⟨b6,0,none⟩ d.aq[k].toNat rfl (by omega) (by omega) ?_;refine aV.mk _ (Hk (by simp) vS) ?_;refine bZ.mk λtd Df asg=>?_;refine bF.l7 a3 rfl (by simp) (e:=3) rfl rfl rfl eh iF rfl (cs:=[.int .i64 P[d.aq[k].toNat]]) rfl rfl rfl [] (dL b6 P::ct.ar ⟨p4,os,ds⟩) rfl (by omega) (by show(eh.n+1)*8<=_;omega) ?_;intro o3 aeH ash Ud;refine be.mk _ (dc (i:=k) (by omega)) ?_;have Uh:o3.ok 1 ((fz++[P[d.aq[k].toNat]]).map (.int .i64 ·)):=by rw[cS];exact Ud
   have aeN:fz++[P[d.aq[k].toNat]]=(d.aq.take (k+1)).map (λk=>P.getD k.toNat 0):=by rw[cW,gH jc,cS,s',C8]
   intro eS;by_cases di:k+1<d.az;·exact⟨(k+1,o3,fz++[P[d.aq[k].toNat]],ix,o3.ar 3),⟨⟨⟨NR,Uh,aeN⟩,.inl ⟨di,rfl,rfl⟩⟩,by simp only;omega⟩,.refl,GP,.cons rfl (.cons rfl (.cons rfl (.cons rfl (.nil))))⟩
   ·have ax:=mj.F0 (os:=o3) (e:=3) (foot:=[]) eS (.refl _) (λx ad=>by cases ad);obtain⟨mJ,hw,bk,dr,-⟩:=aQ.Ae (b:=8) (e:=3) Uh (by rw[aeH];omega) ax (dL b6 P::ct.ar ⟨p4,os,ds⟩);exact⟨(k+1,o3,fz++[P[d.aq[k].toNat]],mJ,[]),⟨⟨⟨NR,Uh,aeN⟩,.inr ⟨by simp only;omega,bk,rfl,dr⟩⟩,by simp only;omega⟩,hw _ _ .refl,GP,.cons rfl (.cons rfl (.cons rfl (.cons rfl (.nil))))⟩
  have c8:k=d.az:=by have:¬ (k:Int)<(d.az:Int):=dP ab;omega
  obtain⟨hr,rfl,dr⟩:(∀ b o,J b=some o->ix b=some o)/\aeM=[]/\cD ix (eh.a.map λg=>⟨g,0,none⟩) eh.n eh.c 1 8 (fz.map (.int .i64 ·)):=by
   rcases Ug with⟨aa,-⟩ | ⟨-,aa,ai,aL⟩;·omega
   ·exact⟨aa,ai,aL⟩
  subst c8;rw[fS (by omega)]at cW;have lW:∀ x∈d.aq.map (λk=>ie P k.toNat),x<ds.length:=λx ad=>by obtain⟨y,aE,rfl⟩:=c0.1 ad;have:=hZ y aE;obtain⟨T,aa,ab,-⟩:=bB.jH y.toNat (by omega);have:=ab.np;unfold ie;omega
  have NK:fz=(d.aq.map (λk=>ie P k.toNat)).map Int.ofNat:=by rw[cW,gh];refine fT λy aE=>?_;have:=hZ y aE;obtain⟨T,aa,ab,-⟩:=bB.jH y.toNat (by omega);show P.getD y.toNat 0=((ie P y.toNat:Nat):Int);unfold ie;omega
  rw[NK]at dr;have NQ:=bi.mono hr;have ur:=ah.mono hr;have m9:=λj ak ae=>arN (A:=⟨p4,os,ds⟩) NQ (by simp only;omega) ur lW (by rw[bE];omega) dr j ak ae;clear cW NK;obtain⟨dN,cz,s1,s2,cV,g2,ayo,ayp,tZ,t',ua,ub⟩:=d;have Ex:dN=0\/dN=1\/dN=2\/dN=3\/dN=4\/dN=5\/dN=6\/dN=7\/dN=8\/dN=9:=by have aa:=QH (aX.fits i fq);rw[fk]at aa;have ab:=ah.k;simp only at aa ab;omega
  rcases Ex with rfl | rfl | rfl | rfl | rfl | rfl | rfl | rfl | rfl | rfl
  ·refine c2.draw a3 rfl rfl rfl ?_;refine cA.mk 0 rfl (by decide) ?_;refine eH.uV rfl (ct.ar ⟨p4,os,ds⟩) [dL b6 P] _ ?_ (m9 0 (by decide) rfl) ?_
   ·exact(eT (l₁:=[dL b6 P]))
   rintro v cE dy cI⟨-,bu,ds',r,rfl,kE,rfl,nn⟩;refine bA.mk ⟨b6,0,none⟩ i rfl rfl (by omega) ?_;refine cd.iP (ct.ar ⟨p4,bu,ds'⟩) [] (P.map (Value.int .i64)) 3 rfl (by rw[nO,bE];show 0+i*1+1<=_;omega) rfl ((P.set i r).map (Value.int .i64)) (by rw[dp,gP];exact oT P i (by omega) r) ?_;refine be.mk _ (dc (i:=i) (by omega)) ?_;intro _;exact⟨(i+1,P.set i r,bu,ds',cE),⟨⟨iS _ _ nn,kE,λb o h=>cI _ _ (hr _ _ (a8 _ _ h))⟩,by simp only;omega⟩,.perm (eT (l₁:=ct.ar ⟨p4,bu,ds'⟩)) .refl,kL,.cons rfl (.cons rfl (.cons rfl (.nil)))⟩
  ·refine c2.draw a3 rfl rfl rfl ?_;refine cA.mk 1 rfl (by decide) ?_;refine eH.uV rfl (ct.ar ⟨p4,os,ds⟩) [dL b6 P] _ ?_ (m9 1 (by decide) rfl) ?_
   ·exact(eT (l₁:=[dL b6 P]))
   rintro v cE dy cI⟨-,bu,ds',r,rfl,kE,rfl,nn⟩;refine bA.mk ⟨b6,0,none⟩ i rfl rfl (by omega) ?_;refine cd.iP (ct.ar ⟨p4,bu,ds'⟩) [] (P.map (Value.int .i64)) 3 rfl (by rw[nO,bE];show 0+i*1+1<=_;omega) rfl ((P.set i r).map (Value.int .i64)) (by rw[dp,gP];exact oT P i (by omega) r) ?_;refine be.mk _ (dc (i:=i) (by omega)) ?_;intro _;exact⟨(i+1,P.set i r,bu,ds',cE),⟨⟨iS _ _ nn,kE,λb o h=>cI _ _ (hr _ _ (a8 _ _ h))⟩,by simp only;omega⟩,.perm (eT (l₁:=ct.ar ⟨p4,bu,ds'⟩)) .refl,kL,.cons rfl (.cons rfl (.cons rfl (.nil)))⟩
  ·refine c2.draw a3 rfl rfl rfl ?_;refine cA.mk 2 rfl (by decide) ?_;refine eH.uV rfl (ct.ar ⟨p4,os,ds⟩) [dL b6 P] _ ?_ (m9 2 (by decide) rfl) ?_
   ·exact(eT (l₁:=[dL b6 P]))
   rintro v cE dy cI⟨-,bu,ds',r,rfl,kE,rfl,nn⟩;refine bA.mk ⟨b6,0,none⟩ i rfl rfl (by omega) ?_;refine cd.iP (ct.ar ⟨p4,bu,ds'⟩) [] (P.map (Value.int .i64)) 3 rfl (by rw[nO,bE];show 0+i*1+1<=_;omega) rfl ((P.set i r).map (Value.int .i64)) (by rw[dp,gP];exact oT P i (by omega) r) ?_;refine be.mk _ (dc (i:=i) (by omega)) ?_;intro _;exact⟨(i+1,P.set i r,bu,ds',cE),⟨⟨iS _ _ nn,kE,λb o h=>cI _ _ (hr _ _ (a8 _ _ h))⟩,by simp only;omega⟩,.perm (eT (l₁:=ct.ar ⟨p4,bu,ds'⟩)) .refl,kL,.cons rfl (.cons rfl (.cons rfl (.nil)))⟩
  ·refine c2.draw a3 rfl rfl rfl ?_;refine cA.mk 3 rfl (by decide) ?_;refine eH.uV rfl (ct.ar ⟨p4,os,ds⟩) [dL b6 P] _ ?_ (m9 3 (by decide) rfl) ?_
   ·exact(eT (l₁:=[dL b6 P]))
   rintro v cE dy cI⟨-,bu,ds',r,rfl,kE,rfl,nn⟩;refine bA.mk ⟨b6,0,none⟩ i rfl rfl (by omega) ?_;refine cd.iP (ct.ar ⟨p4,bu,ds'⟩) [] (P.map (Value.int .i64)) 3 rfl (by rw[nO,bE];show 0+i*1+1<=_;omega) rfl ((P.set i r).map (Value.int .i64)) (by rw[dp,gP];exact oT P i (by omega) r) ?_;refine be.mk _ (dc (i:=i) (by omega)) ?_;intro _;exact⟨(i+1,P.set i r,bu,ds',cE),⟨⟨iS _ _ nn,kE,λb o h=>cI _ _ (hr _ _ (a8 _ _ h))⟩,by simp only;omega⟩,.perm (eT (l₁:=ct.ar ⟨p4,bu,ds'⟩)) .refl,kL,.cons rfl (.cons rfl (.cons rfl (.nil)))⟩
  ·refine c2.draw a3 rfl rfl rfl ?_;refine cA.mk 4 rfl (by decide) ?_;refine eH.uV rfl (ct.ar ⟨p4,os,ds⟩) [dL b6 P] _ ?_ (m9 4 (by decide) rfl) ?_
   ·exact(eT (l₁:=[dL b6 P]))
   rintro v cE dy cI⟨-,bu,ds',r,rfl,kE,rfl,nn⟩;refine bA.mk ⟨b6,0,none⟩ i rfl rfl (by omega) ?_;refine cd.iP (ct.ar ⟨p4,bu,ds'⟩) [] (P.map (Value.int .i64)) 3 rfl (by rw[nO,bE];show 0+i*1+1<=_;omega) rfl ((P.set i r).map (Value.int .i64)) (by rw[dp,gP];exact oT P i (by omega) r) ?_;refine be.mk _ (dc (i:=i) (by omega)) ?_;intro _;exact⟨(i+1,P.set i r,bu,ds',cE),⟨⟨iS _ _ nn,kE,λb o h=>cI _ _ (hr _ _ (a8 _ _ h))⟩,by simp only;omega⟩,.perm (eT (l₁:=ct.ar ⟨p4,bu,ds'⟩)) .refl,kL,.cons rfl (.cons rfl (.cons rfl (.nil)))⟩
  ·refine c2.draw a3 rfl rfl rfl ?_;refine cA.mk 5 rfl (by decide) ?_;refine eH.uV rfl (ct.ar ⟨p4,os,ds⟩) [dL b6 P] _ ?_ (m9 5 (by decide) rfl) ?_
   ·exact(eT (l₁:=[dL b6 P]))
   rintro v cE dy cI⟨-,bu,ds',r,rfl,kE,rfl,nn⟩;refine bA.mk ⟨b6,0,none⟩ i rfl rfl (by omega) ?_;refine cd.iP (ct.ar ⟨p4,bu,ds'⟩) [] (P.map (Value.int .i64)) 3 rfl (by rw[nO,bE];show 0+i*1+1<=_;omega) rfl ((P.set i r).map (Value.int .i64)) (by rw[dp,gP];exact oT P i (by omega) r) ?_;refine be.mk _ (dc (i:=i) (by omega)) ?_;intro _;exact⟨(i+1,P.set i r,bu,ds',cE),⟨⟨iS _ _ nn,kE,λb o h=>cI _ _ (hr _ _ (a8 _ _ h))⟩,by simp only;omega⟩,.perm (eT (l₁:=ct.ar ⟨p4,bu,ds'⟩)) .refl,kL,.cons rfl (.cons rfl (.cons rfl (.nil)))⟩
  ·refine c2.draw a3 rfl rfl rfl ?_;refine cA.mk 6 rfl (by decide) ?_;refine eH.uV rfl (ct.ar ⟨p4,os,ds⟩) [dL b6 P] _ ?_ (m9 6 (by decide) rfl) ?_
   ·exact(eT (l₁:=[dL b6 P]))
   rintro v cE dy cI⟨-,bu,ds',r,rfl,kE,rfl,nn⟩;refine bA.mk ⟨b6,0,none⟩ i rfl rfl (by omega) ?_;refine cd.iP (ct.ar ⟨p4,bu,ds'⟩) [] (P.map (Value.int .i64)) 3 rfl (by rw[nO,bE];show 0+i*1+1<=_;omega) rfl ((P.set i r).map (Value.int .i64)) (by rw[dp,gP];exact oT P i (by omega) r) ?_;refine be.mk _ (dc (i:=i) (by omega)) ?_;intro _;exact⟨(i+1,P.set i r,bu,ds',cE),⟨⟨iS _ _ nn,kE,λb o h=>cI _ _ (hr _ _ (a8 _ _ h))⟩,by simp only;omega⟩,.perm (eT (l₁:=ct.ar ⟨p4,bu,ds'⟩)) .refl,kL,.cons rfl (.cons rfl (.cons rfl (.nil)))⟩
  ·refine c2.draw a3 rfl rfl rfl ?_;refine cA.mk 7 rfl (by decide) ?_;refine eH.uV rfl (ct.ar ⟨p4,os,ds⟩) [dL b6 P] _ ?_ (m9 7 (by decide) rfl) ?_
   ·exact(eT (l₁:=[dL b6 P]))
   rintro v cE dy cI⟨-,bu,ds',r,rfl,kE,rfl,nn⟩;refine bA.mk ⟨b6,0,none⟩ i rfl rfl (by omega) ?_;refine cd.iP (ct.ar ⟨p4,bu,ds'⟩) [] (P.map (Value.int .i64)) 3 rfl (by rw[nO,bE];show 0+i*1+1<=_;omega) rfl ((P.set i r).map (Value.int .i64)) (by rw[dp,gP];exact oT P i (by omega) r) ?_;refine be.mk _ (dc (i:=i) (by omega)) ?_;intro _;exact⟨(i+1,P.set i r,bu,ds',cE),⟨⟨iS _ _ nn,kE,λb o h=>cI _ _ (hr _ _ (a8 _ _ h))⟩,by simp only;omega⟩,.perm (eT (l₁:=ct.ar ⟨p4,bu,ds'⟩)) .refl,kL,.cons rfl (.cons rfl (.cons rfl (.nil)))⟩
  ·refine c2.draw a3 rfl rfl rfl ?_;refine cA.mk 8 rfl (by decide) ?_;refine eH.uV rfl (ct.ar ⟨p4,os,ds⟩) [dL b6 P] _ ?_ (m9 8 (by decide) rfl) ?_
   ·exact(eT (l₁:=[dL b6 P]))
   rintro v cE dy cI⟨-,bu,ds',r,rfl,kE,rfl,nn⟩;refine bA.mk ⟨b6,0,none⟩ i rfl rfl (by omega) ?_;refine cd.iP (ct.ar ⟨p4,bu,ds'⟩) [] (P.map (Value.int .i64)) 3 rfl (by rw[nO,bE];show 0+i*1+1<=_;omega) rfl ((P.set i r).map (Value.int .i64)) (by rw[dp,gP];exact oT P i (by omega) r) ?_;refine be.mk _ (dc (i:=i) (by omega)) ?_;intro _;exact⟨(i+1,P.set i r,bu,ds',cE),⟨⟨iS _ _ nn,kE,λb o h=>cI _ _ (hr _ _ (a8 _ _ h))⟩,by simp only;omega⟩,.perm (eT (l₁:=ct.ar ⟨p4,bu,ds'⟩)) .refl,kL,.cons rfl (.cons rfl (.cons rfl (.nil)))⟩
  ·refine c2.draw a3 rfl rfl rfl ?_;refine cA.mk 9 rfl (by decide) ?_;refine eH.uV rfl (ct.ar ⟨p4,os,ds⟩) [dL b6 P] _ ?_ (m9 9 (by decide) rfl) ?_
   ·exact(eT (l₁:=[dL b6 P]))
   rintro v cE dy cI⟨-,bu,ds',r,rfl,kE,rfl,nn⟩;refine bA.mk ⟨b6,0,none⟩ i rfl rfl (by omega) ?_;refine cd.iP (ct.ar ⟨p4,bu,ds'⟩) [] (P.map (Value.int .i64)) 3 rfl (by rw[nO,bE];show 0+i*1+1<=_;omega) rfl ((P.set i r).map (Value.int .i64)) (by rw[dp,gP];exact oT P i (by omega) r) ?_;refine be.mk _ (dc (i:=i) (by omega)) ?_;intro _;exact⟨(i+1,P.set i r,bu,ds',cE),⟨⟨iS _ _ nn,kE,λb o h=>cI _ _ (hr _ _ (a8 _ _ h))⟩,by simp only;omega⟩,.perm (eT (l₁:=ct.ar ⟨p4,bu,ds'⟩)) .refl,kL,.cons rfl (.cons rfl (.cons rfl (.nil)))⟩
 ·have c8:i=t.ns.length:=by have:¬ (i:Int)<(t.n:Int):=dP h;omega
  subst c8;obtain⟨gG,hd⟩:=aX.br;obtain⟨r,en⟩:=eF gG;have eJ:r<t.ns.length:=by omega
  obtain⟨T,kv,h0,qf⟩:=bB.jH r eJ;have asv:P[r]'(by omega)=(T.bw:Int):=by rw[kv,bM,dt (by omega)];rfl
  refine bA.mk ⟨b6,0,none⟩ r rfl en (by omega) ?_;refine aV.mk _ (Hl (by omega) asv (.head _)) ?_;have m1:=ar9 bi (by simp only;omega) bB.wd.aq bB.wd.diff h0;refine bc.mk (ct.ar ⟨p4,os,ds⟩) [dL b6 P] _ (eT (l₁:=[dL b6 P])) m1 ?_;rintro v cE dy -⟨cI,rfl,bf,rfl,jI,dm⟩;intro _;refine⟨_,_,.sub (fC _) .refl,λb o h=>cI _ _ (a8 _ _ h),rfl,bf,rfl,jI,?_⟩;rw[show(bU t).lK=(T.bare ds).bx from by rw[qf];unfold aS.lK bU;rw[en]];exact dm
section
variable{α:Type}{z:α}{F:al->List α->α}
def ra(z:α)(F:al->List α->α)(ds:List al)(k:Nat):α:=(fH z (λd g=>F d (d.aq.map g)) ds []).getD k z
def NT{f:al->(Int->α)->α}:∀ (ds:List al) (aZ:List α),(fH z f ds aZ).length=aZ.length+ds.length
 |[],aZ=>by simp[fH]
 |d::ds,aZ=>by rw[fH,NT ds];simp;omega
def asw(ds:List al)(x:al)(ae:k<ds.length):ra z F (ds++[x]) k=ra z F ds k:=by unfold ra;rw[JD,fH,fH,bM,bM,qu (by rw[NT];simpa using ae)]
def asx(ds:List al)(x:al):ra z F (ds++[x]) ds.length=F x (x.aq.map λk=>ra z F ds k.toNat):=by unfold ra;rw[JD,fH,fH,bM,lx (by rw[NT];simp),NT];simp
end
def aeO{d:al}(h:d.k=0)(aB:Go.V.fits d n=true):n=0:=by unfold Go.V.fits at aB;rw[h]at aB;simp[oQ,nF]at aB;have aa:jy[0]?.getD 0=0:=rfl;have ab:jy[1]?.getD 0=0:=rfl;rw[aa,ab]at aB;omega
def qd.aY{z:α}{F:al->List α->α}(bs:C9 F){ds:List al}{F1 l bo:List Nat}(hw:q' ds (l++bo)){d:al}(h:qd d l ds ds' r) :
  ra z F ds' r.toNat=F d (l.map (ra z F ds))/\∀ k,k<ds.length->ra z F ds' k=ra z F ds k:=by
 have asy:ds'=ds\/∃ x,ds'=ds++[x]:=by
  unfold qd at h;split at h
  ·rcases h with⟨-,-,h⟩ | ⟨-,h⟩ | ⟨-,-,bN,gA,c',h⟩
   ·exact .inr ⟨_,h⟩
   ·exact .inl h
   ·exact .inr ⟨_,h⟩
  ·obtain⟨-,bN,gA,c',h⟩:=h;exact .inr ⟨_,h⟩
 have hold:∀ k,k<ds.length->ra z F ds' k=ra z F ds k:=λk ae=>by
  rcases asy with rfl | ⟨x,rfl⟩;·rfl
  ·exact asw ds x ae
 refine⟨h.val bs (ra z F ds) (ra z F ds') (λk ae aw=>?_) (λk ae=>hold k (hw.gF k (im _ ae)).1) (λx ad=>by rw[ad,asx]),hold⟩;have cW:=(hw.gF k (im _ ae)).1;have e:ds.getD k mM=ds[k]:=by simp[bM,cW]
 rw[e]at aw |-;have aa:=aeO aw (hw.fits _ (bJ cW));have ab:ds[k].aq=[]:=iD aa;have ai:=La (z:=z) (f:=λd g=>F d (d.aq.map g)) ds [] k cW;simp only[g3,dp]at ai;unfold ra;rw[bM,ai,ab];rfl
def NU{M0:List aF}(bl:ff I ay)(au:t.ok I)(af:right t=true)(aD:t.n<=1099511627776) :
  Spec Tryz.prog 111 [t.val] I M0 λv I' M'=>(∀ b o,I b=some o->I' b=some o)/\M'=M0/\∃ bf:bn,v=.tuple #[bf.val,.bool true]/\bf.ok I'/\k7 bf (bU t).lK:=by
 refine(Spec.frame (ast bl au af aD)).NG ?_;rintro v I' M'⟨M1,rfl,-,-,aa,rfl,ab⟩;exact⟨aa,rfl,ab⟩
def Ui{d:al}(h:d.k=4\/d.k=5)(aB:Go.V.fits d n=true):2<=n:=by
 unfold Go.V.fits at aB;rcases h with e | e<;>rw[e]at aB<;>simp[oQ,nF]at aB<;>have:=aB.1.1<;>simp[jy]at this<;>omega
def aeP{d:al}(h:d.k=4\/d.k=5):eY (.mk (nothing (d.k-4)).bare []):=by
 refine .mk ?_ λc ao=>by cases ao
 rcases h with e | e
 ·rw[show d.k-4=0 by omega];rfl
 ·rw[show d.k-4=1 by omega];rfl
def asz{d:al}{xs:List aS}(aB:Go.V.fits d xs.length=true)(ad:∀ x∈xs,eY x):eY (JP d xs):=by
 unfold JP;split
 ·rename_i gi;have ab:=Ui gi aB;have av:∀ y∈xs.filter (kh d),eY y:=λy aE=>ad y (n4.1 aE).1;generalize xs.filter (kh d)=bp at av
  match bp,av with
  |[],_=>exact aeP gi| [y],av=>exact av y (.head _)| JS::JT::l,av=>exact .mk (Uf gi (n:=(xs.length:Nat)) (by omega) (by simp;omega) aB) av
 ·exact .mk aB ad
def aeQ:∀ {T:aS},eY T->eY (T.fold nW):=by
 intro T
 induction T using aS.ind with
 |h d ks aN=>intro h;rw[aS.fold_eq];refine asz (by rw[bE];exact h.inv.1) λx ad=>?_;obtain⟨c,ao,rfl⟩:=c0.1 ad;exact aN c ao (h.inv.2 c ao)
def Uj(cj:Option Int):Prop:=cj=none\/cj=some 4\/cj=some 5
def aeR(d:al):Uj (iI d):=by
 unfold iI Uj;split
 ·rename_i h;rcases h with e | e<;>rw[e]<;>simp
 ·exact .inl rfl
def Uk{α β:Type}{f:α->β}:∀ l:List α,l.map f=l.flatMap λc=>[f c]
 |[]=>rfl| a::l=>by rw[ca,Uk l];rfl
def Ul{α β:Type}{f:α->List β}:∀ {l:List α},(∀ x∈l,1<=(f x).length)->l.length<=(l.flatMap f).length
 |[],_=>b2 _| a::l,h=>by have:=Ul (l:=l) λx ad=>h x (.tail _ ad);have:=h a (.head _);rw[jf,cm,eo];omega
def asA:∀ {T:aS},eY T->(∀ cj,Uj cj->1<=(T.ga cj).length/\∀ U∈T.ga cj,eY U)/\eY T.bx:=by
 intro T
 induction T using aS.ind with
 |h d ks aN=>
  intro h;obtain⟨aB,ae⟩:=h.inv;have pu:eY (aS.mk d ks).bx:=by
   show eY (.mk d (ks.flatMap (aS.ga (iI d))));have aa:=Ul (f:=aS.ga (iI d)) λc ao=>((aN c ao (ae c ao)).1 _ (aeR d)).1;refine .mk ?_ λU eR=>?_
   ·by_cases gi:d.k=4\/d.k=5
    ·have:=Ui gi aB;exact Uf gi (n:=(ks.length:Nat)) (by omega) (by omega) aB
    ·have e:iI d=none:=bP gi;have a7:ks.flatMap (aS.ga (iI d))=ks.map aS.bx:=by
      rw[e];rw[Uk];refine r0 λc _=>?_;cases c with
      |mk d' JJ=>rw[aS.q8,bP (by simp)]
     rw[a7,bE];exact aB
   ·obtain⟨c,ao,eR⟩:=hc.1 eR;exact((aN c ao (ae c ao)).1 _ (aeR d)).2 U eR
  refine⟨λcj jQ=>?_,pu⟩;rw[aS.q8];split
  ·rename_i e;have gi:d.k=4\/d.k=5:=by
    rcases jQ with h | h | h<;>rw[h]at e
    ·cases e
    ·exact .inl (e2 e)
    ·exact .inr (e2 e)
   have ab:=Ui gi aB;have aa:=Ul (f:=aS.ga cj) λc ao=>((aN c ao (ae c ao)).1 _ jQ).1;refine⟨by omega,λU eR=>?_⟩;obtain⟨c,ao,eR⟩:=hc.1 eR;exact((aN c ao (ae c ao)).1 _ jQ).2 U eR
  ·refine⟨b2 _,λU eR=>?_⟩;rw[eC.1 eR];exact pu
def Dh{T:aS}(h:eY T):eY T.lK:=(asA (aeQ h)).2
def asB{d:al}{xs:List aS}(ad:∀ x∈xs,jr x)(ah:d.bare=d):jr (JP d xs):=by
 unfold JP;split
 ·have av:∀ y∈xs.filter (kh d),jr y:=λy aE=>ad y (n4.1 aE).1;generalize xs.filter (kh d)=bp at av
  match bp,av with
  |[],_=>exact .mk rfl λc ao=>by cases ao
  |[y],av=>exact av y (.head _)| JS::JT::l,av=>exact .mk ah av
 ·exact .mk ah ad
def asC:∀ (T:aS),jr (T.fold nW):=by
 intro T
 induction T using aS.ind with
 |h d ks aN=>rw[aS.fold_eq];refine asB (λx ad=>?_) rfl;obtain⟨c,ao,rfl⟩:=c0.1 ad;exact aN c ao
def asD:∀ {T:aS},jr T->(∀ cj,∀ U∈T.ga cj,jr U)/\jr T.bx:=by
 intro T
 induction T using aS.ind with
 |h d ks aN=>
  intro h;obtain⟨aB,ae⟩:=h.inv;have pu:jr (aS.mk d ks).bx:=by show jr (.mk d (ks.flatMap (aS.ga (iI d))));refine .mk aB λU eR=>?_;obtain⟨c,ao,eR⟩:=hc.1 eR;exact(aN c ao (ae c ao)).1 _ U eR
  refine⟨λcj U eR=>?_,pu⟩;rw[aS.q8]at eR;split at eR;·obtain⟨c,ao,eR⟩:=hc.1 eR;exact(aN c ao (ae c ao)).1 _ U eR
  ·rw[eC.1 eR];exact pu
def JU(T:aS):jr T.lK:=(asD (asC T)).2
section
variable{α:Type}{F:al->List α->α}(bs:C9 F)
include bs
theorem fold_filter{d:al}(xs:List aS)(ad:∀ x∈xs,eY x):∀ ys:List α,F d (ys++xs.map (aS.fold F))=F d (ys++(xs.filter (kh d)).map (aS.fold F)):=by
 induction xs with
 |nil=>intro ys;rfl
 |cons x xs aN=>
  intro ys;have aN:=aN λy aE=>ad y (.tail _ aE);rw[x5,ca];cases h:kh d x with
  |true=>have:=aN (ys++[x.fold F]);simpa using this
  |false=>
   unfold kh at h;have aL:d.k=4:=by
    cases e:decide (d.k=4)with
    |true=>exact c5 e| false=>rw[e]at h;cases h
   have aw:x.d.k=0:=by
    cases e:decide (x.d.k=0)with
    |true=>exact c5 e| false=>rw[e,aL]at h;cases h
   have pf:=ad x (.head _);cases x with
   |mk d' ks=>
   have ae:ks=[]:=iD (aeO aw pf.inv.1);subst ae;rw[aS.fold_eq,hH,bs.drop d d' ys _ aL aw,aN];rfl
theorem asE{d:al}{xs:List aS}(ad:∀ x∈xs,eY x):(nW d xs).fold F=F d (xs.map (aS.fold F)):=by
 have ag:F d.bare=F d:=bs.aq d [];rw[JQ];have h:=fold_filter bs (d:=d) xs ad [];rw[hX,hX]at h;split
 ·rename_i gi;rw[h];generalize xs.filter (kh d)=bp
  match bp with
  |[]=>
   rw[aS.fold_eq];rcases gi with e | e;·rw[show d.k-4=0 by omega];exact(bs.adP d (nothing 0).bare e rfl).symm
   ·rw[show d.k-4=1 by omega];exact(bs.adQ d (nothing 1).bare e rfl rfl rfl rfl rfl).symm
  |[y]=>exact(bs.one d _ gi).symm| JS::JT::l=>rw[aS.fold_eq,ag]
 ·rw[aS.fold_eq,ag]
theorem asF:∀ {T:aS},eY T->(T.fold nW).fold F=T.fold F:=by
 intro T
 induction T using aS.ind with
 |h d ks aN=>
  intro h;obtain⟨aB,ae⟩:=h.inv;rw[aS.fold_eq,asE bs (λx ad=>?_),aS.fold_eq,gh];·congr 1;exact fT λc ao=>aN c ao (ae c ao)
  ·obtain⟨c,ao,rfl⟩:=c0.1 ad;exact aeQ (ae c ao)
theorem asG:∀ (T:aS),(∀ d,d.k=4\/d.k=5->∀ xs fg:List α,F d (xs++((T.ga (some d.k)).map (aS.fold F)++fg))=F d (xs++(T.fold F::fg)))/\T.bx.fold F=T.fold F:=by
 intro T
 induction T using aS.ind with
 |h d ks aN=>
  have flat:∀ (e:al),e.k=4\/e.k=5->∀ (l:List aS),(∀ c∈l,c∈ks)->∀ xs fg:List α,F e (xs++((l.flatMap (aS.ga (some e.k))).map (aS.fold F)++fg))=F e (xs++(l.map (aS.fold F)++fg)):=by
   intro e he l
   induction l with
   |nil=>intro _ xs fg;rfl| cons c l T9=>intro aA xs fg;rw[jf,cS,ec,(aN c (aA c (.head _))).1 e he];have:=T9 (λx ad=>aA x (.tail _ ad)) (xs++[c.fold F]) fg;simpa using this
  have pu:(aS.mk d ks).bx.fold F=(aS.mk d ks).fold F:=by
   show(aS.mk d (ks.flatMap (aS.ga (iI d)))).fold F=_;rw[aS.fold_eq,aS.fold_eq];by_cases gi:d.k=4\/d.k=5;·have e:iI d=some d.k:=bT gi;have:=flat d gi ks (λc ao=>ao) [] [];rw[e];simpa using this
   ·have e:iI d=none:=bP gi;congr 1;rw[e,AT];rw[Uk (f:=aS.fold F)];refine r0 λc ao=>?_;have ab:=(aN c ao).2;cases c with
    |mk d' JJ=>
    rw[aS.q8,bP (by simp),s',ab]
  refine⟨λe he xs fg=>?_,pu⟩;rw[aS.q8];split;·rename_i ae;have ae:d.k=e.k:=e2 ae;rw[flat e he ks (λc ao=>ao),aS.fold_eq];exact(bs.nest e d xs (ks.map (aS.fold F)) fg he ae).symm
  ·rw[s',pu];rfl
theorem Um{T:aS}(h:eY T):T.lK.fold F=T.fold F:=(asG bs _).2.trans (asF bs h)
end
namespace aT
def go:aT->List Int->Option aT
 |T,[]=>some T| T,i::p=>if 0<=i/\i<(T.sub.length:Int)then(T.sub.getD i.toNat T).go p else none
def pw:aT->List Int->List (Nat×Int)
 |_,[]=>[]| T,i::p=>(T.bw,i)::(T.sub.getD i.toNat T).pw p
end aT
namespace aS
def go:aS->List Int->Option aS
 |T,[]=>some T| T,i::p=>if 0<=i/\i<(T.sub.length:Int)then(T.sub.getD i.toNat T).go p else none
def put:aS->List Int->aS->aS
 |_,[],X=>X| T,i::p,X=>.mk T.d (T.sub.set i.toNat ((T.sub.getD i.toNat T).put p X))
end aS
def aeS(ns:List al)(T:aT):(T.bare ns).sub=T.sub.map (aT.bare ns):=by
 cases T with
 |mk k ks=>
 rw[aT.nq];rfl
def getD_map{β:Type}(f:α->β)(l:List α)(i:Nat)(a:α):(l.map f).getD i (f a)=f (l.getD i a):=by rw[bM,bM,ju];cases l[i]?<;>rfl
def bare_go(ns:List al):∀ (p:List Int) (T:aT),(T.bare ns).go p=(T.go p).map (aT.bare ns)
 |[],T=>rfl
 |i::p,T=>by
  rw[aS.go,aT.go,aeS,bE];split;·rw[getD_map,bare_go ns p]
  ·rfl
def cF.getD{ns:List al}(h:cF ns T)(i:Nat):cF ns (T.sub.getD i T):=by
 rw[bM];cases e:T.sub[i]? with
 |none=>exact h| some c=>exact h.A6 c (rv e)
def cF.go{ns:List al}:∀ (p:List Int) {T:aT},cF ns T->∀ {S},T.go p=some S->cF ns S
 |[],T,h,S,e=>by obtain rfl:=e2 e;exact h
 |i::p,T,h,S,e=>by
  rw[aT.go]at e;split at e;·exact cF.go p (h.getD _) e
  ·cases e
structure mc(ds:List al)(F1:List Nat):Prop where
 wd:q' ds F1
 all:∀ j,j<ds.length->(j:Int)∈eM ds\/j∈F1
def mc.perm{ds:List al}{a b:List Nat}(h:mc ds a)(aH:a.Perm b):mc ds b:=⟨h.wd.perm aH,λj ak=>(h.all j ak).imp id λh=>aH.mem_iff.1 h⟩
def mc.add{ds:List al}(h:mc ds (l++bo)){x:al}(ad:Go.V.fits x l.length=true)(ae:x.aq=l.map Int.ofNat):mc (ds++[x]) (ds.length::bo):=by
 refine⟨h.wd.add (by rw[ae,bE];exact ad) (by rw[ae];exact .refl _),λj ak=>?_⟩;have fm:eM (ds++[x])=eM ds++l.map Int.ofNat:=by rw[NS,<-ae];simp[eM]
 rw[cm,o5]at ak;rw[fm,cC];by_cases e:j=ds.length
 ·exact .inr (by rw[e];exact .head _)
 ·rcases h.all j (by omega)with aa | aa
  ·exact .inl (.inl aa)
  ·rcases cC.1 aa with aa | aa
   ·exact .inl (.inr (c0.2 ⟨j,aa,rfl⟩))
   ·exact .inr (.tail _ aa)
def mc.nil:mc [] []:=⟨⟨(λd ah=>by cases ah),λj h=>absurd h (ng _),List.Pairwise.nil,(λk ae=>by cases ae),.nil⟩,λj h=>absurd h (ng _)⟩
def mc.right{ds:List al}{r:Nat}(h:mc ds [r])(aD:t.ns=ds)(af:t.br=(r:Int)):hf t:=by
 subst aD;obtain⟨aa,ab⟩:=h.wd.gF r (.head _);refine⟨by rw[af];omega,λj ak=>h.wd.fits _ (bJ ak),h.wd.aq,h.wd.diff,λj ak=>?_⟩;rw[af];constructor
 ·intro hm e;obtain rfl:j=r:=by omega
  exact ab hm
 ·intro bD;rcases h.all j ak with ai | ai
  ·exact ai
  ·exact absurd (by rw[eC.1 ai]) bD
def fc(q:List aT)(i:Nat):Nat:=1+((q.take i).flatMap aT.sub).length
structure vX(S:aT)(q:List aT)(i:Nat):Prop where
 hi:i<=q.length
 eq:q=S::(q.take i).flatMap aT.sub
 lt:∀ j,j<i->j<fc q j
 pm:S.cZ.Perm ((q.take i).map aT.bw++(q.drop i).flatMap aT.cZ)
def vX.start(S:aT):vX S [S] 0:=⟨dj _,rfl,(λj h=>absurd h (ng _)),by simp⟩
def vX.len(h:vX S q i):i+hD (q.drop i)=S.cZ.length/\q.length<=S.cZ.length:=by have aa:=h.pm.length_eq;have ab:=h.hi;have ai:=A8 (q.drop i);rw[cm,bE,fR,yp]at aa;rw[qw]at ai;unfold hD at ai |-;omega
def vX.step(h:vX S q i)(hi:i<q.length):vX S (q++q[i].sub) (i+1):=by
 have m1:(q++q[i].sub).take (i+1)=q.take i++[q[i]]:=by rw[BG (by omega),gH hi]
 have Jr:∀ j,j<=i->fc (q++q[i].sub) j=fc q j:=λj ak=>by unfold fc;rw[BG (by omega)]
 refine⟨by rw[cm];omega,?_,λj ak=>?_,?_⟩
 ·rw[m1,fX,o0]
  conv=>lhs;lhs;rw[h.eq]
  rfl
 ·rw[Jr j (by omega)];by_cases e:j=i
  ·subst e;have:=congrArg List.length h.eq;rw[eo]at this;unfold fc;omega
  ·exact h.lt j (by omega)
 ·rw[m1];refine h.pm.trans ?_;have aK:q.drop i=q[i]::q.drop (i+1):=fi hi;have a7:(q++q[i].sub).drop (i+1)=q.drop (i+1)++q[i].sub:=by rw[Q9 (by omega)]
  have ck:q[i].cZ=q[i].sub.flatMap aT.cZ++[q[i].bw]:=by
   cases q[i]with
   |mk k ks=>exact aT.mK k ks
  rw[aK,a7,jf,ck,cS,fX,s',ec,ec];refine T0 _ ?_;have aa:=eT (l₁:=q[i].sub.flatMap aT.cZ) (l₂:=[q[i].bw]++(q.drop (i+1)).flatMap aT.cZ);simpa using aa
def vX.done(h:vX S q q.length):q=S::q.flatMap aT.sub/\(∀ j,j<q.length->j<fc q j)/\q.length=S.cZ.length:=by
 obtain⟨aa,ab⟩:=h.len;refine⟨?_,h.lt,?_⟩
 ·have:=h.eq;rwa [DS]at this
 ·rw[List.drop_length]at aa;simpa[hD]using aa
def aeT(hi:i<q.length):fc q (i+1)=fc q i+q[i].sub.length:=by unfold fc;rw[gH hi,fX,cm,o0];omega
def aeU(h:q=S::q.flatMap aT.sub):fc q q.length=q.length:=by unfold fc;rw[DS];have:=congrArg List.length h;rw[eo]at this;omega
def aeV(h:q=S::q.flatMap aT.sub){j:Nat}(hi:i<q.length)(ak:j<q[i].sub.length):q[fc q i+j]?=some q[i].sub[j]:=by
 have e:q.flatMap aT.sub=(q.take i).flatMap aT.sub++(q[i].sub++(q.drop (i+1)).flatMap aT.sub):=by
  conv=>lhs;rw[<-pM i q,fi hi]
  rw[fX,jf]
 have aa:q[fc q i+j]?=(S::q.flatMap aT.sub)[fc q i+j]?:=congrArg (λl:List aT=>l[fc q i+j]?) h;rw[aa];unfold fc;rw[show 1+((q.take i).flatMap aT.sub).length+j=(((q.take i).flatMap aT.sub).length+j)+1 by omega,Gt,e,lx (by omega),show((q.take i).flatMap aT.sub).length+j-((q.take i).flatMap aT.sub).length=j by omega,qu ak,dt ak]
structure xA(ns:List al)(bC:Nat)(qc:List Nat)(q:List aT)(i:Nat)(ei:List al):Prop where
 hi:i<=q.length
 len:ei.length=bC+(q.length-i)
 EQ:mc ei ((List.range (fc q i-i)).map (λz=>bC+q.length-1-(i+z))++qc)
 jH:∀ p,i<=p->(h:p<q.length)->∃ T:aT,T.bw=bC+q.length-1-p/\cF ei T/\T.bare ei=q[p].bare ns
def xA.start{ns:List al}(h:q=S::q.flatMap aT.sub)(ax:mc ei qc):xA ns ei.length qc q q.length ei:=by refine⟨b2 _,by omega,?_,λp aa ab=>absurd ab (by omega)⟩;rw[aeU h,mD];exact ax
def xA.step{ns:List al}(aM:q=S::q.flatMap aT.sub)(a4:∀ j,j<q.length->j<fc q j)(h:xA ns bC qc q (i+1) ei)(eU:cF ns (q[i]'(by have:=h.hi;omega)))(aB:∀ d∈ns,fits d d.aq.length=true){x:al}(ku:x.bare=(nodeAt ns (q[i]'(by have:=h.hi;omega)).bw).bare)(Ba:x.aq=(List.range (fc q (i+1)-fc q i)).map λz=>((bC+q.length-1-(fc q i+z):Nat):Int)) :
  xA ns bC qc q i (ei++[x]):=by
 have hi:i<q.length:=by have:=h.hi;omega
 have av:=aeT hi;have ayq:=a4 i hi;have hn:=h.len;have kR:∀ j,j<q[i].sub.length->fc q i+j<q.length:=λj ak=>by have:=aeV aM hi ak;exact(iz.1 this).1
 have eV:ei.length=bC+q.length-1-i:=by omega
 refine⟨by omega,by rw[cm,o5];omega,?_,λp r6 f'=>?_⟩
 ·have g6:fc q (i+1)-fc q i=q[i].sub.length:=by omega
  have aA:((List.range (fc q (i+1)-(i+1))).map (λz=>bC+q.length-1-(i+1+z))++qc).Perm ((List.range q[i].sub.length).map (λz=>bC+q.length-1-(fc q i+z))++((List.range (fc q i-(i+1))).map (λz=>bC+q.length-1-(i+1+z))++qc)):=by
   rw[<-ec];refine List.Perm.append_right _ ?_;have e:fc q (i+1)-(i+1)=(fc q i-(i+1))+q[i].sub.length:=by omega
   rw[e,List.range_add,cS,gh];refine eT.trans (List.Perm.append_right _ ?_);refine List.Perm.of_eq (fT λz bd=>?_);show bC+q.length-1-(i+1+(fc q i-(i+1)+z))=_;omega
  have asH:Go.V.fits x ((List.range q[i].sub.length).map (λz=>bC+q.length-1-(fc q i+z))).length=true:=by
   rw[bE,w2];have aa:=aB _ (bJ eU.np);rw[<-gy eU.np,eU.w1]at aa;unfold e3 at aa;rw[bE]at aa;have ab:Go.V.fits x.bare (q[i].sub.length:Nat)=true:=by rw[ku];exact aa
   exact ab
  have ax:=(h.EQ.perm aA).add (x:=x) asH (by rw[Ba,g6,gh];rfl);refine ax.perm ?_;rw[eV];have e:fc q i-i=(fc q i-(i+1))+1:=by omega
  rw[e,List.range_succ_eq_map,ca,gh,pN];refine List.Perm.of_eq ?_;congr 1;congr 1;refine fT λz bd=>?_;show _=bC+q.length-1-(i+(z+1));omega
 ·by_cases e:p=i
  ·subst e;obtain⟨ks,tP,e1⟩:=JI (R:=λ(z:Nat) (T:aT)=>T.bw=bC+q.length-1-(fc q p+z)/\cF ei T/\∃ bd:z<q[p].sub.length,T.bare ei=q[p].sub[z].bare ns) (l:=List.range q[p].sub.length) λz bd=>by have bd:z<q[p].sub.length:=j0.1 bd;have ag:=kR z bd;obtain⟨T,aa,ab,ai⟩:=h.jH (fc q p+z) (by omega) ag;refine⟨T,aa,ab,bd,?_⟩;have aL:=aeV aM hi bd;rw[dt ag]at aL;rw[ai,e2 aL]
   rw[w2]at tP;have eL:∀ c∈ks,cF ei c:=λc ao=>by obtain⟨z,bd,rfl⟩:=hM ao;exact(e1 z (by simpa using by omega) bd).2.1
   refine⟨.mk ei.length ks,by show ei.length=_;omega,.mk (by simp) ?_ λc ao=>(eL c ao).app _,?_⟩;·rw[FU,Ba];refine oH (by simp;omega) λz bd gO=>?_;rw[gg,gg,wO];have:=(e1 z (by simpa using by simpa[tP]using gO) (by simpa using gO)).1;rw[wO]at this;omega
   ·rw[aT.nq,FU,ku];have tY:q[p].bare ns=.mk (nodeAt ns q[p].bw).bare (q[p].sub.map (aT.bare ns)):=by
     cases q[p]with
     |mk k l=>exact aT.nq ns k l
    rw[tY];congr 1;refine oH (by simp[tP]) λz bd gO=>?_;rw[gg,gg];have vk:z<ks.length:=by simpa using bd
    obtain⟨-,bg,ayr,b5⟩:=e1 z (by simpa using by omega) vk;simp only[wO]at b5;rw[aT.Dc ei (eL _ (bJ vk)),b5]
  ·obtain⟨T,aa,ab,ai⟩:=h.jH p (by omega) f';exact⟨T,aa,ab.app _,by rw[aT.Dc ei ab];exact ai⟩
def xA.done{ns:List al}(aM:q=S::q.flatMap aT.sub)(h:xA ns bC qc q 0 ei):mc ei ((ei.length-1)::qc)/\∃ T:aT,T.bw=ei.length-1/\cF ei T/\T.bare ei=S.bare ns:=by
 have aA:=h.len;have aw:0<q.length:=by rw[aM];simp
 refine⟨?_,?_⟩
 ·have ax:=h.EQ;have e:fc q 0-0=1:=by unfold fc;simp
  rw[e]at ax;have a7:bC+q.length-1-(0+0)=ei.length-1:=by omega
  simpa[a7,aA]using ax
 ·obtain⟨T,aa,ab,ai⟩:=h.jH 0 (b2 _) aw;refine⟨T,by omega,ab,?_⟩;rw[ai];congr 1;have:=congrArg (λl:List aT=>l[0]?) aM;rw[dt aw]at this;exact e2 this
def iY:a0:=⟨⟨#[]⟩,⟨[],none,0,0,0⟩⟩
def aeW:∀ (ds ds':List a0) (aZ:List (ByteArray×Int)) (i:Nat),ds.map a0.name=ds'.map a0.name->oa aZ i ds=oa aZ i ds'
 |[],[],_,_,_=>rfl| [],_::_,_,_,h=>by simp at h
 |_::_,[],_,_,h=>by simp at h
 |d::ds,d'::ds',aZ,i,h=>by rw[ca,ca,zV]at h;rw[oa,oa,h.1,aeW ds ds' _ _ h.2]
def ez(ds:List a0)(u:Nat)(y:bn):List a0:=ds.set u ⟨(ds.getD u iY).name,y⟩
def sj(ds:List a0)(u:Nat)(y:bn):(ez ds u y).length=ds.length:=by simp[ez]
def aeX(ds:List a0)(u:Nat)(y:bn):(ez ds u y).map a0.name=ds.map a0.name:=by
 unfold ez;rw[qy];refine zU λi=>?_;rw[iv];split
 ·rename_i h;subst h;rw[bE,ju];by_cases h:u<ds.length
  ·simp[h,bM]
  ·simp[h]
 ·rfl
def Un(ds:List a0)(u:Nat)(y:bn):bL (ez ds u y)=bL ds:=aeW _ _ _ _ (aeX ds u y)
def Uo{ds:List a0}{y:bn}(h:i≠u):(ez ds u y)[i]?=ds[i]?:=by unfold ez;rw[iv,bP (λe=>h e.symm)]
def NV{ds:List a0}{y:bn}(h:u<ds.length):(ez ds u y)[u]?=some ⟨ds[u].name,y⟩:=by unfold ez;rw[iv,bT rfl,bT h];simp[bM,h]
def aeY{d:a0}(af:right d.t=true):iU pl F d=(uu pl F d.t).1.1:=(aqV af).symm
def aeZ(af:right t=true):(uu pl F t).1=gz pl F t.ns t.br:=by obtain⟨gG,hd⟩:=lZ af;obtain⟨r,en⟩:=eF gG;rw[adO,en,M4 af (r+1) r (by omega) (by omega)]
section
end
inductive rc:aS->Prop
 |mk{d:al}{ks:List aS}:(d.k=4\/d.k=5->∀ c∈ks,c.d.k≠d.k/\¬ (c.d.k=0/\d.k=4))->(∀ c∈ks,rc c)->rc (.mk d ks)
def rc.inv{d:al}{ks:List aS}(h:rc (.mk d ks)):(d.k=4\/d.k=5->∀ c∈ks,c.d.k≠d.k/\¬ (c.d.k=0/\d.k=4))/\∀ c∈ks,rc c:=by
 cases h with
 |mk aa ab=>exact⟨aa,ab⟩
inductive xB:aS->Prop
 |mk{d:al}{ks:List aS}:(d.k=4->∀ c∈ks,c.d.k≠0)->(∀ c∈ks,xB c)->xB (.mk d ks)
def xB.inv{d:al}{ks:List aS}(h:xB (.mk d ks)):(d.k=4->∀ c∈ks,c.d.k≠0)/\∀ c∈ks,xB c:=by
 cases h with
 |mk aa ab=>exact⟨aa,ab⟩
def asI{d:al}{x:aS}(h:kh d x=true)(aL:d.k=4):x.d.k≠0:=by unfold kh at h;intro aw;rw[iQ aL,iQ aw]at h;cases h
def asJ{d:al}{xs:List aS}(ad:∀ x∈xs,xB x):xB (nW d xs):=by
 rw[JQ];split
 ·have av:∀ y∈xs.filter (kh d),xB y/\(d.k=4->y.d.k≠0):=λy aE=>⟨ad y (n4.1 aE).1,asI (n4.1 aE).2⟩;generalize xs.filter (kh d)=bp at av
  match bp,av with
  |[],_=>exact .mk (λ_ c ao=>by cases ao) λc ao=>by cases ao
  |[y],av=>exact(av y (.head _)).1| JS::JT::l,av=>exact .mk (λaL c ao=>(av c ao).2 aL) λc ao=>(av c ao).1
 ·rename_i gi;exact .mk (λaL=>absurd (.inl aL) gi) ad
def asK:∀ (T:aS),xB (T.fold nW):=by
 intro T
 induction T using aS.ind with
 |h d ks aN=>rw[aS.fold_eq];refine asJ λx ad=>?_;obtain⟨c,ao,rfl⟩:=c0.1 ad;exact aN c ao
def asL:∀ {T:aS},xB T->rc T.bx/\∀ cj,∀ U∈T.ga cj,rc U/\some U.d.k≠cj/\(cj=some 4->T.d.k≠0->U.d.k≠0):=by
 intro T
 induction T using aS.ind with
 |h d ks aN=>
  intro h;obtain⟨aw,ae⟩:=h.inv;have pu:rc (aS.mk d ks).bx:=by
   show rc (.mk d (ks.flatMap (aS.ga (iI d))));refine .mk (λgi U eR=>?_) λU eR=>?_;·obtain⟨c,ao,eR⟩:=hc.1 eR;have e:iI d=some d.k:=bT gi;rw[e]at eR;obtain⟨-,ab,ai⟩:=(aN c ao (ae c ao)).2 _ U eR;exact⟨λe=>ab (by rw[e]),λe=>ai (by rw[e.2]) (aw e.2 c ao) e.1⟩
   ·obtain⟨c,ao,eR⟩:=hc.1 eR;exact((aN c ao (ae c ao)).2 _ U eR).1
  refine⟨pu,λcj U eR=>?_⟩;rw[aS.q8]at eR;split at eR;·rename_i e;obtain⟨c,ao,eR⟩:=hc.1 eR;obtain⟨aa,ab,ai⟩:=(aN c ao (ae c ao)).2 _ U eR;refine⟨aa,ab,λdM bD=>ai dM (aw ?_ c ao)⟩;rw[dM]at e;exact e2 e
  ·rename_i e;rw[eC.1 eR];exact⟨pu,e,λ_ bD=>bD⟩
def asM(T:aS):rc T.lK:=(asL (asK T)).1
def asN{ns:List al}{j:Int}(h:j∈eM ns):∃ p,∃ aH:p<ns.length,j∈ns[p].aq:=by unfold eM at h;obtain⟨d,ah,ak⟩:=hc.1 h;obtain⟨p,aH,rfl⟩:=hM ah;exact⟨p,aH,ak⟩
def hf.down(h:hf t){P:Nat->Prop}(aw:∀ r:Nat,t.br=(r:Int)->P r)(step:∀ p (aH:p<t.ns.length),P p->∀ j:Nat,(j:Int)∈t.ns[p].aq->P j):∀ m j,j<t.ns.length->t.ns.length-j<=m->P j
 |0,j,ak,hm=>absurd hm (by omega)
 |m+1,j,ak,hm=>by
  by_cases e:(j:Int)=t.br;·exact aw j e.symm
  ·obtain⟨p,aH,vU⟩:=asN ((h.all j ak).2 e);have:=h.aq p aH _ vU;exact step p aH (h.down aw step m p aH (by omega)) j vU
def zf(af:right t=true){j:Nat}(ak:j<t.ns.length):fr t.ns j=.mk t.ns[j].bare (t.ns[j].aq.map (fr t.ns)):=
 Ea (λd g eu h=>by rw[fT h]) af ak
def ae0(af:right t=true){j:Int}(aw:0<=j)(aa:j<t.ns.length):(fr t.ns j).d.k=iE t.ns j:=by
 obtain⟨q,rfl⟩:=eF aw;have aM:q<t.ns.length:=by omega
 rw[zf af aM];show t.ns[q].k=_;simp[iE,bM,aM]
def Up{ns:List al}{kind:Int}:∀ {ks:List Int},kw ns kind ks=true ↔ ∀ k∈ks,iE ns k≠kind/\¬ (iE ns k=0/\kind=4)
 |[]=>by simp[kw]
 |k::ks=>by
  have aN:=Up (ns:=ns) (kind:=kind) (ks:=ks);rw[kw];constructor
  ·intro h;cases ag:decide (iE ns k=kind)||(decide (iE ns k=0)&&decide (kind=4))with
   |true=>rw[ag]at h;cases h
   |false=>
    rw[ag]at h;intro x ad;rcases eA.1 ad with rfl | ad;·simp only[tI,Bool.and_eq_false_iff,sE]at ag;exact⟨ag.1,λe=>ag.2.elim (λh=>h e.1) λh=>h e.2⟩
    ·exact aN.1 h x ad
  ·intro h;have aa:=h k (.head _);have ag:(decide (iE ns k=kind)||(decide (iE ns k=0)&&decide (kind=4)))=false:=by rw[fo aa.1,uT,<-JK];exact fo aa.2
   rw[ag];exact aN.2 λx ad=>h x (.tail _ ad)
def ae1{ns:List al}:∀ {l:List al},kY ns l=true ↔ ∀ d∈l,d.k=4\/d.k=5->∀ k∈d.aq,iE ns k≠d.k/\¬ (iE ns k=0/\d.k=4)
 |[]=>by simp[kY]
 |d::l=>by
  have aN:=ae1 (ns:=ns) (l:=l);rw[kY];by_cases gi:d.k=4\/d.k=5
  ·have ag:(!decide (d.k=4) && !decide (d.k=5))=false:=by
    rcases gi with e | e<;>simp[e]
   rw[ag,cb];constructor
   ·intro h;cases ae:kw ns d.k d.aq with
    |false=>rw[ae]at h;cases h
    |true=>
     rw[ae]at h;intro x ad;rcases eA.1 ad with rfl | ad;·exact λ_=>Up.1 ae
     ·exact aN.1 h x ad
   ·intro h;rw[Up.2 (h d (.head _) gi)];exact aN.2 λx ad=>h x (.tail _ ad)
  ·have ag:(!decide (d.k=4) && !decide (d.k=5))=true:=by rw[fo λe=>gi (.inl e),fo λe=>gi (.inr e)];rfl
   rw[ag,cp,aN];constructor
   ·intro h x ad;rcases eA.1 ad with rfl | ad
    ·exact λe=>absurd e gi
    ·exact h x ad
   ·exact λh x ad=>h x (.tail _ ad)
def Uq:normal t=true ↔ right t=true/\rc (bU t):=by
 unfold normal;rw[cw];refine and_congr_right λaf=>?_;have aX:=jm.1 af;rw[ae1];constructor
 ·intro h;have key:∀ m j,j<m->j<t.ns.length->rc (fr t.ns j):=by
   intro m
   induction m with
   |zero=>exact λj h=>absurd h (ng _)
   |succ m aN=>
    intro j acn ak;rw[zf af ak];refine .mk (λgi c ao=>?_) λc ao=>?_;·obtain⟨k,ae,rfl⟩:=c0.1 ao;have e0:=aX.aq j ak k ae;rw[ae0 af e0.1 (by omega)];exact h _ (bJ ak) gi k ae
    ·obtain⟨k,ae,rfl⟩:=c0.1 ao;have e0:=aX.aq j ak k ae;obtain⟨q,rfl⟩:=eF e0.1;exact aN q (by omega) (by omega)
  obtain⟨gG,hd⟩:=aX.br;obtain⟨r,en⟩:=eF gG;unfold bU;rw[en];exact key _ r (Bo _) (by omega)
 ·intro h;have key:∀ j,j<t.ns.length->rc (fr t.ns j):=λj ak=>aX.down (P:=λj=>rc (fr t.ns j)) (λr en=>by rw[<-en];exact h) (λp aH qS j vU=>by rw[zf af aH]at qS;exact qS.inv.2 _ (xy vU)) _ j ak (b2 _);intro d ah gi k ae;obtain⟨j,ak,rfl⟩:=hM ah;have aa:=key j ak;rw[zf af ak]at aa;have ab:=aa.inv.1 gi _ (xy ae);have e0:=aX.aq j ak k ae;rw[ae0 af e0.1 (by omega)]at ab;exact ab
inductive ig(P:al->Prop):aS->Prop
 |mk{d:al}{ks:List aS}:P d->(∀ c∈ks,ig P c)->ig P (.mk d ks)
def ig.inv{P:al->Prop}{d:al}{ks:List aS}(h:ig P (.mk d ks)):P d/\∀ c∈ks,ig P c:=by
 cases h with
 |mk aa ab=>exact⟨aa,ab⟩
section
variable{P:al->Prop}
def ae2(af:right t=true):ig P (bU t) ↔ ∀ d∈t.ns,P d.bare:=by
 have aX:=jm.1 af;constructor
 ·intro h d ah;obtain⟨j,ak,rfl⟩:=hM ah;have aa:=aX.down (P:=λj=>ig P (fr t.ns j)) (λr en=>by rw[<-en];exact h) (λp aH qS j vU=>by rw[zf af aH]at qS;exact qS.inv.2 _ (xy vU)) _ j ak (b2 _);rw[zf af ak]at aa;exact aa.inv.1
 ·intro h;have key:∀ m j,j<m->j<t.ns.length->ig P (fr t.ns j):=by
   intro m
   induction m with
   |zero=>exact λj h=>absurd h (ng _)
   |succ m aN=>intro j acn ak;rw[zf af ak];refine .mk (h _ (bJ ak)) λc ao=>?_;obtain⟨k,ae,rfl⟩:=c0.1 ao;have e0:=aX.aq j ak k ae;obtain⟨q,rfl⟩:=eF e0.1;exact aN q (by omega) (by omega)
  obtain⟨gG,hd⟩:=aX.br;obtain⟨r,en⟩:=eF gG;unfold bU;rw[en];exact key _ r (Bo _) (by omega)
def asO(ag:∀ d,P d->P d.bare)(aw:P (nothing 0).bare)(aa:P (nothing 1).bare):∀ {T:aS},ig P T->ig P (T.fold nW):=by
 intro T
 induction T using aS.ind with
 |h d ks aN=>
  intro h;obtain⟨ah,ae⟩:=h.inv;rw[aS.fold_eq,JQ];have ad:∀ x∈ks.map (aS.fold nW),ig P x:=λx ad=>by obtain⟨c,ao,rfl⟩:=c0.1 ad;exact aN c ao (ae c ao)
  split
  ·rename_i gi;have av:∀ y∈(ks.map (aS.fold nW)).filter (kh d),ig P y:=λy aE=>ad y (n4.1 aE).1;generalize(ks.map (aS.fold nW)).filter (kh d)=bp at av
   match bp,av with
   |[],_=>
    refine .mk ?_ λc ao=>by cases ao
    rcases gi with e | e;·rw[show d.k-4=0 by omega];exact aw
    ·rw[show d.k-4=1 by omega];exact aa
   |[y],av=>exact av y (.head _)| JS::JT::l,av=>exact .mk (ag _ ah) av
  ·exact .mk (ag _ ah) ad
def asP:∀ {T:aS},ig P T->(∀ cj,∀ U∈T.ga cj,ig P U)/\ig P T.bx:=by
 intro T
 induction T using aS.ind with
 |h d ks aN=>
  intro h;obtain⟨aB,ae⟩:=h.inv;have pu:ig P (aS.mk d ks).bx:=by show ig P (.mk d (ks.flatMap (aS.ga (iI d))));refine .mk aB λU eR=>?_;obtain⟨c,ao,eR⟩:=hc.1 eR;exact(aN c ao (ae c ao)).1 _ U eR
  refine⟨λcj U eR=>?_,pu⟩;rw[aS.q8]at eR;split at eR;·obtain⟨c,ao,eR⟩:=hc.1 eR;exact(aN c ao (ae c ao)).1 _ U eR
  ·rw[eC.1 eR];exact pu
def Ur(ag:∀ d,P d->P d.bare)(aw:P (nothing 0).bare)(aa:P (nothing 1).bare){T:aS}(h:ig P T):ig P T.lK:=(asP (asO ag aw aa h)).2
def ae3{X:aS}(ht:ig P X):∀ (p:List Int) {T:aS},ig P T->ig P (T.put p X)
 |[],T,h=>ht
 |i::p,.mk d ks,h=>by
  obtain⟨ah,ae⟩:=h.inv;rw[aS.put];show ig P (aS.mk d (ks.set i.toNat ((ks.getD i.toNat (.mk d ks)).put p X)));refine .mk ah λc ao=>?_;rcases xp ao with ao | rfl;·exact ae c ao
  ·refine ae3 ht p ?_;rw[bM];cases e:ks[i.toNat]? with
   |none=>exact h| some c=>exact ae c (rv e)
end
def Us(nm:ByteArray):∀ (ds ds':List a0) (i:Nat),ds.map a0.name=ds'.map a0.name->eP nm ds i=eP nm ds' i
 |[],[],_,_=>rfl| [],_::_,_,h=>by simp at h
 |_::_,[],_,h=>by simp at h
 |d::ds,d'::ds',i,h=>by rw[ca,ca,zV]at h;rw[eP,eP,h.1,Us nm ds ds' _ h.2]
def Bb(ds:List a0)(d:al):Prop:=d.k=3->0<=eP d.t ds 0
def asQ{g:cg}(hL:g.ds.length=g.n)(hm:du ay g=0)(hu:u<g.ds.length){y:bn}(aE:normal y=true)(aD:∀ d∈y.ns,Bb g.ds d){h:cg}(te:h.n=g.n)(ao:h.ds.map a0.a1=(ez g.ds u y).map a0.a1) :
  du ay h=0\/du ay h=40:=by
 have aK:du ay h=du ay (sf (ez g.ds u y)):=by rw[<-Cy,<-Cy ay (sf _)];congr 1;unfold cg.a1 sf;rw[ao,te,sj,hL]
 rw[aK];obtain⟨aa,ab,ai,aL,bq⟩:=JC.1 hm;have aA:=sj g.ds u y;have mq:=aeX g.ds u y;have gk:∀ d∈ez g.ds u y,d∈g.ds\/d=⟨g.ds[u].name,y⟩:=λd ah=>by
  obtain⟨i,hi,rfl⟩:=hM ah;by_cases e:i=u;·subst e;have ai:=NV (y:=y) hu;rw[dt hi]at ai;exact .inr (e2 ai)
  ·have ai:=Uo (ds:=g.ds) (y:=y) e;rw[dt hi,dt (by omega)]at ai;rw[e2 ai];exact .inl (bJ _)
 have bi:=fV.1 ab;have uw:n' (ez g.ds u y)=true:=fV.2 λd ah=>by
  rcases gk d ah with h | rfl;·exact bi d h
  ·have:=bi _ (bJ hu);rw[cw]at this |-;exact⟨this.1,aE⟩
 have e4:(List.range (ez g.ds u y).length).all (p' (ez g.ds u y))=true:=fV.2 λi hi=>by
  rw[j0,aA]at hi;have b':=aL i hi;unfold p' at b' |-;have a7:((ez g.ds u y)[i]'(by omega)).name=g.ds[i].name:=by
   have dZ:((ez g.ds u y).map a0.name)[i]?=(g.ds.map a0.name)[i]?:=by rw[mq]
   rw[ju,ju,dt (by omega),dt hi]at dZ;exact e2 dZ
  rw[dt hi]at b';rw[dt (by omega)];show decide (eP ((ez g.ds u y)[i]'(by omega)).name _ 0=_)=true;rw[a7,Us _ _ _ _ mq];exact b'
 have fO:((ez g.ds u y).all λd=>d.t.ns.all (yX (ez g.ds u y)))=true:=fV.2 λd ah=>fV.2 λn x8=>by
  unfold yX;rw[Us _ _ _ _ mq];have:Bb g.ds n:=by
   rcases gk d ah with h | rfl;·exact bq d h n x8
   ·exact aD n x8
  by_cases e:n.k=3;·rw[iQ (this e),L0]
  ·rw[fo e];rfl
 rw[<-acg];unfold MW;have asR:n' (sf (ez g.ds u y)).ds=true:=uw;have asS:(List.range (sf (ez g.ds u y)).ds.length).all (p' (sf (ez g.ds u y)).ds)=true:=e4;have asT:((sf (ez g.ds u y)).ds.all λd=>d.t.ns.all (yX (sf (ez g.ds u y)).ds))=true:=fO;rw[asR,asS,asT,fo (by show ¬ (((ez g.ds u y).length:Nat):Int)=0;omega)];cases pX ay (sf (ez g.ds u y))with
 |true=>exact .inr rfl| false=>exact .inl rfl
def asU(n b:Nat):Value:=.slice (some ⟨b,0,none⟩) n n
def asV(n:Nat)(cB:List Nat):List Value:=cB.map (asU n)++List.replicate (n-cB.length) (.slice none 0 0)
def k5(qH n:Nat)(cB:List Nat):aF:=⟨qH,.cells (asV n cB).toArray 193 (0,0)⟩
section
end
def ux(x:Nat×Int):List Value:=[.int .i64 x.1,.int .i64 x.2]
structure asW(t:bn)(T:aT)(path:List Int)(x:Nat×aQ×List (Nat×Int)×aT):Prop where
 hi:x.1<=path.length
 os:x.2.1.ok 2 (x.2.2.1.flatMap ux)
 len:x.2.2.1.length=x.1
 pw:x.2.2.1++x.2.2.2.pw (path.drop x.1)=T.pw path
 go:x.2.2.2.go (path.drop x.1)=T.go path
 aY:cF t.ns x.2.2.2
 Jh:x.1+x.2.2.2.bw<=T.bw
def asX(T:aT)(path:List Int)(I:aJ)(v:Value)(I':aJ)(M':List aF):Prop:=I'=I/\∃ (os:aQ) (l:List (Nat×Int)) (k:Nat) (b:Bool),v=.tuple #[os.val,.int .i64 k,.bool b]/\M'=os.ar 268/\os.ok 2 (l.flatMap ux) /\
 match T.go path with
 |none=>b=false| some S=>b=true/\k=S.bw/\l=T.pw path/\l.length<=T.bw
def asY(au:t.ok I)(ae:sg t.ns)(bl:cF t.ns T)(pQ:t.br=(T.bw:Int))(aD:t.n<=1099511627776){pa:Option Addr}{pn pc:Nat}{path:List Int}(aH:cD I pa pn pc 1 8 (path.map (.int .i64 ·))) :
  Spec Tryz.prog 170 [t.val,.slice pa pn pc] I [] (asX T path I):=by
 refine b0 [] a3 Tryz.func170 rfl rfl rfl ?_;intro B aw;have ho:=au.n;have rQ:path.length=pn:=by have:=aH.len;simpa using this
 have vn:cD I pa pn pc 1 8 (path.flatMap iH):=by rw[oo];exact aH
 have asZ:=bl.np;refine dx.inv (ι:=Nat×aQ×List (Nat×Int)×aT) (λx=>{ bp:=[(2,.ref 2 0),(7,.val x.2.1.val),(8,.val (.int .i64 x.2.2.2.bw)),(14,.val (.slice pa pn pc)),(15,.val (.int .i64 pn)),(16,.val (.int .i64 x.1))],cl:=[(2,t.cells)],cP:=I,da:=x.2.1.ar 268 }) (asW t T path) (λx=>path.length-x.1) ?_ ?_
 ·refine⟨(0,h3,[],T),⟨dj _,k0 2,rfl,rfl,rfl,bl,by simp only;omega⟩,.refl,.cons .refl (.cons .refl (.cons ?_ (fw))),.cons rfl (.nil)⟩;simp only;rw[<-pQ];exact .refl
 rintro⟨i,os,l,S⟩⟨hi,cc,nz,Bc,eW,eU,h8⟩;simp only at hi cc nz Bc eW eU h8;have ic:os.n=i:=by have:=cc.len;rw[gL ux 2 (λ_=>rfl),nz]at this;omega
 have qe:=eU.np;refine a5.mk (λh=>?_) (λh=>?_)
 ·have a4:i<path.length:=by have:(i:Int)<(pn:Int):=c5 h;omega
  have k5:path.drop i=path[i]::path.drop (i+1):=fi a4;rw[k5]at Bc eW;obtain⟨as0,aeD,nX⟩:=vn.row (f:=iH) (λ_=>rfl) (j:=i) (by omega) a4;obtain⟨lz,nN,jw⟩:=au.ba.row al.cH (j:=S.bw) (by omega) qe;have ah:=au.ns _ (bJ qe);have eL:=eU.w1;rw[gy qe]at eL;generalize t.ns[S.bw]=d at ah jw eL;have fh:=ah.az;have cW:d.aq.length=S.sub.length:=by rw[eL];simp[e3]
  generalize sG:path[i]=m7 at nX Bc eW;refine bA.mk as0 i aeD rfl (by omega) ?_;refine aV.mk _ (nX _) ?_;refine bA.mk lz S.bw nN rfl (by omega) ?_;refine aV.mk _ ((jw _).part (k:=8) (m:=1) (by decide)) ?_;refine cT.mk (λaL=>?_) (λaL=>?_)
  ·have as1:0<=m7:=by have:¬ m7<0:=dP aL;omega
   refine a5.mk (λbq=>?_) (λbq=>?_);·have c8:(d.az:Int)<=m7:=c5 bq;refine⟨_,_,.sub (fC _) .refl,rfl,h3,[],0,false,rfl,rfl,k0 2,?_⟩;rw[<-eW,aT.go,bP (by omega)]
   ·have ae4:m7<(d.az:Int):=by have:¬ (d.az:Int)<=m7:=dP bq;omega
    obtain⟨z,rfl⟩:=eF as1;have bd:z<S.sub.length:=by omega
    have u3:S.sub.getD z S=S.sub[z]:=by simp[bM,bd]
    rw[aT.go,bT (by omega),gN,u3]at eW;rw[aT.pw,gN,u3]at Bc;have as2:d.aq[z]'(by omega)=((S.sub[z]).bw:Int):=by
     have:d.aq[z]?=(e3 S.sub)[z]?:=by rw[eL]
     rw[dt (by omega)]at this;unfold e3 at this;rw[ju,dt bd]at this;exact e2 this
    have NK:(S.sub[z]).bw<S.bw:=by
     cases S with
     |mk k ks=>exact eU.TW ae (bJ bd)
    have De:cD I d.cf d.az d.cx 1 8 (d.aq.flatMap iH):=by rw[oo];exact ah.ba
    obtain⟨gv,fm,fe⟩:=De.row (f:=iH) (λ_=>rfl) (j:=z) (by omega) (by omega);rw[as2]at fe;refine bZ.mk λb9 m8 uv=>?_;refine bF.l7 a3 rfl (by simp) (e:=268) rfl rfl rfl os cc rfl (cs:=[.int .i64 S.bw,.int .i64 z]) rfl rfl rfl [] [] (by simp;rfl) (by omega) (by show(os.n+1)*16<=_;omega) ?_;intro iw aa ab ai;refine bA.mk gv z fm rfl (by omega) ?_;refine aV.mk _ (fe _) ?_;refine be.mk _ (dc (i:=i) (by omega)) ?_;refine⟨(i+1,iw,l++[(S.bw,(z:Int))],S.sub[z]),⟨⟨a4,?_,by simp[nz],?_,eW,eU.A6 _ (bJ bd),by simp only;omega⟩,by simp only;omega⟩,.l6 (by simp),zz,.cons rfl (.nil)⟩;·rw[fX];exact ai
    ·rw[ec];exact Bc
  ·have ays:m7<0:=c5 aL;refine⟨_,_,.sub (fC _) .refl,rfl,h3,[],0,false,rfl,rfl,k0 2,?_⟩;rw[<-eW,aT.go,bP (by omega)]
 ·have c8:i=path.length:=by have:¬ (i:Int)<(pn:Int):=dP h;omega
  subst c8;rw[List.drop_length]at Bc eW;refine⟨_,_,.refl,rfl,os,l,S.bw,true,rfl,rfl,cc,?_⟩;rw[<-eW];rw[aT.pw,dD]at Bc;exact⟨rfl,rfl,Bc,by omega⟩
section
variable{X:c1}{β:Nat->Nat}{a:Act}{w:World}{F:Fr}{C:dO}{I:aJ}{M:List aF}{o:Oper}{K:gr}
def as3(aO:cX X.P X.E){t:Nat}(aC:o.op=.call { callee:=.builtin .append,args:=#[s,x],argTypes:=#[t,u] })(ah:∀ d,o.dst=some d->d<X.n)
 {lU:dR} (au:X.E t=some c6) (dz:c6.bQ=.slice e) (hu:X.E u=some lU) (fK:∀ k,lU.bQ≠.int k) (he:X.E e=some aG)
  (os:aQ) (bi:os.ok aG.size xs) (av:bH F s=.val os.val)
  {pK:Value} (ad:bH F x=.val pK) (hm:0<m) (aA:b3.length=m*aG.size) (aa:fJ b3=true)
  (cQ:∀ w',(Builtin.lenOf pK).run X.P w'=.ok m w') (eV:∀ w,eN I M w->(Builtin.firstCells aG.size m pK).run X.P w=.ok b3.toArray w)
 (bb:M.Perm (os.ar e++Mr)) (b1:os.n+m<=maxLen) (bW:(os.n+m)*aG.bytes<=140737488355328)
  (k:∀ (g c:Nat) (aU:List Value) (J:List aF),I g=none->aU.length=c*aG.size->os.n+m<=c->c<=maxLen->aU.take ((os.n+m)*aG.size)=xs++b3->((os.a=some g/\J=[])\/J=os.ar e) ->
   K (put o.dst (.val (.slice (some ⟨g,0,none⟩) (os.n+m) c)) F) C I (⟨g,.cells aU.toArray e (0,0)⟩::(J++Mr))):bF X o F C I M K:=by
 refine⟨λa w Q ⟨β,iM⟩=>?_⟩;have aX:cL X β a w F C I (os.ar e++Mr):=iM.h7 (.perm bb .refl);obtain⟨inf,z,hi,fv,hW,ik,j4⟩:=(aO _ _ he).inf;obtain⟨d,fM,fk⟩:=(aO _ _ hu).ft;obtain⟨g2,iO,kS⟩:=(aO _ _ au).ft;have oO:g2=.slice e:=by rw[dz]at kS;cases g2<;>simp_all[fs]
 subst oO;have qF:z.cells.size=inf.size:=by rw[fv,<-(aO _ _ he).len,<-j4];simp
 rw[<-fv]at bi aA eV;obtain⟨g,c,aU,w',e',a',bg,b5,gf,n6⟩:=Pk (P:=X.P) (w:=w) t u o.type e inf z iO fM (λk cU=>fK k (by rw[<-fk,cU];rfl)) hi ik qF bi (λg ax=>aX.holds.m ⟨g,.cells os.aU.toArray e (0,0)⟩ (by simp[aQ.ar,ax])) (x:=pK) hm aA (zp aa) cQ (λw' yc=>eV w' (iM.holds.heap yc)) b1 (by rw[hW];exact bW);rw[fv]at a' gf;have zN:I g=none:=by
  rcases n6 with⟨ax,_⟩ | ⟨rfl,_⟩;·exact aX.holds.d ⟨g,.cells os.aU.toArray e (0,0)⟩ (by simp[aQ.ar,ax])
  ·cases bB:I w.heap.size with
   |none=>rfl| some nD=>have:=aX.holds.i _ _ bB;simp at this
 have es:=dh aX.an av;have ex:=dh aX.an ad;rcases n6 with⟨ax,hw⟩ | ⟨rfl,hw⟩
 ·refine iJ (by rw[aC];simp) (v:=.slice (some ⟨g,0,none⟩) (os.n+m) c) (w':=w') ?_ ⟨_,_,_,_,⟨β,cL.put (x:=.val (.slice (some ⟨g,0,none⟩) (os.n+m) c)) ?_ ah rfl⟩,k g c aU [] zN a' bg b5 gf (.inl ⟨ax,rfl⟩)⟩
  ·unfold execOp;simp only[aC,resolve,invoke,builtin,cu,c7,bY,rz,ca,hH,es,ex,e']
  ·subst hw;have ag:os.ar e=[⟨g,.cells os.aU.toArray e (0,0)⟩]:=by simp[aQ.ar,ax]
   rw[ag]at aX;exact aX.xU (a9:=[]) (post:=Mr) rfl
 ·refine iJ (by rw[aC];simp) (v:=.slice (some ⟨_,0,none⟩) (os.n+m) c) (w':=w') ?_ ⟨_,_,_,_,⟨β,cL.put (x:=.val (.slice (some ⟨_,0,none⟩) (os.n+m) c)) ?_ ah rfl⟩,k _ c aU (os.ar e) zN a' bg b5 gf (.inr rfl)⟩
  ·unfold execOp;simp only[aC,resolve,invoke,builtin,cu,c7,bY,rz,ca,hH,es,ex,e']
  ·subst hw;have ab:cL X β a w.drew F C I (os.ar e++Mr):=aX.world rfl;exact ab.n2 (.cells aU.toArray e (0,0))
def bF.ae5(aO:cX X.P X.E){t:Nat}(aC:o.op=.call { callee:=.builtin .append,args:=#[s,x],argTypes:=#[t,t] })(ah:∀ d,o.dst=some d->d<X.n)
 (au:X.E t=some c6) (dz:c6.bQ=.slice e) (he:X.E e=some aG)
  (os:aQ) (bi:os.ok aG.size xs) (av:bH F s=.val os.val)
 (ad:bH F x=.val (.slice (some ⟨b9,0,none⟩) 1 c')) (aA:cs.length=aG.size) (aa:fJ cs=true)
  (a9 post:List aF) (bb:M=⟨b9,.cells cs.toArray e (0,0)⟩::(a9++(os.ar e++post))) (b1:os.n+1<=9223372036854775807) (bW:(os.n+1)*aG.bytes<=140737488355328)
  (k:∀ (bu:aQ) (J:List aF),bu.n=os.n+1->(∀ g,bu.a=some g->I g=none)->bu.ok aG.size (xs++cs)->(∀ g∈(os.ar e).map (·.num),g∈(bu.ar e++J).map (·.num))->K (put o.dst (.val bu.val) F) C I (a9++(bu.ar e++(J++post)))):bF X o F C I M K:=by
 refine .h7 (as3 aO aC ah au dz au (λk=>by rw[dz];simp) he os bi av ad (m:=1) (b3:=cs) (by decide) (by rw[oI];exact aA) aa (λ_=>rfl) (λw hw=>?_) (Mr:=⟨b9,.cells cs.toArray e (0,0)⟩::(a9++post)) ?_ (by unfold maxLen;exact b1) bW ?_)
 ·refine run_firstCells_some (P:=X.P) w aG.size 1 ⟨b9,0,none⟩ 1 c' cs (by rw[oI];exact aA) λj v ak=>?_;have ag:w.heap[b9]?=some (.cells cs.toArray e (0,0)):=hw.m ⟨b9,.cells cs.toArray e (0,0)⟩ (by rw[bb];exact .head _);rw[eO _ rfl,ts ag];simpa using ak
 ·rw[bb];have ab:(⟨b9,.cells cs.toArray e (0,0)⟩::(a9++(os.ar e++post)):List aF).Perm (⟨b9,.cells cs.toArray e (0,0)⟩::(os.ar e++(a9++post))):=.cons _ (yn _ _ _);exact ab.trans na.symm
 ·intro g c aU J bB ew e9 fb jS a8;refine⟨I,a9++((⟨some g,os.n+1,c,aU⟩:aQ).ar e++(J++post)),.perm (M1:=⟨b9,.cells cs.toArray e (0,0)⟩::(a9++((⟨some g,os.n+1,c,aU⟩:aQ).ar e++(J++post)))) ?_ (.sub (.cons _ (.refl _)) .refl),k ⟨some g,os.n+1,c,aU⟩ J rfl (λeu ax=>by cases ax;exact bB) ⟨?_,(λh=>by cases h),λeu ax=>?_⟩ λx ad=>?_⟩
  ·have aK:((⟨some g,os.n+1,c,aU⟩:aQ).ar e)=[⟨g,.cells aU.toArray e (0,0)⟩]:=rfl;rw[aK];have Ef:(⟨g,.cells aU.toArray e (0,0)⟩::(J++(⟨b9,.cells cs.toArray e (0,0)⟩::(a9++post))):List aF).Perm (⟨b9,.cells cs.toArray e (0,0)⟩::(⟨g,.cells aU.toArray e (0,0)⟩::(J++(a9++post)))):=(List.Perm.cons _ na).trans (List.Perm.swap _ _ _);refine Ef.trans (List.Perm.cons _ ?_);have Eg:(⟨g,.cells aU.toArray e (0,0)⟩::(J++(a9++post)):List aF).Perm (⟨g,.cells aU.toArray e (0,0)⟩::(a9++(J++post))):=List.Perm.cons _ (yn _ _ _);exact Eg.trans na.symm
  ·rw[cm,bi.len,aA,lT,oI]
  ·cases ax;exact⟨ew,e9,fb,jS⟩
  ·rw[cS,cC];rcases a8 with⟨aa,rfl⟩ | rfl
   ·left
    have:os.ar e=[⟨g,.cells os.aU.toArray e (0,0)⟩]:=by simp[aQ.ar,aa]
    rw[this]at ad;simpa[aQ.ar]using ad
   ·exact .inr ad
end
end Go.V
