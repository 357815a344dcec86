/- Part 8 of what the proofs of this seat share: the executor, data in memory, walks.
-/
import Derived.Test.YtmncamccjfmbpaaGreatDoorK7
import Derived.Test.YtmncamccjfmbpaaGreatDoorK4
import Derived.Test.YtmncamccjfmbpaaGreatDoorK5
import Derived.Test.YtmncamccjfmbpaaGreatDoorK2
set_option linter.all false
set_option maxHeartbeats 8000000
set_option maxRecDepth 100000
namespace Go.V
open Go Go.Proofs
def vl:=@List.map_singleton
def ze:=@List.flatMap_assoc
def Bq:=@List.mem_map_of_mem
def N3:=@List.count_eq_zero_of_not_mem
def N4:=@List.append_cancel_left
def WQ:=@List.eq_nil_iff_forall_not_mem
def WR:=@List.perm_ext_iff_of_nodup
def N5:=@List.Sublist.refl
def N6:=@List.map_reverse
variable{t:bw}{r i n e c' c u:Nat}{L:List bw}{nm:ByteArray}{I J:aM}{α:Type}{pl:List (ByteArray×Int)}{F F':List aI}{a:Option Addr}{pw HY ds':List an}{l bc:List Nat}{K:dd->aM->List aE->Prop}{s:Operand}{c8 aB:dt}{xs cq:List Value}{aV:Addr}{Mr M:List aE}{ks aF:List Int}{os:aU}
def WS:∀ (e3:List (List an)) (aN:List an×List Int),(e3.foldl hQ aN).1.length=aN.1.length+(e3.map List.length).sum
 |[],aN=>by simp
 |l::e3,aN=>by rw[iY,WS e3];show(aN.1++_).length+_=_;rw[cL,bO,cc,jb];omega
def aio(d:an)(e3:List (List an)):(pf d e3).length=(e3.map List.length).sum+1:=by unfold pf;rw[cL,WS];simp
def aip(af:right t=true):(kq t).length<=t.ns.length:=by obtain⟨ib,gA⟩:=kG af;obtain⟨r,eD⟩:=eN ib;unfold kq;rw[eD];exact(Sr (iQ.1 af) (by omega)).2
def WT{α:Type}{f g:α->Nat}:∀ {l:List α},(∀ x∈l,f x<=g x)->(l.map f).sum<=(l.map g).sum
 |[],_=>cI _| x::l,h=>by have aa:=h x (.head _);have ad:=WT (l:=l) λy aD=>h y (.tail _ aD);simp only[cc,jb];omega
structure WU(I:aM)(nm:ByteArray)(body t:bw)(ks:List Int)(L:List bw)(B:Nat)(x:Nat×aU×List bw×aM):Prop where
 i:x.1<=L.length
 os:x.2.1.ok 2 (x.2.2.1.flatMap bw.cells)
 len:x.2.2.1.length=x.1
 le:∀ b o,I b=some o->x.2.2.2 b=some o
 all:∀ q (h:q<x.2.2.1.length) (bq:q<L.length),(x.2.2.1[q]).ok x.2.2.2/\xj nm body L[q] x.2.2.1[q]
 sum:(x.2.2.1.map λt:bw=>t.ns.length).sum<=((L.take x.1).map λt:bw=>t.ns.length).sum*B
def HZ{x:Nat}:∀ {l:List Nat},x∈l->x<=l.sum
 |y::l,h=>by
  rw[jb];rcases dW.1 h with rfl | h;·omega
  ·have:=HZ h;omega
def N7:∀ {l:List bw},(∀ x∈l,0<x.ns.length)->l.length<=(l.map λt:bw=>t.ns.length).sum
 |[],_=>cI _| x::l,h=>by have aa:=h x (.head _);have ad:=N7 (l:=l) λy aD=>h y (.tail _ aD);simp only[cc,jb,ea];omega
def WV(af:right t=true)(eh:r<t.ns.length)(k8:L.length=t.ns[r].ap.length)(ar:∀ q (h:q<L.length),sb t (t.ns[r].ap.getD q 0) L[q]) :
  (∀ q (h:q<L.length),right L[q]=true)/\(L.map λt:bw=>t.ns.length).sum+1<=t.ns.length /\
   ∀ {α:Type} (z:α) (F:an->List α->α),(∀ d l,F (d.cA l)=F d)->L.map (ld z F)=t.ns[r].ap.map (gM z (λd g=>F d (d.ap.map g)) t.ns):=by
 have aK:∀ q (h:q<L.length),∃ j:Nat,t.ns[r].ap[q]'(by omega)=(j:Int)/\j<t.ns.length/\sb t j L[q]:=λq h=>by
  have ae:=jX af r eh _ (b9 (show q<t.ns[r].ap.length by omega));obtain⟨j,ai⟩:=eN ae.1;have ad:=ar q h;have e:t.ns[r].ap.getD q 0=t.ns[r].ap[q]'(by omega):=by simp[cv,show q<t.ns[r].ap.length by omega]
  rw[e,ai]at ad;exact⟨j,ai,by omega,ad⟩
 refine⟨λq h=>?_,?_,λz F bf=>?_⟩
 ·obtain⟨j,aa,ad,al⟩:=aK q h;exact KS af ad al
 ·have e:L.map (λt:bw=>t.ns.length)=t.ns[r].ap.map (je t.ns):=by refine qD (by simp[k8]) λq aa ad=>?_;rw[hN,hN];obtain⟨j,a1,ba,b4⟩:=aK q (by simpa using aa);rw[a1,KT af ba b4]
  have aa:=wu af eh;have ad:=yx af t.ns.length r eh (by omega);have al:fz (je t.ns) t.ns[r].ap=(t.ns[r].ap.map (je t.ns)).sum:=rfl;rw[e];omega
 ·refine qD (by simp[k8]) λq aa ad=>?_;rw[hN,hN];obtain⟨j,a1,ba,b4⟩:=aK q (by simpa using aa);rw[a1];exact aij bf af ba b4
def WW{body bj:bw}(af:right t=true)(eD:t.bm=(r:Int))(eh:r<t.ns.length)(dR:¬ (t.ns[r].k=3/\t.ns[r].t=nm)){ie:List bw}(k8:L.length=t.ns[r].ap.length)(Ep:∀ {α:Type} (z:α) (F:an->List α->α),(∀ d l,F (d.cA l)=F d)->L.map (ld z F)=t.ns[r].ap.map (gM z (λd g=>F d (d.ap.map g)) t.ns))(pB:∀ x∈ie,right x=true)(lZ:ie.length=L.length)(dy:∀ q (h:q<ie.length) (bq:q<L.length),xj nm body L[q] ie[q])(gJ:fits t.ns[r] t.ns[r].ap.length=true)(hU:bj.ok I)(mN:bj.bm=(bj.ns.length:Int)-1)(dJ:bj.ns.map an.a6=pf (t.ns[r].cA []) (ie.map kq)) :
  xj nm body t bj/\bj.ns.length<=(ie.map λt:bw=>t.ns.length).sum+1:=by
 have ez:∀ l∈ie.map kq,hj (hS l)/\0<l.length:=λl av=>by obtain⟨x,ab,rfl⟩:=cG.1 av;obtain⟨ib,gA⟩:=kG (pB x ab);obtain⟨q,aK⟩:=eN ib;exact ail (pB x ab) aK
 have cu:=congrArg List.length dJ;rw[bO]at cu;refine⟨⟨?_,λz F bf=>?_⟩,?_⟩
 ·have aa:=iQ.2 (WO (d:=t.ns[r].cA []) (λl av=>(ez l av).1) (by rw[Bo,bO,lZ,k8];exact gJ));rw[<-dJ]at aa;have e:hS (bj.ns.map an.a6)=bj.a6:=by unfold hS bw.a6;rw[mN,bO,hU.n]
  rw[e,yC]at aa;exact aa
 ·rw[<-aik bf mN,dJ,WK bf λl av=>⟨(ez l av).2,λd aj k ae=>?_⟩]
  ·have aA:(ie.map kq).map (pA z F)=L.map (ld z (vk nm (ld z F body) F)):=by
    rw[gz];refine qD (by simp[lZ]) λq aa ad=>?_;rw[hN,hN];have aK:q<ie.length:=by simpa using aa
    show pA z F (kq ie[q])=_;rw[aim bf (pB _ (b9 aK)),(dy q aK (by omega)).bt z F bf]
   rw[aA,bf,Ep z _ (λd l=>aii bf d l),WL af eD eh,vk,ca dR]
  ·obtain⟨j,ai,rfl⟩:=hz aj;exact((ez l av).1.ap j ai k ae).1
 ·rw[cu,aio,gz];have:(ie.map (List.length ∘ kq)).sum<=(ie.map λt:bw=>t.ns.length).sum:=WT λx ab=>aip (pB x ab);omega
def N8{aF:List Int}{nm:ByteArray}{body:bw}{B:Nat}(Hh:body.ns.length+1<=B):∀ (m:Nat) {I:aM} (bl:gg I aF) (ah:body.ok I) (H0:right body=true) {t:bw} (aw:t.ok I) (af:right t=true) (cx:t.ns.length*B<=1099511627776),t.ns.length<=m -> Spec Tryz.prog 14 [t.val,.string nm,body.val] I [] λv I' M'=>(∀ b o,I b=some o->I' b=some o)/\M'=[]/\∃ bj:bw,v=.tuple #[bj.val,.bool true]/\bj.ok I'/\xj nm body t bj/\bj.ns.length<=t.ns.length*B
 |0,_,_,_,_,t,_,af,_,hm=>by have:=kG af;omega
 |m+1,I,bl,ah,H0,t,aw,af,cx,hm=>by
  refine cp [12] a4 Tryz.func14 rfl rfl rfl ?_;intro amC ay;have l9:=aw.n;have u7:1<=B:=by omega
  have amD:t.ns.length<=t.ns.length*B:=Nat.le_mul_of_pos_right _ u7;obtain⟨ib,gA⟩:=kG af;obtain⟨r,eD⟩:=eN ib;have eh:r<t.ns.length:=by omega
  have aj:=aw.ns _ (b9 eh);have m5:nodeAt t.ns r=t.ns[r]:=gf eh;have gJ:=(iQ.1 af).fits r eh;have aiq:∀ {α:Type} (z:α) (F:an->List α->α),ld z F t=F t.ns[r] (t.ns[r].ap.map (gM z (λd g=>F d (d.ap.map g)) t.ns)):=λz F=>WL af eD eh;refine bd.mk [] [] _ (.refl _) (ahc (M0:=[]) bl aw af eD eh) ?_;rintro v J N -⟨rfl,bL,rfl⟩;subst J;by_cases al:t.ns[r].k=3
  ·refine cP.mk (λ_=>?_) (λh=>absurd h (by simp[an.cA,al]));refine a9.mk (λaL=>?_) (λaL=>?_)
   ·have aL:t.ns[r].t=nm:=dV aL;refine⟨_,_,.refl,λ_ _ h=>h,rfl,body,rfl,ah,⟨H0,λz F bf=>?_⟩,?_⟩
    ·rw[aiq,vk,ck ⟨al,aL⟩]
    ·have:=mq B (show 1<=t.ns.length by omega);omega
   ·have dR:¬ (t.ns[r].k=3/\t.ns[r].t=nm):=λh=>absurd h.2 (eO aL);refine bd.whole _ (WD (M0:=[]) bl aw af (by omega) eD) ?_;rintro v iW N -⟨fC,ks,L,fl,rfl,gq,k8,zf⟩;subst N;rw[m5]at k8 zf;obtain⟨Er,N9,Ep⟩:=WV af eh k8 λq aK=>(zf q aK).2;have air:ks.n=L.length:=by have:=fl.len;rw[hM _ 2 (λ_=>rfl)]at this;omega
    have ais:(L.map λt:bw=>t.ns.length).sum*B+B<=t.ns.length*B:=by have:=mq B N9;rw[ke,oO]at this;exact this
    have ait:L.length<=t.ns.length:=by
     have:L.length<=(L.map λt:bw=>t.ns.length).sum:=N7 λx ab=>by obtain⟨q,aK,rfl⟩:=hz ab;have:=kG (Er q aK);omega
     omega
    refine dI.inv (ι:=Nat×aU×List bw×aM) (λx=>{ bn:=[(1,.val (.string nm)),(3,.ref 3 0),(5,.ref 5 0),(6,.ref 6 0),(8,.ref 8 0),(9,.val x.2.1.val),(10,.val ks.val),(11,.val (.int .i64 x.1))],cl:=[(3,t.cells),(5,body.cells),(6,[.slice none 0 0,.int .i64 0]),(8,(t.ns[r].cA []).cells)],c2:=x.2.2.2,dx:=x.2.1.aq 31++(ks.aq 31++[]) }) (λx=>WU iW nm body t [] L B x) (λx=>L.length-x.1) ?_ ?_;·exact⟨(0,jz,[],iW),⟨dO _,ob 2,rfl,λ_ _ h=>h,(λq h=>absurd h (ot _)),by simp⟩,.refl,h1,.cons rfl (.cons rfl (.cons rfl (.cons rfl (.nil))))⟩
    rintro⟨i,lo,ie,J⟩⟨hi,dG,sD,bL,dN,tO⟩;simp only at hi dG sD bL dN tO;have Es:lo.n=ie.length:=by have:=dG.len;rw[hM _ 2 (λ_=>rfl)]at this;omega
    refine a9.mk (λh=>?_) (λh=>?_)
    ·have aW:i<L.length:=by have:(i:Int)<(ks.n:Int):=dV h;omega
     obtain⟨aV,bU,bB⟩:=aU.ok.row (I:=J) (M:=lo.aq 31++(ks.aq 31++[])) (e:=31) (f:=bw.cells) (size:=2) (λ_=>rfl) (by decide) fl (λz a'=>by simp[a']) aW;have N':=(zf i aW).1.mono bL;have Ed:=Er i aW;have Oa:L[i].ns.length<=(L.map λt:bw=>t.ns.length).sum:=HZ (cG.2 ⟨L[i],b9 aW,rfl⟩);have aiu:=mq B Oa;refine dh.I5 a4 rfl rfl rfl (ι:=Nat×bw×aM) (λy=>{ bn:=[(1,.val (.string nm)),(3,.ref 3 0),(5,.ref 5 0),(6,.ref 6 0),(8,.ref 8 0),(9,.val lo.val),(10,.val ks.val),(11,.val (.int .i64 i)),(12,.val (ptr y.1)),(13,.val (.bool true))],cl:=[(3,t.cells),(5,body.cells),(6,[.slice none 0 0,.int .i64 0]),(8,(t.ns[r].cA []).cells)],c2:=y.2.2,dx:=⟨y.1,.cells y.2.1.cells.toArray 31 (0,0)⟩::(lo.aq 31++(ks.aq 31++[])) }) (λy=>(∀ b o,J b=some o->y.2.2 b=some o)/\y.2.1.ok y.2.2/\xj nm body L[i] y.2.1/\y.2.1.ns.length<=L[i].ns.length*B) ?_ ?_
     ·refine bu.mk aV i bU rfl (by omega) ?_;refine aZ.mk _ bB ?_;have Et:=λ(M:List aE)=>Spec.frame (M:=M) (N8 (nm:=nm) Hh m ((bl.mono fC).mono bL) ((ah.mono fC).mono bL) H0 N' Ed (by omega) (by omega));refine⟨?_,?_⟩
      ·refine bd.whole _ (Et _) ?_;rintro v lU N -⟨ow,gq,-,-,kw,rfl,bj,rfl,hU,dy,jm⟩;subst N;refine cJ.mk λql Ob Oc=>?_;refine cn.mk [] _ _ _ rfl rfl (bH rfl) rfl ?_;exact⟨(ql,bj,lU),⟨kw,hU,dy,jm⟩,.refl,E',.cons rfl (.cons rfl (.cons rfl (.cons rfl (.nil))))⟩
      ·refine cJ.mk λql Ob Oc=>?_;refine fv.whole _ (Et _) (λv I' M' h x ab=>by obtain⟨ow,gq,-⟩:=h;rw[gq];exact nQ _ ab) ?_;rintro v lU N -⟨ow,gq,-,-,kw,rfl,bj,rfl,hU,dy,jm⟩;subst N;refine cn.mk [] _ _ _ rfl rfl (bH rfl) rfl ?_;exact⟨(ql,bj,lU),⟨kw,hU,dy,jm⟩,.refl,E',.cons rfl (.cons rfl (.cons rfl (.cons rfl (.nil))))⟩
     rintro⟨ql,bj,lU⟩⟨kw,hU,dy,jm⟩;simp only at kw hU dy jm;refine a9.mk (λh=>absurd h (by simp)) (λ_=>?_);refine aZ.mk bj.cells (cX (b:=ql) (cs:=bj.cells) (k:=0) (n:=2) (.head _) (bH rfl)) ?_;refine cJ.mk λaiv aiw aix=>?_;refine br.lN a4 rfl (by simp) (e:=31) rfl rfl rfl lo dG rfl (cs:=[.slice bj.a bj.n bj.c,.int .i64 bj.bm]) rfl rfl rfl [⟨ql,.cells bj.cells.toArray 31 (0,0)⟩] (ks.aq 31++[]) rfl (by omega) (by show(lo.n+1)*32<=_;omega) ?_;intro xl lR gd hc;refine bi.mk _ (de (i:=i) (by omega)) ?_;refine⟨(i+1,xl,ie++[bj],lU),⟨⟨aW,?_,by simp[sD],λb o h=>kw _ _ (bL _ _ h),λq aK k3=>?_,?_⟩,by simp only;omega⟩,.sub (.cons _ (.refl _)) .refl,h1,.cons rfl (.cons rfl (.cons rfl (.cons rfl (.nil))))⟩;·simp only;rw[gK];exact hc
     ·simp only at aK |-;by_cases e:q<ie.length
      ·rw[r7 e];exact⟨(dN q e k3).1.mono kw,(dN q e k3).2⟩
      ·have:q=i:=by simp at aK;omega
       subst this;rw[uG (by omega)];simp only[sD,kn,oM];exact⟨hU,dy⟩
     ·simp only;rw[gD aW,dc,dc,rR,rR,ke];simp only[cc,h3,jb,zV,ms];omega
    have cV:i=L.length:=by have:¬ (i:Int)<(ks.n:Int):=eO h;omega
    subst cV;rw[fT (cI _)]at tO;have pB:∀ x∈ie,x.ok J/\right x=true:=λx ab=>by obtain⟨q,aK,rfl⟩:=hz ab;have:=dN q aK (by omega);exact⟨this.1,this.2.right⟩
    have aiy:(ie.map (·.n)).sum=(ie.map λt:bw=>t.ns.length).sum:=by congr 1;exact fy λx ab=>((pB x ab).1.n).symm
    refine bd.zo λe8=>?_;obtain⟨kL,hw,bg,eu⟩:=aU.Ac (I:=J) (b:=32) (e:=31) dG (by omega) (λg ax=>e8.d ⟨g,.cells lo.aS.toArray 31 (0,0)⟩ (by simp[aU.aq,ax])) (ks.aq 31++[]);have ua:=((bl.mono fC).mono bL).mono bg;have eJ:(t.ns[r].cA []).ok kL:=by have:=((aj.mono fC).mono bL).mono bg;exact⟨this.k,this.b3,this.s1,this.s2,this.cm,this.t,this.lo,this.hi,⟨rfl,⟨cI _,(show 0*8<=140737488355328 by decide)⟩,.inl rfl⟩,λk ae=>by cases ae⟩
    have pO:fits (t.ns[r].cA []) (ie.length:Nat)=true:=by rw[Bo,sD,k8];exact gJ
    rw[Es]at eu;have cZ:=WB (M0:=[]) ua eJ eu (λx ab=>⟨(pB x ab).1.mono bg,(pB x ab).2⟩) (by omega) (by omega) pO;rw[<-Es]at cZ;have Eu:hY (List.map (λx:aE=>x.num) []) J (lo.aq 31++(ks.aq 31++[])) kL ([]++(ks.aq 31++[])):=hw;refine bd.BB kL [] (ks.aq 31++[]) _ Eu cZ ?_;rintro v aiz N - -⟨Od,rfl,bj,rfl,hU,mN,dJ⟩;have Ev:=WW (nm:=nm) (body:=body) af eD eh dR k8 Ep (λx ab=>(pB x ab).2) (sD) (λq aK k3=>(dN q aK k3).2) gJ hU mN dJ;refine⟨_,[],.sub (gn _) .refl,λb o h=>Od _ _ (bg _ _ (bL _ _ (fC _ _ h))),rfl,bj,rfl,hU,Ev.1,?_⟩;have:=Ev.2;omega
  ·refine cP.mk (λh=>absurd h (by simp[an.cA,al])) (λ_=>?_);have dR:¬ (t.ns[r].k=3/\t.ns[r].t=nm):=λh=>al h.1;refine bd.whole _ (WD (M0:=[]) bl aw af (by omega) eD) ?_;rintro v iW N -⟨fC,ks,L,fl,rfl,gq,k8,zf⟩;subst N;rw[m5]at k8 zf;obtain⟨Er,N9,Ep⟩:=WV af eh k8 λq aK=>(zf q aK).2;have air:ks.n=L.length:=by have:=fl.len;rw[hM _ 2 (λ_=>rfl)]at this;omega
   have ais:(L.map λt:bw=>t.ns.length).sum*B+B<=t.ns.length*B:=by have:=mq B N9;rw[ke,oO]at this;exact this
   have ait:L.length<=t.ns.length:=by
    have:L.length<=(L.map λt:bw=>t.ns.length).sum:=N7 λx ab=>by obtain⟨q,aK,rfl⟩:=hz ab;have:=kG (Er q aK);omega
    omega
   refine dI.inv (ι:=Nat×aU×List bw×aM) (λx=>{ bn:=[(1,.val (.string nm)),(3,.ref 3 0),(5,.ref 5 0),(6,.ref 6 0),(8,.ref 8 0),(9,.val x.2.1.val),(10,.val ks.val),(11,.val (.int .i64 x.1))],cl:=[(3,t.cells),(5,body.cells),(6,[.slice none 0 0,.int .i64 0]),(8,(t.ns[r].cA []).cells)],c2:=x.2.2.2,dx:=x.2.1.aq 31++(ks.aq 31++[]) }) (λx=>WU iW nm body t [] L B x) (λx=>L.length-x.1) ?_ ?_;·exact⟨(0,jz,[],iW),⟨dO _,ob 2,rfl,λ_ _ h=>h,(λq h=>absurd h (ot _)),by simp⟩,.refl,h1,.cons rfl (.cons rfl (.cons rfl (.cons rfl (.nil))))⟩
   rintro⟨i,lo,ie,J⟩⟨hi,dG,sD,bL,dN,tO⟩;simp only at hi dG sD bL dN tO;have Es:lo.n=ie.length:=by have:=dG.len;rw[hM _ 2 (λ_=>rfl)]at this;omega
   refine a9.mk (λh=>?_) (λh=>?_)
   ·have aW:i<L.length:=by have:(i:Int)<(ks.n:Int):=dV h;omega
    obtain⟨aV,bU,bB⟩:=aU.ok.row (I:=J) (M:=lo.aq 31++(ks.aq 31++[])) (e:=31) (f:=bw.cells) (size:=2) (λ_=>rfl) (by decide) fl (λz a'=>by simp[a']) aW;have N':=(zf i aW).1.mono bL;have Ed:=Er i aW;have Oa:L[i].ns.length<=(L.map λt:bw=>t.ns.length).sum:=HZ (cG.2 ⟨L[i],b9 aW,rfl⟩);have aiu:=mq B Oa;refine dh.I5 a4 rfl rfl rfl (ι:=Nat×bw×aM) (λy=>{ bn:=[(1,.val (.string nm)),(3,.ref 3 0),(5,.ref 5 0),(6,.ref 6 0),(8,.ref 8 0),(9,.val lo.val),(10,.val ks.val),(11,.val (.int .i64 i)),(12,.val (ptr y.1)),(13,.val (.bool true))],cl:=[(3,t.cells),(5,body.cells),(6,[.slice none 0 0,.int .i64 0]),(8,(t.ns[r].cA []).cells)],c2:=y.2.2,dx:=⟨y.1,.cells y.2.1.cells.toArray 31 (0,0)⟩::(lo.aq 31++(ks.aq 31++[])) }) (λy=>(∀ b o,J b=some o->y.2.2 b=some o)/\y.2.1.ok y.2.2/\xj nm body L[i] y.2.1/\y.2.1.ns.length<=L[i].ns.length*B) ?_ ?_
    ·refine bu.mk aV i bU rfl (by omega) ?_;refine aZ.mk _ bB ?_;have Et:=λ(M:List aE)=>Spec.frame (M:=M) (N8 (nm:=nm) Hh m ((bl.mono fC).mono bL) ((ah.mono fC).mono bL) H0 N' Ed (by omega) (by omega));refine⟨?_,?_⟩
     ·refine bd.whole _ (Et _) ?_;rintro v lU N -⟨ow,gq,-,-,kw,rfl,bj,rfl,hU,dy,jm⟩;subst N;refine cJ.mk λql Ob Oc=>?_;refine cn.mk [] _ _ _ rfl rfl (bH rfl) rfl ?_;exact⟨(ql,bj,lU),⟨kw,hU,dy,jm⟩,.refl,E',.cons rfl (.cons rfl (.cons rfl (.cons rfl (.nil))))⟩
     ·refine cJ.mk λql Ob Oc=>?_;refine fv.whole _ (Et _) (λv I' M' h x ab=>by obtain⟨ow,gq,-⟩:=h;rw[gq];exact nQ _ ab) ?_;rintro v lU N -⟨ow,gq,-,-,kw,rfl,bj,rfl,hU,dy,jm⟩;subst N;refine cn.mk [] _ _ _ rfl rfl (bH rfl) rfl ?_;exact⟨(ql,bj,lU),⟨kw,hU,dy,jm⟩,.refl,E',.cons rfl (.cons rfl (.cons rfl (.cons rfl (.nil))))⟩
    rintro⟨ql,bj,lU⟩⟨kw,hU,dy,jm⟩;simp only at kw hU dy jm;refine a9.mk (λh=>absurd h (by simp)) (λ_=>?_);refine aZ.mk bj.cells (cX (b:=ql) (cs:=bj.cells) (k:=0) (n:=2) (.head _) (bH rfl)) ?_;refine cJ.mk λaiv aiw aix=>?_;refine br.lN a4 rfl (by simp) (e:=31) rfl rfl rfl lo dG rfl (cs:=[.slice bj.a bj.n bj.c,.int .i64 bj.bm]) rfl rfl rfl [⟨ql,.cells bj.cells.toArray 31 (0,0)⟩] (ks.aq 31++[]) rfl (by omega) (by show(lo.n+1)*32<=_;omega) ?_;intro xl lR gd hc;refine bi.mk _ (de (i:=i) (by omega)) ?_;refine⟨(i+1,xl,ie++[bj],lU),⟨⟨aW,?_,by simp[sD],λb o h=>kw _ _ (bL _ _ h),λq aK k3=>?_,?_⟩,by simp only;omega⟩,.sub (.cons _ (.refl _)) .refl,h1,.cons rfl (.cons rfl (.cons rfl (.cons rfl (.nil))))⟩;·simp only;rw[gK];exact hc
    ·simp only at aK |-;by_cases e:q<ie.length
     ·rw[r7 e];exact⟨(dN q e k3).1.mono kw,(dN q e k3).2⟩
     ·have:q=i:=by simp at aK;omega
      subst this;rw[uG (by omega)];simp only[sD,kn,oM];exact⟨hU,dy⟩
    ·simp only;rw[gD aW,dc,dc,rR,rR,ke];simp only[cc,h3,jb,zV,ms];omega
   have cV:i=L.length:=by have:¬ (i:Int)<(ks.n:Int):=eO h;omega
   subst cV;rw[fT (cI _)]at tO;have pB:∀ x∈ie,x.ok J/\right x=true:=λx ab=>by obtain⟨q,aK,rfl⟩:=hz ab;have:=dN q aK (by omega);exact⟨this.1,this.2.right⟩
   have aiy:(ie.map (·.n)).sum=(ie.map λt:bw=>t.ns.length).sum:=by congr 1;exact fy λx ab=>((pB x ab).1.n).symm
   refine bd.zo λe8=>?_;obtain⟨kL,hw,bg,eu⟩:=aU.Ac (I:=J) (b:=32) (e:=31) dG (by omega) (λg ax=>e8.d ⟨g,.cells lo.aS.toArray 31 (0,0)⟩ (by simp[aU.aq,ax])) (ks.aq 31++[]);have ua:=((bl.mono fC).mono bL).mono bg;have eJ:(t.ns[r].cA []).ok kL:=by have:=((aj.mono fC).mono bL).mono bg;exact⟨this.k,this.b3,this.s1,this.s2,this.cm,this.t,this.lo,this.hi,⟨rfl,⟨cI _,(show 0*8<=140737488355328 by decide)⟩,.inl rfl⟩,λk ae=>by cases ae⟩
   have pO:fits (t.ns[r].cA []) (ie.length:Nat)=true:=by rw[Bo,sD,k8];exact gJ
   rw[Es]at eu;have cZ:=WB (M0:=[]) ua eJ eu (λx ab=>⟨(pB x ab).1.mono bg,(pB x ab).2⟩) (by omega) (by omega) pO;rw[<-Es]at cZ;have Eu:hY (List.map (λx:aE=>x.num) []) J (lo.aq 31++(ks.aq 31++[])) kL ([]++(ks.aq 31++[])):=hw;refine bd.BB kL [] (ks.aq 31++[]) _ Eu cZ ?_;rintro v aiz N - -⟨Od,rfl,bj,rfl,hU,mN,dJ⟩;have Ev:=WW (nm:=nm) (body:=body) af eD eh dR k8 Ep (λx ab=>(pB x ab).2) (sD) (λq aK k3=>(dN q aK k3).2) gJ hU mN dJ;refine⟨_,[],.sub (gn _) .refl,λb o h=>Od _ _ (bg _ _ (bL _ _ (fC _ _ h))),rfl,bj,rfl,hU,Ev.1,?_⟩;have:=Ev.2;omega
def WX{α β:Type}{z:α}{xm:β}(R:α->β->Prop)(a':R z xm){f:an->(Int->α)->α}{n4:an->(Int->β)->β}:∀ (ns:List an) (aP:List α) (q7:List β),aP.length=q7.length->(∀ i,R (aP.getD i z) (q7.getD i xm))->(∀ d∈ns,∀ g cN,(∀ k,R (g k) (cN k))->R (f d g) (n4 d cN))->∀ i,R ((fb z f ns aP).getD i z) ((fb xm n4 ns q7).getD i xm)
 |[],aP,q7,_,h,_=>h
 |d::ns,aP,q7,av,h,az=>by
  rw[fb,fb];refine WX R a' ns _ _ (by simp[av]) (λi=>?_) λx ab=>az x (.tail _ ab);have aa:=az d (.head _) (λk=>aP.getD k.toNat z) (λk=>q7.getD k.toNat xm) λk=>h _;have ad:=h i;simp only[cv]at aa ad |-;by_cases e:i<aP.length;·rw[oL e,oL (by omega)];exact ad
  ·rw[jW (by omega),jW (by omega),<-av];cases hi:i-aP.length with
   |zero=>exact aa| succ q=>exact a'
def aiA{β:Type}{z:α}{xm:β}(R:α->β->Prop)(a':R z xm){f:an->(Int->α)->α}{n4:an->(Int->β)->β}{ns:List an}(az:∀ d∈ns,∀ g cN,(∀ k,R (g k) (cN k))->R (f d g) (n4 d cN))(j:Int):R (gM z f ns j) (gM xm n4 ns j):=
 WX R a' ns [] [] rfl (λi=>by simpa using a') az _
abbrev xn:=(aI×List Nat)×Bool
def H2:xn:=((bK,[]),false)
def lg(pl:List (ByteArray×Int))(F:List aI)(t:bw):xn:=ld H2 (k' pl F) t
def WY(pl:List (ByteArray×Int))(F:List aI)(t:bw):lg pl F t=m3 pl F t.ns t.bm:=rfl
def aiB(af:right t=true):(lg pl F t).1.1=(dF pl F t.ns []).getD t.bm.toNat bK:=by obtain⟨ib,gA⟩:=kG af;obtain⟨r,eD⟩:=eN ib;rw[WY,eD,HD af (r+1) r (by omega) (by omega),KV]
def WZ{a:Nat}{p8:List Nat}:∀ {xs ys:List (aI×List Nat)},xs.length=ys.length->(∀ i (h:i<xs.length) (bq:i<ys.length),xs[i].1=ys[i].1/\∀ k∈xs[i].2,k∈ys[i].2\/(a∈ys[i].2/\k∈p8))->∀ k∈iw xs,k∈iw ys\/(a∈iw ys/\k∈p8)
 |[],[],_,_,k,h=>by cases h
 |x::xs,y::ys,av,h,k,ae=>by
  have ay:=h 0 (by simp) (by simp);simp only[oM]at ay;rw[iw]at ae |-;rcases cO.1 ae with ae | ae
  ·rcases ay.2 k ae with aa | ⟨aa,ad⟩
   ·exact .inl (h2 _ aa)
   ·exact .inr ⟨h2 _ aa,ad⟩
  ·rw[ay.1]at ae;cases a':y.1.z with
   |false=>rw[a']at ae;cases ae
   |true=>
    rw[a']at ae;rcases WZ (xs:=xs) (ys:=ys) (by simpa using av) (λi g cN=>by
     have aa:=h (i+1) (by simp;omega) (by simp;omega);simpa only[Fa]using aa) k ae with aa | ⟨aa,ad⟩
    ·exact .inl (nQ _ aa)
    ·exact .inr ⟨nQ _ aa,ad⟩
structure Ew(a:Nat)(p8:List Nat)(tm:Bool)(x y:xn):Prop where
 bn:x.1.1=y.1.1
 Oe:∀ k∈x.1.2,k∈y.1.2\/(a∈y.1.2/\k∈p8)
 en:x.2=true->y.2=true\/tm=true
def aiC{a b:Bool}(h:(a||b)=true):a=true\/b=true:=by cases a<;>simp_all
def aiD{a:Nat}{b:xn}(nz:((dz nm pl).getD 0).toNat=a)(aiE:F'.getD a bK=b.1.1)(bf:∀ d∈t.ns,d.k=3->d.t≠nm->F.getD ((dz d.t pl).getD 0).toNat bK=F'.getD ((dz d.t pl).getD 0).toNat bK)(c0:∀ d∈t.ns,d.k=3->d.ap=[]) :
  Ew a b.1.2 b.2 (ld H2 (vk nm b (k' pl F)) t) (lg pl F' t):=by
 refine aiA (Ew a b.1.2 b.2) ⟨rfl,(λk ae=>by cases ae),(λh=>by cases h)⟩ (λd aj g cN ax=>?_) _;unfold vk;by_cases al:d.k=3/\d.t=nm
 ·rw[ck al];obtain⟨al,rfl⟩:=al;have ae:=c0 d aj al;show Ew a b.1.2 b.2 b (k' pl F' d (d.ap.map cN));rw[ae];unfold k' og;have aA:fH d (([]:List aI)++bif decide (d.k=3)then [F'.getD ((dz d.t pl).getD 0).toNat bK]else [])=b.1.1:=by rw[h6 al,bZ,nz,aiE];unfold fH;simp[al]
  refine⟨aA.symm,λk ae=>.inr ⟨?_,ae⟩,λh=>.inr h⟩;show a∈iS pl d _;rw[iS,h6 al,bZ,nz];exact .head _
 ·rw[ca al];have hm:((d.ap.map g).map (·.1)).map (·.1)=((d.ap.map cN).map (·.1)).map (·.1):=by rw[gz,gz,gz,gz];exact fy λk _=>(ax k).bn
  have ah:(bif decide (d.k=3)then [F.getD ((dz d.t pl).getD 0).toNat bK]else [])=(bif decide (d.k=3)then [F'.getD ((dz d.t pl).getD 0).toNat bK]else []):=by
   by_cases e:d.k=3;·rw[bf d aj e λaA=>al ⟨e,aA⟩]
   ·rw[eU e];rfl
  have M7:∀ k∈((d.ap.map g).map (·.1)).flatMap (·.2),k∈((d.ap.map cN).map (·.1)).flatMap (·.2)\/(a∈((d.ap.map cN).map (·.1)).flatMap (·.2)/\k∈b.1.2):=by
   intro k ae;obtain⟨x,ab,ae⟩:=hg.1 ae;obtain⟨y,aD,rfl⟩:=cG.1 ab;obtain⟨q,aK,rfl⟩:=cG.1 aD;have dy:(cN q).1∈(d.ap.map cN).map (·.1):=Bq (f:=(·.1)) (Bq (f:=cN) aK);rcases(ax q).Oe k ae with aa | ⟨aa,ad⟩;·exact .inl (hg.2 ⟨_,dy,aa⟩)
   ·exact .inr ⟨hg.2 ⟨_,dy,aa⟩,ad⟩
  refine⟨?_,?_,?_⟩;·show fH d (((d.ap.map g).map (·.1)).map (·.1)++_)=fH d (((d.ap.map cN).map (·.1)).map (·.1)++_);rw[hm,ah]
  ·show ∀ k∈iS pl d ((d.ap.map g).map (·.1)),k∈iS pl d ((d.ap.map cN).map (·.1))\/(a∈iS pl d ((d.ap.map cN).map (·.1))/\k∈b.1.2);unfold iS;by_cases bY:d.k=3
   ·rw[h6 bY];exact λk ae=>.inl ae
   rw[eU bY];by_cases dE:d.k=4;·rw[h6 dE];refine WZ (by simp) λi h bq=>?_;simp only[hN];exact⟨(ax _).bn,(ax _).Oe⟩
   rw[eU dE];by_cases k6:d.k=6/\d.hi=0;·rw[h6 k6.1,h6 k6.2];exact λk ae=>.inl ae
   ·have e:(decide (d.k=6)&&decide (d.hi=0))=false:=by rw[<-Bool.decide_and];exact eU k6
    rw[e];exact M7
  ·show vb pl F d (d.ap.map g)=true->vb pl F' d (d.ap.map cN)=true\/b.2=true;intro h;obtain⟨x,ab,h⟩:=yV.1 h;obtain⟨q,aK,rfl⟩:=cG.1 ab;rcases aiC h with h | h
   ·refine .inl (yV.2 ⟨cN q,Bq aK,?_⟩);rw[<-(ax q).bn,h,Bool.true_or]
   ·rcases(ax q).en h with h | h
    ·exact .inl (yV.2 ⟨cN q,Bq aK,by rw[h,Bool.or_true]⟩)
    ·exact .inr h
structure W0{α:Type}(F:an->List α->α):Prop where
 ap:∀ d l,F (d.cA l)=F d
 one:∀ d x,d.k=4\/d.k=5->F d [x]=x
 nest:∀ d h' xs ys er,d.k=4\/d.k=5->h'.k=d.k->F d (xs++F h' ys::er)=F d (xs++(ys++er))
 drop:∀ d h' xs er,d.k=4->h'.k=0->F d (xs++F h' []::er)=F d (xs++er)
 aiF:∀ d h',d.k=4->h'.k=0->F d []=F h' []
 aiG:∀ d h',d.k=5->h'.k=1->h'.b3=0->h'.s1=0->h'.s2=0->h'.cm=0->F d []=F h' []
def Ex(xs ys:List (aI×List Nat)):iw (xs++ys)=iw xs++bif xs.all (·.1.z)then iw ys else []:=by
 induction xs with
 |nil=>rfl
 |cons x xs aR=>
  rw[qO,iw,iw,aR,tT];cases x.1.z<;>simp
def aiH(ks:List aI)(aN:aI×Bool):(ks.foldl jA aN).1.z=(aN.1.z&&ks.all (·.z)):=by
 induction ks generalizing aN with
 |nil=>simp| cons k ks aR=>rw[iY,aR,tT];simp[jA,Bool.and_assoc]
def W1(ks:List aI)(aN:aI×Bool):(ks.foldl jA aN).1.s=(aN.1.s||ks.any (·.s)):=by
 induction ks generalizing aN with
 |nil=>simp| cons k ks aR=>rw[iY,aR,List.any_cons];simp[jA,Bool.or_assoc]
def Ey(ks:List aI)(aN:aI×Bool):(ks.foldl jA aN).2=(aN.2&&ks.all (·.jf)):=by
 induction ks generalizing aN with
 |nil=>simp| cons k ks aR=>rw[iY,aR,tT];simp[jA,Bool.and_assoc]
def aiI(ks:List aI):∀ aN:aI×Bool,(ks.foldl jA aN).1.f=(aN.1.f||(aN.2&&(gP ks).1.f)):=by
 unfold gP
 induction ks with
 |nil=>intro aN;simp
 |cons k ks aR=>
  intro aN;rw[iY,iY,aR,aR (jA _ k)];simp only[jA];cases aN.1.f<;>cases aN.2<;>cases k.f<;>cases k.jf<;>simp
def Ez(ks:List aI):(gQ ks).z=ks.all (·.z):=by show(gP ks).1.z=_;unfold gP;rw[aiH,n3]
def Of(ks:List aI):(gQ ks).jf=ks.all (·.jf):=by
 have aa:=Ez ks;have ad:(gQ ks).s=(ks.any (·.s)&&ks.all (·.jf)):=by show((gP ks).1.s&&(gP ks).2)=_;unfold gP;rw[W1,Ey,rG,n3]
 have al:(gQ ks).jf=((gQ ks).z||(gQ ks).s):=rfl;rw[al,aa,ad];clear aa ad al
 induction ks with
 |nil=>rfl
 |cons k ks aR=>
  rw[tT,List.any_cons,tT];have h:k.jf=(k.z||k.s):=rfl;rw[h,<-aR];cases k.z<;>cases k.s<;>cases ks.all (·.z)<;>cases ks.any (·.s)<;>simp_all
def W2(xs ys er:List aI):gQ (xs++gQ ys::er)=gQ (xs++(ys++er)):=by
 have a':(gQ (xs++gQ ys::er)).z=(gQ (xs++(ys++er))).z:=by rw[Ez,Ez];simp[Ez]
 have hu:(gP (xs++gQ ys::er)).2=(gP (xs++(ys++er))).2:=by unfold gP;rw[Ey,Ey];simp[Of]
 have az:(gQ (xs++gQ ys::er)).f=(gQ (xs++(ys++er))).f:=by
  show(gP _).1.f=(gP _).1.f;have e:∀ a b:List aI,(gP (a++b)).1.f=((gP a).1.f||((gP a).2&&(gP b).1.f)):=by intro a b;show((a++b).foldl jA (⟨true,false,false⟩,true)).1.f=_;rw[q0,aiI];rfl
  have aA:∀ (y:aI) (b:List aI),(gP (y::b)).1.f=(y.f||(y.jf&&(gP b).1.f)):=by intro y b;have:=e [y] b;rw[p7]at this;rw[this];show((false||(true&&y.f))||((true&&y.jf)&&_))=_;rw[rG,n3,n3]
  rw[e,e xs,aA,e ys,Of];have a0:(gP ys).2=ys.all (·.jf):=by unfold gP;rw[Ey,n3]
  rw[a0];rfl
 have ar:(gQ (xs++gQ ys::er)).s=(gQ (xs++(ys++er))).s:=by
  have aa:∀ ks,(gQ ks).s=(ks.any (·.s)&&ks.all (·.jf)):=by intro ks;show((gP ks).1.s&&(gP ks).2)=_;unfold gP;rw[W1,Ey,rG,n3]
  rw[aa,aa];simp only[List.any_append,List.any_cons,Cl,tT,Of,aa];cases xs.any (·.s)<;>cases ys.any (·.s)<;>cases er.any (·.s)<;>cases xs.all (·.jf)<;>cases ys.all (·.jf)<;>cases er.all (·.jf)<;>rfl
 cases aY:gQ (xs++gQ ys::er);cases ah:gQ (xs++(ys++er));rw[aY,ah]at a' az ar;simp only at a' az ar;rw[a',az,ar]
def aiJ(ks:List aI):∀ f:aI,ks.foldl mT f=mT f (od ks):=by
 unfold od
 induction ks with
 |nil=>intro f;simp[mT]
 |cons k ks aR=>
  intro f;rw[iY,iY,aR,aR (mT _ k)];simp only[mT,aI.mk.injEq];refine⟨?_,?_,?_⟩<;>cases f.z<;>cases f.s<;>cases f.f<;>cases k.z<;>cases k.s<;>cases k.f<;>simp
def aiK(xs ys er:List aI):od (xs++od ys::er)=od (xs++(ys++er)):=by show(xs++od ys::er).foldl mT _=(xs++(ys++er)).foldl mT _;rw[q0,q0,q0,iY,<-aiJ ys]
def aiL(x:aI):gQ [x]=x:=by cases x with | mk z s f=>cases z<;>cases s<;>cases f<;>rfl
def aiM(x:aI):od [x]=x:=by cases x with | mk z s f=>cases z<;>cases s<;>cases f<;>rfl
def aiN{d:an}(h:d.k=4)(ks:List aI):fH d ks=gQ ks:=by unfold fH;simp[h]
def aiO{d:an}(h:d.k=5)(ks:List aI):fH d ks=od ks:=by unfold fH;simp[h]
def zg{d:an}(h:d.k=4)(xs:List xn):k' pl F d xs=((gQ (xs.map (·.1.1)),iw (xs.map (·.1))),xs.any (·.2)):=by unfold k' og iS vb;simp only[aiN h,h,gz];simp;rfl
def EA{d:an}(h:d.k=5)(xs:List xn):k' pl F d xs=((od (xs.map (·.1.1)),(xs.map (·.1)).flatMap (·.2)),xs.any (·.2)):=by unfold k' og iS vb;simp only[aiO h,h,gz];simp;rfl
def W3{d:an}(h:d.k=0):k' pl F d []=((⟨true,false,false⟩,[]),false):=by unfold k' og iS vb fH;simp[h]
def aiP{d:an}(h:d.k=1)(ay:d.o0=true):k' pl F d []=((⟨false,false,true⟩,[]),false):=by unfold k' og iS vb fH;simp[h,ay]
def aiQ(pl:List (ByteArray×Int))(F:List aI):W0 (k' pl F):=by
 refine⟨λd l=>rfl,?_,?_,?_,?_,?_⟩
 ·rintro d x (h | h)
  ·rw[zg h];simp[aiL,iw]
  ·rw[EA h];simp[aiM]
 ·rintro d h' xs ys er (h | h) bq
  ·rw[h]at bq;rw[zg h,zg h,zg bq];have e:(xs++((gQ (ys.map (·.1.1)),iw (ys.map (·.1))),ys.any (·.2))::er).map (·.1.1)=xs.map (·.1.1)++gQ (ys.map (·.1.1))::er.map (·.1.1):=by simp
   rw[e,W2];have a0:iw ((xs++((gQ (ys.map (·.1.1)),iw (ys.map (·.1))),ys.any (·.2))::er).map (·.1))=iw ((xs++(ys++er)).map (·.1)):=by rw[dc,cc,dc,dc,Ex,Ex (xs.map _),Ex (ys.map _),iw];rw[Ez];simp only[F3];rfl
   rw[a0];simp
  ·rw[h]at bq;rw[EA h,EA h,EA bq];have e:(xs++((od (ys.map (·.1.1)),(ys.map (·.1)).flatMap (·.2)),ys.any (·.2))::er).map (·.1.1)=xs.map (·.1.1)++od (ys.map (·.1.1))::er.map (·.1.1):=by simp
   rw[e,aiK];simp
 ·rintro d h' xs er h bq;rw[zg h,zg h,W3 bq];have e:(xs++((⟨true,false,false⟩,[]),false)::er:List xn).map (·.1.1)=xs.map (·.1.1)++gQ []::er.map (·.1.1):=by simp;rfl
  rw[e,W2];have a0:iw ((xs++((⟨true,false,false⟩,[]),false)::er:List xn).map (·.1))=iw ((xs++er).map (·.1)):=by rw[dc,cc,dc,Ex,Ex,iw];rfl
  rw[a0];simp
 ·rintro d h' h bq;rw[zg h,W3 bq];rfl
 ·rintro d h' h bq ay aa ad al;rw[EA h,aiP bq (by unfold an.o0;simp[ay,aa,ad,al])];rfl
inductive a7 where
 |mk:Nat->List a7->a7
namespace a7
def bS:a7->Nat
 |mk k _=>k
def sub:a7->List a7
 |mk _ ks=>ks
mutual
def dL:a7->List Nat
 |mk k ks=>H3 ks++[k]
def H3:List a7->List Nat
 |[]=>[]| a::l=>dL a++H3 l
end
def W4:∀ l:List a7,H3 l=l.flatMap dL
 |[]=>rfl| a::l=>by rw[H3,W4 l];rfl
def mj(k:Nat)(ks:List a7):dL (mk k ks)=ks.flatMap dL++[k]:=by rw[dL,W4]
def ind{P:a7->Prop}(h:∀ k ks,(∀ c∈ks,P c)->P (mk k ks)):∀ T,P T
 |mk k ks=>h k ks (λc au=>ind h c)
def Br:∀ T:a7,T.bS∈T.dL
 |mk k ks=>by rw[mj];exact nQ _ (.head _)
end a7
inductive di(ns:List an):a7->Prop
 |mk {k:Nat} {ks:List a7}:k<ns.length->(nodeAt ns k).ap=ks.map (λc=>(c.bS:Int))->(∀ c∈ks,di ns c)->di ns (.mk k ks)
def sE(ns:List an):Prop:=∀ j (h:j<ns.length),∀ k∈ns[j].ap,0<=k/\k<j
def di.inv{ns:List an}{k:Nat}{ks:List a7}(h:di ns (.mk k ks)):k<ns.length/\(nodeAt ns k).ap=ks.map (λc=>(c.bS:Int))/\∀ c∈ks,di ns c:=by
 cases h with
 |mk aa ad al=>exact⟨aa,ad,al⟩
def di.vm{ns:List an}:∀ {T:a7},di ns T->T.bS<ns.length
 | .mk k ks,h=>h.inv.1
def sE.node{ns:List an}(ae:sE ns){j:Nat}(ai:j<ns.length){k:Int}(h:k∈(nodeAt ns j).ap):0<=k/\k<j:=by rw[gf ai]at h;exact ae j ai k h
def Og{α β:Type}{R:α->β->Prop}:∀ {l:List α},(∀ x∈l,∃ y,R x y)->∃ m:List β,m.length=l.length/\∀ i (h:i<l.length) (bq:i<m.length),R l[i] m[i]
 |[],_=>⟨[],rfl,λi h=>absurd h (ot _)⟩
 |x::l,h=>by
  obtain⟨y,aD⟩:=h x (.head _);obtain⟨m,hm,af⟩:=Og λa aY=>h a (.tail _ aY);refine⟨y::m,by simp[hm],λi hi ct=>?_⟩;cases i with
  |zero=>exact aD| succ i=>exact af i (by simpa using hi) (by simpa using ct)
def di.ex{ns:List an}(ae:sE ns):∀ k,k<ns.length->∃ T:a7,T.bS=k/\di ns T:=by
 intro k
 induction k using Nat.strongRecOn with
 |_ k aR=>
  intro av;obtain⟨ks,aa,ad⟩:=Og (R:=λ(x:Int) (T:a7)=>(T.bS:Int)=x/\di ns T) (l:=(nodeAt ns k).ap) λx ab=>by obtain⟨ay,aa⟩:=ae.node av ab;obtain⟨T,bl,dk⟩:=aR x.toNat (by omega) (by omega);exact⟨T,by omega,dk⟩
  refine⟨.mk k ks,rfl,.mk av ?_ λc au=>?_⟩;·refine qD (by simp[aa]) λi hi ct=>?_;rw[hN];exact(ad i hi (by omega)).1.symm
  ·obtain⟨i,hi,rfl⟩:=hz au;exact(ad i (by omega) hi).2
def di.aiR{ns:List an}:∀ {S:a7},di ns S->∀ {T:a7},di ns T->S.bS=T.bS->S=T:=by
 intro S
 induction S using a7.ind with
 |h k ks aR=>
  intro ej T bl e;cases T with
  |mk eS EB=>
  obtain rfl:k=eS:=e;obtain⟨-,ad,al⟩:=ej.inv;obtain⟨-,mL,uK⟩:=bl.inv;rw[ad]at mL;have av:ks.length=EB.length:=by simpa using congrArg List.length mL
  congr 1;refine qD av λi hi ct=>?_;have aL:(ks.map (λc=>(c.bS:Int)))[i]?=(EB.map (λc=>(c.bS:Int)))[i]?:=by rw[mL]
  rw[mr,mr,dX hi,dX ct]at aL;have bG:(ks[i].bS:Int)=EB[i].bS:=gO aL;exact aR _ (b9 hi) (al _ (b9 hi)) (uK _ (b9 ct)) (by omega)
def di.lt{ns:List an}:∀ {T:a7},di ns T->∀ x∈T.dL,x<ns.length:=by
 intro T
 induction T using a7.ind with
 |h k ks aR=>
  intro h x ab;obtain⟨aa,-,al⟩:=h.inv;rw[a7.mj]at ab;rcases cO.1 ab with ab | ab;·obtain⟨c,au,ab⟩:=hg.1 ab;exact aR c au (al c au) x ab
  ·rw[eK.1 ab];exact aa
def di.W5{ns:List an}(ae:sE ns){k:Nat}{ks:List a7}(h:di ns (.mk k ks)){c:a7}(au:c∈ks):c.bS<k:=by
 obtain⟨aa,ad,al⟩:=h.inv;have:(c.bS:Int)∈(nodeAt ns k).ap:=by rw[ad];exact cG.2 ⟨c,au,rfl⟩
 have:=ae.node aa this;omega
def di.le{ns:List an}(ae:sE ns):∀ {T:a7},di ns T->∀ x∈T.dL,x<=T.bS:=by
 intro T
 induction T using a7.ind with
 |h k ks aR=>
  intro h x ab;obtain⟨aa,-,al⟩:=h.inv;rw[a7.mj]at ab;rcases cO.1 ab with ab | ab;·obtain⟨c,au,ab⟩:=hg.1 ab;have aL:=aR c au (al c au) x ab;have bG:=h.W5 ae au;show x<=k;omega
  ·rw[eK.1 ab];exact cI _
def di.congr{ns:List an}:∀ {T:a7},di ns T->(∀ x∈T.dL,x<pw.length/\(nodeAt pw x).ap=(nodeAt ns x).ap)->di pw T:=by
 intro T
 induction T using a7.ind with
 |h k ks aR=>intro h ab;obtain⟨aa,ad,al⟩:=h.inv;have ei:=ab k (a7.Br (.mk k ks));refine .mk ei.1 (by rw[ei.2,ad]) λc au=>aR c au (al c au) λx aiS=>ab x ?_;rw[a7.mj];exact h2 _ (hg.2 ⟨c,au,aiS⟩)
def W6{ns m:List an}{k:Nat}(ae:k<ns.length):nodeAt (ns++m) k=nodeAt ns k:=by unfold nodeAt;rw[cv,cv,oL ae]
def W7{ns:List an}{d:an}:nodeAt (ns++[d]) ns.length=d:=by unfold nodeAt;rw[cv,jW (cI _),kn];rfl
def di.app{ns:List an}{T:a7}(h:di ns T)(m:List an):di (ns++m) T:=h.congr λx ab=>by have:=h.lt x ab;exact⟨by rw[cL];omega,by rw[W6 this]⟩
def aiT{ns:List an}(aj:gR (dU ns)){j:Nat}(hi:i<ns.length)(ai:j<ns.length)(bs:i≠j){k:Int}(aa:k∈(nodeAt ns i).ap)(ad:k∈(nodeAt ns j).ap):False:=by
 rw[gf hi]at aa;rw[gf ai]at ad;have:=(Aa.1 aj).2;rw[J4]at this;rcases Nat.lt_or_gt_of_ne bs with h | h
 ·exact this i j hi ai h k aa k ad rfl
 ·exact this j i ai hi h k ad k aa rfl
def W8{ns:List an}(aj:gR (dU ns)){j:Nat}(ai:j<ns.length):gR (nodeAt ns j).ap:=by rw[gf ai];exact(Aa.1 aj).1 _ (b9 ai)
def W9{α:Type}(f g:α->Nat):∀ l:List α,(l.map λx=>f x+g x).sum=(l.map f).sum+(l.map g).sum
 |[]=>rfl| a::l=>by simp only[cc,jb,W9 f g l];omega
def W'{α β:Type}(g:β->Nat)(f:α->List β):∀ l:List α,((l.flatMap f).map g).sum=(l.map λa=>((f a).map g).sum).sum
 |[]=>rfl| a::l=>by rw[jO,dc,rR,W' g f l];rfl
def Xa{α:Type}(x:Nat)(f:α->List Nat):∀ l:List α,(l.flatMap f).count x=(l.map λa=>(f a).count x).sum
 |[]=>rfl| a::l=>by rw[jO,List.count_append,Xa x f l];rfl
def tQ(ns:List an)(x y:Nat):Nat:=(nodeAt ns y).ap.count (x:Int)
def Xb(x:Nat):∀ ks:List a7,(ks.map (λc=>(c.bS:Int))).count (x:Int)=(ks.map λc=>if c.bS=x then 1 else 0).sum
 |[]=>rfl
 |c::ks=>by
  rw[cc,List.count_cons,Xb x ks,cc,jb];by_cases e:c.bS=x;·subst e;simp;omega
  ·have:¬ ((c.bS:Int)=x):=by omega
   simp[e,this]
def di.count{ns:List an}(x:Nat):∀ {T:a7},di ns T->T.dL.count x=(if T.bS=x then 1 else 0)+(T.dL.map (tQ ns x)).sum:=by
 intro T
 induction T using a7.ind with
 |h k ks aR=>
  intro h;obtain⟨aa,ad,al⟩:=h.inv;have aA:(ks.map λc=>c.dL.count x)=ks.map λc=>(if c.bS=x then 1 else 0)+(c.dL.map (tQ ns x)).sum:=fy λc au=>aR c au (al c au);have a0:tQ ns x k=(ks.map λc=>if c.bS=x then 1 else 0).sum:=by unfold tQ;rw[ad,Xb]
  rw[a7.mj,List.count_append,Xa,aA,W9,dc,rR,W',vl,List.sum_singleton,a0,List.count_singleton];show _+(if k == x then 1 else 0)=(if k=x then 1 else 0)+_;by_cases e:k=x;·simp[e];omega
  ·simp[e];omega
def di.count_le{ns:List an}(ae:sE ns)(aj:gR (dU ns)){T:a7}(h:di ns T):∀ (m x:Nat),ns.length-x<=m->T.dL.count x<=1
 |0,x,hm=>by
  have:x ∉ T.dL:=λab=>by have:=h.lt x ab;omega
  rw[N3 this];omega
 |m+1,x,hm=>by
  rw[h.count x];by_cases aO:∃ p∈T.dL,(x:Int)∈(nodeAt ns p).ap
  ·obtain⟨p,Xc,uB⟩:=aO;have qU:=h.lt p Xc;have amE:=h.le ae p Xc;have amF:=ae.node qU uB;have e:T.dL.map (tQ ns x)=T.dL.map λy=>if y=p then 1 else 0:=fy λy aD=>by
    by_cases e:y=p;·subst e;rw[ck rfl];unfold tQ;exact Nat.le_antisymm (List.nodup_iff_count.1 (W8 aj qU) _) (List.count_pos_iff.2 uB)
    ·rw[ca e];unfold tQ;exact N3 λqy=>aiT aj (h.lt y aD) qU e qy uB
   have a0:∀ l:List Nat,(l.map λy=>if y=p then 1 else 0).sum=l.count p:=λl=>by
    induction l with
    |nil=>rfl
    |cons a l aR=>
     rw[cc,jb,aR,List.count_cons];by_cases e:a=p;·simp[e];omega
     ·simp[e]
   rw[e,a0,ca (by omega),c9];exact di.count_le ae aj h m p (by omega)
  ·have e:(T.dL.map (tQ ns x)).sum=0:=by
    have:∀ l:List Nat,(∀ y∈l,(x:Int) ∉ (nodeAt ns y).ap)->(l.map (tQ ns x)).sum=0:=λl=>by
     induction l with
     |nil=>intro _;rfl| cons a l aR=>intro av;rw[cc,jb,aR λy aD=>av y (.tail _ aD)];unfold tQ;rw[N3 (av a (.head _))]
    exact this _ λy aD KI=>aO ⟨y,aD,KI⟩
   rw[e];split<;>omega
def di.nodup{ns:List an}(ae:sE ns)(aj:gR (dU ns)){T:a7}(h:di ns T):T.dL.Nodup:=
 List.nodup_iff_count.2 λx=>h.count_le ae aj (ns.length-x) x (cI _)
def H4(h:l.Nodup)(av:∀ x∈l,x<n):l.length<=n:=by have ad:=List.Nodup.length_le_of_subset h (l₂:=List.range n) λx ab=>kb.2 (av x ab);rwa [GB]at ad
def Bs{α β:Type}{f g:α->List β}:∀ {l:List α},(∀ c∈l,(f c).Sublist (g c))->(l.flatMap f).Sublist (l.flatMap g)
 |[],_=>.slnil| a::l,h=>by rw[jO,jO];exact(h a (.head _)).append (Bs λc au=>h c (.tail _ au))
def iX(d:an):Option Int:=if d.k=4\/d.k=5 then some d.k else none
namespace a7
section
variable(ns:List an)
mutual
def m6(b2:Option Int):a7->List a7
 |mk k ks=>if some (nodeAt ns k).k=b2 then H5 b2 ks else [mk k ks]
def H5(b2:Option Int):List a7->List a7
 |[]=>[]| a::l=>m6 b2 a++H5 b2 l
end
mutual
def gk(b2:Option Int):a7->List a7
 |mk k ks=>if some (nodeAt ns k).k=b2 then sF b2 ks else [mk k (sF (iX (nodeAt ns k)) ks)]
def sF(b2:Option Int):List a7->List a7
 |[]=>[]| a::l=>gk b2 a++sF b2 l
end
def Xd(b2:Option Int):∀ l,H5 ns b2 l=l.flatMap (m6 ns b2)
 |[]=>rfl| a::l=>by rw[H5,Xd b2 l];rfl
def zh(b2:Option Int):∀ l,sF ns b2 l=l.flatMap (gk ns b2)
 |[]=>rfl| a::l=>by rw[sF,zh b2 l];rfl
def parts(T:a7):List a7:=T.sub.flatMap (m6 ns (iX (nodeAt ns T.bS)))
def bh:a7->a7
 |mk k ks=>mk k (ks.flatMap (gk ns (iX (nodeAt ns k))))
def vn(b2:Option Int)(k:Nat)(ks:List a7):m6 ns b2 (mk k ks)=if some (nodeAt ns k).k=b2 then ks.flatMap (m6 ns b2)else [mk k ks]:=by rw[m6,Xd]
def rl(b2:Option Int)(k:Nat)(ks:List a7):gk ns b2 (mk k ks)=if some (nodeAt ns k).k=b2 then ks.flatMap (gk ns b2)else [bh ns (mk k ks)]:=by rw[gk,zh,zh];rfl
def Xe:∀ T,(bh ns T).bS=T.bS
 |mk k ks=>rfl
def aiU(b2:Option Int):∀ T,(m6 ns b2 T).map (bh ns)=gk ns b2 T:=by
 intro T
 induction T using a7.ind generalizing b2 with
 |h k ks aR=>
  rw[vn,rl];split;·rw[w5];exact qd λc au=>aR c au b2
  ·rfl
def Xf:∀ T,(bh ns T).sub=(parts ns T).map (bh ns)
 |mk k ks=>by show ks.flatMap _=(ks.flatMap _).map _;rw[w5];exact qd λc au=>(aiU ns _ c).symm
def aiV(b2:Option Int):∀ T,((m6 ns b2 T).flatMap dL).Sublist T.dL:=by
 intro T
 induction T using a7.ind with
 |h k ks aR=>
  rw[vn,mj];split;·rw[ze];exact(Bs λc au=>aR c au).trans (y9 _ _)
  ·rw[qZ,mj];exact .refl _
def aiW(b2:Option Int):∀ T,((gk ns b2 T).flatMap dL).Sublist T.dL:=by
 intro T
 induction T using a7.ind generalizing b2 with
 |h k ks aR=>
  rw[rl,mj];split;·rw[ze];exact(Bs λc au=>aR c au b2).trans (y9 _ _)
  ·rw[qZ];show((mk k (ks.flatMap (gk ns _))).dL).Sublist _;rw[mj,ze];exact(Bs λc au=>aR c au _).append (.refl _)
def aiX:∀ T,((bh ns T).dL).Sublist T.dL
 |mk k ks=>by show((mk k (ks.flatMap (gk ns _))).dL).Sublist _;rw[mj,mj,ze];exact(Bs λc au=>aiW ns _ c).append (.refl _)
def aiY(b2:Option Int):∀ {T},di pw T->∀ S∈m6 ns b2 T,di pw S:=by
 intro T
 induction T using a7.ind with
 |h k ks aR=>
  intro h S ej;rw[vn]at ej;split at ej;·obtain⟨c,au,ej⟩:=hg.1 ej;exact aR c au (h.inv.2.2 c au) S ej
  ·rw[eK.1 ej];exact h
def Xg{T:a7}(h:di ns T):∀ S∈parts ns T,di ns S:=by
 intro S ej;cases T with
 |mk k ks=>
 obtain⟨c,au,ej⟩:=hg.1 ej;exact aiY ns _ (h.inv.2.2 c au) S ej
def aiZ:∀ {T},di ns T->∀ b2,(∀ S,di ns S->S.bS∈(gk ns b2 T).flatMap dL->S.bS<pw.length/\(nodeAt pw S.bS).ap=(parts ns S).map λc=>(c.bS:Int))->∀ U∈gk ns b2 T,di pw U:=by
 intro T
 induction T using a7.ind with
 |h k ks aR=>
  intro h b2 H U hF;rw[rl]at hF H;split at hF;·rename_i e;rw[ck e]at H;obtain⟨c,au,hF⟩:=hg.1 hF;refine aR c au (h.inv.2.2 c au) b2 (λS ej hm=>H S ej ?_) U hF;rw[ze];exact hg.2 ⟨c,au,hm⟩
  ·rename_i e;rw[ca e]at H;rw[eK.1 hF];have ay:=H (mk k ks) h (by simp;exact Br (bh ns (mk k ks)));have he:=Xf ns (mk k ks);refine .mk ay.1 ?_ λai0 Oh=>?_
   ·rw[show(a7.mk k ks).bS=k from rfl]at ay;rw[ay.2];show _=List.map _ (bh ns (mk k ks)).sub;rw[he,gz];exact fy λc au=>by simp[Xe]
   ·obtain⟨c,au,Oh⟩:=hg.1 Oh;refine aR c au (h.inv.2.2 c au) _ (λS ej hm=>H S ej ?_) ai0 Oh;rw[qZ];show S.bS∈(mk k (ks.flatMap (gk ns _))).dL;rw[mj,ze];exact h2 _ (hg.2 ⟨c,au,hm⟩)
def ai1{T:a7}(h:di ns T)(H:∀ S,di ns S->S.bS∈(bh ns T).dL->S.bS<pw.length/\(nodeAt pw S.bS).ap=(parts ns S).map λc=>(c.bS:Int)):di pw (bh ns T):=by
 cases T with
 |mk k ks=>
 have e:gk ns none (mk k ks)=[bh ns (mk k ks)]:=by rw[rl,ca (by simp)]
 refine aiZ ns h none (λS ej hm=>H S ej ?_) _ (by rw[e];exact .head _);rw[e,qZ]at hm;exact hm
end
end a7
inductive bA where
 |mk:an->List bA->bA
def an.bare(d:an):an:=d.cA []
def an.Xh(d:an):d.bare.k=d.k:=rfl
def Xi(d:an):iX d.bare=iX d:=rfl
namespace bA
def d:bA->an
 |mk d _=>d
def sub:bA->List bA
 |mk _ ks=>ks
def ind{P:bA->Prop}(h:∀ d ks,(∀ c∈ks,P c)->P (mk d ks)):∀ T,P T
 |mk d ks=>h d ks (λc au=>ind h c)
section
variable{α:Type}(F:an->List α->α)
mutual
def fold:bA->α
 |mk d ks=>F d (H6 ks)
def H6:List bA->List α
 |[]=>[]| a::l=>fold a::H6 l
end
def Xj:∀ l,H6 F l=l.map (fold F)
 |[]=>rfl| a::l=>by rw[H6,Xj l];rfl
def fold_eq(d:an)(ks:List bA):fold F (mk d ks)=F d (ks.map (fold F)):=by rw[fold,Xj]
end
mutual
def gk(b2:Option Int):bA->List bA
 |mk d ks=>if some d.k=b2 then sF b2 ks else [mk d (sF (iX d) ks)]
def sF(b2:Option Int):List bA->List bA
 |[]=>[]| a::l=>gk b2 a++sF b2 l
end
def zh(b2:Option Int):∀ l,sF b2 l=l.flatMap (gk b2)
 |[]=>rfl| a::l=>by rw[sF,zh b2 l];rfl
def bh:bA->bA
 |mk d ks=>mk d (ks.flatMap (gk (iX d)))
def rl(b2:Option Int)(d:an)(ks:List bA):gk b2 (mk d ks)=if some d.k=b2 then ks.flatMap (gk b2)else [bh (mk d ks)]:=by rw[gk,zh,zh];rfl
end bA
namespace a7
section
variable(ns:List an)
mutual
def bare:a7->bA
 |mk k ks=>.mk (nodeAt ns k).bare (H7 ks)
def H7:List a7->List bA
 |[]=>[]| a::l=>bare a::H7 l
end
def Xk:∀ l,H7 ns l=l.map (bare ns)
 |[]=>rfl| a::l=>by rw[H7,Xk l];rfl
def qm(k:Nat)(ks:List a7):bare ns (mk k ks)=.mk (nodeAt ns k).bare (ks.map (bare ns)):=by rw[bare,Xk]
def ai2(b2:Option Int):∀ T,(gk ns b2 T).map (bare ns)=(bare ns T).gk b2:=by
 intro T
 induction T using a7.ind generalizing b2 with
 |h k ks aR=>
  rw[rl,qm,bA.rl,an.Xh];split;·rw[w5,wj];exact qd λc au=>aR c au b2
  ·show [bare ns (mk k (ks.flatMap (gk ns _)))]=[bA.mk _ ((ks.map (bare ns)).flatMap (bA.gk (iX (nodeAt ns k).bare)))];rw[qm,w5,wj,Xi];congr 2;exact qd λc au=>aR c au _
def ai3:∀ T,bare ns (bh ns T)=(bare ns T).bh
 |mk k ks=>by show bare ns (mk k (ks.flatMap (gk ns _)))=_;rw[qm,qm];show _=bA.mk _ ((ks.map (bare ns)).flatMap (bA.gk (iX (nodeAt ns k).bare)));rw[w5,wj,Xi];congr 1;exact qd λc au=>ai2 ns _ c
def Xl:∀ T,(∀ x∈dL T,(nodeAt pw x).bare=(nodeAt ns x).bare)->bare pw T=bare ns T:=by
 intro T
 induction T using a7.ind with
 |h k ks aR=>intro h;rw[qm,qm,h k (Br (mk k ks))];congr 1;refine fy λc au=>aR c au λx ab=>h x ?_;rw[mj];exact h2 _ (hg.2 ⟨c,au,ab⟩)
def Xm{T:a7}(h:di ns T)(m:List an):bare (ns++m) T=bare ns T:=Xl ns T λx ab=>by rw[W6 (h.lt x ab)]
end
end a7
def Xn{z:α}{F:an->List α->α}(bf:∀ d l,F (d.cA l)=F d){ns:List an}(ae:sE ns):∀ {T:a7},di ns T->gM z (λd g=>F d (d.ap.map g)) ns T.bS=(T.bare ns).fold F:=by
 intro T
 induction T using a7.ind with
 |h k ks aR=>intro bl;obtain⟨aa,ad,al⟩:=bl.inv;have h:=JA (z:=z) (f:=λd g=>F d (d.ap.map g)) ns [] k aa;simp only[gL,c9]at h;rw[a7.qm,bA.fold_eq];show(fb z _ ns []).getD (k:Int).toNat z=F ((nodeAt ns k).cA []) _;rw[bf,cv,kx,h,jG,<-gf aa,ad,gz,gz];congr 1;refine fy λc au=>?_;rw[Function.comp,Function.comp,<-aR c au (al c au)];have:=bl.W5 ae au;unfold gM;rw[cv,cv,j',ck (by omega)]
section
variable{X:cB}{F:Fr}{C:dp}{I:aM}{M:List aE}{o:Oper}
def sX.ai4(aG:cw X.P X.E){x:Operand}{t:Nat}(aC:o.op=.call { callee:=.builtin .append,args:=#[s,x],argTypes:=#[t,t] })
 (aw:X.E t=some c8) (dQ:c8.bE=.slice e) (he:X.E e=some aB)
  (os:aU) (bo:os.ok aB.size xs) (ar:bt F s=.val os.val)
 {m:Nat} (ab:bt F x=.val (.slice (some aV) m c')) (hm:0<m) (aJ:c7 I M aV (m*aB.size) cq) (aa:fN cq=true)
 (a3:M.Perm (os.aq e++Mr)) (b1:os.n+m<=maxLen) (cd:(os.n+m)*aB.bytes<=140737488355328)
  (M':aU->List aE) (yX:∀ bD:aU,(bD.aq e++Mr).Perm (M' bD))
  (k:∀ bD:aU,bD.n=os.n+m->(∀ g,bD.a=some g->I g=none/\(os.a=none->g ∉ X.foot))->bD.ok aB.size (xs++cq)->K (.val bD.val) I (M' bD)):sX X o F C I M K:=by
 refine⟨fun β a w Q kh=>?_⟩;have H8:cq.length=m*aB.size:=by obtain⟨_,_,_,_,_,_,h⟩:=aJ;exact h
 have eZ:∀ w,dT I M w->(Builtin.firstCells aB.size m (.slice (some aV) m c')).run X.P w=.ok cq.toArray w:=λw hw=>by
  obtain⟨cZ,cs,T,ak,e',ag,av⟩:=aJ;refine run_firstCells_some (P:=X.P) w aB.size m aV m c' cq av λj v ai=>?_;rw[dY _ cZ,sP (e'.heap hw)];rw[<-ag,j']at ai;split at ai;·rw[na]at ai;simpa using ai
  ·cases ai
 have aX:cg X β a w F C I (os.aq e++Mr):=kh.hs (.perm a3 .refl);obtain⟨inf,z,hi,fq,h0,ik,kC⟩:=(aG _ _ he).inf;obtain⟨ht,lz,nj⟩:=(aG _ _ aw).eW;have rM:ht=.slice e:=by rw[dQ]at nj;cases ht<;>simp_all[eR]
 subst rM;have uo:z.cells.size=inf.size:=by rw[fq,<-(aG _ _ he).len,<-kC];simp
 have ai5:=bo;rw[<-fq]at bo H8 eZ;obtain⟨g,c,aS,w',eT,a1,ba,b4,gx,n1⟩:=PV (P:=X.P) (w:=w) t t o.type e inf z lz lz (λk cM=>by cases cM) hi ik uo bo (λg ax=>aX.holds.m ⟨g,.cells os.aS.toArray e (0,0)⟩ (by simp[aU.aq,ax])) (x:=.slice (some aV) m c') hm H8 (xA aa) (λ_=>rfl) (λw' Cj=>eZ w' (kh.holds.heap Cj)) b1 (by rw[h0];exact cd);rw[fq]at a1 gx H8;have Jg:I g=none:=by
  rcases n1 with⟨ax,_⟩ | ⟨rfl,_⟩;·exact aX.holds.d ⟨g,.cells os.aS.toArray e (0,0)⟩ (by simp[aU.aq,ax])
  ·cases bC:I w.heap.size with
   |none=>rfl| some mI=>have:=aX.holds.i _ _ bC;simp at this
 have ai6:os.a=none->g ∉ X.foot:=λay hm=>by
  rcases n1 with⟨ax,_⟩ | ⟨rfl,_⟩;·rw[ay]at ax;cases ax
  ·have aa:=aX.eI _ hm;have ad:=aX.sz;omega
 have es:=cS aX.ak ar;have ex:=cS aX.ak ab;have kM:(⟨some g,os.n+m,c,aS⟩:aU).ok aB.size (xs++cq):=by
  refine⟨?_,(λh=>by cases h),λcN ax=>?_⟩;·rw[cL,ai5.len,H8,ke]
  ·cases ax;exact⟨a1,ba,b4,gx⟩
 refine iE (by rw[aC];simp) (v:=.slice (some ⟨g,0,none⟩) (os.n+m) c) (w':=w') ?_ ⟨_,.val (.slice (some ⟨g,0,none⟩) (os.n+m) c),I,M' ⟨some g,os.n+m,c,aS⟩,rfl,rfl,?_,k ⟨some g,os.n+m,c,aS⟩ rfl (λcN ax=>by cases ax;exact⟨Jg,ai6⟩) kM,rfl⟩
 ·unfold execOp;simp only[aC,resolve,invoke,builtin,bV,cH,bN,sV,cc,h3,es,ex,eT]
 ·refine cg.hs ?_ (.perm (yX _) .refl);rcases n1 with⟨ax,rfl⟩ | ⟨rfl,rfl⟩
  ·have ah:os.aq e=[⟨g,.cells os.aS.toArray e (0,0)⟩]:=by simp[aU.aq,ax]
   rw[ah]at aX;exact aX.vu (a5:=[]) (post:=Mr) rfl
  ·have ad:cg X β a w.drew F C I (os.aq e++Mr):=aX.world rfl;have al:=ad.nb (.cells aS.toArray e (0,0));refine al.hs (.sub ?_ .refl);exact List.Sublist.cons_cons _ (lr _ _)
def sX.ai7(aG:cw X.P X.E){x:Operand}{t:Nat}(aC:o.op=.call { callee:=.builtin .append,args:=#[s,x],argTypes:=#[t,t] })
 (aw:X.E t=some c8) (dQ:c8.bE=.slice e) (he:X.E e=some aB)
  (os:aU) (bo:os.ok aB.size xs) (ar:bt F s=.val os.val)
 {m:Nat} (ab:bt F x=.val (.slice (some aV) m c')) (hm:0<m) (aJ:c7 I M aV (m*aB.size) cq) (aa:fN cq=true)
 (a3:M.Perm (os.aq e++Mr)) (b1:os.n+m<=maxLen) (cd:(os.n+m)*aB.bytes<=140737488355328)
  (M':aU->List aE) (yX:∀ bD:aU,(bD.aq e++Mr).Perm (M' bD))
  (k:∀ bD:aU,bD.n=os.n+m->(∀ g,bD.a=some g->I g=none)->bD.ok aB.size (xs++cq)->K (.val bD.val) I (M' bD)):sX X o F C I M K:=
 sX.ai4 aG aC aw dQ he os bo ar ab hm aJ aa a3 b1 cd M' yX λbD aa ad al=>k bD aa (λg ax=>(ad g ax).1) al
def sX.lN(aG:cw X.P X.E){x:Operand}{t:Nat}(aC:o.op=.call { callee:=.builtin .append,args:=#[s,x],argTypes:=#[t,t] })
 (aw:X.E t=some c8) (dQ:c8.bE=.slice e) (he:X.E e=some aB)
  (os:aU) (bo:os.ok aB.size xs) (ar:bt F s=.val os.val)
  {cz:Nat} {cs:List Value} (ab:bt F x=.val (.slice (some ⟨cz,0,none⟩) 1 c')) (av:cs.length=aB.size) (aa:fN cs=true)
  (a5 post:List aE) (a3:M=⟨cz,.cells cs.toArray e (0,0)⟩::(a5++(os.aq e++post))) (b1:os.n+1<=9223372036854775807) (cd:(os.n+1)*aB.bytes<=140737488355328)
  (k:∀ bD:aU,bD.n=os.n+1->(∀ g,bD.a=some g->I g=none)->bD.ok aB.size (xs++cs)->K (.val bD.val) I (⟨cz,.cells cs.toArray e (0,0)⟩::(a5++(bD.aq e++post)))):sX X o F C I M K:=by
 have aO:∀ bD:aU,(bD.aq e++(⟨cz,.cells cs.toArray e (0,0)⟩::(a5++post)):List aE).Perm (⟨cz,.cells cs.toArray e (0,0)⟩::(a5++(bD.aq e++post))):=λbD=>
  nu.trans (.cons _ (CK _ _ _))
 refine .ai7 aG aC aw dQ he os bo ar (m:=1) (cq:=cs) ab (by decide) ?_ aa (Mr:=⟨cz,.cells cs.toArray e (0,0)⟩::(a5++post)) ?_ (by unfold maxLen;exact b1) cd _ aO k
 ·rw[oO];refine⟨rfl,_,_,_,.inr ⟨⟨cz,.cells cs.toArray e (0,0)⟩,by rw[a3];exact .head _,rfl,rfl⟩,?_,av⟩;simp only[xV];exact fT (by omega)
 ·rw[a3];exact(aO os).symm
end
def Xo{G F:Fr}{y:Operand}{r:dd}(h:cR G y=cR F y)(bq:bt F y=r):bt G y=r:=by simp only[bt,cY,h];exact bq
structure bT where
 b:Nat
 os:aU
 ds:List an
def bT.aj(A:bT):aE:=⟨A.b,.cells #[A.os.val] 94 (0,0)⟩
def bT.aq(A:bT):List aE:=A.aj::A.os.aq 66
structure bT.ok(I:aM)(A:bT):Prop where
 os:A.os.ok 9 (A.ds.flatMap an.cells)
 n:A.os.n=A.ds.length
 ds:∀ d∈A.ds,d.ok I
def bT.ok.mono{I':aM}{A:bT}(h:A.ok I)(bC:∀ b o,I b=some o->I' b=some o):A.ok I':=⟨h.os,h.n,λd aj=>(h.ds d aj).mono bC⟩
def Xp{A:bT}(dk:A.ok I)(aJ:A.ds.length<=1099511627776){d:an}(aj:d.ok I) :
  Spec Tryz.prog 163 [ptr A.b,d.val] I A.aq λv I' M'=>v=.int .i64 A.ds.length/\I'=I/\∃ os,M'=bT.aq ⟨A.b,os,A.ds++[d]⟩/\bT.ok I ⟨A.b,os,A.ds++[d]⟩:=by
 refine cp [] a4 Tryz.func163 rfl rfl rfl ?_;intro B ay;obtain⟨k,b3,s1,s2,cm,s,lo,hi,cW,aT,c5,ap⟩:=d;have cC:=dk.os;have bB:∀ (os:aU) (M:List aE),(⟨A.b,.cells #[os.val] 94 (0,0)⟩:aE)∈M->c7 I M ((⟨A.b,0,none⟩:Addr).add 0) 1 [os.val]:=λos M hm=>cX (cs:=[os.val]) (k:=0) (n:=1) (T:=94) hm (by simp);refine dh.draw a4 rfl rfl rfl ?_;refine aZ.mk _ (bB A.os _ (.head _)) ?_;refine cJ.mk λcz qW EC=>?_;intro G oR;refine sX.lN a4 rfl (e:=66) rfl rfl rfl A.os cC (Xo (oR _ (by simp[Op.operands,Call.operands])) rfl) (Xo (oR _ (by simp[Op.operands,Call.operands])) rfl) (cs:=an.cells ⟨k,b3,s1,s2,cm,s,lo,hi,cW,aT,c5,ap⟩) rfl rfl [A.aj] [] (by rw[ee];rfl) (by have:=dk.n;omega) (by have:=dk.n;show(A.os.n+1)*96<=_;omega) ?_;intro bD aa ad al;refine cn.mk [_] (bD.aq _++[]) #[A.os.val] 94 rfl rfl (bH rfl) rfl ?_;refine aZ.mk _ (bB bD _ (.tail _ (.head _))) ?_;have PJ:=dk.n;refine⟨(A.ds.length:Int),?_,?_⟩
 ·rw[wrap_i64 (by unfold gy;omega)];omega
 refine⟨_,_,.sub (M1:=bT.aq ⟨A.b,bD,A.ds++[⟨k,b3,s1,s2,cm,s,lo,hi,cW,aT,c5,ap⟩]⟩) ?_ .refl,rfl,rfl,bD,rfl,?_⟩
 ·show List.Sublist (_::(bD.aq _)) (_::_::(bD.aq _++[]));rw[ee];exact .cons _ (.refl _)
 ·refine⟨?_,?_,λx ab=>?_⟩
  ·rw[gK];simpa using al
  ·rw[aa,cL,dk.n];rfl
  ·rcases cO.1 ab with ab | ab
   ·exact dk.ds x ab
   ·rw[eK.1 ab];exact aj
def an.row(d:an)(a:Option Addr)(n c:Nat)(ks:List Int):an:=⟨d.k,d.b3,d.s1,d.s2,d.cm,d.t,d.lo,d.hi,a,n,c,ks⟩
def an.ok.row{d:an}(h:d.ok I)(af:dZ I a n c 1 8 (ks.map (.int .i64 ·)))(ae:∀ x∈ks,gy x):(d.row a n c ks).ok I:=⟨h.k,h.b3,h.s1,h.s2,h.cm,h.t,h.lo,h.hi,af,ae⟩
def ai8(A:bT)(d:an)(I:aM)(v:Value)(I':aM)(M':List aE):Prop:=v=.int .i64 A.ds.length/\I'=I/\∃ os,M'=bT.aq ⟨A.b,os,A.ds++[d]⟩/\bT.ok I ⟨A.b,os,A.ds++[d]⟩
def Xq{A:bT}(dk:A.ok I)(aJ:A.ds.length<=1099511627776){d:an}(aj:d.ok I)(af:dZ I a n c 1 8 (ks.map (.int .i64 ·)))(ae:∀ x∈ks,gy x) :
  Spec Tryz.prog 110 [ptr A.b,d.val,.slice a n c] I A.aq (ai8 A (d.row a n c ks) I):=by
 refine cp [] a4 Tryz.func110 rfl rfl rfl ?_;intro B ay;have eJ:=aj.row af ae;obtain⟨k,b3,s1,s2,cm,s,lo,hi,cW,aT,c5,ap⟩:=d;have cZ:=Xp dk aJ eJ;refine bd.mk A.aq [] _ (by rw[ee]) cZ ?_;rintro v I' M' -⟨rfl,rfl,os,rfl,h⟩;exact⟨_,_,.sub (M1:=bT.aq ⟨A.b,os,A.ds++[_]⟩) (by simp) .refl,rfl,rfl,os,rfl,h⟩
def m7(d:an)(x:an):Bool:=!decide (d.k=4) || !decide (x.k=0)
def pC(A:bT)(d:an)(os:aU)(p5 p4 p9:Nat):List aE:=⟨p5,.cells d.cells.toArray 66 (0,0)⟩::⟨p4,.cells #[ptr A.b] 98 (0,0)⟩::⟨p9,.cells #[os.val] 55 (0,0)⟩::(os.aq 3++A.aq)
def ai9{A:bT}(dk:A.ok I)(aJ:A.ds.length<=1099511627776){d:an}(aj:d.ok I){l:List Int}(cC:os.ok 1 (l.map (.int .i64 ·)))(av:os.n<=1099511627776){p5 p4 p9 k:Nat}(ae:k<A.ds.length) :
  Spec Tryz.prog 200 [.int .i64 k,ptr p5,ptr p4,ptr p9] I (pC A d os p5 p4 p9) λv I' M'=>I'=I/\∃ bD,M'=pC A d bD p5 p4 p9/\bD.ok 1 ((l++bif m7 d A.ds[k]then [(k:Int)]else []).map (.int .i64 ·)):=by
 refine cp [] a4 Tryz.func200 rfl rfl rfl ?_;intro B ay;obtain⟨aV,bU,bB⟩:=aU.ok.row (I:=I) (M:=pC A d os p5 p4 p9) an.da (by decide) dk.os (e:=66) (λx ab=>by simp[pC,bT.aq,ab]) (j:=k) ae;obtain⟨c6,b3,s1,s2,cm,s,lo,hi,cW,aT,c5,ap⟩:=d;refine aZ.mk [.int .u8 c6] (cX (cs:=an.cells ⟨c6,b3,s1,s2,cm,s,lo,hi,cW,aT,c5,ap⟩) (k:=0) (n:=1) (T:=66) (.head _) (by simp[an.cells])) ?_;refine cP.mk (λaL=>?_) (λaL=>?_)
 ·have dE:c6=4:=by simpa using aL
  refine aZ.mk [ptr A.b] (cX (cs:=[ptr A.b]) (k:=0) (n:=1) (T:=98) (.tail _ (.head _)) (by simp)) ?_;refine aZ.mk [A.os.val] (cX (cs:=[A.os.val]) (k:=0) (n:=1) (T:=94) (by simp[pC,bT.aq,bT.aj]) (by simp)) ?_;refine bu.mk aV k bU rfl (by have:=dk.n;omega) ?_;refine aZ.mk [.int .u8 A.ds[k].k] (c7.part (k:=0) (m:=1) bB (by decide)) ?_;refine a9.mk (λay=>?_) (λay=>?_)
  ·have ae:m7 ⟨c6,b3,s1,s2,cm,s,lo,hi,cW,aT,c5,ap⟩ A.ds[k]=true:=by unfold m7;have iK:(!decide (A.ds[k].k=0))=true:=ay;rw[iK,Bool.or_true]
   refine aZ.mk [os.val] (cX (cs:=[os.val]) (k:=0) (n:=1) (T:=55) (.tail _ (.tail _ (.head _))) (by simp)) ?_;refine cJ.mk λcz qW EC=>?_;refine br.lN a4 rfl (by simp) (e:=3) rfl rfl rfl os cC rfl (cs:=[.int .i64 k]) rfl rfl rfl [_,_,_] A.aq rfl (by omega) (by show(os.n+1)*8<=_;omega) ?_;intro bD aa ad al;refine cn.mk [_,_] (bD.aq 3++A.aq) #[os.val] 55 rfl rfl (bH rfl) rfl ?_;refine⟨_,_,.refl,rfl,bD,rfl,?_⟩;rw[ae,dc];exact al
  ·have ae:m7 ⟨c6,b3,s1,s2,cm,s,lo,hi,cW,aT,c5,ap⟩ A.ds[k]=false:=by unfold m7;have yt:(!decide (c6=4))=false:=aL;have iK:(!decide (A.ds[k].k=0))=false:=ay;rw[yt,iK];rfl
   refine⟨_,_,.refl,rfl,os,rfl,?_⟩;rw[ae];simpa using cC
 ·have ae:m7 ⟨c6,b3,s1,s2,cm,s,lo,hi,cW,aT,c5,ap⟩ A.ds[k]=true:=by unfold m7;have yt:(!decide (c6=4))=true:=aL;rw[yt,Bool.true_or]
  refine aZ.mk [os.val] (cX (cs:=[os.val]) (k:=0) (n:=1) (T:=55) (.tail _ (.tail _ (.head _))) (by simp)) ?_;refine cJ.mk λcz qW EC=>?_;refine br.lN a4 rfl (by simp) (e:=3) rfl rfl rfl os cC rfl (cs:=[.int .i64 k]) rfl rfl rfl [_,_,_] A.aq rfl (by omega) (by show(os.n+1)*8<=_;omega) ?_;intro bD aa ad al;refine cn.mk [_,_] (bD.aq 3++A.aq) #[os.val] 55 rfl rfl (bH rfl) rfl ?_;refine⟨_,_,.refl,rfl,bD,rfl,?_⟩;rw[ae,dc];exact al
def sG:an:=⟨0,0,0,0,0,⟨#[]⟩,0,0,none,0,0,[]⟩
def ig(d:an)(ds:List an)(l:List Nat):List Int:=l.flatMap λk=>bif m7 d (ds.getD k sG)then [(k:Int)]else []
structure aja(A:bT)(d:an)(l:List Nat)(x:Nat×aU):Prop where
 i:x.1<=l.length
 os:x.2.ok 1 ((ig d A.ds (l.take x.1)).map (.int .i64 ·))
def Xr{A:bT}(dk:A.ok I)(aJ:A.ds.length<=1099511627776){d z:an}(aj:d.ok I)(a':z.ok I)(av:∀ k∈l,k<A.ds.length)(qc:l.length<=1099511627776)(af:dZ I a n c 1 8 ((l.map Int.ofNat).map (.int .i64 ·))) :
  Spec Tryz.prog 164 [ptr A.b,d.val,.slice a n c,z.val] I A.aq λv I' M'=>(∀ b o,I b=some o->I' b=some o)/\∃ bD ds' r,M'=bT.aq ⟨A.b,bD,ds'⟩/\bT.ok I' ⟨A.b,bD,ds'⟩/\v=.int .i64 r /\
   ((ig d A.ds l=[]/\r=(A.ds.length:Int)/\ds'=A.ds++[z])\/(ig d A.ds l=[r]/\ds'=A.ds)\/(2<=(ig d A.ds l).length/\r=(A.ds.length:Int)/\∃ bF hB c',ds'=A.ds++[d.row bF hB c' (ig d A.ds l)])):=by
 refine cp [4,5,9] a4 Tryz.func164 rfl rfl rfl ?_;intro B ay;obtain⟨c6,b3,s1,s2,cm,s,lo,hi,cW,aT,c5,ap⟩:=d;obtain⟨ajb,ajc,u1,L7,ajd,er,aje,ajf,ajg,ajh,aji,ajj⟩:=z;refine cJ.mk λp4 NB Hp=>?_;refine cJ.mk λp5 NC amG=>?_;refine cJ.mk λp9 amH EC=>?_;have DM:l.length=n:=by have aa:=af.len;simpa using aa
 refine dI.inv (ι:=Nat×aU) (λx=>{ bn:=[(4,.val (ptr p4)),(5,.val (ptr p5)),(7,.ref 7 0),(9,.val (ptr p9)),(10,.val (.func (.func 200) #[] #[ptr p5,ptr p4,ptr p9])),(14,.val (.slice a n c)),(15,.val (.int .i64 n)),(16,.val (.int .i64 x.1))],cl:=[(7,an.cells ⟨ajb,ajc,u1,L7,ajd,er,aje,ajf,ajg,ajh,aji,ajj⟩)],c2:=I,dx:=pC A ⟨c6,b3,s1,s2,cm,s,lo,hi,cW,aT,c5,ap⟩ x.2 p5 p4 p9 }) (aja A ⟨c6,b3,s1,s2,cm,s,lo,hi,cW,aT,c5,ap⟩ l) (λx=>l.length-x.1) ?_ ?_
 ·refine⟨(0,⟨none,0,0,[]⟩),⟨dO _,⟨rfl,λ_=>⟨rfl,rfl⟩,λg h=>by cases h⟩⟩,.perm ?_ .refl,h1,.cons rfl (.nil)⟩;exact(nu (l₁:=[_,_])).symm
 ·rintro⟨i,os⟩⟨ct,cC⟩;simp only at ct cC;have gw:dZ I a n c 1 8 ((l.map Int.ofNat).flatMap jD):=by rw[py];exact af
  have cu:(ig ⟨c6,b3,s1,s2,cm,s,lo,hi,cW,aT,c5,ap⟩ A.ds (l.take i)).length<=i:=by
   refine lj ?_ (zT i l);generalize l.take i=ed;unfold ig
   induction ed with
   |nil=>exact cI _
   |cons x ed aR=>
    rw[jO,cL,ea];have:(bif m7 ⟨c6,b3,s1,s2,cm,s,lo,hi,cW,aT,c5,ap⟩ (A.ds.getD x sG)then [(x:Int)]else []).length<=1:=by cases m7 ⟨c6,b3,s1,s2,cm,s,lo,hi,cW,aT,c5,ap⟩ (A.ds.getD x sG)<;>simp
    omega
  have h9:=cC.oc;refine a9.mk (λh=>?_) (λh=>?_)
  ·have aW:(i:Int)<n:=dV h;have ev:i<l.length:=by omega
   obtain⟨aV,bU,bB⟩:=gw.row (f:=jD) (λ_=>rfl) (j:=i) (by omega) (by simpa using ev);rw[hN]at bB;refine bu.mk aV i bU rfl (by omega) ?_;refine aZ.mk _ (bB _) ?_;have Bm:=av _ (b9 ev);have cZ:=ai9 (p5:=p5) (p4:=p4) (p9:=p9) dk aJ aj cC (by omega) Bm;refine bd.mk (pC A ⟨c6,b3,s1,s2,cm,s,lo,hi,cW,aT,c5,ap⟩ os p5 p4 p9) [] _ (by rw[ee]) cZ ?_;rintro v I' M' -⟨rfl,bD,rfl,yk⟩;refine bi.mk ((i+1:Nat):Int) (wq (by simp only;omega) (by omega)) ?_;refine⟨(i+1,bD),⟨⟨by simp only;omega,?_⟩,by simp only;omega⟩,.perm (by rw[ee]) .refl,h1,.cons rfl (.nil)⟩
   ·show bD.ok 1 ((ig ⟨c6,b3,s1,s2,cm,s,lo,hi,cW,aT,c5,ap⟩ A.ds (l.take (i+1))).map (.int .i64 ·));have e:ig ⟨c6,b3,s1,s2,cm,s,lo,hi,cW,aT,c5,ap⟩ A.ds (l.take (i+1))=ig ⟨c6,b3,s1,s2,cm,s,lo,hi,cW,aT,c5,ap⟩ A.ds (l.take i)++bif m7 ⟨c6,b3,s1,s2,cm,s,lo,hi,cW,aT,c5,ap⟩ A.ds[l[i]]then [((l[i]:Nat):Int)]else []:=by unfold ig;rw[gD ev,gK];congr 1;simp[cv,Bm]
    rw[e];exact yk
  ·have cV:¬ (i:Int)<n:=eO h;obtain rfl:i=l.length:=by omega
   rw[Fc]at cC cu h9;refine aZ.mk [os.val] (cX (cs:=[os.val]) (k:=0) (n:=1) (T:=55) (.tail _ (.tail _ (.head _))) (by simp)) ?_;have kJ:(pC A ⟨c6,b3,s1,s2,cm,s,lo,hi,cW,aT,c5,ap⟩ os p5 p4 p9).Perm (A.aq++([⟨p5,.cells (an.cells ⟨c6,b3,s1,s2,cm,s,lo,hi,cW,aT,c5,ap⟩).toArray 66 (0,0)⟩,⟨p4,.cells #[ptr A.b] 98 (0,0)⟩,⟨p9,.cells #[os.val] 55 (0,0)⟩]++os.aq 3)):=by
    have:pC A ⟨c6,b3,s1,s2,cm,s,lo,hi,cW,aT,c5,ap⟩ os p5 p4 p9=([⟨p5,.cells (an.cells ⟨c6,b3,s1,s2,cm,s,lo,hi,cW,aT,c5,ap⟩).toArray 66 (0,0)⟩,⟨p4,.cells #[ptr A.b] 98 (0,0)⟩,⟨p9,.cells #[os.val] 55 (0,0)⟩]++os.aq 3)++A.aq:=by simp[pC]
    rw[this];exact ep
   refine a9.mk (λay=>?_) (λay=>?_)
   ·have c1:os.n=0:=by simpa using ay
    refine aZ.mk [ptr A.b] (cX (cs:=[ptr A.b]) (k:=0) (n:=1) (T:=98) (.tail _ (.head _)) (by simp)) ?_;refine bd.mk A.aq _ _ kJ (Xp dk aJ a') ?_;rintro v I' M' -⟨rfl,rfl,hE,rfl,bo⟩;exact⟨_,_,.sub (y9 _ _) .refl,λ_ _ h=>h,hE,_,_,rfl,bo,rfl,.inl ⟨im (by omega),rfl,rfl⟩⟩
   ·refine a9.mk (λaa=>?_) (λaa=>?_)
    ·have aA:os.n=1:=by
      have:(os.n:Int)=1:=by simpa using aa
      omega
     have s':(ig ⟨c6,b3,s1,s2,cm,s,lo,hi,cW,aT,c5,ap⟩ A.ds l).length=1:=by omega
     obtain⟨r,gH⟩:=List.length_eq_one_iff.1 s';refine aZ.mk [os.val] (cX (cs:=[os.val]) (k:=0) (n:=1) (T:=55) (.tail _ (.tail _ (.head _))) (by simp)) ?_;rw[<-py]at cC;obtain⟨aV,bU,bB⟩:=aU.ok.row (I:=I) (M:=pC A ⟨c6,b3,s1,s2,cm,s,lo,hi,cW,aT,c5,ap⟩ os p5 p4 p9) (e:=3) (f:=jD) (size:=1) (λ_=>rfl) (by decide) cC (λx ab=>by simp[pC,ab]) (j:=0) (by omega);refine bu.mk aV 0 bU rfl (by omega) ?_;refine aZ.mk _ bB ?_;refine⟨_,_,.sub (M1:=A.aq) (.cons _ (.cons _ (.cons _ (lr _ _)))) .refl,λ_ _ h=>h,A.os,A.ds,r,rfl,dk,?_,.inr (.inl ⟨gH,rfl⟩)⟩;simp[gH];rfl
    ·refine aZ.mk [ptr A.b] (cX (cs:=[ptr A.b]) (k:=0) (n:=1) (T:=98) (.tail _ (.head _)) (by simp)) ?_;refine aZ.mk (an.cells ⟨c6,b3,s1,s2,cm,s,lo,hi,cW,aT,c5,ap⟩) (cX (cs:=an.cells ⟨c6,b3,s1,s2,cm,s,lo,hi,cW,aT,c5,ap⟩) (k:=0) (n:=9) (T:=66) (.head _) (by simp[an.cells])) ?_;refine aZ.mk [os.val] (cX (cs:=[os.val]) (k:=0) (n:=1) (T:=55) (.tail _ (.tail _ (.head _))) (by simp)) ?_;have iK:¬ os.n=0:=λe=>by have ad:decide ((os.n:Int)=0)=false:=ay;simp[e]at ad
     have tf:¬ os.n=1:=λe=>by have ad:decide ((os.n:Int)=1)=false:=aa;simp[e]at ad
     refine bd.zo λe8=>?_;have qn:(pC A ⟨c6,b3,s1,s2,cm,s,lo,hi,cW,aT,c5,ap⟩ os p5 p4 p9).Perm (os.aq 3++(A.aq++[⟨p5,.cells (an.cells ⟨c6,b3,s1,s2,cm,s,lo,hi,cW,aT,c5,ap⟩).toArray 66 (0,0)⟩,⟨p4,.cells #[ptr A.b] 98 (0,0)⟩,⟨p9,.cells #[os.val] 55 (0,0)⟩])):=by have e:pC A ⟨c6,b3,s1,s2,cm,s,lo,hi,cW,aT,c5,ap⟩ os p5 p4 p9=[⟨p5,.cells (an.cells ⟨c6,b3,s1,s2,cm,s,lo,hi,cW,aT,c5,ap⟩).toArray 66 (0,0)⟩,⟨p4,.cells #[ptr A.b] 98 (0,0)⟩,⟨p9,.cells #[os.val] 55 (0,0)⟩]++(os.aq 3++A.aq):=rfl;rw[e,<-fi (os.aq 3)];exact ep
     have ax:∀ g,os.a=some g->I g=none/\g ∉ A.aq.map (·.num):=λg ax=>by
      have ah:os.aq 3=[⟨g,.cells os.aS.toArray 3 (0,0)⟩]:=by unfold aU.aq;rw[ax]
      have bJ:=(qn.map (·.num)).nodup_iff.1 e8.bX;rw[ah]at bJ qn;refine⟨e8.d _ (qn.mem_iff.2 (.head _)),λhm=>?_⟩;rw[dc]at bJ;simp only[cc,h3,p7,kN,dc]at bJ;exact bJ.1 (h2 _ hm)
     obtain⟨eE,hw,gd,eu,-⟩:=aU.CY (b:=8) cC (by omega) ax (A.aq++[⟨p5,.cells (an.cells ⟨c6,b3,s1,s2,cm,s,lo,hi,cW,aT,c5,ap⟩).toArray 66 (0,0)⟩,⟨p4,.cells #[ptr A.b] 98 (0,0)⟩,⟨p9,.cells #[os.val] 55 (0,0)⟩]);have M2:∀ x∈ig ⟨c6,b3,s1,s2,cm,s,lo,hi,cW,aT,c5,ap⟩ A.ds l,gy x:=λx ab=>by
      obtain⟨k,ae,ab⟩:=hg.1 ab;have:=av k ae;cases aK:m7 ⟨c6,b3,s1,s2,cm,s,lo,hi,cW,aT,c5,ap⟩ (A.ds.getD k sG)with
      |false=>rw[aK]at ab;cases ab| true=>rw[aK]at ab;rw[eK.1 ab];unfold gy;omega
     have cZ:=Xq (dk.mono gd) aJ (aj.mono gd) eu M2;refine bd.BB eE A.aq [⟨p5,.cells (an.cells ⟨c6,b3,s1,s2,cm,s,lo,hi,cW,aT,c5,ap⟩).toArray 66 (0,0)⟩,⟨p4,.cells #[ptr A.b] 98 (0,0)⟩,⟨p9,.cells #[os.val] 55 (0,0)⟩] _ (.perm qn (hw _ _ .refl)) cZ ?_;rintro v I' M' bg -⟨rfl,rfl,hE,rfl,bo⟩;exact⟨_,_,.sub (y9 _ _) .refl,gd,hE,_,_,rfl,bo,rfl,.inr (.inr ⟨by omega,rfl,_,_,_,rfl⟩)⟩
namespace bA
mutual
def post:bA->List an
 |mk d ks=>pf d (H9 ks)
def H9:List bA->List (List an)
 |[]=>[]| a::l=>post a::H9 l
end
def Xs:∀ l,H9 l=l.map post
 |[]=>rfl| a::l=>by rw[H9,Xs l];rfl
def lM(d:an)(ks:List bA):post (mk d ks)=pf d (ks.map post):=by rw[post,Xs]
end bA
inductive hV:bA->Prop
 |mk{d:an}{ks:List bA}:fits d ks.length=true->(∀ c∈ks,hV c)->hV (.mk d ks)
def hV.inv{d:an}{ks:List bA}(h:hV (.mk d ks)):fits d ks.length=true/\∀ c∈ks,hV c:=by
 cases h with
 |mk aa ad=>exact⟨aa,ad⟩
def Xt:∀ {T:bA},hV T->hj (hS T.post):=by
 intro T
 induction T using bA.ind with
 |h d ks aR=>intro h;rw[bA.lM];refine WO (λl av=>?_) (by rw[bO];exact h.inv.1);obtain⟨c,au,rfl⟩:=cG.1 av;exact aR c au (h.inv.2 c au)
def ajk{l:List an}(h:hj (hS l)):0<l.length/\∀ d∈l,∀ k∈d.ap,0<=k:=by
 have:=h.bm;refine⟨?_,λd aj k ae=>?_⟩
 ·have aa:(0:Int)<=(l.length:Int)-1:=this.1;omega
 ·obtain⟨j,ai,rfl⟩:=hz aj;exact(h.ap j ai k ae).1
def ajl{z:α}{F:an->List α->α}(bf:∀ d l,F (d.cA l)=F d):∀ {T:bA},hV T->pA z F T.post=T.fold F:=by
 intro T
 induction T using bA.ind with
 |h d ks aR=>
  intro h;rw[bA.lM,bA.fold_eq,WK bf,gz];·congr 1;exact fy λc au=>aR c au (h.inv.2 c au)
  ·intro l av;obtain⟨c,au,rfl⟩:=cG.1 av;exact ajk (Xt (h.inv.2 c au))
def a7.gB(T:a7):List Int:=T.dL.map λx:Nat=>(x:Int)
def a7.H'(k:Nat)(ks:List a7):(a7.mk k ks).gB=ks.flatMap a7.gB++[(k:Int)]:=by unfold a7.gB;rw[a7.mj,dc,w5];rfl
def a7.ajm(T:a7):∃ K,T.gB=K++[(T.bS:Int)]:=by
 cases T with
 |mk k ks=>exact⟨_,a7.H' k ks⟩
structure ED(ns:List an)(A rb:List Int)(ml:List a7)(aN:List an×List Int):Prop where
 len:aN.1.length=(ml.flatMap a7.gB).length
 nodes:aN.1.map (ic (A.length:Int))=(ml.flatMap a7.gB).map (kr ns rb)
 roots:aN.2.map (·+(A.length:Int))=ml.map λc=>iR rb (c.bS:Int)
def ajn(n:Nat)(a:Int)(x:an):ic a (x.cA (x.ap.map λk=>(n:Int)+k))=ic (a+(n:Int)) x:=by unfold ic;show x.cA ((x.ap.map λk=>(n:Int)+k).map (·+a))=_;rw[gz];congr 1;refine fy λk ae=>?_;show(n:Int)+k+a=k+(a+n);omega
def ED.step{ns:List an}{A B rb:List Int}{ml:List a7}{aN:List an×List Int}(h:ED ns A rb ml aN){c:a7}{l:List an}
  (la:rb=(A++ml.flatMap a7.gB)++(c.gB++B)) (aj:gR rb) (av:c.gB.map (kr ns rb)=l.map (ic ((A++ml.flatMap a7.gB).length:Int))):ED ns A rb (ml++[c]) (hQ aN l):=by
 have lZ:c.gB.length=l.length:=by simpa using congrArg List.length av
 obtain⟨aa,ad,al⟩:=h;have aA:(ml++[c]).flatMap a7.gB=ml.flatMap a7.gB++c.gB:=by rw[gK,qZ]
 refine⟨?_,?_,?_⟩
 ·rw[aA];show(aN.1++l.map _).length=_;rw[cL,bO,cL,aa,lZ]
 ·rw[aA,dc,av,<-ad];show(aN.1++l.map λx=>x.cA (x.ap.map λk=>(aN.1.length:Int)+k)).map _=_;rw[dc,gz];congr 1;refine fy λx ab=>?_;show ic _ (x.cA _)=_;rw[ajn,aa,cL];congr 1
 ·rw[dc,<-al];show(aN.2++[((aN.1.length+l.length:Nat):Int)-1]).map _=_;rw[dc];congr 1;obtain⟨K,eB⟩:=c.ajm;have hm:(c.bS:Int)∈c.gB:=by rw[eB];simp
  have Xu:gR c.gB:=by rw[la]at aj;exact(pc.1 (pc.1 aj).2.1).1
  have aO:iR rb (c.bS:Int)=iR c.gB (c.bS:Int)+((A++ml.flatMap a7.gB).length:Int):=by rw[la]at aj |-;exact NU aj hm
  have uZ:iR c.gB (c.bS:Int)=(c.gB.length:Int)-1:=by rw[eB]at Xu |-;rw[WC Xu,cL];simp
  rw[vl,vl,aO,uZ,cL,<-aa,<-lZ];congr 1;omega
def ajo{ns:List an}:∀ {S:a7},di ns S->∀ (A B rb:List Int),rb=A++(S.gB++B)->gR rb->S.gB.map (kr ns rb)=(S.bare ns).post.map (ic (A.length:Int)):=by
 intro S
 induction S using a7.ind with
 |h k ks aR=>
  intro ej A B rb la aj;obtain⟨aa,ad,al⟩:=ej.inv;have key:∀ (tj ml:List a7) (aN:List an×List Int),ml++tj=ks->ED ns A rb ml aN->ED ns A rb ks ((tj.map λc=>(c.bare ns).post).foldl hQ aN):=by
   intro tj
   induction tj with
   |nil=>intro ml aN e h;rw[ee]at e;rw[<-e];exact h
   |cons c tj M3=>
    intro ml aN e h;have au:c∈ks:=by rw[<-e];simp
    have Xv:rb=(A++ml.flatMap a7.gB)++(c.gB++(tj.flatMap a7.gB++([(k:Int)]++B))):=by rw[la,a7.H',<-e];simp
    rw[cc,iY];exact M3 (ml++[c]) _ (by rw[<-e];simp) (h.step Xv aj (aR c au (al c au) _ _ _ Xv aj))
  have h:=key ks [] ([],[]) rfl ⟨rfl,rfl,rfl⟩;obtain⟨a1,ba,b4⟩:=h;rw[a7.H',a7.qm,bA.lM,gz];show _=(pf (nodeAt ns k).bare (ks.map λc=>(c.bare ns).post)).map _;unfold pf;generalize(ks.map λc=>(c.bare ns).post).foldl hQ ([],[])=aN at a1 ba b4;rw[dc,dc,ba];congr 1;rw[vl,vl];congr 1;show(nodeAt ns (k:Int).toNat).cA _=(nodeAt ns k).cA (aN.2.map (·+(A.length:Int)));rw[b4,kx,ad,gz];rfl
def Xw:∀ (e3:List (List an)) (aN:List an×List Int),(∀ x∈aN.1,x.a6=x)->∀ x∈(e3.foldl hQ aN).1,x.a6=x
 |[],_,h=>h
 |l::e3,aN,h=>Xw e3 (hQ aN l) λx ab=>by
  rcases cO.1 (show x∈aN.1++l.map (λx=>x.cA (x.ap.map λk=>(aN.1.length:Int)+k))from ab)with ab | ab;·exact h x ab
  ·obtain⟨y,aD,rfl⟩:=cG.1 ab;rfl
def ajp(T:bA):∀ x∈T.post,x.a6=x:=by
 cases T with
 |mk d ks=>
 intro x ab;rw[bA.lM]at ab;rcases cO.1 ab with ab | ab
 ·exact Xw _ _ (λx ab=>by cases ab) x ab
 ·rw[eK.1 ab];rfl
def ajq{ns:List an}{S:a7}(h:di ns S)(aJ:S.dL.Nodup):S.gB.map (kr ns S.gB)=(S.bare ns).post:=by
 have aj:gR S.gB:=yp.2 (List.Pairwise.imp (fun {a b} bs e=>bs (by omega)) aJ);have:=ajo h [] [] S.gB (by simp) aj;rw[this];refine(fy λx ab=>?_).trans (List.map_id _);have e:=ajp _ x ab;have a0:ic (([]:List Int).length:Int) x=x.a6:=by show x.cA (x.ap.map (·+(0:Int)))=x.cA x.ap;congr 1;refine(fy λk ae=>?_).trans (List.map_id _);show k+0=k;omega
 rw[a0,e];rfl
def lW(ns:List an)(k:Int):bA:=gM (bA.mk sG []) (λd g=>(λ(d:an) (xs:List bA)=>bA.mk d.bare xs) d (d.ap.map g)) ns k
def m8(t:bw):bA:=lW t.ns t.bm
def ajr(ns:List an):∀ S:a7,(S.bare ns).fold (λ(d:an) (xs:List bA)=>bA.mk d.bare xs)=S.bare ns:=by
 intro S
 induction S using a7.ind with
 |h k ks aR=>rw[a7.qm,bA.fold_eq,gz];congr 1;exact fy λc au=>aR c au
def Xx{ns:List an}(ae:sE ns){T:a7}(h:di ns T):lW ns T.bS=T.bare ns:=by unfold lW;rw[Xn (λd l=>rfl) ae h,ajr]
def hj.EE(h:hj t):sE t.ns:=h.ap
def hj.lt(h:hj t){j:Nat}(ai:j<t.ns.length):∃ T:a7,T.bS=j/\di t.ns T/\lW t.ns j=T.bare t.ns/\T.dL.Nodup:=by obtain⟨T,bl,dk⟩:=di.ex h.EE j ai;refine⟨T,bl,dk,?_,dk.nodup h.EE h.diff⟩;rw[<-bl];exact Xx h.EE dk
def ajs{ns:List an}(az:∀ d∈ns,fits d d.ap.length=true):∀ {T:a7},di ns T->hV (T.bare ns):=by
 intro T
 induction T using a7.ind with
 |h k ks aR=>
  intro h;obtain⟨aa,ad,al⟩:=h.inv;rw[a7.qm];refine .mk ?_ λc au=>?_;·have:=az _ (b9 aa);rw[<-gf aa]at this;show fits ((nodeAt ns k).cA []) _=true;rw[Bo,bO];rw[ad,bO]at this;exact this
  ·obtain⟨c',zE,rfl⟩:=cG.1 au;exact aR c' zE (al c' zE)
def hj.fit(h:hj t):∀ d∈t.ns,Go.V.fits d d.ap.length=true:=λd aj=>by obtain⟨j,ai,rfl⟩:=hz aj;exact h.fits j ai
def ajt{z:α}{F:an->List α->α}(bf:∀ d l,F (d.cA l)=F d)(h:hj t){j:Nat}(ai:j<t.ns.length):gM z (λd g=>F d (d.ap.map g)) t.ns j=(lW t.ns j).fold F:=by obtain⟨T,bl,dk,he,-⟩:=h.lt ai;rw[he,<-bl];exact Xn bf h.EE dk
structure xo(t:bw)(T:bA):Prop where
 a6:t.ns.map an.a6=T.post
 bm:t.bm=(t.ns.length:Int)-1
def aju(ns:List an)(k:Int):lW (ns.map an.a6) k=lW ns k:=by unfold lW gM;rw[Ap (f:=λd g=>(λ(d:an) (xs:List bA)=>bA.mk d.bare xs) d (d.ap.map g)) (g:=λd g=>(λ(d:an) (xs:List bA)=>bA.mk d.bare xs) d (d.ap.map g)) (λd q=>rfl)]
inductive mm:bA->Prop
 |mk{d:an}{ks:List bA}:d.bare=d->(∀ c∈ks,mm c)->mm (.mk d ks)
def mm.inv{d:an}{ks:List bA}(h:mm (.mk d ks)):d.bare=d/\∀ c∈ks,mm c:=by
 cases h with
 |mk aa ad=>exact⟨aa,ad⟩
def mm.fold:∀ {T:bA},mm T->T.fold (λ(d:an) (xs:List bA)=>bA.mk d.bare xs)=T:=by
 intro T
 induction T using bA.ind with
 |h d ks aR=>intro h;rw[bA.fold_eq,h.inv.1];congr 1;exact(fy λc au=>aR c au (h.inv.2 c au)).trans (List.map_id _)
def xo.right{T:bA}(h:xo t T)(bl:hV T):right t=true:=by
 have aa:=Xt bl;rw[<-h.a6]at aa;have ad:=aa.bm;refine iQ.2 ⟨?_,λj ai=>?_,λj ai k ae=>?_,?_,λj ai=>?_⟩
 ·rw[h.bm];have:(0:Int)<=((t.ns.map an.a6).length:Int)-1/\((t.ns.map an.a6).length:Int)-1<((t.ns.map an.a6).length:Int):=ad;rw[bO]at this;exact this
 ·have:=aa.fits j (by show j<(t.ns.map an.a6).length;rw[bO];exact ai);simp only[hS,hN]at this;exact this
 ·refine aa.ap j (by show j<(t.ns.map an.a6).length;rw[bO];exact ai) k ?_;simp only[hS,hN];exact ae
 ·have:gR (dU (t.ns.map an.a6)):=aa.diff;unfold dU at this;rw[wj]at this;exact this
 ·have:=aa.all j (by show j<(t.ns.map an.a6).length;rw[bO];exact ai);have e:dU (hS (t.ns.map an.a6)).ns=dU t.ns:=by show dU (t.ns.map an.a6)=_;unfold dU;rw[wj];rfl
  have a0:(hS (t.ns.map an.a6)).bm=t.bm:=by show(((t.ns.map an.a6).length:Nat):Int)-1=_;rw[bO,h.bm]
  rw[e,a0]at this;exact this
def xo.m8{T:bA}(h:xo t T)(bl:hV T)(ah:mm T):Go.V.m8 t=T:=by unfold Go.V.m8;rw[h.bm,<-aju,h.a6];have:=ajl (z:=bA.mk sG []) (F:=λ(d:an) (xs:List bA)=>bA.mk d.bare xs) (λd l=>rfl) bl;rw[ah.fold]at this;unfold pA at this;rw[<-h.a6]at this |-;rw[bO]at this;exact this
def Oi(A:bT)(d z:an)(l:List Nat)(I:aM)(v:Value)(I':aM)(M':List aE):Prop:=(∀ b o,I b=some o->I' b=some o)/\∃ bD ds' r,M'=bT.aq ⟨A.b,bD,ds'⟩/\bT.ok I' ⟨A.b,bD,ds'⟩/\v=.int .i64 r /\ ((ig d A.ds l=[]/\r=(A.ds.length:Int)/\ds'=A.ds++[z])\/(ig d A.ds l=[r]/\ds'=A.ds)\/(2<=(ig d A.ds l).length/\r=(A.ds.length:Int)/\∃ bF hB c',ds'=A.ds++[d.row bF hB c' (ig d A.ds l)]))
def nothing(k:Int):an:=⟨k,0,0,0,0,⟨#[]⟩,0,0,none,0,0,[]⟩
def Xy(I:aM){k:Int}(ae:0<=k/\k<256):(nothing k).ok I:=⟨ae,by unfold nothing gb;simp,by unfold nothing gb;simp,by unfold nothing gb;simp,by unfold nothing gb;simp,by show 0<=_;decide,by unfold nothing gy;simp,by unfold nothing gy;simp,⟨rfl,⟨cI _,by simp[nothing]⟩,.inl rfl⟩,λx ab=>by cases ab⟩
def ajv{A:bT}(dk:A.ok I)(aJ:A.ds.length<=1099511627776){d:an}(aj:d.ok I)(av:∀ k∈l,k<A.ds.length)(qc:l.length<=1099511627776)(af:dZ I a n c 1 8 ((l.map Int.ofNat).map (.int .i64 ·))) :
  Spec Tryz.prog 111 [ptr A.b,d.val,.slice a n c] I A.aq (Oi A d (nothing 0) l I):=by
 refine cp [] a4 Tryz.func111 rfl rfl rfl ?_;intro B ay;have cZ:=Xr (z:=nothing 0) dk aJ aj (Xy I (by decide)) av qc af;obtain⟨c6,b3,s1,s2,cm,s,lo,hi,cW,aT,c5,ap⟩:=d;refine bd.mk A.aq [] _ (by rw[ee]) cZ ?_;rintro v I' M'-h;obtain⟨ju,bD,ds',r,rfl,bo,rfl,h⟩:=h;exact⟨_,_,.sub (by simp) .refl,ju,bD,ds',r,rfl,bo,rfl,h⟩
def ajw{A:bT}(dk:A.ok I)(aJ:A.ds.length<=1099511627776){d:an}(aj:d.ok I)(av:∀ k∈l,k<A.ds.length)(qc:l.length<=1099511627776)(af:dZ I a n c 1 8 ((l.map Int.ofNat).map (.int .i64 ·))) :
  Spec Tryz.prog 112 [ptr A.b,d.val,.slice a n c] I A.aq (Oi A d (nothing 1) l I):=by
 refine cp [] a4 Tryz.func112 rfl rfl rfl ?_;intro B ay;have cZ:=Xr (z:=nothing 1) dk aJ aj (Xy I (by decide)) av qc af;obtain⟨c6,b3,s1,s2,cm,s,lo,hi,cW,aT,c5,ap⟩:=d;refine bd.mk A.aq [] _ (by rw[ee]) cZ ?_;rintro v I' M'-h;obtain⟨ju,bD,ds',r,rfl,bo,rfl,h⟩:=h;exact⟨_,_,.sub (by simp) .refl,ju,bD,ds',r,rfl,bo,rfl,h⟩
def oz(l:List Int)(m:Nat):List (List Value):=(List.range m).reverse.map λi:Nat=>[.int .i64 (i:Int),.int .i64 (l.getD i 0)]
def ajx(l:List Int)(m:Nat):oz l (m+1)=[.int .i64 m,.int .i64 (l.getD m 0)]::oz l m:=by unfold oz;rw[F1,uH,vS,p7,cc]
def ajy(a:Option Addr)(n c:Nat):Spec Tryz.prog 165 [.slice a n c] I [] λr I' M'=>∃ b,r=.func (.func 201) #[] #[ptr b]/\I' b=some (.cells #[.slice a n c] 55 (0,0))/\(∀ b o,I b=some o->I' b=some o)/\M'=[]:=by refine cp [1] a4 Tryz.func165 rfl rfl rfl ?_;intro B ay;refine cJ.mk λg ax zY=>?_;exact⟨_,_,.vt rfl (by simp) .refl,g,rfl,z1 ..,z2 ax,rfl⟩
def ajz{l:List Int}(af:dZ I a n c 1 8 (l.map (.int .i64 ·))){b:Nat}(ah:I b=some (.cells #[.slice a n c] 55 (0,0))) :
  Iter Tryz.prog 201 [ptr b] I (oz l n):=by
 intro y R kU v0 dj M0 v3 kh;refine BR [] a4 Tryz.func201 rfl rfl rfl ?_;intro B ay;have iN:=af.cap;have qc:l.length=n:=by have aa:=af.len;simpa using aa
 have gw:dZ I a n c 1 8 (l.flatMap jD):=by rw[py];exact af
 have bB:∀ (cT:aM) (M:List aE),(∀ b o,I b=some o->cT b=some o)->c7 cT M ((⟨b,0,none⟩:Addr).add 0) 1 [.slice a n c]:=λcT M dg=>⟨rfl,_,_,_,.inl (dg _ _ ah),rfl,rfl⟩;refine aZ.mk _ (bB _ _ v3) ?_;refine bi.mk ((n:Int)-1) (by rw[wrap_i64 (by unfold gy;omega)]) ?_;refine dI.inv (ι:=Nat×Nat×aM×List aE) (λx=>{ bn:=[(0,.val (.func (.yield y) #[] #[])),(1,.val (ptr b)),(3,.val (.int .i64 ((x.1:Int)-1)))],c2:=x.2.2.1,dx:=x.2.2.2 }) (λx=>x.1<=n/\(∀ b o,I b=some o->x.2.2.1 b=some o)/\R x.2.1 x.2.2.1 x.2.2.2/\x.2.1<=(oz l n).length/\(oz l n).drop x.2.1=oz l x.1) (λx=>x.1) ?_ ?_
 ·exact⟨(n,0,dj,M0),⟨by simp,v3,kh,by simp,rfl⟩,.refl,g1,.nil⟩
 ·rintro⟨m,k,cT,M1⟩⟨hm,dg,lC,c0,hv⟩;simp only at hm dg lC c0 hv;refine a9.mk (λh=>?_) (λh=>?_)
  ·have aW:(0:Int)<=(m:Int)-1:=dV h;obtain⟨m,rfl⟩:∃ q,m=q+1:=⟨m-1,by omega⟩;have aA:((m+1:Nat):Int)-1=(m:Int):=by omega
   obtain⟨aV,bU,J1⟩:=(gw.mono dg).row (f:=jD) (λ_=>rfl) (j:=m) (by omega) (by omega);rw[ajx]at hv;obtain⟨ae,ag,p3⟩:=drop_cons hv;refine aZ.mk _ (bB _ _ dg) ?_;refine bu.mk aV m bU aA (by omega) ?_;refine aZ.mk _ (J1 _) ?_;refine br.yield rfl (by simp) rfl rfl ?_;have aD:=v0 k ae cT M1 dg lC;rw[ag]at aD;have a0:l.getD m 0=l[m]:=by simp[cv,show m<l.length by omega]
   rw[a0,<-aA]at aD;refine Fs.mk M1 [] _ (by simp) aD ?_;rintro v eE dB gd (⟨rfl,oY⟩ | ⟨rfl,ab⟩);·refine a9.mk (λh=>by simp at h) (λ_=>?_);refine bi.mk ((m:Int)-1) (by rw[wrap_i64 (by unfold gy;omega)];omega) ?_;exact⟨(m,k+1,eE,dB),⟨⟨by simp only;omega,λb o h=>gd b o (dg b o h),oY,ae,p3⟩,by simp only;omega⟩,.perm (by simp) .refl,g1,.nil⟩
   ·refine a9.mk (λ_=>?_) (λh=>by simp at h);exact⟨_,_,.perm (by simp) .refl,.inr ab⟩
  ·have cV:¬ (0:Int)<=(m:Int)-1:=eO h;obtain rfl:m=0:=by omega
   refine⟨_,_,.refl,.inl ?_⟩;have yb:k=(oz l n).length:=by have:(oz l n).drop k=[]:=hv.trans (by simp[oz]);have:=Ju.1 this;omega
   rw[<-yb];exact lC
def Spec.Oj{P:Program}{f:Nat}{args:List Value}{p q:Value->aM->List aE->Prop}(h:Spec P f args I M p)(nh:∀ v I' M',p v I' M'->q v I' M'):Spec P f args I M q:=by
 rcases h with⟨aa,ad⟩ | ad
 ·refine .inl ⟨aa,λw hw=>(ad w hw).mono ?_⟩;rintro e w'⟨v,I',M',al,aL,bG⟩;exact⟨v,I',M',al,nh _ _ _ aL,bG⟩
 ·refine .inr λw hw=>?_;obtain⟨v,w',I',M',al,aL,bG⟩:=ad w hw;exact⟨v,w',I',M',al,nh _ _ _ aL,bG⟩
def vo:Nat:=110
def Xz:List Nat:=[vo,vo,vo,vo,111,112,vo,vo,vo,vo]
def Ok:List Value:=Xz.map λf=>.func (.func f) #[] #[]
def ajA:Spec Tryz.prog 61 [] I [] λv I' M'=>v=.agg Ok.toArray/\I'=I/\M'=[]:=by refine cp [] a4 Tryz.func61 rfl rfl rfl ?_;intro B ay;exact⟨_,_,.refl,rfl,rfl,rfl⟩
def tR(d:an)(l:List Nat)(ds ds':List an)(r:Int):Prop:=
 if d.k=4\/d.k=5 then
  (ig d ds l=[]/\r=(ds.length:Int)/\ds'=ds++[nothing (d.k-4)])\/(ig d ds l=[r]/\ds'=ds)\/(2<=(ig d ds l).length/\r=(ds.length:Int)/\∃ bF hB c',ds'=ds++[d.row bF hB c' (ig d ds l)])
 else r=(ds.length:Int)/\∃ bF hB c',ds'=ds++[d.row bF hB c' (l.map Int.ofNat)]
def Ol(A:bT)(d:an)(l:List Nat)(I:aM)(v:Value)(I':aM)(M':List aE):Prop:=(∀ b o,I b=some o->I' b=some o)/\∃ bD ds' r,M'=bT.aq ⟨A.b,bD,ds'⟩/\bT.ok I' ⟨A.b,bD,ds'⟩/\v=.int .i64 r/\tR d l A.ds ds' r
def ajB{A:bT}(dk:A.ok I)(aJ:A.ds.length<=1099511627776){d:an}(aj:d.ok I)(av:∀ k∈l,k<A.ds.length)(qc:l.length<=1099511627776)(af:dZ I a n c 1 8 ((l.map Int.ofNat).map (.int .i64 ·)))(j:Nat)(ai:j<10)(ae:d.k=j) :
  Spec Tryz.prog (Xz.getD j 0) [ptr A.b,d.val,.slice a n c] I A.aq (Ol A d l I):=by
 have ajC:∀ x∈l.map Int.ofNat,gy x:=λx ab=>by obtain⟨k,ae,rfl⟩:=cG.1 ab;have:=av k ae;unfold gy;simp only[x6];omega
 have ly:¬ (d.k=4\/d.k=5)->Spec Tryz.prog vo [ptr A.b,d.val,.slice a n c] I A.aq (Ol A d l I):=λbs=>by refine Spec.Oj (Xq dk aJ aj af ajC) ?_;rintro v I' M'⟨rfl,rfl,os,rfl,bo⟩;refine⟨λ_ _ h=>h,os,_,_,rfl,bo,rfl,?_⟩;unfold tR;rw[ca bs];exact⟨rfl,_,_,_,rfl⟩
 have XA:∀ {k:Int},d.k=k+4->(k=0\/k=1)->∀ {f:Nat},Spec Tryz.prog f [ptr A.b,d.val,.slice a n c] I A.aq (Oi A d (nothing k) l I)->Spec Tryz.prog f [ptr A.b,d.val,.slice a n c] I A.aq (Ol A d l I):=fun {k} ae hA {f} h=>by refine Spec.Oj h ?_;rintro v I' M'⟨ju,os,ds',r,rfl,bo,rfl,h⟩;refine⟨ju,os,ds',r,rfl,bo,rfl,?_⟩;unfold tR;rw[ck (by omega),show d.k-4=k by omega];exact h
 match j,ai with
 |0,_=>exact ly (by omega)| 1,_=>exact ly (by omega)| 2,_=>exact ly (by omega)| 3,_=>exact ly (by omega)| 4,_=>exact XA (by omega) (.inl rfl) (ajv dk aJ aj av qc af)| 5,_=>exact XA (by omega) (.inr rfl) (ajw dk aJ aj av qc af)| 6,_=>exact ly (by omega)| 7,_=>exact ly (by omega)| 8,_=>exact ly (by omega)| 9,_=>exact ly (by omega)
def fY(l:List a7):List Int:=l.map λS=>(S.bS:Int)
def EF(a b:List a7):fY (a++b)=fY a++fY b:=dc
def ajD{ns:List an}{T:a7}(h:iX (nodeAt ns T.bS)=none):T.parts ns=T.sub:=by
 unfold a7.parts;rw[h];have:∀ c:a7,a7.m6 ns none c=[c]:=λc=>by
  cases c with
  |mk k ks=>rw[a7.vn,ca (by simp)]
 refine(qd λc _=>this c).trans ?_;simp
def di.Om{ns:List an}:∀ {T:a7},di ns T->(nodeAt ns T.bS).ap=fY T.sub
 | .mk k ks,h=>h.inv.2.1
def di.ajE{ns:List an}:∀ {T:a7},di ns T->∀ c∈T.sub,di ns c
 | .mk k ks,h=>h.inv.2.2
def hW(l:List a7):Nat:=(l.map λS=>S.dL.length).sum
def xp(a b:List a7):hW (a++b)=hW a+hW b:=by unfold hW;rw[dc,rR]
def Ia:∀ T:a7,T.dL.length=hW T.sub+1
 | .mk k ks=>by rw[a7.mj,cL,Ab];rfl
def XB(a:List a7):hW a.reverse=hW a:=by unfold hW;rw[N6,List.sum_reverse]
def zi:∀ l:List a7,l.length<=hW l
 |[]=>dO _| c::l=>by have:=zi l;have ad:=Ia c;show l.length+1<=c.dL.length+hW l;omega
structure ajF(I:aM)(A:bT)(b2:Option Int)(ajG:List a7)(sz:Nat)(lo cF:aU)(gm aN:List a7)(J:aM):Prop where
 bL:∀ b o,I b=some o->J b=some o
 lo:lo.ok 1 ((fY gm).map (.int .i64 ·))
 cF:cF.ok 1 ((fY aN).map (.int .i64 ·))
 ec:∀ S∈aN,di A.ds S
 same:gm++aN.reverse.flatMap (a7.m6 A.ds b2)=ajG
 sz:gm.length+hW aN<=sz
def EG(l:List Int)(n:Nat):(oz l n).length=n:=by simp[oz]
def ajH(l:List Int){k:Nat}(h:k<(oz l n).length)(ae:n-1-k<l.length):(oz l n)[k]=[.int .i64 ((n-1-k:Nat):Int),.int .i64 l[n-1-k]]:=by simp only[oz,hN,List.getElem_reverse,J9,GB];rw[cv,dX ae];rfl
def ajI{A:bT}(dk:A.ok I)(aJ:A.ds.length<=1099511627776){T:a7}(bl:di A.ds T)(cx:T.dL.length<=1099511627776) :
  Spec Tryz.prog 113 [ptr A.b,.int .i64 T.bS] I A.aq λv I' M'=>(∀ b o,I b=some o->I' b=some o)/\M'=A.aq/\∃ a n c,v=.slice a n c/\dZ I' a n c 1 8 ((fY (T.parts A.ds)).map (.int .i64 ·)):=by
 refine zz [7] a4 Tryz.func113 rfl rfl rfl ?_;intro B ay;have c0:=bl.vm;have XC:=dk.n;obtain⟨aV,bU,bB⟩:=aU.ok.row (I:=I) (M:=A.aq) an.da (by decide) dk.os (e:=66) (λx ab=>by simp[bT.aq,ab]) (j:=T.bS) c0;have gZ:=dk.ds _ (b9 c0);have m5:=gf c0;have zW:=bl.Om;generalize eF:A.ds[T.bS]=d at bB gZ m5;rw[m5]at zW;obtain⟨c6,b3,s1,s2,cm,s,lo,hi,cW,aT,c5,ap⟩:=d;refine aZ.mk [A.os.val] (cX (cs:=[A.os.val]) (k:=0) (n:=1) (T:=94) (by simp[bT.aq,bT.aj]) (by simp)) ?_;refine bu.mk aV T.bS bU rfl (by omega) ?_;refine aZ.mk _ bB ?_;refine cP.mk (λaL=>?_) (λaL=>?_)
 case' refine_1=>
  have ajJ:c6≠4:=by simpa using aL
  refine a9.mk (λbG=>?_) (λbG=>?_)
  case' refine_1=>
   have ajK:c6≠5:=by simpa using bG
   intro _;refine⟨_,_,.refl,λ_ _ h=>h,rfl,cW,aT,c5,rfl,?_⟩;rw[ajD (by rw[m5];unfold iX;rw[ca];simp[ajJ,ajK]),<-zW];exact gZ.bb
  have gC:c6=4\/c6=5:=.inr (by simpa using bG)
 case' refine_2=>have gC:c6=4\/c6=5:=.inl (by simpa using aL)
 all_goals
  have Bt:iX (nodeAt A.ds T.bS)=some c6:=by rw[m5];unfold iX;rw[ck gC]
  have NJ:T.parts A.ds=T.sub.flatMap (a7.m6 A.ds (some c6)):=by unfold a7.parts;rw[Bt]
  refine cJ.mk λb1 mH ajL=>?_;refine cJ.mk λb7 yB XD=>?_;refine cn.mk [] (⟨b1,_⟩::A.aq) _ _ rfl rfl (bH rfl) rfl ?_;clear bU bB;refine dI.xO (ι:=aU×aU×List a7×List a7×aM) (λx=>{ bn:=[(0,.val (ptr A.b)),(5,.ref 5 0),(6,.val x.1.val),(7,.val (ptr b7))],cl:=[(5,an.cells ⟨c6,b3,s1,s2,cm,s,lo,hi,cW,aT,c5,ap⟩)],c2:=x.2.2.2.2,dx:=⟨b7,.cells #[x.2.1.val] 55 (0,0)⟩::(x.2.1.aq 3++(x.1.aq 3++A.aq)) }) (λx=>ajF I A (some c6) (T.parts A.ds) T.dL.length x.1 x.2.1 x.2.2.1 x.2.2.2.1 x.2.2.2.2) (λx=>hW x.2.2.2.1) ?_ ?_
  ·intro _;refine⟨(⟨none,0,0,[]⟩,⟨some b1,1,1,[.int .i64 T.bS]⟩,[],[T],I),⟨λ_ _ h=>h,⟨rfl,(λ_=>⟨rfl,rfl⟩),λg h=>by cases h⟩,⟨rfl,(λh=>by cases h),λcN jn=>⟨rfl,cI _,by simp[maxLen],rfl⟩⟩,λS ej=>?_,?_,?_⟩,.refl,fr,.cons rfl (.nil)⟩
   ·rw[eK.1 ej];exact bl
   ·rw[jq,vS,qZ,NJ];cases T with
    |mk k ks=>
    rw[a7.vn,ck (by rw[show nodeAt A.ds k=_ from m5])];rfl
   ·simp[hW]
  rintro⟨lo,cF,gm,aN,J⟩⟨bL,dG,k9,lG,qo,XE⟩;simp only at bL dG k9 lG qo XE;have lZ:=dG.oc;have sA:=k9.oc;have hp:=zi aN;simp only[fY,bO]at lZ sA;refine aZ.mk [cF.val] (cX (cs:=[cF.val]) (k:=0) (n:=1) (T:=55) (.head _) (by simp)) ?_;refine a9.mk (λh=>?_) (λh=>?_)
  ·have Wf:0<cF.n:=by have:(0:Int)<(cF.n:Int):=dV h;omega
   obtain⟨e5,S,rfl⟩:∃ r p,aN=r++[p]:=by
    rcases x5 aN with aa | ⟨r,p,aa⟩;·subst aa;simp at sA;omega
    ·exact⟨r,p,by simpa using aa⟩
   have ej:=lG S (by simp);have Ib:=ej.vm;have On:=Ia S;have wg:hW [S]=S.dL.length:=by simp[hW]
   have ajM:=zi S.sub;rw[xp,wg,On]at XE hp;have h9:cF.n=e5.length+1:=by have fj:=sA;simp only[cL,wD]at fj;omega
   rw[uH,vS,p7,jO]at qo;obtain⟨aV,bU,bB⟩:=aU.CV (I:=J) (e:=3) (M:=⟨b7,.cells #[cF.val] 55 (0,0)⟩::(cF.aq 3++(lo.aq 3++A.aq))) k9 (λx ab=>by simp[ab]) (j:=e5.length) (by simp[fY]);have EH:(fY (e5++[S]))[e5.length]'(by simp[fY])=(S.bS:Int):=by simp[fY]
   rw[EH]at bB;have mi:=k9;rw[EF,dc]at mi;have mi:aU.ok ⟨cF.a,cF.n-1,cF.c,cF.aS⟩ 1 ((fY e5).map (.int .i64 ·)):=aU.pop mi;have he:cF.n-1=e5.length:=by omega
   rw[he]at mi;have Ee:e5.length<=cF.c:=by
    cases xe:cF.a with
    |none=>have:=(k9.nil xe).1;omega| some Ef=>have:=(k9.cap Ef xe).2.1;omega
   refine aZ.mk [cF.val] (cX (cs:=[cF.val]) (k:=0) (n:=1) (T:=55) (.head _) (by simp)) ?_;refine aZ.mk [cF.val] (cX (cs:=[cF.val]) (k:=0) (n:=1) (T:=55) (.head _) (by simp)) ?_;refine bi.mk ((e5.length:Nat):Int) (by show IntKind.i64.wrap ((cF.n:Int)-1)=_;rw[wrap_i64 ⟨by omega,by omega⟩];omega) ?_;refine bu.mk aV e5.length bU rfl (show e5.length<cF.n by omega) ?_;refine aZ.mk _ bB ?_;refine aZ.mk [cF.val] (cX (cs:=[cF.val]) (k:=0) (n:=1) (T:=55) (.head _) (by simp)) ?_;refine aZ.mk [cF.val] (cX (cs:=[cF.val]) (k:=0) (n:=1) (T:=55) (.head _) (by simp)) ?_;refine bi.mk ((e5.length:Nat):Int) (by show IntKind.i64.wrap ((cF.n:Int)-1)=_;rw[wrap_i64 ⟨by omega,by omega⟩];omega) ?_;refine kA.mk 0 e5.length rfl rfl (dO _) Ee ?_;refine cn.mk [] (cF.aq 3++(lo.aq 3++A.aq)) #[cF.val] 55 rfl rfl (bH rfl) rfl ?_;have XF:=dk.mono bL;obtain⟨Ic,EI,Ie⟩:=aU.ok.row (I:=J) (M:=⟨b7,.cells #[(⟨cF.a,e5.length,cF.c,cF.aS⟩:aU).val] 55 (0,0)⟩::(cF.aq 3++(lo.aq 3++A.aq))) an.da (by decide) XF.os (e:=66) (λx ab=>by simp[bT.aq,ab]) (j:=S.bS) Ib;have If:=gf Ib;have Ig:=XF.ds _ (b9 Ib);have Ih:=ej.Om;rw[If]at Ih;generalize XG:A.ds[S.bS]=pD at Ie If Ig Ih;refine dh.draw a4 rfl rfl rfl ?_;refine aZ.mk [A.os.val] (cX (cs:=[A.os.val]) (k:=0) (n:=1) (T:=94) (by simp[bT.aq,bT.aj]) (by simp)) ?_;refine bu.mk Ic S.bS EI rfl (by omega) ?_;refine aZ.mk _ (c7.part (k:=0) (m:=1) Ie (by decide)) ?_;refine a9.mk (λcr=>?_) (λcr=>?_)
   ·have bs:pD.k≠c6:=by simpa using cr
    have Oo:a7.m6 A.ds (some c6) S=[S]:=by
     cases S with
     |mk k ks=>
     rw[a7.vn,ca];intro e;rw[show nodeAt A.ds k=pD from If]at e;exact bs (gO e)
    rw[Oo,p7]at qo;refine cJ.mk λcz qW EC=>?_;refine br.lN a4 rfl (by simp) (e:=3) rfl rfl rfl lo dG rfl (cs:=[.int .i64 S.bS]) rfl rfl rfl (⟨b7,.cells #[(⟨cF.a,e5.length,cF.c,cF.aS⟩:aU).val] 55 (0,0)⟩::cF.aq 3) A.aq rfl (by omega) (by show(lo.n+1)*8<=_;omega) ?_;intro LY aa ad al;intro _;refine⟨(LY,⟨cF.a,e5.length,cF.c,cF.aS⟩,gm++[S],e5,J),⟨⟨bL,?_,mi,λx ab=>lG x (by simp[ab]),?_,?_⟩,?_⟩,.refl,fr,.cons rfl (.nil)⟩;·rw[EF,dc];exact al
    ·rw[fi,p7];exact qo
    ·show(gm++[S]).length+hW e5<=T.dL.length;rw[cL,wD];omega
    ·show hW e5<hW (e5++[S]);rw[xp,wg];omega
   ·have he:pD.k=c6:=by simpa using cr
    have Oo:a7.m6 A.ds (some c6) S=S.sub.flatMap (a7.m6 A.ds (some c6)):=by
     cases S with
     |mk k ks=>
     rw[a7.vn,ck];·rfl
     ·rw[show nodeAt A.ds k=pD from If,he]
    have e':=Ig.aT;have q1:=Ig.bb.cap;have Oq:pD.ap.length=S.sub.length:=by rw[Ih];simp[fY]
    refine aZ.mk [A.os.val] (cX (cs:=[A.os.val]) (k:=0) (n:=1) (T:=94) (by simp[bT.aq,bT.aj]) (by simp)) ?_;refine bu.mk Ic S.bS EI rfl (by omega) ?_;refine aZ.mk _ (c7.part (k:=8) (m:=1) Ie (by decide)) ?_;refine bd.mk [] _ _ (.refl _) (ajy pD.cW pD.aT pD.c5) ?_;rintro v iW M1 -⟨cj,rfl,Ke,fC,rfl⟩;have ajN:∀ b o,I b=some o->iW b=some o:=λb o h=>fC _ _ (bL _ _ h);refine dh.range a4 rfl rfl rfl .refl (ajz (Ig.bb.mono fC) Ke) (λvs h=>?_) (λk I' M'=>∃ sH:aU,(∀ b o,iW b=some o->I' b=some o)/\sH.ok 1 ((fY (e5++S.sub.reverse.take k)).map (.int .i64 ·))/\M'=⟨b7,.cells #[sH.val] 55 (0,0)⟩::(sH.aq 3++(lo.aq 3++A.aq))) (λex I' M'=>False) ⟨⟨cF.a,e5.length,cF.c,cF.aS⟩,λ_ _ h=>h,by simpa using mi,rfl⟩ ?_ ?_ (λex I' M' _ h=>h.elim);·obtain⟨p,_,rfl⟩:=cG.1 h;rfl
    ·rintro k ae I' M' -⟨sH,ju,EJ,rfl⟩l B ay iK;have eG:k<S.sub.length:=by rw[EG]at ae;omega
     have ag:=ajH pD.ap ae (by rw[EG]at ae;omega);have ei:pD.ap[pD.aT-1-k]'(by rw[EG]at ae;omega)=((S.sub.reverse[k]'(by rw[y'];exact eG)).bS:Int):=by
      have aa:pD.ap[pD.aT-1-k]?=(fY S.sub)[pD.aT-1-k]?:=by rw[Ih]
      rw[dX (by rw[EG]at ae;omega)]at aa;unfold fY at aa;rw[mr,dX (by omega)]at aa;rw[gO aa,List.getElem_reverse];congr 3;omega
     rw[ei]at ag;rw[ag];have ajO:=EJ.oc;simp only[fY,bO,cL,fu,y']at ajO;refine aZ.mk [sH.val] (cX (cs:=[sH.val]) (k:=0) (n:=1) (T:=55) (.head _) (by simp)) ?_;refine cJ.mk λcz qW EC=>?_;refine br.lN a4 rfl (by simp) (e:=3) rfl rfl rfl sH EJ rfl (cs:=[.int .i64 (S.sub.reverse[k]'(by rw[y'];exact eG)).bS]) rfl rfl rfl [_] (lo.aq 3++A.aq) rfl (by omega) (by show(sH.n+1)*8<=_;omega) ?_;intro XH aa ad al;refine cn.mk [] (XH.aq 3++(lo.aq 3++A.aq)) #[sH.val] 55 rfl rfl (bH rfl) rfl ?_;refine⟨_,_,.refl,XH,ju,?_,rfl⟩;rw[gD (by rw[y'];exact eG),<-fi,EF,dc];exact al
    ·rintro I' M' -⟨sH,ju,EJ,rfl⟩;rw[EG,fT (by rw[y'];omega)]at EJ;intro _;refine⟨(lo,sH,gm,e5++S.sub.reverse,I'),⟨⟨λb o h=>ju _ _ (ajN _ _ h),dG,EJ,λx ab=>?_,?_,?_⟩,?_⟩,.refl,fr,.cons rfl (.nil)⟩
     ·rcases cO.1 ab with ab | ab
      ·exact lG x (by simp[ab])
      ·exact ej.ajE x (Nb.1 ab)
     ·rw[uH,L9,gK,<-Oo];exact qo
     ·show gm.length+hW (e5++S.sub.reverse)<=T.dL.length;rw[xp,XB];omega
     ·show hW (e5++S.sub.reverse)<hW (e5++[S]);rw[xp,xp,XB,wg];omega
  ·have ay:cF.n=0:=by have:¬ (0:Int)<(cF.n:Int):=eO h;omega
   obtain rfl:aN=[]:=im (by omega);intro e8;have e8:lX J (⟨b7,.cells #[cF.val] 55 (0,0)⟩::(cF.aq 3++(lo.aq 3++A.aq))):=e8;have AZ:gm=T.parts A.ds:=by simpa using qo
   subst AZ;have qn:(⟨b7,.cells #[cF.val] 55 (0,0)⟩::(cF.aq 3++(lo.aq 3++A.aq)):List aE).Perm (lo.aq 3++(A.aq++([⟨b7,.cells #[cF.val] 55 (0,0)⟩]++cF.aq 3))):=by have:=ep (l₁:=([⟨b7,.cells #[cF.val] 55 (0,0)⟩]++cF.aq 3:List aE)) (l₂:=lo.aq 3++A.aq);simpa using this
   have ax:∀ g,lo.a=some g->J g=none/\g ∉ A.aq.map (·.num):=λg ax=>by
    have ah:lo.aq 3=[⟨g,.cells lo.aS.toArray 3 (0,0)⟩]:=by unfold aU.aq;rw[ax]
    have bJ:=(qn.map (·.num)).nodup_iff.1 e8.bX;rw[ah]at bJ;refine⟨e8.d ⟨g,.cells lo.aS.toArray 3 (0,0)⟩ (by simp[ah]),λhm=>?_⟩;rw[dc]at bJ;simp only[cc,h3,p7,kN,dc]at bJ;exact bJ.1 (h2 _ hm)
   obtain⟨eE,hw,gd,eu,-⟩:=aU.CY (b:=8) (e:=3) dG (by omega) ax (A.aq++([⟨b7,.cells #[cF.val] 55 (0,0)⟩]++cF.aq 3));exact⟨eE,A.aq,.perm qn (hw _ _ (.sub (y9 _ _) .refl)),λb o h=>gd _ _ (bL _ _ h),rfl,_,_,_,rfl,eu⟩
def vp(l:List Nat):List Int:=l.map λx:Nat=>(x:Int)
structure Ii(I:aM)(A:bT)(T:a7)(lo cF:aU)(gm:List Nat)(aN:List a7)(os:aU)(ds:List an)(J:aM):Prop where
 bL:∀ b o,I b=some o->J b=some o
 ok:bT.ok J ⟨A.b,os,ds⟩
 lo:lo.ok 1 ((vp gm).map (.int .i64 ·))
 cF:cF.ok 1 ((fY aN).map (.int .i64 ·))
 ec:∀ S∈aN,di A.ds S
 bX:(gm++aN.flatMap a7.dL).Nodup
 len:ds.length=A.ds.length
 a:os.a=A.os.a
 same:∀ w,w ∉ gm->nodeAt ds w=nodeAt A.ds w
 done:∀ w∈gm,∃ S a n c,di A.ds S/\S.bS=w/\nodeAt ds w=(nodeAt A.ds w).row a n c (fY (S.parts A.ds))
 out:gm++aN.reverse.flatMap (λS=>(S.bh A.ds).dL.reverse)=(T.bh A.ds).dL.reverse
def Ii.lt{A:bT}{T:a7}{lo cF:aU}{gm:List Nat}{aN:List a7}{ds:List an}(h:Ii I A T lo cF gm aN os ds J):gm.length+hW aN<=A.ds.length:=by
 have aa:=H4 (n:=A.ds.length) h.bX λx ab=>by
  rcases cO.1 ab with ab | ab;·obtain⟨S,-,-,-,ej,rfl,-⟩:=h.done x ab;exact ej.vm
  ·obtain⟨S,ej,ab⟩:=hg.1 ab;exact(h.ec S ej).lt x ab
 rw[cL,Ab]at aa;exact aa
def lX.Ot{foot:List Nat}(e8:lX J M)(aO:M.Perm (os.aq e++Mr))(az:∀ x∈foot,x∈Mr.map (·.num)):∀ g,os.a=some g->J g=none/\g ∉ foot:=λg ax=>by
 have ah:os.aq e=[⟨g,.cells os.aS.toArray e (0,0)⟩]:=by unfold aU.aq;rw[ax]
 have bJ:=(aO.map (·.num)).nodup_iff.1 e8.bX;refine⟨e8.d ⟨g,.cells os.aS.toArray e (0,0)⟩ (aO.mem_iff.2 (by rw[ah];exact .head _)),λhm=>?_⟩;rw[ah,dc]at bJ;simp only[cc,h3,p7,kN]at bJ;exact bJ.1 (az g hm)
def ajP{bD:aU}(h:os.val=bD.val):os.a.map (λg=>(⟨g,0,none⟩:Addr))=bD.a.map (λg=>(⟨g,0,none⟩:Addr)):=by unfold aU.val at h;injection h
structure XI(d:an)(dC:List Int)(y:Nat×aU×List Int):Prop where
 k:y.1<=d.aT
 ok:y.2.1.ok 1 (y.2.2.map (.int .i64 ·))
 eq:y.2.2=(d.ap.take y.1).map (λk=>dC.getD k.toNat 0)
def ajQ{ns:List an}(h:∀ w,(nodeAt HY w).k=(nodeAt ns w).k)(b2:Option Int):∀ S:a7,S.m6 HY b2=S.m6 ns b2:=by
 intro S
 induction S using a7.ind with
 |h k ks aR=>
  rw[a7.vn,a7.vn,h k];split;·exact qd λc au=>aR c au
  ·rfl
def ajR{d e:an}(h:d.k=e.k):iX d=iX e:=by unfold iX;rw[h]
def ajS{ns:List an}(h:∀ w,(nodeAt HY w).k=(nodeAt ns w).k)(S:a7):S.parts HY=S.parts ns:=by unfold a7.parts;rw[ajR (h S.bS)];exact qd λc au=>ajQ h _ c
def an.ajT(d:an)(a:Option Addr)(n c:Nat)(ks:List Int):bQ d.cells 8 [.slice a n c]=(d.row a n c ks).cells:=rfl
def ajU{ns:List an}:∀ {T:a7},di ns T->nx ns T.gB:=by
 intro T
 induction T using a7.ind with
 |h k ks aR=>
  intro h;obtain⟨aa,ad,al⟩:=h.inv;have az:nx ns (ks.flatMap a7.gB):=by
   have:∀ l:List a7,(∀ c∈l,nx ns c.gB)->nx ns (l.flatMap a7.gB):=λl=>by
    induction l with
    |nil=>intro _ i h;simp at h| cons c l Ou=>intro av;rw[jO];exact(av c (.head _)).append (Ou λx ab=>av x (.tail _ ab))
   exact this ks λc au=>aR c au (al c au)
  rw[a7.H'];intro i hi x ab;by_cases e:i<(ks.flatMap a7.gB).length;·rw[r7 e]at ab;rw[BU (by omega)];exact az i e x ab
  ·rw[cL,wD]at hi;have aB:i=(ks.flatMap a7.gB).length:=by omega
   subst aB;rw[uG (cI _)]at ab;simp only[kn,List.getElem_singleton,kx]at ab;rw[vG];rw[ad]at ab;obtain⟨c,au,rfl⟩:=cG.1 ab;exact hg.2 ⟨c,au,cG.2 ⟨c.bS,c.Br,rfl⟩⟩
def ajV{ns:List an}:∀ {T:a7},di ns T->∀ x∈T.dL,∀ q∈(nodeAt ns x).ap,0<=q/\q<ns.length:=by
 intro T
 induction T using a7.ind with
 |h k ks aR=>
  intro h x ab q aK;obtain⟨aa,ad,al⟩:=h.inv;rw[a7.mj]at ab;rcases cO.1 ab with ab | ab;·obtain⟨c,au,ab⟩:=hg.1 ab;exact aR c au (al c au) x ab q aK
  ·rw[eK.1 ab,ad]at aK;obtain⟨c,au,rfl⟩:=cG.1 aK;have:=(al c au).vm;omega
def a7.ajW(ns:List an)(S:a7):((S.parts ns).flatMap a7.dL).Sublist (S.sub.flatMap a7.dL):=by unfold a7.parts;rw[ze];exact Bs λc au=>a7.aiV ns _ c
def ajX{ds:List an}{j:Nat}(ai:j<ds.length)(x:an)(w:Nat):nodeAt (ds.set j x) w=if w=j then x else nodeAt ds w:=by
 unfold nodeAt;rw[cv,cv,kl];by_cases e:w=j
 ·subst e;rw[ck rfl,ck ai,ck rfl];rfl
 ·rw[ca (λh=>e h.symm),ca e]
def ajY(ns:List an)(S:a7):(S.bh ns).dL.reverse=S.bS::(S.parts ns).reverse.flatMap λc=>(c.bh ns).dL.reverse:=by
 have h:=a7.Xf ns S;have av:=a7.Xe ns S;generalize S.bh ns=O at h av;cases O with
 |mk k ks=>
 obtain rfl:k=S.bS:=av;rw[a7.mj,show ks=_ from h,uH,vS,p7,List.reverse_flatMap,<-N6,wj];rfl
def ajZ{A:bT}(dk:A.ok I)(aJ:A.ds.length<=1099511627776)(ae:sE A.ds)(aj:gR (dU A.ds)){T:a7}(bl:di A.ds T) :
  Spec Tryz.prog 62 [ptr A.b,.int .i64 T.bS] I A.aq λv I' M'=>(∀ b o,I b=some o->I' b=some o)/\M'=[]/\∃ bj:bw,v=bj.val/\bj.ok I'/\xo bj (T.bare A.ds).bh:=by
 refine zz [] a4 Tryz.func62 rfl rfl rfl ?_;intro B ay;refine cJ.mk λb1 mH ajL=>?_;refine dI.inv (ι:=aU×aU×List Nat×List a7×aU×List an×aM) (λx=>{ bn:=[(0,.val (ptr A.b)),(4,.ref 4 0),(5,.val x.1.val),(6,.val x.2.1.val)],cl:=[(4,[.slice none 0 0,.int .i64 0])],c2:=x.2.2.2.2.2.2,dx:=x.2.1.aq 3++(x.1.aq 3++bT.aq ⟨A.b,x.2.2.2.2.1,x.2.2.2.2.2.1⟩) }) (λx=>Ii I A T x.1 x.2.1 x.2.2.1 x.2.2.2.1 x.2.2.2.2.1 x.2.2.2.2.2.1 x.2.2.2.2.2.2) (λx=>hW x.2.2.2.1) ?_ ?_
 ·refine⟨(⟨none,0,0,[]⟩,⟨some b1,1,1,[.int .i64 T.bS]⟩,[],[T],A.os,A.ds,I),⟨λ_ _ h=>h,dk,⟨rfl,(λ_=>⟨rfl,rfl⟩),λg h=>by cases h⟩,⟨rfl,(λh=>by cases h),λcN jn=>⟨rfl,cI _,by simp[maxLen],rfl⟩⟩,λS ej=>?_,?_,rfl,rfl,λw _=>rfl,(λw hw=>by cases hw),?_⟩,.refl,fr,.cons rfl (.nil)⟩
  ·rw[eK.1 ej];exact bl
  ·rw[jq,qZ];exact bl.nodup ae aj
  ·rw[jq,vS,qZ]
 rintro⟨lo,cF,gm,aN,os,ds,J⟩bC;have bC:Ii I A T lo cF gm aN os ds J:=bC;have aW:=bC.lt;obtain⟨bL,bo,dG,k9,lG,bJ,cu,XJ,qo,A6,pz⟩:=bC;have lZ:=dG.oc;have sA:=k9.oc;have hp:=zi aN;simp only[fY,vp,bO]at lZ sA;refine a9.mk (λh=>?_) (λh=>?_)
 ·have Wf:0<cF.n:=by have:(0:Int)<(cF.n:Int):=dV h;omega
  obtain⟨e5,S,rfl⟩:∃ r p,aN=r++[p]:=by
   rcases x5 aN with aa | ⟨r,p,aa⟩;·subst aa;simp at sA;omega
   ·exact⟨r,p,by simpa using aa⟩
  have ej:=lG S (by simp);have Ib:=ej.vm;have On:=Ia S;have wg:hW [S]=S.dL.length:=by simp[hW]
  have ajM:=zi S.sub;rw[xp,wg,On]at aW hp;have h9:cF.n=e5.length+1:=by have fj:=sA;simp only[cL,wD]at fj;omega
  have Ov:∀ w∈S.dL,w ∉ gm:=λw hw aj0=>by have:=(sK.1 bJ).2.2 w aj0 w (by rw[gK,qZ];exact nQ _ hw);exact this rfl
  have XG:di ds S:=ej.congr λw hw=>⟨by rw[cu];exact ej.lt w hw,by rw[qo w (Ov w hw)]⟩;have ei:∀ w,(nodeAt ds w).k=(nodeAt A.ds w).k:=λw=>by
   by_cases hw:w∈gm;·obtain⟨jC,a,n,c,-,-,e⟩:=A6 w hw;rw[e];rfl
   ·rw[qo w hw]
  have MM:S.parts ds=S.parts A.ds:=ajS ei S;obtain⟨aV,bU,bB⟩:=aU.CV (I:=J) (e:=3) (M:=cF.aq 3++(lo.aq 3++bT.aq ⟨A.b,os,ds⟩)) k9 (λx ab=>by simp[ab]) (j:=e5.length) (by simp[fY]);have EH:(fY (e5++[S]))[e5.length]'(by simp[fY])=(S.bS:Int):=by simp[fY]
  rw[EH]at bB;have mi:=k9;rw[EF,dc]at mi;have mi:aU.ok ⟨cF.a,cF.n-1,cF.c,cF.aS⟩ 1 ((fY e5).map (.int .i64 ·)):=aU.pop mi;have he:cF.n-1=e5.length:=by omega
  rw[he]at mi;have Ee:e5.length<=cF.c:=by
   cases xe:cF.a with
   |none=>have:=(k9.nil xe).1;omega| some Ef=>have:=(k9.cap Ef xe).2.1;omega
  refine bi.mk ((e5.length:Nat):Int) (by show IntKind.i64.wrap ((cF.n:Int)-1)=_;rw[wrap_i64 ⟨by omega,by omega⟩];omega) ?_;refine bu.mk aV e5.length bU rfl (show e5.length<cF.n by omega) ?_;refine aZ.mk _ bB ?_;refine dh.draw a4 rfl rfl rfl ?_;refine aZ.mk [os.val] (cX (cs:=[os.val]) (k:=0) (n:=1) (T:=94) (by simp[bT.aq,bT.aj]) (by simp)) ?_;refine fv.mD (bT.aq ⟨A.b,os,ds⟩) (cF.aq 3++(lo.aq 3++[])) _ ?_ (ajI (A:=⟨A.b,os,ds⟩) bo (by simp only;omega) XG (by omega)) ?_ ?_;·have:=ep (l₁:=(cF.aq 3++lo.aq 3)) (l₂:=bT.aq ⟨A.b,os,ds⟩);simpa using this
  ·rintro v I' M'⟨-,rfl,-⟩x ab;exact ab
  rintro v iW M1 -⟨fC,rfl,a,n,c,rfl,eu⟩;simp only at eu;rw[MM]at eu;have wi:S.bS<ds.length:=by omega
  have um:=bo.mono fC;obtain⟨Ic,EI,Ie⟩:=aU.ok.row (I:=iW) (M:=bT.aq ⟨A.b,os,ds⟩++(cF.aq 3++(lo.aq 3++[]))) an.da (by decide) um.os (e:=66) (λx ab=>by simp[bT.aq,ab]) (j:=S.bS) wi;refine bu.mk Ic S.bS EI rfl (by have:=um.n;simp only at this |-;omega) ?_;refine aU.AT an.cells 9 an.da (e:=66) um.os wi 8 (vs:=[.slice a n c]) (bH rfl) rfl (ds[S.bS].row a n c (fY (S.parts A.ds))) (an.ajT _ _ _ _ _) [⟨A.b,.cells #[os.val] 94 (0,0)⟩] (cF.aq 3++(lo.aq 3++[])) rfl EI ?_;intro hE kd lV lR Ow;obtain⟨xq,Ij⟩:∃ xq,ds.set S.bS (ds[S.bS].row a n c (fY (S.parts A.ds)))=xq:=⟨_,rfl⟩;rw[Ij]at Ow;have wX:xq.length=ds.length:=by rw[<-Ij,uJ]
  have Ox:∀ w,nodeAt xq w=if w=S.bS then(nodeAt A.ds S.bS).row a n c (fY (S.parts A.ds))else nodeAt ds w:=λw=>by rw[<-Ij,ajX wi,<-gf wi,qo _ (Ov _ S.Br)]
  have jc:=S.ajW A.ds;have amI:hW (S.parts A.ds)<=hW S.sub:=by have:=jc.length_le;rw[Ab,Ab]at this;exact this
  have qU:=zi (S.parts A.ds);have oW:n=(S.parts A.ds).length:=by have:=eu.len;simp only[fY,bO]at this;omega
  have Cb:(ds[S.bS].row a n c (fY (S.parts A.ds))).ok iW:=by
   have aa:=(um.ds _ (b9 wi)).row eu λx ab=>by obtain⟨c',zE,rfl⟩:=cG.1 ab;have:=(a7.Xg A.ds ej c' zE).vm;unfold gy;omega
   exact aa
  have fj:hE.n=xq.length:=by rw[lR,wX];exact um.n
  have hc:bT.ok iW ⟨A.b,hE,xq⟩:=⟨Ow,fj,λx ab=>by
   rw[<-Ij]at ab;rcases w4 ab with ab | rfl;·exact um.ds x ab
   ·exact Cb⟩
  obtain⟨aj1,XK,XL⟩:=aU.ok.row (I:=iW) (M:=[⟨A.b,.cells #[os.val] 94 (0,0)⟩]++(hE.aq 66++(cF.aq 3++(lo.aq 3++[])))) an.da (by decide) Ow (e:=66) (λx ab=>by simp[ab]) (j:=S.bS) (by omega);have Aj:xq[S.bS]'(by omega)=ds[S.bS].row a n c (fY (S.parts A.ds)):=by have aa:=Ox S.bS;rw[ck rfl,gf (by omega),<-qo _ (Ov _ S.Br),gf wi]at aa;exact aa
  rw[Aj]at XL;have amJ:=eu.cap;refine dh.draw a4 rfl rfl rfl ?_;refine bi.mk ((e5.length:Nat):Int) (by show IntKind.i64.wrap ((cF.n:Int)-1)=_;rw[wrap_i64 ⟨by omega,by omega⟩];omega) ?_;refine kA.mk 0 e5.length rfl rfl (dO _) Ee ?_;refine aZ.mk [os.val] (cX (cs:=[os.val]) (k:=0) (n:=1) (T:=94) (by simp) (by simp)) ?_;refine bu.mk aj1 S.bS (by rw[lV]at XK;exact XK) rfl (by have:=um.n;simp only at this |-;omega) ?_;refine aZ.mk _ (XL.part (k:=8) (m:=1) (by decide)) ?_;refine br.Au a4 rfl (by simp) (e:=3) rfl rfl rfl ⟨cF.a,e5.length,cF.c,cF.aS⟩ mi rfl (sa:=a) (m:=n) (c':=c) (cq:=(fY (S.parts A.ds)).map (.int .i64 ·)) rfl (by rw[bO,oW];simp[fY]) (λay=>eu.w9 _ ay) (Ec _) ([⟨A.b,.cells #[os.val] 94 (0,0)⟩]++hE.aq 66) (lo.aq 3++[]) rfl (by simp only;omega) (by show(e5.length+n)*8<=_;omega) ?_;intro sy ahy ahz lz;rw[<-dc,<-EF]at lz;refine cJ.mk λcd iG Kd=>?_;refine br.lN a4 rfl (by simp) (e:=3) rfl rfl rfl lo dG rfl (cs:=[.int .i64 S.bS]) rfl rfl rfl ([⟨A.b,.cells #[os.val] 94 (0,0)⟩]++hE.aq 66++sy.aq 3) [] (congrArg (List.cons _) (fi _ _ _).symm) (by omega) (by show(lo.n+1)*8<=_;omega) ?_;intro xl amK amL aj2;refine⟨(xl,sy,gm++[S.bS],e5++S.parts A.ds,hE,xq,iW),⟨⟨λb o h=>fC _ _ (bL _ _ h),hc,?_,lz,λx ab=>?_,?_,wX.trans cu,lV.trans XJ,λw hw=>?_,λw hw=>?_,?_⟩,?_⟩,.perm ?_ .refl,fr,.cons rfl (.nil)⟩;·show xl.ok 1 ((vp (gm++[S.bS])).map (.int .i64 ·));unfold vp;rw[dc,dc];exact aj2
  ·rcases cO.1 ab with ab | ab
   ·exact lG x (by simp[ab])
   ·exact a7.Xg A.ds ej x ab
  ·have aa:((gm++[S.bS])++(e5++S.parts A.ds).flatMap a7.dL).Perm (gm++(e5.flatMap a7.dL++((S.parts A.ds).flatMap a7.dL++[S.bS]))):=by rw[fi,gK];refine List.Perm.append_left gm ?_;have:=ep (l₁:=[S.bS]) (l₂:=e5.flatMap a7.dL++(S.parts A.ds).flatMap a7.dL);simpa using this
   refine aa.nodup_iff.2 (List.Nodup.sublist ?_ bJ);rw[gK,qZ];refine(N5 _).append ((N5 _).append ?_);have:S.dL=S.sub.flatMap a7.dL++[S.bS]:=by cases S;exact a7.mj _ _
   rw[this];exact jc.append (.refl _)
  ·rw[Ox,ca (λe=>hw (by rw[e];simp)),qo w (λh=>hw (h2 _ h))]
  ·rw[Ox];by_cases e:w=S.bS
   ·subst e;rw[ck rfl];exact⟨S,a,n,c,ej,rfl,rfl⟩
   ·rw[ca e];rcases cO.1 hw with hw | hw
    ·exact A6 w hw
    ·exact absurd (eK.1 hw) e
  ·rw[<-pz,uH,uH,gK,gK,vS,qZ,ajY A.ds S,fi];rfl
  ·show hW (e5++S.parts A.ds)<hW (e5++[S]);rw[xp,xp,wg];omega
  ·show List.Perm _ (sy.aq 3++(xl.aq 3++(⟨A.b,.cells #[hE.val] 94 (0,0)⟩::hE.aq 66)));rw[kd];have:=ep (l₁:=(⟨A.b,.cells #[os.val] 94 (0,0)⟩::hE.aq 66)) (l₂:=sy.aq 3++xl.aq 3);simpa using this
 ·have ay:cF.n=0:=by have:¬ (0:Int)<(cF.n:Int):=eO h;omega
  obtain rfl:aN=[]:=im (by omega);have AZ:gm.reverse=(T.bh A.ds).dL:=by rw[List.reverse_nil,List.flatMap_nil,ee]at pz;rw[pz,L9]
  obtain⟨rb,la⟩:∃ rb,(T.bh A.ds).gB=rb:=⟨_,rfl⟩;have aj3:vp gm.reverse=rb:=by rw[AZ,<-la];rfl
  have ei:∀ w,(nodeAt ds w).bare=(nodeAt A.ds w).bare:=λw=>by
   by_cases hw:w∈gm;·obtain⟨jC,a,n,c,-,-,e⟩:=A6 w hw;rw[e];rfl
   ·rw[qo w hw]
  have XM:(T.bh A.ds).dL.Nodup:=(bl.nodup ae aj).sublist (a7.aiX _ T);have EK:di ds (T.bh A.ds):=a7.ai1 A.ds bl λS ej hm=>by rw[<-AZ]at hm;obtain⟨jC,a,n,c,Hj,e,a0⟩:=A6 S.bS (Nb.1 hm);obtain rfl:=Hj.aiR ej e;exact⟨by rw[cu];exact ej.vm,by rw[a0];rfl⟩
  have aj4:(T.bh A.ds).bare ds=(T.bare A.ds).bh:=by rw[a7.Xl A.ds _ λx ab=>ei x,a7.ai3]
  have XN:=ajq EK XM;rw[la,aj4]at XN;have rj:=sub_fold (t:=hS ds) (rb:=rb) (by
   rw[<-la];exact yp.2 (List.Pairwise.imp (fun {a b} bs e=>bs (by omega)) XM)) (by
   rw[<-la];exact ajU EK) (λk ae=>by
   rw[<-la]at ae;obtain⟨x,ab,rfl⟩:=cG.1 ae;have:=EK.lt x ab;exact⟨by omega,by show(x:Int)<ds.length;omega⟩)
  have rC:lo.ok 1 ((vp gm).map (.int .i64 ·)):=dG;have XC:os.n=ds.length:=bo.n;refine bd.mk (lo.aq 3++[]) (cF.aq 3++bT.aq ⟨A.b,os,ds⟩) _ ?_ (We (M0:=[]) rC (by show lo.n<=_;omega)) ?_;·have:=(ep (l₁:=lo.aq 3) (l₂:=cF.aq 3)).append_right (bT.aq ⟨A.b,os,ds⟩);simpa using this.symm
  rintro v iW M1 -⟨fC,back,XO,ri,rfl⟩;subst iW;have l2:(vp gm).reverse=rb:=by rw[<-aj3];unfold vp;rw[N6]
  rw[l2]at ri;have BP:=ri.oc;have qc:lo.n=back.n:=(vf XO).1.symm;have eh:rb.length=lo.n:=by rw[<-l2,y'];unfold vp;rw[bO];omega
  refine aZ.mk [os.val] (cX (cs:=[os.val]) (k:=0) (n:=1) (T:=94) (by simp[bT.aq,bT.aj]) (by simp)) ?_;refine oB.mk os.n os.n rfl rfl (cI _) (by show 8*os.n<=_;omega) (by omega) ?_;refine cJ.mk λcz qW yl=>?_;refine oB.mk 0 lo.n rfl rfl (dO _) (by show 96*lo.n<=_;omega) (by omega) ?_;refine cJ.mk λb7 yB Gp=>?_;have tC:(rowOf [Value.int .i64 0] (os.n*1))=(List.replicate ds.length (0:Int)).map (Value.int .i64):=by rw[Ck,BX,gV,XC]
  have Oy:∀ (P:List Int) (out dq:aU),∀ x∈A.aq.map (·.num),x∈(du cz P::(out.aq 66++(back.aq 3++bT.aq ⟨A.b,os,ds⟩))).map (·.num):=λP out dq x ab=>by
   have e:(bT.aq ⟨A.b,os,ds⟩).map (·.num)=A.aq.map (·.num):=by
    show A.b::(os.aq 66).map (·.num)=A.b::(A.os.aq 66).map (·.num);unfold aU.aq;rw[XJ];cases A.os.a<;>rfl
   rw[<-e]at ab;simp only[cc,dc];exact lO _ (nQ _ (nQ _ ab))
  refine dI.xO (ι:=Nat×List Int×aU×List an×aM) (λx=>{ bn:=[(0,.val (ptr A.b)),(4,.ref 4 0),(8,.val (.slice (some ⟨cz,0,none⟩) os.n os.n)),(9,.val x.2.2.1.val),(66,.val lo.val),(67,.val (.int .i64 lo.n)),(68,.val (.int .i64 x.1))],cl:=[(4,[.slice none 0 0,.int .i64 0])],c2:=x.2.2.2.2,dx:=du cz x.2.1::(x.2.2.1.aq 66++(back.aq 3++bT.aq ⟨A.b,os,ds⟩)) }) (RH J (hS ds) rb) (λx=>rb.length-x.1) ?_ ?_
  ·intro _;refine⟨(0,List.replicate ds.length 0,⟨some b7,0,lo.n,rowOf [.int .u8 0,.int .u64 0,.int .u64 0,.int .u64 0,.int .u64 0,.string ⟨#[]⟩,.int .i64 0,.int .i64 0,.slice none 0 0] (lo.n*9)⟩,[],J),⟨dO _,by rw[zQ];rfl,⟨rfl,(λh=>by cases h),λcN jn=>⟨by simp[qv,madeCells],dO _,by unfold maxLen;simp only;omega,by simp⟩⟩,rfl,rfl,(λd aj=>by cases aj),λ_ _ h=>h,(λc au=>by have:=J6 au;omega),(λd aj=>by cases aj)⟩,?_,qB,.cons rfl (.nil)⟩;refine .perm (List.Perm.swap _ _ _) ?_;refine .perm (List.Perm.cons _ (List.Perm.cons _ (?_:List.Perm _ ((back.aq 3++bT.aq ⟨A.b,os,ds⟩)++cF.aq 3)))) ?_
   ·rw[ee,fi];exact List.Perm.append_left _ ep
   refine .sub (.cons₂ _ (.cons₂ _ (y9 _ _))) (.tn ?_);rw[tC];rfl
  rintro⟨j,P,out,gr,fp⟩⟨ai,xf,xh,h9,Ik,xg,eQ,Eh,g7⟩;simp only at ai xf xh h9 Ik xg eQ Eh g7;have xf:P.length=ds.length:=xf;have aj5:out.n=j:=by have:=xh.len;rw[hM _ 9 an.da,h9]at this;omega
  subst aj5;refine a9.mk (λh=>?_) (λh=>?_)
  ·have vh:out.n<rb.length:=by have:(out.n:Int)<(lo.n:Int):=dV h;omega
   have hm:∀ y∈rb,0<=y/\y<ds.length:=λy aD=>by rw[<-la]at aD;obtain⟨x,ab,rfl⟩:=cG.1 aD;have:=EK.lt x ab;omega
   have hm:=hm _ (b9 vh);obtain⟨m,vi⟩:=eN hm.1;rw[vi]at hm;have kk:m<ds.length:=by omega
   obtain⟨aV,bU,Ei⟩:=aU.CV (I:=fp) (e:=3) (M:=du cz P::(out.aq 66++(back.aq 3++bT.aq ⟨A.b,os,ds⟩))) ri (λx ab=>by simp[ab]) vh;rw[vi]at Ei;have Il:=bo.mono eQ;have eJ:ds[m].ok fp:=Il.ds _ (b9 kk);have m5:nodeAt ds m=ds[m]:=gf kk;have fR:=o4 P m (by omega) (out.n:Int);generalize q9:P.set m (out.n:Int)=dC at fR;have HT:dC.length=ds.length:=by rw[<-q9];simpa using xf
   obtain⟨qY,r5,kE⟩:=aU.ok.row (I:=fp) (M:=du cz dC::(out.aq 66++(back.aq 3++bT.aq ⟨A.b,os,ds⟩))) an.da (by decide) Il.os (e:=66) (λx ab=>by simp[bT.aq,ab]) (j:=m) kk;have kE:c7 fp (du cz dC::(out.aq 66++(back.aq 3++bT.aq ⟨A.b,os,ds⟩))) (qY.add (m*9)) 9 ds[m].cells:=kE;generalize eF:ds[m]=d at eJ kE m5;have e':=eJ.aT;have q1:=eJ.bb.cap;have zc:∀ c∈dC,0<=c/\c<=rb.length:=λc au=>by
    rw[<-q9]at au;rcases w4 au with au | rfl;·exact Eh c au
    ·omega
   refine bu.mk aV out.n (by have:=(ajP XO);rw[this]at bU;exact bU) rfl (show _<lo.n by omega) ?_;refine aZ.mk _ Ei ?_;refine bu.mk ⟨cz,0,none⟩ m rfl rfl (by omega) ?_;refine cn.iM [] (out.aq 66++(back.aq 3++bT.aq ⟨A.b,os,ds⟩)) (P.map (Value.int .i64)) 3 rfl (by rw[nv,bO];show 0+m*1+1<=_;omega) rfl (dC.map (Value.int .i64)) (by rw[c9,gV];exact fR) ?_;refine aZ.mk [os.val] (cX (cs:=[os.val]) (k:=0) (n:=1) (T:=94) (by simp[bT.aq,bT.aj]) (by simp)) ?_;refine bu.mk qY m r5 rfl (by omega) ?_;refine aZ.mk _ kE ?_;have uu:(out.n+1)*96<=140737488355328:=by omega
   have gW:∀ q∈d.ap,0<=q/\q<dC.length:=λq aK=>by
    have aa:q∈(nodeAt ds m).ap:=by rw[m5];exact aK
    have xr:(m:Int)∈rb:=by rw[<-vi];exact b9 vh
    rw[<-la]at xr;obtain⟨x,ab,e⟩:=cG.1 xr;obtain rfl:x=m:=Int.ofNat.inj e;have:=ajV EK x ab q aa;omega
   refine dI.inv (ι:=Nat×aU×List Int) (λy=>{ bn:=[(0,.val (ptr A.b)),(4,.ref 4 0),(8,.val (.slice (some ⟨cz,0,none⟩) os.n os.n)),(9,.val out.val),(10,.val (.int .i64 out.n)),(12,.ref 12 0),(13,.val y.2.1.val),(66,.val lo.val),(67,.val (.int .i64 lo.n)),(68,.val (.int .i64 out.n)),(85,.val (.slice d.cW d.aT d.c5)),(86,.val (.int .i64 d.aT)),(87,.val (.int .i64 y.1))],cl:=[(4,[.slice none 0 0,.int .i64 0]),(12,d.cells)],c2:=fp,dx:=y.2.1.aq 3++(du cz dC::(out.aq 66++(back.aq 3++bT.aq ⟨A.b,os,ds⟩))) }) (λy=>XI d dC y) (λy=>d.aT-y.1) ?_ ?_;·exact⟨(0,jz,[]),⟨dO _,ob 1,by simp⟩,.refl,Pf,.cons rfl (.cons rfl (.nil))⟩
   rintro⟨k,dq,eC⟩⟨hA,hR,c0⟩;simp only at hA hR c0;have aj6:=hR.oc;have Ak:eC.length=k:=by rw[c0,bO,fu];omega
   refine a9.mk (λad=>?_) (λad=>?_)
   ·have Im:k<d.aT:=by have:(k:Int)<(d.aT:Int):=dV ad;omega
    have hG:k<d.ap.length:=by omega
    have ag:=gW _ (b9 hG);have sC:d.ap[k].toNat<dC.length:=by omega
    have zd:dC.getD d.ap[k].toNat 0=dC[d.ap[k].toNat]:=by simp[cv,sC]
    have Oz:dZ fp d.cW d.aT d.c5 1 8 (d.ap.flatMap jD):=by rw[py];exact eJ.bb
    obtain⟨gp,fe,e1⟩:=Oz.row (f:=jD) (λ_=>rfl) (j:=k) (by omega) hG;refine bu.mk gp k fe rfl (show k<d.aT by omega) ?_;refine aZ.mk _ (e1 _) ?_;refine bu.mk ⟨cz,0,none⟩ d.ap[k].toNat rfl (by omega) (by omega) ?_;refine aZ.mk _ (Cn (by simp) sC) ?_;refine cJ.mk λaj7 aj8 aj9=>?_;refine br.lN a4 rfl (by simp) (e:=3) rfl rfl rfl dq hR rfl (cs:=[.int .i64 dC[d.ap[k].toNat]]) rfl rfl rfl [] (du cz dC::(out.aq 66++(back.aq 3++bT.aq ⟨A.b,os,ds⟩))) rfl (by omega) (by show(dq.n+1)*8<=_;omega) ?_;intro mU XP aka OA;refine bi.mk _ (de (i:=k) (by omega)) ?_;refine⟨(k+1,mU,eC++[dC[d.ap[k].toNat]]),⟨⟨Im,?_,?_⟩,by simp only;omega⟩,.refl,Pf,.cons rfl (.cons rfl (.nil))⟩;·rw[dc];exact OA
    ·rw[c0,gD hG,dc,vl,zd]
   have cV:k=d.aT:=by have:¬ (k:Int)<(d.aT:Int):=eO ad;omega
   subst cV;rw[fT (by omega)]at c0;refine cJ.mk λWk Wl Wm=>?_;have bJ:∃ bX:an,bX=⟨d.k,d.b3,d.s1,d.s2,d.cm,d.t,d.lo,d.hi,dq.a.map λg=>⟨g,0,none⟩,dq.n,dq.c,eC⟩:=⟨_,rfl⟩;obtain⟨bX,bJ⟩:=bJ;have Ek:bX.cells=[.int .u8 d.k,.int .u64 d.b3,.int .u64 d.s1,.int .u64 d.s2,.int .u64 d.cm,.string d.t,.int .i64 d.lo,.int .i64 d.hi,.slice (dq.a.map λg=>⟨g,0,none⟩) dq.n dq.c]:=by rw[bJ];rfl
   refine br.lN a4 rfl (by simp) (e:=66) rfl rfl rfl out xh rfl (cs:=[.int .u8 d.k,.int .u64 d.b3,.int .u64 d.s1,.int .u64 d.s2,.int .u64 d.cm,.string d.t,.int .i64 d.lo,.int .i64 d.hi,.slice (dq.a.map λg=>⟨g,0,none⟩) dq.n dq.c]) rfl rfl rfl (dq.aq 3++[du cz dC]) (back.aq 3++bT.aq ⟨A.b,os,ds⟩) (congrArg (List.cons _) (fi _ [_] _).symm) (by omega) (by show(out.n+1)*96<=_;omega) ?_;intro lb NO Wn akb;refine bi.mk _ (de (i:=out.n) (by omega)) ?_;have xi:∀ c∈eC,0<=c/\c<=rb.length:=λc au=>by
    rw[c0]at au;obtain⟨q,aK,rfl⟩:=cG.1 au;have k3:=gW q aK;have El:q.toNat<dC.length:=by omega
    exact zc (dC.getD q.toNat 0) (by simp only[cv,dX El,jG];exact b9 _)
   intro e8;have qn:((dq.aq 3++[du cz dC])++(lb.aq 66++(back.aq 3++bT.aq ⟨A.b,os,ds⟩))).Perm (dq.aq 3++(du cz dC::(lb.aq 66++(back.aq 3++bT.aq ⟨A.b,os,ds⟩)))):=by rw[fi];exact List.Perm.refl _
   have ax:=lX.Ot (J:=fp) (os:=dq) (e:=3) e8 qn (Oy dC lb dq);obtain⟨kL,hw,bg,eu,-⟩:=aU.CY (b:=8) (e:=3) hR (by omega) ax (du cz dC::(lb.aq 66++(back.aq 3++bT.aq ⟨A.b,os,ds⟩)));refine⟨(out.n+1,dC,lb,gr++[bX],kL),⟨⟨by simp only;omega,HT,?_,by simp[h9],?_,?_,λb o h=>bg _ _ (eQ _ _ h),zc,?_⟩,by simp only;omega⟩,.perm qn (hw _ _ .refl),qB,.cons rfl (.nil)⟩
   ·simp only;rw[gK];have:([bX].flatMap an.cells)=bX.cells:=by simp
    rw[this,Ek];exact akb
   ·simp only;rw[gD vh,q0,Ik,iY,CN,vi];show(P.set m ((gr.map an.a6).length:Int),gr.map an.a6++[(nodeAt ds m).cA ((nodeAt ds m).ap.map λk=>(P.set m ((gr.map an.a6).length:Int)).getD k.toNat 0)])=_;rw[bO,h9,q9,m5,<-c0,dc,bJ];rfl
   ·simp only;intro x ab;rcases cO.1 ab with ab | ab
    ·exact(xg x ab).mono bg
    ·simp only[eK]at ab;rw[ab,bJ];refine⟨eJ.k,eJ.b3,eJ.s1,eJ.s2,eJ.cm,eJ.t,eJ.lo,eJ.hi,eu,λc au=>?_⟩;have:=xi c au;exact⟨by omega,by omega⟩
   ·simp only;intro x ab;rcases cO.1 ab with ab | ab
    ·exact g7 x ab
    ·simp only[eK]at ab;rw[ab,bJ];exact xi
  ·have cV:out.n=rb.length:=by have:¬ (out.n:Int)<(lo.n:Int):=eO h;omega
   refine bi.mk ((gr.length:Int)-1) (by show IntKind.i64.wrap ((out.n:Int)-1)=_;rw[wrap_i64 ⟨by omega,by omega⟩,h9]) ?_;intro e8;have qn:(du cz P::(out.aq 66++(back.aq 3++bT.aq ⟨A.b,os,ds⟩))).Perm (out.aq 66++(du cz P::(jz.aq 66++(back.aq 3++bT.aq ⟨A.b,os,ds⟩)))):=nu.symm;have ax:=lX.Ot (J:=fp) (os:=out) (e:=66) e8 qn (Oy P jz jz);obtain⟨kL,hw,bg,eu,-⟩:=aU.CY (b:=96) (e:=66) xh (by omega) ax (du cz P::(jz.aq 66++(back.aq 3++bT.aq ⟨A.b,os,ds⟩)));rw[fT (by omega)]at Ik;obtain⟨AV,kH,-,-⟩:=rj rb.length (cI _);rw[Fc]at kH;have dJ:gr.map an.a6=(T.bare A.ds).bh.post:=by rw[<-XN];exact congrArg Prod.snd (Ik.symm.trans kH)
   exact⟨kL,[],.perm qn (hw _ _ (.sub (gn _) .refl)),λb o h=>bg _ _ (eQ _ _ (bL _ _ h)),rfl,⟨gr,out.a.map λg=>⟨g,0,none⟩,out.n,out.c,(gr.length:Int)-1⟩,rfl,⟨eu,λd aj=>(xg d aj).mono bg,⟨by simp only;omega,by simp only;omega⟩⟩,⟨dJ,rfl⟩⟩
structure qp(ds:List an)(XQ:List Nat):Prop where
 fits:∀ d∈ds,fits d d.ap.length=true
 ap:∀ j (h:j<ds.length),∀ k∈ds[j].ap,0<=k/\k<j
 diff:gR (dU ds)
 fW:∀ k∈XQ,k<ds.length/\(k:Int) ∉ dU ds
 sy:XQ.Nodup
def OB(a b:List an):dU (a++b)=dU a++dU b:=by unfold dU;rw[gK]
def qp.add{ds:List an}(h:qp ds (l++bc)){x:an}(ab:Go.V.fits x x.ap.length=true)(ae:x.ap.Sublist (l.map Int.ofNat)):qp (ds++[x]) (ds.length::bc):=by
 have dy:∀ k∈x.ap,∃ q∈l,k=(q:Int):=λk aK=>by obtain⟨q,aa,ad⟩:=cG.1 (ae.subset aK);exact⟨q,aa,ad.symm⟩
 have fe:dU (ds++[x])=dU ds++x.ap:=by rw[OB];simp[dU]
 have bJ:=sK.1 h.sy;refine⟨λd aj=>?_,λj ai k aK=>?_,?_,λk aK=>?_,?_⟩
 ·rcases cO.1 aj with aj | aj
  ·exact h.fits d aj
  ·rw[eK.1 aj];exact ab
 ·by_cases e:j<ds.length
  ·rw[r7 e]at aK;exact h.ap j e k aK
  ·rw[cL,wD]at ai;have akc:j=ds.length:=by omega
   subst akc;rw[uG (cI _)]at aK;simp only[kn,List.getElem_singleton]at aK;obtain⟨q,aa,rfl⟩:=dy k aK;have:=(h.fW q (h2 _ aa)).1;omega
 ·rw[fe];refine pc.2 ⟨h.diff,?_,λa aY b ah=>?_⟩
  ·refine List.Pairwise.sublist ae ?_;refine yp.2 (bJ.1.imp λbs e=>bs ?_);exact Int.ofNat.inj e
  ·rintro rfl;obtain⟨q,aa,rfl⟩:=dy _ ah;exact(h.fW q (h2 _ aa)).2 aY
 ·rw[fe];rw[cL,wD];rcases dW.1 aK with rfl | aK
  ·refine⟨by omega,λhm=>?_⟩;rcases cO.1 hm with hm | hm
   ·have:=HX h.ap _ hm;omega
   ·obtain⟨q,aa,e⟩:=dy _ hm;have:=(h.fW q (h2 _ aa)).1;omega
  ·obtain⟨aa,ad⟩:=h.fW k (nQ _ aK);refine⟨by omega,λhm=>?_⟩;rcases cO.1 hm with hm | hm
   ·exact ad hm
   ·obtain⟨q,al,e⟩:=dy _ hm;have:k=q:=by omega
    subst this;exact bJ.2.2 k al k aK rfl
 ·refine kN.2 ⟨λhm=>?_,bJ.2.1⟩;have:=(h.fW _ (nQ _ hm)).1;omega
def qp.pick{ds:List an}(h:qp ds (l++bc))(af:r∈l):qp ds (r::bc):=by
 have bJ:=sK.1 h.sy;refine⟨h.fits,h.ap,h.diff,λk ae=>?_,kN.2 ⟨λhm=>bJ.2.2 r af r hm rfl,bJ.2.1⟩⟩;rcases dW.1 ae with rfl | ae
 ·exact h.fW _ (h2 _ af)
 ·exact h.fW _ (nQ _ ae)
def EL(d:an)(ds:List an):∀ l:List Nat,(ig d ds l).Sublist (l.map Int.ofNat)
 |[]=>.slnil
 |k::l=>by
  show List.Sublist ((bif m7 d (ds.getD k sG)then [(k:Int)]else [])++ig d ds l) (Int.ofNat k::l.map Int.ofNat);cases m7 d (ds.getD k sG)with
  |true=>exact(EL d ds l).cons₂ _| false=>exact(EL d ds l).cons _
def OC{d:an}(h:d.k=4\/d.k=5){n m:Int}(aJ:2<=n)(hm:2<=m)(az:Go.V.fits d n=true):Go.V.fits d m=true:=by
 unfold Go.V.fits at az |-;rcases h with e | e<;>rw[e]at az |-<;>simp[rO,pU]at az |-<;>exact⟨⟨hm,.inl (by decide)⟩,az.2⟩
def qp.join{ds:List an}(h:qp ds (l++bc)){d:an}(aj:Go.V.fits d l.length=true){r:Int}(ai:tR d l ds ds' r):0<=r/\qp ds' (r.toNat::bc):=by
 unfold tR at ai;split at ai
 ·rename_i gC;rcases ai with⟨aa,rfl,ad⟩ | ⟨aa,ad⟩ | ⟨aa,rfl,bF,hB,c',ad⟩
  ·refine⟨by omega,?_⟩;rw[ad,kx];refine h.add ?_ (gn _);rcases gC with e | e
   ·rw[show d.k-4=0 by omega];rfl
   ·rw[show d.k-4=1 by omega];rfl
  ·have af:r∈l.map Int.ofNat:=(EL d ds l).subset (by rw[aa];exact .head _);obtain⟨q,aK,rfl⟩:=cG.1 af;rw[ad];exact⟨Gz _,h.pick aK⟩
  ·refine⟨by omega,?_⟩;rw[ad,kx];refine h.add ?_ (EL d ds l);show Go.V.fits d ((ig d ds l).length:Nat)=true;have mL:(2:Int)<=((ig d ds l).length:Nat):=by omega
   have uK:(2:Int)<=(l.length:Nat):=by have:=(EL d ds l).length_le;rw[bO]at this;omega
   exact OC gC uK mL aj
 ·obtain⟨rfl,bF,hB,c',ad⟩:=ai;refine⟨by omega,?_⟩;rw[ad,kx];refine h.add ?_ (N5 _);show Go.V.fits d ((l.map Int.ofNat).length:Nat)=true;rw[bO];exact aj
def mo(d:an)(x:bA):Bool:=!decide (d.k=4) || !decide (x.d.k=0)
def EM(d:an)(xs:List bA):bA:=
 if d.k=4\/d.k=5 then match xs.filter (mo d)with
  |[]=>.mk (nothing (d.k-4)).bare []| [y]=>y| ys=>.mk d ys
 else .mk d xs
def tS(d:an)(xs:List bA):bA:=EM d.bare xs
def bA.vq(T:bA):bA:=(T.fold tS).bh
def akd(ns:List an)(T:a7):(T.bare ns).d=(nodeAt ns T.bS).bare:=by
 cases T with
 |mk k ks=>
 rw[a7.qm];rfl
def ake{ns:List an}{k:Nat}(h:k<ns.length):ns.getD k sG=nodeAt ns k:=by rw[gf h];simp[cv,h]
def XR{d:an}{ds:List an}:∀ {ks:List a7},(∀ c∈ks,di ds c)->ig d ds (ks.map a7.bS)=fY (ks.filter λc=>mo d (c.bare ds))/\(ks.filter λc=>mo d (c.bare ds)).map (a7.bare ds)=(ks.map (a7.bare ds)).filter (mo d)
 |[],_=>⟨rfl,rfl⟩
 |c::ks,h=>by
  obtain⟨aa,ad⟩:=XR (d:=d) (ks:=ks) λx ab=>h x (.tail _ ab);have au:=(h c (.head _)).vm;have e:m7 d (ds.getD c.bS sG)=mo d (c.bare ds):=by unfold m7 mo;rw[akd,an.Xh,ake au]
  have ai:ig d ds ((c::ks).map a7.bS)=(bif m7 d (ds.getD c.bS sG)then [(c.bS:Int)]else [])++ig d ds (ks.map a7.bS):=rfl;rw[ai,aa,e,xT,cc,xT];cases mo d (c.bare ds)with
  |true=>exact⟨rfl,by simp[ad]⟩| false=>exact⟨rfl,by simpa using ad⟩
def XS(d:an)(xs:List bA):tS d xs=if d.k=4\/d.k=5 then(match xs.filter (mo d)with
  |[]=>.mk (nothing (d.k-4)).bare []| [y]=>y| ys=>.mk d.bare ys)else .mk d.bare xs:=rfl
def tR.lt{d:an}{ds:List an}{ks:List a7}{r:Int}(fl:∀ c∈ks,di ds c)(h:tR d (ks.map a7.bS) ds ds' r) :
  (∃ m,ds'=ds++m)/\∃ T:a7,(T.bS:Int)=r/\di ds' T/\T.bare ds'=tS d (ks.map (a7.bare ds)):=by
 obtain⟨ai,az⟩:=XR (d:=d) fl;have new:∀ (x:an) (l:List a7),(∀ c∈l,di ds c)->x.ap=fY l->di (ds++[x]) (.mk ds.length l)/\(a7.mk ds.length l).bare (ds++[x])=.mk x.bare (l.map (a7.bare ds)):=λx l av ab=>by refine⟨.mk (by simp) (by rw[W7,ab];rfl) λc au=>(av c au).app _,?_⟩;rw[a7.qm,W7];congr 1;exact fy λc au=>a7.Xm ds (av c au) _
 unfold tR at h;rw[XS,<-az];split at h
 ·rename_i gC;rw[ck gC];rw[ai]at h;have k2:∀ c∈ks.filter (λc=>mo d (c.bare ds)),di ds c:=λc au=>fl c (nR.1 au).1;generalize ks.filter (λc=>mo d (c.bare ds))=bn at h k2;rcases h with⟨aa,rfl,rfl⟩ | ⟨aa,rfl⟩ | ⟨aa,rfl,bF,hB,c',rfl⟩
  ·obtain rfl:bn=[]:=List.map_eq_nil_iff.1 aa;obtain⟨hf,g4⟩:=new (nothing (d.k-4)) [] (λc au=>by cases au) rfl;exact⟨⟨_,rfl⟩,_,rfl,hf,g4⟩
  ·match bn,aa with
   |[c],aa=>refine⟨⟨[],by simp⟩,c,?_,k2 c (.head _),rfl⟩;simpa[fY]using aa
  ·obtain⟨hf,g4⟩:=new (d.row bF hB c' (fY bn)) bn k2 rfl;refine⟨⟨_,rfl⟩,_,rfl,hf,g4.trans ?_⟩
   match bn,aa with
   |hH::ha::l,aa=>rfl
 ·rename_i gC;rw[ca gC];obtain⟨rfl,bF,hB,c',rfl⟩:=h;obtain⟨hf,g4⟩:=new (d.row bF hB c' ((ks.map a7.bS).map Int.ofNat)) ks fl (by rw[gz];rfl);exact⟨⟨_,rfl⟩,_,rfl,hf,g4⟩
def qp.perm{ds:List an}{a b:List Nat}(h:qp ds a)(aO:a.Perm b):qp ds b:=⟨h.fits,h.ap,h.diff,λk ae=>h.fW k (aO.mem_iff.2 ae),aO.nodup_iff.1 h.sy⟩
def sI(ns:List an)(i:Nat):List Nat:=(List.range i).filter λj=>!decide ((j:Int)∈dU (ns.take i))
def nI(P:List Int)(j:Nat):Nat:=(P.getD j 0).toNat
structure zj(t:bw)(i:Nat)(ds:List an)(P:List Int):Prop where
 hi:i<=t.ns.length
 q8:P.length=t.ns.length
 len:ds.length<=i
 vd:∀ j,j<i->∃ T:a7,(T.bS:Int)=P.getD j 0/\di ds T/\T.bare ds=(lW t.ns j).fold tS
 wd:qp ds ((sI t.ns i).map (nI P))
def akf(h:hj t){j:Nat}(ai:j<t.ns.length):lW t.ns j=.mk t.ns[j].bare (t.ns[j].ap.map (lW t.ns)):=by
 obtain⟨T,bl,dk,he,-⟩:=h.lt ai;cases T with
 |mk k ks=>
 obtain rfl:k=j:=bl;obtain⟨aa,ad,al⟩:=dk.inv;rw[he,a7.qm,gf aa];rw[gf aa]at ad;rw[ad,gz];congr 1;exact fy λc au=>(Xx h.EE (al c au)).symm
def XT{ns:List an}(hi:i<ns.length):dU (ns.take (i+1))=dU (ns.take i)++ns[i].ap:=by rw[gD hi,OB];simp[dU]
def EN{ns:List an}{j:Nat}:j∈sI ns i ↔ j<i/\(j:Int) ∉ dU (ns.take i):=by unfold sI;rw[nR,kb];simp
def zj.step(af:hj t){ds:List an}{P:List Int}(h:zj t i ds P)(hi:i<t.ns.length){r:Int}(ai:tR t.ns[i] (t.ns[i].ap.map λk=>nI P k.toNat) ds ds' r) :
  zj t (i+1) ds' (P.set i r):=by
 have ny:=af.ap i hi;obtain⟨ks,v5,eG⟩:=Og (R:=λ(x:Int) (T:a7)=>T.bS=nI P x.toNat/\di ds T/\T.bare ds=(lW t.ns x).fold tS) (l:=t.ns[i].ap) λx ab=>by have:=ny x ab;obtain⟨T,aa,ad,al⟩:=h.vd x.toNat (by omega);refine⟨T,by unfold nI;omega,ad,?_⟩;rw[show((x.toNat:Nat):Int)=x by omega]at al;exact al
 have fl:∀ c∈ks,di ds c:=λc au=>by obtain⟨q,aK,rfl⟩:=hz au;exact(eG q (by omega) aK).2.1
 have EH:(t.ns[i].ap.map λk=>nI P k.toNat)=ks.map a7.bS:=by refine qD (by simp[v5]) λq aK k3=>?_;rw[hN,hN];exact(eG q (by simpa using aK) (by simpa using k3)).1.symm
 have uA:ks.map (a7.bare ds)=t.ns[i].ap.map λx=>(lW t.ns x).fold tS:=by refine qD (by simp[v5]) λq aK k3=>?_;rw[hN,hN];exact(eG q (by simpa using k3) (by simpa using aK)).2.2
 have jL:=ai;rw[EH]at jL;obtain⟨⟨m,rfl⟩,T,o7,jZ,Bg⟩:=jL.lt fl;have hold:∀ j,j≠i->(P.set i r).getD j 0=P.getD j 0:=λj bs=>by rw[cv,cv,kl,ca (λe=>bs e.symm)]
 have eZ:(P.set i r).getD i 0=r:=by rw[cv,kl,ck rfl,ck (by have:=h.q8;omega)];rfl
 have e':∀ x∈t.ns[i].ap,0<=x/\x<i:=ny;have fS:gR (dU (t.ns.take (i+1))):=by
  have e:dU t.ns=dU (t.ns.take (i+1))++dU (t.ns.drop (i+1)):=by rw[<-OB,qM]
  have:=af.diff;rw[e]at this;exact(pc.1 this).1
 rw[XT hi]at fS;obtain⟨d1,d2,d3⟩:=pc.1 fS;have akg:(t.ns[i].ap.map Int.toNat).Nodup:=by refine yp.2 (d2.imp_of_mem ?_);intro a b aY ah bs e;have:=e' a aY;have:=e' b ah;exact bs (by omega)
 obtain⟨bc,qI⟩:∃ bc,(sI t.ns i).filter (λj=>!decide (j∈t.ns[i].ap.map Int.toNat))=bc:=⟨_,rfl⟩;have z':(sI t.ns i).Nodup:=B0.sublist x7;have akh:(sI t.ns (i+1)).Nodup:=B0.sublist x7;have xr:∀ j,j∈bc ↔ j∈sI t.ns i/\j ∉ t.ns[i].ap.map Int.toNat:=λj=>by rw[<-qI,nR];simp
 have aki:(sI t.ns i).Perm (t.ns[i].ap.map Int.toNat++bc):=by
  refine(WR z' (sK.2 ⟨akg,by rw[<-qI];exact z'.sublist x7,λa aY b ah e=>?_⟩)).2 λj=>?_;·subst e;exact((xr a).1 ah).2 aY
  ·rw[cO,xr];constructor
   ·intro ai;by_cases e:j∈t.ns[i].ap.map Int.toNat
    ·exact .inl e
    ·exact .inr ⟨ai,e⟩
   ·rintro(ai | ai)
    ·obtain⟨x,ab,rfl⟩:=cG.1 ai;have:=e' x ab;refine EN.2 ⟨by omega,λhm=>?_⟩;rw[show((x.toNat:Nat):Int)=x by omega]at hm;exact d3 x hm x ab rfl
    ·exact ai.1
 have L8:(sI t.ns (i+1)).Perm (i::bc):=by
  refine(WR akh (kN.2 ⟨λhm=>?_,by rw[<-qI];exact z'.sublist x7⟩)).2 λj=>?_;·have:=(EN.1 ((xr i).1 hm).1).1;omega
  ·rw[dW,xr,EN,EN,XT hi,cO];constructor
   ·rintro⟨aa,ad⟩;by_cases e:j=i
    ·exact .inl e
    ·refine .inr ⟨⟨by omega,λal=>ad (.inl al)⟩,λal=>ad (.inr ?_)⟩;obtain⟨x,ab,rfl⟩:=cG.1 al;have:=e' x ab;rw[show((x.toNat:Nat):Int)=x by omega];exact ab
   ·rintro(rfl | ⟨⟨aa,ad⟩,al⟩)
    ·refine⟨by omega,λaL=>?_⟩;rcases aL with aL | aL
     ·obtain⟨d,aj,ab⟩:=hg.1 aL;obtain⟨q,aK,rfl⟩:=hz aj;rw[fu]at aK;rw[F0]at ab;have:=af.ap q (by omega) _ ab;omega
     ·have:=e' _ aL;omega
    ·refine⟨by omega,λaL=>?_⟩;rcases aL with aL | aL
     ·exact ad aL
     ·exact al (cG.2 ⟨(j:Int),aL,by omega⟩)
 have hw:=h.wd.perm ((aki.map (nI P)).trans (by rw[dc,gz]));have gJ:Go.V.fits t.ns[i] ((t.ns[i].ap.map λk=>nI P k.toNat).length:Nat)=true:=by rw[bO];exact af.fits i hi
 obtain⟨te,Eu⟩:=hw.join gJ ai;refine⟨hi,by rw[uJ];exact h.q8,?_,λj ai=>?_,?_⟩
 ·have:m.length<=1:=by
   unfold tR at ai;split at ai
   ·rcases ai with⟨-,-,e⟩ | ⟨-,e⟩ | ⟨-,-,bF,hB,c',e⟩
    ·rw[N4 e];simp
    ·have:m=[]:=by simpa using e
     rw[this];simp
    ·rw[N4 e];simp
   ·obtain⟨-,bF,hB,c',e⟩:=ai;rw[N4 e];simp
  have:=h.len;rw[cL];omega
 ·by_cases e:j=i
  ·subst e;refine⟨T,by rw[eZ];exact o7,jZ,?_⟩;rw[Bg,uA,akf af hi,bA.fold_eq,gz];rfl
  ·obtain⟨S,aa,ad,al⟩:=h.vd j (by omega);exact⟨S,by rw[hold j e];exact aa,ad.app m,by rw[a7.Xm ds ad];exact al⟩
 ·refine Eu.perm ?_;have aA:(i::bc).map (nI (P.set i r))=r.toNat::bc.map (nI P):=by
   rw[cc];congr 1;·unfold nI;rw[eZ]
   ·refine fy λj ai=>?_;have:=(EN.1 ((xr j).1 ai).1).1;unfold nI;rw[hold j (by omega)]
  rw[<-aA];exact(L8.map _).symm
def zj.start(t:bw):zj t 0 [] (List.replicate t.ns.length 0):=⟨dO _,zQ,cI _,λj ai=>absurd ai (ot _),⟨(λd aj=>by cases aj),λj h=>absurd h (ot _),List.Pairwise.nil,(λk ae=>by simp[sI]at ae),by simp[sI]⟩⟩
def dZ.akj(I:aM):dZ I (jz.a.map λg=>⟨g,0,none⟩) jz.n jz.c 1 8 (([]:List Int).map (.int .i64 ·)):=⟨rfl,⟨cI _,dO _⟩,.inl rfl⟩
def akk(af:hj t)(hi:i<t.ns.length):t.ns[i].ap.length<=i:=by
 have ae:=af.ap i hi;have aj:gR t.ns[i].ap:=by rw[<-gf hi];exact W8 af.diff hi
 have aa:(t.ns[i].ap.map Int.toNat).Nodup:=by refine yp.2 (aj.imp_of_mem ?_);intro a b aY ah bs e;have:=ae a aY;have:=ae b ah;exact bs (by omega)
 have:=H4 (n:=i) aa λx ab=>by obtain⟨y,aD,rfl⟩:=cG.1 ab;have:=ae y aD;omega
 rwa [bO]at this
def akl(bl:gg I aF)(aw:t.ok I)(af:right t=true)(aJ:t.n<=1099511627776) :
  Spec Tryz.prog 15 [t.val] I [] λv I' M'=>(∀ b o,I b=some o->I' b=some o)/\M'=[]/\∃ bj:bw,v=.tuple #[bj.val,.bool true]/\bj.ok I'/\xo bj (m8 t).vq:=by
 refine zz [4] a4 Tryz.func15 rfl rfl rfl ?_;intro B ay;have aX:=iQ.1 af;have l9:=aw.n;have iN:=aw.bb.cap;refine bd.mk [] [] _ (.refl _) (rQ bl.c aw) ?_;rintro v J N -⟨rfl,bL,rfl⟩;subst J;rw[af];refine a9.mk (λh=>by cases h) (λ_=>?_);refine cJ.mk λp4 TI Hp=>?_;refine bd.mk [] _ _ (.refl _) ajA ?_;rintro v J N -⟨rfl,bL,rfl⟩;subst J;refine oB.mk t.n t.n rfl rfl (cI _) (by show 8*t.n<=_;omega) (by omega) ?_;refine cJ.mk λb6 JX amM=>?_;have k6:(rowOf [Value.int .i64 0] (t.n*1))=(List.replicate t.ns.length (0:Int)).map (Value.int .i64):=by rw[Ck,BX,gV,l9]
 have Oy:∀ x∈(([]:List aE).map (·.num)),False:=λx ab=>by cases ab
 refine dI.xO (ι:=Nat×List Int×aU×List an×aM) (λx=>{ bn:=[(1,.ref 1 0),(2,.ref 2 0),(4,.val (ptr p4)),(5,.ref 5 0),(6,.val (.slice (some ⟨b6,0,none⟩) t.n t.n)),(22,.val (.slice t.a t.n t.c)),(23,.val (.int .i64 t.n)),(24,.val (.int .i64 x.1))],cl:=[(1,t.cells),(2,[.slice none 0 0,.int .i64 0]),(5,Ok)],c2:=x.2.2.2.2,dx:=du b6 x.2.1::bT.aq ⟨p4,x.2.2.1,x.2.2.2.1⟩ }) (λx=>zj t x.1 x.2.2.2.1 x.2.1/\bT.ok x.2.2.2.2 ⟨p4,x.2.2.1,x.2.2.2.1⟩/\∀ b o,I b=some o->x.2.2.2.2 b=some o) (λx=>t.n-x.1) ?_ ?_
 ·intro _;refine⟨(0,List.replicate t.ns.length 0,jz,[],I),⟨zj.start t,⟨ob 9,rfl,(λd aj=>by cases aj)⟩,λ_ _ h=>h⟩,.tn ?_,h1,.cons rfl (.cons rfl (.cons rfl (.nil)))⟩;rw[k6];rfl
 rintro⟨i,P,os,ds,J⟩⟨bC,bo,bL⟩;simp only at bC bo bL;have xf:=bC.q8;have ev:=bC.hi;have wi:=bC.len;refine a9.mk (λh=>?_) (λh=>?_)
 ·have aW:(i:Int)<t.n:=dV h;have dy:i<t.ns.length:=by omega
  obtain⟨qY,r5,kE⟩:=(aw.bb.mono bL).row an.da (j:=i) (by omega) dy;have aj:=(aw.ns _ (b9 dy)).mono bL;have gW:=aX.ap i dy;have g7:=akk aX dy;have hx:=λds' r=>bC.step aX dy (ds':=ds') (r:=r);generalize eF:t.ns[i]=d at aj kE gW g7 hx;have e':=aj.aT;have q1:=aj.bb.cap;refine bu.mk qY i r5 rfl (by omega) ?_;refine aZ.mk _ (kE _) ?_;refine dI.xO (ι:=Nat×aU×List Int×aM×List aE) (λy=>{ bn:=[(1,.ref 1 0),(2,.ref 2 0),(4,.val (ptr p4)),(5,.ref 5 0),(6,.val (.slice (some ⟨b6,0,none⟩) t.n t.n)),(7,.val (.int .i64 i)),(8,.ref 8 0),(9,.val y.2.1.val),(22,.val (.slice t.a t.n t.c)),(23,.val (.int .i64 t.n)),(24,.val (.int .i64 i)),(30,.val (.slice d.cW d.aT d.c5)),(31,.val (.int .i64 d.aT)),(32,.val (.int .i64 y.1))],cl:=[(1,t.cells),(2,[.slice none 0 0,.int .i64 0]),(5,Ok),(8,d.cells)],c2:=y.2.2.2.1,dx:=y.2.2.2.2++(du b6 P::bT.aq ⟨p4,os,ds⟩) }) (λy=>XI d P (y.1,y.2.1,y.2.2.1)/\((y.1<d.aT/\y.2.2.2.1=J/\y.2.2.2.2=y.2.1.aq 3)\/(y.1=d.aT/\(∀ b o,J b=some o->y.2.2.2.1 b=some o)/\y.2.2.2.2=[]/\dZ y.2.2.2.1 (y.2.1.a.map λg=>⟨g,0,none⟩) y.2.1.n y.2.1.c 1 8 (y.2.2.1.map (.int .i64 ·))))) (λy=>d.aT-y.1) ?_ ?_
  ·intro _;refine⟨(0,jz,[],J,[]),⟨⟨dO _,ob 1,by simp⟩,?_⟩,.refl,BS,.cons rfl (.cons rfl (.cons rfl (.cons rfl (.nil))))⟩;by_cases c1:0<d.aT
   ·exact .inl ⟨c1,rfl,rfl⟩
   ·exact .inr ⟨by simp only;omega,λ_ _ h=>h,rfl,dZ.akj _⟩
  rintro⟨k,dq,eC,iW,XU⟩⟨⟨hA,hR,c0⟩,OD⟩;simp only at hA hR c0 OD;have aj6:=hR.oc;have Ak:eC.length=k:=by rw[c0,bO,fu];omega
  refine a9.mk (λad=>?_) (λad=>?_)
  ·have Im:k<d.aT:=by have:(k:Int)<(d.aT:Int):=dV ad;omega
   obtain⟨rfl,rfl⟩:iW=J/\XU=dq.aq 3:=by
    rcases OD with⟨-,aa,al⟩ | ⟨aa,-⟩;·exact⟨aa,al⟩
    ·omega
   have hG:k<d.ap.length:=by omega
   have ag:=gW _ (b9 hG);have sC:d.ap[k].toNat<P.length:=by omega
   have zd:P.getD d.ap[k].toNat 0=P[d.ap[k].toNat]:=by simp[cv,sC]
   have Oz:dZ iW d.cW d.aT d.c5 1 8 (d.ap.flatMap jD):=by rw[py];exact aj.bb
   obtain⟨gp,fe,e1⟩:=Oz.row (f:=jD) (λ_=>rfl) (j:=k) (by omega) hG;refine bu.mk gp k fe rfl (show k<d.aT by omega) ?_;refine aZ.mk _ (e1 _) ?_;refine bu.mk ⟨b6,0,none⟩ d.ap[k].toNat rfl (by omega) (by omega) ?_;refine aZ.mk _ (Cn (by simp) sC) ?_;refine cJ.mk λaj7 aj8 aj9=>?_;refine br.lN a4 rfl (by simp) (e:=3) rfl rfl rfl dq hR rfl (cs:=[.int .i64 P[d.ap[k].toNat]]) rfl rfl rfl [] (du b6 P::bT.aq ⟨p4,os,ds⟩) rfl (by omega) (by show(dq.n+1)*8<=_;omega) ?_;intro mU XP aka OA;refine bi.mk _ (de (i:=k) (by omega)) ?_;have OE:mU.ok 1 ((eC++[P[d.ap[k].toNat]]).map (.int .i64 ·)):=by rw[dc];exact OA
   have XV:eC++[P[d.ap[k].toNat]]=(d.ap.take (k+1)).map (λk=>P.getD k.toNat 0):=by rw[c0,gD hG,dc,vl,zd]
   intro e8;by_cases c1:k+1<d.aT;·exact⟨(k+1,mU,eC++[P[d.ap[k].toNat]],iW,mU.aq 3),⟨⟨⟨Im,OE,XV⟩,.inl ⟨c1,rfl,rfl⟩⟩,by simp only;omega⟩,.refl,BS,.cons rfl (.cons rfl (.cons rfl (.cons rfl (.nil))))⟩
   ·have ax:=lX.Ot (os:=mU) (e:=3) (foot:=[]) e8 (.refl _) (λx ab=>by cases ab);obtain⟨kL,hw,bg,eu,-⟩:=aU.CY (b:=8) (e:=3) OE (by rw[XP];omega) ax (du b6 P::bT.aq ⟨p4,os,ds⟩);exact⟨(k+1,mU,eC++[P[d.ap[k].toNat]],kL,[]),⟨⟨⟨Im,OE,XV⟩,.inr ⟨by simp only;omega,bg,rfl,eu⟩⟩,by simp only;omega⟩,hw _ _ .refl,BS,.cons rfl (.cons rfl (.cons rfl (.cons rfl (.nil))))⟩
  have cV:k=d.aT:=by have:¬ (k:Int)<(d.aT:Int):=eO ad;omega
  obtain⟨fC,rfl,eu⟩:(∀ b o,J b=some o->iW b=some o)/\XU=[]/\dZ iW (dq.a.map λg=>⟨g,0,none⟩) dq.n dq.c 1 8 (eC.map (.int .i64 ·)):=by
   rcases OD with⟨aa,-⟩ | ⟨-,aa,al,aL⟩;·omega
   ·exact⟨aa,al,aL⟩
  subst cV;rw[fT (by omega)]at c0;have kg:∀ x∈d.ap.map (λk=>nI P k.toNat),x<ds.length:=λx ab=>by obtain⟨y,aD,rfl⟩:=cG.1 ab;have:=gW y aD;obtain⟨T,aa,ad,-⟩:=bC.vd y.toNat (by omega);have:=ad.vm;unfold nI;omega
  have Oq:eC=(d.ap.map (λk=>nI P k.toNat)).map Int.ofNat:=by rw[c0,gz];refine fy λy aD=>?_;have:=gW y aD;obtain⟨T,aa,ad,-⟩:=bC.vd y.toNat (by omega);show P.getD y.toNat 0=((nI P y.toNat:Nat):Int);unfold nI;omega
  rw[Oq]at eu;have Il:=bo.mono fC;have tP:=aj.mono fC;have k0:=λj ai ae=>ajB (A:=⟨p4,os,ds⟩) Il (by simp only;omega) tP kg (by rw[bO];omega) eu j ai ae;clear c0 Oq;obtain⟨c6,b3,s1,s2,cm,ht,amN,amO,q3,q4,q5,q6⟩:=d;have Ai:c6=0\/c6=1\/c6=2\/c6=3\/c6=4\/c6=5\/c6=6\/c6=7\/c6=8\/c6=9:=by have aa:=KA (aX.fits i dy);rw[eF]at aa;have ad:=aj.k;simp only at aa ad;omega
  rcases Ai with rfl | rfl | rfl | rfl | rfl | rfl | rfl | rfl | rfl | rfl
  ·refine dh.draw a4 rfl rfl rfl ?_;refine dP.mk 0 rfl (by decide) ?_;refine fv.rI rfl (bT.aq ⟨p4,os,ds⟩) [du b6 P] _ ?_ (k0 0 (by decide) rfl) ?_
   ·exact(ep (l₁:=[du b6 P]))
   rintro v fp dB eQ⟨-,bD,ds',r,rfl,kM,rfl,lf⟩;refine bu.mk ⟨b6,0,none⟩ i rfl rfl (by omega) ?_;refine cn.iM (bT.aq ⟨p4,bD,ds'⟩) [] (P.map (Value.int .i64)) 3 rfl (by rw[nv,bO];show 0+i*1+1<=_;omega) rfl ((P.set i r).map (Value.int .i64)) (by rw[c9,gV];exact o4 P i (by omega) r) ?_;refine bi.mk _ (de (i:=i) (by omega)) ?_;intro _;exact⟨(i+1,P.set i r,bD,ds',fp),⟨⟨hx _ _ lf,kM,λb o h=>eQ _ _ (fC _ _ (bL _ _ h))⟩,by simp only;omega⟩,.perm (ep (l₁:=bT.aq ⟨p4,bD,ds'⟩)) .refl,h1,.cons rfl (.cons rfl (.cons rfl (.nil)))⟩
  ·refine dh.draw a4 rfl rfl rfl ?_;refine dP.mk 1 rfl (by decide) ?_;refine fv.rI rfl (bT.aq ⟨p4,os,ds⟩) [du b6 P] _ ?_ (k0 1 (by decide) rfl) ?_
   ·exact(ep (l₁:=[du b6 P]))
   rintro v fp dB eQ⟨-,bD,ds',r,rfl,kM,rfl,lf⟩;refine bu.mk ⟨b6,0,none⟩ i rfl rfl (by omega) ?_;refine cn.iM (bT.aq ⟨p4,bD,ds'⟩) [] (P.map (Value.int .i64)) 3 rfl (by rw[nv,bO];show 0+i*1+1<=_;omega) rfl ((P.set i r).map (Value.int .i64)) (by rw[c9,gV];exact o4 P i (by omega) r) ?_;refine bi.mk _ (de (i:=i) (by omega)) ?_;intro _;exact⟨(i+1,P.set i r,bD,ds',fp),⟨⟨hx _ _ lf,kM,λb o h=>eQ _ _ (fC _ _ (bL _ _ h))⟩,by simp only;omega⟩,.perm (ep (l₁:=bT.aq ⟨p4,bD,ds'⟩)) .refl,h1,.cons rfl (.cons rfl (.cons rfl (.nil)))⟩
  ·refine dh.draw a4 rfl rfl rfl ?_;refine dP.mk 2 rfl (by decide) ?_;refine fv.rI rfl (bT.aq ⟨p4,os,ds⟩) [du b6 P] _ ?_ (k0 2 (by decide) rfl) ?_
   ·exact(ep (l₁:=[du b6 P]))
   rintro v fp dB eQ⟨-,bD,ds',r,rfl,kM,rfl,lf⟩;refine bu.mk ⟨b6,0,none⟩ i rfl rfl (by omega) ?_;refine cn.iM (bT.aq ⟨p4,bD,ds'⟩) [] (P.map (Value.int .i64)) 3 rfl (by rw[nv,bO];show 0+i*1+1<=_;omega) rfl ((P.set i r).map (Value.int .i64)) (by rw[c9,gV];exact o4 P i (by omega) r) ?_;refine bi.mk _ (de (i:=i) (by omega)) ?_;intro _;exact⟨(i+1,P.set i r,bD,ds',fp),⟨⟨hx _ _ lf,kM,λb o h=>eQ _ _ (fC _ _ (bL _ _ h))⟩,by simp only;omega⟩,.perm (ep (l₁:=bT.aq ⟨p4,bD,ds'⟩)) .refl,h1,.cons rfl (.cons rfl (.cons rfl (.nil)))⟩
  ·refine dh.draw a4 rfl rfl rfl ?_;refine dP.mk 3 rfl (by decide) ?_;refine fv.rI rfl (bT.aq ⟨p4,os,ds⟩) [du b6 P] _ ?_ (k0 3 (by decide) rfl) ?_
   ·exact(ep (l₁:=[du b6 P]))
   rintro v fp dB eQ⟨-,bD,ds',r,rfl,kM,rfl,lf⟩;refine bu.mk ⟨b6,0,none⟩ i rfl rfl (by omega) ?_;refine cn.iM (bT.aq ⟨p4,bD,ds'⟩) [] (P.map (Value.int .i64)) 3 rfl (by rw[nv,bO];show 0+i*1+1<=_;omega) rfl ((P.set i r).map (Value.int .i64)) (by rw[c9,gV];exact o4 P i (by omega) r) ?_;refine bi.mk _ (de (i:=i) (by omega)) ?_;intro _;exact⟨(i+1,P.set i r,bD,ds',fp),⟨⟨hx _ _ lf,kM,λb o h=>eQ _ _ (fC _ _ (bL _ _ h))⟩,by simp only;omega⟩,.perm (ep (l₁:=bT.aq ⟨p4,bD,ds'⟩)) .refl,h1,.cons rfl (.cons rfl (.cons rfl (.nil)))⟩
  ·refine dh.draw a4 rfl rfl rfl ?_;refine dP.mk 4 rfl (by decide) ?_;refine fv.rI rfl (bT.aq ⟨p4,os,ds⟩) [du b6 P] _ ?_ (k0 4 (by decide) rfl) ?_
   ·exact(ep (l₁:=[du b6 P]))
   rintro v fp dB eQ⟨-,bD,ds',r,rfl,kM,rfl,lf⟩;refine bu.mk ⟨b6,0,none⟩ i rfl rfl (by omega) ?_;refine cn.iM (bT.aq ⟨p4,bD,ds'⟩) [] (P.map (Value.int .i64)) 3 rfl (by rw[nv,bO];show 0+i*1+1<=_;omega) rfl ((P.set i r).map (Value.int .i64)) (by rw[c9,gV];exact o4 P i (by omega) r) ?_;refine bi.mk _ (de (i:=i) (by omega)) ?_;intro _;exact⟨(i+1,P.set i r,bD,ds',fp),⟨⟨hx _ _ lf,kM,λb o h=>eQ _ _ (fC _ _ (bL _ _ h))⟩,by simp only;omega⟩,.perm (ep (l₁:=bT.aq ⟨p4,bD,ds'⟩)) .refl,h1,.cons rfl (.cons rfl (.cons rfl (.nil)))⟩
  ·refine dh.draw a4 rfl rfl rfl ?_;refine dP.mk 5 rfl (by decide) ?_;refine fv.rI rfl (bT.aq ⟨p4,os,ds⟩) [du b6 P] _ ?_ (k0 5 (by decide) rfl) ?_
   ·exact(ep (l₁:=[du b6 P]))
   rintro v fp dB eQ⟨-,bD,ds',r,rfl,kM,rfl,lf⟩;refine bu.mk ⟨b6,0,none⟩ i rfl rfl (by omega) ?_;refine cn.iM (bT.aq ⟨p4,bD,ds'⟩) [] (P.map (Value.int .i64)) 3 rfl (by rw[nv,bO];show 0+i*1+1<=_;omega) rfl ((P.set i r).map (Value.int .i64)) (by rw[c9,gV];exact o4 P i (by omega) r) ?_;refine bi.mk _ (de (i:=i) (by omega)) ?_;intro _;exact⟨(i+1,P.set i r,bD,ds',fp),⟨⟨hx _ _ lf,kM,λb o h=>eQ _ _ (fC _ _ (bL _ _ h))⟩,by simp only;omega⟩,.perm (ep (l₁:=bT.aq ⟨p4,bD,ds'⟩)) .refl,h1,.cons rfl (.cons rfl (.cons rfl (.nil)))⟩
  ·refine dh.draw a4 rfl rfl rfl ?_;refine dP.mk 6 rfl (by decide) ?_;refine fv.rI rfl (bT.aq ⟨p4,os,ds⟩) [du b6 P] _ ?_ (k0 6 (by decide) rfl) ?_
   ·exact(ep (l₁:=[du b6 P]))
   rintro v fp dB eQ⟨-,bD,ds',r,rfl,kM,rfl,lf⟩;refine bu.mk ⟨b6,0,none⟩ i rfl rfl (by omega) ?_;refine cn.iM (bT.aq ⟨p4,bD,ds'⟩) [] (P.map (Value.int .i64)) 3 rfl (by rw[nv,bO];show 0+i*1+1<=_;omega) rfl ((P.set i r).map (Value.int .i64)) (by rw[c9,gV];exact o4 P i (by omega) r) ?_;refine bi.mk _ (de (i:=i) (by omega)) ?_;intro _;exact⟨(i+1,P.set i r,bD,ds',fp),⟨⟨hx _ _ lf,kM,λb o h=>eQ _ _ (fC _ _ (bL _ _ h))⟩,by simp only;omega⟩,.perm (ep (l₁:=bT.aq ⟨p4,bD,ds'⟩)) .refl,h1,.cons rfl (.cons rfl (.cons rfl (.nil)))⟩
  ·refine dh.draw a4 rfl rfl rfl ?_;refine dP.mk 7 rfl (by decide) ?_;refine fv.rI rfl (bT.aq ⟨p4,os,ds⟩) [du b6 P] _ ?_ (k0 7 (by decide) rfl) ?_
   ·exact(ep (l₁:=[du b6 P]))
   rintro v fp dB eQ⟨-,bD,ds',r,rfl,kM,rfl,lf⟩;refine bu.mk ⟨b6,0,none⟩ i rfl rfl (by omega) ?_;refine cn.iM (bT.aq ⟨p4,bD,ds'⟩) [] (P.map (Value.int .i64)) 3 rfl (by rw[nv,bO];show 0+i*1+1<=_;omega) rfl ((P.set i r).map (Value.int .i64)) (by rw[c9,gV];exact o4 P i (by omega) r) ?_;refine bi.mk _ (de (i:=i) (by omega)) ?_;intro _;exact⟨(i+1,P.set i r,bD,ds',fp),⟨⟨hx _ _ lf,kM,λb o h=>eQ _ _ (fC _ _ (bL _ _ h))⟩,by simp only;omega⟩,.perm (ep (l₁:=bT.aq ⟨p4,bD,ds'⟩)) .refl,h1,.cons rfl (.cons rfl (.cons rfl (.nil)))⟩
  ·refine dh.draw a4 rfl rfl rfl ?_;refine dP.mk 8 rfl (by decide) ?_;refine fv.rI rfl (bT.aq ⟨p4,os,ds⟩) [du b6 P] _ ?_ (k0 8 (by decide) rfl) ?_
   ·exact(ep (l₁:=[du b6 P]))
   rintro v fp dB eQ⟨-,bD,ds',r,rfl,kM,rfl,lf⟩;refine bu.mk ⟨b6,0,none⟩ i rfl rfl (by omega) ?_;refine cn.iM (bT.aq ⟨p4,bD,ds'⟩) [] (P.map (Value.int .i64)) 3 rfl (by rw[nv,bO];show 0+i*1+1<=_;omega) rfl ((P.set i r).map (Value.int .i64)) (by rw[c9,gV];exact o4 P i (by omega) r) ?_;refine bi.mk _ (de (i:=i) (by omega)) ?_;intro _;exact⟨(i+1,P.set i r,bD,ds',fp),⟨⟨hx _ _ lf,kM,λb o h=>eQ _ _ (fC _ _ (bL _ _ h))⟩,by simp only;omega⟩,.perm (ep (l₁:=bT.aq ⟨p4,bD,ds'⟩)) .refl,h1,.cons rfl (.cons rfl (.cons rfl (.nil)))⟩
  ·refine dh.draw a4 rfl rfl rfl ?_;refine dP.mk 9 rfl (by decide) ?_;refine fv.rI rfl (bT.aq ⟨p4,os,ds⟩) [du b6 P] _ ?_ (k0 9 (by decide) rfl) ?_
   ·exact(ep (l₁:=[du b6 P]))
   rintro v fp dB eQ⟨-,bD,ds',r,rfl,kM,rfl,lf⟩;refine bu.mk ⟨b6,0,none⟩ i rfl rfl (by omega) ?_;refine cn.iM (bT.aq ⟨p4,bD,ds'⟩) [] (P.map (Value.int .i64)) 3 rfl (by rw[nv,bO];show 0+i*1+1<=_;omega) rfl ((P.set i r).map (Value.int .i64)) (by rw[c9,gV];exact o4 P i (by omega) r) ?_;refine bi.mk _ (de (i:=i) (by omega)) ?_;intro _;exact⟨(i+1,P.set i r,bD,ds',fp),⟨⟨hx _ _ lf,kM,λb o h=>eQ _ _ (fC _ _ (bL _ _ h))⟩,by simp only;omega⟩,.perm (ep (l₁:=bT.aq ⟨p4,bD,ds'⟩)) .refl,h1,.cons rfl (.cons rfl (.cons rfl (.nil)))⟩
 ·have cV:i=t.ns.length:=by have:¬ (i:Int)<(t.n:Int):=eO h;omega
  subst cV;obtain⟨ib,gA⟩:=aX.bm;obtain⟨r,eD⟩:=eN ib;have eh:r<t.ns.length:=by omega
  obtain⟨T,o7,jZ,Bg⟩:=bC.vd r eh;have akm:P[r]'(by omega)=(T.bS:Int):=by rw[o7,cv,dX (by omega)];rfl
  refine bu.mk ⟨b6,0,none⟩ r rfl eD (by omega) ?_;refine aZ.mk _ (Co (by omega) akm (.head _)) ?_;have uq:=ajZ bo (by simp only;omega) bC.wd.ap bC.wd.diff jZ;refine bd.mk (bT.aq ⟨p4,os,ds⟩) [du b6 P] _ (ep (l₁:=[du b6 P])) uq ?_;rintro v fp dB -⟨eQ,rfl,bj,rfl,hU,ez⟩;intro _;refine⟨_,_,.sub (gn _) .refl,λb o h=>eQ _ _ (bL _ _ h),rfl,bj,rfl,hU,?_⟩;rw[show(m8 t).vq=(T.bare ds).bh from by rw[Bg];unfold bA.vq m8;rw[eD]];exact ez
section
end
def akn{d:an}(h:d.k=0)(az:Go.V.fits d n=true):n=0:=by unfold Go.V.fits at az;rw[h]at az;simp[rO,pU]at az;have aa:jU[0]?.getD 0=0:=rfl;have ad:jU[1]?.getD 0=0:=rfl;rw[aa,ad]at az;omega
def ako{M0:List aE}(bl:gg I aF)(aw:t.ok I)(af:right t=true)(aJ:t.n<=1099511627776) :
  Spec Tryz.prog 15 [t.val] I M0 λv I' M'=>(∀ b o,I b=some o->I' b=some o)/\M'=M0/\∃ bj:bw,v=.tuple #[bj.val,.bool true]/\bj.ok I'/\xo bj (m8 t).vq:=by
 refine(Spec.frame (akl bl aw af aJ)).Oj ?_;rintro v I' M'⟨M1,rfl,-,-,aa,rfl,ad⟩;exact⟨aa,rfl,ad⟩
def OF{d:an}(h:d.k=4\/d.k=5)(az:Go.V.fits d n=true):2<=n:=by
 unfold Go.V.fits at az;rcases h with e | e<;>rw[e]at az<;>simp[rO,pU]at az<;>have:=az.1.1<;>simp[jU]at this<;>omega
def akp{d:an}(h:d.k=4\/d.k=5):hV (.mk (nothing (d.k-4)).bare []):=by
 refine .mk ?_ λc au=>by cases au
 rcases h with e | e
 ·rw[show d.k-4=0 by omega];rfl
 ·rw[show d.k-4=1 by omega];rfl
def akq{d:an}{xs:List bA}(az:Go.V.fits d xs.length=true)(ab:∀ x∈xs,hV x):hV (EM d xs):=by
 unfold EM;split
 ·rename_i gC;have ad:=OF gC az;have ar:∀ y∈xs.filter (mo d),hV y:=λy aD=>ab y (nR.1 aD).1;generalize xs.filter (mo d)=bn at ar
  match bn,ar with
  |[],_=>exact akp gC| [y],ar=>exact ar y (.head _)| XW::XX::l,ar=>exact .mk (OC gC (n:=(xs.length:Nat)) (by omega) (by simp;omega) az) ar
 ·exact .mk az ab
def XY:∀ {T:bA},hV T->hV (T.fold tS):=by
 intro T
 induction T using bA.ind with
 |h d ks aR=>intro h;rw[bA.fold_eq];refine akq (by rw[bO];exact h.inv.1) λx ab=>?_;obtain⟨c,au,rfl⟩:=cG.1 ab;exact aR c au (h.inv.2 c au)
def OG(b2:Option Int):Prop:=b2=none\/b2=some 4\/b2=some 5
def XZ(d:an):OG (iX d):=by
 unfold iX OG;split
 ·rename_i h;rcases h with e | e<;>rw[e]<;>simp
 ·exact .inl rfl
def OH{α β:Type}{f:α->β}:∀ l:List α,l.map f=l.flatMap λc=>[f c]
 |[]=>rfl| a::l=>by rw[cc,OH l];rfl
def OI{α β:Type}{f:α->List β}:∀ {l:List α},(∀ x∈l,1<=(f x).length)->l.length<=(l.flatMap f).length
 |[],_=>cI _| a::l,h=>by have:=OI (l:=l) λx ab=>h x (.tail _ ab);have:=h a (.head _);rw[jO,cL,ea];omega
def akr:∀ {T:bA},hV T->(∀ b2,OG b2->1<=(T.gk b2).length/\∀ U∈T.gk b2,hV U)/\hV T.bh:=by
 intro T
 induction T using bA.ind with
 |h d ks aR=>
  intro h;obtain⟨az,ae⟩:=h.inv;have xt:hV (bA.mk d ks).bh:=by
   show hV (.mk d (ks.flatMap (bA.gk (iX d))));have aa:=OI (f:=bA.gk (iX d)) λc au=>((aR c au (ae c au)).1 _ (XZ d)).1;refine .mk ?_ λU hF=>?_
   ·by_cases gC:d.k=4\/d.k=5
    ·have:=OF gC az;exact OC gC (n:=(ks.length:Nat)) (by omega) (by omega) az
    ·have e:iX d=none:=ca gC;have a0:ks.flatMap (bA.gk (iX d))=ks.map bA.bh:=by
      rw[e];rw[OH];refine qd λc _=>?_;cases c with
      |mk h' EB=>rw[bA.rl,ca (by simp)]
     rw[a0,bO];exact az
   ·obtain⟨c,au,hF⟩:=hg.1 hF;exact((aR c au (ae c au)).1 _ (XZ d)).2 U hF
  refine⟨λb2 ir=>?_,xt⟩;rw[bA.rl];split
  ·rename_i e;have gC:d.k=4\/d.k=5:=by
    rcases ir with h | h | h<;>rw[h]at e
    ·cases e
    ·exact .inl (gO e)
    ·exact .inr (gO e)
   have ad:=OF gC az;have aa:=OI (f:=bA.gk b2) λc au=>((aR c au (ae c au)).1 _ ir).1;refine⟨by omega,λU hF=>?_⟩;obtain⟨c,au,hF⟩:=hg.1 hF;exact((aR c au (ae c au)).1 _ ir).2 U hF
  ·refine⟨cI _,λU hF=>?_⟩;rw[eK.1 hF];exact xt
def aks{T:bA}(h:hV T):hV T.vq:=(akr (XY h)).2
def akt{d:an}{xs:List bA}(ab:∀ x∈xs,mm x)(aj:d.bare=d):mm (EM d xs):=by
 unfold EM;split
 ·have ar:∀ y∈xs.filter (mo d),mm y:=λy aD=>ab y (nR.1 aD).1;generalize xs.filter (mo d)=bn at ar
  match bn,ar with
  |[],_=>exact .mk rfl λc au=>by cases au
  |[y],ar=>exact ar y (.head _)| XW::XX::l,ar=>exact .mk aj ar
 ·exact .mk aj ab
def aku:∀ (T:bA),mm (T.fold tS):=by
 intro T
 induction T using bA.ind with
 |h d ks aR=>rw[bA.fold_eq];refine akt (λx ab=>?_) rfl;obtain⟨c,au,rfl⟩:=cG.1 ab;exact aR c au
def akv:∀ {T:bA},mm T->(∀ b2,∀ U∈T.gk b2,mm U)/\mm T.bh:=by
 intro T
 induction T using bA.ind with
 |h d ks aR=>
  intro h;obtain⟨az,ae⟩:=h.inv;have xt:mm (bA.mk d ks).bh:=by show mm (.mk d (ks.flatMap (bA.gk (iX d))));refine .mk az λU hF=>?_;obtain⟨c,au,hF⟩:=hg.1 hF;exact(aR c au (ae c au)).1 _ U hF
  refine⟨λb2 U hF=>?_,xt⟩;rw[bA.rl]at hF;split at hF;·obtain⟨c,au,hF⟩:=hg.1 hF;exact(aR c au (ae c au)).1 _ U hF
  ·rw[eK.1 hF];exact xt
def akw(T:bA):mm T.vq:=(akv (aku T)).2
section
variable{α:Type}{F:an->List α->α}(bf:W0 F)
include bf
theorem fold_filter{d:an}(xs:List bA)(ab:∀ x∈xs,hV x):∀ ys:List α,F d (ys++xs.map (bA.fold F))=F d (ys++(xs.filter (mo d)).map (bA.fold F)):=by
 induction xs with
 |nil=>intro ys;rfl
 |cons x xs aR=>
  intro ys;have aR:=aR λy aD=>ab y (.tail _ aD);rw[xT,cc];cases h:mo d x with
  |true=>have:=aR (ys++[x.fold F]);simpa using this
  |false=>
   unfold mo at h;have aL:d.k=4:=by
    cases e:decide (d.k=4)with
    |true=>exact dV e| false=>rw[e]at h;cases h
   have ay:x.d.k=0:=by
    cases e:decide (x.d.k=0)with
    |true=>exact dV e| false=>rw[e,aL]at h;cases h
   have L5:=ab x (.head _);cases x with
   |mk h' ks=>
   have ae:ks=[]:=im (akn ay L5.inv.1);subst ae;rw[bA.fold_eq,h3,bf.drop d h' ys _ aL ay,aR];rfl
theorem akx{d:an}{xs:List bA}(ab:∀ x∈xs,hV x):(tS d xs).fold F=F d (xs.map (bA.fold F)):=by
 have ah:F d.bare=F d:=bf.ap d [];rw[XS];have h:=fold_filter bf (d:=d) xs ab [];rw[jq,jq]at h;split
 ·rename_i gC;rw[h];generalize xs.filter (mo d)=bn
  match bn with
  |[]=>
   rw[bA.fold_eq];rcases gC with e | e;·rw[show d.k-4=0 by omega];exact(bf.aiF d (nothing 0).bare e rfl).symm
   ·rw[show d.k-4=1 by omega];exact(bf.aiG d (nothing 1).bare e rfl rfl rfl rfl rfl).symm
  |[y]=>exact(bf.one d _ gC).symm| XW::XX::l=>rw[bA.fold_eq,ah]
 ·rw[bA.fold_eq,ah]
theorem aky:∀ {T:bA},hV T->(T.fold tS).fold F=T.fold F:=by
 intro T
 induction T using bA.ind with
 |h d ks aR=>
  intro h;obtain⟨az,ae⟩:=h.inv;rw[bA.fold_eq,akx bf (λx ab=>?_),bA.fold_eq,gz];·congr 1;exact fy λc au=>aR c au (ae c au)
  ·obtain⟨c,au,rfl⟩:=cG.1 ab;exact XY (ae c au)
theorem akz:∀ (T:bA),(∀ d,d.k=4\/d.k=5->∀ xs er:List α,F d (xs++((T.gk (some d.k)).map (bA.fold F)++er))=F d (xs++(T.fold F::er)))/\T.bh.fold F=T.fold F:=by
 intro T
 induction T using bA.ind with
 |h d ks aR=>
  have flat:∀ (e:an),e.k=4\/e.k=5->∀ (l:List bA),(∀ c∈l,c∈ks)->∀ xs er:List α,F e (xs++((l.flatMap (bA.gk (some e.k))).map (bA.fold F)++er))=F e (xs++(l.map (bA.fold F)++er)):=by
   intro e he l
   induction l with
   |nil=>intro _ xs er;rfl| cons c l Ou=>intro av xs er;rw[jO,dc,fi,(aR c (av c (.head _))).1 e he];have:=Ou (λx ab=>av x (.tail _ ab)) (xs++[c.fold F]) er;simpa using this
  have xt:(bA.mk d ks).bh.fold F=(bA.mk d ks).fold F:=by
   show(bA.mk d (ks.flatMap (bA.gk (iX d)))).fold F=_;rw[bA.fold_eq,bA.fold_eq];by_cases gC:d.k=4\/d.k=5;·have e:iX d=some d.k:=ck gC;have:=flat d gC ks (λc au=>au) [] [];rw[e];simpa using this
   ·have e:iX d=none:=ca gC;congr 1;rw[e,w5];rw[OH (f:=bA.fold F)];refine qd λc au=>?_;have ad:=(aR c au).2;cases c with
    |mk h' EB=>
    rw[bA.rl,ca (by simp),vl,ad]
  refine⟨λe he xs er=>?_,xt⟩;rw[bA.rl];split;·rename_i ae;have ae:d.k=e.k:=gO ae;rw[flat e he ks (λc au=>au),bA.fold_eq];exact(bf.nest e d xs (ks.map (bA.fold F)) er he ae).symm
  ·rw[vl,xt];rfl
theorem akA{T:bA}(h:hV T):T.vq.fold F=T.fold F:=(akz bf _).2.trans (aky bf h)
end
namespace a7
end a7
namespace bA
end bA
def nJ:a2:=⟨⟨#[]⟩,⟨[],none,0,0,0⟩⟩
def X0:∀ (ds ds':List a2) (aP:List (ByteArray×Int)) (i:Nat),ds.map a2.name=ds'.map a2.name->ma aP i ds=ma aP i ds'
 |[],[],_,_,_=>rfl| [],_::_,_,_,h=>by simp at h
 |_::_,[],_,_,h=>by simp at h
 |d::ds,h'::ds',aP,i,h=>by rw[cc,cc,vU]at h;rw[ma,ma,h.1,X0 ds ds' _ _ h.2]
def jE(ds:List a2)(u:Nat)(y:bw):List a2:=ds.set u ⟨(ds.getD u nJ).name,y⟩
def OJ(ds:List a2)(u:Nat)(y:bw):(jE ds u y).length=ds.length:=by simp[jE]
def akB(ds:List a2)(u:Nat)(y:bw):(jE ds u y).map a2.name=ds.map a2.name:=by
 unfold jE;rw[ug];refine vT λi=>?_;rw[kl];split
 ·rename_i h;subst h;rw[bO,mr];by_cases h:u<ds.length
  ·simp[h,cv]
  ·simp[h]
 ·rfl
def EO(ds:List a2)(u:Nat)(y:bw):bp (jE ds u y)=bp ds:=X0 _ _ _ _ (akB ds u y)
def Io{ds:List a2}{y:bw}(h:i≠u):(jE ds u y)[i]?=ds[i]?:=by unfold jE;rw[kl,ca (λe=>h e.symm)]
def OK{ds:List a2}{y:bw}(h:u<ds.length):(jE ds u y)[u]?=some ⟨ds[u].name,y⟩:=by unfold jE;rw[kl,ck rfl,ck h];simp[cv,h]
def Bu{d:a2}(af:right d.t=true):hh pl F d=(lg pl F d.t).1.1:=(aiB af).symm
def OL(af:right t=true):(lg pl F t).1=ff pl F t.ns t.bm:=by obtain⟨ib,gA⟩:=kG af;obtain⟨r,eD⟩:=eN ib;rw[WY,eD,HD af (r+1) r (by omega) (by omega)]
structure sJ(ds:List a2)(u a:Nat)(y:bw):Prop where
 ul:u<ds.length
 gi:a<ds.length
 ne:a≠u
 r:right y=true
 rel:∀ F:List aI,F.getD a bK=(lg (bp ds) F (ds.getD a nJ).t).1.1->Ew a (lg (bp ds) F (ds.getD a nJ).t).1.2 (lg (bp ds) F (ds.getD a nJ).t).2 (lg (bp ds) F y) (lg (bp ds) F (ds.getD u nJ).t)
section
variable{ds:List a2}{u a:Nat}{y:bw}(h:sJ ds u a y)(af:∀ d∈ds,right d.t=true)
include h af
theorem sJ.Ip:ds.getD u nJ=ds[u]'h.ul:=by have:=h.ul;simp[cv,this]
theorem sJ.Iq:ds.getD a nJ=ds[a]'h.gi:=by have:=h.gi;simp[cv,this]
theorem sJ.OM(bf:∀ i (h:i<ds.length),F.getD i bK=hh (bp ds) F ds[i]):F.getD a bK=(lg (bp ds) F (ds.getD a nJ).t).1.1:=by rw[bf a h.gi,Bu (af _ (b9 h.gi)),h.Iq af]
theorem sJ.Ea(bf:iv ds F)(my:iv (jE ds u y) F'):F'=F:=by
 have qU:=EO ds u y;have hu:=h.ul;have aY:=h.gi;have av:=OJ ds u y;have X1:∀ i (hi:i<ds.length),i≠u->F'.getD i bK=hh (bp ds) F' ds[i]:=λi hi bs=>by
  have aa:=my.fix i (by omega);have ad:(jE ds u y)[i]'(by omega)=ds[i]:=by have al:=Io (ds:=ds) (y:=y) bs;rw[dX (by omega),dX hi]at al;exact gO al
  rw[ad,qU]at aa;exact aa
 have hF:(jE ds u y)[u]'(by omega)=⟨ds[u].name,y⟩:=by have al:=OK (y:=y) hu;rw[dX (by omega)]at al;exact gO al
 refine dK.antisymm ?_ ?_
 ·refine my.least F (by rw[av];exact bf.len) λi hi=>?_;rw[qU];by_cases e:i=u
  ·subst e;rw[hF,Bu h.r,bf.fix i hu,Bu (af _ (b9 hu))];have aa:=(h.rel F (h.OM af bf.fix)).bn;rw[h.Ip af]at aa;rw[aa];exact aI.le_refl _
  ·have ad:(jE ds u y)[i]=ds[i]'(by omega):=by have al:=Io (ds:=ds) (y:=y) e;rw[dX hi,dX (by omega)]at al;exact gO al
   rw[ad,<-bf.fix i (by omega)];exact aI.le_refl _
 ·refine bf.least F' (by rw[my.len,av]) λi hi=>?_;by_cases e:i=u
  ·subst e;have aa:=my.fix i (by omega);rw[hF,qU,Bu h.r]at aa;have ad:F'.getD a bK=(lg (bp ds) F' (ds.getD a nJ).t).1.1:=by rw[X1 a aY h.ne,Bu (af _ (b9 aY)),h.Iq af]
   have al:=(h.rel F' ad).bn;rw[h.Ip af]at al;rw[aa,Bu (af _ (b9 hi)),al];exact aI.le_refl _
  ·rw[<-X1 i hi e];exact aI.le_refl _
theorem sJ.akC:ia ds F a=(lg (bp ds) F (ds.getD a nJ).t).1.2:=by have aY:=h.gi;unfold ia;rw[dX aY];show(ff _ _ ds[a].t.ns _).2=_;rw[h.Iq af,<-OL (af _ (b9 aY))]
theorem sJ.X2(bf:iv ds F){k:Nat}(ae:k∈ia (jE ds u y) F i):iV (ia ds F) i k:=by
 by_cases e:i=u
 ·subst e;have aa:=h.rel F (h.OM af bf.fix);have ad:ia (jE ds i y) F i=(lg (bp ds) F y).1.2:=by unfold ia;rw[OK h.ul,EO];show(ff _ _ y.ns _).2=_;rw[OL h.r]
  have al:ia ds F i=(lg (bp ds) F (ds.getD i nJ).t).1.2:=by have hu:=h.ul;unfold ia;rw[dX hu];show(ff _ _ ds[i].t.ns _).2=_;rw[h.Ip af,<-OL (af _ (b9 hu))]
  rw[ad]at ae;rcases aa.Oe k ae with aL | ⟨aL,bG⟩;·exact .one (by rw[al];exact aL)
  ·exact .step (by rw[al];exact aL) (.one (by rw[h.akC af];exact bG))
 ·refine .one ?_;unfold ia at ae |-;rw[Io e,EO]at ae;exact ae
theorem sJ.comes(bf:iv ds F){k:Nat}(au:iV (ia (jE ds u y) F) i k):iV (ia ds F) i k:=by
 induction au with
 |one ae=>exact h.X2 af bf ae| step ai _ aR=>exact(h.X2 af bf ai).trans aR
theorem sJ.akD(bf:iv ds F)(he:nF (jE ds u y) F i=true):nF ds F i=true\/nF ds F a=true:=by
 by_cases e:i=u
 ·subst e;have aa:=h.rel F (h.OM af bf.fix);have ad:nF (jE ds i y) F i=(lg (bp ds) F y).2:=by unfold nF;rw[OK h.ul,EO];rfl
  have al:nF ds F i=(lg (bp ds) F (ds.getD i nJ).t).2:=by unfold nF;rw[dX h.ul,h.Ip af];rfl
  have aL:nF ds F a=(lg (bp ds) F (ds.getD a nJ).t).2:=by unfold nF;rw[dX h.gi,h.Iq af];rfl
  rw[ad]at he;rw[al,aL];exact aa.en he
 ·refine .inl ?_;unfold nF at he |-;rw[Io e,EO]at he;exact he
theorem sJ.ON(bf:iv ds F)(av:(pq ds F).length=0)(dG:(nG ds F).length=0){ds':List a2}(au:ds'.map a2.a6=(jE ds u y).map a2.a6)(my:iv ds' F'):F'=F/\(pq ds' F').length=0/\(nG ds' F').length=0:=by
 have MI:iv (jE ds u y) F':=VZ (by rw[<-au];exact acr my);have e:=h.Ea af bf MI;subst e;have cu:ds'.length=ds.length:=by have:=congrArg List.length au;rw[bO,bO,OJ]at this;exact this
 refine⟨rfl,?_,?_⟩
 ·rw[List.length_eq_zero_iff,WQ]at av |-;intro i hi;rw[WH]at hi;refine av i (WH.2 ⟨by omega,h.comes af bf ?_⟩);have e:ia ds' F'=ia (jE ds u y) F':=by funext i;rw[<-Nx,au,Nx]
  rw[<-e];exact hi.2
 ·rw[List.length_eq_zero_iff,WQ]at dG |-;intro i hi;rw[<-Ny,au,Ny]at hi;unfold nG at hi dG;rw[nR,kb,OJ]at hi;rcases h.akD af bf hi.2 with aa | aa
  ·exact dG i (nR.2 ⟨kb.2 hi.1,aa⟩)
  ·exact dG a (nR.2 ⟨kb.2 h.gi,aa⟩)
end
end Go.V
