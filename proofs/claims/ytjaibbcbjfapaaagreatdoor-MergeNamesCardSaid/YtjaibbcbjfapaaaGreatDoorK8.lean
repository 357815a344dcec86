/- Part 8 of what the proofs of this seat share: the executor, data in memory, walks.
-/
import Derived.Test.YtjaibbcbjfapaaaGreatDoorK7
import Derived.Test.YtjaibbcbjfapaaaGreatDoorK2
import Derived.Test.YtjaibbcbjfapaaaGreatDoorK6
import Derived.Test.YtjaibbcbjfapaaaGreatDoorK3
import Derived.Test.YtjaibbcbjfapaaaGreatDoorK4
import Derived.Lib.SliceRun
import Derived.Test.YtjaibbcbjfapaaaGreatDoorK5
set_option linter.all false
set_option maxHeartbeats 8000000
set_option maxRecDepth 100000
namespace Go.V
open Go Go.Proofs
def xd:=@List.mem_map_of_mem
def Tk:=@List.perm_ext_iff_of_nodup
def Tl:=@List.append_cancel_left
def I5:=@Bool.decide_and
def adp:=@List.eq_nil_iff_forall_not_mem
variable{ns ds' dZ:List al}{k rule w:Int}{r j n u pn pc m c' c size b:Nat}{t y bi:bs}{I J I':aH}{ay path:List Int}{M0 M:List aA}{xs b8:List Value}{T:aP}{α:Type}{l:List aP}{x s:Operand}{S:aN}{q:List aN}{qP:List Nat}{pl:List (ByteArray×Int)}{F c7:List aX}{g h:cE}{pa a:Option Addr}{cS aB:dH}{os:aT}{aR:Addr}
def j7(d:al)(x:aP):Bool:=!decide (d.k=4) || !decide (x.d.k=0)
def I6(d:al)(xs:List aP):aP:=
 if d.k=4\/d.k=5 then match xs.filter (j7 d)with
  |[]=>.mk (nothing (d.k-4)).bare []| [y]=>y| ys=>.mk d ys
 else .mk d xs
def nR(d:al)(xs:List aP):aP:=I6 d.bare xs
def aP.lA(T:aP):aP:=(T.fold nR).bu
def adq(ns:List al)(T:aN):(T.bare ns).d=(nodeAt ns T.br).bare:=by
 cases T with
 |mk k ks=>
 rw[aN.nc];rfl
def aqR{k:Nat}(h:k<ns.length):ns.getD k vE=nodeAt ns k:=by rw[gr h];simp[bT,h]
def adr{d:al}{ds:List al}:∀ {ks:List aN},(∀ c∈ks,cB ds c)->jy d ds (ks.map aN.br)=eX (ks.filter λc=>j7 d (c.bare ds))/\(ks.filter λc=>j7 d (c.bare ds)).map (aN.bare ds)=(ks.map (aN.bare ds)).filter (j7 d)
 |[],_=>⟨rfl,rfl⟩
 |c::ks,h=>by
  obtain⟨aa,ad⟩:=adr (d:=d) (ks:=ks) λx ab=>h x (.tail _ ab);have ao:=(h c (.head _)).nb;have e:o7 d (ds.getD c.br vE)=j7 d (c.bare ds):=by unfold o7 j7;rw[adq,al.acL,aqR ao]
  have ah:jy d ds ((c::ks).map aN.br)=(bif o7 d (ds.getD c.br vE)then [(c.br:Int)]else [])++jy d ds (ks.map aN.br):=rfl;rw[ah,aa,e,Co,b0,Co];cases j7 d (c.bare ds)with
  |true=>exact⟨rfl,by simp[ad]⟩| false=>exact⟨rfl,wf⟩
def I7(d:al)(xs:List aP):nR d xs=if d.k=4\/d.k=5 then(match xs.filter (j7 d)with
  |[]=>.mk (nothing (d.k-4)).bare []| [y]=>y| ys=>.mk d.bare ys)else .mk d.bare xs:=rfl
def xb.lt{d:al}{ds:List al}{ks:List aN}{r:Int}(eH:∀ c∈ks,cB ds c)(h:xb d (ks.map aN.br) ds ds' r) :
  (∃ m,ds'=ds++m)/\∃ T:aN,(T.br:Int)=r/\cB ds' T/\T.bare ds'=nR d (ks.map (aN.bare ds)):=by
 obtain⟨ah,aE⟩:=adr (d:=d) eH;have new:∀ (x:al) (l:List aN),(∀ c∈l,cB ds c)->x.ap=eX l->cB (ds++[x]) (.mk ds.length l)/\(aN.mk ds.length l).bare (ds++[x])=.mk x.bare (l.map (aN.bare ds)):=λx l az ab=>by refine⟨.mk am (by rw[Fv,ab];rfl) λc ao=>(az c ao).app _,?_⟩;rw[aN.nc,Fv];congr 1;exact fR λc ao=>aN.CS ds (az c ao) _
 unfold xb at h;rw[I7,<-aE];split at h
 ·rename_i gA;rw[b2 gA];rw[ah]at h;have mY:∀ c∈ks.filter (λc=>j7 d (c.bare ds)),cB ds c:=λc ao=>eH c (nV.1 ao).1;generalize ks.filter (λc=>j7 d (c.bare ds))=bp at h mY;rcases h with⟨aa,rfl,rfl⟩ | ⟨aa,rfl⟩ | ⟨aa,rfl,bN,hM,c',rfl⟩
  ·obtain rfl:bp=[]:=List.map_eq_nil_iff.1 aa;obtain⟨eg,eV⟩:=new (nothing (d.k-4)) [] (λc ao=>by cases ao) rfl;exact⟨⟨_,rfl⟩,_,rfl,eg,eV⟩
  ·match bp,aa with
   |[c],aa=>refine⟨⟨[],am⟩,c,?_,mY c (.head _),rfl⟩;simpa[eX]using aa
  ·obtain⟨eg,eV⟩:=new (d.row bN hM c' (eX bp)) bp mY rfl;refine⟨⟨_,rfl⟩,_,rfl,eg,eV.trans ?_⟩
   match bp,aa with
   |fP::fr::l,aa=>rfl
 ·rename_i gA;rw[bS gA];obtain⟨rfl,bN,hM,c',rfl⟩:=h;obtain⟨eg,eV⟩:=new (d.row bN hM c' ((ks.map aN.br).map Int.ofNat)) ks eH (by rw[gj];rfl);exact⟨⟨_,rfl⟩,_,rfl,eg,eV⟩
def rY.perm{ds:List al}{a b:List Nat}(h:rY ds a)(aI:a.Perm b):rY ds b:=⟨h.fits,h.ap,h.diff,λk ae=>h.gP k (aI.mem_iff.2 ae),aI.nodup_iff.1 h.sW⟩
def vH(ns:List al)(i:Nat):List Nat:=(List.range i).filter λj=>!decide ((j:Int)∈eI (ns.take i))
def h1(P:List Int)(j:Nat):Nat:=(P.getD j 0).toNat
structure CX(t:bs)(i:Nat)(ds:List al)(P:List Int):Prop where
 hi:i<=t.ns.length
 qA:P.length=t.ns.length
 len:ds.length<=i
 jv:∀ j,j<i->∃ T:aN,(T.br:Int)=P.getD j 0/\cB ds T/\T.bare ds=(fm t.ns j).fold nR
 wd:rY ds ((vH t.ns i).map (h1 P))
def aqS(h:g8 t)(ah:j<t.ns.length):fm t.ns j=.mk t.ns[j].bare (t.ns[j].ap.map (fm t.ns)):=by
 obtain⟨T,a6,dD,he,-⟩:=h.lt ah;cases T with
 |mk k ks=>
 obtain rfl:k=j:=a6;obtain⟨aa,ad,aj⟩:=dD.inv;rw[he,aN.nc,gr aa];rw[gr aa]at ad;rw[ad,gj];congr 1;exact fR λc ao=>(ML h.w9 (aj c ao)).symm
def ads{i:Nat}(hi:i<ns.length):eI (ns.take (i+1))=eI (ns.take i)++ns[i].ap:=by rw[gk hi,M2];simp[eI]
def I8{i:Nat}:j∈vH ns i ↔ j<i/\(j:Int) ∉ eI (ns.take i):=by unfold vH;rw[nV,j9];simp
def CX.step(af:g8 t){i:Nat}{ds:List al}{P:List Int}(h:CX t i ds P)(hi:i<t.ns.length){r:Int}(ah:xb t.ns[i] (t.ns[i].ap.map λk=>h1 P k.toNat) ds ds' r) :
  CX t (i+1) ds' (P.set i r):=by
 have n8:=af.ap i hi;obtain⟨ks,tz,eU⟩:=IX (R:=λ(x:Int) (T:aN)=>T.br=h1 P x.toNat/\cB ds T/\T.bare ds=(fm t.ns x).fold nR) (l:=t.ns[i].ap) λx ab=>by have:=n8 x ab;obtain⟨T,aa,ad,aj⟩:=h.jv x.toNat Z;refine⟨T,by unfold h1;omega,ad,?_⟩;rw[show((x.toNat:Nat):Int)=x by omega]at aj;exact aj
 have eH:∀ c∈ks,cB ds c:=λc ao=>by obtain⟨q,aO,rfl⟩:=iI ao;exact(eU q Z aO).2.1
 have yM:(t.ns[i].ap.map λk=>h1 P k.toNat)=ks.map aN.br:=by refine oA (by simp[tz]) λq aO wF=>?_;rw[gh,gh];exact(eU q (by simpa using aO) (by simpa using wF)).1.symm
 have DN:ks.map (aN.bare ds)=t.ns[i].ap.map λx=>(fm t.ns x).fold nR:=by refine oA (by simp[tz]) λq aO wF=>?_;rw[gh,gh];exact(eU q (by simpa using wF) (by simpa using aO)).2.2
 have jA:=ah;rw[yM]at jA;obtain⟨⟨m,rfl⟩,T,jG,hK,pY⟩:=jA.lt eH;have hold:∀ j,j≠i->(P.set i r).getD j 0=P.getD j 0:=λj bz=>by rw[bT,bT,iB,bS (λe=>bz e.symm)]
 have e6:(P.set i r).getD i 0=r:=by rw[bT,iB,b2 rfl,b2 (by have:=h.qA;omega)];rfl
 have fh:∀ x∈t.ns[i].ap,0<=x/\x<i:=n8;have gm:hz (eI (t.ns.take (i+1))):=by
  have e:eI t.ns=eI (t.ns.take (i+1))++eI (t.ns.drop (i+1)):=by rw[<-M2,px]
  have:=af.diff;rw[e]at this;exact(rC.1 this).1
 rw[ads hi]at gm;obtain⟨d1,d2,d3⟩:=rC.1 gm;have aqT:(t.ns[i].ap.map Int.toNat).Nodup:=by refine B5.2 (d2.imp_of_mem ?_);intro a b a7 ag bz e;have:=fh a a7;have:=fh b ag;exact bz Z
 obtain⟨bm,re⟩:∃ bm,(vH t.ns i).filter (λj=>!decide (j∈t.ns[i].ap.map Int.toNat))=bm:=⟨_,rfl⟩;have zH:(vH t.ns i).Nodup:=EM.sublist zg;have aqU:(vH t.ns (i+1)).Nodup:=EM.sublist zg;have AJ:∀ j,j∈bm ↔ j∈vH t.ns i/\j ∉ t.ns[i].ap.map Int.toNat:=λj=>by rw[<-re,nV];simp
 have aqV:(vH t.ns i).Perm (t.ns[i].ap.map Int.toNat++bm):=by
  refine(Tk zH (uu.2 ⟨aqT,by rw[<-re];exact zH.sublist zg,λa a7 b ag e=>?_⟩)).2 λj=>?_;·subst e;exact((AJ a).1 ag).2 a7
  ·rw[c1,AJ];constructor
   ·intro ah;by_cases e:j∈t.ns[i].ap.map Int.toNat
    ·exact .inl e
    ·exact .inr ⟨ah,e⟩
   ·rintro(ah | ah)
    ·obtain⟨x,ab,rfl⟩:=c3.1 ah;have:=fh x ab;refine I8.2 ⟨Z,λhm=>?_⟩;rw[show((x.toNat:Nat):Int)=x by omega]at hm;exact d3 x hm x ab rfl
    ·exact ah.1
 have Ro:(vH t.ns (i+1)).Perm (i::bm):=by
  refine(Tk aqU (lG.2 ⟨λhm=>?_,by rw[<-re];exact zH.sublist zg⟩)).2 λj=>?_;·have:=(I8.1 ((AJ i).1 hm).1).1;omega
  ·rw[er,AJ,I8,I8,ads hi,c1];constructor
   ·rintro⟨aa,ad⟩;by_cases e:j=i
    ·exact .inl e
    ·refine .inr ⟨⟨Z,λaj=>ad (.inl aj)⟩,λaj=>ad (.inr ?_)⟩;obtain⟨x,ab,rfl⟩:=c3.1 aj;have:=fh x ab;rw[show((x.toNat:Nat):Int)=x by omega];exact ab
   ·rintro(rfl | ⟨⟨aa,ad⟩,aj⟩)
    ·refine⟨Z,λaJ=>?_⟩;rcases aJ with aJ | aJ
     ·obtain⟨d,ai,ab⟩:=hl.1 aJ;obtain⟨q,aO,rfl⟩:=iI ai;rw[fT]at aO;rw[PV]at ab;have:=af.ap q Z _ ab;omega
     ·have:=fh _ aJ;omega
    ·refine⟨Z,λaJ=>?_⟩;rcases aJ with aJ | aJ
     ·exact ad aJ
     ·exact aj (c3.2 ⟨(j:Int),aJ,Z⟩)
 have hw:=h.wd.perm ((aqV.map (h1 P)).trans (by rw[cR,gj]));have ib:Go.V.fits t.ns[i] ((t.ns[i].ap.map λk=>h1 P k.toNat).length:Nat)=true:=by rw[bB];exact af.fits i hi
 obtain⟨rp,aqW⟩:=hw.join ib ah;refine⟨hi,by rw[rD];exact h.qA,?_,λj ah=>?_,?_⟩
 ·have:m.length<=1:=by
   unfold xb at ah;split at ah
   ·rcases ah with⟨-,-,e⟩ | ⟨-,e⟩ | ⟨-,-,bN,hM,c',e⟩
    ·rw[Tl e];simp
    ·have:m=[]:=by simpa using e
     rw[this];simp
    ·rw[Tl e];simp
   ·obtain⟨-,bN,hM,c',e⟩:=ah;rw[Tl e];simp
  have:=h.len;rw[cn];omega
 ·by_cases e:j=i
  ·subst e;refine⟨T,by rw[e6];exact jG,hK,?_⟩;rw[pY,DN,aqS af hi,aP.fold_eq,gj];rfl
  ·obtain⟨S,aa,ad,aj⟩:=h.jv j Z;exact⟨S,by rw[hold j e];exact aa,ad.app m,by rw[aN.CS ds ad];exact aj⟩
 ·refine aqW.perm ?_;have aK:(i::bm).map (h1 (P.set i r))=r.toNat::bm.map (h1 P):=by
   rw[b0];congr 1;·unfold h1;rw[e6]
   ·refine fR λj ah=>?_;have:=(I8.1 ((AJ j).1 ah).1).1;unfold h1;rw[hold j Z]
  rw[<-aK];exact(Ro.map _).symm
def CX.start(t:bs):CX t 0 [] (List.replicate t.ns.length 0):=⟨dQ _,zd,cc _,λj ah=>absurd ah (m6 _),⟨(λd ai=>qr),λj h=>absurd h (m6 _),List.Pairwise.nil,(λk ae=>by simp[vH]at ae),by simp[vH]⟩⟩
def cx.aqX(I:aH):cx I (hL.a.map λg=>⟨g,0,none⟩) hL.n hL.c 1 8 (([]:List Int).map (.int .i64 ·)):=⟨rfl,⟨cc _,dQ _⟩,.inl rfl⟩
def aqY(af:g8 t){i:Nat}(hi:i<t.ns.length):t.ns[i].ap.length<=i:=by
 have ae:=af.ap i hi;have ai:hz t.ns[i].ap:=by rw[<-gr hi];exact acB af.diff hi
 have aa:(t.ns[i].ap.map Int.toNat).Nodup:=by refine B5.2 (ai.imp_of_mem ?_);intro a b a7 ag bz e;have:=ae a a7;have:=ae b ag;exact bz Z
 have:=ME (n:=i) aa λx ab=>by obtain⟨y,aG,rfl⟩:=c3.1 ab;have:=ae y aG;omega
 rwa [bB]at this
def aqZ(a6:en I ay)(au:t.ok I)(af:right t=true)(aC:t.n<=1099511627776) :
  Spec Tryz.prog 72 [t.val] I [] λv I' M'=>(∀ b o,I b=some o->I' b=some o)/\M'=[]/\∃ bi:bs,v=.tuple #[bi.val,.bool true]/\bi.ok I'/\lz bi (bV t).lA:=by
 refine xF [4] a0 Tryz.func72 rfl rfl rfl ?_;intro B ax;have aM:=jd.1 af;have g7:=au.n;have hk:=au.bb.cap;refine a8.mk [] [] _ (.refl _) (nx a6.c au) ?_;rintro v J N -⟨rfl,a4,rfl⟩;subst J;rw[af];refine aZ.mk (λh=>ci) (λ_=>?_);refine bQ.mk λp4 z' sS=>?_;refine a8.mk [] _ _ (.refl _) aqj ?_;rintro v J N -⟨rfl,a4,rfl⟩;subst J;refine pi.mk t.n t.n rfl rfl (cc _) ay7 Z ?_;refine bQ.mk λb6 KH aq0=>?_;have m4:(rowOf [Value.int .i64 0] (t.n*1))=(List.replicate t.ns.length (0:Int)).map (Value.int .i64):=by rw[By,Bp,gM,g7]
 have Th:∀ x∈(([]:List aA).map (·.num)),False:=λx ab=>by cases ab
 refine du.uD (ι:=Nat×List Int×aT×List al×aH) (λx=>{ bp:=[(1,.ref 1 0),(2,.ref 2 0),(4,.val (ptr p4)),(5,.ref 5 0),(6,.val (.slice (some ⟨b6,0,none⟩) t.n t.n)),(22,.val (.slice t.a t.n t.c)),(23,.val (.int .i64 t.n)),(24,.val (.int .i64 x.1))],cl:=[(1,t.cells),(2,[.slice none 0 0,.int .i64 0]),(5,S')],cO:=x.2.2.2.2,c5:=dE b6 x.2.1::ck.ar ⟨p4,x.2.2.1,x.2.2.2.1⟩ }) (λx=>CX t x.1 x.2.2.2.1 x.2.1/\ck.ok x.2.2.2.2 ⟨p4,x.2.2.1,x.2.2.2.1⟩/\∀ b o,I b=some o->x.2.2.2.2 b=some o) (λx=>t.n-x.1) ?_ ?_
 ·intro _;refine⟨(0,List.replicate t.ns.length 0,hL,[],I),⟨CX.start t,⟨kL 9,rfl,(λd ai=>qr)⟩,λ_ _ h=>h⟩,.m1 ?_,ku,.cons rfl (.cons rfl (.cons rfl (.nil)))⟩;rw[m4];rfl
 rintro⟨i,P,os,ds,J⟩⟨bE,bf,a4⟩;simp only at bE bf a4;have rT:=bE.qA;have dN:=bE.hi;have zG:=bE.len;refine aZ.mk (λh=>?_) (λh=>?_)
 ·have a1:(i:Int)<t.n:=cT h;have fv:i<t.ns.length:=by omega
  obtain⟨mW,mX,jn⟩:=(au.bb.mono a4).row al.cL (j:=i) Z fv;have ai:=(au.ns _ (bK fv)).mono a4;have hJ:=aM.ap i fv;have jP:=aqY aM fv;have iG:=λds' r=>bE.step aM fv (ds':=ds') (r:=r);generalize fj:t.ns[i]=d at ai jn hJ jP iG;have fh:=ai.aF;have pN:=ai.bb.cap;refine bt.mk mW i mX rfl Z ?_;refine aU.mk _ (jn _) ?_;refine du.uD (ι:=Nat×aT×List Int×aH×List aA) (λy=>{ bp:=[(1,.ref 1 0),(2,.ref 2 0),(4,.val (ptr p4)),(5,.ref 5 0),(6,.val (.slice (some ⟨b6,0,none⟩) t.n t.n)),(7,.val (.int .i64 i)),(8,.ref 8 0),(9,.val y.2.1.val),(22,.val (.slice t.a t.n t.c)),(23,.val (.int .i64 t.n)),(24,.val (.int .i64 i)),(30,.val (.slice d.ca d.aF d.cr)),(31,.val (.int .i64 d.aF)),(32,.val (.int .i64 y.1))],cl:=[(1,t.cells),(2,[.slice none 0 0,.int .i64 0]),(5,S'),(8,d.cells)],cO:=y.2.2.2.1,c5:=y.2.2.2.2++(dE b6 P::ck.ar ⟨p4,os,ds⟩) }) (λy=>adh d P (y.1,y.2.1,y.2.2.1)/\((y.1<d.aF/\y.2.2.2.1=J/\y.2.2.2.2=y.2.1.ar 3)\/(y.1=d.aF/\(∀ b o,J b=some o->y.2.2.2.1 b=some o)/\y.2.2.2.2=[]/\cx y.2.2.2.1 (y.2.1.a.map λg=>⟨g,0,none⟩) y.2.1.n y.2.1.c 1 8 (y.2.2.1.map (.int .i64 ·))))) (λy=>d.aF-y.1) ?_ ?_
  ·intro _;refine⟨(0,hL,[],J,[]),⟨⟨dQ _,kL 1,am⟩,?_⟩,.refl,Gq,.cons rfl (.cons rfl (.cons rfl (.cons rfl (.nil))))⟩;by_cases eB:0<d.aF
   ·exact .inl ⟨eB,rfl,rfl⟩
   ·exact .inr ⟨ce,λ_ _ h=>h,rfl,cx.aqX _⟩
  rintro⟨k,dY,ft,h0,adt⟩⟨⟨hA,jb,c4⟩,Tm⟩;simp only at hA jb c4 Tm;have aqM:=jb.pK;have D':ft.length=k:=by rw[c4,bB,fT];omega
  refine aZ.mk (λad=>?_) (λad=>?_)
  ·have MZ:k<d.aF:=by have:(k:Int)<(d.aF:Int):=cT ad;omega
   obtain⟨rfl,rfl⟩:h0=J/\adt=dY.ar 3:=by
    rcases Tm with⟨-,aa,aj⟩ | ⟨aa,-⟩;·exact⟨aa,aj⟩
    ·omega
   have iR:k<d.ap.length:=by omega
   have ak:=hJ _ (bK iR);have vC:d.ap[k].toNat<P.length:=by omega
   have CQ:P.getD d.ap[k].toNat 0=P[d.ap[k].toNat]:=by simp[bT,vC]
   have CV:cx h0 d.ca d.aF d.cr 1 8 (d.ap.flatMap ir):=by rw[og];exact ai.bb
   obtain⟨gn,fk,fc⟩:=CV.row (f:=ir) (λ_=>rfl) (j:=k) Z iR;refine bt.mk gn k fk rfl (show k<d.aF by omega) ?_;refine aU.mk _ (fc _) ?_;refine bt.mk ⟨b6,0,none⟩ d.ap[k].toNat rfl Z Z ?_;refine aU.mk _ (GK am vC) ?_;refine bQ.mk λsY CW aqN=>?_;refine bC.lU a0 rfl am (e:=3) rfl rfl rfl dY jb rfl (cs:=[.int .i64 P[d.ap[k].toNat]]) rfl rfl rfl [] (dE b6 P::ck.ar ⟨p4,os,ds⟩) rfl Z (by show(dY.n+1)*8<=_;omega) ?_;intro oM ado aqO Ti;refine be.mk _ (c9 (i:=k) Z) ?_;have Tn:oM.ok 1 ((ft++[P[d.ap[k].toNat]]).map (.int .i64 ·)):=by rw[cR];exact Ti
   have adu:ft++[P[d.ap[k].toNat]]=(d.ap.take (k+1)).map (λk=>P.getD k.toNat 0):=by rw[c4,gk iR,cR,sX,CQ]
   intro eY;by_cases eB:k+1<d.aF;·exact⟨(k+1,oM,ft++[P[d.ap[k].toNat]],h0,oM.ar 3),⟨⟨⟨MZ,Tn,adu⟩,.inl ⟨eB,rfl,rfl⟩⟩,ce⟩,.refl,Gq,.cons rfl (.cons rfl (.cons rfl (.cons rfl (.nil))))⟩
   ·have aw:=l7.FB (os:=oM) (e:=3) (foot:=[]) eY (.refl _) (λx ab=>wl);obtain⟨mv,hw,bn,dB,-⟩:=aT.zL (b:=8) (e:=3) Tn (by rw[ado];omega) aw (dE b6 P::ck.ar ⟨p4,os,ds⟩);exact⟨(k+1,oM,ft++[P[d.ap[k].toNat]],mv,[]),⟨⟨⟨MZ,Tn,adu⟩,.inr ⟨ce,bn,rfl,dB⟩⟩,ce⟩,hw _ _ .refl,Gq,.cons rfl (.cons rfl (.cons rfl (.cons rfl (.nil))))⟩
  have cV:k=d.aF:=by have:¬ (k:Int)<(d.aF:Int):=dU ad;omega
  obtain⟨g1,rfl,dB⟩:(∀ b o,J b=some o->h0 b=some o)/\adt=[]/\cx h0 (dY.a.map λg=>⟨g,0,none⟩) dY.n dY.c 1 8 (ft.map (.int .i64 ·)):=by
   rcases Tm with⟨aa,-⟩ | ⟨-,aa,aj,aJ⟩;·omega
   ·exact⟨aa,aj,aJ⟩
  subst cV;rw[fD Z]at c4;have mb:∀ x∈d.ap.map (λk=>h1 P k.toNat),x<ds.length:=λx ab=>by obtain⟨y,aG,rfl⟩:=c3.1 ab;have:=hJ y aG;obtain⟨T,aa,ad,-⟩:=bE.jv y.toNat Z;have:=ad.nb;unfold h1;omega
  have MT:ft=(d.ap.map (λk=>h1 P k.toNat)).map Int.ofNat:=by rw[c4,gj];refine fR λy aG=>?_;have:=hJ y aG;obtain⟨T,aa,ad,-⟩:=bE.jv y.toNat Z;show P.getD y.toNat 0=((h1 P y.toNat:Nat):Int);unfold h1;omega
  rw[MT]at dB;have MY:=bf.mono g1;have uc:=ai.mono g1;have mV:=λj ah ae=>aqk (A:=⟨p4,os,ds⟩) MY ce uc mb al' dB j ah ae;clear c4 MT;obtain⟨dF,cf,s1,s2,cH,gV,ax4,ax5,tJ,tK,tL,tM⟩:=d;have D8:dF=0\/dF=1\/dF=2\/dF=3\/dF=4\/dF=5\/dF=6\/dF=7\/dF=8\/dF=9:=by have aa:=PP (aM.fits i fv);rw[fj]at aa;have ad:=ai.k;simp only at aa ad;omega
  rcases D8 with rfl | rfl | rfl | rfl | rfl | rfl | rfl | rfl | rfl | rfl
  ·refine cY.draw a0 rfl rfl rfl ?_;refine cw.mk 0 rfl bv ?_;refine ev.uE rfl (ck.ar ⟨p4,os,ds⟩) [dE b6 P] _ ?_ (mV 0 bv rfl) ?_
   ·exact(eN (l₁:=[dE b6 P]))
   rintro v cv dv cj⟨-,bq,ds',r,rfl,kn,rfl,na⟩;refine bt.mk ⟨b6,0,none⟩ i rfl rfl Z ?_;refine b4.iE (ck.ar ⟨p4,bq,ds'⟩) [] (P.map (Value.int .i64)) 3 rfl d9 rfl ((P.set i r).map (Value.int .i64)) f0 ?_;refine be.mk _ (c9 (i:=i) Z) ?_;intro _;exact⟨(i+1,P.set i r,bq,ds',cv),⟨⟨iG _ _ na,kn,λb o h=>cj _ _ (g1 _ _ (a4 _ _ h))⟩,ce⟩,.perm (eN (l₁:=ck.ar ⟨p4,bq,ds'⟩)) .refl,ku,.cons rfl (.cons rfl (.cons rfl (.nil)))⟩
  ·refine cY.draw a0 rfl rfl rfl ?_;refine cw.mk 1 rfl bv ?_;refine ev.uE rfl (ck.ar ⟨p4,os,ds⟩) [dE b6 P] _ ?_ (mV 1 bv rfl) ?_
   ·exact(eN (l₁:=[dE b6 P]))
   rintro v cv dv cj⟨-,bq,ds',r,rfl,kn,rfl,na⟩;refine bt.mk ⟨b6,0,none⟩ i rfl rfl Z ?_;refine b4.iE (ck.ar ⟨p4,bq,ds'⟩) [] (P.map (Value.int .i64)) 3 rfl d9 rfl ((P.set i r).map (Value.int .i64)) f0 ?_;refine be.mk _ (c9 (i:=i) Z) ?_;intro _;exact⟨(i+1,P.set i r,bq,ds',cv),⟨⟨iG _ _ na,kn,λb o h=>cj _ _ (g1 _ _ (a4 _ _ h))⟩,ce⟩,.perm (eN (l₁:=ck.ar ⟨p4,bq,ds'⟩)) .refl,ku,.cons rfl (.cons rfl (.cons rfl (.nil)))⟩
  ·refine cY.draw a0 rfl rfl rfl ?_;refine cw.mk 2 rfl bv ?_;refine ev.uE rfl (ck.ar ⟨p4,os,ds⟩) [dE b6 P] _ ?_ (mV 2 bv rfl) ?_
   ·exact(eN (l₁:=[dE b6 P]))
   rintro v cv dv cj⟨-,bq,ds',r,rfl,kn,rfl,na⟩;refine bt.mk ⟨b6,0,none⟩ i rfl rfl Z ?_;refine b4.iE (ck.ar ⟨p4,bq,ds'⟩) [] (P.map (Value.int .i64)) 3 rfl d9 rfl ((P.set i r).map (Value.int .i64)) f0 ?_;refine be.mk _ (c9 (i:=i) Z) ?_;intro _;exact⟨(i+1,P.set i r,bq,ds',cv),⟨⟨iG _ _ na,kn,λb o h=>cj _ _ (g1 _ _ (a4 _ _ h))⟩,ce⟩,.perm (eN (l₁:=ck.ar ⟨p4,bq,ds'⟩)) .refl,ku,.cons rfl (.cons rfl (.cons rfl (.nil)))⟩
  ·refine cY.draw a0 rfl rfl rfl ?_;refine cw.mk 3 rfl bv ?_;refine ev.uE rfl (ck.ar ⟨p4,os,ds⟩) [dE b6 P] _ ?_ (mV 3 bv rfl) ?_
   ·exact(eN (l₁:=[dE b6 P]))
   rintro v cv dv cj⟨-,bq,ds',r,rfl,kn,rfl,na⟩;refine bt.mk ⟨b6,0,none⟩ i rfl rfl Z ?_;refine b4.iE (ck.ar ⟨p4,bq,ds'⟩) [] (P.map (Value.int .i64)) 3 rfl d9 rfl ((P.set i r).map (Value.int .i64)) f0 ?_;refine be.mk _ (c9 (i:=i) Z) ?_;intro _;exact⟨(i+1,P.set i r,bq,ds',cv),⟨⟨iG _ _ na,kn,λb o h=>cj _ _ (g1 _ _ (a4 _ _ h))⟩,ce⟩,.perm (eN (l₁:=ck.ar ⟨p4,bq,ds'⟩)) .refl,ku,.cons rfl (.cons rfl (.cons rfl (.nil)))⟩
  ·refine cY.draw a0 rfl rfl rfl ?_;refine cw.mk 4 rfl bv ?_;refine ev.uE rfl (ck.ar ⟨p4,os,ds⟩) [dE b6 P] _ ?_ (mV 4 bv rfl) ?_
   ·exact(eN (l₁:=[dE b6 P]))
   rintro v cv dv cj⟨-,bq,ds',r,rfl,kn,rfl,na⟩;refine bt.mk ⟨b6,0,none⟩ i rfl rfl Z ?_;refine b4.iE (ck.ar ⟨p4,bq,ds'⟩) [] (P.map (Value.int .i64)) 3 rfl d9 rfl ((P.set i r).map (Value.int .i64)) f0 ?_;refine be.mk _ (c9 (i:=i) Z) ?_;intro _;exact⟨(i+1,P.set i r,bq,ds',cv),⟨⟨iG _ _ na,kn,λb o h=>cj _ _ (g1 _ _ (a4 _ _ h))⟩,ce⟩,.perm (eN (l₁:=ck.ar ⟨p4,bq,ds'⟩)) .refl,ku,.cons rfl (.cons rfl (.cons rfl (.nil)))⟩
  ·refine cY.draw a0 rfl rfl rfl ?_;refine cw.mk 5 rfl bv ?_;refine ev.uE rfl (ck.ar ⟨p4,os,ds⟩) [dE b6 P] _ ?_ (mV 5 bv rfl) ?_
   ·exact(eN (l₁:=[dE b6 P]))
   rintro v cv dv cj⟨-,bq,ds',r,rfl,kn,rfl,na⟩;refine bt.mk ⟨b6,0,none⟩ i rfl rfl Z ?_;refine b4.iE (ck.ar ⟨p4,bq,ds'⟩) [] (P.map (Value.int .i64)) 3 rfl d9 rfl ((P.set i r).map (Value.int .i64)) f0 ?_;refine be.mk _ (c9 (i:=i) Z) ?_;intro _;exact⟨(i+1,P.set i r,bq,ds',cv),⟨⟨iG _ _ na,kn,λb o h=>cj _ _ (g1 _ _ (a4 _ _ h))⟩,ce⟩,.perm (eN (l₁:=ck.ar ⟨p4,bq,ds'⟩)) .refl,ku,.cons rfl (.cons rfl (.cons rfl (.nil)))⟩
  ·refine cY.draw a0 rfl rfl rfl ?_;refine cw.mk 6 rfl bv ?_;refine ev.uE rfl (ck.ar ⟨p4,os,ds⟩) [dE b6 P] _ ?_ (mV 6 bv rfl) ?_
   ·exact(eN (l₁:=[dE b6 P]))
   rintro v cv dv cj⟨-,bq,ds',r,rfl,kn,rfl,na⟩;refine bt.mk ⟨b6,0,none⟩ i rfl rfl Z ?_;refine b4.iE (ck.ar ⟨p4,bq,ds'⟩) [] (P.map (Value.int .i64)) 3 rfl d9 rfl ((P.set i r).map (Value.int .i64)) f0 ?_;refine be.mk _ (c9 (i:=i) Z) ?_;intro _;exact⟨(i+1,P.set i r,bq,ds',cv),⟨⟨iG _ _ na,kn,λb o h=>cj _ _ (g1 _ _ (a4 _ _ h))⟩,ce⟩,.perm (eN (l₁:=ck.ar ⟨p4,bq,ds'⟩)) .refl,ku,.cons rfl (.cons rfl (.cons rfl (.nil)))⟩
  ·refine cY.draw a0 rfl rfl rfl ?_;refine cw.mk 7 rfl bv ?_;refine ev.uE rfl (ck.ar ⟨p4,os,ds⟩) [dE b6 P] _ ?_ (mV 7 bv rfl) ?_
   ·exact(eN (l₁:=[dE b6 P]))
   rintro v cv dv cj⟨-,bq,ds',r,rfl,kn,rfl,na⟩;refine bt.mk ⟨b6,0,none⟩ i rfl rfl Z ?_;refine b4.iE (ck.ar ⟨p4,bq,ds'⟩) [] (P.map (Value.int .i64)) 3 rfl d9 rfl ((P.set i r).map (Value.int .i64)) f0 ?_;refine be.mk _ (c9 (i:=i) Z) ?_;intro _;exact⟨(i+1,P.set i r,bq,ds',cv),⟨⟨iG _ _ na,kn,λb o h=>cj _ _ (g1 _ _ (a4 _ _ h))⟩,ce⟩,.perm (eN (l₁:=ck.ar ⟨p4,bq,ds'⟩)) .refl,ku,.cons rfl (.cons rfl (.cons rfl (.nil)))⟩
  ·refine cY.draw a0 rfl rfl rfl ?_;refine cw.mk 8 rfl bv ?_;refine ev.uE rfl (ck.ar ⟨p4,os,ds⟩) [dE b6 P] _ ?_ (mV 8 bv rfl) ?_
   ·exact(eN (l₁:=[dE b6 P]))
   rintro v cv dv cj⟨-,bq,ds',r,rfl,kn,rfl,na⟩;refine bt.mk ⟨b6,0,none⟩ i rfl rfl Z ?_;refine b4.iE (ck.ar ⟨p4,bq,ds'⟩) [] (P.map (Value.int .i64)) 3 rfl d9 rfl ((P.set i r).map (Value.int .i64)) f0 ?_;refine be.mk _ (c9 (i:=i) Z) ?_;intro _;exact⟨(i+1,P.set i r,bq,ds',cv),⟨⟨iG _ _ na,kn,λb o h=>cj _ _ (g1 _ _ (a4 _ _ h))⟩,ce⟩,.perm (eN (l₁:=ck.ar ⟨p4,bq,ds'⟩)) .refl,ku,.cons rfl (.cons rfl (.cons rfl (.nil)))⟩
  ·refine cY.draw a0 rfl rfl rfl ?_;refine cw.mk 9 rfl bv ?_;refine ev.uE rfl (ck.ar ⟨p4,os,ds⟩) [dE b6 P] _ ?_ (mV 9 bv rfl) ?_
   ·exact(eN (l₁:=[dE b6 P]))
   rintro v cv dv cj⟨-,bq,ds',r,rfl,kn,rfl,na⟩;refine bt.mk ⟨b6,0,none⟩ i rfl rfl Z ?_;refine b4.iE (ck.ar ⟨p4,bq,ds'⟩) [] (P.map (Value.int .i64)) 3 rfl d9 rfl ((P.set i r).map (Value.int .i64)) f0 ?_;refine be.mk _ (c9 (i:=i) Z) ?_;intro _;exact⟨(i+1,P.set i r,bq,ds',cv),⟨⟨iG _ _ na,kn,λb o h=>cj _ _ (g1 _ _ (a4 _ _ h))⟩,ce⟩,.perm (eN (l₁:=ck.ar ⟨p4,bq,ds'⟩)) .refl,ku,.cons rfl (.cons rfl (.cons rfl (.nil)))⟩
 ·have cV:i=t.ns.length:=by have:¬ (i:Int)<(t.n:Int):=dU h;omega
  subst cV;obtain⟨g0,hy⟩:=aM.bx;obtain⟨r,eb⟩:=eh g0;have eD:r<t.ns.length:=by omega
  obtain⟨T,jG,hK,pY⟩:=bE.jv r eD;have aq1:P[r]' Z=(T.br:Int):=by rw[jG,bT,dy Z];rfl
  refine bt.mk ⟨b6,0,none⟩ r rfl eb Z ?_;refine aU.mk _ (GL Z aq1 (.head _)) ?_;have mP:=aqG bf ce bE.wd.ap bE.wd.diff hK;refine a8.mk (ck.ar ⟨p4,os,ds⟩) [dE b6 P] _ (eN (l₁:=[dE b6 P])) mP ?_;rintro v cv dv -⟨cj,rfl,bi,rfl,jw,dp⟩;intro _;refine⟨_,_,.sub (fs _) .refl,λb o h=>cj _ _ (a4 _ _ h),rfl,bi,rfl,jw,?_⟩;rw[show(bV t).lA=(T.bare ds).bu from by rw[pY];unfold aP.lA bV;rw[eb]];exact dp
section
end
def aq2{d:al}(h:d.k=0)(aE:Go.V.fits d n=true):n=0:=by unfold Go.V.fits at aE;rw[h]at aE;simp[oE,nw]at aE;have aa:jq[0]?.getD 0=0:=rfl;have ad:jq[1]?.getD 0=0:=rfl;rw[aa,ad]at aE;omega
def M3(a6:en I ay)(au:t.ok I)(af:right t=true)(aC:t.n<=1099511627776) :
  Spec Tryz.prog 72 [t.val] I M0 λv I' M'=>(∀ b o,I b=some o->I' b=some o)/\M'=M0/\∃ bi:bs,v=.tuple #[bi.val,.bool true]/\bi.ok I'/\lz bi (bV t).lA:=by
 refine(Spec.frame (aqZ a6 au af aC)).MO ?_;rintro v I' M'⟨M1,rfl,-,-,aa,rfl,ad⟩;exact⟨aa,rfl,ad⟩
def To{d:al}(h:d.k=4\/d.k=5)(aE:Go.V.fits d n=true):2<=n:=by
 unfold Go.V.fits at aE;rcases h with e | e<;>rw[e]at aE<;>simp[oE,nw]at aE<;>have:=aE.1.1<;>simp[jq]at this<;>omega
def adv{d:al}(h:d.k=4\/d.k=5):eT (.mk (nothing (d.k-4)).bare []):=by
 refine .mk ?_ λc ao=>by cases ao
 rcases h with e | e
 ·rw[show d.k-4=0 by omega];rfl
 ·rw[show d.k-4=1 by omega];rfl
def aq3{d:al}{xs:List aP}(aE:Go.V.fits d xs.length=true)(ab:∀ x∈xs,eT x):eT (I6 d xs):=by
 unfold I6;split
 ·rename_i gA;have ad:=To gA aE;have av:∀ y∈xs.filter (j7 d),eT y:=λy aG=>ab y (nV.1 aG).1;generalize xs.filter (j7 d)=bp at av
  match bp,av with
  |[],_=>exact adv gA| [y],av=>exact av y (.head _)| CY::CZ::l,av=>exact .mk (Tj gA (n:=(xs.length:Nat)) Z d4 aE) av
 ·exact .mk aE ab
def adw:∀ {T:aP},eT T->eT (T.fold nR):=by
 intro T
 induction T using aP.ind with
 |h d ks aQ=>intro h;rw[aP.fold_eq];refine aq3 (by rw[bB];exact h.inv.1) λx ab=>?_;obtain⟨c,ao,rfl⟩:=c3.1 ab;exact aQ c ao (h.inv.2 c ao)
def Tp(cb:Option Int):Prop:=cb=none\/cb=some 4\/cb=some 5
def adx(d:al):Tp (iu d):=by
 unfold iu Tp;split
 ·rename_i h;rcases h with e | e<;>rw[e]<;>simp
 ·exact .inl rfl
def Tq{α β:Type}{f:α->β}:∀ l:List α,l.map f=l.flatMap λc=>[f c]
 |[]=>rfl| a::l=>by rw[b0,Tq l];rfl
def Tr{α β:Type}{f:α->List β}:∀ {l:List α},(∀ x∈l,1<=(f x).length)->l.length<=(l.flatMap f).length
 |[],_=>cc _| a::l,h=>by have:=Tr (l:=l) λx ab=>h x (.tail _ ab);have:=h a (.head _);rw[iA,cn,ep];omega
def aq4:∀ {T:aP},eT T->(∀ cb,Tp cb->1<=(T.fX cb).length/\∀ U∈T.fX cb,eT U)/\eT T.bu:=by
 intro T
 induction T using aP.ind with
 |h d ks aQ=>
  intro h;obtain⟨aE,ae⟩:=h.inv;have o8:eT (aP.mk d ks).bu:=by
   show eT (.mk d (ks.flatMap (aP.fX (iu d))));have aa:=Tr (f:=aP.fX (iu d)) λc ao=>((aQ c ao (ae c ao)).1 _ (adx d)).1;refine .mk ?_ λU eK=>?_
   ·by_cases gA:d.k=4\/d.k=5
    ·have:=To gA aE;exact Tj gA (n:=(ks.length:Nat)) Z Z aE
    ·have e:iu d=none:=bS gA;have ba:ks.flatMap (aP.fX (iu d))=ks.map aP.bu:=by
      rw[e];rw[Tq];refine rG λc _=>?_;cases c with
      |mk d' IY=>rw[aP.qM,bS am]
     rw[ba,bB];exact aE
   ·obtain⟨c,ao,eK⟩:=hl.1 eK;exact((aQ c ao (ae c ao)).1 _ (adx d)).2 U eK
  refine⟨λcb jE=>?_,o8⟩;rw[aP.qM];split
  ·rename_i e;have gA:d.k=4\/d.k=5:=by
    rcases jE with h | h | h<;>rw[h]at e
    ·cases e
    ·exact .inl (e1 e)
    ·exact .inr (e1 e)
   have ad:=To gA aE;have aa:=Tr (f:=aP.fX cb) λc ao=>((aQ c ao (ae c ao)).1 _ jE).1;refine⟨Z,λU eK=>?_⟩;obtain⟨c,ao,eK⟩:=hl.1 eK;exact((aQ c ao (ae c ao)).1 _ jE).2 U eK
  ·refine⟨cc _,λU eK=>?_⟩;rw[eL.1 eK];exact o8
def C0(h:eT T):eT T.lA:=(aq4 (adw h)).2
def aq5{d:al}{xs:List aP}(ab:∀ x∈xs,ji x)(ai:d.bare=d):ji (I6 d xs):=by
 unfold I6;split
 ·have av:∀ y∈xs.filter (j7 d),ji y:=λy aG=>ab y (nV.1 aG).1;generalize xs.filter (j7 d)=bp at av
  match bp,av with
  |[],_=>exact .mk rfl λc ao=>by cases ao
  |[y],av=>exact av y (.head _)| CY::CZ::l,av=>exact .mk ai av
 ·exact .mk ai ab
def aq6:∀ (T:aP),ji (T.fold nR):=by
 intro T
 induction T using aP.ind with
 |h d ks aQ=>rw[aP.fold_eq];refine aq5 (λx ab=>?_) rfl;obtain⟨c,ao,rfl⟩:=c3.1 ab;exact aQ c ao
def aq7:∀ {T:aP},ji T->(∀ cb,∀ U∈T.fX cb,ji U)/\ji T.bu:=by
 intro T
 induction T using aP.ind with
 |h d ks aQ=>
  intro h;obtain⟨aE,ae⟩:=h.inv;have o8:ji (aP.mk d ks).bu:=by show ji (.mk d (ks.flatMap (aP.fX (iu d))));refine .mk aE λU eK=>?_;obtain⟨c,ao,eK⟩:=hl.1 eK;exact(aQ c ao (ae c ao)).1 _ U eK
  refine⟨λcb U eK=>?_,o8⟩;rw[aP.qM]at eK;split at eK;·obtain⟨c,ao,eK⟩:=hl.1 eK;exact(aQ c ao (ae c ao)).1 _ U eK
  ·rw[eL.1 eK];exact o8
def I9(T:aP):ji T.lA:=(aq7 (aq6 T)).2
section
variable{α:Type}{F:al->List α->α}(bw:S4 F)
include bw
theorem fold_filter{d:al}(xs:List aP)(ab:∀ x∈xs,eT x):∀ ys:List α,F d (ys++xs.map (aP.fold F))=F d (ys++(xs.filter (j7 d)).map (aP.fold F)):=by
 induction xs with
 |nil=>intro ys;rfl
 |cons x xs aQ=>
  intro ys;have aQ:=aQ λy aG=>ab y (.tail _ aG);rw[Co,b0];cases h:j7 d x with
  |true=>have:=aQ (ys++[x.fold F]);simpa using this
  |false=>
   unfold j7 at h;have aJ:d.k=4:=by
    cases e:decide (d.k=4)with
    |true=>exact cT e| false=>rw[e]at h;cases h
   have ax:x.d.k=0:=by
    cases e:decide (x.d.k=0)with
    |true=>exact cT e| false=>rw[e,aJ]at h;cases h
   have oZ:=ab x (.head _);cases x with
   |mk d' ks=>
   have ae:ks=[]:=im (aq2 ax oZ.inv.1);subst ae;rw[aP.fold_eq,hs,bw.drop d d' ys _ aJ ax,aQ];rfl
theorem aq8{d:al}{xs:List aP}(ab:∀ x∈xs,eT x):(nR d xs).fold F=F d (xs.map (aP.fold F)):=by
 have ag:F d.bare=F d:=bw.ap d [];rw[I7];have h:=fold_filter bw (d:=d) xs ab [];rw[hI,hI]at h;split
 ·rename_i gA;rw[h];generalize xs.filter (j7 d)=bp
  match bp with
  |[]=>
   rw[aP.fold_eq];rcases gA with e | e;·rw[show d.k-4=0 by omega];exact(bw.apu d (nothing 0).bare e rfl).symm
   ·rw[show d.k-4=1 by omega];exact(bw.apv d (nothing 1).bare e rfl rfl rfl rfl rfl).symm
  |[y]=>exact(bw.one d _ gA).symm| CY::CZ::l=>rw[aP.fold_eq,ag]
 ·rw[aP.fold_eq,ag]
theorem aq9:∀ {T:aP},eT T->(T.fold nR).fold F=T.fold F:=by
 intro T
 induction T using aP.ind with
 |h d ks aQ=>
  intro h;obtain⟨aE,ae⟩:=h.inv;rw[aP.fold_eq,aq8 bw (λx ab=>?_),aP.fold_eq,gj];·congr 1;exact fR λc ao=>aQ c ao (ae c ao)
  ·obtain⟨c,ao,rfl⟩:=c3.1 ab;exact adw (ae c ao)
theorem ara:∀ (T:aP),(∀ d,d.k=4\/d.k=5->∀ xs fe:List α,F d (xs++((T.fX (some d.k)).map (aP.fold F)++fe))=F d (xs++(T.fold F::fe)))/\T.bu.fold F=T.fold F:=by
 intro T
 induction T using aP.ind with
 |h d ks aQ=>
  have flat:∀ (e:al),e.k=4\/e.k=5->∀ (l:List aP),(∀ c∈l,c∈ks)->∀ xs fe:List α,F e (xs++((l.flatMap (aP.fX (some e.k))).map (aP.fold F)++fe))=F e (xs++(l.map (aP.fold F)++fe)):=by
   intro e he l
   induction l with
   |nil=>intro _ xs fe;rfl| cons c l Td=>intro az xs fe;rw[iA,cR,dW,(aQ c (az c (.head _))).1 e he];have:=Td (λx ab=>az x (.tail _ ab)) (xs++[c.fold F]) fe;simpa using this
  have o8:(aP.mk d ks).bu.fold F=(aP.mk d ks).fold F:=by
   show(aP.mk d (ks.flatMap (aP.fX (iu d)))).fold F=_;rw[aP.fold_eq,aP.fold_eq];by_cases gA:d.k=4\/d.k=5;·have e:iu d=some d.k:=b2 gA;have:=flat d gA ks (λc ao=>ao) [] [];rw[e];simpa using this
   ·have e:iu d=none:=bS gA;congr 1;rw[e,Av];rw[Tq (f:=aP.fold F)];refine rG λc ao=>?_;have ad:=(aQ c ao).2;cases c with
    |mk d' IY=>
    rw[aP.qM,bS am,sX,ad]
  refine⟨λe he xs fe=>?_,o8⟩;rw[aP.qM];split;·rename_i ae;have ae:d.k=e.k:=e1 ae;rw[flat e he ks (λc ao=>ao),aP.fold_eq];exact(bw.nest e d xs (ks.map (aP.fold F)) fe he ae).symm
  ·rw[sX,o8];rfl
theorem Ts(h:eT T):T.lA.fold F=T.fold F:=(ara bw _).2.trans (aq9 bw h)
end
namespace aN
def go:aN->List Int->Option aN
 |T,[]=>some T| T,i::p=>if 0<=i/\i<(T.sub.length:Int)then(T.sub.getD i.toNat T).go p else none
def o9:aN->List Int->List (Nat×Int)
 |_,[]=>[]| T,i::p=>(T.br,i)::(T.sub.getD i.toNat T).o9 p
end aN
namespace aP
def go:aP->List Int->Option aP
 |T,[]=>some T| T,i::p=>if 0<=i/\i<(T.sub.length:Int)then(T.sub.getD i.toNat T).go p else none
def put:aP->List Int->aP->aP
 |_,[],X=>X| T,i::p,X=>.mk T.d (T.sub.set i.toNat ((T.sub.getD i.toNat T).put p X))
end aP
def ady(ns:List al)(T:aN):(T.bare ns).sub=T.sub.map (aN.bare ns):=by
 cases T with
 |mk k ks=>
 rw[aN.nc];rfl
def getD_map{β:Type}(f:α->β)(l:List α)(i:Nat)(a:α):(l.map f).getD i (f a)=f (l.getD i a):=by rw[bT,bT,jJ];cases l[i]?<;>rfl
def bare_go(ns:List al):∀ (p:List Int) (T:aN),(T.bare ns).go p=(T.go p).map (aN.bare ns)
 |[],T=>rfl
 |i::p,T=>by
  rw[aP.go,aN.go,ady,bB];split;·rw[getD_map,bare_go ns p]
  ·rfl
def cB.getD{T:aN}(h:cB ns T)(i:Nat):cB ns (T.sub.getD i T):=by
 rw[bT];cases e:T.sub[i]? with
 |none=>exact h| some c=>exact h.AE c (r7 e)
def cB.go{ns:List al}:∀ (p:List Int) {T:aN},cB ns T->∀ {S},T.go p=some S->cB ns S
 |[],T,h,S,e=>by obtain rfl:=e1 e;exact h
 |i::p,T,h,S,e=>by
  rw[aN.go]at e;split at e;·exact cB.go p (h.getD _) e
  ·cases e
structure l1(ds:List al)(I3:List Nat):Prop where
 wd:rY ds I3
 all:∀ j,j<ds.length->(j:Int)∈eI ds\/j∈I3
def l1.perm{ds:List al}{a b:List Nat}(h:l1 ds a)(aI:a.Perm b):l1 ds b:=⟨h.wd.perm aI,λj ah=>(h.all j ah).imp id λh=>aI.mem_iff.1 h⟩
def l1.add{ds:List al}{l bm:List Nat}(h:l1 ds (l++bm)){x:al}(ab:Go.V.fits x l.length=true)(ae:x.ap=l.map Int.ofNat):l1 (ds++[x]) (ds.length::bm):=by
 refine⟨h.wd.add (by rw[ae,bB];exact ab) (by rw[ae];exact .refl _),λj ah=>?_⟩;have fk:eI (ds++[x])=eI ds++l.map Int.ofNat:=by rw[M2,<-ae];simp[eI]
 rw[cn,oV]at ah;rw[fk,c1];by_cases e:j=ds.length
 ·exact .inr (by rw[e];exact .head _)
 ·rcases h.all j Z with aa | aa
  ·exact .inl (.inl aa)
  ·rcases c1.1 aa with aa | aa
   ·exact .inl (.inr (c3.2 ⟨j,aa,rfl⟩))
   ·exact .inr (.tail _ aa)
def l1.nil:l1 [] []:=⟨⟨(λd ai=>qr),λj h=>absurd h (m6 _),List.Pairwise.nil,(λk ae=>ap'),.nil⟩,λj h=>absurd h (m6 _)⟩
def l1.right{ds:List al}(h:l1 ds [r])(aC:t.ns=ds)(af:t.bx=(r:Int)):g8 t:=by
 subst aC;obtain⟨aa,ad⟩:=h.wd.gP r (.head _);refine⟨by rw[af];omega,λj ah=>h.wd.fits _ (bK ah),h.wd.ap,h.wd.diff,λj ah=>?_⟩;rw[af];constructor
 ·intro hm e;obtain rfl:j=r:=by omega
  exact ad hm
 ·intro bz;rcases h.all j ah with aj | aj
  ·exact aj
  ·exact absurd (by rw[eL.1 aj]) bz
def fa(q:List aN)(i:Nat):Nat:=1+((q.take i).flatMap aN.sub).length
structure vI(S:aN)(q:List aN)(i:Nat):Prop where
 hi:i<=q.length
 eq:q=S::(q.take i).flatMap aN.sub
 lt:∀ j,j<i->j<fa q j
 pm:S.cX.Perm ((q.take i).map aN.br++(q.drop i).flatMap aN.cX)
def vI.start(S:aN):vI S [S] 0:=⟨dQ _,rfl,(λj h=>absurd h (m6 _)),am⟩
def vI.len{i:Nat}(h:vI S q i):i+ho (q.drop i)=S.cX.length/\q.length<=S.cX.length:=by have aa:=h.pm.length_eq;have ad:=h.hi;have aj:=AG (q.drop i);rw[cn,bB,fT,x']at aa;rw[py]at aj;unfold ho at aj |-;omega
def vI.step{i:Nat}(h:vI S q i)(hi:i<q.length):vI S (q++q[i].sub) (i+1):=by
 have mP:(q++q[i].sub).take (i+1)=q.take i++[q[i]]:=by rw[Bo Z,gk hi]
 have ID:∀ j,j<=i->fa (q++q[i].sub) j=fa q j:=λj ah=>by unfold fa;rw[Bo Z]
 refine⟨aza,?_,λj ah=>?_,?_⟩
 ·rw[mP,fS,oN]
  conv=>lhs;lhs;rw[h.eq]
  rfl
 ·rw[ID j Z];by_cases e:j=i
  ·subst e;have:=congrArg List.length h.eq;rw[ep]at this;unfold fa;omega
  ·exact h.lt j Z
 ·rw[mP];refine h.pm.trans ?_;have aK:q.drop i=q[i]::q.drop (i+1):=e2 hi;have ba:(q++q[i].sub).drop (i+1)=q.drop (i+1)++q[i].sub:=by rw[PQ Z]
  have cA:q[i].cX=q[i].sub.flatMap aN.cX++[q[i].br]:=by
   cases q[i]with
   |mk k ks=>exact aN.mw k ks
  rw[aK,ba,iA,cA,cR,fS,sX,dW,dW];refine SK _ ?_;have aa:=eN (l₁:=q[i].sub.flatMap aN.cX) (l₂:=[q[i].br]++(q.drop (i+1)).flatMap aN.cX);simpa using aa
def vI.done(h:vI S q q.length):q=S::q.flatMap aN.sub/\(∀ j,j<q.length->j<fa q j)/\q.length=S.cX.length:=by
 obtain⟨aa,ad⟩:=h.len;refine⟨?_,h.lt,?_⟩
 ·have:=h.eq;rwa [Dx]at this
 ·rw[List.drop_length]at aa;simpa[ho]using aa
def adz{i:Nat}(hi:i<q.length):fa q (i+1)=fa q i+q[i].sub.length:=by unfold fa;rw[gk hi,fS,cn,oN];omega
def adA(h:q=S::q.flatMap aN.sub):fa q q.length=q.length:=by unfold fa;rw[Dx];have:=congrArg List.length h;rw[ep]at this;omega
def adB(h:q=S::q.flatMap aN.sub){i:Nat}(hi:i<q.length)(ah:j<q[i].sub.length):q[fa q i+j]?=some q[i].sub[j]:=by
 have e:q.flatMap aN.sub=(q.take i).flatMap aN.sub++(q[i].sub++(q.drop (i+1)).flatMap aN.sub):=by
  conv=>lhs;rw[<-px i q,e2 hi]
  rw[fS,iA]
 have aa:q[fa q i+j]?=(S::q.flatMap aN.sub)[fa q i+j]?:=congrArg (λl:List aN=>l[fa q i+j]?) h;rw[aa];unfold fa;rw[show 1+((q.take i).flatMap aN.sub).length+j=(((q.take i).flatMap aN.sub).length+j)+1 by omega,F3,e,lO Z,show((q.take i).flatMap aN.sub).length+j-((q.take i).flatMap aN.sub).length=j by omega,sr ah,dy ah]
structure xe(ns:List al)(dJ:Nat)(qP:List Nat)(q:List aN)(i:Nat)(dZ:List al):Prop where
 hi:i<=q.length
 len:dZ.length=dJ+(q.length-i)
 Es:l1 dZ ((List.range (fa q i-i)).map (λz=>dJ+q.length-1-(i+z))++qP)
 jv:∀ p,i<=p->(h:p<q.length)->∃ T:aN,T.br=dJ+q.length-1-p/\cB dZ T/\T.bare dZ=q[p].bare ns
def xe.start(h:q=S::q.flatMap aN.sub)(aw:l1 dZ qP):xe ns dZ.length qP q q.length dZ:=by refine⟨cc _,Z,?_,λp aa ad=>absurd ad Z⟩;rw[adA h,mh];exact aw
def xe.step{dJ:Nat}{i:Nat}(aO:q=S::q.flatMap aN.sub)(a1:∀ j,j<q.length->j<fa q j)(h:xe ns dJ qP q (i+1) dZ)(eS:cB ns (q[i]'(by have:=h.hi;omega)))(aE:∀ d∈ns,fits d d.ap.length=true){x:al}(kg:x.bare=(nodeAt ns (q[i]'(by have:=h.hi;omega)).br).bare)(AK:x.ap=(List.range (fa q (i+1)-fa q i)).map λz=>((dJ+q.length-1-(fa q i+z):Nat):Int)) :
  xe ns dJ qP q i (dZ++[x]):=by
 have hi:i<q.length:=by have:=h.hi;omega
 have av:=adz hi;have ax6:=a1 i hi;have jF:=h.len;have kA:∀ j,j<q[i].sub.length->fa q i+j<q.length:=λj ah=>by have:=adB aO hi ah;exact(iP.1 this).1
 have e6:dZ.length=dJ+q.length-1-i:=by omega
 refine⟨Z,by rw[cn,oV];omega,?_,λp Cn nN=>?_⟩
 ·have gY:fa q (i+1)-fa q i=q[i].sub.length:=by omega
  have az:((List.range (fa q (i+1)-(i+1))).map (λz=>dJ+q.length-1-(i+1+z))++qP).Perm ((List.range q[i].sub.length).map (λz=>dJ+q.length-1-(fa q i+z))++((List.range (fa q i-(i+1))).map (λz=>dJ+q.length-1-(i+1+z))++qP)):=by
   rw[<-dW];refine List.Perm.append_right _ ?_;have e:fa q (i+1)-(i+1)=(fa q i-(i+1))+q[i].sub.length:=by omega
   rw[e,List.range_add,cR,gj];refine eN.trans (List.Perm.append_right _ ?_);refine List.Perm.of_eq (fR λz bg=>?_);show dJ+q.length-1-(i+1+(fa q i-(i+1)+z))=_;omega
  have arb:Go.V.fits x ((List.range q[i].sub.length).map (λz=>dJ+q.length-1-(fa q i+z))).length=true:=by
   rw[bB,wR];have aa:=aE _ (bK eS.nb);rw[<-gr eS.nb,eS.AD]at aa;unfold eX at aa;rw[bB]at aa;have ad:Go.V.fits x.bare (q[i].sub.length:Nat)=true:=by rw[kg];exact aa
   exact ad
  have aw:=(h.Es.perm az).add (x:=x) arb (by rw[AK,gY,gj];rfl);refine aw.perm ?_;rw[e6];have e:fa q i-i=(fa q i-(i+1))+1:=by omega
  rw[e,List.range_succ_eq_map,b0,gj,pz];refine List.Perm.of_eq ?_;congr 1;congr 1;refine fR λz bg=>?_;show _=dJ+q.length-1-(i+(z+1));omega
 ·by_cases e:p=i
  ·subst e;obtain⟨ks,tz,eU⟩:=IX (R:=λ(z:Nat) (T:aN)=>T.br=dJ+q.length-1-(fa q p+z)/\cB dZ T/\∃ bg:z<q[p].sub.length,T.bare dZ=q[p].sub[z].bare ns) (l:=List.range q[p].sub.length) λz bg=>by have bg:z<q[p].sub.length:=j9.1 bg;have ag:=kA z bg;obtain⟨T,aa,ad,aj⟩:=h.jv (fa q p+z) Z ag;refine⟨T,aa,ad,bg,?_⟩;have aJ:=adB aO hi bg;rw[dy ag]at aJ;rw[aj,e1 aJ]
   rw[wR]at tz;have eH:∀ c∈ks,cB dZ c:=λc ao=>by obtain⟨z,bg,rfl⟩:=iI ao;exact(eU z (by simpa using by omega) bg).2.1
   refine⟨.mk dZ.length ks,by show dZ.length=_;omega,.mk am ?_ λc ao=>(eH c ao).app _,?_⟩;·rw[Fv,AK];refine oA d4 λz bg gL=>?_;rw[gh,gh,wy];have:=(eU z (by simpa using by simpa[tz]using gL) (by simpa using gL)).1;rw[wy]at this;omega
   ·rw[aN.nc,Fv,kg];have zO:q[p].bare ns=.mk (nodeAt ns q[p].br).bare (q[p].sub.map (aN.bare ns)):=by
     cases q[p]with
     |mk k l=>exact aN.nc ns k l
    rw[zO];congr 1;refine oA (by simp[tz]) λz bg gL=>?_;rw[gh,gh];have u2:z<ks.length:=by simpa using bg
    obtain⟨-,bh,ax7,bW⟩:=eU z (by simpa using by omega) u2;simp only[wy]at bW;rw[aN.CS dZ (eH _ (bK u2)),bW]
  ·obtain⟨T,aa,ad,aj⟩:=h.jv p Z nN;exact⟨T,aa,ad.app _,by rw[aN.CS dZ ad];exact aj⟩
def xe.done{dJ:Nat}(aO:q=S::q.flatMap aN.sub)(h:xe ns dJ qP q 0 dZ):l1 dZ ((dZ.length-1)::qP)/\∃ T:aN,T.br=dZ.length-1/\cB dZ T/\T.bare dZ=S.bare ns:=by
 have az:=h.len;have ax:0<q.length:=by rw[aO];simp
 refine⟨?_,?_⟩
 ·have aw:=h.Es;have e:fa q 0-0=1:=by unfold fa;simp
  rw[e]at aw;have ba:dJ+q.length-1-(0+0)=dZ.length-1:=by omega
  simpa[ba,az]using aw
 ·obtain⟨T,aa,ad,aj⟩:=h.jv 0 (cc _) ax;refine⟨T,Z,ad,?_⟩;rw[aj];congr 1;have:=congrArg (λl:List aN=>l[0]?) aO;rw[dy ax]at this;exact e1 this
def jR:a3:=⟨⟨#[]⟩,⟨[],none,0,0,0⟩⟩
def adC:∀ (ds ds':List a3) (a5:List (ByteArray×Int)) (i:Nat),ds.map a3.name=ds'.map a3.name->n7 a5 i ds=n7 a5 i ds'
 |[],[],_,_,_=>rfl| [],_::_,_,_,h=>by simp at h
 |_::_,[],_,_,h=>by simp at h
 |d::ds,d'::ds',a5,i,h=>by rw[b0,b0,zA]at h;rw[n7,n7,h.1,adC ds ds' _ _ h.2]
def eE(ds:List a3)(u:Nat)(y:bs):List a3:=ds.set u ⟨(ds.getD u jR).name,y⟩
def rZ(ds:List a3)(u:Nat)(y:bs):(eE ds u y).length=ds.length:=by simp[eE]
def adD(ds:List a3)(u:Nat)(y:bs):(eE ds u y).map a3.name=ds.map a3.name:=by
 unfold eE;rw[ri];refine Bq λi=>?_;rw[iB];split
 ·rename_i h;subst h;rw[bB,jJ];by_cases h:u<ds.length
  ·simp[h,bT]
  ·simp[h]
 ·rfl
def Tt(ds:List a3)(u:Nat)(y:bs):bM (eE ds u y)=bM ds:=adC _ _ _ _ (adD ds u y)
def Tu{ds:List a3}{i:Nat}(h:i≠u):(eE ds u y)[i]?=ds[i]?:=by unfold eE;rw[iB,bS (λe=>h e.symm)]
def M4{ds:List a3}(h:u<ds.length):(eE ds u y)[u]?=some ⟨ds[u].name,y⟩:=by unfold eE;rw[iB,b2 rfl,b2 h];simp[bT,h]
def adE{d:a3}(af:right d.t=true):iJ pl F d=(ud pl F d.t).1.1:=(aps af).symm
def adF(af:right t=true):(ud pl F t).1=gu pl F t.ns t.bx:=by obtain⟨g0,hy⟩:=kE af;obtain⟨r,eb⟩:=eh g0;rw[acv,eb,Mg af (r+1) r Z Z]
section
end
inductive qQ:aP->Prop
 |mk{d:al}{ks:List aP}:(d.k=4\/d.k=5->∀ c∈ks,c.d.k≠d.k/\¬ (c.d.k=0/\d.k=4))->(∀ c∈ks,qQ c)->qQ (.mk d ks)
def qQ.inv{d:al}{ks:List aP}(h:qQ (.mk d ks)):(d.k=4\/d.k=5->∀ c∈ks,c.d.k≠d.k/\¬ (c.d.k=0/\d.k=4))/\∀ c∈ks,qQ c:=by
 cases h with
 |mk aa ad=>exact⟨aa,ad⟩
inductive xf:aP->Prop
 |mk{d:al}{ks:List aP}:(d.k=4->∀ c∈ks,c.d.k≠0)->(∀ c∈ks,xf c)->xf (.mk d ks)
def xf.inv{d:al}{ks:List aP}(h:xf (.mk d ks)):(d.k=4->∀ c∈ks,c.d.k≠0)/\∀ c∈ks,xf c:=by
 cases h with
 |mk aa ad=>exact⟨aa,ad⟩
def arc{d:al}{x:aP}(h:j7 d x=true)(aJ:d.k=4):x.d.k≠0:=by unfold j7 at h;intro ax;rw[gy aJ,gy ax]at h;cases h
def ard{d:al}{xs:List aP}(ab:∀ x∈xs,xf x):xf (nR d xs):=by
 rw[I7];split
 ·have av:∀ y∈xs.filter (j7 d),xf y/\(d.k=4->y.d.k≠0):=λy aG=>⟨ab y (nV.1 aG).1,arc (nV.1 aG).2⟩;generalize xs.filter (j7 d)=bp at av
  match bp,av with
  |[],_=>exact .mk (λ_ c ao=>by cases ao) λc ao=>by cases ao
  |[y],av=>exact(av y (.head _)).1| CY::CZ::l,av=>exact .mk (λaJ c ao=>(av c ao).2 aJ) λc ao=>(av c ao).1
 ·rename_i gA;exact .mk (λaJ=>absurd (.inl aJ) gA) ab
def are:∀ (T:aP),xf (T.fold nR):=by
 intro T
 induction T using aP.ind with
 |h d ks aQ=>rw[aP.fold_eq];refine ard λx ab=>?_;obtain⟨c,ao,rfl⟩:=c3.1 ab;exact aQ c ao
def arf:∀ {T:aP},xf T->qQ T.bu/\∀ cb,∀ U∈T.fX cb,qQ U/\some U.d.k≠cb/\(cb=some 4->T.d.k≠0->U.d.k≠0):=by
 intro T
 induction T using aP.ind with
 |h d ks aQ=>
  intro h;obtain⟨ax,ae⟩:=h.inv;have o8:qQ (aP.mk d ks).bu:=by
   show qQ (.mk d (ks.flatMap (aP.fX (iu d))));refine .mk (λgA U eK=>?_) λU eK=>?_;·obtain⟨c,ao,eK⟩:=hl.1 eK;have e:iu d=some d.k:=b2 gA;rw[e]at eK;obtain⟨-,ad,aj⟩:=(aQ c ao (ae c ao)).2 _ U eK;exact⟨λe=>ad (by rw[e]),λe=>aj (by rw[e.2]) (ax e.2 c ao) e.1⟩
   ·obtain⟨c,ao,eK⟩:=hl.1 eK;exact((aQ c ao (ae c ao)).2 _ U eK).1
  refine⟨o8,λcb U eK=>?_⟩;rw[aP.qM]at eK;split at eK;·rename_i e;obtain⟨c,ao,eK⟩:=hl.1 eK;obtain⟨aa,ad,aj⟩:=(aQ c ao (ae c ao)).2 _ U eK;refine⟨aa,ad,λee bz=>aj ee (ax ?_ c ao)⟩;rw[ee]at e;exact e1 e
  ·rename_i e;rw[eL.1 eK];exact⟨o8,e,λ_ bz=>bz⟩
def arh(T:aP):qQ T.lA:=(arf (are T)).1
def ari{j:Int}(h:j∈eI ns):∃ p,∃ aI:p<ns.length,j∈ns[p].ap:=by unfold eI at h;obtain⟨d,ai,ah⟩:=hl.1 h;obtain⟨p,aI,rfl⟩:=iI ai;exact⟨p,aI,ah⟩
def g8.down(h:g8 t){P:Nat->Prop}(ax:∀ r:Nat,t.bx=(r:Int)->P r)(step:∀ p (aI:p<t.ns.length),P p->∀ j:Nat,(j:Int)∈t.ns[p].ap->P j):∀ m j,j<t.ns.length->t.ns.length-j<=m->P j
 |0,j,ah,hm=>absurd hm Z
 |m+1,j,ah,hm=>by
  by_cases e:(j:Int)=t.bx;·exact ax j e.symm
  ·obtain⟨p,aI,vF⟩:=ari ((h.all j ah).2 e);have:=h.ap p aI _ vF;exact step p aI (h.down ax step m p aI Z) j vF
def yP(af:right t=true)(ah:j<t.ns.length):fm t.ns j=.mk t.ns[j].bare (t.ns[j].ap.map (fm t.ns)):=
 DF (λd g ei h=>by rw[fR h]) af ah
def adG(af:right t=true){j:Int}(ax:0<=j)(aa:j<t.ns.length):(fm t.ns j).d.k=iq t.ns j:=by
 obtain⟨q,rfl⟩:=eh ax;have aO:q<t.ns.length:=by omega
 rw[yP af aO];show t.ns[q].k=_;simp[iq,bT,aO]
def Tv{ns:List al}{kind:Int}:∀ {ks:List Int},kh ns kind ks=true ↔ ∀ k∈ks,iq ns k≠kind/\¬ (iq ns k=0/\kind=4)
 |[]=>by simp[kh]
 |k::ks=>by
  have aQ:=Tv (ns:=ns) (kind:=kind) (ks:=ks);rw[kh];constructor
  ·intro h;cases ag:decide (iq ns k=kind)||(decide (iq ns k=0)&&decide (kind=4))with
   |true=>rw[ag]at h;cases h
   |false=>
    rw[ag]at h;intro x ab;rcases er.1 ab with rfl | ab;·simp only[tk,Bool.and_eq_false_iff,ss]at ag;exact⟨ag.1,λe=>ag.2.elim (λh=>h e.1) λh=>h e.2⟩
    ·exact aQ.1 h x ab
  ·intro h;have aa:=h k (.head _);have ag:(decide (iq ns k=kind)||(decide (iq ns k=0)&&decide (kind=4)))=false:=by rw[e8 aa.1,yY,<-I5];exact e8 aa.2
   rw[ag];exact aQ.2 λx ab=>h x (.tail _ ab)
def adH{ns:List al}:∀ {l:List al},kJ ns l=true ↔ ∀ d∈l,d.k=4\/d.k=5->∀ k∈d.ap,iq ns k≠d.k/\¬ (iq ns k=0/\d.k=4)
 |[]=>by simp[kJ]
 |d::l=>by
  have aQ:=adH (ns:=ns) (l:=l);rw[kJ];by_cases gA:d.k=4\/d.k=5
  ·have ag:(!decide (d.k=4) && !decide (d.k=5))=false:=by
    rcases gA with e | e<;>simp[e]
   rw[ag,cD];constructor
   ·intro h;cases ae:kh ns d.k d.ap with
    |false=>rw[ae]at h;cases h
    |true=>
     rw[ae]at h;intro x ab;rcases er.1 ab with rfl | ab;·exact λ_=>Tv.1 ae
     ·exact aQ.1 h x ab
   ·intro h;rw[Tv.2 (h d (.head _) gA)];exact aQ.2 λx ab=>h x (.tail _ ab)
  ·have ag:(!decide (d.k=4) && !decide (d.k=5))=true:=by rw[e8 λe=>gA (.inl e),e8 λe=>gA (.inr e)];rfl
   rw[ag,cF,aQ];constructor
   ·intro h x ab;rcases er.1 ab with rfl | ab
    ·exact λe=>absurd e gA
    ·exact h x ab
   ·exact λh x ab=>h x (.tail _ ab)
def Tw:normal t=true ↔ right t=true/\qQ (bV t):=by
 unfold normal;rw[cC];refine and_congr_right λaf=>?_;have aM:=jd.1 af;rw[adH];constructor
 ·intro h;have key:∀ m j,j<m->j<t.ns.length->qQ (fm t.ns j):=by
   intro m
   induction m with
   |zero=>exact λj h=>absurd h (m6 _)
   |succ m aQ=>
    intro j abg ah;rw[yP af ah];refine .mk (λgA c ao=>?_) λc ao=>?_;·obtain⟨k,ae,rfl⟩:=c3.1 ao;have e5:=aM.ap j ah k ae;rw[adG af e5.1 Z];exact h _ (bK ah) gA k ae
    ·obtain⟨k,ae,rfl⟩:=c3.1 ao;have e5:=aM.ap j ah k ae;obtain⟨q,rfl⟩:=eh e5.1;exact aQ q Z Z
  obtain⟨g0,hy⟩:=aM.bx;obtain⟨r,eb⟩:=eh g0;unfold bV;rw[eb];exact key _ r (A1 _) Z
 ·intro h;have key:∀ j,j<t.ns.length->qQ (fm t.ns j):=λj ah=>aM.down (P:=λj=>qQ (fm t.ns j)) (λr eb=>by rw[<-eb];exact h) (λp aI qA j vF=>am') _ j ah (cc _);intro d ai gA k ae;obtain⟨j,ah,rfl⟩:=iI ai;have aa:=key j ah;rw[yP af ah]at aa;have ad:=aa.inv.1 gA _ (xd ae);have e5:=aM.ap j ah k ae;rw[adG af e5.1 Z]at ad;exact ad
inductive h2(P:al->Prop):aP->Prop
 |mk{d:al}{ks:List aP}:P d->(∀ c∈ks,h2 P c)->h2 P (.mk d ks)
def h2.inv{P:al->Prop}{d:al}{ks:List aP}(h:h2 P (.mk d ks)):P d/\∀ c∈ks,h2 P c:=by
 cases h with
 |mk aa ad=>exact⟨aa,ad⟩
section
variable{P:al->Prop}
def adI(af:right t=true):h2 P (bV t) ↔ ∀ d∈t.ns,P d.bare:=by
 have aM:=jd.1 af;constructor
 ·intro h d ai;obtain⟨j,ah,rfl⟩:=iI ai;have aa:=aM.down (P:=λj=>h2 P (fm t.ns j)) (λr eb=>by rw[<-eb];exact h) (λp aI qA j vF=>am') _ j ah (cc _);rw[yP af ah]at aa;exact aa.inv.1
 ·intro h;have key:∀ m j,j<m->j<t.ns.length->h2 P (fm t.ns j):=by
   intro m
   induction m with
   |zero=>exact λj h=>absurd h (m6 _)
   |succ m aQ=>intro j abg ah;rw[yP af ah];refine .mk (h _ (bK ah)) λc ao=>?_;obtain⟨k,ae,rfl⟩:=c3.1 ao;have e5:=aM.ap j ah k ae;obtain⟨q,rfl⟩:=eh e5.1;exact aQ q Z Z
  obtain⟨g0,hy⟩:=aM.bx;obtain⟨r,eb⟩:=eh g0;unfold bV;rw[eb];exact key _ r (A1 _) Z
def arj(ag:∀ d,P d->P d.bare)(ax:P (nothing 0).bare)(aa:P (nothing 1).bare):∀ {T:aP},h2 P T->h2 P (T.fold nR):=by
 intro T
 induction T using aP.ind with
 |h d ks aQ=>
  intro h;obtain⟨ai,ae⟩:=h.inv;rw[aP.fold_eq,I7];have ab:∀ x∈ks.map (aP.fold nR),h2 P x:=λx ab=>by obtain⟨c,ao,rfl⟩:=c3.1 ab;exact aQ c ao (ae c ao)
  split
  ·rename_i gA;have av:∀ y∈(ks.map (aP.fold nR)).filter (j7 d),h2 P y:=λy aG=>ab y (nV.1 aG).1;generalize(ks.map (aP.fold nR)).filter (j7 d)=bp at av
   match bp,av with
   |[],_=>
    refine .mk ?_ λc ao=>by cases ao
    rcases gA with e | e;·rw[show d.k-4=0 by omega];exact ax
    ·rw[show d.k-4=1 by omega];exact aa
   |[y],av=>exact av y (.head _)| CY::CZ::l,av=>exact .mk (ag _ ai) av
  ·exact .mk (ag _ ai) ab
def ark:∀ {T:aP},h2 P T->(∀ cb,∀ U∈T.fX cb,h2 P U)/\h2 P T.bu:=by
 intro T
 induction T using aP.ind with
 |h d ks aQ=>
  intro h;obtain⟨aE,ae⟩:=h.inv;have o8:h2 P (aP.mk d ks).bu:=by show h2 P (.mk d (ks.flatMap (aP.fX (iu d))));refine .mk aE λU eK=>?_;obtain⟨c,ao,eK⟩:=hl.1 eK;exact(aQ c ao (ae c ao)).1 _ U eK
  refine⟨λcb U eK=>?_,o8⟩;rw[aP.qM]at eK;split at eK;·obtain⟨c,ao,eK⟩:=hl.1 eK;exact(aQ c ao (ae c ao)).1 _ U eK
  ·rw[eL.1 eK];exact o8
def Tx(ag:∀ d,P d->P d.bare)(ax:P (nothing 0).bare)(aa:P (nothing 1).bare)(h:h2 P T):h2 P T.lA:=(ark (arj ag ax aa h)).2
def adJ{X:aP}(hB:h2 P X):∀ (p:List Int) {T:aP},h2 P T->h2 P (T.put p X)
 |[],T,h=>hB
 |i::p,.mk d ks,h=>by
  obtain⟨ai,ae⟩:=h.inv;rw[aP.put];show h2 P (aP.mk d (ks.set i.toNat ((ks.getD i.toNat (.mk d ks)).put p X)));refine .mk ai λc ao=>?_;rcases w0 ao with ao | rfl;·exact ae c ao
  ·refine adJ hB p ?_;rw[bT];cases e:ks[i.toNat]? with
   |none=>exact h| some c=>exact ae c (r7 e)
end
def Ty(nm:ByteArray):∀ (ds ds':List a3) (i:Nat),ds.map a3.name=ds'.map a3.name->eO nm ds i=eO nm ds' i
 |[],[],_,_=>rfl| [],_::_,_,h=>by simp at h
 |_::_,[],_,h=>by simp at h
 |d::ds,d'::ds',i,h=>by rw[b0,b0,zA]at h;rw[eO,eO,h.1,Ty nm ds ds' _ h.2]
def AL(ds:List a3)(d:al):Prop:=d.k=3->0<=eO d.t ds 0
def arl(ic:g.ds.length=g.n)(hm:dO ay g=0)(hu:u<g.ds.length)(aG:normal y=true)(aC:∀ d∈y.ns,AL g.ds d)(uf:h.n=g.n)(ao:h.ds.map a3.aW=(eE g.ds u y).map a3.aW) :
  dO ay h=0\/dO ay h=40:=by
 have aK:dO ay h=dO ay (ly (eE g.ds u y)):=by rw[<-B9,<-B9 ay (ly _)];congr 1;unfold cE.aW ly;rw[ao,uf,rZ,ic]
 rw[aK];obtain⟨aa,ad,aj,aJ,bD⟩:=IS.1 hm;have az:=rZ g.ds u y;have nn:=adD g.ds u y;have ka:∀ d∈eE g.ds u y,d∈g.ds\/d=⟨g.ds[u].name,y⟩:=λd ai=>by
  obtain⟨i,hi,rfl⟩:=iI ai;by_cases e:i=u;·subst e;have aj:=M4 (y:=y) hu;rw[dy hi]at aj;exact .inr (e1 aj)
  ·have aj:=Tu (ds:=g.ds) (y:=y) e;rw[dy hi,dy Z]at aj;rw[e1 aj];exact .inl (bK _)
 have bf:=fN.1 ad;have r0:n6 (eE g.ds u y)=true:=fN.2 λd ai=>by
  rcases ka d ai with h | rfl;·exact bf d h
  ·have:=bf _ (bK hu);rw[cC]at this |-;exact⟨this.1,aG⟩
 have eR:(List.range (eE g.ds u y).length).all (pT (eE g.ds u y))=true:=fN.2 λi hi=>by
  rw[j9,az]at hi;have cG:=aJ i hi;unfold pT at cG |-;have ba:((eE g.ds u y)[i]' Z).name=g.ds[i].name:=by
   have eZ:((eE g.ds u y).map a3.name)[i]?=(g.ds.map a3.name)[i]?:=by rw[nn]
   rw[jJ,jJ,dy Z,dy hi]at eZ;exact e1 eZ
  rw[dy hi]at cG;rw[dy Z];show decide (eO ((eE g.ds u y)[i]' Z).name _ 0=_)=true;rw[ba,Ty _ _ _ _ nn];exact cG
 have fy:((eE g.ds u y).all λd=>d.t.ns.all (yx (eE g.ds u y)))=true:=fN.2 λd ai=>fN.2 λn zc=>by
  unfold yx;rw[Ty _ _ _ _ nn];have:AL g.ds n:=by
   rcases ka d ai with h | rfl;·exact bD d h n zc
   ·exact aC n zc
  by_cases e:n.k=3;·rw[gy (this e),K2]
  ·rw[e8 e];rfl
 rw[<-aba];unfold Ma;have arm:n6 (ly (eE g.ds u y)).ds=true:=r0;have arn:(List.range (ly (eE g.ds u y)).ds.length).all (pT (ly (eE g.ds u y)).ds)=true:=eR;have aro:((ly (eE g.ds u y)).ds.all λd=>d.t.ns.all (yx (ly (eE g.ds u y)).ds))=true:=fy;rw[arm,arn,aro,e8 (by show ¬ (((eE g.ds u y).length:Nat):Int)=0;omega)];cases pJ ay (ly (eE g.ds u y))with
 |true=>exact .inr rfl| false=>exact .inl rfl
def arp(n b:Nat):Value:=.slice (some ⟨b,0,none⟩) n n
def arq(n:Nat)(ch:List Nat):List Value:=ch.map (arp n)++List.replicate (n-ch.length) (.slice none 0 0)
def kS(qp n:Nat)(ch:List Nat):aA:=⟨qp,.cells (arq n ch).toArray 189 (0,0)⟩
section
end
def ug(x:Nat×Int):List Value:=[.int .i64 x.1,.int .i64 x.2]
structure ars(t:bs)(T:aN)(path:List Int)(x:Nat×aT×List (Nat×Int)×aN):Prop where
 hi:x.1<=path.length
 os:x.2.1.ok 2 (x.2.2.1.flatMap ug)
 len:x.2.2.1.length=x.1
 o9:x.2.2.1++x.2.2.2.o9 (path.drop x.1)=T.o9 path
 go:x.2.2.2.go (path.drop x.1)=T.go path
 bl:cB t.ns x.2.2.2
 Iv:x.1+x.2.2.2.br<=T.br
def art(T:aN)(path:List Int)(I:aH)(v:Value)(I':aH)(M':List aA):Prop:=I'=I/\∃ (os:aT) (l:List (Nat×Int)) (k:Nat) (b:Bool),v=.tuple #[os.val,.int .i64 k,.bool b]/\M'=os.ar 296/\os.ok 2 (l.flatMap ug) /\
 match T.go path with
 |none=>b=false| some S=>b=true/\k=S.br/\l=T.o9 path/\l.length<=T.br
def aru(au:t.ok I)(ae:rV t.ns){T:aN}(a6:cB t.ns T)(pB:t.bx=(T.br:Int))(aC:t.n<=1099511627776)(aI:cx I pa pn pc 1 8 (path.map (.int .i64 ·))) :
  Spec Tryz.prog 214 [t.val,.slice pa pn pc] I [] (art T path I):=by
 refine bU [] a0 Tryz.func214 rfl rfl rfl ?_;intro B ax;have g7:=au.n;have rr:path.length=pn:=by have:=aI.len;simpa using this
 have x5:cx I pa pn pc 1 8 (path.flatMap ir):=by rw[og];exact aI
 have arv:=a6.nb;refine du.inv (ι:=Nat×aT×List (Nat×Int)×aN) (λx=>{ bp:=[(2,.ref 2 0),(7,.val x.2.1.val),(8,.val (.int .i64 x.2.2.2.br)),(14,.val (.slice pa pn pc)),(15,.val (.int .i64 pn)),(16,.val (.int .i64 x.1))],cl:=[(2,t.cells)],cO:=I,c5:=x.2.1.ar 296 }) (ars t T path) (λx=>path.length-x.1) ?_ ?_
 ·refine⟨(0,hL,[],T),⟨dQ _,kL 2,rfl,rfl,rfl,a6,ce⟩,.refl,.cons .refl (.cons .refl (.cons ?_ (fQ))),.cons rfl (.nil)⟩;simp only;rw[<-pB];exact .refl
 rintro⟨i,os,l,S⟩⟨hi,b3,sh,AM,eW,eS,jm⟩;simp only at hi b3 sh AM eW eS jm;have hX:os.n=i:=by have:=b3.len;rw[hc ug 2 (λ_=>rfl),sh]at this;omega
 have pX:=eS.nb;refine aZ.mk (λh=>?_) (λh=>?_)
 ·have a1:i<path.length:=by have:(i:Int)<(pn:Int):=cT h;omega
  have kS:path.drop i=path[i]::path.drop (i+1):=e2 a1;rw[kS]at AM eW;obtain⟨arw,adk,nS⟩:=x5.row (f:=ir) (λ_=>rfl) (j:=i) Z a1;obtain⟨mW,mX,jn⟩:=au.bb.row al.cL (j:=S.br) Z pX;have ai:=au.ns _ (bK pX);have eH:=eS.AD;rw[gr pX]at eH;generalize t.ns[S.br]=d at ai jn eH;have fh:=ai.aF;have c4:d.ap.length=S.sub.length:=by rw[eH];simp[eX]
  generalize sq:path[i]=kid at nS AM eW;refine bt.mk arw i adk rfl Z ?_;refine aU.mk _ (nS _) ?_;refine bt.mk mW S.br mX rfl Z ?_;refine aU.mk _ ((jn _).part (k:=8) (m:=1) bv) ?_;refine b5.mk (λaJ=>?_) (λaJ=>?_)
  ·have arx:0<=kid:=by have:¬ kid<0:=dU aJ;omega
   refine aZ.mk (λbD=>?_) (λbD=>?_);·have cV:(d.aF:Int)<=kid:=cT bD;refine⟨_,_,.sub (fs _) .refl,rfl,hL,[],0,false,rfl,rfl,kL 2,?_⟩;rw[<-eW,aN.go,bS Z]
   ·have adK:kid<(d.aF:Int):=by have:¬ (d.aF:Int)<=kid:=dU bD;omega
    obtain⟨z,rfl⟩:=eh arx;have bg:z<S.sub.length:=by omega
    have qo:S.sub.getD z S=S.sub[z]:=by simp[bT,bg]
    rw[aN.go,b2 Z,hC,qo]at eW;rw[aN.o9,hC,qo]at AM;have ary:d.ap[z]' Z=((S.sub[z]).br:Int):=by
     have:d.ap[z]?=(eX S.sub)[z]?:=by rw[eH]
     rw[dy Z]at this;unfold eX at this;rw[jJ,dy bg]at this;exact e1 this
    have MT:(S.sub[z]).br<S.br:=by
     cases S with
     |mk k ks=>exact eS.S7 ae (bK bg)
    have CV:cx I d.ca d.aF d.cr 1 8 (d.ap.flatMap ir):=by rw[og];exact ai.bb
    obtain⟨gn,fk,fc⟩:=CV.row (f:=ir) (λ_=>rfl) (j:=z) Z Z;rw[ary]at fc;refine bQ.mk λb9 mU ue=>?_;refine bC.lU a0 rfl am (e:=296) rfl rfl rfl os b3 rfl (cs:=[.int .i64 S.br,.int .i64 z]) rfl rfl rfl [] [] (by simp;rfl) Z (by show(os.n+1)*16<=_;omega) ?_;intro ig aa ad aj;refine bt.mk gn z fk rfl Z ?_;refine aU.mk _ (fc _) ?_;refine be.mk _ (c9 (i:=i) Z) ?_;refine⟨(i+1,ig,l++[(S.br,(z:Int))],S.sub[z]),⟨⟨a1,?_,by simp[sh],?_,eW,eS.AE _ (bK bg),ce⟩,ce⟩,.m1 am,y7,.cons rfl (.nil)⟩;·rw[fS];exact aj
    ·rw[dW];exact AM
  ·have ax8:kid<0:=cT aJ;refine⟨_,_,.sub (fs _) .refl,rfl,hL,[],0,false,rfl,rfl,kL 2,?_⟩;rw[<-eW,aN.go,bS Z]
 ·have cV:i=path.length:=by have:¬ (i:Int)<(pn:Int):=dU h;omega
  subst cV;rw[List.drop_length]at AM eW;refine⟨_,_,.refl,rfl,os,l,S.br,true,rfl,rfl,b3,?_⟩;rw[<-eW];rw[aN.o9,dK]at AM;exact⟨rfl,rfl,AM,Z⟩
section
variable{X:cN}{β:Nat->Nat}{a:Act}{w:World}{F:Fr}{C:de}{I:aH}{M:List aA}{o:Oper}{K:fz}
theorem arz(aL:cU X.P X.E){t:Nat}(aD:o.op=.call { callee:=.builtin .append,args:=#[s,x],argTypes:=#[t,u] })(ai:∀ d,o.dst=some d->d<X.n)
  {e:Nat} {me:dH} (au:X.E t=some cS) (dt:cS.bL=.slice e) (hu:X.E u=some me) (fI:∀ k,me.bL≠.int k) (he:X.E e=some aB)
  (os:aT) (bf:os.ok aB.size xs) (av:bG F s=.val os.val)
  {qj:Value} (ab:bG F x=.val qj) (hm:0<m) (az:b8.length=m*aB.size) (aa:fH b8=true)
  (cQ:∀ w',(Builtin.lenOf qj).run X.P w'=.ok m w') (e6:∀ w,eJ I M w->(Builtin.firstCells aB.size m qj).run X.P w=.ok b8.toArray w)
  {Mr:List aA} (bc:M.Perm (os.ar e++Mr)) (b1:os.n+m<=maxLen) (bH:(os.n+m)*aB.bytes<=140737488355328)
  (k:∀ (g c:Nat) (aS:List Value) (J:List aA),I g=none->aS.length=c*aB.size->os.n+m<=c->c<=maxLen->aS.take ((os.n+m)*aB.size)=xs++b8->((os.a=some g/\J=[])\/J=os.ar e) ->
   K (put o.dst (.val (.slice (some ⟨g,0,none⟩) (os.n+m) c)) F) C I (⟨g,.cells aS.toArray e (0,0)⟩::(J++Mr))):bC X o F C I M K:=by
 refine⟨λa w Q ⟨β,h9⟩=>?_⟩;have aM:cM X β a w F C I (os.ar e++Mr):=h9.hT (.perm bc .refl);obtain⟨inf,z,hi,fq,iy,iz,k3⟩:=(aL _ _ he).inf;obtain⟨d,fJ,fj⟩:=(aL _ _ hu).fp;obtain⟨gV,iD,kB⟩:=(aL _ _ au).fp;have oC:gV=.slice e:=by rw[dt]at kB;cases gV<;>simp_all[fo]
 subst oC;have qn:z.cells.size=inf.size:=by rw[fq,<-(aL _ _ he).len,<-k3];simp
 rw[<-fq]at bf az e6;obtain⟨g,c,aS,w',e',a',bh,bW,fu,k9⟩:=OC (P:=X.P) (w:=w) t u o.type e inf z iD fJ (λk c2=>fI k ah') hi iz qn bf (λg aw=>aM.holds.m ⟨g,.cells os.aS.toArray e (0,0)⟩ ol) (x:=qj) hm az (yZ aa) cQ (λw' xP=>e6 w' (h9.holds.heap xP)) b1 aig;rw[fq]at a' fu;have zo:I g=none:=by
  rcases k9 with⟨aw,_⟩ | ⟨rfl,_⟩;·exact aM.holds.d ⟨g,.cells os.aS.toArray e (0,0)⟩ ol
  ·cases bE:I w.heap.size with
   |none=>rfl| some nu=>have:=aM.holds.i _ _ bE;simp at this
 have es:=df aM.an av;have ex:=df aM.an ab;rcases k9 with⟨aw,hw⟩ | ⟨rfl,hw⟩
 ·refine ix f7 (v:=.slice (some ⟨g,0,none⟩) (os.n+m) c) (w':=w') ?_ ⟨_,_,_,_,⟨β,cM.put (x:=.val (.slice (some ⟨g,0,none⟩) (os.n+m) c)) ?_ ai rfl⟩,k g c aS [] zo a' bh bW fu (.inl ⟨aw,rfl⟩)⟩
  ·unfold execOp;simp only[aD,resolve,invoke,builtin,cp,db,bY,rh,b0,hs,es,ex,e']
  ·subst hw;have ag:os.ar e=[⟨g,.cells os.aS.toArray e (0,0)⟩]:=by simp[aT.ar,aw]
   rw[ag]at aM;exact aM.xy (a9:=[]) (post:=Mr) rfl
 ·refine ix f7 (v:=.slice (some ⟨_,0,none⟩) (os.n+m) c) (w':=w') ?_ ⟨_,_,_,_,⟨β,cM.put (x:=.val (.slice (some ⟨_,0,none⟩) (os.n+m) c)) ?_ ai rfl⟩,k _ c aS (os.ar e) zo a' bh bW fu (.inr rfl)⟩
  ·unfold execOp;simp only[aD,resolve,invoke,builtin,cp,db,bY,rh,b0,hs,es,ex,e']
  ·subst hw;have ad:cM X β a w.drew F C I (os.ar e++Mr):=aM.world rfl;exact ad.nX (.cells aS.toArray e (0,0))
def bC.adL(aL:cU X.P X.E){t:Nat}(aD:o.op=.call { callee:=.builtin .append,args:=#[s,x],argTypes:=#[t,t] })(ai:∀ d,o.dst=some d->d<X.n)
  {e:Nat} (au:X.E t=some cS) (dt:cS.bL=.slice e) (he:X.E e=some aB)
  (os:aT) (bf:os.ok aB.size xs) (av:bG F s=.val os.val)
  {b9:Nat} {cs:List Value} (ab:bG F x=.val (.slice (some ⟨b9,0,none⟩) 1 c')) (az:cs.length=aB.size) (aa:fH cs=true)
  (a9 post:List aA) (bc:M=⟨b9,.cells cs.toArray e (0,0)⟩::(a9++(os.ar e++post))) (b1:os.n+1<=9223372036854775807) (bH:(os.n+1)*aB.bytes<=140737488355328)
  (k:∀ (bq:aT) (J:List aA),bq.n=os.n+1->(∀ g,bq.a=some g->I g=none)->bq.ok aB.size (xs++cs)->(∀ g∈(os.ar e).map (·.num),g∈(bq.ar e++J).map (·.num))->K (put o.dst (.val bq.val) F) C I (a9++(bq.ar e++(J++post)))):bC X o F C I M K:=by
 refine .hT (arz aL aD ai au dt au (λk=>by rw[dt];simp) he os bf av ab (m:=1) (b8:=cs) bv (by rw[nt];exact az) aa (λ_=>rfl) (λw hw=>?_) (Mr:=⟨b9,.cells cs.toArray e (0,0)⟩::(a9++post)) ?_ t7 bH ?_)
 ·refine run_firstCells_some (P:=X.P) w aB.size 1 ⟨b9,0,none⟩ 1 c' cs (by rw[nt];exact az) λj v ah=>?_;have ag:w.heap[b9]?=some (.cells cs.toArray e (0,0)):=hw.m ⟨b9,.cells cs.toArray e (0,0)⟩ ayx;rw[eM _ rfl,td ag];simpa using ah
 ·rw[bc];have ad:(⟨b9,.cells cs.toArray e (0,0)⟩::(a9++(os.ar e++post)):List aA).Perm (⟨b9,.cells cs.toArray e (0,0)⟩::(os.ar e++(a9++post))):=.cons _ (xV _ _ _);exact ad.trans mm.symm
 ·intro g c aS J bE eg eV e0 iZ a4;refine⟨I,a9++((⟨some g,os.n+1,c,aS⟩:aT).ar e++(J++post)),.perm (M1:=⟨b9,.cells cs.toArray e (0,0)⟩::(a9++((⟨some g,os.n+1,c,aS⟩:aT).ar e++(J++post)))) ?_ (.sub (.cons _ (.refl _)) .refl),k ⟨some g,os.n+1,c,aS⟩ J rfl (λei aw=>by cases aw;exact bE) ⟨?_,(λh=>ci),λei aw=>?_⟩ λx ab=>?_⟩
  ·have aK:((⟨some g,os.n+1,c,aS⟩:aT).ar e)=[⟨g,.cells aS.toArray e (0,0)⟩]:=rfl;rw[aK];have DK:(⟨g,.cells aS.toArray e (0,0)⟩::(J++(⟨b9,.cells cs.toArray e (0,0)⟩::(a9++post))):List aA).Perm (⟨b9,.cells cs.toArray e (0,0)⟩::(⟨g,.cells aS.toArray e (0,0)⟩::(J++(a9++post)))):=(List.Perm.cons _ mm).trans (List.Perm.swap _ _ _);refine DK.trans (List.Perm.cons _ ?_);have DL:(⟨g,.cells aS.toArray e (0,0)⟩::(J++(a9++post)):List aA).Perm (⟨g,.cells aS.toArray e (0,0)⟩::(a9++(J++post))):=List.Perm.cons _ (xV _ _ _);exact DL.trans mm.symm
  ·rw[cn,bf.len,az,kx,nt]
  ·cases aw;exact⟨eg,eV,e0,iZ⟩
  ·rw[cR,c1];rcases a4 with⟨aa,rfl⟩ | rfl
   ·left
    have:os.ar e=[⟨g,.cells os.aS.toArray e (0,0)⟩]:=by simp[aT.ar,aa]
    rw[this]at ab;simpa[aT.ar]using ab
   ·exact .inr ab
end
structure Ja(ns:List al)(I:aH)(os:aT)(dZ:List al)(J:aH):Prop where
 a4:∀ b o,I b=some o->J b=some o
 os:os.ok 9 (dZ.flatMap al.cells)
 ok:∀ d∈dZ,d.ok J
 a9:∃ m,dZ=ns++m
def yQ(os bq:aT)(iN:List aA):Prop:=∀ g∈(os.ar 88).map (·.num),g∈(bq.ar 88++iN).map (·.num)
def arA(S:aN)(tns ns:List al)(qP:List Nat)(os:aT)(I:aH)(v:Value)(I':aH)(M':List aA):Prop:=
 ∃ (bq:aT) (jh:List al) (iN:List aA),v=.tuple #[bq.val,.int .i64 ((jh.length-1:Nat):Int)]/\M'=bq.ar 88++iN/\yQ os bq iN/\Ja ns I bq jh I'/\l1 jh ((jh.length-1)::qP)/\jh.length=ns.length+S.cX.length/\∃ l8:aN,l8.br=jh.length-1/\cB jh l8/\l8.bare jh=S.bare tns
def FC(dJ len e j:Nat):Int:=((dJ+len-1-(e+j):Nat):Int)
def arB(h:q=S::q.flatMap aN.sub)(i:Nat):fa q i<=q.length:=by
 have aa:=congrArg List.length h;have e:q.flatMap aN.sub=(q.take i).flatMap aN.sub++(q.drop i).flatMap aN.sub:=by rw[<-fS,px]
 rw[ep,e,cn]at aa;unfold fa;omega
structure arC(dJ len e aF:Nat)(y:Nat×List Int):Prop where
 j:y.1<=aF
 L:y.2.length=aF
 eq:y.2.take y.1=(List.range y.1).map (FC dJ len e)
def adM(au:t.ok I)(aE:∀ d∈t.ns,fits d d.ap.length=true)(cy:cB t.ns S)(b3:os.ok 9 (ns.flatMap al.cells))(oe:∀ d∈ns,d.ok I)(aw:l1 ns qP)(ag:ns.length+S.cX.length<=1099511627776) :
  Spec Tryz.prog 215 [os.val,t.val,.int .i64 S.br] I (os.ar 88) (arA S t.ns ns qP os I):=by
 refine xF [] a0 Tryz.func215 rfl rfl rfl ?_;intro B ax;have g7:=au.n;have hX:os.n=ns.length:=by have:=b3.len;rw[hc _ 9 al.cL]at this;omega
 refine bQ.mk λb1 ia MP=>?_;refine du.inv (ι:=Nat×aT×List aN) (λx=>{ bp:=[(0,.val os.val),(4,.ref 4 0),(8,.val x.2.1.val),(9,.val (.int .i64 x.1))],cl:=[(4,t.cells)],cO:=I,c5:=x.2.1.ar 3++os.ar 88 }) (λx=>vI S x.2.2 x.1/\x.2.1.ok 1 ((eX x.2.2).map (.int .i64 ·))/\∀ c∈x.2.2,cB t.ns c) (λx=>S.cX.length-x.1) ?_ ?_
 ·refine⟨(0,⟨some b1,1,1,[.int .i64 S.br]⟩,[S]),⟨vI.start S,⟨rfl,(λh=>ci),λei jB=>⟨rfl,cc _,azb,rfl⟩⟩,λc ao=>?_⟩,.refl,dM,.cons rfl (.nil)⟩;rw[eL.1 ao];exact cy
 rintro⟨i,ro,q⟩⟨bE,iS,eS⟩;simp only at bE iS eS;obtain⟨uL,sB⟩:=bE.len;have jn:=iS.pK;simp only[eX,bB]at jn;refine aZ.mk (λh=>?_) (λh=>?_)
 ·have a1:i<q.length:=by have:(i:Int)<(ro.n:Int):=cT h;omega
  have gg:=eS _ (bK a1);have C1:=gg.nb;obtain⟨Tz,TA,eb⟩:=aT.BZ (I:=I) (e:=3) (M:=ro.ar 3++os.ar 88) iS (λx ab=>f9) (j:=i) (by simp[eX,a1]);have yM:(eX q)[i]'(by simp[eX,a1])=(q[i].br:Int):=by simp[eX]
  rw[yM]at eb;obtain⟨mW,mX,AN⟩:=au.bb.row al.cL (j:=q[i].br) Z C1;have ai:=au.ns _ (bK C1);have eH:=gg.AD;rw[gr C1]at eH;generalize t.ns[q[i].br]=d at ai AN eH;have fh:=ai.aF;have pN:=ai.bb.cap;have c4:d.ap.length=q[i].sub.length:=by rw[eH];simp[eX]
  have ff:=bE.step a1;obtain⟨rk,CH⟩:=ff.len;rw[cn]at CH;refine cY.draw a0 rfl rfl rfl ?_;refine bt.mk Tz i TA rfl (by show i<ro.n;omega) ?_;refine aU.mk _ eb ?_;refine bt.mk mW q[i].br mX rfl Z ?_;refine aU.mk _ ((AN _).part (k:=8) (m:=1) bv) ?_;refine bC.zX a0 rfl am (e:=3) rfl rfl rfl ro iS rfl (sa:=d.ca) (m:=d.aF) (c':=d.cr) (b8:=d.ap.map (.int .i64 ·)) rfl (by rw[bB,fh];show _=d.aF*1;omega) (λax=>ai.bb.yC _ ax) (Ff _) [] (os.ar 88) rfl Z (by show(ro.n+d.aF)*8<=_;omega) ?_;intro sW abY abZ iD;rw[<-cR,eH,<-Fy]at iD;refine be.mk _ (c9 (i:=i) Z) ?_;refine⟨(i+1,sW,q++q[i].sub),⟨⟨ff,iD,λc ao=>?_⟩,ce⟩,.refl,dM,.cons rfl (.nil)⟩;rcases c1.1 ao with ao | ao;·exact eS c ao
  ·exact gg.AE c ao
 ·have cV:i=q.length:=by have:¬ (i:Int)<(ro.n:Int):=dU h;have:=bE.hi;omega
  subst cV;obtain⟨aO,a1,iH⟩:=bE.done;have xX:0<q.length:=by rw[aO];simp
  refine be.mk ((q.length:Int)-1) (by show IntKind.i64.wrap ((ro.n:Int)-1)=_;rw[wrap_i64 ⟨Z,Z⟩,jn]) ?_;refine du.uD (ι:=Nat×aT×List al×aH×List aA) (λx=>{ bp:=[(0,.val x.2.1.val),(4,.ref 4 0),(8,.val ro.val),(10,.val (.int .i64 (fa q x.1))),(11,.val (.int .i64 ((x.1:Int)-1)))],cl:=[(4,t.cells)],cO:=x.2.2.2.1,c5:=x.2.1.ar 88++(x.2.2.2.2++ro.ar 3) }) (λx=>xe t.ns ns.length qP q x.1 x.2.2.1/\Ja ns I x.2.1 x.2.2.1 x.2.2.2.1/\yQ os x.2.1 x.2.2.2.2) (λx=>x.1) ?_ ?_;·intro _;refine⟨(q.length,os,ns,I,[]),⟨xe.start aO aw,⟨λ_ _ h=>h,b3,oe,[],am⟩,λg aw=>by rw[dK];exact aw⟩,.perm eN .refl,.cons .refl (.cons .refl (.cons .refl (.cons ?_ (.cons .refl (.nil))))),.cons rfl (.nil)⟩;simp only;rw[adA aO,<-jn];exact .refl
  rintro⟨i,no,dZ,J,iN⟩⟨g3,ff,x3⟩;simp only at g3 ff x3;have jF:=g3.len;have ed:=ff.os;have TB:no.n=dZ.length:=by have:=ed.len;rw[hc _ 9 al.cL]at this;omega
  refine aZ.mk (λh=>?_) (λh=>?_)
  ·have adN:(0:Int)<=(i:Int)-1:=cT h;obtain⟨z,rfl⟩:∃ z,i=z+1:=⟨i-1,Z⟩;have xR:z<q.length:=g3.hi;have gg:=eS _ (bK xR);have C1:=gg.nb;obtain⟨Tz,TA,eb⟩:=aT.BZ (I:=J) (e:=3) (M:=no.ar 88++(iN++ro.ar 3)) iS (λx ab=>f9) (j:=z) (by simp[eX,xR]);have yM:(eX q)[z]'(by simp[eX,xR])=(q[z].br:Int):=by simp[eX]
   rw[yM]at eb;obtain⟨mW,mX,AN⟩:=(au.bb.mono ff.a4).row al.cL (j:=q[z].br) Z C1;have ai:=(au.ns _ (bK C1)).mono ff.a4;have eH:=gg.AD;have mu:=gr C1;rw[mu]at eH;generalize t.ns[q[z].br]=d at ai AN eH mu;have fh:=ai.aF;have pN:=ai.bb.cap;have c4:d.ap.length=q[z].sub.length:=by rw[eH];simp[eX]
   refine cY.draw a0 rfl rfl rfl ?_;refine bt.mk Tz z TA (by show((z+1:Nat):Int)-1=z;omega) (by show z<ro.n;omega) ?_;refine aU.mk _ eb ?_;refine bt.mk mW q[z].br mX rfl Z ?_;refine aU.mk _ (AN _) ?_;refine bQ.mk λgR adO adP=>?_;refine b4.mk [] (no.ar 88++(iN++ro.ar 3)) _ _ rfl rfl (bJ rfl) rfl ?_;refine aU.mk [.slice d.ca d.aF d.cr] (dm (cs:=d.cells) (k:=8) (n:=1) (T:=88) (.head _) (bJ rfl)) ?_;have tt:=adz xR;have ax9:=arB aO (z+1);refine pi.mk d.aF d.aF rfl rfl (cc _) ae' Z ?_;refine bQ.mk λlB aya ayb=>?_;refine be.mk ((fa q z:Nat):Int) (by show IntKind.i64.wrap (((fa q (z+1):Nat):Int)-(d.aF:Int))=_;rw[wrap_i64 ⟨Z,Z⟩];omega) ?_;have Sy:(rowOf [Value.int .i64 0] (d.aF*1))=(List.replicate d.aF (0:Int)).map (Value.int .i64):=by rw[By,Bp,gM]
   refine du.inv (ι:=Nat×List Int) (λy=>{ bp:=[(0,.val no.val),(4,.ref 4 0),(8,.val ro.val),(10,.val (.int .i64 (fa q z))),(11,.val (.int .i64 (((z+1:Nat):Int)-1))),(12,.val (ptr gR)),(13,.val (.slice (some ⟨lB,0,none⟩) d.aF d.aF)),(60,.val (.int .i64 d.aF)),(61,.val (.int .i64 y.1))],cl:=[(4,t.cells)],cO:=J,c5:=dE lB y.2::⟨gR,.cells d.cells.toArray 88 (0,0)⟩::(no.ar 88++(iN++ro.ar 3)) }) (arC ns.length q.length (fa q z) d.aF) (λy=>d.aF-y.1) ?_ ?_;·refine⟨(0,List.replicate d.aF 0),⟨dQ _,zd,rfl⟩,.m1 ?_,mG,.cons rfl (.nil)⟩;rw[Sy];rfl
   rintro⟨j,L⟩⟨ah,bZ,CB⟩;simp only at ah bZ CB;refine aZ.mk (λad=>?_) (λad=>?_)
   ·have gi:j<d.aF:=by have:(j:Int)<(d.aF:Int):=cT ad;omega
    refine be.mk (((no.n+z:Nat)):Int) (by show IntKind.i64.wrap ((no.n:Int)+(((z+1:Nat):Int)-1))=_;rw[wrap_i64 ⟨Z,Z⟩];omega) ?_;refine be.mk (((fa q z+j:Nat)):Int) (by show IntKind.i64.wrap (((fa q z:Nat):Int)+(j:Int))=_;rw[wrap_i64 ⟨Z,Z⟩];omega) ?_;refine be.mk (FC ns.length q.length (fa q z) j) (by show IntKind.i64.wrap (((no.n+z:Nat):Int)-((fa q z+j:Nat):Int))=_;rw[wrap_i64 ⟨Z,Z⟩];unfold FC;omega) ?_;refine bt.mk ⟨lB,0,none⟩ j rfl rfl gi ?_;refine b4.iE [] (⟨gR,.cells d.cells.toArray 88 (0,0)⟩::(no.ar 88++(iN++ro.ar 3))) (L.map (Value.int .i64)) 3 rfl (by rw[mT,bB];show 0+j*1+1<=_;omega) rfl ((L.set j (FC ns.length q.length (fa q z) j)).map (Value.int .i64)) (by rw[dn,gM];exact oG L j Z _) ?_;refine be.mk _ (c9 (i:=j) Z) ?_;refine⟨(j+1,L.set j (FC ns.length q.length (fa q z) j)),⟨⟨gi,by rw[rD];exact bZ,?_⟩,ce⟩,.refl,mG,.cons rfl (.nil)⟩;rw[Ef,cR,<-CB,gk (by rw[rD];omega),List.getElem_set_self,List.take_set_of_le (cc _)];rfl
   have cV:j=d.aF:=by have:¬ (j:Int)<(d.aF:Int):=dU ad;omega
   subst cV;rw[fD Z]at CB;refine b4.iE [dE lB L] (no.ar 88++(iN++ro.ar 3)) d.cells 88 rfl rfl rfl (d.row (some ⟨lB,0,none⟩) d.aF d.aF L).cells rfl ?_;refine aU.mk (d.row (some ⟨lB,0,none⟩) d.aF d.aF L).cells (dm (cs:=(d.row (some ⟨lB,0,none⟩) d.aF d.aF L).cells) (k:=0) (n:=9) (T:=88) (.tail _ (.head _)) (bJ rfl)) ?_;refine bQ.mk λsY CW Jb=>?_;refine bC.adL a0 rfl am (e:=88) rfl rfl rfl no ed rfl (cs:=(d.row (some ⟨lB,0,none⟩) d.aF d.aF L).cells) rfl rfl rfl [dE lB L,⟨gR,.cells (d.row (some ⟨lB,0,none⟩) d.aF d.aF L).cells.toArray 88 (0,0)⟩] (iN++ro.ar 3) rfl Z (by show(no.n+1)*96<=_;omega) ?_;intro Jc cv aa ad aj eU;refine be.mk ((z:Int)-1) (by show IntKind.i64.wrap ((((z+1:Nat):Int)-1)-1)=_;rw[wrap_i64 ⟨Z,Z⟩];omega) ?_;intro eY;have C2:yQ os Jc (cv++iN):=λg aw=>by
    have dT:=x3 g aw;rw[cR,c1]at dT;rw[<-dW,cR,c1];rcases dT with dT | dT;·exact .inl (eU g dT)
    ·exact .inr dT
   have l0:([dE lB L,⟨gR,.cells (d.row (some ⟨lB,0,none⟩) d.aF d.aF L).cells.toArray 88 (0,0)⟩]++(Jc.ar 88++(cv++(iN++ro.ar 3)))).Perm ((⟨some lB,d.aF,d.aF,L.map (Value.int .i64)⟩:aT).ar 3++(⟨gR,.cells (d.row (some ⟨lB,0,none⟩) d.aF d.aF L).cells.toArray 88 (0,0)⟩::(Jc.ar 88++((cv++iN)++ro.ar 3)))):=by rw[dW cv];exact .refl _
   have mS:=l7.FB (J:=J) (os:=⟨some lB,d.aF,d.aF,L.map (Value.int .i64)⟩) (e:=3) (foot:=(os.ar 88).map (·.num)) eY l0 (λx ab=>by
    have dT:=C2 x ab;rw[<-dW,b0,cR];exact .tail _ (iv _ dT))
   have arD:(⟨some lB,d.aF,d.aF,L.map (Value.int .i64)⟩:aT).ok 1 (L.map (.int .i64 ·)):=⟨md,(λh=>ci),λei jB=>⟨aq',cc _,i7,fD md⟩⟩;obtain⟨mv,hw,bn,dB,-⟩:=aT.zL (b:=8) (e:=3) arD ce mS (⟨gR,.cells (d.row (some ⟨lB,0,none⟩) d.aF d.aF L).cells.toArray 88 (0,0)⟩::(Jc.ar 88++((cv++iN)++ro.ar 3)));have AK:(d.row (some ⟨lB,0,none⟩) d.aF d.aF L).ap=(List.range (fa q (z+1)-fa q z)).map λj=>((ns.length+q.length-1-(fa q z+j):Nat):Int):=by rw[show fa q (z+1)-fa q z=d.aF by omega];exact CB
   have arE:=xe.step aO a1 g3 gg aE (x:=d.row (some ⟨lB,0,none⟩) d.aF d.aF L) (by rw[mu];rfl) AK;have TC:(d.row (some ⟨lB,0,none⟩) d.aF d.aF L).ok mv:=(ai.mono bn).row dB λx ab=>by rw[CB]at ab;obtain⟨y,aG,rfl⟩:=c3.1 ab;unfold FC eC;omega
   obtain⟨je,tW⟩:=ff.a9;refine⟨(z,Jc,dZ++[d.row (some ⟨lB,0,none⟩) d.aF d.aF L],mv,cv++iN),⟨⟨arE,⟨λb o h=>bn _ _ (ff.a4 _ _ h),?_,λx ab=>?_,je++[_],by rw[tW,dW]⟩,C2⟩,ce⟩,.perm l0 (hw _ _ (.sub (.cons _ (.refl _)) .refl)),hh,.cons rfl (.nil)⟩
   ·rw[fS];have:([d.row (some ⟨lB,0,none⟩) d.aF d.aF L].flatMap al.cells)=(d.row (some ⟨lB,0,none⟩) d.aF d.aF L).cells:=by simp
    rw[this];exact aj
   ·rcases c1.1 ab with ab | ab
    ·exact(ff.ok x ab).mono bn
    ·rw[eL.1 ab];exact TC
  ·have adN:i=0:=by have:¬ (0:Int)<=(i:Int)-1:=dU h;omega
   subst adN;obtain⟨sZ,l8,jG,hK,pY⟩:=g3.done aO;refine be.mk ((dZ.length-1:Nat):Int) (by show IntKind.i64.wrap ((no.n:Int)-1)=_;rw[wrap_i64 ⟨Z,Z⟩];omega) ?_;intro _;refine⟨_,_,.sub (M1:=no.ar 88++iN) ((Mt _).append (w6 _ _)) .refl,no,dZ,iN,rfl,rfl,x3,ff,sZ,Z,l8,jG,hK,pY⟩
def cx.a9{ys:List Value}(h:cx I a n c size b (xs++ys))(hm:m<=n)(ab:xs.length=m*size)(c':Nat)(ao:m<=c'):cx I a m c' size b xs:=by
 refine⟨ab,⟨ao,jU (p' _ hm) h.cap.2⟩,?_⟩;by_cases ax:m=0
 ·exact .inl ax
 rcases h.rd with aa | ⟨aR,aa,ad,cs,T,an,aj,aJ⟩
 ·omega
 ·refine .inr ⟨aR,aa,ad,cs,T,an,aj,?_⟩;have bD:((cs.toList.drop aR.off).take (n*size)).take (m*size)=xs:=by rw[aJ,<-ab,uG]
  rw[zh,pf (p' _ hm)]at bD;exact bD
def arF{l:List (Nat×Int)}{x:Nat×Int}(h:cx I a n c 2 16 ((l++[x]).flatMap ug)) :
  Spec Tryz.prog 285 [.slice a n c] I [] λv I' M'=>v=.tuple #[.agg #[.int .i64 x.1,.int .i64 x.2],.slice a l.length l.length]/\I'=I/\M'=[]:=by
 refine bU [] a0 Tryz.func285 rfl rfl rfl ?_;intro B ax;have az:n=l.length+1:=by have:=h.len;rw[hc ug 2 (λ_=>rfl),cn,oV]at this;omega
 have hk:=h.cap;obtain⟨aR,bI,bo⟩:=h.row (f:=ug) (λ_=>rfl) (j:=l.length) Z am;rw[aar rfl]at bo;refine be.mk ((l.length:Nat):Int) (by show IntKind.i64.wrap ((n:Int)-1)=_;rw[wrap_i64 ⟨Z,Z⟩];omega) ?_;refine cY.draw a0 rfl rfl rfl ?_;refine bt.mk aR l.length bI rfl Z ?_;refine aU.mk _ (bo _) ?_;refine NR.mk l.length l.length rfl rfl (cc _) Z ?_;have eB:(if l.length=0 then a else a.map (·.add (0*2)))=a:=by
  split;·rfl
  ·rcases h.rd with aa | ⟨aR,rfl,di,-⟩
   ·omega
   ·rw[kW,eM _ di];obtain⟨b,o,iW⟩:=aR;simp only at di;subst di;rfl
 refine⟨_,_,.refl,?_,rfl,rfl⟩;show Value.tuple #[Value.agg #[.int .i64 x.1,.int .i64 x.2],.slice (if l.length=0 then a else a.map (·.add (0*2))) (l.length-0) (l.length-0)]=_;rw[eB];rfl
def oj(z n:Nat):List Nat:=(List.range n).filter λj=>!decide (j=z)
def Jd(z n:Nat):oj z (n+1)=if n=z then oj z n else oj z n++[n]:=by
 unfold oj;rw[Ef,Ed,Co,List.filter_nil];by_cases e:n=z<;>simp[e]
def M5{z:Nat}:j∈oj z n ↔ j<n/\j≠z:=by unfold oj;rw[nV,j9];simp
def adQ{z:Nat}(h:z<n):(oj z n++[z]).Perm (List.range n):=by
 have zH:(oj z n++[z]).Nodup:=by refine uu.2 ⟨EM.sublist zg,am,λa a7 b ag e=>?_⟩;rw[eL]at ag;subst ag;exact(M5.1 a7).2 e
 refine(Tk zH EM).2 λj=>?_;rw[c1,M5,eL,j9];omega
def uh(l:List aN)(z n:Nat):Nat:=((oj z n).map λj=>(l.getD j (.mk 0 [])).cX.length).sum
def arG(l:List aN):ho l=((List.range l.length).map λj=>(l.getD j (.mk 0 [])).cX.length).sum:=by unfold ho;congr 1;refine oA am λi hi cz=>?_;rw[gh,gh,wy,bT,dy i6];rfl
def adR{l:List aN}{z:Nat}(bg:z<l.length):uh l z l.length+(l[z]).cX.length=ho l:=by have h:=((adQ bg).map λj=>(l.getD j (.mk 0 [])).cX.length).sum_nat;rw[cR,pG,<-arG]at h;rw[<-h];unfold uh;simp[bT,bg]
def adS(l:List aN)(z:Nat){i:Nat}(h:i<=n):uh l z i<=uh l z n:=by
 induction n with
 |zero=>
  obtain rfl:i=0:=by omega
  exact cc _
 |succ n aQ=>
  by_cases e:i=n+1;·subst e;exact cc _
  ·refine jU (aQ Z) ?_;unfold uh;rw[Jd];split
   ·exact cc _
   ·rw[cR,pG];omega
def adT:∀ (p:List Int) (T:aN) (i:Int),T.go (p++[i])=(T.go p).bind λS=>if 0<=i/\i<(S.sub.length:Int)then some (S.sub.getD i.toNat S)else none
 |[],T,i=>by simp[aN.go]
 |j::p,T,i=>by
  rw[pz,aN.go,aN.go];split;·exact adT p _ i
  ·rfl
def adU:∀ (p:List Int) {T S:aN} (i:Int),T.go p=some S->T.o9 (p++[i])=T.o9 p++[(S.br,i)]
 |[],T,S,i,h=>by obtain rfl:=e1 h;rfl
 |j::p,T,S,i,h=>by
  rw[aN.go]at h;split at h;·rw[pz,aN.o9,aN.o9,adU p i h];rfl
  ·cases h
def Je:∀ (p:List Int) (T:aN),(T.o9 p).length=p.length
 |[],_=>rfl| i::p,T=>by rw[aN.o9,ep,Je p];rfl
def arH{tns:List al}{R:aN}{z:Nat}(bg:z<S.sub.length){L:List Int}(bZ:L.length=S.sub.length){Y:aP}(aM:cB dZ R)(AO:R.bare dZ=Y)(TD:L.getD z 0=(R.br:Int))(arI:∀ j,j<S.sub.length->j≠z->∃ T:aN,(T.br:Int)=L.getD j 0/\cB dZ T/\T.bare dZ=(S.sub.getD j S).bare tns){x:al}(AK:x.ap=L)(kg:x.bare=(nodeAt tns S.br).bare) :
  ∃ xO:aN,xO.br=dZ.length/\cB (dZ++[x]) xO/\xO.bare (dZ++[x])=.mk (nodeAt tns S.br).bare ((S.sub.map (aN.bare tns)).set z Y):=by
 obtain⟨ks,aa,ad⟩:=IX (R:=λ(j:Nat) (T:aN)=>(T.br:Int)=L.getD j 0/\cB dZ T/\T.bare dZ=if j=z then Y else(S.sub.getD j S).bare tns) (l:=List.range S.sub.length) λj ah=>by
  have ah:=j9.1 ah;by_cases e:j=z;·subst e;exact⟨R,TD.symm,aM,by rw[b2 rfl];exact AO⟩
  ·obtain⟨T,eg,eV,e0⟩:=arI j ah e;exact⟨T,eg,eV,by rw[bS e];exact e0⟩
 rw[wR]at aa;have eH:∀ c∈ks,cB dZ c:=λc ao=>by obtain⟨j,ah,rfl⟩:=iI ao;exact(ad j (by rw[wR];omega) ah).2.1
 refine⟨.mk dZ.length ks,rfl,.mk am ?_ λc ao=>(eH c ao).app _,?_⟩
 ·rw[Fv,AK];refine oA al' λj ah jA=>?_;rw[gh];have:=(ad j (by rw[wR];omega) Z).1;rw[wy,bT,dy ah]at this;exact this.symm
 ·rw[aN.nc,Fv,kg];congr 1;refine oA WP λj ah jA=>?_;have vF:j<ks.length:=by simpa using ah
  rw[gh,aN.CS dZ (eH _ (bK vF)),(ad j (by rw[wR];omega) vF).2.2,Oy,wy];by_cases e:j=z;·subst e;rw[b2 rfl,b2 rfl]
  ·rw[bS e,bS (λba=>e ba.symm),gh];congr 1;simp[bT,show j<S.sub.length by omega]
def arJ{z:Nat}{L:List Int}(bg:z<L.length)(M6:∀ k∈L,0<=k)(TD:L.getD z 0=(r:Int))(h:l1 dZ ((oj z L.length).map (h1 L)++[r])){x:al}(AK:x.ap=L)(arK:fits x L.length=true):l1 (dZ++[x]) [dZ.length]:=by
 have aK:(List.range L.length).map (h1 L)=L.map Int.toNat:=by refine oA am λj ah jA=>?_;rw[gh,gh,wy];unfold h1;rw[bT,dy lm];rfl
 have aI:((oj z L.length).map (h1 L)++[r]).Perm (L.map Int.toNat++[]):=by
  rw[dK,<-aK];have:=(adQ bg).map (h1 L);rw[cR,sX]at this;have ba:h1 L z=r:=by unfold h1;rw[TD];exact hC r
  rwa [ba]at this
 refine(h.perm aI).add (by rw[bB];exact arK) ?_;rw[AK,gj];refine((fR λk ae=>?_).trans (Mu _)).symm;have:=M6 k ae;show((k.toNat:Nat):Int)=k;omega
def adV:∀ (p:List Int) {T S:aN},T.go p=some S->S.cX.length<=T.cX.length
 |[],T,S,h=>by obtain rfl:=e1 h;exact cc _
 |i::p,T,S,h=>by
  rw[aN.go]at h;split at h
  ·rename_i hi;have aa:=adV p h;have ad:=Fz T;have aj:(T.sub.getD i.toNat T).cX.length<=ho T.sub:=by
    have az:i.toNat<T.sub.length:=by omega
    rw[bT,dy az];have:=adR az;simp only[lF];omega
   omega
  ·cases h
structure adW(tns ns:List al)(I:aH)(os:aT)(S R:aN)(z:Nat)(Y:aP)(i:Nat)(L:List Int)(no:aT)(dZ:List al)(J:aH)(iN:List aA):Prop where
 hi:i<=S.sub.length
 bZ:L.length=S.sub.length
 a2:Ja ns I no dZ J
 J5:yQ os no iN
 Es:l1 dZ ((oj z i).map (h1 L)++[R.br])
 bl:cB dZ R
 bare:R.bare dZ=Y
 oj:∀ j,j<i->j≠z->∃ T:aN,(T.br:Int)=L.getD j 0/\cB dZ T/\T.bare dZ=(S.sub.getD j S).bare tns
 ayc:z<i->L.getD z 0=(R.br:Int)
 len:dZ.length<=ns.length+(S.sub.getD z S).cX.length+uh S.sub z i
structure adX(tns ns:List al)(I:aH)(os:aT)(T:aN)(path:List Int)(X:aP)(p:List Int)(s0:Option Addr)(gE:Nat)(R:aN)(no:aT)(dZ:List al)(J:aH)(iN:List aA):Prop where
 row:cx I s0 p.length gE 2 16 ((T.o9 p).flatMap ug)
 a2:Ja ns I no dZ J
 J5:yQ os no iN
 Es:l1 dZ [R.br]
 bl:cB dZ R
 go:∃ S q,path=p++q/\T.go p=some S/\R.bare dZ=(S.bare tns).put q X/\dZ.length<=ns.length+S.cX.length
def arL(T:aN)(tns ns:List al)(path:List Int)(X:aP)(os:aT)(I:aH)(v:Value)(I':aH)(M':List aA):Prop:=
 ∃ (bq:aT) (jh:List al) (iN:List aA) (R:aN),v=.tuple #[bq.val,.int .i64 R.br]/\M'=bq.ar 88++iN/\Ja ns I bq jh I'/\l1 jh [R.br]/\cB jh R/\R.bare jh=(T.bare tns).put path X/\jh.length<=ns.length+T.cX.length
def adY{r0 eR:aT}{h0 cv:List aA}(aa:yQ os r0 h0)(ad:yQ r0 eR cv):yQ os eR (cv++h0):=λg aw=>by
 have dT:=aa g aw;rw[cR,c1]at dT;rw[<-dW,cR,c1];rcases dT with dT | dT
 ·exact .inl (ad g dT)
 ·exact .inr dT
def arM(au:t.ok I)(aE:∀ d∈t.ns,fits d d.ap.length=true)(ae:rV t.ns){T:aN}(a6:cB t.ns T){mr:aN}(eW:T.go path=some mr)(mZ:cx I a path.length c 2 16 ((T.o9 path).flatMap ug))
 (b3:os.ok 9 (ns.flatMap al.cells)) (oe:∀ d∈ns,d.ok I) {r1:aN} (aw:l1 ns [r1.br]) (aM:cB ns r1) (ag:ns.length+T.cX.length<=1099511627776) (aC:t.n<=1099511627776) :
  Spec Tryz.prog 216 [os.val,t.val,.slice a path.length c,.int .i64 r1.br] I (os.ar 88) (arL T t.ns ns path (r1.bare ns) os I):=by
 refine xF [] a0 Tryz.func216 rfl rfl rfl ?_;intro B ax;have g7:=au.n;refine du.uD (ι:=List Int×Option Addr×Nat×aN×aT×List al×aH×List aA) (λx=>{ bp:=[(0,.val x.2.2.2.2.1.val),(2,.val (.slice x.2.1 x.1.length x.2.2.1)),(3,.val (.int .i64 x.2.2.2.1.br)),(5,.ref 5 0)],cl:=[(5,t.cells)],cO:=x.2.2.2.2.2.2.1,c5:=x.2.2.2.2.1.ar 88++x.2.2.2.2.2.2.2 }) (λx=>adX t.ns ns I os T path (r1.bare ns) x.1 x.2.1 x.2.2.1 x.2.2.2.1 x.2.2.2.2.1 x.2.2.2.2.2.1 x.2.2.2.2.2.2.1 x.2.2.2.2.2.2.2) (λx=>x.1.length) ?_ ?_
 ·intro _;exact⟨(path,a,c,r1,os,ns,I,[]),⟨mZ,⟨λ_ _ h=>h,b3,oe,[],am⟩,(λg aw=>by rw[dK];exact aw),aw,aM,mr,[],am,eW,rfl,ce⟩,.m1 am,dM,.cons rfl (.nil)⟩
 rintro⟨p,s0,gE,R,no,dZ,J,iN⟩eK;have eK:adX t.ns ns I os T path (r1.bare ns) p s0 gE R no dZ J iN:=eK;obtain⟨Ic,ff,x3,sZ,eS,FD,q,mJ,AP,AO,jF⟩:=eK;refine aZ.mk (λh=>?_) (λh=>?_)
 ·have gx:0<p.length:=by have:(0:Int)<(p.length:Int):=cT h;omega
  obtain⟨mD,kid,rfl⟩:∃ mD k,p=mD++[k]:=by
   rcases ze p with aa | ⟨r,k,aa⟩;·subst aa;simp at gx
   ·exact⟨r,k,rx⟩
  rw[adT]at AP;obtain⟨S,M7,AP⟩:=Option.bind_eq_some_iff.1 AP;have vv:0<=kid/\kid<(S.sub.length:Int):=by
   by_cases e:0<=kid/\kid<(S.sub.length:Int);·exact e
   ·rw[bS e]at AP;cases AP
  rw[b2 vv]at AP;obtain⟨z,rfl⟩:=eh vv.1;have bg:z<S.sub.length:=by omega
  have FE:S.sub.getD z S=FD:=by have:=e1 AP;rwa [hC]at this
  rw[adU mD _ M7]at Ic;have TE:=cB.go mD a6 M7;have pX:=TE.nb;refine a8.mk [] _ _ (.refl _) (arF (Ic.mono ff.a4)) ?_;rintro v mv M' -⟨ak,Du,rfl⟩;subst mv;rw[Je]at ak;subst ak;have arN:cx I s0 mD.length mD.length 2 16 ((T.o9 mD).flatMap ug):=by rw[fS]at Ic;exact Ic.a9 aza (by rw[hc ug 2 (λ_=>rfl),Je]) _ (cc _)
  obtain⟨mW,mX,AN⟩:=(au.bb.mono ff.a4).row al.cL (j:=S.br) Z pX;have ai:=(au.ns _ (bK pX)).mono ff.a4;have eH:=TE.AD;have mu:=gr pX;have FF:=aE _ (bK pX);rw[mu]at eH;have fO:=au.ns _ (bK pX);generalize t.ns[S.br]=d at ai AN eH mu FF fO;have fh:=ai.aF;have pN:=ai.bb.cap;have c4:d.ap.length=S.sub.length:=by rw[eH];simp[eX]
  refine bt.mk mW S.br mX rfl Z ?_;refine aU.mk _ (AN _) ?_;refine pi.mk d.aF d.aF rfl rfl (cc _) ae' Z ?_;refine bQ.mk λgR adO adP=>?_;have Sx:(rowOf [Value.int .i64 0] (d.aF*1))=(List.replicate d.aF (0:Int)).map (Value.int .i64):=by rw[By,Bp,gM]
  have qo:∀ j (h:j<S.sub.length),S.sub.getD j S=S.sub[j]:=λj h=>by simp[bT,h]
  have arO:∀ j (h:j<S.sub.length),S.sub.getD j (.mk 0 [])=S.sub[j]:=λj h=>by simp[bT,h]
  have ayd:=Fz S;have aye:=adR bg;have ayf:FD.cX.length=(S.sub[z]).cX.length:=by rw[<-FE,qo z bg]
  have ayg:S.cX.length<=T.cX.length:=adV mD M7;refine du.uD (ι:=Nat×List Int×aT×List al×aH×List aA) (λy=>{ bp:=[(0,.val y.2.2.1.val),(2,.val (.slice s0 mD.length mD.length)),(3,.val (.int .i64 R.br)),(5,.ref 5 0),(10,.ref 10 0),(11,.ref 11 0),(12,.val (.slice (some ⟨gR,0,none⟩) d.aF d.aF)),(34,.val (.slice d.ca d.aF d.cr)),(35,.val (.int .i64 d.aF)),(36,.val (.int .i64 y.1))],cl:=[(5,t.cells),(10,[.int .i64 S.br,.int .i64 z]),(11,d.cells)],cO:=y.2.2.2.2.1,c5:=y.2.2.1.ar 88++(y.2.2.2.2.2++[dE gR y.2.1]) }) (λy=>adW t.ns ns I os S R z ((FD.bare t.ns).put q (r1.bare ns)) y.1 y.2.1 y.2.2.1 y.2.2.2.1 y.2.2.2.2.1 y.2.2.2.2.2) (λy=>d.aF-y.1) ?_ ?_
  ·intro _;refine⟨(0,List.replicate d.aF 0,no,dZ,J,iN),⟨dQ _,by rw[zd];omega,ff,x3,sZ,eS,AO,λj ah=>absurd ah (m6 _),λah=>absurd ah (m6 _),?_⟩,.perm (M1:=no.ar 88++(iN++[⟨gR,.cells (rowOf [Value.int .i64 0] (d.aF*1)).toArray 3 (0,0)⟩])) ?_ (.m1 ?_),N',.cons rfl (.cons rfl (.cons rfl (.nil)))⟩
   ·rw[FE];simp only;omega
   ·have:=eN (l₁:=([⟨gR,.cells (rowOf [Value.int .i64 0] (d.aF*1)).toArray 3 (0,0)⟩]:List aA)) (l₂:=no.ar 88++iN);rw[dW]at this;exact this
   ·rw[Sx];rfl
  clear sZ eS AO jF x3;have ayh:=ff.a4;rintro⟨i,L,tx,cW,h0,hQ⟩eK;have eK:adW t.ns ns I os S R z ((FD.bare t.ns).put q (r1.bare ns)) i L tx cW h0 hQ:=eK;obtain⟨hi,bZ,qR,M8,C3,vG,TF,M9,Na,TG⟩:=eK;rw[FE]at TG;have nG:tx.n=cW.length:=by have:=qR.os.len;rw[hc _ 9 al.cL]at this;omega
  have J2:=adS S.sub z hi;refine aZ.mk (λad=>?_) (λad=>?_)
  ·have yH:i<d.aF:=by have:(i:Int)<(d.aF:Int):=cT ad;omega
   have dN:i<S.sub.length:=by omega
   have CV:cx h0 d.ca d.aF d.cr 1 8 (d.ap.flatMap ir):=by rw[og];exact(fO.bb).mono qR.a4
   have n8:d.ap[i]' Z=((S.sub[i]).br:Int):=by
    have:d.ap[i]?=(eX S.sub)[i]?:=by rw[eH]
    rw[dy Z]at this;unfold eX at this;rw[jJ,dy dN]at this;exact e1 this
   obtain⟨gn,fk,fc⟩:=CV.row (f:=ir) (λ_=>rfl) (j:=i) Z Z;rw[n8]at fc;refine bt.mk gn i fk rfl Z ?_;refine aU.mk _ (fc _) ?_;refine aZ.mk (λaj=>?_) (λaj=>?_)
   ·obtain rfl:i=z:=by have:(i:Int)=(z:Int):=cT aj;omega
    refine bt.mk ⟨gR,0,none⟩ i rfl rfl yH ?_;refine b4.iE (tx.ar 88++hQ) [] (L.map (Value.int .i64)) 3 (dW _ _ _).symm d9 rfl ((L.set i (R.br:Int)).map (Value.int .i64)) (by rw[dn,gM];exact oG L i Z _) ?_;refine be.mk _ (c9 (i:=i) Z) ?_;intro _;refine⟨(i+1,L.set i (R.br:Int),tx,cW,h0,hQ),⟨⟨dN,by rw[rD];exact bZ,qR,M8,?_,vG,TF,λj ah bz=>?_,λ_=>?_,?_⟩,ce⟩,.m1 (dW _ _ _),N',.cons rfl (.cons rfl (.cons rfl (.nil)))⟩
    ·rw[Jd,b2 rfl];have e:(oj i i).map (h1 (L.set i (R.br:Int)))=(oj i i).map (h1 L):=fR λj ah=>by have:=(M5.1 ah).2;unfold h1;rw[bT,bT,iB,bS (λe=>this e.symm)]
     rw[e];exact C3
    ·obtain⟨l8,eg,eV,e0⟩:=M9 j (by simp only at ah;omega) bz;refine⟨l8,?_,eV,e0⟩;rw[bT,iB,bS (λe=>bz e.symm),<-bT];exact eg
    ·rw[bT,iB,b2 rfl,b2 Z];rfl
    ·rw[FE];show cW.length<=_+_+uh S.sub i (i+1);unfold uh at TG |-;rw[Jd,b2 rfl];exact TG
   ·have bz:i≠z:=λe=>by have:¬ (i:Int)=(z:Int):=dU aj;omega
    have arP:=TE.AE _ (bK dN);have ayi:uh S.sub z (i+1)=uh S.sub z i+(S.sub[i]).cX.length:=by unfold uh;rw[Jd,bS bz,cR,pG,sX,List.sum_singleton,arO i dN]
    have ayj:=adS S.sub z (show i+1<=S.sub.length by omega);have di:=adM (au.mono (λb o h=>qR.a4 _ _ h)) aE arP qR.os qR.ok C3 Z;refine a8.mk (tx.ar 88) (hQ++[dE gR L]) _ (.refl _) di ?_;rintro v cv dv -⟨ld,m2,om,rfl,rfl,C2,xg,FG,rM,l8,jG,hK,pY⟩;refine bt.mk ⟨gR,0,none⟩ i rfl rfl yH ?_;refine b4.iE ((ld.ar 88++om)++hQ) [] (L.map (Value.int .i64)) 3 (dW _ _ _).symm d9 rfl ((L.set i ((m2.length-1:Nat):Int)).map (Value.int .i64)) (by rw[dn,gM];exact oG L i Z _) ?_;refine be.mk _ (c9 (i:=i) Z) ?_;intro _;obtain⟨je,tW⟩:=xg.a9;obtain⟨wz,o1⟩:=qR.a9;refine⟨(i+1,L.set i ((m2.length-1:Nat):Int),ld,m2,cv,om++hQ),⟨⟨dN,by rw[rD];exact bZ,⟨λb o h=>xg.a4 _ _ (qR.a4 _ _ h),xg.os,xg.ok,wz++je,by rw[tW,o1,dW]⟩,adY M8 C2,?_,?_,?_,λj ah arQ=>?_,λadZ=>?_,?_⟩,ce⟩,.m1 ?_,N',.cons rfl (.cons rfl (.cons rfl (.nil)))⟩
    ·rw[Jd,bS bz];have e:(oj z i).map (h1 (L.set i ((m2.length-1:Nat):Int)))=(oj z i).map (h1 L):=fR λj ah=>by have:=(M5.1 ah).1;unfold h1;rw[bT,bT,iB,bS Z]
     have ba:h1 (L.set i ((m2.length-1:Nat):Int)) i=m2.length-1:=by unfold h1;rw[bT,iB,b2 rfl,b2 Z];rfl
     rw[cR,e,sX,ba];refine FG.perm ?_;have:=mm (a:=m2.length-1) (l₁:=(oj z i).map (h1 L)) (l₂:=[R.br]);simpa using this.symm
    ·show cB m2 R;rw[tW];exact vG.app je
    ·show R.bare m2=_;rw[tW,aN.CS cW vG];exact TF
    ·by_cases e:j=i
     ·subst e;refine⟨l8,?_,hK,by rw[pY,qo j dN]⟩;rw[bT,iB,b2 rfl,b2 Z,jG];rfl
     ·obtain⟨U,eg,eV,e0⟩:=M9 j (by simp only at ah;omega) arQ;refine⟨U,?_,?_,?_⟩
      ·rw[bT,iB,bS (λba=>e ba.symm),<-bT];exact eg
      ·show cB m2 U;rw[tW];exact eV.app je
      ·show U.bare m2=_;rw[tW,aN.CS cW eV];exact e0
    ·have adZ:z<i+1:=adZ;rw[bT,iB,bS Z,<-bT];exact Na Z
    ·rw[FE];show m2.length<=_+_+uh S.sub z (i+1);omega
    ·show((ld.ar 88++om)++hQ)++_=ld.ar 88++((om++hQ)++_);rw[dW,dW,dW];rfl
  ·have cV:i=S.sub.length:=by have:¬ (i:Int)<(d.aF:Int):=dU ad;omega
   subst cV;have xD:∀ b o,I b=some o->h0 b=some o:=qR.a4;have uc:d.ok h0:=fO.mono xD;refine bQ.mk λsY CW Jb=>?_;refine bC.adL a0 rfl am (e:=88) rfl rfl rfl tx qR.os rfl (cs:=(d.row (some ⟨gR,0,none⟩) d.aF d.aF L).cells) rfl rfl rfl [] (hQ++[dE gR L]) rfl Z (by show(tx.n+1)*96<=_;omega) ?_;intro ld cv bD cG eZ eU;refine be.mk ((cW.length:Nat):Int) (by show IntKind.i64.wrap ((ld.n:Int)-1)=_;rw[wrap_i64 ⟨Z,Z⟩];omega) ?_;intro eY;have C2:yQ os ld (cv++hQ):=adY M8 eU;have l0:([]++(ld.ar 88++(cv++(hQ++[dE gR L])))).Perm ((⟨some gR,d.aF,d.aF,L.map (Value.int .i64)⟩:aT).ar 3++(ld.ar 88++(cv++hQ))):=by have:=eN (l₁:=ld.ar 88++(cv++hQ)) (l₂:=[dE gR L]);rw[hI];rw[dW,dW]at this;exact this
   have mS:=l7.FB (J:=h0) (os:=⟨some gR,d.aF,d.aF,L.map (Value.int .i64)⟩) (e:=3) (foot:=(os.ar 88).map (·.num)) eY l0 (λx ab=>C2 x ab);have arR:(⟨some gR,d.aF,d.aF,L.map (Value.int .i64)⟩:aT).ok 1 (L.map (.int .i64 ·)):=⟨md,(λh=>ci),λei jB=>⟨aq',cc _,i7,fD md⟩⟩;obtain⟨mv,hw,bn,dB,-⟩:=aT.zL (b:=8) (e:=3) arR ce mS (ld.ar 88++(cv++hQ));have arS:∀ j,j<L.length->∃ U:aN,(U.br:Int)=L.getD j 0/\cB cW U:=λj ah=>by
    by_cases e:j=z;·subst e;exact⟨R,(Na Z).symm,vG⟩
    ·obtain⟨U,eg,eV,-⟩:=M9 j Z e;exact⟨U,eg,eV⟩
   have M6:∀ k∈L,0<=k/\k<cW.length:=λk ae=>by obtain⟨j,ah,rfl⟩:=iI ae;obtain⟨U,eg,eV⟩:=arS j ah;rw[bT,dy ah]at eg;have:=eV.nb;have eg:(U.br:Int)=L[j]:=eg;omega
   have TC:(d.row (some ⟨gR,0,none⟩) d.aF d.aF L).ok mv:=(uc.mono bn).row dB λx ab=>by have:=M6 x ab;unfold eC;omega
   have arT:cW.length+1<=ns.length+S.cX.length:=by omega
   rw[<-bZ]at C3;have FG:=arJ (x:=d.row (some ⟨gR,0,none⟩) d.aF d.aF L) Z (λk ae=>(M6 k ae).1) (Na Z) C3 rfl (by
    have dT:fits d d.ap.length=true:=FF;show fits (d.row (some ⟨gR,0,none⟩) d.aF d.aF L) (L.length:Nat)=true;rw[bZ,<-c4];exact dT)
   obtain⟨xO,hU,mQ,yw⟩:=arH (tns:=t.ns) bg bZ vG TF (Na Z) (λj ah bz=>M9 j Z bz) (x:=d.row (some ⟨gR,0,none⟩) d.aF d.aF L) rfl (by rw[mu];rfl);have C4:aP.mk (nodeAt t.ns S.br).bare ((S.sub.map (aN.bare t.ns)).set z ((FD.bare t.ns).put q (r1.bare ns)))=(S.bare t.ns).put ((z:Int)::q) (r1.bare ns):=by rw[aP.put,adq,ady,hC,getD_map,FE]
   rw[C4]at yw;obtain⟨wz,o1⟩:=qR.a9;refine⟨(mD,s0,mD.length,xO,ld,cW++[d.row (some ⟨gR,0,none⟩) d.aF d.aF L],mv,cv++hQ),⟨⟨arN,⟨λb o h=>bn _ _ (xD _ _ h),?_,λx ab=>?_,wz++[_],by rw[o1,dW]⟩,C2,by rw[hU];exact FG,mQ,S,(z:Int)::q,by rw[mJ,dW];rfl,M7,yw,by rw[cn,oV];exact arT⟩,by simp only[cn,oV];omega⟩,.perm l0 (hw _ _ .refl),.cons .refl (.cons .refl (.cons ?_ (.cons .refl (.nil)))),.cons rfl (.nil)⟩
   ·rw[fS];have:([d.row (some ⟨gR,0,none⟩) d.aF d.aF L].flatMap al.cells)=(d.row (some ⟨gR,0,none⟩) d.aF d.aF L).cells:=by simp
    rw[this];exact eZ
   ·rcases c1.1 ab with ab | ab
    ·exact(qR.ok x ab).mono bn
    ·rw[eL.1 ab];exact TC
   ·simp only;rw[hU];exact .refl
 ·have arU:p.length=0:=by have:¬ (0:Int)<(p.length:Int):=dU h;omega
  obtain rfl:p=[]:=im arU;obtain rfl:T=FD:=e1 AP;rw[hI]at mJ;subst mJ;intro _;exact⟨_,_,.refl,no,dZ,iN,R,rfl,rfl,ff,sZ,eS,AO,jF⟩
section
end
section
end
def FH{G F:Fr}{y:Operand}{r:dx}(h:dr G y=dr F y)(bd:bG F y=r):bG G y=r:=by simp only[bG,dz,h];exact bd
def aT.arV(bw:tY I M J){e:Nat}(h:os.ok size xs)(bc:∀ x∈os.ar e,x∈M)(ag:os.n*b<=140737488355328):cx J (os.a.map λg=>⟨g,0,none⟩) os.n os.c size b xs:=by
 obtain⟨a,n,c,aS⟩:=os;cases a with
 |none=>obtain⟨aa,ad⟩:=h.nil rfl;exact⟨h.len,⟨aj',ag⟩,.inl aa⟩
 |some g=>obtain⟨aa,ad,aj,aJ⟩:=h.cap g rfl;exact⟨h.len,⟨ad,ag⟩,.inr ⟨⟨g,0,none⟩,rfl,rfl,aS.toArray,e,(0,0),bw.aF _ _ (.inr ⟨⟨g,.cells aS.toArray e (0,0)⟩,bc _ (.head _),rfl,rfl⟩),v6⟩⟩
section
section
end
end
section
end
section
end
section
end
section
end
section
end
section
end
section
end
section
end
section
end
section
end
section
end
section
end
def l2(J:aH)(os:aT)(e:Nat):aH:=match os.a with
 |some g=>ins J g (.cells os.aS.toArray e (0,0))| none=>J
def Nb{foot:List Nat}{e:Nat}{post:List aA}(aE:∀ g,os.a=some g->g ∉ foot):hS foot J (os.ar e++post) (l2 J os e) post:=by
 obtain⟨a,n,c,aS⟩:=os;cases a with
 |none=>exact .refl| some g=>exact .kZ rfl (aE g rfl) .refl
def FI{e:Nat}(h:∀ x∈os.ar e++M,J x.num=none):∀ b o,J b=some o->l2 J os e b=some o:=by
 obtain⟨a,n,c,aS⟩:=os;cases a with
 |none=>exact λ_ _ h=>h
 |some g=>exact j0 (h ⟨g,_⟩ (.head _))
def Nc{e:Nat}(h:os.ok size xs)(ag:os.n*b<=140737488355328):cx (l2 J os e) (os.a.map λg=>⟨g,0,none⟩) os.n os.c size b xs:=by
 obtain⟨a,n,c,aS⟩:=os;cases a with
 |none=>obtain⟨aa,ad⟩:=h.nil rfl;exact⟨h.len,⟨aj',ag⟩,.inl aa⟩
 |some g=>obtain⟨aa,ad,aj,aJ⟩:=h.cap g rfl;exact⟨h.len,⟨ad,ag⟩,.inr ⟨⟨g,0,none⟩,rfl,rfl,aS.toArray,e,(0,0),mg ..,v6⟩⟩
section
end
section
end
def arW(ao:mR I)(au:t.ok I)(af:right t=true)(aC:t.n<=1099511627776){node:Nat}(Fg:node<t.n) :
  Spec Tryz.prog 211 [t.val,.int .i64 node] I M0 λv I' M'=>(∀ b o,I b=some o->I' b=some o)/\M'=M0/\∃ bi:bs,v=.tuple #[bi.val,.bool true]/\bi.ok I'/\pP t node bi:=by
 refine bU [] a0 Tryz.func211 rfl rfl rfl ?_;intro B ax;refine a8.mk [] M0 _ (.refl _) (nx ao au) ?_;rintro v J N -⟨rfl,a4,rfl⟩;subst J;refine b5.mk (λ_=>?_) (λh=>absurd h (by simp[af]));have fg:decide (((node:Nat):Int)<0)=false:=e8 Z;have gB:decide (((t.n:Nat):Int)<=((node:Nat):Int))=false:=e8 Z;refine b5.mk (λ_=>?_) (λh=>absurd (fg.symm.trans h) am);refine aZ.mk (λh=>absurd (gB.symm.trans h) am) (λ_=>?_);refine a8.whole _ (IL au af aC Fg) ?_;rintro v J N -⟨a4,rfl,bi,rfl,jw,av⟩;exact⟨_,_,.refl,a4,rfl,bi,rfl,jw,av⟩
def ad0(au:t.ok I)(ae:rV t.ns){T:aN}(a6:cB t.ns T)(pB:t.bx=(T.br:Int))(aC:t.n<=1099511627776)(aI:cx I pa pn pc 1 8 (path.map (.int .i64 ·))) :
  Spec Tryz.prog 214 [t.val,.slice pa pn pc] I M0 λv I' M'=>(∀ b o,I b=some o->I' b=some o)/\M'=M0/\∃ (s0:Option Addr) (HW gE k:Nat) (b:Bool),v=.tuple #[.slice s0 HW gE,.int .i64 k,.bool b] /\
   match T.go path with
   |none=>b=false| some S=>b=true/\k=S.br/\HW=path.length/\cx I' s0 path.length gE 2 16 ((T.o9 path).flatMap ug):=by
 refine Spec.jN (Spec.frame (Spec.jg (aru au ae a6 pB aC aI))) ?_;rintro v J M⟨M',rfl,-,a4,rfl,-,I',M1,⟨rfl,os,l,k,b,rfl,rfl,b3,h⟩,bw⟩;have arv:=a6.nb;have g7:=au.n;refine⟨a4,rfl,os.a.map λg=>⟨g,0,none⟩,os.n,os.c,k,b,rfl,?_⟩;cases aw:T.go path with
 |none=>rw[aw]at h;exact h
 |some S=>
  rw[aw]at h;obtain⟨aa,ad,rfl,aJ⟩:=h;have hX:os.n=path.length:=by have:=b3.len;rw[hc ug 2 (λ_=>rfl),Je]at this;omega
  have:=aT.jg (b:=16) (e:=296) bw b3 (λz bg=>bg) (by rw[Je]at aJ;omega);rw[hX]at this;exact⟨aa,ad,hX,this⟩
def g8.FJ(h:g8 t):∃ T:aN,t.bx=(T.br:Int)/\cB t.ns T/\bV t=T.bare t.ns/\T.cX.Nodup/\T.cX.length<=t.ns.length:=by obtain⟨g0,hy⟩:=h.bx;obtain⟨r,eb⟩:=eh g0;obtain⟨T,aa,ad,aj,aJ⟩:=h.lt (j:=r) Z;refine⟨T,by rw[aa];exact eb,ad,by unfold bV;rw[eb];exact aj,aJ,ME aJ λx ab=>ad.lt x ab⟩
def mR.mono(h:mR I)(bE:∀ b o,I b=some o->I' b=some o):mR I':=by obtain⟨T,an,h⟩:=h;exact⟨T,an,bE _ _ h⟩
def TH:Value:=.agg #[.slice none 0 0,.int .i64 0]
def oo(X:Option aP)(I:aH)(M0:List aA)(v:Value)(I':aH)(M':List aA):Prop:=(∀ b o,I b=some o->I' b=some o)/\M'=M0 /\
 match X with
 |none=>v=.tuple #[TH,.bool false]| some X=>∃ bi:bs,v=.tuple #[bi.val,.bool true]/\bi.ok I'/\lz bi X/\eT X/\ji X
def arX(ao:mR I)(au:t.ok I)(af:right t=true)(aC:t.n<=1099511627776)(aI:cx I pa pn pc 1 8 (path.map (.int .i64 ·))) :
  Spec Tryz.prog 139 [t.val,.slice pa pn pc] I M0 (oo ((bV t).go path) I M0):=by
 have aM:=jd.1 af;obtain⟨T,jG,hK,pY,TI,arY⟩:=aM.FJ;have g7:=au.n;rw[show(bV t).go path=(T.go path).map (aN.bare t.ns)from by rw[pY,bare_go]];refine bU [] a0 Tryz.func139 rfl rfl rfl ?_;intro B ax;have dB:=nx ao au;rw[af]at dB;refine a8.mk [] M0 _ (.refl _) dB ?_;rintro v J N -⟨rfl,a4,rfl⟩;subst J;refine aZ.mk (λh=>ci) (λ_=>?_);refine a8.mk [] M0 _ (.refl _) (ad0 (M0:=[]) au aM.w9 hK jG aC aI) ?_;rintro v J M1 -⟨a4,rfl,s0,HW,gE,k,b,rfl,h⟩;refine aZ.mk (λag=>?_) (λag=>?_)
 ·have ag:(!b)=true:=ag;refine⟨_,_,.refl,a4,rfl,?_⟩;cases aw:T.go path with
  |none=>rfl| some S=>rw[aw]at h;obtain⟨rfl,-⟩:=h;cases ag
 ·have ag:(!b)=false:=ag;obtain⟨S,aw⟩:∃ S,T.go path=some S:=by
   cases aw:T.go path with
   |none=>rw[aw]at h;have h:b=false:=h;rw[h]at ag;cases ag| some S=>exact⟨S,rfl⟩
  rw[aw]at h;obtain⟨rfl,rfl,-,-⟩:=h;have cy:=cB.go path hK aw;have pX:=cy.nb;refine a8.mk [] M0 _ (.refl _) (arW (M0:=[]) (ao.mono a4) (au.mono a4) af aC (show S.br<t.n by omega)) ?_;rintro v cv dv -⟨cj,rfl,bi,rfl,jw,av⟩;refine⟨_,_,.refl,λb o h=>cj _ _ (a4 _ _ h),rfl,?_⟩;rw[aw];refine⟨bi,rfl,jw,?_,?_,?_⟩;·have:=ac4 aM pX av;rwa [ML aM.w9 cy]at this
  ·exact MM aM.fit cy
  ·exact ac6 _ _
def arZ(yR:en I ay){x:bs}(au:t.ok I)(ab:x.ok I)(af:right t=true)(m7:right x=true)(aC:t.n+x.n<=1099511627776)(aI:cx I pa pn pc 1 8 (path.map (.int .i64 ·))) :
  Spec Tryz.prog 142 [t.val,.slice pa pn pc,x.val] I [] (oo (((bV t).go path).map λ_=>((bV t).put path (bV x)).lA) I []):=by
 have aM:=jd.1 af;have ad1:=jd.1 m7;obtain⟨T,jG,hK,pY,TI,arY⟩:=aM.FJ;obtain⟨X,ar0,ar1,ad2,ayk,ar2⟩:=ad1.FJ;have g7:=au.n;have rP:=ab.n;rw[show((bV t).go path).map (λ_=>((bV t).put path (bV x)).lA)=(T.go path).map (λ_=>((bV t).put path (bV x)).lA)from by rw[show(bV t).go path=(T.go path).map (aN.bare t.ns)from by rw[pY,bare_go],Option.map_map];rfl];refine bU [] a0 Tryz.func142 rfl rfl rfl ?_;intro B ax;have dB:=nx yR.c au;rw[af]at dB;have ad3:=nx yR.c ab;rw[m7]at ad3;refine a8.mk [] [] _ (.refl _) dB ?_;rintro v J N -⟨rfl,a4,rfl⟩;subst J;refine b5.mk (λh=>?_) (λh=>ci);refine a8.mk [] [] _ (.refl _) ad3 ?_;rintro v J N -⟨rfl,a4,rfl⟩;subst J;refine aZ.mk (λh=>ci) (λ_=>?_);refine a8.mk [] [] _ (.refl _) (ad0 (M0:=[]) au aM.w9 hK jG Z aI) ?_;rintro v J M1 -⟨a4,rfl,s0,HW,gE,k,b,rfl,h⟩;refine aZ.mk (λag=>?_) (λag=>?_)
 ·have ag:(!b)=true:=ag;refine⟨_,_,.refl,a4,rfl,?_⟩;cases aw:T.go path with
  |none=>rfl| some S=>rw[aw]at h;obtain⟨rfl,-⟩:=h;cases ag
 ·have ag:(!b)=false:=ag;obtain⟨S,aw⟩:∃ S,T.go path=some S:=by
   cases aw:T.go path with
   |none=>rw[aw]at h;have h:b=false:=h;rw[h]at ag;cases ag| some S=>exact⟨S,rfl⟩
  rw[aw]at h;obtain⟨rfl,rfl,rfl,mZ⟩:=h;have Gc:=adM (ab.mono a4) ad1.fit ar1 (os:=hL) (ns:=[]) (kL 9) (λd ai=>qr) l1.nil (by simp only[hj];omega);rw[<-ar0]at Gc;refine a8.mk [] [] _ (.refl _) Gc ?_;rintro v h0 M1 g1⟨tx,cW,hQ,rfl,rfl,M8,qR,C3,Fq,ayl,hU,ar3,AO⟩;have aym:cW.length=X.cX.length:=by simpa using Fq
  rw[<-hU]at C3;have fI:=arM (au.mono (λb o h=>g1 _ _ (a4 _ _ h))) aM.fit aM.w9 hK aw (mZ.mono g1) qR.os qR.ok C3 ar3 Z Z;rw[hU]at fI;refine a8.mk (tx.ar 88) hQ _ ak' fI ?_;rintro v cv dv cj⟨ld,m2,om,TJ,rfl,rfl,xg,FG,TK,ad4,rM⟩;have lq:ld.n=m2.length:=by have:=xg.os.len;rw[hc _ 9 al.cL]at this;omega
  refine a8.vW λeY=>?_;have l0:((ld.ar 88++om)++hQ).Perm (ld.ar 88++(om++hQ)):=by rw[dW]
  have ar4:=l7.FB (os:=ld) (e:=88) (foot:=[]) eY l0 (λx ab=>wl);obtain⟨hN,hw,bn,ar5,-⟩:=aT.zL (b:=96) (e:=88) xg.os Z ar4 (om++hQ);have ad5:=TK.nb;obtain⟨t3,x7⟩:∃ t3:bs,t3=⟨m2,ld.a.map λg=>⟨g,0,none⟩,ld.n,ld.c,TJ.br⟩:=⟨_,rfl⟩;have zl:t3.ok hN:=by rw[x7];exact⟨ar5,λd ai=>(xg.ok d ai).mono bn,⟨ce,ce⟩⟩
  have yw:g8 t3:=FG.right (by rw[x7]) (by rw[x7]);have h':bV t3=(bV t).put path (bV x):=by rw[pY,ad2,<-AO,<-ad4,x7];exact ML FG.wd.ap TK
  have ar6:eT (bV t3):=by have:=MM yw.fit (T:=TJ) (by rw[x7];exact TK);rw[h',pY,ad2,<-AO,<-ad4];rw[x7]at this;exact this
  have ad6:=M3 (M0:=[]) ((yR.mono (λb o h=>bn _ _ (cj _ _ (g1 _ _ (a4 _ _ h)))))) zl (jd.2 yw) (by rw[x7];simp only;omega);rw[show t3.val=.agg #[ld.val,.int .i64 TJ.br]from by rw[x7];rfl]at ad6;refine a8.sd hN [] (om++hQ) _ (.perm l0 (hw _ _ .refl)) ad6 ?_;rintro v qS rj lC -⟨-,rfl,bi,rfl,jw,dp⟩;refine⟨_,_,.sub (fs _) .refl,λb o h=>lC _ _ (bn _ _ (cj _ _ (g1 _ _ (a4 _ _ h)))),rfl,?_⟩;rw[aw];refine⟨bi,rfl,jw,?_,?_,I9 _⟩;·rw[<-h'];exact dp
  ·rw[<-h'];exact C0 ar6
def ar7(yR:en I ay){x:bs}(au:t.ok I)(ab:x.ok I)(af:right t=true)(m7:right x=true)(aC:t.n+x.n<=1099511627776)(aI:cx I pa pn pc 1 8 (path.map (.int .i64 ·))) :
  Spec Tryz.prog 142 [t.val,.slice pa pn pc,x.val] I M0 (oo (((bV t).go path).map λ_=>((bV t).put path (bV x)).lA) I M0):=by
 refine(Spec.frame (arZ yR au ab af m7 aC aI)).MO ?_;rintro v I' M'⟨M1,rfl,-,-,aa,rfl,ad⟩;exact⟨aa,rfl,ad⟩
def pZ(g:cE)(rule:Int)(path:List Int):Option aP:=if 0<=rule/\rule<(g.ds.length:Int)then(bV (g.ds.getD rule.toNat jR).t).go path else none
structure TL(g:cE):Prop where
 r:∀ d∈g.ds,right d.t=true
 n:∀ d∈g.ds,d.t.n<=549755813888
def Jf(rule:Int)(pa:Option Addr)(pn pc:Nat):Value:=.agg #[.int .i64 rule,.slice pa pn pc]
def oo.shape{X:Option aP}{v:Value}{M':List aA}(h:oo X I M0 v I' M'):∃ a n c r b,v=.tuple #[.agg #[.slice a n c,.int .i64 r],.bool b]/\b=X.isSome:=by
 obtain⟨-,-,h⟩:=h;cases X with
 |none=>exact⟨none,0,0,0,false,h,rfl⟩| some X=>obtain⟨bi,rfl,-⟩:=h;exact⟨_,_,_,_,true,rfl,rfl⟩
def ad7(ao:mR I)(aw:g.ok I)(g3:TL g)(aI:cx I pa pn pc 1 8 (path.map (.int .i64 ·))) :
  Spec Tryz.prog 66 [g.val,Jf rule pa pn pc] I M0 (oo (pZ g rule path) I M0):=by
 have ic:=aw.n;refine bU [] a0 Tryz.func66 rfl rfl rfl ?_;intro B ax;refine b5.mk (λh=>?_) (λh=>?_)
 ·have aa:¬ rule<0:=dU h;refine aZ.mk (λad=>?_) (λad=>?_)
  ·have ad:(g.n:Int)<=rule:=cT ad;refine⟨_,_,.refl,λ_ _ h=>h,rfl,?_⟩;unfold pZ;rw[bS Z];rfl
  ·have ad:¬ (g.n:Int)<=rule:=dU ad;obtain⟨u,rfl⟩:=eh (show 0<=rule by omega);have hu:u<g.ds.length:=by omega
   obtain⟨aR,bI,bo⟩:=aw.bb.row a3.cL (j:=u) Z hu;have ai:=aw.ds _ (bK hu);have af:=g3.r _ (bK hu);have TB:=g3.n _ (bK hu);have eW:pZ g (u:Int) path=(bV g.ds[u].t).go path:=by unfold pZ;rw[b2 Z,hC];simp[bT,hu]
   have eS:=arX (M0:=[]) ao ai.t af Z aI;rw[<-eW]at eS;refine cY.draw a0 rfl rfl rfl ?_;refine bt.mk aR u bI rfl Z ?_;refine aU.mk _ ((bo _).part (k:=1) (m:=2) bv) ?_;refine a8.mk [] M0 _ (.refl _) eS ?_;rintro v J M1-h;obtain⟨a,n,c,r,b,rfl,-⟩:=h.shape;obtain⟨eg,rfl,e0⟩:=h;exact⟨_,_,.refl,eg,rfl,e0⟩
 ·have aa:rule<0:=cT h;refine⟨_,_,.refl,λ_ _ h=>h,rfl,?_⟩;unfold pZ;rw[bS Z];rfl
def ar8(g:cE)(rule:Int)(X:Option aP)(I:aH)(M0:List aA)(v:Value)(I':aH)(M':List aA):Prop:=(∀ b o,I b=some o->I' b=some o)/\M'=M0 /\
 match X with
 |none=>v=.tuple #[.agg #[.slice none 0 0],.bool false]| some X=>∃ (h:cE) (bi:bs),v=.tuple #[h.val,.bool true]/\h.ok I'/\h.n=g.n/\h.ds.map a3.aW=(g.ds.set rule.toNat ⟨(g.ds.getD rule.toNat jR).name,bi⟩).map a3.aW/\lz bi X/\eT X/\ji X
def vJ(g:cE)(rule:Int)(path:List Int)(x:aP):Option aP:=(pZ g rule path).map λ_=>((bV (g.ds.getD rule.toNat jR).t).put path x).lA
def ar9(yR:en I ay)(aw:g.ok I)(g3:TL g)(x2:g.n<=1000000){x:bs}(ab:x.ok I)(m7:right x=true)(rP:x.n<=549755813888)(aI:cx I pa pn pc 1 8 (path.map (.int .i64 ·))) :
  Spec Tryz.prog 69 [g.val,Jf rule pa pn pc,x.val] I M0 (ar8 g rule (vJ g rule path (bV x)) I M0):=by
 have ic:=aw.n;refine bU [] a0 Tryz.func69 rfl rfl rfl ?_;intro B ax;refine b5.mk (λh=>?_) (λh=>?_)
 ·have aa:¬ rule<0:=dU h;refine aZ.mk (λad=>?_) (λad=>?_)
  ·have ad:(g.n:Int)<=rule:=cT ad;refine⟨_,_,.refl,λ_ _ h=>h,rfl,?_⟩;unfold vJ pZ;rw[bS Z];rfl
  ·have ad:¬ (g.n:Int)<=rule:=dU ad;obtain⟨u,rfl⟩:=eh (show 0<=rule by omega);have hu:u<g.ds.length:=by omega
   obtain⟨aR,bI,bo⟩:=aw.bb.row a3.cL (j:=u) Z hu;have ai:=aw.ds _ (bK hu);have af:=g3.r _ (bK hu);have TB:=g3.n _ (bK hu);have qo:g.ds.getD u jR=g.ds[u]:=by simp[bT,hu]
   have eW:vJ g (u:Int) path (bV x)=((bV g.ds[u].t).go path).map λ_=>((bV g.ds[u].t).put path (bV x)).lA:=by unfold vJ pZ;rw[b2 Z,hC,qo]
   have eS:=ar7 (M0:=[]) yR ai.t ab af m7 Z aI;rw[<-eW]at eS;refine cY.Bn a0 rfl rfl rfl (ι:=Nat×Option Addr×Nat×Nat×Int×Bool×aH) (λy=>{ bp:=[(3,.ref 3 0),(4,.ref 4 0),(6,.ref 6 0),(8,.val (ptr y.1)),(9,.val (.bool y.2.2.2.2.2.1))],cl:=[(3,[.slice g.a g.n g.c]),(4,[.int .i64 u,.slice pa pn pc]),(6,[.slice none 0 0])],cO:=y.2.2.2.2.2.2,c5:=⟨y.1,.cells #[.slice y.2.1 y.2.2.1 y.2.2.2.1,.int .i64 y.2.2.2.2.1] 24 (0,0)⟩::M0 }) (λy=>oo (vJ g (u:Int) path (bV x)) I [] (.tuple #[.agg #[.slice y.2.1 y.2.2.1 y.2.2.2.1,.int .i64 y.2.2.2.2.1],.bool y.2.2.2.2.2.1]) y.2.2.2.2.2.2 []) ?_ ?_
   ·refine bt.mk aR u bI rfl Z ?_;refine aU.mk _ ((bo _).part (k:=1) (m:=2) bv) ?_;refine⟨?_,?_⟩
    ·refine a8.mk [] M0 _ (.refl _) eS ?_;rintro v J M1 a4 h;obtain⟨a,n,c,r,b,rfl,-⟩:=h.shape;obtain⟨eg,rfl,e0⟩:=h;refine bQ.mk λdL sL vK=>?_;refine b4.mk [] M0 _ _ rfl rfl (bJ rfl) rfl ?_;exact⟨(dL,a,n,c,r,b,J),⟨eg,rfl,e0⟩,.refl,hh,.cons rfl (.cons rfl (.cons rfl (.nil)))⟩
    ·refine bQ.mk λdL sL vK=>?_;refine ev.mk _ eS ?_;rintro v J M1 a4 h;obtain⟨a,n,c,r,b,rfl,-⟩:=h.shape;obtain⟨eg,rfl,e0⟩:=h;refine b4.mk [] M0 _ _ rfl rfl (bJ rfl) rfl ?_;exact⟨(dL,a,n,c,r,b,J),⟨eg,rfl,e0⟩,.refl,hh,.cons rfl (.cons rfl (.cons rfl (.nil)))⟩
   rintro⟨dL,a,n,c,r,b,J⟩asa;obtain⟨eg,-,e0⟩:=asa;simp only at eg e0;refine aZ.mk (λag=>?_) (λag=>?_)
   ·have ag:(!b)=true:=ag;refine⟨_,_,.sub (.cons _ (.refl _)) .refl,eg,rfl,?_⟩;cases hB:vJ g (u:Int) path (bV x)with
    |none=>rfl
    |some X=>
     rw[hB]at e0;obtain⟨bi,e,-⟩:=e0;injection e with e
     simp at e;rw[e.2]at ag;cases ag
   ·have ag:(!b)=false:=ag;obtain⟨X,hB⟩:∃ X,vJ g (u:Int) path (bV x)=some X:=by
     cases hB:vJ g (u:Int) path (bV x)with
     |none=>
      rw[hB]at e0;have e0:Value.tuple #[.agg #[.slice a n c,.int .i64 r],.bool b]=.tuple #[TH,.bool false]:=e0;injection e0 with e
      simp[TH]at e;rw[e.2]at ag;cases ag
     |some X=>exact⟨X,rfl⟩
    rw[hB]at e0;obtain⟨bi,e,jw,dp,bf,s3⟩:=e0;have ba:Value.agg #[.slice a n c,.int .i64 r]=bi.val:=by
     injection e with e
     simp at e;rw[<-e.1]
    have zv:=aoD (M0:=[]) (aw.mono eg) hu Z jw;rw[<-ba]at zv;refine aU.mk [.slice a n c,.int .i64 r] ⟨rfl,_,_,_,.inr ⟨_,.head _,rfl,rfl⟩,rfl,rfl⟩ ?_;refine a8.mk [] _ _ (.refl _) zv ?_;rintro v cv dv -⟨cj,rfl,bd,rfl,kn,zc,ej⟩;refine⟨_,_,.sub (.cons _ (.refl _)) .refl,λb o h=>cj _ _ (eg _ _ h),rfl,?_⟩;rw[hB];refine⟨bd,bi,rfl,kn,zc,?_,dp,bf,s3⟩;rw[hC,qo];exact ej
 ·have aa:rule<0:=cT h;refine⟨_,_,.refl,λ_ _ h=>h,rfl,?_⟩;unfold vJ pZ;rw[bS Z];rfl
def TM{X:aP}(hB:eT X):∀ (p:List Int) {T:aP},eT T->eT (T.put p X)
 |[],T,h=>hB
 |i::p,.mk d ks,h=>by
  obtain⟨aE,ae⟩:=h.inv;rw[aP.put];show eT (aP.mk d (ks.set i.toNat ((ks.getD i.toNat (.mk d ks)).put p X)));refine .mk (by rw[rD];exact aE) λc ao=>?_;rcases w0 ao with ao | rfl;·exact ae c ao
  ·refine TM hB p ?_;rw[bT];cases e:ks[i.toNat]? with
   |none=>exact h| some c=>exact ae c (r7 e)
def ad8{P:al->Prop}:∀ (p:List Int) {T S:aP},h2 P T->T.go p=some S->h2 P S
 |[],T,S,h,e=>by rw[aP.go]at e;cases e;exact h
 |i::p,.mk d ks,S,h,e=>by
  rw[aP.go]at e;split at e
  ·refine ad8 p ?_ e;show h2 P (ks.getD i.toNat (.mk d ks));rw[bT];cases e:ks[i.toNat]? with
   |none=>exact h| some c=>exact h.inv.2 c (r7 e)
  ·cases e
def ad9:∀ (p:List Int) {T S:aP},eT T->T.go p=some S->eT S
 |[],T,S,h,e=>by rw[aP.go]at e;cases e;exact h
 |i::p,.mk d ks,S,h,e=>by
  rw[aP.go]at e;split at e
  ·refine ad9 p ?_ e;show eT (ks.getD i.toNat (.mk d ks));rw[bT];cases e:ks[i.toNat]? with
   |none=>exact h| some c=>exact h.inv.2 c (r7 e)
  ·cases e
def TN(h:right t=true):eT (bV t):=by obtain⟨T,aa,ad,aj,aJ,bD⟩:=(jd.1 h).FJ;rw[aj];exact MM (jd.1 h).fit ad
def Nd(h:right t=true):ud pl F t=(bV t).fold (hO pl F):=by obtain⟨g0,hy⟩:=kE h;obtain⟨r,af⟩:=eh g0;unfold ud acq bV;rw[af];exact aqc (λd l=>rfl) (jd.1 h) Z
def xh(ay:List Int)(g:cE)(u:Nat)(X:aP):Bool:=decide (dO ay (ly (eE g.ds u (iK X.post)))=0)
structure Jg(ay:List Int)(g:cE)(F:List aX):Prop where
 n:g.ds.length=g.n
 m:dO ay g=0
 Ix:ie g.ds F
 left:(rQ g.ds F).length=0
 loops:(pV g.ds F).length=0
def j6.Jh(aC:g.ds.length=g.n){r:Int×Int}(h:j6 ay g r)(ax:r.2=0):∃ F,Jg ay g F:=by
 have hm:dO ay g=0:=by
  rcases h with⟨a,e⟩ | ⟨a,-⟩;·rw[e]at ax;exact ax
  ·exact a
 obtain⟨aa,ad⟩:=(h.get hm).1 ax;rcases h with⟨a,-⟩ | ⟨-,F,bw,-⟩
 ·exact absurd hm a
 rw[Ss bw]at aa ad;exact⟨F,aC,hm,bw,aa,ad⟩
def asb(hm:dO ay g=0){d:a3}(ai:d∈g.ds):normal d.t=true:=by have:=fN.1 (IS.1 hm).2.1 d ai;rw[cC]at this;exact this.2
def qT(hm:dO ay g=0){d:a3}(ai:d∈g.ds):right d.t=true:=(Tw.1 (asb hm ai)).1
def aea{X:aP}(h:lz t X)(aC:t.ns.length=t.n):t.aW=(iK X.post).aW:=by
 have az:X.post.length=t.ns.length:=by rw[<-h.aW,bB]
 have e:X.post.map al.aW=X.post:=by refine oA am λi aa ad=>?_;rw[gh];exact ac0 X _ (bK _)
 unfold bs.aW iK;simp only[h.aW,e,h.bx,az,aC]
def aeb{ds:List a3}{Oe:bs}(h:y.aW=Oe.aW):(eE ds u y).map a3.aW=(eE ds u Oe).map a3.aW:=by unfold eE;rw[ri,ri];congr 1;unfold a3.aW;rw[h]
def asc(ic:g.ds.length=g.n){X:aP}(dp:lz bi X)(aC:bi.ns.length=bi.n)(uf:h.n=g.n)(ao:h.ds.map a3.aW=(eE g.ds u bi).map a3.aW):xh ay g u X=decide (dO ay h=0):=by
 unfold xh;congr 1;have:dO ay (ly (eE g.ds u (iK X.post)))=dO ay h:=by rw[<-B9,<-B9 ay h];congr 1;unfold cE.aW ly;rw[ao,uf,rZ,ic,aeb (aea dp aC)]
 rw[this]
section
end
structure l3(x y:w7):Prop where
 bp:x.1.1.le y.1.1
 Ji:∀ k∈x.1.2,k∈y.1.2
 e7:x.2=true->y.2=true
def l3.rfl'(x:w7):l3 x x:=⟨aX.le_refl _,λ_ h=>h,λh=>h⟩
def l3.trans{x y z:w7}(h:l3 x y)(bd:l3 y z):l3 x z:=⟨h.bp.trans bd.bp,λk ae=>bd.Ji k (h.Ji k ae),λe=>bd.e7 (h.e7 e)⟩
def aec:∀ {xs ys:List (aX×List Nat)},xs.length=ys.length->(∀ i (h:i<xs.length) (bd:i<ys.length),(xs[i].1.z=true->ys[i].1.z=true)/\∀ k∈xs[i].2,k∈ys[i].2)->∀ k∈j4 xs,k∈j4 ys
 |[],[],_,_,k,h=>by cases h
 |x::xs,y::ys,az,h,k,ae=>by
  have ax:=h 0 am am;simp only[ti]at ax;rw[j4]at ae |-;rcases c1.1 ae with ae | ae;·exact iv _ (ax.2 k ae)
  ·cases bg:x.1.z with
   |false=>rw[bg]at ae;cases ae
   |true=>
    rw[bg]at ae;rw[ax.1 bg];exact r6 _ (aec (xs:=xs) (ys:=ys) pp (λi g ei=>by
     have aa:=h (i+1) d4 d4;simpa only[Gz]using aa) k ae)
def dP.HP{a b:List aX}(az:a.length=b.length)(h:∀ i (aa:i<a.length) (ad:i<b.length),(a[i]).le b[i]):dP a b:=by
 refine dP.of az λi hi=>?_;have ad:i<b.length:=by omega
 have:=h i hi ad;simpa[bT,hi,ad]using this
def TO(bw:dP c7 F)(d:al){xs ys:List w7}(az:xs.length=ys.length)(h:∀ i (ab:i<xs.length) (aG:i<ys.length),l3 xs[i] ys[i]):l3 (hO pl c7 d xs) (hO pl F d ys):=by
 have hm:dP ((xs.map (·.1)).map (·.1)) ((ys.map (·.1)).map (·.1)):=by refine dP.HP pp λi aa ad=>?_;simp only[gh];exact(h i rx wf).bp
 have Si:∀ k∈(xs.map (·.1)).flatMap (·.2),k∈(ys.map (·.1)).flatMap (·.2):=by
  intro k ae;obtain⟨x,ab,ae⟩:=hl.1 ae;obtain⟨q,aO,rfl⟩:=iI ab;simp only[gh]at ae;have aO:q<xs.length:=by simpa using aO
  have fv:(ys[q]' Z).1∈ys.map (·.1):=xd (bK _);exact hl.2 ⟨_,fv,(h q aO Z).Ji k ae⟩
 refine⟨?_,?_,?_⟩
 ·refine XN d (dP.append hm ?_);cases decide (d.k=3)with
  |true=>exact .cons (dP.getD bw _) .nil| false=>exact .nil
 ·show ∀ k∈lg pl d (xs.map (·.1)),k∈lg pl d (ys.map (·.1));unfold lg;by_cases cA:d.k=3
  ·rw[gy cA];exact λk ae=>ae
  rw[e8 cA];by_cases ee:d.k=4;·rw[gy ee];refine aec pp λi aa ad=>?_;simp only[gh];have:=h i rx wf;exact⟨this.bp.z,this.Ji⟩
  rw[e8 ee];by_cases m4:d.k=6/\d.hi=0;·rw[gy m4.1,gy m4.2];exact λk ae=>ae
  ·have e:(decide (d.k=6)&&decide (d.hi=0))=false:=by rw[<-I5];exact e8 m4
   rw[e];exact Si
 ·show yA pl c7 d xs=true->yA pl F d ys=true;intro ax;obtain⟨x,ab,ax⟩:=E5.1 ax;obtain⟨q,aO,rfl⟩:=iI ab;have aM:=h q aO Z;refine E5.2 ⟨_,bK (show q<ys.length by omega),?_⟩;rcases apt ax with aa | aa
  ·rw[cC,cC]at aa;rw[aa.1,aa.2.1,aM.bp.z aa.2.2];rfl
  ·rw[aM.e7 aa,K2]
def asd(bw:dP c7 F):∀ T:aP,l3 (T.fold (hO pl c7)) (T.fold (hO pl F)):=by
 intro T
 induction T using aP.ind with
 |h d ks aQ=>rw[aP.fold_eq,aP.fold_eq];refine TO bw d am λi aa ad=>?_;simp only[gh];exact aQ _ (bK _)
def aed{pl:List (ByteArray×Int)}{F:List aX}{X S:aP}(hB:l3 (X.fold (hO pl F)) (S.fold (hO pl F))):∀ (p:List Int) (T:aP),T.go p=some S->l3 ((T.put p X).fold (hO pl F)) (T.fold (hO pl F))
 |[],T,h=>by rw[aP.go]at h;cases h;exact hB
 |i::p,.mk d ks,h=>by
  rw[aP.go]at h;split at h
  ·rename_i hi;have hi:0<=i/\i<(ks.length:Int):=hi;obtain⟨q,rfl⟩:=eh hi.1;have aO:q<ks.length:=by omega
   have aQ:=aed hB p _ h;rw[aP.put];show l3 ((aP.mk d (ks.set q ((ks.getD q (.mk d ks)).put p X))).fold _) _;rw[aP.fold_eq,aP.fold_eq];refine TO (dP.refl _) d am λj aa ad=>?_;rw[gh,gh,Oy];split
   ·rename_i e;subst e;have ba:(aP.mk d ks).sub.getD ((q:Int)).toNat (.mk d ks)=ks[q]:=by show ks.getD q _=_;simp[bT,aO]
    rw[ba]at aQ;have cA:ks.getD q (.mk d ks)=ks[q]:=by simp[bT,aO]
    rw[cA];exact aQ
   ·exact l3.rfl' _
  ·cases h
structure xi(ds:List a3)(u:Nat)(y:bs):Prop where
 ul:u<ds.length
 r:right y=true
 rel:∀ F:List aX,l3 (ud (bM ds) F y) (ud (bM ds) F (ds.getD u jR).t)
section
variable{ds:List a3}{u:Nat}{y:bs}(gg:xi ds u y)(af:∀ d∈ds,right d.t=true)
include gg af
theorem xi.ase:ds.getD u jR=ds[u]'gg.ul:=by have:=gg.ul;simp[bT,this]
theorem xi.bl{i:Nat}(hi:i<(eE ds u y).length):right ((eE ds u y)[i]).t=true/\∀ F,l3 (ud (bM ds) F ((eE ds u y)[i]).t) (ud (bM ds) F (ds[i]'(by rw[rZ]at hi;exact hi)).t):=by
 have cz:i<ds.length:=by rw[rZ]at hi;exact hi
 by_cases e:i=u
 ·subst e;have aj:=M4 (y:=y) gg.ul;rw[dy hi]at aj;rw[e1 aj];refine⟨gg.r,λF=>?_⟩;have:=gg.rel F;rw[gg.ase af]at this;exact this
 ·have aj:=Tu (ds:=ds) (y:=y) e;rw[dy hi,dy cz]at aj;rw[e1 aj];exact⟨af _ (bK cz),λF=>l3.rfl' _⟩
theorem xi.Ix(bw:ie ds F)(mE:ie (eE ds u y) c7):dP c7 F:=by
 refine mE.least F (by rw[rZ];exact bw.len) λi hi=>?_;have cz:i<ds.length:=by rw[rZ]at hi;exact hi
 obtain⟨aa,ad⟩:=gg.bl af hi;rw[Tt,adE aa,bw.fix i cz,adE (af _ (bK cz))];exact(ad F).bp
theorem xi.bG(bw:ie ds F)(mE:ie (eE ds u y) c7){i:Nat}(hi:i<(eE ds u y).length):l3 (ud (bM ds) c7 ((eE ds u y)[i]).t) (ud (bM ds) F (ds[i]'(by rw[rZ]at hi;exact hi)).t):=by obtain⟨aa,ad⟩:=gg.bl af hi;refine l3.trans ?_ (ad F);rw[Nd aa,Nd aa];exact asd (gg.Ix af bw mE) _
theorem xi.aee(bw:ie ds F)(mE:ie (eE ds u y) c7){i k:Nat}(ae:k∈lY (eE ds u y) c7 i):k∈lY ds F i:=by
 by_cases hi:i<(eE ds u y).length
 ·have cz:i<ds.length:=by rw[rZ]at hi;exact hi
  obtain⟨aa,-⟩:=gg.bl af hi;unfold lY at ae |-;rw[dy hi,Tt]at ae;rw[dy cz];have ae:k∈(gu (bM ds) c7 (eE ds u y)[i].t.ns (eE ds u y)[i].t.bx).2:=ae;show k∈(gu (bM ds) F ds[i].t.ns ds[i].t.bx).2;rw[<-adF aa]at ae;rw[<-adF (af _ (bK cz))];exact(gg.bG af bw mE hi).Ji k ae
 ·rw[abF Z]at ae;cases ae
theorem xi.comes(bw:ie ds F)(mE:ie (eE ds u y) c7){i k:Nat}(ao:ms (lY (eE ds u y) c7) i k):ms (lY ds F) i k:=by
 induction ao with
 |one ae=>exact .one (gg.aee af bw mE ae)| step ah _ aQ=>exact .step (gg.aee af bw mE ah) aQ
theorem xi.asf(bw:ie ds F)(mE:ie (eE ds u y) c7){i:Nat}(he:w3 (eE ds u y) c7 i=true):w3 ds F i=true:=by
 by_cases hi:i<(eE ds u y).length
 ·have cz:i<ds.length:=by rw[rZ]at hi;exact hi
  unfold w3 at he |-;rw[dy hi,Tt]at he;rw[dy cz];exact(gg.bG af bw mE hi).e7 he
 ·unfold w3 at he;rw[tj Z]at he;cases he
theorem xi.Jh(bw:ie ds F)(az:(rQ ds F).length=0)(fg:(pV ds F).length=0){ds':List a3}(ao:ds'.map a3.aW=(eE ds u y).map a3.aW)(mE:ie ds' c7):(rQ ds' c7).length=0/\(pV ds' c7).length=0:=by
 have L2:ie (eE ds u y) c7:=abR (by rw[<-ao];exact aj8 mE);have cQ:ds'.length=ds.length:=by have:=congrArg List.length ao;rw[bB,bB,rZ]at this;exact this
 refine⟨?_,?_⟩
 ·rw[List.length_eq_zero_iff,adp]at az |-;intro i hi;rw[acn]at hi;refine az i (acn.2 ⟨Z,gg.comes af bw L2 ?_⟩);have e:lY ds' c7=lY (eE ds u y) c7:=by funext i;rw[<-SA,ao,SA]
  rw[<-e];exact hi.2
 ·rw[List.length_eq_zero_iff,adp]at fg |-;intro i hi;rw[<-SB,ao,SB]at hi;unfold pV at hi fg;rw[nV,j9,rZ]at hi;exact fg i (nV.2 ⟨j9.2 hi.1,gg.asf af bw L2 hi.2⟩)
end
def kp(g:cE)(u:Nat)(p:List Int)(x:aP):aP:=((bV (g.ds.getD u jR).t).put p x).lA
structure Nf(g:cE)(S x:aP):Prop where
 ok:eT x
 nm:h2 (AL g.ds) S->h2 (AL g.ds) x
 le:∀ F:List aX,l3 (x.fold (hO (bM g.ds) F)) (S.fold (hO (bM g.ds) F))
section
variable{ay:List Int}{g:cE}{F:List aX}(hw:Jg ay g F)
include hw
theorem aef(hu:u<g.ds.length){p:List Int}{x:aP}(ab:eT x):eT (kp g u p x)/\ji (kp g u p x)/\qQ (kp g u p x):=by
 have nT:g.ds.getD u jR=g.ds[u]:=by simp[bT,hu]
 unfold kp;rw[nT];exact⟨C0 (TM ab p (TN (qT hw.m (bK hu)))),I9 _,arh _⟩
theorem asg{p:List Int}{S x:aP}(hu:u<g.ds.length)(cy:(bV g.ds[u].t).go p=some S)(ab:Nf g S x)(dp:lz bi (kp g u p x))(g7:bi.ns.length=bi.n)(uf:h.n=g.n)(ash:h.ds.length=h.n)(ao:h.ds.map a3.aW=(eE g.ds u bi).map a3.aW) :
  (dO ay h=0\/dO ay h=40)/\xh ay g u (kp g u p x)=decide (dO ay h=0)/\∀ r,j6 ay h r->(r.2=0 ↔ dO ay h=0):=by
 obtain⟨bf,ag,D9⟩:=aef hw (p:=p) hu ab.ok;have nT:g.ds.getD u jR=g.ds[u]:=by simp[bT,hu]
 have o5:=dp.right bf;have h':=dp.bV bf ag;have TP:=qT hw.m (bK hu);have asi:∀ d∈g.ds,right d.t=true:=λd ai=>qT hw.m ai;have ed:normal bi=true:=Tw.2 ⟨o5,by rw[h'];exact D9⟩;have nn:∀ d∈bi.ns,AL g.ds d:=by
  have fx:=(IS.1 hw.m).2.2.2.2;have a7:h2 (AL g.ds) (bV g.ds[u].t):=(adI TP).2 λd ai=>fx _ (bK hu) d ai;have:h2 (AL g.ds) (bV bi):=by rw[h'];unfold kp;rw[nT];exact Tx (λd ai=>ai) (λh=>ci) (λh=>ci) (adJ (ab.nm (ad8 p a7 cy)) p a7)
  exact(adI o5).1 this
 have asj:=arl hw.n hw.m hu ed nn uf ao;have aM:xi g.ds u bi:=by refine⟨hu,o5,λc7=>?_⟩;rw[nT,Nd o5,h'];unfold kp;rw[nT,Ts (S6 _ _) (TM ab.ok p (TN TP)),Nd TP];exact aed (ab.le c7) p _ cy
 refine⟨asj,asc hw.n dp g7 uf ao,λr af=>?_⟩;constructor
 ·intro ax;rcases af with⟨a,e⟩ | ⟨a,-⟩
  ·rw[e]at ax;exact ax
  ·exact a
 ·intro hm;rw[af.get hm];rcases af with⟨a,-⟩ | ⟨-,c7,mE,-⟩
  ·exact absurd hm a
  ·rw[Ss mE];exact aM.Jh asi hw.Ix hw.left hw.loops ao mE
end
def asl(_:al)(xs:List Nat):Nat:=xs.sum+1
def dG(T:aP):Nat:=T.fold asl
def lD(d:al)(ks:List aP):dG (.mk d ks)=(ks.map dG).sum+1:=by unfold dG;rw[aP.fold_eq];rfl
def AQ(T:aP):0<dG T:=by
 cases T with
 |mk d ks=>rw[lD];omega
def FK:∀ T:aP,T.post.length=dG T:=by
 intro T
 induction T using aP.ind with
 |h d ks aQ=>rw[aP.kN,apq,lD,gj];congr 2;exact fR λc ao=>aQ c ao
def asm(ns:List al):∀ T:aN,dG (T.bare ns)=T.cX.length:=by
 intro T
 induction T using aN.ind with
 |h k ks aQ=>rw[aN.nc,lD,aN.mw,cn,x',gj,oV];congr 2;exact fR λc ao=>aQ c ao
def aeg{α:Type}(f:α->Nat)(p:α->Bool):∀ l:List α,((l.filter p).map f).sum<=(l.map f).sum
 |[]=>cc _
 |a::l=>by
  have:=aeg f p l;rw[Co];split<;>simp only[b0,hr]<;>omega
def asn(d:al)(xs:List aP):dG (nR d xs)<=(xs.map dG).sum+1:=by
 rw[I7];split
 ·have h:=aeg dG (j7 d) xs;generalize xs.filter (j7 d)=bp at h
  match bp,h with
  |[],_=>rw[lD];simp| [y],h=>simp only[b0,hs,hr,BK]at h;show dG y<=_;omega| CY::CZ::l,h=>rw[lD];omega
 ·rw[lD];exact cc _
def aso:∀ T:aP,dG (T.fold nR)<=dG T:=by
 intro T
 induction T using aP.ind with
 |h d ks aQ=>rw[aP.fold_eq,lD];refine jU (asn d _) ?_;rw[gj];have:=MC (l:=ks) (f:=dG ∘ aP.fold nR) (g:=dG) λc ao=>aQ c ao;omega
def TQ(f:aP->List aP):∀ l:List aP,((l.flatMap f).map dG).sum=(l.map λc=>((f c).map dG).sum).sum
 |[]=>rfl| a::l=>by rw[iA,cR,pG,TQ f l];rfl
def asp:∀ T:aP,dG T.bu<=dG T/\∀ cb,((T.fX cb).map dG).sum<=dG T:=by
 intro T
 induction T using aP.ind with
 |h d ks aQ=>
  have o8:dG (aP.mk d ks).bu<=dG (.mk d ks):=by show dG (.mk d (ks.flatMap (aP.fX (iu d))))<=_;rw[lD,lD,TQ];have:=MC (l:=ks) (f:=λc=>((c.fX (iu d)).map dG).sum) (g:=dG) λc ao=>(aQ c ao).2 _;omega
  refine⟨o8,λcb=>?_⟩;rw[aP.qM];split;·rw[TQ,lD];have:=MC (l:=ks) (f:=λc=>((c.fX cb).map dG).sum) (g:=dG) λc ao=>(aQ c ao).2 _;omega
  ·simpa using o8
def TR(T:aP):dG T.lA<=dG T:=jU (asp _).1 (aso T)
def aeh:∀ (l:List Nat) (i x:Nat) (h:i<l.length),(l.set i x).sum+l[i]=l.sum+x
 |[],i,x,h=>by simp at h
 |a::l,0,x,h=>by simp;omega
 |a::l,i+1,x,h=>by have:=aeh l i x i5;simp only[List.set_cons_succ,hr,Gz];omega
def Jj{X S:aP}:∀ (p:List Int) (T:aP),T.go p=some S->dG (T.put p X)+dG S=dG T+dG X
 |[],T,h=>by rw[aP.go]at h;cases h;rw[aP.put];omega
 |i::p,.mk d ks,h=>by
  rw[aP.go]at h;split at h
  ·rename_i hi;have hi:0<=i/\i<(ks.length:Int):=hi;obtain⟨q,rfl⟩:=eh hi.1;have aO:q<ks.length:=by omega
   have ba:ks.getD q (.mk d ks)=ks[q]:=by simp[bT,aO]
   have aQ:=Jj (X:=X) p _ h;rw[aP.put];show dG (aP.mk d (ks.set q ((ks.getD q (.mk d ks)).put p X)))+_=_;have aQ:dG ((ks.getD q (.mk d ks)).put p X)+dG S=dG (ks.getD q (.mk d ks))+dG X:=aQ;rw[ba]at aQ |-;rw[lD,lD,ri];have aj:=aeh (ks.map dG) q (dG (ks[q].put p X)) (by rw[bB];exact aO);rw[gh]at aj;omega
  ·cases h
def C5(h:right t=true):dG (bV t)<=t.ns.length:=by obtain⟨T,aa,ad,aj,aJ,bD⟩:=(jd.1 h).FJ;rw[aj,asm];exact bD
def bj.minus(x y:bj):bj:=⟨x.a &&& ~~~y.a,x.b &&& ~~~y.b,x.c &&& ~~~y.c,x.d &&& ~~~y.d⟩
def Jk(w:bj):al:=⟨1,w.a.toNat,w.b.toNat,w.c.toNat,w.d.toNat,⟨#[]⟩,0,0,none,0,0,[]⟩
def j8(w:bj):aP:=.mk (Jk w) []
def r2(T:aP):Option bj:=if T.d.k=1 then some T.d.ws else none
def vL(T:aP):Option bj:=if T.d.k=1 then some T.d.ws else if T.d.k=2/\T.d.t.size=1 then some (oP T.d.t.data.toList)else none
def xj(k:Int)(T:aP):Option bj:=if T.d.k=k then(match T.sub with
 |c::_=>r2 c| []=>none)else none
def r3(f:bj->bj->bj):Option bj->Option bj->Option bj
 |some x,some y=>some (f x y)| _,_=>none
def vM(w:Int)(A B:aP):Option bj:=
 if w=1 then r3 bj.or (vL A) (vL B)
 else if w=2 then r3 (λx y=>y.minus x) (xj 8 A) (r2 B)
 else if w=3 then r3 bj.and (xj 7 A) (r2 B)
 else none
def iO(w:Int):Int:=if w=1 then 5 else 4
def qU(k:Int)(l:List aP):aP:=match l with
 |[]=>.mk (nothing (k-4)) []| [x]=>x.lA| x::y::l=>(aP.mk (nothing k) (x::y::l)).lA
def pb(w bl:Int)(S:aP):Option aP:=if S.d.k=iO w/\0<=bl/\bl+1<S.sub.length then(vM w (S.sub.getD bl.toNat S) (S.sub.getD (bl.toNat+1) S)).map λs=>qU (iO w) (S.sub.take bl.toNat++j8 s::S.sub.drop (bl.toNat+2))else none
def p0(g:cE)(u:Nat)(p:List Int)(w bl:Int):Option aP:=((bV (g.ds.getD u jR).t).go p).bind λS=>(pb w bl S).map λx=>kp g u p x
def jS(ay:List Int)(g:cE)(u:Nat)(p:List Int)(w bl:Int):Bool:=match p0 g u p w bl with
 |some X=>xh ay g u X| none=>false
def asq(w:Int):iO w=4\/iO w=5:=by
 unfold iO;split<;>simp
def Ng(h:k=4\/k=5)(aC:2<=n):Go.V.fits (nothing k) n=true:=by
 have ad:¬ ((n:Int)<2):=by omega
 rcases h with rfl | rfl
 ·simp[Go.V.fits,nothing,oE,nw,jq,al.kC];omega
 ·simp[Go.V.fits,nothing,oE,nw,jq,al.kC];omega
def TS(w:bj):eT (j8 w):=.mk (by
 simp[Go.V.fits,Jk,oE,nw,jq]) λc ao=>by cases ao
def asr(ae:k=4\/k=5)(az:∀ c∈l,eT c):eT (qU k l):=by
 cases l with
 |nil=>exact adv (d:=nothing k) ae
 |cons x l=>
  cases l with
  |nil=>exact C0 (az x (.head _))| cons y l=>exact C0 (.mk (Ng ae am) az)
def ass{P:al->Prop}(ag:∀ d,P d->P d.bare)(ax:∀ k,k≠3->P (nothing k))(ae:k=4\/k=5)(az:∀ c∈l,h2 P c):h2 P (qU k l):=by
 have aa:=ag _ (ax 0 bv);have ad:=ag _ (ax 1 bv);cases l with
 |nil=>exact .mk (ax _ Z) λc ao=>by cases ao
 |cons x l=>
  cases l with
  |nil=>exact Tx ag aa ad (az x (.head _))| cons y l=>exact Tx ag aa ad (.mk (ax _ Z) az)
def ast(k:Int)(l:List aP):dG (qU k l)<=(l.map dG).sum+1:=by
 cases l with
 |nil=>exact Nat.le_of_eq (lD _ _)
 |cons x l=>
  cases l with
  |nil=>exact Nat.le_succ_of_le (jU (TR x) am)| cons y l=>exact jU (TR _) (Nat.le_of_eq (lD _ _))
section
variable{α:Type}{F:al->List α->α}(bw:S4 F)
include bw
theorem asu{d d':al}(h:d.k=4\/d.k=5)(bd:d'.k=d.k)(xs:List α):F d xs=F d' xs:=by have aa:=bw.nest d d' [] xs [] h bd;simp only[hI,dK]at aa;rw[<-aa,bw.one d _ h]
theorem asv(ae:k=4\/k=5)(az:∀ c∈l,eT c)(bz:l≠[]):(qU k l).fold F=F (nothing k) (l.map (aP.fold F)):=by
 cases l with
 |nil=>exact absurd rfl bz
 |cons x l=>
  cases l with
  |nil=>show x.lA.fold F=F (nothing k) [x.fold F];rw[Ts bw (az x (.head _)),bw.one (nothing k) _ ae]| cons y l=>show(aP.mk (nothing k) (x::y::l)).lA.fold F=_;rw[Ts bw (.mk (Ng ae am) az),aP.fold_eq]
theorem asw{d:al}(h:d.k=4\/d.k=5)(a9:List α)(a b:α)(post:List α):F d (a9++a::b::post)=F (nothing d.k) (a9++F (nothing d.k) [a,b]::post):=by rw[asu bw h (d':=nothing d.k) rfl];exact(bw.nest (nothing d.k) (nothing d.k) a9 [a,b] post h rfl).symm
end
def TT(l:List α)(i:Nat)(h:i+1<l.length):l=l.take i++l[i]' Z::l[i+1]::l.drop (i+2):=by have aa:l.drop i=l[i]' Z::l.drop (i+1):=e2 Z;have ad:l.drop (i+1)=l[i+1]::l.drop (i+2):=e2 h;rw[<-ad,<-aa,px]
def Nh{bl:Int}{S x:aP}(h:pb w bl S=some x):∃ (i:Nat) (s:bj),bl=(i:Int)/\S.d.k=iO w/\∃ hi:i+1<S.sub.length,vM w (S.sub[i]' Z) (S.sub[i+1])=some s/\x=qU (iO w) (S.sub.take i++j8 s::S.sub.drop (i+2)):=by
 unfold pb at h;split at h
 ·rename_i ao;obtain⟨i,rfl⟩:=eh ao.2.1;have hi:i+1<S.sub.length:=by omega
  have aK:S.sub.getD ((i:Nat):Int).toNat S=S.sub[i]' Z:=by
   show S.sub.getD i S=_;have:i<S.sub.length:=by omega
   simp[bT,this]
  have ba:S.sub.getD (((i:Nat):Int).toNat+1) S=S.sub[i+1]:=by show S.sub.getD (i+1) S=_;simp[bT,hi]
  rw[aK,ba]at h;cases au:vM w (S.sub[i]' Z) (S.sub[i+1])with
  |none=>rw[au]at h;cases h| some s=>rw[au]at h;exact⟨i,s,rfl,ao.1,hi,au,(e1 h).symm⟩
 ·cases h
def eT.AE{S:aP}(h:eT S):∀ c∈S.sub,eT c:=by
 cases S with
 |mk d ks=>exact h.inv.2
def aP.eta(S:aP):S=.mk S.d S.sub:=by cases S;rfl
def asx{S:aP}(cy:eT S){i:Nat}{s:bj}:∀ c∈S.sub.take i++j8 s::S.sub.drop (i+2),eT c:=by
 intro c ao;rcases c1.1 ao with ao | ao
 ·exact cy.AE c (uU ao)
 ·rcases er.1 ao with rfl | ao
  ·exact TS s
  ·exact cy.AE c (Fk ao)
def asy{d:al}(h:d.kC=true):d.ws=bj.zero:=by unfold al.kC at h;simp only[cC,beq_iff_eq]at h;obtain⟨ax,aa,ad,aj⟩:=h;unfold al.ws;rw[ax,aa,ad,aj];rfl
def asz(w:bj):(Jk w).kC=decide (w=bj.zero):=by
 have bg:∀ x:BitVec 64,((x.toNat:Int) == 0)=decide (x=0):=λx=>by have:=Ep (x:=x) (y:=0);simpa using this
 unfold al.kC Jk;simp only[bg];rw[<-I5,<-I5,<-I5];refine decide_eq_decide.2 ⟨λh=>?_,λh=>?_⟩
 ·exact bj.ext' h.1 h.2.1 h.2.2.1 h.2.2.2
 ·subst h;exact⟨rfl,rfl,rfl,rfl⟩
def bj.asA(y:bj):bj.zero.minus y=bj.zero:=by unfold bj.minus bj.zero;simp
def bj.and_zero(x:bj):x.and bj.zero=bj.zero:=by unfold bj.and bj.zero;simp
def bj.zero_and(x:bj):bj.zero.and x=bj.zero:=by unfold bj.and bj.zero;simp
section
variable{pl:List (ByteArray×Int)}{F:List aX}
def ui(pl:List (ByteArray×Int))(F:List aX)(T:aP):aX:=(T.fold (hO pl F)).1.1
def Ni(d:al)(ks:List aP)(aj:d.k≠3):ui pl F (.mk d ks)=gz d (ks.map (ui pl F)):=by unfold ui;rw[aP.fold_eq];show gz d _=_;rw[e8 aj];simp[gj];rfl
def asB{d:al}(h:d.k=1)(ks:List aP):ui pl F (.mk d ks)=⟨false,!d.kC,true⟩:=by rw[Ni d ks Z];simp[gz,h]
def Jl{x:bj}(h:r2 T=some x):∃ b,ui pl F T=⟨false,b,true⟩/\(x≠bj.zero->b=true):=by
 cases T with
 |mk d ks=>
 unfold r2 at h;split at h
 ·rename_i aa;have aa:d.k=1:=aa;refine⟨_,asB aa ks,λab=>?_⟩;cases bg:d.kC with
  |false=>rfl| true=>have:=asy bg;exact absurd (by rw[<-this];exact(e1 h).symm) ab
 ·cases h
def aei{x:bj}(h:vL T=some x):∃ b,ui pl F T=⟨false,b,true⟩/\(x≠bj.zero->b=true):=by
 by_cases aa:T.d.k=1
 ·refine Jl (x:=x) ?_;unfold vL at h;rw[b2 aa]at h;unfold r2;rw[b2 aa,h]
 ·cases T with
  |mk d ks=>
  unfold vL at h;rw[bS aa]at h;have aa:¬ d.k=1:=aa;split at h;·rename_i ad;have ad:d.k=2:=ad.1;refine⟨true,?_,λ_=>rfl⟩;rw[Ni d ks Z];simp[gz,ad]
  ·cases h
def aej{x:bj}(h:xj k T=some x):∃ d c cs,T=.mk d (c::cs)/\d.k=k/\r2 c=some x:=by
 cases T with
 |mk d ks=>
 unfold xj at h;split at h
 ·rename_i aa;cases ks with
  |nil=>cases h| cons c cs=>exact⟨d,c,cs,rfl,aa,h⟩
 ·cases h
def asC{A B:aP}{s:bj}(h:vM w A B=some s):l3 ((j8 s).fold (hO pl F)) (hO pl F (nothing (iO w)) [A.fold (hO pl F),B.fold (hO pl F)]):=by
 have aK:(j8 s).fold (hO pl F)=((⟨false,!(Jk s).kC,true⟩,[]),false):=by unfold j8;rw[aP.fold_eq];rfl
 rw[aK,asz];have iQ:∀ {f:bj->bj->bj} {a b:Option bj},r3 f a b=some s->∃ x y,a=some x/\b=some y/\s=f x y:=by
  intro f a b ag;cases a with
  |none=>cases ag
  |some x=>
   cases b with
   |none=>cases ag| some y=>exact⟨x,y,rfl,rfl,(e1 ag).symm⟩
 suffices mY:aX.le ⟨false,!decide (s=bj.zero),true⟩ (hO pl F (nothing (iO w)) [A.fold (hO pl F),B.fold (hO pl F)]).1.1 from⟨mY,λk ae=>ap',λh=>ci⟩
 unfold vM at h;by_cases aa:w=1
 ·rw[b2 aa]at h;obtain⟨x,y,ab,aG,rfl⟩:=iQ h;obtain⟨a,a7,sM⟩:=aei (pl:=pl) (F:=F) ab;obtain⟨b,ag,ha⟩:=aei (pl:=pl) (F:=F) aG;have ny:iO w=5:=b2 aa;rw[ny,Ft rfl];show aX.le _ (pM [ui pl F A,ui pl F B]);rw[a7,ag];refine⟨λh=>ci,λav=>?_,λ_=>rfl⟩;have av:x.or y≠bj.zero:=by simpa using av
  by_cases gd:x=bj.zero
  ·have:y≠bj.zero:=λe=>av (by rw[gd,e];exact bj.zero_or _);rw[ha this];cases a<;>rfl
  ·rw[sM gd];rfl
 rw[bS aa]at h;have ee:iO w=4:=bS aa;rw[ee,AB rfl];show aX.le _ (hn [ui pl F A,ui pl F B]);by_cases ad:w=2
 ·rw[b2 ad]at h;obtain⟨x,y,ab,aG,rfl⟩:=iQ h;obtain⟨d,c,cs,rfl,ai,ao⟩:=aej ab;obtain⟨a,a7,sM⟩:=Jl (pl:=pl) (F:=F) ao;obtain⟨b,ag,ha⟩:=Jl (pl:=pl) (F:=F) aG;have m8:ui pl F (.mk d (c::cs))=⟨true,false,a⟩:=by rw[Ni _ _ Z,b0,a7];simp[gz,ai,aX.jI]
  rw[m8,ag];refine⟨λh=>ci,λav=>?_,λ_=>?_⟩
  ·have av:y.minus x≠bj.zero:=by simpa using av
   have:y≠bj.zero:=λe=>av (by rw[e];exact bj.asA _);rw[ha this];cases a<;>rfl
  ·cases a<;>cases b<;>rfl
 rw[bS ad]at h;by_cases aj:w=3
 ·rw[b2 aj]at h;obtain⟨x,y,ab,aG,rfl⟩:=iQ h;obtain⟨d,c,cs,rfl,ai,ao⟩:=aej ab;obtain⟨a,a7,sM⟩:=Jl (pl:=pl) (F:=F) ao;obtain⟨b,ag,ha⟩:=Jl (pl:=pl) (F:=F) aG;have m8:ui pl F (.mk d (c::cs))=⟨a,false,true⟩:=by rw[Ni _ _ Z,b0,a7];simp[gz,ai,aX.jI]
  rw[m8,ag];refine⟨λh=>ci,λav=>?_,λ_=>?_⟩
  ·have av:x.and y≠bj.zero:=by simpa using av
   have aJ:y≠bj.zero:=λe=>av (by rw[e];exact bj.and_zero _);have bD:x≠bj.zero:=λe=>av (by rw[e];exact bj.zero_and _);rw[ha aJ,sM bD];rfl
  ·cases a<;>cases b<;>rfl
 ·rw[bS aj]at h;cases h
end
def aek{bl:Int}{S x:aP}(cy:eT S)(h:pb w bl S=some x):Nf g S x:=by
 obtain⟨i,s,rfl,ae,hi,au,rfl⟩:=Nh h;have hA:=asq w;have e5:S.d.k=4\/S.d.k=5:=by rw[ae];exact hA
 have tr:=asx cy (i:=i) (s:=s);refine⟨asr hA tr,λa7=>?_,λF=>?_⟩
 ·have av:∀ c∈S.sub,h2 (AL g.ds) c:=by rw[S.eta]at a7;exact a7.inv.2
  refine ass (λd ai=>ai) (λk ae aj=>absurd aj ae) hA λc ao=>?_;rcases c1.1 ao with ao | ao;·exact av c (uU ao)
  ·rcases er.1 ao with rfl | ao
   ·exact .mk (λaj=>absurd (show(1:Int)=3 from aj) bv) λc ao=>by cases ao
   ·exact av c (Fk ao)
 ·rw[asv (S6 _ _) hA tr am]
  conv=>rhs;rw[S.eta,aP.fold_eq,TT S.sub i hi]
  rw[cR,cR,b0,b0,b0,asw (S6 _ _) e5,ae];refine TO (dP.refl _) _ am λj aa ad=>?_;rw[List.getElem_append,List.getElem_append];split;·exact l3.rfl' _
  ·rw[Ox,Ox];split
   ·exact asC au
   ·exact l3.rfl' _
def asD(l:List aP)(i:Nat)(h:i+1<l.length):((l.take i).map dG).sum+(dG (l[i]' Z)+(dG l[i+1]+((l.drop (i+2)).map dG).sum))=(l.map dG).sum:=by
 conv=>rhs;rw[TT l i h]
 rw[cR,pG,b0,b0,hr,hr]
def ael{bl:Int}{S x:aP}(h:pb w bl S=some x):dG x<dG S:=by
 obtain⟨i,s,rfl,ae,hi,au,rfl⟩:=Nh h;have aa:=ast (iO w) (S.sub.take i++j8 s::S.sub.drop (i+2));have ad:=asD S.sub i hi;have aj:=AQ (S.sub[i]' Z);have aJ:=AQ S.sub[i+1];have bD:dG S=(S.sub.map dG).sum+1:=by
  conv=>lhs;rw[S.eta]
  exact lD _ _
 have cG:dG (j8 s)=1:=lD _ _;rw[cR,b0,pG,hr]at aa;omega
section
variable{P:Program}{w:World}
def asE(t u ty e:Nat)(i:TypeInfo)(z:Value)(au:P.underlying t=some (.slice e)){mM:TypeDesc}(hu:P.underlying u=some mM)(n1:∀ k,mM≠.int k)(hi:P.info? e=some i)(bg:i.zero=some z)(qn:z.cells.size=i.size)
 (kG:xs.length=n*i.size) (Cw:∀ w':World,w'.heap=w.heap->∀ j v,xs[j]?=some v->w'.cell? (aR.add j)=some v)
  {x:Value} (hm:0<m) (az:b8.length=m*i.size)
  (cQ:∀ w',(Builtin.lenOf x).run P w'=.ok m w') (e6:∀ w':World,w'.heap=w.heap->(Builtin.firstCells i.size m x).run P w'=.ok b8.toArray w')
  (b1:n+m<=maxLen) (bH:(n+m)*i.bytes<=140737488355328) :
  ∃ (c:Nat) (aS:List Value),(Builtin.append_ #[t,u] ty #[.slice (some aR) n n,x]).run P w=.ok (.slice (some ⟨w.heap.size,0,none⟩) (n+m) c) (w.drew.alloc (.cells aS.toArray e (0,0)))/\aS.length=c*i.size/\n+m<=c/\c<=maxLen/\aS.take ((n+m)*i.size)=xs++b8:=by
 have DD:(xs++b8).length=(n+m)*i.size:=by rw[cn,kG,az,kx]
 have Kk:∀ dI,(xs++b8++(Builtin.zeroCells z.cells (grownCap w (n+m) dI e-(n+m))).toList).length=grownCap w (n+m) dI e*i.size/\n+m<=grownCap w (n+m) dI e/\grownCap w (n+m) dI e<=maxLen /\
   (xs++b8++(Builtin.zeroCells z.cells (grownCap w (n+m) dI e-(n+m))).toList).take ((n+m)*i.size)=xs++b8:=by
  intro dI;have cV:=grownCap_ge w (n+m) dI e;have lP:grownCap w (n+m) dI e<=maxLen:=grownCap_le_maxLen w (n+m) dI e b1;refine⟨?_,cV,lP,?_⟩;·rw[cn,DD,xJ,size_zeroCells,qn,<-kx];congr 1;omega
  ·rw[<-DD];exact uG
 have ia:n+m<=9223372036854775807:=by simp only[maxLen]at b1;exact b1
 have aC:m≠0:=by omega
 have uM:¬ (n+m<=n):=by omega
 have Bt:¬ (9223372036854775807<((n:Int)+(m:Int))):=by omega
 have Bu:¬ (281474976710656<Builtin.nextslicecap (n+m) n*i.bytes):=by have:=growslice_fits (by omega:n<n+m) bH;omega
 have aE:=e6 w.drew rfl;have OE:=run_firstCells_some (P:=P) w.drew i.size n aR n n xs kG (Cw w.drew rfl);obtain⟨a',bh,bW,fu⟩:=Kk n;refine⟨grownCap w (n+m) n e,_,?_,a',bh,bW,fu⟩;simp[Builtin.append_,run_underlying au,run_underlying hu,sizeOf,typeInfo,zeroValue,hi,bg,cQ,aC,uM,Bt,Bu,Question.forced,aE,OE,newRow,grownCap];congr 2;apply lH;simp
end
section
variable{X:cN}{β:Nat->Nat}{a:Act}{w:World}{F:Fr}{C:de}{I:aH}{M:List aA}{o:Oper}{K:fz}
def asF{P:Program}(aC:c6 I M aR (m*size) b8){w:World}(hw:eJ I M w):(Builtin.firstCells size m (.slice (some aR) m c')).run P w=.ok b8.toArray w:=by
 obtain⟨di,cs,T,an,fh,ak,az⟩:=aC;refine run_firstCells_some (P:=P) w size m aR m c' b8 az λj v ah=>?_;rw[eM _ di,td (fh.heap hw)];rw[<-ak,l5]at ah;split at ah
 ·rw[oq]at ah;simpa using ah
 ·cases ah
def aem(h:c6 I M aR n xs):xs.length=n:=by obtain⟨_,_,_,_,_,_,h⟩:=h;exact h
theorem kv.asG{K:dx->aH->List aA->Prop}(aL:cU X.P X.E){t:Nat}(aD:o.op=.call { callee:=.builtin .append,args:=#[s,x],argTypes:=#[t,t] })
  {e:Nat} (au:X.E t=some cS) (dt:cS.bL=.slice e) (he:X.E e=some aB)
  {sa:Addr} (av:bG F s=.val (.slice (some sa) n n)) (bo:c6 I M sa (n*aB.size) xs)
 (ab:bG F x=.val (.slice (some aR) m c')) (hm:0<m) (aC:c6 I M aR (m*aB.size) b8) (b1:n+m<=maxLen) (bH:(n+m)*aB.bytes<=140737488355328)
  (M':aT->List aA) (yq:∀ bq:aT,(bq.ar e++M).Perm (M' bq))
  (k:∀ bq:aT,bq.n=n+m->(∀ g,bq.a=some g->I g=none/\g ∉ X.foot)->bq.ok aB.size (xs++b8)->K (.val bq.val) I (M' bq)):kv X o F C I M K:=by
 refine⟨fun β a w Q aM=>?_⟩;have kG:=aem bo;have yJ:=aem aC;have e6:∀ w,eJ I M w->(Builtin.firstCells aB.size m (.slice (some aR) m c')).run X.P w=.ok b8.toArray w:=λw hw=>asF aC hw;obtain⟨inf,z,hi,fq,iy,iz,k3⟩:=(aL _ _ he).inf;obtain⟨gV,iD,kB⟩:=(aL _ _ au).fp;have oC:gV=.slice e:=by rw[dt]at kB;cases gV<;>simp_all[fo]
 subst oC;have qn:z.cells.size=inf.size:=by rw[fq,<-(aL _ _ he).len,<-k3];simp
 rw[<-fq]at kG yJ e6;obtain⟨c,aS,e',a',bh,bW,fu⟩:=asE (P:=X.P) (w:=w) t t o.type e inf z iD iD (λk c2=>by cases c2) hi iz qn kG (λw' xP j v ah=>bo.LO (aM.holds.heap xP) j v ah) (x:=.slice (some aR) m c') hm yJ (λ_=>rfl) (λw' xP=>e6 w' (aM.holds.heap xP)) b1 aig;rw[fq]at a' fu kG yJ;have zo:I w.heap.size=none:=by
  cases bE:I w.heap.size with
  |none=>rfl| some nu=>have:=aM.holds.i _ _ bE;simp at this
 have es:=df aM.an av;have ex:=df aM.an ab;have kn:(⟨some w.heap.size,n+m,c,aS⟩:aT).ok aB.size (xs++b8):=by
  refine⟨?_,(λh=>ci),λei aw=>?_⟩;·rw[cn,kG,yJ,<-kx]
  ·cases aw;exact⟨a',bh,bW,fu⟩
 refine ix f7 (v:=.slice (some ⟨w.heap.size,0,none⟩) (n+m) c) (w':=w.drew.alloc (.cells aS.toArray e (0,0))) ?_ ⟨_,.val (.slice (some ⟨w.heap.size,0,none⟩) (n+m) c),I,M' ⟨some w.heap.size,n+m,c,aS⟩,rfl,rfl,?_,k ⟨some w.heap.size,n+m,c,aS⟩ rfl (λei aw=>by cases aw;exact⟨zo,λhm=>by have aa:=aM.fA _ hm;have ad:=aM.sz;omega⟩) kn,rfl⟩
 ·unfold execOp;simp only[aD,resolve,invoke,builtin,cp,db,bY,rh,b0,hs,es,ex,e']
 ·refine cM.hT ?_ (.perm (yq _) .refl);have ad:cM X β a w.drew F C I M:=aM.world rfl;exact ad.nX (.cells aS.toArray e (0,0))
end
section
end
section
end
section
end
section
end
section
end
def vN(I:aH):List aA->aH
 |[]=>I| x::L=>vN (ins I x.num x.obj) L
def TU{foot:List Nat}{M:List aA}:∀ {I:aH} (L:List aA),(∀ x∈L,x.num ∉ foot)->hS foot I (L++M) (vN I L) M
 |I,[],_=>.refl| I,x::L,h=>.kZ rfl (h x (.head _)) (TU L λq aO=>h q (.tail _ aO))
def Nj:∀ {I:aH} (L:List aA),(∀ x∈L,I x.num=none)->(L.map (λx:aA=>x.num)).Nodup->(∀ b o,I b=some o->vN I L b=some o)/\∀ x∈L,vN I L x.num=some x.obj
 |I,[],_,_=>⟨λ_ _ h=>h,λx ab=>wl⟩
 |I,p::L,h,aC=>by
  rw[b0,lG]at aC;have bE:∀ q∈L,(ins I p.num p.obj) q.num=none:=λq aO=>by unfold ins;rw[hF λe=>aC.1 (c3.2 ⟨q,aO,e⟩)];exact h q (.tail _ aO)
  obtain⟨aa,ad⟩:=Nj L bE aC.2;refine⟨λb o ag=>aa b o (j0 (h p (.head _)) b o ag),λq aO=>?_⟩;rcases er.1 aO with rfl | aO;·exact aa _ _ (mg ..)
  ·exact ad q aO
section
end
section
end
section
section
end
section
end
end
def TV(a6:en I ay)(au:t.ok I)(af:right t=true)(aC:t.n<=1099511627776)(eb:t.bx=(r:Int)) :
  Spec Tryz.prog 67 [t.val] I M0 λv J M'=>(∀ b o,I b=some o->J b=some o)/\M'=M0/\∃ (a:Option Addr) (n c:Nat) (L:List bs),v=.slice a n c/\cx J a n c 2 0 (L.flatMap bs.cells)/\L.length=(nodeAt t.ns r).ap.length/\∀ q (h:q<L.length),(L[q]).ok J/\pP t ((nodeAt t.ns r).ap.getD q 0) L[q]:=by
 refine Spec.jN (Spec.frame (Spec.jg (apf (M0:=[]) a6 au af aC eb))) ?_;rintro v J M⟨M',rfl,-,a4,rfl,-,I',M1,⟨bE,os,L,bf,rfl,rfl,az,eG⟩,bw⟩;exact⟨a4,rfl,os.a.map λg=>⟨g,0,none⟩,os.n,os.c,L,rfl,aT.arV bw bf (λ_ h=>iv _ h) Z,az,λq h=>⟨(eG q h).1.mono bw.le,(eG q h).2⟩⟩
def p1(x y:Int):Int:=IntKind.u64.wrap ((BitVec.ofInt 64 x &&& ~~~(BitVec.ofInt 64 y)).toNat:Int)
def Nk(x y:BitVec 64):p1 x.toNat y.toNat=((x &&& ~~~y).toNat:Int):=by unfold p1;rw[B',B',Qd]
def asH(x y:bj):Nat->List Value
 |0=>[.int .u64 x.a.toNat,.int .u64 x.b.toNat,.int .u64 x.c.toNat,.int .u64 x.d.toNat]| 1=>[.int .u64 (p1 x.a.toNat y.a.toNat),.int .u64 x.b.toNat,.int .u64 x.c.toNat,.int .u64 x.d.toNat]| 2=>[.int .u64 (p1 x.a.toNat y.a.toNat),.int .u64 (p1 x.b.toNat y.b.toNat),.int .u64 x.c.toNat,.int .u64 x.d.toNat]| 3=>[.int .u64 (p1 x.a.toNat y.a.toNat),.int .u64 (p1 x.b.toNat y.b.toNat),.int .u64 (p1 x.c.toNat y.c.toNat),.int .u64 x.d.toNat]| _=>[.int .u64 (p1 x.a.toNat y.a.toNat),.int .u64 (p1 x.b.toNat y.b.toNat),.int .u64 (p1 x.c.toNat y.c.toNat),.int .u64 (p1 x.d.toNat y.d.toNat)]
def asI(x y:bj):Spec Tryz.prog 166 [x.val,y.val] I M λr I' M'=>r=(x.minus y).val/\I'=I/\M'=M:=by
 refine bU [] a0 Tryz.func166 rfl rfl rfl ?_;intro B ax;refine du.inv (ι:=Nat) (λi=>{ bp:=[(2,.ref 2 0),(4,.ref 4 0),(7,.val y.val),(8,.val (.int .i64 i))],cl:=[(2,asH x y i),(4,bj.zero.cells)],cO:=I,c5:=M }) (λi=>i<=4) (λi=>4-i) ?_ ?_
 ·exact⟨0,am,.refl,dM,.cons rfl (.cons rfl (.nil))⟩
 ·intro i hi
  match i,hi with
  |0,_=>refine aZ.mk (λ_=>?_) (λh=>d7);refine cw.mk 0 rfl bv ?_;refine cw.mk 0 rfl bv ?_;refine cw.mk 0 rfl bv ?_;refine be.mk 1 bv ?_;exact⟨1,⟨am,am⟩,.refl,dM,.cons rfl (.cons rfl (.nil))⟩| 1,_=>refine aZ.mk (λ_=>?_) (λh=>d7);refine cw.mk 1 rfl bv ?_;refine cw.mk 1 rfl bv ?_;refine cw.mk 1 rfl bv ?_;refine be.mk 2 bv ?_;exact⟨2,⟨am,am⟩,.refl,dM,.cons rfl (.cons rfl (.nil))⟩| 2,_=>refine aZ.mk (λ_=>?_) (λh=>d7);refine cw.mk 2 rfl bv ?_;refine cw.mk 2 rfl bv ?_;refine cw.mk 2 rfl bv ?_;refine be.mk 3 bv ?_;exact⟨3,⟨am,am⟩,.refl,dM,.cons rfl (.cons rfl (.nil))⟩| 3,_=>refine aZ.mk (λ_=>?_) (λh=>d7);refine cw.mk 3 rfl bv ?_;refine cw.mk 3 rfl bv ?_;refine cw.mk 3 rfl bv ?_;refine be.mk 4 bv ?_;exact⟨4,⟨am,am⟩,.refl,dM,.cons rfl (.cons rfl (.nil))⟩| 4,_=>refine aZ.mk (λh=>d7) (λ_=>?_);refine⟨_,_,.refl,?_,rfl,rfl⟩;show Value.agg #[.int .u64 (p1 x.a.toNat y.a.toNat),.int .u64 (p1 x.b.toNat y.b.toNat),.int .u64 (p1 x.c.toNat y.c.toNat),.int .u64 (p1 x.d.toNat y.d.toNat)]=_;rw[Nk,Nk,Nk,Nk];rfl
def C6(o:Option bj)(v:Value):Prop:=∃ (w:bj) (b:Bool),v=.tuple #[w.val,.bool b]/\o=(bif b then some w else none)/\(b=false->w=bj.zero)
def TW(o:Option bj)(v:Value):Prop:=∃ (w:bj) (b:Bool),v=.tuple #[w.val,.bool b]/\o=bif b then some w else none
def jj(t:bs)(f:aP->Option bj):Option bj:=bif right t then f (bV t)else none
def Jm(af:right t=true)(eb:t.bx=(r:Int))(eD:r<t.ns.length):bV t=.mk t.ns[r].bare (t.ns[r].ap.map (fm t.ns)):=by unfold bV;rw[eb];exact yP af eD
def aen{d:al}(ax:ga d.cf)(aa:ga d.s1)(ad:ga d.s2)(aj:ga d.cH):d.ws.val=.agg #[.int .u64 d.cf,.int .u64 d.s1,.int .u64 d.s2,.int .u64 d.cH]:=by simp only[bj.val,al.ws,LJ ax,LJ aa,LJ ad,LJ aj]
def TX(a6:en I ay)(au:t.ok I):Spec Tryz.prog 165 [t.val] I M0 λv I' M'=>I'=I/\M'=M0/\C6 (jj t r2) v:=by
 refine bU [] a0 Tryz.func165 rfl rfl rfl ?_;intro B ax;have g7:=au.n;refine a8.mk [] M0 _ (.refl _) (nx a6.c au) ?_;rintro v J N -⟨rfl,rfl,rfl⟩;cases af:right t with
 |false=>refine b5.mk (λh=>absurd h am) (λ_=>?_);exact⟨_,_,.refl,rfl,rfl,.zero,false,rfl,by simp[jj,af],λ_=>rfl⟩| true=>
 obtain⟨g0,hy⟩:=kE af;obtain⟨r,eb⟩:=eh g0;have eD:r<t.ns.length:=by omega
 obtain⟨aR,bI,bo⟩:=au.bb.row al.cL (show r<t.n by omega) eD;have bf:=au.ns _ (bK eD);have h':=Jm af eb eD;have e:jj t r2=if t.ns[r].k=1 then some t.ns[r].ws else none:=by unfold jj;rw[af,h'];rfl
 rw[e];generalize t.ns[r]=d at bo bf;refine b5.mk (λ_=>?_) (λh=>absurd h am);refine bt.mk aR r bI eb Z ?_;refine aU.mk _ ((bo _).part (k:=0) (m:=1) bv) ?_;refine aZ.mk (λh=>?_) (λh=>?_)
 ·have aa:¬ d.k=1:=by have:(!decide (d.k=1))=true:=h;simpa using this
  exact⟨_,_,.refl,rfl,rfl,.zero,false,rfl,by rw[bS aa];rfl,λ_=>rfl⟩
 ·have aa:d.k=1:=by have:(!decide (d.k=1))=false:=h;simpa using this
  refine bt.mk aR r bI eb Z ?_;refine aU.mk _ ((bo _).part (k:=1) (m:=4) bv) ?_;refine⟨_,_,.refl,rfl,rfl,d.ws,true,?_,by rw[b2 aa];rfl,λh=>ci⟩;rw[aen bf.cf bf.s1 bf.s2 bf.cH];rfl
def TY(a6:en I ay)(au:t.ok I):Spec Tryz.prog 20 [t.val] I M0 λv I' M'=>I'=I/\M'=M0/\C6 (jj t vL) v:=by
 refine bU [] a0 Tryz.func20 rfl rfl rfl ?_;intro B ax;have g7:=au.n;refine a8.mk [] M0 _ (.refl _) (nx a6.c au) ?_;rintro v J N -⟨rfl,rfl,rfl⟩;cases af:right t with
 |false=>refine aZ.mk (λ_=>?_) (λh=>absurd h am);exact⟨_,_,.refl,rfl,rfl,.zero,false,rfl,by simp[jj,af],λ_=>rfl⟩| true=>
 obtain⟨g0,hy⟩:=kE af;obtain⟨r,eb⟩:=eh g0;have eD:r<t.ns.length:=by omega
 obtain⟨aR,bI,bo⟩:=au.bb.row al.cL (show r<t.n by omega) eD;have bf:=au.ns _ (bK eD);have h':=Jm af eb eD;have ib:=(jd.1 af).fit _ (bK eD);have e:jj t vL=if t.ns[r].k=1 then some t.ns[r].ws else if t.ns[r].k=2/\t.ns[r].t.size=1 then some (oP t.ns[r].t.data.toList)else none:=by unfold jj;rw[af,h'];rfl
 rw[e];generalize t.ns[r]=d at bo bf;refine aZ.mk (λh=>absurd h am) (λ_=>?_);refine bt.mk aR r bI eb Z ?_;refine aU.mk _ (bo _) ?_;refine aZ.mk (λh=>?_) (λh=>?_)
 ·have aa:d.k=1:=cT h;refine⟨_,_,.refl,rfl,rfl,d.ws,true,?_,by rw[b2 aa];rfl,λh=>ci⟩;rw[aen bf.cf bf.s1 bf.s2 bf.cH];rfl
 have aa:¬ d.k=1:=dU h;rw[bS aa];by_cases ad:d.k=2
 rotate_left
 ·refine b5.mk (λh=>absurd h (by simp[ad])) (λ_=>?_);exact⟨_,_,.refl,rfl,rfl,.zero,false,rfl,by rw[bS λh=>ad h.1];rfl,λ_=>rfl⟩
 refine b5.mk (λ_=>?_) (λh=>absurd h (by simp[ad]));refine aZ.mk (λh=>?_) (λh=>?_)
 ·have aj:(d.t.size:Int)=1:=cT h;refine a8.mk [] M0 _ (.refl _) (ZC d.t Z) ?_;rintro v J N -⟨rfl,rfl,rfl⟩;exact⟨_,_,.refl,rfl,rfl,_,true,rfl,by rw[b2 ⟨ad,Z⟩];rfl,λh=>ci⟩
 ·have aj:¬ (d.t.size:Int)=1:=dU h;exact⟨_,_,.refl,rfl,rfl,.zero,false,rfl,by rw[bS λh=>aj Z];rfl,λ_=>rfl⟩
end Go.V
