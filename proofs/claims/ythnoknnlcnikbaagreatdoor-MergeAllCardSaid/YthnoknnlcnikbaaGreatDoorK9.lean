/- Part 9 of what the proofs of this seat share: the executor, data in memory, walks.
-/
import Derived.Test.YthnoknnlcnikbaaGreatDoorK8
import Derived.Test.YthnoknnlcnikbaaGreatDoorK2
import Derived.Test.YthnoknnlcnikbaaGreatDoorK5
import Derived.Test.YthnoknnlcnikbaaGreatDoorK4
import Derived.Lib.SliceRun
import Derived.Test.YthnoknnlcnikbaaGreatDoorK6
import Derived.Test.YthnoknnlcnikbaaGreatDoorK7
import Derived.Test.YthnoknnlcnikbaaGreatDoorK3
set_option linter.all false
set_option maxHeartbeats 8000000
set_option maxRecDepth 100000
namespace Go.V
open Go Go.Proofs
def aeK:=@List.eq_nil_iff_forall_not_mem
variable{I J I':aH}{a pa sa b0:Option Addr}{n c size b m j e pn pc u c' ch:Nat}{xs cb:List Value}{l:List aP}{x s:Operand}{ec:List al}{S T:aP}{r:Int×Int}{os:aR}{t bn:bk}{path az p:List Int}{F dc:List aW}{M M0:List aE}{foot:List Nat}{g h:cU}{rule k w:Int}{pl:List (ByteArray×Int)}{aM:Addr}{db aF:ea}{K:dH->aH->List aE->Prop}
def cI.a9{ys:List Value}(h:cI I a n c size b (xs++ys))(hm:m<=n)(ab:xs.length=m*size)(c':Nat)(ao:m<=c'):cI I a m c' size b xs:=by
 refine⟨ab,⟨ao,jg (qg _ hm) h.cap.2⟩,?_⟩;by_cases ay:m=0
 ·exact .inl ay
 rcases h.rd with aa | ⟨aM,aa,ad,cs,T,an,ak,aK⟩
 ·omega
 ·refine .inr ⟨aM,aa,ad,cs,T,an,ak,?_⟩;have bz:((cs.toList.drop aM.off).take (n*size)).take (m*size)=xs:=by rw[aK,<-ab,we]
  rw[zB,pA (qg _ hm)]at bz;exact bz
def ar8{l:List (Nat×Int)}{x:Nat×Int}(h:cI I a n c 2 16 ((l++[x]).flatMap um)) :
  Spec Tryz.prog 227 [.slice a n c] I [] λv I' M'=>v=.tuple #[.agg #[.int .i64 x.1,.int .i64 x.2],.slice a l.length l.length]/\I'=I/\M'=[]:=by
 refine bV [] aY Tryz.func227 rfl rfl rfl ?_;intro B ay;have ax:n=l.length+1:=by have:=h.len;rw[gO um 2 (λ_=>rfl),cr,od]at this;omega
 have hA:=h.cap;obtain⟨aM,bB,bp⟩:=h.row (f:=um) (λ_=>rfl) (j:=l.length) (by omega) (by simp);rw[acd rfl]at bp;refine bd.mk ((l.length:Nat):Int) (by show IntKind.i64.wrap ((n:Int)-1)=_;rw[wrap_i64 ⟨by omega,by omega⟩];omega) ?_;refine cT.draw aY rfl rfl rfl ?_;refine bm.mk aM l.length bB rfl (by omega) ?_;refine aO.mk _ (bp _) ?_;refine OM.mk l.length l.length rfl rfl (b' _) (by omega) ?_;have dy:(if l.length=0 then a else a.map (·.add (0*2)))=a:=by
  split;·rfl
  ·rcases h.rd with aa | ⟨aM,rfl,c9,-⟩
   ·omega
   ·rw[lg,eS _ c9];obtain⟨b,o,fU⟩:=aM;simp only at c9;subst c9;rfl
 refine⟨_,_,.refl,?_,rfl,rfl⟩;show Value.tuple #[Value.agg #[.int .i64 x.1,.int .i64 x.2],.slice (if l.length=0 then a else a.map (·.add (0*2))) (l.length-0) (l.length-0)]=_;rw[dy];rfl
def oy(z n:Nat):List Nat:=(List.range n).filter λj=>!decide (j=z)
def JZ(z n:Nat):oy z (n+1)=if n=z then oy z n else oy z n++[n]:=by
 unfold oy;rw[ED,EB,xT,List.filter_nil];by_cases e:n=z<;>simp[e]
def NY{z:Nat}:j∈oy z n ↔ j<n/\j≠z:=by unfold oy;rw[n4,j9];simp
def aeL{z:Nat}(h:z<n):(oy z n++[z]).Perm (List.range n):=by
 have Aa:(oy z n++[z]).Nodup:=by refine sh.2 ⟨BY.sublist zT,by simp,λa a7 b ag e=>?_⟩;rw[eN]at ag;subst ag;exact(NY.1 a7).2 e
 refine(TS Aa BY).2 λj=>?_;rw[cv,NY,eN,j9];omega
def uo(l:List aT)(z n:Nat):Nat:=((oy z n).map λj=>(l.getD j (.mk 0 [])).c2.length).sum
def ar9(l:List aT):hF l=((List.range l.length).map λj=>(l.getD j (.mk 0 [])).c2.length).sum:=by unfold hF;congr 1;refine oH (by simp) λi hi cC=>?_;rw[fW,fW,wE,bS,dg (by simpa using hi)];rfl
def aeM{l:List aT}{z:Nat}(bb:z<l.length):uo l z l.length+(l[z]).c2.length=hF l:=by have h:=((aeL bb).map λj=>(l.getD j (.mk 0 [])).c2.length).sum_nat;rw[cM,oT,<-ar9]at h;rw[<-h];unfold uo;simp[bS,bb]
def aeN(l:List aT)(z:Nat){i:Nat}(h:i<=n):uo l z i<=uo l z n:=by
 induction n with
 |zero=>
  obtain rfl:i=0:=by omega
  exact b' _
 |succ n aQ=>
  by_cases e:i=n+1;·subst e;exact b' _
  ·refine jg (aQ (by omega)) ?_;unfold uo;rw[JZ];split
   ·exact b' _
   ·rw[cM,oT];omega
def aeO:∀ (p:List Int) (T:aT) (i:Int),T.go (p++[i])=(T.go p).bind λS=>if 0<=i/\i<(S.sub.length:Int)then some (S.sub.getD i.toNat S)else none
 |[],T,i=>by simp[aT.go]
 |j::p,T,i=>by
  rw[pN,aT.go,aT.go];split;·exact aeO p _ i
  ·rfl
def aeP:∀ (p:List Int) {T S:aT} (i:Int),T.go p=some S->T.po (p++[i])=T.po p++[(S.bs,i)]
 |[],T,S,i,h=>by obtain rfl:=eX h;rfl
 |j::p,T,S,i,h=>by
  rw[aT.go]at h;split at h;·rw[pN,aT.po,aT.po,aeP p i h];rfl
  ·cases h
def J0:∀ (p:List Int) (T:aT),(T.po p).length=p.length
 |[],_=>rfl| i::p,T=>by rw[aT.po,et,J0 p];rfl
def asa{tns:List al}{S R:aT}{z:Nat}(bb:z<S.sub.length){L:List Int}(bY:L.length=S.sub.length){Y:aP}(aV:cD ec R)(Bl:R.bare ec=Y)(Ur:L.getD z 0=(R.bs:Int))(asb:∀ j,j<S.sub.length->j≠z->∃ T:aT,(T.bs:Int)=L.getD j 0/\cD ec T/\T.bare ec=(S.sub.getD j S).bare tns){x:al}(Bh:x.au=L)(iv:x.bare=(nodeAt tns S.bs).bare) :
  ∃ x4:aT,x4.bs=ec.length/\cD (ec++[x]) x4/\x4.bare (ec++[x])=.mk (nodeAt tns S.bs).bare ((S.sub.map (aT.bare tns)).set z Y):=by
 obtain⟨ks,aa,ad⟩:=JJ (R:=λ(j:Nat) (T:aT)=>(T.bs:Int)=L.getD j 0/\cD ec T/\T.bare ec=if j=z then Y else(S.sub.getD j S).bare tns) (l:=List.range S.sub.length) λj ai=>by
  have ai:=j9.1 ai;by_cases e:j=z;·subst e;exact⟨R,Ur.symm,aV,by rw[bT rfl];exact Bl⟩
  ·obtain⟨T,ew,e',fe⟩:=asb j ai e;exact⟨T,ew,e',by rw[bN e];exact fe⟩
 rw[wR]at aa;have er:∀ c∈ks,cD ec c:=λc ao=>by obtain⟨j,ai,rfl⟩:=hO ao;exact(ad j (by rw[wR];omega) ai).2.1
 refine⟨.mk ec.length ks,rfl,.mk (by simp) ?_ λc ao=>(er c ao).app _,?_⟩
 ·rw[F4,Bh];refine oH (by rw[bx];omega) λj ai jS=>?_;rw[fW];have:=(ad j (by rw[wR];omega) (by omega)).1;rw[wE,bS,dg ai]at this;exact this.symm
 ·rw[aT.nt,F4,iv];congr 1;refine oH (by simp[aa]) λj ai jS=>?_;have vI:j<ks.length:=by simpa using ai
  rw[fW,aT.Dq ec (er _ (bJ vI)),(ad j (by rw[wR];omega) vI).2.2,PF,wE];by_cases e:j=z;·subst e;rw[bT rfl,bT rfl]
  ·rw[bN e,bN (λa6=>e a6.symm),fW];congr 1;simp[bS,show j<S.sub.length by omega]
def asc{z r:Nat}{L:List Int}(bb:z<L.length)(NZ:∀ k∈L,0<=k)(Ur:L.getD z 0=(r:Int))(h:mg ec ((oy z L.length).map (ih L)++[r])){x:al}(Bh:x.au=L)(asd:fits x L.length=true):mg (ec++[x]) [ec.length]:=by
 have aI:(List.range L.length).map (ih L)=L.map Int.toNat:=by refine oH (by simp) λj ai jS=>?_;rw[fW,fW,wE];unfold ih;rw[bS,dg (by simpa using ai)];rfl
 have aJ:((oy z L.length).map (ih L)++[r]).Perm (L.map Int.toNat++[]):=by
  rw[dF,<-aI];have:=(aeL bb).map (ih L);rw[cM,sZ]at this;have a6:ih L z=r:=by unfold ih;rw[Ur];exact hH r
  rwa [a6]at this
 refine(h.perm aJ).add (by rw[bx];exact asd) ?_;rw[Bh,gu];refine((fV λk ae=>?_).trans (Ny _)).symm;have:=NZ k ae;show((k.toNat:Nat):Int)=k;omega
def aeQ:∀ (p:List Int) {T S:aT},T.go p=some S->S.c2.length<=T.c2.length
 |[],T,S,h=>by obtain rfl:=eX h;exact b' _
 |i::p,T,S,h=>by
  rw[aT.go]at h;split at h
  ·rename_i hi;have aa:=aeQ p h;have ad:=F7 T;have ak:(T.sub.getD i.toNat T).c2.length<=hF T.sub:=by
    have ax:i.toNat<T.sub.length:=by omega
    rw[bS,dg ax];have:=aeM ax;simp only[kL];omega
   omega
  ·cases h
structure aeR(tns ns:List al)(I:aH)(os:aR)(S R:aT)(z:Nat)(Y:aP)(i:Nat)(L:List Int)(no:aR)(ec:List al)(J:aH)(je:List aE):Prop where
 hi:i<=S.sub.length
 bY:L.length=S.sub.length
 a0:JX ns I no ec J
 KW:zf os no je
 E1:mg ec ((oy z i).map (ih L)++[R.bs])
 bF:cD ec R
 bare:R.bare ec=Y
 oy:∀ j,j<i->j≠z->∃ T:aT,(T.bs:Int)=L.getD j 0/\cD ec T/\T.bare ec=(S.sub.getD j S).bare tns
 awO:z<i->L.getD z 0=(R.bs:Int)
 len:ec.length<=ns.length+(S.sub.getD z S).c2.length+uo S.sub z i
structure aeS(tns ns:List al)(I:aH)(os:aR)(T:aT)(path:List Int)(X:aP)(p:List Int)(vO:Option Addr)(gE:Nat)(R:aT)(no:aR)(ec:List al)(J:aH)(je:List aE):Prop where
 row:cI I vO p.length gE 2 16 ((T.po p).flatMap um)
 a0:JX ns I no ec J
 KW:zf os no je
 E1:mg ec [R.bs]
 bF:cD ec R
 go:∃ S q,path=p++q/\T.go p=some S/\R.bare ec=(S.bare tns).put q X/\ec.length<=ns.length+S.c2.length
def ase(T:aT)(tns ns:List al)(path:List Int)(X:aP)(os:aR)(I:aH)(v:Value)(I':aH)(M':List aE):Prop:=
 ∃ (br:aR) (jc:List al) (je:List aE) (R:aT),v=.tuple #[br.val,.int .i64 R.bs]/\M'=br.ar 82++je/\JX ns I br jc I'/\mg jc [R.bs]/\cD jc R/\R.bare jc=(T.bare tns).put path X/\jc.length<=ns.length+T.c2.length
def aeT{nu eC:aR}{iz cA:List aE}(aa:zf os nu iz)(ad:zf nu eC cA):zf os eC (cA++iz):=λg aw=>by
 have dR:=aa g aw;rw[cM,cv]at dR;rw[<-dW,cM,cv];rcases dR with dR | dR
 ·exact .inl (ad g dR)
 ·exact .inr dR
def asf(aq:t.ok I)(aB:∀ d∈t.ns,fits d d.au.length=true)(ae:r6 t.ns){T:aT}(be:cD t.ns T){mG:aT}(fv:T.go path=some mG)(wL:cI I a path.length c 2 16 ((T.po path).flatMap um))
 {ns:List al} (b4:os.ok 9 (ns.flatMap al.cells)) (jn:∀ d∈ns,d.ok I) {vP:aT} (aw:mg ns [vP.bs]) (aV:cD ns vP) (ag:ns.length+T.c2.length<=1099511627776) (aD:t.n<=1099511627776) :
  Spec Tryz.prog 177 [os.val,t.val,.slice a path.length c,.int .i64 vP.bs] I (os.ar 82) (ase T t.ns ns path (vP.bare ns) os I):=by
 refine xQ [] aY Tryz.func177 rfl rfl rfl ?_;intro B ay;have hk:=aq.n;refine dt.uJ (ι:=List Int×Option Addr×Nat×aT×aR×List al×aH×List aE) (λx=>{ bo:=[(0,.val x.2.2.2.2.1.val),(2,.val (.slice x.2.1 x.1.length x.2.2.1)),(3,.val (.int .i64 x.2.2.2.1.bs)),(5,.ref 5 0)],cl:=[(5,t.cells)],cH:=x.2.2.2.2.2.2.1,dd:=x.2.2.2.2.1.ar 82++x.2.2.2.2.2.2.2 }) (λx=>aeS t.ns ns I os T path (vP.bare ns) x.1 x.2.1 x.2.2.1 x.2.2.2.1 x.2.2.2.2.1 x.2.2.2.2.2.1 x.2.2.2.2.2.2.1 x.2.2.2.2.2.2.2) (λx=>x.1.length) ?_ ?_
 ·intro _;exact⟨(path,a,c,vP,os,ns,I,[]),⟨wL,⟨λ_ _ h=>h,b4,jn,[],by simp⟩,(λg aw=>by rw[dF];exact aw),aw,aV,mG,[],by simp,fv,rfl,by simp only;omega⟩,.ma (by simp),ee,.cons rfl (.nil)⟩
 rintro⟨p,vO,gE,R,no,ec,J,je⟩eQ;have eQ:aeS t.ns ns I os T path (vP.bare ns) p vO gE R no ec J je:=eQ;obtain⟨I0,fu,yo,vN,e5,Ga,q,mX,Bm,Bl,hh⟩:=eQ;refine aX.mk (λh=>?_) (λh=>?_)
 ·have gy:0<p.length:=by have:(0:Int)<(p.length:Int):=cJ h;omega
  obtain⟨mo,m7,rfl⟩:∃ mo k,p=mo++[k]:=by
   rcases zR p with aa | ⟨r,k,aa⟩;·subst aa;simp at gy
   ·exact⟨r,k,by simpa using aa⟩
  rw[aeO]at Bm;obtain⟨S,N0,Bm⟩:=KR.1 Bm;have AU:0<=m7/\m7<(S.sub.length:Int):=by
   by_cases e:0<=m7/\m7<(S.sub.length:Int);·exact e
   ·rw[bN e]at Bm;cases Bm
  rw[bT AU]at Bm;obtain⟨z,rfl⟩:=eG AU.1;have bb:z<S.sub.length:=by omega
  have Gb:S.sub.getD z S=Ga:=by have:=eX Bm;rwa [hH]at this
  rw[aeP mo _ N0]at I0;have Us:=cD.go mo be N0;have qc:=Us.nr;refine a8.mk [] _ _ (.refl _) (ar8 (I0.mono fu.a5)) ?_;rintro v mK M' -⟨aj,B3,rfl⟩;subst mK;rw[J0]at aj;subst aj;have asg:cI I vO mo.length mo.length 2 16 ((T.po mo).flatMap um):=by rw[fI]at I0;exact I0.a9 (by rw[cr];omega) (by rw[gO um 2 (λ_=>rfl),J0]) _ (b' _)
  obtain⟨m9,nP,Bk⟩:=(aq.a'.mono fu.a5).row al.cL (j:=S.bs) (by omega) qc;have ah:=(aq.ns _ (bJ qc)).mono fu.a5;have er:=Us.Ba;have mJ:=gr qc;have xn:=aB _ (bJ qc);rw[mJ]at er;have fE:=aq.ns _ (bJ qc);generalize t.ns[S.bs]=d at ah Bk er mJ xn fE;have fj:=ah.aG;have pY:=ah.a'.cap;have c7:d.au.length=S.sub.length:=by rw[er];simp[e3]
  refine bm.mk m9 S.bs nP rfl (by omega) ?_;refine aO.mk _ (Bk _) ?_;refine pB.mk d.aG d.aG rfl rfl (b' _) (by show 8*d.aG<=_;omega) (by omega) ?_;refine bW.mk λgW aeI aeJ=>?_;have Tm:(rowOf [Value.int .i64 0] (d.aG*1))=(List.replicate d.aG (0:Int)).map (Value.int .i64):=by rw[Ca,BX,gM]
  have uU:∀ j (h:j<S.sub.length),S.sub.getD j S=S.sub[j]:=λj h=>by simp[bS,h]
  have ash:∀ j (h:j<S.sub.length),S.sub.getD j (.mk 0 [])=S.sub[j]:=λj h=>by simp[bS,h]
  have awP:=F7 S;have awQ:=aeM bb;have awR:Ga.c2.length=(S.sub[z]).c2.length:=by rw[<-Gb,uU z bb]
  have awS:S.c2.length<=T.c2.length:=aeQ mo N0;refine dt.uJ (ι:=Nat×List Int×aR×List al×aH×List aE) (λy=>{ bo:=[(0,.val y.2.2.1.val),(2,.val (.slice vO mo.length mo.length)),(3,.val (.int .i64 R.bs)),(5,.ref 5 0),(10,.ref 10 0),(11,.ref 11 0),(12,.val (.slice (some ⟨gW,0,none⟩) d.aG d.aG)),(34,.val (.slice d.b0 d.aG d.ch)),(35,.val (.int .i64 d.aG)),(36,.val (.int .i64 y.1))],cl:=[(5,t.cells),(10,[.int .i64 S.bs,.int .i64 z]),(11,d.cells)],cH:=y.2.2.2.2.1,dd:=y.2.2.1.ar 82++(y.2.2.2.2.2++[dJ gW y.2.1]) }) (λy=>aeR t.ns ns I os S R z ((Ga.bare t.ns).put q (vP.bare ns)) y.1 y.2.1 y.2.2.1 y.2.2.2.1 y.2.2.2.2.1 y.2.2.2.2.2) (λy=>d.aG-y.1) ?_ ?_
  ·intro _;refine⟨(0,List.replicate d.aG 0,no,ec,J,je),⟨dp _,by rw[zQ];omega,fu,yo,vN,e5,Bl,λj ai=>absurd ai (ng _),λai=>absurd ai (ng _),?_⟩,.perm (M1:=no.ar 82++(je++[⟨gW,.cells (rowOf [Value.int .i64 0] (d.aG*1)).toArray 3 (0,0)⟩])) ?_ (.ma ?_),uL,.cons rfl (.cons rfl (.cons rfl (.nil)))⟩
   ·rw[Gb];simp only;omega
   ·have:=eU (l₁:=([⟨gW,.cells (rowOf [Value.int .i64 0] (d.aG*1)).toArray 3 (0,0)⟩]:List aE)) (l₂:=no.ar 82++je);rw[dW]at this;exact this
   ·rw[Tm];rfl
  clear vN e5 Bl hh yo;have awT:=fu.a5;rintro⟨i,L,sD,c1,iz,hE⟩eQ;have eQ:aeR t.ns ns I os S R z ((Ga.bare t.ns).put q (vP.bare ns)) i L sD c1 iz hE:=eQ;obtain⟨hi,bY,q2,N1,Dx,vK,Ut,N2,N3,Uu⟩:=eQ;rw[Gb]at Uu;have kx:sD.n=c1.length:=by have:=q2.os.len;rw[gO _ 9 al.cL]at this;omega
  have G7:=aeN S.sub z hi;refine aX.mk (λad=>?_) (λad=>?_)
  ·have y7:i<d.aG:=by have:(i:Int)<(d.aG:Int):=cJ ad;omega
   have eo:i<S.sub.length:=by omega
   have Dr:cI iz d.b0 d.aG d.ch 1 8 (d.au.flatMap iI):=by rw[oq];exact(fE.a').mono q2.a5
   have oc:d.au[i]'(by omega)=((S.sub[i]).bs:Int):=by
    have:d.au[i]?=(e3 S.sub)[i]?:=by rw[er]
    rw[dg (by omega)]at this;unfold e3 at this;rw[iB,dg eo]at this;exact eX this
   obtain⟨gn,fo,fh⟩:=Dr.row (f:=iI) (λ_=>rfl) (j:=i) (by omega) (by omega);rw[oc]at fh;refine bm.mk gn i fo rfl (by omega) ?_;refine aO.mk _ (fh _) ?_;refine aX.mk (λak=>?_) (λak=>?_)
   ·obtain rfl:i=z:=by have:(i:Int)=(z:Int):=cJ ak;omega
    refine bm.mk ⟨gW,0,none⟩ i rfl rfl y7 ?_;refine ck.iV (sD.ar 82++hE) [] (L.map (Value.int .i64)) 3 (dW _ _ _).symm (by rw[nR,bx];show 0+i*1+1<=_;omega) rfl ((L.set i (R.bs:Int)).map (Value.int .i64)) (by rw[du,gM];exact oU L i (by omega) _) ?_;refine bd.mk _ (c8 (i:=i) (by omega)) ?_;intro _;refine⟨(i+1,L.set i (R.bs:Int),sD,c1,iz,hE),⟨⟨eo,by rw[rO];exact bY,q2,N1,?_,vK,Ut,λj ai bt=>?_,λ_=>?_,?_⟩,by simp only;omega⟩,.ma (dW _ _ _),uL,.cons rfl (.cons rfl (.cons rfl (.nil)))⟩
    ·rw[JZ,bT rfl];have e:(oy i i).map (ih (L.set i (R.bs:Int)))=(oy i i).map (ih L):=fV λj ai=>by have:=(NY.1 ai).2;unfold ih;rw[bS,bS,iW,bN (λe=>this e.symm)]
     rw[e];exact Dx
    ·obtain⟨mq,ew,e',fe⟩:=N2 j (by simp only at ai;omega) bt;refine⟨mq,?_,e',fe⟩;rw[bS,iW,bN (λe=>bt e.symm),<-bS];exact ew
    ·rw[bS,iW,bT rfl,bT (by omega)];rfl
    ·rw[Gb];show c1.length<=_+_+uo S.sub i (i+1);unfold uo at Uu |-;rw[JZ,bT rfl];exact Uu
   ·have bt:i≠z:=λe=>by have:¬ (i:Int)=(z:Int):=dv ak;omega
    have asi:=Us.Bb _ (bJ eo);have awU:uo S.sub z (i+1)=uo S.sub z i+(S.sub[i]).c2.length:=by unfold uo;rw[JZ,bN bt,cM,oT,sZ,List.sum_singleton,ash i eo]
    have awV:=aeN S.sub z (show i+1<=S.sub.length by omega);have c9:=aeG (aq.mono (λb o h=>q2.a5 _ _ h)) aB asi q2.os q2.ok Dx (by omega);refine a8.mk (sD.ar 82) (hE++[dJ gW L]) _ (.refl _) c9 ?_;rintro v cA dD -⟨jY,m2,uq,rfl,rfl,Dw,Bn,Gc,r0,mq,kw,h0,qd⟩;refine bm.mk ⟨gW,0,none⟩ i rfl rfl y7 ?_;refine ck.iV ((jY.ar 82++uq)++hE) [] (L.map (Value.int .i64)) 3 (dW _ _ _).symm (by rw[nR,bx];show 0+i*1+1<=_;omega) rfl ((L.set i ((m2.length-1:Nat):Int)).map (Value.int .i64)) (by rw[du,gM];exact oU L i (by omega) _) ?_;refine bd.mk _ (c8 (i:=i) (by omega)) ?_;intro _;obtain⟨jw,iH⟩:=Bn.a9;obtain⟨wC,p6⟩:=q2.a9;refine⟨(i+1,L.set i ((m2.length-1:Nat):Int),jY,m2,cA,uq++hE),⟨⟨eo,by rw[rO];exact bY,⟨λb o h=>Bn.a5 _ _ (q2.a5 _ _ h),Bn.os,Bn.ok,wC++jw,by rw[iH,p6,dW]⟩,aeT N1 Dw,?_,?_,?_,λj ai asj=>?_,λaeU=>?_,?_⟩,by simp only;omega⟩,.ma ?_,uL,.cons rfl (.cons rfl (.cons rfl (.nil)))⟩
    ·rw[JZ,bN bt];have e:(oy z i).map (ih (L.set i ((m2.length-1:Nat):Int)))=(oy z i).map (ih L):=fV λj ai=>by have:=(NY.1 ai).1;unfold ih;rw[bS,bS,iW,bN (by omega)]
     have a6:ih (L.set i ((m2.length-1:Nat):Int)) i=m2.length-1:=by unfold ih;rw[bS,iW,bT rfl,bT (by omega)];rfl
     rw[cM,e,sZ,a6];refine Gc.perm ?_;have:=na (a:=m2.length-1) (l₁:=(oy z i).map (ih L)) (l₂:=[R.bs]);simpa using this.symm
    ·show cD m2 R;rw[iH];exact vK.app jw
    ·show R.bare m2=_;rw[iH,aT.Dq c1 vK];exact Ut
    ·by_cases e:j=i
     ·subst e;refine⟨mq,?_,h0,by rw[qd,uU j eo]⟩;rw[bS,iW,bT rfl,bT (by omega),kw];rfl
     ·obtain⟨U,ew,e',fe⟩:=N2 j (by simp only at ai;omega) asj;refine⟨U,?_,?_,?_⟩
      ·rw[bS,iW,bN (λa6=>e a6.symm),<-bS];exact ew
      ·show cD m2 U;rw[iH];exact e'.app jw
      ·show U.bare m2=_;rw[iH,aT.Dq c1 e'];exact fe
    ·have aeU:z<i+1:=aeU;rw[bS,iW,bN (by omega),<-bS];exact N3 (by omega)
    ·rw[Gb];show m2.length<=_+_+uo S.sub z (i+1);omega
    ·show((jY.ar 82++uq)++hE)++_=jY.ar 82++((uq++hE)++_);rw[dW,dW,dW];rfl
  ·have c0:i=S.sub.length:=by have:¬ (i:Int)<(d.aG:Int):=dv ad;omega
   subst c0;have xO:∀ b o,I b=some o->iz b=some o:=q2.a5;have uh:d.ok iz:=fE.mono xO;refine bW.mk λmM s5 Dv=>?_;refine bD.aeF aY rfl (by simp) (e:=82) rfl rfl rfl sD q2.os rfl (cs:=(d.row (some ⟨gW,0,none⟩) d.aG d.aG L).cells) rfl rfl rfl [] (hE++[dJ gW L]) rfl (by omega) (by show(sD.n+1)*96<=_;omega) ?_;intro jY cA bz cu ep e1;refine bd.mk ((c1.length:Nat):Int) (by show IntKind.i64.wrap ((jY.n:Int)-1)=_;rw[wrap_i64 ⟨by omega,by omega⟩];omega) ?_;intro eF;have Dw:zf os jY (cA++hE):=aeT N1 e1;have mf:([]++(jY.ar 82++(cA++(hE++[dJ gW L])))).Perm ((⟨some gW,d.aG,d.aG,L.map (Value.int .i64)⟩:aR).ar 3++(jY.ar 82++(cA++hE))):=by have:=eU (l₁:=jY.ar 82++(cA++hE)) (l₂:=[dJ gW L]);rw[hX];rw[dW,dW]at this;exact this
   have m6:=mm.F8 (J:=iz) (os:=⟨some gW,d.aG,d.aG,L.map (Value.int .i64)⟩) (e:=3) (foot:=(os.ar 82).map (·.num)) eF mf (λx ab=>Dw x ab);have asl:(⟨some gW,d.aG,d.aG,L.map (Value.int .i64)⟩:aR).ok 1 (L.map (.int .i64 ·)):=⟨by rw[bx];simp only;omega,(λh=>by cases h),λeg jU=>⟨by simp only[bx];omega,b' _,by unfold maxLen;simp only;omega,fC (by rw[bx];simp only;omega)⟩⟩;obtain⟨mK,hw,bf,dB,-⟩:=aR.Ai (b:=8) (e:=3) asl (by simp only;omega) m6 (jY.ar 82++(cA++hE));have asm:∀ j,j<L.length->∃ U:aT,(U.bs:Int)=L.getD j 0/\cD c1 U:=λj ai=>by
    by_cases e:j=z;·subst e;exact⟨R,(N3 (by omega)).symm,vK⟩
    ·obtain⟨U,ew,e',-⟩:=N2 j (by omega) e;exact⟨U,ew,e'⟩
   have NZ:∀ k∈L,0<=k/\k<c1.length:=λk ae=>by obtain⟨j,ai,rfl⟩:=hO ae;obtain⟨U,ew,e'⟩:=asm j ai;rw[bS,dg ai]at ew;have:=e'.nr;have ew:(U.bs:Int)=L[j]:=ew;omega
   have Uq:(d.row (some ⟨gW,0,none⟩) d.aG d.aG L).ok mK:=(uh.mono bf).row dB λx ab=>by have:=NZ x ab;unfold hz;omega
   have asn:c1.length+1<=ns.length+S.c2.length:=by omega
   rw[<-bY]at Dx;have Gc:=asc (x:=d.row (some ⟨gW,0,none⟩) d.aG d.aG L) (by omega) (λk ae=>(NZ k ae).1) (N3 (by omega)) Dx rfl (by
    have dR:fits d d.au.length=true:=xn;show fits (d.row (some ⟨gW,0,none⟩) d.aG d.aG L) (L.length:Nat)=true;rw[bY,<-c7];exact dR)
   obtain⟨x4,h',m3,yT⟩:=asa (tns:=t.ns) bb bY vK Ut (N3 (by omega)) (λj ai bt=>N2 j (by omega) bt) (x:=d.row (some ⟨gW,0,none⟩) d.aG d.aG L) rfl (by rw[mJ];rfl);have xo:aP.mk (nodeAt t.ns S.bs).bare ((S.sub.map (aT.bare t.ns)).set z ((Ga.bare t.ns).put q (vP.bare ns)))=(S.bare t.ns).put ((z:Int)::q) (vP.bare ns):=by rw[aP.put,ael,aet,hH,getD_map,Gb]
   rw[xo]at yT;obtain⟨wC,p6⟩:=q2.a9;refine⟨(mo,vO,mo.length,x4,jY,c1++[d.row (some ⟨gW,0,none⟩) d.aG d.aG L],mK,cA++hE),⟨⟨asg,⟨λb o h=>bf _ _ (xO _ _ h),?_,λx ab=>?_,wC++[_],by rw[p6,dW]⟩,Dw,by rw[h'];exact Gc,m3,S,(z:Int)::q,by rw[mX,dW];rfl,N0,yT,by rw[cr,od];exact asn⟩,by simp only[cr,od];omega⟩,.perm mf (hw _ _ .refl),.cons .refl (.cons .refl (.cons ?_ (.cons .refl (.nil)))),.cons rfl (.nil)⟩
   ·rw[fI];have:([d.row (some ⟨gW,0,none⟩) d.aG d.aG L].flatMap al.cells)=(d.row (some ⟨gW,0,none⟩) d.aG d.aG L).cells:=by simp
    rw[this];exact ep
   ·rcases cv.1 ab with ab | ab
    ·exact(q2.ok x ab).mono bf
    ·rw[eN.1 ab];exact Uq
   ·simp only;rw[h'];exact .refl
 ·have aso:p.length=0:=by have:¬ (0:Int)<(p.length:Int):=dv h;omega
  obtain rfl:p=[]:=jl aso;obtain rfl:T=Ga:=eX Bm;rw[hX]at mX;subst mX;intro _;exact⟨_,_,.refl,no,ec,je,R,rfl,rfl,fu,vN,e5,Bl,hh⟩
section
end
section
end
def sc{G F:Fr}{y:Operand}{r:dH}(h:dq G y=dq F y)(bq:bH F y=r):bH G y=r:=by simp only[bH,dE,h];exact bq
def aR.asp(bE:ub I M J)(h:os.ok size xs)(ba:∀ x∈os.ar e,x∈M)(ag:os.n*b<=140737488355328):cI J (os.a.map λg=>⟨g,0,none⟩) os.n os.c size b xs:=by
 obtain⟨a,n,c,aS⟩:=os;cases a with
 |none=>obtain⟨aa,ad⟩:=h.nil rfl;exact⟨h.len,⟨by simp only at aa ad |-;omega,ag⟩,.inl aa⟩
 |some g=>obtain⟨aa,ad,ak,aK⟩:=h.cap g rfl;exact⟨h.len,⟨ad,ag⟩,.inr ⟨⟨g,0,none⟩,rfl,rfl,aS.toArray,e,(0,0),bE.aG _ _ (.inr ⟨⟨g,.cells aS.toArray e (0,0)⟩,ba _ (.head _),rfl,rfl⟩),by simpa using aK⟩⟩
section
section
end
end
section
end
section
end
section
end
section
end
section
end
section
end
section
end
section
end
section
end
section
end
section
end
section
end
def hs(J:aH)(os:aR)(e:Nat):aH:=match os.a with
 |some g=>ins J g (.cells os.aS.toArray e (0,0))| none=>J
def Bo{post:List aE}(aB:∀ g,os.a=some g->g ∉ foot):hc foot J (os.ar e++post) (hs J os e) post:=by
 obtain⟨a,n,c,aS⟩:=os;cases a with
 |none=>exact .refl| some g=>exact .mP rfl (aB g rfl) .refl
def xp(h:∀ x∈os.ar e++M,J x.num=none):∀ b o,J b=some o->hs J os e b=some o:=by
 obtain⟨a,n,c,aS⟩:=os;cases a with
 |none=>exact λ_ _ h=>h
 |some g=>exact lz (h ⟨g,_⟩ (.head _))
def Dy(h:os.ok size xs)(ag:os.n*b<=140737488355328):cI (hs J os e) (os.a.map λg=>⟨g,0,none⟩) os.n os.c size b xs:=by
 obtain⟨a,n,c,aS⟩:=os;cases a with
 |none=>obtain⟨aa,ad⟩:=h.nil rfl;exact⟨h.len,⟨by simp only at aa ad |-;omega,ag⟩,.inl aa⟩
 |some g=>obtain⟨aa,ad,ak,aK⟩:=h.cap g rfl;exact⟨h.len,⟨ad,ag⟩,.inr ⟨⟨g,0,none⟩,rfl,rfl,aS.toArray,e,(0,0),n8 ..,by simpa using aK⟩⟩
section
end
section
end
def asq(ao:m4 I)(aq:t.ok I)(af:right t=true)(aD:t.n<=1099511627776){node:Nat}(FR:node<t.n) :
  Spec Tryz.prog 171 [t.val,.int .i64 node] I M0 λv I' M'=>(∀ b o,I b=some o->I' b=some o)/\M'=M0/\∃ bn:bk,v=.tuple #[bn.val,.bool true]/\bn.ok I'/\qL t node bn:=by
 refine bV [] aY Tryz.func171 rfl rfl rfl ?_;intro B ay;refine a8.mk [] M0 _ (.refl _) (n7 ao aq) ?_;rintro v J N -⟨rfl,a5,rfl⟩;subst J;refine bX.mk (λ_=>?_) (λh=>absurd h (by simp[af]));have e6:decide (((node:Nat):Int)<0)=false:=eY (by omega);have gB:decide (((t.n:Nat):Int)<=((node:Nat):Int))=false:=eY (by omega);refine bX.mk (λ_=>?_) (λh=>absurd (e6.symm.trans h) (by simp));refine aX.mk (λh=>absurd (gB.symm.trans h) (by simp)) (λ_=>?_);refine a8.whole _ (TB aq af aD FR) ?_;rintro v J N -⟨a5,rfl,bn,rfl,jN,av⟩;exact⟨_,_,.refl,a5,rfl,bn,rfl,jN,av⟩
def aeV(aq:t.ok I)(ae:r6 t.ns){T:aT}(be:cD t.ns T)(m5:t.bC=(T.bs:Int))(aD:t.n<=1099511627776)(aJ:cI I pa pn pc 1 8 (path.map (.int .i64 ·))) :
  Spec Tryz.prog 170 [t.val,.slice pa pn pc] I M0 λv I' M'=>(∀ b o,I b=some o->I' b=some o)/\M'=M0/\∃ (vO:Option Addr) (IH gE k:Nat) (b:Bool),v=.tuple #[.slice vO IH gE,.int .i64 k,.bool b] /\
   match T.go path with
   |none=>b=false| some S=>b=true/\k=S.bs/\IH=path.length/\cI I' vO path.length gE 2 16 ((T.po path).flatMap um):=by
 refine Spec.mH (Spec.frame (Spec.jz (arX aq ae be m5 aD aJ))) ?_;rintro v J M⟨M',rfl,-,a5,rfl,-,I',M1,⟨rfl,os,l,k,b,rfl,rfl,b4,h⟩,bE⟩;have arY:=be.nr;have hk:=aq.n;refine⟨a5,rfl,os.a.map λg=>⟨g,0,none⟩,os.n,os.c,k,b,rfl,?_⟩;cases aw:T.go path with
 |none=>rw[aw]at h;exact h
 |some S=>
  rw[aw]at h;obtain⟨aa,ad,rfl,aK⟩:=h;have ic:os.n=path.length:=by have:=b4.len;rw[gO um 2 (λ_=>rfl),J0]at this;omega
  have:=aR.jz (b:=16) (e:=268) bE b4 (λz bb=>bb) (by rw[J0]at aK;omega);rw[ic]at this;exact⟨aa,ad,ic,this⟩
def g'.Gd(h:g' t):∃ T:aT,t.bC=(T.bs:Int)/\cD t.ns T/\bI t=T.bare t.ns/\T.c2.Nodup/\T.c2.length<=t.ns.length:=by obtain⟨gV,hn⟩:=h.bC;obtain⟨r,en⟩:=eG gV;obtain⟨T,aa,ad,ak,aK⟩:=h.lt (j:=r) (by omega);refine⟨T,by rw[aa];exact en,ad,by unfold bI;rw[en];exact ak,aK,Nw aK λx ab=>ad.lt x ab⟩
def m4.mono(h:m4 I)(bA:∀ b o,I b=some o->I' b=some o):m4 I':=by obtain⟨T,an,h⟩:=h;exact⟨T,an,bA _ _ h⟩
def Uv:Value:=.agg #[.slice none 0 0,.int .i64 0]
def nw(X:Option aP)(I:aH)(M0:List aE)(v:Value)(I':aH)(M':List aE):Prop:=(∀ b o,I b=some o->I' b=some o)/\M'=M0 /\
 match X with
 |none=>v=.tuple #[Uv,.bool false]| some X=>∃ bn:bk,v=.tuple #[bn.val,.bool true]/\bn.ok I'/\k' bn X/\eZ X/\jd X
def asr(ao:m4 I)(aq:t.ok I)(af:right t=true)(aD:t.n<=1099511627776)(aJ:cI I pa pn pc 1 8 (path.map (.int .i64 ·))) :
  Spec Tryz.prog 106 [t.val,.slice pa pn pc] I M0 (nw ((bI t).go path) I M0):=by
 have aV:=jv.1 af;obtain⟨T,kw,h0,qd,Uw,ass⟩:=aV.Gd;have hk:=aq.n;rw[show(bI t).go path=(T.go path).map (aT.bare t.ns)from by rw[qd,bare_go]];refine bV [] aY Tryz.func106 rfl rfl rfl ?_;intro B ay;have dB:=n7 ao aq;rw[af]at dB;refine a8.mk [] M0 _ (.refl _) dB ?_;rintro v J N -⟨rfl,a5,rfl⟩;subst J;refine aX.mk (λh=>by cases h) (λ_=>?_);refine a8.mk [] M0 _ (.refl _) (aeV (M0:=[]) aq aV.xj h0 kw aD aJ) ?_;rintro v J M1 -⟨a5,rfl,vO,IH,gE,k,b,rfl,h⟩;refine aX.mk (λag=>?_) (λag=>?_)
 ·have ag:(!b)=true:=ag;refine⟨_,_,.refl,a5,rfl,?_⟩;cases aw:T.go path with
  |none=>rfl| some S=>rw[aw]at h;obtain⟨rfl,-⟩:=h;cases ag
 ·have ag:(!b)=false:=ag;obtain⟨S,aw⟩:∃ S,T.go path=some S:=by
   cases aw:T.go path with
   |none=>rw[aw]at h;have h:b=false:=h;rw[h]at ag;cases ag| some S=>exact⟨S,rfl⟩
  rw[aw]at h;obtain⟨rfl,rfl,-,-⟩:=h;have cc:=cD.go path h0 aw;have qc:=cc.nr;refine a8.mk [] M0 _ (.refl _) (asq (M0:=[]) (ao.mono a5) (aq.mono a5) af aD (show S.bs<t.n by omega)) ?_;rintro v cA dD -⟨cO,rfl,bn,rfl,jN,av⟩;refine⟨_,_,.refl,λb o h=>cO _ _ (a5 _ _ h),rfl,?_⟩;rw[aw];refine⟨bn,rfl,jN,?_,?_,?_⟩;·have:=ad2 aV qc av;rwa [NF aV.xj cc]at this
  ·exact NG aV.fit cc
  ·exact ad4 _ _
def ast(zg:e2 I az){x:bk}(aq:t.ok I)(ab:x.ok I)(af:right t=true)(uc:right x=true)(aD:t.n+x.n<=1099511627776)(aJ:cI I pa pn pc 1 8 (path.map (.int .i64 ·))) :
  Spec Tryz.prog 113 [t.val,.slice pa pn pc,x.val] I [] (nw (((bI t).go path).map λ_=>((bI t).put path (bI x)).lL) I []):=by
 have aV:=jv.1 af;have aeW:=jv.1 uc;obtain⟨T,kw,h0,qd,Uw,ass⟩:=aV.Gd;obtain⟨X,asu,asv,aeX,aeY,asw⟩:=aeW.Gd;have hk:=aq.n;have om:=ab.n;rw[show((bI t).go path).map (λ_=>((bI t).put path (bI x)).lL)=(T.go path).map (λ_=>((bI t).put path (bI x)).lL)from by rw[show(bI t).go path=(T.go path).map (aT.bare t.ns)from by rw[qd,bare_go],Option.map_map];rfl];refine bV [] aY Tryz.func113 rfl rfl rfl ?_;intro B ay;have dB:=n7 zg.c aq;rw[af]at dB;have aeZ:=n7 zg.c ab;rw[uc]at aeZ;refine a8.mk [] [] _ (.refl _) dB ?_;rintro v J N -⟨rfl,a5,rfl⟩;subst J;refine bX.mk (λh=>?_) (λh=>by cases h);refine a8.mk [] [] _ (.refl _) aeZ ?_;rintro v J N -⟨rfl,a5,rfl⟩;subst J;refine aX.mk (λh=>by cases h) (λ_=>?_);refine a8.mk [] [] _ (.refl _) (aeV (M0:=[]) aq aV.xj h0 kw (by omega) aJ) ?_;rintro v J M1 -⟨a5,rfl,vO,IH,gE,k,b,rfl,h⟩;refine aX.mk (λag=>?_) (λag=>?_)
 ·have ag:(!b)=true:=ag;refine⟨_,_,.refl,a5,rfl,?_⟩;cases aw:T.go path with
  |none=>rfl| some S=>rw[aw]at h;obtain⟨rfl,-⟩:=h;cases ag
 ·have ag:(!b)=false:=ag;obtain⟨S,aw⟩:∃ S,T.go path=some S:=by
   cases aw:T.go path with
   |none=>rw[aw]at h;have h:b=false:=h;rw[h]at ag;cases ag| some S=>exact⟨S,rfl⟩
  rw[aw]at h;obtain⟨rfl,rfl,rfl,wL⟩:=h;have xJ:=aeG (ab.mono a5) aeW.fit asv (os:=h2) (ns:=[]) (k1 9) (λd ah=>by cases ah) mg.nil (by simp only[hB];omega);rw[<-asu]at xJ;refine a8.mk [] [] _ (.refl _) xJ ?_;rintro v iz M1 hq⟨sD,c1,hE,rfl,rfl,N1,q2,Dx,F0,awW,h',asx,Bl⟩;have awX:c1.length=X.c2.length:=by simpa using F0
  rw[<-h']at Dx;have fN:=asf (aq.mono (λb o h=>hq _ _ (a5 _ _ h))) aV.fit aV.xj h0 aw (wL.mono hq) q2.os q2.ok Dx asx (by omega) (by omega);rw[h']at fN;refine a8.mk (sD.ar 82) hE _ (by rw[dF]) fN ?_;rintro v cA dD cO⟨jY,m2,uq,Ux,rfl,rfl,Bn,Gc,Uy,ae0,r0⟩;have jy:jY.n=m2.length:=by have:=Bn.os.len;rw[gO _ 9 al.cL]at this;omega
  refine a8.pC λeF=>?_;have mf:((jY.ar 82++uq)++hE).Perm (jY.ar 82++(uq++hE)):=by rw[dW]
  have asy:=mm.F8 (os:=jY) (e:=82) (foot:=[]) eF mf (λx ab=>by cases ab);obtain⟨kF,hw,bf,asz,-⟩:=aR.Ai (b:=96) (e:=82) Bn.os (by omega) asy (uq++hE);have awY:=Uy.nr;obtain⟨t3,yt⟩:∃ t3:bk,t3=⟨m2,jY.a.map λg=>⟨g,0,none⟩,jY.n,jY.c,Ux.bs⟩:=⟨_,rfl⟩;have zJ:t3.ok kF:=by rw[yt];exact⟨asz,λd ah=>(Bn.ok d ah).mono bf,⟨by simp only;omega,by simp only;omega⟩⟩
  have yT:g' t3:=Gc.right (by rw[yt]) (by rw[yt]);have ir:bI t3=(bI t).put path (bI x):=by rw[qd,aeX,<-Bl,<-ae0,yt];exact NF Gc.wd.au Uy
  have asA:eZ (bI t3):=by have:=NG yT.fit (T:=Ux) (by rw[yt];exact Uy);rw[ir,qd,aeX,<-Bl,<-ae0];rw[yt]at this;exact this
  have ae1:=NW (M0:=[]) ((zg.mono (λb o h=>bf _ _ (cO _ _ (hq _ _ (a5 _ _ h)))))) zJ (jv.2 yT) (by rw[yt];simp only;omega);rw[show t3.val=.agg #[jY.val,.int .i64 Ux.bs]from by rw[yt];rfl]at ae1;refine a8.uF kF [] (uq++hE) _ (.perm mf (hw _ _ .refl)) ae1 ?_;rintro v zh rB qe -⟨-,rfl,bn,rfl,jN,dz⟩;refine⟨_,_,.sub (gd _) .refl,λb o h=>qe _ _ (bf _ _ (cO _ _ (hq _ _ (a5 _ _ h)))),rfl,?_⟩;rw[aw];refine⟨bn,rfl,jN,?_,?_,JW _⟩;·rw[<-ir];exact dz
  ·rw[<-ir];exact Dt asA
def asB(zg:e2 I az){x:bk}(aq:t.ok I)(ab:x.ok I)(af:right t=true)(uc:right x=true)(aD:t.n+x.n<=1099511627776)(aJ:cI I pa pn pc 1 8 (path.map (.int .i64 ·))) :
  Spec Tryz.prog 113 [t.val,.slice pa pn pc,x.val] I M0 (nw (((bI t).go path).map λ_=>((bI t).put path (bI x)).lL) I M0):=by
 refine(Spec.frame (ast zg aq ab af uc aD aJ)).NI ?_;rintro v I' M'⟨M1,rfl,-,-,aa,rfl,ad⟩;exact⟨aa,rfl,ad⟩
def sd(g:cU)(rule:Int)(path:List Int):Option aP:=if 0<=rule/\rule<(g.ds.length:Int)then(bI (g.ds.getD rule.toNat kH).t).go path else none
structure Uz(g:cU):Prop where
 r:∀ d∈g.ds,right d.t=true
 n:∀ d∈g.ds,d.t.n<=549755813888
def Ge(rule:Int)(pa:Option Addr)(pn pc:Nat):Value:=.agg #[.int .i64 rule,.slice pa pn pc]
def nw.shape{X:Option aP}{v:Value}{M':List aE}(h:nw X I M0 v I' M'):∃ a n c r b,v=.tuple #[.agg #[.slice a n c,.int .i64 r],.bool b]/\b=X.isSome:=by
 obtain⟨-,-,h⟩:=h;cases X with
 |none=>exact⟨none,0,0,0,false,h,rfl⟩| some X=>obtain⟨bn,rfl,-⟩:=h;exact⟨_,_,_,_,true,rfl,rfl⟩
def ae2(ao:m4 I)(aw:g.ok I)(fA:Uz g)(aJ:cI I pa pn pc 1 8 (path.map (.int .i64 ·))) :
  Spec Tryz.prog 52 [g.val,Ge rule pa pn pc] I M0 (nw (sd g rule path) I M0):=by
 have iG:=aw.n;refine bV [] aY Tryz.func52 rfl rfl rfl ?_;intro B ay;refine bX.mk (λh=>?_) (λh=>?_)
 ·have aa:¬ rule<0:=dv h;refine aX.mk (λad=>?_) (λad=>?_)
  ·have ad:(g.n:Int)<=rule:=cJ ad;refine⟨_,_,.refl,λ_ _ h=>h,rfl,?_⟩;unfold sd;rw[bN (by omega)];rfl
  ·have ad:¬ (g.n:Int)<=rule:=dv ad;obtain⟨u,rfl⟩:=eG (show 0<=rule by omega);have hu:u<g.ds.length:=by omega
   obtain⟨aM,bB,bp⟩:=aw.a'.row a3.cL (j:=u) (by omega) hu;have ah:=aw.ds _ (bJ hu);have af:=fA.r _ (bJ hu);have Up:=fA.n _ (bJ hu);have fv:sd g (u:Int) path=(bI g.ds[u].t).go path:=by unfold sd;rw[bT (by omega),hH];simp[bS,hu]
   have e5:=asr (M0:=[]) ao ah.t af (by omega) aJ;rw[<-fv]at e5;refine cT.draw aY rfl rfl rfl ?_;refine bm.mk aM u bB rfl (by omega) ?_;refine aO.mk _ ((bp _).part (k:=1) (m:=2) (by decide)) ?_;refine a8.mk [] M0 _ (.refl _) e5 ?_;rintro v J M1-h;obtain⟨a,n,c,r,b,rfl,-⟩:=h.shape;obtain⟨ew,rfl,fe⟩:=h;exact⟨_,_,.refl,ew,rfl,fe⟩
 ·have aa:rule<0:=cJ h;refine⟨_,_,.refl,λ_ _ h=>h,rfl,?_⟩;unfold sd;rw[bN (by omega)];rfl
def asC(g:cU)(rule:Int)(X:Option aP)(I:aH)(M0:List aE)(v:Value)(I':aH)(M':List aE):Prop:=(∀ b o,I b=some o->I' b=some o)/\M'=M0 /\
 match X with
 |none=>v=.tuple #[.agg #[.slice none 0 0],.bool false]| some X=>∃ (h:cU) (bn:bk),v=.tuple #[h.val,.bool true]/\h.ok I'/\h.n=g.n/\h.ds.map a3.a4=(g.ds.set rule.toNat ⟨(g.ds.getD rule.toNat kH).name,bn⟩).map a3.a4/\k' bn X/\eZ X/\jd X
def vQ(g:cU)(rule:Int)(path:List Int)(x:aP):Option aP:=(sd g rule path).map λ_=>((bI (g.ds.getD rule.toNat kH).t).put path x).lL
def UA(zg:e2 I az)(aw:g.ok I)(fA:Uz g)(yn:g.n<=1000000){x:bk}(ab:x.ok I)(uc:right x=true)(om:x.n<=549755813888)(aJ:cI I pa pn pc 1 8 (path.map (.int .i64 ·))) :
  Spec Tryz.prog 58 [g.val,Ge rule pa pn pc,x.val] I M0 (asC g rule (vQ g rule path (bI x)) I M0):=by
 have iG:=aw.n;refine bV [] aY Tryz.func58 rfl rfl rfl ?_;intro B ay;refine bX.mk (λh=>?_) (λh=>?_)
 ·have aa:¬ rule<0:=dv h;refine aX.mk (λad=>?_) (λad=>?_)
  ·have ad:(g.n:Int)<=rule:=cJ ad;refine⟨_,_,.refl,λ_ _ h=>h,rfl,?_⟩;unfold vQ sd;rw[bN (by omega)];rfl
  ·have ad:¬ (g.n:Int)<=rule:=dv ad;obtain⟨u,rfl⟩:=eG (show 0<=rule by omega);have hu:u<g.ds.length:=by omega
   obtain⟨aM,bB,bp⟩:=aw.a'.row a3.cL (j:=u) (by omega) hu;have ah:=aw.ds _ (bJ hu);have af:=fA.r _ (bJ hu);have Up:=fA.n _ (bJ hu);have uU:g.ds.getD u kH=g.ds[u]:=by simp[bS,hu]
   have fv:vQ g (u:Int) path (bI x)=((bI g.ds[u].t).go path).map λ_=>((bI g.ds[u].t).put path (bI x)).lL:=by unfold vQ sd;rw[bT (by omega),hH,uU]
   have e5:=asB (M0:=[]) zg ah.t ab af uc (by omega) aJ;rw[<-fv]at e5;refine cT.x0 aY rfl rfl rfl (ι:=Nat×Option Addr×Nat×Nat×Int×Bool×aH) (λy=>{ bo:=[(3,.ref 3 0),(4,.ref 4 0),(6,.ref 6 0),(8,.val (ptr y.1)),(9,.val (.bool y.2.2.2.2.2.1))],cl:=[(3,[.slice g.a g.n g.c]),(4,[.int .i64 u,.slice pa pn pc]),(6,[.slice none 0 0])],cH:=y.2.2.2.2.2.2,dd:=⟨y.1,.cells #[.slice y.2.1 y.2.2.1 y.2.2.2.1,.int .i64 y.2.2.2.2.1] 56 (0,0)⟩::M0 }) (λy=>nw (vQ g (u:Int) path (bI x)) I [] (.tuple #[.agg #[.slice y.2.1 y.2.2.1 y.2.2.2.1,.int .i64 y.2.2.2.2.1],.bool y.2.2.2.2.2.1]) y.2.2.2.2.2.2 []) ?_ ?_
   ·refine bm.mk aM u bB rfl (by omega) ?_;refine aO.mk _ ((bp _).part (k:=1) (m:=2) (by decide)) ?_;refine⟨?_,?_⟩
    ·refine a8.mk [] M0 _ (.refl _) e5 ?_;rintro v J M1 a5 h;obtain⟨a,n,c,r,b,rfl,-⟩:=h.shape;obtain⟨ew,rfl,fe⟩:=h;refine bW.mk λdP sQ vR=>?_;refine ck.mk [] M0 _ _ rfl rfl (bK rfl) rfl ?_;exact⟨(dP,a,n,c,r,b,J),⟨ew,rfl,fe⟩,.refl,hx,.cons rfl (.cons rfl (.cons rfl (.nil)))⟩
    ·refine bW.mk λdP sQ vR=>?_;refine eJ.mk _ e5 ?_;rintro v J M1 a5 h;obtain⟨a,n,c,r,b,rfl,-⟩:=h.shape;obtain⟨ew,rfl,fe⟩:=h;refine ck.mk [] M0 _ _ rfl rfl (bK rfl) rfl ?_;exact⟨(dP,a,n,c,r,b,J),⟨ew,rfl,fe⟩,.refl,hx,.cons rfl (.cons rfl (.cons rfl (.nil)))⟩
   rintro⟨dP,a,n,c,r,b,J⟩asD;obtain⟨ew,-,fe⟩:=asD;simp only at ew fe;refine aX.mk (λag=>?_) (λag=>?_)
   ·have ag:(!b)=true:=ag;refine⟨_,_,.sub (.cons _ (.refl _)) .refl,ew,rfl,?_⟩;cases ox:vQ g (u:Int) path (bI x)with
    |none=>rfl
    |some X=>
     rw[ox]at fe;obtain⟨bn,e,-⟩:=fe;injection e with e
     simp at e;rw[e.2]at ag;cases ag
   ·have ag:(!b)=false:=ag;obtain⟨X,ox⟩:∃ X,vQ g (u:Int) path (bI x)=some X:=by
     cases ox:vQ g (u:Int) path (bI x)with
     |none=>
      rw[ox]at fe;have fe:Value.tuple #[.agg #[.slice a n c,.int .i64 r],.bool b]=.tuple #[Uv,.bool false]:=fe;injection fe with e
      simp[Uv]at e;rw[e.2]at ag;cases ag
     |some X=>exact⟨X,rfl⟩
    rw[ox]at fe;obtain⟨bn,e,jN,dz,bg,s6⟩:=fe;have a6:Value.agg #[.slice a n c,.int .i64 r]=bn.val:=by
     injection e with e
     simp at e;rw[<-e.1]
    have rG:=ao7 (M0:=[]) (aw.mono ew) hu (by omega) jN;rw[<-a6]at rG;refine aO.mk [.slice a n c,.int .i64 r] ⟨rfl,_,_,_,.inr ⟨_,.head _,rfl,rfl⟩,rfl,rfl⟩ ?_;refine a8.mk [] _ _ (.refl _) rG ?_;rintro v cA dD -⟨cO,rfl,bq,rfl,kG,xX,eh⟩;refine⟨_,_,.sub (.cons _ (.refl _)) .refl,λb o h=>cO _ _ (ew _ _ h),rfl,?_⟩;rw[ox];refine⟨bq,bn,rfl,kG,xX,?_,dz,bg,s6⟩;rw[hH,uU];exact eh
 ·have aa:rule<0:=cJ h;refine⟨_,_,.refl,λ_ _ h=>h,rfl,?_⟩;unfold vQ sd;rw[bN (by omega)];rfl
def UB{X:aP}(ox:eZ X):∀ (p:List Int) {T:aP},eZ T->eZ (T.put p X)
 |[],T,h=>ox
 |i::p,.mk d ks,h=>by
  obtain⟨aB,ae⟩:=h.inv;rw[aP.put];show eZ (aP.mk d (ks.set i.toNat ((ks.getD i.toNat (.mk d ks)).put p X)));refine .mk (by rw[rO];exact aB) λc ao=>?_;rcases xb ao with ao | rfl;·exact ae c ao
  ·refine UB ox p ?_;rw[bS];cases e:ks[i.toNat]? with
   |none=>exact h| some c=>exact ae c (rk e)
def ae3{P:al->Prop}:∀ (p:List Int) {T S:aP},ij P T->T.go p=some S->ij P S
 |[],T,S,h,e=>by rw[aP.go]at e;cases e;exact h
 |i::p,.mk d ks,S,h,e=>by
  rw[aP.go]at e;split at e
  ·refine ae3 p ?_ e;show ij P (ks.getD i.toNat (.mk d ks));rw[bS];cases e:ks[i.toNat]? with
   |none=>exact h| some c=>exact h.inv.2 c (rk e)
  ·cases e
def UC:∀ (p:List Int) {T S:aP},eZ T->T.go p=some S->eZ S
 |[],T,S,h,e=>by rw[aP.go]at e;cases e;exact h
 |i::p,.mk d ks,S,h,e=>by
  rw[aP.go]at e;split at e
  ·refine UC p ?_ e;show eZ (ks.getD i.toNat (.mk d ks));rw[bS];cases e:ks[i.toNat]? with
   |none=>exact h| some c=>exact h.inv.2 c (rk e)
  ·cases e
def N4(h:right t=true):eZ (bI t):=by obtain⟨T,aa,ad,ak,aK,bz⟩:=(jv.1 h).Gd;rw[ak];exact NG (jv.1 h).fit ad
def N5(h:right t=true):ui pl F t=(bI t).fold (h4 pl F):=by obtain⟨gV,hn⟩:=l4 h;obtain⟨r,af⟩:=eG gV;unfold ui adp bI;rw[af];exact aqF (λd l=>rfl) (jv.1 h) (by omega)
def xq(az:List Int)(g:cU)(u:Nat)(X:aP):Bool:=decide (c6 az (r5 (eR g.ds u (jK X.post)))=0)
structure J1(az:List Int)(g:cU)(F:List aW):Prop where
 n:g.ds.length=g.n
 m:c6 az g=0
 Jp:iw g.ds F
 left:(r2 g.ds F).length=0
 loops:(p' g.ds F).length=0
def pg.J2(aD:g.ds.length=g.n)(h:pg az g r)(ay:r.2=0):∃ F,J1 az g F:=by
 have hm:c6 az g=0:=by
  rcases h with⟨a,e⟩ | ⟨a,-⟩;·rw[e]at ay;exact ay
  ·exact a
 obtain⟨aa,ad⟩:=(h.get hm).1 ay;rcases h with⟨a,-⟩ | ⟨-,F,bE,-⟩
 ·exact absurd hm a
 rw[Ti bE]at aa ad;exact⟨F,aD,hm,bE,aa,ad⟩
def asE(hm:c6 az g=0){d:a3}(ah:d∈g.ds):normal d.t=true:=by have:=fS.1 (JE.1 hm).2.1 d ah;rw[cB]at this;exact this.2
def pq(hm:c6 az g=0){d:a3}(ah:d∈g.ds):right d.t=true:=(Uk.1 (asE hm ah)).1
def asF{X:aP}(h:k' t X)(aD:t.ns.length=t.n):t.a4=(jK X.post).a4:=by
 have ax:X.post.length=t.ns.length:=by rw[<-h.a4,bx]
 have e:X.post.map al.a4=X.post:=by refine oH (by simp) λi aa ad=>?_;rw[fW];exact adY X _ (bJ _)
 unfold bk.a4 jK;simp only[h.a4,e,h.bC,ax,aD]
def asG{ds:List a3}{y G9:bk}(h:y.a4=G9.a4):(eR ds u y).map a3.a4=(eR ds u G9).map a3.a4:=by unfold eR;rw[rn,rn];congr 1;unfold a3.a4;rw[h]
def asH(iG:g.ds.length=g.n){X:aP}(dz:k' bn X)(aD:bn.ns.length=bn.n)(q1:h.n=g.n)(ao:h.ds.map a3.a4=(eR g.ds u bn).map a3.a4):xq az g u X=decide (c6 az h=0):=by
 unfold xq;congr 1;have:c6 az (r5 (eR g.ds u (jK X.post)))=c6 az h:=by rw[<-CI,<-CI az h];congr 1;unfold cU.a4 r5;rw[ao,q1,sb,iG,asG (asF dz aD)]
 rw[this]
section
end
structure mh(x y:xh):Prop where
 bo:x.1.1.le y.1.1
 J3:∀ k∈x.1.2,k∈y.1.2
 e9:x.2=true->y.2=true
def mh.rfl'(x:xh):mh x x:=⟨aW.le_refl _,λ_ h=>h,λh=>h⟩
def mh.trans{x y z:xh}(h:mh x y)(bq:mh y z):mh x z:=⟨h.bo.trans bq.bo,λk ae=>bq.J3 k (h.J3 k ae),λe=>bq.e9 (h.e9 e)⟩
def ae4:∀ {xs ys:List (aW×List Nat)},xs.length=ys.length->(∀ i (h:i<xs.length) (bq:i<ys.length),(xs[i].1.z=true->ys[i].1.z=true)/\∀ k∈xs[i].2,k∈ys[i].2)->∀ k∈ki xs,k∈ki ys
 |[],[],_,_,k,h=>by cases h
 |x::xs,y::ys,ax,h,k,ae=>by
  have ay:=h 0 (by simp) (by simp);simp only[tp]at ay;rw[ki]at ae |-;rcases cv.1 ae with ae | ae;·exact iR _ (ay.2 k ae)
  ·cases bb:x.1.z with
   |false=>rw[bb]at ae;cases ae
   |true=>
    rw[bb]at ae;rw[ay.1 bb];exact rj _ (ae4 (xs:=xs) (ys:=ys) (by simpa using ax) (λi g eg=>by
     have aa:=h (i+1) (by simp;omega) (by simp;omega);simpa only[GZ]using aa) k ae)
def dT.IA{a b:List aW}(ax:a.length=b.length)(h:∀ i (aa:i<a.length) (ad:i<b.length),(a[i]).le b[i]):dT a b:=by
 refine dT.of ax λi hi=>?_;have ad:i<b.length:=by omega
 have:=h i hi ad;simpa[bS,hi,ad]using this
def UD(bE:dT dc F)(d:al){xs ys:List xh}(ax:xs.length=ys.length)(h:∀ i (ab:i<xs.length) (aC:i<ys.length),mh xs[i] ys[i]):mh (h4 pl dc d xs) (h4 pl F d ys):=by
 have hm:dT ((xs.map (·.1)).map (·.1)) ((ys.map (·.1)).map (·.1)):=by refine dT.IA (by simpa using ax) λi aa ad=>?_;simp only[fW];exact(h i (by simpa using aa) (by simpa using ad)).bo
 have S4:∀ k∈(xs.map (·.1)).flatMap (·.2),k∈(ys.map (·.1)).flatMap (·.2):=by
  intro k ae;obtain⟨x,ab,ae⟩:=hl.1 ae;obtain⟨q,aL,rfl⟩:=hO ab;simp only[fW]at ae;have aL:q<xs.length:=by simpa using aL
  have ei:(ys[q]'(by omega)).1∈ys.map (·.1):=vF (bJ _);exact hl.2 ⟨_,ei,(h q aL (by omega)).J3 k ae⟩
 refine⟨?_,?_,?_⟩
 ·refine YM d (dT.append hm ?_);cases decide (d.k=3)with
  |true=>exact .cons (dT.getD bE _) .nil| false=>exact .nil
 ·show ∀ k∈lB pl d (xs.map (·.1)),k∈lB pl d (ys.map (·.1));unfold lB;by_cases cq:d.k=3
  ·rw[iX cq];exact λk ae=>ae
  rw[eY cq];by_cases dS:d.k=4;·rw[iX dS];refine ae4 (by simpa using ax) λi aa ad=>?_;simp only[fW];have:=h i (by simpa using aa) (by simpa using ad);exact⟨this.bo.z,this.J3⟩
  rw[eY dS];by_cases nh:d.k=6/\d.hi=0;·rw[iX nh.1,iX nh.2];exact λk ae=>ae
  ·have e:(decide (d.k=6)&&decide (d.hi=0))=false:=by rw[<-JL];exact eY nh
   rw[e];exact S4
 ·show yY pl dc d xs=true->yY pl F d ys=true;intro ay;obtain⟨x,ab,ay⟩:=Fu.1 ay;obtain⟨q,aL,rfl⟩:=hO ab;have aV:=h q aL (by omega);refine Fu.2 ⟨_,bJ (show q<ys.length by omega),?_⟩;rcases apX ay with aa | aa
  ·rw[cB,cB]at aa;rw[aa.1,aa.2.1,aV.bo.z aa.2.2];rfl
  ·rw[aV.e9 aa,Lx]
def asI(bE:dT dc F):∀ T:aP,mh (T.fold (h4 pl dc)) (T.fold (h4 pl F)):=by
 intro T
 induction T using aP.ind with
 |h d ks aQ=>rw[aP.fold_eq,aP.fold_eq];refine UD bE d (by simp) λi aa ad=>?_;simp only[fW];exact aQ _ (bJ _)
def ae5{pl:List (ByteArray×Int)}{F:List aW}{X S:aP}(ox:mh (X.fold (h4 pl F)) (S.fold (h4 pl F))):∀ (p:List Int) (T:aP),T.go p=some S->mh ((T.put p X).fold (h4 pl F)) (T.fold (h4 pl F))
 |[],T,h=>by rw[aP.go]at h;cases h;exact ox
 |i::p,.mk d ks,h=>by
  rw[aP.go]at h;split at h
  ·rename_i hi;have hi:0<=i/\i<(ks.length:Int):=hi;obtain⟨q,rfl⟩:=eG hi.1;have aL:q<ks.length:=by omega
   have aQ:=ae5 ox p _ h;rw[aP.put];show mh ((aP.mk d (ks.set q ((ks.getD q (.mk d ks)).put p X))).fold _) _;rw[aP.fold_eq,aP.fold_eq];refine UD (dT.refl _) d (by simp) λj aa ad=>?_;rw[fW,fW,PF];split
   ·rename_i e;subst e;have a6:(aP.mk d ks).sub.getD ((q:Int)).toNat (.mk d ks)=ks[q]:=by show ks.getD q _=_;simp[bS,aL]
    rw[a6]at aQ;have cq:ks.getD q (.mk d ks)=ks[q]:=by simp[bS,aL]
    rw[cq];exact aQ
   ·exact mh.rfl' _
  ·cases h
structure xr(ds:List a3)(u:Nat)(y:bk):Prop where
 ul:u<ds.length
 r:right y=true
 rel:∀ F:List aW,mh (ui (bM ds) F y) (ui (bM ds) F (ds.getD u kH).t)
section
variable{ds:List a3}{u:Nat}{y:bk}(gi:xr ds u y)(af:∀ d∈ds,right d.t=true)
include gi af
theorem xr.asJ:ds.getD u kH=ds[u]'gi.ul:=by have:=gi.ul;simp[bS,this]
theorem xr.bF{i:Nat}(hi:i<(eR ds u y).length):right ((eR ds u y)[i]).t=true/\∀ F,mh (ui (bM ds) F ((eR ds u y)[i]).t) (ui (bM ds) F (ds[i]'(by rw[sb]at hi;exact hi)).t):=by
 have cC:i<ds.length:=by rw[sb]at hi;exact hi
 by_cases e:i=u
 ·subst e;have ak:=NX (y:=y) gi.ul;rw[dg hi]at ak;rw[eX ak];refine⟨gi.r,λF=>?_⟩;have:=gi.rel F;rw[gi.asJ af]at this;exact this
 ·have ak:=Ui (ds:=ds) (y:=y) e;rw[dg hi,dg cC]at ak;rw[eX ak];exact⟨af _ (bJ cC),λF=>mh.rfl' _⟩
theorem xr.Jp(bE:iw ds F)(mR:iw (eR ds u y) dc):dT dc F:=by
 refine mR.least F (by rw[sb];exact bE.len) λi hi=>?_;have cC:i<ds.length:=by rw[sb]at hi;exact hi
 obtain⟨aa,ad⟩:=gi.bF af hi;rw[Uh,aez aa,bE.fix i cC,aez (af _ (bJ cC))];exact(ad F).bo
theorem xr.bH(bE:iw ds F)(mR:iw (eR ds u y) dc){i:Nat}(hi:i<(eR ds u y).length):mh (ui (bM ds) dc ((eR ds u y)[i]).t) (ui (bM ds) F (ds[i]'(by rw[sb]at hi;exact hi)).t):=by obtain⟨aa,ad⟩:=gi.bF af hi;refine mh.trans ?_ (ad F);rw[N5 aa,N5 aa];exact asI (gi.Jp af bE mR) _
theorem xr.ae6(bE:iw ds F)(mR:iw (eR ds u y) dc){i k:Nat}(ae:k∈me (eR ds u y) dc i):k∈me ds F i:=by
 by_cases hi:i<(eR ds u y).length
 ·have cC:i<ds.length:=by rw[sb]at hi;exact hi
  obtain⟨aa,-⟩:=gi.bF af hi;unfold me at ae |-;rw[dg hi,Uh]at ae;rw[dg cC];have ae:k∈(gv (bM ds) dc (eR ds u y)[i].t.ns (eR ds u y)[i].t.bC).2:=ae;show k∈(gv (bM ds) F ds[i].t.ns ds[i].t.bC).2;rw[<-aeA aa]at ae;rw[<-aeA (af _ (bJ cC))];exact(gi.bH af bE mR hi).J3 k ae
 ·rw[acC (by omega)]at ae;cases ae
theorem xr.comes(bE:iw ds F)(mR:iw (eR ds u y) dc){i k:Nat}(ao:mI (me (eR ds u y) dc) i k):mI (me ds F) i k:=by
 induction ao with
 |one ae=>exact .one (gi.ae6 af bE mR ae)| step ai _ aQ=>exact .step (gi.ae6 af bE mR ai) aQ
theorem xr.asK(bE:iw ds F)(mR:iw (eR ds u y) dc){i:Nat}(he:xf (eR ds u y) dc i=true):xf ds F i=true:=by
 by_cases hi:i<(eR ds u y).length
 ·have cC:i<ds.length:=by rw[sb]at hi;exact hi
  unfold xf at he |-;rw[dg hi,Uh]at he;rw[dg cC];exact(gi.bH af bE mR hi).e9 he
 ·unfold xf at he;rw[qn (by omega)]at he;cases he
theorem xr.J2(bE:iw ds F)(ax:(r2 ds F).length=0)(e6:(p' ds F).length=0){ds':List a3}(ao:ds'.map a3.a4=(eR ds u y).map a3.a4)(mR:iw ds' dc):(r2 ds' dc).length=0/\(p' ds' dc).length=0:=by
 have MQ:iw (eR ds u y) dc:=acP (by rw[<-ao];exact akA mR);have cS:ds'.length=ds.length:=by have:=congrArg List.length ao;rw[bx,bx,sb]at this;exact this
 refine⟨?_,?_⟩
 ·rw[List.length_eq_zero_iff,aeK]at ax |-;intro i hi;rw[adm]at hi;refine ax i (adm.2 ⟨by omega,gi.comes af bE MQ ?_⟩);have e:me ds' dc=me (eR ds u y) dc:=by funext i;rw[<-Tq,ao,Tq]
  rw[<-e];exact hi.2
 ·rw[List.length_eq_zero_iff,aeK]at e6 |-;intro i hi;rw[<-Tr,ao,Tr]at hi;unfold p' at hi e6;rw[n4,j9,sb]at hi;exact e6 i (n4.2 ⟨j9.2 hi.1,gi.asK af bE MQ hi.2⟩)
end
def lN(g:cU)(u:Nat)(p:List Int)(x:aP):aP:=((bI (g.ds.getD u kH).t).put p x).lL
structure N6(g:cU)(S x:aP):Prop where
 ok:eZ x
 nm:ij (Bi g.ds) S->ij (Bi g.ds) x
 le:∀ F:List aW,mh (x.fold (h4 (bM g.ds) F)) (S.fold (h4 (bM g.ds) F))
section
variable{az:List Int}{g:cU}{F:List aW}(hw:J1 az g F)
include hw
theorem ae7(hu:u<g.ds.length){x:aP}(ab:eZ x):eZ (lN g u p x)/\jd (lN g u p x)/\q0 (lN g u p x):=by
 have nZ:g.ds.getD u kH=g.ds[u]:=by simp[bS,hu]
 unfold lN;rw[nZ];exact⟨Dt (UB ab p (N4 (pq hw.m (bJ hu)))),JW _,arL _⟩
theorem asL{x:aP}(hu:u<g.ds.length)(cc:(bI g.ds[u].t).go p=some S)(ab:N6 g S x)(dz:k' bn (lN g u p x))(hk:bn.ns.length=bn.n)(q1:h.n=g.n)(awZ:h.ds.length=h.n)(ao:h.ds.map a3.a4=(eR g.ds u bn).map a3.a4) :
  (c6 az h=0\/c6 az h=40)/\xq az g u (lN g u p x)=decide (c6 az h=0)/\∀ r,pg az h r->(r.2=0 ↔ c6 az h=0):=by
 obtain⟨bg,ag,EL⟩:=ae7 hw (p:=p) hu ab.ok;have nZ:g.ds.getD u kH=g.ds[u]:=by simp[bS,hu]
 have lK:=dz.right bg;have ir:=dz.bI bg ag;have UE:=pq hw.m (bJ hu);have asM:∀ d∈g.ds,right d.t=true:=λd ah=>pq hw.m ah;have eK:normal bn=true:=Uk.2 ⟨lK,by rw[ir];exact EL⟩;have mu:∀ d∈bn.ns,Bi g.ds d:=by
  have fa:=(JE.1 hw.m).2.2.2.2;have a7:ij (Bi g.ds) (bI g.ds[u].t):=(aeD UE).2 λd ah=>fa _ (bJ hu) d ah;have:ij (Bi g.ds) (bI bn):=by rw[ir];unfold lN;rw[nZ];exact Ul (λd ah=>ah) (λh=>by cases h) (λh=>by cases h) (aeE (ab.nm (ae3 p a7 cc)) p a7)
  exact(aeD lK).1 this
 have Dz:=arP hw.n hw.m hu eK mu q1 ao;have aV:xr g.ds u bn:=by refine⟨hu,lK,λdc=>?_⟩;rw[nZ,N5 lK,ir];unfold lN;rw[nZ,Ug (TQ _ _) (UB ab.ok p (N4 UE)),N5 UE];exact ae5 (ab.le dc) p _ cc
 refine⟨Dz,asH hw.n dz hk q1 ao,λr af=>?_⟩;constructor
 ·intro ay;rcases af with⟨a,e⟩ | ⟨a,-⟩
  ·rw[e]at ay;exact ay
  ·exact a
 ·intro hm;rw[af.get hm];rcases af with⟨a,-⟩ | ⟨-,dc,mR,-⟩
  ·exact absurd hm a
  ·rw[Ti mR];exact aV.J2 asM hw.Jp hw.left hw.loops ao mR
end
def asN(_:al)(xs:List Nat):Nat:=xs.sum+1
def dM(T:aP):Nat:=T.fold asN
def lO(d:al)(ks:List aP):dM (.mk d ks)=(ks.map dM).sum+1:=by unfold dM;rw[aP.fold_eq];rfl
def Bp(T:aP):0<dM T:=by
 cases T with
 |mk d ks=>rw[lO];omega
def Bq:∀ T:aP,T.post.length=dM T:=by
 intro T
 induction T using aP.ind with
 |h d ks aQ=>rw[aP.kz,apU,lO,gu];congr 2;exact fV λc ao=>aQ c ao
def asO(ns:List al):∀ T:aT,dM (T.bare ns)=T.c2.length:=by
 intro T
 induction T using aT.ind with
 |h k ks aQ=>rw[aT.nt,lO,aT.mL,cr,yi,gu,od];congr 2;exact fV λc ao=>aQ c ao
def ae8{α:Type}(f:α->Nat)(p:α->Bool):∀ l:List α,((l.filter p).map f).sum<=(l.map f).sum
 |[]=>b' _
 |a::l=>by
  have:=ae8 f p l;rw[xT];split<;>simp only[b5,hj]<;>omega
def asP(d:al)(xs:List aP):dM (nY d xs)<=(xs.map dM).sum+1:=by
 rw[JS];split
 ·have h:=ae8 dM (kl d) xs;generalize xs.filter (kl d)=bo at h
  match bo,h with
  |[],_=>rw[lO];simp| [y],h=>simp only[b5,hy,hj,zW]at h;show dM y<=_;omega| JU::JV::l,h=>rw[lO];omega
 ·rw[lO];exact b' _
def asQ:∀ T:aP,dM (T.fold nY)<=dM T:=by
 intro T
 induction T using aP.ind with
 |h d ks aQ=>rw[aP.fold_eq,lO];refine jg (asP d _) ?_;rw[gu];have:=Nu (l:=ks) (f:=dM ∘ aP.fold nY) (g:=dM) λc ao=>aQ c ao;omega
def UF(f:aP->List aP):∀ l:List aP,((l.flatMap f).map dM).sum=(l.map λc=>((f c).map dM).sum).sum
 |[]=>rfl| a::l=>by rw[iS,cM,oT,UF f l];rfl
def asR:∀ T:aP,dM T.bu<=dM T/\∀ cd,((T.fZ cd).map dM).sum<=dM T:=by
 intro T
 induction T using aP.ind with
 |h d ks aQ=>
  have pk:dM (aP.mk d ks).bu<=dM (.mk d ks):=by show dM (.mk d (ks.flatMap (aP.fZ (iJ d))))<=_;rw[lO,lO,UF];have:=Nu (l:=ks) (f:=λc=>((c.fZ (iJ d)).map dM).sum) (g:=dM) λc ao=>(aQ c ao).2 _;omega
  refine⟨pk,λcd=>?_⟩;rw[aP.qY];split;·rw[UF,lO];have:=Nu (l:=ks) (f:=λc=>((c.fZ cd).map dM).sum) (g:=dM) λc ao=>(aQ c ao).2 _;omega
  ·simpa using pk
def UG(T:aP):dM T.lL<=dM T:=jg (asR _).1 (asQ T)
def ae9:∀ (l:List Nat) (i x:Nat) (h:i<l.length),(l.set i x).sum+l[i]=l.sum+x
 |[],i,x,h=>by simp at h
 |a::l,0,x,h=>by simp;omega
 |a::l,i+1,x,h=>by have:=ae9 l i x (by simpa using h);simp only[List.set_cons_succ,hj,GZ];omega
def J4{X S:aP}:∀ (p:List Int) (T:aP),T.go p=some S->dM (T.put p X)+dM S=dM T+dM X
 |[],T,h=>by rw[aP.go]at h;cases h;rw[aP.put];omega
 |i::p,.mk d ks,h=>by
  rw[aP.go]at h;split at h
  ·rename_i hi;have hi:0<=i/\i<(ks.length:Int):=hi;obtain⟨q,rfl⟩:=eG hi.1;have aL:q<ks.length:=by omega
   have a6:ks.getD q (.mk d ks)=ks[q]:=by simp[bS,aL]
   have aQ:=J4 (X:=X) p _ h;rw[aP.put];show dM (aP.mk d (ks.set q ((ks.getD q (.mk d ks)).put p X)))+_=_;have aQ:dM ((ks.getD q (.mk d ks)).put p X)+dM S=dM (ks.getD q (.mk d ks))+dM X:=aQ;rw[a6]at aQ |-;rw[lO,lO,rn];have ak:=ae9 (ks.map dM) q (dM (ks[q].put p X)) (by rw[bx];exact aL);rw[fW]at ak;omega
  ·cases h
def DA(h:right t=true):dM (bI t)<=t.ns.length:=by obtain⟨T,aa,ad,ak,aK,bz⟩:=(jv.1 h).Gd;rw[ak,asO];exact bz
def bj.minus(x y:bj):bj:=⟨x.a &&& ~~~y.a,x.b &&& ~~~y.b,x.c &&& ~~~y.c,x.d &&& ~~~y.d⟩
def J5(w:bj):al:=⟨1,w.a.toNat,w.b.toNat,w.c.toNat,w.d.toNat,⟨#[]⟩,0,0,none,0,0,[]⟩
def ht(w:bj):aP:=.mk (J5 w) []
def se(T:aP):Option bj:=if T.d.k=1 then some T.d.ws else none
def vS(T:aP):Option bj:=if T.d.k=1 then some T.d.ws else if T.d.k=2/\T.d.t.size=1 then some (o5 T.d.t.data.toList)else none
def xt(k:Int)(T:aP):Option bj:=if T.d.k=k then(match T.sub with
 |c::_=>se c| []=>none)else none
def sf(f:bj->bj->bj):Option bj->Option bj->Option bj
 |some x,some y=>some (f x y)| _,_=>none
def s7(w:Int)(A B:aP):Option bj:=
 if w=1 then sf bj.or (vS A) (vS B)
 else if w=2 then sf (λx y=>y.minus x) (xt 8 A) (se B)
 else if w=3 then sf bj.and (xt 7 A) (se B)
 else none
def g7(w:Int):Int:=if w=1 then 5 else 4
def lP(k:Int)(l:List aP):aP:=match l with
 |[]=>.mk (nothing (k-4)) []| [x]=>x.lL| x::y::l=>(aP.mk (nothing k) (x::y::l)).lL
def pt(w bF:Int)(S:aP):Option aP:=if S.d.k=g7 w/\0<=bF/\bF+1<S.sub.length then(s7 w (S.sub.getD bF.toNat S) (S.sub.getD (bF.toNat+1) S)).map λs=>lP (g7 w) (S.sub.take bF.toNat++ht s::S.sub.drop (bF.toNat+2))else none
def ur(g:cU)(u:Nat)(p:List Int)(w bF:Int):Option aP:=((bI (g.ds.getD u kH).t).go p).bind λS=>(pt w bF S).map λx=>lN g u p x
def iK(az:List Int)(g:cU)(u:Nat)(p:List Int)(w bF:Int):Bool:=match ur g u p w bF with
 |some X=>xq az g u X| none=>false
def asS(w:Int):g7 w=4\/g7 w=5:=by
 unfold g7;split<;>simp
def N7(h:k=4\/k=5)(aD:2<=n):Go.V.fits (nothing k) n=true:=by
 have ad:¬ ((n:Int)<2):=by omega
 rcases h with rfl | rfl
 ·simp[Go.V.fits,nothing,oR,nH,jG,al.kT];omega
 ·simp[Go.V.fits,nothing,oR,nH,jG,al.kT];omega
def J6(w:bj):eZ (ht w):=.mk (by
 simp[Go.V.fits,J5,oR,nH,jG]) λc ao=>by cases ao
def asT(ae:k=4\/k=5)(ax:∀ c∈l,eZ c):eZ (lP k l):=by
 cases l with
 |nil=>exact aeq (d:=nothing k) ae
 |cons x l=>
  cases l with
  |nil=>exact Dt (ax x (.head _))| cons y l=>exact Dt (.mk (N7 ae (by simp)) ax)
def asU{P:al->Prop}(ag:∀ d,P d->P d.bare)(ay:∀ k,k≠3->P (nothing k))(ae:k=4\/k=5)(ax:∀ c∈l,ij P c):ij P (lP k l):=by
 have aa:=ag _ (ay 0 (by decide));have ad:=ag _ (ay 1 (by decide));cases l with
 |nil=>exact .mk (ay _ (by omega)) λc ao=>by cases ao
 |cons x l=>
  cases l with
  |nil=>exact Ul ag aa ad (ax x (.head _))| cons y l=>exact Ul ag aa ad (.mk (ay _ (by omega)) ax)
def asV(k:Int)(l:List aP):dM (lP k l)<=(l.map dM).sum+1:=by
 cases l with
 |nil=>exact Nat.le_of_eq (lO _ _)
 |cons x l=>
  cases l with
  |nil=>exact Nat.le_succ_of_le (jg (UG x) (by simp))| cons y l=>exact jg (UG _) (Nat.le_of_eq (lO _ _))
section
variable{α:Type}{F:al->List α->α}(bE:TO F)
include bE
theorem asW{d d':al}(h:d.k=4\/d.k=5)(bq:d'.k=d.k)(xs:List α):F d xs=F d' xs:=by have aa:=bE.nest d d' [] xs [] h bq;simp only[hX,dF]at aa;rw[<-aa,bE.one d _ h]
theorem asX(ae:k=4\/k=5)(ax:∀ c∈l,eZ c)(bt:l≠[]):(lP k l).fold F=F (nothing k) (l.map (aP.fold F)):=by
 cases l with
 |nil=>exact absurd rfl bt
 |cons x l=>
  cases l with
  |nil=>show x.lL.fold F=F (nothing k) [x.fold F];rw[Ug bE (ax x (.head _)),bE.one (nothing k) _ ae]| cons y l=>show(aP.mk (nothing k) (x::y::l)).lL.fold F=_;rw[Ug bE (.mk (N7 ae (by simp)) ax),aP.fold_eq]
theorem asY{d:al}(h:d.k=4\/d.k=5)(a9:List α)(a b:α)(post:List α):F d (a9++a::b::post)=F (nothing d.k) (a9++F (nothing d.k) [a,b]::post):=by rw[asW bE h (d':=nothing d.k) rfl];exact(bE.nest (nothing d.k) (nothing d.k) a9 [a,b] post h rfl).symm
end
def N8{α:Type}(l:List α)(i:Nat)(h:i+1<l.length):l=l.take i++l[i]'(by omega)::l[i+1]::l.drop (i+2):=by have aa:l.drop i=l[i]'(by omega)::l.drop (i+1):=fg (by omega);have ad:l.drop (i+1)=l[i+1]::l.drop (i+2):=fg h;rw[<-ad,<-aa,pM]
def afa{bF:Int}{x:aP}(h:pt w bF S=some x):∃ (i:Nat) (s:bj),bF=(i:Int)/\S.d.k=g7 w/\∃ hi:i+1<S.sub.length,s7 w (S.sub[i]'(by omega)) (S.sub[i+1])=some s/\x=lP (g7 w) (S.sub.take i++ht s::S.sub.drop (i+2)):=by
 unfold pt at h;split at h
 ·rename_i ao;obtain⟨i,rfl⟩:=eG ao.2.1;have hi:i+1<S.sub.length:=by omega
  have aI:S.sub.getD ((i:Nat):Int).toNat S=S.sub[i]'(by omega):=by
   show S.sub.getD i S=_;have:i<S.sub.length:=by omega
   simp[bS,this]
  have a6:S.sub.getD (((i:Nat):Int).toNat+1) S=S.sub[i+1]:=by show S.sub.getD (i+1) S=_;simp[bS,hi]
  rw[aI,a6]at h;cases aq:s7 w (S.sub[i]'(by omega)) (S.sub[i+1])with
  |none=>rw[aq]at h;cases h| some s=>rw[aq]at h;exact⟨i,s,rfl,ao.1,hi,aq,(eX h).symm⟩
 ·cases h
def eZ.Bb(h:eZ S):∀ c∈S.sub,eZ c:=by
 cases S with
 |mk d ks=>exact h.inv.2
def aP.eta(S:aP):S=.mk S.d S.sub:=by cases S;rfl
def asZ(cc:eZ S){i:Nat}{s:bj}:∀ c∈S.sub.take i++ht s::S.sub.drop (i+2),eZ c:=by
 intro c ao;rcases cv.1 ao with ao | ao
 ·exact cc.Bb c (sA ao)
 ·rcases eI.1 ao with rfl | ao
  ·exact J6 s
  ·exact cc.Bb c (AV ao)
def as0{d:al}(h:d.kT=true):d.ws=bj.zero:=by unfold al.kT at h;simp only[cB,beq_iff_eq]at h;obtain⟨ay,aa,ad,ak⟩:=h;unfold al.ws;rw[ay,aa,ad,ak];rfl
def as1(w:bj):(J5 w).kT=decide (w=bj.zero):=by
 have bb:∀ x:BitVec 64,((x.toNat:Int) == 0)=decide (x=0):=λx=>by have:=EW (x:=x) (y:=0);simpa using this
 unfold al.kT J5;simp only[bb];rw[<-JL,<-JL,<-JL];refine decide_eq_decide.2 ⟨λh=>?_,λh=>?_⟩
 ·exact bj.ext' h.1 h.2.1 h.2.2.1 h.2.2.2
 ·subst h;exact⟨rfl,rfl,rfl,rfl⟩
def bj.as2(y:bj):bj.zero.minus y=bj.zero:=by unfold bj.minus bj.zero;simp
def bj.and_zero(x:bj):x.and bj.zero=bj.zero:=by unfold bj.and bj.zero;simp
def bj.zero_and(x:bj):bj.zero.and x=bj.zero:=by unfold bj.and bj.zero;simp
section
variable{pl:List (ByteArray×Int)}{F:List aW}
def uu(pl:List (ByteArray×Int))(F:List aW)(T:aP):aW:=(T.fold (h4 pl F)).1.1
def N9(d:al)(ks:List aP)(ak:d.k≠3):uu pl F (.mk d ks)=gz d (ks.map (uu pl F)):=by unfold uu;rw[aP.fold_eq];show gz d _=_;rw[eY ak];simp[gu];rfl
def as3{d:al}(h:d.k=1)(ks:List aP):uu pl F (.mk d ks)=⟨false,!d.kT,true⟩:=by rw[N9 d ks (by omega)];simp[gz,h]
def J7{x:bj}(h:se T=some x):∃ b,uu pl F T=⟨false,b,true⟩/\(x≠bj.zero->b=true):=by
 cases T with
 |mk d ks=>
 unfold se at h;split at h
 ·rename_i aa;have aa:d.k=1:=aa;refine⟨_,as3 aa ks,λab=>?_⟩;cases bb:d.kT with
  |false=>rfl| true=>have:=as0 bb;exact absurd (by rw[<-this];exact(eX h).symm) ab
 ·cases h
def afb{x:bj}(h:vS T=some x):∃ b,uu pl F T=⟨false,b,true⟩/\(x≠bj.zero->b=true):=by
 by_cases aa:T.d.k=1
 ·refine J7 (x:=x) ?_;unfold vS at h;rw[bT aa]at h;unfold se;rw[bT aa,h]
 ·cases T with
  |mk d ks=>
  unfold vS at h;rw[bN aa]at h;have aa:¬ d.k=1:=aa;split at h;·rename_i ad;have ad:d.k=2:=ad.1;refine⟨true,?_,λ_=>rfl⟩;rw[N9 d ks (by omega)];simp[gz,ad]
  ·cases h
def afc{x:bj}(h:xt k T=some x):∃ d c cs,T=.mk d (c::cs)/\d.k=k/\se c=some x:=by
 cases T with
 |mk d ks=>
 unfold xt at h;split at h
 ·rename_i aa;cases ks with
  |nil=>cases h| cons c cs=>exact⟨d,c,cs,rfl,aa,h⟩
 ·cases h
def as4{A B:aP}{s:bj}(h:s7 w A B=some s):mh ((ht s).fold (h4 pl F)) (h4 pl F (nothing (g7 w)) [A.fold (h4 pl F),B.fold (h4 pl F)]):=by
 have aI:(ht s).fold (h4 pl F)=((⟨false,!(J5 s).kT,true⟩,[]),false):=by unfold ht;rw[aP.fold_eq];rfl
 rw[aI,as1];have iP:∀ {f:bj->bj->bj} {a b:Option bj},sf f a b=some s->∃ x y,a=some x/\b=some y/\s=f x y:=by
  intro f a b ag;cases a with
  |none=>cases ag
  |some x=>
   cases b with
   |none=>cases ag| some y=>exact⟨x,y,rfl,rfl,(eX ag).symm⟩
 suffices l8:aW.le ⟨false,!decide (s=bj.zero),true⟩ (h4 pl F (nothing (g7 w)) [A.fold (h4 pl F),B.fold (h4 pl F)]).1.1 from⟨l8,λk ae=>(by cases ae),λh=>by cases h⟩
 unfold s7 at h;by_cases aa:w=1
 ·rw[bT aa]at h;obtain⟨x,y,ab,aC,rfl⟩:=iP h;obtain⟨a,a7,sS⟩:=afb (pl:=pl) (F:=F) ab;obtain⟨b,ag,hd⟩:=afb (pl:=pl) (F:=F) aC;have l5:g7 w=5:=bT aa;rw[l5,F2 rfl];show aW.le _ (pX [uu pl F A,uu pl F B]);rw[a7,ag];refine⟨λh=>(by cases h),λav=>?_,λ_=>rfl⟩;have av:x.or y≠bj.zero:=by simpa using av
  by_cases fM:x=bj.zero
  ·have:y≠bj.zero:=λe=>av (by rw[fM,e];exact bj.zero_or _);rw[hd this];cases a<;>rfl
  ·rw[sS fM];rfl
 rw[bN aa]at h;have dS:g7 w=4:=bN aa;rw[dS,A9 rfl];show aW.le _ (hD [uu pl F A,uu pl F B]);by_cases ad:w=2
 ·rw[bT ad]at h;obtain⟨x,y,ab,aC,rfl⟩:=iP h;obtain⟨d,c,cs,rfl,ah,ao⟩:=afc ab;obtain⟨a,a7,sS⟩:=J7 (pl:=pl) (F:=F) ao;obtain⟨b,ag,hd⟩:=J7 (pl:=pl) (F:=F) aC;have nn:uu pl F (.mk d (c::cs))=⟨true,false,a⟩:=by rw[N9 _ _ (by omega),b5,a7];simp[gz,ah,aW.j2]
  rw[nn,ag];refine⟨λh=>(by cases h),λav=>?_,λ_=>?_⟩
  ·have av:y.minus x≠bj.zero:=by simpa using av
   have:y≠bj.zero:=λe=>av (by rw[e];exact bj.as2 _);rw[hd this];cases a<;>rfl
  ·cases a<;>cases b<;>rfl
 rw[bN ad]at h;by_cases ak:w=3
 ·rw[bT ak]at h;obtain⟨x,y,ab,aC,rfl⟩:=iP h;obtain⟨d,c,cs,rfl,ah,ao⟩:=afc ab;obtain⟨a,a7,sS⟩:=J7 (pl:=pl) (F:=F) ao;obtain⟨b,ag,hd⟩:=J7 (pl:=pl) (F:=F) aC;have nn:uu pl F (.mk d (c::cs))=⟨a,false,true⟩:=by rw[N9 _ _ (by omega),b5,a7];simp[gz,ah,aW.j2]
  rw[nn,ag];refine⟨λh=>(by cases h),λav=>?_,λ_=>?_⟩
  ·have av:x.and y≠bj.zero:=by simpa using av
   have aK:y≠bj.zero:=λe=>av (by rw[e];exact bj.and_zero _);have bz:x≠bj.zero:=λe=>av (by rw[e];exact bj.zero_and _);rw[hd aK,sS bz];rfl
  ·cases a<;>cases b<;>rfl
 ·rw[bN ak]at h;cases h
end
def UH{bF:Int}{x:aP}(cc:eZ S)(h:pt w bF S=some x):N6 g S x:=by
 obtain⟨i,s,rfl,ae,hi,aq,rfl⟩:=afa h;have hR:=asS w;have e0:S.d.k=4\/S.d.k=5:=by rw[ae];exact hR
 have rF:=asZ cc (i:=i) (s:=s);refine⟨asT hR rF,λa7=>?_,λF=>?_⟩
 ·have av:∀ c∈S.sub,ij (Bi g.ds) c:=by rw[S.eta]at a7;exact a7.inv.2
  refine asU (λd ah=>ah) (λk ae ak=>absurd ak ae) hR λc ao=>?_;rcases cv.1 ao with ao | ao;·exact av c (sA ao)
  ·rcases eI.1 ao with rfl | ao
   ·exact .mk (λak=>absurd (show(1:Int)=3 from ak) (by decide)) λc ao=>by cases ao
   ·exact av c (AV ao)
 ·rw[asX (TQ _ _) hR rF (by simp)]
  conv=>rhs;rw[S.eta,aP.fold_eq,N8 S.sub i hi]
  rw[cM,cM,b5,b5,b5,asY (TQ _ _) e0,ae];refine UD (dT.refl _) _ (by simp) λj aa ad=>?_;rw[List.getElem_append,List.getElem_append];split;·exact mh.rfl' _
  ·rw[O4,O4];split
   ·exact as4 aq
   ·exact mh.rfl' _
def as5(l:List aP)(i:Nat)(h:i+1<l.length):((l.take i).map dM).sum+(dM (l[i]'(by omega))+(dM l[i+1]+((l.drop (i+2)).map dM).sum))=(l.map dM).sum:=by
 conv=>rhs;rw[N8 l i h]
 rw[cM,oT,b5,b5,hj,hj]
def UI{bF:Int}{x:aP}(h:pt w bF S=some x):dM x<dM S:=by
 obtain⟨i,s,rfl,ae,hi,aq,rfl⟩:=afa h;have aa:=asV (g7 w) (S.sub.take i++ht s::S.sub.drop (i+2));have ad:=as5 S.sub i hi;have ak:=Bp (S.sub[i]'(by omega));have aK:=Bp S.sub[i+1];have bz:dM S=(S.sub.map dM).sum+1:=by
  conv=>lhs;rw[S.eta]
  exact lO _ _
 have cu:dM (ht s)=1:=lO _ _;rw[cM,b5,oT,hj]at aa;omega
section
variable{P:Program}{w:World}
def as6(t u ty e:Nat)(i:TypeInfo)(z:Value)(aq:P.underlying t=some (.slice e)){my:TypeDesc}(hu:P.underlying u=some my)(n5:∀ k,my≠.int k)(hi:P.info? e=some i)(bb:i.zero=some z)(qx:z.cells.size=i.size)
 (kg:xs.length=n*i.size) (HY:∀ w':World,w'.heap=w.heap->∀ j v,xs[j]?=some v->w'.cell? (aM.add j)=some v)
  {x:Value} (hm:0<m) (ax:cb.length=m*i.size)
  (cS:∀ w',(Builtin.lenOf x).run P w'=.ok m w') (e8:∀ w':World,w'.heap=w.heap->(Builtin.firstCells i.size m x).run P w'=.ok cb.toArray w')
  (b1:n+m<=maxLen) (b8:(n+m)*i.bytes<=140737488355328) :
  ∃ (c:Nat) (aS:List Value),(Builtin.append_ #[t,u] ty #[.slice (some aM) n n,x]).run P w=.ok (.slice (some ⟨w.heap.size,0,none⟩) (n+m) c) (w.drew.alloc (.cells aS.toArray e (0,0)))/\aS.length=c*i.size/\n+m<=c/\c<=maxLen/\aS.take ((n+m)*i.size)=xs++cb:=by
 have Ec:(xs++cb).length=(n+m)*i.size:=by rw[cr,kg,ax,lX]
 have K5:∀ dO,(xs++cb++(Builtin.zeroCells z.cells (grownCap w (n+m) dO e-(n+m))).toList).length=grownCap w (n+m) dO e*i.size/\n+m<=grownCap w (n+m) dO e/\grownCap w (n+m) dO e<=maxLen /\
   (xs++cb++(Builtin.zeroCells z.cells (grownCap w (n+m) dO e-(n+m))).toList).take ((n+m)*i.size)=xs++cb:=by
  intro dO;have c0:=grownCap_ge w (n+m) dO e;have l1:grownCap w (n+m) dO e<=maxLen:=grownCap_le_maxLen w (n+m) dO e b1;refine⟨?_,c0,l1,?_⟩;·rw[cr,Ec,xS,size_zeroCells,qx,<-lX];congr 1;omega
  ·rw[<-Ec];exact we
 have jF:n+m<=9223372036854775807:=by simp only[maxLen]at b1;exact b1
 have aD:m≠0:=by omega
 have uT:¬ (n+m<=n):=by omega
 have B7:¬ (9223372036854775807<((n:Int)+(m:Int))):=by omega
 have B8:¬ (281474976710656<Builtin.nextslicecap (n+m) n*i.bytes):=by have:=growslice_fits (by omega:n<n+m) b8;omega
 have aB:=e8 w.drew rfl;have Po:=run_firstCells_some (P:=P) w.drew i.size n aM n n xs kg (HY w.drew rfl);obtain⟨bc,bi,ca,gf⟩:=K5 n;refine⟨grownCap w (n+m) n e,_,?_,bc,bi,ca,gf⟩;simp[Builtin.append_,run_underlying aq,run_underlying hu,sizeOf,typeInfo,zeroValue,hi,bb,cS,aD,uT,B7,B8,Question.forced,aB,Po,newRow,grownCap];congr 2;apply gX;simp
end
section
variable{X:c3}{β:Nat->Nat}{a:Act}{w:World}{F:Fr}{C:dN}{I:aH}{M:List aE}{o:Oper}{K:gl}
def as7{P:Program}(aD:cR I M aM (m*size) cb){w:World}(hw:eM I M w):(Builtin.firstCells size m (.slice (some aM) m c')).run P w=.ok cb.toArray w:=by
 obtain⟨c9,cs,T,an,fj,aj,ax⟩:=aD;refine run_firstCells_some (P:=P) w size m aM m c' cb ax λj v ai=>?_;rw[eS _ c9,tl (fj.heap hw)];rw[<-aj,lb]at ai;split at ai
 ·rw[mO]at ai;simpa using ai
 ·cases ai
def afd(h:cR I M aM n xs):xs.length=n:=by obtain⟨_,_,_,_,_,_,h⟩:=h;exact h
def jC.as8{K:dH->aH->List aE->Prop}(aN:cW X.P X.E){t:Nat}(aA:o.op=.call { callee:=.builtin .append,args:=#[s,x],argTypes:=#[t,t] })
 (aq:X.E t=some db) (dk:db.bP=.slice e) (he:X.E e=some aF)
  {sa:Addr} (av:bH F s=.val (.slice (some sa) n n)) (bp:cR I M sa (n*aF.size) xs)
 (ab:bH F x=.val (.slice (some aM) m c')) (hm:0<m) (aD:cR I M aM (m*aF.size) cb) (b1:n+m<=maxLen) (b8:(n+m)*aF.bytes<=140737488355328)
  (M':aR->List aE) (yO:∀ br:aR,(br.ar e++M).Perm (M' br))
  (k:∀ br:aR,br.n=n+m->(∀ g,br.a=some g->I g=none/\g ∉ X.foot)->br.ok aF.size (xs++cb)->K (.val br.val) I (M' br)):jC X o F C I M K:=by
 refine⟨fun β a w Q aV=>?_⟩;have kg:=afd bp;have y9:=afd aD;have e8:∀ w,eM I M w->(Builtin.firstCells aF.size m (.slice (some aM) m c')).run X.P w=.ok cb.toArray w:=λw hw=>as7 aD hw;obtain⟨inf,z,hi,ft,hW,im,kb⟩:=(aN _ _ he).inf;obtain⟨g3,iU,kS⟩:=(aN _ _ aq).fs;have oO:g3=.slice e:=by rw[dk]at kS;cases g3<;>simp_all[fr]
 subst oO;have qx:z.cells.size=inf.size:=by rw[ft,<-(aN _ _ he).len,<-kb];simp
 rw[<-ft]at kg y9 e8;obtain⟨c,aS,fb,bc,bi,ca,gf⟩:=as6 (P:=X.P) (w:=w) t t o.type e inf z iU iU (λk cZ=>by cases cZ) hi im qx kg (λw' x5 j v ai=>bp.ME (aV.holds.heap x5) j v ai) (x:=.slice (some aM) m c') hm y9 (λ_=>rfl) (λw' x5=>e8 w' (aV.holds.heap x5)) b1 (by rw[hW];exact b8);rw[ft]at bc gf kg y9;have zN:I w.heap.size=none:=by
  cases bA:I w.heap.size with
  |none=>rfl| some nF=>have:=aV.holds.i _ _ bA;simp at this
 have es:=dj aV.an av;have ex:=dj aV.an ab;have kG:(⟨some w.heap.size,n+m,c,aS⟩:aR).ok aF.size (xs++cb):=by
  refine⟨?_,(λh=>by cases h),λeg aw=>?_⟩;·rw[cr,kg,y9,<-lX]
  ·cases aw;exact⟨bc,bi,ca,gf⟩
 refine iN (by rw[aA];simp) (v:=.slice (some ⟨w.heap.size,0,none⟩) (n+m) c) (w':=w.drew.alloc (.cells aS.toArray e (0,0))) ?_ ⟨_,.val (.slice (some ⟨w.heap.size,0,none⟩) (n+m) c),I,M' ⟨some w.heap.size,n+m,c,aS⟩,rfl,rfl,?_,k ⟨some w.heap.size,n+m,c,aS⟩ rfl (λeg aw=>by cases aw;exact⟨zN,λhm=>by have aa:=aV.fx _ hm;have ad:=aV.sz;omega⟩) kG,rfl⟩
 ·unfold execOp;simp only[aA,resolve,invoke,builtin,cp,da,bZ,rm,b5,hy,es,ex,fb]
 ·refine cN.h7 ?_ (.perm (yO _) .refl);have ad:cN X β a w.drew F C I M:=aV.world rfl;exact ad.n2 (.cells aS.toArray e (0,0))
end
section
end
section
end
section
end
section
end
section
end
def DB(I:aH):List aE->aH
 |[]=>I| x::L=>DB (ins I x.num x.obj) L
def afe{foot:List Nat}{M:List aE}:∀ {I:aH} (L:List aE),(∀ x∈L,x.num ∉ foot)->hc foot I (L++M) (DB I L) M
 |I,[],_=>.refl| I,x::L,h=>.mP rfl (h x (.head _)) (afe L λq aL=>h q (.tail _ aL))
def UJ:∀ {I:aH} (L:List aE),(∀ x∈L,I x.num=none)->(L.map (λx:aE=>x.num)).Nodup->(∀ b o,I b=some o->DB I L b=some o)/\∀ x∈L,DB I L x.num=some x.obj
 |I,[],_,_=>⟨λ_ _ h=>h,λx ab=>by cases ab⟩
 |I,p::L,h,aD=>by
  rw[b5,lf]at aD;have bA:∀ q∈L,(ins I p.num p.obj) q.num=none:=λq aL=>by unfold ins;rw[hI λe=>aD.1 (cP.2 ⟨q,aL,e⟩)];exact h q (.tail _ aL)
  obtain⟨aa,ad⟩:=UJ L bA aD.2;refine⟨λb o ag=>aa b o (lz (h p (.head _)) b o ag),λq aL=>?_⟩;rcases eI.1 aL with rfl | aL;·exact aa _ _ (n8 ..)
  ·exact ad q aL
section
end
section
end
section
section
end
section
end
end
def UK(be:e2 I az)(aq:t.ok I)(af:right t=true)(aD:t.n<=1099511627776){r:Nat}(en:t.bC=(r:Int)) :
  Spec Tryz.prog 53 [t.val] I M0 λv J M'=>(∀ b o,I b=some o->J b=some o)/\M'=M0/\∃ (a:Option Addr) (n c:Nat) (L:List bk),v=.slice a n c/\cI J a n c 2 0 (L.flatMap bk.cells)/\L.length=(nodeAt t.ns r).au.length/\∀ q (h:q<L.length),(L[q]).ok J/\qL t ((nodeAt t.ns r).au.getD q 0) L[q]:=by
 refine Spec.mH (Spec.frame (Spec.jz (apK (M0:=[]) be aq af aD en))) ?_;rintro v J M⟨M',rfl,-,a5,rfl,-,I',M1,⟨bA,os,L,bg,rfl,rfl,ax,eO⟩,bE⟩;exact⟨a5,rfl,os.a.map λg=>⟨g,0,none⟩,os.n,os.c,L,rfl,aR.asp bE bg (λ_ h=>iR _ h) (by omega),ax,λq h=>⟨(eO q h).1.mono bE.le,(eO q h).2⟩⟩
def qf(x y:Int):Int:=IntKind.u64.wrap ((BitVec.ofInt 64 x &&& ~~~(BitVec.ofInt 64 y)).toNat:Int)
def N'(x y:BitVec 64):qf x.toNat y.toNat=((x &&& ~~~y).toNat:Int):=by unfold qf;rw[CJ,CJ,QZ]
def as9(x y:bj):Nat->List Value
 |0=>[.int .u64 x.a.toNat,.int .u64 x.b.toNat,.int .u64 x.c.toNat,.int .u64 x.d.toNat]| 1=>[.int .u64 (qf x.a.toNat y.a.toNat),.int .u64 x.b.toNat,.int .u64 x.c.toNat,.int .u64 x.d.toNat]| 2=>[.int .u64 (qf x.a.toNat y.a.toNat),.int .u64 (qf x.b.toNat y.b.toNat),.int .u64 x.c.toNat,.int .u64 x.d.toNat]| 3=>[.int .u64 (qf x.a.toNat y.a.toNat),.int .u64 (qf x.b.toNat y.b.toNat),.int .u64 (qf x.c.toNat y.c.toNat),.int .u64 x.d.toNat]| _=>[.int .u64 (qf x.a.toNat y.a.toNat),.int .u64 (qf x.b.toNat y.b.toNat),.int .u64 (qf x.c.toNat y.c.toNat),.int .u64 (qf x.d.toNat y.d.toNat)]
def ata(x y:bj):Spec Tryz.prog 154 [x.val,y.val] I M λr I' M'=>r=(x.minus y).val/\I'=I/\M'=M:=by
 refine bV [] aY Tryz.func154 rfl rfl rfl ?_;intro B ay;refine dt.inv (ι:=Nat) (λi=>{ bo:=[(2,.ref 2 0),(4,.ref 4 0),(7,.val y.val),(8,.val (.int .i64 i))],cl:=[(2,as9 x y i),(4,bj.zero.cells)],cH:=I,dd:=M }) (λi=>i<=4) (λi=>4-i) ?_ ?_
 ·exact⟨0,by simp,.refl,ee,.cons rfl (.cons rfl (.nil))⟩
 ·intro i hi
  match i,hi with
  |0,_=>refine aX.mk (λ_=>?_) (λh=>by simp at h);refine cw.mk 0 rfl (by decide) ?_;refine cw.mk 0 rfl (by decide) ?_;refine cw.mk 0 rfl (by decide) ?_;refine bd.mk 1 (by decide) ?_;exact⟨1,⟨by simp,by simp⟩,.refl,ee,.cons rfl (.cons rfl (.nil))⟩| 1,_=>refine aX.mk (λ_=>?_) (λh=>by simp at h);refine cw.mk 1 rfl (by decide) ?_;refine cw.mk 1 rfl (by decide) ?_;refine cw.mk 1 rfl (by decide) ?_;refine bd.mk 2 (by decide) ?_;exact⟨2,⟨by simp,by simp⟩,.refl,ee,.cons rfl (.cons rfl (.nil))⟩| 2,_=>refine aX.mk (λ_=>?_) (λh=>by simp at h);refine cw.mk 2 rfl (by decide) ?_;refine cw.mk 2 rfl (by decide) ?_;refine cw.mk 2 rfl (by decide) ?_;refine bd.mk 3 (by decide) ?_;exact⟨3,⟨by simp,by simp⟩,.refl,ee,.cons rfl (.cons rfl (.nil))⟩| 3,_=>refine aX.mk (λ_=>?_) (λh=>by simp at h);refine cw.mk 3 rfl (by decide) ?_;refine cw.mk 3 rfl (by decide) ?_;refine cw.mk 3 rfl (by decide) ?_;refine bd.mk 4 (by decide) ?_;exact⟨4,⟨by simp,by simp⟩,.refl,ee,.cons rfl (.cons rfl (.nil))⟩| 4,_=>refine aX.mk (λh=>by simp at h) (λ_=>?_);refine⟨_,_,.refl,?_,rfl,rfl⟩;show Value.agg #[.int .u64 (qf x.a.toNat y.a.toNat),.int .u64 (qf x.b.toNat y.b.toNat),.int .u64 (qf x.c.toNat y.c.toNat),.int .u64 (qf x.d.toNat y.d.toNat)]=_;rw[N',N',N',N'];rfl
def Gf(o:Option bj)(v:Value):Prop:=∃ (w:bj) (b:Bool),v=.tuple #[w.val,.bool b]/\o=(bif b then some w else none)/\(b=false->w=bj.zero)
def UL(o:Option bj)(v:Value):Prop:=∃ (w:bj) (b:Bool),v=.tuple #[w.val,.bool b]/\o=bif b then some w else none
def jA(t:bk)(f:aP->Option bj):Option bj:=bif right t then f (bI t)else none
def Gg(af:right t=true){r:Nat}(en:t.bC=(r:Int))(eH:r<t.ns.length):bI t=.mk t.ns[r].bare (t.ns[r].au.map (fq t.ns)):=by unfold bI;rw[en];exact ze af eH
def aff{d:al}(ay:fm d.cx)(aa:fm d.s1)(ad:fm d.s2)(ak:fm d.cY):d.ws.val=.agg #[.int .u64 d.cx,.int .u64 d.s1,.int .u64 d.s2,.int .u64 d.cY]:=by simp only[bj.val,al.ws,MA ay,MA aa,MA ad,MA ak]
def UM(be:e2 I az)(aq:t.ok I):Spec Tryz.prog 153 [t.val] I M0 λv I' M'=>I'=I/\M'=M0/\Gf (jA t se) v:=by
 refine bV [] aY Tryz.func153 rfl rfl rfl ?_;intro B ay;have hk:=aq.n;refine a8.mk [] M0 _ (.refl _) (n7 be.c aq) ?_;rintro v J N -⟨rfl,rfl,rfl⟩;cases af:right t with
 |false=>refine bX.mk (λh=>absurd h (by simp)) (λ_=>?_);exact⟨_,_,.refl,rfl,rfl,.zero,false,rfl,by simp[jA,af],λ_=>rfl⟩| true=>
 obtain⟨gV,hn⟩:=l4 af;obtain⟨r,en⟩:=eG gV;have eH:r<t.ns.length:=by omega
 obtain⟨aM,bB,bp⟩:=aq.a'.row al.cL (show r<t.n by omega) eH;have bg:=aq.ns _ (bJ eH);have ir:=Gg af en eH;have e:jA t se=if t.ns[r].k=1 then some t.ns[r].ws else none:=by unfold jA;rw[af,ir];rfl
 rw[e];generalize t.ns[r]=d at bp bg;refine bX.mk (λ_=>?_) (λh=>absurd h (by simp));refine bm.mk aM r bB en (by omega) ?_;refine aO.mk _ ((bp _).part (k:=0) (m:=1) (by decide)) ?_;refine aX.mk (λh=>?_) (λh=>?_)
 ·have aa:¬ d.k=1:=by have:(!decide (d.k=1))=true:=h;simpa using this
  exact⟨_,_,.refl,rfl,rfl,.zero,false,rfl,by rw[bN aa];rfl,λ_=>rfl⟩
 ·have aa:d.k=1:=by have:(!decide (d.k=1))=false:=h;simpa using this
  refine bm.mk aM r bB en (by omega) ?_;refine aO.mk _ ((bp _).part (k:=1) (m:=4) (by decide)) ?_;refine⟨_,_,.refl,rfl,rfl,d.ws,true,?_,by rw[bT aa];rfl,λh=>by cases h⟩;rw[aff bg.cx bg.s1 bg.s2 bg.cY];rfl
def afg(be:e2 I az)(aq:t.ok I):Spec Tryz.prog 39 [t.val] I M0 λv I' M'=>I'=I/\M'=M0/\Gf (jA t vS) v:=by
 refine bV [] aY Tryz.func39 rfl rfl rfl ?_;intro B ay;have hk:=aq.n;refine a8.mk [] M0 _ (.refl _) (n7 be.c aq) ?_;rintro v J N -⟨rfl,rfl,rfl⟩;cases af:right t with
 |false=>refine aX.mk (λ_=>?_) (λh=>absurd h (by simp));exact⟨_,_,.refl,rfl,rfl,.zero,false,rfl,by simp[jA,af],λ_=>rfl⟩| true=>
 obtain⟨gV,hn⟩:=l4 af;obtain⟨r,en⟩:=eG gV;have eH:r<t.ns.length:=by omega
 obtain⟨aM,bB,bp⟩:=aq.a'.row al.cL (show r<t.n by omega) eH;have bg:=aq.ns _ (bJ eH);have ir:=Gg af en eH;have iu:=(jv.1 af).fit _ (bJ eH);have e:jA t vS=if t.ns[r].k=1 then some t.ns[r].ws else if t.ns[r].k=2/\t.ns[r].t.size=1 then some (o5 t.ns[r].t.data.toList)else none:=by unfold jA;rw[af,ir];rfl
 rw[e];generalize t.ns[r]=d at bp bg;refine aX.mk (λh=>absurd h (by simp)) (λ_=>?_);refine bm.mk aM r bB en (by omega) ?_;refine aO.mk _ (bp _) ?_;refine aX.mk (λh=>?_) (λh=>?_)
 ·have aa:d.k=1:=cJ h;refine⟨_,_,.refl,rfl,rfl,d.ws,true,?_,by rw[bT aa];rfl,λh=>by cases h⟩;rw[aff bg.cx bg.s1 bg.s2 bg.cY];rfl
 have aa:¬ d.k=1:=dv h;rw[bN aa];by_cases ad:d.k=2
 rotate_left
 ·refine bX.mk (λh=>absurd h (by simp[ad])) (λ_=>?_);exact⟨_,_,.refl,rfl,rfl,.zero,false,rfl,by rw[bN λh=>ad h.1];rfl,λ_=>rfl⟩
 refine bX.mk (λ_=>?_) (λh=>absurd h (by simp[ad]));refine aX.mk (λh=>?_) (λh=>?_)
 ·have ak:(d.t.size:Int)=1:=cJ h;refine a8.mk [] M0 _ (.refl _) (aav d.t (by omega)) ?_;rintro v J N -⟨rfl,rfl,rfl⟩;exact⟨_,_,.refl,rfl,rfl,_,true,rfl,by rw[bT ⟨ad,by omega⟩];rfl,λh=>by cases h⟩
 ·have ak:¬ (d.t.size:Int)=1:=dv h;exact⟨_,_,.refl,rfl,rfl,.zero,false,rfl,by rw[bN λh=>ak (by omega)];rfl,λ_=>rfl⟩
def atb(h:k' t T)(be:eZ T)(ag:jd T)(f:aP->Option bj):jA t f=f T:=by unfold jA;rw[h.right be,h.bI be ag];rfl
def atc(af:right t=true)(ai:j<t.ns.length)(ae:k∈t.ns[j].au):∃ q:Nat,k=(q:Int)/\q<t.ns.length:=by have aa:=(jv.1 af).xj j ai k ae;obtain⟨q,rfl⟩:=eG aa.1;exact⟨q,rfl,by omega⟩
def afh(af:right t=true)(ai:j<t.ns.length)(ae:k∈t.ns[j].au)(h:qL t k bn):k' bn (fq t.ns k)/\eZ (fq t.ns k)/\jd (fq t.ns k):=by obtain⟨q,rfl,aL⟩:=atc af ai ae;have aV:=jv.1 af;exact⟨ad2 aV aL h,ad0 aV aL,ad5 aV aL⟩
def atd{d:al}(h:d.k=7\/d.k=8)(aB:Go.V.fits d n=true):n=1:=by
 rcases h with h | h
 ·unfold Go.V.fits at aB;simp[h,oR,nH,jG]at aB;omega
 ·unfold Go.V.fits at aB;simp[h,oR,nH,jG]at aB;omega
def afi(be:e2 I az)(aq:t.ok I)(aD:t.n<=1099511627776)(ae:k=7\/k=8):Spec Tryz.prog 152 [t.val,.int .u8 k] I M0 λv I' M'=>(∀ b o,I b=some o->I' b=some o)/\M'=M0/\Gf (jA t (xt k)) v:=by
 refine bV [] aY Tryz.func152 rfl rfl rfl ?_;intro B ay;have hk:=aq.n;refine a8.mk [] M0 _ (.refl _) (n7 be.c aq) ?_;rintro v J N -⟨rfl,rfl,rfl⟩;cases af:right t with
 |false=>refine bX.mk (λh=>absurd h (by simp)) (λ_=>?_);exact⟨_,_,.refl,λ_ _ h=>h,rfl,.zero,false,rfl,by simp[jA,af],λ_=>rfl⟩| true=>
 obtain⟨gV,hn⟩:=l4 af;obtain⟨r,en⟩:=eG gV;have eH:r<t.ns.length:=by omega
 obtain⟨aM,bB,bp⟩:=aq.a'.row al.cL (show r<t.n by omega) eH;have bg:=aq.ns _ (bJ eH);have ir:=Gg af en eH;have rF:=UK (M0:=[]) be aq af aD en;rw[gr eH]at rF;have dz:=fun {k} (h:k∈t.ns[r].au) {bn} (av:qL t k bn)=>afh af eH h av;have iu:=(jv.1 af).fit _ (bJ eH);have e:jA t (xt k)=if t.ns[r].k=k then(match t.ns[r].au.map (fq t.ns)with
  |c::_=>se c| []=>none)else none:=by
  unfold jA;rw[af,ir];rfl
 rw[e];generalize t.ns[r]=d at bp bg rF dz iu;refine bX.mk (λ_=>?_) (λh=>absurd h (by simp));refine bm.mk aM r bB en (by omega) ?_;refine aO.mk _ ((bp _).part (k:=0) (m:=1) (by decide)) ?_;refine aX.mk (λh=>?_) (λh=>?_)
 ·have aa:¬ d.k=k:=by have:(!decide (d.k=k))=true:=h;simpa using this
  exact⟨_,_,.refl,λ_ _ h=>h,rfl,.zero,false,rfl,by rw[bN aa];rfl,λ_=>rfl⟩
 ·have aa:d.k=k:=by have:(!decide (d.k=k))=false:=h;simpa using this
  have qk:=atd (by omega) iu;obtain⟨q,aL⟩:∃ q,d.au=[q]:=TU.1 qk;rw[aL]at rF;refine a8.mk [] M0 _ (.refl _) rF ?_;rintro v J N a5⟨-,rfl,a,n,c,L,rfl,dB,bY,eO⟩;have AP:L.length=1:=bY;obtain⟨x,rfl⟩:=TU.1 AP;obtain⟨ab,av⟩:=eO 0 (by simp);have av:qL t q x:=av;have kx:n=1:=by have:=dB.len;simp[bk.cells]at this;omega
  obtain⟨gn,fo,fh⟩:=dB.row (f:=bk.cells) (λ_=>rfl) (j:=0) (by omega) (by simp);obtain⟨fF,fz,l6⟩:=dz (by rw[aL];exact .head _) av;refine bm.mk gn 0 fo rfl (by omega) ?_;refine aO.mk _ (fh _) ?_;refine a8.mk [] M0 _ (.refl _) (UM (t:=x) (be.mono a5) ab) ?_;rintro v cA N -⟨cO,rfl,w,b,rfl,hw,ag⟩;subst cA;refine⟨_,_,.refl,a5,rfl,w,b,rfl,?_,ag⟩;rw[bT aa,aL,<-hw,atb fF fz l6];rfl
def Gh(f:bj->bj->bj)(x y:bj)(b c:Bool):sf f (bif b then some x else none) (bif c then some y else none)=bif b&&c then some (f x y)else none:=by cases b<;>cases c<;>rfl
section
variable{I:aH}{M0:List aE}{az:List Int}(be:e2 I az){x y:bk}(ab:x.ok I)(aC:y.ok I)
include be ab aC
theorem ate:Spec Tryz.prog 149 [x.val,y.val] I M0 λv I' M'=>(∀ b o,I b=some o->I' b=some o)/\M'=M0/\UL (sf bj.or (jA x vS) (jA y vS)) v:=by
 refine bV [] aY Tryz.func149 rfl rfl rfl ?_;intro B ay;refine a8.mk [] M0 _ (.refl _) (afg be ab) ?_;rintro v J N -⟨a5,rfl,w,b,rfl,hw,-⟩;subst J;refine a8.mk [] M0 _ (.refl _) (afg be aC) ?_;rintro v J N -⟨a5,rfl,u,c,rfl,hu,-⟩;subst J;refine a8.mk [] M0 _ (.refl _) (alh w u) ?_;rintro v J N -⟨rfl,a5,rfl⟩;subst J;cases b with
 |true=>refine bX.mk (λ_=>?_) (λh=>absurd h (by simp));exact⟨_,_,.refl,λ_ _ h=>h,rfl,w.or u,c,rfl,by rw[hw,hu,Gh];rfl⟩| false=>refine bX.mk (λh=>absurd h (by simp)) (λ_=>?_);exact⟨_,_,.refl,λ_ _ h=>h,rfl,w.or u,false,rfl,by rw[hw,hu,Gh];rfl⟩
theorem atf(aD:x.n<=1099511627776):Spec Tryz.prog 151 [x.val,y.val] I M0 λv I' M'=>(∀ b o,I b=some o->I' b=some o)/\M'=M0/\UL (sf (λx y=>y.minus x) (jA x (xt 8)) (jA y se)) v:=by
 refine bV [] aY Tryz.func151 rfl rfl rfl ?_;intro B ay;refine a8.mk [] M0 _ (.refl _) (afi be ab aD (.inr rfl)) ?_;rintro v J N a5⟨-,rfl,w,b,rfl,hw,-⟩;refine a8.mk [] M0 _ (.refl _) (UM (be.mono a5) (aC.mono a5)) ?_;rintro v cA N -⟨cO,rfl,u,c,rfl,hu,-⟩;subst cA;refine a8.mk [] M0 _ (.refl _) (ata u w) ?_;rintro v cA N -⟨rfl,cO,rfl⟩;subst cA;cases b with
 |true=>refine bX.mk (λ_=>?_) (λh=>absurd h (by simp));exact⟨_,_,.refl,a5,rfl,u.minus w,c,rfl,by rw[hw,hu,Gh];rfl⟩| false=>refine bX.mk (λh=>absurd h (by simp)) (λ_=>?_);exact⟨_,_,.refl,a5,rfl,u.minus w,false,rfl,by rw[hw,hu,Gh];rfl⟩
theorem atg(aD:x.n<=1099511627776):Spec Tryz.prog 155 [x.val,y.val] I M0 λv I' M'=>(∀ b o,I b=some o->I' b=some o)/\M'=M0/\UL (sf bj.and (jA x (xt 7)) (jA y se)) v:=by
 refine bV [] aY Tryz.func155 rfl rfl rfl ?_;intro B ay;refine a8.mk [] M0 _ (.refl _) (afi be ab aD (.inl rfl)) ?_;rintro v J N a5⟨-,rfl,w,b,rfl,hw,-⟩;refine a8.mk [] M0 _ (.refl _) (UM (be.mono a5) (aC.mono a5)) ?_;rintro v cA N -⟨cO,rfl,u,c,rfl,hu,-⟩;subst cA;refine a8.mk [] M0 _ (.refl _) (alj w u) ?_;rintro v cA N -⟨rfl,cO,rfl⟩;subst cA;cases b with
 |true=>refine bX.mk (λ_=>?_) (λh=>absurd h (by simp));exact⟨_,_,.refl,a5,rfl,w.and u,c,rfl,by rw[hw,hu,Gh];rfl⟩| false=>refine bX.mk (λh=>absurd h (by simp)) (λ_=>?_);exact⟨_,_,.refl,a5,rfl,w.and u,false,rfl,by rw[hw,hu,Gh];rfl⟩
end
def ath:List Value:=[.nilFunc,.func (.func 149) #[] #[],.func (.func 151) #[] #[],.func (.func 155) #[] #[]]
def Gi:Spec Tryz.prog 91 [] I [] λv I' M'=>v=.agg ath.toArray/\I'=I/\M'=[]:=by refine bV [] aY Tryz.func91 rfl rfl rfl ?_;intro B ay;exact⟨_,_,.refl,rfl,rfl,rfl⟩
def nx(w:Int)(x y:bk):Option bj:=bif right x&&right y then s7 w (bI x) (bI y)else none
def UN(f:bj->bj->bj)(p q:aP->Option bj)(x y:bk):sf f (jA x p) (jA y q)=bif right x&&right y then sf f (p (bI x)) (q (bI y))else none:=by
 unfold jA;cases right x<;>cases right y<;>simp[sf]
def ati(x y:bk):nx 1 x y=sf bj.or (jA x vS) (jA y vS):=by rw[UN];rfl
def atj(x y:bk):nx 2 x y=sf (λx y=>y.minus x) (jA x (xt 8)) (jA y se):=by rw[UN];rfl
def atk(x y:bk):nx 3 x y=sf bj.and (jA x (xt 7)) (jA y se):=by rw[UN];rfl
def afj(aa:w≠1)(ad:w≠2)(ak:w≠3)(x y:bk):nx w x y=none:=by
 unfold nx s7;rw[bN aa,bN ad,bN ak];cases right x&&right y<;>rfl
def UO(be:e2 I az)(hw:0<=w){x y:bk}(ab:x.ok I)(aC:y.ok I)(aD:x.n<=1099511627776):Spec Tryz.prog 37 [.int .u8 w,x.val,y.val] I M0 λv I' M'=>(∀ b o,I b=some o->I' b=some o)/\M'=M0/\Gf (nx w x y) v:=by
 refine bV [] aY Tryz.func37 rfl rfl rfl ?_;intro B ay;have fin:∀ {J:aH} {o:Option bj} {w:bj} {b:Bool},(∀ b o,I b=some o->J b=some o)->(o=bif b then some w else none)->Gf o (.tuple #[(bif b then w else bj.zero).val,.bool b]):=by intro J o w b a5 aA;exact⟨_,b,rfl,by rw[aA];cases b<;>rfl,λe=>by rw[e];rfl⟩
 by_cases z1:w=0
 ·subst z1;refine bX.mk (λh=>absurd h (by simp)) (λ_=>?_);exact⟨_,_,.refl,λ_ _ h=>h,rfl,.zero,false,rfl,afj (by decide) (by decide) (by decide) x y,λ_=>rfl⟩
 refine bX.mk (λ_=>?_) (λh=>absurd h (by simp[z1]));by_cases J8:4<=w
 ·refine aX.mk (λ_=>?_) (λh=>absurd h (by simp[J8]));exact⟨_,_,.refl,λ_ _ h=>h,rfl,.zero,false,rfl,afj (by omega) (by omega) (by omega) x y,λ_=>rfl⟩
 have c1:=ate (M0:=[]) be ab aC;have m2:=atf (M0:=[]) be ab aC aD;have wC:=atg (M0:=[]) be ab aC aD;rw[<-ati]at c1;rw[<-atj]at m2;rw[<-atk]at wC;rcases(show w=1\/w=2\/w=3 by omega)with rfl | rfl | rfl
 ·generalize nx 1 x y=o at *;refine aX.mk (λh=>absurd h (by simp)) (λ_=>?_);refine cT.x0 aY rfl rfl rfl (ι:=Nat×bj×Bool×aH) (λz=>{ bo:=[(6,.ref 6 0),(8,.val (ptr z.1)),(9,.val (.bool z.2.2.1))],cl:=[(6,bj.zero.cells)],cH:=z.2.2.2,dd:=⟨z.1,.cells z.2.1.cells.toArray 62 (0,0)⟩::M0 }) (λz=>(∀ b o,I b=some o->z.2.2.2 b=some o)/\o=bif z.2.2.1 then some z.2.1 else none) ?_ ?_
  ·refine⟨?_,?_⟩
   ·refine eJ.mk _ Gi ?_;rintro v J N -⟨rfl,a5,ho⟩;subst J;subst N;refine cw.mk 1 rfl (by decide) ?_;refine⟨?_,?_⟩
    ·refine a8.mk [] M0 _ (.refl _) c1 ?_;rintro v J N a5⟨-,rfl,s,b,rfl,aA⟩;refine bW.mk λdP sQ vR=>?_;refine ck.mk [] M0 _ _ rfl rfl (bK rfl) rfl ?_;exact⟨(dP,s,b,J),⟨a5,aA⟩,.refl,fG,.cons rfl (.nil)⟩
    ·refine bW.mk λdP sQ vR=>?_;refine eJ.mk _ c1 ?_;rintro v J N a5⟨-,rfl,s,b,rfl,aA⟩;refine ck.mk [] M0 _ _ rfl rfl (bK rfl) rfl ?_;exact⟨(dP,s,b,J),⟨a5,aA⟩,.refl,fG,.cons rfl (.nil)⟩
   ·refine bW.mk λdP sQ vR=>?_;refine eJ.mk _ Gi ?_;rintro v J N -⟨rfl,a5,ho⟩;subst J;subst N;refine cw.mk 1 rfl (by decide) ?_;refine eJ.mk _ c1 ?_;rintro v J N a5⟨-,rfl,s,b,rfl,aA⟩;refine ck.mk [] M0 _ _ rfl rfl (bK rfl) rfl ?_;exact⟨(dP,s,b,J),⟨a5,aA⟩,.refl,fG,.cons rfl (.nil)⟩
  rintro⟨dP,s,b,J⟩⟨a5,aA⟩;simp only at a5 aA;refine aX.mk (λh=>?_) (λh=>?_)
  ·have ag:b=false:=by simpa using h
   exact⟨_,_,.sub (tA _ _) .refl,a5,rfl,.zero,false,rfl,by rw[aA,ag];rfl,λ_=>rfl⟩
  ·have ag:b=true:=by simpa using h
   refine aO.mk s.cells ⟨rfl,_,_,_,.inr ⟨_,.head _,rfl,rfl⟩,rfl,rfl⟩ ?_;exact⟨_,_,.sub (tA _ _) .refl,a5,rfl,s,true,rfl,by rw[aA,ag],λh=>by cases h⟩
 ·generalize nx 2 x y=o at *;refine aX.mk (λh=>absurd h (by simp)) (λ_=>?_);refine cT.x0 aY rfl rfl rfl (ι:=Nat×bj×Bool×aH) (λz=>{ bo:=[(6,.ref 6 0),(8,.val (ptr z.1)),(9,.val (.bool z.2.2.1))],cl:=[(6,bj.zero.cells)],cH:=z.2.2.2,dd:=⟨z.1,.cells z.2.1.cells.toArray 62 (0,0)⟩::M0 }) (λz=>(∀ b o,I b=some o->z.2.2.2 b=some o)/\o=bif z.2.2.1 then some z.2.1 else none) ?_ ?_
  ·refine⟨?_,?_⟩
   ·refine eJ.mk _ Gi ?_;rintro v J N -⟨rfl,a5,ho⟩;subst J;subst N;refine cw.mk 2 rfl (by decide) ?_;refine⟨?_,?_⟩
    ·refine a8.mk [] M0 _ (.refl _) m2 ?_;rintro v J N a5⟨-,rfl,s,b,rfl,aA⟩;refine bW.mk λdP sQ vR=>?_;refine ck.mk [] M0 _ _ rfl rfl (bK rfl) rfl ?_;exact⟨(dP,s,b,J),⟨a5,aA⟩,.refl,fG,.cons rfl (.nil)⟩
    ·refine bW.mk λdP sQ vR=>?_;refine eJ.mk _ m2 ?_;rintro v J N a5⟨-,rfl,s,b,rfl,aA⟩;refine ck.mk [] M0 _ _ rfl rfl (bK rfl) rfl ?_;exact⟨(dP,s,b,J),⟨a5,aA⟩,.refl,fG,.cons rfl (.nil)⟩
   ·refine bW.mk λdP sQ vR=>?_;refine eJ.mk _ Gi ?_;rintro v J N -⟨rfl,a5,ho⟩;subst J;subst N;refine cw.mk 2 rfl (by decide) ?_;refine eJ.mk _ m2 ?_;rintro v J N a5⟨-,rfl,s,b,rfl,aA⟩;refine ck.mk [] M0 _ _ rfl rfl (bK rfl) rfl ?_;exact⟨(dP,s,b,J),⟨a5,aA⟩,.refl,fG,.cons rfl (.nil)⟩
  rintro⟨dP,s,b,J⟩⟨a5,aA⟩;simp only at a5 aA;refine aX.mk (λh=>?_) (λh=>?_)
  ·have ag:b=false:=by simpa using h
   exact⟨_,_,.sub (tA _ _) .refl,a5,rfl,.zero,false,rfl,by rw[aA,ag];rfl,λ_=>rfl⟩
  ·have ag:b=true:=by simpa using h
   refine aO.mk s.cells ⟨rfl,_,_,_,.inr ⟨_,.head _,rfl,rfl⟩,rfl,rfl⟩ ?_;exact⟨_,_,.sub (tA _ _) .refl,a5,rfl,s,true,rfl,by rw[aA,ag],λh=>by cases h⟩
 ·generalize nx 3 x y=o at *;refine aX.mk (λh=>absurd h (by simp)) (λ_=>?_);refine cT.x0 aY rfl rfl rfl (ι:=Nat×bj×Bool×aH) (λz=>{ bo:=[(6,.ref 6 0),(8,.val (ptr z.1)),(9,.val (.bool z.2.2.1))],cl:=[(6,bj.zero.cells)],cH:=z.2.2.2,dd:=⟨z.1,.cells z.2.1.cells.toArray 62 (0,0)⟩::M0 }) (λz=>(∀ b o,I b=some o->z.2.2.2 b=some o)/\o=bif z.2.2.1 then some z.2.1 else none) ?_ ?_
  ·refine⟨?_,?_⟩
   ·refine eJ.mk _ Gi ?_;rintro v J N -⟨rfl,a5,ho⟩;subst J;subst N;refine cw.mk 3 rfl (by decide) ?_;refine⟨?_,?_⟩
    ·refine a8.mk [] M0 _ (.refl _) wC ?_;rintro v J N a5⟨-,rfl,s,b,rfl,aA⟩;refine bW.mk λdP sQ vR=>?_;refine ck.mk [] M0 _ _ rfl rfl (bK rfl) rfl ?_;exact⟨(dP,s,b,J),⟨a5,aA⟩,.refl,fG,.cons rfl (.nil)⟩
    ·refine bW.mk λdP sQ vR=>?_;refine eJ.mk _ wC ?_;rintro v J N a5⟨-,rfl,s,b,rfl,aA⟩;refine ck.mk [] M0 _ _ rfl rfl (bK rfl) rfl ?_;exact⟨(dP,s,b,J),⟨a5,aA⟩,.refl,fG,.cons rfl (.nil)⟩
   ·refine bW.mk λdP sQ vR=>?_;refine eJ.mk _ Gi ?_;rintro v J N -⟨rfl,a5,ho⟩;subst J;subst N;refine cw.mk 3 rfl (by decide) ?_;refine eJ.mk _ wC ?_;rintro v J N a5⟨-,rfl,s,b,rfl,aA⟩;refine ck.mk [] M0 _ _ rfl rfl (bK rfl) rfl ?_;exact⟨(dP,s,b,J),⟨a5,aA⟩,.refl,fG,.cons rfl (.nil)⟩
  rintro⟨dP,s,b,J⟩⟨a5,aA⟩;simp only at a5 aA;refine aX.mk (λh=>?_) (λh=>?_)
  ·have ag:b=false:=by simpa using h
   exact⟨_,_,.sub (tA _ _) .refl,a5,rfl,.zero,false,rfl,by rw[aA,ag];rfl,λ_=>rfl⟩
  ·have ag:b=true:=by simpa using h
   refine aO.mk s.cells ⟨rfl,_,_,_,.inr ⟨_,.head _,rfl,rfl⟩,rfl,rfl⟩ ?_;exact⟨_,_,.sub (tA _ _) .refl,a5,rfl,s,true,rfl,by rw[aA,ag],λh=>by cases h⟩
structure s8(I:aH)(a:Option Addr)(c:Nat)(L:List bk):Prop where
 a':cI I a L.length c 2 32 (L.flatMap bk.cells)
 ok:∀ t∈L,t.ok I/\right t=true
 n:(L.map (·.n)).sum<=549755813887
 l:L.length<=1099511627776
def atl(h:right t=true):tM t=(bI t).post:=by obtain⟨gV,hn⟩:=l4 h;obtain⟨r,en⟩:=eG gV;unfold tM bI;rw[en];exact ad1 (jv.1 h) (by omega)
def Oa(h:right t=true):eZ (bI t)/\jd (bI t):=by obtain⟨gV,hn⟩:=l4 h;obtain⟨r,en⟩:=eG gV;unfold bI;rw[en];exact⟨ad0 (jv.1 h) (by omega),ad5 (jv.1 h) (by omega)⟩
def afk:∀ L:List bk,(∀ t∈L,right t=true/\t.ns.length=t.n)->((L.map bI).map dM).sum<=(L.map (·.n)).sum
 |[],_=>b' _| t::L,h=>by have aa:=afk L λt aq=>h t (.tail _ aq);obtain⟨ad,ak⟩:=h t (.head _);have aK:=DA ad;simp only[b5,hj];omega
def afl(be:e2 I az){d:al}(ah:d.ok I)(ag:d.bare=d){L:List bk}(bY:s8 I a c L)(aB:Go.V.fits d L.length=true) :
  Spec Tryz.prog 112 [d.val,.slice a L.length c] I M0 (nw (some (aP.mk d (L.map bI)).lL) I M0):=by
 refine bV [] aY Tryz.func112 rfl rfl rfl ?_;intro B ay;have y3:=bY.n;refine a8.mk [] M0 _ (.refl _) (apE be ah bY.a' bY.ok (by omega) bY.l aB) ?_;rintro v J N a5⟨-,rfl,bn,rfl,jN,m5,eh⟩;refine aX.mk (λh=>by cases h) (λ_=>?_);have UP:eZ (aP.mk d (L.map bI)):=.mk (by rw[bx];exact aB) λx ab=>by obtain⟨t,aq,rfl⟩:=cP.1 ab;exact(Oa (bY.ok t aq).2).1
 have zg:jd (aP.mk d (L.map bI)):=.mk ag λx ab=>by obtain⟨t,aq,rfl⟩:=cP.1 ab;exact(Oa (bY.ok t aq).2).2
 have dz:k' bn (aP.mk d (L.map bI)):=by refine⟨?_,m5⟩;rw[eh,aP.kz,gu];congr 1;exact fV λt aq=>atl (bY.ok t aq).2
 have gL:=dz.right UP;have ir:=dz.bI UP zg;have xX:bn.n<=1099511627776:=by have aa:=congrArg List.length dz.a4;rw[bx,Bq,lO]at aa;have ad:=afk L λt aq=>⟨(bY.ok t aq).2,(bY.ok t aq).1.n⟩;have ak:=jN.n;omega
 refine a8.mk [] M0 _ (.refl _) (NW (M0:=[]) (be.mono a5) jN gL xX) ?_;rintro v cA N cO⟨-,rfl,t2,rfl,nO,uv⟩;refine⟨_,_,.refl,λb o h=>cO _ _ (a5 _ _ h),rfl,t2,rfl,nO,?_,Dt UP,JW _⟩;rw[<-ir];exact uv
def nw.afm{d:al}(bA:∀ b o,I b=some o->I' b=some o)(aq:t.ok I')(aa:t.ns=[d])(ad:t.bC=0)(ag:d.bare=d)(aB:Go.V.fits d 0=true):nw (some (.mk d [])) I M0 (.tuple #[t.val,.bool true]) I' M0:=by
 have bg:eZ (.mk d []):=.mk aB λc ao=>by cases ao
 refine⟨bA,rfl,t,rfl,aq,⟨?_,?_⟩,bg,.mk ag λc ao=>by cases ao⟩
 ·rw[aa,aP.kz];show [d.a4]=[d.dX []];have:d.a4=d.bare:=by rw[<-ag];rfl
  rw[this];rfl
 ·rw[aa,ad];rfl
def afn(be:e2 I az){L:List bk}(bY:s8 I a c L) :
  Spec Tryz.prog 56 [.slice a L.length c] I M0 (nw (some (lP 4 (L.map bI))) I M0):=by
 refine bV [] aY Tryz.func56 rfl rfl rfl ?_;intro B ay
 match L,bY with
 |[],bY=>refine aX.mk (λ_=>?_) (λh=>absurd h (by simp));refine a8.mk [] M0 _ (.refl _) ajP ?_;rintro v J N a5⟨-,t,rfl,aq,aa,ad,rfl⟩;exact⟨_,_,.refl,nw.afm (d:=nothing 0) a5 aq aa ad rfl (by simp[Go.V.fits,nothing,oR,nH,jG,al.kT])⟩
 |[x],bY=>
  refine aX.mk (λh=>absurd h (by simp)) (λ_=>?_);refine aX.mk (λ_=>?_) (λh=>absurd h (by simp));obtain⟨aM,bB,bp⟩:=bY.a'.row (f:=bk.cells) (λ_=>rfl) (j:=0) (by simp) (by simp);obtain⟨ab,af⟩:=bY.ok x (.head _);have aD:=bY.n;have aD:x.n<=549755813887:=by simpa using aD
  refine bm.mk aM 0 bB rfl (by simp) ?_;refine aO.mk _ (bp _) ?_;refine a8.mk [] M0 _ (.refl _) (NW (M0:=[]) (t:=x) be ab af (by omega)) ?_;rintro v cA N cO⟨-,rfl,t2,rfl,nO,uv⟩;exact⟨_,_,.refl,cO,rfl,t2,rfl,nO,uv,Dt (Oa af).1,JW _⟩
 |x::y::L,bY=>have Br:=afl (M0:=[]) be (NH I (k:=4) (by decide)) rfl bY (N7 (.inl rfl) (by simp));refine aX.mk (λh=>absurd h (by simp;omega)) (λ_=>?_);refine aX.mk (λh=>absurd h (by simp;omega)) (λ_=>?_);refine a8.mk [] M0 _ (.refl _) Br ?_;rintro v cA N cO⟨-,rfl,t2,rfl,ak⟩;exact⟨_,_,.refl,cO,rfl,t2,rfl,ak⟩
def afo(be:e2 I az){L:List bk}(bY:s8 I a c L) :
  Spec Tryz.prog 57 [.slice a L.length c] I M0 (nw (some (lP 5 (L.map bI))) I M0):=by
 refine bV [] aY Tryz.func57 rfl rfl rfl ?_;intro B ay
 match L,bY with
 |[],bY=>refine aX.mk (λ_=>?_) (λh=>absurd h (by simp));refine a8.mk [] M0 _ (.refl _) (Td (a:=0) (b:=0) (c:=0) (d:=0) (by unfold fm;omega) (by unfold fm;omega) (by unfold fm;omega) (by unfold fm;omega)) ?_;rintro v J N a5⟨-,t,rfl,aq,aa,ad,rfl⟩;exact⟨_,_,.refl,nw.afm (d:=nothing 1) a5 aq aa ad rfl (by simp[Go.V.fits,nothing,oR,nH,jG])⟩
 |[x],bY=>
  refine aX.mk (λh=>absurd h (by simp)) (λ_=>?_);refine aX.mk (λ_=>?_) (λh=>absurd h (by simp));obtain⟨aM,bB,bp⟩:=bY.a'.row (f:=bk.cells) (λ_=>rfl) (j:=0) (by simp) (by simp);obtain⟨ab,af⟩:=bY.ok x (.head _);have aD:=bY.n;have aD:x.n<=549755813887:=by simpa using aD
  refine bm.mk aM 0 bB rfl (by simp) ?_;refine aO.mk _ (bp _) ?_;refine a8.mk [] M0 _ (.refl _) (NW (M0:=[]) (t:=x) be ab af (by omega)) ?_;rintro v cA N cO⟨-,rfl,t2,rfl,nO,uv⟩;exact⟨_,_,.refl,cO,rfl,t2,rfl,nO,uv,Dt (Oa af).1,JW _⟩
 |x::y::L,bY=>have Br:=afl (M0:=[]) be (NH I (k:=5) (by decide)) rfl bY (N7 (.inr rfl) (by simp));refine aX.mk (λh=>absurd h (by simp;omega)) (λ_=>?_);refine aX.mk (λh=>absurd h (by simp;omega)) (λ_=>?_);refine a8.mk [] M0 _ (.refl _) Br ?_;rintro v cA N cO⟨-,rfl,t2,rfl,ak⟩;exact⟨_,_,.refl,cO,rfl,t2,rfl,ak⟩
namespace aP
mutual
def paths:aP->List (List Int)
 |mk _ ks=>[]::s9 0 ks
def s9:Nat->List aP->List (List Int)
 |_,[]=>[]| i,c::cs=>c.paths.map (λp=>(i:Int)::p)++s9 (i+1) cs
end
def Gj(d:al)(ks:List aP):(mk d ks).paths=[]::s9 0 ks:=by rw[paths]
def Ob(i:Nat)(c:aP)(cs:List aP):s9 i (c::cs)=c.paths.map (λp=>(i:Int)::p)++s9 (i+1) cs:=by rw[s9]
def Oc(i:Nat):s9 i []=[]:=by rw[s9]
def afp(T:aP):0<T.paths.length:=by
 cases T with
 |mk d ks=>rw[Gj];simp
end aP
def iA(l:List Int):List Value:=l.map (.int .i64 ·)
def atm(I:aH)(p:List Int)(v:Value):Prop:=∃ a c,v=.slice a p.length c/\cI I a p.length c 1 8 (iA p)/\(p.length=0->a=none)
def UQ{o:Obj}(h:c≠b):ins I b o c=I c:=by unfold ins;rw[hI h];rfl
def afq(t:bk)(k:Int)(a:Option Addr)(n c:Nat):Spec Tryz.prog 105 [t.val,.int .i64 k,.slice a n c] I [] λr I' M'=>∃ b1 b8 ev,r=.func (.func 169) #[] #[ptr b1,ptr b8,ptr ev]/\I' b1=some (.cells #[.slice a n c] 38 (0,0))/\I' b8=some (.cells #[.slice t.a t.n t.c,.int .i64 t.bC] 56 (0,0))/\I' ev=some (.cells #[.int .i64 k] 3 (0,0))/\(∀ b o,I b=some o->I' b=some o)/\M'=[]:=by
 refine bV [3,4,5] aY Tryz.func105 rfl rfl rfl ?_;intro B ay;refine bW.mk λev CX afr=>?_;refine bW.mk λgR Fo yU=>?_;refine bW.mk λdU Cy ND=>?_;have atn:ev≠gR:=yU _ (.head _);have ato:gR≠dU:=ND _ (.head _);have atp:ev≠dU:=ND _ (.tail _ (.head _));have aK:ins I dU (.cells #[.slice a n c] 38 (0,0)) gR=none:=by rw[UQ ato];exact Fo
 have ak:ins (ins I dU (.cells #[.slice a n c] 38 (0,0))) gR (.cells #[.int .i64 k] 3 (0,0)) ev=none:=by rw[UQ atn,UQ atp];exact CX
 refine⟨_,_,.mP rfl (by simp) (.mP rfl (by simp) (.mP rfl (by simp) .refl)),dU,ev,gR,rfl,?_,n8 ..,?_,λb o h=>lz ak _ _ (lz aK _ _ (lz Cy _ _ h)),rfl⟩
 ·exact lz ak _ _ (lz aK _ _ (n8 ..))
 ·exact lz ak _ _ (n8 ..)
def atq(a9:List Int)(T:aP)(j:Nat)(vs:List Value)(I:aH):Prop:=∃ p v,T.paths[j]?=some p/\vs=[v]/\atm I (a9++p) v
def jC.atr{X:c3}{F:Fr}{C:dN}{o:Oper}(aN:cW X.P X.E){t:Nat}(aA:o.op=.call { callee:=.builtin .append,args:=#[s,x],argTypes:=#[t,t] })
 (aq:X.E t=some db) (dk:db.bP=.slice e) (he:X.E e=some aF) (kt:aF.size=1)
 (af:cI I a n c 1 8 (iA p)) (ay:n=0->a=none) (av:bH F s=.val (.slice (if n=0 then a else a.map (·.add (0*1))) (n-0) (n-0)))
  {b9:Nat} {cs:List Value} (ab:bH F x=.val (.slice (some ⟨b9,0,none⟩) 1 c')) (ax:cs.length=aF.size) (aa:fK cs=true)
  (ba:(⟨b9,.cells cs.toArray e (0,0)⟩:aE)∈M) (b1:n+1<=9223372036854775807) (b8:(n+1)*aF.bytes<=140737488355328)
  (k:∀ br:aR,br.n=n+1->(∀ g,br.a=some g->I g=none/\g ∉ X.foot)->br.ok 1 (iA p++cs)->K (.val br.val) I (br.ar e++M)):jC X o F C I M K:=by
 have ql:=af.len;have afs:cR I M ⟨b9,0,none⟩ (1*aF.size) cs:=by rw[oI];refine⟨rfl,_,_,_,.inr ⟨⟨b9,.cells cs.toArray e (0,0)⟩,ba,rfl,rfl⟩,?_,ax⟩;simp only[qp];exact fC (by omega)
 by_cases aD:n=0
 ·subst aD;have aJ:iA p=[]:=jl (by omega);rw[aJ]at k;rw[ay rfl]at av;refine .adP aN aA aq dk he h2 (xs:=[]) (k1 _) (av.trans rfl) ab (by decide) afs aa (Mr:=M) (.refl _) (by unfold maxLen;exact b1) b8 _ (λ_=>.refl _) λbr ad ak aK=>k br ad (λg aw=>⟨(ak g aw).1,(ak g aw).2 rfl⟩) (by rw[kt]at aK;exact aK)
 ·rcases af.rd with h | ⟨aM,bB,c9,Qo,T,an,bA,aj⟩
  ·exact absurd h aD
  rw[bN aD,bB]at av;refine .as8 aN aA aq dk he (sa:=aM.add (0*1)) (n:=n) (xs:=iA p) (av.trans rfl) ?_ ab (by decide) afs (by unfold maxLen;exact b1) b8 _ (λ_=>.refl _) λbr ad ak aK=>k br ad ak (by rw[kt]at aK;exact aK);rw[kt];exact⟨c9,Qo,T,an,.inl bA,by simpa[Addr.add]using aj,ql⟩
def aft{t:bk}(af:right t=true)(hk:t.n<=1099511627776):∀ (m k:Nat),k<m->(ae:k<t.ns.length)->∀ {I:aH} (aq:t.ok I) {a9:List Int} {a:Option Addr} {n c:Nat} (rI:a9.length=n) (cS:n+k<=1099511627776) (Od:cI I a n c 1 8 (iA a9)) (gy:n=0->a=none) {b1 b8 ev:Nat} (jF:I b1=some (.cells #[.slice a n c] 38 (0,0))) (iQ:I b8=some (.cells #[.slice t.a t.n t.c,.int .i64 t.bC] 56 (0,0))) (CX:I ev=some (.cells #[.int .i64 (k:Int)] 3 (0,0))),Wx Tryz.prog 169 [ptr b1,ptr b8,ptr ev] I (fq t.ns k).paths.length (atq a9 (fq t.ns k))
 |0,k,h,_,_,_,_,_,_,_,_,_,_,_,_,_,_,_,_,_=>absurd h (ng _)
 |m+1,k,Nr,ae,I,aq,a9,a,n,c,rI,cS,Od,gy,b1,b8,ev,jF,iQ,CX=>by
  intro y R ls uS kv dQ M0 oW iT;have Up:=aq.n;refine BU [4] aY Tryz.func169 rfl rfl rfl ?_;intro B ay;have xu:∀ (I1:aH) (M:List aE),(∀ b o,I b=some o->I1 b=some o)->cR I1 M ⟨b1,0,none⟩ 1 [.slice a n c]:=λI1 M de=>⟨rfl,_,_,_,.inl (de _ _ jF),rfl,rfl⟩;have vJ:∀ (I1:aH) (M:List aE),(∀ b o,I b=some o->I1 b=some o)->cR I1 M ⟨b8,0,none⟩ 2 [.slice t.a t.n t.c,.int .i64 t.bC]:=λI1 M de=>⟨rfl,_,_,_,.inl (de _ _ iQ),rfl,rfl⟩;have ats:∀ (I1:aH) (M:List aE),(∀ b o,I b=some o->I1 b=some o)->cR I1 M ((⟨b8,0,none⟩:Addr).add 0) 1 [.slice t.a t.n t.c]:=λI1 M de=>⟨rfl,_,_,_,.inl (de _ _ iQ),rfl,rfl⟩;have NQ:∀ (I1:aH) (M:List aE),(∀ b o,I b=some o->I1 b=some o)->cR I1 M ⟨ev,0,none⟩ 1 [.int .i64 (k:Int)]:=λI1 M de=>⟨rfl,_,_,_,.inl (de _ _ CX),rfl,rfl⟩;have be:=ze af ae;have ms:=aP.afp (fq t.ns k);have att:(fq t.ns k).paths[0]?=some []:=by rw[be,aP.Gj];rfl
  refine bW.mk λgR Fo yU=>?_;refine aO.mk [.func (.yield y) #[] #[]] (dr (cs:=[.func (.yield y) #[] #[]]) (k:=0) (n:=1) (.head _) (by simp)) ?_;refine aO.mk _ (xu _ _ oW) ?_;refine bD.yield rfl (by simp) rfl rfl ?_;have aC:=kv 0 ms [.slice a n c] dQ M0 oW ⟨[],_,att,rfl,a,c,by rw[dF,rI],by rw[dF,rI];exact Od.mono oW,by rw[dF,rI];exact gy⟩ iT;refine B4.mk M0 [_] _ (PD _ _).symm aC ?_;rintro v eA dD gq (⟨rfl,m3⟩ | ⟨rfl,ab⟩)
  rotate_left
  ·refine aX.mk (λ_=>?_) (λh=>by simp at h);exact⟨_,_,.sub (xd _ _) .refl,.inr ab⟩
  refine aX.mk (λh=>by simp at h) (λ_=>?_);have Gk:∀ b o,I b=some o->eA b=some o:=λb o h=>gq _ _ (oW _ _ h);obtain⟨aM,bB,atu⟩:=aq.a'.row al.cL (j:=k) (by omega) ae;have gm:=aq.ns _ (bJ ae);have fj:=gm.aG;have pY:=gm.a'.cap;refine aO.mk _ (ats _ _ Gk) ?_;refine aO.mk _ (NQ _ _ Gk) ?_;refine bm.mk aM k bB rfl (by omega) ?_;refine aO.mk _ (((atu _).mono Gk).part (k:=8) (m:=1) (by decide)) ?_;have DC:gR ∉ M0.map (·.num):=λhm=>by obtain⟨x,ab,e⟩:=cP.1 hm;exact yU x ab e
  refine dt.uJ (ι:=Nat×Nat×aH×List aE) (λx=>{ bo:=[(1,.val (ptr b1)),(2,.val (ptr b8)),(3,.val (ptr ev)),(4,.val (ptr gR)),(17,.val (.slice t.ns[k].b0 t.ns[k].aG t.ns[k].ch)),(18,.val (.int .i64 t.ns[k].aG)),(19,.val (.int .i64 (x.1:Int)))],cH:=x.2.2.1,dd:=x.2.2.2 }) (λx=>x.1<=t.ns[k].aG/\(∀ b o,I b=some o->x.2.2.1 b=some o)/\x.2.2.1 gR=some (.cells #[.func (.yield y) #[] #[]] 210 (0,0))/\R x.2.1 x.2.2.1 x.2.2.2/\x.2.1<=(fq t.ns k).paths.length/\(fq t.ns k).paths.drop x.2.1=aP.s9 x.1 ((t.ns[k].au.map (fq t.ns)).drop x.1)) (λx=>t.ns[k].aG-x.1) ?_ ?_;·intro eF;have afu:eA gR=none:=eF.d _ (rj _ (.head _));refine⟨(0,1,ins eA gR _,dD),⟨dp _,λb o h=>lz afu _ _ (Gk _ _ h),n8 ..,uS _ _ _ _ (lz afu) m3,by simp only;omega,?_⟩,.perm (PD _ _) (.mP rfl DC .refl),rh,.nil⟩;simp only[qp];rw[be,aP.Gj];rfl
  rintro⟨i,vz,J,M1⟩⟨hi,a5,qe,h',FB,ie⟩;simp only at hi a5 qe h' FB ie;refine aX.mk (λh=>?_) (λh=>?_)
  rotate_left
  ·have c0:¬ (i:Int)<(t.ns[k].aG:Int):=dv h;have aI:(t.ns[k].au.map (fq t.ns)).drop i=[]:=lW (by rw[bx];omega);rw[aI,aP.Oc,Eh]at ie;have:vz=(fq t.ns k).paths.length:=by omega
   subst this;exact⟨_,_,.refl,.inl h'⟩
  have aZ:i<t.ns[k].aG:=by have:(i:Int)<(t.ns[k].aG:Int):=cJ h;omega
  have cy:i<t.ns[k].au.length:=by omega
  obtain⟨ac,atv,FA⟩:=gm.a'.one aZ cy;have AU:=ly af k ae _ (bJ cy);obtain⟨q,aL⟩:=eG AU.1;have aw0:q<k:=by omega
  rw[aL]at FA;have A':(t.ns[k].au.map (fq t.ns)).drop i=fq t.ns q::(t.ns[k].au.map (fq t.ns)).drop (i+1):=by rw[fg (by rw[bx];exact cy),fW,aL]
  rw[A',aP.Ob]at ie;refine bm.mk ac i atv rfl aZ ?_;refine aO.mk _ ((FA _).mono a5) ?_;refine cT.Hh (λi=>Nat.beq i 0) aY rfl rfl rfl ?_;refine aO.mk _ (vJ _ _ a5) ?_;refine aO.mk _ (xu _ _ a5) ?_;refine aO.mk _ (xu _ _ a5) ?_;refine aO.mk _ (xu _ _ a5) ?_;refine OM.mk n n rfl rfl (b' _) Od.cap.1 ?_;refine bW.mk λb9 m8 uk=>?_;intro G fA;refine jC.atr aY rfl (e:=3) rfl rfl rfl rfl (Od.mono a5) gy (NC (fA _ (by simp[Op.operands,Call.operands])) rfl) (b9:=b9) (cs:=[.int .i64 (i:Int)]) (NC (fA _ (by simp[Op.operands,Call.operands])) rfl) rfl rfl (.head _) (by omega) (by show(n+1)*8<=_;omega) ?_;intro os A6 adi b4;refine a8.xD [] _ _ (.refl _) (afq t q (os.a.map λg=>⟨g,0,none⟩) os.n os.c) ?_;rintro v cA oM cO sq⟨fF,fz,l6,rfl,yL,yM,Oe,-,rfl⟩;have afv:∀ b o,I b=some o->cA b=some o:=λb o h=>cO _ _ (a5 _ _ h);have DD:∀ b o,cA b=some o->hs cA os 3 b=some o:=xp (M:=[]) λx ab=>sq x (by
   simp only[dF]at ab;simp[ab])
  have k9:∀ b o,I b=some o->hs cA os 3 b=some o:=λb o h=>DD _ _ (afv _ _ h);have atw:iA a9++[.int .i64 (i:Int)]=iA (a9++[(i:Int)]):=by simp[iA]
  rw[atw]at b4;have atx:(a9++[(i:Int)]).length=os.n:=by rw[cr,od];omega
  have x2:=aft af hk m q (by omega) (by omega) (aq.mono k9) (a9:=a9++[(i:Int)]) (a:=os.a.map λg=>⟨g,0,none⟩) (n:=os.n) (c:=os.c) atx (by omega) (Dy b4 (by omega)) (λh=>by omega) (DD _ _ yL) (DD _ _ yM) (DD _ _ Oe);refine cT.K4 (A:=wu) wu.cons aY rfl rfl rfl (I1:=hs cA os 3) (M1:=M1) (.sub ((tA _ _).append_left _) (Bo λg aw=>(adi g aw).2)) x2 (λk vs I h aL=>by
    obtain⟨p,v,-,rfl,-⟩:=aL;rfl) (λj I M=>R (vz+j) I M) (λex I M=>ex=.ret/\ls I M) (λk I I' M h aV=>uS _ _ _ _ h aV) (uS _ _ _ _ (λb o h=>DD _ _ (cO _ _ h)) h') ?_ ?_ ?_
  ·rintro j ai vs I' M' g0⟨p,v,aJ,rfl,Da⟩rz l B ay hg;refine aO.mk [.func (.yield y) #[] #[]] ⟨rfl,_,_,_,.inl (g0 _ _ (DD _ _ (cO _ _ qe))),rfl,rfl⟩ ?_;refine bD.yield rfl (by simp) rfl rfl ?_;have e5:(fq t.ns k).paths[vz+j]?=some ((i:Int)::p):=by rw[<-mO,ie,ri (by rw[bx];exact ai),iB,aJ];rfl
   have F9:=(hG.1 e5).1;have aC:=kv (vz+j) F9 [v] I' M' (λb o h=>g0 _ _ (k9 _ _ h)) ⟨_,v,e5,rfl,by rw[dW,qG]at Da;exact Da⟩ rz;refine B4.mk M' [] _ (by simp) aC ?_;rintro w lu rB kX (⟨rfl,h⟩ | ⟨rfl,h⟩);·refine aX.mk (λh=>by simp at h) (λ_=>?_);exact⟨_,_,.perm (by simp) .refl,h⟩
   ·refine aX.mk (λ_=>?_) (λh=>by simp at h);exact⟨_,_,.perm (by simp) .refl,rfl,h⟩
  ·intro I' M' g0 rz;refine bd.mk _ (c8 (i:=i) (by omega)) ?_;intro _;refine⟨(i+1,vz+(fq t.ns q).paths.length,I',M'),⟨⟨aZ,λb o h=>g0 _ _ (k9 _ _ h),g0 _ _ (DD _ _ (cO _ _ qe)),rz,?_,?_⟩,by simp only;omega⟩,.refl,rh,.nil⟩
   ·have:=congrArg List.length ie;rw[pF,cr,bx]at this;have:=(fq t.ns q).afp;simp only;omega
   ·simp only;rw[<-zA,ie,Hn (by rw[bx])]
  ·rintro ex I' M' g0⟨rfl,h⟩;exact⟨by simp,_,_,.refl,.inr h⟩
structure gJ where
 rule:Nat
 path:List Int
 a:Option Addr
 c:Nat
def gJ.cells(x:gJ):List Value:=[.int .i64 x.rule,.slice x.a x.path.length x.c]
def gJ.cL(x:gJ):x.cells.length=2:=rfl
structure gJ.ok(I:aH)(x:gJ):Prop where
 a':cI I x.a x.path.length x.c 1 8 (iA x.path)
def gJ.ok.mono{x:gJ}(h:x.ok I)(bA:∀ b o,I b=some o->I' b=some o):x.ok I':=⟨h.a'.mono bA⟩
def gJ.jf(x:gJ):Nat×List Int:=(x.rule,x.path)
def jQ:Nat->List a3->List (Nat×List Int)
 |_,[]=>[]| i,d::ds=>(bI d.t).paths.map (λp=>(i,p))++jQ (i+1) ds
def UR:∀ (ds:List a3) (d:a3) (i:Nat),jQ i (ds++[d])=jQ i ds++(bI d.t).paths.map (λp=>(i+ds.length,p))
 |[],d,i=>by simp[jQ]
 |e::ds,d,i=>by rw[pN,jQ,jQ,UR ds d (i+1),dW,et,show i+1+ds.length=i+(ds.length+1) by omega]
def aty(l:List aT):(l.flatMap aT.c2).length=(l.map λc=>c.c2.length).sum:=by rw[yi]
def afw:∀ (i:Nat) (l:List aP),(aP.s9 i l).length=(l.map λc=>c.paths.length).sum
 |_,[]=>by rw[aP.Oc];rfl
 |i,c::l=>by rw[aP.Ob,cr,bx,afw (i+1) l];rfl
def atz(ns:List al):∀ T:aT,(T.bare ns).paths.length=T.c2.length:=by
 intro T
 induction T using aT.ind with
 |h k ks aQ=>rw[aT.nt,aP.Gj,aT.mL,et,afw,cr,aty,gu,od];congr 2;exact fV λc ao=>aQ c ao
def atA(h:g' t):(bI t).paths.length<=t.ns.length:=by obtain⟨T,aa,ad,ak,aK,bz⟩:=h.Gd;rw[ak,atz];exact bz
def J9:∀ (ds:List a3) (i:Nat),(∀ d∈ds,right d.t=true)->(jQ i ds).length<=(ds.map λd=>d.t.ns.length).sum
 |[],_,_=>b' _| d::ds,i,h=>by have aa:=atA (jv.1 (h d (.head _)));have ad:=J9 ds (i+1) λe he=>h e (.tail _ he);rw[jQ,cr,bx,b5,hj];omega
def atB(ds:List a3)(n:Nat):((ds.take n).map λd=>d.t.ns.length).sum<=(ds.map λd=>d.t.ns.length).sum:=by
 conv=>rhs;rw[<-pM n ds,cM,oT]
 omega
def afx(be:e2 I az)(aw:g.ok I)(ag:(g.ds.map λd=>d.t.ns.length).sum<=1048576):Spec Tryz.prog 51 [g.val] I [] λv I' M'=>(∀ b o,I b=some o->I' b=some o) /\
  ∃ (os:aR) (L:List gJ),v=os.val/\os.ok 2 (L.flatMap gJ.cells)/\(∀ x∈L,x.ok I')/\M'=os.ar 77/\L.map gJ.jf=if c6 az g=0 then jQ 0 g.ds else []:=by
 refine bV [3,4] aY Tryz.func51 rfl rfl rfl ?_;intro B ay;have iG:=aw.n;have hA:=aw.a'.cap;refine a8.mk [] [] _ (.refl _) (Lz be aw) ?_;rintro v J N -⟨rfl,a5,rfl⟩;refine aX.mk (λh=>?_) (λh=>?_)
 ·have hm:c6 az g≠0:=by have:(!decide (c6 az g=0))=true:=h;simpa using this
  refine⟨_,_,.refl,a5,h2,[],rfl,k1 2,(λx ab=>by cases ab),rfl,?_⟩;rw[bN hm];rfl
 have hm:c6 az g=0:=by have:(!decide (c6 az g=0))=false:=h;simpa using this
 have af:∀ d∈g.ds,right d.t=true:=λd ah=>by have:=fS.1 (JE.1 hm).2.1 d ah;rw[cB]at this;exact(Uk.1 this.2).1
 refine bW.mk λev CX afr=>?_;refine dt.inv (ι:=Nat×aR×List gJ×aH) (λx=>{ bo:=[(1,.ref 1 0),(3,.val (ptr ev)),(11,.val (.slice g.a g.n g.c)),(12,.val (.int .i64 g.n)),(13,.val (.int .i64 (x.1:Int)))],cl:=[(1,[.slice g.a g.n g.c])],cH:=x.2.2.2,dd:=⟨ev,.cells #[x.2.1.val] 74 (0,0)⟩::x.2.1.ar 77 }) (λx=>x.1<=g.n/\(∀ b o,I b=some o->x.2.2.2 b=some o)/\x.2.1.ok 2 (x.2.2.1.flatMap gJ.cells)/\(∀ y∈x.2.2.1,y.ok x.2.2.2)/\x.2.2.1.map gJ.jf=jQ 0 (g.ds.take x.1)) (λx=>g.n-x.1) ?_ ?_
 ·exact⟨(0,h2,[],J),⟨dp _,a5,k1 2,(λy aC=>by cases aC),rfl⟩,.refl,hx,.cons rfl (.nil)⟩
 rintro⟨i,os,L,K⟩⟨hi,ek,b4,bY,nv⟩;simp only at hi ek b4 bY nv;refine aX.mk (λh=>?_) (λh=>?_)
 rotate_left
 ·have c0:¬ (i:Int)<(g.n:Int):=dv h;refine aO.mk [os.val] (dr (cs:=[os.val]) (k:=0) (n:=1) (T:=74) (.head _) (by simp)) ?_;refine⟨_,_,.sub (tA _ _) .refl,ek,os,L,rfl,b4,bY,rfl,?_⟩;rw[bT hm,nv,fC (by omega)]
 have aZ:i<g.n:=by have:(i:Int)<(g.n:Int):=cJ h;omega
 have cy:i<g.ds.length:=by omega
 obtain⟨aM,bB,bp⟩:=aw.a'.row a3.cL aZ cy;have ah:=aw.ds _ (bJ cy);have AK:=af _ (bJ cy);have m1:g.ds.take (i+1)=g.ds.take i++[g.ds[i]]:=gj cy;have F0:=J9 (g.ds.take (i+1)) 0 λd ah=>af d (sA ah);have r0:=atB g.ds (i+1);rw[m1,UR,cr,bx,<-nv,bx]at F0;rw[m1]at r0;have hk:=ah.t.n;obtain⟨gV,hn⟩:=l4 AK;obtain⟨r,en⟩:=eG gV;have aw1:g.ds[i].t.ns.length<=1048576:=by rw[cM,oT]at r0;simp only[b5,hy,hj,zW]at r0;omega
 generalize uU:g.ds[i]=d at *;obtain⟨Jl,⟨ns,z8,yf,z9,jM⟩⟩:=d;refine bm.mk aM i bB rfl aZ ?_;refine aO.mk _ ((bp _).mono ek) ?_;refine bW.mk λgR Fo yU=>?_;refine ck.mk [] (⟨ev,.cells #[os.val] 74 (0,0)⟩::os.ar 77) #[.int .i64 0] 3 rfl rfl (bK rfl) rfl ?_;refine a8.xD [] _ _ (.refl _) (afq ⟨ns,z8,yf,z9,jM⟩ jM none 0 0) ?_;rintro v cA oM cO sq⟨fF,fz,l6,rfl,yL,yM,Oe,-,rfl⟩;have qe:cA gR=none:=sq _ (.head _);have y':∀ b o,cA b=some o->ins cA gR (.cells #[.int .i64 (i:Int)] 3 (0,0)) b=some o:=lz qe;have afy:∀ b o,I b=some o->ins cA gR (.cells #[.int .i64 (i:Int)] 3 (0,0)) b=some o:=λb o h=>y' _ _ (cO _ _ (ek _ _ h));have kS:=ah.t.mono afy;have US:ns.length=yf:=hk;have eH:r<ns.length:=by have aw2:jM<(ns.length:Int):=hn;have aw3:jM=(r:Int):=en;omega
 rw[show jM=(r:Int)from en]at Oe;have x2:=aft AK (by omega) (r+1) r (BC _) eH kS (a9:=[]) (a:=none) (n:=0) (c:=0) rfl (by omega) ⟨rfl,⟨b' _,by omega⟩,.inl rfl⟩ (λ_=>rfl) (y' _ _ yL) (y' _ _ yM) (y' _ _ Oe);have ir:bI ⟨ns,z8,yf,z9,jM⟩=fq ns (r:Int):=by unfold bI;rw[show jM=(r:Int)from en]
 have aw4:L.length+(fq ns (r:Int)).paths.length<=1048576:=by have aa:L.length+(bI ⟨ns,z8,yf,z9,jM⟩).paths.length<=_:=F0;rw[ir]at aa;omega
 refine cT.K4 (A:=wu) wu.cons aY rfl rfl rfl (I1:=ins cA gR (.cells #[.int .i64 (i:Int)] 3 (0,0))) (M1:=⟨ev,.cells #[os.val] 74 (0,0)⟩::os.ar 77) (.mP rfl (by simp) .refl) x2 (λk vs I h aL=>by
   obtain⟨p,v,-,rfl,-⟩:=aL;rfl) (λj I' M'=>∃ (eC:aR) (jL:List gJ),M'=⟨ev,.cells #[eC.val] 74 (0,0)⟩::eC.ar 77/\eC.ok 2 (jL.flatMap gJ.cells)/\(∀ y∈jL,y.ok I')/\jL.map gJ.jf=jQ 0 (g.ds.take i)++((fq ns (r:Int)).paths.take j).map λp=>(i,p)) (λex I M=>False)
  (λk I I' M h ⟨eC,jL,aa,ad,ak,aK⟩=>⟨eC,jL,aa,ad,λy aC=>(ak y aC).mono h,aK⟩) ⟨os,L,rfl,b4,λy aC=>(bY y aC).mono (λb o h=>y' _ _ (cO _ _ h)),by simpa using nv⟩ ?_ ?_ (λex I' M' _ h=>h.elim)
 ·rintro j ai vs I' M' g0⟨p,v,aJ,rfl,a,c,rfl,afz,gy⟩⟨eC,jL,rfl,ig,oj,zi⟩l B ay hg;rw[hX]at afz gy;simp only[hX];have bz:=congrArg List.length zi;rw[bx,cr,bx,fO,<-nv,bx]at bz;have cu:=ig.len;rw[gO _ 2 gJ.cL]at cu;refine aO.mk [eC.val] (dr (cs:=[eC.val]) (k:=0) (n:=1) (T:=74) (.head _) (by simp)) ?_;refine aO.mk [.int .i64 (i:Int)] ⟨rfl,_,_,_,.inl (g0 _ _ (n8 ..)),rfl,rfl⟩ ?_;refine bW.mk λb9 m8 uk=>?_;refine bD.k5 aY rfl (by simp) (e:=77) rfl rfl rfl eC ig rfl (cs:=[.int .i64 (i:Int),.slice a p.length c]) rfl rfl rfl [_] [] (by rw[dF];rfl) (by omega) (by show(eC.n+1)*32<=_;omega) ?_;intro dL aa ad ak;refine ck.mk [] (dL.ar 77++[]) #[eC.val] 74 rfl rfl (bK rfl) rfl ?_;refine⟨_,_,.ma (by rw[dF];rfl),dL,jL++[⟨i,p,a,c⟩],rfl,?_,?_,?_⟩
  ·rw[fI,nQ];exact ak
  ·intro y aC;rcases cv.1 aC with aC | aC
   ·exact oj y aC
   ·rw[eN.1 aC];exact⟨afz⟩
  ·obtain⟨tz,h3⟩:=hG.1 aJ;rw[cM,zi,gj tz,cM,h3,dW];rfl
 ·rintro I' M' g0⟨eC,jL,rfl,ig,oj,zi⟩;refine bd.mk _ (c8 (i:=i) (by omega)) ?_;refine⟨(i+1,eC,jL,I'),⟨⟨aZ,λb o h=>g0 _ _ (afy _ _ h),ig,oj,?_⟩,by simp only;omega⟩,.refl,hx,.cons rfl (.nil)⟩;simp only;rw[zi,m1,UR,fC (b' _),<-ir,fO,du,pA (by omega)]
def afA(aq:t.ok I)(af:right t=true)(aD:t.n<=1099511627776):vl t:=λd ah=>by have aV:=jv.1 af;obtain⟨j,ai,rfl⟩:=hO ah;obtain⟨T,aa,ad,-,aK⟩:=aV.lt ai;have ae:=ad.Ba;rw[aa,gr ai]at ae;have bz:=Nw aK λx ab=>ad.lt x ab;have cu:=F7 T;have ep:=Bd T.sub;have fa:=(aq.ns _ (bJ ai)).aG;have dR:=aq.n;rw[ae]at fa;simp only[e3,bx]at fa;omega
def J'(hm:c6 az g=0)(aD:∀ d∈g.ds,d.t.n<=549755813888):Uz g:=⟨λd ah=>pq hm ah,aD⟩
section
variable{X:c3}{F:Fr}{C:dN}{I:aH}{M:List aE}{o:Oper}
def jC.atC(aN:cW X.P X.E){t:Nat}(aA:o.op=.call { callee:=.builtin .append,args:=#[s,x],argTypes:=#[t,t] })
 (aq:X.E t=some db) (dk:db.bP=.slice e) (he:X.E e=some aF)
 (av:bH F s=.val (.slice sa n c)) (m0:n<=c) {xa:Option Addr} (ab:bH F x=.val (.slice xa 0 c'))
  (h:K (.val (.slice sa n c)) I M):jC X o F C I M K:=by
 refine⟨fun β a w Q aV=>?_⟩;obtain⟨inf,z,hi,ft,hW,im,kb⟩:=(aN _ _ he).inf;obtain⟨g3,iU,kS⟩:=(aN _ _ aq).fs;have oO:g3=.slice e:=by rw[dk]at kS;cases g3<;>simp_all[fr]
 subst oO;have fb:=Xe (w:=w) t t o.type e inf iU iU (λk cZ=>by cases cZ) hi (sa:=sa) m0 (.inl ⟨xa,c',rfl⟩);have es:=dj aV.an av;have ex:=dj aV.an ab;refine iN (by rw[aA];simp) (v:=.slice sa n c) (w':=w) ?_ ⟨_,.val (.slice sa n c),I,M,rfl,rfl,aV,h,rfl⟩;unfold execOp;simp only[aA,resolve,invoke,builtin,cp,da,bZ,rm,b5,hy,es,ex,fb]
def jC.Ka(aN:cW X.P X.E){t:Nat}(aA:o.op=.call { callee:=.builtin .append,args:=#[s,x],argTypes:=#[t,t] })
 (aq:X.E t=some db) (dk:db.bP=.slice e) (he:X.E e=some aF)
  (os:aR) (bg:os.ok aF.size xs) (av:bH F s=.val os.val)
 (ab:bH F x=.val (.slice sa m c')) (ax:cb.length=m*aF.size) (aD:0<m->∃ aM,sa=some aM/\cR I M aM (m*aF.size) cb) (aa:fK cb=true)
  (a9 post:List aE) (ba:M=a9++(os.ar e++post)) (b1:os.n+m<=maxLen) (b8:(os.n+m)*aF.bytes<=140737488355328)
  (k:∀ br:aR,br.n=os.n+m->br.ok aF.size (xs++cb)->K (.val br.val) I (a9++(br.ar e++post))):jC X o F C I M K:=by
 by_cases ay:m=0
 ·subst ay;have mw:cb=[]:=jl (by simpa using ax);subst mw;refine jC.atC aN aA aq dk he (sa:=os.a.map λg=>⟨g,0,none⟩) (n:=os.n) (c:=os.c) av ?_ ab ?_
  ·cases a7:os.a with
   |none=>obtain⟨ew,e'⟩:=bg.nil a7;omega
   |some g=>exact(bg.cap g a7).2.1
  ·have:=k os rfl (by rw[dF];exact bg);rw[ba];exact this
 obtain⟨aM,rfl,bp⟩:=aD (by omega);refine jC.adQ aN aA aq dk he os bg av ab (by omega) bp aa (Mr:=a9++post) ?_ b1 b8 (λbr=>a9++(br.ar e++post)) (λbr=>?_) λbr aa _ ad=>k br aa ad
 ·rw[ba];exact yg _ _ _
 ·exact(yg _ _ _).symm
end
structure atD(az:List Int)(g:cU)(u:Nat)(X:aP)(I':aH)(h:cU)(b:Bool):Prop where
 is:b=xq az g u X
 ok:b=true->h.ok I'/\h.n=g.n/\∃ bn,k' bn X/\bn.ns.length=bn.n/\h.ds.map a3.a4=(eR g.ds u bn).map a3.a4/\c6 az h=0/\∃ r,pg az h r/\r.2=0
def UT(hw:J1 az g F)(fv:∀ d∈g.ds,d.t.ns.length=d.t.n)(aD:∀ d∈g.ds,d.t.n<=549755813888)(hu:u<g.ds.length){x:aP}(cc:(bI g.ds[u].t).go p=some S)(ab:N6 g S x)(qS:dM x<=549755813888)(cG:h.ok J)(q1:h.n=g.n)(eh:h.ds.map a3.a4=(eR g.ds u bn).map a3.a4)(dz:k' bn (lN g u p x)) :
  bn.ns.length=bn.n/\(∀ e∈h.ds,vl e.t)/\(c6 az h=0\/c6 az h=40)/\xq az g u (lN g u p x)=decide (c6 az h=0)/\∀ r,pg az h r->(r.2=0 ↔ c6 az h=0):=by
 have nZ:g.ds.getD u kH=g.ds[u]:=by simp[bS,hu]
 have US:bn.ns.length=bn.n:=by
  have hm:=congrArg (λl:List a3=>l[u]?) eh;simp only[iB]at hm;have HB:u<h.ds.length:=by have:=cG.n;have:=hw.n;omega
  rw[NX hu,dg HB]at hm;have hm:=eX hm;have aa:=(cG.ds _ (bJ HB)).t.n;have ad:h.ds[u].t.a4=bn.a4:=congrArg a3.t hm;have ak:h.ds[u].t.ns.length=bn.ns.length:=by have:=congrArg (λt:bk=>t.ns.length) ad;simpa[bk.a4]using this
  have aK:h.ds[u].t.a4.n=bn.a4.n:=congrArg bk.n ad;have aK:h.ds[u].t.n=bn.n:=aK;omega
 obtain⟨s1,s2,atE⟩:=asL hw hu cc ab dz US q1 cG.n eh;refine⟨US,λe he=>?_,s1,s2,atE⟩;have bz:e.a4∈(eR g.ds u bn).map a3.a4:=by rw[<-eh];exact cP.2 ⟨e,he,rfl⟩
 obtain⟨cZ,rq,cu⟩:=cP.1 bz;have ep:e.t.a4=cZ.t.a4:=(congrArg a3.t cu).symm;have fa:right cZ.t=true/\cZ.t.n<=1099511627776:=by
  obtain⟨i,hi,rfl⟩:=hO rq;by_cases aF:i=u;·subst aF;have dR:=NX (y:=bn) hu;rw[dg hi]at dR;rw[eX dR];refine⟨dz.right (ae7 hw (p:=p) hu ab.ok).1,?_⟩;have qB:=congrArg List.length dz.a4;rw[bx,Bq]at qB;unfold lN at qB;rw[nZ]at qB;have Sj:=UG ((bI g.ds[i].t).put p x);have aw5:=J4 (X:=x) p _ cc;have aw6:=DA (pq hw.m (bJ hu));have aw7:=fv _ (bJ hu);have aw8:=aD _ (bJ hu);show bn.n<=_;omega
  ·have dR:=Ui (ds:=g.ds) (y:=bn) aF;have eo:i<g.ds.length:=by rw[sb]at hi;exact hi
   rw[dg hi,dg eo]at dR;rw[eX dR];exact⟨pq hw.m (bJ eo),by have:=aD _ (bJ eo);omega⟩
 refine afA (cG.ds e he).t ?_ ?_
 ·rw[<-wQ,ep,wQ];exact fa.1
 ·have dR:e.t.a4.n=cZ.t.a4.n:=congrArg bk.n ep;have dR:e.t.n=cZ.t.n:=dR;omega
def UU(hu:u<g.ds.length)(cc:(bI g.ds[u].t).go p=some S)(x:aP):vQ g (u:Int) p x=some (lN g u p x):=by
 have nZ:g.ds.getD u kH=g.ds[u]:=by simp[bS,hu]
 unfold vQ sd lN;rw[bT (by omega),hH,nZ,cc];rfl
def s8.mono{L:List bk}(h:s8 I a c L)(bA:∀ b o,I b=some o->I' b=some o):s8 I' a c L:=⟨h.a'.mono bA,λt aq=>⟨(h.ok t aq).1.mono bA,(h.ok t aq).2⟩,h.n,h.l⟩
def UW(L:List bk):(L.flatMap bk.cells).length=L.length*2:=gO _ 2 (λ_=>rfl) L
def Bs:∀ L:List bk,fK (L.flatMap bk.cells)=true
 |[]=>rfl| t::L=>by rw[iS];show fK (.slice t.a t.n t.c::.int .i64 t.bC::L.flatMap bk.cells)=true;have:=Bs L;simpa[fK,Value.oneCell']using this
def DE(w:Int):Nat:=if w=1 then 57 else 56
def atF(be:e2 I az)(w:Int){L:List bk}(bY:s8 I a c L):Spec Tryz.prog (DE w) [.slice a L.length c] I M0 (nw (some (lP (g7 w) (L.map bI))) I M0):=by
 unfold DE g7;by_cases h:w=1
 ·rw[bT h,bT h];exact afo be bY
 ·rw[bN h,bN h];exact afn be bY
def Bt(x:BitVec 64):fm (x.toNat:Int):=⟨Ih _,by have:=x.isLt;omega⟩
def afB(be:e2 I az)(hw:J1 az g F)(aw:g.ok I)(aD:∀ d∈g.ds,d.t.n<=549755813888)(yn:g.n<=1000000)(hu:u<g.ds.length)(aJ:cI I pa pn pc 1 8 (iA path))(cc:(bI g.ds[u].t).go path=some S)
 {L:List bk} (bY:s8 I b0 ch L) (Gl:(L.map (·.n)).sum<=274877906944/\L.length<=274877906944) {bF:Nat} (e5:bF+1<L.length) {s:bj} {x:aP} (ab:x=lP (g7 w) ((L.take bF).map bI++ht s::(L.drop (bF+2)).map bI)) (xo:N6 g S x) (qS:dM x<=549755813888)
  {b1 b8 ev gR dU:Nat} (aa:I b1=some (.cells #[.slice b0 L.length ch] 69 (0,0))) (ad:I b8=some (.cells #[.int .i64 bF] 3 (0,0))) (ak:I ev=some (.cells #[.func (.func (DE w)) #[] #[]] 85 (0,0))) (aK:I gR=some (.cells #[.slice g.a g.n g.c] 30 (0,0))) (bz:I dU=some (.cells #[.int .i64 u,.slice pa pn pc] 77 (0,0))) :
  Spec Tryz.prog 165 [s.val,ptr b1,ptr b8,ptr ev,ptr gR,ptr dU] I [] λv I' M'=>(∀ b o,I b=some o->I' b=some o)/\M'=[]/\∃ (h:cU) (b:Bool),v=.tuple #[h.val,.bool b]/\atD az g u (lN g u path x) I' h b:=by
 refine bV [] aY Tryz.func165 rfl rfl rfl ?_;intro B ay;have y3:=bY.a'.len;have aw9:=bY.a'.cap;have LX:∀ {J:aH} (M:List aE),(∀ b o,I b=some o->J b=some o)->cR J M ⟨b1,0,none⟩ 1 [.slice b0 L.length ch]:=λM a5=>⟨rfl,_,_,_,.inl (a5 _ _ aa),rfl,rfl⟩;have K8:∀ {J:aH} (M:List aE),(∀ b o,I b=some o->J b=some o)->cR J M ⟨b8,0,none⟩ 1 [.int .i64 bF]:=λM a5=>⟨rfl,_,_,_,.inl (a5 _ _ ad),rfl,rfl⟩;have atG:∀ {J:aH} (M:List aE),(∀ b o,I b=some o->J b=some o)->cR J M ⟨ev,0,none⟩ 1 [.func (.func (DE w)) #[] #[]]:=λM a5=>⟨rfl,_,_,_,.inl (a5 _ _ ak),rfl,rfl⟩;have atH:∀ {J:aH} (M:List aE),(∀ b o,I b=some o->J b=some o)->cR J M ⟨gR,0,none⟩ 1 [.slice g.a g.n g.c]:=λM a5=>⟨rfl,_,_,_,.inl (a5 _ _ aK),rfl,rfl⟩;have CH:∀ {J:aH} (M:List aE),(∀ b o,I b=some o->J b=some o)->cR J M ⟨dU,0,none⟩ 2 [.int .i64 u,.slice pa pn pc]:=λM a5=>⟨rfl,_,_,_,.inl (a5 _ _ bz),rfl,rfl⟩;have Bu:=bY.a'.JD (f:=bk.cells) (λ_=>rfl) (lo:=0) (hi:=bF) (by omega) (by omega) rfl;have uw:=bY.a'.JD (f:=bk.cells) (λ_=>rfl) (lo:=bF+2) (hi:=L.length) (by omega) (by omega) rfl;have aI:(if ch=0 then b0 else b0.map (·.add (0*2)))=b0:=by
  split;·rfl
  ·cases b0 with
   |none=>rfl| some aM=>simp[Addr.add]
 rw[aI,qp,Ab,Ab]at Bu;rw[fC (by simp)]at uw;refine aO.mk _ (LX _ λ_ _ h=>h) ?_;refine aO.mk _ (K8 _ λ_ _ h=>h) ?_;refine jR.mk 0 bF rfl rfl (dp _) (by omega) ?_
 refine bD.wS aY rfl (by simp) (e:=56) rfl rfl rfl h2 (xs:=[]) (k1 2) rfl (sa:=b0) (m:=bF) (c':=ch) rfl (cb:=(L.take bF).flatMap bk.cells) (by rw[UW,fO];show min bF L.length*2=bF*2;omega) (λh=>?_) (Bs _) [] [] rfl (by show 0+bF<=_;omega) (by show(0+bF)*32<=_;omega) ?_
 ·obtain⟨aM,bB,c9,cs,T,an,bA,ao⟩:=Bu.rd.resolve_left (by omega);exact⟨aM,bB,c9,cs,T,an,.inl bA,ao,by rw[UW,fO];show min bF L.length*2=bF*2;omega⟩
 intro nu kx _ DF;have dk:=Td (I:=I) (Bt s.a) (Bt s.b) (Bt s.c) (Bt s.d);refine a8.mk [] _ _ (.refl _) dk ?_;rintro v J N a5⟨-,dC,rfl,dk,xv,Np,rfl⟩;refine bW.mk λOf afC afD=>?_;refine bD.k5 aY rfl (by simp) (e:=56) rfl rfl rfl nu DF rfl (cs:=dC.cells) rfl rfl rfl [] [] rfl (by rw[kx];show 0+bF+1<=_;omega) (by rw[kx];show(0+bF+1)*32<=_;omega) ?_;intro eC jy _ ig;have ig:eC.ok 2 ((L.take bF++[dC]).flatMap bk.cells):=by rw[fI,nQ];exact ig
 have jy:eC.n=bF+1:=by
  rw[jy,kx];show 0+bF+1=_
  omega
 have kw:=be.mono a5;have Og:=bY.mono a5;have kr:k' dC (ht s):=by
  refine⟨?_,?_⟩;·rw[xv];unfold ht;rw[aP.kz];rfl
  ·rw[xv,Np];rfl
 have Dm:=kr.right (J6 s);have vT:=kr.bI (J6 s) (.mk rfl λc ao=>by cases ao);have atI:dC.n=1:=by rw[<-dk.n,xv];rfl
 have yy:∀ dL:aR,dL.n=eC.n+(L.length-(bF+2))->dL.ok 2 ((L.take bF++[dC]).flatMap bk.cells++(L.drop (bF+2)).flatMap bk.cells)->(∀ b o,J b=some o->hs J dL 56 b=some o)->Spec Tryz.prog (DE w) [.slice (dL.a.map λg=>⟨g,0,none⟩) dL.n dL.c] (hs J dL 56) [] (nw (some x) (hs J dL 56) []):=by
  intro dL ot ny bf;rw[<-fI]at ny;have pK:(L.take bF++[dC]++L.drop (bF+2)).length=dL.n:=by simp only[cr,fO,pF,od];omega
  have dB:=Dy (J:=J) (e:=56) (b:=32) ny (by omega);have jX:((L.take bF++[dC]++L.drop (bF+2)).map (·.n)).sum<=(L.map (·.n)).sum+1:=by
   have aa:=N8 L bF e5
   have ad:=congrArg (λl:List bk=>(l.map (·.n)).sum) aa;simp only[cM,oT,b5,hj,hy,zW]at ad |-;omega
  have kX:s8 (hs J dL 56) (dL.a.map λg=>⟨g,0,none⟩) dL.c (L.take bF++[dC]++L.drop (bF+2)):=by
   refine⟨by rw[pK];exact dB,λt aq=>?_,by omega,by omega⟩;rcases cv.1 aq with aq | aq
   ·rcases cv.1 aq with aq | aq
    ·exact⟨(Og.ok t (sA aq)).1.mono bf,(Og.ok t (sA aq)).2⟩
    ·rw[eN.1 aq];exact⟨dk.mono bf,Dm⟩
   ·exact⟨(Og.ok t (AV aq)).1.mono bf,(Og.ok t (AV aq)).2⟩
  have:=atF (M0:=[]) (kw.mono bf) w kX;rw[pK]at this;rw[ab];simpa only[cM,b5,hy,vT,dW,qG]using this
 have uw:=uw.mono a5;have afE:∀ {M:List aE},0<L.length-(bF+2)->∃ aM,(if ch=bF+2 then b0 else b0.map (·.add ((bF+2)*2)))=some aM/\cR J M aM ((L.length-(bF+2))*2) ((L.drop (bF+2)).flatMap bk.cells):=by intro M h;obtain⟨aM,bB,c9,cs,T,an,bA,ao⟩:=uw.rd.resolve_left (by omega);exact⟨aM,bB,c9,cs,T,an,.inl bA,ao,uw.len⟩
 have afF:=uw.len;have eD:IntKind.i64.wrap ((bF:Int)+2)=((bF+2:Nat):Int):=lA (by simp) (by omega);refine cT.Wu (im':=λi=>Nat.blt i 4) aY rfl rfl rfl (ι:=Nat×bk×aH) (λz=>{ bo:=[(4,.val (ptr gR)),(5,.val (ptr dU)),(7,.ref 7 0),(10,.val (ptr z.1)),(11,.val (.bool true))],cl:=[(7,[.slice none 0 0])],cH:=z.2.2,dd:=[⟨z.1,.cells z.2.1.cells.toArray 56 (0,0)⟩] }) (λz=>(∀ b o,I b=some o->z.2.2 b=some o)/\z.2.1.ok z.2.2/\k' z.2.1 x/\eZ x/\jd x) ?_ ?_
 ·refine aO.mk _ (atG _ a5) ?_;refine aO.mk _ (LX _ a5) ?_;refine aO.mk _ (K8 _ a5) ?_;refine bd.mk _ eD ?_;refine jR.mk (bF+2) L.length rfl rfl (by omega) (by omega) ?_;refine⟨?_,?_⟩
  ·intro G fA;refine jC.Ka aY rfl (e:=56) rfl rfl rfl eC ig (sc (fA _ (by simp[Op.operands,Call.operands])) rfl) (sc (fA _ (by simp[Op.operands,Call.operands])) rfl) afF afE (Bs _) [] [] rfl (by unfold maxLen;omega) (by show(eC.n+_)*32<=_;omega) ?_;intro dL ot ny;have Oh:=yy dL ot ny;refine⟨?_,?_⟩
   ·refine a8.pC λeF=>?_;have bf:∀ b o,J b=some o->hs J dL 56 b=some o:=xp (M:=[]) eF.d;refine a8.uF (hs J dL 56) [] [] _ (Bo (λg _=>by simp)) (Oh bf) ?_;rintro v cA N cO -⟨-,rfl,bn,rfl,jN,dz,bg,s6⟩;refine bW.mk λzj afG afH=>?_;refine ck.mk [] [] _ _ rfl rfl (bK rfl) rfl ?_;exact⟨(zj,bn,cA),⟨λb o h=>cO _ _ (bf _ _ (a5 _ _ h)),jN,dz,bg,s6⟩,.refl,hx,.cons rfl (.nil)⟩
   ·refine bW.mk λzj afG afH=>?_;refine eJ.pC λeF=>?_;have bf:∀ b o,J b=some o->hs J dL 56 b=some o:=xp (M:=[]) λy aC=>eF.d _ (.tail _ aC);cases vA:dL.a with
    |none=>have:=(ny.nil vA).1;omega| some ca=>
    have kR:dL.ar 56=[⟨ca,.cells dL.aS.toArray 56 (0,0)⟩]:=by simp[aR.ar,vA]
    have ei:hs J dL 56=ins J ca (.cells dL.aS.toArray 56 (0,0)):=by simp[hs,vA]
    have DC:=Oh bf;rw[ei]at DC bf;refine eJ.O6 ca (.cells dL.aS.toArray 56 (0,0)) [] [⟨zj,.cells #[.slice none 0 0,.int .i64 0] 56 (0,0)⟩] (nw (some x) (ins J ca (.cells dL.aS.toArray 56 (0,0))) []) (by rw[kR];exact .swap _ _ _) (by simp) DC (λv I' M' _ x ab=>by cases ab) ?_;rintro v cA N cO -⟨-,rfl,bn,rfl,jN,dz,bg,s6⟩;refine ck.mk [] [] _ _ rfl rfl (bK rfl) rfl ?_;exact⟨(zj,bn,cA),⟨λb o h=>cO _ _ (bf _ _ (a5 _ _ h)),jN,dz,bg,s6⟩,.refl,hx,.cons rfl (.nil)⟩
  ·refine bW.mk λzj afG afH=>?_;intro G fA;refine jC.Ka aY rfl (e:=56) rfl rfl rfl eC ig (sc (fA _ (by simp[Op.operands,Call.operands])) rfl) (sc (fA _ (by simp[Op.operands,Call.operands])) rfl) afF afE (Bs _) [⟨zj,.cells #[.slice none 0 0,.int .i64 0] 56 (0,0)⟩] [] rfl (by unfold maxLen;omega) (by show(eC.n+_)*32<=_;omega) ?_;intro dL ot ny;have Oh:=yy dL ot ny;refine eJ.pC λeF=>?_;have bf:∀ b o,J b=some o->hs J dL 56 b=some o:=xp (M:=[]) λy aC=>eF.d _ (.tail _ aC);cases vA:dL.a with
   |none=>have:=(ny.nil vA).1;omega| some ca=>
   have kR:dL.ar 56=[⟨ca,.cells dL.aS.toArray 56 (0,0)⟩]:=by simp[aR.ar,vA]
   have ei:hs J dL 56=ins J ca (.cells dL.aS.toArray 56 (0,0)):=by simp[hs,vA]
   have DC:=Oh bf;rw[ei]at DC bf;refine eJ.O6 ca (.cells dL.aS.toArray 56 (0,0)) [] [⟨zj,.cells #[.slice none 0 0,.int .i64 0] 56 (0,0)⟩] (nw (some x) (ins J ca (.cells dL.aS.toArray 56 (0,0))) []) (by rw[kR];exact .swap _ _ _) (by simp) DC (λv I' M' _ x ab=>by cases ab) ?_;rintro v cA N cO -⟨-,rfl,bn,rfl,jN,dz,bg,s6⟩;refine ck.mk [] [] _ _ rfl rfl (bK rfl) rfl ?_;exact⟨(zj,bn,cA),⟨λb o h=>cO _ _ (bf _ _ (a5 _ _ h)),jN,dz,bg,s6⟩,.refl,hx,.cons rfl (.nil)⟩
 rintro⟨zj,bn,cA⟩⟨cO,jN,dz,bg,s6⟩;simp only at cO jN dz;have h0:=be.mono cO;have m6:=aw.mono cO;have h3:=aJ.mono cO;have ir:=dz.bI bg s6;have uc:=dz.right bg;have om:bn.n<=549755813888:=by have aa:=congrArg List.length dz.a4;rw[bx,Bq]at aa;have:=jN.n;omega
 have xw:=UA (M0:=[]) h0 m6 (J' hw.m aD) yn jN uc om (rule:=(u:Int)) h3;rw[ir,UU hu cc]at xw;refine aX.mk (λh=>by cases h) (λ_=>?_);refine aO.mk _ (atH _ cO) ?_;refine aO.mk _ (CH _ cO) ?_;refine aO.mk bn.cells ⟨rfl,_,_,_,.inr ⟨_,.head _,rfl,rfl⟩,rfl,rfl⟩ ?_;refine a8.mk [] _ _ (.refl _) xw ?_;rintro v kF N k9⟨-,rfl,h,t2,rfl,cG,q1,eh,uv,iE,afI⟩;rw[hH]at eh;obtain⟨ew,e',fe,jZ,EE⟩:=UT hw (λd ah=>(aw.ds d ah).t.n) aD hu cc xo qS cG q1 eh uv;refine bX.mk (λ_=>?_) (λh=>by cases h);refine a8.mk [] _ _ (.refl _) (Di (h0.mono k9) cG e') ?_;rintro v zh N qe⟨-,rfl,r,rfl,af⟩;have bf:∀ b o,I b=some o->zh b=some o:=λb o h=>qe _ _ (k9 _ _ (cO _ _ h));refine aX.mk (λbz=>?_) (λbz=>?_)
 ·have bz:¬ r.2=0:=by have:(!decide (r.2=0))=true:=bz;simpa using this
  exact⟨_,_,.sub (gd _) .refl,bf,rfl,⟨[],none,0,0⟩,false,rfl,by rw[jZ,eY λe=>bz ((EE r af).2 e)],λh=>by cases h⟩
 ·have bz:r.2=0:=by have:(!decide (r.2=0))=false:=bz;simpa using this
  have iH:=(EE r af).1 bz;exact⟨_,_,.sub (gd _) .refl,bf,rfl,h,true,rfl,by rw[jZ,iX iH],λ_=>⟨cG.mono qe,q1,t2,uv,ew,eh,iH,r,af,bz⟩⟩
def Gm:∀ {l:List Nat} {x:Nat},x∈l->x<=l.sum
 |y::l,x,h=>by
  rw[hj];rcases eI.1 h with rfl | h;·omega
  ·have:=Gm h;omega
def atJ{x:bk}(ab:x.ok I)(af:right x=true)(w:Int):Spec Tryz.prog 101 [x.val,.int .u8 w] I M0 λv I' M'=>I'=I/\M'=M0/\∃ b,v=.bool b/\b=decide ((bI x).d.k=g7 w):=by
 refine bV [] aY Tryz.func101 rfl rfl rfl ?_;intro B ay;have om:=ab.n;obtain⟨gV,hn⟩:=l4 af;obtain⟨r,en⟩:=eG gV;have eH:r<x.ns.length:=by omega
 obtain⟨aM,bB,bp⟩:=ab.a'.row al.cL (show r<x.n by omega) eH;have ir:=Gg af en eH;have e:(bI x).d.k=x.ns[r].k:=by rw[ir];rfl
 rw[e];generalize x.ns[r]=d at bp;refine bm.mk aM r bB en (by omega) ?_;refine aO.mk _ ((bp _).part (k:=0) (m:=1) (by decide)) ?_;refine aX.mk (λh=>?_) (λh=>?_)
 ·have aa:w=1:=cJ h;exact⟨_,_,.refl,rfl,rfl,_,rfl,by rw[g7,bT aa]⟩
 ·have aa:¬ w=1:=dv h;exact⟨_,_,.refl,rfl,rfl,_,rfl,by rw[g7,bN aa]⟩
structure UX(az:List Int)(g:cU)(u:Nat)(p:List Int)(w bF:Int)(I':aH)(h:cU)(b:Bool):Prop where
 is:b=iK az g u p w bF
 ok:b=true->h.ok I'/\h.n=g.n/\∃ X bn,ur g u p w bF=some X/\k' bn X/\bn.ns.length=bn.n/\h.ds.map a3.a4=(eR g.ds u bn).map a3.a4/\c6 az h=0/\∃ r,pg az h r/\r.2=0
def UX.no{bF:Int}(h:ur g u p w bF=none):UX az g u p w bF I' ⟨[],none,0,0⟩ false:=⟨by unfold iK;rw[h],λh=>by cases h⟩
def Oi(hu:u<g.ds.length){bF:Int}(cc:(bI g.ds[u].t).go p=some S):ur g u p w bF=(pt w bF S).map λx=>lN g u p x:=by
 have nZ:g.ds.getD u kH=g.ds[u]:=by simp[bS,hu]
 unfold ur;rw[nZ,cc];rfl
def hc.all:∀ {M:List aE},(∀ x∈M,x.num ∉ foot)->hc foot I M (DB I M) []:=by intro M h;have:=afe (foot:=foot) (M:=[]) (I:=I) M h;rwa [dF]at this
def Gn(dU b6 dP b9 gW:Nat)(g:cU)(u:Nat)(pa:Option Addr)(pn pc:Nat)(b0:Option Addr)(n ch:Nat)(bF:Int)(fn:Nat):List aE:=[⟨gW,.cells #[.func (.func fn) #[] #[]] 85 (0,0)⟩,⟨b9,.cells #[.int .i64 bF] 3 (0,0)⟩,⟨dP,.cells #[.slice b0 n ch] 69 (0,0)⟩,⟨b6,.cells #[.int .i64 u,.slice pa pn pc] 77 (0,0)⟩,⟨dU,.cells #[.slice g.a g.n g.c] 30 (0,0)⟩]
def atK(be:e2 I az)(hw:J1 az g F)(aw:g.ok I)(aD:∀ d∈g.ds,d.t.n<=274877906944)(yn:g.n<=1000000)(hu:u<g.ds.length)(aJ:cI I pa pn pc 1 8 (iA path))(cc:(bI g.ds[u].t).go path=some S)
 {L:List bk} (bY:s8 I b0 ch L) (Gl:(L.map (·.n)).sum<=274877906944/\L.length<=274877906944) (Kb:L.map bI=S.sub) (z1:1<=w/\w<=3) (ae:S.d.k=g7 w) {bF:Int} (e5:hz bF) :
  Spec Tryz.prog 102 [g.val,Ge (u:Int) pa pn pc,.int .u8 w,.slice b0 L.length ch,.int .i64 bF] I [] λv I' M'=>(∀ b o,I b=some o->I' b=some o)/\M'=[]/\∃ (h:cU) (b:Bool),v=.tuple #[h.val,.bool b]/\UX az g u path w bF I' h b:=by
 have nz:=Oi (w:=w) (bF:=bF) hu cc;have Oj:=UC path (N4 (pq hw.m (bJ hu))) cc;have afJ:dM S<=549755813888:=by have aa:=J4 (X:=ht bj.zero) path _ cc;have ad:=DA (pq hw.m (bJ hu));have ak:=(aw.ds _ (bJ hu)).t.n;have aK:=aD _ (bJ hu);have bz:dM (ht bj.zero)=1:=lO _ _;have cu:=Bp ((bI g.ds[u].t).put path (ht bj.zero));omega
 have gG:S.sub.length=L.length:=by rw[<-Kb,bx]
 refine bV [5,6,8,9,12] aY Tryz.func102 rfl rfl rfl ?_;intro B ay;refine bW.mk λdU Cy ND=>?_;refine bW.mk λb6 Lr arv=>?_;refine bW.mk λdP sQ vR=>?_;refine bW.mk λb9 m8 uk=>?_;refine aO.mk [.int .i64 bF] ⟨rfl,_,_,_,.inr ⟨_,.head _,rfl,rfl⟩,rfl,rfl⟩ ?_;by_cases Nn:bF<0
 ·refine bX.mk (λh=>absurd h (by simp[Nn])) (λ_=>?_);exact⟨_,_,.sub (gd _) .refl,λ_ _ h=>h,rfl,⟨[],none,0,0⟩,false,rfl,.no (by rw[nz,pt,bN λh=>absurd h.2.1 (by omega)];rfl)⟩
 refine bX.mk (λ_=>?_) (λh=>absurd h (by simp[Nn]));refine aO.mk [.int .i64 bF] ⟨rfl,_,_,_,.inr ⟨_,.head _,rfl,rfl⟩,rfl,rfl⟩ ?_;refine aO.mk [.slice b0 L.length ch] ⟨rfl,_,_,_,.inr ⟨_,.tail _ (.head _),rfl,rfl⟩,rfl,rfl⟩ ?_;refine bd.mk ((L.length:Int)-1) (lA rfl (by omega)) ?_;refine aX.mk (λh=>?_) (λh=>?_)
 ·have aa:(L.length:Int)-1<=bF:=cJ h
  exact⟨_,_,.sub (gd _) .refl,λ_ _ h=>h,rfl,⟨[],none,0,0⟩,false,rfl,.no (by rw[nz,pt,bN λh=>absurd h.2.2 (by omega)];rfl)⟩
 have aa:¬ (L.length:Int)-1<=bF:=dv h
 obtain⟨i,rfl⟩:=eG (show 0<=bF by omega);have hi:i+1<L.length:=by omega
 have fM:=(bY.ok _ (bJ (show i<L.length by omega)));have Gp:=(bY.ok _ (bJ hi));have om:L[i].n<=1099511627776:=by have aa:=Gm (vF (f:=λt:bk=>t.n) (bJ (show i<L.length by omega)));have ad:=Gl.1;exact jg aa (jg ad (by decide))
 have sg:=UO (M0:=[]) be (w:=w) (by omega) fM.1 Gp.1 om;have UY:S.sub[i]'(by omega)=bI L[i]:=by
  have:S.sub[i]?=(L.map bI)[i]?:=by rw[Kb]
  rw[dg (by omega),iB,dg (by omega)]at this;exact eX this
 have UZ:S.sub[i+1]'(by omega)=bI L[i+1]:=by
  have:S.sub[i+1]?=(L.map bI)[i+1]?:=by rw[Kb]
  rw[dg (by omega),iB,dg hi]at this;exact eX this
 have U0:nx w L[i] L[i+1]=s7 w (S.sub[i]'(by omega)) (S.sub[i+1]'(by omega)):=by unfold nx;rw[fM.2,Gp.2,UY,UZ];rfl
 rw[U0]at sg;have kI:pt w (i:Int) S=(s7 w (S.sub[i]'(by omega)) (S.sub[i+1]'(by omega))).map λs=>lP (g7 w) ((L.take i).map bI++ht s::(L.drop (i+2)).map bI):=by
  unfold pt;rw[bT ⟨ae,by omega,by omega⟩];have aI:S.sub.getD ((i:Nat):Int).toNat S=S.sub[i]'(by omega):=by
   show S.sub.getD i S=_;have:i<S.sub.length:=by omega
   simp[bS,this]
  have a6:S.sub.getD (((i:Nat):Int).toNat+1) S=S.sub[i+1]'(by omega):=by
   show S.sub.getD (i+1) S=_;have:i+1<S.sub.length:=by omega
   simp[bS,this]
  rw[aI,a6];have cq:S.sub.take ((i:Nat):Int).toNat=(L.take i).map bI:=by rw[<-Kb,G4];rfl
  have dS:S.sub.drop (((i:Nat):Int).toNat+2)=(L.drop (i+2)).map bI:=by rw[<-Kb,G3];rfl
  rw[cq,dS]
 generalize s7 w (S.sub[i]'(by omega)) (S.sub[i+1]'(by omega))=o at sg kI;obtain⟨aM,bB,Kc⟩:=bY.a'.row (f:=bk.cells) (λ_=>rfl) (show i<L.length by omega) (show i<L.length by omega);obtain⟨ts,Dj,xu⟩:=bY.a'.row (f:=bk.cells) (λ_=>rfl) hi hi;have IQ:ts=aM:=by rw[bB]at Dj;exact(eX Dj).symm
 subst IQ;generalize L[i]=x at *;generalize L[i+1]=y at *;have cQ:IntKind.i64.wrap ((i:Int)+1)=((i+1:Nat):Int):=lA (by simp) (by omega);refine bW.mk λgW aeI aeJ=>?_;refine ck.mk [] _ _ _ rfl rfl (bK rfl) rfl ?_;refine aX.mk (λvU=>?_) (λvU=>?_)
 ·have vU:w=1:=cJ vU;have yy:DE w=57:=bT vU;refine ck.mk [] _ _ _ rfl rfl (bK rfl) rfl ?_;refine cT.x0 aY rfl rfl rfl (ι:=Nat×bj×Bool×aH) (λz=>{ bo:=[(10,.ref 10 0),(13,.val (.func (.func 165) #[] #[ptr dP,ptr b9,ptr gW,ptr dU,ptr b6])),(14,.val (ptr z.1)),(15,.val (.bool z.2.2.1))],cl:=[(10,[.slice none 0 0])],cH:=z.2.2.2,dd:=⟨z.1,.cells z.2.1.cells.toArray 62 (0,0)⟩::Gn dU b6 dP b9 gW g u pa pn pc b0 L.length ch (i:Int) 57 }) (λz=>(∀ b o,I b=some o->z.2.2.2 b=some o)/\o=bif z.2.2.1 then some z.2.1 else none) ?_ ?_
  ·refine aO.mk [.slice b0 L.length ch] ⟨rfl,_,_,_,.inr ⟨_,.tail _ (.tail _ (.head _)),rfl,rfl⟩,rfl,rfl⟩ ?_;refine aO.mk [.int .i64 (i:Int)] ⟨rfl,_,_,_,.inr ⟨_,.tail _ (.head _),rfl,rfl⟩,rfl,rfl⟩ ?_;refine bm.mk ts i bB rfl (by omega) ?_;refine aO.mk _ (Kc _) ?_;refine aO.mk [.slice b0 L.length ch] ⟨rfl,_,_,_,.inr ⟨_,.tail _ (.tail _ (.head _)),rfl,rfl⟩,rfl,rfl⟩ ?_;refine aO.mk [.int .i64 (i:Int)] ⟨rfl,_,_,_,.inr ⟨_,.tail _ (.head _),rfl,rfl⟩,rfl,rfl⟩ ?_;refine bd.mk _ cQ ?_;refine bm.mk ts (i+1) bB rfl hi ?_;refine aO.mk _ (xu _) ?_;refine⟨?_,?_⟩
   ·refine a8.mk [] _ _ (.refl _) sg ?_;rintro v J N a5⟨-,rfl,s,b,rfl,aA,-⟩;refine bW.mk λmM s5 Dv=>?_;refine ck.mk [] (Gn dU b6 dP b9 gW g u pa pn pc b0 L.length ch (i:Int) 57) _ _ rfl rfl (bK rfl) rfl ?_;exact⟨(mM,s,b,J),⟨a5,aA⟩,.refl,ee,.cons rfl (.nil)⟩
   ·refine bW.mk λmM s5 Dv=>?_;refine eJ.mk _ sg ?_;rintro v J N a5⟨-,rfl,s,b,rfl,aA,-⟩;refine ck.mk [] (Gn dU b6 dP b9 gW g u pa pn pc b0 L.length ch (i:Int) 57) _ _ rfl rfl (bK rfl) rfl ?_;exact⟨(mM,s,b,J),⟨a5,aA⟩,.refl,ee,.cons rfl (.nil)⟩
  rintro⟨mM,s,b,J⟩⟨a5,aA⟩;simp only at a5 aA;refine aX.mk (λag=>?_) (λag=>?_)
  ·have ag:b=false:=by simpa using ag
   exact⟨_,_,.sub (gd _) .refl,a5,rfl,⟨[],none,0,0⟩,false,rfl,.no (by rw[nz,kI,aA,ag];rfl)⟩
  have ag:b=true:=by simpa using ag
  subst ag;have aA:o=some s:=aA;rw[aA]at kI;have kI:pt w (i:Int) S=some (lP (g7 w) ((L.take i).map bI++ht s::(L.drop (i+2)).map bI)):=kI;rw[kI]at nz;have nz:ur g u path w (i:Int)=some (lN g u path (lP (g7 w) ((L.take i).map bI++ht s::(L.drop (i+2)).map bI))):=nz;have xo:=UH (g:=g) Oj kI;have qS:=UI kI;refine aO.mk s.cells ⟨rfl,_,_,_,.inr ⟨_,.head _,rfl,rfl⟩,rfl,rfl⟩ ?_;refine a8.pC λeF=>?_;obtain⟨bf,vV⟩:=UJ _ eF.d eF.b3;have g0:∀ b o,I b=some o->DB J _ b=some o:=λb o h=>bf _ _ (a5 _ _ h);refine a8.uF _ [] [] _ (hc.all λ_ _=>by simp) (afB (w:=w) (s:=s) (be.mono g0) hw (aw.mono g0) (λd ah=>by have:=aD d ah;omega) yn hu (aJ.mono g0) cc (bY.mono g0) Gl hi rfl xo (by omega) (vV _ (.tail _ (.tail _ (.tail _ (.head _))))) (vV _ (.tail _ (.tail _ (.head _)))) (by rw[yy];exact vV _ (.tail _ (.head _))) (vV _ (.tail _ (.tail _ (.tail _ (.tail _ (.tail _ (.head _))))))) (vV _ (.tail _ (.tail _ (.tail _ (.tail _ (.head _))))))) ?_;rintro v cA N cO -⟨-,rfl,h,b,rfl,aV⟩;exact⟨_,_,.refl,λb o h=>cO _ _ (g0 _ _ h),rfl,h,b,rfl,⟨by rw[aV.is];unfold iK;rw[nz],λag=>by
   obtain⟨ew,e',bn,fe⟩:=aV.ok ag;exact⟨ew,e',_,bn,nz,fe⟩⟩⟩
 ·have vU:¬ w=1:=dv vU;have yy:DE w=56:=bN vU;refine cT.x0 aY rfl rfl rfl (ι:=Nat×bj×Bool×aH) (λz=>{ bo:=[(10,.ref 10 0),(13,.val (.func (.func 165) #[] #[ptr dP,ptr b9,ptr gW,ptr dU,ptr b6])),(14,.val (ptr z.1)),(15,.val (.bool z.2.2.1))],cl:=[(10,[.slice none 0 0])],cH:=z.2.2.2,dd:=⟨z.1,.cells z.2.1.cells.toArray 62 (0,0)⟩::Gn dU b6 dP b9 gW g u pa pn pc b0 L.length ch (i:Int) 56 }) (λz=>(∀ b o,I b=some o->z.2.2.2 b=some o)/\o=bif z.2.2.1 then some z.2.1 else none) ?_ ?_
  ·refine aO.mk [.slice b0 L.length ch] ⟨rfl,_,_,_,.inr ⟨_,.tail _ (.tail _ (.head _)),rfl,rfl⟩,rfl,rfl⟩ ?_;refine aO.mk [.int .i64 (i:Int)] ⟨rfl,_,_,_,.inr ⟨_,.tail _ (.head _),rfl,rfl⟩,rfl,rfl⟩ ?_;refine bm.mk ts i bB rfl (by omega) ?_;refine aO.mk _ (Kc _) ?_;refine aO.mk [.slice b0 L.length ch] ⟨rfl,_,_,_,.inr ⟨_,.tail _ (.tail _ (.head _)),rfl,rfl⟩,rfl,rfl⟩ ?_;refine aO.mk [.int .i64 (i:Int)] ⟨rfl,_,_,_,.inr ⟨_,.tail _ (.head _),rfl,rfl⟩,rfl,rfl⟩ ?_;refine bd.mk _ cQ ?_;refine bm.mk ts (i+1) bB rfl hi ?_;refine aO.mk _ (xu _) ?_;refine⟨?_,?_⟩
   ·refine a8.mk [] _ _ (.refl _) sg ?_;rintro v J N a5⟨-,rfl,s,b,rfl,aA,-⟩;refine bW.mk λmM s5 Dv=>?_;refine ck.mk [] (Gn dU b6 dP b9 gW g u pa pn pc b0 L.length ch (i:Int) 56) _ _ rfl rfl (bK rfl) rfl ?_;exact⟨(mM,s,b,J),⟨a5,aA⟩,.refl,ee,.cons rfl (.nil)⟩
   ·refine bW.mk λmM s5 Dv=>?_;refine eJ.mk _ sg ?_;rintro v J N a5⟨-,rfl,s,b,rfl,aA,-⟩;refine ck.mk [] (Gn dU b6 dP b9 gW g u pa pn pc b0 L.length ch (i:Int) 56) _ _ rfl rfl (bK rfl) rfl ?_;exact⟨(mM,s,b,J),⟨a5,aA⟩,.refl,ee,.cons rfl (.nil)⟩
  rintro⟨mM,s,b,J⟩⟨a5,aA⟩;simp only at a5 aA;refine aX.mk (λag=>?_) (λag=>?_)
  ·have ag:b=false:=by simpa using ag
   exact⟨_,_,.sub (gd _) .refl,a5,rfl,⟨[],none,0,0⟩,false,rfl,.no (by rw[nz,kI,aA,ag];rfl)⟩
  have ag:b=true:=by simpa using ag
  subst ag;have aA:o=some s:=aA;rw[aA]at kI;have kI:pt w (i:Int) S=some (lP (g7 w) ((L.take i).map bI++ht s::(L.drop (i+2)).map bI)):=kI;rw[kI]at nz;have nz:ur g u path w (i:Int)=some (lN g u path (lP (g7 w) ((L.take i).map bI++ht s::(L.drop (i+2)).map bI))):=nz;have xo:=UH (g:=g) Oj kI;have qS:=UI kI;refine aO.mk s.cells ⟨rfl,_,_,_,.inr ⟨_,.head _,rfl,rfl⟩,rfl,rfl⟩ ?_;refine a8.pC λeF=>?_;obtain⟨bf,vV⟩:=UJ _ eF.d eF.b3;have g0:∀ b o,I b=some o->DB J _ b=some o:=λb o h=>bf _ _ (a5 _ _ h);refine a8.uF _ [] [] _ (hc.all λ_ _=>by simp) (afB (w:=w) (s:=s) (be.mono g0) hw (aw.mono g0) (λd ah=>by have:=aD d ah;omega) yn hu (aJ.mono g0) cc (bY.mono g0) Gl hi rfl xo (by omega) (vV _ (.tail _ (.tail _ (.tail _ (.head _))))) (vV _ (.tail _ (.tail _ (.head _)))) (by rw[yy];exact vV _ (.tail _ (.head _))) (vV _ (.tail _ (.tail _ (.tail _ (.tail _ (.tail _ (.head _))))))) (vV _ (.tail _ (.tail _ (.tail _ (.tail _ (.head _))))))) ?_;rintro v cA N cO -⟨-,rfl,h,b,rfl,aV⟩;exact⟨_,_,.refl,λb o h=>cO _ _ (g0 _ _ h),rfl,h,b,rfl,⟨by rw[aV.is];unfold iK;rw[nz],λag=>by
   obtain⟨ew,e',bn,fe⟩:=aV.ok ag;exact⟨ew,e',_,bn,nz,fe⟩⟩⟩
def U1(x:Nat×List Int)(w:Int)(bF:Int)(a:Option Addr)(c:Nat):Value:=.agg #[.int .u8 5,.int .u8 w,.int .i64 x.1,.slice a x.2.length c,.int .i64 bF]
def atL(p:List Int):(iA p).length=p.length:=by simp[iA]
def atM(p:List Int):fK (iA p)=true:=by
 unfold iA
 induction p with
 |nil=>rfl| cons x p aQ=>simpa[fK,Value.oneCell']using aQ
def atN{x:Nat×List Int}(aJ:cI I pa x.2.length pc 1 8 (iA x.2))(w bF:Int) :
  Spec Tryz.prog 164 [Ge (x.1:Int) pa x.2.length pc,.int .u8 w,.int .i64 bF] I [] λv I' M'=>(∀ b o,I b=some o->I' b=some o)/\M'=[]/\∃ a c,v=U1 x w bF a c/\cI I' a x.2.length c 1 8 (iA x.2):=by
 refine xQ [] aY Tryz.func164 rfl rfl rfl ?_;intro B ay;have hA:=aJ.cap;obtain⟨u,path⟩:=x;refine cT.Hh (λi=>Nat.blt i 5) aY rfl rfl rfl ?_;intro G fA;refine jC.Ka aY rfl (e:=3) rfl rfl rfl h2 (xs:=[]) (k1 1) (sc (fA _ (by simp[Op.operands,Call.operands])) rfl) (sa:=pa) (m:=path.length) (c':=pc) (sc (fA _ (by simp[Op.operands,Call.operands])) rfl) (cb:=iA path) (by rw[atL];exact(gM _).symm) (λh=>?_) (atM _) [] [] rfl (by unfold maxLen;show 0+_<=_;simp only at hA;omega) (by show(0+path.length)*8<=_;simp only at hA;omega) ?_
 ·obtain⟨aM,bB,c9,cs,T,an,bA,ao⟩:=aJ.rd.resolve_left (by simp only;omega);exact⟨aM,bB,c9,cs,T,an,.inl bA,ao,aJ.len⟩
 intro nu kx DF;intro eF;have kx:nu.n=path.length:=by rw[kx];exact du _
 have dB:=Dy (J:=I) (e:=3) (b:=8) DF (by rw[kx];simp only at hA;omega);rw[kx]at dB;refine⟨hs I nu 3,[],Bo (λg _=>by simp),xp (M:=[]) eF.d,rfl,nu.a.map λg=>⟨g,0,none⟩,nu.c,?_,dB⟩;show Value.agg #[_,_,_,.slice _ nu.n _,_]=_;rw[kx];rfl
abbrev mN:=(Nat×List Int)×Int×Int
def ux(g:cU)(x:Nat×List Int):Nat:=match(bI (g.ds.getD x.1 kH).t).go x.2 with
 |some S=>S.sub.length| none=>0
def iL(az:List Int)(g:cU)(x:Nat×List Int)(w:Int):Nat->Nat->List mN
 |0,_=>[]| n+1,j=>(bif iK az g x.1 x.2 w (j:Int)then [(x,w,(j:Int))]else [])++iL az g x w n (j+1)
def iM(az:List Int)(g:cU)(x:Nat×List Int)(k:Nat):Nat->Nat->List mN
 |0,_=>[]| n+1,w=>iL az g x (w:Int) k 0++iM az g x k n (w+1)
def q3(az:List Int)(g:cU)(x:Nat×List Int):List mN:=iM az g x (ux g x) 3 1
def xx(az:List Int)(g:cU):List mN:=(jQ 0 g.ds).flatMap (q3 az g)
open Classical in
noncomputable def vW(az:List Int)(g:cU):List mN:=if ∃ r,pg az g r/\r.2=0 then xx az g else []
def U2(af:pg az g r):vW az g=if r.2=0 then xx az g else []:=by
 unfold vW;by_cases h:r.2=0
 ·rw[bT h,bT ⟨r,af,h⟩]
 ·rw[bN h,bN];rintro⟨r',gL,bq⟩;rw[gL.eq af]at bq;exact h bq
def afK(hu:u<g.ds.length)(cc:(bI g.ds[u].t).go p=some S)(h:S.d.k≠g7 w)(bF:Int):iK az g u p w bF=false:=by unfold iK;rw[Oi hu cc,pt,bN λe=>h e.1];rfl
def afL{az:List Int}{g:cU}{x:Nat×List Int}{w:Int}(h:∀ j:Nat,iK az g x.1 x.2 w (j:Int)=false):∀ n j,iL az g x w n j=[]
 |0,_=>rfl| n+1,j=>by rw[iL,h,afL h n (j+1)];rfl
def afM(az:List Int)(g:cU)(x:Nat×List Int)(w:Int):∀ n j,(iL az g x w n j).length<=n
 |0,_=>b' _
 |n+1,j=>by
  have:=afM az g x w n (j+1);rw[iL,cr];cases iK az g x.1 x.2 w (j:Int)<;>simp<;>omega
def atO(l:List mN)(k:Nat)(vs:List Value)(I:aH):Prop:=∃ x w bF a c,l[k]?=some (x,w,bF)/\vs=[U1 x w bF a c]/\cI I a x.2.length c 1 8 (iA x.2)
def atP(g:cU):Spec Tryz.prog 100 [g.val] I [] λr I' M'=>∃ b1,r=.func (.func 163) #[] #[ptr b1]/\I' b1=some (.cells #[.slice g.a g.n g.c] 30 (0,0))/\(∀ b o,I b=some o->I' b=some o)/\M'=[]:=by refine bV [1] aY Tryz.func100 rfl rfl rfl ?_;intro B ay;refine bW.mk λb1 jF T1=>?_;exact⟨_,_,.mP rfl (by simp) .refl,b1,rfl,n8 ..,lz jF,rfl⟩
def afN(aq:t.ok I)(af:right t=true)(aD:t.n<=1048576){X:aP}(ox:bI t=X){r:Nat}(en:t.bC=(r:Int))(eH:r<t.ns.length){L:List bk}(dB:cI J a n c 2 0 (L.flatMap bk.cells))(bY:L.length=(nodeAt t.ns r).au.length)(eO:∀ q (h:q<L.length),(L[q]).ok J/\qL t ((nodeAt t.ns r).au.getD q 0) L[q]) :
  n=L.length/\s8 J a c L/\L.map bI=X.sub/\(L.map (·.n)).sum<=274877906944/\L.length<=274877906944:=by
 rw[gr eH]at bY eO;have oL:n=L.length:=by have:=dB.len;rw[UW]at this;omega
 have aV:=jv.1 af;have e5:∀ q (h:q<L.length),k' L[q] (fq t.ns (t.ns[r].au[q]'(by omega)))/\eZ (fq t.ns (t.ns[r].au[q]'(by omega)))/\jd (fq t.ns (t.ns[r].au[q]'(by omega))):=λq h=>by
  have aa:=(eO q h).2;have aL:q<t.ns[r].au.length:=by omega
  have e:t.ns[r].au.getD q 0=t.ns[r].au[q]:=by simp[bS,aL]
  rw[e]at aa;exact afh af eH (bJ aL) aa
 have hm:L.map bI=X.sub:=by rw[<-ox,Gg af en eH];show _=t.ns[r].au.map (fq t.ns);refine oH (by simpa using bY) λq aa ad=>?_;rw[fW,fW];obtain⟨fF,fz,l6⟩:=e5 q (by simpa using aa);exact fF.bI fz l6
 have hk:=aq.n;have dn:=DA af;have asw:dM X=(X.sub.map dM).sum+1:=by
  conv=>lhs;rw[X.eta]
  exact lO _ _
 have FV:(L.map (·.n)).sum=(X.sub.map dM).sum:=by rw[<-hm,gu];congr 1;refine fV λy aC=>?_;obtain⟨q,aL,rfl⟩:=hO aC;obtain⟨fF,fz,l6⟩:=e5 q aL;have aa:=congrArg List.length fF.a4;rw[bx,Bq]at aa;have ad:=(eO q aL).1.n;show L[q].n=dM (bI L[q]);rw[fF.bI fz l6];omega
 have cS:L.length<=(X.sub.map dM).sum:=by
  have:∀ l:List aP,l.length<=(l.map dM).sum:=λl=>by
   induction l with
   |nil=>exact b' _| cons x l aQ=>have:=Bp x;simp only[et,b5,hj];omega
  have aa:=this X.sub;rw[<-hm,bx]at aa;rw[<-hm];exact aa
 rw[ox]at dn;have hA:=dB.cap;refine⟨oL,⟨?_,λy aC=>?_,by omega,by omega⟩,hm,by omega,by omega⟩
 ·rw[<-oL];exact⟨dB.len,⟨hA.1,by omega⟩,dB.rd⟩
 ·obtain⟨q,aL,rfl⟩:=hO aC;obtain⟨fF,fz,l6⟩:=e5 q aL;exact⟨(eO q aL).1,fF.right fz⟩
def afO(atQ:aP):∀ (i:Nat) (l:List aP),(∀ c∈l,∀ p∈c.paths,∃ S,c.go p=some S)->∀ q∈aP.s9 i l,∃ j p S,∃ h:j<l.length,q=((i+j:Nat):Int)::p/\l[j].go p=some S
 |_,[],_,q,h=>by rw[aP.Oc]at h;cases h
 |i,c::l,aQ,q,h=>by
  rw[aP.Ob]at h;rcases cv.1 h with h | h;·obtain⟨p,aJ,rfl⟩:=cP.1 h;obtain⟨S,cc⟩:=aQ c (.head _) p aJ;exact⟨0,p,S,by simp,rfl,cc⟩
  ·obtain⟨j,p,S,ai,rfl,cc⟩:=afO atQ (i+1) l (λc ao=>aQ c (.tail _ ao)) q h;exact⟨j+1,p,S,by simp;omega,by rw[show i+1+j=i+(j+1) by omega],by simpa using cc⟩
def atS:∀ (T:aP),∀ p∈T.paths,∃ S,T.go p=some S:=by
 intro T
 induction T using aP.ind with
 |h d ks aQ=>
  intro p aJ;rw[aP.Gj]at aJ;rcases eI.1 aJ with rfl | aJ;·exact⟨_,rfl⟩
  ·obtain⟨j,q,S,ai,rfl,cc⟩:=afO (.mk d ks) 0 ks aQ p aJ;refine⟨S,?_⟩;rw[aP.go];have jS:j<(aP.mk d ks).sub.length:=ai;rw[bT (by omega)];have e:(aP.mk d ks).sub.getD (((0+j:Nat):Int)).toNat (.mk d ks)=ks[j]:=by rw[du];show ks.getD j _=_;rw[bS,dg ai];rfl
   rw[e];exact cc
def afP:∀ (ds:List a3) (i:Nat),∀ x∈jQ i ds,∃ j,∃ h:j<ds.length,x.1=i+j/\x.2∈(bI ds[j].t).paths
 |[],i,x,h=>by cases h
 |d::ds,i,x,h=>by
  rw[jQ]at h;rcases cv.1 h with h | h;·obtain⟨p,aJ,rfl⟩:=cP.1 h;exact⟨0,by simp,rfl,aJ⟩
  ·obtain⟨j,ai,e,aJ⟩:=afP ds (i+1) x h;exact⟨j+1,by simp;omega,by omega,by simpa using aJ⟩
def U3{x:Nat×List Int}(h:x∈jQ 0 g.ds):∃ hu:x.1<g.ds.length,∃ S,(bI g.ds[x.1].t).go x.2=some S:=by
 obtain⟨j,ai,e,aJ⟩:=afP g.ds 0 x h;obtain⟨u,p⟩:=x;simp only at e aJ;obtain rfl:u=j:=by omega
 exact⟨ai,atS _ _ aJ⟩
structure DG(az:List Int)(I:aH)(g:cU):Prop where
 aq:e2 I az
 aw:g.ok I
 aD:∀ d∈g.ds,d.t.n<=549755813888
 ag:g.n<=1000000
 vB:(g.ds.map λd=>d.t.ns.length).sum<=1048576
 ae:∀ d∈g.ds,vl d.t
def DG.mono(h:DG az I g)(bA:∀ b o,I b=some o->I' b=some o):DG az I' g:=⟨h.aq.mono bA,h.aw.mono bA,h.aD,h.ag,h.vB,h.ae⟩
end Go.V
