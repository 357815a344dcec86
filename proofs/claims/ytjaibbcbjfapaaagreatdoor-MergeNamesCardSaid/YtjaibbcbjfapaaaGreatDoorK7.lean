/- Part 7 of what the proofs of this seat share: the executor, data in memory, walks.
-/
import Derived.Test.YtjaibbcbjfapaaaGreatDoorK6
import Derived.Test.YtjaibbcbjfapaaaGreatDoorK4
import Derived.Test.YtjaibbcbjfapaaaGreatDoorK3
set_option linter.all false
set_option maxHeartbeats 8000000
set_option maxRecDepth 100000
namespace Go.V
open Go Go.Proofs
def w6:=@List.sublist_append_left
def sX:=@List.map_singleton
def CO:=@List.flatMap_assoc
def Av:=@List.map_flatMap
def Fk:=@List.mem_of_mem_drop
def SI:=@List.count_eq_zero_of_not_mem
def SJ:=@List.length_eq_one_iff
def Mt:=@List.Sublist.refl
def SK:=@List.Perm.append_left
def SL:=@List.idxOf_append
def SM:=@List.map_reverse
def Mu:=@List.map_id
variable{I J:aH}{t:bs}{M0 M Mr:List aA}{ay A B ks:List Int}{r i n c size e IE b c':Nat}{L jh dZ:List al}{a ca:Option Addr}{os:aT}{xs b8:List Value}{K:dx->aH->List aA->Prop}{α:Type}{F:List aX}{fU:List (List al)}{l bm:List Nat}{pl:List (ByteArray×Int)}{s:Operand}{cS aB:dH}{aR:Addr}
structure ab1(d:al)(eo:List Int)(y:Nat×aT×List Int):Prop where
 k:y.1<=d.aF
 ok:y.2.1.ok 1 (y.2.2.flatMap ir)
 n:y.2.1.n=d.aF
 eq:y.2.2=(d.ap.take y.1).map (λk=>eo.getD k.toNat 0)++d.ap.drop y.1
def aoK(au:t.ok I)(af:right t=true)(aC:t.n<=1099511627776){node:Nat}(Fg:node<t.n) :
  Spec Tryz.prog 154 [t.val,.int .i64 node] I [] λv I' M'=>(∀ b o,I b=some o->I' b=some o)/\M'=[]/\∃ bi:bs,v=bi.val/\bi.ok I'/\pP t node bi:=by
 refine xF [] a0 Tryz.func154 rfl rfl rfl ?_;intro B ax;have g7:=au.n;have hk:=au.bb.cap;refine a8.mk [] [] _ (.refl _) (aoH (M0:=[]) au af aC Fg) ?_;rintro v IF N -⟨xD,back,t',rfl,Dr,Fi,rfl⟩;subst IF;obtain⟨rb,o4⟩:∃ rb,(zM t.ns node).reverse=rb:=⟨_,rfl⟩;rw[o4]at t' Fi;have kA:=t'.pK;refine pi.mk t.n t.n rfl rfl (cc _) ay7 Z ?_;refine bQ.mk λb9 mU BR=>?_;refine pi.mk 0 back.n rfl rfl (dQ _) (by show 96*back.n<=_;omega) Z ?_;refine bQ.mk λb7 Ht K9=>?_;have wX:(rowOf [Value.int .i64 0] (t.n*1))=(List.replicate t.n (0:Int)).map (Value.int .i64):=by rw[By,Bp,gM]
 refine du.uD (ι:=Nat×List Int×aT×List al×aH) (λx=>{ bp:=[(2,.ref 2 0),(4,.ref 4 0),(5,.val back.val),(6,.val (.slice (some ⟨b9,0,none⟩) t.n t.n)),(7,.val x.2.2.1.val),(24,.val back.val),(25,.val (.int .i64 back.n)),(26,.val (.int .i64 x.1))],cl:=[(2,t.cells),(4,[.slice none 0 0,.int .i64 0])],cO:=x.2.2.2.2,c5:=dE b9 x.2.1::(x.2.2.1.ar 88++(back.ar 3++[])) }) (Xt I t rb) (λx=>rb.length-x.1) ?_ ?_
 ·intro _;refine⟨(0,List.replicate t.n 0,⟨some b7,0,back.n,rowOf [.int .u8 0,.int .u64 0,.int .u64 0,.int .u64 0,.int .u64 0,.string ⟨#[]⟩,.int .i64 0,.int .i64 0,.slice none 0 0] (back.n*9)⟩,[],I),⟨dQ _,by simp[g7],⟨rfl,(λh=>ci),λei jB=>⟨by simp[s',madeCells],dQ _,i7,am⟩⟩,rfl,(by rw[g7];rfl),(λd ai=>qr),λ_ _ h=>h,(λc ao=>by have:=O7 ao;omega),(λd ai=>qr)⟩,.perm (List.Perm.swap _ _ _) (.m1 (by rw[wX];simp only[dK];rfl)),ku,.cons rfl (.cons rfl (.nil))⟩
 rintro⟨j,P,out,hd,J⟩⟨ah,rT,rU,hX,ub,Aw,a4,IG,jP⟩;simp only at ah rT rU hX ub Aw a4 IG jP;have vA:out.n=j:=by have:=rU.len;rw[hc _ 9 al.cL,hX]at this;omega
 subst vA;refine aZ.mk (λh=>?_) (λh=>?_)
 ·have yE:out.n<rb.length:=by have:(out.n:Int)<(back.n:Int):=cT h;omega
  have hm:=Fi _ (bK yE);obtain⟨m,yF⟩:=eh hm.1;rw[yF]at hm;have jF:m<t.n:=by omega
  have rm:m<t.ns.length:=by omega
  obtain⟨aR,bI,IH⟩:=aT.BZ (I:=J) (e:=3) (M:=dE b9 P::(out.ar 88++(back.ar 3++[]))) t' (λx ab=>f9) yE;rw[yF]at IH;obtain⟨mW,mX,jn⟩:=(au.bb.mono a4).row al.cL jF rm;have ai:=(au.ns _ (bK rm)).mono a4;have fh:=ai.aF;have pN:=ai.bb.cap;have hJ:=lb af m rm;have mu:nodeAt t.ns m=t.ns[m]:=gr rm;generalize fj:t.ns[m]=d at ai fh pN hJ jn mu;have g4:=oG P m Z (out.n:Int);generalize tN:P.set m (out.n:Int)=eo at g4;have Mv:eo.length=t.ns.length:=by rw[<-tN];simpa using rT
  have CP:∀ c∈eo,0<=c/\c<=rb.length:=λc ao=>by
   rw[<-tN]at ao;rcases w0 ao with ao | rfl;·exact IG c ao
   ·omega
  refine bt.mk aR out.n bI rfl (show _<back.n by omega) ?_;refine aU.mk _ IH ?_;refine bt.mk ⟨b9,0,none⟩ m rfl rfl jF ?_;refine b4.iE [] (out.ar 88++(back.ar 3++[])) (P.map (Value.int .i64)) 3 rfl (by rw[mT,bB];show 0+m*1+1<=_;omega) rfl (eo.map (Value.int .i64)) (by rw[dn,gM];exact g4) ?_;refine bt.mk mW m mX rfl jF ?_;refine aU.mk _ (jn _) ?_;have wu:(out.n+1)*96<=140737488355328:=by omega
  refine aZ.mk (λaa=>?_) (λaa=>?_)
  ·have la:0<d.aF:=by have:(0:Int)<(d.aF:Int):=cT aa;omega
   refine pi.mk d.aF d.aF rfl rfl (cc _) ae' Z ?_;refine bQ.mk λab2 axG axH=>?_;have bg:(rowOf [Value.int .i64 0] (d.aF*1)).length=d.aF:=by simp[s',madeCells]
   have di:cd (rowOf [Value.int .i64 0] (d.aF*1)) 0 (d.ap.map (.int .i64 ·))=d.ap.map (.int .i64 ·):=by unfold cd;rw[qi,hI,dn,oU (by rw[bg,bB];omega),dK]
   refine bC.SH a0 rfl am (e:=3) rfl rfl rfl (g:=ab2) (n:=d.aF) (c:=d.aF) (aS:=rowOf [Value.int .i64 0] (d.aF*1)) rfl (by rw[bg];show d.aF*1<=_;omega) (sa:=d.ca) (c':=d.cr) rfl (b8:=d.ap.map (.int .i64 ·)) (by rw[bB];show _=d.aF*1;omega) (λax=>ai.bb.yC _ ax) (Ff _) [] (dE b9 eo::(out.ar 88++(back.ar 3++[]))) rfl ?_;rw[di];refine du.inv (ι:=Nat×aT×List Int) (λy=>{ bp:=[(2,.ref 2 0),(4,.ref 4 0),(5,.val back.val),(6,.val (.slice (some ⟨b9,0,none⟩) t.n t.n)),(7,.val out.val),(8,.val (.int .i64 out.n)),(9,.val (.int .i64 m)),(10,.ref 10 0),(11,.val y.2.1.val),(24,.val back.val),(25,.val (.int .i64 back.n)),(26,.val (.int .i64 out.n)),(52,.val y.2.1.val),(53,.val (.int .i64 d.aF)),(54,.val (.int .i64 y.1))],cl:=[(2,t.cells),(4,[.slice none 0 0,.int .i64 0]),(10,d.cells)],cO:=J,c5:=y.2.1.ar 3++(dE b9 eo::(out.ar 88++(back.ar 3++[]))) }) (λy=>ab1 d eo y) (λy=>d.aF-y.1) ?_ ?_;·exact⟨(0,⟨some ab2,d.aF,d.aF,d.ap.map (.int .i64 ·)⟩,d.ap),⟨dQ _,⟨by rw[og,bB];simp only;omega,(λh=>ci),λei jB=>⟨aq',cc _,i7,by rw[og];exact fD md⟩⟩,rfl,am⟩,.refl,agY,.cons rfl (.cons rfl (.cons rfl (.nil)))⟩
   rintro⟨k,dY,ft⟩⟨ae,jb,Fl,c4⟩;simp only at ae jb Fl c4;have SN:∀ x∈dY.ar 3,x∈dY.ar 3++(dE b9 eo::(out.ar 88++(back.ar 3++[]))):=λx ab=>iv _ ab;have SO:dE b9 eo∈dY.ar 3++(dE b9 eo::(out.ar 88++(back.ar 3++[]))):=by simp
   have D':ft.length=d.ap.length:=by rw[c4,cn,bB,fT,py];omega
   refine aZ.mk (λad=>?_) (λad=>?_)
   ·have e5:k<d.aF:=by have:(k:Int)<(d.aF:Int):=cT ad;omega
    have iR:k<d.ap.length:=by omega
    have vB:k<ft.length:=by omega
    have ak:=hJ _ (bK iR);have vC:d.ap[k].toNat<eo.length:=by omega
    have CQ:eo.getD d.ap[k].toNat 0=eo[d.ap[k].toNat]:=by simp[bT,vC]
    have II:ft[k]=d.ap[k]:=by
     have aj:ft[k]?=d.ap[k]?:=by rw[c4,lO v4,bB,fT,pf Z,mh,oq,pg]
     rw[dy vB,dy iR]at aj;exact e1 aj
    obtain⟨gn,fk,fc⟩:=aT.ok.row (I:=J) (M:=dY.ar 3++(dE b9 eo::(out.ar 88++(back.ar 3++[])))) (e:=3) (f:=ir) (size:=1) (λ_=>rfl) bv jb SN vB;rw[II]at fc;refine bt.mk gn k fk rfl (show k<dY.n by omega) ?_;refine aU.mk _ fc ?_;refine bt.mk ⟨b9,0,none⟩ d.ap[k].toNat rfl Z Z ?_;refine aU.mk _ (GK SO vC) ?_;refine bt.mk gn k fk rfl (show k<dY.n by omega) ?_;refine aT.HT ir 1 (λ_=>rfl) (e:=3) jb vB eo[d.ap[k].toNat] rfl [] (dE b9 eo::(out.ar 88++(back.ar 3++[]))) rfl fk ?_;intro oM ma m8 lq iX;refine be.mk _ (c9 (i:=k) Z) ?_;refine⟨(k+1,oM,ft.set k eo[d.ap[k].toNat]),⟨⟨e5,iX,lq.trans Fl,?_⟩,ce⟩,.refl,.cons .refl (.cons .refl (.cons .refl (.cons .refl (.cons .refl (.cons .refl (.cons .refl (.cons .refl (.cons ?_ (.cons .refl (.cons .refl (.cons .refl (.cons ?_ (xG))))))))))))),.cons rfl (.cons rfl (.cons rfl (.nil)))⟩;·simp only;rw[c4,gk iR,cR,b0,hs,CQ,BH _ _ v4,bB,fT,pf Z,mh,e2 iR,BJ,dW];rfl
    ·simp only;rw[ma];exact .refl
    ·simp only;rw[ma];exact .refl
   have cV:k=d.aF:=by have:¬ (k:Int)<(d.aF:Int):=dU ad;omega
   subst cV;rw[fD Z,oU Z,dK]at c4;rw[og]at jb;refine bQ.mk λab3 ab4 ab5=>?_;have b':∃ cu:al,cu=⟨d.k,d.cf,d.s1,d.s2,d.cH,d.t,d.lo,d.hi,dY.a.map λg=>⟨g,0,none⟩,dY.n,dY.c,ft⟩:=⟨_,rfl⟩;obtain⟨cu,b'⟩:=b';have IJ:cu.cells=[.int .u8 d.k,.int .u64 d.cf,.int .u64 d.s1,.int .u64 d.s2,.int .u64 d.cH,.string d.t,.int .i64 d.lo,.int .i64 d.hi,.slice (dY.a.map λg=>⟨g,0,none⟩) dY.n dY.c]:=by rw[b'];rfl
   refine bC.lU a0 rfl am (e:=88) rfl rfl rfl out rU rfl (cs:=[.int .u8 d.k,.int .u64 d.cf,.int .u64 d.s1,.int .u64 d.s2,.int .u64 d.cH,.string d.t,.int .i64 d.lo,.int .i64 d.hi,.slice (dY.a.map λg=>⟨g,0,none⟩) dY.n dY.c]) rfl rfl rfl (dY.ar 3++[dE b9 eo]) (back.ar 3++[]) (by simp;rfl) Z H1 ?_;intro m9 SP ab6 Ax;refine be.mk _ (c9 (i:=out.n) Z) ?_;have Ay:∀ c∈ft,0<=c/\c<=rb.length:=λc ao=>by
    rw[c4]at ao;obtain⟨q,aO,rfl⟩:=c3.1 ao;have wF:=hJ q aO;have IK:q.toNat<eo.length:=by omega
    exact CP (eo.getD q.toNat 0) LT
   intro eY;obtain⟨mv,hw,bn,dB⟩:=aT.KL (I:=J) (b:=8) (e:=3) jb Z (λg aw=>eY.d ⟨g,.cells dY.aS.toArray 3 (0,0)⟩ ol) (dE b9 eo::(m9.ar 88++(back.ar 3++[])));refine⟨(out.n+1,eo,m9,hd++[cu],mv),⟨⟨ce,Mv,?_,by simp[hX],?_,?_,λb o h=>bn _ _ (a4 _ _ h),CP,?_⟩,ce⟩,?_,ku,.cons rfl (.cons rfl (.nil))⟩
   ·simp only;rw[fS];have:([cu].flatMap al.cells)=cu.cells:=by simp
    rw[this,IJ];exact Ax
   ·simp only;rw[gk yE,tB,ub,kt,Ho,yF];show(P.set m ((hd.map al.aW).length:Int),hd.map al.aW++[(nodeAt t.ns m).dX ((nodeAt t.ns m).ap.map λk=>(P.set m ((hd.map al.aW).length:Int)).getD k.toNat 0)])=_;rw[bB,hX,tN,mu,<-c4,cR,b'];rfl
   ·simp only;intro x ab;rcases c1.1 ab with ab | ab
    ·exact(Aw x ab).mono bn
    ·simp only[eL]at ab;rw[ab,b'];refine⟨ai.k,ai.cf,ai.s1,ai.s2,ai.cH,ai.t,ai.lo,ai.hi,dB,λc ao=>?_⟩;have:=Ay c ao;exact⟨Z,Z⟩
   ·simp only;intro x ab;rcases c1.1 ab with ab | ab
    ·exact jP x ab
    ·simp only[eL]at ab;rw[ab,b'];exact Ay
   ·simp only;refine .perm (M1:=dY.ar 3++(dE b9 eo::(m9.ar 88++(back.ar 3++[])))) ?_ hw;simp
  ·have la:d.aF=0:=by have:¬ (0:Int)<(d.aF:Int):=dU aa;omega
   have aoL:d.ap=[]:=im Z;refine du.inv (ι:=Nat×aT×List Int) (λy=>{ bp:=[(2,.ref 2 0),(4,.ref 4 0),(5,.val back.val),(6,.val (.slice (some ⟨b9,0,none⟩) t.n t.n)),(7,.val out.val),(8,.val (.int .i64 out.n)),(9,.val (.int .i64 m)),(10,.ref 10 0),(11,.val y.2.1.val),(24,.val back.val),(25,.val (.int .i64 back.n)),(26,.val (.int .i64 out.n)),(52,.val y.2.1.val),(53,.val (.int .i64 d.aF)),(54,.val (.int .i64 y.1))],cl:=[(2,t.cells),(4,[.slice none 0 0,.int .i64 0]),(10,d.cells)],cO:=J,c5:=y.2.1.ar 3++(dE b9 eo::(out.ar 88++(back.ar 3++[]))) }) (λy=>ab1 d eo y) (λy=>d.aF-y.1) ?_ ?_;·refine⟨(0,hL,d.ap),⟨dQ _,by rw[aoL];exact kL 1,la.symm,am⟩,.refl,.cons .refl (.cons .refl (.cons .refl (.cons .refl (.cons .refl (.cons .refl (.cons .refl (.cons .refl (.cons .refl (.cons .refl (.cons .refl (.cons .refl (.cons .refl (.cons ?_ (.cons .refl .nil)))))))))))))),.cons rfl (.cons rfl (.cons rfl (.nil)))⟩;simp only;rw[la];exact .refl
   rintro⟨k,dY,ft⟩⟨ae,jb,Fl,c4⟩;simp only at ae jb Fl c4;have SN:∀ x∈dY.ar 3,x∈dY.ar 3++(dE b9 eo::(out.ar 88++(back.ar 3++[]))):=λx ab=>iv _ ab;have SO:dE b9 eo∈dY.ar 3++(dE b9 eo::(out.ar 88++(back.ar 3++[]))):=by simp
   have D':ft.length=d.ap.length:=by rw[c4,cn,bB,fT,py];omega
   refine aZ.mk (λad=>?_) (λad=>?_)
   ·have e5:k<d.aF:=by have:(k:Int)<(d.aF:Int):=cT ad;omega
    have iR:k<d.ap.length:=by omega
    have vB:k<ft.length:=by omega
    have ak:=hJ _ (bK iR);have vC:d.ap[k].toNat<eo.length:=by omega
    have CQ:eo.getD d.ap[k].toNat 0=eo[d.ap[k].toNat]:=by simp[bT,vC]
    have II:ft[k]=d.ap[k]:=by
     have aj:ft[k]?=d.ap[k]?:=by rw[c4,lO v4,bB,fT,pf Z,mh,oq,pg]
     rw[dy vB,dy iR]at aj;exact e1 aj
    obtain⟨gn,fk,fc⟩:=aT.ok.row (I:=J) (M:=dY.ar 3++(dE b9 eo::(out.ar 88++(back.ar 3++[])))) (e:=3) (f:=ir) (size:=1) (λ_=>rfl) bv jb SN vB;rw[II]at fc;refine bt.mk gn k fk rfl (show k<dY.n by omega) ?_;refine aU.mk _ fc ?_;refine bt.mk ⟨b9,0,none⟩ d.ap[k].toNat rfl Z Z ?_;refine aU.mk _ (GK SO vC) ?_;refine bt.mk gn k fk rfl (show k<dY.n by omega) ?_;refine aT.HT ir 1 (λ_=>rfl) (e:=3) jb vB eo[d.ap[k].toNat] rfl [] (dE b9 eo::(out.ar 88++(back.ar 3++[]))) rfl fk ?_;intro oM ma m8 lq iX;refine be.mk _ (c9 (i:=k) Z) ?_;refine⟨(k+1,oM,ft.set k eo[d.ap[k].toNat]),⟨⟨e5,iX,lq.trans Fl,?_⟩,ce⟩,.refl,.cons .refl (.cons .refl (.cons .refl (.cons .refl (.cons .refl (.cons .refl (.cons .refl (.cons .refl (.cons ?_ (.cons .refl (.cons .refl (.cons .refl (.cons ?_ (xG))))))))))))),.cons rfl (.cons rfl (.cons rfl (.nil)))⟩;·simp only;rw[c4,gk iR,cR,b0,hs,CQ,BH _ _ v4,bB,fT,pf Z,mh,e2 iR,BJ,dW];rfl
    ·simp only;rw[ma];exact .refl
    ·simp only;rw[ma];exact .refl
   have cV:k=d.aF:=by have:¬ (k:Int)<(d.aF:Int):=dU ad;omega
   subst cV;rw[fD Z,oU Z,dK]at c4;rw[og]at jb;refine bQ.mk λab3 ab4 ab5=>?_;have b':∃ cu:al,cu=⟨d.k,d.cf,d.s1,d.s2,d.cH,d.t,d.lo,d.hi,dY.a.map λg=>⟨g,0,none⟩,dY.n,dY.c,ft⟩:=⟨_,rfl⟩;obtain⟨cu,b'⟩:=b';have IJ:cu.cells=[.int .u8 d.k,.int .u64 d.cf,.int .u64 d.s1,.int .u64 d.s2,.int .u64 d.cH,.string d.t,.int .i64 d.lo,.int .i64 d.hi,.slice (dY.a.map λg=>⟨g,0,none⟩) dY.n dY.c]:=by rw[b'];rfl
   refine bC.lU a0 rfl am (e:=88) rfl rfl rfl out rU rfl (cs:=[.int .u8 d.k,.int .u64 d.cf,.int .u64 d.s1,.int .u64 d.s2,.int .u64 d.cH,.string d.t,.int .i64 d.lo,.int .i64 d.hi,.slice (dY.a.map λg=>⟨g,0,none⟩) dY.n dY.c]) rfl rfl rfl (dY.ar 3++[dE b9 eo]) (back.ar 3++[]) (by simp;rfl) Z H1 ?_;intro m9 SP ab6 Ax;refine be.mk _ (c9 (i:=out.n) Z) ?_;have Ay:∀ c∈ft,0<=c/\c<=rb.length:=λc ao=>by
    rw[c4]at ao;obtain⟨q,aO,rfl⟩:=c3.1 ao;have wF:=hJ q aO;have IK:q.toNat<eo.length:=by omega
    exact CP (eo.getD q.toNat 0) LT
   intro eY;obtain⟨mv,hw,bn,dB⟩:=aT.KL (I:=J) (b:=8) (e:=3) jb Z (λg aw=>eY.d ⟨g,.cells dY.aS.toArray 3 (0,0)⟩ ol) (dE b9 eo::(m9.ar 88++(back.ar 3++[])));refine⟨(out.n+1,eo,m9,hd++[cu],mv),⟨⟨ce,Mv,?_,by simp[hX],?_,?_,λb o h=>bn _ _ (a4 _ _ h),CP,?_⟩,ce⟩,?_,ku,.cons rfl (.cons rfl (.nil))⟩
   ·simp only;rw[fS];have:([cu].flatMap al.cells)=cu.cells:=by simp
    rw[this,IJ];exact Ax
   ·simp only;rw[gk yE,tB,ub,kt,Ho,yF];show(P.set m ((hd.map al.aW).length:Int),hd.map al.aW++[(nodeAt t.ns m).dX ((nodeAt t.ns m).ap.map λk=>(P.set m ((hd.map al.aW).length:Int)).getD k.toNat 0)])=_;rw[bB,hX,tN,mu,<-c4,cR,b'];rfl
   ·simp only;intro x ab;rcases c1.1 ab with ab | ab
    ·exact(Aw x ab).mono bn
    ·simp only[eL]at ab;rw[ab,b'];refine⟨ai.k,ai.cf,ai.s1,ai.s2,ai.cH,ai.t,ai.lo,ai.hi,dB,λc ao=>?_⟩;have:=Ay c ao;exact⟨Z,Z⟩
   ·simp only;intro x ab;rcases c1.1 ab with ab | ab
    ·exact jP x ab
    ·simp only[eL]at ab;rw[ab,b'];exact Ay
   ·simp only;refine .perm (M1:=dY.ar 3++(dE b9 eo::(m9.ar 88++(back.ar 3++[])))) ?_ hw;simp
 have cV:out.n=rb.length:=by have:¬ (out.n:Int)<(back.n:Int):=dU h;omega
 refine be.mk ((hd.length:Int)-1) rg ?_;intro eY;obtain⟨mv,hw,bn,dB⟩:=aT.KL (I:=J) (b:=96) (e:=88) rU Z (λg aw=>eY.d ⟨g,.cells out.aS.toArray 88 (0,0)⟩ ol) [];refine⟨mv,[],.sub (M1:=out.ar 88++[]) (by rw[dK];exact .cons _ (w6 _ _)) hw,λb o h=>bn _ _ (a4 _ _ h),rfl,⟨hd,out.a.map λg=>⟨g,0,none⟩,out.n,out.c,(hd.length:Int)-1⟩,rfl,⟨dB,λd ai=>(Aw d ai).mono bn,⟨ce,ce⟩⟩,⟨?_,rfl⟩⟩;rw[fD Z]at ub;rw[nI,o4,<-g7]at *;rw[ub]
def IL(au:t.ok I)(af:right t=true)(aC:t.n<=1099511627776){node:Nat}(Fg:node<t.n) :
  Spec Tryz.prog 154 [t.val,.int .i64 node] I M0 λv I' M'=>(∀ b o,I b=some o->I' b=some o)/\M'=M0/\∃ bi:bs,v=bi.val/\bi.ok I'/\pP t node bi:=by
 refine Spec.jN (Spec.frame (aoK au af aC Fg)) ?_;rintro v J M⟨M',rfl,-,-,aa,rfl,bi,rfl,ad,aj⟩;exact⟨aa,rfl,bi,rfl,ad,aj⟩
def aoM(a6:en I ay)(au:t.ok I)(af:right t=true)(aC:t.n<=1099511627776)(eb:t.bx=(r:Int)) :
  Spec Tryz.prog 140 [t.val] I M0 λv I' M'=>(∀ b o,I b=some o->I' b=some o)/\M'=M0/\∃ bi:bs,v=bi.val/\bi.ok I'/\pP t r bi:=by
 refine bU [] a0 Tryz.func140 rfl rfl rfl ?_;intro B ax;have g7:=au.n;obtain⟨g0,hy⟩:=kE af;refine a8.mk [] M0 _ (.refl _) (nx a6.c au) ?_;rintro v J N -⟨rfl,a4,rfl⟩;subst J;refine aZ.mk (λh=>absurd h (by simp[af])) (λ_=>?_);have di:=IL (M0:=M0) au af aC (node:=r) Z;rw[<-eb]at di;refine a8.whole _ di ?_;rintro v J N -⟨a4,gJ,bi,rfl,jw,av⟩;subst N;rw[eb]at av;exact⟨_,_,.refl,a4,rfl,bi,rfl,jw,av⟩
def jx(g9:Int)(d:al):al:=d.dX (d.ap.map (·+g9))
structure aoN(I:aH)(ds:List al)(g9:Int)(os0:aT)(x:Nat×aT×List al×aH):Prop where
 i:x.1<=ds.length
 ok:x.2.1.ok 9 (x.2.2.1.flatMap al.cells)
 aW:x.2.2.1.map al.aW=(ds.take x.1).map (jx g9)++(ds.drop x.1).map al.aW
 ns:∀ d∈x.2.2.1,d.ok x.2.2.2
 le:∀ b o,I b=some o->x.2.2.2 b=some o
 a:x.2.1.a=os0.a
 v:x.2.1.val=os0.val
structure aoO(d:al)(g9:Int)(os0:aT)(y:Nat×aT×List Int):Prop where
 k:y.1<=d.aF
 ok:y.2.1.ok 1 (y.2.2.flatMap ir)
 eq:y.2.2=(d.ap.take y.1).map (·+g9)++d.ap.drop y.1
 a:y.2.1.a=os0.a
 v:y.2.1.val=os0.val
def aoP{ds:List al}{g9:Int}(hi:i<ds.length)(ej:L.map al.aW=(ds.take i).map (jx g9)++(ds.drop i).map al.aW){d:al}(ai:d.aW=jx g9 ds[i]):(L.set i d).map al.aW=(ds.take (i+1)).map (jx g9)++(ds.drop (i+1)).map al.aW:=by rw[ri,ej,gk hi,cR,e2 hi,b0,ai,BH _ _ v4,bB,fT,pf Z,mh,BJ,dW];rfl
def aoQ{ds:List al}{g9:Int}(hi:i<ds.length)(lk:i<L.length)(ej:L.map al.aW=(ds.take i).map (jx g9)++(ds.drop i).map al.aW):L[i].aW=ds[i].aW:=by
 have aa:(L.map al.aW)[i]?=some ds[i].aW:=by rw[ej,lO v4,bB,fT,pf Z,mh,e2 hi,b0];rfl
 rw[jJ,dy lk]at aa;exact e1 aa
def ab7{ds:List al}(h:cx I a n c 9 96 (ds.flatMap al.cells))(fE:∀ d∈ds,d.ok I)(g9:Int)(IM:∀ d∈ds,∀ k∈d.ap,eC (k+g9)) :
  Spec Tryz.prog 141 [.slice a n c,.int .i64 g9] I [] λv I' M'=>(∀ b o,I b=some o->I' b=some o)/\∃ (os:aT) (L:List al),v=os.val/\os.n=n/\os.ok 9 (L.flatMap al.cells)/\M'=os.ar 88/\L.map al.aW=ds.map (jx g9)/\∀ d∈L,d.ok I':=by
 refine xF [] a0 Tryz.func141 rfl rfl rfl ?_;intro B ax;have hk:=h.cap;have cQ:=h.len;rw[hc _ 9 al.cL]at cQ;have aC:ds.length=n:=by omega
 refine pi.mk n n rfl rfl (cc _) (by show 96*n<=_;omega) Z ?_;refine bQ.mk λdR BW KK=>?_;have bg:∀ z:List Value,z.length=9->(rowOf z (n*9)).length=n*9:=λz _=>by simp[s',madeCells]
 refine bC.SH a0 rfl am (e:=88) rfl rfl rfl (g:=dR) (n:=n) (c:=n) rfl (by rw[bg _ rfl];exact cc _) (sa:=a) (c':=c) rfl (b8:=ds.flatMap al.cells) h.len (λax=>h.yC _ ax) (Mo al.one _) [] [] rfl ?_;have di:∀ z:List Value,z.length=9->cd (rowOf z (n*9)) 0 (ds.flatMap al.cells)=ds.flatMap al.cells:=λz gL=>by unfold cd;rw[qi,hI,dn,oU (by rw[bg z gL,h.len];exact cc _),dK]
 have mY:(ds.flatMap al.cells).length=n*9:=h.len;obtain⟨os0,IN⟩:∃ os0:aT,os0=⟨some dR,n,n,cd (rowOf [.int .u8 0,.int .u64 0,.int .u64 0,.int .u64 0,.int .u64 0,.string ⟨#[]⟩,.int .i64 0,.int .i64 0,.slice none 0 0] (n*9)) 0 (ds.flatMap al.cells)⟩:=⟨_,rfl⟩;have Au:os0.ok 9 (ds.flatMap al.cells):=by
  rw[IN];refine⟨mY,(λh=>ci),λei jB=>⟨?_,cc _,i7,?_⟩⟩;·simp only;rw[di _ rfl,mY]
  ·simp only;rw[di _ rfl];exact fD (by rw[mY];exact cc _)
 have Io:os0.val=.slice (some ⟨dR,0,none⟩) n n:=by rw[IN];rfl
 have Mw:os0.a=some dR:=by rw[IN]
 have sv:os0.n=n:=by rw[IN]
 refine du.uD (ι:=Nat×aT×List al×aH) (λx=>{ bp:=[(1,.val (.int .i64 g9)),(5,.val (.slice (some ⟨dR,0,none⟩) n n)),(16,.val (.slice (some ⟨dR,0,none⟩) n n)),(17,.val (.int .i64 n)),(18,.val (.int .i64 x.1))],cl:=[],cO:=x.2.2.2,c5:=x.2.1.ar 88++[] }) (λx=>aoN I ds g9 os0 x) (λx=>n-x.1) ?_ ?_
 ·intro _;refine⟨(0,os0,ds,I),⟨dQ _,Au,am,fE,λ_ _ h=>h,rfl,rfl⟩,.m1 (by rw[IN];rfl),hh,.nil⟩
 rintro⟨i,os,L,J⟩⟨hi,b3,ej,oe,bn,ob,lx⟩;simp only at hi b3 ej oe bn ob lx;have IA:L.length=ds.length:=by have:=congrArg List.length ej;rw[bB,cn,bB,bB,fT,py]at this;omega
 have aoR:os.a=some dR:=ob.trans Mw;refine aZ.mk (λad=>?_) (λad=>?_)
 rotate_left
 ·have cV:i=n:=by have:¬ (i:Int)<(n:Int):=dU ad;omega
  intro eY;refine⟨_,_,.refl,bn,os,L,by rw[lx,Io],by rw[(yD lx).1,sv],b3,ak',?_,oe⟩;rw[ej,fD Z,oU Z,hs,dK]
 have a1:i<n:=by have:(i:Int)<(n:Int):=cT ad;omega
 have j5:i<ds.length:=by omega
 have lk:i<L.length:=by omega
 have Mx:=aoQ j5 lk ej;have hP:=oe _ (bK lk);have gm:L[i].ap=ds[i].ap:=by have:L[i].aW.ap=ds[i].aW.ap:=congrArg al.ap Mx;exact this
 have ab8:=IM _ (bK j5);obtain⟨aR,bI,bo⟩:=aT.ok.row (I:=J) (M:=os.ar 88++[]) (e:=88) al.cL bv b3 (λz bg=>iv _ bg) lk;obtain rfl:aR=⟨dR,0,none⟩:=by rw[aoR]at bI;exact(e1 bI).symm
 have iG:∀ d:al,d.aW=jx g9 ds[i]->(L.set i d).map al.aW=(ds.take (i+1)).map (jx g9)++(ds.drop (i+1)).map al.aW:=λd ai=>aoP j5 ej ai;have fj:∃ d,L[i]=d:=⟨_,rfl⟩;obtain⟨d,ai⟩:=fj;have fh:=hP.aF;refine bt.mk ⟨dR,0,none⟩ i rfl rfl a1 ?_;refine aU.mk _ bo ?_;refine bt.mk ⟨dR,0,none⟩ i rfl rfl a1 ?_;refine aT.EL (e:=88) al.cells 9 al.cL b3 lk 8 (vs:=[.slice none 0 0]) (bJ rfl) rfl (L[i].dX []) rfl [] [] am bI ?_;intro ig ma m8 lq iX;rw[ai]at Mx hP gm fh;refine aZ.mk (λaj=>?_) (λaj=>?_)
 ·have la:d.aF=0:=by have:((L[i].aF:Nat):Int)=0:=cT aj;rw[ai]at this;omega
  have nq:d.ap=[]:=im Z;refine be.mk _ (c9 (i:=i) Z) ?_;intro eY;refine⟨(i+1,ig,L.set i (L[i].dX []),J),⟨⟨ce,iX,iG _ ?_,λx ab=>?_,bn,m8.trans ob,ma.trans lx⟩,ce⟩,.refl,hh,.nil⟩;·rw[ai];show d.aW.dX []=jx g9 ds[i];rw[Mx,jx,<-gm,nq];rfl
  ·rcases w0 ab with ab | rfl
   ·exact oe _ ab
   ·rw[ai];exact⟨hP.k,hP.cf,hP.s1,hP.s2,hP.cH,hP.t,hP.lo,hP.hi,⟨rfl,⟨cc _,(show 0*8<=140737488355328 by decide)⟩,.inl rfl⟩,λk ae=>ap'⟩
 ·have la:0<d.aF:=by have:¬ ((L[i].aF:Nat):Int)=0:=dU aj;rw[ai]at this;omega
  have pN:=hP.bb.cap;have aoS:=hP.bb;have Bv:L[i].ca=d.ca/\L[i].aF=d.aF/\L[i].cr=d.cr:=by rw[ai];exact⟨rfl,rfl,rfl⟩
  refine pi.mk d.aF d.aF (by rw[Bv.2.1]) (by rw[Bv.2.1]) (cc _) ae' Z ?_;refine bQ.mk λdL sL ajI=>?_;have ab9:(rowOf [Value.int .i64 0] (d.aF*1)).length=d.aF:=by simp[s',madeCells]
  have aoT:cd (rowOf [Value.int .i64 0] (d.aF*1)) 0 (d.ap.map (.int .i64 ·))=d.ap.map (.int .i64 ·):=by unfold cd;rw[qi,hI,dn,oU (by rw[ab9,bB];omega),dK]
  refine bC.SH a0 rfl am (e:=3) rfl rfl rfl (g:=dL) (n:=d.aF) (c:=d.aF) (aS:=rowOf [Value.int .i64 0] (d.aF*1)) rfl (by rw[ab9];show d.aF*1<=_;omega) (sa:=d.ca) (c':=d.cr) (by rw[<-Bv.1,<-Bv.2.1,<-Bv.2.2];rfl) (b8:=d.ap.map (.int .i64 ·)) (by rw[bB];show _=d.aF*1;omega) (λax=>aoS.yC _ ax) (Ff _) [] (ig.ar 88++[]) rfl ?_;obtain⟨yG,Fm⟩:∃ yG:aT,yG=⟨some dL,d.aF,d.aF,cd (rowOf [Value.int .i64 0] (d.aF*1)) 0 (d.ap.map (.int .i64 ·))⟩:=⟨_,rfl⟩;have aoU:yG.ok 1 (d.ap.flatMap ir):=by rw[Fm,og,aoT];refine⟨md,(λh=>ci),λei jB=>⟨aq',cc _,i7,fD md⟩⟩
  have axI:yG.val=.slice (some ⟨dL,0,none⟩) d.aF d.aF:=by rw[Fm];rfl
  have aoV:yG.a=some dL:=by rw[Fm]
  have aca:yG.n=d.aF:=by rw[Fm]
  refine du.inv (ι:=Nat×aT×List Int) (λy=>{ bp:=[(1,.val (.int .i64 g9)),(5,.val (.slice (some ⟨dR,0,none⟩) n n)),(6,.val (.int .i64 i)),(7,.ref 7 0),(8,.val (.slice (some ⟨dL,0,none⟩) d.aF d.aF)),(16,.val (.slice (some ⟨dR,0,none⟩) n n)),(17,.val (.int .i64 n)),(18,.val (.int .i64 i)),(39,.val (.slice (some ⟨dL,0,none⟩) d.aF d.aF)),(40,.val (.int .i64 d.aF)),(41,.val (.int .i64 y.1))],cl:=[],cO:=J,c5:=y.2.1.ar 3++(ig.ar 88++[]) }) (λy=>aoO d g9 yG y) (λy=>d.aF-y.1) ?_ ?_;·exact⟨(0,yG,d.ap),⟨dQ _,aoU,am,rfl,rfl⟩,.m1 (by rw[Fm];rfl),Gp,.nil⟩
  rintro⟨k,dY,ft⟩⟨ae,jb,c4,Fo,hJ⟩;simp only at ae jb c4 Fo hJ;have acb:dY.a=some dL:=Fo.trans aoV;have D':ft.length=d.ap.length:=by rw[c4,cn,bB,fT,py];omega
  refine aZ.mk (λaJ=>?_) (λaJ=>?_)
  ·have e5:k<d.aF:=by have:(k:Int)<(d.aF:Int):=cT aJ;omega
   have iR:k<d.ap.length:=by omega
   have vB:k<ft.length:=by omega
   have II:ft[k]=d.ap[k]:=by
    have aj:ft[k]?=d.ap[k]?:=by rw[c4,lO v4,bB,fT,pf Z,mh,oq,pg]
    rw[dy vB,dy iR]at aj;exact e1 aj
   obtain⟨gn,fk,fc⟩:=aT.ok.row (I:=J) (M:=dY.ar 3++(ig.ar 88++[])) (e:=3) (f:=ir) (size:=1) (λ_=>rfl) bv jb (λz bg=>iv _ bg) vB;obtain rfl:gn=⟨dL,0,none⟩:=by rw[acb]at fk;exact(e1 fk).symm
   rw[II]at fc;have gN:eC (d.ap[k]+g9):=ab8 _ (by rw[<-gm];exact bK iR);refine bt.mk ⟨dL,0,none⟩ k rfl rfl e5 ?_;refine aU.mk _ fc ?_;refine be.mk (d.ap[k]+g9) (wrap_i64 gN) ?_;refine bt.mk ⟨dL,0,none⟩ k rfl rfl e5 ?_;refine aT.HT ir 1 (λ_=>rfl) (e:=3) jb vB (d.ap[k]+g9) rfl [] (ig.ar 88++[]) rfl fk ?_;intro oM aoW aoX axJ aoY;refine be.mk _ (c9 (i:=k) Z) ?_;refine⟨(k+1,oM,ft.set k (d.ap[k]+g9)),⟨⟨e5,aoY,?_,aoX.trans Fo,aoW.trans hJ⟩,ce⟩,.refl,Gp,.nil⟩;simp only;rw[c4,gk iR,cR,b0,hs,BH _ _ v4,bB,fT,pf Z,mh,e2 iR,BJ,dW];rfl
  have cV:k=d.aF:=by have:¬ (k:Int)<(d.aF:Int):=dU aJ;omega
  rw[fD Z,oU Z,dK]at c4;rw[og]at jb;refine bt.mk ⟨dR,0,none⟩ i rfl rfl a1 ?_;have iy:i<(L.set i (L[i].dX [])).length:=by rw[rD];exact lk
  have mS:(L.set i (L[i].dX []))[i]=d.dX []:=by rw[List.getElem_set_self,ai]
  have b':∃ cu:al,cu=⟨d.k,d.cf,d.s1,d.s2,d.cH,d.t,d.lo,d.hi,some ⟨dL,0,none⟩,d.aF,d.aF,ft⟩:=⟨_,rfl⟩;obtain⟨cu,b'⟩:=b';refine aT.EL (e:=88) al.cells 9 al.cL iX iy 8 (vs:=[.slice (some ⟨dL,0,none⟩) d.aF d.aF]) (bJ rfl) rfl cu (by rw[mS,b'];rfl) (dY.ar 3) [] rfl (by rw[m8];exact bI) ?_;intro Mq Hc vz CN zl;rw[GC]at zl;refine be.mk _ (c9 (i:=i) Z) ?_;intro eY;obtain⟨mv,hw,gf,dB⟩:=aT.KL (I:=J) (b:=8) (e:=3) jb (by rw[(yD hJ).1,aca];omega) (λg aw=>eY.d ⟨g,.cells dY.aS.toArray 3 (0,0)⟩ ol) (Mq.ar 88++[]);refine⟨(i+1,Mq,L.set i cu,mv),⟨⟨ce,zl,iG _ ?_,λx ab=>?_,λb o h=>gf _ _ (bn _ _ h),(vz.trans m8).trans ob,(Hc.trans ma).trans lx⟩,ce⟩,hw,hh,.nil⟩;·rw[b',c4];show d.aW.dX (d.ap.map (·+g9))=jx g9 ds[i];rw[Mx,jx,gm];rfl
  ·rcases w0 ab with ab | rfl
   ·exact(oe _ ab).mono gf
   ·rw[acb,(yD hJ).1,(yD hJ).2,aca]at dB;have wq:yG.c=d.aF:=by rw[Fm]
    rw[wq]at dB;rw[b'];refine⟨hP.k,hP.cf,hP.s1,hP.s2,hP.cH,hP.t,hP.lo,hP.hi,dB,λq aO=>?_⟩;have aO:q∈ft:=aO;rw[c4]at aO;obtain⟨z,bg,rfl⟩:=c3.1 aO;exact ab8 z (by rw[<-gm];exact bg)
def aT.aoZ(h:os.ok size xs)(bc:∀ x∈os.ar e,x∈M)(ax:0<os.n):∃ aR,os.a.map (λg=>(⟨g,0,none⟩:Addr))=some aR/\c6 I M aR (os.n*size) xs:=by
 obtain⟨a,n,c,aS⟩:=os;cases a with
 |none=>have:=(h.nil rfl).1;simp only at this ax;omega| some g=>obtain⟨aa,ad,aj,aJ⟩:=h.cap g rfl;exact⟨_,rfl,rfl,aS.toArray,e,(0,0),.inr ⟨⟨g,.cells aS.toArray e (0,0)⟩,bc _ (.head _),rfl,rfl⟩,v6,h.len⟩
def ao0{ds:List al}(h:cx I a n c 9 96 (ds.flatMap al.cells))(fE:∀ d∈ds,d.ok I)(g9:Int)(IM:∀ d∈ds,∀ k∈d.ap,eC (k+g9)) :
  Spec Tryz.prog 141 [.slice a n c,.int .i64 g9] I M0 λv I' M'=>(∀ b o,I b=some o->I' b=some o)/\∃ (os:aT) (L:List al),v=os.val/\os.n=n/\os.ok 9 (L.flatMap al.cells)/\M'=os.ar 88++M0/\L.map al.aW=ds.map (jx g9)/\∀ d∈L,d.ok I':=by
 refine Spec.jN (Spec.frame (ab7 h fE g9 IM)) ?_;rintro v J M⟨M',rfl,-,-,aa,os,L,rfl,ad,aj,rfl,aJ,bD⟩;exact⟨aa,os,L,rfl,ad,aj,rfl,aJ,bD⟩
def ao1(n:Nat)(l:List al):l.map (jx (n:Int))=l.map λx=>x.dX (x.ap.map λk=>(n:Int)+k):=fR λx _=>by unfold jx;congr 1;exact fR λk _=>Int.add_comm _ _
def acc(z:Int)(ds:List al):(ds.map al.aW).map (jx z)=ds.map (jx z):=by rw[gj];rfl
def ao2(a6:en I ay){d:al}(ai:d.ok I){L:List bs}(bo:cx I ca L.length IE 2 32 (L.flatMap bs.cells))(bZ:∀ t∈L,t.ok I/\right t=true)(aC:(L.map (·.n)).sum<=1099511627776)(az:L.length<=1099511627776)(aE:fits d L.length=true) :
  Spec Tryz.prog 187 [d.val,.slice ca L.length IE] I [] λv I' M'=>(∀ b o,I b=some o->I' b=some o) /\
   ∃ (os cb:aT) (hd:List al) (cu:al),v=.tuple #[.agg #[os.val,.int .i64 ((hd.length:Nat):Int)],.bool true]/\os.n=hd.length+1/\os.n<=1099511627777/\os.ok 9 ((hd++[cu]).flatMap al.cells)/\M'=os.ar 88++(cb.ar 3++[])/\(∀ x∈hd,x.ok I') /\
    cb.ok 1 (cu.ap.map (.int .i64 ·))/\cb.n<=1099511627776/\cu.ca=cb.a.map (λg=>(⟨g,0,none⟩:Addr))/\cu.aF=cb.n/\cu.cr=cb.c/\cu.aW=d.dX cu.ap/\(∀ k∈cu.ap,eC k)/\(hd++[cu]).map al.aW=sJ d (L.map tG):=by
 refine bU [] a0 Tryz.func187 rfl rfl rfl ?_;intro B ax;refine a8.mk [] [] _ (.refl _) (OR a6.c ai L.length) ?_;rintro v IF N -⟨rfl,xD,rfl⟩;subst IF;refine aZ.mk (λh=>absurd h (by simp[aE])) (λ_=>?_);refine du.inv (ι:=Nat×aT×List al×aT×List Int×aH) (λx=>{ bp:=[(2,.ref 2 0),(4,.ref 4 0),(6,.val x.2.1.val),(7,.val x.2.2.2.1.val),(16,.val (.slice ca L.length IE)),(17,.val (.int .i64 L.length)),(18,.val (.int .i64 x.1))],cl:=[(2,d.cells),(4,[.slice none 0 0,.int .i64 0])],cO:=x.2.2.2.2.2,c5:=x.2.1.ar 88++(x.2.2.2.1.ar 3++[]) }) (ajD I L) (λx=>L.length-x.1) ?_ ?_
 ·exact⟨(0,hL,[],hL,[],I),⟨dQ _,kL 9,kL 1,rfl,rfl,(λd ai=>qr),λ_ _ h=>h,dQ _,(λk ae=>ap')⟩,.refl,q6,.cons rfl (.cons rfl (.nil))⟩
 rintro⟨i,out,hd,cb,SQ,J⟩⟨hi,rU,jE,c4,ub,bf,a4,hX,jP⟩;simp only at hi rU jE c4 ub bf a4 hX jP;have dt:=Xx L i;have vA:out.n=hd.length:=by have:=rU.len;rw[hc _ 9 al.cL]at this;omega
 have axK:=jE.pK;refine aZ.mk (λh=>?_) (λh=>?_)
 ·have a1:i<L.length:=by have:(i:Int)<(L.length:Int):=cT h;omega
  obtain⟨aR,bI,acd⟩:=(bo.mono a4).row (f:=bs.cells) (λ_=>rfl) a1 a1;obtain⟨SR,o5⟩:=bZ _ (bK a1);have IP:=SR.mono a4;have My:=Xx L (i+1);rw[Xy L i a1]at My;have ace:(L.take (i+1)).map tG=(L.take i).map tG++[tG L[i]]:=by rw[gk a1,cR];rfl
  have ao3:=Xy L i a1;generalize axL:L[i]=t at SR o5 IP acd My ace ao3;obtain⟨g0,hy⟩:=kE o5;obtain⟨r,eb⟩:=eh g0;have g7:=SR.n;refine bt.mk aR i bI rfl a1 ?_;refine aU.mk _ (acd _) ?_;refine a8.mk [] (out.ar 88++(cb.ar 3++[])) _ (.refl _) (nx (a6.mono a4).c IP) ?_;rintro v IF N -⟨rfl,xD,rfl⟩;subst IF;refine aZ.mk (λh=>absurd h (by simp[o5])) (λ_=>?_);have acf:=IL (M0:=out.ar 88++(cb.ar 3++[])) IP o5 Z (node:=r) Z;rw[<-eb]at acf;refine a8.whole _ acf ?_;rintro v h0 N -⟨g1,gJ,t1,rfl,tD,av⟩;subst N;have ow:=av;rw[eb]at ow;have h8:=Yn o5 (show r<t.ns.length by omega) ow;have uL:=Yo o5 (show r<t.ns.length by omega) ow;have dk:=Hf o5 t.ns.length r Z Z;have SS:=tD.n;have dp:tG t=t1.ns.map al.aW:=av.aW.symm;refine a8.whole _ (ao0 (M0:=out.ar 88++(cb.ar 3++[])) tD.bb tD.ns out.n λx ab k ae=>?_) ?_;·obtain⟨q,aO,rfl⟩:=iI ab;have:=lb h8 q aO k ae;exact⟨Z,Z⟩
  rintro v cv N -⟨cj,Ba,SU,rfl,H6,acg,gJ,ach,ao4⟩;subst N;have axM:SU.length=t1.n:=by have:=congrArg List.length ach;rw[bB,bB]at this;omega
  refine bC.zX a0 rfl am (e:=88) rfl rfl rfl out rU rfl (sa:=Ba.a.map λg=>⟨g,0,none⟩) (m:=Ba.n) (c':=Ba.c) (b8:=SU.flatMap al.cells) rfl acg.len (λax=>aT.aoZ acg (λz bg=>iv _ bg) ax) (Mo al.one _) (Ba.ar 88) (cb.ar 3++[]) rfl Z (by show(out.n+Ba.n)*96<=_;omega) ?_;intro m9 SP axN iX;refine be.mk ((m9.n:Int)-1) (by show IntKind.i64.wrap ((m9.n:Int)-1)=_;rw[wrap_i64 ⟨Z,Z⟩]) ?_;refine bQ.mk λdS z' ak6=>?_;refine bC.lU a0 rfl am (e:=3) rfl rfl rfl cb jE rfl (cs:=[.int .i64 ((m9.n:Int)-1)]) rfl rfl rfl (Ba.ar 88++m9.ar 88) [] (by rw[dW];rfl) Z (by show(cb.n+1)*8<=_;omega) ?_;intro ao5 Fl axO ao6;refine be.mk _ (c9 (i:=i) Z) ?_;have ao7:(tG t).length=t1.n:=by rw[dp,bB];exact SS
  refine⟨(i+1,m9,hd++SU,ao5,SQ++[(m9.n:Int)-1],cv),⟨⟨a1,?_,?_,FS,?_,λx ab=>?_,λb o h=>cj _ _ (g1 _ _ (a4 _ _ h)),?_,λk ae=>?_⟩,ce⟩,.sub (by rw[dW];exact mL _ _) .refl,q6,.cons rfl (.cons rfl (.nil))⟩;·simp only;rw[fS];exact iX
  ·simp only;rw[cR];exact ao6
  ·simp only;rw[ace,tB,ub,kt,Ho];show(hd.map al.aW++(tG t).map (λx=>x.dX (x.ap.map λk=>((hd.map al.aW).length:Int)+k)),SQ++[(((hd.map al.aW).length+(tG t).length:Nat):Int)-1])=_;rw[cR,ach,bB,ao7,dp,<-acc,<-vA,ao1];congr 3;omega
  ·rcases c1.1 ab with ab | ab
   ·exact(bf x ab).mono λb o h=>cj _ _ (g1 _ _ h)
   ·exact ao4 x ab
  ·simp only[cn];omega
  ·simp only at ae |-;rcases c1.1 ae with ae | ae
   ·have:=jP k ae;omega
   ·rw[eL]at ae;omega
 have cV:i=L.length:=by have:¬ (i:Int)<(L.length:Int):=dU h;omega
 subst cV;rw[fD (cc _)]at ub hX jP;refine bQ.mk λaxP axQ axR=>?_;refine bC.lU a0 rfl am (e:=88) rfl rfl rfl out rU rfl (cs:=[.int .u8 d.k,.int .u64 d.cf,.int .u64 d.s1,.int .u64 d.s2,.int .u64 d.cH,.string d.t,.int .i64 d.lo,.int .i64 d.hi,cb.val]) rfl rfl rfl [] (cb.ar 3++[]) rfl Z H1 ?_;intro os Fp aci ao8;refine be.mk ((hd.length:Nat):Int) (by show IntKind.i64.wrap ((os.n:Int)-1)=_;rw[wrap_i64 ⟨Z,Z⟩];omega) ?_;refine⟨_,_,.refl,a4,os,cb,hd,⟨d.k,d.cf,d.s1,d.s2,d.cH,d.t,d.lo,d.hi,cb.a.map λg=>⟨g,0,none⟩,cb.n,cb.c,SQ⟩,rfl,Z,Z,?_,rfl,bf,jE,Z,rfl,rfl,rfl,rfl,λk ae=>?_,?_⟩
 ·rw[fS];exact ao8
 ·have:=jP k ae;exact⟨Z,Z⟩
 ·rw[sJ,ub,cR];rfl
def ao9(a6:en I ay){d:al}(ai:d.ok I){L:List bs}(bo:cx I ca L.length IE 2 32 (L.flatMap bs.cells))(bZ:∀ t∈L,t.ok I/\right t=true)(aC:(L.map (·.n)).sum<=1099511627776)(az:L.length<=1099511627776)(aE:fits d L.length=true) :
  Spec Tryz.prog 187 [d.val,.slice ca L.length IE] I M0 λv I' M'=>(∀ b o,I b=some o->I' b=some o)/\M'=M0 /\
   ∃ bi:bs,v=.tuple #[bi.val,.bool true]/\bi.ok I'/\bi.bx=(bi.ns.length:Int)-1/\bi.ns.map al.aW=sJ d (L.map tG):=by
 refine Spec.jN (Spec.frame (Spec.jg (ao2 a6 ai bo bZ aC az aE))) ?_;rintro v J M⟨M',rfl,-,a4,rfl,-,I',M1,⟨aa,os,cb,hd,cu,rfl,hX,LQ,b3,rfl,bf,jE,jP,aK,ba,cA,ee,n8,ej⟩,bw⟩;have fc:=aT.jg (b:=8) bw jE (λz bg=>r6 _ (iv _ bg)) Z;have f:∀ {α:Type} (p:al->α),p cu.aW=p (d.dX cu.ap):=λp=>by rw[ee]
 refine⟨a4,rfl,⟨hd++[cu],os.a.map λg=>⟨g,0,none⟩,os.n,os.c,(hd.length:Nat)⟩,rfl,⟨aT.jg bw b3 (λz bg=>iv _ bg) Z,λx ab=>?_,⟨ce,ce⟩⟩,am,ej⟩;rcases c1.1 ab with ab | ab
 ·exact(bf x ab).mono bw.le
 ·rw[eL]at ab;subst ab;have uc:=ai.mono a4;refine⟨?_,?_,?_,?_,?_,?_,?_,?_,by rw[aK,ba,cA];exact fc,n8⟩
  ·have:x.k=d.k:=f al.k;rw[this];exact uc.k
  ·have:x.cf=d.cf:=f al.cf;rw[this];exact uc.cf
  ·have:x.s1=d.s1:=f al.s1;rw[this];exact uc.s1
  ·have:x.s2=d.s2:=f al.s2;rw[this];exact uc.s2
  ·have:x.cH=d.cH:=f al.cH;rw[this];exact uc.cH
  ·have:x.t=d.t:=f al.t;rw[this];exact uc.t
  ·have:x.lo=d.lo:=f al.lo;rw[this];exact uc.lo
  ·have:x.hi=d.hi:=f al.hi;rw[this];exact uc.hi
def SV{K:List Int}(ai:hz (A++(K++B))){x:Int}(ab:x∈K):kO (A++(K++B)) x=kO K x+(A.length:Int):=by have dD:x ∉ A:=λh=>(rC.1 ai).2.2 x h x (iv _ ab) rfl;unfold kO;rw[SL,bS dD,SL,b2 ab];omega
def acj{IQ:List Int}{k:Int}(ai:hz (IQ++[k])):kO (IQ++[k]) k=(IQ.length:Int):=by have dD:k ∉ IQ:=λh=>(rC.1 ai).2.2 k h k (.head _) rfl;unfold kO;rw[SL,bS dD,List.idxOf_cons_self];omega
section
variable{t:bs}(af:g8 t)
include af
theorem SW{j:Nat}(ah:j<t.ns.length){a9 post:List Int}{k:Int}(ae:(nodeAt t.ns j).ap=a9++k::post):ef t.ns j=a9.flatMap (ef t.ns)++(ef t.ns k++(post.flatMap (ef t.ns)++[(j:Int)])):=by rw[kN af ah,ae,fS,iA,dW,dW]
theorem apa{j:Nat}(ah:j<t.ns.length){a9 post:List Int}{k:Int}(ae:(nodeAt t.ns j).ap=a9++k::post):kO (ef t.ns j) k=((a9.flatMap (ef t.ns)).length:Int)+(ef t.ns k).length-1:=by
 have Mz:k∈(nodeAt t.ns j).ap:=by rw[ae];simp
 obtain⟨ax,aa⟩:=af.node ah Mz;obtain⟨q,rfl⟩:=eh ax;have aO:q<t.ns.length:=by omega
 have ai:=Hv af j ah;rw[SW af ah ae]at ai |-;rw[SV ai (Yh af aO)];have gm:=Hv af q aO;have e:=kN af aO;rw[e]at gm |-;rw[acj gm,cn,ep,hj];omega
theorem apb{j:Nat}(ah:j<t.ns.length){a9 post:List Int}{k:Int}(ae:(nodeAt t.ns j).ap=a9++k::post) :
  (((nI t.ns j).drop (a9.flatMap (ef t.ns)).length).take (ef t.ns k).length).map (jx (-((a9.flatMap (ef t.ns)).length:Int)))=nI t.ns k:=by
 have Mz:k∈(nodeAt t.ns j).ap:=by rw[ae];simp
 obtain⟨ax,aa⟩:=af.node ah Mz;obtain⟨q,rfl⟩:=eh ax;have aO:q<t.ns.length:=by omega
 have ai:=Hv af j ah;have aI:=Qa af q aO;have av:=SW af ah ae;rw[Em af ah,Em af aO];rw[av]at ai;have aK:(((ef t.ns j).map (nK t.ns (ef t.ns j))).drop (a9.flatMap (ef t.ns)).length).take (ef t.ns q).length=(ef t.ns q).map (nK t.ns (ef t.ns j)):=by rw[<-Ki,<-Kj];congr 1;rw[av,Ra,uG]
 rw[aK,gj];refine fR λb ag=>?_;show jx _ (nK t.ns (ef t.ns j) b)=nK t.ns (ef t.ns q) b;show(nodeAt t.ns b.toNat).dX (((nodeAt t.ns b.toNat).ap.map (kO (ef t.ns j))).map _)=(nodeAt t.ns b.toNat).dX _;congr 1;rw[gj];refine fR λx ab=>?_;obtain⟨i,hi,rfl⟩:=iI ag;have apc:x∈ef t.ns q:=uU (aI i hi x ab);show kO (ef t.ns j) x+_=_;rw[av,SV ai apc];omega
end
def apd{ds:List al}(h:cx I a n c 9 96 (ds.flatMap al.cells))(fE:∀ d∈ds,d.ok I)(g9:Int)(IM:∀ d∈ds,∀ k∈d.ap,eC (k+g9)) :
  Spec Tryz.prog 141 [.slice a n c,.int .i64 g9] I M0 λv I' M'=>(∀ b o,I b=some o->I' b=some o)/\M'=M0/\∃ (bN:Option Addr) (c':Nat) (L:List al),v=.slice bN n c'/\cx I' bN n c' 9 96 (L.flatMap al.cells)/\L.map al.aW=ds.map (jx g9)/\∀ d∈L,d.ok I':=by
 refine Spec.jN (Spec.frame (Spec.jg (ab7 h fE g9 IM))) ?_;rintro v J M⟨M',rfl,-,a4,rfl,-,I',M1,⟨aa,os,L,rfl,rfl,bf,rfl,ej,oe⟩,bw⟩;exact⟨a4,rfl,_,_,L,rfl,aT.jg bw bf (λ_ h=>h) h.cap.2,ej,λd ai=>(oe d ai).mono bw.le⟩
def cx.SX{f:α->List Value}(aE:∀ x,(f x).length=size){l:List α}(h:cx I a n c size b (l.flatMap f)){lo hi:Nat}(aa:lo<=hi)(ad:hi<=n)(az:l.length=n) :
  cx I (if c=lo then a else a.map (·.add (lo*size))) (hi-lo) (c-lo) size b (((l.drop lo).take (hi-lo)).flatMap f):=by
 have cQ:(((l.drop lo).take (hi-lo)).flatMap f).length=(hi-lo)*size:=by rw[hc f size aE,fT,py,az,pf Z]
 have hk:=h.cap;refine⟨cQ,⟨Z,jU (p' b (show hi-lo<=n by omega)) hk.2⟩,?_⟩;by_cases ax:hi-lo=0
 ·exact .inl ax
 ·right
  rcases h.rd with aC | ⟨aR,rfl,di,cs,T,an,bE,ak⟩;·omega
  ·have bz:¬ c=lo:=by omega
   rw[bS bz];refine⟨aR.add (lo*size),rfl,?_,cs,T,an,?_,?_⟩;·rw[eM _ di]
   ·rw[eM _ di];exact bE
   ·rw[eM _ di];have aK:((l.drop lo).take (hi-lo)).flatMap f=((l.flatMap f).drop (lo*size)).take ((hi-lo)*size):=by
     have au:∀ (l:List α) (k:Nat),(l.take k).flatMap f=(l.flatMap f).take (k*size):=λl k=>by
      by_cases ae:k<=l.length
      ·have e:l.flatMap f=(l.take k).flatMap f++(l.drop k).flatMap f:=by rw[<-fS,px]
       have ad:((l.take k).flatMap f).length=k*size:=by rw[hc f size aE,KX ae]
       rw[e,<-ad,uG]
      ·rw[fD Z,fD (by rw[hc f size aE];exact p' _ Z)]
     rw[au,aoB f size aE]
    rw[aK,<-ak,Dy,Dz,zh];congr 1;have:(hi-lo)*size<=n*size-lo*size:=by rw[<-Nat.sub_mul];exact p' _ Z
    omega
structure ape(I:aH)(t:bs)(ks:List Int)(x:Nat×aT×List bs×aH):Prop where
 i:x.1<=ks.length
 os:x.2.1.ok 2 (x.2.2.1.flatMap bs.cells)
 len:x.2.2.1.length=x.1
 le:∀ b o,I b=some o->x.2.2.2 b=some o
 all:∀ q (h:q<x.2.2.1.length),(x.2.2.1[q]).ok x.2.2.2/\pP t (ks.getD q 0) x.2.2.1[q]
def apf(a6:en I ay)(au:t.ok I)(af:right t=true)(aC:t.n<=1099511627776)(eb:t.bx=(r:Int)) : Spec Tryz.prog 67 [t.val] I M0 λv I' M'=>(∀ b o,I b=some o->I' b=some o)/\∃ (os:aT) (L:List bs),os.ok 2 (L.flatMap bs.cells)/\v=os.val/\M'=os.ar 24++M0 /\
  L.length=(nodeAt t.ns r).ap.length/\∀ q (h:q<L.length),(L[q]).ok I'/\pP t ((nodeAt t.ns r).ap.getD q 0) L[q]:=by
 refine bU [] a0 Tryz.func67 rfl rfl rfl ?_;intro B ax;have aM:=jd.1 af;have g7:=au.n;obtain⟨g0,hy⟩:=kE af;have eD:r<t.ns.length:=by omega
 refine a8.whole _ (aoM a6 au af aC eb) ?_;rintro v J N -⟨a4,gJ,t1,rfl,tD,av⟩;subst N;have uL:=Yo af eD av;have dk:=Hf af t.ns.length r eD Z;have SS:=tD.n;have gg:=Em aM eD;have rr:=Qb aM r eD;have Fq:t1.ns.length=(ef t.ns r).length:=by have:=congrArg List.length av.aW;rw[bB,gg,bB]at this;exact this
 have RJ:=kN aM eD;have gx:0<(ef t.ns r).length:=by rw[RJ];simp
 obtain⟨ks,eH⟩:∃ ks,(nodeAt t.ns r).ap=ks:=⟨_,rfl⟩;have Eo:(t1.ns[t1.ns.length-1]' Z).ap=ks.map (kO (ef t.ns r)):=by
  have aa:(t1.ns.map al.aW)[t1.ns.length-1]?=some (nK t.ns (ef t.ns r) r):=by
   rw[av.aW,gg,jJ];have:(ef t.ns r)[t1.ns.length-1]?=some (r:Int):=by rw[Fq,<-XK];exact Yi aM eD
   rw[this];rfl
  rw[jJ,dy Z]at aa;have ad:(t1.ns[t1.ns.length-1]' Z).aW.ap=(nK t.ns (ef t.ns r) r).ap:=congrArg al.ap (e1 aa);rw[<-eH];exact ad
 refine aZ.mk (λh=>?_) (λ_=>?_)
 ·have:(t1.n:Int)=0:=cT h;omega
 have pB:t1.bx=((t1.ns.length-1:Nat):Int):=by rw[av.bx];omega
 obtain⟨mW,mX,jn⟩:=tD.bb.row al.cL (show t1.ns.length-1<t1.n by omega) (show t1.ns.length-1<t1.ns.length by omega);have hP:=tD.ns _ (bK (show t1.ns.length-1<t1.ns.length by omega));generalize t1.ns[t1.ns.length-1]' Z=d at Eo jn hP;have fh:=hP.aF;have c4:ks.length=d.aF:=by have:=congrArg List.length Eo;rw[bB]at this;omega
 have pN:=hP.bb.cap;have jP:ks.length<=t.ns.length:=by
  have aK:=D6 af eD;have ba:t.ns[r].ap=ks:=by rw[<-eH,gr eD]
  have cA:ks.length<=gO (lS t.ns) ks:=KU af λk ae=>by have:=aM.node eD (k:=k) (by rw[eH];exact ae);omega
  rw[ba]at aK;omega
 refine bt.mk mW (t1.ns.length-1) mX pB Z ?_;refine aU.mk _ ((jn _).part (k:=8) (m:=1) bv) ?_;refine du.inv (ι:=Nat×aT×List bs×aH) (λx=>{ bp:=[(1,.ref 1 0),(3,.val x.2.1.val),(4,.val (.int .i64 ((ks.take x.1).flatMap (ef t.ns)).length)),(19,.val (.slice d.ca d.aF d.cr)),(20,.val (.int .i64 d.aF)),(21,.val (.int .i64 x.1))],cl:=[(1,t1.cells)],cO:=x.2.2.2,c5:=x.2.1.ar 24++M0 }) (λx=>ape J t ks x) (λx=>ks.length-x.1) ?_ ?_
 ·exact⟨(0,hL,[],J),⟨dQ _,kL 2,rfl,λ_ _ h=>h,λq h=>absurd h (m6 _)⟩,.refl,y7,.cons rfl (.nil)⟩
 rintro⟨i,os,wC,cv⟩⟨hi,b3,Al,cj,eG⟩;simp only at hi b3 Al cj eG;have Fp:os.n=i:=by have:=b3.len;rw[hc _ 2 (λ_=>rfl),Al]at this;omega
 refine aZ.mk (λh=>?_) (λh=>?_)
 rotate_left
 ·have cV:i=d.aF:=by have:¬ (i:Int)<(d.aF:Int):=dU h;omega
  exact⟨_,_,.refl,λb o h=>cj _ _ (a4 _ _ h),os,wC,b3,rfl,rfl,by rw[eH];omega,by rw[eH];exact eG⟩
 have a1:i<d.aF:=by have:(i:Int)<(d.aF:Int):=cT h;omega
 have yH:i<ks.length:=by omega
 have SY:(nodeAt t.ns r).ap=ks.take i++ks[i]::ks.drop (i+1):=by rw[eH,<-e2 yH,px]
 have IR:=apa aM eD SY;have SZ:=apb aM eD SY;have ka:ks[i]∈(nodeAt t.ns r).ap:=by rw[eH];exact bK yH
 have apg:=aM.node eD ka;have lK:0<(ef t.ns ks[i]).length:=by obtain⟨q,aO⟩:=eh apg.1;have:=kN aM (j:=q) Z;rw[aO,this];simp
 have ack:((ks.take i).flatMap (ef t.ns)).length+(ef t.ns ks[i]).length<=t1.n:=by have:=congrArg List.length (SW aM eD SY);simp only[cn,ep,hj]at this;omega
 have n8:(ks.map (kO (ef t.ns r)))[i]'(by rw[bB];exact yH)=((ks.take i).flatMap (ef t.ns)).length+(ef t.ns ks[i]).length-1:=by rw[gh];exact IR
 obtain⟨gn,fk,fc⟩:=(hP.mono cj).bb.one a1 (show i<d.ap.length by omega);have aph:d.ap[i]' Z=(((ks.take i).flatMap (ef t.ns)).length:Int)+(ef t.ns ks[i]).length-1:=by simp only[Eo];exact n8
 rw[aph]at fc;have S0:((ks.take (i+1)).flatMap (ef t.ns)).length=((ks.take i).flatMap (ef t.ns)).length+(ef t.ns ks[i]).length:=by rw[gk yH,fS,cn];simp
 have api:ks.getD i 0=ks[i]:=by simp[bT,yH]
 have S1:=tD.mono cj;generalize((ks.take i).flatMap (ef t.ns)).length=A at SZ ack fc S0;generalize axS:(ef t.ns ks[i]).length=pW at SZ ack fc S0 lK;have dB:=cx.SX al.cL S1.bb (lo:=A) (hi:=A+pW) Z Z SS;have h8:=Yn af eD av;refine bt.mk gn i fk rfl a1 ?_;refine aU.mk _ (fc _) ?_;refine be.mk ((A+pW:Nat):Int) f8 ?_;refine kY.mk A (A+pW) rfl rfl Z (by have:=S1.bb.cap.1;omega) ?_;refine be.mk (-(A:Int)) (by first | exact wrap_i64 ⟨Z,Z⟩ | (rw[wrap_i64 ⟨Z,Z⟩];omega)) ?_;refine a8.whole _ (apd (M0:=os.ar 24++M0) dB (λx ab=>S1.ns x (Fk (uU ab))) (-(A:Int)) λx ab k ae=>?_) ?_
 ·obtain⟨q,aO,rfl⟩:=iI (Fk (uU ab));have:=lb h8 q aO k ae;exact⟨Z,Z⟩
 rintro v hN N -⟨hY,gJ,bN,c',MA,rfl,acm,apj,apk⟩;subst N;have apl:MA.length=pW:=by have:=acm.len;rw[hc _ 9 al.cL]at this;omega
 refine be.mk ((pW:Int)-1) f8 ?_;refine bQ.mk λaxT axU axV=>?_;refine bC.lU a0 rfl am (e:=24) rfl rfl rfl os b3 rfl (cs:=[.slice bN (A+pW-A) c',.int .i64 ((pW:Int)-1)]) rfl rfl rfl [] M0 rfl Z (by show(os.n+1)*32<=_;omega) ?_;intro ig lq gq iX;refine be.mk ((A+pW:Nat):Int) f8 ?_;refine be.mk _ (c9 (i:=i) Z) ?_;have e6:bs.ok hN ⟨MA,bN,A+pW-A,c',(pW:Int)-1⟩:=⟨acm,apk,⟨ce,ce⟩⟩;have j1:pP t ks[i] ⟨MA,bN,A+pW-A,c',(pW:Int)-1⟩:=by refine⟨?_,by simp only[apl]⟩;simp only;rw[apj,<-SZ,<-acc,Kj,Ki,av.aW,show A+pW-A=pW by omega]
 refine⟨(i+1,ig,wC++[⟨MA,bN,A+pW-A,c',(pW:Int)-1⟩],hN),⟨⟨yH,?_,by simp[Al],λb o h=>hY _ _ (cj _ _ h),λq aO=>?_⟩,ce⟩,.refl,.cons .refl (.cons .refl (.cons ?_ (fQ))),.cons rfl (.nil)⟩
 ·simp only;rw[fS];exact iX
 ·simp only at aO |-;by_cases e:q<wC.length
  ·rw[zy e];exact⟨(eG q e).1.mono hY,(eG q e).2⟩
  ·have:q=i:=by simp at aO;omega
   subst this;rw[B4 Z];simp only[Al,mh,ti];rw[api];exact⟨e6,j1⟩
 ·simp only;rw[S0];exact .refl
section
end
section
end
open Classical in
def acn{ds:List a3}:i∈rQ ds F ↔ i<ds.length/\ms (lY ds F) i i:=by unfold rQ;rw[nV,j9,decide_eq_true_iff]
def IS{g:cE}:dO ay g=0 ↔ g.n≠0/\n6 g.ds=true/\pJ ay g=false/\(∀ i,i<g.ds.length->pT g.ds i=true)/\∀ d∈g.ds,∀ n∈d.t.ns,n.k=3->0<=eO n.t g.ds 0:=by
 rw[<-aba];have eG:(g.ds.all λd=>d.t.ns.all (yx g.ds))=true ↔ ∀ d∈g.ds,∀ n∈d.t.ns,n.k=3->0<=eO n.t g.ds 0:=by
  simp only[fN,yx,nj,xo,ss,h3];constructor
  ·intro h d ai n aC aj;rcases h d ai n aC with h | h
   ·exact absurd aj h
   ·exact h
  ·intro h d ai n aC;by_cases aj:n.k=3
   ·exact .inr (h d ai n aC aj)
   ·exact .inl aj
 have aE:(List.range g.ds.length).all (pT g.ds)=true ↔ ∀ i,i<g.ds.length->pT g.ds i=true:=by simp[fN]
 rw[<-eG,<-aE];unfold Ma;by_cases aa:g.n=0
 ·rw[gy Z,cF];exact⟨(λh=>ci),(λh=>absurd aa h.1)⟩
 ·rw[e8 Z,cD];cases n6 g.ds with
  |false=>exact⟨(λh=>ci),(λh=>by cases h.2.1)⟩| true=>
  cases pJ ay g with
  |true=>exact⟨(λh=>ci),(λh=>by cases h.2.2.1)⟩| false=>
  cases(List.range g.ds.length).all (pT g.ds)with
  |false=>exact⟨(λh=>ci),(λh=>by cases h.2.2.2.1)⟩| true=>
  cases(g.ds.all λd=>d.t.ns.all (yx g.ds))with
  |false=>exact⟨(λh=>ci),(λh=>by cases h.2.2.2.2)⟩| true=>exact⟨λ_=>⟨aa,rfl,rfl,rfl,rfl⟩,λ_=>rfl⟩
def ly(ds:List a3):cE:=⟨ds,none,ds.length,0⟩
section
variable{α:Type}{z:α}{F:al->List α->α}
def S2{f:al->(Int->α)->α}:∀ (a b:List al) (a5:List α),gF z f (a++b) a5=gF z f b (gF z f a a5)
 |[],b,a5=>rfl| d::a,b,a5=>by rw[pz,gF,gF,S2 a b]
variable(bw:∀ d l,F (d.dX l)=F d)
include bw
theorem aco{n:Nat}{a5:List α}(aC:a5.length=n):∀ (l:List al) (p:List α),(∀ d∈l,∀ k∈d.ap,0<=k)->gF z (λd g=>F d (d.ap.map g)) (l.map λx=>x.dX (x.ap.map λk=>(n:Int)+k)) (a5++p)=a5++gF z (λd g=>F d (d.ap.map g)) l p
 |[],p,_=>rfl
 |d::l,p,h=>by
  have e:F (d.dX (d.ap.map λk=>(n:Int)+k)) ((d.ap.map λk=>(n:Int)+k).map λk=>(a5++p).getD k.toNat z)=F d (d.ap.map λk=>p.getD k.toNat z):=by rw[bw,gj];congr 1;refine fR λk ae=>?_;have ax:=h d (.head _) k ae;show(a5++p).getD ((n:Int)+k).toNat z=_;rw[bT,lO Z,bT];congr 2;omega
  rw[b0,gF,gF];show gF z _ _ (a5++p++[F (d.dX (d.ap.map λk=>(n:Int)+k)) ((d.ap.map λk=>(n:Int)+k).map λk=>(a5++p).getD k.toNat z)])=_;rw[e,dW];exact aco aC l _ λx ab=>h x (.tail _ ab)
def Az(z:α)(F:al->List α->α)(l:List al):α:=mf z (λd g=>F d (d.ap.map g)) l ((l.length:Int)-1)
theorem acp:∀ (fU:List (List al)) (a2:List al×List Int) (vs:List α),(∀ l∈fU,0<l.length/\∀ d∈l,∀ k∈d.ap,0<=k) -> (a2.2.map λk=>(gF z (λd g=>F d (d.ap.map g)) a2.1 []).getD k.toNat z)=vs->(∀ k∈a2.2,0<=k/\k<a2.1.length) -> ((fU.foldl ja a2).2.map λk=>(gF z (λd g=>F d (d.ap.map g)) (fU.foldl ja a2).1 []).getD k.toNat z)=vs++fU.map (Az z F)
 |[],a2,vs,_,h,_=>by simpa using h
 |l::fU,a2,vs,az,h,ae=>by
  obtain⟨v0,mb⟩:=az l (.head _);have cQ:(gF z (λd g=>F d (d.ap.map g)) a2.1 []).length=a2.1.length:=by rw[OU];simp
  have a6:gF z (λd g=>F d (d.ap.map g)) (ja a2 l).1 []=gF z (λd g=>F d (d.ap.map g)) a2.1 []++gF z (λd g=>F d (d.ap.map g)) l []:=by show gF z _ (a2.1++l.map λx=>x.dX (x.ap.map λk=>(a2.1.length:Int)+k)) []=_;rw[S2];have:=aco bw (z:=z) cQ l [] mb;rwa [dK]at this
  rw[kt];have:=acp fU (ja a2 l) (vs++[Az z F l]) (λx ab=>az x (.tail _ ab)) ?_ ?_;·rw[this,b0,dW];rfl
  ·rw[a6];show(a2.2++[((a2.1.length+l.length:Nat):Int)-1]).map _=_;rw[cR,<-h,b0,hs];congr 1
   ·refine fR λk hA=>?_;have:=ae k hA;rw[bT,sr (by rw[cQ];omega),bT]
   ·congr 1;rw[bT,lO (by rw[cQ];omega),cQ];unfold Az mf;rw[bT];congr 2;omega
  ·intro k hA;rcases c1.1 (show k∈a2.2++[((a2.1.length+l.length:Nat):Int)-1]from hA)with hA | hA
   ·have:=ae k hA;show 0<=k/\k<((a2.1++l.map λx=>x.dX (x.ap.map λk=>(a2.1.length:Int)+k)).length:Nat);rw[cn];omega
   ·rw[eL]at hA;show 0<=k/\k<((a2.1++l.map λx=>x.dX (x.ap.map λk=>(a2.1.length:Int)+k)).length:Nat);rw[cn,bB];omega
theorem apm{d:al}(az:∀ l∈fU,0<l.length/\∀ d∈l,∀ k∈d.ap,0<=k):Az z F (sJ d fU)=F d (fU.map (Az z F)):=by
 have h:=acp bw (z:=z) fU ([],[]) [] az rfl (λk ae=>ap');rw[hI]at h;have cQ:(gF z (λd g=>F d (d.ap.map g)) (fU.foldl ja ([],[])).1 []).length=(fU.foldl ja ([],[])).1.length:=by rw[OU];simp
 unfold Az mf sJ;rw[S2,gF,gF];show(_++[F (d.dX (fU.foldl ja ([],[])).2) ((fU.foldl ja ([],[])).2.map λk=>(gF z (λd g=>F d (d.ap.map g)) (fU.foldl ja ([],[])).1 []).getD k.toNat z)]).getD _ z=_;rw[h,bw,bT,lO (by rw[cQ];simp)];have eB:((((fU.foldl ja ([],[])).1++[d.dX (fU.foldl ja ([],[])).2]).length:Int)-1).toNat-(gF z (λd g=>F d (d.ap.map g)) (fU.foldl ja ([],[])).1 []).length=0:=by rw[cQ];simp
 rw[eB];rfl
end
def acq{α:Type}(z:α)(F:al->List α->α)(t:bs):α:=mf z (λd g=>F d (d.ap.map g)) t.ns t.bx
def S3(d:al)(l:List Int)(n:Int):fits (d.dX l) n=fits d n:=rfl
structure AA(a2:List al×List Int):Prop where
 fits:∀ d∈a2.1,fits d d.ap.length=true
 ap:∀ j (h:j<a2.1.length),∀ k∈a2.1[j].ap,0<=k/\k<j
 diff:hz (eI a2.1)
 all:∀ j:Nat,j<a2.1.length->((j:Int)∈eI a2.1 ↔ (j:Int) ∉ a2.2)
 cb:hz a2.2
 IT:∀ k∈a2.2,0<=k/\k<a2.1.length
def MB{l:List al}(h:∀ j (h:j<l.length),∀ k∈l[j].ap,0<=k/\k<j):∀ k∈eI l,0<=k/\k<l.length:=λk ae=>by obtain⟨d,ai,jE⟩:=hl.1 ae;obtain⟨j,ah,rfl⟩:=iI ai;have:=h j ah k jE;omega
def apn(n:Int)(l:List al):eI (l.map λx=>x.dX (x.ap.map λk=>n+k))=(eI l).map λk=>n+k:=by unfold eI;rw[yb,Av];rfl
def AA.step{a2:List al×List Int}(h:AA a2){l:List al}(az:g8 (iK l)):AA (ja a2 l):=by
 have pB:=az.bx;have mb:=MB (l:=l) az.ap;have Fs:=MB h.ap;have eG:eI (ja a2 l).1=eI a2.1++(eI l).map λk=>(a2.1.length:Int)+k:=by show eI (a2.1++_)=_;rw[<-apn];unfold eI;rw[fS]
 have cQ:(ja a2 l).1.length=a2.1.length+l.length:=by show(a2.1++_).length=_;rw[cn,bB]
 have jE:(ja a2 l).2=a2.2++[((a2.1.length+l.length:Nat):Int)-1]:=rfl;have mK:(iK l).bx=(l.length:Int)-1:=rfl;have su:(iK l).ns=l:=rfl;rw[mK,su]at pB;refine⟨λd ai=>?_,λj ah k ae=>?_,?_,λj ah=>?_,?_,λk ae=>?_⟩
 ·rcases c1.1 (show d∈a2.1++l.map (λx=>x.dX (x.ap.map λk=>(a2.1.length:Int)+k))from ai)with ai | ai
  ·exact h.fits d ai
  ·obtain⟨x,ab,rfl⟩:=c3.1 ai;obtain⟨j,ah,rfl⟩:=iI ab;have:=az.fits j ah;rw[S3];show Go.V.fits l[j] (((l[j].ap.map λk=>(a2.1.length:Int)+k).length:Nat):Int)=true;rw[bB];exact this
 ·have ah:j<(a2.1++l.map (λx=>x.dX (x.ap.map λk=>(a2.1.length:Int)+k))).length:=ah;have hA:k∈((a2.1++l.map (λx=>x.dX (x.ap.map λk=>(a2.1.length:Int)+k)))[j]'ah).ap:=ae;have na:j<a2.1.length+l.length:=by rw[<-cQ];exact ah
  by_cases gi:j<a2.1.length;·rw[zy gi]at hA;exact h.ap j gi k hA
  ·rw[B4 Z,gh]at hA;obtain⟨q,aO,rfl⟩:=c3.1 (show k∈(l[j-a2.1.length]' Z).ap.map (λk=>(a2.1.length:Int)+k)from hA);have:=az.ap (j-a2.1.length) (by show _<l.length;omega) q aO;omega
 ·rw[eG];refine rC.2 ⟨h.diff,B5.2 ((show hz (eI l)from az.diff).imp λbz e=>bz Z),λx ab y aG e=>?_⟩;obtain⟨q,aO,rfl⟩:=c3.1 aG;have aa:=Fs x ab;have ad:=mb q aO;omega
 ·rw[eG,jE,c1,c1,eL,c3];rw[cQ]at ah;by_cases gi:j<a2.1.length
  ·have a7:=h.all j gi;constructor
   ·rintro(aa | ⟨q,aO,e⟩)
    ·rintro(ad | ad)
     ·exact a7.1 aa ad
     ·omega
    ·have:=mb q aO;omega
   ·intro aa;exact .inl (a7.2 λad=>aa (.inl ad))
  ·have a7:=az.all (j-a2.1.length) (by show _<l.length;omega);rw[mK,su]at a7;constructor
   ·rintro(aa | ⟨q,aO,e⟩)
    ·have:=Fs _ aa;omega
    ·rintro(ad | ad)
     ·have:=h.IT _ ad;omega
     ·have ba:q=((j-a2.1.length:Nat):Int):=by omega
      rw[ba]at aO;exact a7.1 aO Z
   ·intro aa;refine .inr ⟨((j-a2.1.length:Nat):Int),a7.2 λe=>aa (.inr Z),Z⟩
 ·rw[jE];refine rC.2 ⟨h.cb,am,λx ab y aG e=>?_⟩;rw[eL]at aG;have:=h.IT x ab;omega
 ·rw[jE]at ae;rw[cQ];rcases c1.1 ae with ae | ae
  ·have:=h.IT k ae;omega
  ·rw[eL]at ae;omega
def AA.acr:∀ (fU:List (List al)) (a2:List al×List Int),AA a2->(∀ l∈fU,g8 (iK l))->AA (fU.foldl ja a2)/\(fU.foldl ja a2).2.length=a2.2.length+fU.length
 |[],a2,h,_=>⟨h,rfl⟩| l::fU,a2,h,az=>by obtain⟨aa,ad⟩:=AA.acr fU (ja a2 l) (h.step (az l (.head _))) λx ab=>az x (.tail _ ab);refine⟨aa,?_⟩;rw[kt,ad];show(a2.2++[_]).length+_=_;simp;omega
def apo{d:al}(az:∀ l∈fU,g8 (iK l))(aE:fits d fU.length=true):g8 (iK (sJ d fU)):=by
 obtain⟨h,c4⟩:=AA.acr fU ([],[]) ⟨(λd ai=>qr),(λj h=>absurd h (m6 _)),.nil,(λj h=>absurd h (m6 _)),.nil,(λk ae=>ap')⟩ az;have Fs:=MB h.ap;unfold sJ;generalize fU.foldl ja ([],[])=a2 at h c4 Fs;have eG:eI (a2.1++[d.dX a2.2])=eI a2.1++a2.2:=by unfold eI;rw[fS];simp[al.dX]
 have cQ:(a2.1++[d.dX a2.2]).length=a2.1.length+1:=by simp
 refine⟨?_,λj ah=>?_,λj ah k ae=>?_,?_,λj ah=>?_⟩
 ·show 0<=(((a2.1++[d.dX a2.2]).length:Nat):Int)-1/\(((a2.1++[d.dX a2.2]).length:Nat):Int)-1<((a2.1++[d.dX a2.2]).length:Nat);omega
 ·have ah:j<(a2.1++[d.dX a2.2]).length:=ah;show fits ((a2.1++[d.dX a2.2])[j]'ah) ((((a2.1++[d.dX a2.2])[j]'ah).ap.length:Nat):Int)=true;rcases c1.1 (bK ah)with hm | hm
  ·exact h.fits _ hm
  ·rw[eL.1 hm,S3];show fits d (a2.2.length:Nat)=true;rw[c4];simpa using aE
 ·have ah:j<(a2.1++[d.dX a2.2]).length:=ah;have ae:k∈((a2.1++[d.dX a2.2])[j]'ah).ap:=ae;by_cases gi:j<a2.1.length
  ·rw[zy gi]at ae;exact h.ap j gi k ae
  ·have jA:j<(a2.1++[d.dX a2.2]).length:=ah;have e:j=a2.1.length:=by omega
   subst e;rw[B4 Z]at ae;have ae:k∈a2.2:=by simpa[al.dX]using ae
   have:=h.IT k ae;omega
 ·show hz (eI (a2.1++[d.dX a2.2]));rw[eG];refine rC.2 ⟨h.diff,h.cb,λx ab y aG e=>?_⟩;subst e;have aa:=Fs x ab;obtain⟨q,rfl⟩:=eh aa.1;exact(h.all q Z).1 ab aG
 ·show(j:Int)∈eI (a2.1++[d.dX a2.2]) ↔ (j:Int)≠(((a2.1++[d.dX a2.2]).length:Nat):Int)-1;have ah:j<(a2.1++[d.dX a2.2]).length:=ah;rw[eG,c1,cQ];by_cases gi:j<a2.1.length
  ·have a7:=h.all j gi;constructor
   ·intro _;omega
   ·intro _;by_cases hm:(j:Int)∈a2.2
    ·exact .inr hm
    ·exact .inl (a7.2 hm)
  ·constructor
   ·rintro(aa | aa)
    ·have:=Fs _ aa;omega
    ·have:=h.IT _ aa;omega
   ·intro bz;omega
def acs:∀ (fU:List (List al)) (a2:List al×List Int),(fU.foldl ja a2).1.length=a2.1.length+(fU.map List.length).sum
 |[],a2=>by simp
 |l::fU,a2=>by rw[kt,acs fU];show(a2.1++_).length+_=_;rw[cn,bB,b0,hr];omega
def apq(d:al)(fU:List (List al)):(sJ d fU).length=(fU.map List.length).sum+1:=by unfold sJ;rw[cn,acs];simp
def MC{α:Type}{f g:α->Nat}:∀ {l:List α},(∀ x∈l,f x<=g x)->(l.map f).sum<=(l.map g).sum
 |[],_=>cc _| x::l,h=>by have aa:=h x (.head _);have ad:=MC (l:=l) λy aG=>h y (.tail _ aG);simp only[b0,hr];omega
def acu{x:Nat}:∀ {l:List Nat},x∈l->x<=l.sum
 |y::l,h=>by
  rw[hr];rcases er.1 h with rfl | h;·omega
  ·have:=acu h;omega
abbrev w7:=(aX×List Nat)×Bool
def apr:w7:=((cg,[]),false)
def ud(pl:List (ByteArray×Int))(F:List aX)(t:bs):w7:=acq apr (hO pl F) t
def acv(pl:List (ByteArray×Int))(F:List aX)(t:bs):ud pl F t=o2 pl F t.ns t.bx:=rfl
def aps(af:right t=true):(ud pl F t).1.1=(ey pl F t.ns []).getD t.bx.toNat cg:=by obtain⟨g0,hy⟩:=kE af;obtain⟨r,eb⟩:=eh g0;rw[acv,eb,Mg af (r+1) r Z Z,Qg]
theorem apt{a b:Bool}(h:(a||b)=true):a=true\/b=true:=by cases a<;>simp_all
structure S4{α:Type}(F:al->List α->α):Prop where
 ap:∀ d l,F (d.dX l)=F d
 one:∀ d x,d.k=4\/d.k=5->F d [x]=x
 nest:∀ d d' xs ys fe,d.k=4\/d.k=5->d'.k=d.k->F d (xs++F d' ys::fe)=F d (xs++(ys++fe))
 drop:∀ d d' xs fe,d.k=4->d'.k=0->F d (xs++F d' []::fe)=F d (xs++fe)
 apu:∀ d d',d.k=4->d'.k=0->F d []=F d' []
 apv:∀ d d',d.k=5->d'.k=1->d'.cf=0->d'.s1=0->d'.s2=0->d'.cH=0->F d []=F d' []
def IU(xs ys:List (aX×List Nat)):j4 (xs++ys)=j4 xs++bif xs.all (·.1.z)then j4 ys else []:=by
 induction xs with
 |nil=>rfl
 |cons x xs aQ=>
  rw[pz,j4,j4,aQ,xp];cases x.1.z<;>simp
def apw(ks:List aX)(a2:aX×Bool):(ks.foldl kM a2).1.z=(a2.1.z&&ks.all (·.z)):=by
 induction ks generalizing a2 with
 |nil=>simp| cons k ks aQ=>rw[kt,aQ,xp];simp[kM,Bool.and_assoc]
def acw(ks:List aX)(a2:aX×Bool):(ks.foldl kM a2).1.s=(a2.1.s||ks.any (·.s)):=by
 induction ks generalizing a2 with
 |nil=>simp| cons k ks aQ=>rw[kt,aQ,List.any_cons];simp[kM,Bool.or_assoc]
def IV(ks:List aX)(a2:aX×Bool):(ks.foldl kM a2).2=(a2.2&&ks.all (·.jI)):=by
 induction ks generalizing a2 with
 |nil=>simp| cons k ks aQ=>rw[kt,aQ,xp];simp[kM,Bool.and_assoc]
def apx(ks:List aX):∀ a2:aX×Bool,(ks.foldl kM a2).1.f=(a2.1.f||(a2.2&&(hv ks).1.f)):=by
 unfold hv
 induction ks with
 |nil=>intro a2;simp
 |cons k ks aQ=>
  intro a2;rw[kt,kt,aQ,aQ (kM _ k)];simp only[kM];cases a2.1.f<;>cases a2.2<;>cases k.f<;>cases k.jI<;>simp
def IW(ks:List aX):(hn ks).z=ks.all (·.z):=by show(hv ks).1.z=_;unfold hv;rw[apw,nY]
theorem S5(ks:List aX):(hn ks).jI=ks.all (·.jI):=by
 have aa:=IW ks;have ad:(hn ks).s=(ks.any (·.s)&&ks.all (·.jI)):=by show((hv ks).1.s&&(hv ks).2)=_;unfold hv;rw[acw,IV,yY,nY]
 have aj:(hn ks).jI=((hn ks).z||(hn ks).s):=rfl;rw[aj,aa,ad];clear aa ad aj
 induction ks with
 |nil=>rfl
 |cons k ks aQ=>
  rw[xp,List.any_cons,xp];have h:k.jI=(k.z||k.s):=rfl;rw[h,<-aQ];cases k.z<;>cases k.s<;>cases ks.all (·.z)<;>cases ks.any (·.s)<;>simp_all
def acx(xs ys fe:List aX):hn (xs++hn ys::fe)=hn (xs++(ys++fe)):=by
 have bg:(hn (xs++hn ys::fe)).z=(hn (xs++(ys++fe))).z:=by rw[IW,IW];simp[IW]
 have hu:(hv (xs++hn ys::fe)).2=(hv (xs++(ys++fe))).2:=by unfold hv;rw[IV,IV];simp[S5]
 have aE:(hn (xs++hn ys::fe)).f=(hn (xs++(ys++fe))).f:=by
  show(hv _).1.f=(hv _).1.f;have e:∀ a b:List aX,(hv (a++b)).1.f=((hv a).1.f||((hv a).2&&(hv b).1.f)):=by intro a b;show((a++b).foldl kM (⟨true,false,false⟩,true)).1.f=_;rw[tB,apx];rfl
  have aK:∀ (y:aX) (b:List aX),(hv (y::b)).1.f=(y.f||(y.jI&&(hv b).1.f)):=by intro y b;have:=e [y] b;rw[qy]at this;rw[this];show((false||(true&&y.f))||((true&&y.jI)&&_))=_;rw[yY,nY,nY]
  rw[e,e xs,aK,e ys,S5];have ba:(hv ys).2=ys.all (·.jI):=by unfold hv;rw[IV,nY]
  rw[ba];rfl
 have av:(hn (xs++hn ys::fe)).s=(hn (xs++(ys++fe))).s:=by
  have aa:∀ ks,(hn ks).s=(ks.any (·.s)&&ks.all (·.jI)):=by intro ks;show((hv ks).1.s&&(hv ks).2)=_;unfold hv;rw[acw,IV,yY,nY]
  rw[aa,aa];simp only[List.any_append,List.any_cons,GV,xp,S5,aa];cases xs.any (·.s)<;>cases ys.any (·.s)<;>cases fe.any (·.s)<;>cases xs.all (·.jI)<;>cases ys.all (·.jI)<;>cases fe.all (·.jI)<;>rfl
 cases a7:hn (xs++hn ys::fe);cases ag:hn (xs++(ys++fe));rw[a7,ag]at bg aE av;simp only at bg aE av;rw[bg,aE,av]
def apy(ks:List aX):∀ f:aX,ks.foldl oL f=oL f (pM ks):=by
 unfold pM
 induction ks with
 |nil=>intro f;simp[oL]
 |cons k ks aQ=>
  intro f;rw[kt,kt,aQ,aQ (oL _ k)];simp only[oL,aX.mk.injEq];refine⟨?_,?_,?_⟩<;>cases f.z<;>cases f.s<;>cases f.f<;>cases k.z<;>cases k.s<;>cases k.f<;>simp
def apz(xs ys fe:List aX):pM (xs++pM ys::fe)=pM (xs++(ys++fe)):=by show(xs++pM ys::fe).foldl oL _=(xs++(ys++fe)).foldl oL _;rw[tB,tB,tB,kt,<-apy ys]
def apA(x:aX):hn [x]=x:=by cases x with | mk z s f=>cases z<;>cases s<;>cases f<;>rfl
def apB(x:aX):pM [x]=x:=by cases x with | mk z s f=>cases z<;>cases s<;>cases f<;>rfl
def apC{d:al}(h:d.k=4)(ks:List aX):gz d ks=hn ks:=by unfold gz;simp[h]
def apD{d:al}(h:d.k=5)(ks:List aX):gz d ks=pM ks:=by unfold gz;simp[h]
def AB{d:al}(h:d.k=4)(xs:List w7):hO pl F d xs=((hn (xs.map (·.1.1)),j4 (xs.map (·.1))),xs.any (·.2)):=by unfold hO rH lg yA;simp only[apC h,h,gj];simp;rfl
def Ft{d:al}(h:d.k=5)(xs:List w7):hO pl F d xs=((pM (xs.map (·.1.1)),(xs.map (·.1)).flatMap (·.2)),xs.any (·.2)):=by unfold hO rH lg yA;simp only[apD h,h,gj];simp;rfl
def acy{d:al}(h:d.k=0):hO pl F d []=((⟨true,false,false⟩,[]),false):=by unfold hO rH lg yA gz;simp[h]
def apE{d:al}(h:d.k=1)(ax:d.kC=true):hO pl F d []=((⟨false,false,true⟩,[]),false):=by unfold hO rH lg yA gz;simp[h,ax]
def S6(pl:List (ByteArray×Int))(F:List aX):S4 (hO pl F):=by
 refine⟨λd l=>rfl,?_,?_,?_,?_,?_⟩
 ·rintro d x (h | h)
  ·rw[AB h];simp[apA,j4]
  ·rw[Ft h];simp[apB]
 ·rintro d d' xs ys fe (h | h) bd
  ·rw[h]at bd;rw[AB h,AB h,AB bd];have e:(xs++((hn (ys.map (·.1.1)),j4 (ys.map (·.1))),ys.any (·.2))::fe).map (·.1.1)=xs.map (·.1.1)++hn (ys.map (·.1.1))::fe.map (·.1.1):=by simp
   rw[e,acx];have ba:j4 ((xs++((hn (ys.map (·.1.1)),j4 (ys.map (·.1))),ys.any (·.2))::fe).map (·.1))=j4 ((xs++(ys++fe)).map (·.1)):=by rw[cR,b0,cR,cR,IU,IU (xs.map _),IU (ys.map _),j4];rw[IW];simp only[K1];rfl
   rw[ba];simp
  ·rw[h]at bd;rw[Ft h,Ft h,Ft bd];have e:(xs++((pM (ys.map (·.1.1)),(ys.map (·.1)).flatMap (·.2)),ys.any (·.2))::fe).map (·.1.1)=xs.map (·.1.1)++pM (ys.map (·.1.1))::fe.map (·.1.1):=by simp
   rw[e,apz];simp
 ·rintro d d' xs fe h bd;rw[AB h,AB h,acy bd];have e:(xs++((⟨true,false,false⟩,[]),false)::fe:List w7).map (·.1.1)=xs.map (·.1.1)++hn []::fe.map (·.1.1):=by simp;rfl
  rw[e,acx];have ba:j4 ((xs++((⟨true,false,false⟩,[]),false)::fe:List w7).map (·.1))=j4 ((xs++fe).map (·.1)):=by rw[cR,b0,cR,IU,IU,j4];rfl
  rw[ba];simp
 ·rintro d d' h bd;rw[AB h,acy bd];rfl
 ·rintro d d' h bd ax aa ad aj;rw[Ft h,apE bd (by unfold al.kC;simp[ax,aa,ad,aj])];rfl
inductive aN where
 |mk:Nat->List aN->aN
namespace aN
def br:aN->Nat
 |mk k _=>k
def sub:aN->List aN
 |mk _ ks=>ks
mutual
def cX:aN->List Nat
 |mk k ks=>MD ks++[k]
def MD:List aN->List Nat
 |[]=>[]| a::l=>cX a++MD l
end
def acz:∀ l:List aN,MD l=l.flatMap cX
 |[]=>rfl| a::l=>by rw[MD,acz l];rfl
def mw(k:Nat)(ks:List aN):cX (mk k ks)=ks.flatMap cX++[k]:=by rw[cX,acz]
def ind{P:aN->Prop}(h:∀ k ks,(∀ c∈ks,P c)->P (mk k ks)):∀ T,P T
 |mk k ks=>h k ks (λc ao=>ind h c)
def Fu:∀ T:aN,T.br∈T.cX
 |mk k ks=>by rw[mw];exact r6 _ (.head _)
end aN
inductive cB(ns:List al):aN->Prop
 |mk {k:Nat} {ks:List aN}:k<ns.length->(nodeAt ns k).ap=ks.map (λc=>(c.br:Int))->(∀ c∈ks,cB ns c)->cB ns (.mk k ks)
def rV(ns:List al):Prop:=∀ j (h:j<ns.length),∀ k∈ns[j].ap,0<=k/\k<j
def cB.inv{ns:List al}{k:Nat}{ks:List aN}(h:cB ns (.mk k ks)):k<ns.length/\(nodeAt ns k).ap=ks.map (λc=>(c.br:Int))/\∀ c∈ks,cB ns c:=by
 cases h with
 |mk aa ad aj=>exact⟨aa,ad,aj⟩
def cB.nb{ns:List al}:∀ {T:aN},cB ns T->T.br<ns.length
 | .mk k ks,h=>h.inv.1
def rV.node{ns:List al}(ae:rV ns){j:Nat}(ah:j<ns.length){k:Int}(h:k∈(nodeAt ns j).ap):0<=k/\k<j:=by rw[gr ah]at h;exact ae j ah k h
def IX{α β:Type}{R:α->β->Prop}:∀ {l:List α},(∀ x∈l,∃ y,R x y)->∃ m:List β,m.length=l.length/\∀ i (h:i<l.length) (bd:i<m.length),R l[i] m[i]
 |[],_=>⟨[],rfl,λi h=>absurd h (m6 _)⟩
 |x::l,h=>by
  obtain⟨y,aG⟩:=h x (.head _);obtain⟨m,hm,af⟩:=IX λa a7=>h a (.tail _ a7);refine⟨y::m,by simp[hm],λi hi cz=>?_⟩;cases i with
  |zero=>exact aG| succ i=>exact af i i6 (by simpa using cz)
def cB.ex{ns:List al}(ae:rV ns):∀ k,k<ns.length->∃ T:aN,T.br=k/\cB ns T:=by
 intro k
 induction k using Nat.strongRecOn with
 |_ k aQ=>
  intro az;obtain⟨ks,aa,ad⟩:=IX (R:=λ(x:Int) (T:aN)=>(T.br:Int)=x/\cB ns T) (l:=(nodeAt ns k).ap) λx ab=>by obtain⟨ax,aa⟩:=ae.node az ab;obtain⟨T,a6,dD⟩:=aQ x.toNat Z Z;exact⟨T,Z,dD⟩
  refine⟨.mk k ks,rfl,.mk az ?_ λc ao=>?_⟩;·refine oA WP λi hi cz=>?_;rw[gh];exact(ad i hi Z).1.symm
  ·obtain⟨i,hi,rfl⟩:=iI ao;exact(ad i Z hi).2
def cB.apF{ns:List al}:∀ {S:aN},cB ns S->∀ {T:aN},cB ns T->S.br=T.br->S=T:=by
 intro S
 induction S using aN.ind with
 |h k ks aQ=>
  intro cy T a6 e;cases T with
  |mk e4 IY=>
  obtain rfl:k=e4:=e;obtain⟨-,ad,aj⟩:=cy.inv;obtain⟨-,n2,x4⟩:=a6.inv;rw[ad]at n2;have az:ks.length=IY.length:=by simpa using congrArg List.length n2
  congr 1;refine oA az λi hi cz=>?_;have aJ:(ks.map (λc=>(c.br:Int)))[i]?=(IY.map (λc=>(c.br:Int)))[i]?:=by rw[n2]
  rw[jJ,jJ,dy hi,dy cz]at aJ;have bD:(ks[i].br:Int)=IY[i].br:=e1 aJ;exact aQ _ (bK hi) (aj _ (bK hi)) (x4 _ (bK cz)) Z
def cB.lt{ns:List al}:∀ {T:aN},cB ns T->∀ x∈T.cX,x<ns.length:=by
 intro T
 induction T using aN.ind with
 |h k ks aQ=>
  intro h x ab;obtain⟨aa,-,aj⟩:=h.inv;rw[aN.mw]at ab;rcases c1.1 ab with ab | ab;·obtain⟨c,ao,ab⟩:=hl.1 ab;exact aQ c ao (aj c ao) x ab
  ·rw[eL.1 ab];exact aa
def cB.S7{ns:List al}(ae:rV ns){k:Nat}{ks:List aN}(h:cB ns (.mk k ks)){c:aN}(ao:c∈ks):c.br<k:=by
 obtain⟨aa,ad,aj⟩:=h.inv;have:(c.br:Int)∈(nodeAt ns k).ap:=by rw[ad];exact c3.2 ⟨c,ao,rfl⟩
 have:=ae.node aa this;omega
def cB.le{ns:List al}(ae:rV ns):∀ {T:aN},cB ns T->∀ x∈T.cX,x<=T.br:=by
 intro T
 induction T using aN.ind with
 |h k ks aQ=>
  intro h x ab;obtain⟨aa,-,aj⟩:=h.inv;rw[aN.mw]at ab;rcases c1.1 ab with ab | ab;·obtain⟨c,ao,ab⟩:=hl.1 ab;have aJ:=aQ c ao (aj c ao) x ab;have bD:=h.S7 ae ao;show x<=k;omega
  ·rw[eL.1 ab];exact cc _
def cB.congr{ns:List al}:∀ {T:aN},cB ns T->(∀ x∈T.cX,x<jh.length/\(nodeAt jh x).ap=(nodeAt ns x).ap)->cB jh T:=by
 intro T
 induction T using aN.ind with
 |h k ks aQ=>intro h ab;obtain⟨aa,ad,aj⟩:=h.inv;have e5:=ab k (aN.Fu (.mk k ks));refine .mk e5.1 (by rw[e5.2,ad]) λc ao=>aQ c ao (aj c ao) λx apG=>ab x ?_;rw[aN.mw];exact iv _ (hl.2 ⟨c,ao,apG⟩)
def acA{ns m:List al}{k:Nat}(ae:k<ns.length):nodeAt (ns++m) k=nodeAt ns k:=by unfold nodeAt;rw[bT,bT,sr ae]
def Fv{ns:List al}{d:al}:nodeAt (ns++[d]) ns.length=d:=by unfold nodeAt;rw[bT,lO (cc _),mh];rfl
def cB.app{ns:List al}{T:aN}(h:cB ns T)(m:List al):cB (ns++m) T:=h.congr λx ab=>by have:=h.lt x ab;exact⟨aza,by rw[acA this]⟩
def apH{ns:List al}(ai:hz (eI ns)){j:Nat}(hi:i<ns.length)(ah:j<ns.length)(bz:i≠j){k:Int}(aa:k∈(nodeAt ns i).ap)(ad:k∈(nodeAt ns j).ap):False:=by
 rw[gr hi]at aa;rw[gr ah]at ad;have:=(Ea.1 ai).2;rw[PR]at this;rcases Nat.lt_or_gt_of_ne bz with h | h
 ·exact this i j hi ah h k aa k ad rfl
 ·exact this j i ah hi h k ad k aa rfl
def acB{ns:List al}(ai:hz (eI ns)){j:Nat}(ah:j<ns.length):hz (nodeAt ns j).ap:=by rw[gr ah];exact(Ea.1 ai).1 _ (bK ah)
def acC{α:Type}(f g:α->Nat):∀ l:List α,(l.map λx=>f x+g x).sum=(l.map f).sum+(l.map g).sum
 |[]=>rfl| a::l=>by simp only[b0,hr,acC f g l];omega
def acD{α β:Type}(g:β->Nat)(f:α->List β):∀ l:List α,((l.flatMap f).map g).sum=(l.map λa=>((f a).map g).sum).sum
 |[]=>rfl| a::l=>by rw[iA,cR,pG,acD g f l];rfl
def acE{α:Type}(x:Nat)(f:α->List Nat):∀ l:List α,(l.flatMap f).count x=(l.map λa=>(f a).count x).sum
 |[]=>rfl| a::l=>by rw[iA,List.count_append,acE x f l];rfl
def w8(ns:List al)(x y:Nat):Nat:=(nodeAt ns y).ap.count (x:Int)
def acF(x:Nat):∀ ks:List aN,(ks.map (λc=>(c.br:Int))).count (x:Int)=(ks.map λc=>if c.br=x then 1 else 0).sum
 |[]=>rfl
 |c::ks=>by
  rw[b0,List.count_cons,acF x ks,b0,hr];by_cases e:c.br=x;·subst e;simp;omega
  ·have:¬ ((c.br:Int)=x):=by omega
   simp[e,this]
def cB.count{ns:List al}(x:Nat):∀ {T:aN},cB ns T->T.cX.count x=(if T.br=x then 1 else 0)+(T.cX.map (w8 ns x)).sum:=by
 intro T
 induction T using aN.ind with
 |h k ks aQ=>
  intro h;obtain⟨aa,ad,aj⟩:=h.inv;have aK:(ks.map λc=>c.cX.count x)=ks.map λc=>(if c.br=x then 1 else 0)+(c.cX.map (w8 ns x)).sum:=fR λc ao=>aQ c ao (aj c ao);have ba:w8 ns x k=(ks.map λc=>if c.br=x then 1 else 0).sum:=by unfold w8;rw[ad,acF]
  rw[aN.mw,List.count_append,acE,aK,acC,cR,pG,acD,sX,List.sum_singleton,ba,List.count_singleton];show _+(if k == x then 1 else 0)=(if k=x then 1 else 0)+_;by_cases e:k=x;·simp[e];omega
  ·simp[e];omega
def cB.count_le{ns:List al}(ae:rV ns)(ai:hz (eI ns)){T:aN}(h:cB ns T):∀ (m x:Nat),ns.length-x<=m->T.cX.count x<=1
 |0,x,hm=>by
  have:x ∉ T.cX:=λab=>by have:=h.lt x ab;omega
  rw[SI this];omega
 |m+1,x,hm=>by
  rw[h.count x];by_cases aI:∃ p∈T.cX,(x:Int)∈(nodeAt ns p).ap
  ·obtain⟨p,acG,xU⟩:=aI;have rr:=h.lt p acG;have axW:=h.le ae p acG;have axX:=ae.node rr xU;have e:T.cX.map (w8 ns x)=T.cX.map λy=>if y=p then 1 else 0:=fR λy aG=>by
    by_cases e:y=p;·subst e;rw[b2 rfl];unfold w8;exact Nat.le_antisymm (List.nodup_iff_count.1 (acB ai rr) _) (List.count_pos_iff.2 xU)
    ·rw[bS e];unfold w8;exact SI λte=>apH ai (h.lt y aG) rr e te xU
   have ba:∀ l:List Nat,(l.map λy=>if y=p then 1 else 0).sum=l.count p:=λl=>by
    induction l with
    |nil=>rfl
    |cons a l aQ=>
     rw[b0,hr,aQ,List.count_cons];by_cases e:a=p;·simp[e];omega
     ·simp[e]
   rw[e,ba,bS Z,dn];exact cB.count_le ae ai h m p Z
  ·have e:(T.cX.map (w8 ns x)).sum=0:=by
    have:∀ l:List Nat,(∀ y∈l,(x:Int) ∉ (nodeAt ns y).ap)->(l.map (w8 ns x)).sum=0:=λl=>by
     induction l with
     |nil=>intro _;rfl| cons a l aQ=>intro az;rw[b0,hr,aQ λy aG=>az y (.tail _ aG)];unfold w8;rw[SI (az a (.head _))]
    exact this _ λy aG P2=>aI ⟨y,aG,P2⟩
   rw[e];split<;>omega
def cB.nodup{ns:List al}(ae:rV ns)(ai:hz (eI ns)){T:aN}(h:cB ns T):T.cX.Nodup:=
 List.nodup_iff_count.2 λx=>h.count_le ae ai (ns.length-x) x (cc _)
def ME(h:l.Nodup)(az:∀ x∈l,x<n):l.length<=n:=by have ad:=List.Nodup.length_le_of_subset h (l₂:=List.range n) λx ab=>j9.2 (az x ab);rwa [wR]at ad
def Fw{α β:Type}{f g:α->List β}:∀ {l:List α},(∀ c∈l,(f c).Sublist (g c))->(l.flatMap f).Sublist (l.flatMap g)
 |[],_=>.slnil| a::l,h=>by rw[iA,iA];exact(h a (.head _)).append (Fw λc ao=>h c (.tail _ ao))
def iu(d:al):Option Int:=if d.k=4\/d.k=5 then some d.k else none
namespace aN
section
variable(ns:List al)
mutual
def o6(cb:Option Int):aN->List aN
 |mk k ks=>if some (nodeAt ns k).k=cb then MF cb ks else [mk k ks]
def MF(cb:Option Int):List aN->List aN
 |[]=>[]| a::l=>o6 cb a++MF cb l
end
mutual
def fX(cb:Option Int):aN->List aN
 |mk k ks=>if some (nodeAt ns k).k=cb then vD cb ks else [mk k (vD (iu (nodeAt ns k)) ks)]
def vD(cb:Option Int):List aN->List aN
 |[]=>[]| a::l=>fX cb a++vD cb l
end
def acH(cb:Option Int):∀ l,MF ns cb l=l.flatMap (o6 ns cb)
 |[]=>rfl| a::l=>by rw[MF,acH cb l];rfl
def CR(cb:Option Int):∀ l,vD ns cb l=l.flatMap (fX ns cb)
 |[]=>rfl| a::l=>by rw[vD,CR cb l];rfl
def parts(T:aN):List aN:=T.sub.flatMap (o6 ns (iu (nodeAt ns T.br)))
def bu:aN->aN
 |mk k ks=>mk k (ks.flatMap (fX ns (iu (nodeAt ns k))))
def yI(cb:Option Int)(k:Nat)(ks:List aN):o6 ns cb (mk k ks)=if some (nodeAt ns k).k=cb then ks.flatMap (o6 ns cb)else [mk k ks]:=by rw[o6,acH]
def qM(cb:Option Int)(k:Nat)(ks:List aN):fX ns cb (mk k ks)=if some (nodeAt ns k).k=cb then ks.flatMap (fX ns cb)else [bu ns (mk k ks)]:=by rw[fX,CR,CR];rfl
def acI:∀ T,(bu ns T).br=T.br
 |mk k ks=>rfl
def apI(cb:Option Int):∀ T,(o6 ns cb T).map (bu ns)=fX ns cb T:=by
 intro T
 induction T using aN.ind generalizing cb with
 |h k ks aQ=>
  rw[yI,qM];split;·rw[Av];exact rG λc ao=>aQ c ao cb
  ·rfl
def acJ:∀ T,(bu ns T).sub=(parts ns T).map (bu ns)
 |mk k ks=>by show ks.flatMap _=(ks.flatMap _).map _;rw[Av];exact rG λc ao=>(apI ns _ c).symm
def apJ(cb:Option Int):∀ T,((o6 ns cb T).flatMap cX).Sublist T.cX:=by
 intro T
 induction T using aN.ind with
 |h k ks aQ=>
  rw[yI,mw];split;·rw[CO];exact(Fw λc ao=>aQ c ao).trans (w6 _ _)
  ·rw[oN,mw];exact .refl _
def apK(cb:Option Int):∀ T,((fX ns cb T).flatMap cX).Sublist T.cX:=by
 intro T
 induction T using aN.ind generalizing cb with
 |h k ks aQ=>
  rw[qM,mw];split;·rw[CO];exact(Fw λc ao=>aQ c ao cb).trans (w6 _ _)
  ·rw[oN];show((mk k (ks.flatMap (fX ns _))).cX).Sublist _;rw[mw,CO];exact(Fw λc ao=>aQ c ao _).append (.refl _)
def apL:∀ T,((bu ns T).cX).Sublist T.cX
 |mk k ks=>by show((mk k (ks.flatMap (fX ns _))).cX).Sublist _;rw[mw,mw,CO];exact(Fw λc ao=>apK ns _ c).append (.refl _)
def apM(cb:Option Int):∀ {T},cB jh T->∀ S∈o6 ns cb T,cB jh S:=by
 intro T
 induction T using aN.ind with
 |h k ks aQ=>
  intro h S cy;rw[yI]at cy;split at cy;·obtain⟨c,ao,cy⟩:=hl.1 cy;exact aQ c ao (h.inv.2.2 c ao) S cy
  ·rw[eL.1 cy];exact h
def acK{T:aN}(h:cB ns T):∀ S∈parts ns T,cB ns S:=by
 intro S cy;cases T with
 |mk k ks=>
 obtain⟨c,ao,cy⟩:=hl.1 cy;exact apM ns _ (h.inv.2.2 c ao) S cy
def apN:∀ {T},cB ns T->∀ cb,(∀ S,cB ns S->S.br∈(fX ns cb T).flatMap cX->S.br<jh.length/\(nodeAt jh S.br).ap=(parts ns S).map λc=>(c.br:Int))->∀ U∈fX ns cb T,cB jh U:=by
 intro T
 induction T using aN.ind with
 |h k ks aQ=>
  intro h cb H U eK;rw[qM]at eK H;split at eK;·rename_i e;rw[b2 e]at H;obtain⟨c,ao,eK⟩:=hl.1 eK;refine aQ c ao (h.inv.2.2 c ao) cb (λS cy hm=>H S cy ?_) U eK;rw[CO];exact hl.2 ⟨c,ao,hm⟩
  ·rename_i e;rw[bS e]at H;rw[eL.1 eK];have ax:=H (mk k ks) h (by simp;exact Fu (bu ns (mk k ks)));have he:=acJ ns (mk k ks);refine .mk ax.1 ?_ λapO S8=>?_
   ·rw[show(aN.mk k ks).br=k from rfl]at ax;rw[ax.2];show _=List.map _ (bu ns (mk k ks)).sub;rw[he,gj];exact fR λc ao=>by simp[acI]
   ·obtain⟨c,ao,S8⟩:=hl.1 S8;refine aQ c ao (h.inv.2.2 c ao) _ (λS cy hm=>H S cy ?_) apO S8;rw[oN];show S.br∈(mk k (ks.flatMap (fX ns _))).cX;rw[mw,CO];exact iv _ (hl.2 ⟨c,ao,hm⟩)
def apP{T:aN}(h:cB ns T)(H:∀ S,cB ns S->S.br∈(bu ns T).cX->S.br<jh.length/\(nodeAt jh S.br).ap=(parts ns S).map λc=>(c.br:Int)):cB jh (bu ns T):=by
 cases T with
 |mk k ks=>
 have e:fX ns none (mk k ks)=[bu ns (mk k ks)]:=by rw[qM,bS am]
 refine apN ns h none (λS cy hm=>H S cy ?_) _ (by rw[e];exact .head _);rw[e,oN]at hm;exact hm
end
end aN
inductive aP where
 |mk:al->List aP->aP
def al.bare(d:al):al:=d.dX []
def al.acL(d:al):d.bare.k=d.k:=rfl
def acM(d:al):iu d.bare=iu d:=rfl
namespace aP
def d:aP->al
 |mk d _=>d
def sub:aP->List aP
 |mk _ ks=>ks
def ind{P:aP->Prop}(h:∀ d ks,(∀ c∈ks,P c)->P (mk d ks)):∀ T,P T
 |mk d ks=>h d ks (λc ao=>ind h c)
section
variable{α:Type}(F:al->List α->α)
mutual
def fold:aP->α
 |mk d ks=>F d (MG ks)
def MG:List aP->List α
 |[]=>[]| a::l=>fold a::MG l
end
def acN:∀ l,MG F l=l.map (fold F)
 |[]=>rfl| a::l=>by rw[MG,acN l];rfl
def fold_eq(d:al)(ks:List aP):fold F (mk d ks)=F d (ks.map (fold F)):=by rw[fold,acN]
end
mutual
def fX(cb:Option Int):aP->List aP
 |mk d ks=>if some d.k=cb then vD cb ks else [mk d (vD (iu d) ks)]
def vD(cb:Option Int):List aP->List aP
 |[]=>[]| a::l=>fX cb a++vD cb l
end
def CR(cb:Option Int):∀ l,vD cb l=l.flatMap (fX cb)
 |[]=>rfl| a::l=>by rw[vD,CR cb l];rfl
def bu:aP->aP
 |mk d ks=>mk d (ks.flatMap (fX (iu d)))
def qM(cb:Option Int)(d:al)(ks:List aP):fX cb (mk d ks)=if some d.k=cb then ks.flatMap (fX cb)else [bu (mk d ks)]:=by rw[fX,CR,CR];rfl
end aP
namespace aN
section
variable(ns:List al)
mutual
def bare:aN->aP
 |mk k ks=>.mk (nodeAt ns k).bare (MH ks)
def MH:List aN->List aP
 |[]=>[]| a::l=>bare a::MH l
end
def acO:∀ l,MH ns l=l.map (bare ns)
 |[]=>rfl| a::l=>by rw[MH,acO l];rfl
def nc(k:Nat)(ks:List aN):bare ns (mk k ks)=.mk (nodeAt ns k).bare (ks.map (bare ns)):=by rw[bare,acO]
def apQ(cb:Option Int):∀ T,(fX ns cb T).map (bare ns)=(bare ns T).fX cb:=by
 intro T
 induction T using aN.ind generalizing cb with
 |h k ks aQ=>
  rw[qM,nc,aP.qM,al.acL];split;·rw[Av,yb];exact rG λc ao=>aQ c ao cb
  ·show [bare ns (mk k (ks.flatMap (fX ns _)))]=[aP.mk _ ((ks.map (bare ns)).flatMap (aP.fX (iu (nodeAt ns k).bare)))];rw[nc,Av,yb,acM];congr 2;exact rG λc ao=>aQ c ao _
def apR:∀ T,bare ns (bu ns T)=(bare ns T).bu
 |mk k ks=>by show bare ns (mk k (ks.flatMap (fX ns _)))=_;rw[nc,nc];show _=aP.mk _ ((ks.map (bare ns)).flatMap (aP.fX (iu (nodeAt ns k).bare)));rw[Av,yb,acM];congr 1;exact rG λc ao=>apQ ns _ c
def acP:∀ T,(∀ x∈cX T,(nodeAt jh x).bare=(nodeAt ns x).bare)->bare jh T=bare ns T:=by
 intro T
 induction T using aN.ind with
 |h k ks aQ=>intro h;rw[nc,nc,h k (Fu (mk k ks))];congr 1;refine fR λc ao=>aQ c ao λx ab=>h x ?_;rw[mw];exact iv _ (hl.2 ⟨c,ao,ab⟩)
def CS{T:aN}(h:cB ns T)(m:List al):bare (ns++m) T=bare ns T:=acP ns T λx ab=>by rw[acA (h.lt x ab)]
end
end aN
def acQ{z:α}{F:al->List α->α}(bw:∀ d l,F (d.dX l)=F d){ns:List al}(ae:rV ns):∀ {T:aN},cB ns T->mf z (λd g=>F d (d.ap.map g)) ns T.br=(T.bare ns).fold F:=by
 intro T
 induction T using aN.ind with
 |h k ks aQ=>intro a6;obtain⟨aa,ad,aj⟩:=a6.inv;have h:=OW (z:=z) (f:=λd g=>F d (d.ap.map g)) ns [] k aa;simp only[hj,dn]at h;rw[aN.nc,aP.fold_eq];show(gF z _ ns []).getD (k:Int).toNat z=F ((nodeAt ns k).dX []) _;rw[bw,bT,hC,h,lF,<-gr aa,ad,gj,gj];congr 1;refine fR λc ao=>?_;rw[Function.comp,Function.comp,<-aQ c ao (aj c ao)];have:=a6.S7 ae ao;unfold mf;rw[bT,bT,l5,b2 Z]
section
variable{X:cN}{F:Fr}{C:de}{I:aH}{M:List aA}{o:Oper}
theorem kv.acR(aL:cU X.P X.E){x:Operand}{t:Nat}(aD:o.op=.call { callee:=.builtin .append,args:=#[s,x],argTypes:=#[t,t] })
 (au:X.E t=some cS) (dt:cS.bL=.slice e) (he:X.E e=some aB)
  (os:aT) (bf:os.ok aB.size xs) (av:bG F s=.val os.val)
 {m:Nat} (ab:bG F x=.val (.slice (some aR) m c')) (hm:0<m) (aC:c6 I M aR (m*aB.size) b8) (aa:fH b8=true)
 (bc:M.Perm (os.ar e++Mr)) (b1:os.n+m<=maxLen) (bH:(os.n+m)*aB.bytes<=140737488355328)
  (M':aT->List aA) (yq:∀ bq:aT,(bq.ar e++Mr).Perm (M' bq))
  (k:∀ bq:aT,bq.n=os.n+m->(∀ g,bq.a=some g->I g=none/\(os.a=none->g ∉ X.foot))->bq.ok aB.size (xs++b8)->K (.val bq.val) I (M' bq)):kv X o F C I M K:=by
 refine⟨fun β a w Q h9=>?_⟩;have yJ:b8.length=m*aB.size:=by obtain⟨_,_,_,_,_,_,h⟩:=aC;exact h
 have e6:∀ w,eJ I M w->(Builtin.firstCells aB.size m (.slice (some aR) m c')).run X.P w=.ok b8.toArray w:=λw hw=>by
  obtain⟨di,cs,T,an,fh,ak,az⟩:=aC;refine run_firstCells_some (P:=X.P) w aB.size m aR m c' b8 az λj v ah=>?_;rw[eM _ di,td (fh.heap hw)];rw[<-ak,l5]at ah;split at ah;·rw[oq]at ah;simpa using ah
  ·cases ah
 have aM:cM X β a w F C I (os.ar e++Mr):=h9.hT (.perm bc .refl);obtain⟨inf,z,hi,fq,iy,iz,k3⟩:=(aL _ _ he).inf;obtain⟨gV,iD,kB⟩:=(aL _ _ au).fp;have oC:gV=.slice e:=by rw[dt]at kB;cases gV<;>simp_all[fo]
 subst oC;have qn:z.cells.size=inf.size:=by rw[fq,<-(aL _ _ he).len,<-k3];simp
 have apS:=bf;rw[<-fq]at bf yJ e6;obtain⟨g,c,aS,w',e',a',bh,bW,fu,k9⟩:=OC (P:=X.P) (w:=w) t t o.type e inf z iD iD (λk c2=>by cases c2) hi iz qn bf (λg aw=>aM.holds.m ⟨g,.cells os.aS.toArray e (0,0)⟩ ol) (x:=.slice (some aR) m c') hm yJ (yZ aa) (λ_=>rfl) (λw' xP=>e6 w' (h9.holds.heap xP)) b1 aig;rw[fq]at a' fu yJ;have zo:I g=none:=by
  rcases k9 with⟨aw,_⟩ | ⟨rfl,_⟩;·exact aM.holds.d ⟨g,.cells os.aS.toArray e (0,0)⟩ ol
  ·cases bE:I w.heap.size with
   |none=>rfl| some nu=>have:=aM.holds.i _ _ bE;simp at this
 have apT:os.a=none->g ∉ X.foot:=λax hm=>by
  rcases k9 with⟨aw,_⟩ | ⟨rfl,_⟩;·rw[ax]at aw;cases aw
  ·have aa:=aM.fA _ hm;have ad:=aM.sz;omega
 have es:=df aM.an av;have ex:=df aM.an ab;have kn:(⟨some g,os.n+m,c,aS⟩:aT).ok aB.size (xs++b8):=by
  refine⟨?_,(λh=>ci),λei aw=>?_⟩;·rw[cn,apS.len,yJ,kx]
  ·cases aw;exact⟨a',bh,bW,fu⟩
 refine ix f7 (v:=.slice (some ⟨g,0,none⟩) (os.n+m) c) (w':=w') ?_ ⟨_,.val (.slice (some ⟨g,0,none⟩) (os.n+m) c),I,M' ⟨some g,os.n+m,c,aS⟩,rfl,rfl,?_,k ⟨some g,os.n+m,c,aS⟩ rfl (λei aw=>by cases aw;exact⟨zo,apT⟩) kn,rfl⟩
 ·unfold execOp;simp only[aD,resolve,invoke,builtin,cp,db,bY,rh,b0,hs,es,ex,e']
 ·refine cM.hT ?_ (.perm (yq _) .refl);rcases k9 with⟨aw,rfl⟩ | ⟨rfl,rfl⟩
  ·have ag:os.ar e=[⟨g,.cells os.aS.toArray e (0,0)⟩]:=by simp[aT.ar,aw]
   rw[ag]at aM;exact aM.xy (a9:=[]) (post:=Mr) rfl
  ·have ad:cM X β a w.drew F C I (os.ar e++Mr):=aM.world rfl;have aj:=ad.nX (.cells aS.toArray e (0,0));refine aj.hT (.sub ?_ .refl);exact List.Sublist.cons_cons _ (mL _ _)
def kv.acS(aL:cU X.P X.E){x:Operand}{t:Nat}(aD:o.op=.call { callee:=.builtin .append,args:=#[s,x],argTypes:=#[t,t] })
 (au:X.E t=some cS) (dt:cS.bL=.slice e) (he:X.E e=some aB)
  (os:aT) (bf:os.ok aB.size xs) (av:bG F s=.val os.val)
 {m:Nat} (ab:bG F x=.val (.slice (some aR) m c')) (hm:0<m) (aC:c6 I M aR (m*aB.size) b8) (aa:fH b8=true)
 (bc:M.Perm (os.ar e++Mr)) (b1:os.n+m<=maxLen) (bH:(os.n+m)*aB.bytes<=140737488355328)
  (M':aT->List aA) (yq:∀ bq:aT,(bq.ar e++Mr).Perm (M' bq))
  (k:∀ bq:aT,bq.n=os.n+m->(∀ g,bq.a=some g->I g=none)->bq.ok aB.size (xs++b8)->K (.val bq.val) I (M' bq)):kv X o F C I M K:=
 kv.acR aL aD au dt he os bf av ab hm aC aa bc b1 bH M' yq λbq aa ad aj=>k bq aa (λg aw=>(ad g aw).1) aj
def kv.lU(aL:cU X.P X.E){x:Operand}{t:Nat}(aD:o.op=.call { callee:=.builtin .append,args:=#[s,x],argTypes:=#[t,t] })
 (au:X.E t=some cS) (dt:cS.bL=.slice e) (he:X.E e=some aB)
  (os:aT) (bf:os.ok aB.size xs) (av:bG F s=.val os.val)
  {b9:Nat} {cs:List Value} (ab:bG F x=.val (.slice (some ⟨b9,0,none⟩) 1 c')) (az:cs.length=aB.size) (aa:fH cs=true)
  (a9 post:List aA) (bc:M=⟨b9,.cells cs.toArray e (0,0)⟩::(a9++(os.ar e++post))) (b1:os.n+1<=9223372036854775807) (bH:(os.n+1)*aB.bytes<=140737488355328)
  (k:∀ bq:aT,bq.n=os.n+1->(∀ g,bq.a=some g->I g=none)->bq.ok aB.size (xs++cs)->K (.val bq.val) I (⟨b9,.cells cs.toArray e (0,0)⟩::(a9++(bq.ar e++post)))):kv X o F C I M K:=by
 have aI:∀ bq:aT,(bq.ar e++(⟨b9,.cells cs.toArray e (0,0)⟩::(a9++post)):List aA).Perm (⟨b9,.cells cs.toArray e (0,0)⟩::(a9++(bq.ar e++post))):=λbq=>
  mm.trans (.cons _ (xV _ _ _))
 refine .acS aL aD au dt he os bf av (m:=1) (b8:=cs) ab bv ?_ aa (Mr:=⟨b9,.cells cs.toArray e (0,0)⟩::(a9++post)) ?_ t7 bH _ aI k
 ·rw[nt];refine⟨rfl,_,_,_,.inr ⟨⟨b9,.cells cs.toArray e (0,0)⟩,ayx,rfl,rfl⟩,?_,az⟩;simp only[tl];exact fD Z
 ·rw[bc];exact(aI os).symm
end
def MI{G F:Fr}{y:Operand}{r:dx}(h:dr G y=dr F y)(bd:bG F y=r):bG G y=r:=by simp only[bG,dz,h];exact bd
structure ck where
 b:Nat
 os:aT
 ds:List al
def ck.ai(A:ck):aA:=⟨A.b,.cells #[A.os.val] 172 (0,0)⟩
def ck.ar(A:ck):List aA:=A.ai::A.os.ar 88
structure ck.ok(I:aH)(A:ck):Prop where
 os:A.os.ok 9 (A.ds.flatMap al.cells)
 n:A.os.n=A.ds.length
 ds:∀ d∈A.ds,d.ok I
def ck.ok.mono{I':aH}{A:ck}(h:A.ok I)(bE:∀ b o,I b=some o->I' b=some o):A.ok I':=⟨h.os,h.n,λd ai=>(h.ds d ai).mono bE⟩
def acT{A:ck}(dD:A.ok I)(aC:A.ds.length<=1099511627776){d:al}(ai:d.ok I) :
  Spec Tryz.prog 293 [ptr A.b,d.val] I A.ar λv I' M'=>v=.int .i64 A.ds.length/\I'=I/\∃ os,M'=ck.ar ⟨A.b,os,A.ds++[d]⟩/\ck.ok I ⟨A.b,os,A.ds++[d]⟩:=by
 refine bU [] a0 Tryz.func293 rfl rfl rfl ?_;intro B ax;obtain⟨k,cf,s1,s2,cH,s,lo,hi,ca,aF,cr,ap⟩:=d;have b3:=dD.os;have bo:∀ (os:aT) (M:List aA),(⟨A.b,.cells #[os.val] 172 (0,0)⟩:aA)∈M->c6 I M ((⟨A.b,0,none⟩:Addr).add 0) 1 [os.val]:=λos M hm=>dm (cs:=[os.val]) (k:=0) (n:=1) (T:=172) hm am;refine cY.draw a0 rfl rfl rfl ?_;refine aU.mk _ (bo A.os _ (.head _)) ?_;refine bQ.mk λb9 mU ue=>?_;intro G g3;refine kv.lU a0 rfl (e:=88) rfl rfl rfl A.os b3 (MI (g3 _ d8) rfl) (MI (g3 _ d8) rfl) (cs:=al.cells ⟨k,cf,s1,s2,cH,s,lo,hi,ca,aF,cr,ap⟩) rfl rfl [A.ai] [] ag' (by have:=dD.n;omega) (by have:=dD.n;show(A.os.n+1)*96<=_;omega) ?_;intro bq aa ad aj;refine b4.mk [_] (bq.ar _++[]) #[A.os.val] 172 rfl rfl (bJ rfl) rfl ?_;refine aU.mk _ (bo bq _ (.tail _ (.head _))) ?_;have zc:=dD.n;refine⟨(A.ds.length:Int),?_,?_⟩
 ·rw[wrap_i64 (by unfold eC;omega)];omega
 refine⟨_,_,.sub (M1:=ck.ar ⟨A.b,bq,A.ds++[⟨k,cf,s1,s2,cH,s,lo,hi,ca,aF,cr,ap⟩]⟩) ?_ .refl,rfl,rfl,bq,rfl,?_⟩
 ·show List.Sublist (_::(bq.ar _)) (_::_::(bq.ar _++[]));rw[dK];exact .cons _ (.refl _)
 ·refine⟨?_,?_,λx ab=>?_⟩
  ·rw[fS];simpa using aj
  ·rw[aa,cn,dD.n];rfl
  ·rcases c1.1 ab with ab | ab
   ·exact dD.ds x ab
   ·rw[eL.1 ab];exact ai
def al.row(d:al)(a:Option Addr)(n c:Nat)(ks:List Int):al:=⟨d.k,d.cf,d.s1,d.s2,d.cH,d.t,d.lo,d.hi,a,n,c,ks⟩
def al.ok.row{d:al}(h:d.ok I)(af:cx I a n c 1 8 (ks.map (.int .i64 ·)))(ae:∀ x∈ks,eC x):(d.row a n c ks).ok I:=⟨h.k,h.cf,h.s1,h.s2,h.cH,h.t,h.lo,h.hi,af,ae⟩
def apU(A:ck)(d:al)(I:aH)(v:Value)(I':aH)(M':List aA):Prop:=v=.int .i64 A.ds.length/\I'=I/\∃ os,M'=ck.ar ⟨A.b,os,A.ds++[d]⟩/\ck.ok I ⟨A.b,os,A.ds++[d]⟩
def acU{A:ck}(dD:A.ok I)(aC:A.ds.length<=1099511627776){d:al}(ai:d.ok I)(af:cx I a n c 1 8 (ks.map (.int .i64 ·)))(ae:∀ x∈ks,eC x) :
  Spec Tryz.prog 224 [ptr A.b,d.val,.slice a n c] I A.ar (apU A (d.row a n c ks) I):=by
 refine bU [] a0 Tryz.func224 rfl rfl rfl ?_;intro B ax;have fO:=ai.row af ae;obtain⟨k,cf,s1,s2,cH,s,lo,hi,ca,aF,cr,ap⟩:=d;have di:=acT dD aC fO;refine a8.mk A.ar [] _ ak' di ?_;rintro v I' M' -⟨rfl,rfl,os,rfl,h⟩;exact⟨_,_,.sub (M1:=ck.ar ⟨A.b,os,A.ds++[_]⟩) am .refl,rfl,rfl,os,rfl,h⟩
def o7(d:al)(x:al):Bool:=!decide (d.k=4) || !decide (x.k=0)
def rW(A:ck)(d:al)(os:aT)(p5 p4 p9:Nat):List aA:=⟨p5,.cells d.cells.toArray 88 (0,0)⟩::⟨p4,.cells #[ptr A.b] 176 (0,0)⟩::⟨p9,.cells #[os.val] 42 (0,0)⟩::(os.ar 3++A.ar)
def apV{A:ck}(dD:A.ok I)(aC:A.ds.length<=1099511627776){d:al}(ai:d.ok I){l:List Int}(b3:os.ok 1 (l.map (.int .i64 ·)))(az:os.n<=1099511627776){p5 p4 p9 k:Nat}(ae:k<A.ds.length) :
  Spec Tryz.prog 330 [.int .i64 k,ptr p5,ptr p4,ptr p9] I (rW A d os p5 p4 p9) λv I' M'=>I'=I/\∃ bq,M'=rW A d bq p5 p4 p9/\bq.ok 1 ((l++bif o7 d A.ds[k]then [(k:Int)]else []).map (.int .i64 ·)):=by
 refine bU [] a0 Tryz.func330 rfl rfl rfl ?_;intro B ax;obtain⟨aR,bI,bo⟩:=aT.ok.row (I:=I) (M:=rW A d os p5 p4 p9) al.cL bv dD.os (e:=88) (λx ab=>by simp[rW,ck.ar,ab]) (j:=k) ae;obtain⟨dF,cf,s1,s2,cH,s,lo,hi,ca,aF,cr,ap⟩:=d;refine aU.mk [.int .u8 dF] (dm (cs:=al.cells ⟨dF,cf,s1,s2,cH,s,lo,hi,ca,aF,cr,ap⟩) (k:=0) (n:=1) (T:=88) (.head _) (by simp[al.cells])) ?_;refine b5.mk (λaJ=>?_) (λaJ=>?_)
 ·have ee:dF=4:=by simpa using aJ
  refine aU.mk [ptr A.b] (dm (cs:=[ptr A.b]) (k:=0) (n:=1) (T:=176) (.tail _ (.head _)) am) ?_;refine aU.mk [A.os.val] (dm (cs:=[A.os.val]) (k:=0) (n:=1) (T:=172) (by simp[rW,ck.ar,ck.ai]) am) ?_;refine bt.mk aR k bI rfl (by have:=dD.n;omega) ?_;refine aU.mk [.int .u8 A.ds[k].k] (c6.part (k:=0) (m:=1) bo bv) ?_;refine aZ.mk (λax=>?_) (λax=>?_)
  ·have ae:o7 ⟨dF,cf,s1,s2,cH,s,lo,hi,ca,aF,cr,ap⟩ A.ds[k]=true:=by unfold o7;have iC:(!decide (A.ds[k].k=0))=true:=ax;rw[iC,K2]
   refine aU.mk [os.val] (dm (cs:=[os.val]) (k:=0) (n:=1) (T:=42) (.tail _ (.tail _ (.head _))) am) ?_;refine bQ.mk λb9 mU ue=>?_;refine bC.lU a0 rfl am (e:=3) rfl rfl rfl os b3 rfl (cs:=[.int .i64 k]) rfl rfl rfl [_,_,_] A.ar rfl Z at8 ?_;intro bq aa ad aj;refine b4.mk [_,_] (bq.ar 3++A.ar) #[os.val] 42 rfl rfl (bJ rfl) rfl ?_;refine⟨_,_,.refl,rfl,bq,rfl,?_⟩;rw[ae,cR];exact aj
  ·have ae:o7 ⟨dF,cf,s1,s2,cH,s,lo,hi,ca,aF,cr,ap⟩ A.ds[k]=false:=by unfold o7;have BX:(!decide (dF=4))=false:=aJ;have iC:(!decide (A.ds[k].k=0))=false:=ax;rw[BX,iC];rfl
   refine⟨_,_,.refl,rfl,os,rfl,?_⟩;rw[ae];simpa using b3
 ·have ae:o7 ⟨dF,cf,s1,s2,cH,s,lo,hi,ca,aF,cr,ap⟩ A.ds[k]=true:=by unfold o7;have BX:(!decide (dF=4))=true:=aJ;rw[BX,Bool.true_or]
  refine aU.mk [os.val] (dm (cs:=[os.val]) (k:=0) (n:=1) (T:=42) (.tail _ (.tail _ (.head _))) am) ?_;refine bQ.mk λb9 mU ue=>?_;refine bC.lU a0 rfl am (e:=3) rfl rfl rfl os b3 rfl (cs:=[.int .i64 k]) rfl rfl rfl [_,_,_] A.ar rfl Z at8 ?_;intro bq aa ad aj;refine b4.mk [_,_] (bq.ar 3++A.ar) #[os.val] 42 rfl rfl (bJ rfl) rfl ?_;refine⟨_,_,.refl,rfl,bq,rfl,?_⟩;rw[ae,cR];exact aj
def vE:al:=⟨0,0,0,0,0,⟨#[]⟩,0,0,none,0,0,[]⟩
def jy(d:al)(ds:List al)(l:List Nat):List Int:=l.flatMap λk=>bif o7 d (ds.getD k vE)then [(k:Int)]else []
structure apW(A:ck)(d:al)(l:List Nat)(x:Nat×aT):Prop where
 i:x.1<=l.length
 os:x.2.ok 1 ((jy d A.ds (l.take x.1)).map (.int .i64 ·))
def acV{A:ck}(dD:A.ok I)(aC:A.ds.length<=1099511627776){d z:al}(ai:d.ok I)(bg:z.ok I)(az:∀ k∈l,k<A.ds.length)(rE:l.length<=1099511627776)(af:cx I a n c 1 8 ((l.map Int.ofNat).map (.int .i64 ·))) :
  Spec Tryz.prog 294 [ptr A.b,d.val,.slice a n c,z.val] I A.ar λv I' M'=>(∀ b o,I b=some o->I' b=some o)/\∃ bq ds' r,M'=ck.ar ⟨A.b,bq,ds'⟩/\ck.ok I' ⟨A.b,bq,ds'⟩/\v=.int .i64 r /\
   ((jy d A.ds l=[]/\r=(A.ds.length:Int)/\ds'=A.ds++[z])\/(jy d A.ds l=[r]/\ds'=A.ds)\/(2<=(jy d A.ds l).length/\r=(A.ds.length:Int)/\∃ bN hM c',ds'=A.ds++[d.row bN hM c' (jy d A.ds l)])):=by
 refine bU [4,5,9] a0 Tryz.func294 rfl rfl rfl ?_;intro B ax;obtain⟨dF,cf,s1,s2,cH,s,lo,hi,ca,aF,cr,ap⟩:=d;obtain⟨apX,apY,z7,Rn,apZ,fe,ap0,ap1,ap2,ap3,ap4,ap5⟩:=z;refine bQ.mk λp4 yK sS=>?_;refine bQ.mk λp5 axY MJ=>?_;refine bQ.mk λp9 axZ ue=>?_;have H6:l.length=n:=by have aa:=af.len;simpa using aa
 refine du.inv (ι:=Nat×aT) (λx=>{ bp:=[(4,.val (ptr p4)),(5,.val (ptr p5)),(7,.ref 7 0),(9,.val (ptr p9)),(10,.val (.func (.func 330) #[] #[ptr p5,ptr p4,ptr p9])),(14,.val (.slice a n c)),(15,.val (.int .i64 n)),(16,.val (.int .i64 x.1))],cl:=[(7,al.cells ⟨apX,apY,z7,Rn,apZ,fe,ap0,ap1,ap2,ap3,ap4,ap5⟩)],cO:=I,c5:=rW A ⟨dF,cf,s1,s2,cH,s,lo,hi,ca,aF,cr,ap⟩ x.2 p5 p4 p9 }) (apW A ⟨dF,cf,s1,s2,cH,s,lo,hi,ca,aF,cr,ap⟩ l) (λx=>l.length-x.1) ?_ ?_
 ·refine⟨(0,⟨none,0,0,[]⟩),⟨dQ _,⟨rfl,λ_=>⟨rfl,rfl⟩,λg h=>ci⟩⟩,.perm ?_ .refl,ku,.cons rfl (.nil)⟩;exact(mm (l₁:=[_,_])).symm
 ·rintro⟨i,os⟩⟨cz,b3⟩;simp only at cz b3;have fB:cx I a n c 1 8 ((l.map Int.ofNat).flatMap ir):=by rw[og];exact af
  have cQ:(jy ⟨dF,cf,s1,s2,cH,s,lo,hi,ca,aF,cr,ap⟩ A.ds (l.take i)).length<=i:=by
   refine jU ?_ (Dw i l);generalize l.take i=eF;unfold jy
   induction eF with
   |nil=>exact cc _
   |cons x eF aQ=>
    rw[iA,cn,ep];have:(bif o7 ⟨dF,cf,s1,s2,cH,s,lo,hi,ca,aF,cr,ap⟩ (A.ds.getD x vE)then [(x:Int)]else []).length<=1:=by cases o7 ⟨dF,cf,s1,s2,cH,s,lo,hi,ca,aF,cr,ap⟩ (A.ds.getD x vE)<;>simp
    omega
  have hX:=b3.pK;refine aZ.mk (λh=>?_) (λh=>?_)
  ·have a1:(i:Int)<n:=cT h;have dN:i<l.length:=by omega
   obtain⟨aR,bI,bo⟩:=fB.row (f:=ir) (λ_=>rfl) (j:=i) Z (by simpa using dN);rw[gh]at bo;refine bt.mk aR i bI rfl Z ?_;refine aU.mk _ (bo _) ?_;have Fo:=az _ (bK dN);have di:=apV (p5:=p5) (p4:=p4) (p9:=p9) dD aC ai b3 Z Fo;refine a8.mk (rW A ⟨dF,cf,s1,s2,cH,s,lo,hi,ca,aF,cr,ap⟩ os p5 p4 p9) [] _ ak' di ?_;rintro v I' M' -⟨rfl,bq,rfl,BQ⟩;refine be.mk ((i+1:Nat):Int) (u7 ce Z) ?_;refine⟨(i+1,bq),⟨⟨ce,?_⟩,ce⟩,.perm ak' .refl,ku,.cons rfl (.nil)⟩
   ·show bq.ok 1 ((jy ⟨dF,cf,s1,s2,cH,s,lo,hi,ca,aF,cr,ap⟩ A.ds (l.take (i+1))).map (.int .i64 ·));have e:jy ⟨dF,cf,s1,s2,cH,s,lo,hi,ca,aF,cr,ap⟩ A.ds (l.take (i+1))=jy ⟨dF,cf,s1,s2,cH,s,lo,hi,ca,aF,cr,ap⟩ A.ds (l.take i)++bif o7 ⟨dF,cf,s1,s2,cH,s,lo,hi,ca,aF,cr,ap⟩ A.ds[l[i]]then [((l[i]:Nat):Int)]else []:=by unfold jy;rw[gk dN,fS];congr 1;simp[bT,Fo]
    rw[e];exact BQ
  ·have cV:¬ (i:Int)<n:=dU h;obtain rfl:i=l.length:=by omega
   rw[Dx]at b3 cQ hX;refine aU.mk [os.val] (dm (cs:=[os.val]) (k:=0) (n:=1) (T:=42) (.tail _ (.tail _ (.head _))) am) ?_;have mq:(rW A ⟨dF,cf,s1,s2,cH,s,lo,hi,ca,aF,cr,ap⟩ os p5 p4 p9).Perm (A.ar++([⟨p5,.cells (al.cells ⟨dF,cf,s1,s2,cH,s,lo,hi,ca,aF,cr,ap⟩).toArray 88 (0,0)⟩,⟨p4,.cells #[ptr A.b] 176 (0,0)⟩,⟨p9,.cells #[os.val] 42 (0,0)⟩]++os.ar 3)):=by
    have:rW A ⟨dF,cf,s1,s2,cH,s,lo,hi,ca,aF,cr,ap⟩ os p5 p4 p9=([⟨p5,.cells (al.cells ⟨dF,cf,s1,s2,cH,s,lo,hi,ca,aF,cr,ap⟩).toArray 88 (0,0)⟩,⟨p4,.cells #[ptr A.b] 176 (0,0)⟩,⟨p9,.cells #[os.val] 42 (0,0)⟩]++os.ar 3)++A.ar:=by simp[rW]
    rw[this];exact eN
   refine aZ.mk (λax=>?_) (λax=>?_)
   ·have eB:os.n=0:=by simpa using ax
    refine aU.mk [ptr A.b] (dm (cs:=[ptr A.b]) (k:=0) (n:=1) (T:=176) (.tail _ (.head _)) am) ?_;refine a8.mk A.ar _ _ mq (acT dD aC bg) ?_;rintro v I' M' -⟨rfl,rfl,ig,rfl,bf⟩;exact⟨_,_,.sub (w6 _ _) .refl,λ_ _ h=>h,ig,_,_,rfl,bf,rfl,.inl ⟨im Z,rfl,rfl⟩⟩
   ·refine aZ.mk (λaa=>?_) (λaa=>?_)
    ·have aK:os.n=1:=by
      have:(os.n:Int)=1:=by simpa using aa
      omega
     have uL:(jy ⟨dF,cf,s1,s2,cH,s,lo,hi,ca,aF,cr,ap⟩ A.ds l).length=1:=by omega
     obtain⟨r,h8⟩:=SJ.1 uL;refine aU.mk [os.val] (dm (cs:=[os.val]) (k:=0) (n:=1) (T:=42) (.tail _ (.tail _ (.head _))) am) ?_;rw[<-og]at b3;obtain⟨aR,bI,bo⟩:=aT.ok.row (I:=I) (M:=rW A ⟨dF,cf,s1,s2,cH,s,lo,hi,ca,aF,cr,ap⟩ os p5 p4 p9) (e:=3) (f:=ir) (size:=1) (λ_=>rfl) bv b3 (λx ab=>by simp[rW,ab]) (j:=0) Z;refine bt.mk aR 0 bI rfl Z ?_;refine aU.mk _ bo ?_;refine⟨_,_,.sub (M1:=A.ar) (.cons _ (.cons _ (.cons _ (mL _ _)))) .refl,λ_ _ h=>h,A.os,A.ds,r,rfl,dD,?_,.inr (.inl ⟨h8,rfl⟩)⟩;simp[h8];rfl
    ·refine aU.mk [ptr A.b] (dm (cs:=[ptr A.b]) (k:=0) (n:=1) (T:=176) (.tail _ (.head _)) am) ?_;refine aU.mk (al.cells ⟨dF,cf,s1,s2,cH,s,lo,hi,ca,aF,cr,ap⟩) (dm (cs:=al.cells ⟨dF,cf,s1,s2,cH,s,lo,hi,ca,aF,cr,ap⟩) (k:=0) (n:=9) (T:=88) (.head _) (by simp[al.cells])) ?_;refine aU.mk [os.val] (dm (cs:=[os.val]) (k:=0) (n:=1) (T:=42) (.tail _ (.tail _ (.head _))) am) ?_;have iC:¬ os.n=0:=λe=>by have ad:decide ((os.n:Int)=0)=false:=ax;simp[e]at ad
     have wx:¬ os.n=1:=λe=>by have ad:decide ((os.n:Int)=1)=false:=aa;simp[e]at ad
     refine a8.vW λeY=>?_;have l0:(rW A ⟨dF,cf,s1,s2,cH,s,lo,hi,ca,aF,cr,ap⟩ os p5 p4 p9).Perm (os.ar 3++(A.ar++[⟨p5,.cells (al.cells ⟨dF,cf,s1,s2,cH,s,lo,hi,ca,aF,cr,ap⟩).toArray 88 (0,0)⟩,⟨p4,.cells #[ptr A.b] 176 (0,0)⟩,⟨p9,.cells #[os.val] 42 (0,0)⟩])):=by have e:rW A ⟨dF,cf,s1,s2,cH,s,lo,hi,ca,aF,cr,ap⟩ os p5 p4 p9=[⟨p5,.cells (al.cells ⟨dF,cf,s1,s2,cH,s,lo,hi,ca,aF,cr,ap⟩).toArray 88 (0,0)⟩,⟨p4,.cells #[ptr A.b] 176 (0,0)⟩,⟨p9,.cells #[os.val] 42 (0,0)⟩]++(os.ar 3++A.ar):=rfl;rw[e,<-dW (os.ar 3)];exact eN
     have aw:∀ g,os.a=some g->I g=none/\g ∉ A.ar.map (·.num):=λg aw=>by
      have ag:os.ar 3=[⟨g,.cells os.aS.toArray 3 (0,0)⟩]:=by unfold aT.ar;rw[aw]
      have b':=(l0.map (·.num)).nodup_iff.1 eY.cu;rw[ag]at b' l0;refine⟨eY.d _ (l0.mem_iff.2 (.head _)),λhm=>?_⟩;rw[cR]at b';simp only[b0,hs,qy,lG,cR]at b';exact b'.1 (iv _ hm)
     obtain⟨ew,hw,gq,dB,-⟩:=aT.zL (b:=8) b3 Z aw (A.ar++[⟨p5,.cells (al.cells ⟨dF,cf,s1,s2,cH,s,lo,hi,ca,aF,cr,ap⟩).toArray 88 (0,0)⟩,⟨p4,.cells #[ptr A.b] 176 (0,0)⟩,⟨p9,.cells #[os.val] 42 (0,0)⟩]);have Se:∀ x∈jy ⟨dF,cf,s1,s2,cH,s,lo,hi,ca,aF,cr,ap⟩ A.ds l,eC x:=λx ab=>by
      obtain⟨k,ae,ab⟩:=hl.1 ab;have:=az k ae;cases aO:o7 ⟨dF,cf,s1,s2,cH,s,lo,hi,ca,aF,cr,ap⟩ (A.ds.getD k vE)with
      |false=>rw[aO]at ab;cases ab| true=>rw[aO]at ab;rw[eL.1 ab];unfold eC;omega
     have di:=acU (dD.mono gq) aC (ai.mono gq) dB Se;refine a8.sd ew A.ar [⟨p5,.cells (al.cells ⟨dF,cf,s1,s2,cH,s,lo,hi,ca,aF,cr,ap⟩).toArray 88 (0,0)⟩,⟨p4,.cells #[ptr A.b] 176 (0,0)⟩,⟨p9,.cells #[os.val] 42 (0,0)⟩] _ (.perm l0 (hw _ _ .refl)) di ?_;rintro v I' M' bn -⟨rfl,rfl,ig,rfl,bf⟩;exact⟨_,_,.sub (w6 _ _) .refl,gq,ig,_,_,rfl,bf,rfl,.inr (.inr ⟨Z,rfl,_,_,_,rfl⟩)⟩
namespace aP
mutual
def post:aP->List al
 |mk d ks=>sJ d (MK ks)
def MK:List aP->List (List al)
 |[]=>[]| a::l=>post a::MK l
end
def acW:∀ l,MK l=l.map post
 |[]=>rfl| a::l=>by rw[MK,acW l];rfl
def kN(d:al)(ks:List aP):post (mk d ks)=sJ d (ks.map post):=by rw[post,acW]
end aP
inductive eT:aP->Prop
 |mk{d:al}{ks:List aP}:fits d ks.length=true->(∀ c∈ks,eT c)->eT (.mk d ks)
def eT.inv{d:al}{ks:List aP}(h:eT (.mk d ks)):fits d ks.length=true/\∀ c∈ks,eT c:=by
 cases h with
 |mk aa ad=>exact⟨aa,ad⟩
def acX:∀ {T:aP},eT T->g8 (iK T.post):=by
 intro T
 induction T using aP.ind with
 |h d ks aQ=>intro h;rw[aP.kN];refine apo (λl az=>?_) (by rw[bB];exact h.inv.1);obtain⟨c,ao,rfl⟩:=c3.1 az;exact aQ c ao (h.inv.2 c ao)
def ap6{l:List al}(h:g8 (iK l)):0<l.length/\∀ d∈l,∀ k∈d.ap,0<=k:=by
 have:=h.bx;refine⟨?_,λd ai k ae=>?_⟩
 ·have aa:(0:Int)<=(l.length:Int)-1:=this.1;omega
 ·obtain⟨j,ah,rfl⟩:=iI ai;exact(h.ap j ah k ae).1
def ap7{z:α}{F:al->List α->α}(bw:∀ d l,F (d.dX l)=F d):∀ {T:aP},eT T->Az z F T.post=T.fold F:=by
 intro T
 induction T using aP.ind with
 |h d ks aQ=>
  intro h;rw[aP.kN,aP.fold_eq,apm bw,gj];·congr 1;exact fR λc ao=>aQ c ao (h.inv.2 c ao)
  ·intro l az;obtain⟨c,ao,rfl⟩:=c3.1 az;exact ap6 (acX (h.inv.2 c ao))
def aN.hf(T:aN):List Int:=T.cX.map λx:Nat=>(x:Int)
def aN.IZ(k:Nat)(ks:List aN):(aN.mk k ks).hf=ks.flatMap aN.hf++[(k:Int)]:=by unfold aN.hf;rw[aN.mw,cR,Av];rfl
def aN.ap8(T:aN):∃ K,T.hf=K++[(T.br:Int)]:=by
 cases T with
 |mk k ks=>exact⟨_,aN.IZ k ks⟩
structure I0(ns:List al)(A rb:List Int)(oi:List aN)(a2:List al×List Int):Prop where
 len:a2.1.length=(oi.flatMap aN.hf).length
 nodes:a2.1.map (jx (A.length:Int))=(oi.flatMap aN.hf).map (nK ns rb)
 roots:a2.2.map (·+(A.length:Int))=oi.map λc=>kO rb (c.br:Int)
def ap9(n:Nat)(a:Int)(x:al):jx a (x.dX (x.ap.map λk=>(n:Int)+k))=jx (a+(n:Int)) x:=by unfold jx;show x.dX ((x.ap.map λk=>(n:Int)+k).map (·+a))=_;rw[gj];congr 1;refine fR λk ae=>?_;show(n:Int)+k+a=k+(a+n);omega
def I0.step{ns:List al}{rb:List Int}{oi:List aN}{a2:List al×List Int}(h:I0 ns A rb oi a2){c:aN}{l:List al}
  (o4:rb=(A++oi.flatMap aN.hf)++(c.hf++B)) (ai:hz rb) (az:c.hf.map (nK ns rb)=l.map (jx ((A++oi.flatMap aN.hf).length:Int))):I0 ns A rb (oi++[c]) (ja a2 l):=by
 have sh:c.hf.length=l.length:=by simpa using congrArg List.length az
 obtain⟨aa,ad,aj⟩:=h;have aK:(oi++[c]).flatMap aN.hf=oi.flatMap aN.hf++c.hf:=by rw[fS,oN]
 refine⟨?_,?_,?_⟩
 ·rw[aK];show(a2.1++l.map _).length=_;rw[cn,bB,cn,aa,sh]
 ·rw[aK,cR,az,<-ad];show(a2.1++l.map λx=>x.dX (x.ap.map λk=>(a2.1.length:Int)+k)).map _=_;rw[cR,gj];congr 1;refine fR λx ab=>?_;show jx _ (x.dX _)=_;rw[ap9,aa,cn];congr 1
 ·rw[cR,<-aj];show(a2.2++[((a2.1.length+l.length:Nat):Int)-1]).map _=_;rw[cR];congr 1;obtain⟨K,dj⟩:=c.ap8;have hm:(c.br:Int)∈c.hf:=by rw[dj];simp
  have Fx:hz c.hf:=by rw[o4]at ai;exact(rC.1 (rC.1 ai).2.1).1
  have aI:kO rb (c.br:Int)=kO c.hf (c.br:Int)+((A++oi.flatMap aN.hf).length:Int):=by rw[o4]at ai |-;exact SV ai hm
  have nN:kO c.hf (c.br:Int)=(c.hf.length:Int)-1:=by rw[dj]at Fx |-;rw[acj Fx,cn];simp
  rw[sX,sX,aI,nN,cn,<-aa,<-sh];congr 1;omega
def aqa{ns:List al}:∀ {S:aN},cB ns S->∀ (A B rb:List Int),rb=A++(S.hf++B)->hz rb->S.hf.map (nK ns rb)=(S.bare ns).post.map (jx (A.length:Int)):=by
 intro S
 induction S using aN.ind with
 |h k ks aQ=>
  intro cy A B rb o4 ai;obtain⟨aa,ad,aj⟩:=cy.inv;have key:∀ (wG oi:List aN) (a2:List al×List Int),oi++wG=ks->I0 ns A rb oi a2->I0 ns A rb ks ((wG.map λc=>(c.bare ns).post).foldl ja a2):=by
   intro wG
   induction wG with
   |nil=>intro oi a2 e h;rw[dK]at e;rw[<-e];exact h
   |cons c wG Sf=>
    intro oi a2 e h;have ao:c∈ks:=by rw[<-e];simp
    have acY:rb=(A++oi.flatMap aN.hf)++(c.hf++(wG.flatMap aN.hf++([(k:Int)]++B))):=by rw[o4,aN.IZ,<-e];simp
    rw[b0,kt];exact Sf (oi++[c]) _ (by rw[<-e];simp) (h.step acY ai (aQ c ao (aj c ao) _ _ _ acY ai))
  have h:=key ks [] ([],[]) rfl ⟨rfl,rfl,rfl⟩;obtain⟨a',bh,bW⟩:=h;rw[aN.IZ,aN.nc,aP.kN,gj];show _=(sJ (nodeAt ns k).bare (ks.map λc=>(c.bare ns).post)).map _;unfold sJ;generalize(ks.map λc=>(c.bare ns).post).foldl ja ([],[])=a2 at a' bh bW;rw[cR,cR,bh];congr 1;rw[sX,sX];congr 1;show(nodeAt ns (k:Int).toNat).dX _=(nodeAt ns k).dX (a2.2.map (·+(A.length:Int)));rw[bW,hC,ad,gj];rfl
def acZ:∀ (fU:List (List al)) (a2:List al×List Int),(∀ x∈a2.1,x.aW=x)->∀ x∈(fU.foldl ja a2).1,x.aW=x
 |[],_,h=>h
 |l::fU,a2,h=>acZ fU (ja a2 l) λx ab=>by
  rcases c1.1 (show x∈a2.1++l.map (λx=>x.dX (x.ap.map λk=>(a2.1.length:Int)+k))from ab)with ab | ab;·exact h x ab
  ·obtain⟨y,aG,rfl⟩:=c3.1 ab;rfl
def ac0(T:aP):∀ x∈T.post,x.aW=x:=by
 cases T with
 |mk d ks=>
 intro x ab;rw[aP.kN]at ab;rcases c1.1 ab with ab | ab
 ·exact acZ _ _ (λx ab=>wl) x ab
 ·rw[eL.1 ab];rfl
def ac1{ns:List al}{S:aN}(h:cB ns S)(aC:S.cX.Nodup):S.hf.map (nK ns S.hf)=(S.bare ns).post:=by
 have ai:hz S.hf:=B5.2 (List.Pairwise.imp (fun {a b} bz e=>bz Z) aC);have:=aqa h [] [] S.hf am ai;rw[this];refine(fR λx ab=>?_).trans (Mu _);have e:=ac0 _ x ab;have ba:jx (([]:List Int).length:Int) x=x.aW:=by show x.dX (x.ap.map (·+(0:Int)))=x.dX x.ap;congr 1;refine(fR λk ae=>?_).trans (Mu _);show k+0=k;omega
 rw[ba,e];rfl
def fm(ns:List al)(k:Int):aP:=mf (aP.mk vE []) (λd g=>(λ(d:al) (xs:List aP)=>aP.mk d.bare xs) d (d.ap.map g)) ns k
def bV(t:bs):aP:=fm t.ns t.bx
def aqb(ns:List al):∀ S:aN,(S.bare ns).fold (λ(d:al) (xs:List aP)=>aP.mk d.bare xs)=S.bare ns:=by
 intro S
 induction S using aN.ind with
 |h k ks aQ=>rw[aN.nc,aP.fold_eq,gj];congr 1;exact fR λc ao=>aQ c ao
def ML{ns:List al}(ae:rV ns){T:aN}(h:cB ns T):fm ns T.br=T.bare ns:=by unfold fm;rw[acQ (λd l=>rfl) ae h,aqb]
def g8.w9(h:g8 t):rV t.ns:=h.ap
def g8.lt(h:g8 t){j:Nat}(ah:j<t.ns.length):∃ T:aN,T.br=j/\cB t.ns T/\fm t.ns j=T.bare t.ns/\T.cX.Nodup:=by obtain⟨T,a6,dD⟩:=cB.ex h.w9 j ah;refine⟨T,a6,dD,?_,dD.nodup h.w9 h.diff⟩;rw[<-a6];exact ML h.w9 dD
def MM{ns:List al}(aE:∀ d∈ns,fits d d.ap.length=true):∀ {T:aN},cB ns T->eT (T.bare ns):=by
 intro T
 induction T using aN.ind with
 |h k ks aQ=>
  intro h;obtain⟨aa,ad,aj⟩:=h.inv;rw[aN.nc];refine .mk ?_ λc ao=>?_;·have:=aE _ (bK aa);rw[<-gr aa]at this;show fits ((nodeAt ns k).dX []) _=true;rw[S3,bB];rw[ad,bB]at this;exact this
  ·obtain⟨c',y9,rfl⟩:=c3.1 ao;exact aQ c' y9 (aj c' y9)
def g8.fit(h:g8 t):∀ d∈t.ns,Go.V.fits d d.ap.length=true:=λd ai=>by obtain⟨j,ah,rfl⟩:=iI ai;exact h.fits j ah
def ac2(h:g8 t){j:Nat}(ah:j<t.ns.length):eT (fm t.ns j):=by obtain⟨T,a6,dD,he,-⟩:=h.lt ah;rw[he];exact MM h.fit dD
def aqc{z:α}{F:al->List α->α}(bw:∀ d l,F (d.dX l)=F d)(h:g8 t){j:Nat}(ah:j<t.ns.length):mf z (λd g=>F d (d.ap.map g)) t.ns j=(fm t.ns j).fold F:=by obtain⟨T,a6,dD,he,-⟩:=h.lt ah;rw[he,<-a6];exact acQ bw h.w9 dD
def aqd(h:g8 t):∀ {T:aN},cB t.ns T->ef t.ns (T.br:Int)=T.hf:=by
 intro T
 induction T using aN.ind with
 |h k ks aQ=>intro a6;obtain⟨aa,ad,aj⟩:=a6.inv;show ef t.ns (k:Int)=_;rw[Go.V.kN h aa,ad,aN.IZ,yb];congr 1;exact rG λc ao=>aQ c ao (aj c ao)
def ac3(h:g8 t){j:Nat}(ah:j<t.ns.length):nI t.ns j=(fm t.ns j).post:=by obtain⟨T,a6,dD,he,aC⟩:=h.lt ah;rw[Em h ah,he,<-ac1 dD aC,<-a6,aqd h dD]
structure lz(t:bs)(T:aP):Prop where
 aW:t.ns.map al.aW=T.post
 bx:t.bx=(t.ns.length:Int)-1
def ac4(h:g8 t){j:Nat}(ah:j<t.ns.length){bi:bs}(av:pP t j bi):lz bi (fm t.ns j):=⟨by rw[av.aW,ac3 h ah],av.bx⟩
def ac5(ns:List al)(k:Int):fm (ns.map al.aW) k=fm ns k:=by unfold fm mf;rw[Hu (f:=λd g=>(λ(d:al) (xs:List aP)=>aP.mk d.bare xs) d (d.ap.map g)) (g:=λd g=>(λ(d:al) (xs:List aP)=>aP.mk d.bare xs) d (d.ap.map g)) (λd q=>rfl)]
inductive ji:aP->Prop
 |mk{d:al}{ks:List aP}:d.bare=d->(∀ c∈ks,ji c)->ji (.mk d ks)
def ji.inv{d:al}{ks:List aP}(h:ji (.mk d ks)):d.bare=d/\∀ c∈ks,ji c:=by
 cases h with
 |mk aa ad=>exact⟨aa,ad⟩
def ji.fold:∀ {T:aP},ji T->T.fold (λ(d:al) (xs:List aP)=>aP.mk d.bare xs)=T:=by
 intro T
 induction T using aP.ind with
 |h d ks aQ=>intro h;rw[aP.fold_eq,h.inv.1];congr 1;exact(fR λc ao=>aQ c ao (h.inv.2 c ao)).trans (Mu _)
def ac6(ns:List al):∀ S:aN,ji (S.bare ns):=by
 intro S
 induction S using aN.ind with
 |h k ks aQ=>rw[aN.nc];refine .mk rfl λc ao=>?_;obtain⟨c',y9,rfl⟩:=c3.1 ao;exact aQ c' y9
def ac7(h:g8 t){j:Nat}(ah:j<t.ns.length):ji (fm t.ns j):=by obtain⟨T,a6,dD,he,-⟩:=h.lt ah;rw[he];exact ac6 _ _
def lz.right{T:aP}(h:lz t T)(a6:eT T):right t=true:=by
 have aa:=acX a6;rw[<-h.aW]at aa;have ad:=aa.bx;refine jd.2 ⟨?_,λj ah=>?_,λj ah k ae=>?_,?_,λj ah=>?_⟩
 ·rw[h.bx];have:(0:Int)<=((t.ns.map al.aW).length:Int)-1/\((t.ns.map al.aW).length:Int)-1<((t.ns.map al.aW).length:Int):=ad;rw[bB]at this;exact this
 ·have:=aa.fits j t8;simp only[iK,gh]at this;exact this
 ·refine aa.ap j t8 k ?_;simp only[iK,gh];exact ae
 ·have:hz (eI (t.ns.map al.aW)):=aa.diff;unfold eI at this;rw[yb]at this;exact this
 ·have:=aa.all j t8;have e:eI (iK (t.ns.map al.aW)).ns=eI t.ns:=by show eI (t.ns.map al.aW)=_;unfold eI;rw[yb];rfl
  have ba:(iK (t.ns.map al.aW)).bx=t.bx:=by show(((t.ns.map al.aW).length:Nat):Int)-1=_;rw[bB,h.bx]
  rw[e,ba]at this;exact this
def lz.bV{T:aP}(h:lz t T)(a6:eT T)(ag:ji T):Go.V.bV t=T:=by unfold Go.V.bV;rw[h.bx,<-ac5,h.aW];have:=ap7 (z:=aP.mk vE []) (F:=λ(d:al) (xs:List aP)=>aP.mk d.bare xs) (λd l=>rfl) a6;rw[ag.fold]at this;unfold Az at this;rw[<-h.aW]at this |-;rw[bB]at this;exact this
def S9(A:ck)(d z:al)(l:List Nat)(I:aH)(v:Value)(I':aH)(M':List aA):Prop:=(∀ b o,I b=some o->I' b=some o)/\∃ bq ds' r,M'=ck.ar ⟨A.b,bq,ds'⟩/\ck.ok I' ⟨A.b,bq,ds'⟩/\v=.int .i64 r /\ ((jy d A.ds l=[]/\r=(A.ds.length:Int)/\ds'=A.ds++[z])\/(jy d A.ds l=[r]/\ds'=A.ds)\/(2<=(jy d A.ds l).length/\r=(A.ds.length:Int)/\∃ bN hM c',ds'=A.ds++[d.row bN hM c' (jy d A.ds l)]))
def nothing(k:Int):al:=⟨k,0,0,0,0,⟨#[]⟩,0,0,none,0,0,[]⟩
def MN(I:aH){k:Int}(ae:0<=k/\k<256):(nothing k).ok I:=⟨ae,WF,WF,WF,WF,by show 0<=_;decide,by unfold nothing eC;simp,by unfold nothing eC;simp,⟨rfl,⟨cc _,by simp[nothing]⟩,.inl rfl⟩,λx ab=>wl⟩
def aqe{A:ck}(dD:A.ok I)(aC:A.ds.length<=1099511627776){d:al}(ai:d.ok I)(az:∀ k∈l,k<A.ds.length)(rE:l.length<=1099511627776)(af:cx I a n c 1 8 ((l.map Int.ofNat).map (.int .i64 ·))) :
  Spec Tryz.prog 225 [ptr A.b,d.val,.slice a n c] I A.ar (S9 A d (nothing 0) l I):=by
 refine bU [] a0 Tryz.func225 rfl rfl rfl ?_;intro B ax;have di:=acV (z:=nothing 0) dD aC ai (MN I bv) az rE af;obtain⟨dF,cf,s1,s2,cH,s,lo,hi,ca,aF,cr,ap⟩:=d;refine a8.mk A.ar [] _ ak' di ?_;rintro v I' M'-h;obtain⟨kF,bq,ds',r,rfl,bf,rfl,h⟩:=h;exact⟨_,_,.sub am .refl,kF,bq,ds',r,rfl,bf,rfl,h⟩
def aqf{A:ck}(dD:A.ok I)(aC:A.ds.length<=1099511627776){d:al}(ai:d.ok I)(az:∀ k∈l,k<A.ds.length)(rE:l.length<=1099511627776)(af:cx I a n c 1 8 ((l.map Int.ofNat).map (.int .i64 ·))) :
  Spec Tryz.prog 226 [ptr A.b,d.val,.slice a n c] I A.ar (S9 A d (nothing 1) l I):=by
 refine bU [] a0 Tryz.func226 rfl rfl rfl ?_;intro B ax;have di:=acV (z:=nothing 1) dD aC ai (MN I bv) az rE af;obtain⟨dF,cf,s1,s2,cH,s,lo,hi,ca,aF,cr,ap⟩:=d;refine a8.mk A.ar [] _ ak' di ?_;rintro v I' M'-h;obtain⟨kF,bq,ds',r,rfl,bf,rfl,h⟩:=h;exact⟨_,_,.sub am .refl,kF,bq,ds',r,rfl,bf,rfl,h⟩
def qN(l:List Int)(m:Nat):List (List Value):=(List.range m).reverse.map λi:Nat=>[.int .i64 (i:Int),.int .i64 (l.getD i 0)]
def aqg(l:List Int)(m:Nat):qN l (m+1)=[.int .i64 m,.int .i64 (l.getD m 0)]::qN l m:=by unfold qN;rw[Ef,ya,zz,qy,b0]
def aqh(a:Option Addr)(n c:Nat):Spec Tryz.prog 295 [.slice a n c] I [] λr I' M'=>∃ b,r=.func (.func 331) #[] #[ptr b]/\I' b=some (.cells #[.slice a n c] 42 (0,0))/\(∀ b o,I b=some o->I' b=some o)/\M'=[]:=by refine bU [1] a0 Tryz.func295 rfl rfl rfl ?_;intro B ax;refine bQ.mk λg aw DH=>?_;exact⟨_,_,.kZ rfl am .refl,g,rfl,mg ..,j0 aw,rfl⟩
def aqi{l:List Int}(af:cx I a n c 1 8 (l.map (.int .i64 ·)))(ag:I b=some (.cells #[.slice a n c] 42 (0,0))) :
  Iter Tryz.prog 331 [ptr b] I (qN l n):=by
 intro y R k7 rq dA M0 nB h9;refine Bf [] a0 Tryz.func331 rfl rfl rfl ?_;intro B ax;have hk:=af.cap;have rE:l.length=n:=by have aa:=af.len;simpa using aa
 have fB:cx I a n c 1 8 (l.flatMap ir):=by rw[og];exact af
 have bo:∀ (I1:aH) (M:List aA),(∀ b o,I b=some o->I1 b=some o)->c6 I1 M ((⟨b,0,none⟩:Addr).add 0) 1 [.slice a n c]:=λI1 M c8=>⟨rfl,_,_,_,.inl (c8 _ _ ag),rfl,rfl⟩;refine aU.mk _ (bo _ _ nB) ?_;refine be.mk ((n:Int)-1) (by rw[wrap_i64 (by unfold eC;omega)]) ?_;refine du.inv (ι:=Nat×Nat×aH×List aA) (λx=>{ bp:=[(0,.val (.func (.yield y) #[] #[])),(1,.val (ptr b)),(3,.val (.int .i64 ((x.1:Int)-1)))],cO:=x.2.2.1,c5:=x.2.2.2 }) (λx=>x.1<=n/\(∀ b o,I b=some o->x.2.2.1 b=some o)/\R x.2.1 x.2.2.1 x.2.2.2/\x.2.1<=(qN l n).length/\(qN l n).drop x.2.1=qN l x.1) (λx=>x.1) ?_ ?_
 ·exact⟨(n,0,dA,M0),⟨am,nB,h9,am,rfl⟩,.refl,fQ,.nil⟩
 ·rintro⟨m,k,I1,M1⟩⟨hm,c8,hU,c4,iF⟩;simp only at hm c8 hU c4 iF;refine aZ.mk (λh=>?_) (λh=>?_)
  ·have a1:(0:Int)<=(m:Int)-1:=cT h;obtain⟨m,rfl⟩:∃ q,m=q+1:=⟨m-1,Z⟩;have aK:((m+1:Nat):Int)-1=(m:Int):=by omega
   obtain⟨aR,bI,Po⟩:=(fB.mono c8).row (f:=ir) (λ_=>rfl) (j:=m) Z Z;rw[aqg]at iF;obtain⟨ae,ak,sH⟩:=drop_cons iF;refine aU.mk _ (bo _ _ c8) ?_;refine bt.mk aR m bI aK Z ?_;refine aU.mk _ (Po _) ?_;refine bC.yield rfl am rfl rfl ?_;have aG:=rq k ae I1 M1 c8 hU;rw[ak]at aG;have ba:l.getD m 0=l[m]:=by simp[bT,show m<l.length by omega]
   rw[ba,<-aK]at aG;refine Br.mk M1 [] _ am aG ?_;rintro v ew dv gq (⟨rfl,mQ⟩ | ⟨rfl,ab⟩);·refine aZ.mk (λh=>d7) (λ_=>?_);refine be.mk ((m:Int)-1) (by rw[wrap_i64 (by unfold eC;omega)];omega) ?_;exact⟨(m,k+1,ew,dv),⟨⟨ce,λb o h=>gq b o (c8 b o h),mQ,ae,sH⟩,ce⟩,.perm am .refl,fQ,.nil⟩
   ·refine aZ.mk (λ_=>?_) (λh=>d7);exact⟨_,_,.perm am .refl,.inr ab⟩
  ·have cV:¬ (0:Int)<=(m:Int)-1:=dU h;obtain rfl:m=0:=by omega
   refine⟨_,_,.refl,.inl ?_⟩;have uQ:k=(qN l n).length:=by have:(qN l n).drop k=[]:=iF.trans (by simp[qN]);have:=GA.1 this;omega
   rw[<-uQ];exact hU
def Spec.MO{P:Program}{f:Nat}{args:List Value}{p q:Value->aH->List aA->Prop}(h:Spec P f args I M p)(mJ:∀ v I' M',p v I' M'->q v I' M'):Spec P f args I M q:=by
 rcases h with⟨aa,ad⟩ | ad
 ·refine .inl ⟨aa,λw hw=>(ad w hw).mono ?_⟩;rintro e w'⟨v,I',M',aj,aJ,bD⟩;exact⟨v,I',M',aj,mJ _ _ _ aJ,bD⟩
 ·refine .inr λw hw=>?_;obtain⟨v,w',I',M',aj,aJ,bD⟩:=ad w hw;exact⟨v,w',I',M',aj,mJ _ _ _ aJ,bD⟩
def yL:Nat:=224
def ac8:List Nat:=[yL,yL,yL,yL,225,226,yL,yL,yL,yL]
def S':List Value:=ac8.map λf=>.func (.func f) #[] #[]
def aqj:Spec Tryz.prog 150 [] I [] λv I' M'=>v=.agg S'.toArray/\I'=I/\M'=[]:=by refine bU [] a0 Tryz.func150 rfl rfl rfl ?_;intro B ax;exact⟨_,_,.refl,rfl,rfl,rfl⟩
def xb(d:al)(l:List Nat)(ds ds':List al)(r:Int):Prop:=
 if d.k=4\/d.k=5 then
  (jy d ds l=[]/\r=(ds.length:Int)/\ds'=ds++[nothing (d.k-4)])\/(jy d ds l=[r]/\ds'=ds)\/(2<=(jy d ds l).length/\r=(ds.length:Int)/\∃ bN hM c',ds'=ds++[d.row bN hM c' (jy d ds l)])
 else r=(ds.length:Int)/\∃ bN hM c',ds'=ds++[d.row bN hM c' (l.map Int.ofNat)]
def Ta(A:ck)(d:al)(l:List Nat)(I:aH)(v:Value)(I':aH)(M':List aA):Prop:=(∀ b o,I b=some o->I' b=some o)/\∃ bq ds' r,M'=ck.ar ⟨A.b,bq,ds'⟩/\ck.ok I' ⟨A.b,bq,ds'⟩/\v=.int .i64 r/\xb d l A.ds ds' r
def aqk{A:ck}(dD:A.ok I)(aC:A.ds.length<=1099511627776){d:al}(ai:d.ok I)(az:∀ k∈l,k<A.ds.length)(rE:l.length<=1099511627776)(af:cx I a n c 1 8 ((l.map Int.ofNat).map (.int .i64 ·)))(j:Nat)(ah:j<10)(ae:d.k=j) :
  Spec Tryz.prog (ac8.getD j 0) [ptr A.b,d.val,.slice a n c] I A.ar (Ta A d l I):=by
 have aql:∀ x∈l.map Int.ofNat,eC x:=λx ab=>by obtain⟨k,ae,rfl⟩:=c3.1 ab;have:=az k ae;unfold eC;simp only[BI];omega
 have nr:¬ (d.k=4\/d.k=5)->Spec Tryz.prog yL [ptr A.b,d.val,.slice a n c] I A.ar (Ta A d l I):=λbz=>by refine Spec.MO (acU dD aC ai af aql) ?_;rintro v I' M'⟨rfl,rfl,os,rfl,bf⟩;refine⟨λ_ _ h=>h,os,_,_,rfl,bf,rfl,?_⟩;unfold xb;rw[bS bz];exact⟨rfl,_,_,_,rfl⟩
 have ac9:∀ {k:Int},d.k=k+4->(k=0\/k=1)->∀ {f:Nat},Spec Tryz.prog f [ptr A.b,d.val,.slice a n c] I A.ar (S9 A d (nothing k) l I)->Spec Tryz.prog f [ptr A.b,d.val,.slice a n c] I A.ar (Ta A d l I):=fun {k} ae hA {f} h=>by refine Spec.MO h ?_;rintro v I' M'⟨kF,os,ds',r,rfl,bf,rfl,h⟩;refine⟨kF,os,ds',r,rfl,bf,rfl,?_⟩;unfold xb;rw[b2 Z,show d.k-4=k by omega];exact h
 match j,ah with
 |0,_=>exact nr Z| 1,_=>exact nr Z| 2,_=>exact nr Z| 3,_=>exact nr Z| 4,_=>exact ac9 Z (.inl rfl) (aqe dD aC ai az rE af)| 5,_=>exact ac9 Z (.inr rfl) (aqf dD aC ai az rE af)| 6,_=>exact nr Z| 7,_=>exact nr Z| 8,_=>exact nr Z| 9,_=>exact nr Z
def eX(l:List aN):List Int:=l.map λS=>(S.br:Int)
def Fy(a b:List aN):eX (a++b)=eX a++eX b:=cR
def aqm{ns:List al}{T:aN}(h:iu (nodeAt ns T.br)=none):T.parts ns=T.sub:=by
 unfold aN.parts;rw[h];have:∀ c:aN,aN.o6 ns none c=[c]:=λc=>by
  cases c with
  |mk k ks=>rw[aN.yI,bS am]
 refine(rG λc _=>this c).trans ?_;simp
def cB.AD{ns:List al}:∀ {T:aN},cB ns T->(nodeAt ns T.br).ap=eX T.sub
 | .mk k ks,h=>h.inv.2.1
def cB.AE{ns:List al}:∀ {T:aN},cB ns T->∀ c∈T.sub,cB ns c
 | .mk k ks,h=>h.inv.2.2
def ho(l:List aN):Nat:=(l.map λS=>S.cX.length).sum
def AF(a b:List aN):ho (a++b)=ho a+ho b:=by unfold ho;rw[cR,pG]
def Fz:∀ T:aN,T.cX.length=ho T.sub+1
 | .mk k ks=>by rw[aN.mw,cn,x'];rfl
def ada(a:List aN):ho a.reverse=ho a:=by unfold ho;rw[SM,List.sum_reverse]
def AG:∀ l:List aN,l.length<=ho l
 |[]=>dQ _| c::l=>by have:=AG l;have ad:=Fz c;show l.length+1<=c.cX.length+ho l;omega
structure aqn(I:aH)(A:ck)(cb:Option Int)(aqo:List aN)(sz:Nat)(lo dd:aT)(hb a2:List aN)(J:aH):Prop where
 a4:∀ b o,I b=some o->J b=some o
 lo:lo.ok 1 ((eX hb).map (.int .i64 ·))
 dd:dd.ok 1 ((eX a2).map (.int .i64 ·))
 bl:∀ S∈a2,cB A.ds S
 same:hb++a2.reverse.flatMap (aN.o6 A.ds cb)=aqo
 sz:hb.length+ho a2<=sz
def I2(l:List Int)(n:Nat):(qN l n).length=n:=by simp[qN]
def aqp(l:List Int){k:Nat}(h:k<(qN l n).length)(ae:n-1-k<l.length):(qN l n)[k]=[.int .i64 ((n-1-k:Nat):Int),.int .i64 l[n-1-k]]:=by simp only[qN,gh,List.getElem_reverse,wy,wR];rw[bT,dy ae];rfl
def aqq{A:ck}(dD:A.ok I)(aC:A.ds.length<=1099511627776){T:aN}(a6:cB A.ds T)(dk:T.cX.length<=1099511627776) :
  Spec Tryz.prog 227 [ptr A.b,.int .i64 T.br] I A.ar λv I' M'=>(∀ b o,I b=some o->I' b=some o)/\M'=A.ar/\∃ a n c,v=.slice a n c/\cx I' a n c 1 8 ((eX (T.parts A.ds)).map (.int .i64 ·)):=by
 refine xF [7] a0 Tryz.func227 rfl rfl rfl ?_;intro B ax;have c4:=a6.nb;have adb:=dD.n;obtain⟨aR,bI,bo⟩:=aT.ok.row (I:=I) (M:=A.ar) al.cL bv dD.os (e:=88) (λx ab=>ay6) (j:=T.br) c4;have hP:=dD.ds _ (bK c4);have mu:=gr c4;have tr:=a6.AD;generalize fj:A.ds[T.br]=d at bo hP mu;rw[mu]at tr;obtain⟨dF,cf,s1,s2,cH,s,lo,hi,ca,aF,cr,ap⟩:=d;refine aU.mk [A.os.val] (dm (cs:=[A.os.val]) (k:=0) (n:=1) (T:=172) wr am) ?_;refine bt.mk aR T.br bI rfl Z ?_;refine aU.mk _ bo ?_;refine b5.mk (λaJ=>?_) (λaJ=>?_)
 case' refine_1=>
  have aqr:dF≠4:=by simpa using aJ
  refine aZ.mk (λbD=>?_) (λbD=>?_)
  case' refine_1=>
   have aqs:dF≠5:=by simpa using bD
   intro _;refine⟨_,_,.refl,λ_ _ h=>h,rfl,ca,aF,cr,rfl,?_⟩;rw[aqm (by rw[mu];unfold iu;rw[bS];simp[aqr,aqs]),<-tr];exact hP.bb
  have gA:dF=4\/dF=5:=.inr (by simpa using bD)
 case' refine_2=>have gA:dF=4\/dF=5:=.inl v6
 all_goals
  have vF:iu (nodeAt A.ds T.br)=some dF:=by rw[mu];unfold iu;rw[b2 gA]
  have w5:T.parts A.ds=T.sub.flatMap (aN.o6 A.ds (some dF)):=by unfold aN.parts;rw[vF]
  refine bQ.mk λb1 ia MP=>?_;refine bQ.mk λb7 Ht ax0=>?_;refine b4.mk [] (⟨b1,_⟩::A.ar) _ _ rfl rfl (bJ rfl) rfl ?_;clear bI bo;refine du.uD (ι:=aT×aT×List aN×List aN×aH) (λx=>{ bp:=[(0,.val (ptr A.b)),(5,.ref 5 0),(6,.val x.1.val),(7,.val (ptr b7))],cl:=[(5,al.cells ⟨dF,cf,s1,s2,cH,s,lo,hi,ca,aF,cr,ap⟩)],cO:=x.2.2.2.2,c5:=⟨b7,.cells #[x.2.1.val] 42 (0,0)⟩::(x.2.1.ar 3++(x.1.ar 3++A.ar)) }) (λx=>aqn I A (some dF) (T.parts A.ds) T.cX.length x.1 x.2.1 x.2.2.1 x.2.2.2.1 x.2.2.2.2) (λx=>ho x.2.2.2.1) ?_ ?_
  ·intro _;refine⟨(⟨none,0,0,[]⟩,⟨some b1,1,1,[.int .i64 T.br]⟩,[],[T],I),⟨λ_ _ h=>h,⟨rfl,(λ_=>⟨rfl,rfl⟩),λg h=>ci⟩,⟨rfl,(λh=>ci),λei jB=>⟨rfl,cc _,azb,rfl⟩⟩,λS cy=>?_,?_,?_⟩,.refl,dM,.cons rfl (.nil)⟩
   ·rw[eL.1 cy];exact a6
   ·rw[hI,zz,oN,w5];cases T with
    |mk k ks=>
    rw[aN.yI,b2 (by rw[show nodeAt A.ds k=_ from mu])];rfl
   ·simp[ho]
  rintro⟨lo,dd,hb,a2,J⟩⟨a4,fg,m5,eS,qO,ade⟩;simp only at a4 fg m5 eS qO ade;have sh:=fg.pK;have vA:=m5.pK;have gY:=AG a2;simp only[eX,bB]at sh vA;refine aU.mk [dd.val] (dm (cs:=[dd.val]) (k:=0) (n:=1) (T:=42) (.head _) am) ?_;refine aZ.mk (λh=>?_) (λh=>?_)
  ·have abW:0<dd.n:=by have:(0:Int)<(dd.n:Int):=cT h;omega
   obtain⟨fY,S,rfl⟩:∃ r p,a2=r++[p]:=by
    rcases ze a2 with aa | ⟨r,p,aa⟩;·subst aa;simp at vA;omega
    ·exact⟨r,p,rx⟩
   have cy:=eS S am;have pX:=cy.nb;have Tb:=Fz S;have u2:ho [S]=S.cX.length:=by simp[ho]
   have aqt:=AG S.sub;rw[AF,u2,Tb]at ade gY;have hX:dd.n=fY.length+1:=by have dT:=vA;simp only[cn,oV]at dT;omega
   rw[ya,zz,qy,iA]at qO;obtain⟨aR,bI,bo⟩:=aT.BZ (I:=J) (e:=3) (M:=⟨b7,.cells #[dd.val] 42 (0,0)⟩::(dd.ar 3++(lo.ar 3++A.ar))) m5 (λx ab=>f9) (j:=fY.length) (by simp[eX]);have yM:(eX (fY++[S]))[fY.length]'(by simp[eX])=(S.br:Int):=by simp[eX]
   rw[yM]at bo;have oh:=m5;rw[Fy,cR]at oh;have oh:aT.ok ⟨dd.a,dd.n-1,dd.c,dd.aS⟩ 1 ((eX fY).map (.int .i64 ·)):=aT.pop oh;have he:dd.n-1=fY.length:=by omega
   rw[he]at oh;have IB:fY.length<=dd.c:=by
    cases ua:dd.a with
    |none=>have:=(m5.nil ua).1;omega| some IC=>have:=(m5.cap IC ua).2.1;omega
   refine aU.mk [dd.val] (dm (cs:=[dd.val]) (k:=0) (n:=1) (T:=42) (.head _) am) ?_;refine aU.mk [dd.val] (dm (cs:=[dd.val]) (k:=0) (n:=1) (T:=42) (.head _) am) ?_;refine be.mk ((fY.length:Nat):Int) gt ?_;refine bt.mk aR fY.length bI rfl (show fY.length<dd.n by omega) ?_;refine aU.mk _ bo ?_;refine aU.mk [dd.val] (dm (cs:=[dd.val]) (k:=0) (n:=1) (T:=42) (.head _) am) ?_;refine aU.mk [dd.val] (dm (cs:=[dd.val]) (k:=0) (n:=1) (T:=42) (.head _) am) ?_;refine be.mk ((fY.length:Nat):Int) gt ?_;refine kY.mk 0 fY.length rfl rfl (dQ _) IB ?_;refine b4.mk [] (dd.ar 3++(lo.ar 3++A.ar)) #[dd.val] 42 rfl rfl (bJ rfl) rfl ?_;have adf:=dD.mono a4;obtain⟨FA,CT,yN⟩:=aT.ok.row (I:=J) (M:=⟨b7,.cells #[(⟨dd.a,fY.length,dd.c,dd.aS⟩:aT).val] 42 (0,0)⟩::(dd.ar 3++(lo.ar 3++A.ar))) al.cL bv adf.os (e:=88) (λx ab=>ay6) (j:=S.br) pX;have MQ:=gr pX;have MR:=adf.ds _ (bK pX);have MS:=cy.AD;rw[MQ]at MS;generalize adg:A.ds[S.br]=rX at yN MQ MR MS;refine cY.draw a0 rfl rfl rfl ?_;refine aU.mk [A.os.val] (dm (cs:=[A.os.val]) (k:=0) (n:=1) (T:=172) wr am) ?_;refine bt.mk FA S.br CT rfl Z ?_;refine aU.mk _ (c6.part (k:=0) (m:=1) yN bv) ?_;refine aZ.mk (λcG=>?_) (λcG=>?_)
   ·have bz:rX.k≠dF:=by simpa using cG
    have Tc:aN.o6 A.ds (some dF) S=[S]:=by
     cases S with
     |mk k ks=>
     rw[aN.yI,bS];intro e;rw[show nodeAt A.ds k=rX from MQ]at e;exact bz (e1 e)
    rw[Tc,qy]at qO;refine bQ.mk λb9 mU ue=>?_;refine bC.lU a0 rfl am (e:=3) rfl rfl rfl lo fg rfl (cs:=[.int .i64 S.br]) rfl rfl rfl (⟨b7,.cells #[(⟨dd.a,fY.length,dd.c,dd.aS⟩:aT).val] 42 (0,0)⟩::dd.ar 3) A.ar rfl Z (by show(lo.n+1)*8<=_;omega) ?_;intro Aa aa ad aj;intro _;refine⟨(Aa,⟨dd.a,fY.length,dd.c,dd.aS⟩,hb++[S],fY,J),⟨⟨a4,?_,oh,λx ab=>eS x f9,?_,?_⟩,?_⟩,.refl,dM,.cons rfl (.nil)⟩;·rw[Fy,cR];exact aj
    ·rw[dW,qy];exact qO
    ·show(hb++[S]).length+ho fY<=T.cX.length;rw[cn,oV];omega
    ·show ho fY<ho (fY++[S]);rw[AF,u2];omega
   ·have he:rX.k=dF:=by simpa using cG
    have Tc:aN.o6 A.ds (some dF) S=S.sub.flatMap (aN.o6 A.ds (some dF)):=by
     cases S with
     |mk k ks=>
     rw[aN.yI,b2];·rfl
     ·rw[show nodeAt A.ds k=rX from MQ,he]
    have fh:=MR.aF;have pN:=MR.bb.cap;have MT:rX.ap.length=S.sub.length:=by rw[MS];simp[eX]
    refine aU.mk [A.os.val] (dm (cs:=[A.os.val]) (k:=0) (n:=1) (T:=172) wr am) ?_;refine bt.mk FA S.br CT rfl Z ?_;refine aU.mk _ (c6.part (k:=8) (m:=1) yN bv) ?_;refine a8.mk [] _ _ (.refl _) (aqh rX.ca rX.aF rX.cr) ?_;rintro v h0 M1 -⟨c0,rfl,x2,g1,rfl⟩;have aqu:∀ b o,I b=some o->h0 b=some o:=λb o h=>g1 _ _ (a4 _ _ h);refine cY.range a0 rfl rfl rfl .refl (aqi (MR.bb.mono g1) x2) (λvs h=>?_) (λk I' M'=>∃ eR:aT,(∀ b o,h0 b=some o->I' b=some o)/\eR.ok 1 ((eX (fY++S.sub.reverse.take k)).map (.int .i64 ·))/\M'=⟨b7,.cells #[eR.val] 42 (0,0)⟩::(eR.ar 3++(lo.ar 3++A.ar))) (λex I' M'=>False) ⟨⟨dd.a,fY.length,dd.c,dd.aS⟩,λ_ _ h=>h,by simpa using oh,rfl⟩ ?_ ?_ (λex I' M' _ h=>h.elim);·obtain⟨p,_,rfl⟩:=c3.1 h;rfl
    ·rintro k ae I' M' -⟨eR,kF,ko,rfl⟩l B ax iC;have eU:k<S.sub.length:=by rw[I2]at ae;omega
     have ak:=aqp rX.ap ae (by rw[I2]at ae;omega);have e5:rX.ap[rX.aF-1-k]'(by rw[I2]at ae;omega)=((S.sub.reverse[k]'(by rw[CG];exact eU)).br:Int):=by
      have aa:rX.ap[rX.aF-1-k]?=(eX S.sub)[rX.aF-1-k]?:=by rw[MS]
      rw[dy (by rw[I2]at ae;omega)]at aa;unfold eX at aa;rw[jJ,dy Z]at aa;rw[e1 aa,List.getElem_reverse];congr 3;omega
     rw[e5]at ak;rw[ak];have aqv:=ko.pK;simp only[eX,bB,cn,fT,CG]at aqv;refine aU.mk [eR.val] (dm (cs:=[eR.val]) (k:=0) (n:=1) (T:=42) (.head _) am) ?_;refine bQ.mk λb9 mU ue=>?_;refine bC.lU a0 rfl am (e:=3) rfl rfl rfl eR ko rfl (cs:=[.int .i64 (S.sub.reverse[k]'(by rw[CG];exact eU)).br]) rfl rfl rfl [_] (lo.ar 3++A.ar) rfl Z (by show(eR.n+1)*8<=_;omega) ?_;intro fy aa ad aj;refine b4.mk [] (fy.ar 3++(lo.ar 3++A.ar)) #[eR.val] 42 rfl rfl (bJ rfl) rfl ?_;refine⟨_,_,.refl,fy,kF,?_,rfl⟩;rw[gk (by rw[CG];exact eU),<-dW,Fy,cR];exact aj
    ·rintro I' M' -⟨eR,kF,ko,rfl⟩;rw[I2,fD (by rw[CG];omega)]at ko;intro _;refine⟨(lo,eR,hb,fY++S.sub.reverse,I'),⟨⟨λb o h=>kF _ _ (aqu _ _ h),fg,ko,λx ab=>?_,?_,?_⟩,?_⟩,.refl,dM,.cons rfl (.nil)⟩
     ·rcases c1.1 ab with ab | ab
      ·exact eS x f9
      ·exact cy.AE x (RW.1 ab)
     ·rw[ya,Q',fS,<-Tc];exact qO
     ·show hb.length+ho (fY++S.sub.reverse)<=T.cX.length;rw[AF,ada];omega
     ·show ho (fY++S.sub.reverse)<ho (fY++[S]);rw[AF,AF,ada,u2];omega
  ·have ax:dd.n=0:=by have:¬ (0:Int)<(dd.n:Int):=dU h;omega
   obtain rfl:a2=[]:=im Z;intro eY;have eY:l7 J (⟨b7,.cells #[dd.val] 42 (0,0)⟩::(dd.ar 3++(lo.ar 3++A.ar))):=eY;have EU:hb=T.parts A.ds:=by simpa using qO
   subst EU;have l0:(⟨b7,.cells #[dd.val] 42 (0,0)⟩::(dd.ar 3++(lo.ar 3++A.ar)):List aA).Perm (lo.ar 3++(A.ar++([⟨b7,.cells #[dd.val] 42 (0,0)⟩]++dd.ar 3))):=by have:=eN (l₁:=([⟨b7,.cells #[dd.val] 42 (0,0)⟩]++dd.ar 3:List aA)) (l₂:=lo.ar 3++A.ar);simpa using this
   have aw:∀ g,lo.a=some g->J g=none/\g ∉ A.ar.map (·.num):=λg aw=>by
    have ag:lo.ar 3=[⟨g,.cells lo.aS.toArray 3 (0,0)⟩]:=by unfold aT.ar;rw[aw]
    have b':=(l0.map (·.num)).nodup_iff.1 eY.cu;rw[ag]at b';refine⟨eY.d ⟨g,.cells lo.aS.toArray 3 (0,0)⟩ (by simp[ag]),λhm=>?_⟩;rw[cR]at b';simp only[b0,hs,qy,lG,cR]at b';exact b'.1 (iv _ hm)
   obtain⟨ew,hw,gq,dB,-⟩:=aT.zL (b:=8) (e:=3) fg Z aw (A.ar++([⟨b7,.cells #[dd.val] 42 (0,0)⟩]++dd.ar 3));exact⟨ew,A.ar,.perm l0 (hw _ _ (.sub (w6 _ _) .refl)),λb o h=>gq _ _ (a4 _ _ h),rfl,_,_,_,rfl,dB⟩
def yO(l:List Nat):List Int:=l.map λx:Nat=>(x:Int)
structure MU(I:aH)(A:ck)(T:aN)(lo dd:aT)(hb:List Nat)(a2:List aN)(os:aT)(ds:List al)(J:aH):Prop where
 a4:∀ b o,I b=some o->J b=some o
 ok:ck.ok J ⟨A.b,os,ds⟩
 lo:lo.ok 1 ((yO hb).map (.int .i64 ·))
 dd:dd.ok 1 ((eX a2).map (.int .i64 ·))
 bl:∀ S∈a2,cB A.ds S
 cu:(hb++a2.flatMap aN.cX).Nodup
 len:ds.length=A.ds.length
 a:os.a=A.os.a
 same:∀ w,w ∉ hb->nodeAt ds w=nodeAt A.ds w
 done:∀ w∈hb,∃ S a n c,cB A.ds S/\S.br=w/\nodeAt ds w=(nodeAt A.ds w).row a n c (eX (S.parts A.ds))
 out:hb++a2.reverse.flatMap (λS=>(S.bu A.ds).cX.reverse)=(T.bu A.ds).cX.reverse
def MU.lt{A:ck}{T:aN}{lo dd:aT}{hb:List Nat}{a2:List aN}{ds:List al}(h:MU I A T lo dd hb a2 os ds J):hb.length+ho a2<=A.ds.length:=by
 have aa:=ME (n:=A.ds.length) h.cu λx ab=>by
  rcases c1.1 ab with ab | ab;·obtain⟨S,-,-,-,cy,rfl,-⟩:=h.done x ab;exact cy.nb
  ·obtain⟨S,cy,ab⟩:=hl.1 ab;exact(h.bl S cy).lt x ab
 rw[cn,x']at aa;exact aa
def l7.FB{foot:List Nat}(eY:l7 J M)(aI:M.Perm (os.ar e++Mr))(aE:∀ x∈foot,x∈Mr.map (·.num)):∀ g,os.a=some g->J g=none/\g ∉ foot:=λg aw=>by
 have ag:os.ar e=[⟨g,.cells os.aS.toArray e (0,0)⟩]:=by unfold aT.ar;rw[aw]
 have b':=(aI.map (·.num)).nodup_iff.1 eY.cu;refine⟨eY.d ⟨g,.cells os.aS.toArray e (0,0)⟩ (aI.mem_iff.2 (by rw[ag];exact .head _)),λhm=>?_⟩;rw[ag,cR]at b';simp only[b0,hs,qy,lG]at b';exact b'.1 (aE g hm)
def aqw{bq:aT}(h:os.val=bq.val):os.a.map (λg=>(⟨g,0,none⟩:Addr))=bq.a.map (λg=>(⟨g,0,none⟩:Addr)):=by unfold aT.val at h;injection h
structure adh(d:al)(eo:List Int)(y:Nat×aT×List Int):Prop where
 k:y.1<=d.aF
 ok:y.2.1.ok 1 (y.2.2.map (.int .i64 ·))
 eq:y.2.2=(d.ap.take y.1).map (λk=>eo.getD k.toNat 0)
def aqx{ns:List al}(h:∀ w,(nodeAt dZ w).k=(nodeAt ns w).k)(cb:Option Int):∀ S:aN,S.o6 dZ cb=S.o6 ns cb:=by
 intro S
 induction S using aN.ind with
 |h k ks aQ=>
  rw[aN.yI,aN.yI,h k];split;·exact rG λc ao=>aQ c ao
  ·rfl
def aqy{d e:al}(h:d.k=e.k):iu d=iu e:=by unfold iu;rw[h]
def aqz{ns:List al}(h:∀ w,(nodeAt dZ w).k=(nodeAt ns w).k)(S:aN):S.parts dZ=S.parts ns:=by unfold aN.parts;rw[aqy (h S.br)];exact rG λc ao=>aqx h _ c
def al.aqA(d:al)(a:Option Addr)(n c:Nat)(ks:List Int):cd d.cells 8 [.slice a n c]=(d.row a n c ks).cells:=rfl
def aqB{ns:List al}:∀ {T:aN},cB ns T->pO ns T.hf:=by
 intro T
 induction T using aN.ind with
 |h k ks aQ=>
  intro h;obtain⟨aa,ad,aj⟩:=h.inv;have aE:pO ns (ks.flatMap aN.hf):=by
   have:∀ l:List aN,(∀ c∈l,pO ns c.hf)->pO ns (l.flatMap aN.hf):=λl=>by
    induction l with
    |nil=>intro _ i h;simp at h| cons c l Td=>intro az;rw[iA];exact(az c (.head _)).append (Td λx ab=>az x (.tail _ ab))
   exact this ks λc ao=>aQ c ao (aj c ao)
  rw[aN.IZ];intro i hi x ab;by_cases e:i<(ks.flatMap aN.hf).length;·rw[zy e]at ab;rw[Bo Z];exact aE i e x ab
  ·rw[cn,oV]at hi;have aB:i=(ks.flatMap aN.hf).length:=by omega
   subst aB;rw[B4 (cc _)]at ab;simp only[mh,List.getElem_singleton,hC]at ab;rw[uG];rw[ad]at ab;obtain⟨c,ao,rfl⟩:=c3.1 ab;exact hl.2 ⟨c,ao,c3.2 ⟨c.br,c.Fu,rfl⟩⟩
def aqC{ns:List al}:∀ {T:aN},cB ns T->∀ x∈T.cX,∀ q∈(nodeAt ns x).ap,0<=q/\q<ns.length:=by
 intro T
 induction T using aN.ind with
 |h k ks aQ=>
  intro h x ab q aO;obtain⟨aa,ad,aj⟩:=h.inv;rw[aN.mw]at ab;rcases c1.1 ab with ab | ab;·obtain⟨c,ao,ab⟩:=hl.1 ab;exact aQ c ao (aj c ao) x ab q aO
  ·rw[eL.1 ab,ad]at aO;obtain⟨c,ao,rfl⟩:=c3.1 aO;have:=(aj c ao).nb;omega
def aN.aqD(ns:List al)(S:aN):((S.parts ns).flatMap aN.cX).Sublist (S.sub.flatMap aN.cX):=by unfold aN.parts;rw[CO];exact Fw λc ao=>aN.apJ ns _ c
def aqE{ds:List al}{j:Nat}(ah:j<ds.length)(x:al)(w:Nat):nodeAt (ds.set j x) w=if w=j then x else nodeAt ds w:=by
 unfold nodeAt;rw[bT,bT,iB];by_cases e:w=j
 ·subst e;rw[b2 rfl,b2 ah,b2 rfl];rfl
 ·rw[bS (λh=>e h.symm),bS e]
def aqF(ns:List al)(S:aN):(S.bu ns).cX.reverse=S.br::(S.parts ns).reverse.flatMap λc=>(c.bu ns).cX.reverse:=by
 have h:=aN.acJ ns S;have az:=aN.acI ns S;generalize S.bu ns=O at h az;cases O with
 |mk k ks=>
 obtain rfl:k=S.br:=az;rw[aN.mw,show ks=_ from h,ya,zz,qy,List.reverse_flatMap,<-SM,yb];rfl
def aqG{A:ck}(dD:A.ok I)(aC:A.ds.length<=1099511627776)(ae:rV A.ds)(ai:hz (eI A.ds)){T:aN}(a6:cB A.ds T) :
  Spec Tryz.prog 151 [ptr A.b,.int .i64 T.br] I A.ar λv I' M'=>(∀ b o,I b=some o->I' b=some o)/\M'=[]/\∃ bi:bs,v=bi.val/\bi.ok I'/\lz bi (T.bare A.ds).bu:=by
 refine xF [] a0 Tryz.func151 rfl rfl rfl ?_;intro B ax;refine bQ.mk λb1 ia MP=>?_;refine du.inv (ι:=aT×aT×List Nat×List aN×aT×List al×aH) (λx=>{ bp:=[(0,.val (ptr A.b)),(4,.ref 4 0),(5,.val x.1.val),(6,.val x.2.1.val)],cl:=[(4,[.slice none 0 0,.int .i64 0])],cO:=x.2.2.2.2.2.2,c5:=x.2.1.ar 3++(x.1.ar 3++ck.ar ⟨A.b,x.2.2.2.2.1,x.2.2.2.2.2.1⟩) }) (λx=>MU I A T x.1 x.2.1 x.2.2.1 x.2.2.2.1 x.2.2.2.2.1 x.2.2.2.2.2.1 x.2.2.2.2.2.2) (λx=>ho x.2.2.2.1) ?_ ?_
 ·refine⟨(⟨none,0,0,[]⟩,⟨some b1,1,1,[.int .i64 T.br]⟩,[],[T],A.os,A.ds,I),⟨λ_ _ h=>h,dD,⟨rfl,(λ_=>⟨rfl,rfl⟩),λg h=>ci⟩,⟨rfl,(λh=>ci),λei jB=>⟨rfl,cc _,azb,rfl⟩⟩,λS cy=>?_,?_,rfl,rfl,λw _=>rfl,(λw hw=>by cases hw),?_⟩,.refl,dM,.cons rfl (.nil)⟩
  ·rw[eL.1 cy];exact a6
  ·rw[hI,oN];exact a6.nodup ae ai
  ·rw[hI,zz,oN]
 rintro⟨lo,dd,hb,a2,os,ds,J⟩bE;have bE:MU I A T lo dd hb a2 os ds J:=bE;have a1:=bE.lt;obtain⟨a4,bf,fg,m5,eS,b',cQ,adi,qO,E4,rU⟩:=bE;have sh:=fg.pK;have vA:=m5.pK;have gY:=AG a2;simp only[eX,yO,bB]at sh vA;refine aZ.mk (λh=>?_) (λh=>?_)
 ·have abW:0<dd.n:=by have:(0:Int)<(dd.n:Int):=cT h;omega
  obtain⟨fY,S,rfl⟩:∃ r p,a2=r++[p]:=by
   rcases ze a2 with aa | ⟨r,p,aa⟩;·subst aa;simp at vA;omega
   ·exact⟨r,p,rx⟩
  have cy:=eS S am;have pX:=cy.nb;have Tb:=Fz S;have u2:ho [S]=S.cX.length:=by simp[ho]
  have aqt:=AG S.sub;rw[AF,u2,Tb]at a1 gY;have hX:dd.n=fY.length+1:=by have dT:=vA;simp only[cn,oV]at dT;omega
  have Te:∀ w∈S.cX,w ∉ hb:=λw hw AH=>by have:=(uu.1 b').2.2 w AH w (by rw[fS,oN];exact r6 _ hw);exact this rfl
  have adg:cB ds S:=cy.congr λw hw=>⟨by rw[cQ];exact cy.lt w hw,by rw[qO w (Te w hw)]⟩;have e5:∀ w,(nodeAt ds w).k=(nodeAt A.ds w).k:=λw=>by
   by_cases hw:w∈hb;·obtain⟨kk,a,n,c,-,-,e⟩:=E4 w hw;rw[e];rfl
   ·rw[qO w hw]
  have R2:S.parts ds=S.parts A.ds:=aqz e5 S;obtain⟨aR,bI,bo⟩:=aT.BZ (I:=J) (e:=3) (M:=dd.ar 3++(lo.ar 3++ck.ar ⟨A.b,os,ds⟩)) m5 (λx ab=>f9) (j:=fY.length) (by simp[eX]);have yM:(eX (fY++[S]))[fY.length]'(by simp[eX])=(S.br:Int):=by simp[eX]
  rw[yM]at bo;have oh:=m5;rw[Fy,cR]at oh;have oh:aT.ok ⟨dd.a,dd.n-1,dd.c,dd.aS⟩ 1 ((eX fY).map (.int .i64 ·)):=aT.pop oh;have he:dd.n-1=fY.length:=by omega
  rw[he]at oh;have IB:fY.length<=dd.c:=by
   cases ua:dd.a with
   |none=>have:=(m5.nil ua).1;omega| some IC=>have:=(m5.cap IC ua).2.1;omega
  refine be.mk ((fY.length:Nat):Int) gt ?_;refine bt.mk aR fY.length bI rfl (show fY.length<dd.n by omega) ?_;refine aU.mk _ bo ?_;refine cY.draw a0 rfl rfl rfl ?_;refine aU.mk [os.val] (dm (cs:=[os.val]) (k:=0) (n:=1) (T:=172) wr am) ?_;refine ev.oy (ck.ar ⟨A.b,os,ds⟩) (dd.ar 3++(lo.ar 3++[])) _ ?_ (aqq (A:=⟨A.b,os,ds⟩) bf ce adg Z) ?_ ?_;·have:=eN (l₁:=(dd.ar 3++lo.ar 3)) (l₂:=ck.ar ⟨A.b,os,ds⟩);simpa using this
  ·rintro v I' M'⟨-,rfl,-⟩x ab;exact ab
  rintro v h0 M1 -⟨g1,rfl,a,n,c,rfl,dB⟩;simp only at dB;rw[R2]at dB;have zG:S.br<ds.length:=by omega
  have xM:=bf.mono g1;obtain⟨FA,CT,yN⟩:=aT.ok.row (I:=h0) (M:=ck.ar ⟨A.b,os,ds⟩++(dd.ar 3++(lo.ar 3++[]))) al.cL bv xM.os (e:=88) (λx ab=>ay6) (j:=S.br) zG;refine bt.mk FA S.br CT rfl (by have:=xM.n;simp only at this |-;omega) ?_;refine aT.EL al.cells 9 al.cL (e:=88) xM.os zG 8 (vs:=[.slice a n c]) (bJ rfl) rfl (ds[S.br].row a n c (eX (S.parts A.ds))) (al.aqA _ _ _ _ _) [⟨A.b,.cells #[os.val] 172 (0,0)⟩] (dd.ar 3++(lo.ar 3++[])) rfl CT ?_;intro ig ma m8 lq Tf;obtain⟨AI,CU⟩:∃ AI,ds.set S.br (ds[S.br].row a n c (eX (S.parts A.ds)))=AI:=⟨_,rfl⟩;rw[CU]at Tf;have rM:AI.length=ds.length:=by rw[<-CU,rD]
  have Tg:∀ w,nodeAt AI w=if w=S.br then(nodeAt A.ds S.br).row a n c (eX (S.parts A.ds))else nodeAt ds w:=λw=>by rw[<-CU,aqE zG,<-gr zG,qO _ (Te _ S.Fu)]
  have j1:=S.aqD A.ds;have ax1:ho (S.parts A.ds)<=ho S.sub:=by have:=j1.length_le;rw[x',x']at this;exact this
  have rr:=AG (S.parts A.ds);have pw:n=(S.parts A.ds).length:=by have:=dB.len;simp only[eX,bB]at this;omega
  have Ke:(ds[S.br].row a n c (eX (S.parts A.ds))).ok h0:=by
   have aa:=(xM.ds _ (bK zG)).row dB λx ab=>by obtain⟨c',y9,rfl⟩:=c3.1 ab;have:=(aN.acK A.ds cy c' y9).nb;unfold eC;omega
   exact aa
  have dT:ig.n=AI.length:=by rw[lq,rM];exact xM.n
  have iX:ck.ok h0 ⟨A.b,ig,AI⟩:=⟨Tf,dT,λx ab=>by
   rw[<-CU]at ab;rcases w0 ab with ab | rfl;·exact xM.ds x ab
   ·exact Ke⟩
  obtain⟨aqH,adj,MV⟩:=aT.ok.row (I:=h0) (M:=[⟨A.b,.cells #[os.val] 172 (0,0)⟩]++(ig.ar 88++(dd.ar 3++(lo.ar 3++[])))) al.cL bv Tf (e:=88) (λx ab=>f9) (j:=S.br) Z;have mZ:AI[S.br]' Z=ds[S.br].row a n c (eX (S.parts A.ds)):=by have aa:=Tg S.br;rw[b2 rfl,gr Z,<-qO _ (Te _ S.Fu),gr zG]at aa;exact aa
  rw[mZ]at MV;have adk:=dB.cap;refine cY.draw a0 rfl rfl rfl ?_;refine be.mk ((fY.length:Nat):Int) gt ?_;refine kY.mk 0 fY.length rfl rfl (dQ _) IB ?_;refine aU.mk [os.val] (dm (cs:=[os.val]) (k:=0) (n:=1) (T:=172) am am) ?_;refine bt.mk aqH S.br (by rw[m8]at adj;exact adj) rfl (by have:=xM.n;simp only at this |-;omega) ?_;refine aU.mk _ (MV.part (k:=8) (m:=1) bv) ?_;refine bC.zX a0 rfl am (e:=3) rfl rfl rfl ⟨dd.a,fY.length,dd.c,dd.aS⟩ oh rfl (sa:=a) (m:=n) (c':=c) (b8:=(eX (S.parts A.ds)).map (.int .i64 ·)) rfl (by rw[bB,pw];simp[eX]) (λax=>dB.yC _ ax) (Ff _) ([⟨A.b,.cells #[os.val] 172 (0,0)⟩]++ig.ar 88) (lo.ar 3++[]) rfl ce (by show(fY.length+n)*8<=_;omega) ?_;intro sW abY abZ iD;rw[<-cR,<-Fy]at iD;refine bQ.mk λbH il Pr=>?_;refine bC.lU a0 rfl am (e:=3) rfl rfl rfl lo fg rfl (cs:=[.int .i64 S.br]) rfl rfl rfl ([⟨A.b,.cells #[os.val] 172 (0,0)⟩]++ig.ar 88++sW.ar 3) [] (congrArg (List.cons _) (dW _ _ _).symm) Z (by show(lo.n+1)*8<=_;omega) ?_;intro MW ax2 ax3 aqI;refine⟨(MW,sW,hb++[S.br],fY++S.parts A.ds,ig,AI,h0),⟨⟨λb o h=>g1 _ _ (a4 _ _ h),iX,?_,iD,λx ab=>?_,?_,rM.trans cQ,m8.trans adi,λw hw=>?_,λw hw=>?_,?_⟩,?_⟩,.perm ?_ .refl,dM,.cons rfl (.nil)⟩;·show MW.ok 1 ((yO (hb++[S.br])).map (.int .i64 ·));unfold yO;rw[cR,cR];exact aqI
  ·rcases c1.1 ab with ab | ab
   ·exact eS x f9
   ·exact aN.acK A.ds cy x ab
  ·have aa:((hb++[S.br])++(fY++S.parts A.ds).flatMap aN.cX).Perm (hb++(fY.flatMap aN.cX++((S.parts A.ds).flatMap aN.cX++[S.br]))):=by rw[dW,fS];refine SK hb ?_;have:=eN (l₁:=[S.br]) (l₂:=fY.flatMap aN.cX++(S.parts A.ds).flatMap aN.cX);simpa using this
   refine aa.nodup_iff.2 (List.Nodup.sublist ?_ b');rw[fS,oN];refine(Mt _).append ((Mt _).append ?_);have:S.cX=S.sub.flatMap aN.cX++[S.br]:=by cases S;exact aN.mw _ _
   rw[this];exact j1.append (.refl _)
  ·rw[Tg,bS (λe=>hw (by rw[e];simp)),qO w (λh=>hw (iv _ h))]
  ·rw[Tg];by_cases e:w=S.br
   ·subst e;rw[b2 rfl];exact⟨S,a,n,c,cy,rfl,rfl⟩
   ·rw[bS e];rcases c1.1 hw with hw | hw
    ·exact E4 w hw
    ·exact absurd (eL.1 hw) e
  ·rw[<-rU,ya,ya,fS,fS,zz,oN,aqF A.ds S,dW];rfl
  ·show ho (fY++S.parts A.ds)<ho (fY++[S]);rw[AF,AF,u2];omega
  ·show List.Perm _ (sW.ar 3++(MW.ar 3++(⟨A.b,.cells #[ig.val] 172 (0,0)⟩::ig.ar 88)));rw[ma];have:=eN (l₁:=(⟨A.b,.cells #[os.val] 172 (0,0)⟩::ig.ar 88)) (l₂:=sW.ar 3++MW.ar 3);simpa using this
 ·have ax:dd.n=0:=by have:¬ (0:Int)<(dd.n:Int):=dU h;omega
  obtain rfl:a2=[]:=im Z;have EU:hb.reverse=(T.bu A.ds).cX:=by rw[List.reverse_nil,Pa,dK]at rU;rw[rU,Q']
  obtain⟨rb,o4⟩:∃ rb,(T.bu A.ds).hf=rb:=⟨_,rfl⟩;have aqJ:yO hb.reverse=rb:=by rw[EU,<-o4];rfl
  have e5:∀ w,(nodeAt ds w).bare=(nodeAt A.ds w).bare:=λw=>by
   by_cases hw:w∈hb;·obtain⟨kk,a,n,c,-,-,e⟩:=E4 w hw;rw[e];rfl
   ·rw[qO w hw]
  have adl:(T.bu A.ds).cX.Nodup:=(a6.nodup ae ai).sublist (aN.apL _ T);have vG:cB ds (T.bu A.ds):=aN.apP A.ds a6 λS cy hm=>by rw[<-EU]at hm;obtain⟨kk,a,n,c,LY,e,ba⟩:=E4 S.br (RW.1 hm);obtain rfl:=LY.apF cy e;exact⟨by rw[cQ];exact cy.nb,by rw[ba];rfl⟩
  have aqK:(T.bu A.ds).bare ds=(T.bare A.ds).bu:=by rw[aN.acP A.ds _ λx ab=>e5 x,aN.apR]
  have adm:=ac1 vG adl;rw[o4,aqK]at adm;have ub:=sub_fold (t:=iK ds) (rb:=rb) (by
   rw[<-o4];exact B5.2 (List.Pairwise.imp (fun {a b} bz e=>bz Z) adl)) (by
   rw[<-o4];exact aqB vG) (λk ae=>by
   rw[<-o4]at ae;obtain⟨x,ab,rfl⟩:=c3.1 ae;have:=vG.lt x ab;exact⟨Z,by show(x:Int)<ds.length;omega⟩)
  have uB:lo.ok 1 ((yO hb).map (.int .i64 ·)):=fg;have adb:os.n=ds.length:=bf.n;refine a8.mk (lo.ar 3++[]) (dd.ar 3++ck.ar ⟨A.b,os,ds⟩) _ ?_ (abV (M0:=[]) uB (by show lo.n<=_;omega)) ?_;·have:=(eN (l₁:=lo.ar 3) (l₂:=dd.ar 3)).append_right (ck.ar ⟨A.b,os,ds⟩);simpa using this.symm
  rintro v h0 M1 -⟨g1,back,adn,t',rfl⟩;subst h0;have kA:(yO hb).reverse=rb:=by rw[<-aqJ];unfold yO;rw[SM]
  rw[kA]at t';have Dr:=t'.pK;have rE:lo.n=back.n:=(yD adn).1.symm;have eD:rb.length=lo.n:=by rw[<-kA,CG];unfold yO;rw[bB];omega
  refine aU.mk [os.val] (dm (cs:=[os.val]) (k:=0) (n:=1) (T:=172) wr am) ?_;refine pi.mk os.n os.n rfl rfl (cc _) (by show 8*os.n<=_;omega) Z ?_;refine bQ.mk λb9 mU BR=>?_;refine pi.mk 0 lo.n rfl rfl (dQ _) (by show 96*lo.n<=_;omega) Z ?_;refine bQ.mk λb7 Ht K9=>?_;have wX:(rowOf [Value.int .i64 0] (os.n*1))=(List.replicate ds.length (0:Int)).map (Value.int .i64):=by rw[By,Bp,gM,adb]
  have Th:∀ (P:List Int) (out dY:aT),∀ x∈A.ar.map (·.num),x∈(dE b9 P::(out.ar 88++(back.ar 3++ck.ar ⟨A.b,os,ds⟩))).map (·.num):=λP out dY x ab=>by
   have e:(ck.ar ⟨A.b,os,ds⟩).map (·.num)=A.ar.map (·.num):=by
    show A.b::(os.ar 88).map (·.num)=A.b::(A.os.ar 88).map (·.num);unfold aT.ar;rw[adi];cases A.os.a<;>rfl
   rw[<-e]at ab;simp only[b0,cR];exact nO _ (r6 _ (r6 _ ab))
  refine du.uD (ι:=Nat×List Int×aT×List al×aH) (λx=>{ bp:=[(0,.val (ptr A.b)),(4,.ref 4 0),(8,.val (.slice (some ⟨b9,0,none⟩) os.n os.n)),(9,.val x.2.2.1.val),(66,.val lo.val),(67,.val (.int .i64 lo.n)),(68,.val (.int .i64 x.1))],cl:=[(4,[.slice none 0 0,.int .i64 0])],cO:=x.2.2.2.2,c5:=dE b9 x.2.1::(x.2.2.1.ar 88++(back.ar 3++ck.ar ⟨A.b,os,ds⟩)) }) (Xt J (iK ds) rb) (λx=>rb.length-x.1) ?_ ?_
  ·intro _;refine⟨(0,List.replicate ds.length 0,⟨some b7,0,lo.n,rowOf [.int .u8 0,.int .u64 0,.int .u64 0,.int .u64 0,.int .u64 0,.string ⟨#[]⟩,.int .i64 0,.int .i64 0,.slice none 0 0] (lo.n*9)⟩,[],J),⟨dQ _,by rw[zd];rfl,⟨rfl,(λh=>ci),λei jB=>⟨by simp[s',madeCells],dQ _,i7,am⟩⟩,rfl,rfl,(λd ai=>qr),λ_ _ h=>h,(λc ao=>by have:=O7 ao;omega),(λd ai=>qr)⟩,?_,q6,.cons rfl (.nil)⟩;refine .perm (List.Perm.swap _ _ _) ?_;refine .perm (List.Perm.cons _ (List.Perm.cons _ (?_:List.Perm _ ((back.ar 3++ck.ar ⟨A.b,os,ds⟩)++dd.ar 3)))) ?_
   ·rw[dK,dW];exact SK _ eN
   refine .sub (.cons₂ _ (.cons₂ _ (w6 _ _))) (.m1 ?_);rw[wX];rfl
  rintro⟨j,P,out,hd,cv⟩⟨ah,rT,Ax,hX,MX,Aw,cj,IG,jP⟩;simp only at ah rT Ax hX MX Aw cj IG jP;have rT:P.length=ds.length:=rT;have aqL:out.n=j:=by have:=Ax.len;rw[hc _ 9 al.cL,hX]at this;omega
  subst aqL;refine aZ.mk (λh=>?_) (λh=>?_)
  ·have yE:out.n<rb.length:=by have:(out.n:Int)<(lo.n:Int):=cT h;omega
   have hm:∀ y∈rb,0<=y/\y<ds.length:=λy aG=>by rw[<-o4]at aG;obtain⟨x,ab,rfl⟩:=c3.1 aG;have:=vG.lt x ab;omega
   have hm:=hm _ (bK yE);obtain⟨m,yF⟩:=eh hm.1;rw[yF]at hm;have jF:m<ds.length:=by omega
   obtain⟨aR,bI,IH⟩:=aT.BZ (I:=cv) (e:=3) (M:=dE b9 P::(out.ar 88++(back.ar 3++ck.ar ⟨A.b,os,ds⟩))) t' (λx ab=>f9) yE;rw[yF]at IH;have MY:=bf.mono cj;have fO:ds[m].ok cv:=MY.ds _ (bK jF);have mu:nodeAt ds m=ds[m]:=gr jF;have g4:=oG P m Z (out.n:Int);generalize tN:P.set m (out.n:Int)=eo at g4;have Mv:eo.length=ds.length:=by rw[<-tN];simpa using rT
   obtain⟨mW,mX,jn⟩:=aT.ok.row (I:=cv) (M:=dE b9 eo::(out.ar 88++(back.ar 3++ck.ar ⟨A.b,os,ds⟩))) al.cL bv MY.os (e:=88) (λx ab=>ay6) (j:=m) jF;have jn:c6 cv (dE b9 eo::(out.ar 88++(back.ar 3++ck.ar ⟨A.b,os,ds⟩))) (mW.add (m*9)) 9 ds[m].cells:=jn;generalize fj:ds[m]=d at fO jn mu;have fh:=fO.aF;have pN:=fO.bb.cap;have CP:∀ c∈eo,0<=c/\c<=rb.length:=λc ao=>by
    rw[<-tN]at ao;rcases w0 ao with ao | rfl;·exact IG c ao
    ·omega
   refine bt.mk aR out.n (by have:=(aqw adn);rw[this]at bI;exact bI) rfl (show _<lo.n by omega) ?_;refine aU.mk _ IH ?_;refine bt.mk ⟨b9,0,none⟩ m rfl rfl Z ?_;refine b4.iE [] (out.ar 88++(back.ar 3++ck.ar ⟨A.b,os,ds⟩)) (P.map (Value.int .i64)) 3 rfl (by rw[mT,bB];show 0+m*1+1<=_;omega) rfl (eo.map (Value.int .i64)) (by rw[dn,gM];exact g4) ?_;refine aU.mk [os.val] (dm (cs:=[os.val]) (k:=0) (n:=1) (T:=172) wr am) ?_;refine bt.mk mW m mX rfl Z ?_;refine aU.mk _ jn ?_;have wu:(out.n+1)*96<=140737488355328:=by omega
   have hJ:∀ q∈d.ap,0<=q/\q<eo.length:=λq aO=>by
    have aa:q∈(nodeAt ds m).ap:=by rw[mu];exact aO
    have AJ:(m:Int)∈rb:=by rw[<-yF];exact bK yE
    rw[<-o4]at AJ;obtain⟨x,ab,e⟩:=c3.1 AJ;obtain rfl:x=m:=Int.ofNat.inj e;have:=aqC vG x ab q aa;omega
   refine du.inv (ι:=Nat×aT×List Int) (λy=>{ bp:=[(0,.val (ptr A.b)),(4,.ref 4 0),(8,.val (.slice (some ⟨b9,0,none⟩) os.n os.n)),(9,.val out.val),(10,.val (.int .i64 out.n)),(12,.ref 12 0),(13,.val y.2.1.val),(66,.val lo.val),(67,.val (.int .i64 lo.n)),(68,.val (.int .i64 out.n)),(85,.val (.slice d.ca d.aF d.cr)),(86,.val (.int .i64 d.aF)),(87,.val (.int .i64 y.1))],cl:=[(4,[.slice none 0 0,.int .i64 0]),(12,d.cells)],cO:=cv,c5:=y.2.1.ar 3++(dE b9 eo::(out.ar 88++(back.ar 3++ck.ar ⟨A.b,os,ds⟩))) }) (λy=>adh d eo y) (λy=>d.aF-y.1) ?_ ?_;·exact⟨(0,hL,[]),⟨dQ _,kL 1,am⟩,.refl,U6,.cons rfl (.cons rfl (.nil))⟩
   rintro⟨k,dY,ft⟩⟨hA,jb,c4⟩;simp only at hA jb c4;have aqM:=jb.pK;have D':ft.length=k:=by rw[c4,bB,fT];omega
   refine aZ.mk (λad=>?_) (λad=>?_)
   ·have MZ:k<d.aF:=by have:(k:Int)<(d.aF:Int):=cT ad;omega
    have iR:k<d.ap.length:=by omega
    have ak:=hJ _ (bK iR);have vC:d.ap[k].toNat<eo.length:=by omega
    have CQ:eo.getD d.ap[k].toNat 0=eo[d.ap[k].toNat]:=by simp[bT,vC]
    have CV:cx cv d.ca d.aF d.cr 1 8 (d.ap.flatMap ir):=by rw[og];exact fO.bb
    obtain⟨gn,fk,fc⟩:=CV.row (f:=ir) (λ_=>rfl) (j:=k) Z iR;refine bt.mk gn k fk rfl (show k<d.aF by omega) ?_;refine aU.mk _ (fc _) ?_;refine bt.mk ⟨b9,0,none⟩ d.ap[k].toNat rfl Z Z ?_;refine aU.mk _ (GK am vC) ?_;refine bQ.mk λsY CW aqN=>?_;refine bC.lU a0 rfl am (e:=3) rfl rfl rfl dY jb rfl (cs:=[.int .i64 eo[d.ap[k].toNat]]) rfl rfl rfl [] (dE b9 eo::(out.ar 88++(back.ar 3++ck.ar ⟨A.b,os,ds⟩))) rfl Z (by show(dY.n+1)*8<=_;omega) ?_;intro oM ado aqO Ti;refine be.mk _ (c9 (i:=k) Z) ?_;refine⟨(k+1,oM,ft++[eo[d.ap[k].toNat]]),⟨⟨MZ,?_,?_⟩,ce⟩,.refl,U6,.cons rfl (.cons rfl (.nil))⟩;·rw[cR];exact Ti
    ·rw[c4,gk iR,cR,sX,CQ]
   have cV:k=d.aF:=by have:¬ (k:Int)<(d.aF:Int):=dU ad;omega
   subst cV;rw[fD Z]at c4;refine bQ.mk λab3 ab4 ab5=>?_;have b':∃ cu:al,cu=⟨d.k,d.cf,d.s1,d.s2,d.cH,d.t,d.lo,d.hi,dY.a.map λg=>⟨g,0,none⟩,dY.n,dY.c,ft⟩:=⟨_,rfl⟩;obtain⟨cu,b'⟩:=b';have IJ:cu.cells=[.int .u8 d.k,.int .u64 d.cf,.int .u64 d.s1,.int .u64 d.s2,.int .u64 d.cH,.string d.t,.int .i64 d.lo,.int .i64 d.hi,.slice (dY.a.map λg=>⟨g,0,none⟩) dY.n dY.c]:=by rw[b'];rfl
   refine bC.lU a0 rfl am (e:=88) rfl rfl rfl out Ax rfl (cs:=[.int .u8 d.k,.int .u64 d.cf,.int .u64 d.s1,.int .u64 d.s2,.int .u64 d.cH,.string d.t,.int .i64 d.lo,.int .i64 d.hi,.slice (dY.a.map λg=>⟨g,0,none⟩) dY.n dY.c]) rfl rfl rfl (dY.ar 3++[dE b9 eo]) (back.ar 3++ck.ar ⟨A.b,os,ds⟩) (congrArg (List.cons _) (dW _ [_] _).symm) Z H1 ?_;intro m9 SP ab6 aqP;refine be.mk _ (c9 (i:=out.n) Z) ?_;have Ay:∀ c∈ft,0<=c/\c<=rb.length:=λc ao=>by
    rw[c4]at ao;obtain⟨q,aO,rfl⟩:=c3.1 ao;have wF:=hJ q aO;have IK:q.toNat<eo.length:=by omega
    exact CP (eo.getD q.toNat 0) LT
   intro eY;have l0:((dY.ar 3++[dE b9 eo])++(m9.ar 88++(back.ar 3++ck.ar ⟨A.b,os,ds⟩))).Perm (dY.ar 3++(dE b9 eo::(m9.ar 88++(back.ar 3++ck.ar ⟨A.b,os,ds⟩)))):=by rw[dW];exact List.Perm.refl _
   have aw:=l7.FB (J:=cv) (os:=dY) (e:=3) eY l0 (Th eo m9 dY);obtain⟨mv,hw,bn,dB,-⟩:=aT.zL (b:=8) (e:=3) jb Z aw (dE b9 eo::(m9.ar 88++(back.ar 3++ck.ar ⟨A.b,os,ds⟩)));refine⟨(out.n+1,eo,m9,hd++[cu],mv),⟨⟨ce,Mv,?_,by simp[hX],?_,?_,λb o h=>bn _ _ (cj _ _ h),CP,?_⟩,ce⟩,.perm l0 (hw _ _ .refl),q6,.cons rfl (.nil)⟩
   ·simp only;rw[fS];have:([cu].flatMap al.cells)=cu.cells:=by simp
    rw[this,IJ];exact aqP
   ·simp only;rw[gk yE,tB,MX,kt,Ho,yF];show(P.set m ((hd.map al.aW).length:Int),hd.map al.aW++[(nodeAt ds m).dX ((nodeAt ds m).ap.map λk=>(P.set m ((hd.map al.aW).length:Int)).getD k.toNat 0)])=_;rw[bB,hX,tN,mu,<-c4,cR,b'];rfl
   ·simp only;intro x ab;rcases c1.1 ab with ab | ab
    ·exact(Aw x ab).mono bn
    ·simp only[eL]at ab;rw[ab,b'];refine⟨fO.k,fO.cf,fO.s1,fO.s2,fO.cH,fO.t,fO.lo,fO.hi,dB,λc ao=>?_⟩;have:=Ay c ao;exact⟨Z,Z⟩
   ·simp only;intro x ab;rcases c1.1 ab with ab | ab
    ·exact jP x ab
    ·simp only[eL]at ab;rw[ab,b'];exact Ay
  ·have cV:out.n=rb.length:=by have:¬ (out.n:Int)<(lo.n:Int):=dU h;omega
   refine be.mk ((hd.length:Int)-1) rg ?_;intro eY;have l0:(dE b9 P::(out.ar 88++(back.ar 3++ck.ar ⟨A.b,os,ds⟩))).Perm (out.ar 88++(dE b9 P::(hL.ar 88++(back.ar 3++ck.ar ⟨A.b,os,ds⟩)))):=mm.symm;have aw:=l7.FB (J:=cv) (os:=out) (e:=88) eY l0 (Th P hL hL);obtain⟨mv,hw,bn,dB,-⟩:=aT.zL (b:=96) (e:=88) Ax Z aw (dE b9 P::(hL.ar 88++(back.ar 3++ck.ar ⟨A.b,os,ds⟩)));rw[fD Z]at MX;obtain⟨EQ,mj,-,-⟩:=ub rb.length (cc _);rw[Dx]at mj;have ej:hd.map al.aW=(T.bare A.ds).bu.post:=by rw[<-adm];exact congrArg Prod.snd (MX.symm.trans mj)
   exact⟨mv,[],.perm l0 (hw _ _ (.sub (fs _) .refl)),λb o h=>bn _ _ (cj _ _ (a4 _ _ h)),rfl,⟨hd,out.a.map λg=>⟨g,0,none⟩,out.n,out.c,(hd.length:Int)-1⟩,rfl,⟨dB,λd ai=>(Aw d ai).mono bn,⟨ce,ce⟩⟩,⟨ej,rfl⟩⟩
structure rY(ds:List al)(I3:List Nat):Prop where
 fits:∀ d∈ds,fits d d.ap.length=true
 ap:∀ j (h:j<ds.length),∀ k∈ds[j].ap,0<=k/\k<j
 diff:hz (eI ds)
 gP:∀ k∈I3,k<ds.length/\(k:Int) ∉ eI ds
 sW:I3.Nodup
def M2(a b:List al):eI (a++b)=eI a++eI b:=by unfold eI;rw[fS]
def rY.add{ds:List al}(h:rY ds (l++bm)){x:al}(ab:Go.V.fits x x.ap.length=true)(ae:x.ap.Sublist (l.map Int.ofNat)):rY (ds++[x]) (ds.length::bm):=by
 have fv:∀ k∈x.ap,∃ q∈l,k=(q:Int):=λk aO=>by obtain⟨q,aa,ad⟩:=c3.1 (ae.subset aO);exact⟨q,aa,ad.symm⟩
 have fk:eI (ds++[x])=eI ds++x.ap:=by rw[M2];simp[eI]
 have b':=uu.1 h.sW;refine⟨λd ai=>?_,λj ah k aO=>?_,?_,λk aO=>?_,?_⟩
 ·rcases c1.1 ai with ai | ai
  ·exact h.fits d ai
  ·rw[eL.1 ai];exact ab
 ·by_cases e:j<ds.length
  ·rw[zy e]at aO;exact h.ap j e k aO
  ·rw[cn,oV]at ah;have aqQ:j=ds.length:=by omega
   subst aqQ;rw[B4 (cc _)]at aO;simp only[mh,List.getElem_singleton]at aO;obtain⟨q,aa,rfl⟩:=fv k aO;have:=(h.gP q (iv _ aa)).1;omega
 ·rw[fk];refine rC.2 ⟨h.diff,?_,λa a7 b ag=>?_⟩
  ·refine List.Pairwise.sublist ae ?_;refine B5.2 (b'.1.imp λbz e=>bz ?_);exact Int.ofNat.inj e
  ·rintro rfl;obtain⟨q,aa,rfl⟩:=fv _ ag;exact(h.gP q (iv _ aa)).2 a7
 ·rw[fk];rw[cn,oV];rcases er.1 aO with rfl | aO
  ·refine⟨Z,λhm=>?_⟩;rcases c1.1 hm with hm | hm
   ·have:=MB h.ap _ hm;omega
   ·obtain⟨q,aa,e⟩:=fv _ hm;have:=(h.gP q (iv _ aa)).1;omega
  ·obtain⟨aa,ad⟩:=h.gP k (r6 _ aO);refine⟨Z,λhm=>?_⟩;rcases c1.1 hm with hm | hm
   ·exact ad hm
   ·obtain⟨q,aj,e⟩:=fv _ hm;have:k=q:=by omega
    subst this;exact b'.2.2 k aj k aO rfl
 ·refine lG.2 ⟨λhm=>?_,b'.2.1⟩;have:=(h.gP _ (r6 _ hm)).1;omega
def rY.pick{ds:List al}(h:rY ds (l++bm))(af:r∈l):rY ds (r::bm):=by
 have b':=uu.1 h.sW;refine⟨h.fits,h.ap,h.diff,λk ae=>?_,lG.2 ⟨λhm=>b'.2.2 r af r hm rfl,b'.2.1⟩⟩;rcases er.1 ae with rfl | ae
 ·exact h.gP _ (iv _ af)
 ·exact h.gP _ (r6 _ ae)
def I4(d:al)(ds:List al):∀ l:List Nat,(jy d ds l).Sublist (l.map Int.ofNat)
 |[]=>.slnil
 |k::l=>by
  show List.Sublist ((bif o7 d (ds.getD k vE)then [(k:Int)]else [])++jy d ds l) (Int.ofNat k::l.map Int.ofNat);cases o7 d (ds.getD k vE)with
  |true=>exact(I4 d ds l).cons₂ _| false=>exact(I4 d ds l).cons _
def Tj{d:al}(h:d.k=4\/d.k=5){n m:Int}(aC:2<=n)(hm:2<=m)(aE:Go.V.fits d n=true):Go.V.fits d m=true:=by
 unfold Go.V.fits at aE |-;rcases h with e | e<;>rw[e]at aE |-<;>simp[oE,nw]at aE |-<;>exact⟨⟨hm,.inl bv⟩,aE.2⟩
def rY.join{ds:List al}(h:rY ds (l++bm)){d:al}(ai:Go.V.fits d l.length=true){ds':List al}{r:Int}(ah:xb d l ds ds' r):0<=r/\rY ds' (r.toNat::bm):=by
 unfold xb at ah;split at ah
 ·rename_i gA;rcases ah with⟨aa,rfl,ad⟩ | ⟨aa,ad⟩ | ⟨aa,rfl,bN,hM,c',ad⟩
  ·refine⟨Z,?_⟩;rw[ad,hC];refine h.add ?_ (fs _);rcases gA with e | e
   ·rw[show d.k-4=0 by omega];rfl
   ·rw[show d.k-4=1 by omega];rfl
  ·have af:r∈l.map Int.ofNat:=(I4 d ds l).subset (by rw[aa];exact .head _);obtain⟨q,aO,rfl⟩:=c3.1 af;rw[ad];exact⟨Hm _,h.pick aO⟩
  ·refine⟨Z,?_⟩;rw[ad,hC];refine h.add ?_ (I4 d ds l);show Go.V.fits d ((jy d ds l).length:Nat)=true;have n2:(2:Int)<=((jy d ds l).length:Nat):=by omega
   have x4:(2:Int)<=(l.length:Nat):=by have:=(I4 d ds l).length_le;rw[bB]at this;omega
   exact Tj gA x4 n2 ai
 ·obtain⟨rfl,bN,hM,c',ad⟩:=ah;refine⟨Z,?_⟩;rw[ad,hC];refine h.add ?_ (Mt _);show Go.V.fits d ((l.map Int.ofNat).length:Nat)=true;rw[bB];exact ai
end Go.V
