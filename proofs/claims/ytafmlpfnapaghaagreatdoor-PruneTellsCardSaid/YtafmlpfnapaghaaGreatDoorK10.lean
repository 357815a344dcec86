/- Part 10 of what the proofs of this seat share: the executor, data in memory, walks.
-/
import Derived.Test.YtafmlpfnapaghaaGreatDoorK9
set_option linter.all false
namespace Go.V
open Go Go.Proofs
def e1.one(s:e1):gh s.cells=true:=rfl
set_option maxRecDepth 100000 in
set_option maxHeartbeats 16000000 in
def apZ{I:aT}(bA:fr I cG){g:bP}(q4:vJ I g){s:e1}(ar:Vn I s):wX Tryz.prog 3 [g.val,s.val] I [] λv I' M'=>v=.bool true:=by
 refine EZ [] aI Tryz.func3 rfl rfl rfl ?_;intro B av;refine aU.mk [] [] _ (.refl _) (anU q4) ?_;rintro v J N -⟨⟨r,rfl,ag⟩,CK,aso⟩;subst J;subst N;cases r with
 |true=>refine a9.mk (λh=>absurd h (by simp)) (λ_=>?_);refine aU.mk [] [] _ (.refl _) (R' bA) ?_;rintro v Cg N -⟨rfl,l5,rfl⟩;exact⟨_,_,.refl,rfl⟩
 |false=>
 refine a9.mk (λ_=>?_) (λh=>absurd h (by simp));by_cases e8:(100:Int)<(s.pn:Int)
 ·refine aB.mk (λ_=>?_) (λh=>absurd h (by simp[e8]));refine aU.mk [] [] _ (.refl _) (R' bA) ?_;rintro v Cg N -⟨rfl,l5,rfl⟩;exact⟨_,_,.refl,rfl⟩
 refine aB.mk (λh=>absurd h (by simp[e8])) (λ_=>?_);have pw:=ag rfl;have ao:=q4.Hz pw;have ga:=pw.fit ao;have cK:=ao.n;have asp:=pw.n;clear q4 ag;refine aU.whole _ (acs ao ga (by omega)) ?_;rintro v Cg N -⟨l5,o,os,aP,bf,rfl,cH⟩;subst N;refine aU.whole _ (an3 (ao.mono l5) pw) ?_;rintro v iu N -⟨jt,cH,h,rfl,cj,dJ⟩;subst N;have ap0:∀ d∈g.ds,nc d.t:=λd al n az=>by have:=((pw.ds d al).t.aa n az).aZ;omega
 clear pw;have bA:=(bA.mono l5).mono jt;have ao:=(ao.mono l5).mono jt;have u0:=cj.n;have Sj:h.ds.map aK.a1=g.ds.map aK.a1:=congrArg bP.ds dJ;have asq:h.ds.length=g.ds.length:=by simpa using congrArg List.length Sj
 have hV:=acz bf;have fY:=apY o;have wk:=apX o;refine bu.yo (ι:=Nat×aT) (λy=>{ a4:=[(2,.ref 2 0),(3,.ref 3 0),(5,.val os.val),(6,.ref 6 0),(7,.val (.int .i64 y.1))],cl:=[(2,[.slice g.a g.n g.c]),(3,s.cells),(6,[.slice h.a h.n h.c])],br:=y.2,bO:=[] }) (λy=>y.1<=2/\(∀ c o,B6 iu os 27 c=some o->y.2 c=some o)/\∀ c o,iu c=some o->y.2 c=some o) (λy=>2-y.1) ?_ ?_
 ·intro gO;exact⟨(0,B6 iu os 27),⟨bQ _,λ_ _ h=>h,RL gO.d⟩,RK (λg _=>by simp),ec,.cons rfl (.cons rfl (.cons rfl (.nil)))⟩
 rintro⟨k,J⟩⟨af,LN,bg⟩;simp only at af LN bg;have x9:=bA.mono bg;have k1:=ao.mono bg;have EB:=cj.mono bg;have ig:gb J (os.a.map λg=>⟨g,0,none⟩) os.n os.c 5 0 ((jc o).flatMap e1.cells):=(RM (b:=0) bf (by omega)).mono LN;refine aB.mk (λab=>?_) (λab=>?_)
 rotate_left
 ·refine aU.whole _ (abN EB k1 Sj) ?_;rintro v th N -⟨rfl,k2,cH⟩;subst th;subst N;refine a9.mk (λ_=>?_) (λh=>by cases h);refine aU.mk [] [] _ (.refl _) (R' x9) ?_;rintro v oE N -⟨rfl,tn,rfl⟩;exact⟨_,_,.refl,rfl⟩
 have ax:k<2:=by have:(k:Int)<2:=cq ab;omega
 have LO:∀ d∈h.ds,nc d.t:=ann k1.ds EB.ds (λd al=>by
  have bm:d.a1∈g.ds.map aK.a1:=by rw[<-Sj];exact dB.2 ⟨d,al,rfl⟩
  obtain⟨e,he,b5⟩:=dB.1 bm;exact⟨e,he,b5.symm⟩) ap0
 refine aU.whole _ (abu x9 EB (by omega) LO) ?_;rintro v th N -⟨k2,acA,mI,Q',LP,rfl,cH⟩;subst N;obtain rfl:acA=o:=(Q'.a1 cK u0 dJ).eq aP;refine aU.whole _ (abt (x9.mono k2) (EB.mono k2) (by omega) LO) ?_;rintro v oE N -⟨tn,cH,BU,Ei,rfl⟩;subst N;obtain rfl:BU=acA:=(Ei.a1 cK u0 dJ).eq aP;have Sk:∀ b c,J b=some c->oE b=some c:=λb c h=>tn _ _ (k2 _ _ h);have H2:=ig.mono Sk;have acB:∀ (M:List aD) j (aj:j<(jc BU).length),∃ ad,os.a.map (λg=>(⟨g,0,none⟩:Addr))=some ad/\bq oE M (ad.add (j*5)) 5 (jc BU)[j].cells:=λM j aj=>by obtain⟨ad,U,ak⟩:=H2.row e1.bI (show j<os.n by omega) aj;exact⟨ad,U,ak M⟩
 have nN:∀ (M:List aD),(∀ z∈mI.aw 27,z∈M)->∀ j (aj:j<(jc BU).length),∃ ad,mI.a.map (λg=>(⟨g,0,none⟩:Addr))=some ad/\bq oE M (ad.add (j*5)) 5 (jc BU)[j].cells:=λM aV j aj=>aY.ok.row e1.bI (by decide) LP aV aj;have uJ:=acz LP;refine aU.whole _ (acy wk (by omega) (nN _ (λz a2=>gM _ a2)) (acB _) uJ hV) ?_;rintro v Sl N -⟨rfl,ap1,cH⟩;subst Sl;subst N;cases BU with
 |none=>
  have kK:os.n=0:=hV;refine a9.mk (λ_=>?_) (λh=>absurd h (by simp));refine a9.mk (λ_=>?_) (λh=>absurd h (by simp[kK]));refine a9.mk (λh=>absurd h (by simp)) (λ_=>?_);refine bL.mk λb1 jG acb=>?_;refine bk.v8 aI rfl (by simp) (e:=27) rfl rfl rfl ⟨some b1,1,1,s.cells⟩ (xs:=s.cells) ⟨rfl,(λh=>by cases h),λg h=>⟨rfl,b2 _,(show(1:Nat)<=maxLen by decide),rfl⟩⟩ rfl (sa:=os.a.map λg=>⟨g,0,none⟩) (m:=os.n) (c':=os.c) (news:=(jc none).flatMap e1.cells) rfl H2.len (H2.yc _) (Em e1.one _) [] (mI.aw 27++[]) rfl (by simp only;omega) (by show(1+os.n)*48<=_;omega) ?_;intro eF fU ap2 uE;have fU:eF.n=1+os.n:=fU;have uE:eF.ok 5 ((s::jc none).flatMap e1.cells):=uE;have e8:(s::jc none).length=eF.n:=by rw[cS];omega
  refine bu.inv (ι:=Nat×aT) (λy=>{ a4:=[(2,.ref 2 0),(3,.ref 3 0),(5,.val os.val),(6,.ref 6 0),(7,.val (.int .i64 k)),(8,.val mI.val),(9,.ref 9 0),(65,.val eF.val),(66,.val (.int .i64 eF.n)),(67,.val (.int .i64 y.1))],cl:=[(2,[.slice g.a g.n g.c]),(3,s.cells),(6,[.slice h.a h.n h.c]),(9,(ju none).cells)],br:=y.2,bO:=eF.aw 27++(mI.aw 27++[]) }) (λy=>y.1<=eF.n/\∀ c o,oE c=some o->y.2 c=some o) (λy=>eF.n-y.1) ?_ ?_;·exact⟨(0,oE),⟨bQ _,λ_ _ h=>h⟩,.refl,Cy,.cons rfl (.cons rfl (.cons rfl (.cons rfl (.nil))))⟩
  rintro⟨j,K⟩⟨aj,cb⟩;simp only at aj cb;have u4:∀ c o,J c=some o->K c=some o:=λc o h=>cb _ _ (Sk _ _ h);refine aB.mk (λak=>?_) (λak=>?_)
  rotate_left
  ·refine aU.mk (mI.aw 27++[]) (eF.aw 27) _ gQ (LM LP wk (by omega)) ?_;rintro v hh N-jr;subst hh;refine bL.mk λgR XV ap3=>?_;refine aU.whole _ (LM (os0:=⟨some gR,1,1,(ju none).cells⟩) (L:=[ju none]) ⟨rfl,(λh=>by cases h),λg h=>⟨rfl,b2 _,(show(1:Nat)<=maxLen by decide),rfl⟩⟩ (λs ar=>by rw[fb.1 ar];rfl) (show(1:Nat)<=1000000 by decide)) ?_;rintro v hh Eh-jr;subst hh;refine aQ.mk _ (bl (i:=k) (by omega)) ?_;intro _;exact⟨(k+1,K),⟨⟨ax,λc o h=>u4 _ _ (LN _ _ h),λc o h=>u4 _ _ (bg _ _ h)⟩,by simp only;omega⟩,.sub (cW _) .refl,ec,.cons rfl (.cons rfl (.cons rfl (.nil)))⟩
  have uZ:j<eF.n:=by have:(j:Int)<(eF.n:Int):=cq ak;omega
  have eS:j<(s::jc none).length:=by omega
  obtain⟨HR,HS,qd⟩:=aY.ok.row (I:=K) (e:=27) e1.bI (by decide) uE (M:=eF.aw 27++(mI.aw 27++[])) (λz a2=>gM _ a2) eS;generalize(s::jc none)[j]=y at qd;refine aW.mk HR j HS rfl uZ ?_;refine aE.mk _ qd ?_;have wK:=k1.mono u4;have Sm:=EB.mono u4;have Sn:=x9.mono u4;refine aU.whole _ (acw wK ga (by omega) y) ?_;rintro v hh N -⟨jr,cH,ha,a,gI,rfl,aX,ba⟩;subst N;refine aU.mk [] (eF.aw 27++(mI.aw 27++[])) _ (.refl _) (RF (Sn.mono jr) (Sm.mono jr) LO y) ?_;rintro v k3 N -⟨oy,gf,c,pH,rfl,aC,So⟩;obtain⟨h6,c5,c7,dS⟩:=pH.a1 cK u0 dJ;obtain rfl:h6=ha:=c5.eq gI;have za:c.ds.map aK.a1=a.ds.map aK.a1:=by rw[ba,<-dS];exact congrArg bP.ds So
  have cv:c.ds.length=a.ds.length:=by simpa using congrArg List.length za
  have tW:a.ds.length<=g.ds.length:=by
   rw[ba];obtain⟨x,-,e⟩:=c5;rw[e];split
   ·split
    ·exact(wQ _ _).length_le
    ·exact bQ _
   ·exact bQ _
  refine a9.mk (λ_=>?_) (λh=>absurd h (by simp[c7]));refine aU.whole _ (abO (M:=N) (M0:=eF.aw 27++(mI.aw 27++[])) aC (aX.mono oy) za) ?_;rintro v Sp Eh -⟨rfl,Sq,ap4⟩;subst Eh;refine aB.mk (λh=>absurd h (by simp)) (λ_=>?_);refine aU.whole _ (abP (M:=N) aC (λx ae=>gM _ ae)) ?_;rintro v Sr Lg -⟨ap5,mm,rfl,wq,ap6⟩;subst Sr;subst Lg;have Ss:=wq.len;rw[gd _ 2 (λt:bx=>rfl),cT]at Ss;refine aU.mk (mm.aw 46++N) (eF.aw 27++(mI.aw 27++[])) _ (.of_eq (fx _ _ _).symm) (abR wq (λx ae=>gM _ ae) (λt aq=>?_) (by omega)) ?_;·obtain⟨d,al,rfl⟩:=dB.1 aq;exact(aC.ds d al).t.mono λx ae=>ly _ ae
  rintro v St RJ -⟨ap7,-⟩;subst St;refine aQ.mk _ (bl (i:=j) (by omega)) ?_;exact⟨(j+1,Sp),⟨⟨uZ,λc o h=>Sq _ _ (oy _ _ (jr _ _ (cb _ _ h)))⟩,by simp only;omega⟩,.sub (e' _ _) .refl,Cy,.cons rfl (.cons rfl (.cons rfl (.cons rfl (.nil))))⟩
 |some u=>
  have jk:os.n=1:=hV;refine a9.mk (λ_=>?_) (λh=>absurd h (by simp));refine a9.mk (λ_=>?_) (λh=>absurd h (by simp[jk]));refine a9.mk (λ_=>?_) (λh=>absurd h (by simp));refine bL.mk λcc hc P9=>?_;have ap8:∀ (M:List aD),(∀ z∈(⟨some cc,1,1,(ju (some u)).cells⟩:aY).aw 27,z∈M)->∀ j (aj:j<(jc (some u)).length),∃ ad,(some cc).map (λg=>(⟨g,0,none⟩:Addr))=some ad/\bq oE M (ad.add (j*5)) 5 (jc (some u))[j].cells:=λM aV j aj=>aY.ok.row (os:=⟨some cc,1,1,(ju (some u)).cells⟩) e1.bI (by decide) ⟨rfl,(λh=>by cases h),λg h=>⟨rfl,b2 _,(show(1:Nat)<=maxLen by decide),rfl⟩⟩ aV aj;refine aU.whole _ (acy (os:=⟨some cc,1,1,(ju (some u)).cells⟩) wk (by omega) (ap8 _ (λz a2=>by simp[aY.aw]at a2;subst a2;exact .head _)) (acB _) rfl hV) ?_;rintro v Sl N -⟨rfl,ap1,cH⟩;subst Sl;subst N;refine aB.mk (λh=>absurd h (by simp)) (λ_=>?_);refine bL.mk λb1 jG acb=>?_;refine bk.v8 aI rfl (by simp) (e:=27) rfl rfl rfl ⟨some b1,1,1,s.cells⟩ (xs:=s.cells) ⟨rfl,(λh=>by cases h),λg h=>⟨rfl,b2 _,(show(1:Nat)<=maxLen by decide),rfl⟩⟩ rfl (sa:=os.a.map λg=>⟨g,0,none⟩) (m:=os.n) (c':=os.c) (news:=(jc (some u)).flatMap e1.cells) rfl H2.len (H2.yc _) (Em e1.one _) [] ((⟨some cc,1,1,(ju (some u)).cells⟩:aY).aw 27++(mI.aw 27++[])) rfl (by simp only;omega) (by show(1+os.n)*48<=_;omega) ?_;intro eF fU ap2 uE;have fU:eF.n=1+os.n:=fU;have uE:eF.ok 5 ((s::jc (some u)).flatMap e1.cells):=uE;have e8:(s::jc (some u)).length=eF.n:=by rw[cS];omega
  refine bu.inv (ι:=Nat×aT) (λy=>{ a4:=[(2,.ref 2 0),(3,.ref 3 0),(5,.val os.val),(6,.ref 6 0),(7,.val (.int .i64 k)),(8,.val mI.val),(9,.ref 9 0),(65,.val eF.val),(66,.val (.int .i64 eF.n)),(67,.val (.int .i64 y.1))],cl:=[(2,[.slice g.a g.n g.c]),(3,s.cells),(6,[.slice h.a h.n h.c]),(9,(ju (some u)).cells)],br:=y.2,bO:=eF.aw 27++(mI.aw 27++[]) }) (λy=>y.1<=eF.n/\∀ c o,oE c=some o->y.2 c=some o) (λy=>eF.n-y.1) ?_ ?_;·exact⟨(0,oE),⟨bQ _,λ_ _ h=>h⟩,.sub (show List.Sublist (eF.aw 27++(mI.aw 27++[])) (eF.aw 27++((⟨some cc,1,1,(ju (some u)).cells⟩:aY).aw 27++(mI.aw 27++[])))from(List.Sublist.refl _).append (e' _ _)) .refl,Cy,.cons rfl (.cons rfl (.cons rfl (.cons rfl (.nil))))⟩
  rintro⟨j,K⟩⟨aj,cb⟩;simp only at aj cb;have u4:∀ c o,J c=some o->K c=some o:=λc o h=>cb _ _ (Sk _ _ h);refine aB.mk (λak=>?_) (λak=>?_)
  rotate_left
  ·refine aU.mk (mI.aw 27++[]) (eF.aw 27) _ gQ (LM LP wk (by omega)) ?_;rintro v hh N-jr;subst hh;refine bL.mk λgR XV ap3=>?_;refine aU.whole _ (LM (os0:=⟨some gR,1,1,(ju (some u)).cells⟩) (L:=[ju (some u)]) ⟨rfl,(λh=>by cases h),λg h=>⟨rfl,b2 _,(show(1:Nat)<=maxLen by decide),rfl⟩⟩ (λs ar=>by rw[fb.1 ar];rfl) (show(1:Nat)<=1000000 by decide)) ?_;rintro v hh Eh-jr;subst hh;refine aQ.mk _ (bl (i:=k) (by omega)) ?_;intro _;exact⟨(k+1,K),⟨⟨ax,λc o h=>u4 _ _ (LN _ _ h),λc o h=>u4 _ _ (bg _ _ h)⟩,by simp only;omega⟩,.sub (cW _) .refl,ec,.cons rfl (.cons rfl (.cons rfl (.nil)))⟩
  have uZ:j<eF.n:=by have:(j:Int)<(eF.n:Int):=cq ak;omega
  have eS:j<(s::jc (some u)).length:=by omega
  obtain⟨HR,HS,qd⟩:=aY.ok.row (I:=K) (e:=27) e1.bI (by decide) uE (M:=eF.aw 27++(mI.aw 27++[])) (λz a2=>gM _ a2) eS;generalize(s::jc (some u))[j]=y at qd;refine aW.mk HR j HS rfl uZ ?_;refine aE.mk _ qd ?_;have wK:=k1.mono u4;have Sm:=EB.mono u4;have Sn:=x9.mono u4;refine aU.whole _ (acw wK ga (by omega) y) ?_;rintro v hh N -⟨jr,cH,ha,a,gI,rfl,aX,ba⟩;subst N;refine aU.mk [] (eF.aw 27++(mI.aw 27++[])) _ (.refl _) (RF (Sn.mono jr) (Sm.mono jr) LO y) ?_;rintro v k3 N -⟨oy,gf,c,pH,rfl,aC,So⟩;obtain⟨h6,c5,c7,dS⟩:=pH.a1 cK u0 dJ;obtain rfl:h6=ha:=c5.eq gI;have za:c.ds.map aK.a1=a.ds.map aK.a1:=by rw[ba,<-dS];exact congrArg bP.ds So
  have cv:c.ds.length=a.ds.length:=by simpa using congrArg List.length za
  have tW:a.ds.length<=g.ds.length:=by
   rw[ba];obtain⟨x,-,e⟩:=c5;rw[e];split
   ·split
    ·exact(wQ _ _).length_le
    ·exact bQ _
   ·exact bQ _
  refine a9.mk (λ_=>?_) (λh=>absurd h (by simp[c7]));refine aU.whole _ (abO (M:=N) (M0:=eF.aw 27++(mI.aw 27++[])) aC (aX.mono oy) za) ?_;rintro v Sp Eh -⟨rfl,Sq,ap4⟩;subst Eh;refine aB.mk (λh=>absurd h (by simp)) (λ_=>?_);refine aU.whole _ (abP (M:=N) aC (λx ae=>gM _ ae)) ?_;rintro v Sr Lg -⟨ap5,mm,rfl,wq,ap6⟩;subst Sr;subst Lg;have Ss:=wq.len;rw[gd _ 2 (λt:bx=>rfl),cT]at Ss;refine aU.mk (mm.aw 46++N) (eF.aw 27++(mI.aw 27++[])) _ (.of_eq (fx _ _ _).symm) (abR wq (λx ae=>gM _ ae) (λt aq=>?_) (by omega)) ?_;·obtain⟨d,al,rfl⟩:=dB.1 aq;exact(aC.ds d al).t.mono λx ae=>ly _ ae
  rintro v St RJ -⟨ap7,-⟩;subst St;refine aQ.mk _ (bl (i:=j) (by omega)) ?_;exact⟨(j+1,Sp),⟨⟨uZ,λc o h=>Sq _ _ (oy _ _ (jr _ _ (cb _ _ h)))⟩,by simp only;omega⟩,.sub (e' _ _) .refl,Cy,.cons rfl (.cons rfl (.cons rfl (.cons rfl (.nil))))⟩
end Go.V
