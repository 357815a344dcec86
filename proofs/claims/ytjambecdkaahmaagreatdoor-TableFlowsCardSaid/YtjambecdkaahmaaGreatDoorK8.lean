/- Part 8 of what the proofs of this seat share: the executor, data in memory, walks.
-/
import Derived.Test.YtjambecdkaahmaaGreatDoorK7
import Derived.Test.YtjambecdkaahmaaGreatDoorK5
import Derived.Test.YtjambecdkaahmaaGreatDoorK3
import Derived.Test.YtjambecdkaahmaaGreatDoorK4
set_option linter.all false
set_option maxHeartbeats 8000000
set_option maxRecDepth 100000
namespace Go.V
open Go Go.Proofs
def vr:=@List.length_reverse
variable{I:aS}{t:ef}{T:Nat->Nat->b2}{n e:Nat}{M M0:List ay}{X:Bool}{o:wD}
def Vo{a6 post:List ay}{lu:bk}{A dC:List (Nat×Nat)}(De:lu.ok 2 ((A++dC).flatMap hE))(ai:lu.n<=1099511627776){ad:Option Addr}{ln Vp:Nat}(bo:ln=dC.length)(bB:0<dC.length->∃ g,lu.a=some g/\ad=some ⟨g,A.length*2,none⟩) :
  Spec Tryz.prog 166 [.slice ad ln Vp] I (a6++(lu.aY 254++post)) λv I' M'=>I'=I/\∃ cY:bk,cY.val=lu.val/\cY.ok 2 ((A++dC.reverse).flatMap hE)/\M'=a6++(cY.aY 254++post):=by
 subst bo;refine bX [] aV Tryz.func166 rfl rfl rfl ?_;intro B ao;have Gg:A.length+dC.length=lu.n:=by have:=De.len;rw[hb _ 2 tX,cU]at this;omega
 refine a5.mk ((dC.length:Int)-1) (gB rfl (by omega)) ?_;refine dB.inv (ι:=Nat×bk×List (Nat×Nat)) (λx=>{ bj:=[(0,.val (.slice ad dC.length Vp)),(2,.val (.int .i64 x.1)),(3,.val (.int .i64 ((dC.length:Int)-1-x.1)))],cl:=[],c5:=I,dv:=a6++(x.2.1.aY 254++post) }) (λx=>agq A dC lu x) (λx=>dC.length-x.1) ?_ ?_
 ·refine⟨(0,lu,dC),⟨by simp,De,rfl,λk ae=>?_,rfl,rfl⟩,.refl,.cons .refl (.cons .refl (.cons ?_ .nil)),.nil⟩
  ·simp only;rw[cA (by omega)]
  ·simp only[Int.ofNat_zero,Int.sub_zero];exact .refl
 rintro⟨i,os,l⟩⟨hi,ep,bV,jl,D5,Nc⟩;simp only at hi ep bV jl D5 Nc;refine a0.mk (λh=>?_) (λh=>?_)
 rotate_left
 ·have c1:¬ (i:Int)<(dC.length:Int)-1-i:=dt h;refine⟨_,_,.refl,rfl,os,Nc,?_,rfl⟩;have e:l=dC.reverse:=by
   refine E9 λk=>?_;by_cases ae:k<dC.length
   ·rw[jl k ae,List.getElem?_reverse ae];split
    ·rfl
    ·congr 1;omega
   ·rw[xo (by omega),xo (by rw[vr];omega)]
  rw[<-e];exact ep
 have aK:(i:Int)<(dC.length:Int)-1-i:=du h;obtain⟨j,an⟩:∃ j:Nat,(dC.length:Int)-1-i=(j:Int):=⟨dC.length-1-i,by omega⟩;have ek:i<l.length:=by omega
 have fU:j<l.length:=by omega
 obtain⟨g,Bn,rfl⟩:=bB (by omega);have HQ:=D5.trans Bn;have row:∀ {os:bk} {l:List (Nat×Nat)} (h:os.ok 2 ((A++l).flatMap hE)) (aC:os.a=some g) (q:Nat) (aO:q<l.length) {M:List ay},(∀ x∈os.aY 254,x∈M)->ca I M ((⟨g,A.length*2,none⟩:Addr).add (q*2)) 2 (hE l[q]):=fun {os l} h aC q aO {M} a4=>by
  have:=bk.aH (I:=I) (M:=M) (e:=254) tX (by decide) h a4 aC (i:=A.length+q) (by rw[cU];omega);rw[dS _ rfl,<-jG];have e:(A++l)[A.length+q]'(by rw[cU];omega)=l[q]:=by rw[T2 (by omega)];congr 1;omega
  rwa [e]at this
 have Vq:∀ {os:bk} {l:List (Nat×Nat)} (h:os.ok 2 ((A++l).flatMap hE)) (aC:os.a=some g) (q:Nat) (aO:q<l.length) (x:Nat×Nat) {K:List ay->Prop},(∀ cY:bk,cY.val=os.val->cY.a=os.a->cY.ok 2 ((A++l.set q x).flatMap hE)->K (a6++(cY.aY 254++post))) ->
   cg (a6++(os.aY 254++post)) ((⟨g,A.length*2,none⟩:Addr).add (q*2)) (hE x) K:=fun {os l} h aC q aO x {K} k=>by
  rw[dS _ rfl];refine bk.put hE 2 tX h (i:=A.length+q) (by rw[cU];omega) 0 (vs:=hE x) (cC 2) rfl x ?_ a6 post rfl aC (by simp only;omega) ?_;·show bu (hE _) 0 (hE x)=hE x;rfl
  ·intro cY aw aB bD dH;rw[JV _ _ (by omega),JU]at dH;exact k cY aw aB dH
 refine cW.draw aV rfl rfl rfl ?_;refine bc.mk ⟨g,A.length*2,none⟩ j rfl an (by omega) ?_;refine aF.mk _ (row ep HQ j fU λz bg=>zp _ (zq _ bg)) ?_;refine bc.mk ⟨g,A.length*2,none⟩ i rfl rfl (by omega) ?_;refine aF.mk _ (row ep HQ i ek λz bg=>zp _ (zq _ bg)) ?_;refine bc.mk ⟨g,A.length*2,none⟩ i rfl rfl (by omega) ?_;refine Vq ep HQ i ek l[j] ?_;intro iU vF Vr h0;refine bc.mk ⟨g,A.length*2,none⟩ j rfl an (by omega) ?_;refine Vq h0 (Vr.trans HQ) j (by rw[yp];exact fU) l[i] ?_;intro Ee tf agv xR;refine a5.mk _ (cm (i:=i) (by omega)) ?_;refine a5.mk ((dC.length:Int)-1-((i+1:Nat):Int)) (by rw[wrap_i64 ⟨by omega,by omega⟩];omega) ?_;refine⟨(i+1,Ee,(l.set i l[j]).set j l[i]),⟨⟨by simp only;omega,xR,by simp only[yp];exact bV,λk ae=>?_,(agv.trans Vr).trans D5,(tf.trans vF).trans Nc⟩,by simp only;omega⟩,.refl,fZ,.nil⟩;have xn:l[j]?=dC[j]?:=by rw[jl j (by omega),cA (by omega)]
 have aD:l[i]?=dC[i]?:=by rw[jl i (by omega),cA (by omega)]
 have agw:l[j]=dC[j]'(by omega):=by rw[g0 fU,g0 (by omega)]at xn;exact m6 xn
 have agx:l[i]=dC[i]'(by omega):=by rw[g0 ek,g0 (by omega)]at aD;exact m6 aD
 simp only;rw[sW,sW];by_cases aw:j=k
 ·subst aw;rw[cK rfl,cK (by rw[yp];exact fU),cK (by omega),agx,<-g0];congr 1;omega
 ·rw[cA aw];by_cases aB:i=k
  ·subst aB;rw[cK rfl,cK ek,cK (by omega),agw,<-g0];congr 1;omega
  ·rw[cA aB,jl k ae];by_cases bD:k<i\/dC.length<=k+i
   ·rw[cK bD,cK (by omega)]
   ·rw[cA bD,cA (by omega)]
def ef.t'(t:ef):db:=⟨0,0,t.s,0,0,⟨t.jo.map λy=>⟨y.yz,none,0,0,y.aX.map Int.toNat⟩,none,t.nn,0⟩⟩
def ef.agy(t:ef):t.t'.iA=t.P:=by unfold db.iA ef.t' ef.P;simp only[lM];rfl
def agz(h:rp I t T){k a:Nat}(ae:k<t.nn)(aa:a<=t.s.size)(af:(dU t.P k a).au=3){l:List h4}(qy:h5 t.P (dU t.P) n [(k,a)] l)(ar:l.length<=65536) :
  Spec Tryz.prog 97 [ptr t.bt,.int .i64 k,.int .i64 a] I [] λv I' M'=>I'=I/\∃ hF:bk,v=hF.val/\hF.ok 3 (l.flatMap h4.cells)/\M'=hF.aY 110:=by
 refine bX [] aV Tryz.func97 rfl rfl rfl ?_;intro B ao;have bf:=h.ok;have cI:=bf.sz;have zk:=t.agy;have DT:t.t'.ns.xs.length=t.t'.ns.n:=by show(t.jo.map _).length=t.nn;rw[eX];exact bf.nn
 have yl:∀ k p,wx t.t'.iA (t.t'.a3+p) (dU t.P k p):=λk p=>by rw[zk];exact Rv rfl k p
 have lp:z' t.t'.iA:=by rw[zk];exact h.iA
 have aA:wz t.t'.iA (dU t.P):=by rw[zk];exact Ru rfl cI h.na
 have d':t.n0<t.nn->∀ M:List ay,t.aY T∈M:=λe=>absurd e (by have:=h.n0;omega);refine cz.mk λagA hW ai9=>?_;refine dB.inv (ι:=Nat×List (Nat×Nat)×bk×bk) (λy=>{ bj:=[(0,.val (ptr t.bt)),(7,.val y.2.2.2.val),(8,.val y.2.2.1.val)],c5:=I,dv:=y.2.2.1.aY 254++y.2.2.2.aY 110 }) (λy=>Nb t.t' (dU t.P) l y.1 y.2.1 y.2.2.1 y.2.2.2) (λy=>y.1) ?_ ?_
 ·refine⟨(n,[(k,a)],⟨some agA,1,1,hE (k,a)⟩,⟨none,0,0,[]⟩),⟨⟨rfl,λe=>(by cases e),λg aA=>⟨rfl,cC _,by unfold maxLen;exact bJ rfl,rfl⟩⟩,λx ab=>?_,.inl (cC _),[],l,by rw[zk];exact qy,rfl,⟨rfl,λ_=>⟨rfl,rfl⟩,λg h=>(by cases h)⟩⟩,.refl,fZ,.nil⟩;rw[iY.1 ab];exact⟨ae,bq _,aa,af⟩
 rintro⟨n,L,os,hF⟩bF;have bV:=bF.len aA ar;obtain⟨ep,b0,Nd,pk,kV,jj,vt,ua⟩:=bF;simp only at ep b0 Nd jj ua bV;have HL:os.n=L.length:=by have:=ep.len;rw[hb _ 2 tX,vr]at this;omega
 cases L with
 |nil=>
  refine a0.mk (λe=>?_) (λ_=>?_);·have:(0:Int)<(os.n:Int):=du e;simp at HL;omega
  cases jj;rw[dF]at vt;subst vt;exact⟨_,_,.sub (M1:=hF.aY 110) (kH _ _) .refl,rfl,hF,rfl,ua,rfl⟩
 |cons y a2=>
  obtain⟨k,a⟩:=y;refine a0.mk (λ_=>?_) (λe=>?_)
  rotate_left
  ·have:¬ (0:Int)<(os.n:Int):=dt e;simp at HL;omega
  obtain⟨s1,s2,dQ,yD⟩:=b0 (k,a) (.head _);have s1:k<t.nn:=s1;have dQ:a<=t.s.size:=dQ;have yD:(dU t.P k a).au=3:=yD;have aja:os.n=a2.length+1:=by simpa using HL
  have yE:a2.length<=65536:=by simp at bV;omega
  obtain⟨HR,Bn⟩:∃ g,os.a=some g:=by
   cases aC:os.a with
   |none=>have:=(ep.nil aC).1;omega| some g=>exact⟨g,rfl⟩
  obtain⟨eY,ez,ga,jk⟩:=ep.cap HR Bn;rw[List.reverse_cons]at ep jk;have Nf:bk.ok ⟨os.a,a2.length,os.c,os.aJ⟩ 2 (a2.reverse.flatMap hE):=by
   refine⟨by rw[hb _ 2 tX,vr],λe=>(by simp only at e;rw[Bn]at e;cases e),λdD _=>⟨eY,by simp only;omega,ga,?_⟩⟩;simp only;have aw:((a2.reverse++[(k,a)]).flatMap hE).take (a2.length*2)=a2.reverse.flatMap hE:=by rw[mm,E6 (by rw[hb _ 2 tX,vr];exact cC _)];exact hn (by rw[hb _ 2 tX,vr];exact cC _)
   rw[<-aw,<-jk,sZ];congr 1;omega
  have agB:os.a.map (λg=>(⟨g,0,none⟩:Addr))=some ⟨HR,0,none⟩:=by rw[Bn];rfl
  have agC:∀ {M:List ay},(∀ x∈os.aY 254,x∈M)->ca I M ((⟨HR,0,none⟩:Addr).add (a2.length*2)) 2 (hE (k,a)):=fun {M} a4=>by have:=bk.aH (I:=I) (M:=M) (e:=254) tX (by decide) ep a4 Bn (i:=a2.length) (by simp);rw[dS _ rfl,dk];simpa using this
  have dw:=h.au (k:=k) dQ;rcases dw with⟨t1,-,t3,t4⟩ | dw
  rotate_left
  ·exact absurd yD dw.2
  obtain⟨gC,eG,gT⟩:=h.inv.rg k a s1 dQ;have eG:(T k a).aP<=t.s.size:=eG;obtain⟨ei,iC,r,al,g9,-,j2⟩:=bf.row s1;obtain⟨x,ab,jL,tL,pw,hM,ad,b7,agD⟩:=bf.aH s1;refine a5.mk (a2.length:Int) (gB (show(os.n:Int)-1=(a2.length:Int) by omega) (by omega)) ?_;refine bc.mk ⟨HR,0,none⟩ a2.length agB rfl (show a2.length<os.n by omega) ?_;refine aF.mk _ (agC λx ab=>zq _ ab) ?_;refine a5.mk (a2.length:Int) (gB (show(os.n:Int)-1=(a2.length:Int) by omega) (by omega)) ?_;refine ie.mk 0 a2.length rfl rfl (bq _) (show a2.length<=os.c by omega) ?_;refine cW.draw aV rfl rfl rfl ?_;refine aF.mk _ (bf.gh (j:=4) (by decide)) ?_;refine bc.mk ei k iC rfl s1 ?_;refine aF.mk _ (g9 _) ?_;refine bc.mk r a rfl rfl (by show a<t.s.size+1;omega) ?_;refine aF.mk _ (j2 _ (λe=>d' e _) a dQ) ?_;refine cz.mk λnp RC RD=>?_;refine cg.mk [] _ _ _ rfl rfl (bJ rfl) rfl ?_;have o1:∀ {M:List ay} j,j+1<=4->(⟨np,.cells (T k a).cells.toArray 107 (0,0)⟩:ay)∈M->ca I M ((⟨np,0,none⟩:Addr).add j) 1 (((T k a).cells.drop j).take 1):=λj an a4=>dn a4 an;refine aF.mk _ (o1 0 (by decide) (.head _)) ?_;refine a0.mk (λe=>?_) (λe=>?_)
  ·have C0:(T k a).n=0:=by have:((T k a).n:Int)=0:=du e;omega
   have bg:(dU t.P k a).n=0:=by rw[t4,C0];rfl
   cases jj with
   | @node n _ _ parts _ kV _ agE=>exact absurd bg agE
   | @zero n _ _ _ _ _ _ Ef=>
    refine⟨(n,a2,⟨os.a,a2.length,os.c,os.aJ⟩,hF),⟨⟨Nf,λx ab=>b0 x (.tail _ ab),?_,pk,kV,Ef,vt,ua⟩,by simp only;omega⟩,.sub (.cons _ (.refl _)) .refl,fZ,.nil⟩;rcases Nd with e | e
    ·left
     simp at e;simp[e]
    ·exact .inr λx ab=>e x (.tail _ ab)
  have bg:(dU t.P k a).n≠0:=by have:¬ ((T k a).n:Int)=0:=dt e;omega
  cases jj with
  | @zero n _ _ _ _ _ jb r=>exact absurd jb bg| @node hA _ _ parts _ kV _ _ aG Ef=>
  have my:=agt yl DT lp (k:=k) (a:=a) s1 (bq _) dQ aG;have nL:∀ x∈a2,zj t.t' (dU t.P) x:=by
   rcases Nd with e | e
   ·have:a2=[]:=by
     cases a2 with
     |nil=>rfl| cons _ _=>simp at e
    rw[this];exact λx ab=>by cases ab
   ·exact λx ab=>e x (.tail _ ab)
  have vu:a2.reverse.length+parts.length<=1048576:=by
   obtain⟨ajb,ajc,h6,hd⟩:=Na aA (parts++a2) (λx ab=>by
    rcases eb.1 ab with ab | ab;·exact my x ab
    ·exact nL x ab)
   have e:=Ef.Am h6;subst e;have aB:=congrArg List.length vt;rw[cU,cU]at aB;rw[cU]at hd;rw[vr];omega
  rw[zk]at aG;refine cW.draw aV rfl rfl rfl ?_;refine aF.mk _ (bf.gh (j:=3) (by decide)) ?_;refine bc.mk ad k b7 rfl s1 ?_;refine aF.mk _ (agD _) ?_;refine cz.mk λub ajd aje=>?_;refine cg.mk [] _ _ _ rfl rfl (bJ rfl) rfl ?_;have DR:∀ {M:List ay} j,j+1<=9->(⟨ub,.cells x.cells.toArray 83 (0,0)⟩:ay)∈M->ca I M ((⟨ub,0,none⟩:Addr).add j) 1 ((x.cells.drop j).take 1):=λj an a4=>dn a4 an;refine aF.mk _ (DR 0 (by decide) (.head _)) ?_;have Vs:∀ (D:List ay),(⟨ub,.cells x.cells.toArray 83 (0,0)⟩::⟨np,.cells (T k a).cells.toArray 107 (0,0)⟩::((⟨os.a,a2.length,os.c,os.aJ⟩:bk).aY 254++D)).Perm ((⟨os.a,a2.length,os.c,os.aJ⟩:bk).aY 254++(⟨ub,.cells x.cells.toArray 83 (0,0)⟩::⟨np,.cells (T k a).cells.toArray 107 (0,0)⟩::D)):=λD=>
   CK [_,_] _ _
  have Vt:∀ (A D:List ay),List.Sublist (A++D) ([]++(A++(⟨ub,.cells x.cells.toArray 83 (0,0)⟩::⟨np,.cells (T k a).cells.toArray 107 (0,0)⟩::D))++[]):=λA D=>by rw[dF,mT];exact List.Sublist.append (.refl _) (.cons _ (.cons _ (.refl _)))
  have Vu:∀ {iU:bk},iU.ok 2 ((a2.reverse++parts).flatMap hE)->iU.n=a2.length+parts.length:=fun {iU} h0=>by have:=h0.len;rw[hb _ 2 tX,cU,vr]at this;omega
  refine a0.mk (λxh=>?_) (λxh=>?_)
  ·have eT:x.k=9:=du xh;have ki:th t.P (dU t.P) k a=[⟨x.t,a,(T k a).aP⟩]:=by unfold th;rw[jL,iQ (show x.pn.d.k=9 from eT),bh];show [(⟨x.t,a,(dU t.P k a).aP⟩:h4)]=_;rw[t3]
   rw[zk,ki]at vt;have ajf:hF.n=pk.length:=by have:=ua.len;rw[hb _ 3 h4.de]at this;omega
   have xT:pk.length<=65536:=by have:=congrArg List.length vt;rw[cU]at this;omega
   refine aF.mk _ (DR 5 (by decide) (.head _)) ?_;refine aF.mk _ (o1 1 (by decide) (.tail _ (.head _))) ?_;refine a5.mk ((T k a).aP:Int) (gB rfl (by omega)) ?_;refine cz.mk λb9 gz iD=>?_;refine bl.RS aV rfl (by simp) (e:=110) rfl rfl rfl hF ua rfl (cs:=h4.cells ⟨x.t,a,(T k a).aP⟩) rfl rfl rfl (⟨ub,.cells x.cells.toArray 83 (0,0)⟩::⟨np,.cells (T k a).cells.toArray 107 (0,0)⟩::(⟨os.a,a2.length,os.c,os.aJ⟩:bk).aY 254) rfl (by omega) (by show(hF.n+1)*32<=_;omega) ?_;rintro Ng ajg-agF;refine bb.mk ((⟨os.a,a2.length,os.c,os.aJ⟩:bk).aY 254) (⟨ub,.cells x.cells.toArray 83 (0,0)⟩::⟨np,.cells (T k a).cells.toArray 107 (0,0)⟩::Ng.aY 110) _ (Vs _) (Vf h Nf s1 dQ aG vu) ?_;rintro v I' M' -⟨rfl,iU,rfl,h0,rfl⟩;have wS:=Vu h0;refine ie.mk a2.length iU.n rfl rfl (by omega) (cC _) ?_;refine bb.mk ([]++(iU.aY 254++(⟨ub,.cells x.cells.toArray 83 (0,0)⟩::⟨np,.cells (T k a).cells.toArray 107 (0,0)⟩::Ng.aY 110))) [] _ (by rw[dF];exact .refl _) (Vo (a6:=[]) (A:=a2.reverse) h0 (by omega) (show iU.n-a2.length=parts.length by omega) (λjX=>?_)) ?_
   ·cases aC:iU.a with
    |none=>have:=(h0.nil aC).1;omega| some aU=>have Mt:=(h0.cap aU aC).2.1;refine⟨aU,rfl,?_⟩;rw[cA (by omega),vr];show some ((⟨aU,0,none⟩:Addr).add (a2.length*2))=_;rw[dS _ rfl,dk]
   rintro v I' M' -⟨rfl,Ee,tf,xR,rfl⟩;refine⟨(hA,parts++a2,Ee,Ng),⟨⟨?_,?_,.inr ?_,pk++[⟨x.t,a,(T k a).aP⟩],kV,Ef,by rw[gl];exact vt,by rw[mm];simpa using agF⟩,by simp only;omega⟩,.sub (Vt _ _) .refl,.cons .refl (.cons .refl (.cons (Vn tf) .nil)),.nil⟩;·rw[KD];exact xR
   ·intro x ab;rcases eb.1 ab with ab | ab
    ·exact(my x ab).1
    ·exact b0 x (.tail _ ab)
   ·intro x ab;rcases eb.1 ab with ab | ab
    ·exact my x ab
    ·exact nL x ab
  ·have eT:¬ x.k=9:=dt xh;have ki:th t.P (dU t.P) k a=[]:=by unfold th;rw[jL,ea (show ¬ x.pn.d.k=9 from eT),ba]
   rw[zk,ki,mT]at vt;refine bb.mk ((⟨os.a,a2.length,os.c,os.aJ⟩:bk).aY 254) (⟨ub,.cells x.cells.toArray 83 (0,0)⟩::⟨np,.cells (T k a).cells.toArray 107 (0,0)⟩::hF.aY 110) _ (Vs _) (Vf h Nf s1 dQ aG vu) ?_;rintro v I' M' -⟨rfl,iU,rfl,h0,rfl⟩;have wS:=Vu h0;refine ie.mk a2.length iU.n rfl rfl (by omega) (cC _) ?_;refine bb.mk ([]++(iU.aY 254++(⟨ub,.cells x.cells.toArray 83 (0,0)⟩::⟨np,.cells (T k a).cells.toArray 107 (0,0)⟩::hF.aY 110))) [] _ (by rw[dF];exact .refl _) (Vo (a6:=[]) (A:=a2.reverse) h0 (by omega) (show iU.n-a2.length=parts.length by omega) (λjX=>?_)) ?_
   ·cases aC:iU.a with
    |none=>have:=(h0.nil aC).1;omega| some aU=>have Mt:=(h0.cap aU aC).2.1;refine⟨aU,rfl,?_⟩;rw[cA (by omega),vr];show some ((⟨aU,0,none⟩:Addr).add (a2.length*2))=_;rw[dS _ rfl,dk]
   rintro v I' M' -⟨rfl,Ee,tf,xR,rfl⟩;refine⟨(hA,parts++a2,Ee,hF),⟨⟨?_,?_,.inr ?_,pk,kV,Ef,vt,ua⟩,by simp only;omega⟩,.sub (Vt _ _) .refl,.cons .refl (.cons .refl (.cons (Vn tf) .nil)),.nil⟩;·rw[KD];exact xR
   ·intro x ab;rcases eb.1 ab with ab | ab
    ·exact(my x ab).1
    ·exact b0 x (.tail _ ab)
   ·intro x ab;rcases eb.1 ab with ab | ab
    ·exact my x ab
    ·exact nL x ab
def Eg(o:wD)(v:Value):Value:=.agg #[.bool o.ok,.int .i64 o.aP,v]
def vv:wD:=⟨false,0,[]⟩
def agG:Spec Tryz.prog 62 [] I M λv I' M'=>v=Eg vv (.slice none 0 0)/\I'=I/\M'=M:=by refine bX [] aV Tryz.func62 rfl rfl rfl ?_;intro B ao;exact⟨_,_,.refl,rfl,rfl,rfl⟩
def agH(aP:Nat):Spec Tryz.prog 58 [.int .i64 aP] I M λv I' M'=>v=Eg ⟨true,aP,[]⟩ (.slice none 0 0)/\I'=I/\M'=M:=by refine bX [] aV Tryz.func58 rfl rfl rfl ?_;intro B ao;exact⟨_,_,.refl,rfl,rfl,rfl⟩
def fh.Vv{P:Program}{E:Env}(aE:cE P E){t:Nat}{dc:dz}{x y:Operand}(av:E t=some dc)(dL:dc.bz=.pointer e){p:Option Addr}{V:Value->Prop}{other:Prop}
  (h:V (.bool p.isNone)):fh P .eql t x y (.val (.pointer p)) (.val (.pointer none)) V other:=by
 obtain⟨d,eM,e4⟩:=(aE _ _ av).eJ;have aa:d=.pointer e:=by rw[dL]at e4;cases d<;>simp_all[eD]
 subst aa;refine .mk _ _ _ rfl rfl (λw=>?_) h;have aw:(eqGuard .eql t x y (.pointer p) (.pointer none)).run P w=.ok () w:=by unfold eqGuard;rfl
 have aB:(Op.equal t (.pointer p) (.pointer none)).run P w=.ok p.isNone w:=by
  have key:∀ d,(Op.equalIn (d+1) t (.pointer p) (.pointer none)).run P w=.ok p.isNone w:=λd=>by cases p<;>simp[Op.equalIn,run_underlying eM]
  exact key 9999
 simp only[bZ,aw,bK,binOp];simp[aB]
def agI{g:dX}(hm:po g)(fI:∀ d∈g.ds,∀ n∈d.t.ns,0<=n.k){s:ByteArray}(ap:s.size<=4096):z' (eu g s):=by
 have bf:=Kk hm fI (s:=s) (aH:=0) (bq _) ap;have ar:(eu g s).ns.length=(u3 g s 0).ns.length:=by simp[eu,u3]
 refine⟨λa aC=>?_,bq _,ap⟩;obtain⟨b,ai,rfl⟩:=ej.1 aC;have h:=bf.ns b ai;exact⟨h.k,λx ab=>by rw[ar];exact h.bT x ab,h.many,h.one,h.m7,h.len⟩
def re.agJ{g:dX}{s:ByteArray}(h:re I g s t T)(hm:po g)(fI:∀ d∈g.ds,∀ n∈d.t.ns,0<=n.k)(ap:s.size<=4096):rp I t T:=by obtain⟨u9,cJ⟩:=R1 hm fI ap;refine⟨h.ok,h.inv,λk b=>by rw[h.P];exact h.all k b,h.n0,λk ae=>?_,λk=>by rw[h.P];exact u9 k,by rw[h.P];exact agI hm fI ap⟩;rw[h.P,h.nn];exact cJ k (by rw[<-h.nn];exact ae)
inductive Bo(P:da)(k a:Nat)(o:wD)(e:Int):Prop
 |none(h:(b8 P k a).au=0)(aq:o=vv)(he:e=5)| fail (h:(b8 P k a).au=2) (aq:o=vv) (he:e=0)| many (h:(b8 P k a).au=3) (ax:65536<(b8 P k a).n) (aq:o=vv) (he:e=40)| is (h:(b8 P k a).au=3) (ax:(b8 P k a).n<=65536) (he:e=0) (bf:o.ok=true) (lj:o.aP=(b8 P k a).aP) (ar:o.r7.length=(b8 P k a).n) (aA:∃ N,h5 P (dU P) N [(k,a)] o.r7) (fD:lh a (b8 P k a).aP o.r7)
def agK{P:da}{c:b2}{k a:Nat}(aa:c.au<=2)(h:c.ce=b8 P k a):(c.au=0/\(b8 P k a).au=0)\/(c.au=1/\(b8 P k a).au=2)\/(c.au=2/\(b8 P k a).au=3/\(b8 P k a).n=c.n/\(b8 P k a).aP=c.aP):=by
 rw[<-h];rcases pt aa with⟨e,bn⟩ | ⟨e,bn⟩ | ⟨e,bn⟩
 ·exact .inl ⟨e,by rw[bn];rfl⟩
 ·exact .inr (.inl ⟨e,by rw[bn];rfl⟩)
 ·exact .inr (.inr ⟨e,by rw[bn];exact⟨rfl,rfl,rfl⟩⟩)
def agL{P:da}(ai:P.a3=0)(bg:P.s.size<=4096)(ax:∀ k,tu P k){k a:Nat}(aC:a<=P.s.size)(af:(b8 P k a).au=3):∃ n l,h5 P (dU P) n [(k,a)] l/\km l (min (b8 P k a).n 65537)/\lh a (b8 P k a).aP l:=by have e:dU P k a=j0 (b8 P k a):=qa aC;obtain⟨n,l,h6,hd,iS⟩:=Ru ai bg ax k a (by rw[e];exact af);rw[ai,dk]at h6 iS;rw[e]at hd iS;exact⟨n,l,h6,hd,iS⟩
section
variable{I:aS}{t:ef}{T:Nat->Nat->b2}
def agM(h:rp I t T){k a:Nat}(ae:k<t.nn)(aC:a<=t.s.size):Spec Tryz.prog 49 [ptr t.bt,.int .i64 k,.int .i64 a] I [] λv I' M'=>I'=I/\∃ (hF:bk) (o:wD) (e:Int),Bo t.P k a o e/\v=.tuple #[Eg o hF.val,.int .i64 e]/\hF.ok 3 (o.r7.flatMap h4.cells)/\M'=hF.aY 110:=by
 refine bX [] aV Tryz.func49 rfl rfl rfl ?_;intro B ao;have bf:=h.ok;have cI:=bf.sz;have d':t.n0<t.nn->∀ M:List ay,t.aY T∈M:=λe=>absurd e (by have:=h.n0;omega);obtain⟨ei,iC,r,al,g9,-,j2⟩:=bf.row ae;obtain⟨gC,eG,gT⟩:=h.inv.rg k a ae aC;have eG:(T k a).aP<=t.s.size:=eG;have dw:=agK (h.inv.au k a) (h.all k a);have dR:dU t.P k a=j0 (b8 t.P k a):=qa (show a<=t.P.s.size from aC);refine aF.mk _ (bf.gh (j:=4) (by decide)) ?_;refine bc.mk ei k iC rfl ae ?_;refine aF.mk _ (g9 _) ?_;refine bc.mk r a rfl rfl (by show a<t.s.size+1;omega) ?_;refine aF.mk _ (j2 _ (λe=>d' e _) a aC) ?_;generalize T k a=c at *;refine a0.mk (λe=>?_) (λe=>?_)
 ·have bn:c.au=0:=by have:=du e;omega
  rcases dw with dw | dw | dw;·exact⟨_,_,.refl,rfl,qX,vv,5,.none dw.2 rfl rfl,rfl,uS 3,rfl⟩
  ·omega
  ·omega
 have cv:c.au≠0:=by have:=dt e;omega
 refine a0.mk (λe=>?_) (λe=>?_)
 ·have bn:c.au=1:=by have:=du e;omega
  rcases dw with dw | dw | dw;·omega
  ·refine bb.whole _ agG ?_;rintro v I' M' -⟨rfl,rfl,rfl⟩;exact⟨_,_,.refl,rfl,qX,vv,0,.fail dw.2 rfl rfl,rfl,uS 3,rfl⟩
  ·omega
 have aw:c.au≠1:=by have:=dt e;omega
 rcases dw with dw | dw | dw
 ·omega
 ·omega
 obtain⟨-,bG,fk,mX⟩:=dw;refine a0.mk (λe=>?_) (λe=>?_)
 ·have bn:65536<c.n:=by have:=du e;omega
  exact⟨_,_,.refl,rfl,qX,vv,40,.many bG (by omega) rfl rfl,rfl,uS 3,rfl⟩
 have bn:c.n<=65536:=by have:=dt e;omega
 obtain⟨n,l,h6,hd,iS⟩:=agL rfl (show t.P.s.size<=4096 from cI) h.na (show a<=t.P.s.size from aC) bG;have oI:l.length=c.n:=by have:=hd.1 (by omega);omega
 refine a5.mk (c.aP:Int) (gB rfl (by omega)) ?_;refine bb.whole _ (agH c.aP) ?_;rintro v I' M' -⟨rfl,rfl,rfl⟩;refine bb.whole _ (agz h ae aC (by rw[dR];exact bG) h6 (by omega)) ?_;rintro v I' M' -⟨rfl,hF,rfl,ua,rfl⟩;exact⟨_,_,.refl,rfl,hF,⟨true,c.aP,l⟩,0,.is bG (by omega) rfl rfl mX.symm (by rw[fk];exact oI) ⟨n,h6⟩ iS,rfl,ua,rfl⟩
def rq(n z:Nat)(hB a:Int):Bool:=decide (0<=hB)&&(decide (hB<(n:Int))&&(decide (0<=a)&&decide (a<=(z:Int))))
def agN(h:rp I t T){ei:Option Addr}{h8:Nat}(Eh:t.rv=.slice ei n h8)(hB a:Int):Spec Tryz.prog 48 [ptr t.bt,.int .i64 hB,.int .i64 a] I M0 λv I' M'=>v=.bool (rq n t.s.size hB a)/\I'=I/\M'=M0:=by
 refine bX [] aV Tryz.func48 rfl rfl rfl ?_;intro B ao;have bf:=h.ok;have j':t.b'.getD 2 undef=.slice ei n h8:=Eh;have aa:∀ M,ca I M ((⟨t.bt,0,none⟩:Addr).add 2) 1 [.slice ei n h8]:=λM=>by have:=bf.gh (M:=M) (j:=2) (by decide);rwa [j']at this
 refine cB.mk (λaT=>?_) (λaT=>?_)
 ·have aT:decide (0<=hB)=true:=aT;refine aF.mk _ (aa _) ?_;refine cB.mk (λaU=>?_) (λaU=>?_)
  ·have aU:decide (hB<(n:Int))=true:=aU;refine cB.mk (λbG=>?_) (λbG=>?_)
   ·have bG:decide (0<=a)=true:=bG;refine aF.mk _ (bf.gh (j:=0) (by decide)) ?_;exact⟨_,_,.refl,by rw[rq,aT,aU,bG];rfl,rfl,rfl⟩
   ·have bG:decide (0<=a)=false:=bG;exact⟨_,_,.refl,by rw[rq,aT,aU,bG];rfl,rfl,rfl⟩
  ·have aU:decide (hB<(n:Int))=false:=aU;exact⟨_,_,.refl,by rw[rq,aT,aU];rfl,rfl,rfl⟩
 ·have aT:decide (0<=hB)=false:=aT;exact⟨_,_,.refl,by rw[rq,aT];rfl,rfl,rfl⟩
def agO{z:Nat}{hB a:Int}(h:rq n z hB a=true):∃ i j:Nat,hB=i/\a=j/\i<n/\j<=z:=by simp only[rq,b3,e0]at h;exact⟨hB.toNat,a.toNat,by omega,by omega,by omega,by omega⟩
end
section
variable{I:aS}{g:dX}{s:ByteArray}{t:ef}{T:Nat->Nat->b2}
def re.b1(h:re I g s t T)(hm:po g){i:Nat}(hi:i<g.n)(gb:g.ds.length=g.n):∃ ei h8,t.rv=.slice ei g.n h8/\u4 g i<t.nn/\∃ ad,ei=some ad/\∀ M,ca I M (ad.add (i*1)) 1 [.int .i64 (u4 g i)]:=by
 obtain⟨ei,h8,U,aa⟩:=h.rv;have ar:i<(gU 0 g.ds).length:=by rw[Al];omega
 have e:u4 g i=(gU 0 g.ds)[i]:=by simp[u4,dh,ar]
 obtain⟨ad,eY,ez⟩:=aa.one (f:=b4) hi ar;refine⟨ei,h8,U,?_,ad,eY,λM=>by rw[e];exact ez M⟩;have:=Gj 0 g.ds (λd ah=>(hm.r d ah).b1) _ (dK ar);rw[e,h.nn];omega
inductive Ei(g:dX)(s:ByteArray)(hB a:Int)(o:wD)(e:Int):Prop
 |no(h:rq g.n s.size hB a=false)(aq:o=vv)(he:e=1)| is (i j:Nat) (hi:hB=i) (an:a=j) (hx:i<g.n) (pe:j<=s.size) (h:Bo (eu g s) (u4 g i) j o e)
def agP(h:re I g s t T)(hm:po g)(zl:rp I t T)(gb:g.ds.length=g.n)(hB a:Int):Spec Tryz.prog 13 [ptr t.bt,.int .i64 hB,.int .i64 a] I [] λv I' M'=>I'=I/\∃ (hF:bk) (o:wD) (e:Int),Ei g s hB a o e/\v=.tuple #[Eg o hF.val,.int .i64 e]/\hF.ok 3 (o.r7.flatMap h4.cells)/\M'=hF.aY 110:=by
 refine bX [] aV Tryz.func13 rfl rfl rfl ?_;intro B ao;obtain⟨ei,h8,Eh,-⟩:=h.rv;refine fh.Vv aV rfl rfl ?_;refine a0.mk (λe=>by cases e) (λ_=>?_);have HS:=agN zl Eh hB a (M0:=[]);rw[h.ts]at HS;refine bb.whole _ HS ?_;rintro v I' M' -⟨rfl,rfl,rfl⟩;refine a0.mk (λe=>?_) (λe=>?_)
 ·have bn:rq g.n s.size hB a=false:=by simpa using e
  exact⟨_,_,.refl,rfl,qX,vv,1,.no bn rfl rfl,rfl,uS 3,rfl⟩
 have bn:rq g.n s.size hB a=true:=by simpa using e
 obtain⟨i,j,rfl,rfl,hi,an⟩:=agO bn;obtain⟨ajh,aji,Vw,Bk,ad,b7,bs⟩:=h.b1 hm hi gb;rw[Eh]at Vw;cases Vw;have j':t.b'.getD 2 undef=.slice ei g.n h8:=Eh;have aa:∀ M,ca I' M ((⟨t.bt,0,none⟩:Addr).add 2) 1 [.slice ei g.n h8]:=λM=>by have:=zl.ok.gh (M:=M) (j:=2) (by decide);rwa [j']at this
 refine aF.mk _ (aa _) ?_;refine bc.mk ad i b7 rfl hi ?_;refine aF.mk _ (bs _) ?_;refine bb.whole _ (agM zl Bk (by rw[h.ts];exact an)) ?_;rintro v dP dr -⟨rfl,hF,o,aB,nb,rfl,ua,rfl⟩;rw[h.P]at nb;exact⟨_,_,.refl,rfl,hF,o,aB,.is i j rfl rfl hi an nb,rfl,ua,rfl⟩
end
structure HT(d:a9):Prop where
 kn:d.kn<400
 t:d.t.size<8020
structure Ej(t:dG):Prop where
 n:t.n<400
 ns:∀ ch∈t.ns,HT ch
structure HU(d:bE):Prop where
 name:d.name.size<8020
 t:Ej d.t
structure Nh(g:dX):Prop where
 n:g.n<400
 ds:∀ d∈g.ds,HU d
def yn.Ek{d:a9}(h:yn I d)(ap:HT d):d.ok I:=
 ⟨h.k,h.dJ,h.s1,h.s2,h.dQ,h.ts,h.lo,h.hi,h.bd.z7 (by have:=ap.kn;omega),h.aX⟩
def wv.Ek{t:dG}(h:wv I t)(ap:Ej t):t.ok I:=
 ⟨h.bd.z7 (by have:=ap.n;omega),λch cJ=>(h.ns ch cJ).Ek (ap.ns ch cJ),h.b1⟩
def tg.Ek{g:dX}(h:tg I g)(ap:Nh g):g.ok I:=
 ⟨h.bd.z7 (by have:=ap.n;omega),λd ah=>⟨by have:=(ap.ds d ah).name;omega,(h.ds d ah).t.Ek (ap.ds d ah).t⟩⟩
def Vx{a b:Int}(h:a=b):sL (.val (.int .i64 a)) (.val (.int .i64 b)):=by subst h;exact .refl
structure agQ(g:dX)(x:Nat×Nat):Prop where
 k:x.2<=g.n
 n:x.1<=2000
 small:x.1<400->x.2<=x.1/\∀ i (h:i<g.ds.length),i<x.2->HU g.ds[i]
def ov{p:Prop}(b:X=true)(h:X=false):p:=by rw[b]at h;cases h
def ow{p:Prop}(b:X=false)(h:X=true):p:=by rw[b]at h;cases h
def bk.agR{J:aS}(cr:Hx I M J){os:bk}{xs:List Value}{size b:Nat}(h:os.ok size xs)(a4:∀ x∈os.aY e,x∈M)(ai:os.n*b<=140737488355328):fb J (os.a.map λg=>⟨g,0,none⟩) os.n os.c size b xs:=by
 obtain⟨a,n,c,aJ⟩:=os;cases a with
 |none=>obtain⟨U,aa⟩:=h.nil rfl;exact⟨h.len,⟨by simp only at U aa |-;omega,ai⟩,.inl U⟩
 |some g=>obtain⟨U,aa,af,aR⟩:=h.cap g rfl;exact⟨h.len,⟨aa,ai⟩,.inr ⟨⟨g,0,none⟩,rfl,rfl,aJ.toArray,e,(0,0),cr.kn _ _ (.inr ⟨⟨g,.cells aJ.toArray e (0,0)⟩,a4 _ (.head _),rfl,rfl⟩),by simpa using aR⟩⟩
section
end
structure agS(t:dG)(x:Nat×Nat):Prop where
 j:x.2<=t.n
 n:x.1<=2000
 len:x.1<300->t.n<400
 small:x.1<300->∀ i (h:i<t.ns.length),i<x.2->HT t.ns[i]
structure Vy(g:dX)(x:Nat×Nat):Prop where
 k:x.2<=g.n
 n:x.1<=2000
 small:x.1<300->x.2<=x.1/\∀ i (h:i<g.ds.length),i<x.2->HU g.ds[i]
structure agT(g:dX)(t:dG)(k:Nat)(x:Nat×Nat):Prop where
 j:x.2<=t.n
 n:x.1<=2000
 small:x.1<300->t.n<400/\k+1<=x.1/\(∀ i (h:i<g.ds.length),i<k->HU g.ds[i])/\(∀ h:k<g.ds.length,g.ds[k].name.size<8020)/\∀ i (h:i<t.ns.length),i<x.2->HT t.ns[i]
def agU{g:dX}(aA:tg I g){t:dG}(av:wv I t)(s:ByteArray) :
  Spec Tryz.prog 8 [g.val,t.val,.string s] I [] λv I' M'=>(∃ r,v=.bool r/\(r=false->Nh g/\Ej t/\s.size<=40))/\I'=I/\M'=[]:=by
 refine bX [] aV Tryz.func8 rfl rfl rfl ?_;intro B ao;have gb:=aA.n;have pf:=av.n;have Yl:=av.bd.len;refine dB.inv (ι:=Nat×Nat) (λx=>{ bj:=[(2,.val (.string s)),(3,.ref 3 0),(4,.ref 4 0),(7,.val (.int .i64 x.1)),(8,.val (.int .i64 x.2))],cl:=[(3,[.slice g.a g.n g.c]),(4,t.cells)],c5:=I }) (agS t) (λx=>t.n-x.2) ?_ ?_
 ·refine⟨(min 300 t.n,0),⟨bq _,by simp only;omega,λh=>by simp only at h;omega,λ_ i _ h=>by simp at h⟩,.refl,.cons .refl (.cons .refl (.cons .refl (.cons ?_ (.cons .refl .nil)))),.cons rfl (.cons rfl (.nil))⟩;refine Vx ?_;omega
 rintro⟨n,j⟩⟨an,ax,ar,El⟩;simp only at an ax ar El;refine cB.mk (λh=>a0.mk (λaa=>?body) (λaa=>?aw)) (λh=>?aB)
 case body=>
  have aK:j<t.n:=by simpa using h
  have wS:n<300:=by have:=du aa;omega
  have bP:j<t.ns.length:=by omega
  obtain⟨sD,vu,Bp⟩:=av.bd.row a9.de aK bP;have cJ:=av.ns _ (dK bP);have dL:=cJ.ts;have gT:∀ M,ca I M ((sD.add (j*9)).add 8) 1 [.slice t.ns[j].kg t.ns[j].kn t.ns[j].jc]:=λM=>(Bp M).part (k:=8) (m:=1) (by decide);have lQ:∀ M,ca I M ((sD.add (j*9)).add 5) 1 [.string t.ns[j].t]:=λM=>(Bp M).part (k:=5) (m:=1) (by decide);generalize Ni:t.ns[j]=ch at cJ dL gT lQ;refine cW.draw aV rfl rfl rfl ?_;refine bc.mk sD j vu rfl aK ?_;refine aF.mk _ (gT _) ?_;refine a5.mk ((n+min 300 ch.kn:Nat):Int) (gB (by omega) (by omega)) ?_;refine bc.mk sD j vu rfl aK ?_;refine aF.mk _ (lQ _) ?_;refine l4.mk (by decide) ?_;refine a5.mk ((ch.t.size/20:Nat):Int) (gB (by rw[F7 (by omega)];omega) (by omega)) ?_;refine a5.mk ((n+min 300 ch.kn+min 300 (ch.t.size/20):Nat):Int) (gB (by omega) (by omega)) ?_;refine a5.mk _ (cm (i:=j) (by omega)) ?_;refine⟨(_,j+1),⟨⟨by simp only;omega,by simp only;omega,λeo=>by simp only at eo;exact ar (by omega),λeo i hi g8=>?_⟩,by simp only;omega⟩,.refl,g',.cons rfl (.cons rfl (.nil))⟩;simp only at eo g8;by_cases e:i=j;·subst e;rw[Ni];exact⟨by omega,by omega⟩
  ·exact El (by omega) i hi (by omega)
 case' aw=>have ab:n<300->j=t.n:=λbA=>by have:=dt aa;omega
 case' aB=>have ab:n<300->j=t.n:=λbA=>by have:¬ (j:Int)<(t.n:Int):=dt h;omega
 all_goals
  clear h;have b6:n<300->Ej t:=λbA=>⟨ar bA,λch cJ=>by
   obtain⟨y,aN,rfl⟩:=x6 cJ;exact El bA y aN (by have:=ab bA;omega)⟩
  refine dB.inv (ι:=(Nat×Nat)×Nat) (λx=>{ bj:=[(2,.val (.string s)),(3,.ref 3 0),(7,.val (.int .i64 x.1.1)),(9,.val (.int .i64 x.2)),(10,.val (.int .i64 x.1.2))],cl:=[(3,[.slice g.a g.n g.c])],c5:=I }) (λx=>(Vy g x.1/\n<=x.1.1)/\1<=x.2/\x.2<=9000) (λx=>g.n-x.1.2) ?_ ?_;·exact⟨((n,0),1),⟨⟨⟨bq _,ax,λ_=>⟨bq _,λi _ h=>by simp at h⟩⟩,cC _⟩,cC _,by simp only;omega⟩,.refl,g',.cons rfl (.nil)⟩
  rintro⟨⟨m,k⟩,agV⟩⟨⟨⟨ae,hm,Nj⟩,c1⟩,wh,Vz⟩;simp only at ae hm Nj c1 wh Vz;have fin:(m<300->k=g.n)->m<300->Nh g/\Ej t:=λU zb=>by obtain⟨s1,s2⟩:=Nj zb;have af:=U zb;refine⟨⟨by omega,λd ah=>?_⟩,b6 (by omega)⟩;obtain⟨y,aN,rfl⟩:=x6 ah;exact s2 y aN (by omega)
  refine cB.mk (λaf=>a0.mk (λaR=>?_) (λaR=>?_)) (λaf=>?_)
  ·have fr:k<g.n:=by simpa using af
   have pT:m<300:=by have bg:((m:Nat):Int)<300:=du aR;omega
   obtain⟨s1,s2⟩:=Nj pT;have uH:k<g.ds.length:=by omega
   obtain⟨ad,b7,bs⟩:=aA.bd.row bE.de fr uH;have ah:=aA.ds _ (dK uH);have uq:=ah.name;have fY:=ah.t;have agW:=fY.n;have gC:∀ M,ca I M ((ad.add (k*3)).add 0) 1 [.string g.ds[k].name]:=λM=>(bs M).part (k:=0) (m:=1) (by decide);have eG:∀ M,ca I M ((ad.add (k*3)).add 1) 2 g.ds[k].t.cells:=λM=>(bs M).part (k:=1) (m:=2) (by decide);have Fk:∀ (q:Nat),q<8020->g.ds[k].name.size=q->∀ h:k<g.ds.length,g.ds[k].name.size<8020:=λq aO e h=>by rw[e];exact aO
   generalize fz:g.ds[k].name=bU at uq gC Fk;generalize agX:g.ds[k].t=u at fY agW eG;refine bc.mk ad k b7 rfl fr ?_;refine aF.mk _ (eG _) ?_;refine cW.draw aV rfl rfl rfl ?_;refine a5.mk ((m+5:Nat):Int) (gB (show(m:Int)+5=_ by omega) (by omega)) ?_;refine a5.mk ((m+5+min 300 u.n:Nat):Int) (gB (by omega) (by omega)) ?_;refine bc.mk ad k b7 rfl fr ?_;refine aF.mk _ (gC _) ?_;refine l4.mk (by decide) ?_;refine a5.mk ((bU.size/20:Nat):Int) (gB (by rw[F7 (by omega)];omega) (by omega)) ?_;refine a5.mk ((m+5+min 300 u.n+min 300 (bU.size/20):Nat):Int) (gB (by omega) (by omega)) ?_;refine dB.inv (ι:=(Nat×Nat)×Nat) (λx=>{ bj:=[(2,.val (.string s)),(3,.ref 3 0),(7,.val (.int .i64 x.1.1)),(9,.val (.int .i64 x.2)),(10,.val (.int .i64 k)),(11,.ref 11 0),(12,.val (.int .i64 x.1.2))],cl:=[(3,[.slice g.a g.n g.c]),(11,u.cells)],c5:=I }) (λx=>(agT g u k x.1/\n<=x.1.1)/\1<=x.2/\x.2<=9000) (λx=>u.n-x.1.2) ?_ ?_;·exact⟨((_,0),agV),⟨⟨⟨bq _,by simp only;omega,λh=>by simp only at h;exact⟨by omega,by simp only;omega,s2,λh=>Fk bU.size (by omega) rfl h,λi _ h=>by simp at h⟩⟩,by simp only;omega⟩,wh,Vz⟩,.refl,im,.cons rfl (.cons rfl (.nil))⟩
   rintro⟨⟨p,q⟩,pd⟩⟨⟨⟨aO,aG,Nk⟩,DZ⟩,HV,HW⟩;simp only at aO aG DZ Nk HV HW;have out:(p<300->q=u.n)->Vy g (p,k+1):=λU=>by
    refine⟨by simp only;omega,aG,λaa=>?_⟩;simp only at aa;obtain⟨sq,pD,xb,Nl,Nm⟩:=Nk aa;have ajj:=U aa;refine⟨pD,λi hi g8=>?_⟩;by_cases e:i=k
    ·subst e;refine⟨Nl hi,?_⟩;rw[agX];exact⟨sq,λch cJ=>by
      obtain⟨y,aN,rfl⟩:=x6 cJ;exact Nm y aN (by omega)⟩
    ·exact xb i hi (by simp only at g8;omega)
   refine cB.mk (λbC=>a0.mk (λbO=>?_) (λbO=>?_)) (λbC=>?_)
   ·have e5:q<u.n:=by simpa using bC
    have q9:p<300:=by have bg:((p:Nat):Int)<300:=du bO;omega
    obtain⟨sq,pD,xb,Nl,Nm⟩:=Nk q9;have mu:q<u.ns.length:=by omega
    obtain⟨sD,vu,Bp⟩:=fY.bd.row a9.de e5 mu;have cJ:=fY.ns _ (dK mu);have dL:=cJ.ts;have gT:∀ M,ca I M ((sD.add (q*9)).add 8) 1 [.slice u.ns[q].kg u.ns[q].kn u.ns[q].jc]:=λM=>(Bp M).part (k:=8) (m:=1) (by decide);have lQ:∀ M,ca I M ((sD.add (q*9)).add 5) 1 [.string u.ns[q].t]:=λM=>(Bp M).part (k:=5) (m:=1) (by decide);have qY:∀ M,ca I M ((sD.add (q*9)).add 6) 1 [.int .i64 u.ns[q].lo]:=λM=>(Bp M).part (k:=6) (m:=1) (by decide);generalize Ni:u.ns[q]=ch at cJ dL gT lQ qY;refine cW.draw aV rfl rfl rfl ?_;refine bc.mk sD q vu rfl e5 ?_;refine aF.mk _ (gT _) ?_;refine a5.mk ((p+min 300 ch.kn:Nat):Int) (gB (show(p:Int)+min 300 (ch.kn:Int)=_ by omega) (by omega)) ?_;refine bc.mk sD q vu rfl e5 ?_;refine aF.mk _ (lQ _) ?_;refine l4.mk (by decide) ?_;refine a5.mk ((ch.t.size/20:Nat):Int) (gB (by rw[F7 (by omega)];omega) (by omega)) ?_;refine a5.mk ((p+min 300 ch.kn+min 300 (ch.t.size/20):Nat):Int) (gB (by omega) (by omega)) ?_;refine bc.mk sD q vu rfl e5 ?_;refine aF.mk _ (qY _) ?_;obtain⟨z,Jw,agY,agZ⟩:∃ z:Nat,max (1:Int) (min 9000 ch.lo)=(z:Int)/\1<=z/\z<=9000:=⟨(max (1:Int) (min 9000 ch.lo)).toNat,by omega,by omega,by omega⟩;have hmul:pd*z<=81000000:=by have:=Nat.mul_le_mul HW agZ;omega
    have jX:1<=pd*z:=Nat.mul_pos HV agY;refine a5.mk ((pd*z:Nat):Int) (gB (show(pd:Int)*max 1 (min 9000 ch.lo)=_ by rw[Jw];simp) (by omega)) ?_;refine a5.mk _ (cm (i:=q) (by omega)) ?_;have uG:min (9000:Int) ((pd*z:Nat):Int)=((min 9000 (pd*z):Nat):Int):=by omega
    refine⟨((_,q+1),min 9000 (pd*z)),⟨⟨⟨⟨by simp only;omega,by simp only;omega,λeo=>?_⟩,by simp only;omega⟩,by simp only;omega,by simp only;omega⟩,by simp only;omega⟩,.refl,.cons .refl (.cons .refl (.cons .refl (.cons (Vx uG) (fZ)))),.cons rfl (.cons rfl (.nil))⟩;simp only at eo |-;refine⟨sq,by omega,xb,Nl,λi hi g8=>?_⟩;by_cases e:i=q;·subst e;rw[Ni];exact⟨by omega,by omega⟩
    ·exact Nm i hi (by omega)
   ·have q9:300<=p:=by have bg:¬ ((p:Nat):Int)<300:=dt bO;omega
    refine a5.mk _ (cm (i:=k) (by omega)) ?_;exact⟨((p,k+1),pd),⟨⟨⟨out λh=>by omega,DZ⟩,HV,HW⟩,by simp only;omega⟩,.refl,g',.cons rfl (.nil)⟩
   ·have e5:u.n<=q:=by simpa using bC
    refine a5.mk _ (cm (i:=k) (by omega)) ?_;exact⟨((p,k+1),pd),⟨⟨⟨out λh=>by omega,DZ⟩,HV,HW⟩,by simp only;omega⟩,.refl,g',.cons rfl (.nil)⟩
  ·have pT:300<=m:=by have bg:¬ ((m:Nat):Int)<300:=dt aR;omega
   refine cB.mk (λaT=>?_) (λaT=>?_)
   ·have aT:decide ((300:Int)<=(m:Int))=false:=aT;have ku:m<300:=by have:=dt aT;omega
    refine cB.mk (λaU=>?_) (λaU=>?_)
    ·have aU:decide ((40:Int)<(s.size:Int))=false:=aU;have HX:s.size<=40:=by have:=dt aU;omega
     exact⟨_,_,.refl,⟨_,rfl,λ_=>⟨(fin (λh=>by omega) ku).1,(fin (λh=>by omega) ku).2,HX⟩⟩,rfl,rfl⟩
    ·exact⟨_,_,.refl,⟨true,rfl,λh=>by cases h⟩,rfl,rfl⟩
   ·exact⟨_,_,.refl,⟨true,rfl,λh=>by cases h⟩,rfl,rfl⟩
  ·have P0:g.n<=k:=by simpa using af
   refine cB.mk (λaT=>?_) (λaT=>?_)
   ·have aT:decide ((300:Int)<=(m:Int))=false:=aT;have ku:m<300:=by have:=dt aT;omega
    refine cB.mk (λaU=>?_) (λaU=>?_)
    ·have aU:decide ((40:Int)<(s.size:Int))=false:=aU;have HX:s.size<=40:=by have:=dt aU;omega
     exact⟨_,_,.refl,⟨_,rfl,λ_=>⟨(fin (λh=>by omega) ku).1,(fin (λh=>by omega) ku).2,HX⟩⟩,rfl,rfl⟩
    ·exact⟨_,_,.refl,⟨true,rfl,λh=>by cases h⟩,rfl,rfl⟩
   ·exact⟨_,_,.refl,⟨true,rfl,λh=>by cases h⟩,rfl,rfl⟩
section
section
end
end
section
end
noncomputable def HY(f g:Nat)(args:List ak):Option ak:=bN (qg iX (h9 iX f) g args ⟨.nil,0⟩) none λp=>some p.1
def VA(b6:ix I mz){f g:Nat}{args:List ak}{b:Bool}(h:HY f g args=some (.b b)){us:List Value}(hu:bx (λ_=>none) args us) :
  Spec Tryz.prog g us I [] λr J lG=>r=.bool b/\(∀ b o,I b=some o->J b=some o)/\lG=[]:=by
 unfold HY at h;obtain⟨⟨v,m'⟩,U,h⟩:=ck h;cases h;refine Spec.xj (ae8 b6 U hu) ?_;rintro r J lG⟨rfl,bo,I',M',bm,ag,hm,dm⟩;simp only[aI]at ag;exact⟨ag,bo,rfl⟩
def VB(v:ak):Bool:=match v with
 | .p _ _=>true| _=>false
noncomputable def ag0:Option ak:=bN (qg iX (h9 iX 1000000) 33 [.s [97,32,60,45,32,60,120,58,32,34,112,34,32,97,32,47,32,34,34,62],.s [112,112]] ⟨.nil,0⟩) none λp=>bN (qg iX (h9 iX 1000000) 30 [p.1,.i .i64 0,.i .i64 0] p.2) none λq=>
 bN (qg iX (h9 iX 1000000) 34 [p.1,.i .i64 0,.i .i64 0,.s [109,97,116,99,104,32,50,10,120,32,48,32,50,10,120,32,49,32,50,10,120,32,50,32,50,10]] q.2) none λr=>bR (VB p.1) (some (.t [q.1,r.1])) none
def ag1:ag0=some (.t [.t [.i .i64 3,.i .i64 0],.b true]):=by kernel_rfl
noncomputable def ag2:Option ak:=bN (qg iX (h9 iX 1000000) 33 [.s [97,32,60,45,32,97],.s [120]] ⟨.nil,0⟩) none λp=>bN (qg iX (h9 iX 1000000) 34 [p.1,.i .i64 0,.i .i64 0,.s [110,111,110,101]] p.2) none λr=>some r.1
def ag3:ag2=some (.b true):=by kernel_rfl
def ag4:HY 1000000 35 [.s [38,34,112,34],.s [112,112],.i .i64 1,.s [109,97,116,99,104,32,49,10]]=some (.b true):=by kernel_rfl
def ag5:HY 1000000 35 [.s [33,46],.s [112,112],.i .i64 2,.s [109,97,116,99,104,32,50,10]]=some (.b true):=by kernel_rfl
def VC(b6:ix I mz):cR iX (λ_=>none) ⟨.nil,0⟩ I []:=⟨λid e a h a'=>(by cases a'),λid g4 e bn a bS h U a'=>(by cases a'),λid a h=>(by cases h),Uy b6⟩
def VD(b6:ix I mz):Spec Tryz.prog 9 [] I [] λr J lG=>r=.bool true/\(∀ b o,I b=some o->J b=some o)/\lG=[]:=by
 obtain⟨⟨v1,c8⟩,cc,dd⟩:=ck ag1;obtain⟨⟨v2,m2⟩,df,fx⟩:=ck dd;obtain⟨⟨ajk,Py⟩,ic,jy⟩:=ck fx;obtain⟨iZ,ky⟩:=fF jy;simp only[iJ,ak.t.injEq,uK,and_true]at ky;obtain⟨rfl,rfl⟩:=ky;obtain⟨⟨v4,D6⟩,bI,cx⟩:=ck ag3;obtain⟨⟨ajl,ajm⟩,dx,fm⟩:=ck cx;simp only[iJ]at fm;subst fm;simp only at df ic iZ dx;obtain⟨ag6,HZ,rfl⟩:∃ id off,v1=.p id off:=by
  unfold VB at iZ;split at iZ;·exact⟨_,_,rfl⟩
  ·cases iZ
 refine bX [] aV Tryz.func9 rfl rfl rfl ?_;intro B ao;refine bb.mk [] [] _ (.refl _) (reckon (Y:=iX) aV zd Bg ze cc (us:=[.string ⟨([97,32,60,45,32,60,120,58,32,34,112,34,32,97,32,47,32,34,34,62]:List UInt8).toArray⟩,.string ⟨([112,112]:List UInt8).toArray⟩]) (by simp[bx,aI]) (VC b6)) ?_;rintro v cL M1 cM⟨rb,-,xG,zQ⟩;rw[dF];simp only[aI]at xG;obtain⟨ad,b7,rfl⟩:=xG;refine fh.Vv aV rfl rfl ?_;refine a0.mk (λe=>by cases e) (λ_=>?_);have tv:aI rb (.p ag6 HZ) (.pointer (some ⟨ad.b,ad.o+HZ,none⟩)):=by simp only[aI];exact⟨ad,b7,rfl⟩
 refine bb.mk M1 [] _ (by rw[dF]) (reckon (Y:=iX) aV zd Bg ze df (us:=[.pointer (some ⟨ad.b,ad.o+HZ,none⟩),.int .i64 0,.int .i64 0]) (by simp[bx,aI,b7]) zQ) ?_;rintro v dP dr ht⟨Hr,ag7,vF,pT⟩;rw[dF];simp only[aI,bx]at vF;obtain⟨vs,⟨ajn,ajo,rfl,⟨ajp,ajq,rfl,rfl,rfl⟩,rfl⟩,rfl⟩:=vF;have ag8:=zQ.le ag7 _ _ b7;refine bb.mk dr [] _ (by rw[dF]) (reckon (Y:=iX) aV zd Bg ze ic (us:=[.pointer (some ⟨ad.b,ad.o+HZ,none⟩),.int .i64 0,.int .i64 0,.string ⟨([109,97,116,99,104,32,50,10,120,32,48,32,50,10,120,32,49,32,50,10,120,32,50,32,50,10]:List UInt8).toArray⟩]) (by simp[bx,aI,ag8]) pT) ?_;rintro v hL mc jJ⟨Bd,-,tf,ku⟩;rw[dF];simp only[aI]at tf;subst tf;have Bq:ix hL mz:=b6.mono λb o h=>jJ _ _ (ht _ _ (cM _ _ h));refine cB.mk (λ_=>?_) (λh=>ov rfl h);refine cB.mk (λ_=>?_) (λh=>ov rfl h);refine cB.mk (λ_=>?_) (λh=>ov rfl h);refine bb.mk [] mc _ (.refl _) (reckon (Y:=iX) aV zd Bg ze bI (us:=[.string ⟨([97,32,60,45,32,97]:List UInt8).toArray⟩,.string ⟨([120]:List UInt8).toArray⟩]) (by simp[bx,aI]) (VC Bq)) ?_;rintro ag9 mf nQ VE⟨MB,-,JF,zb⟩;refine bb.mk nQ mc _ (.refl _) (reckon (Y:=iX) aV zd Bg ze dx (us:=[ag9,.int .i64 0,.int .i64 0,.string ⟨([110,111,110,101]:List UInt8).toArray⟩]) (by simp[bx,aI,JF]) zb) ?_;rintro v yf mW VF⟨ajr,-,FX,ajs⟩;simp only[aI]at FX;subst FX;have VG:ix yf mz:=Bq.mono λb o h=>VF _ _ (VE _ _ h);refine cB.mk (λ_=>?_) (λh=>ov rfl h);refine bb.mk [] (mW++mc) _ (.refl _) (VA VG ag4 (us:=[.string ⟨([38,34,112,34]:List UInt8).toArray⟩,.string ⟨([112,112]:List UInt8).toArray⟩,.int .i64 1,.string ⟨([109,97,116,99,104,32,49,10]:List UInt8).toArray⟩]) (by simp[bx,aI])) ?_;rintro v FM Jv VH⟨rfl,-,rfl⟩;have aha:ix FM mz:=VG.mono VH;refine cB.mk (λ_=>?_) (λh=>ov rfl h);refine bb.mk [] (mW++mc) _ (.refl _) (VA aha ag5 (us:=[.string ⟨([33,46]:List UInt8).toArray⟩,.string ⟨([112,112]:List UInt8).toArray⟩,.int .i64 2,.string ⟨([109,97,116,99,104,32,50,10]:List UInt8).toArray⟩]) (by simp[bx,aI])) ?_;rintro v z3 z4 ahb⟨rfl,-,rfl⟩;exact⟨_,[],.sub (ho _) .refl,rfl,λb o h=>ahb _ _ (VH _ _ (VF _ _ (VE _ _ (jJ _ _ (ht _ _ (cM _ _ h)))))),rfl⟩
def ahc:wv I ⟨[],none,0,0,0⟩:=⟨⟨rfl,⟨cC _,bq _⟩,.inl rfl⟩,λd ah=>(by cases ah),⟨by show(-9223372036854775808:Int)<=0;omega,by show(0:Int)<=9223372036854775807;omega⟩⟩
section
section
end
section
end
end
def Ei.VI{g:dX}{s:ByteArray}{i j:Nat}{e:Int}(hi:i<g.n)(an:j<=s.size)(av:Ei g s i j o e):Bo (eu g s) (u4 g i) j o e:=by
 have HS:rq g.n s.size i j=true:=by simp only[rq,b3,e0];omega
 cases av with
 |no h aq he=>rw[HS]at h;cases h
 |is i2 hd g8 o3 _ _ h=>
  obtain rfl:i=i2:=by omega
  obtain rfl:j=hd:=by omega
  exact h
def ahd{g:dX}{s:ByteArray}(h:re I g s t T)(hm:po g)(zl:rp I t T)(gb:g.ds.length=g.n)(hB a:Int)(aL:∀ o e,Ei g s hB a o e->o.r7.length<=65536) :
  Spec Tryz.prog 13 [ptr t.bt,.int .i64 hB,.int .i64 a] I M0 λv I' M'=>(∀ b o,I b=some o->I' b=some o)/\M'=M0/\∃ (bS:Option Addr) (n c:Nat) (o:wD) (e:Int),Ei g s hB a o e/\v=.tuple #[Eg o (.slice bS n c),.int .i64 e]/\fb I' bS n c 3 0 (o.r7.flatMap h4.cells):=by
 refine Spec.xj (Spec.frame (Spec.mE (agP h hm zl gb hB a))) ?_;rintro v J M⟨M',rfl,-,dm,rfl,-,I',M1,⟨rfl,os,o,e,aq,rfl,ep,rfl⟩,cr⟩;exact⟨dm,rfl,os.a.map λg=>⟨g,0,none⟩,os.n,os.c,o,e,aq,rfl,bk.agR cr ep (λ_ h=>h) (by omega)⟩
def Bo.r7{P:da}{k a:Nat}{e:Int}(h:Bo P k a o e):o.r7.length<=65536:=by
 cases h with
 |none h aq he=>rw[aq];exact bq _| fail h aq he=>rw[aq];exact bq _| many h ax aq he=>rw[aq];exact bq _| is h ax he bf lj ar=>omega
def ahe(w:bw)(ax:n<256)(h:w.has n=true):((([((w.a.toNat:Nat):Int),((w.b.toNat:Nat):Int),((w.c.toNat:Nat):Int),((w.d.toNat:Nat):Int)].getD (n/64) 0).toNat).testBit (n%64))=true:=by
 unfold bw.has at h;rw[BitVec.getLsbD]at h;have aR:n/64=0\/n/64=1\/n/64=2\/n/64=3:=by omega
 rcases aR with e | e | e | e<;>rw[e]at h |-<;>exact h
def ahf(w:bw):∀ x∈[((w.a.toNat:Nat):Int),((w.b.toNat:Nat):Int),((w.c.toNat:Nat):Int),((w.d.toNat:Nat):Int)],eh x:=λx ab=>by
 simp only[eg,Jf,or_false]at ab;have U:=w.a.isLt;have aa:=w.b.isLt;have af:=w.c.isLt;have aR:=w.d.isLt;unfold eh;rcases ab with rfl | rfl | rfl | rfl<;>omega
def ahg{s:ByteArray}{x:aZ×a7}{P:da}{k a:Nat}(ap:P.s=s)(aC:a<=s.size)(h:pG s x a (b8 P k a))(av:Bo P k a o 0) :
  (o.ok=false/\x.1.f=true)\/(o.ok=true/\o.aP=a/\x.1.z=true/\x.2.f=true)\/(o.ok=true/\a<o.aP/\x.1.s=true/\∃ h:a<s.size,x.2.w.has (s[a]'h).toNat=true):=by
 cases av with
 |none U aq he=>cases he| fail U aq he=>exact .inl ⟨by rw[aq];rfl,h.f U⟩| many U ax aq he=>cases he
 |is U ax he bf lj ar=>
  have c1:=((tq P k a).ge U).1;by_cases e:(b8 P k a).aP=a;·exact .inr (.inl ⟨bf,lj.trans e,h.z U e⟩)
  ·exact .inr (.inr ⟨bf,by omega,h.s U e⟩)
def ahh(b6:ix I mz){g:dX}(vj:tg I g){s:ByteArray}(ap:s.size<=9223372036854775807):uh Tryz.prog 3 [g.val,.string s] I [] λv _ _=>v=.bool true:=by
 refine BM [] aV Tryz.func3 rfl rfl rfl ?_;intro B ao;refine bb.mk [] [] _ (.refl _) (agU vj (ahc (I:=I)) s) ?_;rintro v ahi N -⟨⟨ahj,rfl,pU⟩,EN,fD⟩;subst ahi;subst N;cases ahj with
 |true=>refine cB.mk (λh=>absurd h (by simp)) (λ_=>?_);refine bb.mk [] [] _ (.refl _) (VD b6) ?_;rintro v HH N -⟨rfl,zm,rfl⟩;exact⟨_,_,.refl,rfl⟩
 |false=>
 obtain⟨qy,-,HX⟩:=pU rfl;have aA:=vj.Ek qy;have gb:=aA.n;have yh:=qy.n;have VJ:∀ d∈g.ds,HB d.t:=λd ah n ax=>by have:=((qy.ds d ah).t.ns n ax).kn;omega
 refine cB.mk (λ_=>?_) (λh=>absurd h (by simp));refine bb.mk [] [] _ (.refl _) (VD b6) ?_;rintro v ajt N -⟨rfl,VK,rfl⟩;have ye:=b6.mono VK;have kj:=aA.mono VK;refine a0.mk (λh=>by cases h) (λ_=>?_);refine bb.mk [] [] _ (.refl _) (af5 ye kj (by omega) s) ?_;rintro v xm N -⟨zh,rfl,ahk⟩;have ms:=ye.mono zh;have jj:=kj.mono zh;have bad:∀ e:Int,e≠0->(!decide (e=0))=true:=λe he=>by rw[ea he];rfl
 have VL:∀ z:Int,decide (z=z)=true:=λz=>iQ rfl;rcases ahk with⟨bB,rfl⟩ | ⟨-,ahl,rfl⟩ | ⟨rn,ahm,t,T,rfl,ahn⟩
 ·refine bb.mk [] [] _ (.refl _) (Kg ms jj) ?_;rintro v HH N -⟨zm,Nn⟩;have Bq:=ms.mono zm;have ml:=jj.mono zm;rcases Nn with⟨-,rfl,rfl⟩ | ⟨rn,-⟩
  rotate_left
  ·exact absurd rn bB
  refine bb.whole _ (U3 Bq ml VJ) ?_;rintro v VM N -⟨VN,No⟩;rcases No with⟨-,rfl,rfl⟩ | ⟨rn,-⟩
  rotate_left
  ·exact absurd rn bB
  refine a0.mk (λ_=>?_) (λh=>ov (bad _ bB) h);refine cB.mk (λ_=>?_) (λh=>ov (VL _) h);refine⟨_,_,.refl,?_⟩;show Value.bool (decide (g1 mz g=g1 mz g))=_;rw[VL]
 ·exact absurd ahl (by omega)
 refine bb.mk [] [] _ (.refl _) (Kg ms jj) ?_;rintro v HH N -⟨zm,Nn⟩;have Bq:=ms.mono zm;have ml:=jj.mono zm;rcases Nn with⟨bB,-⟩ | ⟨-,e8,F,rfl,rfl,cr⟩
 ·exact absurd rn bB
 refine bb.whole _ (Spec.frame (U3 Bq ml VJ)) ?_;rintro v VM N -⟨agQ,rfl,-,-,VN,No⟩;rcases No with⟨bB,-⟩ | ⟨-,dE,ox,W,EF,fY,rfl,rfl⟩
 ·exact absurd rn bB
 obtain rfl:=cr.unique EF;have hm:po g:=QX rn λd ah=>(aA.ds d ah).t.n;have d':=(Kc gb rn).named;have fI:∀ d∈g.ds,∀ n∈d.t.ns,0<=n.k:=λd ah n ax=>((aA.ds d ah).t.ns n ax).k.1;have aju:F.length=g.n:=cr.len.trans gb;have ajv:W.length=g.n:=fY.len.trans gb;have VO:=λi hi a=>afM aA hm d' (s:=s) cr fY i hi a;have aho:=(ahn.mono zm).mono VN;refine a0.mk (λh=>ow rfl h) (λ_=>?_);refine cB.mk (λ_=>?_) (λh=>ow rfl h);refine a0.mk (λh=>ow rfl h) (λ_=>?_);refine dB.inv (ι:=Nat×aS) (λx=>{ bj:=[(1,.val (.string s)),(2,.ref 2 0),(5,.val (ptr t.bt)),(7,.val (.slice (some ⟨e8,0,none⟩) g.n g.n)),(9,.val (.slice (some ⟨ox,0,none⟩) g.n g.n)),(11,.val (.int .i64 x.1))],cl:=[(2,[.slice g.a g.n g.c])],c5:=x.2,dv:=[g5 ox W,ee e8 F] }) (λx=>x.1<=g.n/\re x.2 g s t T) (λx=>g.n-x.1) ?_ ?_
 ·exact⟨(0,VM),⟨bq _,aho⟩,.refl,nF,.cons rfl (.nil)⟩
 rintro⟨i,J⟩⟨hi,dm⟩;simp only at hi dm;refine a0.mk (λe=>?_) (λe=>?_)
 rotate_left
 ·exact⟨_,_,.refl,rfl⟩
 have aK:i<g.n:=by have aa:decide ((i:Int)<(g.n:Int))=true:=e;have:=du aa;omega
 have VP:i<F.length:=by omega
 have VQ:i<W.length:=by omega
 have gx:=VO i (by omega);have ahp:F.getD i bY=F[i]:=by rw[dh,g0 VP];rfl
 have ahq:W.getD i cQ=W[i]:=by rw[dh,g0 VQ];rfl
 rw[ahp,ahq]at gx;have H0:∀ K,ca K [g5 ox W,ee e8 F] ((⟨e8,0,none⟩:Addr).add (i*3)) 3 F[i].cells:=λK=>wA (.tail _ (.head _)) VP;have Np:∀ K,ca K [g5 ox W,ee e8 F] ((⟨ox,0,none⟩:Addr).add (i*5)) 5 W[i].cells:=λK=>Bi (.head _) VQ;generalize F[i]=DE at gx H0;generalize W[i]=sp at gx Np;refine dB.inv (ι:=Nat×aS) (λx=>{ bj:=[(1,.val (.string s)),(2,.ref 2 0),(5,.val (ptr t.bt)),(7,.val (.slice (some ⟨e8,0,none⟩) g.n g.n)),(9,.val (.slice (some ⟨ox,0,none⟩) g.n g.n)),(11,.val (.int .i64 i)),(12,.val (.int .i64 x.1))],cl:=[(2,[.slice g.a g.n g.c])],c5:=x.2,dv:=[g5 ox W,ee e8 F] }) (λx=>x.1<=s.size+1/\re x.2 g s t T) (λx=>s.size+1-x.1) ?_ ?_
 ·exact⟨(0,J),⟨bq _,dm⟩,.refl,im,.cons rfl (.nil)⟩
 rintro⟨j,K⟩⟨an,e9⟩;simp only at an e9;refine a0.mk (λaB=>?_) (λaB=>?_)
 rotate_left
 ·refine a5.mk _ (cm (i:=i) (by omega)) ?_;exact⟨(i+1,K),⟨⟨by omega,e9⟩,by simp only;omega⟩,.refl,nF,.cons rfl (.nil)⟩
 have Nq:j<=s.size:=by have aa:(j:Int)<=(s.size:Int):=du aB;omega
 have zl:=e9.agJ hm fI ahm;refine bb.whole _ (ahd e9 hm zl gb (i:Int) (j:Int) λo e h=>(h.VI aK Nq).r7) ?_;rintro v pH N -⟨ahr,rfl,cc,hs,eE,o,aw,fV,rfl,ahs⟩;have av:=fV.VI aK Nq;have H2:=e9.mono ahr;by_cases he:aw=0
 rotate_left
 ·refine a0.mk (λ_=>?_) (λh=>ov (bad _ he) h);refine a5.mk _ (cm (i:=j) (by omega)) ?_;exact⟨(j+1,pH),⟨⟨by omega,H2⟩,by simp only;omega⟩,.refl,im,.cons rfl (.nil)⟩
 subst he;refine a0.mk (λh=>ow rfl h) (λ_=>?_);have jd:=ahg (s:=s) rfl Nq (gx j) av;clear gx fV av VO ahs;obtain⟨ok,aP,r7⟩:=o;simp only at jd;refine cW.draw aV rfl rfl rfl ?_;rcases jd with⟨rfl,az⟩ | ⟨rfl,rfl,bg,rD⟩ | ⟨rfl,lj,El,yH,ai⟩
 ·have gC:ca pH [g5 ox W,ee e8 F] (((⟨e8,0,none⟩:Addr).add (i*3)).add 2) 1 [.bool true]:=by have:=(H0 pH).part (k:=2) (m:=1) (by decide);rw[<-az];exact this
  refine cB.mk (λ_=>?_) (λh=>ov rfl h);refine bc.mk _ i rfl rfl aK ?_;refine aF.mk _ gC ?_;refine cB.mk (λ_=>?_) (λh=>ow rfl h);refine cB.mk (λh=>ow rfl h) (λ_=>?_);refine cB.mk (λh=>ow rfl h) (λ_=>?_);refine a5.mk _ (cm (i:=j) (by omega)) ?_;exact⟨(j+1,pH),⟨⟨by omega,H2⟩,by simp only;omega⟩,.refl,im,.cons rfl (.nil)⟩
 ·have gC:ca pH [g5 ox W,ee e8 F] (((⟨e8,0,none⟩:Addr).add (i*3)).add 0) 1 [.bool true]:=by have:=(H0 pH).part (k:=0) (m:=1) (by decide);rw[<-bg];exact this
  have eG:ca pH [g5 ox W,ee e8 F] (((⟨ox,0,none⟩:Addr).add (i*5)).add 4) 1 [.bool true]:=by have:=(Np pH).part (k:=4) (m:=1) (by decide);rw[<-rD];exact this
  refine cB.mk (λh=>ow rfl h) (λ_=>?_);refine cB.mk (λ_=>?_) (λh=>ov rfl h);refine cB.mk (λ_=>?_) (λh=>ov (iQ rfl) h);refine bc.mk _ i rfl rfl aK ?_;refine aF.mk _ gC ?_;refine cB.mk (λ_=>?_) (λh=>ow rfl h);refine bc.mk _ i rfl rfl aK ?_;refine aF.mk _ eG ?_;refine cB.mk (λ_=>?_) (λh=>ow rfl h);refine cB.mk (λ_=>?_) (λh=>ov rfl h);refine cB.mk (λh=>ow (ea (Int.lt_irrefl _)) h) (λ_=>?_);refine a5.mk _ (cm (i:=aP) (by omega)) ?_;exact⟨(aP+1,pH),⟨⟨by omega,H2⟩,by simp only;omega⟩,.refl,im,.cons rfl (.nil)⟩
 ·have gC:ca pH [g5 ox W,ee e8 F] (((⟨e8,0,none⟩:Addr).add (i*3)).add 1) 1 [.bool true]:=by have:=(H0 pH).part (k:=1) (m:=1) (by decide);rw[<-El];exact this
  have eG:ca pH [g5 ox W,ee e8 F] (((⟨ox,0,none⟩:Addr).add (i*5)).add 0) 4 sp.w.cells:=(Np pH).part (k:=0) (m:=4) (by decide);have D1:=ahe sp.w (s[j]'yH).toNat_lt ai;have b0:=Ry (I:=pH) (M:=[g5 ox W,ee e8 F]) (a:=((sp.w.a.toNat:Nat):Int)) (b:=((sp.w.b.toNat:Nat):Int)) (c:=((sp.w.c.toNat:Nat):Int)) (d:=((sp.w.d.toNat:Nat):Int)) (ahf sp.w) (s[j]'yH);rw[D1]at b0;have bB:decide (((aP:Nat):Int)=((j:Nat):Int))=false:=ea (by omega);have aht:decide (((j:Nat):Int)<((aP:Nat):Int))=true:=iQ (by omega);refine cB.mk (λh=>ow rfl h) (λ_=>?_);refine cB.mk (λ_=>?_) (λh=>ov rfl h);refine cB.mk (λh=>ow bB h) (λ_=>?_);refine cB.mk (λ_=>?_) (λh=>ov rfl h);refine cB.mk (λ_=>?_) (λh=>ov aht h);refine bc.mk _ i rfl rfl aK ?_;refine aF.mk _ gC ?_;refine cB.mk (λ_=>?_) (λh=>ow rfl h);refine bc.mk _ i rfl rfl aK ?_;refine aF.mk _ eG ?_;refine oC.mk j rfl yH ?_;refine bb.whole _ b0 ?_;rintro v ahu N -⟨rfl,rfl,rfl⟩;refine a0.mk (λh=>ow rfl h) (λ_=>?_);refine a5.mk _ (cm (i:=j) (by omega)) ?_;exact⟨(j+1,ahu),⟨⟨by omega,H2⟩,by simp only;omega⟩,.refl,im,.cons rfl (.nil)⟩
end Go.V
