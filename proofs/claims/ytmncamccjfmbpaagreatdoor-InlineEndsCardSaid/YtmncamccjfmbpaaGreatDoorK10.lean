/- Part 10 of what the proofs of this seat share: the executor, data in memory, walks.
-/
import Derived.Test.YtmncamccjfmbpaaGreatDoorK7
import Derived.Test.YtmncamccjfmbpaaGreatDoorK4
import Derived.Test.YtmncamccjfmbpaaGreatDoorK9
set_option linter.all false
set_option maxHeartbeats 16000000
set_option maxRecDepth 100000
namespace Go.V
open Go Go.Proofs
def Ox:=@Nat.zero_lt_one
def afF:=@Int.tdiv_eq_ediv_of_nonneg
variable{I:aM}{g h:cD}{α:Type}{M0:List aE}{n b afG u q:Nat}{c T H S X:aD}{s:List UInt8}{t bo:bP}{al p:List Int}{cs:List ig}{cM e:Int}{F:List aW}{ks:List aD}{ns:List ap}{L:List (List Int)}
structure afH(g:cD)(x:Nat×Nat):Prop where
 k:x.2<=g.n
 n:x.1<=2000
 small:x.1<200->x.2<=x.1/\∀ i (h:i<g.ds.length),i<x.2->TG g.ds[i]
structure aud(g:cD)(t:bP)(k:Nat)(x:Nat×Nat):Prop where
 j:x.2<=t.n
 n:x.1<=2000
 small:x.1<200->t.n<200/\k+1<=x.1/\(∀ i (h:i<g.ds.length),i<k->TG g.ds[i])/\(∀ h:k<g.ds.length,g.ds[k].name.size<8020)/\∀ i (h:i<t.ns.length),i<x.2->TF t.ns[i]
def aue(av:s3 I g) :
  Spec Tryz.prog 26 [g.val] I [] λv I' M'=>(∃ r,v=.bool r/\(r=false->Nn g))/\I'=I/\M'=[]:=by
 refine cg [] a7 Tryz.func26 rfl rfl rfl ?_;intro B az;have fl:=av.n;refine dg.inv (ι:=Nat×Nat) (λx=>{ bj:=[(1,.ref 1 0),(3,.val (.int .i64 x.1)),(4,.val (.int .i64 x.2))],cl:=[(1,[.slice g.a g.n g.c])],cI:=I }) (λx=>afH g x/\0<=x.1) (λx=>g.n-x.2) ?_ ?_
 ·exact⟨(0,0),⟨⟨dw _,dw _,λ_=>⟨dw _,λi _ h=>by simp at h⟩⟩,b2 _⟩,.refl,ht,.cons rfl (.nil)⟩
 rintro⟨m,k⟩⟨⟨ae,hm,Oy⟩,cJ⟩;simp only at ae hm Oy cJ;have fin:(m<200->k=g.n)->∀ c,c=decide ((200:Int)<=(m:Int))->(c=false->Nn g):=λaa c an afI=>by
  rw[an]at afI;have Jc:m<200:=by have:=eu afI;omega
  obtain⟨s1,s2⟩:=Oy Jc;have aj:=aa Jc;refine⟨by omega,λd ak=>?_⟩;obtain⟨y,aH,rfl⟩:=jv ak;exact s2 y aH (by omega)
 refine cj.mk (λaj=>a3.mk (λaG=>?_) (λaG=>?_)) (λaj=>?_)
 ·have cv:k<g.n:=by simpa using aj
  have mE:m<200:=by have:=dB aG;omega
  obtain⟨s1,s2⟩:=Oy mE;have mD:k<g.ds.length:=by omega
  obtain⟨aU,bK,bm⟩:=av.a2.row aP.cT cv mD;have ak:=av.ds _ (bi mD);have h7:=ak.name;have h6:=ak.t;have auf:=h6.n;have hO:∀ M,cO I M ((aU.add (k*3)).add 0) 1 [.string g.ds[k].name]:=λM=>(bm M).part (k:=0) (m:=1) (by decide);have nx:∀ M,cO I M ((aU.add (k*3)).add 1) 2 g.ds[k].t.cells:=λM=>(bm M).part (k:=1) (m:=2) (by decide);have Le:∀ (q:Nat),q<8020->g.ds[k].name.size=q->∀ h:k<g.ds.length,g.ds[k].name.size<8020:=λq aN e h=>by rw[e];exact aN
  generalize hs:g.ds[k].name=nm at h7 hO Le;generalize aug:g.ds[k].t=u at h6 auf nx;refine bf.mk aU k bK rfl cv ?_;refine aR.mk _ (nx _) ?_;refine c4.draw a7 rfl rfl rfl ?_;refine bg.mk ((m+5:Nat):Int) (vp (by omega) (by omega)) ?_;refine bg.mk ((m+5+min 200 u.n:Nat):Int) (vp (by omega) (by omega)) ?_;refine bf.mk aU k bK rfl cv ?_;refine aR.mk _ (hO _) ?_;refine DW.mk (by decide) ?_;refine bg.mk ((nm.size/20:Nat):Int) (vp (by rw[afF (by omega)];omega) (by omega)) ?_;refine bg.mk ((m+5+min 200 u.n+min 200 (nm.size/20):Nat):Int) (vp (by omega) (by omega)) ?_;refine dg.inv (ι:=Nat×Nat) (λx=>{ bj:=[(1,.ref 1 0),(3,.val (.int .i64 x.1)),(4,.val (.int .i64 k)),(5,.ref 5 0),(6,.val (.int .i64 x.2))],cl:=[(1,[.slice g.a g.n g.c]),(5,u.cells)],cI:=I }) (λx=>aud g u k x/\0<=x.1) (λx=>u.n-x.2) ?_ ?_;·exact⟨(_,0),⟨⟨dw _,by simp only;omega,λh=>by simp only at h;exact⟨by omega,by simp only;omega,s2,λh=>Le nm.size (by omega) rfl h,λi _ h=>by simp at h⟩⟩,by simp only;omega⟩,.refl,hv,.cons rfl (.cons rfl (.nil))⟩
  rintro⟨p,q⟩⟨⟨aN,aB,Vf⟩,I6⟩;simp only at aN aB I6 Vf;have out:(p<200->q=u.n)->afH g (p,k+1):=λaa=>by
   refine⟨by simp only;omega,aB,λab=>?_⟩;simp only at ab;obtain⟨w7,si,AI,Vg,Vh⟩:=Vf ab;have ax6:=aa ab;refine⟨si,λi hi iW=>?_⟩;by_cases e:i=k
   ·subst e;refine⟨Vg hi,?_⟩;rw[aug];exact⟨by omega,λca bH=>by
     obtain⟨y,aH,rfl⟩:=jv bH;exact Vh y aH (by omega)⟩
   ·exact AI i hi (by simp only at iW;omega)
  refine cj.mk (λbx=>a3.mk (λbZ=>?_) (λbZ=>?_)) (λbx=>?_)
  ·have eb:q<u.n:=by simpa using bx
   have lU:p<200:=by have:=dB bZ;omega
   obtain⟨w7,si,AI,Vg,Vh⟩:=Vf lU;have pd:q<u.ns.length:=by omega
   obtain⟨H',afJ,nF⟩:=h6.a2.row ap.cT eb pd;have bH:=h6.ns _ (bi pd);have dT:=bH.fT;have q1:∀ M,cO I M ((H'.add (q*9)).add 8) 1 [.slice u.ns[q].dE u.ns[q].aO u.ns[q].du]:=λM=>(nF M).part (k:=8) (m:=1) (by decide);have Aa:∀ M,cO I M ((H'.add (q*9)).add 5) 1 [.string u.ns[q].t]:=λM=>(nF M).part (k:=5) (m:=1) (by decide);generalize auh:u.ns[q]=ca at bH dT q1 Aa;refine c4.draw a7 rfl rfl rfl ?_;refine bf.mk H' q afJ rfl eb ?_;refine aR.mk _ (q1 _) ?_;refine bg.mk ((p+min 200 ca.aO:Nat):Int) (vp (by omega) (by omega)) ?_;refine bf.mk H' q afJ rfl eb ?_;refine aR.mk _ (Aa _) ?_;refine DW.mk (by decide) ?_;refine bg.mk ((ca.t.size/20:Nat):Int) (vp (by rw[afF (by omega)];omega) (by omega)) ?_;refine bg.mk ((p+min 200 ca.aO+min 200 (ca.t.size/20):Nat):Int) (vp (by omega) (by omega)) ?_;refine bg.mk _ (cL (i:=q) (by omega)) ?_;refine⟨(_,q+1),⟨⟨⟨by simp only;omega,by simp only;omega,λek=>?_⟩,by simp only;omega⟩,by simp only;omega⟩,.refl,hv,.cons rfl (.cons rfl (.nil))⟩;simp only at ek |-;refine⟨w7,by omega,AI,Vg,λi hi iW=>?_⟩;by_cases e:i=q;·subst e;rw[auh];exact⟨by omega,by omega⟩
   ·exact Vh i hi (by omega)
  ·have lU:200<=p:=by have:=eu bZ;omega
   refine bg.mk _ (cL (i:=k) (by omega)) ?_;exact⟨(p,k+1),⟨⟨out λh=>by omega,I6⟩,by simp only;omega⟩,.refl,ht,.cons rfl (.nil)⟩
  ·have eb:u.n<=q:=by simpa using bx
   refine bg.mk _ (cL (i:=k) (by omega)) ?_;exact⟨(p,k+1),⟨⟨out λh=>by omega,I6⟩,by simp only;omega⟩,.refl,ht,.cons rfl (.nil)⟩
 ·have mE:200<=m:=by have:=eu aG;omega
  exact⟨_,_,.refl,⟨_,rfl,fin (λh=>by omega) _ rfl⟩,rfl,rfl⟩
 ·have XP:g.n<=k:=by simpa using aj
  exact⟨_,_,.refl,⟨_,rfl,fin (λh=>by omega) _ rfl⟩,rfl,rfl⟩
section
end
section
end
section
end
def aui(g:cD):gi g.a0=gi g:=by
 have aA:∀ (nm:ByteArray) (ds:List aP) (i:Nat),cr nm (ds.map aP.a0) i=cr nm ds i:=λnm ds=>by
  induction ds with
  |nil=>intro i;rfl| cons d ds aF=>intro i;rw[bX,cr,cr,aF];rfl
 have h7:∀ d:aP,hY d.a0.t.ns=hY d.t.ns:=λd=>by show hY (d.t.ns.map ap.a0)=_;unfold hY;rw[List.filter_map,gh];rfl
 unfold gi;show(g.ds.map aP.a0).map _=_;rw[gh];refine fO λd _=>?_;show lN true 0 (ph (g.ds.map aP.a0) g.n (hY d.a0.t.ns))=lN true 0 (ph g.ds g.n (hY d.t.ns));rw[h7];unfold ph;congr 1;congr 1;funext s nm;rw[aA]
def auj{l m:List α}{k:Nat}(ay:k<l.length)(hm:k<m.length)(h:l.take k=m.take k)(e:l[k]=m[k]):l.take (k+1)=m.take (k+1):=by rw[gy ay,gy hm,h,e]
def auk{l m:List α}{k:Nat}(ay:k<l.length)(hm:k<m.length)(e:¬ l[k]=m[k]):¬ l=m:=λh=>by subst h;exact e rfl
def aul{a bO:Option Addr}{h2 c c' iV:Nat}{l eB:List Int}(h:dh I a n c 1 b (l.map (.int .i64 ·)))(bc:dh I bO h2 c' 1 iV (eB.map (.int .i64 ·)))(ag:n<=140737488355327):Spec Tryz.prog 136 [.slice a n c,.slice bO h2 c'] I M0 λv I' M'=>v=.bool (decide (l=eB))/\I'=I/\M'=M0:=by
 refine cg [] a7 Tryz.func136 rfl rfl rfl ?_;intro B az;have ay:l.length=n:=by simpa using h.len
 have oh:eB.length=h2:=by simpa using bc.len
 by_cases aC:n=h2
 rotate_left
 ·refine a3.mk (λ_=>?_) (λh=>absurd h (by simp;omega));exact⟨_,_,.refl,by rw[dU λe=>aC (by rw[<-ay,<-oh,e])],rfl,rfl⟩
 subst aC;refine a3.mk (λh=>absurd h (by simp)) (λ_=>?_);refine dg.inv (ι:=Nat) (λk=>{ bj:=[(0,.val (.slice a n c)),(1,.val (.slice bO n c')),(12,.val (.int .i64 n)),(13,.val (.int .i64 k))],cI:=I,de:=M0 }) (λk=>k<=n/\l.take k=eB.take k) (λk=>n-k) ?_ ?_
 ·exact⟨0,⟨dw _,rfl⟩,.refl,ej,.nil⟩
 rintro k⟨ae,ax⟩;refine a3.mk (λab=>?_) (λab=>?_)
 ·have a1:k<n:=by have:(k:Int)<(n:Int):=dB ab;omega
  have cv:k<l.length:=by omega
  have mD:k<eB.length:=by omega
  obtain⟨aU,bK,bm⟩:=h.one a1 cv;obtain⟨zz,Di,pD⟩:=bc.one a1 mD;have hex:=auj cv mD ax;have bs:=auk cv mD;generalize l[k]=x at bm hex bs;generalize eB[k]=y at pD hex bs;refine c4.draw a7 rfl rfl rfl ?_;refine bf.mk aU k bK rfl a1 ?_;refine aR.mk _ (bm _) ?_;refine bf.mk zz k Di rfl a1 ?_;refine aR.mk _ (pD _) ?_;by_cases e:x=y;·refine a3.mk (λh=>absurd h (by simp[e])) (λ_=>?_);refine bg.mk _ (cL (i:=k) (by omega)) ?_;exact⟨k+1,⟨⟨a1,hex e⟩,by omega⟩,.refl,ej,.nil⟩
  ·refine a3.mk (λ_=>?_) (λh=>absurd h (by simp[e]));exact⟨_,_,.refl,by rw[dU (bs e)],rfl,rfl⟩
 ·have cJ:k=n:=by have:¬ (k:Int)<(n:Int):=eu ab;omega
  subst cJ;rw[fN (by omega),fN (by omega)]at ax;exact⟨_,_,.refl,by rw[eV ax],rfl,rfl⟩
def uF(x y:ap):Bool:=decide (x.k=y.k)&&((decide (x.cC=y.cC)&&(decide (x.s1=y.s1)&&(decide (x.s2=y.s2)&&decide (x.c0=y.c0))))&&(decide (x.t=y.t)&&(decide (x.lo=y.lo)&&(decide (x.hi=y.hi)&&decide (x.aw=y.aw)))))
def afK(x y:ap):uF x y=true ↔ x.k=y.k/\(x.cC=y.cC/\x.s1=y.s1/\x.s2=y.s2/\x.c0=y.c0)/\x.t=y.t/\x.lo=y.lo/\x.hi=y.hi/\x.aw=y.aw:=by simp only[uF,cz,hq]
def aum{x y:ap}(ad:x.ok I)(aH:y.ok I):Spec Tryz.prog 82 [x.val,y.val] I M0 λv I' M'=>v=.bool (uF x y)/\I'=I/\M'=M0:=by
 refine cg [] a7 Tryz.func82 rfl rfl rfl ?_;intro B az;have aun:x.aO<=x.du/\x.aO*8<=140737488355328:=ad.a2.cap;have mT:=ad.a2;have afL:=aH.a2;obtain⟨k,cC,s1,s2,c0,t,lo,hi,dE,aO,du,aw⟩:=x;obtain⟨e9,Oz,OA,OB,OC,bo,AB,cZ,afM,afN,afO,Vi⟩:=y;simp only at mT afL aun;have no:∀ {P:Prop},(P->¬ (k=e9/\((cC=Oz/\s1=OA/\s2=OB/\c0=OC)/\t=bo/\lo=AB/\hi=cZ/\aw=Vi)))->P->Value.bool false=.bool (uF ⟨k,cC,s1,s2,c0,t,lo,hi,dE,aO,du,aw⟩ ⟨e9,Oz,OA,OB,OC,bo,AB,cZ,afM,afN,afO,Vi⟩):=λh p=>by
  cases ag:uF ⟨k,cC,s1,s2,c0,t,lo,hi,dE,aO,du,aw⟩ ⟨e9,Oz,OA,OB,OC,bo,AB,cZ,afM,afN,afO,Vi⟩with
  |false=>rfl| true=>exact absurd ((afK _ _).1 ag) (h p)
 by_cases a8:k=e9
 rotate_left
 ·refine cj.mk (λbc=>absurd bc (by simp[a8])) (λ_=>?_);exact⟨_,_,.refl,no (λh ab=>h ab.1) a8,rfl,rfl⟩
 refine cj.mk (λ_=>?_) (λbc=>absurd bc (by simp[a8]));refine gB.PE a7 (e:=62) rfl rfl rfl rfl (by kernel_rfl) ?_;by_cases ba:cC=Oz/\s1=OA/\s2=OB/\c0=OC
 rotate_left
 ·refine cj.mk (λbc=>absurd bc (by simpa using ba)) (λ_=>?_);exact⟨_,_,.refl,no (λh ab=>h ab.2.1) ba,rfl,rfl⟩
 refine cj.mk (λ_=>?_) (λbc=>absurd bc (by simp[ba]));by_cases bR:t=bo
 rotate_left
 ·refine cj.mk (λbc=>absurd bc (by simp[bR])) (λ_=>?_);exact⟨_,_,.refl,no (λh ab=>h ab.2.2.1) bR,rfl,rfl⟩
 refine cj.mk (λ_=>?_) (λbc=>absurd bc (by simp[bR]));by_cases fq:lo=AB
 rotate_left
 ·refine cj.mk (λbc=>absurd bc (by simp[fq])) (λ_=>?_);exact⟨_,_,.refl,no (λh ab=>h ab.2.2.2.1) fq,rfl,rfl⟩
 refine cj.mk (λ_=>?_) (λbc=>absurd bc (by simp[fq]));by_cases k9:hi=cZ
 rotate_left
 ·refine cj.mk (λbc=>absurd bc (by simp[k9])) (λ_=>?_);exact⟨_,_,.refl,no (λh ab=>h ab.2.2.2.2.1) k9,rfl,rfl⟩
 refine cj.mk (λ_=>?_) (λbc=>absurd bc (by simp[k9]));refine bd.whole _ (aul mT afL (show aO<=_ by omega)) ?_;rintro v J N -⟨rfl,bl,hC⟩;subst J;subst N;refine⟨_,_,.refl,?_,rfl,rfl⟩;obtain⟨dJ,eO,eJ,iN⟩:=ba;congr 1;rw[sC,afK,M6];exact⟨λh=>⟨a8,⟨dJ,eO,eJ,iN⟩,bR,fq,k9,h⟩,λh=>h.2.2.2.2.2⟩
def k1{α:Type}(q:α->α->Bool):List α->List α->Bool
 |[],[]=>true| a::l,b::m=>q a b&&k1 q l m| _,_=>false
def afP:∀ l m:List ap,k1 uF (l.map ap.a0) (m.map ap.a0)=k1 uF l m
 |[],[]=>rfl| [],_::_=>rfl| _::_,[]=>rfl| a::l,b::m=>by rw[bX,bX,k1,k1,afP l m];rfl
def Vj{α:Type}(q:α->α->Bool):∀ l m:List α,l.length≠m.length->k1 q l m=false
 |[],[],h=>absurd rfl h| [],_::_,_=>rfl| _::_,[],_=>rfl| a::l,b::m,h=>by rw[k1,Vj q l m (by simpa using h),Ez]
def auo{s:bP}(au:s.ok I)(ax:t.ok I):Spec Tryz.prog 80 [.slice s.a s.n s.c,.slice t.a t.n t.c,.func (.func 82) #[] #[]] I M0 λv I' M'=>v=.bool (k1 uF s.ns t.ns)/\I'=I/\M'=M0:=by
 refine cg [] a7 Tryz.func80 rfl rfl rfl ?_;intro B az;have ja:=au.n;have hK:=ax.n;have jJ:=au.a2.cap;by_cases aC:s.n=t.n
 rotate_left
 ·refine a3.mk (λ_=>?_) (λh=>absurd h (by simp;omega));exact⟨_,_,.refl,by rw[Vj _ _ _ (by omega)],rfl,rfl⟩
 refine a3.mk (λh=>absurd h (by simp[aC])) (λ_=>?_);refine dg.inv (ι:=Nat) (λk=>{ bj:=[(1,.val (.slice t.a t.n t.c)),(2,.val (.func (.func 82) #[] #[])),(15,.val (.slice s.a s.n s.c)),(16,.val (.int .i64 s.n)),(17,.val (.int .i64 k))],cI:=I,de:=M0 }) (λk=>k<=s.n/\k1 uF s.ns t.ns=k1 uF (s.ns.drop k) (t.ns.drop k)) (λk=>s.n-k) ?_ ?_
 ·exact⟨0,⟨dw _,rfl⟩,.refl,hv,.nil⟩
 rintro k⟨ae,he⟩;refine a3.mk (λab=>?_) (λab=>?_)
 ·have a1:k<s.n:=by have:(k:Int)<(s.n:Int):=dB ab;omega
  have cv:k<s.ns.length:=by omega
  have mD:k<t.ns.length:=by omega
  obtain⟨aU,bK,bm⟩:=au.a2.row ap.cT a1 cv;obtain⟨zz,Di,pD⟩:=ax.a2.row ap.cT (show k<t.n by omega) mD;have ad:=au.ns _ (bi cv);have aH:=ax.ns _ (bi mD);rw[e1 cv,e1 mD,k1]at he;generalize s.ns[k]=x at bm ad he;generalize t.ns[k]=y at pD aH he;refine bf.mk aU k bK rfl a1 ?_;refine aR.mk _ (bm _) ?_;refine bf.mk zz k Di rfl (by omega) ?_;refine aR.mk _ (pD _) ?_;refine bd.whole _ (aum ad aH) ?_;rintro v J N -⟨rfl,bl,hC⟩;subst J;subst N;cases e:uF x y with
  |true=>refine a3.mk (λh=>absurd h (by simp)) (λ_=>?_);refine bg.mk _ (cL (i:=k) (by omega)) ?_;exact⟨k+1,⟨⟨a1,by rw[he,e,om]⟩,by omega⟩,.refl,hv,.nil⟩| false=>refine a3.mk (λ_=>?_) (λh=>absurd h (by simp));exact⟨_,_,.refl,by rw[he,e,yb],rfl,rfl⟩
 ·have cJ:k=s.n:=by have:¬ (k:Int)<(s.n:Int):=eu ab;omega
  subst cJ;rw[vt (by omega),vt (by omega)]at he;exact⟨_,_,.refl,by rw[he];rfl,rfl,rfl⟩
def v5(a b:bP):Bool:=decide (a.n=b.n)&&(right a&&(right b&&k1 uF (r8 a.ns a.bA) (r8 b.ns b.bA)))
def aup(bp:fW I al){a b:bP}(a6:a.ok I)(ag:b.ok I)(aC:a.n<=1099511627776):Spec Tryz.prog 33 [a.val,b.val] I M0 λv I' M'=>v=.bool (v5 a b)/\(∀ c o,I c=some o->I' c=some o)/\M'=M0:=by
 refine cg [] a7 Tryz.func33 rfl rfl rfl ?_;intro B az;have lL:=a6.n;have D7:=ag.n;by_cases aa:a.n=b.n
 rotate_left
 ·refine cj.mk (λbc=>absurd bc (by simp;omega)) (λ_=>?_);exact⟨_,_,.refl,by rw[v5,dU aa,yb],λ_ _ h=>h,rfl⟩
 refine cj.mk (λ_=>?_) (λbc=>absurd bc (by simp[aa]));refine bd.mk [] M0 _ (.refl _) (qM bp.c a6) ?_;rintro v J N -⟨rfl,bl,rfl⟩;subst J;cases ab:right a with
 |false=>refine cj.mk (λbc=>absurd bc (by simp)) (λ_=>?_);exact⟨_,_,.refl,by rw[v5,ab,yb,Ez],λ_ _ h=>h,rfl⟩| true=>
 refine cj.mk (λ_=>?_) (λbc=>absurd bc (by simp));refine bd.mk [] M0 _ (.refl _) (qM bp.c ag) ?_;rintro v J N -⟨rfl,bl,rfl⟩;subst J;cases aj:right b with
 |false=>refine a3.mk (λ_=>?_) (λbc=>absurd bc (by simp));exact⟨_,_,.refl,by rw[v5,aj,yb,Ez,Ez],λ_ _ h=>h,rfl⟩| true=>
 refine a3.mk (λbc=>absurd bc (by simp)) (λ_=>?_);obtain⟨auq,ax7⟩:=qP ab;obtain⟨aur,ax8⟩:=qP aj;obtain⟨tj,aus⟩:=ea auq;obtain⟨rb,nF⟩:=ea aur;have afQ:=T1 (M0:=M0) a6 ab aC (node:=tj) (by omega);rw[<-aus]at afQ;refine c4.draw a7 rfl rfl rfl ?_;refine eR.whole _ afQ (λv I' M' h x ad=>by rw[h.2.1];exact ad) ?_;rintro v J N -⟨bl,hC,pe,rfl,xo,aut⟩;subst N;have Bk:=T1 (M0:=M0) (ag.mono bl) aj (by omega) (node:=rb) (by omega);rw[<-nF]at Bk;refine eR.whole _ Bk (λv I' M' h x ad=>by rw[h.2.1];exact ad) ?_;rintro v dp N -⟨dW,hC,aje,rfl,Cm,auu⟩;subst N;refine bd.whole _ (auo (xo.mono dW) Cm) ?_;rintro v qh N -⟨rfl,lY,hC⟩;subst qh;subst N;refine⟨_,_,.refl,?_,λc o h=>dW _ _ (bl _ _ h),rfl⟩;rw[v5,eV aa,ab,aj,<-aut.a0,<-auu.a0,afP];rfl
def rp(d e:aP):Bool:=decide (d.name=e.name)&&v5 d.t e.t
def uG(g h:cD):Bool:=k1 rp g.ds h.ds
def auv(a b:bP):v5 a.a0 b.a0=v5 a b:=by unfold v5;rw[vu,vu];have aJ:r8 a.a0.ns a.a0.bA=r8 a.ns a.bA:=Zf a.ns a.bA;have a4:r8 b.a0.ns b.a0.bA=r8 b.ns b.bA:=Zf b.ns b.bA;rw[aJ,a4];rfl
def afR(g h:cD):uG g.a0 h.a0=uG g h:=by
 unfold uG;show k1 rp (g.ds.map aP.a0) (h.ds.map aP.a0)=_;have:∀ l m:List aP,k1 rp (l.map aP.a0) (m.map aP.a0)=k1 rp l m:=by
  intro l
  induction l with
  |nil=>intro m;cases m<;>rfl
  |cons a l aF=>
   intro m;cases m with
   |nil=>rfl| cons b m=>rw[bX,bX,k1,k1,aF];congr 1;unfold rp;have aJ:v5 a.a0.t b.a0.t=v5 a.t b.t:=auv a.t b.t;rw[aJ];rfl
 exact this _ _
def auw(bp:fW I al){d e:aP}(ak:d.ok I)(he:e.ok I)(aC:d.t.n<=1099511627776):Spec Tryz.prog 151 [.agg d.cells.toArray,.agg e.cells.toArray] I M0 λv I' M'=>v=.bool (rp d e)/\(∀ c o,I c=some o->I' c=some o)/\M'=M0:=by
 refine cg [] a7 Tryz.func151 rfl rfl rfl ?_;intro B az;obtain⟨nm,t⟩:=d;obtain⟨auy,bo⟩:=e;by_cases h:nm=auy
 ·refine cj.mk (λ_=>?_) (λbc=>absurd bc (by simp[h]));refine bd.whole _ (aup bp ak.t he.t aC) ?_;rintro v J N -⟨rfl,bl,hC⟩;subst N;exact⟨_,_,.refl,by rw[rp,eV h,om],bl,rfl⟩
 ·refine cj.mk (λbc=>absurd bc (by simp[h])) (λ_=>?_);exact⟨_,_,.refl,by rw[rp,dU h,yb],λ_ _ h=>h,rfl⟩
def auz(bp:fW I al){s t:cD}(au:s.ok I)(ax:t.ok I)(ag:∀ d∈s.ds,d.t.n<=1099511627776):Spec Tryz.prog 150 [.slice s.a s.n s.c,.slice t.a t.n t.c,.func (.func 151) #[] #[]] I M0 λv I' M'=>v=.bool (uG s t)/\(∀ c o,I c=some o->I' c=some o)/\M'=M0:=by
 refine cg [] a7 Tryz.func150 rfl rfl rfl ?_;intro B az;have ja:=au.n;have hK:=ax.n;have jJ:=au.a2.cap;unfold uG;by_cases aC:s.n=t.n
 rotate_left
 ·refine a3.mk (λ_=>?_) (λh=>absurd h (by simp;omega));exact⟨_,_,.refl,by rw[Vj _ _ _ (by omega)],λ_ _ h=>h,rfl⟩
 refine a3.mk (λh=>absurd h (by simp[aC])) (λ_=>?_);refine dg.inv (ι:=Nat×aM) (λx=>{ bj:=[(1,.val (.slice t.a t.n t.c)),(2,.val (.func (.func 151) #[] #[])),(15,.val (.slice s.a s.n s.c)),(16,.val (.int .i64 s.n)),(17,.val (.int .i64 x.1))],cI:=x.2,de:=M0 }) (λx=>x.1<=s.n/\k1 rp s.ds t.ds=k1 rp (s.ds.drop x.1) (t.ds.drop x.1)/\∀ c o,I c=some o->x.2 c=some o) (λx=>s.n-x.1) ?_ ?_
 ·exact⟨(0,I),⟨dw _,rfl,λ_ _ h=>h⟩,.refl,hv,.nil⟩
 rintro⟨k,J⟩⟨ae,he,bl⟩;simp only at ae he bl;refine a3.mk (λab=>?_) (λab=>?_)
 ·have a1:k<s.n:=by have:(k:Int)<(s.n:Int):=dB ab;omega
  have cv:k<s.ds.length:=by omega
  have mD:k<t.ds.length:=by omega
  obtain⟨aU,bK,bm⟩:=(au.mono bl).a2.row aP.cT a1 cv;obtain⟨zz,Di,pD⟩:=(ax.mono bl).a2.row aP.cT (show k<t.n by omega) mD;have ad:=(au.mono bl).ds _ (bi cv);have aH:=(ax.mono bl).ds _ (bi mD);have rD:=ag _ (bi cv);rw[e1 cv,e1 mD,k1]at he;generalize s.ds[k]=x at bm ad he rD;generalize t.ds[k]=y at pD aH he;refine bf.mk aU k bK rfl a1 ?_;refine aR.mk _ (bm _) ?_;refine bf.mk zz k Di rfl (by omega) ?_;refine aR.mk _ (pD _) ?_;refine bd.whole _ (auw (bp.mono bl) ad aH rD) ?_;rintro v dp N -⟨rfl,dW,hC⟩;subst N;cases e:rp x y with
  |true=>refine a3.mk (λh=>absurd h (by simp)) (λ_=>?_);refine bg.mk _ (cL (i:=k) (by omega)) ?_;exact⟨(k+1,dp),⟨⟨a1,by simp only;rw[he,e,om],λc o h=>dW _ _ (bl _ _ h)⟩,by simp only;omega⟩,.refl,hv,.nil⟩| false=>refine a3.mk (λ_=>?_) (λh=>absurd h (by simp));exact⟨_,_,.refl,by rw[he,e,yb],λc o h=>dW _ _ (bl _ _ h),rfl⟩
 ·have cJ:k=s.n:=by have:¬ (k:Int)<(s.n:Int):=eu ab;omega
  subst cJ;rw[vt (by omega),vt (by omega)]at he;exact⟨_,_,.refl,by rw[he];rfl,bl,rfl⟩
def auA(bp:fW I al){s t:cD}(au:s.ok I)(ax:t.ok I)(ag:∀ d∈s.ds,d.t.n<=1099511627776):Spec Tryz.prog 96 [s.val,t.val] I M0 λv I' M'=>v=.bool (uG s t)/\(∀ c o,I c=some o->I' c=some o)/\M'=M0:=by refine cg [] a7 Tryz.func96 rfl rfl rfl ?_;intro B az;refine bd.whole _ (auz bp au ax ag) ?_;rintro v J N -⟨rfl,bl,hC⟩;subst N;exact⟨_,_,.refl,rfl,bl,rfl⟩
def afS{α:Type}(f:α->Nat)(m:Nat):∀ (l:List α),(∀ x∈l,f x<=m)->(l.map f).sum<=m*l.length
 |[],_=>by simp
 |a::l,h=>by have aa:=afS f m l λx ad=>h x (.tail _ ad);have ab:=h a (.head _);rw[bX,hI,c2,Nat.mul_succ];omega
def auB(bp:fW I al)(av:g.ok I)(au:Nn g):v3 al I g:=by
 have aa:=au.n;have ab:∀ d∈g.ds,d.t.n<400:=λd ak=>(au.ds d ak).t.n;have aj:=afS (λd:aP=>d.t.ns.length) 400 g.ds λd ak=>by have:=(av.ds d ak).t.n;have:=ab d ak;omega
 have aG:=av.n;refine⟨bp,av,λd ak=>by have:=ab d ak;omega,by omega,?_,λd ak n aC=>?_⟩
 ·have:400*g.ds.length<=400*400:=Nat.mul_le_mul_left _ (by omega);omega
 ·have:=((au.ds d ak).t.ns n aC).aO;omega
def Vk(hm:dj al g=0):(∀ d∈g.ds,d.t.n<=1024)/\(g.ds.map λd=>d.t.n).sum<=1024:=by
 obtain⟨aa,ab,aj,aG,bx⟩:=y2.1 hm;unfold mL at aj;simp only[qN,qz]at aj;have bZ:lh g<=1024:=by omega
 have e:lh g=(g.ds.map λd=>d.t.n).sum:=by unfold lh;congr 1;refine fO λd ak=>?_;unfold qT;rw[l3 hm ak];rfl
 rw[e]at bZ;refine⟨λd ak=>?_,bZ⟩;have:=NC (l:=g.ds.map λd=>d.t.n) (x:=d.t.n) (cA.2 ⟨d,ak,rfl⟩);omega
def OD(bp:fW I al)(av:g.ok I)(hm:dj al g=0):v3 al I g:=by obtain⟨aa,ab⟩:=Vk hm;have lq:=FK hm;have e:(g.ds.map λd=>d.t.ns.length)=g.ds.map λd=>d.t.n:=fO λd ak=>(av.ds d ak).t.n;refine⟨bp,av,λd ak=>by have:=aa d ak;omega,by omega,by rw[e];omega,λd ak=>afc (av.ds d ak).t (l3 hm ak) (by have:=aa d ak;omega)⟩
def OE(t:bP):bV t.a0=bV t:=adM t.ns t.bA
def afT:∀ (ds:List aP) (i:Nat),k0 i (ds.map aP.a0)=k0 i ds
 |[],_=>rfl| d::ds,i=>by rw[bX,k0,k0,afT ds (i+1)];show(bV d.t.a0).paths.map _++_=_;rw[OE]
def auC(nm:ByteArray)(ds:List aP):cr nm (ds.map aP.a0) 0=cr nm ds 0:=JX _ _ _ _ (by rw[gh];rfl)
def auD(al:List Int)(g:cD)(i:Int):jx al g.a0 i=jx al g i:=by unfold jx;rw[Aj,aui];rfl
def Vl(ds:List aP)(u:Nat):bV ((ds.map aP.a0).getD u gd).t=bV (ds.getD u gd).t:=by
 rw[bt,bt,jR];cases ds[u]? with
 |none=>rfl| some d=>exact OE d.t
def auE(al:List Int)(g:cD)(nm:ByteArray):qp al g.a0 nm=qp al g nm:=by unfold qp;show(if cr nm (g.ds.map aP.a0) 0<0\/jx al g.a0 (cr nm (g.ds.map aP.a0) 0)=true then none else some (cr nm (g.ds.map aP.a0) 0).toNat)=_;rw[auC,auD]
def afU(al:List Int)(g:cD)(u:Nat)(p:List Int):mX al g.a0 u p=mX al g u p:=by
 unfold mX qq;show((bV ((g.ds.map aP.a0).getD u gd).t).go p).bind _=_;rw[Vl];congr 1;funext S;rw[auE];split
 ·congr 1;funext q;show((bV ((g.ds.map aP.a0).getD u gd).t).put p (bV ((g.ds.map aP.a0).getD q gd).t)).iS=_;rw[Vl,Vl]
 ·rfl
def afV:(aP.a0 ∘ aP.a0)=aP.a0:=by funext d;show aP.mk d.name (d.t.a0.a0)=⟨d.name,d.t.a0⟩;congr 1;show bP.mk ((d.t.ns.map ap.a0).map ap.a0) _ _ _ _=⟨d.t.ns.map ap.a0,_,_,_,_⟩;rw[gh];rfl
def afW(ds:List aP)(u:Nat)(y:bP):(eN (ds.map aP.a0) u y).map aP.a0=(eN ds u y).map aP.a0:=by
 unfold eN;rw[o1,o1,gh];have e:=afV;rw[e];by_cases h:u<ds.length
 ·have:((ds.map aP.a0).getD u gd).name=(ds.getD u gd).name:=by simp[bt,h,aP.a0]
  rw[this]
 ·rw[List.set_eq_of_length_le (by rw[bE];omega),List.set_eq_of_length_le (by rw[bE];omega)]
def auF(al:List Int)(g:cD)(u:Nat)(X:aD):xB al g.a0 u X=xB al g u X:=by unfold xB;congr 2;rw[<-Aj,<-Aj al (nH (eN g.ds u (ko X.post)))];congr 1;unfold cD.a0 nH;simp only[afW,xx,bE]
def afX(al:List Int)(g:cD)(x:Nat×List Int):oN al g.a0 x=oN al g x:=by
 unfold oN;rw[afU];cases mX al g x.1 x.2 with
 |none=>rfl| some X=>exact auF al g x.1 X
def auG(al:List Int)(g:cD):ls al g.a0=ls al g:=by unfold ls;show(k0 0 (g.ds.map aP.a0)).filter _=_;rw[afT];congr 1;funext x;exact afX al g x
def OF(bp:fW I hL){k:IntKind}(ze:xm afG 71 s=some (cs,cM,k,e)):Spec Tryz.prog 50 [.string ⟨s.toArray⟩] I M0 λv I' M'=>(∀ b o,I b=some o->I' b=some o)/\M'=M0/\∃ g:cD,v=g.val/\g.ok I'/\qm cs g.ds:=by refine cg [] a7 Tryz.func50 rfl rfl rfl ?_;intro B az;refine bd.mk [] M0 _ (.refl _) (apt bp ze) ?_;rintro v iy N -⟨rfl,h3,g,rfl,av,aV⟩;exact⟨_,_,.refl,h3,rfl,g,rfl,av,aV⟩
def Vm(cs:List ig)(F:List aW):Bool:=decide ((Nv (jP cs).ds F).2=0)
def uH(cs:List ig)(u:Nat)(p:List Int):List aP:=match mX hL (jP cs) u p with
 |some X=>eN (jP cs).ds u (ko X.post)| none=>[]
def afY(bp:fW I hL){auH:Nat}{want:List UInt8}{OG:List ig}{auI cQ:Int}{k e9:IntKind}(ze:xm afG 71 s=some (cs,cM,k,e))(ur:xm auH 71 want=some (OG,auI,e9,cQ)){f:Nat}(an:FP cs F f=true)(yo:Vm cs F=true)
 {pa:Option Addr} {pn jC:Nat} {path:List Int} (aB:dh I pa pn jC 1 8 (oc path)) (dS:oN hL (jP cs) (u,path)=true) (zV:u<cs.length) (rj:uG (nH (uH cs u path)) (jP OG)=true) (m6:0<(uH cs u path).length) :
  Spec Tryz.prog 49 [.string ⟨s.toArray⟩,.int .i64 (u:Int),.slice pa pn jC,.string ⟨want.toArray⟩] I [] λv I' M'=>v=.bool true/\(∀ b o,I b=some o->I' b=some o)/\M'=[]:=by
 have eG:=TT an;refine cg [] a7 Tryz.func49 rfl rfl rfl ?_;intro B az;refine bd.mk [] [] _ (.refl _) (OF bp ze) ?_;rintro v iy N -⟨h3,rfl,g,rfl,av,aV⟩;have jK:=bp.mono h3;obtain⟨hm,bG,ml⟩:=eG.of av aV;have eW:=FN aV av;have sc:g.ds.length=cs.length:=by have:=congrArg (λx:cD=>x.ds.length) eW;simpa[cD.a0,jP]using this
 refine bd.mk [] [] _ (.refl _) (afw (OD jK av hm) (aB.mono h3)) ?_;rintro v dp N dW⟨-,rfl,h,a4,rfl,dk⟩;obtain⟨r,af⟩:∃ r,mm hL g r:=⟨_,.inr ⟨hm,F,bG,rfl⟩⟩;have pV:r.2=0:=by rw[acL eG av aV af];exact dB yo
 have xA:oN hL g (((u:Nat):Int).toNat,path)=true:=by rw[gz,<-afX,eW];exact dS
 obtain⟨rfl,cW,rl,X,bo,hk,dK,hK,gw,mE,-⟩:=dk.afv r af pV ⟨rfl,rfl,rfl,by omega,by omega,xA⟩;rw[gz]at hk gw;have Du:h.ds.map aP.a0=(uH cs u path).map aP.a0:=by
  have aJ:uH cs u path=eN (jP cs).ds u (ko X.post):=by unfold uH;rw[<-eW,afU,hk]
  rw[gw,aJ,aeN (aeM dK hK),<-eW];exact(afW g.ds u _).symm
 have ay:h.ds.length=(uH cs u path).length:=by have:=congrArg List.length Du;simpa using this
 have DH:=cW.n;refine c4.draw a7 rfl rfl rfl ?_;refine cj.mk (λ_=>?_) (λh=>absurd h (by simp));refine cj.mk (λ_=>?_) (λh=>absurd h (by simp;omega));refine eR.mk _ (OF (M0:=[]) (jK.mono dW) ur) ?_;rintro v qh N lY⟨-,rfl,w,rfl,hw,afZ⟩;refine bd.mk [] [] _ (.refl _) (auA (M0:=[]) ((jK.mono dW).mono lY) (cW.mono lY) hw λd ak=>by have:=(Vk mE).1 d ak;omega) ?_;rintro v mW N -⟨rfl,h4,rfl⟩;refine⟨_,_,.refl,?_,λb o h=>h4 _ _ (lY _ _ (dW _ _ (h3 _ _ h))),rfl⟩;have aJ:uG h w=uG (nH (uH cs u path)) (jP OG):=by rw[<-afR h w,FN afZ hw,<-afR (nH _) (jP OG)];unfold uG;show k1 rp (h.ds.map aP.a0) _=k1 rp ((uH cs u path).map aP.a0) _;rw[Du,<-FN afZ hw];show k1 rp _ (w.ds.map aP.a0)=k1 rp _ ((w.ds.map aP.a0).map aP.a0);rw[gh,afV]
 rw[aJ,rj]
def OH(cs:List ig)(F:List aW):List (Nat×List Int):=if(Nv (jP cs).ds F).2=0 then ls hL (jP cs)else []
def af0(eG:Js cs F)(av:g.ok I)(aV:qm cs g.ds){r:Int×Int}(af:mm hL g r):v0 hL g r=OH cs F:=by unfold v0 OH;rw[acL eG av aV af,<-FN aV av,auG]
def xE:List ig:=[⟨[97],⟨[⟨3,0,0,0,0,[98],0,0,[]⟩,⟨2,0,0,0,0,[120],0,0,[]⟩,⟨3,0,0,0,0,[98],0,0,[]⟩,⟨4,0,0,0,0,[],0,0,[0,1,2]⟩],3⟩⟩,⟨[98],⟨[⟨2,0,0,0,0,[121],0,0,[]⟩],0⟩⟩]
def af1:xm 100000 71 [97,32,60,45,32,98,32,34,120,34,32,98,32,98,32,60,45,32,34,121,34]=some (xE,0,.i64,0):=by kernel_rfl
def af2:List ig:=[⟨[97],⟨[⟨2,0,0,0,0,[121],0,0,[]⟩,⟨2,0,0,0,0,[120],0,0,[]⟩,⟨3,0,0,0,0,[98],0,0,[]⟩,⟨4,0,0,0,0,[],0,0,[0,1,2]⟩],3⟩⟩,⟨[98],⟨[⟨2,0,0,0,0,[121],0,0,[]⟩],0⟩⟩]
def auJ:xm 100000 71 [97,32,60,45,32,34,121,34,32,34,120,34,32,98,32,98,32,60,45,32,34,121,34]=some (af2,0,.i64,0):=by kernel_rfl
def Kd:List ig:=[⟨[97],⟨[⟨2,0,0,0,0,[120],0,0,[]⟩,⟨3,0,0,0,0,[97],0,0,[]⟩,⟨4,0,0,0,0,[],0,0,[0,1]⟩,⟨0,0,0,0,0,[],0,0,[]⟩,⟨5,0,0,0,0,[],0,0,[2,3]⟩],4⟩⟩]
def auK:xm 100000 71 [97,32,60,45,32,34,120,34,32,97,32,47,32,34,34]=some (Kd,0,.i64,0):=by kernel_rfl
def Bn:List ig:=[⟨[97],⟨[⟨3,0,0,0,0,[98],0,0,[]⟩,⟨3,0,0,0,0,[99],0,0,[]⟩,⟨4,0,0,0,0,[],0,0,[0,1]⟩],2⟩⟩,⟨[98],⟨[⟨2,0,0,0,0,[121],0,0,[]⟩,⟨2,0,0,0,0,[122],0,0,[]⟩,⟨4,0,0,0,0,[],0,0,[0,1]⟩],2⟩⟩,⟨[99],⟨[⟨0,0,0,0,0,[],0,0,[]⟩],0⟩⟩]
def auL:xm 100000 71 [97,32,60,45,32,98,32,99,32,98,32,60,45,32,34,121,34,32,34,122,34,32,99,32,60,45,32,34,34]=some (Bn,0,.i64,0):=by kernel_rfl
def af3:List ig:=[⟨[97],⟨[⟨2,0,0,0,0,[121],0,0,[]⟩,⟨2,0,0,0,0,[122],0,0,[]⟩,⟨3,0,0,0,0,[99],0,0,[]⟩,⟨4,0,0,0,0,[],0,0,[0,1,2]⟩],3⟩⟩,⟨[98],⟨[⟨2,0,0,0,0,[121],0,0,[]⟩,⟨2,0,0,0,0,[122],0,0,[]⟩,⟨4,0,0,0,0,[],0,0,[0,1]⟩],2⟩⟩,⟨[99],⟨[⟨0,0,0,0,0,[],0,0,[]⟩],0⟩⟩]
def auM:xm 100000 71 [97,32,60,45,32,34,121,34,32,34,122,34,32,99,32,98,32,60,45,32,34,121,34,32,34,122,34,32,99,32,60,45,32,34,34]=some (af3,0,.i64,0):=by kernel_rfl
def af4:FP xE (yY xE 5) 5=true:=by kernel_rfl
def auN:FP Kd (yY Kd 5) 5=true:=by kernel_rfl
def auO:FP Bn (yY Bn 5) 5=true:=by kernel_rfl
def auP:Vm xE (yY xE 5)=true:=by kernel_rfl
def auQ:Vm Bn (yY Bn 5)=true:=by kernel_rfl
def auR:OH xE (yY xE 5)=[(0,[0]),(0,[2])]:=by kernel_rfl
def auS:OH Kd (yY Kd 5)=[]:=by kernel_rfl
def auT:oN hL (jP xE) (0,[0])=true:=by kernel_rfl
def auU:uG (nH (uH xE 0 [0])) (jP af2)=true:=by kernel_rfl
def auV:Nat.ble 1 (uH xE 0 [0]).length=true:=by kernel_rfl
def auW:oN hL (jP Bn) (0,[0])=true:=by kernel_rfl
def auX:uG (nH (uH Bn 0 [0])) (jP af3)=true:=by kernel_rfl
def auY:Nat.ble 1 (uH Bn 0 [0]).length=true:=by kernel_rfl
def auZ{β:Type}{f:α->β}{a b:β}:∀ {l:List α},l.map f=[a,b]->∃ x y,l=[x,y]/\f x=a/\f y=b
 |[x,y],h=>by simp only[bX,hx,ya,and_true]at h;exact⟨x,y,rfl,h.1,h.2⟩
 |[],h=>by simp at h
 |[x],h=>by simp at h
 |x::y::z::l,h=>by simp at h
def af5(k:Int):dh (ins I b (.cells #[.int .i64 k] 3 (0,0))) (some ⟨b,0,none⟩) 1 1 1 8 (oc [k]):=
 ⟨rfl,⟨b2 _,by decide⟩,.inr ⟨⟨b,0,none⟩,rfl,rfl,_,_,_,mI ..,rfl⟩⟩
def af6(bp:fW I hL):Spec Tryz.prog 27 [] I [] λv J mz=>v=.bool true/\(∀ b o,I b=some o->J b=some o)/\mz=[]:=by
 refine cg [] a7 Tryz.func27 rfl rfl rfl ?_;intro B az;refine bd.mk [] [] _ (.refl _) (OF bp af1) ?_;rintro v I1 N -⟨cu,rfl,g,rfl,av,aV⟩;have jK:=bp.mono cu;have eG:=TT af4;refine bd.mk [] [] _ (.refl _) (aft (OD jK av (eG.of av aV).1)) ?_;rintro v dz N -⟨et,os,L,r,af,rfl,bU,cc,rfl,oL⟩;rw[af0 eG av aV af,auR]at oL;have iw:=jK.mono et;obtain⟨sK,aeX,rfl,fK,xb⟩:=auZ oL;obtain⟨kw,yP,fI,ud⟩:=sK;obtain⟨hO,tT,cM,gf⟩:=aeX;simp only[fS.qs,Lw]at fK xb;obtain⟨rfl,rfl⟩:=fK;obtain⟨rfl,rfl⟩:=xb;have aC:os.n=2:=by have:=bU.len;rw[jm _ 5 fS.Kb]at this;simp only[c2,fs]at this;omega
 have rd:=λ(M:List aE) (a':∀ x∈os.ar 57,x∈M)=>aY.ok.row (I:=dz) (M:=M) fS.Kb (by decide) bU (e:=57) a' (j:=0) (by simp);have Ri:=λ(M:List aE) (a':∀ x∈os.ar 57,x∈M)=>aY.ok.row (I:=dz) (M:=M) fS.Kb (by decide) bU (e:=57) a' (j:=1) (by simp);obtain⟨aU,bK,bm⟩:=rd (os.ar 57++[]) (λx ad=>iD _ ad);obtain⟨Vn,af7,hX⟩:=Ri (os.ar 57++[]) (λx ad=>iD _ ad);have bm:cO dz (os.ar 57++[]) (aU.add (0*5)) 5 [.int .u8 1,.int .u8 1,.int .i64 0,.slice fI 1 ud,.int .i64 0]:=bm;have hX:cO dz (os.ar 57++[]) (Vn.add (1*5)) 5 [.int .u8 1,.int .u8 1,.int .i64 0,.slice cM 1 gf,.int .i64 0]:=hX;obtain⟨o6,Hw,pV⟩:=(cc ⟨0,[0],fI,ud⟩ (.head _)).a2.one (f:=(.int .i64 ·)) (l:=([0]:List Int)) (j:=0) Ox Ox;obtain⟨b1,hb,hU⟩:=(cc ⟨0,[2],cM,gf⟩ (.tail _ (.head _))).a2.one (f:=(.int .i64 ·)) (l:=([2]:List Int)) (j:=0) Ox Ox;refine cj.mk (λ_=>?_) (λh=>absurd h (by simp[aC]));refine bf.mk aU 0 bK rfl (by omega) ?_;refine aR.mk _ (bm.part (k:=3) (m:=1) (by decide)) ?_;refine cj.mk (λ_=>?_) (λh=>by cases h);refine bf.mk aU 0 bK rfl (by omega) ?_;refine aR.mk _ (bm.part (k:=3) (m:=1) (by decide)) ?_;refine bf.mk o6 0 Hw rfl (by decide) ?_;refine aR.mk _ (pV _) ?_;refine cj.mk (λ_=>?_) (λh=>by cases h);refine bf.mk Vn 1 af7 rfl (by omega) ?_;refine aR.mk _ (hX.part (k:=3) (m:=1) (by decide)) ?_;refine cj.mk (λ_=>?_) (λh=>by cases h);refine bf.mk Vn 1 af7 rfl (by omega) ?_;refine aR.mk _ (hX.part (k:=3) (m:=1) (by decide)) ?_;refine bf.mk b1 0 hb rfl (by decide) ?_;refine aR.mk _ (hU _) ?_;refine cj.mk (λ_=>?_) (λh=>by cases h);refine bf.mk aU 0 bK rfl (by omega) ?_;refine aR.mk _ (bm.part (k:=0) (m:=1) (by decide)) ?_;refine cj.mk (λ_=>?_) (λh=>by cases h);refine bf.mk aU 0 bK rfl (by omega) ?_;refine aR.mk _ (bm.part (k:=1) (m:=1) (by decide)) ?_;refine cj.mk (λ_=>?_) (λh=>by cases h);refine bf.mk aU 0 bK rfl (by omega) ?_;refine aR.mk _ (bm.part (k:=2) (m:=1) (by decide)) ?_;refine cj.mk (λ_=>?_) (λh=>by cases h);refine bf.mk aU 0 bK rfl (by omega) ?_;refine aR.mk _ (bm.part (k:=4) (m:=1) (by decide)) ?_;refine a3.mk (λh=>by cases h) (λ_=>?_);refine b'.mk λb9 lf xr=>?_
 have zI:=afY (iw.mono (hW (o:=.cells #[.int .i64 0] 3 (0,0)) lf)) af1 auJ af4 auP (u:=0) (path:=[0]) (af5 (I:=dz) (b:=b9) 0) auT (by decide) auU (bI auV);refine bd.DX (ins dz b9 (.cells #[.int .i64 0] 3 (0,0))) [] [] _ (.sub (List.cons_sublist_cons.2 (fk _)) (.k3 rfl (by simp) .refl)) zI ?_;rintro v h9 N iP -⟨rfl,-,rfl⟩;have oK:=(iw.mono (hW (o:=.cells #[.int .i64 0] 3 (0,0)) lf)).mono iP;refine cj.mk (λ_=>?_) (λh=>by cases h);refine bd.mk [] [] _ (.refl _) (OF oK auK) ?_;rintro v rS N y6⟨-,rfl,ba,rfl,ld,lG⟩;have J4:=oK.mono y6;have OI:=TT auN;refine bd.mk [] [] _ (.refl _) (aft (OD J4 ld (OI.of ld lG).1)) ?_;rintro v z0 N Uc⟨-,kq,hZ,nx,rO,rfl,JQ,oa,rfl,uE⟩;rw[af0 OI ld lG rO,auS]at uE;have oC:kq.n=0:=by have:=JQ.len;rw[jm _ 5 fS.Kb]at this;have ab:=congrArg List.length uE;rw[bE]at ab;simp only[fs]at ab;omega
 have Ob:=J4.mono Uc;refine cj.mk (λ_=>?_) (λh=>absurd h (by simp[oC]));refine b'.mk λfX EE aeL=>?_;have Gj:=afY (Ob.mono (hW (o:=.cells #[.int .i64 0] 3 (0,0)) EE)) auL auM auO auQ (u:=0) (path:=[0]) (af5 (I:=z0) (b:=fX) 0) auW (by decide) auX (bI auY);refine bd.DX (ins z0 fX (.cells #[.int .i64 0] 3 (0,0))) [] [] _ (.sub (List.cons_sublist_cons.2 (fk _)) (.k3 rfl (by simp) .refl)) Gj ?_;rintro v tZ N Oi -⟨rfl,-,rfl⟩;exact⟨_,_,.refl,rfl,λb o h=>Oi _ _ (hW EE _ _ (Uc _ _ (y6 _ _ (iP _ _ (hW lf _ _ (et _ _ (cu _ _ h))))))),rfl⟩
def OJ(d:ap)(xs:List (Int×Nat)):Int×Nat:=(d.k,(xs.map (·.2)).sum+(if d.k=4\/d.k=5 then xs.countP (λx=>decide (x.1=d.k))else 0))
def mY(T:aD):Nat:=(T.fold OJ).2
def au0(T:aD):(T.fold OJ).1=T.d.k:=by
 cases T with
 |mk d ks=>rw[aD.fold_eq];rfl
def af8(k:Int):∀ ks:List aD,(ks.map (aD.fold OJ)).countP (λx=>decide (x.1=k))=ks.countP (λc=>decide (c.d.k=k))
 |[]=>rfl| c::ks=>by rw[bX,Ii,Ii,af8 k ks,au0]
def OK(d:ap)(ks:List aD):mY (.mk d ks)=(ks.map mY).sum+(if d.k=4\/d.k=5 then ks.countP (λc=>decide (c.d.k=d.k))else 0):=by unfold mY;rw[aD.fold_eq];show((ks.map (aD.fold OJ)).map (·.2)).sum+_=_;rw[gh,af8];rfl
def OL(k:Int):∀ ks:List aD,ks.countP (λc=>decide (c.d.k=k))=(ks.map λc=>if c.d.k=k then 1 else 0).sum
 |[]=>rfl
 |c::ks=>by
  rw[Ii,bX,hI,OL k ks];by_cases h:c.d.k=k;·simp[h];omega
  ·simp[h]
def Ke{α:Type}:∀ ks:List α,(ks.map λ_=>(0:Nat)).sum=0
 |[]=>rfl| c::ks=>by rw[bX,hI,Ke ks]
def Vo(f g h k:aD->Nat):∀ ks:List aD,(∀ c∈ks,f c+g c+h c=k c)->(ks.map f).sum+(ks.map g).sum+(ks.map h).sum=(ks.map k).sum
 |[],_=>rfl| c::ks,H=>by have aa:=Vo f g h k ks λx ad=>H x (.tail _ ad);have ab:=H c (.head _);simp only[bX,hI];omega
def au1:∀ T:aD,dA T.bn+mY T=dA T/\∀ cd,N2 cd->((T.e0 cd).map dA).sum+mY T+(if some T.d.k=cd then 1 else 0)=dA T:=by
 intro T
 induction T using aD.ind with
 |h d ks aF=>
  have ky:dA (aD.mk d ks).bn+mY (.mk d ks)=dA (.mk d ks):=by
   show dA (.mk d (ks.flatMap (aD.e0 (gR d))))+_=_;rw[kz,kz,J9,OK];have aa:=Vo (λc=>((c.e0 (gR d)).map dA).sum) mY (λc=>if some c.d.k=gR d then 1 else 0) dA ks λc an=>(aF c an).2 _ (UA d);by_cases ew:d.k=4\/d.k=5;·have e:gR d=some d.k:=bN ew;rw[bN ew,OL];rw[e]at aa |-;simp only[j9]at aa;omega
   ·have e:gR d=none:=bS ew;rw[bS ew];rw[e]at aa |-;have ab:(ks.map λc:aD=>if some c.d.k=(none:Option Int)then 1 else 0).sum=0:=by
     have:(λc:aD=>if some c.d.k=(none:Option Int)then 1 else 0)=λ_=>0:=by funext c;simp
     rw[this];exact Ke ks
    omega
  refine⟨ky,λcd jo=>?_⟩;rw[aD.oH];by_cases ae:some d.k=cd
  ·rw[bN ae];have hg:some (aD.mk d ks).d.k=cd:=ae;rw[bN hg,J9,kz,OK];have ew:d.k=4\/d.k=5:=by
    rcases jo with h | h | h<;>rw[h]at ae
    ·cases ae
    ·exact .inl (fm ae)
    ·exact .inr (fm ae)
   have aa:=Vo (λc=>((c.e0 cd).map dA).sum) mY (λc=>if some c.d.k=cd then 1 else 0) dA ks λc an=>(aF c an).2 _ jo;rw[bN ew,OL];rw[<-ae]at aa |-;simp only[j9]at aa;omega
  ·rw[bS ae];have hg:¬ some (aD.mk d ks).d.k=cd:=ae;rw[bS hg];simpa using ky
def au2(T:aD):dA T.iS+mY (T.fold hj)=dA (T.fold hj):=(au1 _).1
def Gr:l1 T->mY T=0:=by
 induction T using aD.ind with
 |h d ks aF=>
  intro h;obtain⟨aa,ab⟩:=h.inv;rw[OK];have aJ:(ks.map mY).sum=0:=by have:ks.map mY=ks.map λ_=>0:=fO λc an=>aF c an (ab c an);rw[this];exact Ke ks
  rw[aJ];split;·rename_i ew;rw[cX,List.countP_eq_zero];intro c an;rw[M6];exact(aa ew c an).1
  ·rfl
def filter_all{d:ap}(h:d.k=4->∀ c∈ks,c.d.k≠0):ks.filter (hh d)=ks:=by
 rw[Sv];intro c an;unfold hh;by_cases aG:d.k=4
 ·rw[eV aG,dU (h aG c an)];rfl
 ·rw[dU aG];rfl
def af9{d:ap}(h:d.k=4->∀ c∈ks,c.d.k≠0)(ab:d.k=4\/d.k=5->2<=ks.length)(ag:d.bare=d):hj d ks=.mk d ks:=by
 rw[za,filter_all h,ag];split
 ·rename_i ew;have:=ab ew
  match ks,this with
  |a::b::l,_=>rfl
 ·rfl
def OM:l1 T->fG T->jd T->T.fold hj=T:=by
 induction T using aD.ind with
 |h d ks aF=>
  intro h aK ag;obtain⟨aa,ab⟩:=h.inv;obtain⟨zc,fR⟩:=aK.inv;obtain⟨b1,bT⟩:=ag.inv;have e:ks.map (aD.fold hj)=ks:=by have:ks.map (aD.fold hj)=ks.map id:=fO λc an=>aF c an (ab c an) (fR c an) (bT c an);rw[this,FU]
  rw[aD.fold_eq,e];exact af9 (λaG c an dd=>(aa (.inl aG) c an).2 ⟨dd,aG⟩) (λew=>by have:=F4 ew zc;omega) b1
inductive DL(T P H:aD):Prop
 |a(h:T.d.k=3)(nA:P=H)(aC:l1 H)(aK:fG H)| b (h:T.d.k=4) (az:H.d.k≠0) (aG:H.d.k≠4) (he:mY H=0) (au:dA H+2=dA P)| c (h:H.d.k=T.d.k) (au:dA P+mY H<=dA H+3) (bq:dA H<=dA P)
def DL.done{P:aD}(h:DL T P H):dA P+mY H<=dA H+3:=by
 rcases h with⟨h,rfl,aC,-⟩ | ⟨h,az,aG,he,au⟩ | ⟨h,au,-⟩
 ·rw[Gr aC];omega
 ·omega
 ·exact au
def ON{f:aD->Nat}:∀ (ks:List aD) (q:Nat) (x:aD) (h:q<ks.length),((ks.set q x).map f).sum+f ks[q]=(ks.map f).sum+f x:=λks q x h=>by have:=Gk (ks.map f) q (f x) (by rw[bE];exact h);rw[fr]at this;rw[o1];exact this
def au3{d:ap}(aN:q<ks.length){P:aD}(bp:l1 (.mk d ks))(ag:jd (.mk d ks))(aK:fG (.mk d ks))(h:DL ks[q] P H):DL (.mk d ks) (.mk d (ks.set q P)) (hj d (ks.set q H)):=by
 obtain⟨kK,iL⟩:=bp.inv;obtain⟨b1,-⟩:=ag.inv;obtain⟨zc,-⟩:=aK.inv;have AP:=h.done;have bq:dA H<=dA P:=by
  rcases h with⟨-,rfl,-,-⟩ | ⟨-,-,-,-,au⟩ | ⟨-,-,bq⟩;·exact b2 _
  ·omega
  ·exact bq
 have ax9:=ON (f:=dA) ks q P aN;have aya:=ON (f:=dA) ks q H aN;have ayb:=ON (f:=mY) ks q H aN;have ayc:(ks.map mY).sum=0:=by have:ks.map mY=ks.map λ_=>0:=fO λc an=>Gr (iL c an);rw[this];exact Ke ks
 have wJ:=Gr (iL _ (bi aN));have stay:(d.k=4->H.d.k≠0)->DL (.mk d ks) (.mk d (ks.set q P)) (hj d (ks.set q H)):=λlb=>by
  have ai:hj d (ks.set q H)=.mk d (ks.set q H):=by
   refine af9 (λaG c an=>?_) (λew=>by rw[n4];have:=F4 ew zc;omega) b1;rcases xj an with an | rfl;·exact λdd=>(kK (.inl aG) c an).2 ⟨dd,aG⟩
   ·exact lb aG
  rw[ai];refine .c rfl ?_ (by rw[kz,kz];omega);rw[kz,kz,OK];have ayd:(if d.k=4\/d.k=5 then(ks.set q H).countP (λc=>decide (c.d.k=d.k))else 0)<=(if(d.k=4\/d.k=5)/\H.d.k=d.k then 1 else 0):=by
   by_cases ew:d.k=4\/d.k=5
   ·rw[bN ew,OL];have s1:=ON (f:=λc:aD=>if c.d.k=d.k then 1 else 0) ks q H aN;have s2:(ks.map λc:aD=>if c.d.k=d.k then 1 else 0).sum=0:=by have:(ks.map λc:aD=>if c.d.k=d.k then 1 else 0)=ks.map λ_=>0:=fO λc an=>bS (kK ew c an).1;rw[this];exact Ke ks
    by_cases e:H.d.k=d.k;·rw[bN ⟨ew,e⟩];simp only[e,pO]at s1;omega
    ·rw[bS λh=>e h.2];simp only[e,l6]at s1;omega
   ·rw[bS ew];omega
  have oW:dA P+mY H+(if(d.k=4\/d.k=5)/\H.d.k=d.k then 1 else 0)<=dA H+3:=by
   by_cases e:(d.k=4\/d.k=5)/\H.d.k=d.k
   ·rw[bN e];rcases h with⟨h,rfl,aC,-⟩ | ⟨h,az,aG,he,au⟩ | ⟨h,au,-⟩
    ·rw[Gr aC];omega
    ·omega
    ·exact absurd (h.symm.trans e.2) (kK e.1 _ (bi aN)).1
   ·rw[bS e];exact AP
  omega
 by_cases aG:d.k=4/\H.d.k=0
 rotate_left
 ·exact stay λdc dd=>aG ⟨dc,dd⟩
 obtain⟨dc,dd⟩:=aG;rcases h with⟨h,rfl,aC,au4⟩ | ⟨h,az,-,-,-⟩ | ⟨h,-,-⟩
 ·
  have da:dA P=1:=by
   cases P with
   |mk gO st=>
   have:st=[]:=iq (ad5 dd au4.inv.1);subst this;rw[kz];rfl
  have c1:=F4 (.inl dc) zc;have aga:ks.set q P=ks.take q++P::ks.drop (q+1):=by rw[D8,bN aN]
  have eZ:ks=ks.take q++ks[q]::ks.drop (q+1):=by rw[<-e1 aN,rY]
  have Bo:∀ c∈ks.take q++ks.drop (q+1),c∈ks:=λc an=>by
   rcases cF.1 an with an | an;·exact K9 an
   ·exact List.mem_of_mem_drop an
  have au5:hh d P=false:=by unfold hh;rw[eV dc,eV dd];rfl
  have me:(ks.set q P).filter (hh d)=ks.take q++ks.drop (q+1):=by rw[aga,yy,o0,au5];have aA:=filter_all (d:=d) (ks:=ks.take q++ks.drop (q+1)) λ_ c an w6=>(kK (.inl dc) c (Bo c an)).2 ⟨w6,dc⟩;rw[yy]at aA;simpa using aA
  have uy:((ks.set q P).map dA).sum=((ks.take q++ks.drop (q+1)).map dA).sum+1:=by rw[aga];simp only[cP,bX,rZ,hI,da];omega
  have gC:(ks.take q++ks.drop (q+1)).length+1=ks.length:=by rw[b3,hT,tD];omega
  rw[za,bN (.inl dc),me,b1];generalize ks.take q++ks.drop (q+1)=bj at uy gC Bo
  match bj,gC,uy,Bo with
  |[],gC,_,_=>simp at gC;omega| [z],gC,uy,Bo=>have bb:=Bo z (.head _);refine .b dc (λw6=>(kK (.inl dc) z bb).2 ⟨w6,dc⟩) (λw6=>(kK (.inl dc) z bb).1 (w6.trans dc.symm)) (Gr (iL z bb)) ?_;rw[kz,uy];simp
  |tg::th::l,gC,uy,Bo=>
   have he:mY (.mk d (tg::th::l))=0:=by refine Gr (.mk (λew c an=>kK ew c (Bo c an)) λc an=>iL c (Bo c an))
   refine .c rfl ?_ ?_;·show dA (.mk d (ks.set q P))+mY (.mk d (tg::th::l))<=dA (.mk d (tg::th::l))+3;rw[he,kz,kz,uy];omega
   ·show dA (.mk d (tg::th::l))<=dA (.mk d (ks.set q P));rw[kz,kz,uy];omega
 ·exact absurd dd az
 ·exact absurd ⟨h.symm.trans dd,dc⟩ (kK (.inl dc) _ (bi aN)).2
def agb{Y:aD}(DM:l1 Y)(DN:fG Y)(Gs:jd Y):∀ (p:List Int) (T S:aD),l1 T->fG T->jd T->T.go p=some S->S.d.k=3->DL T (T.put p Y) ((T.put p Y).fold hj)
 |[],T,S,_,_,_,h,aj=>by rw[aD.go]at h;cases h;rw[aD.put];exact .a aj (OM DM DN Gs).symm (by rw[OM DM DN Gs];exact DM) (by rw[OM DM DN Gs];exact DN)
 |i::p,.mk d ks,S,aC,aK,ag,h,aj=>by
  rw[aD.go]at h;split at h
  ·rename_i hi;have hi:0<=i/\i<(ks.length:Int):=hi;obtain⟨q,rfl⟩:=ea hi.1;have aN:q<ks.length:=by omega
   have a4:ks.getD q (.mk d ks)=ks[q]:=by simp[bt,aN]
   have h:(ks.getD q (.mk d ks)).go p=some S:=h;rw[a4]at h;have hm:=bi aN;have aF:=agb DM DN Gs p _ S (aC.inv.2 _ hm) (aK.inv.2 _ hm) (ag.inv.2 _ hm) h aj;rw[aD.put];show DL _ (aD.mk d (ks.set q ((ks.getD q (.mk d ks)).put p Y))) ((aD.mk d (ks.set q ((ks.getD q (.mk d ks)).put p Y))).fold hj);rw[a4,aD.fold_eq,o1];have cn:ks.map (aD.fold hj)=ks:=by have:ks.map (aD.fold hj)=ks.map id:=fO λc an=>OM (aC.inv.2 c an) (aK.inv.2 c an) (ag.inv.2 c an);rw[this,FU]
   rw[cn];exact au3 aN aC ag aK aF
  ·cases h
def au6{Y:aD}(DM:l1 Y)(DN:fG Y)(Gs:jd Y)(aC:l1 T)(aK:fG T)(ag:jd T)(h:T.go p=some S)(aj:S.d.k=3):dA (T.put p Y)<=dA (T.put p Y).iS+3:=by have aa:=(agb DM DN Gs p T S aC aK ag h aj).done;have ab:=au2 (T.put p Y);omega
def mZ(w:ap->Nat)(d:ap)(xs:List Nat):Nat:=w d+xs.sum
def agc(w:ap->Nat){X S:aD}:∀ (p:List Int) (T:aD),T.go p=some S->(T.put p X).fold (mZ w)+S.fold (mZ w)=T.fold (mZ w)+X.fold (mZ w)
 |[],T,h=>by rw[aD.go]at h;cases h;rw[aD.put];omega
 |i::p,.mk d ks,h=>by
  rw[aD.go]at h;split at h
  ·rename_i hi;have hi:0<=i/\i<(ks.length:Int):=hi;obtain⟨q,rfl⟩:=ea hi.1;have aN:q<ks.length:=by omega
   have a4:ks.getD q (.mk d ks)=ks[q]:=by simp[bt,aN]
   have h:(ks.getD q (.mk d ks)).go p=some S:=h;have aF:=agc w (X:=X) p _ h;rw[aD.put];show(aD.mk d (ks.set q ((ks.getD q (.mk d ks)).put p X))).fold (mZ w)+_=_;rw[a4]at aF |-;rw[aD.fold_eq,aD.fold_eq,o1];have aj:=Gk (ks.map (aD.fold (mZ w))) q ((ks[q].put p X).fold (mZ w)) (by rw[bE];exact aN);rw[fr]at aj;unfold mZ at aj aF |-;omega
  ·cases h
def au7(w:ap->Nat)(hw:∀ d,w d.bare=w d)(ns:List ap):∀ T:aL,(T.bare ns).fold (mZ w)=(T.cG.map λx=>w (nodeAt ns x)).sum:=by
 intro T
 induction T using aL.ind with
 |h k ks aF=>
  rw[aL.mo,aD.fold_eq,aL.kY,cP,rZ,gh];have e:(ks.map (aD.fold (mZ w) ∘ aL.bare ns)).sum=((ks.flatMap aL.cG).map λx=>w (nodeAt ns x)).sum:=by
   clear k
   induction ks with
   |nil=>rfl| cons c ks JP=>rw[bX,hI,jT,cP,rZ,JP λx ad=>aF x (.tail _ ad),<-aF c (.head _)];rfl
  show w (nodeAt ns k).bare+(List.map (aD.fold (mZ w) ∘ aL.bare ns) ks).sum=_;rw[e,hw];simp;omega
def au8:∀ {T:aL},cy ns T->∀ p∈T.cG,∀ j:Nat,(j:Int)∈(nodeAt ns p).aw->j∈T.cG:=by
 intro T
 induction T using aL.ind with
 |h k ks aF=>
  intro h p aB j ai;rw[aL.kY]at aB |-;rcases cF.1 aB with aB | aB;·obtain⟨c,an,aB⟩:=g6.1 aB;exact iD _ (g6.2 ⟨c,an,aF c an (h.Ds c an) p aB j ai⟩)
  ·rw[ec]at aB;subst aB;have ae:=h.xu;have ae:(nodeAt ns p).aw=eM ks:=ae;rw[ae]at ai;obtain⟨c,an,e⟩:=cA.1 ai;have e:c.bh=j:=by omega
   refine iD _ (g6.2 ⟨c,an,?_⟩);rw[<-e];cases c with
   |mk l cs=>rw[aL.kY];exact oY _ (.head _)
def au9(h:hP t){T:aL}(aa:t.bA=(T.bh:Int))(ab:cy t.ns T)(aG:T.cG.Nodup):T.cG.Perm (List.range t.ns.length):=by
 refine(ND aG xZ).2 λj=>?_;rw[g8];constructor
 ·exact λai=>ab.lt j ai
 ·intro ai;refine h.down (P:=λj=>j∈T.cG) (λr af=>?_) (λp aB nA j tf=>?_) _ j ai (b2 _)
  ·have:r=T.bh:=by omega
   rw[this];cases T with
   |mk l cs=>rw[aL.kY];exact oY _ (.head _)
  ·exact au8 ab p nA j (by rw[gg aB];exact tf)
def OO(w:ap->Nat)(hw:∀ d,w d.bare=w d)(af:right t=true):(bV t).fold (mZ w)=(t.ns.map w).sum:=by have aV:=lP.1 af;obtain⟨T,aa,ab,aj,aG,bx⟩:=aV.vY;rw[aj,au7 w hw];have aB:=au9 aV aa ab aG;rw[(aB.map λx=>w (nodeAt t.ns x)).sum_nat];congr 1;refine lC (by simp) λi a b=>?_;rw[fr,vl,fr,gg (by simpa using b)]
def ava(T:aD):dA T=T.fold (mZ λ_=>1):=by
 have:ae8=mZ λ_=>1:=by funext d xs;show xs.sum+1=1+xs.sum;omega
 unfold dA;rw[this]
def Gt(af:right t=true):dA (bV t)=t.ns.length:=by
 rw[ava,OO (λ_=>1) (λ_=>rfl) af]
 induction t.ns with
 |nil=>rfl| cons a l aF=>rw[bX,hI,aF,c2];omega
def xF(nm:ByteArray)(d:ap):Nat:=if d.k=3/\d.t=nm then 1 else 0
def avb(nm:ByteArray):T9 (mZ (xF nm)):=by
 have az:∀ d:ap,d.k≠3->xF nm d=0:=λd h=>bS λe=>h e.1;refine⟨λd l=>rfl,?_,?_,?_,?_,?_⟩
 ·intro d x h;unfold mZ;rw[az d (by omega)];simp
 ·intro d gO xs ys e' h bc;unfold mZ;rw[az d (by omega),az gO (by omega)];simp
 ·intro d gO xs e' h bc;unfold mZ;rw[az d (by omega),az gO (by omega)];simp
 ·intro d gO h bc;unfold mZ;rw[az d (by omega),az gO (by omega)]
 ·intro d gO h bc _ _ _ _;unfold mZ;rw[az d (by omega),az gO (by omega)]
def OP(nm:ByteArray)(ns:List ap):Nat:=(ns.map (xF nm)).sum
def avc(hw:tm al g F)(hu:u<g.ds.length)(hk:mX al g u p=some X)(af:right t=true)(ax:bV t=X)(cB:(bV g.ds[u].t).go p=some S)(eb:q<g.ds.length)(aN:cr S.d.t g.ds 0=(q:Int))(nm:ByteArray) :
  OP nm t.ns+(if nm=S.d.t then 1 else 0)=OP nm g.ds[u].t.ns+OP nm g.ds[q].t.ns/\t.ns.length+1<=g.ds[u].t.ns.length+g.ds[q].t.ns.length/\g.ds[u].t.ns.length+g.ds[q].t.ns.length<=t.ns.length+4:=by
 obtain⟨kr,eA,aa,ab,aj,aG,bx,bZ,ek,nJ⟩:=J6 hw hu hk;rw[cB]at aa;cases aa;have e:eA=q:=by omega
 subst e;have nz:g.ds.getD eA gd=g.ds[eA]:=by simp[bt,aj]
 rw[nz]at nJ;have rn:=l3 hw.m (bi hu);have ju:=l3 hw.m (bi aj);have agd:=(JW.1 (U1 hw.m (bi hu))).2;have KW:=(JW.1 (U1 hw.m (bi aj))).2;have lr:=J5 (tl ju) p (tl rn);have avd:jd (bV g.ds[u].t):=by obtain⟨T,en,cE,gD,-⟩:=(lP.1 rn).vY;rw[gD];exact Ug _ _
 have ave:jd (bV g.ds[eA].t):=by obtain⟨T,en,cE,gD,-⟩:=(lP.1 ju).vY;rw[gD];exact Ug _ _
 refine⟨?_,?_,?_⟩
 ·have cM:=OO (xF nm) (λ_=>rfl) af;have d':=OO (xF nm) (λ_=>rfl) rn;have eh:=OO (xF nm) (λ_=>rfl) ju;rw[ax,nJ,ad9 (avb nm) lr]at cM;have g9:=agc (xF nm) (X:=bV g.ds[eA].t) p _ cB;have k2:S.fold (mZ (xF nm))=if nm=S.d.t then 1 else 0:=by
   cases S with
   |mk d ks=>
   have bZ:ks=[]:=bZ;subst bZ;rw[aD.fold_eq];have ab:d.k=3:=ab;show xF nm d+_=(if nm=d.t then 1 else 0);unfold xF;by_cases e:d.t=nm;·rw[bN ⟨ab,e⟩,bN e.symm];rfl
   ·rw[bS λh=>e h.2,bS λh=>e h.symm];rfl
  unfold OP;omega
 ·have b1:=Gt af;have bT:=Gt rn;have cw:=Gt ju;have hB:=On (X:=bV g.ds[eA].t) p _ cB;have eP:=afa ((bV g.ds[u].t).put p (bV g.ds[eA].t));rw[ax,nJ]at b1;have b6:=atN S;omega
 ·have b1:=Gt af;have bT:=Gt rn;have cw:=Gt ju;have hB:=On (X:=bV g.ds[eA].t) p _ cB;have eP:=au6 KW (tl ju) ave agd (tl rn) avd cB ab;rw[ax,nJ]at b1;have b6:dA S=1:=by
   cases S with
   |mk d ks=>
   have bZ:ks=[]:=bZ;subst bZ;rw[kz];rfl
  omega
def Vp(eW:h.ds.map aP.a0=(eN g.ds u bo).map aP.a0):h.ds.length=g.ds.length/\∀ k (ae:k<h.ds.length) (hg:k<g.ds.length),h.ds[k].name=g.ds[k].name/\(k≠u->h.ds[k].t.a0=g.ds[k].t.a0)/\(k=u->h.ds[k].t.a0=bo.a0):=by
 have ay:=congrArg List.length eW;rw[bE,bE,xx]at ay;refine⟨ay,λk ae hg=>?_⟩;have hm:=congrArg (λl:List aP=>l[k]?) eW;simp only[jR]at hm;rw[db ae]at hm;by_cases e:k=u
 ·subst e;rw[Dy hg]at hm;have hm:=fm hm;exact⟨(congrArg aP.name hm :),λh=>absurd rfl h,λ_=>(congrArg aP.t hm :)⟩
 ·rw[Dx e,db hg]at hm;have hm:=fm hm;exact⟨(congrArg aP.name hm :),λ_=>(congrArg aP.t hm :),λh=>absurd h e⟩
def age(hm:dj al g=0):lh g=(g.ds.map λd=>d.t.n).sum:=by unfold lh;congr 1;refine fO λd ak=>?_;unfold qT;rw[l3 hm ak];rfl
def avf(hu:u<g.ds.length)(zV:u<h.ds.length)(eW:h.ds.map aP.a0=(eN g.ds u bo).map aP.a0):(h.ds.map λd=>d.t.n).sum+g.ds[u].t.n=(g.ds.map λd=>d.t.n).sum+h.ds[u].t.n:=by
 obtain⟨ay,qx⟩:=Vp eW;have e:(h.ds.map λd=>d.t.n)=(g.ds.map λd=>d.t.n).set u h.ds[u].t.n:=by
  refine lC (by simp[ay]) λk aa ab=>?_;rw[bE]at aa;rw[fr,Hn,fr];split;·rename_i e;subst e;rfl
  ·rename_i e;have:=(qx k aa (by omega)).2.1 (λa4=>e a4.symm);exact(congrArg bP.n this :)
 have aj:=Gk (g.ds.map λd=>d.t.n) u h.ds[u].t.n (by rw[bE];exact hu);rw[fr]at aj;rw[e];exact aj
def nK(k:Int)(x:Int×Nat):Nat:=x.2+(bif gv k x.1 then 2 else 0)
def oO(sep:Nat)(k:Int):Bool->List (Int×Nat)->Nat
 |_,[]=>0| b,x::xs=>(bif b then sep else 0)+(nK k x+oO sep k true xs)
def Kf(al:List Int)(d:ap)(xs:List (Int×Nat)):Int×Nat:=(d.k,(kl al d).length+(oO (np d).length d.k false xs+(mK d).length))
def fH(al:List Int)(T:aD):Int×Nat:=T.fold (Kf al)
def Bp(al:List Int)(d:ap)(ks:List aD):fH al (.mk d ks)=(d.k,(kl al d).length+(oO (np d).length d.k false (ks.map (fH al))+(mK d).length)):=by unfold fH;rw[aD.fold_eq];rfl
def Vq(al:List Int)(T:aD):(fH al T).1=T.d.k:=by
 cases T with
 |mk d ks=>rw[Bp];rfl
def avg(w:Bool)(s:List UInt8):(paren w s).length=s.length+(bif w then 2 else 0):=by cases w<;>simp[paren]
def agf{ns:List ap}{sep:List UInt8}{g:Int->List UInt8}{v:Int->Int×Nat}{Ac:Int}:∀ (ks:List Int) (b:Bool),(∀ k∈ks,v k=(hA ns k,(g k).length))->(sT sep (λk=>paren (gv Ac (hA ns k)) (g k)) b ks).length=oO sep.length Ac b (ks.map v)
 |[],b,_=>rfl| k::ks,b,h=>by rw[sT,bX,oO,b3,b3,agf ks true λx ad=>h x (.tail _ ad),avg,h k (.head _)];unfold nK;cases b<;>simp
def avh{j:Nat}(h:j<ns.length):hA ns j=ns[j].k:=by unfold hA;simp[bt,h]
def avi(af:right t=true):∀ (j:Nat),j<t.ns.length->lH (0,0) (λd g=>Kf al d (d.aw.map g)) t.ns j=(hA t.ns j,(kM al t.ns j).length):=by
 intro j
 induction j using Nat.strongRecOn with
 |_ j aF=>intro ai;have ae:=(lP.1 af).aw j ai;rw[B8 (f:=λd g=>Kf al d (d.aw.map g)) (λd g dM h=>by rw[fO h]) af ai,Qa af ai,avh ai];unfold Kf Cf;rw[b3,b3];congr 1;congr 1;congr 1;refine(agf _ _ λk eX=>?_).symm;obtain⟨a,b⟩:=ae k eX;obtain⟨q,rfl⟩:=ea a;exact aF q (by omega) (by omega)
def Gu(af:right t=true):(i' al t).length=(fH al (bV t)).2:=by
 obtain⟨kw,hO⟩:=qP af;obtain⟨r,fE⟩:=ea kw;have aa:=avi (al:=al) af r (by omega);have ab:lH (0,0) (λd g=>Kf al d (d.aw.map g)) t.ns (r:Int)=fH al (bV t):=by unfold fH bV;rw[fE];exact adL (λd l=>rfl) (lP.1 af) (by omega)
 unfold i';rw[af,cb,fE,<-ab,aa]
def agh{sep:Nat}{k:Int}:∀ (xs:List (Int×Nat)) (b:Bool) (i:Nat) (y:Int×Nat) (h:i<xs.length),oO sep k b (xs.set i y)+nK k xs[i]=oO sep k b xs+nK k y
 |[],b,i,y,h=>absurd h (mS _)| x::xs,b,0,y,h=>by show(bif b then sep else 0)+(nK k y+oO sep k true xs)+nK k x=(bif b then sep else 0)+(nK k x+oO sep k true xs)+nK k y;omega
 |x::xs,b,i+1,y,h=>by have:=agh (sep:=sep) (k:=k) xs true i y (by simpa using h);show(bif b then sep else 0)+(nK k x+oO sep k true (xs.set i y))+nK k (xs[i]'(by simpa using h))=(bif b then sep else 0)+(nK k x+oO sep k true xs)+nK k y;omega
def agi{al:List Int}{X S:aD}:∀ (p:List Int) (T:aD),T.go p=some S->(fH al (T.put p X)).2+(fH al S).2<=(fH al T).2+(fH al X).2+2/\(p≠[]->(T.put p X).d.k=T.d.k)
 |[],T,h=>by rw[aD.go]at h;cases h;rw[aD.put];exact⟨by omega,λh=>absurd rfl h⟩
 |i::p,.mk d ks,h=>by
  rw[aD.go]at h;split at h
  ·rename_i hi;have hi:0<=i/\i<(ks.length:Int):=hi;obtain⟨q,rfl⟩:=ea hi.1;have aN:q<ks.length:=by omega
   have a4:ks.getD q (.mk d ks)=ks[q]:=by simp[bt,aN]
   have aF:=agi (al:=al) (X:=X) p _ h;have aF:(fH al ((ks.getD q (.mk d ks)).put p X)).2+(fH al S).2<=(fH al (ks.getD q (.mk d ks))).2+(fH al X).2+2/\(p≠[]->((ks.getD q (.mk d ks)).put p X).d.k=(ks.getD q (.mk d ks)).d.k):=aF;have h:(ks.getD q (.mk d ks)).go p=some S:=h;rw[aD.put];refine⟨?_,λ_=>rfl⟩;show(fH al (aD.mk d (ks.set q ((ks.getD q (.mk d ks)).put p X)))).2+_<=_;rw[a4]at aF h |-;rw[Bp,Bp,o1];have aj:=agh (sep:=(np d).length) (k:=d.k) (ks.map (fH al)) false q (fH al (ks[q].put p X)) (by rw[bE];exact aN);rw[fr]at aj;simp only;have aG:nK d.k (fH al (ks[q].put p X))+(fH al S).2<=nK d.k (fH al ks[q])+(fH al X).2+2:=by
    by_cases aB:p=[]
    ·subst aB;rw[aD.go]at h;cases h;rw[aD.put];unfold nK;cases gv d.k (fH al X).1<;>simp<;>omega
    ·have bx:=aF.2 aB;have bZ:=aF.1;unfold nK;rw[Vq,Vq,bx];omega
   omega
  ·cases h
def DO(k:Int)(xs:List (Int×Nat)):Nat:=(xs.map (nK k)).sum
def agj(k:Int)(x:Int×Nat)(xs:List (Int×Nat)):DO k (x::xs)=nK k x+DO k xs:=rfl
def agk(sep:Nat)(k:Int):∀ xs,oO sep k true xs=DO k xs+sep*xs.length
 |[]=>by rw[oO];simp[DO]
 |x::xs=>by rw[oO,agk sep k xs,agj,c2,zO];simp only[cb];omega
def avj(sep:Nat)(k:Int){xs:List (Int×Nat)}(h:xs≠[]):oO sep k false xs+sep=DO k xs+sep*xs.length:=by
 cases xs with
 |nil=>exact absurd rfl h| cons x xs=>rw[oO,agk,agj,c2,zO];simp only[b5];omega
def iT(al:List Int)(k:Int)(T:aD):Nat:=nK k (fH al T)
def Gv(al:List Int)(k:Int)(T:aD):iT al k T=(fH al T).2+(bif gv k T.d.k then 2 else 0):=by unfold iT nK;rw[Vq]
def avk{k:Int}:iT al k T<=(fH al T).2+2:=by rw[Gv];cases gv k T.d.k<;>simp
def Gw{k:Int}:(fH al T).2<=iT al k T:=by rw[Gv];omega
def nL(al:List Int)(k:Int)(ks:List aD):Nat:=(ks.map (iT al k)).sum
def avl(al:List Int)(k:Int)(ks:List aD):DO k (ks.map (fH al))=nL al k ks:=by unfold DO nL;rw[gh];rfl
def xG(al:List Int)(k:Int)(c:aD)(ks:List aD):nL al k (c::ks)=iT al k c+nL al k ks:=rfl
def agl{al:List Int}{k:Int}{f:aD->aD}:∀ {ks:List aD},(∀ c∈ks,iT al k (f c)<=iT al k c)->nL al k (ks.map f)<=nL al k ks
 |[],_=>b2 _| c::ks,h=>by have aa:=h c (.head _);have ab:=agl (ks:=ks) λx ad=>h x (.tail _ ad);rw[bX,xG,xG];omega
def Vr(al:List Int)(d:ap):(fH al (.mk d [])).2=(kl al d).length+(mK d).length:=by rw[Bp];show(kl al d).length+(oO _ _ false []+(mK d).length)=_;rw[oO,cX]
def Kg(al:List Int)(d:ap)(h:ks≠[]):(fH al (.mk d ks)).2+(np d).length=(kl al d).length+(mK d).length+nL al d.k ks+(np d).length*ks.length:=by have aa:=avj (np d).length d.k (xs:=ks.map (fH al)) (by simpa using h);rw[avl,bE]at aa;rw[Bp];simp only;omega
def Kh{k:Int}{kB:aD}(ae:T.d.k=kB.d.k)(h:(fH al T).2<=(fH al kB).2):iT al k T<=iT al k kB:=by rw[Gv,Gv,ae];omega
def Vs{d:ap}{st:List aD}(h:nL al d.k ks+(np d).length*ks.length<=nL al d.k st+(np d).length*st.length)(aC:st=[]->ks=[]):(fH al (.mk d ks)).2<=(fH al (.mk d st)).2:=by
 by_cases cQ:st=[]
 ·rw[aC cQ,cQ];exact b2 _
 ·have aa:=Kg al d cQ;by_cases e:ks=[]
  ·subst e;rw[Vr];have:(np d).length*1<=(np d).length*st.length:=Nat.mul_le_mul_left _ (List.length_pos_iff.2 cQ);omega
  ·have ab:=Kg al d e;omega
def Vt(al:List Int)(d:ap)(ks:List aD):fH al (.mk d.bare ks)=fH al (.mk d ks):=by rw[Bp,Bp];rfl
def avm(h:c.d.k=0):2<=(fH al c).2:=by
 cases c with
 |mk d ks=>
 have h:d.k=0:=h;have:2<=(kl al d).length:=by unfold kl;rw[h];show 2<=(yj d.t).length;unfold yj;simp only[b3,c2,fs];omega
 rw[Bp];simp only;omega
def agm{al:List Int}{k:Int}{p:aD->Bool}:∀ (xs:List aD),(∀ c∈xs,p c=false->2<=iT al k c)->nL al k (xs.filter p)+2*(xs.length-(xs.filter p).length)<=nL al k xs/\(xs.filter p).length<=xs.length
 |[],_=>⟨b2 _,b2 _⟩
 |c::xs,h=>by
  obtain⟨aa,ab⟩:=agm xs λx ad=>h x (.tail _ ad);rw[o0,xG];split;·rw[xG,c2,c2];omega
  ·rename_i e;have:=h c (.head _) (by simpa using e);rw[c2];omega
def avn(d:ap)(xs:List aD)(aC:d.k=4\/d.k=5->2<=xs.length)(k:Int):iT al k (hj d xs)<=iT al k (.mk d xs):=by
 rw[za];split
 ·rename_i ew;have ab:=aC ew;have bs:xs≠[]:=λe=>by rw[e]at ab;simp at ab
  have iO:=Kg al d bs;by_cases aG:d.k=4
  rotate_left
  ·have aA:xs.filter (hh d)=xs:=Sv.2 λc _=>by unfold hh;rw[dU aG];rfl
   rw[aA]
   match xs,ab with
   |tg::th::l,_=>exact Kh rfl (by rw[Vt];exact b2 _)
  ·have agn:(np d).length=1:=by unfold np;rw[aG];rfl
   obtain⟨f1,f2⟩:=agm (al:=al) (k:=d.k) (p:=hh d) xs λc an ae=>by
    have:c.d.k=0:=by unfold hh at ae;rw[aG]at ae;simpa using ae
    exact jf (avm this) Gw
   rw[agn]at iO;generalize xs.filter (hh d)=bj at f1 f2
   match bj,f1,f2 with
   |[],f1,f2=>
    have e:iT al k (.mk (nothing (d.k-4)).bare [])=2:=by
     rw[Gv,Vr,aG];have:gv k 0=false:=by
      unfold gv;cases decide (k=5)<;>cases decide (k=4)<;>cases decide (k=7)<;>cases decide (k=8)<;>cases decide (k=6)<;>rfl
     show _+(bif gv k 0 then 2 else 0)=2;rw[this];rfl
    rw[e];have bx:(fH al (.mk d xs)).2<=iT al k (.mk d xs):=Gw;simp only[nL,hx,B7,fs]at f1;unfold nL at iO;omega
   |[y],f1,f2=>show iT al k y<=_;have bx:(fH al (.mk d xs)).2<=iT al k (.mk d xs):=Gw;have bZ:iT al k y<=(fH al y).2+2:=avk;have ek:(fH al y).2<=iT al d.k y:=Gw;rw[xG]at f1;simp only[c2,fs]at f1 f2;omega| tg::th::l,f1,f2=>refine Kh rfl ?_;rw[Vt];refine Vs ?_ λe=>absurd e bs;rw[agn];omega
 ·exact Kh rfl (by rw[Vt];exact b2 _)
def avo{d:ap}(h:d.k=4\/d.k=5)(aA:Go.V.fits d n=true):2<=n:=by
 unfold Go.V.fits at aA;rcases h with h | h<;>rw[h]at aA<;>simp[oj,rT]at aA
 ·have aa:kJ[8]?.getD 0=2:=rfl;rw[aa]at aA;omega
 ·have aa:kJ[10]?.getD 0=2:=rfl;rw[aa]at aA;omega
def avp:∀ {T:aD},fG T->∀ k,iT al k (T.fold hj)<=iT al k T:=by
 intro T
 induction T using aD.ind with
 |h d ks aF=>intro bp k;obtain⟨aA,ae⟩:=bp.inv;rw[aD.fold_eq];refine jf (avn d _ (λh=>by rw[bE];exact avo h aA) k) ?_;refine Kh rfl (Vs ?_ λe=>by rw[e];rfl);rw[bE];have:=agl (al:=al) (k:=d.k) (f:=aD.fold hj) (ks:=ks) λc an=>aF c an (ae c an) d.k;omega
def DP(k:Int):Nat:=(r1 (k.toNat*3+1)).length
def ago(al:List Int)(k:Int):∀ a b:List aD,nL al k (a++b)=nL al k a+nL al k b
 |[],b=>by show _=0+_;rw[cX];rfl
 |c::a,b=>by rw[mF,xG,xG,ago al k a b];omega
def Vu{al:List Int}{k:Int}{s:Nat}{f:aD->List aD}:∀ {ks:List aD},(∀ c∈ks,nL al k (f c)+s*(f c).length<=iT al k c+s)->nL al k (ks.flatMap f)+s*(ks.flatMap f).length<=nL al k ks+s*ks.length
 |[],_=>b2 _| c::ks,h=>by have aa:=h c (.head _);have ab:=Vu (ks:=ks) λx ad=>h x (.tail _ ad);rw[jT,ago,xG,b3,c2,zO,zO];omega
def avq:∀ T:aD,(∀ k,iT al k T.bn<=iT al k T)/\∀ cd:Option Int,∀ k,(∀ q,cd=some q->q=k)->nL al k (T.e0 cd)+DP k*(T.e0 cd).length<=iT al k T+DP k:=by
 intro T
 induction T using aD.ind with
 |h d ks aF=>
  have ky:∀ k,iT al k (aD.mk d ks).bn<=iT al k (.mk d ks):=λk=>by
   show iT al k (.mk d (ks.flatMap (aD.e0 (gR d))))<=_;refine Kh rfl (Vs ?_ λe=>by rw[e];rfl);refine Vu λc an=>?_;refine(aF c an).2 (gR d) d.k λq aN=>?_;unfold gR at aN;split at aN;·exact(fm aN).symm
   ·cases aN
  refine⟨ky,λcd k jo=>?_⟩;rw[aD.oH];split
  ·rename_i e;have e:=jo _ e.symm;have aa:=Vu (al:=al) (k:=k) (s:=DP k) (f:=aD.e0 cd) (ks:=ks) λc an=>(aF c an).2 cd k jo;by_cases aC:ks=[]
   ·subst aC;show 0+DP k*0<=_;omega
   ·have ab:=Kg al d aC;have aj:(fH al (.mk d ks)).2<=iT al k (.mk d ks):=Gw;have aG:(np d).length=DP k:=by unfold np DP;rw[e]
    rw[e,aG]at ab;omega
  ·have:=ky k;rw[xG];show _+0+DP k*1<=_;omega
def avr(bp:fG T):(fH al T.iS).2<=(fH al T).2:=by
 have aa:=(avq (al:=al) (T.fold hj)).1 0;have ab:=avp (al:=al) bp 0;have aj:∀ S:aD,iT al 0 S=(fH al S).2:=λS=>by rw[Gv];rfl
 rw[aj,aj]at aa;rw[aj,aj]at ab;exact jf aa ab
def Bq(xs:List Nat):Nat:=xs.foldr max 0
def agp(x:Nat)(xs:List Nat):Bq (x::xs)=max x (Bq xs):=rfl
def Vv{b:Nat}:∀ {xs:List Nat},Bq xs<=b ↔ ∀ x∈xs,x<=b
 |[]=>⟨λ_ x h=>(by cases h),λ_=>dw _⟩| x::xs=>by rw[agp,List.forall_mem_cons,<-Vv (xs:=xs)];omega
def agq{xs:List Nat}{x:Nat}(h:x∈xs):x<=Bq xs:=Vv.1 (b2 _) x h
def avs(_:ap)(xs:List Nat):Nat:=Bq xs+1
def gk(T:aD):Nat:=T.fold avs
def Ki(d:ap)(ks:List aD):gk (.mk d ks)=Bq (ks.map gk)+1:=by unfold gk;rw[aD.fold_eq];rfl
def OQ(T:aD):0<gk T:=by
 cases T with
 |mk d ks=>rw[Ki];omega
def Vw{d:ap}(h:c∈ks):gk c+1<=gk (.mk d ks):=by rw[Ki];have:=agq (y3 (f:=gk) h);omega
def Kj{d:ap}(h:∀ c∈ks,gk c<=b):gk (.mk d ks)<=b+1:=by
 rw[Ki];have:Bq (ks.map gk)<=b:=Vv.2 λx ad=>by obtain⟨c,an,rfl⟩:=cA.1 ad;exact h c an
 omega
def avt(d:ap)(xs:List aD)(h:∀ c∈xs,gk c<=b):gk (hj d xs)<=b+1:=by
 rw[za];split
 ·have aA:∀ c∈xs.filter (hh d),gk c<=b:=λc an=>h c (iE.1 an).1;generalize xs.filter (hh d)=bj at aA
  match bj,aA with
  |[],_=>exact Kj λc an=>by cases an
  |[y],h=>have:=h y (.head _);show gk y<=_;omega| tg::th::l,h=>exact Kj h
 ·exact Kj h
def avu:∀ T:aD,gk (T.fold hj)<=gk T:=by
 intro T
 induction T using aD.ind with
 |h d ks aF=>rw[aD.fold_eq,Ki];refine avt d _ λc an=>?_;obtain⟨e,he,rfl⟩:=cA.1 an;exact jf (aF e he) (agq (y3 he))
def avv:∀ T:aD,gk T.bn<=gk T/\∀ cd,∀ c∈T.e0 cd,gk c<=gk T:=by
 intro T
 induction T using aD.ind with
 |h d ks aF=>
  have ae:∀ cd,∀ c∈ks.flatMap (aD.e0 cd),gk c+1<=gk (.mk d ks):=λcd c an=>by obtain⟨e,he,an⟩:=g6.1 an;have aa:=(aF e he).2 cd c an;have ab:=Vw (d:=d) he;omega
  have ky:gk (aD.mk d ks).bn<=gk (.mk d ks):=by
   show gk (.mk d (ks.flatMap (aD.e0 (gR d))))<=_;have az:=OQ (.mk d ks);have:=Kj (d:=d) (b:=gk (.mk d ks)-1) (ks:=ks.flatMap (aD.e0 (gR d))) λc an=>by have:=ae _ c an;omega
   omega
  refine⟨ky,λcd c an=>?_⟩;rw[aD.oH]at an;split at an;·have:=ae cd c an;omega
  ·rw[ec]at an;rw[an];exact ky
def avw(T:aD):gk T.iS<=gk T:=jf (avv _).1 (avu T)
def agr{X S:aD}:∀ (p:List Int) (T:aD),T.go p=some S->gk (T.put p X)+1<=gk T+gk X
 |[],T,h=>by rw[aD.put];have:=OQ T;omega
 |i::p,.mk d ks,h=>by
  rw[aD.go]at h;split at h
  ·rename_i hi;have hi:0<=i/\i<(ks.length:Int):=hi;obtain⟨q,rfl⟩:=ea hi.1;have aN:q<ks.length:=by omega
   have a4:ks.getD q (.mk d ks)=ks[q]:=by simp[bt,aN]
   have aF:=agr (X:=X) p _ h;rw[aD.put];show gk (aD.mk d (ks.set q ((ks.getD q (.mk d ks)).put p X)))+_<=_;have aF:gk ((ks.getD q (.mk d ks)).put p X)+1<=gk (ks.getD q (.mk d ks))+gk X:=aF;rw[a4]at aF |-;have az:=Vw (d:=d) (bi aN);have hk:=OQ X;have:=Kj (d:=d) (b:=gk (.mk d ks)+gk X-2) (ks:=ks.set q (ks[q].put p X)) λc an=>by
    rcases xj an with an | rfl;·have:=Vw (d:=d) an;omega
    ·omega
   have:=OQ ks[q];omega
  ·cases h
def Vx:∀ (ds:List ap) (i:Nat) (eC:List Int) (j:Nat),j<i->(oo i ds eC).getD j 0=eC.getD j 0
 |[],i,eC,j,h=>rfl| d::ds,i,eC,j,h=>by rw[oo,Vx ds (i+1) _ j (by omega)];simp only[bt];rw[N5 (by omega)]
def ags{eC agt:List Int}:∀ (ks:List Int) (m:Int),(∀ k∈ks,eC.getD k.toNat 0=agt.getD k.toNat 0)->nk eC ks m=nk agt ks m
 |[],m,_=>rfl| k::ks,m,h=>by rw[nk,nk,h k (.head _)];exact ags ks _ λx ad=>h x (.tail _ ad)
def agu:∀ (ds:List ap) (i:Nat) (eC:List Int),eC.length=i+ds.length->(∀ m (h:m<ds.length),∀ k∈ds[m].aw,0<=k/\k<((i+m:Nat):Int))->∀ m (h:m<ds.length),(oo i ds eC).getD (i+m) 0=nk (oo i ds eC) ds[m].aw 0+1
 |[],i,eC,ay,ae,m,h=>absurd h (mS _)
 |d::ds,i,eC,ay,ae,m,h=>by
  rw[oo];cases m with
  |zero=>
   show(oo (i+1) ds (eC.set i (nk eC d.aw 0+1))).getD i 0=nk (oo (i+1) ds (eC.set i (nk eC d.aw 0+1))) d.aw 0+1;rw[Vx ds (i+1) _ i (by omega)];rw[c2]at ay;have e:(eC.set i (nk eC d.aw 0+1)).getD i 0=nk eC d.aw 0+1:=by rw[bt,List.getElem?_set_self (by omega)];rfl
   rw[e];congr 1;refine ags _ _ λk eX=>?_;have aa:=ae 0 (by simp) k eX;rw[Vx ds (i+1) _ _ (by omega)];simp only[bt];rw[N5 (by omega)]
  |succ m=>
   have oh:(eC.set i (nk eC d.aw 0+1)).length=i+1+ds.length:=by rw[n4,ay,c2];omega
   have:=agu ds (i+1) (eC.set i (nk eC d.aw 0+1)) oh (λm hm k eX=>by
    have:=ae (m+1) (by simpa using hm) k eX;exact⟨this.1,by omega⟩) m (by simpa using h)
   rw[show i+1+m=i+(m+1) by omega]at this;exact this
def agv{R:List Int}{ns:List ap}:∀ (ks:List aL) (m:Nat),(∀ c∈ks,R.getD c.bh 0=(gk (c.bare ns):Int))->nk R (ks.map λc=>(c.bh:Int)) (m:Int)=((max m (Bq (ks.map λc=>gk (c.bare ns))):Nat):Int)
 |[],m,_=>by show(m:Int)=((max m 0:Nat):Int);rw[Nat.max_zero]
 |c::ks,m,h=>by rw[bX,nk,bX,agp,gz,h c (.head _)];have:=agv ks (max m (gk (c.bare ns))) λx ad=>h x (.tail _ ad);rw[show max (m:Int) (gk (c.bare ns):Int)=((max m (gk (c.bare ns)):Nat):Int) by omega,this];omega
def agw(h:right t=true):depth t=(gk (bV t):Int):=by
 have aV:=lP.1 h;obtain⟨T,aa,ab,aj,aG,bx⟩:=aV.vY;unfold depth;rw[h,cb,aa,gz,aj];have e7:=agu t.ns 0 (List.replicate t.ns.length 0) (by simp) λm hm k ae=>by have:=aV.aw m hm k ae;rw[cX];exact this
 generalize oo 0 t.ns (List.replicate t.ns.length 0)=R at e7;clear aa aj aG bx
 induction T using aL.ind with
 |h k ks aF=>obtain⟨ae,sP,jY⟩:=ab.inv;show R.getD k 0=_;have bZ:=e7 k ae;rw[cX]at bZ;rw[bZ,aL.mo,Ki];rw[gg ae]at sP;rw[sP];have ek:=agv (R:=R) (ns:=t.ns) ks 0 λc an=>aF c an (jY c an);have fv:nk R (ks.map λc=>(c.bh:Int)) 0=_:=ek;rw[fv,gh,Nat.zero_max];rfl
def avx(h:dj al g=40):mL al g=true:=by
 unfold dj at h;cases aa:decide ((g.n:Int)=0)with
 |true=>rw[aa]at h;cases h
 |false=>
  rw[aa,b5]at h;cases ab:nr g.ds with
  |false=>rw[ab]at h;cases h
  |true=>
   rw[ab]at h;cases aj:mL al g with
   |true=>rfl
   |false=>
    rw[aj]at h;simp only[tE,b5]at h;split at h;·cases h
    ·rename_i aZ _;cases aG:qW aZ g.ds with
     |true=>rw[aG]at h;cases h| false=>rw[aG]at h;cases h
def avy{s:ByteArray}(h:jW s=true):1<=s.data.toList.length:=by
 unfold jW at h;simp only[cz,hq]at h;have aa:=h.1;cases e:s.data.toList with
 |nil=>refine absurd ?_ aa;refine Ca ?_;rw[e]| cons a l=>simp
def avz(al:List Int)(a b c d:Int):1<=(yk al a b c d).length:=by
 unfold yk;generalize(a == iv 0&&(b == iv 0&&(c == iv 0&&d == iv 0)))=x;cases x<;>simp
def agx(s:ByteArray):1<=(yj s).length:=by unfold yj;simp
def avA{d:ap}(az:0<=d.k)(aA:Go.V.fits d (0:Nat)=true):1<=(kl al d).length:=by
 have rU:d.k<10:=by
  unfold Go.V.fits at aA;cases e:decide (10<=d.k)with
  |true=>rw[e]at aA;cases aA| false=>have:=eu e;omega
 have ae:d.k=0\/d.k=1\/d.k=2\/d.k=3\/d.k=4\/d.k=5\/d.k=6\/d.k=7\/d.k=8\/d.k=9:=by omega
 unfold Go.V.fits at aA;rcases ae with h | h | h | h | h | h | h | h | h | h<;>rw[h]at aA
 ·unfold kl;rw[h];exact agx _
 ·unfold kl;rw[h];exact avz ..
 ·unfold kl;rw[h];exact agx _
 ·have hm:jW d.t=true:=by have aA:(jW d.t&&(d.qL&&(decide (d.lo=0)&&decide (d.hi=0))))=true:=aA;rw[cz]at aA;exact aA.1
  unfold kl;rw[h];exact avy hm
 ·exact absurd aA (by rw[show oj (4:Int).toNat=2 from rfl];simp)
 ·exact absurd aA (by rw[show oj (5:Int).toNat=2 from rfl];simp)
 ·exact absurd aA (by rw[show oj (6:Int).toNat=1 from rfl];simp)
 ·exact absurd aA (by rw[show oj (7:Int).toNat=1 from rfl];simp)
 ·exact absurd aA (by rw[show oj (8:Int).toNat=1 from rfl];simp)
 ·exact absurd aA (by rw[show oj (9:Int).toNat=1 from rfl];simp)
def agy:∀ {T:aD},fG T->hp (λd=>0<=d.k) T->1<=(fH al T).2:=by
 intro T
 induction T using aD.ind with
 |h d ks aF=>
  intro bp dv;obtain⟨aA,ae⟩:=bp.inv;obtain⟨az,dv⟩:=dv.inv;cases ks with
  |nil=>rw[Vr];have:=avA (al:=al) az aA;omega| cons c ks=>have aa:=Kg al d (ks:=c::ks) (by simp);have ab:=aF c (.head _) (ae c (.head _)) (dv c (.head _));have aj:(fH al c).2<=iT al d.k c:=Gw;rw[xG,c2,zO]at aa;omega
def v7(al:List Int)(d:aP):Nat:=(lJ al d).length
def agz{l:List UInt8}:strOf l=⟨#[]⟩ ↔ l=[]:=by
 constructor
 ·intro h;have:=congrArg (λs:ByteArray=>s.data.toList) h;simpa[strOf]using this
 ·rintro rfl;rfl
def agA(al:List Int):∀ (ds:List aP) (aZ:List UInt8),(kO al ds aZ).length<=aZ.length+(ds.map (v7 al)).sum
 |[],aZ=>b2 _
 |d::ds,aZ=>by
  rw[kO];cases decide (strOf (lJ al d)=⟨#[]⟩)with
  |true=>exact dw _| false=>have:=agA al ds (aZ++lJ al d);rw[b3]at this;rw[bX,hI];show _<=_+((lJ al d).length+_);exact jf this (by omega)
def agB(al:List Int):∀ (ds:List aP) (aZ:List UInt8),(∀ d∈ds,lJ al d≠[])->(kO al ds aZ).length=aZ.length+(ds.map (v7 al)).sum
 |[],aZ,_=>rfl| d::ds,aZ,h=>by rw[kO,dU (λe=>h d (.head _) (agz.1 e)),b5,agB al ds _ λx ad=>h x (.tail _ ad),b3,bX,hI];show _=_+((lJ al d).length+_);omega
def avB(al:List Int)(d:aP):v7 al d<=d.name.data.toList.length+5+(i' al d.t).length:=by
 unfold v7 lJ;cases decide (strOf (i' al d.t)=⟨#[]⟩) || !jW d.name with
 |true=>exact dw _| false=>simp only[b5,b3,c2,fs];omega
def agC{d:aP}(hm:jW d.name=true)(aB:1<=(i' al d.t).length):v7 al d=d.name.data.toList.length+5+(i' al d.t).length:=by
 have e:(decide (strOf (i' al d.t)=⟨#[]⟩) || !jW d.name)=false:=by rw[hm,dU λh=>by rw[agz.1 h]at aB;simp at aB];rfl
 unfold v7 lJ;rw[e];simp only[b5,b3,c2,fs];omega
def avC{f:aP->Nat}(hu:u<g.ds.length)(zV:u<h.ds.length)(ay:h.ds.length=g.ds.length)(aA:∀ k (aa:k<h.ds.length) (ab:k<g.ds.length),k≠u->f h.ds[k]=f g.ds[k]):(h.ds.map f).sum+f g.ds[u]=(g.ds.map f).sum+f h.ds[u]:=by
 have e:h.ds.map f=(g.ds.map f).set u (f h.ds[u]):=by
  refine lC (by simp[ay]) λk aa ab=>?_;rw[bE]at aa;rw[fr,Hn,fr];split;·rename_i e;subst e;rfl
  ·rename_i e;exact aA k aa (by omega) λa4=>e a4.symm
 have aj:=Gk (g.ds.map f) u (f h.ds[u]) (by rw[bE];exact hu);rw[fr]at aj;rw[e];exact aj
def avD(av:g.ok I)(hw:tm al g F)(hu:u<g.ds.length)(hk:mX al g u p=some X)(dK:oJ bo X)(hK:bo.ns.length=bo.n)(rl:h.n=g.n)(DH:h.ds.length=h.n)(an:h.ds.map aP.a0=(eN g.ds u bo).map aP.a0)
 (cB:(bV g.ds[u].t).go p=some S) (eb:q<g.ds.length) (aN:cr S.d.t g.ds 0=(q:Int))
  (gf:lh g+g.ds[q].t.n<=1024) (gn:depth g.ds[u].t+depth g.ds[q].t<=32) (ow:2*(kO al g.ds []).length<=8192):dj al h=0:=by
 obtain⟨s1,-,-,-⟩:=aeP hw hu hk dK hK rl DH an;refine s1.resolve_right λavE=>?_;have Vy:=avx avE;obtain⟨bw,Bg,CC⟩:=U2 hw hu hk;obtain⟨kr,eA,tT,yf,ajY,p4,p5,Yi,avF,nJ⟩:=J6 hw hu hk;rw[cB]at tT;cases tT;have e:eA=q:=by omega
 subst e;have nz:g.ds.getD eA gd=g.ds[eA]:=by simp[bt,eb]
 rw[nz]at nJ;have oz:∀ d∈g.ds,right d.t=true:=λd ak=>l3 hw.m ak;have rn:=oz _ (bi hu);have ju:=oz _ (bi eb);have to:=dK.right bw;have nX:=dK.bV bw Bg;obtain⟨ay,qx⟩:=Vp an;have Kk:u<h.ds.length:=by omega
 have Kl:h.ds[u].t.a0=bo.a0:=(qx u Kk hu).2.2 rfl;have agD:∀ {a b:bP},a.a0=b.a0->right b=true->right a=true:=fun {a b} e ag=>by rw[<-vu a,e,vu b];exact ag
 have Vz:∀ {a b:bP},a.a0=b.a0->bV a=bV b:=fun {a b} e=>by rw[<-OE a,e,OE b]
 have OR:∀ d∈h.ds,right d.t=true:=λd ak=>by
  obtain⟨k,ae,rfl⟩:=jv ak;by_cases e:k=u;·subst e;exact agD Kl to
  ·exact agD ((qx k ae (by omega)).2.1 e) (oz _ (bi _))
 have agE:bV h.ds[u].t=X:=by rw[Vz Kl,nX]
 obtain⟨-,b1,bT⟩:=avc hw hu hk to nX cB eb aN .empty;have agd:=(av.ds _ (bi hu)).t.n;have KW:=(av.ds _ (bi eb)).t.n;have aye:h.ds[u].t.n=bo.n:=(congrArg bP.n Kl :);have avG:=age hw.m;have dS:=avf hu Kk an;have ayf:g.ds[u].t.n<=lh g:=by rw[avG];exact NC (cA.2 ⟨_,bi hu,rfl⟩)
 have ayg:lh h=(h.ds.map λd=>d.t.n).sum:=by unfold lh;congr 1;refine fO λd ak=>?_;unfold qT;rw[OR d ak];rfl
 have DQ:=(y2.1 hw.m).2.2.1;have lq:=FK hw.m;unfold mL at DQ Vy;simp only[qN,PR,qz]at DQ;obtain⟨-,FA,ayh,ayi⟩:=DQ;have FA:=fi.1 FA;have u0:∀ {t:bP},right t=true->depth t=(gk (bV t):Int):=λh=>agw h;have en:(h.ds.all λd=>nl d.t)=true:=fi.2 λd ak=>by
  obtain⟨k,ae,rfl⟩:=jv ak;have eY:=OR _ (bi ae);unfold nl;by_cases e:k=u;·subst e;have d1:=u0 eY;rw[agE,nJ]at d1;have d2:=avw ((bV g.ds[k].t).put p (bV g.ds[eA].t));have d3:=agr (X:=bV g.ds[eA].t) p _ cB;have d4:=u0 rn;have d5:=u0 ju;rw[eY,eV (show h.ds[k].t.n<=1024 by omega),eV (show depth h.ds[k].t<=32 by omega)];rfl
  ·have agF:k<g.ds.length:=by omega
   have E2:=(qx k ae agF).2.1 e;have cY:=FA _ (bi agF);unfold nl at cY;simp only[cz,hq]at cY;have kK:h.ds[k].t.n=g.ds[k].t.n:=(congrArg bP.n E2 :);have d1:=u0 eY;have d2:=u0 cY.2.1;rw[Vz E2]at d1;rw[eY,eV (show h.ds[k].t.n<=1024 by omega),eV (show depth h.ds[k].t<=32 by omega)];rfl
 have cE:lh h<=1024:=by omega
 have gD:(kO al h.ds []).length<=8192:=by
  have avH:=(y2.1 hw.m).2.1;have h7:∀ d∈g.ds,jW d.name=true:=λd ak=>by have:=fi.1 avH d ak;rw[cz]at this;exact this.1
  have dv:∀ d∈g.ds,hp (λd=>0<=d.k) (bV d.t):=λd ak=>(Dz (oz d ak)).2 λn aC=>((av.ds d ak).t.ns n aC).k.1;have m6:∀ d∈g.ds,1<=(i' al d.t).length:=λd ak=>by rw[Gu (oz d ak)];exact agy (tl (oz d ak)) (dv d ak)
  have OS:∀ d∈g.ds,v7 al d=d.name.data.toList.length+5+(i' al d.t).length:=λd ak=>agC (h7 d ak) (m6 d ak);have a8:=agB al g.ds [] λd ak e=>by have aa:=OS d ak;unfold v7 at aa;rw[e]at aa;simp at aa;omega
  have ba:=agA al h.ds [];have bR:=avC (f:=v7 al) hu Kk ay λk aa ab bs=>by
   obtain⟨aJ,a4,-⟩:=qx k aa ab;have a4:=a4 bs;have hO:=OR _ (bi aa);have nx:=oz _ (bi ab);have t1:(i' al h.ds[k].t).length=(i' al g.ds[k].t).length:=by rw[Gu hO,Gu nx,Vz a4]
   rw[agC (by rw[aJ];exact h7 _ (bi ab)) (by rw[t1];exact m6 _ (bi ab)),OS _ (bi ab),t1,aJ]
  have fq:=avB al h.ds[u];rw[Gu (OR _ (bi Kk)),agE,nJ,(qx u Kk hu).1]at fq;have k9:=avr (al:=al) (J5 (tl ju) p (tl rn));have H3:=(agi (al:=al) (X:=bV g.ds[eA].t) p _ cB).1;have MY:1<=(fH al S).2:=agy (UZ p (tl rn) cB) (Oe p (dv _ (bi hu)) cB);have avI:=OS _ (bi hu);have avJ:=OS _ (bi eb);rw[Gu rn]at avI;rw[Gu ju]at avJ;have ayj:v7 al g.ds[eA]<=(g.ds.map (v7 al)).sum:=NC (cA.2 ⟨_,bi eb,rfl⟩);simp only[fs,cX]at a8 ba;omega
 rw[en,dU (show ¬ 64<h.n by omega),dU (show ¬ 1024<lh h by omega),dU (show ¬ 8192<(kO al h.ds []).length by omega)]at Vy;cases Vy
def hp.VA{P Q:ap->Prop}(h:∀ d,P d->Q d):∀ {T:aD},hp P T->hp Q T:=by
 intro T
 induction T using aD.ind with
 |h d ks aF=>intro bp;obtain⟨a,b⟩:=bp.inv;exact .mk (h d a) λc an=>aF c an (b c an)
def avK{a:Nat}(h:Comes L a b):∀ {c:Nat},Comes L b c->Comes L a c:=by
 intro c an
 induction an with
 |self=>exact h| next _ ae aF=>exact .next aF ae
def agG(aC:g.ds.length=g.n)(hm:dj al g=0){i:Nat}(hi:i<g.ds.length):jx al g (i:Int)=true ↔ ∃ k:Nat,(k:Int)∈(gi g).getD i []/\Comes (gi g) k i:=by
 have gC:(gi g).length=g.ds.length:=by simp[gi]
 have cc:=ED aC;have e8:z8 (i:Int) g.n=true:=by unfold z8;simp;omega
 have ah:valid (gi g).length ((gi g).getD i []):=cc _ (by rw[bt,db (by omega)];exact bi _);unfold jx;rw[e8,eV hm,gz];show((gi g).getD i []).any _=true ↔ _;rw[vM];constructor
 ·rintro⟨k,ae,h⟩;obtain⟨a,b⟩:=ah k ae;obtain⟨q,rfl⟩:=ea a;exact⟨q,ae,((Cr cc (i:=q) (by omega)).iff i).1 h⟩
 ·rintro⟨q,ae,h⟩;obtain⟨a,b⟩:=ah _ ae;exact⟨_,ae,((Cr cc (i:=q) (by omega)).iff i).2 h⟩
def avL{OT:List (List Int)}(h:∀ i k:Nat,(k:Int)∈OT.getD i []->(k:Int)∈L.getD i []\/((q:Int)∈L.getD i []/\(k:Int)∈L.getD q [])){i:Nat}:(∃ k:Nat,(k:Int)∈OT.getD i []/\Comes OT k i)->∃ k:Nat,(k:Int)∈L.getD i []/\Comes L k i:=by
 have an:∀ {a b:Nat},Comes OT a b->Comes L a b:=λan=>by
  induction an with
  |self=>exact .self
  |next _ ae aF=>
   rcases h _ _ ae with aa | ⟨aa,ab⟩;·exact .next aF aa
   ·exact .next (.next aF aa) ab
 rintro⟨k,ae,iY⟩;have iY:=an iY;rcases h _ _ ae with aa | ⟨aa,ab⟩
 ·exact⟨k,aa,iY⟩
 ·exact⟨q,aa,avK (.next .self ab) iY⟩
def avM(hw:tm al g F)(hu:u<g.ds.length)(hk:mX al g u p=some X)(dK:oJ bo X)(rl:h.n=g.n)(an:h.ds.map aP.a0=(eN g.ds u bo).map aP.a0)(OU:dj al h=0){k:Nat}(ae:k<g.ds.length)(au:jx al h (k:Int)=true):jx al g (k:Int)=true:=by
 obtain⟨bw,Bg,-⟩:=U2 hw hu hk;obtain⟨S,q,tT,yf,eb,p4,p5,Yi,avF,nJ⟩:=J6 hw hu hk;have nz:g.ds.getD q gd=g.ds[q]:=by simp[bt,eb]
 rw[nz]at nJ;obtain⟨ay,qx⟩:=Vp an;have fl:=hw.n;have DH:h.ds.length=h.n:=by omega
 have rn:=l3 hw.m (bi hu);have ju:=l3 hw.m (bi eb);have to:=dK.right bw;have nX:=dK.bV bw Bg;have avN:h.ds.map aP.name=g.ds.map aP.name:=lC (by simp[ay]) λi aa ab=>by rw[fr,fr];exact(qx i (by simpa using aa) (by simpa using ab)).1
 have avO:∀ nm,cr nm h.ds 0=cr nm g.ds 0:=λnm=>JX nm h.ds g.ds 0 avN;rw[agG DH OU (by omega)]at au;rw[agG fl hw.m ae];refine avL (q:=q) (λi j ai=>?_) au;have ayk:(gi h).length=h.ds.length:=by simp[gi]
 by_cases hi:i<h.ds.length
 rotate_left
 ·rw[bt,qA (by omega)]at ai;cases ai
 have DR:i<g.ds.length:=by omega
 have ez:j<h.ds.length:=by have ah:=ED DH _ (show(gi h)[i]'(by omega)∈gi h from bi _);rw[bt,db (by omega)]at ai;have:=ah _ ai;omega
 have VB:j<g.ds.length:=by omega
 obtain⟨ca,bH,aj,aA⟩:=(F8 (al:=al) DH hi ez).1 ai;rw[avO]at aA;by_cases e:i=u
 rotate_left
 ·refine .inl ((F8 (al:=al) fl DR VB).2 ?_);have a4:=(qx i hi DR).2.1 e;have cn:h.ds[i].t.ns.map ap.a0=g.ds[i].t.ns.map ap.a0:=congrArg bP.ns a4;have bx:ca.a0∈g.ds[i].t.ns.map ap.a0:=by rw[<-cn];exact y3 bH
  obtain⟨m,hm,dc⟩:=cA.1 bx;have jX:m.k=ca.k:=(congrArg ap.k dc :);have kt:m.t=ca.t:=(congrArg ap.t dc :);exact⟨m,hm,by rw[jX];exact aj,by rw[kt];exact aA⟩
 ·subst e;have Kl:=(qx i hi DR).2.2 rfl;have cn:h.ds[i].t.ns.map ap.a0=bo.ns.map ap.a0:=congrArg bP.ns Kl;have bx:ca.a0∈bo.ns.map ap.a0:=by rw[<-cn];exact y3 bH
  obtain⟨m,hm,dc⟩:=cA.1 bx;have jX:m.k=ca.k:=(congrArg ap.k dc :);have kt:m.t=ca.t:=(congrArg ap.t dc :);have e8:∀ (a:Nat) (a6:a<g.ds.length),hp (λd=>d.k=3->(∃ e∈g.ds[a].t.ns,e.k=3/\e.t=d.t)) (bV g.ds[a].t):=λa a6=>(Dz (l3 hw.m (bi a6))).2 λd ak aj=>⟨d,ak,aj,rfl⟩;let P:ap->Prop:=λd=>d.k=3->(∃ e∈g.ds[i].t.ns,e.k=3/\e.t=d.t)\/(∃ e∈g.ds[q].t.ns,e.k=3/\e.t=d.t)
  have nA:hp P (bV bo):=by rw[nX,nJ];refine ael (λd ak=>ak) (λh=>by cases h) (λh=>by cases h) (UG ((e8 q eb).VA λd ak aj=>.inr (ak aj)) p ((e8 i DR).VA λd ak aj=>.inl (ak aj)))
  have qg:=(Dz to).1 nA m hm (show m.k=3 by rw[jX];exact aj);have q0:cr m.t g.ds 0=(j:Int):=by rw[kt];exact aA
  rcases qg with⟨e,he,a,b⟩ | ⟨e,he,a,b⟩;·exact .inl ((F8 (al:=al) fl DR VB).2 ⟨e,he,a,by rw[b];exact q0⟩)
  ·refine .inr ⟨(F8 (al:=al) fl DR eb).2 ?_,(F8 (al:=al) fl eb VB).2 ⟨e,he,a,by rw[b];exact q0⟩⟩;have Ja:=Oe p (e8 i DR) tT;have Jb:∃ e∈g.ds[i].t.ns,e.k=3/\e.t=S.d.t:=by
    cases S with
    |mk d ks=>exact Ja.inv.1 yf
   obtain⟨x,ad,aeY,Gf⟩:=Jb;exact⟨x,ad,aeY,by rw[Gf];exact p4⟩
def agH:∀ (ks:List aD) (i j:Nat) (h:j<ks.length) (p:List Int),p∈ks[j].paths->((i+j:Nat):Int)::p∈aD.uD i ks
 |c::ks,i,0,h,p,aB=>by rw[aD.J8];exact iD _ (cA.2 ⟨p,aB,rfl⟩)
 |c::ks,i,j+1,h,p,aB=>by rw[aD.J8];have:=agH ks (i+1) j (by simpa using h) p aB;rw[show i+1+j=i+(j+1) by omega]at this;exact oY _ this
def avP:∀ T:aD,hp (λd=>∃ p∈T.paths,∃ S,T.go p=some S/\S.d=d) T:=by
 intro T
 induction T using aD.ind with
 |h d ks aF=>
  refine .mk ⟨[],by rw[aD.DI];exact .head _,_,by rw[aD.go],rfl⟩ λc an=>?_;obtain⟨j,ai,rfl⟩:=jv an;refine(aF _ an).VA λe he=>?_;obtain⟨p,aB,S,cB,rfl⟩:=he;refine⟨(j:Int)::p,?_,S,?_,rfl⟩;·rw[aD.DI];have:=agH ks 0 j ai p aB;rw[cX]at this;exact .tail _ this
  ·rw[aD.go,bN (show 0<=(j:Int)/\(j:Int)<((aD.mk d ks).sub.length:Int)from⟨by omega,by show(j:Int)<(ks.length:Int);omega⟩)];show(ks.getD j (.mk d ks)).go p=some S;rw[show ks.getD j (.mk d ks)=ks[j] by simp[bt,ai]];exact cB
def agI:∀ (ds:List aP) (i j:Nat) (h:j<ds.length) (p:List Int),p∈(bV ds[j].t).paths->(i+j,p)∈k0 i ds
 |d::ds,i,0,h,p,aB=>by rw[k0];exact iD _ (cA.2 ⟨p,aB,rfl⟩)
 |d::ds,i,j+1,h,p,aB=>by rw[k0];have:=agI ds (i+1) j (by simpa using h) p aB;rw[show i+1+j=i+(j+1) by omega]at this;exact oY _ this
def agJ(t:bP):0<=depth t:=by
 cases h:right t with
 |true=>rw[agw h];omega| false=>unfold depth;rw[h];exact Int.le_refl _
def avQ(av:g.ok I)(hw:tm al g F)(az:ls al g=[]){k:Nat}(ae:k<g.ds.length){d:ap}(ak:d∈g.ds[k].t.ns)(aj:d.k=3)(eb:q<g.ds.length)(aN:cr d.t g.ds 0=(q:Int))(au:jx al g (q:Int)=false)
  (gf:lh g+g.ds[q].t.n<=1024) (gn:depth g.ds[k].t+depth g.ds[q].t<=32) (ow:2*(kO al g.ds []).length<=8192):False:=by
 have af:=l3 hw.m (bi ae);obtain⟨p,aB,S,cB,JO⟩:=(Dz af).1 (avP (bV g.ds[k].t)) d ak;have Cx:g.ds.getD k gd=g.ds[k]:=by simp[bt,ae]
 have nz:g.ds.getD q gd=g.ds[q]:=by simp[bt,eb]
 have agK:S.d.t=d.t:=by rw[JO];rfl
 have avR:S.d.k=3:=by rw[JO];exact aj
 have xU:qp al g d.t=some q:=by unfold qp;rw[bS (λh=>h.elim (λh=>by omega) λh=>by rw[aN,au]at h;cases h),aN];rfl
 have hk:mX al g k p=some (((bV g.ds[k].t).put p (bV g.ds[q].t)).iS):=by unfold mX;rw[Cx,cB];show qq al g k p S.d=_;unfold qq;rw[bN avR,agK,xU,Cx];show some (((bV g.ds[k].t).put p (bV (g.ds.getD q gd).t)).iS)=_;rw[nz]
 generalize afj:((bV g.ds[k].t).put p (bV g.ds[q].t)).iS=X at hk;have dK:oJ (ko X.post) X:=⟨lC (by simp[ko]) λi aa ab=>by rw[fr];exact Ue X _ (bi _),rfl⟩;have ay:=xx g.ds k (ko X.post);have hm:=avD av hw ae hk dK rfl (h:=nH (eN g.ds k (ko X.post))) (by show(eN g.ds k (ko X.post)).length=g.n;rw[ay];exact hw.n) rfl rfl cB eb (by rw[agK];exact aN) gf gn ow;have ag:oN al g (k,p)=true:=by unfold oN;rw[hk];exact eV hm
 have fo:(k,p)∈ls al g:=iE.2 ⟨by
  have:=agI g.ds 0 k ae p aB;rw[cX]at this;exact this,ag⟩
 rw[az]at fo;cases fo
def avS(bp:fW I hL)(ur:s3 I g):wc Tryz.prog 7 [g.val] I [] λv _ _=>v=.bool true:=by
 refine zr [] a7 Tryz.func7 rfl rfl rfl ?_;intro B az;refine bd.mk [] [] _ (.refl _) (aue ur) ?_;rintro v J N -⟨⟨r,rfl,af⟩,x4,afD⟩;subst J;subst N;cases r with
 |true=>refine cj.mk (λh=>absurd h (by simp)) (λ_=>?_);refine bd.mk [] [] _ (.refl _) (af6 bp) ?_;rintro v iy N -⟨rfl,h3,rfl⟩;exact⟨_,_,.refl,rfl⟩
 |false=>
 refine cj.mk (λ_=>?_) (λh=>absurd h (by simp));refine bd.mk [] [] _ (.refl _) (af6 bp) ?_;rintro v iy N -⟨rfl,h3,rfl⟩;refine a3.mk (λh=>by cases h) (λ_=>?_);have xR:=af rfl;have jK:=bp.mono h3;have av:=(ur.mono h3).Jo xR;have w4:=auB jK av xR;clear ur af xR av;refine dg.inv (ι:=Nat×cD×aM) (λx=>{ bj:=[(1,.ref 1 0),(3,.val (.int .i64 (x.1:Int)))],cl:=[(1,[.slice x.2.1.a x.2.1.n x.2.1.c])],cI:=x.2.2 }) (λx=>x.1<=12/\v3 hL x.2.2 x.2.1) (λx=>12-x.1) ?_ ?_
 ·exact⟨(0,g,iy),⟨dw _,w4⟩,.refl,uV,.cons rfl (.nil)⟩
 clear w4;rintro⟨i,g,K⟩⟨hi,aB⟩;simp only at hi aB;have fl:=aB.av.n;by_cases a1:i<12
 rotate_left
 ·refine cj.mk (λh=>absurd h (by simp;omega)) (λ_=>?_);exact⟨_,_,.refl,rfl⟩
 refine cj.mk (λ_=>?_) (λh=>absurd h (by simp;omega));refine bd.mk [] [] _ (.refl _) (Jp aB.ax aB.av aB.ae) ?_;rintro v iR N vQ⟨-,rfl,kw,rfl,pV⟩;refine a3.mk (λan=>?_) (λan=>?_)
 rotate_left
 ·exact⟨_,_,.refl,rfl⟩
 have sp:kw.2=0:=by simpa using an
 obtain⟨F,hw⟩:=pV.F6 fl sp;have agL:=aB.mono vQ;refine bd.mk [] [] _ (.refl _) (aua agL) ?_;rintro v tk N OI⟨-,rfl,hO,hU,ah⟩;have VC:=agL.mono OI;have VD:hO.2=0:=hw.is hU;rcases ah with⟨dS,rfl⟩ | ⟨x,ad,fK,rfl⟩
 ·refine a3.mk (λ_=>?_) (λh=>absurd h (by simp));have dS:ls hL g=[]:=by unfold v0 at dS;rw[bN VD]at dS;exact dS
  have AU:=FK hw.m;obtain⟨DS,Oy⟩:=Vk hw.m;have ayl:=age hw.m;have DQ:=(y2.1 hw.m).2.2.1;have avT:=(y2.1 hw.m).2.2.2.2;unfold mL at DQ;simp only[qN,PR,qz]at DQ;obtain⟨-,OV,-,lW⟩:=DQ;have OV:=fi.1 OV;refine dg.inv (ι:=Nat×aM) (λx=>{ bj:=[(1,.ref 1 0),(3,.val (.int .i64 (i:Int))),(6,.val (.int .i64 (x.1:Int)))],cl:=[(1,[.slice g.a g.n g.c])],cI:=x.2 }) (λx=>x.1<=g.n/\∀ b o,tk b=some o->x.2 b=some o) (λx=>g.n-x.1) ?_ ?_;·exact⟨(0,tk),⟨dw _,λ_ _ h=>h⟩,.refl,ht,.cons rfl (.nil)⟩
  rintro⟨k,Km⟩⟨ae,Da⟩;simp only at ae Da;refine a3.mk (λan=>?_) (λan=>?_)
  rotate_left
  ·exact⟨_,_,.refl,rfl⟩
  have Kn:k<g.n:=by have:(k:Int)<(g.n:Int):=dB an;omega
  have cv:k<g.ds.length:=by omega
  have OW:=VC.mono Da;have w9:=(OW.av.ds _ (bi cv)).t;have ff:=DS _ (bi cv);have aym:=w9.n;refine dg.inv (ι:=Nat×aM) (λx=>{ bj:=[(1,.ref 1 0),(3,.val (.int .i64 (i:Int))),(6,.val (.int .i64 (k:Int))),(7,.val (.int .i64 (x.1:Int)))],cl:=[(1,[.slice g.a g.n g.c])],cI:=x.2 }) (λx=>x.1<=g.ds[k].t.n/\∀ b o,Km b=some o->x.2 b=some o) (λx=>g.ds[k].t.n-x.1) ?_ ?_;·exact⟨(0,Km),⟨dw _,λ_ _ h=>h⟩,.refl,ej,.cons rfl (.nil)⟩
  rintro⟨j,Br⟩⟨ai,v8⟩;simp only at ai v8;have sA:=OW.mono v8;obtain⟨OX,VE,oz⟩:=sA.av.a2.row aP.cT (j:=k) (by omega) cv;have oz:∀ M,cO Br M (OX.add (k*3)) 3 [.string g.ds[k].name,.slice g.ds[k].t.a g.ds[k].t.n g.ds[k].t.c,.int .i64 g.ds[k].t.bA]:=oz;refine bf.mk OX k VE rfl Kn ?_;refine aR.mk [.slice g.ds[k].t.a g.ds[k].t.n g.ds[k].t.c] ((oz _).part (k:=1) (m:=1) (by decide)) ?_;refine a3.mk (λuu=>?_) (λuu=>?_)
  rotate_left
  ·refine bg.mk _ (cL (i:=k) (by omega)) ?_;exact⟨(k+1,Br),⟨⟨Kn,λb o h=>v8 _ _ (Da _ _ h)⟩,by simp only;omega⟩,.refl,ht,.cons rfl (.nil)⟩
  have agM:j<g.ds[k].t.n:=by have:(j:Int)<(g.ds[k].t.n:Int):=dB uu;omega
  have ez:j<g.ds[k].t.ns.length:=by omega
  have agN:=w9.mono v8;obtain⟨aU,bK,bm⟩:=agN.a2.row ap.cT (j:=j) agM ez;have gb:g.ds[k].t.ns[j]∈g.ds[k].t.ns:=bi ez;have avU:IntKind.i64.wrap ((j:Int)+1)=((j+1:Nat):Int):=cL (i:=j) (by omega);have I2:g.ds[k].t.ns[j].k=3->∃ q:Nat,cr g.ds[k].t.ns[j].t g.ds 0=(q:Int)/\q<g.ds.length:=λaj=>by obtain⟨q,aN⟩:=ea (avT _ (bi cv) _ gb aj);obtain⟨eA,vq,aJ,-⟩:=FQ g.ds 0 q aN;exact⟨q,aN,by omega⟩
  have dN:=λaj=>fun {q:Nat}=>avQ (q:=q) sA.av hw dS cv gb aj;have ayn:=Ls sA.ax.c sA.av AU DS;generalize g.ds[k].t.ns[j]=d at *;obtain⟨di,d0,d1,d2,d3,gp,Uy,Uz,aff,pF,Hl,afg⟩:=d;simp only at I2 dN;refine bf.mk OX k VE rfl Kn ?_;refine aR.mk [.slice g.ds[k].t.a g.ds[k].t.n g.ds[k].t.c] ((oz _).part (k:=1) (m:=1) (by decide)) ?_;refine bf.mk aU j bK rfl agM ?_;refine aR.mk _ (bm _) ?_;refine c4.KX a7 rfl rfl rfl (ι:=aM) (λx=>{ bj:=[(1,.ref 1 0),(3,.val (.int .i64 (i:Int))),(6,.val (.int .i64 (k:Int))),(7,.val (.int .i64 (j:Int))),(128,.val (.bool false))],cl:=[(1,[.slice g.a g.n g.c])],cI:=x }) (λx=>∀ b o,Br b=some o->x b=some o) ?_ ?_
  rotate_left
  ·intro Bs v9;refine a3.mk (λh=>by cases h) (λ_=>?_);refine bg.mk _ avU ?_;exact⟨(j+1,Bs),⟨⟨by omega,λb o h=>v9 _ _ (v8 _ _ h)⟩,by simp only;omega⟩,.refl,ej,.cons rfl (.nil)⟩
  by_cases aj:di=3
  rotate_left
  ·refine cj.mk (λh=>absurd h (by simp[aj])) (λ_=>?_);exact⟨Br,λ_ _ h=>h,.refl,.cons .refl (.cons .refl (.cons .refl (.cons .refl (.cons .lit .nil)))),.cons rfl (.nil)⟩
  obtain⟨q,aN,eb⟩:=I2 aj;have dN:=λau a b c=>dN aj (q:=q) eb aN au a b c;have J3:=HK sA.av gp;rw[aN]at J3;have J7:=DS _ (bi eb);have yq:=OV _ (bi eb);have wK:=OV _ (bi cv);unfold nl at yq wK;simp only[cz,hq]at yq wK;obtain⟨ov,tY,ju⟩:=sA.av.a2.row aP.cT (j:=q) (by omega) eb;have ju:∀ M,cO Br M (ov.add (q*3)) 3 [.string g.ds[q].name,.slice g.ds[q].t.a g.ds[q].t.n g.ds[q].t.c,.int .i64 g.ds[q].t.bA]:=ju;have agO:=(sA.av.ds _ (bi eb)).t;have ayo:=agJ g.ds[k].t;have ayp:=agJ g.ds[q].t;have ayq:lh g<=1024:=by omega
  refine cj.mk (λ_=>?_) (λh=>absurd h (by simp[aj]));refine eR.mk _ J3 ?_;rintro v Bs N -⟨rfl,v9,hC⟩;subst Bs;subst N;refine bd.mk [] _ _ (.refl _) (QH sA.ax sA.av (by omega) (q:Int)) ?_;rintro v Bs N v9⟨rfl,-,rfl⟩;have Bt:=sA.mono v9;cases Eb:jx hL g (q:Int)with
  |true=>refine cj.mk (λh=>by cases h) (λ_=>?_);exact⟨Bs,v9,.refl,.cons .refl (.cons .refl (.cons .refl (.cons .refl (.cons .lit .nil)))),.cons rfl (.nil)⟩| false=>
  have dN:=dN Eb;refine cj.mk (λ_=>?_) (λh=>by cases h);refine bd.mk [] _ _ (.refl _) (Ls Bt.ax.c Bt.av AU DS) ?_;rintro v Bu N -⟨rfl,Ko,hC⟩;subst Bu;subst N;by_cases ayr:lh g<900
  rotate_left
  ·refine cj.mk (λh=>absurd h (by simp;omega)) (λ_=>?_);exact⟨Bs,v9,.refl,.cons .refl (.cons .refl (.cons .refl (.cons .refl (.cons .lit .nil)))),.cons rfl (.nil)⟩
  refine cj.mk (λ_=>?_) (λh=>absurd h (by simp;omega));refine bd.mk [] _ _ (.refl _) (Qk Bt.ax Bt.av AU DS) ?_;rintro v Bu N Ko⟨rfl,-,rfl⟩;have Bv:=Bt.mono Ko;have zh:∀ b o,Br b=some o->Bu b=some o:=λb o h=>Ko _ _ (v9 _ _ h);by_cases H5:(kO hL g.ds []).length<4000
  rotate_left
  ·refine cj.mk (λh=>absurd h (by simp;omega)) (λ_=>?_);exact⟨Bu,zh,.refl,.cons .refl (.cons .refl (.cons .refl (.cons .refl (.cons .lit .nil)))),.cons rfl (.nil)⟩
  refine cj.mk (λ_=>?_) (λh=>absurd h (by simp;omega));refine bf.mk OX k VE rfl Kn ?_;refine aR.mk [.slice g.ds[k].t.a g.ds[k].t.n g.ds[k].t.c,.int .i64 g.ds[k].t.bA] (((oz _).mono zh).part (k:=1) (m:=2) (by decide)) ?_;refine eR.mk _ (PS Bv.ax.c (agN.mono zh)) ?_;rintro v uI N -⟨rfl,Gx,hC⟩;subst uI;subst N;have VF:=HK Bv.av gp;rw[aN]at VF;refine eR.mk _ VF ?_;rintro v uI N -⟨rfl,Gx,hC⟩;subst uI;subst N;refine bf.mk ov q tY rfl (by omega) ?_;refine aR.mk [.slice g.ds[q].t.a g.ds[q].t.n g.ds[q].t.c,.int .i64 g.ds[q].t.bA] (((ju _).mono zh).part (k:=1) (m:=2) (by decide)) ?_;refine bd.mk [] _ _ (.refl _) (PS Bv.ax.c (agO.mono zh)) ?_;rintro v uI N -⟨rfl,Gx,hC⟩;subst uI;subst N;refine bg.mk (depth g.ds[k].t+depth g.ds[q].t) (vp rfl (by omega)) ?_;by_cases avV:depth g.ds[k].t+depth g.ds[q].t<=32
  rotate_left
  ·refine cj.mk (λh=>absurd h (by simp;omega)) (λ_=>?_);exact⟨Bu,zh,.refl,.cons .refl (.cons .refl (.cons .refl (.cons .refl (.cons .lit .nil)))),.cons rfl (.nil)⟩
  refine cj.mk (λ_=>?_) (λh=>absurd h (by simp;omega));refine eR.mk _ (Ls Bv.ax.c Bv.av AU DS) ?_;rintro v uI N -⟨rfl,Gx,hC⟩;subst uI;subst N;refine eR.mk _ VF ?_;rintro v uI N -⟨rfl,Gx,hC⟩;subst uI;subst N;refine bf.mk ov q tY rfl (by omega) ?_;refine aR.mk [.slice g.ds[q].t.a g.ds[q].t.n g.ds[q].t.c,.int .i64 g.ds[q].t.bA] (((ju _).mono zh).part (k:=1) (m:=2) (by decide)) ?_;have da:=W3 Bv.ax.c (agO.mono zh);rw[yq.2.1]at da;refine bd.mk [] _ _ (.refl _) da ?_;rintro v uI N -⟨rfl,Gx,hC⟩;subst uI;subst N;refine bg.mk ((lh g+g.ds[q].t.n:Nat):Int) (vp (by simp only[cb];omega) (by omega)) ?_;by_cases avW:lh g+g.ds[q].t.n<=1024
  rotate_left
  ·refine cj.mk (λh=>absurd h (by simp;omega)) (λ_=>?_);exact⟨Bu,zh,.refl,.cons .refl (.cons .refl (.cons .refl (.cons .refl (.cons .lit .nil)))),.cons rfl (.nil)⟩
  refine cj.mk (λ_=>?_) (λh=>absurd h (by simp;omega));refine bd.mk [] _ _ (.refl _) (Qk Bv.ax Bv.av AU DS) ?_;rintro v uI N Gx⟨rfl,-,rfl⟩;refine bg.mk ((2*(kO hL g.ds []).length:Nat):Int) (vp (by omega) (by omega)) ?_;exact absurd (by omega) (λh=>dN avW avV h)
 ·refine a3.mk (λh=>absurd h (by simp)) (λ_=>?_);have fK:(ls hL g)[0]?=some x.qs:=by unfold v0 at fK;rw[bN VD]at fK;exact fK
  obtain⟨u,path,xa,xc⟩:=x;have avX:(u,path)∈ls hL g:=rF fK;obtain⟨K5,mE⟩:=iE.1 avX;obtain⟨hu,S,cB⟩:=afn K5;simp only at hu cB;have Cv:dh tk xa path.length xc 1 8 (oc path):=ad.a2;have sJ:=afw VC (pass:=1) (way:=1) (rule:=(u:Int)) (dX:=0) Cv;refine bd.mk [] _ _ (.refl _) sJ ?_;rintro v Km N Da⟨-,rfl,h,e,rfl,dk⟩;have agP:=dk.afv hO hU VD ⟨rfl,rfl,rfl,by omega,by omega,by rw[gz];exact mE⟩;rw[gz]at agP;obtain⟨rfl,cW,rl,X,bo,hk,dK,hK,eW,OU,-⟩:=agP;refine a3.mk (λh=>absurd h (by simp)) (λ_=>?_);have OW:=VC.mono Da;have AU:=FK hw.m;refine dg.inv (ι:=Nat×aM) (λx=>{ bj:=[(1,.ref 1 0),(3,.val (.int .i64 (i:Int))),(9,.ref 9 0),(11,.val (.int .i64 (x.1:Int)))],cl:=[(1,[.slice g.a g.n g.c]),(9,[.slice h.a h.n h.c])],cI:=x.2 }) (λx=>x.1<=g.n/\∀ b o,Km b=some o->x.2 b=some o) (λx=>g.n-x.1) ?_ ?_;·exact⟨(0,Km),⟨dw _,λ_ _ h=>h⟩,.refl,ej,.cons rfl (.cons rfl (.nil))⟩
  rintro⟨k,Br⟩⟨ae,v8⟩;simp only at ae v8;have sA:=OW.mono v8;have Jd:=cW.mono v8;refine a3.mk (λan=>?_) (λan=>?_)
  rotate_left
  ·refine bg.mk _ (cL (i:=i) (by omega)) ?_;exact⟨(i+1,h,Br),⟨⟨by omega,OD sA.ax Jd OU⟩,by simp only;omega⟩,.refl,uV,.cons rfl (.nil)⟩
  have Kn:k<g.n:=by have:(k:Int)<(g.n:Int):=dB an;omega
  refine bd.mk [] _ _ (.refl _) (QH sA.ax Jd (by omega) (k:Int)) ?_;rintro v Bs N v9⟨rfl,-,rfl⟩;have Bt:=sA.mono v9;cases A6:jx hL h (k:Int)with
  |false=>refine cj.mk (λh=>by cases h) (λ_=>?_);refine bg.mk _ (cL (i:=k) (by omega)) ?_;exact⟨(k+1,Bs),⟨⟨by omega,λb o h=>v9 _ _ (v8 _ _ h)⟩,by simp only;omega⟩,.refl,ej,.cons rfl (.cons rfl (.nil))⟩| true=>have zX:=avM hw hu hk dK rl eW OU (by omega) A6;refine cj.mk (λ_=>?_) (λh=>by cases h);refine bd.mk [] _ _ (.refl _) (QH Bt.ax Bt.av (by omega) (k:Int)) ?_;rintro v Bu N Ko⟨rfl,-,rfl⟩;rw[zX];refine a3.mk (λh=>by cases h) (λ_=>?_);refine bg.mk _ (cL (i:=k) (by omega)) ?_;exact⟨(k+1,Bu),⟨⟨by omega,λb o h=>Ko _ _ (v9 _ _ (v8 _ _ h))⟩,by simp only;omega⟩,.refl,ej,.cons rfl (.cons rfl (.nil))⟩
end Go.V
