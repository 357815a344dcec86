/- Part 10 of what the proofs of this seat share: the executor, data in memory, walks.
-/
import Derived.Test.YtmncamccjfmbpaaGreatDoorK7
import Derived.Test.YtmncamccjfmbpaaGreatDoorK9
set_option linter.all false
set_option maxHeartbeats 16000000
set_option maxRecDepth 100000
namespace Go.V
open Go Go.Proofs
def NY:=@Nat.zero_lt_one
variable{α:Type}{k:IntKind}{I:aJ}{M0 M:List aD}{b aeY u q:Nat}{s:List UInt8}{t bq:bS}{ax p:List Int}{g h:cv}{cs:List h9}{cC e:Int}{F:List aW}{T P H S:aQ}{ks:List aQ}{ns:List ao}
def atc{l m:List α}{k:Nat}(ay:k<l.length)(hm:k<m.length)(h:l.take k=m.take k)(e:l[k]=m[k]):l.take (k+1)=m.take (k+1):=by rw[gg ay,gg hm,h,e]
def atd{l m:List α}{k:Nat}(ay:k<l.length)(hm:k<m.length)(e:¬ l[k]=m[k]):¬ l=m:=λh=>by subst h;exact e rfl
def ate{a bO:Option Addr}{n hS c c' iM:Nat}{l ev:List Int}(h:de I a n c 1 b (l.map (.int .i64 ·)))(bc:de I bO hS c' 1 iM (ev.map (.int .i64 ·)))(ag:n<=140737488355327):Spec Tryz.prog 136 [.slice a n c,.slice bO hS c'] I M0 λv I' M'=>v=.bool (decide (l=ev))/\I'=I/\M'=M0:=by
 refine cb [] a6 Tryz.func136 rfl rfl rfl ?_;intro B az;have ay:l.length=n:=by simpa using h.len
 have po:ev.length=hS:=by simpa using bc.len
 by_cases aB:n=hS
 rotate_left
 ·refine a2.mk (λ_=>?_) (λh=>absurd h (by simp;omega));exact⟨_,_,.refl,by rw[et λe=>aB (by rw[<-ay,<-po,e])],rfl,rfl⟩
 subst aB;refine a2.mk (λh=>absurd h (by simp)) (λ_=>?_);refine di.inv (ι:=Nat) (λk=>{ bi:=[(0,.val (.slice a n c)),(1,.val (.slice bO n c')),(12,.val (.int .i64 n)),(13,.val (.int .i64 k))],cD:=I,c0:=M0 }) (λk=>k<=n/\l.take k=ev.take k) (λk=>n-k) ?_ ?_
 ·exact⟨0,⟨dD _,rfl⟩,.refl,ew,.nil⟩
 rintro k⟨ae,av⟩;refine a2.mk (λab=>?_) (λab=>?_)
 ·have aX:k<n:=by have:(k:Int)<(n:Int):=dw ab;omega
  have cA:k<l.length:=by omega
  have mh:k<ev.length:=by omega
  obtain⟨aS,bH,bl⟩:=h.one aX cA;obtain⟨zi,CT,o6⟩:=bc.one aX mh;have hex:=atc cA mh av;have bt:=atd cA mh;generalize l[k]=x at bl hex bt;generalize ev[k]=y at o6 hex bt;refine cV.draw a6 rfl rfl rfl ?_;refine bd.mk aS k bH rfl aX ?_;refine aM.mk _ (bl _) ?_;refine bd.mk zi k CT rfl aX ?_;refine aM.mk _ (o6 _) ?_;by_cases e:x=y;·refine a2.mk (λh=>absurd h (by simp[e])) (λ_=>?_);refine bg.mk _ (cL (i:=k) (by omega)) ?_;exact⟨k+1,⟨⟨aX,hex e⟩,by omega⟩,.refl,ew,.nil⟩
  ·refine a2.mk (λ_=>?_) (λh=>absurd h (by simp[e]));exact⟨_,_,.refl,by rw[et (bt e)],rfl,rfl⟩
 ·have cI:k=n:=by have:¬ (k:Int)<(n:Int):=ek ab;omega
  subst cI;rw[fA (by omega),fA (by omega)]at av;exact⟨_,_,.refl,by rw[e9 av],rfl,rfl⟩
def tc(x y:ao):Bool:=decide (x.k=y.k)&&((decide (x.cx=y.cx)&&(decide (x.s1=y.s1)&&(decide (x.s2=y.s2)&&decide (x.c1=y.c1))))&&(decide (x.t=y.t)&&(decide (x.lo=y.lo)&&(decide (x.hi=y.hi)&&decide (x.aw=y.aw)))))
def UK(x y:ao):tc x y=true ↔ x.k=y.k/\(x.cx=y.cx/\x.s1=y.s1/\x.s2=y.s2/\x.c1=y.c1)/\x.t=y.t/\x.lo=y.lo/\x.hi=y.hi/\x.aw=y.aw:=by simp only[tc,cz,hV]
def atf(x:ao):tc x x=true:=(UK x x).2 ⟨rfl,⟨rfl,rfl,rfl,rfl⟩,rfl,rfl,rfl,rfl⟩
def atg{x y:ao}(ad:x.ok I)(aE:y.ok I):Spec Tryz.prog 82 [x.val,y.val] I M0 λv I' M'=>v=.bool (tc x y)/\I'=I/\M'=M0:=by
 refine cb [] a6 Tryz.func82 rfl rfl rfl ?_;intro B az;have ath:x.aN<=x.dp/\x.aN*8<=140737488355328:=ad.a0.cap;have mG:=ad.a0;have aeZ:=aE.a0;obtain⟨k,cx,s1,s2,c1,t,lo,hi,dB,aN,dp,aw⟩:=x;obtain⟨eZ,NZ,N0,N1,N2,bq,Ai,cZ,ae0,ae1,ae2,UL⟩:=y;simp only at mG aeZ ath;have no:∀ {P:Prop},(P->¬ (k=eZ/\((cx=NZ/\s1=N0/\s2=N1/\c1=N2)/\t=bq/\lo=Ai/\hi=cZ/\aw=UL)))->P->Value.bool false=.bool (tc ⟨k,cx,s1,s2,c1,t,lo,hi,dB,aN,dp,aw⟩ ⟨eZ,NZ,N0,N1,N2,bq,Ai,cZ,ae0,ae1,ae2,UL⟩):=λh p=>by
  cases ag:tc ⟨k,cx,s1,s2,c1,t,lo,hi,dB,aN,dp,aw⟩ ⟨eZ,NZ,N0,N1,N2,bq,Ai,cZ,ae0,ae1,ae2,UL⟩with
  |false=>rfl| true=>exact absurd ((UK _ _).1 ag) (h p)
 by_cases a8:k=eZ
 rotate_left
 ·refine ct.mk (λbc=>absurd bc (by simp[a8])) (λ_=>?_);exact⟨_,_,.refl,no (λh ab=>h ab.1) a8,rfl,rfl⟩
 refine ct.mk (λ_=>?_) (λbc=>absurd bc (by simp[a8]));refine gw.O3 a6 (e:=62) rfl rfl rfl rfl (by kernel_rfl) ?_;by_cases ba:cx=NZ/\s1=N0/\s2=N1/\c1=N2
 rotate_left
 ·refine ct.mk (λbc=>absurd bc (by simpa using ba)) (λ_=>?_);exact⟨_,_,.refl,no (λh ab=>h ab.2.1) ba,rfl,rfl⟩
 refine ct.mk (λ_=>?_) (λbc=>absurd bc (by simp[ba]));by_cases bQ:t=bq
 rotate_left
 ·refine ct.mk (λbc=>absurd bc (by simp[bQ])) (λ_=>?_);exact⟨_,_,.refl,no (λh ab=>h ab.2.2.1) bQ,rfl,rfl⟩
 refine ct.mk (λ_=>?_) (λbc=>absurd bc (by simp[bQ]));by_cases ft:lo=Ai
 rotate_left
 ·refine ct.mk (λbc=>absurd bc (by simp[ft])) (λ_=>?_);exact⟨_,_,.refl,no (λh ab=>h ab.2.2.2.1) ft,rfl,rfl⟩
 refine ct.mk (λ_=>?_) (λbc=>absurd bc (by simp[ft]));by_cases lj:hi=cZ
 rotate_left
 ·refine ct.mk (λbc=>absurd bc (by simp[lj])) (λ_=>?_);exact⟨_,_,.refl,no (λh ab=>h ab.2.2.2.2.1) lj,rfl,rfl⟩
 refine ct.mk (λ_=>?_) (λbc=>absurd bc (by simp[lj]));refine be.whole _ (ate mG aeZ (show aN<=_ by omega)) ?_;rintro v J N -⟨rfl,bk,gf⟩;subst J;subst N;refine⟨_,_,.refl,?_,rfl,rfl⟩;obtain⟨dF,eJ,eF,ik⟩:=ba;congr 1;rw[sm,UK,Mw];exact⟨λh=>⟨a8,⟨dF,eJ,eF,ik⟩,bQ,ft,lj,h⟩,λh=>h.2.2.2.2.2⟩
def jX{α:Type}(q:α->α->Bool):List α->List α->Bool
 |[],[]=>true| a::l,b::m=>q a b&&jX q l m| _,_=>false
def ae3{α:Type}{q:α->α->Bool}(h:∀ x,q x x=true):∀ l:List α,jX q l l=true
 |[]=>rfl| a::l=>by rw[jX,h,ae3 h l];rfl
def ae4:∀ l m:List ao,jX tc (l.map ao.a1) (m.map ao.a1)=jX tc l m
 |[],[]=>rfl| [],_::_=>rfl| _::_,[]=>rfl| a::l,b::m=>by rw[b0,b0,jX,jX,ae4 l m];rfl
def UM{α:Type}(q:α->α->Bool):∀ l m:List α,l.length≠m.length->jX q l m=false
 |[],[],h=>absurd rfl h| [],_::_,_=>rfl| _::_,[],_=>rfl| a::l,b::m,h=>by rw[jX,UM q l m (by simpa using h),Jv]
def ati{s:bS}(ar:s.ok I)(av:t.ok I):Spec Tryz.prog 80 [.slice s.a s.n s.c,.slice t.a t.n t.c,.func (.func 82) #[] #[]] I M0 λv I' M'=>v=.bool (jX tc s.ns t.ns)/\I'=I/\M'=M0:=by
 refine cb [] a6 Tryz.func80 rfl rfl rfl ?_;intro B az;have iS:=ar.n;have hD:=av.n;have jx:=ar.a0.cap;by_cases aB:s.n=t.n
 rotate_left
 ·refine a2.mk (λ_=>?_) (λh=>absurd h (by simp;omega));exact⟨_,_,.refl,by rw[UM _ _ _ (by omega)],rfl,rfl⟩
 refine a2.mk (λh=>absurd h (by simp[aB])) (λ_=>?_);refine di.inv (ι:=Nat) (λk=>{ bi:=[(1,.val (.slice t.a t.n t.c)),(2,.val (.func (.func 82) #[] #[])),(15,.val (.slice s.a s.n s.c)),(16,.val (.int .i64 s.n)),(17,.val (.int .i64 k))],cD:=I,c0:=M0 }) (λk=>k<=s.n/\jX tc s.ns t.ns=jX tc (s.ns.drop k) (t.ns.drop k)) (λk=>s.n-k) ?_ ?_
 ·exact⟨0,⟨dD _,rfl⟩,.refl,hn,.nil⟩
 rintro k⟨ae,he⟩;refine a2.mk (λab=>?_) (λab=>?_)
 ·have aX:k<s.n:=by have:(k:Int)<(s.n:Int):=dw ab;omega
  have cA:k<s.ns.length:=by omega
  have mh:k<t.ns.length:=by omega
  obtain⟨aS,bH,bl⟩:=ar.a0.row ao.cP aX cA;obtain⟨zi,CT,o6⟩:=av.a0.row ao.cP (show k<t.n by omega) mh;have ad:=ar.ns _ (br cA);have aE:=av.ns _ (br mh);rw[eV cA,eV mh,jX]at he;generalize s.ns[k]=x at bl ad he;generalize t.ns[k]=y at o6 aE he;refine bd.mk aS k bH rfl aX ?_;refine aM.mk _ (bl _) ?_;refine bd.mk zi k CT rfl (by omega) ?_;refine aM.mk _ (o6 _) ?_;refine be.whole _ (atg ad aE) ?_;rintro v J N -⟨rfl,bk,gf⟩;subst J;subst N;cases e:tc x y with
  |true=>refine a2.mk (λh=>absurd h (by simp)) (λ_=>?_);refine bg.mk _ (cL (i:=k) (by omega)) ?_;exact⟨k+1,⟨⟨aX,by rw[he,e,n2]⟩,by omega⟩,.refl,hn,.nil⟩| false=>refine a2.mk (λ_=>?_) (λh=>absurd h (by simp));exact⟨_,_,.refl,by rw[he,e,xV],rfl,rfl⟩
 ·have cI:k=s.n:=by have:¬ (k:Int)<(s.n:Int):=ek ab;omega
  subst cI;rw[va (by omega),va (by omega)]at he;exact⟨_,_,.refl,by rw[he];rfl,rfl,rfl⟩
def td(a b:bS):Bool:=decide (a.n=b.n)&&(right a&&(right b&&jX tc (rT a.ns a.bn) (rT b.ns b.bn)))
def ae5(bu:ga I ax){a b:bS}(a4:a.ok I)(ag:b.ok I)(aB:a.n<=1099511627776):Spec Tryz.prog 33 [a.val,b.val] I M0 λv I' M'=>v=.bool (td a b)/\(∀ c o,I c=some o->I' c=some o)/\M'=M0:=by
 refine cb [] a6 Tryz.func33 rfl rfl rfl ?_;intro B az;have lu:=a4.n;have Br:=ag.n;by_cases aa:a.n=b.n
 rotate_left
 ·refine ct.mk (λbc=>absurd bc (by simp;omega)) (λ_=>?_);exact⟨_,_,.refl,by rw[td,et aa,xV],λ_ _ h=>h,rfl⟩
 refine ct.mk (λ_=>?_) (λbc=>absurd bc (by simp[aa]));refine be.mk [] M0 _ (.refl _) (qt bu.c a4) ?_;rintro v J N -⟨rfl,bk,rfl⟩;subst J;cases ab:right a with
 |false=>refine ct.mk (λbc=>absurd bc (by simp)) (λ_=>?_);exact⟨_,_,.refl,by rw[td,ab,xV,Jv],λ_ _ h=>h,rfl⟩| true=>
 refine ct.mk (λ_=>?_) (λbc=>absurd bc (by simp));refine be.mk [] M0 _ (.refl _) (qt bu.c ag) ?_;rintro v J N -⟨rfl,bk,rfl⟩;subst J;cases aj:right b with
 |false=>refine a2.mk (λ_=>?_) (λbc=>absurd bc (by simp));exact⟨_,_,.refl,by rw[td,aj,xV,Jv,Jv],λ_ _ h=>h,rfl⟩| true=>
 refine a2.mk (λbc=>absurd bc (by simp)) (λ_=>?_);obtain⟨atj,awA⟩:=qw ab;obtain⟨atk,awB⟩:=qw aj;obtain⟨tb,atl⟩:=eH atj;obtain⟨rb,nj⟩:=eH atk;have ae6:=Tp (M0:=M0) a4 ab aB (node:=tb) (by omega);rw[<-atl]at ae6;refine cV.draw a6 rfl rfl rfl ?_;refine d'.whole _ ae6 (λv I' M' h x ad=>by rw[h.2.1];exact ad) ?_;rintro v J N -⟨bk,gf,ji,rfl,w3,atm⟩;subst N;have A2:=Tp (M0:=M0) (ag.mono bk) aj (by omega) (node:=rb) (by omega);rw[<-nj]at A2;refine d'.whole _ A2 (λv I' M' h x ad=>by rw[h.2.1];exact ad) ?_;rintro v dh N -⟨dY,gf,aib,rfl,rM,atn⟩;subst N;refine be.whole _ (ati (w3.mono dY) rM) ?_;rintro v pW N -⟨rfl,lF,gf⟩;subst pW;subst N;refine⟨_,_,.refl,?_,λc o h=>dY _ _ (bk _ _ h),rfl⟩;rw[td,e9 aa,ab,aj,<-atm.a1,<-atn.a1,ae4];rfl
def q4(d e:aP):Bool:=decide (d.name=e.name)&&td d.t e.t
def um(g h:cv):Bool:=jX q4 g.ds h.ds
def UN(a b:bS):td a.a1 b.a1=td a b:=by unfold td;rw[ye,ye];have aG:rT a.a1.ns a.a1.bn=rT a.ns a.bn:=Yx a.ns a.bn;have a7:rT b.a1.ns b.a1.bn=rT b.ns b.bn:=Yx b.ns b.bn;rw[aG,a7];rfl
def ae7(g h:cv):um g.a1 h.a1=um g h:=by
 unfold um;show jX q4 (g.ds.map aP.a1) (h.ds.map aP.a1)=_;have:∀ l m:List aP,jX q4 (l.map aP.a1) (m.map aP.a1)=jX q4 l m:=by
  intro l
  induction l with
  |nil=>intro m;cases m<;>rfl
  |cons a l aL=>
   intro m;cases m with
   |nil=>rfl| cons b m=>rw[b0,b0,jX,jX,aL];congr 1;unfold q4;have aG:td a.a1.t b.a1.t=td a.t b.t:=UN a.t b.t;rw[aG];rfl
 exact this _ _
def ato(bu:ga I ax){d e:aP}(ak:d.ok I)(he:e.ok I)(aB:d.t.n<=1099511627776):Spec Tryz.prog 151 [.agg d.cells.toArray,.agg e.cells.toArray] I M0 λv I' M'=>v=.bool (q4 d e)/\(∀ c o,I c=some o->I' c=some o)/\M'=M0:=by
 refine cb [] a6 Tryz.func151 rfl rfl rfl ?_;intro B az;obtain⟨nm,t⟩:=d;obtain⟨atp,bq⟩:=e;by_cases h:nm=atp
 ·refine ct.mk (λ_=>?_) (λbc=>absurd bc (by simp[h]));refine be.whole _ (ae5 bu ak.t he.t aB) ?_;rintro v J N -⟨rfl,bk,gf⟩;subst N;exact⟨_,_,.refl,by rw[q4,e9 h,n2],bk,rfl⟩
 ·refine ct.mk (λbc=>absurd bc (by simp[h])) (λ_=>?_);exact⟨_,_,.refl,by rw[q4,et h,xV],λ_ _ h=>h,rfl⟩
def atq(bu:ga I ax){s t:cv}(ar:s.ok I)(av:t.ok I)(ag:∀ d∈s.ds,d.t.n<=1099511627776):Spec Tryz.prog 150 [.slice s.a s.n s.c,.slice t.a t.n t.c,.func (.func 151) #[] #[]] I M0 λv I' M'=>v=.bool (um s t)/\(∀ c o,I c=some o->I' c=some o)/\M'=M0:=by
 refine cb [] a6 Tryz.func150 rfl rfl rfl ?_;intro B az;have iS:=ar.n;have hD:=av.n;have jx:=ar.a0.cap;unfold um;by_cases aB:s.n=t.n
 rotate_left
 ·refine a2.mk (λ_=>?_) (λh=>absurd h (by simp;omega));exact⟨_,_,.refl,by rw[UM _ _ _ (by omega)],λ_ _ h=>h,rfl⟩
 refine a2.mk (λh=>absurd h (by simp[aB])) (λ_=>?_);refine di.inv (ι:=Nat×aJ) (λx=>{ bi:=[(1,.val (.slice t.a t.n t.c)),(2,.val (.func (.func 151) #[] #[])),(15,.val (.slice s.a s.n s.c)),(16,.val (.int .i64 s.n)),(17,.val (.int .i64 x.1))],cD:=x.2,c0:=M0 }) (λx=>x.1<=s.n/\jX q4 s.ds t.ds=jX q4 (s.ds.drop x.1) (t.ds.drop x.1)/\∀ c o,I c=some o->x.2 c=some o) (λx=>s.n-x.1) ?_ ?_
 ·exact⟨(0,I),⟨dD _,rfl,λ_ _ h=>h⟩,.refl,hn,.nil⟩
 rintro⟨k,J⟩⟨ae,he,bk⟩;simp only at ae he bk;refine a2.mk (λab=>?_) (λab=>?_)
 ·have aX:k<s.n:=by have:(k:Int)<(s.n:Int):=dw ab;omega
  have cA:k<s.ds.length:=by omega
  have mh:k<t.ds.length:=by omega
  obtain⟨aS,bH,bl⟩:=(ar.mono bk).a0.row aP.cP aX cA;obtain⟨zi,CT,o6⟩:=(av.mono bk).a0.row aP.cP (show k<t.n by omega) mh;have ad:=(ar.mono bk).ds _ (br cA);have aE:=(av.mono bk).ds _ (br mh);have rh:=ag _ (br cA);rw[eV cA,eV mh,jX]at he;generalize s.ds[k]=x at bl ad he rh;generalize t.ds[k]=y at o6 aE he;refine bd.mk aS k bH rfl aX ?_;refine aM.mk _ (bl _) ?_;refine bd.mk zi k CT rfl (by omega) ?_;refine aM.mk _ (o6 _) ?_;refine be.whole _ (ato (bu.mono bk) ad aE rh) ?_;rintro v dh N -⟨rfl,dY,gf⟩;subst N;cases e:q4 x y with
  |true=>refine a2.mk (λh=>absurd h (by simp)) (λ_=>?_);refine bg.mk _ (cL (i:=k) (by omega)) ?_;exact⟨(k+1,dh),⟨⟨aX,by simp only;rw[he,e,n2],λc o h=>dY _ _ (bk _ _ h)⟩,by simp only;omega⟩,.refl,hn,.nil⟩| false=>refine a2.mk (λ_=>?_) (λh=>absurd h (by simp));exact⟨_,_,.refl,by rw[he,e,xV],λc o h=>dY _ _ (bk _ _ h),rfl⟩
 ·have cI:k=s.n:=by have:¬ (k:Int)<(s.n:Int):=ek ab;omega
  subst cI;rw[va (by omega),va (by omega)]at he;exact⟨_,_,.refl,by rw[he];rfl,bk,rfl⟩
def atr(bu:ga I ax){s t:cv}(ar:s.ok I)(av:t.ok I)(ag:∀ d∈s.ds,d.t.n<=1099511627776):Spec Tryz.prog 96 [s.val,t.val] I M0 λv I' M'=>v=.bool (um s t)/\(∀ c o,I c=some o->I' c=some o)/\M'=M0:=by refine cb [] a6 Tryz.func96 rfl rfl rfl ?_;intro B az;refine be.whole _ (atq bu ar av ag) ?_;rintro v J N -⟨rfl,bk,gf⟩;subst N;exact⟨_,_,.refl,rfl,bk,rfl⟩
def ae8{α:Type}(f:α->Nat)(m:Nat):∀ (l:List α),(∀ x∈l,f x<=m)->(l.map f).sum<=m*l.length
 |[],_=>by simp
 |a::l,h=>by have aa:=ae8 f m l λx ad=>h x (.tail _ ad);have ab:=h a (.head _);rw[b0,h4,dx,Nat.mul_succ];omega
def ats(bu:ga I ax)(au:g.ok I)(ar:MM g):yY ax I g:=by
 have aa:=ar.n;have ab:∀ d∈g.ds,d.t.n<400:=λd ak=>(ar.ds d ak).t.n;have aj:=ae8 (λd:aP=>d.t.ns.length) 400 g.ds λd ak=>by have:=(au.ds d ak).t.n;have:=ab d ak;omega
 have aI:=au.n;refine⟨bu,au,λd ak=>by have:=ab d ak;omega,by omega,?_,λd ak n aB=>?_⟩
 ·have:400*g.ds.length<=400*400:=Nat.mul_le_mul_left _ (by omega);omega
 ·have:=((ar.ds d ak).t.ns n aB).aN;omega
def N3(hm:dz ax g=0):(∀ d∈g.ds,d.t.n<=1024)/\(g.ds.map λd=>d.t.n).sum<=1024:=by
 obtain⟨aa,ab,aj,aI,bB⟩:=CY.1 hm;unfold oQ at aj;simp only[sF,ss]at aj;have b4:mu g<=1024:=by omega
 have e:mu g=(g.ds.map λd=>d.t.n).sum:=by unfold mu;congr 1;refine fR λd ak=>?_;unfold rN;rw[nq hm ak];rfl
 rw[e]at b4;refine⟨λd ak=>?_,b4⟩;have:=acs (l:=g.ds.map λd=>d.t.n) (x:=d.t.n) (cN.2 ⟨d,ak,rfl⟩);omega
def UO(bu:ga I ax)(au:g.ok I)(hm:dz ax g=0):yY ax I g:=by obtain⟨aa,ab⟩:=N3 hm;have k3:=Fo hm;have e:(g.ds.map λd=>d.t.ns.length)=g.ds.map λd=>d.t.n:=fR λd ak=>(au.ds d ak).t.n;refine⟨bu,au,λd ak=>by have:=aa d ak;omega,by omega,by rw[e];omega,λd ak=>aeA (au.ds d ak).t (nq hm ak) (by have:=aa d ak;omega)⟩
def N4(t:bS):cr t.a1=cr t:=ac3 t.ns t.bn
def ae9:∀ (ds:List aP) (i:Nat),l4 i (ds.map aP.a1)=l4 i ds
 |[],_=>rfl| d::ds,i=>by rw[b0,l4,l4,ae9 ds (i+1)];show(cr d.t.a1).paths.map _++_=_;rw[N4]
def att(nm:ByteArray)(ds:List aP):cu nm (ds.map aP.a1) 0=cu nm ds 0:=Ny _ _ _ _ (by rw[gA];rfl)
def atu(ax:List Int)(g:cv)(i:Int):oV ax g.a1 i=oV ax g i:=by unfold oV;rw[z1,atb];rfl
def UP(ds:List aP)(u:Nat):cr ((ds.map aP.a1).getD u gP).t=cr (ds.getD u gP).t:=by
 rw[bA,bA,jH];cases ds[u]? with
 |none=>rfl| some d=>exact N4 d.t
def atv(ax:List Int)(g:cv)(nm:ByteArray):sg ax g.a1 nm=sg ax g nm:=by unfold sg;show(if cu nm (g.ds.map aP.a1) 0<0\/oV ax g.a1 (cu nm (g.ds.map aP.a1) 0)=true then none else some (cu nm (g.ds.map aP.a1) 0).toNat)=_;rw[att,atu]
def afa(ax:List Int)(g:cv)(u:Nat)(p:List Int):oo ax g.a1 u p=oo ax g u p:=by
 unfold oo sh;show((cr ((g.ds.map aP.a1).getD u gP).t).go p).bind _=_;rw[UP];congr 1;funext S;rw[atv];split
 ·congr 1;funext q;show((cr ((g.ds.map aP.a1).getD u gP).t).put p (cr ((g.ds.map aP.a1).getD q gP).t)).ki=_;rw[UP,UP]
 ·rfl
def afb:(aP.a1 ∘ aP.a1)=aP.a1:=by funext d;show aP.mk d.name (d.t.a1.a1)=⟨d.name,d.t.a1⟩;congr 1;show bS.mk ((d.t.ns.map ao.a1).map ao.a1) _ _ _ _=⟨d.t.ns.map ao.a1,_,_,_,_⟩;rw[gA];rfl
def afc(ds:List aP)(u:Nat)(y:bS):(eQ (ds.map aP.a1) u y).map aP.a1=(eQ ds u y).map aP.a1:=by
 unfold eQ;rw[pw,pw,gA];have e:=afb;rw[e];by_cases h:u<ds.length
 ·have:((ds.map aP.a1).getD u gP).name=(ds.getD u gP).name:=by simp[bA,h,aP.a1]
  rw[this]
 ·rw[List.set_eq_of_length_le (by rw[bI];omega),List.set_eq_of_length_le (by rw[bI];omega)]
def atw(ax:List Int)(g:cv)(u:Nat)(X:aQ):xj ax g.a1 u X=xj ax g u X:=by unfold xj;congr 2;rw[<-z1,<-z1 ax (nU (eQ g.ds u (mB X.post)))];congr 1;unfold cv.a1 nU;simp only[afc,yR,bI]
def afd(ax:List Int)(g:cv)(x:Nat×List Int):p' ax g.a1 x=p' ax g x:=by
 unfold p';rw[afa];cases oo ax g x.1 x.2 with
 |none=>rfl| some X=>exact atw ax g x.1 X
def atx(ax:List Int)(g:cv):pg ax g.a1=pg ax g:=by unfold pg;show(l4 0 (g.ds.map aP.a1)).filter _=_;rw[ae9];congr 1;funext x;exact afd ax g x
def N5(bu:ga I hP)(yU:w1 aeY 71 s=some (cs,cC,k,e)):Spec Tryz.prog 50 [.string ⟨s.toArray⟩] I M0 λv I' M'=>(∀ b o,I b=some o->I' b=some o)/\M'=M0/\∃ g:cv,v=g.val/\g.ok I'/\p1 cs g.ds:=by refine cb [] a6 Tryz.func50 rfl rfl rfl ?_;intro B az;refine be.mk [] M0 _ (.refl _) (aom bu yU) ?_;rintro v iJ N -⟨rfl,hT,g,rfl,au,aV⟩;exact⟨_,_,.refl,hT,rfl,g,rfl,au,aV⟩
def UQ(cs:List h9)(F:List aW):Bool:=decide ((MT (jF cs).ds F).2=0)
def uo(cs:List h9)(u:Nat)(p:List Int):List aP:=match oo hP (jF cs) u p with
 |some X=>eQ (jF cs).ds u (mB X.post)| none=>[]
def afe(bu:ga I hP){aty:Nat}{want:List UInt8}{N6:List h9}{atz cX:Int}{eZ:IntKind}(yU:w1 aeY 71 s=some (cs,cC,k,e))(t':w1 aty 71 want=some (N6,atz,eZ,cX)){f:Nat}(an:Ft cs F f=true)(x5:UQ cs F=true)
 {pa:Option Addr} {pn jq:Nat} {path:List Int} (aC:de I pa pn jq 1 8 (nW path)) (er:p' hP (jF cs) (u,path)=true) (zD:u<cs.length) (q0:um (nU (uo cs u path)) (jF N6)=true) (oA:0<(uo cs u path).length) :
  Spec Tryz.prog 49 [.string ⟨s.toArray⟩,.int .i64 (u:Int),.slice pa pn jq,.string ⟨want.toArray⟩] I [] λv I' M'=>v=.bool true/\(∀ b o,I b=some o->I' b=some o)/\M'=[]:=by
 have dZ:=Th an;refine cb [] a6 Tryz.func49 rfl rfl rfl ?_;intro B az;refine be.mk [] [] _ (.refl _) (N5 bu yU) ?_;rintro v iJ N -⟨hT,rfl,g,rfl,au,aV⟩;have jA:=bu.mono hT;obtain⟨hm,bG,l2⟩:=dZ.of au aV;have ey:=Fs aV au;have rY:g.ds.length=cs.length:=by have:=congrArg (λx:cv=>x.ds.length) ey;simpa[cv.a1,jF]using this
 refine be.mk [] [] _ (.refl _) (aeM (UO jA au hm) (aC.mono hT)) ?_;rintro v dh N dY⟨-,rfl,h,a7,rfl,cW⟩;obtain⟨r,af⟩:∃ r,mH hP g r:=⟨_,.inr ⟨hm,F,bG,rfl⟩⟩;have rH:r.2=0:=by rw[ab0 dZ au aV af];exact dw x5
 have xh:p' hP g (((u:Nat):Int).toNat,path)=true:=by rw[g6,<-afd,ey];exact er
 obtain⟨rfl,cS,ta,X,bq,jW,dX,hD,gn,mi,-⟩:=cW.aeL r af rH ⟨rfl,rfl,rfl,by omega,by omega,xh⟩;rw[g6]at jW gn;have C6:h.ds.map aP.a1=(uo cs u path).map aP.a1:=by
  have aG:uo cs u path=eQ (jF cs).ds u (mB X.post):=by unfold uo;rw[<-ey,afa,jW]
  rw[gn,aG,aeb (aea dX hD),<-ey];exact(afc g.ds u _).symm
 have ay:h.ds.length=(uo cs u path).length:=by have:=congrArg List.length C6;simpa using this
 have aee:=cS.n;refine cV.draw a6 rfl rfl rfl ?_;refine ct.mk (λ_=>?_) (λh=>absurd h (by simp));refine ct.mk (λ_=>?_) (λh=>absurd h (by simp;omega));refine d'.mk _ (N5 (M0:=[]) (jA.mono dY) t') ?_;rintro v pW N lF⟨-,rfl,w,rfl,hw,aff⟩;refine be.mk [] [] _ (.refl _) (atr (M0:=[]) ((jA.mono dY).mono lF) (cS.mono lF) hw λd ak=>by have:=(N3 mi).1 d ak;omega) ?_;rintro v mL N -⟨rfl,hU,rfl⟩;refine⟨_,_,.refl,?_,λb o h=>hU _ _ (lF _ _ (dY _ _ (hT _ _ h))),rfl⟩;have aG:um h w=um (nU (uo cs u path)) (jF N6):=by rw[<-ae7 h w,Fs aff hw,<-ae7 (nU _) (jF N6)];unfold um;show jX q4 (h.ds.map aP.a1) _=jX q4 ((uo cs u path).map aP.a1) _;rw[C6,<-Fs aff hw];show jX q4 _ (w.ds.map aP.a1)=jX q4 _ ((w.ds.map aP.a1).map aP.a1);rw[gA,afb]
 rw[aG,q0]
def N7(cs:List h9)(F:List aW):List (Nat×List Int):=if(MT (jF cs).ds F).2=0 then pg hP (jF cs)else []
def afg(dZ:IW cs F)(au:g.ok I)(aV:p1 cs g.ds){r:Int×Int}(af:mH hP g r):A3 hP g r=N7 cs F:=by unfold A3 N7;rw[ab0 dZ au aV af,<-Fs aV au,atx]
def xo:List h9:=[⟨[97],⟨[⟨3,0,0,0,0,[98],0,0,[]⟩,⟨2,0,0,0,0,[120],0,0,[]⟩,⟨3,0,0,0,0,[98],0,0,[]⟩,⟨4,0,0,0,0,[],0,0,[0,1,2]⟩],3⟩⟩,⟨[98],⟨[⟨2,0,0,0,0,[121],0,0,[]⟩],0⟩⟩]
def afh:w1 100000 71 [97,32,60,45,32,98,32,34,120,34,32,98,32,98,32,60,45,32,34,121,34]=some (xo,0,.i64,0):=by kernel_rfl
def afi:List h9:=[⟨[97],⟨[⟨2,0,0,0,0,[121],0,0,[]⟩,⟨2,0,0,0,0,[120],0,0,[]⟩,⟨3,0,0,0,0,[98],0,0,[]⟩,⟨4,0,0,0,0,[],0,0,[0,1,2]⟩],3⟩⟩,⟨[98],⟨[⟨2,0,0,0,0,[121],0,0,[]⟩],0⟩⟩]
def atA:w1 100000 71 [97,32,60,45,32,34,121,34,32,34,120,34,32,98,32,98,32,60,45,32,34,121,34]=some (afi,0,.i64,0):=by kernel_rfl
def JH:List h9:=[⟨[97],⟨[⟨2,0,0,0,0,[120],0,0,[]⟩,⟨3,0,0,0,0,[97],0,0,[]⟩,⟨4,0,0,0,0,[],0,0,[0,1]⟩,⟨0,0,0,0,0,[],0,0,[]⟩,⟨5,0,0,0,0,[],0,0,[2,3]⟩],4⟩⟩]
def atB:w1 100000 71 [97,32,60,45,32,34,120,34,32,97,32,47,32,34,34]=some (JH,0,.i64,0):=by kernel_rfl
def A6:List h9:=[⟨[97],⟨[⟨3,0,0,0,0,[98],0,0,[]⟩,⟨3,0,0,0,0,[99],0,0,[]⟩,⟨4,0,0,0,0,[],0,0,[0,1]⟩],2⟩⟩,⟨[98],⟨[⟨2,0,0,0,0,[121],0,0,[]⟩,⟨2,0,0,0,0,[122],0,0,[]⟩,⟨4,0,0,0,0,[],0,0,[0,1]⟩],2⟩⟩,⟨[99],⟨[⟨0,0,0,0,0,[],0,0,[]⟩],0⟩⟩]
def atC:w1 100000 71 [97,32,60,45,32,98,32,99,32,98,32,60,45,32,34,121,34,32,34,122,34,32,99,32,60,45,32,34,34]=some (A6,0,.i64,0):=by kernel_rfl
def afj:List h9:=[⟨[97],⟨[⟨2,0,0,0,0,[121],0,0,[]⟩,⟨2,0,0,0,0,[122],0,0,[]⟩,⟨3,0,0,0,0,[99],0,0,[]⟩,⟨4,0,0,0,0,[],0,0,[0,1,2]⟩],3⟩⟩,⟨[98],⟨[⟨2,0,0,0,0,[121],0,0,[]⟩,⟨2,0,0,0,0,[122],0,0,[]⟩,⟨4,0,0,0,0,[],0,0,[0,1]⟩],2⟩⟩,⟨[99],⟨[⟨0,0,0,0,0,[],0,0,[]⟩],0⟩⟩]
def atD:w1 100000 71 [97,32,60,45,32,34,121,34,32,34,122,34,32,99,32,98,32,60,45,32,34,121,34,32,34,122,34,32,99,32,60,45,32,34,34]=some (afj,0,.i64,0):=by kernel_rfl
def afk:Ft xo (yF xo 5) 5=true:=by kernel_rfl
def atE:Ft JH (yF JH 5) 5=true:=by kernel_rfl
def atF:Ft A6 (yF A6 5) 5=true:=by kernel_rfl
def atG:UQ xo (yF xo 5)=true:=by kernel_rfl
def atH:UQ A6 (yF A6 5)=true:=by kernel_rfl
def atI:N7 xo (yF xo 5)=[(0,[0]),(0,[2])]:=by kernel_rfl
def atJ:N7 JH (yF JH 5)=[]:=by kernel_rfl
def atK:p' hP (jF xo) (0,[0])=true:=by kernel_rfl
def atL:um (nU (uo xo 0 [0])) (jF afi)=true:=by kernel_rfl
def atM:Nat.ble 1 (uo xo 0 [0]).length=true:=by kernel_rfl
def atN:p' hP (jF A6) (0,[0])=true:=by kernel_rfl
def atO:um (nU (uo A6 0 [0])) (jF afj)=true:=by kernel_rfl
def atP:Nat.ble 1 (uo A6 0 [0]).length=true:=by kernel_rfl
def atQ{β:Type}{f:α->β}{a b:β}:∀ {l:List α},l.map f=[a,b]->∃ x y,l=[x,y]/\f x=a/\f y=b
 |[x,y],h=>by simp only[b0,hy,xU,and_true]at h;exact⟨x,y,rfl,h.1,h.2⟩
 |[],h=>by simp at h
 |[x],h=>by simp at h
 |x::y::z::l,h=>by simp at h
def afl(k:Int):de (ins I b (.cells #[.int .i64 k] 3 (0,0))) (some ⟨b,0,none⟩) 1 1 1 8 (nW [k]):=
 ⟨rfl,⟨ca _,by decide⟩,.inr ⟨⟨b,0,none⟩,rfl,rfl,_,_,_,mo ..,rfl⟩⟩
def afm(bu:ga I hP):Spec Tryz.prog 27 [] I [] λv J mb=>v=.bool true/\(∀ b o,I b=some o->J b=some o)/\mb=[]:=by
 refine cb [] a6 Tryz.func27 rfl rfl rfl ?_;intro B az;refine be.mk [] [] _ (.refl _) (N5 bu afh) ?_;rintro v I1 N -⟨cH,rfl,g,rfl,au,aV⟩;have jA:=bu.mono cH;have dZ:=Th afk;refine be.mk [] [] _ (.refl _) (UC (UO jA au (dZ.of au aV).1)) ?_;rintro v dI N -⟨e4,os,L,r,af,rfl,bT,cc,rfl,np⟩;rw[afg dZ au aV af,atI]at np;have il:=jA.mono e4;obtain⟨sy,aem,rfl,gx,wQ⟩:=atQ np;obtain⟨k4,yv,fC,tN⟩:=sy;obtain⟨iT,BQ,cC,gy⟩:=aem;simp only[fY.sj,KV]at gx wQ;obtain⟨rfl,rfl⟩:=gx;obtain⟨rfl,rfl⟩:=wQ;have aB:os.n=2:=by have:=bT.len;rw[iQ _ 5 fY.Dl]at this;simp only[dx,fS]at this;omega
 have rd:=λ(M:List aD) (a':∀ x∈os.aq 57,x∈M)=>aY.ok.row (I:=dI) (M:=M) fY.Dl (by decide) bT (e:=57) a' (j:=0) (by simp);have QF:=λ(M:List aD) (a':∀ x∈os.aq 57,x∈M)=>aY.ok.row (I:=dI) (M:=M) fY.Dl (by decide) bT (e:=57) a' (j:=1) (by simp);obtain⟨aS,bH,bl⟩:=rd (os.aq 57++[]) (λx ad=>hY _ ad);obtain⟨UR,afn,hM⟩:=QF (os.aq 57++[]) (λx ad=>hY _ ad);have bl:cF dI (os.aq 57++[]) (aS.add (0*5)) 5 [.int .u8 1,.int .u8 1,.int .i64 0,.slice fC 1 tN,.int .i64 0]:=bl;have hM:cF dI (os.aq 57++[]) (UR.add (1*5)) 5 [.int .u8 1,.int .u8 1,.int .i64 0,.slice cC 1 gy,.int .i64 0]:=hM;obtain⟨oI,G6,rH⟩:=(cc ⟨0,[0],fC,tN⟩ (.head _)).a0.one (f:=(.int .i64 ·)) (l:=([0]:List Int)) (j:=0) NY NY;obtain⟨b1,ho,h0⟩:=(cc ⟨0,[2],cC,gy⟩ (.tail _ (.head _))).a0.one (f:=(.int .i64 ·)) (l:=([2]:List Int)) (j:=0) NY NY;refine ct.mk (λ_=>?_) (λh=>absurd h (by simp[aB]));refine bd.mk aS 0 bH rfl (by omega) ?_;refine aM.mk _ (bl.part (k:=3) (m:=1) (by decide)) ?_;refine ct.mk (λ_=>?_) (λh=>by cases h);refine bd.mk aS 0 bH rfl (by omega) ?_;refine aM.mk _ (bl.part (k:=3) (m:=1) (by decide)) ?_;refine bd.mk oI 0 G6 rfl (by decide) ?_;refine aM.mk _ (rH _) ?_;refine ct.mk (λ_=>?_) (λh=>by cases h);refine bd.mk UR 1 afn rfl (by omega) ?_;refine aM.mk _ (hM.part (k:=3) (m:=1) (by decide)) ?_;refine ct.mk (λ_=>?_) (λh=>by cases h);refine bd.mk UR 1 afn rfl (by omega) ?_;refine aM.mk _ (hM.part (k:=3) (m:=1) (by decide)) ?_;refine bd.mk b1 0 ho rfl (by decide) ?_;refine aM.mk _ (h0 _) ?_;refine ct.mk (λ_=>?_) (λh=>by cases h);refine bd.mk aS 0 bH rfl (by omega) ?_;refine aM.mk _ (bl.part (k:=0) (m:=1) (by decide)) ?_;refine ct.mk (λ_=>?_) (λh=>by cases h);refine bd.mk aS 0 bH rfl (by omega) ?_;refine aM.mk _ (bl.part (k:=1) (m:=1) (by decide)) ?_;refine ct.mk (λ_=>?_) (λh=>by cases h);refine bd.mk aS 0 bH rfl (by omega) ?_;refine aM.mk _ (bl.part (k:=2) (m:=1) (by decide)) ?_;refine ct.mk (λ_=>?_) (λh=>by cases h);refine bd.mk aS 0 bH rfl (by omega) ?_;refine aM.mk _ (bl.part (k:=4) (m:=1) (by decide)) ?_;refine a2.mk (λh=>by cases h) (λ_=>?_);refine bX.mk λb9 jM s8=>?_
 have zr:=afe (il.mono (hL (o:=.cells #[.int .i64 0] 3 (0,0)) jM)) afh atA afk atG (u:=0) (path:=[0]) (afl (I:=dI) (b:=b9) 0) atK (by decide) atL (bJ atM);refine be.Dx (ins dI b9 (.cells #[.int .i64 0] 3 (0,0))) [] [] _ (.sub (List.cons_sublist_cons.2 (fO _)) (.kN rfl (by simp) .refl)) zr ?_;rintro v h2 N iH -⟨rfl,-,rfl⟩;have oj:=(il.mono (hL (o:=.cells #[.int .i64 0] 3 (0,0)) jM)).mono iH;refine ct.mk (λ_=>?_) (λh=>by cases h);refine be.mk [] [] _ (.refl _) (N5 oj atB) ?_;rintro v rB N yM⟨-,rfl,ba,rfl,kW,ll⟩;have JA:=oj.mono yM;have vG:=Th atE;refine be.mk [] [] _ (.refl _) (UC (UO JA kW (vG.of kW ll).1)) ?_;rintro v zH N TB⟨-,kd,hO,n7,pz,rfl,Jm,nS,rfl,uk⟩;rw[afg vG kW ll pz,atJ]at uk;have ob:kd.n=0:=by have:=Jm.len;rw[iQ _ 5 fY.Dl]at this;have ab:=congrArg List.length uk;rw[bI]at ab;simp only[fS]at ab;omega
 have NF:=JA.mono TB;refine ct.mk (λ_=>?_) (λh=>absurd h (by simp[ob]));refine bX.mk λfU Eh ad7=>?_;have FW:=afe (NF.mono (hL (o:=.cells #[.int .i64 0] 3 (0,0)) Eh)) atC atD atF atH (u:=0) (path:=[0]) (afl (I:=zH) (b:=fU) 0) atN (by decide) atO (bJ atP);refine be.Dx (ins zH fU (.cells #[.int .i64 0] 3 (0,0))) [] [] _ (.sub (List.cons_sublist_cons.2 (fO _)) (.kN rfl (by simp) .refl)) FW ?_;rintro v tI N NN -⟨rfl,-,rfl⟩;exact⟨_,_,.refl,rfl,λb o h=>NN _ _ (hL Eh _ _ (TB _ _ (yM _ _ (iH _ _ (hL jM _ _ (e4 _ _ (cH _ _ h))))))),rfl⟩
def N8(d:ao)(xs:List (Int×Nat)):Int×Nat:=(d.k,(xs.map (·.2)).sum+(if d.k=4\/d.k=5 then xs.countP (λx=>decide (x.1=d.k))else 0))
def mM(T:aQ):Nat:=(T.fold N8).2
def atS(T:aQ):(T.fold N8).1=T.d.k:=by
 cases T with
 |mk d ks=>rw[aQ.fold_eq];rfl
def afo(k:Int):∀ ks:List aQ,(ks.map (aQ.fold N8)).countP (λx=>decide (x.1=k))=ks.countP (λc=>decide (c.d.k=k))
 |[]=>rfl| c::ks=>by rw[b0,HT,HT,afo k ks,atS]
def N9(d:ao)(ks:List aQ):mM (.mk d ks)=(ks.map mM).sum+(if d.k=4\/d.k=5 then ks.countP (λc=>decide (c.d.k=d.k))else 0):=by unfold mM;rw[aQ.fold_eq];show((ks.map (aQ.fold N8)).map (·.2)).sum+_=_;rw[gA,afo];rfl
def N'(k:Int):∀ ks:List aQ,ks.countP (λc=>decide (c.d.k=k))=(ks.map λc=>if c.d.k=k then 1 else 0).sum
 |[]=>rfl
 |c::ks=>by
  rw[HT,b0,h4,N' k ks];by_cases h:c.d.k=k;·simp[h];omega
  ·simp[h]
def JI{α:Type}:∀ ks:List α,(ks.map λ_=>(0:Nat)).sum=0
 |[]=>rfl| c::ks=>by rw[b0,h4,JI ks]
def US(f g h k:aQ->Nat):∀ ks:List aQ,(∀ c∈ks,f c+g c+h c=k c)->(ks.map f).sum+(ks.map g).sum+(ks.map h).sum=(ks.map k).sum
 |[],_=>rfl| c::ks,H=>by have aa:=US f g h k ks λx ad=>H x (.tail _ ad);have ab:=H c (.head _);simp only[b0,h4];omega
def atT:∀ T:aQ,dv T.bo+mM T=dv T/\∀ cw,Nv cw->((T.fx cw).map dv).sum+mM T+(if some T.d.k=cw then 1 else 0)=dv T:=by
 intro T
 induction T using aQ.ind with
 |h d ks aL=>
  have nn:dv (aQ.mk d ks).bo+mM (.mk d ks)=dv (.mk d ks):=by
   show dv (.mk d (ks.flatMap (aQ.fx (hq d))))+_=_;rw[kj,kj,JC,N9];have aa:=US (λc=>((c.fx (hq d)).map dv).sum) mM (λc=>if some c.d.k=hq d then 1 else 0) dv ks λc an=>(aL c an).2 _ (TW d);by_cases eD:d.k=4\/d.k=5;·have e:hq d=some d.k:=bN eD;rw[bN eD,N'];rw[e]at aa |-;simp only[jY]at aa;omega
   ·have e:hq d=none:=bR eD;rw[bR eD];rw[e]at aa |-;have ab:(ks.map λc:aQ=>if some c.d.k=(none:Option Int)then 1 else 0).sum=0:=by
     have:(λc:aQ=>if some c.d.k=(none:Option Int)then 1 else 0)=λ_=>0:=by funext c;simp
     rw[this];exact JI ks
    omega
  refine⟨nn,λcw j9=>?_⟩;rw[aQ.p3];by_cases ae:some d.k=cw
  ·rw[bN ae];have hd:some (aQ.mk d ks).d.k=cw:=ae;rw[bN hd,JC,kj,N9];have eD:d.k=4\/d.k=5:=by
    rcases j9 with h | h | h<;>rw[h]at ae
    ·cases ae
    ·exact .inl (fh ae)
    ·exact .inr (fh ae)
   have aa:=US (λc=>((c.fx cw).map dv).sum) mM (λc=>if some c.d.k=cw then 1 else 0) dv ks λc an=>(aL c an).2 _ j9;rw[bN eD,N'];rw[<-ae]at aa |-;simp only[jY]at aa;omega
  ·rw[bR ae];have hd:¬ some (aQ.mk d ks).d.k=cw:=ae;rw[bR hd];simpa using nn
def atU(T:aQ):dv T.ki+mM (T.fold ir)=dv (T.fold ir):=(atT _).1
def F3:lI T->mM T=0:=by
 induction T using aQ.ind with
 |h d ks aL=>
  intro h;obtain⟨aa,ab⟩:=h.inv;rw[N9];have aG:(ks.map mM).sum=0:=by have:ks.map mM=ks.map λ_=>0:=fR λc an=>aL c an (ab c an);rw[this];exact JI ks
  rw[aG];split;·rename_i eD;rw[c8,List.countP_eq_zero];intro c an;rw[Mw];exact(aa eD c an).1
  ·rfl
def filter_all{d:ao}(h:d.k=4->∀ c∈ks,c.d.k≠0):ks.filter (iK d)=ks:=by
 rw[List.filter_eq_self];intro c an;unfold iK;by_cases aI:d.k=4
 ·rw[e9 aI,et (h aI c an)];rfl
 ·rw[et aI];rfl
def afp{d:ao}(h:d.k=4->∀ c∈ks,c.d.k≠0)(ab:d.k=4\/d.k=5->2<=ks.length)(ag:d.bare=d):ir d ks=.mk d ks:=by
 rw[C8,filter_all h,ag];split
 ·rename_i eD;have:=ab eD
  match ks,this with
  |a::b::l,_=>rfl
 ·rfl
def Oa:lI T->fN T->iI T->T.fold ir=T:=by
 induction T using aQ.ind with
 |h d ks aL=>
  intro h aH ag;obtain⟨aa,ab⟩:=h.inv;obtain⟨yS,fI⟩:=aH.inv;obtain⟨b1,bW⟩:=ag.inv;have e:ks.map (aQ.fold ir)=ks:=by have:ks.map (aQ.fold ir)=ks.map id:=fR λc an=>aL c an (ab c an) (fI c an) (bW c an);rw[this,Fy]
  rw[aQ.fold_eq,e];exact afp (λaI c an db=>(aa (.inl aI) c an).2 ⟨db,aI⟩) (λeD=>by have:=FI eD yS;omega) b1
inductive Dm(T P H:aQ):Prop
 |a(h:T.d.k=3)(n9:P=H)(aB:lI H)(aH:fN H)| b (h:T.d.k=4) (az:H.d.k≠0) (aI:H.d.k≠4) (he:mM H=0) (ar:dv H+2=dv P)| c (h:H.d.k=T.d.k) (ar:dv P+mM H<=dv H+3) (bm:dv H<=dv P)
def Dm.done(h:Dm T P H):dv P+mM H<=dv H+3:=by
 rcases h with⟨h,rfl,aB,-⟩ | ⟨h,az,aI,he,ar⟩ | ⟨h,ar,-⟩
 ·rw[F3 aB];omega
 ·omega
 ·exact ar
def Ob{f:aQ->Nat}:∀ (ks:List aQ) (q:Nat) (x:aQ) (h:q<ks.length),((ks.set q x).map f).sum+f ks[q]=(ks.map f).sum+f x:=λks q x h=>by have:=JD (ks.map f) q (f x) (by rw[bI];exact h);rw[f']at this;rw[pw];exact this
def atV{d:ao}(aR:q<ks.length)(bu:lI (.mk d ks))(ag:iI (.mk d ks))(aH:fN (.mk d ks))(h:Dm ks[q] P H):Dm (.mk d ks) (.mk d (ks.set q P)) (ir d (ks.set q H)):=by
 obtain⟨kX,iE⟩:=bu.inv;obtain⟨b1,-⟩:=ag.inv;obtain⟨yS,-⟩:=aH.inv;have Av:=h.done;have bm:dv H<=dv P:=by
  rcases h with⟨-,rfl,-,-⟩ | ⟨-,-,-,-,ar⟩ | ⟨-,-,bm⟩;·exact ca _
  ·omega
  ·exact bm
 have awC:=Ob (f:=dv) ks q P aR;have awD:=Ob (f:=dv) ks q H aR;have awE:=Ob (f:=mM) ks q H aR;have awF:(ks.map mM).sum=0:=by have:ks.map mM=ks.map λ_=>0:=fR λc an=>F3 (iE c an);rw[this];exact JI ks
 have wj:=F3 (iE _ (br aR));have stay:(d.k=4->H.d.k≠0)->Dm (.mk d ks) (.mk d (ks.set q P)) (ir d (ks.set q H)):=λkV=>by
  have ai:ir d (ks.set q H)=.mk d (ks.set q H):=by
   refine afp (λaI c an=>?_) (λeD=>by rw[n5];have:=FI eD yS;omega) b1;rcases yy an with an | rfl;·exact λdb=>(kX (.inl aI) c an).2 ⟨db,aI⟩
   ·exact kV aI
  rw[ai];refine .c rfl ?_ (by rw[kj,kj];omega);rw[kj,kj,N9];have awG:(if d.k=4\/d.k=5 then(ks.set q H).countP (λc=>decide (c.d.k=d.k))else 0)<=(if(d.k=4\/d.k=5)/\H.d.k=d.k then 1 else 0):=by
   by_cases eD:d.k=4\/d.k=5
   ·rw[bN eD,N'];have s1:=Ob (f:=λc:aQ=>if c.d.k=d.k then 1 else 0) ks q H aR;have s2:(ks.map λc:aQ=>if c.d.k=d.k then 1 else 0).sum=0:=by have:(ks.map λc:aQ=>if c.d.k=d.k then 1 else 0)=ks.map λ_=>0:=fR λc an=>bR (kX eD c an).1;rw[this];exact JI ks
    by_cases e:H.d.k=d.k;·rw[bN ⟨eD,e⟩];simp only[e,pk]at s1;omega
    ·rw[bR λh=>e h.2];simp only[e,lM]at s1;omega
   ·rw[bR eD];omega
  have oz:dv P+mM H+(if(d.k=4\/d.k=5)/\H.d.k=d.k then 1 else 0)<=dv H+3:=by
   by_cases e:(d.k=4\/d.k=5)/\H.d.k=d.k
   ·rw[bN e];rcases h with⟨h,rfl,aB,-⟩ | ⟨h,az,aI,he,ar⟩ | ⟨h,ar,-⟩
    ·rw[F3 aB];omega
    ·omega
    ·exact absurd (h.symm.trans e.2) (kX e.1 _ (br aR)).1
   ·rw[bR e];exact Av
  omega
 by_cases aI:d.k=4/\H.d.k=0
 rotate_left
 ·exact stay λdr db=>aI ⟨dr,db⟩
 obtain⟨dr,db⟩:=aI;rcases h with⟨h,rfl,aB,atW⟩ | ⟨h,az,-,-,-⟩ | ⟨h,-,-⟩
 ·
  have df:dv P=1:=by
   cases P with
   |mk gM C1=>
   have:C1=[]:=iy (adp db atW.inv.1);subst this;rw[kj];rfl
  have c2:=FI (.inl dr) yS;have afq:ks.set q P=ks.take q++P::ks.drop (q+1):=by rw[DG,bN aR]
  have eR:ks=ks.take q++ks[q]::ks.drop (q+1):=by rw[<-eV aR,rG]
  have A7:∀ c∈ks.take q++ks.drop (q+1),c∈ks:=λc an=>by
   rcases cB.1 an with an | an;·exact Kv an
   ·exact List.mem_of_mem_drop an
  have atX:iK d P=false:=by unfold iK;rw[e9 dr,e9 db];rfl
  have m8:(ks.set q P).filter (iK d)=ks.take q++ks.drop (q+1):=by rw[afq,yb,pu,atX];have aA:=filter_all (d:=d) (ks:=ks.take q++ks.drop (q+1)) λ_ c an wN=>(kX (.inl dr) c (A7 c an)).2 ⟨wN,dr⟩;rw[yb]at aA;simpa using aA
  have ue:((ks.set q P).map dv).sum=((ks.take q++ks.drop (q+1)).map dv).sum+1:=by rw[afq];simp only[cM,b0,qv,h4,df];omega
  have gX:(ks.take q++ks.drop (q+1)).length+1=ks.length:=by rw[ch,hx,tp];omega
  rw[C8,bN (.inl dr),m8,b1];generalize ks.take q++ks.drop (q+1)=bi at ue gX A7
  match bi,gX,ue,A7 with
  |[],gX,_,_=>simp at gX;omega| [z],gX,ue,A7=>have bb:=A7 z (.head _);refine .b dr (λwN=>(kX (.inl dr) z bb).2 ⟨wN,dr⟩) (λwN=>(kX (.inl dr) z bb).1 (wN.trans dr.symm)) (F3 (iE z bb)) ?_;rw[kj,ue];simp
  |w9::xb::l,gX,ue,A7=>
   have he:mM (.mk d (w9::xb::l))=0:=by refine F3 (.mk (λeD c an=>kX eD c (A7 c an)) λc an=>iE c (A7 c an))
   refine .c rfl ?_ ?_;·show dv (.mk d (ks.set q P))+mM (.mk d (w9::xb::l))<=dv (.mk d (w9::xb::l))+3;rw[he,kj,kj,ue];omega
   ·show dv (.mk d (w9::xb::l))<=dv (.mk d (ks.set q P));rw[kj,kj,ue];omega
 ·exact absurd db az
 ·exact absurd ⟨h.symm.trans db,dr⟩ (kX (.inl dr) _ (br aR)).2
def afr{Y:aQ}(Dn:lI Y)(Dp:fN Y)(F4:iI Y):∀ (p:List Int) (T S:aQ),lI T->fN T->iI T->T.go p=some S->S.d.k=3->Dm T (T.put p Y) ((T.put p Y).fold ir)
 |[],T,S,_,_,_,h,aj=>by rw[aQ.go]at h;cases h;rw[aQ.put];exact .a aj (Oa Dn Dp F4).symm (by rw[Oa Dn Dp F4];exact Dn) (by rw[Oa Dn Dp F4];exact Dp)
 |i::p,.mk d ks,S,aB,aH,ag,h,aj=>by
  rw[aQ.go]at h;split at h
  ·rename_i hi;have hi:0<=i/\i<(ks.length:Int):=hi;obtain⟨q,rfl⟩:=eH hi.1;have aR:q<ks.length:=by omega
   have a7:ks.getD q (.mk d ks)=ks[q]:=by simp[bA,aR]
   have h:(ks.getD q (.mk d ks)).go p=some S:=h;rw[a7]at h;have hm:=br aR;have aL:=afr Dn Dp F4 p _ S (aB.inv.2 _ hm) (aH.inv.2 _ hm) (ag.inv.2 _ hm) h aj;rw[aQ.put];show Dm _ (aQ.mk d (ks.set q ((ks.getD q (.mk d ks)).put p Y))) ((aQ.mk d (ks.set q ((ks.getD q (.mk d ks)).put p Y))).fold ir);rw[a7,aQ.fold_eq,pw];have cn:ks.map (aQ.fold ir)=ks:=by have:ks.map (aQ.fold ir)=ks.map id:=fR λc an=>Oa (aB.inv.2 c an) (aH.inv.2 c an) (ag.inv.2 c an);rw[this,Fy]
   rw[cn];exact atV aR aB ag aH aL
  ·cases h
def atY{Y:aQ}(Dn:lI Y)(Dp:fN Y)(F4:iI Y)(aB:lI T)(aH:fN T)(ag:iI T)(h:T.go p=some S)(aj:S.d.k=3):dv (T.put p Y)<=dv (T.put p Y).ki+3:=by have aa:=(afr Dn Dp F4 p T S aB aH ag h aj).done;have ab:=atU (T.put p Y);omega
def mN(w:ao->Nat)(d:ao)(xs:List Nat):Nat:=w d+xs.sum
def afs(w:ao->Nat){X S:aQ}:∀ (p:List Int) (T:aQ),T.go p=some S->(T.put p X).fold (mN w)+S.fold (mN w)=T.fold (mN w)+X.fold (mN w)
 |[],T,h=>by rw[aQ.go]at h;cases h;rw[aQ.put];omega
 |i::p,.mk d ks,h=>by
  rw[aQ.go]at h;split at h
  ·rename_i hi;have hi:0<=i/\i<(ks.length:Int):=hi;obtain⟨q,rfl⟩:=eH hi.1;have aR:q<ks.length:=by omega
   have a7:ks.getD q (.mk d ks)=ks[q]:=by simp[bA,aR]
   have h:(ks.getD q (.mk d ks)).go p=some S:=h;have aL:=afs w (X:=X) p _ h;rw[aQ.put];show(aQ.mk d (ks.set q ((ks.getD q (.mk d ks)).put p X))).fold (mN w)+_=_;rw[a7]at aL |-;rw[aQ.fold_eq,aQ.fold_eq,pw];have aj:=JD (ks.map (aQ.fold (mN w))) q ((ks[q].put p X).fold (mN w)) (by rw[bI];exact aR);rw[f']at aj;unfold mN at aj aL |-;omega
  ·cases h
def atZ(w:ao->Nat)(hw:∀ d,w d.bare=w d)(ns:List ao):∀ T:aK,(T.bare ns).fold (mN w)=(T.cE.map λx=>w (nodeAt ns x)).sum:=by
 intro T
 induction T using aK.ind with
 |h k ks aL=>
  rw[aK.mK,aQ.fold_eq,aK.kJ,cM,qv,gA];have e:(ks.map (aQ.fold (mN w) ∘ aK.bare ns)).sum=((ks.flatMap aK.cE).map λx=>w (nodeAt ns x)).sum:=by
   clear k
   induction ks with
   |nil=>rfl| cons c ks Jl=>rw[b0,h4,j6,cM,qv,Jl λx ad=>aL x (.tail _ ad),<-aL c (.head _)];rfl
  show w (nodeAt ns k).bare+(List.map (aQ.fold (mN w) ∘ aK.bare ns) ks).sum=_;rw[e,hw];simp;omega
def at0:∀ {T:aK},cq ns T->∀ p∈T.cE,∀ j:Nat,(j:Int)∈(nodeAt ns p).aw->j∈T.cE:=by
 intro T
 induction T using aK.ind with
 |h k ks aL=>
  intro h p aC j ai;rw[aK.kJ]at aC |-;rcases cB.1 aC with aC | aC;·obtain⟨c,an,aC⟩:=hb.1 aC;exact hY _ (hb.2 ⟨c,an,aL c an (h.C4 c an) p aC j ai⟩)
  ·rw[ed]at aC;subst aC;have ae:=h.w7;have ae:(nodeAt ns p).aw=eL ks:=ae;rw[ae]at ai;obtain⟨c,an,e⟩:=cN.1 ai;have e:c.bh=j:=by omega
   refine hY _ (hb.2 ⟨c,an,?_⟩);rw[<-e];cases c with
   |mk l cs=>rw[aK.kJ];exact qg _ (.head _)
def at1(h:hG t){T:aK}(aa:t.bn=(T.bh:Int))(ab:cq t.ns T)(aI:T.cE.Nodup):T.cE.Perm (List.range t.ns.length):=by
 refine(M2 aI xJ).2 λj=>?_;rw[g7];constructor
 ·exact λai=>ab.lt j ai
 ·intro ai;refine h.down (P:=λj=>j∈T.cE) (λr af=>?_) (λp aC n9 j s9=>?_) _ j ai (ca _)
  ·have:r=T.bh:=by omega
   rw[this];cases T with
   |mk l cs=>rw[aK.kJ];exact qg _ (.head _)
  ·exact at0 ab p n9 j (by rw[gm aC];exact s9)
def Oc(w:ao->Nat)(hw:∀ d,w d.bare=w d)(af:right t=true):(cr t).fold (mN w)=(t.ns.map w).sum:=by have aV:=nc.1 af;obtain⟨T,aa,ab,aj,aI,bB⟩:=aV.xi;rw[aj,atZ w hw];have aC:=at1 aV aa ab aI;rw[(aC.map λx=>w (nodeAt t.ns x)).sum_nat];congr 1;refine mT (by simp) λi a b=>?_;rw[f',u5,f',gm (by simpa using b)]
def at2(T:aQ):dv T=T.fold (mN λ_=>1):=by
 have:aew=mN λ_=>1:=by funext d xs;show xs.sum+1=1+xs.sum;omega
 unfold dv;rw[this]
def F5(af:right t=true):dv (cr t)=t.ns.length:=by
 rw[at2,Oc (λ_=>1) (λ_=>rfl) af]
 induction t.ns with
 |nil=>rfl| cons a l aL=>rw[b0,h4,aL,dx];omega
def qa(nm:ByteArray)(d:ao):Nat:=if d.k=3/\d.t=nm then 1 else 0
def at3(nm:ByteArray):Tx (mN (qa nm)):=by
 have az:∀ d:ao,d.k≠3->qa nm d=0:=λd h=>bR λe=>h e.1;refine⟨λd l=>rfl,?_,?_,?_,?_,?_⟩
 ·intro d x h;unfold mN;rw[az d (by omega)];simp
 ·intro d gM xs ys e1 h bc;unfold mN;rw[az d (by omega),az gM (by omega)];simp
 ·intro d gM xs e1 h bc;unfold mN;rw[az d (by omega),az gM (by omega)];simp
 ·intro d gM h bc;unfold mN;rw[az d (by omega),az gM (by omega)]
 ·intro d gM h bc _ _ _ _;unfold mN;rw[az d (by omega),az gM (by omega)]
def kL(nm:ByteArray)(ns:List ao):Nat:=(ns.map (qa nm)).sum
def at4(hw:AY ax g F)(hu:u<g.ds.length){X:aQ}(jW:oo ax g u p=some X)(af:right t=true)(av:cr t=X)(cO:(cr g.ds[u].t).go p=some S)(fe:q<g.ds.length)(aR:cu S.d.t g.ds 0=(q:Int))(nm:ByteArray) :
  kL nm t.ns+(if nm=S.d.t then 1 else 0)=kL nm g.ds[u].t.ns+kL nm g.ds[q].t.ns/\t.ns.length+1<=g.ds[u].t.ns.length+g.ds[q].t.ns.length/\g.ds[u].t.ns.length+g.ds[q].t.ns.length<=t.ns.length+4:=by
 obtain⟨ke,e0,aa,ab,aj,aI,bB,b4,ef,si⟩:=NJ hw hu jW;rw[cO]at aa;cases aa;have e:e0=q:=by omega
 subst e;have rV:g.ds.getD e0 gP=g.ds[e0]:=by simp[bA,aj]
 rw[rV]at si;have yW:=nq hw.m (br hu);have ms:=nq hw.m (br aj);have at5:=(Jt.1 (Um hw.m (br hu))).2;have OS:=(Jt.1 (Um hw.m (br aj))).2;have k5:=NI (yV ms) p (yV yW);have at6:iI (cr g.ds[u].t):=by obtain⟨T,eg,cy,gG,-⟩:=(nc.1 yW).xi;rw[gG];exact TE _ _
 have at7:iI (cr g.ds[e0].t):=by obtain⟨T,eg,cy,gG,-⟩:=(nc.1 ms).xi;rw[gG];exact TE _ _
 refine⟨?_,?_,?_⟩
 ·have cC:=Oc (qa nm) (λ_=>rfl) af;have dQ:=Oc (qa nm) (λ_=>rfl) yW;have dT:=Oc (qa nm) (λ_=>rfl) ms;rw[av,si,adt (at3 nm) k5]at cC;have gu:=afs (qa nm) (X:=cr g.ds[e0].t) p _ cO;have kM:S.fold (mN (qa nm))=if nm=S.d.t then 1 else 0:=by
   cases S with
   |mk d ks=>
   have b4:ks=[]:=b4;subst b4;rw[aQ.fold_eq];have ab:d.k=3:=ab;show qa nm d+_=(if nm=d.t then 1 else 0);unfold qa;by_cases e:d.t=nm;·rw[bN ⟨ab,e⟩,bN e.symm];rfl
   ·rw[bR λh=>e h.2,bR λh=>e h.symm];rfl
  unfold kL;omega
 ·have b1:=F5 af;have bW:=F5 yW;have cY:=F5 ms;have hp:=NT (X:=cr g.ds[e0].t) p _ cO;have eu:=aey ((cr g.ds[u].t).put p (cr g.ds[e0].t));rw[av,si]at b1;have b6:=asJ S;omega
 ·have b1:=F5 af;have bW:=F5 yW;have cY:=F5 ms;have hp:=NT (X:=cr g.ds[e0].t) p _ cO;have eu:=atY OS (yV ms) at7 at5 (yV yW) at6 cO ab;rw[av,si]at b1;have b6:dv S=1:=by
   cases S with
   |mk d ks=>
   have b4:ks=[]:=b4;subst b4;rw[kj];rfl
  omega
def aua(nm:ByteArray)(d:ao)(ns:List ao):kL nm (d::ns)=qa nm d+kL nm ns:=rfl
def Od(nm:ByteArray):∀ ns:List ao,kL nm ns<=ns.length
 |[]=>ca _
 |d::ns=>by
  have:=Od nm ns;rw[aua,dx];unfold qa;split<;>omega
def aub(nm:ByteArray){j:Nat}(ai:j<ns.length):kL nm (ns.take (j+1))=kL nm (ns.take j)+qa nm ns[j]:=by unfold kL;rw[gg ai,cM,qv];simp
def UT(av:t.ok I)(aB:t.n<=1099511627776)(nm:ByteArray):Spec Tryz.prog 34 [t.val,.string nm] I M0 λv I' M'=>v=.int .i64 ((kL nm t.ns:Nat):Int)/\I'=I/\M'=M0:=by
 have hD:=av.n;obtain⟨ns,ji,gb,jB,gq⟩:=t;simp only at hD aB;refine cb [] a6 Tryz.func34 rfl rfl rfl ?_;intro B az;refine di.inv (ι:=Nat) (λj=>{ bi:=[(1,.val (.string nm)),(2,.ref 2 0),(5,.val (.int .i64 ((kL nm (ns.take j):Nat):Int))),(6,.val (.int .i64 (j:Int)))],cl:=[(2,[.slice ji gb jB,.int .i64 gq])],cD:=I,c0:=M0 }) (λj=>j<=gb) (λj=>gb-j) ?_ ?_
 ·exact⟨0,dD _,.refl,ew,.cons rfl (.nil)⟩
 rintro j ai;refine a2.mk (λh=>?_) (λh=>?_)
 ·have aX:j<gb:=by have:(j:Int)<(gb:Int):=dw h;omega
  have cj:j<ns.length:=by omega
  obtain⟨aS,bH,bl⟩:=av.a0.row ao.cP (j:=j) aX cj;have ey:=aub nm cj;have dX:=Od nm (ns.take j);rw[hx]at dX;have bl:∀ M,cF I M (aS.add (j*9)) 9 (ns[j]'cj).cells:=bl;generalize ns[j]=d at *;obtain⟨dc,d0,d1,d2,d3,fL,Nt,Nu,Uz,og,DR,UA⟩:=d;have xl:=cL (i:=j) (by omega);refine bd.mk aS j bH rfl aX ?_;refine aM.mk [.int .u8 dc] ((bl _).part (k:=0) (m:=1) (by decide)) ?_;by_cases aj:dc=3
  ·refine ct.mk (λ_=>?_) (λh=>absurd h (by simp[aj]));refine bd.mk aS j bH rfl aX ?_;refine aM.mk [.string fL] ((bl _).part (k:=5) (m:=1) (by decide)) ?_;by_cases hv:fL=nm
   ·refine a2.mk (λ_=>?_) (λh=>absurd h (by simp[hv]));have e:kL nm (ns.take (j+1))=kL nm (ns.take j)+1:=by rw[ey];unfold qa;rw[bN ⟨aj,hv⟩]
    refine bg.mk _ (cL (i:=kL nm (ns.take j)) (by omega)) ?_;refine bg.mk _ xl ?_;refine⟨j+1,⟨aX,by omega⟩,.refl,?_,.cons rfl (.nil)⟩;rw[e];exact ew
   ·refine a2.mk (λh=>absurd h (by simp[hv])) (λ_=>?_);have e:kL nm (ns.take (j+1))=kL nm (ns.take j):=by rw[ey];unfold qa;rw[bR λh=>hv h.2];rfl
    refine bg.mk _ xl ?_;refine⟨j+1,⟨aX,by omega⟩,.refl,?_,.cons rfl (.nil)⟩;rw[e];exact ew
  ·refine ct.mk (λh=>absurd h (by simp[aj])) (λ_=>?_);have e:kL nm (ns.take (j+1))=kL nm (ns.take j):=by rw[ey];unfold qa;rw[bR λh=>aj h.1];rfl
   refine bg.mk _ xl ?_;refine⟨j+1,⟨aX,by omega⟩,.refl,?_,.cons rfl (.nil)⟩;rw[e];exact ew
 ·have cI:¬ (j:Int)<(gb:Int):=ek h;refine⟨_,_,.refl,?_,rfl,rfl⟩;rw[fA (by omega)]
def aft(ey:h.ds.map aP.a1=(eQ g.ds u bq).map aP.a1):h.ds.length=g.ds.length/\∀ k (ae:k<h.ds.length) (hd:k<g.ds.length),h.ds[k].name=g.ds[k].name/\(k≠u->h.ds[k].t.a1=g.ds[k].t.a1)/\(k=u->h.ds[k].t.a1=bq.a1):=by
 have ay:=congrArg List.length ey;rw[bI,bI,yR]at ay;refine⟨ay,λk ae hd=>?_⟩;have hm:=congrArg (λl:List aP=>l[k]?) ey;simp only[jH]at hm;rw[dg ae]at hm;by_cases e:k=u
 ·subst e;rw[Db hd]at hm;have hm:=fh hm;exact⟨(congrArg aP.name hm :),λh=>absurd rfl h,λ_=>(congrArg aP.t hm :)⟩
 ·rw[Da e,dg hd]at hm;have hm:=fh hm;exact⟨(congrArg aP.name hm :),λ_=>(congrArg aP.t hm :),λh=>absurd h e⟩
def afu(hm:dz ax g=0):mu g=(g.ds.map λd=>d.t.n).sum:=by unfold mu;congr 1;refine fR λd ak=>?_;unfold rN;rw[nq hm ak];rfl
def auc{a b:bS}(af:right b=true)(h:a.a1=b.a1):td a b=true:=by rw[<-UN,h,UN];unfold td;rw[e9 rfl,af,ae3 atf];rfl
def aud(hu:u<g.ds.length)(zD:u<h.ds.length)(ey:h.ds.map aP.a1=(eQ g.ds u bq).map aP.a1):(h.ds.map λd=>d.t.n).sum+g.ds[u].t.n=(g.ds.map λd=>d.t.n).sum+h.ds[u].t.n:=by
 obtain⟨ay,y7⟩:=aft ey;have e:(h.ds.map λd=>d.t.n)=(g.ds.map λd=>d.t.n).set u h.ds[u].t.n:=by
  refine mT (by simp[ay]) λk aa ab=>?_;rw[bI]at aa;rw[f',Kx,f'];split;·rename_i e;subst e;rfl
  ·rename_i e;have:=(y7 k aa (by omega)).2.1 (λa7=>e a7.symm);exact(congrArg bS.n this :)
 have aj:=JD (g.ds.map λd=>d.t.n) u h.ds[u].t.n (by rw[bI];exact hu);rw[f']at aj;rw[e];exact aj
def JJ(h:(⟨b,.cells #[.slice t.a t.n t.c,.int .i64 t.bn] 31 (0,0)⟩:aD)∈M):cF I M ⟨b,0,none⟩ 2 [.slice t.a t.n t.c,.int .i64 t.bn]:=⟨rfl,_,_,_,.inr ⟨_,h,rfl,rfl⟩,rfl,rfl⟩
def vH(b:Nat)(t:bS):aD:=⟨b,.cells #[.slice t.a t.n t.c,.int .i64 t.bn] 31 (0,0)⟩
def vI(b:Nat)(g:cv):aD:=⟨b,.cells #[.slice g.a g.n g.c] 24 (0,0)⟩
def Dq(h:vI b g∈M):cF I M ⟨b,0,none⟩ 1 [.slice g.a g.n g.c]/\cF I M ((⟨b,0,none⟩:Addr).add 0) 1 [.slice g.a g.n g.c]:=⟨⟨rfl,_,_,_,.inr ⟨_,h,rfl,rfl⟩,rfl,rfl⟩,⟨rfl,_,_,_,.inr ⟨_,h,rfl,rfl⟩,rfl,rfl⟩⟩
def aue(bu:ga I hP)(t':sT I g):vN Tryz.prog 5 [g.val] I [] λv _ _=>v=.bool true:=by
 refine za [] a6 Tryz.func5 rfl rfl rfl ?_;intro B az;refine be.mk [] [] _ (.refl _) (as7 t') ?_;rintro v J N -⟨⟨r,rfl,af⟩,xO,aeT⟩;subst J;subst N;cases r with
 |true=>refine ct.mk (λh=>absurd h (by simp)) (λ_=>?_);refine be.mk [] [] _ (.refl _) (afm bu) ?_;rintro v iJ N -⟨rfl,hT,rfl⟩;exact⟨_,_,.refl,rfl⟩
 |false=>
 refine ct.mk (λ_=>?_) (λh=>absurd h (by simp));refine be.mk [] [] _ (.refl _) (afm bu) ?_;rintro v iJ N -⟨rfl,hT,rfl⟩;refine a2.mk (λh=>by cases h) (λ_=>?_);have y3:=af rfl;have jA:=bu.mono hT;have au:=(t'.mono hT).IT y3;have fT:=au.n;have wL:=ats jA au y3;clear t' af;refine be.mk [] [] _ (.refl _) (UC wL) ?_;rintro v dh N -⟨dY,os,L,r,fQ,rfl,bT,cc,rfl,np⟩;have K8:os.n=L.length:=by have:=bT.len;rw[iQ _ 5 fY.Dl]at this;omega
 refine di.inv (ι:=Nat×aJ) (λx=>{ bi:=[(1,.ref 1 0),(3,.val os.val),(4,.val (.int .i64 (x.1:Int)))],cl:=[(1,[.slice g.a g.n g.c])],cD:=x.2,c0:=os.aq 57++[] }) (λx=>x.1<=L.length/\∀ b o,dh b=some o->x.2 b=some o) (λx=>L.length-x.1) ?_ ?_
 ·exact⟨(0,dh),⟨dD _,λ_ _ h=>h⟩,.n' (by simp),hl,.cons rfl (.nil)⟩
 rintro⟨i,K⟩⟨hi,dZ⟩;simp only at hi dZ;by_cases aX:i<L.length
 rotate_left
 ·refine ct.mk (λh=>absurd h (by simp;omega)) (λ_=>?_);exact⟨_,_,.refl,rfl⟩
 refine ct.mk (λ_=>?_) (λh=>absurd h (by simp;omega));refine a2.mk (λh=>?_) (λh=>?_)
 rotate_left
 ·exact⟨_,_,.refl,rfl⟩
 have awH:i<20:=by have:(i:Int)<20:=dw h;omega
 have afv:=(wL.mono dY).mono dZ;have my:=λ(I':aJ) (M:List aD) (a':∀ x∈os.aq 57,x∈M)=>aY.ok.row (I:=I') (M:=M) fY.Dl (by decide) bT (e:=57) a' aX;have Cw:=(cc _ (br aX)).mono dZ;have eX:L[i].sj∈A3 hP g r:=by rw[<-np];exact Fx (br aX)
 generalize L[i]=x at *;obtain⟨u,path,xa,xc⟩:=x;have pV:r.2=0:=by
  unfold A3 at eX;split at eX;·assumption
  ·cases eX
 obtain⟨F,hw⟩:=fQ.Js fT pV;have auf:(u,path)∈pg hP g:=by unfold A3 at eX;rw[bN pV]at eX;exact eX
 obtain⟨Kr,mi⟩:=ja.1 auf;obtain⟨hu,S,cO⟩:=aeG Kr;simp only at hu cO;have zS:de K xa path.length xc 1 8 (nW path):=Cw.a0;have q3:g.ds.getD u gP=g.ds[u]:=by simp[bA,hu]
 have my:∀ (I':aJ) (M:List aD),(∀ x∈os.aq 57,x∈M)->∃ aS,os.a.map (λg=>(⟨g,0,none⟩:Addr))=some aS/\cF I' M (aS.add (i*5)) 5 [.int .u8 1,.int .u8 1,.int .i64 (u:Int),.slice xa path.length xc,.int .i64 0]:=my;have qn:=aeM afv (pass:=1) (way:=1) (rule:=(u:Int)) (dU:=0) zS;have Oe:∀ {J:aJ} {h:cv} {e:Int},xm hP g 1 1 (u:Int) path 0 J h e->e=0/\h.ok J/\h.n=g.n/\∃ X bq,oo hP g u path=some X/\pd bq X/\bq.ns.length=bq.n/\h.ds.map aP.a1=(eQ g.ds u bq).map aP.a1/\dz hP h=0/\∃ r,mH hP h r/\r.2=0:=λcW=>by have:=cW.aeL r fQ pV ⟨rfl,rfl,rfl,by omega,by omega,by rw[g6];exact mi⟩;rw[g6]at this;exact this
 refine cV.BD a6 rfl rfl rfl (ι:=Nat×cv×aJ) (λz=>{ bi:=[(1,.ref 1 0),(3,.val os.val),(4,.val (.int .i64 (i:Int))),(5,.val (ptr z.1)),(6,.val (.int .i64 0))],cl:=[(1,[.slice g.a g.n g.c])],cD:=z.2.2,c0:=vI z.1 z.2.1::(os.aq 57++[]) }) (λz=>(∀ b o,K b=some o->z.2.2 b=some o)/\xm hP g 1 1 (u:Int) path 0 z.2.2 z.2.1 0) ?_ ?_
 ·obtain⟨aS,bH,A0⟩:=my K (os.aq 57++[]) (λx ad=>hY _ ad);refine bd.mk aS i bH rfl (by omega) ?_;refine aM.mk _ A0 ?_;refine⟨?_,?_⟩
  ·refine be.mk [] _ _ (.refl _) qn ?_;rintro v p7 N vG⟨-,rfl,h,e,rfl,cW⟩;obtain⟨he,-⟩:=Oe cW;rw[he]at cW;refine bX.mk λb7 yd Ng=>?_;refine b2.mk [] (os.aq 57++[]) _ _ rfl rfl (bJ rfl) rfl ?_;exact⟨(b7,h,p7),⟨vG,cW⟩,.refl,.cons .refl (.cons .refl (.cons .refl (.cons .refl (.cons (Ug (by rw[he])) .nil)))),.cons rfl (.nil)⟩
  ·refine bX.mk λb7 yd Ng=>?_;refine d'.mk _ qn ?_;rintro v p7 N vG⟨-,rfl,h,e,rfl,cW⟩;obtain⟨he,-⟩:=Oe cW;rw[he]at cW;refine b2.mk [] (os.aq 57++[]) _ _ rfl rfl (bJ rfl) rfl ?_;exact⟨(b7,h,p7),⟨vG,cW⟩,.refl,.cons .refl (.cons .refl (.cons .refl (.cons .refl (.cons (Ug (by rw[he])) .nil)))),.cons rfl (.nil)⟩
 rintro⟨eu,h,p7⟩⟨vG,cW⟩;simp only at vG cW;obtain⟨-,cS,ta,X,bq,jW,dX,hD,ey,Of,-⟩:=Oe cW;obtain⟨ke,q,s1,s2,fe,F1,awI,awJ,awK,si⟩:=NJ hw hu jW;rw[cO]at s1;cases s1;obtain⟨bx,FQ,-⟩:=aed hw hu jW;obtain⟨aee,y7⟩:=aft ey;have Og:=afv.mono vG;have eA:p8 g (u:Int) path=some S:=by unfold p8;rw[bN (by omega),g6,q3];exact cO
 have km:=ad6 (M0:=[]) Og.av.c Og.au (Uy hw.m Og.aB) (rule:=(u:Int)) (zS.mono vG);rw[eA]at km;clear Oe qn cW;refine cV.BD a6 rfl rfl rfl (ι:=Nat×bS×aJ) (λz=>{ bi:=[(1,.ref 1 0),(3,.val os.val),(4,.val (.int .i64 (i:Int))),(5,.val (ptr eu)),(6,.val (.int .i64 0)),(7,.val (ptr z.1)),(8,.val (.bool true))],cl:=[(1,[.slice g.a g.n g.c])],cD:=z.2.2,c0:=vH z.1 z.2.1::vI eu h::(os.aq 57++[]) }) (λz=>(∀ b o,p7 b=some o->z.2.2 b=some o)/\z.2.1.ok z.2.2/\pd z.2.1 S/\fN S/\iI S) ?_ ?_
 ·obtain⟨aS,bH,A0⟩:=my p7 (vI eu h::(os.aq 57++[])) (λx ad=>.tail _ (hY _ ad));refine bd.mk aS i bH rfl (by omega) ?_;refine aM.mk [.int .i64 (u:Int)] (A0.part (k:=2) (m:=1) (by decide)) ?_;refine bd.mk aS i bH rfl (by omega) ?_;refine aM.mk [.slice xa path.length xc] (A0.part (k:=3) (m:=1) (by decide)) ?_;refine⟨?_,?_⟩
  ·refine be.mk [] _ _ (.refl _) km ?_;rintro v vJ N wX⟨-,rfl,t,rfl,av,zK,Dr,rM⟩;refine bX.mk λb7 yd Ng=>?_;refine b2.mk [] (vI eu h::(os.aq 57++[])) _ _ rfl rfl (bJ rfl) rfl ?_;exact⟨(b7,t,vJ),⟨wX,av,zK,Dr,rM⟩,.refl,ri,.cons rfl (.nil)⟩
  ·refine bX.mk λb7 yd Ng=>?_;refine d'.mk _ km ?_;rintro v vJ N wX⟨-,rfl,t,rfl,av,zK,Dr,rM⟩;refine b2.mk [] (vI eu h::(os.aq 57++[])) _ _ rfl rfl (bJ rfl) rfl ?_;exact⟨(b7,t,vJ),⟨wX,av,zK,Dr,rM⟩,.refl,ri,.cons rfl (.nil)⟩
 rintro⟨b7,t,vJ⟩⟨wX,av,zK,Dr,rM⟩;simp only at wX av zK Dr rM;have ui:=zK.right Dr;obtain⟨k4,iT⟩:=qw ui;obtain⟨xn,fJ⟩:=eH k4;have awL:=av.n;have fv:xn<t.ns.length:=by omega
 have F6:=Og.mono wX;have mq:(t.ns[xn].eB []).bare=S.d:=by
  have ef:=zK.cr Dr rM;have fl:cr t=gr t.ns (xn:Int):=by unfold cr;rw[fJ]
  rw[fl,xf ui fv]at ef;rw[<-ef];rfl
 have gj:∀ (I':aJ) (M':List aD),(∀ b o,vJ b=some o->I' b=some o)->Spec Tryz.prog 32 [t.val] I' M' λv dI dq=>v=(t.ns[xn].eB []).val/\dI=I'/\dq=M':=λI' M' h=>ab3 (F6.av.mono h) (av.mono h) ui fJ fv;generalize t.ns[xn].eB []=d at gj mq;have hm:=(CY.1 hw.m);have awM:=(CY.1 Of);have afw:∀ d∈h.ds,right d.t=true:=λd ak=>nq Of ak;have B8:∀ d∈g.ds,right d.t=true:=λd ak=>nq hw.m ak;have Ds:u<h.ds.length:=by omega
 have aug:h.ds[u].t.a1=bq.a1:=(y7 u Ds hu).2.2 rfl;have auh:cr h.ds[u].t=X:=by rw[<-N4,aug,N4];exact dX.cr bx FQ
 have aui:S.d.t=d.t:=by rw[<-mq];rfl
 have JK:=λnm=>at4 hw hu jW (afw _ (br Ds)) auh cO fe F1 nm;rw[aui]at F1 JK;have awN:g.ds.length=g.n:=fT;obtain⟨a8,ba⟩:=N3 hw.m;obtain⟨CN,Az⟩:=N3 Of;have auj:=cS.mono wX;have auk:=F6.au.ds _ (br fe);obtain⟨nI,sO,ms⟩:=F6.au.a0.row aP.cP (j:=q) (by omega) fe;obtain⟨tns,ji,gb,jB,gq⟩:=t;obtain⟨dc,d0,d1,d2,d3,fL,Nt,Nu,Uz,og,DR,UA⟩:=d;refine ct.mk (λ_=>?_) (λh=>absurd h (by simp));refine ct.mk (λ_=>?_) (λh=>absurd h (by simp));refine aM.mk [.slice h.a h.n h.c] (Dq (.tail _ (.head _))).2 ?_;refine a2.mk (λad=>absurd ad (by simp[ta])) (λ_=>?_);have AX:=KR F6.au fL;rw[F1]at AX;have UU:=λM=>gj vJ M λ_ _ h=>h;generalize T':g.ds[q]=aul at *;obtain⟨UW,fj⟩:=aul;have UX:∀ M,cF vJ M (nI.add (q*3)) 3 [.string UW,.slice fj.a fj.n fj.c,.int .i64 fj.bn]:=ms;refine cV.BD a6 rfl rfl rfl (ι:=Nat) (λz=>{ bi:=[(1,.ref 1 0),(3,.val os.val),(4,.val (.int .i64 (i:Int))),(5,.val (ptr eu)),(6,.val (.int .i64 0)),(7,.val (ptr b7)),(8,.val (.bool true)),(9,.val (ptr z))],cl:=[(1,[.slice g.a g.n g.c])],cD:=vJ,c0:=vH z fj::vH b7 ⟨tns,ji,gb,jB,gq⟩::vI eu h::(os.aq 57++[]) }) (λz=>True) ?_ ?_
 ·refine aM.mk [.slice ji gb jB,.int .i64 gq] (JJ (t:=⟨tns,ji,gb,jB,gq⟩) (.head _)) ?_;refine⟨?_,?_⟩
  ·refine d'.mk _ (UU []) ?_;rintro v A8 N -⟨rfl,xp,gf⟩;subst A8;subst N;refine⟨?_,?_⟩
   ·refine d'.mk _ AX ?_;rintro v k6 N -⟨rfl,ph,gf⟩;subst k6;subst N;refine bd.mk nI q sO rfl (by omega) ?_;refine aM.mk [.slice fj.a fj.n fj.c,.int .i64 fj.bn] ((UX _).part (k:=1) (m:=2) (by decide)) ?_;refine bX.mk λb9 jM s8=>?_;refine b2.mk [] _ _ _ rfl rfl (bJ rfl) rfl ?_;exact⟨b9,trivial,.refl,jJ,.cons rfl (.nil)⟩
   ·refine bX.mk λb9 jM s8=>?_;refine d'.mk _ AX ?_;rintro v k6 N -⟨rfl,ph,gf⟩;subst k6;subst N;refine bd.mk nI q sO rfl (by omega) ?_;refine aM.mk [.slice fj.a fj.n fj.c,.int .i64 fj.bn] ((UX _).part (k:=1) (m:=2) (by decide)) ?_;refine b2.mk [] _ _ _ rfl rfl (bJ rfl) rfl ?_;exact⟨b9,trivial,.refl,jJ,.cons rfl (.nil)⟩
  ·refine bX.mk λb9 jM s8=>?_;refine d'.mk _ (UU []) ?_;rintro v A8 N -⟨rfl,xp,gf⟩;subst A8;subst N;refine d'.mk _ AX ?_;rintro v k6 N -⟨rfl,ph,gf⟩;subst k6;subst N;refine bd.mk nI q sO rfl (by omega) ?_;refine aM.mk [.slice fj.a fj.n fj.c,.int .i64 fj.bn] ((UX _).part (k:=1) (m:=2) (by decide)) ?_;refine b2.mk [] _ _ _ rfl rfl (bJ rfl) rfl ?_;exact⟨b9,trivial,.refl,jJ,.cons rfl (.nil)⟩
 rintro b9 -;have JK:∀ nm,kL nm h.ds[u].t.ns+(if nm=fL then 1 else 0)=kL nm g.ds[u].t.ns+kL nm fj.ns/\h.ds[u].t.ns.length+1<=g.ds[u].t.ns.length+fj.ns.length/\g.ds[u].t.ns.length+fj.ns.length<=h.ds[u].t.ns.length+4:=JK;have aum:right fj=true:=B8 ⟨UW,fj⟩ (by rw[<-T'];exact br fe);have Br:fj.n<=1024:=a8 ⟨UW,fj⟩ (by rw[<-T'];exact br fe);have vE:fj.ok vJ:=auk.t;have mf:=vE.n;have awO:h.ds[u].t.n<=1024:=CN _ (br Ds);have awP:g.ds[u].t.n<=1024:=a8 _ (br hu);have zD:=(cS.ds _ (br Ds)).t.n;have awQ:=(F6.au.ds _ (br hu)).t.n;have er:=aud hu Ds ey;refine di.inv (ι:=Nat×aJ) (λx=>{ bi:=[(1,.ref 1 0),(3,.val os.val),(4,.val (.int .i64 (i:Int))),(5,.val (ptr eu)),(6,.val (.int .i64 0)),(7,.val (ptr b7)),(8,.val (.bool true)),(9,.val (ptr b9)),(10,.val (.int .i64 (x.1:Int)))],cl:=[(1,[.slice g.a g.n g.c])],cD:=x.2,c0:=vH b9 fj::vH b7 ⟨tns,ji,gb,jB,gq⟩::vI eu h::(os.aq 57++[]) }) (λx=>x.1<=g.n/\∀ b o,vJ b=some o->x.2 b=some o) (λx=>g.n-x.1) ?_ ?_
 ·exact⟨(0,vJ),⟨dD _,λ_ _ h=>h⟩,.refl,i',.cons rfl (.nil)⟩
 rintro⟨k,A8⟩⟨ae,xp⟩;simp only at ae xp;have A9:=F6.mono xp;have CL:=auj.mono xp;have afx:=vE.mono xp;clear UU AX km;refine a2.mk (λan=>?_) (λan=>?_)
 rotate_left
 ·have afy:=PH A9.av.c CL (by rw[ta];exact Fo hw.m) CN;have afz:=PH A9.av.c A9.au (Fo hw.m) a8;have UY:=Wl A9.av.c afx;rw[aum]at UY;have aG:=afu Of;have a7:=afu hw.m;obtain⟨-,gy,gE⟩:=JK .empty;have dF:mu h+1<=mu g+fj.n:=by omega
  have eJ:mu g+fj.n<=mu h+4:=by omega
  have eF:mu g<=1024:=by omega
  have ik:mu h<=1024:=by omega
  generalize mu h=E6 at *;generalize mu g=Oh at *;refine cV.draw a6 rfl rfl rfl ?_;refine aM.mk [.slice h.a h.n h.c] (Dq (.tail _ (.tail _ (.head _)))).1 ?_;refine aM.mk [.slice fj.a fj.n fj.c,.int .i64 fj.bn] (JJ (t:=fj) (.head _)) ?_;refine d'.mk _ afy ?_;rintro v k6 N -⟨rfl,ph,gf⟩;subst k6;subst N;refine d'.mk _ afz ?_;rintro v k6 N -⟨rfl,ph,gf⟩;subst k6;subst N;refine be.mk [] _ _ (.refl _) UY ?_;rintro v k6 N -⟨rfl,ph,gf⟩;subst k6;subst N;refine bg.mk ((Oh+fj.n:Nat):Int) (rS (by simp only[b5];omega) (by omega)) ?_;refine bg.mk (((Oh+fj.n:Nat):Int)-1) (rS rfl (by omega)) ?_;refine ct.mk (λ_=>?_) (λh=>absurd h (by simp;omega));refine aM.mk [.slice h.a h.n h.c] (Dq (.tail _ (.tail _ (.head _)))).1 ?_;refine aM.mk [.slice fj.a fj.n fj.c,.int .i64 fj.bn] (JJ (t:=fj) (.head _)) ?_;refine d'.mk _ afy ?_;rintro v k6 N -⟨rfl,ph,gf⟩;subst k6;subst N;refine d'.mk _ afz ?_;rintro v k6 N -⟨rfl,ph,gf⟩;subst k6;subst N;refine be.mk [] _ _ (.refl _) UY ?_;rintro v k6 N -⟨rfl,ph,gf⟩;subst k6;subst N;refine bg.mk ((Oh+fj.n:Nat):Int) (rS (by simp only[b5];omega) (by omega)) ?_;refine bg.mk (((Oh+fj.n:Nat):Int)-4) (rS rfl (by omega)) ?_;refine a2.mk (λh=>absurd h (by simp;omega)) (λ_=>?_);refine bg.mk _ (cL (i:=i) (by omega)) ?_;exact⟨(i+1,A8),⟨⟨by omega,λb o h=>xp _ _ (wX _ _ (vG _ _ (dZ _ _ h)))⟩,by simp only;omega⟩,.sub (.cons _ (.cons _ (.cons _ (.refl _)))) .refl,hl,.cons rfl (.nil)⟩
 have aX:k<g.n:=by have:(k:Int)<(g.n:Int):=dw an;omega
 have JL:k<g.ds.length:=by omega
 have JM:k<h.ds.length:=by omega
 obtain⟨eg,cy,-⟩:=y7 k JM JL;obtain⟨afA,afB,afC⟩:=CL.a0.row aP.cP (j:=k) (by omega) JM;obtain⟨afD,afE,afF⟩:=A9.au.a0.row aP.cP (j:=k) (by omega) JL;have aun:=(CL.ds _ (br JM)).t;have auo:=(A9.au.ds _ (br JL)).t;have awR:=afw _ (br JM);have awS:=CN _ (br JM);obtain⟨aS,bH,A0⟩:=my A8 (vH b9 fj::vH b7 ⟨tns,ji,gb,jB,gq⟩::vI eu h::(os.aq 57++[])) (λx ad=>.tail _ (.tail _ (.tail _ (hY _ ad))));refine cV.BD a6 rfl rfl rfl (ι:=aJ) (λx=>{ bi:=[(1,.ref 1 0),(3,.val os.val),(4,.val (.int .i64 (i:Int))),(5,.val (ptr eu)),(6,.val (.int .i64 0)),(7,.val (ptr b7)),(8,.val (.bool true)),(9,.val (ptr b9)),(10,.val (.int .i64 (k:Int))),(126,.val (.bool false))],cl:=[(1,[.slice g.a g.n g.c])],cD:=x,c0:=vH b9 fj::vH b7 ⟨tns,ji,gb,jB,gq⟩::vI eu h::(os.aq 57++[]) }) (λx=>∀ b o,A8 b=some o->x b=some o) ?_ ?_
 ·refine aM.mk [.slice h.a h.n h.c] (Dq (.tail _ (.tail _ (.head _)))).2 ?_;refine bd.mk afA k afB rfl (by omega) ?_;refine aM.mk [.string h.ds[k].name] ((afC _).part (k:=0) (m:=1) (by decide)) ?_;refine bd.mk afD k afE rfl (by omega) ?_;refine aM.mk [.string g.ds[k].name] ((afF _).part (k:=0) (m:=1) (by decide)) ?_;refine ct.mk (λ_=>?_) (λh=>absurd h (by simp[eg]));refine bd.mk aS i bH rfl (by omega) ?_;refine aM.mk [.int .i64 (u:Int)] (A0.part (k:=2) (m:=1) (by decide)) ?_;by_cases afG:k=u
  ·refine ct.mk (λh=>absurd h (by simp[afG])) (λ_=>?_);exact⟨A8,λ_ _ h=>h,.refl,.cons .refl (.cons .refl (.cons .refl (.cons .refl (.cons .refl (.cons .refl (.cons .refl (.cons .refl (.cons .refl (.cons .lit .nil))))))))),.cons rfl (.nil)⟩
  ·refine ct.mk (λ_=>?_) (λh=>absurd h (by simp;omega));refine aM.mk [.slice h.a h.n h.c] (Dq (.tail _ (.tail _ (.head _)))).2 ?_;refine bd.mk afA k afB rfl (by omega) ?_;refine aM.mk [.slice h.ds[k].t.a h.ds[k].t.n h.ds[k].t.c,.int .i64 h.ds[k].t.bn] ((afC _).part (k:=1) (m:=2) (by decide)) ?_;refine bd.mk afD k afE rfl (by omega) ?_;refine aM.mk [.slice g.ds[k].t.a g.ds[k].t.n g.ds[k].t.c,.int .i64 g.ds[k].t.bn] ((afF _).part (k:=1) (m:=2) (by decide)) ?_;have afH:=ae5 (M0:=[]) A9.av aun auo (by omega);rw[auc (B8 _ (br JL)) (cy afG)]at afH;refine be.mk [] _ _ (.refl _) afH ?_;rintro v k6 N ph⟨rfl,-,rfl⟩;exact⟨k6,ph,.refl,.cons .refl (.cons .refl (.cons .refl (.cons .refl (.cons .refl (.cons .refl (.cons .refl (.cons .refl (.cons .refl (.cons (Ug (by rfl)) .nil))))))))),.cons rfl (.nil)⟩
 rintro k6 ph;refine a2.mk (λh=>by cases h) (λ_=>?_);have UZ:=A9.mono ph;have k3:=Fo hw.m;have afI:=CL.mono ph;have aup:=afx.mono ph;obtain⟨cC,P4,h0⟩:=UZ.au.a0.row aP.cP (j:=k) (by omega) JL;obtain⟨dQ,nM,pz⟩:=UZ.au.a0.row aP.cP (j:=u) (by omega) hu;obtain⟨dT,zQ,pB⟩:=afI.a0.row aP.cP (j:=u) (by omega) Ds;obtain⟨gu,U0,E4⟩:=my k6 (vH b9 fj::vH b7 ⟨tns,ji,gb,jB,gq⟩::vI eu h::(os.aq 57++[])) (λx ad=>.tail _ (.tail _ (.tail _ (hY _ ad))));have Xz:=λnm=>UT (M0:=[]) (UZ.au.ds _ (br hu)).t (by omega) nm;have HD:=λnm=>UT (M0:=[]) aup (by omega) nm;have Qa:=λnm=>UT (M0:=[]) (afI.ds _ (br Ds)).t (by omega) nm;have auq:=gj k6 [] λb o h=>ph _ _ (xp _ _ h);have afJ:=λnm=>Od nm g.ds[u].t.ns;have afK:=λnm=>Od nm fj.ns;refine bd.mk cC k P4 rfl (by omega) ?_;refine aM.mk [.string g.ds[k].name] ((h0 _).part (k:=0) (m:=1) (by decide)) ?_;generalize g.ds[k].name=nm;have ua:=(JK nm).1;have afJ:=afJ nm;have afK:=afK nm;refine cV.draw a6 rfl rfl rfl ?_;refine bd.mk gu i U0 rfl (by omega) ?_;refine aM.mk [.int .i64 (u:Int)] (E4.part (k:=2) (m:=1) (by decide)) ?_;refine bd.mk dQ u nM rfl (by omega) ?_;refine aM.mk [.slice g.ds[u].t.a g.ds[u].t.n g.ds[u].t.c,.int .i64 g.ds[u].t.bn] ((pz _).part (k:=1) (m:=2) (by decide)) ?_;refine aM.mk [.slice fj.a fj.n fj.c,.int .i64 fj.bn] (JJ (t:=fj) (.head _)) ?_;refine d'.mk _ (Xz nm) ?_;rintro v y0 N -⟨rfl,Oi,gf⟩;subst y0;subst N;refine be.mk [] _ _ (.refl _) (HD nm) ?_;rintro v y0 N -⟨rfl,Oi,gf⟩;subst y0;subst N;refine bg.mk ((kL nm g.ds[u].t.ns+kL nm fj.ns:Nat):Int) (rS (by omega) (by omega)) ?_;refine aM.mk [.slice ji gb jB,.int .i64 gq] (JJ (t:=⟨tns,ji,gb,jB,gq⟩) (.tail _ (.head _))) ?_;refine be.mk [] _ _ (.refl _) auq ?_;rintro v y0 N -⟨rfl,Oi,gf⟩;subst y0;subst N;by_cases bF:nm=fL
 ·refine a2.mk (λ_=>?_) (λh=>absurd h (by simp[ao.val,bF]));rw[bN bF]at ua;refine bg.mk ((kL nm h.ds[u].t.ns:Nat):Int) (rS (by omega) (by omega)) ?_;refine cV.draw a6 rfl rfl rfl ?_;refine aM.mk [.slice h.a h.n h.c] (Dq (.tail _ (.tail _ (.head _)))).2 ?_;refine bd.mk gu i U0 rfl (by omega) ?_;refine aM.mk [.int .i64 (u:Int)] (E4.part (k:=2) (m:=1) (by decide)) ?_;refine bd.mk dT u zQ rfl (by omega) ?_;refine aM.mk [.slice h.ds[u].t.a h.ds[u].t.n h.ds[u].t.c,.int .i64 h.ds[u].t.bn] ((pB _).part (k:=1) (m:=2) (by decide)) ?_;refine d'.mk _ (Qa nm) ?_;rintro v y0 N -⟨rfl,Oi,gf⟩;subst y0;subst N;refine a2.mk (λh=>absurd h (by simp)) (λ_=>?_);refine bg.mk _ (cL (i:=k) (by omega)) ?_;exact⟨(k+1,k6),⟨⟨by omega,λb o h=>ph _ _ (xp _ _ h)⟩,by simp only;omega⟩,.refl,i',.cons rfl (.nil)⟩
 ·refine a2.mk (λh=>absurd h (by simp[ao.val,bF])) (λ_=>?_);rw[bR bF]at ua;refine cV.draw a6 rfl rfl rfl ?_;refine aM.mk [.slice h.a h.n h.c] (Dq (.tail _ (.tail _ (.head _)))).2 ?_;refine bd.mk gu i U0 rfl (by omega) ?_;refine aM.mk [.int .i64 (u:Int)] (E4.part (k:=2) (m:=1) (by decide)) ?_;refine bd.mk dT u zQ rfl (by omega) ?_;refine aM.mk [.slice h.ds[u].t.a h.ds[u].t.n h.ds[u].t.c,.int .i64 h.ds[u].t.bn] ((pB _).part (k:=1) (m:=2) (by decide)) ?_;refine d'.mk _ (Qa nm) ?_;rintro v y0 N -⟨rfl,Oi,gf⟩;subst y0;subst N;refine a2.mk (λh=>absurd h (by simp;omega)) (λ_=>?_);refine bg.mk _ (cL (i:=k) (by omega)) ?_;exact⟨(k+1,k6),⟨⟨by omega,λb o h=>ph _ _ (xp _ _ h)⟩,by simp only;omega⟩,.refl,i',.cons rfl (.nil)⟩
end Go.V
