/- Part 8 of what the proofs of this seat share: the executor, data in memory, walks.
-/
import Derived.Test.YtjambecdkaahmaaGreatDoorK7
import Derived.Test.YtjambecdkaahmaaGreatDoorK5
import Derived.Test.YtjambecdkaahmaaGreatDoorK4
import Derived.Test.YtjambecdkaahmaaGreatDoorK3
import Derived.Test.YtjambecdkaahmaaGreatDoorK2
import Derived.Lib.TrailingZeros
set_option linter.all false
set_option maxHeartbeats 8000000
set_option maxRecDepth 100000
namespace Go.V
open Go Go.Proofs
def wL:=@List.length_reverse
def HK:=@List.eq_nil_iff_forall_not_mem
def Ly:=@List.length_eq_zero_iff
def Rx:=@List.getElem?_range
def Ry:=@decide_eq_true_iff
variable{F cH:List a2}{t:cB}{A:Nat->List Nat}{n a0 q e size eO c' N:Nat}{l L:List (Nat×Nat)}{I J:aZ}{α β R:Type}{x y:Operand}{ax:List Int}{os:a'}{BQ Ek El Em:aB}{D M M0 M':List aB}{hi:Int}{dk:dU}{other:Prop}{d:aS}{X:Bool}{xs vs:List Value}{bY:Option Addr}{o o':tp}{u:Value}{r:Int×Int}{dD:dw}{h:bJ}{cX:List aQ}
def En(pl:List (ByteArray×Int))(F:List a2)(d:aS)(xs:List ((a2×List Nat)×Bool)):Bool:=xs.any λx=>(decide (d.k=6)&&(decide (d.hi=-1)&&x.1.1.z))||x.2
def BR(pl:List (ByteArray×Int))(F:List a2)(d:aS)(xs:List ((a2×List Nat)×Bool)):(a2×List Nat)×Bool:=(pO pl F d (xs.map (·.1)),En pl F d xs)
def nf(pl:List (ByteArray×Int))(F:List a2)(ns:List aS)(j:Int):(a2×List Nat)×Bool:=qc ((bL,[]),false) (λd g=>BR pl F d (d.aL.map g)) ns j
def aaW{pl:List (ByteArray×Int)}(ak:right t=true){j:Nat}(an:j<t.ns.length):nf pl F t.ns j=BR pl F t.ns[j] (t.ns[j].aL.map (nf pl F t.ns)):=
 FF (λd g dv h=>by rw[rT h]) ak an
def aaX{pl:List (ByteArray×Int)}{F:List a2}{t:cB}(ak:right t=true):∀ (m j:Nat),j<m->j<t.ns.length->(nf pl F t.ns j).1=fE pl F t.ns j
 |0,j,h,_=>absurd h (wy _)
 |m+1,j,hm,an=>by
  rw[aaW ak an,Rf ak an];have:(t.ns[j].aL.map (nf pl F t.ns)).map (·.1)=t.ns[j].aL.map (fE pl F t.ns):=by rw[jl];refine rT λk af=>?_;obtain⟨aa,ab⟩:=mm ak j an k af;obtain⟨q,rfl⟩:=h' aa;exact aaX ak m q (by omega) (by omega)
  show pO pl F t.ns[j] _=_;rw[this]
def anv(pl:List (ByteArray×Int))(F:List a2)(ns:List aS)(j:Int):nf pl F (ns.map aS.ba) j=nf pl F ns j:=by unfold nf qc;rw[J' (f:=λd g=>BR pl F d (d.aL.map g)) (g:=λd g=>BR pl F d (d.aL.map g)) (λd q=>rfl)]
def pP(ds:List aQ)(F:List a2)(i:Nat):List Nat:=(List.range ds.length).filter λk=>(kB ds F i).contains k
def yo(ds:List aQ)(F:List a2)(i:Nat):Bool:=match ds[i]? with
 |some d=>(nf (bR ds) F d.t.ns d.t.bD).2| none=>false
def nW(ds:List aQ)(F:List a2):List Nat:=(List.range ds.length).filter (yo ds F)
inductive l6(A:Nat->List Nat):Nat->Nat->Prop
 |one{i k}(h:k∈A i):l6 A i k| step {i j k} (h:j∈A i) (t:l6 A j k):l6 A i k
def l6.snoc{i j k:Nat}(h:l6 A i j)(af:k∈A j):l6 A i k:=by
 induction h with
 |one h=>exact .step h (.one af)| step h t a7=>exact .step h (a7 af)
def uW:List Nat->List Nat->List Nat
 |[],l=>l| x::r,l=>uW r (bif l.contains x then l else l++[x])
def Eo:∀ (r l:List Nat) (x:Nat),x∈uW r l ↔ x∈l\/x∈r
 |[],l,x=>by simp[uW]
 |y::r,l,x=>by
  rw[uW,Eo r];cases h:l.contains y with
  |true=>
   have aF:y∈l:=by simpa using h
   rw[bl];constructor
   ·rintro(a | a)
    ·exact .inl a
    ·exact .inr (.tail _ a)
   ·rintro(a | a)
    ·exact .inl a
    ·rcases ef.1 a with rfl | a
     ·exact .inl aF
     ·exact .inr a
  |false=>
   rw[bh];rw[dQ,fW,ef];constructor
   ·rintro((a | a) | a)
    ·exact .inl a
    ·exact .inr (.inl a)
    ·exact .inr (.inr a)
   ·rintro(a | a | a)
    ·exact .inl (.inl a)
    ·exact .inl (.inr a)
    ·exact .inr a
def aaY:∀ (r l:List Nat),∃ s,uW r l=l++s
 |[],l=>⟨[],by simp[uW]⟩
 |y::r,l=>by
  obtain⟨s,ap⟩:=aaY r (bif l.contains y then l else l++[y]);rw[uW,ap];cases l.contains y with
  |true=>exact⟨s,rfl⟩| false=>exact⟨[y]++s,by simp⟩
def aaZ:∀ (r l:List Nat),l.Nodup->(uW r l).Nodup
 |[],l,h=>h
 |y::r,l,h=>by
  rw[uW];apply aaZ r;cases aA:l.contains y with
  |true=>exact h
  |false=>
   have aF:y ∉ l:=by simpa using aA
   rw[bh,wW];refine⟨h,by simp,λa aC b ai e=>?_⟩;have:b=y:=by simpa using ai
   subst this;subst e;exact aF aC
def aa0:∀ (n:Nat) (l:List Nat),l.Nodup->(∀ x∈l,x<n)->l.length<=n
 |0,[],_,_=>cj _| 0,a::l,_,h=>absurd (h a (.head _)) (wy _)
 |n+1,l,ah,h=>by
  have aa:=aa0 n (l.erase n) (ah.erase n) λx ae=>by have ab:=h x (List.mem_of_mem_erase ae);have ag:x≠n:=(ah.mem_erase_iff.1 ae).1;omega
  have aW:=List.length_erase (a:=n) (l:=l);split at aW<;>omega
def Ep(A:Nat->List Nat):Nat->Nat->List Nat->List Nat
 |0,_,l=>l
 |f+1,k,l=>match l[k]? with
  |some x=>Ep A f (k+1) (uW (A x) l)| none=>l
structure tD(A:Nat->List Nat)(n k:Nat)(dd l:List Nat):Prop where
 bT:l.Nodup
 lt:∀ x∈l,x<n
 sub:∀ x∈dd,x∈l
 src:∀ x∈l,x∈dd\/∃ y∈dd,l6 A y x
 oR:∀ j x,j<k->l[j]?=some x->∀ y∈A x,y∈l
 k:k<=l.length
def tD.len{k:Nat}{dd l:List Nat}(h:tD A n k dd l):l.length<=n:=aa0 n l h.bT h.lt
def tD.next{A:Nat->List Nat}{n k:Nat}{dd l:List Nat}(iw:∀ x,∀ y∈A x,y<n)(h:tD A n k dd l){x:Nat}(ae:l[k]?=some x):tD A n (k+1) dd (uW (A x) l):=by
 obtain⟨s,ap⟩:=aaY (A x) l;have af:k<l.length:=by
  rcases Nat.lt_or_ge k l.length with aa | aa;·exact aa
  ·rw[oW aa]at ae;cases ae
 have fD:x∈l:=wV ae;refine⟨aaZ _ _ h.bT,λz bf=>?_,λz bf=>(Eo _ _ _).2 (.inl (h.sub z bf)),λz bf=>?_,λj z an bf y aF=>?_,by rw[ap];simp;omega⟩
 ·rcases(Eo _ _ _).1 bf with a | a
  ·exact h.lt z a
  ·exact iw x z a
 ·rcases(Eo _ _ _).1 bf with a | a
  ·exact h.src z a
  ·rcases h.src x fD with b | ⟨w,hw,b⟩
   ·exact .inr ⟨x,b,.one a⟩
   ·exact .inr ⟨w,hw,b.snoc a⟩
 ·have g5:l[j]?=some z:=by rw[ap,tK (by omega)]at bf;exact bf
  by_cases e:j=k;·subst e;rw[ae]at g5;obtain rfl:=kV g5;exact(Eo _ _ _).2 (.inr aF)
  ·exact(Eo _ _ _).2 (.inl (h.oR j z (by omega) g5 y aF))
def tD.done{i:Nat}{l:List Nat}(h:tD A n l.length (A i) l)(x:Nat):x∈l ↔ l6 A i x:=by
 constructor
 ·intro ae;rcases h.src x ae with a | ⟨y,aF,a⟩
  ·exact .one a
  ·exact .step aF a
 ·have cl:∀ {y z:Nat},l6 A y z->y∈l->z∈l:=fun {y z} aA=>by
   induction aA with
   |one af=>intro aF;obtain⟨j,an,e⟩:=re aF;exact h.oR j _ an (by rw[eb an,e]) _ af
   |step an t a7=>intro aF;refine a7 ?_;obtain⟨q,aM,e⟩:=re aF;exact h.oR q _ aM (by rw[eb aM,e]) _ an
  intro aA;cases aA with
  |one af=>exact h.sub x af| step an t=>exact cl t (h.sub _ an)
def Rz{pl:List (ByteArray×Int)}(ak:right t=true){j:Nat}(an:j<t.ns.length):(nf pl F t.ns j).2=true ↔ ∃ k∈t.ns[j].aL,(t.ns[j].k=6/\t.ns[j].hi=-1/\(ek pl F t.ns []).getD k.toNat bL=(ek pl F t.ns []).getD k.toNat bL/\((ek pl F t.ns []).getD k.toNat bL).z=true)\/(nf pl F t.ns k).2=true:=by
 have lY:∀ k∈t.ns[j].aL,(nf pl F t.ns k).1.1=(ek pl F t.ns []).getD k.toNat bL:=λk af=>by obtain⟨aa,ab⟩:=mm ak j an k af;obtain⟨q,rfl⟩:=h' aa;rw[aaX ak (q+1) q (by omega) (by omega),Rg]
 rw[aaW ak an];show En pl F t.ns[j] _=true ↔ _;unfold En;rw[K7];constructor
 ·rintro⟨x,ae,h⟩;obtain⟨k,af,rfl⟩:=dA.1 ae;refine⟨k,af,?_⟩;rw[lY k af]at h;simp only[kH,b',eU]at h;rcases h with⟨a,b,c⟩ | h
  ·exact .inl ⟨a,b,rfl,c⟩
  ·exact .inr h
 ·rintro⟨k,af,h⟩;refine⟨_,dA.2 ⟨k,af,rfl⟩,?_⟩;rw[lY k af];simp only[kH,b',eU];rcases h with⟨a,b,-,c⟩ | h
  ·exact .inl ⟨a,b,c⟩
  ·exact .inr h
def aa1{pl:List (ByteArray×Int)}{F:List a2}{t:cB}(ak:right t=true):∀ (m j:Nat),j<t.ns.length->t.ns.length-j<=m->(nf pl F t.ns j).2=true->(nf pl F t.ns t.bD).2=true
 |0,j,an,hm,_=>by omega
 |m+1,j,an,hm,h=>by
  by_cases e:(j:Int)=t.bD;·rw[<-e];exact h
  ·obtain⟨p,aD,af,aR⟩:=VY ak an e;exact aa1 ak m p aD (by omega) ((Rz ak aD).2 ⟨_,af,.inr h⟩)
def anw{l:List Int}{k:Int}(af:k∈l)(h:l.length=1):l.headD 0=k:=by
 match l,h with
 |[a],_=>exact(fW.1 af).symm
def aa2{pl:List (ByteArray×Int)}{F:List a2}{t:cB}(ak:right t=true)(aa:∀ d∈t.ns,d.k=6->d.aL.length=1):∀ (m j:Nat),j<m->∀ (an:j<t.ns.length),(nf pl F t.ns j).2=true->nV t.ns (ek pl F t.ns [])=true
 |0,j,h,_,_=>absurd h (wy _)
 |m+1,j,hm,an,h=>by
  obtain⟨k,af,⟨a,b,-,c⟩ | h⟩:=(Rz ak an).1 h;·refine K7.2 ⟨t.ns[j],cJ an,?_⟩;simp only[b',eU];refine⟨a,b,?_⟩;rw[anw af (aa _ (cJ an) a)];exact c
  ·obtain⟨ab,ag⟩:=mm ak j an k af;obtain⟨q,rfl⟩:=h' ab;exact aa2 ak aa m q (by omega) (by omega) h
def anx{pl:List (ByteArray×Int)}(ak:right t=true)(aa:∀ d∈t.ns,d.k=6->d.aL.length=1):(nf pl F t.ns t.bD).2=nV t.ns (ek pl F t.ns []):=by
 obtain⟨RA,h4⟩:=vG ak;obtain⟨r,gF⟩:=h' RA;apply oY.2;constructor
 ·intro h;rw[gF]at h;exact aa2 ak aa (r+1) r (by omega) (by omega) h
 ·intro h;obtain⟨d,ah,h⟩:=K7.1 h;obtain⟨j,an,rfl⟩:=re ah;simp only[b',eU]at h;obtain⟨a,b,c⟩:=h;have av:=aa _ ah a;have af:t.ns[j].aL.headD 0∈t.ns[j].aL:=by
   match ae:t.ns[j].aL,av with
   |[q],_=>simp
  exact aa1 ak t.ns.length j an (by omega) ((Rz ak an).2 ⟨_,af,.inl ⟨a,b,rfl,c⟩⟩)
def aa3{b:Bool}{x:Nat}:∀ {xs:List (a2×List Nat)},x∈zX b xs->∃ y∈xs,x∈y.2
 |[],h=>by rw[ans]at h;cases h
 |y::xs,h=>by
  rw[ant]at h;rcases dQ.1 h with h | h;·exact⟨y,.head _,h⟩
  ·cases ai:b && !y.1.z with
   |true=>rw[ai]at h;cases h| false=>rw[ai]at h;obtain⟨z,bf,ae⟩:=aa3 (xs:=xs) h;exact⟨z,.tail _ bf,ae⟩
def aa4{ds:List aQ}{F:List a2}{t:cB}(ak:right t=true)(dB:vU (bR ds) t.ns=true):∀ (m j:Nat),j<m->j<t.ns.length->∀ x∈(fE (bR ds) F t.ns j).2,x<ds.length
 |0,j,h,_=>absurd h (wy _)
 |m+1,j,hm,an=>by
  intro x ae;rw[Rf ak an]at ae;have ae:x∈nd (bR ds) t.ns[j] (t.ns[j].aL.map (fE (bR ds) F t.ns)):=ae;have n6:=eP.1 dB _ (cJ an);by_cases ag:t.ns[j].k=3
  ·obtain⟨q,Gq,A7,Rr⟩:=aao (nm:=t.ns[j].t) (ds:=ds) (by simpa[ag]using n6);rw[nd,eN ag,bl,Rr]at ae;have:x=q:=by simpa using ae
   omega
  by_cases bP:t.ns[j].k=6/\t.ns[j].hi=0;·rw[nd,de ag,bh,de (show ¬ t.ns[j].k=4 by omega),bh,eN bP.1,eN bP.2]at ae;cases ae
  ·rw[anu ag bP]at ae;obtain⟨y,aF,anz⟩:=aa3 ae;obtain⟨k,af,rfl⟩:=dA.1 aF;obtain⟨aa,ab⟩:=mm ak j an k af;obtain⟨q,rfl⟩:=h' aa;exact aa4 ak dB m q (by omega) (by omega) x anz
def RB{g:bJ}(a1:vV g)(i:Nat):∀ k∈kB g.ds F i,k<g.ds.length:=by
 intro k af;unfold kB at af;by_cases h:i<g.ds.length
 ·rw[eb h]at af;have eS:=cJ h;have ak:=a1.right _ eS;obtain⟨RA,h4⟩:=vG ak;obtain⟨r,gF⟩:=h' RA;have af:k∈(fE (bR g.ds) F g.ds[i].t.ns g.ds[i].t.bD).2:=af;rw[gF]at af;exact aa4 ak (a1.named _ eS) (r+1) r (by omega) (by omega) k af
 ·rw[oW (by omega)]at af;cases af
def aa5{g:bJ}(a1:vV g)(iK:g.ds.length<=64){i k:Nat}(hi:i<64):qE (qG g.ds F).m i k ↔ l6 (kB g.ds F) i k:=by
 constructor
 ·intro h
  induction h with
  |one af h=>rw[Lw iK af]at h;exact .one (by simpa using h)| step h an t a7=>rw[Lw iK an]at h;exact .step (by simpa using h) (a7 an)
 ·intro h
  induction h with
  |one h=>have:=RB a1 _ _ h;exact .one (by omega) (by rw[Lw iK (by omega)];simpa using h)| step h t a7=>have:=RB a1 _ _ h;exact .step (by rw[Lw iK (by omega)];simpa using h) (by omega) (a7 (by omega))
def aa6(aq:n<=64)(p q:Nat->Bool)(aa:∀ k,k<n->p k=q k)(ab:∀ k,n<=k->k<64->p k=false):(List.range 64).filter p=(List.range n).filter q:=by
 have iK:(List.range 64)=List.range n++(List.range' n (64-n)):=by rw[Ac,Ac,show 64=n+(64-n) by omega,<-List.range'_append_1];simp
 have ag:(List.range' n (64-n)).filter p=[]:=by rw[List.filter_eq_nil_iff];intro k af;rw[O3]at af;rw[ab k (by omega) (by omega)];simp
 rw[iK,Hq,ag,eh];apply ES;intro k af;exact aa k (by simpa using af)
def anA{g:bJ}(au:g.ok I)(a1:vV g)(F:List a2)(i:Nat):yo g.ds F i=HJ g.ds F i:=by
 unfold yo HJ;by_cases h:i<g.ds.length
 ·rw[eb h];have eS:=cJ h;have ak:=a1.right _ eS;have ay:=(au.ds _ eS).t;refine anx ak λd ah af=>?_;obtain⟨j,an,rfl⟩:=re ah;have cg:=ay.ns _ ah;have:=(HE cg.k.1 (AH ak an)).one (by omega);omega
 ·rw[oW (by omega)]
def anB{g:bJ}(au:g.ok I)(a1:vV g)(iK:g.ds.length<=64)(F:List a2):zW (qG g.ds F)=nW g.ds F:=by
 unfold zW nW bitsOf;refine aa6 iK _ _ (λk af=>?_) (λk af fI=>?_)
 ·rw[aaV iK (by omega),anA au a1]
 ·rw[aaV iK fI,HJ,oW af]
open Classical in
noncomputable def pQ(ds:List aQ)(F:List a2):List Nat:=(List.range ds.length).filter λi=>decide (l6 (kB ds F) i i)
def anC{ds:List aQ}{i:Nat}(h:ds.length<=i):kB ds F i=[]:=by rw[kB,oW h]
open Classical in
def anD{g:bJ}(a1:vV g)(iK:g.ds.length<=64)(F:List a2):wK (qG g.ds F)=pQ g.ds F:=by
 unfold wK pQ;refine aa6 iK _ _ (λk af=>?_) (λk af fI=>?_)
 ·exact decide_eq_decide.2 (aa5 a1 iK (by omega))
 ·refine de λaA=>?_;have aA:=(aa5 a1 iK fI).1 aA;have aq:=anC (F:=F) af;cases aA with
  |one h=>rw[aq]at h;cases h| step h t=>rw[aq]at h;cases h
section
end
section
end
def aa7{l:List α}{f g:α->List β}(h:∀ x∈l,f x=g x):l.flatMap f=l.flatMap g:=by
 induction l with
 |nil=>rfl| cons a l a7=>rw[ob,ob,h a (.head _),a7 λx ae=>h x (.tail _ ae)]
def anE{l:List Nat}{x:Nat}(h:x∈l):x<=l.sum:=by
 induction l with
 |nil=>cases h
 |cons a l a7=>
  rw[oc];rcases ef.1 h with rfl | h;·omega
  ·have:=a7 h;omega
def anF{t:d'}(ar:t.n0=0):t.cs (v8 t.P t.nn)=(List.replicate (t.nn*t.w) jo).flatMap cv.cells:=by rw[<-XM];unfold d'.cs m6;rw[ar,xG];refine aa7 λj an=>aa7 λa aC=>?_;rw[c0,Kt (lF.1 an)];have ab:a<t.s.size+1:=lF.1 aC;show a<=t.s.size;omega
def anG(I:aZ)(ax:List Int)(g:bJ)(s:ByteArray)(v:Value)(I':aZ)(M':List aB):Prop:=
 (∀ b o,I b=some o->I' b=some o)/\M'=[]/\((dF ax g≠0/\v=.tuple #[.pointer none,.int .i64 (dF ax g)])\/(dF ax g=0/\4096<s.size/\v=.tuple #[.pointer none,.int .i64 40]) \/ (dF ax g=0/\s.size<=4096/\∃ (t:d') (T:Nat->Nat->cv),v=.tuple #[ptr t.bt,.int .i64 0]/\v9 I' g s t T))
structure anH(I:aZ)(g:bJ)(hS h6:a')(i:Nat)(gp:a')(xs:List aS)(J:aZ):Prop where
 ii:i<=g.n
 le:∀ b o,I b=some o->J b=some o
 nm:eB J (hS.a.map λg=>⟨g,0,none⟩) hS.n hS.c 1 16 (g.ds.map x3)
 rt:eB J (h6.a.map λg=>⟨g,0,none⟩) h6.n h6.c 1 8 ((hR 0 g.ds).map cy)
 ok:gp.ok 9 (xs.flatMap aS.cells)
 pn:xs.map aS.pn=v' g.ds i
 xs:∀ y∈xs,y.ok J/\y.t.size<=4096/\∀ x∈y.aL,0<=x
def aa8(bp:e4 I ax){g:bJ}(au:g.ok I)(aq:g.n<=4096)(s:ByteArray):Spec Tryz.prog 10 [g.val,.string s] I [] (anG I ax g s):=by
 refine ME [25] aV Tryz.func10 rfl rfl rfl ?_;intro B ar;have eH:=au.n;refine a9.whole _ (F4 bp au) ?_;rintro v dM M' -⟨rfl,pt,rfl⟩;have GF:=au.mono pt;refine aU.mk (λe=>?_) (λe=>?_)
 ·have bq:dF ax g≠0:=by simpa using e
  intro _;exact⟨_,_,.refl,pt,rfl,.inl ⟨bq,rfl⟩⟩
 have F9:dF ax g=0:=by simpa using e
 refine aU.mk (λaE=>?_) (λaE=>?_)
 ·have eC:4096<s.size:=by have:=c1 aE;omega
  intro _;exact⟨_,_,.refl,pt,rfl,.inr (.inl ⟨F9,eC,rfl⟩)⟩
 have ap:s.size<=4096:=by have:=dj aE;omega
 have hm:qo g:=Kd F9 λd ah=>(au.ds d ah).t.n;have Dn:=hm.WN;have Bl:=Dm 0 g.ds;have e3:∀ d∈g.ds,∀ n∈d.t.ns,0<=n.k:=λd ah n aq=>((au.ds d ah).t.ns n aq).k.1;obtain⟨sg,cg⟩:=XU hm e3 ap;refine a9.whole _ (ajf (M0:=[]) GF aq) ?_;rintro v cU M1 -⟨rfl,hS,rfl,aa9,anI,rfl⟩;refine b8.mk λbt anJ atl=>?_;have atm:lu.aP 3=[]:=rfl;refine c4.IF (ι:=Nat×a'×aZ) (λx=>{ bu:=[(1,.val (.string s)),(2,.ref 2 0),(7,.val (ptr bt)),(8,.val (.int .i64 (cL (g.ds.take x.1):Nat))),(27,.val (.slice g.a g.n g.c)),(28,.val (.int .i64 g.n)),(29,.val (.int .i64 x.1))],cl:=[(2,[.slice g.a g.n g.c])],cS:=x.2.2,db:=oG bt s hS.val x.2.1.val (.slice none 0 0) (.slice none 0 0)::(x.2.1.aP 3++[]) }) (λx=>x.1<=g.n/\(∀ b o,I b=some o->x.2.2 b=some o)/\eB x.2.2 (hS.a.map λg=>⟨g,0,none⟩) hS.n hS.c 1 16 (g.ds.map x3)/\x.2.1.n=x.1/\x.2.1.ok 1 (((hR 0 g.ds).take x.1).map cy)) (λx=>g.n-x.1) ?_ ?_
 ·intro iP;have anK:=Pr (J:=cU) (os:=hS) (e:=9) (M:=[]) λx ae=>iP.d x (.tail _ ae);exact⟨(0,lu,x4 cU hS 9),⟨bw _,λb o h=>anK _ _ (pt _ _ h),Ps anI (by omega),rfl,mT 1⟩,.perm (M1:=hS.aP 9++[oG bt s hS.val (.slice none 0 0) (.slice none 0 0) (.slice none 0 0)]) (by rw[eh];exact(hX (l₁:=[_]))) (Pq λg _=>by simp),kg,.cons rfl (.nil)⟩
 rintro⟨i,h6,J⟩⟨hi,Lz,HL,jE,LA⟩;simp only at hi Lz HL jE LA;have ym:=au.mono Lz;refine aU.mk (λbz=>?_) (λbz=>?_)
 ·have aR:i<g.n:=by simpa using bz
  have bZ:i<g.ds.length:=by omega
  obtain⟨ad,bF,bk⟩:=ym.a8.row aQ.cD aR bZ;have eS:g.ds[i]∈g.ds:=cJ bZ;have lX:=(au.ds _ eS).t.n;have AG:=(hm.r _ eS).bD;have kk:=DE bZ;have bs:=GO g.ds (i+1);have aba:=Pj 0 g.ds i bZ (by omega);refine bi.mk ad i bF rfl aR ?_;refine aI.mk _ (bk _) ?_;refine c5.draw aV rfl rfl rfl ?_;refine aI.mk _ (Bn (j:=2) (.head _) (by decide)) ?_;refine bd.mk (((hR 0 g.ds)[i]:Nat):Int) (gK (show((cL (g.ds.take i):Nat):Int)+(g.ds[i]).t.bD=_ by omega) (by omega)) ?_;refine b8.mk λbW gJ jO=>?_;intro G iu;refine sP.uB aV rfl (e:=3) rfl rfl rfl h6 LA (DG (iu _ (by simp[Op.operands,Call.operands])) rfl) (DG (iu _ (by simp[Op.operands,Call.operands])) rfl) (cs:=[cy (hR 0 g.ds)[i]]) rfl rfl [oG bt s hS.val h6.val (.slice none 0 0) (.slice none 0 0)] [] rfl (by omega) (by show(h6.n+1)*8<=_;omega) ?_;intro cz aa ab aW;refine cp.mk [⟨bW,_⟩] (cz.aP 3++[]) _ _ rfl rfl (bS rfl) rfl ?_;refine bd.mk ((cL (g.ds.take (i+1)):Nat):Int) (gK (show((cL (g.ds.take i):Nat):Int)+((g.ds[i]).t.n:Int)=_ by omega) (by omega)) ?_;refine bd.mk _ (cx (i:=i) (by omega)) ?_;intro _;refine⟨(i+1,cz,J),⟨⟨by omega,Lz,HL,by simp only;omega,?_⟩,by simp only;omega⟩,.sub (.cons _ (.refl _)) .refl,kg,.cons rfl (.nil)⟩;simp only;rw[gf (by omega),e7];exact aW
 have cP:g.n<=i:=by simpa using bz
 obtain rfl:i=g.n:=by omega
 rw[eW (by omega)]at LA;refine c4.IF (ι:=Nat×a'×List aS×aZ) (λx=>{ bu:=[(1,.val (.string s)),(2,.ref 2 0),(7,.val (ptr bt)),(55,.val (.slice g.a g.n g.c)),(56,.val (.int .i64 g.n)),(57,.val (.int .i64 x.1))],cl:=[(2,[.slice g.a g.n g.c])],cS:=x.2.2.2,db:=oG bt s hS.val h6.val x.2.1.val (.slice none 0 0)::(x.2.1.aP 83++[]) }) (λx=>anH I g hS h6 x.1 x.2.1 x.2.2.1 x.2.2.2) (λx=>g.n-x.1) ?_ ?_
 ·intro iP;have abb:=Pr (J:=J) (os:=h6) (e:=3) (M:=[]) λx ae=>iP.d x (.tail _ ae);exact⟨(0,lu,[],x4 J h6 3),⟨bw _,λb o h=>abb _ _ (Lz _ _ h),HL.mono abb,Ps LA (by omega),mT 9,rfl,λy aF=>(by cases aF)⟩,.perm (M1:=h6.aP 3++[oG bt s hS.val h6.val (.slice none 0 0) (.slice none 0 0)]) (by rw[eh];exact(hX (l₁:=[_]))) (Pq λg _=>by simp),kf,.cons rfl (.nil)⟩
 rintro⟨i,gp,xs,K⟩dr;have hi:=dr.ii;have LB:=dr.le;simp only at hi LB;have RC:=au.mono LB;have fD:xs.length=cL (g.ds.take i):=by have:=congrArg List.length dr.pn;rw[ajD,c8]at this;exact this
 have LC:gp.n=xs.length:=by have aa:gp.ok 9 (xs.flatMap aS.cells):=dr.ok;have:=aa.len;rw[fQ _ 9 aS.cD]at this;omega
 have xA:hS.n=g.ds.length:=by omega
 have nP:h6.n=g.ds.length:=by omega
 refine aU.mk (λcT=>?_) (λcT=>?_)
 ·have aR:i<g.n:=by simpa using cT
  have bZ:i<g.ds.length:=by omega
  obtain⟨ad,bF,bk⟩:=RC.a8.row aQ.cD aR bZ;have eS:g.ds[i]∈g.ds:=cJ bZ;have lM:=(RC.ds _ eS).t;have lX:=lM.n;have Er:=hm.r _ eS;have kk:=DE bZ;have bs:=GO g.ds (i+1);have anL:=ajB bZ;have anM:=hm.find _ eS;generalize g.ds[i]=d at *;have AL:XO K g.ds (hS.a.map λg=>⟨g,0,none⟩) (h6.a.map λg=>⟨g,0,none⟩) hS.c h6.c xs.length d.t:=by
   refine⟨by rw[<-xA];exact dr.nm,by rw[<-nP];exact dr.rt,λn aq=>?_,λx ae=>?_,by omega,by omega⟩;·obtain⟨j,an,Es⟩:=re aq;have q4:=Er.aL j an;have aJ:=Er.fits j an;rw[Es]at q4 aJ;have ay:=ajd aJ (lM.ns n aq).k.1;have cw:n.aL.length<=j:=OK j _ (Er.diff.sublist (OM aq)) q4;exact⟨λk af=>by have:=q4 k af;omega,by omega,by omega⟩
   ·have:=Kc 0 g.ds (λd ah=>(hm.r d ah).bD) x ae;omega
  have ch:=ajl lM AL dr.ok bt s (.slice none 0 0);rw[<-xA]at ch;have fT:Value.slice (h6.a.map λg=>⟨g,0,none⟩) hS.n h6.c=h6.val:=by unfold a'.val;rw[nP,xA]
  rw[fT]at ch;refine bi.mk ad i bF rfl aR ?_;refine aI.mk _ (bk _) ?_;refine a9.whole _ ch ?_;rintro v I' M' -⟨rfl,j,cz,kb,jX,rfl,aj⟩;rcases aj with⟨rfl,rfl⟩ | ⟨rfl,n,aq,abc,atn⟩
  rotate_left
  ·exact absurd (anM n aq abc) (by omega)
  refine aU.mk (λe=>by cases e) (λ_=>?_);refine bd.mk _ (cx (i:=i) (by omega)) ?_;intro iP;have anN:(oG bt s hS.val h6.val cz.val (.slice none 0 0)::(cz.aP 83++kb.map jR)).Perm (kb.map jR++(oG bt s hS.val h6.val cz.val (.slice none 0 0)::(cz.aP 83++[]))):=by rw[eh,<-qZ];exact hX
  have Kq:=jX.len lX;obtain⟨sN,aba⟩:=XT (I:=I') kb (λp aD=>iP.d (jR p) (.tail _ (pS _ (dA.2 ⟨p,aD,rfl⟩)))) (by
   have aa:=iP.bT;have ab:((kb.map jR).map (·.num)).Sublist ((oG bt s hS.val h6.val cz.val (.slice none 0 0)::(cz.aP 83++kb.map jR)).map (·.num)):=((jY _ _).cons _).map _;have ag:=aa.sublist ab;rw[jl]at ag;exact ag)
  have abd:∀ p∈kb,p.2.length<=4096/\∀ x∈p.2,x<=4096:=λp aD=>by
   have aa:p.2∈kb.map (·.2):=dA.2 ⟨p,aD,rfl⟩;rw[jX.kb]at aa;obtain⟨n,aq,e⟩:=dA.1 aa;have Cz:=CR aq;obtain⟨ej,ed,fJ⟩:=AL.ns n Cz;rw[<-e,iH];cases decide (n.k=3)with
   |true=>
    rw[bl];refine⟨by show 1<=4096;omega,λx ae=>?_⟩;rw[fW.1 ae,cC];cases aM:(hR 0 g.ds)[(b2 n.t g.ds 0).toNat]? with
    |none=>exact bw _| some z=>exact AL.ajj z (wV aM)
   |false=>rw[bh];refine⟨by rw[c8];omega,λx ae=>?_⟩;obtain⟨k,af,rfl⟩:=dA.1 ae;obtain⟨j,an,Es⟩:=re Cz;have q4:=Er.aL j an;rw[Es]at q4;have:=q4 k af;omega
  have anO:=XV (J:=DJ I' kb) (kb:=kb) (ns:=d.t.ns.take d.t.n) (λp aD=>⟨aba p aD,by have:=(abd p aD).1;omega,λx ae=>by have:=(abd p aD).2 x ae;omega⟩) (λn aq=>(lM.ns n (CR aq)).mono sN);refine⟨(i+1,cz,xs++pK kb (d.t.ns.take d.t.n),DJ I' kb),⟨⟨aR,λb o h=>sN _ _ (LB _ _ h),dr.nm.mono sN,dr.rt.mono sN,jX.ok,?_,λy aF=>?_⟩,by simp only;omega⟩,.perm anN (XS kb λp _=>by simp),kf,.cons rfl (.nil)⟩;·simp only;have anP:xs.map aS.pn=v' g.ds i:=dr.pn;have td:d.t.ns.take d.t.n=d.t.ns:=eW (by omega);rw[e7,XW Kq,XX jX.kb,anL,anP,fD,td]
  ·rcases dQ.1 aF with aF | aF
   ·obtain⟨wb,Eb,Ln⟩:=dr.xs y aF;exact⟨wb.mono sN,Eb,Ln⟩
   ·obtain⟨wb,⟨p,Eb,Ln⟩,n,anQ,Rd⟩:=anO y aF;refine⟨wb,by rw[Rd];exact(AL.ns n (CR anQ)).2.2,λx ae=>?_⟩;rw[Ln]at ae;obtain⟨q,_,rfl⟩:=dA.1 ae;omega
 have afQ:g.n<=i:=by simpa using cT
 obtain rfl:i=g.n:=by omega
 have ato:xs.length=cL g.ds:=by rw[fD,eW (by omega)]
 have abe:xs.map aS.pn=(qn g.ds).map v7:=by have aa:xs.map aS.pn=v' g.ds g.n:=dr.pn;rw[aa,<-eH,ajC]
 have GU:gp.n=cL g.ds:=by omega
 have jV:0<cL g.ds:=by
  obtain⟨d,ah⟩:=List.exists_mem_of_length_pos (show 0<g.ds.length by have:=hm.n;omega);have ak:=(hm.r d ah).bD;have aa:d.t.ns.length<=cL g.ds:=by unfold cL;exact anE (dA.2 ⟨d,ah,rfl⟩)
  omega
 have anR:gp.ok 9 (xs.flatMap aS.cells):=dr.ok;have HL:eB K (hS.a.map λg=>⟨g,0,none⟩) hS.n hS.c 1 16 (g.ds.map x3):=dr.nm;have anS:eB K (h6.a.map λg=>⟨g,0,none⟩) h6.n h6.c 1 8 ((hR 0 g.ds).map cy):=dr.rt;have sp:∀ y∈xs,y.ok K/\y.t.size<=4096/\∀ x∈y.aL,0<=x:=dr.xs;clear dr;refine aI.mk _ (Bn (j:=3) (.head _) (by decide)) ?_;refine bd.mk ((s.size+1:Nat):Int) (gK (by simp) (by omega)) ?_;refine a9.whole _ (aja gp.n (s.size+1) (by omega) (by omega) (by omega)) ?_;rintro v I' M' -⟨rfl,jQ,fp,rfl,rfl⟩;refine cp.mk [_,_] (gp.aP 83++[]) _ _ rfl rfl (bS rfl) rfl ?_;refine .Iw λiP=>?_;have LD:=iP.d;have XN:I' jQ=none:=LD _ (.head _);have ajb:I' fp=none:=LD _ (.tail _ (.head _));have anT:I' bt=none:=LD _ (.tail _ (.tail _ (.head _)));have l3:∀ x∈gp.aP 83++([]:List aB),I' x.num=none:=λx ae=>LD x (.tail _ (.tail _ (.tail _ ae)));have zY:(jQ::fp::bt::(gp.aP 83++([]:List aB)).map (λx:aB=>x.num)).Nodup:=iP.bT;obtain⟨h0,zY⟩:=nh.1 zY;obtain⟨lP,zY⟩:=nh.1 zY;obtain⟨JU,zY⟩:=nh.1 zY;obtain⟨wM,RD⟩:∃ wM:Obj,wM=.cells ([.string s,hS.val,h6.val,gp.val,.slice (some ⟨jQ,0,none⟩) gp.n gp.n]:List Value).toArray 91 (0,0):=⟨_,rfl⟩;obtain⟨su,abf⟩:∃ su:Obj,su=.cells (GP fp (s.size+1) gp.n).toArray 105 (0,0):=⟨_,rfl⟩;have anU:∀ b o,I' b=some o->ins I' jQ su b=some o:=lr XN;have nx:ins I' jQ su bt=none:=by unfold ins;rw[g3 λe=>h0 (by rw[<-e];exact .tail _ (.head _))];exact anT
 have abg:∀ b o,ins I' jQ su b=some o->ins (ins I' jQ su) bt wM b=some o:=lr nx;have RE:=Pr (J:=ins (ins I' jQ su) bt wM) (os:=gp) (e:=83) (M:=[]) λx ae=>by have Ng:x.num∈(gp.aP 83++([]:List aB)).map (λx:aB=>x.num):=dA.2 ⟨x,ae,rfl⟩;unfold ins;rw[g3 λe=>JU (by rw[<-e];exact Ng),g3 λe=>h0 (by rw[<-e];exact .tail _ (.tail _ Ng))];exact l3 x ae
 have bs:∀ b o,I' b=some o->x4 (ins (ins I' jQ su) bt wM) gp 83 b=some o:=λb o h=>RE _ _ (abg _ _ (anU _ _ h));have dE:x4 (ins (ins I' jQ su) bt wM) gp 83 bt=some wM:=RE _ _ (q5 ..);have LF:x4 (ins (ins I' jQ su) bt wM) gp 83 jQ=some su:=RE _ _ (abg _ _ (q5 ..));have anV:=Ps (J:=ins (ins I' jQ su) bt wM) (e:=83) (b:=96) anR (by omega);have oy:=ajv (RC.mono bs) (bt:=bt) (s:=s) (nv:=hS.val) (rv:=h6.val) (rwv:=.slice (some ⟨jQ,0,none⟩) gp.n gp.n) (na:=gp.a.map λg=>⟨g,0,none⟩) (nn:=gp.n) (nc:=gp.c) (by rw[dE,RD];rfl) GU (by omega);refine a9.Ch (x4 (ins (ins I' jQ su) bt wM) gp 83) [] [⟨fp,.cells ((List.replicate (gp.n*(s.size+1)) jo).flatMap cv.cells).toArray 107 (0,0)⟩] _ ?_ oy ?_
 ·subst abf;subst RD;refine .nk rfl (by simp) (.perm (.swap _ _ _) (.nk rfl (by simp) (.perm (M1:=gp.aP 83++[⟨fp,.cells ((List.replicate (gp.n*(s.size+1)) jo).flatMap cv.cells).toArray 107 (0,0)⟩]) ?_ (Pq λg _=>by simp))));rw[eh];exact hX (l₁:=[_])
 rintro v hK rV hB -⟨-,gN,L,cN,rfl,h4,fM,iF,oz,xE,rfl⟩;have HA:∀ b o,I' b=some o->hK b=some o:=λb o h=>hB _ _ (bs _ _ h);obtain⟨t0,uX⟩:∃ t0:d',t0=⟨bt,s,hS.val,h6.val,xs,gp.a.map λg=>⟨g,0,none⟩,gp.n,gp.c,some ⟨jQ,0,none⟩,gp.n,(List.range gp.n).map λk=>⟨fp,k*((s.size+1)*4),none⟩,0,fp⟩:=⟨_,rfl⟩;have rj:t0.P=jr g s:=by rw[uX];show(⟨xs.map aS.pn,s,0⟩:dw)=_;rw[abe];rfl
 have lJ:=anF (t:=t0) (by rw[uX]);have Oj:t0.aP (v8 t0.P t0.nn)=⟨fp,.cells ((List.replicate (gp.n*(s.size+1)) jo).flatMap cv.cells).toArray 107 (0,0)⟩:=by unfold d'.aP;rw[lJ,uX];rfl
 have hZ:∀ y∈xs,∀ x∈y.aL,x.toNat<gp.n:=λy aF x ae=>by
  have aa:y.pn∈(qn g.ds).map v7:=by rw[<-abe];exact dA.2 ⟨y,aF,rfl⟩
  obtain⟨a,aC,to⟩:=dA.1 aa;have ab:=(ON hm e3 (s:=s) (aO:=0) (bw _) ap).ns a aC;have ag:x.toNat∈a.cf:=by have fT:a.cf=y.aL.map Int.toNat:=congrArg qm.cf to;rw[fT];exact dA.2 ⟨x,ae,rfl⟩
  have aW:=ab.cf _ ag;have bC:(xN g s 0).ns.length=cL g.ds:=Ks g.ds;omega
 have Kp:t0.ok hK (v8 t0.P t0.nn):=by
  rw[uX];refine⟨?_,anV.mono hB,λy aF=>(sp y aF).1.mono HA,λy aF=>(sp y aF).2.1,λy aF x ae=>⟨(sp y aF).2.2 x ae,hZ y aF x ae⟩,?_,λa aC=>?_,λk af ar=>absurd ar (wy _),λk af _=>?_,ap,by show gp.n<=4096;omega⟩;·rw[hB _ _ dE,RD];rfl
  ·refine⟨by simp,⟨cj _,by show gp.n*24<=_;omega⟩,.inr ⟨⟨jQ,0,none⟩,rfl,rfl,_,_,_,(hB _ _ LF).trans (congrArg some abf),?_⟩⟩;show((GP fp (s.size+1) gp.n).drop 0).take (gp.n*1)=_;rw[sX,eW (by simp[GP]),GP,jl];rfl
  ·obtain⟨k,_,rfl⟩:=dA.1 aC;rfl
  ·simp only[lq,r',xG];rfl
 have atp:t0.n0=0:=by rw[uX]
 have abh:t0.nn=gp.n:=by rw[uX]
 have abi:t0.bt=bt:=by rw[uX]
 have RF:t0.fp=fp:=by rw[uX]
 have dW:t0.s=s:=by rw[uX]
 have anW:t0.rv=h6.val:=by rw[uX]
 have anX:t0.nv=hS.val:=by rw[uX]
 have lY:XF hK t0 (v8 t0.P t0.nn) L:=by
  refine⟨Kp,ajA _ _,λk af=>?_,λk=>by rw[rj];exact sg k,by omega,λk af=>⟨by omega,?_⟩,λk _ af=>?_,λk af=>by omega⟩;·rw[rj,abh,GU];exact cg k (by omega)
  ·have:=(oz k).1 af;omega
  ·exact(oz k).2 (by omega)
 have vf:=aiY lY (gN:=gN) (nN:=gp.n) (cN:=cN) h4 fM (by omega) (by omega) (low:=0) (bw _);rw[abi]at vf;refine a9.mk [t0.aP (v8 t0.P t0.nn),dx gN cN] [] _ (by rw[Oj];exact .swap _ _ _) vf ?_;rintro v mL rW -⟨rfl,T,f1,f2,f3,rfl⟩;intro anY;have RG:mL fp=none:=by have:=anY.d (t0.aP T) (.head _);rw[<-RF];exact this
 have qv:t0.ok mL T:=Kp.tt λk af b=>by omega
 refine⟨ins mL fp (.cells (t0.cs T).toArray 107 (0,0)),[],.nk (by rw[<-RF];rfl) (by simp) .refl,λb o h=>lr RG _ _ (HA _ _ (LB _ _ h)),rfl,.inr (.inr ⟨F9,ap,{ t0 with n0:=t0.nn },T,by show _=Value.tuple #[ptr t0.bt,.int .i64 0];rw[abi],?_⟩)⟩;have abj:∀ b o,I' b=some o->ins mL fp (.cells (t0.cs T).toArray 107 (0,0)) b=some o:=λb o h=>lr RG _ _ (HA _ _ h);refine⟨qv.ig (lr RG) (by rw[RF];exact q5 ..),f1,rj,dW,λk b=>by rw[<-rj];exact f2 k b (bw _),rfl,abh.trans GU,⟨h6.a.map λg=>⟨g,0,none⟩,h6.c,?_,?_⟩,⟨hS.a.map λg=>⟨g,0,none⟩,hS.c,?_,?_⟩⟩
 ·show t0.rv=_;rw[anW,a'.val,jE]
 ·rw[<-jE];exact anS.mono abj
 ·show t0.nv=_;rw[anX,a'.val,aa9]
 ·rw[<-aa9];exact HL.mono abj
def iL(x:Nat×Nat):List Value:=[.int .i64 x.1,.int .i64 x.2]
def wN(x:Nat×Nat):(iL x).length=2:=rfl
structure anZ(A dd:List (Nat×Nat))(os0:a')(x:Nat×a'×List (Nat×Nat)):Prop where
 i:2*x.1<=dd.length+1
 ok:x.2.1.ok 2 ((A++x.2.2).flatMap iL)
 len:x.2.2.length=dd.length
 aO:∀ k,k<dd.length->x.2.2[k]?=if k<x.1\/dd.length<=k+x.1 then dd[dd.length-1-k]? else dd[k]?
 a:x.2.1.a=os0.a
 v:x.2.1.val=os0.val
structure tE(I:aZ)(t:d')(T:Nat->Nat->cv):Prop where
 ok:t.ok I T
 inv:ja t.P t.nn T
 all:∀ k b,(T k b).ce=cO t.P k b
 n0:t.n0=t.nn
 bT:∀ k,k<t.nn->vY t.P t.nn k
 na:∀ k,vZ t.P k
 jM:Da t.P
def tE.kn{t:d'}{T:Nat->Nat->cv}(h:tE I t T){k a:Nat}(aC:a<=t.s.size):dX t.P k a=lv (T k a).ce:=by unfold dX;rw[sf (show a<=t.P.s.size from aC),h.all]
def tE.aG{t:d'}{T:Nat->Nat->cv}(h:tE I t T){k a:Nat}(aC:a<=t.s.size):((T k a).aG=2/\(dX t.P k a).aG=3/\(dX t.P k a).a0=(T k a).a0/\(dX t.P k a).n=min (T k a).n 65537)\/((T k a).aG≠2/\(dX t.P k a).aG≠3):=by
 rw[h.kn aC];rcases rp (h.inv.aG k a)with⟨e,bq⟩ | ⟨e,bq⟩ | ⟨e,bq⟩
 ·right
  rw[e,bq];exact⟨by decide,by decide⟩
 ·right
  rw[e,bq];exact⟨by decide,by decide⟩
 ·left
  rw[bq];exact⟨e,rfl,rfl,rfl⟩
def HM(b bt:Nat):aB:=⟨b,.cells [ptr bt].toArray 30 (0,0)⟩
def RH(b a0:Nat):aB:=⟨b,.cells [.int .i64 a0].toArray 3 (0,0)⟩
def LG(b:Nat)(v:Value):aB:=⟨b,.cells [v].toArray 255 (0,0)⟩
def wO(X:aB)(bt dN en e6 a0:Nat)(os:a'):List aB:=X::HM dN bt::RH en a0::LG e6 os.val::os.aP 254
def LH{t:d'}{T:Nat->Nat->cv}(h:tE I t T)(X:aB){dN en e6 k:Nat}(ca:os.ok 2 (L.flatMap iL))(af:k<t.nn)(ab:a0<=t.s.size)(b9:(T k a0).aG=2->L.length<=1048576) :
  Spec Tryz.prog 216 [.int .i64 k,ptr dN,ptr en,ptr e6] I (wO X t.bt dN en e6 a0 os) λv I' M'=>I'=I /\
   (((dX t.P k a0).aG≠3/\v=.bool false/\M'=wO X t.bt dN en e6 a0 os) \/
    ((dX t.P k a0).aG=3/\v=.bool true/\∃ cz:a',cz.ok 2 ((L++bif Nat.beq (dX t.P k a0).n 0 then []else [(k,a0)]).flatMap iL)/\M'=wO X t.bt dN en e6 (dX t.P k a0).a0 cz)):=by
 refine bN [] aV Tryz.func216 rfl rfl rfl ?_;intro B ar;have bj:=h.ok;have df:=bj.sz;have dE:=h.aG (k:=k) ab;obtain⟨h4,fM,iF⟩:=h.inv.rg k a0 af ab;have fM:(T k a0).a0<=t.s.size:=fM;have Dg:os.n=L.length:=by have:=ca.len;rw[fQ _ 2 wN]at this;omega
 obtain⟨eJ,iZ,r,ak,gF,-,k0⟩:=bj.row af;have dB:t.n0<t.nn->∀ M:List aB,t.aP T∈M:=λe=>absurd e (by have:=h.n0;omega);refine c5.draw aV rfl rfl rfl ?_;refine aI.mk _ (dO (k:=0) (n:=1) (cs:=[ptr t.bt]) (T:=30) (b:=dN) (.tail _ (.head _)) (by simp)) ?_;refine aI.mk _ (bj.ha (j:=4) (by decide)) ?_;refine bi.mk eJ k iZ rfl af ?_;refine aI.mk _ (gF _) ?_;refine aI.mk _ (dO (k:=0) (n:=1) (cs:=[.int .i64 a0]) (T:=3) (b:=en) (.tail _ (.tail _ (.head _))) (by simp)) ?_;refine bi.mk r a0 rfl rfl (by show a0<t.s.size+1;omega) ?_;refine aI.mk _ (k0 _ (λe=>dB e _) a0 ab) ?_;generalize T k a0=c at *;refine b8.mk λb6 FX ajw=>?_;refine cp.mk [] _ _ _ rfl rfl (bS rfl) rfl ?_;have k5:∀ {M:List aB} j,j+1<=4->(⟨b6,.cells c.cells.toArray 107 (0,0)⟩:aB)∈M->cr I M ((⟨b6,0,none⟩:Addr).add j) 1 ((c.cells.drop j).take 1):=λj an a1=>dO a1 an;refine aI.mk _ (k5 2 (by decide) (.head _)) ?_;refine aU.mk (λe=>?_) (λe=>?_)
 ·have bq:c.aG≠2:=λaE=>by rw[aE]at e;cases e
  rcases dE with dE | dE;·exact absurd dE.1 bq
  exact⟨_,_,.sub (.cons _ (.refl _)) .refl,rfl,.inl ⟨dE.2,rfl,rfl⟩⟩
 have kJ:c.aG=2:=by have aE:(!decide ((c.aG:Int)=2))=false:=e;simp only[CU,eU]at aE;omega
 rcases dE with⟨-,a3,a6,bI⟩ | dE
 rotate_left
 ·exact absurd kJ dE.1
 refine aI.mk _ (k5 0 (by decide) (.head _)) ?_;refine aU.mk (λe=>?_) (λe=>?_)
 ·have ny:c.n≠0:=by have:(0:Int)<(c.n:Int):=c1 e;omega
  have xv:Nat.beq (dX t.P k a0).n 0=false:=by rw[zi];exact λe=>by have:=c6 e;omega
  have QJ:=b9 kJ;refine aI.mk _ (dO (k:=0) (n:=1) (cs:=[os.val]) (T:=255) (b:=e6) (.tail _ (.tail _ (.tail _ (.tail _ (.head _))))) (by simp)) ?_;refine aI.mk _ (dO (k:=0) (n:=1) (cs:=[.int .i64 a0]) (T:=3) (b:=en) (.tail _ (.tail _ (.tail _ (.head _)))) (by simp)) ?_;refine b8.mk λbW gJ jO=>?_;refine bn.XL aV rfl (by simp) (e:=254) rfl rfl rfl os ca rfl (cs:=iL (k,a0)) rfl rfl rfl [⟨b6,.cells c.cells.toArray 107 (0,0)⟩,X,HM dN t.bt,RH en a0,LG e6 os.val] rfl (by omega) (by show(os.n+1)*16<=_;omega) ?_;rintro wP oq-yQ;refine cp.mk [⟨b6,.cells c.cells.toArray 107 (0,0)⟩,X,HM dN t.bt,RH en a0] (wP.aP 254) [os.val].toArray 255 rfl rfl (bS rfl) rfl ?_;refine aI.mk _ (k5 1 (by decide) (.head _)) ?_;refine bd.mk (c.a0:Int) (gK rfl (by omega)) ?_;refine cp.mk [⟨b6,.cells c.cells.toArray 107 (0,0)⟩,X,HM dN t.bt] (LG e6 wP.val::wP.aP 254) [.int .i64 a0].toArray 3 rfl rfl (bS rfl) rfl ?_;refine⟨_,wO X t.bt dN en e6 c.a0 wP,.sub (.cons _ (.refl _)) .refl,rfl,.inr ⟨a3,rfl,wP,?_,by rw[a6]⟩⟩;rw[xv,bh,lS];simpa using yQ
 ·have ny:c.n=0:=by have:¬ (0:Int)<(c.n:Int):=dj e;omega
  refine aI.mk _ (k5 1 (by decide) (.head _)) ?_;refine bd.mk (c.a0:Int) (gK rfl (by omega)) ?_;refine cp.mk [⟨b6,.cells c.cells.toArray 107 (0,0)⟩,X,HM dN t.bt] (LG e6 os.val::os.aP 254) [.int .i64 a0].toArray 3 rfl rfl (bS rfl) rfl ?_;refine⟨_,wO X t.bt dN en e6 c.a0 os,.sub (.cons _ (.refl _)) .refl,rfl,.inr ⟨a3,rfl,os,?_,by rw[a6]⟩⟩;rw[bI,ny,show Nat.beq (min 0 65537) 0=true from rfl,bl,eh];exact ca
def RI(dN en e6:Nat):Value:=.func (.func 216) #[] #[ptr dN,ptr en,ptr e6]
structure BS(z:Nat)(L parts:List (Nat×Nat))(bb:List (Nat×Nat))(a0:Nat)(os:a'):Prop where
 hi:a0<=z
 ok:∃ oR,os.ok 2 ((L++oR).flatMap iL)/\oR++bb=parts
def BS.next{z:Nat}{L parts p bb oR:List (Nat×Nat)}{Et:Nat}{hn:a'}(aA:Et<=z)(bj:hn.ok 2 (((L++oR)++p).flatMap iL))(gE:oR++(p++bb)=parts):BS z L parts bb Et hn:=
 ⟨aA,oR++p,by rw[<-fq];exact bj,by rw[fq];exact gE⟩
def RJ:(BQ::Ek::El::Em::D).Perm (Ek::Em::BQ::El::D):=by have aa:([BQ,Ek,El,Em]:List aB).Perm [Ek,Em,BQ,El]:=(by decide:[0,1,2,3].Perm [1,3,0,2]).map λi=>[BQ,Ek,El,Em].getD i BQ;exact aa.append_right D
def LI:List.Sublist D (Ek::Em::BQ::El::D):=.cons _ (.cons _ (.cons _ (.cons _ (.refl _))))
def abk{t:d'}{T:Nat->Nat->cv}(h:tE I t T){parts:List (Nat×Nat)}(ca:os.ok 2 (L.flatMap iL)){k a:Nat}(af:k<t.nn)(ab:a<=t.s.size)(aD:ky t.P (dX t.P) k a parts)(ai:L.length+parts.length<=1048576) :
  Spec Tryz.prog 165 [ptr t.bt,os.val,.agg #[.int .i64 k,.int .i64 a]] I (os.aP 254) λv I' M'=>I'=I/\∃ cz:a',v=cz.val/\cz.ok 2 ((L++parts).flatMap iL)/\M'=cz.aP 254:=by
 refine bN [3,4,8] aV Tryz.func165 rfl rfl rfl ?_;intro B ar;have bj:=h.ok;have df:=bj.sz;obtain⟨y,aF,k4,jN,uC,hZ,ad,bF,bk⟩:=bj.aO af;have dS:=jN.kn;have atq:y.kn<=140737488355328:=by have:=jN.a8.cap.2;omega
 obtain⟨fL,RK⟩:∃ fL,fL=y.aL.map Int.toNat:=⟨_,rfl⟩;have QJ:fL.length=y.aL.length:=by rw[RK,c8]
 have ask:∀ j (an:j<fL.length),fL[j]<t.nn/\∃ uY,y.hk=some uY/\∀ M,cr I M (uY.add (j*1)) 1 [Value.int .i64 ((fL[j]:Nat):Int)]:=λj an=>by
  have hW:j<y.aL.length:=by omega
  obtain⟨uY,a3,a6⟩:=jN.a8.one (f:=λ(k:Int)=>Value.int .i64 k) (j:=j) (by omega) hW;have ae:=hZ _ (cJ hW);have e:fL[j]=y.aL[j].toNat:=by simp only[RK,lq]
  rw[e];refine⟨ae.2,uY,a3,λM=>?_⟩;have e:((y.aL[j].toNat:Nat):Int)=y.aL[j]:=by omega
  rw[e];exact a6 M
 have ll:=(h.na k).one;unfold ky at aD;rw[k4]at aD ll;have DI:y.pn.cf=fL:=RK.symm;have abl:t.P.be=0:=rfl;rw[abl,DI]at aD;rw[DI]at ll;refine b8.mk λdN m5 atr=>?_;refine b8.mk λe6 am5 Q2=>?_;refine c5.draw aV rfl rfl rfl ?_;refine aI.mk _ (dO (k:=0) (n:=1) (cs:=[ptr t.bt]) (T:=30) (b:=dN) (.tail _ (.head _)) (by simp)) ?_;refine aI.mk _ (bj.ha (j:=3) (by decide)) ?_;refine bi.mk ad k bF rfl af ?_;refine aI.mk _ (bk _) ?_;refine b8.mk λb7 J9 ats=>?_;refine cp.mk [] _ _ _ rfl rfl (bS rfl) rfl ?_;refine b8.mk λen We ajn=>?_;refine cp.mk [] _ [.int .i64 0].toArray 3 rfl rfl (bS rfl) rfl ?_;have eo:∀ {M:List aB} j,j+1<=9->(⟨b7,.cells y.cells.toArray 83 (0,0)⟩:aB)∈M->cr I M ((⟨b7,0,none⟩:Addr).add j) 1 ((y.cells.drop j).take 1):=λj an a1=>dO a1 an;refine aI.mk _ (eo 0 (by decide) (.tail _ (.head _))) ?_;have abm:∀ {q a0:Nat},a0<=t.s.size->(dX t.P q a0).aG=3->a0<=(dX t.P q a0).a0/\(dX t.P q a0).a0<=t.s.size:=fun {q a0} pE ag=>by have:=(Xn (P:=t.P) rfl q a0).m ag;rw[abl,c0]at this;exact⟨this.1,this.2.1⟩
 have fin:∀ {a0:Nat} {os:a'},BS t.s.size L parts [] a0 os->os.ok 2 ((L++parts).flatMap iL):=λhw=>by obtain⟨oR,ej,ed⟩:=hw.ok;rw[eh]at ed;rwa [ed]at ej
 have att:∀ {os:a'} {a0:Nat},(⟨b7,.cells y.cells.toArray 83 (0,0)⟩:aB)∈wO ⟨b7,.cells y.cells.toArray 83 (0,0)⟩ t.bt dN en e6 a0 os:=.head _;have aW:∀ {os:a'} {a0:Nat},cr I (wO ⟨b7,.cells y.cells.toArray 83 (0,0)⟩ t.bt dN en e6 a0 os) ((⟨e6,0,none⟩:Addr).add 0) 1 (([os.val].drop 0).take 1):=fun {os a0}=>dO (T:=255) (cs:=[os.val]) (.tail _ (.tail _ (.tail _ (.head _)))) (cj _);have atu:∀ j:Int,y.pn.d.k=j ↔ y.k=j:=λj=>Iff.rfl;refine aU.mk (λhD=>?_) (λhD=>?_)
 ·have bP:y.pn.d.k=6:=c1 hD;rw[cn bP]at aD;obtain⟨q,aM⟩:=ll (.inr (by omega));have abn:y.aL.length=1:=by rw[<-QJ,aM];rfl
  obtain⟨ny,uY,Eu,qH⟩:=ask 0 (by omega);have cG:fL[0]'(by omega)=q:=by simp only[aM];rfl
  rw[cG]at ny qH;have zf:k2 (dX t.P) 0 q y.hi 0 a parts:=by rw[aM]at aD;exact aD
  refine c4.inv (ι:=Nat×Nat×a') (λz=>{ bu:=[(4,.val (ptr e6)),(7,.val (ptr b7)),(9,.val (RI dN en e6)),(10,.val (.int .i64 z.1))],cS:=I,db:=wO ⟨b7,.cells y.cells.toArray 83 (0,0)⟩ t.bt dN en e6 z.2.1 z.2.2 }) (λz=>z.1<=1000001/\∃ bb,k2 (dX t.P) 0 q y.hi z.1 z.2.1 bb/\BS t.s.size L parts bb z.2.1 z.2.2) (λz=>1000002-z.1) ?_ ?_;·exact⟨(0,a,os),⟨by simp,parts,zf,ab,[],by rw[eh];exact ca,rfl⟩,.perm RJ .refl,ey,.nil⟩
  rintro⟨n,a0,wP⟩⟨ay,bb,fu,hw⟩;simp only at ay fu hw;have gq:=hw.hi;obtain⟨oR,yQ,gE⟩:=hw.ok;have xA:(L++oR).length<=1048576:=by have:=congrArg List.length gE;rw[cI]at this |-;omega
  cases fu with
  |stop ap=>
   refine aI.mk _ (eo 7 (by decide) (.head _)) ?_;refine b4.mk (λe=>?_) (λ_=>?_);·have aE:(!decide ((n:Int)=y.hi))=true:=e;rw[ap]at aE;simp at aE
   refine aI.mk _ aW ?_;exact⟨_,_,.sub LI .refl,rfl,wP,rfl,fin hw,rfl⟩
  |fail ap ix=>
   have ix:(dX t.P q a0).aG=2:=ix;refine aI.mk _ (eo 7 (by decide) (.head _)) ?_;refine b4.mk (λ_=>?_) (λe=>?_)
   rotate_left
   ·have aE:(!decide ((n:Int)=y.hi))=false:=e;simp only[CU,eU]at aE;exact absurd aE ap
   refine aI.mk _ (eo 8 (by decide) (.head _)) ?_;refine bi.mk uY 0 Eu rfl (by omega) ?_;refine aI.mk _ (qH _) ?_;refine a9.whole _ (LH h _ yQ ny gq (λ_=>xA)) ?_;rintro v I' M' -⟨rfl,⟨ag,rfl,rfl⟩|⟨ag,-⟩⟩;·refine aU.mk (λe=>by cases e) (λ_=>?_);refine aI.mk _ aW ?_;exact⟨_,_,.sub LI .refl,rfl,wP,rfl,fin hw,rfl⟩
   ·rw[ix]at ag;cases ag
  | @more _ _ l anJ ap gv r=>
   have gv:(dX t.P q a0).aG=3:=gv;have r:k2 (dX t.P) 0 q y.hi (n+1) (dX t.P q a0).a0 l:=r;have eA:=abm gq gv;refine aI.mk _ (eo 7 (by decide) (.head _)) ?_;refine b4.mk (λ_=>?_) (λe=>?_)
   rotate_left
   ·have aE:(!decide ((n:Int)=y.hi))=false:=e;simp only[CU,eU]at aE;exact absurd aE ap
   refine aI.mk _ (eo 8 (by decide) (.head _)) ?_;refine bi.mk uY 0 Eu rfl (by omega) ?_;refine aI.mk _ (qH _) ?_;refine a9.whole _ (LH h _ yQ ny gq (λ_=>xA)) ?_;rintro v I' M' -⟨rfl,⟨ag,-⟩|⟨ag,rfl,hn,gh,rfl⟩⟩;·exact absurd gv ag
   ·refine aU.mk (λ_=>?_) (λe=>by cases e);refine bd.mk _ (cx (i:=n) (by omega)) ?_;exact⟨(n+1,_,hn),⟨⟨by simp only;omega,l,r,BS.next eA.2 gh gE⟩,by simp only;omega⟩,.refl,ey,.nil⟩
 have an0:¬ y.pn.d.k=6:=dj hD;rw[cb an0]at aD;refine aU.mk (λfT=>?_) (λfT=>?_)
 ·have bC:y.pn.d.k=5:=c1 fT;rw[cn bC]at aD;obtain⟨x1,m4⟩:=aD;refine aI.mk _ (eo 8 (by decide) (.tail _ (.head _))) ?_;refine c4.inv (ι:=Nat) (λj=>{ bu:=[(4,.val (ptr e6)),(9,.val (RI dN en e6)),(58,.val (.slice y.hk y.kn y.gR)),(59,.val (.int .i64 y.kn)),(60,.val (.int .i64 j))],cS:=I,db:=wO ⟨b7,.cells y.cells.toArray 83 (0,0)⟩ t.bt dN en e6 a os }) (λj=>j<=fL.length/\th (dX t.P) 0 (fL.drop j) a/\parts=mu (dX t.P) 0 (fL.drop j) a) (λj=>fL.length-j) ?_ ?_
  ·exact⟨0,⟨bw _,x1,m4⟩,.perm RJ .refl,gS,.nil⟩
  rintro j⟨an,qb,lO⟩;refine aU.mk (λe=>?_) (λe=>?_)
  rotate_left
  ·have cP:¬ (j:Int)<(y.kn:Int):=dj e;rw[ji (by omega)]at qb;exact qb.elim
  have aR:(j:Int)<(y.kn:Int):=c1 e;have fl:j<fL.length:=by omega
  obtain⟨nE,uY,Eu,qH⟩:=ask j fl;rw[eE fl]at qb lO;generalize fL[j]=q at nE qH qb lO;refine bi.mk uY j Eu rfl (by omega) ?_;refine aI.mk _ (qH _) ?_;refine a9.whole _ (LH h _ ca nE ab (λ_=>by omega)) ?_;rintro v I' M' -⟨rfl,⟨ag,rfl,rfl⟩|⟨ag,rfl,hn,gh,rfl⟩⟩
  ·refine aU.mk (λe=>by cases e) (λ_=>?_);refine bd.mk _ (cx (i:=j) (by omega)) ?_;have m5:Nat.beq (dX t.P q (a-0)).aG 3=false:=by rw[zi];exact λe=>ag (c6 e)
   refine⟨j+1,⟨⟨by omega,?_,?_⟩,by omega⟩,.refl,gS,.nil⟩
   ·rcases qb with e | e
    ·exact absurd e ag
    ·exact e.2
   ·rw[lO];simp only[mu,m5,bh]
  ·refine aU.mk (λ_=>?_) (λe=>by cases e);have he:parts=bif Nat.beq (dX t.P q a).n 0 then []else [(q,a)]:=by
    have m5:Nat.beq (dX t.P q (a-0)).aG 3=true:=by rw[show(dX t.P q (a-0)).aG=3 from ag];rfl
    rw[lO];simp only[mu,m5,bl];rfl
   refine aI.mk _ aW ?_;exact⟨_,_,.sub LI .refl,rfl,hn,rfl,by rw[he];exact gh,rfl⟩
 have an1:¬ y.pn.d.k=5:=dj fT;rw[cb an1]at aD;obtain⟨x1,m4⟩:=aD;refine aI.mk _ (eo 8 (by decide) (.tail _ (.head _))) ?_;refine c4.inv (ι:=Nat×Nat×a') (λz=>{ bu:=[(4,.val (ptr e6)),(9,.val (RI dN en e6)),(29,.val (.slice y.hk y.kn y.gR)),(30,.val (.int .i64 y.kn)),(31,.val (.int .i64 z.1))],cS:=I,db:=wO ⟨b7,.cells y.cells.toArray 83 (0,0)⟩ t.bt dN en e6 z.2.1 z.2.2 }) (λz=>z.1<=fL.length/\allM (dX t.P) 0 (fL.drop z.1) z.2.1/\BS t.s.size L parts (k1 (dX t.P) 0 (fL.drop z.1) z.2.1) z.2.1 z.2.2) (λz=>fL.length-z.1) ?_ ?_
 ·exact⟨(0,a,os),⟨bw _,x1,ab,[],by rw[eh];exact ca,m4.symm⟩,.perm RJ .refl,gS,.nil⟩
 rintro⟨j,a0,wP⟩⟨an,qb,hw⟩;simp only at an qb hw;refine aU.mk (λe=>?_) (λe=>?_)
 rotate_left
 ·have cP:¬ (j:Int)<(y.kn:Int):=dj e;rw[ji (by omega)]at hw;refine aI.mk _ aW ?_;exact⟨_,_,.sub LI .refl,rfl,wP,rfl,fin hw,rfl⟩
 have aR:(j:Int)<(y.kn:Int):=c1 e;have fl:j<fL.length:=by omega
 obtain⟨nE,uY,Eu,qH⟩:=ask j fl;rw[eE fl]at qb hw;generalize fL[j]=q at nE qH qb hw;obtain⟨gv,lO⟩:=qb;have gv:(dX t.P q a0).aG=3:=gv;have gq:=hw.hi;obtain⟨oR,yQ,gE⟩:=hw.ok;have xA:(L++oR).length<=1048576:=by have:=congrArg List.length gE;rw[cI]at this |-;omega
 have eA:=abm gq gv;refine bi.mk uY j Eu rfl (by omega) ?_;refine aI.mk _ (qH _) ?_;refine a9.whole _ (LH h _ yQ nE gq (λ_=>xA)) ?_;rintro v I' M' -⟨rfl,⟨ag,-⟩|⟨ag,rfl,hn,gh,rfl⟩⟩
 ·exact absurd gv ag
 refine bd.mk _ (cx (i:=j) (by omega)) ?_;refine⟨(j+1,_,hn),⟨⟨by simp only;omega,lO,BS.next eA.2 gh ?_⟩,by simp only;omega⟩,.refl,gS,.nil⟩;rw[<-gE];have m5:Nat.beq (dX t.P q (a0-0)).aG 3=true:=by rw[show(dX t.P q (a0-0)).aG=3 from ag];rfl
 simp only[k1,m5,bl];show oR++((bif Nat.beq (dX t.P q a0).n 0 then []else [(q,a0)])++k1 (dX t.P) 0 (fL.drop (j+1)) (dX t.P q a0).a0)=oR++bif Nat.beq (dX t.P q a0).n 0 then k1 (dX t.P) 0 (fL.drop (j+1)) (dX t.P q a0).a0 else(q,a0)::k1 (dX t.P) 0 (fL.drop (j+1)) (dX t.P q a0).a0;cases Nat.beq (dX t.P q a0).n 0<;>rfl
def fg.cells(c:fg):List Value:=[.string c.name,.int .i64 c.lo,.int .i64 c.hi]
def fg.cD(c:fg):c.cells.length=3:=rfl
structure abo(m:dI)(kn:Nat->Nat->dg)(x:Nat×Nat):Prop where
 k:x.1<m.ns.n
 lo:m.be<=x.2
 hi:x.2<=m.s.size
 aG:(kn x.1 (x.2-m.be)).aG=3
def BT(m:dI)(kn:Nat->Nat->dg)(x:Nat×Nat):Prop:=abo m kn x/\(kn x.1 (x.2-m.be)).n≠0
section
variable{m:dI}{kn:Nat->Nat->dg}
def abp(h:∀ k p,zk m.jM (m.be+p) (kn k p))(e9:m.be<=a0)(ag:(kn q (a0-m.be)).aG=3):m.be<=(kn q (a0-m.be)).a0/\(kn q (a0-m.be)).a0<=m.s.size:=by have:=(h q (a0-m.be)).m ag;rw[zh e9]at this;exact⟨by omega,this.2.1⟩
def abq(h:∀ k p,zk m.jM (m.be+p) (kn k p)):∀ (L:List Nat) (a:Nat),(∀ x∈L,x<m.ns.n)->m.be<=a->a<=m.s.size->allM kn m.be L a->∀ x∈k1 kn m.be L a,BT m kn x
 |[],a,_,_,_,_,x,ae=>by cases ae
 |k::L,a,b9,aa,ab,⟨ag,aW⟩,x,ae=>by
  have aq:=abp h aa ag;have a7:=abq h L _ (λx ae=>b9 x (.tail _ ae)) aq.1 aq.2 aW;simp only[k1,ag]at ae;rw[show Nat.beq 3 3=true from rfl,bl]at ae;cases ar:Nat.beq (kn k (a-m.be)).n 0 with
  |true=>rw[ar]at ae;exact a7 x ae
  |false=>
   rw[ar]at ae;rcases ef.1 ae with rfl | ae;·exact⟨⟨b9 k (.head _),aa,ab,ag⟩,λe=>by rw[e]at ar;cases ar⟩
   ·exact a7 x ae
def abr:∀ (L:List Nat) (a:Nat),(∀ x∈L,x<m.ns.n)->m.be<=a->a<=m.s.size->∀ x∈mu kn m.be L a,BT m kn x
 |[],a,_,_,_,x,ae=>by cases ae
 |k::L,a,b9,aa,ab,x,ae=>by
  simp only[mu]at ae;cases ag:Nat.beq (kn k (a-m.be)).aG 3 with
  |false=>rw[ag]at ae;exact abr L a (λx ae=>b9 x (.tail _ ae)) aa ab x ae
  |true=>
   rw[ag,bl]at ae;cases ar:Nat.beq (kn k (a-m.be)).n 0 with
   |true=>rw[ar]at ae;cases ae| false=>rw[ar,bh,fW]at ae;subst ae;exact⟨⟨b9 k (.head _),aa,ab,c6 ag⟩,λe=>by simp only at e;rw[e]at ar;cases ar⟩
def k2.ok(h:∀ k p,zk m.jM (m.be+p) (kn k p)){k:Nat}(af:k<m.ns.n){t a:Nat}(hw:k2 kn m.be k hi t a l):m.be<=a->a<=m.s.size->∀ x∈l,BT m kn x:=by
 induction hw with
 |stop=>exact λ_ _ x ae=>by cases ae
 |fail=>exact λ_ _ x ae=>by cases ae
 | @more t a l ai ap ag r a7=>
  intro aa ab x ae;have aq:=abp h aa ag;rcases dQ.1 ae with ae | ae
  ·cases ar:Nat.beq (kn k (a-m.be)).n 0 with
   |true=>rw[ar]at ae;cases ae| false=>rw[ar,bh,fW]at ae;subst ae;exact⟨⟨af,aa,ab,ag⟩,λe=>by simp only at e;rw[e]at ar;cases ar⟩
  ·exact a7 aq.1 aq.2 x ae
def an2(h:∀ k p,zk m.jM (m.be+p) (kn k p))(At:m.ns.xs.length=m.ns.n)(rj:Da m.jM){k a:Nat}(af:k<m.ns.n)(aa:m.be<=a)(ab:a<=m.s.size)(aD:ky m.jM kn k a l):∀ x∈l,BT m kn x:=by
 have Pf:m.jM.ns.length=m.ns.n:=by simp[dI.jM,At]
 have aw:=dw.agP rj (k:=k) (by omega);have av:∀ x∈(m.jM.aO k).cf,x<m.ns.n:=λx ae=>by rw[<-Pf];exact aw.cf x ae
 unfold ky at aD;by_cases bP:(m.jM.aO k).d.k=6
 ·rw[cn bP]at aD;have abn:=aw.one (by omega);have au:(m.jM.aO k).cf.getD 0 0<m.ns.n:=by
   have e:(m.jM.aO k).cf.getD 0 0=(m.jM.aO k).cf[0]:=by simp[cC,abn]
   rw[e];exact av _ (cJ (by omega))
  exact k2.ok h au aD aa ab
 ·rw[cb bP]at aD;by_cases bC:(m.jM.aO k).d.k=5
  ·rw[cn bC]at aD;rw[aD.2];exact abr _ _ av aa ab
  ·rw[cb bC]at aD;rw[aD.2];exact abq h _ _ av aa ab aD.1
def RL(au:zl m.jM kn):∀ (L:List (Nat×Nat)),(∀ x∈L,BT m kn x)->∃ n l,iD m.jM kn n L l/\L.length<=l.length
 |[],_=>⟨0,[],.nil,cj _⟩
 |(k,a)::L,h=>by
  obtain⟨n,l,aa,ab⟩:=RL au L λx ae=>h x (.tail _ ae);obtain⟨⟨eg,cA,gu,jG⟩,v0⟩:=h (k,a) (.head _);obtain⟨eO,cR,iE,hO,-⟩:=au k (a-m.be) jG;have e:m.jM.be+(a-m.be)=a:=by show m.be+(a-m.be)=a;simp only at cA;omega
  rw[e]at iE;refine⟨eO+n,cR++l,iE.app aa,?_⟩;have:0<cR.length:=by unfold lZ at hO;simp only at v0;omega
  rw[cI,ea];omega
end
def LJ{v rz:Value}(h:rz=v):vi (.val v) (.val rz):=by rw[h];exact .refl
structure RM(m:dI)(kn:Nat->Nat->dg)(l:List fg)(n:Nat)(L:List (Nat×Nat))(os iM:a'):Prop where
 os:os.ok 2 (L.reverse.flatMap iL)
 eY:∀ x∈L,abo m kn x
 an3:L.length<=1\/∀ x∈L,BT m kn x
 g:∃ rk mv,iD m.jM kn n L mv/\rk++mv=l/\iM.ok 3 (rk.flatMap fg.cells)
def RM.len{m:dI}{kn:Nat->Nat->dg}{l:List fg}{iM:a'}(h:RM m kn l n L os iM)(au:zl m.jM kn)(av:l.length<=65536):L.length<=65537:=by
 rcases h.an3 with aa | aa
 ·omega
 ·obtain⟨rk,mv,a3,a6,-⟩:=h.g;obtain⟨eO,cR,iE,hO⟩:=RL au L aa;have e:=a3.A' iE;subst e;have:=congrArg List.length a6;rw[cI]at this;omega
def abt{bc post:List aB}{os0:a'}{A dd:List (Nat×Nat)}(pB:os0.ok 2 ((A++dd).flatMap iL))(ai:os0.n<=1099511627776){ad:Option Addr}{ln abu:Nat}(bs:ln=dd.length)(bK:0<dd.length->∃ g,os0.a=some g/\ad=some ⟨g,A.length*2,none⟩) :
  Spec Tryz.prog 166 [.slice ad ln abu] I (bc++(os0.aP 254++post)) λv I' M'=>I'=I/\∃ cz:a',cz.val=os0.val/\cz.ok 2 ((A++dd.reverse).flatMap iL)/\M'=bc++(cz.aP 254++post):=by
 subst bs;refine bN [] aV Tryz.func166 rfl rfl rfl ?_;intro B ar;have Dg:A.length+dd.length=os0.n:=by have:=pB.len;rw[fQ _ 2 wN,cI]at this;omega
 refine bd.mk ((dd.length:Int)-1) (gK rfl (by omega)) ?_;refine c4.inv (ι:=Nat×a'×List (Nat×Nat)) (λx=>{ bu:=[(0,.val (.slice ad dd.length abu)),(2,.val (.int .i64 x.1)),(3,.val (.int .i64 ((dd.length:Int)-1-x.1)))],cl:=[],cS:=I,db:=bc++(x.2.1.aP 254++post) }) (λx=>anZ A dd os0 x) (λx=>dd.length-x.1) ?_ ?_
 ·refine⟨(0,os0,dd),⟨by simp,pB,rfl,λk af=>?_,rfl,rfl⟩,.refl,.cons .refl (.cons .refl (.cons ?_ .nil)),.nil⟩
  ·simp only;rw[cb (by omega)]
  ·simp only[Int.ofNat_zero,Int.sub_zero];exact .refl
 rintro⟨i,os,l⟩⟨hi,ca,bQ,kt,oP,l7⟩;simp only at hi ca bQ kt oP l7;refine aU.mk (λh=>?_) (λh=>?_)
 rotate_left
 ·have cP:¬ (i:Int)<(dd.length:Int)-1-i:=dj h;refine⟨_,_,.refl,rfl,os,l7,?_,rfl⟩;have e:l=dd.reverse:=by
   refine yO λk=>?_;by_cases af:k<dd.length
   ·rw[kt k af,List.getElem?_reverse af];split
    ·rfl
    ·congr 1;omega
   ·rw[oW (by omega),oW (by rw[wL];omega)]
  rw[<-e];exact ca
 have aR:(i:Int)<(dd.length:Int)-1-i:=c1 h;obtain⟨j,an⟩:∃ j:Nat,(dd.length:Int)-1-i=(j:Int):=⟨dd.length-1-i,by omega⟩;have fv:i<l.length:=by omega
 have fl:j<l.length:=by omega
 obtain⟨g,Ev,rfl⟩:=bK (by omega);have LK:=oP.trans Ev;have row:∀ {os:a'} {l:List (Nat×Nat)} (h:os.ok 2 ((A++l).flatMap iL)) (aC:os.a=some g) (q:Nat) (aM:q<l.length) {M:List aB},(∀ x∈os.aP 254,x∈M)->cr I M ((⟨g,A.length*2,none⟩:Addr).add (q*2)) 2 (iL l[q]):=fun {os l} h aC q aM {M} a1=>by
  have:=a'.aO (I:=I) (M:=M) (e:=254) wN (by decide) h a1 aC (i:=A.length+q) (by rw[cI];omega);rw[dL _ rfl,<-kS];have e:(A++l)[A.length+q]'(by rw[cI];omega)=l[q]:=by rw[List.getElem_append_right (by omega)];congr 1;omega
  rwa [e]at this
 have abv:∀ {os:a'} {l:List (Nat×Nat)} (h:os.ok 2 ((A++l).flatMap iL)) (aC:os.a=some g) (q:Nat) (aM:q<l.length) (x:Nat×Nat) {K:List aB->Prop},(∀ cz:a',cz.val=os.val->cz.a=os.a->cz.ok 2 ((A++l.set q x).flatMap iL)->K (bc++(cz.aP 254++post))) ->
   cp (bc++(os.aP 254++post)) ((⟨g,A.length*2,none⟩:Addr).add (q*2)) (iL x) K:=fun {os l} h aC q aM x {K} k=>by
  rw[dL _ rfl];refine a'.put iL 2 wN h (i:=A.length+q) (by rw[cI];omega) 0 (vs:=iL x) (cj 2) rfl x ?_ bc post rfl aC (by simp only;omega) ?_;·show bo (iL _) 0 (iL x)=iL x;rfl
  ·intro cz az aE bz cT;rw[C7 _ _ (by omega),OZ]at cT;exact k cz az aE cT
 refine c5.draw aV rfl rfl rfl ?_;refine bi.mk ⟨g,A.length*2,none⟩ j rfl an (by omega) ?_;refine aI.mk _ (row ca LK j fl λz bf=>pS _ (kF _ bf)) ?_;refine bi.mk ⟨g,A.length*2,none⟩ i rfl rfl (by omega) ?_;refine aI.mk _ (row ca LK i fv λz bf=>pS _ (kF _ bf)) ?_;refine bi.mk ⟨g,A.length*2,none⟩ i rfl rfl (by omega) ?_;refine abv ca LK i fv l[j] ?_;intro hn n7 uZ gh;refine bi.mk ⟨g,A.length*2,none⟩ j rfl an (by omega) ?_;refine abv gh (uZ.trans LK) j (by rw[lT];exact fl) l[i] ?_;intro BU xD RN xk;refine bd.mk _ (cx (i:=i) (by omega)) ?_;refine bd.mk ((dd.length:Int)-1-((i+1:Nat):Int)) (by rw[wrap_i64 ⟨by omega,by omega⟩];omega) ?_;refine⟨(i+1,BU,(l.set i l[j]).set j l[i]),⟨⟨by simp only;omega,xk,by simp only[lT];exact bQ,λk af=>?_,(RN.trans uZ).trans oP,(xD.trans n7).trans l7⟩,by simp only;omega⟩,.refl,fH,.nil⟩;have Es:l[j]?=dd[j]?:=by rw[kt j (by omega),cb (by omega)]
 have aH:l[i]?=dd[i]?:=by rw[kt i (by omega),cb (by omega)]
 have an4:l[j]=dd[j]'(by omega):=by rw[eb fl,eb (by omega)]at Es;exact kV Es
 have an5:l[i]=dd[i]'(by omega):=by rw[eb fv,eb (by omega)]at aH;exact kV aH
 simp only;rw[mh,mh];by_cases az:j=k
 ·subst az;rw[cn rfl,cn (by rw[lT];exact fl),cn (by omega),an5,<-eb];congr 1;omega
 ·rw[cb az];by_cases aE:i=k
  ·subst aE;rw[cn rfl,cn fv,cn (by omega),an4,<-eb];congr 1;omega
  ·rw[cb aE,kt k af];by_cases bz:k<i\/dd.length<=k+i
   ·rw[cn bz,cn (by omega)]
   ·rw[cb bz,cb (by omega)]
def d'.wQ(t:d'):dI:=⟨0,0,t.s,0,0,⟨t.kz.map λy=>⟨y.Bh,none,0,0,y.aL.map Int.toNat⟩,none,t.nn,0⟩⟩
def d'.an6(t:d'):t.wQ.jM=t.P:=by unfold dI.jM d'.wQ d'.P;simp only[jl];rfl
def an7{t:d'}{T:Nat->Nat->cv}(h:tE I t T){k a:Nat}(af:k<t.nn)(ab:a<=t.s.size)(ag:(dX t.P k a).aG=3){l:List fg}(sM:iD t.P (dX t.P) n [(k,a)] l)(av:l.length<=65536) :
  Spec Tryz.prog 97 [ptr t.bt,.int .i64 k,.int .i64 a] I [] λv I' M'=>I'=I/\∃ iM:a',v=iM.val/\iM.ok 3 (l.flatMap fg.cells)/\M'=iM.aP 110:=by
 refine bN [] aV Tryz.func97 rfl rfl rfl ?_;intro B ar;have bj:=h.ok;have df:=bj.sz;have BV:=t.an6;have wz:t.wQ.ns.xs.length=t.wQ.ns.n:=by show(t.kz.map _).length=t.nn;rw[c8];exact bj.nn
 have AV:∀ k p,zk t.wQ.jM (t.wQ.be+p) (dX t.P k p):=λk p=>by rw[BV];exact Xn rfl k p
 have rj:Da t.wQ.jM:=by rw[BV];exact h.jM
 have au:zl t.wQ.jM (dX t.P):=by rw[BV];exact Xm rfl df h.na
 have dB:t.n0<t.nn->∀ M:List aB,t.aP T∈M:=λe=>absurd e (by have:=h.n0;omega);refine b8.mk λan8 je atv=>?_;refine c4.inv (ι:=Nat×List (Nat×Nat)×a'×a') (λy=>{ bu:=[(0,.val (ptr t.bt)),(7,.val y.2.2.2.val),(8,.val y.2.2.1.val)],cS:=I,db:=y.2.2.1.aP 254++y.2.2.2.aP 110 }) (λy=>RM t.wQ (dX t.P) l y.1 y.2.1 y.2.2.1 y.2.2.2) (λy=>y.1) ?_ ?_
 ·refine⟨(n,[(k,a)],⟨some an8,1,1,iL (k,a)⟩,⟨none,0,0,[]⟩),⟨⟨rfl,λe=>(by cases e),λg au=>⟨rfl,cj _,by unfold maxLen;exact bS rfl,rfl⟩⟩,λx ae=>?_,.inl (cj _),[],l,by rw[BV];exact sM,rfl,⟨rfl,λ_=>⟨rfl,rfl⟩,λg h=>(by cases h)⟩⟩,.refl,fH,.nil⟩;rw[fW.1 ae];exact⟨af,bw _,ab,ag⟩
 rintro⟨n,L,os,iM⟩bA;have bQ:=bA.len au av;obtain⟨ca,ch,RO,rk,mv,jF,yp,wR⟩:=bA;simp only at ca ch RO jF wR bQ;have LC:os.n=L.length:=by have:=ca.len;rw[fQ _ 2 wN,wL]at this;omega
 cases L with
 |nil=>
  refine aU.mk (λe=>?_) (λ_=>?_);·have:(0:Int)<(os.n:Int):=c1 e;simp at LC;omega
  cases jF;rw[eh]at yp;subst yp;exact⟨_,_,.sub (M1:=iM.aP 110) (jY _ _) .refl,rfl,iM,rfl,wR,rfl⟩
 |cons y bb=>
  obtain⟨k,a⟩:=y;refine aU.mk (λ_=>?_) (λe=>?_)
  rotate_left
  ·have:¬ (0:Int)<(os.n:Int):=dj e;simp at LC;omega
  obtain⟨s1,s2,ec,Bk⟩:=ch (k,a) (.head _);have s1:k<t.nn:=s1;have ec:a<=t.s.size:=ec;have Bk:(dX t.P k a).aG=3:=Bk;have atw:os.n=bb.length+1:=by simpa using LC
  have Bl:bb.length<=65536:=by simp at bQ;omega
  obtain⟨LL,Ev⟩:∃ g,os.a=some g:=by
   cases aC:os.a with
   |none=>have:=(ca.nil aC).1;omega| some g=>exact⟨g,rfl⟩
  obtain⟨ej,ed,fJ,gI⟩:=ca.cap LL Ev;rw[List.reverse_cons]at ca gI;have yq:a'.ok ⟨os.a,bb.length,os.c,os.aK⟩ 2 (bb.reverse.flatMap iL):=by
   refine⟨by rw[fQ _ 2 wN,wL],λe=>(by simp only at e;rw[Ev]at e;cases e),λdv _=>⟨ej,by simp only;omega,fJ,?_⟩⟩;simp only;have az:((bb.reverse++[(k,a)]).flatMap iL).take (bb.length*2)=bb.reverse.flatMap iL:=by rw[lS,CB (by rw[fQ _ 2 wN,wL];exact cj _)];exact eW (by rw[fQ _ 2 wN,wL];exact cj _)
   rw[<-az,<-gI,rU];congr 1;omega
  have an9:os.a.map (λg=>(⟨g,0,none⟩:Addr))=some ⟨LL,0,none⟩:=by rw[Ev];rfl
  have aoa:∀ {M:List aB},(∀ x∈os.aP 254,x∈M)->cr I M ((⟨LL,0,none⟩:Addr).add (bb.length*2)) 2 (iL (k,a)):=fun {M} a1=>by have:=a'.aO (I:=I) (M:=M) (e:=254) wN (by decide) ca a1 Ev (i:=bb.length) (by simp);rw[dL _ rfl,c0];simpa using this
  have dE:=h.aG (k:=k) ec;rcases dE with⟨t1,-,t3,t4⟩ | dE
  rotate_left
  ·exact absurd Bk dE.2
  obtain⟨h4,fM,iF⟩:=h.inv.rg k a s1 ec;have fM:(T k a).a0<=t.s.size:=fM;obtain⟨eJ,iZ,r,ak,gF,-,k0⟩:=bj.row s1;obtain⟨x,ae,k4,Y8,uC,hZ,ad,bF,aob⟩:=bj.aO s1;refine bd.mk (bb.length:Int) (gK (show(os.n:Int)-1=(bb.length:Int) by omega) (by omega)) ?_;refine bi.mk ⟨LL,0,none⟩ bb.length an9 rfl (show bb.length<os.n by omega) ?_;refine aI.mk _ (aoa λx ae=>kF _ ae) ?_;refine bd.mk (bb.length:Int) (gK (show(os.n:Int)-1=(bb.length:Int) by omega) (by omega)) ?_;refine ik.mk 0 bb.length rfl rfl (bw _) (show bb.length<=os.c by omega) ?_;refine c5.draw aV rfl rfl rfl ?_;refine aI.mk _ (bj.ha (j:=4) (by decide)) ?_;refine bi.mk eJ k iZ rfl s1 ?_;refine aI.mk _ (gF _) ?_;refine bi.mk r a rfl rfl (by show a<t.s.size+1;omega) ?_;refine aI.mk _ (k0 _ (λe=>dB e _) a ec) ?_;refine b8.mk λoE Xv Xw=>?_;refine cp.mk [] _ _ _ rfl rfl (bS rfl) rfl ?_;have pi:∀ {M:List aB} j,j+1<=4->(⟨oE,.cells (T k a).cells.toArray 107 (0,0)⟩:aB)∈M->cr I M ((⟨oE,0,none⟩:Addr).add j) 1 (((T k a).cells.drop j).take 1):=λj an a1=>dO a1 an;refine aI.mk _ (pi 0 (by decide) (.head _)) ?_;refine aU.mk (λe=>?_) (λe=>?_)
  ·have zu:(T k a).n=0:=by have:((T k a).n:Int)=0:=c1 e;omega
   have bf:(dX t.P k a).n=0:=by rw[t4,zu];rfl
   cases jF with
   | @node n _ _ parts _ mv _ aoc=>exact absurd bf aoc
   | @zero n _ _ _ _ _ _ HN=>
    refine⟨(n,bb,⟨os.a,bb.length,os.c,os.aK⟩,iM),⟨⟨yq,λx ae=>ch x (.tail _ ae),?_,rk,mv,HN,yp,wR⟩,by simp only;omega⟩,.sub (.cons _ (.refl _)) .refl,fH,.nil⟩;rcases RO with e | e
    ·left
     simp at e;simp[e]
    ·exact .inr λx ae=>e x (.tail _ ae)
  have bf:(dX t.P k a).n≠0:=by have:¬ ((T k a).n:Int)=0:=dj e;omega
  cases jF with
  | @zero n _ _ _ _ _ g5 r=>exact absurd g5 bf| @node eO _ _ parts _ mv _ _ aD HN=>
  have rc:=an2 AV wz rj (k:=k) (a:=a) s1 (bw _) ec aD;have jE:∀ x∈bb,BT t.wQ (dX t.P) x:=by
   rcases RO with e | e
   ·have:bb=[]:=by
     cases bb with
     |nil=>rfl| cons _ _=>simp at e
    rw[this];exact λx ae=>by cases ae
   ·exact λx ae=>e x (.tail _ ae)
  have BW:bb.reverse.length+parts.length<=1048576:=by
   obtain⟨atx,aty,iE,hO⟩:=RL au (parts++bb) (λx ae=>by
    rcases dQ.1 ae with ae | ae;·exact rc x ae
    ·exact jE x ae)
   have e:=HN.A' iE;subst e;have aE:=congrArg List.length yp;rw[cI,cI]at aE;rw[cI]at hO;rw[wL];omega
  rw[BV]at aD;refine c5.draw aV rfl rfl rfl ?_;refine aI.mk _ (bj.ha (j:=3) (by decide)) ?_;refine bi.mk ad k bF rfl s1 ?_;refine aI.mk _ (aob _) ?_;refine b8.mk λrE aod atz=>?_;refine cp.mk [] _ _ _ rfl rfl (bS rfl) rfl ?_;have Ho:∀ {M:List aB} j,j+1<=9->(⟨rE,.cells x.cells.toArray 83 (0,0)⟩:aB)∈M->cr I M ((⟨rE,0,none⟩:Addr).add j) 1 ((x.cells.drop j).take 1):=λj an a1=>dO a1 an;refine aI.mk _ (Ho 0 (by decide) (.head _)) ?_;have abw:∀ (D:List aB),(⟨rE,.cells x.cells.toArray 83 (0,0)⟩::⟨oE,.cells (T k a).cells.toArray 107 (0,0)⟩::((⟨os.a,bb.length,os.c,os.aK⟩:a').aP 254++D)).Perm ((⟨os.a,bb.length,os.c,os.aK⟩:a').aP 254++(⟨rE,.cells x.cells.toArray 83 (0,0)⟩::⟨oE,.cells (T k a).cells.toArray 107 (0,0)⟩::D)):=λD=>
   zg [_,_] _ _
  have abx:∀ (A D:List aB),List.Sublist (A++D) ([]++(A++(⟨rE,.cells x.cells.toArray 83 (0,0)⟩::⟨oE,.cells (T k a).cells.toArray 107 (0,0)⟩::D))++[]):=λA D=>by rw[eh,jZ];exact List.Sublist.append (.refl _) (.cons _ (.cons _ (.refl _)))
  have aby:∀ {hn:a'},hn.ok 2 ((bb.reverse++parts).flatMap iL)->hn.n=bb.length+parts.length:=fun {hn} gh=>by have:=gh.len;rw[fQ _ 2 wN,cI,wL]at this;omega
  refine aU.mk (λtA=>?_) (λtA=>?_)
  ·have fe:x.k=9:=c1 tA;have hz:sc t.P (dX t.P) k a=[⟨x.t,a,(T k a).a0⟩]:=by unfold sc;rw[k4,eN (show x.pn.d.k=9 from fe),bl];show [(⟨x.t,a,(dX t.P k a).a0⟩:fg)]=_;rw[t3]
   rw[BV,hz]at yp;have atA:iM.n=rk.length:=by have:=wR.len;rw[fQ _ 3 fg.cD]at this;omega
   have AA:rk.length<=65536:=by have:=congrArg List.length yp;rw[cI]at this;omega
   refine aI.mk _ (Ho 5 (by decide) (.head _)) ?_;refine aI.mk _ (pi 1 (by decide) (.tail _ (.head _))) ?_;refine bd.mk ((T k a).a0:Int) (gK rfl (by omega)) ?_;refine b8.mk λbW gJ jO=>?_;refine bn.XL aV rfl (by simp) (e:=110) rfl rfl rfl iM wR rfl (cs:=fg.cells ⟨x.t,a,(T k a).a0⟩) rfl rfl rfl (⟨rE,.cells x.cells.toArray 83 (0,0)⟩::⟨oE,.cells (T k a).cells.toArray 107 (0,0)⟩::(⟨os.a,bb.length,os.c,os.aK⟩:a').aP 254) rfl (by omega) (by show(iM.n+1)*32<=_;omega) ?_;rintro RP atB-aoe;refine a9.mk ((⟨os.a,bb.length,os.c,os.aK⟩:a').aP 254) (⟨rE,.cells x.cells.toArray 83 (0,0)⟩::⟨oE,.cells (T k a).cells.toArray 107 (0,0)⟩::RP.aP 110) _ (abw _) (abk h yq s1 ec aD BW) ?_;rintro v I' M' -⟨rfl,hn,rfl,gh,rfl⟩;have pI:=aby gh;refine ik.mk bb.length hn.n rfl rfl (by omega) (cj _) ?_;refine a9.mk ([]++(hn.aP 254++(⟨rE,.cells x.cells.toArray 83 (0,0)⟩::⟨oE,.cells (T k a).cells.toArray 107 (0,0)⟩::RP.aP 110))) [] _ (by rw[eh];exact .refl _) (abt (bc:=[]) (A:=bb.reverse) gh (by omega) (show hn.n-bb.length=parts.length by omega) (λjV=>?_)) ?_
   ·cases aC:hn.a with
    |none=>have:=(gh.nil aC).1;omega| some a6=>have QS:=(gh.cap a6 aC).2.1;refine⟨a6,rfl,?_⟩;rw[cb (by omega),wL];show some ((⟨a6,0,none⟩:Addr).add (bb.length*2))=_;rw[dL _ rfl,c0]
   rintro v I' M' -⟨rfl,BU,xD,xk,rfl⟩;refine⟨(eO,parts++bb,BU,RP),⟨⟨?_,?_,.inr ?_,rk++[⟨x.t,a,(T k a).a0⟩],mv,HN,by rw[fq];exact yp,by rw[lS];simpa using aoe⟩,by simp only;omega⟩,.sub (abx _ _) .refl,.cons .refl (.cons .refl (.cons (LJ xD) .nil)),.nil⟩;·rw[O1];exact xk
   ·intro x ae;rcases dQ.1 ae with ae | ae
    ·exact(rc x ae).1
    ·exact ch x (.tail _ ae)
   ·intro x ae;rcases dQ.1 ae with ae | ae
    ·exact rc x ae
    ·exact jE x ae
  ·have fe:¬ x.k=9:=dj tA;have hz:sc t.P (dX t.P) k a=[]:=by unfold sc;rw[k4,de (show ¬ x.pn.d.k=9 from fe),bh]
   rw[BV,hz,jZ]at yp;refine a9.mk ((⟨os.a,bb.length,os.c,os.aK⟩:a').aP 254) (⟨rE,.cells x.cells.toArray 83 (0,0)⟩::⟨oE,.cells (T k a).cells.toArray 107 (0,0)⟩::iM.aP 110) _ (abw _) (abk h yq s1 ec aD BW) ?_;rintro v I' M' -⟨rfl,hn,rfl,gh,rfl⟩;have pI:=aby gh;refine ik.mk bb.length hn.n rfl rfl (by omega) (cj _) ?_;refine a9.mk ([]++(hn.aP 254++(⟨rE,.cells x.cells.toArray 83 (0,0)⟩::⟨oE,.cells (T k a).cells.toArray 107 (0,0)⟩::iM.aP 110))) [] _ (by rw[eh];exact .refl _) (abt (bc:=[]) (A:=bb.reverse) gh (by omega) (show hn.n-bb.length=parts.length by omega) (λjV=>?_)) ?_
   ·cases aC:hn.a with
    |none=>have:=(gh.nil aC).1;omega| some a6=>have QS:=(gh.cap a6 aC).2.1;refine⟨a6,rfl,?_⟩;rw[cb (by omega),wL];show some ((⟨a6,0,none⟩:Addr).add (bb.length*2))=_;rw[dL _ rfl,c0]
   rintro v I' M' -⟨rfl,BU,xD,xk,rfl⟩;refine⟨(eO,parts++bb,BU,iM),⟨⟨?_,?_,.inr ?_,rk,mv,HN,yp,wR⟩,by simp only;omega⟩,.sub (abx _ _) .refl,.cons .refl (.cons .refl (.cons (LJ xD) .nil)),.nil⟩;·rw[O1];exact xk
   ·intro x ae;rcases dQ.1 ae with ae | ae
    ·exact(rc x ae).1
    ·exact ch x (.tail _ ae)
   ·intro x ae;rcases dQ.1 ae with ae | ae
    ·exact rc x ae
    ·exact jE x ae
def BX(o:tp)(v:Value):Value:=.agg #[.bool o.ok,.int .i64 o.a0,v]
def yr:tp:=⟨false,0,[]⟩
def aof:Spec Tryz.prog 62 [] I M λv I' M'=>v=BX yr (.slice none 0 0)/\I'=I/\M'=M:=by refine bN [] aV Tryz.func62 rfl rfl rfl ?_;intro B ar;exact⟨_,_,.refl,rfl,rfl,rfl⟩
def aog(a0:Nat):Spec Tryz.prog 58 [.int .i64 a0] I M λv I' M'=>v=BX ⟨true,a0,[]⟩ (.slice none 0 0)/\I'=I/\M'=M:=by refine bN [] aV Tryz.func58 rfl rfl rfl ?_;intro B ar;exact⟨_,_,.refl,rfl,rfl,rfl⟩
def e'.aoh{P:Program}{E:Env}(aN:c2 P E){t:Nat}(ay:E t=some dk)(dW:dk.bE=.pointer e){p:Option Addr}{V:Value->Prop}
  (h:V (.bool p.isNone)):e' P .eql t x y (.val (.pointer p)) (.val (.pointer none)) V other:=by
 obtain⟨d,fk,ft⟩:=(aN _ _ ay).fi;have ab:d=.pointer e:=by rw[dW]at ft;cases d<;>simp_all[e8]
 subst ab;refine .mk _ _ _ rfl rfl (λw=>?_) h;have az:(eqGuard .eql t x y (.pointer p) (.pointer none)).run P w=.ok () w:=by unfold eqGuard;rfl
 have aE:(Op.equal t (.pointer p) (.pointer none)).run P w=.ok p.isNone w:=by
  have key:∀ d,(Op.equalIn (d+1) t (.pointer p) (.pointer none)).run P w=.ok p.isNone w:=λd=>by cases p<;>simp[Op.equalIn,run_underlying fk]
  exact key 9999
 simp only[cm,az,b3,binOp];simp[aE]
def aoi{g:bJ}(hm:qo g)(e3:∀ d∈g.ds,∀ n∈d.t.ns,0<=n.k){s:ByteArray}(ap:s.size<=4096):Da (jr g s):=by
 have bj:=ON hm e3 (s:=s) (aO:=0) (bw _) ap;have av:(jr g s).ns.length=(xN g s 0).ns.length:=by simp[jr,xN]
 refine⟨λa aC=>?_,bw _,ap⟩;obtain⟨b,ai,rfl⟩:=dA.1 aC;have h:=bj.ns b ai;exact⟨h.k,λx ae=>by rw[av];exact h.cf x ae,h.many,h.one,h.qd,h.len⟩
def v9.abz{g:bJ}{s:ByteArray}{t:d'}{T:Nat->Nat->cv}(h:v9 I g s t T)(hm:qo g)(e3:∀ d∈g.ds,∀ n∈d.t.ns,0<=n.k)(ap:s.size<=4096):tE I t T:=by obtain⟨sg,cg⟩:=XU hm e3 ap;refine⟨h.ok,h.inv,λk b=>by rw[h.P];exact h.all k b,h.n0,λk af=>?_,λk=>by rw[h.P];exact sg k,by rw[h.P];exact aoi hm e3 ap⟩;rw[h.P,h.nn];exact cg k (by rw[<-h.nn];exact af)
inductive u0(P:dw)(k a:Nat)(o:tp)(e:Int):Prop
 |none(h:(cO P k a).aG=0)(aw:o=yr)(he:e=5)| fail (h:(cO P k a).aG=2) (aw:o=yr) (he:e=0)| many (h:(cO P k a).aG=3) (aq:65536<(cO P k a).n) (aw:o=yr) (he:e=40)| is (h:(cO P k a).aG=3) (aq:(cO P k a).n<=65536) (he:e=0) (bj:o.ok=true) (pE:o.a0=(cO P k a).a0) (av:o.rl.length=(cO P k a).n) (au:∃ N,iD P (dX P) N [(k,a)] o.rl) (dr:mX a (cO P k a).a0 o.rl)
def aoj{P:dw}{c:cv}{k a:Nat}(ab:c.aG<=2)(h:c.ce=cO P k a):(c.aG=0/\(cO P k a).aG=0)\/(c.aG=1/\(cO P k a).aG=2)\/(c.aG=2/\(cO P k a).aG=3/\(cO P k a).n=c.n/\(cO P k a).a0=c.a0):=by
 rw[<-h];rcases rp ab with⟨e,bq⟩ | ⟨e,bq⟩ | ⟨e,bq⟩
 ·exact .inl ⟨e,by rw[bq];rfl⟩
 ·exact .inr (.inl ⟨e,by rw[bq];rfl⟩)
 ·exact .inr (.inr ⟨e,by rw[bq];exact⟨rfl,rfl,rfl⟩⟩)
def aok{P:dw}(ai:P.be=0)(bf:P.s.size<=4096)(aq:∀ k,vZ P k){k a:Nat}(aC:a<=P.s.size)(ag:(cO P k a).aG=3):∃ n l,iD P (dX P) n [(k,a)] l/\lZ l (min (cO P k a).n 65537)/\mX a (cO P k a).a0 l:=by have e:dX P k a=lv (cO P k a):=sf aC;obtain⟨n,l,iE,hO,i'⟩:=Xm ai bf aq k a (by rw[e];exact ag);rw[ai,c0]at iE i';rw[e]at hO i';exact⟨n,l,iE,hO,i'⟩
section
variable{I:aZ}{t:d'}{T:Nat->Nat->cv}
def aol(h:tE I t T){k a:Nat}(af:k<t.nn)(aC:a<=t.s.size):Spec Tryz.prog 49 [ptr t.bt,.int .i64 k,.int .i64 a] I [] λv I' M'=>I'=I/\∃ (iM:a') (o:tp) (e:Int),u0 t.P k a o e/\v=.tuple #[BX o iM.val,.int .i64 e]/\iM.ok 3 (o.rl.flatMap fg.cells)/\M'=iM.aP 110:=by
 refine bN [] aV Tryz.func49 rfl rfl rfl ?_;intro B ar;have bj:=h.ok;have df:=bj.sz;have dB:t.n0<t.nn->∀ M:List aB,t.aP T∈M:=λe=>absurd e (by have:=h.n0;omega);obtain⟨eJ,iZ,r,ak,gF,-,k0⟩:=bj.row af;obtain⟨h4,fM,iF⟩:=h.inv.rg k a af aC;have fM:(T k a).a0<=t.s.size:=fM;have dE:=aoj (h.inv.aG k a) (h.all k a);have dS:dX t.P k a=lv (cO t.P k a):=sf (show a<=t.P.s.size from aC);refine aI.mk _ (bj.ha (j:=4) (by decide)) ?_;refine bi.mk eJ k iZ rfl af ?_;refine aI.mk _ (gF _) ?_;refine bi.mk r a rfl rfl (by show a<t.s.size+1;omega) ?_;refine aI.mk _ (k0 _ (λe=>dB e _) a aC) ?_;generalize T k a=c at *;refine aU.mk (λe=>?_) (λe=>?_)
 ·have bq:c.aG=0:=by have:=c1 e;omega
  rcases dE with dE | dE | dE;·exact⟨_,_,.refl,rfl,lu,yr,5,.none dE.2 rfl rfl,rfl,mT 3,rfl⟩
  ·omega
  ·omega
 have cG:c.aG≠0:=by have:=dj e;omega
 refine aU.mk (λe=>?_) (λe=>?_)
 ·have bq:c.aG=1:=by have:=c1 e;omega
  rcases dE with dE | dE | dE;·omega
  ·refine a9.whole _ aof ?_;rintro v I' M' -⟨rfl,rfl,rfl⟩;exact⟨_,_,.refl,rfl,lu,yr,0,.fail dE.2 rfl rfl,rfl,mT 3,rfl⟩
  ·omega
 have az:c.aG≠1:=by have:=dj e;omega
 rcases dE with dE | dE | dE
 ·omega
 ·omega
 obtain⟨-,bI,eQ,j0⟩:=dE;refine aU.mk (λe=>?_) (λe=>?_)
 ·have bq:65536<c.n:=by have:=c1 e;omega
  exact⟨_,_,.refl,rfl,lu,yr,40,.many bI (by omega) rfl rfl,rfl,mT 3,rfl⟩
 have bq:c.n<=65536:=by have:=dj e;omega
 obtain⟨n,l,iE,hO,i'⟩:=aok rfl (show t.P.s.size<=4096 from df) h.na (show a<=t.P.s.size from aC) bI;have jf:l.length=c.n:=by have:=hO.1 (by omega);omega
 refine bd.mk (c.a0:Int) (gK rfl (by omega)) ?_;refine a9.whole _ (aog c.a0) ?_;rintro v I' M' -⟨rfl,rfl,rfl⟩;refine a9.whole _ (an7 h af aC (by rw[dS];exact bI) iE (by omega)) ?_;rintro v I' M' -⟨rfl,iM,rfl,wR,rfl⟩;exact⟨_,_,.refl,rfl,iM,⟨true,c.a0,l⟩,0,.is bI (by omega) rfl rfl j0.symm (by rw[eQ];exact jf) ⟨n,iE⟩ i',rfl,wR,rfl⟩
def tF(n z:Nat)(rule a:Int):Bool:=decide (0<=rule)&&(decide (rule<(n:Int))&&(decide (0<=a)&&decide (a<=(z:Int))))
def aom(h:tE I t T){eJ:Option Addr}{jq:Nat}(HO:t.rv=.slice eJ n jq)(rule a:Int):Spec Tryz.prog 48 [ptr t.bt,.int .i64 rule,.int .i64 a] I M0 λv I' M'=>v=.bool (tF n t.s.size rule a)/\I'=I/\M'=M0:=by
 refine bN [] aV Tryz.func48 rfl rfl rfl ?_;intro B ar;have bj:=h.ok;have nl:t.cE.getD 2 undef=.slice eJ n jq:=HO;have ab:∀ M,cr I M ((⟨t.bt,0,none⟩:Addr).add 2) 1 [.slice eJ n jq]:=λM=>by have:=bj.ha (M:=M) (j:=2) (by decide);rwa [nl]at this
 refine b4.mk (λa3=>?_) (λa3=>?_)
 ·have a3:decide (0<=rule)=true:=a3;refine aI.mk _ (ab _) ?_;refine b4.mk (λa6=>?_) (λa6=>?_)
  ·have a6:decide (rule<(n:Int))=true:=a6;refine b4.mk (λbI=>?_) (λbI=>?_)
   ·have bI:decide (0<=a)=true:=bI;refine aI.mk _ (bj.ha (j:=0) (by decide)) ?_;exact⟨_,_,.refl,by rw[tF,a3,a6,bI];rfl,rfl,rfl⟩
   ·have bI:decide (0<=a)=false:=bI;exact⟨_,_,.refl,by rw[tF,a3,a6,bI];rfl,rfl,rfl⟩
  ·have a6:decide (rule<(n:Int))=false:=a6;exact⟨_,_,.refl,by rw[tF,a3,a6];rfl,rfl,rfl⟩
 ·have a3:decide (0<=rule)=false:=a3;exact⟨_,_,.refl,by rw[tF,a3];rfl,rfl,rfl⟩
def aon{z:Nat}{rule a:Int}(h:tF n z rule a=true):∃ i j:Nat,rule=i/\a=j/\i<n/\j<=z:=by simp only[tF,b',eU]at h;exact⟨rule.toNat,a.toNat,by omega,by omega,by omega,by omega⟩
end
section
variable{I:aZ}{g:bJ}{s:ByteArray}{t:d'}{T:Nat->Nat->cv}
def v9.bD(h:v9 I g s t T)(hm:qo g){i:Nat}(hi:i<g.n)(eH:g.ds.length=g.n):∃ eJ jq,t.rv=.slice eJ g.n jq/\qp g i<t.nn/\∃ ad,eJ=some ad/\∀ M,cr I M (ad.add (i*1)) 1 [.int .i64 (qp g i)]:=by
 obtain⟨eJ,jq,aa,ab⟩:=h.rv;have av:i<(hR 0 g.ds).length:=by rw[Dm];omega
 have e:qp g i=(hR 0 g.ds)[i]:=by simp[qp,cC,av]
 obtain⟨ad,ej,ed⟩:=ab.one (f:=cy) hi av;refine⟨eJ,jq,aa,?_,ad,ej,λM=>by rw[e];exact ed M⟩;have:=Kc 0 g.ds (λd ah=>(hm.r d ah).bD) _ (cJ av);rw[e,h.nn];omega
inductive HP(g:bJ)(s:ByteArray)(rule a:Int)(o:tp)(e:Int):Prop
 |no(h:tF g.n s.size rule a=false)(aw:o=yr)(he:e=1)| is (i j:Nat) (hi:rule=i) (an:a=j) (fK:i<g.n) (nE:j<=s.size) (h:u0 (jr g s) (qp g i) j o e)
def aoo(h:v9 I g s t T)(hm:qo g)(BY:tE I t T)(eH:g.ds.length=g.n)(rule a:Int):Spec Tryz.prog 13 [ptr t.bt,.int .i64 rule,.int .i64 a] I [] λv I' M'=>I'=I/\∃ (iM:a') (o:tp) (e:Int),HP g s rule a o e/\v=.tuple #[BX o iM.val,.int .i64 e]/\iM.ok 3 (o.rl.flatMap fg.cells)/\M'=iM.aP 110:=by
 refine bN [] aV Tryz.func13 rfl rfl rfl ?_;intro B ar;obtain⟨eJ,jq,HO,-⟩:=h.rv;refine e'.aoh aV rfl rfl ?_;refine aU.mk (λe=>by cases e) (λ_=>?_);have LM:=aom BY HO rule a (M0:=[]);rw[h.ts]at LM;refine a9.whole _ LM ?_;rintro v I' M' -⟨rfl,rfl,rfl⟩;refine aU.mk (λe=>?_) (λe=>?_)
 ·have bq:tF g.n s.size rule a=false:=by simpa using e
  exact⟨_,_,.refl,rfl,lu,yr,1,.no bq rfl rfl,rfl,mT 3,rfl⟩
 have bq:tF g.n s.size rule a=true:=by simpa using e
 obtain⟨i,j,rfl,rfl,hi,an⟩:=aon bq;obtain⟨atC,atD,abA,Er,ad,bF,bk⟩:=h.bD hm hi eH;rw[HO]at abA;cases abA;have nl:t.cE.getD 2 undef=.slice eJ g.n jq:=HO;have ab:∀ M,cr I' M ((⟨t.bt,0,none⟩:Addr).add 2) 1 [.slice eJ g.n jq]:=λM=>by have:=BY.ok.ha (M:=M) (j:=2) (by decide);rwa [nl]at this
 refine aI.mk _ (ab _) ?_;refine bi.mk ad i bF rfl hi ?_;refine aI.mk _ (bk _) ?_;refine a9.whole _ (aol BY Er (by rw[h.ts];exact an)) ?_;rintro v ev ez -⟨rfl,iM,o,aE,nC,rfl,wR,rfl⟩;rw[h.P]at nC;exact⟨_,_,.refl,rfl,iM,o,aE,.is i j rfl rfl hi an nC,rfl,wR,rfl⟩
end
section
end
structure RQ(d:aS):Prop where
 kn:d.kn<400
 t:d.t.size<8020
structure LN(t:cB):Prop where
 n:t.n<400
 ns:∀ bT∈t.ns,RQ bT
structure abB(d:aQ):Prop where
 name:d.name.size<8020
 t:LN d.t
structure RR(g:bJ):Prop where
 n:g.n<400
 ds:∀ d∈g.ds,abB d
def vP.HQ(h:vP I d)(ap:RQ d):d.ok I:=
 ⟨h.k,h.dT,h.s1,h.s2,h.ec,h.ts,h.lo,h.hi,h.a8.AZ (by have:=ap.kn;omega),h.aL⟩
def xH.HQ(h:xH I t)(ap:LN t):t.ok I:=
 ⟨h.a8.AZ (by have:=ap.n;omega),λbT cg=>(h.ns bT cg).HQ (ap.ns bT cg),h.bD⟩
def sb.HQ{g:bJ}(h:sb I g)(ap:RR g):g.ok I:=
 ⟨h.a8.AZ (by have:=ap.n;omega),λd ah=>⟨by have:=(ap.ds d ah).name;omega,(h.ds d ah).t.HQ (ap.ds d ah).t⟩⟩
section
end
def aop{p:Prop}(b:X=true)(h:X=false):p:=by rw[b]at h;cases h
def Ew{p:Prop}(b:X=false)(h:X=true):p:=by rw[b]at h;cases h
def a'.aoq(bU:sr I M J){b:Nat}(h:os.ok size xs)(a1:∀ x∈os.aP e,x∈M)(ai:os.n*b<=140737488355328):eB J (os.a.map λg=>⟨g,0,none⟩) os.n os.c size b xs:=by
 obtain⟨a,n,c,aK⟩:=os;cases a with
 |none=>obtain⟨aa,ab⟩:=h.nil rfl;exact⟨h.len,⟨by simp only at aa ab |-;omega,ai⟩,.inl aa⟩
 |some g=>obtain⟨aa,ab,ag,aW⟩:=h.cap g rfl;exact⟨h.len,⟨ab,ai⟩,.inr ⟨⟨g,0,none⟩,rfl,rfl,aK.toArray,e,(0,0),bU.kn _ _ (.inr ⟨⟨g,.cells aK.toArray e (0,0)⟩,a1 _ (.head _),rfl,rfl⟩),by simpa using aW⟩⟩
def LO(v:α)(x:R)(f:α->R):bX (some v) x f=f v:=rfl
def aor(l cR:List UInt8)(a b bY hb:Int):m8 Tryz.prog hL 8 110 (.a [.s l,.i .i64 a,.i .i64 b]) (.a [.s cR,.i .i64 bY,.i .i64 hb])=some (qx l cR&&(my a bY&&my b hb)):=by
 obtain⟨i36,aos,aot⟩:∃ i,hL 110=some i/\i.bE=.struct [(9,0),(3,1),(3,2)]:=⟨_,rfl,rfl⟩;obtain⟨i9,fe,aou⟩:∃ i,hL 9=some i/\i.bE=.string:=⟨_,rfl,rfl⟩;obtain⟨i3,ag,vD⟩:∃ i,hL 3=some i/\i.bE=.int .i64:=⟨_,rfl,rfl⟩;have aD:PD Tryz.prog 110=true:=by kernel_rfl
 have aM:∀ k a b,m8 Tryz.prog hL (k+1) 3 (.i .i64 a) (.i .i64 b)=some (my a b):=λk a b=>by simp only[m8,ag,LO,vD];rfl
 have ai:∀ k a b,m8 Tryz.prog hL (k+1) 9 (.s a) (.s b)=some (qx a b):=λk a b=>by simp only[m8,fe,LO,aou]
 rw[m8];simp only[aos,LO,aot,aD];have wD:∀ mU fB fC,uI hL 9 0 [.s mU,fB,fC]=some (.s mU):=λ_ _ _=>rfl;have po:∀ mU fB fC,uI hL 3 1 [mU,.i .i64 fB,fC]=some (.i .i64 fB):=λ_ _ _=>rfl;have pq:∀ mU fB fC,uI hL 3 2 [mU,fB,.i .i64 fC]=some (.i .i64 fC):=λ_ _ _=>rfl;simp only[we,wD,po,pq,LO,aM,ai,js];cases qx l cR<;>cases my a bY<;>cases my b hb<;>rfl
def Ex(x y:fg):Bool:=qx x.name.data.toList y.name.data.toList&&(my x.lo y.lo&&my x.hi y.hi)
def abC(x y:fg):Ex x y=true ↔ x=y:=by
 obtain⟨⟨⟨n⟩⟩,l,h⟩:=x;obtain⟨⟨⟨eO⟩⟩,cR,aX⟩:=y;unfold Ex;rw[By,yb,yb];simp only[b',eU,fg.mk.injEq,Mn,Array.mk.injEq];constructor
 ·rintro⟨aa,ab,ag⟩;exact⟨aa,by omega,by omega⟩
 ·rintro⟨aa,ab,ag⟩;exact⟨aa,by omega,by omega⟩
def fg.abD(D:bH)(x:fg):bG D [.s x.name.data.toList,.i .i64 x.lo,.i .i64 x.hi] x.cells:=by simp[bG,aT,fg.cells]
def e'.aov{p q:fg}{V:Value->Prop}(h:V (.bool (!Ex p q))) :
  e' Tryz.prog .neq 110 x y (.val (.agg #[.string p.name,.int .i64 p.lo,.int .i64 p.hi])) (.val (.agg #[.string q.name,.int .i64 q.lo,.int .i64 q.hi])) V other:=by
 refine K1 (X:=⟨Tryz.prog,hL,[],0,0,default,λ_=>none,[],none⟩) (D:=λ_=>none) (v:=.b (!Ex p q)) aV ?_ (fg.abD _ p) (fg.abD _ q) (λu hu=>by simp only[aT]at hu;rw[hu];exact h);show x7 Tryz.prog hL .neq 110 _ _=_;unfold x7;rw[aor,show Tryz.prog.eqGuardType Tryz.prog.depth 110=false by kernel_rfl];rfl
def aow{l m:List α}{k:Nat}(av:k<l.length)(hm:k<m.length)(h:l.take k=m.take k)(e:l[k]=m[k]):l.take (k+1)=m.take (k+1):=by rw[gf av,gf hm,h,e]
def aox{l m:List α}{k:Nat}(av:k<l.length)(hm:k<m.length)(e:¬ l[k]=m[k]):¬ l=m:=λh=>by subst h;exact e rfl
def aoy{a:Option Addr}{c b hb:Nat}{l cR:List fg}(h:eB I a n c 3 b (l.flatMap fg.cells))(aX:eB I bY eO c' 3 hb (cR.flatMap fg.cells))(ai:n<=140737488355327):Spec Tryz.prog 52 [.slice a n c,.slice bY eO c'] I M0 λv I' M'=>(∃ r,v=.bool r/\(r=true ↔ l=cR))/\I'=I/\M'=M0:=by
 refine bN [] aV Tryz.func52 rfl rfl rfl ?_;intro B ar;have av:l.length=n:=by have:=h.len;rw[fQ _ 3 fg.cD]at this;omega
 have kd:cR.length=eO:=by have:=aX.len;rw[fQ _ 3 fg.cD]at this;omega
 by_cases aq:n=eO
 rotate_left
 ·refine aU.mk (λ_=>?_) (λh=>absurd h (by simp;omega));exact⟨_,_,.refl,⟨false,rfl,λe=>(by cases e),λe=>absurd (by rw[<-av,<-kd,e]) aq⟩,rfl,rfl⟩
 subst aq;refine aU.mk (λh=>absurd h (by simp)) (λ_=>?_);refine c4.inv (ι:=Nat) (λk=>{ bu:=[(0,.val (.slice a n c)),(1,.val (.slice bY n c')),(12,.val (.int .i64 n)),(13,.val (.int .i64 k))],cS:=I,db:=M0 }) (λk=>k<=n/\l.take k=cR.take k) (λk=>n-k) ?_ ?_
 ·exact⟨0,⟨bw _,rfl⟩,.refl,ey,.nil⟩
 rintro k⟨af,ay⟩;refine aU.mk (λab=>?_) (λab=>?_)
 ·have aR:k<n:=by have:(k:Int)<(n:Int):=c1 ab;omega
  have cw:k<l.length:=by omega
  have j2:k<cR.length:=by omega
  obtain⟨ad,bF,bk⟩:=h.row fg.cD aR cw;obtain⟨vo,ys,oO⟩:=aX.row fg.cD aR j2;have hex:=aow cw j2 ay;have bK:=aox cw j2;generalize l[k]=x at bk hex bK;generalize cR[k]=y at oO hex bK;refine c5.draw aV rfl rfl rfl ?_;refine bi.mk ad k bF rfl aR ?_;refine aI.mk _ (bk _) ?_;refine bi.mk vo k ys rfl aR ?_;refine aI.mk _ (oO _) ?_;refine e'.aov (p:=x) (q:=y) ?_;refine aU.mk (λe=>?_) (λe=>?_);·have aE:(!Ex x y)=true:=e;rw[oX,<-Bool.not_eq_true,abC]at aE;exact⟨_,_,.refl,⟨false,rfl,λe=>(by cases e),λe=>absurd e (bK aE)⟩,rfl,rfl⟩
  ·have aE:(!Ex x y)=false:=e;rw[CU,abC]at aE;refine bd.mk _ (cx (i:=k) (by omega)) ?_;exact⟨k+1,⟨⟨aR,hex aE⟩,by omega⟩,.refl,ey,.nil⟩
 ·have cP:k=n:=by have:¬ (k:Int)<(n:Int):=dj ab;omega
  subst cP;rw[eW (by omega),eW (by omega)]at ay;exact⟨_,_,.refl,⟨true,rfl,λ_=>ay,λ_=>rfl⟩,rfl,rfl⟩
def aoz{a:Option Addr}{c:Nat}(h:eB I a n c 3 0 (o.rl.flatMap fg.cells))(aX:eB I bY eO c' 3 0 (o'.rl.flatMap fg.cells))(ai:n<=140737488355327) :
  Spec Tryz.prog 18 [BX o (.slice a n c),BX o' (.slice bY eO c')] I M0 λv I' M'=>(∃ r,v=.bool r/\(r=true ↔ o=o'))/\I'=I/\M'=M0:=by
 refine bN [] aV Tryz.func18 rfl rfl rfl ?_;intro B ar;obtain⟨k,a0,l⟩:=o;obtain⟨dJ,Et,cR⟩:=o';refine b4.mk (λaz=>?_) (λaz=>?_)
 rotate_left
 ·have aE:k≠dJ:=λe=>by subst e;simp at az
  exact⟨_,_,.refl,⟨false,rfl,λe=>(by cases e),λe=>absurd (congrArg tp.ok e) aE⟩,rfl,rfl⟩
 have aE:k=dJ:=by simpa using az
 refine b4.mk (λbz=>?_) (λbz=>?_)
 rotate_left
 ·have cT:a0≠Et:=λe=>by subst e;simp at bz
  exact⟨_,_,.refl,⟨false,rfl,λe=>(by cases e),λe=>absurd (congrArg tp.a0 e) cT⟩,rfl,rfl⟩
 have cT:a0=Et:=by have:(a0:Int)=(Et:Int):=c1 bz;omega
 refine a9.whole _ (aoy h aX ai) ?_;rintro v I' M' -⟨⟨r,rfl,ak⟩,rfl,rfl⟩;refine⟨_,_,.refl,⟨r,rfl,?_⟩,rfl,rfl⟩;rw[ak];simp[aE,cT]
section
end
section
section
end
end
section
end
def aoA{l:List fg}{a:Option Addr}{c:Nat}(h:eB I a n c 3 0 (l.flatMap fg.cells)):l.length=n:=by have:=h.len;rw[fQ _ 3 fg.cD]at this;omega
section
section
end
section
end
end
def HP.zZ{g:bJ}{s:ByteArray}{i j:Nat}{e:Int}(hi:i<g.n)(an:j<=s.size)(ay:HP g s i j o e):u0 (jr g s) (qp g i) j o e:=by
 have LM:tF g.n s.size i j=true:=by simp only[tF,b',eU];omega
 cases ay with
 |no h aw he=>rw[LM]at h;cases h
 |is i2 hO hV lO _ _ h=>
  obtain rfl:i=i2:=by omega
  obtain rfl:j=hO:=by omega
  exact h
def abE{g:bJ}{s:ByteArray}{t:d'}{T:Nat->Nat->cv}(h:v9 I g s t T)(hm:qo g)(BY:tE I t T)(eH:g.ds.length=g.n)(rule a:Int)(aA:∀ o e,HP g s rule a o e->o.rl.length<=65536) :
  Spec Tryz.prog 13 [ptr t.bt,.int .i64 rule,.int .i64 a] I M0 λv I' M'=>(∀ b o,I b=some o->I' b=some o)/\M'=M0/\∃ (bY:Option Addr) (n c:Nat) (o:tp) (e:Int),HP g s rule a o e/\v=.tuple #[BX o (.slice bY n c),.int .i64 e]/\eB I' bY n c 3 0 (o.rl.flatMap fg.cells):=by
 refine Spec.nT (Spec.frame (Spec.ig (aoo h hm BY eH rule a))) ?_;rintro v J M⟨M',rfl,-,bM,rfl,-,I',M1,⟨rfl,os,o,e,aw,rfl,ca,rfl⟩,bU⟩;exact⟨bM,rfl,os.a.map λg=>⟨g,0,none⟩,os.n,os.c,o,e,aw,rfl,a'.aoq bU ca (λ_ h=>h) (by omega)⟩
def u0.rl{P:dw}{k a:Nat}{e:Int}(h:u0 P k a o e):o.rl.length<=65536:=by
 cases h with
 |none h aw he=>rw[aw];exact bw _| fail h aw he=>rw[aw];exact bw _| many h aq aw he=>rw[aw];exact bw _| is h aq he bj pE av=>omega
def HR{g:bJ}(h:dF ax g=0):g.n<=64:=by
 unfold dF at h;cases aa:decide ((g.n:Int)=0)with
 |true=>rw[aa]at h;simp at h
 |false=>
  rw[aa,bh]at h;cases ab:ow g.ds with
  |false=>rw[ab]at h;simp at h
  |true=>
   rw[ab]at h;cases ag:nF ax g with
   |true=>rw[ag]at h;simp at h| false=>unfold nF at ag;simp only[oa,nr]at ag;omega
def abF{A:Nat->List Nat}{n:Nat}{dd:List Nat}(iw:∀ x,∀ y∈A x,y<n):∀ (f k:Nat) (l:List Nat),tD A n k dd l->n+1<=f+k->tD A n (Ep A f k l).length dd (Ep A f k l)
 |0,k,l,h,aJ=>by have:=h.len;have:=h.k;omega
 |f+1,k,l,h,aJ=>by
  rw[Ep];cases ae:l[k]? with
  |none=>
   have aa:k=l.length:=by have:=h.k;have:=List.getElem?_eq_none_iff.1 ae;omega
   subst aa;exact h
  |some x=>exact abF iw f (k+1) _ (h.next iw ae) (by omega)
def l6.congr{B:Nat->List Nat}(h:∀ i k,k∈A i->k∈B i){i k:Nat}(aA:l6 A i k):l6 B i k:=by
 induction aA with
 |one aa=>exact .one (h _ _ aa)| step aa t a7=>exact .step (h _ _ aa) a7
def abG{g:bJ}(a1:vV g){i k:Nat}:k∈pP g.ds F i ↔ k∈kB g.ds F i:=by
 unfold pP;rw[sD];constructor
 ·rintro⟨-,h⟩;simpa using h
 ·intro h;exact⟨by simpa using RB a1 i k h,by simpa using h⟩
def aoB{g:bJ}(a1:vV g){i k:Nat}:l6 (pP g.ds F) i k ↔ l6 (kB g.ds F) i k:=
 ⟨l6.congr λ_ _ h=>(abG a1).1 h,l6.congr λ_ _ h=>(abG a1).2 h⟩
def abH{ds:List aQ}{i k:Nat}(h:k∈pP ds F i):k<ds.length:=by unfold pP at h;simpa using(sD.1 h).1
def aoC(ds:List aQ)(F:List a2)(i:Nat):(pP ds F i).Nodup:=List.Nodup.sublist MV Mp
def tD.start{ds:List aQ}(i:Nat):tD (pP ds F) ds.length 0 (pP ds F i) (pP ds F i):=
 ⟨aoC ds F i,λx ae=>abH ae,λ_ h=>h,λ_ h=>.inl h,λj x an=>absurd an (wy _),bw _⟩
def BZ(ds:List aQ)(F:List a2):List Nat:=(List.range ds.length).filter λi=>(Ep (pP ds F) (ds.length+1) 0 (pP ds F i)).contains i
open Classical in
def aoD{g:bJ}(a1:vV g)(F:List a2):BZ g.ds F=pQ g.ds F:=by
 unfold BZ pQ;refine ES λi _=>?_;have aa:=abF (λx y aF=>abH aF) (g.ds.length+1) 0 _ (tD.start (ds:=g.ds) (F:=F) i) (by omega);have ab:=(aa.done i).trans (aoB a1);cases aA:(Ep (pP g.ds F) (g.ds.length+1) 0 (pP g.ds F i)).contains i with
 |true=>exact(eN (ab.1 (by simpa using aA))).symm| false=>refine(de λh=>?_).symm;have:=ab.2 h;rw[<-List.contains_iff_mem,aA]at this;cases this
open Classical in
noncomputable def LP(ds:List aQ):List a2:=if h:∃ F,k3 ds F then h.choose else []
def RS{ds:List aQ}(h:k3 ds F):LP ds=F:=by have ae:∃ F,k3 ds F:=⟨F,h⟩;unfold LP;rw[dif_pos ae];exact ae.choose_spec.unique h
def RT{g:bJ}(h:dF ax g=0):0<g.n:=by
 rcases Nat.eq_zero_or_pos g.n with e | e
 ·unfold dF at h;rw[e]at h;simp at h
 ·exact e
def tG(ax:List Int)(g:bJ)(r:Int×Int):Prop:=(dF ax g≠0/\r=(0,dF ax g))\/(dF ax g=0/\∃ F,k3 g.ds F/\r=if 0<(pQ g.ds F).length then((((pQ g.ds F).headD 0:Nat):Int),42)else if 0<(nW g.ds F).length then((((nW g.ds F).headD 0:Nat):Int),43)else(0,0))
def tG.eq{g:bJ}{l m:Int×Int}(h:tG ax g l)(aX:tG ax g m):l=m:=by
 rcases h with⟨a,rfl⟩ | ⟨a,F,d,rfl⟩<;>rcases aX with⟨bY,rfl⟩ | ⟨bY,cH,A9,rfl⟩
 ·rfl
 ·exact absurd bY a
 ·exact absurd a bY
 ·rw[d.unique A9]
def aoE(bp:e4 I ax){g:bJ}(au:g.ok I)(jc:∀ d∈g.ds,mB d.t):Spec Tryz.prog 50 [g.val] I [] λv I' M'=>(∀ b o,I b=some o->I' b=some o)/\M'=[] /\ ∃ r:Int×Int,v=.tuple #[.int .i64 r.1,.int .i64 r.2]/\tG ax g r:=
 Spec.nT (anp bp au jc HR) λv I' M' h=>by
  obtain⟨aa,ab,r,ag,bC⟩:=h;refine⟨aa,ab,r,ag,?_⟩;rcases bC with bC | ⟨hm,F,c,d⟩;·exact .inl bC
  ·have a1:=J7 au.n hm;have iK:=HR hm;have eH:=au.n;refine .inr ⟨hm,F,c,?_⟩;rw[d,HI,cb (by simp),anD a1 (by omega),anB au a1 (by omega)]
def aoF(bp:e4 I ax){g:bJ}(au:g.ok I)(jc:∀ d∈g.ds,mB d.t):Spec Tryz.prog 15 [g.val] I [] λv I' M'=>(∀ b o,I b=some o->I' b=some o)/\M'=[] /\
  ∃ r:Int×Int,v=.int .i64 r.2/\tG ax g r:=by
 refine bN [] aV Tryz.func15 rfl rfl rfl ?_;intro B ar;refine a9.mk [] [] _ (.refl _) (aoE bp au jc) ?_;rintro v cU N -⟨bO,rfl,r,rfl,h⟩;exact⟨_,_,.refl,bO,rfl,r,rfl,h⟩
section
end
structure rF where
 k:Int
 dT:Int
 s1:Int
 s2:Int
 ec:Int
 t:List UInt8
 lo:Int
 hi:Int
 aL:List Int
def rF.bT(c:rF)(a:Option Addr)(n k:Nat):aS:=⟨c.k,c.dT,c.s1,c.s2,c.ec,⟨c.t.toArray⟩,c.lo,c.hi,a,n,k,c.aL⟩
inductive yt:List rF->List aS->Prop
 |nil:yt [] []| cons {c cs ns} (a:Option Addr) (n k:Nat) (t:yt cs ns):yt (c::cs) (c.bT a n k::ns)
structure wS where
 ns:List rF
 bD:Int
structure HS(c:wS)(t:cB):Prop where
 ns:yt c.ns t.ns
 bD:t.bD=c.bD
structure hG where
 name:List UInt8
 t:wS
inductive oS:List hG->List aQ->Prop
 |nil:oS [] []| cons {c cs ds} {t:cB} (h:HS c.t t) (k:oS cs ds):oS (c::cs) (⟨⟨c.name.toArray⟩,t⟩::ds)
def abI:Int->Bool
 | .ofNat k=>Nat.ble k 9223372036854775807| .negSucc k=>Nat.ble k 9223372036854775807
def abJ:Int->Bool
 | .ofNat k=>Nat.ble k 18446744073709551615| .negSucc _=>false
def okB:Int->Bool
 | .ofNat k=>Nat.ble k 255| .negSucc _=>false
def aoG{x:Int}(h:abI x=true):iT x:=by
 cases x with
 |ofNat k=>have:=bS h;exact⟨by simp only[CQ];omega,by simp only[CQ];omega⟩| negSucc k=>have:=bS h;exact⟨by omega,by omega⟩
def aoH{x:Int}(h:abJ x=true):gi x:=by
 cases x with
 |ofNat k=>have:=bS h;exact⟨by simp,by simp;omega⟩| negSucc k=>cases h
def aoI{x:Int}(h:okB x=true):0<=x/\x<256:=by
 cases x with
 |ofNat k=>have:=bS h;exact⟨by simp,by simp;omega⟩| negSucc k=>cases h
noncomputable def RU:ao->Option Int
 | .i .u8 n=>b5 (okB n) (some n) none| _=>none
noncomputable def Ey:ao->Option Int
 | .i .u64 n=>b5 (abJ n) (some n) none| _=>none
noncomputable def Ez:ao->Option Int
 | .i .i64 n=>b5 (abI n) (some n) none| _=>none
noncomputable def LQ:ao->Option (List UInt8)
 | .s l=>b5 (Nat.ble l.length 140737488355328) (some l) none| _=>none
section
variable{D:bH}{v:ao}{u:Value}
def aoJ{n:Int}(h:RU v=some n)(aj:aT D v u):u=.int .u8 n/\0<=n/\n<256:=by
 unfold RU at h;split at h
 ·obtain⟨aa,ab⟩:=fw h;cases ab;simp only[aT]at aj;exact⟨aj,aoI aa⟩
 ·cases h
def LR{n:Int}(h:Ey v=some n)(aj:aT D v u):u=.int .u64 n/\gi n:=by
 unfold Ey at h;split at h
 ·obtain⟨aa,ab⟩:=fw h;cases ab;simp only[aT]at aj;exact⟨aj,aoH aa⟩
 ·cases h
def LS{n:Int}(h:Ez v=some n)(aj:aT D v u):u=.int .i64 n/\iT n:=by
 unfold Ez at h;split at h
 ·obtain⟨aa,ab⟩:=fw h;cases ab;simp only[aT]at aj;exact⟨aj,aoG aa⟩
 ·cases h
def abK{l:List UInt8}(h:LQ v=some l)(aj:aT D v u):u=.string ⟨l.toArray⟩/\(⟨l.toArray⟩:ByteArray).size<=140737488355328:=by
 unfold LQ at h;split at h
 ·obtain⟨aa,ab⟩:=fw h;cases ab;simp only[aT]at aj;exact⟨aj,bS aa⟩
 ·cases h
end
noncomputable def HT{R:Type}(G:GT)(m:bg e0)(x:ao)(size b:Nat)(K:List ao->Option R):Option R:=match x with
 | .sn=>K []| .so=>K []| .sl id off n c=>b5 (Nat.ble n c) (b5 (Nat.ble (Nat.mul n b) 140737488355328) (tv G m (.p id off) (Nat.mul n size) K) none) none| .sx id off e n=>b5 (Nat.ble (Nat.mul n b) 140737488355328) (tv G m (.p id off) (Nat.mul n size) K) none| _=>none
noncomputable def ints:List ao->Option (List Int)
 |[]=>some []| v::l=>bX (Ez v) none λn=>bX (ints l) none λr=>some (n::r)
noncomputable def LU(G:GT)(m:bg e0):List ao->Option (List rF)
 |[]=>some []
 |a::b::c::d::e::f::g::h::x::l=>bX (RU a) none λa=>bX (Ey b) none λb=>bX (Ey c) none λc=>bX (Ey d) none λd=>bX (Ey e) none λe=>bX (LQ f) none λf=>bX (Ez g) none λg=>bX (Ez h) none λh=>
  bX (HT G m x 1 8 ints) none λks=>bX (LU G m l) none λns=>some (⟨a,b,c,d,e,f,g,h,ks⟩::ns)
 |_=>none
noncomputable def RV(G:GT)(m:bg e0)(x r:ao):Option wS:=bX (HT G m x 9 96 (LU G m)) none λns=>bX (Ez r) none λr=>some ⟨ns,r⟩
noncomputable def LV(G:GT)(m:bg e0):List ao->Option (List hG)
 |[]=>some []| a::x::r::l=>bX (LQ a) none λa=>bX (RV G m x r) none λt=>bX (LV G m l) none λds=>some (⟨a,t⟩::ds)
 |_=>none
noncomputable def RW(G:GT)(m:bg e0):ao->Option (List hG)
 | .a [x]=>HT G m x 3 48 (LV G m)| _=>none
section
variable{Y:gz}{D:bH}{m:bm}{I J:aZ}{M:List aB}
def RX(h:dc Y D m I M)(bM:sr I M J){x:ao}(ae:aT D x u){b:Nat}{K:List ao->Option R}{r:R}(ak:HT Y.G m.t x size b K=some r) :
  ∃ a n c l vs,u=.slice a n c/\eB J a n c size b vs/\bG D l vs/\K l=some r:=by
 unfold HT at ak;split at ak
 ·simp only[aT]at ae;exact⟨none,0,0,[],[],ae,⟨by simp,⟨cj _,by omega⟩,.inl rfl⟩,by simp[bG],ak⟩
 ·simp only[aT]at ae;obtain⟨a,c,ae⟩:=ae;exact⟨some a,0,c,[],[],ae,⟨by simp,⟨bw _,by omega⟩,.inl rfl⟩,by simp[bG],ak⟩
 ·rename_i id off n c;obtain⟨aa,ak⟩:=fw ak;obtain⟨ab,ak⟩:=fw ak;simp only[aT]at ae;obtain⟨a,aC,ae⟩:=ae;obtain⟨ad,l,vs,az,aE,bz,cT⟩:=wq h (x:=.p id off) (u:=.pointer (some ⟨a.b,a.o+off,none⟩)) (by simp only[aT];exact⟨a,aC,rfl⟩) ak;cases az;obtain⟨a3,cs,T,f,a6,bI,eQ⟩:=aE;exact⟨_,n,c,l,vs,ae,⟨eQ,⟨bS aa,bS ab⟩,.inr ⟨_,rfl,rfl,cs,T,f,bM.kn _ _ a6,bI⟩⟩,bz,cT⟩
 ·rename_i id off e n;obtain⟨ab,ak⟩:=fw ak;simp only[aT]at ae;obtain⟨a,aC,aA,ae⟩:=ae;obtain⟨ad,l,vs,az,aE,bz,cT⟩:=wq h (x:=.p id off) (u:=.pointer (some ⟨a.b,a.o+off,none⟩)) (by simp only[aT];exact⟨a,aC,rfl⟩) ak;cases az;obtain⟨a3,cs,T,f,a6,bI,eQ⟩:=aE;exact⟨_,n,a.c-e,l,vs,ae,⟨eQ,⟨by omega,bS ab⟩,.inr ⟨_,rfl,rfl,cs,T,f,bM.kn _ _ a6,bI⟩⟩,bz,cT⟩
 ·cases ak
def abL:∀ {l:List ao} {vs:List Value} {ks:List Int},ints l=some ks->bG D l vs->vs=ks.map (Value.int .i64 ·)/\∀ x∈ks,iT x
 |[],vs,ks,h,aj=>by cases h;simp only[bG]at aj;exact⟨aj,by simp⟩
 |v::l,vs,ks,h,aj=>by unfold ints at h;obtain⟨n,aa,h⟩:=ct h;obtain⟨r,ab,h⟩:=ct h;cases h;simp only[bG]at aj;obtain⟨x,xs,a3,a6,rfl⟩:=aj;obtain⟨rfl,az⟩:=LS aa a3;obtain⟨rfl,aE⟩:=abL ab a6;exact⟨rfl,λx ae=>(ef.1 ae).elim (λe=>e ▸ az) (aE x)⟩
def abM(h:dc Y D m I M)(bM:sr I M J):∀ (l:List ao) {vs:List Value} {cs:List rF},LU Y.G m.t l=some cs->bG D l vs->∃ ns:List aS,vs=ns.flatMap aS.cells/\yt cs ns/\∀ d∈ns,d.ok J
 |[],vs,cs,ak,aj=>by cases ak;simp only[bG]at aj;exact⟨[],aj,.nil,by simp⟩
 |a::b::c::d::e::f::g::i::x::l,vs,cs,ak,aj=>by
  unfold LU at ak;obtain⟨bY,aa,ak⟩:=ct ak;obtain⟨hb,ab,ak⟩:=ct ak;obtain⟨c',ag,ak⟩:=ct ak;obtain⟨A9,aW,ak⟩:=ct ak;obtain⟨bq,bC,ak⟩:=ct ak;obtain⟨f',bP,ak⟩:=ct ak;obtain⟨dv,eo,ak⟩:=ct ak;obtain⟨fx,fo,ak⟩:=ct ak;obtain⟨ks,fe,ak⟩:=ct ak;obtain⟨atE,pi,ak⟩:=ct ak;cases ak;simp only[bG]at aj;obtain⟨_,_,eg,⟨_,_,cA,⟨_,_,gu,⟨_,_,jG,⟨_,_,v0,⟨_,_,Dx,⟨_,_,Dy,⟨_,_,Dz,⟨_,_,aoK,aoL,rfl⟩,rfl⟩,rfl⟩,rfl⟩,rfl⟩,rfl⟩,rfl⟩,rfl⟩,rfl⟩:=aj;obtain⟨rfl,az⟩:=aoJ aa eg;obtain⟨rfl,aE⟩:=LR ab cA;obtain⟨rfl,bz⟩:=LR ag gu;obtain⟨rfl,cT⟩:=LR aW jG;obtain⟨rfl,fT⟩:=LR bC v0;obtain⟨rfl,hD⟩:=abK bP Dx;obtain⟨rfl,m1⟩:=LS eo Dy;obtain⟨rfl,nM⟩:=LS fo Dz;obtain⟨hk,kn,gR,li,atF,rfl,tA,aoM,aoN⟩:=RX h bM aoK fe;obtain⟨rfl,aoO⟩:=abL aoN aoM;obtain⟨ns,rfl,aoP,aoQ⟩:=abM h bM l pi aoL;refine⟨rF.bT ⟨bY,hb,c',A9,bq,f',dv,fx,ks⟩ hk kn gR::ns,rfl,.cons hk kn gR aoP,λy aF=>?_⟩;rcases ef.1 aF with rfl | aF;·exact⟨az,aE,bz,cT,fT,lg hD (by decide),m1,nM,tA,aoO⟩
  ·exact aoQ y aF
def aoR(h:dc Y D m I M)(bM:sr I M J){x r:ao}{w:Value}{c:wS}(ak:RV Y.G m.t x r=some c)(ae:aT D x u)(hw:aT D r w):∃ t:cB,u=.slice t.a t.n t.c/\w=.int .i64 t.bD/\t.ok J/\HS c t:=by unfold RV at ak;obtain⟨ns,aa,ak⟩:=ct ak;obtain⟨k,ab,ak⟩:=ct ak;cases ak;obtain⟨rfl,az⟩:=LS ab hw;obtain⟨a,n,c,l,vs,rfl,aE,bz,cT⟩:=RX h bM ae aa;obtain⟨ds,rfl,fT,hD⟩:=abM h bM l cT bz;exact⟨⟨ds,a,n,c,k⟩,rfl,rfl,⟨aE,hD,az⟩,⟨fT,rfl⟩⟩
def abN(h:dc Y D m I M)(bM:sr I M J):∀ (l:List ao) {vs:List Value} {cs:List hG},LV Y.G m.t l=some cs->bG D l vs->∃ ds:List aQ,vs=ds.flatMap aQ.cells/\oS cs ds/\∀ d∈ds,d.ok J
 |[],vs,cs,ak,aj=>by cases ak;simp only[bG]at aj;exact⟨[],aj,.nil,by simp⟩
 |a::x::r::l,vs,cs,ak,aj=>by
  unfold LV at ak;obtain⟨bY,aa,ak⟩:=ct ak;obtain⟨cZ,ab,ak⟩:=ct ak;obtain⟨cX,ag,ak⟩:=ct ak;cases ak;simp only[bG]at aj;obtain⟨_,_,eg,⟨_,_,cA,⟨_,_,gu,jG,rfl⟩,rfl⟩,rfl⟩:=aj;obtain⟨rfl,az⟩:=abK aa eg;obtain⟨t,rfl,rfl,aE,bz⟩:=aoR h bM ab cA gu;obtain⟨ds,rfl,cT,fT⟩:=abN h bM l ag jG;refine⟨⟨⟨bY.toArray⟩,t⟩::ds,rfl,.cons (c:=⟨bY,cZ⟩) bz cT,λy aF=>?_⟩;rcases ef.1 aF with rfl | aF;·exact⟨az,aE⟩
  ·exact fT y aF
def aoS(h:dc Y D m I M)(bM:sr I M J){x:ao}{cs:List hG}(ak:RW Y.G m.t x=some cs)(ae:aT D x u):∃ g:bJ,u=g.val/\g.ok J/\oS cs g.ds:=by
 unfold RW at ak;split at ak
 ·simp only[aT,bG]at ae;obtain⟨_,⟨y,_,ae,rfl,rfl⟩,rfl⟩:=ae;obtain⟨a,n,c,l,vs,rfl,aE,bz,cT⟩:=RX h bM ae ak;obtain⟨ds,rfl,fT,hD⟩:=abN h bM l cT bz;exact⟨⟨ds,a,n,c⟩,rfl,⟨aE,hD⟩,fT⟩
 ·cases ak
end
noncomputable def pR(f g:Nat)(text:List UInt8):Option (List hG×Int×IntKind×Int):=bX (zC yj (lz yj f) g [.s text] ⟨.nil,0⟩) none λp=>match p.1 with
 | .t [x,.i .i64 a,.i k e]=>bX (RW Lk p.2.t x) none λc=>some (c,a,k,e)
 |_=>none
def aoT(bp:e4 I gb){f g:Nat}{text:List UInt8}{c:List hG}{a:Int}{k:IntKind}{e:Int}(h:pR f g text=some (c,a,k,e)) :
  Spec Tryz.prog g [.string ⟨text.toArray⟩] I [] λr J nw=>nw=[]/\(∀ b o,I b=some o->J b=some o)/\∃ G:bJ,r=.tuple #[G.val,.int .i64 a,.int k e]/\G.ok J/\oS c G.ds:=by
 unfold pR at h;obtain⟨⟨v,m'⟩,aa,h⟩:=ct h;refine Spec.nT (amr bp aa (us:=[.string ⟨text.toArray⟩]) (by simp[bG,aT])) ?_;rintro r J nw⟨rfl,bs,I',M',bx,aj,hm,bM⟩;refine⟨rfl,bs,?_⟩;simp only at h;split at h
 ·obtain⟨c',ab,h⟩:=ct h;cases h;simp only[aT,bG]at aj;obtain⟨_,⟨u,_,hu,⟨_,_,rfl,⟨_,_,rfl,rfl,rfl⟩,rfl⟩,rfl⟩,rfl⟩:=aj;obtain⟨G,rfl,a3,a6⟩:=aoS hm bM ab hu;exact⟨G,rfl,a3,a6⟩
 ·cases h
def rF.pl(c:rF):aS:=c.bT none 0 0
def wS.RY(c:wS):cB:=⟨c.ns.map rF.pl,none,c.ns.length,0,c.bD⟩
def hG.RZ(c:hG):aQ:=⟨⟨c.name.toArray⟩,c.t.RY⟩
def gB(cs:List hG):bJ:=⟨cs.map hG.RZ,none,cs.length,0⟩
def yt.ba{cs:List rF}{ns:List aS}(h:yt cs ns):ns.map aS.ba=cs.map rF.pl:=by
 induction h with
 |nil=>rfl| cons a n k t a7=>rw[cY,cY,a7];rfl
def yt.len{cs:List rF}{ns:List aS}(h:yt cs ns):ns.length=cs.length:=by
 induction h with
 |nil=>rfl| cons a n k t a7=>simp[a7]
def HS.ba{c:wS}(h:HS c t)(ay:t.ok I):t.ba=c.RY:=by unfold cB.ba wS.RY;rw[h.ns.ba,h.bD,<-ay.n,h.ns.len]
def oS.ba{cs:List hG}{ds:List aQ}(h:oS cs ds)(ah:∀ d∈ds,d.ok I):ds.map aQ.ba=cs.map hG.RZ:=by
 induction h with
 |nil=>rfl| cons h k a7=>rw[cY,cY,a7 λd hd=>ah d (.tail _ hd)];congr 1;unfold aQ.ba hG.RZ;rw[h.ba (ah _ (.head _)).t]
def oS.len{cs:List hG}{ds:List aQ}(h:oS cs ds):ds.length=cs.length:=by
 induction h with
 |nil=>rfl| cons h k a7=>simp[a7]
def z0{cs:List hG}{g:bJ}(h:oS cs g.ds)(au:g.ok I):g.ba=gB cs:=by unfold bJ.ba gB;rw[h.ba au.ds,<-au.n,h.len]
def aoU(c:wS):Bool:=c.ns.all λn=>decide (n.aL.length<=1000)
def aoV{c:wS}(h:HS c t)(ay:t.ok I)(af:aoU c=true):mB t:=λn aq=>by
 have aa:=(ay.ns n aq).kn;have ab:n.ba∈c.ns.map rF.pl:=by rw[<-h.ns.ba];exact dA.2 ⟨n,aq,rfl⟩
 obtain⟨x,ae,e⟩:=dA.1 ab;have ag:=c1 (eP.1 af x ae);have aW:x.aL=n.aL:=congrArg aS.aL e;rw[aW]at ag;omega
def aoW{cs:List hG}{ds:List aQ}(h:oS cs ds)(ah:∀ d∈ds,d.ok I)(af:(cs.all λd=>d.t.ns.all λn=>decide (n.aL.length<=1000))=true):∀ d∈ds,mB d.t:=by
 induction h with
 |nil=>intro d ah;cases ah
 |cons h k a7=>
  simp only[List.all_cons,b']at af;intro d hm;rcases ef.1 hm with rfl | hm;·exact aoV h (ah _ (.head _)).t af.1
  ·exact a7 (λd hd=>ah d (.tail _ hd)) (by simpa using af.2) d hm
def R0(ds:List aQ)(F:List a2)(i:Nat):kB (ds.map aQ.ba) F i=kB ds F i:=by
 unfold kB;rw[lE,Dk];cases ds[i]? with
 |none=>rfl| some d=>show(fE (bR ds) F (d.t.ns.map aS.ba) d.t.bD).2=_;rw[amP]
def aoX(ds:List aQ)(F:List a2)(i:Nat):yo (ds.map aQ.ba) F i=yo ds F i:=by
 unfold yo;rw[lE,Dk];cases ds[i]? with
 |none=>rfl| some d=>show(nf (bR ds) F (d.t.ns.map aS.ba) d.t.bD).2=_;rw[anv]
def aoY(ds:List aQ)(F:List a2):pP (ds.map aQ.ba) F=pP ds F:=by funext i;unfold pP;rw[c8,R0]
def R1(ds:List aQ)(F:List a2):nW (ds.map aQ.ba) F=nW ds F:=by unfold nW;rw[c8];exact ES λi _=>aoX ds F i
def aoZ(ds:List aQ)(F:List a2):BZ (ds.map aQ.ba) F=BZ ds F:=by unfold BZ;rw[c8,aoY]
def abO{ds:List aQ}{l:List a2}(h:k3 (ds.map aQ.ba) l):k3 ds l:=by
 refine⟨by rw[h.len,c8],λi hi=>?_,λm hm aA=>?_⟩
 ·have:=h.fix i (by simpa using hi);rwa [Dk,lq,Ka]at this
 ·refine h.least m (by rw[hm,c8]) λi hi=>?_;rw[Dk,lq,Ka];exact aA i (by simpa using hi)
def B0(ds:List aQ)(F:List a2):Int×Int:=bif decide (0<(BZ ds F).length)then((((BZ ds F).headD 0:Nat):Int),42)else bif decide (0<(nW ds F).length)then((((nW ds F).headD 0:Nat):Int),43)else(0,0)
structure EA(cs:List hG)(F:List a2):Prop where
 may:dF gb (gB cs)=0
 ao0:k3 (gB cs).ds F
 kb:(cs.all λd=>d.t.ns.all λn=>decide (n.aL.length<=1000))=true
def EA.of{cs:List hG}(eu:EA cs F){g:bJ}(au:g.ok I)(a5:oS cs g.ds):dF gb g=0/\k3 g.ds F/\(∀ d∈g.ds,mB d.t):=by
 have dz:=z0 a5 au;have e5:g.ds.map aQ.ba=(gB cs).ds:=congrArg bJ.ds dz;have hm:dF gb g=0:=by rw[<-Dj,dz];exact eu.may
 refine⟨hm,?_,aoW a5 au.ds eu.kb⟩;have:=eu.ao0;rw[<-e5]at this;exact abO this
def R2{cs:List hG}(eu:EA cs F){g:bJ}(au:g.ok I)(a5:oS cs g.ds)(h:tG gb g r):r=B0 (gB cs).ds F:=by
 obtain⟨hm,bU,-⟩:=eu.of au a5;have e5:g.ds.map aQ.ba=(gB cs).ds:=congrArg bJ.ds (z0 a5 au);have a1:=J7 au.n hm;rcases h with⟨a,-⟩ | ⟨-,cH,Cl,rfl⟩
 ·exact absurd hm a
 ·obtain rfl:=bU.unique Cl;rw[<-e5,B0,aoZ,R1,aoD a1];by_cases aa:0<(pQ g.ds F).length
  ·rw[cn aa,eN aa,bl]
  ·rw[cb aa,de aa,bh];by_cases ab:0<(nW g.ds F).length
   ·rw[cn ab,eN ab,bl]
   ·rw[cb ab,de ab,bh]
def HU(ds:List aQ):Nat->List a2->List a2
 |0,L=>L| k+1,L=>HU ds k (ds.map (hQ (bR ds) L))
def abP{ds:List aQ}:∀ (k:Nat) {L:List a2},oC ds L->ds.map (hQ (bR ds) (HU ds k L))=HU ds k L->k3 ds (HU ds k L)
 |0,L,aD,h=>by refine⟨aD.len,λi hi=>?_,aD.least⟩;have:=Lx (f:=hQ (bR ds) L) hi;have aa:ds.map (hQ (bR ds) L)=L:=h;rw[aa]at this;exact this
 |k+1,L,aD,h=>abP k aD.all.1 h
def wT(cs:List hG)(k:Nat):List a2:=HU (gB cs).ds k (List.replicate (gB cs).ds.length bL)
def z1(cs:List hG)(F:List a2)(k:Nat):Bool:=decide (dF gb (gB cs)=0)&&(decide (wT cs k=F)&&(decide ((gB cs).ds.map (hQ (bR (gB cs).ds) F)=F)&&cs.all λd=>d.t.ns.all λn=>decide (n.aL.length<=1000)))
def R3{cs:List hG}{k:Nat}(h:z1 cs F k=true):EA cs F:=by simp only[z1,b',eU]at h;obtain⟨aa,ab,ag,aW⟩:=h;refine⟨aa,?_,by simpa using aW⟩;have:=abP k (oC.start (gB cs).ds);unfold wT at ab;rw[ab]at this;exact this ag
section
end
section
end
def tG.get{g:bJ}(hm:dF ax g=0)(h:tG ax g r):r.2=0 ↔ (pQ g.ds (LP g.ds)).length=0/\(nW g.ds (LP g.ds)).length=0:=by
 rcases h with⟨a,-⟩ | ⟨-,F,c,rfl⟩
 ·exact absurd hm a
 ·rw[RS c];by_cases aa:0<(pQ g.ds F).length
  ·rw[cn aa];simp only;omega
  ·rw[cb aa];by_cases ab:0<(nW g.ds F).length
   ·rw[cn ab];simp only;omega
   ·rw[cb ab];exact⟨λ_=>⟨by omega,by omega⟩,λ_=>rfl⟩
section
end
def abQ{ds:List aQ}{n:Nat}(aq:ds.length=n):∀ (names:List ByteArray) (s:List Bool),s.length=n->∀ k,k<n->((names.foldl (λs nm=>ra n s (b2 nm ds 0)) s).getD k false=true ↔ s.getD k false=true\/∃ nm∈names,b2 nm ds 0=(k:Int))
 |[],s,ap,k,af=>by simp
 |nm::names,s,ap,k,af=>by
  rw[sC,abQ aq names _ (by rw[Vh];exact ap) k af];have hm:(ra n s (b2 nm ds 0)).getD k false=true ↔ s.getD k false=true\/b2 nm ds 0=(k:Int):=by
   unfold ra;cases ai:decide (0<=b2 nm ds 0)&&decide (b2 nm ds 0<n)with
   |true=>
    rw[bl];simp at ai;simp only[cC,mh];by_cases e:(b2 nm ds 0).toNat=k
    ·have:b2 nm ds 0=(k:Int):=by omega
     simp[e,this,ap,af]
    ·have:¬ b2 nm ds 0=(k:Int):=by omega
     simp[e,this]
   |false=>
    rw[bh];have:¬ b2 nm ds 0=(k:Int):=by intro e;rw[e]at ai;simp at ai;omega
    simp[this]
  rw[hm];constructor
  ·rintro((h | h) | ⟨x,ae,h⟩)
   ·exact .inl h
   ·exact .inr ⟨nm,by simp,h⟩
   ·exact .inr ⟨x,by simp[ae],h⟩
  ·rintro(h | ⟨x,ae,h⟩)
   ·exact .inl (.inl h)
   ·rcases ef.1 ae with rfl | ae
    ·exact .inl (.inr h)
    ·exact .inr ⟨x,ae,h⟩
def eB.HV{a:Option Addr}{c b:Nat}(h:eB I a n c size b vs)(M:List aB)(ar:0<n):∃ ad,a=some ad/\cr I M ad (n*size) vs:=by
 rcases h.rd with aa | ⟨ad,aa,ab,cs,T,al,ag,aW⟩
 ·omega
 ·exact⟨ad,aa,ab,cs,T,al,.inl ag,aW,h.len⟩
def R4(l:List Int):fO (l.map (.int .i64 ·))=true:=eP.2 λv aj=>by obtain⟨k,_,rfl⟩:=dA.1 aj;rfl
def R5{f:α->List Value}(h:∀ x,fO (f x)=true)(l:List α):fO (l.flatMap f)=true:=eP.2 λv aj=>by obtain⟨x,_,ae⟩:=Ge.1 aj;exact eP.1 (h x) v ae
def aS.one(d:aS):fO d.cells=true:=rfl
def aQ.one(d:aQ):fO d.cells=true:=rfl
def ao1{a:Option Addr}{c:Nat}(h:eB I a n c 1 8 vs)(aa:fO vs=true):Spec Tryz.prog 221 [.slice a n c] I M0 λv I' M'=>I'=I/\∃ os:a',os.n=n/\os.ok 1 vs/\v=os.val/\M'=os.aP 3++M0:=by
 refine bN [] aV Tryz.func221 rfl rfl rfl ?_;intro B ar;have hz:=h.cap;refine e'.Pa aV rfl rfl ?_;refine aU.mk (λaA=>?_) (λaA=>?_)
 ·have aq:n=0:=by
   rcases h.rd with ab | ⟨ad,ab,_⟩;·exact ab
   ·rw[ab]at aA;cases aA
  subst aq;have ag:vs=[]:=jh (by rw[h.len,vw]);subst ag;exact⟨_,_,.refl,rfl,lu,rfl,mT 1,rfl,rfl⟩
 refine b8.mk λb ai ph=>?_;refine bn.Ki aV rfl (by simp) (e:=3) rfl rfl rfl ⟨some b,0,0,[]⟩ (xs:=[]) ⟨rfl,(λh=>by cases h),(λg h=>⟨rfl,cj _,bw _,rfl⟩)⟩ rfl (sa:=a) (m:=n) (c':=c) (bV:=vs) rfl h.len (h.HV _) aa [] M0 rfl (by simp only;omega) (by show(0+n)*8<=_;omega) ?_;intro os aq bA bj;rw[jZ]at bj;exact⟨_,_,.refl,rfl,os,aq.trans (c0 n),bj,rfl,rfl⟩
def ao2{a:Option Addr}{c:Nat}(h:eB I a n c 9 96 vs)(aa:fO vs=true):Spec Tryz.prog 220 [.slice a n c] I M0 λv I' M'=>I'=I/\∃ os:a',os.n=n/\os.ok 9 vs/\v=os.val/\M'=os.aP 83++M0:=by
 refine bN [] aV Tryz.func220 rfl rfl rfl ?_;intro B ar;have hz:=h.cap;refine e'.Pa aV rfl rfl ?_;refine aU.mk (λaA=>?_) (λaA=>?_)
 ·have aq:n=0:=by
   rcases h.rd with ab | ⟨ad,ab,_⟩;·exact ab
   ·rw[ab]at aA;cases aA
  subst aq;have ag:vs=[]:=jh (by rw[h.len,vw]);subst ag;exact⟨_,_,.refl,rfl,lu,rfl,mT 9,rfl,rfl⟩
 refine b8.mk λb ai ph=>?_;refine bn.Ki aV rfl (by simp) (e:=83) rfl rfl rfl ⟨some b,0,0,[]⟩ (xs:=[]) ⟨rfl,(λh=>by cases h),(λg h=>⟨rfl,cj _,bw _,rfl⟩)⟩ rfl (sa:=a) (m:=n) (c':=c) (bV:=vs) rfl h.len (h.HV _) aa [] M0 rfl (by simp only;omega) (by show(0+n)*96<=_;omega) ?_;intro os aq bA bj;rw[jZ]at bj;exact⟨_,_,.refl,rfl,os,aq.trans (c0 n),bj,rfl,rfl⟩
def ao3{a:Option Addr}{c:Nat}(h:eB I a n c 3 48 vs)(aa:fO vs=true):Spec Tryz.prog 176 [.slice a n c] I M0 λv I' M'=>I'=I/\∃ os:a',os.n=n/\os.ok 3 vs/\v=os.val/\M'=os.aP 58++M0:=by
 refine bN [] aV Tryz.func176 rfl rfl rfl ?_;intro B ar;have hz:=h.cap;refine e'.Pa aV rfl rfl ?_;refine aU.mk (λaA=>?_) (λaA=>?_)
 ·have aq:n=0:=by
   rcases h.rd with ab | ⟨ad,ab,_⟩;·exact ab
   ·rw[ab]at aA;cases aA
  subst aq;have ag:vs=[]:=jh (by rw[h.len,vw]);subst ag;exact⟨_,_,.refl,rfl,lu,rfl,mT 3,rfl,rfl⟩
 refine b8.mk λb ai ph=>?_;refine bn.Ki aV rfl (by simp) (e:=58) rfl rfl rfl ⟨some b,0,0,[]⟩ (xs:=[]) ⟨rfl,(λh=>by cases h),(λg h=>⟨rfl,cj _,bw _,rfl⟩)⟩ rfl (sa:=a) (m:=n) (c':=c) (bV:=vs) rfl h.len (h.HV _) aa [] M0 rfl (by simp only;omega) (by show(0+n)*48<=_;omega) ?_;intro os aq bA bj;rw[jZ]at bj;exact⟨_,_,.refl,rfl,os,aq.trans (c0 n),bj,rfl,rfl⟩
def ao4{L:List aS}{i:Nat}(hi:i<L.length)(h:d.ba=L[i].ba):(L.set i d).map aS.ba=L.map aS.ba:=by
 rw[Fs,h];refine yO λj=>?_;rw[mh];split
 ·rename_i e;subst e;rw[c8,cn hi,lE,eb hi];rfl
 ·rfl
def LW{cz:a'}(h:os.val=cz.val):os.n=cz.n/\os.c=cz.c:=by
 unfold a'.val at h;injection h with aa ab ag
 exact⟨ab,ag⟩
def ao5{L:List aQ}{i:Nat}(hi:i<L.length){d:aQ}(h:d.ba=L[i].ba):(L.set i d).map aQ.ba=L.map aQ.ba:=by
 rw[Fs,h];refine yO λj=>?_;rw[mh];split
 ·rename_i e;subst e;rw[c8,cn hi,lE,eb hi];rfl
 ·rfl
def ao6(f:α->List Value)(size:Nat)(aJ:∀ x,(f x).length=size)(l:List α)(j:Nat):(l.drop j).flatMap f=(l.flatMap f).drop (j*size):=by
 by_cases h:j<=l.length
 ·have e:l.flatMap f=(l.take j).flatMap f++(l.drop j).flatMap f:=by rw[<-lS,sV]
  have ab:((l.take j).flatMap f).length=j*size:=by rw[fQ f size aJ,CP h]
  rw[e,<-ab,List.drop_left]
 ·have aa:l.length<=j:=by omega
  rw[qC aa,qC (by rw[fQ f size aJ];exact rH _ aa)];rfl
structure qI(P dD:dw)(N:Nat)(f:Nat->Nat):Prop where
 s:dD.s=P.s
 d:∀ k,k<N->(dD.aO k).d=(P.aO (f k)).d
 cf:∀ k,k<N->(P.aO (f k)).cf=(dD.aO k).cf.map f
 lt:∀ k,k<N->∀ q∈(dD.aO k).cf,q<N
 one:∀ k,k<N->(dD.aO k).d.k=3\/6<=(dD.aO k).d.k->0<(dD.aO k).cf.length
 nn:∀ k,k<N->0<=(dD.aO k).d.k
 b:P.be=0/\dD.be=0
section
variable{m m':Nat->Nat->dg}{f:Nat->Nat}{N:Nat}(h:∀ k a,k<N->m' k a=m (f k) a)
include h
def abR:∀ (L:List Nat) (a n:Nat),(∀ q∈L,q<N)->h5 m (L.map f) a n=h5 m' L a n
 |[],_,_,_=>rfl| q::L,a,n,b9=>by rw[cY,h5,h5,h q a (b9 q (.head _))];rw[abR L _ _ λy aF=>b9 y (.tail _ aF)]
def abS:∀ (L:List Nat) (a:Nat),(∀ q∈L,q<N)->ie m (L.map f) a=ie m' L a
 |[],_,_=>rfl| q::L,a,b9=>by rw[cY,ie,ie,h q a (b9 q (.head _)),abS L _ λy aF=>b9 y (.tail _ aF)]
def abT{q:Nat}(aM:q<N){lo hi:Int}:∀ (j i a n:Nat),gd m (f q) lo hi j i a n=gd m' q lo hi j i a n
 |0,i,a,n=>rfl| j+1,i,a,n=>by rw[gd,gd,h q a aM,abT aM j]
end
def EB{l:List Nat}{f:Nat->Nat}(h:0<l.length):(l.map f).getD 0 0=f (l.getD 0 0):=by
 match l,h with
 |x::l,_=>rfl
def EC{l:List Nat}(h:0<l.length)(av:∀ q∈l,q<N):l.getD 0 0<N:=by
 match l,h with
 |x::l,_=>exact av x (.head _)
def qI.out{P:dw}{f:Nat->Nat}(h:qI P dD N f){m m':Nat->Nat->dg}(hm:∀ k a,k<N->m' k a=m (f k) a){k:Nat}(af:k<N)(a:Nat):er dD m' k a=er P m (f k) a:=by
 have ah:=h.d k af;have aC:=h.cf k af;have av:=h.lt k af;have aw:=h.one k af;rcases Bb (dD.aO k).d.k with e | e | e | e | e | e | e | e | e | ⟨ql,eg,cA,gu,jG,v0,Dx,Dy,Dz⟩
 ·rw[xO e,xO (by rw[<-ah];exact e)]
 ·rw[xP e,xP (by rw[<-ah];exact e),h.s,ah]
 ·rw[xQ e,xQ (by rw[<-ah];exact e),h.s,ah]
 ·have ar:=aw (.inl e);rw[xR e,xR (by rw[<-ah];exact e),aC,EB ar,hm _ _ (EC ar av)]
 ·rw[xS e,xS (by rw[<-ah];exact e),aC,abR hm _ _ _ av]
 ·rw[xT e,xT (by rw[<-ah];exact e),aC,abS hm _ _ av]
 ·have ar:=aw (.inr (by omega));rw[uz e,uz (by rw[<-ah];exact e),aC,EB ar,<-ah,abT hm (EC ar av)];unfold Ba;rw[h.s]
 ·have ar:=aw (.inr (by omega));rw[xU e,xU (by rw[<-ah];exact e),aC,EB ar,hm _ _ (EC ar av)]
 ·have ar:=aw (.inr (by omega));rw[xV e,xV (by rw[<-ah];exact e),aC,EB ar,hm _ _ (EC ar av)]
 ·have ar:=aw (.inr (by have:=h.nn k af;omega));rw[xW ql eg cA gu jG v0 Dx Dy Dz,xW (by rw[<-ah];exact ql) (by rw[<-ah];exact eg) (by rw[<-ah];exact cA) (by rw[<-ah];exact gu) (by rw[<-ah];exact jG) (by rw[<-ah];exact v0) (by rw[<-ah];exact Dx) (by rw[<-ah];exact Dy) (by rw[<-ah];exact Dz),aC,EB ar,hm _ _ (EC ar av)]
def qI.bB{P:dw}{f:Nat->Nat}(h:qI P dD N f):∀ (n k a:Nat),k<N->g' dD n k a=g' P n (f k) a
 |0,_,_,_=>rfl| n+1,k,a,af=>h.out (λk a af=>h.bB n k a af) af a
def qI.e1{P:dw}{f:Nat->Nat}(h:qI P dD N f){k:Nat}(af:k<N)(a:Nat):cO dD k a=cO P (f k) a:=by
 by_cases ah:∃ n,ff (g' dD n k a)
 ·obtain⟨n,aq⟩:=ah;have ab:ff (g' P n (f k) a):=by rw[<-h.bB n k a af];exact aq
  rw[Dr aq,Dr ab,h.bB n k a af]
 ·have ab:¬ ∃ n,ff (g' P n (f k) a):=λ⟨n,aq⟩=>ah ⟨n,by rw[h.bB n k a af];exact aq⟩;unfold cO;rw[dif_neg ah,dif_neg ab]
def qI.kn{P:dw}{f:Nat->Nat}(h:qI P dD N f){k:Nat}(af:k<N)(a:Nat):dX dD k a=dX P (f k) a:=by unfold dX eT;rw[h.s,h.e1 af]
section
variable{kn eX:Nat->Nat->dg}{f:Nat->Nat}{N:Nat}(h:∀ k a,k<N->eX k a=kn (f k) a)
def z2(f:Nat->Nat)(l:List (Nat×Nat)):List (Nat×Nat):=l.map λx=>(f x.1,x.2)
include h
def R6:∀ (L:List Nat) (a:Nat),(∀ q∈L,q<N)->k1 kn 0 (L.map f) a=z2 f (k1 eX 0 L a)/\(allM eX 0 L a->allM kn 0 (L.map f) a)/\∀ x∈k1 eX 0 L a,x.1<N
 |[],a,_=>⟨rfl,λ_=>trivial,λx ae=>by cases ae⟩
 |k::L,a,b9=>by
  have af:=b9 k (.head _);have e:=h k (a-0) af;obtain⟨i1,i2,i3⟩:=R6 L a λy aF=>b9 y (.tail _ aF);obtain⟨iE,hO,i'⟩:=R6 L (eX k (a-0)).a0 λy aF=>b9 y (.tail _ aF);simp only[cY,k1,allM];rw[<-e,i1,iE];refine⟨?_,λae=>⟨ae.1,hO ae.2⟩,?_⟩
  ·cases Nat.beq (eX k (a-0)).aG 3 with
   |true=>
    cases Nat.beq (eX k (a-0)).n 0<;>rfl
   |false=>rfl
  ·cases Nat.beq (eX k (a-0)).aG 3 with
   |true=>
    cases Nat.beq (eX k (a-0)).n 0 with
    |true=>exact i'
    |false=>
     intro x ae;rcases ef.1 ae with rfl | ae;·exact af
     ·exact i' x ae
   |false=>exact i3
def abU:∀ (L:List Nat) (a:Nat),(∀ q∈L,q<N)->mu kn 0 (L.map f) a=z2 f (mu eX 0 L a)/\(th eX 0 L a->th kn 0 (L.map f) a)/\∀ x∈mu eX 0 L a,x.1<N
 |[],a,_=>⟨rfl,λh=>h,λx ae=>by cases ae⟩
 |k::L,a,b9=>by
  have af:=b9 k (.head _);have e:=h k (a-0) af;obtain⟨i1,i2,i3⟩:=abU L a λy aF=>b9 y (.tail _ aF);simp only[cY,mu,th];rw[<-e,i1];refine⟨?_,λae=>ae.imp id λaF=>⟨aF.1,i2 aF.2⟩,?_⟩
  ·cases Nat.beq (eX k (a-0)).aG 3 with
   |true=>cases Nat.beq (eX k (a-0)).n 0<;>rfl
   |false=>rfl
  ·cases Nat.beq (eX k (a-0)).aG 3 with
   |true=>
    cases Nat.beq (eX k (a-0)).n 0 with
    |true=>intro x ae;cases ae| false=>intro x ae;rw[fW.1 ae];exact af
   |false=>exact i3
def ao7{k:Nat}(af:k<N){t a:Nat}(hw:k2 eX 0 k hi t a l):k2 kn 0 (f k) hi t a (z2 f l)/\∀ x∈l,x.1<N:=by
 induction hw with
 |stop h=>exact⟨.stop h,λx ae=>by cases ae⟩| @fail t a aa ab=>exact⟨.fail aa (by rw[<-h k (a-0) af];exact ab),λx ae=>by cases ae⟩
 | @more t a l ai aa ab r a7=>
  have e:=h k (a-0) af;obtain⟨i1,i2⟩:=a7;rw[e]at ab i1;have hm:=k2.more (kn:=kn) (be:=0) (k:=f k) ai aa ab i1;rw[e];cases aq:Nat.beq (kn (f k) (a-0)).n 0 with
  |true=>rw[aq]at hm;exact⟨hm,i2⟩
  |false=>
   rw[aq]at hm;refine⟨hm,λx ae=>?_⟩;rcases ef.1 ae with rfl | ae;·exact af
   ·exact i2 x ae
end
def qI.parts{P:dw}{f:Nat->Nat}(h:qI P dD N f){k a:Nat}(af:k<N)(aD:ky dD (dX dD) k a l):ky P (dX P) (f k) a (z2 f l)/\∀ x∈l,x.1<N:=by
 have ah:=h.d k af;have aC:=h.cf k af;have av:=h.lt k af;have dS:=λk a (af:k<N)=>h.kn af a;unfold ky at aD |-;rw[h.b.2]at aD;rw[h.b.1,<-ah,aC];by_cases bP:(dD.aO k).d.k=6
 ·rw[cn bP]at aD |-;have ar:=h.one k af (.inr (by omega));rw[EB ar];exact ao7 dS (EC ar av) aD
 ·rw[cb bP]at aD |-;by_cases bC:(dD.aO k).d.k=5
  ·rw[cn bC]at aD |-;obtain⟨i1,i2,i3⟩:=abU dS (dD.aO k).cf a av;exact⟨⟨i2 aD.1,by rw[aD.2,i1]⟩,by rw[aD.2];exact i3⟩
  ·rw[cb bC]at aD |-;obtain⟨i1,i2,i3⟩:=R6 dS (dD.aO k).cf a av;exact⟨⟨i2 aD.1,by rw[aD.2,i1]⟩,by rw[aD.2];exact i3⟩
def qI.gs{P:dw}{f:Nat->Nat}(h:qI P dD N f){l:List fg}(au:iD dD (dX dD) n L l):(∀ x∈L,x.1<N)->iD P (dX P) n (z2 f L) l:=by
 induction au with
 |nil=>exact λ_=>.nil
 | @zero n k a bb l ag ar r a7=>
  intro b9;have af:k<N:=b9 _ (.head _);rw[h.b.2,h.kn af,<-h.b.1]at ag;have hY:(dX P (f k) (a-P.be)).n=0:=by rw[h.b.1,<-h.kn af];rw[h.b.2]at ar;exact ar
  exact .zero ag hY (a7 λx ae=>b9 x (.tail _ ae))
 | @node n k a parts bb l ag ar aD r a7=>
  intro b9;have af:k<N:=b9 _ (.head _);obtain⟨po,pq⟩:=h.parts af aD;have e:dX dD k (a-dD.be)=dX P (f k) (a-P.be):=by rw[h.b.1,h.b.2,h.kn af]
  have D7:sc dD (dX dD) k a=sc P (dX P) (f k) a:=by unfold sc;rw[<-h.d k af,e]
  rw[D7];rw[e]at ag ar;have hi:=a7 λx ae=>by
   rcases dQ.1 ae with ae | ae;·exact pq x ae
   ·exact b9 x (.tail _ ae)
  have aE:z2 f (parts++bb)=z2 f parts++z2 f bb:=e7;rw[aE]at hi;exact .node ag ar po hi
def qI.zZ{P:dw}{f:Nat->Nat}(h:qI P dD N f){k a:Nat}(af:k<N){e bq:Int}(ay:u0 dD k a o e)(HW:u0 P (f k) a o' bq):o=o'/\e=bq:=by
 have av:=h.e1 af a;rcases ay with⟨cu,dG,dY⟩ | ⟨cu,dG,dY⟩ | ⟨cu,fN,dG,dY⟩ | ⟨cu,dG,dY,fN,iN,kI,lh,mF⟩<;>rw[av]at cu <;>
  rcases HW with⟨b1,cd,dN⟩ | ⟨b1,cd,dN⟩ | ⟨b1,e6,cd,dN⟩ | ⟨b1,cd,dN,e6,eI,b6,b7,en⟩
 all_goals first
  |exact⟨dG.trans cd.symm,dY.trans dN.symm⟩|(exfalso;omega)| skip
 ·rw[av]at fN;exfalso;omega
 ·rw[av]at dG;exfalso;omega
 ·rw[av]at iN;obtain⟨n,au⟩:=lh;obtain⟨eO,lI⟩:=b7;have aa:=h.gs au λx ae=>by rw[fW.1 ae];exact af
  have ab:=aa.A' lI;refine⟨?_,dY.trans dN.symm⟩;obtain⟨ej,ed,fJ⟩:=o;obtain⟨h4,fM,iF⟩:=o';simp only at fN iN e6 eI ab;rw[fN,iN,e6,eI,ab]
def ao8{g:bJ}{i j fx LX:Nat}(hi:i<g.ds.length)(an:j<g.ds[i].t.ns.length)(c7:fx<g.ds.length)(hW:LX<g.ds[fx].t.ns.length)(h:k7 g i j=k7 g fx LX):i=fx/\j=LX:=by
 have key:∀ {a b x y:Nat} (aC:a<g.ds.length),x<g.ds[a].t.ns.length->b<g.ds.length->a<b->k7 g a x<k7 g b y:=fun {a b x y} aC ae ai jJ=>by
  have aa:=DE aC;have ab:cL (g.ds.take (a+1))<=cL (g.ds.take b):=by have:=GO (g.ds.take b) (a+1);rwa [rU,rI (by omega)]at this
  unfold k7;omega
 rcases Nat.lt_trichotomy i fx with aa | aa | aa
 ·have:=key hi an c7 aa (y:=LX);omega
 ·subst aa;unfold k7 at h;exact⟨rfl,by omega⟩
 ·have:=key c7 hW hi aa (y:=j);omega
open Classical in
noncomputable def ED(g h:bJ)(up:Nat->Nat)(k:Nat):Nat:=if af:k<cL h.ds then k7 g (up (Kv h af).choose) (Kv h af).choose_spec.choose else 0
def HX{g:bJ}{up:Nat->Nat}{i j:Nat}(hi:i<h.ds.length)(an:j<h.ds[i].t.ns.length):ED g h up (k7 h i j)=k7 g (up i) j:=by have af:=Ku hi an;unfold ED;rw[dif_pos af];obtain⟨hV,lO,e⟩:=(Kv h af).choose_spec.choose_spec;obtain⟨ej,ed⟩:=ao8 hi an hV lO e;exact congr (congrArg (λx=>k7 g (up x)) ej.symm) ed.symm
structure LY(g h:bJ)(up:Nat->Nat):Prop where
 aO:∀ i (hi:i<h.ds.length),∃ aa:up i<g.ds.length,g.ds[up i].t.ns.map aS.ba=h.ds[i].t.ns.map aS.ba/\g.ds[up i].t.bD=h.ds[i].t.bD/\g.ds[up i].name=h.ds[i].name
 cl:∀ i (hi:i<h.ds.length),∀ n∈h.ds[i].t.ns,n.k=3->∃ q,q<h.ds.length/\b2 n.t h.ds 0=(q:Int)/\b2 n.t g.ds 0=((up q:Nat):Int)
def ao9{ds:List aQ}{b:Nat}{n eO:aS}(h:n.ba=eO.ba):v5 ds b n=v5 ds b eO:=by obtain⟨cu,dG,dY,fN,iN,kI,lh,mF,oZ,qM,sF,u9⟩:=n;obtain⟨b1,cd,dN,e6,eI,b6,b7,en,bW,oE,rE,atG⟩:=eO;simp only[aS.ba,aS.mk.injEq,and_true,true_and]at h;obtain⟨rfl,rfl,rfl,rfl,rfl,rfl,rfl,rfl,rfl⟩:=h;rfl
def apa{I':aZ}{g:bJ}(au:g.ok I)(br:h.ok I')(hm:qo h){up:Nat->Nat}(af:LY g h up)(s:ByteArray):qI (jr g s) (jr h s) (cL h.ds) (ED g h up):=by
 have HY:∀ k,k<cL h.ds->∃ i j,∃ hi:i<h.ds.length,∃ an:j<h.ds[i].t.ns.length,k=k7 h i j/\ED g h up k=k7 g (up i) j/\(jr h s).aO k=v5 h.ds (cL (h.ds.take i)) h.ds[i].t.ns[j]/\(jr g s).aO (ED g h up k)=v5 g.ds (cL (g.ds.take (up i))) h.ds[i].t.ns[j]:=λk cw=>by
  obtain⟨i,j,hi,an,rfl⟩:=Kv h cw;obtain⟨aa,ab,-,-⟩:=af.aO i hi;have bQ:=congrArg List.length ab;rw[c8,c8]at bQ;have lO:j<g.ds[up i].t.ns.length:=by omega
  refine⟨i,j,hi,an,rfl,HX hi an,X1 s hi an,?_⟩;rw[HX hi an,X1 s aa lO];refine ao9 ?_;have ag:(g.ds[up i].t.ns.map aS.ba)[j]?=(h.ds[i].t.ns.map aS.ba)[j]?:=by rw[ab]
  rw[lE,lE,eb an,eb lO]at ag;simpa using ag
 have B1:∀ i (hi:i<h.ds.length) j (an:j<h.ds[i].t.ns.length),h.ds[i].t.ns[j].k≠3->∀ x∈h.ds[i].t.ns[j].aL,x.toNat<h.ds[i].t.ns.length:=λi hi j an _ x ae=>by have:=(hm.r _ (cJ hi)).aL j an x ae;omega
 have R7:∀ i (hi:i<h.ds.length) j (an:j<h.ds[i].t.ns.length),h.ds[i].t.ns[j].k=3->∃ q r,∃ aM:q<h.ds.length,r<h.ds[q].t.ns.length/\iH h.ds (cL (h.ds.take i)) h.ds[i].t.ns[j]=[k7 h q r]/\iH g.ds (cL (g.ds.take (up i))) h.ds[i].t.ns[j]=[k7 g (up q) r]:=λi hi j an e=>by
  obtain⟨q,aM,f1,f2⟩:=af.cl i hi _ (cJ an) e;obtain⟨aa,-,ab,-⟩:=af.aO q aM;have a5:=(hm.r _ (cJ aM)).bD;obtain⟨r,ak⟩:=h' a5.1;refine⟨q,r,aM,by omega,?_,?_⟩;·rw[iH,eN e,bl,f1,<-Kw aM ak];rfl
  ·rw[iH,eN e,bl,f2,<-Kw aa (ab.trans ak)];rfl
 refine⟨rfl,λk cw=>?_,λk cw=>?_,λk cw q aM=>?_,λk cw aa=>?_,λk cw=>?_,⟨rfl,rfl⟩⟩
 ·obtain⟨i,j,hi,an,az,aE,bz,cT⟩:=HY k cw;rw[bz,cT];rfl
 ·obtain⟨i,j,hi,an,az,aE,bz,cT⟩:=HY k cw;rw[bz,cT];show iH _ _ _=(iH _ _ _).map _;by_cases e:h.ds[i].t.ns[j].k=3
  ·obtain⟨q,r,aM,ak,cu,dG⟩:=R7 i hi j an e;rw[cu,dG,cY,kR,HX aM ak]
  ·rw[iH,iH,de e,bh,bh,jl];refine rT λx ae=>?_;exact(HX hi (B1 i hi j an e x ae)).symm
 ·obtain⟨i,j,hi,an,az,aE,bz,cT⟩:=HY k cw;rw[bz]at aM;have aM:q∈iH h.ds (cL (h.ds.take i)) h.ds[i].t.ns[j]:=aM;by_cases e:h.ds[i].t.ns[j].k=3
  ·obtain⟨fa,r,Gp,ak,cu,dG⟩:=R7 i hi j an e;rw[cu]at aM;rw[fW.1 aM];exact Ku Gp ak
  ·rw[iH,de e,bh]at aM;obtain⟨x,ae,rfl⟩:=dA.1 aM;exact Ku hi (B1 i hi j an e x ae)
 ·obtain⟨i,j,hi,an,az,aE,bz,cT⟩:=HY k cw;rw[bz]at aa |-;have aa:h.ds[i].t.ns[j].k=3\/6<=h.ds[i].t.ns[j].k:=aa;show 0<(iH _ _ _).length;by_cases e:h.ds[i].t.ns[j].k=3
  ·obtain⟨fa,r,Gp,ak,cu,dG⟩:=R7 i hi j an e;rw[cu];exact GD
  ·rw[iH,de e,bh,c8];have ah:=((br.ds _ (cJ hi)).t.ns _ (cJ an));have aJ:=(hm.r _ (cJ hi)).fits j an;have:=(HE ah.k.1 aJ).one (by omega);omega
 ·obtain⟨i,j,hi,an,az,aE,bz,cT⟩:=HY k cw;rw[bz];exact((br.ds _ (cJ hi)).t.ns _ (cJ an)).k.1
def apb{g:bJ}(hm:qo h){up:Nat->Nat}(af:LY g h up){i:Nat}(hi:i<h.ds.length):qp h i<cL h.ds/\ED g h up (qp h i)=qp g (up i):=by
 obtain⟨aa,-,ab,-⟩:=af.aO i hi;have a5:=(hm.r _ (cJ hi)).bD;obtain⟨r,ak⟩:=h' a5.1;have gW:r<h.ds[i].t.ns.length:=by omega
 rw[Kw hi ak,Kw aa (ab.trans ak)];exact⟨Ku hi gW,HX hi gW⟩
structure sv(T:Nat)(M:List aB)(a:Option Addr)(n c size b:Nat)(vs:List Value):Prop where
 len:vs.length=n*size
 cap:n<=c/\n*b<=140737488355328
 rd:n=0\/∃ g cs,a=some ⟨g,0,none⟩/\(⟨g,.cells cs T (0,0)⟩:aB)∈M/\cs.toList.take (n*size)=vs/\n*size<=cs.size
def sv.mono{T:Nat}{a:Option Addr}{c b:Nat}(h:sv T M a n c size b vs)(a1:∀ x∈M,x∈M'):sv T M' a n c size b vs:=
 ⟨h.len,h.cap,h.rd.imp id λ⟨g,cs,aa,ab,ag,aW⟩=>⟨g,cs,aa,a1 _ ab,ag,aW⟩⟩
def sv.ig{T:Nat}(bU:sr I M J){a:Option Addr}{c b:Nat}(h:sv T M a n c size b vs):eB J a n c size b vs:=
 ⟨h.len,h.cap,h.rd.imp id λ⟨g,cs,aa,ab,ag,aW⟩=>⟨⟨g,0,none⟩,aa,rfl,cs,T,(0,0),bU.kn _ _ (.inr ⟨_,ab,rfl,rfl⟩),by rw[sX];exact ag⟩⟩
def sv.R8{b:Nat}(h:os.ok size xs)(ai:os.n*b<=140737488355328):sv e (os.aP e) (os.a.map λg=>⟨g,0,none⟩) os.n os.c size b xs:=by
 obtain⟨a,n,c,aK⟩:=os;cases a with
 |none=>obtain⟨aa,ab⟩:=h.nil rfl;exact⟨h.len,⟨by simp only at aa ab |-;omega,ai⟩,.inl aa⟩
 |some g=>obtain⟨aa,ab,ag,aW⟩:=h.cap g rfl;refine⟨h.len,⟨ab,ai⟩,.inr ⟨g,aK.toArray,rfl,.head _,aW,?_⟩⟩;simp only at aa ab |-;have:=rH size ab;show n*size<=aK.length;omega
structure z3(M:List aB)(d:aS):Prop where
 k:0<=d.k/\d.k<256
 dT:gi d.dT
 s1:gi d.s1
 s2:gi d.s2
 ec:gi d.ec
 t:d.t.size<=9223372036854775807
 lo:iT d.lo
 hi:iT d.hi
 a8:sv 3 M d.hk d.kn d.gR 1 8 (d.aL.map (.int .i64 ·))
 aL:∀ x∈d.aL,iT x
structure z4(M:List aB)(t:cB):Prop where
 a8:sv 83 M t.a t.n t.c 9 96 (t.ns.flatMap aS.cells)
 ns:∀ d∈t.ns,z3 M d
 bD:iT t.bD
structure z5(M:List aB)(d:aQ):Prop where
 name:d.name.size<=140737488355328
 t:z4 M d.t
structure z6(M:List aB)(g:bJ):Prop where
 a8:sv 58 M g.a g.n g.c 3 48 (g.ds.flatMap aQ.cells)
 ds:∀ d∈g.ds,z5 M d
def z3.mono(h:z3 M d)(a1:∀ x∈M,x∈M'):z3 M' d:={ h with a8:=h.a8.mono a1 }
def z4.mono(h:z4 M t)(a1:∀ x∈M,x∈M'):z4 M' t:=⟨h.a8.mono a1,λd ah=>(h.ns d ah).mono a1,h.bD⟩
def z5.mono{d:aQ}(h:z5 M d)(a1:∀ x∈M,x∈M'):z5 M' d:=⟨h.name,h.t.mono a1⟩
def z3.ig(bU:sr I M J)(h:z3 M d):d.ok J:={ h with a8:=h.a8.ig bU }
def z4.ig(bU:sr I M J)(h:z4 M t):t.ok J:=⟨h.a8.ig bU,λd ah=>(h.ns d ah).ig bU,h.bD⟩
def z6.ig(bU:sr I M J){g:bJ}(h:z6 M g):g.ok J:=⟨h.a8.ig bU,λd ah=>⟨(h.ds d ah).name,(h.ds d ah).t.ig bU⟩⟩
structure apc(I:aZ)(t:cB)(os0:a')(x:Nat×a'×List aS×List aB):Prop where
 i:x.1<=t.n
 ok:x.2.1.ok 9 (x.2.2.1.flatMap aS.cells)
 ba:x.2.2.1.map aS.ba=t.ns.map aS.ba
 own:∀ j,∀ h:j<x.2.2.1.length,j<x.1->z3 x.2.2.2 x.2.2.1[j]
 du:∀ j,∀ h:j<x.2.2.1.length,x.1<=j->x.2.2.1[j].ok I
 a:x.2.1.a=os0.a
 v:x.2.1.val=os0.val
def apd(ay:t.ok I):Spec Tryz.prog 177 [t.val] I [] λv I' M'=>I'=I/\∃ cZ:cB,v=cZ.val/\z4 M' cZ/\cZ.ba=t.ba:=by
 refine bN [] aV Tryz.func177 rfl rfl rfl ?_;intro B ar;have lX:=ay.n;have hz:=ay.a8.cap;refine a9.whole _ (ao2 ay.a8 (R5 aS.one _)) ?_;rintro v J N -⟨bM,os0,abV,pB,rfl,dr⟩;subst J;subst N;refine c4.inv (ι:=Nat×a'×List aS×List aB) (λx=>{ bu:=[(1,.ref 1 0),(2,.ref 2 0),(10,.val os0.val),(11,.val (.int .i64 os0.n)),(12,.val (.int .i64 x.1))],cl:=[(1,[os0.val,.int .i64 t.bD]),(2,[.slice none 0 0,.int .i64 0])],cS:=I,db:=x.2.1.aP 83++x.2.2.2 }) (λx=>apc I t os0 x) (λx=>t.n-x.1) ?_ ?_
 ·exact⟨(0,os0,t.ns,[]),⟨bw _,pB,rfl,λj _ h=>absurd h (wy _),λj h _=>ay.ns _ (cJ h),rfl,rfl⟩,.refl,gS,.cons rfl (.cons rfl (.nil))⟩
 rintro⟨i,os,L,wU⟩⟨hi,ca,dz,B2,hold,oP,l7⟩;simp only at hi ca dz B2 hold oP l7;have abW:L.length=t.ns.length:=by simpa using congrArg List.length dz
 obtain⟨l3,abX⟩:=LW l7;refine aU.mk (λh=>?_) (λh=>?_)
 rotate_left
 ·have cP:i=t.n:=by have:¬ (i:Int)<(os0.n:Int):=dj h;omega
  refine⟨_,_,.refl,rfl,⟨L,os.a.map λg=>⟨g,0,none⟩,os.n,os.c,t.bD⟩,by rw[<-l7];rfl,⟨(sv.R8 (b:=96) ca (by omega)).mono λx ae=>kF _ ae,λd ah=>?_,ay.bD⟩,?_⟩;·obtain⟨j,an,rfl⟩:=re ah;have hW:j<L.length:=an;exact(B2 j hW (by omega)).mono λx ae=>pS _ ae
  ·unfold cB.ba;simp only;rw[dz,l3,abV]
 have aR:i<t.n:=by have:(i:Int)<(os0.n:Int):=c1 h;omega
 have oF:i<L.length:=by omega
 obtain⟨ad,bF,bk⟩:=a'.ok.row (I:=I) (M:=os.aP 83++wU) (e:=83) aS.cD (by decide) ca (λz bf=>kF _ bf) oF;have rG:=hold i oF (cj _);have sw:=bF;rw[oP]at sw;refine bi.mk ad i sw rfl (by omega) ?_;refine aI.mk _ bk ?_;refine c5.draw aV rfl rfl rfl ?_;refine hf.whole _ (ao1 rG.a8 (R4 _)) (λv I' M' h x ae=>by obtain⟨-,o,-,-,-,e⟩:=h;rw[e];exact pS _ ae) ?_;rintro v EE N -⟨HZ,ok,atH,bj,rfl,dr⟩;subst EE;subst N;refine bi.mk ad i sw rfl (by omega) ?_;have atI:=rG.a8.cap;have gG:z3 (ok.aP 3++wU) { L[i]with hk:=ok.a.map λg=>⟨g,0,none⟩,kn:=ok.n,gR:=ok.c }:=
  { k:=rG.k,dT:=rG.dT,s1:=rG.s1,s2:=rG.s2,ec:=rG.ec,t:=rG.t,lo:=rG.lo,hi:=rG.hi,aL:=rG.aL,a8:=(sv.R8 (b:=8) bj (by omega)).mono λx ae=>kF _ ae }
 have R9:({ L[i]with hk:=ok.a.map λg=>⟨g,0,none⟩,kn:=ok.n,gR:=ok.c }:aS).ba=L[i].ba:=rfl;have gU:=ao4 oF R9;refine a'.Xq (e:=83) aS.cells 9 aS.cD ca oF 8 (vs:=[ok.val]) (bS rfl) rfl { L[i]with hk:=ok.a.map λg=>⟨g,0,none⟩,kn:=ok.n,gR:=ok.c } rfl (ok.aP 3) wU rfl bF ?_;intro hn n7 uZ pI gh;refine bd.mk _ (cx (i:=i) (by omega)) ?_;refine⟨(i+1,hn,L.set i { L[i]with hk:=ok.a.map λg=>⟨g,0,none⟩,kn:=ok.n,gR:=ok.c },ok.aP 3++wU),⟨⟨aR,gh,gU.trans dz,λj an sT=>?_,λj an sT=>?_,uZ.trans oP,n7.trans l7⟩,by simp only;omega⟩,.perm (zg _ _ _) .refl,gS,.cons rfl (.cons rfl (.nil))⟩
 ·simp only at an sT |-;by_cases e:j=i
  ·subst e;rw[GC];exact gG
  ·rw[Dt (by omega)];rw[lT]at an;exact(B2 j an (by omega)).mono λx ae=>pS _ ae
 ·simp only at an sT |-;rw[Dt (by omega)];rw[lT]at an;exact hold j an (by omega)
def ape(ay:t.ok I):Spec Tryz.prog 177 [t.val] I M0 λv I' M'=>I'=I/\∃ (cZ:cB) (M1:List aB),v=cZ.val/\z4 M1 cZ/\cZ.ba=t.ba/\M'=M1++M0:=by refine Spec.nT (Spec.frame (apd ay)) ?_;rintro v J M⟨M',rfl,-,-,rfl,cZ,rfl,aa,ab⟩;exact⟨rfl,cZ,M',rfl,aa,ab,rfl⟩
structure apf(I:aZ)(g:bJ)(os0:a')(x:Nat×a'×List aQ×List aB):Prop where
 i:x.1<=g.n
 ok:x.2.1.ok 3 (x.2.2.1.flatMap aQ.cells)
 ba:x.2.2.1.map aQ.ba=g.ds.map aQ.ba
 own:∀ j,∀ h:j<x.2.2.1.length,j<x.1->z5 x.2.2.2 x.2.2.1[j]
 du:∀ j,∀ h:j<x.2.2.1.length,x.1<=j->x.2.2.1[j].ok I
 a:x.2.1.a=os0.a
 v:x.2.1.val=os0.val
def apg{g:bJ}(au:g.ok I):Spec Tryz.prog 114 [g.val] I [] λv I' M'=>I'=I/\∃ (os:a') (L:List aQ) (M1:List aB),v=.agg #[os.val]/\os.n=g.n/\os.ok 3 (L.flatMap aQ.cells)/\M'=os.aP 58++M1/\L.map aQ.ba=g.ds.map aQ.ba/\∀ d∈L,z5 M1 d:=by
 refine bN [] aV Tryz.func114 rfl rfl rfl ?_;intro B ar;have eH:=au.n;have hz:=au.a8.cap;refine a9.whole _ (ao3 au.a8 (R5 aQ.one _)) ?_;rintro v J N -⟨bM,os0,abV,pB,rfl,dr⟩;subst J;subst N;refine c4.inv (ι:=Nat×a'×List aQ×List aB) (λx=>{ bu:=[(1,.ref 1 0),(2,.ref 2 0),(10,.val os0.val),(11,.val (.int .i64 os0.n)),(12,.val (.int .i64 x.1))],cl:=[(1,[os0.val]),(2,[.slice none 0 0])],cS:=I,db:=x.2.1.aP 58++x.2.2.2 }) (λx=>apf I g os0 x) (λx=>g.n-x.1) ?_ ?_
 ·exact⟨(0,os0,g.ds,[]),⟨bw _,pB,rfl,λj _ h=>absurd h (wy _),λj h _=>au.ds _ (cJ h),rfl,rfl⟩,.refl,gS,.cons rfl (.cons rfl (.nil))⟩
 rintro⟨i,os,L,wU⟩⟨hi,ca,dz,B2,hold,oP,l7⟩;simp only at hi ca dz B2 hold oP l7;have abW:L.length=g.ds.length:=by simpa using congrArg List.length dz
 obtain⟨l3,abX⟩:=LW l7;refine aU.mk (λh=>?_) (λh=>?_)
 rotate_left
 ·have cP:i=g.n:=by have:¬ (i:Int)<(os0.n:Int):=dj h;omega
  refine⟨_,_,.refl,rfl,os,L,wU,by rw[l7];rfl,by omega,ca,rfl,dz,λd ah=>?_⟩;obtain⟨j,an,rfl⟩:=re ah;exact B2 j an (by omega)
 have aR:i<g.n:=by have:(i:Int)<(os0.n:Int):=c1 h;omega
 have oF:i<L.length:=by omega
 obtain⟨ad,bF,bk⟩:=a'.ok.row (I:=I) (M:=os.aP 58++wU) (e:=58) aQ.cD (by decide) ca (λz bf=>kF _ bf) oF;have rG:=hold i oF (cj _);have sw:=bF;rw[oP]at sw;refine bi.mk ad i sw rfl (by omega) ?_;refine aI.mk _ bk ?_;refine c5.draw aV rfl rfl rfl ?_;refine hf.whole _ (ape rG.t) (λv I' M' h x ae=>by obtain⟨-,cZ,M1,-,-,-,e⟩:=h;rw[e];exact pS _ ae) ?_;rintro v EE N -⟨HZ,cZ,M1,rfl,HW,aph,dr⟩;subst EE;subst N;refine bi.mk ad i sw rfl (by omega) ?_;have gG:z5 (M1++wU) ⟨L[i].name,cZ⟩:=⟨rG.name,HW.mono λx ae=>kF _ ae⟩;have R9:(⟨L[i].name,cZ⟩:aQ).ba=L[i].ba:=by unfold aQ.ba;rw[aph]
 have gU:=ao5 oF R9;refine a'.Xq (e:=58) aQ.cells 3 aQ.cD ca oF 1 (vs:=[.slice cZ.a cZ.n cZ.c,.int .i64 cZ.bD]) (bS rfl) rfl ⟨L[i].name,cZ⟩ rfl M1 wU rfl bF ?_;intro hn n7 uZ pI gh;refine bd.mk _ (cx (i:=i) (by omega)) ?_;refine⟨(i+1,hn,L.set i ⟨L[i].name,cZ⟩,M1++wU),⟨⟨aR,gh,gU.trans dz,λj an sT=>?_,λj an sT=>?_,uZ.trans oP,n7.trans l7⟩,by simp only;omega⟩,.perm (zg _ _ _) .refl,gS,.cons rfl (.cons rfl (.nil))⟩
 ·simp only at an sT |-;by_cases e:j=i
  ·subst e;rw[GC];exact gG
  ·rw[Dt (by omega)];rw[lT]at an;exact(B2 j an (by omega)).mono λx ae=>pS _ ae
 ·simp only at an sT |-;rw[Dt (by omega)];rw[lT]at an;exact hold j an (by omega)
def R'(nm:ByteArray):∀ (ds:List aQ) (i:Nat),0<=b2 nm ds i->(i:Int)<=b2 nm ds i/\b2 nm ds i<i+ds.length
 |[],i,h=>by simp[b2]at h
 |d::ds,i,h=>by
  unfold b2 at h |-;cases aA:decide (d.name=nm)with
  |true=>simp only[bl,ea];omega| false=>rw[aA,bh]at h;rw[bh];have:=R' nm ds (i+1) h;simp only[ea];omega
def abY{nm:ByteArray}{ds:List aQ}(h:b2 nm ds 0=(q:Int)):ee nm (bR ds)=some (q:Int):=by rw[aan,h,de (by omega),bh]
def abZ{α β:Type}{z:α}{z':β}(φ:β->α)(bf:φ z'=z){f:aS->(Int->α)->α}{f':aS->(Int->β)->β}:∀ (ns:List aS) (a4:List β),(∀ d∈ns,∀ g:Int->β,f d (λk=>φ (g k))=φ (f' d g))->mo z f ns (a4.map φ)=(mo z' f' ns a4).map φ
 |[],a4,_=>rfl
 |d::ns,a4,h=>by
  have e:(λk:Int=>(a4.map φ).getD k.toNat z)=λk=>φ (a4.getD k.toNat z'):=by
   funext k;simp only[cC,lE];cases a4[k.toNat]? with
   |none=>exact bf.symm| some v=>rfl
  rw[mo,mo,e,h d (.head _)];have:=abZ φ bf (f:=f) (f':=f') ns (a4++[f' d λk=>a4.getD k.toNat z']) λd ah=>h d (.tail _ ah);rw[e7,cY,kR]at this;exact this
def ab0{z:α}{z':β}(φ:β->α)(bf:φ z'=z){f:aS->(Int->α)->α}{f':aS->(Int->β)->β}{ns:List aS}(h:∀ d∈ns,∀ g:Int->β,f d (λk=>φ (g k))=φ (f' d g))(j:Int):qc z f ns j=φ (qc z' f' ns j):=by
 have:=abZ φ bf ns [] h;rw[kR]at this;unfold qc;rw[this];simp only[cC,lE];cases(mo z' f' ns [])[j.toNat]? with
 |none=>exact bf.symm| some v=>rfl
def ab1(pl:List (ByteArray×Int))(F:List a2)(ns:List aS)(j:Int):(ek pl F ns []).getD j.toNat bL=(fE pl F ns j).1:=(Rg pl F ns j).symm
structure Told(pl qJ:List (ByteArray×Int))(F cH:List a2)(up:Nat->Nat)(nm:ByteArray):Prop where
 aO:((ee nm pl).getD 0).toNat=up ((ee nm qJ).getD 0).toNat
 bu:F.getD ((ee nm pl).getD 0).toNat bL=cH.getD ((ee nm qJ).getD 0).toNat bL
section
variable{pl qJ:List (ByteArray×Int)}{F cH:List a2}{up:Nat->Nat}{ns:List aS}(h:∀ d∈ns,d.k=3->Told pl qJ F cH up d.t)
def ab2:∀ xs:List (a2×List Nat),tB (xs.map λx=>(x.1,x.2.map up))=(tB xs).map up
 |[]=>rfl| x::xs=>by rw[cY,tB,tB,e7,ab2 xs];cases x.1.z<;>rfl
include h
def ab3(ah:d∈ns)(xs:List (a2×List Nat)):pO pl F d (xs.map λx=>(x.1,x.2.map up))=((pO qJ cH d xs).1,(pO qJ cH d xs).2.map up):=by
 have cG:(xs.map λx=>(x.1,x.2.map up)).map (·.1)=xs.map (·.1):=by rw[jl];rfl
 have az:hP d ((xs.map λx=>(x.1,x.2.map up)).map (·.1)++bif decide (d.k=3)then [F.getD ((ee d.t pl).getD 0).toNat bL]else [])=hP d (xs.map (·.1)++bif decide (d.k=3)then [cH.getD ((ee d.t qJ).getD 0).toNat bL]else []):=by
  rw[cG];by_cases ag:d.k=3;·rw[(h d ah ag).bu]
  ·rw[de ag];rfl
 have aE:nd pl d (xs.map λx=>(x.1,x.2.map up))=(nd qJ d xs).map up:=by
  unfold nd;by_cases ag:d.k=3;·rw[eN ag,bl,bl,(h d ah ag).aO];rfl
  ·rw[de ag,bh,bh];cases decide (d.k=4)with
   |true=>exact ab2 xs
   |false=>
    rw[bh,bh];cases decide (d.k=6)&&decide (d.hi=0)with
    |true=>rfl| false=>rw[bh,bh,Dv,List.map_flatMap]
 unfold pO;rw[az,aE]
def ab4(j:Int):fE pl F ns j=((fE qJ cH ns j).1,(fE qJ cH ns j).2.map up):=by refine ab0 (z:=(bL,([]:List Nat))) (z':=(bL,([]:List Nat))) (f:=λd g=>pO pl F d (d.aL.map g)) (f':=λd g=>pO qJ cH d (d.aL.map g)) (ns:=ns) (λx:a2×List Nat=>(x.1,x.2.map up)) rfl (λd ah g=>?_) j;have:=ab3 h ah (d.aL.map g);rw[jl]at this;exact this
def api(j:Int):(nf pl F ns j).2=(nf qJ cH ns j).2:=by
 have:=ab0 (z:=((bL,([]:List Nat)),false)) (z':=((bL,([]:List Nat)),false)) (f:=λd g=>BR pl F d (d.aL.map g)) (f':=λd g=>BR qJ cH d (d.aL.map g)) (ns:=ns) (λx:(a2×List Nat)×Bool=>((x.1.1,x.1.2.map up),x.2)) rfl (λd ah g=>?_) j
 ·unfold nf;rw[this]
 ·have az:=ab3 h ah ((d.aL.map g).map (·.1));unfold BR;rw[jl,jl]at az;have aE:En pl F d (d.aL.map λk=>((λx:(a2×List Nat)×Bool=>((x.1.1,x.1.2.map up),x.2)) (g k)))=En qJ cH d (d.aL.map g):=by unfold En;rw[List.any_map,List.any_map];rfl
  simp only[jl]at az |-;refine Prod.ext ?_ aE;exact az
def ab5(d:aQ)(At:d.t.ns=ns):hQ pl F d=hQ qJ cH d:=by unfold hQ;rw[ab1,ab1,At,ab4 h]
end
section
end
open Classical in
def ab6{ds:List aQ}{i:Nat}:i∈pQ ds F ↔ i<ds.length/\l6 (kB ds F) i i:=by unfold pQ;rw[sD,lF,Ry]
def Sa(ax:List Int):∀ (ds:List aQ) (a4:List UInt8),(∀ d∈ds,kZ ax d≠[])->mS ax ds a4=a4++ds.flatMap (kZ ax)
 |[],a4,_=>by simp[mS]
 |d::ds,a4,h=>by
  have aa:¬ strOf (kZ ax d)=⟨#[]⟩:=λe=>by
   refine h d (.head _) ?_;have:(strOf (kZ ax d)).data.toList=[]:=by rw[e]
   exact this
  rw[mS,de aa,bh,Sa ax ds _ λd ah=>h d (.tail _ ah),ob,fq]
def apj(ax:List Int){d:aQ}(ah:d.ok I)(aq:kl d.name=true)(ak:right d.t=true):kZ ax d≠[]:=by
 have aa:¬ strOf (kX ax d.t)=⟨#[]⟩:=λe=>by
  refine amO ax ah.t ak ?_;have:(strOf (kX ax d.t)).data.toList=[]:=by rw[e]
  exact this
 unfold kZ;rw[de aa,aq];simp
def EF{g:bJ}:dF ax g=0 ↔ g.n≠0/\ow g.ds=true/\nF ax g=false/\(∀ i,i<g.ds.length->oB g.ds i=true)/\∀ d∈g.ds,∀ n∈d.t.ns,n.k=3->0<=b2 n.t g.ds 0:=by
 rw[<-VT];have hr:(g.ds.all λd=>d.t.ns.all (zm g.ds))=true ↔ ∀ d∈g.ds,∀ n∈d.t.ns,n.k=3->0<=b2 n.t g.ds 0:=by
  simp only[eP,zm,kH,oX,nr,eU];constructor
  ·intro h d ah n aq ag;rcases h d ah n aq with h | h
   ·exact absurd ag h
   ·exact h
  ·intro h d ah n aq;by_cases ag:n.k=3
   ·exact .inr (h d ah n aq ag)
   ·exact .inl ag
 have aJ:(List.range g.ds.length).all (oB g.ds)=true ↔ ∀ i,i<g.ds.length->oB g.ds i=true:=by simp[eP]
 rw[<-hr,<-aJ];unfold JY;by_cases aa:g.n=0
 ·rw[eN (by omega),bl];exact⟨(λh=>by cases h),(λh=>absurd aa h.1)⟩
 ·rw[de (by omega),bh];cases ow g.ds with
  |false=>exact⟨(λh=>by cases h),(λh=>by cases h.2.1)⟩| true=>
  cases nF ax g with
  |true=>exact⟨(λh=>by cases h),(λh=>by cases h.2.2.1)⟩| false=>
  cases(List.range g.ds.length).all (oB g.ds)with
  |false=>exact⟨(λh=>by cases h),(λh=>by cases h.2.2.2.1)⟩| true=>
  cases(g.ds.all λd=>d.t.ns.all (zm g.ds))with
  |false=>exact⟨(λh=>by cases h),(λh=>by cases h.2.2.2.2)⟩| true=>exact⟨λ_=>⟨aa,rfl,rfl,rfl,rfl⟩,λ_=>rfl⟩
def fF(ds:List aQ):bJ:=⟨ds,none,ds.length,0⟩
def apk{cZ:cB}(ay:t.ok I)(HW:cZ.ok J)(h:cZ.ba=t.ba)(af:mB t):mB cZ:=λn aq=>by
 have aa:n.ba∈t.ns.map aS.ba:=by have ab:cZ.ns.map aS.ba=t.ns.map aS.ba:=congrArg cB.ns h;rw[<-ab];exact dA.2 ⟨n,aq,rfl⟩
 obtain⟨m,hm,e⟩:=dA.1 aa;have ag:m.ba.aL=n.ba.aL:=congrArg aS.aL e;have ag:m.aL=n.aL:=ag;have aW:=(ay.ns m hm).kn;have bC:=(HW.ns n aq).kn;have bP:=af m hm;rw[ag]at aW;omega
def apl{ds:List aQ}(aa:∀ d∈ds,d.ok I)(ab:∀ d∈cX,d.ok J)(h:∀ d∈cX,∃ e∈ds,d.ba=e.ba)(af:∀ d∈ds,mB d.t):∀ d∈cX,mB d.t:=λd ah=>by obtain⟨e,he,aA⟩:=h d ah;exact apk (aa e he).t (ab d ah).t (congrArg aQ.t aA) (af e he)
section
variable{L:List (List Int)}
def Sb(b9:∀ l∈L,valid L.length l){a:Nat}{k:Int}(h:k∈L.getD a []):a<L.length/\0<=k/\k<L.length:=by
 have aC:a<L.length:=by apply Fq;intro bs;simp[cC,bs]at h
 have e:L.getD a []=L[a]:=by simp[cC,aC]
 rw[e]at h;exact⟨aC,b9 _ (cJ aC) k h⟩
end
def et{α:Type}:List Bool->List α->List α
 |b::s,x::l=>bif b then x::et s l else et s l| _,_=>[]
def kC:List Bool->List Nat
 |[]=>[]| b::s=>bif b then 0::(kC s).map (·+1)else(kC s).map (·+1)
def B3{α:Type}:∀ (s:List Bool) (l:List α),List.Sublist (et s l) l
 |[],[]=>.slnil| [],x::l=>fZ _| b::s,[]=>.slnil| true::s,x::l=>(B3 s l).cons₂ x| false::s,x::l=>(B3 s l).cons x
def EG{α β:Type}(f:α->β):∀ (s:List Bool) (l:List α),et s (l.map f)=(et s l).map f
 |[],[]=>rfl| [],x::l=>rfl| b::s,[]=>rfl| true::s,x::l=>congrArg (f x::·) (EG f s l)| false::s,x::l=>EG f s l
def apm{α:Type}(b:Bool)(x:α):∀ (s:List Bool) (l:List α),s.length=l.length->et (s++[b]) (l++[x])=et s l++bif b then [x]else []
 |[],[],_=>by cases b<;>rfl
 |c::s,y::l,h=>by
  have:=apm b x s l (by simpa using h);cases c;·exact this
  ·exact congrArg (y::·) this
def ab7(wh:Bool):∀ (s:List Bool) (i:Nat),gj true i s=(kC s).map λk=>((i+k:Nat):Int)
 |[],i=>rfl
 |b::s,i=>by
  have a7:=ab7 wh s (i+1);cases b with
  |true=>show((i:Nat):Int)::gj true (i+1) s=_;rw[a7,kC,bl,cY,jl];refine congr (congrArg _ (by simp)) (rT λk _=>?_);show((i+1+k:Nat):Int)=((i+(k+1):Nat):Int);rw[show i+1+k=i+(k+1) by omega]| false=>show gj true (i+1) s=_;rw[a7,kC,bh,jl];refine rT λk _=>?_;show((i+1+k:Nat):Int)=((i+(k+1):Nat):Int);rw[show i+1+k=i+(k+1) by omega]
def Sc:∀ (s:List Bool) (k:Nat),k∈kC s ↔ s.getD k false=true
 |[],k=>by simp[kC]
 |b::s,k=>by
  have a7:=Sc s;have h:k∈(kC s).map (·+1) ↔ ∃ j,k=j+1/\s.getD j false=true:=by
   rw[dA];constructor;·rintro⟨j,aa,rfl⟩;exact⟨j,rfl,(a7 j).1 aa⟩
   ·rintro⟨j,rfl,aa⟩;exact⟨j,(a7 j).2 aa,rfl⟩
  cases k with
  |zero=>
   have ar:¬ 0∈(kC s).map (·+1):=λe=>by obtain⟨j,e,-⟩:=h.1 e;omega
   cases b<;>simp[kC]
  |succ k=>
   have aa:k+1∈(kC s).map (·+1) ↔ s.getD k false=true:=by rw[h];exact⟨λ⟨j,e,ab⟩=>by rw[show k=j by omega];exact ab,λab=>⟨k,rfl,ab⟩⟩
   have e:(b::s).getD (k+1) false=s.getD k false:=rfl;rw[e,<-aa];cases b<;>simp[kC]
def ab8:∀ s:List Bool,(kC s).Pairwise (· < ·)
 |[]=>.nil
 |b::s=>by
  have h:((kC s).map (·+1)).Pairwise (· < ·):=by rw[List.pairwise_map];exact(ab8 s).imp λh=>by omega
  cases b with
  |false=>exact h| true=>refine List.pairwise_cons.2 ⟨λx ae=>?_,h⟩;obtain⟨j,-,rfl⟩:=dA.1 ae;omega
def H0{α:Type}:∀ (s:List Bool) (l:List α),s.length=l.length->(et s l).length=(kC s).length/\∀ (i k:Nat),(kC s)[i]?=some k->(et s l)[i]?=l[k]?
 |[],[],_=>⟨rfl,λi k h=>by simp[kC]at h⟩
 |b::s,x::l,h=>by
  obtain⟨aa,ab⟩:=H0 s l (by simpa using h);have hm:∀ (i k:Nat),((kC s).map (·+1))[i]?=some k->(et s l)[i]?=(x::l)[k]?:=λi k af=>by
   rw[lE]at af;cases hu:(kC s)[i]? with
   |none=>rw[hu]at af;cases af| some j=>rw[hu]at af;obtain rfl:j+1=k:=kV af;rw[EP];exact ab i j hu
  cases b with
  |false=>exact⟨by simp[et,kC,aa],hm⟩
  |true=>
   refine⟨by simp[et,kC,aa],λi k af=>?_⟩;cases i with
   |zero=>obtain rfl:0=k:=kV af;rfl
   |succ i=>show(et s l)[i]?=_;exact hm i k af
def ld(s:List Bool)(i:Nat):Nat:=(kC s).getD i 0
def Sd{s:List Bool}{l:List α}(h:s.length=l.length){i:Nat}(hi:i<(et s l).length):l[ld s i]?=(et s l)[i]?/\s.getD (ld s i) false=true:=by
 obtain⟨aa,ab⟩:=H0 s l h;have e:(kC s)[i]?=some (ld s i):=by rw[eb (by omega)];unfold ld;rw[cC,eb (by omega)];rfl
 exact⟨(ab i _ e).symm,(Sc s _).1 (wV e)⟩
def apn{s:List Bool}{i j:Nat}(h:i<j)(an:j<(kC s).length):ld s i<ld s j:=by have:=List.pairwise_iff_getElem.1 (ab8 s) i j (by omega) an h;unfold ld;rw[cC,cC,eb (by omega),eb an];exact this
def ab9{s:List Bool}{l:List α}(h:s.length=l.length){k:Nat}(af:s.getD k false=true):∃ i,i<(et s l).length/\ld s i=k:=by obtain⟨aa,-⟩:=H0 s l h;obtain⟨i,hi,e⟩:=re ((Sc s k).2 af);refine⟨i,by omega,?_⟩;unfold ld;rw[cC,eb hi];exact e
def aca(nm:ByteArray):∀ (ds:List aQ) (i q:Nat),b2 nm ds i=((i+q:Nat):Int) ↔ ∃ h:q<ds.length,ds[q].name=nm/\∀ j (an:j<q),ds[j].name≠nm
 |[],i,q=>by
  unfold b2;constructor;·intro h;omega
  ·rintro⟨h,-⟩;simp at h
 |d::ds,i,q=>by
  have a7:=aca nm ds (i+1);unfold b2;by_cases ah:d.name=nm
  ·rw[eN ah,bl];constructor
   ·intro h;obtain rfl:q=0:=by omega
    exact⟨by simp,ah,λj an=>absurd an (wy _)⟩
   ·rintro⟨aa,ab,ag⟩;cases q with
    |zero=>rfl| succ q=>exact absurd ah (ag 0 (by omega))
  ·rw[de ah,bh];cases q with
   |zero=>
    constructor;·intro h;have:=R' nm ds (i+1) (by omega);omega
    ·rintro⟨aa,ab,ag⟩;exact absurd ab ah
   |succ q=>
    rw[show i+(q+1)=i+1+q by omega,a7 q];constructor
    ·rintro⟨aa,ab,ag⟩;refine⟨by simp;omega,ab,λj an=>?_⟩;cases j with
     |zero=>exact ah| succ j=>exact ag j (by omega)
    ·rintro⟨aa,ab,ag⟩;exact⟨by simpa using aa,ab,λj an=>ag (j+1) (by omega)⟩
def acb{nm:ByteArray}{ds:List aQ}:b2 nm ds 0=(q:Int) ↔ ∃ h:q<ds.length,ds[q].name=nm/\∀ j (an:j<q),ds[j].name≠nm:=by have:=aca nm ds 0 q;rwa [c0]at this
structure tH(ds cX:List aQ)(up:Nat->Nat):Prop where
 sub:List.Sublist cX ds
 aO:∀ i,i<cX.length->ds[up i]?=cX[i]?
 lt:∀ i j,i<j->j<cX.length->up i<up j
 cl:∀ d∈cX,∀ n∈d.t.ns,n.k=3->∃ q,q<cX.length/\b2 n.t cX 0=(q:Int)/\b2 n.t ds 0=((up q:Nat):Int)
def tH.get{ds:List aQ}{up:Nat->Nat}(h:tH ds cX up){i:Nat}(hi:i<cX.length):∃ aa:up i<ds.length,ds[up i]=cX[i]:=by have aa:=h.aO i hi;rw[eb hi]at aa;obtain⟨ab,ag⟩:=hT.1 aa;exact⟨ab,ag⟩
def tH.inj{ds:List aQ}{up:Nat->Nat}(h:tH ds cX up){i j:Nat}(hi:i<cX.length)(an:j<cX.length)(e:up i=up j):i=j:=by
 rcases Nat.lt_trichotomy i j with aa | aa | aa
 ·have:=h.lt i j aa an;omega
 ·exact aa
 ·have:=h.lt j i aa hi;omega
def acc{ds:List aQ}{up:Nat->Nat}(aO:∀ i,i<cX.length->ds[up i]?=cX[i]?)(lt:∀ i j,i<j->j<cX.length->up i<up j){nm:ByteArray}(aM:q<cX.length)(aJ:b2 nm ds 0=((up q:Nat):Int)):b2 nm cX 0=(q:Int):=by
 obtain⟨aa,ab,ag⟩:=acb.1 aJ;have au:∀ i (hi:i<cX.length),∃ aa:up i<ds.length,ds[up i]=cX[i]:=λi hi=>by
  have aa:=aO i hi
  rw[eb hi]at aa;obtain⟨ab,ag⟩:=hT.1 aa;exact⟨ab,ag⟩
 refine acb.2 ⟨aM,?_,λj an=>?_⟩
 ·obtain⟨aW,bC⟩:=au q aM;rw[<-bC];exact ab
 ·obtain⟨aW,bC⟩:=au j (by omega);rw[<-bC];exact ag (up j) (lt j q an aM)
def apo{ds:List aQ}{s:List Bool}(h:s.length=ds.length)(aA:∀ i (hi:i<ds.length),s.getD i false=true->∀ n∈ds[i].t.ns,n.k=3->∃ q:Nat,b2 n.t ds 0=(q:Int)/\s.getD q false=true):tH ds (et s ds) (ld s):=by have av:=(H0 s ds h).1;have kt:∀ i,i<(et s ds).length->ds[ld s i]?=(et s ds)[i]?:=λi hi=>(Sd h hi).1;have aR:∀ i j,i<j->j<(et s ds).length->ld s i<ld s j:=λi j apq an=>apn apq (by omega);refine⟨B3 s ds,kt,aR,λd ah n aq ag=>?_⟩;obtain⟨i,hi,rfl⟩:=re ah;have aa:=kt i hi;rw[eb hi]at aa;obtain⟨ab,aW⟩:=hT.1 aa;obtain⟨q,aM,apr⟩:=aA (ld s i) ab (Sd h hi).2 n (by rw[aW];exact aq) ag;obtain⟨j,an,rfl⟩:=ab9 h apr;exact⟨j,an,acc kt aR an aM,aM⟩
section
variable{ds cX:List aQ}{up:Nat->Nat}(af:tH ds cX up)
include af
def LZ(bU:∀ i,i<cX.length->F.getD (up i) bL=cH.getD i bL){e:aQ}(he:e∈cX):∀ n∈e.t.ns,n.k=3->Told (bR ds) (bR cX) F cH up n.t:=λn aq ag=>by
 obtain⟨q,aM,aa,ab⟩:=af.cl e he n aq ag;have az:=abY aa;have aE:=abY ab;have bz:((some ((up q:Nat):Int)).getD 0).toNat=up q:=by simp
 have cT:((some (q:Int)).getD 0).toNat=q:=by simp
 refine⟨by rw[az,aE,bz,cT],?_⟩;rw[az,aE,bz,cT];exact bU q aM
open Classical in
def aps(h:k3 ds F):k3 cX ((List.range cX.length).map λi=>F.getD (up i) bL)/\∀ i,i<cX.length->F.getD (up i) bL=((List.range cX.length).map λi=>F.getD (up i) bL).getD i bL:=by
 have av:=h.len;have bU:∀ i,i<cX.length->F.getD (up i) bL=((List.range cX.length).map λi=>F.getD (up i) bL).getD i bL:=λi hi=>by rw[cC (l:=(List.range cX.length).map _),lE,Rx hi];rfl
 refine⟨⟨by simp,λi hi=>?_,λm hm aA=>?_⟩,bU⟩
 ·obtain⟨aa,ab⟩:=af.get hi;rw[<-bU i hi,h.fix _ aa,ab];exact ab5 (LZ af bU (cJ hi)) _ rfl
 ·obtain⟨M,a1⟩:∃ M:List a2,M=(List.range ds.length).map λk=>if h:∃ i,i<cX.length/\up i=k then m.getD h.choose bL else⟨true,true,true⟩:=⟨_,rfl⟩
  have acd:∀ k,k<ds.length->M.getD k bL=if h:∃ i,i<cX.length/\up i=k then m.getD h.choose bL else⟨true,true,true⟩:=λk af=>by rw[a1,cC,lE,Rx af];rfl
  have Se:∀ i,i<cX.length->M.getD (up i) bL=m.getD i bL:=λi hi=>by obtain⟨aa,-⟩:=af.get hi;have ae:∃ j,j<cX.length/\up j=up i:=⟨i,hi,rfl⟩;rw[acd _ aa,dif_pos ae];rw[af.inj ae.choose_spec.1 hi ae.choose_spec.2]
  have bs:=h.least M (by rw[a1];simp) λk cw=>by
   by_cases ae:∃ i,i<cX.length/\up i=k;·obtain⟨i,hi,rfl⟩:=ae;obtain⟨aa,ab⟩:=af.get hi;rw[Se i hi,ab];have:=aA i hi;rwa [<-ab5 (LZ af Se (cJ hi)) _ rfl]at this
   ·rw[acd k cw,dif_neg ae];exact⟨λ_=>rfl,λ_=>rfl,λ_=>rfl⟩
  refine ep.of (by simp[hm]) λi hi=>?_;have hi:i<cX.length:=by simpa using hi
  rw[<-bU i hi,<-Se i hi];exact bs.getD _
def ace(bU:∀ i,i<cX.length->F.getD (up i) bL=cH.getD i bL){i:Nat}(hi:i<cX.length):kB ds F (up i)=(kB cX cH i).map up:=by unfold kB;rw[af.aO i hi,eb hi];show(fE _ F cX[i].t.ns _).2=_;rw[ab4 (LZ af bU (cJ hi))]
def apt(bU:∀ i,i<cX.length->F.getD (up i) bL=cH.getD i bL){i:Nat}(hi:i<cX.length):yo ds F (up i)=yo cX cH i:=by unfold yo;rw[af.aO i hi,eb hi];exact api (LZ af bU (cJ hi)) _
def apu(bU:∀ i,i<cX.length->F.getD (up i) bL=cH.getD i bL){i k:Nat}(h:l6 (kB cX cH) i k):l6 (kB ds F) (up i) (up k):=by
 have aR:∀ {i k:Nat},k∈kB cX cH i->i<cX.length:=fun {i k} h=>by apply Fq;intro bs;unfold kB at h;rw[oW bs]at h;cases h
 induction h with
 |one h=>exact .one (by rw[ace af bU (aR h)];exact dA.2 ⟨_,h,rfl⟩)| step h t a7=>exact .step (by rw[ace af bU (aR h)];exact dA.2 ⟨_,h,rfl⟩) a7
end
def apv(f:α->Nat){a b:List α}(h:List.Sublist a b):(a.map f).sum<=(b.map f).sum:=by
 induction h with
 |slnil=>exact cj _| cons x h a7=>simp only[cY,oc];omega| cons_cons x h a7=>simp only[cY,oc];omega
def apw(f:α->List β){a b:List α}(h:List.Sublist a b):(a.flatMap f).length<=(b.flatMap f).length:=by
 induction h with
 |slnil=>exact cj _| cons x h a7=>simp only[ob,cI];omega| cons_cons x h a7=>simp only[ob,cI];omega
def apx{g:bJ}(au:g.ok I){up:Nat->Nat}(af:tH g.ds cX up)(ar:0<cX.length)(hm:dF ax g=0):dF ax (fF cX)=0:=by
 obtain⟨aa,ab,ag,aW,bC⟩:=EF.1 hm;have eH:=au.n;have j3:∀ d,d∈cX->d∈g.ds:=λd ah=>af.sub.subset ah;have bj:=eP.1 ab;have acf:∀ d∈g.ds,kZ ax d≠[]:=λd ah=>by have:=bj d ah;simp only[normal,b']at this;exact apj ax (au.ds d ah) this.1 this.2.1
 refine EF.2 ⟨?_,?_,?_,?_,?_⟩
 ·show cX.length≠0;omega
 ·exact eP.2 λd ah=>bj d (j3 d ah)
 ·unfold nF at ag |-;simp only[oa,nr,CU]at ag |-;obtain⟨ej,ed,fJ,gI⟩:=ag;have ed:=eP.1 ed;refine⟨?_,eP.2 λd ah=>ed d (j3 d ah),?_,?_⟩
  ·show ¬ 64<cX.length;have:=af.sub.length_le;omega
  ·unfold um at fJ |-;have:=apv (λd=>qh d.t) af.sub;show ¬ 1024<(cX.map λd=>qh d.t).sum;omega
  ·show ¬ 8192<(mS ax cX []).length;rw[Sa ax _ _ acf]at gI;rw[Sa ax _ _ λd ah=>acf d (j3 d ah)];have:=apw (kZ ax) af.sub;simp only[jZ]at gI |-;omega
 ·show ∀ i,i<cX.length->oB cX i=true;intro i hi;obtain⟨bP,eo⟩:=af.get hi;have fo:=aW (up i) bP;rw[Re bP]at fo;rw[Re hi];have fo:b2 g.ds[up i].name g.ds 0=((up i:Nat):Int):=c1 fo;rw[eo]at fo;exact eN (acc af.aO af.lt hi fo)
 ·show ∀ d∈cX,∀ n∈d.t.ns,n.k=3->0<=b2 n.t cX 0;intro d ah n aq Bo;obtain⟨q,-,bP,-⟩:=af.cl d ah n aq Bo;omega
def apy{g:bJ}(au:g.ok I){up:Nat->Nat}(af:tH g.ds cX up)(bq:h.ba=(fF cX).ba)(ar:0<cX.length)(hm:dF ax g=0)(bU:k3 g.ds F)(av:(pQ g.ds F).length=0)(e9:(nW g.ds F).length=0) :
  dF ax h=0/\∃ cH,k3 h.ds cH/\(pQ h.ds cH).length=0/\(nW h.ds cH).length=0:=by
 have nq:=apx au af ar hm;have e5:h.ds.map aQ.ba=cX.map aQ.ba:=congrArg bJ.ds bq;obtain⟨f1,f2⟩:=aps af bU;generalize(List.range cX.length).map (λi=>F.getD (up i) bL)=cH at f1 f2;refine⟨by rw[<-Dj,bq,Dj];exact nq,cH,abO (by rw[e5];exact ahI f1),?_,?_⟩
 ·have az:pQ h.ds cH=pQ cX cH:=by
   have ak:kB h.ds cH=kB cX cH:=by funext i;rw[<-R0,e5,R0]
   have bQ:h.ds.length=cX.length:=by have:=congrArg List.length e5;simpa using this
   unfold pQ;rw[ak,bQ]
  rw[az,Ly,HK];intro i hi;rw[ab6]at hi;rw[Ly,HK]at av;refine av (up i) ?_;rw[ab6];obtain⟨bP,-⟩:=af.get hi.1;exact⟨bP,apu af f2 hi.2⟩
 ·have az:nW h.ds cH=nW cX cH:=by rw[<-R1,e5,R1]
  rw[az,Ly,HK];intro i hi;unfold nW at hi;rw[sD,lF]at hi;rw[Ly,HK]at e9;refine e9 (up i) ?_;unfold nW;rw[sD,lF];obtain⟨bP,-⟩:=af.get hi.1;exact⟨bP,by rw[apt af f2 hi.1];exact hi.2⟩
def L0{g:bJ}(aq:g.ds.length=g.n){i k:Nat}(hi:i<g.ds.length)(af:k<g.ds.length):(k:Int)∈(dC g).getD i [] ↔ ∃ bT∈g.ds[i].t.ns,bT.k=3/\b2 bT.t g.ds 0=(k:Int):=by
 rw[dC,cC,lE,eb hi];show(k:Int)∈gj true 0 (ox g.ds g.n (ht g.ds[i].t.ns)) ↔ _;rw[N'];unfold iY;rw[ox,abQ aq _ _ (by simp) k (by omega)];have bf:(List.replicate g.n false).getD k false=true ↔ False:=by
  by_cases fI:k<g.n<;>simp[cC,Od,fI]
 rw[bf,false_or];constructor
 ·rintro⟨nm,n6,aJ⟩;obtain⟨bT,cg,rfl⟩:=dA.1 n6;obtain⟨aa,ab⟩:=sD.1 cg;exact⟨bT,aa,c1 ab,aJ⟩
 ·rintro⟨bT,aa,ab,ag⟩;exact⟨bT.t,dA.2 ⟨bT,sD.2 ⟨aa,eN ab⟩,rfl⟩,ag⟩
section
variable{ds cX:List aQ}{up:Nat->Nat}(af:tH ds cX up)
include af
def acg{i k:Nat}(hi:i<cX.length)(cw:k<cX.length):(k:Int)∈(dC (fF cX)).getD i [] ↔ ((up k:Nat):Int)∈(dC (fF ds)).getD (up i) []:=by
 obtain⟨aa,ab⟩:=af.get hi;obtain⟨ag,-⟩:=af.get cw;rw[L0 (g:=fF cX) rfl hi cw,L0 (g:=fF ds) rfl aa ag];show(∃ bT∈cX[i].t.ns,_) ↔ ∃ bT∈ds[up i].t.ns,_;rw[ab];constructor
 ·rintro⟨bT,a,b,c⟩;obtain⟨q,aM,az,aE⟩:=af.cl _ (cJ hi) bT a b;have c:b2 bT.t cX 0=(k:Int):=c;obtain rfl:q=k:=by omega
  exact⟨bT,a,b,aE⟩
 ·rintro⟨bT,a,b,c⟩;obtain⟨q,aM,az,aE⟩:=af.cl _ (cJ hi) bT a b;have c:b2 bT.t ds 0=((up k:Nat):Int):=c;obtain rfl:q=k:=af.inj aM cw (by omega);exact⟨bT,a,b,az⟩
def apz{i b:Nat}(hi:i<cX.length)(ai:b<ds.length)(h:(b:Int)∈(dC (fF ds)).getD (up i) []):∃ k,k<cX.length/\b=up k:=by obtain⟨aa,ab⟩:=af.get hi;obtain⟨bT,a,c,e⟩:=(L0 (g:=fF ds) rfl aa ai).1 h;have a:bT∈ds[up i].t.ns:=a;rw[ab]at a;obtain⟨q,aM,az,aE⟩:=af.cl _ (cJ hi) bT a c;have e:b2 bT.t ds 0=(b:Int):=e;exact⟨q,aM,by omega⟩
def apA{i b:Nat}(hi:i<cX.length):Comes (dC (fF ds)) (up i) b ↔ ∃ a,a<cX.length/\b=up a/\Comes (dC (fF cX)) i a:=by
 have Sf:=uu (g:=fF cX) rfl;have b9:=uu (g:=fF ds) rfl;have eO:(dC (fF cX)).length=cX.length:=by simp[dC,fF]
 have h0:(dC (fF ds)).length=ds.length:=by simp[dC,fF]
 constructor
 ·intro h
  induction h with
  |self=>exact⟨i,hi,rfl,.self⟩| @next a k aA u1 a7=>obtain⟨bY,wu,rfl,rQ⟩:=a7;obtain⟨ej,ed,fJ⟩:=Sb b9 u1;obtain⟨dJ,iI,e⟩:=apz af wu (by omega) u1;refine⟨dJ,iI,e,?_⟩;rw[e]at u1;exact Comes.next rQ ((acg af wu iI).2 u1)
 ·rintro⟨a,aC,rfl,h⟩;clear aC
  induction h with
  |self=>exact .self| @next a k aA u1 a7=>obtain⟨ej,ed,fJ⟩:=Sb Sf u1;exact Comes.next a7 ((acg af (by omega) (by omega)).1 u1)
end
def apB{g:bJ}(aq:g.ds.length=g.n):dC (fF g.ds)=dC g:=by unfold dC C3 fF;simp only;rw[aq]
def H2(g:bJ):dC g.ba=dC g:=by
 have aJ:∀ (nm:ByteArray) (ds:List aQ) (i:Nat),b2 nm (ds.map aQ.ba) i=b2 nm ds i:=λnm ds=>by
  induction ds with
  |nil=>intro i;rfl| cons d ds a7=>intro i;rw[cY,b2,b2,a7];rfl
 have n6:∀ d:aQ,ht d.ba.t.ns=ht d.t.ns:=λd=>by show ht (d.t.ns.map aS.ba)=_;unfold ht;rw[List.filter_map,jl];rfl
 unfold dC;show(g.ds.map aQ.ba).map _=_;rw[jl];refine rT λd _=>?_;show gj true 0 (ox (g.ds.map aQ.ba) g.n (ht d.ba.t.ns))=gj true 0 (ox g.ds g.n (ht d.t.ns));rw[n6];unfold ox;congr 1;congr 1;funext s nm;rw[aJ]
def eD(l:List Int):List Bool:=(List.range 64).map λ(i:Nat)=>decide ((i:Int)∈l)
def ho(l:List Int):(eD l).length=64:=by simp[eD]
def z7{l:List Int}{i:Nat}(hi:i<64):(eD l).getD i false=decide ((i:Int)∈l):=by unfold eD;rw[cC,lE,Rx hi];rfl
def apC(s:List Bool)(n i:Nat):(s.take n).getD i false=if i<n then s.getD i false else false:=by rw[cC,cC,j9];split<;>rfl
def Sg{a b:List Bool}(av:a.length=b.length)(h:∀ i,i<a.length->a.getD i false=b.getD i false):a=b:=by refine xi av λi aa ab=>?_;have:=h i aa;rw[cC,cC,eb aa,eb ab]at this;exact this
def apD{s:List Bool}(ap:s.length<=64):(eD (gj true 0 s)).take s.length=s:=by
 refine Sg (by rw[hh,ho];omega) λi hi=>?_;rw[hh,ho]at hi;have hi:i<s.length:=by omega
 rw[apC,cn hi,z7 (by omega)];cases h:s.getD i false with
 |true=>exact eN (N'.2 h)| false=>refine de λaa=>?_;have:=N'.1 aa;unfold iY at this;rw[h]at this;cases this
section
variable{ax:List Int}{g:bJ}(aq:g.ds.length=g.n)(hm:dF ax g=0)
include aq hm
def apE{i:Nat}(hi:i<g.ds.length){bT:aS}(cg:bT∈g.ds[i].t.ns)(ag:bT.k=3):∃ q:Nat,b2 bT.t g.ds 0=(q:Int)/\q<g.ds.length/\(q:Int)∈(dC g).getD i []:=by obtain⟨-,-,-,-,bC⟩:=EF.1 hm;have bP:=bC _ (cJ hi) bT cg ag;have eo:=R' bT.t g.ds 0 bP;obtain⟨q,aM⟩:=h' bP;exact⟨q,aM,by omega,(L0 aq hi (by omega)).2 ⟨bT,cg,ag,aM⟩⟩
def apF{s:List Bool}(ap:s.length=g.ds.length)(aA:∀ i,i<g.ds.length->s.getD i false=true->∀ k:Nat,(k:Int)∈(dC g).getD i []->s.getD k false=true):tH g.ds (et s g.ds) (ld s):=
 apo ap λi hi aa bT cg ag=>by obtain⟨q,aW,bC,bP⟩:=apE aq hm hi cg ag;exact⟨q,aW,aA i hi aa q bP⟩
def ach{i:Nat}(hi:i<g.ds.length):(gw (dC g) i).length=g.ds.length/\tH g.ds (et (gw (dC g) i) g.ds) (ld (gw (dC g) i)):=by
 have b9:=uu aq;have av:(dC g).length=g.ds.length:=by simp[dC]
 have aJ:=F8 b9 (i:=i) (by omega);have aa:(gw (dC g) i).length=g.ds.length:=by rw[aJ.len,av]
 refine⟨aa,apF aq hm aa λa aC ab k af=>?_⟩;have:=Comes.next ((aJ.iff a).1 ab) af;have ag:=(aJ.iff _).2 this;unfold iY at ag;simpa using ag
def apG(dz:h.ba=(fF (et (gw (dC g) 0) g.ds)).ba) : h.n=(pC ax g 0).length/\gj false 0 (gw (dC h) 0)=[]/\ld (gw (dC g) 0) 0=0/\0<(et (gw (dC g) 0) g.ds).length /\
  ∀ i,i<(et (gw (dC g) 0) g.ds).length->(pC ax g 0)[i]?=some ((ld (gw (dC g) 0) i:Nat):Int):=by
 have ar:0<g.ds.length:=by have:=(EF.1 hm).1;omega
 have b9:=uu aq;have av:(dC g).length=g.ds.length:=by simp[dC]
 have aJ:=F8 b9 (i:=0) (by omega);obtain⟨aa,af⟩:=ach aq hm ar;have iu:pC ax g 0=gj true 0 (gw (dC g) 0):=by
  unfold pC;have:nH 0 g.n=true:=by unfold nH;simp;omega
  rw[this,eN hm];rfl
 have eA:dC h=dC (fF (et (gw (dC g) 0) g.ds)):=by rw[<-H2 h,dz,H2]
 have EH:h.n=(et (gw (dC g) 0) g.ds).length:=congrArg bJ.n dz;rw[iu,eA,ab7 true];have A0:(gw (dC g) 0).getD 0 false=true:=(aJ.iff 0).2 .self;have aci:=aJ.iff;generalize ap:gw (dC g) 0=s at aa af EH A0 aci |-;have bQ:=(H0 s g.ds aa).1;obtain⟨i0,JI,cG⟩:=ab9 aa A0;have acj:ld s 0=0:=by
  by_cases e:i0=0;·rw[e]at cG;exact cG
  ·have:=af.lt 0 i0 (by omega) JI;omega
 have jV:0<(et s g.ds).length:=by omega
 refine⟨by rw[EH,c8,bQ],?_,acj,jV,λi hi=>?_⟩
 ·rw[HK];intro k u1;obtain⟨j,rfl,-⟩:=(F' _ _ _ _).1 u1;rw[c0]at u1;have Sf:=uu (g:=fF (et s g.ds)) rfl;have kd:(dC (fF (et s g.ds))).length=(et s g.ds).length:=by simp[dC,fF]
  have vy:=F8 Sf (i:=0) (by omega);obtain⟨ab,ag⟩:=af0.1 u1;rw[vy.len,kd]at ab;refine ag ((vy.iff j).2 ?_);have aW:Comes (dC (fF g.ds)) (ld s 0) (ld s j):=by rw[acj,apB aq];exact(aci _).1 (Sd aa ab).2
  obtain⟨a,aC,e,aA⟩:=(apA af jV).1 aW;rw[af.inj ab aC e];exact aA
 ·rw[lE,eb (by omega)];unfold ld;rw[cC,eb (by omega)];simp
end
section
variable{X:c3}{β:Nat->Nat}{F:Fr}{C:dp}{I:aZ}{M:List aB}{o:Oper}{K:fX}
def bn.apH(aN:c2 X.P X.E){t:Nat}(aw:o.op=.call { callee:=.builtin .copy,args:=#[x,y],argTypes:=#[t,t] })(ah:∀ d,o.dst=some d->d<X.n)
 {aH:dU} (ay:X.E t=some dk) (dW:dk.bE=.slice e) (he:X.E e=some aH)
 {g c:Nat} {aK:List Value} (ae:bB F x=.val (.slice (some ⟨g,0,none⟩) n c)) (aA:n*aH.size<=aK.length)
  {sa:Option Addr} (aF:bB F y=.val (.slice sa n c')) {bV:List Value} (av:bV.length=n*aH.size) (aq:0<n->∃ ad,sa=some ad/\cr I M ad (n*aH.size) bV) (aa:fO bV=true)
  (bc post:List aB) (a1:M=bc++⟨g,.cells aK.toArray e (0,0)⟩::post)
  (k:K (put o.dst (.val (.int .i64 n)) F) C I (bc++⟨g,.cells (bo aK 0 bV).toArray e (0,0)⟩::post)):bn X o F C I M K:=by
 refine⟨λa w Q ⟨β,a5⟩=>?_⟩;have hu:=DC aN ay dW;obtain⟨inf,z,hi,fb,hV,iq,kM⟩:=(aN _ _ he).inf;have au:w.heap[g]?=some (.cells aK.toArray e (0,0)):=a5.holds.m ⟨g,.cells aK.toArray e (0,0)⟩ (by rw[a1];simp);have dE:=run_storeCells_at X.P g 0 e bV 0 aK.toArray w au (by rw[av];simpa using aA) (w4 aa);simp only[nj]at dE;have aJ:(Builtin.firstCells aH.size n (.slice sa n c')).run X.P w=.ok bV.toArray w:=by
  by_cases ar:0<n
  ·obtain⟨ad,rfl,ch,cs,T,al,dS,aj,av⟩:=aq ar;refine run_firstCells_some (P:=X.P) w aH.size n ad n c' bV av λj v an=>?_;rw[dL _ ch,sL (dS.heap a5.holds)];rw[<-aj,j9]at an;split at an
   ·rw[nZ]at an;simpa using an
   ·cases an
  ·have ab:n=0:=by omega
   subst ab;have ag:bV=[]:=jh (by rw[av,vw]);subst ag;cases sa with
   |none=>simp[Builtin.firstCells]| some ad=>exact run_firstCells_some (P:=X.P) w aH.size 0 ad 0 c' [] (by simp) λj v an=>by simp at an
 have ex:=dh a5.al ae;have mM:=dh a5.al aF;refine il (by rw[aw];simp) (v:=.int .i64 n) (w':=w.setRow g (bo aK 0 bV).toArray) ?_ ⟨_,_,_,_,⟨β,cV.put (x:=.val (.int .i64 n)) ?_ ah rfl⟩,k⟩
 ·have eV:(Builtin.copy_ #[t,t] o.type #[.slice (some ⟨g,0,none⟩) n c,.slice sa n c']).run X.P w=.ok (.int .i64 n) (w.setRow g (bo aK 0 bV).toArray):=by rw[<-fb]at aJ;simp[Builtin.copy_,run_underlying hu,Builtin.lenOf,sizeOf,typeInfo,hi,aJ,dE,bo,goInt]
  unfold execOp;simp only[aw,resolve,invoke,builtin,cm,c9,b3,sW,cY,kR,ex,mM,eV]
 ·exact a5.vb a1
end
end Go.V
