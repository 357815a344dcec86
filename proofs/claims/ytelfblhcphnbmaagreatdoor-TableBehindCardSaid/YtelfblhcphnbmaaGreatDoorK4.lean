/- Part 4 of what the proofs of this seat share: the executor, data in memory, walks.
-/
import Derived.Test.YtelfblhcphnbmaaGreatDoorK3
import Derived.Test.YtelfblhcphnbmaaGreatDoorK2
import Derived.Laws.IdiomStrings
import Derived.Lib.SliceRun
set_option linter.all false
set_option maxHeartbeats 8000000
namespace Go.V
open Go Go.Proofs
def qe:=@List.getElem_range
def ud:=@Nat.ble_eq_true_of_le
def qf:=@List.perm_middle
def rc:=@List.length_range
def zq:=@List.length_singleton
def vS:=@List.length_set
def zr:=@List.replicate_succ
def E9:=@List.perm_append_comm_assoc
def E':=@Int.tdiv_eq_ediv_of_nonneg
def BX:=@List.getElem_set_self
def qg:=@Nat.ble_eq
def Fa:=@List.singleton_append
def IZ:=@List.getElem_append_right
def BY:=@List.flatMap_map
def I0:=@Nat.add_sub_cancel_left
def Fb:=@List.take_append
def Fc:=@Nat.le_max_right
def PF:=@List.drop_append_of_le_length
def I1:=@List.pairwise_append
def Fe:=@Nat.le_max_left
def Ff:=@Nat.zero_lt_one
def I2:=@BitVec.toNat_ofNat
variable{I I':aN}{M:List aC}{vs args xs news cur:List Value}{pl:List (ByteArray×Int)}{K:Value->aN->List aC->Prop}{d:a1}{g:(Nat->Nat->bg)->bg}{s hi x mx:Operand}{kn m':Nat->Nat->bg}{cd:List (Nat×Nat)}{L bF dL:List Nat}{c z fq p src dst b6 c':Nat}{lo:Int}{A:Nat->Nat->Prop}{cP aE Fg:dw}{ad:Option Addr}{α:Type}{os:bb}{c4 fy:IntKind}
def PG(ns:List a1):Nat->List Int->List Int->List Int
 |0,_,b=>b
 |f+1,todo,b=>match todo.getLast? with
  |none=>b| some n=>PG ns f (todo.dropLast++(nodeAt ns n.toNat).kids) (b++[n])
def Yj(ns:List a1)(node:Int):List Int:=PG ns (ns.length+1) [node] []
def a1.oi(d:a1):a1:=⟨d.k,d.fT,d.s1,d.s2,d.gv,d.t,d.lo,d.hi,none,0,0,d.kids⟩
def a1.I3(d:a1)(l:List Int):a1:=⟨d.k,d.fT,d.s1,d.s2,d.gv,d.t,d.lo,d.hi,none,0,0,l⟩
def Yk(ns:List a1)(ap:List Int×List a1)(b:Int):List Int×List a1:=
 (ap.1.set b.toNat ap.2.length,ap.2++[(nodeAt ns b.toNat).I3 ((nodeAt ns b.toNat).kids.map λk=>(ap.1.set b.toNat ap.2.length).getD k.toNat 0)])
def Yl(ns:List a1)(node:Int):List a1:=((Yj ns node).reverse.foldl (Yk ns) (List.replicate ns.length 0,[])).2
structure cK where
 z:Bool
 s:Bool
 f:Bool
 deriving DecidableEq
def cK.cells(x:cK):List Value:=[.bool x.z,.bool x.s,.bool x.f]
def cK.val(x:cK):Value:=.agg #[.bool x.z,.bool x.s,.bool x.f]
def cK.cV(x:cK):x.cells.length=3:=rfl
def cK.zs(x:cK):Bool:=x.z||x.s
structure BZ(I:aN)(M:List aC)(a:Option Addr)(n:Nat)(ks:List cK):Prop where
 n:ks.length=n
 rd:∀ j (h:j<ks.length),∃ ad,a=some ad/\ck I M (ad.add (j*3)) 3 ks[j].cells
def ue(ap:cK×Bool)(k:cK):cK×Bool:=(⟨ap.1.z&&k.z,ap.1.s||k.s,ap.1.f||(ap.2&&k.f)⟩,ap.2&&k.zs)
def B0(ks:List cK):cK×Bool:=ks.foldl ue (⟨true,false,false⟩,true)
def PH(ks:List cK):cK:=⟨(B0 ks).1.z,(B0 ks).1.s&&(B0 ks).2,(B0 ks).1.f⟩
def zt(f k:cK):cK:=⟨f.z||(f.f&&k.z),f.s||(f.f&&k.s),f.f&&k.f⟩
def Ym(ks:List cK):cK:=ks.foldl zt ⟨false,false,true⟩
def jP:cK:=⟨false,false,false⟩
def Fh(d:a1)(k:cK):cK:=bif decide (d.hi=0)then⟨true,false,false⟩else⟨k.z||(decide (d.lo=0)&&k.f),k.s,decide (0<d.lo)&&k.f⟩
def Fi(d:a1)(ks:List cK):cK:=
 bif decide (d.k=0)then⟨true,false,false⟩else
 bif decide (d.k=1)then⟨false,!d.oW,true⟩else
 bif decide (d.k=2)then⟨false,true,true⟩else
 bif decide (d.k=3)then ks.headD jP else
 bif decide (d.k=4)then PH ks else
 bif decide (d.k=5)then Ym ks else
 bif decide (d.k=6)then Fh d (ks.headD jP)else
 bif decide (d.k=7)then⟨(ks.headD jP).zs,false,(ks.headD jP).f⟩else
 bif decide (d.k=8)then⟨(ks.headD jP).f,false,(ks.headD jP).zs⟩else ks.headD jP
section
variable{I:aN}{M:List aC}{d:a1}{a:Option Addr}{n c:Nat}{ks:List cK}
def BZ.head(af:BZ I M a n ks)(au:0<n):∃ ad,a=some ad/\ck I M (ad.add (0*3)) 3 (ks.headD jP).cells:=by
 have aa:0<ks.length:=by rw[af.n];exact au
 obtain⟨ad,ab,ai⟩:=af.rd 0 aa;refine⟨ad,ab,?_⟩;cases ks with
 |nil=>simp at aa| cons k ks=>exact ai
end
def ck.mono{a:Addr}{n:Nat}(h:ck I M a n vs)(a':∀ b o,I b=some o->I' b=some o):ck I' M a n vs:=by obtain⟨aa,cs,T,aj,ab,ai⟩:=h;exact⟨aa,cs,T,aj,ab.imp (a' _ _) id,ai⟩
def PI(ap:List a1×List Int)(l:List a1):List a1×List Int:=
 (ap.1++l.map (λx=>x.I3 (x.kids.map λk=>(ap.1.length:Int)+k)),ap.2++[((ap.1.length+l.length:Nat):Int)-1])
def Yn(d:a1)(Fj:List (List a1)):List a1:=(Fj.foldl PI ([],[])).1++[d.I3 (Fj.foldl PI ([],[])).2]
section
variable{X:b'}{β:Nat->Nat}{a:Act}{w:World}{F:Fr}{C:cG}{I:aN}{M:List aC}{o:Oper}{Q:Exit->Act->World->Prop}{K:eF}
end
def PJ:List (ByteArray×Int)->Nat->List bP->List (ByteArray×Int)
 |acc,_,[]=>acc| acc,i,d::ds=>PJ (bif (hT d.name acc).isSome then acc else acc++[(d.name,(i:Int))]) (i+1) ds
def B1(ds:List bP):List (ByteArray×Int):=PJ [] 0 ds
def bb.zero{os:bb}{size:Nat}{xs:List Value}(h:os.ok size xs):bb.ok ⟨os.a,0,os.c,os.cur⟩ size []:=by refine⟨by simp,λav=>⟨rfl,(h.nil av).2⟩,λg aG=>?_⟩;obtain⟨aa,ab,ai,aQ⟩:=h.cap g aG;exact⟨aa,bk _,ai,by simp⟩
def Fk(pl:List (ByteArray×Int))(ca acc:List cK)(d:a1):List cK:=
 d.kids.map (λk=>acc.getD k.toNat jP)++bif decide (d.k=3)then [ca.getD ((hT d.t pl).getD 0).toNat jP]else []
def Fl(pl:List (ByteArray×Int))(ca:List cK):List a1->List cK->List cK
 |[],acc=>acc| d::ds,acc=>Fl pl ca ds (acc++[Fi d (Fk pl ca acc d)])
structure cK.le(a b:cK):Prop where
 z:a.z=true->b.z=true
 s:a.s=true->b.s=true
 f:a.f=true->b.f=true
def cK.le_refl(a:cK):a.le a:=⟨id,id,id⟩
def cK.le.trans{a b c:cK}(h:a.le b)(bf:b.le c):a.le c:=⟨λx=>bf.z (h.z x),λx=>bf.s (h.s x),λx=>bf.f (h.f x)⟩
def within(a b:cK):Bool:=(!a.z||b.z)&&((!a.s||b.s)&&(!a.f||b.f))
def cK.I4{a b:cK}(h:a.le b):a.zs=true->b.zs=true:=by intro aq;simp only[cK.zs,ku]at aq |-;exact aq.imp h.z h.s
inductive e8:List cK->List cK->Prop
 |nil:e8 [] []| cons {a b l m} (h:cK.le a b) (t:e8 l m):e8 (a::l) (b::m)
def e8.trans:∀ {a b c},e8 a b->e8 b c->e8 a c
 |_,_,_,.nil,.nil=>.nil| _,_,_,.cons h t,.cons bf dU=>.cons (h.trans bf) (t.trans dU)
def e8.len:∀ {a b},e8 a b->a.length=b.length
 |_,_,.nil=>rfl| _,_,.cons h t=>by simp[t.len]
def e8.append:∀ {a b c d},e8 a b->e8 c d->e8 (a++c) (b++d)
 |_,_,_,_,.nil,h=>h| _,_,_,_,.cons h t,bf=>.cons h (t.append bf)
def e8.getD:∀ {a b},e8 a b->∀ i,(a.getD i jP).le (b.getD i jP)
 |_,_,.nil,i=>by simp;exact cK.le_refl _
 |_,_,.cons h t,0=>h| _,_,.cons h t,i+1=>by simpa using t.getD i
def e8.of:∀ {a b:List cK},a.length=b.length->(∀ i,i<a.length->(a.getD i jP).le (b.getD i jP))->e8 a b
 |[],[],_,_=>.nil| x::a,y::b,ay,h=>.cons (by simpa using h 0 (by simp)) (e8.of (by simpa using ay) λi hi=>by simpa using h (i+1) (by simpa using hi))
def e8.map{α:Type}{f g:α->cK}:∀ {l:List α},(∀ x∈l,(f x).le (g x))->e8 (l.map f) (l.map g)
 |[],_=>.nil| x::l,h=>.cons (h x (.head _)) (e8.map λy aL=>h y (.tail _ aL))
def e8.head{a b:List cK}(h:e8 a b):(a.headD jP).le (b.headD jP):=by
 cases h with
 |nil=>exact cK.le_refl _| cons h _=>exact h
def PK:∀ {a b:List cK},e8 a b->∀ {x y:cK×Bool},x.1.le y.1->(x.2=true->y.2=true)->(a.foldl ue x).1.le (b.foldl ue y).1/\((a.foldl ue x).2=true->(b.foldl ue y).2=true)
 |_,_,.nil,_,_,aa,ab=>⟨aa,ab⟩
 |_,_,.cons h t,x,y,aa,ab=>by
  refine PK t ⟨?_,?_,?_⟩ ?_;·simp only[ue,bG];exact λg=>⟨aa.z g.1,h.z g.2⟩
  ·simp only[ue,ku];exact λg=>g.imp aa.s h.s
  ·simp only[ue,ku,bG];exact λg=>g.imp aa.f λg=>⟨ab g.1,h.f g.2⟩
  ·simp only[ue,bG];exact λg=>⟨ab g.1,cK.I4 h g.2⟩
def PL:∀ {a b:List cK},e8 a b->∀ {x y:cK},x.le y->(a.foldl zt x).le (b.foldl zt y)
 |_,_,.nil,_,_,aa=>aa
 |_,_,.cons h t,x,y,aa=>by
  refine PL t ⟨?_,?_,?_⟩;·simp only[zt,ku,bG];exact λg=>g.imp aa.z λg=>⟨aa.f g.1,h.z g.2⟩
  ·simp only[zt,ku,bG];exact λg=>g.imp aa.s λg=>⟨aa.f g.1,h.s g.2⟩
  ·simp only[zt,bG];exact λg=>⟨aa.f g.1,h.f g.2⟩
def Yo(d:a1){a b:cK}(h:a.le b):(Fh d a).le (Fh d b):=by
 unfold Fh;cases decide (d.hi=0)with
 |true=>exact cK.le_refl _
 |false=>
  refine⟨?_,h.s,?_⟩;·simp only[aY,ku,bG];exact λg=>g.imp h.z λg=>⟨g.1,h.f g.2⟩
  ·simp only[aY,bG];exact λg=>⟨g.1,h.f g.2⟩
def Yp(d:a1){a b:List cK}(h:e8 a b):(Fi d a).le (Fi d b):=by
 have a4:=h.head;unfold Fi;cases decide (d.k=0)with
 |true=>exact cK.le_refl _| false=>
 cases decide (d.k=1)with
 |true=>exact cK.le_refl _| false=>
 cases decide (d.k=2)with
 |true=>exact cK.le_refl _| false=>
 cases decide (d.k=3)with
 |true=>exact a4| false=>
 cases decide (d.k=4)with
 |true=>have aq:=PK h (x:=(⟨true,false,false⟩,true)) (y:=(⟨true,false,false⟩,true)) (cK.le_refl _) id;refine⟨aq.1.z,?_,aq.1.f⟩;simp only[aZ,aY,PH,B0,bG];exact λg=>⟨aq.1.s g.1,aq.2 g.2⟩
 |false=>
 cases decide (d.k=5)with
 |true=>exact PL h (cK.le_refl _)| false=>
 cases decide (d.k=6)with
 |true=>exact Yo d a4| false=>
 cases decide (d.k=7)with
 |true=>exact⟨cK.I4 a4,id,a4.f⟩| false=>
 cases decide (d.k=8)with
 |true=>exact⟨a4.f,id,cK.I4 a4⟩| false=>exact a4
def Yq{ca vT acc B2:List cK}(h:e8 ca vT)(av:e8 acc B2)(d:a1):e8 (Fk pl ca acc d) (Fk pl vT B2 d):=by
 unfold Fk;refine(e8.map λk _=>av.getD _).append ?_;cases decide (d.k=3)with
 |true=>exact .cons (h.getD _) .nil| false=>exact .nil
def PM{pl:List (ByteArray×Int)}{ca vT:List cK}(h:e8 ca vT):∀ (ds:List a1) {acc B2:List cK},e8 acc B2->e8 (Fl pl ca ds acc) (Fl pl vT ds B2)
 |[],_,_,av=>av| d::ds,_,_,av=>PM h ds (av.append (.cons (Yp d (Yq h av d)) .nil))
def xF(pl:List (ByteArray×Int))(ca:List cK)(d:bP):cK:=(Fl pl ca d.t.ns []).getD d.t.root.toNat jP
def I5{ca vT:List cK}(h:e8 ca vT)(d:bP):(xF pl ca d).le (xF pl vT d):=(PM h d.t.ns .nil).getD _
structure I6(ds:List bP)(l:List cK):Prop where
 len:l.length=ds.length
 up:∀ i (h:i<ds.length),(l.getD i jP).le (xF (B1 ds) l ds[i])
 least:∀ m:List cK,m.length=ds.length->(∀ i (h:i<ds.length),(xF (B1 ds) m ds[i]).le (m.getD i jP))->e8 l m
def I7(l:List cK)(i j:Nat)(x:cK)(hi:i<l.length):(l.set i x).getD j jP=if i=j then x else l.getD j jP:=by
 simp only[dT,r8];by_cases e:i=j
 ·subst e;simp[hi]
 ·rw[b7 e,b7 e]
def I6.step{ds:List bP}{l:List cK}(h:I6 ds l){i:Nat}(hi:i<ds.length):I6 ds (l.set i (xF (B1 ds) l ds[i]))/\e8 l (l.set i (xF (B1 ds) l ds[i])):=by
 have eI:i<l.length:=by rw[h.len];exact hi
 have hle:e8 l (l.set i (xF (B1 ds) l ds[i])):=e8.of (by simp) λj ar=>by
  rw[I7 _ _ _ _ eI];by_cases e:i=j;·subst e;rw[cv rfl];exact h.up i hi
  ·rw[b7 e];exact cK.le_refl _
 refine⟨⟨by simpa using h.len,λj ar=>?_,λm hm aF=>?_⟩,hle⟩
 ·rw[I7 _ _ _ _ eI];by_cases e:i=j
  ·subst e;rw[cv rfl];exact I5 hle _
  ·rw[b7 e];exact(h.up j ar).trans (I5 hle _)
 ·have PN:=h.least m hm aF;refine e8.of (by simp[h.len,hm]) λj ar=>?_;rw[I7 _ _ _ _ eI];by_cases e:i=j
  ·subst e;rw[cv rfl];exact(I5 PN _).trans (aF i hi)
  ·rw[b7 e];exact PN.getD j
def BZ.mono{a:Option Addr}{n:Nat}{ks:List cK}(h:BZ I M a n ks)(a':∀ b o,I b=some o->I' b=some o):BZ I' M a n ks:=
 ⟨h.n,λj ar=>by
  obtain⟨ad,aa,ab⟩:=h.rd j ar;exact⟨ad,aa,ab.mono a'⟩⟩
def cS.aB{a:Addr}{K:List aC->Prop}(pre post:List aC)(cs:Array Value)(T:Nat)(a5:M=pre++⟨a.block,.cells cs T (0,0)⟩::post)(aq:a.spot=none)(ag:Nat.ble (a.off+vs.length) cs.size=true)(aa:ga vs=true)(cs':List Value)(he:bo cs.toList a.off vs=cs')(k:K (pre++⟨a.block,.cells cs'.toArray T (0,0)⟩::post)):cS M a vs K:=
 ⟨pre,post,cs,T,a5,aq,bq ag,aa,by rw[he];exact k⟩
def db.oi(t:db):db:=⟨t.ns.map a1.oi,none,t.n,0,t.root⟩
def bP.oi(d:bP):bP:=⟨d.name,d.t.oi⟩
def c1.oi(g:c1):c1:=⟨g.ds.map bP.oi,none,g.n,0⟩
structure xG(I:aN)(t:db)(l:List a1):Prop where
 ok:t.ok I
 oi:t.ns.map a1.oi=l
 root:t.root=(l.length:Int)-1
def xG.mono{t:db}{l:List a1}(h:xG I t l)(a':∀ b o,I b=some o->I' b=some o):xG I' t l:=⟨h.ok.mono a',h.oi,h.root⟩
def xG.len{t:db}{l:List a1}(h:xG I t l):t.n=l.length:=by rw[<-h.ok.n,<-h.oi,fl]
def xG.leaf{t:db}(az:t.ok I)(aa:t.ns=[d])(ab:t.root=0)(ak:d.oi=d):xG I t [d]:=⟨az,by rw[aa];simp[ak],by rw[ab];rfl⟩
def Yr(l:List a1):List a1:=Yl l ((l.length:Int)-1)
def sP(ns:List a1):List Int:=ns.flatMap (·.kids)
def uf(l:List Int):Prop:=l.Pairwise (·≠·)
def zu(s:List Bool)(l:List Int):Prop:=∀ j,s.getD j false=true ↔ ((j:Int)∈l/\j<s.length)
def PO{i:Nat}:∀ {ks seen:List Int} {s:List Bool},i<=s.length->zu s seen->uf seen -> ((∃ b0,jK i ks s=some b0) ↔ ((∀ k∈ks,0<=k/\k<i)/\uf (seen++ks)))/\∀ b0,jK i ks s=some b0->b0.length=s.length/\zu b0 (seen++ks)
 |[],seen,s,hi,hm,ak=>by refine⟨⟨λ_=>⟨λk af=>by(cases af),by simpa using ak⟩,λ_=>⟨s,rfl⟩⟩,λb0 h=>?_⟩;simp only[jK,g7]at h;subst h;exact⟨rfl,by simpa using hm⟩
 |k::ks,seen,s,hi,hm,ak=>by
  unfold jK;cases ag:decide (k<0)||(decide ((i:Int)<=k)||s.getD k.toNat false)with
  |true=>
   refine⟨⟨λ⟨b0,h⟩=>(by cases h),λ⟨aa,ab⟩=>?_⟩,λb0 h=>by cases h⟩;exfalso;have ai:=aa k (.head _);simp only[ku,eC]at ag;rcases ag with ag | ag | ag;·omega
   ·omega
   ·have:=(hm _).1 ag;rw[w5 ai.1]at this;exact(I1.1 ab).2.2 k this.1 k (.head _) rfl
  |false=>
   simp only[nU,oP]at ag;obtain⟨cU,b9,df⟩:=ag;have af:k.toNat<s.length:=by omega
   have lT:k ∉ seen:=λh=>by have:=(hm k.toNat).2 ⟨by rw[w5 (by omega)];exact h,af⟩;rw[df]at this;cases this
   have oN:zu (s.set k.toNat true) (seen++[k]):=λj=>by
    have:=hm j;simp only[dT,r8,vS,dA,iM]at this |-;by_cases e:k.toNat=j;·subst e;rw[cv rfl,cv af];simp only[jZ,true_iff];exact⟨.inr (by omega),af⟩
    ·rw[b7 e,this];constructor
     ·rintro⟨aa,ab⟩;exact⟨.inl aa,ab⟩
     ·rintro⟨aa | aa,ab⟩
      ·exact⟨aa,ab⟩
      ·omega
   have ff:uf (seen++[k]):=I1.2 ⟨ak,by simp,λa av b ag e=>by
    simp only[iM]at ag;subst ag;subst e;exact lT av⟩
   have a8:=PO (i:=i) (ks:=ks) (seen:=seen++[k]) (s:=s.set k.toNat true) (by simpa using hi) oN ff;simp only[aY];rw[fJ,Fa]at a8;refine⟨a8.1.trans ⟨λ⟨aa,ab⟩=>⟨λx ae=>?_,ab⟩,λ⟨aa,ab⟩=>⟨λx ae=>aa x (.tail _ ae),ab⟩⟩,λb0 h=>?_⟩
   ·rcases dv.1 ae with rfl | ae
    ·omega
    ·exact aa x ae
   ·have:=a8.2 b0 h;simpa using this
def PP:∀ {ds:List a1} {i:Nat} {seen:List Int} {s:List Bool},i+ds.length<=s.length->zu s seen->uf seen -> ((∃ b0,kD i ds s=some b0) ↔ ((∀ j (h:j<ds.length),fits ds[j] ds[j].kids.length=true/\∀ k∈ds[j].kids,0<=k/\k<i+j)/\uf (seen++sP ds)))/\∀ b0,kD i ds s=some b0->b0.length=s.length/\zu b0 (seen++sP ds)
 |[],i,seen,s,hi,hm,ak=>by refine⟨⟨λ_=>⟨λj ar=>by simp at ar,by simpa[sP]using ak⟩,λ_=>⟨s,rfl⟩⟩,λb0 h=>?_⟩;simp only[kD,g7]at h;subst h;exact⟨rfl,by simpa[sP]using hm⟩
 |d::ds,i,seen,s,hi,hm,ak=>by
  unfold kD;have af:=PO (i:=i) (ks:=d.kids) (by simp at hi;omega) hm ak;have gg:sP (d::ds)=d.kids++sP ds:=rfl;cases aD:fits d d.kids.length with
  |false=>refine⟨⟨λ⟨b0,h⟩=>(by cases h),λ⟨aa,ab⟩=>?_⟩,λb0 h=>by cases h⟩;have:=(aa 0 (by simp)).1;simp only[w2]at this;rw[aD]at this;cases this
  |true=>
   simp only[aZ];cases aK:jK i d.kids s with
   |none=>
    refine⟨⟨λ⟨b0,h⟩=>(by cases h),λ⟨aa,ab⟩=>?_⟩,λb0 h=>by cases h⟩;exfalso;have:∃ b0,jK i d.kids s=some b0:=af.1.2 ⟨λk af=>by
     have:=(aa 0 (by simp)).2 k af;omega,by
     rw[gg,<-fJ]at ab;exact(I1.1 ab).1⟩
    obtain⟨b0,h⟩:=this;rw[aK]at h;cases h
   |some s1=>
    obtain⟨mA,cy⟩:=af.2 s1 aK;obtain⟨lV,d1⟩:=af.1.1 ⟨s1,aK⟩;have a8:=PP (ds:=ds) (i:=i+1) (seen:=seen++d.kids) (s:=s1) (by simp at hi;omega) cy d1;rw[fJ,<-gg]at a8;simp only;refine⟨a8.1.trans ⟨λ⟨aa,ab⟩=>⟨λj ar=>?_,ab⟩,λ⟨aa,ab⟩=>⟨λj ar=>?_,ab⟩⟩,λb0 h=>?_⟩
    ·cases j with
     |zero=>exact⟨aD,λk af=>by have:=lV k af;omega⟩| succ j=>have:=aa j (by simpa using ar);refine⟨this.1,λk af=>?_⟩;have:=this.2 k af;omega
    ·have:=aa (j+1) (by simpa using ar);refine⟨this.1,λk af=>?_⟩;have:=this.2 k af;omega
    ·have:=a8.2 b0 h;exact⟨this.1.trans mA,this.2⟩
def Ys(n:Nat):zu (List.replicate n false) []:=λj=>by
 by_cases h:j<n<;>simp[dT,List.getElem?_replicate,h]
structure B3(t:db):Prop where
 root:0<=t.root/\t.root<t.ns.length
 fits:∀ j (h:j<t.ns.length),fits t.ns[j] t.ns[j].kids.length=true
 kids:∀ j (h:j<t.ns.length),∀ k∈t.ns[j].kids,0<=k/\k<j
 diff:uf (sP t.ns)
 all:∀ j:Nat,j<t.ns.length->((j:Int)∈sP t.ns ↔ (j:Int)≠t.root)
def Yt{t:db}:right t=true ↔ B3 t:=by
 have h:=PP (ds:=t.ns) (i:=0) (seen:=[]) (s:=List.replicate t.ns.length false) (by simp) (Ys _) (by simp[uf]);simp only[nW,dG,D9]at h;unfold right;constructor
 ·intro ao;simp only[bG,eC]at ao;obtain⟨lV,gx,im⟩:=ao;split at im
  ·rename_i s aq;obtain⟨dH,di⟩:=h.1.1 ⟨s,aq⟩;obtain⟨cy,m2⟩:=h.2 s aq;refine⟨⟨lV,gx⟩,λj ar=>(dH j ar).1,λj ar k af=>(by have:=(dH j ar).2 k af;omega),di,λj ar=>?_⟩;have ag:(s.getD j false == decide (((0+j:Nat):Int)=t.root))=false:=by
    cases ag:(s.getD j false == decide (((0+j:Nat):Int)=t.root))with
    |false=>rfl| true=>have:=PD (by omega) ag;rw[this]at im;cases im
   rw[dG]at ag;have hm:=m2 j;constructor;·intro ae e;have:=hm.2 ⟨ae,by omega⟩;rw[this,e7 e]at ag;cases ag
   ·intro bl;rw[b4 bl]at ag;have:s.getD j false=true:=by
     revert ag;cases s.getD j false<;>simp
    exact(hm.1 this).1
  ·cases im
 ·intro ao;obtain⟨s,aq⟩:=h.1.2 ⟨λj ar=>⟨ao.fits j ar,λk af=>by have:=ao.kids j ar k af;omega⟩,ao.diff⟩;obtain⟨cy,m2⟩:=h.2 s aq;rw[aq];simp only[bG,eC];refine⟨ao.root.1,ao.root.2,PE λj ar=>?_⟩;rw[dG];have av:=ao.all j (by omega);have hm:=m2 j;by_cases e:(j:Int)=t.root
  ·have aD:s.getD j false=false:=by
    cases ag:s.getD j false with
    |false=>rfl| true=>exact absurd e (av.1 (hm.1 ag).1)
   rw[aD,e7 e];rfl
  ·have:=hm.2 ⟨av.2 e,by omega⟩;rw[this,b4 e];rfl
def B3.node{t:db}(ao:B3 t){j:Nat}(ar:j<t.ns.length){k:Int}(af:k∈(nodeAt t.ns j).kids):0<=k/\k<j:=by rw[q5 ar]at af;exact ao.kids j ar k af
section
variable{t:db}(ao:B3 t)
include ao
def Fm(ns:List a1)(l:List Int):Prop:=∀ i (h:i<l.length),∀ k∈(nodeAt ns (l[i]).toNat).kids,k∈l.take i
omit ao in
def Fm.append{ns:List a1}{l m:List Int}(h:Fm ns l)(bf:Fm ns m):Fm ns (l++m):=by
 intro i hi k af;by_cases ay:i<l.length
 ·rw[List.getElem_append_left ay]at af;rw[A5 (by omega)];exact h i ay k af
 ·rw[IZ (by omega)]at af;have:=bf (i-l.length) (by simp at hi;omega) k af;rw[Fb,hN (by omega)];exact dA.2 (.inr this)
end
def pb:Nat->List bP->List (Nat×a1)
 |_,[]=>[]| b,d::ds=>d.t.ns.map (λn=>(b,n))++pb (b+d.t.ns.length) ds
def gy:Nat->List bP->List Nat
 |_,[]=>[]| b,d::ds=>(b+d.t.root.toNat)::gy (b+d.t.ns.length) ds
def cz(ds:List bP):Nat:=(ds.map λd=>d.t.ns.length).sum
def nd(ds:List bP)(b:Nat)(n:a1):List Nat:=bif decide (n.k=3)then [(gy 0 ds).getD (dz n.t ds 0).toNat 0]else n.kids.map λk=>b+k.toNat
def kM(ds:List bP):List oe:=(pb 0 ds).map λp=>⟨p.2,nd ds p.1 p.2⟩
def lX(g:c1)(s:ByteArray)(at_:Nat):bu:=⟨kM g.ds,s,at_⟩
def Fo:∀ (b:Nat) (ds:List bP),(pb b ds).length=cz ds
 |b,[]=>rfl| b,d::ds=>by have:=Fo (b+d.t.ns.length) ds;simp only[pb,cz,cD,fl,eh,sc]at this |-;omega
def B4:∀ (b:Nat) (ds:List bP),(gy b ds).length=ds.length
 |b,[]=>rfl| b,d::ds=>by simp only[gy,du,B4 _ ds]
def Fp:∀ (b:Nat) (ds:List bP),(∀ d∈ds,0<=d.t.root/\d.t.root<d.t.ns.length)->∀ x∈gy b ds,x<b+cz ds
 |b,[],_,x,ae=>by cases ae
 |b,d::ds,h,x,ae=>by
  have ak:=h d (.head _);have e:cz (d::ds)=d.t.ns.length+cz ds:=by simp[cz]
  rcases dv.1 ae with rfl | ae;·omega
  ·have:=Fp (b+d.t.ns.length) ds (λd ak=>h d (.tail _ ak)) x ae;omega
def I8:∀ (b:Nat) (ds:List bP) (p:Nat×a1),p∈pb b ds->∃ d∈ds,p.2∈d.t.ns/\p.1+d.t.ns.length<=b+cz ds
 |b,[],p,h=>by cases h
 |b,d::ds,p,h=>by
  have e:cz (d::ds)=d.t.ns.length+cz ds:=by simp[cz]
  rcases dA.1 h with h | h;·obtain⟨n,aw,rfl⟩:=dO.1 h;exact⟨d,.head _,aw,by show b+d.t.ns.length<=_;omega⟩
  ·obtain⟨I9,aa,ab,ai⟩:=I8 _ ds p h;exact⟨I9,.tail _ aa,ab,by omega⟩
def Ja:∀ (n:Nat) (l:List Int),uf l->(∀ k∈l,0<=k/\k<n)->l.length<=n
 |0,[],_,_=>bS _| 0,k::l,_,h=>by have:=h k (.head _);omega
 |n+1,l,ak,h=>by
  have aa:=Ja n (l.filter λk=>decide (k≠(n:Int))) (ak.filter _) λk af=>by have ab:=Au.1 af;have ai:=c9 ab.2;have aQ:=h k ab.1;omega
  have ab:∀ l:List Int,uf l->l.length<=(l.filter λk=>decide (k≠(n:Int))).length+1:=by
   intro l
   induction l with
   |nil=>intro _;simp
   |cons a l a8=>
    intro ak;obtain⟨d1,d2⟩:=List.pairwise_cons.1 ak;by_cases e:a=(n:Int);·have:l.filter (λk=>decide (k≠(n:Int)))=l:=List.filter_eq_self.2 λk af=>e7 λaA=>d1 k af (e.trans aA.symm);rw[List.filter_cons_of_neg (by simp[e]),this,du];exact bS _
    ·have:=a8 d2;rw[List.filter_cons_of_pos (by simp[e]),du,du];omega
  have:=ab l ak;omega
def Jb{dc:ByteArray}:∀ (ds:List bP) (i:Nat),0<=dz dc ds i->dz dc ds i<((i+ds.length:Nat):Int)
 |[],i,h=>by simp[dz]at h
 |d::ds,i,h=>by
  unfold dz at h |-;cases aF:decide (d.name=dc)with
  |true=>simp only[aZ,du];omega| false=>rw[aF,aY]at h;have:=Jb ds (i+1) h;simp only[aY,du];omega
structure nf(g:c1):Prop where
 n:g.n≠0
 r:∀ d∈g.ds,B3 d.t
 find:∀ d∈g.ds,∀ n∈d.t.ns,n.k=3->0<=dz n.t g.ds 0
 PQ:cz g.ds<=1024
 af7:g.n<=64
def Jc{deb:List Int}{g:c1}(h:jN deb g=0)(aw:∀ d∈g.ds,d.t.ns.length=d.t.n):nf g:=by
 rw[<-Yh]at h;unfold IX at h;cases aa:decide ((g.n:Int)=0)with
 |true=>rw[aa]at h;cases h
 |false=>
  rw[aa,aY]at h;cases ab:xx g.ds with
  |false=>rw[ab]at h;cases h
  |true=>
   rw[ab,pB,aY]at h;cases ai:tU deb g with
   |true=>rw[ai]at h;cases h
   |false=>
    rw[ai,aY]at h;cases aQ:!(List.range g.ds.length).all (sO g.ds)with
    |true=>rw[aQ]at h;cases h
    |false=>
     rw[aQ,aY]at h;cases bp:g.ds.all λd=>d.t.ns.all (BV g.ds)with
     |false=>rw[bp]at h;cases h
     |true=>
      have ao:∀ d∈g.ds,right d.t=true:=λd ak=>by have:=gR.1 ab d ak;simp only[normal,bG]at this;exact this.2.1
      refine⟨λe=>by have:=dj aa;omega,λd ak=>Yt.1 (ao d ak),λd ak n aw ai=>?_,?_,?_⟩;·have:=gR.1 (gR.1 bp d ak) n aw;simp only[BV,ai,decide_true,pB,uZ,eC]at this;exact this
      ·have e:cz g.ds=xw g:=by unfold cz xw;congr 1;refine D' λd ak=>?_;rw[sB,ao d ak,aZ];exact aw d ak
       unfold tU at ai;simp only[nU,oP]at ai;omega
      ·unfold tU at ai;simp only[nU,oP]at ai;omega
def PR(au:0<=d.k){n:Nat}(h:fits d n=true):d.k<10/\(d.k=4\/d.k=5->2<=n)/\(6<=d.k->n=1)/\(d.k=6->0<=d.lo/\d.lo<=99/\(d.hi=-1\/(d.lo<=d.hi/\d.hi<=99)))/\(d.k=9->iH d.t=true)/\(d.k=2->d.t.size<=255):=by
 unfold fits at h;cases aa:decide (10<=d.k)with
 |true=>rw[aa]at h;cases h
 |false=>
  have oX:d.k<10:=by have:=dj aa;omega
  rw[aa,aY]at h;cases ab:decide ((n:Int)<vp d.k.toNat)||(decide (0<=qU d.k.toNat)&&decide (qU d.k.toNat<(n:Int)))with
  |true=>rw[ab]at h;cases h
  |false=>
   rw[ab,aY]at h;simp only[nU,H',oP]at ab;refine⟨oX,λaf=>?_,λaf=>?_,λaf=>?_,λaf=>?_,λaf=>?_⟩
   ·have:vp d.k.toNat=2:=by rcases af with e | e<;>rw[e]<;>rfl
    omega
   ·have iJ:d.k=6\/d.k=7\/d.k=8\/d.k=9:=by omega
    have ax:vp d.k.toNat=1:=by rcases iJ with e | e | e | e<;>rw[e]<;>rfl
    have aA:qU d.k.toNat=1:=by rcases iJ with e | e | e | e<;>rw[e]<;>rfl
    omega
   ·rw[af]at h;have bf:((!(decide (d.lo<0)||(decide (99<d.lo)||(decide (d.hi≠-1)&&(decide (d.hi<d.lo)||decide (99<d.hi))))))&&(d.oW&&decide (d.t=⟨#[]⟩)))=true:=h;simp only[bG,mK,nU,H',oP,Decidable.not_not]at bf;omega
   ·rw[af]at h;have bf:(iH d.t&&(d.oW&&(decide (d.lo=0)&&decide (d.hi=0))))=true:=h;simp only[bG]at bf;exact bf.1
   ·rw[af]at h;have bf:((!(decide (d.t=⟨#[]⟩)||decide (255<d.t.size)))&&(d.oW&&(decide (d.lo=0)&&decide (d.hi=0))))=true:=h;simp only[bG,mK,nU,oP]at bf;omega
def Jd:∀ {ns:List a1} {n:a1},n∈ns->n.kids.Sublist (sP ns)
 |d::ns,n,h=>by
  unfold sP;rw[qO];rcases dv.1 h with rfl | h;·exact List.sublist_append_left _ _
  ·exact(Jd h).trans (k2 _ _)
def Yu{g:c1}(hm:nf g)(ei:∀ d∈g.ds,∀ n∈d.t.ns,0<=n.k){s:ByteArray}{at_:Nat}{a:oe}(av:a∈kM g.ds):EZ (lX g s at_) a:=by
 have hlen:(lX g s at_).ns.length=cz g.ds:=by simp[lX,kM,Fo]
 obtain⟨p,aH,rfl⟩:=dO.1 av;obtain⟨d,ak,aw,ag⟩:=I8 _ _ _ aH;have ao:=hm.r d ak;obtain⟨j,ar,e⟩:=vC aw;have aD:=ao.fits j ar;rw[e]at aD;obtain⟨f1,f2,f3,f4,-,-⟩:=PR (ei d ak _ aw) aD;have n4:=ao.kids j ar;rw[e]at n4;have fK:p.2.kids.length<=j:=Ja j _ (ao.diff.sublist (Jd aw)) n4;have B5:=hm.PQ;by_cases ai:p.2.k=3
 ·have qh:nd g.ds p.1 p.2=[(gy 0 g.ds).getD (dz p.2.t g.ds 0).toNat 0]:=by rw[nd,e7 ai,aZ]
  have aK:=hm.find d ak _ aw ai;have PS:=Jb g.ds 0 aK;have fV:(dz p.2.t g.ds 0).toNat<(gy 0 g.ds).length:=by rw[B4];omega
  refine⟨⟨ei d ak _ aw,f1⟩,λx ae=>?_,λh=>?_,λ_=>by simp only[qh];rfl,λh=>?_,by simp only[qh];exact bq rfl⟩;·simp only[qh,iM]at ae;rw[hlen,ae,dT,iT fV,jZ];have:=Fp 0 g.ds (λd ak=>(hm.r d ak).root) _ (dR fV);omega
  ·have bf:p.2.k=4\/p.2.k=5:=h;omega
  ·have bf:p.2.k=6:=h;omega
 ·have qh:nd g.ds p.1 p.2=p.2.kids.map λk=>p.1+k.toNat:=by rw[nd,b4 ai,aY]
  refine⟨⟨ei d ak _ aw,f1⟩,λx ae=>?_,λh=>?_,λh=>?_,λh=>f4 h,?_⟩;·simp only[qh]at ae;obtain⟨k,af,rfl⟩:=dO.1 ae;have:=n4 k af;rw[hlen];omega
  ·have:=f2 h;simp only[qh,fl];omega
  ·have bf:p.2.k=3\/6<=p.2.k:=h;have:=f3 (by omega);simp only[qh,fl];exact this
  ·simp only[qh,fl];have:d.t.ns.length<=cz g.ds:=by omega
   omega
def Je{g:c1}(hm:nf g)(ei:∀ d∈g.ds,∀ n∈d.t.ns,0<=n.k){s:ByteArray}{at_:Nat}(aa:at_<=s.size)(ab:s.size<=4096):oh (lX g s at_):=
 ⟨λa av=>Yu hm ei av,aa,ab⟩
def iK(g:c1)(eZ:Nat):Nat:=(gy 0 g.ds).getD eZ 0
def hh:gk:=⟨λ_ _=>lh,[],0⟩
def Yv(P:bu):sM P hh:=⟨λf h=>(by cases h),λk p=>⟨bk _,λh=>(by cases h),λ_=>⟨rfl,rfl⟩⟩,trivial⟩
def Yw{P:bu}{k a:Nat}(aa:k<P.ns.length)(ab:P.base<=a)(ai:a<=P.s.size):ub P hh (.begin k a):=⟨aa,ab,ai,λf rest e=>(by cases e),rfl⟩
def hy.xH{base k:Nat}{hi:Int}{t a:Nat}{l:List (Nat×Nat)}(h:hy kn base k hi t a l)(bf:hy kn base k hi t a cd):l=cd:=by
 induction h generalizing cd with
 |stop aa=>
  cases bf with
  |stop=>rfl| fail ab=>exact absurd aa ab| more _ ab=>exact absurd aa ab
 |fail aa ab=>
  cases bf with
  |stop ai=>exact absurd ai aa| fail=>rfl| more _ ai aQ=>rw[ab]at aQ;cases aQ
 |more _ aa ab r a8=>
  cases bf with
  |stop ai=>exact absurd ai aa| fail ai aQ=>rw[ab]at aQ;cases aQ| more _ ai aQ pP=>rw[a8 pP]
def hz.xH{P:bu}{k a:Nat}{l:List (Nat×Nat)}(h:hz P kn k a l)(bf:hz P kn k a cd):l=cd:=by
 unfold hz at h bf;by_cases bM:(P.at_ k).d.k=6
 ·rw[cv bM]at h bf;exact h.xH bf
 ·rw[b7 bM]at h bf;by_cases bp:(P.at_ k).d.k=5
  ·rw[cv bp]at h bf;exact h.2.trans bf.2.symm
  ·rw[b7 bp]at h bf;exact h.2.trans bf.2.symm
def eY.xH{P:bu}{n m:Nat}{L:List (Nat×Nat)}{l cd:List bN}(h:eY P kn n L l)(bf:eY P kn m L cd):l=cd:=by
 induction h generalizing m cd with
 |nil=>cases bf;rfl
 |zero ai au r a8=>
  cases bf with
  |zero g0 kB pP=>exact a8 pP| node g0 kB=>exact absurd au kB
 |node ai au aH r a8=>
  cases bf with
  |zero g0 kB=>exact absurd kB au| node g0 kB zh pP=>cases aH.xH zh;rw[a8 pP]
structure lY where
 ok:Bool
 aB:Nat
 fO:List bN
inductive Fq where
 |err(e:Int)| ok (o:lY) (used:Nat)
inductive ug(P:bu)(root at_ fuel:Nat):Fq->Prop
 |err{e:Nat}(h:ua P fuel (.begin root at_) hh=.err e):ug P root at_ fuel (.err (Yc e))| fail {c:bg} {S:gk} (h:ua P fuel (.begin root at_) hh=.ok c S) (ab:c.ap=2):ug P root at_ fuel (.ok ⟨false,0,[]⟩ S.used)| many {c:bg} {S:gk} (h:ua P fuel (.begin root at_) hh=.ok c S) (ai:c.ap=3) (aw:65536<c.n):ug P root at_ fuel (.err 40)| PT {c:bg} {S:gk} (h:ua P fuel (.begin root at_) hh=.ok c S) (ai:c.ap=3) (aw:c.n<=65536) (aD:fuel<S.used+c.n):ug P root at_ fuel (.err 44)| ok {c:bg} {S:gk} {n:Nat} {l:List bN} (h:ua P fuel (.begin root at_) hh=.ok c S) (ai:c.ap=3) (aw:c.n<=65536) (aD:S.used+c.n<=fuel) (aG:eY P S.kn n [(root,at_)] l) (ay:l.length=c.n):ug P root at_ fuel (.ok ⟨true,c.aB,l⟩ (S.used+c.n))
def e0(a b:Nat):Nat:=min (a+b) 1099511627776
def gO(m:Nat->Nat->bg):List Nat->Nat->Nat->bg
 |[],a,n=>⟨n,a,3⟩| q::L,a,n=>bif Nat.beq (m q a).ap 3 then gO m L (m q a).aB (e0 n (m q a).n)else⟨0,0,(m q a).ap⟩
def g2(m:Nat->Nat->bg):List Nat->Nat->bg
 |[],_=>il| q::L,a=>bif Nat.beq (m q a).ap 2 then g2 m L a else m q a
def eL(m:Nat->Nat->bg)(q:Nat)(lo hi:Int):Nat->Nat->Nat->Nat->bg
 |0,_,a,n=>bif decide (hi=-1)then lh else⟨n,a,3⟩
 |j+1,i,a,n=>bif Nat.beq (m q a).ap 2 then(bif decide ((i:Int)<lo)then il else⟨n,a,3⟩)else
   bif Nat.beq (m q a).ap 3 then(bif decide (hi=-1)&&decide ((m q a).aB=a)then lh else eL m q lo hi j (i+1) (m q a).aB (e0 n (m q a).n))else lh
def uh(P:bu)(d:a1)(a:Nat):Nat:=bif decide (d.hi=-1)then P.s.size+1-a else d.hi.toNat
def dg(P:bu)(m:Nat->Nat->bg)(k a:Nat):bg:=
 let d:=(P.at_ k).d
 let q:=(P.at_ k).asks.getD 0 0
 bif decide (d.k=0)then⟨0,a,3⟩else
 bif decide (d.k=1)then(match P.s.data[a]? with
  |some b=>bif lU d b.toNat then⟨0,a+1,3⟩else il| none=>il)else
 bif decide (d.k=2)then(bif preB P.s d.t a then⟨0,a+d.t.size,3⟩else il)else
 bif decide (d.k=3)then m q a else
 bif decide (d.k=4)then gO m (P.at_ k).asks a 0 else
 bif decide (d.k=5)then g2 m (P.at_ k).asks a else
 bif decide (d.k=6)then eL m q d.lo d.hi (uh P d a) 0 a 0 else
 bif decide (d.k=7)then(bif Nat.beq (m q a).ap 3 then⟨0,a,3⟩else m q a)else
 bif decide (d.k=8)then(bif Nat.beq (m q a).ap 2 then⟨0,a,3⟩else bif Nat.beq (m q a).ap 3 then il else lh)else
 (bif Nat.beq (m q a).ap 3 then⟨e0 (m q a).n 1,(m q a).aB,3⟩else m q a)
section
variable{P:bu}{m m':Nat->Nat->bg}{k a lo:Nat}
def ui(h:(P.at_ k).d.k=0):dg P m k a=⟨0,a,3⟩:=by simp[dg,h]
def uj(h:(P.at_ k).d.k=1):dg P m k a=match P.s.data[a]? with
  |some b=>bif lU (P.at_ k).d b.toNat then⟨0,a+1,3⟩else il| none=>il:=by simp[dg,h]
def uk(h:(P.at_ k).d.k=2):dg P m k a=bif preB P.s (P.at_ k).d.t a then⟨0,a+(P.at_ k).d.t.size,3⟩else il:=by simp[dg,h]
def um(h:(P.at_ k).d.k=3):dg P m k a=m ((P.at_ k).asks.getD 0 0) a:=by simp[dg,h]
def uo(h:(P.at_ k).d.k=4):dg P m k a=gO m (P.at_ k).asks a 0:=by simp[dg,h]
def uq(h:(P.at_ k).d.k=5):dg P m k a=g2 m (P.at_ k).asks a:=by simp[dg,h]
def re(h:(P.at_ k).d.k=6):dg P m k a=eL m ((P.at_ k).asks.getD 0 0) (P.at_ k).d.lo (P.at_ k).d.hi (uh P (P.at_ k).d a) 0 a 0:=by simp[dg,h]
def ur(h:(P.at_ k).d.k=7):dg P m k a=bif Nat.beq (m ((P.at_ k).asks.getD 0 0) a).ap 3 then⟨0,a,3⟩else m ((P.at_ k).asks.getD 0 0) a:=by simp[dg,h]
def uu(h:(P.at_ k).d.k=8):dg P m k a=bif Nat.beq (m ((P.at_ k).asks.getD 0 0) a).ap 2 then⟨0,a,3⟩else bif Nat.beq (m ((P.at_ k).asks.getD 0 0) a).ap 3 then il else lh:=by simp[dg,h]
def uv(au:(P.at_ k).d.k≠0)(aa:(P.at_ k).d.k≠1)(ab:(P.at_ k).d.k≠2)(ai:(P.at_ k).d.k≠3)(aQ:(P.at_ k).d.k≠4)(bp:(P.at_ k).d.k≠5)(bM:(P.at_ k).d.k≠6)(dP:(P.at_ k).d.k≠7)(eK:(P.at_ k).d.k≠8) : dg P m k a=bif Nat.beq (m ((P.at_ k).asks.getD 0 0) a).ap 3 then⟨e0 (m ((P.at_ k).asks.getD 0 0) a).n 1,(m ((P.at_ k).asks.getD 0 0) a).aB,3⟩else m ((P.at_ k).asks.getD 0 0) a:=by simp[dg,au,aa,ab,ai,aQ,bp,bM,dP,eK]
def xI(d:Int):d=0\/d=1\/d=2\/d=3\/d=4\/d=5\/d=6\/d=7\/d=8\/(d≠0/\d≠1/\d≠2/\d≠3/\d≠4/\d≠5/\d≠6/\d≠7/\d≠8):=by omega
def lj(lo:Nat)(m m':Nat->Nat->bg):Prop:=∀ q b,lo<=b->cZ (m q b)->m' q b=m q b
def zv(m:Nat->Nat->bg):Prop:=∀ q b,(m q b).ap=3->b<=(m q b).aB
def lj.trans{PU:Nat->Nat->bg}(h:lj lo m m')(bf:lj lo m' PU):lj lo m PU:=λq b ag ak=>by have e:=h q b ag ak;rw[bf q b ag (by rw[e];exact ak),e]
def qi{c:bg}(h:Nat.beq c.ap 3=true):cZ c:=.inr (bV h)
def xJ{c:bg}(h:Nat.beq c.ap 2=true):cZ c:=.inl (bV h)
def oj:¬ cZ lh:=λh=>by rcases h with h | h<;>cases h
def Jf(h:lj lo m m')(aG:zv m):∀ (L:List Nat) (a n:Nat),lo<=a->cZ (gO m L a n)->gO m' L a n=gO m L a n
 |[],a,n,_,_=>rfl
 |q::L,a,n,av,ak=>by
  cases ai:Nat.beq (m q a).ap 3 with
  |true=>have e:=h q a av (qi ai);simp only[gO,e,ai,aZ]at ak |-;exact Jf h aG L _ _ (jy av (aG q a (bV ai))) ak| false=>simp only[gO,ai,aY]at ak;have e:=h q a av ak;simp only[gO,e,ai,aY]
def Jg(h:lj lo m m'):∀ (L:List Nat) (a:Nat),lo<=a->cZ (g2 m L a)->g2 m' L a=g2 m L a
 |[],a,_,_=>rfl
 |q::L,a,av,ak=>by
  cases ab:Nat.beq (m q a).ap 2 with
  |true=>have e:=h q a av (xJ ab);simp only[g2,e,ab,aZ]at ak |-;exact Jg h L a av ak| false=>simp only[g2,ab,aY]at ak;have e:=h q a av ak;simp only[g2,e,ab,aY]
def Jh(h:lj lo m m')(aG:zv m){q:Nat}{l u:Int}:∀ (j i a n:Nat),lo<=a->cZ (eL m q l u j i a n)->eL m' q l u j i a n=eL m q l u j i a n
 |0,i,a,n,_,_=>rfl
 |j+1,i,a,n,av,ak=>by
  cases ab:Nat.beq (m q a).ap 2 with
  |true=>have e:=h q a av (xJ ab);simp only[eL,e,ab,aZ]
  |false=>
   cases ai:Nat.beq (m q a).ap 3 with
   |true=>
    have e:=h q a av (qi ai);simp only[eL,e,ab,ai,aZ,aY]at ak |-;cases hu:decide (u=-1)&&decide ((m q a).aB=a)with
    |true=>rfl| false=>rw[hu,aY]at ak;exact Jh h aG j _ _ _ (jy av (aG q a (bV ai))) ak
   |false=>simp only[eL,ab,ai,aY]at ak;exact absurd ak oj
def B6(h:lj lo m m')(aG:zv m)(av:lo<=a)(ak:cZ (dg P m k a)):dg P m' k a=dg P m k a:=by
 have one:∀ q:Nat,cZ (m q a)->m' q a=m q a:=λq aK=>h q a av aK;rcases xI (P.at_ k).d.k with e | e | e | e | e | e | e | e | e | ⟨bT,ax,aA,bj,cp,eX,gM,kl,kN⟩
 ·rw[ui e,ui e]
 ·rw[uj e,uj e]
 ·rw[uk e,uk e]
 ·rw[um e]at ak |-;rw[um e];exact one _ ak
 ·rw[uo e]at ak |-;rw[uo e];exact Jf h aG _ _ _ av ak
 ·rw[uq e]at ak |-;rw[uq e];exact Jg h _ _ av ak
 ·rw[re e]at ak |-;rw[re e];exact Jh h aG _ _ _ _ av ak
 ·rw[ur e]at ak |-;rw[ur e];generalize(P.at_ k).asks.getD 0 0=q at ak |-;cases ai:Nat.beq (m q a).ap 3 with
  |true=>rw[one q (qi ai),ai]| false=>rw[ai,aY]at ak;rw[one q ak,ai]
 ·rw[uu e]at ak |-;rw[uu e];generalize(P.at_ k).asks.getD 0 0=q at ak |-;cases ab:Nat.beq (m q a).ap 2 with
  |true=>rw[one q (xJ ab),ab]
  |false=>
   cases ai:Nat.beq (m q a).ap 3 with
   |true=>rw[one q (qi ai),ab,ai]| false=>rw[ab,ai]at ak;exact absurd ak oj
 ·rw[uv bT ax aA bj cp eX gM kl kN]at ak |-;rw[uv bT ax aA bj cp eX gM kl kN];generalize(P.at_ k).asks.getD 0 0=q at ak |-;cases ai:Nat.beq (m q a).ap 3 with
  |true=>rw[one q (qi ai),ai]| false=>rw[ai,aY]at ak;rw[one q ak,ai]
end
def hU(z a:Nat)(c:bg):Prop:=c=lh\/c=il\/(c.ap=3/\a<=c.aB/\(a<=z->c.aB<=z)/\c.n<=1099511627776)
def hU.m{a aB n:Nat}(aa:a<=aB)(ab:a<=z->aB<=z)(ai:n<=1099511627776):hU z a ⟨n,aB,3⟩:=.inr (.inr ⟨rfl,aa,ab,ai⟩)
def hU.ge{a:Nat}{c:bg}(h:hU z a c)(ai:c.ap=3):a<=c.aB/\(a<=z->c.aB<=z)/\c.n<=1099511627776:=by
 rcases h with rfl | rfl | h
 ·cases ai
 ·cases ai
 ·exact h.2
def hU.ap{a:Nat}{c:bg}(h:hU z a c):c.ap=0\/c.ap=2\/c.ap=3:=by
 rcases h with rfl | rfl | h
 ·exact .inl rfl
 ·exact .inr (.inl rfl)
 ·exact .inr (.inr h.1)
def hU.zero{z a:Nat}{c:bg}(h:hU z a c)(ab:¬ cZ c):c=lh:=by
 rcases h with rfl | rfl | h
 ·rfl
 ·exact absurd (.inl rfl) ab
 ·exact absurd (.inr h.1) ab
def hU.Yx{a:Nat}{c:bg}(h:hU z a c)(ai:Nat.beq c.ap 3=false):(⟨0,0,c.ap⟩:bg)=c:=by
 rcases h with rfl | rfl | h
 ·rfl
 ·rfl
 ·rw[h.1]at ai;cases ai
def hU.DJ{a b:Nat}{c:bg}(h:hU z b c)(ij:a<=b)(bd:a<=z->b<=z):hU z a c:=by
 rcases h with h | h | ⟨aa,ab,ai,aQ⟩
 ·exact .inl h
 ·exact .inr (.inl h)
 ·exact .inr (.inr ⟨aa,by omega,λh=>ai (bd h),aQ⟩)
def rf(a b:Nat):e0 a b<=1099511627776:=xn _ _
section
variable{z:Nat}{m:Nat->Nat->bg}(hm:∀ q b,hU z b (m q b))
include hm
def PV:∀ (L:List Nat) (a n:Nat),n<=1099511627776->hU z a (gO m L a n)
 |[],a,n,aw=>.m (bS _) id aw
 |q::L,a,n,aw=>by
  cases ai:Nat.beq (m q a).ap 3 with
  |true=>simp only[gO,ai,aZ];obtain⟨aO,aP,br⟩:=(hm q a).ge (bV ai);exact(PV L _ _ (rf _ _)).DJ aO aP
  |false=>simp only[gO,ai,aY];rw[(hm q a).Yx ai];exact hm q a
def PW:∀ (L:List Nat) (a:Nat),hU z a (g2 m L a)
 |[],a=>.inr (.inl rfl)
 |q::L,a=>by
  cases ab:Nat.beq (m q a).ap 2 with
  |true=>simp only[g2,ab,aZ];exact PW L a| false=>simp only[g2,ab,aY];exact hm q a
def PX{q:Nat}{l u:Int}:∀ (j i a n:Nat),n<=1099511627776->hU z a (eL m q l u j i a n)
 |0,i,a,n,aw=>by
  unfold eL;cases decide (u=-1);·exact .m (bS _) id aw
  ·exact .inl rfl
 |j+1,i,a,n,aw=>by
  cases ab:Nat.beq (m q a).ap 2 with
  |true=>
   simp only[eL,ab,aZ];cases decide ((i:Int)<l);·exact .m (bS _) id aw
   ·exact .inr (.inl rfl)
  |false=>
   cases ai:Nat.beq (m q a).ap 3 with
   |true=>
    simp only[eL,ab,ai,aZ,aY];obtain⟨aO,aP,br⟩:=(hm q a).ge (bV ai);cases decide (u=-1)&&decide ((m q a).aB=a)with
    |true=>exact .inl rfl| false=>exact(PX j _ _ _ (rf _ _)).DJ aO aP
   |false=>simp only[eL,ab,ai,aY];exact .inl rfl
def Ji{P:bu}(bd:P.s.size=z)(k a:Nat):hU z a (dg P m k a):=by
 rcases xI (P.at_ k).d.k with e | e | e | e | e | e | e | e | e | ⟨bT,ax,aA,bj,cp,eX,gM,kl,kN⟩
 ·rw[ui e];exact .m (bS _) id (by omega)
 ·rw[uj e];cases ag:P.s.data[a]? with
  |none=>exact .inr (.inl rfl)
  |some b=>
   have aU:a<P.s.data.size:=(jx.1 ag).1;have:P.s.data.size=P.s.size:=rfl;simp only;cases lU (P.at_ k).d b.toNat;·exact .inr (.inl rfl)
   ·exact .m (by omega) (by omega) (by omega)
 ·rw[uk e];cases aH:preB P.s (P.at_ k).d.t a with
  |false=>exact .inr (.inl rfl)| true=>simp only[preB,bG,eC]at aH;exact .m (by omega) (by omega) (by omega)
 ·rw[um e];exact hm _ a
 ·rw[uo e];exact PV hm _ _ _ (by omega)
 ·rw[uq e];exact PW hm _ _
 ·rw[re e];exact PX hm _ _ _ _ (by omega)
 ·rw[ur e];cases Nat.beq (m ((P.at_ k).asks.getD 0 0) a).ap 3
  ·exact hm _ a
  ·exact .m (bS _) id (by omega)
 ·rw[uu e];cases Nat.beq (m ((P.at_ k).asks.getD 0 0) a).ap 2 with
  |true=>exact .m (bS _) id (by omega)
  |false=>
   cases Nat.beq (m ((P.at_ k).asks.getD 0 0) a).ap 3;·exact .inl rfl
   ·exact .inr (.inl rfl)
 ·rw[uv bT ax aA bj cp eX gM kl kN];cases ai:Nat.beq (m ((P.at_ k).asks.getD 0 0) a).ap 3 with
  |false=>exact hm _ a| true=>obtain⟨aO,aP,br⟩:=(hm _ a).ge (bV ai);exact .m aO aP (rf _ _)
end
def fF(P:bu):Nat->Nat->Nat->bg
 |0,_,_=>lh| n+1,k,a=>dg P (fF P n) k a
def Fs(P:bu):∀ (n k a:Nat),hU P.s.size a (fF P n k a)
 |0,_,_=>.inl rfl| n+1,k,a=>Ji (Fs P n) rfl k a
def B7(P:bu)(n:Nat):zv (fF P n):=λq b ai=>((Fs P n q b).ge ai).1
def Jj(P:bu):∀ n,lj 0 (fF P n) (fF P (n+1))
 |0=>λq b _ ak=>absurd ak oj
 |n+1=>λq b ag ak=>B6 (Jj P n) (B7 P n) ag ak
def zw(P:bu){n:Nat}(h:n<=fq):lj 0 (fF P n) (fF P fq):=by
 induction h with
 |refl=>exact λ_ _ _ _=>rfl
 |step _ a8=>exact a8.trans (Jj P _)
open Classical in
noncomputable def bA(P:bu)(k a:Nat):bg:=if h:∃ n,cZ (fF P n k a)then fF P h.choose k a else lh
def xK{P:bu}{n k a:Nat}(h:cZ (fF P n k a)):bA P k a=fF P n k a:=by have ae:∃ n,cZ (fF P n k a):=⟨n,h⟩;unfold bA;rw[dif_pos ae];have aF:=ae.choose_spec;have ax:=zw P (Fe n ae.choose) k a (bk _) h;have aA:=zw P (Fc n ae.choose) k a (bk _) aF;rw[<-ax,<-aA]
def mB{P:bu}{k a:Nat}(h:cZ (bA P k a)):∃ n,fF P n k a=bA P k a:=by
 by_cases ae:∃ n,cZ (fF P n k a)
 ·obtain⟨n,aw⟩:=ae;exact⟨n,(xK aw).symm⟩
 ·unfold bA at h;rw[dif_neg ae]at h;exact absurd h oj
def PY(P:bu)(n:Nat):lj 0 (fF P n) (bA P):=λ_ _ _ ak=>xK ak
def rh(P:bu)(k a:Nat):hU P.s.size a (bA P k a):=by
 by_cases ak:cZ (bA P k a)
 ·obtain⟨n,aw⟩:=mB ak;rw[<-aw];exact Fs P n k a
 ·by_cases ae:∃ n,cZ (fF P n k a)
  ·obtain⟨n,aw⟩:=ae;rw[xK aw]at ak;exact absurd aw ak
  ·unfold bA;rw[dif_neg ae];exact .inl rfl
section
variable{P:bu}
def Jk{n q b:Nat}(h:n<=fq)(e:fF P n q b=bA P q b)(ak:cZ (bA P q b)):fF P fq q b=bA P q b:=by rw[<-e]at ak |-;exact zw P h q b (bk _) ak
def PZ:∀ (L:List Nat) (a n:Nat),cZ (gO (bA P) L a n)->∃ N,gO (fF P N) L a n=gO (bA P) L a n
 |[],a,n,_=>⟨0,rfl⟩
 |q::L,a,n,ak=>by
  cases ai:Nat.beq (bA P q a).ap 3 with
  |true=>obtain⟨fN,ax⟩:=mB (qi ai);simp only[gO,ai,aZ]at ak |-;obtain⟨hP,aA⟩:=PZ L _ _ ak;refine⟨max fN hP,?_⟩;simp only[Jk (Fe fN hP) ax (qi ai),ai,aZ];rw[<-aA]at ak |-;exact Jf (zw P (Fc fN hP)) (B7 P hP) _ _ _ (bk _) ak
  |false=>simp only[gO,ai,aY]at ak |-;obtain⟨fN,ax⟩:=mB ak;exact⟨fN,by simp only[ax,ai,aY]⟩
def P0:∀ (L:List Nat) (a:Nat),cZ (g2 (bA P) L a)->∃ N,g2 (fF P N) L a=g2 (bA P) L a
 |[],a,_=>⟨0,rfl⟩
 |q::L,a,ak=>by
  cases ab:Nat.beq (bA P q a).ap 2 with
  |true=>obtain⟨fN,ax⟩:=mB (xJ ab);simp only[g2,ab,aZ]at ak |-;obtain⟨hP,aA⟩:=P0 L _ ak;refine⟨max fN hP,?_⟩;simp only[Jk (Fe fN hP) ax (xJ ab),ab,aZ];rw[<-aA]at ak |-;exact Jg (zw P (Fc fN hP)) _ _ (bk _) ak
  |false=>simp only[g2,ab,aY]at ak |-;obtain⟨fN,ax⟩:=mB ak;exact⟨fN,by simp only[ax,ab,aY]⟩
def P1{q:Nat}{l u:Int}:∀ (j i a n:Nat),cZ (eL (bA P) q l u j i a n)->∃ N,eL (fF P N) q l u j i a n=eL (bA P) q l u j i a n
 |0,i,a,n,_=>⟨0,rfl⟩
 |j+1,i,a,n,ak=>by
  cases ab:Nat.beq (bA P q a).ap 2 with
  |true=>obtain⟨fN,ax⟩:=mB (xJ ab);exact⟨fN,by simp only[eL,ax,ab,aZ]⟩
  |false=>
   cases ai:Nat.beq (bA P q a).ap 3 with
   |true=>
    obtain⟨fN,ax⟩:=mB (qi ai);simp only[eL,ab,ai,aZ,aY]at ak |-;cases hu:decide (u=-1)&&decide ((bA P q a).aB=a)with
    |true=>rw[hu]at ak;exact absurd ak oj| false=>rw[hu,aY]at ak;obtain⟨hP,aA⟩:=P1 j _ _ _ ak;refine⟨max fN hP,?_⟩;simp only[Jk (Fe fN hP) ax (qi ai),ab,ai,hu,aZ,aY];rw[<-aA]at ak |-;exact Jh (zw P (Fc fN hP)) (B7 P hP) _ _ _ _ (bk _) ak
   |false=>simp only[eL,ab,ai,aY]at ak;exact absurd ak oj
def Yy{k a:Nat}(ak:cZ (dg P (bA P) k a)):∃ N,dg P (fF P N) k a=dg P (bA P) k a:=by
 rcases xI (P.at_ k).d.k with e | e | e | e | e | e | e | e | e | ⟨bT,ax,aA,bj,cp,eX,gM,kl,kN⟩
 ·exact⟨0,by rw[ui e,ui e]⟩
 ·exact⟨0,by rw[uj e,uj e]⟩
 ·exact⟨0,by rw[uk e,uk e]⟩
 ·rw[um e]at ak |-;obtain⟨n,aw⟩:=mB ak;exact⟨n,by rw[um e,aw]⟩
 ·rw[uo e]at ak |-;obtain⟨n,aw⟩:=PZ _ _ _ ak;exact⟨n,by rw[uo e,aw]⟩
 ·rw[uq e]at ak |-;obtain⟨n,aw⟩:=P0 _ _ ak;exact⟨n,by rw[uq e,aw]⟩
 ·rw[re e]at ak |-;obtain⟨n,aw⟩:=P1 _ _ _ _ ak;exact⟨n,by rw[re e,aw]⟩
 ·rw[ur e]at ak |-;have aa:cZ (bA P ((P.at_ k).asks.getD 0 0) a):=by
   cases ai:Nat.beq (bA P ((P.at_ k).asks.getD 0 0) a).ap 3 with
   |true=>exact qi ai| false=>rwa [ai,aY]at ak
  obtain⟨n,aw⟩:=mB aa;exact⟨n,by rw[ur e,aw]⟩
 ·rw[uu e]at ak |-;have aa:cZ (bA P ((P.at_ k).asks.getD 0 0) a):=by
   cases ab:Nat.beq (bA P ((P.at_ k).asks.getD 0 0) a).ap 2 with
   |true=>exact xJ ab
   |false=>
    cases ai:Nat.beq (bA P ((P.at_ k).asks.getD 0 0) a).ap 3 with
    |true=>exact qi ai| false=>rw[ab,ai]at ak;exact absurd ak oj
  obtain⟨n,aw⟩:=mB aa;exact⟨n,by rw[uu e,aw]⟩
 ·rw[uv bT ax aA bj cp eX gM kl kN]at ak |-;have aa:cZ (bA P ((P.at_ k).asks.getD 0 0) a):=by
   cases ai:Nat.beq (bA P ((P.at_ k).asks.getD 0 0) a).ap 3 with
   |true=>exact qi ai| false=>rwa [ai,aY]at ak
  obtain⟨n,aw⟩:=mB aa;exact⟨n,by rw[uv bT ax aA bj cp eX gM kl kN,aw]⟩
def Jl{k a:Nat}(ak:cZ (dg P (bA P) k a)):bA P k a=dg P (bA P) k a:=by
 obtain⟨N,e⟩:=Yy ak;have:cZ (fF P (N+1) k a):=by show cZ (dg P (fF P N) k a);rw[e];exact ak
 rw[xK this];exact e
def Yz{k a:Nat}(ak:cZ (bA P k a)):dg P (bA P) k a=bA P k a:=by
 obtain⟨n,aw⟩:=mB ak;cases n with
 |zero=>rw[<-aw]at ak;exact absurd ak oj| succ n=>rw[<-aw]at ak |-;exact B6 (PY P n) (B7 P n) (bk _) ak
def YA{k a:Nat}:dg P (bA P) k a=bA P k a:=by
 by_cases ak:cZ (bA P k a)
 ·exact Yz ak
 ·by_cases ff:cZ (dg P (bA P) k a)
  ·exact(Jl ff).symm
  ·rw[(rh P k a).zero ak,(Ji (rh P) rfl k a).zero ff]
def YB{m:Nat->Nat->bg}{lo:Nat}(h:∀ k a,lo<=a->cZ (dg P m k a)->m k a=dg P m k a):lj lo (bA P) m:=by
 have step:∀ n,lj lo (fF P n) m:=λn=>by
  induction n with
  |zero=>exact λ_ _ _ ak=>absurd ak oj
  |succ n a8=>
   intro k a av ak;have e:=B6 a8 (B7 P n) av ak;have ff:cZ (dg P m k a):=by rw[e];exact ak
   rw[h k a av ff,e];rfl
 intro k a av ak;obtain⟨n,aw⟩:=mB ak;rw[<-aw]at ak |-;exact step n k a av ak
end
structure bE where
 n:Nat
 aB:Nat
 ap:Nat
 times:Nat
def hB:bE:=⟨0,0,0,0⟩
def lZ(aB:Nat):bE:=⟨0,aB,2,0⟩
def sQ:bE:=⟨0,0,1,0⟩
def bE.ce(c:bE):bg:=bif Nat.beq c.ap 2 then⟨c.n,c.aB,3⟩else bif Nat.beq c.ap 1 then il else lh
def ng(T:Nat->Nat->bE):List Nat->Nat->Nat->bE
 |[],a,n=>⟨n,a,2,0⟩| q::L,a,n=>bif Nat.beq (T q a).ap 2 then ng T L (T q a).aB (e0 n (T q a).n)else⟨0,0,(T q a).ap,0⟩
def nh(T:Nat->Nat->bE):List Nat->Nat->bE
 |[],_=>sQ| q::L,a=>bif Nat.beq (T q a).ap 1 then nh T L a else T q a
def mC(T:Nat->Nat->bE)(q:Nat)(lo:Int):Nat->Nat->Nat->Nat->bE
 |0,_,a,n=>⟨n,a,2,0⟩
 |j+1,i,a,n=>bif Nat.beq (T q a).ap 0||(Nat.beq (T q a).ap 1&&decide ((i:Int)<lo))then⟨0,0,(T q a).ap,0⟩else
   bif Nat.beq (T q a).ap 1 then⟨n,a,2,0⟩else mC T q lo j (i+1) (T q a).aB (e0 n (T q a).n)
def lk(lo:Int)(c:bE):bE:=bif decide ((c.times:Int)<lo)then { c with ap:=1 }else c
def uw(T:Nat->Nat->bE)(k q:Nat)(lo:Int)(a:Nat):bE:=
 bif Nat.beq (T q a).ap 0||(Nat.beq (T q a).ap 2&&Nat.beq (T q a).aB a)then hB else
 bif Nat.beq (T q a).ap 2 then(bif Nat.beq (T k (T q a).aB).ap 0 then hB else lk lo ⟨e0 (T q a).n (T k (T q a).aB).n,(T k (T q a).aB).aB,2,min ((T k (T q a).aB).times+1) 99⟩)else lk lo (lZ a)
def c0(P:bu)(T:Nat->Nat->bE)(k a:Nat):bE:=
 let d:=(P.at_ k).d
 let q:=(P.at_ k).asks.getD 0 0
 bif decide (d.k=0)then lZ a else
 bif decide (d.k=1)then(match P.s.data[a]? with
  |some b=>bif lU d b.toNat then lZ (a+1)else sQ| none=>sQ)else
 bif decide (d.k=2)then(bif preB P.s d.t a then lZ (a+d.t.size)else sQ)else
 bif decide (d.k=3)then T q a else
 bif decide (d.k=4)then ng T (P.at_ k).asks a 0 else
 bif decide (d.k=5)then nh T (P.at_ k).asks a else
 bif decide (d.k=6)then(bif decide (d.hi=-1)then uw T k q d.lo a else mC T q d.lo d.hi.toNat 0 a 0)else
 bif decide (d.k=7)then(bif Nat.beq (T q a).ap 2 then lZ a else⟨0,0,(T q a).ap,0⟩)else
 bif decide (d.k=8)then(bif Nat.beq (T q a).ap 1 then lZ a else bif Nat.beq (T q a).ap 2 then sQ else hB)else
 (bif Nat.beq (T q a).ap 2 then { T q a with n:=e0 (T q a).n 1 }else T q a)
def fP(T:Nat->Nat->bE):Nat->Nat->bg:=λk a=>(T k a).ce
def om{c:bE}(h:c.ap<=2):(c.ap=0/\c.ce=lh)\/(c.ap=1/\c.ce=il)\/(c.ap=2/\c.ce=⟨c.n,c.aB,3⟩):=by
 have:c.ap=0\/c.ap=1\/c.ap=2:=by omega
 rcases this with e | e | e
 ·exact .inl ⟨e,by simp only[bE.ce,e];rfl⟩
 ·exact .inr (.inl ⟨e,by simp only[bE.ce,e];rfl⟩)
 ·exact .inr (.inr ⟨e,by simp only[bE.ce,e];rfl⟩)
def xL{c:bE}(h:c.ap<=2):cZ c.ce ↔ c.ap≠0:=by
 rcases om h with⟨e,bc⟩ | ⟨e,bc⟩ | ⟨e,bc⟩<;>rw[bc]<;>simp[cZ,lh,il,e]
section
variable{T:Nat->Nat->bE}(bO:∀ k a,(T k a).ap<=2)
include bO
def P2:∀ (L:List Nat) (a n:Nat),(ng T L a n).ce=gO (fP T) L a n
 |[],a,n=>rfl
 |q::L,a,n=>by
  rcases om (bO q a)with⟨e,bc⟩ | ⟨e,bc⟩ | ⟨e,bc⟩;·simp only[ng,gO,fP,e,bc];rfl
  ·simp only[ng,gO,fP,e,bc];rfl
  ·have a8:=P2 L (T q a).aB (e0 n (T q a).n);simp only[ng,gO,fP,e,bc]at a8 |-;exact a8
def P3:∀ (L:List Nat) (a:Nat),(nh T L a).ce=g2 (fP T) L a
 |[],a=>rfl
 |q::L,a=>by
  rcases om (bO q a)with⟨e,bc⟩ | ⟨e,bc⟩ | ⟨e,bc⟩;·simp only[nh,g2,fP,e,bc];exact bc
  ·have a8:=P3 L a;simp only[nh,g2,fP,e,bc]at a8 |-;exact a8
  ·simp only[nh,g2,fP,e,bc];exact bc
def P4{q:Nat}{lo hi:Int}(a4:hi≠-1):∀ (j i a n:Nat),(mC T q lo j i a n).ce=eL (fP T) q lo hi j i a n
 |0,i,a,n=>by simp only[mC,eL,b4 a4,aY];rfl
 |j+1,i,a,n=>by
  rcases om (bO q a)with⟨e,bc⟩ | ⟨e,bc⟩ | ⟨e,bc⟩;·simp only[mC,eL,fP,e,bc];rfl
  ·simp only[mC,eL,fP,e,bc];cases decide ((i:Int)<lo)<;>rfl
  ·have a8:=P4 (q:=q) (lo:=lo) a4 j (i+1) (T q a).aB (e0 n (T q a).n);simp only[mC,eL,fP,e,bc,b4 a4]at a8 |-;exact a8
def P5{P:bu}{k a:Nat}(h:(P.at_ k).d.k=6->(P.at_ k).d.hi≠-1):(c0 P T k a).ce=dg P (fP T) k a:=by
 rcases xI (P.at_ k).d.k with e | e | e | e | e | e | e | e | e | ⟨bT,ax,aA,bj,cp,eX,gM,kl,kN⟩
 ·rw[ui e];simp only[c0,e];rfl
 ·rw[uj e];simp only[c0,e];cases ag:P.s.data[a]? with
  |none=>rfl
  |some b=>
   simp only;cases lU (P.at_ k).d b.toNat<;>rfl
 ·rw[uk e];simp only[c0,e];cases preB P.s (P.at_ k).d.t a<;>rfl
 ·rw[um e];simp[c0,e,fP]
 ·rw[uo e,<-P2 bO];simp[c0,e]
 ·rw[uq e,<-P3 bO];simp[c0,e]
 ·have a4:=h e;rw[re e,<-P4 bO a4];simp[c0,e,a4,uh]
 ·rw[ur e];generalize aK:(P.at_ k).asks.getD 0 0=q;rcases om (bO q a)with⟨g,c5⟩ | ⟨g,c5⟩ | ⟨g,c5⟩
  ·simp only[c0,e,aK,g,fP,c5];rfl
  ·simp only[c0,e,aK,g,fP,c5];rfl
  ·simp only[c0,e,aK,g,fP,c5];rfl
 ·rw[uu e];generalize aK:(P.at_ k).asks.getD 0 0=q;rcases om (bO q a)with⟨g,c5⟩ | ⟨g,c5⟩ | ⟨g,c5⟩
  ·simp only[c0,e,aK,g,fP,c5];rfl
  ·simp only[c0,e,aK,g,fP,c5];rfl
  ·simp only[c0,e,aK,g,fP,c5];rfl
 ·rw[uv bT ax aA bj cp eX gM kl kN];generalize aK:(P.at_ k).asks.getD 0 0=q;have an:c0 P T k a=bif Nat.beq (T q a).ap 2 then { T q a with n:=e0 (T q a).n 1 }else T q a:=by simp only[c0,aK,b4 bT,b4 ax,b4 aA,b4 bj,b4 cp,b4 eX,b4 gM,b4 kl,b4 kN,aY]
  rw[an];rcases om (bO q a)with⟨g,c5⟩ | ⟨g,c5⟩ | ⟨g,c5⟩;·simp only[g,fP,c5];exact c5
  ·simp only[g,fP,c5];exact c5
  ·simp only[g,fP,c5];simp[bE.ce,g]
end
inductive kO(m:Nat->Nat->bg)(q:Nat):Nat->Nat->Nat->Nat->Prop
 |stop{a}(h:(m q a).ap=2):kO m q a 0 a 0| more {a t aB n} (h:(m q a).ap=3) (aw:(m q a).aB≠a) (r:kO m q (m q a).aB t aB n):kO m q a (t+1) aB (e0 (m q a).n n)
def YC(a b c:Nat):e0 a (e0 b c)=e0 (e0 a b) c:=by unfold e0;omega
def kO.mono{m:Nat->Nat->bg}{q a t aB n lo:Nat}(h:lj lo m m')(aG:zv m)(aF:kO m q a t aB n)(av:lo<=a):kO m' q a t aB n:=by
 induction aF with
 |stop aa=>exact .stop (by rw[h q _ av (.inl aa)];exact aa)| @more a t aB n aa aw r a8=>have e:=h q a av (.inr aa);have:=kO.more (m:=m') (q:=q) (a:=a) (by rw[e];exact aa) (by rw[e];exact aw) (by rw[e];exact a8 (jy av (aG q a aa)));rwa [e]at this
def kO.len{m:Nat->Nat->bg}{q a t aB n:Nat}(hm:∀ q b,hU z b (m q b))(aF:kO m q a t aB n):a+t<=aB/\(a<=z->aB<=z)/\n<=1099511627776:=by
 induction aF with
 |stop aa=>exact⟨bS _,id,bk _⟩| @more a t aB n aa aw r a8=>obtain⟨aO,aP,br⟩:=(hm q a).ge aa;obtain⟨i1,i2,i3⟩:=a8;exact⟨by omega,λh=>i2 (aP h),rf _ _⟩
def YD{m:Nat->Nat->bg}{q:Nat}{a t aB:Nat}(aF:kO m q a t aB c):∀ (j i n:Nat),t<j->n<=1099511627776 ->
  eL m q lo (-1) j i a n=bif decide (((i+t:Nat):Int)<lo)then il else⟨e0 n c,aB,3⟩:=by
 induction aF with
 | @stop a aa=>
  intro j i n ar aw;obtain⟨j,rfl⟩:∃ x,j=x+1:=⟨j-1,by omega⟩;have e:e0 n 0=n:=by unfold e0;omega
  simp only[eL,aa,e];rfl
 | @more a t aB c aa bl r a8=>intro j i n ar aw;obtain⟨j,rfl⟩:∃ x,j=x+1:=⟨j-1,by omega⟩;have ab:=a8 j (i+1) (e0 n (m q a).n) (by omega) (rf _ _);simp only[eL,aa,b4 bl];rw[show Nat.beq 3 2=false from rfl,aY,show Nat.beq 3 3=true from rfl,aZ,Bool.and_false,aY,ab,<-YC];rw[show i+1+t=i+(t+1) by omega]
def P6{m:Nat->Nat->bg}{q:Nat}{lo:Int}:∀ (j i a n:Nat),cZ (eL m q lo (-1) j i a n)->∃ t aB c,kO m q a t aB c/\t<j
 |0,i,a,n,ak=>absurd ak oj
 |j+1,i,a,n,ak=>by
  cases ab:Nat.beq (m q a).ap 2 with
  |true=>exact⟨0,a,0,.stop (bV ab),by omega⟩
  |false=>
   cases ai:Nat.beq (m q a).ap 3 with
   |false=>simp only[eL,ab,ai,aY]at ak;exact absurd ak oj
   |true=>
    simp only[eL,ab,ai,aY,aZ]at ak;cases he:decide ((m q a).aB=a)with
    |true=>rw[he]at ak;exact absurd ak oj| false=>rw[he]at ak;obtain⟨t,aB,c,h,aU⟩:=P6 j _ _ _ ak;exact⟨t+1,aB,_,.more (bV ai) (dj he) h,by omega⟩
def P7{P:bu}{k a t aB:Nat}(bM:(P.at_ k).d.k=6)(a4:(P.at_ k).d.hi=-1)(av:a<=P.s.size)(aF:kO (bA P) ((P.at_ k).asks.getD 0 0) a t aB c) :
  bA P k a=bif decide ((t:Int)<(P.at_ k).d.lo)then il else⟨c,aB,3⟩:=by
 obtain⟨mA,jQ,af8⟩:=aF.len (rh P);have bd:=jQ av;rw[<-YA,re bM,a4,uh,a4,e7 rfl,aZ,YD aF _ _ _ (by omega) (by omega),dG];rw[show e0 0 c=c by unfold e0;omega]
structure hj(P:bu)(N:Nat)(T:Nat->Nat->bE):Prop where
 ap:∀ k a,(T k a).ap<=2
 snd:∀ k a,(T k a).ap≠0->bA P k a=(T k a).ce
 rV:∀ k a,k<N->a<=P.s.size->(P.at_ k).d.k=6->(P.at_ k).d.hi=-1->(T k a).ap≠0->∃ t,kO (bA P) ((P.at_ k).asks.getD 0 0) a t (T k a).aB (T k a).n/\(T k a).times=min t 99
 rg:∀ k a,k<N->a<=P.s.size->(T k a).n<=1099511627776/\(T k a).aB<=P.s.size/\(T k a).times<=99
 out:∀ k a,¬ (k<N/\a<=P.s.size)->(T k a).ce=bA P k a
def eS(T:Nat->Nat->bE)(k p:Nat)(c:bE):Nat->Nat->bE:=λcb fu=>bif Nat.beq cb k&&Nat.beq fu p then c else T cb fu
def zx(T:Nat->Nat->bE)(k p:Nat)(c:bE):eS T k p c k p=c:=by simp[eS]
def ux{T:Nat->Nat->bE}{k cb fu:Nat}{c:bE}(h:¬ (cb=k/\fu=p)):eS T k p c cb fu=T cb fu:=by
 unfold eS;have:(Nat.beq cb k&&Nat.beq fu p)=false:=by rw[sv];intro e;simp only[bG,Nat.beq_eq]at e;exact h e
 rw[this];rfl
structure sR(P:bu)(N:Nat)(k:Nat):Prop where
 qc:0<=(P.at_ k).d.k
 one:(P.at_ k).d.k=3\/6<=(P.at_ k).d.k->(P.at_ k).asks.getD 0 0<N
 asks:∀ q∈(P.at_ k).asks,q<N
 la:(P.at_ k).d.k=6->(P.at_ k).d.lo<=99
section
variable{P:bu}{N:Nat}{T:Nat->Nat->bE}
def hj.le(h:hj P N T):lj 0 (fP T) (bA P):=λq b _ ak=>h.snd q b ((xL (h.ap q b)).1 ak)
def hj.oi(h:hj P N T)(q b:Nat):hU P.s.size b (fP T q b):=by
 by_cases e:(T q b).ap=0
 ·rcases om (h.ap q b)with⟨_,bc⟩ | ⟨aA,_⟩ | ⟨aA,_⟩
  ·exact .inl bc
  ·omega
  ·omega
 ·show hU _ _ (T q b).ce;rw[<-h.snd q b e];exact rh P q b
def hj.ge(h:hj P N T):zv (fP T):=λq b ai=>((h.oi q b).ge ai).1
def YE{t:Nat}(h:lo<=99):decide (((min t 99:Nat):Int)<lo)=decide ((t:Int)<lo):=by rw[rL];simp only[eC];omega
def P8(lo:Int)(n aB t:Nat):(lk lo ⟨n,aB,2,t⟩).ce=bif decide ((t:Int)<lo)then il else⟨n,aB,3⟩:=by
 unfold lk;cases decide ((t:Int)<lo)<;>rfl
def P9(lo:Int)(c:bE):(lk lo c).n=c.n/\(lk lo c).aB=c.aB/\(lk lo c).times=c.times:=by
 unfold lk;cases decide ((c.times:Int)<lo)<;>exact⟨rfl,rfl,rfl⟩
def P'(lo:Int)(c:bE)(h:c.ap=2):(lk lo c).ap<=2:=by
 unfold lk;cases decide ((c.times:Int)<lo)
 ·exact Nat.le_of_eq h
 ·show 1<=2;omega
def YF(h:hj P N T){k a:Nat}(af:k<N)(av:a<=P.s.size)(aw:sR P N k)(bM:(P.at_ k).d.k=6)(a4:(P.at_ k).d.hi=-1){c:bE}(aF:uw T k ((P.at_ k).asks.getD 0 0) (P.at_ k).d.lo a=c) :
  c.ap<=2/\c.n<=1099511627776/\c.aB<=P.s.size/\c.times<=99/\(c.ap≠0->bA P k a=c.ce/\∃ t,kO (bA P) ((P.at_ k).asks.getD 0 0) a t c.aB c.n/\c.times=min t 99):=by
 have dJ:=aw.la bM;have YG:=aw.one (.inr (by omega));generalize aK:(P.at_ k).asks.getD 0 0=q at aF YG |-;have m9:=fun {t aB c} (h:kO (bA P) q a t aB c)=>P7 bM a4 av (by rw[aK];exact h);unfold uw at aF;rcases om (h.ap q a)with⟨e,bc⟩ | ⟨e,bc⟩ | ⟨e,bc⟩
 ·simp only[e]at aF;subst aF;exact⟨bk _,bk _,bk _,bk _,λh=>absurd rfl h⟩
 ·have ay:=h.snd q a (by omega);rw[bc]at ay;have ee:kO (bA P) q a 0 a 0:=.stop (by rw[ay];rfl);simp only[e]at aF;have qL:lk (P.at_ k).d.lo (lZ a)=c:=aF;obtain⟨f1,f2,f3⟩:=P9 (P.at_ k).d.lo (lZ a);rw[<-qL];refine⟨P' _ _ rfl,by rw[f1];exact bk _,by rw[f2];exact av,by rw[f3];exact bk _,λ_=>⟨?_,0,by rw[f1,f2];exact ee,by rw[f3];rfl⟩⟩;rw[m9 ee];exact(P8 _ 0 a 0).symm
 ·have ay:=h.snd q a (by omega);rw[bc]at ay;have ie:=rh P q a;rw[ay]at ie;obtain⟨aO,aP,br⟩:=ie.ge rfl;simp only at aO aP br;simp only[e]at aF;cases ag:Nat.beq (T q a).aB a with
  |true=>rw[ag]at aF;have qL:hB=c:=aF;subst qL;exact⟨bk _,bk _,bk _,bk _,λh=>absurd rfl h⟩
  |false=>
   have bl:(T q a).aB≠a:=λe=>by rw[e]at ag;simp at ag
   rw[ag]at aF;have qL:(bif Nat.beq (T k (T q a).aB).ap 0 then hB else lk (P.at_ k).d.lo ⟨e0 (T q a).n (T k (T q a).aB).n,(T k (T q a).aB).aB,2,min ((T k (T q a).aB).times+1) 99⟩)=c:=aF;cases au:Nat.beq (T k (T q a).aB).ap 0 with
   |true=>rw[au,aZ]at qL;subst qL;exact⟨bk _,bk _,bk _,bk _,λh=>absurd rfl h⟩
   |false=>
    rw[au,aY]at qL;have fD:=aP av;obtain⟨t,eH,az⟩:=h.rV k (T q a).aB af fD bM a4 λe=>by rw[e]at au;cases au
    rw[aK]at eH;obtain⟨lV,gx,im⟩:=h.rg k (T q a).aB af fD;have ee:kO (bA P) q a (t+1) (T k (T q a).aB).aB (e0 (T q a).n (T k (T q a).aB).n):=by have:=kO.more (m:=bA P) (q:=q) (a:=a) (by rw[ay]) (by rw[ay];exact bl) (by rw[ay];exact eH);rwa [ay]at this
    generalize ae:(⟨e0 (T q a).n (T k (T q a).aB).n,(T k (T q a).aB).aB,2,min ((T k (T q a).aB).times+1) 99⟩:bE)=x at qL;obtain⟨f1,f2,f3⟩:=P9 (P.at_ k).d.lo x;rw[<-qL];subst ae;have hm:min ((T k (T q a).aB).times+1) 99=min (t+1) 99:=by omega
    refine⟨P' _ _ rfl,by rw[f1];exact rf _ _,by rw[f2];exact gx,by rw[f3];exact xn _ _,λ_=>⟨?_,t+1,by rw[f1,f2];exact ee,by rw[f3];exact hm⟩⟩;rw[m9 ee,P8,hm,YE dJ]
def Qa(h:hj P N T):∀ (L:List Nat) (a n:Nat),(∀ q∈L,q<N)->a<=P.s.size->n<=1099511627776->(ng T L a n).ap<=2/\(ng T L a n).n<=1099511627776/\(ng T L a n).aB<=P.s.size/\(ng T L a n).times<=99
 |[],a,n,_,av,aw=>⟨bS _,aw,av,bk _⟩
 |q::L,a,n,cI,av,aw=>by
  unfold ng;cases Nat.beq (T q a).ap 2 with
  |true=>exact Qa h L _ _ (λq aK=>cI q (.tail _ aK)) (h.rg q a (cI q (.head _)) av).2.1 (rf _ _)| false=>exact⟨h.ap q a,bk _,bk _,bk _⟩
def Qb(h:hj P N T):∀ (L:List Nat) (a:Nat),(∀ q∈L,q<N)->a<=P.s.size->(nh T L a).ap<=2/\(nh T L a).n<=1099511627776/\(nh T L a).aB<=P.s.size/\(nh T L a).times<=99
 |[],a,_,av=>⟨by show 1<=2;omega,bk _,bk _,bk _⟩
 |q::L,a,cI,av=>by
  unfold nh;cases Nat.beq (T q a).ap 1 with
  |true=>exact Qb h L _ (λq aK=>cI q (.tail _ aK)) av| false=>exact⟨h.ap q a,h.rg q a (cI q (.head _)) av⟩
def Qc(h:hj P N T){q:Nat}(aK:q<N){lo:Int}:∀ (j i a n:Nat),a<=P.s.size->n<=1099511627776->(mC T q lo j i a n).ap<=2/\(mC T q lo j i a n).n<=1099511627776/\(mC T q lo j i a n).aB<=P.s.size/\(mC T q lo j i a n).times<=99
 |0,i,a,n,av,aw=>⟨bS _,aw,av,bk _⟩
 |j+1,i,a,n,av,aw=>by
  unfold mC;cases Nat.beq (T q a).ap 0||(Nat.beq (T q a).ap 1&&decide ((i:Int)<lo))with
  |true=>exact⟨h.ap q a,bk _,bk _,bk _⟩
  |false=>
   cases Nat.beq (T q a).ap 1 with
   |true=>exact⟨bS _,aw,av,bk _⟩| false=>exact Qc h aK j _ _ _ (h.rg q a aK av).2.1 (rf _ _)
def Jm(h:hj P N T){k a:Nat}(af:k<N)(av:a<=P.s.size)(aw:sR P N k){c:bE}(aF:c0 P T k a=c) :
  c.ap<=2/\c.n<=1099511627776/\c.aB<=P.s.size/\c.times<=99/\(c.ap≠0->bA P k a=c.ce/\((P.at_ k).d.k=6->(P.at_ k).d.hi=-1->∃ t,kO (bA P) ((P.at_ k).asks.getD 0 0) a t c.aB c.n/\c.times=min t 99)):=by
 by_cases aI:(P.at_ k).d.k=6/\(P.at_ k).d.hi=-1
 ·have e:c0 P T k a=uw T k ((P.at_ k).asks.getD 0 0) (P.at_ k).d.lo a:=by simp[c0,aI.1,aI.2]
  rw[e]at aF;obtain⟨aa,ab,ai,aQ,bp⟩:=YF h af av aw aI.1 aI.2 aF;exact⟨aa,ab,ai,aQ,λau=>⟨(bp au).1,λ_ _=>(bp au).2⟩⟩
 have Jn:(P.at_ k).d.k=6->(P.at_ k).d.hi≠-1:=λaa ab=>aI ⟨aa,ab⟩;have ao:c.ap<=2/\c.n<=1099511627776/\c.aB<=P.s.size/\c.times<=99:=by
  subst aF;rcases xI (P.at_ k).d.k with e | e | e | e | e | e | e | e | e | ⟨bT,ax,aA,bj,cp,eX,gM,kl,kN⟩;·simp only[c0,e];exact⟨bS _,bk _,av,bk _⟩
  ·simp only[c0,e];cases ag:P.s.data[a]? with
   |none=>exact⟨by show 1<=2;omega,bk _,bk _,bk _⟩
   |some b=>
    have aU:a<P.s.data.size:=(jx.1 ag).1;have aA:P.s.data.size=P.s.size:=rfl;simp only;cases lU (P.at_ k).d b.toNat;·exact⟨by show 1<=2;omega,bk _,bk _,bk _⟩
    ·exact⟨bS _,bk _,by show a+1<=_;omega,bk _⟩
  ·simp only[c0,e];cases aH:preB P.s (P.at_ k).d.t a with
   |false=>exact⟨by show 1<=2;omega,bk _,bk _,bk _⟩| true=>simp only[preB,bG,eC]at aH;exact⟨bS _,bk _,aH.1,bk _⟩
  ·simp only[c0,e];exact⟨h.ap _ _,h.rg _ _ (aw.one (.inl e)) av⟩
  ·simp only[c0,e];exact Qa h _ _ _ aw.asks av (bk _)
  ·simp only[c0,e];exact Qb h _ _ aw.asks av
  ·simp only[c0,e,b4 (Jn e)];exact Qc h (aw.one (.inr (by omega))) _ _ _ _ av (bk _)
  ·simp only[c0,e];have:=h.ap ((P.at_ k).asks.getD 0 0) a;cases Nat.beq (T ((P.at_ k).asks.getD 0 0) a).ap 2
   ·exact⟨this,bk _,bk _,bk _⟩
   ·exact⟨bS _,bk _,av,bk _⟩
  ·simp only[c0,e];cases Nat.beq (T ((P.at_ k).asks.getD 0 0) a).ap 1 with
   |true=>exact⟨bS _,bk _,av,bk _⟩
   |false=>
    cases Nat.beq (T ((P.at_ k).asks.getD 0 0) a).ap 2;·exact⟨bk _,bk _,bk _,bk _⟩
    ·exact⟨by show 1<=2;omega,bk _,bk _,bk _⟩
  ·have an:c0 P T k a=bif Nat.beq (T ((P.at_ k).asks.getD 0 0) a).ap 2 then { T ((P.at_ k).asks.getD 0 0) a with n:=e0 (T ((P.at_ k).asks.getD 0 0) a).n 1 }else T ((P.at_ k).asks.getD 0 0) a:=by simp only[c0,b4 bT,b4 ax,b4 aA,b4 bj,b4 cp,b4 eX,b4 gM,b4 kl,b4 kN,aY]
   rw[an];by_cases bM:6<=(P.at_ k).d.k
   ·have aa:=h.ap ((P.at_ k).asks.getD 0 0) a;obtain⟨ab,ai,aQ⟩:=h.rg ((P.at_ k).asks.getD 0 0) a (aw.one (.inr bM)) av;cases Nat.beq (T ((P.at_ k).asks.getD 0 0) a).ap 2
    ·exact⟨aa,ab,ai,aQ⟩
    ·exact⟨aa,rf _ _,ai,aQ⟩
   ·have:=aw.qc;omega
 refine⟨ao.1,ao.2.1,ao.2.2.1,ao.2.2.2,λau=>⟨?_,λbM a4=>absurd a4 (Jn bM)⟩⟩;have ak:cZ c.ce:=(xL ao.1).2 au;rw[<-aF,P5 h.ap Jn]at ak |-;have:=B6 h.le h.ge (bk _) ak;rw[<-this]at ak |-;exact Jl ak
def hj.set(h:hj P N T){k a:Nat}(af:k<N)(av:a<=P.s.size)(aw:sR P N k){c:bE}(aF:c0 P T k a=c)(au:c.ap≠0):hj P N (eS T k a c):=by
 obtain⟨xM,xN,Qd,Qe,B8⟩:=Jm h af av aw aF;obtain⟨B8,YH⟩:=B8 au;refine⟨λcb bw=>?_,λcb bw=>?_,λcb bw=>?_,λcb bw=>?_,λcb bw=>?_⟩
 ·by_cases e:cb=k/\bw=a
  ·obtain⟨rfl,rfl⟩:=e;rw[zx];exact xM
  ·rw[ux e];exact h.ap _ _
 ·by_cases e:cb=k/\bw=a
  ·obtain⟨rfl,rfl⟩:=e;rw[zx];exact λ_=>B8
  ·rw[ux e];exact h.snd _ _
 ·by_cases e:cb=k/\bw=a
  ·obtain⟨rfl,rfl⟩:=e;rw[zx];exact λ_ _ bM a4 _=>YH bM a4
  ·rw[ux e];exact h.rV _ _
 ·by_cases e:cb=k/\bw=a
  ·obtain⟨rfl,rfl⟩:=e;rw[zx];exact λ_ _=>⟨xN,Qd,Qe⟩
  ·rw[ux e];exact h.rg _ _
 ·intro ae;rw[ux λe=>ae (by rw[e.1,e.2];exact⟨af,av⟩)];exact h.out _ _ ae
def Qf{k a:Nat}(bM:(P.at_ k).d.k=6)(a4:(P.at_ k).d.hi=-1):c0 P T k a=uw T k ((P.at_ k).asks.getD 0 0) (P.at_ k).d.lo a:=by simp[c0,bM,a4]
def Qg(lo:Int)(c:bE)(h:c.ap=2):(lk lo c).ap≠0:=by
 unfold lk;cases decide ((c.times:Int)<lo)
 ·rw[aY,h];omega
 ·exact λh=>by cases h
def Qh{k q a:Nat}(h:(T q a).ap=1\/((T q a).ap=2/\(T q a).aB≠a/\(T k (T q a).aB).ap≠0)):(uw T k q lo a).ap≠0:=by
 unfold uw;rcases h with h | ⟨aa,ab,ai⟩
 ·simp only[h];exact Qg _ _ rfl
 ·have ag:Nat.beq (T q a).aB a=false:=by rw[sv];exact λe=>ab (bV e)
  have st:Nat.beq (T k (T q a).aB).ap 0=false:=by rw[sv];exact λe=>ai (bV e)
  simp only[aa,ag,st];exact Qg _ _ rfl
def YI(h:hj P N T)(aw:∀ k,k<N->sR P N k){a:Nat}(B9:∀ k b,a<b->(T k b).ce=bA P k b)(eo:∀ k,k<N->(T k a).ap=0->(c0 P T k a).ap=0)(av:a<=P.s.size)(k:Nat):(T k a).ce=bA P k a:=by
 have hle:lj a (bA P) (fP T):=YB λk b ag ak=>by
  have ax:dg P (bA P) k b=dg P (fP T) k b:=B6 h.le h.ge (bk _) ak;have ay:bA P k b=dg P (fP T) k b:=by rw[<-ax];exact Jl (by rw[ax];exact ak)
  by_cases uy:b=a
  ·subst uy;by_cases au:(T k b).ap=0
   ·exfalso;by_cases af:k<N
    ·have aF:=eo k af au;by_cases aI:(P.at_ k).d.k=6/\(P.at_ k).d.hi=-1
     ·rw[Qf aI.1 aI.2]at aF;rw[re aI.1,aI.2]at ak;obtain⟨t,aB,c,m9,-⟩:=P6 _ _ _ _ ak;generalize aK:(P.at_ k).asks.getD 0 0=q at m9 aF;cases m9 with
      |stop aa=>
       refine Qh (.inl ?_) aF;rcases om (h.ap q b)with⟨e,bc⟩ | ⟨e,bc⟩ | ⟨e,bc⟩;·simp only[fP,bc,lh]at aa;cases aa
       ·exact e
       ·simp only[fP,bc]at aa;cases aa
      |more aa bl r=>
       rcases om (h.ap q b)with⟨e,bc⟩ | ⟨e,bc⟩ | ⟨e,bc⟩;·simp only[fP,bc,lh]at aa;cases aa
       ·simp only[fP,bc,il]at aa;cases aa
       ·have ie:=h.oi q b;simp only[fP,bc]at ie bl r;obtain⟨aO,aP,br⟩:=ie.ge rfl;simp only at aO aP;refine Qh (.inr ⟨e,bl,λbT=>?_⟩) aF;have gx:=r.mono h.le h.ge (bk _);have aA:=P7 aI.1 aI.2 (aP av) (by rw[aK];exact gx);have bj:=B9 k (T q b).aB (by omega);have mw:cZ (bA P k (T q b).aB):=by
         rw[aA];cases decide ((_:Int)<(P.at_ k).d.lo);·exact .inr rfl
         ·exact .inl rfl
        rw[<-bj]at mw;exact(xL (h.ap _ _)).1 mw bT
     ·rw[<-P5 h.ap λaa ab=>aI ⟨aa,ab⟩]at ak;obtain⟨xM,-⟩:=Jm h af av (aw k af) rfl;exact(xL xM).1 ak aF
    ·have:=h.out k b λe=>af e.1;rw[ay]at this;rw[<-this]at ak;exact(xL (h.ap _ _)).1 ak au
   ·show(T k b).ce=_;rw[<-h.snd k b au];exact ay
  ·show(T k b).ce=_;rw[B9 k b (by omega)];exact ay
 by_cases ak:cZ (bA P k a)
 ·exact hle k a (bS _) ak
 ·by_cases au:(T k a).ap=0
  ·rw[(rh P k a).zero ak];rcases om (h.ap k a)with⟨e,bc⟩ | ⟨e,bc⟩ | ⟨e,bc⟩
   ·exact bc
   ·omega
   ·omega
  ·exact(h.snd k a au).symm
def YJ(h:hj P N T){k a:Nat}(af:k<N)(av:a<=P.s.size)(aw:sR P N k)(he:(T k a).ce=bA P k a)(au:(T k a).ap=0):(c0 P T k a).ap=0:=by obtain⟨xM,xN,Qd,Qe,B8⟩:=Jm h af av aw rfl;refine yC λbl=>?_;have e:=(B8 bl).1;rw[<-he]at e;have ak:=(xL xM).2 bl;rw[<-e]at ak;exact(xL (h.ap _ _)).1 ak au
end
def YK(x:Nat):min (e0 x 1) 65537=min (1+(min x 65537+0)) 65537:=by unfold e0;omega
def ja(c:bg):bg:=⟨min c.n 65537,c.aB,c.ap⟩
def dQ(z:Nat)(m:Nat->Nat->bg)(k p:Nat):bg:=bif Nat.ble p z then ja (m k p)else lh
def pc{m:Nat->Nat->bg}{k:Nat}(h:p<=z):dQ z m k p=ja (m k p):=by unfold dQ;rw[ud h];rfl
def Ft{m:Nat->Nat->bg}{k:Nat}(h:cZ (dQ z m k p)):p<=z/\dQ z m k p=ja (m k p)/\cZ (m k p):=by
 unfold dQ at h |-;cases ag:Nat.ble p z with
 |false=>rw[ag]at h;exact absurd h oj| true=>rw[ag]at h;exact⟨bq ag,rfl,h⟩
def Qi{m:Nat->Nat->bg}(h:lj 0 m m'):uc (dQ z m) (dQ z m'):=λk p ak=>by obtain⟨aa,ab,ai⟩:=Ft ak;rw[ab,pc aa,h k p (bk _) ai]
def Qj{P:bu}{fE:Nat->Nat->bg}(hle:uc kn fE){k pl:Nat}(ai:(fE k (pl-P.base)).ap=3){parts:List (Nat×Nat)}(aH:hz P kn k pl parts){n0:Nat}{eN:List bN}(nI:eY P kn n0 parts eN){N:Nat}(ay:jq eN N)(dY:g1 pl (fE k (pl-P.base)).aB eN)
  (aF:(fE k (pl-P.base)).n=min ((if(P.at_ k).d.k=9 then 1 else 0)+N) 65537):∃ n l,eY P fE n [(k,pl)] l/\jq l (fE k (pl-P.base)).n/\g1 pl (fE k (pl-P.base)).aB l:=by
 by_cases au:(fE k (pl-P.base)).n=0
 ·exact⟨1,[],.zero ai au .nil,⟨λ_=>au.symm,λh=>by omega⟩,.nil dY.le⟩
 ·refine⟨n0+1,_,.node ai au (aH.le hle) (l:=eN) (by rw[en];exact nI.le hle),?_,?_⟩
  case refine_2=>
   unfold lW;cases decide ((P.at_ k).d.k=9)with
   |true=>exact .cap dY| false=>exact dY
  rw[aF];refine jq.cut ?_;unfold lW;by_cases c8:(P.at_ k).d.k=9;·rw[cv c8,e7 c8,aZ];exact jq.app (l:=[_]) (n:=1) ⟨λ_=>rfl,λh=>by omega⟩ ay
  ·rw[b7 c8,b4 c8,aY,dG];exact ay
section
variable{z:Nat}{m:Nat->Nat->bg}(hm:∀ q b,hU z b (m q b))
include hm
def Qk{P:bu}(bd:P.s.size=z)(ag:P.base=0)(k p:Nat):i' P (P.base+p) (dQ z m k p):=by
 rw[ag,dG];by_cases aH:p<=z
 ·rw[pc aH];rcases hm k p with e | e | ⟨aa,ab,ai,aQ⟩
  ·rw[e];exact⟨bk _,λh=>(by cases h),λ_=>⟨rfl,rfl⟩⟩
  ·rw[e];exact⟨by show 2<=3;omega,λh=>(by cases h),λ_=>⟨rfl,rfl⟩⟩
  ·refine⟨by show(m k p).ap<=3;omega,λ_=>⟨ab,by rw[bd];exact ai aH,xn _ _⟩,λh=>absurd aa h⟩
 ·have:dQ z m k p=lh:=by unfold dQ;rw[sv.2 λe=>aH (bq e)];rfl
  rw[this];exact⟨bk _,λh=>(by cases h),λ_=>⟨rfl,rfl⟩⟩
def Ql:∀ (L:List Nat) (a n:Nat),(gO m L a n).ap=3->a<=z->allM (dQ z m) 0 L a/\(gO m L a n).aB=nb (dQ z m) 0 L a/\min (gO m L a n).n 65537=min (n+kk (dQ z m) 0 L a) 65537
 |[],a,n,_,_=>⟨trivial,rfl,rfl⟩
 |q::L,a,n,h,av=>by
  cases ai:Nat.beq (m q a).ap 3 with
  |false=>simp only[gO,ai,aY]at h;rw[h]at ai;cases ai| true=>have bj:=bV ai;have e:dQ z m q (a-0)=ja (m q a):=pc av;obtain⟨aO,aP,br⟩:=(hm q a).ge bj;simp only[gO,ai,aZ]at h |-;obtain⟨i1,i2,i3⟩:=Ql L _ _ h (aP av);simp only[allM,nb,kk,e];have nj:Nat.beq (ja (m q a)).ap 3=true:=ai;rw[nj,aZ,aZ];refine⟨⟨bj,i1⟩,i2,?_⟩;rw[i3];show min (e0 n (m q a).n+kk (dQ z m) 0 L (m q a).aB) 65537=min (n+(min (m q a).n 65537+kk (dQ z m) 0 L (m q a).aB)) 65537;unfold e0;omega
def Qm:∀ (L:List Nat) (a:Nat),(g2 m L a).ap=3->a<=z->o9 (dQ z m) 0 L a/\∃ q∈L,g2 m L a=m q a/\jo (dQ z m) 0 L a=bif Nat.beq (ja (m q a)).n 0 then []else [(q,a)]
 |[],a,h,_=>by cases h
 |q::L,a,h,av=>by
  have e:dQ z m q (a-0)=ja (m q a):=pc av;cases ab:Nat.beq (m q a).ap 2 with
  |true=>have aA:=bV ab;simp only[g2,ab,aZ]at h |-;obtain⟨i1,c7,i2,i3,i4⟩:=Qm L a h av;have dy:(ja (m q a)).ap=2:=aA;simp only[o9,jo,e,dy,i4];exact⟨.inr ⟨trivial,i1⟩,c7,.tail _ i2,i3,rfl⟩
  |false=>simp only[g2,ab,aY]at h |-;have nj:(ja (m q a)).ap=3:=h;refine⟨.inl (by rw[e];exact nj),q,.head _,rfl,?_⟩;simp only[jo,e,nj];rfl
def Qn{q:Nat}{lo hi:Int}:∀ (j i a n:Nat),(eL m q lo hi j i a n).ap=3->a<=z->i+j<=1000000->(hi=-1\/((i+j:Nat):Int)=hi)->∃ r,hy (dQ z m) 0 q hi i a (iq (dQ z m) 0 (List.replicate r q) a)/\allM (dQ z m) 0 (List.replicate r q) a /\ (eL m q lo hi j i a n).aB=nb (dQ z m) 0 (List.replicate r q) a/\min (eL m q lo hi j i a n).n 65537=min (n+kk (dQ z m) 0 (List.replicate r q) a) 65537
 |0,i,a,n,h,av,ar,a4=>by
  simp only[eL]at h |-;cases hu:decide (hi=-1)with
  |true=>rw[hu]at h;cases h
  |false=>
   have bl:=dj hu;refine⟨0,.stop ?_,trivial,rfl,rfl⟩;rcases a4 with a4 | a4;·exact absurd a4 bl
   ·rw[<-a4,pC]
 |j+1,i,a,n,h,av,ar,a4=>by
  have e:dQ z m q (a-0)=ja (m q a):=pc av;have c6:(i:Int)≠hi:=by
   rcases a4 with a4 | a4<;>omega
  cases ab:Nat.beq (m q a).ap 2 with
  |true=>
   simp only[eL,ab,aZ]at h |-;cases ay:decide ((i:Int)<lo)with
   |true=>rw[ay]at h;cases h| false=>exact⟨0,.fail c6 (by rw[e];exact bV ab),trivial,rfl,rfl⟩
  |false=>
   cases ai:Nat.beq (m q a).ap 3 with
   |false=>simp only[eL,ab,ai,aY]at h;cases h
   |true=>
    have bj:=bV ai;obtain⟨aO,aP,br⟩:=(hm q a).ge bj;simp only[eL,ab,ai,aY,aZ]at h |-;cases hu:decide (hi=-1)&&decide ((m q a).aB=a)with
    |true=>rw[hu]at h;cases h
    |false=>
     rw[hu,aY]at h;rw[aY];obtain⟨r,i0,i1,i2,i3⟩:=Qn j (i+1) _ _ h (aP av) (by omega) (by rcases a4 with a4 | a4;exact .inl a4;exact .inr (by rw[<-a4];omega));have nj:Nat.beq (ja (m q a)).ap 3=true:=ai;refine⟨r+1,?_,?_⟩
     ·have:=hy.more (kn:=dQ z m) (base:=0) (k:=q) (hi:=hi) (t:=i) (a:=a) (by omega) c6 (by rw[e];exact bj) (by rw[e];exact i0);rw[e]at this;simp only[zr,iq,e,nj,aZ];cases B':Nat.beq (ja (m q a)).n 0<;>rw[B']at this<;>exact this
     ·simp only[zr,allM,nb,kk,e,nj,aZ];refine⟨⟨bj,i1⟩,i2,?_⟩;rw[i3];show min (e0 n (m q a).n+kk (dQ z m) 0 (List.replicate r q) (m q a).aB) 65537=min (n+(min (m q a).n 65537+kk (dQ z m) 0 (List.replicate r q) (m q a).aB)) 65537;unfold e0;omega
end
structure sS(P:bu)(k:Nat):Prop where
 qc:0<=(P.at_ k).d.k
 one:(P.at_ k).d.k=3\/6<=(P.at_ k).d.k->∃ q,(P.at_ k).asks=[q]
 lt:(P.at_ k).d.k<10
 la:(P.at_ k).d.k=6->(P.at_ k).d.hi=-1\/(0<=(P.at_ k).d.hi/\(P.at_ k).d.hi<=99)
def YL{P:bu}(ag:P.base=0)(bd:P.s.size<=4096)(aw:∀ k,sS P k){m:Nat->Nat->bg}(hm:∀ q b,hU P.s.size b (m q b))(hle:lj 0 m λk a=>dg P m k a)(aG:rb P (dQ P.s.size m)):rb P (dQ P.s.size λk a=>dg P m k a):=by
 intro k p ai;obtain⟨aH,he,ak⟩:=Ft (.inr ai);rw[he]at ai;have ai:(dg P m k p).ap=3:=ai;have ie:=Ji hm rfl k p;obtain⟨aO,aP,br⟩:=ie.ge ai;have bT:p=p-P.base:=by rw[ag];rfl
 have Qo:=Qi (z:=P.s.size) hle;have aW:=Qk hm rfl ag;have uz:=aw k;rw[ag,dG];have zero:(dg P m k p).n=0->∃ n l,eY P (dQ P.s.size λk a=>dg P m k a) n [(k,p)] l/\jq l (dQ P.s.size (λk a=>dg P m k a) k p).n/\g1 p (dQ P.s.size (λk a=>dg P m k a) k p).aB l:=λau=>by refine⟨1,[],.zero (by rw[<-bT,he];exact ai) (by rw[<-bT,he];show min (dg P m k p).n 65537=0;omega) .nil,?_,.nil (by rw[he];exact aO)⟩;rw[he];show jq [] (min (dg P m k p).n 65537);rw[au];exact⟨λ_=>rfl,λh=>by omega⟩
 have many:∀ (L:List Nat),hz P (dQ P.s.size m) k p (iq (dQ P.s.size m) 0 L p)->allM (dQ P.s.size m) 0 L p->(dg P m k p).aB=nb (dQ P.s.size m) 0 L p->min (dg P m k p).n 65537=min ((if(P.at_ k).d.k=9 then 1 else 0)+kk (dQ P.s.size m) 0 L p) 65537 ->
   ∃ n l,eY P (dQ P.s.size λk a=>dg P m k a) n [(k,p)] l/\jq l (dQ P.s.size (λk a=>dg P m k a) k p).n/\g1 p (dQ P.s.size (λk a=>dg P m k a) k p).aB l:=λL sT qj Jo YM=>by
  obtain⟨n0,eN,hA,fh,ir⟩:=Py aW aG L p (by omega) (by rw[ag];exact qj);rw[ag]at hA fh ir;have:=Qj Qo (k:=k) (pl:=p) (by rw[<-bT,he];exact ai) sT hA fh (by rw[<-bT,he];show g1 p (dg P m k p).aB eN;rw[Jo];exact ir) (by rw[<-bT,he];exact YM);rwa [<-bT]at this
 rcases xI (P.at_ k).d.k with e | e | e | e | e | e | e | e | e | ⟨qc,dr,c4,fy,kF,Ca,YN,YO,YP⟩
 ·refine zero ?_;rw[ui e]
 ·refine zero ?_;rw[uj e];cases P.s.data[p]? with
  |none=>rfl| some b=>cases ag:lU (P.at_ k).d b.toNat<;>simp[ag,il]
 ·refine zero ?_;rw[uk e];cases preB P.s (P.at_ k).d.t p<;>rfl
 ·obtain⟨q,aK⟩:=uz.one (.inl e);have jr:dg P m k p=m q p:=by rw[um e,aK];rfl
  have my:dQ P.s.size m q (p-0)=ja (m q p):=pc aH;rw[jr]at ai;have g0:(ja (m q p)).ap=3:=ai;refine many [q] ?_ ⟨by rw[my];exact g0,trivial⟩ ?_ ?_;·unfold hz;rw[b7 (by omega),b7 (by omega),aK,ag];exact⟨⟨by rw[my];exact g0,trivial⟩,rfl⟩
  ·rw[jr];simp only[nb,my,g0];rfl
  ·rw[jr,b7 (by omega)];simp only[kk,my,g0];show min (m q p).n 65537=min (0+(min (m q p).n 65537+0)) 65537;omega
 ·have jr:dg P m k p=gO m (P.at_ k).asks p 0:=uo e;rw[jr]at ai;obtain⟨i1,i2,i3⟩:=Ql hm _ _ _ ai aH;refine many (P.at_ k).asks ?_ i1 (by rw[jr];exact i2) (by rw[jr,i3,b7 (by omega)]);unfold hz;rw[b7 (by omega),b7 (by omega),ag];exact⟨i1,rfl⟩
 ·have jr:dg P m k p=g2 m (P.at_ k).asks p:=uq e;have YQ:=ai;rw[jr]at ai;obtain⟨i1,q,i2,i3,i4⟩:=Qm _ _ ai aH;rw[i3]at ai;have my:dQ P.s.size m q p=ja (m q p):=pc aH;obtain⟨fN,mA,hA,fh,ir⟩:=aG q p (by rw[my];exact ai);rw[ag,dG]at hA ir;have nI:∃ hP jQ,eY P (dQ P.s.size m) hP (jo (dQ P.s.size m) 0 (P.at_ k).asks p) jQ/\jq jQ (ja (m q p)).n/\g1 p (m q p).aB jQ:=by
   rw[i4];rw[my]at fh ir;cases B':Nat.beq (ja (m q p)).n 0 with
   |true=>rw[aZ];refine⟨0,[],.nil,?_,.nil ir.le⟩;rw[bV B'];exact⟨λ_=>rfl,λh=>by omega⟩| false=>exact⟨fN,mA,hA,fh,ir⟩
  obtain⟨hP,jQ,lV,gx,im⟩:=nI;have YR:hz P (dQ P.s.size m) k p (jo (dQ P.s.size m) 0 (P.at_ k).asks p):=by unfold hz;rw[b7 (by omega),cv e,ag];exact⟨i1,rfl⟩
  have:=Qj Qo (k:=k) (pl:=p) (by rw[<-bT,he];exact YQ) YR lV gx (by rw[<-bT,he];show g1 p (dg P m k p).aB jQ;rw[jr,i3];exact im) (by rw[<-bT,he,b7 (by omega)];show min (dg P m k p).n 65537=min (0+min (m q p).n 65537) 65537;rw[jr,i3];omega);rwa [<-bT]at this
 ·have jr:=re (m:=m) (a:=p) e;rw[jr]at ai;have ri:=uz.la e;obtain⟨r,i0,i1,i2,i3⟩:=Qn hm _ _ _ _ ai aH (by
    unfold uh;cases hu:decide ((P.at_ k).d.hi=-1)with
    |true=>rw[aZ];omega| false=>rw[aY];have:=dj hu;omega) (by
    unfold uh;rcases ri with aa | aa;·exact .inl aa
    ·have:¬ (P.at_ k).d.hi=-1:=by omega
     rw[b4 this,aY];exact .inr (by omega))
  refine many (List.replicate r ((P.at_ k).asks.getD 0 0)) ?_ i1 (by rw[jr];exact i2) (by rw[jr,i3,b7 (by omega)]);unfold hz;rw[cv e,ag];exact i0
 ·refine zero ?_;rw[ur e]at ai |-;cases ll:Nat.beq (m ((P.at_ k).asks.getD 0 0) p).ap 3 with
  |true=>rfl| false=>rw[ll,aY]at ai;rw[ai]at ll;cases ll
 ·refine zero ?_;rw[uu e]at ai |-;cases jC:Nat.beq (m ((P.at_ k).asks.getD 0 0) p).ap 2 with
  |true=>rfl
  |false=>
   rw[jC,aY]at ai;cases ll:Nat.beq (m ((P.at_ k).asks.getD 0 0) p).ap 3<;>rw[ll]at ai<;>cases ai
 ·have Ih:6<=(P.at_ k).d.k:=by have:=uz.qc;omega
  obtain⟨q,aK⟩:=uz.one (.inr Ih);have jr:=uv (m:=m) (a:=p) qc dr c4 fy kF Ca YN YO YP;rw[aK]at jr;have my:dQ P.s.size m q (p-0)=ja (m q p):=pc aH;have Jp:([q]:List Nat).getD 0 0=q:=rfl;rw[Jp]at jr;cases ll:Nat.beq (m q p).ap 3 with
  |false=>rw[jr,ll,aY]at ai;rw[ai]at ll;cases ll
  |true=>
   rw[ll,aZ]at jr;have g0:(ja (m q p)).ap=3:=bV ll;refine many [q] ?_ ⟨by rw[my];exact g0,trivial⟩ ?_ ?_;·unfold hz;rw[b7 (by omega),b7 (by omega),aK,ag];exact⟨⟨by rw[my];exact g0,trivial⟩,rfl⟩
   ·rw[jr];simp only[nb,my,g0];rfl
   ·rw[jr];have c8:(P.at_ k).d.k=9:=by have:=uz.lt;omega
    rw[cv c8];simp only[kk,my,g0];exact YK (m q p).n
noncomputable def dk(P:bu):Nat->Nat->bg:=dQ P.s.size (bA P)
def Qp{P:bu}(ag:P.base=0)(bd:P.s.size<=4096)(aw:∀ k,sS P k):rb P (dk P):=by
 have step:∀ n,rb P (dQ P.s.size (fF P n)):=λn=>by
  induction n with
  |zero=>intro k p ai;obtain⟨-,-,ak⟩:=Ft (.inr ai);exact absurd ak oj
  |succ n a8=>exact YL ag bd aw (Fs P n) (Jj P n) a8
 intro k p ai;obtain⟨aH,he,ak⟩:=Ft (.inr ai);obtain⟨n,aw⟩:=mB ak;have e:dQ P.s.size (fF P n) k p=dQ P.s.size (bA P) k p:=by rw[pc aH,pc aH,aw]
 obtain⟨fN,l,hA,fh,ir⟩:=step n k p (by rw[e];exact ai);rw[e]at fh ir;exact⟨fN,l,hA.le (Qi (PY P n)),fh,ir⟩
def Qq{P:bu}(ag:P.base=0)(k p:Nat):i' P (P.base+p) (dk P k p):=Qk (rh P) rfl ag k p
structure xO(P:bu)(f g:(Nat->Nat->bg)->bg):Prop where
 l:f (bA P)=g (bA P)
 d:∀ n,cZ (f (fF P n))->cZ (g (fF P n))
def xO.trans{P:bu}{f h:(Nat->Nat->bg)->bg}(a:xO P f g)(b:xO P g h):xO P f h:=⟨a.l.trans b.l,λn x=>b.d n (a.d n x)⟩
def xO.ask{P:bu}{f:(Nat->Nat->bg)->bg}{q a:Nat}(ak:∀ m,cZ (f m)->cZ (m q a))(he:∀ m:Nat->Nat->bg,m q a=bA P q a->f m=g m):xO P f g:=
 ⟨he _ rfl,λn h=>by
  have ab:=xK (ak _ h);rw[he _ ab.symm]at h;exact h⟩
def xP(P:bu)(A:Nat->Nat->Prop)(f:(Nat->Nat->bg)->bg):Prop:=∀ n,cZ (f (fF P n))->∃ k a fq,fq<=n/\A k a/\cZ (fF P fq k a)
def Qr(P:bu)(A:Nat->Nat->Prop)(k a:Nat):Prop:=∀ n,cZ (fF P n k a)->∃ cb bw fq,fq<n/\A cb bw/\cZ (fF P fq cb bw)
def xP.aB{P:bu}{f:(Nat->Nat->bg)->bg}(h:xP P A g)(az:xO P f g):xP P A f:=λn ak=>h n (az.d n ak)
def xP.ask{P:bu}{f:(Nat->Nat->bg)->bg}{q a:Nat}(h:xP P A λm=>m q a)(ak:∀ m,cZ (f m)->cZ (m q a)):xP P A f:=λn ae=>h n (ak _ ae)
def Qr.le{P:bu}{k a:Nat}(h:Qr P A k a):xP P A λm=>m k a:=λn ak=>by obtain⟨cb,bw,fq,aa,ab,ai⟩:=h n ak;exact⟨cb,bw,fq,Nat.le_of_lt aa,ab,ai⟩
section
variable{m:Nat->Nat->bg}{q a n:Nat}{L:List Nat}
end
section
variable{X:b'}{o:Oper}{F:Fr}{C:cG}{I:aN}{M:List aC}{K:eF}
def be.YS(aI:cj X.P X.E){e:Nat}(an:o.op=.convert src dst x)(ak:∀ d,o.dst=some d->d<X.n)
 (az:X.E src=some cP) (da:cP.bn=.slice e) (he:X.E e=some aE) (k7:aE.bn=.int .u8) (jI:X.E dst=some Fg) (lg:Fg.bn=.string)
  {ad:Addr} {n:Nat} {l:List UInt8} (ae:bi F x=.val (.slice (some ad) n c)) (aw:l.length=n) (bD:ck I M ad n (l.map λb=>.int .u8 b.toNat))
  (h:K (put o.dst (.val (.string ⟨l.toArray⟩)) F) C I M):be X o F C I M K:=by
 subst aw;refine⟨λa w Q ⟨β,aX⟩=>?_⟩;obtain⟨aq,cs,T,aj,af,ah,ay⟩:=bD;have aG:=af.heap aX.holds;obtain⟨d,ev,eQ⟩:=(aI _ _ az).ep;have aa:d=.slice e:=by rw[da]at eQ;cases d<;>simp_all[ek]
 subst aa;obtain⟨d2,Jq,mw⟩:=(aI _ _ he).ep;have ab:d2=.int .u8:=by rw[k7]at mw;cases d2<;>simp_all[ek]
 subst ab;obtain⟨d3,Jr,EM⟩:=(aI _ _ jI).ep;have ai:d3=.string:=by rw[lg]at EM;cases d3<;>simp_all[ek]
 subst ai;have aF:∀ j (ar:j<l.length),w.cell? (ad.add j)=some (.int .u8 (l[j].toNat:Int)):=by
  intro j ar;rw[dx ad aq,rQ aG];have h8:(l.map λb=>Value.int .u8 b.toNat)[j]?=some (.int .u8 (l[j].toNat:Int)):=by simp[ar]
  rw[<-ah,jY,cv ar,oE]at h8;simpa using h8
 have ex:=cw aX.aj ae;refine u3 aX ak (by rw[an];simp) ?_ h;unfold execOp;simp only[an,bH,ch,ex,run_convert_bytes_back w src dst e ad c l ev Jq Jr aF,bx]
end
section
variable{X:b'}{F:Fr}{C:cG}{I:aN}{M:List aC}{o:Oper}{K:eF}
def be.YT(aI:cj X.P X.E){e:Nat}(an:o.op=.convert src dst x)(ak:∀ d,o.dst=some d->d<X.n)
 (az:X.E src=some cP) (da:cP.bn=.slice e) (he:X.E e=some aE) (k7:aE.bn=.int .u8) (jI:X.E dst=some Fg) (lg:Fg.bn=.string)
 (ae:bi F x=.val (.slice none 0 c))
  (h:K (put o.dst (.val (.string ⟨#[]⟩)) F) C I M):be X o F C I M K:=by
 refine⟨λa w Q ⟨β,aX⟩=>?_⟩;obtain⟨d,ev,eQ⟩:=(aI _ _ az).ep;have aa:d=.slice e:=by rw[da]at eQ;cases d<;>simp_all[ek]
 subst aa;obtain⟨d2,Jq,mw⟩:=(aI _ _ he).ep;have ab:d2=.int .u8:=by rw[k7]at mw;cases d2<;>simp_all[ek]
 subst ab;obtain⟨d3,Jr,EM⟩:=(aI _ _ jI).ep;have ai:d3=.string:=by rw[lg]at EM;cases d3<;>simp_all[ek]
 subst ai;have ex:=cw aX.aj ae;refine u3 aX ak (by rw[an];simp) ?_ h;unfold execOp;have eu:(convert src dst (.slice none 0 c)).run X.P w=.ok (.string ⟨#[]⟩) w:=by rw[run_convert_bytes_string w src dst e none 0 c ev Jq Jr];rfl
 simp only[an,bH,ch,ex,eu,bx]
end
def a7.whole{P:Program}{f:Nat}(post:Value->aN->List aC->Prop)(aq:Spec P f args I M post)(k:∀ v I' M',(∀ b o,I b=some o->I' b=some o)->post v I' M'->K v I' M'):a7 bF P f args I M K:=
 .mk M [] post (by simp) aq λv I' M' aa ab=>by rw[en];exact k v I' M' aa ab
def nO.whole{soft:Bool}{P:Program}{f:Nat}(post:Value->aN->List aC->Prop)(aq:Spec P f args I M post)(kx:∀ v I' M',post v I' M'->∀ x∈M,x∈M')(k:∀ v I' M',(∀ b o,I b=some o->I' b=some o)->post v I' M'->K v I' M'):nO soft bF P f args I M K:=
 .MO M [] post (by simp) aq kx λv I' M' aa ab=>by rw[en];exact k v I' M' aa ab
def nO.YU{P:Program}{f:Nat}(post:Value->aN->List aC->Prop)(aq:Spec P f args I M post)(k:∀ v I' M',(∀ b o,I b=some o->I' b=some o)->post v I' M'->K v I' M'):nO true bF P f args I M K:=
 .MP rfl M [] post (by simp) aq λv I' M' aa ab=>by rw[en];exact k v I' M' aa ab
section
variable{X:b'}{β:Nat->Nat}{a:Act}{w:World}{F:Fr}{C:cG}{I:aN}{M:List aC}{o:Oper}{K:eF}
def h6.zy{M':List aC}(h:M=M'):h6 bF I M I M':=by subst h;exact .refl
def be.gS(h:be X o F C I M λF C I M=>∃ I' M',h6 X.bF I M I' M'/\K F C I' M'):be X o F C I M K:=by obtain⟨h⟩:=h;refine⟨λa w Q aX=>pz ?_ (h a w Q aX)⟩;rintro bw w'⟨de,C',I',M',⟨β,ao⟩,gh,eP,hw,af⟩;exact⟨de,C',gh,eP,⟨β,ao.gS hw⟩,af⟩
def be.zz(aI:cj X.P X.E){t:Nat}(an:o.op=.call { callee:=.builtin .append,args:=#[s,x],argTypes:=#[t,t] })(ak:∀ d,o.dst=some d->d<X.n)
  {e:Nat} (az:X.E t=some cP) (da:cP.bn=.slice e) (he:X.E e=some aE)
  (os:bb) (aW:os.ok aE.size xs) (aq:bi F s=.val os.val)
 {cs:List Value} (ae:bi F x=.val (.slice (some ⟨b6,0,none⟩) 1 c')) (ay:cs.length=aE.size) (aa:ga cs=true)
  (pre post:List aC) (a5:M=⟨b6,.cells cs.toArray e (0,0)⟩::(pre++(os.aV e++post))) (cU:os.n+1<=9223372036854775807) (b9:(os.n+1)*aE.bytes<=140737488355328)
  (k:∀ b5:bb,b5.n=os.n+1->(∀ g,b5.a=some g->I g=none)->b5.ok aE.size (xs++cs)->K (put o.dst (.val b5.val) F) C I (pre++(b5.aV e++post))):be X o F C I M K:=by
 refine .gS (.Nu aI an ak az da he os aW aq (m:=1) (news:=cs) ae (by decide) ?_ aa (Mr:=⟨b6,.cells cs.toArray e (0,0)⟩::(pre++post)) ?_ (by unfold maxLen;exact cU) b9 ?_)
 ·rw[oR];refine⟨rfl,_,_,_,.inr ⟨⟨b6,.cells cs.toArray e (0,0)⟩,by rw[a5];exact .head _,rfl,rfl⟩,?_,ay⟩;simp only[yY];exact hN (by omega)
 ·rw[a5];have ab:(⟨b6,.cells cs.toArray e (0,0)⟩::(pre++(os.aV e++post)):List aC).Perm (⟨b6,.cells cs.toArray e (0,0)⟩::(os.aV e++(pre++post))):=.cons _ (E9 _ _ _);exact ab.trans qf.symm
 ·intro g c cur a' dH di hQ jl;refine⟨I,pre++((⟨some g,os.n+1,c,cur⟩:bb).aV e++post),.sub (M1:=⟨g,.cells cur.toArray e (0,0)⟩::(pre++post)) (.cons_cons _ (.cons _ (.refl _))) (.perm ?_ .refl),k ⟨some g,os.n+1,c,cur⟩ rfl (λc5 aG=>by cases aG;exact a') ⟨?_,(λh=>by cases h),λc5 aG=>?_⟩⟩
  ·exact qf.symm
  ·rw[cD,aW.len,ay,iV,oR]
  ·cases aG;exact⟨dH,di,hQ,jl⟩
def be.Qs(aI:cj X.P X.E){t:Nat}(an:o.op=.call { callee:=.builtin .append,args:=#[s,x],argTypes:=#[t,t] })(ak:∀ d,o.dst=some d->d<X.n)
  {e:Nat} (az:X.E t=some cP) (da:cP.bn=.slice e) (he:X.E e=some aE)
  (os:bb) (aW:os.ok aE.size xs) (aq:bi F s=.val os.val)
  {sa:Option Addr} {m:Nat} (ae:bi F x=.val (.slice sa m c')) (ay:news.length=m*aE.size) (aw:0<m->∃ ad,sa=some ad/\ck I M ad (m*aE.size) news) (aa:ga news=true)
  (pre post:List aC) (a5:M=pre++(os.aV e++post)) (cU:os.n+m<=9223372036854775807) (b9:(os.n+m)*aE.bytes<=140737488355328)
  (k:∀ b5:bb,b5.n=os.n+m->(0<m->∀ g,b5.a=some g->I g=none)->b5.ok aE.size (xs++news)->K (put o.dst (.val b5.val) F) C I (pre++(b5.aV e++post))):be X o F C I M K:=by
 by_cases au:m=0
 ·subst au;have lC:news=[]:=lD (by simpa using ay);subst lC;refine .H2 aI an ak az da az (λk=>by rw[da];simp) he (sa:=os.a.map λg=>⟨g,0,none⟩) (n:=os.n) (c:=os.c) aq ?_ ae (.inl ⟨_,_,rfl⟩) ?_
  ·cases av:os.a with
   |none=>obtain⟨dH,di⟩:=aW.nil av;omega
   |some g=>exact(aW.cap g av).2.1
  ·have:=k os rfl (λh=>by omega) (by rw[en];exact aW);rw[a5];exact this
 obtain⟨ad,rfl,bD⟩:=aw (by omega);refine .gS (.Nu aI an ak az da he os aW aq (m:=m) (news:=news) ae (by omega) bD aa (Mr:=pre++post) ?_ (by unfold maxLen;exact cU) b9 ?_)
 ·rw[a5];exact(E9 _ _ _)
 ·intro g c cur a' dH di hQ jl;refine⟨I,pre++((⟨some g,os.n+m,c,cur⟩:bb).aV e++post),.perm ?_ .refl,k ⟨some g,os.n+m,c,cur⟩ rfl (λ_ c5 aG=>by cases aG;exact a') ⟨?_,(λh=>by cases h),λc5 aG=>?_⟩⟩
  ·exact qf.symm
  ·rw[cD,aW.len,ay,iV]
  ·cases aG;exact⟨dH,di,hQ,jl⟩
end
def YV(pre mid post:List Value)(k:Nat)(vs:List Value)(h:k+vs.length<=mid.length):bo (pre++(mid++post)) (pre.length+k) vs=pre++(bo mid k vs++post):=by
 unfold bo;have aa:(pre++(mid++post)).take (pre.length+k)=pre++mid.take k:=by rw[Fb,I0,hN (by omega),A5 (by omega)]
 have ab:(pre++(mid++post)).drop (pre.length+k+vs.length)=mid.drop (k+vs.length)++post:=by rw[oF,Ni,PF h]
 rw[aa,ab];simp
def Js(f:α->List Value)(size:Nat)(aD:∀ x,(f x).length=size)(l:List α)(i:Nat)(hi:i<l.length)(k:Nat)(vs:List Value)(af:k+vs.length<=size)(lA:α)(ae:bo (f l[i]) k vs=f lA) :
  bo (l.flatMap f) (i*size+k) vs=(l.set i lA).flatMap f:=by
 have e:l=l.take i++l[i]::l.drop (i+1):=by rw[<-fs hi,w3]
 have ax:l.flatMap f=(l.take i).flatMap f++(f l[i]++(l.drop (i+1)).flatMap f):=by
  calc l.flatMap f=(l.take i++l[i]::l.drop (i+1)).flatMap f:=congrArg _ e
   _=_:=by rw[mg,qO]
 have aA:((l.take i).flatMap f).length=i*size:=by rw[fo f size aD,List.length_take_of_le (by omega)]
 rw[ax,<-aA,YV _ _ _ _ _ (by rw[aD];exact af),D5,cv hi,mg,qO,ae]
def YW{j m:Nat}(h:j+vs.length<=m)(hm:m<=cur.length):(bo cur j vs).take m=bo (cur.take m) j vs:=by
 unfold bo;have aa:(cur.take m).take j=cur.take j:=by rw[tG,yG (by omega)]
 have ab:(cur.take m).drop (j+vs.length)=(cur.drop (j+vs.length)).take (m-(j+vs.length)):=by rw[vl]
 have ai:(cur.take j).length=j:=by rw[kz];omega
 rw[aa,ab,fJ,fJ,Fb,ai,hN (by omega),Fb,hN (by omega:vs.length<=m-j)];congr 3;omega
def bb.put(f:α->List Value)(size:Nat)(aD:∀ x,(f x).length=size){l:List α}{e:Nat}(h:os.ok size (l.flatMap f)){i:Nat}(hi:i<l.length)(k:Nat)(af:k+vs.length<=size)(aa:ga vs=true)(lA:α)(ae:bo (f l[i]) k vs=f lA)(pre post:List aC)(a5:M=pre++(os.aV e++post)){g off:Nat}(aG:os.a=some g)(YX:off=i*size+k){K:List aC->Prop}
  (eE:∀ (b5:bb),b5.val=os.val->b5.a=os.a->b5.n=os.n->b5.ok size ((l.set i lA).flatMap f)->K (pre++(b5.aV e++post))):cS M ⟨g,off,none⟩ vs K:=by
 have DH:=h.len;rw[fo f size aD]at DH;obtain⟨a,n,c,cur⟩:=os;have ay:l.length*size=n*size:=DH;simp only at aG;subst aG;obtain⟨dH,di,hQ,jl⟩:=h.cap g rfl;simp only at dH di hQ jl;have ag:n*size<=c*size:=qz _ di;have gd:i*size+size<=l.length*size:=by have:=qz size (show i+1<=l.length from hi);rwa [iV,oR]at this
 subst a5;subst YX;refine cS.mk pre post cur.toArray e rfl rfl ?_ aa ?_
 ·simp only[qA];omega
 ·have:=eE ⟨some g,n,c,bo cur (i*size+k) vs⟩ rfl rfl rfl ⟨?_,(λh=>by cases h),λc5 aG=>?_⟩
  ·simpa[bb.aV]using this
  ·rw[fo f size aD,vS];exact ay
  ·cases aG;refine⟨?_,di,hQ,?_⟩
   ·simp only[bo,cD,kz,r9];omega
   ·simp only;rw[YW (by omega) (by omega),jl,Js f size aD l i hi k vs af lA ae]
def YY(l:List Value)(k:Nat)(v:Value)(h:k<l.length):bo l k [v]=l.set k v:=by rw[D5,cv h];simp[bo]
def bb.Qt(f:α->List Value)(size:Nat)(aD:∀ x,(f x).length=size){l:List α}{e:Nat}(h:os.ok size (l.flatMap f)){i:Nat}(hi:i<l.length)(k:Nat)(af:k+vs.length<=size)(aa:ga vs=true)(lA:α)(ae:bo (f l[i]) k vs=f lA)(pre post:List aC)(a5:M=pre++(os.aV e++post)){ad:Addr}(cg:(os.a.map λg=>(⟨g,0,none⟩:Addr))=some ad){K:List aC->Prop}
  (eE:∀ (b5:bb),b5.val=os.val->b5.a=os.a->b5.n=os.n->b5.ok size ((l.set i lA).flatMap f)->K (pre++(b5.aV e++post))):cS M ((ad.add (i*size)).add k) vs K:=by
 obtain⟨g,aG,rfl⟩:∃ g,os.a=some g/\ad=⟨g,0,none⟩:=by
  cases av:os.a with
  |none=>rw[av]at cg;cases cg| some g=>rw[av]at cg;cases cg;exact⟨g,rfl,rfl⟩
 rw[dx (⟨g,0,none⟩:Addr) rfl,dx _ rfl];exact bb.put f size aD h hi k af aa lA ae pre post a5 aG (by simp) eE
def bg.cells(c:bg):List Value:=[.int .i32 c.n,.int .i16 c.aB,.int .u8 c.ap]
def bg.val(c:bg):Value:=.agg #[.int .i32 c.n,.int .i16 c.aB,.int .u8 c.ap]
def bg.cV(c:bg):c.cells.length=3:=rfl
def eJ.cells(f:eJ):List Value:=[.int .i32 f.a2,.int .i32 f.pl,.int .i32 f.times,.int .i32 f.aB,.int .i32 f.n]
def eJ.cV(f:eJ):f.cells.length=5:=rfl
structure nk where
 d:a1
 a:Option Addr
 n:Nat
 c:Nat
 asks:List Nat
def nk.cells(x:nk):List Value:=x.d.cells++[.slice x.a x.n x.c]
def nk.cV(x:nk):x.cells.length=10:=rfl
structure nk.ok(I:aN)(x:nk):Prop where
 d:x.d.ok I
 a3:dt I x.a x.n x.c 1 8 (x.asks.map λ(k:Nat)=>Value.int .i64 (k:Int))
def nk.pn(x:nk):oe:=⟨x.d,x.asks⟩
def nk.ok.mono{x:nk}(h:x.ok I)(a':∀ b o,I b=some o->I' b=some o):x.ok I':=⟨h.d.mono a',h.a3.mono a'⟩
structure xQ where
 xs:List nk
 a:Option Addr
 n:Nat
 c:Nat
structure xQ.ok(I:aN)(x:xQ):Prop where
 a3:dt I x.a x.n x.c 10 0 (x.xs.flatMap nk.cells)
 xs:∀ y∈x.xs,y.ok I
def xQ.ok.mono{x:xQ}(h:x.ok I)(a':∀ b o,I b=some o->I' b=some o):x.ok I':=⟨h.a3.mono a',λy aL=>(h.xs y aL).mono a'⟩
def xQ.ok.n{x:xQ}(h:x.ok I):x.xs.length=x.n:=by have:=h.a3.len;rw[fo _ 10 nk.cV]at this;omega
structure cH where
 jm:Nat
 af9:Nat
 s:ByteArray
 base:Nat
 fuel:Nat
 ns:xQ
def cH.hV(m:cH):bu:=⟨m.ns.xs.map nk.pn,m.s,m.base⟩
structure Qu where
 b:Option Nat
 cs:List bg
def Qu.val(w:Nat)(r:Qu):Value:=match r.b with
 |none=>.slice none 0 0| some b=>.slice (some ⟨b,0,none⟩) w w
def wrap_i32{x:Int}(aa:-2147483648<=x)(ab:x<=2147483647):IntKind.i32.wrap x=x:=by unfold IntKind.wrap;simp only[IntKind.bits,IntKind.signed];simp;omega
def bb.at_{f:α->List Value}{size:Nat}(aD:∀ x,(f x).length=size)(au:0<size){l:List α}{e:Nat}(h:os.ok size (l.flatMap f))(a5:∀ x∈os.aV e,x∈M){g:Nat}(aG:os.a=some g){i:Nat}(hi:i<l.length):ck I M ⟨g,i*size,none⟩ size (f l[i]):=by obtain⟨ad,cg,bD⟩:=bb.ok.row (I:=I) (M:=M) (e:=e) aD au h a5 hi;rw[aG]at cg;cases cg;rwa [dx _ rfl,dG]at bD
structure Qv(os:bb)(rest:List eJ)(f:eJ)(g:Nat):Prop where
 a:os.a=some g
 ok:os.ok 5 ((rest++[f]).flatMap eJ.cells)
section
variable{I:aN}{P:bu}{f:eJ}{c:bg}{x:nk}{pn:Addr}{os:bb}{rest:List eJ}{g:Nat}
end
def YZ{w:Int}(hw:fB w)(k:Nat):decide (IntKind.u64.wrap ((BitVec.ofInt 64 (w.fdiv (2^k)) &&& BitVec.ofInt 64 1).toNat:Int)=1)=w.toNat.testBit k:=by
 obtain⟨n,rfl⟩:=qM hw.1;have aw:n<18446744073709551616:=by have:=hw.2;omega
 have ax:((n:Int)).fdiv (2^k)=((n/2^k:Nat):Int):=by rw[D7 _ (by exact Int.le_of_lt (Int.pow_pos (by decide)))];simp
 rw[ax];have aA:(BitVec.ofInt 64 ((n/2^k:Nat):Int) &&& BitVec.ofInt 64 1).toNat=n/2^k%2:=by
  have aa:BitVec.ofInt 64 ((n/2^k:Nat):Int)=BitVec.ofNat 64 (n/2^k):=(show ∀ m:Nat,BitVec.ofInt 64 (m:Int)=BitVec.ofNat 64 m from λm=>by simp) _;have ab:BitVec.ofInt 64 1=BitVec.ofNat 64 1:=by decide
  rw[aa,ab,Ec,I2,I2];have ai:n/2^k%2^64=n/2^k:=Nat.mod_eq_of_lt (Nat.lt_of_le_of_lt (Nat.div_le_self _ _) aw);rw[ai,show 1%2^64=1 by decide,Nat.and_one_is_mod]
 rw[aA];have bj:IntKind.u64.wrap ((n/2^k%2:Nat):Int)=((n/2^k%2:Nat):Int):=by have:n/2^k%2<2:=Nat.mod_lt _ (by decide);unfold IntKind.wrap;simp only[IntKind.bits,IntKind.signed];simp;omega
 rw[bj,nF,Nat.testBit_eq_decide_div_mod_eq,rL];simp only[eC];omega
def Y0{a b c d:Int}(sr:∀ x∈[a,b,c,d],fB x)(x:UInt8):Spec Tryz.prog 160 [.agg #[.int .u64 a,.int .u64 b,.int .u64 c,.int .u64 d],.int .u8 x.toNat] I M
  λv I' M'=>v=.bool (([a,b,c,d].getD (x.toNat/64) 0).toNat.testBit (x.toNat%64))/\I'=I/\M'=M:=by
 refine b8 [] aT Tryz.func160 rfl rfl rfl ?_;intro B au;have ae:x.toNat<256:=x.toNat_lt;refine oH.mk (by decide) ?_;refine a6.mk ((x.toNat/64:Nat):Int) (by
  have:((x.toNat:Int)).tdiv 64=((x.toNat/64:Nat):Int):=by simp[E']
  rw[this];unfold IntKind.wrap;simp only[IntKind.bits,IntKind.signed];simp;omega) ?_
 have ar:x.toNat/64=0\/x.toNat/64=1\/x.toNat/64=2\/x.toNat/64=3:=by omega
 have tY:((x.toNat:Int)).tmod 64=((x.toNat%64:Nat):Int):=by rw[Int.tmod_eq_emod_of_nonneg (by omega)];simp
 have tJ:min (x.toNat%64) 64=x.toNat%64:=by omega
 have fin:∀ w:Int,fB w->Value.bool (decide (IntKind.u64.wrap ((BitVec.ofInt 64 (w.fdiv (2^(min (x.toNat%64) 64))) &&& BitVec.ofInt 64 1).toNat:Int)=1))=.bool (w.toNat.testBit (x.toNat%64)):=λw hw=>by rw[tJ,YZ hw]
 rcases ar with e | e | e | e<;>rw[e]
 ·refine ed.mk 0 rfl (by decide) ?_;refine oH.mk (by decide) ?_;refine u1.mk _ tY ?_;exact⟨_,_,.refl,fin a (sr a (by simp)),rfl,rfl⟩
 ·refine ed.mk 1 rfl (by decide) ?_;refine oH.mk (by decide) ?_;refine u1.mk _ tY ?_;exact⟨_,_,.refl,fin b (sr b (by simp)),rfl,rfl⟩
 ·refine ed.mk 2 rfl (by decide) ?_;refine oH.mk (by decide) ?_;refine u1.mk _ tY ?_;exact⟨_,_,.refl,fin c (sr c (by simp)),rfl,rfl⟩
 ·refine ed.mk 3 rfl (by decide) ?_;refine oH.mk (by decide) ?_;refine u1.mk _ tY ?_;exact⟨_,_,.refl,fin d (sr d (by simp)),rfl,rfl⟩
def zA(s t:ByteArray):Bool:=decide (t.size<=s.size)&&decide (s.extract 0 t.size=t)
def Y1(s t:ByteArray):Spec Tryz.prog 176 [.string s,.string t] I M λv I' M'=>v=.bool (zA s t)/\I'=I/\M'=M:=by
 refine b8 [] aT Tryz.func176 rfl rfl rfl ?_;intro B au;have ak:decide ((t.size:Int)<=(s.size:Int))=decide (t.size<=s.size):=by rw[rL];simp only[eC];omega
 refine bC.mk (λh=>?_) (λh=>?_)
 ·have bf:(t.size:Int)<=(s.size:Int):=c9 h;refine h5.mk 0 t.size rfl rfl (bk _) (by omega) ?_;refine⟨_,_,.refl,?_,rfl,rfl⟩;rw[zA,<-ak,show decide ((t.size:Int)<=(s.size:Int))=true from h,w7]
 ·refine⟨_,_,.refl,?_,rfl,rfl⟩;rw[zA,<-ak,show decide ((t.size:Int)<=(s.size:Int))=false from h,yZ]
def Y2(s t:ByteArray):Spec Tryz.prog 161 [.string s,.string t] I M λv I' M'=>v=.bool (zA s t)/\I'=I/\M'=M:=by refine b8 [] aT Tryz.func161 rfl rfl rfl ?_;intro B au;refine a7.whole _ (Y1 s t) ?_;rintro v I' M' -⟨rfl,rfl,rfl⟩;exact⟨_,_,.refl,rfl,rfl,rfl⟩
def Y3(s t:ByteArray){a:Nat}(av:a<=s.size):zA (s.extract a s.size) t=preB s t a:=by
 have aa:(s.extract a s.size).size=s.size-a:=by simp[A6]
 unfold zA preB;rw[aa];by_cases h:t.size<=s.size-a
 ·have aA:(s.extract a s.size).extract 0 t.size=s.extract a (a+t.size):=by rw[ByteArray.extract_extract];congr 1;omega
  rw[aA,e7 h,e7 (by omega:a+t.size<=s.size)]
 ·rw[b4 h,b4 (by omega:¬ a+t.size<=s.size)];rfl
def a1.xR(d:a1):a1:=⟨d.k,d.fT,d.s1,d.s2,d.gv,d.t,d.lo,d.hi,none,0,0,[]⟩
def a1.pn(d:a1):oe:=⟨d.xR,d.kids.map Int.toNat⟩
def bE.cells(c:bE):List Value:=[.int .i64 c.n,.int .i32 c.aB,.int .u8 c.ap,.int .u8 c.times]
def bE.val(c:bE):Value:=.agg #[.int .i64 c.n,.int .i32 c.aB,.int .u8 c.ap,.int .u8 c.times]
def bE.cV(c:bE):c.cells.length=4:=rfl
structure dp where
 bt:Nat
 s:ByteArray
 nv:Value
 rv:Value
 km:List a1
 na:Option Addr
 nn:Nat
 nc:Nat
 Jt:Option Addr
 fz:Nat
 rows:List Addr
 n0:Nat
 ej:Nat
def dp.w(t:dp):Nat:=t.s.size+1
def dp.P(t:dp):bu:=⟨t.km.map a1.pn,t.s,0⟩
def dp.bK(t:dp):List Value:=[.string t.s,t.nv,t.rv,.slice t.na t.nn t.nc,.slice t.Jt t.nn t.fz]
def kP(T:Nat->Nat->bE)(k w:Nat):List Value:=(List.range w).flatMap λa=>(T k a).cells
def dp.cs(t:dp)(T:Nat->Nat->bE):List Value:=(List.range (t.nn-t.n0)).flatMap λj=>kP T (t.n0+j) t.w
def dp.aV(t:dp)(T:Nat->Nat->bE):aC:=⟨t.ej,.cells (t.cs T).toArray 107 (0,0)⟩
structure dp.ok(I:aN)(t:dp)(T:Nat->Nat->bE):Prop where
 ap:I t.bt=some (.cells t.bK.toArray 100 (0,0))
 ns:dt I t.na t.nn t.nc 9 96 (t.km.flatMap a1.cells)
 km:∀ y∈t.km,y.ok I
 Qw:∀ y∈t.km,y.t.size<=4096
 Qx:∀ y∈t.km,∀ x∈y.kids,0<=x/\x.toNat<t.nn
 rw:dt I t.Jt t.nn t.fz 1 24 (t.rows.map λa=>Value.slice (some a) t.w t.w)
 dW:∀ a∈t.rows,a.spot=none
 cE:∀ k (h:k<t.rows.length),k<t.n0->∃ cs e9 aj,I t.rows[k].block=some (.cells cs e9 aj)/\(cs.toList.drop t.rows[k].off).take (t.w*4)=kP T k t.w
 new:∀ k (h:k<t.rows.length),t.n0<=k->t.rows[k]=⟨t.ej,(k-t.n0)*(t.w*4),none⟩
 sz:t.s.size<=4096
 many:t.nn<=4096
def xS(T:Nat->Nat->bE)(k w:Nat):(kP T k w).length=w*4:=by unfold kP;rw[fo _ 4 λa=>rfl,rc]
def Qy(T:Nat->Nat->bE)(k w:Nat){a:Nat}(av:a<w):((kP T k w).drop (a*4)).take 4=(T k a).cells:=by unfold kP;rw[xc _ 4 (λa=>rfl) _ a (by rw[rc];exact av),qe]
def dp.Y4(t:dp)(T:Nat->Nat->bE):(t.cs T).length=(t.nn-t.n0)*(t.w*4):=by unfold dp.cs;rw[fo _ (t.w*4) λj=>xS T _ t.w,rc]
section
variable{I:aN}{t:dp}{T:Nat->Nat->bE}
def dp.ok.nn(h:t.ok I T):t.km.length=t.nn:=by have:=h.ns.len;rw[fo _ 9 a1.cV]at this;omega
def dp.ok.Ju(h:t.ok I T):t.rows.length=t.nn:=by have:=h.rw.len;rw[fl]at this;omega
def dp.ok.e1(h:t.ok I T){j:Nat}(ar:j<5):ck I M ((⟨t.bt,0,none⟩:Addr).add j) 1 [t.bK.getD j undef]:=by
 rw[dx _ rfl];refine⟨rfl,_,_,_,.inl h.ap,?_,rfl⟩
 match j,ar with
 |0,_=>rfl| 1,_=>rfl| 2,_=>rfl| 3,_=>rfl| 4,_=>rfl
def dp.ok.at_(h:t.ok I T){k:Nat}(af:k<t.nn):∃ y,y∈t.km/\t.P.at_ k=y.pn/\y.ok I/\y.t.size<=4096/\(∀ x∈y.kids,0<=x/\x.toNat<t.nn)/\∃ ad,t.na=some ad/\∀ M,ck I M (ad.add (k*9)) 9 y.cells:=by
 have iJ:k<t.km.length:=by rw[h.nn];exact af
 obtain⟨ad,aa,ab⟩:=h.ns.row a1.cV af iJ;have hm:=dR iJ;refine⟨t.km[k],hm,?_,h.km _ hm,h.Qw _ hm,h.Qx _ hm,ad,aa,ab⟩;simp[bu.at_,dp.P,dT,iJ]
def Y5(h:t.ok I T){k a:Nat}(af:k<t.nn)(au:t.n0<=k)(av:a<t.w):((t.cs T).drop ((k-t.n0)*(t.w*4)+a*4)).take 4=(T k a).cells:=by
 have aa:((t.cs T).drop ((k-t.n0)*(t.w*4))).take (t.w*4)=kP T k t.w:=by unfold dp.cs;rw[xc _ (t.w*4) (λj=>xS T _ t.w) _ (k-t.n0) (by rw[rc];omega),qe,su au]
 rw[<-Qy T k t.w av,<-aa,vl,w6,tG];congr 1;omega
def dp.ok.row(h:t.ok I T){k:Nat}(af:k<t.nn):∃ ad,t.Jt=some ad/\∃ r:Addr,r.spot=none/\(∀ M,ck I M (ad.add (k*1)) 1 [.slice (some r) t.w t.w])/\(t.n0<=k->r=⟨t.ej,(k-t.n0)*(t.w*4),none⟩) /\
  ∀ M,(t.n0<t.nn->t.aV T∈M)->∀ a,a<=t.s.size->ck I M (r.add (a*4)) 4 (T k a).cells:=by
 have iJ:k<t.rows.length:=by rw[h.Ju];exact af
 obtain⟨ad,aa,ab⟩:=h.rw.one af iJ;have bI:=h.dW _ (dR iJ);refine⟨ad,aa,t.rows[k],bI,ab,h.new k iJ,λM a5 a av=>?_⟩;have oo:a<t.w:=by show a<t.s.size+1;omega
 rw[dx _ bI];by_cases au:k<t.n0
 ·obtain⟨cs,e9,aj,ax,aA⟩:=h.cE k iJ au;refine⟨rfl,cs,e9,aj,.inl ax,?_,rfl⟩;rw[<-Qy T k t.w oo,<-aA,vl,w6,tG];congr 1;omega
 ·rw[h.new k iJ (by omega)];refine⟨rfl,(t.cs T).toArray,107,(0,0),.inr ⟨_,a5 (by omega),rfl,rfl⟩,?_,rfl⟩;exact Y5 h af (by omega) oo
end
def Y6{x:Int}(aa:0<=x)(ab:x<=255):IntKind.u8.wrap x=x:=by unfold IntKind.wrap;simp only[IntKind.bits,IntKind.signed];simp;omega
section
variable{I:aN}{M:List aC}
def vU(a:Nat)(av:a<=100000):Spec Tryz.prog 159 [.int .i64 a] I M λv I' M'=>v=(lZ a).val/\I'=I/\M'=M:=by refine b8 [] aT Tryz.func159 rfl rfl rfl ?_;intro B au;refine a6.mk (a:Int) (wrap_i32 (by omega) (by omega)) ?_;exact⟨_,_,.refl,rfl,rfl,rfl⟩
def Fu(a b:Nat)(av:a<=1099511627776)(ag:b<=1099511627776):Spec Tryz.prog 163 [.int .i64 a,.int .i64 b] I M λv I' M'=>v=.int .i64 (e0 a b)/\I'=I/\M'=M:=by refine b8 [] aT Tryz.func163 rfl rfl rfl ?_;intro B au;refine a6.mk ((a+b:Nat):Int) (ec (by simp) (by omega)) ?_;refine⟨_,_,.refl,?_,rfl,rfl⟩;show Value.int .i64 (min ((a+b:Nat):Int) 1099511627776)=_;rw[show min ((a+b:Nat):Int) 1099511627776=((e0 a b:Nat):Int) by unfold e0;omega]
end
structure nl(I:aN)(t:dp)(T:Nat->Nat->bE)(M:List aC)(k a:Nat):Prop where
 ok:t.ok I T
 inv:hj t.P t.nn T
 a2:∀ k,k<t.nn->sR t.P t.nn k
 na:∀ k,sS t.P k
 aV:t.n0<t.nn->t.aV T∈M
 k:k<t.nn
 a:a<=t.s.size
def nl.rg{t:dp}{T:Nat->Nat->bE}{k a:Nat}(h:nl I t T M k a){q b:Nat}(aK:q<t.nn)(ag:b<=t.s.size):(T q b).ap<=2/\(T q b).n<=1099511627776/\(T q b).aB<=t.s.size/\(T q b).times<=99:=
 ⟨h.inv.ap q b,h.inv.rg q b aK ag⟩
section
variable{I:aN}{t:dp}{T:Nat->Nat->bE}{M:List aC}{k a:Nat}
def Cb(h:nl I t T M k a){q:Nat}(aK:(t.P.at_ k).asks=[q]):Spec Tryz.prog 162 [ptr t.bt,.int .i64 k,.int .i64 a] I M λv I' M'=>q<t.nn/\v=(T q a).val/\I'=I/\M'=M:=by
 refine b8 [] aT Tryz.func162 rfl rfl rfl ?_;intro B au;have an:=h.ok;obtain⟨y,aL,jb,hW,rj,hc,ad,cg,bD⟩:=an.at_ h.k;have lT:y.kids.map Int.toNat=[q]:=by rw[jb]at aK;exact aK
 obtain⟨x,ae⟩:∃ x,y.kids=[x]:=by
  match af:y.kids,lT with
  |[x],_=>exact⟨x,rfl⟩
 have et:=hc x (by rw[ae];exact .head _);have Y7:x.toNat=q:=by rw[ae]at lT;simpa using lT
 have jR:q<t.nn:=by omega
 have dK:y.kn=1:=by have:=hW.kn;rw[ae]at this;exact this.symm
 obtain⟨ib,iX,gW⟩:=hW.a3.one (f:=λ(k:Int)=>Value.int .i64 k) (j:=0) (by omega) (by rw[ae];exact Ff);have gW:∀ M,ck I M (ib.add (0*1)) 1 [.int .i64 q]:=λM=>by
  have:=gW M;have e:y.kids[0]'(by rw[ae];exact Ff)=(q:Int):=by simp only[ae];show x=_;omega
  rwa [e]at this
 obtain⟨dm,hX,r,ao,fI,-,hY⟩:=an.row jR;refine cX.draw aT rfl rfl rfl ?_;refine aM.mk _ (an.e1 (j:=4) (by decide)) ?_;refine aM.mk _ (an.e1 (j:=3) (by decide)) ?_;refine bs.mk ad k cg rfl h.k ?_;refine aM.mk _ ((bD _).part (k:=8) (m:=1) (by decide)) ?_;refine bs.mk ib 0 iX rfl (by omega) ?_;refine aM.mk _ (gW _) ?_;refine bs.mk dm q hX rfl jR ?_;refine aM.mk _ (fI _) ?_;refine bs.mk r a rfl rfl (by show a<t.s.size+1;have:=h.a;omega) ?_;refine aM.mk _ (hY _ h.aV a h.a) ?_;exact⟨_,_,.refl,jR,rfl,rfl,rfl⟩
def jS(I:aN)(M:List aC)(t:dp)(T:Nat->Nat->bE)(k a:Nat)(v:Value)(I':aN)(M':List aC):Prop:=v=(c0 t.P T k a).val/\I'=I/\M'=M
def Y8{P:bu}(h:(P.at_ k).d.k=0):c0 P T k a=lZ a:=by simp[c0,h]
def Y9{P:bu}(h:(P.at_ k).d.k=1):c0 P T k a=match P.s.data[a]? with
  |some b=>bif lU (P.at_ k).d b.toNat then lZ (a+1)else sQ| none=>sQ:=by simp only[c0,h];rfl
def Y'{P:bu}(h:(P.at_ k).d.k=2):c0 P T k a=bif preB P.s (P.at_ k).d.t a then lZ (a+(P.at_ k).d.t.size)else sQ:=by simp[c0,h]
def Za{P:bu}(h:(P.at_ k).d.k=3){q:Nat}(aK:(P.at_ k).asks=[q]):c0 P T k a=T q a:=by simp[c0,h,aK]
def Zb{P:bu}(h:(P.at_ k).d.k=7){q:Nat}(aK:(P.at_ k).asks=[q]):c0 P T k a=bif Nat.beq (T q a).ap 2 then lZ a else⟨0,0,(T q a).ap,0⟩:=by simp[c0,h,aK]
def Zc{P:bu}(h:(P.at_ k).d.k=8){q:Nat}(aK:(P.at_ k).asks=[q]):c0 P T k a=bif Nat.beq (T q a).ap 1 then lZ a else bif Nat.beq (T q a).ap 2 then sQ else hB:=by simp[c0,h,aK]
def Zd{P:bu}(h:(P.at_ k).d.k=9){q:Nat}(aK:(P.at_ k).asks=[q]):c0 P T k a=bif Nat.beq (T q a).ap 2 then { T q a with n:=e0 (T q a).n 1 }else T q a:=by simp[c0,h,aK]
def jT{x j:Nat}{b:Bool}(h:decide ((x:Int)=(j:Int))=b):Nat.beq x j=b:=by
 cases b with
 |true=>
  have:=c9 h;obtain rfl:x=j:=by omega
  exact Nat.beq_refl x
 |false=>
  have:=dj h;rw[sv];exact λe=>by have:=bV e;omega
def Ze(h:nl I t T M k a)(af:(t.P.at_ k).d.k=0):Spec Tryz.prog 123 [ptr t.bt,.int .i64 k,.int .i64 a] I M (jS I M t T k a):=by refine b8 [] aT Tryz.func123 rfl rfl rfl ?_;intro B au;have av:=h.a;have aq:=h.ok.sz;refine a7.whole _ (vU a (by omega)) ?_;rintro v I' M' -⟨rfl,rfl,rfl⟩;exact⟨_,_,.refl,by rw[Y8 af];rfl,rfl,rfl⟩
def Zf(h:nl I t T M k a)(af:(t.P.at_ k).d.k=3):Spec Tryz.prog 126 [ptr t.bt,.int .i64 k,.int .i64 a] I M (jS I M t T k a):=by obtain⟨q,aK⟩:=(h.na k).one (.inl af);refine b8 [] aT Tryz.func126 rfl rfl rfl ?_;intro B au;refine a7.whole _ (Cb h aK) ?_;rintro v I' M' -⟨jR,rfl,rfl,rfl⟩;exact⟨_,_,.refl,by rw[Za af aK];rfl,rfl,rfl⟩
def Zg(h:nl I t T M k a)(af:(t.P.at_ k).d.k=7):Spec Tryz.prog 130 [ptr t.bt,.int .i64 k,.int .i64 a] I M (jS I M t T k a):=by
 obtain⟨q,aK⟩:=(h.na k).one (.inr (by omega));have an:=Zb (T:=T) (a:=a) af aK;refine b8 [] aT Tryz.func130 rfl rfl rfl ?_;intro B au;have av:=h.a;have aq:=h.ok.sz;refine a7.whole _ (Cb h aK) ?_;rintro v I' M' -⟨jR,rfl,rfl,rfl⟩;refine aR.mk (λe=>?_) (λe=>?_)
 ·rw[jT (j:=2) e,aZ]at an;refine a7.whole _ (vU a (by omega)) ?_;rintro v I' M' -⟨rfl,rfl,rfl⟩;exact⟨_,_,.refl,by rw[an];rfl,rfl,rfl⟩
 ·rw[jT (j:=2) e,aY]at an;exact⟨_,_,.refl,by rw[an];rfl,rfl,rfl⟩
def Zh(h:nl I t T M k a)(af:(t.P.at_ k).d.k=8):Spec Tryz.prog 131 [ptr t.bt,.int .i64 k,.int .i64 a] I M (jS I M t T k a):=by
 obtain⟨q,aK⟩:=(h.na k).one (.inr (by omega));have an:=Zc (T:=T) (a:=a) af aK;refine b8 [] aT Tryz.func131 rfl rfl rfl ?_;intro B au;have av:=h.a;have aq:=h.ok.sz;refine a7.whole _ (Cb h aK) ?_;rintro v I' M' -⟨jR,rfl,rfl,rfl⟩;refine aR.mk (λe=>?_) (λe=>?_)
 ·rw[jT (j:=1) e,aZ]at an;refine a7.whole _ (vU a (by omega)) ?_;rintro v I' M' -⟨rfl,rfl,rfl⟩;exact⟨_,_,.refl,by rw[an];rfl,rfl,rfl⟩
 ·rw[jT (j:=1) e,aY]at an;refine aR.mk (λaA=>?_) (λaA=>?_)
  ·rw[jT (j:=2) aA,aZ]at an;exact⟨_,_,.refl,by rw[an];rfl,rfl,rfl⟩
  ·rw[jT (j:=2) aA,aY]at an;exact⟨_,_,.refl,by rw[an];rfl,rfl,rfl⟩
def Zi(h:nl I t T M k a)(af:(t.P.at_ k).d.k=9):Spec Tryz.prog 132 [ptr t.bt,.int .i64 k,.int .i64 a] I M (jS I M t T k a):=by
 obtain⟨q,aK⟩:=(h.na k).one (.inr (by omega));have an:=Zd (T:=T) (a:=a) af aK;refine b8 [] aT Tryz.func132 rfl rfl rfl ?_;intro B au;refine a7.whole _ (Cb h aK) ?_;rintro v I' M' -⟨jR,rfl,rfl,rfl⟩;have ao:=h.rg jR h.a;refine aR.mk (λe=>?_) (λe=>?_)
 ·rw[jT (j:=2) e,aZ]at an;refine a7.whole _ (Fu (T q a).n 1 ao.2.1 (by omega)) ?_;rintro v I' M' -⟨rfl,rfl,rfl⟩;exact⟨_,_,.refl,by rw[an];rfl,rfl,rfl⟩
 ·rw[jT (j:=2) e,aY]at an;exact⟨_,_,.refl,by rw[an];rfl,rfl,rfl⟩
def Zj(h:nl I t T M k a)(af:(t.P.at_ k).d.k=1):Spec Tryz.prog 124 [ptr t.bt,.int .i64 k,.int .i64 a] I M (jS I M t T k a):=by
 have an:=Y9 (T:=T) (a:=a) af;refine b8 [] aT Tryz.func124 rfl rfl rfl ?_;intro B au;have aW:=h.ok;have av:=h.a;have aq:=aW.sz;obtain⟨y,aL,jb,hW,rj,hc,ad,cg,bD⟩:=aW.at_ h.k;rw[jb]at an;have lf:t.P.s=t.s:=rfl;rw[lf]at an;have dY:∀ b,lU y.pn.d b=lU y b:=λb=>rfl;refine cX.draw aT rfl rfl rfl ?_;refine aM.mk _ (aW.e1 (j:=0) (by decide)) ?_;refine bC.mk (λg=>?_) (λg=>?_)
 ·have aU:a<t.s.size:=by have:(a:Int)<(t.s.size:Int):=c9 g;omega
  have ax:t.s.data[a]?=some t.s[a]:=Ar aU;rw[ax]at an;refine aM.mk _ (aW.e1 (j:=3) (by decide)) ?_;refine bs.mk ad k cg rfl h.k ?_;refine aM.mk _ ((bD _).part (k:=1) (m:=4) (by decide)) ?_;refine aM.mk _ (aW.e1 (j:=0) (by decide)) ?_;refine u0.mk a rfl aU ?_;refine a7.whole _ (Y0 (a:=y.fT) (b:=y.s1) (c:=y.s2) (d:=y.gv) (λz bd=>by
   simp only[dv,List.not_mem_nil,or_false]at bd;rcases bd with rfl | rfl | rfl | rfl;·exact hW.fT
   ·exact hW.s1
   ·exact hW.s2
   ·exact hW.gv) t.s[a]) ?_
  rintro v I' M' -⟨rfl,rfl,rfl⟩;refine aR.mk (λaA=>?_) (λaA=>?_);·have a4:lU y t.s[a].toNat=true:=aA;simp only[dY,a4,aZ]at an;refine a6.mk ((a+1:Nat):Int) (ec (by simp) (by omega)) ?_;refine a7.whole _ (vU (a+1) (by omega)) ?_;rintro v I' M' -⟨rfl,rfl,rfl⟩;exact⟨_,_,.refl,by rw[an];rfl,rfl,rfl⟩
  ·have a4:lU y t.s[a].toNat=false:=aA;simp only[dY,a4,aY]at an;exact⟨_,_,.refl,by rw[an];rfl,rfl,rfl⟩
 ·have dE:t.s.data.size<=a:=by have:¬ (a:Int)<(t.s.size:Int):=dj g;have ab:t.s.size=t.s.data.size:=rfl;omega
  have ax:t.s.data[a]?=none:=Array.getElem?_eq_none dE;rw[ax]at an;exact⟨_,_,.refl,by rw[an];rfl,rfl,rfl⟩
def Zk(h:nl I t T M k a)(af:(t.P.at_ k).d.k=2):Spec Tryz.prog 125 [ptr t.bt,.int .i64 k,.int .i64 a] I M (jS I M t T k a):=by
 have an:=Y' (T:=T) (a:=a) af;refine b8 [] aT Tryz.func125 rfl rfl rfl ?_;intro B au;have aW:=h.ok;have av:=h.a;have aq:=aW.sz;obtain⟨y,aL,jb,hW,rj,hc,ad,cg,bD⟩:=aW.at_ h.k;rw[jb]at an;have an:c0 t.P T k a=bif preB t.s y.t a then lZ (a+y.t.size)else sQ:=an;refine aM.mk _ (aW.e1 (j:=3) (by decide)) ?_;refine bs.mk ad k cg rfl h.k ?_;refine aM.mk _ ((bD _).part (k:=5) (m:=1) (by decide)) ?_;refine aM.mk _ (aW.e1 (j:=0) (by decide)) ?_;refine h5.mk a t.s.size rfl rfl av (bS _) ?_;have bI:=Y2 (I:=I) (M:=M) (t.s.extract a t.s.size) y.t;rw[Y3 _ _ av]at bI;refine a7.whole _ bI ?_;rintro v I' M' -⟨rfl,rfl,rfl⟩;refine aR.mk (λaA=>?_) (λaA=>?_)
 ·have a4:preB t.s y.t a=true:=aA;rw[a4,aZ]at an;refine a6.mk ((a+y.t.size:Nat):Int) (ec (by simp) (by omega)) ?_;refine a7.whole _ (vU (a+y.t.size) (by omega)) ?_;rintro v I' M' -⟨rfl,rfl,rfl⟩;exact⟨_,_,.refl,by rw[an];rfl,rfl,rfl⟩
 ·have a4:preB t.s y.t a=false:=aA;rw[a4,aY]at an;exact⟨_,_,.refl,by rw[an];rfl,rfl,rfl⟩
end
section
variable{I:aN}{t:dp}{T:Nat->Nat->bE}{M:List aC}{k a:Nat}
def Fv{X:Prop}{b:Bool}(h:b=true)(bf:b=false):X:=by rw[h]at bf;cases bf
def zB{x j:Nat}{b:Bool}(h:(!decide ((x:Int)=(j:Int)))=b):Nat.beq x j=!b:=by
 have:decide ((x:Int)=(j:Int))=!b:=by rw[<-h,Bool.not_not]
 exact jT this
def Zl(h:nl I t T M k a)(af:(t.P.at_ k).d.k=4):Spec Tryz.prog 127 [ptr t.bt,.int .i64 k,.int .i64 a] I M (jS I M t T k a):=by
 have an:c0 t.P T k a=ng T (t.P.at_ k).asks a 0:=by simp[c0,af]
 refine b8 [] aT Tryz.func127 rfl rfl rfl ?_;intro B au;have aW:=h.ok;have av:=h.a;have aq:=aW.sz;obtain⟨y,aL,jb,hW,rj,hc,ad,cg,bD⟩:=aW.at_ h.k;have lT:(t.P.at_ k).asks=y.kids.map Int.toNat:=by rw[jb];rfl
 rw[lT]at an;have dK:=hW.kn;have p0:=hW.a3.cap.2;refine a7.whole _ (vU a (by omega)) ?_;rintro v I' M' -⟨rfl,rfl,rfl⟩;refine aM.mk _ (aW.e1 (j:=3) (by decide)) ?_;refine bs.mk ad k cg rfl h.k ?_;refine aM.mk _ ((bD _).part (k:=8) (m:=1) (by decide)) ?_;refine dh.inv (ι:=Nat×Nat×Nat) (λx=>{ ca:=[(0,.val (ptr t.bt)),(6,.ref 6 0),(7,.ref 7 0),(20,.val (.slice y.kC y.kn y.jj)),(21,.val (.int .i64 y.kn)),(22,.val (.int .i64 x.1))],cl:=[(6,[.int .i64 0,.int .i32 0,.int .u8 0,.int .u8 0]),(7,[.int .i64 x.2.2,.int .i32 x.2.1,.int .u8 2,.int .u8 0])],cQ:=I',dq:=M' }) (λx=>x.1<=y.kn/\x.2.1<=t.s.size/\x.2.2<=1099511627776/\c0 t.P T k a=ng T ((y.kids.map Int.toNat).drop x.1) x.2.1 x.2.2) (λx=>y.kn-x.1) ?_ ?_
 ·exact⟨(0,a,0),⟨bk _,av,bk _,an⟩,.refl,jG,.cons rfl (.cons rfl (.nil))⟩
 rintro⟨i,aB,n⟩⟨hi,fD,aw,fr⟩;simp only at hi fD aw fr;refine aR.mk (λe=>?_) (λe=>?_)
 ·have aU:i<y.kn:=by simpa using e
  have cr:i<y.kids.length:=by omega
  obtain⟨ib,iX,gW⟩:=hW.a3.one (f:=λ(k:Int)=>Value.int .i64 k) aU cr;have et:=hc _ (dR cr);obtain⟨q,aK⟩:∃ q:Nat,y.kids[i]=(q:Int):=⟨y.kids[i].toNat,by omega⟩;have jR:q<t.nn:=by rw[aK]at et;omega
  have mD:(y.kids.map Int.toNat).drop i=q::(y.kids.map Int.toNat).drop (i+1):=by rw[fs (by rw[fl];exact cr),nV,aK];rfl
  rw[mD,ng]at fr;rw[aK]at gW;obtain⟨dm,hX,r,ao,fI,-,hY⟩:=aW.row jR;have uA:=h.rg jR fD;refine bs.mk ib i iX rfl aU ?_;refine aM.mk _ (gW _) ?_;refine cX.draw aT rfl rfl rfl ?_;refine aM.mk _ (aW.e1 (j:=4) (by decide)) ?_;refine bs.mk dm q hX rfl jR ?_;refine aM.mk _ (fI _) ?_;refine bs.mk r aB rfl rfl (by show aB<t.s.size+1;omega) ?_;refine aM.mk _ (hY _ h.aV aB fD) ?_;refine cC.mk λmE Qz QA=>?_;refine cS.mk [] M' _ _ rfl rfl (bq rfl) rfl ?_;have jc:∀ j,j+1<=4->ck I' (⟨mE,.cells (T q aB).cells.toArray 107 (0,0)⟩::M') ((⟨mE,0,none⟩:Addr).add j) 1 (((T q aB).cells.drop j).take 1):=λj ar=>dn (.head _) ar;refine aM.mk _ (jc 2 (by decide)) ?_;refine aR.mk (λaA=>?_) (λaA=>?_);·rw[zB (j:=2) (b:=true) aA,pB,aY]at fr;refine aM.mk _ (jc 2 (by decide)) ?_;exact⟨_,_,.sub (.cons _ (.refl _)) .refl,by rw[fr];rfl,rfl,rfl⟩
  ·rw[zB (j:=2) (b:=false) aA,Aw,aZ]at fr;refine aM.mk _ (jc 1 (by decide)) ?_;refine aM.mk _ (jc 0 (by decide)) ?_;refine a7.whole _ (Fu n (T q aB).n aw uA.2.1) ?_;rintro v gh eP -⟨rfl,rfl,rfl⟩;refine a6.mk _ (cY (i:=i) (by omega)) ?_;exact⟨(i+1,(T q aB).aB,e0 n (T q aB).n),⟨⟨by simp only;omega,uA.2.2.1,rf _ _,fr⟩,by simp only;omega⟩,.sub (.cons _ (.refl _)) .refl,jG,.cons rfl (.cons rfl (.nil))⟩
 ·have dE:y.kn<=i:=by simpa using e
  have ak:(y.kids.map Int.toNat).drop i=[]:=iU (by rw[fl];omega);rw[ak,ng]at fr;exact⟨_,_,.refl,by rw[fr];rfl,rfl,rfl⟩
def Zm(h:nl I t T M k a)(af:(t.P.at_ k).d.k=5):Spec Tryz.prog 128 [ptr t.bt,.int .i64 k,.int .i64 a] I M (jS I M t T k a):=by
 have an:c0 t.P T k a=nh T (t.P.at_ k).asks a:=by simp[c0,af]
 refine b8 [] aT Tryz.func128 rfl rfl rfl ?_;intro B au;have aW:=h.ok;have av:=h.a;have aq:=aW.sz;obtain⟨y,aL,jb,hW,rj,hc,ad,cg,bD⟩:=aW.at_ h.k;have lT:(t.P.at_ k).asks=y.kids.map Int.toNat:=by rw[jb];rfl
 rw[lT]at an;have dK:=hW.kn;have p0:=hW.a3.cap.2;refine aM.mk _ (aW.e1 (j:=3) (by decide)) ?_;refine bs.mk ad k cg rfl h.k ?_;refine aM.mk _ ((bD _).part (k:=8) (m:=1) (by decide)) ?_;refine dh.inv (ι:=Nat) (λx=>{ ca:=[(0,.val (ptr t.bt)),(2,.val (.int .i64 a)),(6,.ref 6 0),(17,.val (.slice y.kC y.kn y.jj)),(18,.val (.int .i64 y.kn)),(19,.val (.int .i64 x))],cl:=[(6,[.int .i64 0,.int .i32 0,.int .u8 0,.int .u8 0])],cQ:=I,dq:=M }) (λx=>x<=y.kn/\c0 t.P T k a=nh T ((y.kids.map Int.toNat).drop x) a) (λx=>y.kn-x) ?_ ?_
 ·exact⟨0,⟨bk _,an⟩,.refl,jG,.cons rfl (.nil)⟩
 rintro i⟨hi,fr⟩;refine aR.mk (λe=>?_) (λe=>?_)
 ·have aU:i<y.kn:=by simpa using e
  have cr:i<y.kids.length:=by omega
  obtain⟨ib,iX,gW⟩:=hW.a3.one (f:=λ(k:Int)=>Value.int .i64 k) aU cr;have et:=hc _ (dR cr);obtain⟨q,aK⟩:∃ q:Nat,y.kids[i]=(q:Int):=⟨y.kids[i].toNat,by omega⟩;have jR:q<t.nn:=by rw[aK]at et;omega
  have mD:(y.kids.map Int.toNat).drop i=q::(y.kids.map Int.toNat).drop (i+1):=by rw[fs (by rw[fl];exact cr),nV,aK];rfl
  rw[mD,nh]at fr;rw[aK]at gW;obtain⟨dm,hX,r,ao,fI,-,hY⟩:=aW.row jR;refine bs.mk ib i iX rfl aU ?_;refine aM.mk _ (gW _) ?_;refine aM.mk _ (aW.e1 (j:=4) (by decide)) ?_;refine bs.mk dm q hX rfl jR ?_;refine aM.mk _ (fI _) ?_;refine bs.mk r a rfl rfl (by show a<t.s.size+1;omega) ?_;refine aM.mk _ (hY _ h.aV a av) ?_;refine aR.mk (λaA=>?_) (λaA=>?_);·rw[zB (j:=1) aA,pB,aY]at fr;exact⟨_,_,.refl,by rw[fr];rfl,rfl,rfl⟩
  ·rw[zB (j:=1) aA,Aw,aZ]at fr;refine a6.mk _ (cY (i:=i) (by omega)) ?_;exact⟨i+1,⟨⟨by omega,fr⟩,by omega⟩,.refl,jG,.cons rfl (.nil)⟩
 ·have dE:y.kn<=i:=by simpa using e
  have ak:(y.kids.map Int.toNat).drop i=[]:=iU (by rw[fl];omega);rw[ak,nh]at fr;exact⟨_,_,.refl,by rw[fr];rfl,rfl,rfl⟩
def Zn(h:nl I t T M k a)(af:(t.P.at_ k).d.k=6)(a4:(t.P.at_ k).d.hi=-1):Spec Tryz.prog 164 [ptr t.bt,.int .i64 k,.int .i64 a] I M (jS I M t T k a):=by
 obtain⟨q,aK⟩:=(h.na k).one (.inr (by omega));have an:c0 t.P T k a=uw T k q (t.P.at_ k).d.lo a:=by rw[Qf af a4,aK];rfl
 have dJ:=(h.a2 k h.k).la af;refine b8 [] aT Tryz.func164 rfl rfl rfl ?_;intro B au;have aW:=h.ok;have av:=h.a;have aq:=aW.sz;obtain⟨y,aL,jb,hW,rj,hc,ad,cg,bD⟩:=aW.at_ h.k;have ay:(t.P.at_ k).d.lo=y.lo:=by rw[jb];rfl
 rw[ay]at an dJ;unfold uw at an;refine a7.whole _ (vU a (by omega)) ?_;rintro v I' M' -⟨rfl,rfl,rfl⟩;refine a7.whole _ (Cb h aK) ?_;rintro v I' M' -⟨jR,rfl,rfl,rfl⟩;have uA:=h.rg jR av;have Cc:∀ x:Nat,x<=99->IntKind.i64.wrap (x:Int)=(x:Int):=λx ae=>ec rfl (by omega);refine bC.mk (λg=>?_) (λg=>?_)
 rotate_left
 ·rw[jT (j:=0) (b:=true) g,Bool.true_or,aZ]at an;exact⟨_,_,.refl,by rw[an];rfl,rfl,rfl⟩
 rw[jT (j:=0) (b:=false) g,uZ]at an;refine bC.mk (λaP=>?_) (λaP=>?_)
 ·rw[jT (j:=2) (b:=true) aP,w7]at an;refine a6.mk ((T q a).aB:Int) (ec rfl (by omega)) ?_;refine aR.mk (λbr=>?_) (λbr=>?_)
  ·have xT:Nat.beq (T q a).aB a=true:=jT br;rw[xT,aZ]at an;exact⟨_,_,.refl,by rw[an];rfl,rfl,rfl⟩
  have xT:Nat.beq (T q a).aB a=false:=jT br;rw[xT,aY]at an;refine aR.mk (λe=>?_) (λe=>?_)
  rotate_left
  ·exact Fv aP e
  obtain⟨dm,hX,r,ao,fI,-,hY⟩:=aW.row h.k;have Zo:=h.rg h.k uA.2.2.1;refine cX.draw aT rfl rfl rfl ?_;refine aM.mk _ (aW.e1 (j:=4) (by decide)) ?_;refine bs.mk dm k hX rfl h.k ?_;refine aM.mk _ (fI _) ?_;refine bs.mk r (T q a).aB rfl rfl (by show _<t.s.size+1;omega) ?_;refine aM.mk _ (hY _ h.aV (T q a).aB uA.2.2.1) ?_;refine cC.mk λb6 gj hk=>?_;refine cS.mk [] M' _ _ rfl rfl (bq rfl) rfl ?_;have jc:∀ j,j+1<=4->ck I' (⟨b6,.cells (T k (T q a).aB).cells.toArray 107 (0,0)⟩::M') ((⟨b6,0,none⟩:Addr).add j) 1 (((T k (T q a).aB).cells.drop j).take 1):=λj ar=>dn (.head _) ar;refine aM.mk _ (jc 2 (by decide)) ?_;refine aR.mk (λaA=>?_) (λaA=>?_);·rw[jT (j:=0) aA,aZ]at an;exact⟨_,_,.sub (.cons _ (.refl _)) .refl,by rw[an];rfl,rfl,rfl⟩
  rw[jT (j:=0) aA,aY]at an;refine aM.mk _ (jc 1 (by decide)) ?_;refine aM.mk _ (jc 0 (by decide)) ?_;refine a7.whole _ (Fu (T q a).n (T k (T q a).aB).n uA.2.1 Zo.2.1) ?_;rintro v gh eP -⟨rfl,rfl,rfl⟩;refine aM.mk _ (jc 3 (by decide)) ?_;refine a6.mk (((T k (T q a).aB).times+1:Nat):Int) (by rw[Y6 (by omega) (by omega)];simp) ?_;have tJ:min (((T k (T q a).aB).times+1:Nat):Int) 99=((min ((T k (T q a).aB).times+1) 99:Nat):Int):=by omega
  refine cX.draw aT rfl rfl rfl ?_;refine a6.mk ((min ((T k (T q a).aB).times+1) 99:Nat):Int) (by show IntKind.i64.wrap (min (((T k (T q a).aB).times+1:Nat):Int) 99)=_;rw[tJ];exact Cc _ (xn _ _)) ?_;refine aM.mk _ (aW.e1 (j:=3) (by decide)) ?_;refine bs.mk ad k cg rfl h.k ?_;refine aM.mk _ ((bD _).part (k:=6) (m:=1) (by decide)) ?_;refine aR.mk (λbj=>?_) (λbj=>?_);·have nj:decide (((min ((T k (T q a).aB).times+1) 99:Nat):Int)<y.lo)=true:=bj;rw[lk,nj,aZ]at an;refine⟨_,_,.sub (.cons _ (.refl _)) .refl,?_,rfl,rfl⟩;rw[an];show Value.agg #[_,_,_,.int .u8 (min (((T k (T q a).aB).times+1:Nat):Int) 99)]=_;rw[tJ];rfl
  ·have nj:decide (((min ((T k (T q a).aB).times+1) 99:Nat):Int)<y.lo)=false:=bj;rw[lk,nj,aY]at an;refine⟨_,_,.sub (.cons _ (.refl _)) .refl,?_,rfl,rfl⟩;rw[an];show Value.agg #[_,_,_,.int .u8 (min (((T k (T q a).aB).times+1:Nat):Int) 99)]=_;rw[tJ];rfl
 ·rw[jT (j:=2) (b:=false) aP,yZ,aY,aY]at an;refine aR.mk (λe=>?_) (λe=>?_)
  ·exact Fv e aP
  refine cX.draw aT rfl rfl rfl ?_;refine a6.mk (0:Int) (show IntKind.i64.wrap 0=0 by decide) ?_;refine aM.mk _ (aW.e1 (j:=3) (by decide)) ?_;refine bs.mk ad k cg rfl h.k ?_;refine aM.mk _ ((bD _).part (k:=6) (m:=1) (by decide)) ?_;refine aR.mk (λbj=>?_) (λbj=>?_);·have nj:decide ((((lZ a).times:Nat):Int)<y.lo)=true:=bj;rw[lk,nj,aZ]at an;exact⟨_,_,.refl,by rw[an];rfl,rfl,rfl⟩
  ·have nj:decide ((((lZ a).times:Nat):Int)<y.lo)=false:=bj;rw[lk,nj,aY]at an;exact⟨_,_,.refl,by rw[an];rfl,rfl,rfl⟩
def Zp(h:nl I t T M k a)(af:(t.P.at_ k).d.k=6):Spec Tryz.prog 129 [ptr t.bt,.int .i64 k,.int .i64 a] I M (jS I M t T k a):=by
 obtain⟨q,aK⟩:=(h.na k).one (.inr (by omega));have ri:=(h.na k).la af;refine b8 [] aT Tryz.func129 rfl rfl rfl ?_;intro B au;have aW:=h.ok;have av:=h.a;have aq:=aW.sz;obtain⟨y,aL,jb,hW,rj,hc,ad,cg,bD⟩:=aW.at_ h.k;have er:(t.P.at_ k).d.hi=y.hi:=by rw[jb];rfl
 have dJ:(t.P.at_ k).d.lo=y.lo:=by rw[jb];rfl
 rw[er]at ri;refine aM.mk _ (aW.e1 (j:=3) (by decide)) ?_;refine bs.mk ad k cg rfl h.k ?_;refine aM.mk _ (bD _) ?_;refine aR.mk (λe=>?_) (λe=>?_)
 ·have bc:y.hi=-1:=c9 e;refine a7.whole _ (Zn h af (er.trans bc)) ?_;rintro v I' M' -⟨rfl,rfl,rfl⟩;exact⟨_,_,.refl,rfl,rfl,rfl⟩
 have bc:¬ y.hi=-1:=dj e;have an:c0 t.P T k a=mC T q y.lo y.hi.toNat 0 a 0:=by simp[c0,af,er,bc,aK,dJ]
 have lT:y.kids.map Int.toNat=[q]:=by rw[jb]at aK;exact aK
 obtain⟨x,ae⟩:∃ x,y.kids=[x]:=by
  match af:y.kids,lT with
  |[x],_=>exact⟨x,rfl⟩
 have et:=hc x (by rw[ae];exact .head _);have Y7:x.toNat=q:=by rw[ae]at lT;simpa using lT
 have jR:q<t.nn:=by omega
 have dK:y.kn=1:=by have:=hW.kn;rw[ae]at this;exact this.symm
 obtain⟨ib,iX,gW⟩:=hW.a3.one (f:=λ(k:Int)=>Value.int .i64 k) (j:=0) (by omega) (by rw[ae];exact Ff);have gW:∀ M,ck I M (ib.add (0*1)) 1 [.int .i64 q]:=λM=>by
  have:=gW M;have e:y.kids[0]'(by rw[ae];exact Ff)=(q:Int):=by simp only[ae];show x=_;omega
  rwa [e]at this
 obtain⟨dm,hX,r,ao,fI,-,hY⟩:=aW.row jR;refine a7.whole _ (vU a (by omega)) ?_;rintro v I' M' -⟨rfl,rfl,rfl⟩;refine dh.inv (ι:=Nat×Nat×Nat) (λx=>{ ca:=[(0,.val (ptr t.bt)),(6,.ref 6 0),(7,.ref 7 0),(8,.ref 8 0),(9,.val (.int .i64 x.1))],cl:=[(6,[.int .i64 0,.int .i32 0,.int .u8 0,.int .u8 0]),(7,y.cells),(8,[.int .i64 x.2.2,.int .i32 x.2.1,.int .u8 2,.int .u8 0])],cQ:=I',dq:=M' }) (λx=>x.1<=y.hi.toNat/\x.2.1<=t.s.size/\x.2.2<=1099511627776/\c0 t.P T k a=mC T q y.lo (y.hi.toNat-x.1) x.1 x.2.1 x.2.2) (λx=>y.hi.toNat-x.1) ?_ ?_
 ·exact⟨(0,a,0),⟨bk _,av,bk _,an⟩,.refl,iD,.cons rfl (.cons rfl (.cons rfl (.nil)))⟩
 rintro⟨i,aB,n⟩⟨hi,fD,aw,fr⟩;simp only at hi fD aw fr;have uA:=h.rg jR fD;refine aR.mk (λaA=>?_) (λaA=>?_)
 ·have aU:(i:Int)<y.hi:=c9 aA;obtain⟨j,ar⟩:∃ j,y.hi.toNat-i=j+1:=⟨y.hi.toNat-i-1,by omega⟩;have h8:y.hi.toNat-(i+1)=j:=by omega
  rw[ar,mC]at fr;refine cX.draw aT rfl rfl rfl ?_;refine aM.mk _ (aW.e1 (j:=4) (by decide)) ?_;refine bs.mk ib 0 iX rfl (by omega) ?_;refine aM.mk _ (gW _) ?_;refine bs.mk dm q hX rfl jR ?_;refine aM.mk _ (fI _) ?_;refine bs.mk r aB rfl rfl (by show aB<t.s.size+1;omega) ?_;refine aM.mk _ (hY _ h.aV aB fD) ?_;refine cC.mk λmE Qz QA=>?_;refine cS.mk [] M' _ _ rfl rfl (bq rfl) rfl ?_;have jc:∀ j,j+1<=4->ck I' (⟨mE,.cells (T q aB).cells.toArray 107 (0,0)⟩::M') ((⟨mE,0,none⟩:Addr).add j) 1 (((T q aB).cells.drop j).take 1):=λj ar=>dn (.head _) ar;refine aM.mk _ (jc 2 (by decide)) ?_;refine bC.mk (λg=>?_) (λg=>?_)
  rotate_left
  ·rw[jT (j:=0) (b:=true) g,Bool.true_or,aZ]at fr;refine aM.mk _ (jc 2 (by decide)) ?_;exact⟨_,_,.sub (.cons _ (.refl _)) .refl,by rw[fr];rfl,rfl,rfl⟩
  rw[jT (j:=0) (b:=false) g,uZ]at fr;refine aM.mk _ (jc 2 (by decide)) ?_;refine bC.mk (λaP=>?_) (λaP=>?_)
  ·rw[jT (j:=1) (b:=true) aP,w7]at fr;refine aR.mk (λbr=>?_) (λbr=>?_)
   ·have xT:decide ((i:Int)<y.lo)=true:=br;rw[xT,aZ]at fr;refine aM.mk _ (jc 2 (by decide)) ?_;exact⟨_,_,.sub (.cons _ (.refl _)) .refl,by rw[fr];rfl,rfl,rfl⟩
   have xT:decide ((i:Int)<y.lo)=false:=br;rw[xT,aY,aZ]at fr;refine aM.mk _ (jc 2 (by decide)) ?_;refine aR.mk (λeW=>?_) (λeW=>Fv aP eW);exact⟨_,_,.sub (.cons _ (.refl _)) .refl,by rw[fr];rfl,rfl,rfl⟩
  ·rw[jT (j:=1) (b:=false) aP,yZ,aY,aY]at fr;refine aM.mk _ (jc 2 (by decide)) ?_;refine aR.mk (λeW=>Fv eW aP) (λeW=>?_);refine aM.mk _ (jc 1 (by decide)) ?_;refine aM.mk _ (jc 0 (by decide)) ?_;refine a7.whole _ (Fu n (T q aB).n aw uA.2.1) ?_;rintro v gh eP -⟨rfl,rfl,rfl⟩;refine a6.mk _ (cY (i:=i) (by omega)) ?_;exact⟨(i+1,(T q aB).aB,e0 n (T q aB).n),⟨⟨by simp only;omega,uA.2.2.1,rf _ _,by simp only;rw[h8];exact fr⟩,by simp only;omega⟩,.sub (.cons _ (.refl _)) .refl,iD,.cons rfl (.cons rfl (.cons rfl (.nil)))⟩
 ·have dE:¬ (i:Int)<y.hi:=dj aA;have ar:y.hi.toNat-i=0:=by omega
  rw[ar,mC]at fr;exact⟨_,_,.refl,by rw[fr];rfl,rfl,rfl⟩
end
section
variable{X:b'}{β:Nat->Nat}{F:Fr}{C:cG}{I:aN}{M:List aC}{o:Oper}{K:eF}
def Fw{P:Program}{E:Env}(aI:cj P E){t e:Nat}(az:E t=some cP)(da:cP.bn=.slice e):P.underlying t=some (.slice e):=by
 obtain⟨k6,oU,jI⟩:=(aI _ _ az).ep;have qS:k6=.slice e:=by rw[da]at jI;cases k6<;>simp_all[ek]
 rw[oU,qS]
def be.slice3(aI:cj X.P X.E){t:Nat}{lo:Operand}(an:o.op=.slice t x (some lo) (some hi) (some mx))(ak:∀ d,o.dst=some d->d<X.n)
  {e:Nat} (az:X.E t=some cP) (da:cP.bn=.slice e) (he:X.E e=some aE) {n:Nat} (l h m:Nat) {dr:IntKind}
  (ae:bi F x=.val (.slice ad n c)) (dJ:bi F lo=.val (.int dr (l:Nat))) (er:bi F hi=.val (.int c4 (h:Nat))) (hl:bi F mx=.val (.int fy (m:Nat)))
  (aa:l<=h) (ab:h<=m) (ai:m<=c) (k:K (put o.dst (.val (.slice (if m=l then ad else ad.map (·.add (l*aE.size))) (h-l) (m-l))) F) C I M):be X o F C I M K:=by
 refine⟨λa w Q ⟨β,aX⟩=>?_⟩;have hu:=Fw aI az da;refine g9 (by rw[an];simp) (v:=.slice (if m=l then ad else ad.map (·.add (l*aE.size))) (h-l) (m-l)) (w':=w) ?_ ⟨_,_,_,_,⟨β,bY.put (x:=.val (.slice (if m=l then ad else ad.map (·.add (l*aE.size))) (h-l) (m-l))) aX ak rfl⟩,k⟩;have ex:=cw aX.aj ae;have ax:=cw aX.aj dJ;have aA:=cw aX.aj er;have bj:=cw aX.aj hl;simp only[execOp,an,Instr.sliceAt,Instr.slice,Instr.sliceBounds,Instr.sliceBound,ex,bH,run_underlying hu,bx,(aI _ _ he).run_sizeOf,ch,iz,tn,ax,aA,bj,kX];rw[cv ⟨by omega,by omega⟩];simp only[ch,bx,nF];rw[cv ⟨by omega,by omega⟩];simp only[ch,bx,nF];rw[cv ⟨by omega,by omega⟩];simp
def be.QB(aI:cj X.P X.E){t:Nat}(an:o.op=.slice t x none (some hi) (some mx))(ak:∀ d,o.dst=some d->d<X.n)
  {e:Nat} (az:X.E t=some cP) (da:cP.bn=.slice e) (he:X.E e=some aE) {n:Nat} (h m:Nat)
  (ae:bi F x=.val (.slice ad n c)) (er:bi F hi=.val (.int c4 (h:Nat))) (hl:bi F mx=.val (.int fy (m:Nat)))
  (ab:h<=m) (ai:m<=c) (k:K (put o.dst (.val (.slice (if m=0 then ad else ad.map (·.add (0*aE.size))) (h-0) (m-0))) F) C I M):be X o F C I M K:=by
 refine⟨λa w Q ⟨β,aX⟩=>?_⟩;have hu:=Fw aI az da;refine g9 (by rw[an];simp) (v:=.slice (if m=0 then ad else ad.map (·.add (0*aE.size))) (h-0) (m-0)) (w':=w) ?_ ⟨_,_,_,_,⟨β,bY.put (x:=.val (.slice (if m=0 then ad else ad.map (·.add (0*aE.size))) (h-0) (m-0))) aX ak rfl⟩,k⟩;have ex:=cw aX.aj ae;have aA:=cw aX.aj er;have bj:=cw aX.aj hl;simp only[execOp,an,Instr.sliceAt,Instr.slice,Instr.sliceBounds,Instr.sliceBound,ex,bH,run_underlying hu,bx,(aI _ _ he).run_sizeOf,ch,iz,tn,aA,bj,kX];rw[cv ⟨by omega,by omega⟩];simp only[ch,bx,nF];rw[cv ⟨by omega,by omega⟩];simp only[ch,bx,nF]
def be.iu(aI:cj X.P X.E){t:Nat}(an:o.op=.call { callee:=.builtin .append,args:=#[s,x],argTypes:=#[t,t] })(ak:∀ d,o.dst=some d->d<X.n)
  {e:Nat} (az:X.E t=some cP) (da:cP.bn=.slice e) (he:X.E e=some aE)
 {g n:Nat} (aq:bi F s=.val (.slice (some ⟨g,0,none⟩) n c)) (aF:cur.length=c*aE.size)
  {ad:Addr} {m:Nat} (ae:bi F x=.val (.slice (some ad) m c')) (aw:ck I M ad (m*aE.size) news) (aa:ga news=true) (pV:n+m<=c)
  (pre post:List aC) (a5:M=pre++⟨g,.cells cur.toArray e (0,0)⟩::post)
  (k:K (put o.dst (.val (.slice (some ⟨g,0,none⟩) (n+m) c)) F) C I (pre++⟨g,.cells (bo cur (n*aE.size) news).toArray e (0,0)⟩::post)):be X o F C I M K:=by
 refine⟨λa w Q ⟨β,aX⟩=>?_⟩;have hu:=Fw aI az da;obtain⟨inf,z,hi,eM,gd,hs,jB⟩:=(aI _ _ he).inf;have aG:w.heap[g]?=some (.cells cur.toArray e (0,0)):=aX.holds.m ⟨g,.cells cur.toArray e (0,0)⟩ (by rw[a5];simp);have ay:news.length=m*aE.size:=by obtain⟨_,_,_,_,_,_,h⟩:=aw;exact h
 have fm:n*aE.size+news.length<=cur.length:=by rw[ay,aF,<-iV];exact qz _ pV
 have cx:=run_storeCells_at X.P g (n*aE.size) e news 0 cur.toArray w aG (by simpa using fm) (wN aa);simp only[pC]at cx;have aD:(Builtin.firstCells aE.size m (.slice (some ad) m c')).run X.P w=.ok news.toArray w:=by
  obtain⟨bI,cs,T,aj,dK,ah,ay⟩:=aw;refine run_firstCells_some (P:=X.P) w aE.size m ad m c' news ay λj v ar=>?_;rw[dx _ bI,rQ (dK.heap aX.holds)];rw[<-ah,jY]at ar;split at ar;·rw[oE]at ar;simpa using ar
  ·cases ar
 have es:=cw aX.aj aq;have ex:=cw aX.aj ae;refine g9 (by rw[an];simp) (v:=.slice (some ⟨g,0,none⟩) (n+m) c) (w':=w.setRow g (bo cur (n*aE.size) news).toArray) ?_ ⟨_,_,_,_,⟨β,bY.put (x:=.val (.slice (some ⟨g,0,none⟩) (n+m) c)) ?_ ak rfl⟩,k⟩
 ·have eu:(Builtin.append_ #[t,t] o.type #[.slice (some ⟨g,0,none⟩) n c,.slice (some ad) m c']).run X.P w=.ok (.slice (some ⟨g,0,none⟩) (n+m) c) (w.setRow g (bo cur (n*aE.size) news).toArray):=by rw[<-eM]at aD cx |-;simp[Builtin.append_,Builtin.lenOf,run_underlying hu,sizeOf,typeInfo,hi,pV,aD,Addr.add_lit,cx,bo]
  unfold execOp;simp only[an,resolve,invoke,builtin,bH,ch,bx,r',eh,pT,es,ex,eu]
 ·exact aX.u2 a5
end
def bJ(k:Nat):Value:=.int .i64 (k:Int)
def cA(g:Nat)(cur:List Value):aC:=⟨g,.cells cur.toArray 3 (0,0)⟩
def Cd:List Value:=[123,124,125,126,127,128,129,130,131,132].map λf=>.func (.func f) #[] #[]
def Zq:Spec Tryz.prog 95 [] I M λv I' M'=>v=.agg Cd.toArray/\I'=I/\M'=M:=by refine b8 [] aT Tryz.func95 rfl rfl rfl ?_;intro B au;exact⟨_,_,.refl,rfl,rfl,rfl⟩
def Zr{g:Nat}(a5:cA g cur∈M){i:Nat}{m:Nat}(ao:(cur.drop i).take (m-i)=(L.drop i).map bJ)(hm:L.length=m)(hi:i<m):ck I M ((⟨g,0,none⟩:Addr).add (i*1)) 1 [bJ (L[i]'(by omega))]:=by
 rw[dx _ rfl];have xU:i<L.length:=by omega
 refine⟨rfl,cur.toArray,3,(0,0),.inr ⟨_,a5,rfl,rfl⟩,?_,rfl⟩;have e:((cur.drop i).take (m-i)).take 1=[bJ L[i]]:=by rw[ao,<-List.map_take,fs xU,qN,qP];rfl
 rw[tG,yG (by omega)]at e;show(cur.drop (0+i*1)).take 1=_;rw[dG,kA];exact e
def Jv(h:cur.take L.length=L.map bJ)(ay:L.length<cur.length)(k:Nat):(bo cur (L.length*1) [bJ k]).length=cur.length/\(bo cur (L.length*1) [bJ k]).take (L++[k]).length=(L++[k]).map bJ /\
  ∀ i,L.length+1<=i->(bo cur (L.length*1) [bJ k]).drop i=cur.drop i:=by
 rw[kA,YY _ _ _ ay];refine⟨vS,?_,λi hi=>?_⟩
 ·rw[cD,zq,jw (by rw[vS];exact ay),BX,List.take_set_of_le (bS _),h,hq];rfl
 ·rw[List.drop_set_of_lt (by omega)]
def Zs{D:List Nat}(h:cur.take D.length=D.map bJ)(ay:D.length+L.length<=cur.length):(bo cur (D.length*1) (L.map bJ)).length=cur.length/\(bo cur (D.length*1) (L.map bJ)).take (D++L).length=(D++L).map bJ:=by
 rw[kA];unfold bo;rw[h,<-hq];refine⟨?_,?_⟩
 ·simp only[cD,fl,r9];omega
 ·have e:(D++L).length=((D++L).map bJ).length:=by rw[fl]
  rw[e];exact Ed
def Zt{t:dp}{T:Nat->Nat->bE}{k a:Nat}(af:k<t.nn)(au:t.n0<=k)(av:a<t.w)(c:bE):bo (t.cs T) ((k-t.n0)*(t.w*4)+a*4) c.cells=t.cs (eS T k a c):=by
 unfold dp.cs;have vV:∀ j,bo (kP T (t.n0+j) t.w) (a*4+0) c.cells=(((List.range t.w).map λb=>(T (t.n0+j) b)).set a c).flatMap bE.cells:=λj=>by
  have:=Js bE.cells 4 bE.cV ((List.range t.w).map λb=>(T (t.n0+j) b)) a (by simpa using av) 0 c.cells (by rw[bE.cV];omega) c (by
   unfold bo;rw[qP,nW,iU (by rw[bE.cV,bE.cV];omega),en])
  rw[BY]at this;exact this
 have ax:((List.range (t.nn-t.n0)).flatMap λj=>kP T (t.n0+j) t.w)=(((List.range (t.nn-t.n0)).map λj=>(⟨kP T (t.n0+j) t.w,xS T _ t.w⟩:{l:List Value // l.length=t.w*4})).flatMap λr=>r.1):=by rw[BY]
 have hlen:(bo (kP T k t.w) (a*4) c.cells).length=t.w*4:=by unfold bo;simp only[cD,kz,r9,xS,bE.cV];omega
 rw[ax];have Zu:=Js (λr:{l:List Value // l.length=t.w*4}=>r.1) (t.w*4) (λr=>r.2) ((List.range (t.nn-t.n0)).map λj=>⟨kP T (t.n0+j) t.w,xS T _ t.w⟩) (k-t.n0) (by simp;omega) (a*4) c.cells (by rw[bE.cV];omega) ⟨bo (kP T k t.w) (a*4) c.cells,hlen⟩ (by
  simp only[nV,qe];rw[su au])
 rw[Zu];rw[show((List.range (t.nn-t.n0)).flatMap λj=>kP (eS T k a c) (t.n0+j) t.w)=(((List.range (t.nn-t.n0)).map λj=>(⟨kP (eS T k a c) (t.n0+j) t.w,xS _ _ t.w⟩:{l:List Value // l.length=t.w*4})).flatMap λr=>r.1) by rw[BY]];congr 1;refine yX (by simp) λj aa ab=>?_;simp only[fl,rc]at ab;rw[nV,qe];by_cases e:k-t.n0=j
 ·subst e;rw[BX];refine Subtype.ext ?_;simp only;rw[su au];have ai:=vV (k-t.n0);rw[su au,pC]at ai;rw[ai];have aQ:kP (eS T k a c) k t.w=((List.range t.w).map λb=>eS T k a c k b).flatMap bE.cells:=by rw[BY];rfl
  rw[aQ];congr 1;refine yX (by simp) λb aO aP=>?_;simp only[fl,rc]at aP;rw[nV,qe];by_cases Ce:a=b;·subst Ce;rw[BX,zx]
  ·rw[List.getElem_set_ne Ce,nV,qe,ux λx=>Ce x.2.symm]
 ·rw[List.getElem_set_ne e,nV,qe];refine Subtype.ext ?_;simp only;unfold kP;congr 1;funext b;rw[ux λx=>e (by omega)]
def dp.ok.qk{t:dp}{T kw:Nat->Nat->bE}(h:t.ok I T)(he:∀ k,k<t.n0->∀ a,kw k a=T k a):t.ok I kw:=by refine { h with cE:=λk af au=>?_ };obtain⟨cs,e9,aj,aa,ab⟩:=h.cE k af au;refine⟨cs,e9,aj,aa,ab.trans ?_⟩;unfold kP;congr 1;funext a;rw[he k au a]
def ko(g c:Nat){n m:Nat}(h:n=m):tw (.val (.slice (some ⟨g,0,none⟩) n c)) (.val (.slice (some ⟨g,0,none⟩) m c)):=by rw[h];exact .refl
structure Fx(I:aN)(t:dp)(e9:Nat->Nat->bE)(dL:List Nat)(a:Nat):Prop where
 ok:t.ok I e9
 inv:hj t.P t.nn e9
 a2:∀ k,k<t.nn->sR t.P t.nn k
 na:∀ k,sS t.P k
 n0:t.n0<t.nn
 lo:∀ k∈dL,t.n0<=k/\k<t.nn
 a:a<=t.s.size
structure Fy where
 T:Nat->Nat->bE
 L:List Nat
 D:List Nat
 bW:List Value
 bZ:List Value
structure Zv(t:dp)(e9:Nat->Nat->bE)(dL D0:List Nat)(a nA nD:Nat)(x:Fy):Prop where
 inv:hj t.P t.nn x.T
 qk:∀ k b,¬ (k∈dL/\b=a)->x.T k b=e9 k b
 perm:(x.D++x.L).Perm (D0++dL)
 kn:∀ k∈dL,k∈x.L\/(x.T k a).ap≠0
 sub:∀ k∈x.L,k∈dL
 zC:x.bW.length=nA
 rk:x.bW.take x.L.length=x.L.map bJ
 Cf:x.bZ.length=nD
 vW:x.bZ.take x.D.length=x.D.map bJ
structure Jw(t:dp)(e9:Nat->Nat->bE)(dL D0:List Nat)(a nA nD:Nat)(g3:List Nat)(d1 i:Nat)(x:Fy):Prop where
 ii:i<=g3.length
 Zw:x.L.length<=i
 inv:hj t.P t.nn x.T
 qk:∀ k b,¬ (k∈dL/\b=a)->x.T k b=e9 k b
 perm:(x.D++(x.L++g3.drop i)).Perm (D0++dL)
 kn:∀ k∈dL,k∈x.L\/k∈g3.drop i\/(x.T k a).ap≠0
 sub:∀ k∈x.L,k∈dL
 un:x.D.length=d1->∀ k∈x.L,(c0 t.P x.T k a).ap=0
 QC:x.D.length+x.L.length=d1+i
 ge:d1<=x.D.length
 zC:x.bW.length=nA
 rk:x.bW.take x.L.length=x.L.map bJ
 QD:(x.bW.drop i).take (g3.length-i)=(g3.drop i).map bJ
 Cf:x.bZ.length=nD
 vW:x.bZ.take x.D.length=x.D.map bJ
def Fx.pre{t:dp}{e9:Nat->Nat->bE}{a:Nat}(h:Fx I t e9 dL a){T:Nat->Nat->bE}(hi:hj t.P t.nn T)(aF:∀ k b,¬ (k∈dL/\b=a)->T k b=e9 k b)(a5:t.aV T∈M){k:Nat}(af:k∈dL):nl I t T M k a:=
 ⟨h.ok.qk λq aK b=>aF q b λe=>by have:=(h.lo q e.1).1;omega,hi,h.a2,h.na,λ_=>a5,(h.lo k af).2,h.a⟩
def Zx(A B C:List α)(k:α):(A++(B++k::C)).Perm (A++[k]++(B++C)):=by rw[fJ];exact List.Perm.append_left _ qf
set_option maxRecDepth 100000 in
def Zy{t:dp}{e9:Nat->Nat->bE}{D0:List Nat}{a:Nat}(h:Fx I t e9 dL a){gA gD nA nD:Nat}{cA0 cD0:List Value}(ha:cA0.length=nA)(cn:cD0.length=nD)(rk:cA0.take dL.length=dL.map bJ)(vW:cD0.take D0.length=D0.map bJ)(aga:dL.length<=nA)(agb:D0.length+dL.length<=nD)(agc:nA<=1048576)(agd:nD<=1048576) :
  Spec Tryz.prog 96 [ptr t.bt,.agg Cd.toArray,.slice (some ⟨gA,0,none⟩) dL.length nA,.slice (some ⟨gD,0,none⟩) D0.length nD,.int .i64 a] I [t.aV e9,cA gA cA0,cA gD cD0] λv I' M'=>I'=I /\
   ∃ (T:Nat->Nat->bE) (zD:List Nat) (bW bZ:List Value),hj t.P t.nn T/\(∀ k b,¬ (k∈dL/\b=a)->T k b=e9 k b)/\(∀ k∈dL,(T k a).ap=0->(c0 t.P T k a).ap=0)/\zD.Perm (D0++dL)/\bW.length=nA/\bZ.length=nD/\bZ.take zD.length=zD.map bJ /\
    v=.slice (some ⟨gD,0,none⟩) zD.length nD/\M'=[t.aV T,cA gA bW,cA gD bZ]:=by
 refine b8 [] aT Tryz.func96 rfl rfl rfl ?_;intro B au;refine dh.inv (ι:=Fy) (λx=>{ ca:=[(0,.val (ptr t.bt)),(2,.val (.slice (some ⟨gA,0,none⟩) x.L.length nA)),(3,.val (.slice (some ⟨gD,0,none⟩) x.D.length nD)),(4,.val (.int .i64 a)),(6,.ref 6 0)],cl:=[(6,Cd)],cQ:=I,dq:=[t.aV x.T,cA gA x.bW,cA gD x.bZ] }) (λx=>Zv t e9 dL D0 a nA nD x) (λx=>x.L.length) ?_ ?_
 ·exact⟨⟨e9,dL,D0,cA0,cD0⟩,⟨h.inv,λ_ _ _=>rfl,.refl _,λk af=>.inl af,λk af=>af,ha,rk,cn,vW⟩,.refl,iD,.cons rfl (.nil)⟩
 rintro⟨Is,g3,ql,Zz,ZA⟩cJ;have ZB:=cJ.perm.length_eq;simp only[cD]at ZB;have age:g3.length<=nA:=by have aa:=congrArg List.length cJ.rk;have ab:=cJ.zC;simp only[kz,fl]at aa ab;omega
 refine h5.mk 0 0 rfl rfl (bS _) (bk _) ?_;refine dh.inv (ι:=Nat×Fy) (λx=>{ ca:=[(0,.val (ptr t.bt)),(3,.val (.slice (some ⟨gD,0,none⟩) x.2.D.length nD)),(4,.val (.int .i64 a)),(6,.ref 6 0),(11,.val (.int .i64 ql.length)),(12,.val (.slice (some ⟨gA,0,none⟩) x.2.L.length nA)),(20,.val (.slice (some ⟨gA,0,none⟩) g3.length nA)),(21,.val (.int .i64 g3.length)),(22,.val (.int .i64 x.1))],cl:=[(6,Cd)],cQ:=I,dq:=[t.aV x.2.T,cA gA x.2.bW,cA gD x.2.bZ] }) (λx=>Jw t e9 dL D0 a nA nD g3 ql.length x.1 x.2) (λx=>g3.length-x.1) ?_ ?_
 ·refine⟨(0,⟨Is,[],ql,Zz,ZA⟩),⟨bk _,bS _,cJ.inv,cJ.qk,cJ.perm,λk af=>.inr (cJ.kn k af),λk af=>(by cases af),λ_ k af=>(by cases af),by simp,bS _,cJ.zC,by simp,by simpa using cJ.rk,cJ.Cf,cJ.vW⟩,.refl,rZ,.cons rfl (.nil)⟩
 rintro⟨i,⟨T,L,D,bW,bZ⟩⟩cT;have ZC:=cT.ii;have ZD:=cT.Zw;have ZE:=cT.QC;have QE:=cT.ge;simp only at ZC ZD ZE QE;have Cg:bW.length=nA:=cT.zC;have Ch:bZ.length=nD:=cT.Cf;refine aR.mk (λe=>?_) (λe=>?_)
 ·have aU:i<g3.length:=by simpa using e
  obtain⟨k,af⟩:∃ k,g3[i]=k:=⟨_,rfl⟩;have mD:g3.drop i=k::g3.drop (i+1):=by rw[fs aU,af]
  have zc:k∈dL:=cJ.sub k (by rw[<-af];exact dR aU);have QF:=fun {M:List aC} (a5:cA gA bW∈M)=>Zr (I:=I) a5 cT.QD rfl aU;rw[af]at QF;have rl:=fun {M:List aC} (a5:t.aV T∈M)=>h.pre cT.inv cT.qk a5 zc;obtain⟨ei,dK⟩:=h.lo k zc;have nm:t.ok I T:=(rl (M:=[t.aV T]) (.head _)).ok;obtain⟨y,aL,jb,hW,rj,hc,ad,cg,bD⟩:=nm.at_ dK;obtain⟨dm,hX,r,ao,fI,mT,hY⟩:=nm.row dK;have mY:=mT ei;subst mY;have oo:a<t.w:=by have:=h.a;show a<t.s.size+1;omega
  have Jx:∀ cur:List Value,cur.drop (i+1)=bW.drop (i+1)->(cur.drop (i+1)).take (g3.length-(i+1))=(g3.drop (i+1)).map bJ:=λcur aF=>by have aa:=congrArg (List.drop 1) cT.QD;rw[<-List.map_drop,w6,vl,w6]at aa;rw[aF,show g3.length-(i+1)=g3.length-i-1 by omega];exact aa
  have stay:(c0 t.P T k a).ap=0->Jw t e9 dL D0 a nA nD g3 ql.length (i+1) ⟨T,L++[k],D,bo bW (L.length*1) [bJ k],bZ⟩:=λbd=>by
   obtain⟨k',mm,BO⟩:=Jv (L:=L) (cur:=bW) cT.rk (by show L.length<bW.length;omega) k;have aH:=cT.perm;simp only[mD]at aH;refine⟨by omega,by simp only[cD,zq];omega,cT.inv,cT.qk,?_,λq aK=>?_,λq aK=>?_,λak q aK=>?_,by simp only[cD,zq];omega,QE,k'.trans Cg,mm,Jx _ (BO _ (by omega)),Ch,cT.vW⟩;·simp only;rw[fJ L [k]];exact aH
   ·rcases cT.kn q aK with aa | aa | aa
    ·exact .inl (yE _ aa)
    ·simp only at aa;rw[mD]at aa;rcases dv.1 aa with rfl | aa
     ·exact .inl (yD _ (.head _))
     ·exact .inr (.inl aa)
    ·exact .inr (.inr aa)
   ·rcases dA.1 aK with aa | aa
    ·exact cT.sub q aa
    ·rw[iM.1 aa];exact zc
   ·rcases dA.1 aK with aa | aa
    ·exact cT.un ak q aa
    ·rw[iM.1 aa];exact bd
  have done:(c0 t.P T k a).ap≠0->Jw t e9 dL D0 a nA nD g3 ql.length (i+1) ⟨eS T k a (c0 t.P T k a),L,D++[k],bW,bo bZ (D.length*1) [bJ k]⟩:=λbd=>by
   obtain⟨k',mm,BO⟩:=Jv (L:=D) (cur:=bZ) cT.vW (by show D.length<bZ.length;omega) k;have aH:=cT.perm;simp only[mD]at aH;refine⟨by omega,by simp only;omega,cT.inv.set dK h.a (h.a2 k dK) rfl bd,λq b aK=>?_,?_,λq aK=>?_,cT.sub,λak q aK=>?_,by simp only[cD,zq];omega,by simp only[cD,zq];omega,Cg,cT.rk,Jx _ rfl,k'.trans Ch,mm⟩;·simp only;rw[ux λx=>aK ⟨by rw[x.1];exact zc,x.2⟩];exact cT.qk q b aK
   ·simp only;exact(Zx D L (g3.drop (i+1)) k).symm.trans aH
   ·simp only;by_cases eq:q=k
    ·subst eq;rw[zx];exact .inr (.inr bd)
    ·rw[ux λx=>eq x.1];rcases cT.kn q aK with aa | aa | aa
     ·exact .inl aa
     ·simp only at aa;rw[mD]at aa;rcases dv.1 aa with aa | aa
      ·exact absurd aa eq
      ·exact .inr (.inl aa)
     ·exact .inr (.inr aa)
   ·simp only[cD,zq]at ak;omega
  have rm:=Zt (t:=t) (T:=T) dK ei oo (c0 t.P T k a);have QG:=t.Y4 T;have fm:(k-t.n0)*(t.w*4)+a*4+4<=(t.cs T).length:=by rw[QG];have aa:(k-t.n0+1)*(t.w*4)<=(t.nn-t.n0)*(t.w*4):=qz _ (by omega);rw[iV,oR]at aa;omega
  obtain⟨c,aF⟩:∃ c,c0 t.P T k a=c:=⟨_,rfl⟩;rw[aF]at stay done rm;refine bs.mk ⟨gA,0,none⟩ i rfl rfl aU ?_;refine aM.mk _ (QF (.tail _ (.head _))) ?_;refine aM.mk _ (nm.e1 (j:=3) (by decide)) ?_;refine bs.mk ad k cg rfl dK ?_;refine aM.mk _ ((bD _).part (k:=0) (m:=1) (by decide)) ?_;have QH:=(h.na k).lt;have QI:=(h.na k).qc;have qm:(t.P.at_ k).d.k=y.k:=by rw[jb];rfl
  rw[qm]at QH QI;clear jb mD QG Jx cT cJ hW rj hc aL;obtain⟨kL,fT,s1,s2,gv,k6,agf,agh,agi,agj,agk,agl⟩:=y;simp only at qm QH QI;have ZF:kL=0\/kL=1\/kL=2\/kL=3\/kL=4\/kL=5\/kL=6\/kL=7\/kL=8\/kL=9:=by omega
  rcases ZF with rfl | rfl | rfl | rfl | rfl | rfl | rfl | rfl | rfl | rfl
  ·refine ed.mk 0 rfl (by decide) ?_;have bI:=Ze (rl (M:=[t.aV T,cA gA bW,cA gD bZ]) (.head _)) qm;unfold jS at bI;rw[aF]at bI;refine a7.whole _ bI ?_;rintro v I' M' -⟨rfl,rfl,rfl⟩;refine aR.mk (λaA=>?_) (λaA=>?_)
   ·have dy:c.ap=0:=by have:=c9 aA;omega
    refine cC.mk λb6 gj hk=>?_;refine be.iu aT rfl (by simp) (e:=3) rfl rfl rfl (g:=gA) (n:=L.length) (c:=nA) (cur:=bW) rfl (show bW.length=nA*1 by omega) (ad:=⟨b6,0,none⟩) (m:=1) (c':=1) rfl (news:=[bJ k]) ⟨rfl,_,_,_,.inr ⟨_,.head _,rfl,rfl⟩,rfl,rfl⟩ rfl (by omega) [_,t.aV T] [cA gD bZ] rfl ?_;refine a6.mk _ (cY (i:=i) (by omega)) ?_;have hlen:L.length+1=(L++[k]).length:=by simp
    exact⟨(i+1,⟨T,L++[k],D,bo bW (L.length*1) [bJ k],bZ⟩),⟨stay dy,by simp only;omega⟩,.sub (.cons _ (.refl _)) .refl,.cons .refl (.cons .refl (.cons .refl (.cons .refl (.cons .refl (.cons (ko gA nA hlen) (gI)))))),.cons rfl (.nil)⟩
   ·have dy:c.ap≠0:=by have:=dj aA;omega
    refine cX.draw aT rfl rfl rfl ?_;refine aM.mk _ (nm.e1 (j:=4) (by decide)) ?_;refine bs.mk dm k hX rfl dK ?_;refine aM.mk _ (fI _) ?_;refine bs.mk ⟨t.ej,(k-t.n0)*(t.w*4),none⟩ a rfl rfl oo ?_;refine cS.pZ [] [cA gA bW,cA gD bZ] (t.cs T) _ rfl (by rw[qg];exact fm) rfl (t.cs (eS T k a c)) rm ?_;refine cC.mk λb6 gj hk=>?_;refine be.iu aT rfl (by simp) (e:=3) rfl rfl rfl (g:=gD) (n:=D.length) (c:=nD) (cur:=bZ) rfl (show bZ.length=nD*1 by omega) (ad:=⟨b6,0,none⟩) (m:=1) (c':=1) rfl (news:=[bJ k]) ⟨rfl,_,_,_,.inr ⟨_,.head _,rfl,rfl⟩,rfl,rfl⟩ rfl (by omega) [_,t.aV (eS T k a c),cA gA bW] [] rfl ?_;refine a6.mk _ (cY (i:=i) (by omega)) ?_;have hlen:D.length+1=(D++[k]).length:=by simp
    exact⟨(i+1,⟨eS T k a c,L,D++[k],bW,bo bZ (D.length*1) [bJ k]⟩),⟨done dy,by simp only;omega⟩,.sub (.cons _ (.refl _)) .refl,.cons .refl (.cons (ko gD nD hlen) (j8)),.cons rfl (.nil)⟩
  ·refine ed.mk 1 rfl (by decide) ?_;have bI:=Zj (rl (M:=[t.aV T,cA gA bW,cA gD bZ]) (.head _)) qm;unfold jS at bI;rw[aF]at bI;refine a7.whole _ bI ?_;rintro v I' M' -⟨rfl,rfl,rfl⟩;refine aR.mk (λaA=>?_) (λaA=>?_)
   ·have dy:c.ap=0:=by have:=c9 aA;omega
    refine cC.mk λb6 gj hk=>?_;refine be.iu aT rfl (by simp) (e:=3) rfl rfl rfl (g:=gA) (n:=L.length) (c:=nA) (cur:=bW) rfl (show bW.length=nA*1 by omega) (ad:=⟨b6,0,none⟩) (m:=1) (c':=1) rfl (news:=[bJ k]) ⟨rfl,_,_,_,.inr ⟨_,.head _,rfl,rfl⟩,rfl,rfl⟩ rfl (by omega) [_,t.aV T] [cA gD bZ] rfl ?_;refine a6.mk _ (cY (i:=i) (by omega)) ?_;have hlen:L.length+1=(L++[k]).length:=by simp
    exact⟨(i+1,⟨T,L++[k],D,bo bW (L.length*1) [bJ k],bZ⟩),⟨stay dy,by simp only;omega⟩,.sub (.cons _ (.refl _)) .refl,.cons .refl (.cons .refl (.cons .refl (.cons .refl (.cons .refl (.cons (ko gA nA hlen) (gI)))))),.cons rfl (.nil)⟩
   ·have dy:c.ap≠0:=by have:=dj aA;omega
    refine cX.draw aT rfl rfl rfl ?_;refine aM.mk _ (nm.e1 (j:=4) (by decide)) ?_;refine bs.mk dm k hX rfl dK ?_;refine aM.mk _ (fI _) ?_;refine bs.mk ⟨t.ej,(k-t.n0)*(t.w*4),none⟩ a rfl rfl oo ?_;refine cS.pZ [] [cA gA bW,cA gD bZ] (t.cs T) _ rfl (by rw[qg];exact fm) rfl (t.cs (eS T k a c)) rm ?_;refine cC.mk λb6 gj hk=>?_;refine be.iu aT rfl (by simp) (e:=3) rfl rfl rfl (g:=gD) (n:=D.length) (c:=nD) (cur:=bZ) rfl (show bZ.length=nD*1 by omega) (ad:=⟨b6,0,none⟩) (m:=1) (c':=1) rfl (news:=[bJ k]) ⟨rfl,_,_,_,.inr ⟨_,.head _,rfl,rfl⟩,rfl,rfl⟩ rfl (by omega) [_,t.aV (eS T k a c),cA gA bW] [] rfl ?_;refine a6.mk _ (cY (i:=i) (by omega)) ?_;have hlen:D.length+1=(D++[k]).length:=by simp
    exact⟨(i+1,⟨eS T k a c,L,D++[k],bW,bo bZ (D.length*1) [bJ k]⟩),⟨done dy,by simp only;omega⟩,.sub (.cons _ (.refl _)) .refl,.cons .refl (.cons (ko gD nD hlen) (j8)),.cons rfl (.nil)⟩
  ·refine ed.mk 2 rfl (by decide) ?_;have bI:=Zk (rl (M:=[t.aV T,cA gA bW,cA gD bZ]) (.head _)) qm;unfold jS at bI;rw[aF]at bI;refine a7.whole _ bI ?_;rintro v I' M' -⟨rfl,rfl,rfl⟩;refine aR.mk (λaA=>?_) (λaA=>?_)
   ·have dy:c.ap=0:=by have:=c9 aA;omega
    refine cC.mk λb6 gj hk=>?_;refine be.iu aT rfl (by simp) (e:=3) rfl rfl rfl (g:=gA) (n:=L.length) (c:=nA) (cur:=bW) rfl (show bW.length=nA*1 by omega) (ad:=⟨b6,0,none⟩) (m:=1) (c':=1) rfl (news:=[bJ k]) ⟨rfl,_,_,_,.inr ⟨_,.head _,rfl,rfl⟩,rfl,rfl⟩ rfl (by omega) [_,t.aV T] [cA gD bZ] rfl ?_;refine a6.mk _ (cY (i:=i) (by omega)) ?_;have hlen:L.length+1=(L++[k]).length:=by simp
    exact⟨(i+1,⟨T,L++[k],D,bo bW (L.length*1) [bJ k],bZ⟩),⟨stay dy,by simp only;omega⟩,.sub (.cons _ (.refl _)) .refl,.cons .refl (.cons .refl (.cons .refl (.cons .refl (.cons .refl (.cons (ko gA nA hlen) (gI)))))),.cons rfl (.nil)⟩
   ·have dy:c.ap≠0:=by have:=dj aA;omega
    refine cX.draw aT rfl rfl rfl ?_;refine aM.mk _ (nm.e1 (j:=4) (by decide)) ?_;refine bs.mk dm k hX rfl dK ?_;refine aM.mk _ (fI _) ?_;refine bs.mk ⟨t.ej,(k-t.n0)*(t.w*4),none⟩ a rfl rfl oo ?_;refine cS.pZ [] [cA gA bW,cA gD bZ] (t.cs T) _ rfl (by rw[qg];exact fm) rfl (t.cs (eS T k a c)) rm ?_;refine cC.mk λb6 gj hk=>?_;refine be.iu aT rfl (by simp) (e:=3) rfl rfl rfl (g:=gD) (n:=D.length) (c:=nD) (cur:=bZ) rfl (show bZ.length=nD*1 by omega) (ad:=⟨b6,0,none⟩) (m:=1) (c':=1) rfl (news:=[bJ k]) ⟨rfl,_,_,_,.inr ⟨_,.head _,rfl,rfl⟩,rfl,rfl⟩ rfl (by omega) [_,t.aV (eS T k a c),cA gA bW] [] rfl ?_;refine a6.mk _ (cY (i:=i) (by omega)) ?_;have hlen:D.length+1=(D++[k]).length:=by simp
    exact⟨(i+1,⟨eS T k a c,L,D++[k],bW,bo bZ (D.length*1) [bJ k]⟩),⟨done dy,by simp only;omega⟩,.sub (.cons _ (.refl _)) .refl,.cons .refl (.cons (ko gD nD hlen) (j8)),.cons rfl (.nil)⟩
  ·refine ed.mk 3 rfl (by decide) ?_;have bI:=Zf (rl (M:=[t.aV T,cA gA bW,cA gD bZ]) (.head _)) qm;unfold jS at bI;rw[aF]at bI;refine a7.whole _ bI ?_;rintro v I' M' -⟨rfl,rfl,rfl⟩;refine aR.mk (λaA=>?_) (λaA=>?_)
   ·have dy:c.ap=0:=by have:=c9 aA;omega
    refine cC.mk λb6 gj hk=>?_;refine be.iu aT rfl (by simp) (e:=3) rfl rfl rfl (g:=gA) (n:=L.length) (c:=nA) (cur:=bW) rfl (show bW.length=nA*1 by omega) (ad:=⟨b6,0,none⟩) (m:=1) (c':=1) rfl (news:=[bJ k]) ⟨rfl,_,_,_,.inr ⟨_,.head _,rfl,rfl⟩,rfl,rfl⟩ rfl (by omega) [_,t.aV T] [cA gD bZ] rfl ?_;refine a6.mk _ (cY (i:=i) (by omega)) ?_;have hlen:L.length+1=(L++[k]).length:=by simp
    exact⟨(i+1,⟨T,L++[k],D,bo bW (L.length*1) [bJ k],bZ⟩),⟨stay dy,by simp only;omega⟩,.sub (.cons _ (.refl _)) .refl,.cons .refl (.cons .refl (.cons .refl (.cons .refl (.cons .refl (.cons (ko gA nA hlen) (gI)))))),.cons rfl (.nil)⟩
   ·have dy:c.ap≠0:=by have:=dj aA;omega
    refine cX.draw aT rfl rfl rfl ?_;refine aM.mk _ (nm.e1 (j:=4) (by decide)) ?_;refine bs.mk dm k hX rfl dK ?_;refine aM.mk _ (fI _) ?_;refine bs.mk ⟨t.ej,(k-t.n0)*(t.w*4),none⟩ a rfl rfl oo ?_;refine cS.pZ [] [cA gA bW,cA gD bZ] (t.cs T) _ rfl (by rw[qg];exact fm) rfl (t.cs (eS T k a c)) rm ?_;refine cC.mk λb6 gj hk=>?_;refine be.iu aT rfl (by simp) (e:=3) rfl rfl rfl (g:=gD) (n:=D.length) (c:=nD) (cur:=bZ) rfl (show bZ.length=nD*1 by omega) (ad:=⟨b6,0,none⟩) (m:=1) (c':=1) rfl (news:=[bJ k]) ⟨rfl,_,_,_,.inr ⟨_,.head _,rfl,rfl⟩,rfl,rfl⟩ rfl (by omega) [_,t.aV (eS T k a c),cA gA bW] [] rfl ?_;refine a6.mk _ (cY (i:=i) (by omega)) ?_;have hlen:D.length+1=(D++[k]).length:=by simp
    exact⟨(i+1,⟨eS T k a c,L,D++[k],bW,bo bZ (D.length*1) [bJ k]⟩),⟨done dy,by simp only;omega⟩,.sub (.cons _ (.refl _)) .refl,.cons .refl (.cons (ko gD nD hlen) (j8)),.cons rfl (.nil)⟩
  ·refine ed.mk 4 rfl (by decide) ?_;have bI:=Zl (rl (M:=[t.aV T,cA gA bW,cA gD bZ]) (.head _)) qm;unfold jS at bI;rw[aF]at bI;refine a7.whole _ bI ?_;rintro v I' M' -⟨rfl,rfl,rfl⟩;refine aR.mk (λaA=>?_) (λaA=>?_)
   ·have dy:c.ap=0:=by have:=c9 aA;omega
    refine cC.mk λb6 gj hk=>?_;refine be.iu aT rfl (by simp) (e:=3) rfl rfl rfl (g:=gA) (n:=L.length) (c:=nA) (cur:=bW) rfl (show bW.length=nA*1 by omega) (ad:=⟨b6,0,none⟩) (m:=1) (c':=1) rfl (news:=[bJ k]) ⟨rfl,_,_,_,.inr ⟨_,.head _,rfl,rfl⟩,rfl,rfl⟩ rfl (by omega) [_,t.aV T] [cA gD bZ] rfl ?_;refine a6.mk _ (cY (i:=i) (by omega)) ?_;have hlen:L.length+1=(L++[k]).length:=by simp
    exact⟨(i+1,⟨T,L++[k],D,bo bW (L.length*1) [bJ k],bZ⟩),⟨stay dy,by simp only;omega⟩,.sub (.cons _ (.refl _)) .refl,.cons .refl (.cons .refl (.cons .refl (.cons .refl (.cons .refl (.cons (ko gA nA hlen) (gI)))))),.cons rfl (.nil)⟩
   ·have dy:c.ap≠0:=by have:=dj aA;omega
    refine cX.draw aT rfl rfl rfl ?_;refine aM.mk _ (nm.e1 (j:=4) (by decide)) ?_;refine bs.mk dm k hX rfl dK ?_;refine aM.mk _ (fI _) ?_;refine bs.mk ⟨t.ej,(k-t.n0)*(t.w*4),none⟩ a rfl rfl oo ?_;refine cS.pZ [] [cA gA bW,cA gD bZ] (t.cs T) _ rfl (by rw[qg];exact fm) rfl (t.cs (eS T k a c)) rm ?_;refine cC.mk λb6 gj hk=>?_;refine be.iu aT rfl (by simp) (e:=3) rfl rfl rfl (g:=gD) (n:=D.length) (c:=nD) (cur:=bZ) rfl (show bZ.length=nD*1 by omega) (ad:=⟨b6,0,none⟩) (m:=1) (c':=1) rfl (news:=[bJ k]) ⟨rfl,_,_,_,.inr ⟨_,.head _,rfl,rfl⟩,rfl,rfl⟩ rfl (by omega) [_,t.aV (eS T k a c),cA gA bW] [] rfl ?_;refine a6.mk _ (cY (i:=i) (by omega)) ?_;have hlen:D.length+1=(D++[k]).length:=by simp
    exact⟨(i+1,⟨eS T k a c,L,D++[k],bW,bo bZ (D.length*1) [bJ k]⟩),⟨done dy,by simp only;omega⟩,.sub (.cons _ (.refl _)) .refl,.cons .refl (.cons (ko gD nD hlen) (j8)),.cons rfl (.nil)⟩
  ·refine ed.mk 5 rfl (by decide) ?_;have bI:=Zm (rl (M:=[t.aV T,cA gA bW,cA gD bZ]) (.head _)) qm;unfold jS at bI;rw[aF]at bI;refine a7.whole _ bI ?_;rintro v I' M' -⟨rfl,rfl,rfl⟩;refine aR.mk (λaA=>?_) (λaA=>?_)
   ·have dy:c.ap=0:=by have:=c9 aA;omega
    refine cC.mk λb6 gj hk=>?_;refine be.iu aT rfl (by simp) (e:=3) rfl rfl rfl (g:=gA) (n:=L.length) (c:=nA) (cur:=bW) rfl (show bW.length=nA*1 by omega) (ad:=⟨b6,0,none⟩) (m:=1) (c':=1) rfl (news:=[bJ k]) ⟨rfl,_,_,_,.inr ⟨_,.head _,rfl,rfl⟩,rfl,rfl⟩ rfl (by omega) [_,t.aV T] [cA gD bZ] rfl ?_;refine a6.mk _ (cY (i:=i) (by omega)) ?_;have hlen:L.length+1=(L++[k]).length:=by simp
    exact⟨(i+1,⟨T,L++[k],D,bo bW (L.length*1) [bJ k],bZ⟩),⟨stay dy,by simp only;omega⟩,.sub (.cons _ (.refl _)) .refl,.cons .refl (.cons .refl (.cons .refl (.cons .refl (.cons .refl (.cons (ko gA nA hlen) (gI)))))),.cons rfl (.nil)⟩
   ·have dy:c.ap≠0:=by have:=dj aA;omega
    refine cX.draw aT rfl rfl rfl ?_;refine aM.mk _ (nm.e1 (j:=4) (by decide)) ?_;refine bs.mk dm k hX rfl dK ?_;refine aM.mk _ (fI _) ?_;refine bs.mk ⟨t.ej,(k-t.n0)*(t.w*4),none⟩ a rfl rfl oo ?_;refine cS.pZ [] [cA gA bW,cA gD bZ] (t.cs T) _ rfl (by rw[qg];exact fm) rfl (t.cs (eS T k a c)) rm ?_;refine cC.mk λb6 gj hk=>?_;refine be.iu aT rfl (by simp) (e:=3) rfl rfl rfl (g:=gD) (n:=D.length) (c:=nD) (cur:=bZ) rfl (show bZ.length=nD*1 by omega) (ad:=⟨b6,0,none⟩) (m:=1) (c':=1) rfl (news:=[bJ k]) ⟨rfl,_,_,_,.inr ⟨_,.head _,rfl,rfl⟩,rfl,rfl⟩ rfl (by omega) [_,t.aV (eS T k a c),cA gA bW] [] rfl ?_;refine a6.mk _ (cY (i:=i) (by omega)) ?_;have hlen:D.length+1=(D++[k]).length:=by simp
    exact⟨(i+1,⟨eS T k a c,L,D++[k],bW,bo bZ (D.length*1) [bJ k]⟩),⟨done dy,by simp only;omega⟩,.sub (.cons _ (.refl _)) .refl,.cons .refl (.cons (ko gD nD hlen) (j8)),.cons rfl (.nil)⟩
  ·refine ed.mk 6 rfl (by decide) ?_;have bI:=Zp (rl (M:=[t.aV T,cA gA bW,cA gD bZ]) (.head _)) qm;unfold jS at bI;rw[aF]at bI;refine a7.whole _ bI ?_;rintro v I' M' -⟨rfl,rfl,rfl⟩;refine aR.mk (λaA=>?_) (λaA=>?_)
   ·have dy:c.ap=0:=by have:=c9 aA;omega
    refine cC.mk λb6 gj hk=>?_;refine be.iu aT rfl (by simp) (e:=3) rfl rfl rfl (g:=gA) (n:=L.length) (c:=nA) (cur:=bW) rfl (show bW.length=nA*1 by omega) (ad:=⟨b6,0,none⟩) (m:=1) (c':=1) rfl (news:=[bJ k]) ⟨rfl,_,_,_,.inr ⟨_,.head _,rfl,rfl⟩,rfl,rfl⟩ rfl (by omega) [_,t.aV T] [cA gD bZ] rfl ?_;refine a6.mk _ (cY (i:=i) (by omega)) ?_;have hlen:L.length+1=(L++[k]).length:=by simp
    exact⟨(i+1,⟨T,L++[k],D,bo bW (L.length*1) [bJ k],bZ⟩),⟨stay dy,by simp only;omega⟩,.sub (.cons _ (.refl _)) .refl,.cons .refl (.cons .refl (.cons .refl (.cons .refl (.cons .refl (.cons (ko gA nA hlen) (gI)))))),.cons rfl (.nil)⟩
   ·have dy:c.ap≠0:=by have:=dj aA;omega
    refine cX.draw aT rfl rfl rfl ?_;refine aM.mk _ (nm.e1 (j:=4) (by decide)) ?_;refine bs.mk dm k hX rfl dK ?_;refine aM.mk _ (fI _) ?_;refine bs.mk ⟨t.ej,(k-t.n0)*(t.w*4),none⟩ a rfl rfl oo ?_;refine cS.pZ [] [cA gA bW,cA gD bZ] (t.cs T) _ rfl (by rw[qg];exact fm) rfl (t.cs (eS T k a c)) rm ?_;refine cC.mk λb6 gj hk=>?_;refine be.iu aT rfl (by simp) (e:=3) rfl rfl rfl (g:=gD) (n:=D.length) (c:=nD) (cur:=bZ) rfl (show bZ.length=nD*1 by omega) (ad:=⟨b6,0,none⟩) (m:=1) (c':=1) rfl (news:=[bJ k]) ⟨rfl,_,_,_,.inr ⟨_,.head _,rfl,rfl⟩,rfl,rfl⟩ rfl (by omega) [_,t.aV (eS T k a c),cA gA bW] [] rfl ?_;refine a6.mk _ (cY (i:=i) (by omega)) ?_;have hlen:D.length+1=(D++[k]).length:=by simp
    exact⟨(i+1,⟨eS T k a c,L,D++[k],bW,bo bZ (D.length*1) [bJ k]⟩),⟨done dy,by simp only;omega⟩,.sub (.cons _ (.refl _)) .refl,.cons .refl (.cons (ko gD nD hlen) (j8)),.cons rfl (.nil)⟩
  ·refine ed.mk 7 rfl (by decide) ?_;have bI:=Zg (rl (M:=[t.aV T,cA gA bW,cA gD bZ]) (.head _)) qm;unfold jS at bI;rw[aF]at bI;refine a7.whole _ bI ?_;rintro v I' M' -⟨rfl,rfl,rfl⟩;refine aR.mk (λaA=>?_) (λaA=>?_)
   ·have dy:c.ap=0:=by have:=c9 aA;omega
    refine cC.mk λb6 gj hk=>?_;refine be.iu aT rfl (by simp) (e:=3) rfl rfl rfl (g:=gA) (n:=L.length) (c:=nA) (cur:=bW) rfl (show bW.length=nA*1 by omega) (ad:=⟨b6,0,none⟩) (m:=1) (c':=1) rfl (news:=[bJ k]) ⟨rfl,_,_,_,.inr ⟨_,.head _,rfl,rfl⟩,rfl,rfl⟩ rfl (by omega) [_,t.aV T] [cA gD bZ] rfl ?_;refine a6.mk _ (cY (i:=i) (by omega)) ?_;have hlen:L.length+1=(L++[k]).length:=by simp
    exact⟨(i+1,⟨T,L++[k],D,bo bW (L.length*1) [bJ k],bZ⟩),⟨stay dy,by simp only;omega⟩,.sub (.cons _ (.refl _)) .refl,.cons .refl (.cons .refl (.cons .refl (.cons .refl (.cons .refl (.cons (ko gA nA hlen) (gI)))))),.cons rfl (.nil)⟩
   ·have dy:c.ap≠0:=by have:=dj aA;omega
    refine cX.draw aT rfl rfl rfl ?_;refine aM.mk _ (nm.e1 (j:=4) (by decide)) ?_;refine bs.mk dm k hX rfl dK ?_;refine aM.mk _ (fI _) ?_;refine bs.mk ⟨t.ej,(k-t.n0)*(t.w*4),none⟩ a rfl rfl oo ?_;refine cS.pZ [] [cA gA bW,cA gD bZ] (t.cs T) _ rfl (by rw[qg];exact fm) rfl (t.cs (eS T k a c)) rm ?_;refine cC.mk λb6 gj hk=>?_;refine be.iu aT rfl (by simp) (e:=3) rfl rfl rfl (g:=gD) (n:=D.length) (c:=nD) (cur:=bZ) rfl (show bZ.length=nD*1 by omega) (ad:=⟨b6,0,none⟩) (m:=1) (c':=1) rfl (news:=[bJ k]) ⟨rfl,_,_,_,.inr ⟨_,.head _,rfl,rfl⟩,rfl,rfl⟩ rfl (by omega) [_,t.aV (eS T k a c),cA gA bW] [] rfl ?_;refine a6.mk _ (cY (i:=i) (by omega)) ?_;have hlen:D.length+1=(D++[k]).length:=by simp
    exact⟨(i+1,⟨eS T k a c,L,D++[k],bW,bo bZ (D.length*1) [bJ k]⟩),⟨done dy,by simp only;omega⟩,.sub (.cons _ (.refl _)) .refl,.cons .refl (.cons (ko gD nD hlen) (j8)),.cons rfl (.nil)⟩
  ·refine ed.mk 8 rfl (by decide) ?_;have bI:=Zh (rl (M:=[t.aV T,cA gA bW,cA gD bZ]) (.head _)) qm;unfold jS at bI;rw[aF]at bI;refine a7.whole _ bI ?_;rintro v I' M' -⟨rfl,rfl,rfl⟩;refine aR.mk (λaA=>?_) (λaA=>?_)
   ·have dy:c.ap=0:=by have:=c9 aA;omega
    refine cC.mk λb6 gj hk=>?_;refine be.iu aT rfl (by simp) (e:=3) rfl rfl rfl (g:=gA) (n:=L.length) (c:=nA) (cur:=bW) rfl (show bW.length=nA*1 by omega) (ad:=⟨b6,0,none⟩) (m:=1) (c':=1) rfl (news:=[bJ k]) ⟨rfl,_,_,_,.inr ⟨_,.head _,rfl,rfl⟩,rfl,rfl⟩ rfl (by omega) [_,t.aV T] [cA gD bZ] rfl ?_;refine a6.mk _ (cY (i:=i) (by omega)) ?_;have hlen:L.length+1=(L++[k]).length:=by simp
    exact⟨(i+1,⟨T,L++[k],D,bo bW (L.length*1) [bJ k],bZ⟩),⟨stay dy,by simp only;omega⟩,.sub (.cons _ (.refl _)) .refl,.cons .refl (.cons .refl (.cons .refl (.cons .refl (.cons .refl (.cons (ko gA nA hlen) (gI)))))),.cons rfl (.nil)⟩
   ·have dy:c.ap≠0:=by have:=dj aA;omega
    refine cX.draw aT rfl rfl rfl ?_;refine aM.mk _ (nm.e1 (j:=4) (by decide)) ?_;refine bs.mk dm k hX rfl dK ?_;refine aM.mk _ (fI _) ?_;refine bs.mk ⟨t.ej,(k-t.n0)*(t.w*4),none⟩ a rfl rfl oo ?_;refine cS.pZ [] [cA gA bW,cA gD bZ] (t.cs T) _ rfl (by rw[qg];exact fm) rfl (t.cs (eS T k a c)) rm ?_;refine cC.mk λb6 gj hk=>?_;refine be.iu aT rfl (by simp) (e:=3) rfl rfl rfl (g:=gD) (n:=D.length) (c:=nD) (cur:=bZ) rfl (show bZ.length=nD*1 by omega) (ad:=⟨b6,0,none⟩) (m:=1) (c':=1) rfl (news:=[bJ k]) ⟨rfl,_,_,_,.inr ⟨_,.head _,rfl,rfl⟩,rfl,rfl⟩ rfl (by omega) [_,t.aV (eS T k a c),cA gA bW] [] rfl ?_;refine a6.mk _ (cY (i:=i) (by omega)) ?_;have hlen:D.length+1=(D++[k]).length:=by simp
    exact⟨(i+1,⟨eS T k a c,L,D++[k],bW,bo bZ (D.length*1) [bJ k]⟩),⟨done dy,by simp only;omega⟩,.sub (.cons _ (.refl _)) .refl,.cons .refl (.cons (ko gD nD hlen) (j8)),.cons rfl (.nil)⟩
  ·refine ed.mk 9 rfl (by decide) ?_;have bI:=Zi (rl (M:=[t.aV T,cA gA bW,cA gD bZ]) (.head _)) qm;unfold jS at bI;rw[aF]at bI;refine a7.whole _ bI ?_;rintro v I' M' -⟨rfl,rfl,rfl⟩;refine aR.mk (λaA=>?_) (λaA=>?_)
   ·have dy:c.ap=0:=by have:=c9 aA;omega
    refine cC.mk λb6 gj hk=>?_;refine be.iu aT rfl (by simp) (e:=3) rfl rfl rfl (g:=gA) (n:=L.length) (c:=nA) (cur:=bW) rfl (show bW.length=nA*1 by omega) (ad:=⟨b6,0,none⟩) (m:=1) (c':=1) rfl (news:=[bJ k]) ⟨rfl,_,_,_,.inr ⟨_,.head _,rfl,rfl⟩,rfl,rfl⟩ rfl (by omega) [_,t.aV T] [cA gD bZ] rfl ?_;refine a6.mk _ (cY (i:=i) (by omega)) ?_;have hlen:L.length+1=(L++[k]).length:=by simp
    exact⟨(i+1,⟨T,L++[k],D,bo bW (L.length*1) [bJ k],bZ⟩),⟨stay dy,by simp only;omega⟩,.sub (.cons _ (.refl _)) .refl,.cons .refl (.cons .refl (.cons .refl (.cons .refl (.cons .refl (.cons (ko gA nA hlen) (gI)))))),.cons rfl (.nil)⟩
   ·have dy:c.ap≠0:=by have:=dj aA;omega
    refine cX.draw aT rfl rfl rfl ?_;refine aM.mk _ (nm.e1 (j:=4) (by decide)) ?_;refine bs.mk dm k hX rfl dK ?_;refine aM.mk _ (fI _) ?_;refine bs.mk ⟨t.ej,(k-t.n0)*(t.w*4),none⟩ a rfl rfl oo ?_;refine cS.pZ [] [cA gA bW,cA gD bZ] (t.cs T) _ rfl (by rw[qg];exact fm) rfl (t.cs (eS T k a c)) rm ?_;refine cC.mk λb6 gj hk=>?_;refine be.iu aT rfl (by simp) (e:=3) rfl rfl rfl (g:=gD) (n:=D.length) (c:=nD) (cur:=bZ) rfl (show bZ.length=nD*1 by omega) (ad:=⟨b6,0,none⟩) (m:=1) (c':=1) rfl (news:=[bJ k]) ⟨rfl,_,_,_,.inr ⟨_,.head _,rfl,rfl⟩,rfl,rfl⟩ rfl (by omega) [_,t.aV (eS T k a c),cA gA bW] [] rfl ?_;refine a6.mk _ (cY (i:=i) (by omega)) ?_;have hlen:D.length+1=(D++[k]).length:=by simp
    exact⟨(i+1,⟨eS T k a c,L,D++[k],bW,bo bZ (D.length*1) [bJ k]⟩),⟨done dy,by simp only;omega⟩,.sub (.cons _ (.refl _)) .refl,.cons .refl (.cons (ko gD nD hlen) (j8)),.cons rfl (.nil)⟩
 ·have dE:¬ (i:Int)<(g3.length:Int):=dj e;obtain rfl:i=g3.length:=by omega
  have iv:(D++(L++g3.drop g3.length)).Perm (D0++dL):=cT.perm;have dK:∀ k∈dL,k∈L\/k∈g3.drop g3.length\/(T k a).ap≠0:=cT.kn;simp only[List.drop_length,en]at iv dK;have Jy:=iv.length_eq;simp only[cD]at Jy;have j6:ga (L.map bJ)=true:=by unfold ga;rw[gR];intro x ae;obtain⟨z,_,rfl⟩:=dO.1 ae;rfl
  have oq:ck I [t.aV T,cA gA bW,cA gD bZ] ⟨gA,0,none⟩ (L.length*1) (L.map bJ):=by refine⟨rfl,bW.toArray,3,(0,0),.inr ⟨_,.tail _ (.head _),rfl,rfl⟩,?_,by rw[fl,kA]⟩;rw[kA];exact cT.rk
  obtain⟨dH,di⟩:=Zs (D:=D) (cur:=bZ) cT.vW (L:=L) (by show D.length+L.length<=bZ.length;omega);have fin:((L.length:Nat)=0\/D.length=ql.length)->(∀ k∈dL,(T k a).ap=0->(c0 t.P T k a).ap=0):=λa4 k af au=>by
   rcases dK k af with aa | aa | aa
   ·rcases a4 with a4 | a4
    ·rw[lD a4]at aa;cases aa
    ·exact cT.un a4 k aa
   ·cases aa
   ·exact absurd au aa
  refine bC.mk (λg=>?_) (λg=>?_)
  ·refine aR.mk (λaP=>?_) (λaP=>?_)
   ·have QJ:D.length=ql.length:=by have br:(D.length:Int)=(ql.length:Int):=c9 aP;omega
    refine be.iu aT rfl (by simp) (e:=3) rfl rfl rfl (g:=gD) (n:=D.length) (c:=nD) (cur:=bZ) rfl (show bZ.length=nD*1 by omega) (ad:=⟨gA,0,none⟩) (m:=L.length) (c':=nA) rfl (news:=L.map bJ) oq j6 (by omega) [t.aV T,cA gA bW] [] rfl ?_;exact⟨_,_,.refl,rfl,T,D++L,bW,_,cT.inv,cT.qk,fin (.inr QJ),iv,Cg,dH.trans Ch,di,by rw[cD],rfl⟩
   ·have QJ:D.length≠ql.length:=by have br:¬ (D.length:Int)=(ql.length:Int):=dj aP;omega
    exact⟨⟨T,L,D,bW,bZ⟩,⟨⟨cT.inv,cT.qk,iv,λk af=>(dK k af).imp id λx=>x.elim (λy=>(by cases y)) id,cT.sub,Cg,cT.rk,Ch,cT.vW⟩,by simp only;omega⟩,.refl,iD,.cons rfl (.nil)⟩
  ·have c5:L.length=0:=by have:decide ((L.length:Int)=0)=true:=g;have:=c9 this;omega
   refine be.iu aT rfl (by simp) (e:=3) rfl rfl rfl (g:=gD) (n:=D.length) (c:=nD) (cur:=bZ) rfl (show bZ.length=nD*1 by omega) (ad:=⟨gA,0,none⟩) (m:=L.length) (c':=nA) rfl (news:=L.map bJ) oq j6 (by omega) [t.aV T,cA gA bW] [] rfl ?_;exact⟨_,_,.refl,rfl,T,D++L,bW,_,cT.inv,cT.qk,fin (.inl c5),iv,Cg,dH.trans Ch,di,by rw[cD],rfl⟩
structure QK(I:aN)(t:dp)(e9:Nat->Nat->bE)(dL:List Nat):Prop where
 ok:t.ok I e9
 inv:hj t.P t.nn e9
 a2:∀ k,k<t.nn->sR t.P t.nn k
 na:∀ k,sS t.P k
 n0:t.n0<t.nn
 lo:∀ k∈dL,t.n0<=k/\k<t.nn
 all:∀ k,t.n0<=k->k<t.nn->k∈dL
 cE:∀ k,k<t.n0->∀ b,(e9 k b).ce=bA t.P k b
structure QL where
 p:Nat
 v:Int
 T:Nat->Nat->bE
 L:List Nat
 gA:Nat
 nA:Nat
 bW:List Value
 gD:Nat
 nD:Nat
 d:Nat
 bZ:List Value
structure ZG(t:dp)(e9:Nat->Nat->bE)(dL:List Nat)(low:Nat)(x:QL):Prop where
 v:x.v=(x.p:Int)-1
 p:x.p<=t.s.size+1
 ZH:low<=x.p
 inv:hj t.P t.nn x.T
 up:∀ k b,x.p<=b->(x.T k b).ce=bA t.P k b
 cE:∀ k,k<t.n0->∀ b,x.T k b=e9 k b
 perm:x.L.Perm dL
 zC:x.bW.length=x.nA
 rk:x.bW.take x.L.length=x.L.map bJ
 Cf:x.bZ.length=x.nD
 ha:dL.length<=x.nA
 cn:dL.length<=x.nD
 ZI:x.nA<=1048576
 ZJ:x.nD<=1048576
set_option maxRecDepth 100000 in
def ZK{t:dp}{e9:Nat->Nat->bE}(h:QK I t e9 dL){gN nN:Nat}{cN:List Value}(dY:cN.length=nN)(ZL:cN.take dL.length=dL.map bJ)(cI:dL.length<=nN)(Jz:nN<=1048576){low:Nat}(agm:low<=t.s.size) :
  Spec Tryz.prog 62 [ptr t.bt,.slice (some ⟨gN,0,none⟩) dL.length nN,.int .i64 low] I [t.aV e9,cA gN cN] λv I' M'=>I'=I /\
   ∃ (T:Nat->Nat->bE),hj t.P t.nn T/\(∀ k b,low<=b->(T k b).ce=bA t.P k b)/\(∀ k,k<t.n0->∀ b,T k b=e9 k b)/\M'=[t.aV T]:=by
 refine b8 [] aT Tryz.func62 rfl rfl rfl ?_;intro B au;have cc:=h.ok.sz;refine a7.whole _ Zq ?_;rintro v I' M' -⟨rfl,rfl,rfl⟩;refine qE.mk 0 dL.length rfl rfl (bk _) (by show 8*dL.length<=_;omega) (by omega) ?_;refine cC.mk λZM agn ago=>?_;refine aM.mk _ (h.ok.e1 (j:=0) (by decide)) ?_;refine dh.inv (ι:=QL) (λx=>{ ca:=[(0,.val (ptr t.bt)),(1,.val (.slice (some ⟨x.gA,0,none⟩) x.L.length x.nA)),(2,.val (.int .i64 low)),(6,.ref 6 0),(7,.val (.slice (some ⟨x.gD,0,none⟩) x.d x.nD)),(8,.val (.int .i64 x.v))],cl:=[(6,Cd)],cQ:=I',dq:=[t.aV x.T,cA x.gA x.bW,cA x.gD x.bZ] }) (λx=>ZG t e9 dL low x) (λx=>x.p) ?_ ?_
 ·refine⟨⟨t.s.size+1,t.s.size,e9,dL,gN,nN,cN,ZM,dL.length,0,rowOf [bJ 0] (dL.length*1)⟩,⟨by simp only;omega,bS _,by simp only;omega,h.inv,λk b ag=>h.inv.out k b λe=>by have ab:b<=t.s.size:=e.2;simp only at ag;omega,λ_ _ _=>rfl,.refl _,dY,ZL,by simp[rowOf],cI,bS _,Jz,by simp only;omega⟩,.perm ?_ .refl,jG,.cons rfl (.nil)⟩;exact(List.Perm.swap _ _ _).trans (.cons _ (.swap _ _ _))
 rintro⟨p,v,T,L,gA,nA,bW,gD,nD,d,bZ⟩a';have ah:=a'.v;have aH:=a'.p;have ZN:=a'.ZH;have JA:=a'.ZI;have JB:=a'.ZJ;have QM:=a'.ha;have QN:=a'.cn;have Jy:=a'.perm.length_eq;simp only at ah aH ZN JA JB QM QN Jy;refine aR.mk (λe=>?_) (λe=>?_)
 ·have dE:(low:Int)<=v:=c9 e;obtain⟨a,rfl⟩:∃ a,p=a+1:=⟨p-1,by omega⟩;obtain rfl:v=(a:Int):=by omega
  have QO:Fx I' t T L a:=⟨h.ok.qk λk af b=>a'.cE k af b,a'.inv,h.a2,h.na,h.n0,λk af=>h.lo k (a'.perm.mem_iff.1 af),by omega⟩;have bI:=Zy (D0:=[]) QO (gA:=gA) (gD:=gD) (nA:=nA) (nD:=nD) (cA0:=bW) (cD0:=bZ) a'.zC a'.Cf a'.rk (by simp) (by omega) (by simp;omega) JA JB;refine cX.draw aT rfl rfl rfl ?_;refine h5.mk 0 0 rfl rfl (bS _) (bk _) ?_;refine nO.YU _ bI ?_;rintro v gh eP -⟨rfl,kw,zD,ZO,ZP,s1,s2,gv,xV,ZQ,ZR,ZS,rfl,rfl⟩;rw[nW]at xV;have JC:=xV.length_eq;have hold:∀ k,k<t.n0->∀ b,kw k b=e9 k b:=λk af b=>by rw[s2 k b λx=>by have:=(QO.lo k x.1).1;omega];exact a'.cE k af b
  have B9:∀ k b,a<b->(kw k b).ce=bA t.P k b:=λk b ag=>by rw[s2 k b λx=>by omega];exact a'.up k b ag
  have gg:∀ k,(kw k a).ce=bA t.P k a:=YI s1 h.a2 B9 (λk af bd=>by
   by_cases ei:k<t.n0;·refine YJ s1 af (by show a<=t.s.size;omega) (h.a2 k af) ?_ bd;rw[hold k ei a];exact h.cE k ei a
   ·exact gv k (a'.perm.mem_iff.2 (h.all k (by omega) af)) bd) (by show a<=t.s.size;omega)
  refine a6.mk ((a:Int)-1) (ec rfl (by omega)) ?_;refine⟨⟨a,(a:Int)-1,kw,zD,gD,nD,ZP,gA,nA,L.length,ZO⟩,⟨⟨rfl,by simp only;omega,by simp only;omega,s1,λk b ag=>?_,hold,xV.trans a'.perm,ZR,ZS,ZQ,QN,QM,JB,JA⟩,by simp only;omega⟩,.perm (.cons _ (.swap _ _ _)) .refl,jG,.cons rfl (.nil)⟩;by_cases e:b=a;·rw[e];exact gg k
  ·exact B9 k b (by simp only at ag;omega)
 ·have aU:¬ (low:Int)<=v:=dj e;refine⟨_,_,.sub (M1:=[t.aV T]) (.cons_cons _ (.cons _ (.cons _ .slnil))) .refl,rfl,T,a'.inv,λk b ag=>a'.up k b (by simp only;omega),a'.cE,rfl⟩
def Qv.n{rest:List eJ}{f:eJ}{g:Nat}(h:Qv os rest f g):os.n=rest.length+1:=by have:=h.ok.len;rw[fo _ 5 eJ.cV]at this;simp at this;omega
def be.QP{X:b'}{F:Fr}{C:cG}{o:Oper}{K:eF}(aI:cj X.P X.E){t:Nat}(an:o.op=.call { callee:=.builtin .append,args:=#[s,x],argTypes:=#[t,t] })(ak:∀ d,o.dst=some d->d<X.n)
  {e:Nat} (az:X.E t=some cP) (da:cP.bn=.slice e) (he:X.E e=some aE)
  (os:bb) (aW:os.ok aE.size xs) (aq:bi F s=.val os.val)
 {cs:List Value} (ae:bi F x=.val (.slice (some ⟨b6,0,none⟩) 1 c')) (ay:cs.length=aE.size) (aa:ga cs=true)
  (pre:List aC) (a5:M=⟨b6,.cells cs.toArray e (0,0)⟩::(pre++os.aV e)) (cU:os.n+1<=9223372036854775807) (b9:(os.n+1)*aE.bytes<=140737488355328)
  (k:∀ b5:bb,b5.n=os.n+1->(∀ g,b5.a=some g->I g=none)->b5.ok aE.size (xs++cs)->K (put o.dst (.val b5.val) F) C I (pre++b5.aV e)):be X o F C I M K:=
 .zz aI an ak az da he os aW aq ae ay aa pre [] (by rw[en];exact a5) cU b9 λb5 ab ai aQ=>by rw[en];exact k b5 ab ai aQ
end Go.V
