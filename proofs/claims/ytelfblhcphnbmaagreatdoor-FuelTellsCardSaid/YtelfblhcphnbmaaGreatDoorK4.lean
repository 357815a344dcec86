/- Part 4 of what the proofs of this seat share: the executor, data in memory, walks.
-/
import Derived.Test.YtelfblhcphnbmaaGreatDoorK3
import Derived.Test.YtelfblhcphnbmaaGreatDoorK2
import Derived.Laws.IdiomStrings
import Derived.Lib.SliceRun
set_option linter.all false
set_option maxHeartbeats 4000000
namespace Go.V
open Go
def qy:=@List.perm_middle
def yN:=@Nat.ble_eq_true_of_le
def qz:=@Bool.or_true
def si:=@Bool.true_or
def yO:=@Bool.eq_false_iff
def Hb:=@List.perm_append_comm_assoc
def AQ:=@Nat.add_sub_cancel'
def Hc:=@Int.tdiv_eq_ediv_of_nonneg
def yP:=@List.length_set
def Hd:=@List.length_take_of_le
def DL:=@Nat.lt_of_le_of_lt
def He:=@List.getElem?_of_mem
def Hf:=@List.replicate_succ
def Hg:=@Int.natCast_nonneg
def R1:=@Nat.testBit_eq_decide_div_mod_eq
def Hh:=@Nat.min_le_right
def Hi:=@List.take_append
def Lx:=@List.pairwise_append
def Ly:=@BitVec.toNat_ofNat
def DM:=@decide_true
def Lz:=@List.mem_flatMap
def LA:=@Nat.div_le_self
variable{pl:List (ByteArray×Int)}{bA yQ:List bp}{I I':aN}{M M0:List aC}{vs args xs cs news:List Value}{K:Value->aN->List aC->Prop}{t src dst bZ c' base:Nat}{d:aP}{g:b3}{x y s:Operand}{c9 aF Hj:dH}{ad:Addr}{P:Program}{bP:List Nat}{hi:Int}{L:List (Nat×Nat)}{α R:Type}{os:bn}{deb:List Int}
structure bp.le(a b:bp):Prop where
 z:a.z=true->b.z=true
 s:a.s=true->b.s=true
 f:a.f=true->b.f=true
def bp.le_refl(a:bp):a.le a:=⟨id,id,id⟩
def bp.le.trans{a b c:bp}(h:a.le b)(a1:b.le c):a.le c:=⟨λx=>a1.z (h.z x),λx=>a1.s (h.s x),λx=>a1.f (h.f x)⟩
def bp.le.antisymm{a b:bp}(h:a.le b)(a1:b.le a):a=b:=by
 obtain⟨bN,cG,c6⟩:=a;obtain⟨cg,b2,eQ⟩:=b;have e:∀ {x y:Bool},(x=true->y=true)->(y=true->x=true)->x=y:=fun {x y} h a1=>by cases x<;>cases y<;>simp_all
 have ax:bN=cg:=e h.z a1.z;have az:cG=b2:=e h.s a1.s;have bc:c6=eQ:=e h.f a1.f;subst ax az bc;rfl
def bp.lG(a:bp):gL.le a:=⟨(λh=>by cases h),(λh=>by cases h),(λh=>by cases h)⟩
def within(a b:bp):Bool:=(!a.z||b.z)&&((!a.s||b.s)&&(!a.f||b.f))
def bp.LB{a b:bp}(h:a.le b):a.pA=true->b.pA=true:=by intro ao;simp only[bp.pA,jY]at ao |-;exact ao.imp h.z h.s
inductive et:List bp->List bp->Prop
 |nil:et [] []| cons {a b l m} (h:bp.le a b) (t:et l m):et (a::l) (b::m)
def et.refl:∀ l,et l l
 |[]=>.nil| a::l=>.cons a.le_refl (et.refl l)
def et.trans:∀ {a b c},et a b->et b c->et a c
 |_,_,_,.nil,.nil=>.nil| _,_,_,.cons h t,.cons a1 eB=>.cons (h.trans a1) (t.trans eB)
def et.antisymm:∀ {a b},et a b->et b a->a=b
 |_,_,.nil,_=>rfl| _,_,.cons h t,.cons a1 eB=>by rw[h.antisymm a1,t.antisymm eB]
def et.len:∀ {a b},et a b->a.length=b.length
 |_,_,.nil=>rfl| _,_,.cons h t=>by simp[t.len]
def et.append:∀ {a b c d},et a b->et c d->et (a++c) (b++d)
 |_,_,_,_,.nil,h=>h| _,_,_,_,.cons h t,a1=>.cons h (t.append a1)
def et.getD:∀ {a b},et a b->∀ i,(a.getD i gL).le (b.getD i gL)
 |_,_,.nil,i=>by simp;exact bp.le_refl _
 |_,_,.cons h t,0=>h| _,_,.cons h t,i+1=>by simpa using t.getD i
def et.of:∀ {a b:List bp},a.length=b.length->(∀ i,i<a.length->(a.getD i gL).le (b.getD i gL))->et a b
 |[],[],_,_=>.nil| x::a,y::b,ay,h=>.cons (by simpa using h 0 (by simp)) (et.of (by simpa using ay) λi hi=>by simpa using h (i+1) (by simpa using hi))
def et.map{α:Type}{f g:α->bp}:∀ {l:List α},(∀ x∈l,(f x).le (g x))->et (l.map f) (l.map g)
 |[],_=>.nil| x::l,h=>.cons (h x (.head _)) (et.map λy aG=>h y (.tail _ aG))
def et.head{a b:List bp}(h:et a b):(a.headD gL).le (b.headD gL):=by
 cases h with
 |nil=>exact bp.le_refl _| cons h _=>exact h
def et.lG:∀ l:List bp,et (List.replicate l.length gL) l
 |[]=>.nil| a::l=>.cons a.lG (et.lG l)
def R2:∀ {a b:List bp},et a b->∀ {x y:bp×Bool},x.1.le y.1->(x.2=true->y.2=true)->(a.foldl sg x).1.le (b.foldl sg y).1/\((a.foldl sg x).2=true->(b.foldl sg y).2=true)
 |_,_,.nil,_,_,U,aa=>⟨U,aa⟩
 |_,_,.cons h t,x,y,U,aa=>by
  refine R2 t ⟨?_,?_,?_⟩ ?_;·simp only[sg,bL];exact λg=>⟨U.z g.1,h.z g.2⟩
  ·simp only[sg,jY];exact λg=>g.imp U.s h.s
  ·simp only[sg,jY,bL];exact λg=>g.imp U.f λg=>⟨aa g.1,h.f g.2⟩
  ·simp only[sg,bL];exact λg=>⟨aa g.1,bp.LB h g.2⟩
def R3:∀ {a b:List bp},et a b->∀ {x y:bp},x.le y->(a.foldl AK x).le (b.foldl AK y)
 |_,_,.nil,_,_,U=>U
 |_,_,.cons h t,x,y,U=>by
  refine R3 t ⟨?_,?_,?_⟩;·simp only[AK,jY,bL];exact λg=>g.imp U.z λg=>⟨U.f g.1,h.z g.2⟩
  ·simp only[AK,jY,bL];exact λg=>g.imp U.s λg=>⟨U.f g.1,h.s g.2⟩
  ·simp only[AK,bL];exact λg=>⟨U.f g.1,h.f g.2⟩
def abn(d:aP){a b:bp}(h:a.le b):(G9 d a).le (G9 d b):=by
 unfold G9;cases decide (d.hi=0)with
 |true=>exact bp.le_refl _
 |false=>
  refine⟨?_,h.s,?_⟩;·simp only[a5,jY,bL];exact λg=>g.imp h.z λg=>⟨g.1,h.f g.2⟩
  ·simp only[a5,bL];exact λg=>⟨g.1,h.f g.2⟩
def abo(d:aP){a b:List bp}(h:et a b):(DF d a).le (DF d b):=by
 have bI:=h.head;unfold DF;cases decide (d.k=0)with
 |true=>exact bp.le_refl _| false=>
 cases decide (d.k=1)with
 |true=>exact bp.le_refl _| false=>
 cases decide (d.k=2)with
 |true=>exact bp.le_refl _| false=>
 cases decide (d.k=3)with
 |true=>exact bI| false=>
 cases decide (d.k=4)with
 |true=>have ao:=R2 h (x:=(⟨true,false,false⟩,true)) (y:=(⟨true,false,false⟩,true)) (bp.le_refl _) id;refine⟨ao.1.z,?_,ao.1.f⟩;simp only[ba,a5,RO,DE,bL];exact λg=>⟨ao.1.s g.1,ao.2 g.2⟩
 |false=>
 cases decide (d.k=5)with
 |true=>exact R3 h (bp.le_refl _)| false=>
 cases decide (d.k=6)with
 |true=>exact abn d bI| false=>
 cases decide (d.k=7)with
 |true=>exact⟨bp.LB bI,id,bI.f⟩| false=>
 cases decide (d.k=8)with
 |true=>exact⟨bI.f,id,bp.LB bI⟩| false=>exact bI
def abp{acc DN:List bp}(h:et bA yQ)(aD:et acc DN)(d:aP):et (Ha pl bA acc d) (Ha pl yQ DN d):=by
 unfold Ha;refine(et.map λk _=>aD.getD _).append ?_;cases decide (d.k=3)with
 |true=>exact .cons (h.getD _) .nil| false=>exact .nil
def R4{pl:List (ByteArray×Int)}{bA yQ:List bp}(h:et bA yQ):∀ (ds:List aP) {acc DN:List bp},et acc DN->et (ry pl bA ds acc) (ry pl yQ ds DN)
 |[],_,_,aD=>aD| d::ds,_,_,aD=>R4 h ds (aD.append (.cons (abo d (abp h aD d)) .nil))
def oy(pl:List (ByteArray×Int))(bA:List bp)(d:a'):bp:=(ry pl bA d.t.ns []).getD d.t.root.toNat gL
def DO(h:et bA yQ)(d:a'):(oy pl bA d).le (oy pl yQ d):=(R4 h d.t.ns .nil).getD _
structure AR(ds:List a')(l:List bp):Prop where
 len:l.length=ds.length
 up:∀ i (h:i<ds.length),(l.getD i gL).le (oy (l7 ds) l ds[i])
 least:∀ m:List bp,m.length=ds.length->(∀ i (h:i<ds.length),(oy (l7 ds) m ds[i]).le (m.getD i gL))->et l m
def LC(l:List bp)(i j:Nat)(x:bp)(hi:i<l.length):(l.set i x).getD j gL=if i=j then x else l.getD j gL:=by
 simp only[cQ,mC];by_cases e:i=j
 ·subst e;simp[hi]
 ·rw[dc e,dc e]
def AR.step{ds:List a'}{l:List bp}(h:AR ds l){i:Nat}(hi:i<ds.length):AR ds (l.set i (oy (l7 ds) l ds[i]))/\et l (l.set i (oy (l7 ds) l ds[i])):=by
 have ep:i<l.length:=by rw[h.len];exact hi
 have hle:et l (l.set i (oy (l7 ds) l ds[i])):=et.of (by simp) λj al=>by
  rw[LC _ _ _ _ ep];by_cases e:i=j;·subst e;rw[dv rfl];exact h.up i hi
  ·rw[dc e];exact bp.le_refl _
 refine⟨⟨by simpa using h.len,λj al=>?_,λm hm aA=>?_⟩,hle⟩
 ·rw[LC _ _ _ _ ep];by_cases e:i=j
  ·subst e;rw[dv rfl];exact DO hle _
  ·rw[dc e];exact(h.up j al).trans (DO hle _)
 ·have DP:=h.least m hm aA;refine et.of (by simp[h.len,hm]) λj al=>?_;rw[LC _ _ _ _ ep];by_cases e:i=j
  ·subst e;rw[dv rfl];exact(DO DP _).trans (aA i hi)
  ·rw[dc e];exact DP.getD j
structure vc(ds:List a')(l:List bp):Prop where
 len:l.length=ds.length
 fix:∀ i (h:i<ds.length),l.getD i gL=oy (l7 ds) l ds[i]
 least:∀ m:List bp,m.length=ds.length->(∀ i (h:i<ds.length),(oy (l7 ds) m ds[i]).le (m.getD i gL))->et l m
def abq(pl:List (ByteArray×Int))(ns:List aP):Bool:=ns.all λd=>!decide (d.k=3)||(hg d.t pl).isSome
open Go Go.Proofs
def vb.mono{a:Option Addr}{n:Nat}{ks:List bp}(h:vb I M a n ks)(a9:∀ b o,I b=some o->I' b=some o):vb I' M a n ks:=
 ⟨h.n,λj al=>by
  obtain⟨ad,U,aa⟩:=h.rd j al;exact⟨ad,U,aa.mono a9⟩⟩
def vb.sub{I:aN}{M M':List aC}{a:Option Addr}{n:Nat}{ks:List bp}(h:vb I M a n ks)(a7:∀ x∈M,x∈M'):vb I M' a n ks:=
 ⟨h.n,λj al=>by
  obtain⟨ad,U,aa⟩:=h.rd j al;exact⟨ad,U,aa.sub a7⟩⟩
def cX.aW{a:Addr}{K:List aC->Prop}(pre post:List aC)(cs:Array Value)(T:Nat)(a7:M=pre++⟨a.block,.cells cs T (0,0)⟩::post)(ao:a.spot=none)(af:Nat.ble (a.off+vs.length) cs.size=true)(U:gS vs=true)(cs':List Value)(he:bw cs.toList a.off vs=cs')(k:K (pre++⟨a.block,.cells cs'.toArray T (0,0)⟩::post)):cX M a vs K:=
 ⟨pre,post,cs,T,a7,ao,bB af,U,by rw[he];exact k⟩
def bJ.cJ(t:bJ):bJ:=⟨t.ns.map aP.cJ,none,t.n,0,t.root⟩
def a'.cJ(d:a'):a':=⟨d.name,d.t.cJ⟩
def b3.cJ(g:b3):b3:=⟨g.ds.map a'.cJ,none,g.n,0⟩
def R5:∀ (ds:List aP) (i:Nat) (s:List Bool),gJ i (ds.map aP.cJ) s=gJ i ds s
 |[],i,s=>rfl| d::ds,i,s=>by have h:∀ b0,gJ (i+1) (ds.map aP.cJ) b0=gJ (i+1) ds b0:=λb0=>R5 ds (i+1) b0;rw[dA,gJ,gJ];simp only[h];rfl
def DQ(t:bJ):right t.cJ=right t:=by unfold right bJ.cJ;simp only[R5,ei]
def R6(ns:List aP)(k:Int):e7 (ns.map aP.cJ) k=e7 ns k:=by unfold e7;rw[oq];rfl
def R7(ns:List aP)(kind:Int):∀ ks,jO (ns.map aP.cJ) kind ks=jO ns kind ks
 |[]=>rfl| k::ks=>by rw[jO,jO,R6,R7 ns kind ks]
def R8(ns:List aP):∀ ds:List aP,jP (ns.map aP.cJ) (ds.map aP.cJ)=jP ns ds
 |[]=>rfl| d::ds=>by have h:=R7 ns d.k d.kids;rw[dA,jP,jP,R8 ns ds];show(bif !decide (d.k=4) && !decide (d.k=5)then jP ns ds else bif jO (ns.map aP.cJ) d.k d.kids then jP ns ds else false)=_;rw[h]
def abr(t:bJ):normal t.cJ=normal t:=by unfold normal;rw[DQ];congr 1;exact R8 t.ns t.ns
def R9:∀ (ds:List aP) (i:Nat) (dz:List Int),pk i (ds.map aP.cJ) dz=pk i ds dz
 |[],i,dz=>rfl| d::ds,i,dz=>by rw[dA,pk,pk,R9 ds];rfl
def abt(t:bJ):depth t.cJ=depth t:=by unfold depth;rw[DQ];simp only[bJ.cJ,R9,ei]
def abu(t:bJ):gZ t.cJ=gZ t:=by unfold gZ;rw[DQ,abt];rfl
def R'{α:Type}{z:α}{f g:aP->(Int->α)->α}(h:∀ d q,f d.cJ q=g d q):∀ (ds:List aP) (acc:List α),qg z f (ds.map aP.cJ) acc=qg z g ds acc
 |[],acc=>rfl| d::ds,acc=>by rw[dA,qg,qg,h,R' h ds]
def abv(deb:List Int)(ns:List aP)(k:Int):fu deb (ns.map aP.cJ) k=fu deb ns k:=by unfold fu wC;rw[R' (g:=u0 deb ns) (λd q=>?_)];show jq deb d++(mM (mN d) (λk=>paren (fh d.k (e7 (ns.map aP.cJ) k)) (q k)) false d.kids++iD d)=_;simp only[R6];rfl
def abw(deb:List Int)(t:bJ):hs deb t.cJ=hs deb t:=by unfold hs;rw[DQ];have:fu deb t.cJ.ns t.cJ.root=fu deb t.ns t.root:=abv deb t.ns t.root;rw[this]
def abx(deb:List Int)(d:a'):ky deb d.cJ=ky deb d:=by unfold ky;have:hs deb d.cJ.t=hs deb d.t:=abw deb d.t;rw[this];rfl
def Sa(deb:List Int):∀ (ds:List a') (acc:List UInt8),ht deb (ds.map a'.cJ) acc=ht deb ds acc
 |[],acc=>rfl| d::ds,acc=>by rw[dA,ht,ht,abx,Sa deb ds]
def aby(g:b3):mP g.cJ=mP g:=by unfold mP b3.cJ;rw[oq];congr 1;refine Ar λd _=>?_;show j3 d.t.cJ=j3 d.t;unfold j3;rw[DQ];rfl
def Sb{q:a'->Bool}(h:∀ d,q d.cJ=q d)(ds:List a'):(ds.map a'.cJ).all q=ds.all q:=by rw[List.all_map];congr 1;funext d;exact h d
def abz(deb:List Int)(g:b3):h8 deb g.cJ=h8 deb g:=by unfold h8;rw[aby];have U:(g.cJ.ds.all λd=>gZ d.t)=g.ds.all λd=>gZ d.t:=Sb (λd=>abu d.t) g.ds;have aa:ht deb g.cJ.ds []=ht deb g.ds []:=Sa deb g.ds [];rw[U,aa];rfl
def abA(ds:List a'):nG (ds.map a'.cJ)=nG ds:=Sb (q:=λd=>gI d.name&&normal d.t) (λd=>by
 show(gI d.name&&normal d.t.cJ)=_;rw[abr]) ds
def Sc:∀ (ds:List a') (acc:List (ByteArray×Int)) (i:Nat),lE acc i (ds.map a'.cJ)=lE acc i ds
 |[],acc,i=>rfl| d::ds,acc,i=>by rw[dA,lE,lE];show(bif (hg d.name acc).isSome then none else lE (acc++[(d.name,(i:Int))]) (i+1) (ds.map a'.cJ))=_;rw[Sc ds]
def Sd:∀ (ds:List a') (i:Nat),px i (ds.map a'.cJ)=(px i ds).map λp=>(p.1,p.2.cJ)
 |[],i=>rfl| d::ds,i=>by rw[dA,px,px,Sd ds,gg,oq];show(d.t.ns.map aP.cJ).map (λn=>(i,n))++_=_;rw[oq];rfl
def abB(acc:List (ByteArray×Int))(ds:List a'):qv acc (ds.map a'.cJ)=qv acc ds:=by unfold qv;rw[Sd,List.all_map];rfl
def abC(deb:List Int)(g:b3):ed deb g.cJ=ed deb g:=by unfold ed;rw[abz];have U:nG g.cJ.ds=nG g.ds:=abA g.ds;have aa:lE [] 0 g.cJ.ds=lE [] 0 g.ds:=Sc g.ds [] 0;have ag:∀ acc,qv acc g.cJ.ds=qv acc g.ds:=λacc=>abB acc g.ds;rw[U,aa];simp only[ag];rfl
def Se(pl:List (ByteArray×Int))(bA:List bp):∀ (ds:List aP) (acc:List bp),ry pl bA (ds.map aP.cJ) acc=ry pl bA ds acc
 |[],acc=>rfl| d::ds,acc=>by rw[dA,ry,ry,Se pl bA ds];rfl
def Sf:∀ (ds:List a') (acc:List (ByteArray×Int)) (i:Nat),AP acc i (ds.map a'.cJ)=AP acc i ds
 |[],acc,i=>rfl| d::ds,acc,i=>by rw[dA,AP,AP,Sf ds];rfl
def Sg(ds:List a'):l7 (ds.map a'.cJ)=l7 ds:=Sf ds [] 0
def Sh(pl:List (ByteArray×Int))(bA:List bp)(d:a'):oy pl bA d.cJ=oy pl bA d:=by unfold oy;have:ry pl bA d.cJ.t.ns []=ry pl bA d.t.ns []:=Se pl bA d.t.ns [];rw[this];rfl
def Si(l:List aP):bJ:=⟨l,none,l.length,0,(l.length:Int)-1⟩
structure vd(I:aN)(t:bJ)(l:List aP):Prop where
 ok:t.ok I
 cJ:t.ns.map aP.cJ=l
 root:t.root=(l.length:Int)-1
def vd.mono{t:bJ}{l:List aP}(h:vd I t l)(a9:∀ b o,I b=some o->I' b=some o):vd I' t l:=⟨h.ok.mono a9,h.cJ,h.root⟩
def vd.len{t:bJ}{l:List aP}(h:vd I t l):t.n=l.length:=by rw[<-h.ok.n,<-h.cJ,ei]
def vd.Hk{t:bJ}{l:List aP}(h:vd I t l):t.cJ=Si l:=by unfold bJ.cJ Si;rw[h.cJ,h.root,h.len]
def vd.leaf{t:bJ}(au:t.ok I)(U:t.ns=[d])(aa:t.root=0)(ai:d.cJ=d):vd I t [d]:=⟨au,by rw[U];simp[ai],by rw[aa];rfl⟩
def abD(l:List aP):List aP:=abl l ((l.length:Int)-1)
def yR(d:aP)(G':List (List aP)):List aP:=abm d (G'.map abD)
structure Sj(t:bJ):Prop where
 n:t.n<2500
 ns:∀ bS∈t.ns,Li bS
def se.ok{t:bJ}(h:se I t)(ao:Sj t):t.ok I:=
 ⟨h.aU.sf (by have:=ao.n;omega),λbS cf=>(h.ns bS cf).ok (ao.ns bS cf),h.root⟩
def se.mono{t:bJ}(h:se I t)(a9:∀ b o,I b=some o->I' b=some o):se I' t:=⟨h.aU.mono a9,λbS cf=>(h.ns bS cf).mono a9,h.root⟩
def abE(g:b3)(ee:List bJ)(i:Nat):List bJ:=ee++(g.ds.take i).map a'.t
structure hK(g:b3)(ee:List bJ)(x:Nat×Nat×bn):Prop where
 i:x.2.1<=g.n
 n:x.1<=6000
 ali:5*x.2.1<=x.1
 os:x.2.2.ok 2 ((abE g ee x.2.1).flatMap bJ.cells)
 small:x.1<2500->∀ j (h:j<g.ds.length),j<x.2.1->g.ds[j].name.size<2500
structure wV(L:List bJ)(n0:Nat)(x:Nat×Nat):Prop where
 i:x.2<=L.length
 n:x.1<=6000
 ge:n0<=x.1
 small:x.1<2500->x.2<=x.1/\∀ j (h:j<L.length),j<x.2->Sj L[j]
structure Hl(d:aP):Prop where
 kn:d.kn<400
 t:d.t.size<8020
structure Sk(t:bJ):Prop where
 n:t.n<400
 ns:∀ bS∈t.ns,Hl bS
structure DR(d:a'):Prop where
 name:d.name.size<8020
 t:Sk d.t
structure DS(g:b3):Prop where
 n:g.n<400
 ds:∀ d∈g.ds,DR d
def tD.DT(h:tD I d)(ao:Hl d):d.ok I:=
 ⟨h.k,h.eh,h.s1,h.s2,h.fJ,h.ts,h.lo,h.hi,h.aU.sf (by have:=ao.kn;omega),h.kids⟩
def se.DT{t:bJ}(h:se I t)(ao:Sk t):t.ok I:=
 ⟨h.aU.sf (by have:=ao.n;omega),λbS cf=>(h.ns bS cf).DT (ao.ns bS cf),h.root⟩
def qx.DT(h:qx I g)(ao:DS g):g.ok I:=
 ⟨h.aU.sf (by have:=ao.n;omega),λd ai=>⟨by have:=(ao.ds d ai).name;omega,(h.ds d ai).t.DT (ao.ds d ai).t⟩⟩
structure Sl(g:b3)(x:Nat×Nat):Prop where
 k:x.2<=g.n
 n:x.1<=2000
 small:x.1<400->x.2<=x.1/\∀ i (h:i<g.ds.length),i<x.2->DR g.ds[i]
structure Sm(g:b3)(t:bJ)(k:Nat)(x:Nat×Nat):Prop where
 j:x.2<=t.n
 n:x.1<=2000
 small:x.1<400->t.n<400/\k+1<=x.1/\(∀ i (h:i<g.ds.length),i<k->DR g.ds[i])/\(∀ h:k<g.ds.length,g.ds[k].name.size<8020)/\∀ i (h:i<t.ns.length),i<x.2->Hl t.ns[i]
structure Sn(g:b3)(x:Nat×Nat):Prop where
 k:x.2<=g.n
 n:x.1<=2000
 small:x.1<300->x.2<=x.1/\∀ i (h:i<g.ds.length),i<x.2->DR g.ds[i]
structure abF(g:b3)(t:bJ)(k:Nat)(x:Nat×Nat):Prop where
 j:x.2<=t.n
 n:x.1<=2000
 small:x.1<300->t.n<400/\k+1<=x.1/\(∀ i (h:i<g.ds.length),i<k->DR g.ds[i])/\(∀ h:k<g.ds.length,g.ds[k].name.size<8020)/\∀ i (h:i<t.ns.length),i<x.2->Hl t.ns[i]
set_option maxRecDepth 100000 in
def abG(ar:qx I g)(s:ByteArray) :
  Spec Tryz.prog 18 [g.val,.string s] I [] λv I' M'=>(∃ r,v=.bool r/\(r=false->DS g/\s.size<=30))/\I'=I/\M'=[]:=by
 refine bC [] aS Tryz.func18 rfl rfl rfl ?_;intro B aq;have js:=ar.n;refine cD.inv (ι:=Nat×Nat) (λx=>{ bA:=[(1,.val (.string s)),(2,.ref 2 0),(5,.val (.int .i64 x.1)),(6,.val (.int .i64 x.2))],cl:=[(2,[.slice g.a g.n g.c])],cj:=I }) (λx=>Sn g x/\0<=x.1) (λx=>g.n-x.2) ?_ ?_
 ·exact⟨(0,0),⟨⟨bj _,by simp only;omega,λ_=>⟨bj _,λi _ h=>by simp at h⟩⟩,b6 _⟩,.refl,dr,.cons rfl (.nil)⟩
 rintro⟨m,k⟩⟨⟨ae,hm,LD⟩,c1⟩;simp only at ae hm LD c1;have fin:(m<300->k=g.n)->m<300->DS g:=λU DU=>by obtain⟨s1,s2⟩:=LD DU;have ag:=U DU;refine⟨by omega,λd ai=>?_⟩;obtain⟨y,aG,rfl⟩:=yx ai;exact s2 y aG (by omega)
 refine bo.mk (λag=>aI.mk (λaK=>?_) (λaK=>?_)) (λag=>?_)
 ·have dG:k<g.n:=by simpa using ag
  have re:m<300:=by have bd:((m:Nat):Int)<300:=cr aK;omega
  obtain⟨s1,s2⟩:=LD re;have jj:k<g.ds.length:=by omega
  obtain⟨ad,bR,bh⟩:=ar.aU.row a'.c0 dG jj;have ai:=ar.ds _ (cO jj);have Cq:=ai.name;have gV:=ai.t;have abH:=gV.n;have ve:∀ M,bE I M ((ad.add (k*3)).add 0) 1 [.string g.ds[k].name]:=λM=>(bh M).part (k:=0) (m:=1) (by decide);have nI:∀ M,bE I M ((ad.add (k*3)).add 1) 2 g.ds[k].t.cells:=λM=>(bh M).part (k:=1) (m:=2) (by decide);have Gw:∀ (q:Nat),q<8020->g.ds[k].name.size=q->∀ h:k<g.ds.length,g.ds[k].name.size<8020:=λq aE e h=>by rw[e];exact aE
  generalize fa:g.ds[k].name=db at Cq ve Gw;generalize vf:g.ds[k].t=u at gV abH nI;refine a6.mk ad k bR rfl dG ?_;refine aJ.mk _ (nI _) ?_;refine cL.draw aS rfl rfl rfl ?_;refine aQ.mk ((m+1:Nat):Int) (e4 (by omega) (by omega)) ?_;refine aQ.mk ((m+1+min 300 u.n:Nat):Int) (e4 (by omega) (by omega)) ?_;refine a6.mk ad k bR rfl dG ?_;refine aJ.mk _ (ve _) ?_;refine gE.mk (by decide) ?_;refine aQ.mk ((db.size/20:Nat):Int) (e4 (by rw[Hc (by omega)];omega) (by omega)) ?_;refine aQ.mk ((m+1+min 300 u.n+min 300 (db.size/20):Nat):Int) (e4 (by omega) (by omega)) ?_;refine cD.inv (ι:=Nat×Nat) (λx=>{ bA:=[(1,.val (.string s)),(2,.ref 2 0),(5,.val (.int .i64 x.1)),(6,.val (.int .i64 k)),(7,.ref 7 0),(8,.val (.int .i64 x.2))],cl:=[(2,[.slice g.a g.n g.c]),(7,u.cells)],cj:=I }) (λx=>abF g u k x/\0<=x.1) (λx=>u.n-x.2) ?_ ?_;·exact⟨(_,0),⟨⟨bj _,by simp only;omega,λh=>by simp only at h;exact⟨by omega,by simp only;omega,s2,λh=>Gw db.size (by omega) rfl h,λi _ h=>by simp at h⟩⟩,by simp only;omega⟩,.refl,nb,.cons rfl (.cons rfl (.nil))⟩
  rintro⟨p,q⟩⟨⟨aE,aO,LF⟩,yS⟩;simp only at aE aO yS LF;have out:(p<300->q=u.n)->Sn g (p,k+1):=λU=>by
   refine⟨by simp only;omega,aO,λaa=>?_⟩;simp only at aa;obtain⟨sj,pB,wW,LG,LH⟩:=LF aa;have alj:=U aa;refine⟨pB,λi hi gG=>?_⟩;by_cases e:i=k
   ·subst e;refine⟨LG hi,?_⟩;rw[vf];exact⟨sj,λbS cf=>by
     obtain⟨y,aG,rfl⟩:=yx cf;exact LH y aG (by omega)⟩
   ·exact wW i hi (by simp only at gG;omega)
  refine bo.mk (λbg=>aI.mk (λbD=>?_) (λbD=>?_)) (λbg=>?_)
  ·have fr:q<u.n:=by simpa using bg
   have AS:p<300:=by have bd:((p:Nat):Int)<300:=cr bD;omega
   obtain⟨sj,pB,wW,LG,LH⟩:=LF AS;have jN:q<u.ns.length:=by omega
   obtain⟨lF,wX,So⟩:=gV.aU.row aP.c0 fr jN;have cf:=gV.ns _ (cO jN);have dg:=cf.ts;have qA:∀ M,bE I M ((lF.add (q*9)).add 8) 1 [.slice u.ns[q].kX u.ns[q].kn u.ns[q].j0]:=λM=>(So M).part (k:=8) (m:=1) (by decide);have sd:∀ M,bE I M ((lF.add (q*9)).add 5) 1 [.string u.ns[q].t]:=λM=>(So M).part (k:=5) (m:=1) (by decide);generalize Sp:u.ns[q]=bS at cf dg qA sd;refine cL.draw aS rfl rfl rfl ?_;refine a6.mk lF q wX rfl fr ?_;refine aJ.mk _ (qA _) ?_;refine aQ.mk ((p+min 300 bS.kn:Nat):Int) (e4 (by omega) (by omega)) ?_;refine a6.mk lF q wX rfl fr ?_;refine aJ.mk _ (sd _) ?_;refine gE.mk (by decide) ?_;refine aQ.mk ((bS.t.size/20:Nat):Int) (e4 (by rw[Hc (by omega)];omega) (by omega)) ?_;refine aQ.mk ((p+min 300 bS.kn+min 300 (bS.t.size/20):Nat):Int) (e4 (by omega) (by omega)) ?_;refine aQ.mk _ (bU (i:=q) (by omega)) ?_;refine⟨(_,q+1),⟨⟨⟨by simp only;omega,by simp only;omega,λeg=>?_⟩,by simp only;omega⟩,by simp only;omega⟩,.refl,nb,.cons rfl (.cons rfl (.nil))⟩;simp only at eg |-;refine⟨sj,by omega,wW,LG,λi hi gG=>?_⟩;by_cases e:i=q;·subst e;rw[Sp];exact⟨by omega,by omega⟩
   ·exact LH i hi (by omega)
  ·have AS:300<=p:=by have bd:¬ ((p:Nat):Int)<300:=b' bD;omega
   refine aQ.mk _ (bU (i:=k) (by omega)) ?_;exact⟨(p,k+1),⟨⟨out λh=>by omega,yS⟩,by simp only;omega⟩,.refl,dr,.cons rfl (.nil)⟩
  ·have fr:u.n<=q:=by simpa using bg
   refine aQ.mk _ (bU (i:=k) (by omega)) ?_;exact⟨(p,k+1),⟨⟨out λh=>by omega,yS⟩,by simp only;omega⟩,.refl,dr,.cons rfl (.nil)⟩
 ·have re:300<=m:=by have bd:¬ ((m:Nat):Int)<300:=b' aK;omega
  refine bo.mk (λaR=>?_) (λaR=>?_)
  ·have aR:decide ((300:Int)<=(m:Int))=false:=aR;have l8:m<300:=by have:=b' aR;omega
   refine⟨_,_,.refl,⟨_,rfl,λaV=>?_⟩,rfl,rfl⟩;have aV:decide ((30:Int)<(s.size:Int))=false:=aV;exact⟨fin (λh=>by omega) l8,by have:=b' aV;omega⟩
  ·exact⟨_,_,.refl,⟨true,rfl,λh=>by cases h⟩,rfl,rfl⟩
 ·have K8:g.n<=k:=by simpa using ag
  refine bo.mk (λaR=>?_) (λaR=>?_)
  ·have aR:decide ((300:Int)<=(m:Int))=false:=aR;have l8:m<300:=by have:=b' aR;omega
   refine⟨_,_,.refl,⟨_,rfl,λaV=>?_⟩,rfl,rfl⟩;have aV:decide ((30:Int)<(s.size:Int))=false:=aV;exact⟨fin (λh=>by omega) l8,by have:=b' aV;omega⟩
  ·exact⟨_,_,.refl,⟨true,rfl,λh=>by cases h⟩,rfl,rfl⟩
section
variable{X:cx}{o:Oper}{F:Fr}{C:c7}{I:aN}{M:List aC}{K:fG}
def be.AT(aH:cB X.P X.E){e:Nat}(ap:o.op=.convert src dst x)(ai:∀ d,o.dst=some d->d<X.n)
 (au:X.E src=some c9) (dg:c9.bz=.slice e) (he:X.E e=some aF) (jL:aF.bz=.int .u8) (hE:X.E dst=some Hj) (k2:Hj.bz=.string)
 {n c:Nat} {l:List UInt8} (ab:bm F x=.val (.slice (some ad) n c)) (av:l.length=n) (bh:bE I M ad n (l.map λb=>.int .u8 b.toNat))
  (h:K (put o.dst (.val (.string ⟨l.toArray⟩)) F) C I M):be X o F C I M K:=by
 subst av;refine⟨λa w Q ⟨β,aZ⟩=>?_⟩;obtain⟨ao,cs,T,aj,ae,ah,ay⟩:=bh;have ar:=ae.heap aZ.holds;obtain⟨d,e3,ff⟩:=(aH _ _ au).e1;have U:d=.slice e:=by rw[dg]at ff;cases d<;>simp_all[eW]
 subst U;obtain⟨d2,LI,lC⟩:=(aH _ _ he).e1;have aa:d2=.int .u8:=by rw[jL]at lC;cases d2<;>simp_all[eW]
 subst aa;obtain⟨d3,LJ,yL⟩:=(aH _ _ hE).e1;have ag:d3=.string:=by rw[k2]at yL;cases d3<;>simp_all[eW]
 subst ag;have aA:∀ j (al:j<l.length),w.cell? (ad.add j)=some (.int .u8 (l[j].toNat:Int)):=by
  intro j al;rw[d' ad ao,sX ar];have gm:(l.map λb=>Value.int .u8 b.toNat)[j]?=some (.int .u8 (l[j].toNat:Int)):=by simp[al]
  rw[<-ah,kK,dv al,pX]at gm;simpa using gm
 have ex:=cZ aZ.aj ab;refine vW aZ ai (by rw[ap];simp) ?_ h;unfold execOp;simp only[ap,bM,cy,ex,run_convert_bytes_back w src dst e ad c l e3 LI LJ aA,bx]
def abI{e:Nat}(au:P.underlying t=some (.array 2 e)){k:IntKind}(he:P.underlying e=some (.int k)){inf:TypeInfo}(hi:P.info? e=some inf)(ao:inf.size=1)(dq bN g6 cg:Int)(w:World) :
  (Op.equal t (.agg #[.int k dq,.int k bN]) (.agg #[.int k g6,.int k cg])).run P w=.ok (dq == g6&&bN == cg) w:=by
 have C3:∀ (xs:Array Value) (i:Nat) (v:Value) (w:World),xs[i]?=some v->(part e xs i).run P w=.ok v w:=λxs i v w h=>by
  have xT:(isAgg e).run P w=.ok false w:=by unfold isAgg;simp[run_underlying he]
  unfold part;simp[xT,sizeOf,typeInfo,hi,ao,h]
 have hint:∀ (d:Nat) (x y:Int) (w:World),(Op.equalIn (d+1) e (.int k x) (.int k y)).run P w=.ok (x == y) w:=λd x y w=>by simp[Op.equalIn,run_underlying he]
 have key:∀ m,(∀ (x y:Int) (w:World),(Op.equalIn m e (.int k x) (.int k y)).run P w=.ok (x == y) w)->(Op.equalIn (m+1) t (.agg #[.int k dq,.int k bN]) (.agg #[.int k g6,.int k cg])).run P w=.ok (dq == g6&&bN == cg) w:=λm hint=>by
  rw[Op.equalIn];simp only[bM,run_underlying au,bx,sizeOf,typeInfo,hi,run_program,cy,ao];simp only[J1];have an:List.range' 0 ([:2]:Std.Legacy.Range).size=[0,1]:=by decide
  rw[an];have pa:=λ(i:Nat) (v:Value) (w:World)=>C3 #[.int k dq,.int k bN] i v w;have yi:=λ(i:Nat) (v:Value) (w:World)=>C3 #[.int k g6,.int k cg] i v w;simp only[J6,List.forIn_nil,bM];rw[pa (0*1) (.int k dq) w rfl];simp only[bx,bM];rw[yi (0*1) (.int k g6) w rfl];simp only[bx,bM];rw[hint];simp only[bx];cases(dq == g6);·simp
  simp only[lR,iP,jC,cy,bx,bM];rw[pa (1*1) (.int k bN) w rfl];simp only[bx,bM];rw[yi (1*1) (.int k cg) w rfl];simp only[bx,bM];rw[hint];simp only[bx];cases(bN == cg);·simp
  simp
 exact key 9999 (hint 9998)
def cu.abJ{E:Env}(aH:cB P E){e:Nat}(au:E t=some c9)(dg:c9.bz=.array 2 e)(he:E e=some aF){k:IntKind}(jL:aF.bz=.int k)(ar:P.eqGuardType P.depth t=false){dq bN g6 cg:Int}{V:Value->Prop}{other:Prop}
  (h:V (.bool (dq == g6&&bN == cg))):cu P .eql t x y (.val (.agg #[.int k dq,.int k bN])) (.val (.agg #[.int k g6,.int k cg])) V other:=by
 obtain⟨d,e3,ff⟩:=(aH _ _ au).e1;obtain⟨oo,C4,Kk⟩:=(aH _ _ he).e1;obtain⟨inf,z,hi,eA,_⟩:=(aH _ _ he).inf;have U:d=.array 2 e:=by rw[dg]at ff;cases d<;>simp_all[eW]
 have aa:oo=.int k:=by rw[jL]at Kk;cases oo<;>simp_all[eW]
 subst U;subst aa;have fY:inf.size=1:=by rw[eA];exact(aH _ _ he).FK (by rw[jL];rfl)
 refine .mk _ _ _ rfl rfl (λw=>?_) h;simp only[bM,run_eqGuard_agg (hm:=ar),bx,binOp,abI e3 C4 hi fY,cy]
end
section
variable{X:cx}{F:Fr}{C:c7}{I:aN}{M:List aC}{o:Oper}{K:fG}
def be.abK(aH:cB X.P X.E){e:Nat}(ap:o.op=.convert src dst x)(ai:∀ d,o.dst=some d->d<X.n)
 (au:X.E src=some c9) (dg:c9.bz=.slice e) (he:X.E e=some aF) (jL:aF.bz=.int .u8) (hE:X.E dst=some Hj) (k2:Hj.bz=.string)
  {c:Nat} (ab:bm F x=.val (.slice none 0 c))
  (h:K (put o.dst (.val (.string ⟨#[]⟩)) F) C I M):be X o F C I M K:=by
 refine⟨λa w Q ⟨β,aZ⟩=>?_⟩;obtain⟨d,e3,ff⟩:=(aH _ _ au).e1;have U:d=.slice e:=by rw[dg]at ff;cases d<;>simp_all[eW]
 subst U;obtain⟨d2,LI,lC⟩:=(aH _ _ he).e1;have aa:d2=.int .u8:=by rw[jL]at lC;cases d2<;>simp_all[eW]
 subst aa;obtain⟨d3,LJ,yL⟩:=(aH _ _ hE).e1;have ag:d3=.string:=by rw[k2]at yL;cases d3<;>simp_all[eW]
 subst ag;have ex:=cZ aZ.aj ab;refine vW aZ ai (by rw[ap];simp) ?_ h;unfold execOp;have fb:(convert src dst (.slice none 0 c)).run X.P w=.ok (.string ⟨#[]⟩) w:=by rw[run_convert_bytes_string w src dst e none 0 c e3 LI LJ];rfl
 simp only[ap,bM,cy,ex,fb,bx]
end
def aT.whole{f:Nat}(post:Value->aN->List aC->Prop)(ao:Spec P f args I M post)(k:∀ v I' M',(∀ b o,I b=some o->I' b=some o)->post v I' M'->K v I' M'):aT bP P f args I M K:=
 .mk M [] post (by simp) ao λv I' M' U aa=>by rw[fo];exact k v I' M' U aa
def jc.abL{f:Nat}(post:Value->aN->List aC->Prop)(ao:Spec P f args I M post)(k:∀ v I' M',(∀ b o,I b=some o->I' b=some o)->post v I' M'->K v I' M'):jc true bP P f args I M K:=
 .PG rfl M [] post (by simp) ao λv I' M' U aa=>by rw[fo];exact k v I' M' U aa
section
variable{X:cx}{β:Nat->Nat}{a:Act}{w:World}{F:Fr}{C:c7}{I:aN}{M:List aC}{o:Oper}{K:fG}
def hP.AU{M':List aC}(h:M=M'):hP bP I M I M':=by subst h;exact .refl
def be.hA(h:be X o F C I M λF C I M=>∃ I' M',hP X.bP I M I' M'/\K F C I' M'):be X o F C I M K:=by obtain⟨h⟩:=h;refine⟨λa w Q aZ=>qQ ?_ (h a w Q aZ)⟩;rintro bF w'⟨dI,C',I',M',⟨β,an⟩,dQ,dt,hw,ae⟩;exact⟨dI,C',dQ,dt,⟨β,an.hA hw⟩,ae⟩
def be.wY(aH:cB X.P X.E)(ap:o.op=.call { callee:=.builtin .append,args:=#[s,x],argTypes:=#[t,t] })(ai:∀ d,o.dst=some d->d<X.n)
  {e:Nat} (au:X.E t=some c9) (dg:c9.bz=.slice e) (he:X.E e=some aF)
  (os:bn) (bb:os.ok aF.size xs) (ao:bm F s=.val os.val)
 (ab:bm F x=.val (.slice (some ⟨bZ,0,none⟩) 1 c')) (ay:cs.length=aF.size) (U:gS cs=true)
  (pre post:List aC) (a7:M=⟨bZ,.cells cs.toArray e (0,0)⟩::(pre++(os.aY e++post))) (cg:os.n+1<=9223372036854775807) (b2:(os.n+1)*aF.bytes<=140737488355328)
  (k:∀ dC:bn,dC.n=os.n+1->(∀ g,dC.a=some g->I g=none)->dC.ok aF.size (xs++cs)->K (put o.dst (.val dC.val) F) C I (pre++(dC.aY e++post))):be X o F C I M K:=by
 refine .hA (.wv aH ap ai au dg he os bb ao (m:=1) (news:=cs) ab (by decide) ?_ U (Mr:=⟨bZ,.cells cs.toArray e (0,0)⟩::(pre++post)) ?_ (by unfold maxLen;exact cg) b2 ?_)
 ·rw[nm];refine⟨rfl,_,_,_,.inr ⟨⟨bZ,.cells cs.toArray e (0,0)⟩,by rw[a7];exact .head _,rfl,rfl⟩,?_,ay⟩;simp only[td];exact gv (by omega)
 ·rw[a7];have aa:(⟨bZ,.cells cs.toArray e (0,0)⟩::(pre++(os.aY e++post)):List aC).Perm (⟨bZ,.cells cs.toArray e (0,0)⟩::(os.aY e++(pre++post))):=.cons _ (Hb _ _ _);exact aa.trans qy.symm
 ·intro g c cur a9 eH eI fK gK;refine⟨I,pre++((⟨some g,os.n+1,c,cur⟩:bn).aY e++post),.sub (M1:=⟨g,.cells cur.toArray e (0,0)⟩::(pre++post)) (.cons_cons _ (.cons _ (.refl _))) (.perm ?_ .refl),k ⟨some g,os.n+1,c,cur⟩ rfl (λc2 ar=>by cases ar;exact a9) ⟨?_,(λh=>by cases h),λc2 ar=>?_⟩⟩
  ·exact qy.symm
  ·rw[ck,bb.len,ay,jg,nm]
  ·cases ar;exact⟨eH,eI,fK,gK⟩
def be.abM(aH:cB X.P X.E)(ap:o.op=.call { callee:=.builtin .append,args:=#[s,x],argTypes:=#[t,t] })(ai:∀ d,o.dst=some d->d<X.n)
  {e:Nat} (au:X.E t=some c9) (dg:c9.bz=.slice e) (he:X.E e=some aF)
  (os:bn) (bb:os.ok aF.size xs) (ao:bm F s=.val os.val)
  {sa:Option Addr} {m:Nat} (ab:bm F x=.val (.slice sa m c')) (ay:news.length=m*aF.size) (av:0<m->∃ ad,sa=some ad/\bE I M ad (m*aF.size) news) (U:gS news=true)
  (pre post:List aC) (a7:M=pre++(os.aY e++post)) (cg:os.n+m<=9223372036854775807) (b2:(os.n+m)*aF.bytes<=140737488355328)
  (k:∀ dC:bn,dC.n=os.n+m->(0<m->∀ g,dC.a=some g->I g=none)->dC.ok aF.size (xs++news)->K (put o.dst (.val dC.val) F) C I (pre++(dC.aY e++post))):be X o F C I M K:=by
 by_cases aq:m=0
 ·subst aq;have mz:news=[]:=lV (by simpa using ay);subst mz;refine .Kw aH ap ai au dg au (λk=>by rw[dg];simp) he (sa:=os.a.map λg=>⟨g,0,none⟩) (n:=os.n) (c:=os.c) ao ?_ ab (.inl ⟨_,_,rfl⟩) ?_
  ·cases aD:os.a with
   |none=>obtain⟨eH,eI⟩:=bb.nil aD;omega
   |some g=>exact(bb.cap g aD).2.1
  ·have:=k os rfl (λh=>by omega) (by rw[fo];exact bb);rw[a7];exact this
 obtain⟨ad,rfl,bh⟩:=av (by omega);refine .hA (.wv aH ap ai au dg he os bb ao (m:=m) (news:=news) ab (by omega) bh U (Mr:=pre++post) ?_ (by unfold maxLen;exact cg) b2 ?_)
 ·rw[a7];exact(Hb _ _ _)
 ·intro g c cur a9 eH eI fK gK;refine⟨I,pre++((⟨some g,os.n+m,c,cur⟩:bn).aY e++post),.perm ?_ .refl,k ⟨some g,os.n+m,c,cur⟩ rfl (λ_ c2 ar=>by cases ar;exact a9) ⟨?_,(λh=>by cases h),λc2 ar=>?_⟩⟩
  ·exact qy.symm
  ·rw[ck,bb.len,ay,jg]
  ·cases ar;exact⟨eH,eI,fK,gK⟩
end
def a3(n:Nat):Nat:=min n 1099511627776
def hv(n:Nat):a3 n<=1099511627776:=Hh _ _
def lH(a b:Nat):a3 (a3 a+b)=a3 (a+b):=by unfold a3;omega
def Hm(a b:Nat):a3 (a+a3 b)=a3 (a+b):=by unfold a3;omega
def yT(a b:Nat):a3 (a3 a*b)=a3 (a*b):=by
 by_cases h:a<=1099511627776
 ·have e:a3 a=a:=by unfold a3;omega
  rw[e]
 ·have e:a3 a=1099511627776:=by unfold a3;omega
  rw[e];cases b with
  |zero=>simp| succ b=>have U:1099511627776*1<=1099511627776*(b+1):=Nat.mul_le_mul_left _ (by omega);have aa:a*1<=a*(b+1):=Nat.mul_le_mul_left _ (by omega);generalize 1099511627776*(b+1)=x at U;generalize a*(b+1)=y at aa;unfold a3;omega
def yU(a b:Nat):a3 (a*a3 b)=a3 (a*b):=by rw[yz,yT,yz]
section
variable{I:aN}{M0:List aC}
def nJ(a b:Nat)(aD:a<=9223372036854775807)(af:b<=9223372036854775807):Spec Tryz.prog 47 [.int .i64 a,.int .i64 b,.int .i64 1099511627776] I M0 λv I' M'=>v=.int .i64 (a3 (a+b):Nat)/\I'=I/\M'=M0:=by
 refine bC [] aS Tryz.func47 rfl rfl rfl ?_;intro B aq;refine bo.mk (λU=>?_) (λU=>?_)
 ·have h4:decide ((1099511627776:Int)<(a:Int))=false:=U;have aa:a<=1099511627776:=by have:=b' h4;omega
  refine aQ.mk ((1099511627776-a:Nat):Int) (e4 (by omega) (by omega)) ?_;refine aI.mk (λag=>?_) (λag=>?_);·have l6:((1099511627776-a:Nat):Int)<(b:Int):=cr ag;refine⟨_,_,.refl,?_,rfl,rfl⟩;rw[show a3 (a+b)=1099511627776 by unfold a3;omega];rfl
  ·have l6:¬ ((1099511627776-a:Nat):Int)<(b:Int):=b' ag;refine aQ.mk ((a+b:Nat):Int) (e4 (by omega) (by omega)) ?_;refine⟨_,_,.refl,?_,rfl,rfl⟩;rw[show a3 (a+b)=a+b by unfold a3;omega]
 ·have h4:decide ((1099511627776:Int)<(a:Int))=true:=U;have aa:1099511627776<a:=by have:=cr h4;omega
  refine⟨_,_,.refl,?_,rfl,rfl⟩;rw[show a3 (a+b)=1099511627776 by unfold a3;omega];rfl
def LK(a b:Nat)(aD:a<=9223372036854775807)(af:b<=9223372036854775807):Spec Tryz.prog 46 [.int .i64 a,.int .i64 b,.int .i64 1099511627776] I M0 λv I' M'=>v=.int .i64 (a3 (a*b):Nat)/\I'=I/\M'=M0:=by
 refine bC [] aS Tryz.func46 rfl rfl rfl ?_;intro B aq;refine bo.mk (λU=>?_) (λU=>?_)
 ·have h4:(!decide ((a:Int)=0))=true:=U;have aa:a≠0:=λe=>by rw[e]at h4;cases h4
  refine gE.mk (by omega) ?_;have aE:Int.tdiv 1099511627776 (a:Int)=((1099511627776/a:Nat):Int):=by rw[Hc (by omega)];rfl
  have hle:1099511627776/a<=1099511627776:=LA _ _;have aL:∀ b,1099511627776/a<b->1099511627776<a*b:=λb bg=>by rw[yz];exact(Nat.div_lt_iff_lt_mul (by omega)).1 bg
  have c1:∀ b,b<=1099511627776/a->a*b<=1099511627776:=λb bg=>by rw[yz];exact(Nat.le_div_iff_mul_le (by omega)).1 bg
  generalize 1099511627776/a=q at aE hle aL c1;refine aQ.mk (q:Int) (by rw[aE];exact wrap_i64 ⟨by omega,by omega⟩) ?_;refine aI.mk (λag=>?_) (λag=>?_);·have l6:(q:Int)<(b:Int):=cr ag;have aK:1099511627776<a*b:=aL b (by omega);refine⟨_,_,.refl,?_,rfl,rfl⟩;rw[show a3 (a*b)=1099511627776 by unfold a3;omega];rfl
  ·have l6:¬ (q:Int)<(b:Int):=b' ag;have aK:a*b<=1099511627776:=c1 b (by omega);refine aQ.mk ((a*b:Nat):Int) (e4 (by simp) (by omega)) ?_;refine⟨_,_,.refl,?_,rfl,rfl⟩;rw[show a3 (a*b)=a*b by unfold a3;omega]
 ·have h4:(!decide ((a:Int)=0))=false:=U;have aa:a=0:=by
   cases a with
   |zero=>rfl| succ a=>rw[b8 (by omega)]at h4;cases h4
  subst aa;refine aQ.mk ((0:Nat):Int) (e4 (by simp) (by omega)) ?_;refine⟨_,_,.refl,?_,rfl,rfl⟩;rw[show a3 (0*b)=0 by simp[a3]]
def yV(w b c:Nat):Nat:=a3 (w*(b+1)*(b+4)+c)
def nK(w b c:Int):Int:=bif decide (w<0)||(decide (b<0)||decide (c<0))then 0 else((yV w.toNat b.toNat c.toNat:Nat):Int)
def Sq(w b c:Int)(hw:gj w)(af:gj b)(aA:gj c):Spec Tryz.prog 13 [.int .i64 w,.int .i64 b,.int .i64 c] I M0 λv I' M'=>v=.int .i64 (nK w b c)/\I'=I/\M'=M0:=by
 refine bC [] aS Tryz.func13 rfl rfl rfl ?_;intro B aq;refine bo.mk (λU=>?_) (λU=>?_)
 rotate_left
 ·refine⟨_,_,.refl,?_,rfl,rfl⟩;rw[nK,show decide (w<0)=true from U];rfl
 refine bo.mk (λaa=>?_) (λaa=>?_)
 rotate_left
 ·refine⟨_,_,.refl,?_,rfl,rfl⟩;rw[nK,show decide (b<0)=true from aa,si,qz];rfl
 refine aI.mk (λag=>?_) (λag=>?_)
 ·refine⟨_,_,.refl,?_,rfl,rfl⟩;rw[nK,show decide (c<0)=true from ag,qz,qz];rfl
 have DD:¬ w<0:=b' U;have g6:¬ b<0:=b' aa;have hJ:¬ c<0:=b' ag;have e:nK w b c=((yV w.toNat b.toNat c.toNat:Nat):Int):=by rw[nK,b8 DD,b8 g6,b8 hJ];rfl
 rw[e];obtain⟨w,rfl⟩:∃ n:Nat,w=n:=⟨w.toNat,by omega⟩;obtain⟨b,rfl⟩:∃ n:Nat,b=n:=⟨b.toNat,by omega⟩;obtain⟨c,rfl⟩:∃ n:Nat,c=n:=⟨c.toNat,by omega⟩;obtain⟨-,yW⟩:=hw;obtain⟨-,m8⟩:=af;obtain⟨-,vg⟩:=aA;have s1:=hv (b+1);have s2:=hv (w*a3 (b+1));have fJ:=hv (b+4);have AV:=hv (a3 (w*a3 (b+1))*a3 (b+4));refine aT.whole _ (nJ b 1 (by omega) (by omega)) ?_;rintro v I' M' -⟨rfl,rfl,rfl⟩;refine aT.whole _ (LK w (a3 (b+1)) (by omega) (by omega)) ?_;rintro v I' M' -⟨rfl,rfl,rfl⟩;refine aT.whole _ (nJ b 4 (by omega) (by omega)) ?_;rintro v I' M' -⟨rfl,rfl,rfl⟩;refine aT.whole _ (LK (a3 (w*a3 (b+1))) (a3 (b+4)) (by omega) (by omega)) ?_;rintro v I' M' -⟨rfl,rfl,rfl⟩;refine aT.whole _ (nJ (a3 (a3 (w*a3 (b+1))*a3 (b+4))) c (by omega) (by omega)) ?_;rintro v I' M' -⟨rfl,rfl,rfl⟩;refine⟨_,_,.refl,?_,rfl,rfl⟩;have e:a3 (a3 (a3 (w*a3 (b+1))*a3 (b+4))+c)=yV w b c:=by unfold yV;rw[yU w,yU _ (b+4),yT (w*(b+1)),lH]
 rw[e];rfl
end
def oz(ds:List a'):List (List Value):=ds.flatMap λd=>d.t.ns.map λn=>[n.val]
def abN(d:a')(ds:List a'):oz (d::ds)=d.t.ns.map (λn=>[n.val])++oz ds:=rfl
def Sr(g:b3):Spec Tryz.prog 51 [g.val] I M0 λr I' M'=>∃ b,r=.func (.func 87) #[] #[ptr b]/\I' b=some (.cells #[.slice g.a g.n g.c] 30 (0,0))/\(∀ b o,I b=some o->I' b=some o)/\M'=M0:=by refine bC [1] aS Tryz.func51 rfl rfl rfl ?_;intro B aq;refine cz.mk λg ar wE=>?_;refine⟨_,_,.pZ rfl ?_ .refl,g,rfl,tm ..,ri ar,rfl⟩;intro h;obtain⟨x,ab,e⟩:=du.1 h;exact wE x ab e
def Ss(ar:g.ok I){b:Nat}(af:I b=some (.cells #[.slice g.a g.n g.c] 30 (0,0))) :
  Iter Tryz.prog 87 [ptr b] I (oz g.ds):=by
 intro l R ra to dd M0 nB jh;refine Al [] aS Tryz.func87 rfl rfl rfl ?_;intro B aq;have js:=ar.n;have ny:=ar.aU.cap;have bh:∀ (M:List aC),bE dd M ((⟨b,0,none⟩:Addr).add 0) 1 [.slice g.a g.n g.c]:=λM=>⟨rfl,_,_,_,.inl (nB _ _ af),rfl,rfl⟩;refine aJ.mk _ (bh _) ?_;refine cD.inv (ι:=Nat×Nat×aN×List aC) (λx=>{ bA:=[(0,.val (.func (.yield l) #[] #[])),(8,.val (.slice g.a g.n g.c)),(9,.val (.int .i64 g.n)),(10,.val (.int .i64 x.1))],cj:=x.2.2.1,dx:=x.2.2.2 }) (λx=>x.1<=g.n/\(∀ b o,I b=some o->x.2.2.1 b=some o)/\R x.2.1 x.2.2.1 x.2.2.2/\x.2.1<=(oz g.ds).length/\(oz g.ds).drop x.2.1=oz (g.ds.drop x.1)) (λx=>g.n-x.1) ?_ ?_
 ·exact⟨(0,0,dd,M0),⟨by simp,nB,jh,by simp,rfl⟩,.refl,dr,.nil⟩
 ·rintro⟨i,k,c8,M1⟩⟨hi,cn,h5,dG,fR⟩;simp only at hi cn h5 dG fR;refine aI.mk (λh=>?_) (λh=>?_)
  ·have aL:i<g.n:=by simpa using h
   have bi:i<g.ds.length:=by omega
   have jn:=ar.mono cn;obtain⟨ad,bR,Du⟩:=jn.aU.row a'.c0 aL bi;have er:g.ds[i]∈g.ds:=cO bi;have kz:=(ar.ds _ er).t.n;have aah:=(ar.ds _ er).t.aU.cap;have eR:g.ds.drop i=g.ds[i]::g.ds.drop (i+1):=dS bi;refine a6.mk ad i bR rfl aL ?_;refine aJ.mk _ (Du _) ?_;refine cD.inv (ι:=Nat×Nat×aN×List aC) (λx=>{ bA:=[(0,.val (.func (.yield l) #[] #[])),(8,.val (.slice g.a g.n g.c)),(9,.val (.int .i64 g.n)),(10,.val (.int .i64 i)),(16,.val (.slice g.ds[i].t.a g.ds[i].t.n g.ds[i].t.c)),(17,.val (.int .i64 g.ds[i].t.n)),(18,.val (.int .i64 x.1))],cj:=x.2.2.1,dx:=x.2.2.2 }) (λx=>x.1<=g.ds[i].t.n/\(∀ b o,I b=some o->x.2.2.1 b=some o)/\R x.2.1 x.2.2.1 x.2.2.2/\x.2.1<=(oz g.ds).length/\(oz g.ds).drop x.2.1=(g.ds[i].t.ns.drop x.1).map (λn=>[n.val])++oz (g.ds.drop (i+1))) (λx=>g.ds[i].t.n-x.1) ?_ ?_;·refine⟨(0,k,c8,M1),⟨by simp,cn,h5,dG,?_⟩,.refl,lT,.nil⟩;simp only;rw[fR,eR,abN];rfl
   ·rintro⟨j,k,c8,M1⟩⟨al,cn,h5,dG,fR⟩;simp only at al cn h5 dG fR;refine aI.mk (λh=>?_) (λh=>?_)
    ·have dF:j<g.ds[i].t.n:=by simpa using h
     have gn:j<g.ds[i].t.ns.length:=by omega
     have jn:=ar.mono cn;obtain⟨fi,kA,hb⟩:=(jn.ds _ er).t.aU.row aP.c0 dF gn;have cf:g.ds[i].t.ns.drop j=g.ds[i].t.ns[j]::g.ds[i].t.ns.drop (j+1):=dS gn;rw[cf,dA,p7]at fR;obtain⟨ae,ah,lC⟩:=drop_cons fR;refine a6.mk fi j kA rfl dF ?_;refine aJ.mk _ (hb _) ?_;refine be.yield rfl (by simp) rfl rfl ?_;have aG:=to k ae c8 M1 cn h5;rw[ah]at aG;refine CT.mk M1 [] _ (by simp) aG ?_;rintro v dQ dt jM (⟨rfl,nu⟩ | ⟨rfl,ab⟩);·refine aI.mk (λh=>by simp at h) (λ_=>?_);refine aQ.mk _ (bU (i:=j) (by omega)) ?_;exact⟨(j+1,k+1,dQ,dt),⟨⟨by simp only;omega,λb o h=>jM b o (cn b o h),nu,ae,lC⟩,by simp only;omega⟩,.perm (by simp) .refl,lT,.nil⟩
     ·refine aI.mk (λ_=>?_) (λh=>by simp at h);exact⟨_,_,.perm (by simp) .refl,.inr ab⟩
    ·have c1:g.ds[i].t.n<=j:=by simpa using h
     rw[hc (show g.ds[i].t.ns.length<=j by omega),pi,nj]at fR;refine aQ.mk _ (bU (i:=i) (by omega)) ?_;exact⟨(i+1,k,c8,M1),⟨⟨by simp only;omega,cn,h5,dG,fR⟩,by simp only;omega⟩,.refl,dr,.nil⟩
  ·have c1:g.n<=i:=by simpa using h
   refine⟨_,_,.refl,.inl ?_⟩;rw[hc (show g.ds.length<=i by omega)]at fR;have qn:k=(oz g.ds).length:=by have:=Gl.1 fR;omega
   rw[<-qn];exact h5
section
variable{X:cx}{F:Fr}{C:c7}{I:aN}{M:List aC}{o:Oper}
def s4.abO{K:cW->aN->List aC->Prop}(aH:cB X.P X.E)(ap:o.op=.call { callee:=.builtin .append,args:=#[s,x],argTypes:=#[t,t] })
  {e:Nat} (au:X.E t=some c9) (dg:c9.bz=.slice e) (he:X.E e=some aF)
  (os:bn) (bb:os.ok aF.size xs) (ao:bm F s=.val os.val)
 {m:Nat} (ab:bm F x=.val (.slice (some ad) m c')) (hm:0<m) (av:bE I M ad (m*aF.size) news) (U:gS news=true)
  {Mr:List aC} (a7:M.Perm (os.aY e++Mr)) (cg:os.n+m<=maxLen) (b2:(os.n+m)*aF.bytes<=140737488355328)
  (M':bn->List aC) (LL:∀ dC:bn,(dC.aY e++Mr).Perm (M' dC))
  (k:∀ dC:bn,dC.n=os.n+m->(∀ g,dC.a=some g->I g=none)->dC.ok aF.size (xs++news)->K (.val dC.val) I (M' dC)):s4 X o F C I M K:=by
 refine⟨fun β a w Q jh=>?_⟩;have yX:news.length=m*aF.size:=by obtain⟨_,_,_,_,_,_,h⟩:=av;exact h
 have fO:∀ w,dU I M w->(Builtin.firstCells aF.size m (.slice (some ad) m c')).run X.P w=.ok news.toArray w:=λw hw=>by
  obtain⟨bQ,cs,T,aj,dP,ah,ay⟩:=av;refine run_firstCells_some (P:=X.P) w aF.size m ad m c' news ay λj v al=>?_;rw[d' _ bQ,sX (dP.heap hw)];rw[<-ah,kK]at al;split at al;·rw[pX]at al;simpa using al
  ·cases al
 have aZ:cc X β a w F C I (os.aY e++Mr):=jh.hA (.perm a7 .refl);obtain⟨inf,z,hi,eA,gG,gH,iS⟩:=(aH _ _ he).inf;obtain⟨lZ,nt,hE⟩:=(aH _ _ au).e1;have rW:lZ=.slice e:=by rw[dg]at hE;cases lZ<;>simp_all[eW]
 subst rW;have uS:z.cells.size=inf.size:=by rw[eA,<-(aH _ _ he).len,<-iS];simp
 have Hn:=bb;rw[<-eA]at bb yX fO;obtain⟨g,c,cur,w',fb,aR,aV,bl,fP,om⟩:=Qc (P:=X.P) (w:=w) t t o.type e inf z nt nt (λk a0=>by cases a0) hi gH uS bb (λg ar=>aZ.holds.m ⟨g,.cells os.cur.toArray e (0,0)⟩ (by simp[bn.aY,ar])) (x:=.slice (some ad) m c') hm yX (xU U) (λ_=>rfl) (λw' Kh=>fO w' (jh.holds.heap Kh)) cg (by rw[gG];exact b2);rw[eA]at aR fP yX;have Ki:I g=none:=by
  rcases om with⟨ar,_⟩ | ⟨rfl,_⟩;·exact aZ.holds.d ⟨g,.cells os.cur.toArray e (0,0)⟩ (by simp[bn.aY,ar])
  ·cases a9:I w.heap.size with
   |none=>rfl| some mG=>have:=aZ.holds.i _ _ a9;simp at this
 have es:=cZ aZ.aj ao;have ex:=cZ aZ.aj ab;have abP:(⟨some g,os.n+m,c,cur⟩:bn).ok aF.size (xs++news):=by
  refine⟨?_,(λh=>by cases h),λc2 ar=>?_⟩;·rw[ck,Hn.len,yX,jg]
  ·cases ar;exact⟨aR,aV,bl,fP⟩
 refine hZ (by rw[ap];simp) (v:=.slice (some ⟨g,0,none⟩) (os.n+m) c) (w':=w') ?_ ⟨_,.val (.slice (some ⟨g,0,none⟩) (os.n+m) c),I,M' ⟨some g,os.n+m,c,cur⟩,rfl,rfl,?_,k ⟨some g,os.n+m,c,cur⟩ rfl (λc2 ar=>by cases ar;exact Ki) abP,rfl⟩
 ·unfold execOp;simp only[ap,resolve,invoke,builtin,bM,cy,bx,tc,dA,pi,es,ex,fb]
 ·refine cc.hA ?_ (.perm (LL _) .refl);rcases om with⟨ar,rfl⟩ | ⟨rfl,rfl⟩
  ·have af:os.aY e=[⟨g,.cells os.cur.toArray e (0,0)⟩]:=by simp[bn.aY,ar]
   rw[af]at aZ;exact aZ.vV (pre:=[]) (post:=Mr) rfl
  ·have aa:cc X β a w.drew F C I (os.aY e++Mr):=aZ.world rfl;have ag:=aa.m7 (.cells cur.toArray e (0,0));refine ag.hA (.sub ?_ .refl);exact List.Sublist.cons_cons _ (mA _ _)
def s4.wY{K:cW->aN->List aC->Prop}(aH:cB X.P X.E)(ap:o.op=.call { callee:=.builtin .append,args:=#[s,x],argTypes:=#[t,t] })
  {e:Nat} (au:X.E t=some c9) (dg:c9.bz=.slice e) (he:X.E e=some aF)
  (os:bn) (bb:os.ok aF.size xs) (ao:bm F s=.val os.val)
 (ab:bm F x=.val (.slice (some ⟨bZ,0,none⟩) 1 c')) (ay:cs.length=aF.size) (U:gS cs=true)
  (pre post:List aC) (a7:M=⟨bZ,.cells cs.toArray e (0,0)⟩::(pre++(os.aY e++post))) (cg:os.n+1<=9223372036854775807) (b2:(os.n+1)*aF.bytes<=140737488355328)
  (k:∀ dC:bn,dC.n=os.n+1->(∀ g,dC.a=some g->I g=none)->dC.ok aF.size (xs++cs)->K (.val dC.val) I (⟨bZ,.cells cs.toArray e (0,0)⟩::(pre++(dC.aY e++post)))):s4 X o F C I M K:=by
 have aO:∀ dC:bn,(dC.aY e++(⟨bZ,.cells cs.toArray e (0,0)⟩::(pre++post)):List aC).Perm (⟨bZ,.cells cs.toArray e (0,0)⟩::(pre++(dC.aY e++post))):=λdC=>
  qy.trans (.cons _ (Hb _ _ _))
 refine .abO aH ap au dg he os bb ao (m:=1) (news:=cs) ab (by decide) ?_ U (Mr:=⟨bZ,.cells cs.toArray e (0,0)⟩::(pre++post)) ?_ (by unfold maxLen;exact cg) b2 _ aO k
 ·rw[nm];refine⟨rfl,_,_,_,.inr ⟨⟨bZ,.cells cs.toArray e (0,0)⟩,by rw[a7];exact .head _,rfl,rfl⟩,?_,ay⟩;simp only[td];exact gv (by omega)
 ·rw[a7];exact(aO os).symm
end
structure oA where
 d:aP
 asks:List Nat
structure bG where
 n:Nat
 aW:Nat
 aB:Nat
structure kC where
 bS:Nat
 pl:Nat
 times:Nat
 aW:Nat
 n:Nat
structure oB where
 kn:Nat->Nat->bG
 op:List kC
 used:Nat
structure cq where
 ns:List oA
 s:ByteArray
 base:Nat
def St:aP:=⟨0,0,0,0,0,⟨#[]⟩,0,0,none,0,0,[]⟩
def cq.at_(P:cq)(k:Nat):oA:=P.ns.getD k ⟨St,[]⟩
def k4:bG:=⟨0,0,0⟩
def tG(aW n:Nat):bG:=⟨min n 65537,aW,3⟩
def hW:bG:=⟨0,0,2⟩
def qB(d:aP)(b:Nat):Bool:=([d.eh,d.s1,d.s2,d.fJ].getD (b/64) 0).toNat.testBit (b%64)
def preB(s t:ByteArray)(at_:Nat):Bool:=decide (at_+t.size<=s.size)&&decide (s.extract at_ (at_+t.size)=t)
def abQ(P:cq)(k at_:Nat):Option bG:=
 let d:=(P.at_ k).d
 bif decide (d.k=0)then some (tG at_ 0)else
 bif decide (d.k=1)then(match P.s.data[at_]? with
  |some b=>bif qB d b.toNat then some (tG (at_+1) 0)else some hW| none=>some hW)else
 bif decide (d.k=2)then(bif preB P.s d.t at_ then some (tG (at_+d.t.size) 0)else some hW)else
 bif decide (d.k=6)&&decide (d.hi=0)then some (tG at_ 0)else none
def Ho(P:cq)(f:kC):Nat×Nat:=
 let a:=P.at_ f.bS
 bif decide (a.d.k=4)then(a.asks.getD f.times 0,f.aW)else
 bif decide (a.d.k=5)then(a.asks.getD f.times 0,f.pl)else(a.asks.getD 0 0,f.aW)
def kC.add(f:kC)(c:bG):kC:=⟨f.bS,f.pl,f.times+1,c.aW,min (f.n+c.n) 65537⟩
inductive abR where
 |loop| on (f:kC) (c:bG) (done:Bool)
def abS(P:cq)(f:kC)(c:bG):abR:=
 let a:=P.at_ f.bS
 bif decide (a.d.k<4)then .on f c true else
 bif decide (a.d.k=4)then(bif Nat.beq c.aB 2 then .on f c true else .on (f.add c) (tG c.aW (min (f.n+c.n) 65537)) (decide (f.times+1=a.asks.length)))else
 bif decide (a.d.k=5)then(bif Nat.beq c.aB 3 then .on f c true else .on { f with times:=f.times+1 } c (decide (f.times+1=a.asks.length)))else
 bif decide (a.d.k=6)then
  (bif Nat.beq c.aB 2 then(bif decide ((f.times:Int)<a.d.lo)then .on f c true else .on f (tG f.aW f.n) true)
   else bif decide (a.d.hi=-1)&&decide (c.aW=f.aW)then .loop else .on (f.add c) (tG c.aW (min (f.n+c.n) 65537)) (decide (((f.times+1:Nat):Int)=a.d.hi)))else
 bif decide (a.d.k=7)then(bif Nat.beq c.aB 3 then .on f (tG f.pl 0) true else .on f c true)else
 bif decide (a.d.k=8)then(bif Nat.beq c.aB 2 then .on f (tG f.pl 0) true else .on f hW true)else
 (bif Nat.beq c.aB 3 then .on f (tG c.aW (c.n+1)) true else .on f c true)
inductive LM where
 |begin(k at_:Nat)| hand (c:bG)
inductive Su where
 |err(e:Nat)| ok (c:bG) (S:oB)
inductive DV where
 |stop(e:Su)| more (q:LM) (S:oB)
def tH(kn:Nat->Nat->bG)(k p:Nat)(c:bG):Nat->Nat->bG:=λcd e2=>bif Nat.beq cd k&&Nat.beq e2 p then c else kn cd e2
def Sv(P:cq)(c:bG)(S:oB):DV:=match S.op with
 |[]=>.stop (.err 9)
 |f::rest=>match rest with
  |[]=>.stop (.ok c { S with kn:=tH S.kn f.bS (f.pl-P.base) c,op:=[] })| r::aU=>.more (.hand c) { S with kn:=tH S.kn f.bS (f.pl-P.base) c,op:=r::aU }
def Sw(P:cq)(S:oB):DV:=match S.op with
 |[]=>.stop (.err 9)
 |f::_=>
  let c:=S.kn (Ho P f).1 ((Ho P f).2-P.base)
  bif Nat.beq c.aB 0 then .more (.begin (Ho P f).1 (Ho P f).2) S else
  bif Nat.beq c.aB 1 then .stop (.err 1)else .more (.hand c) S
def Sx(P:cq)(k at_:Nat)(S:oB):oB:=
 ⟨tH S.kn k (at_-P.base) { S.kn k (at_-P.base)with aB:=1 },⟨k,at_,0,at_,0⟩::S.op,S.used+1⟩
def abT(P:cq)(k at_:Nat)(S:oB):DV:=match abQ P k at_ with
 |some c=>Sv P c (Sx P k at_ S)| none=>Sw P (Sx P k at_ S)
def abU(P:cq)(c:bG)(S:oB):DV:=match S.op with
 |[]=>.stop (.err 9)
 |f::rest=>match abS P f c with
  | .loop=>.stop (.err 2)| .on wI c' done=>bif done then Sv P c' ⟨S.kn,wI::rest,S.used+1⟩else Sw P ⟨S.kn,wI::rest,S.used+1⟩
def abV(P:cq):LM->oB->DV
 | .begin k a,S=>abT P k a S| .hand c,S=>abU P c S
def AW(P:cq):Nat->LM->oB->Su
 |0,_,_=>.err 0
 |n+1,q,S=>match abV P q S with
  | .stop e=>e| .more eN jR=>AW P n eN jR
structure LN(P:cq)(a:oA):Prop where
 k:0<=a.d.k/\a.d.k<10
 asks:∀ x∈a.asks,x<P.ns.length
 many:a.d.k=4\/a.d.k=5->0<a.asks.length
 one:a.d.k=3\/6<=a.d.k->a.asks.length=1
 l3:a.d.k=6->0<=a.d.lo/\a.d.lo<=99/\(a.d.hi=-1\/(a.d.lo<=a.d.hi/\a.d.hi<=99))
 len:a.asks.length<=1024
structure LO(P:cq):Prop where
 ns:∀ a∈P.ns,LN P a
 base:P.base<=P.s.size
 size:P.s.size<=4096
structure Sy(P:cq)(pl:Nat)(c:bG):Prop where
 aB:c.aB<=3
 m:c.aB=3->pl<=c.aW/\c.aW<=P.s.size/\c.n<=65537
 f:c.aB≠3->c.n=0/\c.aW=0
def dm(c:bG):Prop:=c.aB=2\/c.aB=3
def yY(kn:Nat->Nat->bG)(base:Nat):List Nat->Nat->List (Nat×Nat)
 |[],_=>[]| k::L,a=>bif Nat.beq (kn k (a-base)).aB 3 then(bif Nat.beq (kn k (a-base)).n 0 then yY kn base L (kn k (a-base)).aW else(k,a)::yY kn base L (kn k (a-base)).aW)else yY kn base L a
def AX(kn:Nat->Nat->bG)(base:Nat):List Nat->Nat->Nat
 |[],a=>a| k::L,a=>bif Nat.beq (kn k (a-base)).aB 3 then AX kn base L (kn k (a-base)).aW else AX kn base L a
def AY(kn:Nat->Nat->bG)(base:Nat):List Nat->Nat->Nat
 |[],_=>0| k::L,a=>bif Nat.beq (kn k (a-base)).aB 3 then(kn k (a-base)).n+AY kn base L (kn k (a-base)).aW else AY kn base L a
def allM(kn:Nat->Nat->bG)(base:Nat):List Nat->Nat->Prop
 |[],_=>True| k::L,a=>(kn k (a-base)).aB=3/\allM kn base L (kn k (a-base)).aW
def AZ(kn:Nat->Nat->bG)(base:Nat):List Nat->Nat->List (Nat×Nat)
 |[],_=>[]| k::L,a=>bif Nat.beq (kn k (a-base)).aB 3 then(bif Nat.beq (kn k (a-base)).n 0 then []else [(k,a)])else AZ kn base L a
def A0(kn:Nat->Nat->bG)(base:Nat):List Nat->Nat->Prop
 |[],_=>False| k::L,a=>(kn k (a-base)).aB=3\/((kn k (a-base)).aB=2/\A0 kn base L a)
inductive pC(kn:Nat->Nat->bG)(base:Nat)(k:Nat)(hi:Int):Nat->Nat->List (Nat×Nat)->Prop
 |stop{t a:Nat}(h:(t:Int)=hi):pC kn base k hi t a []| fail {t a:Nat} (h:(t:Int)≠hi) (aa:(kn k (a-base)).aB=2):pC kn base k hi t a []| more {t a:Nat} {l:List (Nat×Nat)} (af:t<=1000000) (h:(t:Int)≠hi) (aa:(kn k (a-base)).aB=3) (r:pC kn base k hi (t+1) (kn k (a-base)).aW l):pC kn base k hi t a ((bif Nat.beq (kn k (a-base)).n 0 then []else [(k,a)])++l)
def vh(P:cq)(kn:Nat->Nat->bG)(k a:Nat)(l:List (Nat×Nat)):Prop:=
 if(P.at_ k).d.k=6 then pC kn P.base ((P.at_ k).asks.getD 0 0) (P.at_ k).d.hi 0 a l
 else if(P.at_ k).d.k=5 then A0 kn P.base (P.at_ k).asks a/\l=AZ kn P.base (P.at_ k).asks a else allM kn P.base (P.at_ k).asks a/\l=yY kn P.base (P.at_ k).asks a
structure lI where
 name:ByteArray
 lo:Nat
 hi:Nat
def Hp(P:cq)(kn:Nat->Nat->bG)(k a:Nat):List lI:=bif decide ((P.at_ k).d.k=9)then [⟨(P.at_ k).d.t,a,(kn k (a-P.base)).aW⟩]else []
inductive k5(P:cq)(kn:Nat->Nat->bG):Nat->List (Nat×Nat)->List lI->Prop
 |nil:k5 P kn 0 [] []| zero {n k a rest l} (ag:(kn k (a-P.base)).aB=3) (h:(kn k (a-P.base)).n=0) (r:k5 P kn n rest l):k5 P kn (n+1) ((k,a)::rest) l| node {n k a parts rest l} (ag:(kn k (a-P.base)).aB=3) (h:(kn k (a-P.base)).n≠0) (aO:vh P kn k a parts) (r:k5 P kn n (parts++rest) l):k5 P kn (n+1) ((k,a)::rest) (Hp P kn k a++l)
def k5.app{P:cq}{kn:Nat->Nat->bG}{n m:Nat}{a b:List (Nat×Nat)}{l cU:List lI}(h:k5 P kn n a l)(a1:k5 P kn m b cU):k5 P kn (n+m) (a++b) (l++cU):=by
 induction h with
 |nil=>rw[dK];exact a1| @zero n k a rest l ag h r a2=>rw[Nat.add_right_comm];exact .zero ag h a2| @node n k a parts rest l ag h aO r a2=>rw[Nat.add_right_comm,fN];rw[fN]at a2;exact .node ag h aO a2
def wZ(l:List lI)(n:Nat):Prop:=(n<=65536->l.length=n)/\(65537<=n->65537<=l.length)
def wZ.app{l cU:List lI}{n m:Nat}(h:wZ l n)(a1:wZ cU m):wZ (l++cU) (n+m):=by unfold wZ at *;rw[ck];omega
def yZ(kn iF:Nat->Nat->bG):Prop:=∀ k p,dm (kn k p)->iF k p=kn k p
def LP{kn iF:Nat->Nat->bG}(h:yZ kn iF)(base:Nat):∀ (L:List Nat) (a:Nat),allM kn base L a->yY iF base L a=yY kn base L a/\AX iF base L a=AX kn base L a/\AY iF base L a=AY kn base L a/\allM iF base L a
 |[],a,_=>⟨rfl,rfl,rfl,trivial⟩
 |k::L,a,⟨U,aa⟩=>by
  have e:=h k (a-base) (.inr U);obtain⟨i1,i2,i3,i4⟩:=LP h base L _ aa;have af:Nat.beq (kn k (a-base)).aB 3=true:=by rw[U];rfl
  simp only[yY,AX,AY,allM,e,i1,i2,i3,af,ba];exact⟨trivial,trivial,trivial,U,i4⟩
def Sz{kn iF:Nat->Nat->bG}(h:yZ kn iF)(base:Nat):∀ (L:List Nat) (a:Nat),A0 kn base L a->AZ iF base L a=AZ kn base L a/\A0 iF base L a
 |[],a,U=>U.elim| k::L,a,.inl U=>by have e:=h k (a-base) (.inr U);simp only[AZ,A0,e,U];exact⟨rfl,.inl trivial⟩
 |k::L,a,.inr ⟨U,aa⟩=>by have e:=h k (a-base) (.inl U);obtain⟨i1,i2⟩:=Sz h base L a aa;simp only[AZ,A0,e,U,i1];exact⟨trivial,.inr ⟨trivial,i2⟩⟩
def pC.le{kn iF:Nat->Nat->bG}(h:yZ kn iF){k:Nat}{a:Nat}{l:List (Nat×Nat)}(hw:pC kn base k hi t a l):pC iF base k hi t a l:=by
 induction hw with
 |stop U=>exact .stop U| fail U aa=>exact .fail U (by rw[h _ _ (.inl aa)];exact aa)| @more t a l af U aa r a2=>have e:=h k (a-base) (.inr aa);have:=pC.more (kn:=iF) (base:=base) (k:=k) (hi:=hi) (t:=t) (a:=a) (l:=l) af U (by rw[e];exact aa) (by rw[e];exact a2);rwa [e]at this
def vh.le{P:cq}{kn iF:Nat->Nat->bG}(h:yZ kn iF){k a:Nat}{l:List (Nat×Nat)}(aO:vh P kn k a l):vh P iF k a l:=by
 unfold vh at aO |-;by_cases bD:(P.at_ k).d.k=6
 ·rw[dv bD]at aO |-;exact aO.le h
 ·rw[dc bD]at aO |-;by_cases bg:(P.at_ k).d.k=5
  ·rw[dv bg]at aO |-;obtain⟨i1,i2⟩:=Sz h P.base _ _ aO.1;exact⟨i2,by rw[i1];exact aO.2⟩
  ·rw[dc bg]at aO |-;obtain⟨i1,i2,i3,i4⟩:=LP h P.base _ _ aO.1;exact⟨i4,by rw[i1];exact aO.2⟩
def k5.le{P:cq}{kn iF:Nat->Nat->bG}(h:yZ kn iF){n:Nat}{l:List lI}(ar:k5 P kn n L l):k5 P iF n L l:=by
 induction ar with
 |nil=>exact .nil| @zero n k a rest l ag aq r a2=>have e:=h k (a-P.base) (.inr ag);exact .zero (by rw[e];exact ag) (by rw[e];exact aq) a2
 | @node n k a parts rest l ag aq aO r a2=>
  have e:=h k (a-P.base) (.inr ag);have aA:Hp P kn k a=Hp P iF k a:=by unfold Hp;rw[e]
  rw[aA];exact .node (by rw[e];exact ag) (by rw[e];exact aq) (aO.le h) a2
inductive tI:Nat->Nat->List lI->Prop
 |nil{a b}(h:a<=b):tI a b []| app {a b c l cU} (h:tI a b l) (a1:tI b c cU):tI a c (l++cU)| cap {a b l db} (h:tI a b l):tI a b (⟨db,a,b⟩::l)
def tI.le{a b:Nat}{l:List lI}(h:tI a b l):a<=b:=by
 induction h with
 |nil h=>exact h| app _ _ U aa=>exact jB U aa| cap _ h=>exact h
structure LQ(P:cq)(kn:Nat->Nat->bG)(f:kC):Prop where
 w:(kn f.bS (f.pl-P.base)).aB=1
 many:(P.at_ f.bS).d.k=4\/(P.at_ f.bS).d.k=6->∀ L,L=(if(P.at_ f.bS).d.k=4 then(P.at_ f.bS).asks.take f.times else List.replicate f.times ((P.at_ f.bS).asks.getD 0 0)) -> allM kn P.base L f.pl/\f.aW=AX kn P.base L f.pl/\f.n=min (AY kn P.base L f.pl) 65537
 sZ:(P.at_ f.bS).d.k=5->∀ i,i<f.times->(kn ((P.at_ f.bS).asks.getD i 0) (f.pl-P.base)).aB=2
def DW(P:cq)(kn:Nat->Nat->bG):Prop:=∀ k p,(kn k p).aB=3->∃ n l,k5 P kn n [(k,P.base+p)] l/\wZ l (kn k p).n/\tI (P.base+p) (kn k p).aW l
def abW(kn:Nat->Nat->bG)(k p:Nat)(c:bG):tH kn k p c k p=c:=by simp[tH]
def SA{kn:Nat->Nat->bG}{k p cd e2:Nat}{c:bG}(h:¬ (cd=k/\e2=p)):tH kn k p c cd e2=kn cd e2:=by
 unfold tH;have:(Nat.beq cd k&&Nat.beq e2 p)=false:=by rw[yO];intro e;simp only[bL,Nat.beq_eq]at e;exact h e
 rw[this];rfl
def abX{kn:Nat->Nat->bG}{k p:Nat}{c:bG}(h:¬ dm (kn k p)):yZ kn (tH kn k p c):=λcd e2 ai=>by refine SA λe=>?_;rw[e.1,e.2]at ai;exact h ai
def DW.set{P:cq}{kn:Nat->Nat->bG}(h:DW P kn){k p:Nat}{c:bG}(av:¬ dm (kn k p))(aA:c.aB=3->∃ n l,k5 P (tH kn k p c) n [(k,P.base+p)] l/\wZ l c.n/\tI (P.base+p) c.aW l):DW P (tH kn k p c):=λcd e2 ag=>by
 by_cases e:cd=k/\e2=p
 ·obtain⟨rfl,rfl⟩:=e;rw[abW]at ag |-;exact aA ag
 ·rw[SA e]at ag |-;obtain⟨n,l,U,aa⟩:=h cd e2 ag;exact⟨n,l,U.le (abX av),aa⟩
def LQ.le{P:cq}{kn iF:Nat->Nat->bG}(h:yZ kn iF){f:kC}(ao:LQ P kn f)(hw:(iF f.bS (f.pl-P.base)).aB=1):LQ P iF f:=by
 refine⟨hw,λae L b1=>?_,λae i hi=>?_⟩
 ·obtain⟨U,aa,ag⟩:=ao.many ae L b1;obtain⟨i1,i2,i3,i4⟩:=LP h P.base _ _ U;exact⟨i4,by rw[i2];exact aa,by rw[i3];exact ag⟩
 ·have:=ao.sZ ae i hi;rw[h _ _ (.inl this)];exact this
def abY:Nat->Int
 |0=>44| 1=>42| 2=>43| _=>0
def abZ(pre mid post:List Value)(k:Nat)(vs:List Value)(h:k+vs.length<=mid.length):bw (pre++(mid++post)) (pre.length+k) vs=pre++(bw mid k vs++post):=by
 unfold bw;have U:(pre++(mid++post)).take (pre.length+k)=pre++mid.take k:=by rw[Hi,Nat.add_sub_cancel_left,gv (by omega),CN (by omega)]
 have aa:(pre++(mid++post)).drop (pre.length+k+vs.length)=mid.drop (k+vs.length)++post:=by rw[mm,P3,List.drop_append_of_le_length h]
 rw[U,aa];simp
def Hq(f:α->List Value)(size:Nat)(aw:∀ x,(f x).length=size)(l:List α)(i:Nat)(hi:i<l.length)(k:Nat)(vs:List Value)(ae:k+vs.length<=size)(mv:α)(ab:bw (f l[i]) k vs=f mv) :
  bw (l.flatMap f) (i*size+k) vs=(l.set i mv).flatMap f:=by
 have e:l=l.take i++l[i]::l.drop (i+1):=by rw[<-dS hi,uR]
 have ax:l.flatMap f=(l.take i).flatMap f++(f l[i]++(l.drop (i+1)).flatMap f):=by
  calc l.flatMap f=(l.take i++l[i]::l.drop (i+1)).flatMap f:=congrArg _ e
   _=_:=by rw[lr,og]
 have az:((l.take i).flatMap f).length=i*size:=by rw[ji f size aw,Hd (by omega)]
 rw[ax,<-az,abZ _ _ _ _ _ (by rw[aw];exact ae),Gi,dv hi,lr,og,ab]
def ab0{cur:List Value}{j m:Nat}(h:j+vs.length<=m)(hm:m<=cur.length):(bw cur j vs).take m=bw (cur.take m) j vs:=by
 unfold bw;have U:(cur.take m).take j=cur.take j:=by rw[ye,Ce (by omega)]
 have aa:(cur.take m).drop (j+vs.length)=(cur.drop (j+vs.length)).take (m-(j+vs.length)):=by rw[yc]
 have ag:(cur.take j).length=j:=by rw[nh];omega
 rw[U,aa,fN,fN,Hi,ag,gv (by omega),Hi,gv (by omega:vs.length<=m-j)];congr 3;omega
def bn.put(f:α->List Value)(size:Nat)(aw:∀ x,(f x).length=size){l:List α}{e:Nat}(h:os.ok size (l.flatMap f)){i:Nat}(hi:i<l.length)(k:Nat)(ae:k+vs.length<=size)(U:gS vs=true)(mv:α)(ab:bw (f l[i]) k vs=f mv)(pre post:List aC)(a7:M=pre++(os.aY e++post)){g off:Nat}(ar:os.a=some g)(ab1:off=i*size+k){K:List aC->Prop}
  (e9:∀ (dC:bn),dC.val=os.val->dC.a=os.a->dC.n=os.n->dC.ok size ((l.set i mv).flatMap f)->K (pre++(dC.aY e++post))):cX M ⟨g,off,none⟩ vs K:=by
 have FT:=h.len;rw[ji f size aw]at FT;obtain⟨a,n,c,cur⟩:=os;have ay:l.length*size=n*size:=FT;simp only at ar;subst ar;obtain⟨eH,eI,fK,gK⟩:=h.cap g rfl;simp only at eH eI fK gK;have af:n*size<=c*size:=qP _ eI;have gG:i*size+size<=l.length*size:=by have:=qP size (show i+1<=l.length from hi);rwa [jg,nm]at this
 subst a7;subst ab1;refine cX.mk pre post cur.toArray e rfl rfl ?_ U ?_
 ·simp only[oY];omega
 ·have:=e9 ⟨some g,n,c,bw cur (i*size+k) vs⟩ rfl rfl rfl ⟨?_,(λh=>by cases h),λc2 ar=>?_⟩
  ·simpa[bn.aY]using this
  ·rw[ji f size aw,yP];exact ay
  ·cases ar;refine⟨?_,eI,fK,?_⟩
   ·simp only[bw,ck,nh,wh];omega
   ·simp only;rw[ab0 (by omega) (by omega),gK,Hq f size aw l i hi k vs ae mv ab]
def ab2(l:List Value)(k:Nat)(v:Value)(h:k<l.length):bw l k [v]=l.set k v:=by rw[Gi,dv h];simp[bw]
def bG.cells(c:bG):List Value:=[.int .i32 c.n,.int .i16 c.aW,.int .u8 c.aB]
def bG.val(c:bG):Value:=.agg #[.int .i32 c.n,.int .i16 c.aW,.int .u8 c.aB]
def bG.c0(c:bG):c.cells.length=3:=rfl
def kC.cells(f:kC):List Value:=[.int .i32 f.bS,.int .i32 f.pl,.int .i32 f.times,.int .i32 f.aW,.int .i32 f.n]
def kC.c0(f:kC):f.cells.length=5:=rfl
structure oC where
 d:aP
 a:Option Addr
 n:Nat
 c:Nat
 asks:List Nat
def oC.cells(x:oC):List Value:=x.d.cells++[.slice x.a x.n x.c]
def oC.c0(x:oC):x.cells.length=10:=rfl
structure oC.ok(I:aN)(x:oC):Prop where
 d:x.d.ok I
 aU:dW I x.a x.n x.c 1 8 (x.asks.map λ(k:Nat)=>Value.int .i64 (k:Int))
def oC.pn(x:oC):oA:=⟨x.d,x.asks⟩
def oC.ok.mono{x:oC}(h:x.ok I)(a9:∀ b o,I b=some o->I' b=some o):x.ok I':=⟨h.d.mono a9,h.aU.mono a9⟩
structure y0 where
 xs:List oC
 a:Option Addr
 n:Nat
 c:Nat
structure y0.ok(I:aN)(x:y0):Prop where
 aU:dW I x.a x.n x.c 10 0 (x.xs.flatMap oC.cells)
 xs:∀ y∈x.xs,y.ok I
def y0.ok.mono{x:y0}(h:x.ok I)(a9:∀ b o,I b=some o->I' b=some o):x.ok I':=⟨h.aU.mono a9,λy aG=>(h.xs y aG).mono a9⟩
def y0.ok.n{x:y0}(h:x.ok I):x.xs.length=x.n:=by have:=h.aU.len;rw[ji _ 10 oC.c0]at this;omega
structure c4 where
 j4:Nat
 alk:Nat
 s:ByteArray
 base:Nat
 de:Nat
 ns:y0
def c4.w0(m:c4):cq:=⟨m.ns.xs.map oC.pn,m.s,m.base⟩
def c4.w(m:c4):Nat:=m.s.size-m.base+1
structure SB where
 b:Option Nat
 cs:List bG
def SB.val(w:Nat)(r:SB):Value:=match r.b with
 |none=>.slice none 0 0| some b=>.slice (some ⟨b,0,none⟩) w w
def wrap_i32{x:Int}(U:-2147483648<=x)(aa:x<=2147483647):IntKind.i32.wrap x=x:=by unfold IntKind.wrap;simp only[IntKind.bits,IntKind.signed];simp;omega
def bn.at_{f:α->List Value}{size:Nat}(aw:∀ x,(f x).length=size)(aq:0<size){l:List α}{e:Nat}(h:os.ok size (l.flatMap f))(a7:∀ x∈os.aY e,x∈M){g:Nat}(ar:os.a=some g){i:Nat}(hi:i<l.length):bE I M ⟨g,i*size,none⟩ size (f l[i]):=by obtain⟨ad,bR,bh⟩:=bn.ok.row (I:=I) (M:=M) (e:=e) aw aq h a7 hi;rw[ar]at bR;cases bR;rwa [d' _ rfl,dK]at bh
structure SC(os:bn)(rest:List kC)(f:kC)(g:Nat):Prop where
 a:os.a=some g
 ok:os.ok 5 ((rest++[f]).flatMap kC.cells)
section
variable{I:aN}{P:cq}{f:kC}{c:bG}{x:oC}{pn:Addr}{os:bn}{rest:List kC}{g:Nat}
end
def ab3{w:Int}(hw:eF w)(k:Nat):decide (IntKind.u64.wrap ((BitVec.ofInt 64 (w.fdiv (2^k)) &&& BitVec.ofInt 64 1).toNat:Int)=1)=w.toNat.testBit k:=by
 obtain⟨n,rfl⟩:=jf hw.1;have av:n<18446744073709551616:=by have:=hw.2;omega
 have ax:((n:Int)).fdiv (2^k)=((n/2^k:Nat):Int):=by rw[Gj _ (by exact Int.le_of_lt (Int.pow_pos (by decide)))];simp
 rw[ax];have az:(BitVec.ofInt 64 ((n/2^k:Nat):Int) &&& BitVec.ofInt 64 1).toNat=n/2^k%2:=by
  have U:BitVec.ofInt 64 ((n/2^k:Nat):Int)=BitVec.ofNat 64 (n/2^k):=(show ∀ m:Nat,BitVec.ofInt 64 (m:Int)=BitVec.ofNat 64 m from λm=>by simp) _;have aa:BitVec.ofInt 64 1=BitVec.ofNat 64 1:=by decide
  rw[U,aa,Gq,Ly,Ly];have ag:n/2^k%2^64=n/2^k:=Nat.mod_eq_of_lt (DL (LA _ _) av);rw[ag,show 1%2^64=1 by decide,Nat.and_one_is_mod]
 rw[az];have bc:IntKind.u64.wrap ((n/2^k%2:Nat):Int)=((n/2^k%2:Nat):Int):=by have:n/2^k%2<2:=Nat.mod_lt _ (by decide);unfold IntKind.wrap;simp only[IntKind.bits,IntKind.signed];simp;omega
 rw[bc,jA,R1,n5];simp only[ft];omega
def ab4{a b c d:Int}(fz:∀ x∈[a,b,c,d],eF x)(x:UInt8):Spec Tryz.prog 160 [.agg #[.int .u64 a,.int .u64 b,.int .u64 c,.int .u64 d],.int .u8 x.toNat] I M
  λv I' M'=>v=.bool (([a,b,c,d].getD (x.toNat/64) 0).toNat.testBit (x.toNat%64))/\I'=I/\M'=M:=by
 refine bC [] aS Tryz.func160 rfl rfl rfl ?_;intro B aq;have ab:x.toNat<256:=x.toNat_lt;refine gE.mk (by decide) ?_;refine aQ.mk ((x.toNat/64:Nat):Int) (by
  have:((x.toNat:Int)).tdiv 64=((x.toNat/64:Nat):Int):=by simp[Hc]
  rw[this];unfold IntKind.wrap;simp only[IntKind.bits,IntKind.signed];simp;omega) ?_
 have al:x.toNat/64=0\/x.toNat/64=1\/x.toNat/64=2\/x.toNat/64=3:=by omega
 have u':((x.toNat:Int)).tmod 64=((x.toNat%64:Nat):Int):=by rw[Int.tmod_eq_emod_of_nonneg (by omega)];simp
 have yj:min (x.toNat%64) 64=x.toNat%64:=by omega
 have fin:∀ w:Int,eF w->Value.bool (decide (IntKind.u64.wrap ((BitVec.ofInt 64 (w.fdiv (2^(min (x.toNat%64) 64))) &&& BitVec.ofInt 64 1).toNat:Int)=1))=.bool (w.toNat.testBit (x.toNat%64)):=λw hw=>by rw[yj,ab3 hw]
 rcases al with e | e | e | e<;>rw[e]
 ·refine dT.mk 0 rfl (by decide) ?_;refine gE.mk (by decide) ?_;refine vU.mk _ u' ?_;exact⟨_,_,.refl,fin a (fz a (by simp)),rfl,rfl⟩
 ·refine dT.mk 1 rfl (by decide) ?_;refine gE.mk (by decide) ?_;refine vU.mk _ u' ?_;exact⟨_,_,.refl,fin b (fz b (by simp)),rfl,rfl⟩
 ·refine dT.mk 2 rfl (by decide) ?_;refine gE.mk (by decide) ?_;refine vU.mk _ u' ?_;exact⟨_,_,.refl,fin c (fz c (by simp)),rfl,rfl⟩
 ·refine dT.mk 3 rfl (by decide) ?_;refine gE.mk (by decide) ?_;refine vU.mk _ u' ?_;exact⟨_,_,.refl,fin d (fz d (by simp)),rfl,rfl⟩
def A1(s t:ByteArray):Bool:=decide (t.size<=s.size)&&decide (s.extract 0 t.size=t)
def ab5(s t:ByteArray):Spec Tryz.prog 176 [.string s,.string t] I M λv I' M'=>v=.bool (A1 s t)/\I'=I/\M'=M:=by
 refine bC [] aS Tryz.func176 rfl rfl rfl ?_;intro B aq;have ai:decide ((t.size:Int)<=(s.size:Int))=decide (t.size<=s.size):=by rw[n5];simp only[ft];omega
 refine bo.mk (λh=>?_) (λh=>?_)
 ·have a1:(t.size:Int)<=(s.size:Int):=cr h;refine i'.mk 0 t.size rfl rfl (bj _) (by omega) ?_;refine⟨_,_,.refl,?_,rfl,rfl⟩;rw[A1,<-ai,show decide ((t.size:Int)<=(s.size:Int))=true from h,nl]
 ·refine⟨_,_,.refl,?_,rfl,rfl⟩;rw[A1,<-ai,show decide ((t.size:Int)<=(s.size:Int))=false from h,nk]
def ab6(s t:ByteArray):Spec Tryz.prog 161 [.string s,.string t] I M λv I' M'=>v=.bool (A1 s t)/\I'=I/\M'=M:=by refine bC [] aS Tryz.func161 rfl rfl rfl ?_;intro B aq;refine aT.whole _ (ab5 s t) ?_;rintro v I' M' -⟨rfl,rfl,rfl⟩;exact⟨_,_,.refl,rfl,rfl,rfl⟩
def ab7(s t:ByteArray){a:Nat}(aD:a<=s.size):A1 (s.extract a s.size) t=preB s t a:=by
 have U:(s.extract a s.size).size=s.size-a:=by simp[CP]
 unfold A1 preB;rw[U];by_cases h:t.size<=s.size-a
 ·have az:(s.extract a s.size).extract 0 t.size=s.extract a (a+t.size):=by rw[ByteArray.extract_extract];congr 1;omega
  rw[az,fA h,fA (by omega:a+t.size<=s.size)]
 ·rw[b8 h,b8 (by omega:¬ a+t.size<=s.size)];rfl
def SC.n{rest:List kC}{f:kC}{g:Nat}(h:SC os rest f g):os.n=rest.length+1:=by have:=h.ok.len;rw[ji _ 5 kC.c0]at this;simp at this;omega
def SD(db:ByteArray):∀ (ds:List a') (i:Nat),cV db ds i=bif decide (cV db ds 0<0)then -1 else cV db ds 0+i
 |[],i=>rfl
 |d::ds,i=>by
  unfold cV;cases h:decide (d.name=db)with
  |true=>
   have:decide ((((0:Nat):Int))<0)=false:=by decide
   simp[this]
  |false=>
   rw[a5,a5,SD db ds (i+1),SD db ds (0+1)];have an:cV db ds 0<0\/0<=cV db ds 0:=by omega
   rcases an with an | an;·rw[fA an];rfl
   ·have e:decide (cV db ds 0<0)=false:=b8 (by omega);rw[e,a5,a5];have az:decide (cV db ds 0+((0+1:Nat):Int)<0)=false:=b8 (by omega);rw[az,a5];omega
def SE(db:ByteArray)(ao bs:List a'):cV db (ao++bs) 0=bif decide (cV db ao 0<0)then cV db bs ao.length else cV db ao 0:=by
 have key:∀ (ao:List a') (i:Nat),cV db (ao++bs) i=bif decide (cV db ao i<0)then cV db bs (i+ao.length)else cV db ao i:=by
  intro ao
  induction ao with
  |nil=>intro i;simp[cV]
  |cons d ao a2=>
   intro i;rw[p7,cV,cV];cases decide (d.name=db)with
   |true=>have:decide ((i:Int)<0)=false:=b8 (by omega);rw[ba,ba,this,a5]| false=>rw[a5,a5,a2 (i+1),c5];rw[show i+1+ao.length=i+(ao.length+1)from by omega]
 have:=key ao 0;rwa [dK]at this
structure A2(ao:List a')(acc:List (ByteArray×Int)):Prop where
 look:∀ db,(hg db acc).isSome=decide (0<=cV db ao 0)
def SF(db:ByteArray)(p:ByteArray×Int):∀ acc:List (ByteArray×Int),(hg db (acc++[p])).isSome=((hg db acc).isSome||decide (db=p.1))
 |[]=>by
  show(bif decide (db=p.1)then some p.2 else none:Option Int).isSome=_;cases decide (db=p.1)<;>rfl
 |q::acc=>by
  rw[p7,hg,hg];cases decide (db=q.1)with
  |true=>rfl| false=>rw[a5,a5,SF db p acc]
def A2.snoc{ao:List a'}{acc:List (ByteArray×Int)}(h:A2 ao acc)(d:a')(v:Int):A2 (ao++[d]) (acc++[(d.name,v)]):=by
 refine⟨λdb=>?_⟩;rw[SF,h.look,SE];by_cases an:cV db ao 0<0
 ·rw[fA an,ba,b8 (by omega:¬ 0<=cV db ao 0),qS];unfold cV;have:decide (d.name=db)=decide (db=d.name):=decide_eq_decide.2 ⟨Eq.symm,Eq.symm⟩;rw[this];cases decide (db=d.name)with
  |true=>simp| false=>rw[a5];rfl
 ·rw[b8 an,a5,fA (by omega:0<=cV db ao 0),si]
def mR(ds:List a')(i:Nat):Bool:=match ds[i]? with
 |some d=>decide (cV d.name ds 0=i)| none=>true
def ab8(d:a')(bs:List a')(i:Nat):cV d.name (d::bs) i=i:=by rw[cV,fA rfl];rfl
def ab9(bs:List a'):∀ (ao:List a') (acc:List (ByteArray×Int)),A2 ao acc->(∀ i,i<ao.length->mR (ao++bs) i=true) ->
  match lE acc ao.length bs with
  |none=>∃ i,i<(ao++bs).length/\mR (ao++bs) i=false/\∀ k,k<i->mR (ao++bs) k=true| some r=>A2 (ao++bs) r/\∀ i,i<(ao++bs).length->mR (ao++bs) i=true:=by
 induction bs with
 |nil=>intro ao acc h aw;rw[fo]at *;exact⟨h,aw⟩
 |cons d bs a2=>
  intro ao acc h aw;have pq:(ao++d::bs)[ao.length]?=some d:=by simp
  have ll:mR (ao++d::bs) ao.length=!(hg d.name acc).isSome:=by
   unfold mR;rw[pq,h.look];simp only;rw[SE];by_cases an:cV d.name ao 0<0;·rw[fA an,ba,ab8];simp;omega
   ·rw[b8 an,a5];have aL:cV d.name ao 0<ao.length:=by
     have:∀ (ao:List a') (i:Nat),0<=cV d.name ao i->cV d.name ao i<i+ao.length:=by
      intro ao
      induction ao with
      |nil=>intro i h;simp[cV]at h
      |cons e ao aca=>
       intro i h;unfold cV at h |-;cases aA:decide (e.name=d.name)with
       |true=>simp;omega| false=>rw[aA,a5]at h;rw[a5];have:=aca (i+1) h;simp;omega
     have:=this ao 0 (by omega);omega
    have ax:decide (cV d.name ao 0=(ao.length:Int))=false:=b8 (by omega);have az:decide (0<=cV d.name ao 0)=true:=fA (by omega);rw[ax,az];rfl
  rw[lE];cases ay:(hg d.name acc).isSome with
  |true=>rw[ay]at ll;exact⟨ao.length,by simp,ll,aw⟩
  |false=>
   rw[ay]at ll;have:=a2 (ao++[d]) (acc++[(d.name,(ao.length:Int))]) (h.snoc d _) (λi hi=>by
    rw[fN];simp at hi;rcases Nat.lt_or_eq_of_le (Nat.lt_succ_iff.1 (by omega:i<ao.length+1))with U | U;·exact aw i U
    ·rw[U];exact ll)
   rw[ck,fN]at this;exact this
def acb:A2 [] []:=⟨λdb=>by simp[hg,cV]⟩
def nL(ds:List a')(n:aP):Bool:=!decide (n.k=3)||decide (0<=cV n.t ds 0)
def SG(p:aP->Bool):∀ (ds:List a') (i:Nat),((px i ds).all λx=>p x.2)=ds.all λd=>d.t.ns.all p
 |[],i=>rfl| d::ds,i=>by rw[px,Dh,qR,SG p ds (i+1),List.all_map];rfl
def vi(deb:List Int)(g:b3):Int:=
 bif decide ((g.n:Int)=0)then 4 else bif !nG g.ds then 4 else bif h8 deb g then 40 else
 bif !(List.range g.ds.length).all (mR g.ds)then 6 else bif g.ds.all λd=>d.t.ns.all (nL g.ds)then 0 else 41
def SH(deb:List Int)(g:b3):vi deb g=ed deb g:=by
 unfold vi ed;have h:=ab9 g.ds [] [] acb (λi hi=>by simp at hi);simp only[eY,nj]at h;cases ai:lE [] 0 g.ds with
 |none=>
  rw[ai]at h;obtain⟨i,U,aa,_⟩:=h;have:(List.range g.ds.length).all (mR g.ds)=false:=by rw[yO];intro eP;rw[gq]at eP;have:=eP i (kk.2 U);rw[aa]at this;cases this
  rw[this];rfl
 |some acc=>
  rw[ai]at h;obtain⟨U,aa⟩:=h;have ag:(List.range g.ds.length).all (mR g.ds)=true:=by rw[gq];intro i hi;exact aa i (kk.1 hi)
  rw[ag];have aK:(g.ds.all λd=>d.t.ns.all (nL g.ds))=qv acc g.ds:=by unfold qv;rw[SG];congr 1;funext d;congr 1;funext n;unfold wO nL;rw[U.look]
  rw[aK];rfl
def tJ(ns:List aP):List Int:=ns.flatMap (·.kids)
def vj(l:List Int):Prop:=l.Pairwise (·≠·)
def A3(s:List Bool)(l:List Int):Prop:=∀ j,s.getD j false=true ↔ ((j:Int)∈l/\j<s.length)
def SI{i:Nat}:∀ {ks seen:List Int} {s:List Bool},i<=s.length->A3 s seen->vj seen -> ((∃ b0,iz i ks s=some b0) ↔ ((∀ k∈ks,0<=k/\k<i)/\vj (seen++ks)))/\∀ b0,iz i ks s=some b0->b0.length=s.length/\A3 b0 (seen++ks)
 |[],seen,s,hi,hm,ai=>by refine⟨⟨λ_=>⟨λk ae=>by(cases ae),by simpa using ai⟩,λ_=>⟨s,rfl⟩⟩,λb0 h=>?_⟩;simp only[iz,ki]at h;subst h;exact⟨rfl,by simpa using hm⟩
 |k::ks,seen,s,hi,hm,ai=>by
  unfold iz;cases af:decide (k<0)||(decide ((i:Int)<=k)||s.getD k.toNat false)with
  |true=>
   refine⟨⟨λ⟨b0,h⟩=>(by cases h),λ⟨U,aa⟩=>?_⟩,λb0 h=>by cases h⟩;exfalso;have ag:=U k (.head _);simp only[jY,ft]at af;rcases af with af | af | af;·omega
   ·omega
   ·have:=(hm _).1 af;rw[yb ag.1]at this;exact(Lx.1 aa).2.2 k this.1 k (.head _) rfl
  |false=>
   simp only[lq,mB]at af;obtain⟨cg,b2,eQ⟩:=af;have ae:k.toNat<s.length:=by omega
   have mQ:k ∉ seen:=λh=>by have:=(hm k.toNat).2 ⟨by rw[yb (by omega)];exact h,ae⟩;rw[eQ]at this;cases this
   have p5:A3 (s.set k.toNat true) (seen++[k]):=λj=>by
    have:=hm j;simp only[cQ,mC,yP,en,kh]at this |-;by_cases e:k.toNat=j;·subst e;rw[dv rfl,dv ae];simp only[iZ,true_iff];exact⟨.inr (by omega),ae⟩
    ·rw[dc e,this];constructor
     ·rintro⟨U,aa⟩;exact⟨.inl U,aa⟩
     ·rintro⟨U | U,aa⟩
      ·exact⟨U,aa⟩
      ·omega
   have gi:vj (seen++[k]):=Lx.2 ⟨ai,by simp,λa aD b af e=>by
    simp only[kh]at af;subst af;subst e;exact mQ aD⟩
   have a2:=SI (i:=i) (ks:=ks) (seen:=seen++[k]) (s:=s.set k.toNat true) (by simpa using hi) p5 gi;simp only[a5];rw[fN,List.singleton_append]at a2;refine⟨a2.1.trans ⟨λ⟨U,aa⟩=>⟨λx ab=>?_,aa⟩,λ⟨U,aa⟩=>⟨λx ab=>U x (.tail _ ab),aa⟩⟩,λb0 h=>?_⟩
   ·rcases dE.1 ab with rfl | ab
    ·omega
    ·exact U x ab
   ·have:=a2.2 b0 h;simpa using this
def SJ:∀ {ds:List aP} {i:Nat} {seen:List Int} {s:List Bool},i+ds.length<=s.length->A3 s seen->vj seen -> ((∃ b0,gJ i ds s=some b0) ↔ ((∀ j (h:j<ds.length),fits ds[j] ds[j].kids.length=true/\∀ k∈ds[j].kids,0<=k/\k<i+j)/\vj (seen++tJ ds)))/\∀ b0,gJ i ds s=some b0->b0.length=s.length/\A3 b0 (seen++tJ ds)
 |[],i,seen,s,hi,hm,ai=>by refine⟨⟨λ_=>⟨λj al=>by simp at al,by simpa[tJ]using ai⟩,λ_=>⟨s,rfl⟩⟩,λb0 h=>?_⟩;simp only[gJ,ki]at h;subst h;exact⟨rfl,by simpa[tJ]using hm⟩
 |d::ds,i,seen,s,hi,hm,ai=>by
  unfold gJ;have ae:=SI (i:=i) (ks:=d.kids) (by simp at hi;omega) hm ai;have eP:tJ (d::ds)=d.kids++tJ ds:=rfl;cases aw:fits d d.kids.length with
  |false=>refine⟨⟨λ⟨b0,h⟩=>(by cases h),λ⟨U,aa⟩=>?_⟩,λb0 h=>by cases h⟩;have:=(U 0 (by simp)).1;simp only[x']at this;rw[aw]at this;cases this
  |true=>
   simp only[ba];cases aE:iz i d.kids s with
   |none=>
    refine⟨⟨λ⟨b0,h⟩=>(by cases h),λ⟨U,aa⟩=>?_⟩,λb0 h=>by cases h⟩;exfalso;have:∃ b0,iz i d.kids s=some b0:=ae.1.2 ⟨λk ae=>by
     have:=(U 0 (by simp)).2 k ae;omega,by
     rw[eP,<-fN]at aa;exact(Lx.1 aa).1⟩
    obtain⟨b0,h⟩:=this;rw[aE]at h;cases h
   |some s1=>
    obtain⟨w1,c3⟩:=ae.2 s1 aE;obtain⟨ve,d1⟩:=ae.1.1 ⟨s1,aE⟩;have a2:=SJ (ds:=ds) (i:=i+1) (seen:=seen++d.kids) (s:=s1) (by simp at hi;omega) c3 d1;rw[fN,<-eP]at a2;simp only;refine⟨a2.1.trans ⟨λ⟨U,aa⟩=>⟨λj al=>?_,aa⟩,λ⟨U,aa⟩=>⟨λj al=>?_,aa⟩⟩,λb0 h=>?_⟩
    ·cases j with
     |zero=>exact⟨aw,λk ae=>by have:=ve k ae;omega⟩| succ j=>have:=U j (by simpa using al);refine⟨this.1,λk ae=>?_⟩;have:=this.2 k ae;omega
    ·have:=U (j+1) (by simpa using al);refine⟨this.1,λk ae=>?_⟩;have:=this.2 k ae;omega
    ·have:=a2.2 b0 h;exact⟨this.1.trans w1,this.2⟩
def acd(n:Nat):A3 (List.replicate n false) []:=λj=>by
 by_cases h:j<n<;>simp[cQ,List.getElem?_replicate,h]
structure y1(t:bJ):Prop where
 root:0<=t.root/\t.root<t.ns.length
 fits:∀ j (h:j<t.ns.length),fits t.ns[j] t.ns[j].kids.length=true
 kids:∀ j (h:j<t.ns.length),∀ k∈t.ns[j].kids,0<=k/\k<j
 diff:vj (tJ t.ns)
 all:∀ j:Nat,j<t.ns.length->((j:Int)∈tJ t.ns ↔ (j:Int)≠t.root)
def ace{t:bJ}:right t=true ↔ y1 t:=by
 have h:=SJ (ds:=t.ns) (i:=0) (seen:=[]) (s:=List.replicate t.ns.length false) (by simp) (acd _) (by simp[vj]);simp only[nj,dK,Gk]at h;unfold right;constructor
 ·intro an;simp only[bL,ft]at an;obtain⟨ve,nI,qA⟩:=an;split at qA
  ·rename_i s ao;obtain⟨eH,eI⟩:=h.1.1 ⟨s,ao⟩;obtain⟨c3,m2⟩:=h.2 s ao;refine⟨⟨ve,nI⟩,λj al=>(eH j al).1,λj al k ae=>(by have:=(eH j al).2 k ae;omega),eI,λj al=>?_⟩;have af:(s.getD j false == decide (((0+j:Nat):Int)=t.root))=false:=by
    cases af:(s.getD j false == decide (((0+j:Nat):Int)=t.root))with
    |false=>rfl| true=>have:=Lt (by omega) af;rw[this]at qA;cases qA
   rw[dK]at af;have hm:=m2 j;constructor;·intro ab e;have:=hm.2 ⟨ab,by omega⟩;rw[this,fA e]at af;cases af
   ·intro bk;rw[b8 bk]at af;have:s.getD j false=true:=by
     revert af;cases s.getD j false<;>simp
    exact(hm.1 this).1
  ·cases qA
 ·intro an;obtain⟨s,ao⟩:=h.1.2 ⟨λj al=>⟨an.fits j al,λk ae=>by have:=an.kids j al k ae;omega⟩,an.diff⟩;obtain⟨c3,m2⟩:=h.2 s ao;rw[ao];simp only[bL,ft];refine⟨an.root.1,an.root.2,Lu λj al=>?_⟩;rw[dK];have aD:=an.all j (by omega);have hm:=m2 j;by_cases e:(j:Int)=t.root
  ·have aw:s.getD j false=false:=by
    cases af:s.getD j false with
    |false=>rfl| true=>exact absurd e (aD.1 (hm.1 af).1)
   rw[aw,fA e];rfl
  ·have:=hm.2 ⟨aD.2 e,by omega⟩;rw[this,b8 e];rfl
def y1.node{t:bJ}(an:y1 t){j:Nat}(al:j<t.ns.length){k:Int}(ae:k∈(nodeAt t.ns j).kids):0<=k/\k<j:=by rw[r7 al]at ae;exact an.kids j al k ae
section
variable{t:bJ}(an:y1 t)
include an
def Hr(ns:List aP)(l:List Int):Prop:=∀ i (h:i<l.length),∀ k∈(nodeAt ns (l[i]).toNat).kids,k∈l.take i
omit an in
def Hr.append{ns:List aP}{l m:List Int}(h:Hr ns l)(a1:Hr ns m):Hr ns (l++m):=by
 intro i hi k ae;by_cases ay:i<l.length
 ·rw[List.getElem_append_left ay]at ae;rw[CN (by omega)];exact h i ay k ae
 ·rw[List.getElem_append_right (by omega)]at ae;have:=a1 (i-l.length) (by simp at hi;omega) k ae;rw[Hi,gv (by omega)];exact en.2 (.inr this)
end
def oD:Nat->List a'->List (Nat×aP)
 |_,[]=>[]| b,d::ds=>d.t.ns.map (λn=>(b,n))++oD (b+d.t.ns.length) ds
def gM:Nat->List a'->List Nat
 |_,[]=>[]| b,d::ds=>(b+d.t.root.toNat)::gM (b+d.t.ns.length) ds
def cw(ds:List a'):Nat:=(ds.map λd=>d.t.ns.length).sum
def k6(ds:List a')(b:Nat)(n:aP):List Nat:=bif decide (n.k=3)then [(gM 0 ds).getD (cV n.t ds 0).toNat 0]else n.kids.map λk=>b+k.toNat
def oE(ds:List a'):List oA:=(oD 0 ds).map λp=>⟨p.2,k6 ds p.1 p.2⟩
def vk(g:b3)(s:ByteArray)(at_:Nat):cq:=⟨oE g.ds,s,at_⟩
def Hs:∀ (b:Nat) (ds:List a'),(oD b ds).length=cw ds
 |b,[]=>rfl| b,d::ds=>by have:=Hs (b+d.t.ns.length) ds;simp only[oD,cw,ck,ei,dA,oh]at this |-;omega
def y2:∀ (b:Nat) (ds:List a'),(gM b ds).length=ds.length
 |b,[]=>rfl| b,d::ds=>by simp only[gM,c5,y2 _ ds]
def Ht:∀ (b:Nat) (ds:List a'),(∀ d∈ds,0<=d.t.root/\d.t.root<d.t.ns.length)->∀ x∈gM b ds,x<b+cw ds
 |b,[],_,x,ab=>by cases ab
 |b,d::ds,h,x,ab=>by
  have ai:=h d (.head _);have e:cw (d::ds)=d.t.ns.length+cw ds:=by simp[cw]
  rcases dE.1 ab with rfl | ab;·omega
  ·have:=Ht (b+d.t.ns.length) ds (λd ai=>h d (.tail _ ai)) x ab;omega
def SK:∀ (b:Nat) (ds:List a') (p:Nat×aP),p∈oD b ds->∃ d∈ds,p.2∈d.t.ns/\p.1+d.t.ns.length<=b+cw ds
 |b,[],p,h=>by cases h
 |b,d::ds,p,h=>by
  have e:cw (d::ds)=d.t.ns.length+cw ds:=by simp[cw]
  rcases en.1 h with h | h;·obtain⟨n,av,rfl⟩:=du.1 h;exact⟨d,.head _,av,by show b+d.t.ns.length<=_;omega⟩
  ·obtain⟨rz,U,aa,ag⟩:=SK _ ds p h;exact⟨rz,.tail _ U,aa,by omega⟩
def Hu:∀ (n:Nat) (l:List Int),vj l->(∀ k∈l,0<=k/\k<n)->l.length<=n
 |0,[],_,_=>b6 _| 0,k::l,_,h=>by have:=h k (.head _);omega
 |n+1,l,ai,h=>by
  have U:=Hu n (l.filter λk=>decide (k≠(n:Int))) (ai.filter _) λk ae=>by have aa:=vT.1 ae;have ag:=cr aa.2;have aK:=h k aa.1;omega
  have aa:∀ l:List Int,vj l->l.length<=(l.filter λk=>decide (k≠(n:Int))).length+1:=by
   intro l
   induction l with
   |nil=>intro _;simp
   |cons a l a2=>
    intro ai;obtain⟨d1,d2⟩:=List.pairwise_cons.1 ai;by_cases e:a=(n:Int);·have:l.filter (λk=>decide (k≠(n:Int)))=l:=List.filter_eq_self.2 λk ae=>fA λaz=>d1 k ae (e.trans az.symm);rw[List.filter_cons_of_neg (by simp[e]),this,c5];exact b6 _
    ·have:=a2 d2;rw[List.filter_cons_of_pos (by simp[e]),c5,c5];omega
  have:=aa l ai;omega
def Hv{db:ByteArray}:∀ (ds:List a') (i:Nat),0<=cV db ds i->cV db ds i<((i+ds.length:Nat):Int)
 |[],i,h=>by simp[cV]at h
 |d::ds,i,h=>by
  unfold cV at h |-;cases aA:decide (d.name=db)with
  |true=>simp only[ba,c5];omega| false=>rw[aA,a5]at h;have:=Hv ds (i+1) h;simp only[a5,c5];omega
structure lJ(g:b3):Prop where
 n:g.n≠0
 r:∀ d∈g.ds,y1 d.t
 find:∀ d∈g.ds,∀ n∈d.t.ns,n.k=3->0<=cV n.t g.ds 0
 DX:cw g.ds<=1024
 SL:g.n<=64
def y3(h:ed deb g=0)(av:∀ d∈g.ds,d.t.ns.length=d.t.n):lJ g:=by
 rw[<-SH]at h;unfold vi at h;cases U:decide ((g.n:Int)=0)with
 |true=>rw[U]at h;cases h
 |false=>
  rw[U,a5]at h;cases aa:nG g.ds with
  |false=>rw[aa]at h;cases h
  |true=>
   rw[aa,lR,a5]at h;cases ag:h8 deb g with
   |true=>rw[ag]at h;cases h
   |false=>
    rw[ag,a5]at h;cases aK:!(List.range g.ds.length).all (mR g.ds)with
    |true=>rw[aK]at h;cases h
    |false=>
     rw[aK,a5]at h;cases bg:g.ds.all λd=>d.t.ns.all (nL g.ds)with
     |false=>rw[bg]at h;cases h
     |true=>
      have an:∀ d∈g.ds,right d.t=true:=λd ai=>by have:=gq.1 aa d ai;simp only[normal,bL]at this;exact this.2.1
      refine⟨λe=>by have:=b' U;omega,λd ai=>ace.1 (an d ai),λd ai n av ag=>?_,?_,?_⟩;·have:=gq.1 (gq.1 bg d ai) n av;simp only[nL,ag,DM,lR,qS,ft]at this;exact this
      ·have e:cw g.ds=mP g:=by unfold cw mP;congr 1;refine Ar λd ai=>?_;rw[j3,an d ai,ba];exact av d ai
       unfold h8 at ag;simp only[lq,mB]at ag;omega
      ·unfold h8 at ag;simp only[lq,mB]at ag;omega
def acf(aq:0<=d.k){n:Nat}(h:fits d n=true):d.k<10/\(d.k=4\/d.k=5->2<=n)/\(6<=d.k->n=1)/\(d.k=6->0<=d.lo/\d.lo<=99/\(d.hi=-1\/(d.lo<=d.hi/\d.hi<=99)))/\(d.k=9->gI d.t=true)/\(d.k=2->d.t.size<=255):=by
 unfold fits at h;cases U:decide (10<=d.k)with
 |true=>rw[U]at h;cases h
 |false=>
  have rc:d.k<10:=by have:=b' U;omega
  rw[U,a5]at h;cases aa:decide ((n:Int)<qd d.k.toNat)||(decide (0<=mH d.k.toNat)&&decide (mH d.k.toNat<(n:Int)))with
  |true=>rw[aa]at h;cases h
  |false=>
   rw[aa,a5]at h;simp only[lq,yv,mB]at aa;refine⟨rc,λae=>?_,λae=>?_,λae=>?_,λae=>?_,λae=>?_⟩
   ·have:qd d.k.toNat=2:=by rcases ae with e | e<;>rw[e]<;>rfl
    omega
   ·have jt:d.k=6\/d.k=7\/d.k=8\/d.k=9:=by omega
    have ax:qd d.k.toNat=1:=by rcases jt with e | e | e | e<;>rw[e]<;>rfl
    have az:mH d.k.toNat=1:=by rcases jt with e | e | e | e<;>rw[e]<;>rfl
    omega
   ·rw[ae]at h;have a1:((!(decide (d.lo<0)||(decide (99<d.lo)||(decide (d.hi≠-1)&&(decide (d.hi<d.lo)||decide (99<d.hi))))))&&(d.nw&&decide (d.t=⟨#[]⟩)))=true:=h;simp only[bL,n4,lq,yv,mB,Decidable.not_not]at a1;omega
   ·rw[ae]at h;have a1:(gI d.t&&(d.nw&&(decide (d.lo=0)&&decide (d.hi=0))))=true:=h;simp only[bL]at a1;exact a1.1
   ·rw[ae]at h;have a1:((!(decide (d.t=⟨#[]⟩)||decide (255<d.t.size)))&&(d.nw&&(decide (d.lo=0)&&decide (d.hi=0))))=true:=h;simp only[bL,n4,lq,mB]at a1;omega
def Hw:∀ {ns:List aP} {n:aP},n∈ns->n.kids.Sublist (tJ ns)
 |d::ns,n,h=>by
  unfold tJ;rw[og];rcases dE.1 h with rfl | h;·exact List.sublist_append_left _ _
  ·exact(Hw h).trans (mA _ _)
def acg(hm:lJ g)(fQ:∀ d∈g.ds,∀ n∈d.t.ns,0<=n.k){s:ByteArray}{at_:Nat}{a:oA}(aD:a∈oE g.ds):LN (vk g s at_) a:=by
 have hlen:(vk g s at_).ns.length=cw g.ds:=by simp[vk,oE,Hs]
 obtain⟨p,aO,rfl⟩:=du.1 aD;obtain⟨d,ai,av,af⟩:=SK _ _ _ aO;have an:=hm.r d ai;obtain⟨j,al,e⟩:=yx av;have aw:=an.fits j al;rw[e]at aw;obtain⟨f1,f2,f3,f4,-,-⟩:=acf (fQ d ai _ av) aw;have jk:=an.kids j al;rw[e]at jk;have dG:p.2.kids.length<=j:=Hu j _ (an.diff.sublist (Hw av)) jk;have vl:=hm.DX;by_cases ag:p.2.k=3
 ·have rA:k6 g.ds p.1 p.2=[(gM 0 g.ds).getD (cV p.2.t g.ds 0).toNat 0]:=by rw[k6,fA ag,ba]
  have aE:=hm.find d ai _ av ag;have DY:=Hv g.ds 0 aE;have fr:(cV p.2.t g.ds 0).toNat<(gM 0 g.ds).length:=by rw[y2];omega
  refine⟨⟨fQ d ai _ av,f1⟩,λx ab=>?_,λh=>?_,λ_=>by simp only[rA];rfl,λh=>?_,by simp only[rA];exact bB rfl⟩;·simp only[rA,kh]at ab;rw[hlen,ab,cQ,gu fr,iZ];have:=Ht 0 g.ds (λd ai=>(hm.r d ai).root) _ (cO fr);omega
  ·have a1:p.2.k=4\/p.2.k=5:=h;omega
  ·have a1:p.2.k=6:=h;omega
 ·have rA:k6 g.ds p.1 p.2=p.2.kids.map λk=>p.1+k.toNat:=by rw[k6,b8 ag,a5]
  refine⟨⟨fQ d ai _ av,f1⟩,λx ab=>?_,λh=>?_,λh=>?_,λh=>f4 h,?_⟩;·simp only[rA]at ab;obtain⟨k,ae,rfl⟩:=du.1 ab;have:=jk k ae;rw[hlen];omega
  ·have:=f2 h;simp only[rA,ei];omega
  ·have a1:p.2.k=3\/6<=p.2.k:=h;have:=f3 (by omega);simp only[rA,ei];exact this
  ·simp only[rA,ei];have:d.t.ns.length<=cw g.ds:=by omega
   omega
def LR(hm:lJ g)(fQ:∀ d∈g.ds,∀ n∈d.t.ns,0<=n.k){s:ByteArray}{at_:Nat}(U:at_<=s.size)(aa:s.size<=4096):LO (vk g s at_):=
 ⟨λa aD=>acg hm fQ aD,U,aa⟩
def oF(g:b3)(eZ:Nat):Nat:=(gM 0 g.ds).getD eZ 0
def ju:oB:=⟨λ_ _=>k4,[],0⟩
def pC.y4{kn:Nat->Nat->bG}{k:Nat}{a:Nat}{l cU:List (Nat×Nat)}(h:pC kn base k hi t a l)(a1:pC kn base k hi t a cU):l=cU:=by
 induction h generalizing cU with
 |stop U=>
  cases a1 with
  |stop=>rfl| fail aa=>exact absurd U aa| more _ aa=>exact absurd U aa
 |fail U aa=>
  cases a1 with
  |stop ag=>exact absurd ag U| fail=>rfl| more _ ag aK=>rw[aa]at aK;cases aK
 |more _ U aa r a2=>
  cases a1 with
  |stop ag=>exact absurd ag U| fail ag aK=>rw[aa]at aK;cases aK| more _ ag aK pb=>rw[a2 pb]
def vh.y4{P:cq}{kn:Nat->Nat->bG}{k a:Nat}{l cU:List (Nat×Nat)}(h:vh P kn k a l)(a1:vh P kn k a cU):l=cU:=by
 unfold vh at h a1;by_cases bD:(P.at_ k).d.k=6
 ·rw[dv bD]at h a1;exact h.y4 a1
 ·rw[dc bD]at h a1;by_cases bg:(P.at_ k).d.k=5
  ·rw[dv bg]at h a1;exact h.2.trans a1.2.symm
  ·rw[dc bg]at h a1;exact h.2.trans a1.2.symm
def k5.y4{P:cq}{kn:Nat->Nat->bG}{n m:Nat}{l cU:List lI}(h:k5 P kn n L l)(a1:k5 P kn m L cU):l=cU:=by
 induction h generalizing m cU with
 |nil=>cases a1;rfl
 |zero ag aq r a2=>
  cases a1 with
  |zero l6 kr pb=>exact a2 pb| node l6 kr=>exact absurd aq kr
 |node ag aq aO r a2=>
  cases a1 with
  |zero l6 kr=>exact absurd kr aq| node l6 kr G0 pb=>cases aO.y4 G0;rw[a2 pb]
structure Hx where
 ok:Bool
 aW:Nat
 ach:List lI
inductive SM where
 |err(e:Int)| ok (o:Hx) (used:Nat)
inductive w2(P:cq)(root at_ de:Nat):SM->Prop
 |err{e:Nat}(h:AW P de (.begin root at_) ju=.err e):w2 P root at_ de (.err (abY e))| fail {c:bG} {S:oB} (h:AW P de (.begin root at_) ju=.ok c S) (aa:c.aB=2):w2 P root at_ de (.ok ⟨false,0,[]⟩ S.used)| many {c:bG} {S:oB} (h:AW P de (.begin root at_) ju=.ok c S) (ag:c.aB=3) (av:65536<c.n):w2 P root at_ de (.err 40)| Hy {c:bG} {S:oB} (h:AW P de (.begin root at_) ju=.ok c S) (ag:c.aB=3) (av:c.n<=65536) (aw:de<S.used+c.n):w2 P root at_ de (.err 44)| ok {c:bG} {S:oB} {n:Nat} {l:List lI} (h:AW P de (.begin root at_) ju=.ok c S) (ag:c.aB=3) (av:c.n<=65536) (aw:S.used+c.n<=de) (ar:k5 P S.kn n [(root,at_)] l) (ay:l.length=c.n):w2 P root at_ de (.ok ⟨true,c.aW,l⟩ (S.used+c.n))
def w2.y4{P:cq}{root at_ de:Nat}{r pb:SM}(h:w2 P root at_ de r)(a1:w2 P root at_ de pb):r=pb:=by
 cases h with
 |err U=>
  cases a1 with
  |err aa=>rw[U]at aa;cases aa;rfl| _ aa=>rw[U]at aa;cases aa
 |fail U cG=>
  cases a1 with
  |err aa=>rw[U]at aa;cases aa| fail aa=>rw[U]at aa;cases aa;rfl| _ aa eQ=>rw[U]at aa;cases aa;rw[cG]at eQ;cases eQ
 |many U c6 fi=>
  cases a1 with
  |err aa=>rw[U]at aa;cases aa| fail aa b2=>rw[U]at aa;cases aa;rw[c6]at b2;cases b2| many=>rfl| Hy aa eQ nM=>rw[U]at aa;cases aa;omega| ok aa eQ nM=>rw[U]at aa;cases aa;omega
 |Hy U c6 fi LS=>
  cases a1 with
  |err aa=>rw[U]at aa;cases aa| fail aa b2=>rw[U]at aa;cases aa;rw[c6]at b2;cases b2| many aa eQ nM=>rw[U]at aa;cases aa;omega| Hy=>rfl| ok aa eQ nM Hz=>rw[U]at aa;cases aa;omega
 |ok U c6 fi LS aci hX=>
  cases a1 with
  |err aa=>rw[U]at aa;cases aa| fail aa b2=>rw[U]at aa;cases aa;rw[c6]at b2;cases b2| many aa eQ nM=>rw[U]at aa;cases aa;omega| Hy aa eQ nM Hz=>rw[U]at aa;cases aa;omega| ok aa eQ nM Hz acj A4=>rw[U]at aa;cases aa;rw[aci.y4 acj]
def LU{ds:List a'}{i:Nat}(hi:i<ds.length):cw (ds.take (i+1))=cw (ds.take i)+ds[i].t.ns.length:=by unfold cw;rw[g9 hi,gg,yy];simp
def LV(ds:List a')(i:Nat):cw (ds.take i)<=cw ds:=by
 conv=>rhs;rw[<-uR i ds]
 unfold cw;rw[gg,yy];omega
def HA:∀ (b:Nat) (ds:List a') (i:Nat) (hi:i<ds.length) (cT:i<(gM b ds).length),(gM b ds)[i]=b+cw (ds.take i)+ds[i].t.root.toNat
 |b,d::ds,0,_,_=>by simp[gM,cw]
 |b,d::ds,i+1,hi,cT=>by have:=HA (b+d.t.ns.length) ds i (by simpa using hi) (by simpa[gM]using cT);simp only[gM,CO,this,oe];simp[cw];omega
def w3{G F:Fr}{r:cW}(h:cR G y=cR F y)(a1:bm F y=r):bm G y=r:=by simp only[bm,dh,h];exact a1
def SN{n:Int}(h:fits d n=true)(aq:0<=d.k):d.t.size<=255:=by
 unfold fits at h;have z:(⟨#[]⟩:ByteArray).size=0:=rfl;cases U:decide (10<=d.k)with
 |true=>rw[U]at h;cases h
 |false=>
  rw[U,a5]at h;cases aa:decide (n<qd d.k.toNat)||(decide (0<=mH d.k.toNat)&&decide (mH d.k.toNat<n))with
  |true=>rw[aa]at h;cases h
  |false=>
   rw[aa,a5]at h;cases ag:decide (d.k=1)with
   |true=>rw[ag,ba]at h;simp only[bL,ft]at h;rw[h.1,z];omega
   |false=>
    rw[ag,a5]at h;cases aK:decide (d.k=2)with
    |true=>rw[aK,ba]at h;simp only[bL,n4,lq,mB]at h;omega
    |false=>
     rw[aK,a5]at h;cases bg:decide (d.k=3)||decide (d.k=9)with
     |true=>rw[bg,ba]at h;simp only[gI,bL,ft]at h;omega
     |false=>
      rw[bg,a5]at h;cases bD:decide (d.k=6)with
      |true=>rw[bD,ba]at h;simp only[bL,ft]at h;rw[h.2.2,z];omega| false=>rw[bD,a5]at h;simp only[bL,ft]at h;rw[h.2.1,z];omega
def ack{b T:Nat}{l:List Nat}(h:I b=some (.cells (l.map λ(k:Nat)=>Value.int .i64 (k:Int)).toArray T (0,0)))(ay:l.length<=1048576){n:Nat}(av:l.length=n):dW I (some ⟨b,0,none⟩) n n 1 8 (l.map λ(k:Nat)=>Value.int .i64 (k:Int)):=by subst av;refine⟨by simp,⟨b6 _,by omega⟩,.inr ⟨_,rfl,rfl,_,T,(0,0),h,?_⟩⟩;simp only[td];exact gv (by simp)
def dR(ds:List a'):List aP:=ds.flatMap λd=>d.t.ns
def w4(ds:List a'):oz ds=(dR ds).map λn=>[n.val]:=by unfold oz dR;rw[List.map_flatMap]
def eS(n:aP):Nat:=1+(bif decide (n.k=2)then n.t.size else bif decide (n.k=6)then(n.lo+max n.hi 0).toNat else 0)
def iG(B:Nat)(n:aP):Nat:=(bif decide (n.k=3)then 1 else bif decide (n.k=6)then B+2+n.hi.toNat else n.kn)+1
def dn(f:aP->Nat)(l:List aP):Nat:=(l.map f).sum
def HB{f:aP->Nat}{l:List aP}{k:Nat}(ae:k<l.length):dn f (l.take (k+1))=dn f (l.take k)+f l[k]:=by unfold dn;rw[g9 ae,gg,yy];simp
structure HC(n:aP):Prop where
 lo:n.k=6->0<=n.lo/\n.lo<=99/\-1<=n.hi/\n.hi<=99
 kn:n.kn<=1024
 t:n.t.size<=255
def DZ(b:Nat)(n:Nat):aC:=⟨b,.cells #[.int .i64 ((n:Nat):Int)] 3 (0,0)⟩
def tK{b n:Nat}(h:DZ b n∈M):bE I M ⟨b,0,none⟩ 1 [.int .i64 ((n:Nat):Int)]:=
 ⟨rfl,_,_,_,.inr ⟨_,h,rfl,rfl⟩,rfl,rfl⟩
def SO(ar:g.ok I)(av:∀ n∈dR g.ds,HC n):Spec Tryz.prog 50 [g.val] I [] λv I' M'=>v=.int .i64 ((a3 (dn eS (dR g.ds)):Nat):Int)/\(∀ b o,I b=some o->I' b=some o)/\M'=[]:=by
 refine bC [3] aS Tryz.func50 rfl rfl rfl ?_;intro B aq;refine cz.mk λeQ alm aln=>?_;refine cX.mk [] [] _ _ rfl rfl (bB rfl) rfl ?_;refine aT.whole _ (Sr (M0:=[DZ eQ 0]) g) ?_;rintro v c8 M1 -⟨ca,rfl,yJ,cn,rfl⟩;have jn:=ar.mono cn;refine cL.range aS rfl rfl rfl .refl (Ss jn yJ) (λvs h=>?_) (λk I' M'=>(∀ b o,c8 b=some o->I' b=some o)/\M'=[DZ eQ (a3 (dn eS ((dR g.ds).take k)))]) (λex I' M'=>False) ⟨λ_ _ h=>h,rfl⟩ ?_ ?_ (λex I' M' _ h=>h.elim)
 ·rw[w4]at h;obtain⟨p,_,rfl⟩:=du.1 h;rfl
 ·rintro k ae I' M' -⟨iB,rfl⟩l B aq kr;have dG:k<(dR g.ds).length:=by simpa[w4]using ae
  have kD:=av _ (cO dG);have mS:=HB (f:=eS) dG;have ah:(oz g.ds)[k]=[(dR g.ds)[k].val]:=by simp only[w4,jJ]
  rw[ah];generalize(dR g.ds)[k]=d at kD mS;generalize dn eS ((dR g.ds).take k)=S at mS;have s1:=hv S;have s2:=hv (a3 S+1);have au:=kD.t;refine aJ.mk _ (tK (.head _)) ?_;refine aT.whole _ (nJ (a3 S) 1 (by omega) (by omega)) ?_;rintro v dQ dt -⟨rfl,rfl,rfl⟩;refine cX.mk [] [] _ _ rfl rfl (bB rfl) rfl ?_;refine aI.mk (λaa=>?_) (λaa=>?_)
  ·have h3:decide (d.k=2)=true:=aa;have hw:eS d=1+d.t.size:=by rw[eS,h3,ba]
   refine aJ.mk _ (tK (n:=a3 (a3 S+1)) (.head _)) ?_;refine aT.whole _ (nJ (a3 (a3 S+1)) d.t.size (by omega) (by omega)) ?_;rintro v dQ dt -⟨rfl,rfl,rfl⟩;refine cX.mk [] [] _ _ rfl rfl (bB rfl) rfl ?_;refine⟨_,_,.refl,iB,?_⟩;have e:a3 (a3 (a3 S+1)+d.t.size)=a3 (dn eS ((dR g.ds).take (k+1))):=by rw[mS,hw,lH S 1,lH,mm]
   rw[<-e];rfl
  ·have h3:decide (d.k=2)=false:=aa;refine aI.mk (λbD=>?_) (λbD=>?_)
   ·have vm:decide (d.k=6)=true:=bD;obtain⟨q6,w1,aq,U⟩:=kD.lo (cr vm);have hw:eS d=1+(d.lo+max d.hi 0).toNat:=by rw[eS,h3,a5,vm,ba]
    obtain⟨q,aE⟩:∃ q:Nat,d.lo+max d.hi 0=q:=⟨(d.lo+max d.hi 0).toNat,by omega⟩;rw[aE]at hw;refine aJ.mk _ (tK (n:=a3 (a3 S+1)) (.head _)) ?_;refine aQ.mk (q:Int) (e4 aE (by omega)) ?_;refine aT.whole _ (nJ (a3 (a3 S+1)) q (by omega) (by omega)) ?_;rintro v dQ dt -⟨rfl,rfl,rfl⟩;refine cX.mk [] [] _ _ rfl rfl (bB rfl) rfl ?_;refine⟨_,_,.refl,iB,?_⟩;have e:a3 (a3 (a3 S+1)+q)=a3 (dn eS ((dR g.ds).take (k+1))):=by rw[mS,hw,lH S 1,lH,mm,jA]
    rw[<-e];rfl
   ·have vm:decide (d.k=6)=false:=bD;have hw:eS d=1:=by rw[eS,h3,a5,vm,a5]
    refine⟨_,_,.refl,iB,?_⟩;have e:a3 (a3 S+1)=a3 (dn eS ((dR g.ds).take (k+1))):=by rw[mS,hw,lH]
    rw[<-e];rfl
 ·rintro I' M' -⟨iB,rfl⟩;refine aJ.mk _ (tK (.head _)) ?_;refine⟨_,_,.sub (dJ _) .refl,?_,λb o h=>iB _ _ (cn _ _ h),rfl⟩;rw[gv (by simp[w4])];rfl
def SP:∀ {l:List Nat} {x:Nat},x∈l->x<=l.sum
 |y::l,x,h=>by
  rw[oh];rcases dE.1 h with e | h;·omega
  ·have:=SP h;omega
def lJ.D1(ar:g.ok I)(hm:lJ g):∀ n∈dR g.ds,HC n:=λn av=>by
 obtain⟨d,ai,cf⟩:=Lz.1 av;have an:=hm.r d ai;have ap:=(ar.ds d ai).t.ns _ cf;obtain⟨j,al,e⟩:=yx cf;have aw:=an.fits j al;have jk:=an.kids j al;rw[e]at aw jk;have vl:=hm.DX;have dG:n.kids.length<=j:=Hu j _ (an.diff.sublist (Hw cf)) jk;have hlen:d.t.ns.length<=cw g.ds:=by have ab:d.t.ns.length∈g.ds.map λd=>d.t.ns.length:=du.2 ⟨d,ai,rfl⟩;exact SP ab
 refine⟨λbD=>?_,?_,SN aw ap.k.1⟩
 ·have h:=aw;unfold fits at h;rw[bD]at h;have ax:decide ((10:Int)<=6)=false:=rfl;rw[ax,a5]at h;cases aa:decide ((n.kids.length:Int)<qd (6:Int).toNat)||(decide (0<=mH (6:Int).toNat)&&decide (mH (6:Int).toNat<(n.kids.length:Int)))with
  |true=>rw[aa]at h;cases h| false=>rw[aa,a5,show decide ((6:Int)=1)=false from rfl,a5,show decide ((6:Int)=2)=false from rfl,a5,show(decide ((6:Int)=3)||decide ((6:Int)=9))=false from rfl,a5,show decide ((6:Int)=6)=true from rfl,ba]at h;simp only[bL,n4,lq,mB,yv]at h;obtain⟨⟨eH,eI,fK⟩,-⟩:=h;omega
 ·have:=ap.aU.len;simp at this;omega
def acm(br:hG I deb)(ar:g.ok I):Spec Tryz.prog 15 [g.val] I [] λv I' M'=>(∀ b o,I b=some o->I' b=some o)/\M'=[]/\v=.tuple #[.int .i64 (bif decide (ed deb g=0)then((a3 (dn eS (dR g.ds)):Nat):Int)else 0),.int .i64 (ed deb g)]:=by
 refine bC [] aS Tryz.func15 rfl rfl rfl ?_;intro B aq;refine aT.whole _ (K6 br ar) ?_;rintro v acn N -⟨rfl,vn,rfl⟩;refine aI.mk (λh=>?_) (λh=>?_)
 ·have a1:(!decide (ed deb g=0))=true:=h;have e:decide (ed deb g=0)=false:=by simpa using a1
  refine⟨_,_,.refl,vn,rfl,?_⟩;rw[e];rfl
 ·have a1:(!decide (ed deb g=0))=false:=h;have e:ed deb g=0:=by simpa using a1
  have D2:∀ d∈g.ds,d.t.ns.length=d.t.n:=λd ai=>(ar.ds d ai).t.n;have hm:=y3 e D2;refine aT.whole _ (SO (ar.mono vn) (hm.D1 ar)) ?_;rintro v aco N -⟨rfl,HD,rfl⟩;refine⟨_,_,.refl,λb o h=>HD _ _ (vn _ _ h),rfl,?_⟩;rw[e];rfl
def acp(a b:Nat){x:Int}(ab:x=b)(aD:a<=9223372036854775807)(af:b<=9223372036854775807):Spec Tryz.prog 47 [.int .i64 a,.int .i64 x,.int .i64 1099511627776] I M0 λv I' M'=>v=.int .i64 (a3 (a+b):Nat)/\I'=I/\M'=M0:=by subst ab;exact nJ a b aD af
def y5(ds:List a')(B C:Nat):Nat:=a3 (dn (iG B) (dR ds)*(B+1)+C)
def qC(ds:List a')(b c:Int):Int:=bif decide (b<0)||decide (c<0)then 0 else((y5 ds b.toNat c.toNat:Nat):Int)
def acq(br:hG I deb)(ar:g.ok I){b c:Int}(af:gj b)(aA:gj c):Spec Tryz.prog 16 [g.val,.int .i64 b,.int .i64 c] I [] λv I' M'=>(∀ b o,I b=some o->I' b=some o)/\M'=[]/\v=.tuple #[.int .i64 (bif decide (ed deb g=0)then qC g.ds b c else 0),.int .i64 (ed deb g)]:=by
 refine bC [4,9] aS Tryz.func16 rfl rfl rfl ?_;intro B aq;refine cz.mk λk3 alo alp=>?_;refine aT.mk [] [⟨k3,.cells #[.int .i64 b] 3 (0,0)⟩] _ (.refl _) (K6 br ar) ?_;rintro v acn N hle⟨rfl,vn,rfl⟩;have bh:∀ {I':aN} {M:List aC},bE I' ((⟨k3,.cells #[.int .i64 b] 3 (0,0)⟩:aC)::M) ⟨k3,0,none⟩ 1 [.int .i64 b]:=⟨rfl,_,_,_,.inr ⟨_,.head _,rfl,rfl⟩,rfl,rfl⟩;refine aI.mk (λh=>?_) (λh=>?_)
 ·have a1:(!decide (ed deb g=0))=true:=h;have e:decide (ed deb g=0)=false:=by simpa using a1
  refine⟨_,_,.sub (dJ _) .refl,vn,rfl,?_⟩;rw[e];rfl
 have a1:(!decide (ed deb g=0))=false:=h;have e:ed deb g=0:=by simpa using a1
 have D2:∀ d∈g.ds,d.t.ns.length=d.t.n:=λd ai=>(ar.ds d ai).t.n;have hm:=y3 e D2;have av:=hm.D1 ar;rw[e,fA (rfl:(0:Int)=0),ba];refine aJ.mk _ bh ?_;refine bo.mk (λU=>?_) (λU=>?_)
 rotate_left
 ·refine⟨_,_,.sub (dJ _) .refl,vn,rfl,?_⟩;rw[qC,show decide (b<0)=true from U];rfl
 refine aI.mk (λaa=>?_) (λaa=>?_)
 ·refine⟨_,_,.sub (dJ _) .refl,vn,rfl,?_⟩;rw[qC,show decide (c<0)=true from aa,qz];rfl
 have g6:¬ b<0:=b' U;have hJ:¬ c<0:=b' aa;have acr:qC g.ds b c=((y5 g.ds b.toNat c.toNat:Nat):Int):=by rw[qC,b8 g6,b8 hJ];rfl
 rw[acr];obtain⟨b,rfl⟩:∃ n:Nat,b=n:=⟨b.toNat,by omega⟩;obtain⟨c,rfl⟩:∃ n:Nat,c=n:=⟨c.toNat,by omega⟩;obtain⟨-,m8⟩:=af;obtain⟨-,vg⟩:=aA;refine cz.mk λbZ gb tv=>?_;refine cX.mk [] _ _ _ rfl rfl (bB rfl) rfl ?_;refine aT.whole _ (Sr g) ?_;rintro v c8 M1 -⟨ca,rfl,yJ,cn,rfl⟩;have jn:=ar.mono vn |>.mono cn
 have alq:∀ {I':aN} {M:List aC} {n:Nat} {x:aC},bE I' (x::DZ bZ n::M) ⟨bZ,0,none⟩ 1 [.int .i64 ((n:Nat):Int)]:=tK (.tail _ (.head _));have SQ:∀ {I':aN} {M:List aC} {x:aC},bE I' (x::(⟨k3,.cells #[.int .i64 b] 3 (0,0)⟩:aC)::M) ⟨k3,0,none⟩ 1 [.int .i64 b]:=⟨rfl,_,_,_,.inr ⟨_,.tail _ (.head _),rfl,rfl⟩,rfl,rfl⟩;refine cL.range aS rfl rfl rfl .refl (Ss jn yJ) (λvs h=>?_) (λk I' M'=>(∀ b o,c8 b=some o->I' b=some o)/\M'=[DZ bZ (a3 (dn (iG b) ((dR g.ds).take k))),⟨k3,.cells #[.int .i64 b] 3 (0,0)⟩]) (λex I' M'=>False) ⟨λ_ _ h=>h,rfl⟩ ?_ ?_ (λex I' M' _ h=>h.elim)
 ·rw[w4]at h;obtain⟨p,_,rfl⟩:=du.1 h;rfl
 ·rintro k ae I' M' -⟨iB,rfl⟩l B aq kr;have dG:k<(dR g.ds).length:=by simpa[w4]using ae
  have kD:=av _ (cO dG);have mS:=HB (f:=iG b) dG;have ah:(oz g.ds)[k]=[(dR g.ds)[k].val]:=by simp only[w4,jJ]
  rw[ah];generalize(dR g.ds)[k]=d at kD mS;generalize dn (iG b) ((dR g.ds).take k)=S at mS;have s1:=hv S;have dP:=kD.kn;have fin:∀ q:Nat,a3 (q+1)=a3 (iG b d)->a3 (a3 S+a3 (q+1))=a3 (dn (iG b) ((dR g.ds).take (k+1))):=λq aE=>by rw[mS,aE,Hm,lH]
  refine aI.mk (λag=>?_) (λag=>?_);·have l6:decide (d.k=3)=true:=ag;have hw:=fin 1 (by rw[iG,l6,ba]);have fJ:=hv (1+1);refine cL.draw aS rfl rfl rfl ?_;refine aJ.mk _ (tK (.head _)) ?_;refine jc.mk _ (nJ 1 1 (by omega) (by omega)) ?_;rintro v dQ dt -⟨rfl,rfl,rfl⟩;refine aT.whole _ (nJ (a3 S) (a3 (1+1)) (by omega) (by omega)) ?_;rintro v dQ dt -⟨rfl,rfl,rfl⟩;refine cX.mk [] [_] _ _ rfl rfl (bB rfl) rfl ?_;refine⟨_,_,.refl,iB,?_⟩;rw[<-hw];rfl
  ·have l6:decide (d.k=3)=false:=ag;refine aI.mk (λbD=>?_) (λbD=>?_)
   ·have vm:decide (d.k=6)=true:=bD;obtain⟨q6,w1,aq,U⟩:=kD.lo (cr vm);obtain⟨q,aE⟩:∃ q:Nat,max d.hi 0=q:=⟨(max d.hi 0).toNat,by omega⟩;have hw:=fin (a3 (a3 (b+2)+q)) (by rw[iG,l6,a5,vm,ba,lH (b+2),lH,show d.hi.toNat=q by omega]);have s2:=hv (b+2);have fJ:=hv (a3 (b+2)+q);have AV:=hv (a3 (a3 (b+2)+q)+1);refine cL.draw aS rfl rfl rfl ?_;refine aJ.mk _ SQ ?_;refine jc.mk _ (nJ b 2 (by omega) (by omega)) ?_;rintro v dQ dt -⟨rfl,rfl,rfl⟩;refine aT.whole _ (acp (a3 (b+2)) q aE (by omega) (by omega)) ?_;rintro v dQ dt -⟨rfl,rfl,rfl⟩;refine cL.draw aS rfl rfl rfl ?_;refine aJ.mk _ (tK (.head _)) ?_;refine jc.mk _ (nJ (a3 (a3 (b+2)+q)) 1 (by omega) (by omega)) ?_;rintro v dQ dt -⟨rfl,rfl,rfl⟩;refine aT.whole _ (nJ (a3 S) (a3 (a3 (a3 (b+2)+q)+1)) (by omega) (by omega)) ?_;rintro v dQ dt -⟨rfl,rfl,rfl⟩;refine cX.mk [] [_] _ _ rfl rfl (bB rfl) rfl ?_;refine⟨_,_,.refl,iB,?_⟩;rw[<-hw];rfl
   ·have vm:decide (d.k=6)=false:=bD;have hw:=fin d.kn (by rw[iG,l6,a5,vm,a5]);have fJ:=hv (d.kn+1);refine cL.draw aS rfl rfl rfl ?_;refine aJ.mk _ (tK (.head _)) ?_;refine jc.mk _ (nJ d.kn 1 (by omega) (by omega)) ?_;rintro v dQ dt -⟨rfl,rfl,rfl⟩;refine aT.whole _ (nJ (a3 S) (a3 (d.kn+1)) (by omega) (by omega)) ?_;rintro v dQ dt -⟨rfl,rfl,rfl⟩;refine cX.mk [] [_] _ _ rfl rfl (bB rfl) rfl ?_;refine⟨_,_,.refl,iB,?_⟩;rw[<-hw];rfl
 ·rintro I' M' -⟨iB,rfl⟩;have ax:(dR g.ds).take (oz g.ds).length=dR g.ds:=gv (by simp[w4]);rw[ax];generalize g4:dn (iG b) (dR g.ds)=S;have s1:=hv S;have s2:=hv (b+1);have fJ:=hv (a3 S*a3 (b+1));refine cL.draw aS rfl rfl rfl ?_;refine aJ.mk _ (tK (.head _)) ?_;refine aJ.mk _ SQ ?_;refine jc.mk _ (nJ b 1 (by omega) (by omega)) ?_;rintro v dQ dt -⟨rfl,rfl,rfl⟩;refine aT.whole _ (LK (a3 S) (a3 (b+1)) (by omega) (by omega)) ?_;rintro v dQ dt -⟨rfl,rfl,rfl⟩;refine cX.mk [] [_] _ _ rfl rfl (bB rfl) rfl ?_;refine aJ.mk _ (tK (n:=a3 (a3 S*a3 (b+1))) (.head _)) ?_;refine aT.whole _ (nJ (a3 (a3 S*a3 (b+1))) c (by omega) (by omega)) ?_;rintro v dQ dt -⟨rfl,rfl,rfl⟩;refine⟨_,_,.sub (dJ _) .refl,λb o h=>iB _ _ (cn _ _ (vn _ _ h)),rfl,?_⟩;have e:a3 (a3 (a3 S*a3 (b+1))+c)=y5 g.ds b c:=by rw[yT,yU,lH];unfold y5;rw[g4]
  rw[e];rfl
def A5(f:aP->Nat)(l cU:List aP):dn f (l++cU)=dn f l+dn f cU:=by unfold dn;rw[gg,yy]
def acs{f:aP->Nat}{l cU:List aP}(h:l.Sublist cU):dn f l<=dn f cU:=by
 induction h with
 |slnil=>exact b6 _| cons a _ a2=>unfold dn at a2 |-;simp only[dA,oh];omega| cons_cons a _ a2=>unfold dn at a2 |-;simp only[dA,oh];omega
def D3(x:Nat×Nat):List Value:=[.int .i64 x.1,.int .i64 x.2]
structure SR(m:c4)(L parts:List (Nat×Nat))(rest:List (Nat×Nat))(aW:Nat)(os:bn):Prop where
 lo:m.base<=aW
 hi:aW<=m.s.size
 ok:∃ oG,os.ok 2 ((L++oG).flatMap D3)/\oG++rest=parts
def SR.next{m:c4}{parts p rest oG:List (Nat×Nat)}{aW A6:Nat}{y6:bn}(dX:m.base<=aW)(aA:aW<=A6/\A6<=m.s.size)(bb:y6.ok 2 (((L++oG)++p).flatMap D3))(fa:oG++(p++rest)=parts):SR m L parts rest A6 y6:=
 ⟨by omega,aA.2,oG++p,by rw[<-fN];exact bb,by rw[fN];exact fa⟩
def lI.cells(c:lI):List Value:=[.string c.name,.int .i64 c.lo,.int .i64 c.hi]
def lI.c0(c:lI):c.cells.length=3:=rfl
structure SS(m:c4)(kn:Nat->Nat->bG)(x:Nat×Nat):Prop where
 k:x.1<m.ns.n
 lo:m.base<=x.2
 hi:x.2<=m.s.size
 aB:(kn x.1 (x.2-m.base)).aB=3
def LW(m:c4)(kn:Nat->Nat->bG)(x:Nat×Nat):Prop:=SS m kn x/\(kn x.1 (x.2-m.base)).n≠0
section
variable{m:c4}{kn:Nat->Nat->bG}
def acu(h:∀ k p,Sy m.w0 (m.base+p) (kn k p)){q aW:Nat}(dX:m.base<=aW)(ag:(kn q (aW-m.base)).aB=3):m.base<=(kn q (aW-m.base)).aW/\(kn q (aW-m.base)).aW<=m.s.size:=by have:=(h q (aW-m.base)).m ag;rw[AQ dX]at this;exact⟨by omega,this.2.1⟩
def pC.ok(h:∀ k p,Sy m.w0 (m.base+p) (kn k p)){k:Nat}(ae:k<m.ns.n){a:Nat}{l:List (Nat×Nat)}(hw:pC kn m.base k hi t a l):m.base<=a->a<=m.s.size->∀ x∈l,LW m kn x:=by
 induction hw with
 |stop=>exact λ_ _ x ab=>by cases ab
 |fail=>exact λ_ _ x ab=>by cases ab
 | @more t a l af ao ag r a2=>
  intro U aa x ab;have av:=acu h U ag;rcases en.1 ab with ab | ab
  ·cases aq:Nat.beq (kn k (a-m.base)).n 0 with
   |true=>rw[aq]at ab;cases ab| false=>rw[aq,a5,kh]at ab;subst ab;exact⟨⟨ae,U,aa,ag⟩,λe=>by simp only at e;rw[e]at aq;cases aq⟩
  ·exact a2 av.1 av.2 x ab
def SU(ar:DW m.w0 kn):∀ (L:List (Nat×Nat)),(∀ x∈L,LW m kn x)->∃ n l,k5 m.w0 kn n L l/\L.length<=l.length
 |[],_=>⟨0,[],.nil,b6 _⟩
 |(k,a)::L,h=>by
  obtain⟨n,l,U,aa⟩:=SU ar L λx ab=>h x (.tail _ ab);obtain⟨⟨cM,cp,eD,hd⟩,D4⟩:=h (k,a) (.head _);obtain⟨fB,cU,tL,pD,-⟩:=ar k (a-m.base) hd;have e:m.w0.base+(a-m.base)=a:=by show m.base+(a-m.base)=a;simp only at cp;omega
  rw[e]at tL;refine⟨fB+n,cU++l,tL.app U,?_⟩;have:0<cU.length:=by unfold wZ at pD;simp only at D4;omega
  rw[ck,c5];omega
end
def pE{v k7:Value}(h:k7=v):x4 (.val v) (.val k7):=by rw[h];exact .refl
structure SV(m:c4)(kn:Nat->Nat->bG)(l:List lI)(n:Nat)(L:List (Nat×Nat))(os LX:bn):Prop where
 os:os.ok 2 (L.reverse.flatMap D3)
 dO:∀ x∈L,SS m kn x
 acv:L.length<=1\/∀ x∈L,LW m kn x
 g:∃ w1 w5,k5 m.w0 kn n L w5/\w1++w5=l/\LX.ok 3 (w1.flatMap lI.cells)
def SV.len{m:c4}{kn:Nat->Nat->bG}{l:List lI}{n:Nat}{LX:bn}(h:SV m kn l n L os LX)(ar:DW m.w0 kn)(ay:l.length<=65536):L.length<=65537:=by
 rcases h.acv with U | U
 ·omega
 ·obtain⟨w1,w5,aR,aV,-⟩:=h.g;obtain⟨fB,cU,tL,pD⟩:=SU ar L U;have e:=aR.y4 tL;subst e;have:=congrArg List.length aV;rw[ck]at this;omega
def acw(o:Hx)(v:Value):Value:=.agg #[.bool o.ok,.int .i64 o.aW,v]
noncomputable section
inductive a4(α:Type) where
 |nil| node (x:Option α) (l r:a4 α)
def bH{α:Type}(b:Bool)(x y:α):α:=@Bool.rec (λ_=>α) y x b
def bK{α R:Type}(o:Option α)(x:R)(f:α->R):R:=@Option.rec α (λ_=>R) x f o
section
variable{α R:Type}
def a4.get(t:a4 α):Nat->Option α:=@a4.rec α (λ_=>Nat->Option α) (λ_=>none) (λx _ _ acx acy k=>bH (Nat.beq k 0) x (bH (Nat.beq (Nat.mod k 2) 1) (acx (Nat.div k 2)) (acy (Nat.sub (Nat.div k 2) 1)))) t
def a4.lK(v:Option α)(t:a4 α):Nat->(a4 α->R)->R:=@a4.rec α (λ_=>Nat->(a4 α->R)->R) (λk K=>bH (Nat.beq k 0) (K (.node v .nil .nil)) (K .nil)) (λx l r sl acz k K=>bH (Nat.beq k 0) (K (.node v l r)) (bH (Nat.beq (Nat.mod k 2) 1) (sl (Nat.div k 2) λl=>K (.node x l r)) (acz (Nat.sub (Nat.div k 2) 1) λr=>K (.node x l r)))) t
def a4.A7(t:a4 α)(off n:Nat):(List α->Option R)->Option R:=@Nat.rec (λ_=>Nat->(List α->Option R)->Option R) (λ_ K=>K []) (λ_ a2 off K=>bK (t.get off) none λv=>a2 (Nat.add off 1) λl=>K (v::l)) n off
def a4.vo(l:List α)(t:a4 α)(off:Nat)(K:a4 α->R):R:=@List.rec α (λ_=>a4 α->Nat->R) (λt _=>K t) (λv _ a2 t off=>t.lK (some v) off λt=>a2 t (Nat.add off 1)) l t off
def a4.bare:Nat->a4 α
 |0=>.nil| n+1=>.node none (a4.bare n) (a4.bare n)
end
inductive ak where
 |b(x:Bool) | i (k:IntKind) (n:Int) | s (l:List UInt8)| pn | p (id off:Nat) | g (n off:Nat)| sn | sl (id off n c:Nat) | sx (id off e n:Nat) | gs (g off n c:Nat) | so| mn | m (id:Nat)| f (g:Nat) (l r:List ak) | y (id:Nat) | fn| ni | A8 (t:Nat) (v:ak)| t (l:List ak) | a (l:List ak)
def ak.cells:ak->List ak
 | .a l=>l| v=>[v]
def ak.one:ak->Bool
 | .a _ | .t _=>false| _=>true
def D5:Value->Option ak
 | .bool x=>some (.b x)| .int k n=>some (.i k n)| .string q=>some (.s q.data.toList)| .pointer none=>some .pn| .slice none 0 0=>some .sn| .map none=>some .mn| .nilFunc=>some .fn| .nilIface=>some .ni| _=>none
def vp:List Value->Option (List ak)
 |[]=>some []
 |v::vs=>match D5 v,vp vs with
  |some x,some l=>some (x::l)| _,_=>none
def A9:Value->Option ak
 | .agg cs=>match vp cs.toList with
  |some l=>some (.a l)| none=>none
 |v=>D5 v
def ak.nat:ak->Option Nat
 | .i _ (.ofNat n)=>some n| _=>none
inductive fj where
 |cells(cs:a4 ak)(T eT:Nat)| map (es:List (ak×ak))| loop (busy:Bool) (n:Nat) (aj:a4 ak) (ps:List Nat) (eC body:Code)| done (c:Code) (n:Nat) (aj:a4 ak) (ps:List Nat) (eC body:Code)
structure a8 where
 t:a4 fj
 n:Nat
def tM:Int->Int->Bool
 | .ofNat a,.ofNat b=>Nat.beq a b| .negSucc a,.negSucc b=>Nat.beq a b| _,_=>false
def y7:Int->Int->Bool
 | .ofNat a,.ofNat b=>Nat.ble a b| .negSucc a,.negSucc b=>Nat.ble b a| .negSucc _,.ofNat _=>true| .ofNat _,.negSucc _=>false
def Ab(a b:Int):Bool:=!y7 b a
def LY(op:BinOp)(x y:Int):Option Bool:=match op with
 | .eql=>some (tM x y)| .neq=>some (!tM x y)| .lss=>some (Ab x y)| .leq=>some (y7 x y)| .gtr=>some (Ab y x)| .geq=>some (y7 y x)| _=>none
def HE:IntKind->Nat
 | .i8=>127 | .i16=>32767 | .i32=>2147483647 | .i64=>9223372036854775807| .u8=>255 | .u16=>65535 | .u32=>4294967295 | .u64=>18446744073709551615
def tN(k:IntKind):Int->Int
 | .ofNat n=>bif Nat.ble n (HE k)then .ofNat n else k.wrap (.ofNat n)| n=>k.wrap n
def SW:Int->Int->Int
 | .ofNat a,.ofNat b=>.ofNat (Nat.add a b)| a,b=>a+b
def LZ:Int->Int->Int
 | .ofNat a,.ofNat b=>bif Nat.ble b a then .ofNat (Nat.sub a b)else(.ofNat a:Int) - .ofNat b| a,b=>a-b
def SX:Int->Int->Int
 | .ofNat a,.ofNat b=>.ofNat (Nat.mul a b)| a,b=>a*b
def SY:Int->Int->Int
 | .ofNat a,.ofNat b=>.ofNat (Nat.div a b)| a,b=>a.tdiv b
def SZ:Int->Int->Int
 | .ofNat a,.ofNat b=>.ofNat (Nat.mod a b)| a,b=>a.tmod b
def S0:Int->Nat->Int
 | .ofNat a,j=>.ofNat (Nat.mul a (Nat.pow 2 j))| a,j=>a*2^j
def S1:Int->Nat->Int
 | .ofNat a,j=>.ofNat (Nat.div a (Nat.pow 2 j))| a,j=>a.fdiv (2^j)
def A'(op:BinOp)(k:IntKind)(x y:Int):Option Int:=
 match k,x,y with
 | .u64,.ofNat a,.ofNat b=>
  bif Nat.ble a 18446744073709551615&&Nat.ble b 18446744073709551615 then
   (match op with
   | .and=>some (.ofNat (Nat.land a b))| .or=>some (.ofNat (Nat.lor a b))| .xor=>some (.ofNat (Nat.xor a b))| .andNot=>some (.ofNat (Nat.land a (Nat.sub 18446744073709551615 b)))| _=>none)
  else none
 |_,_,_=>rM op k x y
def L0(a b:UInt8):Bool:=Nat.beq a.toNat b.toNat
def sk:List UInt8->List UInt8->Bool
 |[],[]=>true| a::l,b::m=>bif L0 a b then sk l m else false| _,_=>false
def Ba:ak->ak->Option Bool
 | .b x,.b w=>some (x == w)| .i k x,.i l w=>bH (IntKind.kN k l) (some (tM x w)) none| .s x,.s w=>some (sk x w)| _,_=>none
def S2:List ak->List ak->Option Bool
 |[],[]=>some true
 |x::l,w::m=>match Ba x w with
  |some true=>S2 l m
  |some false=>(match S2 l m with
   |some _=>some false| none=>none)
  |none=>none
 |_,_=>none
def alr:ak->ak->Option Bool
 | .pn,.pn=>some true| .pn,.p _ _=>some false| .p _ _,.pn=>some false| .pn,.g _ _=>some false| .g _ _,.pn=>some false| _,_=>none
def L1(op:BinOp)(k cd:IntKind)(a b:Int):Option ak:=match op with
 | .shl=>(match b with
  | .ofNat j=>some (.i k (tN k (S0 a (bH (Nat.ble j k.bits) j k.bits))))| _=>none)
 | .shr=>(match b with
  | .ofNat j=>some (.i k (S1 a (bH (Nat.ble j k.bits) j k.bits)))| _=>none)
 | .add=>bH (IntKind.kN k cd) (some (.i k (tN k (SW a b)))) none| .sub=>bH (IntKind.kN k cd) (some (.i k (tN k (LZ a b)))) none| .mul=>bH (IntKind.kN k cd) (some (.i k (tN k (SX a b)))) none| .quo=>bH (IntKind.kN k cd) (bH (tM b 0) none (some (.i k (tN k (SY a b))))) none| .rem=>bH (IntKind.kN k cd) (bH (tM b 0) none (some (.i k (SZ a b)))) none| .and=>bH (IntKind.kN k cd) (bK (A' .and k a b) none λr=>some (.i k r)) none| .or=>bH (IntKind.kN k cd) (bK (A' .or k a b) none λr=>some (.i k r)) none| .xor=>bH (IntKind.kN k cd) (bK (A' .xor k a b) none λr=>some (.i k r)) none| .andNot=>bH (IntKind.kN k cd) (bK (A' .andNot k a b) none λr=>some (.i k r)) none| op=>bH (IntKind.kN k cd) (bK (LY op a b) none λr=>some (.b r)) none
def L2(op:BinOp)(a b:List UInt8):Option ak:=match op with
 | .eql=>some (.b (sk a b))| .neq=>some (.b (bH (sk a b) false true))| .add=>bH (Nat.ble (Nat.add a.length b.length) 9223372036854775807) (some (.s (a++b))) none| _=>none
def L3(op:BinOp)(c9:Option dH)(a b:Bool):Option ak:=match c9 with
 |some { bz:=.bool,.. }=>
  (match op with
  | .eql=>some (.b (a == b))| .neq=>some (.b (!(a == b)))| _=>none)
 |_=>none
def Bb(agg:Bool)(l:List ak):Option ak:=bif agg then some (.a l)else match l with
 |[v]=>some v| _=>none
def y8:Nat->List ak->Option (List ak)
 |0,_=>some []| _+1,[]=>none
 |n+1,v::l=>match y8 n l with
  |some r=>some (v::r)| none=>none
def y9{α:Type}:List α->Nat->List α
 |[],_=>[]| v::l,n=>bif Nat.beq n 0 then v::l else y9 l (Nat.sub n 1)
def Bc(E:Env)(t o:Nat)(l:List ak):Option ak:=bK (E t) none λi=>bH (Nat.beq i.size 0) none <| bK (y8 i.size (y9 l o)) none λr=>Bb i.bz.agg r
def D6(F:Nat->ak->ak->Option Bool)(E:Env)(l m:List ak):List (Nat×Nat)->Option Bool
 |[]=>some true|(t,o)::r=>bK (Bc E t o l) none λx=>bK (Bc E t o m) none λy=>bK (F t x y) none λb=>bH b (D6 F E l m r) (some false)
def S3(P:Program)(t:Nat):Bool:=match P.underlying t with
 |some (.struct bT)=>!P.stoodInHeld t&&bT.toList.all λf=>decide (f.name ≠ "_")
 |_=>false
def D7(P:Program)(E:Env):Nat->Nat->ak->ak->Option Bool
 |0,_,_,_=>none
 |d+1,t,x,y=>bK (E t) none λi=>match i.bz,x,y with
  | .bool,.b a,.b b=>some (a == b)| .int _,.i k a,.i cd b=>bH (IntKind.kN k cd) (some (tM a b)) none| .string,.s a,.s b=>some (sk a b)| .struct bT,.a l,.a m=>bH (S3 P t) (D6 (D7 P E d) E l m bT) none| .array n e,.a l,.a m=>bK (E e) none λaF=>D6 (D7 P E d) E l m ((List.range n).map λi=>(e,i*aF.size))
  |_,_,_=>none
def L4(P:Program)(E:Env)(op:BinOp)(t:Nat)(l m:List ak):Option ak:=bH (P.eqGuardType P.depth t) none (bK (D7 P E 8 t (.a l) (.a m)) none λb=>match op with
 | .eql=>some (.b b)| .neq=>some (.b (!b))| _=>none)
def L5:ak->Option Bool
 | .sn=>some true| .sl .. | .sx .. | .gs .. | .so=>some false| _=>none
def L6:ak->Option Bool
 | .pn=>some true| .p .. | .g ..=>some false| _=>none
def HF(op:BinOp)(b:Bool):Option ak:=match op with
 | .eql=>some (.b b)| .neq=>some (.b (!b))| _=>none
def L7(P:Program)(E:Env)(op:BinOp)(t:Nat)(x y:ak):Option ak:=
 match x,y with
 | .i k a,.i cd b=>L1 op k cd a b| .s a,.s b=>L2 op a b| .b a,.b b=>L3 op (E t) a b| .a l,.a m=>L4 P E op t l m
 |x,.sn=>bK (E t) none λi=>(match i.bz with
  | .slice _=>bK (L5 x) none λb=>HF op b
  |_=>none)
 |x,.pn=>bK (E t) none λi=>(match i.bz with
  | .pointer _=>bK (L6 x) none λb=>HF op b
  |_=>none)
 |_,_=>none
def tO{α:Type}:List α->Nat->Option α
 |[],_=>none| v::l,n=>bif Nat.beq n 0 then some v else tO l (Nat.sub n 1)
def vq:List ak->Nat->List ak->Option (List ak)
 |cs,0,[]=>some cs
 |_::cs,0,v::vs=>match vq cs 0 vs with
  |some r=>some (v::r)| none=>none
 |c::cs,n+1,vs=>match vq cs n vs with
  |some r=>some (c::r)| none=>none
 |[],_,_=>none
def w6(place:Nat->Option (Nat×Nat)):List ak->List (Nat×ak)->Option (List ak)
 |cells,[]=>some cells
 |cells,(i,v)::rest=>match place i with
  |none=>none
  |some (off,size)=>bif Nat.beq v.cells.length size then(match vq cells off v.cells with
   |some cs=>w6 place cs rest| none=>none)else none
def cI(aj:a4 ak):Operand->Option ak
 | .tmp t=>aj.get t| .const v=>A9 v| .global g=>some (.g g 0)| .func f=>some (.f f [] [])
def l9(aj:a4 ak):List Operand->Option (List ak)
 |[]=>some []
 |x::xs=>match cI aj x,l9 aj xs with
  |some v,some l=>some (v::l)| _,_=>none
def Bd(aj:a4 ak):List (Nat×Operand)->Option (List (Nat×ak))
 |[]=>some []
 |(i,x)::xs=>match cI aj x,Bd aj xs with
  |some v,some l=>some ((i,v)::l)| _,_=>none
abbrev GT:=Nat->Option (a4 ak)
def tP{R:Type}(G:GT)(m:a4 fj)(x:ak)(n:Nat)(K:List ak->Option R):Option R:=match x with
 | .p id off=>(match m.get id with
  |some (.cells cs _ eT)=>bif Nat.ble (Nat.add off n) eT then cs.A7 off n K else none| _=>none)
 | .g g off=>(match G g with
  |some cs=>cs.A7 off n K| none=>none)
 |_=>none
def D8(x:ak)(n:Nat):Option ak:=match x with
 | .p id off=>some (.p id (Nat.add off n))| .g g off=>some (.g g (Nat.add off n))| _=>none
def HG(x:ak)(j sz:Nat):Option ak:=match x with
 | .sl id off n _=>bif Nat.blt j n then some (.p id (Nat.add off (Nat.mul j sz)))else none| .sx id off _ n=>bif Nat.blt j n then some (.p id (Nat.add off (Nat.mul j sz)))else none| .gs g off n _=>bif Nat.blt j n then some (.g g (Nat.add off (Nat.mul j sz)))else none| _=>none
def tQ:ak->Option Nat
 | .sn | .so=>some 0| .sl _ _ n _ | .sx _ _ _ n | .gs _ _ n _=>some n| _=>none
def qD(v:ak):Option Nat:=match v with
 | .s l=>some l.length| v=>tQ v
def L8(x:ak)(sz l:Nat)(h:Option Nat):Option ak:=match x with
 | .sn=>bif Nat.beq l 0&&Nat.beq (h.getD 0) 0 then some .sn else none
 | .sl id off n c=>let h:=h.getD n
  bif Nat.ble l h&&Nat.ble h c then bif Nat.beq c l then some (.sl id off (Nat.sub h l) 0)else some (.sl id (Nat.add off (Nat.mul l sz)) (Nat.sub h l) (Nat.sub c l))else none
 | .sx id off e n=>let h:=h.getD n
  bif Nat.ble l h&&Nat.ble h n then(bif Nat.beq l 0||Nat.blt l n then some (.sx id (Nat.add off (Nat.mul l sz)) (Nat.add e l) (Nat.sub h l))else some .so)else none
 |_=>none
def y'(o:Option (Option ak)):Option (Option Nat):=match o with
 |none=>some none
 |some (some v)=>(match v.nat with
  |some n=>some (some n)| none=>none)
 |some none=>none
def L9(l:List UInt8)(lo hi:Nat):List UInt8:=(y9 l lo).take (Nat.sub hi lo)
def S4(c a b:Option ak):Option ak:=match c,a,b with
 |some (.b c),some u,some v=>some (bH c u v)| _,_,_=>none
def S5(op:UnOp)(x:Option ak):Option ak:=match op,x with
 | .not,some (.b b)=>some (.b (bH b false true))| .neg,some (.i k n)=>some (.i k (tN k (0-n)))| _,_=>none
def S6(P:Program)(E:Env)(op:BinOp)(t:Nat)(x y:Option ak):Option ak:=bK x none λx=>bK y none λy=>L7 P E op t x y
def S7(G:GT)(m:a4 fj)(i:Option dH)(x:Option ak):Option ak:=bK i none λi=>bK x none λx=>tP G m x i.size λl=>Bb i.bz.agg l
def S8(x:Option ak):Option ak:=match x with
 |some (.p id off)=>some (.p id off)| some (.g g off)=>some (.g g off)| _=>none
def HH(E:Env)(t i:Nat):Option (Nat×dH):=match E t with
 |some { bz:=.struct bT,.. }=>(match tO bT i with
  |some (kM,off)=>(match E kM with
   |some gl=>some (off,gl)| none=>none)
  |none=>none)
 |_=>none
def S9(r:Option (Nat×dH))(x:Option ak):Option ak:=bK r none λr=>bK x none λx=>bH (Nat.beq r.2.size 0) none (D8 x r.1)
def HI(aF:dH)(cs:List ak)(off:Nat):Option ak:=bH (Nat.beq aF.size 0) none <| bK (y8 aF.size (y9 cs off)) none λl=>Bb aF.bz.agg l
def S'(r:Option (Nat×dH))(x:Option ak):Option ak:=match r,x with
 |some (off,gl),some (.a cs)=>HI gl cs off| _,_=>none
def L'(E:Env)(t:Nat):Option (Option Nat×dH):=match E t with
 |some { bz:=.slice e,.. }=>(match E e with
  |some aF=>some (none,aF)| none=>none)
 |some { bz:=.array n e,.. }=>(match E e with
  |some aF=>some (some n,aF)| none=>none)
 |_=>none
def Ta(r:Option (Option Nat×dH))(x i:Option ak):Option ak:=bK r none λr=>bK x none λx=>bK i none λi=>bK i.nat none λj=>
 bK r.1 (HG x j r.2.size) λn=>bH (Nat.blt j n) (D8 x (Nat.mul j r.2.size)) none
def Ma(l:List UInt8)(j:Nat):Option ak:=bK (tO l j) none λb=>some (.i .u8 (.ofNat b.toNat))
def Tb(cs:List ak)(j n:Nat)(aF:dH):Option ak:=bH (Nat.beq (Nat.mul n aF.size) cs.length&&Nat.blt j n) (HI aF cs (Nat.mul j aF.size)) none
def D9(E:Env)(t:Nat)(x i:Option ak):Option ak:=match E t,x,i with
 |some { bz:=.string,.. },some (.s l),some i=>bK i.nat none λj=>Ma l j
 |some { bz:=.array n e,.. },some (.a cs),some i=>bK (E e) none λaF=>bK i.nat none λj=>Tb cs j n aF
 |_,_,_=>none
def D'(o:Option (List ak)):Option ak:=bK o none λl=>some (.a l)
def Tc(E:Env)(t:Nat)(ps:Option (List (Nat×ak))):Option ak:=match E t,ps with
 |some i,some vs=>bK (vp i.zero) none λz=>(match i.bz with
  | .struct bT=>bH (z9 E bT) (D' (w6 (places E bT) z vs)) none| .array _ e=>bK (E e) none λaF=>D' (w6 (λj=>some (j*aF.size,aF.size)) z vs)
  |_=>none)
 |_,_=>none
def Td(f:Fn)(bT cs:Option (List ak)):Option ak:=match f,bT,cs with
 | .func g,some bT,some cs=>some (.f g bT cs)| _,_,_=>none
def Mb(aF:dH)(x:ak)(lo hi:Option Nat):Option ak:=match lo,hi with
 |none,none=>(match x with
  | .sn | .sl .. | .sx .. | .so=>some x| _=>none)
 |lo,hi=>L8 x aF.size (lo.getD 0) hi
def Mc(l:List UInt8)(lo hi:Option Nat):Option ak:=match lo,hi with
 |none,none=>some (.s l)| lo,hi=>bH (Nat.ble (lo.getD 0) (hi.getD l.length)&&Nat.ble (hi.getD l.length) l.length) (some (.s (L9 l (lo.getD 0) (hi.getD l.length)))) none
def Ea(E:Env)(t:Nat)(x:Option ak)(lo hi:Option (Option Nat)):Option ak:=match E t,x,lo,hi with
 |some { bz:=.slice e,.. },some x,some lo,some hi=>bK (E e) none λaF=>Mb aF x lo hi
 |some { bz:=.string,.. },some (.s l),some lo,some hi=>Mc l lo hi| _,_,_,_=>none
def Te(x:Option ak)(i:Nat):Option ak:=match x with
 |some (.t vs)=>tO vs i| _=>none
def Tf(E:Env)(s d:Nat)(x:Option ak):Option ak:=match E s,E d,x with
 |some _,some { bz:=.int k,.. },some (.i _ n)=>some (.i k (tN k n))| _,_,_=>none
def HJ(o:Option Nat):Option ak:=bK o none λn=>some (.i .i64 (.ofNat n))
def Tg(E:Env)(ts:List Nat)(l:Option (List ak)):Option ak:=match ts,l with
 |[t],some [v]=>(match E t,v with
  |some { bz:=.slice _,.. },v=>HJ (tQ v)| some { bz:=.string,.. },.s l=>HJ (some l.length)| some { bz:=.array n _,.. },_=>HJ (some n)| _,_=>none)
 |_,_=>none
def Th(l:Option (List ak)):Option ak:=match l with
 |some [.i k a,.i _ b]=>some (.i k (bH (y7 a b) b a))| _=>none
def Ti(l:Option (List ak)):Option ak:=match l with
 |some [.i k a,.i _ b]=>some (.i k (bH (y7 a b) a b))| _=>none
def Tj(E:Env)(ts:List Nat)(l:Option (List ak)):Option ak:=match ts,l with
 |[t],some [.sl _ _ _ c]=>(match E t with
  |some { bz:=.slice _,.. }=>some (.i .i64 (.ofNat c))| _=>none)
 |_,_=>none
def Tk(l:Option (List ak)):Option ak:=match l with
 |some [.sn]=>some .pn| some [.sl id off n c]=>bH (Nat.beq c 0) none (some (.p id off))| some [.sx id off e n]=>bH (Nat.beq n 0) none (some (.p id off))| _=>none
def Md(E:Env)(b:Builtin)(ts:List Nat)(l:Option (List ak)):Option ak:=match b with
 | .len=>Tg E ts l| .max=>Th l| .min=>Ti l| .cap=>Tj E ts l| .unsafeSliceData=>Tk l| _=>none
def Me(P:Program)(E:Env)(G:GT)(m:a4 fj)(op:Op)(aj:a4 ak):Option ak:=
 match op with
 | .move x=>cI aj x| .assign x=>cI aj x| .pick c a b=>S4 (cI aj c) (cI aj a) (cI aj b)| .unOp op _ x=>S5 op (cI aj x)| .binOp op t x y _=>S6 P E op t (cI aj x) (cI aj y)| .load t x=>S7 G m (E t) (cI aj x)| .nilCheck x=>S8 (cI aj x)| .fieldAddr t x i=>S9 (HH E t i) (cI aj x)| .field t x i=>S' (HH E t i) (cI aj x)| .indexAddr t x i=>Ta (L' E t) (cI aj x) (cI aj i)| .index t x i=>D9 E t (cI aj x) (cI aj i)| .build t parts=>Tc E t (Bd aj parts.toList)| .makeFunc f first captured=>Td f (l9 aj first.toList) (l9 aj captured.toList)
 | .slice t x lo hi none=>Ea E t (cI aj x) (y' (lo.map (cI aj))) (y' (hi.map (cI aj)))| .extract x i=>Te (cI aj x) i| .convert s d x=>Tf E s d (cI aj x)| .call { callee:=.builtin b,args,argTypes }=>Md E b argTypes.toList (l9 aj args.toList)| _=>none
def Mf(E:Env)(t:Nat)(x hi mx:Option ak):Option ak:=match E t,x,hi,mx with
 |some { bz:=.slice e,.. },some (.sl id off n c),some (.i _ (.ofNat h)),some (.i _ (.ofNat k))=>bK (E e) none λaF=>
  bH (Nat.ble h k&&(Nat.ble k c&&Nat.blt 0 k)) (some (.sl id off h k)) none
 |some { bz:=.slice e,.. },some (.sx id off az n),some (.i _ (.ofNat h)),some (.i _ (.ofNat k))=>bK (E e) none λaF=>
  bH (Nat.ble h k&&(Nat.ble k n&&Nat.blt 0 k)) (some (.sl id off h k)) none
 |_,_,_,_=>none
def Mg(E:Env)(t:Nat)(x lo hi mx:Option ak):Option ak:=match E t,x,lo,hi,mx with
 |some { bz:=.slice e,.. },some (.sl id off n c),some (.i _ (.ofNat l)),some (.i _ (.ofNat h)),some (.i _ (.ofNat k))=>bK (E e) none λaF=>
  bH (Nat.ble l h&&(Nat.ble h k&&(Nat.ble k c&&Nat.blt l k))) (some (.sl id (Nat.add off (Nat.mul l aF.size)) (Nat.sub h l) (Nat.sub k l))) none
 |_,_,_,_,_=>none
def Mh(x:Option ak):Option ak:=match x with
 |some (.i .u64 n)=>some (.i .u64 (gk n))| _=>none
def sm(P:Program)(E:Env)(G:GT)(m:a4 fj)(op:Op)(aj:a4 ak):Option ak:=
 match op with
 | .unOp .xor t x=>Mh (cI aj x)| .slice t x (some lo) (some hi) (some mx)=>Mg E t (cI aj x) (cI aj lo) (cI aj hi) (cI aj mx)| .slice t x none (some hi) (some mx)=>Mf E t (cI aj x) (cI aj hi) (cI aj mx)| op=>Me P E G m op aj
def pF{R:Type}(n:Nat)(K:Nat->R):R:=Nat.casesOn (Nat.add n 1) (K 0) K
def Tl{R:Type}(n:Int)(K:Int->R):R:=match n with
 | .ofNat n=>pF n λn=>K (.ofNat n)
 | .negSucc n=>pF n λn=>K (.negSucc n)
def Tm{R:Type}(b:Bool)(K:Bool->R):R:=bH b (K true) (K false)
def Mi{R:Type}(v:ak)(K:ak->R):R:=match v with
 | .b x=>Tm x λx=>K (.b x)
 | .i k n=>Tl n λn=>K (.i k n)
 | .p id off=>pF off λoff=>K (.p id off)
 | .g id off=>pF off λoff=>K (.g id off)
 | .sl id off n c=>pF off λoff=>pF n λn=>pF c λc=>K (.sl id off n c)
 | .sx id off e n=>pF off λoff=>pF e λe=>pF n λn=>K (.sx id off e n)
 |v=>K v
def za{R:Type}(m:a8)(e:fj)(K:Nat->a8->R):R:=pF m.n λn=>m.t.lK (some e) n λt=>K n ⟨t,Nat.add n 1⟩
def sp{R:Type}(m:a8)(l:List ak)(T:Nat)(K:Nat->a8->R):R:=a4.vo l .nil 0 λcs=>za m (.cells cs T l.length) K
def vr{R:Type}(m:a8)(x:ak)(l:List ak)(K:a8->Option R):Option R:=match x with
 | .p id off=>(match m.t.get id with
  |some (.cells cs T eT)=>bif Nat.ble (Nat.add off l.length) eT&&l.all ak.one then a4.vo l cs off λcs=>m.t.lK (some (.cells cs T eT)) id λt=>K ⟨t,m.n⟩else none
  |_=>none)
 |_=>none
def zb:Nat->List ak->List ak
 |0,_=>[]| n+1,z=>z++zb n z
def Be(i:Option dH):Bool:=match i with
 |some { bz:=.int .u8,.. }=>true| _=>false
def tR(u:Option dH)(aF:dH)(x:ak):Bool:=match u,x with
 |some { bz:=.slice _,.. },.sn=>true| some { bz:=.slice _,.. },.so=>true| some { bz:=.slice _,.. },.sl ..=>true| some { bz:=.slice _,.. },.sx ..=>true| some { bz:=.string,.. },.s _=>Nat.beq aF.size 1| _,_=>false
def Bf(G:GT)(m:a4 fj)(x:ak)(sz:Nat){R:Type}(K:List ak->Option R):Option R:=match x with
 | .sn | .so=>K []| .sl id off n _ | .sx id off _ n=>tP G m (.p id off) (Nat.mul n sz) K| .s l=>K (l.map λb=>.i .u8 (.ofNat b.toNat))| _=>none
def Mj(G:GT)(m:a8)(id off n c:Nat)(l:List ak)(k sz T:Nat):Option (ak×a8):=
 bH (Nat.ble (Nat.add n k) c) (vr m (.p id (Nat.add off (Nat.mul n sz))) l λm=>some (.sl id off (Nat.add n k) c,m)) (tP G m.t (.p id off) (Nat.mul n sz) λcY=>sp m (cY++l) T λid m=>some (.sx id 0 0 (Nat.add n k),m))
def Mk(m:a8)(id:Nat)(n:Nat)(cs:a4 ak)(eT:Nat)(l:List ak)(k sz T:Nat):Option (ak×a8):=
 bH (Nat.ble (Nat.mul n sz) eT) (m.t.lK none id λt=>a4.vo l cs (Nat.mul n sz) λcs=>za ⟨t,m.n⟩ (.cells cs T (Nat.mul (Nat.add n k) sz)) λid m=>some (.sx id 0 0 (Nat.add n k),m)) none
def Eb(G:GT)(m:a8)(s:ak)(l:List ak)(k sz bytes T:Nat):Option (ak×a8):=match s with
 | .sn=>bH (Nat.ble (Nat.mul k bytes) 140737488355328&&Nat.ble k 9223372036854775807) (sp m l T λid m=>some (.sx id 0 0 k,m)) none| .sl id off n c=>bH (Nat.ble (Nat.mul (Nat.add n k) bytes) 140737488355328&&Nat.ble (Nat.add n k) 9223372036854775807) (Mj G m id off n c l k sz T) none
 | .sx id off e n=>(match m.t.get id with
  |some (.cells cs lk eT)=>bH ((Nat.beq off 0&&Nat.beq e 0)&&(Nat.beq lk T&&(Nat.ble (Nat.mul (Nat.add n k) bytes) 140737488355328&&Nat.ble (Nat.add n k) 9223372036854775807))) (Mk m id n cs eT l k sz T) none| _=>none)
 |_=>none
def Bg:List ak->Option (List UInt8)
 |[]=>some []
 | .i .u8 (.ofNat n)::l=>bif Nat.ble n 255 then(match Bg l with
  |some r=>some (UInt8.ofNat n::r)| none=>none)else none
 |_=>none
def Ec:ak->List (ak×ak)->Option (Option ak)
 |_,[]=>some none
 |k,(x,v)::l=>match Ba k x with
  |some true=>some (some v)| some false=>Ec k l| none=>none
def Ed(k v:ak):List (ak×ak)->Option (List (ak×ak))
 |[]=>some [(k,v)]
 |(x,u)::l=>match Ba k x with
  |some true=>some ((k,v)::l)
  |some false=>(match Ed k v l with
   |some r=>some ((x,u)::r)| none=>none)
  |none=>none
abbrev j5:=Nat->List ak->a8->Option (ak×a8)
structure fC where
 P:Program
 E:Env
 G:GT
 pr:j5
def Tn(i:Option dH)(t:Nat)(x:Option ak):Option (List ak×Nat×Nat×(Nat->ak)):=bK i none λi=>bK x none λv=>bH (Nat.beq v.cells.length i.size) (some (v.cells,t,1,λid=>.p id 0)) none
def To(i:Option dH)(t:Nat):Option (List ak×Nat×Nat×(Nat->ak)):=bK i none λi=>bK (vp i.zero) none λz=>some (z,t,1,λid=>.p id 0)
def Tp(E:Env)(t len:Nat)(ps:Option (List (Nat×ak))):Option (List ak×Nat×Nat×(Nat->ak)):=match E t,ps with
 |some { bz:=.slice e,.. },some vs=>bK (E e) none λaF=>bK (vp aF.zero) none λz=>
  bH (Nat.ble (Nat.mul len aF.size) 16777216&&Nat.blt 0 (Nat.mul len aF.size)) (bK (w6 (λj=>some (j*aF.size,aF.size)) (zb len z) vs) none λcs=>some (cs,e,len,λid=>.sl id 0 len len)) (bH (Nat.beq len 0&&vs.isEmpty) (some ([],e,0,λid=>.sl id 0 0 0)) none)
 |_,_=>none
def Tq(E:Env)(t:Nat)(l c:Option ak):Option (List ak×Nat×Nat×(Nat->ak)):=match E t,l,c with
 |some { bz:=.slice e,.. },some l,some c=>bK (E e) none λaF=>bK l.nat none λn=>bK c.nat none λk=>bK (vp aF.zero) none λz=>
  bH (Nat.ble n k&&(Nat.ble (Nat.mul aF.bytes k) 140737488355328&&Nat.ble k 9223372036854775807)) (some (zb k z,e,k,λid=>.sl id 0 n k)) none
 |_,_,_=>none
def zc(E:Env)(o:Oper)(aj:a4 ak):Option (List ak×Nat×Nat×(Nat->ak)):=
 match o.op with
 | .box t x=>Tn (E t) t (cI aj x)| .alloc t=>To (E t) t| .buildSlice t len parts=>Tp E t len (Bd aj parts.toList)| .makeSlice t l c=>Tq E t (cI aj l) (cI aj c)| _=>none
def HK(i:Option dH)(m:a8)(x y:Option ak):Option (ak×a8):=bK i none λi=>bK x none λx=>bK y none λv=>bH (Nat.beq v.cells.length i.size) (vr m x v.cells λm=>some (.t [],m)) none
def HL(i:Option dH)(m:a8):Option (ak×a8):=match i with
 |some { bz:=.map k e,.. }=>za m (.map []) λid m=>some (.m id,m)
 |_=>none
def HM(i:Option dH)(v:ak):Bool:=match i,v with
 |some { bz:=.int k,.. },.i cd _=>IntKind.kN k cd| some { bz:=.string,.. },.s _=>true| _,_=>false
def Tr(ok:Bool)(z:ak)(r:Option ak):ak:=bH ok (bK r (.t [z,.b false]) λv=>.t [v,.b true]) (bK r z λv=>v)
def Ml(P:Program)(E:Env)(t:Nat)(m:a8)(x y:Option ak)(ok:Bool):Option (ak×a8):=match E t,x,y with
 |some { bz:=.map k e,.. },some (.m id),some y=>bH (HM (E k) y) (match m.t.get id with
  |some (.map es)=>bK (Ec y es) none λr=>bK (P.info? e) none λinf=>bK inf.zero none λz=>bK (A9 z) none λz=>some (Tr ok z r,m)
  |_=>none) none
 |_,_,_=>none
def Ee(E:Env)(t:Nat)(m:a8)(x y z:Option ak):Option (ak×a8):=match E t,x,y,z with
 |some { bz:=.map k e,.. },some (.m id),some y,some v=>bH (HM (E k) y) (match m.t.get id with
  |some (.map es)=>bK (Ed y v es) none λes=>m.t.lK (some (.map es)) id λt=>some (.t [],⟨t,m.n⟩)
  |_=>none) none
 |_,_,_,_=>none
def HN(G:GT)(m:a8)(id off n:Nat):Option (ak×a8):=tP G m.t (.p id off) n λl=>bK (Bg l) none λl=>some (.s l,m)
def HO(Y:fC)(m:a8)(s d:Nat)(x:Option ak):Option (ak×a8):=match Y.E s,Y.E d,x with
 |some { bz:=.slice e,.. },some { bz:=.string,.. },some (.sl id off n _)=>bH (Be (Y.E e)) (HN Y.G m id off n) none| some { bz:=.slice e,.. },some { bz:=.string,.. },some (.sx id off _ n)=>bH (Be (Y.E e)) (HN Y.G m id off n) none| some { bz:=.slice e,.. },some { bz:=.string,.. },some .sn=>bH (Be (Y.E e)) (some (.s [],m)) none| _,_,_=>none
def Bh:ak->Bool
 | .sn | .so | .sx ..=>true| .sl _ _ n c=>Nat.ble n c| _=>false
def Mm(Y:fC)(m:a8)(ts:List Nat)(l:Option (List ak)):Option (ak×a8):=match ts,l with
 |[t,u],some [s,x]=>(match Y.E t with
  |some { bz:=.slice e,.. }=>bK (Y.E e) none λaF=>bH (tR (Y.E u) aF x) (Bf Y.G m.t x aF.size λl=>bK (qD x) none λk=>
    bH (Nat.beq k 0) (bH (Bh s) (some (s,m)) none) (bH (l.all ak.one) (Eb Y.G m s l k aF.size aF.bytes e) none)) none
  |_=>none)
 |_,_=>none
def Mn(Y:fC)(m:a8)(ts:List Nat)(l:Option (List ak)):Option (ak×a8):=match ts,l with
 |[t,u],some [.sl id off n c,.s q]=>(match Y.E t with
  |some { bz:=.slice e,.. }=>bK (Y.E e) none λaF=>bH (Nat.beq aF.size 1&&Nat.ble q.length n) (vr m (.p id off) (q.map λb=>.i .u8 (.ofNat b.toNat)) λm=>some (.i .i64 (.ofNat q.length),m)) none
  |_=>none)
 |_,_=>none
def Mo(Y:fC)(m:a8)(ts:List Nat)(l:Option (List ak)):Option (ak×a8):=match ts,l with
 |[rU,it],some [.pn,.i .i64 (.ofNat 0)]=>some (.s [],m)
 |[rU,it],some [.p id 0,.i .i64 (.ofNat n)]=>(match Y.E rU,m.t.get id with
  |some { bz:=.pointer e,.. },some (.cells cs T eT)=>bK (Y.E e) none λaF=>
   bH (Nat.beq aF.size 1&&(Nat.beq T e&&Nat.blt 0 n)) (tP Y.G m.t (.p id 0) n λl=>bK (Bg l) none λl=>bH (Nat.ble n 9223372036854775807) (m.t.lK none id λt=>some (.s l,⟨t,m.n⟩)) none) none
  |_,_=>none)
 |_,_=>none
def Ts(Y:fC)(m:a8)(b:Builtin)(ts:List Nat)(l:Option (List ak)):Option (ak×a8):=match b with
 | .append=>Mm Y m ts l| .copy=>Mn Y m ts l| .unsafeString=>Mo Y m ts l| _=>none
def Mp(Y:fC)(m:a8)(o:Oper)(aj:a4 ak):Option (ak×a8):=
 match o.op with
 | .store t x y=>bK o.dst (HK (Y.E t) m (cI aj x) (cI aj y)) λ_=>none
 | .makeMap t none=>HL (Y.E t) m
 | .makeMap t (some x)=>(match cI aj x with
  |some (.i _ _)=>HL (Y.E t) m| _=>none)
 | .lookup t x y ok=>Ml Y.P Y.E t m (cI aj x) (cI aj y) ok| .mapUpdate t x y z=>bK o.dst (Ee Y.E t m (cI aj x) (cI aj y) (cI aj z)) λ_=>none
 | .insert t x y z=>bK o.dst (Ee Y.E t m (cI aj x) (cI aj y) (cI aj z)) λ_=>none
 | .convert s d x=>HO Y m s d (cI aj x)| .call { callee:=.builtin b,args,argTypes }=>Ts Y m b argTypes.toList (l9 aj args.toList)| _=>none
def jS(E:Env)(op:Op):Nat:=match op with
 | .move _ | .assign _ | .pick .. | .binOp .. | .load .. | .nilCheck _ | .fieldAddr .. | .field .. | .indexAddr .. | .index .. | .build .. | .makeFunc .. | .extract .. | .unOp .. | .slice ..=>0| .alloc _ | .box .. | .buildSlice .. | .makeSlice ..=>1
 | .convert s d _=>(match E d with
  |some { bz:=.int _,.. }=>0| _=>2)
 | .call { callee:=.builtin .len,argTypes,.. }=>(match argTypes.toList with
  |[t]=>(match E t with
   |some { bz:=.map ..,.. }=>2| _=>0)
  |_=>2)
 | .call { callee:=.builtin .cap,.. }=>0| .call { callee:=.builtin .max,.. }=>0| .call { callee:=.builtin .min,.. }=>0| .call { callee:=.builtin .unsafeSliceData,.. }=>0| _=>2
def nO{R:Type}(dst:Option Nat)(aj:a4 ak)(v:ak)(K:a4 ak->Option R):Option R:=bK dst (K aj) λd=>Mi v λv=>aj.lK (some v) d K
def Tt{R:Type}(call:ak->List ak->a8->Option (ak×a8))(dst:Option Nat)(f:Option ak)(l:Option (List ak))(aj:a4 ak)(m:a8)(K:a4 ak->a8->Option R):Option R:=
 bK f none λf=>bK l none λl=>bK (call f l m) none λr=>bH (Nat.ble m.n r.2.n) (nO dst aj r.1 λaj=>K aj r.2) none
def Tu{R:Type}(dst:Option Nat)(r:Option (List ak×Nat×Nat×(Nat->ak)))(aj:a4 ak)(m:a8)(K:a4 ak->a8->Option R):Option R:=
 bK dst none λd=>bK r none λr=>sp m r.1 r.2.1 λid m=>nO (some d) aj (r.2.2.2 id) λaj=>K aj m
def Tv{R:Type}(dst:Option Nat)(v:Option ak)(aj:a4 ak)(m:a8)(K:a4 ak->a8->Option R):Option R:=
 bK v none λv=>nO dst aj v λaj=>K aj m
def Tw{R:Type}(dst:Option Nat)(n:Nat)(r:Option (ak×a8))(aj:a4 ak)(K:a4 ak->a8->Option R):Option R:=
 bK r none λr=>bH (Nat.ble n r.2.n) (nO dst aj r.1 λaj=>K aj r.2) none
def Tx{R:Type}(Y:fC)(k:Nat)(o:Oper)(aj:a4 ak)(m:a8)(K:a4 ak->a8->Option R):Option R:=match k with
 |0=>Tv o.dst (sm Y.P Y.E Y.G m.t o.op aj) aj m K| 1=>Tu o.dst (zc Y.E o aj) aj m K| _=>Tw o.dst m.n (Mp Y m o aj) aj K
def w7{R:Type}(Y:fC)(call:ak->List ak->a8->Option (ak×a8))(o:Oper)(aj:a4 ak)(m:a8)(K:a4 ak->a8->Option R):Option R:=
 match o.op with
 | .call { callee:=.value f,args,.. }=>Tt call o.dst (cI aj f) (l9 aj args.toList) aj m K| op=>Tx Y (jS Y.E op) o aj m K
def zd{R:Type}(o:Oper)(aj:a4 ak)(K:a4 ak->Option R):Option R:=match o.dst with
 |none=>K aj| some d=>aj.lK (some (.t [])) d K
def sq(ops:List Oper)(o:Oper)(aj:a4 ak):Option Bool:=match o.guard with
 |none=>some true
 |some (j,b)=>match(tO ops j).bind (·.dst)with
  |none=>none
  |some d=>match aj.get d with
   |some (.b c)=>some (c == b)| some (.t _)=>some false| _=>none
def Bi(Y:fC)(call:ak->List ak->a8->Option (ak×a8))(ops:List Oper)(l:List Oper):a4 ak->a8->Option (a4 ak×a8):=
 @List.rec Oper (λ_=>a4 ak->a8->Option (a4 ak×a8)) (λaj m=>some (aj,m)) (λo _ a2 aj m=>bK (sq ops o aj) none λw=>bH w (w7 Y call o aj m a2) (zd o aj λaj=>a2 aj m)) l
def ze(E:Env)(ops:List Oper)(i:Nat):Nat:=bK (tO ops i) 2 λo=>jS E o.op
def vt(E:Env)(ops:List Oper):List Nat:=(List.range ops.length).filter λi=>Nat.beq (ze E ops i) 2
def Bj(es fZ:List Nat)(i:Nat):Nat:=(es.filter λe=>(fZ.getD i 0).testBit e).length
def zf(es fZ:List Nat)(i:Nat):Nat:=(es.filter λe=>!(fZ.getD e 0).testBit i).length
def Ty(E:Env)(ops:List Oper)(es fZ:List Nat)(j:Nat):List (Nat×Nat):=((List.range ops.length).filter λi=>!Nat.beq (ze E ops i) 2&&Nat.beq (Bj es fZ i) j).map λi=>(i,ze E ops i)
def Tz(E:Env)(ops:List Oper)(es fZ:List Nat):List Nat->Nat->List (Nat×Nat)
 |[],j=>Ty E ops es fZ j| e::l,j=>Ty E ops es fZ j++(e,2)::Tz E ops es fZ l (j+1)
def Ef(E:Env)(ops:List Oper):List (Nat×Nat):=Tz E ops (vt E ops) (jF ops) (vt E ops) 0
def tS(ops:List Oper):List (Nat×Nat)->Nat->Bool
 |[],k=>Nat.beq k (2^ops.length-1)
 |(i,_)::l,k=>!k.testBit i&&(match ops[i]? with
  |some o=>CB o k&&tS ops l (k ||| 2^i)| none=>false)
def HP(fZ:List Nat):List Nat->Bool
 |[]=>true| x::l=>l.all (λy=>(fZ.getD y 0).testBit x)&&HP fZ l
def TA(E:Env)(ops:List Oper):Bool:=F8 ops&&(tS ops (Ef E ops) 0&&(HP (jF ops) (vt E ops)&&(((Ef E ops).filter λr=>Nat.beq r.2 2).map (·.1) == vt E ops)))
mutual
def Bk:ak->ak->Bool
 | .b x,.b w=>x == w| .i k x,.i l w=>IntKind.kN k l&&tM x w| .s x,.s w=>sk x w| .pn,.pn=>true| .p i x,.p j w=>Nat.beq i j&&Nat.beq x w| .g i x,.g j w=>Nat.beq i j&&Nat.beq x w| .sn,.sn=>true| .sl i x n c,.sl j w m d=>Nat.beq i j&&(Nat.beq x w&&(Nat.beq n m&&Nat.beq c d))| .sx i x n c,.sx j w m d=>Nat.beq i j&&(Nat.beq x w&&(Nat.beq n m&&Nat.beq c d))| .gs i x n c,.gs j w m d=>Nat.beq i j&&(Nat.beq x w&&(Nat.beq n m&&Nat.beq c d))| .mn,.mn=>true| .m i,.m j=>Nat.beq i j| .f g l r,.f h m s=>Nat.beq g h&&(tT l m&&tT r s)| .y i,.y j=>Nat.beq i j| .fn,.fn=>true| .ni,.ni=>true| .t l,.t m=>tT l m| .a l,.a m=>tT l m| _,_=>false
def tT:List ak->List ak->Bool
 |[],[]=>true| x::l,w::m=>Bk x w&&tT l m| _,_=>false
end
inductive oH where
 |made(i id:Nat)(l:List ak)(T:Nat)| load (i:Nat) (o:Oper) (aj:a4 ak) (v:ak)
def mT(Y:fC)(call:ak->List ak->a8->Option (ak×a8))(ops:List Oper):List (Nat×Nat)->a4 ak->a8->List a8->List oH->Option (a4 ak×a8×List a8×List oH)
 |[],aj,m,S,A=>some (aj,m,m::S,A)|(i,k)::rest,aj,m,S,A=>bK (tO ops i) none λo=>bK (sq ops o aj) none λw=>bH (Nat.beq (jS Y.E o.op) k) (bH w (bH (Nat.beq k 0) (bK (sm Y.P Y.E Y.G m.t o.op aj) none λv=>nO o.dst aj v λcv=>mT Y call ops rest cv m S (bH (oa o.op) (.load i o aj v::A) A)) (bH (Nat.beq k 1) (bK o.dst none λd=>bK (zc Y.E o aj) none λr=>sp m r.1 r.2.1 λid m=>nO (some d) aj (r.2.2.2 id) λaj=>mT Y call ops rest aj m S (.made i id r.1 r.2.1::A)) (w7 Y call o aj m λaj m'=>mT Y call ops rest aj m' (m::S) A))) (zd o aj λaj=>mT Y call ops rest aj m (bH (Nat.beq k 2) (m::S) S) A)) none
def Bl(S:List a8)(lo hi:Nat)(p:a8->Bool):Bool:=((S.drop lo).take (hi+1-lo)).all p
def Mq(Y:fC)(o:Oper)(aj:a4 ak)(v:ak)(m:a8):Bool:=match sm Y.P Y.E Y.G m.t o.op aj with
 |some u=>Bk u v| none=>false
def Ms(id:Nat)(l:List ak)(T:Nat)(m:a8):Bool:=Nat.blt id m.n&&(match m.t.get id with
 |some (.cells cs lk eT)=>Nat.beq lk T&&(Nat.beq eT l.length&&(match cs.A7 0 l.length (λcU=>some cU)with
  |some cU=>tT l cU| none=>false))
 |_=>false)
def Mt(Y:fC)(es fZ:List Nat)(S:List a8):oH->Bool
 | .made i id l T=>Bl S (Bj es fZ i) (zf es fZ i) (Ms id l T)| .load i o aj v=>Bl S (Bj es fZ i) (zf es fZ i) (Mq Y o aj v)
def Mu(Y:fC)(call:ak->List ak->a8->Option (ak×a8))(ops:List Oper)(aj:a4 ak)(m:a8):Option (a4 ak×a8):=
 bH (TA Y.E ops) (match mT Y call ops (Ef Y.E ops) aj m [] []with
  |none=>none| some (aj,m,S,A)=>bH (A.all (Mt Y (vt Y.E ops) (jF ops) S.reverse)) (some (aj,m)) none) none
def Bm{R:Type}:List Nat->List ak->a4 ak->(a4 ak->Option R)->Option R
 |[],[],aj,K=>K aj| t::ps,v::vs,aj,K=>aj.lK (some v) t λaj=>Bm ps vs aj K
 |_,_,_,_=>none
def w8(Y:fC)(aj:a4 ak)(m:a4 fj):List ResultVar->Option (List ak)
 |[]=>some []
 | .tmp t::l=>(match aj.get t,w8 Y aj m l with
  |some v,some vs=>some (v::vs)| _,_=>none)
 | .cell t ty::l=>(match aj.get t,Y.E ty,w8 Y aj m l with
  |some x,some i,some vs=>(match tP Y.G m x i.size λl=>Bb i.bz.agg l with
   |some v=>some (v::vs)| none=>none)
  |_,_,_=>none)
abbrev nP:=q2×a4 ak×a8
abbrev rB:=Bool->Nat->Code->a4 ak->a8->Option nP
def TB:List ak->ak
 |[v]=>v| vs=>.t vs
def HQ(Y:fC)(aj:a4 ak)(m:a8)(aU:List ResultVar):Option (ak×a8):=bK (w8 Y aj m.t aU) none λvs=>some (TB vs,m)
def TC(Y:fC)(r:Option nP)(aU:List ResultVar):Option (ak×a8):=match r with
 |some (.normal,aj,m)=>HQ Y aj m aU| some (.ret,aj,m)=>HQ Y aj m aU| _=>none
def HR(Y:fC)(rec:rB)(g:Nat)(args:List ak)(m:a8):Option (ak×a8):=
 bK (Y.P.funcs[g]?) none λfn=>bK fn.body none λc=>bH (Nat.ble args.length fn.ntmps) (a4.vo args (a4.bare 12) 0 λaj=>TC Y (rec true fn.ntmps c aj m) fn.results.toList) none
def tU(Y:fC)(rec:rB)(g:Nat)(args:List ak)(m:a8):Option (ak×a8):=bK (Y.pr g args m) (HR Y rec g args m) some
def Mv(l:Nat)(e:Option fj)(jump:Option Code)(m:a8):Option (ak×a8):=match e with
 |some (.loop true n k8 ps eC body)=>m.t.lK (some (bK jump (.loop false n k8 ps eC body) λc=>.done c n k8 ps eC body)) l λt=>some (.b jump.isNone,⟨t,m.n⟩)
 |_=>none
def TD(l:Nat)(r:Option nP):Option (ak×a8):=bK r none λr=>Mv l (r.2.2.t.get l) (Av r.1) r.2.2
def Mw(rec:rB)(l n:Nat)(body:Code)(e:Option fj)(aj:a4 ak)(m:a8):Option (ak×a8):=match e with
 |some (.loop false fB k8 ps eC Mx)=>m.t.lK (some (.loop true fB k8 ps eC Mx)) l λt=>TD l (rec false n body aj ⟨t,m.n⟩)
 |_=>none
def TE(rec:rB)(l n:Nat)(body:Code)(r:Option nP):Option (ak×a8):=match r with
 |some (.normal,aj,m)=>Mw rec l n body (m.t.get l) aj m| _=>none
def My(rec:rB)(l:Nat)(args:List ak)(m:a8):Option (ak×a8):=match m.t.get l with
 |some (.loop false n k8 ps eC body)=>Bm ps args k8 λaj=>TE rec l n body (rec false n eC aj m)
 |_=>none
def HS(Y:fC)(rec:rB)(f:ak)(args:List ak)(m:a8):Option (ak×a8):=match f with
 | .f g l r=>tU Y rec g (l++(args++r)) m| .y l=>My rec l args m| _=>none
def Mz:Code->Option q2
 | .exit id=>some (.exit id)| .goto l=>some (.goto l)| .ret=>some .ret| _=>none
def Eg(r:Option nP)(k:a4 ak->a8->Option nP):Option nP:=match r with
 |some (.normal,aj,m)=>k aj m| r=>r
def TF(id:Nat)(r:Option nP):Option nP:=match r with
 |some (.exit j,aj,m)=>bH (Nat.beq j id) (some (.normal,aj,m)) (some (.exit j,aj,m))| r=>r
def HT(r:Option (a4 ak×a8)):Option nP:=bK r none λr=>some (.normal,r.1,r.2)
def TG(v:Option ak)(x y:Option nP):Option nP:=match v with
 |some (.b b)=>bH b x y| _=>none
def Eh(rec:rB)(hx:Bool)(n:Nat)(c:Code)(k:Nat):Code->a4 ak->a8->Option nP:=@Nat.rec (λ_=>Code->a4 ak->a8->Option nP) (λ_ _ _=>none)
 (λ_ a2 x aj m=>match rec hx n x aj m with
  |some (.goto l,aj,m)=>bK (findLabel c l) none λrest=>a2 rest aj m
  |r=>r) k
def TH(l:Nat)(aj:a4 ak)(r:Option (ak×a8)):Option nP:=bK r none λr=>match r.2.t.get l with
 |some (.loop false ..)=>r.2.t.lK none l λt=>some (.normal,aj,⟨t,r.2.n⟩)
 |some (.done c ..)=>bK (Mz c) none λex=>r.2.t.lK none l λt=>some (ex,aj,⟨t,r.2.n⟩)
 |_=>none
def MA(Y:fC)(rec:rB)(hx:Bool)(n:Nat)(v:Option ak)(ps:List Nat)(eC body:Code)(aj:a4 ak)(m:a8):Option nP:=match hx,v with
 |true,some (.f g [] r)=>za m (.loop false n aj ps eC body) λl m=>TH l aj (HR Y rec g (.y l::r) m)
 |_,_=>none
def MB(Y:fC)(f:Nat)(rec:rB):rB:=λhx n c aj m=>match c with
 | .skip=>some (.normal,aj,m)| .label _=>some (.normal,aj,m)| .ret=>some (.ret,aj,m)| .exit id=>some (.exit id,aj,m)| .goto l=>some (.goto l,aj,m)| .seq x y=>Eg (rec hx n x aj m) (rec hx n y)| .block id c=>TF id (rec hx n c aj m)| .cond c x y=>TG (cI aj c) (rec hx n x aj m) (rec hx n y aj m)| .loop c=>Eg (rec hx n c aj m) (rec hx n (.loop c))| .region _ ops false=>HT (Bi Y (HS Y rec) ops.toList ops.toList aj m)| .region _ ops true=>HT (Mu Y (HS Y rec) ops.toList aj m)| .scope c=>Eh rec hx n c f c aj m| .rangeFunc x ps eC body=>MA Y rec hx n (cI aj x) ps.toList eC body aj m| .refuse _=>none
def jv(Y:fC)(f:Nat):rB:=@Nat.rec (λ_=>rB) (λ_ _ _ _ _=>none) (λf a2=>MB Y f a2) f
end
section
variable{α R:Type}
def jw(b:Bool)(x y:α):bH b x y=bif b then x else y:=by cases b<;>rfl
def ch{o:Option α}{f:α->Option R}{r:R}(h:bK o none f=some r):∃ v,o=some v/\f v=some r:=by
 cases o with
 |none=>cases h| some v=>exact⟨v,rfl,h⟩
def fS{b:Bool}{x:Option α}{r:α}(h:bH b x none=some r):b=true/\x=some r:=by
 cases b with
 |true=>exact⟨rfl,h⟩| false=>cases h
def w9{b:Bool}{x:Option α}{r:α}(h:bH b none x=some r):b=false/\x=some r:=by
 cases b with
 |false=>exact⟨rfl,h⟩| true=>cases h
def a4.Ei(x:Option α)(l r:a4 α)(k:Nat):(a4.node x l r).get k=bif Nat.beq k 0 then x else bif Nat.beq (k%2) 1 then l.get (k/2)else r.get (k/2-1):=by show bH _ _ (bH _ _ _)=_;rw[jw,jw];rfl
def a4.mU(v:Option α):∀ (t:a4 α) (k:Nat),∃ eB:a4 α,(∀ {R:Type} (K:a4 α->R),t.lK v k K=K eB)/\∀ j x,eB.get j=some x->(j=k/\v=some x)\/(j≠k/\t.get j=some x)
 | .nil,k=>by
  cases ae:Nat.beq k 0 with
  |true=>
   have:=cC ae;subst this;refine⟨.node v .nil .nil,λK=>rfl,λj x h=>?_⟩;rw[a4.Ei]at h;cases al:Nat.beq j 0 with
   |true=>rw[al]at h;exact .inl ⟨cC al,h⟩
   |false=>
    rw[al]at h;cases hm:Nat.beq (j%2) 1<;>(rw[hm]at h;cases h)
  |false=>refine⟨.nil,λK=>?_,λj x h=>by cases h⟩;show bH _ _ _=_;rw[jw,ae];rfl
 | .node x l r,k=>by
  cases ae:Nat.beq k 0 with
  |true=>
   have:=cC ae;subst this;refine⟨.node v l r,λK=>rfl,λj y h=>?_⟩;rw[a4.Ei]at h |-;cases al:Nat.beq j 0 with
   |true=>rw[al]at h;exact .inl ⟨cC al,h⟩| false=>rw[al]at h;exact .inr ⟨(λe=>by subst e;cases al),h⟩
  |false=>
   have fQ:k≠0:=λe=>by subst e;cases ae
   cases hm:Nat.beq (k%2) 1 with
   |true=>
    have p5:=cC hm;obtain⟨cU,U,aa⟩:=a4.mU v l (k/2);refine⟨.node x cU r,λK=>?_,λj y h=>?_⟩;·show bH _ _ (bH _ _ _)=_;rw[jw,jw,ae];show(bif Nat.beq (k%2) 1 then _ else _)=_;rw[hm];exact U _
    ·rw[a4.Ei]at h |-;cases al:Nat.beq j 0 with
     |true=>rw[al]at h;exact .inr ⟨λe=>by have:=cC al;omega,h⟩
     |false=>
      rw[al]at h;have acA:j≠0:=λe=>by subst e;cases al
      cases rC:Nat.beq (j%2) 1 with
      |true=>
       have acB:=cC rC;rw[rC]at h;rcases aa _ _ h with⟨e,ah⟩ | ⟨e,ah⟩;·exact .inl ⟨by omega,ah⟩
       ·exact .inr ⟨λa0=>e (by rw[a0]),ah⟩
      |false=>rw[rC]at h;exact .inr ⟨(λe=>by subst e;rw[hm]at rC;cases rC),h⟩
   |false=>
    have p5:k%2≠1:=λe=>by rw[e]at hm;cases hm
    obtain⟨pb,U,aa⟩:=a4.mU v r (k/2-1);refine⟨.node x l pb,λK=>?_,λj y h=>?_⟩;·show bH _ _ (bH _ _ _)=_;rw[jw,jw,ae];show(bif Nat.beq (k%2) 1 then _ else _)=_;rw[hm];exact U _
    ·rw[a4.Ei]at h |-;cases al:Nat.beq j 0 with
     |true=>rw[al]at h;exact .inr ⟨λe=>by have:=cC al;omega,h⟩
     |false=>
      rw[al]at h;have acA:j≠0:=λe=>by subst e;cases al
      cases rC:Nat.beq (j%2) 1 with
      |true=>rw[rC]at h;exact .inr ⟨(λe=>by subst e;rw[hm]at rC;cases rC),h⟩
      |false=>
       have acB:j%2≠1:=λe=>by rw[e]at rC;cases rC
       rw[rC]at h;rcases aa _ _ h with⟨e,ah⟩ | ⟨e,ah⟩;·exact .inl ⟨by omega,ah⟩
       ·exact .inr ⟨λa0=>e (by rw[a0]),ah⟩
def a4.Bn(t:a4 α):∀ (n off:Nat) (K:List α->Option R) (r:R),t.A7 off n K=some r->∃ l,l.length=n/\(∀ i,i<n->t.get (off+i)=l[i]?)/\K l=some r
 |0,off,K,r,h=>⟨[],rfl,λi hi=>by omega,h⟩
 |n+1,off,K,r,h=>by
  have a1:bK (t.get off) none (λv=>t.A7 (off+1) n λl=>K (v::l))=some r:=h;obtain⟨v,ah,a1⟩:=ch a1;obtain⟨l,U,aa,ag⟩:=a4.Bn t n (off+1) _ r a1;refine⟨v::l,by simp[U],λi hi=>?_,ag⟩;cases i with
  |zero=>simpa using ah| succ i=>have:=aa i (by omega);rw[show off+(i+1)=off+1+i by omega,this];simp
def a4.vu:∀ (l:List α) (t:a4 α) (off:Nat),∃ eB:a4 α,(∀ {R:Type} (K:a4 α->R),a4.vo l t off K=K eB) /\ ∀ j x,eB.get j=some x->(off<=j/\l[j-off]?=some x)\/((j<off\/off+l.length<=j)/\t.get j=some x)
 |[],t,off=>⟨t,λK=>rfl,λj x h=>.inr ⟨by simp;omega,h⟩⟩
 |v::l,t,off=>by
  obtain⟨t1,U,aa⟩:=a4.mU (some v) t off;obtain⟨t2,ag,aK⟩:=a4.vu l t1 (off+1);refine⟨t2,λK=>(U _).trans (ag K),λj x h=>?_⟩;rcases aK j x h with⟨aR,aV⟩ | ⟨aR,aV⟩;·exact .inl ⟨by omega,by rw[show j-off=(j-(off+1))+1 by omega];simpa using aV⟩
  ·rcases aa j x aV with⟨rfl,e⟩ | ⟨e,bl⟩
   ·exact .inl ⟨b6 _,by simp at e;simp[e]⟩
   ·exact .inr ⟨by simp only[c5];omega,bl⟩
end
def MC(n:Nat)(K:Nat->R):pF n K=K n:=rfl
def acC(n:Int)(K:Int->R):Tl n K=K n:=by cases n<;>rfl
def acD(b:Bool)(K:Bool->R):Tm b K=K b:=by cases b<;>rfl
def acE(v:ak)(K:ak->R):Mi v K=K v:=by
 cases v with
 |b x=>exact acD x λx=>K (.b x)
 |i k n=>exact acC n λn=>K (.i k n)
 |_=>rfl
def MD(a b:Nat):Nat.beq a b=decide (a=b):=by
 by_cases h:a=b
 ·subst h;simp
 ·rw[gh h];simp[h]
def HU(a b:Nat):Nat.ble a b=decide (a<=b):=by
 by_cases h:a<=b
 ·rw[yN h];simp[h]
 ·cases af:Nat.ble a b with
  |false=>simp[h]| true=>exact absurd (bB af) h
def Bo(a b:Int):tM a b=decide (a=b):=by
 cases a<;>cases b<;>simp only[tM,MD]<;>simp
 omega
def HV(a b:Int):y7 a b=decide (a<=b):=by
 cases a<;>cases b<;>simp only[y7]
 ·rw[HU];simp only[AF];exact Int.ofNat_le.symm
 ·symm;simp only[mB];rename_i a b;have:=Int.negSucc_lt_zero b;have:(0:Int)<=Int.ofNat a:=Hg a;omega
 ·symm;simp only[ft];rename_i a b;have:=Int.negSucc_lt_zero a;have:(0:Int)<=Int.ofNat b:=Hg b;omega
 ·rw[HU];simp only[AF,Int.negSucc_eq];omega
def acF(a b:Int):Ab a b=decide (a<b):=by
 unfold Ab;rw[HV];by_cases h:a<b
 ·simp[h]
 ·simp[h];omega
def acG(op:BinOp)(x y:Int):LY op x y=uB op x y:=by cases op<;>simp only[LY,uB,Bo,acF,HV]
def xa(k:IntKind)(n:Int):tN k n=k.wrap n:=by
 cases n with
 |negSucc n=>rfl
 |ofNat n=>
  simp only[tN];cases h:Nat.ble n (HE k)with
  |false=>rfl
  |true=>
   have a1:=bB h;simp only[ba];cases k<;>simp only[HE]at a1<;>simp only[IntKind.wrap,IntKind.signed,IntKind.bits]<;>simp<;>omega
def acH(a b:Int):SW a b=a+b:=by cases a<;>cases b<;>rfl
def acI(a b:Int):LZ a b=a-b:=by
 cases a<;>cases b<;>try rfl
 rename_i a b;simp only[LZ];cases h:Nat.ble b a with
 |false=>rfl| true=>have:=bB h;show((a-b:Nat):Int)=(a:Int)-b;omega
def acJ(a b:Int):SX a b=a*b:=by cases a<;>cases b<;>rfl
def acK(a b:Int):SY a b=a.tdiv b:=by cases a<;>cases b<;>rfl
def acL(a b:Int):SZ a b=a.tmod b:=by cases a<;>cases b<;>rfl
def acM(a:Int)(j:Nat):S0 a j=a*2^j:=by
 cases a with
 |negSucc a=>rfl| ofNat a=>show((a*2^j:Nat):Int)=(a:Int)*2^j;simp
def acN(a:Int)(j:Nat):S1 a j=a.fdiv (2^j):=by
 cases a with
 |negSucc a=>rfl| ofNat a=>show((a/2^j:Nat):Int)=(a:Int).fdiv (2^j);rw[show(2:Int)^j=((2^j:Nat):Int) by simp];rw[Gj _ (Hg _)];simp
def TI(j b:Nat):(bif Nat.ble j b then j else b)=min j b:=by
 rw[HU];by_cases h:j<=b
 ·simp[h,Ce h]
 ·simp[h];omega
def xb{a:Nat}(h:a<=18446744073709551615):(BitVec.ofInt IntKind.u64.bits (Int.ofNat a)).toNat=a:=by show(BitVec.ofInt 64 (a:Int)).toNat=a;rw[BitVec.ofInt_natCast,Ly];omega
def wrap64{a:Nat}(h:a<=18446744073709551615):IntKind.u64.wrap (a:Int)=Int.ofNat a:=by show IntKind.u64.wrap (.ofNat a)=_;rw[<-xa];simp only[tN,HE,yN h,ba]
def HW{op:BinOp}{k:IntKind}{x y r:Int}(h:A' op k x y=some r):rM op k x y=some r:=by
 unfold A' at h;split at h
 ·rename_i a b;cases aA:(Nat.ble a 18446744073709551615&&Nat.ble b 18446744073709551615)with
  |false=>rw[aA]at h;cases h
  |true=>
   rw[aA]at h;rw[bL]at aA;have aD:=bB aA.1;have af:=bB aA.2;have TJ:a<2^64:=by omega
   have HX:b<2^64:=by omega
   simp only[ba]at h;split at h;·rw[<-h];simp only[rM,Gq,xb aD,xb af];rw[wrap64 (by have:=Nat.and_lt_two_pow a HX;omega)];rfl
   ·rw[<-h];simp only[rM,BitVec.toNat_or,xb aD,xb af];rw[wrap64 (by have:=Nat.or_lt_two_pow TJ HX;omega)];rfl
   ·rw[<-h];simp only[rM,BitVec.toNat_xor,xb aD,xb af];rw[wrap64 (by have:=Nat.xor_lt_two_pow TJ HX;omega)];rfl
   ·rw[<-h];have av:(~~~(BitVec.ofInt IntKind.u64.bits (Int.ofNat b))).toNat=18446744073709551615-b:=by rw[BitVec.toNat_not,xb af];rfl
    simp only[rM,Gq,xb aD,av];rw[wrap64 (by have:=Nat.and_lt_two_pow a (show 18446744073709551615-b<2^64 by omega);omega)];rfl
   ·cases h
 ·exact h
def acO(a b:UInt8):L0 a b=decide (a=b):=by unfold L0;rw[MD];simp only[AF];exact UInt8.toNat_inj
def Bp:∀ (l m:List UInt8),sk l m=decide (l=m)
 |[],[]=>by simp[sk]
 |[],_::_=>by simp[sk]
 |_::_,[]=>by simp[sk]
 |a::l,b::m=>by
  simp only[sk,acO,Bp l m];by_cases h:a=b;·subst h;simp
  ·simp[h]
def xc{α:Type}:∀ (l:List α) (n:Nat),tO l n=l[n]?
 |[],n=>by simp[tO]
 |v::l,n=>by
  unfold tO;cases n with
  |zero=>rfl| succ n=>exact(xc l n).trans (by simp)
def HY{α:Type}:∀ (l:List α) (n:Nat),y9 l n=l.drop n
 |[],n=>by simp[y9]
 |v::l,n=>by
  unfold y9;cases n with
  |zero=>rfl| succ n=>exact(HY l n).trans (by simp)
def TK{n:Nat}{l r:List ak}(h:y8 n l=some r):r=l.take n/\r.length=n:=by
 induction n generalizing l r with
 |zero=>simp[y8]at h;subst h;simp
 |succ n a2=>
  cases l with
  |nil=>simp[y8]at h
  |cons v l=>
   simp only[y8]at h;split at h;·rename_i q aE;obtain⟨rfl,aa⟩:=a2 aE;cases h;simp at aa |-;omega
   ·cases h
structure Loc where
 b:Nat
 o:Nat
 c:Nat
abbrev bu:=Nat->Option Loc
def bu.le(D bf:bu):Prop:=∀ i a,D i=some a->bf i=some a
mutual
def aM(D:bu):ak->Value->Prop
 | .b x,u=>u=.bool x| .i k n,u=>u=.int k n| .s l,u=>u=.string ⟨l.toArray⟩| .pn,u=>u=.pointer none| .p id off,u=>∃ a,D id=some a/\u=.pointer (some ⟨a.b,a.o+off,none⟩)| .g n off,u=>u=.pointer (some ⟨n,off,none⟩)| .sn,u=>u=.slice none 0 0| .sl id off n c,u=>∃ a,D id=some a/\u=.slice (some ⟨a.b,a.o+off,none⟩) n c| .sx id off e n,u=>∃ a,D id=some a/\e+n<=a.c/\u=.slice (some ⟨a.b,a.o+off,none⟩) n (a.c-e)| .gs n off k c,u=>u=.slice (some ⟨n,off,none⟩) k c| .so,u=>∃ a c,u=.slice (some a) 0 c| .mn,u=>u=.map none| .m id,u=>∃ a,D id=some a/\u=.map (some a.b)| .f g l r,u=>∃ vs ws,bq D l vs/\bq D r ws/\u=.func (.func g) vs.toArray ws.toArray| .y id,u=>∃ a,D id=some a/\u=.func (.yield a.b) #[] #[]| .fn,u=>u=.nilFunc| .ni,u=>u=.nilIface| .A8 t v,u=>∃ x,aM D v x/\u=.iface t x| .t l,u=>∃ vs,bq D l vs/\u=.tuple vs.toArray| .a l,u=>∃ vs,bq D l vs/\u=.agg vs.toArray
def bq(D:bu):List ak->List Value->Prop
 |[],us=>us=[]| v::l,us=>∃ x xs,aM D v x/\bq D l xs/\us=x::xs
end
section
variable{D bf:bu}
mutual
def aM.mono(h:D.le bf):∀ {v:ak} {u:Value},aM D v u->aM bf v u
 | .b _,_,ah | .i _ _,_,ah | .s _,_,ah | .pn,_,ah | .g _ _,_,ah | .sn,_,ah | .gs ..,_,ah | .so,_,ah | .mn,_,ah | .fn,_,ah | .ni,_,ah=>by simpa only[aM]using ah
 | .p ..,_,ah | .sl ..,_,ah | .m _,_,ah | .y _,_,ah=>by simp only[aM]at ah |-;obtain⟨a,U,aa⟩:=ah;exact⟨a,h _ _ U,aa⟩
 | .sx ..,_,ah=>by simp only[aM]at ah |-;obtain⟨a,U,aa⟩:=ah;exact⟨a,h _ _ U,aa⟩
 | .f _ l r,_,ah=>by simp only[aM]at ah |-;obtain⟨vs,ws,U,aa,ag⟩:=ah;exact⟨vs,ws,bq.mono h U,bq.mono h aa,ag⟩
 | .A8 _ v,_,ah=>by simp only[aM]at ah |-;obtain⟨x,U,aa⟩:=ah;exact⟨x,aM.mono h U,aa⟩
 | .t l,_,ah=>by simp only[aM]at ah |-;obtain⟨x,U,aa⟩:=ah;exact⟨x,bq.mono h U,aa⟩
 | .a l,_,ah=>by simp only[aM]at ah |-;obtain⟨x,U,aa⟩:=ah;exact⟨x,bq.mono h U,aa⟩
def bq.mono(h:D.le bf):∀ {l:List ak} {us:List Value},bq D l us->bq bf l us
 |[],_,ah=>by simpa only[bq]using ah
 |v::l,_,ah=>by simp only[bq]at ah |-;obtain⟨x,xs,U,aa,ag⟩:=ah;exact⟨x,xs,aM.mono h U,bq.mono h aa,ag⟩
end
def bq.nil:bq D [] []:=by simp[bq]
def bq.cons{v:ak}{l:List ak}{x:Value}{xs:List Value}(h:aM D v x)(k:bq D l xs):bq D (v::l) (x::xs):=by simp only[bq];exact⟨x,xs,h,k,rfl⟩
def bq.iU{v:ak}{l:List ak}{us:List Value}(h:bq D (v::l) us):∃ x xs,aM D v x/\bq D l xs/\us=x::xs:=by simpa only[bq]using h
def bq.lL{us:List Value}(h:bq D [] us):us=[]:=by simpa only[bq]using h
def bq.len:∀ {l:List ak} {us:List Value},bq D l us->us.length=l.length
 |[],_,h=>by rw[h.lL];rfl
 |v::l,_,h=>by obtain⟨x,xs,U,aa,rfl⟩:=h.iU;simp[bq.len aa]
def bq.get:∀ {l:List ak} {us:List Value} {i:Nat} {v:ak},bq D l us->l[i]?=some v->∃ x,us[i]?=some x/\aM D v x
 |[],_,i,v,h,hi=>by simp at hi
 |w::l,_,i,v,h,hi=>by
  obtain⟨x,xs,U,aa,rfl⟩:=h.iU;cases i with
  |zero=>simp at hi;subst hi;exact⟨x,rfl,U⟩| succ i=>simpa using bq.get aa (by simpa using hi)
def bq.ME:∀ {l:List ak} {us:List Value},us.length=l.length->(∀ (i:Nat) (v:ak),l[i]?=some v->∃ x,us[i]?=some x/\aM D v x)->bq D l us
 |[],us,ay,h=>by have:us=[]:=lV (by simpa using ay);subst this;exact .nil
 |w::l,us,ay,h=>by
  cases us with
  |nil=>simp at ay| cons x xs=>obtain⟨y,aG,U⟩:=h 0 w rfl;simp at aG;subst aG;exact .cons U (bq.ME (by simpa using ay) λi v hi=>by simpa using h (i+1) v (by simpa using hi))
def bq.append:∀ {l:List ak} {us:List Value} {m:List ak} {ws:List Value},bq D l us->bq D m ws->bq D (l++m) (us++ws)
 |[],_,m,ws,h,k=>by rw[h.lL];exact k
 |w::l,_,m,ws,h,k=>by obtain⟨x,xs,U,aa,rfl⟩:=h.iU;exact .cons U (bq.append aa k)
def bq.take:∀ {l:List ak} {us:List Value} (n:Nat),bq D l us->bq D (l.take n) (us.take n)
 |[],_,n,h=>by rw[h.lL];simpa using bq.nil
 |w::l,_,n,h=>by
  obtain⟨x,xs,U,aa,rfl⟩:=h.iU;cases n with
  |zero=>simpa using bq.nil| succ n=>simpa using bq.cons U (bq.take n aa)
def bq.drop:∀ {l:List ak} {us:List Value} (n:Nat),bq D l us->bq D (l.drop n) (us.drop n)
 |[],_,n,h=>by rw[h.lL];simpa using bq.nil
 |w::l,us,n,h=>by
  cases n with
  |zero=>simpa using h| succ n=>obtain⟨x,xs,U,aa,rfl⟩:=h.iU;simpa using bq.drop n aa
def bq.l3{l:List ak}{us:List Value}(h:bq D l us):∀ n,bq D (zb n l) ((List.replicate n us).flatten)
 |0=>by simpa[zb]using bq.nil
 |n+1=>by rw[Hf,KG];exact h.append (bq.l3 h n)
def aM.bool{x:Bool}{u:Value}(h:aM D (.b x) u):u=.bool x:=by simpa only[aM]using h
def aM.int{k:IntKind}{n:Int}{u:Value}(h:aM D (.i k n) u):u=.int k n:=by simpa only[aM]using h
def aM.str{l:List UInt8}{u:Value}(h:aM D (.s l) u):u=.string ⟨l.toArray⟩:=by simpa only[aM]using h
def aM.ptr{id off:Nat}{u:Value}(h:aM D (.p id off) u):∃ a,D id=some a/\u=.pointer (some ⟨a.b,a.o+off,none⟩):=by simpa only[aM]using h
def aM.oI{id off:Nat}{u:Value}(h:aM D (.g id off) u):u=.pointer (some ⟨id,off,none⟩):=by simpa only[aM]using h
def aM.qE{id off n c:Nat}{u:Value}(h:aM D (.sl id off n c) u):∃ a,D id=some a/\u=.slice (some ⟨a.b,a.o+off,none⟩) n c:=by simpa only[aM]using h
def aM.sr{id off e n:Nat}{u:Value}(h:aM D (.sx id off e n) u):∃ a,D id=some a/\e+n<=a.c/\u=.slice (some ⟨a.b,a.o+off,none⟩) n (a.c-e):=by simpa only[aM]using h
def aM.MF{id off n c:Nat}{u:Value}(h:aM D (.gs id off n c) u):u=.slice (some ⟨id,off,none⟩) n c:=by simpa only[aM]using h
def aM.HZ{u:Value}(h:aM D .so u):∃ a c,u=.slice (some a) 0 c:=by simpa only[aM]using h
def aM.zg{u:Value}(h:aM D .sn u):u=.slice none 0 0:=by simpa only[aM]using h
def aM.agg{l:List ak}{u:Value}(h:aM D (.a l) u):∃ vs,bq D l vs/\u=.agg vs.toArray:=by simpa only[aM]using h
def aM.MG{l:List ak}{u:Value}(h:aM D (.t l) u):∃ vs,bq D l vs/\u=.tuple vs.toArray:=by simpa only[aM]using h
def aM.H0{l:List ak}(h:bq D l vs):aM D (.a l) (.agg vs.toArray):=by simp only[aM];exact⟨vs,h,rfl⟩
def aM.H2{l:List ak}(h:bq D l vs):aM D (.t l) (.tuple vs.toArray):=by simp only[aM];exact⟨vs,h,rfl⟩
def aM.undef:aM D (.t []) undef:=by simp only[aM];exact⟨[],.nil,rfl⟩
def aM.cells{v:ak}{u:Value}(h:aM D v u):bq D v.cells u.cells.toList:=by
 cases v<;>simp only[ak.cells]
 case a l=>obtain⟨vs,U,rfl⟩:=h.agg;simpa[Value.cells]using U
 all_goals
  have key:∀ w:Value,(∀ cs,w≠.agg cs)->w.cells.toList=[w]:=λw hw=>by cases w<;>first | rfl | exact(hw _ rfl).elim
  rw[key u ?_];·exact .cons h .nil
  ·rintro cs rfl;simp[aM]at h
def aM.one{v:ak}{u:Value}(h:aM D v u)(ap:v.one=true):u.oneCell'=true:=by
 cases v<;>simp only[ak.one,iP]at ap<;>simp only[aM]at h
 all_goals first
  |(subst h;rfl)|(obtain⟨_,_,rfl⟩:=h;rfl)|(obtain⟨_,_,_,rfl⟩:=h;rfl)|(obtain⟨_,_,_,_,rfl⟩:=h;rfl)
def bq.one{l:List ak}{us:List Value}(h:bq D l us)(ap:l.all ak.one=true):gS us=true:=by refine gq.2 λx ab=>?_;obtain⟨i,hi⟩:=He ab;have aL:=(ij.1 hi).1;rw[h.len]at aL;obtain⟨y,aG,ah⟩:=h.get (gu aL);rw[hi]at aG;cases aG;exact ah.one (gq.1 ap _ (cO aL))
def aM.TL{u:Value}{v:ak}(h:D5 u=some v):aM D v u:=by
 unfold D5 at h;split at h<;>cases h<;>simp[aM]
def bq.yR:∀ {us:List Value} {l:List ak},vp us=some l->bq D l us
 |[],l,h=>by simp only[vp]at h;cases h;exact .nil
 |u::us,l,h=>by
  simp only[vp]at h;split at h;·rename_i x m U aa;cases h;exact .cons (.TL U) (bq.yR aa)
  ·cases h
def aM.of{u:Value}{v:ak}(h:A9 u=some v):aM D v u:=by
 unfold A9 at h;split at h
 ·split at h
  ·rename_i l ay;cases h;have:=bq.yR (D:=D) ay;simpa using aM.H0 this
  ·cases h
 ·exact .TL h
def H3{agg:Bool}{l:List ak}{v:ak}(h:Bb agg l=some v)(ay:bq D l vs):aM D v (pack agg vs):=by
 unfold Bb at h;cases agg with
 |true=>simp only[ba]at h;cases h;exact .H0 ay
 |false=>
  simp only[a5]at h;split at h;·cases h;obtain⟨x,xs,U,aa,rfl⟩:=ay.iU;rw[aa.lL];exact U
  ·cases h
def MH:∀ {cs:List ak} {off:Nat} {vs r:List ak} {us xs:List Value},vq cs off vs=some r->bq D cs us->bq D vs xs->bq D r (bw us off xs)/\off+xs.length<=us.length
 |cs,0,[],r,us,xs,h,aA,ah=>by simp[vq]at h;subst h;rw[ah.lL];exact⟨by simpa[bw]using aA,by simp⟩
 |[],0,_::_,r,us,xs,h,aA,ah=>by simp[vq]at h
 |[],_+1,_,r,us,xs,h,aA,ah=>by simp[vq]at h
 |c::cs,0,v::vs,r,us,xs,h,aA,ah=>by
  simp only[vq]at h;split at h
  ·rename_i q aE;cases h;obtain⟨x,us,U,aa,rfl⟩:=aA.iU;obtain⟨y,xs,ag,aK,rfl⟩:=ah.iU;obtain⟨bg,bD⟩:=MH aE aa aK;refine⟨?_,by simp at bD |-;omega⟩;have e:bw (x::us) 0 (y::xs)=y::bw us 0 xs:=by simp[bw]
   rw[e];exact .cons ag bg
  ·cases h
 |c::cs,n+1,vs,r,us,xs,h,aA,ah=>by
  simp only[vq]at h;split at h
  ·rename_i q aE;cases h;obtain⟨x,us,U,aa,rfl⟩:=aA.iU;obtain⟨bg,bD⟩:=MH aE aa ah;refine⟨?_,by simp;omega⟩;have e:bw (x::us) (n+1) xs=x::bw us n xs:=by simp only[bw,oe,p7,uZ,true_and];rw[show n+1+xs.length=(n+xs.length)+1 by omega,List.drop_succ_cons]
   rw[e];exact .cons U bg
  ·cases h
inductive Ej(D:bu):List (Nat×ak)->List (Nat×Value)->Prop
 |nil:Ej D [] []| cons {i v u l us} (h:aM D v u) (k:Ej D l us):Ej D ((i,v)::l) ((i,u)::us)
def H4{place:Nat->Option (Nat×Nat)}:∀ {vs:List (Nat×ak)} {cells r:List ak} {us:List Value} {xs:List (Nat×Value)},w6 place cells vs=some r->bq D cells us->Ej D vs xs -> ∃ aU,qW place us xs=some aU/\bq D r aU
 |[],cells,r,us,_,h,aA,.nil=>by simp only[w6]at h;cases h;exact⟨us,rfl,aA⟩
 |(i,v)::vs,cells,r,us,_,h,aA,.cons (u:=u) (us:=xs) ah hn=>by
  simp only[w6]at h;split at h;·cases h
  ·rename_i off size aO;cases af:Nat.beq v.cells.length size with
   |false=>rw[af]at h;cases h
   |true=>
    rw[af]at h;simp only[ba]at h;split at h
    ·rename_i cs kq;obtain⟨U,aa⟩:=MH kq aA ah.cells;obtain⟨aU,ag,aK⟩:=H4 h U hn;refine⟨aU,?_,aK⟩;have ay:u.cells.size=v.cells.length:=by simpa using ah.cells.len
     simp only[qW,aO,ay,af];rw[show Nat.ble (off+size) us.length=true by rw[HU,ft];have:=cC af;simp at aa;omega];exact ag
    ·cases h
end
end Go.V
