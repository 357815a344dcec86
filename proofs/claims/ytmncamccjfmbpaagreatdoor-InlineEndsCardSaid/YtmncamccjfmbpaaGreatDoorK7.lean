/- Part 7 of what the proofs of this seat share: the executor, data in memory, walks.
-/
import Derived.Test.YtmncamccjfmbpaaGreatDoorK6
import Derived.Test.YtmncamccjfmbpaaGreatDoorK3
import Derived.Test.YtmncamccjfmbpaaGreatDoorK4
import Derived.Test.YtmncamccjfmbpaaGreatDoorK5
import Derived.Lib.TrailingZeros
set_option linter.all false
set_option maxHeartbeats 8000000
set_option maxRecDepth 100000
namespace Go.V
open Go
def mS:=@Nat.not_lt_zero
def xj:=@List.mem_or_eq_of_mem_set
def vM:=@List.any_eq_true
def Db:=@List.length_reverse
def AR:=@List.flatMap_map
def AS:=@List.map_flatMap
def FD:=@List.pairwise_map
def M6:=@decide_eq_true_iff
def M7:=@Bool.eq_false_iff
def abP:=@List.getElem_concat_length
def Tf:=@List.idxOf_append
def Tg:=@List.mem_reverse
def M8:=@Bool.true_or
variable{D0 D:bQ}{l:List Nat}{M M' M0 N:List aE}{a:Option Addr}{e f b T n size node:Nat}{Y:gP}{g:cD}{args us vs:List Value}{m':br}{v:aq}{I J I':aM}{arr:Array Value}{R α:Type}{w w':World}{P:Program}{t:bP}{s:dV}{x:Int}{al:List Int}{os:aY}{F:List aW}{A:Nat->List Nat}{u:Value}{r:Int×Int}{fY:List (List ap)}
inductive vN where
 |cells(l:List aq)(T:Nat)| map (es:List (aq×aq))
noncomputable def Jg:fP->Option vN
 | .cells cs T fQ=>cs.E5 0 fQ λl=>some (.cells l T)
 | .map es=>some (.map es)| _=>none
noncomputable def readAll(t:be fP):Nat->Nat->Option (List vN)
 |_,0=>some []| id,n+1=>bn (t.get id) none λe=>bn (Jg e) none λs=>bn (readAll t (Nat.add id 1) n) none λl=>some (s::l)
def Th(k:Nat):List (aq×aq)->List (aq×aq)
 |[]=>[]| p::l=>(j7 k p.1,j7 k p.2)::Th k l
noncomputable def vN.jb(k:Nat):vN->fP
 | .cells l T=>be.yA (rc k l) .nil 0 λcs=>.cells cs T l.length
 | .map es=>.map (Th k es)
noncomputable def M9{R:Type}(k:Nat):List vN->Nat->be fP->(be fP->R)->R
 |[],_,t,K=>K t| s::l,id,t,K=>t.n7 (some (s.jb k)) id λt=>M9 k l (Nat.add id 1) t K
noncomputable def Ti(v:aq)(L:List vN)(m:br):Option (aq×br):=sh m.n λn=>sh (Nat.add n L.length) λh2=>M9 n L n m.t λt=>some (j7 n v,⟨t,h2⟩)
def abQ{t:be fP}:∀ {n id:Nat} {L:List vN},readAll t id n=some L->L.length=n/\∀ j s,L[j]?=some s->∃ e,t.get (id+j)=some e/\Jg e=some s
 |0,id,L,h=>by cases h;exact⟨rfl,by simp⟩
 |n+1,id,L,h=>by
  unfold readAll at h;obtain⟨e,aa,h⟩:=cx h;obtain⟨s,ab,h⟩:=cx h;obtain⟨l,aj,h⟩:=cx h;cases h;obtain⟨a8,ba⟩:=abQ aj;refine⟨by simp[a8],λj cf ai=>?_⟩;cases j with
  |zero=>cases ai;exact⟨e,aa,ab⟩| succ j=>obtain⟨cQ,en,cE⟩:=ba j cf (by simpa using ai);refine⟨cQ,?_,cE⟩;rw[<-en];congr 1;show id+(j+1)=id+1+j;omega
def abR(k:Nat):∀ (L:List vN) (id:Nat) (t:be fP),∃ bo:be fP,(∀ {R:Type} (K:be fP->R),M9 k L id t K=K bo) /\ ∀ j e,bo.get j=some e->(id<=j/\∃ s,L[j-id]?=some s/\e=s.jb k)\/((j<id\/id+L.length<=j)/\t.get j=some e)
 |[],id,t=>⟨t,λK=>rfl,λj e h=>.inr ⟨by simp;omega,h⟩⟩
 |s::L,id,t=>by
  obtain⟨t1,aa,ab⟩:=be.py (some (s.jb k)) t id;obtain⟨bo,aj,aG⟩:=abR k L (id+1) t1;refine⟨bo,λK=>?_,λj e h=>?_⟩;·unfold M9;rw[aa];exact aj K
  ·rcases aG j e h with⟨a8,cf,ba,bR⟩ | ⟨a8,ba⟩
   ·refine .inl ⟨by omega,cf,?_,bR⟩;rw[show j-id=(j-(id+1))+1 by omega];simpa using ba
   ·rcases ab j e ba with⟨rfl,bR⟩ | ⟨bR,fq⟩
    ·refine .inl ⟨b2 _,s,by simp,?_⟩;cases bR;rfl
    ·refine .inr ⟨?_,fq⟩;simp only[c2];omega
def aoo{k:Nat}(dk:∀ id a,D0 id=some a->D (Nat.add id k)=some a){es:List (aq×aq)}{l:List MapEntry}(h:q' D0 es l):q' D (Th k es) l:=by
 induction h with
 |nil=>exact .nil| cons ae ah t aF=>exact .cons (FC dk _ ae) (FC dk _ ah) aF
def abS{k:Nat}:∀ {l:List aq} {i:Nat} {v:aq},(rc k l)[i]?=some v->∃ xi,l[i]?=some xi/\v=j7 k xi
 |[],i,v,h=>by simp[rc]at h
 |x::l,0,v,h=>by simp only[rc,List.getElem?_cons_zero,j9]at h;exact⟨x,rfl,h.symm⟩
 |x::l,i+1,v,h=>by simp only[rc,Gy]at h;simpa using abS h
def aop{k:Nat}(dk:∀ id a,D0 id=some a->D (Nat.add id k)=some a){E:Env}(a':∀ x∈M,x∈M'){a:Loc}{e:fP}{s:vN}(h:lT D0 E M a e)(af:Jg e=some s):lT D E M' a (s.jb k):=by
 cases h with
 | @cells cs T fQ arr az aa ab aj aG bx=>
  unfold Jg at af;obtain⟨l,a8,ba,bR⟩:=be.Fj cs fQ 0 _ _ af;cases bR;obtain⟨bo,en,cE⟩:=be.yG (rc k l) (.nil:be aq) 0;show lT D E M' a (be.yA (rc k l) .nil 0 λcs=>fP.cells cs T l.length);rw[en,a8];refine .cells arr az (a' _ aa) ab (λi v hi av=>?_) aG bx;rcases cE i v av with⟨_,h⟩ | ⟨_,h⟩;·obtain⟨xi,aJ,rfl⟩:=abS (by simpa using h);have:=ba i hi;rw[cX,aJ]at this;obtain⟨x,f1,f2⟩:=aj i xi hi this;exact⟨x,f1,FC dk _ f2⟩
  ·cases h
 |map l clock aa ab=>cases af;exact .map l clock (a' _ aa) (aoo dk ab)| loop L aa ab=>cases af| done L aa ab aj=>cases af
def aoq(aQ:cU Y.P Y.E)(bG:xh Y.P)(iz:Y.P.follows .mixedOrders=true){g:Nat}{args:List aq}{jy:br}{xi:aq}{L:List vN}(az:At ⟨Y.P,Y.E,λ_=>none,λ_ _ _=>none⟩ (mh ⟨Y.P,Y.E,λ_=>none,λ_ _ _=>none⟩ f) g args ⟨.nil,0⟩=some (xi,jy))(cc:readAll jy.t 0 jy.n=some L)(dK:∀ D us,bL D args us->bL (λ_=>none) args us){m:br}(h:Ti xi L m=some (v,m'))(hu:bL D args us)(hm:c8 Y D m I M) :
  Spec Y.P g us I M λr I' M'=>∃ bC,D.ext bC m.n/\aT bC v r/\c8 Y bC m' I' M':=by
 have lW:yQ ⟨Y.P,Y.E,λ_=>none,λ_ _ _=>none⟩:=λg vs m v m' h=>by cases h
 have sp:c8 ⟨Y.P,Y.E,λ_=>none,λ_ _ _=>none⟩ (λ_=>none) ⟨.nil,0⟩ I []:=⟨λid e a h bc=>(by cases bc),λid jc e cQ a bO h aa bc=>(by cases bc),λid a h=>(by cases h),λg cs h=>(by cases h)⟩;have au:=(reckon (Y:=⟨Y.P,Y.E,λ_=>none,λ_ _ _=>none⟩) aQ bG lW iz az (dK D us hu) sp).frame (M:=M);refine Spec.ra au ?_;rintro r I' mz⟨M0,rfl,bs,bq,D0,-,ah,FE⟩;unfold Ti at h;rw[Sg,Sg]at h;obtain⟨bo,aa,ab⟩:=abR m.n L m.n m.t;rw[aa]at h;cases h;obtain⟨a8,ba⟩:=abQ cc;let bC:bQ:=λid=>if id<m.n then D id else D0 (id-m.n)
 have dk:∀ id a,D0 id=some a->bC (Nat.add id m.n)=some a:=λid a a6=>by show(if id+m.n<m.n then D (id+m.n)else D0 (id+m.n-m.n))=some a;rw[bS (by omega),Nat.add_sub_cancel,a6]
 have jh:D.le bC:=λid a a6=>by show(if id<m.n then D id else D0 (id-m.n))=some a;rw[bN (hm.j5 _ _ a6),a6]
 have lo:∀ id,id<m.n->bC id=D id:=λid hi=>bN hi;have cZ:∀ id,m.n<=id->bC id=D0 (id-m.n):=λid hi=>bS (by omega);have src:∀ id e a,bo.get id=some e->bC id=some a->(m.n<=id/\∃ s dd,e=s.jb m.n/\jy.t.get (id-m.n)=some dd/\Jg dd=some s/\D0 (id-m.n)=some a)\/(id<m.n/\m.t.get id=some e/\D id=some a):=λid e a he a6=>by
  rcases ab id e he with⟨en,s,cE,gD⟩ | ⟨en,cE⟩;·obtain⟨dd,mH,Jh⟩:=ba _ _ cE;rw[cX]at mH;rw[cZ _ en]at a6;exact .inl ⟨en,s,dd,gD,mH,Jh,a6⟩
  ·rcases Nat.lt_or_ge id m.n with a1 | cJ
   ·rw[lo _ a1]at a6;exact .inr ⟨a1,cE,a6⟩
   ·rw[cZ _ cJ]at a6;have:=FE.j5 _ _ a6;omega
 refine⟨bC,λid hi=>lo id hi,FC dk _ ah,⟨λid e a he a6=>?_,λid jc e cQ a bO he rH a6 CV ag=>?_,λid a a6=>?_,hm.q8.mono bq⟩⟩
 ·rcases src id e a he a6 with⟨en,s,dd,rfl,cE,gD,mH⟩ | ⟨en,cE,gD⟩
  ·exact aop dk (λx ad=>iD _ ad) (FE.jb _ _ _ cE mH) gD
  ·exact(hm.jb _ _ _ cE gD).mono jh λx ad _=>oY _ ad
 ·rcases src id e a he a6 with⟨en,s,dd,rfl,cE,gD,mH⟩ | ⟨en,cE,gD⟩
  ·rcases src jc cQ bO rH CV with⟨Tj,cf,aor,rfl,Dc,Ji,Tk⟩ | ⟨Tj,Dc,Ji⟩
   ·have:=FE.inj _ _ _ _ _ _ cE Dc mH Tk ag;omega
   ·obtain⟨x,ad,nu⟩:=FE.ar cE mH;obtain⟨y,aH,Tl⟩:=hm.ar Dc Ji;exact(bs x ad y aH (nu.trans (ag.trans Tl.symm))).elim
  ·rcases src jc cQ bO rH CV with⟨Tj,cf,aor,rfl,Dc,Ji,Tk⟩ | ⟨Tj,Dc,Ji⟩
   ·obtain⟨x,ad,nu⟩:=FE.ar Dc Tk;obtain⟨y,aH,Tl⟩:=hm.ar cE gD;exact(bs x ad y aH (nu.trans (ag.symm.trans Tl.symm))).elim
   ·exact hm.inj _ _ _ _ _ _ cE Dc gD Ji ag
 ·show id<m.n+L.length;rcases Nat.lt_or_ge id m.n with a1 | cJ
  ·omega
  ·rw[cZ _ cJ]at a6;have:=FE.j5 _ _ a6;omega
open Go Go.Proofs
def aos(k:Nat):liesAt Tryz.prog Tryz.prog.depth 207 ((k+1)*2/Tryz.prog.cellsOf 207) 0 207 1=true:=by
 have ab:Tryz.prog.cellsOf 207=2:=by kernel_rfl
 have ak:Tryz.prog.depth=(Tryz.prog.depth-1)+1:=by kernel_rfl
 have fc:sameLayout Tryz.prog Tryz.prog.depth 207 207=true:=by kernel_rfl
 have af:rowAt Tryz.prog (sameLayout Tryz.prog Tryz.prog.depth · 207) Tryz.prog.depth 207 (k+1) 0 1=true:=by
  generalize aA:(sameLayout Tryz.prog Tryz.prog.depth · 207)=f;have wC:f 207=true:=by rw[<-aA];exact fc
  rw[ak];unfold rowAt;simp only[ab,wC];simp
 rw[ab,Nat.mul_div_cancel _ (by decide:0<2)];rw[ak];unfold liesAt;rw[af];rfl
def aot(a9 post:List aE)(b:Nat)(v:Value)(k:Nat)(bk:List Value)(af:bk.length=2*k) :
  Spec Tryz.prog 192 [ptr b] I (a9++⟨b,.cells (.pointer none::v::bk).toArray 207 (0,0)⟩::post) λr I' M'=>r=.tuple #[]/\I'=I/\M'=a9++⟨b,.cells (ck (.pointer none::v::bk) 0 [ptr b]).toArray 207 (0,0)⟩::post:=by
 obtain⟨inf,z,hi,ft,_⟩:=(a7 207 _ rfl).inf;refine cg [] a7 Tryz.func192 rfl rfl rfl ?_;intro B az;have hm:∀ {o:Obj},(⟨b,o⟩:aE)∈a9++⟨b,o⟩::post:=fun {o}=>cF.2 (.inr (.head _));have da:(Value.pointer none::v::bk).toArray.size=(k+1)*2:=by simp[af];omega
 have ay:liesAt Tryz.prog Tryz.prog.depth 207 ((Value.pointer none::v::bk).toArray.size/Tryz.prog.cellsOf 207) 0 207 1=true:=by rw[da];exact aos k
 refine aR.mk [.pointer none] (c5 (cs:=.pointer none::v::bk) (k:=0) (n:=1) (T:=207) hm (by simp)) ?_;refine .other (bB.Ld a7 rfl (by simp) rfl rfl rfl rfl ?_);refine a3.mk (λ_=>?_) (λh=>by cases h);refine bB.conv rfl (by simp) rfl (λw hw=>Lib.run_to_unsafe (t:=207) (e:=207) w ⟨b,0,none⟩ (by kernel_rfl) (by kernel_rfl) (j:=inf) (cells:=(Value.pointer none::v::bk).toArray.size) hi (by rw[ft];decide) (Lg hw hm) (by rw[da];show 0<_;omega)) ?_;refine bd.mk (a9++⟨b,.cells (.pointer none::v::bk).toArray 207 (0,0)⟩::post) [] _ (by simp) (P2 _) ?_;rintro v I' M' -⟨rfl,rfl,rfl⟩;refine bB.conv rfl (by simp) rfl (λw hw=>Lib.run_from_unsafe (u:=207) (e:=207) w ⟨b,0,none⟩ (by kernel_rfl) (by kernel_rfl) (j:=inf) (cells:=(Value.pointer none::v::bk).toArray.size) hi (Lg hw (cF.2 (.inl hm))) ay) ?_;refine b8.mk a9 post _ _ (ed _) rfl (by rw[da];show 0+0+1<=(k+1)*2;omega) rfl ?_;exact⟨_,_,.refl,rfl,rfl,rfl⟩
def aou(a':(⟨b,.cells arr T (0,0)⟩:aE)∈M)(az:arr[0]?=some (ptr b)) :
  Spec Tryz.prog 192 [ptr b] I M λr I' M'=>r=.tuple #[]/\I'=I/\M'=M:=by
 refine cg [] a7 Tryz.func192 rfl rfl rfl ?_;intro B iG;have af:cO I M ((⟨b,0,none⟩:Addr).add 0) 1 [ptr b]:=by
  obtain⟨l⟩:=arr;cases l with
  |nil=>simp at az| cons x l=>simp only[BP,List.getElem?_cons_zero,j9]at az;subst az;exact c5 (cs:=ptr b::l) (k:=0) (n:=1) a' (by simp)
 refine aR.mk [ptr b] af ?_;refine .other (bB.Ld a7 rfl (by simp) rfl rfl rfl rfl ?_);refine a3.mk (λh=>by cases h) (λ_=>?_);refine aR.mk [ptr b] af ?_;refine .other (bB.Xc a7 rfl (by simp) rfl rfl rfl rfl rfl ?_);refine a3.mk (λh=>by cases h) (λ_=>?_);exact⟨_,_,.refl,rfl,rfl,rfl⟩
def aov{m:br}{id off:Nat}{cs:be aq}{fQ:Nat}{a:Loc}{a9 post:List aE}(hm:c8 Y D m I M)(av:m.t.get id=some (.cells cs T fQ))(a6:D id=some a)(aK:a.o=0)(dO:M=a9++⟨a.b,.cells arr T (0,0)⟩::post)(da:a.o+fQ<=arr.size)(an:∀ i v,i<fQ->cs.get i=some v->∃ x,arr[a.o+i]?=some x/\aT D v x)(ae:∀ i,Y.E T=some i->arr.size=a.o+a.c*i.size)(iz:a.c<=maxLen)
  {l:List aq} (ay:bL D l vs) {K:br->Option R} {r:R} (h:yE m (.p id off) l K=some r) :
  ∃ m',K m'=some r/\m'.n=m.n/\off+vs.length<=arr.size/\c8 Y D m' I (a9++⟨a.b,.cells (ck arr.toList off vs).toArray T (0,0)⟩::post):=by
 unfold yE at h;simp only[av]at h;cases ag:(Nat.ble (Nat.add off l.length) fQ&&l.all aq.one)with
 |false=>rw[ag]at h;cases h
 |true=>
  rw[ag]at h;simp only[cb]at h;rw[cz]at ag;have AF:off+l.length<=fQ:=bI ag.1;obtain⟨cs',aa,ab⟩:=be.yG l cs off;rw[aa]at h;obtain⟨bo,aj,aG⟩:=be.py (some (fP.cells cs' T fQ)) m.t id;rw[aj]at h;have c1:=ay.len;have jH:off+vs.length<=arr.size:=by omega
  refine⟨_,h,rfl,jH,?_⟩;have fg:∀ x∈M,x.num≠a.b->x∈a9++⟨a.b,.cells (ck arr.toList off vs).toArray T (0,0)⟩::post:=λx ad aC=>by
   rw[dO]at ad;rcases cF.1 ad with ad | ad;·exact cF.2 (.inl ad)
   ·rcases eg.1 ad with rfl | ad
    ·exact(aC rfl).elim
    ·exact cF.2 (.inr (n9 _ ad))
  refine hm.step (λi e hi=>(aG i e hi).imp (λq=>⟨q.1,pA q.2⟩) λq=>q) a6 (bQ.le_refl D) (λ_ _=>rfl) hm.j5 (λ_ _ h=>h) (λi e bO bs hi po x ad aC=>fg x ad ?_) ?_ ?_;·rw[aC];exact λag=>bs (hm.inj _ _ _ _ _ _ hi av po a6 ag)
  ·have AG:(ck arr.toList off vs).length=arr.size:=by rw[SB (by simpa using jH)];simp
   refine .cells (ck arr.toList off vs).toArray aK (by simp) (by simp[AG];exact da) (λi v hi vE=>?_) (λi hi=>by simp[AG];exact ae i hi) iz;rw[aK,cX];simp only[BP];rw[aaL (by simpa using jH)];rcases ab i v vE with⟨a8,ba⟩ | ⟨a8,ba⟩;·have a1:=(ij.1 ba).1;rw[bN ⟨a8,by omega⟩];exact ay.get ba
   ·rw[bS (by omega)];have:=an i v hi ba;rw[aK,cX]at this;simpa using this
  ·intro i e bO bs hi po ag;exact bs (hm.inj _ _ _ _ _ _ hi av po a6 ag)
noncomputable def Tm(m:br)(vs:List aq):Option (aq×br):=match vs with
 |[.p id 0]=>(match m.t.get id with
  |some (.cells cs T fQ)=>b0 (Nat.beq T 207&&Nat.ble 2 fQ) (match cs.get 0 with
   |some .pn=>yE m (.p id 0) [.p id 0] λm=>some (.t [],m)
   |some (.p jc 0)=>b0 (Nat.beq id jc) (some (.t [],m)) none| _=>none) none
  |_=>none)
 |_=>none
def aow(qQ:Y.P=Tryz.prog)(aox:Y.E=qK){m:br}{vs:List aq}(h:Tm m vs=some (v,m'))(hu:bL D vs us)(hm:c8 Y D m I M) :
  Spec Y.P 192 us I M λr I' M'=>∃ bC,D.ext bC m.n/\aT bC v r/\c8 Y bC m' I' M':=by
 unfold Tm at h;split at h
 ·rename_i id;obtain⟨x,xs,ad,aC,rfl⟩:=hu.kU;obtain rfl:=aC.n8;obtain⟨a,a6,rfl⟩:=ad.ptr;split at h
  ·rename_i cs T fQ av;obtain⟨aa,aN⟩:=fZ h;clear h;rw[cz]at aa;obtain⟨bp,AF⟩:=aa;obtain rfl:=dR bp;have AF:=bI AF;obtain⟨arr,aK,a',ay,an,ae,iz⟩:=hm.jb _ _ _ av a6;have da:=ae _ (by rw[aox];rfl);have da:arr.size=a.c*2:=by rw[da,aK,cX]
   have aB:Value.pointer (some ⟨a.b,a.o+0,none⟩)=ptr a.b:=by rw[aK];rfl
   split at aN
   ·rename_i zI;obtain⟨sK,fK,Tn⟩:=an 0 _ (by omega) zI;obtain⟨a9,post,dO⟩:=vC a';obtain⟨cY,ab,aj,aG,bx⟩:=aov hm av a6 aK dO ay an ae iz (l:=[.p id 0]) (vs:=[ptr a.b]) (by simp only[bL,aT];exact⟨_,_,⟨a,a6,aB.symm⟩,rfl,rfl⟩) aN;cases ab;rw[aB,qQ,dO];obtain⟨l⟩:=arr;have aoy:sK=.pointer none:=by simpa only[aT]using Tn
    rw[aK]at fK
    match l,fK,da with
    |[],fK,_=>simp at fK| [_],_,da=>simp at da;omega
    |y::w::bk,fK,da=>
     have aH:y=.pointer none:=by simpa[aoy]using fK
     subst aH;have fC:bk.length=2*(a.c-1):=by simp at da;omega
     refine Spec.ra (aot a9 post a.b w (a.c-1) bk fC) ?_;rintro r I' M'⟨rfl,rfl,rfl⟩;exact⟨D,bQ.pC,by simp only[aT,bL];exact⟨[],rfl,rfl⟩,bx⟩
   ·rename_i jc zI;obtain⟨ab,vr⟩:=fZ aN;obtain rfl:=dR ab;cases vr;obtain⟨sK,fK,Tn⟩:=an 0 _ (by omega) zI;obtain⟨bO,CV,rfl⟩:=Tn.ptr;rw[a6]at CV;cases CV;rw[aB]at fK |-;rw[qQ];refine Spec.ra (aou a' (by rw[<-fK,aK])) ?_;rintro r I' M'⟨rfl,rfl,rfl⟩;exact⟨D,bQ.pC,by simp only[aT,bL];exact⟨[],rfl,rfl⟩,hm⟩
   ·cases aN
  ·cases h
 ·cases h
def lX(I:aM):List aE->aM
 |[]=>I| x::l=>ins (lX I l) x.num x.obj
def Na{I:aM}:∀ {M:List aE} {b:Nat} {o:Obj},lX I M b=some o->I b=some o\/∃ x∈M,x.num=b/\x.obj=o
 |[],b,o,h=>.inl h
 |x::l,b,o,h=>by
  unfold lX ins at h;by_cases e:b=x.num;·subst e;simp only[rq,cb,j9]at h;exact .inr ⟨x,by simp,rfl,h⟩
  ·simp only[hE e,b5]at h;rcases Na h with h | ⟨y,aa,ab,aj⟩
   ·exact .inl h
   ·exact .inr ⟨y,by simp[aa],ab,aj⟩
def abT{I:aM}:∀ {M:List aE} (aC:(M.map (·.num)).Nodup) {x:aE},x∈M->lX I M x.num=some x.obj
 |y::l,aC,x,h=>by
  simp only[bX,l5]at aC;rcases eg.1 h with rfl | h;·unfold lX ins;simp only[rq,cb]
  ·have e:x.num≠y.num:=λe=>aC.1 (cA.2 ⟨x,h,e⟩);unfold lX ins;simp only[hE e,b5];exact abT aC.2 h
def To{I:aM}:∀ {M:List aE} (ak:∀ x∈M,I x.num=none) {b:Nat} {o:Obj},I b=some o->lX I M b=some o
 |[],ak,b,o,h=>h
 |y::l,ak,b,o,h=>by
  have e:b≠y.num:=λe=>by have:=ak y (by simp);rw[<-e,h]at this;cases this
  unfold lX ins;simp only[hE e,b5];exact To (λx ad=>ak x (by simp[ad])) h
def aoz(aC:(M.map (·.num)).Nodup)(ak:∀ x∈M,I x.num=none){o:Obj}(h:ik I M b o):lX I M b=some o:=by
 rcases h with h | ⟨x,aa,rfl,rfl⟩
 ·exact To ak h
 ·exact abT aC aa
structure vO(I:aM)(M:List aE)(J:aM):Prop where
 aO:∀ b o,ik I M b o->J b=some o
 inv:∀ b o,J b=some o->ik I M b o
def vO.le(h:vO I M J):∀ b o,I b=some o->J b=some o:=λb o ag=>h.aO b o (.inl ag)
def abU(aa:eF I' M' w')(ab:Kept I [] w I' M' w'):vO I' M' (lX I' M')/\eF (lX I' M') [] w'/\Kept I [] w (lX I' M') [] w':=by
 refine⟨⟨λb o h=>aoz aa.ca aa.d h,λb o h=>?_⟩,⟨λb o h=>?_,by simp,by simp,by simp⟩,⟨λb o h=>To aa.d (ab.le _ _ h),λb o h=>?_,by simp,ab.dI,ab.out,ab.sz⟩⟩
 ·rcases Na h with h | ⟨x,a8,ba,bR⟩
  ·exact .inl h
  ·exact .inr ⟨x,a8,ba,bR⟩
 ·rcases Na h with h | ⟨x,a8,rfl,rfl⟩
  ·exact aa.i _ _ h
  ·exact aa.m _ a8
 ·rcases Na h with h | ⟨x,a8,rfl,rfl⟩
  ·exact ab.uP _ _ h
  ·rcases ab.wb _ a8 with⟨y,aH,_⟩ | h
   ·cases aH
   ·exact .inr h
def Spec.lX{Q:Value->aM->List aE->Prop}(h:Spec P f args I [] Q):Spec P f args I [] λr J mz=>mz=[]/\(∀ b o,I b=some o->J b=some o)/\∃ I' M',Q r I' M'/\vO I' M' J:=by
 rcases h with⟨aa,ab⟩ | h
 ·refine .inl ⟨aa,λw hw=>?_⟩;refine(ab w hw).mono ?_;rintro e w'⟨v,I',M',aJ,a4,cn,dc⟩;obtain⟨a8,ba,bR⟩:=abU cn dc;exact⟨v,_,[],aJ,⟨rfl,bR.le,I',M',a4,a8⟩,ba,bR⟩
 ·refine .inr λw hw=>?_;obtain⟨v,w',I',M',aJ,a4,cn,dc⟩:=h w hw;obtain⟨a8,ba,bR⟩:=abU cn dc;exact⟨v,w',_,[],aJ,⟨rfl,bR.le,I',M',a4,a8⟩,ba,bR⟩
noncomputable def Dd{α:Type}(l:List α):be α:=be.yA l .nil 0 id
def abV{l:List α}{i:Nat}{v:α}(h:(Dd l).get i=some v):l[i]?=some v:=by
 obtain⟨t,aa,ab⟩:=be.yG l (.nil:be α) 0;unfold Dd at h;rw[aa]at h;rcases ab _ _ h with⟨_,h⟩ | ⟨_,h⟩
 ·simpa using h
 ·cases h
noncomputable def Nb:GT:=λg=>b0 (Nat.beq g 0) (some (Dd (kJ.map (aq.i .i64)))) (b0 (Nat.beq g 1) (some (Dd (vc.map aq.s))) (b0 (Nat.beq g 2) (some (Dd [.i .i64 0,.i .i64 1,.s [63],.i .i64 0,.i .i64 (-1),.s [42],.i .i64 1,.i .i64 (-1),.s [43]])) (b0 (Nat.beq g 3) (some (Dd (hL.map (aq.i .u8)))) none)))
def Tp{f:α->aq}{h:α->Value}(aA:∀ x D,aT D (f x) (h x)){l:List α}{i:Nat}(ah:(Dd (l.map f)).get i=some v):∃ x,(l.map h).toArray[i]?=some x/\∀ D,aT D v x:=by
 have:=abV ah;rw[jR]at this;cases ad:l[i]? with
 |none=>rw[ad]at this;cases this| some x=>rw[ad]at this;simp only[lx,j9]at this;subst this;exact⟨h x,by simp[ad],aA x⟩
def aoA(bp:fW I hL):IJ Nb I:=by
 intro g cs h;unfold Nb at h;rw[kT,kT,kT,kT]at h;cases aa:Nat.beq g 0 with
 |true=>rw[aa,cb]at h;obtain rfl:=dR aa;have h:=fm h;subst h;obtain⟨T,f,h⟩:=bp.c;exact⟨_,T,f,h,λi v ah=>Tp (f:=aq.i .i64) (h:=Value.int .i64) (λx D=>by simp only[aT]) ah⟩
 |false=>
 rw[aa,b5]at h;cases ab:Nat.beq g 1 with
 |true=>rw[ab,cb]at h;obtain rfl:=dR ab;have h:=fm h;subst h;obtain⟨T,f,h⟩:=bp.s;exact⟨_,T,f,h,λi v ah=>Tp (f:=aq.s) (h:=λl=>Value.string (strOf l)) (λx D=>by simp only[aT,strOf]) ah⟩
 |false=>
 rw[ab,b5]at h;cases aj:Nat.beq g 2 with
 |true=>
  rw[aj,cb]at h;obtain rfl:=dR aj;have h:=fm h;subst h;obtain⟨T,f,h⟩:=bp.p;refine⟨_,T,f,h,λi v ah=>?_⟩;have ah:=abV ah;rcases i with _ | _ | _ | _ | _ | _ | _ | _ | _ | i
  all_goals first | (cases ah;exact⟨_,rfl,λD=>by simp only[aT]<;>rfl⟩) | (simp at ah)
 |false=>
 rw[aj,b5]at h;cases aG:Nat.beq g 3 with
 |true=>rw[aG,cb]at h;obtain rfl:=dR aG;have h:=fm h;subst h;obtain⟨_,_,T,f,h⟩:=bp.d;exact⟨_,T,f,h,λi v ah=>Tp (f:=aq.i .u8) (h:=Value.int .u8) (λx D=>by simp only[aT]) ah⟩
 |false=>
 rw[aG,b5]at h;cases h
noncomputable def Nc:List UInt8->Nat->Nat->Int
 |[],_,_=>-1| b::l,c,k=>b0 (Nat.beq b.toNat c) (Int.ofNat k) (Nc l c (Nat.succ k))
def abW(c:UInt8):∀ (l:List UInt8) (k:Nat),Nc l c.toNat k=if Lib.indexByte l c=-1 then -1 else Lib.indexByte l c+k
 |[],k=>rfl
 |b::l,k=>by
  have cJ:=Lib.indexByte_ge l c;unfold Nc Lib.indexByte;rw[kT];by_cases h:b=c;·subst h;simp
  ·have aa:Nat.beq b.toNat c.toNat=false:=by
    cases ag:Nat.beq b.toNat c.toNat with
    |false=>rfl| true=>exact absurd (UInt8.toNat_inj.1 (dR ag)) h
   have ab:(b == c)=false:=by simpa using h
   rw[aa,b5,ab,abW c l];simp only[lv,l6];by_cases aj:Lib.indexByte l c=-1;·simp[aj]
   ·have aG:(Lib.indexByte l c == -1)=false:=by simpa using aj
    rw[aG,bS aj];simp only[lv,l6];rw[bS (by omega)];omega
def abX:xh Tryz.prog:=anW (by kernel_rfl)
def abY:Tryz.prog.follows .mixedOrders=true:=by kernel_rfl
noncomputable def abZ:gP:=⟨Tryz.prog,qK,λ_=>none,λ_ _ _=>none⟩
noncomputable def ab0:List vN:=[.map [(.i .u8 123,.f 284 [] []),(.i .u8 34,.f 285 [] []),(.i .u8 91,.f 286 [] []),(.i .u8 46,.f 287 [] []),(.i .u8 47,.f 306 [] [.p 1 0]),(.i .u8 38,.f 306 [] [.p 2 0]),(.i .u8 33,.f 306 [] [.p 3 0]),(.i .u8 63,.f 306 [] [.p 4 0]),(.i .u8 42,.f 306 [] [.p 5 0]),(.i .u8 43,.f 306 [] [.p 6 0]),(.i .u8 40,.f 306 [] [.p 7 0]),(.i .u8 41,.f 306 [] [.p 8 0]),(.i .u8 60,.f 289 [] []),(.i .u8 62,.f 306 [] [.p 10 0]),(.i .u8 58,.f 306 [] [.p 11 0]),(.i .u8 65,.f 290 [] []),(.i .u8 66,.f 290 [] []),(.i .u8 67,.f 290 [] []),(.i .u8 68,.f 290 [] []),(.i .u8 69,.f 290 [] []),(.i .u8 70,.f 290 [] []),(.i .u8 71,.f 290 [] []),(.i .u8 72,.f 290 [] []),(.i .u8 73,.f 290 [] []),(.i .u8 74,.f 290 [] []),(.i .u8 75,.f 290 [] []),(.i .u8 76,.f 290 [] []),(.i .u8 77,.f 290 [] []),(.i .u8 78,.f 290 [] []),(.i .u8 79,.f 290 [] []),(.i .u8 80,.f 290 [] []),(.i .u8 81,.f 290 [] []),(.i .u8 82,.f 290 [] []),(.i .u8 83,.f 290 [] []),(.i .u8 84,.f 290 [] []),(.i .u8 85,.f 290 [] []),(.i .u8 86,.f 290 [] []),(.i .u8 87,.f 290 [] []),(.i .u8 88,.f 290 [] []),(.i .u8 89,.f 290 [] []),(.i .u8 90,.f 290 [] []),(.i .u8 95,.f 290 [] []),(.i .u8 97,.f 290 [] []),(.i .u8 98,.f 290 [] []),(.i .u8 99,.f 290 [] []),(.i .u8 100,.f 290 [] []),(.i .u8 101,.f 290 [] []),(.i .u8 102,.f 290 [] []),(.i .u8 103,.f 290 [] []),(.i .u8 104,.f 290 [] []),(.i .u8 105,.f 290 [] []),(.i .u8 106,.f 290 [] []),(.i .u8 107,.f 290 [] []),(.i .u8 108,.f 290 [] []),(.i .u8 109,.f 290 [] []),(.i .u8 110,.f 290 [] []),(.i .u8 111,.f 290 [] []),(.i .u8 112,.f 290 [] []),(.i .u8 113,.f 290 [] []),(.i .u8 114,.f 290 [] []),(.i .u8 115,.f 290 [] []),(.i .u8 116,.f 290 [] []),(.i .u8 117,.f 290 [] []),(.i .u8 118,.f 290 [] []),(.i .u8 119,.f 290 [] []),(.i .u8 120,.f 290 [] []),(.i .u8 121,.f 290 [] []),(.i .u8 122,.f 290 [] [])],.cells [.i .u8 3] 5,.cells [.i .u8 4] 5,.cells [.i .u8 5] 5,.cells [.i .u8 6] 5,.cells [.i .u8 7] 5,.cells [.i .u8 8] 5,.cells [.i .u8 9] 5,.cells [.i .u8 10] 5,.cells [.i .u8 11] 5,.cells [.i .u8 12] 5,.cells [.i .u8 13] 5]
def aoB:(bn (At abZ (mh abZ 100000) 273 [] ⟨.nil,0⟩) none λp=>bn (readAll p.2.t 0 p.2.n) none λL=>some (p.1,L))=some (aq.m 0,ab0):=by kernel_rfl
noncomputable def Tq:mg:=λg vs m=>b0 (Nat.beq g 325) (match vs with
 |[.s l,.i .u8 (.ofNat k)]=>b0 (Nat.blt k 256) (some (.i .i64 (Nc l k 0),m)) none| _=>none) (b0 (Nat.beq g 234) (match vs with
 |[v]=>some (v,m)| _=>none) (b0 (Nat.beq g 273) (match vs with
 |[]=>Ti (.m 0) ab0 m| _=>none) (b0 (Nat.beq g 192) (Tm m vs) none)))
noncomputable def yS:gP:=⟨Tryz.prog,qK,Nb,Tq⟩
def aoC:yQ yS:=by
 intro g vs m v m' h D I M us hu hm;change Tq g vs m=some (v,m')at h;unfold Tq at h;rw[kT]at h;cases aa:Nat.beq g 325 with
 |true=>
  rw[aa,cb]at h;obtain rfl:=dR aa;split at h
  ·rename_i l k;rw[kT]at h;cases ae:Nat.blt k 256 with
   |false=>rw[ae]at h;cases h
   |true=>
    rw[ae,cb]at h;have hg:k<256:=Nat.blt_eq ▸ ae;cases h;simp only[bL,aT]at hu;obtain⟨x,xs,rfl,⟨y,ys,rfl,rfl,rfl⟩,rfl⟩:=hu;have r9:(UInt8.ofNat k).toNat=k:=by simp;omega
    have:=Xe (I:=I) (M:=M) ⟨l.toArray⟩ (UInt8.ofNat k);rw[r9]at this;refine Spec.ra this ?_;rintro r I' M'⟨rfl,rfl,rfl⟩;refine⟨D,bQ.pC,?_,hm⟩;simp only[aT];have:=abW (UInt8.ofNat k) l 0;rw[r9]at this;rw[this];split;·rename_i e;simp[e]
    ·simp
  ·cases h
 |false=>
 rw[aa,b5,kT]at h;cases ab:Nat.beq g 234 with
 |true=>
  rw[ab,cb]at h;obtain rfl:=dR ab;split at h;·cases h;simp only[bL]at hu;obtain⟨x,xs,hu,rfl,rfl⟩:=hu;refine Spec.ra (P2 _) ?_;rintro r I' M'⟨rfl,rfl,rfl⟩;exact⟨D,bQ.pC,hu,hm⟩
  ·cases h
 |false=>
 rw[ab,b5,kT]at h;cases aj:Nat.beq g 273 with
 |true=>
  rw[aj,cb]at h;obtain rfl:=dR aj;split at h;·obtain⟨⟨xi,jy⟩,aG,bx⟩:=cx aoB;obtain⟨L,bZ,ek⟩:=cx bx;cases ek;exact aoq (Y:=yS) a7 abX abY aG bZ (λD us h=>by simpa only[bL]using h) h hu hm
  ·cases h
 |false=>
 rw[aj,b5,kT]at h;cases aG:Nat.beq g 192 with
 |true=>rw[aG,cb]at h;obtain rfl:=dR aG;exact aow rfl rfl h hu hm
 |false=>
 rw[aG,b5]at h;cases h
def aoD(bp:fW I hL){g:Nat}{args:List aq}(h:At yS (mh yS f) g args ⟨.nil,0⟩=some (v,m'))(hu:bL (λ_=>none) args us) :
  Spec Tryz.prog g us I [] λr J mz=>mz=[]/\(∀ b o,I b=some o->J b=some o)/\∃ I' M' bC,aT bC v r/\c8 yS bC m' I' M'/\vO I' M' J:=by
 have hm:c8 yS (λ_=>none) ⟨.nil,0⟩ I []:=⟨λid e a h bc=>(by cases bc),λid jc e cQ a bO h aa bc=>(by cases bc),λid a h=>(by cases h),aoA bp⟩;refine Spec.ra (reckon (Y:=yS) a7 abX aoC abY h hu hm).lX ?_;rintro r J mz⟨rfl,aa,I',M',⟨bC,-,ab,aj⟩,aG⟩;exact⟨rfl,aa,I',M',bC,ab,aj,aG⟩
def aoE:∀ {l:List Int} (h:0<l.length),l.headD 0=l[0]
 |a::l,_=>rfl
def oF(ns:List ap)(xs:List aW):Bool:=ns.any λd=>decide (d.k=6)&&(decide (d.hi=-1)&&(xs.getD (d.aw.headD 0).toNat b4).z)
def aoF(p:α->Bool)(l:List α)(x:α):(l++[x]).any p=(l.any p||p x):=by simp
def aoG{p:α->Bool}{l:List α}{i:Nat}(h:(l.take i).any p=true):l.any p=true:=by rw[vM]at h |-;obtain⟨x,ad,aB⟩:=h;exact⟨x,K9 ad,aB⟩
def aoH(ax:t.ok I)(af:right t=true){xa:Option Addr}{xc:Nat}{xs:List aW}(ad:mf I M0 xa t.n xs):Spec Tryz.prog 162 [t.val,.slice xa t.n xc] I M0 λv I' M'=>v=.bool (oF t.ns xs)/\I'=I/\M'=M0:=by
 refine cg [] a7 Tryz.func162 rfl rfl rfl ?_;intro B az;have hK:=ax.n;have jJ:=ax.a2.cap;have nu:=ad.n;refine dg.inv (ι:=Nat) (λi=>{ bj:=[(1,.val (.slice xa t.n xc)),(8,.val (.slice t.a t.n t.c)),(9,.val (.int .i64 t.n)),(10,.val (.int .i64 i))],cI:=I,de:=M0 }) (λi=>i<=t.n/\(t.ns.take i).any (λd=>decide (d.k=6)&&(decide (d.hi=-1)&&(xs.getD (d.aw.headD 0).toNat b4).z))=false) (λi=>t.n-i) ?_ ?_
 ·exact⟨0,⟨dw _,rfl⟩,.refl,ej,.nil⟩
 rintro i⟨hi,dN⟩;refine a3.mk (λh=>?_) (λh=>?_)
 rotate_left
 ·have cJ:i=t.n:=by have:¬ (i:Int)<(t.n:Int):=eu h;omega
  rw[fN (by omega)]at dN;refine⟨_,_,.refl,?_,rfl,rfl⟩;rw[oF,dN]
 have a1:i<t.n:=by have:(i:Int)<(t.n:Int):=dB h;omega
 have cq:i<t.ns.length:=by omega
 obtain⟨aU,bK,bm⟩:=ax.a2.row ap.cT a1 cq;have ak:=ax.ns _ (bi cq);have q0:=Es af cq;have js:=mG af i cq;have ff:=ak.aO;have ja:(t.ns.take (i+1)).any (λd=>decide (d.k=6)&&(decide (d.hi=-1)&&(xs.getD (d.aw.headD 0).toNat b4).z))=(decide (t.ns[i].k=6)&&(decide (t.ns[i].hi=-1)&&(xs.getD (t.ns[i].aw.headD 0).toNat b4).z)):=by rw[gy cq,aoF,dN,uX]
 generalize t.ns[i]=d at bm ak q0 js ff ja;refine bf.mk aU i bK rfl a1 ?_;refine aR.mk _ (bm _) ?_;refine cj.mk (λbZ=>?_) (λbZ=>?_)
 rotate_left
 ·have Nd:decide (d.k=6)=false:=bZ;rw[Nd]at ja;refine bg.mk _ (cL (i:=i) (by omega)) ?_;exact⟨i+1,⟨⟨a1,ja⟩,by omega⟩,.refl,ej,.nil⟩
 have Nd:decide (d.k=6)=true:=bZ;have axb:d.k=6:=dB Nd;rw[Nd,om]at ja;refine cj.mk (λaa=>?_) (λaa=>?_)
 rotate_left
 ·have tO:decide (d.hi=-1)=false:=aa;rw[tO]at ja;refine bg.mk _ (cL (i:=i) (by omega)) ?_;exact⟨i+1,⟨⟨a1,ja⟩,by omega⟩,.refl,ej,.nil⟩
 have tO:decide (d.hi=-1)=true:=aa;rw[tO,om]at ja;have lb:0<d.aw.length:=by have:=YN ak.k.1 q0 (by omega);omega
 obtain⟨gr,fB,eY⟩:=ak.a2.one (j:=0) (by omega) lb;have ah:=js _ (bi lb);have cW:d.aw.headD 0=d.aw[0]:=aoE lb;rw[cW]at ja;have eb:d.aw[0].toNat<xs.length:=by omega
 obtain⟨Tr,Ts,mT⟩:=ad.rd _ eb;have av:xs.getD d.aw[0].toNat b4=xs[d.aw[0].toNat]:=by simp[bt,eb]
 rw[av]at ja;refine bf.mk gr 0 fB rfl (by omega) ?_;refine aR.mk _ (eY _) ?_;refine bf.mk Tr d.aw[0].toNat Ts (by omega) (by omega) ?_;refine aR.mk _ (mT.part (k:=0) (m:=1) (by decide)) ?_;refine a3.mk (λbb=>?_) (λbb=>?_)
 ·have ha:xs[d.aw[0].toNat].z=true:=bb;refine⟨_,_,.refl,?_,rfl,rfl⟩;rw[oF,aoG (i:=i+1) (by rw[ja,ha])]
 ·have ha:xs[d.aw[0].toNat].z=false:=bb;rw[ha]at ja;refine bg.mk _ (cL (i:=i) (by omega)) ?_;exact⟨i+1,⟨⟨a1,ja⟩,by omega⟩,.refl,ej,.nil⟩
def dV.mark(s:dV)(i k:Nat):dV:=⟨s.n,s.m.set i (s.m.getD i 0 ||| lR k),s.w⟩
def kW(b:Nat)(s:dV):aE:=⟨b,.cells s.cells.toArray 158 (0,0)⟩
def dV.cT(s:dV):s.cells.length=66:=by simp[dV.cells,uq]
def aoI(a':kW b s∈M){j:Nat}(ai:j<64):cO I M (((⟨b,0,none⟩:Addr).add 1).add (j*1)) 1 [pz (s.m.getD j 0)]:=by rw[eU (⟨b,0,none⟩:Addr) rfl,eU _ rfl];refine⟨rfl,_,_,_,.inr ⟨_,a',rfl,rfl⟩,?_,rfl⟩;simp only[cX,fa];show(s.cells.drop (1+j)).take 1=_;rw[dV.cells,DV 1 j,Ig,Rc (by rw[uq];omega),e1 (by rw[uq];exact ai),mF,qB,rG];simp[lp]
def aoJ(au:s.m.length=64){i k:Nat}(hi:i<64):ck s.cells (0+1+i*1) [pz (s.m.getD i 0 ||| lR k)]=(s.mark i k).cells:=by
 unfold dV.cells dV.mark;simp only;have aJ:ck (Value.int .i64 s.n::(lp s.m++[pz s.w])) (0+1+i*1) [pz (s.m.getD i 0 ||| lR k)]=Value.int .i64 s.n::(ck (lp s.m) (0+i*1) [pz (s.m.getD i 0 ||| lR k)]++[pz s.w]):=by have h:=aap [Value.int .i64 s.n] (lp s.m) [pz s.w] i [pz (s.m.getD i 0 ||| lR k)] (by rw[uq];show i+1<=64;omega);simp only[p8,r',c2,fs,cX,fa]at h |-;exact h
 rw[aJ,aaz s.m au i hi]
def b8.aoK{x y:Nat}{K:List aE->Prop}(a9 post:List aE)(cs:List Value)(T:Nat)(a':M=a9++⟨b,.cells cs.toArray T (0,0)⟩::post)(ag:0+x+y+vs.length<=cs.length)(aa:gA vs=true)
  (cs':List Value) (he:ck cs (0+x+y) vs=cs') (h:K (a9++⟨b,.cells cs'.toArray T (0,0)⟩::post)):b8 M (((⟨b,0,none⟩:Addr).add x).add y) vs K:=by
 rw[eU (⟨b,0,none⟩:Addr) rfl,eU _ rfl];exact b8.sd a9 post cs.toArray T a' rfl (by rw[n5];simpa using ag) aa cs' he h
def aoL{M1:List aE}(av:g.ok I){nm:ByteArray}{k:Nat}(ae:cr nm g.ds 0=k)(Tt:k<64){b1 b6 b7 i:Nat}(hi:i<64)(au:s.m.length=64)(aa:(⟨b1,.cells #[.slice g.a g.n g.c] 24 (0,0)⟩:aE)∈M1)(ek:(⟨b7,.cells #[.int .i64 i] 3 (0,0)⟩:aE)∈M1) :
  Spec Tryz.prog 161 [.string nm,ptr b1,ptr b6,ptr b7] I (kW b6 s::M1) λv I' M'=>I'=I/\M'=kW b6 (s.mark i k)::M1:=by
 refine cg [] a7 Tryz.func161 rfl rfl rfl ?_;intro B az;refine aR.mk [.slice g.a g.n g.c] ⟨rfl,_,_,_,.inr ⟨_,.tail _ aa,rfl,rfl⟩,rfl,rfl⟩ ?_;have aA:Spec Tryz.prog 31 [g.val,.string nm] I (kW b6 s::M1) λv I' M'=>v=.int .i64 k/\I'=I/\M'=kW b6 s::M1:=by refine Spec.ra (Spec.frame (HK av nm)) ?_;rintro v J M⟨M',rfl,-,-,rfl,rfl,rfl⟩;rw[ae];exact⟨rfl,rfl,rfl⟩
 refine bd.whole _ aA ?_;rintro v J N -⟨rfl,bl,hC⟩;subst J;subst N;refine a3.mk (λ_=>?_) (λh=>?_)
 rotate_left
 ·have:¬ (0:Int)<=(k:Int):=eu h;omega
 refine c4.draw a7 rfl rfl rfl ?_;refine aR.mk [.int .i64 i] ⟨rfl,_,_,_,.inr ⟨_,.tail _ ek,rfl,rfl⟩,rfl,rfl⟩ ?_;refine eH.mk i rfl hi ?_;refine aR.mk _ (aoI (.head _) hi) ?_;refine xL.mk k rfl ?_;refine bg.mk _ (Sp Tt) ?_;refine eH.mk i rfl hi ?_;refine b8.aoK [] M1 s.cells _ rfl ?_ rfl (s.mark i k).cells ?_ ?_
 ·rw[dV.cT];show 0+1+i*1+1<=66;omega
 ·show ck s.cells (0+1+i*1) [Value.int .u64 (Fm (s.m.getD i 0).toNat (lR k).toNat)]=_;rw[MF];exact aoJ au hi
 exact⟨_,_,.refl,rfl,rfl⟩
section
end
structure aoM(d:ap)(n:Int):Prop where
 z:d.k=0->d.t=⟨#[]⟩
 leaf:d.k<=3->n=0
 one:6<=d.k->n=1
 two:d.k=4\/d.k=5->2<=n
def ab1{d:ap}{n:Int}(az:0<=d.k)(h:fits d n=true):aoM d n:=by
 have au:=(P8 h).k;have ae:d.k=0\/d.k=1\/d.k=2\/d.k=3\/d.k=4\/d.k=5\/d.k=6\/d.k=7\/d.k=8\/d.k=9:=by omega
 have dK:∀ j:Fin 10,oj j.val=kJ.getD (j.val*2) 0/\rT j.val=kJ.getD (j.val*2+1) 0:=by decide
 unfold fits at h;rcases ae with e | e | e | e | e | e | e | e | e | e<;>rw[e]at h<;>simp[oj,rT,kJ]at h <;>
  refine⟨λq=>?_,λq=>?_,λq=>?_,λq=>?_⟩<;>first | (omega;done) | (exact h.2.2.1;done) | (exact h.2.1;done) | (simp_all;done)
def ab2(nm:ByteArray):∀ (ds:List aP) (i:Nat),cr nm ds i=bif decide (cr nm ds 0<0)then -1 else cr nm ds 0+i
 |[],i=>rfl
 |d::ds,i=>by
  unfold cr;cases h:decide (d.name=nm)with
  |true=>
   have:decide ((((0:Nat):Int))<0)=false:=by decide
   simp[this]
  |false=>
   rw[b5,b5,ab2 nm ds (i+1),ab2 nm ds (0+1)];have af:cr nm ds 0<0\/0<=cr nm ds 0:=by omega
   rcases af with af | af;·rw[eV af];rfl
   ·have e:decide (cr nm ds 0<0)=false:=dU (by omega);rw[e,b5,b5];have a4:decide (cr nm ds 0+((0+1:Nat):Int)<0)=false:=dU (by omega);rw[a4,b5];omega
def ab3(nm:ByteArray)(au bJ:List aP):cr nm (au++bJ) 0=bif decide (cr nm au 0<0)then cr nm bJ au.length else cr nm au 0:=by
 have key:∀ (au:List aP) (i:Nat),cr nm (au++bJ) i=bif decide (cr nm au i<0)then cr nm bJ (i+au.length)else cr nm au i:=by
  intro au
  induction au with
  |nil=>intro i;simp[cr]
  |cons d au aF=>
   intro i;rw[mF,cr,cr];cases decide (d.name=nm)with
   |true=>have:decide ((i:Int)<0)=false:=dU (by omega);rw[cb,cb,this,b5]| false=>rw[b5,b5,aF (i+1),c2];rw[show i+1+au.length=i+(au.length+1)from by omega]
 have:=key au 0;rwa [cX]at this
structure FF(au:List aP)(aZ:List (ByteArray×Int)):Prop where
 look:∀ nm,(eD nm aZ).isSome=decide (0<=cr nm au 0)
def ab4(nm:ByteArray)(p:ByteArray×Int):∀ aZ:List (ByteArray×Int),(eD nm (aZ++[p])).isSome=((eD nm aZ).isSome||decide (nm=p.1))
 |[]=>by
  show(bif decide (nm=p.1)then some p.2 else none:Option Int).isSome=_;cases decide (nm=p.1)<;>rfl
 |q::aZ=>by
  rw[mF,eD,eD];cases decide (nm=q.1)with
  |true=>rfl| false=>rw[b5,b5,ab4 nm p aZ]
def FF.snoc{au:List aP}{aZ:List (ByteArray×Int)}(h:FF au aZ)(d:aP)(v:Int):FF (au++[d]) (aZ++[(d.name,v)]):=by
 refine⟨λnm=>?_⟩;rw[ab4,h.look,ab3];by_cases af:cr nm au 0<0
 ·rw[eV af,cb,dU (by omega:¬ 0<=cr nm au 0),uX];unfold cr;have:decide (d.name=nm)=decide (nm=d.name):=decide_eq_decide.2 ⟨Eq.symm,Eq.symm⟩;rw[this];cases decide (nm=d.name)with
  |true=>simp| false=>rw[b5];rfl
 ·rw[dU af,b5,eV (by omega:0<=cr nm au 0),M8]
def nE(ds:List aP)(i:Nat):Bool:=match ds[i]? with
 |some d=>decide (cr d.name ds 0=i)| none=>true
def aoN(d:aP)(bJ:List aP)(i:Nat):cr d.name (d::bJ) i=i:=by rw[cr,eV rfl];rfl
def aoO(bJ:List aP):∀ (au:List aP) (aZ:List (ByteArray×Int)),FF au aZ->(∀ i,i<au.length->nE (au++bJ) i=true) ->
  match mc aZ au.length bJ with
  |none=>∃ i,i<(au++bJ).length/\nE (au++bJ) i=false/\∀ k,k<i->nE (au++bJ) k=true| some r=>FF (au++bJ) r/\∀ i,i<(au++bJ).length->nE (au++bJ) i=true:=by
 induction bJ with
 |nil=>intro au aZ h aA;rw[ed]at *;exact⟨h,aA⟩
 |cons d bJ aF=>
  intro au aZ h aA;have e7:(au++d::bJ)[au.length]?=some d:=by simp
  have m5:nE (au++d::bJ) au.length=!(eD d.name aZ).isSome:=by
   unfold nE;rw[e7,h.look];simp only;rw[ab3];by_cases af:cr d.name au 0<0;·rw[eV af,cb,aoN];simp;omega
   ·rw[dU af,b5];have a1:cr d.name au 0<au.length:=by
     have:∀ (au:List aP) (i:Nat),0<=cr d.name au i->cr d.name au i<i+au.length:=by
      intro au
      induction au with
      |nil=>intro i h;simp[cr]at h
      |cons e au Tu=>
       intro i h;unfold cr at h |-;cases an:decide (e.name=d.name)with
       |true=>simp;omega| false=>rw[an,b5]at h;rw[b5];have:=Tu (i+1) h;simp;omega
     have:=this au 0 (by omega);omega
    have aJ:decide (cr d.name au 0=(au.length:Int))=false:=dU (by omega);have a4:decide (0<=cr d.name au 0)=true:=eV (by omega);rw[aJ,a4];rfl
  rw[mc];cases ay:(eD d.name aZ).isSome with
  |true=>rw[ay]at m5;exact⟨au.length,by simp,m5,aA⟩
  |false=>
   rw[ay]at m5;have:=aF (au++[d]) (aZ++[(d.name,(au.length:Int))]) (h.snoc d _) (λi hi=>by
    rw[dY];simp at hi;rcases Nat.lt_or_eq_of_le (Nat.lt_succ_iff.1 (by omega:i<au.length+1))with aa | aa;·exact aA i aa
    ·rw[aa];exact m5)
   rw[b3,dY]at this;exact this
def aoP:FF [] []:=⟨λnm=>by simp[eD,cr]⟩
def yT(ds:List aP)(n:ap):Bool:=!decide (n.k=3)||decide (0<=cr n.t ds 0)
def ab5(p:ap->Bool):∀ (ds:List aP) (i:Nat),((qV i ds).all λx=>p x.2)=ds.all λd=>d.t.ns.all p
 |[],i=>rfl| d::ds,i=>by rw[qV,Ho,xI,ab5 p ds (i+1),L1];rfl
def Jj(al:List Int)(g:cD):Int:=
 bif decide ((g.n:Int)=0)then 4 else bif !nr g.ds then 4 else bif mL al g then 40 else
 bif !(List.range g.ds.length).all (nE g.ds)then 6 else bif g.ds.all λd=>d.t.ns.all (yT g.ds)then 0 else 41
def Tv(al:List Int)(g:cD):Jj al g=dj al g:=by
 unfold Jj dj;have h:=aoO g.ds [] [] aoP (λi hi=>by simp at hi);simp only[fs,iF]at h;cases ak:mc [] 0 g.ds with
 |none=>
  rw[ak]at h;obtain⟨i,aa,ab,_⟩:=h;have:(List.range g.ds.length).all (nE g.ds)=false:=by rw[M7];intro gU;rw[fi]at gU;have:=gU i (g8.2 aa);rw[ab]at this;cases this
  rw[this];rfl
 |some aZ=>
  rw[ak]at h;obtain⟨aa,ab⟩:=h;have aj:(List.range g.ds.length).all (nE g.ds)=true:=by rw[fi];intro i hi;exact ab i (g8.1 hi)
  rw[aj];have aG:(g.ds.all λd=>d.t.ns.all (yT g.ds))=qW aZ g.ds:=by unfold qW;rw[ab5];congr 1;funext d;congr 1;funext n;unfold z4 yT;rw[aa.look]
  rw[aG];rfl
def aoQ{ds:List aP}{i:Nat}(h:i<ds.length):nE ds i=decide (cr ds[i].name ds 0=i):=by unfold nE;rw[db h]
def ab6(nm:ByteArray):∀ (ds:List aP) (i:Nat),yv nm ds i=bif decide (cr nm ds i<0)then none else some (cr nm ds i)
 |[],i=>rfl
 |d::ds,i=>by
  unfold yv cr;rw[show decide (nm=d.name)=decide (d.name=nm) by rw[sC];simp[eq_comm]];cases decide (d.name=nm)with
  |true=>rw[cb,cb,dU (by omega)];rfl| false=>rw[b5,b5];exact ab6 nm ds (i+1)
def ab7(nm:ByteArray)(ds:List aP):eD nm (bD ds)=bif decide (cr nm ds 0<0)then none else some (cr nm ds 0):=by rw[Ra,ab6]
def ab8{nm:ByteArray}{ds:List aP}(h:(eD nm (bD ds)).isSome=true):∃ q:Nat,cr nm ds 0=q/\q<ds.length/\((eD nm (bD ds)).getD 0).toNat=q:=by
 have kG:=ab7 nm ds;cases ak:decide (cr nm ds 0<0)with
 |true=>rw[ak,cb]at kG;rw[kG]at h;cases h| false=>rw[ak,b5]at kG;have aG:¬ cr nm ds 0<0:=eu ak;obtain⟨q,aN⟩:=ea (by omega:0<=cr nm ds 0);have ab9:=kG;rw[Ra]at ab9;obtain⟨j,K4,tM⟩:=Rb ab9;refine⟨q,aN,by omega,?_⟩;rw[kG,aN];rfl
def dV.marks(s:dV)(i:Nat)(l:List Nat):dV:=l.foldl (λs k=>s.mark i k) s
def dV.aca(s:dV)(i:Nat)(l m:List Nat):s.marks i (l++m)=(s.marks i l).marks i m:=r4
def dV.FG:∀ (l:List Nat) (s:dV) (i:Nat),(s.marks i l).m.length=s.m.length
 |[],s,i=>rfl| k::l,s,i=>by have:=dV.FG l (s.mark i k) i;unfold dV.marks at this |-;rw[jE,this];simp[dV.mark]
def Tw(b1 b6 b7:Nat):Value:=.func (.func 161) #[] #[ptr b1,ptr b6,ptr b7]
def acb{I:aM}{g:cD}(av:g.ok I)(lq:g.n<=64){t:bP}(ax:t.ok I)(ml:vB t)(af:right t=true)(dN:wT (bD g.ds) t.ns=true){F:List aW}{M1:List aE}{b1 b6 b7 i:Nat}(hi:i<64)(aa:(⟨b1,.cells #[.slice g.a g.n g.c] 24 (0,0)⟩:aE)∈M1)(ek:(⟨b7,.cells #[.int .i64 i] 3 (0,0)⟩:aE)∈M1){xa:Option Addr}{xc:Nat}(ad:mf I M1 xa t.n (ev (bD g.ds) F t.ns [])) : ∀ (m j:Nat),j<m->∀ (ai:j<t.ns.length) (s:dV) (au:s.m.length=64),Spec Tryz.prog 160 [t.val,.slice xa t.n xc,.int .i64 j,Tw b1 b6 b7] I (kW b6 s::M1) λv I' M'=>I'=I/\M'=kW b6 (s.marks i (gj (bD g.ds) F t.ns j).2)::M1
 |0,j,h,_,_,_=>absurd h (mS _)
 |m+1,j,acc,ai,s,au=>by
  have aF:=acb (b6:=b6) (xc:=xc) av lq ax ml af dN hi aa ek ad m;have hK:=ax.n;have fl:=av.n;have gb:=bi ai;have ak:=ax.ns _ gb;have ff:=ak.aO;have Tx:=ml _ gb;have jH:=Es af ai;have Ty:=ab1 ak.k.1 jH;have js:=mG af j ai;have h7:=fi.1 dN _ gb;have bq:=Rv (pl:=bD g.ds) (F:=F) af ai;have hz:=Ia (bD g.ds) F t.ns [];simp only[fs,cX]at hz;obtain⟨aU,bK,bm⟩:=ax.a2.row ap.cT (show j<t.n by omega) ai;have wH:(gj (bD g.ds) F t.ns j).2=kp (bD g.ds) t.ns[j] (t.ns[j].aw.map (gj (bD g.ds) F t.ns)):=by rw[bq];rfl
  rw[wH];clear bq wH;have AT:∀ q (h:q<t.ns[j].aw.length),∃ k:Nat,t.ns[j].aw[q]=k/\k<j:=λq h=>by have:=js _ (bi h);exact⟨t.ns[j].aw[q].toNat,by omega,by omega⟩
  generalize t.ns[j]=d at *;refine cg [] a7 Tryz.func160 rfl rfl rfl ?_;intro B az;refine bf.mk aU j bK rfl (by omega) ?_;refine aR.mk _ (bm _) ?_;refine a3.mk (λe=>?_) (λcn=>?_);·have e:d.k=3:=dB e;obtain⟨q,CE,vr,Jk⟩:=ab8 (nm:=d.t) (ds:=g.ds) (by simpa[e]using h7);refine bd.whole _ (aoL av CE (by omega) hi au aa ek) ?_;rintro v J N -⟨bl,hC⟩;subst J;subst N;refine⟨_,_,.refl,rfl,?_⟩;rw[kp,eV e,cb,Jk];rfl
  have cn:¬ d.k=3:=eu cn;refine a3.mk (λe=>?_) (λdc=>?_)
  ·have e:d.k=4:=dB e;have De:kp (bD g.ds) d (d.aw.map (gj (bD g.ds) F t.ns))=j3 (d.aw.map (gj (bD g.ds) F t.ns)):=by rw[kp,dU cn,eV e];rfl
   rw[De];refine dg.inv (ι:=Nat×dV) (λx=>{ bj:=[(1,.val (.slice xa t.n xc)),(3,.val (Tw b1 b6 b7)),(4,.ref 4 0),(42,.val (.slice d.dE d.aO d.du)),(43,.val (.int .i64 d.aO)),(44,.val (.int .i64 x.1))],cl:=[(4,t.cells)],cI:=I,de:=kW b6 x.2::M1 }) (λx=>x.1<=d.aO/\x.2.m.length=64/\s.marks i (j3 (d.aw.map (gj (bD g.ds) F t.ns)))=x.2.marks i (j3 ((d.aw.drop x.1).map (gj (bD g.ds) F t.ns)))) (λx=>d.aO-x.1) ?_ ?_;·exact⟨(0,s),⟨dw _,au,rfl⟩,.refl,oX,.cons rfl (.nil)⟩
   rintro⟨q,cf⟩⟨aN,oT,eK⟩;simp only at aN oT eK;refine a3.mk (λh=>?_) (λh=>?_)
   rotate_left
   ·have cJ:d.aw.length<=q:=by have:¬ (q:Int)<(d.aO:Int):=eu h;omega
    rw[vt cJ]at eK;refine⟨_,_,.refl,rfl,?_⟩;rw[eK];rfl
   have a1:q<d.aO:=by have:(q:Int)<(d.aO:Int):=dB h;omega
   have cq:q<d.aw.length:=by omega
   obtain⟨gr,fB,eY⟩:=ak.a2.one a1 cq;obtain⟨k,ae,Jl⟩:=AT q cq;rw[ae]at eY;have acd:k<(ev (bD g.ds) F t.ns []).length:=by omega
   obtain⟨Tr,Ts,mT⟩:=ad.rd k acd;have ku:(d.aw.drop q).map (gj (bD g.ds) F t.ns)=gj (bD g.ds) F t.ns k::(d.aw.drop (q+1)).map (gj (bD g.ds) F t.ns):=by rw[e1 cq,bX,ae]
   have me:(gj (bD g.ds) F t.ns k).1=(ev (bD g.ds) F t.ns [])[k]:=by rw[Rw];simp[bt,acd]
   rw[ku,j3,me,dV.aca]at eK;refine bf.mk gr q fB rfl a1 ?_;refine aR.mk _ (eY _) ?_;refine bd.whole _ (aF k (by omega) (by omega) cf oT) ?_;rintro v J N -⟨bl,hC⟩;subst J;subst N;refine bf.mk Tr k Ts rfl (by omega) ?_;refine aR.mk _ ((mT.sub λx ad=>.tail _ ad).part (k:=0) (m:=1) (by decide)) ?_;refine a3.mk (λbb=>?_) (λbb=>?_)
   ·have ha:(ev (bD g.ds) F t.ns [])[k].z=false:=by simpa using bb
    rw[ha]at eK;refine⟨_,_,.refl,rfl,?_⟩;rw[eK];rfl
   ·have ha:(ev (bD g.ds) F t.ns [])[k].z=true:=by simpa using bb
    rw[ha]at eK;refine bg.mk _ (cL (i:=q) (by omega)) ?_;exact⟨(q+1,cf.marks i (gj (bD g.ds) F t.ns k).2),⟨⟨a1,by rw[dV.FG];exact oT,eK⟩,by simp only;omega⟩,.refl,oX,.cons rfl (.nil)⟩
  have dc:¬ d.k=4:=eu dc;refine a3.mk (λe=>?_) (λkt=>?_)
  ·have e:d.k=6:=dB e;have aoR:=Ty.one (by omega);have lb:0<d.aw.length:=by omega
   refine a3.mk (λcW=>?_) (λcW=>?_)
   ·have BH:decide (d.hi=0)=false:=by have BG:(!decide (d.hi=0))=true:=cW;simpa using BG
    obtain⟨gr,fB,eY⟩:=ak.a2.one (j:=0) (by omega) lb;obtain⟨k,ae,Jl⟩:=AT 0 lb;rw[ae]at eY;have De:kp (bD g.ds) d (d.aw.map (gj (bD g.ds) F t.ns))=(gj (bD g.ds) F t.ns k).2:=by
     have eX:d.aw=[(k:Int)]:=by
      match ad:d.aw,lb,aoR,ae with
      |[a],_,_,ae=>simp only[uW]at ae;rw[ae]| _::_::_,_,h,_=>simp at h;omega
     rw[kp,dU cn,dU dc,BH,eX];simp
    rw[De];refine c4.draw a7 rfl rfl rfl ?_;refine bf.mk gr 0 fB rfl (by omega) ?_;refine aR.mk _ (eY _) ?_;refine bd.whole _ (aF k (by omega) (by omega) s au) ?_;rintro v J N -⟨bl,hC⟩;subst J;subst N;exact⟨_,_,.refl,rfl,rfl⟩
   ·have BH:decide (d.hi=0)=true:=by have BG:(!decide (d.hi=0))=false:=cW;simpa using BG
    have De:kp (bD g.ds) d (d.aw.map (gj (bD g.ds) F t.ns))=[]:=by rw[kp,dU cn,dU dc,eV e,BH];rfl
    rw[De];exact⟨_,_,.refl,rfl,rfl⟩
  have kt:¬ d.k=6:=eu kt;have De:kp (bD g.ds) d (d.aw.map (gj (bD g.ds) F t.ns))=(d.aw.map (gj (bD g.ds) F t.ns)).flatMap (·.2):=by rw[kp,dU cn,dU dc,dU kt];rfl
  rw[De];refine dg.inv (ι:=Nat×dV) (λx=>{ bj:=[(1,.val (.slice xa t.n xc)),(3,.val (Tw b1 b6 b7)),(4,.ref 4 0),(21,.val (.slice d.dE d.aO d.du)),(22,.val (.int .i64 d.aO)),(23,.val (.int .i64 x.1))],cl:=[(4,t.cells)],cI:=I,de:=kW b6 x.2::M1 }) (λx=>x.1<=d.aO/\x.2.m.length=64/\s.marks i ((d.aw.map (gj (bD g.ds) F t.ns)).flatMap (·.2))=x.2.marks i (((d.aw.drop x.1).map (gj (bD g.ds) F t.ns)).flatMap (·.2))) (λx=>d.aO-x.1) ?_ ?_;·exact⟨(0,s),⟨dw _,au,rfl⟩,.refl,oX,.cons rfl (.nil)⟩
  rintro⟨q,cf⟩⟨aN,oT,eK⟩;simp only at aN oT eK;refine a3.mk (λh=>?_) (λh=>?_)
  rotate_left
  ·have cJ:d.aw.length<=q:=by have:¬ (q:Int)<(d.aO:Int):=eu h;omega
   rw[vt cJ]at eK;refine⟨_,_,.refl,rfl,?_⟩;rw[eK];rfl
  have a1:q<d.aO:=by have:(q:Int)<(d.aO:Int):=dB h;omega
  have cq:q<d.aw.length:=by omega
  obtain⟨gr,fB,eY⟩:=ak.a2.one a1 cq;obtain⟨k,ae,Jl⟩:=AT q cq;rw[ae]at eY;rw[e1 cq,bX,ae,jT,dV.aca]at eK;refine bf.mk gr q fB rfl a1 ?_;refine aR.mk _ (eY _) ?_;refine bd.whole _ (aF k (by omega) (by omega) cf oT) ?_;rintro v J N -⟨bl,hC⟩;subst J;subst N;refine bg.mk _ (cL (i:=q) (by omega)) ?_;exact⟨(q+1,cf.marks i (gj (bD g.ds) F t.ns k).2),⟨⟨a1,by rw[dV.FG];exact oT,eK⟩,by simp only;omega⟩,.refl,oX,.cons rfl (.nil)⟩
def eF.yU(h:eF I M w)(aB:M.Perm N):eF I N w:=
 ⟨h.i,λx ad=>h.m x (aB.mem_iff.2 ad),λx ad=>h.d x (aB.mem_iff.2 ad),((aB.map (·.num)).nodup_iff).1 h.ca⟩
def Kept.yU{yV:List aE}(h:Kept I M w I' M' w')(aB:M.Perm N)(EI:M'.Perm yV):Kept I N w I' yV w':=
 ⟨h.le,h.uP,λx ad=>by
  rcases h.wb x (EI.mem_iff.2 ad)with⟨y,aH,e⟩ | aa;·exact .inl ⟨y,aB.mem_iff.1 aH,e⟩
  ·exact .inr aa,λb ag aH=>h.dI b ag λy tx=>aH y (aB.mem_iff.1 tx),h.out,h.sz⟩
def Spec.yU{p q:Value->aM->List aE->Prop}(aB:M.Perm N)(aN:∀ v I' M',p v I' M'->∃ yV,M'.Perm yV/\q v I' yV)(h:Spec P f args I M p):Spec P f args I N q:=by
 rcases h with⟨aa,ab⟩ | ab
 ·refine .inl ⟨aa,λw hw=>(ab w (hw.yU aB.symm)).mono ?_⟩;rintro e w'⟨v,I',M',aj,aG,bx,bZ⟩;obtain⟨yV,ek,fv⟩:=aN _ _ _ aG;exact⟨v,I',yV,aj,fv,bx.yU ek,bZ.yU aB ek⟩
 ·refine .inr λw hw=>?_;obtain⟨v,w',I',M',aj,aG,bx,bZ⟩:=ab w (hw.yU aB.symm);obtain⟨yV,ek,fv⟩:=aN _ _ _ aG;exact⟨v,w',I',yV,aj,fv,bx.yU ek,bZ.yU aB ek⟩
def dV.loop(s:dV)(i:Nat):dV:=⟨s.n,s.m,s.w ||| lR i⟩
def re(pl:List (ByteArray×Int))(F:List aW)(s:dV)(i:Nat)(d:aP):dV:=
 bif oF d.t.ns (ev pl F d.t.ns [])then(s.marks i (gj pl F d.t.ns d.t.bA).2).loop i else s.marks i (gj pl F d.t.ns d.t.bA).2
def kX(n:Nat):dV:=⟨n,List.replicate 64 0,0⟩
def j8(pl:List (ByteArray×Int))(F:List aW):Nat->List aP->dV->dV
 |_,[],s=>s| i,d::ds,s=>j8 pl F (i+1) ds (re pl F s i d)
def rf(ds:List aP)(F:List aW):dV:=j8 (bD ds) F 0 ds (kX ds.length)
def ace(pl:List (ByteArray×Int))(F:List aW)(s:dV)(i:Nat)(d:aP):(re pl F s i d).m.length=s.m.length:=by
 unfold re;cases oF d.t.ns (ev pl F d.t.ns [])with
 |true=>exact dV.FG _ s i| false=>exact dV.FG _ s i
def acf(pl:List (ByteArray×Int))(F:List aW):∀ (l:List aP) (i:Nat) (s:dV) (d:aP),j8 pl F i (l++[d]) s=re pl F (j8 pl F i l s) (i+l.length) d
 |[],i,s,d=>rfl| a::l,i,s,d=>by rw[mF,j8,j8,acf pl F l];congr 1;simp;omega
def Tz(pl:List (ByteArray×Int))(F:List aW):∀ (l:List aP) (i:Nat) (s:dV),(j8 pl F i l s).m.length=s.m.length
 |[],i,s=>rfl| d::l,i,s=>by rw[j8,Tz pl F l,ace]
def acg(a':kW b s∈M):cO I M ((⟨b,0,none⟩:Addr).add 65) 1 [pz s.w]:=by rw[eU _ rfl];refine⟨rfl,_,_,_,.inr ⟨_,a',rfl,rfl⟩,?_,rfl⟩;show(s.cells.drop (0+65)).take 1=_;rw[dV.cells,cX,Ig,B6 (uq _)];rfl
def aoS(s:dV)(i:Nat):ck s.cells (0+65) [pz (s.w ||| lR i)]=(s.loop i).cells:=by unfold dV.cells dV.loop ck;simp only[cX,c2,fs];rw[qB,qO (uq _),Ig,vt (by simp[uq])];simp
def Nf(a':kW b s∈M):cO I M (⟨b,0,none⟩:Addr) 66 s.cells:=
 ⟨rfl,_,_,_,.inr ⟨_,a',rfl,rfl⟩,by simp only[wu];exact fN (show s.cells.length<=66 by rw[dV.cT];exact b2 _),dV.cT s⟩
def aoT(bp:fW I al)(av:g.ok I)(ml:∀ d∈g.ds,vB d.t)(lq:dj al g=0->g.n<=64):Spec Tryz.prog 104 [g.val] I [] λv I' M'=>(∀ b o,I b=some o->I' b=some o)/\M'=[] /\
  ((dj al g≠0/\v=.tuple #[(kX 0).val,.int .i64 (dj al g)])\/(dj al g=0/\∃ F,j1 g.ds F/\v=.tuple #[(rf g.ds F).val,.int .i64 0])):=by
 refine cg [1,2,6,7] a7 Tryz.func104 rfl rfl rfl ?_;intro B az;have fl:=av.n;have jJ:=av.a2.cap;refine b'.mk λb1 hb Rk=>?_;refine b'.mk λbT gS Lz=>?_;refine aR.mk [.slice g.a g.n g.c] (c5 (cs:=[.slice g.a g.n g.c]) (k:=0) (n:=1) (.tail _ (.head _)) (by simp)) ?_;refine bd.mk [] [kW bT (kX 0),⟨b1,.cells #[.slice g.a g.n g.c] 24 (0,0)⟩] _ (.refl _) (ala bp av) ?_;rintro v I1 N -⟨cu,⟨hm,rfl,rfl⟩|⟨hm,uk,F,rfl,rfl,bG⟩⟩
 ·refine a3.mk (λ_=>?_) (λh=>absurd h (by simp[hm]));refine b8.sd [] _ _ _ rfl rfl rfl rfl (kX 0).cells rfl ?_;refine aR.mk _ (Nf (.head _)) ?_;exact⟨_,_,.sub (fk _) .refl,cu,rfl,.inl ⟨hm,rfl⟩⟩
 refine a3.mk (λh=>absurd h (by simp)) (λ_=>?_);have a':=L4 fl hm;have ach:F.length=g.n:=by rw[bG.len,fl]
 have AU:=lq hm;refine aR.mk [.slice g.a g.n g.c] (c5 (cs:=[.slice g.a g.n g.c]) (k:=0) (n:=1) (.tail _ (.tail _ (.head _))) (by simp)) ?_;refine b'.mk λb6 Ck Qj=>?_;refine b8.sd [] _ _ _ rfl rfl rfl rfl (kX g.n).cells rfl ?_;refine aR.mk [.slice g.a g.n g.c] (c5 (cs:=[.slice g.a g.n g.c]) (k:=0) (n:=1) (.tail _ (.tail _ (.tail _ (.head _)))) (by simp)) ?_;refine dg.inv (ι:=Nat×aM) (λx=>{ bj:=[(1,.val (ptr b1)),(2,.val (ptr bT)),(4,.val (.slice (some ⟨uk,0,none⟩) g.n g.n)),(6,.val (ptr b6)),(25,.val (.slice g.a g.n g.c)),(26,.val (.int .i64 g.n)),(27,.val (.int .i64 x.1))],cl:=[],cI:=x.2,de:=[kW b6 (j8 (bD g.ds) F 0 (g.ds.take x.1) (kX g.n)),fU uk F,kW bT (kX 0),⟨b1,.cells #[.slice g.a g.n g.c] 24 (0,0)⟩] }) (λx=>x.1<=g.n/\∀ b o,I b=some o->x.2 b=some o) (λx=>g.n-x.1) ?_ ?_
 ·exact⟨(0,I1),⟨dw _,cu⟩,.refl,tB,.nil⟩
 rintro⟨i,J⟩⟨hi,bl⟩;simp only at hi bl;refine a3.mk (λh=>?_) (λh=>?_)
 rotate_left
 ·have cJ:i=g.n:=by have:¬ (i:Int)<(g.n:Int):=eu h;omega
  refine aR.mk _ (Nf (.head _)) ?_;refine b8.sd [kW b6 (j8 (bD g.ds) F 0 (g.ds.take i) (kX g.n)),fU uk F] _ _ _ rfl rfl rfl rfl (j8 (bD g.ds) F 0 (g.ds.take i) (kX g.n)).cells ?_ ?_;·rfl
  refine aR.mk _ (Nf (.tail _ (.tail _ (.head _)))) ?_;refine⟨_,_,.sub (fk _) .refl,bl,rfl,.inr ⟨hm,F,bG,?_⟩⟩;rw[cJ,fN (l:=g.ds) (by omega),rf,fl];rfl
 have a1:i<g.n:=by have:(i:Int)<(g.n:Int):=dB h;omega
 have cq:i<g.ds.length:=by omega
 have Ng:=av.mono bl;have aoU:=bp.mono bl;obtain⟨aU,bK,bm⟩:=Ng.a2.row aP.cT a1 cq;have gb:=bi cq;have ak:=Ng.ds _ gb;have af:=a'.right _ gb;have dN:=a'.named _ gb;have Tx:=ml _ gb;have ja:j8 (bD g.ds) F 0 (g.ds.take (i+1)) (kX g.n)=re (bD g.ds) F (j8 (bD g.ds) F 0 (g.ds.take i) (kX g.n)) i g.ds[i]:=by rw[gy cq,acf,Qp (by omega),cX]
 have fc:(j8 (bD g.ds) F 0 (g.ds.take i) (kX g.n)).m.length=64:=by rw[Tz];rfl
 generalize g.ds[i]=d at bm ak af dN Tx ja;refine bf.mk aU i bK rfl a1 ?_;refine aR.mk _ (bm _) ?_;refine b'.mk λb7 Il L6=>?_;refine b8.sd [] _ _ _ rfl rfl rfl rfl [.int .i64 i] rfl ?_;refine aR.mk [.slice g.a g.n g.c] (c5 (cs:=[.slice g.a g.n g.c]) (k:=0) (n:=1) (.tail _ (.tail _ (.tail _ (.tail _ (.head _))))) (by simp)) ?_;generalize axc:j8 (bD g.ds) F 0 (g.ds.take i) (kX g.n)=s at fc ja |-;have e7:∀ {M:List aE},fU uk F∈M->mf J M (some ⟨uk,0,none⟩) g.n F:=λyL=>by have:=L3 (I:=J) yL;rwa [ach]at this
 have Nh:Ai g F d.t=some (ev (bD g.ds) F d.t.ns []):=by rw[Ai,af,dN,eV ach];rfl
 refine bd.whole _ (ak5 (lc:=g.n) aoU Ng ak.t (e7 (.tail _ (.tail _ (.head _))))) ?_;rintro v dp dm -⟨dW,⟨aC,-,-⟩|⟨r,cm,aC,rfl,rfl⟩⟩
 ·rw[Nh]at aC;cases aC
 rw[Nh]at aC;obtain rfl:=fm aC;refine cj.mk (λh=>?_) (λh=>?_)
 rotate_left
 ·cases h
 refine a3.mk (λh=>absurd h (by simp)) (λ_=>?_);have tP:=qP af;have AG:=acb (b1:=b1) (b6:=b6) (b7:=b7) (i:=i) (xa:=some ⟨cm,0,none⟩) (xc:=d.t.n) (F:=F) (Ng.mono dW) AU (ak.t.mono dW) Tx af dN (by omega) (M1:=[fU cm (ev (bD g.ds) F d.t.ns []),⟨b7,.cells #[.int .i64 i] 3 (0,0)⟩,fU uk F,kW bT (kX 0),⟨b1,.cells #[.slice g.a g.n g.c] 24 (0,0)⟩]) (.tail _ (.tail _ (.tail _ (.tail _ (.head _))))) (.tail _ (.head _)) (by
  have:=L3 (I:=dp) (M:=[fU cm (ev (bD g.ds) F d.t.ns []),⟨b7,.cells #[.int .i64 i] 3 (0,0)⟩,fU uk F,kW bT (kX 0),⟨b1,.cells #[.slice g.a g.n g.c] 24 (0,0)⟩]) (b:=cm) (l:=ev (bD g.ds) F d.t.ns []) (.head _);rw[Ia,ak.t.n]at this;simpa using this) d.t.ns.length d.t.bA.toNat (by omega) (by omega) s fc
 rw[zL tP.1]at AG;have aoV:=Spec.yU (q:=λv I' M'=>I'=dp/\M'=kW b6 (s.marks i (gj (bD g.ds) F d.t.ns d.t.bA.toNat).2)::[fU cm (ev (bD g.ds) F d.t.ns []),⟨b7,.cells #[.int .i64 i] 3 (0,0)⟩,fU uk F,kW bT (kX 0),⟨b1,.cells #[.slice g.a g.n g.c] 24 (0,0)⟩]) (mN (a:=kW b6 s) (l₁:=[fU cm (ev (bD g.ds) F d.t.ns []),⟨b7,.cells #[.int .i64 i] 3 (0,0)⟩]) (l₂:=[fU uk F,kW bT (kX 0),⟨b1,.cells #[.slice g.a g.n g.c] 24 (0,0)⟩])).symm (λv I' M' h=>⟨M',.refl _,h⟩) AG;refine bd.whole _ aoV ?_;rintro v qh N -⟨lY,hC⟩;subst qh;subst N;generalize fz:s.marks i (gj (bD g.ds) F d.t.ns d.t.bA.toNat).2=s1 at *;have axd:s1.m.length=64:=by rw[<-fz,dV.FG,fc]
 refine bd.whole _ (aoH (xs:=ev (bD g.ds) F d.t.ns []) (ak.t.mono dW) af ?_) ?_
 ·have:=L3 (I:=dp) (M:=kW b6 s1::[fU cm (ev (bD g.ds) F d.t.ns []),⟨b7,.cells #[.int .i64 i] 3 (0,0)⟩,fU uk F,kW bT (kX 0),⟨b1,.cells #[.slice g.a g.n g.c] 24 (0,0)⟩]) (b:=cm) (l:=ev (bD g.ds) F d.t.ns []) (.tail _ (.head _));rw[Ia,ak.t.n]at this;simpa using this
 rintro v qh N -⟨ah,lY,hC⟩;subst qh;subst N;subst v;have dS:(kW b6 (re (bD g.ds) F s i d))=(kW b6 (bif oF d.t.ns (ev (bD g.ds) F d.t.ns [])then s1.loop i else s1)):=by rw[re,<-fz];rfl
 refine a3.mk (λhe=>?_) (λhe=>?_)
 rotate_left
 ·have rH:oF d.t.ns (ev (bD g.ds) F d.t.ns [])=false:=he;refine bg.mk _ (cL (i:=i) (by omega)) ?_;refine⟨(i+1,dp),⟨⟨a1,λb o h=>dW _ _ (bl _ _ h)⟩,by simp only;omega⟩,.sub (.cons_cons _ (.cons _ (.cons _ (.refl _)))) (.pu ?_),tB,.nil⟩;simp only;rw[ja,dS,rH];rfl
 have rH:oF d.t.ns (ev (bD g.ds) F d.t.ns [])=true:=he;refine c4.draw a7 rfl rfl rfl ?_;refine aR.mk _ (acg (.head _)) ?_;refine aR.mk [.int .i64 i] (c5 (cs:=[.int .i64 i]) (k:=0) (n:=1) (.tail _ (.tail _ (.head _))) (by simp)) ?_;refine xL.mk i rfl ?_;refine bg.mk _ (Sp (by omega)) ?_;refine b8.iJ [] _ s1.cells _ rfl ?_ rfl (s1.loop i).cells ?_ ?_
 ·rw[dV.cT];rfl
 ·show ck s1.cells (0+65) [Value.int .u64 (Fm s1.w.toNat (lR i).toNat)]=_;rw[MF];exact aoS s1 i
 refine bg.mk _ (cL (i:=i) (by omega)) ?_;refine⟨(i+1,dp),⟨⟨a1,λb o h=>dW _ _ (bl _ _ h)⟩,by simp only;omega⟩,.sub (.cons_cons _ (.cons _ (.cons _ (.refl _)))) (.pu ?_),tB,.nil⟩;simp only;rw[ja,dS,rH];rfl
def FH(l:List Nat):List Value:=l.map λn:Nat=>Value.int .i64 n
def AV(s:dV):List Nat:=bitsOf s.w 64
open Classical in
noncomputable def xk(s:dV):List Nat:=(List.range 64).filter λi=>decide (q5 s.m i i)
def aoW{b:dx}(h:∀ i,i<64->(b.getLsbD i=true ↔ q5 s.m i i)):bitsOf b 64=xk s:=by
 unfold bitsOf xk;apply GY;intro i hi;have:=h i (by simpa using hi);by_cases an:q5 s.m i i
 ·simp[an,this.2 an]
 ·have:b.getLsbD i=false:=by
   cases ag:b.getLsbD i with
   |false=>rfl| true=>exact absurd (this.1 ag) an
  simp[an,this]
def aci(pl:List (ByteArray×Int))(F:List aW):∀ (l:List aP) (i:Nat) (s:dV),(j8 pl F i l s).n=s.n
 |[],i,s=>rfl
 |d::l,i,s=>by
  rw[j8,aci pl F l];have hm:∀ (q:List Nat) (s:dV),(s.marks i q).n=s.n:=λq=>by
   induction q with
   |nil=>exact λs=>rfl
   |cons k q aF=>exact λs=>aF (s.mark i k)
  unfold re;cases oF d.t.ns (ev pl F d.t.ns [])with
  |true=>exact hm _ s| false=>exact hm _ s
def aoX(ds:List aP)(F:List aW):(rf ds F).n=ds.length:=aci _ _ _ _ _
def aoY(ds:List aP)(F:List aW):(rf ds F).m.length=64:=by rw[rf,Tz];rfl
noncomputable def Jm(e:Int)(s:dV):Int×Int:=
 if e≠0 then(0,e)else if 0<(xk s).length then(((xk s).headD 0:Nat),42)else if 0<(AV s).length then(((AV s).headD 0:Nat),43)else(0,0)
def aY.pos(h:os.ok 1 (FH l)):l.length=os.n:=by have:=h.len;simpa[FH]using this
def acj(h:os.ok 1 (FH l))(ay:0<l.length)(a':os.ar e++M0=M):∃ aU,os.a.map (λg=>(⟨g,0,none⟩:Addr))=some aU/\cO I M (aU.add (0*1)) 1 [.int .i64 (l.headD 0:Nat)]:=by
 have aB:=aY.pos h;cases a6:os.a with
 |none=>have:=(h.nil a6).1;omega
 |some b=>
  obtain⟨aa,ab,aj,aG⟩:=h.cap b a6;refine⟨⟨b,0,none⟩,rfl,?_⟩;subst a';cases l with
  |nil=>simp at ay
  |cons a l=>
   cases an:os.aS with
   |nil=>rw[an]at aG;simp[FH]at aG
   |cons x xs=>
    rw[an]at aG;have aC:os.n*1=(os.n-1)+1:=by omega
    rw[aC,qB]at aG;have ad:x=.int .i64 a:=(List.cons.inj aG).1;refine⟨rfl,_,_,_,.inr ⟨⟨b,.cells os.aS.toArray e (0,0)⟩,?_,rfl,rfl⟩,?_,rfl⟩;·unfold aY.ar;rw[a6];exact .head _
    ·rw[an,ad];rfl
def aoZ(bp:fW I al)(av:g.ok I)(ml:∀ d∈g.ds,vB d.t)(lq:dj al g=0->g.n<=64):Spec Tryz.prog 57 [g.val] I [] λv I' M'=>(∀ b o,I b=some o->I' b=some o)/\M'=[] /\
  ∃ r:Int×Int,v=.tuple #[.int .i64 r.1,.int .i64 r.2]/\((dj al g≠0/\r=(0,dj al g))\/(dj al g=0/\∃ F,j1 g.ds F/\r=Jm 0 (rf g.ds F))):=by
 refine cg [4] a7 Tryz.func57 rfl rfl rfl ?_;intro B az;have fl:=av.n;refine bd.mk [] [] _ (.refl _) (aoT bp av ml lq) ?_;rintro v I1 N -⟨cu,rfl,⟨hm,rfl⟩|⟨hm,F,bG,rfl⟩⟩
 ·refine b'.mk λeP z5 EA=>?_;refine b8.sd [] _ _ _ rfl rfl rfl rfl (kX 0).cells rfl ?_;refine a3.mk (λh=>?_) (λh=>absurd h (by simp[hm]));exact⟨_,_,.sub (fk _) .refl,cu,rfl,(0,dj al g),rfl,.inl ⟨hm,rfl⟩⟩
 refine b'.mk λeP z5 EA=>?_;refine b8.sd [] _ _ _ rfl rfl rfl rfl (rf g.ds F).cells rfl ?_;have ja:=aoX g.ds F;have fc:=aoY g.ds F;have aC:=lq hm;generalize au:rf g.ds F=s at ja fc;refine a3.mk (λh=>absurd h (by simp)) (λ_=>?_);refine aR.mk _ (Nf (.head _)) ?_;refine bd.whole _ (aml s ⟨fc,by omega⟩) ?_;rintro v J N -⟨rfl,rfl,b,rfl,ag⟩;refine bd.whole _ (aav b) ?_;rintro v J N -⟨rfl,os,bU,rfl,rfl⟩;have bU:os.ok 1 (FH (xk s)):=by rw[<-aoW ag];exact bU
 have aB:=aY.pos bU;refine a3.mk (λh=>?_) (λh=>?_)
 ·have bc:0<(xk s).length:=by have:(0:Int)<(os.n:Int):=dB h;omega
  obtain⟨aU,bK,bm⟩:=acj (I:=J) bU bc rfl;refine bf.mk aU 0 bK rfl (by omega) ?_;refine aR.mk _ bm ?_;exact⟨_,_,.sub (fk _) .refl,cu,rfl,(((xk s).headD 0:Nat),42),rfl,.inr ⟨hm,F,bG,by rw[au,Jm,bS (by simp),bN bc]⟩⟩
 have bc:¬ 0<(xk s).length:=by have:¬ (0:Int)<(os.n:Int):=eu h;omega
 refine aR.mk _ (acg (oY _ (.head _))) ?_;refine bd.whole _ (aav s.w) ?_;rintro v dp N -⟨rfl,TA,Ni,rfl,rfl⟩;have Ni:TA.ok 1 (FH (AV s)):=Ni;have lU:=aY.pos Ni;refine a3.mk (λh=>?_) (λh=>?_)
 ·have ab:0<(AV s).length:=by have:(0:Int)<(TA.n:Int):=dB h;omega
  obtain⟨aU,bK,bm⟩:=acj (I:=dp) Ni ab rfl;refine bf.mk aU 0 bK rfl (by omega) ?_;refine aR.mk _ bm ?_;exact⟨_,_,.sub (fk _) .refl,cu,rfl,(((AV s).headD 0:Nat),43),rfl,.inr ⟨hm,F,bG,by rw[au,Jm,bS (by simp),bS bc,bN ab]⟩⟩
 have ab:¬ 0<(AV s).length:=by have:¬ (0:Int)<(TA.n:Int):=eu h;omega
 exact⟨_,_,.sub (fk _) .refl,cu,rfl,(0,0),rfl,.inr ⟨hm,F,bG,by rw[au,Jm,bS (by simp),bS bc,bS ab]⟩⟩
def Nj(l:List Nat)(w:dx):dx:=l.foldl (λw k=>w ||| lR k) w
def ao0(l:List Nat)(w:dx){i:Nat}(hi:i<64):(Nj l w).getLsbD i=(w.getLsbD i||l.contains i):=alH l w hi
def qf(m:List dx)(i:Nat):m.set i (m.getD i 0)=m:=by
 apply zN;intro j;rw[iu];by_cases h:i=j
 ·subst h;by_cases ay:i<m.length
  ·simp[ay,bt]
  ·simp[ay]
 ·simp[h]
def ack(i:Nat):∀ (l:List Nat) (s:dV),i<s.m.length->(s.marks i l).m=s.m.set i (Nj l (s.m.getD i 0))
 |[],s,h=>(qf s.m i).symm| k::l,s,h=>by have aF:=ack i l (s.mark i k) (by simpa[dV.mark]using h);show((s.mark i k).marks i l).m=_;rw[aF,dV.mark];simp only;rw[Lc,Sq (by simpa using h)];rfl
def TB(i:Nat):∀ (l:List Nat) (s:dV),(s.marks i l).w=s.w
 |[],s=>rfl| k::l,s=>TB i l (s.mark i k)
def acm(pl:List (ByteArray×Int))(F:List aW)(s:dV)(i:Nat)(d:aP)(h:i<s.m.length):(re pl F s i d).m=s.m.set i (Nj (gj pl F d.t.ns d.t.bA).2 (s.m.getD i 0)):=by
 unfold re;rw[<-ack i _ s h];cases oF d.t.ns (ev pl F d.t.ns [])<;>rfl
def acn(pl:List (ByteArray×Int))(F:List aW)(s:dV)(i:Nat)(d:aP):(re pl F s i d).w=bif oF d.t.ns (ev pl F d.t.ns [])then s.w ||| lR i else s.w:=by
 unfold re;cases oF d.t.ns (ev pl F d.t.ns [])
 ·exact TB i _ s
 ·show(s.marks i _).w ||| lR i=_
  rw[TB];rfl
def TC(pl:List (ByteArray×Int))(F:List aW):∀ (l:List aP) (i:Nat) (s:dV),s.m.length=64->i+l.length<=64 -> (∀ j,j<i\/i+l.length<=j->(j8 pl F i l s).m.getD j 0=s.m.getD j 0) /\ (∀ q (h:q<l.length),(j8 pl F i l s).m.getD (i+q) 0=Nj (gj pl F l[q].t.ns l[q].t.bA).2 (s.m.getD (i+q) 0)) /\ (∀ j,j<64->j<i\/i+l.length<=j->(j8 pl F i l s).w.getLsbD j=s.w.getLsbD j) /\ (∀ q (h:q<l.length),(j8 pl F i l s).w.getLsbD (i+q)=(s.w.getLsbD (i+q)||oF l[q].t.ns (ev pl F l[q].t.ns [])))
 |[],i,s,_,_=>⟨λ_ _=>rfl,λ_ h=>absurd h (by simp),λ_ _ _=>rfl,λ_ h=>absurd h (by simp)⟩
 |d::l,i,s,au,ay=>by
  rw[c2]at ay;obtain⟨aa,ab,aj,aG⟩:=TC pl F l (i+1) (re pl F s i d) (by rw[ace,au]) (by omega);have hm:∀ j,j≠i->(re pl F s i d).m.getD j 0=s.m.getD j 0:=λj ai=>by rw[acm pl F s i d (by omega)];simp[bt,iu,pN ai]
  have hw:∀ j,j<64->j≠i->(re pl F s i d).w.getLsbD j=s.w.getLsbD j:=λj ai bs=>by
   rw[acn];cases oF d.t.ns (ev pl F d.t.ns []);·rfl
   ·rw[cb,CG,Mb ai];simp[bs]
  refine⟨λj ai=>?_,λq h=>?_,λj ai tM=>?_,λq h=>?_⟩;·rw[c2]at ai;rw[j8,aa j (by omega),hm j (by omega)]
  ·cases q with
   |zero=>rw[j8,aa _ (by omega),acm pl F s i d (by omega)];rw[qt,Sq (by omega)];rfl| succ q=>have:=ab q (by simpa using h);rw[show i+1+q=i+(q+1) by omega]at this;rw[j8,this,hm _ (by omega)];rfl
  ·rw[c2]at tM;rw[j8,aj j ai (by omega),hw j ai (by omega)]
  ·cases q with
   |zero=>
    rw[j8,aj _ (by omega) (by omega),acn,qt,uW];cases he:oF d.t.ns (ev pl F d.t.ns []);·simp
    ·rw[cb,CG,Mb (by omega)];simp
   |succ q=>
    have aN:q<l.length:=by simpa using h
    have:=aG q aN;rw[show i+1+q=i+(q+1) by omega]at this;rw[j8,this,hw _ (by omega) (by omega)];rfl
def jO(ds:List aP)(F:List aW)(i:Nat):List Nat:=match ds[i]? with
 |some d=>(gj (bD ds) F d.t.ns d.t.bA).2| none=>[]
def Jn(ds:List aP)(F:List aW)(i:Nat):Bool:=match ds[i]? with
 |some d=>oF d.t.ns (ev (bD ds) F d.t.ns [])| none=>false
def Nk{ds:List aP}(aC:ds.length<=64){i k:Nat}(ae:k<64):((rf ds F).m.getD i 0).getLsbD k=(jO ds F i).contains k:=by
 obtain⟨aa,ab,-,-⟩:=TC (bD ds) F ds 0 (kX ds.length) (by rfl) (by omega);have az:∀ j,(kX ds.length).m.getD j 0=0#64:=λj=>by
  simp only[kX,bt,Re];by_cases h:j<64<;>simp[h]
 unfold jO rf;by_cases h:i<ds.length
 ·have:=ab i h;rw[cX]at this;rw[this,az,ao0 _ _ ae,db h];simp
 ·rw[aa i (by omega),az,qA (by omega)];simp
def aco{ds:List aP}(aC:ds.length<=64){i:Nat}(hi:i<64):(rf ds F).w.getLsbD i=Jn ds F i:=by
 obtain⟨-,-,aa,ab⟩:=TC (bD ds) F ds 0 (kX ds.length) (by rfl) (by omega);unfold Jn rf;by_cases h:i<ds.length
 ·have:=ab i h;rw[cX]at this;rw[this,db h];simp[kX]
 ·rw[aa i hi (by omega),qA (by omega)];simp[kX]
section
end
section
end
structure ao1(t:bP):Prop where
 n:t.n<2500
 ns:∀ ca∈t.ns,QS ca
structure hZ(L:List bP)(n0:Nat)(x:Nat×Nat):Prop where
 i:x.2<=L.length
 n:x.1<=6000
 ge:n0<=x.1
 small:x.1<2500->x.2<=x.1/\∀ j (h:j<L.length),j<x.2->ao1 L[j]
def Nl{ds:List aP}{f:aP->aW}{i:Nat}(h:i<ds.length):(ds.map f).getD i b4=f ds[i]:=by simp[bt,h]
def pt.all{ds:List aP}{l:List aW}(h:pt ds l):pt ds (ds.map (ix (bD ds) l))/\eE l (ds.map (ix (bD ds) l)):=by
 have bq:eE l (ds.map (ix (bD ds) l)):=eE.of (by simp[h.len]) λi hi=>by rw[Nl (by rw[<-h.len];exact hi)];exact h.up i _
 refine⟨⟨by simp,λi hi=>?_,λm hm an=>eE.of (by simp[hm]) λi hi=>?_⟩,bq⟩
 ·rw[Nl hi];exact Ic bq _
 ·have cZ:i<ds.length:=by simpa using hi
  rw[Nl cZ];exact(Ic (h.least m hm an) _).trans (an i cZ)
def AW(b:Bool)(xs:List (aW×List Nat)):List Nat:=bif b then j3 xs else xs.flatMap (·.2)
def ao2(b:Bool):AW b []=[]:=by cases b<;>rfl
def ao3(b:Bool)(x:aW×List Nat)(xs:List (aW×List Nat)):AW b (x::xs)=x.2++bif b && !x.1.z then []else AW b xs:=by
 cases b with
 |true=>
  cases bb:x.1.z<;>simp[AW,j3,bb]
 |false=>simp[AW]
def ao4{pl:List (ByteArray×Int)}{d:ap}{xs:List (aW×List Nat)}(aj:¬ d.k=3)(bZ:¬ (d.k=6/\d.hi=0)):kp pl d xs=AW (decide (d.k=4)) xs:=by
 unfold kp AW;rw[dU aj,b5];cases aG:decide (d.k=4)with
 |true=>rfl
 |false=>
  rw[b5,b5];by_cases a:d.k=6;·have b:¬ d.hi=0:=λe=>bZ ⟨a,e⟩;rw[eV a,dU b];rfl
  ·rw[dU a];rfl
def yW(pl:List (ByteArray×Int))(F:List aW)(d:ap)(xs:List ((aW×List Nat)×Bool)):Bool:=xs.any λx=>(decide (d.k=6)&&(decide (d.hi=-1)&&x.1.1.z))||x.2
def lZ(pl:List (ByteArray×Int))(F:List aW)(d:ap)(xs:List ((aW×List Nat)×Bool)):(aW×List Nat)×Bool:=(q4 pl F d (xs.map (·.1)),yW pl F d xs)
def pE(pl:List (ByteArray×Int))(F:List aW)(ns:List ap)(j:Int):(aW×List Nat)×Bool:=lH ((b4,[]),false) (λd g=>lZ pl F d (d.aw.map g)) ns j
def acp{pl:List (ByteArray×Int)}(af:right t=true){j:Nat}(ai:j<t.ns.length):pE pl F t.ns j=lZ pl F t.ns[j] (t.ns[j].aw.map (pE pl F t.ns)):=
 B8 (λd g dM h=>by rw[fO h]) af ai
def Nm{pl:List (ByteArray×Int)}{F:List aW}{t:bP}(af:right t=true):∀ (m j:Nat),j<m->j<t.ns.length->(pE pl F t.ns j).1=gj pl F t.ns j
 |0,j,h,_=>absurd h (mS _)
 |m+1,j,hm,ai=>by
  rw[acp af ai,Rv af ai];have:(t.ns[j].aw.map (pE pl F t.ns)).map (·.1)=t.ns[j].aw.map (gj pl F t.ns):=by rw[gh];refine fO λk ae=>?_;obtain⟨aa,ab⟩:=mG af j ai k ae;obtain⟨q,rfl⟩:=ea aa;exact Nm af m q (by omega) (by omega)
  show q4 pl F t.ns[j] _=_;rw[this]
def ao5(pl:List (ByteArray×Int))(F:List aW)(ns:List ap)(j:Int):pE pl F (ns.map ap.a0) j=pE pl F ns j:=by unfold pE lH;rw[Im (f:=λd g=>lZ pl F d (d.aw.map g)) (g:=λd g=>lZ pl F d (d.aw.map g)) (λd q=>rfl)]
def qi(ds:List aP)(F:List aW)(i:Nat):List Nat:=(List.range ds.length).filter λk=>(jO ds F i).contains k
def qj(ds:List aP)(F:List aW)(i:Nat):Bool:=match ds[i]? with
 |some d=>(pE (bD ds) F d.t.ns d.t.bA).2| none=>false
def qk(ds:List aP)(F:List aW):List Nat:=(List.range ds.length).filter (qj ds F)
inductive kv(A:Nat->List Nat):Nat->Nat->Prop
 |one{i k}(h:k∈A i):kv A i k| step {i j k} (h:j∈A i) (t:kv A j k):kv A i k
def kv.snoc{i j k:Nat}(h:kv A i j)(ae:k∈A j):kv A i k:=by
 induction h with
 |one h=>exact .step h (.one ae)| step h t aF=>exact .step h (aF ae)
def vP:List Nat->List Nat->List Nat
 |[],l=>l| x::r,l=>vP r (bif l.contains x then l else l++[x])
def FI:∀ (r l:List Nat) (x:Nat),x∈vP r l ↔ x∈l\/x∈r
 |[],l,x=>by simp[vP]
 |y::r,l,x=>by
  rw[vP,FI r];cases h:l.contains y with
  |true=>
   have aH:y∈l:=by simpa using h
   rw[cb];constructor
   ·rintro(a | a)
    ·exact .inl a
    ·exact .inr (.tail _ a)
   ·rintro(a | a)
    ·exact .inl a
    ·rcases eg.1 a with rfl | a
     ·exact .inl aH
     ·exact .inr a
  |false=>
   rw[b5];rw[cF,ec,eg];constructor
   ·rintro((a | a) | a)
    ·exact .inl a
    ·exact .inr (.inl a)
    ·exact .inr (.inr a)
   ·rintro(a | a | a)
    ·exact .inl (.inl a)
    ·exact .inl (.inr a)
    ·exact .inr a
def acq:∀ (r l:List Nat),∃ s,vP r l=l++s
 |[],l=>⟨[],by simp[vP]⟩
 |y::r,l=>by
  obtain⟨s,au⟩:=acq r (bif l.contains y then l else l++[y]);rw[vP,au];cases l.contains y with
  |true=>exact⟨s,rfl⟩| false=>exact⟨[y]++s,by simp⟩
def acr:∀ (r l:List Nat),l.Nodup->(vP r l).Nodup
 |[],l,h=>h
 |y::r,l,h=>by
  rw[vP];apply acr r;cases an:l.contains y with
  |true=>exact h
  |false=>
   have aH:y ∉ l:=by simpa using an
   rw[b5,uJ];refine⟨h,by simp,λa a6 b ag e=>?_⟩;have:b=y:=by simpa using ag
   subst this;subst e;exact aH a6
def acs:∀ (n:Nat) (l:List Nat),l.Nodup->(∀ x∈l,x<n)->l.length<=n
 |0,[],_,_=>b2 _| 0,a::l,_,h=>absurd (h a (.head _)) (mS _)
 |n+1,l,ak,h=>by
  have aa:=acs n (l.erase n) (ak.erase n) λx ad=>by have ab:=h x (List.mem_of_mem_erase ad);have aj:x≠n:=(ak.mem_erase_iff.1 ad).1;omega
  have aG:=List.length_erase (a:=n) (l:=l);split at aG<;>omega
def FJ(A:Nat->List Nat):Nat->Nat->List Nat->List Nat
 |0,_,l=>l
 |f+1,k,l=>match l[k]? with
  |some x=>FJ A f (k+1) (vP (A x) l)| none=>l
structure uw(A:Nat->List Nat)(n k:Nat)(fA l:List Nat):Prop where
 ca:l.Nodup
 lt:∀ x∈l,x<n
 sub:∀ x∈fA,x∈l
 src:∀ x∈l,x∈fA\/∃ y∈fA,kv A y x
 pF:∀ j x,j<k->l[j]?=some x->∀ y∈A x,y∈l
 k:k<=l.length
def uw.len{k:Nat}{fA:List Nat}(h:uw A n k fA l):l.length<=n:=acs n l h.ca h.lt
def uw.next{A:Nat->List Nat}{n k:Nat}{fA l:List Nat}(dv:∀ x,∀ y∈A x,y<n)(h:uw A n k fA l){x:Nat}(ad:l[k]?=some x):uw A n (k+1) fA (vP (A x) l):=by
 obtain⟨s,au⟩:=acq (A x) l;have ae:k<l.length:=by
  rcases Nat.lt_or_ge k l.length with aa | aa;·exact aa
  ·rw[qA aa]at ad;cases ad
 have hz:x∈l:=rF ad;refine⟨acr _ _ h.ca,λz bb=>?_,λz bb=>(FI _ _ _).2 (.inl (h.sub z bb)),λz bb=>?_,λj z ai bb y aH=>?_,by rw[au];simp;omega⟩
 ·rcases(FI _ _ _).1 bb with a | a
  ·exact h.lt z a
  ·exact dv x z a
 ·rcases(FI _ _ _).1 bb with a | a
  ·exact h.src z a
  ·rcases h.src x hz with b | ⟨w,hw,b⟩
   ·exact .inr ⟨x,b,.one a⟩
   ·exact .inr ⟨w,hw,b.snoc a⟩
 ·have ha:l[j]?=some z:=by rw[au,rE (by omega)]at bb;exact bb
  by_cases e:j=k;·subst e;rw[ad]at ha;obtain rfl:=fm ha;exact(FI _ _ _).2 (.inr aH)
  ·exact(FI _ _ _).2 (.inl (h.pF j z (by omega) ha y aH))
def uw.done{i:Nat}(h:uw A n l.length (A i) l)(x:Nat):x∈l ↔ kv A i x:=by
 constructor
 ·intro ad;rcases h.src x ad with a | ⟨y,aH,a⟩
  ·exact .one a
  ·exact .step aH a
 ·have cl:∀ {y z:Nat},kv A y z->y∈l->z∈l:=fun {y z} an=>by
   induction an with
   |one ae=>intro aH;obtain⟨j,ai,e⟩:=jv aH;exact h.pF j _ ai (by rw[db ai,e]) _ ae
   |step ai t aF=>intro aH;refine aF ?_;obtain⟨q,aN,e⟩:=jv aH;exact h.pF q _ aN (by rw[db aN,e]) _ ai
  intro an;cases an with
  |one ae=>exact h.sub x ae| step ai t=>exact cl t (h.sub _ ai)
def TD{pl:List (ByteArray×Int)}(af:right t=true){j:Nat}(ai:j<t.ns.length):(pE pl F t.ns j).2=true ↔ ∃ k∈t.ns[j].aw,(t.ns[j].k=6/\t.ns[j].hi=-1/\(ev pl F t.ns []).getD k.toNat b4=(ev pl F t.ns []).getD k.toNat b4/\((ev pl F t.ns []).getD k.toNat b4).z=true)\/(pE pl F t.ns k).2=true:=by
 have me:∀ k∈t.ns[j].aw,(pE pl F t.ns k).1.1=(ev pl F t.ns []).getD k.toNat b4:=λk ae=>by obtain⟨aa,ab⟩:=mG af j ai k ae;obtain⟨q,rfl⟩:=ea aa;rw[Nm af (q+1) q (by omega) (by omega),Rw]
 rw[acp af ai];show yW pl F t.ns[j] _=true ↔ _;unfold yW;rw[vM];constructor
 ·rintro⟨x,ad,h⟩;obtain⟨k,ae,rfl⟩:=cA.1 ad;refine⟨k,ae,?_⟩;rw[me k ae]at h;simp only[k6,cz,hq]at h;rcases h with⟨a,b,c⟩ | h
  ·exact .inl ⟨a,b,rfl,c⟩
  ·exact .inr h
 ·rintro⟨k,ae,h⟩;refine⟨_,cA.2 ⟨k,ae,rfl⟩,?_⟩;rw[me k ae];simp only[k6,cz,hq];rcases h with⟨a,b,-,c⟩ | h
  ·exact .inl ⟨a,b,c⟩
  ·exact .inr h
def acu{pl:List (ByteArray×Int)}{F:List aW}{t:bP}(af:right t=true):∀ (m j:Nat),j<t.ns.length->t.ns.length-j<=m->(pE pl F t.ns j).2=true->(pE pl F t.ns t.bA).2=true
 |0,j,ai,hm,_=>by omega
 |m+1,j,ai,hm,h=>by
  by_cases e:(j:Int)=t.bA;·rw[<-e];exact h
  ·obtain⟨p,aB,ae,a1⟩:=Yx af ai e;exact acu af m p aB (by omega) ((TD af aB).2 ⟨_,ae,.inr h⟩)
def ao6{l:List Int}{k:Int}(ae:k∈l)(h:l.length=1):l.headD 0=k:=by
 match l,h with
 |[a],_=>exact(ec.1 ae).symm
def acv{pl:List (ByteArray×Int)}{F:List aW}{t:bP}(af:right t=true)(aa:∀ d∈t.ns,d.k=6->d.aw.length=1):∀ (m j:Nat),j<m->∀ (ai:j<t.ns.length),(pE pl F t.ns j).2=true->oF t.ns (ev pl F t.ns [])=true
 |0,j,h,_,_=>absurd h (mS _)
 |m+1,j,hm,ai,h=>by
  obtain⟨k,ae,⟨a,b,-,c⟩ | h⟩:=(TD af ai).1 h;·refine vM.2 ⟨t.ns[j],bi ai,?_⟩;simp only[cz,hq];refine⟨a,b,?_⟩;rw[ao6 ae (aa _ (bi ai) a)];exact c
  ·obtain⟨ab,aj⟩:=mG af j ai k ae;obtain⟨q,rfl⟩:=ea ab;exact acv af aa m q (by omega) (by omega) h
def ao7{pl:List (ByteArray×Int)}(af:right t=true)(aa:∀ d∈t.ns,d.k=6->d.aw.length=1):(pE pl F t.ns t.bA).2=oF t.ns (ev pl F t.ns []):=by
 obtain⟨kw,hO⟩:=qP af;obtain⟨r,fE⟩:=ea kw;apply sC.2;constructor
 ·intro h;rw[fE]at h;exact acv af aa (r+1) r (by omega) (by omega) h
 ·intro h;obtain⟨d,ak,h⟩:=vM.1 h;obtain⟨j,ai,rfl⟩:=jv ak;simp only[cz,hq]at h;obtain⟨a,b,c⟩:=h;have ay:=aa _ ak a;have ae:t.ns[j].aw.headD 0∈t.ns[j].aw:=by
   match ad:t.ns[j].aw,ay with
   |[q],_=>simp
  exact acu af t.ns.length j ai (by omega) ((TD af ai).2 ⟨_,ae,.inl ⟨a,b,rfl,c⟩⟩)
def acw{b:Bool}{x:Nat}:∀ {xs:List (aW×List Nat)},x∈AW b xs->∃ y∈xs,x∈y.2
 |[],h=>by rw[ao2]at h;cases h
 |y::xs,h=>by
  rw[ao3]at h;rcases cF.1 h with h | h;·exact⟨y,.head _,h⟩
  ·cases ag:b && !y.1.z with
   |true=>rw[ag]at h;cases h| false=>rw[ag]at h;obtain⟨z,bb,ad⟩:=acw (xs:=xs) h;exact⟨z,.tail _ bb,ad⟩
def acx{ds:List aP}{F:List aW}{t:bP}(af:right t=true)(dN:wT (bD ds) t.ns=true):∀ (m j:Nat),j<m->j<t.ns.length->∀ x∈(gj (bD ds) F t.ns j).2,x<ds.length
 |0,j,h,_=>absurd h (mS _)
 |m+1,j,hm,ai=>by
  intro x ad;rw[Rv af ai]at ad;have ad:x∈kp (bD ds) t.ns[j] (t.ns[j].aw.map (gj (bD ds) F t.ns)):=ad;have h7:=fi.1 dN _ (bi ai);by_cases aj:t.ns[j].k=3
  ·obtain⟨q,CE,vr,Jk⟩:=ab8 (nm:=t.ns[j].t) (ds:=ds) (by simpa[aj]using h7);rw[kp,eV aj,cb,Jk]at ad;have:x=q:=by simpa using ad
   omega
  by_cases bZ:t.ns[j].k=6/\t.ns[j].hi=0;·rw[kp,dU aj,b5,dU (show ¬ t.ns[j].k=4 by omega),b5,eV bZ.1,eV bZ.2]at ad;cases ad
  ·rw[ao4 aj bZ]at ad;obtain⟨y,aH,ao8⟩:=acw ad;obtain⟨k,ae,rfl⟩:=cA.1 aH;obtain⟨aa,ab⟩:=mG af j ai k ae;obtain⟨q,rfl⟩:=ea aa;exact acx af dN m q (by omega) (by omega) x ao8
def TE(a':wV g)(i:Nat):∀ k∈jO g.ds F i,k<g.ds.length:=by
 intro k ae;unfold jO at ae;by_cases h:i<g.ds.length
 ·rw[db h]at ae;have gb:=bi h;have af:=a'.right _ gb;obtain⟨kw,hO⟩:=qP af;obtain⟨r,fE⟩:=ea kw;have ae:k∈(gj (bD g.ds) F g.ds[i].t.ns g.ds[i].t.bA).2:=ae;rw[fE]at ae;exact acx af (a'.named _ gb) (r+1) r (by omega) (by omega) k ae
 ·rw[qA (by omega)]at ae;cases ae
def acy(a':wV g)(lq:g.ds.length<=64){i k:Nat}(hi:i<64):q5 (rf g.ds F).m i k ↔ kv (jO g.ds F) i k:=by
 constructor
 ·intro h
  induction h with
  |one ae h=>rw[Nk lq ae]at h;exact .one (by simpa using h)| step h ai t aF=>rw[Nk lq ai]at h;exact .step (by simpa using h) (aF ai)
 ·intro h
  induction h with
  |one h=>have:=TE a' _ _ h;exact .one (by omega) (by rw[Nk lq (by omega)];simpa using h)| step h t aF=>have:=TE a' _ _ h;exact .step (by rw[Nk lq (by omega)];simpa using h) (by omega) (aF (by omega))
def acz(aC:n<=64)(p q:Nat->Bool)(aa:∀ k,k<n->p k=q k)(ab:∀ k,n<=k->k<64->p k=false):(List.range 64).filter p=(List.range n).filter q:=by
 have lq:(List.range 64)=List.range n++(List.range' n (64-n)):=by rw[xH,xH,show 64=n+(64-n) by omega,<-List.range'_append_1];simp
 have aj:(List.range' n (64-n)).filter p=[]:=by rw[St];intro k ae;rw[List.mem_range'_1]at ae;rw[ab k (by omega) (by omega)];simp
 rw[lq,yy,aj,ed];apply GY;intro k ae;exact aa k (by simpa using ae)
def ao9(av:g.ok I)(a':wV g)(F:List aW)(i:Nat):qj g.ds F i=Jn g.ds F i:=by
 unfold qj Jn;by_cases h:i<g.ds.length
 ·rw[db h];have gb:=bi h;have af:=a'.right _ gb;have ax:=(av.ds _ gb).t;refine ao7 af λd ak ae=>?_;obtain⟨j,ai,rfl⟩:=jv ak;have bH:=ax.ns _ ak;have:=(ab1 bH.k.1 (Es af ai)).one (by omega);omega
 ·rw[qA (by omega)]
def apa(av:g.ok I)(a':wV g)(lq:g.ds.length<=64)(F:List aW):AV (rf g.ds F)=qk g.ds F:=by
 unfold AV qk bitsOf;refine acz lq _ _ (λk ae=>?_) (λk ae eS=>?_)
 ·rw[aco lq (by omega),ao9 av a']
 ·rw[aco lq eS,Jn,qA ae]
open Classical in
noncomputable def sq(ds:List aP)(F:List aW):List Nat:=(List.range ds.length).filter λi=>decide (kv (jO ds F) i i)
def apb{ds:List aP}{i:Nat}(h:ds.length<=i):jO ds F i=[]:=by rw[jO,qA h]
open Classical in
def apc(a':wV g)(lq:g.ds.length<=64)(F:List aW):xk (rf g.ds F)=sq g.ds F:=by
 unfold xk sq;refine acz lq _ _ (λk ae=>?_) (λk ae eS=>?_)
 ·exact decide_eq_decide.2 (acy a' lq (by omega))
 ·refine dU λan=>?_;have an:=(acy a' lq eS).1 an;have aC:=apb (F:=F) ae;cases an with
  |one h=>rw[aC]at h;cases h| step h t=>rw[aC]at h;cases h
structure TF(d:ap):Prop where
 aO:d.aO<400
 t:d.t.size<8020
structure acA(t:bP):Prop where
 n:t.n<400
 ns:∀ ca∈t.ns,TF ca
structure TG(d:aP):Prop where
 name:d.name.size<8020
 t:acA d.t
structure Nn(g:cD):Prop where
 n:g.n<400
 ds:∀ d∈g.ds,TG d
def wO.Jo{d:ap}(h:wO I d)(au:TF d):d.ok I:=
 ⟨h.k,h.cC,h.s1,h.s2,h.c0,h.fT,h.lo,h.hi,h.a2.EL (by have:=au.aO;omega),h.aw⟩
def EK.Jo(h:EK I t)(au:acA t):t.ok I:=
 ⟨h.a2.EL (by have:=au.n;omega),λca bH=>(h.ns ca bH).Jo (au.ns ca bH),h.bA⟩
def s3.Jo(h:s3 I g)(au:Nn g):g.ok I:=
 ⟨h.a2.EL (by have:=au.n;omega),λd ak=>⟨by have:=(au.ds d ak).name;omega,(h.ds d ak).t.Jo (au.ds d ak).t⟩⟩
def FK(h:dj al g=0):g.n<=64:=by
 unfold dj at h;cases aa:decide ((g.n:Int)=0)with
 |true=>rw[aa]at h;simp at h
 |false=>
  rw[aa,b5]at h;cases ab:nr g.ds with
  |false=>rw[ab]at h;simp at h
  |true=>
   rw[ab]at h;cases aj:mL al g with
   |true=>rw[aj]at h;simp at h| false=>unfold mL at aj;simp only[qN,qz]at aj;omega
def acB{A:Nat->List Nat}{n:Nat}{fA:List Nat}(dv:∀ x,∀ y∈A x,y<n):∀ (f k:Nat) (l:List Nat),uw A n k fA l->n+1<=f+k->uw A n (FJ A f k l).length fA (FJ A f k l)
 |0,k,l,h,aA=>by have:=h.len;have:=h.k;omega
 |f+1,k,l,h,aA=>by
  rw[FJ];cases ad:l[k]? with
  |none=>
   have aa:k=l.length:=by have:=h.k;have:=List.getElem?_eq_none_iff.1 ad;omega
   subst aa;exact h
  |some x=>exact acB dv f (k+1) _ (h.next dv ad) (by omega)
def kv.congr{B:Nat->List Nat}(h:∀ i k,k∈A i->k∈B i){i k:Nat}(an:kv A i k):kv B i k:=by
 induction an with
 |one aa=>exact .one (h _ _ aa)| step aa t aF=>exact .step (h _ _ aa) aF
def kv.trans{i j k:Nat}(h:kv A i j)(bc:kv A j k):kv A i k:=by
 induction h with
 |one h=>exact .step h bc| step h t aF=>exact .step h (aF bc)
def acC(a':wV g){i k:Nat}:k∈qi g.ds F i ↔ k∈jO g.ds F i:=by
 unfold qi;rw[iE];constructor
 ·rintro⟨-,h⟩;simpa using h
 ·intro h;exact⟨by simpa using TE a' i k h,by simpa using h⟩
def apd(a':wV g){i k:Nat}:kv (qi g.ds F) i k ↔ kv (jO g.ds F) i k:=
 ⟨kv.congr λ_ _ h=>(acC a').1 h,kv.congr λ_ _ h=>(acC a').2 h⟩
def acD{ds:List aP}{i k:Nat}(h:k∈qi ds F i):k<ds.length:=by unfold qi at h;simpa using(iE.1 h).1
def ape(ds:List aP)(F:List aW)(i:Nat):(qi ds F i).Nodup:=List.Nodup.sublist zM xZ
def uw.start{ds:List aP}(i:Nat):uw (qi ds F) ds.length 0 (qi ds F i) (qi ds F i):=
 ⟨ape ds F i,λx ad=>acD ad,λ_ h=>h,λ_ h=>.inl h,λj x ai=>absurd ai (mS _),dw _⟩
def Df(ds:List aP)(F:List aW):List Nat:=(List.range ds.length).filter λi=>(FJ (qi ds F) (ds.length+1) 0 (qi ds F i)).contains i
open Classical in
def apf(a':wV g)(F:List aW):Df g.ds F=sq g.ds F:=by
 unfold Df sq;refine GY λi _=>?_;have aa:=acB (λx y aH=>acD aH) (g.ds.length+1) 0 _ (uw.start (ds:=g.ds) (F:=F) i) (by omega);have ab:=(aa.done i).trans (apd a');cases an:(FJ (qi g.ds F) (g.ds.length+1) 0 (qi g.ds F i)).contains i with
 |true=>exact(eV (ab.1 (by simpa using an))).symm| false=>refine(dU λh=>?_).symm;have:=ab.2 h;rw[<-List.contains_iff_mem,an]at this;cases this
def ql:List Bool->Nat
 |[]=>0| b::r=>bif b then ql r+1 else ql r
open Classical in
noncomputable def No(ds:List aP):List aW:=if h:∃ F,j1 ds F then h.choose else []
def Np{ds:List aP}(h:j1 ds F):No ds=F:=by have ad:∃ F,j1 ds F:=⟨F,h⟩;unfold No;rw[dif_pos ad];exact ad.choose_spec.unique h
def mm(al:List Int)(g:cD)(r:Int×Int):Prop:=(dj al g≠0/\r=(0,dj al g))\/(dj al g=0/\∃ F,j1 g.ds F/\r=if 0<(sq g.ds F).length then((((sq g.ds F).headD 0:Nat):Int),42)else if 0<(qk g.ds F).length then((((qk g.ds F).headD 0:Nat):Int),43)else(0,0))
def mm.eq{l m:Int×Int}(h:mm al g l)(bc:mm al g m):l=m:=by
 rcases h with⟨a,rfl⟩ | ⟨a,F,d,rfl⟩<;>rcases bc with⟨bO,rfl⟩ | ⟨bO,dr,gO,rfl⟩
 ·rfl
 ·exact absurd bO a
 ·exact absurd a bO
 ·rw[d.unique gO]
def apg(bp:fW I al)(av:g.ok I)(ml:∀ d∈g.ds,vB d.t):Spec Tryz.prog 57 [g.val] I [] λv I' M'=>(∀ b o,I b=some o->I' b=some o)/\M'=[] /\ ∃ r:Int×Int,v=.tuple #[.int .i64 r.1,.int .i64 r.2]/\mm al g r:=
 Spec.ra (aoZ bp av ml FK) λv I' M' h=>by
  obtain⟨aa,ab,r,aj,bx⟩:=h;refine⟨aa,ab,r,aj,?_⟩;rcases bx with bx | ⟨hm,F,c,d⟩;·exact .inl bx
  ·have a':=L4 av.n hm;have lq:=FK hm;have fl:=av.n;refine .inr ⟨hm,F,c,?_⟩;rw[d,Jm,bS (by simp),apc a' (by omega),apa av a' (by omega)]
def Jp(bp:fW I al)(av:g.ok I)(ml:∀ d∈g.ds,vB d.t):Spec Tryz.prog 13 [g.val] I [] λv I' M'=>(∀ b o,I b=some o->I' b=some o)/\M'=[] /\
  ∃ r:Int×Int,v=.int .i64 r.2/\mm al g r:=by
 refine cg [] a7 Tryz.func13 rfl rfl rfl ?_;intro B az;refine bd.mk [] [] _ (.refl _) (apg bp av ml) ?_;rintro v I1 N -⟨cu,rfl,r,rfl,h⟩;exact⟨_,_,.refl,cu,rfl,r,rfl,h⟩
section
end
structure sr where
 k:Int
 cC:Int
 s1:Int
 s2:Int
 c0:Int
 t:List UInt8
 lo:Int
 hi:Int
 aw:List Int
def sr.ca(c:sr)(a:Option Addr)(n k:Nat):ap:=⟨c.k,c.cC,c.s1,c.s2,c.c0,⟨c.t.toArray⟩,c.lo,c.hi,a,n,k,c.aw⟩
inductive yX:List sr->List ap->Prop
 |nil:yX [] []| cons {c cs ns} (a:Option Addr) (n k:Nat) (t:yX cs ns):yX (c::cs) (c.ca a n k::ns)
structure xl where
 ns:List sr
 bA:Int
structure Jq(c:xl)(t:bP):Prop where
 ns:yX c.ns t.ns
 bA:t.bA=c.bA
structure ig where
 name:List UInt8
 t:xl
inductive qm:List ig->List aP->Prop
 |nil:qm [] []| cons {c cs ds} {t:bP} (h:Jq c.t t) (k:qm cs ds):qm (c::cs) (⟨⟨c.name.toArray⟩,t⟩::ds)
def acE:Int->Bool
 | .ofNat k=>Nat.ble k 9223372036854775807| .negSucc k=>Nat.ble k 9223372036854775807
def acF:Int->Bool
 | .ofNat k=>Nat.ble k 18446744073709551615| .negSucc _=>false
def okB:Int->Bool
 | .ofNat k=>Nat.ble k 255| .negSucc _=>false
def aph(h:acE x=true):iZ x:=by
 cases x with
 |ofNat k=>have:=bI h;exact⟨by simp only[x'];omega,by simp only[x'];omega⟩| negSucc k=>have:=bI h;exact⟨by omega,by omega⟩
def api(h:acF x=true):hc x:=by
 cases x with
 |ofNat k=>have:=bI h;exact⟨by simp,by simp;omega⟩| negSucc k=>cases h
def apj(h:okB x=true):0<=x/\x<256:=by
 cases x with
 |ofNat k=>have:=bI h;exact⟨by simp,by simp;omega⟩| negSucc k=>cases h
noncomputable def TH:aq->Option Int
 | .i .u8 n=>b0 (okB n) (some n) none| _=>none
noncomputable def FL:aq->Option Int
 | .i .u64 n=>b0 (acF n) (some n) none| _=>none
noncomputable def FM:aq->Option Int
 | .i .i64 n=>b0 (acE n) (some n) none| _=>none
noncomputable def Nq:aq->Option (List UInt8)
 | .s l=>b0 (Nat.ble l.length 140737488355328) (some l) none| _=>none
section
variable{D:bQ}{v:aq}{u:Value}
def apk{n:Int}(h:TH v=some n)(ah:aT D v u):u=.int .u8 n/\0<=n/\n<256:=by
 unfold TH at h;split at h
 ·obtain⟨aa,ab⟩:=fZ h;cases ab;simp only[aT]at ah;exact⟨ah,apj aa⟩
 ·cases h
def Nr{n:Int}(h:FL v=some n)(ah:aT D v u):u=.int .u64 n/\hc n:=by
 unfold FL at h;split at h
 ·obtain⟨aa,ab⟩:=fZ h;cases ab;simp only[aT]at ah;exact⟨ah,api aa⟩
 ·cases h
def Ns{n:Int}(h:FM v=some n)(ah:aT D v u):u=.int .i64 n/\iZ n:=by
 unfold FM at h;split at h
 ·obtain⟨aa,ab⟩:=fZ h;cases ab;simp only[aT]at ah;exact⟨ah,aph aa⟩
 ·cases h
def acG{l:List UInt8}(h:Nq v=some l)(ah:aT D v u):u=.string ⟨l.toArray⟩/\(⟨l.toArray⟩:ByteArray).size<=140737488355328:=by
 unfold Nq at h;split at h
 ·obtain⟨aa,ab⟩:=fZ h;cases ab;simp only[aT]at ah;exact⟨ah,bI aa⟩
 ·cases h
end
noncomputable def Jr{R:Type}(G:GT)(m:be fP)(x:aq)(size b:Nat)(K:List aq->Option R):Option R:=match x with
 | .sn=>K []| .so=>K []| .sl id off n c=>b0 (Nat.ble n c) (b0 (Nat.ble (Nat.mul n b) 140737488355328) (um G m (.p id off) (Nat.mul n size) K) none) none| .sx id off e n=>b0 (Nat.ble (Nat.mul n b) 140737488355328) (um G m (.p id off) (Nat.mul n size) K) none| _=>none
noncomputable def ints:List aq->Option (List Int)
 |[]=>some []| v::l=>bn (FM v) none λn=>bn (ints l) none λr=>some (n::r)
noncomputable def Nt(G:GT)(m:be fP):List aq->Option (List sr)
 |[]=>some []
 |a::b::c::d::e::f::g::h::x::l=>bn (TH a) none λa=>bn (FL b) none λb=>bn (FL c) none λc=>bn (FL d) none λd=>bn (FL e) none λe=>bn (Nq f) none λf=>bn (FM g) none λg=>bn (FM h) none λh=>
  bn (Jr G m x 1 8 ints) none λks=>bn (Nt G m l) none λns=>some (⟨a,b,c,d,e,f,g,h,ks⟩::ns)
 |_=>none
noncomputable def TI(G:GT)(m:be fP)(x r:aq):Option xl:=bn (Jr G m x 9 96 (Nt G m)) none λns=>bn (FM r) none λr=>some ⟨ns,r⟩
noncomputable def Nu(G:GT)(m:be fP):List aq->Option (List ig)
 |[]=>some []| a::x::r::l=>bn (Nq a) none λa=>bn (TI G m x r) none λt=>bn (Nu G m l) none λds=>some (⟨a,t⟩::ds)
 |_=>none
noncomputable def TJ(G:GT)(m:be fP):aq->Option (List ig)
 | .a [x]=>Jr G m x 3 48 (Nu G m)| _=>none
section
variable{Y:gP}{D:bQ}{m:br}{I J:aM}{M:List aE}
def TK(h:c8 Y D m I M)(bl:vO I M J){x:aq}(ad:aT D x u){K:List aq->Option R}{r:R}(af:Jr Y.G m.t x size b K=some r) :
  ∃ a n c l vs,u=.slice a n c/\dh J a n c size b vs/\bL D l vs/\K l=some r:=by
 unfold Jr at af;split at af
 ·simp only[aT]at ad;exact⟨none,0,0,[],[],ad,⟨by simp,⟨b2 _,by omega⟩,.inl rfl⟩,by simp[bL],af⟩
 ·simp only[aT]at ad;obtain⟨a,c,ad⟩:=ad;exact⟨some a,0,c,[],[],ad,⟨by simp,⟨dw _,by omega⟩,.inl rfl⟩,by simp[bL],af⟩
 ·rename_i id off n c;obtain⟨aa,af⟩:=fZ af;obtain⟨ab,af⟩:=fZ af;simp only[aT]at ad;obtain⟨a,a6,ad⟩:=ad;obtain⟨aU,l,vs,aJ,a4,cn,dc⟩:=w3 h (x:=.p id off) (u:=.pointer (some ⟨a.b,a.o+off,none⟩)) (by simp only[aT];exact⟨a,a6,rfl⟩) af;cases aJ;obtain⟨a8,cs,T,f,ba,bR,fq⟩:=a4;exact⟨_,n,c,l,vs,ad,⟨fq,⟨bI aa,bI ab⟩,.inr ⟨_,rfl,rfl,cs,T,f,bl.aO _ _ ba,bR⟩⟩,cn,dc⟩
 ·rename_i id off e n;obtain⟨ab,af⟩:=fZ af;simp only[aT]at ad;obtain⟨a,a6,an,ad⟩:=ad;obtain⟨aU,l,vs,aJ,a4,cn,dc⟩:=w3 h (x:=.p id off) (u:=.pointer (some ⟨a.b,a.o+off,none⟩)) (by simp only[aT];exact⟨a,a6,rfl⟩) af;cases aJ;obtain⟨a8,cs,T,f,ba,bR,fq⟩:=a4;exact⟨_,n,a.c-e,l,vs,ad,⟨fq,⟨by omega,bI ab⟩,.inr ⟨_,rfl,rfl,cs,T,f,bl.aO _ _ ba,bR⟩⟩,cn,dc⟩
 ·cases af
def acH:∀ {l:List aq} {vs:List Value} {ks:List Int},ints l=some ks->bL D l vs->vs=ks.map (Value.int .i64 ·)/\∀ x∈ks,iZ x
 |[],vs,ks,h,ah=>by cases h;simp only[bL]at ah;exact⟨ah,by simp⟩
 |v::l,vs,ks,h,ah=>by unfold ints at h;obtain⟨n,aa,h⟩:=cx h;obtain⟨r,ab,h⟩:=cx h;cases h;simp only[bL]at ah;obtain⟨x,xs,a8,ba,rfl⟩:=ah;obtain⟨rfl,aJ⟩:=Ns aa a8;obtain⟨rfl,a4⟩:=acH ab ba;exact⟨rfl,λx ad=>(eg.1 ad).elim (λe=>e ▸ aJ) (a4 x)⟩
def acI(h:c8 Y D m I M)(bl:vO I M J):∀ (l:List aq) {vs:List Value} {cs:List sr},Nt Y.G m.t l=some cs->bL D l vs->∃ ns:List ap,vs=ns.flatMap ap.cells/\yX cs ns/\∀ d∈ns,d.ok J
 |[],vs,cs,af,ah=>by cases af;simp only[bL]at ah;exact⟨[],ah,.nil,by simp⟩
 |a::b::c::d::e::f::g::i::x::l,vs,cs,af,ah=>by
  unfold Nt at af;obtain⟨bO,aa,af⟩:=cx af;obtain⟨iV,ab,af⟩:=cx af;obtain⟨c',aj,af⟩:=cx af;obtain⟨gO,aG,af⟩:=cx af;obtain⟨cQ,bx,af⟩:=cx af;obtain⟨u9,bZ,af⟩:=cx af;obtain⟨dM,ek,af⟩:=cx af;obtain⟨gX,fv,af⟩:=cx af;obtain⟨ks,dZ,af⟩:=cx af;obtain⟨jB,rU,af⟩:=cx af;cases af;simp only[bL]at ah;obtain⟨_,_,en,⟨_,_,cE,⟨_,_,gD,⟨_,_,mH,⟨_,_,Jh,⟨_,_,TL,⟨_,_,TM,⟨_,_,TN,⟨_,_,apl,apm,rfl⟩,rfl⟩,rfl⟩,rfl⟩,rfl⟩,rfl⟩,rfl⟩,rfl⟩,rfl⟩:=ah;obtain⟨rfl,aJ⟩:=apk aa en;obtain⟨rfl,a4⟩:=Nr ab cE;obtain⟨rfl,cn⟩:=Nr aj gD;obtain⟨rfl,dc⟩:=Nr aG mH;obtain⟨rfl,jX⟩:=Nr bx Jh;obtain⟨rfl,kt⟩:=acG bZ TL;obtain⟨rfl,AM⟩:=Ns ek TM;obtain⟨rfl,IZ⟩:=Ns fv TN;obtain⟨dE,aO,du,li,axe,rfl,xf,apn,apo⟩:=TK h bl apl dZ;obtain⟨rfl,TO⟩:=acH apo apn;obtain⟨ns,rfl,TP,apq⟩:=acI h bl l rU apm;refine⟨sr.ca ⟨bO,iV,c',gO,cQ,u9,dM,gX,ks⟩ dE aO du::ns,rfl,.cons dE aO du TP,λy aH=>?_⟩;rcases eg.1 aH with rfl | aH;·exact⟨aJ,a4,cn,dc,jX,jf kt (by decide),AM,IZ,xf,TO⟩
  ·exact apq y aH
def apr(h:c8 Y D m I M)(bl:vO I M J){x r:aq}{w:Value}{c:xl}(af:TI Y.G m.t x r=some c)(ad:aT D x u)(hw:aT D r w):∃ t:bP,u=.slice t.a t.n t.c/\w=.int .i64 t.bA/\t.ok J/\Jq c t:=by unfold TI at af;obtain⟨ns,aa,af⟩:=cx af;obtain⟨k,ab,af⟩:=cx af;cases af;obtain⟨rfl,aJ⟩:=Ns ab hw;obtain⟨a,n,c,l,vs,rfl,a4,cn,dc⟩:=TK h bl ad aa;obtain⟨ds,rfl,jX,kt⟩:=acI h bl l dc cn;exact⟨⟨ds,a,n,c,k⟩,rfl,rfl,⟨a4,kt,aJ⟩,⟨jX,rfl⟩⟩
def acJ(h:c8 Y D m I M)(bl:vO I M J):∀ (l:List aq) {vs:List Value} {cs:List ig},Nu Y.G m.t l=some cs->bL D l vs->∃ ds:List aP,vs=ds.flatMap aP.cells/\qm cs ds/\∀ d∈ds,d.ok J
 |[],vs,cs,af,ah=>by cases af;simp only[bL]at ah;exact⟨[],ah,.nil,by simp⟩
 |a::x::r::l,vs,cs,af,ah=>by
  unfold Nu at af;obtain⟨bO,aa,af⟩:=cx af;obtain⟨bo,ab,af⟩:=cx af;obtain⟨ds',aj,af⟩:=cx af;cases af;simp only[bL]at ah;obtain⟨_,_,en,⟨_,_,cE,⟨_,_,gD,mH,rfl⟩,rfl⟩,rfl⟩:=ah;obtain⟨rfl,aJ⟩:=acG aa en;obtain⟨t,rfl,rfl,a4,cn⟩:=apr h bl ab cE gD;obtain⟨ds,rfl,dc,jX⟩:=acJ h bl l aj mH;refine⟨⟨⟨bO.toArray⟩,t⟩::ds,rfl,.cons (c:=⟨bO,bo⟩) cn dc,λy aH=>?_⟩;rcases eg.1 aH with rfl | aH;·exact⟨aJ,a4⟩
  ·exact jX y aH
def aps(h:c8 Y D m I M)(bl:vO I M J){x:aq}{cs:List ig}(af:TJ Y.G m.t x=some cs)(ad:aT D x u):∃ g:cD,u=g.val/\g.ok J/\qm cs g.ds:=by
 unfold TJ at af;split at af
 ·simp only[aT,bL]at ad;obtain⟨_,⟨y,_,ad,rfl,rfl⟩,rfl⟩:=ad;obtain⟨a,n,c,l,vs,rfl,a4,cn,dc⟩:=TK h bl ad af;obtain⟨ds,rfl,jX,kt⟩:=acJ h bl l dc cn;exact⟨⟨ds,a,n,c⟩,rfl,⟨a4,kt⟩,jX⟩
 ·cases af
end
noncomputable def xm(f g:Nat)(text:List UInt8):Option (List ig×Int×IntKind×Int):=bn (At yS (mh yS f) g [.s text] ⟨.nil,0⟩) none λp=>match p.1 with
 | .t [x,.i .i64 a,.i k e]=>bn (TJ Nb p.2.t x) none λc=>some (c,a,k,e)
 |_=>none
def apt(bp:fW I hL){g:Nat}{text:List UInt8}{c:List ig}{a:Int}{k:IntKind}{e:Int}(h:xm f g text=some (c,a,k,e)) :
  Spec Tryz.prog g [.string ⟨text.toArray⟩] I [] λr J mz=>mz=[]/\(∀ b o,I b=some o->J b=some o)/\∃ G:cD,r=.tuple #[G.val,.int .i64 a,.int k e]/\G.ok J/\qm c G.ds:=by
 unfold xm at h;obtain⟨⟨v,m'⟩,aa,h⟩:=cx h;refine Spec.ra (aoD bp aa (us:=[.string ⟨text.toArray⟩]) (by simp[bL,aT])) ?_;rintro r J mz⟨rfl,bq,I',M',bC,ah,hm,bl⟩;refine⟨rfl,bq,?_⟩;simp only at h;split at h
 ·obtain⟨c',ab,h⟩:=cx h;cases h;simp only[aT,bL]at ah;obtain⟨_,⟨u,_,hu,⟨_,_,rfl,⟨_,_,rfl,rfl,rfl⟩,rfl⟩,rfl⟩,rfl⟩:=ah;obtain⟨G,rfl,a8,ba⟩:=aps hm bl ab hu;exact⟨G,rfl,a8,ba⟩
 ·cases h
def sr.pl(c:sr):ap:=c.ca none 0 0
def xl.iQ(c:xl):bP:=⟨c.ns.map sr.pl,none,c.ns.length,0,c.bA⟩
def ig.TQ(c:ig):aP:=⟨⟨c.name.toArray⟩,c.t.iQ⟩
def jP(cs:List ig):cD:=⟨cs.map ig.TQ,none,cs.length,0⟩
def yX.a0{cs:List sr}{ns:List ap}(h:yX cs ns):ns.map ap.a0=cs.map sr.pl:=by
 induction h with
 |nil=>rfl| cons a n k t aF=>rw[bX,bX,aF];rfl
def yX.len{cs:List sr}{ns:List ap}(h:yX cs ns):ns.length=cs.length:=by
 induction h with
 |nil=>rfl| cons a n k t aF=>simp[aF]
def Jq.a0{c:xl}(h:Jq c t)(ax:t.ok I):t.a0=c.iQ:=by unfold bP.a0 xl.iQ;rw[h.ns.a0,h.bA,<-ax.n,h.ns.len]
def qm.a0{cs:List ig}{ds:List aP}(h:qm cs ds)(ak:∀ d∈ds,d.ok I):ds.map aP.a0=cs.map ig.TQ:=by
 induction h with
 |nil=>rfl| cons h k aF=>rw[bX,bX,aF λd fD=>ak d (.tail _ fD)];congr 1;unfold aP.a0 ig.TQ;rw[h.a0 (ak _ (.head _)).t]
def qm.len{cs:List ig}{ds:List aP}(h:qm cs ds):ds.length=cs.length:=by
 induction h with
 |nil=>rfl| cons h k aF=>simp[aF]
def FN{cs:List ig}(h:qm cs g.ds)(av:g.ok I):g.a0=jP cs:=by unfold cD.a0 jP;rw[h.a0 av.ds,<-av.n,h.len]
def apu(c:xl):Bool:=c.ns.all λn=>decide (n.aw.length<=1000)
def apv{c:xl}(h:Jq c t)(ax:t.ok I)(ae:apu c=true):vB t:=λn aC=>by
 have aa:=(ax.ns n aC).aO;have ab:n.a0∈c.ns.map sr.pl:=by rw[<-h.ns.a0];exact cA.2 ⟨n,aC,rfl⟩
 obtain⟨x,ad,e⟩:=cA.1 ab;have aj:=dB (fi.1 ae x ad);have aG:x.aw=n.aw:=congrArg ap.aw e;rw[aG]at aj;omega
def apw{cs:List ig}{ds:List aP}(h:qm cs ds)(ak:∀ d∈ds,d.ok I)(ae:(cs.all λd=>d.t.ns.all λn=>decide (n.aw.length<=1000))=true):∀ d∈ds,vB d.t:=by
 induction h with
 |nil=>intro d ak;cases ak
 |cons h k aF=>
  simp only[xI,cz]at ae;intro d hm;rcases eg.1 hm with rfl | hm;·exact apv h (ak _ (.head _)).t ae.1
  ·exact aF (λd fD=>ak d (.tail _ fD)) (by simpa using ae.2) d hm
def TR(ds:List aP)(F:List aW)(i:Nat):jO (ds.map aP.a0) F i=jO ds F i:=by
 unfold jO;rw[jR,EY];cases ds[i]? with
 |none=>rfl| some d=>show(gj (bD ds) F (d.t.ns.map ap.a0) d.t.bA).2=_;rw[alG]
def apx(ds:List aP)(F:List aW)(i:Nat):qj (ds.map aP.a0) F i=qj ds F i:=by
 unfold qj;rw[jR,EY];cases ds[i]? with
 |none=>rfl| some d=>show(pE (bD ds) F (d.t.ns.map ap.a0) d.t.bA).2=_;rw[ao5]
def apy(ds:List aP)(F:List aW):qi (ds.map aP.a0) F=qi ds F:=by funext i;unfold qi;rw[bE,TR]
def TS(ds:List aP)(F:List aW):qk (ds.map aP.a0) F=qk ds F:=by unfold qk;rw[bE];exact GY λi _=>apx ds F i
def apz(ds:List aP)(F:List aW):Df (ds.map aP.a0) F=Df ds F:=by unfold Df;rw[bE,apy]
def acK{ds:List aP}{l:List aW}(h:j1 (ds.map aP.a0) l):j1 ds l:=by
 refine⟨by rw[h.len,bE],λi hi=>?_,λm hm an=>?_⟩
 ·have:=h.fix i (by simpa using hi);rwa [EY,fr,L7]at this
 ·refine h.least m (by rw[hm,bE]) λi hi=>?_;rw[EY,fr,L7];exact an i (by simpa using hi)
def Nv(ds:List aP)(F:List aW):Int×Int:=bif decide (0<(Df ds F).length)then((((Df ds F).headD 0:Nat):Int),42)else bif decide (0<(qk ds F).length)then((((qk ds F).headD 0:Nat):Int),43)else(0,0)
structure Js(cs:List ig)(F:List aW):Prop where
 may:dj hL (jP cs)=0
 FO:j1 (jP cs).ds F
 YC:(cs.all λd=>d.t.ns.all λn=>decide (n.aw.length<=1000))=true
def Js.of{cs:List ig}(eG:Js cs F)(av:g.ok I)(aV:qm cs g.ds):dj hL g=0/\j1 g.ds F/\(∀ d∈g.ds,vB d.t):=by
 have eW:=FN aV av;have gw:g.ds.map aP.a0=(jP cs).ds:=congrArg cD.ds eW;have hm:dj hL g=0:=by rw[<-Aj,eW];exact eG.may
 refine⟨hm,?_,apw aV av.ds eG.YC⟩;have:=eG.FO;rw[<-gw]at this;exact acK this
def acL{cs:List ig}(eG:Js cs F)(av:g.ok I)(aV:qm cs g.ds)(h:mm hL g r):r=Nv (jP cs).ds F:=by
 obtain⟨hm,bG,-⟩:=eG.of av aV;have gw:g.ds.map aP.a0=(jP cs).ds:=congrArg cD.ds (FN aV av);have a':=L4 av.n hm;rcases h with⟨a,-⟩ | ⟨-,dr,oS,rfl⟩
 ·exact absurd hm a
 ·obtain rfl:=bG.unique oS;rw[<-gw,Nv,apz,TS,apf a'];by_cases aa:0<(sq g.ds F).length
  ·rw[bN aa,eV aa,cb]
  ·rw[bS aa,dU aa,b5];by_cases ab:0<(qk g.ds F).length
   ·rw[bN ab,eV ab,cb]
   ·rw[bS ab,dU ab,b5]
def Jt(ds:List aP):Nat->List aW->List aW
 |0,L=>L| k+1,L=>Jt ds k (ds.map (ix (bD ds) L))
def acM{ds:List aP}:∀ (k:Nat) {L:List aW},pt ds L->ds.map (ix (bD ds) (Jt ds k L))=Jt ds k L->j1 ds (Jt ds k L)
 |0,L,aB,h=>by refine⟨aB.len,λi hi=>?_,aB.least⟩;have:=Nl (f:=ix (bD ds) L) hi;have aa:ds.map (ix (bD ds) L)=L:=h;rw[aa]at this;exact this
 |k+1,L,aB,h=>acM k aB.all.1 h
def yY(cs:List ig)(k:Nat):List aW:=Jt (jP cs).ds k (List.replicate (jP cs).ds.length b4)
def FP(cs:List ig)(F:List aW)(k:Nat):Bool:=decide (dj hL (jP cs)=0)&&(decide (yY cs k=F)&&(decide ((jP cs).ds.map (ix (bD (jP cs).ds) F)=F)&&cs.all λd=>d.t.ns.all λn=>decide (n.aw.length<=1000)))
def TT{cs:List ig}{k:Nat}(h:FP cs F k=true):Js cs F:=by simp only[FP,cz,hq]at h;obtain⟨aa,ab,aj,aG⟩:=h;refine⟨aa,?_,by simpa using aG⟩;have:=acM k (pt.start (jP cs).ds);unfold yY at ab;rw[ab]at this;exact this aj
section
end
section
end
def AX(p:Nat->Bool)(n:Nat):List Int:=((List.range n).filter p).map λ(k:Nat)=>(k:Int)
def acN{ds:List aP}{n:Nat}(aC:ds.length=n):∀ (names:List ByteArray) (s:List Bool),s.length=n->∀ k,k<n->((names.foldl (λs nm=>r5 n s (cr nm ds 0)) s).getD k false=true ↔ s.getD k false=true\/∃ nm∈names,cr nm ds 0=(k:Int))
 |[],s,au,k,ae=>by simp
 |nm::names,s,au,k,ae=>by
  rw[jE,acN aC names _ (by rw[XT];exact au) k ae];have hm:(r5 n s (cr nm ds 0)).getD k false=true ↔ s.getD k false=true\/cr nm ds 0=(k:Int):=by
   unfold r5;cases ag:decide (0<=cr nm ds 0)&&decide (cr nm ds 0<n)with
   |true=>
    rw[cb];simp at ag;simp only[bt,iu];by_cases e:(cr nm ds 0).toNat=k
    ·have:cr nm ds 0=(k:Int):=by omega
     simp[e,this,au,ae]
    ·have:¬ cr nm ds 0=(k:Int):=by omega
     simp[e,this]
   |false=>
    rw[b5];have:¬ cr nm ds 0=(k:Int):=by intro e;rw[e]at ag;simp at ag;omega
    simp[this]
  rw[hm];constructor
  ·rintro((h | h) | ⟨x,ad,h⟩)
   ·exact .inl h
   ·exact .inr ⟨nm,by simp,h⟩
   ·exact .inr ⟨x,by simp[ad],h⟩
  ·rintro(h | ⟨x,ad,h⟩)
   ·exact .inl (.inl h)
   ·rcases eg.1 ad with rfl | ad
    ·exact .inl (.inr h)
    ·exact .inr ⟨x,ad,h⟩
def FQ{nm:ByteArray}:∀ (ds:List aP) (i k:Nat),cr nm ds i=(k:Int)->∃ j,∃ (h:j<ds.length),k=i+j/\ds[j].name=nm
 |[],i,k,h=>by unfold cr at h;omega
 |d::ds,i,k,h=>by
  unfold cr at h;cases an:decide (d.name=nm)with
  |true=>rw[an,cb]at h;exact⟨0,by simp,by omega,by simpa using an⟩| false=>rw[an,b5]at h;obtain⟨j,ai,aJ,a4⟩:=FQ ds (i+1) k h;exact⟨j+1,by simp;omega,by omega,by simpa using a4⟩
def apA(aC:g.ds.length=g.n)(h:dj al g=0):∀ i (hi:i<g.ds.length),cr g.ds[i].name g.ds 0=(i:Int):=by
 rw[<-Tv]at h;intro i hi;have gU:(List.range g.ds.length).all (nE g.ds)=true:=by
  unfold Jj at h;cases ag:(List.range g.ds.length).all (nE g.ds)with
  |true=>rfl
  |false=>
   rw[ag]at h;exfalso;revert h;cases decide ((g.n:Int)=0)<;>cases(!nr g.ds)<;>cases mL al g<;>simp
 have:=fi.1 gU i (g8.2 hi);rw[aoQ hi]at this;simpa using this
def mm.get(hm:dj al g=0)(h:mm al g r):r.2=0 ↔ (sq g.ds (No g.ds)).length=0/\(qk g.ds (No g.ds)).length=0:=by
 rcases h with⟨a,-⟩ | ⟨-,F,c,rfl⟩
 ·exact absurd hm a
 ·rw[Np c];by_cases aa:0<(sq g.ds F).length
  ·rw[bN aa];simp only;omega
  ·rw[bS aa];by_cases ab:0<(qk g.ds F).length
   ·rw[bN ab];simp only;omega
   ·rw[bS ab];exact⟨λ_=>⟨by omega,by omega⟩,λ_=>rfl⟩
def apB(bp:fW I al)(ax:t.ok I)(af:right t=true){r:Nat}(fE:t.bA=(r:Int))(fC:r<t.ns.length):Spec Tryz.prog 32 [t.val] I M0 λv I' M'=>v=(t.ns[r].eQ []).val/\I'=I/\M'=M0:=by refine cg [] a7 Tryz.func32 rfl rfl rfl ?_;intro B az;have hK:=ax.n;obtain⟨aU,bK,bm⟩:=ax.a2.row ap.cT (show r<t.n by omega) fC;generalize t.ns[r]=d at bm;refine bd.mk [] M0 _ (.refl _) (qM bp.c ax) ?_;rintro v J N -⟨rfl,rfl,rfl⟩;refine a3.mk (λh=>absurd h (by simp[af])) (λ_=>?_);refine bf.mk aU r bK fE (by omega) ?_;refine aR.mk _ (bm _) ?_;exact⟨_,_,.refl,rfl,rfl,rfl⟩
def aY.lX(bG:vO I M J){xs:List Value}(h:os.ok size xs)(a':∀ x∈os.ar e,x∈M)(ag:os.n*b<=140737488355328):dh J (os.a.map λg=>⟨g,0,none⟩) os.n os.c size b xs:=by
 obtain⟨a,n,c,aS⟩:=os;cases a with
 |none=>obtain⟨aa,ab⟩:=h.nil rfl;exact⟨h.len,⟨by simp only at aa ab |-;omega,ag⟩,.inl aa⟩
 |some g=>obtain⟨aa,ab,aj,aG⟩:=h.cap g rfl;exact⟨h.len,⟨ab,ag⟩,.inr ⟨⟨g,0,none⟩,rfl,rfl,aS.toArray,e,(0,0),bG.aO _ _ (.inr ⟨⟨g,.cells aS.toArray e (0,0)⟩,a' _ (.head _),rfl,rfl⟩),by simpa using aG⟩⟩
def dh.Dg{c:Nat}(h:dh I a n c size b vs)(M:List aE)(az:0<n):∃ aU,a=some aU/\cO I M aU (n*size) vs:=by
 rcases h.rd with aa | ⟨aU,aa,ab,cs,T,ao,aj,aG⟩
 ·omega
 ·exact⟨aU,aa,ab,cs,T,ao,.inl aj,aG,h.len⟩
def Ju(l:List Int):gA (l.map (.int .i64 ·))=true:=fi.2 λv ah=>by obtain⟨k,_,rfl⟩:=cA.1 ah;rfl
def acO{f:α->List Value}(h:∀ x,gA (f x)=true)(l:List α):gA (l.flatMap f)=true:=fi.2 λv ah=>by obtain⟨x,_,ad⟩:=g6.1 ah;exact fi.1 (h x) v ad
def ap.one(d:ap):gA d.cells=true:=rfl
def aP.one(d:aP):gA d.cells=true:=rfl
def apC{c:Nat}(h:dh I a n c 1 8 vs)(aa:gA vs=true):Spec Tryz.prog 117 [.slice a n c] I M0 λv I' M'=>I'=I/\∃ os:aY,os.n=n/\os.ok 1 vs/\v=os.val/\M'=os.ar 3++M0:=by
 refine cg [] a7 Tryz.func117 rfl rfl rfl ?_;intro B az;have jJ:=h.cap;refine gB.SL a7 rfl rfl ?_;refine a3.mk (λan=>?_) (λan=>?_)
 ·have aC:n=0:=by
   rcases h.rd with ab | ⟨aU,ab,_⟩;·exact ab
   ·rw[ab]at an;cases an
  subst aC;have aj:vs=[]:=iq (by rw[h.len,zw]);subst aj;exact⟨_,_,.refl,rfl,ib,rfl,lM 1,rfl,rfl⟩
 refine b'.mk λb ag sN=>?_;refine bB.E3 a7 rfl (by simp) (e:=3) rfl rfl rfl ⟨some b,0,0,[]⟩ (xs:=[]) ⟨rfl,(λh=>by cases h),(λg h=>⟨rfl,b2 _,dw _,rfl⟩)⟩ rfl (sa:=a) (m:=n) (c':=c) (ch:=vs) rfl h.len (h.Dg _) aa [] M0 rfl (by simp only;omega) (by show(0+n)*8<=_;omega) ?_;intro os aC bz bw;rw[iF]at bw;exact⟨_,_,.refl,rfl,os,aC.trans (cX n),bw,rfl,rfl⟩
def apD{c:Nat}(h:dh I a n c 1 8 vs)(aa:gA vs=true):Spec Tryz.prog 117 [.slice a n c] I M0 λv I' M'=>(∀ b o,I b=some o->I' b=some o)/\M'=M0/\∃ bO c',v=.slice bO n c'/\dh I' bO n c' 1 8 vs:=by refine Spec.ra (Spec.frame (Spec.lX (apC (M0:=[]) h aa))) ?_;rintro v J M⟨M',rfl,-,bl,rfl,-,I',M1,⟨rfl,os,rfl,bU,rfl,rfl⟩,bG⟩;have jJ:=h.cap;exact⟨bl,rfl,_,_,rfl,aY.lX bG bU (λz bb=>iD _ bb) jJ.2⟩
def apE{c:Nat}(h:dh I a n c 9 96 vs)(aa:gA vs=true):Spec Tryz.prog 116 [.slice a n c] I M0 λv I' M'=>I'=I/\∃ os:aY,os.n=n/\os.ok 9 vs/\v=os.val/\M'=os.ar 66++M0:=by
 refine cg [] a7 Tryz.func116 rfl rfl rfl ?_;intro B az;have jJ:=h.cap;refine gB.SL a7 rfl rfl ?_;refine a3.mk (λan=>?_) (λan=>?_)
 ·have aC:n=0:=by
   rcases h.rd with ab | ⟨aU,ab,_⟩;·exact ab
   ·rw[ab]at an;cases an
  subst aC;have aj:vs=[]:=iq (by rw[h.len,zw]);subst aj;exact⟨_,_,.refl,rfl,ib,rfl,lM 9,rfl,rfl⟩
 refine b'.mk λb ag sN=>?_;refine bB.E3 a7 rfl (by simp) (e:=66) rfl rfl rfl ⟨some b,0,0,[]⟩ (xs:=[]) ⟨rfl,(λh=>by cases h),(λg h=>⟨rfl,b2 _,dw _,rfl⟩)⟩ rfl (sa:=a) (m:=n) (c':=c) (ch:=vs) rfl h.len (h.Dg _) aa [] M0 rfl (by simp only;omega) (by show(0+n)*96<=_;omega) ?_;intro os aC bz bw;rw[iF]at bw;exact⟨_,_,.refl,rfl,os,aC.trans (cX n),bw,rfl,rfl⟩
def apF{c:Nat}(h:dh I a n c 3 48 vs)(aa:gA vs=true):Spec Tryz.prog 115 [.slice a n c] I M0 λv I' M'=>I'=I/\∃ os:aY,os.n=n/\os.ok 3 vs/\v=os.val/\M'=os.ar 35++M0:=by
 refine cg [] a7 Tryz.func115 rfl rfl rfl ?_;intro B az;have jJ:=h.cap;refine gB.SL a7 rfl rfl ?_;refine a3.mk (λan=>?_) (λan=>?_)
 ·have aC:n=0:=by
   rcases h.rd with ab | ⟨aU,ab,_⟩;·exact ab
   ·rw[ab]at an;cases an
  subst aC;have aj:vs=[]:=iq (by rw[h.len,zw]);subst aj;exact⟨_,_,.refl,rfl,ib,rfl,lM 3,rfl,rfl⟩
 refine b'.mk λb ag sN=>?_;refine bB.E3 a7 rfl (by simp) (e:=35) rfl rfl rfl ⟨some b,0,0,[]⟩ (xs:=[]) ⟨rfl,(λh=>by cases h),(λg h=>⟨rfl,b2 _,dw _,rfl⟩)⟩ rfl (sa:=a) (m:=n) (c':=c) (ch:=vs) rfl h.len (h.Dg _) aa [] M0 rfl (by simp only;omega) (by show(0+n)*48<=_;omega) ?_;intro os aC bz bw;rw[iF]at bw;exact⟨_,_,.refl,rfl,os,aC.trans (cX n),bw,rfl,rfl⟩
structure apG(I:aM)(t:bP)(os0:aY)(x:Nat×aY×List ap×aM):Prop where
 i:x.1<=t.n
 ok:x.2.1.ok 9 (x.2.2.1.flatMap ap.cells)
 a0:x.2.2.1.map ap.a0=t.ns.map ap.a0
 ns:∀ d∈x.2.2.1,d.ok x.2.2.2
 le:∀ b o,I b=some o->x.2.2.2 b=some o
 a:x.2.1.a=os0.a
 v:x.2.1.val=os0.val
def apH{L:List ap}{i:Nat}(hi:i<L.length){d:ap}(h:d.a0=L[i].a0):(L.set i d).map ap.a0=L.map ap.a0:=by
 rw[o1,h];refine zN λj=>?_;rw[iu];split
 ·rename_i e;subst e;rw[bE,bN hi,jR,db hi];rfl
 ·rfl
def Jv{bu:aY}(h:os.val=bu.val):os.n=bu.n/\os.c=bu.c:=by
 unfold aY.val at h;injection h with aa ab aj
 exact⟨ab,aj⟩
def apI(ax:t.ok I):Spec Tryz.prog 64 [t.val] I [] λv I' M'=>(∀ b o,I b=some o->I' b=some o)/\∃ (os:aY) (L:List ap),v=.agg #[os.val,.int .i64 t.bA]/\os.n=t.n/\os.ok 9 (L.flatMap ap.cells)/\M'=os.ar 66/\L.map ap.a0=t.ns.map ap.a0/\∀ d∈L,d.ok I':=by
 refine cg [] a7 Tryz.func64 rfl rfl rfl ?_;intro B az;have hK:=ax.n;have jJ:=ax.a2.cap;refine bd.whole _ (apE ax.a2 (acO ap.one _)) ?_;rintro v J N -⟨rfl,os0,apJ,z7,rfl,hC⟩;subst N;refine dg.inv (ι:=Nat×aY×List ap×aM) (λx=>{ bj:=[(1,.ref 1 0),(2,.ref 2 0),(10,.val os0.val),(11,.val (.int .i64 os0.n)),(12,.val (.int .i64 x.1))],cl:=[(1,[os0.val,.int .i64 t.bA]),(2,[.slice none 0 0,.int .i64 0])],cI:=x.2.2.2,de:=x.2.1.ar 66++[] }) (λx=>apG J t os0 x) (λx=>t.n-x.1) ?_ ?_
 ·exact⟨(0,os0,t.ns,J),⟨dw _,z7,rfl,ax.ns,λ_ _ h=>h,rfl,rfl⟩,.refl,hv,.cons rfl (.cons rfl (.nil))⟩
 rintro⟨i,os,L,K⟩⟨hi,bU,eW,rJ,bq,s',pG⟩;simp only at hi bU eW rJ bq s' pG;have acP:L.length=t.ns.length:=by simpa using congrArg List.length eW
 obtain⟨jA,acQ⟩:=Jv pG;refine a3.mk (λh=>?_) (λh=>?_)
 rotate_left
 ·exact⟨_,_,.refl,bq,os,L,by rw[pG];rfl,by omega,bU,by rw[ed],eW,rJ⟩
 have a1:i<t.n:=by have:(i:Int)<(os0.n:Int):=dB h;omega
 have q6:i<L.length:=by omega
 obtain⟨aU,bK,bm⟩:=aY.ok.row (I:=K) (M:=os.ar 66++[]) (e:=66) ap.cT (by decide) bU (λz bb=>iD _ bb) q6;have AY:=rJ _ (bi q6);have ta:=bK;rw[s']at ta;refine bf.mk aU i ta rfl (by omega) ?_;refine aR.mk _ bm ?_;refine c4.draw a7 rfl rfl rfl ?_;refine eR.whole _ (apD AY.a2 (Ju _)) (λv I' M' h x ad=>by rw[h.2.1];exact ad) ?_;rintro v iR N -⟨vQ,hC,bO,c',rfl,ei⟩;subst N;refine bf.mk aU i ta rfl (by omega) ?_;have fg:({ L[i]with dE:=bO,du:=c' }:ap).ok iR:={ AY.mono vQ with a2:=ei };have TU:({ L[i]with dE:=bO,du:=c' }:ap).a0=L[i].a0:=rfl;have g2:=apH q6 TU;refine aY.MH (e:=66) ap.cells 9 ap.cT bU q6 8 (vs:=[.slice bO L[i].aO c']) (bI rfl) rfl { L[i]with dE:=bO,du:=c' } rfl [] [] (by simp) bK ?_;intro kq nQ pj oC mA;refine bg.mk _ (cL (i:=i) (by omega)) ?_;refine⟨(i+1,kq,L.set i { L[i]with dE:=bO,du:=c' },iR),⟨⟨a1,mA,g2.trans eW,λd ak=>?_,λb o h=>vQ _ _ (bq _ _ h),pj.trans s',nQ.trans pG⟩,by simp only;omega⟩,.refl,hv,.cons rfl (.cons rfl (.nil))⟩;rcases xj ak with ak | rfl
 ·exact(rJ _ ak).mono vQ
 ·exact fg
def acR(ax:t.ok I):Spec Tryz.prog 64 [t.val] I M0 λv I' M'=>(∀ b o,I b=some o->I' b=some o)/\M'=M0/\∃ bo:bP,v=bo.val/\bo.ok I'/\bo.a0=t.a0:=by refine Spec.ra (Spec.frame (Spec.lX (apI ax))) ?_;rintro v J M⟨M',rfl,-,bl,rfl,-,I',M1,⟨aa,os,L,rfl,aC,bU,rfl,eW,rJ⟩,bG⟩;have jJ:=ax.a2.cap;refine⟨bl,rfl,⟨L,os.a.map λg=>⟨g,0,none⟩,os.n,os.c,t.bA⟩,rfl,⟨aY.lX bG bU (λ_ h=>h) (by omega),λd ak=>(rJ d ak).mono bG.le,ax.bA⟩,?_⟩;unfold bP.a0;rw[eW,aC]
structure apK(I:aM)(g:cD)(os0:aY)(x:Nat×aY×List aP×aM):Prop where
 i:x.1<=g.n
 ok:x.2.1.ok 3 (x.2.2.1.flatMap aP.cells)
 a0:x.2.2.1.map aP.a0=g.ds.map aP.a0
 ds:∀ d∈x.2.2.1,d.ok x.2.2.2
 le:∀ b o,I b=some o->x.2.2.2 b=some o
 a:x.2.1.a=os0.a
 v:x.2.1.val=os0.val
def apL{L:List aP}{i:Nat}(hi:i<L.length){d:aP}(h:d.a0=L[i].a0):(L.set i d).map aP.a0=L.map aP.a0:=by
 rw[o1,h];refine zN λj=>?_;rw[iu];split
 ·rename_i e;subst e;rw[bE,bN hi,jR,db hi];rfl
 ·rfl
def apM(av:g.ok I):Spec Tryz.prog 63 [g.val] I [] λv I' M'=>(∀ b o,I b=some o->I' b=some o)/\∃ (os:aY) (L:List aP),v=.agg #[os.val]/\os.n=g.n/\os.ok 3 (L.flatMap aP.cells)/\M'=os.ar 35/\L.map aP.a0=g.ds.map aP.a0/\∀ d∈L,d.ok I':=by
 refine cg [] a7 Tryz.func63 rfl rfl rfl ?_;intro B az;have fl:=av.n;have jJ:=av.a2.cap;refine bd.whole _ (apF av.a2 (acO aP.one _)) ?_;rintro v J N -⟨rfl,os0,apJ,z7,rfl,hC⟩;subst N;refine dg.inv (ι:=Nat×aY×List aP×aM) (λx=>{ bj:=[(1,.ref 1 0),(2,.ref 2 0),(10,.val os0.val),(11,.val (.int .i64 os0.n)),(12,.val (.int .i64 x.1))],cl:=[(1,[os0.val]),(2,[.slice none 0 0])],cI:=x.2.2.2,de:=x.2.1.ar 35++[] }) (λx=>apK J g os0 x) (λx=>g.n-x.1) ?_ ?_
 ·exact⟨(0,os0,g.ds,J),⟨dw _,z7,rfl,av.ds,λ_ _ h=>h,rfl,rfl⟩,.refl,hv,.cons rfl (.cons rfl (.nil))⟩
 rintro⟨i,os,L,K⟩⟨hi,bU,eW,gw,bq,s',pG⟩;simp only at hi bU eW gw bq s' pG;have acP:L.length=g.ds.length:=by simpa using congrArg List.length eW
 obtain⟨jA,acQ⟩:=Jv pG;refine a3.mk (λh=>?_) (λh=>?_)
 rotate_left
 ·exact⟨_,_,.refl,bq,os,L,by rw[pG];rfl,by omega,bU,by rw[ed],eW,gw⟩
 have a1:i<g.n:=by have:(i:Int)<(os0.n:Int):=dB h;omega
 have q6:i<L.length:=by omega
 obtain⟨aU,bK,bm⟩:=aY.ok.row (I:=K) (M:=os.ar 35++[]) (e:=35) aP.cT (by decide) bU (λz bb=>iD _ bb) q6;have AY:=gw _ (bi q6);have ta:=bK;rw[s']at ta;refine bf.mk aU i ta rfl (by omega) ?_;refine aR.mk _ bm ?_;refine c4.draw a7 rfl rfl rfl ?_;refine eR.whole _ (acR AY.t) (λv I' M' h x ad=>by rw[h.2.1];exact ad) ?_;rintro v iR N -⟨vQ,hC,bo,rfl,tb,TV⟩;subst N;refine bf.mk aU i ta rfl (by omega) ?_;have fg:(⟨L[i].name,bo⟩:aP).ok iR:=⟨AY.name,tb⟩;have TU:(⟨L[i].name,bo⟩:aP).a0=L[i].a0:=by unfold aP.a0;rw[TV]
 have g2:=apL q6 TU;refine aY.MH (e:=35) aP.cells 3 aP.cT bU q6 1 (vs:=[.slice bo.a bo.n bo.c,.int .i64 bo.bA]) (bI rfl) rfl ⟨L[i].name,bo⟩ rfl [] [] (by simp) bK ?_;intro kq nQ pj oC mA;refine bg.mk _ (cL (i:=i) (by omega)) ?_;refine⟨(i+1,kq,L.set i ⟨L[i].name,bo⟩,iR),⟨⟨a1,mA,g2.trans eW,λd ak=>?_,λb o h=>vQ _ _ (bq _ _ h),pj.trans s',nQ.trans pG⟩,by simp only;omega⟩,.refl,hv,.cons rfl (.cons rfl (.nil))⟩;rcases xj ak with ak | rfl
 ·exact(gw _ ak).mono vQ
 ·exact fg
def apN(av:g.ok I):Spec Tryz.prog 63 [g.val] I M0 λv I' M'=>(∀ b o,I b=some o->I' b=some o)/\∃ (os:aY) (L:List aP),v=.agg #[os.val]/\os.n=g.n/\os.ok 3 (L.flatMap aP.cells)/\M'=os.ar 35++M0/\L.map aP.a0=g.ds.map aP.a0/\∀ d∈L,d.ok I':=by refine Spec.ra (Spec.frame (apM av)) ?_;rintro v J M⟨M',rfl,-,bl,aa,os,L,rfl,aC,bU,rfl,eW,gw⟩;exact⟨bl,os,L,rfl,aC,bU,rfl,eW,gw⟩
def apO(av:g.ok I){u:Nat}(hu:u<g.ds.length)(aC:g.n<=1000000)(ax:t.ok I):Spec Tryz.prog 16 [g.val,.int .i64 u,t.val] I [] λv I' M'=>(∀ b o,I b=some o->I' b=some o)/\∃ (os:aY) (L:List aP),v=.tuple #[.agg #[os.val],.bool true]/\os.n=g.n/\os.ok 3 (L.flatMap aP.cells)/\M'=os.ar 35/\L.map aP.a0=(g.ds.set u ⟨g.ds[u].name,t⟩).map aP.a0/\∀ d∈L,d.ok I':=by
 refine cg [] a7 Tryz.func16 rfl rfl rfl ?_;intro B az;have fl:=av.n;refine cj.mk (λ_=>?_) (λh=>absurd h (by simp));refine a3.mk (λh=>?_) (λ_=>?_)
 ·have:(g.n:Int)<=(u:Int):=dB h;omega
 refine bd.whole _ (apN av) ?_;rintro v J N -⟨bl,os,L,rfl,jA,bU,hC,eW,gw⟩;subst N;have acP:L.length=g.ds.length:=by simpa using congrArg List.length eW
 have Nw:u<L.length:=by omega
 refine c4.draw a7 rfl rfl rfl ?_;refine eR.whole _ (acR (ax.mono bl)) (λv I' M' h x ad=>by rw[h.2.1];exact ad) ?_;rintro v iR N -⟨vQ,hC,bo,rfl,tb,TV⟩;subst N;obtain⟨aU,bK,bm⟩:=aY.ok.row (I:=iR) (M:=os.ar 35++[]) (e:=35) aP.cT (by decide) bU (λz bb=>iD _ bb) Nw;have oi:L[u].a0=g.ds[u].a0:=by
  have aa:(L.map aP.a0)[u]?=(g.ds.map aP.a0)[u]?:=by rw[eW]
  rw[jR,jR,db Nw,db hu]at aa;exact fm aa
 have h7:L[u].name=g.ds[u].name:=by have aa:L[u].a0.name=g.ds[u].a0.name:=congrArg aP.name oi;exact aa
 have fg:(⟨L[u].name,bo⟩:aP).ok iR:=⟨(gw _ (bi Nw)).name,tb⟩;refine bf.mk aU u bK rfl (show u<os.n by omega) ?_;refine aY.MH (e:=35) aP.cells 3 aP.cT bU Nw 1 (vs:=[.slice bo.a bo.n bo.c,.int .i64 bo.bA]) (bI rfl) rfl ⟨L[u].name,bo⟩ rfl [] [] (by simp) bK ?_;intro kq nQ pj oC mA;refine⟨_,_,.refl,λb o h=>vQ _ _ (bl _ _ h),kq,L.set u ⟨L[u].name,bo⟩,by rw[nQ];rfl,by omega,mA,by simp,?_,λd ak=>?_⟩
 ·rw[o1,o1,eW];congr 1;unfold aP.a0;rw[TV,h7]
 ·rcases xj ak with ak | rfl
  ·exact(gw _ ak).mono vQ
  ·exact fg
def apP(av:g.ok I){u:Nat}(hu:u<g.ds.length)(aC:g.n<=1000000)(ax:t.ok I):Spec Tryz.prog 16 [g.val,.int .i64 u,t.val] I M0 λv I' M'=>(∀ b o,I b=some o->I' b=some o)/\M'=M0/\∃ h:cD,v=.tuple #[h.val,.bool true]/\h.ok I'/\h.n=g.n/\h.ds.map aP.a0=(g.ds.set u ⟨g.ds[u].name,t⟩).map aP.a0:=by refine Spec.ra (Spec.frame (Spec.lX (apO av hu aC ax))) ?_;rintro v J M⟨M',rfl,-,bl,rfl,-,I',M1,⟨aa,os,L,rfl,jA,bU,rfl,eW,gw⟩,bG⟩;exact⟨bl,rfl,⟨L,os.a.map λg=>⟨g,0,none⟩,os.n,os.c⟩,rfl,⟨aY.lX bG bU (λ_ h=>h) (by omega),λd ak=>(gw d ak).mono bG.le⟩,jA,eW⟩
def kx(z:Int):List Value:=[.int .i64 z]
def rh:∀ l:List Int,l.flatMap kx=l.map (.int .i64 ·)
 |[]=>rfl| z::l=>by rw[jT,rh l];rfl
structure apQ(fA:List Int)(I:aM)(os0:aY)(x:Nat×aY×List Int):Prop where
 i:2*x.1<=fA.length+1
 ok:x.2.1.ok 1 (x.2.2.flatMap kx)
 len:x.2.2.length=fA.length
 dX:∀ k,k<fA.length->x.2.2[k]?=if k<x.1\/fA.length<=k+x.1 then fA[fA.length-1-k]? else fA[k]?
 a:x.2.1.a=os0.a
 v:x.2.1.val=os0.val
def acS{os0:aY}{fA:List Int}(z7:os0.ok 1 (fA.map (.int .i64 ·)))(ag:os0.n<=1099511627776):Spec Tryz.prog 114 [os0.val] I (os0.ar 3++M0) λv I' M'=>I'=I/\∃ bu:aY,bu.val=os0.val/\bu.ok 1 (fA.reverse.map (.int .i64 ·))/\M'=bu.ar 3++M0:=by
 refine cg [] a7 Tryz.func114 rfl rfl rfl ?_;intro B az;have sc:=z7.nt;refine bg.mk ((fA.length:Int)-1) (by show IntKind.i64.wrap ((os0.n:Int)-1)=_;rw[wrap_i64 ⟨by omega,by omega⟩,sc]) ?_;refine dg.inv (ι:=Nat×aY×List Int) (λx=>{ bj:=[(0,.val os0.val),(2,.val (.int .i64 x.1)),(3,.val (.int .i64 ((fA.length:Int)-1-x.1)))],cl:=[],cI:=I,de:=x.2.1.ar 3++M0 }) (λx=>apQ fA I os0 x) (λx=>fA.length-x.1) ?_ ?_
 ·refine⟨(0,os0,fA),⟨by simp,by rw[rh];exact z7,rfl,λk ae=>?_,rfl,rfl⟩,.refl,.cons .refl (.cons .refl (.cons ?_ .nil)),.nil⟩
  ·simp only;rw[bS (by omega)]
  ·simp only[Int.ofNat_zero,Int.sub_zero];exact .refl
 rintro⟨i,os,l⟩⟨hi,bU,c1,e7,s',pG⟩;simp only at hi bU c1 e7 s' pG;obtain⟨jA,acQ⟩:=Jv pG;refine a3.mk (λh=>?_) (λh=>?_)
 rotate_left
 ·have cJ:¬ (i:Int)<(fA.length:Int)-1-i:=eu h;refine⟨_,_,.refl,rfl,os,pG,?_,rfl⟩;have e:l=fA.reverse:=by
   refine zN λk=>?_;by_cases ae:k<fA.length
   ·rw[e7 k ae,List.getElem?_reverse ae];split
    ·rfl
    ·congr 1;omega
   ·rw[qA (by omega),qA (by rw[Db];omega)]
  rw[<-e,<-rh];exact bU
 have a1:(i:Int)<(fA.length:Int)-1-i:=dB h;obtain⟨j,ai⟩:∃ j:Nat,(fA.length:Int)-1-i=(j:Int):=⟨fA.length-1-i,by omega⟩;have dL:i<l.length:=by omega
 have ez:j<l.length:=by omega
 obtain⟨aU,bK,Dh⟩:=aY.ok.row (I:=I) (M:=os.ar 3++M0) (e:=3) (f:=kx) (size:=1) (λ_=>rfl) (by decide) bU (λz bb=>iD _ bb) ez;obtain⟨zz,Di,QM⟩:=aY.ok.row (I:=I) (M:=os.ar 3++M0) (e:=3) (f:=kx) (size:=1) (λ_=>rfl) (by decide) bU (λz bb=>iD _ bb) dL;obtain rfl:aU=zz:=fm (bK.symm.trans Di);have ta:=bK;rw[s']at ta;have axf:l.length=os0.n:=by omega
 refine c4.draw a7 rfl rfl rfl ?_;refine bf.mk aU j ta ai (by omega) ?_;refine aR.mk _ Dh ?_;refine bf.mk aU i ta rfl (by omega) ?_;refine aR.mk _ QM ?_;refine bf.mk aU i ta rfl (by omega) ?_;refine aY.MG kx 1 (λ_=>rfl) (e:=3) bU dL l[j] rfl [] M0 rfl bK ?_;intro kq nQ pj oC mA;refine bf.mk aU j ta ai (by omega) ?_;refine aY.MG kx 1 (λ_=>rfl) (e:=3) mA (show j<(l.set i l[j]).length by rw[n4];exact ez) l[i] rfl [] M0 rfl (by rw[pj];exact bK) ?_;intro apR QP HU axg Hg;refine bg.mk _ (cL (i:=i) (by omega)) ?_;refine bg.mk ((fA.length:Int)-1-((i+1:Nat):Int)) (by rw[wrap_i64 ⟨by omega,by omega⟩];omega) ?_;refine⟨(i+1,apR,(l.set i l[j]).set j l[i]),⟨⟨by simp only;omega,Hg,by simp only[n4];exact c1,λk ae=>?_,(HU.trans pj).trans s',(QP.trans nQ).trans pG⟩,by simp only;omega⟩,.refl,ht,.nil⟩;have qc:=e7 i (by omega);have Jl:=e7 j (by omega);rw[bS (by omega),db dL]at qc;rw[bS (by omega),db ez]at Jl;simp only;rw[iu,iu,n4];by_cases aJ:j=k
 ·subst aJ;rw[bN rfl,bN ez,bN (by omega),qc];congr 1;omega
 ·rw[bS aJ];by_cases a4:i=k
  ·subst a4;rw[bN rfl,bN dL,bN (by omega),Jl];congr 1;omega
  ·rw[bS a4,e7 k ae];by_cases cn:k<i\/fA.length<=k+i
   ·rw[bN cn,bN (by omega)]
   ·rw[bS cn,bS (by omega)]
def apS(ax:t.ok I)(af:right t=true)(aC:t.n<=1099511627776)(yZ:node<t.n) :
  Spec Tryz.prog 135 [t.val,.int .i64 node] I M0 λv I' M'=>I'=I/\∃ os:aY,os.ok 1 ((Ae t.ns node).reverse.map (.int .i64 ·))/\v=os.val/\os.n<=t.n/\valid t.ns.length (Ae t.ns node).reverse/\M'=os.ar 3++M0:=by
 refine cg [] a7 Tryz.func135 rfl rfl rfl ?_;intro B az;have hK:=ax.n;have axh:ny t.ns node<=t.ns.length:=QY af t.ns.length node (by omega) (by omega);refine b'.mk λb1 hb Rk=>?_;refine dg.inv (ι:=aY×List Int×aY×List Int×Nat) (λx=>{ bj:=[(2,.ref 2 0),(5,.val x.2.2.1.val),(6,.val x.1.val)],cl:=[(2,t.cells)],cI:=I,de:=x.2.2.1.ar 3++(x.1.ar 3++M0) }) (akG t node) (λx=>g3 (ny t.ns) x.2.1) ?_ ?_
 ·refine⟨(⟨some b1,1,1,[.int .i64 node]⟩,[(node:Int)],ib,[],t.ns.length+1),⟨⟨rfl,(λh=>by cases h),λdM kF=>⟨rfl,b2 _,by simp[maxLen],rfl⟩⟩,lM 1,λk ae=>?_,(λk ae=>by cases ae),?_,?_,rfl⟩,.refl,ht,.cons rfl (.nil)⟩
  ·simp only[ec]at ae;omega
  ·simp[g3]
  ·simp only[g3,bX,hx,hI,B7];omega
 rintro⟨todo,TW,back,gN,f⟩⟨FR,ux,Nx,FT,uy,TX,sR⟩;simp only at FR ux Nx FT uy TX sR;have nc:=ux.nt;have vf:=FR.nt;refine a3.mk (λh=>?_) (λh=>?_)
 ·have acT:0<todo.n:=by have:(0:Int)<(todo.n:Int):=dB h;omega
  obtain⟨pH,m,rfl⟩:∃ pH m,TW=pH++[m]:=by
   rcases wG TW with aa | ⟨r,p,aa⟩;·subst aa;simp at vf;omega
   ·exact⟨r,p,by simpa using aa⟩
  have hm:=Nx m (by simp);obtain⟨m,rfl⟩:=ea hm.1;have jq:m<t.n:=by omega
  have rW:m<t.ns.length:=by omega
  have axi:todo.n=pH.length+1:=by simpa using vf
  have acU:=H8 af rW;rw[H9]at uy TX;have fz:g3 (ny t.ns) [(m:Int)]=ny t.ns m:=by simp[g3]
  rw[fz,acU]at uy TX;have axj:pH.length<=g3 (ny t.ns) pH:=QZ af λk ae=>Nx k (by simp[ae]);have axk:t.ns[m].aw.length<=g3 (ny t.ns) t.ns[m].aw:=QZ af λk ae=>by have:=mG af m rW k ae;omega
  have xn:pH.length+t.ns[m].aw.length<=t.ns.length:=by omega
  obtain⟨aU,bK,bm⟩:=aY.Cz (I:=I) (e:=3) (M:=back.ar 3++(todo.ar 3++M0)) FR (λx ad=>by simp[ad]) (j:=pH.length) (by simp);rw[abP rfl]at bm;have oG:=FR;rw[cP]at oG;have oG:=aY.pop oG;have he:todo.n-1=pH.length:=by omega
  rw[he]at oG;have Jw:pH.length<=todo.c:=by
   cases xo:todo.a with
   |none=>have:=(FR.nil xo).1;omega| some Jx=>have:=(FR.cap Jx xo).2.1;omega
  obtain⟨lK,lL,hy⟩:=ax.a2.row ap.cT jq rW;have ak:=ax.ns _ (bi rW);have ff:=ak.aO;have r9:=ak.a2.cap;have js:=mG af m rW;refine bg.mk ((pH.length:Nat):Int) (by show IntKind.i64.wrap ((todo.n:Int)-1)=_;rw[wrap_i64 ⟨by omega,by omega⟩];omega) ?_;refine bf.mk aU pH.length bK rfl (show pH.length<todo.n by omega) ?_;refine aR.mk _ bm ?_;refine c4.draw a7 rfl rfl rfl ?_;refine bg.mk ((pH.length:Nat):Int) (by show IntKind.i64.wrap ((todo.n:Int)-1)=_;rw[wrap_i64 ⟨by omega,by omega⟩];omega) ?_;refine ms.mk 0 pH.length rfl rfl (dw _) Jw ?_;refine bf.mk lK m lL rfl jq ?_;refine aR.mk _ ((hy _).part (k:=8) (m:=1) (by decide)) ?_;have apT:∀ M,0<t.ns[m].aO->∃ aU,t.ns[m].dE=some aU/\cO I M aU (t.ns[m].aO*1) (t.ns[m].aw.map (.int .i64 ·)):=λM az=>ak.a2.Dg M az;refine bB.E3 a7 rfl (by simp) (e:=3) rfl rfl rfl ⟨todo.a,pH.length,todo.c,todo.aS⟩ oG rfl (sa:=t.ns[m].dE) (m:=t.ns[m].aO) (c':=t.ns[m].du) (ch:=t.ns[m].aw.map (.int .i64 ·)) rfl (by rw[bE,ff];show _=t.ns[m].aO*1;omega) (apT _) (Ju _) (back.ar 3) M0 rfl (by simp only;omega) (by show(pH.length+t.ns[m].aO)*8<=_;omega) ?_;intro tc acV acW jV;rw[<-cP]at jV;refine b'.mk λbT gS Lz=>?_;refine bB.pw a7 rfl (by simp) (e:=3) rfl rfl rfl back ux rfl (cs:=[.int .i64 m]) rfl rfl rfl [] (tc.ar 3++M0) rfl (by omega) (by show(back.n+1)*8<=_;omega) ?_;intro acX axl axm Jy;have Jy:acX.ok 1 ((gN++[(m:Int)]).map (.int .i64 ·)):=by rw[cP];exact Jy
  refine⟨(tc,pH++t.ns[m].aw,acX,gN++[(m:Int)],f-1),⟨⟨jV,Jy,λk ae=>?_,λk ae=>?_,?_,?_,?_⟩,?_⟩,.refl,ht,.cons rfl (.nil)⟩
  ·rcases cF.1 ae with ae | ae
   ·exact Nx k (by simp[ae])
   ·have:=js k ae;omega
  ·rcases cF.1 ae with ae | ae
   ·exact FT k ae
   ·simp only[ec]at ae;omega
  ·simp only[H9,b3,c2,fs];omega
  ·simp only[H9];omega
  ·obtain⟨u9,rfl⟩:∃ u9,f=u9+1:=⟨f-1,by omega⟩;rw[sR,YA,gz,gg rW];rfl
  ·simp only;rw[H9,H9,fz,acU];omega
 have apU:TW=[]:=by have:¬ (0:Int)<(todo.n:Int):=eu h;exact iq (by omega)
 subst apU;rw[Yz]at sR;simp only[g3,hx,B7,cX]at uy;refine bd.whole _ (acS (os0:=back) ux (by omega)) ?_;rintro v J N -⟨rfl,os,pG,bU,hC⟩;subst N;refine⟨_,os.ar 3++M0,.sub (.append (.refl _) (mw _ _)) .refl,rfl,os,by rw[sR];exact bU,pG.symm,?_,λk ae=>FT k (by rw[sR]at ae;exact Tg.1 ae),rfl⟩;have:=(Jv pG).1;omega
section
variable{X:cV}{β:Nat->Nat}{F:Fr}{C:dF}{I:aM}{M:List aE}{o:Oper}{K:gm}
def bB.apV(aQ:cU X.P X.E){x y:Operand}{t:Nat}(aK:o.op=.call { callee:=.builtin .copy,args:=#[x,y],argTypes:=#[t,t] })(ak:∀ d,o.dst=some d->d<X.n)
 {c7 aI:dH} (ax:X.E t=some c7) (dT:c7.bM=.slice e) (he:X.E e=some aI)
 {g c:Nat} {aS:List Value} (ad:bF F x=.val (.slice (some ⟨g,0,none⟩) n c)) (an:n*aI.size<=aS.length)
  {sa:Option Addr} {c':Nat} (aH:bF F y=.val (.slice sa n c')) {ch:List Value} (ay:ch.length=n*aI.size) (aC:0<n->∃ aU,sa=some aU/\cO I M aU (n*aI.size) ch) (aa:gA ch=true)
  (a9 post:List aE) (a':M=a9++⟨g,.cells aS.toArray e (0,0)⟩::post)
  (k:K (put o.dst (.val (.int .i64 n)) F) C I (a9++⟨g,.cells (ck aS 0 ch).toArray e (0,0)⟩::post)):bB X o F C I M K:=by
 refine⟨λa w Q ⟨β,aV⟩=>?_⟩;have hu:=SK aQ ax dT;obtain⟨inf,z,hi,ft,iW,iB,kE⟩:=(aQ _ _ he).inf;have av:w.heap[g]?=some (.cells aS.toArray e (0,0)):=aV.holds.m ⟨g,.cells aS.toArray e (0,0)⟩ (by rw[a'];simp);have dS:=run_storeCells_at X.P g 0 e ch 0 aS.toArray w av (by rw[ay];simpa using an) (zj aa);simp only[qt]at dS;have aA:(Builtin.firstCells aI.size n (.slice sa n c')).run X.P w=.ok ch.toArray w:=by
  by_cases az:0<n
  ·obtain⟨aU,rfl,dO,cs,T,ao,ff,ah,ay⟩:=aC az;refine run_firstCells_some (P:=X.P) w aI.size n aU n c' ch ay λj v ai=>?_;rw[eU _ dO,tw (ff.heap aV.holds)];rw[<-ah,lu]at ai;split at ai
   ·rw[od]at ai;simpa using ai
   ·cases ai
  ·have ab:n=0:=by omega
   subst ab;have aj:ch=[]:=iq (by rw[ay,zw]);subst aj;cases sa with
   |none=>simp[Builtin.firstCells]| some aU=>exact run_firstCells_some (P:=X.P) w aI.size 0 aU 0 c' [] (by simp) λj v ai=>by simp at ai
 have ex:=df aV.ao ad;have o7:=df aV.ao aH;refine jg (by rw[aK];simp) (v:=.int .i64 n) (w':=w.setRow g (ck aS 0 ch).toArray) ?_ ⟨_,_,_,_,⟨β,cN.put (x:=.val (.int .i64 n)) ?_ ak rfl⟩,k⟩
 ·have fj:(Builtin.copy_ #[t,t] o.type #[.slice (some ⟨g,0,none⟩) n c,.slice sa n c']).run X.P w=.ok (.int .i64 n) (w.setRow g (ck aS 0 ch).toArray):=by rw[<-ft]at aA;simp[Builtin.copy_,run_underlying hu,Builtin.lenOf,sizeOf,typeInfo,hi,aA,dS,ck,goInt]
  unfold execOp;simp only[aK,resolve,invoke,builtin,ct,c3,bY,sG,bX,hx,ex,o7,fj]
 ·exact aV.xQ a'
end
structure acY(d:ap)(ep:List Int)(y:Nat×aY×List Int):Prop where
 k:y.1<=d.aO
 ok:y.2.1.ok 1 (y.2.2.flatMap kx)
 n:y.2.1.n=d.aO
 eq:y.2.2=(d.aw.take y.1).map (λk=>ep.getD k.toNat 0)++d.aw.drop y.1
def apW(ax:t.ok I)(af:right t=true)(aC:t.n<=1099511627776)(yZ:node<t.n) :
  Spec Tryz.prog 81 [t.val,.int .i64 node] I [] λv I' M'=>(∀ b o,I b=some o->I' b=some o)/\M'=[]/\∃ bo:bP,v=bo.val/\bo.ok I'/\Ma t node bo:=by
 refine zt [] a7 Tryz.func81 rfl rfl rfl ?_;intro B az;have hK:=ax.n;have jJ:=ax.a2.cap;refine bd.mk [] [] _ (.refl _) (apS (M0:=[]) ax af aC yZ) ?_;rintro v apX N -⟨BM,back,ux,rfl,D7,FT,rfl⟩;subst apX;obtain⟨rb,nF⟩:∃ rb,(Ae t.ns node).reverse=rb:=⟨_,rfl⟩;rw[nF]at ux FT;have nc:=ux.nt;refine m0.mk t.n t.n rfl rfl (b2 _) (by show 8*t.n<=_;omega) (by omega) ?_;refine b'.mk λb9 lf vh=>?_;refine m0.mk 0 back.n rfl rfl (dw _) (by show 96*back.n<=_;omega) (by omega) ?_;refine b'.mk λb7 Il L6=>?_;have xf:(rowOf [Value.int .i64 0] (t.n*1))=(List.replicate t.n (0:Int)).map (Value.int .i64):=by rw[tL,xY,fa]
 refine dg.wo (ι:=Nat×List Int×aY×List ap×aM) (λx=>{ bj:=[(2,.ref 2 0),(4,.ref 4 0),(5,.val back.val),(6,.val (.slice (some ⟨b9,0,none⟩) t.n t.n)),(7,.val x.2.2.1.val),(24,.val back.val),(25,.val (.int .i64 back.n)),(26,.val (.int .i64 x.1))],cl:=[(2,t.cells),(4,[.slice none 0 0,.int .i64 0])],cI:=x.2.2.2.2,de:=dG b9 x.2.1::(x.2.2.1.ar 66++(back.ar 3++[])) }) (YB I t rb) (λx=>rb.length-x.1) ?_ ?_
 ·intro _;refine⟨(0,List.replicate t.n 0,⟨some b7,0,back.n,rowOf [.int .u8 0,.int .u64 0,.int .u64 0,.int .u64 0,.int .u64 0,.string ⟨#[]⟩,.int .i64 0,.int .i64 0,.slice none 0 0] (back.n*9)⟩,[],I),⟨dw _,by simp[hK],⟨rfl,(λh=>by cases h),λdM kF=>⟨by simp[wg,madeCells],dw _,by unfold maxLen;simp only;omega,by simp⟩⟩,rfl,(by rw[hK];rfl),(λd ak=>by cases ak),λ_ _ h=>h,(λc an=>by have:=Qo an;omega),(λd ak=>by cases ak)⟩,.perm (List.Perm.swap _ _ _) (.pu (by rw[xf];simp only[ed];rfl)),k5,.cons rfl (.cons rfl (.nil))⟩
 rintro⟨j,P,out,nG,J⟩⟨ai,AZ,y0,jA,Dj,A0,bl,Jz,ml⟩;simp only at ai AZ y0 jA Dj A0 bl Jz ml;have ub:out.n=j:=by have:=y0.len;rw[jm _ 9 ap.cT,jA]at this;omega
 subst ub;refine a3.mk (λh=>?_) (λh=>?_)
 ·have kn:out.n<rb.length:=by have:(out.n:Int)<(back.n:Int):=dB h;omega
  have hm:=FT _ (bi kn);obtain⟨m,y1⟩:=ea hm.1;rw[y1]at hm;have jq:m<t.n:=by omega
  have rW:m<t.ns.length:=by omega
  obtain⟨aU,bK,JA⟩:=aY.Cz (I:=J) (e:=3) (M:=dG b9 P::(out.ar 66++(back.ar 3++[]))) ux (λx ad=>by simp[ad]) kn;rw[y1]at JA;obtain⟨lK,lL,hy⟩:=(ax.a2.mono bl).row ap.cT jq rW;have ak:=(ax.ns _ (bi rW)).mono bl;have ff:=ak.aO;have r9:=ak.a2.cap;have js:=mG af m rW;have mU:nodeAt t.ns m=t.ns[m]:=gg rW;generalize fu:t.ns[m]=d at ak ff r9 js hy mU;have g2:=o8 P m (by omega) (out.n:Int);generalize uj:P.set m (out.n:Int)=ep at g2;have Ny:ep.length=t.ns.length:=by rw[<-uj];simpa using AZ
  have Dk:∀ c∈ep,0<=c/\c<=rb.length:=λc an=>by
   rw[<-uj]at an;rcases xj an with an | rfl;·exact Jz c an
   ·omega
  refine bf.mk aU out.n bK rfl (show _<back.n by omega) ?_;refine aR.mk _ JA ?_;refine bf.mk ⟨b9,0,none⟩ m rfl rfl jq ?_;refine b8.iJ [] (out.ar 66++(back.ar 3++[])) (P.map (Value.int .i64)) 3 rfl (by rw[n5,bE];show 0+m*1+1<=_;omega) rfl (ep.map (Value.int .i64)) (by rw[cX,fa];exact g2) ?_;refine bf.mk lK m lL rfl jq ?_;refine aR.mk _ (hy _) ?_;have sN:(out.n+1)*96<=140737488355328:=by omega
  refine a3.mk (λaa=>?_) (λaa=>?_)
  ·have lb:0<d.aO:=by have:(0:Int)<(d.aO:Int):=dB aa;omega
   refine m0.mk d.aO d.aO rfl rfl (b2 _) (by show 8*d.aO<=_;omega) (by omega) ?_;refine b'.mk λacZ axn axo=>?_;have bb:(rowOf [Value.int .i64 0] (d.aO*1)).length=d.aO:=by simp[wg,madeCells]
   have dO:ck (rowOf [Value.int .i64 0] (d.aO*1)) 0 (d.aw.map (.int .i64 ·))=d.aw.map (.int .i64 ·):=by unfold ck;rw[rG,iF,cX,vt (by rw[bb,bE];omega),ed]
   refine bB.apV a7 rfl (by simp) (e:=3) rfl rfl rfl (g:=acZ) (n:=d.aO) (c:=d.aO) (aS:=rowOf [Value.int .i64 0] (d.aO*1)) rfl (by rw[bb];show d.aO*1<=_;omega) (sa:=d.dE) (c':=d.du) rfl (ch:=d.aw.map (.int .i64 ·)) (by rw[bE];show _=d.aO*1;omega) (λaz=>ak.a2.Dg _ az) (Ju _) [] (dG b9 ep::(out.ar 66++(back.ar 3++[]))) rfl ?_;rw[dO];refine dg.inv (ι:=Nat×aY×List Int) (λy=>{ bj:=[(2,.ref 2 0),(4,.ref 4 0),(5,.val back.val),(6,.val (.slice (some ⟨b9,0,none⟩) t.n t.n)),(7,.val out.val),(8,.val (.int .i64 out.n)),(9,.val (.int .i64 m)),(10,.ref 10 0),(11,.val y.2.1.val),(24,.val back.val),(25,.val (.int .i64 back.n)),(26,.val (.int .i64 out.n)),(52,.val y.2.1.val),(53,.val (.int .i64 d.aO)),(54,.val (.int .i64 y.1))],cl:=[(2,t.cells),(4,[.slice none 0 0,.int .i64 0]),(10,d.cells)],cI:=J,de:=y.2.1.ar 3++(dG b9 ep::(out.ar 66++(back.ar 3++[]))) }) (λy=>acY d ep y) (λy=>d.aO-y.1) ?_ ?_;·exact⟨(0,⟨some acZ,d.aO,d.aO,d.aw.map (.int .i64 ·)⟩,d.aw),⟨dw _,⟨by rw[rh,bE];simp only;omega,(λh=>by cases h),λdM kF=>⟨by simp only[bE];omega,b2 _,by unfold maxLen;simp only;omega,by rw[rh];exact fN (by rw[bE];simp only;omega)⟩⟩,rfl,by simp⟩,.refl,ahj,.cons rfl (.cons rfl (.cons rfl (.nil)))⟩
   rintro⟨k,eo,gH⟩⟨ae,kQ,JB,cv⟩;simp only at ae kQ JB cv;have TY:∀ x∈eo.ar 3,x∈eo.ar 3++(dG b9 ep::(out.ar 66++(back.ar 3++[]))):=λx ad=>iD _ ad;have TZ:dG b9 ep∈eo.ar 3++(dG b9 ep::(out.ar 66++(back.ar 3++[]))):=by simp
   have EG:gH.length=d.aw.length:=by rw[cv,b3,bE,hT,tD];omega
   refine a3.mk (λab=>?_) (λab=>?_)
   ·have eX:k<d.aO:=by have:(k:Int)<(d.aO:Int):=dB ab;omega
    have k4:k<d.aw.length:=by omega
    have Dl:k<gH.length:=by omega
    have ah:=js _ (bi k4);have vR:d.aw[k].toNat<ep.length:=by omega
    have Dm:ep.getD d.aw[k].toNat 0=ep[d.aw[k].toNat]:=by simp[bt,vR]
    have T0:gH[k]=d.aw[k]:=by
     have aj:gH[k]?=d.aw[k]?:=by rw[cv,nj (by rw[bE,hT];omega),bE,hT,uL (by omega),p3,od,qt]
     rw[db Dl,db k4]at aj;exact fm aj
    obtain⟨gr,fB,eY⟩:=aY.ok.row (I:=J) (M:=eo.ar 3++(dG b9 ep::(out.ar 66++(back.ar 3++[])))) (e:=3) (f:=kx) (size:=1) (λ_=>rfl) (by decide) kQ TY Dl;rw[T0]at eY;refine bf.mk gr k fB rfl (show k<eo.n by omega) ?_;refine aR.mk _ eY ?_;refine bf.mk ⟨b9,0,none⟩ d.aw[k].toNat rfl (by omega) (by omega) ?_;refine aR.mk _ (Hp TZ vR) ?_;refine bf.mk gr k fB rfl (show k<eo.n by omega) ?_;refine aY.MG kx 1 (λ_=>rfl) (e:=3) kQ Dl ep[d.aw[k].toNat] rfl [] (dG b9 ep::(out.ar 66++(back.ar 3++[]))) rfl fB ?_;intro q2 nQ pj oC mA;refine bg.mk _ (cL (i:=k) (by omega)) ?_;refine⟨(k+1,q2,gH.set k ep[d.aw[k].toNat]),⟨⟨eX,mA,oC.trans JB,?_⟩,by simp only;omega⟩,.refl,.cons .refl (.cons .refl (.cons .refl (.cons .refl (.cons .refl (.cons .refl (.cons .refl (.cons .refl (.cons ?_ (.cons .refl (.cons .refl (.cons .refl (.cons ?_ (uV))))))))))))),.cons rfl (.cons rfl (.cons rfl (.nil)))⟩;·simp only;rw[cv,gy k4,cP,bX,hx,Dm,HL _ _ (by rw[bE,hT];omega),bE,hT,uL (by omega),p3,e1 k4,HN,dY];rfl
    ·simp only;rw[nQ];exact .refl
    ·simp only;rw[nQ];exact .refl
   have cJ:k=d.aO:=by have:¬ (k:Int)<(d.aO:Int):=eu ab;omega
   subst cJ;rw[fN (by omega),vt (by omega),ed]at cv;rw[rh]at kQ;refine b'.mk λac0 ac1 ac2=>?_;have bH:∃ ca:ap,ca=⟨d.k,d.cC,d.s1,d.s2,d.c0,d.t,d.lo,d.hi,eo.a.map λg=>⟨g,0,none⟩,eo.n,eo.c,gH⟩:=⟨_,rfl⟩;obtain⟨ca,bH⟩:=bH;have JC:ca.cells=[.int .u8 d.k,.int .u64 d.cC,.int .u64 d.s1,.int .u64 d.s2,.int .u64 d.c0,.string d.t,.int .i64 d.lo,.int .i64 d.hi,.slice (eo.a.map λg=>⟨g,0,none⟩) eo.n eo.c]:=by rw[bH];rfl
   refine bB.pw a7 rfl (by simp) (e:=66) rfl rfl rfl out y0 rfl (cs:=[.int .u8 d.k,.int .u64 d.cC,.int .u64 d.s1,.int .u64 d.s2,.int .u64 d.c0,.string d.t,.int .i64 d.lo,.int .i64 d.hi,.slice (eo.a.map λg=>⟨g,0,none⟩) eo.n eo.c]) rfl rfl rfl (eo.ar 3++[dG b9 ep]) (back.ar 3++[]) (by simp;rfl) (by omega) (by show(out.n+1)*96<=_;omega) ?_;intro td ac3 ac4 A1;refine bg.mk _ (cL (i:=out.n) (by omega)) ?_;have A2:∀ c∈gH,0<=c/\c<=rb.length:=λc an=>by
    rw[cv]at an;obtain⟨q,aN,rfl⟩:=cA.1 an;have vq:=js q aN;have JD:q.toNat<ep.length:=by omega
    exact Dk (ep.getD q.toNat 0) (by simp only[bt,db JD,j'];exact bi _)
   intro fJ;obtain⟨l0,hw,bq,ei⟩:=aY.HQ (I:=J) (b:=8) (e:=3) kQ (by omega) (λg av=>fJ.d ⟨g,.cells eo.aS.toArray 3 (0,0)⟩ (by simp[aY.ar,av])) (dG b9 ep::(td.ar 66++(back.ar 3++[])));refine⟨(out.n+1,ep,td,nG++[ca],l0),⟨⟨by simp only;omega,Ny,?_,by simp[jA],?_,?_,λb o h=>bq _ _ (bl _ _ h),Dk,?_⟩,by simp only;omega⟩,?_,k5,.cons rfl (.cons rfl (.nil))⟩
   ·simp only;rw[hn];have:([ca].flatMap ap.cells)=ca.cells:=by simp
    rw[this,JC];exact A1
   ·simp only;rw[gy kn,r4,Dj,jE,L0,y1];show(P.set m ((nG.map ap.a0).length:Int),nG.map ap.a0++[(nodeAt t.ns m).eQ ((nodeAt t.ns m).aw.map λk=>(P.set m ((nG.map ap.a0).length:Int)).getD k.toNat 0)])=_;rw[bE,jA,uj,mU,<-cv,cP,bH];rfl
   ·simp only;intro x ad;rcases cF.1 ad with ad | ad
    ·exact(A0 x ad).mono bq
    ·simp only[ec]at ad;rw[ad,bH];refine⟨ak.k,ak.cC,ak.s1,ak.s2,ak.c0,ak.t,ak.lo,ak.hi,ei,λc an=>?_⟩;have:=A2 c an;exact⟨by omega,by omega⟩
   ·simp only;intro x ad;rcases cF.1 ad with ad | ad
    ·exact ml x ad
    ·simp only[ec]at ad;rw[ad,bH];exact A2
   ·simp only;refine .perm (M1:=eo.ar 3++(dG b9 ep::(td.ar 66++(back.ar 3++[])))) ?_ hw;simp
  ·have lb:d.aO=0:=by have:¬ (0:Int)<(d.aO:Int):=eu aa;omega
   have apY:d.aw=[]:=iq (by omega);refine dg.inv (ι:=Nat×aY×List Int) (λy=>{ bj:=[(2,.ref 2 0),(4,.ref 4 0),(5,.val back.val),(6,.val (.slice (some ⟨b9,0,none⟩) t.n t.n)),(7,.val out.val),(8,.val (.int .i64 out.n)),(9,.val (.int .i64 m)),(10,.ref 10 0),(11,.val y.2.1.val),(24,.val back.val),(25,.val (.int .i64 back.n)),(26,.val (.int .i64 out.n)),(52,.val y.2.1.val),(53,.val (.int .i64 d.aO)),(54,.val (.int .i64 y.1))],cl:=[(2,t.cells),(4,[.slice none 0 0,.int .i64 0]),(10,d.cells)],cI:=J,de:=y.2.1.ar 3++(dG b9 ep::(out.ar 66++(back.ar 3++[]))) }) (λy=>acY d ep y) (λy=>d.aO-y.1) ?_ ?_;·refine⟨(0,ib,d.aw),⟨dw _,by rw[apY];exact lM 1,lb.symm,by simp⟩,.refl,.cons .refl (.cons .refl (.cons .refl (.cons .refl (.cons .refl (.cons .refl (.cons .refl (.cons .refl (.cons .refl (.cons .refl (.cons .refl (.cons .refl (.cons .refl (.cons ?_ (.cons .refl .nil)))))))))))))),.cons rfl (.cons rfl (.cons rfl (.nil)))⟩;simp only;rw[lb];exact .refl
   rintro⟨k,eo,gH⟩⟨ae,kQ,JB,cv⟩;simp only at ae kQ JB cv;have TY:∀ x∈eo.ar 3,x∈eo.ar 3++(dG b9 ep::(out.ar 66++(back.ar 3++[]))):=λx ad=>iD _ ad;have TZ:dG b9 ep∈eo.ar 3++(dG b9 ep::(out.ar 66++(back.ar 3++[]))):=by simp
   have EG:gH.length=d.aw.length:=by rw[cv,b3,bE,hT,tD];omega
   refine a3.mk (λab=>?_) (λab=>?_)
   ·have eX:k<d.aO:=by have:(k:Int)<(d.aO:Int):=dB ab;omega
    have k4:k<d.aw.length:=by omega
    have Dl:k<gH.length:=by omega
    have ah:=js _ (bi k4);have vR:d.aw[k].toNat<ep.length:=by omega
    have Dm:ep.getD d.aw[k].toNat 0=ep[d.aw[k].toNat]:=by simp[bt,vR]
    have T0:gH[k]=d.aw[k]:=by
     have aj:gH[k]?=d.aw[k]?:=by rw[cv,nj (by rw[bE,hT];omega),bE,hT,uL (by omega),p3,od,qt]
     rw[db Dl,db k4]at aj;exact fm aj
    obtain⟨gr,fB,eY⟩:=aY.ok.row (I:=J) (M:=eo.ar 3++(dG b9 ep::(out.ar 66++(back.ar 3++[])))) (e:=3) (f:=kx) (size:=1) (λ_=>rfl) (by decide) kQ TY Dl;rw[T0]at eY;refine bf.mk gr k fB rfl (show k<eo.n by omega) ?_;refine aR.mk _ eY ?_;refine bf.mk ⟨b9,0,none⟩ d.aw[k].toNat rfl (by omega) (by omega) ?_;refine aR.mk _ (Hp TZ vR) ?_;refine bf.mk gr k fB rfl (show k<eo.n by omega) ?_;refine aY.MG kx 1 (λ_=>rfl) (e:=3) kQ Dl ep[d.aw[k].toNat] rfl [] (dG b9 ep::(out.ar 66++(back.ar 3++[]))) rfl fB ?_;intro q2 nQ pj oC mA;refine bg.mk _ (cL (i:=k) (by omega)) ?_;refine⟨(k+1,q2,gH.set k ep[d.aw[k].toNat]),⟨⟨eX,mA,oC.trans JB,?_⟩,by simp only;omega⟩,.refl,.cons .refl (.cons .refl (.cons .refl (.cons .refl (.cons .refl (.cons .refl (.cons .refl (.cons .refl (.cons ?_ (.cons .refl (.cons .refl (.cons .refl (.cons ?_ (uV))))))))))))),.cons rfl (.cons rfl (.cons rfl (.nil)))⟩;·simp only;rw[cv,gy k4,cP,bX,hx,Dm,HL _ _ (by rw[bE,hT];omega),bE,hT,uL (by omega),p3,e1 k4,HN,dY];rfl
    ·simp only;rw[nQ];exact .refl
    ·simp only;rw[nQ];exact .refl
   have cJ:k=d.aO:=by have:¬ (k:Int)<(d.aO:Int):=eu ab;omega
   subst cJ;rw[fN (by omega),vt (by omega),ed]at cv;rw[rh]at kQ;refine b'.mk λac0 ac1 ac2=>?_;have bH:∃ ca:ap,ca=⟨d.k,d.cC,d.s1,d.s2,d.c0,d.t,d.lo,d.hi,eo.a.map λg=>⟨g,0,none⟩,eo.n,eo.c,gH⟩:=⟨_,rfl⟩;obtain⟨ca,bH⟩:=bH;have JC:ca.cells=[.int .u8 d.k,.int .u64 d.cC,.int .u64 d.s1,.int .u64 d.s2,.int .u64 d.c0,.string d.t,.int .i64 d.lo,.int .i64 d.hi,.slice (eo.a.map λg=>⟨g,0,none⟩) eo.n eo.c]:=by rw[bH];rfl
   refine bB.pw a7 rfl (by simp) (e:=66) rfl rfl rfl out y0 rfl (cs:=[.int .u8 d.k,.int .u64 d.cC,.int .u64 d.s1,.int .u64 d.s2,.int .u64 d.c0,.string d.t,.int .i64 d.lo,.int .i64 d.hi,.slice (eo.a.map λg=>⟨g,0,none⟩) eo.n eo.c]) rfl rfl rfl (eo.ar 3++[dG b9 ep]) (back.ar 3++[]) (by simp;rfl) (by omega) (by show(out.n+1)*96<=_;omega) ?_;intro td ac3 ac4 A1;refine bg.mk _ (cL (i:=out.n) (by omega)) ?_;have A2:∀ c∈gH,0<=c/\c<=rb.length:=λc an=>by
    rw[cv]at an;obtain⟨q,aN,rfl⟩:=cA.1 an;have vq:=js q aN;have JD:q.toNat<ep.length:=by omega
    exact Dk (ep.getD q.toNat 0) (by simp only[bt,db JD,j'];exact bi _)
   intro fJ;obtain⟨l0,hw,bq,ei⟩:=aY.HQ (I:=J) (b:=8) (e:=3) kQ (by omega) (λg av=>fJ.d ⟨g,.cells eo.aS.toArray 3 (0,0)⟩ (by simp[aY.ar,av])) (dG b9 ep::(td.ar 66++(back.ar 3++[])));refine⟨(out.n+1,ep,td,nG++[ca],l0),⟨⟨by simp only;omega,Ny,?_,by simp[jA],?_,?_,λb o h=>bq _ _ (bl _ _ h),Dk,?_⟩,by simp only;omega⟩,?_,k5,.cons rfl (.cons rfl (.nil))⟩
   ·simp only;rw[hn];have:([ca].flatMap ap.cells)=ca.cells:=by simp
    rw[this,JC];exact A1
   ·simp only;rw[gy kn,r4,Dj,jE,L0,y1];show(P.set m ((nG.map ap.a0).length:Int),nG.map ap.a0++[(nodeAt t.ns m).eQ ((nodeAt t.ns m).aw.map λk=>(P.set m ((nG.map ap.a0).length:Int)).getD k.toNat 0)])=_;rw[bE,jA,uj,mU,<-cv,cP,bH];rfl
   ·simp only;intro x ad;rcases cF.1 ad with ad | ad
    ·exact(A0 x ad).mono bq
    ·simp only[ec]at ad;rw[ad,bH];refine⟨ak.k,ak.cC,ak.s1,ak.s2,ak.c0,ak.t,ak.lo,ak.hi,ei,λc an=>?_⟩;have:=A2 c an;exact⟨by omega,by omega⟩
   ·simp only;intro x ad;rcases cF.1 ad with ad | ad
    ·exact ml x ad
    ·simp only[ec]at ad;rw[ad,bH];exact A2
   ·simp only;refine .perm (M1:=eo.ar 3++(dG b9 ep::(td.ar 66++(back.ar 3++[])))) ?_ hw;simp
 have cJ:out.n=rb.length:=by have:¬ (out.n:Int)<(back.n:Int):=eu h;omega
 refine bg.mk ((nG.length:Int)-1) (by show IntKind.i64.wrap ((out.n:Int)-1)=_;rw[wrap_i64 ⟨by omega,by omega⟩,jA]) ?_;intro fJ;obtain⟨l0,hw,bq,ei⟩:=aY.HQ (I:=J) (b:=96) (e:=66) y0 (by omega) (λg av=>fJ.d ⟨g,.cells out.aS.toArray 66 (0,0)⟩ (by simp[aY.ar,av])) [];refine⟨l0,[],.sub (M1:=out.ar 66++[]) (by rw[ed];exact .cons _ (ua _ _)) hw,λb o h=>bq _ _ (bl _ _ h),rfl,⟨nG,out.a.map λg=>⟨g,0,none⟩,out.n,out.c,(nG.length:Int)-1⟩,rfl,⟨ei,λd ak=>(A0 d ak).mono bq,⟨by simp only;omega,by simp only;omega⟩⟩,⟨?_,rfl⟩⟩;rw[fN (by omega)]at Dj;rw[r8,nF,<-hK]at *;rw[Dj]
def T1(ax:t.ok I)(af:right t=true)(aC:t.n<=1099511627776)(yZ:node<t.n) :
  Spec Tryz.prog 81 [t.val,.int .i64 node] I M0 λv I' M'=>(∀ b o,I b=some o->I' b=some o)/\M'=M0/\∃ bo:bP,v=bo.val/\bo.ok I'/\Ma t node bo:=by
 refine Spec.ra (Spec.frame (apW ax af aC yZ)) ?_;rintro v J M⟨M',rfl,-,-,aa,rfl,bo,rfl,ab,aj⟩;exact⟨aa,rfl,bo,rfl,ab,aj⟩
def A3(apZ:Int)(d:ap):ap:=d.eQ (d.aw.map (·+apZ))
def ap0{A K B:List Int}(ak:h1 (A++(K++B)))(ad:x∈K):vv (A++(K++B)) x=vv K x+(A.length:Int):=by have dv:x ∉ A:=λh=>(sb.1 ak).2.2 x h x (iD _ ad) rfl;unfold vv;rw[Tf,bS dv,Tf,bN ad];omega
def ap1{Nz:List Int}{k:Int}(ak:h1 (Nz++[k])):vv (Nz++[k]) k=(Nz.length:Int):=by have dv:k ∉ Nz:=λh=>(sb.1 ak).2.2 k h k (.head _) rfl;unfold vv;rw[Tf,bS dv,List.idxOf_cons_self];omega
section
end
def ap2{nm:ByteArray}{ds:List aP}{q:Nat}(h:cr nm ds 0=(q:Int)):eD nm (bD ds)=some (q:Int):=by rw[ab7,h,dU (by omega),b5]
section
end
section
end
open Classical in
def ac5{ds:List aP}{i:Nat}:i∈sq ds F ↔ i<ds.length/\kv (jO ds F) i i:=by unfold sq;rw[iE,g8,M6]
def y2:dj al g=0 ↔ g.n≠0/\nr g.ds=true/\mL al g=false/\(∀ i,i<g.ds.length->nE g.ds i=true)/\∀ d∈g.ds,∀ n∈d.t.ns,n.k=3->0<=cr n.t g.ds 0:=by
 rw[<-Tv];have gU:(g.ds.all λd=>d.t.ns.all (yT g.ds))=true ↔ ∀ d∈g.ds,∀ n∈d.t.ns,n.k=3->0<=cr n.t g.ds 0:=by
  simp only[fi,yT,k6,tC,qz,hq];constructor
  ·intro h d ak n aC aj;rcases h d ak n aC with h | h
   ·exact absurd aj h
   ·exact h
  ·intro h d ak n aC;by_cases aj:n.k=3
   ·exact .inr (h d ak n aC aj)
   ·exact .inl aj
 have aA:(List.range g.ds.length).all (nE g.ds)=true ↔ ∀ i,i<g.ds.length->nE g.ds i=true:=by simp[fi]
 rw[<-gU,<-aA];unfold Jj;by_cases aa:g.n=0
 ·rw[eV (by omega),cb];exact⟨(λh=>by cases h),(λh=>absurd aa h.1)⟩
 ·rw[dU (by omega),b5];cases nr g.ds with
  |false=>exact⟨(λh=>by cases h),(λh=>by cases h.2.1)⟩| true=>
  cases mL al g with
  |true=>exact⟨(λh=>by cases h),(λh=>by cases h.2.2.1)⟩| false=>
  cases(List.range g.ds.length).all (nE g.ds)with
  |false=>exact⟨(λh=>by cases h),(λh=>by cases h.2.2.2.1)⟩| true=>
  cases(g.ds.all λd=>d.t.ns.all (yT g.ds))with
  |false=>exact⟨(λh=>by cases h),(λh=>by cases h.2.2.2.2)⟩| true=>exact⟨λ_=>⟨aa,rfl,rfl,rfl,rfl⟩,λ_=>rfl⟩
def nH(ds:List aP):cD:=⟨ds,none,ds.length,0⟩
section
variable{α:Type}{z:α}{F:ap->List α->α}
def T2{f:ap->(Int->α)->α}:∀ (a b:List ap) (aZ:List α),gK z f (a++b) aZ=gK z f b (gK z f a aZ)
 |[],b,aZ=>rfl| d::a,b,aZ=>by rw[mF,gK,gK,T2 a b]
variable(bG:∀ d l,F (d.eQ l)=F d)
include bG
theorem ac6{n:Nat}{aZ:List α}(aC:aZ.length=n):∀ (l:List ap) (p:List α),(∀ d∈l,∀ k∈d.aw,0<=k)->gK z (λd g=>F d (d.aw.map g)) (l.map λx=>x.eQ (x.aw.map λk=>(n:Int)+k)) (aZ++p)=aZ++gK z (λd g=>F d (d.aw.map g)) l p
 |[],p,_=>rfl
 |d::l,p,h=>by
  have e:F (d.eQ (d.aw.map λk=>(n:Int)+k)) ((d.aw.map λk=>(n:Int)+k).map λk=>(aZ++p).getD k.toNat z)=F d (d.aw.map λk=>p.getD k.toNat z):=by rw[bG,gh];congr 1;refine fO λk ae=>?_;have az:=h d (.head _) k ae;show(aZ++p).getD ((n:Int)+k).toNat z=_;rw[bt,nj (by omega),bt];congr 2;omega
  rw[bX,gK,gK];show gK z _ _ (aZ++p++[F (d.eQ (d.aw.map λk=>(n:Int)+k)) ((d.aw.map λk=>(n:Int)+k).map λk=>(aZ++p).getD k.toNat z)])=_;rw[e,dY];exact ac6 aC l _ λx ad=>h x (.tail _ ad)
def A4(z:α)(F:ap->List α->α)(l:List ap):α:=lH z (λd g=>F d (d.aw.map g)) l ((l.length:Int)-1)
theorem ac7:∀ (fY:List (List ap)) (aX:List ap×List Int) (vs:List α),(∀ l∈fY,0<l.length/\∀ d∈l,∀ k∈d.aw,0<=k) -> (aX.2.map λk=>(gK z (λd g=>F d (d.aw.map g)) aX.1 []).getD k.toNat z)=vs->(∀ k∈aX.2,0<=k/\k<aX.1.length) -> ((fY.foldl jN aX).2.map λk=>(gK z (λd g=>F d (d.aw.map g)) (fY.foldl jN aX).1 []).getD k.toNat z)=vs++fY.map (A4 z F)
 |[],aX,vs,_,h,_=>by simpa using h
 |l::fY,aX,vs,ay,h,ae=>by
  obtain⟨BF,kG⟩:=ay l (.head _);have c1:(gK z (λd g=>F d (d.aw.map g)) aX.1 []).length=aX.1.length:=by rw[PW];simp
  have bp:gK z (λd g=>F d (d.aw.map g)) (jN aX l).1 []=gK z (λd g=>F d (d.aw.map g)) aX.1 []++gK z (λd g=>F d (d.aw.map g)) l []:=by show gK z _ (aX.1++l.map λx=>x.eQ (x.aw.map λk=>(aX.1.length:Int)+k)) []=_;rw[T2];have:=ac6 bG (z:=z) c1 l [] kG;rwa [ed]at this
  rw[jE];have:=ac7 fY (jN aX l) (vs++[A4 z F l]) (λx ad=>ay x (.tail _ ad)) ?_ ?_;·rw[this,bX,dY];rfl
  ·rw[bp];show(aX.2++[((aX.1.length+l.length:Nat):Int)-1]).map _=_;rw[cP,<-h,bX,hx];congr 1
   ·refine fO λk hg=>?_;have:=ae k hg;rw[bt,rE (by rw[c1];omega),bt]
   ·congr 1;rw[bt,nj (by rw[c1];omega),c1];unfold A4 lH;rw[bt];congr 2;omega
  ·intro k hg;rcases cF.1 (show k∈aX.2++[((aX.1.length+l.length:Nat):Int)-1]from hg)with hg | hg
   ·have:=ae k hg;show 0<=k/\k<((aX.1++l.map λx=>x.eQ (x.aw.map λk=>(aX.1.length:Int)+k)).length:Nat);rw[b3];omega
   ·rw[ec]at hg;show 0<=k/\k<((aX.1++l.map λx=>x.eQ (x.aw.map λk=>(aX.1.length:Int)+k)).length:Nat);rw[b3,bE];omega
theorem ap3{d:ap}(ay:∀ l∈fY,0<l.length/\∀ d∈l,∀ k∈d.aw,0<=k):A4 z F (wP d fY)=F d (fY.map (A4 z F)):=by
 have h:=ac7 bG (z:=z) fY ([],[]) [] ay rfl (λk ae=>by cases ae);rw[iF]at h;have c1:(gK z (λd g=>F d (d.aw.map g)) (fY.foldl jN ([],[])).1 []).length=(fY.foldl jN ([],[])).1.length:=by rw[PW];simp
 unfold A4 lH wP;rw[T2,gK,gK];show(_++[F (d.eQ (fY.foldl jN ([],[])).2) ((fY.foldl jN ([],[])).2.map λk=>(gK z (λd g=>F d (d.aw.map g)) (fY.foldl jN ([],[])).1 []).getD k.toNat z)]).getD _ z=_;rw[h,bG,bt,nj (by rw[c1];simp)];have dd:((((fY.foldl jN ([],[])).1++[d.eQ (fY.foldl jN ([],[])).2]).length:Int)-1).toNat-(gK z (λd g=>F d (d.aw.map g)) (fY.foldl jN ([],[])).1 []).length=0:=by rw[c1];simp
 rw[dd];rfl
end
def ac8{α:Type}(z:α)(F:ap->List α->α)(t:bP):α:=lH z (λd g=>F d (d.aw.map g)) t.ns t.bA
def T3(d:ap)(l:List Int)(n:Int):fits (d.eQ l) n=fits d n:=rfl
structure A5(aX:List ap×List Int):Prop where
 fits:∀ d∈aX.1,fits d d.aw.length=true
 aw:∀ j (h:j<aX.1.length),∀ k∈aX.1[j].aw,0<=k/\k<j
 diff:h1 (eT aX.1)
 all:∀ j:Nat,j<aX.1.length->((j:Int)∈eT aX.1 ↔ (j:Int) ∉ aX.2)
 cd:h1 aX.2
 JE:∀ k∈aX.2,0<=k/\k<aX.1.length
def NA{l:List ap}(h:∀ j (h:j<l.length),∀ k∈l[j].aw,0<=k/\k<j):∀ k∈eT l,0<=k/\k<l.length:=λk ae=>by obtain⟨d,ak,jo⟩:=g6.1 ae;obtain⟨j,ai,rfl⟩:=jv ak;have:=h j ai k jo;omega
def ap4(n:Int)(l:List ap):eT (l.map λx=>x.eQ (x.aw.map λk=>n+k))=(eT l).map λk=>n+k:=by unfold eT;rw[AR,AS];rfl
def A5.step{aX:List ap×List Int}(h:A5 aX){l:List ap}(ay:hP (ko l)):A5 (jN aX l):=by
 have tP:=ay.bA;have kG:=NA (l:=l) ay.aw;have A6:=NA h.aw;have gU:eT (jN aX l).1=eT aX.1++(eT l).map λk=>(aX.1.length:Int)+k:=by show eT (aX.1++_)=_;rw[<-ap4];unfold eT;rw[hn]
 have c1:(jN aX l).1.length=aX.1.length+l.length:=by show(aX.1++_).length=_;rw[b3,bE]
 have jo:(jN aX l).2=aX.2++[((aX.1.length+l.length:Nat):Int)-1]:=rfl;have rO:(ko l).bA=(l.length:Int)-1:=rfl;have sM:(ko l).ns=l:=rfl;rw[rO,sM]at tP;refine⟨λd ak=>?_,λj ai k ae=>?_,?_,λj ai=>?_,?_,λk ae=>?_⟩
 ·rcases cF.1 (show d∈aX.1++l.map (λx=>x.eQ (x.aw.map λk=>(aX.1.length:Int)+k))from ak)with ak | ak
  ·exact h.fits d ak
  ·obtain⟨x,ad,rfl⟩:=cA.1 ak;obtain⟨j,ai,rfl⟩:=jv ad;have:=ay.fits j ai;rw[T3];show Go.V.fits l[j] (((l[j].aw.map λk=>(aX.1.length:Int)+k).length:Nat):Int)=true;rw[bE];exact this
 ·have ai:j<(aX.1++l.map (λx=>x.eQ (x.aw.map λk=>(aX.1.length:Int)+k))).length:=ai;have hg:k∈((aX.1++l.map (λx=>x.eQ (x.aw.map λk=>(aX.1.length:Int)+k)))[j]'ai).aw:=ae;have nI:j<aX.1.length+l.length:=by rw[<-c1];exact ai
  by_cases ez:j<aX.1.length;·rw[z3 ez]at hg;exact h.aw j ez k hg
  ·rw[ER (by omega),fr]at hg;obtain⟨q,aN,rfl⟩:=cA.1 (show k∈(l[j-aX.1.length]'(by omega)).aw.map (λk=>(aX.1.length:Int)+k)from hg);have:=ay.aw (j-aX.1.length) (by show _<l.length;omega) q aN;omega
 ·rw[gU];refine sb.2 ⟨h.diff,FD.2 ((show h1 (eT l)from ay.diff).imp λbs e=>bs (by omega)),λx ad y aH e=>?_⟩;obtain⟨q,aN,rfl⟩:=cA.1 aH;have aa:=A6 x ad;have ab:=kG q aN;omega
 ·rw[gU,jo,cF,cF,ec,cA];rw[c1]at ai;by_cases ez:j<aX.1.length
  ·have a6:=h.all j ez;constructor
   ·rintro(aa | ⟨q,aN,e⟩)
    ·rintro(ab | ab)
     ·exact a6.1 aa ab
     ·omega
    ·have:=kG q aN;omega
   ·intro aa;exact .inl (a6.2 λab=>aa (.inl ab))
  ·have a6:=ay.all (j-aX.1.length) (by show _<l.length;omega);rw[rO,sM]at a6;constructor
   ·rintro(aa | ⟨q,aN,e⟩)
    ·have:=A6 _ aa;omega
    ·rintro(ab | ab)
     ·have:=h.JE _ ab;omega
     ·have a4:q=((j-aX.1.length:Nat):Int):=by omega
      rw[a4]at aN;exact a6.1 aN (by omega)
   ·intro aa;refine .inr ⟨((j-aX.1.length:Nat):Int),a6.2 λe=>aa (.inr (by omega)),by omega⟩
 ·rw[jo];refine sb.2 ⟨h.cd,by simp,λx ad y aH e=>?_⟩;rw[ec]at aH;have:=h.JE x ad;omega
 ·rw[jo]at ae;rw[c1];rcases cF.1 ae with ae | ae
  ·have:=h.JE k ae;omega
  ·rw[ec]at ae;omega
def A5.ac9:∀ (fY:List (List ap)) (aX:List ap×List Int),A5 aX->(∀ l∈fY,hP (ko l))->A5 (fY.foldl jN aX)/\(fY.foldl jN aX).2.length=aX.2.length+fY.length
 |[],aX,h,_=>⟨h,rfl⟩| l::fY,aX,h,ay=>by obtain⟨aa,ab⟩:=A5.ac9 fY (jN aX l) (h.step (ay l (.head _))) λx ad=>ay x (.tail _ ad);refine⟨aa,?_⟩;rw[jE,ab];show(aX.2++[_]).length+_=_;simp;omega
def ap5{d:ap}(ay:∀ l∈fY,hP (ko l))(aA:fits d fY.length=true):hP (ko (wP d fY)):=by
 obtain⟨h,cv⟩:=A5.ac9 fY ([],[]) ⟨(λd ak=>by cases ak),(λj h=>absurd h (mS _)),.nil,(λj h=>absurd h (mS _)),.nil,(λk ae=>by cases ae)⟩ ay;have A6:=NA h.aw;unfold wP;generalize fY.foldl jN ([],[])=aX at h cv A6;have gU:eT (aX.1++[d.eQ aX.2])=eT aX.1++aX.2:=by unfold eT;rw[hn];simp[ap.eQ]
 have c1:(aX.1++[d.eQ aX.2]).length=aX.1.length+1:=by simp
 refine⟨?_,λj ai=>?_,λj ai k ae=>?_,?_,λj ai=>?_⟩
 ·show 0<=(((aX.1++[d.eQ aX.2]).length:Nat):Int)-1/\(((aX.1++[d.eQ aX.2]).length:Nat):Int)-1<((aX.1++[d.eQ aX.2]).length:Nat);omega
 ·have ai:j<(aX.1++[d.eQ aX.2]).length:=ai;show fits ((aX.1++[d.eQ aX.2])[j]'ai) ((((aX.1++[d.eQ aX.2])[j]'ai).aw.length:Nat):Int)=true;rcases cF.1 (bi ai)with hm | hm
  ·exact h.fits _ hm
  ·rw[ec.1 hm,T3];show fits d (aX.2.length:Nat)=true;rw[cv];simpa using aA
 ·have ai:j<(aX.1++[d.eQ aX.2]).length:=ai;have ae:k∈((aX.1++[d.eQ aX.2])[j]'ai).aw:=ae;by_cases ez:j<aX.1.length
  ·rw[z3 ez]at ae;exact h.aw j ez k ae
  ·have iC:j<(aX.1++[d.eQ aX.2]).length:=ai;have e:j=aX.1.length:=by omega
   subst e;rw[ER (by omega)]at ae;have ae:k∈aX.2:=by simpa[ap.eQ]using ae
   have:=h.JE k ae;omega
 ·show h1 (eT (aX.1++[d.eQ aX.2]));rw[gU];refine sb.2 ⟨h.diff,h.cd,λx ad y aH e=>?_⟩;subst e;have aa:=A6 x ad;obtain⟨q,rfl⟩:=ea aa.1;exact(h.all q (by omega)).1 ad aH
 ·show(j:Int)∈eT (aX.1++[d.eQ aX.2]) ↔ (j:Int)≠(((aX.1++[d.eQ aX.2]).length:Nat):Int)-1;have ai:j<(aX.1++[d.eQ aX.2]).length:=ai;rw[gU,cF,c1];by_cases ez:j<aX.1.length
  ·have a6:=h.all j ez;constructor
   ·intro _;omega
   ·intro _;by_cases hm:(j:Int)∈aX.2
    ·exact .inr hm
    ·exact .inl (a6.2 hm)
  ·constructor
   ·rintro(aa | aa)
    ·have:=A6 _ aa;omega
    ·have:=h.JE _ aa;omega
   ·intro bs;omega
def ada:∀ (fY:List (List ap)) (aX:List ap×List Int),(fY.foldl jN aX).1.length=aX.1.length+(fY.map List.length).sum
 |[],aX=>by simp
 |l::fY,aX=>by rw[jE,ada fY];show(aX.1++_).length+_=_;rw[b3,bE,bX,hI];omega
def ap6(d:ap)(fY:List (List ap)):(wP d fY).length=(fY.map List.length).sum+1:=by unfold wP;rw[b3,ada];simp
def NB{α:Type}{f g:α->Nat}:∀ {l:List α},(∀ x∈l,f x<=g x)->(l.map f).sum<=(l.map g).sum
 |[],_=>b2 _| x::l,h=>by have aa:=h x (.head _);have ab:=NB (l:=l) λy aH=>h y (.tail _ aH);simp only[bX,hI];omega
def NC{x:Nat}:∀ {l:List Nat},x∈l->x<=l.sum
 |y::l,h=>by
  rw[hI];rcases eg.1 h with rfl | h;·omega
  ·have:=NC h;omega
abbrev vS:=(aW×List Nat)×Bool
def ap7:vS:=((b4,[]),false)
def ob(pl:List (ByteArray×Int))(F:List aW)(t:bP):vS:=ac8 ap7 (lZ pl F) t
def adb(pl:List (ByteArray×Int))(F:List aW)(t:bP):ob pl F t=pE pl F t.ns t.bA:=rfl
def ap8{pl:List (ByteArray×Int)}(af:right t=true):(ob pl F t).1.1=(ev pl F t.ns []).getD t.bA.toNat b4:=by obtain⟨kw,hO⟩:=qP af;obtain⟨r,fE⟩:=ea kw;rw[adb,fE,Nm af (r+1) r (by omega) (by omega),Rw]
def ade{a:Nat}{lO:List Nat}:∀ {xs ys:List (aW×List Nat)},xs.length=ys.length->(∀ i (h:i<xs.length) (bc:i<ys.length),xs[i].1=ys[i].1/\∀ k∈xs[i].2,k∈ys[i].2\/(a∈ys[i].2/\k∈lO))->∀ k∈j3 xs,k∈j3 ys\/(a∈j3 ys/\k∈lO)
 |[],[],_,_,k,h=>by cases h
 |x::xs,y::ys,ay,h,k,ae=>by
  have az:=h 0 (by simp) (by simp);simp only[uW]at az;rw[j3]at ae |-;rcases cF.1 ae with ae | ae
  ·rcases az.2 k ae with aa | ⟨aa,ab⟩
   ·exact .inl (iD _ aa)
   ·exact .inr ⟨iD _ aa,ab⟩
  ·rw[az.1]at ae;cases bb:y.1.z with
   |false=>rw[bb]at ae;cases ae
   |true=>
    rw[bb]at ae;rcases ade (xs:=xs) (ys:=ys) (by simpa using ay) (λi g dM=>by
     have aa:=h (i+1) (by simp;omega) (by simp;omega);simpa only[GX]using aa) k ae with aa | ⟨aa,ab⟩
    ·exact .inl (oY _ aa)
    ·exact .inr ⟨oY _ aa,ab⟩
structure xp(a:Nat)(lO:List Nat)(sf:Bool)(x y:vS):Prop where
 bj:x.1.1=y.1.1
 T4:∀ k∈x.1.2,k∈y.1.2\/(a∈y.1.2/\k∈lO)
 fh:x.2=true->y.2=true\/sf=true
def ap9{a b:Bool}(h:(a||b)=true):a=true\/b=true:=by cases a<;>simp_all
end Go.V
